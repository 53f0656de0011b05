/-
  Parts of the proof: Log14, Door, Bnd2.
-/
import Derived.Test.YtfgopboddkhckaaGreatDoorKw15
import Derived.Test.YtfgopboddkhckaaGreatDoorCards
import Derived.Test.YtfgopboddkhckaaGreatDoorTie
import Derived.Lay
import Derived.HandedShaped
import Derived.LaidMore
import Derived.LaidLaws
import Derived.SevenTiedAt
import Derived.Stop.Joined
namespace Go.Proofs.YtfgopboddkhckaaGreatDoor
open Go.ChangeShapes Go.WideShapes Go.ChangeAt Go.RowKit Go.Sort
set_option linter.unusedVariables false
set_option maxRecDepth 100000
attribute [local go_sem ↓] Go.wp_at_zero Go.wp_at_succ
def mAdded (s : ByteArray) (es : List EN) (st : Int) (o : EN) : ByteArray × Int :=
 bif vEn o then (if o.day < lday es then (⟨#[]⟩, 6) else if 4000 < s.size + (lnb (stpb st (wrb o)) o).size then (⟨#[]⟩, 5) else (s ++ lnb (stpb st (wrb o)) o, 0)) else (⟨#[]⟩, 7)
def mAddEntry (s : ByteArray) (o : EN) : ByteArray × Int := if lgC s = 0 then mAdded s (lgE s) (lgS s) o else (⟨#[]⟩, lgC s)
theorem lgS_bd (s : ByteArray) : 0 ≤ lgS s ∧ lgS s ≤ 65518 := by
 by_cases h : lgC s = 0
 · rw [(lg_yes h).2.1]; exact (rdLog_le s).2.2
 · rw [(lg_no h).2.1]; omega
set_option maxHeartbeats 3200000 in
theorem spec_AddEntry (s : ByteArray) (v : Value) (o : EN) (w : World) (hs : s.size ≤ 1048576) (ha : REN w v o) (hsm : SmEN o) (_ : Env w) :
   Calls Tryz.prog 119 #[.string s, v] w (Ret (.tuple #[.string (mAddEntry s o).1, .int .i64 (mAddEntry s o).2]) w) := by
 obtain rfl : v = _ := ha
 have HC := Lib.hid (spec_Code s hs (w.alloc (.cells #[.int .i64 o.day, .string o.what, .int .i64 o.val] 130)))
 have HP := Lib.hid (pEN_box w o 130)
 have HSM := Lib.hid hsm
 clear hsm
 go_enter Tryz.func119, Tryz.ntmps119
 go_wp2_with fail
 refine (show Calls _ _ _ _ _ from HC.out).mono ?_
 rintro e w2 ⟨g, A, c, rfl, hR, hb⟩
 have HR := Lib.hid hR
 have HW : Hid (Below w.heap.size w w2) := Lib.hid (ext_trans (ext_alloc1 _ _) hb)
 replace HP := Lib.hid (HP.out.ext hb)
 clear hR hb HC
 by_cases h0 : lgC s = 0
 · have HM : Hid (mAddEntry s o = mAdded s (lgE s) (lgS s) o) := Lib.hid (by unfold mAddEntry; rw [if_pos h0])
   have HL := Lib.hid (lg_yes h0)
   have H0 := Lib.hid h0
   rw [h0]
   clear h0
   have hsb := lgS_bd s
   have hRR := HR.out H0.out
   rw [← HL.out.1, ← HL.out.2.1] at hRR
   have HRR := Lib.hid hRR
   clear hRR HL HR
   obtain ⟨es, hes⟩ : ∃ es, lgE s = es := ⟨_, rfl⟩
   obtain ⟨st, hst⟩ : ∃ st, lgS s = st := ⟨_, rfl⟩
   rw [hes, hst] at HRR HM
   rw [hst] at hsb
   clear hes hst
   have HOK := Lib.hid (spec_okEn ⟨w.heap.size, 0, none⟩ o w2 (sm_len HSM.out) HP.out)
   go_wp2_with fail
   refine (show Calls _ _ _ _ _ from HOK.out).mono ?_
   rintro e w3 ⟨rfl, rfl⟩
   cases hv : vEn o with
   | false =>
     have HF : Hid (mAddEntry s o = (⟨#[]⟩, 7)) := Lib.hid (by rw [HM.out]; unfold mAdded; rw [hv]; rfl)
     clear hv
     go_wp2_with fail
     go_ret2
     rw [HF.out]
     exact ⟨rfl, HW.out⟩
   | true =>
   have HV := Lib.hid hv
   clear hv
   have HDY : Hid (∀ d os, Calls Tryz.prog 179 #[.pointer (some ⟨g, 0, none⟩)] (grow (redrawn w2 d) os) (Ret (.int .i64 (lday es)) (grow (redrawn w2 d) os))) := Lib.hid fun d os => spec_rday _ g s es st _ A c _ (HRR.out.ext (below_regrown _ _ _))
   have p0 := fun d os => cell_regrown (d := d) (os := os) HP.out.1
   by_cases hd : o.day < lday es
   · have HF : Hid (mAddEntry s o = (⟨#[]⟩, 6)) := Lib.hid (by rw [HM.out]; unfold mAdded; rw [HV.out, cond_true, if_pos hd])
     have e8 : decide (o.day < lday es) = true := decide_eq_true hd
     clear hd
     go_wp2_with fail
     refine wp_region_quiet_below (by kernel_rfl) (by kernel_rfl) ?_
     repeat (go_big_quiet_step ((go_at_call 179; exact regrown_r (HDY.out _ _))))
     refine wpQuiet_nil ?_
     intro w' hw'
     obtain ⟨p, rfl⟩ := hw'
     go_wp2_with fail
     go_ret2
     rw [HF.out]
     exact ⟨rfl, ext_trans HW.out (below_regrown _ _ _)⟩
   have HDN := Lib.hid hd
   have e8 : decide (o.day < lday es) = false := decide_eq_false hd
   clear hd
   go_wp2_with fail
   refine wp_region_quiet_below (by kernel_rfl) (by kernel_rfl) ?_
   repeat (go_big_quiet_step ((go_at_call 179; exact regrown_r (HDY.out _ _))))
   refine wpQuiet_nil ?_
   intro w' hw'
   obtain ⟨p, rfl⟩ := hw'
   replace HW := Lib.hid (ext_trans HW.out (below_regrown w2 p.d p.os))
   replace HP := Lib.hid (HP.out.ext (below_regrown w2 p.d p.os))
   replace HRR := Lib.hid (HRR.out.ext (below_regrown w2 p.d p.os))
   clear p0 e8 HDY HOK
   generalize grow (redrawn w2 p.d) p.os = w5 at *
   have hs2 := stpb_bd st (wrb o)
   have HWD : Hid (∀ d os, Calls Tryz.prog 126 #[.pointer (some ⟨w.heap.size, 0, none⟩)] (grow (redrawn w5 d) os) (Ret (.string (wrb o)) (grow (redrawn w5 d) os))) := Lib.hid fun d os => spec_words ⟨w.heap.size, 0, none⟩ o _ HV.out (HP.out.ext (below_regrown _ _ _))
   have HST : Hid (∀ w, Calls Tryz.prog 181 #[.int .i64 st, .string (wrb o)] w (RetP (.int .i64 (stpb st (wrb o))) w)) := Lib.hid fun w => spec_stamp st (wrb o) hsb.1 hsb.2 (by have := wrb_size HV.out; unfold maxLen; omega) w
   have HLI : Hid (∀ d os, Calls Tryz.prog 180 #[.int .i64 (stpb st (wrb o)), .pointer (some ⟨w.heap.size, 0, none⟩)] (grow (redrawn w5 d) os) (Ret (.string (lnb (stpb st (wrb o)) o)) (grow (redrawn w5 d) os))) := Lib.hid fun d os => spec_line _ ⟨w.heap.size, 0, none⟩ o _ hs2.1 hs2.2 HV.out (HP.out.ext (below_regrown _ _ _))
   have hll := lnb_size HV.out hs2.1 hs2.2
   have x2 := fun d os => cell_regrown (d := d) (os := os) HRR.out.h2
   obtain ⟨ln, hln⟩ : ∃ ln, lnb (stpb st (wrb o)) o = ln := ⟨_, rfl⟩
   have HLN := Lib.hid hln
   rw [hln] at HLI hll
   clear hln hs2
   have hcat : ¬ 9223372036854775807 < s.size + ln.size := by omega
   go_wp2_with fail
   refine wp_region_quiet_below (by kernel_rfl) (by kernel_rfl) ?_
   repeat (go_big_quiet_step ((first | (go_at_call 126; exact regrown_r (HWD.out _ _)) | (go_at_call 181; exact regrown_p (HST.out _)) | (go_at_call 180; exact regrown_r (HLI.out _ _)))))
   refine wpQuiet_nil ?_
   intro w' hw'
   obtain ⟨p, rfl⟩ := hw'
   replace HW := Lib.hid (ext_trans HW.out (below_regrown w5 p.d p.os))
   clear x2 HWD HST HLI
   by_cases hbig : 4000 < s.size + ln.size
   · have HF : Hid (mAddEntry s o = (⟨#[]⟩, 5)) := Lib.hid (by rw [HM.out]; unfold mAdded; rw [HV.out, cond_true, if_neg (by have := HDN.out; omega), HLN.out, if_pos hbig])
     have f1 : (4000 : Int) < (s.size : Int) + ln.size := by omega
     go_wp2_with fail
     go_ret2
     rw [HF.out]
     exact ⟨rfl, HW.out⟩
   · have HF : Hid (mAddEntry s o = (s ++ ln, 0)) := Lib.hid (by rw [HM.out]; unfold mAdded; rw [HV.out, cond_true, if_neg (by have := HDN.out; omega), HLN.out, if_neg hbig])
     have f1 : ¬ (4000 : Int) < (s.size : Int) + ln.size := by omega
     go_wp2_with fail
     go_ret2
     rw [HF.out]
     exact ⟨rfl, HW.out⟩
 · have HM : Hid (mAddEntry s o = (⟨#[]⟩, lgC s)) := Lib.hid (by unfold mAddEntry; rw [if_neg h0])
   have e1 : (lgC s != 0) = true := by simpa using h0
   clear h0
   go_wp2_with fail
   go_ret2
   rw [HM.out]
   exact ⟨rfl, HW.out⟩
theorem add_eq (s : ByteArray) (st : Int) (o : EN) : s ++ (wrb o ++ ⟨#[32]⟩ ++ itb (stpb st (wrb o)) ++ ⟨#[10]⟩) = s ++ lnb (stpb st (wrb o)) o := by rw [lnb_eq]
set_option maxHeartbeats 6400000 in
theorem impl_added (s : ByteArray) (es : List EN) (st n : Int) (A : Option Addr) (c : Nat) (o : EN) (w : World) (hs : s.size ≤ 1048576) (hR : RENS w (.slice A es.length c) es) (hlen : es.length ≤ 4000) (hst : 0 ≤ st ∧ st ≤ 65518) (ho : LenEN o) (hL : LayF w) :
   Calls Tryz.prog 166 #[.string s, .agg #[.slice A es.length c, .int .i64 st, .int .i64 n], .agg #[.int .i64 o.day, .string o.what, .int .i64 o.val]] w (Ret (.tuple #[.string (mAdded s es st o).1, .int .i64 (mAdded s es st o).2]) w) := by
 have HOK := Lib.hid (fun w => impl_okEn (.agg #[.int .i64 o.day, .string o.what, .int .i64 o.val]) o w ho rfl)
 have HLL := Lib.hid hL
 have HRR := Lib.hid hR
 have HBX := Lib.hid (fun W' h => box3 w (.slice A es.length c) (.int .i64 st) (.int .i64 n) 135 W' h)
 have HBE := Lib.hid (pEN_box (w.alloc (.cells #[.slice A es.length c, .int .i64 st, .int .i64 n] 135)) o 130)
 clear ho hL hR
 go_enter Tryz.func166, Tryz.ntmps166
 go_wp2_with fail
 refine (show Calls _ _ _ _ _ from HOK.out _).mono ?_
 rintro e w1 ⟨rfl, hb1⟩
 have HW : Hid (Below w.heap.size w w1) := Lib.hid (ext_trans (ext_alloc (ext_alloc1 _ _) _) hb1)
 have hbx := HBX.out w1 (ext_trans (ext_alloc1 _ _) hb1)
 have HX0 := Lib.hid hbx.1
 have HX1 := Lib.hid hbx.2.1
 have HPE : Hid (PEN w1 ⟨w.heap.size + 1, 0, none⟩ o) := Lib.hid (by
   have h := HBE.out.ext hb1
   simp only [World.size_alloc] at h
   exact h)
 have HA := Lib.hid (HRR.out.ext HW.out)
 clear hbx hb1 HBX HBE HRR
 cases hv : vEn o with
 | false =>
   have HF : Hid (mAdded s es st o = (⟨#[]⟩, 7)) := Lib.hid (by unfold mAdded; rw [hv]; rfl)
   clear hv
   go_wp2_with fail
   go_ret2
   rw [HF.out]
   exact ⟨rfl, HW.out⟩
 | true =>
 have HV := Lib.hid hv
 have hday := (vEn_iff.1 hv).1
 clear hv
 have x0 := fun d os => cell_regrown (d := d) (os := os) HX0.out
 have p0 := fun d os => cell_regrown (d := d) (os := os) HPE.out.1
 by_cases h0 : es.length = 0
 · have hes0 : es = [] := List.eq_nil_of_length_eq_zero h0
   subst hes0
   have HDN : Hid (lday ([] : List EN) ≤ o.day) := Lib.hid hday.1
   clear hday h0
   go_wp2_with fail
   refine wp_region_quiet_below (by kernel_rfl) (by kernel_rfl) ?_
   repeat (go_big_quiet_step (fail))
   refine wpQuiet_nil ?_
   intro w' hw'
   obtain ⟨p, rfl⟩ := hw'
   clear x0 p0
   replace HW := Lib.hid (ext_trans HW.out (below_regrown w1 p.d p.os))
   replace HPE := Lib.hid (HPE.out.ext (below_regrown w1 p.d p.os))
   replace HX1 := Lib.hid (cell_keep HX1.out (below_regrown w1 p.d p.os))
   generalize grow (redrawn w1 p.d) p.os = w5 at *
   have hs2 := stpb_bd st (wrb o)
   have HWD : Hid (∀ d os, Calls Tryz.prog 102 #[.agg #[.int .i64 o.day, .string o.what, .int .i64 o.val]] (grow (redrawn w5 d) os) (Ret (.string (wrb o)) (grow (redrawn w5 d) os))) := Lib.hid fun d os => impl_words _ o _ HV.out rfl (HLL.out.ext (ext_trans HW.out (below_regrown _ _ _)))
   have HST : Hid (∀ d os, Calls Tryz.prog 168 #[.int .i64 st, .agg #[.int .i64 o.day, .string o.what, .int .i64 o.val]] (grow (redrawn w5 d) os) (Ret (.int .i64 (stpb st (wrb o))) (grow (redrawn w5 d) os))) := Lib.hid fun d os => impl_stamp st _ o _ hst.1 hst.2 HV.out rfl (HLL.out.ext (ext_trans HW.out (below_regrown _ _ _)))
   have HDC : Hid (∀ d os, Calls Tryz.prog 54 #[.int .i64 (stpb st (wrb o))] (grow (redrawn w5 d) os) (Ret (.string (itb (stpb st (wrb o)))) (grow (redrawn w5 d) os))) := Lib.hid fun d os => impl_Dec _ (by omega) (by omega) _ (HLL.out.ext (ext_trans HW.out (below_regrown _ _ _)))
   have hll := lnb_size HV.out hs2.1 hs2.2
   have hw1 := wrb_size HV.out
   have hi1 := itb_size (stpb st (wrb o)) (by omega) (by omega)
   have x2 := fun d os => cell_regrown (d := d) (os := os) HX1.out
   have p0 := fun d os => cell_regrown (d := d) (os := os) HPE.out.1
   have p1 := fun d os => cell_regrown (d := d) (os := os) HPE.out.2.1
   have p2 := fun d os => cell_regrown (d := d) (os := os) HPE.out.2.2
   have HAE := Lib.hid (add_eq s st o)
   have HLZ : Hid ((lnb (stpb st (wrb o)) o).size = (wrb o).size + 1 + (itb (stpb st (wrb o))).size + 1) := Lib.hid (by rw [← lnb_eq]; simp [ByteArray.size_append]; rfl)
   obtain ⟨st2, hst2⟩ : ∃ st2, stpb st (wrb o) = st2 := ⟨_, rfl⟩
   have HS2 := Lib.hid hst2
   rw [hst2] at HDC HST hi1 HAE HLZ hll
   clear hst2 hs2
   have hc1 : ¬ 9223372036854775807 < (wrb o).size + 1 := by omega
   have hc2 : ¬ 9223372036854775807 < (wrb o).size + 1 + (itb st2).size := by omega
   have hc3 : ¬ 9223372036854775807 < (wrb o).size + 1 + (itb st2).size + 1 := by omega
   have hc4 : ¬ 9223372036854775807 < s.size + ((wrb o).size + 1 + (itb st2).size + 1) := by omega
   go_wp2_with fail
   refine wp_region_quiet_below (by kernel_rfl) (by kernel_rfl) ?_
   repeat (go_big_quiet_step ((first | (go_at_call 102; exact regrown_r (HWD.out _ _)) | (go_at_call 168; exact regrown_r (HST.out _ _)) | (go_at_call 54; exact regrown_r (HDC.out _ _)))))
   refine wpQuiet_nil ?_
   intro w' hw'
   obtain ⟨p, rfl⟩ := hw'
   replace HW := Lib.hid (ext_trans HW.out (below_regrown w5 p.d p.os))
   clear x2 p0 p1 p2 HWD HST HDC
   by_cases hbig : 4000 < s.size + ((wrb o).size + 1 + (itb st2).size + 1)
   · have HF : Hid (mAdded s ([] : List EN) st o = (⟨#[]⟩, 5)) := Lib.hid (by unfold mAdded; rw [HV.out, cond_true, if_neg (by have := HDN.out; omega), HS2.out, if_pos (by rw [HLZ.out]; exact hbig)])
     have f1 : (4000 : Int) < (s.size : Int) + (((wrb o).size : Int) + 1 + (itb st2).size + 1) := by omega
     go_wp2_with fail
     go_ret2
     rw [HF.out]
     exact ⟨rfl, HW.out⟩
   · have HF : Hid (mAdded s ([] : List EN) st o = (s ++ lnb st2 o, 0)) := Lib.hid (by unfold mAdded; rw [HV.out, cond_true, if_neg (by have := HDN.out; omega), HS2.out, if_neg (by rw [HLZ.out]; exact hbig)])
     have f1 : ¬ (4000 : Int) < (s.size : Int) + (((wrb o).size : Int) + 1 + (itb st2).size + 1) := by omega
     go_wp2_with fail
     go_ret2
     rw [HF.out, ← HAE.out]
     exact ⟨rfl, HW.out⟩
 · obtain ⟨j, hj⟩ : ∃ j, es.length = j + 1 := ⟨es.length - 1, by omega⟩
   have HLG : Hid (lday es = (gd es j).day) := Lib.hid (by rw [lday_get (by omega), hj]; rfl)
   obtain ⟨ad, rfl, _, hc⟩ := HA.out.at (show j < es.length by omega)
   have y0 := fun d os => cell_regrown (d := d) (os := os) (hc j (by omega)).1
   have f1 : (0 : Int) < (es.length : Int) := by omega
   have f8 : decide (0 < es.length) = true := decide_eq_true (by omega)
   have f9 : 0 < es.length := by omega
   have f2 : (es.length : Int) - 1 = j := by omega
   have f3 : (0 : Int) ≤ j := by omega
   have f4 : (j : Int) < (es.length : Int) := by omega
   have f5 : IntKind.i64.wrap (j : Int) = j := IntWalk.i64_in _ (by omega)
   have f6 : (j : Int).toNat = j := by omega
   clear hc h0 hj hday
   by_cases hd : o.day < (gd es j).day
   · have HF : Hid (mAdded s es st o = (⟨#[]⟩, 6)) := Lib.hid (by unfold mAdded; rw [HV.out, cond_true, if_pos (by rw [HLG.out]; exact hd)])
     have f7 : decide ((gd es j).day > o.day) = true := decide_eq_true hd
     clear hd
     go_wp2_with fail
     refine wp_region_quiet_below (by kernel_rfl) (by kernel_rfl) ?_
     repeat (go_big_quiet_step (fail))
     refine wpQuiet_nil ?_
     intro w' hw'
     obtain ⟨p, rfl⟩ := hw'
     go_wp2_with fail
     go_ret2
     rw [HF.out]
     exact ⟨rfl, ext_trans HW.out (below_regrown _ _ _)⟩
   have f7 : decide ((gd es j).day > o.day) = false := decide_eq_false hd
   have HDN : Hid (lday es ≤ o.day) := Lib.hid (by rw [HLG.out]; omega)
   clear hd
   go_wp2_with fail
   refine wp_region_quiet_below (by kernel_rfl) (by kernel_rfl) ?_
   repeat (go_big_quiet_step (fail))
   refine wpQuiet_nil ?_
   intro w' hw'
   obtain ⟨p, rfl⟩ := hw'
   clear x0 p0 y0 f1 f8 f9 f2 f3 f4 f5 f6 f7
   replace HW := Lib.hid (ext_trans HW.out (below_regrown w1 p.d p.os))
   replace HPE := Lib.hid (HPE.out.ext (below_regrown w1 p.d p.os))
   replace HX1 := Lib.hid (cell_keep HX1.out (below_regrown w1 p.d p.os))
   generalize grow (redrawn w1 p.d) p.os = w5 at *
   have hs2 := stpb_bd st (wrb o)
   have HWD : Hid (∀ d os, Calls Tryz.prog 102 #[.agg #[.int .i64 o.day, .string o.what, .int .i64 o.val]] (grow (redrawn w5 d) os) (Ret (.string (wrb o)) (grow (redrawn w5 d) os))) := Lib.hid fun d os => impl_words _ o _ HV.out rfl (HLL.out.ext (ext_trans HW.out (below_regrown _ _ _)))
   have HST : Hid (∀ d os, Calls Tryz.prog 168 #[.int .i64 st, .agg #[.int .i64 o.day, .string o.what, .int .i64 o.val]] (grow (redrawn w5 d) os) (Ret (.int .i64 (stpb st (wrb o))) (grow (redrawn w5 d) os))) := Lib.hid fun d os => impl_stamp st _ o _ hst.1 hst.2 HV.out rfl (HLL.out.ext (ext_trans HW.out (below_regrown _ _ _)))
   have HDC : Hid (∀ d os, Calls Tryz.prog 54 #[.int .i64 (stpb st (wrb o))] (grow (redrawn w5 d) os) (Ret (.string (itb (stpb st (wrb o)))) (grow (redrawn w5 d) os))) := Lib.hid fun d os => impl_Dec _ (by omega) (by omega) _ (HLL.out.ext (ext_trans HW.out (below_regrown _ _ _)))
   have hll := lnb_size HV.out hs2.1 hs2.2
   have hw1 := wrb_size HV.out
   have hi1 := itb_size (stpb st (wrb o)) (by omega) (by omega)
   have x2 := fun d os => cell_regrown (d := d) (os := os) HX1.out
   have p0 := fun d os => cell_regrown (d := d) (os := os) HPE.out.1
   have p1 := fun d os => cell_regrown (d := d) (os := os) HPE.out.2.1
   have p2 := fun d os => cell_regrown (d := d) (os := os) HPE.out.2.2
   have HAE := Lib.hid (add_eq s st o)
   have HLZ : Hid ((lnb (stpb st (wrb o)) o).size = (wrb o).size + 1 + (itb (stpb st (wrb o))).size + 1) := Lib.hid (by rw [← lnb_eq]; simp [ByteArray.size_append]; rfl)
   obtain ⟨st2, hst2⟩ : ∃ st2, stpb st (wrb o) = st2 := ⟨_, rfl⟩
   have HS2 := Lib.hid hst2
   rw [hst2] at HDC HST hi1 HAE HLZ hll
   clear hst2 hs2
   have hc1 : ¬ 9223372036854775807 < (wrb o).size + 1 := by omega
   have hc2 : ¬ 9223372036854775807 < (wrb o).size + 1 + (itb st2).size := by omega
   have hc3 : ¬ 9223372036854775807 < (wrb o).size + 1 + (itb st2).size + 1 := by omega
   have hc4 : ¬ 9223372036854775807 < s.size + ((wrb o).size + 1 + (itb st2).size + 1) := by omega
   go_wp2_with fail
   refine wp_region_quiet_below (by kernel_rfl) (by kernel_rfl) ?_
   repeat (go_big_quiet_step ((first | (go_at_call 102; exact regrown_r (HWD.out _ _)) | (go_at_call 168; exact regrown_r (HST.out _ _)) | (go_at_call 54; exact regrown_r (HDC.out _ _)))))
   refine wpQuiet_nil ?_
   intro w' hw'
   obtain ⟨p, rfl⟩ := hw'
   replace HW := Lib.hid (ext_trans HW.out (below_regrown w5 p.d p.os))
   clear x2 p0 p1 p2 HWD HST HDC
   by_cases hbig : 4000 < s.size + ((wrb o).size + 1 + (itb st2).size + 1)
   · have HF : Hid (mAdded s es st o = (⟨#[]⟩, 5)) := Lib.hid (by unfold mAdded; rw [HV.out, cond_true, if_neg (by have := HDN.out; omega), HS2.out, if_pos (by rw [HLZ.out]; exact hbig)])
     have f1 : (4000 : Int) < (s.size : Int) + (((wrb o).size : Int) + 1 + (itb st2).size + 1) := by omega
     go_wp2_with fail
     go_ret2
     rw [HF.out]
     exact ⟨rfl, HW.out⟩
   · have HF : Hid (mAdded s es st o = (s ++ lnb st2 o, 0)) := Lib.hid (by unfold mAdded; rw [HV.out, cond_true, if_neg (by have := HDN.out; omega), HS2.out, if_neg (by rw [HLZ.out]; exact hbig)])
     have f1 : ¬ (4000 : Int) < (s.size : Int) + (((wrb o).size : Int) + 1 + (itb st2).size + 1) := by omega
     go_wp2_with fail
     go_ret2
     rw [HF.out, ← HAE.out]
     exact ⟨rfl, HW.out⟩
set_option maxHeartbeats 3200000 in
theorem impl_AddEntry (s : ByteArray) (v : Value) (o : EN) (w : World) (hs : s.size ≤ 1048576) (ha : REN w v o) (hsm : SmEN o) (hE : Env w) :
   Calls Tryz.prog 98 #[.string s, v] w (Ret (.tuple #[.string (mAddEntry s o).1, .int .i64 (mAddEntry s o).2]) w) := by
 obtain rfl : v = _ := ha
 have HC := Lib.hid (impl_logCode s hs (w.alloc (.cells #[.int .i64 o.day, .string o.what, .int .i64 o.val] 130)) (hE.ext (ext_alloc1 _ _)))
 have HP := Lib.hid (pEN_box w o 130)
 have HSM := Lib.hid hsm
 have HLL := Lib.hid hE.lay
 clear hsm hE
 go_enter Tryz.func98, Tryz.ntmps98
 go_wp2_with fail
 refine (show Calls _ _ _ _ _ from HC.out).mono ?_
 rintro e w2 ⟨A, c, rfl, hO, hb⟩
 have HO := Lib.hid hO
 have HW : Hid (Below w.heap.size w w2) := Lib.hid (ext_trans (ext_alloc1 _ _) hb)
 replace HP := Lib.hid (HP.out.ext hb)
 clear hO hb HC
 by_cases h0 : lgC s = 0
 · have HM : Hid (mAddEntry s o = mAdded s (lgE s) (lgS s) o) := Lib.hid (by unfold mAddEntry; rw [if_pos h0])
   rw [h0]
   clear h0
   have hbx := box3 w2 (.slice A (lgE s).length c) (.int .i64 (lgS s)) (.int .i64 (lgN s)) 135 _ (ext_refl _)
   have q0 := hbx.1
   have q1 := hbx.2.1
   have q2 := hbx.2.2.1
   have hpp := HP.out.ext (ext_alloc1 w2 (.cells #[.slice A (lgE s).length c, .int .i64 (lgS s), .int .i64 (lgN s)] 135))
   have r0 := hpp.1
   have r1 := hpp.2.1
   have r2 := hpp.2.2
   simp only [Nat.zero_add] at r0 r1 r2
   have HCA : Hid (∀ o', Calls Tryz.prog 166 #[.string s, .agg #[.slice A (lgE s).length c, .int .i64 (lgS s), .int .i64 (lgN s)], .agg #[.int .i64 o.day, .string o.what, .int .i64 o.val]] (w2.alloc o') (Ret (.tuple #[.string (mAdded s (lgE s) (lgS s) o).1, .int .i64 (mAdded s (lgE s) (lgS s) o).2]) (w2.alloc o'))) := Lib.hid fun o' => impl_added s (lgE s) (lgS s) (lgN s) A c o _ hs (HO.out.rd.ext (ext_alloc1 _ _)) (lgE_len s) (lgS_bd s) (sm_len HSM.out) (HLL.out.ext (ext_alloc HW.out _))
   clear hbx hpp
   go_wp2_with fail
   refine (show Calls _ _ _ _ _ from HCA.out _).mono ?_
   rintro e w3 ⟨rfl, hb3⟩
   have HW3 : Hid (Below w.heap.size w w3) := Lib.hid (ext_trans (ext_alloc HW.out _) hb3)
   clear hb3 q0 q1 q2 r0 r1 r2
   go_wp2_with fail
   go_ret2
   rw [HM.out]
   exact ⟨rfl, HW3.out⟩
 · have HM : Hid (mAddEntry s o = (⟨#[]⟩, lgC s)) := Lib.hid (by unfold mAddEntry; rw [if_neg h0])
   have e1 : (lgC s != 0) = true := by simpa using h0
   clear h0
   go_wp2_with fail
   go_ret2
   rw [HM.out]
   exact ⟨rfl, ext_alloc HW.out _⟩
end Go.Proofs.YtfgopboddkhckaaGreatDoor
namespace Go.Proofs.YtfgopboddkhckaaGreatDoor
open Go.ChangeShapes Go.WideShapes Go.ChangeAt Go.RowKit Go.Sort Go.Joins
set_option maxRecDepth 100000
theorem var_reads {P : Program} {w : World} : ∀ {l : List (String × DataW Unit)} {ps : List MemPlace}, DataW.LaidVars P w l ps → ∀ n d, (n, d) ∈ l →
   ∃ g t cs fuel p, P.globalNamed n = some g ∧ (P.globals[g]?).map (·.type) = some t ∧ w.var? P n = some cs ∧ DataW.trod (fun _ => ()) P w 0 (fun _ => true) false fuel t cs.toList = some (d, p)
 | [], _, _, _, _, hm => by cases hm
 | (n', d') :: r, ps, h, n, d, hm => by
   obtain ⟨g, t, cs, fuel, p, q, h1, h2, h3, h4, h5, _⟩ := h
   rcases List.mem_cons.1 hm with e | e
   · cases e
     exact ⟨g, t, cs, fuel, p, h1, h2, h3, h4⟩
   · exact var_reads h5 n d e
theorem g_pow : (Tryz.prog.globals[5]?).map (·.type) = some 269 := by kernel_rfl
theorem n_pow : Tryz.prog.globalNamed "internal/strconv.uint64pow10" = some 5 := by kernel_rfl
theorem layF_of {laid : List (String × DataW Unit)} {W : World} (h : laidMet Tryz.prog laid W) (hm : ("internal/strconv.uint64pow10", Rows.laid_internal_strconv_uint64pow10) ∈ laid) : LayF W := by
 obtain ⟨ps, hv, _⟩ := h
 obtain ⟨g, t, cs, fuel, p, h1, h2, h3, h4⟩ := var_reads hv _ _ hm
 obtain rfl := Option.some.inj (n_pow.symm.trans h1)
 obtain rfl := Option.some.inj (g_pow.symm.trans h2)
 have e : (Rows.laid_internal_strconv_uint64pow10 : DataW Unit) = Lib.tabData .u64 Lib.pow10Tab := by rfl
 rw [e] at h4
 have h5 := Lib.cells_of_tab Tryz.underlying269 Tryz.underlying140 (by kernel_rfl) (by kernel_rfl) h4
 unfold LayF Lib.TabIs
 rw [h3]
 exact congrArg some (Array.ext' (by rw [h5]))
theorem iface_of {laid : List (String × DataW Unit)} {W : World} (h : laidMet Tryz.prog laid W) {nm en : String} {d : DataW Unit} {g : Nat} (hn : Tryz.prog.globalNamed nm = some g) (hg : (Tryz.prog.globals[g]?).map (·.type) = some 105) (hm : (nm, .iface en d) ∈ laid) : ∃ tp p, W.var? Tryz.prog nm = some #[.iface tp p] := by
 obtain ⟨ps, hv, _⟩ := h
 obtain ⟨g', t, cs, fuel, p, h1, h2, h3, h4⟩ := var_reads hv _ _ hm
 obtain rfl := Option.some.inj (hn.symm.trans h1)
 obtain rfl := Option.some.inj (hg.symm.trans h2)
 obtain ⟨f1, u, v, he, _, _⟩ := iface_of_trod Tryz.underlying105 h4
 refine ⟨u, v, ?_⟩
 rw [h3]
 exact congrArg some (Array.ext' (by rw [he]))
theorem env_of {laid : List (String × DataW Unit)} {W : World} (h : laidMet Tryz.prog laid W) (hsh : W.ShapedOpen Tryz.prog) (hm : ("internal/strconv.uint64pow10", Rows.laid_internal_strconv_uint64pow10) ∈ laid)
   (h1 : ("strconv.ErrSyntax", Rows.laid_strconv_ErrSyntax) ∈ laid) (h2 : ("strconv.ErrRange", Rows.laid_strconv_ErrRange) ∈ laid) : Env W :=
 ⟨layF_of h hm, hsh, iface_of h (g := 3) (by kernel_rfl) (by kernel_rfl) h1, iface_of h (g := 4) (by kernel_rfl) (by kernel_rfl) h2⟩
theorem returns_door {H : Type} {enc : TypeId × Value → H} {a : Assume} {C : Checked} {os : Os} {f : FuncId} {fn : Func} {s : ChangeSpec} {conds : List PathCond} {apart fresh handsOn again : Bool} {X : World → Array Value → Prop}
   (hX : ∀ (w w' : World) (args : Array Value), w.heap = w'.heap → X w args → X w' args)
   (own : ownKnob C.prog.godebug = none) (started : os.Started) (noInit : C.prog.inits.idxOf? f = none) (hfn : C.prog.funcs[f]? = some fn)
   (witness : ∃ (w : World) (tape : Tape) (i : Input), w.os = os ∧ (w.forCall tape i).Shaped C.prog ∧ i.vars = [] ∧ Input.okWide C.prog (w.forCall tape i) .any w.heap.size f i ∧
     ((s.pre enc C.prog fn conds apart (w.forCall tape i).memory i.args ∧ X (w.forCall tape i).memory i.args) ∧ sizedMet enc C.prog fn (OpenSpec.ofChange s) apart (w.forCall tape i).memory i.args) ∧ a.holds C.prog (lone (Frame.enter C.prog f i.args .normal) [] (w.forCall tape i)))
   (contract : ∀ (W : World) (base : Nat) (args : Array Value) (ds gs : List (DataW H)) (before : List MemPlace),
     (∀ (j : Nat) t v, fn.params[j]? = some t → args[j]? = some v → Value.okWide C.prog W .any base t v) →
     DataW.Whole enc C.prog fn.params.toList s.vars apart W args.toList ds gs before → X W args → W.ShapedOpen C.prog →
     Calls C.prog f args W fun e W' => ∃ v, e = .returned v ∧ s.post enc C.prog fn apart fresh handsOn again W args v W') :
   ReturnsInHanded a C os f .any (fun w args => (s.pre enc C.prog fn conds apart w args ∧ X w args) ∧ sizedMet enc C.prog fn (OpenSpec.ofChange s) apart w args) (s.post enc C.prog fn apart fresh handsOn again) := by
 refine returnsInHanded_of_calls own started noInit witness ?_
 intro w tape i _ hsh _ hok hpre _
 obtain ⟨_, _, _, fn', hfn', _, _, _, _, hval⟩ := hok
 have e : fn' = fn := Option.some.inj (hfn'.symm.trans hfn)
 subst e
 obtain ⟨⟨⟨ds, gs, before, hw, hc⟩, hx⟩, hz⟩ := hpre
 have hw' := DataW.Whole.of_heap (w' := w.forCall tape i) (by rfl) hw
 refine (contract (w.forCall tape i) w.heap.size i.args ds gs before hval hw' (hX _ _ _ (by rfl) hx) hsh).mono fun e W' ⟨v, he, hp⟩ => ?_
 subst he
 exact ChangeSpec.post_blind hp
end Go.Proofs.YtfgopboddkhckaaGreatDoor
namespace Go.Proofs.YtfgopboddkhckaaGreatDoor
open Go.ChangeShapes Go.WideShapes Go.ChangeAt Go.RowKit Go.Sort Go.Joins
set_option linter.unusedVariables false
set_option maxRecDepth 100000
def cof (s : ByteArray) : CO := if (Lib.cut s.data.toList [43]).2.2 then ⟨⟨(Lib.cut s.data.toList [43]).1.toArray⟩, ⟨(Lib.cut s.data.toList [43]).2.1.toArray⟩⟩ else ⟨⟨#[]⟩, s⟩
theorem impl_courseOf (s : ByteArray) (hs : s.size ≤ 1048576) (w : World) (hsh : w.ShapedOpen Tryz.prog) :
   Calls Tryz.prog 171 #[.string s] w (Ret (.agg #[.string (cof s).lead, .string (cof s).cyc]) w) := by
 have HC := Lib.hid (fun w h => Tryz.strings_Cut_shaped s (ByteArray.mk #[43]) w h (by omega))
 have HS := Lib.hid hsh
 have HE : Hid (cof s = if (Lib.cut s.data.toList (ByteArray.mk #[43]).data.toList).2.2 then ⟨⟨(Lib.cut s.data.toList (ByteArray.mk #[43]).data.toList).1.toArray⟩, ⟨(Lib.cut s.data.toList (ByteArray.mk #[43]).data.toList).2.1.toArray⟩⟩ else ⟨⟨#[]⟩, s⟩) := Lib.hid rfl
 clear hsh
 generalize Lib.cut s.data.toList (ByteArray.mk #[43]).data.toList = q at *
 obtain ⟨a, b, c⟩ := q
 dsimp only at *
 generalize (ByteArray.mk a.toArray) = aa at *
 generalize (ByteArray.mk b.toArray) = bb at *
 go_enter Tryz.func171, Tryz.ntmps171
 go_wp2_with fail
 refine (show Calls _ _ _ _ _ from HC.out _ (shaped_ext HS.out (ext_alloc1 _ _))).mono ?_
 rintro e w1 ⟨rfl, n, rfl⟩
 cases c
 · have HE2 : Hid (cof s = ⟨⟨#[]⟩, s⟩) := Lib.hid HE.out
   go_wp2_with fail
   refine bodyPost_ret (v := .agg #[.string ⟨#[]⟩, .string s]) (by simp [results, Tryz.results171, go_sem]) rfl ⟨by rw [HE2.out], ?_⟩
   repeat (refine ext_set ?_ (by simp; try omega) _)
   exact ext_drewN (ext_alloc1 w _) _
 · have HE2 : Hid (cof s = ⟨aa, bb⟩) := Lib.hid HE.out
   go_wp2_with fail
   refine bodyPost_ret (v := .agg #[.string aa, .string bb]) (by simp [results, Tryz.results171, go_sem]) rfl ⟨by rw [HE2.out], ?_⟩
   repeat (refine ext_set ?_ (by simp; try omega) _)
   exact ext_drewN (ext_alloc1 w _) _
def btS (o : ByteArray) (c : CO) : ByteArray := (if c.lead.size = 0 then o ++ ⟨#[32]⟩ else (o ++ ⟨#[32]⟩) ++ (c.lead ++ ⟨#[43]⟩)) ++ c.cyc
def btK (nm : ByteArray) (cs : List CO) (k : Nat) : ByteArray := (cs.take k).foldl btS nm
theorem btK_succ (nm : ByteArray) {cs : List CO} {k : Nat} (hk : k < cs.length) : btK nm cs (k + 1) = btS (btK nm cs k) (gd cs k) := by
 unfold btK; rw [take_gd hk, List.foldl_append]; rfl
theorem vC_sizes {o : CO} (h : vC o = true) : o.lead.size ≤ 6 ∧ 1 ≤ o.cyc.size ∧ o.cyc.size ≤ 8 := by
 unfold vC at h
 simp only [Bool.and_eq_true, decide_eq_true_eq] at h
 have h2 := inB_iff.1 h.1.2
 omega
theorem btS_size {o : ByteArray} {c : CO} (h : vC c = true) : (btS o c).size ≤ o.size + 16 := by
 have h1 := vC_sizes h
 unfold btS
 have e1 : (⟨#[32]⟩ : ByteArray).size = 1 := rfl
 have e2 : (⟨#[43]⟩ : ByteArray).size = 1 := rfl
 split <;> simp only [ByteArray.size_append] <;> omega
theorem vB_all {nm : ByteArray} {cs : List CO} (h : vB nm cs = true) : isN nm = true ∧ 1 ≤ cs.length ∧ cs.length ≤ 8 ∧ ∀ k, k < cs.length → vC (gd cs k) = true := by
 unfold vB at h
 simp only [Bool.and_eq_true] at h
 have h2 := inB_iff.1 h.1.2
 exact ⟨h.1.1, by omega, by omega, fun k hk => List.all_eq_true.1 h.2 _ (gd_mem hk)⟩
theorem btK_size {nm : ByteArray} {cs : List CO} (h : vB nm cs = true) : ∀ k, k ≤ cs.length → (btK nm cs k).size ≤ 12 + 16 * k
 | 0, _ => by have := (isN_size (vB_all h).1).2; unfold btK; simpa using this
 | k + 1, hk => by
   have ih := btK_size h k (by omega)
   rw [btK_succ nm (by omega)]
   have := btS_size (o := btK nm cs k) ((vB_all h).2.2.2 k (by omega))
   omega
theorem emptS (t : ByteArray) : t.toList.isEmpty = decide (t.size = 0) := by
 rw [ByteArray.toList_eq]
 cases h : t.data.toList with
 | nil =>
   have : t.size = 0 := by rw [← size_toList, h]; rfl
   simp [this]
 | cons x y =>
   have : t.size ≠ 0 := by rw [← size_toList, h]; simp
   simp [this]
set_option maxHeartbeats 1600000 in
theorem impl_BondText_ok (A : Option Addr) (c : Nat) (nm : ByteArray) (cs : List CO) (w : World) (hn : nm.size ≤ maxLen) (hl : LenCOS cs) (ha : RCOS w (.slice A cs.length c) cs) (hv : vB nm cs = true) :
   Calls Tryz.prog 172 #[.agg #[.string nm, .slice A cs.length c]] w (Ret (.string (btK nm cs cs.length)) w) := by
 have HA := Lib.hid ha; clear ha
 have HV := Lib.hid hv
 have HVB := Lib.hid (fun w h => impl_ValidBond A c nm cs w hn hl h)
 have hcl := (vB_all hv).2.2.1
 rw [hv] at HVB
 clear hn hl hv
 go_enter Tryz.func172, Tryz.ntmps172
 go_wp2_with fail
 refine (show Calls _ _ _ _ _ from HVB.out _ (HA.out.alloc _)).mono ?_
 rintro e w1 ⟨rfl, hb⟩
 have k0 := cell_keep (p := ⟨w.heap.size, 0, none⟩) (v := .string nm) (by simp [go_sem]) hb
 have k1 := cell_keep (p := ⟨w.heap.size, 1, none⟩) (v := .slice A cs.length c) (by simp [go_sem]) hb
 have HB := Lib.hid (ext_trans (ext_alloc1 _ _) hb)
 clear hb
 go_wp2_with fail
 clear k0 k1
 go_loopw [3, 14] (fun u i wr => ∃ k : Nat, k ≤ cs.length ∧ i = .int .i64 k ∧ u = .string (btK nm cs k) ∧ Hid (Below w.heap.size w wr)) (fun _ i _ => cs.length - (intOf i).toNat)
 case atStart => exact ⟨0, Nat.zero_le _, rfl, rfl, HB⟩
 case round =>
   obtain ⟨k, hk, rfl, rfl, HBw⟩ := hrel
   have e1 : (0 : Int) ≤ k := by omega
   by_cases hlt : k < cs.length
   · have e2 : (k : Int) < cs.length := by omega
     obtain ⟨ad, rfl, _, hc⟩ := (HA.out.ext HBw.out).at hlt
     obtain ⟨p0, p1⟩ := hc k hlt
     clear hc
     have HS := Lib.hid (btK_succ nm hlt)
     have hz1 := btK_size HV.out k hk
     have hz2 := vC_sizes ((vB_all HV.out).2.2.2 k hlt)
     obtain ⟨t, ht⟩ : ∃ t, btK nm cs k = t := ⟨_, rfl⟩
     obtain ⟨o, ho⟩ : ∃ o, gd cs k = o := ⟨_, rfl⟩
     rw [ht] at HS hz1
     rw [ho] at HS hz2 p0 p1
     rw [ht]
     clear ht ho
     obtain ⟨a, b⟩ := o
     dsimp only at *
     have c1 : ¬ 9223372036854775807 < t.size + 1 := by omega
     have c2 : ¬ 9223372036854775807 < a.size + 1 := by omega
     have c3 : ¬ 9223372036854775807 < t.size + 1 + (a.size + 1) := by omega
     have c4 : ¬ 9223372036854775807 < t.size + 1 + (a.size + 1) + b.size := by omega
     have c5 : ¬ 9223372036854775807 < t.size + 1 + b.size := by omega
     clear hz1 hz2
     have hem := emptS a
     by_cases hz : a.size = 0
     · rw [decide_eq_true hz] at hem
       have HS2 : Hid (btK nm (cs) (k + 1) = (t ++ ⟨#[32]⟩) ++ b) := Lib.hid (by rw [HS.out]; unfold btS; rw [if_pos hz])
       clear hz
       go_wp2_with fail
       go_roundw
       case rel => exact ⟨k + 1, by omega, by go_num, by rw [HS2.out], Lib.hid (ext_trans HBw.out (ext_alloc1 _ _))⟩
       case measure => simp [intOf]; omega
     · rw [decide_eq_false hz] at hem
       have HS2 : Hid (btK nm (cs) (k + 1) = ((t ++ ⟨#[32]⟩) ++ (a ++ ⟨#[43]⟩)) ++ b) := Lib.hid (by rw [HS.out]; unfold btS; rw [if_neg hz])
       clear hz
       go_wp2_with fail
       go_roundw
       case rel => exact ⟨k + 1, by omega, by go_num, by rw [HS2.out], Lib.hid (ext_trans HBw.out (ext_alloc1 _ _))⟩
       case measure => simp [intOf]; omega
   · obtain rfl : k = cs.length := by omega
     have e2 : ¬ (cs.length : Int) < cs.length := by omega
     go_wp2_with fail
     go_ret
     exact ⟨rfl, HBw.out⟩
end Go.Proofs.YtfgopboddkhckaaGreatDoor
