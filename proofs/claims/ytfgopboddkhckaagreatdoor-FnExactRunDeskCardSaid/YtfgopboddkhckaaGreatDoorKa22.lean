/-
  Parts of the proof: Log12X, Log13X, Log14X, Bnd2X, Bnd5.
-/
import Derived.Test.YtfgopboddkhckaaGreatDoorKa3
import Derived.Test.YtfgopboddkhckaaGreatDoorKa4
import Derived.Test.YtfgopboddkhckaaGreatDoorKa5
import Derived.Test.YtfgopboddkhckaaGreatDoorKa6
import Derived.Test.YtfgopboddkhckaaGreatDoorKa12
import Derived.Test.YtfgopboddkhckaaGreatDoorKa13
import Derived.Test.YtfgopboddkhckaaGreatDoorKa14
import Derived.Test.YtfgopboddkhckaaGreatDoorKa21
import Derived.IntWalk
namespace Go.Proofs.YtfgopboddkhckaaGreatDoor
open Go.ChangeShapes Go.WideShapes Go.ChangeAt Go.RowKit Go.Sort
set_option linter.unusedVariables false
set_option maxRecDepth 100000
attribute [local go_sem ↓] Go.wp_at_zero Go.wp_at_succ

def SWhatP (s what : ByteArray) (w : World) : Ending → World → Prop := fun e w' =>
  ∃ g A c, e = .returned (.tuple #[.pointer (some ⟨g, 0, none⟩), .int .i64 (lwC s what)]) ∧ (lgC s = 0 → RR w' w.heap.size g s (rdLog s.data.toList).1 (rdLog s.data.toList).2.1 (rdLog s.data.toList).2.2 A c) ∧ Below w.heap.size w w'
set_option maxHeartbeats 1600000 in
theorem spec_What (s what : ByteArray) (hs : s.size ≤ 1048576) (hw : what.size ≤ 1048576) (w : World) :
    Calls Tryz.prog 182 #[.string s, .string what] w (SWhatP s what w) := by
  have HC := Lib.hid (spec_Code s hs w)
  have HN := Lib.hid (fun w => spec_IsName what (by unfold maxLen; omega) w)
  go_enter Tryz.func182, Tryz.ntmps182
  go_wp2_with fail
  refine (show Calls _ _ _ _ _ from HC.out).mono ?_
  rintro e w2 ⟨g, A, c, rfl, hR, hb⟩
  have HR := Lib.hid hR
  have HW := Lib.hid hb
  clear hR hb HC
  by_cases h0 : lgC s = 0
  · have HG := Lib.hid (lwC_yes (what := what) h0)
    rw [h0]
    have H0 := Lib.hid h0
    clear h0
    go_wp2_with fail
    refine (show Calls _ _ _ _ _ from HN.out _).mono ?_
    rintro e w3 ⟨rfl, rfl⟩
    cases hn : isN what with
    | true =>
      have HG2 : Hid (lwC s what = 0) := Lib.hid (by rw [HG.out, hn]; rfl)
      clear hn
      go_wp2_with fail
      go_ret2
      exact ⟨g, A, c, (by rw [HG2.out]; rfl), HR.out, HW.out⟩
    | false =>
      have HG2 : Hid (lwC s what = 2) := Lib.hid (by rw [HG.out, hn]; rfl)
      clear hn
      go_wp2_with fail
      go_ret2
      exact ⟨g, A, c, (by rw [HG2.out]; rfl), HR.out, HW.out⟩
  · have HG := Lib.hid (lwC_no (what := what) h0)
    have e1 : (lgC s == 0) = false := by simpa using h0
    clear h0
    go_wp2_with fail
    go_ret2
    exact ⟨g, A, c, (by rw [HG.out]; rfl), HR.out, HW.out⟩

end Go.Proofs.YtfgopboddkhckaaGreatDoor
namespace Go.Proofs.YtfgopboddkhckaaGreatDoor
open Go.ChangeShapes Go.WideShapes Go.ChangeAt Go.RowKit Go.Sort
set_option linter.unusedVariables false
set_option maxRecDepth 100000
attribute [local go_sem ↓] Go.wp_at_zero Go.wp_at_succ

set_option maxHeartbeats 3200000 in
theorem spec_ValuesOf (s what : ByteArray) (w : World) (hs : s.size ≤ 1048576) (hw : what.size ≤ 1048576) (_ : Env w) :
    Calls Tryz.prog 120 #[.string s, .string what] w (RetI (mValuesOf s what).1 (mValuesOf s what).2 w) := by
  have HC := Lib.hid (spec_What s what hs hw w)
  go_enter Tryz.func120, Tryz.ntmps120
  go_wp2_with fail
  refine (show Calls _ _ _ _ _ from HC.out).mono ?_
  rintro e w2 ⟨g, A, c, rfl, hR, hb⟩
  have HR := Lib.hid hR
  have HW := Lib.hid hb
  clear hR hb HC
  by_cases h0 : lwC s what = 0
  · have HM : Hid (mValuesOf s what = (valK (lgE s) what (lgE s).length, 0)) := Lib.hid (by unfold mValuesOf; rw [if_pos h0])
    have H0 : Hid (lgC s = 0) := Lib.hid (by
      by_cases h : lgC s = 0
      · exact h
      · rw [lwC_no h] at h0; exact absurd h0 h)
    rw [h0]
    clear h0
    have h1 := (lg_yes H0.out).1
    have r3 := (HR.out H0.out).h3
    have HA := Lib.hid (HR.out H0.out).own.rd
    rw [← h1] at r3 HA
    have hlen := lgE_len s
    clear h1
    obtain ⟨es, hes⟩ : ∃ es, lgE s = es := ⟨_, rfl⟩
    rw [hes] at r3 HA hlen HM
    clear hes
    have HR3 := Lib.hid r3
    go_wp2_with fail
    clear r3
    go_loopw [8, 9] (fun u i wr => ∃ (k : Nat) (l : List Int) (B : Option Addr) (cp : Nat), k ≤ es.length ∧ i = .int .i64 k ∧ u = .slice B l.length cp ∧ Hid (valK es what k = l) ∧ l.length ≤ k ∧ Hid (OI wr w2.heap.size (.slice B l.length cp) l) ∧ Hid (Below w2.heap.size w2 wr)) (fun _ i _ => es.length - (intOf i).toNat)
    case atStart => exact ⟨0, [], some ⟨w2.heap.size, 0, none⟩, 0, Nat.zero_le _, rfl, rfl, Lib.hid rfl, Nat.le_refl _, Lib.hid (oi_lit _ _ (Nat.le_refl _)), Lib.hid (ext_alloc1 _ _)⟩
    case round =>
      obtain ⟨k, l, B, cp, hk, rfl, rfl, HV, hlk, HO, HB⟩ := hrel
      have e1 : (0 : Int) ≤ k := by omega
      have r3 := cell_keep HR3.out HB.out
      have hsz := HB.out.size
      by_cases hlt : k < es.length
      · have e2 : (k : Int) < es.length := by omega
        obtain ⟨ad, rfl, _, hc⟩ := (HA.out.ext HB.out).at hlt
        obtain ⟨p0, p1, p2⟩ := hc k hlt
        clear hc p0
        by_cases hq : (gd es k).what = what
        · have HS : Hid (valK es what (k + 1) = l ++ [(gd es k).val]) := Lib.hid (by rw [valK_yes hlt hq, HV.out])
          rw [hq] at p1
          clear hq
          go_wp2_with (at_builtin; refine wpList_append_i rfl _ _ rfl w2.heap.size (.slice B l.length cp) l (gd es k).val rfl rfl HO.out (by omega) hsz ?_; intro g2 cap w4 hO4 hg4 hlt4)
          go_roundw
          case rel => exact ⟨k + 1, l ++ [(gd es k).val], some ⟨g2, 0, none⟩, cap, by omega, by go_num, by rw [List.length_append]; rfl, HS.out, by rw [List.length_append]; simp; omega, Lib.hid (by rw [List.length_append]; exact hO4), Lib.hid (Chg.ext HB.out hg4 (fun j hj => (HO.out.ge j hj).1))⟩
          case measure => simp [intOf]; omega
        · have hst := str_ne hq
          have HS : Hid (valK es what (k + 1) = l) := Lib.hid (by rw [valK_no hlt hq, HV.out])
          clear hq p2
          go_wp2_with fail
          go_roundw
          case rel => exact ⟨k + 1, l, B, cp, by omega, by go_num, rfl, HS.out, by omega, HO.out, HB.out⟩
          case measure => simp [intOf]; omega
      · obtain rfl : k = es.length := by omega
        go_wp2_with fail
        go_ret2
        unfold RetI
        rw [HM.out, HV.out]
        exact ⟨.slice B l.length cp, rfl, HO.out.mono HW.out.size, (show l.length ≤ 1048576 by omega), ext_trans HW.out HB.out⟩
  · have HM : Hid (mValuesOf s what = ([], lwC s what)) := Lib.hid (by unfold mValuesOf; rw [if_neg h0])
    have e2 : (lwC s what != 0) = true := by simpa using h0
    clear h0
    go_wp2_with fail
    go_ret2
    rw [HM.out]
    exact RetI.no HW.out
end Go.Proofs.YtfgopboddkhckaaGreatDoor
namespace Go.Proofs.YtfgopboddkhckaaGreatDoor
open Go.ChangeShapes Go.WideShapes Go.ChangeAt Go.RowKit Go.Sort
set_option linter.unusedVariables false
set_option maxRecDepth 100000
attribute [local go_sem ↓] Go.wp_at_zero Go.wp_at_succ

set_option maxHeartbeats 3200000 in
theorem spec_AddEntry (s : ByteArray) (v : Value) (o : EN) (w : World) (hs : s.size ≤ 1048576) (ha : REN w v o) (hsm : SmEN o) (_ : Env w) :
    Calls Tryz.prog 119 #[.string s, v] w (Ret (.tuple #[.string (mAddEntry s o).1, .int .i64 (mAddEntry s o).2]) w) := by
  obtain rfl : v = _ := ha
  have HC := Lib.hid (spec_Code s hs (w.alloc (.cells #[.int .i64 o.day, .string o.what, .int .i64 o.val] 130)))
  have HP := Lib.hid (pEN_box w o 130)
  have HSM := Lib.hid hsm
  clear hsm
  go_enter Tryz.func119, Tryz.ntmps119
  go_wp2_with fail
  refine (show Calls _ _ _ _ _ from HC.out).mono ?_
  rintro e w2 ⟨g, A, c, rfl, hR, hb⟩
  have HR := Lib.hid hR
  have HW : Hid (Below w.heap.size w w2) := Lib.hid (ext_trans (ext_alloc1 _ _) hb)
  replace HP := Lib.hid (HP.out.ext hb)
  clear hR hb HC
  by_cases h0 : lgC s = 0
  · have HM : Hid (mAddEntry s o = mAdded s (lgE s) (lgS s) o) := Lib.hid (by unfold mAddEntry; rw [if_pos h0])
    have HL := Lib.hid (lg_yes h0)
    have H0 := Lib.hid h0
    rw [h0]
    clear h0
    have hsb := lgS_bd s
    have hRR := HR.out H0.out
    rw [← HL.out.1, ← HL.out.2.1] at hRR
    have HRR := Lib.hid hRR
    clear hRR HL HR
    obtain ⟨es, hes⟩ : ∃ es, lgE s = es := ⟨_, rfl⟩
    obtain ⟨st, hst⟩ : ∃ st, lgS s = st := ⟨_, rfl⟩
    rw [hes, hst] at HRR HM
    rw [hst] at hsb
    clear hes hst
    have HOK := Lib.hid (spec_okEn ⟨w.heap.size, 0, none⟩ o w2 (sm_len HSM.out) HP.out)
    go_wp2_with fail
    refine (show Calls _ _ _ _ _ from HOK.out).mono ?_
    rintro e w3 ⟨rfl, rfl⟩
    cases hv : vEn o with
    | false =>
      have HF : Hid (mAddEntry s o = (⟨#[]⟩, 7)) := Lib.hid (by rw [HM.out]; unfold mAdded; rw [hv]; rfl)
      clear hv
      go_wp2_with fail
      go_ret2
      rw [HF.out]
      exact ⟨rfl, HW.out⟩
    | true =>
    have HV := Lib.hid hv
    clear hv
    have HDY : Hid (∀ d os, Calls Tryz.prog 179 #[.pointer (some ⟨g, 0, none⟩)] (grow (redrawn w2 d) os) (Ret (.int .i64 (lday es)) (grow (redrawn w2 d) os))) := Lib.hid fun d os => spec_rday _ g s es st _ A c _ (HRR.out.ext (below_regrown _ _ _))
    have p0 := fun d os => cell_regrown (d := d) (os := os) HP.out.1
    by_cases hd : o.day < lday es
    · have HF : Hid (mAddEntry s o = (⟨#[]⟩, 6)) := Lib.hid (by rw [HM.out]; unfold mAdded; rw [HV.out, cond_true, if_pos hd])
      have e8 : decide (o.day < lday es) = true := decide_eq_true hd
      clear hd
      go_wp2_with fail
      refine wp_region_quiet_below (by kernel_rfl) (by kernel_rfl) ?_
      repeat (go_big_quiet_step ((go_at_call 179; exact regrown_r (HDY.out _ _))))
      refine wpQuiet_nil ?_
      intro w' hw'
      obtain ⟨p, rfl⟩ := hw'
      go_wp2_with fail
      go_ret2
      rw [HF.out]
      exact ⟨rfl, ext_trans HW.out (below_regrown _ _ _)⟩
    have HDN := Lib.hid hd
    have e8 : decide (o.day < lday es) = false := decide_eq_false hd
    clear hd
    go_wp2_with fail
    refine wp_region_quiet_below (by kernel_rfl) (by kernel_rfl) ?_
    repeat (go_big_quiet_step ((go_at_call 179; exact regrown_r (HDY.out _ _))))
    refine wpQuiet_nil ?_
    intro w' hw'
    obtain ⟨p, rfl⟩ := hw'
    replace HW := Lib.hid (ext_trans HW.out (below_regrown w2 p.d p.os))
    replace HP := Lib.hid (HP.out.ext (below_regrown w2 p.d p.os))
    replace HRR := Lib.hid (HRR.out.ext (below_regrown w2 p.d p.os))
    clear p0 e8 HDY HOK
    generalize grow (redrawn w2 p.d) p.os = w5 at *
    have hs2 := stpb_bd st (wrb o)
    have HWD : Hid (∀ d os, Calls Tryz.prog 126 #[.pointer (some ⟨w.heap.size, 0, none⟩)] (grow (redrawn w5 d) os) (Ret (.string (wrb o)) (grow (redrawn w5 d) os))) := Lib.hid fun d os => spec_words ⟨w.heap.size, 0, none⟩ o _ HV.out (HP.out.ext (below_regrown _ _ _))
    have HST : Hid (∀ w, Calls Tryz.prog 181 #[.int .i64 st, .string (wrb o)] w (RetP (.int .i64 (stpb st (wrb o))) w)) := Lib.hid fun w => spec_stamp st (wrb o) hsb.1 hsb.2 (by have := wrb_size HV.out; unfold maxLen; omega) w
    have HLI : Hid (∀ d os, Calls Tryz.prog 180 #[.int .i64 (stpb st (wrb o)), .pointer (some ⟨w.heap.size, 0, none⟩)] (grow (redrawn w5 d) os) (Ret (.string (lnb (stpb st (wrb o)) o)) (grow (redrawn w5 d) os))) := Lib.hid fun d os => spec_line _ ⟨w.heap.size, 0, none⟩ o _ hs2.1 hs2.2 HV.out (HP.out.ext (below_regrown _ _ _))
    have hll := lnb_size HV.out hs2.1 hs2.2
    have x2 := fun d os => cell_regrown (d := d) (os := os) HRR.out.h2
    obtain ⟨ln, hln⟩ : ∃ ln, lnb (stpb st (wrb o)) o = ln := ⟨_, rfl⟩
    have HLN := Lib.hid hln
    rw [hln] at HLI hll
    clear hln hs2
    have hcat : ¬ 9223372036854775807 < s.size + ln.size := by omega
    go_wp2_with fail
    refine wp_region_quiet_below (by kernel_rfl) (by kernel_rfl) ?_
    repeat (go_big_quiet_step ((first | (go_at_call 126; exact regrown_r (HWD.out _ _)) | (go_at_call 181; exact regrown_p (HST.out _)) | (go_at_call 180; exact regrown_r (HLI.out _ _)))))
    refine wpQuiet_nil ?_
    intro w' hw'
    obtain ⟨p, rfl⟩ := hw'
    replace HW := Lib.hid (ext_trans HW.out (below_regrown w5 p.d p.os))
    clear x2 HWD HST HLI
    by_cases hbig : 4000 < s.size + ln.size
    · have HF : Hid (mAddEntry s o = (⟨#[]⟩, 5)) := Lib.hid (by rw [HM.out]; unfold mAdded; rw [HV.out, cond_true, if_neg (by have := HDN.out; omega), HLN.out, if_pos hbig])
      have f1 : (4000 : Int) < (s.size : Int) + ln.size := by omega
      go_wp2_with fail
      go_ret2
      rw [HF.out]
      exact ⟨rfl, HW.out⟩
    · have HF : Hid (mAddEntry s o = (s ++ ln, 0)) := Lib.hid (by rw [HM.out]; unfold mAdded; rw [HV.out, cond_true, if_neg (by have := HDN.out; omega), HLN.out, if_neg hbig])
      have f1 : ¬ (4000 : Int) < (s.size : Int) + ln.size := by omega
      go_wp2_with fail
      go_ret2
      rw [HF.out]
      exact ⟨rfl, HW.out⟩
  · have HM : Hid (mAddEntry s o = (⟨#[]⟩, lgC s)) := Lib.hid (by unfold mAddEntry; rw [if_neg h0])
    have e1 : (lgC s != 0) = true := by simpa using h0
    clear h0
    go_wp2_with fail
    go_ret2
    rw [HM.out]
    exact ⟨rfl, HW.out⟩
end Go.Proofs.YtfgopboddkhckaaGreatDoor
namespace Go.Proofs.YtfgopboddkhckaaGreatDoor
open Go.ChangeShapes Go.WideShapes Go.ChangeAt Go.RowKit Go.Sort Go.Joins
set_option linter.unusedVariables false
set_option maxRecDepth 100000

end Go.Proofs.YtfgopboddkhckaaGreatDoor
namespace Go.Proofs.YtfgopboddkhckaaGreatDoor
open Go.ChangeShapes Go.WideShapes Go.ChangeAt Go.RowKit Go.Sort Go.Joins
set_option linter.unusedVariables false
set_option maxRecDepth 100000

theorem OStr.opn {w : World} {base : Nat} {A : Option Addr} {n c : Nat} {l : List ByteArray} (h : OStr w base (.slice A n c) l) (hl : 0 < l.length) : ∃ g, A = some ⟨g, 0, none⟩ ∧ base ≤ g ∧ n = l.length ∧ ∀ k, k < l.length → w.cell? ⟨g, k, none⟩ = some (.string (gd l k)) := by
  have h1 := h
  rcases h1.2 with ⟨e, h0⟩ | ⟨g, cap, cur, e, hg, hh, hn, hm, hs, ht⟩
  · omega
  · injection e with e1 e2 e3
    subst e1 e2 e3
    obtain ⟨ad, ha, _, hc⟩ := h.rd.at hl
    injection ha with ha
    subst ha
    refine ⟨g, rfl, hg, rfl, fun k hk => ?_⟩
    have := hc k hk
    have e1 : (⟨g, 0, none⟩ : Addr).add k = ⟨g, k, none⟩ := by simp only [Addr.add, Nat.zero_add]; split <;> simp_all
    rwa [e1] at this
/-- The course of a word, by the reference. -/
def coW (s : ByteArray) : CO := if (spb 43 s).length = 2 then ⟨gd (spb 43 s) 0, gd (spb 43 s) 1⟩ else ⟨⟨#[]⟩, gd (spb 43 s) 0⟩
/-- A word without a problem. -/
def wG (s : ByteArray) : Bool := decide (1 ≤ (spb 43 s).length) && decide ((spb 43 s).length ≤ 2) && onl pcC (coW s).lead (coW s).lead.size && onl whC (coW s).cyc (coW s).cyc.size && decide ((coW s).cyc.size ≠ 0) && (decide ((spb 43 s).length = 1) || decide ((coW s).lead.size ≠ 0)) && decide ((coW s).lead.size ≤ 6) && decide ((coW s).cyc.size ≤ 8) && decide (s.size ≤ 1000)
set_option maxHeartbeats 3200000 in
theorem spec_word1 (s cyc : ByteArray) (w : World) (hps : spb 43 s = [cyc]) (g4 : onl whC cyc cyc.size = true) (g5 : cyc.size ≠ 0) (g8 : cyc.size ≤ 8) (g9 : s.size ≤ 1000) :
    Calls Tryz.prog 222 #[.string s] w (Ret (.tuple #[.agg #[.string ⟨#[]⟩, .string cyc], .int .i64 0]) w) := by
  have g7 : (⟨#[]⟩ : ByteArray).size ≤ 6 := Nat.zero_le _
  have g3 : onl pcC (⟨#[]⟩ : ByteArray) (⟨#[]⟩ : ByteArray).size = true := rfl
  have hem := emptS cyc
  rw [decide_eq_false g5] at hem
  have HC := Lib.hid (fun w => spec_Split s (by omega) 43 43 rfl w)
  rw [hps] at HC
  have HP := Lib.hid (fun w => spec_pieces (⟨#[]⟩ : ByteArray) (by unfold maxLen; omega) w)
  have HQ := Lib.hid (fun w => spec_plain cyc (by unfold maxLen; omega) w)
  rw [g3] at HP
  rw [g4] at HQ
  clear g3 g4 g9 hps
  go_enter Tryz.func222, Tryz.ntmps222
  go_wp2_with fail
  refine (show Calls _ _ _ _ _ from HC.out _).mono ?_
  rintro e w1 ⟨A, cp, rfl, hO, hb⟩
  obtain ⟨g, rfl, hg, _, hc⟩ := hO.opn (by simp)
  have r0 := cell_keep (p := ⟨w.heap.size, 0, none⟩) (v := .string ⟨#[]⟩) (by simp [go_sem]) hb
  have r1 := cell_keep (p := ⟨w.heap.size, 1, none⟩) (v := .string ⟨#[]⟩) (by simp [go_sem]) hb
  have rz : ∀ j, w1.frozen? ⟨w.heap.size, j, none⟩ = false := fun j => by rw [(bcell hb).2 _ _ (by simp)]; simp [go_sem]
  have rl : w.heap.size < w1.heap.size := by have := hb.size; simp at this; omega
  have HB := Lib.hid (ext_trans (ext_alloc1 _ _) hb)
  clear hb hO
  have hc0 : w1.cell? ⟨g, 0, none⟩ = some (.string cyc) := hc 0 (by simp)
  clear hc
  go_wp2_with fail
  refine (show Calls _ _ _ _ _ from HP.out _).mono ?_
  rintro e w2 ⟨rfl, rfl⟩
  go_wp2_with fail
  refine (show Calls _ _ _ _ _ from HQ.out _).mono ?_
  rintro e w2 ⟨rfl, rfl⟩
  go_wp2_with fail
  have u0 : (((w1.setCell ⟨w.heap.size, 0, none⟩ (.string (⟨#[]⟩ : ByteArray))).setCell ⟨w.heap.size, 1, none⟩ (.string cyc)).alloc (.cells #[.string (⟨#[]⟩ : ByteArray), .string cyc] 102)).cell? ⟨w.heap.size, 0, none⟩ = some (.string (⟨#[]⟩ : ByteArray)) := cell_keep (by simp [go_sem, r0]) (ext_alloc1 _ _)
  have u1 : (((w1.setCell ⟨w.heap.size, 0, none⟩ (.string (⟨#[]⟩ : ByteArray))).setCell ⟨w.heap.size, 1, none⟩ (.string cyc)).alloc (.cells #[.string (⟨#[]⟩ : ByteArray), .string cyc] 102)).cell? ⟨w.heap.size, 1, none⟩ = some (.string cyc) := cell_keep (by simp [go_sem, r1]) (ext_alloc1 _ _)
  refine bodyPost_ret (v := .tuple #[.agg #[.string (⟨#[]⟩ : ByteArray), .string cyc], .int .i64 0]) (by simp [results, Tryz.results222, go_sem, u0, u1]) rfl ⟨rfl, ?_⟩
  exact ext_alloc (ext_set (ext_set HB.out (Nat.le_refl _) _) (Nat.le_refl _) _) _
set_option maxHeartbeats 3200000 in
theorem spec_word2 (s lead cyc : ByteArray) (w : World) (hps : spb 43 s = [lead, cyc]) (g3 : onl pcC lead lead.size = true) (g4 : onl whC cyc cyc.size = true) (g5 : cyc.size ≠ 0) (g6 : lead.size ≠ 0) (g7 : lead.size ≤ 6) (g8 : cyc.size ≤ 8) (g9 : s.size ≤ 1000) :
    Calls Tryz.prog 222 #[.string s] w (Ret (.tuple #[.agg #[.string lead, .string cyc], .int .i64 0]) w) := by
  have hem := emptS cyc
  rw [decide_eq_false g5] at hem
  have hem2 := emptS lead
  rw [decide_eq_false g6] at hem2
  have HC := Lib.hid (fun w => spec_Split s (by omega) 43 43 rfl w)
  rw [hps] at HC
  have HP := Lib.hid (fun w => spec_pieces lead (by unfold maxLen; omega) w)
  have HQ := Lib.hid (fun w => spec_plain cyc (by unfold maxLen; omega) w)
  rw [g3] at HP
  rw [g4] at HQ
  clear g3 g4 g9 hps
  go_enter Tryz.func222, Tryz.ntmps222
  go_wp2_with fail
  refine (show Calls _ _ _ _ _ from HC.out _).mono ?_
  rintro e w1 ⟨A, cp, rfl, hO, hb⟩
  obtain ⟨g, rfl, hg, _, hc⟩ := hO.opn (by simp)
  have r0 := cell_keep (p := ⟨w.heap.size, 0, none⟩) (v := .string ⟨#[]⟩) (by simp [go_sem]) hb
  have r1 := cell_keep (p := ⟨w.heap.size, 1, none⟩) (v := .string ⟨#[]⟩) (by simp [go_sem]) hb
  have rz : ∀ j, w1.frozen? ⟨w.heap.size, j, none⟩ = false := fun j => by rw [(bcell hb).2 _ _ (by simp)]; simp [go_sem]
  have rl : w.heap.size < w1.heap.size := by have := hb.size; simp at this; omega
  have HB := Lib.hid (ext_trans (ext_alloc1 _ _) hb)
  clear hb hO
  have hc0 : w1.cell? ⟨g, 0, none⟩ = some (.string lead) := hc 0 (by simp)
  have hc1 : w1.cell? ⟨g, 1, none⟩ = some (.string cyc) := hc 1 (by simp)
  clear hc
  have hgl := block_lt_of_cell hc0
  have hgs : g ≠ w1.heap.size := Nat.ne_of_lt hgl
  go_wp2_with fail
  refine (show Calls _ _ _ _ _ from HP.out _).mono ?_
  rintro e w2 ⟨rfl, rfl⟩
  go_wp2_with fail
  refine (show Calls _ _ _ _ _ from HQ.out _).mono ?_
  rintro e w2 ⟨rfl, rfl⟩
  go_wp2_with fail
  have u0 : (((w1.setCell ⟨w.heap.size, 0, none⟩ (.string lead)).setCell ⟨w.heap.size, 1, none⟩ (.string cyc)).alloc (.cells #[.string lead, .string cyc] 102)).cell? ⟨w.heap.size, 0, none⟩ = some (.string lead) := cell_keep (by simp [go_sem, r0]) (ext_alloc1 _ _)
  have u1 : (((w1.setCell ⟨w.heap.size, 0, none⟩ (.string lead)).setCell ⟨w.heap.size, 1, none⟩ (.string cyc)).alloc (.cells #[.string lead, .string cyc] 102)).cell? ⟨w.heap.size, 1, none⟩ = some (.string cyc) := cell_keep (by simp [go_sem, r1]) (ext_alloc1 _ _)
  refine bodyPost_ret (v := .tuple #[.agg #[.string lead, .string cyc], .int .i64 0]) (by simp [results, Tryz.results222, go_sem, u0, u1]) rfl ⟨rfl, ?_⟩
  exact ext_alloc (ext_set (ext_set HB.out (Nat.le_refl _) _) (Nat.le_refl _) _) _

theorem spec_Word (s : ByteArray) (w : World) (hg : wG s = true) :
    Calls Tryz.prog 222 #[.string s] w (Ret (.tuple #[.agg #[.string (coW s).lead, .string (coW s).cyc], .int .i64 0]) w) := by
  unfold wG at hg
  simp only [Bool.and_eq_true, Bool.or_eq_true, decide_eq_true_eq] at hg
  obtain ⟨⟨⟨⟨⟨⟨⟨⟨g1, g2⟩, g3⟩, g4⟩, g5⟩, g6⟩, g7⟩, g8⟩, g9⟩ := hg
  match hp : spb 43 s, g1, g2 with
  | [c], _, _ =>
    have e : coW s = ⟨⟨#[]⟩, c⟩ := by unfold coW; rw [hp, if_neg (by simp)]; rfl
    rw [e] at g3 g4 g5 g7 g8 ⊢
    exact spec_word1 s c w hp g4 g5 g8 g9
  | [a, c], _, _ =>
    have e : coW s = ⟨a, c⟩ := by unfold coW; rw [hp, if_pos (by simp)]; rfl
    rw [e] at g3 g4 g5 g6 g7 g8 ⊢
    rw [hp] at g6
    exact spec_word2 s a c w hp g3 g4 g5 (by simpa using g6) g7 g8 g9
/-- append of a course in a block of its own. -/
theorem wpList_append_co {w0 : World} {ops : Array Oper} {rest : List Oper} {o : Oper} {a : Act} {Q : Exit → Act → World → Prop} (hgd : o.guard = none) (s x : Operand)
    (ho : o.op = .call { callee := .builtin .append, args := #[s, x], argTypes := #[34, 34] })
    (H : Nat) (hH : w0.heap.size = H) (base : Nat) (v : Value) (l : List CO) (n : CO) (hs : a.eval s = v) (hx : a.eval x = .slice (some ⟨H, 0, none⟩) 1 1) (hO : OCOS w0 base v l)
    (hl : l.length ≤ 1000000) (hbase : base ≤ w0.heap.size)
    (h : ∀ g cap w', w'.ownsRow base 102 2 (.slice (some ⟨g, 0, none⟩) (l.length + 1) cap) (l.length + 1) (l.flatMap cCO ++ [.string n.lead, .string n.cyc]) → (w0.alloc (.cells #[.string n.lead, .string n.cyc] 102)).grownBy w' v.ownBlock → (v.ownBlock = some g ∨ g = w0.heap.size + 1) → wpList Tryz.prog ops Q rest (a.put o.dst (.slice (some ⟨g, 0, none⟩) (l.length + 1) cap)) w') :
    wpList Tryz.prog ops Q (o :: rest) a (w0.alloc (.cells #[.string n.lead, .string n.cyc] 102)) := by
  subst hH
  obtain ⟨i0, hi, hz0, hz1, hz2⟩ := info_parts info_CO
  refine wpList_append_lies _ hgd s x _ ho base 102 i0 _ 2 32 Tryz.underlying34 hi hz0 hz1 hz2 rfl (by omega) v l.length (l.flatMap cCO) hs (World.ownsRow.alloc hO _)
    ⟨w0.heap.size, 0, none⟩ 1 1 [.string n.lead, .string n.cyc] hx rfl (World.news_of_block (cs := #[.string n.lead, .string n.cyc]) (t := 102) (fr := (0, 0)) (heap_alloc_new w0 _)) (by simp [Value.oneCell']) (by omega) (by unfold maxLen; omega) (by omega) (by simp; omega) (w0.heap.size + 1) (by simp) ?_
  intro g cap w1 hown hgrow hat hlt
  exact h g cap w1 hown hgrow hat
/-- The words of a text, by the reference; a text without a problem. -/
def nW (s : ByteArray) : ByteArray := gd (spb 32 s) 0
def cW (s : ByteArray) : List CO := ((spb 32 s).drop 1).map coW
def gW (s : ByteArray) : Bool := decide (2 ≤ (spb 32 s).length) && decide ((spb 32 s).length ≤ 9) && isN (nW s) && ((spb 32 s).drop 1).all wG && decide (s.size ≤ 400)
set_option maxHeartbeats 3200000 in
theorem spec_Check (s : ByteArray) (hg : gW s = true) (w : World) :
    Calls Tryz.prog 174 #[.string s] w fun e w' => ∃ A c B, e = .returned (.tuple #[.agg #[.string (nW s), .slice A (cW s).length c], .slice B 0 0]) ∧ OCOS w' w.heap.size (.slice A (cW s).length c) (cW s) ∧ Below w.heap.size w w' := by
  unfold gW at hg
  simp only [Bool.and_eq_true, decide_eq_true_eq] at hg
  obtain ⟨⟨⟨⟨g1, g2⟩, g3⟩, g4⟩, g5⟩ := hg
  have HC := Lib.hid (fun w => spec_Split s (by omega) 32 32 rfl w)
  have HI := Lib.hid (fun w => spec_IsName (nW s) (by have := isN_size g3; unfold maxLen; omega) w)
  rw [g3] at HI
  have HX : Hid (∀ k, k + 1 < (spb 32 s).length → wG (gd (spb 32 s) (k + 1)) = true) := Lib.hid fun k hk => by
    refine List.all_eq_true.1 g4 _ ?_
    rw [gd_eq hk, List.mem_iff_getElem]
    exact ⟨k, by rw [List.length_drop]; omega, by rw [List.getElem_drop]; congr 1; omega⟩
  have HCI : Hid (cW s = ((spb 32 s).drop 1).map coW) := Lib.hid rfl
  have HCL : Hid ((cW s).length + 1 = (spb 32 s).length) := Lib.hid (by unfold cW; rw [List.length_map, List.length_drop]; omega)
  have HN : Hid (gd (spb 32 s) 0 = nW s) := Lib.hid rfl
  clear g3 g4 g5
  go_enter Tryz.func174, Tryz.ntmps174
  go_wp2_with fail
  refine (show Calls _ _ _ _ _ from HC.out _).mono ?_
  rintro e w1 ⟨A0, cp, rfl, hO, hb⟩
  obtain ⟨g, rfl, hgg, _, hcc⟩ := hO.opn (by omega)
  have HR := Lib.hid hcc
  have z0 := cell_keep (p := ⟨w.heap.size, 0, none⟩) (v := .string ⟨#[]⟩) (by simp [go_sem]) hb
  have z1 := cell_keep (p := ⟨w.heap.size, 1, none⟩) (v := .slice none 0 0) (by simp [go_sem]) hb
  have hz0 : ∀ j, w1.frozen? ⟨w.heap.size, j, none⟩ = false := fun j => by rw [(bcell hb).2 _ _ (by simp)]; simp [go_sem]
  have HB := Lib.hid (ext_trans (ext_alloc1 _ _) hb)
  have hsz := hb.size
  have hc0 := hcc 0 (by omega)
  rw [HN.out] at hc0
  have hgl := block_lt_of_cell hc0
  have hgl2 : g ≠ w1.heap.size := Nat.ne_of_lt hgl
  have hl1 : ((spb 32 s).length : Int) ≥ 1 := by omega
  have hl2 : ¬ ((spb 32 s).length : Int) = 1 := by omega
  clear hb hcc hO
  go_wp2_with fail
  refine (show Calls _ _ _ _ _ from HI.out _).mono ?_
  rintro e w2 ⟨rfl, rfl⟩
  have HBR := Lib.hid ((BR.new w1 w1 (ext_refl _) (nW s)).ext (ext_alloc1 _ (.cells #[] 249)))
  go_wp2_with fail
  generalize (w1.alloc (.cells #[.string (nW s), .slice none 0 0] 36)).alloc (.cells #[] 249) = wb at *
  obtain ⟨q, hq⟩ : ∃ q, w1.heap.size = q := ⟨_, rfl⟩
  rw [hq] at HBR
  have HQ := Lib.hid hq
  simp only [hq]
  clear hq hc0 hl2
  obtain ⟨m, hm⟩ : ∃ m, (cW s).length = m := ⟨_, rfl⟩
  have HM := Lib.hid hm
  have HSN : Hid ((spb 32 s).length = m + 1) := Lib.hid (by have := HCL.out; omega)
  have hm8 : m ≤ 8 := by have := HCL.out; omega
  clear hm
  generalize hn : (spb 32 s).length = n at *
  have HSL := Lib.hid hn
  clear hn g1 g2 hl1
  go_loopw [6, 7] (fun bd i wr => ∃ (k : Nat) (A : Option Addr) (c : Nat), k ≤ m ∧ bd = .slice (some ⟨q + 1, 0, none⟩) 0 0 ∧ i = .int .i64 ((k : Int) + 1) ∧ Hid (BR w1 wr q (nW s) A c ((cW s).take k))) (fun _ i _ => m + 1 - (intOf i).toNat)
  case atStart => exact ⟨0, none, 0, Nat.zero_le _, rfl, rfl, HBR⟩
  case round =>
    obtain ⟨k, A, c, hk, rfl, rfl, HR2⟩ := hrel
    have e1 : (0 : Int) ≤ k := by omega
    by_cases hlt : k < m
    · have e2 : (k : Int) < m := by omega
      have HTK : Hid ((cW s).take (k + 1) = (cW s).take k ++ [coW (gd (spb 32 s) (k + 1))]) := Lib.hid (by
        rw [take_gd (by have := HM.out; omega)]
        congr 2
        rw [gd_eq (by have := HM.out; omega), gd_eq (by have := HSN.out; have := HSL.out; omega)]
        simp only [HCI.out, List.getElem_map, List.getElem_drop]
        congr 2
        omega)
      have hkl : ((cW s).take k).length = k := by rw [List.length_take]; have := HM.out; omega
      have hwd := cell_keep (HR.out (k + 1) (by have := HSN.out; omega)) HR2.out.b
      have HWD := Lib.hid (fun w => spec_Word (gd (spb 32 s) (k + 1)) w (HX.out k (by have := HSN.out; omega)))
      obtain ⟨wd, hwd2⟩ : ∃ x, gd (spb 32 s) (k + 1) = x := ⟨_, rfl⟩
      rw [hwd2] at hwd HWD HTK
      obtain ⟨l, hl⟩ : ∃ l, (cW s).take k = l := ⟨_, rfl⟩
      rw [hl] at HR2 HTK hkl
      have hl9 : l.length ≤ 9 := by omega
      obtain ⟨co, hco⟩ : ∃ o, coW wd = o := ⟨_, rfl⟩
      rw [hco] at HWD HTK
      clear hwd2 hl hco hkl
      have b1 := HR2.out.h1
      have hf1 := HR2.out.fz 1
      have hkn : (k : Int) + 1 < n := by have := HSN.out; omega
      have e9 : ¬ (8 : Int) < (k : Int) + 1 := by omega
      go_wp2_with fail
      refine (show Calls _ _ _ _ _ from HWD.out _).mono ?_
      rintro e w3 ⟨rfl, hb3⟩
      have HR3 := Lib.hid ((HR2.out.ext hb3).ext (ext_alloc1 w3 (.cells #[.string co.lead, .string co.cyc] 102)))
      have hlt3 := HR3.out.lt
      have hlt4 : q < w3.heap.size := Nat.lt_of_lt_of_le HR2.out.lt hb3.size
      replace b1 := HR3.out.h1
      replace hf1 := HR3.out.fz 1
      replace b1 := cell_keep b1 (ext_refl _)
      have HB3 := Lib.hid (ext_trans hb3 (ext_alloc1 w3 (.cells #[.string co.lead, .string co.cyc] 102)))
      have hqn : q ≠ w3.heap.size := Nat.ne_of_lt hlt4
      have b9 : w3.cell? ⟨q, 1, none⟩ = some (.slice A l.length c) := (HR2.out.ext hb3).h1
      clear hb3
      go_wp2_with (at_builtin; refine wpList_append_co rfl _ _ rfl (w3.heap.size + 1) (by simp) (q + 1) (.slice A l.length c) l co rfl rfl HR3.out.own (by omega) (by simp; omega) ?_; intro gg cap w8 hown8 hgrow hat; (have y3 := (hgrow.cell_far ⟨q, 1, none⟩ (by simp; omega) (fun e => HR3.out.far q e.symm rfl)).trans (cell_keep HR3.out.h1 (ext_alloc1 _ _))); (have y4 := (hgrow.frozen_far ⟨q, 1, none⟩ (by simp; omega) (fun e => HR3.out.far q e.symm rfl)).trans (((ext_alloc1 _ _).frozen (p := ⟨q, 1, none⟩) hlt3).trans hf1)))
      have HBS := Lib.hid (HR3.out.step (w7 := (w3.alloc (.cells #[.string co.lead, .string co.cyc] 102)).alloc (.cells #[.string co.lead, .string co.cyc] 102)) (ext_alloc1 _ _) (co := co) hgrow (by simpa using hat) hown8)
      clear hgrow hat hown8 y3 y4
      generalize w8.setCell ⟨q, 1, none⟩ (.slice (some ⟨gg, 0, none⟩) (l.length + 1) cap) = w9 at *
      go_roundw
      case rel => exact ⟨k + 1, some ⟨gg, 0, none⟩, cap, by omega, rfl, by go_num, by rw [HTK.out]; exact HBS⟩
      case measure => simp [intOf]; omega
    · obtain rfl : k = m := by omega
      have e2 : ¬ (k : Int) + 1 < n := by have := HSN.out; omega
      have htk : (cW s).take k = cW s := by rw [List.take_of_length_le (by have := HM.out; omega)]
      rw [htk] at HR2
      clear htk
      have b0 := HR2.out.h0
      have b1 := HR2.out.h1
      have r0 := cell_keep z0 HR2.out.b
      have r1 := cell_keep z1 HR2.out.b
      have hlw : w.heap.size < wr.heap.size := by have := HR2.out.b.size; simp at hsz; omega
      have rf : ∀ j, wr.frozen? ⟨w.heap.size, j, none⟩ = false := fun j => by
        rw [(bcell HR2.out.b).2 _ _ (by simp at hsz; omega)]; exact hz0 j
      have hqw : w.heap.size < q := by have := HQ.out; simp at hsz; omega
      clear HX HN HCI HM HCL
      go_wp2_with fail
      refine bodyPost_ret (v := .tuple #[.agg #[.string (nW s), .slice A (cW s).length c], .slice (some ⟨q + 1, 0, none⟩) 0 0]) (by simp [results, Tryz.results174, go_sem, r0, r1]) rfl ⟨A, c, ⟨_, rfl⟩, ?_, ?_⟩
      · exact ((HR2.out.own.put (show w.heap.size < q + 1 by omega) 0 _).put (show w.heap.size < q + 1 by omega) 1 _).mono (by omega)
      · repeat (refine ext_set ?_ (by simp; try omega) _)
        exact ext_trans HB.out HR2.out.b
end Go.Proofs.YtfgopboddkhckaaGreatDoor
