/-
  Logs: the program reads a log.
-/
import Derived.Test.YtoefoljhgnfoiaaGreatDoorLog7
import Derived.Deep.LoopGhost
import Derived.IntWalk
namespace Go.Proofs.YtoefoljhgnfoiaaGreatDoor
open Go.ChangeShapes Go.WideShapes Go.ChangeAt Go.RowKit Go.Sort
set_option linter.unusedVariables false
set_option maxRecDepth 100000
attribute [local go_sem ↓] Go.wp_at_zero Go.wp_at_succ

/-- What reading a log leaves: the entries, the stamp, the bytes. -/
def RLogP (s : ByteArray) (w : World) : Ending → World → Prop := fun e w' =>
  ∃ A c, e = .returned (.agg #[.slice A (rdLog s.data.toList).1.length c, .int .i64 (rdLog s.data.toList).2.1, .int .i64 ((rdLog s.data.toList).2.2 : Int)]) ∧ OENS w' w.heap.size (.slice A (rdLog s.data.toList).1.length c) (rdLog s.data.toList).1 ∧ Below w.heap.size w w'
/-- The result's block, still empty. -/
def Z3 (w : World) (g : Nat) : Prop := w.cell? ⟨g, 0, none⟩ = some (.slice none 0 0) ∧ w.cell? ⟨g, 1, none⟩ = some (.int .i64 0) ∧ w.cell? ⟨g, 2, none⟩ = some (.int .i64 0) ∧ ∀ j, w.frozen? ⟨g, j, none⟩ = false
theorem Z3.ext {w w' : World} {g : Nat} (h : Z3 w g) (hb : Below w.heap.size w w') : Z3 w' g :=
  ⟨cell_keep h.1 hb, cell_keep h.2.1 hb, cell_keep h.2.2.1 hb, fun j => by rw [hb.frozen (p := ⟨g, j, none⟩) (show g < w.heap.size from block_lt_of_cell h.1)]; exact h.2.2.2 j⟩
theorem Z3.chg {S : Nat → Prop} {w w' : World} {g : Nat} (h : Z3 w g) (hb : Chg S w w') (hS : ¬ S g) : Z3 w' g :=
  ⟨hb.cell h.1 hS, hb.cell h.2.1 hS, hb.cell h.2.2.1 hS, fun j => by rw [World.frozen?_of_block (hb.block g (block_lt_of_cell h.1) hS)]; exact h.2.2.2 j⟩

set_option maxHeartbeats 6400000 in
theorem impl_readLog (s : ByteArray) (hs : s.size ≤ 1048576) (w : World) (hE : Env w) :
    Calls Tryz.prog 58 #[.string s] w (RLogP s w) := by
  have HEV : Hid (∀ W', Below w.heap.size w W' → Env W') := Lib.hid fun W' h => hE.ext h
  clear hE
  go_enter Tryz.func58, Tryz.ntmps58
  go_wp2_with fail
  go_loopg [4] (s.size + 1) (fun gk u4 wr => ∃ (es : List EN) (st : Int) (n : Nat) (A : Option Addr) (c : Nat), n + gk = s.size + 1 ∧ es.length ≤ n ∧ n ≤ s.size ∧ 0 ≤ st ∧ st ≤ 65518 ∧ Hid (RI3 wr (w.heap.size + 2) (w.heap.size + 1) es st n A c) ∧ Hid (Z3 wr w.heap.size) ∧ Hid (rdLog s.data.toList = rdAt s.data.toList es st n) ∧ Hid (Below w.heap.size w wr))
  case atStart =>
    refine ⟨[], 0, 0, none, 0, by omega, by simp, by omega, by omega, by omega, Lib.hid ?_, Lib.hid ?_, rfl, Lib.hid (ext_alloc (ext_alloc1 _ _) _)⟩
    · refine ⟨by simp [go_sem], by simp [go_sem], by simp [go_sem], fun j => ?_, ⟨rfl, .inl ⟨rfl, rfl⟩⟩, by omega⟩
      simp
    · have h := box3 w (.slice none 0 0) (.int .i64 0) (.int .i64 0) 75 _ (ext_alloc1 (w.alloc (.cells #[.slice none 0 0, .int .i64 0, .int .i64 0] 75)) (.cells #[.slice none 0 0, .int .i64 0, .int .i64 0] 75))
      exact h
  case round =>
    obtain ⟨es, st, n, A, c, hgk, hes, hn, hst0, hst1, HR, HZ, HL, HW⟩ := hrel
    have r2 := HR.out.h2
    have e1 : (0 : Int) ≤ n := by omega
    have e2 : (n : Int) ≤ s.size := by omega
    obtain ⟨x, hx⟩ : ∃ x, s.extract n s.size = x := ⟨_, rfl⟩
    have HX : Hid (x.data.toList = s.data.toList.drop n) := Lib.hid (by rw [← hx, Lib.extract_to_end])
    have HXS : Hid (x.size ≤ 1048576) := Lib.hid (by rw [← size_toList, HX.out, List.length_drop, size_toList]; omega)
    have HCT : Hid (∀ w, Env w → Calls Tryz.prog 68 #[.string x, .string ⟨#[10]⟩] w (Ret (.tuple #[.string (bsq (Lib.cut x.data.toList [10]).1), .string (bsq (Lib.cut x.data.toList [10]).2.1), .bool (Lib.cut x.data.toList [10]).2.2]) w)) := Lib.hid fun w h => impl_Cut x HXS.out 10 w h
    rcases index_one_cases 10 (s.data.toList.drop n) with ⟨_, hno⟩ | ⟨k, _, h10, hk⟩
    · have hcm := cut_miss hno
      rw [HX.out, hcm.2, hcm.1] at HCT
      have HF : Hid (rdLog s.data.toList = (es, st, n)) := Lib.hid (by rw [HL.out, rdAt_stop (step_none hno)])
      clear hcm hno
      go_wp2_with fail
      refine (show Calls _ _ _ _ _ from HCT.out _ (HEV.out _ HW.out)).mono ?_
      rintro e w2 ⟨rfl, hb2⟩
      replace HR := Lib.hid (HR.out.ext hb2)
      replace HZ := Lib.hid (HZ.out.ext hb2)
      replace HW := Lib.hid (ext_trans HW.out hb2)
      clear hb2 r2 hx
      have hz0 := HZ.out.1
      have hz1 := HZ.out.2.1
      have hz2 := HZ.out.2.2.1
      have hzf := HZ.out.2.2.2
      have hr0 := HR.out.h0
      have hr1 := HR.out.h1
      have hr2 := HR.out.h2
      have hx := @box3_set w2 w.heap.size _ _ _ (.slice A es.length c) (.int .i64 st) (.int .i64 (n : Int)) hz0 hz1 hz2
      have hO := Lib.hid (HR.out.own.chg (((Chg.setCell (S := fun k => k = w.heap.size) w2 (p := ⟨w.heap.size, 0, none⟩) rfl (.slice A es.length c)).trans (Chg.setCell (S := fun k => k = w.heap.size) _ (p := ⟨w.heap.size, 1, none⟩) rfl (.int .i64 st))).trans (Chg.setCell (S := fun k => k = w.heap.size) _ (p := ⟨w.heap.size, 2, none⟩) rfl (.int .i64 (n : Int)))) (fun k hk e => by have := (HR.out.own.ge k hk).1; omega))
      have hw0 := hx.1
      have hw1 := hx.2.1
      have hw2 := hx.2.2
      try simp only [List.length_nil] at hw0 hw1 hw2
      go_wp2_with fail
      refine bodyPost_ret (v := .agg #[.slice A es.length c, .int .i64 st, .int .i64 (n : Int)]) (by simp [results, Tryz.results58, go_sem, hw0, hw1, hw2]) rfl ?_
      refine ⟨A, c, by rw [HF.out], ?_, ?_⟩
      · rw [HF.out]; exact hO.out.mono (by omega)
      · repeat (refine ext_set ?_ (by simp; try omega) _)
        exact HW.out
    · have hch := cut_hit h10 hk
      rw [HX.out, hch.2, hch.1] at HCT
      have hkl : n + k < s.size := by
        have h1 : k < (s.data.toList.drop n).length := by
          rcases Nat.lt_or_ge k (s.data.toList.drop n).length with h | h
          · exact h
          · rw [List.getElem?_eq_none h] at hk; cases hk
        rw [List.length_drop, size_toList] at h1
        omega
      obtain ⟨line, hline⟩ : ∃ line, (s.data.toList.drop n).take k = line := ⟨_, rfl⟩
      have hll : line.length = k := by rw [← hline, List.length_take, List.length_drop, size_toList]; omega
      rw [hline] at HCT
      obtain ⟨ln, hln⟩ : ∃ ln, bsq line = ln := ⟨_, rfl⟩
      rw [hln] at HCT
      have hlz : ln.size = k := by rw [← hln, bsq_size, hll]
      obtain ⟨l, hl⟩ : ∃ l, spb 32 ln = l := ⟨_, rfl⟩
      have HRL : Hid (∀ w, Env w → Calls Tryz.prog 69 #[.string ln] w (Ret (.tuple #[.agg #[.int .i64 (rlE l).day, .string (rlE l).what, .int .i64 (rlE l).val], .int .i64 (rlS l), .bool (rlB l)]) w)) := Lib.hid fun w h => impl_readLine ln (by omega) l hl w h
      have HNO : Hid (rlB l = false → stepL es st (s.data.toList.drop n) = none) := Lib.hid fun h => impl_step_no hline h10 hk (by rw [hln]; exact hl) h
      have HYS : Hid (rlB l = true → stepL es st (s.data.toList.drop n) = if lday es ≤ (rlE l).day ∧ stmp st (wrd (rlE l)) = rlS l then some (rlE l, stmp st (wrd (rlE l)), k + 1) else none) := Lib.hid fun h => impl_step_yes hline h10 hk (by rw [hln]; exact hl) h
      have HVE : Hid (rlB l = true → vEn (rlE l) = true) := Lib.hid fun h => by rw [(rl_yes h).2.2.2.2.2.1]; exact (rl_yes h).2.2.2.2.1
      have HLZ := Lib.hid hlz
      clear hch h10 hk hline hll hln hl hlz
      obtain ⟨en, hen⟩ : ∃ en, rlE l = en := ⟨_, rfl⟩
      obtain ⟨bo, hbo⟩ : ∃ bo, rlB l = bo := ⟨_, rfl⟩
      obtain ⟨so, hso⟩ : ∃ so, rlS l = so := ⟨_, rfl⟩
      rw [hen, hbo, hso] at HRL HYS
      rw [hbo] at HNO
      rw [hbo, hen] at HVE
      clear hen hbo hso
      go_wp2_with fail
      refine (show Calls _ _ _ _ _ from HCT.out _ (HEV.out _ HW.out)).mono ?_
      rintro e w2 ⟨rfl, hb2⟩
      replace HR := Lib.hid (HR.out.ext hb2)
      replace HZ := Lib.hid (HZ.out.ext hb2)
      replace HW := Lib.hid (ext_trans HW.out hb2)
      clear hb2 r2 hx
      go_wp2_with fail
      refine (show Calls _ _ _ _ _ from HRL.out _ (HEV.out _ HW.out)).mono ?_
      rintro e w3 ⟨rfl, hb3⟩
      replace HR := Lib.hid (HR.out.ext hb3)
      replace HZ := Lib.hid (HZ.out.ext hb3)
      replace HW := Lib.hid (ext_trans HW.out hb3)
      clear hb3 HRL HCT
      have r0 := cell_keep HR.out.h0 (ext_alloc1 w3 (.cells #[.int .i64 en.day, .string en.what, .int .i64 en.val] 98))
      go_wp2_with fail
      have HB4 : Hid (∀ o, Below w3.heap.size w3 (w3.alloc o)) := Lib.hid fun o => ext_alloc1 w3 o
      have HP4 : Hid (PEN (w3.alloc (.cells #[.int .i64 en.day, .string en.what, .int .i64 en.val] 98)) ⟨w3.heap.size, 0, none⟩ en) := Lib.hid (pEN_box w3 en _)
      have hg3 : w.heap.size + 2 ≤ w3.heap.size := by have h1 := HR.out.lt; have h2 := HR.out.own; omega
      replace HR := Lib.hid (HR.out.ext (HB4.out (.cells #[.int .i64 en.day, .string en.what, .int .i64 en.val] 98)))
      replace HZ := Lib.hid (HZ.out.ext (HB4.out (.cells #[.int .i64 en.day, .string en.what, .int .i64 en.val] 98)))
      replace HW := Lib.hid (ext_trans HW.out (HB4.out (.cells #[.int .i64 en.day, .string en.what, .int .i64 en.val] 98)))
      clear HB4 r0
      generalize hg4 : w3.heap.size = g4 at *
      generalize w3.alloc (.cells #[.int .i64 en.day, .string en.what, .int .i64 en.val] 98) = w4 at *
      clear hg4
      have x0 := fun d os => cell_regrown (d := d) (os := os) HR.out.h0
      have x1 := fun d os => cell_regrown (d := d) (os := os) HR.out.h1
      have p0 := fun d os => cell_regrown (d := d) (os := os) HP4.out.1
      have p1 := fun d os => cell_regrown (d := d) (os := os) HP4.out.2.1
      have p2 := fun d os => cell_regrown (d := d) (os := os) HP4.out.2.2
      cases bo with
      | false =>
        have HF : Hid (rdLog s.data.toList = (es, st, n)) := Lib.hid (by rw [HL.out, rdAt_stop (HNO.out rfl)])
        refine wp_region_quiet_below (by kernel_rfl) (by kernel_rfl) ?_
        repeat (go_big_quiet_step ((go_at_call 70; exact regrown_r (HST.out _ _))))
        refine wpQuiet_nil ?_
        intro w' hw'
        obtain ⟨p, rfl⟩ := hw'
        replace HR := Lib.hid (HR.out.ext (below_regrown w4 p.d p.os))
        replace HZ := Lib.hid (HZ.out.ext (below_regrown w4 p.d p.os))
        replace HP4 := Lib.hid (HP4.out.ext (below_regrown w4 p.d p.os))
        replace HW := Lib.hid (ext_trans HW.out (below_regrown w4 p.d p.os))
        clear x0 x1 p0 p1 p2
        generalize grow (redrawn w4 p.d) p.os = w5 at *
        have hz0 := HZ.out.1
        have hz1 := HZ.out.2.1
        have hz2 := HZ.out.2.2.1
        have hzf := HZ.out.2.2.2
        have hr0 := HR.out.h0
        have hr1 := HR.out.h1
        have hr2 := HR.out.h2
        have hx := @box3_set w5 w.heap.size _ _ _ (.slice A es.length c) (.int .i64 st) (.int .i64 (n : Int)) hz0 hz1 hz2
        have hO := Lib.hid (HR.out.own.chg (((Chg.setCell (S := fun k => k = w.heap.size) w5 (p := ⟨w.heap.size, 0, none⟩) rfl (.slice A es.length c)).trans (Chg.setCell (S := fun k => k = w.heap.size) _ (p := ⟨w.heap.size, 1, none⟩) rfl (.int .i64 st))).trans (Chg.setCell (S := fun k => k = w.heap.size) _ (p := ⟨w.heap.size, 2, none⟩) rfl (.int .i64 (n : Int)))) (fun k hk e => by have := (HR.out.own.ge k hk).1; omega))
        have hw0 := hx.1
        have hw1 := hx.2.1
        have hw2 := hx.2.2
        try simp only [List.length_nil] at hw0 hw1 hw2
        go_wp2_with fail
        refine bodyPost_ret (v := .agg #[.slice A es.length c, .int .i64 st, .int .i64 (n : Int)]) (by simp [results, Tryz.results58, go_sem, hw0, hw1, hw2]) rfl ?_
        refine ⟨A, c, by rw [HF.out], ?_, ?_⟩
        · rw [HF.out]; exact hO.out.mono (by omega)
        · repeat (refine ext_set ?_ (by simp; try omega) _)
          exact HW.out
      | true =>
      have HV : Hid (vEn en = true) := Lib.hid (HVE.out rfl)
      have hday := (vEn_iff.1 HV.out).1
      have hbd := stpb_bd st (wrb en)
      have HST : Hid (∀ d os, Calls Tryz.prog 70 #[.int .i64 st, .agg #[.int .i64 en.day, .string en.what, .int .i64 en.val]] (grow (redrawn w4 d) os) (Ret (.int .i64 (stpb st (wrb en))) (grow (redrawn w4 d) os))) := Lib.hid fun d os => impl_stamp st _ en _ hst0 hst1 HV.out rfl (HEV.out _ (ext_trans HW.out (below_regrown _ _ _))).lay
      obtain ⟨st2, hst2⟩ : ∃ st2, stpb st (wrb en) = st2 := ⟨_, rfl⟩
      have HTS : Hid (stmp st (wrd en) = st2) := Lib.hid hst2
      rw [hst2] at HST hbd
      clear hst2
      by_cases h0 : es.length = 0
      · have hes0 : es = [] := List.eq_nil_of_length_eq_zero h0
        subst hes0
        have HLD : Hid (lday ([] : List EN) ≤ en.day) := Lib.hid hday.1
        clear hday h0
        by_cases hq : st2 = so
        · subst hq
          have HF : Hid (rdLog s.data.toList = rdAt s.data.toList (([] : List EN) ++ [en]) st2 (n + (k + 1))) := Lib.hid (by rw [HL.out]; refine rdAt_step ?_; rw [HYS.out rfl, if_pos ⟨HLD.out, HTS.out⟩, HTS.out])
          have f8q : (st2 != st2) = false := by simp
          refine wp_region_quiet_below (by kernel_rfl) (by kernel_rfl) ?_
          repeat (go_big_quiet_step ((go_at_call 70; exact regrown_r (HST.out _ _))))
          refine wpQuiet_nil ?_
          intro w' hw'
          obtain ⟨p, rfl⟩ := hw'
          replace HR := Lib.hid (HR.out.ext (below_regrown w4 p.d p.os))
          replace HZ := Lib.hid (HZ.out.ext (below_regrown w4 p.d p.os))
          replace HP4 := Lib.hid (HP4.out.ext (below_regrown w4 p.d p.os))
          replace HW := Lib.hid (ext_trans HW.out (below_regrown w4 p.d p.os))
          clear x0 x1 p0 p1 p2
          generalize grow (redrawn w4 p.d) p.os = w5 at *
          clear f8q
          have hz0 := HR.out.h0
          have hp0 := HP4.out.1
          have hp1 := HP4.out.2.1
          have hp2 := HP4.out.2.2
          have hB5 : w.heap.size + 2 ≤ w5.heap.size := by have := block_lt_of_cell hp0; simp only [] at this; omega
          have hlz := HLZ.out
          go_wp2_with (at_builtin; refine wpList_append_en rfl _ _ rfl (w.heap.size + 2) (.slice A ([] : List EN).length c) ([] : List EN) en rfl rfl HR.out.own (by first | omega | (simp only [List.length_nil] at *; omega)) hB5 ?_; intro gg cap w8 hown8 hgrow; (obtain ⟨ha0, ha1, ha2, haf⟩ := RI3.mid HR.out (ext_alloc1 w5 _) hgrow); (have HS8 := Lib.hid (RI3.step HR.out (ext_alloc1 w5 _) hgrow hB5 hown8 st2 (n + (k + 1)))); clear hown8 hgrow hz0 hp0 hp1 hp2)
          go_roundg (gk - (k + 1))
          case measure => omega
          case rel =>
            refine ⟨([] : List EN) ++ [en], st2, n + (k + 1), some ⟨gg, 0, none⟩, cap, by omega, by rw [List.length_append]; simp only [List.length_cons, List.length_nil] at *; omega, by omega, hbd.1, hbd.2, Lib.hid HS8.out.1, Lib.hid (HZ.out.chg HS8.out.2 (by omega)), HF.out, Lib.hid (Chg.ext HW.out HS8.out.2 (fun b hb => by omega))⟩
        · have f8q : (st2 != so) = true := by simpa using hq
          have HF : Hid (rdLog s.data.toList = (([] : List EN), st, n)) := Lib.hid (by rw [HL.out, rdAt_stop]; rw [HYS.out rfl, if_neg]; intro h; exact hq (by rw [← HTS.out]; exact h.2))
          clear hq
          refine wp_region_quiet_below (by kernel_rfl) (by kernel_rfl) ?_
          repeat (go_big_quiet_step ((go_at_call 70; exact regrown_r (HST.out _ _))))
          refine wpQuiet_nil ?_
          intro w' hw'
          obtain ⟨p, rfl⟩ := hw'
          replace HR := Lib.hid (HR.out.ext (below_regrown w4 p.d p.os))
          replace HZ := Lib.hid (HZ.out.ext (below_regrown w4 p.d p.os))
          replace HP4 := Lib.hid (HP4.out.ext (below_regrown w4 p.d p.os))
          replace HW := Lib.hid (ext_trans HW.out (below_regrown w4 p.d p.os))
          clear x0 x1 p0 p1 p2
          generalize grow (redrawn w4 p.d) p.os = w5 at *
          clear f8q
          have hz0 := HZ.out.1
          have hz1 := HZ.out.2.1
          have hz2 := HZ.out.2.2.1
          have hzf := HZ.out.2.2.2
          have hr0 := HR.out.h0
          have hr1 := HR.out.h1
          have hr2 := HR.out.h2
          have hx := @box3_set w5 w.heap.size _ _ _ (.slice A ([] : List EN).length c) (.int .i64 st) (.int .i64 (n : Int)) hz0 hz1 hz2
          have hO := Lib.hid (HR.out.own.chg (((Chg.setCell (S := fun k => k = w.heap.size) w5 (p := ⟨w.heap.size, 0, none⟩) rfl (.slice A ([] : List EN).length c)).trans (Chg.setCell (S := fun k => k = w.heap.size) _ (p := ⟨w.heap.size, 1, none⟩) rfl (.int .i64 st))).trans (Chg.setCell (S := fun k => k = w.heap.size) _ (p := ⟨w.heap.size, 2, none⟩) rfl (.int .i64 (n : Int)))) (fun k hk e => by have := (HR.out.own.ge k hk).1; omega))
          have hw0 := hx.1
          have hw1 := hx.2.1
          have hw2 := hx.2.2
          try simp only [List.length_nil] at hw0 hw1 hw2
          go_wp2_with fail
          refine bodyPost_ret (v := .agg #[.slice A ([] : List EN).length c, .int .i64 st, .int .i64 (n : Int)]) (by simp [results, Tryz.results58, go_sem, hw0, hw1, hw2]) rfl ?_
          refine ⟨A, c, by rw [HF.out], ?_, ?_⟩
          · rw [HF.out]; exact hO.out.mono (by omega)
          · repeat (refine ext_set ?_ (by simp; try omega) _)
            exact HW.out
      · obtain ⟨j, hj⟩ : ∃ j, es.length = j + 1 := ⟨es.length - 1, by omega⟩
        have HJ := Lib.hid hj
        have HLG : Hid (lday es = (gd es j).day) := Lib.hid (by rw [lday_get (by omega), hj]; rfl)
        obtain ⟨ad, rfl, _, hc⟩ := HR.out.own.rd.at (show j < es.length by omega)
        have y0 := fun d os => cell_regrown (d := d) (os := os) (hc j (by omega)).1
        have f1 : (0 : Int) < (es.length : Int) := by omega
        have f8 : decide (0 < es.length) = true := decide_eq_true (by omega)
        have f9 : 0 < es.length := by omega
        have f2 : (es.length : Int) - 1 = j := by omega
        have f3 : (0 : Int) ≤ j := by omega
        have f4 : (j : Int) < (es.length : Int) := by omega
        have f5 : IntKind.i64.wrap (j : Int) = j := IntWalk.i64_in _ (by omega)
        have f6 : (j : Int).toNat = j := by omega
        clear hc h0 hj hday
        by_cases hd : en.day < (gd es j).day
        · have HF : Hid (rdLog s.data.toList = (es, st, n)) := Lib.hid (by rw [HL.out, rdAt_stop]; rw [HYS.out rfl, if_neg]; intro h; rw [HLG.out] at h; omega)
          have f7 : decide ((gd es j).day > en.day) = true := decide_eq_true hd
          clear hd
          refine wp_region_quiet_below (by kernel_rfl) (by kernel_rfl) ?_
          repeat (go_big_quiet_step ((go_at_call 70; exact regrown_r (HST.out _ _))))
          refine wpQuiet_nil ?_
          intro w' hw'
          obtain ⟨p, rfl⟩ := hw'
          replace HR := Lib.hid (HR.out.ext (below_regrown w4 p.d p.os))
          replace HZ := Lib.hid (HZ.out.ext (below_regrown w4 p.d p.os))
          replace HP4 := Lib.hid (HP4.out.ext (below_regrown w4 p.d p.os))
          replace HW := Lib.hid (ext_trans HW.out (below_regrown w4 p.d p.os))
          clear x0 x1 p0 p1 p2
          generalize grow (redrawn w4 p.d) p.os = w5 at *
          clear y0 f1 f2 f3 f4 f5 f6 f7 f8 f9
          have hz0 := HZ.out.1
          have hz1 := HZ.out.2.1
          have hz2 := HZ.out.2.2.1
          have hzf := HZ.out.2.2.2
          have hr0 := HR.out.h0
          have hr1 := HR.out.h1
          have hr2 := HR.out.h2
          have hx := @box3_set w5 w.heap.size _ _ _ (.slice (some ad) es.length c) (.int .i64 st) (.int .i64 (n : Int)) hz0 hz1 hz2
          have hO := Lib.hid (HR.out.own.chg (((Chg.setCell (S := fun k => k = w.heap.size) w5 (p := ⟨w.heap.size, 0, none⟩) rfl (.slice (some ad) es.length c)).trans (Chg.setCell (S := fun k => k = w.heap.size) _ (p := ⟨w.heap.size, 1, none⟩) rfl (.int .i64 st))).trans (Chg.setCell (S := fun k => k = w.heap.size) _ (p := ⟨w.heap.size, 2, none⟩) rfl (.int .i64 (n : Int)))) (fun k hk e => by have := (HR.out.own.ge k hk).1; omega))
          have hw0 := hx.1
          have hw1 := hx.2.1
          have hw2 := hx.2.2
          try simp only [List.length_nil] at hw0 hw1 hw2
          go_wp2_with fail
          refine bodyPost_ret (v := .agg #[.slice (some ad) es.length c, .int .i64 st, .int .i64 (n : Int)]) (by simp [results, Tryz.results58, go_sem, hw0, hw1, hw2]) rfl ?_
          refine ⟨(some ad), c, by rw [HF.out], ?_, ?_⟩
          · rw [HF.out]; exact hO.out.mono (by omega)
          · repeat (refine ext_set ?_ (by simp; try omega) _)
            exact HW.out
        · have f7 : decide ((gd es j).day > en.day) = false := decide_eq_false hd
          have HLD : Hid (lday es ≤ en.day) := Lib.hid (by rw [HLG.out]; omega)
          clear hd
          by_cases hq : st2 = so
          · subst hq
            have HF : Hid (rdLog s.data.toList = rdAt s.data.toList (es ++ [en]) st2 (n + (k + 1))) := Lib.hid (by rw [HL.out]; refine rdAt_step ?_; rw [HYS.out rfl, if_pos ⟨HLD.out, HTS.out⟩, HTS.out])
            have f8q : (st2 != st2) = false := by simp
            refine wp_region_quiet_below (by kernel_rfl) (by kernel_rfl) ?_
            repeat (go_big_quiet_step ((go_at_call 70; exact regrown_r (HST.out _ _))))
            refine wpQuiet_nil ?_
            intro w' hw'
            obtain ⟨p, rfl⟩ := hw'
            replace HR := Lib.hid (HR.out.ext (below_regrown w4 p.d p.os))
            replace HZ := Lib.hid (HZ.out.ext (below_regrown w4 p.d p.os))
            replace HP4 := Lib.hid (HP4.out.ext (below_regrown w4 p.d p.os))
            replace HW := Lib.hid (ext_trans HW.out (below_regrown w4 p.d p.os))
            clear x0 x1 p0 p1 p2
            generalize grow (redrawn w4 p.d) p.os = w5 at *
            clear f8q
            have hz0 := HR.out.h0
            have hp0 := HP4.out.1
            have hp1 := HP4.out.2.1
            have hp2 := HP4.out.2.2
            have hB5 : w.heap.size + 2 ≤ w5.heap.size := by have := block_lt_of_cell hp0; simp only [] at this; omega
            have hlz := HLZ.out
            go_wp2_with (at_builtin; refine wpList_append_en rfl _ _ rfl (w.heap.size + 2) (.slice (some ad) es.length c) es en rfl rfl HR.out.own (by first | omega | (simp only [List.length_nil] at *; omega)) hB5 ?_; intro gg cap w8 hown8 hgrow; (obtain ⟨ha0, ha1, ha2, haf⟩ := RI3.mid HR.out (ext_alloc1 w5 _) hgrow); (have HS8 := Lib.hid (RI3.step HR.out (ext_alloc1 w5 _) hgrow hB5 hown8 st2 (n + (k + 1)))); clear hown8 hgrow hz0 hp0 hp1 hp2)
            go_roundg (gk - (k + 1))
            case measure => omega
            case rel =>
              refine ⟨es ++ [en], st2, n + (k + 1), some ⟨gg, 0, none⟩, cap, by omega, by rw [List.length_append]; simp only [List.length_cons, List.length_nil] at *; omega, by omega, hbd.1, hbd.2, Lib.hid HS8.out.1, Lib.hid (HZ.out.chg HS8.out.2 (by omega)), HF.out, Lib.hid (Chg.ext HW.out HS8.out.2 (fun b hb => by omega))⟩
          · have f8q : (st2 != so) = true := by simpa using hq
            have HF : Hid (rdLog s.data.toList = (es, st, n)) := Lib.hid (by rw [HL.out, rdAt_stop]; rw [HYS.out rfl, if_neg]; intro h; exact hq (by rw [← HTS.out]; exact h.2))
            clear hq
            refine wp_region_quiet_below (by kernel_rfl) (by kernel_rfl) ?_
            repeat (go_big_quiet_step ((go_at_call 70; exact regrown_r (HST.out _ _))))
            refine wpQuiet_nil ?_
            intro w' hw'
            obtain ⟨p, rfl⟩ := hw'
            replace HR := Lib.hid (HR.out.ext (below_regrown w4 p.d p.os))
            replace HZ := Lib.hid (HZ.out.ext (below_regrown w4 p.d p.os))
            replace HP4 := Lib.hid (HP4.out.ext (below_regrown w4 p.d p.os))
            replace HW := Lib.hid (ext_trans HW.out (below_regrown w4 p.d p.os))
            clear x0 x1 p0 p1 p2
            generalize grow (redrawn w4 p.d) p.os = w5 at *
            clear f8q
            have hz0 := HZ.out.1
            have hz1 := HZ.out.2.1
            have hz2 := HZ.out.2.2.1
            have hzf := HZ.out.2.2.2
            have hr0 := HR.out.h0
            have hr1 := HR.out.h1
            have hr2 := HR.out.h2
            have hx := @box3_set w5 w.heap.size _ _ _ (.slice (some ad) es.length c) (.int .i64 st) (.int .i64 (n : Int)) hz0 hz1 hz2
            have hO := Lib.hid (HR.out.own.chg (((Chg.setCell (S := fun k => k = w.heap.size) w5 (p := ⟨w.heap.size, 0, none⟩) rfl (.slice (some ad) es.length c)).trans (Chg.setCell (S := fun k => k = w.heap.size) _ (p := ⟨w.heap.size, 1, none⟩) rfl (.int .i64 st))).trans (Chg.setCell (S := fun k => k = w.heap.size) _ (p := ⟨w.heap.size, 2, none⟩) rfl (.int .i64 (n : Int)))) (fun k hk e => by have := (HR.out.own.ge k hk).1; omega))
            have hw0 := hx.1
            have hw1 := hx.2.1
            have hw2 := hx.2.2
            try simp only [List.length_nil] at hw0 hw1 hw2
            go_wp2_with fail
            refine bodyPost_ret (v := .agg #[.slice (some ad) es.length c, .int .i64 st, .int .i64 (n : Int)]) (by simp [results, Tryz.results58, go_sem, hw0, hw1, hw2]) rfl ?_
            refine ⟨(some ad), c, by rw [HF.out], ?_, ?_⟩
            · rw [HF.out]; exact hO.out.mono (by omega)
            · repeat (refine ext_set ?_ (by simp; try omega) _)
              exact HW.out
end Go.Proofs.YtoefoljhgnfoiaaGreatDoor
