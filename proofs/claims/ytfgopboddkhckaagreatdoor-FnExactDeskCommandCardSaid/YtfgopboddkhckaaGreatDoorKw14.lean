/-
  Parts of the proof: Log8, Log9, Log11.
-/
import Derived.Test.YtfgopboddkhckaaGreatDoorKw13
import Derived.Deep.LoopGhost
namespace Go.Proofs.YtfgopboddkhckaaGreatDoor
open Go.ChangeShapes Go.WideShapes Go.ChangeAt Go.RowKit Go.Sort
set_option linter.unusedVariables false
set_option maxRecDepth 100000
attribute [local go_sem ↓] Go.wp_at_zero Go.wp_at_succ
def RLogP (s : ByteArray) (w : World) : Ending → World → Prop := fun e w' =>
  ∃ A c, e = .returned (.agg #[.slice A (rdLog s.data.toList).1.length c, .int .i64 (rdLog s.data.toList).2.1, .int .i64 ((rdLog s.data.toList).2.2 : Int)]) ∧ OENS w' w.heap.size (.slice A (rdLog s.data.toList).1.length c) (rdLog s.data.toList).1 ∧ Below w.heap.size w w'
def Z3 (w : World) (g : Nat) : Prop := w.cell? ⟨g, 0, none⟩ = some (.slice none 0 0) ∧ w.cell? ⟨g, 1, none⟩ = some (.int .i64 0) ∧ w.cell? ⟨g, 2, none⟩ = some (.int .i64 0) ∧ ∀ j, w.frozen? ⟨g, j, none⟩ = false
theorem Z3.ext {w w' : World} {g : Nat} (h : Z3 w g) (hb : Below w.heap.size w w') : Z3 w' g :=
 ⟨cell_keep h.1 hb, cell_keep h.2.1 hb, cell_keep h.2.2.1 hb, fun j => by rw [hb.frozen (p := ⟨g, j, none⟩) (show g < w.heap.size from block_lt_of_cell h.1)]; exact h.2.2.2 j⟩
theorem Z3.chg {S : Nat → Prop} {w w' : World} {g : Nat} (h : Z3 w g) (hb : Chg S w w') (hS : ¬ S g) : Z3 w' g :=
 ⟨hb.cell h.1 hS, hb.cell h.2.1 hS, hb.cell h.2.2.1 hS, fun j => by rw [World.frozen?_of_block (hb.block g (block_lt_of_cell h.1) hS)]; exact h.2.2.2 j⟩
set_option maxHeartbeats 6400000 in
theorem impl_readLog (s : ByteArray) (hs : s.size ≤ 1048576) (w : World) (hE : Env w) :
   Calls Tryz.prog 101 #[.string s] w (RLogP s w) := by
 have HEV : Hid (∀ W', Below w.heap.size w W' → Env W') := Lib.hid fun W' h => hE.ext h
 clear hE
 go_enter Tryz.func101, Tryz.ntmps101
 go_wp2_with fail
 go_loopg [4] (s.size + 1) (fun gk u4 wr => ∃ (es : List EN) (st : Int) (n : Nat) (A : Option Addr) (c : Nat), n + gk = s.size + 1 ∧ es.length ≤ n ∧ n ≤ s.size ∧ 0 ≤ st ∧ st ≤ 65518 ∧ Hid (RI3 wr (w.heap.size + 2) (w.heap.size + 1) es st n A c) ∧ Hid (Z3 wr w.heap.size) ∧ Hid (rdLog s.data.toList = rdAt s.data.toList es st n) ∧ Hid (Below w.heap.size w wr))
 case atStart =>
   refine ⟨[], 0, 0, none, 0, by omega, by simp, by omega, by omega, by omega, Lib.hid ?_, Lib.hid ?_, rfl, Lib.hid (ext_alloc (ext_alloc1 _ _) _)⟩
   · refine ⟨by simp [go_sem], by simp [go_sem], by simp [go_sem], fun j => ?_, ⟨rfl, .inl ⟨rfl, rfl⟩⟩, by omega⟩
     simp
   · have h := box3 w (.slice none 0 0) (.int .i64 0) (.int .i64 0) 135 _ (ext_alloc1 (w.alloc (.cells #[.slice none 0 0, .int .i64 0, .int .i64 0] 135)) (.cells #[.slice none 0 0, .int .i64 0, .int .i64 0] 135))
     exact h
 case round =>
   obtain ⟨es, st, n, A, c, hgk, hes, hn, hst0, hst1, HR, HZ, HL, HW⟩ := hrel
   have r2 := HR.out.h2
   have e1 : (0 : Int) ≤ n := by omega
   have e2 : (n : Int) ≤ s.size := by omega
   obtain ⟨x, hx⟩ : ∃ x, s.extract n s.size = x := ⟨_, rfl⟩
   have HX : Hid (x.data.toList = s.data.toList.drop n) := Lib.hid (by rw [← hx, Lib.extract_to_end])
   have HXS : Hid (x.size ≤ 1048576) := Lib.hid (by rw [← size_toList, HX.out, List.length_drop, size_toList]; omega)
   have HCT : Hid (∀ w, Env w → Calls Tryz.prog 153 #[.string x, .string ⟨#[10]⟩] w (Ret (.tuple #[.string (bsq (Lib.cut x.data.toList [10]).1), .string (bsq (Lib.cut x.data.toList [10]).2.1), .bool (Lib.cut x.data.toList [10]).2.2]) w)) := Lib.hid fun w h => impl_Cut x HXS.out 10 w h
   rcases index_one_cases 10 (s.data.toList.drop n) with ⟨_, hno⟩ | ⟨k, _, h10, hk⟩
   · have hcm := cut_miss hno
     rw [HX.out, hcm.2, hcm.1] at HCT
     have HF : Hid (rdLog s.data.toList = (es, st, n)) := Lib.hid (by rw [HL.out, rdAt_stop (step_none hno)])
     clear hcm hno
     go_wp2_with fail
     refine (show Calls _ _ _ _ _ from HCT.out _ (HEV.out _ HW.out)).mono ?_
     rintro e w2 ⟨rfl, hb2⟩
     replace HR := Lib.hid (HR.out.ext hb2)
     replace HZ := Lib.hid (HZ.out.ext hb2)
     replace HW := Lib.hid (ext_trans HW.out hb2)
     clear hb2 r2 hx
     have hz0 := HZ.out.1
     have hz1 := HZ.out.2.1
     have hz2 := HZ.out.2.2.1
     have hzf := HZ.out.2.2.2
     have hr0 := HR.out.h0
     have hr1 := HR.out.h1
     have hr2 := HR.out.h2
     have hx := @box3_set w2 w.heap.size _ _ _ (.slice A es.length c) (.int .i64 st) (.int .i64 (n : Int)) hz0 hz1 hz2
     have hO := Lib.hid (HR.out.own.chg (((Chg.setCell (S := fun k => k = w.heap.size) w2 (p := ⟨w.heap.size, 0, none⟩) rfl (.slice A es.length c)).trans (Chg.setCell (S := fun k => k = w.heap.size) _ (p := ⟨w.heap.size, 1, none⟩) rfl (.int .i64 st))).trans (Chg.setCell (S := fun k => k = w.heap.size) _ (p := ⟨w.heap.size, 2, none⟩) rfl (.int .i64 (n : Int)))) (fun k hk e => by have := (HR.out.own.ge k hk).1; omega))
     have hw0 := hx.1
     have hw1 := hx.2.1
     have hw2 := hx.2.2
     try simp only [List.length_nil] at hw0 hw1 hw2
     go_wp2_with fail
     refine bodyPost_ret (v := .agg #[.slice A es.length c, .int .i64 st, .int .i64 (n : Int)]) (by simp [results, Tryz.results101, go_sem, hw0, hw1, hw2]) rfl ?_
     refine ⟨A, c, by rw [HF.out], ?_, ?_⟩
     · rw [HF.out]; exact hO.out.mono (by omega)
     · repeat (refine ext_set ?_ (by simp; try omega) _)
       exact HW.out
   · have hch := cut_hit h10 hk
     rw [HX.out, hch.2, hch.1] at HCT
     have hkl : n + k < s.size := by
       have h1 : k < (s.data.toList.drop n).length := by
         rcases Nat.lt_or_ge k (s.data.toList.drop n).length with h | h
         · exact h
         · rw [List.getElem?_eq_none h] at hk; cases hk
       rw [List.length_drop, size_toList] at h1
       omega
     obtain ⟨line, hline⟩ : ∃ line, (s.data.toList.drop n).take k = line := ⟨_, rfl⟩
     have hll : line.length = k := by rw [← hline, List.length_take, List.length_drop, size_toList]; omega
     rw [hline] at HCT
     obtain ⟨ln, hln⟩ : ∃ ln, bsq line = ln := ⟨_, rfl⟩
     rw [hln] at HCT
     have hlz : ln.size = k := by rw [← hln, bsq_size, hll]
     obtain ⟨l, hl⟩ : ∃ l, spb 32 ln = l := ⟨_, rfl⟩
     have HRL : Hid (∀ w, Env w → Calls Tryz.prog 167 #[.string ln] w (Ret (.tuple #[.agg #[.int .i64 (rlE l).day, .string (rlE l).what, .int .i64 (rlE l).val], .int .i64 (rlS l), .bool (rlB l)]) w)) := Lib.hid fun w h => impl_readLine ln (by omega) l hl w h
     have HNO : Hid (rlB l = false → stepL es st (s.data.toList.drop n) = none) := Lib.hid fun h => impl_step_no hline h10 hk (by rw [hln]; exact hl) h
     have HYS : Hid (rlB l = true → stepL es st (s.data.toList.drop n) = if lday es ≤ (rlE l).day ∧ stmp st (wrd (rlE l)) = rlS l then some (rlE l, stmp st (wrd (rlE l)), k + 1) else none) := Lib.hid fun h => impl_step_yes hline h10 hk (by rw [hln]; exact hl) h
     have HVE : Hid (rlB l = true → vEn (rlE l) = true) := Lib.hid fun h => by rw [(rl_yes h).2.2.2.2.2.1]; exact (rl_yes h).2.2.2.2.1
     have HLZ := Lib.hid hlz
     clear hch h10 hk hline hll hln hl hlz
     obtain ⟨en, hen⟩ : ∃ en, rlE l = en := ⟨_, rfl⟩
     obtain ⟨bo, hbo⟩ : ∃ bo, rlB l = bo := ⟨_, rfl⟩
     obtain ⟨so, hso⟩ : ∃ so, rlS l = so := ⟨_, rfl⟩
     rw [hen, hbo, hso] at HRL HYS
     rw [hbo] at HNO
     rw [hbo, hen] at HVE
     clear hen hbo hso
     go_wp2_with fail
     refine (show Calls _ _ _ _ _ from HCT.out _ (HEV.out _ HW.out)).mono ?_
     rintro e w2 ⟨rfl, hb2⟩
     replace HR := Lib.hid (HR.out.ext hb2)
     replace HZ := Lib.hid (HZ.out.ext hb2)
     replace HW := Lib.hid (ext_trans HW.out hb2)
     clear hb2 r2 hx
     go_wp2_with fail
     refine (show Calls _ _ _ _ _ from HRL.out _ (HEV.out _ HW.out)).mono ?_
     rintro e w3 ⟨rfl, hb3⟩
     replace HR := Lib.hid (HR.out.ext hb3)
     replace HZ := Lib.hid (HZ.out.ext hb3)
     replace HW := Lib.hid (ext_trans HW.out hb3)
     clear hb3 HRL HCT
     have r0 := cell_keep HR.out.h0 (ext_alloc1 w3 (.cells #[.int .i64 en.day, .string en.what, .int .i64 en.val] 130))
     go_wp2_with fail
     have HB4 : Hid (∀ o, Below w3.heap.size w3 (w3.alloc o)) := Lib.hid fun o => ext_alloc1 w3 o
     have HP4 : Hid (PEN (w3.alloc (.cells #[.int .i64 en.day, .string en.what, .int .i64 en.val] 130)) ⟨w3.heap.size, 0, none⟩ en) := Lib.hid (pEN_box w3 en _)
     have hg3 : w.heap.size + 2 ≤ w3.heap.size := by have h1 := HR.out.lt; have h2 := HR.out.own; omega
     replace HR := Lib.hid (HR.out.ext (HB4.out (.cells #[.int .i64 en.day, .string en.what, .int .i64 en.val] 130)))
     replace HZ := Lib.hid (HZ.out.ext (HB4.out (.cells #[.int .i64 en.day, .string en.what, .int .i64 en.val] 130)))
     replace HW := Lib.hid (ext_trans HW.out (HB4.out (.cells #[.int .i64 en.day, .string en.what, .int .i64 en.val] 130)))
     clear HB4 r0
     generalize hg4 : w3.heap.size = g4 at *
     generalize w3.alloc (.cells #[.int .i64 en.day, .string en.what, .int .i64 en.val] 130) = w4 at *
     clear hg4
     have x0 := fun d os => cell_regrown (d := d) (os := os) HR.out.h0
     have x1 := fun d os => cell_regrown (d := d) (os := os) HR.out.h1
     have p0 := fun d os => cell_regrown (d := d) (os := os) HP4.out.1
     have p1 := fun d os => cell_regrown (d := d) (os := os) HP4.out.2.1
     have p2 := fun d os => cell_regrown (d := d) (os := os) HP4.out.2.2
     cases bo with
     | false =>
       have HF : Hid (rdLog s.data.toList = (es, st, n)) := Lib.hid (by rw [HL.out, rdAt_stop (HNO.out rfl)])
       refine wp_region_quiet_below (by kernel_rfl) (by kernel_rfl) ?_
       repeat (go_big_quiet_step ((go_at_call 168; exact regrown_r (HST.out _ _))))
       refine wpQuiet_nil ?_
       intro w' hw'
       obtain ⟨p, rfl⟩ := hw'
       replace HR := Lib.hid (HR.out.ext (below_regrown w4 p.d p.os))
       replace HZ := Lib.hid (HZ.out.ext (below_regrown w4 p.d p.os))
       replace HP4 := Lib.hid (HP4.out.ext (below_regrown w4 p.d p.os))
       replace HW := Lib.hid (ext_trans HW.out (below_regrown w4 p.d p.os))
       clear x0 x1 p0 p1 p2
       generalize grow (redrawn w4 p.d) p.os = w5 at *
       have hz0 := HZ.out.1
       have hz1 := HZ.out.2.1
       have hz2 := HZ.out.2.2.1
       have hzf := HZ.out.2.2.2
       have hr0 := HR.out.h0
       have hr1 := HR.out.h1
       have hr2 := HR.out.h2
       have hx := @box3_set w5 w.heap.size _ _ _ (.slice A es.length c) (.int .i64 st) (.int .i64 (n : Int)) hz0 hz1 hz2
       have hO := Lib.hid (HR.out.own.chg (((Chg.setCell (S := fun k => k = w.heap.size) w5 (p := ⟨w.heap.size, 0, none⟩) rfl (.slice A es.length c)).trans (Chg.setCell (S := fun k => k = w.heap.size) _ (p := ⟨w.heap.size, 1, none⟩) rfl (.int .i64 st))).trans (Chg.setCell (S := fun k => k = w.heap.size) _ (p := ⟨w.heap.size, 2, none⟩) rfl (.int .i64 (n : Int)))) (fun k hk e => by have := (HR.out.own.ge k hk).1; omega))
       have hw0 := hx.1
       have hw1 := hx.2.1
       have hw2 := hx.2.2
       try simp only [List.length_nil] at hw0 hw1 hw2
       go_wp2_with fail
       refine bodyPost_ret (v := .agg #[.slice A es.length c, .int .i64 st, .int .i64 (n : Int)]) (by simp [results, Tryz.results101, go_sem, hw0, hw1, hw2]) rfl ?_
       refine ⟨A, c, by rw [HF.out], ?_, ?_⟩
       · rw [HF.out]; exact hO.out.mono (by omega)
       · repeat (refine ext_set ?_ (by simp; try omega) _)
         exact HW.out
     | true =>
     have HV : Hid (vEn en = true) := Lib.hid (HVE.out rfl)
     have hday := (vEn_iff.1 HV.out).1
     have hbd := stpb_bd st (wrb en)
     have HST : Hid (∀ d os, Calls Tryz.prog 168 #[.int .i64 st, .agg #[.int .i64 en.day, .string en.what, .int .i64 en.val]] (grow (redrawn w4 d) os) (Ret (.int .i64 (stpb st (wrb en))) (grow (redrawn w4 d) os))) := Lib.hid fun d os => impl_stamp st _ en _ hst0 hst1 HV.out rfl (HEV.out _ (ext_trans HW.out (below_regrown _ _ _))).lay
     obtain ⟨st2, hst2⟩ : ∃ st2, stpb st (wrb en) = st2 := ⟨_, rfl⟩
     have HTS : Hid (stmp st (wrd en) = st2) := Lib.hid hst2
     rw [hst2] at HST hbd
     clear hst2
     by_cases h0 : es.length = 0
     · have hes0 : es = [] := List.eq_nil_of_length_eq_zero h0
       subst hes0
       have HLD : Hid (lday ([] : List EN) ≤ en.day) := Lib.hid hday.1
       clear hday h0
       by_cases hq : st2 = so
       · subst hq
         have HF : Hid (rdLog s.data.toList = rdAt s.data.toList (([] : List EN) ++ [en]) st2 (n + (k + 1))) := Lib.hid (by rw [HL.out]; refine rdAt_step ?_; rw [HYS.out rfl, if_pos ⟨HLD.out, HTS.out⟩, HTS.out])
         have f8q : (st2 != st2) = false := by simp
         refine wp_region_quiet_below (by kernel_rfl) (by kernel_rfl) ?_
         repeat (go_big_quiet_step ((go_at_call 168; exact regrown_r (HST.out _ _))))
         refine wpQuiet_nil ?_
         intro w' hw'
         obtain ⟨p, rfl⟩ := hw'
         replace HR := Lib.hid (HR.out.ext (below_regrown w4 p.d p.os))
         replace HZ := Lib.hid (HZ.out.ext (below_regrown w4 p.d p.os))
         replace HP4 := Lib.hid (HP4.out.ext (below_regrown w4 p.d p.os))
         replace HW := Lib.hid (ext_trans HW.out (below_regrown w4 p.d p.os))
         clear x0 x1 p0 p1 p2
         generalize grow (redrawn w4 p.d) p.os = w5 at *
         clear f8q
         have hz0 := HR.out.h0
         have hp0 := HP4.out.1
         have hp1 := HP4.out.2.1
         have hp2 := HP4.out.2.2
         have hB5 : w.heap.size + 2 ≤ w5.heap.size := by have := block_lt_of_cell hp0; simp only [] at this; omega
         have hlz := HLZ.out
         go_wp2_with (at_builtin; refine wpList_append_en rfl _ _ rfl (w.heap.size + 2) (.slice A ([] : List EN).length c) ([] : List EN) en rfl rfl HR.out.own (by first | omega | (simp only [List.length_nil] at *; omega)) hB5 ?_; intro gg cap w8 hown8 hgrow; (obtain ⟨ha0, ha1, ha2, haf⟩ := RI3.mid HR.out (ext_alloc1 w5 _) hgrow); (have HS8 := Lib.hid (RI3.step HR.out (ext_alloc1 w5 _) hgrow hB5 hown8 st2 (n + (k + 1)))); clear hown8 hgrow hz0 hp0 hp1 hp2)
         go_roundg (gk - (k + 1))
         case measure => omega
         case rel =>
           refine ⟨([] : List EN) ++ [en], st2, n + (k + 1), some ⟨gg, 0, none⟩, cap, by omega, by rw [List.length_append]; simp only [List.length_cons, List.length_nil] at *; omega, by omega, hbd.1, hbd.2, Lib.hid HS8.out.1, Lib.hid (HZ.out.chg HS8.out.2 (by omega)), HF.out, Lib.hid (Chg.ext HW.out HS8.out.2 (fun b hb => by omega))⟩
       · have f8q : (st2 != so) = true := by simpa using hq
         have HF : Hid (rdLog s.data.toList = (([] : List EN), st, n)) := Lib.hid (by rw [HL.out, rdAt_stop]; rw [HYS.out rfl, if_neg]; intro h; exact hq (by rw [← HTS.out]; exact h.2))
         clear hq
         refine wp_region_quiet_below (by kernel_rfl) (by kernel_rfl) ?_
         repeat (go_big_quiet_step ((go_at_call 168; exact regrown_r (HST.out _ _))))
         refine wpQuiet_nil ?_
         intro w' hw'
         obtain ⟨p, rfl⟩ := hw'
         replace HR := Lib.hid (HR.out.ext (below_regrown w4 p.d p.os))
         replace HZ := Lib.hid (HZ.out.ext (below_regrown w4 p.d p.os))
         replace HP4 := Lib.hid (HP4.out.ext (below_regrown w4 p.d p.os))
         replace HW := Lib.hid (ext_trans HW.out (below_regrown w4 p.d p.os))
         clear x0 x1 p0 p1 p2
         generalize grow (redrawn w4 p.d) p.os = w5 at *
         clear f8q
         have hz0 := HZ.out.1
         have hz1 := HZ.out.2.1
         have hz2 := HZ.out.2.2.1
         have hzf := HZ.out.2.2.2
         have hr0 := HR.out.h0
         have hr1 := HR.out.h1
         have hr2 := HR.out.h2
         have hx := @box3_set w5 w.heap.size _ _ _ (.slice A ([] : List EN).length c) (.int .i64 st) (.int .i64 (n : Int)) hz0 hz1 hz2
         have hO := Lib.hid (HR.out.own.chg (((Chg.setCell (S := fun k => k = w.heap.size) w5 (p := ⟨w.heap.size, 0, none⟩) rfl (.slice A ([] : List EN).length c)).trans (Chg.setCell (S := fun k => k = w.heap.size) _ (p := ⟨w.heap.size, 1, none⟩) rfl (.int .i64 st))).trans (Chg.setCell (S := fun k => k = w.heap.size) _ (p := ⟨w.heap.size, 2, none⟩) rfl (.int .i64 (n : Int)))) (fun k hk e => by have := (HR.out.own.ge k hk).1; omega))
         have hw0 := hx.1
         have hw1 := hx.2.1
         have hw2 := hx.2.2
         try simp only [List.length_nil] at hw0 hw1 hw2
         go_wp2_with fail
         refine bodyPost_ret (v := .agg #[.slice A ([] : List EN).length c, .int .i64 st, .int .i64 (n : Int)]) (by simp [results, Tryz.results101, go_sem, hw0, hw1, hw2]) rfl ?_
         refine ⟨A, c, by rw [HF.out], ?_, ?_⟩
         · rw [HF.out]; exact hO.out.mono (by omega)
         · repeat (refine ext_set ?_ (by simp; try omega) _)
           exact HW.out
     · obtain ⟨j, hj⟩ : ∃ j, es.length = j + 1 := ⟨es.length - 1, by omega⟩
       have HJ := Lib.hid hj
       have HLG : Hid (lday es = (gd es j).day) := Lib.hid (by rw [lday_get (by omega), hj]; rfl)
       obtain ⟨ad, rfl, _, hc⟩ := HR.out.own.rd.at (show j < es.length by omega)
       have y0 := fun d os => cell_regrown (d := d) (os := os) (hc j (by omega)).1
       have f1 : (0 : Int) < (es.length : Int) := by omega
       have f8 : decide (0 < es.length) = true := decide_eq_true (by omega)
       have f9 : 0 < es.length := by omega
       have f2 : (es.length : Int) - 1 = j := by omega
       have f3 : (0 : Int) ≤ j := by omega
       have f4 : (j : Int) < (es.length : Int) := by omega
       have f5 : IntKind.i64.wrap (j : Int) = j := IntWalk.i64_in _ (by omega)
       have f6 : (j : Int).toNat = j := by omega
       clear hc h0 hj hday
       by_cases hd : en.day < (gd es j).day
       · have HF : Hid (rdLog s.data.toList = (es, st, n)) := Lib.hid (by rw [HL.out, rdAt_stop]; rw [HYS.out rfl, if_neg]; intro h; rw [HLG.out] at h; omega)
         have f7 : decide ((gd es j).day > en.day) = true := decide_eq_true hd
         clear hd
         refine wp_region_quiet_below (by kernel_rfl) (by kernel_rfl) ?_
         repeat (go_big_quiet_step ((go_at_call 168; exact regrown_r (HST.out _ _))))
         refine wpQuiet_nil ?_
         intro w' hw'
         obtain ⟨p, rfl⟩ := hw'
         replace HR := Lib.hid (HR.out.ext (below_regrown w4 p.d p.os))
         replace HZ := Lib.hid (HZ.out.ext (below_regrown w4 p.d p.os))
         replace HP4 := Lib.hid (HP4.out.ext (below_regrown w4 p.d p.os))
         replace HW := Lib.hid (ext_trans HW.out (below_regrown w4 p.d p.os))
         clear x0 x1 p0 p1 p2
         generalize grow (redrawn w4 p.d) p.os = w5 at *
         clear y0 f1 f2 f3 f4 f5 f6 f7 f8 f9
         have hz0 := HZ.out.1
         have hz1 := HZ.out.2.1
         have hz2 := HZ.out.2.2.1
         have hzf := HZ.out.2.2.2
         have hr0 := HR.out.h0
         have hr1 := HR.out.h1
         have hr2 := HR.out.h2
         have hx := @box3_set w5 w.heap.size _ _ _ (.slice (some ad) es.length c) (.int .i64 st) (.int .i64 (n : Int)) hz0 hz1 hz2
         have hO := Lib.hid (HR.out.own.chg (((Chg.setCell (S := fun k => k = w.heap.size) w5 (p := ⟨w.heap.size, 0, none⟩) rfl (.slice (some ad) es.length c)).trans (Chg.setCell (S := fun k => k = w.heap.size) _ (p := ⟨w.heap.size, 1, none⟩) rfl (.int .i64 st))).trans (Chg.setCell (S := fun k => k = w.heap.size) _ (p := ⟨w.heap.size, 2, none⟩) rfl (.int .i64 (n : Int)))) (fun k hk e => by have := (HR.out.own.ge k hk).1; omega))
         have hw0 := hx.1
         have hw1 := hx.2.1
         have hw2 := hx.2.2
         try simp only [List.length_nil] at hw0 hw1 hw2
         go_wp2_with fail
         refine bodyPost_ret (v := .agg #[.slice (some ad) es.length c, .int .i64 st, .int .i64 (n : Int)]) (by simp [results, Tryz.results101, go_sem, hw0, hw1, hw2]) rfl ?_
         refine ⟨(some ad), c, by rw [HF.out], ?_, ?_⟩
         · rw [HF.out]; exact hO.out.mono (by omega)
         · repeat (refine ext_set ?_ (by simp; try omega) _)
           exact HW.out
       · have f7 : decide ((gd es j).day > en.day) = false := decide_eq_false hd
         have HLD : Hid (lday es ≤ en.day) := Lib.hid (by rw [HLG.out]; omega)
         clear hd
         by_cases hq : st2 = so
         · subst hq
           have HF : Hid (rdLog s.data.toList = rdAt s.data.toList (es ++ [en]) st2 (n + (k + 1))) := Lib.hid (by rw [HL.out]; refine rdAt_step ?_; rw [HYS.out rfl, if_pos ⟨HLD.out, HTS.out⟩, HTS.out])
           have f8q : (st2 != st2) = false := by simp
           refine wp_region_quiet_below (by kernel_rfl) (by kernel_rfl) ?_
           repeat (go_big_quiet_step ((go_at_call 168; exact regrown_r (HST.out _ _))))
           refine wpQuiet_nil ?_
           intro w' hw'
           obtain ⟨p, rfl⟩ := hw'
           replace HR := Lib.hid (HR.out.ext (below_regrown w4 p.d p.os))
           replace HZ := Lib.hid (HZ.out.ext (below_regrown w4 p.d p.os))
           replace HP4 := Lib.hid (HP4.out.ext (below_regrown w4 p.d p.os))
           replace HW := Lib.hid (ext_trans HW.out (below_regrown w4 p.d p.os))
           clear x0 x1 p0 p1 p2
           generalize grow (redrawn w4 p.d) p.os = w5 at *
           clear f8q
           have hz0 := HR.out.h0
           have hp0 := HP4.out.1
           have hp1 := HP4.out.2.1
           have hp2 := HP4.out.2.2
           have hB5 : w.heap.size + 2 ≤ w5.heap.size := by have := block_lt_of_cell hp0; simp only [] at this; omega
           have hlz := HLZ.out
           go_wp2_with (at_builtin; refine wpList_append_en rfl _ _ rfl (w.heap.size + 2) (.slice (some ad) es.length c) es en rfl rfl HR.out.own (by first | omega | (simp only [List.length_nil] at *; omega)) hB5 ?_; intro gg cap w8 hown8 hgrow; (obtain ⟨ha0, ha1, ha2, haf⟩ := RI3.mid HR.out (ext_alloc1 w5 _) hgrow); (have HS8 := Lib.hid (RI3.step HR.out (ext_alloc1 w5 _) hgrow hB5 hown8 st2 (n + (k + 1)))); clear hown8 hgrow hz0 hp0 hp1 hp2)
           go_roundg (gk - (k + 1))
           case measure => omega
           case rel =>
             refine ⟨es ++ [en], st2, n + (k + 1), some ⟨gg, 0, none⟩, cap, by omega, by rw [List.length_append]; simp only [List.length_cons, List.length_nil] at *; omega, by omega, hbd.1, hbd.2, Lib.hid HS8.out.1, Lib.hid (HZ.out.chg HS8.out.2 (by omega)), HF.out, Lib.hid (Chg.ext HW.out HS8.out.2 (fun b hb => by omega))⟩
         · have f8q : (st2 != so) = true := by simpa using hq
           have HF : Hid (rdLog s.data.toList = (es, st, n)) := Lib.hid (by rw [HL.out, rdAt_stop]; rw [HYS.out rfl, if_neg]; intro h; exact hq (by rw [← HTS.out]; exact h.2))
           clear hq
           refine wp_region_quiet_below (by kernel_rfl) (by kernel_rfl) ?_
           repeat (go_big_quiet_step ((go_at_call 168; exact regrown_r (HST.out _ _))))
           refine wpQuiet_nil ?_
           intro w' hw'
           obtain ⟨p, rfl⟩ := hw'
           replace HR := Lib.hid (HR.out.ext (below_regrown w4 p.d p.os))
           replace HZ := Lib.hid (HZ.out.ext (below_regrown w4 p.d p.os))
           replace HP4 := Lib.hid (HP4.out.ext (below_regrown w4 p.d p.os))
           replace HW := Lib.hid (ext_trans HW.out (below_regrown w4 p.d p.os))
           clear x0 x1 p0 p1 p2
           generalize grow (redrawn w4 p.d) p.os = w5 at *
           clear f8q
           have hz0 := HZ.out.1
           have hz1 := HZ.out.2.1
           have hz2 := HZ.out.2.2.1
           have hzf := HZ.out.2.2.2
           have hr0 := HR.out.h0
           have hr1 := HR.out.h1
           have hr2 := HR.out.h2
           have hx := @box3_set w5 w.heap.size _ _ _ (.slice (some ad) es.length c) (.int .i64 st) (.int .i64 (n : Int)) hz0 hz1 hz2
           have hO := Lib.hid (HR.out.own.chg (((Chg.setCell (S := fun k => k = w.heap.size) w5 (p := ⟨w.heap.size, 0, none⟩) rfl (.slice (some ad) es.length c)).trans (Chg.setCell (S := fun k => k = w.heap.size) _ (p := ⟨w.heap.size, 1, none⟩) rfl (.int .i64 st))).trans (Chg.setCell (S := fun k => k = w.heap.size) _ (p := ⟨w.heap.size, 2, none⟩) rfl (.int .i64 (n : Int)))) (fun k hk e => by have := (HR.out.own.ge k hk).1; omega))
           have hw0 := hx.1
           have hw1 := hx.2.1
           have hw2 := hx.2.2
           try simp only [List.length_nil] at hw0 hw1 hw2
           go_wp2_with fail
           refine bodyPost_ret (v := .agg #[.slice (some ad) es.length c, .int .i64 st, .int .i64 (n : Int)]) (by simp [results, Tryz.results101, go_sem, hw0, hw1, hw2]) rfl ?_
           refine ⟨(some ad), c, by rw [HF.out], ?_, ?_⟩
           · rw [HF.out]; exact hO.out.mono (by omega)
           · repeat (refine ext_set ?_ (by simp; try omega) _)
             exact HW.out
end Go.Proofs.YtfgopboddkhckaaGreatDoor
namespace Go.Proofs.YtfgopboddkhckaaGreatDoor
open Go.ChangeShapes Go.WideShapes Go.ChangeAt Go.RowKit Go.Sort
set_option linter.unusedVariables false
set_option maxRecDepth 100000
attribute [local go_sem ↓] Go.wp_at_zero Go.wp_at_succ
theorem box4 (w : World) (a b c d : Value) (T : TypeId) (W' : World) (hb : Below (w.alloc (.cells #[a, b, c, d] T)).heap.size (w.alloc (.cells #[a, b, c, d] T)) W') :
   W'.cell? ⟨w.heap.size, 0, none⟩ = some a ∧ W'.cell? ⟨w.heap.size, 1, none⟩ = some b ∧ W'.cell? ⟨w.heap.size, 2, none⟩ = some c ∧ W'.cell? ⟨w.heap.size, 3, none⟩ = some d ∧ ∀ j, W'.frozen? ⟨w.heap.size, j, none⟩ = false := by
 refine ⟨cell_keep (by simp [go_sem]) hb, cell_keep (by simp [go_sem]) hb, cell_keep (by simp [go_sem]) hb, cell_keep (by simp [go_sem]) hb, fun j => ?_⟩
 rw [hb.frozen (p := ⟨w.heap.size, j, none⟩) (by simp)]
 unfold World.frozen?
 simp only [heap_alloc_new]
 simp
theorem rdL_le (s : List UInt8) : ∀ (f : Nat) (es : List EN) (st : Int) (n : Nat), es.length ≤ n → n ≤ s.length → 0 ≤ st → st ≤ 65518 → (rdL s f es st n).1.length ≤ (rdL s f es st n).2.2 ∧ (rdL s f es st n).2.2 ≤ s.length ∧ 0 ≤ (rdL s f es st n).2.1 ∧ (rdL s f es st n).2.1 ≤ 65518
 | 0, es, st, n, h1, h2, h3, h4 => ⟨h1, h2, h3, h4⟩
 | f + 1, es, st, n, h1, h2, h3, h4 => by
   rw [rdL]
   split
   · rename_i e st' k hk
     have h := stepL_some hk
     have hp := linL_pos st' e
     have hk1 : k ≤ s.length - n := by have := h.2.2.2.2.2; rw [List.length_drop] at this; exact this
     have hs := stmp_bd st (wrd e)
     refine rdL_le s f _ _ _ (by rw [List.length_append]; simp; omega) (by omega) (by rw [h.2.2.1]; exact hs.1) (by rw [h.2.2.1]; exact hs.2)
   · exact ⟨h1, h2, h3, h4⟩
theorem rdLog_le (s : ByteArray) : (rdLog s.data.toList).1.length ≤ (rdLog s.data.toList).2.2 ∧ (rdLog s.data.toList).2.2 ≤ s.size ∧ 0 ≤ (rdLog s.data.toList).2.1 ∧ (rdLog s.data.toList).2.1 ≤ 65518 := by
 have := rdL_le s.data.toList (s.data.toList.length + 1) [] 0 0 (by simp) (by omega) (by omega) (by omega)
 rw [size_toList] at this
 unfold rdLog rdAt
 rw [size_toList]
 exact this
def SReadP (s : ByteArray) (w : World) : Ending → World → Prop := fun e w' =>
  ∃ g A c, e = .returned (.pointer (some ⟨g, 0, none⟩)) ∧ RR w' w.heap.size g s (rdLog s.data.toList).1 (rdLog s.data.toList).2.1 (rdLog s.data.toList).2.2 A c ∧ Below w.heap.size w w'
set_option maxHeartbeats 3200000 in
theorem spec_Read (s : ByteArray) (hs : s.size ≤ 1048576) (w : World) :
   Calls Tryz.prog 135 #[.string s] w (SReadP s w) := by
 go_enter Tryz.func135, Tryz.ntmps135
 go_wp2_with fail
 go_loopg [9] (s.size + 1) (fun gk u9 wr => ∃ (es : List EN) (st : Int) (n : Nat) (A : Option Addr) (c : Nat), n + gk = s.size + 1 ∧ es.length ≤ n ∧ n ≤ s.size ∧ 0 ≤ st ∧ st ≤ 65518 ∧ Hid (RR wr w.heap.size (w.heap.size + 1) s es st n A c) ∧ Hid (rdLog s.data.toList = rdAt s.data.toList es st n) ∧ Hid (Below w.heap.size w wr))
 case atStart =>
   refine ⟨[], 0, 0, some ⟨w.heap.size, 0, none⟩, 0, by omega, by simp, by omega, by omega, by omega, Lib.hid ?_, rfl, Lib.hid (ext_alloc (ext_alloc1 _ _) _)⟩
   have h := box4 (w.alloc (.cells #[] 130)) (.string s) (.int .i64 0) (.int .i64 0) (.slice (some ⟨w.heap.size, 0, none⟩) 0 0) 152 _ (ext_refl _)
   simp only [World.size_alloc] at h
   refine ⟨h.1, h.2.1, h.2.2.1, h.2.2.2.1, h.2.2.2.2, World.ownsRow.alloc (World.ownsRow_lit _ #[] 0 (Nat.le_refl _) (by simp [maxLen]) (by simp)) _, fun k hk => ?_, by omega⟩
   have : w.heap.size = k := by simpa [BI, Value.ownBlock] using hk
   omega
 case round =>
   obtain ⟨es, st, n, A, c, hgk, hes, hn, hst0, hst1, HR, HL, HW⟩ := hrel
   have HC := Lib.hid (spec_rline w.heap.size (w.heap.size + 1) s es st n A c wr HR.out hn hs hes hst0 hst1)
   cases hr : stepL es st (s.data.toList.drop n) with
   | none =>
     have HF : Hid (rdLog s.data.toList = (es, st, n)) := Lib.hid (by rw [HL.out, rdAt_stop hr])
     rw [hr] at HC
     clear hr
     go_wp2_with fail
     refine (show Calls _ _ _ _ _ from HC.out).mono ?_
     rintro e w2 ⟨A2, c2, rfl, hR2, hb2⟩
     replace HR := Lib.hid hR2
     replace HW := Lib.hid (HW.out.trans hb2)
     clear hR2 hb2 HC
     go_wp2_with fail
     go_ret
     refine ⟨w.heap.size + 1, A2, c2, rfl, ?_, HW.out⟩
     rw [HF.out]; exact HR.out
   | some r =>
     obtain ⟨en, st2, k⟩ := r
     have h := stepL_some hr
     have hp := linL_pos st2 en
     have hk1 : k ≤ s.size - n := by have := h.2.2.2.2.2; rw [List.length_drop, size_toList] at this; exact this
     have hk2 : 0 < k := by rw [h.2.2.2.2.1]; exact hp
     have hsb := stmp_bd st (wrd en)
     have hs0 : 0 ≤ st2 := by rw [h.2.2.1]; exact hsb.1
     have hs1 : st2 ≤ 65518 := by rw [h.2.2.1]; exact hsb.2
     have HF : Hid (rdLog s.data.toList = rdAt s.data.toList (es ++ [en]) st2 (n + k)) := Lib.hid (by rw [HL.out]; exact rdAt_step hr)
     rw [hr] at HC
     clear hr h hp hsb
     go_wp2_with fail
     refine (show Calls _ _ _ _ _ from HC.out).mono ?_
     rintro e w2 ⟨A2, c2, rfl, hR2, hb2⟩
     replace HR := Lib.hid hR2
     replace HW := Lib.hid (HW.out.trans hb2)
     clear hR2 hb2 HC
     go_wp2_with fail
     go_roundg (gk - k)
     case measure => omega
     case rel => exact ⟨es ++ [en], st2, n + k, A2, c2, by omega, by rw [List.length_append]; simp; omega, by omega, hs0, hs1, HR, HF, HW⟩
def lgC (s : ByteArray) : Int := if 4000 < s.size then 5 else if (rdLog s.data.toList).2.2 = s.size then 0 else 8
def SCodeP (s : ByteArray) (w : World) : Ending → World → Prop := fun e w' =>
  ∃ g A c, e = .returned (.tuple #[.pointer (some ⟨g, 0, none⟩), .int .i64 (lgC s)]) ∧ (lgC s = 0 → RR w' w.heap.size g s (rdLog s.data.toList).1 (rdLog s.data.toList).2.1 (rdLog s.data.toList).2.2 A c) ∧ Below w.heap.size w w'
set_option maxHeartbeats 1600000 in
theorem spec_Code (s : ByteArray) (hs : s.size ≤ 1048576) (w : World) :
   Calls Tryz.prog 72 #[.string s] w (SCodeP s w) := by
 by_cases h4 : 4000 < s.size
 · have HF : Hid (lgC s = 5) := Lib.hid (by unfold lgC; rw [if_pos h4])
   have e1 : (4000 : Int) < s.size := by omega
   clear h4
   go_enter Tryz.func72, Tryz.ntmps72
   go_wp2_with fail
   go_ret2
   exact ⟨w.heap.size, none, 0, (by rw [HF.out]; rfl), (fun h => absurd h (by rw [HF.out]; decide)), ext_alloc1 _ _⟩
 · have e1 : ¬ (4000 : Int) < s.size := by omega
   have HC := Lib.hid (spec_Read s hs w)
   have HF : Hid (lgC s = if (rdLog s.data.toList).2.2 = s.size then 0 else 8) := Lib.hid (by unfold lgC; rw [if_neg h4])
   clear h4
   go_enter Tryz.func72, Tryz.ntmps72
   go_wp2_with fail
   refine (show Calls _ _ _ _ _ from HC.out).mono ?_
   rintro e w2 ⟨g, A, c, rfl, hR, hb⟩
   have HR := Lib.hid hR
   have HW := Lib.hid hb
   have r1 := hR.h1
   clear hR hb HC
   by_cases hn : (rdLog s.data.toList).2.2 = s.size
   · have HG : Hid (lgC s = 0) := Lib.hid (by rw [HF.out, if_pos hn])
     rw [hn] at r1
     clear hn
     go_wp2_with fail
     go_ret2
     exact ⟨g, A, c, (by rw [HG.out]; rfl), fun _ => HR.out, HW.out⟩
   · have HG : Hid (lgC s = 8) := Lib.hid (by rw [HF.out, if_neg hn])
     have e2 : (((rdLog s.data.toList).2.2 : Int) != (s.size : Int)) = true := by simp; omega
     clear hn
     go_wp2_with fail
     go_ret2
     exact ⟨g, A, c, (by rw [HG.out]; rfl), (fun h => absurd h (by rw [HG.out]; decide)), HW.out⟩
end Go.Proofs.YtfgopboddkhckaaGreatDoor
namespace Go.Proofs.YtfgopboddkhckaaGreatDoor
open Go.ChangeShapes Go.WideShapes Go.ChangeAt Go.RowKit Go.Sort
set_option linter.unusedVariables false
set_option maxRecDepth 100000
attribute [local go_sem ↓] Go.wp_at_zero Go.wp_at_succ
def lgE (s : ByteArray) : List EN := if lgC s = 0 then (rdLog s.data.toList).1 else []
def lgS (s : ByteArray) : Int := if lgC s = 0 then (rdLog s.data.toList).2.1 else 0
def lgN (s : ByteArray) : Int := if lgC s = 0 then (rdLog s.data.toList).2.2 else 0
theorem lg_no {s : ByteArray} (h : lgC s ≠ 0) : lgE s = [] ∧ lgS s = 0 ∧ lgN s = 0 := by unfold lgE lgS lgN; rw [if_neg h, if_neg h, if_neg h]; exact ⟨rfl, rfl, rfl⟩
theorem lg_yes {s : ByteArray} (h : lgC s = 0) : lgE s = (rdLog s.data.toList).1 ∧ lgS s = (rdLog s.data.toList).2.1 ∧ lgN s = (rdLog s.data.toList).2.2 := by unfold lgE lgS lgN; rw [if_pos h, if_pos h, if_pos h]; exact ⟨rfl, rfl, rfl⟩
theorem rdL_ok (s : List UInt8) : ∀ (f : Nat) (es : List EN) (st : Int) (n : Nat), (∀ e ∈ es, vEn e = true) → ∀ e ∈ (rdL s f es st n).1, vEn e = true
 | 0, es, st, n, h => h
 | f + 1, es, st, n, h => by
   rw [rdL]
   split
   · rename_i e st' k hk
     refine rdL_ok s f _ _ _ (fun x hx => ?_)
     rcases List.mem_append.1 hx with hx | hx
     · exact h x hx
     · simp only [List.mem_singleton] at hx; subst hx; exact (stepL_some hk).1
   · exact h
theorem lgE_ok (s : ByteArray) : ∀ e ∈ lgE s, vEn e = true := by
 unfold lgE
 split
 · exact rdL_ok _ _ [] 0 0 (fun e he => by simp at he)
 · intro e he; simp at he
theorem lgE_len (s : ByteArray) : (lgE s).length ≤ 4000 := by
 by_cases h : lgC s = 0
 · rw [(lg_yes h).1]
   have h2 := rdLog_le s
   have h3 : ¬ 4000 < s.size := fun h4 => by
     unfold lgC at h
     rw [if_pos h4] at h
     exact absurd h (by decide)
   omega
 · rw [(lg_no h).1]; simp
def ICodeP (s : ByteArray) (w : World) : Ending → World → Prop := fun e w' =>
  ∃ A c, e = .returned (.tuple #[.agg #[.slice A (lgE s).length c, .int .i64 (lgS s), .int .i64 (lgN s)], .int .i64 (lgC s)]) ∧ OENS w' w.heap.size (.slice A (lgE s).length c) (lgE s) ∧ Below w.heap.size w w'
theorem ICodeP.no {s : ByteArray} {w w' : World} {k : Int} (h : lgC s = k) (hk : k ≠ 0) (hb : Below w.heap.size w w') : ICodeP s w (.returned (.tuple #[.agg #[.slice none 0 0, .int .i64 0, .int .i64 0], .int .i64 k])) w' := by
 subst h
 obtain ⟨h1, h2, h3⟩ := lg_no hk
 exact ⟨none, 0, by rw [h1, h2, h3]; rfl, by rw [h1]; exact World.ownsRow_nil _ _ _ _, hb⟩
set_option maxHeartbeats 3200000 in
theorem impl_logCode (s : ByteArray) (hs : s.size ≤ 1048576) (w : World) (hE : Env w) :
   Calls Tryz.prog 149 #[.string s] w (ICodeP s w) := by
 have HZ := Lib.hid (fun W' h => box3 w (.slice none 0 0) (.int .i64 0) (.int .i64 0) 135 W' h)
 by_cases h4 : 4000 < s.size
 · have HF : Hid (lgC s = 5) := Lib.hid (by unfold lgC; rw [if_pos h4])
   have e1 : (4000 : Int) < s.size := by omega
   clear h4 hE
   go_enter Tryz.func149, Tryz.ntmps149
   go_wp2_with fail
   refine bodyPost_ret (v := .tuple #[.agg #[.slice none 0 0, .int .i64 0, .int .i64 0], .int .i64 5]) (by simp [results, Tryz.results149, go_sem]) rfl (ICodeP.no HF.out (by decide) ?_)
   repeat (first | exact ext_alloc1 _ _ | refine ext_set ?_ (by simp; try omega) _)
 · have e1 : ¬ (4000 : Int) < s.size := by omega
   have HC : Hid (∀ o, Calls Tryz.prog 101 #[.string s] (w.alloc o) (RLogP s (w.alloc o))) := Lib.hid fun o => impl_readLog s hs _ (hE.ext (ext_alloc1 w o))
   have HF : Hid (lgC s = if (rdLog s.data.toList).2.2 = s.size then 0 else 8) := Lib.hid (by unfold lgC; rw [if_neg h4])
   have hn := (rdLog_le s).2.1
   clear h4 hE
   go_enter Tryz.func149, Tryz.ntmps149
   go_wp2_with fail
   refine (show Calls _ _ _ _ _ from HC.out _).mono ?_
   rintro e w2 ⟨A, c, rfl, hO, hb⟩
   have HO := Lib.hid hO
   have HW : Hid (Below w.heap.size w w2) := Lib.hid (ext_trans (ext_alloc1 _ _) hb)
   have hz0 := (HZ.out _ hb).1
   have hz1 := (HZ.out _ hb).2.1
   have hz2 := (HZ.out _ hb).2.2.1
   have hzf := (HZ.out _ hb).2.2.2
   have hlt : w.heap.size < w2.heap.size := by have := hb.size; simp at this; omega
   clear hO hb HC HZ
   obtain ⟨es, hes⟩ : ∃ es, (rdLog s.data.toList).1 = es := ⟨_, rfl⟩
   obtain ⟨st, hst⟩ : ∃ st, (rdLog s.data.toList).2.1 = st := ⟨_, rfl⟩
   obtain ⟨n, hnn⟩ : ∃ n, (rdLog s.data.toList).2.2 = n := ⟨_, rfl⟩
   rw [hes] at HO ⊢
   rw [hst, hnn]
   rw [hnn] at hn HF
   have HRD : Hid (rdLog s.data.toList = (es, st, n)) := Lib.hid (by rw [← hes, ← hst, ← hnn])
   clear hes hst hnn
   have hn1 : ¬ w.heap.size = w2.heap.size := by omega
   have hn2 : ¬ w2.heap.size = w.heap.size := by omega
   by_cases hq : n = s.size
   · have HG : Hid (lgC s = 0) := Lib.hid (by rw [HF.out, if_pos hq])
     have e2 : ¬ ((n : Int) < s.size) := by omega
     clear hq
     have hx := @box3_set w2 w.heap.size _ _ _ (.slice A es.length c) (.int .i64 st) (.int .i64 (n : Int)) hz0 hz1 hz2
     have hr0 := fun o => cell_keep hx.1 (ext_alloc1 _ o)
     have hr1 := fun o => cell_keep hx.2.1 (ext_alloc1 _ o)
     have hr2 := fun o => cell_keep hx.2.2 (ext_alloc1 _ o)
     have HO2 := Lib.hid (fun o => (HO.out.chg (((Chg.setCell (S := fun k => k = w.heap.size) w2 (p := ⟨w.heap.size, 0, none⟩) rfl (.slice A es.length c)).trans (Chg.setCell (S := fun k => k = w.heap.size) _ (p := ⟨w.heap.size, 1, none⟩) rfl (.int .i64 st))).trans (Chg.setCell (S := fun k => k = w.heap.size) _ (p := ⟨w.heap.size, 2, none⟩) rfl (.int .i64 (n : Int)))) (fun k hk e => by have := (HO.out.ge k hk).1; simp at this; omega)).ext (ext_alloc1 _ o))
     go_wp2_with fail
     clear hz0 hz1 hz2 hzf
     refine bodyPost_ret (v := .tuple #[.agg #[.slice A es.length c, .int .i64 st, .int .i64 (n : Int)], .int .i64 0]) (by simp [results, Tryz.results149, go_sem, hr0, hr1, hr2]) rfl ?_
     obtain ⟨h1, h2, h3⟩ := lg_yes HG.out
     rw [HRD.out] at h1 h2 h3
     refine ⟨A, c, by rw [h1, h2, h3, HG.out], ?_, ?_⟩
     · rw [h1]; exact (HO2.out _).mono (by simp)
     · repeat (first | refine ext_alloc ?_ _ | refine ext_set ?_ (by simp; try omega) _)
       exact HW.out
   · have HG : Hid (lgC s = 8) := Lib.hid (by rw [HF.out, if_neg hq])
     have e2 : (n : Int) < s.size := by omega
     clear hq
     have hx := @box3_set w2 w.heap.size _ _ _ (.slice none 0 0) (.int .i64 0) (.int .i64 0) hz0 hz1 hz2
     have hr0 := fun o => cell_keep hx.1 (ext_alloc1 _ o)
     have hr1 := fun o => cell_keep hx.2.1 (ext_alloc1 _ o)
     have hr2 := fun o => cell_keep hx.2.2 (ext_alloc1 _ o)
     go_wp2_with fail
     clear hz0 hz1 hz2 hzf
     refine bodyPost_ret (v := .tuple #[.agg #[.slice none 0 0, .int .i64 0, .int .i64 0], .int .i64 8]) (by simp [results, Tryz.results149, go_sem, hr0, hr1, hr2]) rfl (ICodeP.no HG.out (by decide) ?_)
     repeat (first | refine ext_alloc ?_ _ | refine ext_set ?_ (by simp; try omega) _)
     exact HW.out
end Go.Proofs.YtfgopboddkhckaaGreatDoor
