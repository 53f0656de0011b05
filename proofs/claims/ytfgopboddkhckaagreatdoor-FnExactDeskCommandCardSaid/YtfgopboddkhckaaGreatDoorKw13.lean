/-
  Parts of the proof: Log6, Log7.
-/
import Derived.Test.YtfgopboddkhckaaGreatDoorKw12
namespace Go.Proofs.YtfgopboddkhckaaGreatDoor
open Go.ChangeShapes Go.WideShapes Go.ChangeAt Go.RowKit Go.Sort
set_option linter.unusedVariables false
set_option maxRecDepth 100000
attribute [local go_sem ↓] Go.wp_at_zero Go.wp_at_succ
theorem box3 (w : World) (a b c : Value) (T : TypeId) (W' : World) (hb : Below (w.alloc (.cells #[a, b, c] T)).heap.size (w.alloc (.cells #[a, b, c] T)) W') :
   W'.cell? ⟨w.heap.size, 0, none⟩ = some a ∧ W'.cell? ⟨w.heap.size, 1, none⟩ = some b ∧ W'.cell? ⟨w.heap.size, 2, none⟩ = some c ∧ ∀ j, W'.frozen? ⟨w.heap.size, j, none⟩ = false := by
 refine ⟨cell_keep (by simp [go_sem]) hb, cell_keep (by simp [go_sem]) hb, cell_keep (by simp [go_sem]) hb, fun j => ?_⟩
 rw [hb.frozen (p := ⟨w.heap.size, j, none⟩) (by simp)]
 unfold World.frozen?
 simp only [heap_alloc_new]
 simp
theorem box3_set {w : World} {g : Nat} {a b c x y z : Value} (h0 : w.cell? ⟨g, 0, none⟩ = some a) (h1 : w.cell? ⟨g, 1, none⟩ = some b) (h2 : w.cell? ⟨g, 2, none⟩ = some c) :
   (((w.setCell ⟨g, 0, none⟩ x).setCell ⟨g, 1, none⟩ y).setCell ⟨g, 2, none⟩ z).cell? ⟨g, 0, none⟩ = some x ∧ (((w.setCell ⟨g, 0, none⟩ x).setCell ⟨g, 1, none⟩ y).setCell ⟨g, 2, none⟩ z).cell? ⟨g, 1, none⟩ = some y ∧ (((w.setCell ⟨g, 0, none⟩ x).setCell ⟨g, 1, none⟩ y).setCell ⟨g, 2, none⟩ z).cell? ⟨g, 2, none⟩ = some z := by
 refine ⟨?_, ?_, ?_⟩
 · rw [World.cell?_setCell_other _ _ _ _ (by simp), World.cell?_setCell_other _ _ _ _ (by simp)]; exact World.cell?_setCell_same _ _ _ h0
 · rw [World.cell?_setCell_other _ _ _ _ (by simp)]; exact World.cell?_setCell_same _ _ _ (u := b) (by rw [World.cell?_setCell_other _ _ _ _ (by simp)]; exact h1)
 · exact World.cell?_setCell_same _ _ _ (u := c) (by rw [World.cell?_setCell_other _ _ _ _ (by simp), World.cell?_setCell_other _ _ _ _ (by simp)]; exact h2)
def rlE (l : List ByteArray) : EN := if l.length = 4 then enW l else ⟨0, ⟨#[]⟩, 0⟩
def rlS (l : List ByteArray) : Int := if l.length = 4 then rdv (gd l 3) else 0
def rlB (l : List ByteArray) : Bool := decide (l.length = 4) && (rdb (gd l 0) && rdb (gd l 2) && rdb (gd l 3) && vEn (enW l))
set_option maxHeartbeats 3200000 in
theorem impl_readLine (line : ByteArray) (hs : line.size ≤ 1048576) (l : List ByteArray) (hl : spb 32 line = l) (w : World) (hE : Env w) :
   Calls Tryz.prog 167 #[.string line] w (Ret (.tuple #[.agg #[.int .i64 (rlE l).day, .string (rlE l).what, .int .i64 (rlE l).val], .int .i64 (rlS l), .bool (rlB l)]) w) := by
 have HZ := Lib.hid (fun W' h => box3 w (.int .i64 0) (.string ⟨#[]⟩) (.int .i64 0) 130 W' h)
 have HEV : Hid (∀ W', Below w.heap.size w W' → Env W') := Lib.hid fun W' h => hE.ext h
 have HSP : Hid (∀ w, Env w → Calls Tryz.prog 29 #[.string line, .string ⟨#[32]⟩] w fun e w' => ∃ A cp, e = .returned (.slice A l.length cp) ∧ OStr w' w.heap.size (.slice A l.length cp) l ∧ Below w.heap.size w w') := Lib.hid fun w h => by
   have := impl_Split line hs 32 w h
   rw [hl] at this; exact this
 have HSZ : Hid (∀ k, k < l.length → (gd l k).size ≤ 1048576) := Lib.hid fun k hk => by
   have hm : gd l k ∈ spb 32 line := by rw [hl]; exact gd_mem hk
   unfold spb at hm
   obtain ⟨u, hu, he⟩ := List.mem_map.1 hm
   rw [← he, bsq_size]
   have := splL_part hu
   rw [size_toList] at this
   omega
 clear hE hl
 go_enter Tryz.func167, Tryz.ntmps167
 go_wp2_with fail
 refine (show Calls _ _ _ _ _ from HSP.out _ (HEV.out _ (ext_alloc1 _ _))).mono ?_
 rintro e w1 ⟨A1, c1, rfl, hO1, hb1⟩
 have HX1 : Hid (Below (w.alloc (.cells #[.int .i64 0, .string ⟨#[]⟩, .int .i64 0] 130)).heap.size (w.alloc (.cells #[.int .i64 0, .string ⟨#[]⟩, .int .i64 0] 130)) w1) := Lib.hid hb1
 have HW1 : Hid (Below w.heap.size w w1) := Lib.hid (ext_trans (ext_alloc1 _ _) hb1)
 have HO1 := Lib.hid hO1
 clear hb1 hO1 HSP
 by_cases hl4 : l.length = 4
 · obtain ⟨g1, rfl, _, k0, k1, k2, k3⟩ := HO1.out.cells4 hl4
   have HC : Hid (∀ k w, k < 4 → Env w → Calls Tryz.prog 42 #[.string (gd l k)] w (Ret (.tuple #[.int .i64 (rdv (gd l k)), .bool (rdb (gd l k))]) w)) := Lib.hid fun k w hk h => impl_ReadDecimal (gd l k) (HSZ.out k (by omega)) w h
   have HSW : Hid ((gd l 1).size ≤ 1048576) := Lib.hid (HSZ.out 1 (by omega))
   have HRS : Hid (rlS l = rdv (gd l 3)) := Lib.hid (by unfold rlS; rw [if_pos hl4])
   have HRE0 : Hid (rlE l = enW l) := Lib.hid (by unfold rlE; rw [if_pos hl4])
   have HRB0 : Hid (rlB l = (rdb (gd l 0) && rdb (gd l 2) && rdb (gd l 3) && vEn (enW l))) := Lib.hid (by unfold rlB; rw [decide_eq_true hl4]; rfl)
   go_wp2_with fail
   refine (show Calls _ _ _ _ _ from HC.out 0 _ (by omega) (HEV.out _ HW1.out)).mono ?_
   rintro e w2 ⟨rfl, hb2⟩
   have HW2 : Hid (Below w.heap.size w w2) := Lib.hid (ext_trans HW1.out hb2)
   have HX2 := Lib.hid (ext_trans HX1.out hb2)
   replace k1 := cell_keep k1 hb2
   replace k2 := cell_keep k2 hb2
   replace k3 := cell_keep k3 hb2
   clear hb2 k0
   go_wp2_with fail
   refine (show Calls _ _ _ _ _ from HC.out 2 _ (by omega) (HEV.out _ HW2.out)).mono ?_
   rintro e w3 ⟨rfl, hb3⟩
   have HW3 : Hid (Below w.heap.size w w3) := Lib.hid (ext_trans HW2.out hb3)
   have HX3 := Lib.hid (ext_trans HX2.out hb3)
   replace k1 := cell_keep k1 hb3
   replace k3 := cell_keep k3 hb3
   clear hb3 k2
   go_wp2_with fail
   refine (show Calls _ _ _ _ _ from HC.out 3 _ (by omega) (HEV.out _ HW3.out)).mono ?_
   rintro e w4 ⟨rfl, hb4⟩
   have HW4 : Hid (Below w.heap.size w w4) := Lib.hid (ext_trans HW3.out hb4)
   have HX4 := Lib.hid (ext_trans HX3.out hb4)
   replace k1 := cell_keep k1 hb4
   clear hb4 k3
   obtain ⟨en, hen⟩ : ∃ en, enW l = en := ⟨_, rfl⟩
   have q0 : rdv (gd l 0) = en.day := by rw [← hen]; rfl
   have q1 : gd l 1 = en.what := by rw [← hen]; rfl
   have q2 : rdv (gd l 2) = en.val := by rw [← hen]; rfl
   rw [q0, q2]
   rw [q1] at HSW k1
   rw [hen] at HRE0 HRB0
   have HRE := HRE0
   obtain ⟨b0, hb0⟩ : ∃ b, rdb (gd l 0) = b := ⟨_, rfl⟩
   obtain ⟨b2, hb2⟩ : ∃ b, rdb (gd l 2) = b := ⟨_, rfl⟩
   obtain ⟨b3, hb3⟩ : ∃ b, rdb (gd l 3) = b := ⟨_, rfl⟩
   rw [hb0, hb2, hb3] at HRB0
   rw [hb0, hb2, hb3]
   clear hb0 hb2 hb3 q0 q1 q2 hen
   have HOK := Lib.hid (fun w => impl_okEn (.agg #[.int .i64 en.day, .string en.what, .int .i64 en.val]) en w (by unfold LenEN maxLen; have := HSW.out; omega) rfl)
   have hz0 := (HZ.out _ (ext_trans HX4.out (ext_drew (ext_alloc1 w4 (.cells #[.int .i64 en.day, .string en.what, .int .i64 en.val] 130))))).1
   have hz1 := (HZ.out _ (ext_trans HX4.out (ext_drew (ext_alloc1 w4 (.cells #[.int .i64 en.day, .string en.what, .int .i64 en.val] 130))))).2.1
   have hz2 := (HZ.out _ (ext_trans HX4.out (ext_drew (ext_alloc1 w4 (.cells #[.int .i64 en.day, .string en.what, .int .i64 en.val] 130))))).2.2.1
   have hzf := (HZ.out _ (ext_trans HX4.out (ext_drew (ext_alloc1 w4 (.cells #[.int .i64 en.day, .string en.what, .int .i64 en.val] 130))))).2.2.2
   have hsz4 : w.heap.size < w4.heap.size := by have := HX4.out.size; simp at this; omega
   have hx0 : ((w4.alloc (.cells #[.int .i64 en.day, .string en.what, .int .i64 en.val] 130)).drew).cell? ⟨w4.heap.size, 0, none⟩ = some (.int .i64 en.day) := cell_keep (pEN_box w4 en _).1 (ext_drew (ext_refl _))
   have hx1 : ((w4.alloc (.cells #[.int .i64 en.day, .string en.what, .int .i64 en.val] 130)).drew).cell? ⟨w4.heap.size, 1, none⟩ = some (.string en.what) := cell_keep (pEN_box w4 en _).2.1 (ext_drew (ext_refl _))
   have hx2 : ((w4.alloc (.cells #[.int .i64 en.day, .string en.what, .int .i64 en.val] 130)).drew).cell? ⟨w4.heap.size, 2, none⟩ = some (.int .i64 en.val) := cell_keep (pEN_box w4 en _).2.2 (ext_drew (ext_refl _))
   have hn1 : ¬ w.heap.size = w4.heap.size := by omega
   have hn2 : ¬ w4.heap.size = w.heap.size := by omega
   have hv0 := (HZ.out _ HX4.out).1
   have hv1 := (HZ.out _ HX4.out).2.1
   have hv2 := (HZ.out _ HX4.out).2.2.1
   have hvf := (HZ.out _ HX4.out).2.2.2
   by_cases hb : b0 = true ∧ b2 = true ∧ b3 = true
   · obtain ⟨rfl, rfl, rfl⟩ := hb
     have HRB : Hid (rlB l = vEn en) := Lib.hid (by rw [HRB0.out]; simp)
     go_wp2_with fail
     go_region_held3 (fun w' => w'.cell? ⟨w4.heap.size, 0, none⟩ = some (.int .i64 en.day) ∧ w'.cell? ⟨w4.heap.size, 1, none⟩ = some (.string en.what) ∧ w'.cell? ⟨w4.heap.size, 2, none⟩ = some (.int .i64 en.val)) (first | go_keep | exact ⟨hxx0, hxx1, hxx2⟩)
       ((go_at_call 217; (with_reducible refine (show Calls _ _ _ _ _ from HOK.out _).mono ?_); rintro e w5 ⟨rfl, hb5⟩; have hy0 := cell_keep hz0 hb5; have hy1 := cell_keep hz1 hb5; have hy2 := cell_keep hz2 hb5; have hyf := fun j => (hb5.frozen (p := ⟨w.heap.size, j, none⟩) (by simp; omega)).trans (hzf j); have hxx0 := cell_keep hx0 hb5; have hxx1 := cell_keep hx1 hb5; have hxx2 := cell_keep hx2 hb5))
     go_wp2_with fail
     refine bodyPost_ret (v := .tuple #[.agg #[.int .i64 en.day, .string en.what, .int .i64 en.val], .int .i64 (rdv (gd l 3)), .bool (vEn en)]) (by simp [results, Tryz.results167, go_sem, hy0, hy1, hy2]) rfl ⟨?_, ?_⟩
     · rw [HRE.out, HRS.out, HRB.out]
     · repeat (refine ext_set ?_ (by simp; try omega) _)
       exact ext_trans HW4.out (ext_trans (ext_drew (ext_alloc1 _ _)) hb5)
   · have HRB : Hid (rlB l = false) := Lib.hid (by
       rw [HRB0.out]
       cases b0 <;> cases b2 <;> cases b3 <;> simp_all)
     cases b0 with
     | false =>
       clear hb
       go_wp2_with fail
       go_region
       all_goals
         have hr := @box3_set w4 w.heap.size _ _ _ (.int .i64 en.day) (.string en.what) (.int .i64 en.val) hv0 hv1 hv2
         have hr0 := fun o => cell_keep hr.1 (ext_drew (ext_alloc1 _ o))
         have hr1 := fun o => cell_keep hr.2.1 (ext_drew (ext_alloc1 _ o))
         have hr2 := fun o => cell_keep hr.2.2 (ext_drew (ext_alloc1 _ o))
         go_wp2_with fail
         clear hv0 hv1 hv2 hvf hz0 hz1 hz2 hzf hx0 hx1 hx2
         refine bodyPost_ret (v := .tuple #[.agg #[.int .i64 en.day, .string en.what, .int .i64 en.val], .int .i64 (rdv (gd l 3)), .bool false]) (by simp [results, Tryz.results167, go_sem, hr0, hr1, hr2]) rfl ⟨?_, ?_⟩
         · rw [HRE.out, HRS.out, HRB.out]
         · repeat (first | refine ext_drew ?_ | refine ext_alloc ?_ _ | refine ext_set ?_ (by simp; try omega) _)
           exact HW4.out
     | true =>
     cases b2 with
     | false =>
       clear hb
       go_wp2_with fail
       go_region
       all_goals
         have hr := @box3_set w4 w.heap.size _ _ _ (.int .i64 en.day) (.string en.what) (.int .i64 en.val) hv0 hv1 hv2
         have hr0 := fun o => cell_keep hr.1 (ext_drew (ext_alloc1 _ o))
         have hr1 := fun o => cell_keep hr.2.1 (ext_drew (ext_alloc1 _ o))
         have hr2 := fun o => cell_keep hr.2.2 (ext_drew (ext_alloc1 _ o))
         go_wp2_with fail
         clear hv0 hv1 hv2 hvf hz0 hz1 hz2 hzf hx0 hx1 hx2
         refine bodyPost_ret (v := .tuple #[.agg #[.int .i64 en.day, .string en.what, .int .i64 en.val], .int .i64 (rdv (gd l 3)), .bool false]) (by simp [results, Tryz.results167, go_sem, hr0, hr1, hr2]) rfl ⟨?_, ?_⟩
         · rw [HRE.out, HRS.out, HRB.out]
         · repeat (first | refine ext_drew ?_ | refine ext_alloc ?_ _ | refine ext_set ?_ (by simp; try omega) _)
           exact HW4.out
     | true =>
     cases b3 with
     | false =>
       clear hb
       go_wp2_with fail
       go_region
       all_goals
         have hr := @box3_set w4 w.heap.size _ _ _ (.int .i64 en.day) (.string en.what) (.int .i64 en.val) hv0 hv1 hv2
         have hr0 := fun o => cell_keep hr.1 (ext_drew (ext_alloc1 _ o))
         have hr1 := fun o => cell_keep hr.2.1 (ext_drew (ext_alloc1 _ o))
         have hr2 := fun o => cell_keep hr.2.2 (ext_drew (ext_alloc1 _ o))
         go_wp2_with fail
         clear hv0 hv1 hv2 hvf hz0 hz1 hz2 hzf hx0 hx1 hx2
         refine bodyPost_ret (v := .tuple #[.agg #[.int .i64 en.day, .string en.what, .int .i64 en.val], .int .i64 (rdv (gd l 3)), .bool false]) (by simp [results, Tryz.results167, go_sem, hr0, hr1, hr2]) rfl ⟨?_, ?_⟩
         · rw [HRE.out, HRS.out, HRB.out]
         · repeat (first | refine ext_drew ?_ | refine ext_alloc ?_ _ | refine ext_set ?_ (by simp; try omega) _)
           exact HW4.out
     | true => exact absurd ⟨rfl, rfl, rfl⟩ hb
 · have e7 : ((l.length : Int) != 4) = true := by simp; omega
   have HF : Hid (rlE l = ⟨0, ⟨#[]⟩, 0⟩ ∧ rlS l = 0 ∧ rlB l = false) := Lib.hid (by unfold rlE rlS rlB; rw [if_neg hl4, if_neg hl4, decide_eq_false hl4]; exact ⟨rfl, rfl, rfl⟩)
   have hz0 := (HZ.out _ HX1.out).1
   have hz1 := (HZ.out _ HX1.out).2.1
   have hz2 := (HZ.out _ HX1.out).2.2.1
   have hzf := (HZ.out _ HX1.out).2.2.2
   clear hl4
   go_wp2_with fail
   refine bodyPost_ret (v := .tuple #[.agg #[.int .i64 0, .string ⟨#[]⟩, .int .i64 0], .int .i64 0, .bool false]) (by simp [results, Tryz.results167, go_sem, hz0, hz1, hz2]) rfl ⟨?_, ?_⟩
   · rw [HF.out.1, HF.out.2.1, HF.out.2.2]
   · repeat (refine ext_set ?_ (by simp; try omega) _)
     exact HW1.out
end Go.Proofs.YtfgopboddkhckaaGreatDoor
namespace Go.Proofs.YtfgopboddkhckaaGreatDoor
open Go.ChangeShapes Go.WideShapes Go.ChangeAt Go.RowKit Go.Sort
set_option linter.unusedVariables false
set_option maxRecDepth 100000
theorem rl_yes {l : List ByteArray} (h : rlB l = true) : l.length = 4 ∧ rdb (gd l 0) = true ∧ rdb (gd l 2) = true ∧ rdb (gd l 3) = true ∧ vEn (enW l) = true ∧ rlE l = enW l ∧ rlS l = rdv (gd l 3) := by
 unfold rlB at h
 simp only [Bool.and_eq_true, decide_eq_true_eq] at h
 obtain ⟨h4, ⟨⟨h0, h2⟩, h3⟩, hv⟩ := h
 refine ⟨h4, h0, h2, h3, hv, ?_, ?_⟩
 · unfold rlE; rw [if_pos h4]
 · unfold rlS; rw [if_pos h4]
theorem impl_step_no {es : List EN} {st : Int} {r line : List UInt8} {k : Nat} {l : List ByteArray} (hline : r.take k = line) (h10 : (10 : UInt8) ∉ r.take k) (hk : r[k]? = some 10) (hl : spb 32 (bsq line) = l) (hb : rlB l = false) : stepL es st r = none := by
 rw [step_line h10 hk, hline]
 by_cases h4 : l.length = 4
 · rw [ln_four hl h4]
   by_cases hc : (rdb (gd l 0) && rdb (gd l 2) && vEn (enW l)) = true
   · rw [if_pos hc]
     simp only []
     rw [if_neg]
     rintro ⟨_, hd⟩
     simp only [Bool.and_eq_true] at hc
     have h3 := ((rd_iff (d := gd l 3) (stmp_bd st (wrd (enW l))).1 (stmp_bd st (wrd (enW l))).2).2 hd).1
     unfold rlB at hb
     rw [decide_eq_true h4, hc.1.1, hc.1.2, h3, hc.2] at hb
     simp at hb
   · rw [if_neg hc]
 · rw [ln_short (by rw [hl]; exact h4)]
theorem impl_step_yes {es : List EN} {st : Int} {r line : List UInt8} {k : Nat} {l : List ByteArray} (hline : r.take k = line) (h10 : (10 : UInt8) ∉ r.take k) (hk : r[k]? = some 10) (hl : spb 32 (bsq line) = l) (hb : rlB l = true) :
   stepL es st r = if lday es ≤ (rlE l).day ∧ stmp st (wrd (rlE l)) = rlS l then some (rlE l, stmp st (wrd (rlE l)), k + 1) else none := by
 obtain ⟨h4, h0, h2, h3, hv, hE, hS⟩ := rl_yes hb
 rw [step_line h10 hk, hline, ln_four hl h4, if_pos (by rw [h0, h2, hv]; rfl), hE, hS]
 simp only []
 have hi := rd_iff (d := gd l 3) (stmp_bd st (wrd (enW l))).1 (stmp_bd st (wrd (enW l))).2
 by_cases hd : (gd l 3).data.toList = Lib.itoa (stmp st (wrd (enW l)))
 · have := (hi.2 hd).2
   by_cases hl2 : lday es ≤ (enW l).day
   · rw [if_pos ⟨hl2, hd⟩, if_pos ⟨hl2, this⟩]
   · rw [if_neg (fun h => hl2 h.1), if_neg (fun h => hl2 h.1)]
 · rw [if_neg (fun h => hd h.2), if_neg (fun h => hd (hi.1 ⟨h3, h.2⟩))]
structure RI3 (w : World) (B g : Nat) (es : List EN) (st : Int) (n : Nat) (A : Option Addr) (c : Nat) : Prop where
 h0 : w.cell? ⟨g, 0, none⟩ = some (.slice A es.length c)
 h1 : w.cell? ⟨g, 1, none⟩ = some (.int .i64 st)
 h2 : w.cell? ⟨g, 2, none⟩ = some (.int .i64 (n : Int))
 fz : ∀ j, w.frozen? ⟨g, j, none⟩ = false
 own : OENS w B (.slice A es.length c) es
 hg : g < B
theorem RI3.lt {w : World} {B g : Nat} {es : List EN} {st : Int} {n : Nat} {A : Option Addr} {c : Nat} (h : RI3 w B g es st n A c) : g < w.heap.size := block_lt_of_cell h.h0
theorem RI3.ext {w w' : World} {B g : Nat} {es : List EN} {st : Int} {n : Nat} {A : Option Addr} {c : Nat} (h : RI3 w B g es st n A c) (hb : Below w.heap.size w w') : RI3 w' B g es st n A c :=
 ⟨cell_keep h.h0 hb, cell_keep h.h1 hb, cell_keep h.h2 hb, fun j => by rw [hb.frozen (p := ⟨g, j, none⟩) h.lt]; exact h.fz j, h.own.ext hb, h.hg⟩
theorem RI3.step {w7 w8 : World} {B g : Nat} {es : List EN} {st : Int} {n : Nat} {A : Option Addr} {c : Nat} (h : RI3 w7 B g es st n A c) {W7 : World} (hbb : Below w7.heap.size w7 W7) {gg cap : Nat} {en : EN}
   (hgrow : W7.grownBy w8 (Value.slice A es.length c).ownBlock) (hB : B ≤ w7.heap.size)
   (hown : w8.ownsRow B 130 3 (.slice (some ⟨gg, 0, none⟩) (es.length + 1) cap) (es.length + 1) (es.flatMap cEN ++ [.int .i64 en.day, .string en.what, .int .i64 en.val])) (st2 : Int) (m : Nat) :
   RI3 (((w8.setCell ⟨g, 0, none⟩ (.slice (some ⟨gg, 0, none⟩) (es.length + 1) cap)).setCell ⟨g, 1, none⟩ (.int .i64 st2)).setCell ⟨g, 2, none⟩ (.int .i64 (m : Int))) B g (es ++ [en]) st2 m (some ⟨gg, 0, none⟩) cap ∧
     Chg (fun k => k = g ∨ B ≤ k) w7 (((w8.setCell ⟨g, 0, none⟩ (.slice (some ⟨gg, 0, none⟩) (es.length + 1) cap)).setCell ⟨g, 1, none⟩ (.int .i64 st2)).setCell ⟨g, 2, none⟩ (.int .i64 (m : Int))) := by
 have hlt7 : g < w7.heap.size := h.lt
 have hne : (Value.slice A es.length c).ownBlock ≠ some g := fun e => by have := (h.own.ge g e).1; have := h.hg; omega
 have hltb : g < W7.heap.size := Nat.lt_of_lt_of_le hlt7 hbb.size
 have cl : ∀ j v, w7.cell? ⟨g, j, none⟩ = some v → w8.cell? ⟨g, j, none⟩ = some v := fun j v hv => (hgrow.cell_far ⟨g, j, none⟩ hltb (Ne.symm hne)).trans (cell_keep hv hbb)
 have fl : ∀ j, w8.frozen? ⟨g, j, none⟩ = false := fun j => (hgrow.frozen_far ⟨g, j, none⟩ hltb (Ne.symm hne)).trans ((hbb.frozen (p := ⟨g, j, none⟩) h.lt).trans (h.fz j))
 have hbx := @box3_set w8 g _ _ _ (.slice (some ⟨gg, 0, none⟩) (es.length + 1) cap) (.int .i64 st2) (.int .i64 (m : Int)) (cl 0 _ h.h0) (cl 1 _ h.h1) (cl 2 _ h.h2)
 have hl : (es ++ [en]).length = es.length + 1 := by simp
 have hO : OENS w8 B (.slice (some ⟨gg, 0, none⟩) (es ++ [en]).length cap) (es ++ [en]) := by
   unfold OENS
   rw [hl, List.flatMap_append]
   exact hown
 have hCh : Chg (fun k => k = g) w8 (((w8.setCell ⟨g, 0, none⟩ (.slice (some ⟨gg, 0, none⟩) (es.length + 1) cap)).setCell ⟨g, 1, none⟩ (.int .i64 st2)).setCell ⟨g, 2, none⟩ (.int .i64 (m : Int))) :=
   ((Chg.setCell (S := fun k => k = g) w8 (p := ⟨g, 0, none⟩) rfl _).trans (Chg.setCell (S := fun k => k = g) _ (p := ⟨g, 1, none⟩) rfl _)).trans (Chg.setCell (S := fun k => k = g) _ (p := ⟨g, 2, none⟩) rfl _)
 refine ⟨⟨by rw [hl]; exact hbx.1, hbx.2.1, hbx.2.2, fun j => by simpa using fl j, hO.chg hCh (fun k hk e => ?_), h.hg⟩, ?_⟩
 · subst e
   have := (hO.ge k hk).1
   have := h.hg
   omega
 · have c1 : Chg (fun k => k = g ∨ B ≤ k) w7 w8 := (Chg.of_below hbb _).trans ((Chg.of_grown hgrow).mono fun k hk => Or.inr (h.own.ge k hk).1)
   exact c1.trans (hCh.mono fun k hk => Or.inl hk)
theorem RI3.mid {w7 w8 : World} {B g : Nat} {es : List EN} {st : Int} {n : Nat} {A : Option Addr} {c : Nat} (h : RI3 w7 B g es st n A c) {W7 : World} (hbb : Below w7.heap.size w7 W7)
   (hgrow : W7.grownBy w8 (Value.slice A es.length c).ownBlock) : w8.cell? ⟨g, 0, none⟩ = some (.slice A es.length c) ∧ w8.cell? ⟨g, 1, none⟩ = some (.int .i64 st) ∧ w8.cell? ⟨g, 2, none⟩ = some (.int .i64 (n : Int)) ∧ ∀ j, w8.frozen? ⟨g, j, none⟩ = false := by
 have hne : (Value.slice A es.length c).ownBlock ≠ some g := fun e => by have := (h.own.ge g e).1; have := h.hg; omega
 have hltb : g < W7.heap.size := Nat.lt_of_lt_of_le h.lt hbb.size
 have cl : ∀ j v, w7.cell? ⟨g, j, none⟩ = some v → w8.cell? ⟨g, j, none⟩ = some v := fun j v hv => (hgrow.cell_far ⟨g, j, none⟩ hltb (Ne.symm hne)).trans (cell_keep hv hbb)
 exact ⟨cl 0 _ h.h0, cl 1 _ h.h1, cl 2 _ h.h2, fun j => (hgrow.frozen_far ⟨g, j, none⟩ hltb (Ne.symm hne)).trans ((hbb.frozen (p := ⟨g, j, none⟩) h.lt).trans (h.fz j))⟩
theorem wpList_append_en {w0 : World} {ops : Array Oper} {rest : List Oper} {o : Oper} {a : Act} {Q : Exit → Act → World → Prop} (hgd : o.guard = none) (s x : Operand)
   (ho : o.op = .call { callee := .builtin .append, args := #[s, x], argTypes := #[133, 133] })
   (base : Nat) (v : Value) (es : List EN) (en : EN) (hs : a.eval s = v) (hx : a.eval x = .slice (some ⟨w0.heap.size, 0, none⟩) 1 1) (hO : OENS w0 base v es)
   (hl : es.length ≤ 1048576) (hbase : base ≤ w0.heap.size)
   (h : ∀ g cap w', w'.ownsRow base 130 3 (.slice (some ⟨g, 0, none⟩) (es.length + 1) cap) (es.length + 1) (es.flatMap cEN ++ [.int .i64 en.day, .string en.what, .int .i64 en.val]) →
     (w0.alloc (.cells #[.int .i64 en.day, .string en.what, .int .i64 en.val] 130)).grownBy w' v.ownBlock → wpList Tryz.prog ops Q rest (a.put o.dst (.slice (some ⟨g, 0, none⟩) (es.length + 1) cap)) w') :
   wpList Tryz.prog ops Q (o :: rest) a (w0.alloc (.cells #[.int .i64 en.day, .string en.what, .int .i64 en.val] 130)) := by
 obtain ⟨i0, hi, hz0, hz1, hz2⟩ := info_parts info_EN
 refine wpList_append_lies _ hgd s x _ ho base 130 i0 _ 3 32 Tryz.underlying133 hi hz0 hz1 hz2 rfl (by omega) v es.length (es.flatMap cEN) hs (World.ownsRow.alloc hO _)
   ⟨w0.heap.size, 0, none⟩ 1 1 [.int .i64 en.day, .string en.what, .int .i64 en.val] hx rfl (World.news_of_block (cs := #[.int .i64 en.day, .string en.what, .int .i64 en.val]) (t := 130) (fr := (0, 0)) (heap_alloc_new w0 _)) (by simp [Value.oneCell']) (by omega) (by unfold maxLen; omega) (by omega) (by simp; omega) (w0.heap.size + 1) (by simp) ?_
 intro g cap w1 hown hgrow hat hlt
 exact h g cap w1 hown hgrow
end Go.Proofs.YtfgopboddkhckaaGreatDoor
