/-
  Orders: the order with a text (ReadOrder), of the reference.
-/
import Derived.Test.YtbggggaoljpfnaaGreatDoorRdOP
import Derived.Test.YtbggggaoljpfnaaGreatDoorRdN
import Derived.Deep.RegionHeld3
namespace Go.Proofs.YtbggggaoljpfnaaGreatDoor
open Go.ChangeShapes Go.WideShapes Go.ChangeAt Go.RowKit Go.Sort
set_option linter.unusedVariables false
set_option maxRecDepth 100000
attribute [local go_sem ↓] Go.wp_at_zero Go.wp_at_succ

/-- An order and whether there is one. -/
def RetOD (o : OD) (b : Bool) (w : World) : Ending → World → Prop := fun e w' => ∃ v, e = .returned (.tuple #[v, .bool b]) ∧ OOD w' w.heap.size v o ∧ SmOD o ∧ Below w.heap.size w w'
theorem RetOD.no {s : ByteArray} {w w' : World} (h : rdO s = none) (hb : Below w.heap.size w w') : RetOD (rdOv s) (rdOb s) w (.returned (.tuple #[.agg #[.int .i64 0, .string ⟨#[]⟩, .int .i64 0, .int .i64 0, .int .i64 0], .bool false])) w' := by
  rw [(rdO_no h).1, (rdO_no h).2]
  exact ⟨_, rfl, rfl, (show (0 : Nat) ≤ 1048576 by omega), hb⟩
theorem RetOD.yes {s : ByteArray} {o : OD} {w w' : World} (h : rdO s = some o) (hs : o.cu.size ≤ 1048576) (hb : Below w.heap.size w w') : RetOD (rdOv s) (rdOb s) w (.returned (.tuple #[.agg #[.int .i64 o.id, .string o.cu, .int .i64 o.br, .int .i64 o.due, .int .i64 o.sent], .bool true])) w' := by
  rw [(rdO_is h).1, (rdO_is h).2]
  exact ⟨_, rfl, rfl, hs, hb⟩
/-- The cells of o in block g, which can be written. -/
def B5 (w : World) (g : Nat) (o : OD) : Prop := POD w ⟨g, 0, none⟩ o ∧ ∀ j, w.frozen? ⟨g, j, none⟩ = false
theorem B5.ext {w w' : World} {g : Nat} {o : OD} (h : B5 w g o) (hb : Below w.heap.size w w') : B5 w' g o :=
  ⟨h.1.ext hb, fun j => by rw [hb.frozen (p := ⟨g, j, none⟩) (show g < w.heap.size from block_lt_of_cell h.1.1)]; exact h.2 j⟩
theorem B5.new (w : World) (o : OD) (T : TypeId) : B5 (w.alloc (.cells #[.int .i64 o.id, .string o.cu, .int .i64 o.br, .int .i64 o.due, .int .i64 o.sent] T)) w.heap.size o :=
  ⟨pOD_box w o T, fun j => by unfold World.frozen?; simp only [heap_alloc_new]; simp⟩
def zOD : OD := ⟨0, ⟨#[]⟩, 0, 0, 0⟩
theorem B5.zero (w : World) (T : TypeId) : B5 (w.alloc (.cells #[.int .i64 0, .string ⟨#[]⟩, .int .i64 0, .int .i64 0, .int .i64 0] T)) w.heap.size zOD := B5.new w zOD T
theorem box5_set {w : World} {g : Nat} {a b c d e x y z u v : Value} (h0 : w.cell? ⟨g, 0, none⟩ = some a) (h1 : w.cell? ⟨g, 1, none⟩ = some b) (h2 : w.cell? ⟨g, 2, none⟩ = some c) (h3 : w.cell? ⟨g, 3, none⟩ = some d) (h4 : w.cell? ⟨g, 4, none⟩ = some e) :
    (((((w.setCell ⟨g, 0, none⟩ x).setCell ⟨g, 1, none⟩ y).setCell ⟨g, 2, none⟩ z).setCell ⟨g, 3, none⟩ u).setCell ⟨g, 4, none⟩ v).cell? ⟨g, 0, none⟩ = some x ∧
    (((((w.setCell ⟨g, 0, none⟩ x).setCell ⟨g, 1, none⟩ y).setCell ⟨g, 2, none⟩ z).setCell ⟨g, 3, none⟩ u).setCell ⟨g, 4, none⟩ v).cell? ⟨g, 1, none⟩ = some y ∧
    (((((w.setCell ⟨g, 0, none⟩ x).setCell ⟨g, 1, none⟩ y).setCell ⟨g, 2, none⟩ z).setCell ⟨g, 3, none⟩ u).setCell ⟨g, 4, none⟩ v).cell? ⟨g, 2, none⟩ = some z ∧
    (((((w.setCell ⟨g, 0, none⟩ x).setCell ⟨g, 1, none⟩ y).setCell ⟨g, 2, none⟩ z).setCell ⟨g, 3, none⟩ u).setCell ⟨g, 4, none⟩ v).cell? ⟨g, 3, none⟩ = some u ∧
    (((((w.setCell ⟨g, 0, none⟩ x).setCell ⟨g, 1, none⟩ y).setCell ⟨g, 2, none⟩ z).setCell ⟨g, 3, none⟩ u).setCell ⟨g, 4, none⟩ v).cell? ⟨g, 4, none⟩ = some v := by
  have k : ∀ (w : World) (i j : Nat) (x : Value), i ≠ j → (w.setCell ⟨g, i, none⟩ x).cell? ⟨g, j, none⟩ = w.cell? ⟨g, j, none⟩ := fun w i j x hij => World.cell?_setCell_other _ _ _ _ (by simp only [ne_eq, Addr.mk.injEq, not_and]; intros; omega)
  refine ⟨?_, ?_, ?_, ?_, ?_⟩
  · rw [k _ 4 0 _ (by omega), k _ 3 0 _ (by omega), k _ 2 0 _ (by omega), k _ 1 0 _ (by omega)]; exact World.cell?_setCell_same _ _ _ h0
  · rw [k _ 4 1 _ (by omega), k _ 3 1 _ (by omega), k _ 2 1 _ (by omega)]; exact World.cell?_setCell_same _ _ _ (u := b) (by rw [k _ 0 1 _ (by omega)]; exact h1)
  · rw [k _ 4 2 _ (by omega), k _ 3 2 _ (by omega)]; exact World.cell?_setCell_same _ _ _ (u := c) (by rw [k _ 1 2 _ (by omega), k _ 0 2 _ (by omega)]; exact h2)
  · rw [k _ 4 3 _ (by omega)]; exact World.cell?_setCell_same _ _ _ (u := d) (by rw [k _ 2 3 _ (by omega), k _ 1 3 _ (by omega), k _ 0 3 _ (by omega)]; exact h3)
  · exact World.cell?_setCell_same _ _ _ (u := e) (by rw [k _ 3 4 _ (by omega), k _ 2 4 _ (by omega), k _ 1 4 _ (by omega), k _ 0 4 _ (by omega)]; exact h4)
theorem OStr.cells5 {w : World} {base : Nat} {A : Option Addr} {n c : Nat} {l : List ByteArray} (h : OStr w base (.slice A n c) l) (h5 : l.length = 5) :
    ∃ g1, A = some ⟨g1, 0, none⟩ ∧ w.cell? ⟨g1, 0, none⟩ = some (.string (gd l 0)) ∧ w.cell? ⟨g1, 1, none⟩ = some (.string (gd l 1)) ∧ w.cell? ⟨g1, 2, none⟩ = some (.string (gd l 2)) ∧ w.cell? ⟨g1, 3, none⟩ = some (.string (gd l 3)) ∧ w.cell? ⟨g1, 4, none⟩ = some (.string (gd l 4)) := by
  obtain ⟨ad, hA, hlt, hc⟩ := h.rd.at (show 0 < l.length by omega)
  rcases h.2 with ⟨hv, h1⟩ | ⟨g, cap, cur, hv, hg, _⟩
  · omega
  · injection hv with q1 q2 q3
    subst q1
    injection hA with hA
    subst hA
    refine ⟨g, rfl, ?_, ?_, ?_, ?_, ?_⟩
    · simpa [Addr.add] using hc 0 (by omega)
    · simpa [Addr.add] using hc 1 (by omega)
    · simpa [Addr.add] using hc 2 (by omega)
    · simpa [Addr.add] using hc 3 (by omega)
    · simpa [Addr.add] using hc 4 (by omega)
theorem OStr.cells2 {w : World} {base : Nat} {A : Option Addr} {n c : Nat} {l : List ByteArray} (h : OStr w base (.slice A n c) l) (h5 : l.length = 2) :
    ∃ g1, A = some ⟨g1, 0, none⟩ ∧ w.cell? ⟨g1, 0, none⟩ = some (.string (gd l 0)) ∧ w.cell? ⟨g1, 1, none⟩ = some (.string (gd l 1)) := by
  obtain ⟨ad, hA, hlt, hc⟩ := h.rd.at (show 0 < l.length by omega)
  rcases h.2 with ⟨hv, h1⟩ | ⟨g, cap, cur, hv, hg, _⟩
  · omega
  · injection hv with q1 q2 q3
    subst q1
    injection hA with hA
    subst hA
    refine ⟨g, rfl, ?_, ?_⟩
    · simpa [Addr.add] using hc 0 (by omega)
    · simpa [Addr.add] using hc 1 (by omega)
theorem due_ne2 {x : ByteArray} (h : x ≠ dueB) : ¬ x.toList = [100, 117, 101] := by
  intro e
  apply h
  have e2 : dueB.toList = [100, 117, 101] := by unfold dueB; simp [ByteArray.toList_eq]
  rw [← e2, ByteArray.toList_eq, ByteArray.toList_eq] at e
  exact WideShapes.bytes_inj e
theorem due_ne {x : ByteArray} (h : x ≠ dueB) : (x.toList == [100, 117, 101]) = false := by
  rw [beq_eq_false_iff_ne]; exact due_ne2 h
theorem spb_part {b : UInt8} {s x : ByteArray} (h : x ∈ spb b s) : x.size ≤ s.size := by
  unfold spb at h
  obtain ⟨u, hu, rfl⟩ := List.mem_map.1 h
  rw [bsq_size]
  have := splL_part hu
  rwa [size_toList] at this

set_option maxHeartbeats 6400000 in
theorem spec_ReadOrder (s : ByteArray) (w : World) (hs : s.size ≤ 1048576) (_ : Env w) :
    Calls Tryz.prog 21 #[.string s] w (RetOD (rdOv s) (rdOb s) w) := by
  have HSP := Lib.hid (fun w => spec_Split s hs 32 32 rfl w)
  have HPT : Hid (∀ x ∈ spb 32 s, x.size ≤ 1048576) := Lib.hid fun x hx => Nat.le_trans (spb_part hx) hs
  clear hs
  go_enter Tryz.func21, Tryz.ntmps21
  go_wp2_with fail
  refine (show Calls _ _ _ _ _ from HSP.out _).mono ?_
  rintro e w1 ⟨A, cp, rfl, hO, hb1⟩
  have HZ : Hid (B5 w1 w.heap.size zOD) := Lib.hid ((B5.zero w _).ext hb1)
  have HW := Lib.hid (ext_trans (ext_alloc1 w _) hb1)
  have HO := Lib.hid hO
  clear hb1 hO HSP
  by_cases h5 : (spb 32 s).length = 5
  · obtain ⟨l, hl⟩ : ∃ l, spb 32 s = l := ⟨_, rfl⟩
    have HL := Lib.hid hl
    rw [hl] at h5 HO HPT
    rw [hl, h5]
    clear hl
    have HO' := HO.out
    rw [h5] at HO'
    obtain ⟨g1, rfl, k0, k1, k2, k3, k4⟩ := HO'.cells5 h5
    have H5 := Lib.hid h5
    clear h5 HO' HO
    by_cases c3 : gd l 3 = dueB
    · rw [c3] at k3
      unfold dueB at k3
      have C3 := Lib.hid c3
      clear c3
      by_cases c0 : 2 ≤ (gd l 0).size
      · have hc0 := byt_eq (gd l 0) 0 (by omega)
        have hbd := byt_bd (gd l 0) 0
        have e1 : ¬ ((gd l 0).size : Int) < 2 := by omega
        have e2 : (0 : Int) < ((gd l 0).size : Int) := by omega
        have e3 : (1 : Int) ≤ ((gd l 0).size : Int) := by omega
        have HSB : Hid (byt (gd (spb 32 s) 0) 0 ≠ 35 → rdO s = none) := Lib.hid rdO_sign
        have HC0 := Lib.hid c0
        rw [HL.out] at HSB
        obtain ⟨y, hy⟩ : ∃ y, byt (gd l 0) 0 = y := ⟨_, rfl⟩
        rw [hy] at hc0 hbd HSB
        have HY := Lib.hid hy
        clear hy
        by_cases cy : y = 35
        · subst cy
          clear hbd HSB
          have hx2 : gd l 2 ∈ l := gd_mem (by rw [H5.out]; omega)
          have HS2 := Lib.hid (fun w => spec_Split (gd l 2) (HPT.out _ hx2) 47 47 rfl w)
          have HN0 := Lib.hid (fun w => spec_Number ((gd l 0).extract 1 (gd l 0).size) (by
            have h := HPT.out _ (gd_mem (l := l) (k := 0) (by rw [H5.out]; omega))
            have h2 := ext_end (gd l 0) 1
            rw [h2, bsq_size, List.length_drop, size_toList]; unfold maxLen; omega) w)
          have HN4 := Lib.hid (fun w => spec_Number (gd l 4) (by
            have h := HPT.out _ (gd_mem (l := l) (k := 4) (by rw [H5.out]; omega))
            unfold maxLen; omega) w)
          have HS1 : Hid ((gd l 1).size ≤ 1048576) := Lib.hid (HPT.out _ (gd_mem (by rw [H5.out]; omega)))
          have HX2 : Hid ((gd l 2).size ≤ 1048576) := Lib.hid (HPT.out _ hx2)
          clear hx2 HPT
          obtain ⟨x2, hx2⟩ : ∃ x, gd l 2 = x := ⟨_, rfl⟩
          have HE2 := Lib.hid hx2
          rw [hx2] at k2 HS2 HX2
          clear hx2
          have HP2 : Hid (∀ x ∈ spb 47 x2, x.size ≤ maxLen) := Lib.hid fun x hx => Nat.le_trans (spb_part hx) (by have := HX2.out; unfold maxLen; omega)
          go_wp2_with fail
          refine (show Calls _ _ _ _ _ from HS2.out _).mono ?_
          rintro e w2 ⟨A2, cp2, rfl, hO2, hb2⟩
          replace HW := Lib.hid (ext_trans HW.out hb2)
          replace HZ := Lib.hid (HZ.out.ext hb2)
          replace k0 := cell_keep k0 hb2
          replace k1 := cell_keep k1 hb2
          replace k4 := cell_keep k4 hb2
          have HOV := Lib.hid hO2
          clear hb2 hO2 HS2 k2 k3 hc0
          by_cases c2 : (spb 47 x2).length = 2
          · obtain ⟨v, hv⟩ : ∃ v, spb 47 x2 = v := ⟨_, rfl⟩
            have HV : Hid (spb 47 (gd (spb 32 s) 2) = v) := Lib.hid (by rw [HL.out, HE2.out]; exact hv)
            rw [hv] at c2 HOV HP2
            rw [hv, c2]
            clear hv
            have HO' := HOV.out
            rw [c2] at HO'
            obtain ⟨g2, rfl, m0, m1⟩ := HO'.cells2 c2
            have HN1 := Lib.hid (fun w => spec_Number (gd v 0) (HP2.out _ (gd_mem (by omega))) w)
            have HN2 := Lib.hid (fun w => spec_Number (gd v 1) (HP2.out _ (gd_mem (by omega))) w)
            have HK : Hid (okW (spb 32 s) (spb 47 (gd (spb 32 s) 2)) = (rdb ((gd l 0).extract 1 (gd l 0).size) && rdb (gd v 0) && rdb (gd v 1) && rdb (gd l 4) && oneO (oW l v))) := Lib.hid (by rw [HL.out] at HV ⊢; rw [HV.out]; unfold okW; rw [decide_eq_true c2, Bool.true_and])
            have HR : Hid (oneO (oW l v) = true → okW (spb 32 s) (spb 47 (gd (spb 32 s) 2)) = true → rdO s = some (oW l v)) := Lib.hid fun _ h => by
              refine (rdO_yes ?_ ?_ ?_ ?_ h).trans (by rw [HL.out] at HV ⊢; rw [HV.out])
              · rw [HL.out]; exact H5.out
              · rw [HL.out]; exact C3.out
              · rw [HL.out]; exact HC0.out
              · rw [HL.out]; exact HY.out
            clear c2 HO' HOV HP2
            go_wp2_with fail
            refine (show Calls _ _ _ _ _ from HN0.out _).mono ?_
            rintro e w3 ⟨rfl, hb3⟩
            replace HW := Lib.hid (ext_trans HW.out hb3)
            replace HZ := Lib.hid (HZ.out.ext hb3)
            replace k1 := cell_keep k1 hb3
            replace k4 := cell_keep k4 hb3
            replace m0 := cell_keep m0 hb3
            replace m1 := cell_keep m1 hb3
            clear hb3 HN0 k0 e1 e2 e3
            go_wp2_with fail
            refine (show Calls _ _ _ _ _ from HN1.out _).mono ?_
            rintro e w4 ⟨rfl, hb3⟩
            replace HW := Lib.hid (ext_trans HW.out hb3)
            replace HZ := Lib.hid (HZ.out.ext hb3)
            replace k1 := cell_keep k1 hb3
            replace k4 := cell_keep k4 hb3
            replace m1 := cell_keep m1 hb3
            clear hb3 HN1 m0
            go_wp2_with fail
            refine (show Calls _ _ _ _ _ from HN2.out _).mono ?_
            rintro e w5 ⟨rfl, hb3⟩
            replace HW := Lib.hid (ext_trans HW.out hb3)
            replace HZ := Lib.hid (HZ.out.ext hb3)
            replace k1 := cell_keep k1 hb3
            replace k4 := cell_keep k4 hb3
            clear hb3 HN2 m1
            go_wp2_with fail
            refine (show Calls _ _ _ _ _ from HN4.out _).mono ?_
            rintro e w6 ⟨rfl, hb3⟩
            replace HW := Lib.hid (ext_trans HW.out hb3)
            replace HZ := Lib.hid (HZ.out.ext hb3)
            replace k1 := cell_keep k1 hb3
            clear hb3 HN4 k4
            obtain ⟨o, ho⟩ : ∃ o, oW l v = o := ⟨_, rfl⟩
            have q0 : rdv ((gd l 0).extract 1 (gd l 0).size) = o.id := by rw [← ho]; rfl
            have q1 : gd l 1 = o.cu := by rw [← ho]; rfl
            have q2 : rdv (gd v 1) = o.br := by rw [← ho]; rfl
            have q3 : rdv (gd l 4) = o.due := by rw [← ho]; rfl
            have q4 : rdv (gd v 0) = o.sent := by rw [← ho]; rfl
            rw [q0, q2, q3, q4]
            rw [q1] at HS1 k1
            rw [ho] at HK HR
            obtain ⟨b1, hb1⟩ : ∃ b, rdb ((gd l 0).extract 1 (gd l 0).size) = b := ⟨_, rfl⟩
            obtain ⟨b2, hb2⟩ : ∃ b, rdb (gd v 0) = b := ⟨_, rfl⟩
            obtain ⟨b3, hb3⟩ : ∃ b, rdb (gd v 1) = b := ⟨_, rfl⟩
            obtain ⟨b4, hb4⟩ : ∃ b, rdb (gd l 4) = b := ⟨_, rfl⟩
            rw [hb1, hb2, hb3, hb4] at HK ⊢
            clear hb1 hb2 hb3 hb4 q0 q1 q2 q3 q4 ho
            cases b1 with
            | false =>
              have HF : Hid (rdO s = none) := Lib.hid (rdO_ok (by rw [HK.out]; simp))
              have hz := fun o => HZ.out.ext (ext_alloc1 w6 o)
              have hz0 := fun o => (hz o).1.1
              have hz1 := fun o => (hz o).1.2.1
              have hz2 := fun o => (hz o).1.2.2.1
              have hz3 := fun o => (hz o).1.2.2.2.1
              have hz4 := fun o => (hz o).1.2.2.2.2
              have hzf := fun o => (hz o).2
              have hx := fun o => @box5_set (w6.alloc o) w.heap.size _ _ _ _ _ (.int .i64 0) (.string ⟨#[]⟩) (.int .i64 0) (.int .i64 0) (.int .i64 0) (hz0 o) (hz1 o) (hz2 o) (hz3 o) (hz4 o)
              have hw0 := fun o => (hx o).1
              have hw1 := fun o => (hx o).2.1
              have hw2 := fun o => (hx o).2.2.1
              have hw3 := fun o => (hx o).2.2.2.1
              have hw4 := fun o => (hx o).2.2.2.2
              clear hx hz
              try simp only []
              go_wp2_with fail
              refine bodyPost_ret (v := .tuple #[.agg #[.int .i64 0, .string ⟨#[]⟩, .int .i64 0, .int .i64 0, .int .i64 0], .bool false]) (by simp [results, Tryz.results21, go_sem, hw0, hw1, hw2, hw3, hw4]) rfl (RetOD.no HF.out ?_)
              repeat (refine ext_set ?_ (by simp; try omega) _)
              exact ext_alloc HW.out _
            | true =>
            cases b2 with
            | false =>
              have HF : Hid (rdO s = none) := Lib.hid (rdO_ok (by rw [HK.out]; simp))
              have hz := fun o => HZ.out.ext (ext_alloc1 w6 o)
              have hz0 := fun o => (hz o).1.1
              have hz1 := fun o => (hz o).1.2.1
              have hz2 := fun o => (hz o).1.2.2.1
              have hz3 := fun o => (hz o).1.2.2.2.1
              have hz4 := fun o => (hz o).1.2.2.2.2
              have hzf := fun o => (hz o).2
              have hx := fun o => @box5_set (w6.alloc o) w.heap.size _ _ _ _ _ (.int .i64 0) (.string ⟨#[]⟩) (.int .i64 0) (.int .i64 0) (.int .i64 0) (hz0 o) (hz1 o) (hz2 o) (hz3 o) (hz4 o)
              have hw0 := fun o => (hx o).1
              have hw1 := fun o => (hx o).2.1
              have hw2 := fun o => (hx o).2.2.1
              have hw3 := fun o => (hx o).2.2.2.1
              have hw4 := fun o => (hx o).2.2.2.2
              clear hx hz
              try simp only []
              go_wp2_with fail
              refine bodyPost_ret (v := .tuple #[.agg #[.int .i64 0, .string ⟨#[]⟩, .int .i64 0, .int .i64 0, .int .i64 0], .bool false]) (by simp [results, Tryz.results21, go_sem, hw0, hw1, hw2, hw3, hw4]) rfl (RetOD.no HF.out ?_)
              repeat (refine ext_set ?_ (by simp; try omega) _)
              exact ext_alloc HW.out _
            | true =>
            cases b3 with
            | false =>
              have HF : Hid (rdO s = none) := Lib.hid (rdO_ok (by rw [HK.out]; simp))
              have hz := fun o => HZ.out.ext (ext_alloc1 w6 o)
              have hz0 := fun o => (hz o).1.1
              have hz1 := fun o => (hz o).1.2.1
              have hz2 := fun o => (hz o).1.2.2.1
              have hz3 := fun o => (hz o).1.2.2.2.1
              have hz4 := fun o => (hz o).1.2.2.2.2
              have hzf := fun o => (hz o).2
              have hx := fun o => @box5_set (w6.alloc o) w.heap.size _ _ _ _ _ (.int .i64 0) (.string ⟨#[]⟩) (.int .i64 0) (.int .i64 0) (.int .i64 0) (hz0 o) (hz1 o) (hz2 o) (hz3 o) (hz4 o)
              have hw0 := fun o => (hx o).1
              have hw1 := fun o => (hx o).2.1
              have hw2 := fun o => (hx o).2.2.1
              have hw3 := fun o => (hx o).2.2.2.1
              have hw4 := fun o => (hx o).2.2.2.2
              clear hx hz
              try simp only []
              go_wp2_with fail
              refine bodyPost_ret (v := .tuple #[.agg #[.int .i64 0, .string ⟨#[]⟩, .int .i64 0, .int .i64 0, .int .i64 0], .bool false]) (by simp [results, Tryz.results21, go_sem, hw0, hw1, hw2, hw3, hw4]) rfl (RetOD.no HF.out ?_)
              repeat (refine ext_set ?_ (by simp; try omega) _)
              exact ext_alloc HW.out _
            | true =>
            cases b4 with
            | false =>
              have HF : Hid (rdO s = none) := Lib.hid (rdO_ok (by rw [HK.out]; simp))
              have hz := fun o => HZ.out.ext (ext_alloc1 w6 o)
              have hz0 := fun o => (hz o).1.1
              have hz1 := fun o => (hz o).1.2.1
              have hz2 := fun o => (hz o).1.2.2.1
              have hz3 := fun o => (hz o).1.2.2.2.1
              have hz4 := fun o => (hz o).1.2.2.2.2
              have hzf := fun o => (hz o).2
              have hx := fun o => @box5_set (w6.alloc o) w.heap.size _ _ _ _ _ (.int .i64 0) (.string ⟨#[]⟩) (.int .i64 0) (.int .i64 0) (.int .i64 0) (hz0 o) (hz1 o) (hz2 o) (hz3 o) (hz4 o)
              have hw0 := fun o => (hx o).1
              have hw1 := fun o => (hx o).2.1
              have hw2 := fun o => (hx o).2.2.1
              have hw3 := fun o => (hx o).2.2.2.1
              have hw4 := fun o => (hx o).2.2.2.2
              clear hx hz
              try simp only []
              go_wp2_with fail
              refine bodyPost_ret (v := .tuple #[.agg #[.int .i64 0, .string ⟨#[]⟩, .int .i64 0, .int .i64 0, .int .i64 0], .bool false]) (by simp [results, Tryz.results21, go_sem, hw0, hw1, hw2, hw3, hw4]) rfl (RetOD.no HF.out ?_)
              repeat (refine ext_set ?_ (by simp; try omega) _)
              exact ext_alloc HW.out _
            | true =>
            have HP : Hid (POD (w6.alloc (.cells #[.int .i64 o.id, .string o.cu, .int .i64 o.br, .int .i64 o.due, .int .i64 o.sent] 26)) ⟨w6.heap.size, 0, none⟩ o) := Lib.hid (pOD_box w6 o _)
            have HC1 := Lib.hid (spec_one ⟨w6.heap.size, 0, none⟩ o (by have := HS1.out; unfold LenOD maxLen; omega) _ HP.out)
            go_wp2_with fail
            clear k1
            refine (show Calls _ _ _ _ _ from HC1.out).mono ?_
            rintro e w8 ⟨rfl, hb8⟩
            replace HP := Lib.hid (HP.out.ext hb8)
            replace hb8 := ext_trans (ext_alloc1 _ _) hb8
            replace HW := Lib.hid (ext_trans HW.out hb8)
            replace HZ := Lib.hid (HZ.out.ext hb8)
            clear hb8 HC1
            generalize w6.heap.size = g6 at *
            cases hone : oneO o with
            | false =>
              have HF : Hid (rdO s = none) := Lib.hid (rdO_ok (by rw [HK.out, hone]; rfl))
              clear hone
              have hz0 := HZ.out.1.1
              have hz1 := HZ.out.1.2.1
              have hz2 := HZ.out.1.2.2.1
              have hz3 := HZ.out.1.2.2.2.1
              have hz4 := HZ.out.1.2.2.2.2
              have hzf := HZ.out.2
              have hx := @box5_set w8 w.heap.size _ _ _ _ _ (.int .i64 0) (.string ⟨#[]⟩) (.int .i64 0) (.int .i64 0) (.int .i64 0) hz0 hz1 hz2 hz3 hz4
              have hw0 := hx.1
              have hw1 := hx.2.1
              have hw2 := hx.2.2.1
              have hw3 := hx.2.2.2.1
              have hw4 := hx.2.2.2.2
              clear hx
              try simp only []
              go_wp2_with fail
              refine bodyPost_ret (v := .tuple #[.agg #[.int .i64 0, .string ⟨#[]⟩, .int .i64 0, .int .i64 0, .int .i64 0], .bool false]) (by simp [results, Tryz.results21, go_sem, hw0, hw1, hw2, hw3, hw4]) rfl (RetOD.no HF.out ?_)
              repeat (refine ext_set ?_ (by simp; try omega) _)
              exact HW.out
            | true =>
              have HF : Hid (rdO s = some o) := Lib.hid (HR.out hone (by rw [HK.out, hone]; rfl))
              clear hone
              have hz0 := HZ.out.1.1
              have hz1 := HZ.out.1.2.1
              have hz2 := HZ.out.1.2.2.1
              have hz3 := HZ.out.1.2.2.2.1
              have hz4 := HZ.out.1.2.2.2.2
              have hzf := HZ.out.2
              have hx := @box5_set w8 w.heap.size _ _ _ _ _ (.int .i64 o.id) (.string o.cu) (.int .i64 o.br) (.int .i64 o.due) (.int .i64 o.sent) hz0 hz1 hz2 hz3 hz4
              have hw0 := hx.1
              have hw1 := hx.2.1
              have hw2 := hx.2.2.1
              have hw3 := hx.2.2.2.1
              have hw4 := hx.2.2.2.2
              have hp0 := HP.out.1
              have hp1 := HP.out.2.1
              have hp2 := HP.out.2.2.1
              have hp3 := HP.out.2.2.2.1
              have hp4 := HP.out.2.2.2.2
              clear hx
              try simp only []
              go_wp2_with fail
              refine bodyPost_ret (v := .tuple #[.agg #[.int .i64 o.id, .string o.cu, .int .i64 o.br, .int .i64 o.due, .int .i64 o.sent], .bool true]) (by simp [results, Tryz.results21, go_sem, hw0, hw1, hw2, hw3, hw4]) rfl (RetOD.yes HF.out HS1.out ?_)
              repeat (refine ext_set ?_ (by simp; try omega) _)
              exact HW.out
          · have HF : Hid (rdO s = none) := Lib.hid (rdO_two (by rw [HL.out, HE2.out]; exact fun h => c2 h.1))
            have e5 : ((((spb 47 x2).length : Nat) : Int) != 2) = true := by simp; omega
            clear c2
            have hz0 := HZ.out.1.1
            have hz1 := HZ.out.1.2.1
            have hz2 := HZ.out.1.2.2.1
            have hz3 := HZ.out.1.2.2.2.1
            have hz4 := HZ.out.1.2.2.2.2
            have hzf := HZ.out.2
            have hx := @box5_set w2 w.heap.size _ _ _ _ _ (.int .i64 0) (.string ⟨#[]⟩) (.int .i64 0) (.int .i64 0) (.int .i64 0) hz0 hz1 hz2 hz3 hz4
            have hw0 := hx.1
            have hw1 := hx.2.1
            have hw2 := hx.2.2.1
            have hw3 := hx.2.2.2.1
            have hw4 := hx.2.2.2.2
            clear hx
            try simp only []
            go_wp2_with fail
            refine bodyPost_ret (v := .tuple #[.agg #[.int .i64 0, .string ⟨#[]⟩, .int .i64 0, .int .i64 0, .int .i64 0], .bool false]) (by simp [results, Tryz.results21, go_sem, hw0, hw1, hw2, hw3, hw4]) rfl (RetOD.no HF.out ?_)
            repeat (refine ext_set ?_ (by simp; try omega) _)
            exact HW.out
        · have HF : Hid (rdO s = none) := Lib.hid (HSB.out cy)
          have e4 : (y != 35) = true := by simpa using cy
          clear cy HSB
          have hz0 := HZ.out.1.1
          have hz1 := HZ.out.1.2.1
          have hz2 := HZ.out.1.2.2.1
          have hz3 := HZ.out.1.2.2.2.1
          have hz4 := HZ.out.1.2.2.2.2
          have hzf := HZ.out.2
          have hx := @box5_set w1 w.heap.size _ _ _ _ _ (.int .i64 0) (.string ⟨#[]⟩) (.int .i64 0) (.int .i64 0) (.int .i64 0) hz0 hz1 hz2 hz3 hz4
          have hw0 := hx.1
          have hw1 := hx.2.1
          have hw2 := hx.2.2.1
          have hw3 := hx.2.2.2.1
          have hw4 := hx.2.2.2.2
          clear hx
          try simp only []
          go_wp2_with fail
          refine bodyPost_ret (v := .tuple #[.agg #[.int .i64 0, .string ⟨#[]⟩, .int .i64 0, .int .i64 0, .int .i64 0], .bool false]) (by simp [results, Tryz.results21, go_sem, hw0, hw1, hw2, hw3, hw4]) rfl (RetOD.no HF.out ?_)
          repeat (refine ext_set ?_ (by simp; try omega) _)
          exact HW.out
      · have HF : Hid (rdO s = none) := Lib.hid (rdO_short (by rw [HL.out]; exact c0))
        have e1 : ((gd l 0).size : Int) < 2 := by omega
        clear c0
        have hz0 := HZ.out.1.1
        have hz1 := HZ.out.1.2.1
        have hz2 := HZ.out.1.2.2.1
        have hz3 := HZ.out.1.2.2.2.1
        have hz4 := HZ.out.1.2.2.2.2
        have hzf := HZ.out.2
        have hx := @box5_set w1 w.heap.size _ _ _ _ _ (.int .i64 0) (.string ⟨#[]⟩) (.int .i64 0) (.int .i64 0) (.int .i64 0) hz0 hz1 hz2 hz3 hz4
        have hw0 := hx.1
        have hw1 := hx.2.1
        have hw2 := hx.2.2.1
        have hw3 := hx.2.2.2.1
        have hw4 := hx.2.2.2.2
        clear hx
        try simp only []
        go_wp2_with fail
        refine bodyPost_ret (v := .tuple #[.agg #[.int .i64 0, .string ⟨#[]⟩, .int .i64 0, .int .i64 0, .int .i64 0], .bool false]) (by simp [results, Tryz.results21, go_sem, hw0, hw1, hw2, hw3, hw4]) rfl (RetOD.no HF.out ?_)
        repeat (refine ext_set ?_ (by simp; try omega) _)
        exact HW.out
    · have HF : Hid (rdO s = none) := Lib.hid (rdO_due (by rw [HL.out]; exact c3))
      have hst := due_ne c3
      have hst2 := due_ne2 c3
      clear c3
      have hz0 := HZ.out.1.1
      have hz1 := HZ.out.1.2.1
      have hz2 := HZ.out.1.2.2.1
      have hz3 := HZ.out.1.2.2.2.1
      have hz4 := HZ.out.1.2.2.2.2
      have hzf := HZ.out.2
      have hx := @box5_set w1 w.heap.size _ _ _ _ _ (.int .i64 0) (.string ⟨#[]⟩) (.int .i64 0) (.int .i64 0) (.int .i64 0) hz0 hz1 hz2 hz3 hz4
      have hw0 := hx.1
      have hw1 := hx.2.1
      have hw2 := hx.2.2.1
      have hw3 := hx.2.2.2.1
      have hw4 := hx.2.2.2.2
      clear hx
      try simp only []
      go_wp2_with fail
      refine bodyPost_ret (v := .tuple #[.agg #[.int .i64 0, .string ⟨#[]⟩, .int .i64 0, .int .i64 0, .int .i64 0], .bool false]) (by simp [results, Tryz.results21, go_sem, hw0, hw1, hw2, hw3, hw4]) rfl (RetOD.no HF.out ?_)
      repeat (refine ext_set ?_ (by simp; try omega) _)
      exact HW.out
  · have HF : Hid (rdO s = none) := Lib.hid (rdO_len h5)
    have e1 : ((((spb 32 s).length : Nat) : Int) != 5) = true := by simp; omega
    clear h5
    have hz0 := HZ.out.1.1
    have hz1 := HZ.out.1.2.1
    have hz2 := HZ.out.1.2.2.1
    have hz3 := HZ.out.1.2.2.2.1
    have hz4 := HZ.out.1.2.2.2.2
    have hzf := HZ.out.2
    have hx := @box5_set w1 w.heap.size _ _ _ _ _ (.int .i64 0) (.string ⟨#[]⟩) (.int .i64 0) (.int .i64 0) (.int .i64 0) hz0 hz1 hz2 hz3 hz4
    have hw0 := hx.1
    have hw1 := hx.2.1
    have hw2 := hx.2.2.1
    have hw3 := hx.2.2.2.1
    have hw4 := hx.2.2.2.2
    clear hx
    try simp only []
    go_wp2_with fail
    refine bodyPost_ret (v := .tuple #[.agg #[.int .i64 0, .string ⟨#[]⟩, .int .i64 0, .int .i64 0, .int .i64 0], .bool false]) (by simp [results, Tryz.results21, go_sem, hw0, hw1, hw2, hw3, hw4]) rfl (RetOD.no HF.out ?_)
    repeat (refine ext_set ?_ (by simp; try omega) _)
    exact HW.out
end Go.Proofs.YtbggggaoljpfnaaGreatDoor

/-
  Orders: the order with a text (ReadOrder), of the program.
-/
namespace Go.Proofs.YtbggggaoljpfnaaGreatDoor
open Go.ChangeShapes Go.WideShapes Go.ChangeAt Go.RowKit Go.Sort
set_option linter.unusedVariables false
set_option maxRecDepth 100000
attribute [local go_sem ↓] Go.wp_at_zero Go.wp_at_succ

theorem OI.cells2 {w : World} {base : Nat} {A : Option Addr} {n c : Nat} {xs : List Int} (h : OI w base (.slice A n c) xs) (h5 : xs.length = 2) :
    ∃ g1, A = some ⟨g1, 0, none⟩ ∧ w.cell? ⟨g1, 0, none⟩ = some (.int .i64 (gi xs 0)) ∧ w.cell? ⟨g1, 1, none⟩ = some (.int .i64 (gi xs 1)) := by
  obtain ⟨ad, hA, hlt, hc⟩ := h.rd.at2 (show 0 < xs.length by omega)
  rcases h.2 with ⟨hv, h1⟩ | ⟨g, cap, cur, hv, hg, _⟩
  · omega
  · injection hv with q1 q2 q3
    subst q1
    injection hA with hA
    subst hA
    refine ⟨g, rfl, ?_, ?_⟩
    · simpa [Addr.add] using hc 0 (by omega)
    · simpa [Addr.add] using hc 1 (by omega)
theorem rdNs_two {x : ByteArray} : rdNs 47 x 2 = true ↔ ((spb 47 x).length = 2 ∧ rdb (gd (spb 47 x) 0) = true ∧ rdb (gd (spb 47 x) 1) = true) := by
  unfold rdNs
  simp only [Bool.and_eq_true, decide_eq_true_eq]
  constructor
  · rintro ⟨h1, h2⟩
    obtain ⟨a, b, h⟩ := two _ h1
    rw [h] at h2 ⊢
    simp only [List.all_cons, List.all_nil, Bool.and_eq_true] at h2
    exact ⟨rfl, h2.1, h2.2.1⟩
  · rintro ⟨h1, h2, h3⟩
    obtain ⟨a, b, h⟩ := two _ h1
    rw [h] at h2 h3 ⊢
    refine ⟨rfl, ?_⟩
    simp only [List.all_cons, List.all_nil, Bool.and_eq_true]
    exact ⟨h2, h3, trivial⟩
theorem gi_map2 {x : ByteArray} (h : (spb 47 x).length = 2) : gi ((spb 47 x).map rdv) 0 = rdv (gd (spb 47 x) 0) ∧ gi ((spb 47 x).map rdv) 1 = rdv (gd (spb 47 x) 1) := by
  obtain ⟨a, b, h⟩ := two _ h
  rw [h]
  exact ⟨rfl, rfl⟩
set_option maxHeartbeats 6400000 in
theorem impl_ReadOrder (s : ByteArray) (w : World) (hs : s.size ≤ 1048576) (hE : Env w) :
    Calls Tryz.prog 19 #[.string s] w (RetOD (rdOv s) (rdOb s) w) := by
  have HEV : Hid (∀ W', Below w.heap.size w W' → Env W') := Lib.hid fun W' h => hE.ext h
  have HSP : Hid (∀ w, Env w → Calls Tryz.prog 52 #[.string s, .string ⟨#[32]⟩] w fun e w' => ∃ A cp, e = .returned (.slice A (spb 32 s).length cp) ∧ OStr w' w.heap.size (.slice A (spb 32 s).length cp) (spb 32 s) ∧ Below w.heap.size w w') := Lib.hid (fun w h => impl_Split s hs 32 w h)
  have HPT : Hid (∀ x ∈ spb 32 s, x.size ≤ 1048576) := Lib.hid fun x hx => Nat.le_trans (spb_part hx) hs
  clear hs hE
  go_enter Tryz.func19, Tryz.ntmps19
  go_wp2_with fail
  refine (show Calls _ _ _ _ _ from HSP.out _ (HEV.out _ (ext_alloc1 _ _))).mono ?_
  rintro e w1 ⟨A, cp, rfl, hO, hb1⟩
  have HZ : Hid (B5 w1 w.heap.size zOD) := Lib.hid ((B5.zero w _).ext hb1)
  have HW := Lib.hid (ext_trans (ext_alloc1 w _) hb1)
  have HO := Lib.hid hO
  clear hb1 hO HSP
  by_cases h5 : (spb 32 s).length = 5
  · obtain ⟨l, hl⟩ : ∃ l, spb 32 s = l := ⟨_, rfl⟩
    have HL := Lib.hid hl
    rw [hl] at h5 HO HPT
    rw [hl, h5]
    clear hl
    have HO' := HO.out
    rw [h5] at HO'
    obtain ⟨g1, rfl, k0, k1, k2, k3, k4⟩ := HO'.cells5 h5
    have H5 := Lib.hid h5
    clear HO' HO k3
    have p0 := HPT.out _ (gd_mem (l := l) (k := 0) (by omega))
    have HT0 : Hid ((tr35 (gd l 0)).size ≤ 1048576) := Lib.hid (by
      unfold tr35 Lib.trimPrefix
      split
      · rw [bsq_size, List.length_drop, size_toList]; omega
      · rw [bsq_size, size_toList]; omega)
    have HTP : Hid (∀ w, Calls Tryz.prog 54 #[.string (gd l 0), .string ⟨#[35]⟩] w (RetP (.string (tr35 (gd l 0))) w)) := Lib.hid fun w => (Tryz.strings_TrimPrefix (gd l 0) ⟨#[35]⟩ w).mono fun e w' ⟨h1, h2⟩ => ⟨by rw [h1]; rfl, h2.symm⟩
    have HN0 : Hid (∀ w, Env w → Calls Tryz.prog 53 #[.string (tr35 (gd l 0))] w (Ret (.tuple #[.int .i64 (rdv (tr35 (gd l 0))), .bool (rdb (tr35 (gd l 0)))]) w)) := Lib.hid fun w h => impl_ReadDecimal _ HT0.out w h
    have HN2 : Hid (∀ w, Env w → Calls Tryz.prog 55 #[.string (gd l 2), .string ⟨#[47]⟩, .int .i64 2] w (RetN 47 (gd l 2) 2 w)) := Lib.hid fun w h => impl_readNumbers (gd l 2) (HPT.out _ (gd_mem (by omega))) 47 2 (by omega) (by omega) w h
    have HN4 : Hid (∀ w, Env w → Calls Tryz.prog 53 #[.string (gd l 4)] w (Ret (.tuple #[.int .i64 (rdv (gd l 4)), .bool (rdb (gd l 4))]) w)) := Lib.hid fun w h => impl_ReadDecimal _ (HPT.out _ (gd_mem (by omega))) w h
    have HS1 : Hid ((gd l 1).size ≤ 1048576) := Lib.hid (HPT.out _ (gd_mem (by omega)))
    clear h5 HPT p0 HT0
    go_wp2_with fail
    refine (show Calls _ _ _ _ _ from HTP.out _).mono ?_
    rintro e w2 ⟨rfl, rfl⟩
    go_wp2_with fail
    refine (show Calls _ _ _ _ _ from HN0.out _ (HEV.out _ HW.out)).mono ?_
    rintro e w3 ⟨rfl, hb3⟩
    replace HW := Lib.hid (ext_trans HW.out hb3)
    replace HZ := Lib.hid (HZ.out.ext hb3)
    replace k1 := cell_keep k1 hb3
    replace k2 := cell_keep k2 hb3
    replace k4 := cell_keep k4 hb3
    clear hb3 HN0 HTP k0
    go_wp2_with fail
    refine (show Calls _ _ _ _ _ from HN2.out _ (HEV.out _ HW.out)).mono ?_
    rintro e w4 ⟨v2, rfl, hb3, hn2⟩
    replace HW := Lib.hid (ext_trans HW.out hb3)
    replace HZ := Lib.hid (HZ.out.ext hb3)
    replace k1 := cell_keep k1 hb3
    replace k4 := cell_keep k4 hb3
    have HNN := Lib.hid hn2
    clear hb3 HN2 k2 hn2
    go_wp2_with fail
    refine (show Calls _ _ _ _ _ from HN4.out _ (HEV.out _ HW.out)).mono ?_
    rintro e w5 ⟨rfl, hb3⟩
    replace HW := Lib.hid (ext_trans HW.out hb3)
    replace HZ := Lib.hid (HZ.out.ext hb3)
    replace k1 := cell_keep k1 hb3
    have HB5 := Lib.hid hb3
    clear hb3 HN4 k4
    have HE1 : Hid (rdb (tr35 (gd (spb 32 s) 0)) = false → rdO s = none) := Lib.hid rdO_num
    have HE2 : Hid (rdNs 47 (gd (spb 32 s) 2) 2 = false → rdO s = none) := Lib.hid fun h => rdO_two (fun h2 => by rw [rdNs_two.2 h2] at h; cases h)
    have HE4 : Hid (rdb (gd (spb 32 s) 4) = false → rdO s = none) := Lib.hid rdO_three
    have HE5 : Hid (rdNs 47 (gd (spb 32 s) 2) 2 = true → rdb (tr35 (gd (spb 32 s) 0)) = true → rdb (gd (spb 32 s) 4) = true → rdO s = if mOrderText (oP (spb 32 s) (spb 47 (gd (spb 32 s) 2))) = s then some (oP (spb 32 s) (spb 47 (gd (spb 32 s) 2))) else none) := Lib.hid fun h h1 h3 => by
      obtain ⟨a, b, c⟩ := rdNs_two.1 h
      exact rdO_last (by rw [HL.out]; exact H5.out) a h1 b c h3
    rw [HL.out] at HE1 HE2 HE4 HE5
    obtain ⟨b1, hb1⟩ : ∃ b, rdb (tr35 (gd l 0)) = b := ⟨_, rfl⟩
    obtain ⟨b2, hb2⟩ : ∃ b, rdNs 47 (gd l 2) 2 = b := ⟨_, rfl⟩
    obtain ⟨b4, hb4⟩ : ∃ b, rdb (gd l 4) = b := ⟨_, rfl⟩
    have HX := Lib.hid hb2
    rw [hb1] at HE1 HE5 ⊢
    rw [hb2] at HE2 HE5 HNN ⊢
    rw [hb4] at HE4 HE5 ⊢
    clear hb1 hb2 hb4
    cases b1 with
    | false =>
      have HF : Hid (rdO s = none) := Lib.hid (HE1.out rfl)
      have hz0 := HZ.out.1.1
      have hz1 := HZ.out.1.2.1
      have hz2 := HZ.out.1.2.2.1
      have hz3 := HZ.out.1.2.2.2.1
      have hz4 := HZ.out.1.2.2.2.2
      have hzf := HZ.out.2
      have hx := @box5_set w5 w.heap.size _ _ _ _ _ (.int .i64 0) (.string ⟨#[]⟩) (.int .i64 0) (.int .i64 0) (.int .i64 0) hz0 hz1 hz2 hz3 hz4
      have hw0 := hx.1
      have hw1 := hx.2.1
      have hw2 := hx.2.2.1
      have hw3 := hx.2.2.2.1
      have hw4 := hx.2.2.2.2
      clear hx
      try simp only []
      go_wp2_with fail
      refine bodyPost_ret (v := .tuple #[.agg #[.int .i64 0, .string ⟨#[]⟩, .int .i64 0, .int .i64 0, .int .i64 0], .bool false]) (by simp [results, Tryz.results19, go_sem, hw0, hw1, hw2, hw3, hw4]) rfl (RetOD.no HF.out ?_)
      repeat (refine ext_set ?_ (by simp; try omega) _)
      exact HW.out
    | true =>
    cases b2 with
    | false =>
      have HF : Hid (rdO s = none) := Lib.hid (HE2.out rfl)
      have hz0 := HZ.out.1.1
      have hz1 := HZ.out.1.2.1
      have hz2 := HZ.out.1.2.2.1
      have hz3 := HZ.out.1.2.2.2.1
      have hz4 := HZ.out.1.2.2.2.2
      have hzf := HZ.out.2
      have hx := @box5_set w5 w.heap.size _ _ _ _ _ (.int .i64 0) (.string ⟨#[]⟩) (.int .i64 0) (.int .i64 0) (.int .i64 0) hz0 hz1 hz2 hz3 hz4
      have hw0 := hx.1
      have hw1 := hx.2.1
      have hw2 := hx.2.2.1
      have hw3 := hx.2.2.2.1
      have hw4 := hx.2.2.2.2
      clear hx
      try simp only []
      go_wp2_with fail
      refine bodyPost_ret (v := .tuple #[.agg #[.int .i64 0, .string ⟨#[]⟩, .int .i64 0, .int .i64 0, .int .i64 0], .bool false]) (by simp [results, Tryz.results19, go_sem, hw0, hw1, hw2, hw3, hw4]) rfl (RetOD.no HF.out ?_)
      repeat (refine ext_set ?_ (by simp; try omega) _)
      exact HW.out
    | true =>
    cases b4 with
    | false =>
      have HF : Hid (rdO s = none) := Lib.hid (HE4.out rfl)
      have hz0 := HZ.out.1.1
      have hz1 := HZ.out.1.2.1
      have hz2 := HZ.out.1.2.2.1
      have hz3 := HZ.out.1.2.2.2.1
      have hz4 := HZ.out.1.2.2.2.2
      have hzf := HZ.out.2
      have hx := @box5_set w5 w.heap.size _ _ _ _ _ (.int .i64 0) (.string ⟨#[]⟩) (.int .i64 0) (.int .i64 0) (.int .i64 0) hz0 hz1 hz2 hz3 hz4
      have hw0 := hx.1
      have hw1 := hx.2.1
      have hw2 := hx.2.2.1
      have hw3 := hx.2.2.2.1
      have hw4 := hx.2.2.2.2
      clear hx
      try simp only []
      go_wp2_with fail
      refine bodyPost_ret (v := .tuple #[.agg #[.int .i64 0, .string ⟨#[]⟩, .int .i64 0, .int .i64 0, .int .i64 0], .bool false]) (by simp [results, Tryz.results19, go_sem, hw0, hw1, hw2, hw3, hw4]) rfl (RetOD.no HF.out ?_)
      repeat (refine ext_set ?_ (by simp; try omega) _)
      exact HW.out
    | true =>
    obtain ⟨hlv, ⟨A2, c2, rfl⟩, hov⟩ := HNN.out rfl
    obtain ⟨g2, rfl, n0, n1⟩ := hov.cells2 (by rw [List.length_map]; exact hlv)
    rw [(gi_map2 hlv).1] at n0
    rw [(gi_map2 hlv).2] at n1
    replace n0 := cell_keep n0 HB5.out
    replace n1 := cell_keep n1 HB5.out
    clear hov hlv HNN HB5
    obtain ⟨o, ho⟩ : ∃ o, oP l (spb 47 (gd l 2)) = o := ⟨_, rfl⟩
    have q0 : rdv (tr35 (gd l 0)) = o.id := by rw [← ho]; rfl
    have q1 : gd l 1 = o.cu := by rw [← ho]; rfl
    have q2 : rdv (gd (spb 47 (gd l 2)) 1) = o.br := by rw [← ho]; rfl
    have q3 : rdv (gd l 4) = o.due := by rw [← ho]; rfl
    have q4 : rdv (gd (spb 47 (gd l 2)) 0) = o.sent := by rw [← ho]; rfl
    rw [ho] at HE5
    rw [q1] at HS1 k1
    rw [q2] at n1
    rw [q4] at n0
    rw [q0, q3]
    clear q0 q1 q2 q3 q4 ho HE1 HE2 HE4
    have HFS := Lib.hid (HE5.out rfl rfl rfl)
    clear HE5
    go_wp2_with fail
    have n0a := fun o => cell_keep n0 (ext_alloc1 w5 o)
    have n1a := fun o => cell_keep n1 (ext_alloc1 w5 o)
    have k1a := fun o => cell_keep k1 (ext_alloc1 w5 o)
    go_region
    have HP : Hid (POD (w5.alloc (.cells #[.int .i64 o.id, .string o.cu, .int .i64 o.br, .int .i64 o.due, .int .i64 o.sent] 26)).drew ⟨w5.heap.size, 0, none⟩ o) := Lib.hid (POD.ext (pOD_box w5 o 26) (ext_drew (ext_refl _)))
    have hbw : Below w5.heap.size w5 (w5.alloc (.cells #[.int .i64 o.id, .string o.cu, .int .i64 o.br, .int .i64 o.due, .int .i64 o.sent] 26)).drew := ext_drew (ext_alloc1 _ _)
    replace HW := Lib.hid (ext_trans HW.out hbw)
    replace HZ := Lib.hid (HZ.out.ext hbw)
    clear hbw n0 n1 k1 n0a n1a k1a
    generalize w5.heap.size = g6 at *
    generalize (w5.alloc _).drew = w6 at *
    have HC : Hid (Calls Tryz.prog 18 #[.agg #[.int .i64 o.id, .string o.cu, .int .i64 o.br, .int .i64 o.due, .int .i64 o.sent]] w6 (Ret (.string (mOrderText o)) w6)) := Lib.hid (impl_OrderText _ o w6 rfl HS1.out (HEV.out _ HW.out).lay)
    have hp0 := HP.out.1
    have hp1 := HP.out.2.1
    have hp2 := HP.out.2.2.1
    have hp3 := HP.out.2.2.2.1
    have hp4 := HP.out.2.2.2.2
    try simp only []
    go_wp2_with fail
    clear hp0 hp1 hp2 hp3 hp4
    refine (show Calls _ _ _ _ _ from HC.out).mono ?_
    rintro e w7 ⟨rfl, hb3⟩
    replace HW := Lib.hid (ext_trans HW.out hb3)
    replace HZ := Lib.hid (HZ.out.ext hb3)
    replace HP := Lib.hid (HP.out.ext hb3)
    clear hb3 HC
    by_cases hq : mOrderText o = s
    · have HF : Hid (rdO s = some o) := Lib.hid (by rw [HFS.out, if_pos hq])
      rw [hq]
      clear hq
      have hz0 := HZ.out.1.1
      have hz1 := HZ.out.1.2.1
      have hz2 := HZ.out.1.2.2.1
      have hz3 := HZ.out.1.2.2.2.1
      have hz4 := HZ.out.1.2.2.2.2
      have hzf := HZ.out.2
      have hx := @box5_set w7 w.heap.size _ _ _ _ _ (.int .i64 o.id) (.string o.cu) (.int .i64 o.br) (.int .i64 o.due) (.int .i64 o.sent) hz0 hz1 hz2 hz3 hz4
      have hw0 := hx.1
      have hw1 := hx.2.1
      have hw2 := hx.2.2.1
      have hw3 := hx.2.2.2.1
      have hw4 := hx.2.2.2.2
      have hp0 := HP.out.1
      have hp1 := HP.out.2.1
      have hp2 := HP.out.2.2.1
      have hp3 := HP.out.2.2.2.1
      have hp4 := HP.out.2.2.2.2
      clear hx
      try simp only []
      go_wp2_with fail
      refine bodyPost_ret (v := .tuple #[.agg #[.int .i64 o.id, .string o.cu, .int .i64 o.br, .int .i64 o.due, .int .i64 o.sent], .bool true]) (by simp [results, Tryz.results19, go_sem, hw0, hw1, hw2, hw3, hw4]) rfl (RetOD.yes HF.out HS1.out ?_)
      repeat (refine ext_set ?_ (by simp; try omega) _)
      exact HW.out
    · have HF : Hid (rdO s = none) := Lib.hid (by rw [HFS.out, if_neg hq])
      have hst := str_ne hq
      clear hq
      have hz0 := HZ.out.1.1
      have hz1 := HZ.out.1.2.1
      have hz2 := HZ.out.1.2.2.1
      have hz3 := HZ.out.1.2.2.2.1
      have hz4 := HZ.out.1.2.2.2.2
      have hzf := HZ.out.2
      have hx := @box5_set w7 w.heap.size _ _ _ _ _ (.int .i64 0) (.string ⟨#[]⟩) (.int .i64 0) (.int .i64 0) (.int .i64 0) hz0 hz1 hz2 hz3 hz4
      have hw0 := hx.1
      have hw1 := hx.2.1
      have hw2 := hx.2.2.1
      have hw3 := hx.2.2.2.1
      have hw4 := hx.2.2.2.2
      clear hx
      try simp only []
      go_wp2_with fail
      refine bodyPost_ret (v := .tuple #[.agg #[.int .i64 0, .string ⟨#[]⟩, .int .i64 0, .int .i64 0, .int .i64 0], .bool false]) (by simp [results, Tryz.results19, go_sem, hw0, hw1, hw2, hw3, hw4]) rfl (RetOD.no HF.out ?_)
      repeat (refine ext_set ?_ (by simp; try omega) _)
      exact HW.out
  · have HF : Hid (rdO s = none) := Lib.hid (rdO_len h5)
    have e1 : ((((spb 32 s).length : Nat) : Int) != 5) = true := by simp; omega
    clear h5
    have hz0 := HZ.out.1.1
    have hz1 := HZ.out.1.2.1
    have hz2 := HZ.out.1.2.2.1
    have hz3 := HZ.out.1.2.2.2.1
    have hz4 := HZ.out.1.2.2.2.2
    have hzf := HZ.out.2
    have hx := @box5_set w1 w.heap.size _ _ _ _ _ (.int .i64 0) (.string ⟨#[]⟩) (.int .i64 0) (.int .i64 0) (.int .i64 0) hz0 hz1 hz2 hz3 hz4
    have hw0 := hx.1
    have hw1 := hx.2.1
    have hw2 := hx.2.2.1
    have hw3 := hx.2.2.2.1
    have hw4 := hx.2.2.2.2
    clear hx
    try simp only []
    go_wp2_with fail
    refine bodyPost_ret (v := .tuple #[.agg #[.int .i64 0, .string ⟨#[]⟩, .int .i64 0, .int .i64 0, .int .i64 0], .bool false]) (by simp [results, Tryz.results19, go_sem, hw0, hw1, hw2, hw3, hw4]) rfl (RetOD.no HF.out ?_)
    repeat (refine ext_set ?_ (by simp; try omega) _)
    exact HW.out
end Go.Proofs.YtbggggaoljpfnaaGreatDoor
