/-
  Lifts: the wall with a text (ReadRise), of the program.
-/
import Derived.Test.YtibbdlgganmklaaDoorRdR
namespace Go.Proofs.YtibbdlgganmklaaDoor
open Go.ChangeShapes Go.WideShapes Go.ChangeAt Go.RowKit Go.Sort
set_option linter.unusedVariables false
set_option maxRecDepth 100000
attribute [local go_sem ↓] Go.wp_at_zero Go.wp_at_succ

theorem count_splL (b : UInt8) : ∀ l : List UInt8, l.count b + 1 = (splL b l).length
  | [] => rfl
  | c :: r => by
    have ih := count_splL b r
    rw [splL, List.count_cons]
    by_cases h : c = b
    · rw [if_pos h, if_pos (by simpa using h), List.length_cons]; omega
    · rw [if_neg h, if_neg (by simpa using h)]
      split
      · rename_i hr; rw [hr] at ih; simpa using ih
      · rename_i hr; exact absurd hr (splL_ne _ _)
theorem hdT_size (s : ByteArray) : (hdT s).size ≤ s.size := by
  unfold hdT Lib.cut
  rw [bsq_size, ← size_toList]
  split
  · simp only [List.length_take]; omega
  · exact Nat.le_refl _
theorem rsT_size (s : ByteArray) : (rsT s).size ≤ s.size - 2 := by
  unfold rsT Lib.cut
  rw [bsq_size, ← size_toList]
  split
  · simp only [List.length_drop, List.length_cons, List.length_nil]; omega
  · simp
set_option maxHeartbeats 6400000 in
theorem impl_ReadRise (s : ByteArray) (w : World) (hs : s.size ≤ 1048576) (hE : Env w) :
    Calls Tryd.prog 6 #[.string s] w (RetOR (rdRv s) (rdRb s) w) := by
  have HEV : Hid (∀ W', Below w.heap.size w W' → Env W') := Lib.hid fun W' h => hE.ext h
  have hzh := hdT_size s
  have hzr := rsT_size s
  have hln := spb_len 32 (rsT s)
  have HCT : Hid (∀ w, Env w → ∃ b, Calls Tryd.prog 14 #[.string s, .string ⟨#[58, 32]⟩] w (Ret (.tuple #[.string (hdT s), .string (rsT s), .bool b]) w)) := Lib.hid fun w h => ⟨_, (Tryd.strings_Cut_shaped s ⟨#[58, 32]⟩ w h.shp (by omega)).mono fun e w' ⟨h1, n, h2⟩ => by
    subst h1 h2
    exact ⟨rfl, ext_drewN (ext_refl _) _⟩⟩
  have HSP : Hid (∀ w, Env w → Calls Tryd.prog 15 #[.string (hdT s), .string ⟨#[32]⟩] w fun e w' => ∃ A cp, e = .returned (.slice A (spb 32 (hdT s)).length cp) ∧ OStr w' w.heap.size (.slice A (spb 32 (hdT s)).length cp) (spb 32 (hdT s)) ∧ Below w.heap.size w w') := Lib.hid (fun w h => impl_Split _ (by omega) 32 w h)
  obtain ⟨c, hc⟩ : ∃ c, Lib.countByte (rsT s).data.toList 32 = c := ⟨_, rfl⟩
  have hcl : c + 1 = (spb 32 (rsT s)).length := by
    unfold spb
    rw [List.length_map, ← hc]
    exact count_splL 32 _
  have HCN : Hid (∀ w, Calls Tryd.prog 17 #[.string (rsT s), .string ⟨#[32]⟩] w (RetP (.int .i64 c) w)) := Lib.hid fun w => (Tryd.strings_Count_one (rsT s) 32 w).mono fun e w' ⟨h1, h2⟩ => ⟨by rw [h1, hc], h2.symm⟩
  have HRD : Hid (∀ w, Env w → Calls Tryd.prog 16 #[.string (rsT s), .string ⟨#[32]⟩, .int .i64 ((c : Int) + 1)] w (RetN 32 (rsT s) (c + 1) w)) := Lib.hid fun w h => by
    have hq := impl_readNumbers (rsT s) (by omega) 32 (c + 1) (by omega) (by omega) w h
    rwa [show (((c + 1 : Nat)) : Int) = (c : Int) + 1 by omega] at hq
  have HON : Hid (rdNs 32 (rsT s) (c + 1) = (spb 32 (rsT s)).all rdb) := Lib.hid (by unfold rdNs; rw [decide_eq_true hcl.symm]; rfl)
  have HCL := Lib.hid hcl
  have hcb : c + 1 ≤ 1048576 := by omega
  have HALL : Hid (∀ r, rdR s = some r → _) := Lib.hid (fun r h => rdR_all (s := s) (r := r) h)
  have HPT : Hid (∀ x ∈ spb 32 (hdT s), x.size ≤ 1048576) := Lib.hid fun x hx => Nat.le_trans (part_le hx) (by omega)
  clear hzh hzr hln hcl hc hE
  go_enter Tryd.func6, Tryd.ntmps6
  go_wp2_with fail
  obtain ⟨cb, HCT2⟩ := HCT.out _ (HEV.out _ (ext_alloc1 _ _))
  refine (show Calls _ _ _ _ _ from HCT2).mono ?_
  rintro e w1 ⟨rfl, hb1⟩
  have HZ : Hid (Z4 w1 w.heap.size) := Lib.hid ((Z4.new w _).ext hb1)
  have HW := Lib.hid (ext_trans (ext_alloc1 w _) hb1)
  clear hb1 HCT HCT2
  go_wp2_with fail
  refine (show Calls _ _ _ _ _ from HSP.out _ (HEV.out _ HW.out)).mono ?_
  rintro e w2 ⟨A, cp, rfl, hO, hb1⟩
  replace HZ := Lib.hid (HZ.out.ext hb1)
  replace HW := Lib.hid (ext_trans HW.out hb1)
  have HA := Lib.hid hO
  have hgw : w.heap.size < w2.heap.size := block_lt_of_cell HZ.out.1
  clear hb1 hO HSP
  obtain ⟨l, hl⟩ : ∃ l, spb 32 (hdT s) = l := ⟨_, rfl⟩
  have HL := Lib.hid hl
  have HBK : Hid (l.length = 6 → ∀ r, mRiseText r = s → rdR s = some r) := Lib.hid fun h r hr => rdR_back (by rw [hl]; exact h) hr
  rw [hl] at HA HPT HALL ⊢
  clear hl
  go_wp2_with fail
  refine (show Calls _ _ _ _ _ from HCN.out _).mono ?_
  rintro e w3 ⟨rfl, rfl⟩
  go_wp2_with fail
  refine (show Calls _ _ _ _ _ from HRD.out _ (HEV.out _ HW.out)).mono ?_
  rintro e w4 ⟨v4, rfl, hb1, hn4⟩
  replace HZ := Lib.hid (HZ.out.ext hb1)
  replace HW := Lib.hid (ext_trans HW.out hb1)
  replace HA := Lib.hid (HA.out.ext hb1)
  have HN4 := Lib.hid hn4
  clear hb1 hn4 HRD HCN
  rw [HON.out] at HN4 ⊢
  by_cases h6 : l.length = 6
  · obtain ⟨b0, hb0⟩ : ∃ b, (spb 32 (rsT s)).all rdb = b := ⟨_, rfl⟩
    rw [hb0] at HALL HN4 ⊢
    have hA := HA.out
    rw [h6] at hA ⊢
    have H6 := Lib.hid h6
    have HPR : Hid (rP s = ⟨(spb 32 (rsT s)).map rdv, rdv (gd l 1), rdv (gd l 3), rdv (gd l 5)⟩) := Lib.hid (by unfold rP; rw [HL.out])
    cases b0 with
    | false =>
      have HF : Hid (rdR s = none) := Lib.hid (by
        cases hr : rdR s with
        | none => rfl
        | some r => exact absurd (HALL.out r hr).2.1 (by decide))
      clear h6
      have hz0 := HZ.out.1
      have hz1 := HZ.out.2.1
      have hz2 := HZ.out.2.2.1
      have hz3 := HZ.out.2.2.2.1
      have hzf := HZ.out.2.2.2.2
      have hx := @box4_set w4 w.heap.size _ _ _ _ (.slice none 0 0) (.int .i64 0) (.int .i64 0) (.int .i64 0) hz0 hz1 hz2 hz3
      have hw0 := hx.1
      have hw1 := hx.2.1
      have hw2 := hx.2.2.1
      have hw3 := hx.2.2.2
      clear hx
      try simp only []
      go_wp2_with fail
      refine bodyPost_ret (v := .tuple #[.agg #[.slice none 0 0, .int .i64 0, .int .i64 0, .int .i64 0], .bool false]) (by simp [results, Tryd.results6, go_sem, hw0, hw1, hw2, hw3]) rfl (RetOR.no HF.out ?_)
      repeat (refine ext_set ?_ (by simp; try omega) _)
      exact HW.out
    | true =>
    obtain ⟨g1, rfl, _, k1, _, k3, _, k5⟩ := hA.cells6 (by omega)
    have HN1 : Hid (∀ w, Env w → Calls Tryd.prog 18 #[.string (gd l 1)] w (Ret (.tuple #[.int .i64 (rdv (gd l 1)), .bool (rdb (gd l 1))]) w)) := Lib.hid fun w h => impl_ReadDecimal _ (HPT.out _ (gd_mem (by omega))) w h
    have HN3 : Hid (∀ w, Env w → Calls Tryd.prog 18 #[.string (gd l 3)] w (Ret (.tuple #[.int .i64 (rdv (gd l 3)), .bool (rdb (gd l 3))]) w)) := Lib.hid fun w h => impl_ReadDecimal _ (HPT.out _ (gd_mem (by omega))) w h
    have HN5 : Hid (∀ w, Env w → Calls Tryd.prog 18 #[.string (gd l 5)] w (Ret (.tuple #[.int .i64 (rdv (gd l 5)), .bool (rdb (gd l 5))]) w)) := Lib.hid fun w h => impl_ReadDecimal _ (HPT.out _ (gd_mem (by omega))) w h
    obtain ⟨hl4, ⟨A4, c4, rfl⟩, ho4⟩ := HN4.out rfl
    have HO4 := Lib.hid ho4
    have HL4 := Lib.hid hl4
    clear h6 hA ho4 hl4 HN4 HA
    go_wp2_with fail
    refine (show Calls _ _ _ _ _ from HN1.out _ (HEV.out _ HW.out)).mono ?_
    rintro e w6 ⟨rfl, hb1⟩
    replace HZ := Lib.hid (HZ.out.ext hb1)
    replace HW := Lib.hid (ext_trans HW.out hb1)
    replace HO4 := Lib.hid (HO4.out.ext hb1)
    replace k3 := cell_keep k3 hb1
    replace k5 := cell_keep k5 hb1
    clear hb1 HN1 k1
    go_wp2_with fail
    refine (show Calls _ _ _ _ _ from HN3.out _ (HEV.out _ HW.out)).mono ?_
    rintro e w7 ⟨rfl, hb1⟩
    replace HZ := Lib.hid (HZ.out.ext hb1)
    replace HW := Lib.hid (ext_trans HW.out hb1)
    replace HO4 := Lib.hid (HO4.out.ext hb1)
    replace k5 := cell_keep k5 hb1
    clear hb1 HN3 k3
    go_wp2_with fail
    refine (show Calls _ _ _ _ _ from HN5.out _ (HEV.out _ HW.out)).mono ?_
    rintro e w8 ⟨rfl, hb1⟩
    replace HZ := Lib.hid (HZ.out.ext hb1)
    replace HW := Lib.hid (ext_trans HW.out hb1)
    replace HO4 := Lib.hid (HO4.out.ext hb1)
    clear hb1 HN5 k5
    obtain ⟨xs, hxs⟩ : ∃ xs, (spb 32 (rsT s)).map rdv = xs := ⟨_, rfl⟩
    obtain ⟨va, hva⟩ : ∃ v, rdv (gd l 1) = v := ⟨_, rfl⟩
    obtain ⟨vb, hvb⟩ : ∃ v, rdv (gd l 3) = v := ⟨_, rfl⟩
    obtain ⟨vc, hvc⟩ : ∃ v, rdv (gd l 5) = v := ⟨_, rfl⟩
    obtain ⟨b1, hb1⟩ : ∃ v, rdb (gd l 1) = v := ⟨_, rfl⟩
    obtain ⟨b3, hb3⟩ : ∃ v, rdb (gd l 3) = v := ⟨_, rfl⟩
    obtain ⟨b5, hb5⟩ : ∃ v, rdb (gd l 5) = v := ⟨_, rfl⟩
    have hxl : xs.length = c + 1 := by rw [← hxs, List.length_map]; exact HL4.out
    rw [hxs, hva, hvb, hvc] at HPR
    rw [hxs] at HO4
    rw [HPR.out, hb1, hb3, hb5] at HALL
    rw [hva, hvb, hvc, hb1, hb3, hb5]
    have HB6 : Hid (∀ r, mRiseText r = s → rdR s = some r) := Lib.hid fun r hr => HBK.out H6.out r hr
    clear hxs hva hvb hvc hb1 hb3 hb5 HPR HBK HL4
    cases b1 with
    | false =>
      have HF : Hid (rdR s = none) := Lib.hid (by
        cases hr : rdR s with
        | none => rfl
        | some r => exact absurd (HALL.out r hr).2.2.1 (by decide))
      have hz := fun o => HZ.out.ext (ext_alloc1 w8 o)
      have hz0 := fun o => (hz o).1
      have hz1 := fun o => (hz o).2.1
      have hz2 := fun o => (hz o).2.2.1
      have hz3 := fun o => (hz o).2.2.2.1
      have hzf := fun o => (hz o).2.2.2.2
      have hx := fun o => @box4_set (w8.alloc o) w.heap.size _ _ _ _ (.slice none 0 0) (.int .i64 0) (.int .i64 0) (.int .i64 0) (hz0 o) (hz1 o) (hz2 o) (hz3 o)
      have hw0 := fun o => (hx o).1
      have hw1 := fun o => (hx o).2.1
      have hw2 := fun o => (hx o).2.2.1
      have hw3 := fun o => (hx o).2.2.2
      clear hx hz
      try simp only []
      go_wp2_with fail
      refine bodyPost_ret (v := .tuple #[.agg #[.slice none 0 0, .int .i64 0, .int .i64 0, .int .i64 0], .bool false]) (by simp [results, Tryd.results6, go_sem, hw0, hw1, hw2, hw3]) rfl (RetOR.no HF.out ?_)
      repeat (refine ext_set ?_ (by simp; try omega) _)
      exact ext_alloc HW.out _
    | true =>
    cases b3 with
    | false =>
      have HF : Hid (rdR s = none) := Lib.hid (by
        cases hr : rdR s with
        | none => rfl
        | some r => exact absurd (HALL.out r hr).2.2.2.1 (by decide))
      have hz := fun o => HZ.out.ext (ext_alloc1 w8 o)
      have hz0 := fun o => (hz o).1
      have hz1 := fun o => (hz o).2.1
      have hz2 := fun o => (hz o).2.2.1
      have hz3 := fun o => (hz o).2.2.2.1
      have hzf := fun o => (hz o).2.2.2.2
      have hx := fun o => @box4_set (w8.alloc o) w.heap.size _ _ _ _ (.slice none 0 0) (.int .i64 0) (.int .i64 0) (.int .i64 0) (hz0 o) (hz1 o) (hz2 o) (hz3 o)
      have hw0 := fun o => (hx o).1
      have hw1 := fun o => (hx o).2.1
      have hw2 := fun o => (hx o).2.2.1
      have hw3 := fun o => (hx o).2.2.2
      clear hx hz
      try simp only []
      go_wp2_with fail
      refine bodyPost_ret (v := .tuple #[.agg #[.slice none 0 0, .int .i64 0, .int .i64 0, .int .i64 0], .bool false]) (by simp [results, Tryd.results6, go_sem, hw0, hw1, hw2, hw3]) rfl (RetOR.no HF.out ?_)
      repeat (refine ext_set ?_ (by simp; try omega) _)
      exact ext_alloc HW.out _
    | true =>
    cases b5 with
    | false =>
      have HF : Hid (rdR s = none) := Lib.hid (by
        cases hr : rdR s with
        | none => rfl
        | some r => exact absurd (HALL.out r hr).2.2.2.2.1 (by decide))
      have hz := fun o => HZ.out.ext (ext_alloc1 w8 o)
      have hz0 := fun o => (hz o).1
      have hz1 := fun o => (hz o).2.1
      have hz2 := fun o => (hz o).2.2.1
      have hz3 := fun o => (hz o).2.2.2.1
      have hzf := fun o => (hz o).2.2.2.2
      have hx := fun o => @box4_set (w8.alloc o) w.heap.size _ _ _ _ (.slice none 0 0) (.int .i64 0) (.int .i64 0) (.int .i64 0) (hz0 o) (hz1 o) (hz2 o) (hz3 o)
      have hw0 := fun o => (hx o).1
      have hw1 := fun o => (hx o).2.1
      have hw2 := fun o => (hx o).2.2.1
      have hw3 := fun o => (hx o).2.2.2
      clear hx hz
      try simp only []
      go_wp2_with fail
      refine bodyPost_ret (v := .tuple #[.agg #[.slice none 0 0, .int .i64 0, .int .i64 0, .int .i64 0], .bool false]) (by simp [results, Tryd.results6, go_sem, hw0, hw1, hw2, hw3]) rfl (RetOR.no HF.out ?_)
      repeat (refine ext_set ?_ (by simp; try omega) _)
      exact ext_alloc HW.out _
    | true =>
    have HXL : Hid (c + 1 = xs.length) := Lib.hid hxl.symm
    rw [HXL.out] at HO4 ⊢
    clear hxl
    have HP : Hid ((w8.alloc (.cells #[.slice A4 xs.length c4, .int .i64 va, .int .i64 vb, .int .i64 vc] 26)).cell? ⟨w8.heap.size, 0, none⟩ = some (.slice A4 xs.length c4) ∧ (w8.alloc (.cells #[.slice A4 xs.length c4, .int .i64 va, .int .i64 vb, .int .i64 vc] 26)).cell? ⟨w8.heap.size, 1, none⟩ = some (.int .i64 va) ∧ (w8.alloc (.cells #[.slice A4 xs.length c4, .int .i64 va, .int .i64 vb, .int .i64 vc] 26)).cell? ⟨w8.heap.size, 2, none⟩ = some (.int .i64 vb) ∧ (w8.alloc (.cells #[.slice A4 xs.length c4, .int .i64 va, .int .i64 vb, .int .i64 vc] 26)).cell? ⟨w8.heap.size, 3, none⟩ = some (.int .i64 vc)) := Lib.hid ⟨by simp [go_sem], by simp [go_sem], by simp [go_sem], by simp [go_sem]⟩
    have HSR := Lib.hid (HO4.out.rd.alloc (.cells #[.slice A4 xs.length c4, .int .i64 va, .int .i64 vb, .int .i64 vc] 26))
    have hb9 := ext_alloc1 w8 (.cells #[.slice A4 xs.length c4, .int .i64 va, .int .i64 vb, .int .i64 vc] 26)
    replace HZ := Lib.hid (HZ.out.ext hb9)
    replace HW := Lib.hid (ext_trans HW.out hb9)
    replace HO4 := Lib.hid (HO4.out.ext hb9)
    have hsm : xs.length ≤ 1048576 := by have := HXL.out; omega
    have HC := Lib.hid (impl_RiseText _ ⟨xs, va, vb, vc⟩ _ ⟨A4, c4, rfl, HSR.out⟩ hsm (HEV.out _ HW.out).lay)
    clear hb9
    go_wp2_with fail
    refine (show Calls _ _ _ _ _ from HC.out).mono ?_
    rintro e w9 ⟨rfl, hb9⟩
    replace HZ := Lib.hid (HZ.out.ext hb9)
    replace HW := Lib.hid (ext_trans HW.out hb9)
    replace HO4 := Lib.hid (HO4.out.ext hb9)
    replace HP := Lib.hid (show w9.cell? ⟨w8.heap.size, 0, none⟩ = some (.slice A4 xs.length c4) ∧ w9.cell? ⟨w8.heap.size, 1, none⟩ = some (.int .i64 va) ∧ w9.cell? ⟨w8.heap.size, 2, none⟩ = some (.int .i64 vb) ∧ w9.cell? ⟨w8.heap.size, 3, none⟩ = some (.int .i64 vc) from ⟨cell_keep HP.out.1 hb9, cell_keep HP.out.2.1 hb9, cell_keep HP.out.2.2.1 hb9, cell_keep HP.out.2.2.2 hb9⟩)
    clear hb9 HC HSR
    have HB7 := Lib.hid (fun h => HB6.out ⟨xs, va, vb, vc⟩ h)
    generalize w8.heap.size = g8 at *
    by_cases hq : mRiseText ⟨xs, va, vb, vc⟩ = s
    · have HF : Hid (rdR s = some ⟨xs, va, vb, vc⟩) := Lib.hid (HB7.out hq)
      rw [hq]
      clear hq
      obtain ⟨r0, r1, r2, r3⟩ := HP.out
      have hz0 := HZ.out.1
      have hz1 := HZ.out.2.1
      have hz2 := HZ.out.2.2.1
      have hz3 := HZ.out.2.2.2.1
      have hzf := HZ.out.2.2.2.2
      have hx := @box4_set w9 w.heap.size _ _ _ _ (.slice A4 xs.length c4) (.int .i64 va) (.int .i64 vb) (.int .i64 vc) hz0 hz1 hz2 hz3
      have HO8 := Lib.hid (HO4.out.chg (box4_chg w9 w.heap.size (.slice A4 xs.length c4) (.int .i64 va) (.int .i64 vb) (.int .i64 vc)) (fun k hk e => by have := (HO4.out.ge k hk).1; omega))
      have hw0 := hx.1
      have hw1 := hx.2.1
      have hw2 := hx.2.2.1
      have hw3 := hx.2.2.2
      clear hx
      try simp only []
      go_wp2_with fail
      refine bodyPost_ret (v := .tuple #[.agg #[.slice A4 xs.length c4, .int .i64 va, .int .i64 vb, .int .i64 vc], .bool true]) (by simp [results, Tryd.results6, go_sem, hw0, hw1, hw2, hw3]) rfl (RetOR.yes (r := ⟨xs, va, vb, vc⟩) HF.out (HO8.out.mono (by omega)) hsm ?_)
      repeat (refine ext_set ?_ (by simp; try omega) _)
      exact HW.out
    · have HF : Hid (rdR s = none) := Lib.hid (by
        cases hr : rdR s with
        | none => rfl
        | some r =>
          have h1 := (HALL.out r hr).2.2.2.2.2
          rw [← h1.1] at h1
          exact absurd h1.2 hq)
      have hst := str_ne hq
      clear hq
      have hz0 := HZ.out.1
      have hz1 := HZ.out.2.1
      have hz2 := HZ.out.2.2.1
      have hz3 := HZ.out.2.2.2.1
      have hzf := HZ.out.2.2.2.2
      have hx := @box4_set w9 w.heap.size _ _ _ _ (.slice none 0 0) (.int .i64 0) (.int .i64 0) (.int .i64 0) hz0 hz1 hz2 hz3
      have hw0 := hx.1
      have hw1 := hx.2.1
      have hw2 := hx.2.2.1
      have hw3 := hx.2.2.2
      clear hx
      try simp only []
      go_wp2_with fail
      refine bodyPost_ret (v := .tuple #[.agg #[.slice none 0 0, .int .i64 0, .int .i64 0, .int .i64 0], .bool false]) (by simp [results, Tryd.results6, go_sem, hw0, hw1, hw2, hw3]) rfl (RetOR.no HF.out ?_)
      repeat (refine ext_set ?_ (by simp; try omega) _)
      exact HW.out
  · have HF : Hid (rdR s = none) := Lib.hid (by
      cases hr : rdR s with
      | none => rfl
      | some r => exact absurd (HALL.out r hr).1 h6)
    have e1 : (((l.length : Nat) : Int) != 6) = true := by simp; omega
    clear h6
    have hz0 := HZ.out.1
    have hz1 := HZ.out.2.1
    have hz2 := HZ.out.2.2.1
    have hz3 := HZ.out.2.2.2.1
    have hzf := HZ.out.2.2.2.2
    have hx := @box4_set w4 w.heap.size _ _ _ _ (.slice none 0 0) (.int .i64 0) (.int .i64 0) (.int .i64 0) hz0 hz1 hz2 hz3
    have hw0 := hx.1
    have hw1 := hx.2.1
    have hw2 := hx.2.2.1
    have hw3 := hx.2.2.2
    clear hx
    try simp only []
    go_wp2_with fail
    refine bodyPost_ret (v := .tuple #[.agg #[.slice none 0 0, .int .i64 0, .int .i64 0, .int .i64 0], .bool false]) (by simp [results, Tryd.results6, go_sem, hw0, hw1, hw2, hw3]) rfl (RetOR.no HF.out ?_)
    repeat (refine ext_set ?_ (by simp; try omega) _)
    exact HW.out
end Go.Proofs.YtibbdlgganmklaaDoor
