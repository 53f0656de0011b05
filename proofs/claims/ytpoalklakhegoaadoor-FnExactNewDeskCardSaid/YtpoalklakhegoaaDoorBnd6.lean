/-
  The bonds of the library, on the reference's side.
-/
import Derived.Test.YtpoalklakhegoaaDoorBnd5
namespace Go.Proofs.YtpoalklakhegoaaDoor
open Go.ChangeShapes Go.WideShapes Go.ChangeAt Go.RowKit Go.Sort Go.Joins
set_option linter.unusedVariables false
set_option maxRecDepth 100000

theorem libS0 : gW tL0 = true ∧ nW tL0 = nL0 ∧ cW tL0 = cL0 := by decide +kernel
theorem libS1 : gW tL1 = true ∧ nW tL1 = nL1 ∧ cW tL1 = cL1 := by decide +kernel
theorem libS2 : gW tL2 = true ∧ nW tL2 = nL2 ∧ cW tL2 = cL2 := by decide +kernel
theorem libS3 : gW tL3 = true ∧ nW tL3 = nL3 ∧ cW tL3 = cL3 := by decide +kernel
theorem libS4 : gW tL4 = true ∧ nW tL4 = nL4 ∧ cW tL4 = cL4 := by decide +kernel
theorem spec_ReadBond (s : ByteArray) (hg : gW s = true) (w : World) :
    Calls Tryd.prog 25 #[.string s] w fun e w' => ∃ A c, e = .returned (.tuple #[.agg #[.string (nW s), .slice A (cW s).length c], .bool true]) ∧ OCOS w' w.heap.size (.slice A (cW s).length c) (cW s) ∧ Below w.heap.size w w' := by
  have HC := Lib.hid (fun w => spec_Check s hg w)
  unfold gW at hg
  simp only [Bool.and_eq_true, decide_eq_true_eq] at hg
  have h4 : ¬ (400 : Int) < s.size := by omega
  clear hg
  go_enter Tryd.func25, Tryd.ntmps25
  go_wp2_with fail
  refine (show Calls _ _ _ _ _ from HC.out _).mono ?_
  rintro e w1 ⟨A, c, B, rfl, hO, hb⟩
  have z0 := cell_keep (p := ⟨w.heap.size, 0, none⟩) (v := .string ⟨#[]⟩) (by simp [go_sem]) hb
  have z1 := cell_keep (p := ⟨w.heap.size, 1, none⟩) (v := .slice none 0 0) (by simp [go_sem]) hb
  have hz0 : ∀ j, w1.frozen? ⟨w.heap.size, j, none⟩ = false := fun j => by rw [(bcell hb).2 _ _ (by simp)]; simp [go_sem]
  have HB := Lib.hid (ext_trans (ext_alloc1 _ _) hb)
  have hlt : w.heap.size < w1.heap.size := block_lt_of_cell z0
  have HO := Lib.hid (hO.mono (show w.heap.size + 1 ≤ _ by simp))
  clear hb hO
  go_wp2_with fail
  have u0 : (((w1.setCell ⟨w.heap.size, 0, none⟩ (.string (nW s))).setCell ⟨w.heap.size, 1, none⟩ (.slice A (cW s).length c)).alloc (.cells #[.string (nW s), .slice A (cW s).length c] 26)).cell? ⟨w.heap.size, 0, none⟩ = some (.string (nW s)) := cell_keep (by simp [go_sem, z0]) (ext_alloc1 _ _)
  have u1 : (((w1.setCell ⟨w.heap.size, 0, none⟩ (.string (nW s))).setCell ⟨w.heap.size, 1, none⟩ (.slice A (cW s).length c)).alloc (.cells #[.string (nW s), .slice A (cW s).length c] 26)).cell? ⟨w.heap.size, 1, none⟩ = some (.slice A (cW s).length c) := cell_keep (by simp [go_sem, z1]) (ext_alloc1 _ _)
  refine bodyPost_ret (v := .tuple #[.agg #[.string (nW s), .slice A (cW s).length c], .bool true]) (by simp [results, Tryd.results25, go_sem, u0, u1]) rfl ⟨A, c, rfl, ?_, ?_⟩
  · exact (((HO.out.put (Nat.lt_succ_self _) 0 _).put (Nat.lt_succ_self _) 1 _).ext (ext_alloc1 _ _)).mono (Nat.le_succ _)
  · exact ext_alloc (ext_set (ext_set HB.out (Nat.le_refl _) _) (Nat.le_refl _) _) _
/-- The library's five texts in a row. -/
structure LB (W : World) (L : Nat) : Prop where
  c0 : W.cell? ⟨L, 0, none⟩ = some (.string tL0)
  c1 : W.cell? ⟨L, 1, none⟩ = some (.string tL1)
  c2 : W.cell? ⟨L, 2, none⟩ = some (.string tL2)
  c3 : W.cell? ⟨L, 3, none⟩ = some (.string tL3)
  c4 : W.cell? ⟨L, 4, none⟩ = some (.string tL4)
theorem LB.ext {W W' : World} {L : Nat} (h : LB W L) (hb : Below W.heap.size W W') : LB W' L := ⟨cell_keep h.c0 hb, cell_keep h.c1 hb, cell_keep h.c2 hb, cell_keep h.c3 hb, cell_keep h.c4 hb⟩
theorem spec_Library (w : World) : Calls Tryd.prog 24 #[] w fun e w' => ∃ L, e = .returned (.slice (some ⟨L, 0, none⟩) 5 5) ∧ LB w' L ∧ Below w.heap.size w w' := by
  go_enter Tryd.func24, Tryd.ntmps24
  go_wp2_with fail
  go_ret
  refine ⟨w.heap.size, rfl, ⟨?_, ?_, ?_, ?_, ?_⟩, ext_alloc1 _ _⟩ <;> (simp [go_sem]; rfl)
theorem spec_ReadL (t n : ByteArray) (cs : List CO) (h : gW t = true ∧ nW t = n ∧ cW t = cs) (w : World) :
    Calls Tryd.prog 25 #[.string t] w fun e w' => ∃ A c, e = .returned (.tuple #[.agg #[.string n, .slice A cs.length c], .bool true]) ∧ OCOS w' w.heap.size (.slice A cs.length c) cs ∧ Below w.heap.size w w' := by
  obtain ⟨h1, rfl, rfl⟩ := h
  exact spec_ReadBond t h1 w
set_option maxHeartbeats 3200000 in
theorem spec_BondNamed (s : ByteArray) (w : World) :
    Calls Tryd.prog 18 #[.string s] w fun e w' => ∃ A c, e = .returned (.tuple #[.agg #[.string (bnN s), .slice A (bnC s).length c], .int .i64 (bnR s)]) ∧ OCOS w' w.heap.size (.slice A (bnC s).length c) (bnC s) ∧ Below w.heap.size w w' := by
  have HE : Hid (RE w (w.alloc (.cells #[.string ⟨#[]⟩, .slice none 0 0] 26)) w.heap.size) := Lib.hid ⟨ext_alloc1 _ _, Nat.le_refl _, by simp, by simp [go_sem], by simp [go_sem], fun j => by simp [go_sem]⟩
  go_enter Tryd.func18, Tryd.ntmps18
  go_wp2_with fail
  refine (spec_Library _).mono ?_
  rintro e w1 ⟨L, rfl, hL, hb⟩
  replace HE := Lib.hid (HE.out.ext hb)
  have HLB := Lib.hid hL
  clear hb hL
  go_wp2_with fail
  refine wp_loop_rounds 6 ?_
  rw [rounds_succ]
  have HL := Lib.hid (fun w => spec_ReadL tL0 nL0 cL0 libS0 w)
  have hlb := HLB.out.c0
  go_wp2_with fail
  refine (show Calls _ _ _ _ _ from HL.out _).mono ?_
  rintro e w1 ⟨A, c, rfl, hO, hb⟩
  have HO := Lib.hid (hO.mono (show w.heap.size + 1 ≤ _ from HE.out.lt))
  replace HE := Lib.hid (HE.out.ext hb)
  replace HLB := Lib.hid (HLB.out.ext hb)
  clear hb hO HL hlb
  by_cases hs : s = nL0
  · have HF : Hid (bnN nL0 = nL0 ∧ bnC nL0 = cL0 ∧ bnR nL0 = 0) := Lib.hid (by decide +kernel)
    subst hs
    have h0 := HE.out.h0
    have h1 := HE.out.h1
    have fz := HE.out.fz
    have hlt := HE.out.lt
    have HB := Lib.hid HE.out.b
    clear HE HLB
    go_wp2_with fail
    have u0 : (((w1.setCell ⟨w.heap.size, 0, none⟩ (.string nL0)).setCell ⟨w.heap.size, 1, none⟩ (.slice A (cL0).length c)).alloc (.cells #[.string nL0, .slice A (cL0).length c] 26)).cell? ⟨w.heap.size, 0, none⟩ = some (.string nL0) := cell_keep (by simp [go_sem, h0]) (ext_alloc1 _ _)
    have u1 : (((w1.setCell ⟨w.heap.size, 0, none⟩ (.string nL0)).setCell ⟨w.heap.size, 1, none⟩ (.slice A (cL0).length c)).alloc (.cells #[.string nL0, .slice A (cL0).length c] 26)).cell? ⟨w.heap.size, 1, none⟩ = some (.slice A (cL0).length c) := cell_keep (by simp [go_sem, h1]) (ext_alloc1 _ _)
    refine bodyPost_ret (v := .tuple #[.agg #[.string nL0, .slice A (cL0).length c], .int .i64 0]) (by simp [results, Tryd.results18, go_sem, u0, u1]) rfl ⟨A, c, by rw [HF.out.1, HF.out.2.1, HF.out.2.2], ?_, ?_⟩
    · rw [HF.out.2.1]
      exact (((HO.out.put (Nat.lt_succ_self _) 0 _).put (Nat.lt_succ_self _) 1 _).ext (ext_alloc1 _ _)).mono (Nat.le_succ _)
    · exact ext_alloc (ext_set (ext_set HB.out (Nat.le_refl _) _) (Nat.le_refl _) _) _
  have hst := str_ne hs
  have hst2 := ne_list hs
  have hst3 := str_ne (Ne.symm hs)
  have hst4 := ne_list (Ne.symm hs)
  go_wp2_with fail
  clear hst hst2 hst3 hst4 HO
  replace HE := Lib.hid (HE.out.ext (ext_alloc1 w1 (.cells #[.string nL0, .slice A (cL0).length c] 26)))
  replace HLB := Lib.hid (HLB.out.ext (ext_alloc1 w1 (.cells #[.string nL0, .slice A (cL0).length c] 26)))
  generalize w1.alloc (.cells #[.string nL0, .slice A (cL0).length c] 26) = wx0 at *
  have HN0 := Lib.hid hs
  clear hs
  rw [rounds_succ]
  have HL := Lib.hid (fun w => spec_ReadL tL1 nL1 cL1 libS1 w)
  have hlb := HLB.out.c1
  go_wp2_with fail
  refine (show Calls _ _ _ _ _ from HL.out _).mono ?_
  rintro e w1 ⟨A, c, rfl, hO, hb⟩
  have HO := Lib.hid (hO.mono (show w.heap.size + 1 ≤ _ from HE.out.lt))
  replace HE := Lib.hid (HE.out.ext hb)
  replace HLB := Lib.hid (HLB.out.ext hb)
  clear hb hO HL hlb
  by_cases hs : s = nL1
  · have HF : Hid (bnN nL1 = nL1 ∧ bnC nL1 = cL1 ∧ bnR nL1 = 0) := Lib.hid (by decide +kernel)
    subst hs
    have h0 := HE.out.h0
    have h1 := HE.out.h1
    have fz := HE.out.fz
    have hlt := HE.out.lt
    have HB := Lib.hid HE.out.b
    clear HE HLB
    go_wp2_with fail
    have u0 : (((w1.setCell ⟨w.heap.size, 0, none⟩ (.string nL1)).setCell ⟨w.heap.size, 1, none⟩ (.slice A (cL1).length c)).alloc (.cells #[.string nL1, .slice A (cL1).length c] 26)).cell? ⟨w.heap.size, 0, none⟩ = some (.string nL1) := cell_keep (by simp [go_sem, h0]) (ext_alloc1 _ _)
    have u1 : (((w1.setCell ⟨w.heap.size, 0, none⟩ (.string nL1)).setCell ⟨w.heap.size, 1, none⟩ (.slice A (cL1).length c)).alloc (.cells #[.string nL1, .slice A (cL1).length c] 26)).cell? ⟨w.heap.size, 1, none⟩ = some (.slice A (cL1).length c) := cell_keep (by simp [go_sem, h1]) (ext_alloc1 _ _)
    refine bodyPost_ret (v := .tuple #[.agg #[.string nL1, .slice A (cL1).length c], .int .i64 0]) (by simp [results, Tryd.results18, go_sem, u0, u1]) rfl ⟨A, c, by rw [HF.out.1, HF.out.2.1, HF.out.2.2], ?_, ?_⟩
    · rw [HF.out.2.1]
      exact (((HO.out.put (Nat.lt_succ_self _) 0 _).put (Nat.lt_succ_self _) 1 _).ext (ext_alloc1 _ _)).mono (Nat.le_succ _)
    · exact ext_alloc (ext_set (ext_set HB.out (Nat.le_refl _) _) (Nat.le_refl _) _) _
  have hst := str_ne hs
  have hst2 := ne_list hs
  have hst3 := str_ne (Ne.symm hs)
  have hst4 := ne_list (Ne.symm hs)
  go_wp2_with fail
  clear hst hst2 hst3 hst4 HO
  replace HE := Lib.hid (HE.out.ext (ext_alloc1 w1 (.cells #[.string nL1, .slice A (cL1).length c] 26)))
  replace HLB := Lib.hid (HLB.out.ext (ext_alloc1 w1 (.cells #[.string nL1, .slice A (cL1).length c] 26)))
  generalize w1.alloc (.cells #[.string nL1, .slice A (cL1).length c] 26) = wx1 at *
  have HN1 := Lib.hid hs
  clear hs
  rw [rounds_succ]
  have HL := Lib.hid (fun w => spec_ReadL tL2 nL2 cL2 libS2 w)
  have hlb := HLB.out.c2
  go_wp2_with fail
  refine (show Calls _ _ _ _ _ from HL.out _).mono ?_
  rintro e w1 ⟨A, c, rfl, hO, hb⟩
  have HO := Lib.hid (hO.mono (show w.heap.size + 1 ≤ _ from HE.out.lt))
  replace HE := Lib.hid (HE.out.ext hb)
  replace HLB := Lib.hid (HLB.out.ext hb)
  clear hb hO HL hlb
  by_cases hs : s = nL2
  · have HF : Hid (bnN nL2 = nL2 ∧ bnC nL2 = cL2 ∧ bnR nL2 = 0) := Lib.hid (by decide +kernel)
    subst hs
    have h0 := HE.out.h0
    have h1 := HE.out.h1
    have fz := HE.out.fz
    have hlt := HE.out.lt
    have HB := Lib.hid HE.out.b
    clear HE HLB
    go_wp2_with fail
    have u0 : (((w1.setCell ⟨w.heap.size, 0, none⟩ (.string nL2)).setCell ⟨w.heap.size, 1, none⟩ (.slice A (cL2).length c)).alloc (.cells #[.string nL2, .slice A (cL2).length c] 26)).cell? ⟨w.heap.size, 0, none⟩ = some (.string nL2) := cell_keep (by simp [go_sem, h0]) (ext_alloc1 _ _)
    have u1 : (((w1.setCell ⟨w.heap.size, 0, none⟩ (.string nL2)).setCell ⟨w.heap.size, 1, none⟩ (.slice A (cL2).length c)).alloc (.cells #[.string nL2, .slice A (cL2).length c] 26)).cell? ⟨w.heap.size, 1, none⟩ = some (.slice A (cL2).length c) := cell_keep (by simp [go_sem, h1]) (ext_alloc1 _ _)
    refine bodyPost_ret (v := .tuple #[.agg #[.string nL2, .slice A (cL2).length c], .int .i64 0]) (by simp [results, Tryd.results18, go_sem, u0, u1]) rfl ⟨A, c, by rw [HF.out.1, HF.out.2.1, HF.out.2.2], ?_, ?_⟩
    · rw [HF.out.2.1]
      exact (((HO.out.put (Nat.lt_succ_self _) 0 _).put (Nat.lt_succ_self _) 1 _).ext (ext_alloc1 _ _)).mono (Nat.le_succ _)
    · exact ext_alloc (ext_set (ext_set HB.out (Nat.le_refl _) _) (Nat.le_refl _) _) _
  have hst := str_ne hs
  have hst2 := ne_list hs
  have hst3 := str_ne (Ne.symm hs)
  have hst4 := ne_list (Ne.symm hs)
  go_wp2_with fail
  clear hst hst2 hst3 hst4 HO
  replace HE := Lib.hid (HE.out.ext (ext_alloc1 w1 (.cells #[.string nL2, .slice A (cL2).length c] 26)))
  replace HLB := Lib.hid (HLB.out.ext (ext_alloc1 w1 (.cells #[.string nL2, .slice A (cL2).length c] 26)))
  generalize w1.alloc (.cells #[.string nL2, .slice A (cL2).length c] 26) = wx2 at *
  have HN2 := Lib.hid hs
  clear hs
  rw [rounds_succ]
  have HL := Lib.hid (fun w => spec_ReadL tL3 nL3 cL3 libS3 w)
  have hlb := HLB.out.c3
  go_wp2_with fail
  refine (show Calls _ _ _ _ _ from HL.out _).mono ?_
  rintro e w1 ⟨A, c, rfl, hO, hb⟩
  have HO := Lib.hid (hO.mono (show w.heap.size + 1 ≤ _ from HE.out.lt))
  replace HE := Lib.hid (HE.out.ext hb)
  replace HLB := Lib.hid (HLB.out.ext hb)
  clear hb hO HL hlb
  by_cases hs : s = nL3
  · have HF : Hid (bnN nL3 = nL3 ∧ bnC nL3 = cL3 ∧ bnR nL3 = 0) := Lib.hid (by decide +kernel)
    subst hs
    have h0 := HE.out.h0
    have h1 := HE.out.h1
    have fz := HE.out.fz
    have hlt := HE.out.lt
    have HB := Lib.hid HE.out.b
    clear HE HLB
    go_wp2_with fail
    have u0 : (((w1.setCell ⟨w.heap.size, 0, none⟩ (.string nL3)).setCell ⟨w.heap.size, 1, none⟩ (.slice A (cL3).length c)).alloc (.cells #[.string nL3, .slice A (cL3).length c] 26)).cell? ⟨w.heap.size, 0, none⟩ = some (.string nL3) := cell_keep (by simp [go_sem, h0]) (ext_alloc1 _ _)
    have u1 : (((w1.setCell ⟨w.heap.size, 0, none⟩ (.string nL3)).setCell ⟨w.heap.size, 1, none⟩ (.slice A (cL3).length c)).alloc (.cells #[.string nL3, .slice A (cL3).length c] 26)).cell? ⟨w.heap.size, 1, none⟩ = some (.slice A (cL3).length c) := cell_keep (by simp [go_sem, h1]) (ext_alloc1 _ _)
    refine bodyPost_ret (v := .tuple #[.agg #[.string nL3, .slice A (cL3).length c], .int .i64 0]) (by simp [results, Tryd.results18, go_sem, u0, u1]) rfl ⟨A, c, by rw [HF.out.1, HF.out.2.1, HF.out.2.2], ?_, ?_⟩
    · rw [HF.out.2.1]
      exact (((HO.out.put (Nat.lt_succ_self _) 0 _).put (Nat.lt_succ_self _) 1 _).ext (ext_alloc1 _ _)).mono (Nat.le_succ _)
    · exact ext_alloc (ext_set (ext_set HB.out (Nat.le_refl _) _) (Nat.le_refl _) _) _
  have hst := str_ne hs
  have hst2 := ne_list hs
  have hst3 := str_ne (Ne.symm hs)
  have hst4 := ne_list (Ne.symm hs)
  go_wp2_with fail
  clear hst hst2 hst3 hst4 HO
  replace HE := Lib.hid (HE.out.ext (ext_alloc1 w1 (.cells #[.string nL3, .slice A (cL3).length c] 26)))
  replace HLB := Lib.hid (HLB.out.ext (ext_alloc1 w1 (.cells #[.string nL3, .slice A (cL3).length c] 26)))
  generalize w1.alloc (.cells #[.string nL3, .slice A (cL3).length c] 26) = wx3 at *
  have HN3 := Lib.hid hs
  clear hs
  rw [rounds_succ]
  have HL := Lib.hid (fun w => spec_ReadL tL4 nL4 cL4 libS4 w)
  have hlb := HLB.out.c4
  go_wp2_with fail
  refine (show Calls _ _ _ _ _ from HL.out _).mono ?_
  rintro e w1 ⟨A, c, rfl, hO, hb⟩
  have HO := Lib.hid (hO.mono (show w.heap.size + 1 ≤ _ from HE.out.lt))
  replace HE := Lib.hid (HE.out.ext hb)
  replace HLB := Lib.hid (HLB.out.ext hb)
  clear hb hO HL hlb
  by_cases hs : s = nL4
  · have HF : Hid (bnN nL4 = nL4 ∧ bnC nL4 = cL4 ∧ bnR nL4 = 0) := Lib.hid (by decide +kernel)
    subst hs
    have h0 := HE.out.h0
    have h1 := HE.out.h1
    have fz := HE.out.fz
    have hlt := HE.out.lt
    have HB := Lib.hid HE.out.b
    clear HE HLB
    go_wp2_with fail
    have u0 : (((w1.setCell ⟨w.heap.size, 0, none⟩ (.string nL4)).setCell ⟨w.heap.size, 1, none⟩ (.slice A (cL4).length c)).alloc (.cells #[.string nL4, .slice A (cL4).length c] 26)).cell? ⟨w.heap.size, 0, none⟩ = some (.string nL4) := cell_keep (by simp [go_sem, h0]) (ext_alloc1 _ _)
    have u1 : (((w1.setCell ⟨w.heap.size, 0, none⟩ (.string nL4)).setCell ⟨w.heap.size, 1, none⟩ (.slice A (cL4).length c)).alloc (.cells #[.string nL4, .slice A (cL4).length c] 26)).cell? ⟨w.heap.size, 1, none⟩ = some (.slice A (cL4).length c) := cell_keep (by simp [go_sem, h1]) (ext_alloc1 _ _)
    refine bodyPost_ret (v := .tuple #[.agg #[.string nL4, .slice A (cL4).length c], .int .i64 0]) (by simp [results, Tryd.results18, go_sem, u0, u1]) rfl ⟨A, c, by rw [HF.out.1, HF.out.2.1, HF.out.2.2], ?_, ?_⟩
    · rw [HF.out.2.1]
      exact (((HO.out.put (Nat.lt_succ_self _) 0 _).put (Nat.lt_succ_self _) 1 _).ext (ext_alloc1 _ _)).mono (Nat.le_succ _)
    · exact ext_alloc (ext_set (ext_set HB.out (Nat.le_refl _) _) (Nat.le_refl _) _) _
  have hst := str_ne hs
  have hst2 := ne_list hs
  have hst3 := str_ne (Ne.symm hs)
  have hst4 := ne_list (Ne.symm hs)
  go_wp2_with fail
  clear hst hst2 hst3 hst4 HO
  replace HE := Lib.hid (HE.out.ext (ext_alloc1 w1 (.cells #[.string nL4, .slice A (cL4).length c] 26)))
  replace HLB := Lib.hid (HLB.out.ext (ext_alloc1 w1 (.cells #[.string nL4, .slice A (cL4).length c] 26)))
  generalize w1.alloc (.cells #[.string nL4, .slice A (cL4).length c] 26) = wx4 at *
  have HN4 := Lib.hid hs
  clear hs
  rw [rounds_succ]
  have HF : Hid (bnN s = ⟨#[]⟩ ∧ bnC s = [] ∧ bnR s = 3) := Lib.hid (by unfold bnN bnC bnR bnF; rw [if_neg HN0.out, if_neg HN1.out, if_neg HN2.out, if_neg HN3.out, if_neg HN4.out]; exact ⟨rfl, rfl, rfl⟩)
  have h0 := HE.out.h0
  have h1 := HE.out.h1
  have fz := HE.out.fz
  have hlt := HE.out.lt
  have HB := Lib.hid HE.out.b
  clear HE
  go_wp2_with fail
  refine bodyPost_ret (v := .tuple #[.agg #[.string ⟨#[]⟩, .slice none 0 0], .int .i64 3]) (by simp [results, Tryd.results18, go_sem, h0, h1]) rfl ⟨none, 0, by rw [HF.out.1, HF.out.2.1, HF.out.2.2]; rfl, ?_, ?_⟩
  · rw [HF.out.2.1]
    exact ⟨rfl, .inl ⟨rfl, rfl⟩⟩
  · exact ext_set (ext_set HB.out (Nat.le_refl _) _) (Nat.le_refl _) _
end Go.Proofs.YtpoalklakhegoaaDoor
