/-
  Parts of the proof: Bnd6X, NewDX, SmCX, RdF2X.
-/
import Derived.Test.YtfgopboddkhckaaGreatDoorKa14
import Derived.Test.YtfgopboddkhckaaGreatDoorKa15
import Derived.Test.YtfgopboddkhckaaGreatDoorKa16
import Derived.Test.YtfgopboddkhckaaGreatDoorKa17
import Derived.Test.YtfgopboddkhckaaGreatDoorKa21
import Derived.Test.YtfgopboddkhckaaGreatDoorKa22
import Derived.Lib.SliceRun
import Derived.ChangeBears2
namespace Go.Proofs.YtfgopboddkhckaaGreatDoor
open Go.ChangeShapes Go.WideShapes Go.ChangeAt Go.RowKit Go.Sort Go.Joins
set_option linter.unusedVariables false
set_option maxRecDepth 100000

theorem libS0 : gW tL0 = true ∧ nW tL0 = nL0 ∧ cW tL0 = cL0 := by decide +kernel
theorem libS1 : gW tL1 = true ∧ nW tL1 = nL1 ∧ cW tL1 = cL1 := by decide +kernel
theorem libS2 : gW tL2 = true ∧ nW tL2 = nL2 ∧ cW tL2 = cL2 := by decide +kernel
theorem libS3 : gW tL3 = true ∧ nW tL3 = nL3 ∧ cW tL3 = cL3 := by decide +kernel
theorem libS4 : gW tL4 = true ∧ nW tL4 = nL4 ∧ cW tL4 = cL4 := by decide +kernel
theorem spec_ReadBond (s : ByteArray) (hg : gW s = true) (w : World) :
    Calls Tryz.prog 111 #[.string s] w fun e w' => ∃ A c, e = .returned (.tuple #[.agg #[.string (nW s), .slice A (cW s).length c], .bool true]) ∧ OCOS w' w.heap.size (.slice A (cW s).length c) (cW s) ∧ Below w.heap.size w w' := by
  have HC := Lib.hid (fun w => spec_Check s hg w)
  unfold gW at hg
  simp only [Bool.and_eq_true, decide_eq_true_eq] at hg
  have h4 : ¬ (400 : Int) < s.size := by omega
  clear hg
  go_enter Tryz.func111, Tryz.ntmps111
  go_wp2_with fail
  refine (show Calls _ _ _ _ _ from HC.out _).mono ?_
  rintro e w1 ⟨A, c, B, rfl, hO, hb⟩
  have z0 := cell_keep (p := ⟨w.heap.size, 0, none⟩) (v := .string ⟨#[]⟩) (by simp [go_sem]) hb
  have z1 := cell_keep (p := ⟨w.heap.size, 1, none⟩) (v := .slice none 0 0) (by simp [go_sem]) hb
  have hz0 : ∀ j, w1.frozen? ⟨w.heap.size, j, none⟩ = false := fun j => by rw [(bcell hb).2 _ _ (by simp)]; simp [go_sem]
  have HB := Lib.hid (ext_trans (ext_alloc1 _ _) hb)
  have hlt : w.heap.size < w1.heap.size := block_lt_of_cell z0
  have HO := Lib.hid (hO.mono (show w.heap.size + 1 ≤ _ by simp))
  clear hb hO
  go_wp2_with fail
  have u0 : (((w1.setCell ⟨w.heap.size, 0, none⟩ (.string (nW s))).setCell ⟨w.heap.size, 1, none⟩ (.slice A (cW s).length c)).alloc (.cells #[.string (nW s), .slice A (cW s).length c] 36)).cell? ⟨w.heap.size, 0, none⟩ = some (.string (nW s)) := cell_keep (by simp [go_sem, z0]) (ext_alloc1 _ _)
  have u1 : (((w1.setCell ⟨w.heap.size, 0, none⟩ (.string (nW s))).setCell ⟨w.heap.size, 1, none⟩ (.slice A (cW s).length c)).alloc (.cells #[.string (nW s), .slice A (cW s).length c] 36)).cell? ⟨w.heap.size, 1, none⟩ = some (.slice A (cW s).length c) := cell_keep (by simp [go_sem, z1]) (ext_alloc1 _ _)
  refine bodyPost_ret (v := .tuple #[.agg #[.string (nW s), .slice A (cW s).length c], .bool true]) (by simp [results, Tryz.results111, go_sem, u0, u1]) rfl ⟨A, c, rfl, ?_, ?_⟩
  · exact (((HO.out.put (Nat.lt_succ_self _) 0 _).put (Nat.lt_succ_self _) 1 _).ext (ext_alloc1 _ _)).mono (Nat.le_succ _)
  · exact ext_alloc (ext_set (ext_set HB.out (Nat.le_refl _) _) (Nat.le_refl _) _) _
theorem spec_Library (w : World) : Calls Tryz.prog 110 #[] w fun e w' => ∃ L, e = .returned (.slice (some ⟨L, 0, none⟩) 5 5) ∧ LB w' L ∧ Below w.heap.size w w' := by
  go_enter Tryz.func110, Tryz.ntmps110
  go_wp2_with fail
  go_ret
  refine ⟨w.heap.size, rfl, ⟨?_, ?_, ?_, ?_, ?_⟩, ext_alloc1 _ _⟩ <;> (simp [go_sem]; rfl)
theorem spec_ReadL (t n : ByteArray) (cs : List CO) (h : gW t = true ∧ nW t = n ∧ cW t = cs) (w : World) :
    Calls Tryz.prog 111 #[.string t] w fun e w' => ∃ A c, e = .returned (.tuple #[.agg #[.string n, .slice A cs.length c], .bool true]) ∧ OCOS w' w.heap.size (.slice A cs.length c) cs ∧ Below w.heap.size w w' := by
  obtain ⟨h1, rfl, rfl⟩ := h
  exact spec_ReadBond t h1 w
set_option maxHeartbeats 3200000 in
theorem spec_BondNamed (s : ByteArray) (w : World) :
    Calls Tryz.prog 55 #[.string s] w fun e w' => ∃ A c, e = .returned (.tuple #[.agg #[.string (bnN s), .slice A (bnC s).length c], .int .i64 (bnR s)]) ∧ OCOS w' w.heap.size (.slice A (bnC s).length c) (bnC s) ∧ Below w.heap.size w w' := by
  have HE : Hid (RE w (w.alloc (.cells #[.string ⟨#[]⟩, .slice none 0 0] 36)) w.heap.size) := Lib.hid ⟨ext_alloc1 _ _, Nat.le_refl _, by simp, by simp [go_sem], by simp [go_sem], fun j => by simp [go_sem]⟩
  go_enter Tryz.func55, Tryz.ntmps55
  go_wp2_with fail
  refine (spec_Library _).mono ?_
  rintro e w1 ⟨L, rfl, hL, hb⟩
  replace HE := Lib.hid (HE.out.ext hb)
  have HLB := Lib.hid hL
  clear hb hL
  go_wp2_with fail
  refine wp_loop_rounds 6 ?_
  rw [rounds_succ]
  have HL := Lib.hid (fun w => spec_ReadL tL0 nL0 cL0 libS0 w)
  have hlb := HLB.out.c0
  go_wp2_with fail
  refine (show Calls _ _ _ _ _ from HL.out _).mono ?_
  rintro e w1 ⟨A, c, rfl, hO, hb⟩
  have HO := Lib.hid (hO.mono (show w.heap.size + 1 ≤ _ from HE.out.lt))
  replace HE := Lib.hid (HE.out.ext hb)
  replace HLB := Lib.hid (HLB.out.ext hb)
  clear hb hO HL hlb
  by_cases hs : s = nL0
  · have HF : Hid (bnN nL0 = nL0 ∧ bnC nL0 = cL0 ∧ bnR nL0 = 0) := Lib.hid (by decide +kernel)
    subst hs
    have h0 := HE.out.h0
    have h1 := HE.out.h1
    have fz := HE.out.fz
    have hlt := HE.out.lt
    have HB := Lib.hid HE.out.b
    clear HE HLB
    go_wp2_with fail
    have u0 : (((w1.setCell ⟨w.heap.size, 0, none⟩ (.string nL0)).setCell ⟨w.heap.size, 1, none⟩ (.slice A (cL0).length c)).alloc (.cells #[.string nL0, .slice A (cL0).length c] 36)).cell? ⟨w.heap.size, 0, none⟩ = some (.string nL0) := cell_keep (by simp [go_sem, h0]) (ext_alloc1 _ _)
    have u1 : (((w1.setCell ⟨w.heap.size, 0, none⟩ (.string nL0)).setCell ⟨w.heap.size, 1, none⟩ (.slice A (cL0).length c)).alloc (.cells #[.string nL0, .slice A (cL0).length c] 36)).cell? ⟨w.heap.size, 1, none⟩ = some (.slice A (cL0).length c) := cell_keep (by simp [go_sem, h1]) (ext_alloc1 _ _)
    refine bodyPost_ret (v := .tuple #[.agg #[.string nL0, .slice A (cL0).length c], .int .i64 0]) (by simp [results, Tryz.results55, go_sem, u0, u1]) rfl ⟨A, c, by rw [HF.out.1, HF.out.2.1, HF.out.2.2], ?_, ?_⟩
    · rw [HF.out.2.1]
      exact (((HO.out.put (Nat.lt_succ_self _) 0 _).put (Nat.lt_succ_self _) 1 _).ext (ext_alloc1 _ _)).mono (Nat.le_succ _)
    · exact ext_alloc (ext_set (ext_set HB.out (Nat.le_refl _) _) (Nat.le_refl _) _) _
  have hst := str_ne hs
  have hst2 := ne_list hs
  have hst3 := str_ne (Ne.symm hs)
  have hst4 := ne_list (Ne.symm hs)
  go_wp2_with fail
  clear hst hst2 hst3 hst4 HO
  replace HE := Lib.hid (HE.out.ext (ext_alloc1 w1 (.cells #[.string nL0, .slice A (cL0).length c] 36)))
  replace HLB := Lib.hid (HLB.out.ext (ext_alloc1 w1 (.cells #[.string nL0, .slice A (cL0).length c] 36)))
  generalize w1.alloc (.cells #[.string nL0, .slice A (cL0).length c] 36) = wx0 at *
  have HN0 := Lib.hid hs
  clear hs
  rw [rounds_succ]
  have HL := Lib.hid (fun w => spec_ReadL tL1 nL1 cL1 libS1 w)
  have hlb := HLB.out.c1
  go_wp2_with fail
  refine (show Calls _ _ _ _ _ from HL.out _).mono ?_
  rintro e w1 ⟨A, c, rfl, hO, hb⟩
  have HO := Lib.hid (hO.mono (show w.heap.size + 1 ≤ _ from HE.out.lt))
  replace HE := Lib.hid (HE.out.ext hb)
  replace HLB := Lib.hid (HLB.out.ext hb)
  clear hb hO HL hlb
  by_cases hs : s = nL1
  · have HF : Hid (bnN nL1 = nL1 ∧ bnC nL1 = cL1 ∧ bnR nL1 = 0) := Lib.hid (by decide +kernel)
    subst hs
    have h0 := HE.out.h0
    have h1 := HE.out.h1
    have fz := HE.out.fz
    have hlt := HE.out.lt
    have HB := Lib.hid HE.out.b
    clear HE HLB
    go_wp2_with fail
    have u0 : (((w1.setCell ⟨w.heap.size, 0, none⟩ (.string nL1)).setCell ⟨w.heap.size, 1, none⟩ (.slice A (cL1).length c)).alloc (.cells #[.string nL1, .slice A (cL1).length c] 36)).cell? ⟨w.heap.size, 0, none⟩ = some (.string nL1) := cell_keep (by simp [go_sem, h0]) (ext_alloc1 _ _)
    have u1 : (((w1.setCell ⟨w.heap.size, 0, none⟩ (.string nL1)).setCell ⟨w.heap.size, 1, none⟩ (.slice A (cL1).length c)).alloc (.cells #[.string nL1, .slice A (cL1).length c] 36)).cell? ⟨w.heap.size, 1, none⟩ = some (.slice A (cL1).length c) := cell_keep (by simp [go_sem, h1]) (ext_alloc1 _ _)
    refine bodyPost_ret (v := .tuple #[.agg #[.string nL1, .slice A (cL1).length c], .int .i64 0]) (by simp [results, Tryz.results55, go_sem, u0, u1]) rfl ⟨A, c, by rw [HF.out.1, HF.out.2.1, HF.out.2.2], ?_, ?_⟩
    · rw [HF.out.2.1]
      exact (((HO.out.put (Nat.lt_succ_self _) 0 _).put (Nat.lt_succ_self _) 1 _).ext (ext_alloc1 _ _)).mono (Nat.le_succ _)
    · exact ext_alloc (ext_set (ext_set HB.out (Nat.le_refl _) _) (Nat.le_refl _) _) _
  have hst := str_ne hs
  have hst2 := ne_list hs
  have hst3 := str_ne (Ne.symm hs)
  have hst4 := ne_list (Ne.symm hs)
  go_wp2_with fail
  clear hst hst2 hst3 hst4 HO
  replace HE := Lib.hid (HE.out.ext (ext_alloc1 w1 (.cells #[.string nL1, .slice A (cL1).length c] 36)))
  replace HLB := Lib.hid (HLB.out.ext (ext_alloc1 w1 (.cells #[.string nL1, .slice A (cL1).length c] 36)))
  generalize w1.alloc (.cells #[.string nL1, .slice A (cL1).length c] 36) = wx1 at *
  have HN1 := Lib.hid hs
  clear hs
  rw [rounds_succ]
  have HL := Lib.hid (fun w => spec_ReadL tL2 nL2 cL2 libS2 w)
  have hlb := HLB.out.c2
  go_wp2_with fail
  refine (show Calls _ _ _ _ _ from HL.out _).mono ?_
  rintro e w1 ⟨A, c, rfl, hO, hb⟩
  have HO := Lib.hid (hO.mono (show w.heap.size + 1 ≤ _ from HE.out.lt))
  replace HE := Lib.hid (HE.out.ext hb)
  replace HLB := Lib.hid (HLB.out.ext hb)
  clear hb hO HL hlb
  by_cases hs : s = nL2
  · have HF : Hid (bnN nL2 = nL2 ∧ bnC nL2 = cL2 ∧ bnR nL2 = 0) := Lib.hid (by decide +kernel)
    subst hs
    have h0 := HE.out.h0
    have h1 := HE.out.h1
    have fz := HE.out.fz
    have hlt := HE.out.lt
    have HB := Lib.hid HE.out.b
    clear HE HLB
    go_wp2_with fail
    have u0 : (((w1.setCell ⟨w.heap.size, 0, none⟩ (.string nL2)).setCell ⟨w.heap.size, 1, none⟩ (.slice A (cL2).length c)).alloc (.cells #[.string nL2, .slice A (cL2).length c] 36)).cell? ⟨w.heap.size, 0, none⟩ = some (.string nL2) := cell_keep (by simp [go_sem, h0]) (ext_alloc1 _ _)
    have u1 : (((w1.setCell ⟨w.heap.size, 0, none⟩ (.string nL2)).setCell ⟨w.heap.size, 1, none⟩ (.slice A (cL2).length c)).alloc (.cells #[.string nL2, .slice A (cL2).length c] 36)).cell? ⟨w.heap.size, 1, none⟩ = some (.slice A (cL2).length c) := cell_keep (by simp [go_sem, h1]) (ext_alloc1 _ _)
    refine bodyPost_ret (v := .tuple #[.agg #[.string nL2, .slice A (cL2).length c], .int .i64 0]) (by simp [results, Tryz.results55, go_sem, u0, u1]) rfl ⟨A, c, by rw [HF.out.1, HF.out.2.1, HF.out.2.2], ?_, ?_⟩
    · rw [HF.out.2.1]
      exact (((HO.out.put (Nat.lt_succ_self _) 0 _).put (Nat.lt_succ_self _) 1 _).ext (ext_alloc1 _ _)).mono (Nat.le_succ _)
    · exact ext_alloc (ext_set (ext_set HB.out (Nat.le_refl _) _) (Nat.le_refl _) _) _
  have hst := str_ne hs
  have hst2 := ne_list hs
  have hst3 := str_ne (Ne.symm hs)
  have hst4 := ne_list (Ne.symm hs)
  go_wp2_with fail
  clear hst hst2 hst3 hst4 HO
  replace HE := Lib.hid (HE.out.ext (ext_alloc1 w1 (.cells #[.string nL2, .slice A (cL2).length c] 36)))
  replace HLB := Lib.hid (HLB.out.ext (ext_alloc1 w1 (.cells #[.string nL2, .slice A (cL2).length c] 36)))
  generalize w1.alloc (.cells #[.string nL2, .slice A (cL2).length c] 36) = wx2 at *
  have HN2 := Lib.hid hs
  clear hs
  rw [rounds_succ]
  have HL := Lib.hid (fun w => spec_ReadL tL3 nL3 cL3 libS3 w)
  have hlb := HLB.out.c3
  go_wp2_with fail
  refine (show Calls _ _ _ _ _ from HL.out _).mono ?_
  rintro e w1 ⟨A, c, rfl, hO, hb⟩
  have HO := Lib.hid (hO.mono (show w.heap.size + 1 ≤ _ from HE.out.lt))
  replace HE := Lib.hid (HE.out.ext hb)
  replace HLB := Lib.hid (HLB.out.ext hb)
  clear hb hO HL hlb
  by_cases hs : s = nL3
  · have HF : Hid (bnN nL3 = nL3 ∧ bnC nL3 = cL3 ∧ bnR nL3 = 0) := Lib.hid (by decide +kernel)
    subst hs
    have h0 := HE.out.h0
    have h1 := HE.out.h1
    have fz := HE.out.fz
    have hlt := HE.out.lt
    have HB := Lib.hid HE.out.b
    clear HE HLB
    go_wp2_with fail
    have u0 : (((w1.setCell ⟨w.heap.size, 0, none⟩ (.string nL3)).setCell ⟨w.heap.size, 1, none⟩ (.slice A (cL3).length c)).alloc (.cells #[.string nL3, .slice A (cL3).length c] 36)).cell? ⟨w.heap.size, 0, none⟩ = some (.string nL3) := cell_keep (by simp [go_sem, h0]) (ext_alloc1 _ _)
    have u1 : (((w1.setCell ⟨w.heap.size, 0, none⟩ (.string nL3)).setCell ⟨w.heap.size, 1, none⟩ (.slice A (cL3).length c)).alloc (.cells #[.string nL3, .slice A (cL3).length c] 36)).cell? ⟨w.heap.size, 1, none⟩ = some (.slice A (cL3).length c) := cell_keep (by simp [go_sem, h1]) (ext_alloc1 _ _)
    refine bodyPost_ret (v := .tuple #[.agg #[.string nL3, .slice A (cL3).length c], .int .i64 0]) (by simp [results, Tryz.results55, go_sem, u0, u1]) rfl ⟨A, c, by rw [HF.out.1, HF.out.2.1, HF.out.2.2], ?_, ?_⟩
    · rw [HF.out.2.1]
      exact (((HO.out.put (Nat.lt_succ_self _) 0 _).put (Nat.lt_succ_self _) 1 _).ext (ext_alloc1 _ _)).mono (Nat.le_succ _)
    · exact ext_alloc (ext_set (ext_set HB.out (Nat.le_refl _) _) (Nat.le_refl _) _) _
  have hst := str_ne hs
  have hst2 := ne_list hs
  have hst3 := str_ne (Ne.symm hs)
  have hst4 := ne_list (Ne.symm hs)
  go_wp2_with fail
  clear hst hst2 hst3 hst4 HO
  replace HE := Lib.hid (HE.out.ext (ext_alloc1 w1 (.cells #[.string nL3, .slice A (cL3).length c] 36)))
  replace HLB := Lib.hid (HLB.out.ext (ext_alloc1 w1 (.cells #[.string nL3, .slice A (cL3).length c] 36)))
  generalize w1.alloc (.cells #[.string nL3, .slice A (cL3).length c] 36) = wx3 at *
  have HN3 := Lib.hid hs
  clear hs
  rw [rounds_succ]
  have HL := Lib.hid (fun w => spec_ReadL tL4 nL4 cL4 libS4 w)
  have hlb := HLB.out.c4
  go_wp2_with fail
  refine (show Calls _ _ _ _ _ from HL.out _).mono ?_
  rintro e w1 ⟨A, c, rfl, hO, hb⟩
  have HO := Lib.hid (hO.mono (show w.heap.size + 1 ≤ _ from HE.out.lt))
  replace HE := Lib.hid (HE.out.ext hb)
  replace HLB := Lib.hid (HLB.out.ext hb)
  clear hb hO HL hlb
  by_cases hs : s = nL4
  · have HF : Hid (bnN nL4 = nL4 ∧ bnC nL4 = cL4 ∧ bnR nL4 = 0) := Lib.hid (by decide +kernel)
    subst hs
    have h0 := HE.out.h0
    have h1 := HE.out.h1
    have fz := HE.out.fz
    have hlt := HE.out.lt
    have HB := Lib.hid HE.out.b
    clear HE HLB
    go_wp2_with fail
    have u0 : (((w1.setCell ⟨w.heap.size, 0, none⟩ (.string nL4)).setCell ⟨w.heap.size, 1, none⟩ (.slice A (cL4).length c)).alloc (.cells #[.string nL4, .slice A (cL4).length c] 36)).cell? ⟨w.heap.size, 0, none⟩ = some (.string nL4) := cell_keep (by simp [go_sem, h0]) (ext_alloc1 _ _)
    have u1 : (((w1.setCell ⟨w.heap.size, 0, none⟩ (.string nL4)).setCell ⟨w.heap.size, 1, none⟩ (.slice A (cL4).length c)).alloc (.cells #[.string nL4, .slice A (cL4).length c] 36)).cell? ⟨w.heap.size, 1, none⟩ = some (.slice A (cL4).length c) := cell_keep (by simp [go_sem, h1]) (ext_alloc1 _ _)
    refine bodyPost_ret (v := .tuple #[.agg #[.string nL4, .slice A (cL4).length c], .int .i64 0]) (by simp [results, Tryz.results55, go_sem, u0, u1]) rfl ⟨A, c, by rw [HF.out.1, HF.out.2.1, HF.out.2.2], ?_, ?_⟩
    · rw [HF.out.2.1]
      exact (((HO.out.put (Nat.lt_succ_self _) 0 _).put (Nat.lt_succ_self _) 1 _).ext (ext_alloc1 _ _)).mono (Nat.le_succ _)
    · exact ext_alloc (ext_set (ext_set HB.out (Nat.le_refl _) _) (Nat.le_refl _) _) _
  have hst := str_ne hs
  have hst2 := ne_list hs
  have hst3 := str_ne (Ne.symm hs)
  have hst4 := ne_list (Ne.symm hs)
  go_wp2_with fail
  clear hst hst2 hst3 hst4 HO
  replace HE := Lib.hid (HE.out.ext (ext_alloc1 w1 (.cells #[.string nL4, .slice A (cL4).length c] 36)))
  replace HLB := Lib.hid (HLB.out.ext (ext_alloc1 w1 (.cells #[.string nL4, .slice A (cL4).length c] 36)))
  generalize w1.alloc (.cells #[.string nL4, .slice A (cL4).length c] 36) = wx4 at *
  have HN4 := Lib.hid hs
  clear hs
  rw [rounds_succ]
  have HF : Hid (bnN s = ⟨#[]⟩ ∧ bnC s = [] ∧ bnR s = 3) := Lib.hid (by unfold bnN bnC bnR bnF; rw [if_neg HN0.out, if_neg HN1.out, if_neg HN2.out, if_neg HN3.out, if_neg HN4.out]; exact ⟨rfl, rfl, rfl⟩)
  have h0 := HE.out.h0
  have h1 := HE.out.h1
  have fz := HE.out.fz
  have hlt := HE.out.lt
  have HB := Lib.hid HE.out.b
  clear HE
  go_wp2_with fail
  refine bodyPost_ret (v := .tuple #[.agg #[.string ⟨#[]⟩, .slice none 0 0], .int .i64 3]) (by simp [results, Tryz.results55, go_sem, h0, h1]) rfl ⟨none, 0, by rw [HF.out.1, HF.out.2.1, HF.out.2.2]; rfl, ?_, ?_⟩
  · rw [HF.out.2.1]
    exact ⟨rfl, .inl ⟨rfl, rfl⟩⟩
  · exact ext_set (ext_set HB.out (Nat.le_refl _) _) (Nat.le_refl _) _
end Go.Proofs.YtfgopboddkhckaaGreatDoor
namespace Go.Proofs.YtfgopboddkhckaaGreatDoor
open Go.ChangeShapes Go.WideShapes Go.ChangeAt Go.RowKit Go.Sort Go.Joins
set_option linter.unusedVariables false
set_option maxRecDepth 100000

set_option maxHeartbeats 1600000 in
theorem spec_l28New (w : World)  :
    Calls Tryz.prog 23 #[] w fun e w' => ∃ v, e = .returned v ∧ ODK w' w.heap.size v newD ∧ SmDK newD ∧ Below w.heap.size w w' := by
  have HC : Hid (∀ w1, Below w.heap.size w w1 → Calls Tryz.prog 55 #[.string ⟨#[115, 116, 114, 101, 116, 99, 104, 101, 114]⟩] w1 fun e w' => ∃ A c, e = .returned (.tuple #[.agg #[.string nL0, .slice A cL0.length c], .int .i64 0]) ∧ OCOS w' w1.heap.size (.slice A cL0.length c) cL0 ∧ Below w1.heap.size w1 w') := Lib.hid (by
    intro w1 hb
    have h := spec_BondNamed ⟨#[115, 116, 114, 101, 116, 99, 104, 101, 114]⟩ w1
    rw [show bnN ⟨#[115, 116, 114, 101, 116, 99, 104, 101, 114]⟩ = nL0 from by decide +kernel, show bnC ⟨#[115, 116, 114, 101, 116, 99, 104, 101, 114]⟩ = cL0 from by decide +kernel, show bnR ⟨#[115, 116, 114, 101, 116, 99, 104, 101, 114]⟩ = 0 from by decide +kernel] at h
    exact h)
  go_enter Tryz.func23, Tryz.ntmps23
  go_wp2_with fail
  refine (show Calls _ _ _ _ _ from HC.out _ (ext_alloc1 _ _)).mono ?_
  rintro e w1 ⟨A, c, rfl, hO, hb⟩
  have r0 := cell_keep (p := ⟨w.heap.size, 0, none⟩) (v := .int .i64 0) (by simp [go_sem]) hb
  have r1 := cell_keep (p := ⟨w.heap.size, 1, none⟩) (v := .int .i64 0) (by simp [go_sem]) hb
  have r2 := cell_keep (p := ⟨w.heap.size, 2, none⟩) (v := .int .i64 0) (by simp [go_sem]) hb
  have r3 := cell_keep (p := ⟨w.heap.size, 3, none⟩) (v := .int .i64 0) (by simp [go_sem]) hb
  have r4 := cell_keep (p := ⟨w.heap.size, 4, none⟩) (v := .string ⟨#[]⟩) (by simp [go_sem]) hb
  have r5 := cell_keep (p := ⟨w.heap.size, 5, none⟩) (v := .slice none 0 0) (by simp [go_sem]) hb
  have r6 := cell_keep (p := ⟨w.heap.size, 6, none⟩) (v := .slice none 0 0) (by simp [go_sem]) hb
  have r7 := cell_keep (p := ⟨w.heap.size, 7, none⟩) (v := .string ⟨#[]⟩) (by simp [go_sem]) hb
  have rz : ∀ j, w1.frozen? ⟨w.heap.size, j, none⟩ = false := fun j => by rw [(bcell hb).2 _ _ (by simp)]; simp [go_sem]
  have HB := Lib.hid (ext_trans (ext_alloc1 _ _) hb)
  have hlt : w.heap.size < w1.heap.size := block_lt_of_cell r0
  have HO := Lib.hid (hO.mono (show w.heap.size + 1 ≤ _ by simp))
  clear hb hO
  go_wp2_with fail
  obtain ⟨wc, hwc⟩ : ∃ x, ((((((((w1.setCell ⟨w.heap.size, 0, none⟩ (.int .i64 215)).setCell ⟨w.heap.size, 1, none⟩ (.int .i64 102)).setCell ⟨w.heap.size, 2, none⟩ (.int .i64 65)).setCell ⟨w.heap.size, 3, none⟩ (.int .i64 10)).setCell ⟨w.heap.size, 4, none⟩ (.string nL0)).setCell ⟨w.heap.size, 5, none⟩ (.slice A cL0.length c)).setCell ⟨w.heap.size, 6, none⟩ (.slice none 0 0)).setCell ⟨w.heap.size, 7, none⟩ (.string ⟨#[]⟩)) = x := ⟨_, rfl⟩
  have u0 : (wc.alloc (.cells #[.string nL0, .slice A cL0.length c] 36)).cell? ⟨w.heap.size, 0, none⟩ = some (.int .i64 215) := cell_keep (by rw [← hwc]; simp [go_sem, r0]) (ext_alloc1 _ _)
  have u1 : (wc.alloc (.cells #[.string nL0, .slice A cL0.length c] 36)).cell? ⟨w.heap.size, 1, none⟩ = some (.int .i64 102) := cell_keep (by rw [← hwc]; simp [go_sem, r1]) (ext_alloc1 _ _)
  have u2 : (wc.alloc (.cells #[.string nL0, .slice A cL0.length c] 36)).cell? ⟨w.heap.size, 2, none⟩ = some (.int .i64 65) := cell_keep (by rw [← hwc]; simp [go_sem, r2]) (ext_alloc1 _ _)
  have u3 : (wc.alloc (.cells #[.string nL0, .slice A cL0.length c] 36)).cell? ⟨w.heap.size, 3, none⟩ = some (.int .i64 10) := cell_keep (by rw [← hwc]; simp [go_sem, r3]) (ext_alloc1 _ _)
  have u4 : (wc.alloc (.cells #[.string nL0, .slice A cL0.length c] 36)).cell? ⟨w.heap.size, 4, none⟩ = some (.string nL0) := cell_keep (by rw [← hwc]; simp [go_sem, r4]) (ext_alloc1 _ _)
  have u5 : (wc.alloc (.cells #[.string nL0, .slice A cL0.length c] 36)).cell? ⟨w.heap.size, 5, none⟩ = some (.slice A cL0.length c) := cell_keep (by rw [← hwc]; simp [go_sem, r5]) (ext_alloc1 _ _)
  have u6 : (wc.alloc (.cells #[.string nL0, .slice A cL0.length c] 36)).cell? ⟨w.heap.size, 6, none⟩ = some (.slice none 0 0) := cell_keep (by rw [← hwc]; simp [go_sem, r6]) (ext_alloc1 _ _)
  have u7 : (wc.alloc (.cells #[.string nL0, .slice A cL0.length c] 36)).cell? ⟨w.heap.size, 7, none⟩ = some (.string ⟨#[]⟩) := cell_keep (by rw [← hwc]; simp [go_sem, r7]) (ext_alloc1 _ _)
  have HO2 : OCOS wc (w.heap.size + 1) (.slice A cL0.length c) cL0 := by rw [← hwc]; exact ((((((((HO.out.put (Nat.lt_succ_self _) 0 (.int .i64 215)).put (Nat.lt_succ_self _) 1 (.int .i64 102)).put (Nat.lt_succ_self _) 2 (.int .i64 65)).put (Nat.lt_succ_self _) 3 (.int .i64 10)).put (Nat.lt_succ_self _) 4 (.string nL0)).put (Nat.lt_succ_self _) 5 (.slice A cL0.length c)).put (Nat.lt_succ_self _) 6 (.slice none 0 0)).put (Nat.lt_succ_self _) 7 (.string ⟨#[]⟩))
  have HB2 : Below w.heap.size w wc := by rw [← hwc]; exact (ext_set (ext_set (ext_set (ext_set (ext_set (ext_set (ext_set (ext_set HB.out (Nat.le_refl _) _) (Nat.le_refl _) _) (Nat.le_refl _) _) (Nat.le_refl _) _) (Nat.le_refl _) _) (Nat.le_refl _) _) (Nat.le_refl _) _) (Nat.le_refl _) _)
  rw [hwc]
  clear hwc
  refine bodyPost_ret (v := .agg #[.int .i64 215, .int .i64 102, .int .i64 65, .int .i64 10, .string nL0, .slice A cL0.length c, .slice none 0 0, .string ⟨#[]⟩]) (by simp [results, Tryz.results23, go_sem, u0, u1, u2, u3, u4, u5, u6, u7]) rfl ⟨_, rfl, ⟨A, c, none, 0, rfl, (HO2.ext (ext_alloc1 _ _)).mono (Nat.le_succ _), ostr_nil _ _, fun k _ h2 => by cases h2⟩, sm_newD, ext_alloc HB2 _⟩
end Go.Proofs.YtfgopboddkhckaaGreatDoor
namespace Go.Proofs.YtfgopboddkhckaaGreatDoor
open Go.ChangeShapes Go.WideShapes Go.ChangeAt Go.RowKit Go.Sort Go.Joins
set_option linter.unusedVariables false
set_option maxRecDepth 100000

set_option maxHeartbeats 1600000 in
theorem spec_CodeName (c : Int) (h0 : 0 ≤ c) (h1 : c ≤ 10) (w : World) : Calls Tryz.prog 56 #[.int .i64 c] w (Ret (.string (cnT c)) w) := by
  have HI := Lib.hid (fun w => spec_in c 0 10 w)
  rw [inB_iff.2 ⟨h0, h1⟩] at HI
  rcases nat11 h0 h1 with rfl | rfl | rfl | rfl | rfl | rfl | rfl | rfl | rfl | rfl | rfl
  · go_enter Tryz.func56, Tryz.ntmps56
    go_wp2_with fail
    refine (show Calls _ _ _ _ _ from HI.out _).mono ?_
    rintro e w1 ⟨rfl, rfl⟩
    go_wp2_with fail
    go_ret
    exact ⟨rfl, ext_alloc1 _ _⟩
  · go_enter Tryz.func56, Tryz.ntmps56
    go_wp2_with fail
    refine (show Calls _ _ _ _ _ from HI.out _).mono ?_
    rintro e w1 ⟨rfl, rfl⟩
    go_wp2_with fail
    go_ret
    exact ⟨rfl, ext_alloc1 _ _⟩
  · go_enter Tryz.func56, Tryz.ntmps56
    go_wp2_with fail
    refine (show Calls _ _ _ _ _ from HI.out _).mono ?_
    rintro e w1 ⟨rfl, rfl⟩
    go_wp2_with fail
    go_ret
    exact ⟨rfl, ext_alloc1 _ _⟩
  · go_enter Tryz.func56, Tryz.ntmps56
    go_wp2_with fail
    refine (show Calls _ _ _ _ _ from HI.out _).mono ?_
    rintro e w1 ⟨rfl, rfl⟩
    go_wp2_with fail
    go_ret
    exact ⟨rfl, ext_alloc1 _ _⟩
  · go_enter Tryz.func56, Tryz.ntmps56
    go_wp2_with fail
    refine (show Calls _ _ _ _ _ from HI.out _).mono ?_
    rintro e w1 ⟨rfl, rfl⟩
    go_wp2_with fail
    go_ret
    exact ⟨rfl, ext_alloc1 _ _⟩
  · go_enter Tryz.func56, Tryz.ntmps56
    go_wp2_with fail
    refine (show Calls _ _ _ _ _ from HI.out _).mono ?_
    rintro e w1 ⟨rfl, rfl⟩
    go_wp2_with fail
    go_ret
    exact ⟨rfl, ext_alloc1 _ _⟩
  · go_enter Tryz.func56, Tryz.ntmps56
    go_wp2_with fail
    refine (show Calls _ _ _ _ _ from HI.out _).mono ?_
    rintro e w1 ⟨rfl, rfl⟩
    go_wp2_with fail
    go_ret
    exact ⟨rfl, ext_alloc1 _ _⟩
  · go_enter Tryz.func56, Tryz.ntmps56
    go_wp2_with fail
    refine (show Calls _ _ _ _ _ from HI.out _).mono ?_
    rintro e w1 ⟨rfl, rfl⟩
    go_wp2_with fail
    go_ret
    exact ⟨rfl, ext_alloc1 _ _⟩
  · go_enter Tryz.func56, Tryz.ntmps56
    go_wp2_with fail
    refine (show Calls _ _ _ _ _ from HI.out _).mono ?_
    rintro e w1 ⟨rfl, rfl⟩
    go_wp2_with fail
    go_ret
    exact ⟨rfl, ext_alloc1 _ _⟩
  · go_enter Tryz.func56, Tryz.ntmps56
    go_wp2_with fail
    refine (show Calls _ _ _ _ _ from HI.out _).mono ?_
    rintro e w1 ⟨rfl, rfl⟩
    go_wp2_with fail
    go_ret
    exact ⟨rfl, ext_alloc1 _ _⟩
  · go_enter Tryz.func56, Tryz.ntmps56
    go_wp2_with fail
    refine (show Calls _ _ _ _ _ from HI.out _).mono ?_
    rintro e w1 ⟨rfl, rfl⟩
    go_wp2_with fail
    go_ret
    exact ⟨rfl, ext_alloc1 _ _⟩
set_option maxHeartbeats 800000 in
theorem spec_sum (v : Value) (xs : List Int) (w : World) (hR : RI w v xs) (hl : xs.length ≤ 4000) (hb : ∀ k, k < xs.length → -1000000 ≤ gi xs k ∧ gi xs k ≤ 1000000) :
    Calls Tryz.prog 121 #[v] w (RetP (.int .i64 (sumI xs)) w) := by
  obtain ⟨A, c, rfl, hc1, hc2, HA'⟩ := hR.open2
  have HA := Lib.hid HA'; clear HA' hR hc1 hc2
  have HBD : Hid (∀ k, k ≤ xs.length → -4000000000 ≤ sumI (xs.take k) ∧ sumI (xs.take k) ≤ 4000000000) := Lib.hid fun k hk => by
    have h := sumI_bd2 (xs := xs) (B := 1000000) (fun k hk => by have := hb k hk; omega) k hk
    have hm : ((1000000 : Nat) : Int) * (k : Int) ≤ 1000000 * 4000 := Int.mul_le_mul_of_nonneg_left (by omega) (by decide)
    omega
  have HB := Lib.hid hb; clear hb
  go_enter Tryz.func121, Tryz.ntmps121
  go_wp2_with fail
  go_loop [3, 4] (fun u i => ∃ k : Nat, k ≤ xs.length ∧ i = .int .i64 k ∧ u = .int .i64 (sumI (xs.take k))) (fun _ i => xs.length - (intOf i).toNat)
  case atStart => exact ⟨0, Nat.zero_le _, rfl, rfl⟩
  case round =>
    obtain ⟨k, hk, rfl, rfl⟩ := hrel
    have e0 : (0:Int) ≤ k := by omega
    by_cases hlt : k < xs.length
    · have e1 : (k:Int) < xs.length := by omega
      obtain ⟨ad, rfl, _, hc⟩ := HA.out k hlt
      have p0 := hc k hlt
      have HS := Lib.hid (sumI_succ hlt)
      have hb1 := HBD.out k hk
      have hb2 := HB.out k hlt
      clear hc
      obtain ⟨y, hyy⟩ : ∃ y, gi xs k = y := ⟨_, rfl⟩
      rw [hyy] at p0 HS hb2
      clear hyy
      obtain ⟨t, htt⟩ : ∃ t, sumI (xs.take k) = t := ⟨_, rfl⟩
      rw [htt] at HS hb1
      rw [htt]
      clear htt
      go_wp2_with fail
      go_round
      case rel => exact ⟨k + 1, by omega, by go_num, by rw [HS.out]⟩
      case measure => simp [intOf]; omega
    · have hkn : k = xs.length := by omega
      have e1 : ¬ (k:Int) < xs.length := by omega
      have HE : Hid (sumI (xs.take k) = sumI xs) := Lib.hid (by rw [hkn, List.take_length])
      clear hkn
      go_wp2_with fail
      go_ret
      exact ⟨ret_int HE.out, rfl⟩
end Go.Proofs.YtfgopboddkhckaaGreatDoor
namespace Go.Proofs.YtfgopboddkhckaaGreatDoor
open Go.ChangeShapes Go.WideShapes Go.ChangeAt Go.RowKit Go.Sort Go.Joins
set_option linter.unusedVariables false
set_option maxRecDepth 100000

theorem mRF_1 {s : ByteArray} (h : (spb 43 s).length ≠ 2) : mRF s = none := by unfold mRF; rw [if_neg h]
theorem mRF_2 {s : ByteArray} (h : (spb 43 s).length = 2) (h2 : (spb 120 (gd (spb 43 s) 0)).length ≠ 3) : mRF s = none := by unfold mRF; rw [if_pos h, if_neg h2]
theorem mRF_3 {s : ByteArray} (h : (spb 43 s).length = 2) (h2 : (spb 120 (gd (spb 43 s) 0)).length = 3) : mRF s = if rfOk (spb 43 s) (spb 120 (gd (spb 43 s) 0)) = true then some (rfF (spb 43 s) (spb 120 (gd (spb 43 s) 0))) else none := by unfold mRF; rw [if_pos h, if_pos h2]
set_option maxHeartbeats 6400000 in
theorem spec_ReadFormat (s : ByteArray) (hs : s.size ≤ 1048576) (w : World) :
    Calls Tryz.prog 122 #[.string s] w (RetF s w) := by
  have HC := Lib.hid (fun w => spec_Split s hs 43 43 rfl w)
  have HSZ := Lib.hid (fun (k : Nat) (hk : k < (spb 43 s).length) => spb_sz hk)
  have H1 := Lib.hid (fun h => mRF_1 (s := s) h)
  have H2 := Lib.hid (fun h h2 => mRF_2 (s := s) h h2)
  have H3 := Lib.hid (fun h h2 => mRF_3 (s := s) h h2)
  have hpl := spb_len 43 s
  go_enter Tryz.func122, Tryz.ntmps122
  go_wp2_with fail
  have HZ : Hid (Z4 w (w.alloc (.cells #[.int .i64 0, .int .i64 0, .int .i64 0, .int .i64 0] 33)) w.heap.size) := Lib.hid ⟨ext_alloc1 _ _, Nat.le_refl _, by simp, by simp [go_sem], by simp [go_sem], by simp [go_sem], by simp [go_sem], fun j => by simp [go_sem]⟩
  refine (show Calls _ _ _ _ _ from HC.out _).mono ?_
  rintro e w1 ⟨A, cp, rfl, hO, hb⟩
  have HP := Lib.hid hO.rd
  replace HZ := Lib.hid (HZ.out.ext hb)
  clear hb HC hO
  obtain ⟨p, hp⟩ : ∃ p, spb 43 s = p := ⟨_, rfl⟩
  rw [hp] at HSZ H1 H2 H3 HP hpl
  rw [hp]
  clear hp
  by_cases hl2 : p.length = 2
  · have e2 : (p.length : Int) = 2 := by omega
    have HL2 := Lib.hid hl2
    obtain ⟨ad, rfl, _, hc⟩ := HP.out.at (k := 0) (by omega)
    have p0 := hc 0 (by omega)
    rw [Addr.add_zero'] at p0
    have hq0 := HSZ.out 0 (by omega)
    have hq1 := HSZ.out 1 (by omega)
    clear hc
    have HQC := Lib.hid (fun w => spec_Split (gd p 0) (by omega) 120 120 rfl w)
    have hql := spb_len 120 (gd p 0)
    have HS2 := Lib.hid (fun (k : Nat) (hk : k < (spb 120 (gd p 0)).length) => spb_sz hk)
    obtain ⟨q, hq⟩ : ∃ q, spb 120 (gd p 0) = q := ⟨_, rfl⟩
    rw [hq] at H2 H3 HQC hql HS2
    clear hq
    go_wp2_with fail
    refine (show Calls _ _ _ _ _ from HQC.out _).mono ?_
    rintro e w2 ⟨B, cq, rfl, hO, hb⟩
    have HQ := Lib.hid hO.rd
    replace HZ := Lib.hid (HZ.out.ext hb)
    replace HP := Lib.hid (HP.out.ext hb)
    clear hb HQC hO p0
    by_cases hl3 : q.length = 3
    · have HM := Lib.hid (H3.out HL2.out hl3)
      have e3 : (q.length : Int) = 3 := by omega
      have hqs : ∀ x, (x = gd q 0 ∨ x = gd q 1 ∨ x = gd q 2 ∨ x = gd p 1) → x.size ≤ maxLen := fun x hx => by
        have h0 := HS2.out 0 (by omega)
        have h1 := HS2.out 1 (by omega)
        have h2 := HS2.out 2 (by omega)
        unfold maxLen
        rcases hx with rfl | rfl | rfl | rfl <;> omega
      have HNUM : Hid (∀ x, (x = gd q 0 ∨ x = gd q 1 ∨ x = gd q 2 ∨ x = gd p 1) → ∀ w, Calls Tryz.prog 58 #[.string x] w (Ret (.tuple #[.int .i64 (rdv x), .bool (rdb x)]) w)) := Lib.hid fun x hx w => spec_Number x (hqs x hx) w
      obtain ⟨bd, rfl, _, hc⟩ := HQ.out.at (k := 0) (by omega)
      have q0 := hc 0 (by omega)
      rw [Addr.add_zero'] at q0
      clear hc hqs hql hpl hq0 hq1
      go_wp2_with fail
      refine (show Calls _ _ _ _ _ from (HNUM.out (gd q 0) (by simp) _)).mono ?_
      rintro e w3 ⟨rfl, hb⟩
      replace HZ := Lib.hid (HZ.out.ext hb)
      replace HP := Lib.hid (HP.out.ext hb)
      replace HQ := Lib.hid (HQ.out.ext hb)
      clear hb
      clear q0
      obtain ⟨bd', hbd, _, hc⟩ := HQ.out.at (k := 1) (by omega)
      obtain rfl := Option.some.inj hbd
      have q0 := hc 1 (by omega)
      rw [addr_succ] at q0
      clear hc hbd
      go_wp2_with fail
      refine (show Calls _ _ _ _ _ from (HNUM.out (gd q 1) (by simp) _)).mono ?_
      rintro e w4 ⟨rfl, hb⟩
      replace HZ := Lib.hid (HZ.out.ext hb)
      replace HP := Lib.hid (HP.out.ext hb)
      replace HQ := Lib.hid (HQ.out.ext hb)
      clear hb
      clear q0
      obtain ⟨bd', hbd, _, hc⟩ := HQ.out.at (k := 2) (by omega)
      obtain rfl := Option.some.inj hbd
      have q0 := hc 2 (by omega)
      rw [addr_succ] at q0
      clear hc hbd
      go_wp2_with fail
      refine (show Calls _ _ _ _ _ from (HNUM.out (gd q 2) (by simp) _)).mono ?_
      rintro e w5 ⟨rfl, hb⟩
      replace HZ := Lib.hid (HZ.out.ext hb)
      replace HP := Lib.hid (HP.out.ext hb)
      replace HQ := Lib.hid (HQ.out.ext hb)
      clear hb
      clear q0
      obtain ⟨bd', hbd, _, hc⟩ := HP.out.at (k := 1) (by omega)
      obtain rfl := Option.some.inj hbd
      have q0 := hc 1 (by omega)
      rw [addr_succ] at q0
      clear hc hbd
      go_wp2_with fail
      refine (show Calls _ _ _ _ _ from (HNUM.out (gd p 1) (by simp) _)).mono ?_
      rintro e w6 ⟨rfl, hb⟩
      replace HZ := Lib.hid (HZ.out.ext hb)
      replace HP := Lib.hid (HP.out.ext hb)
      replace HQ := Lib.hid (HQ.out.ext hb)
      clear hb
      clear q0 HNUM HQ HP HS2
      have HOKF := Lib.hid (fun w => spec_okF (rfF p q) w)
      unfold rfOk at HM
      unfold rfF at HM HOKF
      obtain ⟨v0, h⟩ : ∃ v, rdv (gd q 0) = v := ⟨_, rfl⟩
      rw [h] at HM HOKF ⊢
      clear h
      obtain ⟨v1, h⟩ : ∃ v, rdv (gd q 1) = v := ⟨_, rfl⟩
      rw [h] at HM HOKF ⊢
      clear h
      obtain ⟨v2, h⟩ : ∃ v, rdv (gd q 2) = v := ⟨_, rfl⟩
      rw [h] at HM HOKF ⊢
      clear h
      obtain ⟨v3, h⟩ : ∃ v, rdv (gd p 1) = v := ⟨_, rfl⟩
      rw [h] at HM HOKF ⊢
      clear h
      obtain ⟨b0, h⟩ : ∃ v, rdb (gd q 0) = v := ⟨_, rfl⟩
      rw [h] at HM ⊢
      clear h
      obtain ⟨b1, h⟩ : ∃ v, rdb (gd q 1) = v := ⟨_, rfl⟩
      rw [h] at HM ⊢
      clear h
      obtain ⟨b2, h⟩ : ∃ v, rdb (gd q 2) = v := ⟨_, rfl⟩
      rw [h] at HM ⊢
      clear h
      obtain ⟨b3, h⟩ : ∃ v, rdb (gd p 1) = v := ⟨_, rfl⟩
      rw [h] at HM ⊢
      clear h
      obtain ⟨b4, h⟩ : ∃ v, vF ⟨v0, v1, v2, v3⟩ = v := ⟨_, rfl⟩
      rw [h] at HM HOKF
      clear h H1 H2 H3 HSZ
      have hzl := HZ.out.lt
      cases b0 with
      | false =>
        have HNO : Hid (mRF s = none) := Lib.hid HM.out
        obtain ⟨zb, zge, zlt, c0, c1, c2, c3, fz⟩ := HZ.out
        go_wp2_with fail
        refine bodyPost_ret (v := .tuple #[.agg #[.int .i64 0, .int .i64 0, .int .i64 0, .int .i64 0], .bool false]) (by simp [results, Tryz.results122, go_sem, c0, c1, c2, c3, zlt]) rfl (RetF.no HNO.out ?_)
        repeat (first | exact zb | refine ext_alloc ?_ _ | refine ext_set ?_ (by simp; try omega) _)
      | true =>
      cases b1 with
      | false =>
        have HNO : Hid (mRF s = none) := Lib.hid HM.out
        obtain ⟨zb, zge, zlt, c0, c1, c2, c3, fz⟩ := HZ.out
        go_wp2_with fail
        refine bodyPost_ret (v := .tuple #[.agg #[.int .i64 0, .int .i64 0, .int .i64 0, .int .i64 0], .bool false]) (by simp [results, Tryz.results122, go_sem, c0, c1, c2, c3, zlt]) rfl (RetF.no HNO.out ?_)
        repeat (first | exact zb | refine ext_alloc ?_ _ | refine ext_set ?_ (by simp; try omega) _)
      | true =>
      cases b2 with
      | false =>
        have HNO : Hid (mRF s = none) := Lib.hid HM.out
        obtain ⟨zb, zge, zlt, c0, c1, c2, c3, fz⟩ := HZ.out
        go_wp2_with fail
        refine bodyPost_ret (v := .tuple #[.agg #[.int .i64 0, .int .i64 0, .int .i64 0, .int .i64 0], .bool false]) (by simp [results, Tryz.results122, go_sem, c0, c1, c2, c3, zlt]) rfl (RetF.no HNO.out ?_)
        repeat (first | exact zb | refine ext_alloc ?_ _ | refine ext_set ?_ (by simp; try omega) _)
      | true =>
      cases b3 with
      | false =>
        have HNO : Hid (mRF s = none) := Lib.hid HM.out
        obtain ⟨zb, zge, zlt, c0, c1, c2, c3, fz⟩ := HZ.out
        go_wp2_with fail
        refine bodyPost_ret (v := .tuple #[.agg #[.int .i64 0, .int .i64 0, .int .i64 0, .int .i64 0], .bool false]) (by simp [results, Tryz.results122, go_sem, c0, c1, c2, c3, zlt]) rfl (RetF.no HNO.out ?_)
        repeat (first | exact zb | refine ext_alloc ?_ _ | refine ext_set ?_ (by simp; try omega) _)
      | true =>
      have HZ6 := Lib.hid (HZ.out.ext (ext_alloc1 w6 (.cells #[.int .i64 v0, .int .i64 v1, .int .i64 v2, .int .i64 v3] 33)))
      go_wp2_with fail
      refine (show Calls _ _ _ _ _ from HOKF.out _).mono ?_
      rintro e w7 ⟨rfl, hb⟩
      have y0 := cell_keep (p := ⟨w6.heap.size, 0, none⟩) (v := .int .i64 v0) (by simp [go_sem]) hb
      have y1 := cell_keep (p := ⟨w6.heap.size, 1, none⟩) (v := .int .i64 v1) (by simp [go_sem]) hb
      have y2 := cell_keep (p := ⟨w6.heap.size, 2, none⟩) (v := .int .i64 v2) (by simp [go_sem]) hb
      have y3 := cell_keep (p := ⟨w6.heap.size, 3, none⟩) (v := .int .i64 v3) (by simp [go_sem]) hb
      replace HZ6 := Lib.hid (HZ6.out.ext hb)
      have HN3 : Hid (w.heap.size ≠ w6.heap.size) := Lib.hid (by have := HZ.out.lt; omega)
      clear hb
      obtain ⟨zb, zge, zlt, c0, c1, c2, c3, fz⟩ := HZ6.out
      cases b4 with
      | false =>
        have HNO : Hid (mRF s = none) := Lib.hid HM.out
        go_wp2_with fail
        refine bodyPost_ret (v := .tuple #[.agg #[.int .i64 0, .int .i64 0, .int .i64 0, .int .i64 0], .bool false]) (by simp [results, Tryz.results122, go_sem, c0, c1, c2, c3]) rfl (RetF.no HNO.out ?_)
        repeat (first | exact zb | refine ext_set ?_ (by simp; try omega) _)
      | true =>
        have HYF : Hid (mRF s = some ⟨v0, v1, v2, v3⟩) := Lib.hid HM.out
        have n3 := HN3.out
        go_wp2_with fail
        refine bodyPost_ret (v := .tuple #[.agg #[.int .i64 v0, .int .i64 v1, .int .i64 v2, .int .i64 v3], .bool true]) (by simp [results, Tryz.results122, go_sem, c0, c1, c2, c3]) rfl (RetF.yes HYF.out ?_)
        repeat (first | exact zb | refine ext_set ?_ (by simp; try omega) _)
    · have HNO := Lib.hid (H2.out HL2.out hl3)
      have e3 : ((q.length : Int) == 3) = false := beq_eq_false_iff_ne.2 (by omega)
      have e4 : ((q.length : Int) != 3) = true := bne_iff_ne.2 (by omega)
      clear hl3
      have HZF := Lib.hid HZ.out
      obtain ⟨zb, zge, zlt, c0, c1, c2, c3, fz⟩ := HZ.out
      go_wp2_with fail
      refine bodyPost_ret (v := .tuple #[.agg #[.int .i64 0, .int .i64 0, .int .i64 0, .int .i64 0], .bool false]) (by simp [results, Tryz.results122, go_sem, c0, c1, c2, c3]) rfl (RetF.no HNO.out ?_)
      repeat (first | exact zb | refine ext_set ?_ (by simp; try omega) _)
  · have HNO := Lib.hid (H1.out hl2)
    have e3 : ((p.length : Int) == 2) = false := beq_eq_false_iff_ne.2 (by omega)
    have e4 : ((p.length : Int) != 2) = true := bne_iff_ne.2 (by omega)
    clear hl2
    have HZF := Lib.hid HZ.out
    obtain ⟨zb, zge, zlt, c0, c1, c2, c3, fz⟩ := HZ.out
    go_wp2_with fail
    refine bodyPost_ret (v := .tuple #[.agg #[.int .i64 0, .int .i64 0, .int .i64 0, .int .i64 0], .bool false]) (by simp [results, Tryz.results122, go_sem, c0, c1, c2, c3]) rfl (RetF.no HNO.out ?_)
    repeat (first | exact zb | refine ext_set ?_ (by simp; try omega) _)
end Go.Proofs.YtfgopboddkhckaaGreatDoor
