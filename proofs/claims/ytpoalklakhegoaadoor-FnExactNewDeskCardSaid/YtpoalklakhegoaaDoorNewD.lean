/-
  NewDesk on both sides; marks in a console's state.
-/
import Derived.Test.YtpoalklakhegoaaDoorDoorN
import Derived.Test.YtpoalklakhegoaaDoorBnd6
namespace Go.Proofs.YtpoalklakhegoaaDoor
open Go.ChangeShapes Go.WideShapes Go.ChangeAt Go.RowKit Go.Sort Go.Joins
set_option linter.unusedVariables false
set_option maxRecDepth 100000

def newD : DK := ⟨⟨215, 102, 65, 10⟩, nL0, cL0, [], ⟨#[]⟩⟩
theorem sm_newD : SmDK newD := by unfold SmDK; decide +kernel
set_option maxHeartbeats 1600000 in
theorem impl_NewDesk (w : World) (hE : EnvN w) :
    Calls Tryd.prog 5 #[] w fun e w' => ∃ v, e = .returned v ∧ ODK w' w.heap.size v newD ∧ SmDK newD ∧ Below w.heap.size w w' := by
  have HC : Hid (∀ w1, Below w.heap.size w w1 → Calls Tryd.prog 10 #[.string ⟨#[115, 116, 114, 101, 116, 99, 104, 101, 114]⟩] w1 fun e w' => ∃ A c, e = .returned (.tuple #[.agg #[.string nL0, .slice A cL0.length c], .int .i64 0]) ∧ OCOS w' w1.heap.size (.slice A cL0.length c) cL0 ∧ Below w1.heap.size w1 w') := Lib.hid (by
    intro w1 hb
    have h := impl_BondNamed ⟨#[115, 116, 114, 101, 116, 99, 104, 101, 114]⟩ w1 (hE.ext hb).shp (hE.ext hb).lib
    rw [show bnN ⟨#[115, 116, 114, 101, 116, 99, 104, 101, 114]⟩ = nL0 from by decide +kernel, show bnC ⟨#[115, 116, 114, 101, 116, 99, 104, 101, 114]⟩ = cL0 from by decide +kernel, show bnR ⟨#[115, 116, 114, 101, 116, 99, 104, 101, 114]⟩ = 0 from by decide +kernel] at h
    exact h)
  go_enter Tryd.func5, Tryd.ntmps5
  go_wp2_with fail
  refine (show Calls _ _ _ _ _ from HC.out _ (ext_alloc1 _ _)).mono ?_
  rintro e w1 ⟨A, c, rfl, hO, hb⟩
  have r0 := cell_keep (p := ⟨w.heap.size, 0, none⟩) (v := .int .i64 0) (by simp [go_sem]) hb
  have r1 := cell_keep (p := ⟨w.heap.size, 1, none⟩) (v := .int .i64 0) (by simp [go_sem]) hb
  have r2 := cell_keep (p := ⟨w.heap.size, 2, none⟩) (v := .int .i64 0) (by simp [go_sem]) hb
  have r3 := cell_keep (p := ⟨w.heap.size, 3, none⟩) (v := .int .i64 0) (by simp [go_sem]) hb
  have r4 := cell_keep (p := ⟨w.heap.size, 4, none⟩) (v := .string ⟨#[]⟩) (by simp [go_sem]) hb
  have r5 := cell_keep (p := ⟨w.heap.size, 5, none⟩) (v := .slice none 0 0) (by simp [go_sem]) hb
  have r6 := cell_keep (p := ⟨w.heap.size, 6, none⟩) (v := .slice none 0 0) (by simp [go_sem]) hb
  have r7 := cell_keep (p := ⟨w.heap.size, 7, none⟩) (v := .string ⟨#[]⟩) (by simp [go_sem]) hb
  have rz : ∀ j, w1.frozen? ⟨w.heap.size, j, none⟩ = false := fun j => by rw [(bcell hb).2 _ _ (by simp)]; simp [go_sem]
  have HB := Lib.hid (ext_trans (ext_alloc1 _ _) hb)
  have hlt : w.heap.size < w1.heap.size := block_lt_of_cell r0
  have HO := Lib.hid (hO.mono (show w.heap.size + 1 ≤ _ by simp))
  clear hb hO
  go_wp2_with fail
  obtain ⟨wc, hwc⟩ : ∃ x, ((((((((w1.setCell ⟨w.heap.size, 0, none⟩ (.int .i64 215)).setCell ⟨w.heap.size, 1, none⟩ (.int .i64 102)).setCell ⟨w.heap.size, 2, none⟩ (.int .i64 65)).setCell ⟨w.heap.size, 3, none⟩ (.int .i64 10)).setCell ⟨w.heap.size, 4, none⟩ (.string nL0)).setCell ⟨w.heap.size, 5, none⟩ (.slice A cL0.length c)).setCell ⟨w.heap.size, 6, none⟩ (.slice none 0 0)).setCell ⟨w.heap.size, 7, none⟩ (.string ⟨#[]⟩)) = x := ⟨_, rfl⟩
  have u0 : (wc.alloc (.cells #[.string nL0, .slice A cL0.length c] 26)).cell? ⟨w.heap.size, 0, none⟩ = some (.int .i64 215) := cell_keep (by rw [← hwc]; simp [go_sem, r0]) (ext_alloc1 _ _)
  have u1 : (wc.alloc (.cells #[.string nL0, .slice A cL0.length c] 26)).cell? ⟨w.heap.size, 1, none⟩ = some (.int .i64 102) := cell_keep (by rw [← hwc]; simp [go_sem, r1]) (ext_alloc1 _ _)
  have u2 : (wc.alloc (.cells #[.string nL0, .slice A cL0.length c] 26)).cell? ⟨w.heap.size, 2, none⟩ = some (.int .i64 65) := cell_keep (by rw [← hwc]; simp [go_sem, r2]) (ext_alloc1 _ _)
  have u3 : (wc.alloc (.cells #[.string nL0, .slice A cL0.length c] 26)).cell? ⟨w.heap.size, 3, none⟩ = some (.int .i64 10) := cell_keep (by rw [← hwc]; simp [go_sem, r3]) (ext_alloc1 _ _)
  have u4 : (wc.alloc (.cells #[.string nL0, .slice A cL0.length c] 26)).cell? ⟨w.heap.size, 4, none⟩ = some (.string nL0) := cell_keep (by rw [← hwc]; simp [go_sem, r4]) (ext_alloc1 _ _)
  have u5 : (wc.alloc (.cells #[.string nL0, .slice A cL0.length c] 26)).cell? ⟨w.heap.size, 5, none⟩ = some (.slice A cL0.length c) := cell_keep (by rw [← hwc]; simp [go_sem, r5]) (ext_alloc1 _ _)
  have u6 : (wc.alloc (.cells #[.string nL0, .slice A cL0.length c] 26)).cell? ⟨w.heap.size, 6, none⟩ = some (.slice none 0 0) := cell_keep (by rw [← hwc]; simp [go_sem, r6]) (ext_alloc1 _ _)
  have u7 : (wc.alloc (.cells #[.string nL0, .slice A cL0.length c] 26)).cell? ⟨w.heap.size, 7, none⟩ = some (.string ⟨#[]⟩) := cell_keep (by rw [← hwc]; simp [go_sem, r7]) (ext_alloc1 _ _)
  have HO2 : OCOS wc (w.heap.size + 1) (.slice A cL0.length c) cL0 := by rw [← hwc]; exact ((((((((HO.out.put (Nat.lt_succ_self _) 0 (.int .i64 215)).put (Nat.lt_succ_self _) 1 (.int .i64 102)).put (Nat.lt_succ_self _) 2 (.int .i64 65)).put (Nat.lt_succ_self _) 3 (.int .i64 10)).put (Nat.lt_succ_self _) 4 (.string nL0)).put (Nat.lt_succ_self _) 5 (.slice A cL0.length c)).put (Nat.lt_succ_self _) 6 (.slice none 0 0)).put (Nat.lt_succ_self _) 7 (.string ⟨#[]⟩))
  have HB2 : Below w.heap.size w wc := by rw [← hwc]; exact (ext_set (ext_set (ext_set (ext_set (ext_set (ext_set (ext_set (ext_set HB.out (Nat.le_refl _) _) (Nat.le_refl _) _) (Nat.le_refl _) _) (Nat.le_refl _) _) (Nat.le_refl _) _) (Nat.le_refl _) _) (Nat.le_refl _) _) (Nat.le_refl _) _)
  rw [hwc]
  clear hwc
  refine bodyPost_ret (v := .agg #[.int .i64 215, .int .i64 102, .int .i64 65, .int .i64 10, .string nL0, .slice A cL0.length c, .slice none 0 0, .string ⟨#[]⟩]) (by simp [results, Tryd.results5, go_sem, u0, u1, u2, u3, u4, u5, u6, u7]) rfl ⟨_, rfl, ⟨A, c, none, 0, rfl, (HO2.ext (ext_alloc1 _ _)).mono (Nat.le_succ _), ostr_nil _ _, fun k _ h2 => by cases h2⟩, sm_newD, ext_alloc HB2 _⟩
set_option maxHeartbeats 1600000 in
theorem spec_l28New (w : World)  :
    Calls Tryd.prog 9 #[] w fun e w' => ∃ v, e = .returned v ∧ ODK w' w.heap.size v newD ∧ SmDK newD ∧ Below w.heap.size w w' := by
  have HC : Hid (∀ w1, Below w.heap.size w w1 → Calls Tryd.prog 18 #[.string ⟨#[115, 116, 114, 101, 116, 99, 104, 101, 114]⟩] w1 fun e w' => ∃ A c, e = .returned (.tuple #[.agg #[.string nL0, .slice A cL0.length c], .int .i64 0]) ∧ OCOS w' w1.heap.size (.slice A cL0.length c) cL0 ∧ Below w1.heap.size w1 w') := Lib.hid (by
    intro w1 hb
    have h := spec_BondNamed ⟨#[115, 116, 114, 101, 116, 99, 104, 101, 114]⟩ w1
    rw [show bnN ⟨#[115, 116, 114, 101, 116, 99, 104, 101, 114]⟩ = nL0 from by decide +kernel, show bnC ⟨#[115, 116, 114, 101, 116, 99, 104, 101, 114]⟩ = cL0 from by decide +kernel, show bnR ⟨#[115, 116, 114, 101, 116, 99, 104, 101, 114]⟩ = 0 from by decide +kernel] at h
    exact h)
  go_enter Tryd.func9, Tryd.ntmps9
  go_wp2_with fail
  refine (show Calls _ _ _ _ _ from HC.out _ (ext_alloc1 _ _)).mono ?_
  rintro e w1 ⟨A, c, rfl, hO, hb⟩
  have r0 := cell_keep (p := ⟨w.heap.size, 0, none⟩) (v := .int .i64 0) (by simp [go_sem]) hb
  have r1 := cell_keep (p := ⟨w.heap.size, 1, none⟩) (v := .int .i64 0) (by simp [go_sem]) hb
  have r2 := cell_keep (p := ⟨w.heap.size, 2, none⟩) (v := .int .i64 0) (by simp [go_sem]) hb
  have r3 := cell_keep (p := ⟨w.heap.size, 3, none⟩) (v := .int .i64 0) (by simp [go_sem]) hb
  have r4 := cell_keep (p := ⟨w.heap.size, 4, none⟩) (v := .string ⟨#[]⟩) (by simp [go_sem]) hb
  have r5 := cell_keep (p := ⟨w.heap.size, 5, none⟩) (v := .slice none 0 0) (by simp [go_sem]) hb
  have r6 := cell_keep (p := ⟨w.heap.size, 6, none⟩) (v := .slice none 0 0) (by simp [go_sem]) hb
  have r7 := cell_keep (p := ⟨w.heap.size, 7, none⟩) (v := .string ⟨#[]⟩) (by simp [go_sem]) hb
  have rz : ∀ j, w1.frozen? ⟨w.heap.size, j, none⟩ = false := fun j => by rw [(bcell hb).2 _ _ (by simp)]; simp [go_sem]
  have HB := Lib.hid (ext_trans (ext_alloc1 _ _) hb)
  have hlt : w.heap.size < w1.heap.size := block_lt_of_cell r0
  have HO := Lib.hid (hO.mono (show w.heap.size + 1 ≤ _ by simp))
  clear hb hO
  go_wp2_with fail
  obtain ⟨wc, hwc⟩ : ∃ x, ((((((((w1.setCell ⟨w.heap.size, 0, none⟩ (.int .i64 215)).setCell ⟨w.heap.size, 1, none⟩ (.int .i64 102)).setCell ⟨w.heap.size, 2, none⟩ (.int .i64 65)).setCell ⟨w.heap.size, 3, none⟩ (.int .i64 10)).setCell ⟨w.heap.size, 4, none⟩ (.string nL0)).setCell ⟨w.heap.size, 5, none⟩ (.slice A cL0.length c)).setCell ⟨w.heap.size, 6, none⟩ (.slice none 0 0)).setCell ⟨w.heap.size, 7, none⟩ (.string ⟨#[]⟩)) = x := ⟨_, rfl⟩
  have u0 : (wc.alloc (.cells #[.string nL0, .slice A cL0.length c] 26)).cell? ⟨w.heap.size, 0, none⟩ = some (.int .i64 215) := cell_keep (by rw [← hwc]; simp [go_sem, r0]) (ext_alloc1 _ _)
  have u1 : (wc.alloc (.cells #[.string nL0, .slice A cL0.length c] 26)).cell? ⟨w.heap.size, 1, none⟩ = some (.int .i64 102) := cell_keep (by rw [← hwc]; simp [go_sem, r1]) (ext_alloc1 _ _)
  have u2 : (wc.alloc (.cells #[.string nL0, .slice A cL0.length c] 26)).cell? ⟨w.heap.size, 2, none⟩ = some (.int .i64 65) := cell_keep (by rw [← hwc]; simp [go_sem, r2]) (ext_alloc1 _ _)
  have u3 : (wc.alloc (.cells #[.string nL0, .slice A cL0.length c] 26)).cell? ⟨w.heap.size, 3, none⟩ = some (.int .i64 10) := cell_keep (by rw [← hwc]; simp [go_sem, r3]) (ext_alloc1 _ _)
  have u4 : (wc.alloc (.cells #[.string nL0, .slice A cL0.length c] 26)).cell? ⟨w.heap.size, 4, none⟩ = some (.string nL0) := cell_keep (by rw [← hwc]; simp [go_sem, r4]) (ext_alloc1 _ _)
  have u5 : (wc.alloc (.cells #[.string nL0, .slice A cL0.length c] 26)).cell? ⟨w.heap.size, 5, none⟩ = some (.slice A cL0.length c) := cell_keep (by rw [← hwc]; simp [go_sem, r5]) (ext_alloc1 _ _)
  have u6 : (wc.alloc (.cells #[.string nL0, .slice A cL0.length c] 26)).cell? ⟨w.heap.size, 6, none⟩ = some (.slice none 0 0) := cell_keep (by rw [← hwc]; simp [go_sem, r6]) (ext_alloc1 _ _)
  have u7 : (wc.alloc (.cells #[.string nL0, .slice A cL0.length c] 26)).cell? ⟨w.heap.size, 7, none⟩ = some (.string ⟨#[]⟩) := cell_keep (by rw [← hwc]; simp [go_sem, r7]) (ext_alloc1 _ _)
  have HO2 : OCOS wc (w.heap.size + 1) (.slice A cL0.length c) cL0 := by rw [← hwc]; exact ((((((((HO.out.put (Nat.lt_succ_self _) 0 (.int .i64 215)).put (Nat.lt_succ_self _) 1 (.int .i64 102)).put (Nat.lt_succ_self _) 2 (.int .i64 65)).put (Nat.lt_succ_self _) 3 (.int .i64 10)).put (Nat.lt_succ_self _) 4 (.string nL0)).put (Nat.lt_succ_self _) 5 (.slice A cL0.length c)).put (Nat.lt_succ_self _) 6 (.slice none 0 0)).put (Nat.lt_succ_self _) 7 (.string ⟨#[]⟩))
  have HB2 : Below w.heap.size w wc := by rw [← hwc]; exact (ext_set (ext_set (ext_set (ext_set (ext_set (ext_set (ext_set (ext_set HB.out (Nat.le_refl _) _) (Nat.le_refl _) _) (Nat.le_refl _) _) (Nat.le_refl _) _) (Nat.le_refl _) _) (Nat.le_refl _) _) (Nat.le_refl _) _) (Nat.le_refl _) _)
  rw [hwc]
  clear hwc
  refine bodyPost_ret (v := .agg #[.int .i64 215, .int .i64 102, .int .i64 65, .int .i64 10, .string nL0, .slice A cL0.length c, .slice none 0 0, .string ⟨#[]⟩]) (by simp [results, Tryd.results9, go_sem, u0, u1, u2, u3, u4, u5, u6, u7]) rfl ⟨_, rfl, ⟨A, c, none, 0, rfl, (HO2.ext (ext_alloc1 _ _)).mono (Nat.le_succ _), ostr_nil _ _, fun k _ h2 => by cases h2⟩, sm_newD, ext_alloc HB2 _⟩
theorem spec_NewDesk (w : World) (hE : EnvN w) :
    Calls Tryd.prog 4 #[] w fun e w' => ∃ v, e = .returned v ∧ ODK w' w.heap.size v newD ∧ SmDK newD ∧ Below w.heap.size w w' := by
  go_enter Tryd.func4, Tryd.ntmps4
  go_wp2_with fail
  refine (spec_l28New _).mono ?_
  rintro e w1 ⟨v, rfl, ⟨A, c, B, d, rfl, h1, h2, h3⟩, _, hb⟩
  have r0 := cell_keep (p := ⟨w.heap.size, 0, none⟩) (v := .int .i64 0) (by simp [go_sem]) hb
  have r1 := cell_keep (p := ⟨w.heap.size, 1, none⟩) (v := .int .i64 0) (by simp [go_sem]) hb
  have r2 := cell_keep (p := ⟨w.heap.size, 2, none⟩) (v := .int .i64 0) (by simp [go_sem]) hb
  have r3 := cell_keep (p := ⟨w.heap.size, 3, none⟩) (v := .int .i64 0) (by simp [go_sem]) hb
  have r4 := cell_keep (p := ⟨w.heap.size, 4, none⟩) (v := .string ⟨#[]⟩) (by simp [go_sem]) hb
  have r5 := cell_keep (p := ⟨w.heap.size, 5, none⟩) (v := .slice none 0 0) (by simp [go_sem]) hb
  have r6 := cell_keep (p := ⟨w.heap.size, 6, none⟩) (v := .slice none 0 0) (by simp [go_sem]) hb
  have r7 := cell_keep (p := ⟨w.heap.size, 7, none⟩) (v := .string ⟨#[]⟩) (by simp [go_sem]) hb
  have rz : ∀ j, w1.frozen? ⟨w.heap.size, j, none⟩ = false := fun j => by rw [(bcell hb).2 _ _ (by simp)]; simp [go_sem]
  have HB := Lib.hid (ext_trans (ext_alloc1 _ _) hb)
  have HO := Lib.hid (h1.mono (show w.heap.size + 1 ≤ _ by simp))
  have HP := Lib.hid (h2.mono (show w.heap.size + 1 ≤ _ by simp))
  have H3 := Lib.hid h3
  clear hb h1 h2 h3
  go_wp2_with fail
  obtain ⟨wc, hwc⟩ : ∃ x, ((((((((w1.setCell ⟨w.heap.size, 0, none⟩ (.int .i64 newD.f.l)).setCell ⟨w.heap.size, 1, none⟩ (.int .i64 newD.f.w)).setCell ⟨w.heap.size, 2, none⟩ (.int .i64 newD.f.h)).setCell ⟨w.heap.size, 3, none⟩ (.int .i64 newD.f.j)).setCell ⟨w.heap.size, 4, none⟩ (.string newD.nm)).setCell ⟨w.heap.size, 5, none⟩ (.slice A newD.cs.length c)).setCell ⟨w.heap.size, 6, none⟩ (.slice B newD.wall.length d)).setCell ⟨w.heap.size, 7, none⟩ (.string newD.log)) = x := ⟨_, rfl⟩
  have u0 : wc.cell? ⟨w.heap.size, 0, none⟩ = some (.int .i64 newD.f.l) := by rw [← hwc]; simp [go_sem, r0]
  have u1 : wc.cell? ⟨w.heap.size, 1, none⟩ = some (.int .i64 newD.f.w) := by rw [← hwc]; simp [go_sem, r1]
  have u2 : wc.cell? ⟨w.heap.size, 2, none⟩ = some (.int .i64 newD.f.h) := by rw [← hwc]; simp [go_sem, r2]
  have u3 : wc.cell? ⟨w.heap.size, 3, none⟩ = some (.int .i64 newD.f.j) := by rw [← hwc]; simp [go_sem, r3]
  have u4 : wc.cell? ⟨w.heap.size, 4, none⟩ = some (.string newD.nm) := by rw [← hwc]; simp [go_sem, r4]
  have u5 : wc.cell? ⟨w.heap.size, 5, none⟩ = some (.slice A newD.cs.length c) := by rw [← hwc]; simp [go_sem, r5]
  have u6 : wc.cell? ⟨w.heap.size, 6, none⟩ = some (.slice B newD.wall.length d) := by rw [← hwc]; simp [go_sem, r6]
  have u7 : wc.cell? ⟨w.heap.size, 7, none⟩ = some (.string newD.log) := by rw [← hwc]; simp [go_sem, r7]
  have HO2 : OCOS wc (w.heap.size + 1) (.slice A newD.cs.length c) newD.cs := by rw [← hwc]; exact ((((((((HO.out.put (Nat.lt_succ_self _) 0 (.int .i64 newD.f.l)).put (Nat.lt_succ_self _) 1 (.int .i64 newD.f.w)).put (Nat.lt_succ_self _) 2 (.int .i64 newD.f.h)).put (Nat.lt_succ_self _) 3 (.int .i64 newD.f.j)).put (Nat.lt_succ_self _) 4 (.string newD.nm)).put (Nat.lt_succ_self _) 5 (.slice A newD.cs.length c)).put (Nat.lt_succ_self _) 6 (.slice B newD.wall.length d)).put (Nat.lt_succ_self _) 7 (.string newD.log))
  have HP2 : OStr wc (w.heap.size + 1) (.slice B newD.wall.length d) newD.wall := by rw [← hwc]; exact ((((((((HP.out.put (Nat.lt_succ_self _) 0 (.int .i64 newD.f.l)).put (Nat.lt_succ_self _) 1 (.int .i64 newD.f.w)).put (Nat.lt_succ_self _) 2 (.int .i64 newD.f.h)).put (Nat.lt_succ_self _) 3 (.int .i64 newD.f.j)).put (Nat.lt_succ_self _) 4 (.string newD.nm)).put (Nat.lt_succ_self _) 5 (.slice A newD.cs.length c)).put (Nat.lt_succ_self _) 6 (.slice B newD.wall.length d)).put (Nat.lt_succ_self _) 7 (.string newD.log))
  have HB2 : Below w.heap.size w wc := by rw [← hwc]; exact (ext_set (ext_set (ext_set (ext_set (ext_set (ext_set (ext_set (ext_set HB.out (Nat.le_refl _) _) (Nat.le_refl _) _) (Nat.le_refl _) _) (Nat.le_refl _) _) (Nat.le_refl _) _) (Nat.le_refl _) _) (Nat.le_refl _) _) (Nat.le_refl _) _)
  rw [hwc]
  clear hwc
  refine bodyPost_ret (v := .agg #[.int .i64 newD.f.l, .int .i64 newD.f.w, .int .i64 newD.f.h, .int .i64 newD.f.j, .string newD.nm, .slice A newD.cs.length c, .slice B newD.wall.length d, .string newD.log]) (by simp [results, Tryd.results4, go_sem, u0, u1, u2, u3, u4, u5, u6, u7]) rfl ⟨_, rfl, ⟨A, c, B, d, rfl, HO2.mono (Nat.le_succ _), HP2.mono (Nat.le_succ _), H3.out⟩, sm_newD, HB2⟩
/-- A state whose parts are marked. -/
def mkD (j : Int) (d : DK) : DK := ⟨d.f, d.nm, mkCO j d.cs.length, mkStr (j + 2 * (d.cs.length : Int)) d.wall.length, d.log⟩
theorem mark_bond (A : Option Addr) (c base : Nat) (nm : ByteArray) (cs : List CO) (j : Int) (hj0 : 0 ≤ j) (hj : j ≤ 1099511627776) (w : World) (hsm : SmCOS cs) (hO : OCOS w base (.slice A cs.length c) cs) :
    Calls Tryd.prog 14 #[.agg #[.string nm, .slice A cs.length c], .int .i64 j] w fun e w' => e = .returned (.int .i64 (j + 2 * (cs.length : Int))) ∧ OCOS w' base (.slice A cs.length c) (mkCO j cs.length) ∧ Chg (BCOS (.slice A cs.length c)) w w' := by
  have HO := Lib.hid hO; clear hO
  have HS := Lib.hid hsm; clear hsm
  go_enter Tryd.func14, Tryd.ntmps14
  go_wp2_with fail
  refine (mark_COS base _ cs j hj0 hj _ HS.out (HO.out.ext (ext_alloc1 _ _))).mono ?_
  rintro e w1 ⟨rfl, h1, h2⟩
  have H1 := Lib.hid h1
  have H2 := Lib.hid h2
  clear h1 h2
  go_wp2_with fail
  go_ret
  exact ⟨rfl, H1.out, (Chg.of_below (ext_alloc1 w _) _).trans H2.out⟩
theorem mkD_len (j : Int) (d : DK) : (mkD j d).cs.length = d.cs.length ∧ (mkD j d).wall.length = d.wall.length := ⟨mkCO_len _ _, mkStr_len _ _⟩
set_option maxHeartbeats 1600000 in
theorem mark_DK (base : Nat) (v : Value) (d : DK) (j : Int) (hj0 : 0 ≤ j) (hj : j ≤ 1000000000000) (w : World) (hsm : SmDK d) (hO : ODK w base v d) :
    Calls Tryd.prog 7 #[v, .int .i64 j] w fun e w' => e = .returned (.int .i64 (j + (2 * (d.cs.length : Int) + (d.wall.length : Int)))) ∧ ODK w' base v (mkD j d) ∧ Chg (BDK v) w w' := by
  obtain ⟨A, c, B, e, rfl, hc, hw, hap⟩ := hO
  have HC := Lib.hid hc
  have HW := Lib.hid hw
  have HAP := Lib.hid hap
  unfold SmDK totDK at hsm
  have HS : Hid (SmCOS d.cs) := Lib.hid (by unfold SmCOS; omega)
  have HS2 : Hid (SmStr d.wall) := Lib.hid (by unfold SmStr; omega)
  have hl1 : d.cs.length ≤ 1048576 := by omega
  have hl2 : d.wall.length ≤ 1048576 := by omega
  clear hc hw hap hsm
  go_enter Tryd.func7, Tryd.ntmps7
  go_wp2_with fail
  refine (mark_bond A c base d.nm d.cs j hj0 (by omega) _ HS.out (HC.out.ext (ext_alloc1 _ _))).mono ?_
  rintro e' w1 ⟨rfl, h1, h2⟩
  have k6 := h2.cell (p := ⟨w.heap.size, 6, none⟩) (v := .slice B d.wall.length e) (by simp [go_sem]) (fun hk => Nat.lt_irrefl _ (HC.out.ge _ hk).2)
  have HW1 := Lib.hid ((HW.out.ext (ext_alloc1 _ _)).chg h2 (fun k hk hs => HAP.out k hs hk))
  have HC1 := Lib.hid h1
  have HG1 := Lib.hid ((Chg.of_below (ext_alloc1 w _) _).trans h2)
  clear h1 h2
  go_wp2_with fail
  refine (mark_Str base _ d.wall (j + 2 * (d.cs.length : Int)) (by omega) (by omega) _ HS2.out HW1.out).mono ?_
  rintro e' w2 ⟨rfl, h1, h2⟩
  have HW2 := Lib.hid h1
  have HC2 := Lib.hid (HC1.out.chg h2 (fun k hk hs => HAP.out k hk hs))
  have HG2 := Lib.hid ((HG1.out.mono (fun k hk => Or.inl hk) : Chg (BDK (.agg #[.int .i64 d.f.l, .int .i64 d.f.w, .int .i64 d.f.h, .int .i64 d.f.j, .string d.nm, .slice A d.cs.length c, .slice B d.wall.length e, .string d.log])) w w1).trans (h2.mono (fun k hk => Or.inr hk)))
  clear h1 h2 k6
  go_wp2_with fail
  go_ret
  refine ⟨ret_int (by omega), ⟨A, c, B, e, ?_, ?_, ?_, ?_⟩, HG2.out⟩
  · rw [(mkD_len j d).1, (mkD_len j d).2]; rfl
  · rw [(mkD_len j d).1]; exact HC2.out
  · rw [(mkD_len j d).2]; exact HW2.out
  · rw [(mkD_len j d).1, (mkD_len j d).2]; exact HAP.out
theorem held_bond (A : Option Addr) (c : Nat) (nm : ByteArray) (cs : List CO) (j : Int) (hj0 : 0 ≤ j) (hj : j ≤ 1099511627776) (w : World) (hsm : SmCOS cs) (ha : RCOS w (.slice A cs.length c) (mkCO j cs.length)) :
    Calls Tryd.prog 16 #[.agg #[.string nm, .slice A cs.length c], .int .i64 j] w (Ret (.int .i64 (j + 2 * (cs.length : Int))) w) := by
  have HA := Lib.hid ha; clear ha
  have hl1 : cs.length ≤ 1048576 := by unfold SmCOS at hsm; omega
  have HS := Lib.hid hsm; clear hsm
  go_enter Tryd.func16, Tryd.ntmps16
  go_wp2_with fail
  refine (held_COS _ cs j hj0 hj _ HS.out (HA.out.ext (ext_alloc1 _ _))).mono ?_
  rintro e w1 ⟨rfl, hb⟩
  have HB := Lib.hid (ext_trans (ext_alloc1 _ _) hb)
  clear hb
  have e1 : ¬ j + 2 * (cs.length : Int) < 0 := by omega
  go_wp2_with fail
  go_ret
  exact ⟨rfl, HB.out⟩
set_option maxHeartbeats 1600000 in
theorem held_DK (v : Value) (d : DK) (j : Int) (hj0 : 0 ≤ j) (hj : j ≤ 1000000000000) (w : World) (hsm : SmDK d) (ha : RDK w v (mkD j d)) :
    Calls Tryd.prog 8 #[v, .int .i64 j] w (Ret (.int .i64 (j + (2 * (d.cs.length : Int) + (d.wall.length : Int)))) w) := by
  obtain ⟨A, c, B, e, rfl, hc, hw⟩ := ha
  rw [(mkD_len j d).1] at hc
  rw [(mkD_len j d).2] at hw
  rw [(mkD_len j d).1, (mkD_len j d).2]
  have HC := Lib.hid hc
  have HW := Lib.hid hw
  unfold SmDK totDK at hsm
  have HS : Hid (SmCOS d.cs) := Lib.hid (by unfold SmCOS; omega)
  have HS2 : Hid (SmStr d.wall) := Lib.hid (by unfold SmStr; omega)
  have hl1 : d.cs.length ≤ 1048576 := by omega
  have hl2 : d.wall.length ≤ 1048576 := by omega
  clear hc hw hsm
  go_enter Tryd.func8, Tryd.ntmps8
  go_wp2_with fail
  refine (held_bond A c (mkD j d).nm d.cs j hj0 (by omega) _ HS.out (HC.out.ext (ext_alloc1 _ _))).mono ?_
  rintro e' w1 ⟨rfl, hb⟩
  have k6 := cell_keep (p := ⟨w.heap.size, 6, none⟩) (v := .slice B d.wall.length e) (by simp [go_sem]) hb
  have HB := Lib.hid (ext_trans (ext_alloc1 _ _) hb)
  clear hb
  have e1 : ¬ j + 2 * (d.cs.length : Int) < 0 := by omega
  go_wp2_with fail
  refine (held_Str _ d.wall (j + 2 * (d.cs.length : Int)) (by omega) (by omega) _ HS2.out (HW.out.ext HB.out)).mono ?_
  rintro e' w2 ⟨rfl, hb⟩
  have HB2 := Lib.hid (ext_trans HB.out hb)
  clear hb k6
  have e2 : ¬ j + 2 * (d.cs.length : Int) + (d.wall.length : Int) < 0 := by omega
  go_wp2_with fail
  go_ret
  exact ⟨ret_int (by omega), HB2.out⟩
end Go.Proofs.YtpoalklakhegoaaDoor
