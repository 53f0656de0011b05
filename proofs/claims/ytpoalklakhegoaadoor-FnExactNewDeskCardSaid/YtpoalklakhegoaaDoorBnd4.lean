/-
  The bonds of the library, on the program's side.
-/
import Derived.Test.YtpoalklakhegoaaDoorBnd3
import Derived.LoopN
import Derived.ChangeBears2
namespace Go.Proofs.YtpoalklakhegoaaDoor
open Go.ChangeShapes Go.WideShapes Go.ChangeAt Go.RowKit Go.Sort Go.Joins
set_option linter.unusedVariables false
set_option maxRecDepth 100000

def tL0 : ByteArray := ⟨#[115, 116, 114, 101, 116, 99, 104, 101, 114, 32, 83, 32, 66, 43, 83]⟩
def nL0 : ByteArray := ⟨#[115, 116, 114, 101, 116, 99, 104, 101, 114]⟩
def cL0 : List CO := [⟨⟨#[]⟩, ⟨#[83]⟩⟩, ⟨⟨#[66]⟩, ⟨#[83]⟩⟩]
theorem lib0 : gI tL0 = true ∧ nI tL0 = nL0 ∧ cI tL0 = cL0 := by decide +kernel
def tL1 : ByteArray := ⟨#[104, 101, 97, 100, 101, 114, 32, 72, 32, 67, 43, 72]⟩
def nL1 : ByteArray := ⟨#[104, 101, 97, 100, 101, 114]⟩
def cL1 : List CO := [⟨⟨#[]⟩, ⟨#[72]⟩⟩, ⟨⟨#[67]⟩, ⟨#[72]⟩⟩]
theorem lib1 : gI tL1 = true ∧ nI tL1 = nL1 ∧ cI tL1 = cL1 := by decide +kernel
def tL2 : ByteArray := ⟨#[101, 110, 103, 108, 105, 115, 104, 32, 83, 32, 72, 67, 43, 72]⟩
def nL2 : ByteArray := ⟨#[101, 110, 103, 108, 105, 115, 104]⟩
def cL2 : List CO := [⟨⟨#[]⟩, ⟨#[83]⟩⟩, ⟨⟨#[72, 67]⟩, ⟨#[72]⟩⟩]
theorem lib2 : gI tL2 = true ∧ nI tL2 = nL2 ∧ cI tL2 = cL2 := by decide +kernel
def tL3 : ByteArray := ⟨#[102, 108, 101, 109, 105, 115, 104, 32, 83, 72, 32, 72, 67, 43, 83, 72]⟩
def nL3 : ByteArray := ⟨#[102, 108, 101, 109, 105, 115, 104]⟩
def cL3 : List CO := [⟨⟨#[]⟩, ⟨#[83, 72]⟩⟩, ⟨⟨#[72, 67]⟩, ⟨#[83, 72]⟩⟩]
theorem lib3 : gI tL3 = true ∧ nI tL3 = nL3 ∧ cI tL3 = cL3 := by decide +kernel
def tL4 : ByteArray := ⟨#[103, 97, 114, 100, 101, 110, 32, 83, 32, 66, 43, 83, 32, 83, 32, 72, 67, 43, 72]⟩
def nL4 : ByteArray := ⟨#[103, 97, 114, 100, 101, 110]⟩
def cL4 : List CO := [⟨⟨#[]⟩, ⟨#[83]⟩⟩, ⟨⟨#[66]⟩, ⟨#[83]⟩⟩, ⟨⟨#[]⟩, ⟨#[83]⟩⟩, ⟨⟨#[72, 67]⟩, ⟨#[72]⟩⟩]
theorem lib4 : gI tL4 = true ∧ nI tL4 = nL4 ∧ cI tL4 = cL4 := by decide +kernel
/-- The texts of the library lie as the program lays them. -/
def LibT (w : World) : Prop := w.var? Tryd.prog "loop.example/g01042/impl.libraryTexts" = some #[.string tL0, .string tL1, .string tL2, .string tL3, .string tL4]
theorem LibT.ext {w w' : World} (h : LibT w) (hb : Below w.heap.size w w') : LibT w' := var_ext hb h
/-- The bond of the library with a name. -/
def bnF (s : ByteArray) : Option (ByteArray × List CO) := if s = nL0 then some (nL0, cL0) else if s = nL1 then some (nL1, cL1) else if s = nL2 then some (nL2, cL2) else if s = nL3 then some (nL3, cL3) else if s = nL4 then some (nL4, cL4) else none
def bnN (s : ByteArray) : ByteArray := match bnF s with | some p => p.1 | none => ⟨#[]⟩
def bnC (s : ByteArray) : List CO := match bnF s with | some p => p.2 | none => []
def bnR (s : ByteArray) : Int := match bnF s with | some p => 0 | none => 3
theorem impl_ReadL (t n : ByteArray) (cs : List CO) (h : gI t = true ∧ nI t = n ∧ cI t = cs) (w : World) (hsh : w.ShapedOpen Tryd.prog) :
    Calls Tryd.prog 19 #[.string t] w fun e w' => ∃ A c, e = .returned (.tuple #[.agg #[.string n, .slice A cs.length c], .bool true]) ∧ OCOS w' w.heap.size (.slice A cs.length c) cs ∧ Below w.heap.size w w' := by
  obtain ⟨h1, rfl, rfl⟩ := h
  exact impl_ReadBond t h1 w hsh
/-- The five cells of a result still empty. -/
structure RE (w W : World) (q : Nat) : Prop where
  b : Below w.heap.size w W
  ge : w.heap.size ≤ q
  lt : q < W.heap.size
  h0 : W.cell? ⟨q, 0, none⟩ = some (.string ⟨#[]⟩)
  h1 : W.cell? ⟨q, 1, none⟩ = some (.slice none 0 0)
  fz : ∀ j, W.frozen? ⟨q, j, none⟩ = false
theorem RE.ext {w W W' : World} {q : Nat} (h : RE w W q) (hb : Below W.heap.size W W') : RE w W' q :=
  ⟨ext_trans h.b hb, h.ge, Nat.lt_of_lt_of_le h.lt hb.size, cell_keep h.h0 hb, cell_keep h.h1 hb, fun j => by rw [(bcell hb).2 q j h.lt]; exact h.fz j⟩
theorem run_idx5 (v0 v1 v2 v3 v4 v : Value) (i : Int) (w : World) (h : (i = 0 ∧ v = v0) ∨ (i = 1 ∧ v = v1) ∨ (i = 2 ∧ v = v2) ∨ (i = 3 ∧ v = v3) ∨ (i = 4 ∧ v = v4)) : (Instr.index 41 (.agg #[v0, v1, v2, v3, v4]) (.int .i64 i)).run Tryd.prog w = .ok v w := by
  have hu := Tryd.underlying41
  rcases h with ⟨rfl, rfl⟩ | ⟨rfl, rfl⟩ | ⟨rfl, rfl⟩ | ⟨rfl, rfl⟩ | ⟨rfl, rfl⟩ <;> simp [Instr.index, run_underlying hu, asIntOf, go_sem]
theorem ne_list {s t : ByteArray} (h : s ≠ t) : ¬ s.toList = t.toList := fun e => by
  have h2 := str_ne h
  rw [e] at h2
  simp at h2
set_option maxHeartbeats 3200000 in
theorem impl_BondNamed (s : ByteArray) (w : World) (hsh : w.ShapedOpen Tryd.prog) (hT : LibT w) :
    Calls Tryd.prog 10 #[.string s] w fun e w' => ∃ A c, e = .returned (.tuple #[.agg #[.string (bnN s), .slice A (bnC s).length c], .int .i64 (bnR s)]) ∧ OCOS w' w.heap.size (.slice A (bnC s).length c) (bnC s) ∧ Below w.heap.size w w' := by
  have HS : Hid (∀ W', Below w.heap.size w W' → W'.ShapedOpen Tryd.prog) := Lib.hid fun W' h => shaped_ext hsh h
  have hT2 := hT.ext (ext_alloc1 w (.cells #[.string ⟨#[]⟩, .slice none 0 0] 26))
  have g0 := var?_cell (g := 0) (by kernel_rfl) hT2 0
  have g1 := var?_cell (g := 0) (by kernel_rfl) hT2 1
  have g2 := var?_cell (g := 0) (by kernel_rfl) hT2 2
  have g3 := var?_cell (g := 0) (by kernel_rfl) hT2 3
  have g4 := var?_cell (g := 0) (by kernel_rfl) hT2 4
  simp only [List.getElem?_toArray, List.getElem?_cons_zero, List.getElem?_cons_succ] at g0 g1 g2 g3 g4
  clear hT hT2 hsh
  have HE : Hid (RE w (w.alloc (.cells #[.string ⟨#[]⟩, .slice none 0 0] 26)) w.heap.size) := Lib.hid ⟨ext_alloc1 _ _, Nat.le_refl _, by simp, by simp [go_sem], by simp [go_sem], fun j => by simp [go_sem]⟩
  go_enter Tryd.func10, Tryd.ntmps10
  go_wp2_with fail
  clear g0 g1 g2 g3 g4
  refine wp_loop_rounds 6 ?_
  rw [rounds_succ]
  have HL := Lib.hid (fun w h => impl_ReadL tL0 nL0 cL0 lib0 w h)
  have HSW := Lib.hid (HS.out _ HE.out.b)
  have hix := fun w => run_idx5 (.string tL0) (.string tL1) (.string tL2) (.string tL3) (.string tL4) (.string tL0) 0 w (by simp)
  go_wp2_with fail
  refine (show Calls _ _ _ _ _ from HL.out _ HSW.out).mono ?_
  rintro e w1 ⟨A, c, rfl, hO, hb⟩
  have HO := Lib.hid (hO.mono (show w.heap.size + 1 ≤ _ from HE.out.lt))
  replace HE := Lib.hid (HE.out.ext hb)
  clear hb hO HL HSW hix
  by_cases hs : s = nL0
  · have HF : Hid (bnN nL0 = nL0 ∧ bnC nL0 = cL0 ∧ bnR nL0 = 0) := Lib.hid (by decide +kernel)
    subst hs
    have h0 := HE.out.h0
    have h1 := HE.out.h1
    have fz := HE.out.fz
    have hlt := HE.out.lt
    have HB := Lib.hid HE.out.b
    have HQ := Lib.hid HE.out.ge
    clear HE
    go_wp2_with fail
    have u0 : (((w1.setCell ⟨w.heap.size, 0, none⟩ (.string nL0)).setCell ⟨w.heap.size, 1, none⟩ (.slice A (cL0).length c)).alloc (.cells #[.string nL0, .slice A (cL0).length c] 26)).cell? ⟨w.heap.size, 0, none⟩ = some (.string nL0) := cell_keep (by simp [go_sem, h0]) (ext_alloc1 _ _)
    have u1 : (((w1.setCell ⟨w.heap.size, 0, none⟩ (.string nL0)).setCell ⟨w.heap.size, 1, none⟩ (.slice A (cL0).length c)).alloc (.cells #[.string nL0, .slice A (cL0).length c] 26)).cell? ⟨w.heap.size, 1, none⟩ = some (.slice A (cL0).length c) := cell_keep (by simp [go_sem, h1]) (ext_alloc1 _ _)
    refine bodyPost_ret (v := .tuple #[.agg #[.string nL0, .slice A (cL0).length c], .int .i64 0]) (by simp [results, Tryd.results10, go_sem, u0, u1]) rfl ⟨A, c, by rw [HF.out.1, HF.out.2.1, HF.out.2.2], ?_, ?_⟩
    · rw [HF.out.2.1]
      exact (((HO.out.put (Nat.lt_succ_self _) 0 _).put (Nat.lt_succ_self _) 1 _).ext (ext_alloc1 _ _)).mono (Nat.le_succ _)
    · exact ext_alloc (ext_set (ext_set HB.out (Nat.le_refl _) _) (Nat.le_refl _) _) _
  have hst := str_ne hs
  have hst2 := ne_list hs
  have hst3 := str_ne (Ne.symm hs)
  have hst4 := ne_list (Ne.symm hs)
  go_wp2_with fail
  clear hst hst2 hst3 hst4 HO
  replace HE := Lib.hid (HE.out.ext (ext_alloc1 w1 (.cells #[.string nL0, .slice A (cL0).length c] 26)))
  generalize w1.alloc (.cells #[.string nL0, .slice A (cL0).length c] 26) = wx0 at *
  have HN0 := Lib.hid hs
  clear hs
  rw [rounds_succ]
  have HL := Lib.hid (fun w h => impl_ReadL tL1 nL1 cL1 lib1 w h)
  have HSW := Lib.hid (HS.out _ HE.out.b)
  have hix := fun w => run_idx5 (.string tL0) (.string tL1) (.string tL2) (.string tL3) (.string tL4) (.string tL1) 1 w (by simp)
  go_wp2_with fail
  refine (show Calls _ _ _ _ _ from HL.out _ HSW.out).mono ?_
  rintro e w1 ⟨A, c, rfl, hO, hb⟩
  have HO := Lib.hid (hO.mono (show w.heap.size + 1 ≤ _ from HE.out.lt))
  replace HE := Lib.hid (HE.out.ext hb)
  clear hb hO HL HSW hix
  by_cases hs : s = nL1
  · have HF : Hid (bnN nL1 = nL1 ∧ bnC nL1 = cL1 ∧ bnR nL1 = 0) := Lib.hid (by decide +kernel)
    subst hs
    have h0 := HE.out.h0
    have h1 := HE.out.h1
    have fz := HE.out.fz
    have hlt := HE.out.lt
    have HB := Lib.hid HE.out.b
    have HQ := Lib.hid HE.out.ge
    clear HE
    go_wp2_with fail
    have u0 : (((w1.setCell ⟨w.heap.size, 0, none⟩ (.string nL1)).setCell ⟨w.heap.size, 1, none⟩ (.slice A (cL1).length c)).alloc (.cells #[.string nL1, .slice A (cL1).length c] 26)).cell? ⟨w.heap.size, 0, none⟩ = some (.string nL1) := cell_keep (by simp [go_sem, h0]) (ext_alloc1 _ _)
    have u1 : (((w1.setCell ⟨w.heap.size, 0, none⟩ (.string nL1)).setCell ⟨w.heap.size, 1, none⟩ (.slice A (cL1).length c)).alloc (.cells #[.string nL1, .slice A (cL1).length c] 26)).cell? ⟨w.heap.size, 1, none⟩ = some (.slice A (cL1).length c) := cell_keep (by simp [go_sem, h1]) (ext_alloc1 _ _)
    refine bodyPost_ret (v := .tuple #[.agg #[.string nL1, .slice A (cL1).length c], .int .i64 0]) (by simp [results, Tryd.results10, go_sem, u0, u1]) rfl ⟨A, c, by rw [HF.out.1, HF.out.2.1, HF.out.2.2], ?_, ?_⟩
    · rw [HF.out.2.1]
      exact (((HO.out.put (Nat.lt_succ_self _) 0 _).put (Nat.lt_succ_self _) 1 _).ext (ext_alloc1 _ _)).mono (Nat.le_succ _)
    · exact ext_alloc (ext_set (ext_set HB.out (Nat.le_refl _) _) (Nat.le_refl _) _) _
  have hst := str_ne hs
  have hst2 := ne_list hs
  have hst3 := str_ne (Ne.symm hs)
  have hst4 := ne_list (Ne.symm hs)
  go_wp2_with fail
  clear hst hst2 hst3 hst4 HO
  replace HE := Lib.hid (HE.out.ext (ext_alloc1 w1 (.cells #[.string nL1, .slice A (cL1).length c] 26)))
  generalize w1.alloc (.cells #[.string nL1, .slice A (cL1).length c] 26) = wx1 at *
  have HN1 := Lib.hid hs
  clear hs
  rw [rounds_succ]
  have HL := Lib.hid (fun w h => impl_ReadL tL2 nL2 cL2 lib2 w h)
  have HSW := Lib.hid (HS.out _ HE.out.b)
  have hix := fun w => run_idx5 (.string tL0) (.string tL1) (.string tL2) (.string tL3) (.string tL4) (.string tL2) 2 w (by simp)
  go_wp2_with fail
  refine (show Calls _ _ _ _ _ from HL.out _ HSW.out).mono ?_
  rintro e w1 ⟨A, c, rfl, hO, hb⟩
  have HO := Lib.hid (hO.mono (show w.heap.size + 1 ≤ _ from HE.out.lt))
  replace HE := Lib.hid (HE.out.ext hb)
  clear hb hO HL HSW hix
  by_cases hs : s = nL2
  · have HF : Hid (bnN nL2 = nL2 ∧ bnC nL2 = cL2 ∧ bnR nL2 = 0) := Lib.hid (by decide +kernel)
    subst hs
    have h0 := HE.out.h0
    have h1 := HE.out.h1
    have fz := HE.out.fz
    have hlt := HE.out.lt
    have HB := Lib.hid HE.out.b
    have HQ := Lib.hid HE.out.ge
    clear HE
    go_wp2_with fail
    have u0 : (((w1.setCell ⟨w.heap.size, 0, none⟩ (.string nL2)).setCell ⟨w.heap.size, 1, none⟩ (.slice A (cL2).length c)).alloc (.cells #[.string nL2, .slice A (cL2).length c] 26)).cell? ⟨w.heap.size, 0, none⟩ = some (.string nL2) := cell_keep (by simp [go_sem, h0]) (ext_alloc1 _ _)
    have u1 : (((w1.setCell ⟨w.heap.size, 0, none⟩ (.string nL2)).setCell ⟨w.heap.size, 1, none⟩ (.slice A (cL2).length c)).alloc (.cells #[.string nL2, .slice A (cL2).length c] 26)).cell? ⟨w.heap.size, 1, none⟩ = some (.slice A (cL2).length c) := cell_keep (by simp [go_sem, h1]) (ext_alloc1 _ _)
    refine bodyPost_ret (v := .tuple #[.agg #[.string nL2, .slice A (cL2).length c], .int .i64 0]) (by simp [results, Tryd.results10, go_sem, u0, u1]) rfl ⟨A, c, by rw [HF.out.1, HF.out.2.1, HF.out.2.2], ?_, ?_⟩
    · rw [HF.out.2.1]
      exact (((HO.out.put (Nat.lt_succ_self _) 0 _).put (Nat.lt_succ_self _) 1 _).ext (ext_alloc1 _ _)).mono (Nat.le_succ _)
    · exact ext_alloc (ext_set (ext_set HB.out (Nat.le_refl _) _) (Nat.le_refl _) _) _
  have hst := str_ne hs
  have hst2 := ne_list hs
  have hst3 := str_ne (Ne.symm hs)
  have hst4 := ne_list (Ne.symm hs)
  go_wp2_with fail
  clear hst hst2 hst3 hst4 HO
  replace HE := Lib.hid (HE.out.ext (ext_alloc1 w1 (.cells #[.string nL2, .slice A (cL2).length c] 26)))
  generalize w1.alloc (.cells #[.string nL2, .slice A (cL2).length c] 26) = wx2 at *
  have HN2 := Lib.hid hs
  clear hs
  rw [rounds_succ]
  have HL := Lib.hid (fun w h => impl_ReadL tL3 nL3 cL3 lib3 w h)
  have HSW := Lib.hid (HS.out _ HE.out.b)
  have hix := fun w => run_idx5 (.string tL0) (.string tL1) (.string tL2) (.string tL3) (.string tL4) (.string tL3) 3 w (by simp)
  go_wp2_with fail
  refine (show Calls _ _ _ _ _ from HL.out _ HSW.out).mono ?_
  rintro e w1 ⟨A, c, rfl, hO, hb⟩
  have HO := Lib.hid (hO.mono (show w.heap.size + 1 ≤ _ from HE.out.lt))
  replace HE := Lib.hid (HE.out.ext hb)
  clear hb hO HL HSW hix
  by_cases hs : s = nL3
  · have HF : Hid (bnN nL3 = nL3 ∧ bnC nL3 = cL3 ∧ bnR nL3 = 0) := Lib.hid (by decide +kernel)
    subst hs
    have h0 := HE.out.h0
    have h1 := HE.out.h1
    have fz := HE.out.fz
    have hlt := HE.out.lt
    have HB := Lib.hid HE.out.b
    have HQ := Lib.hid HE.out.ge
    clear HE
    go_wp2_with fail
    have u0 : (((w1.setCell ⟨w.heap.size, 0, none⟩ (.string nL3)).setCell ⟨w.heap.size, 1, none⟩ (.slice A (cL3).length c)).alloc (.cells #[.string nL3, .slice A (cL3).length c] 26)).cell? ⟨w.heap.size, 0, none⟩ = some (.string nL3) := cell_keep (by simp [go_sem, h0]) (ext_alloc1 _ _)
    have u1 : (((w1.setCell ⟨w.heap.size, 0, none⟩ (.string nL3)).setCell ⟨w.heap.size, 1, none⟩ (.slice A (cL3).length c)).alloc (.cells #[.string nL3, .slice A (cL3).length c] 26)).cell? ⟨w.heap.size, 1, none⟩ = some (.slice A (cL3).length c) := cell_keep (by simp [go_sem, h1]) (ext_alloc1 _ _)
    refine bodyPost_ret (v := .tuple #[.agg #[.string nL3, .slice A (cL3).length c], .int .i64 0]) (by simp [results, Tryd.results10, go_sem, u0, u1]) rfl ⟨A, c, by rw [HF.out.1, HF.out.2.1, HF.out.2.2], ?_, ?_⟩
    · rw [HF.out.2.1]
      exact (((HO.out.put (Nat.lt_succ_self _) 0 _).put (Nat.lt_succ_self _) 1 _).ext (ext_alloc1 _ _)).mono (Nat.le_succ _)
    · exact ext_alloc (ext_set (ext_set HB.out (Nat.le_refl _) _) (Nat.le_refl _) _) _
  have hst := str_ne hs
  have hst2 := ne_list hs
  have hst3 := str_ne (Ne.symm hs)
  have hst4 := ne_list (Ne.symm hs)
  go_wp2_with fail
  clear hst hst2 hst3 hst4 HO
  replace HE := Lib.hid (HE.out.ext (ext_alloc1 w1 (.cells #[.string nL3, .slice A (cL3).length c] 26)))
  generalize w1.alloc (.cells #[.string nL3, .slice A (cL3).length c] 26) = wx3 at *
  have HN3 := Lib.hid hs
  clear hs
  rw [rounds_succ]
  have HL := Lib.hid (fun w h => impl_ReadL tL4 nL4 cL4 lib4 w h)
  have HSW := Lib.hid (HS.out _ HE.out.b)
  have hix := fun w => run_idx5 (.string tL0) (.string tL1) (.string tL2) (.string tL3) (.string tL4) (.string tL4) 4 w (by simp)
  go_wp2_with fail
  refine (show Calls _ _ _ _ _ from HL.out _ HSW.out).mono ?_
  rintro e w1 ⟨A, c, rfl, hO, hb⟩
  have HO := Lib.hid (hO.mono (show w.heap.size + 1 ≤ _ from HE.out.lt))
  replace HE := Lib.hid (HE.out.ext hb)
  clear hb hO HL HSW hix
  by_cases hs : s = nL4
  · have HF : Hid (bnN nL4 = nL4 ∧ bnC nL4 = cL4 ∧ bnR nL4 = 0) := Lib.hid (by decide +kernel)
    subst hs
    have h0 := HE.out.h0
    have h1 := HE.out.h1
    have fz := HE.out.fz
    have hlt := HE.out.lt
    have HB := Lib.hid HE.out.b
    have HQ := Lib.hid HE.out.ge
    clear HE
    go_wp2_with fail
    have u0 : (((w1.setCell ⟨w.heap.size, 0, none⟩ (.string nL4)).setCell ⟨w.heap.size, 1, none⟩ (.slice A (cL4).length c)).alloc (.cells #[.string nL4, .slice A (cL4).length c] 26)).cell? ⟨w.heap.size, 0, none⟩ = some (.string nL4) := cell_keep (by simp [go_sem, h0]) (ext_alloc1 _ _)
    have u1 : (((w1.setCell ⟨w.heap.size, 0, none⟩ (.string nL4)).setCell ⟨w.heap.size, 1, none⟩ (.slice A (cL4).length c)).alloc (.cells #[.string nL4, .slice A (cL4).length c] 26)).cell? ⟨w.heap.size, 1, none⟩ = some (.slice A (cL4).length c) := cell_keep (by simp [go_sem, h1]) (ext_alloc1 _ _)
    refine bodyPost_ret (v := .tuple #[.agg #[.string nL4, .slice A (cL4).length c], .int .i64 0]) (by simp [results, Tryd.results10, go_sem, u0, u1]) rfl ⟨A, c, by rw [HF.out.1, HF.out.2.1, HF.out.2.2], ?_, ?_⟩
    · rw [HF.out.2.1]
      exact (((HO.out.put (Nat.lt_succ_self _) 0 _).put (Nat.lt_succ_self _) 1 _).ext (ext_alloc1 _ _)).mono (Nat.le_succ _)
    · exact ext_alloc (ext_set (ext_set HB.out (Nat.le_refl _) _) (Nat.le_refl _) _) _
  have hst := str_ne hs
  have hst2 := ne_list hs
  have hst3 := str_ne (Ne.symm hs)
  have hst4 := ne_list (Ne.symm hs)
  go_wp2_with fail
  clear hst hst2 hst3 hst4 HO
  replace HE := Lib.hid (HE.out.ext (ext_alloc1 w1 (.cells #[.string nL4, .slice A (cL4).length c] 26)))
  generalize w1.alloc (.cells #[.string nL4, .slice A (cL4).length c] 26) = wx4 at *
  have HN4 := Lib.hid hs
  clear hs
  rw [rounds_succ]
  have HF : Hid (bnN s = ⟨#[]⟩ ∧ bnC s = [] ∧ bnR s = 3) := Lib.hid (by unfold bnN bnC bnR bnF; rw [if_neg HN0.out, if_neg HN1.out, if_neg HN2.out, if_neg HN3.out, if_neg HN4.out]; exact ⟨rfl, rfl, rfl⟩)
  have h0 := HE.out.h0
  have h1 := HE.out.h1
  have fz := HE.out.fz
  have hlt := HE.out.lt
  have HB := Lib.hid HE.out.b
  clear HE
  go_wp2_with fail
  refine bodyPost_ret (v := .tuple #[.agg #[.string ⟨#[]⟩, .slice none 0 0], .int .i64 3]) (by simp [results, Tryd.results10, go_sem, h0, h1]) rfl ⟨none, 0, by rw [HF.out.1, HF.out.2.1, HF.out.2.2]; rfl, ?_, ?_⟩
  · rw [HF.out.2.1]
    exact ⟨rfl, .inl ⟨rfl, rfl⟩⟩
  · exact ext_set (ext_set HB.out (Nat.le_refl _) _) (Nat.le_refl _) _
end Go.Proofs.YtpoalklakhegoaaDoor
