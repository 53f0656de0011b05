/-
  Parts of the proof: Bnd4, DoorN, Bnd6, NewD, CnP.
-/
import Derived.Test.YtfgopboddkhckaaGreatDoorKa5
import Derived.Test.YtfgopboddkhckaaGreatDoorKa7
import Derived.Test.YtfgopboddkhckaaGreatDoorKa8
import Derived.Test.YtfgopboddkhckaaGreatDoorKa12
import Derived.Test.YtfgopboddkhckaaGreatDoorKa13
import Derived.LoopN
import Derived.ChangeBears2
import Derived.ChangeVars
import Derived.OpenShut
namespace Go.Proofs.YtfgopboddkhckaaGreatDoor
open Go.ChangeShapes Go.WideShapes Go.ChangeAt Go.RowKit Go.Sort Go.Joins
set_option linter.unusedVariables false
set_option maxRecDepth 100000

def tL0 : ByteArray := ⟨#[115, 116, 114, 101, 116, 99, 104, 101, 114, 32, 83, 32, 66, 43, 83]⟩
def nL0 : ByteArray := ⟨#[115, 116, 114, 101, 116, 99, 104, 101, 114]⟩
def cL0 : List CO := [⟨⟨#[]⟩, ⟨#[83]⟩⟩, ⟨⟨#[66]⟩, ⟨#[83]⟩⟩]
theorem lib0 : gI tL0 = true ∧ nI tL0 = nL0 ∧ cI tL0 = cL0 := by decide +kernel
def tL1 : ByteArray := ⟨#[104, 101, 97, 100, 101, 114, 32, 72, 32, 67, 43, 72]⟩
def nL1 : ByteArray := ⟨#[104, 101, 97, 100, 101, 114]⟩
def cL1 : List CO := [⟨⟨#[]⟩, ⟨#[72]⟩⟩, ⟨⟨#[67]⟩, ⟨#[72]⟩⟩]
theorem lib1 : gI tL1 = true ∧ nI tL1 = nL1 ∧ cI tL1 = cL1 := by decide +kernel
def tL2 : ByteArray := ⟨#[101, 110, 103, 108, 105, 115, 104, 32, 83, 32, 72, 67, 43, 72]⟩
def nL2 : ByteArray := ⟨#[101, 110, 103, 108, 105, 115, 104]⟩
def cL2 : List CO := [⟨⟨#[]⟩, ⟨#[83]⟩⟩, ⟨⟨#[72, 67]⟩, ⟨#[72]⟩⟩]
theorem lib2 : gI tL2 = true ∧ nI tL2 = nL2 ∧ cI tL2 = cL2 := by decide +kernel
def tL3 : ByteArray := ⟨#[102, 108, 101, 109, 105, 115, 104, 32, 83, 72, 32, 72, 67, 43, 83, 72]⟩
def nL3 : ByteArray := ⟨#[102, 108, 101, 109, 105, 115, 104]⟩
def cL3 : List CO := [⟨⟨#[]⟩, ⟨#[83, 72]⟩⟩, ⟨⟨#[72, 67]⟩, ⟨#[83, 72]⟩⟩]
theorem lib3 : gI tL3 = true ∧ nI tL3 = nL3 ∧ cI tL3 = cL3 := by decide +kernel
def tL4 : ByteArray := ⟨#[103, 97, 114, 100, 101, 110, 32, 83, 32, 66, 43, 83, 32, 83, 32, 72, 67, 43, 72]⟩
def nL4 : ByteArray := ⟨#[103, 97, 114, 100, 101, 110]⟩
def cL4 : List CO := [⟨⟨#[]⟩, ⟨#[83]⟩⟩, ⟨⟨#[66]⟩, ⟨#[83]⟩⟩, ⟨⟨#[]⟩, ⟨#[83]⟩⟩, ⟨⟨#[72, 67]⟩, ⟨#[72]⟩⟩]
theorem lib4 : gI tL4 = true ∧ nI tL4 = nL4 ∧ cI tL4 = cL4 := by decide +kernel
/-- The texts of the library lie as the program lays them. -/
def LibT (w : World) : Prop := w.var? Tryz.prog "loop.example/g01042/impl.libraryTexts" = some #[.string tL0, .string tL1, .string tL2, .string tL3, .string tL4]
theorem LibT.ext {w w' : World} (h : LibT w) (hb : Below w.heap.size w w') : LibT w' := var_ext hb h
/-- The bond of the library with a name. -/
def bnF (s : ByteArray) : Option (ByteArray × List CO) := if s = nL0 then some (nL0, cL0) else if s = nL1 then some (nL1, cL1) else if s = nL2 then some (nL2, cL2) else if s = nL3 then some (nL3, cL3) else if s = nL4 then some (nL4, cL4) else none
def bnN (s : ByteArray) : ByteArray := match bnF s with | some p => p.1 | none => ⟨#[]⟩
def bnC (s : ByteArray) : List CO := match bnF s with | some p => p.2 | none => []
def bnR (s : ByteArray) : Int := match bnF s with | some p => 0 | none => 3
theorem impl_ReadL (t n : ByteArray) (cs : List CO) (h : gI t = true ∧ nI t = n ∧ cI t = cs) (w : World) (hsh : w.ShapedOpen Tryz.prog) :
    Calls Tryz.prog 108 #[.string t] w fun e w' => ∃ A c, e = .returned (.tuple #[.agg #[.string n, .slice A cs.length c], .bool true]) ∧ OCOS w' w.heap.size (.slice A cs.length c) cs ∧ Below w.heap.size w w' := by
  obtain ⟨h1, rfl, rfl⟩ := h
  exact impl_ReadBond t h1 w hsh
/-- The five cells of a result still empty. -/
structure RE (w W : World) (q : Nat) : Prop where
  b : Below w.heap.size w W
  ge : w.heap.size ≤ q
  lt : q < W.heap.size
  h0 : W.cell? ⟨q, 0, none⟩ = some (.string ⟨#[]⟩)
  h1 : W.cell? ⟨q, 1, none⟩ = some (.slice none 0 0)
  fz : ∀ j, W.frozen? ⟨q, j, none⟩ = false
theorem RE.ext {w W W' : World} {q : Nat} (h : RE w W q) (hb : Below W.heap.size W W') : RE w W' q :=
  ⟨ext_trans h.b hb, h.ge, Nat.lt_of_lt_of_le h.lt hb.size, cell_keep h.h0 hb, cell_keep h.h1 hb, fun j => by rw [(bcell hb).2 q j h.lt]; exact h.fz j⟩
theorem run_idx5 (v0 v1 v2 v3 v4 v : Value) (i : Int) (w : World) (h : (i = 0 ∧ v = v0) ∨ (i = 1 ∧ v = v1) ∨ (i = 2 ∧ v = v2) ∨ (i = 3 ∧ v = v3) ∨ (i = 4 ∧ v = v4)) : (Instr.index 144 (.agg #[v0, v1, v2, v3, v4]) (.int .i64 i)).run Tryz.prog w = .ok v w := by
  have hu := Tryz.underlying144
  rcases h with ⟨rfl, rfl⟩ | ⟨rfl, rfl⟩ | ⟨rfl, rfl⟩ | ⟨rfl, rfl⟩ | ⟨rfl, rfl⟩ <;> simp [Instr.index, run_underlying hu, asIntOf, go_sem]
theorem ne_list {s t : ByteArray} (h : s ≠ t) : ¬ s.toList = t.toList := fun e => by
  have h2 := str_ne h
  rw [e] at h2
  simp at h2
set_option maxHeartbeats 3200000 in
theorem impl_BondNamed (s : ByteArray) (w : World) (hsh : w.ShapedOpen Tryz.prog) (hT : LibT w) :
    Calls Tryz.prog 53 #[.string s] w fun e w' => ∃ A c, e = .returned (.tuple #[.agg #[.string (bnN s), .slice A (bnC s).length c], .int .i64 (bnR s)]) ∧ OCOS w' w.heap.size (.slice A (bnC s).length c) (bnC s) ∧ Below w.heap.size w w' := by
  have HS : Hid (∀ W', Below w.heap.size w W' → W'.ShapedOpen Tryz.prog) := Lib.hid fun W' h => shaped_ext hsh h
  have hT2 := hT.ext (ext_alloc1 w (.cells #[.string ⟨#[]⟩, .slice none 0 0] 36))
  have g0 := var?_cell (g := 1) (by kernel_rfl) hT2 0
  have g1 := var?_cell (g := 1) (by kernel_rfl) hT2 1
  have g2 := var?_cell (g := 1) (by kernel_rfl) hT2 2
  have g3 := var?_cell (g := 1) (by kernel_rfl) hT2 3
  have g4 := var?_cell (g := 1) (by kernel_rfl) hT2 4
  simp only [List.getElem?_toArray, List.getElem?_cons_zero, List.getElem?_cons_succ] at g0 g1 g2 g3 g4
  clear hT hT2 hsh
  have HE : Hid (RE w (w.alloc (.cells #[.string ⟨#[]⟩, .slice none 0 0] 36)) w.heap.size) := Lib.hid ⟨ext_alloc1 _ _, Nat.le_refl _, by simp, by simp [go_sem], by simp [go_sem], fun j => by simp [go_sem]⟩
  go_enter Tryz.func53, Tryz.ntmps53
  go_wp2_with fail
  clear g0 g1 g2 g3 g4
  refine wp_loop_rounds 6 ?_
  rw [rounds_succ]
  have HL := Lib.hid (fun w h => impl_ReadL tL0 nL0 cL0 lib0 w h)
  have HSW := Lib.hid (HS.out _ HE.out.b)
  have hix := fun w => run_idx5 (.string tL0) (.string tL1) (.string tL2) (.string tL3) (.string tL4) (.string tL0) 0 w (by simp)
  go_wp2_with fail
  refine (show Calls _ _ _ _ _ from HL.out _ HSW.out).mono ?_
  rintro e w1 ⟨A, c, rfl, hO, hb⟩
  have HO := Lib.hid (hO.mono (show w.heap.size + 1 ≤ _ from HE.out.lt))
  replace HE := Lib.hid (HE.out.ext hb)
  clear hb hO HL HSW hix
  by_cases hs : s = nL0
  · have HF : Hid (bnN nL0 = nL0 ∧ bnC nL0 = cL0 ∧ bnR nL0 = 0) := Lib.hid (by decide +kernel)
    subst hs
    have h0 := HE.out.h0
    have h1 := HE.out.h1
    have fz := HE.out.fz
    have hlt := HE.out.lt
    have HB := Lib.hid HE.out.b
    have HQ := Lib.hid HE.out.ge
    clear HE
    go_wp2_with fail
    have u0 : (((w1.setCell ⟨w.heap.size, 0, none⟩ (.string nL0)).setCell ⟨w.heap.size, 1, none⟩ (.slice A (cL0).length c)).alloc (.cells #[.string nL0, .slice A (cL0).length c] 36)).cell? ⟨w.heap.size, 0, none⟩ = some (.string nL0) := cell_keep (by simp [go_sem, h0]) (ext_alloc1 _ _)
    have u1 : (((w1.setCell ⟨w.heap.size, 0, none⟩ (.string nL0)).setCell ⟨w.heap.size, 1, none⟩ (.slice A (cL0).length c)).alloc (.cells #[.string nL0, .slice A (cL0).length c] 36)).cell? ⟨w.heap.size, 1, none⟩ = some (.slice A (cL0).length c) := cell_keep (by simp [go_sem, h1]) (ext_alloc1 _ _)
    refine bodyPost_ret (v := .tuple #[.agg #[.string nL0, .slice A (cL0).length c], .int .i64 0]) (by simp [results, Tryz.results53, go_sem, u0, u1]) rfl ⟨A, c, by rw [HF.out.1, HF.out.2.1, HF.out.2.2], ?_, ?_⟩
    · rw [HF.out.2.1]
      exact (((HO.out.put (Nat.lt_succ_self _) 0 _).put (Nat.lt_succ_self _) 1 _).ext (ext_alloc1 _ _)).mono (Nat.le_succ _)
    · exact ext_alloc (ext_set (ext_set HB.out (Nat.le_refl _) _) (Nat.le_refl _) _) _
  have hst := str_ne hs
  have hst2 := ne_list hs
  have hst3 := str_ne (Ne.symm hs)
  have hst4 := ne_list (Ne.symm hs)
  go_wp2_with fail
  clear hst hst2 hst3 hst4 HO
  replace HE := Lib.hid (HE.out.ext (ext_alloc1 w1 (.cells #[.string nL0, .slice A (cL0).length c] 36)))
  generalize w1.alloc (.cells #[.string nL0, .slice A (cL0).length c] 36) = wx0 at *
  have HN0 := Lib.hid hs
  clear hs
  rw [rounds_succ]
  have HL := Lib.hid (fun w h => impl_ReadL tL1 nL1 cL1 lib1 w h)
  have HSW := Lib.hid (HS.out _ HE.out.b)
  have hix := fun w => run_idx5 (.string tL0) (.string tL1) (.string tL2) (.string tL3) (.string tL4) (.string tL1) 1 w (by simp)
  go_wp2_with fail
  refine (show Calls _ _ _ _ _ from HL.out _ HSW.out).mono ?_
  rintro e w1 ⟨A, c, rfl, hO, hb⟩
  have HO := Lib.hid (hO.mono (show w.heap.size + 1 ≤ _ from HE.out.lt))
  replace HE := Lib.hid (HE.out.ext hb)
  clear hb hO HL HSW hix
  by_cases hs : s = nL1
  · have HF : Hid (bnN nL1 = nL1 ∧ bnC nL1 = cL1 ∧ bnR nL1 = 0) := Lib.hid (by decide +kernel)
    subst hs
    have h0 := HE.out.h0
    have h1 := HE.out.h1
    have fz := HE.out.fz
    have hlt := HE.out.lt
    have HB := Lib.hid HE.out.b
    have HQ := Lib.hid HE.out.ge
    clear HE
    go_wp2_with fail
    have u0 : (((w1.setCell ⟨w.heap.size, 0, none⟩ (.string nL1)).setCell ⟨w.heap.size, 1, none⟩ (.slice A (cL1).length c)).alloc (.cells #[.string nL1, .slice A (cL1).length c] 36)).cell? ⟨w.heap.size, 0, none⟩ = some (.string nL1) := cell_keep (by simp [go_sem, h0]) (ext_alloc1 _ _)
    have u1 : (((w1.setCell ⟨w.heap.size, 0, none⟩ (.string nL1)).setCell ⟨w.heap.size, 1, none⟩ (.slice A (cL1).length c)).alloc (.cells #[.string nL1, .slice A (cL1).length c] 36)).cell? ⟨w.heap.size, 1, none⟩ = some (.slice A (cL1).length c) := cell_keep (by simp [go_sem, h1]) (ext_alloc1 _ _)
    refine bodyPost_ret (v := .tuple #[.agg #[.string nL1, .slice A (cL1).length c], .int .i64 0]) (by simp [results, Tryz.results53, go_sem, u0, u1]) rfl ⟨A, c, by rw [HF.out.1, HF.out.2.1, HF.out.2.2], ?_, ?_⟩
    · rw [HF.out.2.1]
      exact (((HO.out.put (Nat.lt_succ_self _) 0 _).put (Nat.lt_succ_self _) 1 _).ext (ext_alloc1 _ _)).mono (Nat.le_succ _)
    · exact ext_alloc (ext_set (ext_set HB.out (Nat.le_refl _) _) (Nat.le_refl _) _) _
  have hst := str_ne hs
  have hst2 := ne_list hs
  have hst3 := str_ne (Ne.symm hs)
  have hst4 := ne_list (Ne.symm hs)
  go_wp2_with fail
  clear hst hst2 hst3 hst4 HO
  replace HE := Lib.hid (HE.out.ext (ext_alloc1 w1 (.cells #[.string nL1, .slice A (cL1).length c] 36)))
  generalize w1.alloc (.cells #[.string nL1, .slice A (cL1).length c] 36) = wx1 at *
  have HN1 := Lib.hid hs
  clear hs
  rw [rounds_succ]
  have HL := Lib.hid (fun w h => impl_ReadL tL2 nL2 cL2 lib2 w h)
  have HSW := Lib.hid (HS.out _ HE.out.b)
  have hix := fun w => run_idx5 (.string tL0) (.string tL1) (.string tL2) (.string tL3) (.string tL4) (.string tL2) 2 w (by simp)
  go_wp2_with fail
  refine (show Calls _ _ _ _ _ from HL.out _ HSW.out).mono ?_
  rintro e w1 ⟨A, c, rfl, hO, hb⟩
  have HO := Lib.hid (hO.mono (show w.heap.size + 1 ≤ _ from HE.out.lt))
  replace HE := Lib.hid (HE.out.ext hb)
  clear hb hO HL HSW hix
  by_cases hs : s = nL2
  · have HF : Hid (bnN nL2 = nL2 ∧ bnC nL2 = cL2 ∧ bnR nL2 = 0) := Lib.hid (by decide +kernel)
    subst hs
    have h0 := HE.out.h0
    have h1 := HE.out.h1
    have fz := HE.out.fz
    have hlt := HE.out.lt
    have HB := Lib.hid HE.out.b
    have HQ := Lib.hid HE.out.ge
    clear HE
    go_wp2_with fail
    have u0 : (((w1.setCell ⟨w.heap.size, 0, none⟩ (.string nL2)).setCell ⟨w.heap.size, 1, none⟩ (.slice A (cL2).length c)).alloc (.cells #[.string nL2, .slice A (cL2).length c] 36)).cell? ⟨w.heap.size, 0, none⟩ = some (.string nL2) := cell_keep (by simp [go_sem, h0]) (ext_alloc1 _ _)
    have u1 : (((w1.setCell ⟨w.heap.size, 0, none⟩ (.string nL2)).setCell ⟨w.heap.size, 1, none⟩ (.slice A (cL2).length c)).alloc (.cells #[.string nL2, .slice A (cL2).length c] 36)).cell? ⟨w.heap.size, 1, none⟩ = some (.slice A (cL2).length c) := cell_keep (by simp [go_sem, h1]) (ext_alloc1 _ _)
    refine bodyPost_ret (v := .tuple #[.agg #[.string nL2, .slice A (cL2).length c], .int .i64 0]) (by simp [results, Tryz.results53, go_sem, u0, u1]) rfl ⟨A, c, by rw [HF.out.1, HF.out.2.1, HF.out.2.2], ?_, ?_⟩
    · rw [HF.out.2.1]
      exact (((HO.out.put (Nat.lt_succ_self _) 0 _).put (Nat.lt_succ_self _) 1 _).ext (ext_alloc1 _ _)).mono (Nat.le_succ _)
    · exact ext_alloc (ext_set (ext_set HB.out (Nat.le_refl _) _) (Nat.le_refl _) _) _
  have hst := str_ne hs
  have hst2 := ne_list hs
  have hst3 := str_ne (Ne.symm hs)
  have hst4 := ne_list (Ne.symm hs)
  go_wp2_with fail
  clear hst hst2 hst3 hst4 HO
  replace HE := Lib.hid (HE.out.ext (ext_alloc1 w1 (.cells #[.string nL2, .slice A (cL2).length c] 36)))
  generalize w1.alloc (.cells #[.string nL2, .slice A (cL2).length c] 36) = wx2 at *
  have HN2 := Lib.hid hs
  clear hs
  rw [rounds_succ]
  have HL := Lib.hid (fun w h => impl_ReadL tL3 nL3 cL3 lib3 w h)
  have HSW := Lib.hid (HS.out _ HE.out.b)
  have hix := fun w => run_idx5 (.string tL0) (.string tL1) (.string tL2) (.string tL3) (.string tL4) (.string tL3) 3 w (by simp)
  go_wp2_with fail
  refine (show Calls _ _ _ _ _ from HL.out _ HSW.out).mono ?_
  rintro e w1 ⟨A, c, rfl, hO, hb⟩
  have HO := Lib.hid (hO.mono (show w.heap.size + 1 ≤ _ from HE.out.lt))
  replace HE := Lib.hid (HE.out.ext hb)
  clear hb hO HL HSW hix
  by_cases hs : s = nL3
  · have HF : Hid (bnN nL3 = nL3 ∧ bnC nL3 = cL3 ∧ bnR nL3 = 0) := Lib.hid (by decide +kernel)
    subst hs
    have h0 := HE.out.h0
    have h1 := HE.out.h1
    have fz := HE.out.fz
    have hlt := HE.out.lt
    have HB := Lib.hid HE.out.b
    have HQ := Lib.hid HE.out.ge
    clear HE
    go_wp2_with fail
    have u0 : (((w1.setCell ⟨w.heap.size, 0, none⟩ (.string nL3)).setCell ⟨w.heap.size, 1, none⟩ (.slice A (cL3).length c)).alloc (.cells #[.string nL3, .slice A (cL3).length c] 36)).cell? ⟨w.heap.size, 0, none⟩ = some (.string nL3) := cell_keep (by simp [go_sem, h0]) (ext_alloc1 _ _)
    have u1 : (((w1.setCell ⟨w.heap.size, 0, none⟩ (.string nL3)).setCell ⟨w.heap.size, 1, none⟩ (.slice A (cL3).length c)).alloc (.cells #[.string nL3, .slice A (cL3).length c] 36)).cell? ⟨w.heap.size, 1, none⟩ = some (.slice A (cL3).length c) := cell_keep (by simp [go_sem, h1]) (ext_alloc1 _ _)
    refine bodyPost_ret (v := .tuple #[.agg #[.string nL3, .slice A (cL3).length c], .int .i64 0]) (by simp [results, Tryz.results53, go_sem, u0, u1]) rfl ⟨A, c, by rw [HF.out.1, HF.out.2.1, HF.out.2.2], ?_, ?_⟩
    · rw [HF.out.2.1]
      exact (((HO.out.put (Nat.lt_succ_self _) 0 _).put (Nat.lt_succ_self _) 1 _).ext (ext_alloc1 _ _)).mono (Nat.le_succ _)
    · exact ext_alloc (ext_set (ext_set HB.out (Nat.le_refl _) _) (Nat.le_refl _) _) _
  have hst := str_ne hs
  have hst2 := ne_list hs
  have hst3 := str_ne (Ne.symm hs)
  have hst4 := ne_list (Ne.symm hs)
  go_wp2_with fail
  clear hst hst2 hst3 hst4 HO
  replace HE := Lib.hid (HE.out.ext (ext_alloc1 w1 (.cells #[.string nL3, .slice A (cL3).length c] 36)))
  generalize w1.alloc (.cells #[.string nL3, .slice A (cL3).length c] 36) = wx3 at *
  have HN3 := Lib.hid hs
  clear hs
  rw [rounds_succ]
  have HL := Lib.hid (fun w h => impl_ReadL tL4 nL4 cL4 lib4 w h)
  have HSW := Lib.hid (HS.out _ HE.out.b)
  have hix := fun w => run_idx5 (.string tL0) (.string tL1) (.string tL2) (.string tL3) (.string tL4) (.string tL4) 4 w (by simp)
  go_wp2_with fail
  refine (show Calls _ _ _ _ _ from HL.out _ HSW.out).mono ?_
  rintro e w1 ⟨A, c, rfl, hO, hb⟩
  have HO := Lib.hid (hO.mono (show w.heap.size + 1 ≤ _ from HE.out.lt))
  replace HE := Lib.hid (HE.out.ext hb)
  clear hb hO HL HSW hix
  by_cases hs : s = nL4
  · have HF : Hid (bnN nL4 = nL4 ∧ bnC nL4 = cL4 ∧ bnR nL4 = 0) := Lib.hid (by decide +kernel)
    subst hs
    have h0 := HE.out.h0
    have h1 := HE.out.h1
    have fz := HE.out.fz
    have hlt := HE.out.lt
    have HB := Lib.hid HE.out.b
    have HQ := Lib.hid HE.out.ge
    clear HE
    go_wp2_with fail
    have u0 : (((w1.setCell ⟨w.heap.size, 0, none⟩ (.string nL4)).setCell ⟨w.heap.size, 1, none⟩ (.slice A (cL4).length c)).alloc (.cells #[.string nL4, .slice A (cL4).length c] 36)).cell? ⟨w.heap.size, 0, none⟩ = some (.string nL4) := cell_keep (by simp [go_sem, h0]) (ext_alloc1 _ _)
    have u1 : (((w1.setCell ⟨w.heap.size, 0, none⟩ (.string nL4)).setCell ⟨w.heap.size, 1, none⟩ (.slice A (cL4).length c)).alloc (.cells #[.string nL4, .slice A (cL4).length c] 36)).cell? ⟨w.heap.size, 1, none⟩ = some (.slice A (cL4).length c) := cell_keep (by simp [go_sem, h1]) (ext_alloc1 _ _)
    refine bodyPost_ret (v := .tuple #[.agg #[.string nL4, .slice A (cL4).length c], .int .i64 0]) (by simp [results, Tryz.results53, go_sem, u0, u1]) rfl ⟨A, c, by rw [HF.out.1, HF.out.2.1, HF.out.2.2], ?_, ?_⟩
    · rw [HF.out.2.1]
      exact (((HO.out.put (Nat.lt_succ_self _) 0 _).put (Nat.lt_succ_self _) 1 _).ext (ext_alloc1 _ _)).mono (Nat.le_succ _)
    · exact ext_alloc (ext_set (ext_set HB.out (Nat.le_refl _) _) (Nat.le_refl _) _) _
  have hst := str_ne hs
  have hst2 := ne_list hs
  have hst3 := str_ne (Ne.symm hs)
  have hst4 := ne_list (Ne.symm hs)
  go_wp2_with fail
  clear hst hst2 hst3 hst4 HO
  replace HE := Lib.hid (HE.out.ext (ext_alloc1 w1 (.cells #[.string nL4, .slice A (cL4).length c] 36)))
  generalize w1.alloc (.cells #[.string nL4, .slice A (cL4).length c] 36) = wx4 at *
  have HN4 := Lib.hid hs
  clear hs
  rw [rounds_succ]
  have HF : Hid (bnN s = ⟨#[]⟩ ∧ bnC s = [] ∧ bnR s = 3) := Lib.hid (by unfold bnN bnC bnR bnF; rw [if_neg HN0.out, if_neg HN1.out, if_neg HN2.out, if_neg HN3.out, if_neg HN4.out]; exact ⟨rfl, rfl, rfl⟩)
  have h0 := HE.out.h0
  have h1 := HE.out.h1
  have fz := HE.out.fz
  have hlt := HE.out.lt
  have HB := Lib.hid HE.out.b
  clear HE
  go_wp2_with fail
  refine bodyPost_ret (v := .tuple #[.agg #[.string ⟨#[]⟩, .slice none 0 0], .int .i64 3]) (by simp [results, Tryz.results53, go_sem, h0, h1]) rfl ⟨none, 0, by rw [HF.out.1, HF.out.2.1, HF.out.2.2]; rfl, ?_, ?_⟩
  · rw [HF.out.2.1]
    exact ⟨rfl, .inl ⟨rfl, rfl⟩⟩
  · exact ext_set (ext_set HB.out (Nat.le_refl _) _) (Nat.le_refl _) _
end Go.Proofs.YtfgopboddkhckaaGreatDoor
namespace Go.Proofs.YtfgopboddkhckaaGreatDoor
open Go.ChangeShapes Go.WideShapes Go.ChangeAt Go.RowKit Go.Sort Go.Joins
set_option maxRecDepth 100000

theorem g_lib : (Tryz.prog.globals[1]?).map (·.type) = some 144 := by kernel_rfl
theorem n_lib : Tryz.prog.globalNamed "loop.example/g01042/impl.libraryTexts" = some 1 := by kernel_rfl
theorem lib_of {laid : List (String × DataW Unit)} {W : World} (h : laidMet Tryz.prog laid W) (hm : ("loop.example/g01042/impl.libraryTexts", Rows.laid_loop_example_g01042_impl_libraryTexts) ∈ laid) : LibT W := by
  obtain ⟨ps, hv, _⟩ := h
  obtain ⟨g, t, cs, fuel, p, h1, h2, h3, h4⟩ := var_reads hv _ _ hm
  obtain rfl := Option.some.inj (n_lib.symm.trans h1)
  obtain rfl := Option.some.inj (g_lib.symm.trans h2)
  obtain ⟨xs, m, _, hx, hl, hxl, hf⟩ := DataW.trod_array Tryz.underlying144 h4
  have c5 : Tryz.prog.cellsOf 144 = 5 := by kernel_rfl
  have c1 : Tryz.prog.cellsOf 9 = 1 := by kernel_rfl
  rw [c5] at hl
  rw [c1] at hf
  have hx1 := congrArg Prod.fst hx
  have e : (Rows.laid_loop_example_g01042_impl_libraryTexts : DataW Unit) = .agg [.lit (.string tL0.data.toList), .lit (.string tL1.data.toList), .lit (.string tL2.data.toList), .lit (.string tL3.data.toList), .lit (.string tL4.data.toList)] := by rfl
  rw [e] at hx1
  injection hx1 with hx1
  obtain ⟨ls⟩ := cs
  match ls, hl, xs, hxl with
  | [d0, d1, d2, d3, d4], _, [x0, x1, x2, x3, x4], _ =>
    simp only [List.map_cons, List.map_nil, List.cons.injEq, and_true] at hx1
    obtain ⟨q0, q1, q2, q3, q4⟩ := hx1
    have k : ∀ (i : Nat) (d : Value) (x : DataW Unit × List MemPlace) (t : ByteArray), i < 5 → ([d0, d1, d2, d3, d4].drop (i * 1)).take 1 = [d] → [x0, x1, x2, x3, x4][i]? = some x → DataW.lit (.string t.data.toList) = x.1 → d = .string t := by
      intro i d x t hi hd hx hq
      have h := hf i hi
      rw [show (Array.mk [d0, d1, d2, d3, d4]).toList = [d0, d1, d2, d3, d4] from rfl, hd, hx] at h
      obtain ⟨s, hs, hx2, _⟩ := DataW.trod_string Tryz.underlying9 h
      injection hs with hs
      rw [hx2] at hq
      injection hq with hq
      injection hq with hq
      rw [hs, ba_ext hq]
    obtain rfl := k 0 d0 x0 tL0 (by omega) rfl rfl q0
    obtain rfl := k 1 d1 x1 tL1 (by omega) rfl rfl q1
    obtain rfl := k 2 d2 x2 tL2 (by omega) rfl rfl q2
    obtain rfl := k 3 d3 x3 tL3 (by omega) rfl rfl q3
    obtain rfl := k 4 d4 x4 tL4 (by omega) rfl rfl q4
    exact h3
/-- What NewDesk asks of the world. -/
structure EnvN (w : World) : Prop where
  shp : w.ShapedOpen Tryz.prog
  lib : LibT w
theorem EnvN.ext {w w' : World} (h : EnvN w) (hb : Below w.heap.size w w') : EnvN w' := ⟨shaped_ext h.shp hb, h.lib.ext hb⟩
end Go.Proofs.YtfgopboddkhckaaGreatDoor
namespace Go.Proofs.YtfgopboddkhckaaGreatDoor
open Go.ChangeShapes Go.WideShapes Go.ChangeAt Go.RowKit Go.Sort Go.Joins
set_option linter.unusedVariables false
set_option maxRecDepth 100000

/-- The library's five texts in a row. -/
structure LB (W : World) (L : Nat) : Prop where
  c0 : W.cell? ⟨L, 0, none⟩ = some (.string tL0)
  c1 : W.cell? ⟨L, 1, none⟩ = some (.string tL1)
  c2 : W.cell? ⟨L, 2, none⟩ = some (.string tL2)
  c3 : W.cell? ⟨L, 3, none⟩ = some (.string tL3)
  c4 : W.cell? ⟨L, 4, none⟩ = some (.string tL4)
theorem LB.ext {W W' : World} {L : Nat} (h : LB W L) (hb : Below W.heap.size W W') : LB W' L := ⟨cell_keep h.c0 hb, cell_keep h.c1 hb, cell_keep h.c2 hb, cell_keep h.c3 hb, cell_keep h.c4 hb⟩
end Go.Proofs.YtfgopboddkhckaaGreatDoor
namespace Go.Proofs.YtfgopboddkhckaaGreatDoor
open Go.ChangeShapes Go.WideShapes Go.ChangeAt Go.RowKit Go.Sort Go.Joins
set_option linter.unusedVariables false
set_option maxRecDepth 100000

def newD : DK := ⟨⟨215, 102, 65, 10⟩, nL0, cL0, [], ⟨#[]⟩⟩
theorem sm_newD : SmDK newD := by unfold SmDK; decide +kernel
set_option maxHeartbeats 1600000 in
theorem impl_NewDesk (w : World) (hE : EnvN w) :
    Calls Tryz.prog 20 #[] w fun e w' => ∃ v, e = .returned v ∧ ODK w' w.heap.size v newD ∧ SmDK newD ∧ Below w.heap.size w w' := by
  have HC : Hid (∀ w1, Below w.heap.size w w1 → Calls Tryz.prog 53 #[.string ⟨#[115, 116, 114, 101, 116, 99, 104, 101, 114]⟩] w1 fun e w' => ∃ A c, e = .returned (.tuple #[.agg #[.string nL0, .slice A cL0.length c], .int .i64 0]) ∧ OCOS w' w1.heap.size (.slice A cL0.length c) cL0 ∧ Below w1.heap.size w1 w') := Lib.hid (by
    intro w1 hb
    have h := impl_BondNamed ⟨#[115, 116, 114, 101, 116, 99, 104, 101, 114]⟩ w1 (hE.ext hb).shp (hE.ext hb).lib
    rw [show bnN ⟨#[115, 116, 114, 101, 116, 99, 104, 101, 114]⟩ = nL0 from by decide +kernel, show bnC ⟨#[115, 116, 114, 101, 116, 99, 104, 101, 114]⟩ = cL0 from by decide +kernel, show bnR ⟨#[115, 116, 114, 101, 116, 99, 104, 101, 114]⟩ = 0 from by decide +kernel] at h
    exact h)
  go_enter Tryz.func20, Tryz.ntmps20
  go_wp2_with fail
  refine (show Calls _ _ _ _ _ from HC.out _ (ext_alloc1 _ _)).mono ?_
  rintro e w1 ⟨A, c, rfl, hO, hb⟩
  have r0 := cell_keep (p := ⟨w.heap.size, 0, none⟩) (v := .int .i64 0) (by simp [go_sem]) hb
  have r1 := cell_keep (p := ⟨w.heap.size, 1, none⟩) (v := .int .i64 0) (by simp [go_sem]) hb
  have r2 := cell_keep (p := ⟨w.heap.size, 2, none⟩) (v := .int .i64 0) (by simp [go_sem]) hb
  have r3 := cell_keep (p := ⟨w.heap.size, 3, none⟩) (v := .int .i64 0) (by simp [go_sem]) hb
  have r4 := cell_keep (p := ⟨w.heap.size, 4, none⟩) (v := .string ⟨#[]⟩) (by simp [go_sem]) hb
  have r5 := cell_keep (p := ⟨w.heap.size, 5, none⟩) (v := .slice none 0 0) (by simp [go_sem]) hb
  have r6 := cell_keep (p := ⟨w.heap.size, 6, none⟩) (v := .slice none 0 0) (by simp [go_sem]) hb
  have r7 := cell_keep (p := ⟨w.heap.size, 7, none⟩) (v := .string ⟨#[]⟩) (by simp [go_sem]) hb
  have rz : ∀ j, w1.frozen? ⟨w.heap.size, j, none⟩ = false := fun j => by rw [(bcell hb).2 _ _ (by simp)]; simp [go_sem]
  have HB := Lib.hid (ext_trans (ext_alloc1 _ _) hb)
  have hlt : w.heap.size < w1.heap.size := block_lt_of_cell r0
  have HO := Lib.hid (hO.mono (show w.heap.size + 1 ≤ _ by simp))
  clear hb hO
  go_wp2_with fail
  obtain ⟨wc, hwc⟩ : ∃ x, ((((((((w1.setCell ⟨w.heap.size, 0, none⟩ (.int .i64 215)).setCell ⟨w.heap.size, 1, none⟩ (.int .i64 102)).setCell ⟨w.heap.size, 2, none⟩ (.int .i64 65)).setCell ⟨w.heap.size, 3, none⟩ (.int .i64 10)).setCell ⟨w.heap.size, 4, none⟩ (.string nL0)).setCell ⟨w.heap.size, 5, none⟩ (.slice A cL0.length c)).setCell ⟨w.heap.size, 6, none⟩ (.slice none 0 0)).setCell ⟨w.heap.size, 7, none⟩ (.string ⟨#[]⟩)) = x := ⟨_, rfl⟩
  have u0 : (wc.alloc (.cells #[.string nL0, .slice A cL0.length c] 36)).cell? ⟨w.heap.size, 0, none⟩ = some (.int .i64 215) := cell_keep (by rw [← hwc]; simp [go_sem, r0]) (ext_alloc1 _ _)
  have u1 : (wc.alloc (.cells #[.string nL0, .slice A cL0.length c] 36)).cell? ⟨w.heap.size, 1, none⟩ = some (.int .i64 102) := cell_keep (by rw [← hwc]; simp [go_sem, r1]) (ext_alloc1 _ _)
  have u2 : (wc.alloc (.cells #[.string nL0, .slice A cL0.length c] 36)).cell? ⟨w.heap.size, 2, none⟩ = some (.int .i64 65) := cell_keep (by rw [← hwc]; simp [go_sem, r2]) (ext_alloc1 _ _)
  have u3 : (wc.alloc (.cells #[.string nL0, .slice A cL0.length c] 36)).cell? ⟨w.heap.size, 3, none⟩ = some (.int .i64 10) := cell_keep (by rw [← hwc]; simp [go_sem, r3]) (ext_alloc1 _ _)
  have u4 : (wc.alloc (.cells #[.string nL0, .slice A cL0.length c] 36)).cell? ⟨w.heap.size, 4, none⟩ = some (.string nL0) := cell_keep (by rw [← hwc]; simp [go_sem, r4]) (ext_alloc1 _ _)
  have u5 : (wc.alloc (.cells #[.string nL0, .slice A cL0.length c] 36)).cell? ⟨w.heap.size, 5, none⟩ = some (.slice A cL0.length c) := cell_keep (by rw [← hwc]; simp [go_sem, r5]) (ext_alloc1 _ _)
  have u6 : (wc.alloc (.cells #[.string nL0, .slice A cL0.length c] 36)).cell? ⟨w.heap.size, 6, none⟩ = some (.slice none 0 0) := cell_keep (by rw [← hwc]; simp [go_sem, r6]) (ext_alloc1 _ _)
  have u7 : (wc.alloc (.cells #[.string nL0, .slice A cL0.length c] 36)).cell? ⟨w.heap.size, 7, none⟩ = some (.string ⟨#[]⟩) := cell_keep (by rw [← hwc]; simp [go_sem, r7]) (ext_alloc1 _ _)
  have HO2 : OCOS wc (w.heap.size + 1) (.slice A cL0.length c) cL0 := by rw [← hwc]; exact ((((((((HO.out.put (Nat.lt_succ_self _) 0 (.int .i64 215)).put (Nat.lt_succ_self _) 1 (.int .i64 102)).put (Nat.lt_succ_self _) 2 (.int .i64 65)).put (Nat.lt_succ_self _) 3 (.int .i64 10)).put (Nat.lt_succ_self _) 4 (.string nL0)).put (Nat.lt_succ_self _) 5 (.slice A cL0.length c)).put (Nat.lt_succ_self _) 6 (.slice none 0 0)).put (Nat.lt_succ_self _) 7 (.string ⟨#[]⟩))
  have HB2 : Below w.heap.size w wc := by rw [← hwc]; exact (ext_set (ext_set (ext_set (ext_set (ext_set (ext_set (ext_set (ext_set HB.out (Nat.le_refl _) _) (Nat.le_refl _) _) (Nat.le_refl _) _) (Nat.le_refl _) _) (Nat.le_refl _) _) (Nat.le_refl _) _) (Nat.le_refl _) _) (Nat.le_refl _) _)
  rw [hwc]
  clear hwc
  refine bodyPost_ret (v := .agg #[.int .i64 215, .int .i64 102, .int .i64 65, .int .i64 10, .string nL0, .slice A cL0.length c, .slice none 0 0, .string ⟨#[]⟩]) (by simp [results, Tryz.results20, go_sem, u0, u1, u2, u3, u4, u5, u6, u7]) rfl ⟨_, rfl, ⟨A, c, none, 0, rfl, (HO2.ext (ext_alloc1 _ _)).mono (Nat.le_succ _), ostr_nil _ _, fun k _ h2 => by cases h2⟩, sm_newD, ext_alloc HB2 _⟩
end Go.Proofs.YtfgopboddkhckaaGreatDoor
namespace Go.Proofs.YtfgopboddkhckaaGreatDoor
open Go.ChangeShapes Go.WideShapes Go.ChangeAt Go.RowKit Go.Sort Go.Joins
set_option linter.unusedVariables false

/-! ### Codes -/
def cnL : List ByteArray := [⟨#[111, 107]⟩, ⟨#[105, 110, 118, 97, 108, 105, 100]⟩, ⟨#[114, 97, 110, 103, 101]⟩, ⟨#[110, 111, 116, 45, 102, 111, 117, 110, 100]⟩, ⟨#[101, 120, 105, 115, 116, 115]⟩, ⟨#[102, 117, 108, 108]⟩, ⟨#[115, 116, 97, 116, 101]⟩, ⟨#[115, 121, 110, 116, 97, 120]⟩, ⟨#[102, 111, 114, 109, 97, 116]⟩, ⟨#[99, 108, 97, 115, 104]⟩, ⟨#[99, 114, 97, 99, 107, 101, 100]⟩]
def cnT (c : Int) : ByteArray := if inB c 0 10 then gd cnL c.toNat else ⟨#[]⟩
def erT (c : Int) : ByteArray := ⟨#[101, 114, 114, 111, 114, 32]⟩ ++ cnT c
theorem cnT_size (c : Int) : (cnT c).size ≤ 9 := by
  unfold cnT
  split
  · rename_i h
    have h := inB_iff.1 h
    have : ∀ k : Nat, k < 11 → (gd cnL k).size ≤ 9 := by decide +kernel
    exact this _ (by omega)
  · exact Nat.zero_le _
theorem erT_size (c : Int) : (erT c).size ≤ 15 := by
  unfold erT
  rw [ByteArray.size_append]
  have := cnT_size c
  have h2 : (⟨#[101, 114, 114, 111, 114, 32]⟩ : ByteArray).size = 6 := rfl
  omega

/-! ### Walls laid -/
def lwL (cs : List CO) (L : Int) (n : Nat) : List ByteArray := (List.range n).map fun k => layT (gd cs (k % cs.length)) L
theorem lwL_len (cs : List CO) (L : Int) (n : Nat) : (lwL cs L n).length = n := by simp [lwL]
theorem lwL_succ (cs : List CO) (L : Int) (n : Nat) : lwL cs L (n + 1) = lwL cs L n ++ [layT (gd cs (n % cs.length)) L] := by simp [lwL, List.range_succ]
def lwB (cs : List CO) (L : Int) (n : Nat) : Bool := (List.range n).all fun k => decide ((layT (gd cs (k % cs.length)) L).size ≤ 60)
theorem lwB_succ (cs : List CO) (L : Int) (n : Nat) : lwB cs L (n + 1) = (lwB cs L n && decide ((layT (gd cs (n % cs.length)) L).size ≤ 60)) := by simp [lwB, List.range_succ]
theorem lwB_no {cs : List CO} {L : Int} {n k : Nat} (hk : k < n) (h : ¬ (layT (gd cs (k % cs.length)) L).size ≤ 60) : lwB cs L n = false := by
  unfold lwB
  rw [List.all_eq_false]
  exact ⟨k, by simpa using hk, by simpa using h⟩
def mLayWall (nm : ByteArray) (cs : List CO) (L n : Int) : List ByteArray × Int :=
  if vB nm cs = true then
    if (inB L 1 200 && inB n 1 40) = true then
      if lwB cs L n.toNat = true then (lwL cs L n.toNat, 0) else ([], 5)
    else ([], 2)
  else ([], 1)

/-! ### The best pair -/
def mPair (L P : Int) : ByteArray × ByteArray × Int :=
  if (inB L 1 80 && inB P 1 4) = true then
    match pB L.toNat P.toNat L.toNat 0 0 0 with
    | some v => (bsq v.lo, bsq v.hi, 0)
    | none => (⟨#[]⟩, ⟨#[]⟩, 3)
  else (⟨#[]⟩, ⟨#[]⟩, 2)

/-! ### Commands -/
inductive CM where
  | bond | check | count | enter | format | height | length | log | pair | show_ | wall
deriving DecidableEq
def cmW : CM → ByteArray
  | .bond => ⟨#[98, 111, 110, 100]⟩
  | .check => ⟨#[99, 104, 101, 99, 107]⟩
  | .count => ⟨#[99, 111, 117, 110, 116]⟩
  | .enter => ⟨#[101, 110, 116, 101, 114]⟩
  | .format => ⟨#[102, 111, 114, 109, 97, 116]⟩
  | .height => ⟨#[104, 101, 105, 103, 104, 116]⟩
  | .length => ⟨#[108, 101, 110, 103, 116, 104]⟩
  | .log => ⟨#[108, 111, 103]⟩
  | .pair => ⟨#[112, 97, 105, 114]⟩
  | .show_ => ⟨#[115, 104, 111, 119]⟩
  | .wall => ⟨#[119, 97, 108, 108]⟩
def cmL : List CM := [.bond, .check, .count, .enter, .format, .height, .length, .log, .pair, .show_, .wall]
/-- The command with a word. -/
def cmOf (w : ByteArray) : Option CM := cmL.find? fun c => decide (cmW c = w)
theorem cmOf_some {w : ByteArray} {c : CM} (h : cmOf w = some c) : w = cmW c := by
  unfold cmOf at h
  have := List.find?_some h
  exact (by simpa using this : cmW c = w).symm
theorem cmOf_none {w : ByteArray} (h : cmOf w = none) (c : CM) : w ≠ cmW c := by
  unfold cmOf at h
  rw [List.find?_eq_none] at h
  intro e
  have := h c (by cases c <;> decide)
  simp only [decide_eq_true_eq] at this
  exact this e.symm
/-- What the words behind the first one are: numbers? -/
def cmF : CM → List Bool
  | .bond => [false]
  | .format => [false]
  | .check => [true]
  | .height => [true]
  | .length => [true]
  | .pair => [true, true]
  | .wall => [true, true]
  | .enter => [true, false, true]
  | _ => []
def num1 (l : List ByteArray) (k : Nat) : Int := rdv (gd l k)
/-- Numbers between blanks. -/
def nmT (xs : List Int) : ByteArray := bsq (jnL 32 (xs.map Lib.itoa))
def okT (n : Nat) : ByteArray := ⟨#[111, 107, 32]⟩ ++ itb n
def bondedT : ByteArray := ⟨#[98, 111, 110, 100, 101, 100]⟩
def pairT (lo hi : ByteArray) : ByteArray := lo ++ ⟨#[32]⟩ ++ hi
def fracT (a b : Int) : ByteArray := itb a ++ ⟨#[47]⟩ ++ itb b
def sumI (xs : List Int) : Int := xs.sum
def exFormat (d : DK) (t : ByteArray) : DK × List ByteArray × Int := if rfB t = true then ({ d with f := rfV t }, [fmT (rfV t)], 0) else (d, [], 7)
def exBond (d : DK) (t : ByteArray) : DK × List ByteArray × Int := if bnR t = 0 then ({ d with nm := bnN t, cs := bnC t }, [dkT { d with nm := bnN t, cs := bnC t }], 0) else (d, [], bnR t)
def exWall (d : DK) (L n : Int) : DK × List ByteArray × Int := if (mLayWall d.nm d.cs L n).2 = 0 then ({ d with wall := (mLayWall d.nm d.cs L n).1 }, [dkT { d with wall := (mLayWall d.nm d.cs L n).1 }], 0) else (d, [], (mLayWall d.nm d.cs L n).2)
def exShow (d : DK) : DK × List ByteArray × Int := (d, d.wall.map rnT ++ [okT d.wall.length], 0)
def exCheck (d : DK) (lap : Int) : DK × List ByteArray × Int :=
  if (mClash d.wall lap).2.2.2 = 3 then (d, [bondedT], 0)
  else if (mClash d.wall lap).2.2.2 = 0 then (d, [nmT [(mClash d.wall lap).1, (mClash d.wall lap).2.1, (mClash d.wall lap).2.2.1]], 0)
  else (d, [], (mClash d.wall lap).2.2.2)
def exCount (d : DK) : DK × List ByteArray × Int := if (mCount d.wall).2 = 0 then (d, [nmT (mCount d.wall).1], 0) else (d, [], (mCount d.wall).2)
def exPair (d : DK) (L P : Int) : DK × List ByteArray × Int := if (mPair L P).2.2 = 0 then (d, [pairT (mPair L P).1 (mPair L P).2.1], 0) else (d, [], (mPair L P).2.2)
def exLength (d : DK) (n : Int) : DK × List ByteArray × Int := if (mLen d.f n).2.2 = 0 then (d, [fracT (mLen d.f n).1 (mLen d.f n).2.1], 0) else (d, [], (mLen d.f n).2.2)
def exHeight (d : DK) (n : Int) : DK × List ByteArray × Int := if (mHeight d.f n).2 = 0 then (d, [itb (mHeight d.f n).1], 0) else (d, [], (mHeight d.f n).2)
def exEnter (d : DK) (e : EN) : DK × List ByteArray × Int :=
  if (mAddEntry d.log e).2 = 0 then ({ d with log := (mAddEntry d.log e).1 }, [itb (sumI (mValuesOf (mAddEntry d.log e).1 e.what).1)], 0) else (d, [], (mAddEntry d.log e).2)
def exLog (d : DK) : DK × List ByteArray × Int := (d, (lgE d.log).map wrb ++ [okT (lgE d.log).length], 0)
/-- What a command gives: the state, the lines, a code. -/
def mExec (d : DK) (c : CM) (l : List ByteArray) : DK × List ByteArray × Int :=
  match c with
  | .format => exFormat d (gd l 1)
  | .bond => exBond d (gd l 1)
  | .wall => exWall d (num1 l 1) (num1 l 2)
  | .show_ => exShow d
  | .check => exCheck d (num1 l 1)
  | .count => exCount d
  | .pair => exPair d (num1 l 1) (num1 l 2)
  | .length => exLength d (num1 l 1)
  | .height => exHeight d (num1 l 1)
  | .enter => exEnter d ⟨num1 l 1, gd l 2, num1 l 3⟩
  | .log => exLog d
/-- Do the first k words behind the first one fit? -/
def okN (c : CM) (l : List ByteArray) (k : Nat) : Bool := (List.range k).all fun i => !gd (cmF c) i || rdb (gd l (i + 1))
theorem okN_succ (c : CM) (l : List ByteArray) (k : Nat) : okN c l (k + 1) = (okN c l k && (!gd (cmF c) k || rdb (gd l (k + 1)))) := by simp [okN, List.range_succ]
theorem okN_no {c : CM} {l : List ByteArray} {n k : Nat} (hk : k < n) (h : (!gd (cmF c) k || rdb (gd l (k + 1))) = false) : okN c l n = false := by
  unfold okN
  rw [List.all_eq_false]
  exact ⟨k, by simpa using hk, by rw [h]; simp⟩
/-- A command that is one, executed. -/
def mGo (d : DK) (c : CM) (l : List ByteArray) : DK × List ByteArray :=
  if okN c l (cmF c).length = true then
    (if (mExec d c l).2.2 = 0 then ((mExec d c l).1, (mExec d c l).2.1) else (d, [erT (mExec d c l).2.2]))
  else (d, [erT 7])
/-- A line executed; none: it is no command. -/
def mDo (d : DK) (line : ByteArray) : Option (DK × List ByteArray) :=
  match cmOf (gd (spb 32 line) 0) with
  | none => none
  | some c => if (spb 32 line).length = (cmF c).length + 1 then some (mGo d c (spb 32 line)) else none
def mDesk (d : DK) (line : ByteArray) : DK × List ByteArray × Int :=
  if vDK d = true then
    match mDo d line with
    | some p => (p.1, p.2, 0)
    | none => (default, [], 7)
  else (default, [], 1)

/-! ### Runs of the console -/
def quest : ByteArray := ⟨#[63]⟩
def runK (l : List ByteArray) : Nat → DK × List ByteArray
  | 0 => (newD, [])
  | k + 1 => match mDo (runK l k).1 (gd l k) with
    | some p => (p.1, (runK l k).2 ++ p.2)
    | none => ((runK l k).1, (runK l k).2 ++ [quest])
/-- The lines of a text. -/
def linesOf (t : ByteArray) : List ByteArray := if gd (spb 10 t) ((spb 10 t).length - 1) = ⟨#[]⟩ then (spb 10 t).take ((spb 10 t).length - 1) else spb 10 t
/-- Lines, each followed by a newline. -/
def lnK (l : List ByteArray) : Nat → ByteArray
  | 0 => ⟨#[]⟩
  | k + 1 => lnK l k ++ gd l k ++ ⟨#[10]⟩
def outOf (l : List ByteArray) : List ByteArray := (runK l (min l.length 60)).2 ++ (if 60 < l.length then [erT 5] else [])
def mRun (t : ByteArray) : ByteArray := lnK (outOf (linesOf t)) (outOf (linesOf t)).length
end Go.Proofs.YtfgopboddkhckaaGreatDoor
