/-
  Logs: the reference reads a log; codes.
-/
import Derived.Test.YtoefoljhgnfoiaaGreatDoorLog8
import Derived.Deep.LoopGhost
namespace Go.Proofs.YtoefoljhgnfoiaaGreatDoor
open Go.ChangeShapes Go.WideShapes Go.ChangeAt Go.RowKit Go.Sort
set_option linter.unusedVariables false
set_option maxRecDepth 100000
attribute [local go_sem ↓] Go.wp_at_zero Go.wp_at_succ

theorem box4 (w : World) (a b c d : Value) (T : TypeId) (W' : World) (hb : Below (w.alloc (.cells #[a, b, c, d] T)).heap.size (w.alloc (.cells #[a, b, c, d] T)) W') :
    W'.cell? ⟨w.heap.size, 0, none⟩ = some a ∧ W'.cell? ⟨w.heap.size, 1, none⟩ = some b ∧ W'.cell? ⟨w.heap.size, 2, none⟩ = some c ∧ W'.cell? ⟨w.heap.size, 3, none⟩ = some d ∧ ∀ j, W'.frozen? ⟨w.heap.size, j, none⟩ = false := by
  refine ⟨cell_keep (by simp [go_sem]) hb, cell_keep (by simp [go_sem]) hb, cell_keep (by simp [go_sem]) hb, cell_keep (by simp [go_sem]) hb, fun j => ?_⟩
  rw [hb.frozen (p := ⟨w.heap.size, j, none⟩) (by simp)]
  unfold World.frozen?
  simp only [heap_alloc_new]
  simp
theorem rdL_le (s : List UInt8) : ∀ (f : Nat) (es : List EN) (st : Int) (n : Nat), es.length ≤ n → n ≤ s.length → 0 ≤ st → st ≤ 65518 → (rdL s f es st n).1.length ≤ (rdL s f es st n).2.2 ∧ (rdL s f es st n).2.2 ≤ s.length ∧ 0 ≤ (rdL s f es st n).2.1 ∧ (rdL s f es st n).2.1 ≤ 65518
  | 0, es, st, n, h1, h2, h3, h4 => ⟨h1, h2, h3, h4⟩
  | f + 1, es, st, n, h1, h2, h3, h4 => by
    rw [rdL]
    split
    · rename_i e st' k hk
      have h := stepL_some hk
      have hp := linL_pos st' e
      have hk1 : k ≤ s.length - n := by have := h.2.2.2.2.2; rw [List.length_drop] at this; exact this
      have hs := stmp_bd st (wrd e)
      refine rdL_le s f _ _ _ (by rw [List.length_append]; simp; omega) (by omega) (by rw [h.2.2.1]; exact hs.1) (by rw [h.2.2.1]; exact hs.2)
    · exact ⟨h1, h2, h3, h4⟩
theorem rdLog_le (s : ByteArray) : (rdLog s.data.toList).1.length ≤ (rdLog s.data.toList).2.2 ∧ (rdLog s.data.toList).2.2 ≤ s.size ∧ 0 ≤ (rdLog s.data.toList).2.1 ∧ (rdLog s.data.toList).2.1 ≤ 65518 := by
  have := rdL_le s.data.toList (s.data.toList.length + 1) [] 0 0 (by simp) (by omega) (by omega) (by omega)
  rw [size_toList] at this
  unfold rdLog rdAt
  rw [size_toList]
  exact this

/-- What the reference's reading leaves. -/
def SReadP (s : ByteArray) (w : World) : Ending → World → Prop := fun e w' =>
  ∃ g A c, e = .returned (.pointer (some ⟨g, 0, none⟩)) ∧ RR w' w.heap.size g s (rdLog s.data.toList).1 (rdLog s.data.toList).2.1 (rdLog s.data.toList).2.2 A c ∧ Below w.heap.size w w'
set_option maxHeartbeats 3200000 in
theorem spec_Read (s : ByteArray) (hs : s.size ≤ 1048576) (w : World) :
    Calls Tryz.prog 47 #[.string s] w (SReadP s w) := by
  go_enter Tryz.func47, Tryz.ntmps47
  go_wp2_with fail
  go_loopg [9] (s.size + 1) (fun gk u9 wr => ∃ (es : List EN) (st : Int) (n : Nat) (A : Option Addr) (c : Nat), n + gk = s.size + 1 ∧ es.length ≤ n ∧ n ≤ s.size ∧ 0 ≤ st ∧ st ≤ 65518 ∧ Hid (RR wr w.heap.size (w.heap.size + 1) s es st n A c) ∧ Hid (rdLog s.data.toList = rdAt s.data.toList es st n) ∧ Hid (Below w.heap.size w wr))
  case atStart =>
    refine ⟨[], 0, 0, some ⟨w.heap.size, 0, none⟩, 0, by omega, by simp, by omega, by omega, by omega, Lib.hid ?_, rfl, Lib.hid (ext_alloc (ext_alloc1 _ _) _)⟩
    have h := box4 (w.alloc (.cells #[] 98)) (.string s) (.int .i64 0) (.int .i64 0) (.slice (some ⟨w.heap.size, 0, none⟩) 0 0) 83 _ (ext_refl _)
    simp only [World.size_alloc] at h
    refine ⟨h.1, h.2.1, h.2.2.1, h.2.2.2.1, h.2.2.2.2, World.ownsRow.alloc (World.ownsRow_lit _ #[] 0 (Nat.le_refl _) (by simp [maxLen]) (by simp)) _, fun k hk => ?_, by omega⟩
    have : w.heap.size = k := by simpa [BI, Value.ownBlock] using hk
    omega
  case round =>
    obtain ⟨es, st, n, A, c, hgk, hes, hn, hst0, hst1, HR, HL, HW⟩ := hrel
    have HC := Lib.hid (spec_rline w.heap.size (w.heap.size + 1) s es st n A c wr HR.out hn hs hes hst0 hst1)
    cases hr : stepL es st (s.data.toList.drop n) with
    | none =>
      have HF : Hid (rdLog s.data.toList = (es, st, n)) := Lib.hid (by rw [HL.out, rdAt_stop hr])
      rw [hr] at HC
      clear hr
      go_wp2_with fail
      refine (show Calls _ _ _ _ _ from HC.out).mono ?_
      rintro e w2 ⟨A2, c2, rfl, hR2, hb2⟩
      replace HR := Lib.hid hR2
      replace HW := Lib.hid (HW.out.trans hb2)
      clear hR2 hb2 HC
      go_wp2_with fail
      go_ret
      refine ⟨w.heap.size + 1, A2, c2, rfl, ?_, HW.out⟩
      rw [HF.out]; exact HR.out
    | some r =>
      obtain ⟨en, st2, k⟩ := r
      have h := stepL_some hr
      have hp := linL_pos st2 en
      have hk1 : k ≤ s.size - n := by have := h.2.2.2.2.2; rw [List.length_drop, size_toList] at this; exact this
      have hk2 : 0 < k := by rw [h.2.2.2.2.1]; exact hp
      have hsb := stmp_bd st (wrd en)
      have hs0 : 0 ≤ st2 := by rw [h.2.2.1]; exact hsb.1
      have hs1 : st2 ≤ 65518 := by rw [h.2.2.1]; exact hsb.2
      have HF : Hid (rdLog s.data.toList = rdAt s.data.toList (es ++ [en]) st2 (n + k)) := Lib.hid (by rw [HL.out]; exact rdAt_step hr)
      rw [hr] at HC
      clear hr h hp hsb
      go_wp2_with fail
      refine (show Calls _ _ _ _ _ from HC.out).mono ?_
      rintro e w2 ⟨A2, c2, rfl, hR2, hb2⟩
      replace HR := Lib.hid hR2
      replace HW := Lib.hid (HW.out.trans hb2)
      clear hR2 hb2 HC
      go_wp2_with fail
      go_roundg (gk - k)
      case measure => omega
      case rel => exact ⟨es ++ [en], st2, n + k, A2, c2, by omega, by rw [List.length_append]; simp; omega, by omega, hs0, hs1, HR, HF, HW⟩

/-- The code of a text that must be a log. -/
def lgC (s : ByteArray) : Int := if 4000 < s.size then 5 else if (rdLog s.data.toList).2.2 = s.size then 0 else 8
def SCodeP (s : ByteArray) (w : World) : Ending → World → Prop := fun e w' =>
  ∃ g A c, e = .returned (.tuple #[.pointer (some ⟨g, 0, none⟩), .int .i64 (lgC s)]) ∧ (lgC s = 0 → RR w' w.heap.size g s (rdLog s.data.toList).1 (rdLog s.data.toList).2.1 (rdLog s.data.toList).2.2 A c) ∧ Below w.heap.size w w'
set_option maxHeartbeats 1600000 in
theorem spec_Code (s : ByteArray) (hs : s.size ≤ 1048576) (w : World) :
    Calls Tryz.prog 28 #[.string s] w (SCodeP s w) := by
  by_cases h4 : 4000 < s.size
  · have HF : Hid (lgC s = 5) := Lib.hid (by unfold lgC; rw [if_pos h4])
    have e1 : (4000 : Int) < s.size := by omega
    clear h4
    go_enter Tryz.func28, Tryz.ntmps28
    go_wp2_with fail
    go_ret2
    exact ⟨w.heap.size, none, 0, (by rw [HF.out]; rfl), (fun h => absurd h (by rw [HF.out]; decide)), ext_alloc1 _ _⟩
  · have e1 : ¬ (4000 : Int) < s.size := by omega
    have HC := Lib.hid (spec_Read s hs w)
    have HF : Hid (lgC s = if (rdLog s.data.toList).2.2 = s.size then 0 else 8) := Lib.hid (by unfold lgC; rw [if_neg h4])
    clear h4
    go_enter Tryz.func28, Tryz.ntmps28
    go_wp2_with fail
    refine (show Calls _ _ _ _ _ from HC.out).mono ?_
    rintro e w2 ⟨g, A, c, rfl, hR, hb⟩
    have HR := Lib.hid hR
    have HW := Lib.hid hb
    have r1 := hR.h1
    clear hR hb HC
    by_cases hn : (rdLog s.data.toList).2.2 = s.size
    · have HG : Hid (lgC s = 0) := Lib.hid (by rw [HF.out, if_pos hn])
      rw [hn] at r1
      clear hn
      go_wp2_with fail
      go_ret2
      exact ⟨g, A, c, (by rw [HG.out]; rfl), fun _ => HR.out, HW.out⟩
    · have HG : Hid (lgC s = 8) := Lib.hid (by rw [HF.out, if_neg hn])
      have e2 : (((rdLog s.data.toList).2.2 : Int) != (s.size : Int)) = true := by simp; omega
      clear hn
      go_wp2_with fail
      go_ret2
      exact ⟨g, A, c, (by rw [HG.out]; rfl), (fun h => absurd h (by rw [HG.out]; decide)), HW.out⟩
end Go.Proofs.YtoefoljhgnfoiaaGreatDoor
