/-
  The laws' small functions on the struct Rise: its size, its copy, equality, marks.
-/
import Derived.Test.YtibbdlgganmklaaDoorEqual
import Derived.Deep.RegionHeld3
import Derived.Deep.DrawnRows
namespace Go.Proofs.YtibbdlgganmklaaDoor
open Go.ChangeShapes Go.WideShapes Go.ChangeAt Go.RowKit Go.Sort

/-- A wall: its courses, how high one reaches, what a lift costs, the easy height. -/
structure RS where
  cs : List Int
  reach : Int
  setup : Int
  easy : Int
/-- v is a Rise that reads as r. -/
def SR (w : World) (v : Value) (r : RS) : Prop := ∃ A c, v = .agg #[.slice A r.cs.length c, .int .i64 r.reach, .int .i64 r.setup, .int .i64 r.easy] ∧ RI w (.slice A r.cs.length c) r.cs
theorem SR.ext {w w' : World} {v : Value} {r : RS} (h : SR w v r) (hb : Below w.heap.size w w') : SR w' v r := by
  obtain ⟨A, c, rfl, h⟩ := h; exact ⟨A, c, rfl, h.ext hb⟩
/-- .. whose courses are the call's own. -/
def OSR (w : World) (base : Nat) (v : Value) (r : RS) : Prop := ∃ A c, v = .agg #[.slice A r.cs.length c, .int .i64 r.reach, .int .i64 r.setup, .int .i64 r.easy] ∧ OI w base (.slice A r.cs.length c) r.cs
theorem OSR.rd {w : World} {base : Nat} {v : Value} {r : RS} (h : OSR w base v r) : SR w v r := by
  obtain ⟨A, c, rfl, h⟩ := h; exact ⟨A, c, rfl, h.rd⟩
theorem OSR.ext {w w' : World} {base : Nat} {v : Value} {r : RS} (h : OSR w base v r) (hb : Below w.heap.size w w') : OSR w' base v r := by
  obtain ⟨A, c, rfl, h⟩ := h; exact ⟨A, c, rfl, h.ext hb⟩
theorem OSR.mono {w : World} {base base' : Nat} {v : Value} {r : RS} (h : OSR w base v r) (hb : base' ≤ base) : OSR w base' v r := by
  obtain ⟨A, c, rfl, h⟩ := h; exact ⟨A, c, rfl, h.mono hb⟩

def szSR (r : RS) (left : Int) : Int := szN left r.cs.length
theorem szSR_le (r : RS) {left : Int} (h : left ≤ 1048576) : szSR r left ≤ 1048576 ∧ -1 ≤ szSR r left := szN_le _ _ h
def SmSR (r : RS) : Prop := r.cs.length ≤ 1048576
def LenSR (r : RS) : Prop := r.cs.length ≤ maxLen
theorem ok_SR {r : RS} {left : Int} (h2 : left ≤ 1048576) (h : 0 ≤ szSR r left) : 0 ≤ left ∧ SmSR r := by
  have h1 := szN_ok h
  have h3 := szN_pos h
  unfold SmSR; omega

/-- Do two walls have equal parts? -/
def sameR (r q : RS) : Bool := decide (r.cs = q.cs) && decide (r.reach = q.reach) && decide (r.setup = q.setup) && decide (r.easy = q.easy)
theorem sameR_self (r : RS) : sameR r r = true := by simp [sameR]

theorem spec_same_rise (v1 v2 : Value) (r q : RS) (w : World) (ha : SR w v1 r) (hb : SR w v2 q) :
    Calls Tryd.prog 8 #[v1, v2] w (Ret (.bool (sameR r q)) w) := by
  obtain ⟨A, c, rfl, hf⟩ := ha
  obtain ⟨B, d, rfl, hg⟩ := hb
  have HF := Lib.hid hf; clear hf
  have HG := Lib.hid hg; clear hg
  generalize hxy : decide (r.cs = q.cs) = b
  have HX := Lib.hid hxy; clear hxy
  have HD : Hid (sameR r q = (b && decide (r.reach = q.reach) && decide (r.setup = q.setup) && decide (r.easy = q.easy))) := Lib.hid (by unfold sameR; rw [HX.out])
  cases b
  · go_enter Tryd.func8, Tryd.ntmps8
    go_wp2_with (go_at_call 22; refine (same_any _ _ r.cs q.cs _ ((HF.out.alloc _).alloc _) ((HG.out.alloc _).alloc _)).mono ?_; rintro e w1 ⟨rfl, hb⟩; rw [HX.out])
    go_ret
    exact ⟨ret_bool (by rw [HD.out]; simp), ext_trans (ext_alloc (ext_alloc1 w _) _) hb⟩
  · by_cases h1 : r.reach = q.reach
    all_goals by_cases h2 : r.setup = q.setup
    all_goals by_cases h3 : r.easy = q.easy
    all_goals
      have HE : Hid (sameR r q = (decide (r.reach = q.reach) && decide (r.setup = q.setup) && decide (r.easy = q.easy))) := Lib.hid (by rw [HD.out]; simp)
      go_enter Tryd.func8, Tryd.ntmps8
      go_wp2_with (go_at_call 22; refine (same_any _ _ r.cs q.cs _ ((HF.out.alloc _).alloc _) ((HG.out.alloc _).alloc _)).mono ?_; rintro e w1 ⟨rfl, hb⟩; rw [HX.out]; (obtain ⟨hc, hfz⟩ := bcell hb))
      go_ret
      exact ⟨ret_bool (by rw [HE.out]; simp [h1, h2, h3]), ext_trans (ext_alloc (ext_alloc1 w _) _) hb⟩
theorem spec_SameRise (v1 : Value) (r : RS) (v2 : Value) (q : RS) (w : World) (ha : SR w v1 r) (_ : SmSR r) (hb : SR w v2 q) (_ : SmSR q) :
    Calls Tryd.prog 8 #[v1, v2] w (Ret (.bool (sameR r q)) w) := spec_same_rise v1 v2 r q w ha hb
/-- The data blocks of a Rise: the block of its courses. -/
def BSR (v : Value) : Nat → Prop := fun k => (v.cells.getD 0 undef).ownBlock = some k
theorem OSR.ge {w : World} {base : Nat} {v : Value} {r : RS} (h : OSR w base v r) : ∀ k, BSR v k → base ≤ k ∧ k < w.heap.size := by
  obtain ⟨A, c, rfl, h⟩ := h; exact h.ge
theorem OSR.chg {S : Nat → Prop} {w w' : World} {base : Nat} {v : Value} {r : RS} (h : OSR w base v r) (hb : Chg S w w') (hS : ∀ k, BSR v k → ¬ S k) : OSR w' base v r := by
  obtain ⟨A, c, rfl, h⟩ := h; exact ⟨A, c, rfl, h.chg hb hS⟩
/-- A wall whose courses are marks. -/
def mkR (j : Int) (r : RS) : RS := ⟨marks j r.cs.length, r.reach, r.setup, r.easy⟩


end Go.Proofs.YtibbdlgganmklaaDoor
