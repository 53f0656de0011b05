/-
  The laws' small functions on the struct Rise: its size, its copy, equality, marks.
-/
import Derived.Test.YtlgmelkcokkcdaaDoorEqual
import Derived.Deep.RegionHeld3
import Derived.Deep.DrawnRows
namespace Go.Proofs.YtlgmelkcokkcdaaDoor
open Go.ChangeShapes Go.WideShapes Go.ChangeAt Go.RowKit Go.Sort

/-- A wall: its courses, how high one reaches, what a lift costs, the easy height. -/
structure RS where
  cs : List Int
  reach : Int
  setup : Int
  easy : Int
/-- v is a Rise that reads as r. -/
def SR (w : World) (v : Value) (r : RS) : Prop := ∃ A c, v = .agg #[.slice A r.cs.length c, .int .i64 r.reach, .int .i64 r.setup, .int .i64 r.easy] ∧ RI w (.slice A r.cs.length c) r.cs
theorem SR.ext {w w' : World} {v : Value} {r : RS} (h : SR w v r) (hb : Below w.heap.size w w') : SR w' v r := by
  obtain ⟨A, c, rfl, h⟩ := h; exact ⟨A, c, rfl, h.ext hb⟩
/-- .. whose courses are the call's own. -/
def OSR (w : World) (base : Nat) (v : Value) (r : RS) : Prop := ∃ A c, v = .agg #[.slice A r.cs.length c, .int .i64 r.reach, .int .i64 r.setup, .int .i64 r.easy] ∧ OI w base (.slice A r.cs.length c) r.cs
theorem OSR.rd {w : World} {base : Nat} {v : Value} {r : RS} (h : OSR w base v r) : SR w v r := by
  obtain ⟨A, c, rfl, h⟩ := h; exact ⟨A, c, rfl, h.rd⟩
theorem OSR.ext {w w' : World} {base : Nat} {v : Value} {r : RS} (h : OSR w base v r) (hb : Below w.heap.size w w') : OSR w' base v r := by
  obtain ⟨A, c, rfl, h⟩ := h; exact ⟨A, c, rfl, h.ext hb⟩
theorem OSR.mono {w : World} {base base' : Nat} {v : Value} {r : RS} (h : OSR w base v r) (hb : base' ≤ base) : OSR w base' v r := by
  obtain ⟨A, c, rfl, h⟩ := h; exact ⟨A, c, rfl, h.mono hb⟩

def szSR (r : RS) (left : Int) : Int := szN left r.cs.length
theorem szSR_le (r : RS) {left : Int} (h : left ≤ 1048576) : szSR r left ≤ 1048576 ∧ -1 ≤ szSR r left := szN_le _ _ h
def SmSR (r : RS) : Prop := r.cs.length ≤ 1048576
def LenSR (r : RS) : Prop := r.cs.length ≤ maxLen
theorem ok_SR {r : RS} {left : Int} (h2 : left ≤ 1048576) (h : 0 ≤ szSR r left) : 0 ≤ left ∧ SmSR r := by
  have h1 := szN_ok h
  have h3 := szN_pos h
  unfold SmSR; omega

theorem sz_SR (v : Value) (r : RS) (left : Int) (h1 : 0 ≤ left) (h2 : left ≤ 1048576) (w : World) (_ : LenSR r) (ha : SR w v r) :
    Calls Tryd.prog 10 #[v, .int .i64 left] w (Ret (.int .i64 (szSR r left)) w) := by
  obtain ⟨A, c, rfl, hf⟩ := ha
  have HF := Lib.hid hf; clear hf
  have hb1 := szN_le left r.cs.length h2
  by_cases hl2 : szN left r.cs.length < 0
  · have e2 : szN left r.cs.length = -1 := by omega
    go_enter Tryd.func10, Tryd.ntmps10
    go_wp2_with (go_at_call 33; refine (szints _ r.cs left (by omega) (by omega) _ (HF.out.alloc _)).mono ?_; rintro e w' ⟨rfl, hb⟩)
    go_ret
    exact ⟨ret_int e2.symm, ext_trans (ext_alloc1 w _) hb⟩
  · go_enter Tryd.func10, Tryd.ntmps10
    go_wp2_with (go_at_call 33; refine (szints _ r.cs left (by omega) (by omega) _ (HF.out.alloc _)).mono ?_; rintro e w' ⟨rfl, hb⟩)
    go_ret
    exact ⟨rfl, ext_trans (ext_alloc1 w _) hb⟩
theorem to_SR (v : Value) (r : RS) (w : World) (ha : SR w v r) (hsm : SmSR r) :
    Calls Tryd.prog 12 #[v] w fun e w' => ∃ v', e = .returned v' ∧ OSR w' w.heap.size v' r ∧ Below w.heap.size w w' := by
  obtain ⟨A, c, rfl, hf⟩ := ha
  have HF := Lib.hid hf; clear hf
  go_enter Tryd.func12, Tryd.ntmps12
  go_wp2_with (go_at_call 36; refine (toints _ r.cs hsm _ (((HF.out.alloc _).alloc _).alloc _)).mono ?_; rintro e w1 ⟨A', c', rfl, hO, hb⟩; (have HO := Lib.hid hO; clear hO); (have HB := Lib.hid hb); (obtain ⟨hc, hfz⟩ := bcell hb); (have hz := hb.size); clear hb; simp at hz)
  refine bodyPost_ret (v := .agg #[.slice A' r.cs.length c', .int .i64 r.reach, .int .i64 r.setup, .int .i64 r.easy]) (by simp [results, Tryd.results12, go_sem, hc]) rfl ⟨_, rfl, ⟨_, _, rfl, ?_⟩, ?_⟩
  · have h1 := HO.out
    simp only [World.size_alloc] at h1
    refine own_mono (base := w.heap.size + 1 + 1 + 1) ?_ (by omega)
    repeat (refine ownsRow_setCell_below ?_ (by simp; try omega) _)
    exact h1
  · repeat (refine ext_set ?_ (by simp; try omega) _)
    exact ext_trans (ext_alloc (ext_alloc (ext_alloc1 w _) _) _) HB.out
/-- Do two walls have equal parts? -/
def sameR (r q : RS) : Bool := decide (r.cs = q.cs) && decide (r.reach = q.reach) && decide (r.setup = q.setup) && decide (r.easy = q.easy)
theorem sameR_self (r : RS) : sameR r r = true := by simp [sameR]

theorem eqrise (v1 v2 : Value) (r q : RS) (w : World) (ha : SR w v1 r) (hb : SR w v2 q) :
    Calls Tryd.prog 14 #[v1, v2] w (Ret (.bool (sameR r q)) w) := by
  obtain ⟨A, c, rfl, hf⟩ := ha
  obtain ⟨B, d, rfl, hg⟩ := hb
  have HF := Lib.hid hf; clear hf
  have HG := Lib.hid hg; clear hg
  generalize hxy : decide (r.cs = q.cs) = b
  have HX := Lib.hid hxy; clear hxy
  have HD : Hid (sameR r q = (b && decide (r.reach = q.reach) && decide (r.setup = q.setup) && decide (r.easy = q.easy))) := Lib.hid (by unfold sameR; rw [HX.out])
  cases b
  · go_enter Tryd.func14, Tryd.ntmps14
    go_wp2_with (go_at_call 40; refine (eqints _ _ r.cs q.cs _ ((HF.out.alloc _).alloc _) ((HG.out.alloc _).alloc _)).mono ?_; rintro e w1 ⟨rfl, hb⟩; rw [HX.out])
    go_ret
    exact ⟨ret_bool (by rw [HD.out]; simp), ext_trans (ext_alloc (ext_alloc1 w _) _) hb⟩
  · by_cases h1 : r.reach = q.reach
    all_goals by_cases h2 : r.setup = q.setup
    all_goals by_cases h3 : r.easy = q.easy
    all_goals
      have HE : Hid (sameR r q = (decide (r.reach = q.reach) && decide (r.setup = q.setup) && decide (r.easy = q.easy))) := Lib.hid (by rw [HD.out]; simp)
      go_enter Tryd.func14, Tryd.ntmps14
      go_wp2_with (go_at_call 40; refine (eqints _ _ r.cs q.cs _ ((HF.out.alloc _).alloc _) ((HG.out.alloc _).alloc _)).mono ?_; rintro e w1 ⟨rfl, hb⟩; rw [HX.out]; (obtain ⟨hc, hfz⟩ := bcell hb))
      go_ret
      exact ⟨ret_bool (by rw [HE.out]; simp [h1, h2, h3]), ext_trans (ext_alloc (ext_alloc1 w _) _) hb⟩
theorem spec_same_rise (v1 v2 : Value) (r q : RS) (w : World) (ha : SR w v1 r) (hb : SR w v2 q) :
    Calls Tryd.prog 21 #[v1, v2] w (Ret (.bool (sameR r q)) w) := by
  obtain ⟨A, c, rfl, hf⟩ := ha
  obtain ⟨B, d, rfl, hg⟩ := hb
  have HF := Lib.hid hf; clear hf
  have HG := Lib.hid hg; clear hg
  generalize hxy : decide (r.cs = q.cs) = b
  have HX := Lib.hid hxy; clear hxy
  have HD : Hid (sameR r q = (b && decide (r.reach = q.reach) && decide (r.setup = q.setup) && decide (r.easy = q.easy))) := Lib.hid (by unfold sameR; rw [HX.out])
  cases b
  · go_enter Tryd.func21, Tryd.ntmps21
    go_wp2_with (go_at_call 47; refine (same_any _ _ r.cs q.cs _ ((HF.out.alloc _).alloc _) ((HG.out.alloc _).alloc _)).mono ?_; rintro e w1 ⟨rfl, hb⟩; rw [HX.out])
    go_ret
    exact ⟨ret_bool (by rw [HD.out]; simp), ext_trans (ext_alloc (ext_alloc1 w _) _) hb⟩
  · by_cases h1 : r.reach = q.reach
    all_goals by_cases h2 : r.setup = q.setup
    all_goals by_cases h3 : r.easy = q.easy
    all_goals
      have HE : Hid (sameR r q = (decide (r.reach = q.reach) && decide (r.setup = q.setup) && decide (r.easy = q.easy))) := Lib.hid (by rw [HD.out]; simp)
      go_enter Tryd.func21, Tryd.ntmps21
      go_wp2_with (go_at_call 47; refine (same_any _ _ r.cs q.cs _ ((HF.out.alloc _).alloc _) ((HG.out.alloc _).alloc _)).mono ?_; rintro e w1 ⟨rfl, hb⟩; rw [HX.out]; (obtain ⟨hc, hfz⟩ := bcell hb))
      go_ret
      exact ⟨ret_bool (by rw [HE.out]; simp [h1, h2, h3]), ext_trans (ext_alloc (ext_alloc1 w _) _) hb⟩
theorem eq_SR (v1 v2 : Value) (r : RS) (w : World) (ha : SR w v1 r) (hb : SR w v2 r) :
    Calls Tryd.prog 14 #[v1, v2] w (Ret (.bool true) w) := by
  have h := eqrise v1 v2 r r w ha hb
  rwa [sameR_self] at h
theorem spec_SameRise (v1 : Value) (r : RS) (v2 : Value) (q : RS) (w : World) (ha : SR w v1 r) (_ : SmSR r) (hb : SR w v2 q) (_ : SmSR q) :
    Calls Tryd.prog 21 #[v1, v2] w (Ret (.bool (sameR r q)) w) := spec_same_rise v1 v2 r q w ha hb
/-- The data blocks of a Rise: the block of its courses. -/
def BSR (v : Value) : Nat → Prop := fun k => (v.cells.getD 0 undef).ownBlock = some k
theorem OSR.ge {w : World} {base : Nat} {v : Value} {r : RS} (h : OSR w base v r) : ∀ k, BSR v k → base ≤ k ∧ k < w.heap.size := by
  obtain ⟨A, c, rfl, h⟩ := h; exact h.ge
theorem OSR.chg {S : Nat → Prop} {w w' : World} {base : Nat} {v : Value} {r : RS} (h : OSR w base v r) (hb : Chg S w w') (hS : ∀ k, BSR v k → ¬ S k) : OSR w' base v r := by
  obtain ⟨A, c, rfl, h⟩ := h; exact ⟨A, c, rfl, h.chg hb hS⟩
/-- A wall whose courses are marks. -/
def mkR (j : Int) (r : RS) : RS := ⟨marks j r.cs.length, r.reach, r.setup, r.easy⟩

theorem mark_SR (base : Nat) (v : Value) (r : RS) (j : Int) (hj0 : 0 ≤ j) (hj : j ≤ 1099511627776) (w : World) (hsm : SmSR r) (hO : OSR w base v r) :
    Calls Tryd.prog 17 #[v, .int .i64 j] w fun e w' => e = .returned (.int .i64 (j + r.cs.length)) ∧ OSR w' base v (mkR j r) ∧ Chg (BSR v) w w' := by
  unfold SmSR at hsm
  obtain ⟨A, c, rfl, hf⟩ := hO
  have HF := Lib.hid hf; clear hf
  go_enter Tryd.func17, Tryd.ntmps17
  go_wp2_with (go_at_call 43; refine (markints base _ r.cs j hj0 hj (by omega) _ (HF.out.ext (ext_alloc1 _ _))).mono ?_; rintro e w1 ⟨rfl, hO1, hg1, hz1⟩)
  go_ret
  refine ⟨rfl, ⟨A, c, by unfold mkR; simp only [marks_length], by unfold mkR; simp only [marks_length]; exact hO1⟩, ?_⟩
  exact Chg.of_grown ((World.grownBy_alloc w _ _).trans hg1)
theorem held_SR (v : Value) (r : RS) (j : Int) (hj0 : 0 ≤ j) (hj : j ≤ 1099511627776) (w : World) (hsm : SmSR r) (ha : SR w v (mkR j r)) :
    Calls Tryd.prog 18 #[v, .int .i64 j] w (Ret (.int .i64 (j + r.cs.length)) w) := by
  unfold SmSR at hsm
  obtain ⟨A, c, rfl, hf⟩ := ha
  have HF : Hid (RI w (.slice A (marks j r.cs.length).length c) (marks j r.cs.length)) := Lib.hid hf; clear hf
  show Calls _ _ #[.agg #[.slice A (marks j r.cs.length).length c, .int .i64 r.reach, .int .i64 r.setup, .int .i64 r.easy], .int .i64 j] _ _
  go_enter Tryd.func18, Tryd.ntmps18
  go_wp2_with (go_at_call 44; refine (heldints _ j r.cs.length hj0 hj (by omega) _ (HF.out.alloc _)).mono ?_; rintro e w1 ⟨rfl, hb⟩)
  go_ret
  exact ⟨rfl, ext_trans (ext_alloc1 w _) hb⟩

end Go.Proofs.YtlgmelkcokkcdaaDoor
