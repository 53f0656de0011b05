/-
  Lifts, first part: valid walls, heights.
-/
import Derived.Test.YtibbdlgganmklaaDoorRise
import Derived.Test.YtibbdlgganmklaaDoorSmall
namespace Go.Proofs.YtibbdlgganmklaaDoor
open Go.ChangeShapes Go.WideShapes Go.ChangeAt Go.RowKit Go.Sort
set_option linter.unusedVariables false

/-- A valid wall. -/
def vRise (r : RS) : Bool := !outB r.cs 30 200 && inB r.cs.length 1 40 && inB r.reach 200 2000 && inB r.setup 0 10000 && inB r.easy 0 2000
theorem vRise_iff {r : RS} : vRise r = true ↔ outB r.cs 30 200 = false ∧ (1 ≤ r.cs.length ∧ r.cs.length ≤ 40) ∧ (200 ≤ r.reach ∧ r.reach ≤ 2000) ∧ (0 ≤ r.setup ∧ r.setup ≤ 10000) ∧ (0 ≤ r.easy ∧ r.easy ≤ 2000) := by
  simp only [vRise, Bool.and_eq_true, Bool.not_eq_true', inB_iff, and_assoc]
  constructor
  · rintro ⟨h1, h2, h3, h4⟩; exact ⟨h1, by omega, by omega, h4⟩
  · rintro ⟨h1, h2, h3, h4⟩; exact ⟨h1, by omega, by omega, h4⟩
theorem in_of_out {xs : List Int} {lo hi : Int} (h : outB xs lo hi = false) {k : Nat} (hk : k < xs.length) : lo ≤ gi xs k ∧ gi xs k ≤ hi := by
  unfold outB at h
  rw [List.any_eq_false] at h
  have h2 := h (gi xs k) (by unfold gi; rw [List.getD_eq_getElem?_getD, List.getElem?_eq_getElem hk]; exact List.getElem_mem hk)
  simp only [Bool.not_eq_true, Bool.not_eq_false'] at h2
  exact inB_iff.1 h2
theorem out_hit {xs : List Int} {lo hi : Int} {k : Nat} (hk : k < xs.length) (h : inB (gi xs k) lo hi = false) : outB xs lo hi = true := by
  unfold outB
  rw [List.any_eq_true]
  exact ⟨gi xs k, by unfold gi; rw [List.getD_eq_getElem?_getD, List.getElem?_eq_getElem hk]; exact List.getElem_mem hk, by simp [h]⟩
theorem out_no {xs : List Int} {lo hi : Int} (h : ∀ k, k < xs.length → inB (gi xs k) lo hi = true) : outB xs lo hi = false := by
  unfold outB
  rw [List.any_eq_false]
  intro x hx
  obtain ⟨i, hi, rfl⟩ := List.getElem_of_mem hx
  have := h i hi
  unfold gi at this
  rw [List.getD_eq_getElem?_getD, List.getElem?_eq_getElem hi] at this
  simpa using this

/-- The cells of a Rise behind a pointer. -/
def PR (w : World) (b : Nat) (r : RS) : Prop := (∃ A c, w.cell? ⟨b, 0, none⟩ = some (.slice A r.cs.length c) ∧ RI w (.slice A r.cs.length c) r.cs) ∧ w.cell? ⟨b, 1, none⟩ = some (.int .i64 r.reach) ∧ w.cell? ⟨b, 2, none⟩ = some (.int .i64 r.setup) ∧ w.cell? ⟨b, 3, none⟩ = some (.int .i64 r.easy)
theorem PR.ext {w w' : World} {b : Nat} {r : RS} (h : PR w b r) (hb : Below w.heap.size w w') : PR w' b r := by
  obtain ⟨⟨A, c, h1, h2⟩, h3, h4, h5⟩ := h; exact ⟨⟨A, c, cell_keep h1 hb, h2.ext hb⟩, cell_keep h3 hb, cell_keep h4 hb, cell_keep h5 hb⟩
theorem PR.st {w : World} {b : Nat} {r : RS} (h : PR w b r) : ∃ A c, w.cell? ⟨b, 0, none⟩ = some (.slice A r.cs.length c) ∧ w.cell? ⟨b, 1, none⟩ = some (.int .i64 r.reach) ∧ w.cell? ⟨b, 2, none⟩ = some (.int .i64 r.setup) ∧ w.cell? ⟨b, 3, none⟩ = some (.int .i64 r.easy) ∧
    SR w (.agg #[.slice A r.cs.length c, .int .i64 r.reach, .int .i64 r.setup, .int .i64 r.easy]) r := by
  obtain ⟨⟨A, c, h1, h2⟩, h3, h4, h5⟩ := h; exact ⟨A, c, h1, h3, h4, h5, A, c, rfl, h2⟩
theorem pr_box {w : World} {A : Option Addr} {c : Nat} {r : RS} {T : TypeId} (h : RI w (.slice A r.cs.length c) r.cs) :
    PR (w.alloc (.cells #[.slice A r.cs.length c, .int .i64 r.reach, .int .i64 r.setup, .int .i64 r.easy] T)) w.heap.size r :=
  ⟨⟨A, c, by simp [go_sem], h.alloc _⟩, by simp [go_sem], by simp [go_sem], by simp [go_sem]⟩

set_option maxHeartbeats 800000 in
theorem impl_ValidRise (v : Value) (r : RS) (w : World) (hR : SR w v r) (hsm : SmSR r) :
    Calls Tryd.prog 19 #[v] w (Ret (.bool (vRise r)) w) := by
  unfold SmSR at hsm
  obtain ⟨A, c, rfl, hf⟩ := hR
  have HR := Lib.hid hf
  have e0 : (r.cs.length : Int) ≤ 1048576 := by omega
  have HP := Lib.hid (pr_box (T := 26) hf)
  clear hf
  go_enter Tryd.func19, Tryd.ntmps19
  go_wp2_with fail
  refine (impl_within r.cs.length 1 40 _).mono ?_
  rintro e w2 ⟨rfl, rfl⟩
  cases hi : inB r.cs.length 1 40 with
  | false =>
    have HI := Lib.hid hi; clear hi
    go_wp2_with fail
    go_ret
    exact ⟨ret_bool (by unfold vRise; rw [HI.out]; cases outB r.cs 30 200 <;> rfl), ext_alloc1 _ _⟩
  | true =>
    have HI := Lib.hid hi; clear hi
    go_wp2_with fail
    refine (impl_outside _ r.cs 30 200 _ (HR.out.alloc _)).mono ?_
    rintro e w1 ⟨rfl, hb⟩
    obtain ⟨A1, c1, h0, h1, h2, h3, hs⟩ := (HP.out.ext hb).st
    have HW := Lib.hid (ext_trans (ext_alloc1 _ _) hb)
    clear hb hs
    cases hi : outB r.cs 30 200 with
    | true =>
      have HO := Lib.hid hi; clear hi
      go_wp2_with fail
      go_ret
      exact ⟨ret_bool (by unfold vRise; rw [HO.out]; rfl), HW.out⟩
    | false =>
      have HO := Lib.hid hi; clear hi
      go_wp2_with fail
      refine (impl_within r.reach 200 2000 _).mono ?_
      rintro e w2 ⟨rfl, rfl⟩
      cases hi : inB r.reach 200 2000 with
      | false =>
        have HI2 := Lib.hid hi; clear hi
        go_wp2_with fail
        go_ret
        exact ⟨ret_bool (by unfold vRise; rw [HO.out, HI.out, HI2.out]; rfl), HW.out⟩
      | true =>
        have HI2 := Lib.hid hi; clear hi
        go_wp2_with fail
        refine (impl_within r.setup 0 10000 _).mono ?_
        rintro e w2 ⟨rfl, rfl⟩
        cases hi : inB r.setup 0 10000 with
        | false =>
          have HI3 := Lib.hid hi; clear hi
          go_wp2_with fail
          go_ret
          exact ⟨ret_bool (by unfold vRise; rw [HO.out, HI.out, HI2.out, HI3.out]; rfl), HW.out⟩
        | true =>
          have HI3 := Lib.hid hi; clear hi
          go_wp2_with fail
          refine (impl_within r.easy 0 2000 _).mono ?_
          rintro e w2 ⟨rfl, rfl⟩
          go_wp2_with fail
          go_ret
          exact ⟨ret_bool (by unfold vRise; rw [HO.out, HI.out, HI2.out, HI3.out]; rfl), HW.out⟩

end Go.Proofs.YtibbdlgganmklaaDoor
