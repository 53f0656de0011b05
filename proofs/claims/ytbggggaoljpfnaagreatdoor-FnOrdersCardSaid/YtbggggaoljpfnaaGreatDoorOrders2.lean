/-
  Orders, second part: valid orders, valid lists.
-/
import Derived.Test.YtbggggaoljpfnaaGreatDoorOrders
import Derived.BigQuiet
namespace Go.Proofs.YtbggggaoljpfnaaGreatDoor
open Go.ChangeShapes Go.WideShapes Go.ChangeAt Go.RowKit Go.Sort
set_option linter.unusedVariables false

/-- A valid order. -/
def oneO (o : OD) : Bool := inB o.id 1 9999 && isN o.cu && inB o.br 1 1000000 && inB o.due 0 10000 && inB o.sent 0 o.br
theorem oneO_iff {o : OD} : oneO o = true ↔ (1 ≤ o.id ∧ o.id ≤ 9999) ∧ isN o.cu = true ∧ (1 ≤ o.br ∧ o.br ≤ 1000000) ∧ (0 ≤ o.due ∧ o.due ≤ 10000) ∧ (0 ≤ o.sent ∧ o.sent ≤ o.br) := by
  simp only [oneO, Bool.and_eq_true, inB_iff, and_assoc]
/-- Order k is valid, and its number greater than that of the one before. -/
def okAt (l : List OD) (k : Nat) : Bool := oneO (gd l k) && (k == 0 || decide ((gd l (k - 1)).id < (gd l k).id))
/-- A valid list. -/
def vOrders (l : List OD) : Bool := (List.range l.length).all (okAt l) && decide (l.length ≤ 30)

set_option maxHeartbeats 1600000 in
theorem impl_one (v : Value) (o : OD) (w : World) (hl : LenOD o) (ha : ROD w v o) :
    Calls Tryz.prog 37 #[v] w (Ret (.bool (oneO o)) w) := by
  obtain rfl : v = _ := ha
  have HN := Lib.hid (fun w => impl_IsName o.cu hl w)
  clear hl
  go_enter Tryz.func37, Tryz.ntmps37
  go_wp2_with fail
  refine (impl_within o.id 1 9999 _).mono ?_
  rintro e w1 ⟨rfl, rfl⟩
  cases h1 : inB o.id 1 9999 with
  | false =>
    have HX : Hid (oneO o = false) := Lib.hid (by unfold oneO; rw [h1]; rfl)
    clear h1
    go_wp2_with fail
    go_ret
    exact ⟨ret_bool HX.out.symm, ext_alloc1 _ _⟩
  | true =>
    have H1 := Lib.hid h1; clear h1
    go_wp2_with fail
    refine (show Calls _ _ _ _ _ from HN.out _).mono ?_
    rintro e w1 ⟨rfl, rfl⟩
    cases h2 : isN o.cu with
    | false =>
      have HX : Hid (oneO o = false) := Lib.hid (by unfold oneO; rw [h2]; simp)
      clear h2
      go_wp2_with fail
      go_ret
      exact ⟨ret_bool HX.out.symm, ext_alloc1 _ _⟩
    | true =>
      have H2 := Lib.hid h2; clear h2
      go_wp2_with fail
      refine (impl_within o.br 1 1000000 _).mono ?_
      rintro e w1 ⟨rfl, rfl⟩
      cases h3 : inB o.br 1 1000000 with
      | false =>
        have HX : Hid (oneO o = false) := Lib.hid (by unfold oneO; rw [h3]; simp)
        clear h3
        go_wp2_with fail
        go_ret
        exact ⟨ret_bool HX.out.symm, ext_alloc1 _ _⟩
      | true =>
        have H3 := Lib.hid h3; clear h3
        go_wp2_with fail
        refine (impl_within o.due 0 10000 _).mono ?_
        rintro e w1 ⟨rfl, rfl⟩
        cases h4 : inB o.due 0 10000 with
        | false =>
          have HX : Hid (oneO o = false) := Lib.hid (by unfold oneO; rw [h4]; simp)
          clear h4
          go_wp2_with fail
          go_ret
          exact ⟨ret_bool HX.out.symm, ext_alloc1 _ _⟩
        | true =>
          have HX : Hid (oneO o = inB o.sent 0 o.br) := Lib.hid (by unfold oneO; rw [H1.out, H2.out, H3.out, h4]; rfl)
          clear h4
          go_wp2_with fail
          refine (impl_within o.sent 0 o.br _).mono ?_
          rintro e w1 ⟨rfl, rfl⟩
          go_wp2_with fail
          go_ret
          exact ⟨ret_bool HX.out.symm, ext_alloc1 _ _⟩

set_option maxHeartbeats 3200000 in
theorem spec_one (p : Addr) (o : OD) (hl : LenOD o) (w : World) (hP : POD w p o) :
    Calls Tryz.prog 42 #[.pointer (some p)] w (Ret (.bool (oneO o)) w) := by
  obtain ⟨h0, h1, h2, h3, h4⟩ := hP
  have HC1 := Lib.hid (fun w => spec_in o.id 1 9999 w)
  have HC2 := Lib.hid (fun w => spec_IsName o.cu hl w)
  have HC3 := Lib.hid (fun w => spec_in o.br 1 1000000 w)
  have HC4 := Lib.hid (fun w => spec_in o.due 0 10000 w)
  have HC5 := Lib.hid (fun w => spec_in o.sent 0 o.br w)
  clear hl
  by_cases c1 : inB o.id 1 9999 = false
  · have HX : Hid (oneO o = false) := Lib.hid (by unfold oneO; rw [c1]; simp)
    rw [c1] at HC1
    clear c1
    go_enter Tryz.func42, Tryz.ntmps42
    go_wp2_with fail
    go_quiet ((first
      | (go_at_call 48; (first | (with_reducible exact quiet_p (HC1.out _)) | (with_reducible exact quiet_p (HC3.out _)) | (with_reducible exact quiet_p (HC4.out _)) | (with_reducible exact quiet_p (HC5.out _))))
      | (go_at_call 70; exact quiet_p (HC2.out _))))
    go_wp2_with fail
    go_ret
    exact ⟨ret_bool HX.out.symm, ext_drewN (ext_refl _) _⟩
  replace c1 : inB o.id 1 9999 = true := by simpa using c1
  rw [c1] at HC1
  have H1 := Lib.hid c1; clear c1
  by_cases c2 : isN o.cu = false
  · have HX : Hid (oneO o = false) := Lib.hid (by unfold oneO; rw [c2]; simp)
    rw [c2] at HC2
    clear c2
    go_enter Tryz.func42, Tryz.ntmps42
    go_wp2_with fail
    go_quiet ((first
      | (go_at_call 48; (first | (with_reducible exact quiet_p (HC1.out _)) | (with_reducible exact quiet_p (HC3.out _)) | (with_reducible exact quiet_p (HC4.out _)) | (with_reducible exact quiet_p (HC5.out _))))
      | (go_at_call 70; exact quiet_p (HC2.out _))))
    go_wp2_with fail
    go_ret
    exact ⟨ret_bool HX.out.symm, ext_drewN (ext_refl _) _⟩
  replace c2 : isN o.cu = true := by simpa using c2
  rw [c2] at HC2
  have H2 := Lib.hid c2; clear c2
  by_cases c3 : inB o.br 1 1000000 = false
  · have HX : Hid (oneO o = false) := Lib.hid (by unfold oneO; rw [c3]; simp)
    rw [c3] at HC3
    clear c3
    go_enter Tryz.func42, Tryz.ntmps42
    go_wp2_with fail
    go_quiet ((first
      | (go_at_call 48; (first | (with_reducible exact quiet_p (HC1.out _)) | (with_reducible exact quiet_p (HC3.out _)) | (with_reducible exact quiet_p (HC4.out _)) | (with_reducible exact quiet_p (HC5.out _))))
      | (go_at_call 70; exact quiet_p (HC2.out _))))
    go_wp2_with fail
    go_ret
    exact ⟨ret_bool HX.out.symm, ext_drewN (ext_refl _) _⟩
  replace c3 : inB o.br 1 1000000 = true := by simpa using c3
  rw [c3] at HC3
  have H3 := Lib.hid c3; clear c3
  by_cases c4 : inB o.due 0 10000 = false
  · have HX : Hid (oneO o = false) := Lib.hid (by unfold oneO; rw [c4]; simp)
    rw [c4] at HC4
    clear c4
    go_enter Tryz.func42, Tryz.ntmps42
    go_wp2_with fail
    go_quiet ((first
      | (go_at_call 48; (first | (with_reducible exact quiet_p (HC1.out _)) | (with_reducible exact quiet_p (HC3.out _)) | (with_reducible exact quiet_p (HC4.out _)) | (with_reducible exact quiet_p (HC5.out _))))
      | (go_at_call 70; exact quiet_p (HC2.out _))))
    go_wp2_with fail
    go_ret
    exact ⟨ret_bool HX.out.symm, ext_drewN (ext_refl _) _⟩
  replace c4 : inB o.due 0 10000 = true := by simpa using c4
  rw [c4] at HC4
  have H4 := Lib.hid c4; clear c4
  have HX : Hid (oneO o = inB o.sent 0 o.br) := Lib.hid (by unfold oneO; rw [H1.out, H2.out, H3.out, H4.out]; rfl)
  skip
  go_enter Tryz.func42, Tryz.ntmps42
  go_wp2_with fail
  go_quiet ((first
    | (go_at_call 48; (first | (with_reducible exact quiet_p (HC1.out _)) | (with_reducible exact quiet_p (HC3.out _)) | (with_reducible exact quiet_p (HC4.out _)) | (with_reducible exact quiet_p (HC5.out _))))
    | (go_at_call 70; exact quiet_p (HC2.out _))))
  go_wp2_with fail
  go_ret
  exact ⟨ret_bool HX.out.symm, ext_drewN (ext_refl _) _⟩

theorem impl_open (v : Value) (o : OD) (w : World) (ha : ROD w v o) (h : oneO o = true) :
    Calls Tryz.prog 47 #[v] w (Ret (.int .i64 (o.br - o.sent)) w) := by
  obtain rfl : v = _ := ha
  obtain ⟨_, _, g3, _, g5⟩ := oneO_iff.1 h
  clear h
  go_enter Tryz.func47, Tryz.ntmps47
  go_wp2_with fail
  go_ret
  exact ⟨rfl, ext_alloc1 _ _⟩

end Go.Proofs.YtbggggaoljpfnaaGreatDoor
