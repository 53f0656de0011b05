/-
  Valid entries.
-/
import Derived.Test.YtoefoljhgnfoiaaGreatDoorLogP
import Derived.Test.YtoefoljhgnfoiaaGreatDoorEnt
import Derived.Test.YtoefoljhgnfoiaaGreatDoorSmall
import Derived.Test.YtoefoljhgnfoiaaGreatDoorName
namespace Go.Proofs.YtoefoljhgnfoiaaGreatDoor
open Go.ChangeShapes Go.WideShapes Go.ChangeAt Go.RowKit Go.Sort
set_option linter.unusedVariables false
set_option maxRecDepth 8000

theorem sm_len {o : EN} (h : SmEN o) : LenEN o := by unfold SmEN at h; unfold LenEN maxLen; omega
set_option maxHeartbeats 1600000 in
theorem impl_okEn (v : Value) (o : EN) (w : World) (hl : LenEN o) (ha : REN w v o) :
    Calls Tryz.prog 86 #[v] w (Ret (.bool (vEn o)) w) := by
  obtain rfl : v = _ := ha
  have HN := Lib.hid (fun w => impl_IsName o.what hl w)
  clear hl
  go_enter Tryz.func86, Tryz.ntmps86
  go_wp2_with fail
  refine (impl_within o.day 0 100000 _).mono ?_
  rintro e w1 ⟨rfl, rfl⟩
  cases h1 : inB o.day 0 100000 with
  | false =>
    have HX : Hid (vEn o = false) := Lib.hid (by unfold vEn; rw [h1]; rfl)
    clear h1
    go_wp2_with fail
    go_ret
    exact ⟨ret_bool HX.out.symm, ext_alloc1 _ _⟩
  | true =>
    have H1 := Lib.hid h1; clear h1
    go_wp2_with fail
    refine (show Calls _ _ _ _ _ from HN.out _).mono ?_
    rintro e w1 ⟨rfl, rfl⟩
    cases h2 : isN o.what with
    | false =>
      have HX : Hid (vEn o = false) := Lib.hid (by unfold vEn; rw [h2]; simp)
      clear h2
      go_wp2_with fail
      go_ret
      exact ⟨ret_bool HX.out.symm, ext_alloc1 _ _⟩
    | true =>
      have HX : Hid (vEn o = inB o.val (-1000000) 1000000) := Lib.hid (by unfold vEn; rw [H1.out, h2]; rfl)
      clear h2
      go_wp2_with fail
      refine (impl_within o.val (-1000000) 1000000 _).mono ?_
      rintro e w1 ⟨rfl, rfl⟩
      go_wp2_with fail
      go_ret
      exact ⟨ret_bool HX.out.symm, ext_alloc1 _ _⟩

theorem spec_day (n : Int) (w : World) : Calls Tryz.prog 93 #[.int .i64 n] w (RetP (.bool (inB n 0 100000)) w) := by
  go_enter Tryz.func93, Tryz.ntmps93
  go_wp2_with fail
  refine (spec_in n 0 100000 _).mono ?_
  rintro e w1 ⟨rfl, rfl⟩
  go_wp2_with fail
  go_ret
  exact ⟨rfl, rfl⟩
set_option maxHeartbeats 1600000 in
theorem spec_okEn (p : Addr) (o : EN) (w : World) (hl : LenEN o) (hp : PEN w p o) :
    Calls Tryz.prog 77 #[.pointer (some p)] w (RetP (.bool (vEn o)) w) := by
  obtain ⟨h0, h1, h2⟩ := hp
  have HN := Lib.hid (fun w => spec_IsName o.what hl w)
  clear hl
  go_enter Tryz.func77, Tryz.ntmps77
  go_wp2_with fail
  refine (spec_day o.day _).mono ?_
  rintro e w1 ⟨rfl, rfl⟩
  cases h1 : inB o.day 0 100000 with
  | false =>
    have HX : Hid (vEn o = false) := Lib.hid (by unfold vEn; rw [h1]; rfl)
    clear h1
    go_wp2_with fail
    go_ret
    exact ⟨ret_bool HX.out.symm, rfl⟩
  | true =>
    have H1 := Lib.hid h1; clear h1
    go_wp2_with fail
    refine (show Calls _ _ _ _ _ from HN.out _).mono ?_
    rintro e w1 ⟨rfl, rfl⟩
    cases h2 : isN o.what with
    | false =>
      have HX : Hid (vEn o = false) := Lib.hid (by unfold vEn; rw [h2]; simp)
      clear h2
      go_wp2_with fail
      go_ret
      exact ⟨ret_bool HX.out.symm, rfl⟩
    | true =>
      have HX : Hid (vEn o = inB o.val (-1000000) 1000000) := Lib.hid (by unfold vEn; rw [H1.out, h2]; rfl)
      clear h2
      go_wp2_with fail
      refine (spec_in o.val (-1000000) 1000000 _).mono ?_
      rintro e w1 ⟨rfl, rfl⟩
      go_wp2_with fail
      go_ret
      exact ⟨ret_bool HX.out.symm, rfl⟩


end Go.Proofs.YtoefoljhgnfoiaaGreatDoor
