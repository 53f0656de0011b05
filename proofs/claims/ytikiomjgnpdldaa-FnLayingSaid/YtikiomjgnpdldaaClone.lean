/-
  slices.Clone of a slice of ints.
-/
import Derived.Test.YtikiomjgnpdldaaApp
import Derived.Lib.SliceRun
namespace Go.Proofs.Ytikiomjgnpdldaa
open Go.ChangeShapes Go.WideShapes Go.ChangeAt Go.RowKit Go.Sort
set_option maxRecDepth 4000

theorem eql_nil (w : World) (a : Option Addr) (n c : Nat) : (binOp .eql 24 (.slice a n c) (.slice none 0 0)).run Try.prog w = .ok (.bool a.isNone) w := Lib.run_eql_slice_nil w _ _ a n c 0 0 Try.underlying24
attribute [local go_sem] eql_nil

theorem clone_ri (v : Value) (xs : List Int) (w : World) (hR : RI w v xs) (hsm : SmI xs) :
    Calls Try.prog 73 #[v] w fun e w' => ∃ A c, e = .returned (.slice A xs.length c) ∧ OI w' w.heap.size (.slice A xs.length c) xs ∧ Below w.heap.size w w' := by
  have hsm' : xs.length ≤ 1048576 := hsm
  clear hsm
  have HR := Lib.hid hR
  obtain ⟨A, c, rfl, hc1, hc2, HA'⟩ := hR.open_
  rcases A with _ | ad
  · have hn : xs = [] := by
      rcases Nat.eq_zero_or_pos xs.length with h0 | h0
      · exact List.eq_nil_of_length_eq_zero h0
      · obtain ⟨ad, h, _⟩ := HA' 0 h0
        cases h
    clear HA'
    subst hn
    go_enter Try.func73, Try.ntmps73
    go_wp2_with fail
    go_ret
    exact ⟨none, 0, rfl, World.ownsRow_nil _ _ _ _, ext_refl _⟩
  · clear HA' hR
    go_enter Try.func73, Try.ntmps73
    go_wp2_with (at_builtin; refine wpList_append_ri rfl _ _ rfl w.heap.size (.slice (some ⟨w.heap.size, 0, none⟩) 0 0) _ [] xs rfl rfl (World.ownsRow_lit _ #[] 0 (Nat.le_refl _) (by simp [maxLen]) (by simp)) (HR.out.alloc _) (by simp) (by omega) (by simp) ?_; intro A1 c1 w1 hO1 hg1)
    go_ret
    simp only [List.length_nil, Nat.zero_add, List.nil_append] at *
    refine ⟨A1, c1, rfl, hO1, ?_⟩
    exact Chg.ext (w0 := w) (ext_alloc1 _ _) hg1 (fun k hk => by simp [BI, Value.ownBlock] at hk; omega)


end Go.Proofs.Ytikiomjgnpdldaa
