/-
  The console: DeskWords.
-/
import Derived.Test.YtfbeflpmjibmmaaStr
import Derived.Test.YtfbeflpmjibmmaaRow
namespace Go.Proofs.Ytfbeflpmjibmmaa
open Go.ChangeShapes Go.WideShapes Go.ChangeAt Go.RowKit Go.Sort
set_option linter.unusedVariables false
set_option maxRecDepth 100000
attribute [local go_sem ↓] Go.wp_at_zero Go.wp_at_succ

/-- The words with which commands begin. -/
def dwL : List ByteArray := [⟨#[98, 111, 110, 100]⟩, ⟨#[99, 104, 101, 99, 107]⟩, ⟨#[99, 111, 117, 110, 116]⟩, ⟨#[101, 110, 116, 101, 114]⟩, ⟨#[102, 111, 114, 109, 97, 116]⟩, ⟨#[104, 101, 105, 103, 104, 116]⟩, ⟨#[108, 101, 110, 103, 116, 104]⟩, ⟨#[108, 111, 103]⟩, ⟨#[112, 97, 105, 114]⟩, ⟨#[115, 104, 111, 119]⟩, ⟨#[119, 97, 108, 108]⟩]
def dwC : Array Value := (dwL.map Value.string).toArray
def RetW (w : World) : Ending → World → Prop := fun e w' => ∃ v, e = .returned v ∧ OStr w' w.heap.size v dwL ∧ SmStr dwL ∧ Below w.heap.size w w'
theorem RetW.lit (w : World) : RetW w (.returned (.slice (some ⟨w.heap.size, 0, none⟩) 11 11)) (w.alloc (.cells dwC 9)) := by
  refine ⟨_, rfl, ?_, (show 11 ≤ 1048576 by omega), ext_alloc1 _ _⟩
  exact World.ownsRow_lit w dwC 11 (Nat.le_refl _) (by simp [maxLen]) rfl
theorem spec_words28 (w : World) : Calls Try.prog 15 #[] w (RetW w) := by
  have HL := Lib.hid (RetW.lit w)
  unfold dwC dwL at HL
  go_enter Try.func15, Try.ntmps15
  go_wp2_with fail
  go_ret
  exact HL.out
theorem spec_DeskWords (w : World) : Calls Try.prog 5 #[] w (RetW w) := by
  go_enter Try.func5, Try.ntmps5
  go_wp2_with fail
  refine (spec_words28 w).mono ?_
  rintro e w' ⟨v, rfl, h1, h2, h3⟩
  go_wp2_with fail
  go_ret
  exact ⟨v, rfl, h1, h2, h3⟩
theorem impl_DeskWords (w : World) : Calls Try.prog 6 #[] w (RetW w) := by
  have HL := Lib.hid (RetW.lit w)
  unfold dwC dwL at HL
  go_enter Try.func6, Try.ntmps6
  go_wp2_with fail
  go_ret
  exact HL.out
end Go.Proofs.Ytfbeflpmjibmmaa
