/-
  The reference's l01Split.
-/
import Derived.Test.YtibbdlgganmklaaDoorSplP
import Derived.Test.YtibbdlgganmklaaDoorStr
import Derived.Test.YtibbdlgganmklaaDoorEnv
import Derived.Test.YtibbdlgganmklaaDoorName
namespace Go.Proofs.YtibbdlgganmklaaDoor
open Go.ChangeShapes Go.WideShapes Go.ChangeAt Go.RowKit Go.Sort
set_option linter.unusedVariables false
set_option maxRecDepth 8000

/-- The parts, as texts. -/
def spb (b : UInt8) (s : ByteArray) : List ByteArray := (splL b s.data.toList).map bsq
theorem spb_len (b : UInt8) (s : ByteArray) : (spb b s).length ≤ s.size + 1 := by
  unfold spb; rw [List.length_map, ← size_toList]; exact splL_len b _
theorem ext_bsq (s : ByteArray) {p q : Nat} (h : p ≤ q) : s.extract p q = bsq ((s.data.toList.drop p).take (q - p)) := by
  apply ba_ext
  rw [Lib.extract_data, bsq_list]
theorem ext_end (s : ByteArray) (p : Nat) : s.extract p s.size = bsq (s.data.toList.drop p) := by
  apply ba_ext
  rw [Lib.extract_to_end, bsq_list]

end Go.Proofs.YtibbdlgganmklaaDoor
