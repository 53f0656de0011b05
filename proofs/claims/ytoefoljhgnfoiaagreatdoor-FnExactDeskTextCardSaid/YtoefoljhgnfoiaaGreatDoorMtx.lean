/-
  The marks' texts (markText): m and a number in decimal.
-/
import Derived.Test.YtoefoljhgnfoiaaGreatDoorBase
import Derived.Laws.IdiomStrings
namespace Go.Proofs.YtoefoljhgnfoiaaGreatDoor
open Go.ChangeShapes Go.WideShapes Go.ChangeAt Go.RowKit Go.Sort
set_option linter.unusedVariables false
set_option maxRecDepth 8000

def mdig : Nat → Nat → List UInt8 → List UInt8
  | 0, _, out => out
  | f + 1, k, out => if k = 0 then out else mdig f (k / 10) (UInt8.ofNat (48 + k % 10) :: out)
def mtx (k : Int) : ByteArray := if k ≤ 0 then ⟨#[109, 48]⟩ else ⟨#[109]⟩ ++ ⟨(mdig 20 k.toNat []).toArray⟩
theorem cat_one (x : UInt8) (l : List UInt8) : (⟨#[x]⟩ : ByteArray) ++ ⟨l.toArray⟩ = ⟨(x :: l).toArray⟩ := by
  apply ByteArray.ext
  simp [ByteArray.data_append]

end Go.Proofs.YtoefoljhgnfoiaaGreatDoor
