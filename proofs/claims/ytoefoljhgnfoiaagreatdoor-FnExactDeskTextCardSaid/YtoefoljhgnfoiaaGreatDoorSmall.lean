/-
  Small functions of the reference and the program that everything else calls: ranges, least and greatest, searches in slices of ints.
-/
import Derived.Test.YtoefoljhgnfoiaaGreatDoorInts
namespace Go.Proofs.YtoefoljhgnfoiaaGreatDoor
open Go.ChangeShapes Go.WideShapes Go.ChangeAt Go.RowKit Go.Sort

/-- Is n between lo and hi? -/
def inB (n lo hi : Int) : Bool := decide (lo ≤ n ∧ n ≤ hi)
theorem inB_yes {n lo hi : Int} (h1 : lo ≤ n) (h2 : n ≤ hi) : inB n lo hi = true := by simp [inB, h1, h2]
theorem inB_no {n lo hi : Int} (h : ¬ (lo ≤ n ∧ n ≤ hi)) : inB n lo hi = false := by simp [inB]; omega
theorem inB_iff {n lo hi : Int} : inB n lo hi = true ↔ lo ≤ n ∧ n ≤ hi := by simp [inB]
theorem inB_false {n lo hi : Int} : inB n lo hi = false ↔ ¬ (lo ≤ n ∧ n ≤ hi) := by simp [inB]

theorem any_take_succ (p : Int → Bool) {xs : List Int} {k : Nat} (hk : k < xs.length) : (xs.take (k + 1)).any p = ((xs.take k).any p || p (xs.getD k 0)) := by
  rw [take_succ_getD hk]; simp
theorem any_hit (p : Int → Bool) {xs : List Int} {k : Nat} (hk : k < xs.length) (h : p (xs.getD k 0) = true) : xs.any p = true := by
  have h1 := any_take_succ p hk
  rw [h, Bool.or_true] at h1
  rw [List.any_eq_true] at h1 ⊢
  obtain ⟨x, hx, hp⟩ := h1
  exact ⟨x, List.mem_of_mem_take hx, hp⟩


theorem RetP.bool {P : Program} {f : FuncId} {args : Array Value} {w : World} {b c : Bool} (h : Calls P f args w (RetP (.bool b) w)) (e : b = c) : Calls P f args w (RetP (.bool c) w) := e ▸ h
theorem spec_in (n lo hi : Int) (w : World) : Calls Tryz.prog 48 #[.int .i64 n, .int .i64 lo, .int .i64 hi] w (RetP (.bool (inB n lo hi)) w) := by
  by_cases h1 : lo ≤ n
  · by_cases h2 : n ≤ hi
    · have HI := Lib.hid (inB_yes h1 h2)
      go_enter Tryz.func48, Tryz.ntmps48
      go_wp2
      go_ret
      exact ⟨ret_bool (by rw [HI.out]), rfl⟩
    · have HI := Lib.hid (inB_no (n := n) (lo := lo) (hi := hi) (by omega))
      go_enter Tryz.func48, Tryz.ntmps48
      go_wp2
      go_ret
      exact ⟨ret_bool (by rw [HI.out]), rfl⟩
  · have HI := Lib.hid (inB_no (n := n) (lo := lo) (hi := hi) (by omega))
    have h1' : decide (n ≥ lo) = false := by simp; omega
    go_enter Tryz.func48, Tryz.ntmps48
    go_wp2
    go_ret
    exact ⟨ret_bool (by rw [HI.out]), rfl⟩
theorem impl_within (n lo hi : Int) (w : World) : Calls Tryz.prog 33 #[.int .i64 n, .int .i64 lo, .int .i64 hi] w (RetP (.bool (inB n lo hi)) w) := by
  by_cases h1 : lo ≤ n
  · by_cases h2 : n ≤ hi
    · have HI := Lib.hid (inB_yes h1 h2)
      go_enter Tryz.func33, Tryz.ntmps33
      go_wp2
      go_ret
      exact ⟨ret_bool (by rw [HI.out]), rfl⟩
    · have HI := Lib.hid (inB_no (n := n) (lo := lo) (hi := hi) (by omega))
      go_enter Tryz.func33, Tryz.ntmps33
      go_wp2
      go_ret
      exact ⟨ret_bool (by rw [HI.out]), rfl⟩
  · have HI := Lib.hid (inB_no (n := n) (lo := lo) (hi := hi) (by omega))
    have h1' : decide (n ≥ lo) = false := by simp; omega
    go_enter Tryz.func33, Tryz.ntmps33
    go_wp2
    go_ret
    exact ⟨ret_bool (by rw [HI.out]), rfl⟩

def minI (a b : Int) : Int := if a < b then a else b
def maxI (a b : Int) : Int := if b < a then a else b
theorem minI_eq (a b : Int) : minI a b = min a b := by unfold minI; omega
theorem maxI_eq (a b : Int) : maxI a b = max a b := by unfold maxI; omega

/-- Is a number of the list outside lo .. hi? -/
def outB (xs : List Int) (lo hi : Int) : Bool := xs.any fun n => !inB n lo hi


/-- Do the first k numbers rise, each from lo to hi? -/
def rises (xs : List Int) (lo hi : Int) (k : Nat) : Bool := (List.range k).all fun i => inB (xs.getD i 0) lo hi && (i == 0 || decide (xs.getD (i - 1) 0 < xs.getD i 0))
def risesB (xs : List Int) (lo hi : Int) : Bool := rises xs lo hi xs.length
theorem rises_succ (xs : List Int) (lo hi : Int) (k : Nat) : rises xs lo hi (k + 1) = (rises xs lo hi k && (inB (xs.getD k 0) lo hi && (k == 0 || decide (xs.getD (k - 1) 0 < xs.getD k 0)))) := by
  simp [rises, List.range_succ]
theorem rises_no {xs : List Int} {lo hi : Int} {k : Nat} (hk : k < xs.length) (h : (inB (xs.getD k 0) lo hi && (k == 0 || decide (xs.getD (k - 1) 0 < xs.getD k 0))) = false) : risesB xs lo hi = false := by
  unfold risesB rises
  rw [List.all_eq_false]
  exact ⟨k, by simpa using hk, by rw [h]; simp⟩



end Go.Proofs.YtoefoljhgnfoiaaGreatDoor
