/-
  The small functions on slices of int64 that the laws and the reference share: equality, copies, marks.
-/
import Derived.Test.YtoefoljhgnfoiaaGreatDoorBase
namespace Go.Proofs.YtoefoljhgnfoiaaGreatDoor
open Go.ChangeShapes Go.WideShapes Go.ChangeAt Go.RowKit Go.Sort

theorem eq_take {xs ys : List Int} {k : Nat} (hl : xs.length = ys.length) (hk : k < xs.length) (h : xs.take k = ys.take k) (he : xs.getD k 0 = ys.getD k 0) : xs.take (k+1) = ys.take (k+1) := by
  rw [take_succ_getD hk, take_succ_getD (by omega), h, he]

theorem bne_get {xs ys : List Int} {k : Nat} (h : (xs[k]?.getD 0 != ys[k]?.getD 0) = true) : xs ≠ ys := by
  rintro rfl; simp at h


/-- What is left of a size budget behind a part of n. -/
def szN (left : Int) (n : Nat) : Int := if left < n then -1 else left - n
theorem szN_le (left : Int) (n : Nat) (h : left ≤ 1048576) : szN left n ≤ 1048576 ∧ -1 ≤ szN left n := by unfold szN; split <;> omega

theorem info_int : (Tryz.prog.info? 2).map (fun i => (i.zero, i.size, i.bytes)) = some (some (.int .i64 0), 1, 8) := by kernel_rfl

theorem set_append {xs : List Int} {k : Nat} (hk : k < xs.length) (ys : List Value) (u : Value) (hy : ys.length = k) :
    (ys ++ (List.replicate (xs.length - k) (Value.int .i64 0))).set k u = (ys ++ [u]) ++ List.replicate (xs.length - (k + 1)) (Value.int .i64 0) := by
  obtain ⟨m, hm⟩ : ∃ m, xs.length - k = m + 1 := ⟨xs.length - k - 1, by omega⟩
  rw [hm, show xs.length - (k+1) = m from by omega, List.set_append_right k u (by omega), hy]
  simp [List.replicate_succ]

/-- The marks k, k + 1, .. -/
def marks (k : Int) (n : Nat) : List Int := (List.range n).map fun (i : Nat) => k + (i : Int)
theorem marks_length (k : Int) (n : Nat) : (marks k n).length = n := by simp [marks]
theorem marks_getD (k : Int) (n i : Nat) (h : i < n) : (marks k n).getD i 0 = k + i := by
  simp [marks, List.getD_eq_getElem?_getD, h]
theorem marks_take (k : Int) (n i : Nat) (h : i < n) : (marks k n).take (i + 1) = (marks k n).take i ++ [k + (i : Int)] := by
  rw [take_succ_getD (by rw [marks_length]; exact h), marks_getD k n i h]

theorem set_mark {xs : List Int} {n k : Nat} (hk : k < n) (hn : xs.length = n) (j : Int) (m : List Int) (hm : m.length = k) :
    (m.map (Value.int .i64) ++ (xs.drop k).map (Value.int .i64)).set k (.int .i64 j) = (m ++ [j]).map (Value.int .i64) ++ (xs.drop (k + 1)).map (Value.int .i64) := by
  rw [List.set_append_right k _ (by simp; omega)]
  simp only [List.length_map, hm, Nat.sub_self, List.map_append, List.append_assoc, List.append_cancel_left_eq]
  rw [List.drop_eq_getElem_cons (i := k) (l := xs) (by omega)]
  simp only [List.map_cons, List.set_cons_zero, List.map_nil, List.cons_append, List.nil_append]

/-- The data blocks of a slice. -/
def BI (v : Value) : Nat → Prop := fun k => v.ownBlock = some k
theorem szN_ok {l : Int} {n : Nat} (h : 0 ≤ szN l n) : (n : Int) ≤ l ∧ szN l n = l - n := by
  unfold szN at h ⊢
  split at h
  · omega
  · rename_i hh; rw [if_neg hh]; omega
theorem szN_pos {l : Int} {n : Nat} (h : 0 ≤ szN l n) : 0 ≤ l := by have := szN_ok h; omega

def SmI (xs : List Int) : Prop := xs.length ≤ 1048576

end Go.Proofs.YtoefoljhgnfoiaaGreatDoor
