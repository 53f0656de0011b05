/-
  append of one int, and of a slice of ints, onto a row of the call's own.
-/
import Derived.Test.YtbggggaoljpfnaaGreatDoorInts
import Derived.Test.YtbggggaoljpfnaaGreatDoorAppG
import Derived.Maps.AppendAt
namespace Go.Proofs.YtbggggaoljpfnaaGreatDoor
open Go.ChangeShapes Go.WideShapes Go.ChangeAt Go.RowKit Go.Sort

/-- 'out = append(out, n)': the value lies in a block of its own. -/
theorem wpList_append_i {w0 : World} {ops : Array Oper} {rest : List Oper} {o : Oper} {a : Act} {Q : Exit → Act → World → Prop} (hgd : o.guard = none) (s x : Operand)
    (ho : o.op = .call { callee := .builtin .append, args := #[s, x], argTypes := #[38, 38] })
    (base : Nat) (v : Value) (xs : List Int) (n : Int) (hs : a.eval s = v) (hx : a.eval x = .slice (some ⟨w0.heap.size, 0, none⟩) 1 1) (hO : OI w0 base v xs)
    (hl : xs.length ≤ 1099511627776) (hbase : base ≤ w0.heap.size)
    (h : ∀ g cap w', OI w' base (.slice (some ⟨g, 0, none⟩) (xs.length + 1) cap) (xs ++ [n]) → Chg (BI v) w0 w' → w0.heap.size < w'.heap.size → wpList Tryz.prog ops Q rest (a.put o.dst (.slice (some ⟨g, 0, none⟩) (xs.length + 1) cap)) w') :
    wpList Tryz.prog ops Q (o :: rest) a (w0.alloc (.cells #[.int .i64 n] 2)) := by
  obtain ⟨i0, hi, hz0, hz1, hz2⟩ := info_parts info_int
  refine wpList_append_lies _ hgd s x _ ho base 2 i0 (.int .i64 0) 1 8 Tryz.underlying38 hi hz0 hz1 hz2 rfl (by omega) v xs.length (xs.map (Value.int .i64)) hs (World.ownsRow.alloc hO _)
    ⟨w0.heap.size, 0, none⟩ 1 1 [.int .i64 n] hx rfl (cell_one_new _ _ _) (by simp [Value.oneCell']) (by omega) (by unfold maxLen; omega) (by omega) (by simp; omega) (w0.heap.size + 1) (by simp) ?_
  intro g cap w1 hown hgrow hat hlt
  refine h g cap w1 ?_ ((Chg.of_below (ext_alloc1 _ _) _).trans (Chg.of_grown hgrow)) (by have := hgrow.size; simp at this; omega)
  unfold OI
  simpa using hown

theorem wpList_append_ri {w : World} {ops : Array Oper} {rest : List Oper} {o : Oper} {a : Act} {Q : Exit → Act → World → Prop} (hgd : o.guard = none) (s x : Operand)
    (ho : o.op = .call { callee := .builtin .append, args := #[s, x], argTypes := #[38, 38] })
    (base : Nat) (v v2 : Value) (xs ys : List Int) (hs : a.eval s = v) (hx : a.eval x = v2) (hO : OI w base v xs) (hR : RI w v2 ys)
    (hl : xs.length ≤ 1099511627776) (hl2 : ys.length ≤ 1099511627776) (hbase : base ≤ w.heap.size)
    (h : ∀ A c w', OI w' base (.slice A (xs.length + ys.length) c) (xs ++ ys) → Chg (BI v) w w' → wpList Tryz.prog ops Q rest (a.put o.dst (.slice A (xs.length + ys.length) c)) w') : wpList Tryz.prog ops Q (o :: rest) a w := by
  obtain ⟨i0, hi, hz0, hz1, hz2⟩ := info_parts info_int
  have hR' := hR
  obtain ⟨_, A, c, rfl, _⟩ := hR'
  refine wpList_append_rd hgd s x _ ho base 2 i0 (.int .i64 0) 1 8 Tryz.underlying38 hi hz0 hz1 hz2 rfl (by omega) v xs.length (xs.map (Value.int .i64)) hs hO A ys.length c (ys.map (Value.int .i64)) hx hR (by simp [Value.oneCell']) (by unfold maxLen; omega) (by omega) hbase ?_
  intro v' w' hown hgrow _
  have hO' : OI w' base v' (xs ++ ys) := by unfold OI; simpa using hown
  have hO2 := hO'
  obtain ⟨_, A', c', rfl, _⟩ := hO2.rd
  simp only [List.length_append] at hO' ⊢
  exact h A' c' w' hO' (Chg.of_grown hgrow)


end Go.Proofs.YtbggggaoljpfnaaGreatDoor
