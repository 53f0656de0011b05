/-
  Rows of orders that the call owns: blocks, cells, one of them turned, one more behind them.
-/
import Derived.Test.YtbggggaoljpfnaaGreatDoorOrd
import Derived.Test.YtbggggaoljpfnaaGreatDoorAppG
namespace Go.Proofs.YtbggggaoljpfnaaGreatDoor
open Go.ChangeShapes Go.WideShapes Go.ChangeAt Go.RowKit Go.Sort
set_option linter.unusedVariables false
set_option maxRecDepth 100000

theorem ood_nil (w : World) (B : Nat) : OODS w B (.slice none 0 0) [] := World.ownsRow_nil _ _ _ _
theorem ood_lit (w : World) (B : Nat) (h : B ≤ w.heap.size) : OODS (w.alloc (.cells #[] 26)) B (.slice (some ⟨w.heap.size, 0, none⟩) 0 0) [] :=
  World.ownsRow_lit _ #[] 0 h (by simp [maxLen]) (by simp)
theorem OODS.blk {w : World} {base : Nat} {A : Option Addr} {n c : Nat} {l : List OD} (h : OODS w base (.slice A n c) l) (h0 : 0 < l.length) : ∃ g, A = some ⟨g, 0, none⟩ ∧ base ≤ g ∧ g < w.heap.size ∧ n = l.length := by
  have hlt := h.ge
  rcases h.2 with ⟨_, h1⟩ | ⟨g, cap, cur, hv, hg, _⟩
  · omega
  · injection hv with e1 e2 e3
    subst e1
    exact ⟨g, rfl, hg, (hlt g rfl).2, e2⟩
theorem gd_set {α : Type} [Inhabited α] {l : List α} {k i : Nat} {o : α} (hk : k < l.length) : gd (l.set k o) i = if i = k then o else gd l i := by
  unfold gd
  rw [List.getD_eq_getElem?_getD, List.getD_eq_getElem?_getD, List.getElem?_set]
  by_cases h : k = i
  · rw [if_pos h, if_pos hk, if_pos h.symm]; rfl
  · rw [if_neg h, if_neg (fun e => h e.symm)]
theorem OODS.row {w : World} {base : Nat} {v : Value} {l : List OD} (h : OODS w base v l) : ORow w base 26 5 v l.length (cf cOD 5 l) := by
  unfold ORow
  rw [← flat_idx cOD 5 cOD_len (by omega)]
  exact h
theorem OODS.cells5 {w : World} {base g n c : Nat} {l : List OD} (h : OODS w base (.slice (some ⟨g, 0, none⟩) n c) l) (hn : n = l.length) {k : Nat} (hk : k < l.length) :
    w.cell? ⟨g, k * 5, none⟩ = some (.int .i64 (gd l k).id) ∧ w.cell? ⟨g, k * 5 + 1, none⟩ = some (.string (gd l k).cu) ∧ w.cell? ⟨g, k * 5 + 2, none⟩ = some (.int .i64 (gd l k).br) ∧ w.cell? ⟨g, k * 5 + 3, none⟩ = some (.int .i64 (gd l k).due) ∧ w.cell? ⟨g, k * 5 + 4, none⟩ = some (.int .i64 (gd l k).sent) ∧
    ∀ x, w.frozen? ⟨g, x, none⟩ = false := by
  subst hn
  have hr := h.row
  have hc := fun i (hi : i < 5) => hr.cell (j := k * 5 + i) (by omega)
  refine ⟨?_, ?_, ?_, ?_, ?_, hr.frozen⟩
  · have := hc 0 (by omega); rw [cf_at cOD 5 (by omega)] at this; exact this
  · have := hc 1 (by omega); rw [cf_at cOD 5 (by omega)] at this; exact this
  · have := hc 2 (by omega); rw [cf_at cOD 5 (by omega)] at this; exact this
  · have := hc 3 (by omega); rw [cf_at cOD 5 (by omega)] at this; exact this
  · have := hc 4 (by omega); rw [cf_at cOD 5 (by omega)] at this; exact this
/-- Orders of which one has turned: its cells. -/
theorem OODS.of_row {w : World} {base : Nat} {v : Value} {l : List OD} {F : Nat → Value} {k : Nat} {o : OD} (hk : k < l.length) (h : ORow w base 26 5 v l.length F)
    (h1 : ∀ i, i < 5 → F (k * 5 + i) = (cOD o).getD i undef) (h2 : ∀ q i, q < l.length → q ≠ k → i < 5 → F (q * 5 + i) = (cOD (gd l q)).getD i undef) : OODS w base v (l.set k o) := by
  have hl : (l.set k o).length = l.length := List.length_set
  unfold OODS
  refine ORow.flat (l := l.set k o) cOD_len (by omega) (by rw [hl]; exact h) (fun j hj => ?_)
  rw [hl] at hj
  have e : j = j / 5 * 5 + j % 5 := by omega
  rw [e, cf_at cOD 5 (by omega), gd_set hk]
  by_cases hq : j / 5 = k
  · rw [if_pos hq, hq]; exact h1 _ (by omega)
  · rw [if_neg hq]; exact h2 _ _ (by omega) hq (by omega)

theorem info_one : (Tryz.prog.info? 26).map (fun i => (i.zero, i.size, i.bytes)) = some (some (.agg #[.int .i64 0, .string ⟨#[]⟩, .int .i64 0, .int .i64 0, .int .i64 0]), 5, 48) := by kernel_rfl
/-- 'append(list, o)': the order lies in a block of its own. -/
theorem wpList_append_o1 {w0 : World} {ops : Array Oper} {rest : List Oper} {o : Oper} {a : Act} {Q : Exit → Act → World → Prop} (hgd : o.guard = none) (s x : Operand)
    (ho : o.op = .call { callee := .builtin .append, args := #[s, x], argTypes := #[24, 24] })
    (base : Nat) (v : Value) (l : List OD) (y : OD) (hs : a.eval s = v) (hx : a.eval x = .slice (some ⟨w0.heap.size, 0, none⟩) 1 1) (hO : OODS w0 base v l)
    (hl : l.length ≤ 1048576) (hbase : base ≤ w0.heap.size)
    (h : ∀ g cap w', OODS w' base (.slice (some ⟨g, 0, none⟩) (l.length + 1) cap) (l ++ [y]) → Chg (BODS v) w0 w' → wpList Tryz.prog ops Q rest (a.put o.dst (.slice (some ⟨g, 0, none⟩) (l.length + 1) cap)) w') :
    wpList Tryz.prog ops Q (o :: rest) a (w0.alloc (.cells #[.int .i64 y.id, .string y.cu, .int .i64 y.br, .int .i64 y.due, .int .i64 y.sent] 26)) := by
  obtain ⟨i0, hi, hz0, hz1, hz2⟩ := info_parts info_one
  refine wpList_append_lies _ hgd s x _ ho base 26 i0 _ 5 48 Tryz.underlying24 hi hz0 hz1 hz2 rfl (by omega) v l.length (l.flatMap cOD) hs (World.ownsRow.alloc hO _)
    ⟨w0.heap.size, 0, none⟩ 1 1 [.int .i64 y.id, .string y.cu, .int .i64 y.br, .int .i64 y.due, .int .i64 y.sent] hx rfl (World.news_of_block (cs := #[.int .i64 y.id, .string y.cu, .int .i64 y.br, .int .i64 y.due, .int .i64 y.sent]) (t := 26) (fr := (0, 0)) (heap_alloc_new w0 _)) (by simp [Value.oneCell']) (by omega) (by unfold maxLen; omega) (by omega) (by simp; omega) (w0.heap.size + 1) (by simp) ?_
  intro g cap w1 hown hgrow hat hlt
  refine h g cap w1 ?_ ((Chg.of_below (ext_alloc1 _ _) _).trans (Chg.of_grown hgrow))
  unfold OODS
  rw [List.length_append, List.flatMap_append]
  exact hown

end Go.Proofs.YtbggggaoljpfnaaGreatDoor
