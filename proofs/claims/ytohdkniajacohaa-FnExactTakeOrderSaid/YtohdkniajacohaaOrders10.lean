/-
  Orders, tenth part: copies of lists, SendBricks.
-/
import Derived.Test.YtohdkniajacohaaOrders9
import Derived.Test.YtohdkniajacohaaApp
import Derived.Lib.SliceRun
namespace Go.Proofs.Ytohdkniajacohaa
open Go.ChangeShapes Go.WideShapes Go.ChangeAt Go.RowKit Go.Sort
set_option linter.unusedVariables false
set_option maxRecDepth 100000

/-- 'append(out, list...)' of orders. -/
theorem wpList_append_od {w : World} {ops : Array Oper} {rest : List Oper} {o : Oper} {a : Act} {Q : Exit → Act → World → Prop} (hgd : o.guard = none) (s x : Operand)
    (ho : o.op = .call { callee := .builtin .append, args := #[s, x], argTypes := #[27, 27] })
    (base : Nat) (v v2 : Value) (l m : List OD) (hs : a.eval s = v) (hx : a.eval x = v2) (hO : OODS w base v l) (hR : RODS w v2 m)
    (hl : l.length ≤ 1048576) (hl2 : m.length ≤ 1048576) (hbase : base ≤ w.heap.size)
    (h : ∀ A c w', OODS w' base (.slice A (l.length + m.length) c) (l ++ m) → Chg (BODS v) w w' → wpList Try.prog ops Q rest (a.put o.dst (.slice A (l.length + m.length) c)) w') : wpList Try.prog ops Q (o :: rest) a w := by
  obtain ⟨i0, hi, hz0, hz1, hz2⟩ := info_parts info_OD
  obtain ⟨A, c, rfl, _, _⟩ := hR.open_
  refine wpList_append_rd hgd s x _ ho base 39 i0 _ 5 48 Try.underlying27 hi hz0 hz1 hz2 rfl (by omega) v l.length (l.flatMap cOD) hs hO A m.length c (m.flatMap cOD) hx hR (fun u hu => by
    obtain ⟨o, _, ho⟩ := List.mem_flatMap.1 hu
    simp only [cOD, List.mem_cons, List.not_mem_nil, or_false] at ho
    rcases ho with rfl | rfl | rfl | rfl | rfl <;> rfl) (by unfold maxLen; omega) (by omega) hbase ?_
  intro v' w' hown hgrow _
  have hO' : OODS w' base v' (l ++ m) := by unfold OODS; simpa using hown
  have hO2 := hO'
  obtain ⟨A', c', rfl, _, _⟩ := hO2.rd.open_
  simp only [List.length_append] at hO' ⊢
  exact h A' c' w' hO' (Chg.of_grown hgrow)
theorem ood_nil (w : World) (B : Nat) : OODS w B (.slice none 0 0) [] := World.ownsRow_nil _ _ _ _
theorem ood_lit (w : World) (B : Nat) (h : B ≤ w.heap.size) : OODS (w.alloc (.cells #[] 39)) B (.slice (some ⟨w.heap.size, 0, none⟩) 0 0) [] :=
  World.ownsRow_lit _ #[] 0 h (by simp [maxLen]) (by simp)
theorem OODS.blk {w : World} {base : Nat} {A : Option Addr} {n c : Nat} {l : List OD} (h : OODS w base (.slice A n c) l) (h0 : 0 < l.length) : ∃ g, A = some ⟨g, 0, none⟩ ∧ base ≤ g ∧ g < w.heap.size ∧ n = l.length := by
  have hlt := h.ge
  rcases h.2 with ⟨_, h1⟩ | ⟨g, cap, cur, hv, hg, _⟩
  · omega
  · injection hv with e1 e2 e3
    subst e1
    exact ⟨g, rfl, hg, (hlt g rfl).2, e2⟩
/-- The result of a function that returns orders and a code. -/
def RetO (M : List OD) (code : Int) (w : World) : Ending → World → Prop := fun e w' => ∃ v, e = .returned (.tuple #[v, .int .i64 code]) ∧ OODS w' w.heap.size v M ∧ SmODS M ∧ Below w.heap.size w w'

theorem eql_nil_od (w : World) (a : Option Addr) (n c : Nat) : (binOp .eql 27 (.slice a n c) (.slice none 0 0)).run Try.prog w = .ok (.bool a.isNone) w := Lib.run_eql_slice_nil w _ _ a n c 0 0 Try.underlying27
attribute [local go_sem] eql_nil_od

set_option maxHeartbeats 800000 in
theorem od_clone (v : Value) (l : List OD) (hl : l.length ≤ 1048576) (w : World) (ha : RODS w v l) :
    Calls Try.prog 36 #[v] w fun e w' => ∃ A c, e = .returned (.slice A l.length c) ∧ OODS w' w.heap.size (.slice A l.length c) l ∧ Below w.heap.size w w' := by
  obtain ⟨A, c, rfl, hc1, hc2⟩ := ha.open_
  have HA := Lib.hid ha
  obtain ⟨_, A', c', hv', _, _, h4⟩ := ha
  injection hv' with q1 q2 q3
  subst q1 q3
  unfold maxLen at hc2
  cases A with
  | none =>
    have hl0 : l = [] := by
      rcases Nat.eq_zero_or_pos l.length with h | h
      · exact List.eq_nil_of_length_eq_zero h
      · obtain ⟨ad, h, _⟩ := h4 h; cases h
    subst hl0
    clear h4
    go_enter Try.func36, Try.ntmps36
    go_wp2_with fail
    go_ret
    exact ⟨none, 0, rfl, ood_nil _ _, ext_refl _⟩
  | some ad =>
    clear h4
    go_enter Try.func36, Try.ntmps36
    go_wp2_with (at_builtin; refine wpList_append_od rfl _ _ rfl w.heap.size (.slice (some ⟨w.heap.size, 0, none⟩) 0 0) _ [] l rfl rfl (ood_lit w _ (Nat.le_refl _)) (HA.out.alloc _) (by simp) hl (by simp) ?_; intro A1 c1 w1 hO1 hg1)
    go_ret
    simp only [List.length_nil, Nat.zero_add, List.nil_append] at *
    refine ⟨A1, c1, rfl, hO1, ?_⟩
    exact Chg.ext (w0 := w) (ext_alloc1 _ _) hg1 (fun k hk => by simp [BODS, BI, Value.ownBlock] at hk; omega)

theorem gd_set {α : Type} [Inhabited α] {l : List α} {k i : Nat} {o : α} (hk : k < l.length) : gd (l.set k o) i = if i = k then o else gd l i := by
  unfold gd
  rw [List.getD_eq_getElem?_getD, List.getD_eq_getElem?_getD, List.getElem?_set]
  by_cases h : k = i
  · rw [if_pos h, if_pos hk, if_pos h.symm]; rfl
  · rw [if_neg h, if_neg (fun e => h e.symm)]
theorem OODS.row {w : World} {base : Nat} {v : Value} {l : List OD} (h : OODS w base v l) : ORow w base 39 5 v l.length (cf cOD 5 l) := by
  unfold ORow
  rw [← flat_idx cOD 5 cOD_len (by omega)]
  exact h
theorem OODS.cells5 {w : World} {base g n c : Nat} {l : List OD} (h : OODS w base (.slice (some ⟨g, 0, none⟩) n c) l) (hn : n = l.length) {k : Nat} (hk : k < l.length) :
    w.cell? ⟨g, k * 5, none⟩ = some (.int .i64 (gd l k).id) ∧ w.cell? ⟨g, k * 5 + 1, none⟩ = some (.string (gd l k).cu) ∧ w.cell? ⟨g, k * 5 + 2, none⟩ = some (.int .i64 (gd l k).br) ∧ w.cell? ⟨g, k * 5 + 3, none⟩ = some (.int .i64 (gd l k).due) ∧ w.cell? ⟨g, k * 5 + 4, none⟩ = some (.int .i64 (gd l k).sent) ∧
    ∀ x, w.frozen? ⟨g, x, none⟩ = false := by
  subst hn
  have hr := h.row
  have hc := fun i (hi : i < 5) => hr.cell (j := k * 5 + i) (by omega)
  refine ⟨?_, ?_, ?_, ?_, ?_, hr.frozen⟩
  · have := hc 0 (by omega); rw [cf_at cOD 5 (by omega)] at this; exact this
  · have := hc 1 (by omega); rw [cf_at cOD 5 (by omega)] at this; exact this
  · have := hc 2 (by omega); rw [cf_at cOD 5 (by omega)] at this; exact this
  · have := hc 3 (by omega); rw [cf_at cOD 5 (by omega)] at this; exact this
  · have := hc 4 (by omega); rw [cf_at cOD 5 (by omega)] at this; exact this
/-- Orders of which one has turned: its cells. -/
theorem OODS.of_row {w : World} {base : Nat} {v : Value} {l : List OD} {F : Nat → Value} {k : Nat} {o : OD} (hk : k < l.length) (h : ORow w base 39 5 v l.length F)
    (h1 : ∀ i, i < 5 → F (k * 5 + i) = (cOD o).getD i undef) (h2 : ∀ q i, q < l.length → q ≠ k → i < 5 → F (q * 5 + i) = (cOD (gd l q)).getD i undef) : OODS w base v (l.set k o) := by
  have hl : (l.set k o).length = l.length := List.length_set
  unfold OODS
  refine ORow.flat (l := l.set k o) cOD_len (by omega) (by rw [hl]; exact h) (fun j hj => ?_)
  rw [hl] at hj
  have e : j = j / 5 * 5 + j % 5 := by omega
  rw [e, cf_at cOD 5 (by omega), gd_set hk]
  by_cases hq : j / 5 = k
  · rw [if_pos hq, hq]; exact h1 _ (by omega)
  · rw [if_neg hq]; exact h2 _ _ (by omega) hq (by omega)
def sentO (o : OD) (n : Int) : OD := ⟨o.id, o.cu, o.br, o.due, o.sent + n⟩
theorem tot_set {l : List OD} {k : Nat} {o : OD} (hk : k < l.length) (h : o.cu = (gd l k).cu) : totOD (l.set k o) = totOD l := by
  unfold totOD
  congr 1
  apply List.ext_getElem (by simp)
  intro i h1 h2
  simp only [List.getElem_map, List.getElem_set]
  split
  · rename_i he; subst he; rw [h, gd_eq hk]
  · rfl
theorem sm_set {l : List OD} {k : Nat} {o : OD} (hk : k < l.length) (h : o.cu = (gd l k).cu) (hs : SmODS l) : SmODS (l.set k o) := by
  unfold SmODS at hs ⊢
  rw [tot_set hk h, List.length_set]; exact hs
def mSendBricks (l : List OD) (id n : Int) : List OD × Int :=
  bif vOrders l then (bif inB n 1 1000000 then (bif known l id then (bif decide (opn (gd l (lb l id)) < n) then ([], 5) else (l.set (lb l id) (sentO (gd l (lb l id)) n), 0)) else ([], 3)) else ([], 2)) else ([], 1)

end Go.Proofs.Ytohdkniajacohaa
