/-
  slices.Insert of one order.
-/
import Derived.Test.YtohdkniajacohaaOrders11
import Derived.Deep.RegionLaw
import Derived.Lib.SliceRun
import Derived.Lib.AppendZerosOnto
import Derived.Lib.Overlaps
import Derived.Laws.Externs
import Derived.Laws.IdiomCopy
namespace Go.Proofs.Ytohdkniajacohaa
open Go.ChangeShapes Go.WideShapes Go.ChangeAt Go.RowKit Go.Sort
set_option linter.unusedVariables false
set_option maxRecDepth 100000

/-- 'copy' by an equation. -/
theorem wpList_copy_eq {P : Program} (w : World) {ops : Array Oper} {rest : List Oper} {o : Oper} {a : Act} {Q : Exit → Act → World → Prop} (hgd : o.guard = none) (d s : Operand) (t t' : TypeId)
    (ho : o.op = .call { callee := .builtin .copy, args := #[d, s], argTypes := #[t, t'] }) (v u : Value) (hd : a.eval d = v) (hs : a.eval s = u) {v' : Value} {w' : World}
    (hr : (Builtin.copy_ #[t, t'] o.type #[v, u]).run P w = .ok v' w') (h : wpList P ops Q rest (a.put o.dst v') w') : wpList P ops Q (o :: rest) a w := by
  refine wpList_plain hgd fun _ hK => ?_
  unfold Oper.wp execOp
  simp only [ho, resolve, invoke, builtin, Sem.run_bind, Sem.run_pure, Result.andThen_ok, List.map_toArray, List.map_cons, List.map_nil, hd, hs, hr]
  exact hK _ _ h
theorem step_copy_eq {P : Program} {ops : Array Oper} {o : Oper} {a : Act} {w : World} {K : Act → World → Prop} {Q : Exit → Act → World → Prop} {E : Prop}
    (hg : o.guard = none) (d x : Operand) (dT sT : TypeId) (hop : o.op = Op.call { callee := Callee.builtin Builtin.copy, args := #[d, x], argTypes := #[dT, sT] })
    (v u : Value) (hd : a.eval d = v) (hx : a.eval x = u) {v' : Value} {w' : World} (hr : (Builtin.copy_ #[dT, sT] o.type #[v, u]).run P w = .ok v' w') (hK : K (a.put o.dst v') w') :
    if Region.wanted o (yielded ops a.tmps) = true then Oper.wp P o a w K Q else E := by
  have hw : Region.wanted o (yielded ops a.tmps) = true := by simp [Region.wanted, hg]
  rw [if_pos hw]
  unfold Oper.wp
  simp [execOp, hop, resolve, invoke, builtin, hd, hx, hr, Result.andThen]
  exact hK
/-- 'copy' of m orders. -/
theorem run_copy_od (w : World) (ty : TypeId) (b o dLen dCap m : Nat) (a : Addr) (sLen sCap : Nat) (cs : List Value) (hn : m = Nat.min sLen dLen) (hl : cs.length = m * 5)
    (hsrc : ∀ j v, cs[j]? = some v → w.cell? (a.add j) = some v) (hc : ∀ j, j < cs.length → (w.cell? ⟨b, o + j, none⟩).isSome = true) (hf : ∀ j, j < cs.length → w.frozen? ⟨b, o + j, none⟩ = false) (h1 : ∀ v ∈ cs, v.oneCell' = true) :
    (Builtin.copy_ #[27, 27] ty #[.slice (some ⟨b, o, none⟩) dLen dCap, .slice (some a) sLen sCap]).run Try.prog w = .ok (goInt m) (w.setCells b o cs) := by
  obtain ⟨i0, hi, hz0, hz1, hz2⟩ := info_parts info_OD
  have hld := run_loadCells_list (P := Try.prog) w a cs hsrc
  rw [hl] at hld
  have hst := run_storeCells_cells (P := Try.prog) b o cs 0 w (by simpa using hc) (by simpa using hf) h1
  simp only [Nat.add_zero] at hst
  simp [Builtin.copy_, run_underlying Try.underlying27, Builtin.lenOf, Builtin.firstCells, sizeOf, typeInfo, hi, hz1, ← hn, hld, hst]

theorem ORow.more {w : World} {base g n m cap : Nat} {e : TypeId} {size : Nat} {F : Nat → Value} (h : ORow w base e size (.slice (some ⟨g, 0, none⟩) n cap) n F) (hm : n ≤ m) (hc : m ≤ cap) :
    ∃ G : Nat → Value, ORow w base e size (.slice (some ⟨g, 0, none⟩) m cap) m G ∧ ∀ j, j < n * size → G j = F j := by
  have hmn : n * size ≤ m * size := Nat.mul_le_mul_right _ hm
  have hmc : m * size ≤ cap * size := Nat.mul_le_mul_right _ hc
  rcases h.2 with ⟨h1, _⟩ | ⟨g', cap', cur, hv, hg, hh, hn, hcm, hs, ht⟩
  · cases h1
  · injection hv with q1 q2 q3
    injection q1 with q1
    injection q1 with q1
    subst q1 q3
    have hl : (cur.toList.take (m * size)).length = m * size := by rw [List.length_take, Array.length_toList, hs]; omega
    refine ⟨_, ORow.of (n := m) ⟨hl, .inr ⟨g, cap, cur, rfl, hg, hh, hc, hcm, hs, rfl⟩⟩, fun j hj => ?_⟩
    have e : (cur.toList.take (n * size))[j]? = some (F j) := by rw [ht]; simp [hj]
    rw [List.getElem?_take, if_pos hj] at e
    show (cur.toList.take (m * size)).getD j undef = F j
    rw [List.getD_eq_getElem?_getD, List.getElem?_take, if_pos (by omega), e]
    rfl

/-- append(s[:i], make(n+1-i)...) where there is no room: a row of the call's own. -/
theorem wpList_append_zeros_od {w : World} {ops : Array Oper} {rest : List Oper} {o : Oper} {a : Act} {Q : Exit → Act → World → Prop} (hgd : o.guard = none) (s x : Operand)
    (ho : o.op = .call { callee := .builtin .append, args := #[s, x], argTypes := #[27, 3] })
    (base g n c i : Nat) (l : List OD) (hs : a.eval s = .slice (some ⟨g, 0, none⟩) i c) (K : Int) (hx : a.eval x = .int .i64 K) (hK : K = ((n + 1 - i : Nat) : Int)) (hln : l.length = n)
    (hO : OODS w base (.slice (some ⟨g, 0, none⟩) n c) l) (hn : n ≤ 1048576) (hi : i ≤ n) (hroom : c < n + 1) (hbase : base ≤ w.heap.size)
    (h : ∀ c' F w', n + 1 ≤ c' → c' ≤ maxLen → ORow w' base 39 5 (.slice (some ⟨w.heap.size, 0, none⟩) (n + 1) c') (n + 1) F → (∀ j, j < i * 5 → F j = cf cOD 5 l j) → Below w.heap.size w w' → w.heap.size < w'.heap.size →
      wpList Try.prog ops Q rest (a.put o.dst (.slice (some ⟨w.heap.size, 0, none⟩) (n + 1) c')) w') : wpList Try.prog ops Q (o :: rest) a w := by
  obtain ⟨i0, hi0, hz0, hz1, hz2⟩ := info_parts info_OD
  have hrow := hO.row
  rw [hln] at hrow
  have hcl : ((l.take i).flatMap cOD).length = i * 5 := by rw [flat_len cOD 5 cOD_len, List.length_take, hln, Nat.min_eq_left hi]
  have hcf : ∀ j, j < i * 5 → ((l.take i).flatMap cOD).getD j undef = cf cOD 5 l j := fun j hj => by
    have e : j = j / 5 * 5 + j % 5 := by omega
    rw [e, cf_at cOD 5 (by omega), List.getD_eq_getElem?_getD, flat_get cOD 5 cOD_len _ (by rw [List.length_take, hln]; omega) (by omega), gd_take (by omega), List.getD_eq_getElem?_getD]
  have hold : (Builtin.firstCells i0.size i (.slice (some ⟨g, 0, none⟩) i c)).run Try.prog w.drew = .ok ((l.take i).flatMap cOD).toArray w.drew := by
    rw [hz1]
    refine run_firstCells_some w.drew 5 i ⟨g, 0, none⟩ i c _ hcl (fun j v hj => ?_)
    have hj2 : j < i * 5 := by
      rcases Nat.lt_or_ge j (i * 5) with h | h
      · exact h
      · rw [List.getElem?_eq_none (by omega)] at hj; cases hj
    have e1 := hcf j hj2
    rw [List.getD_eq_getElem?_getD, hj] at e1
    have e2 := hrow.cell (j := j) (by omega)
    rw [← e1] at e2
    rw [show (⟨g, 0, none⟩ : Addr).add j = ⟨g, j, none⟩ from by unfold Addr.add; split <;> simp_all]
    exact e2
  have hik : i + (n + 1 - i) = n + 1 := by omega
  have hr := Lib.run_append_grow_zeros w 27 3 o.type 39 i0 _ .i64 .i64 Try.underlying27 Try.underlying3 hi0 hz0 (some ⟨g, 0, none⟩) i c _ hold (n + 1 - i) (by omega) (by omega) (by omega) (by omega) (by rw [hz2]; omega) (by rw [hz2, hik]; exact growslice_fits hroom (by omega))
  rw [hik, ← hK] at hr
  have hge := grownCap_ge w (n + 1) c 39
  have hcm := grownCap_le_maxLen w (n + 1) c 39 (by unfold maxLen; omega)
  refine Lib.wpList_append_run w hgd s x _ _ ho _ _ hs hx _ _ hr ?_
  generalize grownCap w (n + 1) c 39 = G at *
  refine h G _ _ hge hcm (ORow.of ⟨?_, .inr ⟨w.heap.size, G, _, rfl, hbase, heap_alloc_new w.drew _, hge, hcm, ?_, rfl⟩⟩) (fun j hj => ?_) (ext_alloc (ext_drew (ext_refl w)) _) (by simp)
  · simp only [List.length_take, Array.length_toList, Array.size_append, List.size_toArray, size_zeroCells, hcl]
    simp only [Value.cells, List.size_toArray, List.length_cons, List.length_nil]
    omega
  · simp only [Array.size_append, List.size_toArray, size_zeroCells, hcl]
    simp only [Value.cells, List.size_toArray, List.length_cons, List.length_nil]
    omega
  · rw [← hcf j hj, List.getD_eq_getElem?_getD, List.getElem?_take, if_pos (by omega)]
    simp only [Array.toList_append, List.append_assoc]
    rw [List.getElem?_append_left (by omega), List.getD_eq_getElem?_getD]

/-- What the two copies leave. -/
theorem ins_flat {w : World} {base : Nat} {v : Value} {l : List OD} {x : OD} {i : Nat} {F : Nat → Value} (hi : i ≤ l.length) (h : ORow w base 39 5 v (l.length + 1) F)
    (h1 : ∀ j, j < i * 5 → F j = cf cOD 5 l j) (h2 : ∀ j, j < 5 → F (i * 5 + j) = (cOD x).getD j undef) (h3 : ∀ q j, i ≤ q → q < l.length → j < 5 → F ((q + 1) * 5 + j) = (cOD (gd l q)).getD j undef) : OODS w base v (l.take i ++ x :: l.drop i) := by
  have hll : (l.take i ++ x :: l.drop i).length = l.length + 1 := by rw [List.length_append, List.length_cons, List.length_take, List.length_drop]; omega
  unfold OODS
  refine ORow.flat (l := l.take i ++ x :: l.drop i) cOD_len (by omega) (by rw [hll]; exact h) (fun j hj => ?_)
  rw [hll] at hj
  have e : j = j / 5 * 5 + j % 5 := by omega
  rw [e, cf_at cOD 5 (by omega)]
  have hti : (l.take i).length = i := by rw [List.length_take]; omega
  rcases Nat.lt_trichotomy (j / 5) i with hq | hq | hq
  · rw [h1 _ (by omega), cf_at cOD 5 (by omega), gd_append_left (by omega), gd_take hq]
  · rw [hq, h2 _ (by omega)]
    have : gd (l.take i ++ x :: l.drop i) i = x := by
      unfold gd
      rw [List.getD_eq_getElem?_getD, List.getElem?_append_right (by omega), hti, Nat.sub_self]; rfl
    rw [this]
  · obtain ⟨q, hq2⟩ : ∃ q, j / 5 = q + 1 := ⟨j / 5 - 1, by omega⟩
    rw [hq2, h3 q _ (by omega) (by omega) (by omega)]
    have : gd (l.take i ++ x :: l.drop i) (q + 1) = gd l q := by
      unfold gd
      rw [List.getD_eq_getElem?_getD, List.getD_eq_getElem?_getD, List.getElem?_append_right (by omega), hti, show q + 1 - i = (q - i) + 1 from by omega, List.getElem?_cons_succ, List.getElem?_drop, show i + (q - i) = q from by omega]
    rw [this]

end Go.Proofs.Ytohdkniajacohaa
