/-
  slices.Insert of one order.
-/
import Derived.Test.YtbggggaoljpfnaaGreatDoorOrders11
import Derived.Deep.RegionLaw
import Derived.Lib.SliceRun
import Derived.Lib.AppendZerosOnto
import Derived.Lib.Overlaps
import Derived.Laws.Externs
import Derived.Laws.IdiomCopy
namespace Go.Proofs.YtbggggaoljpfnaaGreatDoor
open Go.ChangeShapes Go.WideShapes Go.ChangeAt Go.RowKit Go.Sort
set_option linter.unusedVariables false
set_option maxRecDepth 100000

/-- 'copy' by an equation. -/
theorem wpList_copy_eq {P : Program} (w : World) {ops : Array Oper} {rest : List Oper} {o : Oper} {a : Act} {Q : Exit → Act → World → Prop} (hgd : o.guard = none) (d s : Operand) (t t' : TypeId)
    (ho : o.op = .call { callee := .builtin .copy, args := #[d, s], argTypes := #[t, t'] }) (v u : Value) (hd : a.eval d = v) (hs : a.eval s = u) {v' : Value} {w' : World}
    (hr : (Builtin.copy_ #[t, t'] o.type #[v, u]).run P w = .ok v' w') (h : wpList P ops Q rest (a.put o.dst v') w') : wpList P ops Q (o :: rest) a w := by
  refine wpList_plain hgd fun _ hK => ?_
  unfold Oper.wp execOp
  simp only [ho, resolve, invoke, builtin, Sem.run_bind, Sem.run_pure, Result.andThen_ok, List.map_toArray, List.map_cons, List.map_nil, hd, hs, hr]
  exact hK _ _ h
theorem step_copy_eq {P : Program} {ops : Array Oper} {o : Oper} {a : Act} {w : World} {K : Act → World → Prop} {Q : Exit → Act → World → Prop} {E : Prop}
    (hg : o.guard = none) (d x : Operand) (dT sT : TypeId) (hop : o.op = Op.call { callee := Callee.builtin Builtin.copy, args := #[d, x], argTypes := #[dT, sT] })
    (v u : Value) (hd : a.eval d = v) (hx : a.eval x = u) {v' : Value} {w' : World} (hr : (Builtin.copy_ #[dT, sT] o.type #[v, u]).run P w = .ok v' w') (hK : K (a.put o.dst v') w') :
    if Region.wanted o (yielded ops a.tmps) = true then Oper.wp P o a w K Q else E := by
  have hw : Region.wanted o (yielded ops a.tmps) = true := by simp [Region.wanted, hg]
  rw [if_pos hw]
  unfold Oper.wp
  simp [execOp, hop, resolve, invoke, builtin, hd, hx, hr, Result.andThen]
  exact hK
/-- 'copy' of m orders. -/
theorem run_copy_od (w : World) (ty : TypeId) (b o dLen dCap m : Nat) (a : Addr) (sLen sCap : Nat) (cs : List Value) (hn : m = Nat.min sLen dLen) (hl : cs.length = m * 5)
    (hsrc : ∀ j v, cs[j]? = some v → w.cell? (a.add j) = some v) (hc : ∀ j, j < cs.length → (w.cell? ⟨b, o + j, none⟩).isSome = true) (hf : ∀ j, j < cs.length → w.frozen? ⟨b, o + j, none⟩ = false) (h1 : ∀ v ∈ cs, v.oneCell' = true) :
    (Builtin.copy_ #[24, 24] ty #[.slice (some ⟨b, o, none⟩) dLen dCap, .slice (some a) sLen sCap]).run Tryz.prog w = .ok (goInt m) (w.setCells b o cs) := by
  obtain ⟨i0, hi, hz0, hz1, hz2⟩ := info_parts info_OD
  have hld := run_loadCells_list (P := Tryz.prog) w a cs hsrc
  rw [hl] at hld
  have hst := run_storeCells_cells (P := Tryz.prog) b o cs 0 w (by simpa using hc) (by simpa using hf) h1
  simp only [Nat.add_zero] at hst
  simp [Builtin.copy_, run_underlying Tryz.underlying24, Builtin.lenOf, Builtin.firstCells, sizeOf, typeInfo, hi, hz1, ← hn, hld, hst]

theorem ORow.more {w : World} {base g n m cap : Nat} {e : TypeId} {size : Nat} {F : Nat → Value} (h : ORow w base e size (.slice (some ⟨g, 0, none⟩) n cap) n F) (hm : n ≤ m) (hc : m ≤ cap) :
    ∃ G : Nat → Value, ORow w base e size (.slice (some ⟨g, 0, none⟩) m cap) m G ∧ ∀ j, j < n * size → G j = F j := by
  have hmn : n * size ≤ m * size := Nat.mul_le_mul_right _ hm
  have hmc : m * size ≤ cap * size := Nat.mul_le_mul_right _ hc
  rcases h.2 with ⟨h1, _⟩ | ⟨g', cap', cur, hv, hg, hh, hn, hcm, hs, ht⟩
  · cases h1
  · injection hv with q1 q2 q3
    injection q1 with q1
    injection q1 with q1
    subst q1 q3
    have hl : (cur.toList.take (m * size)).length = m * size := by rw [List.length_take, Array.length_toList, hs]; omega
    refine ⟨_, ORow.of (n := m) ⟨hl, .inr ⟨g, cap, cur, rfl, hg, hh, hc, hcm, hs, rfl⟩⟩, fun j hj => ?_⟩
    have e : (cur.toList.take (n * size))[j]? = some (F j) := by rw [ht]; simp [hj]
    rw [List.getElem?_take, if_pos hj] at e
    show (cur.toList.take (m * size)).getD j undef = F j
    rw [List.getD_eq_getElem?_getD, List.getElem?_take, if_pos (by omega), e]
    rfl

/-- append(s[:i], make(n+1-i)...) where there is no room: a row of the call's own. -/
theorem wpList_append_zeros_od {w : World} {ops : Array Oper} {rest : List Oper} {o : Oper} {a : Act} {Q : Exit → Act → World → Prop} (hgd : o.guard = none) (s x : Operand)
    (ho : o.op = .call { callee := .builtin .append, args := #[s, x], argTypes := #[24, 3] })
    (base g n c i : Nat) (l : List OD) (hs : a.eval s = .slice (some ⟨g, 0, none⟩) i c) (K : Int) (hx : a.eval x = .int .i64 K) (hK : K = ((n + 1 - i : Nat) : Int)) (hln : l.length = n)
    (hO : OODS w base (.slice (some ⟨g, 0, none⟩) n c) l) (hn : n ≤ 1048576) (hi : i ≤ n) (hroom : c < n + 1) (hbase : base ≤ w.heap.size)
    (h : ∀ c' F w', n + 1 ≤ c' → c' ≤ maxLen → ORow w' base 26 5 (.slice (some ⟨w.heap.size, 0, none⟩) (n + 1) c') (n + 1) F → (∀ j, j < i * 5 → F j = cf cOD 5 l j) → Below w.heap.size w w' → w.heap.size < w'.heap.size →
      wpList Tryz.prog ops Q rest (a.put o.dst (.slice (some ⟨w.heap.size, 0, none⟩) (n + 1) c')) w') : wpList Tryz.prog ops Q (o :: rest) a w := by
  obtain ⟨i0, hi0, hz0, hz1, hz2⟩ := info_parts info_OD
  have hrow := hO.row
  rw [hln] at hrow
  have hcl : ((l.take i).flatMap cOD).length = i * 5 := by rw [flat_len cOD 5 cOD_len, List.length_take, hln, Nat.min_eq_left hi]
  have hcf : ∀ j, j < i * 5 → ((l.take i).flatMap cOD).getD j undef = cf cOD 5 l j := fun j hj => by
    have e : j = j / 5 * 5 + j % 5 := by omega
    rw [e, cf_at cOD 5 (by omega), List.getD_eq_getElem?_getD, flat_get cOD 5 cOD_len _ (by rw [List.length_take, hln]; omega) (by omega), gd_take (by omega), List.getD_eq_getElem?_getD]
  have hold : (Builtin.firstCells i0.size i (.slice (some ⟨g, 0, none⟩) i c)).run Tryz.prog w.drew = .ok ((l.take i).flatMap cOD).toArray w.drew := by
    rw [hz1]
    refine run_firstCells_some w.drew 5 i ⟨g, 0, none⟩ i c _ hcl (fun j v hj => ?_)
    have hj2 : j < i * 5 := by
      rcases Nat.lt_or_ge j (i * 5) with h | h
      · exact h
      · rw [List.getElem?_eq_none (by omega)] at hj; cases hj
    have e1 := hcf j hj2
    rw [List.getD_eq_getElem?_getD, hj] at e1
    have e2 := hrow.cell (j := j) (by omega)
    rw [← e1] at e2
    rw [show (⟨g, 0, none⟩ : Addr).add j = ⟨g, j, none⟩ from by unfold Addr.add; split <;> simp_all]
    exact e2
  have hik : i + (n + 1 - i) = n + 1 := by omega
  have hr := Lib.run_append_grow_zeros w 24 3 o.type 26 i0 _ .i64 .i64 Tryz.underlying24 Tryz.underlying3 hi0 hz0 (some ⟨g, 0, none⟩) i c _ hold (n + 1 - i) (by omega) (by omega) (by omega) (by omega) (by rw [hz2]; omega) (by rw [hz2, hik]; exact growslice_fits hroom (by omega))
  rw [hik, ← hK] at hr
  have hge := grownCap_ge w (n + 1) c 26
  have hcm := grownCap_le_maxLen w (n + 1) c 26 (by unfold maxLen; omega)
  refine Lib.wpList_append_run w hgd s x _ _ ho _ _ hs hx _ _ hr ?_
  generalize grownCap w (n + 1) c 26 = G at *
  refine h G _ _ hge hcm (ORow.of ⟨?_, .inr ⟨w.heap.size, G, _, rfl, hbase, heap_alloc_new w.drew _, hge, hcm, ?_, rfl⟩⟩) (fun j hj => ?_) (ext_alloc (ext_drew (ext_refl w)) _) (by simp)
  · simp only [List.length_take, Array.length_toList, Array.size_append, List.size_toArray, size_zeroCells, hcl]
    simp only [Value.cells, List.size_toArray, List.length_cons, List.length_nil]
    omega
  · simp only [Array.size_append, List.size_toArray, size_zeroCells, hcl]
    simp only [Value.cells, List.size_toArray, List.length_cons, List.length_nil]
    omega
  · rw [← hcf j hj, List.getD_eq_getElem?_getD, List.getElem?_take, if_pos (by omega)]
    simp only [Array.toList_append, List.append_assoc]
    rw [List.getElem?_append_left (by omega), List.getD_eq_getElem?_getD]

/-- What the two copies leave. -/
theorem ins_flat {w : World} {base : Nat} {v : Value} {l : List OD} {x : OD} {i : Nat} {F : Nat → Value} (hi : i ≤ l.length) (h : ORow w base 26 5 v (l.length + 1) F)
    (h1 : ∀ j, j < i * 5 → F j = cf cOD 5 l j) (h2 : ∀ j, j < 5 → F (i * 5 + j) = (cOD x).getD j undef) (h3 : ∀ q j, i ≤ q → q < l.length → j < 5 → F ((q + 1) * 5 + j) = (cOD (gd l q)).getD j undef) : OODS w base v (l.take i ++ x :: l.drop i) := by
  have hll : (l.take i ++ x :: l.drop i).length = l.length + 1 := by rw [List.length_append, List.length_cons, List.length_take, List.length_drop]; omega
  unfold OODS
  refine ORow.flat (l := l.take i ++ x :: l.drop i) cOD_len (by omega) (by rw [hll]; exact h) (fun j hj => ?_)
  rw [hll] at hj
  have e : j = j / 5 * 5 + j % 5 := by omega
  rw [e, cf_at cOD 5 (by omega)]
  have hti : (l.take i).length = i := by rw [List.length_take]; omega
  rcases Nat.lt_trichotomy (j / 5) i with hq | hq | hq
  · rw [h1 _ (by omega), cf_at cOD 5 (by omega), gd_append_left (by omega), gd_take hq]
  · rw [hq, h2 _ (by omega)]
    have : gd (l.take i ++ x :: l.drop i) i = x := by
      unfold gd
      rw [List.getD_eq_getElem?_getD, List.getElem?_append_right (by omega), hti, Nat.sub_self]; rfl
    rw [this]
  · obtain ⟨q, hq2⟩ : ∃ q, j / 5 = q + 1 := ⟨j / 5 - 1, by omega⟩
    rw [hq2, h3 q _ (by omega) (by omega) (by omega)]
    have : gd (l.take i ++ x :: l.drop i) (q + 1) = gd l q := by
      unfold gd
      rw [List.getD_eq_getElem?_getD, List.getD_eq_getElem?_getD, List.getElem?_append_right (by omega), hti, show q + 1 - i = (q - i) + 1 from by omega, List.getElem?_cons_succ, List.getElem?_drop, show i + (q - i) = q from by omega]
    rw [this]

end Go.Proofs.YtbggggaoljpfnaaGreatDoor

/-
  slices.Insert of one order: the walk.
-/
namespace Go.Proofs.YtbggggaoljpfnaaGreatDoor
open Go.ChangeShapes Go.WideShapes Go.ChangeAt Go.RowKit Go.Sort
set_option linter.unusedVariables false
set_option maxRecDepth 100000

theorem shape_own {w : World} {base g n c : Nat} {l : List OD} (h : OODS w base (.slice (some ⟨g, 0, none⟩) n c) l) : ∃ k, w.shape? g = some (26, k) ∧ k = c * 5 ∧ ∀ x, w.frozen? ⟨g, x, none⟩ = false := by
  have hn : n = l.length := by
    obtain ⟨A', c', hv, _, _⟩ := h.rd.open_
    injection hv with q1 q2 q3
  subst hn
  have hf := h.row.frozen
  rcases h.2 with ⟨h1, _⟩ | ⟨g', cap', cur, hv, hg, hh, hn, hcm, hs, ht⟩
  · cases h1
  · injection hv with q1 q2 q3
    injection q1 with q1
    injection q1 with q1
    subst q1 q3
    exact ⟨cur.size, by unfold World.shape?; rw [hh], hs, hf⟩
theorem one_od (x : OD) : ∀ v ∈ cOD x, v.oneCell' = true := fun v hv => by
  simp only [cOD, List.mem_cons, List.not_mem_nil, or_false] at hv
  rcases hv with rfl | rfl | rfl | rfl | rfl <;> rfl
theorem one_ods (l : List OD) : ∀ v ∈ l.flatMap cOD, v.oneCell' = true := fun v hv => by
  obtain ⟨o, _, ho⟩ := List.mem_flatMap.1 hv
  exact one_od o v ho
theorem lit_add (b o j : Nat) : (⟨b, o, none⟩ : Addr).add j = ⟨b, o + j, none⟩ := by unfold Addr.add; split <;> simp_all

theorem sizeOf_OD (w : World) : (Go.sizeOf 26).run Tryz.prog w = .ok 5 w := by
  obtain ⟨i0, hi, hz0, hz1, hz2⟩ := info_parts info_OD
  simp [sizeOf, typeInfo, hi, hz1]
/-- The first copy: one order at place i. -/
theorem copy_one {w : World} {base g vb bx i N c : Nat} {x : OD} {F : Nat → Value} (HX : OODS w bx (.slice (some ⟨vb, 0, none⟩) 1 1) [x]) (hR : ORow w base 26 5 (.slice (some ⟨g, 0, none⟩) N c) N F) (hi : i < N) (ty : TypeId) (dc : Nat) :
    (Builtin.copy_ #[24, 24] ty #[.slice (some ⟨g, i * 5, none⟩) (N - i) dc, .slice (some ⟨vb, 0, none⟩) 1 1]).run Tryz.prog w = .ok (goInt 1) (w.setCells g (i * 5) (cOD x)) := by
  have hx := HX.row
  refine run_copy_od w ty g (i * 5) (N - i) dc 1 ⟨vb, 0, none⟩ 1 1 (cOD x) (by simp only [Nat.min_def]; split <;> omega) (by rw [cOD_len]) (fun j v hj => ?_) (fun j hj => ?_) (fun j hj => hR.frozen _) (one_od x)
  · have hj5 : j < 5 := by
      rcases Nat.lt_or_ge j 5 with h | h
      · exact h
      · rw [List.getElem?_eq_none (by rw [cOD_len]; exact h)] at hj; cases hj
    rw [lit_add, Nat.zero_add]
    have e := hx.cell (j := j) (by simp; omega)
    rw [show j = 0 * 5 + j from by omega, cf_at cOD 5 hj5, show 0 * 5 + j = j from by omega, show gd [x] 0 = x from rfl, List.getD_eq_getElem?_getD, hj] at e
    exact e
  · rw [cOD_len] at hj
    rw [hR.cell (j := i * 5 + j) (by omega)]; rfl
/-- The second copy: the orders behind place i, from a row of its own. -/
theorem copy_tail {w : World} {base base2 g g2 i n N2 c c2 : Nat} {l : List OD} {F : Nat → Value} {F2 : Nat → Value} (hln : l.length = n) (hi : i ≤ n) (hN2 : n ≤ N2) (hR2 : ORow w base2 26 5 (.slice (some ⟨g2, 0, none⟩) N2 c2) N2 F2) (hF2 : ∀ j, i * 5 ≤ j → j < n * 5 → F2 j = cf cOD 5 l j)
    (hR : ORow w base 26 5 (.slice (some ⟨g, 0, none⟩) (n + 1) c) (n + 1) F) (ty : TypeId) (dl dc sl sc : Nat) (hm : n - i = Nat.min sl dl) :
    (Builtin.copy_ #[24, 24] ty #[.slice (some ⟨g, (i + 1) * 5, none⟩) dl dc, .slice (some ⟨g2, i * 5, none⟩) sl sc]).run Tryz.prog w = .ok (goInt (n - i : Nat)) (w.setCells g ((i + 1) * 5) ((l.drop i).flatMap cOD)) := by
  have s1 : ((l.drop i).flatMap cOD).length = (n - i) * 5 := by rw [flat_len cOD 5 cOD_len, List.length_drop, hln]
  refine run_copy_od w ty g ((i + 1) * 5) dl dc (n - i) ⟨g2, i * 5, none⟩ sl sc _ hm s1 (fun j v hj => ?_) (fun j hj => ?_) (fun j hj => hR.frozen _) (one_ods _)
  · have hj5 : j < (n - i) * 5 := by
      rcases Nat.lt_or_ge j ((n - i) * 5) with h | h
      · exact h
      · rw [List.getElem?_eq_none (by omega)] at hj; cases hj
    rw [lit_add, hR2.cell (j := i * 5 + j) (by omega), hF2 _ (by omega) (by omega), ← hj]
    have e : i * 5 + j = (i + j / 5) * 5 + j % 5 := by omega
    have e2 : j = j / 5 * 5 + j % 5 := by omega
    rw [e, cf_at cOD 5 (by omega), e2, flat_get cOD 5 cOD_len _ (by rw [List.length_drop, hln]; omega) (by omega)]
    have e4 : (j / 5 * 5 + j % 5) % 5 = j % 5 := by omega
    have e5 : (j / 5 * 5 + j % 5) / 5 = j / 5 := by omega
    have e3 : gd (l.drop i) (j / 5) = gd l (i + j / 5) := by unfold gd; rw [List.getD_eq_getElem?_getD, List.getD_eq_getElem?_getD, List.getElem?_drop]
    rw [e4, e5, e3, List.getD_eq_getElem?_getD, List.getElem?_eq_getElem (show j % 5 < (cOD (gd l (i + j / 5))).length by rw [cOD_len]; omega)]
    rfl
  · rw [s1] at hj
    rw [hR.cell (j := (i + 1) * 5 + j) (by omega)]; rfl
theorem tail_get {l : List OD} {n i q j : Nat} (hln : l.length = n) (hq : i ≤ q) (hqn : q < n) (hj : j < 5) : ((l.drop i).flatMap cOD).getD ((q + 1) * 5 + j - (i + 1) * 5) undef = (cOD (gd l q)).getD j undef := by
  rw [show (q + 1) * 5 + j - (i + 1) * 5 = (q - i) * 5 + j from by omega, List.getD_eq_getElem?_getD, flat_get cOD 5 cOD_len _ (by rw [List.length_drop, hln]; omega) hj]
  have e3 : gd (l.drop i) (q - i) = gd l q := by
    unfold gd
    rw [List.getD_eq_getElem?_getD, List.getD_eq_getElem?_getD, List.getElem?_drop, show i + (q - i) = q from by omega]
  rw [e3, List.getD_eq_getElem?_getD]

/-- The end of the list. -/
theorem od_insert_end (A : Option Addr) (n c base bx vb : Nat) (l : List OD) (x : OD) (hln : l.length = n) (hn : n ≤ 1048576) (w : World) (hO : OODS w base (.slice A n c) l) (hbase : base ≤ w.heap.size) (HX : OODS w bx (.slice (some ⟨vb, 0, none⟩) 1 1) [x]) :
    Calls Tryz.prog 39 #[.slice A n c, .int .i64 n, .slice (some ⟨vb, 0, none⟩) 1 1] w fun e w' => ∃ A' c', e = .returned (.slice A' (n + 1) c') ∧ OODS w' base (.slice A' (n + 1) c') (l.take n ++ x :: l.drop n) ∧ Chg (BODS (.slice A n c)) w w' := by
  have hcap : n ≤ c ∧ c ≤ maxLen := by
    obtain ⟨A', c', hv, h1, h2⟩ := hO.rd.open_
    injection hv with q1 q2 q3
    omega
  unfold maxLen at hcap
  have hll : l.take n ++ x :: l.drop n = l ++ [x] := by subst hln; simp
  rw [hll]
  have HO := Lib.hid hO
  have HXR := Lib.hid HX.rd
  have hAn : A = none → n = 0 ∧ c = 0 := fun hA => by
    rcases hO.2 with ⟨h1, h2⟩ | ⟨g', cap', cur, hv, _⟩
    · injection h1 with q1 q2 q3
      exact ⟨by omega, q3⟩
    · subst hA; injection hv with q1; cases q1
  clear hO HX hll
  go_enter Tryz.func39, Tryz.ntmps39
  cases A with
  | none =>
    obtain ⟨rfl, rfl⟩ := hAn rfl
    go_wp2_with (at_builtin; refine wpList_append_od rfl _ _ rfl base _ _ l [x] rfl rfl HO.out HXR.out (by omega) (by simp) hbase ?_; intro A1 c1 w1 hO1 hg1; simp only [List.length_cons, List.length_nil, Nat.zero_add, hln] at hO1 ⊢)
    go_ret
    exact ⟨_, _, rfl, hO1, hg1⟩
  | some ad =>
    clear hAn
    go_wp2_with (at_builtin; refine wpList_append_od rfl _ _ rfl base _ _ l [x] rfl rfl HO.out HXR.out (by omega) (by simp) hbase ?_; intro A1 c1 w1 hO1 hg1; simp only [List.length_cons, List.length_nil, Nat.zero_add, hln] at hO1 ⊢)
    all_goals
      go_ret
      exact ⟨_, _, rfl, hO1, hg1⟩

set_option maxHeartbeats 1600000 in
/-- No room: a new row. -/
theorem od_insert_grow (g n c base bx vb i : Nat) (l : List OD) (x : OD) (hln : l.length = n) (hn : n ≤ 1048576) (hi : i < n) (hroom : c < n + 1) (w : World) (hO : OODS w base (.slice (some ⟨g, 0, none⟩) n c) l) (hbase : base ≤ w.heap.size) (HX : OODS w bx (.slice (some ⟨vb, 0, none⟩) 1 1) [x]) :
    Calls Tryz.prog 39 #[.slice (some ⟨g, 0, none⟩) n c, .int .i64 i, .slice (some ⟨vb, 0, none⟩) 1 1] w fun e w' => ∃ A' c', e = .returned (.slice A' (n + 1) c') ∧ OODS w' base (.slice A' (n + 1) c') (l.take i ++ x :: l.drop i) ∧ Chg (BODS (.slice (some ⟨g, 0, none⟩) n c)) w w' := by
  have hcap : n ≤ c := by
    obtain ⟨A', c', hv, h1, h2⟩ := hO.rd.open_
    injection hv with q1 q2 q3
    omega
  have hgw : g < w.heap.size := (hO.ge g rfl).2
  have HO := Lib.hid hO; clear hO
  have HXX := Lib.hid HX; clear HX
  have HL := Lib.hid hln
  have hz2 : ¬ ((i : Int) = (n : Int)) := by omega
  have hz3 : (c : Int) < (n : Int) + 1 := by omega
  have hb1 : (0 : Int) ≤ (i : Int) := by omega
  have hb3 : (i : Int) ≤ (n : Int) := by omega
  have hb5 : (0 : Int) ≤ (i : Int) + 1 := by omega
  have htn : ((i : Int) + 1).toNat = i + 1 := by omega
  have hci : ¬ (c = i) := by omega
  have hw1 : IntKind.i64.wrap ((i : Int) + 1) = (i : Int) + 1 := by rw [IntKind.wrap_i64]; omega
  have hb6 : (i : Int) + 1 ≤ (n : Int) + 1 := by omega
  clear hln
  go_enter Tryz.func39, Tryz.ntmps39
  go_wp2_with (at_builtin; refine wpList_append_zeros_od rfl _ _ rfl base g n c i l rfl _ rfl (by omega) HL.out HO.out hn (by omega) hroom hbase ?_; intro c2 F2 w2 hc1 hc2 hR2 hF2 hB2 hlt2; (have HR2 := Lib.hid hR2); (have HF2 := Lib.hid hF2); (have HB2 := Lib.hid hB2); (have hcp1 := copy_one (HXX.out.ext HB2.out) HR2.out (i := i) (by omega)); (have hGi : ¬ c2 = i := by omega); (have hGi1 : ¬ c2 = i + 1 := by omega); unfold maxLen at hc2; clear hR2 hF2 hB2)
  clear hcp1
  have HB3 := Lib.hid (Chg.setCells (S := fun b => b = w.heap.size) rfl (cOD x) (i * 5) w2)
  have HR3 := Lib.hid ((HR2.out.setCells (cOD x) (i * 5)))
  obtain ⟨w3, hw3⟩ : ∃ w3, w2.setCells w.heap.size (i * 5) (cOD x) = w3 := ⟨_, rfl⟩
  rw [hw3] at HB3 HR3 ⊢
  clear hw3
  have HO3 := Lib.hid (((HO.out.ext HB2.out).chg HB3.out fun k hk => by (have hk2 : g = k := Option.some.inj hk); show ¬ k = w.heap.size; omega).ext (ext_drew (ext_refl w3)))
  have HR4 := Lib.hid (HR3.out.ext (ext_drew (ext_refl w3)))
  have HROW := Lib.hid HO3.out.row
  rw [HL.out] at HROW
  have HCP2 := Lib.hid (copy_tail (i := i) HL.out (by omega) (Nat.le_refl n) HROW.out (fun j _ _ => rfl) HR4.out)
  go_region_law (refine step_copy_eq rfl _ _ 24 24 rfl (.slice (some ⟨w.heap.size, (i + 1) * 5, none⟩) (n - i) (c2 - (i + 1))) (.slice (some ⟨g, i * 5, none⟩) (n - i) (c - i)) (by simp [Act.eval, Act.put]) (by simp [Act.eval, Act.put]) (HCP2.out _ _ _ _ _ (by simp)) ?_)
  have HB5 := Lib.hid (Chg.setCells (S := fun b => b = w.heap.size) rfl ((l.drop i).flatMap cOD) ((i + 1) * 5) w3.drew)
  have HR5 := Lib.hid (HR4.out.setCells ((l.drop i).flatMap cOD) ((i + 1) * 5))
  generalize w3.drew.setCells w.heap.size ((i + 1) * 5) ((l.drop i).flatMap cOD) = w5 at *
  go_wp2_with fail
  go_ret
  have hl2 : ((l.drop i).flatMap cOD).length = (n - i) * 5 := by rw [flat_len cOD 5 cOD_len, List.length_drop, HL.out]
  refine ⟨_, _, rfl, ins_flat (by have := HL.out; omega) (by rw [HL.out]; exact HR5.out) (fun j hj => ?_) (fun j hj => ?_) (fun q j h1 h2 h3 => ?_), ?_⟩
  · rw [if_neg (by omega), if_neg (by omega)]; exact HF2.out j hj
  · rw [if_neg (by omega), if_pos (by rw [cOD_len]; omega), Nat.add_sub_cancel_left]
  · rw [if_pos (by rw [HL.out] at h2; omega)]; exact tail_get HL.out h1 (by rw [HL.out] at h2; omega) h3
  · have h1 := ((Chg.of_below HB2.out _).trans (HB3.out)).trans ((Chg.of_below (ext_drew (ext_refl w3)) _).trans HB5.out)
    exact Chg.of_below (h1.below (Nat.le_refl _) fun k hk => by rw [hk]; exact Nat.le_refl _) _

set_option maxHeartbeats 1600000 in
/-- Room: in place. -/
theorem od_insert_room (g n c base bx vb i : Nat) (l : List OD) (x : OD) (hln : l.length = n) (hn : n ≤ 1048576) (hi : i < n) (hroom : n + 1 ≤ c) (w : World) (hO : OODS w base (.slice (some ⟨g, 0, none⟩) n c) l) (hvb : vb ≠ g) (HX : OODS w bx (.slice (some ⟨vb, 0, none⟩) 1 1) [x]) :
    Calls Tryz.prog 39 #[.slice (some ⟨g, 0, none⟩) n c, .int .i64 i, .slice (some ⟨vb, 0, none⟩) 1 1] w fun e w' => ∃ A' c', e = .returned (.slice A' (n + 1) c') ∧ OODS w' base (.slice A' (n + 1) c') (l.take i ++ x :: l.drop i) ∧ Chg (BODS (.slice (some ⟨g, 0, none⟩) n c)) w w' := by
  have hcap : c ≤ maxLen := by
    obtain ⟨A', c', hv, h1, h2⟩ := hO.rd.open_
    injection hv with q1 q2 q3
    omega
  unfold maxLen at hcap
  obtain ⟨kA, hsa, hkA, hfa⟩ := shape_own HX
  obtain ⟨kB, hsb, hkB, _⟩ := shape_own hO
  have hov : ∀ lb cb, (callFunc 68 #[.slice (some ⟨vb, 0, none⟩) 1 1, .slice (some ⟨g, (i + 1) * 5, none⟩) lb cb]).run Tryz.prog w = .ok (.value (.bool false)) w := fun lb cb => by
    rw [run_callFunc_extern Tryz.func68 (by kernel_rfl) (by kernel_rfl) (by kernel_rfl) (e := Extern.SlicesOverlaps.overlaps #[24, 24] #[4]) (by kernel_rfl),
      Lib.run_overlaps_apart w 24 4 26 Tryz.underlying24 5 (fun w => sizeOf_OD w) ⟨vb, 0, none⟩ ⟨g, (i + 1) * 5, none⟩ 1 1 lb cb hvb _ _ kA kB hsa hsb (by omega) (hfa _) (hfa _)]
    rfl
  have hrow := hO.row
  rw [hln] at hrow
  obtain ⟨G, hG, hGF⟩ := hrow.more (m := n + 1) (by omega) hroom
  have HGF := Lib.hid hGF
  have HXX := Lib.hid HX; clear HX
  have HL := Lib.hid hln
  have HRd := Lib.hid (hG.ext (ext_drew (ext_refl w)))
  have HCP2 := Lib.hid (copy_tail (w := w.drew) (i := i) (N2 := n + 1) (F2 := G) hln (by omega) (by omega) HRd.out (fun j _ hj => hGF j hj) HRd.out)
  have hz2 : ¬ ((i : Int) = (n : Int)) := by omega
  have hz3 : ¬ ((c : Int) < (n : Int) + 1) := by omega
  have hb1 : (0 : Int) ≤ (i : Int) := by omega
  have hb3 : (i : Int) ≤ (n : Int) := by omega
  have hb4 : (i : Int) ≤ (n : Int) + 1 := by omega
  have hb5 : (0 : Int) ≤ (i : Int) + 1 := by omega
  have htn : ((i : Int) + 1).toNat = i + 1 := by omega
  have hci : ¬ (c = i) := by omega
  have hci1 : ¬ (c = i + 1) := by omega
  have hw1 : IntKind.i64.wrap ((i : Int) + 1) = (i : Int) + 1 := by rw [IntKind.wrap_i64]; omega
  have hb6 : (i : Int) + 1 ≤ (n : Int) + 1 := by omega
  have htn2 : ((n : Int) + 1).toNat = n + 1 := by omega
  have hb7 : (n : Int) + 1 ≤ (c : Int) := by omega
  have hb8 : (0 : Int) ≤ (n : Int) + 1 := by omega
  clear hln hGF hrow hG hO hsa hsb hfa
  go_enter Tryz.func39, Tryz.ntmps39
  go_wp2_with (simp only [hov])
  go_region_law (refine step_copy_eq rfl _ _ 24 24 rfl (.slice (some ⟨g, (i + 1) * 5, none⟩) (n - i) (c - (i + 1))) (.slice (some ⟨g, i * 5, none⟩) (n + 1 - i) (c - i)) (by simp [Act.eval, Act.put]) (by simp [Act.eval, Act.put]) (HCP2.out _ _ _ _ _ (by simp only [Nat.min_def]; split <;> omega)) ?_)
  have HB5 := Lib.hid (Chg.setCells (S := fun b => b = g) rfl ((l.drop i).flatMap cOD) ((i + 1) * 5) w.drew)
  have HR5 := Lib.hid (HRd.out.setCells ((l.drop i).flatMap cOD) ((i + 1) * 5))
  have HX5 := Lib.hid ((HXX.out.ext (ext_drew (ext_refl w))).chg HB5.out fun k hk => by (have hk2 : vb = k := Option.some.inj hk); show ¬ k = g; omega)
  generalize w.drew.setCells g ((i + 1) * 5) ((l.drop i).flatMap cOD) = w5 at *
  have hcp1 := copy_one HX5.out HR5.out (i := i) (by omega)
  have HR6 := Lib.hid (HR5.out.setCells (cOD x) (i * 5))
  have HB6 := Lib.hid (Chg.setCells (S := fun b => b = g) rfl (cOD x) (i * 5) w5)
  clear hov
  go_wp2_with fail
  go_ret
  have hl2 : ((l.drop i).flatMap cOD).length = (n - i) * 5 := by rw [flat_len cOD 5 cOD_len, List.length_drop, HL.out]
  refine ⟨_, _, rfl, ins_flat (by have := HL.out; omega) (by rw [HL.out]; exact HR6.out) (fun j hj => ?_) (fun j hj => ?_) (fun q j h1 h2 h3 => ?_), ?_⟩
  · rw [if_neg (by omega), if_neg (by omega)]; exact HGF.out j (by omega)
  · rw [if_pos (by rw [cOD_len]; omega), Nat.add_sub_cancel_left]
  · rw [if_neg (by rw [cOD_len]; omega), if_pos (by rw [HL.out] at h2; omega)]; exact tail_get HL.out h1 (by rw [HL.out] at h2; omega) h3
  · exact ((Chg.of_below (ext_drew (ext_refl w)) _).trans (HB5.out.trans HB6.out)).mono fun k hk => by rw [hk]; rfl

theorem od_insert (A : Option Addr) (n c base bx vb i : Nat) (l : List OD) (x : OD) (hln : l.length = n) (hn : n ≤ 1048576) (hi : i ≤ n) (w : World) (hO : OODS w base (.slice A n c) l) (hbase : base ≤ w.heap.size) (hvb : ∀ k, BI (.slice A n c) k → vb ≠ k) (HX : OODS w bx (.slice (some ⟨vb, 0, none⟩) 1 1) [x]) :
    Calls Tryz.prog 39 #[.slice A n c, .int .i64 i, .slice (some ⟨vb, 0, none⟩) 1 1] w fun e w' => ∃ A' c', e = .returned (.slice A' (n + 1) c') ∧ OODS w' base (.slice A' (n + 1) c') (l.take i ++ x :: l.drop i) ∧ Chg (BODS (.slice A n c)) w w' := by
  rcases Nat.lt_or_ge i n with h | h
  · obtain ⟨g, rfl, _, _, _⟩ := hO.blk (by omega)
    rcases Nat.lt_or_ge c (n + 1) with h2 | h2
    · exact od_insert_grow g n c base bx vb i l x hln hn h h2 w hO hbase HX
    · exact od_insert_room g n c base bx vb i l x hln hn h h2 w hO (hvb g rfl) HX
  · have : i = n := by omega
    subst this
    exact od_insert_end A i c base bx vb l x hln hn w hO hbase HX

end Go.Proofs.YtbggggaoljpfnaaGreatDoor
