/-
  Drawn orders: l25New.
-/
import Derived.Test.YtbggggaoljpfnaaGreatDoorSrcM
import Derived.Test.YtbggggaoljpfnaaGreatDoorOrders
import Derived.Test.YtbggggaoljpfnaaGreatDoorSrcL
import Derived.Test.YtbggggaoljpfnaaGreatDoorOrdR
import Derived.OwnWalk
namespace Go.Proofs.YtbggggaoljpfnaaGreatDoor
open Go.ChangeShapes Go.WideShapes Go.ChangeAt Go.RowKit Go.Sort
set_option linter.unusedVariables false
set_option maxRecDepth 100000

/-- A drawn order: its name is short, its number of bricks small. -/
def DN (o : OD) : Prop := isN o.cu = true ∧ 1 ≤ o.br ∧ (0 ≤ o.due ∧ o.due ≤ 10000) ∧ (0 ≤ o.sent ∧ o.sent ≤ o.br)
def DO (o : OD) : Prop := o.cu.size ≤ 16 ∧ 0 ≤ o.br ∧ (o.br ≤ 100000 ∧ DN o)

/-- The five cells of an order in a block of its own. -/
def BX5 (w : World) (p : Nat) (o : OD) : Prop := w.cell? ⟨p, 0, none⟩ = some (.int .i64 o.id) ∧ w.cell? ⟨p, 1, none⟩ = some (.string o.cu) ∧ w.cell? ⟨p, 2, none⟩ = some (.int .i64 o.br) ∧ w.cell? ⟨p, 3, none⟩ = some (.int .i64 o.due) ∧ w.cell? ⟨p, 4, none⟩ = some (.int .i64 o.sent) ∧ ∀ i, w.frozen? ⟨p, i, none⟩ = false
theorem BX5.lt {w : World} {p : Nat} {o : OD} (h : BX5 w p o) : p < w.heap.size := block_lt_of_cell h.1
theorem BX5.chg {S : Nat → Prop} {w w' : World} {p : Nat} {o : OD} (h : BX5 w p o) (hc : Chg S w w') (hp : ¬ S p) : BX5 w' p o := by
  obtain ⟨h0, h1, h2, h3, h4, hf⟩ := h
  refine ⟨hc.cell h0 hp, hc.cell h1 hp, hc.cell h2 hp, hc.cell h3 hp, hc.cell h4 hp, fun i => ?_⟩
  rw [World.frozen?_of_block (w := w) (a := ⟨p, i, none⟩) (hc.block p (block_lt_of_cell h0) hp)]
  exact hf i
theorem b5_box (w : World) (o : OD) (T : TypeId) : BX5 (w.alloc (.cells #[.int .i64 o.id, .string o.cu, .int .i64 o.br, .int .i64 o.due, .int .i64 o.sent] T)) w.heap.size o := ⟨by simp [go_sem], by simp [go_sem], by simp [go_sem], by simp [go_sem], by simp [go_sem], fun i => by simp [go_sem]⟩
theorem BX5.set2 {w : World} {p : Nat} {o : OD} (h : BX5 w p o) (x : Int) : BX5 (w.setCell ⟨p, 2, none⟩ (.int .i64 x)) p ⟨o.id, o.cu, x, o.due, o.sent⟩ := by
  obtain ⟨h0, h1, h2, h3, h4, hf⟩ := h
  refine ⟨?_, ?_, ?_, ?_, ?_, fun i => by rw [World.frozen?_setCell]; exact hf i⟩
  all_goals first | (rw [World.cell?_setCell_other _ _ _ _ (by simp)]; assumption) | (with_reducible exact World.cell?_setCell_same _ _ _ (by assumption))
theorem BX5.set3 {w : World} {p : Nat} {o : OD} (h : BX5 w p o) (x : Int) : BX5 (w.setCell ⟨p, 3, none⟩ (.int .i64 x)) p ⟨o.id, o.cu, o.br, x, o.sent⟩ := by
  obtain ⟨h0, h1, h2, h3, h4, hf⟩ := h
  refine ⟨?_, ?_, ?_, ?_, ?_, fun i => by rw [World.frozen?_setCell]; exact hf i⟩
  all_goals first | (rw [World.cell?_setCell_other _ _ _ _ (by simp)]; assumption) | (with_reducible exact World.cell?_setCell_same _ _ _ (by assumption))
theorem BX5.set4 {w : World} {p : Nat} {o : OD} (h : BX5 w p o) (x : Int) : BX5 (w.setCell ⟨p, 4, none⟩ (.int .i64 x)) p ⟨o.id, o.cu, o.br, o.due, x⟩ := by
  obtain ⟨h0, h1, h2, h3, h4, hf⟩ := h
  refine ⟨?_, ?_, ?_, ?_, ?_, fun i => by rw [World.frozen?_setCell]; exact hf i⟩
  all_goals first | (rw [World.cell?_setCell_other _ _ _ _ (by simp)]; assumption) | (with_reducible exact World.cell?_setCell_same _ _ _ (by assumption))

set_option maxHeartbeats 1600000 in
theorem draw_new (W0 : World) (b : Nat) (v : Value) (bs : List UInt8) (at' seed id : Int) (w : World) (hS : Src W0 w b v bs at' seed) (ha : at' ≤ 1000000) :
    Calls Tryz.prog 34 #[.pointer (some ⟨b, 0, none⟩), .int .i64 id] w fun e w' => ∃ (o : OD) (at2 seed' : Int), e = .returned (.agg #[.int .i64 o.id, .string o.cu, .int .i64 o.br, .int .i64 o.due, .int .i64 o.sent]) ∧ o.id = id ∧ DO o ∧ at' ≤ at2 ∧ at2 ≤ at' + 10 ∧ Src W0 w' b v bs at2 seed' ∧ Chg (fun k => k = b) w w' := by
  have HS := Lib.hid hS; clear hS
  have hbw : b < w.heap.size := HS.out.lt
  go_enter Tryz.func34, Tryz.ntmps34
  go_wp2_with fail
  refine (src_text W0 b v bs at' seed (fun x => x.size ≤ 16 ∧ isN x = true) (w.heap.size + 1) 3 (by omega) (by omega) (by omega) _ ((HS.out.turn (Chg.of_below (ext_alloc1 _ _) (fun _ => False)) (fun _ h => h.elim) (fun h => h.elim)).turn (Chg.of_below (ext_alloc1 _ _) (fun _ => False)) (fun _ h => h.elim) (fun h => h.elim)) (by omega) (fun k hk => ?_)).mono ?_
  · rcases (show k = 0 ∨ k = 1 ∨ k = 2 by omega) with rfl | rfl | rfl
    · exact ⟨⟨#[112, 97, 114, 105, 115, 104]⟩, by decide, by simp [go_sem]⟩
    · exact ⟨⟨#[109, 105, 108, 108, 45, 51]⟩, by decide, by simp [go_sem]⟩
    · exact ⟨⟨#[115, 109, 105, 116, 104]⟩, by decide, by simp [go_sem]⟩
  rintro e w1 ⟨cu, a1, s1, rfl, hcu, h1, h2, HS1, HC1⟩
  have HZ1 := Lib.hid (((b5_box w ⟨0, ⟨#[]⟩, 0, 0, 0⟩ 26).chg (Chg.of_below (ext_alloc1 _ _) (fun _ => False)) (fun h => h)).chg HC1 (by omega))
  have hzw : w.heap.size < w1.heap.size := HZ1.out.lt
  have HB1 := Lib.hid ((Chg.of_below (ext_alloc1 w _) (fun k => k = b)).trans ((Chg.of_below (ext_alloc1 _ _) (fun k => k = b)).trans HC1))
  have HSS1 := Lib.hid HS1
  clear HS1 HC1
  have hz1 : w.heap.size ≤ w1.heap.size := HB1.out.size
  have hgb : ¬ w1.heap.size = b := by omega
  have HZA := Lib.hid (HZ1.out.chg (Chg.of_below (ext_alloc1 w1 (.cells #[.int .i64 id, .string cu, .int .i64 0, .int .i64 0, .int .i64 0] 26)) (fun _ => False)) (fun h => h))
  obtain ⟨g, hg⟩ : ∃ g, w1.heap.size = g := ⟨_, rfl⟩
  have HBX := Lib.hid (b5_box w1 ⟨id, cu, 0, 0, 0⟩ 26)
  have HSA := Lib.hid (HSS1.out.turn (Chg.of_below (ext_alloc1 w1 (.cells #[.int .i64 id, .string cu, .int .i64 0, .int .i64 0, .int .i64 0] 26)) (fun _ => False)) (fun _ h => h.elim) (fun h => h.elim))
  have HC1 := Lib.hid (HB1.out.trans (Chg.of_below (ext_alloc1 w1 (.cells #[.int .i64 id, .string cu, .int .i64 0, .int .i64 0, .int .i64 0] 26)) (fun k => k = b)))
  go_wp2_with fail
  generalize w1.alloc (.cells #[.int .i64 id, .string cu, .int .i64 0, .int .i64 0, .int .i64 0] 26) = wa at *
  rw [hg] at HBX hgb hz1
  clear HB1 HSS1
  refine (src_pick W0 b v bs a1 s1 20 _ HSA.out (by omega)).mono ?_
  rintro e w2 ⟨x2, a2, s2, rfl, hx2, h3, h4, HS2, HC2⟩
  have HZ2 := Lib.hid (HZA.out.chg HC2 (by omega))
  have HX2 := Lib.hid (HBX.out.chg HC2 hgb)
  have HK2 := Lib.hid (HC1.out.trans HC2)
  obtain ⟨p0, _, p2, _⟩ := hx2
  have p2 := p2 (by omega)
  have HSS2 := Lib.hid HS2
  obtain ⟨_, _, c2, _, _, hf⟩ := HX2.out
  have f2 := hf 2
  clear hf HS2 HC2 HC1 HSA HBX HZA HZ1
  have hlow : W0.heap.size ≤ b := HS.out.low
  go_wp2_with fail
  clear c2 f2
  have HX3 := Lib.hid (HX2.out.set2 (100 * (1 + x2)))
  have HZ3 := Lib.hid (HZ2.out.chg (chg_set w2 g 2 (.int .i64 (100 * (1 + x2)))) (by omega))
  have HSS3 := Lib.hid (HSS2.out.turn (chg_set w2 g 2 (.int .i64 (100 * (1 + x2)))) (fun q (hq : q = g) => by omega) (by omega))
  have HK3 := Lib.hid (chg_fresh HK2.out hz1 2 (.int .i64 (100 * (1 + x2))))
  generalize w2.setCell ⟨g, 2, none⟩ (.int .i64 (100 * (1 + x2))) = w3 at *
  clear HX2 HZ2 HSS2 HK2
  refine (src_pick W0 b v bs a2 s2 (12) _ HSS3.out (by omega)).mono ?_
  rintro e w4 ⟨x3, a4, s4, rfl, hx, h34, h44, HS', HC'⟩
  have HZ4 := Lib.hid (HZ3.out.chg HC' (by omega))
  have HX4 := Lib.hid (HX3.out.chg HC' hgb)
  have HK4 := Lib.hid (HK3.out.trans HC')
  have HSS4 := Lib.hid HS'
  obtain ⟨lo4, _, hi4, _⟩ := hx
  have hi4 := hi4 (by omega)
  obtain ⟨_, _, c2, c3, c4, hf⟩ := HX4.out
  have f2 := hf 2
  have f3 := hf 3
  have f4 := hf 4
  clear hf HS' HC' HX3 HZ3 HSS3 HK3
  go_wp2_with fail
  clear c2 f2 c3 f3 c4 f4
  have HX5 := Lib.hid (HX4.out.set3 (x3))
  have HZ5 := Lib.hid (HZ4.out.chg (chg_set w4 g 3 (.int .i64 (x3))) (by omega))
  have HSS5 := Lib.hid (HSS4.out.turn (chg_set w4 g 3 (.int .i64 (x3))) (fun q (hq : q = g) => by omega) (by omega))
  have HK5 := Lib.hid (chg_fresh HK4.out hz1 3 (.int .i64 (x3)))
  generalize w4.setCell ⟨g, 3, none⟩ (.int .i64 (x3)) = w5 at *
  clear HX4 HZ4 HSS4 HK4
  refine (src_one W0 b v bs a4 s4 2 _ HSS5.out (by omega)).mono ?_
  rintro e w6 ⟨x6, a6, s6, rfl, h36, h46, HS', HC'⟩
  have HZ6 := Lib.hid (HZ5.out.chg HC' (by omega))
  have HX6 := Lib.hid (HX5.out.chg HC' hgb)
  have HK6 := Lib.hid (HK5.out.trans HC')
  have HSS6 := Lib.hid HS'
  clear HS' HC' HX5 HZ5 HSS5 HK5
  cases x6 with
  | false =>
    obtain ⟨c0, c1, c2, c3, c4, _⟩ := HX6.out
    obtain ⟨z0, z1, z2, z3, z4, zf⟩ := HZ6.out
    have y0 := zf 0
    have y1 := zf 1
    have y2 := zf 2
    have y3 := zf 3
    have y4 := zf 4
    go_wp2_with fail
    refine bodyPost_ret (v := .agg #[.int .i64 id, .string cu, .int .i64 (100 * (1 + x2)), .int .i64 x3, .int .i64 (0)]) (by simp [results, Tryz.results34, go_sem, z0, z1, z2, z3, z4]) rfl ?_
    have HW := Lib.hid (((((chg_set w6 w.heap.size 0 (.int .i64 id)).trans (chg_set _ w.heap.size 1 (.string cu))).trans (chg_set _ w.heap.size 2 (.int .i64 (100 * (1 + x2))))).trans (chg_set _ w.heap.size 3 (.int .i64 x3))).trans (chg_set _ w.heap.size 4 (.int .i64 (0))))
    exact ⟨⟨id, cu, 100 * (1 + x2), x3, 0⟩, a6, s6, rfl, rfl, ⟨hcu.1, by show (0 : Int) ≤ 100 * (1 + x2); omega, by show (100 * (1 + x2) : Int) ≤ 100000; omega, hcu.2, by show (1 : Int) ≤ 100 * (1 + x2); omega, ⟨by show (0 : Int) ≤ x3; omega, by show (x3 : Int) ≤ 10000; omega⟩, ⟨by show (0 : Int) ≤ 0; omega, by show (0 : Int) ≤ 100 * (1 + x2); omega⟩⟩, by omega, by omega, HSS6.out.turn HW.out (fun q (hq : q = w.heap.size) => by omega) (by omega), chg_fresh (chg_fresh (chg_fresh (chg_fresh (chg_fresh HK6.out (Nat.le_refl _) _ _) (Nat.le_refl _) _ _) (Nat.le_refl _) _ _) (Nat.le_refl _) _ _) (Nat.le_refl _) _ _⟩
  | true =>
    obtain ⟨_, _, c2, _, _, _⟩ := HX6.out
    go_wp2_with fail
    clear c2
    refine (src_pick W0 b v bs a6 s6 (100 * (1 + x2) + 1) _ HSS6.out (by omega)).mono ?_
    rintro e w7 ⟨x7, a7, s7, rfl, hx, h37, h47, HS', HC'⟩
    have HZ7 := Lib.hid (HZ6.out.chg HC' (by omega))
    have HX7 := Lib.hid (HX6.out.chg HC' hgb)
    have HK7 := Lib.hid (HK6.out.trans HC')
    have HSS7 := Lib.hid HS'
    obtain ⟨lo7, _, hi7, _⟩ := hx
    have hi7 := hi7 (by omega)
    obtain ⟨_, _, c2, c3, c4, hf⟩ := HX7.out
    have f2 := hf 2
    have f3 := hf 3
    have f4 := hf 4
    clear hf HS' HC' HX6 HZ6 HSS6 HK6
    clear c2 c3 c4
    obtain ⟨c0, c1, c2, c3, c4, _⟩ := HX7.out
    obtain ⟨z0, z1, z2, z3, z4, zf⟩ := HZ7.out
    have y0 := zf 0
    have y1 := zf 1
    have y2 := zf 2
    have y3 := zf 3
    have y4 := zf 4
    go_wp2_with fail
    clear c0 c1 c2 c3 c4 z0 z1 z2 z3 z4 zf y0 y1 y2 y3 y4 f2 f3 f4
    have HX8 := Lib.hid (HX7.out.set4 (x7))
    have HZ8 := Lib.hid (HZ7.out.chg (chg_set w7 g 4 (.int .i64 (x7))) (by omega))
    have HSS8 := Lib.hid (HSS7.out.turn (chg_set w7 g 4 (.int .i64 (x7))) (fun q (hq : q = g) => by omega) (by omega))
    have HK8 := Lib.hid (chg_fresh HK7.out hz1 4 (.int .i64 (x7)))
    generalize w7.setCell ⟨g, 4, none⟩ (.int .i64 (x7)) = w8 at *
    clear HX7 HZ7 HSS7 HK7
    obtain ⟨c0, c1, c2, c3, c4, _⟩ := HX8.out
    obtain ⟨z0, z1, z2, z3, z4, zf⟩ := HZ8.out
    have y0 := zf 0
    have y1 := zf 1
    have y2 := zf 2
    have y3 := zf 3
    have y4 := zf 4
    refine bodyPost_ret (v := .agg #[.int .i64 id, .string cu, .int .i64 (100 * (1 + x2)), .int .i64 x3, .int .i64 (x7)]) (by simp [results, Tryz.results34, go_sem, z0, z1, z2, z3, z4]) rfl ?_
    have HW := Lib.hid (((((chg_set w8 w.heap.size 0 (.int .i64 id)).trans (chg_set _ w.heap.size 1 (.string cu))).trans (chg_set _ w.heap.size 2 (.int .i64 (100 * (1 + x2))))).trans (chg_set _ w.heap.size 3 (.int .i64 x3))).trans (chg_set _ w.heap.size 4 (.int .i64 (x7))))
    exact ⟨⟨id, cu, 100 * (1 + x2), x3, x7⟩, a7, s7, rfl, rfl, ⟨hcu.1, by show (0 : Int) ≤ 100 * (1 + x2); omega, by show (100 * (1 + x2) : Int) ≤ 100000; omega, hcu.2, by show (1 : Int) ≤ 100 * (1 + x2); omega, ⟨by show (0 : Int) ≤ x3; omega, by show (x3 : Int) ≤ 10000; omega⟩, ⟨by show (0 : Int) ≤ x7; omega, by show (x7 : Int) ≤ 100 * (1 + x2); omega⟩⟩, by omega, by omega, HSS8.out.turn HW.out (fun q (hq : q = w.heap.size) => by omega) (by omega), chg_fresh (chg_fresh (chg_fresh (chg_fresh (chg_fresh HK8.out (Nat.le_refl _) _ _) (Nat.le_refl _) _ _) (Nat.le_refl _) _ _) (Nat.le_refl _) _ _) (Nat.le_refl _) _ _⟩

end Go.Proofs.YtbggggaoljpfnaaGreatDoor

/-
  Drawn orders, second part: l25Spoil, l25Draw, l25Bent, l25DrawStock, l25Each.
-/
namespace Go.Proofs.YtbggggaoljpfnaaGreatDoor
open Go.ChangeShapes Go.WideShapes Go.ChangeAt Go.RowKit Go.Sort
set_option linter.unusedVariables false
set_option maxRecDepth 100000

/-- Five cells from p on, none frozen. -/
structure F5 (w : World) (g k : Nat) (o : OD) : Prop where
  c0 : w.cell? ⟨g, k, none⟩ = some (.int .i64 o.id)
  c1 : w.cell? ⟨g, k + 1, none⟩ = some (.string o.cu)
  c2 : w.cell? ⟨g, k + 2, none⟩ = some (.int .i64 o.br)
  c3 : w.cell? ⟨g, k + 3, none⟩ = some (.int .i64 o.due)
  c4 : w.cell? ⟨g, k + 4, none⟩ = some (.int .i64 o.sent)
  f : ∀ i, w.frozen? ⟨g, i, none⟩ = false
theorem F5.chg {S : Nat → Prop} {w w' : World} {g k : Nat} {o : OD} (h : F5 w g k o) (hc : Chg S w w') (hp : ¬ S g) : F5 w' g k o :=
  ⟨hc.cell h.c0 hp, hc.cell h.c1 hp, hc.cell h.c2 hp, hc.cell h.c3 hp, hc.cell h.c4 hp, fun i => by
    rw [World.frozen?_of_block (w := w) (a := ⟨g, i, none⟩) (hc.block g (block_lt_of_cell h.c0) hp)]; exact h.f i⟩
/-- One of five cells has turned: the order o, of which cell i is x, is o'. -/
def Turn5 (o o' : OD) (i : Nat) (x : Value) : Prop := i < 5 ∧ ∀ j, j < 5 → (cOD o').getD j undef = if j = i then x else (cOD o).getD j undef
theorem tn0 (o : OD) (x : Int) : Turn5 o ⟨x, o.cu, o.br, o.due, o.sent⟩ 0 (.int .i64 x) := ⟨by omega, fun j hj => by rcases (show j = 0 ∨ j = 1 ∨ j = 2 ∨ j = 3 ∨ j = 4 by omega) with rfl | rfl | rfl | rfl | rfl <;> rfl⟩
theorem tn1 (o : OD) (x : ByteArray) : Turn5 o ⟨o.id, x, o.br, o.due, o.sent⟩ 1 (.string x) := ⟨by omega, fun j hj => by rcases (show j = 0 ∨ j = 1 ∨ j = 2 ∨ j = 3 ∨ j = 4 by omega) with rfl | rfl | rfl | rfl | rfl <;> rfl⟩
theorem tn2 (o : OD) (x : Int) : Turn5 o ⟨o.id, o.cu, x, o.due, o.sent⟩ 2 (.int .i64 x) := ⟨by omega, fun j hj => by rcases (show j = 0 ∨ j = 1 ∨ j = 2 ∨ j = 3 ∨ j = 4 by omega) with rfl | rfl | rfl | rfl | rfl <;> rfl⟩
theorem tn3 (o : OD) (x : Int) : Turn5 o ⟨o.id, o.cu, o.br, x, o.sent⟩ 3 (.int .i64 x) := ⟨by omega, fun j hj => by rcases (show j = 0 ∨ j = 1 ∨ j = 2 ∨ j = 3 ∨ j = 4 by omega) with rfl | rfl | rfl | rfl | rfl <;> rfl⟩
theorem tn4 (o : OD) (x : Int) : Turn5 o ⟨o.id, o.cu, o.br, o.due, x⟩ 4 (.int .i64 x) := ⟨by omega, fun j hj => by rcases (show j = 0 ∨ j = 1 ∨ j = 2 ∨ j = 3 ∨ j = 4 by omega) with rfl | rfl | rfl | rfl | rfl <;> rfl⟩
theorem OODS.turn {w : World} {base g n c k i : Nat} {l : List OD} {o' : OD} {x : Value} (h : OODS w base (.slice (some ⟨g, 0, none⟩) n c) l) (hn : n = l.length) (hk : k < l.length) (ht : Turn5 (gd l k) o' i x) :
    OODS (w.setCell ⟨g, k * 5 + i, none⟩ x) base (.slice (some ⟨g, 0, none⟩) n c) (l.set k o') := by
  subst hn
  refine OODS.of_row hk (h.row.set (k * 5 + i) x) (fun j hj => ?_) (fun q j hq hqk hj => ?_)
  · rw [ht.2 j hj]
    by_cases h1 : j = i
    · rw [if_pos (by omega), if_pos h1]
    · rw [if_neg (by omega), if_neg h1, cf_at cOD 5 hj]
  · have := ht.1
    rw [if_neg (by omega), cf_at cOD 5 hj]
/-- The post of a call that spoils an order. -/
def Spoilt (W0 : World) (b : Nat) (v : Value) (bs : List UInt8) (at' : Int) (g k : Nat) (o : OD) (w : World) : Ending → World → Prop := fun e w' => ∃ (o' : OD) (at2 s2 : Int) (w1 : World) (i : Nat) (x : Value),
  e = .returned (.tuple #[]) ∧ (o.cu.size ≤ 16 → o'.cu.size ≤ 16) ∧ at' ≤ at2 ∧ at2 ≤ at' + 4 ∧ Src W0 w' b v bs at2 s2 ∧ Turn5 o o' i x ∧ Chg (fun k => k = b) w w1 ∧ w' = w1.setCell ⟨g, k + i, none⟩ x



set_option maxHeartbeats 1600000 in
theorem draw_spoil (W0 : World) (b : Nat) (v : Value) (bs : List UInt8) (at' seed : Int) (g k : Nat) (o : OD) (w : World) (hS : Src W0 w b v bs at' seed) (ha : at' ≤ 1000000) (hg : g ≠ b) (hW : W0.heap.size ≤ g) (hF : F5 w g k o) (hb1 : 0 ≤ o.br) (hb2 : o.br ≤ 1000000) :
    Calls Tryz.prog 36 #[.pointer (some ⟨b, 0, none⟩), .pointer (some ⟨g, k, none⟩)] w (Spoilt W0 b v bs at' g k o w) := by
  have HS := Lib.hid hS; clear hS
  have HF := Lib.hid hF; clear hF
  go_enter Tryz.func36, Tryz.ntmps36
  go_wp2_with fail
  refine (src_pick W0 b v bs at' seed 5 _ HS.out (by omega)).mono ?_
  rintro e w1 ⟨x, a1, s1, rfl, hx, h1, h2, HS1, HC1⟩
  have HS1 := Lib.hid HS1
  have HC1 := Lib.hid HC1
  have HF1 := Lib.hid (HF.out.chg HC1.out hg)
  clear HS HF
  obtain ⟨x0, _, x4, _⟩ := hx
  have x4 := x4 (by omega)
  obtain ⟨n, rfl⟩ := Int.eq_ofNat_of_zero_le x0
  have hx5 : n = 0 ∨ n = 1 ∨ n = 2 ∨ n = 3 ∨ n = 4 := by omega
  clear x0 x4
  obtain ⟨c0, c1, c2, c3, c4, hf⟩ := HF1.out
  have f0 := hf k
  have f1 := hf (k + 1)
  have f2 := hf (k + 2)
  have f3 := hf (k + 3)
  have f4 := hf (k + 4)
  clear hf
  have hgb := block_lt_of_cell c0
  rcases hx5 with rfl | rfl | rfl | rfl | rfl
  · go_wp2_with fail
    refine (src_litI W0 b v bs a1 s1 [0, 1, 9999, 10000, -9223372036854775808] (by simp) (by simp) w1 HS1.out (by omega) _ _ rfl).mono ?_
    rintro e w2 ⟨x, a2, s2, rfl, hx, h3, h4, HS2, HC2⟩
    have HX := Lib.hid hx
    have HS2 := Lib.hid HS2
    have HC2 := Lib.hid HC2
    obtain ⟨d0, d1, d2, d3, d4, hf⟩ := HF1.out.chg HC2.out hg
    have g0 := hf k
    have g1 := hf (k + 1)
    have g2 := hf (k + 2)
    have g3 := hf (k + 3)
    have g4 := hf (k + 4)
    clear hf c0 c1 c2 c3 c4 f0 f1 f2 f3 f4 hx
    go_wp2_with fail
    refine bodyPost_ret (v := .tuple #[]) (by simp [results, Tryz.results36, go_sem]) rfl ?_
    exact ⟨⟨x, o.cu, o.br, o.due, o.sent⟩, a2, s2, w2, 0, _, rfl, id, by omega, by omega, HS2.out.turn (chg_set w2 g (k + 0) (Value.int .i64 x)) (fun q hq => by subst hq; exact hW) (fun e => hg e.symm), tn0 o x, HC1.out.trans HC2.out, rfl⟩
  · go_wp2_with fail
    refine (src_litS W0 b v bs a1 s1 [⟨#[]⟩, ⟨#[83, 109, 105, 116, 104]⟩, ⟨#[97]⟩] (by simp) (by simp) w1 HS1.out (by omega) _ _ rfl).mono ?_
    rintro e w2 ⟨x, a2, s2, rfl, hx, h3, h4, HS2, HC2⟩
    have HX := Lib.hid hx
    have HS2 := Lib.hid HS2
    have HC2 := Lib.hid HC2
    obtain ⟨d0, d1, d2, d3, d4, hf⟩ := HF1.out.chg HC2.out hg
    have g0 := hf k
    have g1 := hf (k + 1)
    have g2 := hf (k + 2)
    have g3 := hf (k + 3)
    have g4 := hf (k + 4)
    clear hf c0 c1 c2 c3 c4 f0 f1 f2 f3 f4 hx
    go_wp2_with fail
    refine bodyPost_ret (v := .tuple #[]) (by simp [results, Tryz.results36, go_sem]) rfl ?_
    exact ⟨⟨o.id, x, o.br, o.due, o.sent⟩, a2, s2, w2, 1, _, rfl, (fun _ => by show x.size ≤ 16; have := HX.out; simp at this; rcases this with rfl | rfl | rfl <;> decide), by omega, by omega, HS2.out.turn (chg_set w2 g (k + 1) (Value.string x)) (fun q hq => by subst hq; exact hW) (fun e => hg e.symm), tn1 o x, HC1.out.trans HC2.out, rfl⟩
  · go_wp2_with fail
    refine (src_litI W0 b v bs a1 s1 [0, 1, 1000000, 1000001] (by simp) (by simp) w1 HS1.out (by omega) _ _ rfl).mono ?_
    rintro e w2 ⟨x, a2, s2, rfl, hx, h3, h4, HS2, HC2⟩
    have HX := Lib.hid hx
    have HS2 := Lib.hid HS2
    have HC2 := Lib.hid HC2
    obtain ⟨d0, d1, d2, d3, d4, hf⟩ := HF1.out.chg HC2.out hg
    have g0 := hf k
    have g1 := hf (k + 1)
    have g2 := hf (k + 2)
    have g3 := hf (k + 3)
    have g4 := hf (k + 4)
    clear hf c0 c1 c2 c3 c4 f0 f1 f2 f3 f4 hx
    go_wp2_with fail
    refine bodyPost_ret (v := .tuple #[]) (by simp [results, Tryz.results36, go_sem]) rfl ?_
    exact ⟨⟨o.id, o.cu, x, o.due, o.sent⟩, a2, s2, w2, 2, _, rfl, id, by omega, by omega, HS2.out.turn (chg_set w2 g (k + 2) (Value.int .i64 x)) (fun q hq => by subst hq; exact hW) (fun e => hg e.symm), tn2 o x, HC1.out.trans HC2.out, rfl⟩
  · go_wp2_with fail
    refine (src_litI W0 b v bs a1 s1 [-1, 0, 10000, 10001] (by simp) (by simp) w1 HS1.out (by omega) _ _ rfl).mono ?_
    rintro e w2 ⟨x, a2, s2, rfl, hx, h3, h4, HS2, HC2⟩
    have HX := Lib.hid hx
    have HS2 := Lib.hid HS2
    have HC2 := Lib.hid HC2
    obtain ⟨d0, d1, d2, d3, d4, hf⟩ := HF1.out.chg HC2.out hg
    have g0 := hf k
    have g1 := hf (k + 1)
    have g2 := hf (k + 2)
    have g3 := hf (k + 3)
    have g4 := hf (k + 4)
    clear hf c0 c1 c2 c3 c4 f0 f1 f2 f3 f4 hx
    go_wp2_with fail
    refine bodyPost_ret (v := .tuple #[]) (by simp [results, Tryz.results36, go_sem]) rfl ?_
    exact ⟨⟨o.id, o.cu, o.br, x, o.sent⟩, a2, s2, w2, 3, _, rfl, id, by omega, by omega, HS2.out.turn (chg_set w2 g (k + 3) (Value.int .i64 x)) (fun q hq => by subst hq; exact hW) (fun e => hg e.symm), tn3 o x, HC1.out.trans HC2.out, rfl⟩
  · go_wp2_with fail
    have HAM := Lib.hid (src_litD W0 b v bs a1 s1 [-1, 0, o.br, IntKind.i64.wrap (o.br + 1)] (by simp) (by simp) w1 HS1.out (by omega) 2 _ rfl)
    go_region_with ((go_at_call 45; refine (show Calls _ _ _ _ _ from HAM.out).mono ?_; rintro e w2 ⟨x, a2, s2, rfl, _, h3, h4, HS2, HC2⟩; (obtain ⟨d0, d1, d2, d3, d4, hf⟩ := HF1.out.chg HC2 hg); (have g4 := hf (k + 4))))
    all_goals
      refine bodyPost_ret (v := .tuple #[]) (by simp [results, Tryz.results36, go_sem]) rfl ?_
      exact ⟨⟨o.id, o.cu, o.br, o.due, x⟩, a2, s2, w2, 4, _, rfl, id, by omega, by omega, HS2.turn (chg_set w2 g (k + 4) (.int .i64 x)) (fun q hq => by subst hq; exact hW) (fun e => hg e.symm), tn4 o x, HC1.out.trans HC2, rfl⟩

end Go.Proofs.YtbggggaoljpfnaaGreatDoor

/-
  Drawn orders, third part: l25Draw, l25Bent, l25DrawStock, l25Each.
-/
namespace Go.Proofs.YtbggggaoljpfnaaGreatDoor
open Go.ChangeShapes Go.WideShapes Go.ChangeAt Go.RowKit Go.Sort
set_option linter.unusedVariables false
set_option maxRecDepth 100000

/-- What stands while orders are drawn. -/
structure DL (W0 w w' : World) (b : Nat) (v : Value) (bs : List UInt8) (at' seed : Int) (u : Value) (l : List OD) : Prop where
  src : Src W0 w' b v bs at' seed
  own : OODS w' w.heap.size u l
  all : ∀ o ∈ l, DO o
  chg : Chg (fun k => k = b) w w'
  hb : b < w.heap.size
  hw : W0.heap.size ≤ w.heap.size
section
variable {W0 w w' w'' : World} {b : Nat} {v : Value} {bs : List UInt8} {at' seed at2 seed2 : Int} {u : Value} {l : List OD}
theorem chg_join {S T : Nat → Prop} {a b c : World} (h : Chg S a b) (k : Chg T b c) (hT : ∀ i, T i → a.heap.size ≤ i) : Chg S a c :=
  ⟨k.os.trans h.os, k.tape.trans h.tape, k.output.trans h.output, Nat.le_trans h.size k.size, fun i hi hn => (k.block i (Nat.lt_of_lt_of_le hi h.size) (fun ht => by have := hT i ht; omega)).trans (h.block i hi hn)⟩
theorem DL.pick (h : DL W0 w w' b v bs at' seed u l) (hs : Src W0 w'' b v bs at2 seed2) (hc : Chg (fun k => k = b) w' w'') : DL W0 w w'' b v bs at2 seed2 u l :=
  ⟨hs, h.own.chg hc (fun k hk e => by have := (h.own.ge k hk).1; have := h.hb; omega), h.all, h.chg.trans hc, h.hb, h.hw⟩
theorem DL.push (h : DL W0 w w' b v bs at' seed u l) {u2 : Value} {o : OD} (hO : OODS w'' w.heap.size u2 (l ++ [o])) (hc : Chg (BODS u) w' w'') (ho : DO o) : DL W0 w w'' b v bs at' seed u2 (l ++ [o]) :=
  ⟨h.src.turn hc (fun k hk => by have := (h.own.ge k hk).1; have := h.hw; omega) (fun hk => by have := (h.own.ge b hk).1; have := h.hb; omega), hO,
    fun q hq => by rcases List.mem_append.1 hq with h1 | h1; exact h.all q h1; rw [List.mem_singleton.1 h1]; exact ho,
    chg_join h.chg hc (fun k hk => (h.own.ge k hk).1), h.hb, h.hw⟩
theorem DL.other (h : DL W0 w w' b v bs at' seed u l) (hc : Chg (fun _ => False) w' w'') {u2 : Value} {l2 : List OD} (hO : OODS w'' w.heap.size u2 l2) (ha : ∀ o ∈ l2, DO o) : DL W0 w w'' b v bs at' seed u2 l2 :=
  ⟨h.src.turn hc (fun _ h => h.elim) (fun h => h), hO, ha, chg_join h.chg hc (fun _ h => h.elim), h.hb, h.hw⟩
end

set_option maxHeartbeats 1600000 in
theorem draw_list (W0 : World) (b : Nat) (v : Value) (bs : List UInt8) (at' seed : Int) (w : World) (hS : Src W0 w b v bs at' seed) (ha : at' ≤ 100000) :
    Calls Tryz.prog 60 #[.pointer (some ⟨b, 0, none⟩)] w fun e w' => ∃ (A : Option Addr) (c : Nat) (l : List OD) (at2 s2 : Int), e = .returned (.slice A l.length c) ∧ l.length ≤ 7 ∧ at' ≤ at2 ∧ at2 ≤ at' + 100 ∧ DL W0 w w' b v bs at2 s2 (.slice A l.length c) l := by
  have HS := Lib.hid hS
  have hbl := hS.lt
  have hwl := hS.old.size
  clear hS
  go_enter Tryz.func60, Tryz.ntmps60
  go_wp2_with fail
  have HD0 : Hid (DL W0 w (w.alloc (.cells #[] 26)) b v bs at' seed (.slice (some ⟨w.heap.size, 0, none⟩) 0 0) []) :=
    Lib.hid ⟨HS.out.turn (Chg.of_below (ext_alloc1 _ _) (fun _ => False)) (fun _ h => h.elim) (fun h => h), ood_lit w _ (Nat.le_refl _), fun o ho => by simp at ho, Chg.of_below (ext_alloc1 _ _) _, hbl, hwl⟩
  refine (src_pick W0 b v bs at' seed 4 _ HD0.out.src (by omega)).mono ?_
  rintro e w1 ⟨x, a1, s1, rfl, hx, h1, h2, HS1, HC1⟩
  have HD1 := Lib.hid (HD0.out.pick HS1 HC1)
  have hx1 : 0 ≤ x ∧ x ≤ 3 := ⟨hx.1, by have := hx.2.2.1 (by omega); omega⟩
  clear hx HS1 HC1 HD0
  go_wp2_with fail
  refine (src_pick W0 b v bs a1 s1 8 _ HD1.out.src (by omega)).mono ?_
  rintro e w2 ⟨y, a2, s2, rfl, hy, h3, h4, HS2, HC2⟩
  have HD2 := Lib.hid (HD1.out.pick HS2 HC2)
  have hy1 : 0 ≤ y ∧ y ≤ 7 := ⟨hy.1, by have := hy.2.2.1 (by omega); omega⟩
  clear hy HS2 HC2 HD1
  go_wp2_with fail
  go_loopw [3, 4, 5] (fun r i t wr => ∃ (j id : Int) (l : List OD) (A : Option Addr) (c : Nat) (at3 sd3 : Int), 0 ≤ j ∧ j + l.length = y ∧ t = .int .i64 j ∧ i = .int .i64 id ∧ r = .slice A l.length c ∧ 1 ≤ id ∧ id ≤ 4 + 3 * l.length ∧ a2 ≤ at3 ∧ at3 ≤ a2 + 12 * l.length ∧ Hid (DL W0 w wr b v bs at3 sd3 (.slice A l.length c) l)) (fun _ _ t _ => (intOf t).toNat)
  case atStart => exact ⟨y, _, [], _, 0, a2, s2, by omega, by simp, rfl, rfl, rfl, by omega, by simp; omega, Int.le_refl _, by simp, HD2.out⟩
  case round =>
    obtain ⟨j, id, l, A, c, at3, sd3, hj, hjx, rfl, rfl, rfl, hi1, hi2, ht1, ht2, HD⟩ := hrel
    by_cases hj0 : 0 < j
    · go_wp2_with fail
      refine (draw_new W0 b v bs at3 sd3 id _ HD.out.src (by omega)).mono ?_
      rintro e w3 ⟨o, at4, sd4, rfl, hoid, hDO, hq1, hq2, HS3, HC3⟩
      have HD3 := Lib.hid (HD.out.pick HS3 HC3)
      have HDO := Lib.hid hDO
      have hz3 : w.heap.size ≤ w3.heap.size := HD3.out.chg.size
      have hll : l.length ≤ 7 := by omega
      clear HS3 HC3 HD hDO hoid
      go_wp2_with (at_builtin; refine wpList_append_o1 rfl _ _ rfl w.heap.size (.slice A l.length c) l o rfl rfl HD3.out.own (by omega) hz3 ?_; intro g c5 w5 hO5 hg5; (have HD5 := Lib.hid (HD3.out.push hO5 hg5 HDO.out)); clear hO5 hg5)
      refine (src_pick W0 b v bs at4 sd4 3 _ HD5.out.src (by omega)).mono ?_
      rintro e w6 ⟨z, at5, sd5, rfl, hz, hq3, hq4, HS6, HC6⟩
      have HD6 := Lib.hid (HD5.out.pick HS6 HC6)
      have hz1 : 0 ≤ z ∧ z ≤ 2 := ⟨hz.1, by have := hz.2.2.1 (by omega); omega⟩
      clear hz HS6 HC6 HD5
      go_wp2_with fail
      go_roundw
      case rel => exact ⟨j - 1, id + (1 + z), l ++ [o], some ⟨g, 0, none⟩, c5, at5, sd5, by omega, by rw [List.length_append]; simp; omega, rfl, congrArg (Value.int .i64) (by omega), by rw [List.length_append]; rfl, by omega, by rw [List.length_append]; simp; omega, by omega, by rw [List.length_append]; simp; omega, by rw [List.length_append]; exact HD6.out⟩
      case measure => simp [intOf]; omega
    · have e0 : ¬ (0:Int) < j := hj0
      go_wp2_with fail
      go_ret
      exact ⟨A, c, l, rfl, by omega, at3, by omega, by omega, sd3, HD.out⟩

theorem DL.turned {W0 w w1 w' : World} {b : Nat} {v : Value} {bs : List UInt8} {at' seed at2 seed2 : Int} {g c k i : Nat} {l : List OD} {o' : OD} {x : Value} (h : DL W0 w w' b v bs at' seed (.slice (some ⟨g, 0, none⟩) l.length c) l)
    (hs : Src W0 (w1.setCell ⟨g, k * 5 + i, none⟩ x) b v bs at2 seed2) (hc : Chg (fun k => k = b) w' w1) (hk : k < l.length) (ht : Turn5 (gd l k) o' i x) :
    Src W0 (w1.setCell ⟨g, k * 5 + i, none⟩ x) b v bs at2 seed2 ∧ OODS (w1.setCell ⟨g, k * 5 + i, none⟩ x) w.heap.size (.slice (some ⟨g, 0, none⟩) l.length c) (l.set k o') ∧ Chg (fun k => k = b) w (w1.setCell ⟨g, k * 5 + i, none⟩ x) := by
  have hg := h.own.ge g rfl
  have hb := h.hb
  refine ⟨hs, (h.own.chg hc (fun q hq e => by have := (h.own.ge q hq).1; omega)).turn rfl hk ht, ?_⟩
  exact chg_fresh (h.chg.trans hc) hg.1 _ _

/-- What l25Bent draws: at most 31 orders, with short names. -/
def Bent (W0 : World) (b : Nat) (v : Value) (bs : List UInt8) (at' : Int) (w : World) : Ending → World → Prop := fun e w' => ∃ (u : Value) (l : List OD) (at2 s2 : Int), e = .returned u ∧ l.length ≤ 31 ∧ (∀ o ∈ l, o.cu.size ≤ 16) ∧ at' ≤ at2 ∧ at2 ≤ at' + 1000 ∧ Src W0 w' b v bs at2 s2 ∧ OODS w' w.heap.size u l ∧ Chg (fun k => k = b) w w'

set_option maxHeartbeats 3200000 in
theorem draw_bent (W0 : World) (b : Nat) (v : Value) (bs : List UInt8) (at' seed : Int) (w : World) (hS : Src W0 w b v bs at' seed) (ha : at' ≤ 10000) :
    Calls Tryz.prog 32 #[.pointer (some ⟨b, 0, none⟩)] w (Bent W0 b v bs at' w) := by
  have HS := Lib.hid hS; clear hS
  go_enter Tryz.func32, Tryz.ntmps32
  go_wp2_with fail
  refine (draw_list W0 b v bs at' seed _ HS.out (by omega)).mono ?_
  rintro e w1 ⟨A, c, l, a1, s1, rfl, hl, h11, h12, hD⟩
  have HD1 := Lib.hid hD
  clear hD HS
  go_wp2_with fail
  refine (src_one W0 b v bs a1 s1 24 _ HD1.out.src (by omega)).mono ?_
  rintro e w2 ⟨q, a2, s2, rfl, h21, h22, HS2, HC2⟩
  have HD2 := Lib.hid (HD1.out.pick HS2 HC2)
  clear HS2 HC2 HD1
  cases q with
  | false =>
    have HD := HD2; clear HD2
    generalize ha3 : a2 = at3 at *
    generalize hs3 : s2 = sd3 at *
    clear ha3 hs3
    have hll : l.length ≤ 31 := by omega
    by_cases hl0 : 0 < l.length
    · have e1 : (0:Int) < l.length := by omega
      have e2 : decide ((0:Int) < l.length) = true := decide_eq_true e1
      obtain ⟨g, hg, hgb, hgl, _⟩ := HD.out.own.blk hl0
      subst hg
      go_wp2_with fail
      refine (src_one W0 b v bs at3 sd3 10 _ HD.out.src (by omega)).mono ?_
      rintro e w5 ⟨q, a5, s5, rfl, h51, h52, HS5, HC5⟩
      have HD5 := Lib.hid (HD.out.pick HS5 HC5)
      clear HS5 HC5 HD
      cases q with
      | false =>
        go_wp2_with fail
        go_ret
        exact ⟨_, l, a5, s5, rfl, by omega, fun o ho => (HD5.out.all o ho).1, by omega, by omega, HD5.out.src, HD5.out.own, HD5.out.chg⟩
      | true =>
        go_wp2_with fail
        refine (src_pick W0 b v bs a5 s5 l.length _ HD5.out.src (by omega)).mono ?_
        rintro e w6 ⟨z, a6, s6, rfl, hz, h61, h62, HS6, HC6⟩
        have HD6 := Lib.hid (HD5.out.pick HS6 HC6)
        obtain ⟨z0, _, z2, z3⟩ := hz
        obtain ⟨k, rfl⟩ := Int.eq_ofNat_of_zero_le z0
        have hk : k < l.length := by
          rcases Nat.lt_or_ge 1 l.length with h | h
          · have := z2 (by omega); omega
          · have := z3 (by omega); omega
        have e3 : (k : Int) < l.length := by omega
        have hbw := HD6.out.hb
        have hww := HD6.out.hw
        have hdo := HD6.out.all (gd l k) (gd_mem hk)
        obtain ⟨c0, c1, c2, c3, c4, hf⟩ := HD6.out.own.cells5 rfl hk
        have HSP := Lib.hid (draw_spoil W0 b v bs a6 s6 g (k * 5) (gd l k) w6 HD6.out.src (by omega) (by omega) (by omega) ⟨c0, c1, c2, c3, c4, hf⟩ hdo.2.1 (by have := hdo.2.2; omega))
        have HDO := Lib.hid hdo.1
        clear HS6 HC6 HD5 z0 z2 z3 c0 c1 c2 c3 c4 hf hdo
        go_wp2_with fail
        refine (show Calls _ _ _ _ _ from HSP.out).mono ?_
        rintro e w7 ⟨o', a7, s7, w8, i, x, rfl, ho', h71, h72, hs7, ht7, hc7, rfl⟩
        have HT := Lib.hid (DL.turned HD6.out hs7 hc7 hk ht7)
        have HO := Lib.hid (ho' HDO.out)
        clear hs7 ht7 hc7 ho'
        generalize w8.setCell ⟨g, k * 5 + i, none⟩ x = w9 at *
        go_wp2_with fail
        go_ret
        refine ⟨_, l.set k o', a7, s7, rfl, by rw [List.length_set]; omega, fun o ho => ?_, by omega, by omega, HT.out.1, HT.out.2.1, HT.out.2.2⟩
        rcases List.mem_or_eq_of_mem_set ho with h | h
        · exact (HD6.out.all o h).1
        · rw [h]; exact HO.out
    · obtain rfl : l = [] := List.eq_nil_of_length_eq_zero (by omega)
      go_wp2_with fail
      go_ret
      exact ⟨_, [], at3, sd3, rfl, by simp, fun o ho => (HD.out.all o ho).1, by omega, by omega, HD.out.src, HD.out.own, HD.out.chg⟩
  | true =>
    have hz2 : w.heap.size ≤ w2.heap.size := HD2.out.chg.size
    have HDa : Hid (DL W0 w (w2.alloc (.cells #[] 26)) b v bs a2 s2 (.slice (some ⟨w2.heap.size, 0, none⟩) 0 0) []) :=
      Lib.hid (HD2.out.other (Chg.of_below (ext_alloc1 _ _) _) (ood_lit w2 _ hz2) (fun o ho => by simp at ho))
    go_wp2_with fail
    refine (src_pick W0 b v bs a2 s2 2 _ HDa.out.src (by omega)).mono ?_
    rintro e w3 ⟨y, a3, s3, rfl, hy, h31, h32, HS3, HC3⟩
    have HD3 := Lib.hid (HDa.out.pick HS3 HC3)
    have hy1 : 0 ≤ y ∧ y ≤ 1 := ⟨hy.1, by have := hy.2.2.1 (by omega); omega⟩
    obtain ⟨g0, hg0⟩ : ∃ g0, w2.heap.size = g0 := ⟨_, rfl⟩
    rw [hg0] at HD3
    clear hy HS3 HC3 HDa HD2
    go_wp2_with fail
    go_loopw [3, 4] (fun r t wr => ∃ (j : Int) (l : List OD) (A : Option Addr) (c : Nat) (at3 sd3 : Int), 0 ≤ j ∧ j + l.length = 30 + y ∧ t = .int .i64 j ∧ r = .slice A l.length c ∧ a3 ≤ at3 ∧ at3 ≤ a3 + 10 * l.length ∧ Hid (DL W0 w wr b v bs at3 sd3 (.slice A l.length c) l)) (fun _ t _ => (intOf t).toNat)
    case atStart => exact ⟨30 + y, [], _, 0, a3, s3, by omega, by simp, rfl, rfl, Int.le_refl _, by simp, HD3.out⟩
    case round =>
      clear hl
      obtain ⟨j, l, A, c, at3, sd3, hj, hjx, rfl, rfl, ht1, ht2, HD⟩ := hrel
      by_cases hj0 : 0 < j
      · have hll : l.length ≤ 30 := by omega
        go_wp2_with fail
        refine (draw_new W0 b v bs at3 sd3 _ _ HD.out.src (by omega)).mono ?_
        rintro e w4 ⟨o, at4, sd4, rfl, hoid, hDO, hq1, hq2, HS3, HC3⟩
        have HD4 := Lib.hid (HD.out.pick HS3 HC3)
        have HDO := Lib.hid hDO
        have hz4 : w.heap.size ≤ w4.heap.size := HD4.out.chg.size
        clear HS3 HC3 HD hDO hoid
        go_wp2_with (at_builtin; refine wpList_append_o1 rfl _ _ rfl w.heap.size (.slice A l.length c) l o rfl rfl HD4.out.own (by omega) hz4 ?_; intro g c5 w5 hO5 hg5; (have HD5 := Lib.hid (HD4.out.push hO5 hg5 HDO.out)); clear hO5 hg5)
        go_roundw
        case rel => exact ⟨j - 1, l ++ [o], some ⟨g, 0, none⟩, c5, at4, sd4, by omega, by rw [List.length_append]; simp; omega, congrArg (Value.int .i64) (by omega), by rw [List.length_append]; rfl, by omega, by rw [List.length_append]; simp; omega, by rw [List.length_append]; exact HD5.out⟩
        case measure => simp [intOf]; omega
      · have e0 : ¬ (0:Int) < j := hj0
        have hll : l.length ≤ 31 := by omega
        by_cases hl0 : 0 < l.length
        · have e1 : (0:Int) < l.length := by omega
          have e2 : decide ((0:Int) < l.length) = true := decide_eq_true e1
          obtain ⟨g, hg, hgb, hgl, _⟩ := HD.out.own.blk hl0
          subst hg
          go_wp2_with fail
          refine (src_one W0 b v bs at3 sd3 10 _ HD.out.src (by omega)).mono ?_
          rintro e w5 ⟨q, a5, s5, rfl, h51, h52, HS5, HC5⟩
          have HD5 := Lib.hid (HD.out.pick HS5 HC5)
          clear HS5 HC5 HD
          cases q with
          | false =>
            go_wp2_with fail
            go_ret
            exact ⟨_, l, a5, s5, rfl, by omega, fun o ho => (HD5.out.all o ho).1, by omega, by omega, HD5.out.src, HD5.out.own, HD5.out.chg⟩
          | true =>
            go_wp2_with fail
            refine (src_pick W0 b v bs a5 s5 l.length _ HD5.out.src (by omega)).mono ?_
            rintro e w6 ⟨z, a6, s6, rfl, hz, h61, h62, HS6, HC6⟩
            have HD6 := Lib.hid (HD5.out.pick HS6 HC6)
            obtain ⟨z0, _, z2, z3⟩ := hz
            obtain ⟨k, rfl⟩ := Int.eq_ofNat_of_zero_le z0
            have hk : k < l.length := by
              rcases Nat.lt_or_ge 1 l.length with h | h
              · have := z2 (by omega); omega
              · have := z3 (by omega); omega
            have e3 : (k : Int) < l.length := by omega
            have hbw := HD6.out.hb
            have hww := HD6.out.hw
            have hdo := HD6.out.all (gd l k) (gd_mem hk)
            obtain ⟨c0, c1, c2, c3, c4, hf⟩ := HD6.out.own.cells5 rfl hk
            have HSP := Lib.hid (draw_spoil W0 b v bs a6 s6 g (k * 5) (gd l k) w6 HD6.out.src (by omega) (by omega) (by omega) ⟨c0, c1, c2, c3, c4, hf⟩ hdo.2.1 (by have := hdo.2.2; omega))
            have HDO := Lib.hid hdo.1
            clear HS6 HC6 HD5 z0 z2 z3 c0 c1 c2 c3 c4 hf hdo
            go_wp2_with fail
            refine (show Calls _ _ _ _ _ from HSP.out).mono ?_
            rintro e w7 ⟨o', a7, s7, w8, i, x, rfl, ho', h71, h72, hs7, ht7, hc7, rfl⟩
            have HT := Lib.hid (DL.turned HD6.out hs7 hc7 hk ht7)
            have HO := Lib.hid (ho' HDO.out)
            clear hs7 ht7 hc7 ho'
            generalize w8.setCell ⟨g, k * 5 + i, none⟩ x = w9 at *
            go_wp2_with fail
            go_ret
            refine ⟨_, l.set k o', a7, s7, rfl, by rw [List.length_set]; omega, fun o ho => ?_, by omega, by omega, HT.out.1, HT.out.2.1, HT.out.2.2⟩
            rcases List.mem_or_eq_of_mem_set ho with h | h
            · exact (HD6.out.all o h).1
            · rw [h]; exact HO.out
        · obtain rfl : l = [] := List.eq_nil_of_length_eq_zero (by omega)
          go_wp2_with fail
          go_ret
          exact ⟨_, [], at3, sd3, rfl, by simp, fun o ho => (HD.out.all o ho).1, by omega, by omega, HD.out.src, HD.out.own, HD.out.chg⟩


end Go.Proofs.YtbggggaoljpfnaaGreatDoor

/-
  Drawn orders, fourth part: DrawReserveStock, DrawStockNeeded, DrawFirstShort, DrawLateOrders.
-/
namespace Go.Proofs.YtbggggaoljpfnaaGreatDoor
open Go.ChangeShapes Go.WideShapes Go.ChangeAt Go.RowKit Go.Sort
set_option linter.unusedVariables false
set_option maxRecDepth 100000

theorem sm_short {l : List OD} (hl : l.length ≤ 31) (ha : ∀ o ∈ l, o.cu.size ≤ 16) : SmODS l := by
  have h : ∀ m : List OD, (∀ o ∈ m, o.cu.size ≤ 16) → totOD m ≤ 16 * m.length := by
    intro m
    induction m with
    | nil => intro _; simp [totOD]
    | cons o m ih =>
      intro hm
      have h1 := ih (fun q hq => hm q (by simp [hq]))
      have h2 := hm o (by simp)
      unfold totOD at h1 ⊢
      simp only [List.map_cons, List.sum_cons, List.length_cons]
      omega
  have := h l ha
  unfold SmODS; omega
/-- What the draws of orders return: orders and a number. -/
def Drawn1 (w : World) : Ending → World → Prop := fun e w' => ∃ (u : Value) (l : List OD) (x : Int), e = .returned (.tuple #[u, .int .i64 x]) ∧ OODS w' w.heap.size u l ∧ SmODS l ∧ Below w.heap.size w w'
def Drawn2 (w : World) : Ending → World → Prop := fun e w' => ∃ (u : Value) (l : List OD) (x y : Int), e = .returned (.tuple #[u, .int .i64 x, .int .i64 y]) ∧ OODS w' w.heap.size u l ∧ SmODS l ∧ Below w.heap.size w w'

end Go.Proofs.YtbggggaoljpfnaaGreatDoor
