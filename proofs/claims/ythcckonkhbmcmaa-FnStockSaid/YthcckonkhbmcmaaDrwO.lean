/-
  Drawn orders: l25New.
-/
import Derived.Test.YthcckonkhbmcmaaSrcM
import Derived.Test.YthcckonkhbmcmaaOrders
namespace Go.Proofs.Ythcckonkhbmcmaa
open Go.ChangeShapes Go.WideShapes Go.ChangeAt Go.RowKit Go.Sort
set_option linter.unusedVariables false
set_option maxRecDepth 100000

/-- A drawn order: its name is short, its number of bricks small. -/
def DO (o : OD) : Prop := o.cu.size ≤ 16 ∧ 0 ≤ o.br ∧ o.br ≤ 100000

/-- The five cells of an order in a block of its own. -/
def B5 (w : World) (p : Nat) (o : OD) : Prop := w.cell? ⟨p, 0, none⟩ = some (.int .i64 o.id) ∧ w.cell? ⟨p, 1, none⟩ = some (.string o.cu) ∧ w.cell? ⟨p, 2, none⟩ = some (.int .i64 o.br) ∧ w.cell? ⟨p, 3, none⟩ = some (.int .i64 o.due) ∧ w.cell? ⟨p, 4, none⟩ = some (.int .i64 o.sent) ∧ ∀ i, w.frozen? ⟨p, i, none⟩ = false
theorem B5.lt {w : World} {p : Nat} {o : OD} (h : B5 w p o) : p < w.heap.size := block_lt_of_cell h.1
theorem B5.chg {S : Nat → Prop} {w w' : World} {p : Nat} {o : OD} (h : B5 w p o) (hc : Chg S w w') (hp : ¬ S p) : B5 w' p o := by
  obtain ⟨h0, h1, h2, h3, h4, hf⟩ := h
  refine ⟨hc.cell h0 hp, hc.cell h1 hp, hc.cell h2 hp, hc.cell h3 hp, hc.cell h4 hp, fun i => ?_⟩
  rw [World.frozen?_of_block (w := w) (a := ⟨p, i, none⟩) (hc.block p (block_lt_of_cell h0) hp)]
  exact hf i
theorem b5_box (w : World) (o : OD) (T : TypeId) : B5 (w.alloc (.cells #[.int .i64 o.id, .string o.cu, .int .i64 o.br, .int .i64 o.due, .int .i64 o.sent] T)) w.heap.size o := ⟨by simp [go_sem], by simp [go_sem], by simp [go_sem], by simp [go_sem], by simp [go_sem], fun i => by simp [go_sem]⟩
theorem B5.set2 {w : World} {p : Nat} {o : OD} (h : B5 w p o) (x : Int) : B5 (w.setCell ⟨p, 2, none⟩ (.int .i64 x)) p ⟨o.id, o.cu, x, o.due, o.sent⟩ := by
  obtain ⟨h0, h1, h2, h3, h4, hf⟩ := h
  refine ⟨?_, ?_, ?_, ?_, ?_, fun i => by rw [World.frozen?_setCell]; exact hf i⟩
  all_goals first | (rw [World.cell?_setCell_other _ _ _ _ (by simp)]; assumption) | (with_reducible exact World.cell?_setCell_same _ _ _ (by assumption))
theorem B5.set3 {w : World} {p : Nat} {o : OD} (h : B5 w p o) (x : Int) : B5 (w.setCell ⟨p, 3, none⟩ (.int .i64 x)) p ⟨o.id, o.cu, o.br, x, o.sent⟩ := by
  obtain ⟨h0, h1, h2, h3, h4, hf⟩ := h
  refine ⟨?_, ?_, ?_, ?_, ?_, fun i => by rw [World.frozen?_setCell]; exact hf i⟩
  all_goals first | (rw [World.cell?_setCell_other _ _ _ _ (by simp)]; assumption) | (with_reducible exact World.cell?_setCell_same _ _ _ (by assumption))
theorem B5.set4 {w : World} {p : Nat} {o : OD} (h : B5 w p o) (x : Int) : B5 (w.setCell ⟨p, 4, none⟩ (.int .i64 x)) p ⟨o.id, o.cu, o.br, o.due, x⟩ := by
  obtain ⟨h0, h1, h2, h3, h4, hf⟩ := h
  refine ⟨?_, ?_, ?_, ?_, ?_, fun i => by rw [World.frozen?_setCell]; exact hf i⟩
  all_goals first | (rw [World.cell?_setCell_other _ _ _ _ (by simp)]; assumption) | (with_reducible exact World.cell?_setCell_same _ _ _ (by assumption))

set_option maxHeartbeats 1600000 in
theorem draw_new (W0 : World) (b : Nat) (v : Value) (bs : List UInt8) (at' seed id : Int) (w : World) (hS : Src W0 w b v bs at' seed) (ha : at' ≤ 1000000) :
    Calls Try.prog 42 #[.pointer (some ⟨b, 0, none⟩), .int .i64 id] w fun e w' => ∃ (o : OD) (at2 seed' : Int), e = .returned (.agg #[.int .i64 o.id, .string o.cu, .int .i64 o.br, .int .i64 o.due, .int .i64 o.sent]) ∧ o.id = id ∧ DO o ∧ at' ≤ at2 ∧ at2 ≤ at' + 10 ∧ Src W0 w' b v bs at2 seed' ∧ Chg (fun k => k = b) w w' := by
  have HS := Lib.hid hS; clear hS
  have hbw : b < w.heap.size := HS.out.lt
  go_enter Try.func42, Try.ntmps42
  go_wp2_with fail
  refine (src_text W0 b v bs at' seed (fun x => x.size ≤ 16) (w.heap.size + 1) 3 (by omega) (by omega) (by omega) _ ((HS.out.turn (Chg.of_below (ext_alloc1 _ _) (fun _ => False)) (fun _ h => h.elim) (fun h => h.elim)).turn (Chg.of_below (ext_alloc1 _ _) (fun _ => False)) (fun _ h => h.elim) (fun h => h.elim)) (by omega) (fun k hk => ?_)).mono ?_
  · rcases (show k = 0 ∨ k = 1 ∨ k = 2 by omega) with rfl | rfl | rfl
    · exact ⟨⟨#[112, 97, 114, 105, 115, 104]⟩, by decide, by simp [go_sem]⟩
    · exact ⟨⟨#[109, 105, 108, 108, 45, 51]⟩, by decide, by simp [go_sem]⟩
    · exact ⟨⟨#[115, 109, 105, 116, 104]⟩, by decide, by simp [go_sem]⟩
  rintro e w1 ⟨cu, a1, s1, rfl, hcu, h1, h2, HS1, HC1⟩
  have HZ1 := Lib.hid (((b5_box w ⟨0, ⟨#[]⟩, 0, 0, 0⟩ 40).chg (Chg.of_below (ext_alloc1 _ _) (fun _ => False)) (fun h => h)).chg HC1 (by omega))
  have hzw : w.heap.size < w1.heap.size := HZ1.out.lt
  have HB1 := Lib.hid ((Chg.of_below (ext_alloc1 w _) (fun k => k = b)).trans ((Chg.of_below (ext_alloc1 _ _) (fun k => k = b)).trans HC1))
  have HSS1 := Lib.hid HS1
  clear HS1 HC1
  have hz1 : w.heap.size ≤ w1.heap.size := HB1.out.size
  have hgb : ¬ w1.heap.size = b := by omega
  have HZA := Lib.hid (HZ1.out.chg (Chg.of_below (ext_alloc1 w1 (.cells #[.int .i64 id, .string cu, .int .i64 0, .int .i64 0, .int .i64 0] 40)) (fun _ => False)) (fun h => h))
  obtain ⟨g, hg⟩ : ∃ g, w1.heap.size = g := ⟨_, rfl⟩
  have HBX := Lib.hid (b5_box w1 ⟨id, cu, 0, 0, 0⟩ 40)
  have HSA := Lib.hid (HSS1.out.turn (Chg.of_below (ext_alloc1 w1 (.cells #[.int .i64 id, .string cu, .int .i64 0, .int .i64 0, .int .i64 0] 40)) (fun _ => False)) (fun _ h => h.elim) (fun h => h.elim))
  have HC1 := Lib.hid (HB1.out.trans (Chg.of_below (ext_alloc1 w1 (.cells #[.int .i64 id, .string cu, .int .i64 0, .int .i64 0, .int .i64 0] 40)) (fun k => k = b)))
  go_wp2_with fail
  generalize w1.alloc (.cells #[.int .i64 id, .string cu, .int .i64 0, .int .i64 0, .int .i64 0] 40) = wa at *
  rw [hg] at HBX hgb hz1
  clear HB1 HSS1
  refine (src_pick W0 b v bs a1 s1 20 _ HSA.out (by omega)).mono ?_
  rintro e w2 ⟨x2, a2, s2, rfl, hx2, h3, h4, HS2, HC2⟩
  have HZ2 := Lib.hid (HZA.out.chg HC2 (by omega))
  have HX2 := Lib.hid (HBX.out.chg HC2 hgb)
  have HK2 := Lib.hid (HC1.out.trans HC2)
  obtain ⟨p0, _, p2, _⟩ := hx2
  have p2 := p2 (by omega)
  have HSS2 := Lib.hid HS2
  obtain ⟨_, _, c2, _, _, hf⟩ := HX2.out
  have f2 := hf 2
  clear hf HS2 HC2 HC1 HSA HBX HZA HZ1
  have hlow : W0.heap.size ≤ b := HS.out.low
  go_wp2_with fail
  clear c2 f2
  have HX3 := Lib.hid (HX2.out.set2 (100 * (1 + x2)))
  have HZ3 := Lib.hid (HZ2.out.chg (chg_set w2 g 2 (.int .i64 (100 * (1 + x2)))) (by omega))
  have HSS3 := Lib.hid (HSS2.out.turn (chg_set w2 g 2 (.int .i64 (100 * (1 + x2)))) (fun q (hq : q = g) => by omega) (by omega))
  have HK3 := Lib.hid (chg_fresh HK2.out hz1 2 (.int .i64 (100 * (1 + x2))))
  generalize w2.setCell ⟨g, 2, none⟩ (.int .i64 (100 * (1 + x2))) = w3 at *
  clear HX2 HZ2 HSS2 HK2
  refine (src_pick W0 b v bs a2 s2 (12) _ HSS3.out (by omega)).mono ?_
  rintro e w4 ⟨x3, a4, s4, rfl, hx, h34, h44, HS', HC'⟩
  have HZ4 := Lib.hid (HZ3.out.chg HC' (by omega))
  have HX4 := Lib.hid (HX3.out.chg HC' hgb)
  have HK4 := Lib.hid (HK3.out.trans HC')
  have HSS4 := Lib.hid HS'
  obtain ⟨lo4, _, hi4, _⟩ := hx
  have hi4 := hi4 (by omega)
  obtain ⟨_, _, c2, c3, c4, hf⟩ := HX4.out
  have f2 := hf 2
  have f3 := hf 3
  have f4 := hf 4
  clear hf HS' HC' HX3 HZ3 HSS3 HK3
  go_wp2_with fail
  clear c2 f2 c3 f3 c4 f4
  have HX5 := Lib.hid (HX4.out.set3 (x3))
  have HZ5 := Lib.hid (HZ4.out.chg (chg_set w4 g 3 (.int .i64 (x3))) (by omega))
  have HSS5 := Lib.hid (HSS4.out.turn (chg_set w4 g 3 (.int .i64 (x3))) (fun q (hq : q = g) => by omega) (by omega))
  have HK5 := Lib.hid (chg_fresh HK4.out hz1 3 (.int .i64 (x3)))
  generalize w4.setCell ⟨g, 3, none⟩ (.int .i64 (x3)) = w5 at *
  clear HX4 HZ4 HSS4 HK4
  refine (src_one W0 b v bs a4 s4 2 _ HSS5.out (by omega)).mono ?_
  rintro e w6 ⟨x6, a6, s6, rfl, h36, h46, HS', HC'⟩
  have HZ6 := Lib.hid (HZ5.out.chg HC' (by omega))
  have HX6 := Lib.hid (HX5.out.chg HC' hgb)
  have HK6 := Lib.hid (HK5.out.trans HC')
  have HSS6 := Lib.hid HS'
  clear HS' HC' HX5 HZ5 HSS5 HK5
  cases x6 with
  | false =>
    obtain ⟨c0, c1, c2, c3, c4, _⟩ := HX6.out
    obtain ⟨z0, z1, z2, z3, z4, zf⟩ := HZ6.out
    have y0 := zf 0
    have y1 := zf 1
    have y2 := zf 2
    have y3 := zf 3
    have y4 := zf 4
    go_wp2_with fail
    refine bodyPost_ret (v := .agg #[.int .i64 id, .string cu, .int .i64 (100 * (1 + x2)), .int .i64 x3, .int .i64 (0)]) (by simp [results, Try.results42, go_sem, z0, z1, z2, z3, z4]) rfl ?_
    have HW := Lib.hid (((((chg_set w6 w.heap.size 0 (.int .i64 id)).trans (chg_set _ w.heap.size 1 (.string cu))).trans (chg_set _ w.heap.size 2 (.int .i64 (100 * (1 + x2))))).trans (chg_set _ w.heap.size 3 (.int .i64 x3))).trans (chg_set _ w.heap.size 4 (.int .i64 (0))))
    exact ⟨⟨id, cu, 100 * (1 + x2), x3, 0⟩, a6, s6, rfl, rfl, ⟨hcu, by show (0 : Int) ≤ 100 * (1 + x2); omega, by show (100 * (1 + x2) : Int) ≤ 100000; omega⟩, by omega, by omega, HSS6.out.turn HW.out (fun q (hq : q = w.heap.size) => by omega) (by omega), chg_fresh (chg_fresh (chg_fresh (chg_fresh (chg_fresh HK6.out (Nat.le_refl _) _ _) (Nat.le_refl _) _ _) (Nat.le_refl _) _ _) (Nat.le_refl _) _ _) (Nat.le_refl _) _ _⟩
  | true =>
    obtain ⟨_, _, c2, _, _, _⟩ := HX6.out
    go_wp2_with fail
    clear c2
    refine (src_pick W0 b v bs a6 s6 (100 * (1 + x2) + 1) _ HSS6.out (by omega)).mono ?_
    rintro e w7 ⟨x7, a7, s7, rfl, hx, h37, h47, HS', HC'⟩
    have HZ7 := Lib.hid (HZ6.out.chg HC' (by omega))
    have HX7 := Lib.hid (HX6.out.chg HC' hgb)
    have HK7 := Lib.hid (HK6.out.trans HC')
    have HSS7 := Lib.hid HS'
    obtain ⟨lo7, _, hi7, _⟩ := hx
    have hi7 := hi7 (by omega)
    obtain ⟨_, _, c2, c3, c4, hf⟩ := HX7.out
    have f2 := hf 2
    have f3 := hf 3
    have f4 := hf 4
    clear hf HS' HC' HX6 HZ6 HSS6 HK6
    clear c2 c3 c4
    obtain ⟨c0, c1, c2, c3, c4, _⟩ := HX7.out
    obtain ⟨z0, z1, z2, z3, z4, zf⟩ := HZ7.out
    have y0 := zf 0
    have y1 := zf 1
    have y2 := zf 2
    have y3 := zf 3
    have y4 := zf 4
    go_wp2_with fail
    clear c0 c1 c2 c3 c4 z0 z1 z2 z3 z4 zf y0 y1 y2 y3 y4 f2 f3 f4
    have HX8 := Lib.hid (HX7.out.set4 (x7))
    have HZ8 := Lib.hid (HZ7.out.chg (chg_set w7 g 4 (.int .i64 (x7))) (by omega))
    have HSS8 := Lib.hid (HSS7.out.turn (chg_set w7 g 4 (.int .i64 (x7))) (fun q (hq : q = g) => by omega) (by omega))
    have HK8 := Lib.hid (chg_fresh HK7.out hz1 4 (.int .i64 (x7)))
    generalize w7.setCell ⟨g, 4, none⟩ (.int .i64 (x7)) = w8 at *
    clear HX7 HZ7 HSS7 HK7
    obtain ⟨c0, c1, c2, c3, c4, _⟩ := HX8.out
    obtain ⟨z0, z1, z2, z3, z4, zf⟩ := HZ8.out
    have y0 := zf 0
    have y1 := zf 1
    have y2 := zf 2
    have y3 := zf 3
    have y4 := zf 4
    refine bodyPost_ret (v := .agg #[.int .i64 id, .string cu, .int .i64 (100 * (1 + x2)), .int .i64 x3, .int .i64 (x7)]) (by simp [results, Try.results42, go_sem, z0, z1, z2, z3, z4]) rfl ?_
    have HW := Lib.hid (((((chg_set w8 w.heap.size 0 (.int .i64 id)).trans (chg_set _ w.heap.size 1 (.string cu))).trans (chg_set _ w.heap.size 2 (.int .i64 (100 * (1 + x2))))).trans (chg_set _ w.heap.size 3 (.int .i64 x3))).trans (chg_set _ w.heap.size 4 (.int .i64 (x7))))
    exact ⟨⟨id, cu, 100 * (1 + x2), x3, x7⟩, a7, s7, rfl, rfl, ⟨hcu, by show (0 : Int) ≤ 100 * (1 + x2); omega, by show (100 * (1 + x2) : Int) ≤ 100000; omega⟩, by omega, by omega, HSS8.out.turn HW.out (fun q (hq : q = w.heap.size) => by omega) (by omega), chg_fresh (chg_fresh (chg_fresh (chg_fresh (chg_fresh HK8.out (Nat.le_refl _) _ _) (Nat.le_refl _) _ _) (Nat.le_refl _) _ _) (Nat.le_refl _) _ _) (Nat.le_refl _) _ _⟩

end Go.Proofs.Ythcckonkhbmcmaa
