/-
  Drawn entries: l27DrawEntry, l27Entries.
-/
import Derived.Test.YtiedojkoogfokaaDoorSrcM
import Derived.Test.YtiedojkoogfokaaDoorSrcL
import Derived.Test.YtiedojkoogfokaaDoorLog7
namespace Go.Proofs.YtiedojkoogfokaaDoor
open Go.ChangeShapes Go.WideShapes Go.ChangeAt Go.RowKit Go.Sort
set_option linter.unusedVariables false
set_option maxRecDepth 100000

/-- The three cells of an entry in a block of its own. -/
def B3 (w : World) (p : Nat) (o : EN) : Prop := w.cell? ⟨p, 0, none⟩ = some (.int .i64 o.day) ∧ w.cell? ⟨p, 1, none⟩ = some (.string o.what) ∧ w.cell? ⟨p, 2, none⟩ = some (.int .i64 o.val) ∧ ∀ i, w.frozen? ⟨p, i, none⟩ = false
theorem B3.lt {w : World} {p : Nat} {o : EN} (h : B3 w p o) : p < w.heap.size := block_lt_of_cell h.1
theorem B3.chg {S : Nat → Prop} {w w' : World} {p : Nat} {o : EN} (h : B3 w p o) (hc : Chg S w w') (hp : ¬ S p) : B3 w' p o := by
  obtain ⟨h0, h1, h2, hf⟩ := h
  refine ⟨hc.cell h0 hp, hc.cell h1 hp, hc.cell h2 hp, fun i => ?_⟩
  rw [World.frozen?_of_block (w := w) (a := ⟨p, i, none⟩) (hc.block p (block_lt_of_cell h0) hp)]
  exact hf i
theorem b3_box (w : World) (o : EN) (T : TypeId) : B3 (w.alloc (.cells #[.int .i64 o.day, .string o.what, .int .i64 o.val] T)) w.heap.size o := ⟨by simp [go_sem], by simp [go_sem], by simp [go_sem], fun i => by simp [go_sem]⟩
theorem B3.set0 {w : World} {p : Nat} {o : EN} (h : B3 w p o) (x : Int) : B3 (w.setCell ⟨p, 0, none⟩ (Value.int .i64 x)) p ⟨x, o.what, o.val⟩ := by
  obtain ⟨h0, h1, h2, hf⟩ := h
  refine ⟨?_, ?_, ?_, fun i => by rw [World.frozen?_setCell]; exact hf i⟩
  all_goals first | (rw [World.cell?_setCell_other _ _ _ _ (by simp)]; assumption) | (with_reducible exact World.cell?_setCell_same _ _ _ (by assumption))
theorem B3.set1 {w : World} {p : Nat} {o : EN} (h : B3 w p o) (x : ByteArray) : B3 (w.setCell ⟨p, 1, none⟩ (Value.string x)) p ⟨o.day, x, o.val⟩ := by
  obtain ⟨h0, h1, h2, hf⟩ := h
  refine ⟨?_, ?_, ?_, fun i => by rw [World.frozen?_setCell]; exact hf i⟩
  all_goals first | (rw [World.cell?_setCell_other _ _ _ _ (by simp)]; assumption) | (with_reducible exact World.cell?_setCell_same _ _ _ (by assumption))
theorem B3.set2 {w : World} {p : Nat} {o : EN} (h : B3 w p o) (x : Int) : B3 (w.setCell ⟨p, 2, none⟩ (Value.int .i64 x)) p ⟨o.day, o.what, x⟩ := by
  obtain ⟨h0, h1, h2, hf⟩ := h
  refine ⟨?_, ?_, ?_, fun i => by rw [World.frozen?_setCell]; exact hf i⟩
  all_goals first | (rw [World.cell?_setCell_other _ _ _ _ (by simp)]; assumption) | (with_reducible exact World.cell?_setCell_same _ _ _ (by assumption))

set_option maxHeartbeats 1600000 in
theorem draw_entry (W0 : World) (b : Nat) (v : Value) (bs : List UInt8) (at' seed day : Int) (w : World) (hS : Src W0 w b v bs at' seed) (ha : at' ≤ 1000000) (hd0 : 0 ≤ day) (hd1 : day ≤ 1000000) :
    Calls Tryd.prog 37 #[.pointer (some ⟨b, 0, none⟩), .int .i64 day] w fun e w' => ∃ (o : EN) (at2 seed' : Int), e = .returned (.agg #[.int .i64 o.day, .string o.what, .int .i64 o.val]) ∧ o.what.size ≤ 16 ∧ at' ≤ at2 ∧ at2 ≤ at' + 10 ∧ Src W0 w' b v bs at2 seed' ∧ Chg (fun k => k = b) w w' := by
  have HS := Lib.hid hS; clear hS
  have hbw : b < w.heap.size := HS.out.lt
  go_enter Tryd.func37, Tryd.ntmps37
  go_wp2_with fail
  have HSA := Lib.hid (HS.out.turn (Chg.of_below (ext_alloc1 _ (.cells #[.int .i64 0, .string ⟨#[]⟩, .int .i64 0] 38)) (fun _ => False)) (fun _ h => h.elim) (fun h => h.elim))
  have HZA := Lib.hid (b3_box w ⟨0, ⟨#[]⟩, 0⟩ 38)
  have HKA := Lib.hid (Chg.of_below (ext_alloc1 w (.cells #[.int .i64 0, .string ⟨#[]⟩, .int .i64 0] 38)) (fun k => k = b))
  refine (src_pick W0 b v bs at' seed 4 _ HSA.out (by omega)).mono ?_
  rintro e w1 ⟨x1, a1, s1, rfl, hx1, h1, h2, HS1, HC1⟩
  have HZ1 := Lib.hid (HZA.out.chg HC1 (by omega))
  have HK1 := Lib.hid (HKA.out.trans HC1)
  have HS1 := Lib.hid HS1
  have hzw : w.heap.size < w1.heap.size := HZ1.out.lt
  clear HZA HKA HC1 HSA
  go_wp2_with fail
  generalize wrap64 (day + x1) = dy
  have HZ1 := Lib.hid (HZ1.out.chg (Chg.of_below (ext_alloc1 w1 (.cells #[.int .i64 dy, .string ⟨#[]⟩, .int .i64 0] 38)) (fun _ => False)) (fun h => h))
  have HX1 := Lib.hid (b3_box w1 ⟨dy, ⟨#[]⟩, 0⟩ 38)
  have HSS1 := Lib.hid (HS1.out.turn (Chg.of_below (ext_alloc1 w1 (.cells #[.int .i64 dy, .string ⟨#[]⟩, .int .i64 0] 38)) (fun _ => False)) (fun _ h => h.elim) (fun h => h.elim))
  have HK1 := Lib.hid (HK1.out.trans (Chg.of_below (ext_alloc1 w1 (.cells #[.int .i64 dy, .string ⟨#[]⟩, .int .i64 0] 38)) (fun k => k = b)))
  have hgz : w1.heap.size + 1 = (w1.alloc (.cells #[.int .i64 dy, .string ⟨#[]⟩, .int .i64 0] 38)).heap.size := by simp
  obtain ⟨g, hg⟩ : ∃ g, w1.heap.size = g := ⟨_, rfl⟩
  have hz1 : w.heap.size ≤ g := by omega
  have hgb : ¬ g = b := by omega
  have hlow : W0.heap.size ≤ b := HSS1.out.low
  rw [hgz]
  rw [hg] at HX1 hzw
  rw [hg]
  generalize w1.alloc (.cells #[.int .i64 dy, .string ⟨#[]⟩, .int .i64 0] 38) = wa at *
  clear HS1 hgz hg
  refine (src_litS W0 b v bs a1 s1 [⟨#[115, 101, 101, 110]⟩, ⟨#[98, 114, 105, 99, 107, 115]⟩, ⟨#[115, 116, 97, 114, 45, 51]⟩, ⟨#[102, 114, 111, 115, 116]⟩] (by simp) (by simp) wa HSS1.out (by omega) _ _ rfl).mono ?_
  rintro e w2 ⟨x2, a2, s2, rfl, hx2, h3, h4, HS', HC'⟩
  have hw2 : x2.size ≤ 16 := by simp at hx2; rcases hx2 with rfl | rfl | rfl | rfl <;> decide
  clear hx2 hx1
  have HZ2 := Lib.hid (HZ1.out.chg HC' (by omega))
  have HX2 := Lib.hid (HX1.out.chg HC' hgb)
  have HK2 := Lib.hid (HK1.out.trans HC')
  have HSS2 := Lib.hid HS'
  clear HS' HC' HX1 HZ1 HSS1 HK1
  obtain ⟨c0, c1, c2, cf⟩ := HX2.out
  obtain ⟨z0, z1, z2, zf⟩ := HZ2.out
  have f0 := cf 0
  have f1 := cf 1
  have f2 := cf 2
  have y0 := zf 0
  have y1 := zf 1
  have y2 := zf 2
  clear cf zf
  go_wp2_with fail
  clear c0 c1 c2 f0 f1 f2 z0 z1 z2 y0 y1 y2
  have HX3 := Lib.hid (HX2.out.set1 (x2))
  have HZ3 := Lib.hid (HZ2.out.chg (chg_set w2 g 1 (Value.string (x2))) (by omega))
  have HSS3 := Lib.hid (HSS2.out.turn (chg_set w2 g 1 (Value.string (x2))) (fun q (hq : q = g) => by omega) (by omega))
  have HK3 := Lib.hid (chg_fresh HK2.out hz1 1 (Value.string (x2)))
  generalize w2.setCell ⟨g, 1, none⟩ (Value.string (x2)) = w3 at *
  clear HX2 HZ2 HSS2 HK2
  refine (src_pick W0 b v bs a2 s2 900 _ HSS3.out (by omega)).mono ?_
  rintro e w4 ⟨x4, a4, s4, rfl, hx4, h5, h6, HS', HC'⟩
  clear hx4
  have HZ4 := Lib.hid (HZ3.out.chg HC' (by omega))
  have HX4 := Lib.hid (HX3.out.chg HC' hgb)
  have HK4 := Lib.hid (HK3.out.trans HC')
  have HSS4 := Lib.hid HS'
  clear HS' HC' HX3 HZ3 HSS3 HK3
  obtain ⟨c0, c1, c2, cf⟩ := HX4.out
  obtain ⟨z0, z1, z2, zf⟩ := HZ4.out
  have f0 := cf 0
  have f1 := cf 1
  have f2 := cf 2
  have y0 := zf 0
  have y1 := zf 1
  have y2 := zf 2
  clear cf zf
  go_wp2_with fail
  clear c0 c1 c2 f0 f1 f2 z0 z1 z2 y0 y1 y2
  generalize wrap64 (x4 - 200) = vl
  have HX5 := Lib.hid (HX4.out.set2 (vl))
  have HZ5 := Lib.hid (HZ4.out.chg (chg_set w4 g 2 (Value.int .i64 (vl))) (by omega))
  have HSS5 := Lib.hid (HSS4.out.turn (chg_set w4 g 2 (Value.int .i64 (vl))) (fun q (hq : q = g) => by omega) (by omega))
  have HK5 := Lib.hid (chg_fresh HK4.out hz1 2 (Value.int .i64 (vl)))
  generalize w4.setCell ⟨g, 2, none⟩ (Value.int .i64 (vl)) = w5 at *
  clear HX4 HZ4 HSS4 HK4
  refine (src_pick W0 b v bs a4 s4 24 _ HSS5.out (by omega)).mono ?_
  rintro e w6 ⟨x6, a6, s6, rfl, hx6, h7, h8, HS', HC'⟩
  clear hx6
  have HZ6 := Lib.hid (HZ5.out.chg HC' (by omega))
  have HX6 := Lib.hid (HX5.out.chg HC' hgb)
  have HK6 := Lib.hid (HK5.out.trans HC')
  have HSS6 := Lib.hid HS'
  clear HS' HC' HX5 HZ5 HSS5 HK5
  by_cases e0 : x6 = 0
  · subst e0
    go_wp2_with fail
    refine (src_litI W0 b v bs a6 s6 [-1, 0, 100000, 100001] (by simp) (by simp) w6 HSS6.out (by omega) _ _ rfl).mono ?_
    rintro e w7 ⟨x7, a7, s7, rfl, hx7, h9, h10, HS', HC'⟩
    have hw7 : True := by first | exact trivial | (simp at hx7; rcases hx7 with rfl | rfl | rfl <;> decide)
    clear hx7
    have HZ7 := Lib.hid (HZ6.out.chg HC' (by omega))
    have HX7 := Lib.hid (HX6.out.chg HC' hgb)
    have HK7 := Lib.hid (HK6.out.trans HC')
    have HSS7 := Lib.hid HS'
    clear HS' HC' HX6 HZ6 HSS6 HK6
    obtain ⟨c0, c1, c2, cf⟩ := HX7.out
    obtain ⟨z0, z1, z2, zf⟩ := HZ7.out
    have f0 := cf 0
    have f1 := cf 1
    have f2 := cf 2
    have y0 := zf 0
    have y1 := zf 1
    have y2 := zf 2
    clear cf zf
    go_wp2_with fail
    clear c0 c1 c2 f0 f1 f2 z0 z1 z2 y0 y1 y2
    have HX8 := Lib.hid (HX7.out.set0 (x7))
    have HZ8 := Lib.hid (HZ7.out.chg (chg_set w7 g 0 (Value.int .i64 (x7))) (by omega))
    have HSS8 := Lib.hid (HSS7.out.turn (chg_set w7 g 0 (Value.int .i64 (x7))) (fun q (hq : q = g) => by omega) (by omega))
    have HK8 := Lib.hid (chg_fresh HK7.out hz1 0 (Value.int .i64 (x7)))
    generalize w7.setCell ⟨g, 0, none⟩ (Value.int .i64 (x7)) = w8 at *
    clear HX7 HZ7 HSS7 HK7
    obtain ⟨c0, c1, c2, cf⟩ := HX8.out
    obtain ⟨z0, z1, z2, zf⟩ := HZ8.out
    have f0 := cf 0
    have f1 := cf 1
    have f2 := cf 2
    have y0 := zf 0
    have y1 := zf 1
    have y2 := zf 2
    clear cf zf
    go_wp2_with fail
    refine bodyPost_ret (v := .agg #[.int .i64 x7, .string x2, .int .i64 vl]) (by simp [results, Tryd.results37, go_sem, z0, z1, z2]) rfl ?_
    have HW := Lib.hid (((chg_set w8 w.heap.size 0 (.int .i64 x7)).trans (chg_set _ w.heap.size 1 (.string x2))).trans (chg_set _ w.heap.size 2 (.int .i64 vl)))
    have HU := Lib.hid (HSS8.out.turn HW.out (fun q (hq : q = w.heap.size) => by omega) (by omega))
    have HV := Lib.hid (chg_fresh (chg_fresh (chg_fresh HK8.out (Nat.le_refl _) 0 (.int .i64 x7)) (Nat.le_refl _) 1 (.string x2)) (Nat.le_refl _) 2 (.int .i64 vl))
    first | exact ⟨⟨x7, x2, vl⟩, a7, s7, rfl, (by first | exact hw2 | exact hw7), by omega, by omega, HU.out, HV.out⟩ | exact ⟨⟨x7, x2, vl⟩, rfl, (by first | exact hw2 | exact hw7), a7, by omega, by omega, ⟨s7, HU.out⟩, HV.out⟩
  by_cases e1 : x6 = 1
  · subst e1
    go_wp2_with fail
    refine (src_litS W0 b v bs a6 s6 [⟨#[]⟩, ⟨#[83, 101, 101, 110]⟩, ⟨#[97, 32, 98]⟩] (by simp) (by simp) w6 HSS6.out (by omega) _ _ rfl).mono ?_
    rintro e w7 ⟨x7, a7, s7, rfl, hx7, h9, h10, HS', HC'⟩
    have hw7 : x7.size ≤ 16 := by first | exact trivial | (simp at hx7; rcases hx7 with rfl | rfl | rfl <;> decide)
    clear hx7
    have HZ7 := Lib.hid (HZ6.out.chg HC' (by omega))
    have HX7 := Lib.hid (HX6.out.chg HC' hgb)
    have HK7 := Lib.hid (HK6.out.trans HC')
    have HSS7 := Lib.hid HS'
    clear HS' HC' HX6 HZ6 HSS6 HK6
    obtain ⟨c0, c1, c2, cf⟩ := HX7.out
    obtain ⟨z0, z1, z2, zf⟩ := HZ7.out
    have f0 := cf 0
    have f1 := cf 1
    have f2 := cf 2
    have y0 := zf 0
    have y1 := zf 1
    have y2 := zf 2
    clear cf zf
    go_wp2_with fail
    clear c0 c1 c2 f0 f1 f2 z0 z1 z2 y0 y1 y2
    have HX8 := Lib.hid (HX7.out.set1 (x7))
    have HZ8 := Lib.hid (HZ7.out.chg (chg_set w7 g 1 (Value.string (x7))) (by omega))
    have HSS8 := Lib.hid (HSS7.out.turn (chg_set w7 g 1 (Value.string (x7))) (fun q (hq : q = g) => by omega) (by omega))
    have HK8 := Lib.hid (chg_fresh HK7.out hz1 1 (Value.string (x7)))
    generalize w7.setCell ⟨g, 1, none⟩ (Value.string (x7)) = w8 at *
    clear HX7 HZ7 HSS7 HK7
    obtain ⟨c0, c1, c2, cf⟩ := HX8.out
    obtain ⟨z0, z1, z2, zf⟩ := HZ8.out
    have f0 := cf 0
    have f1 := cf 1
    have f2 := cf 2
    have y0 := zf 0
    have y1 := zf 1
    have y2 := zf 2
    clear cf zf
    go_wp2_with fail
    refine bodyPost_ret (v := .agg #[.int .i64 dy, .string x7, .int .i64 vl]) (by simp [results, Tryd.results37, go_sem, z0, z1, z2]) rfl ?_
    have HW := Lib.hid (((chg_set w8 w.heap.size 0 (.int .i64 dy)).trans (chg_set _ w.heap.size 1 (.string x7))).trans (chg_set _ w.heap.size 2 (.int .i64 vl)))
    have HU := Lib.hid (HSS8.out.turn HW.out (fun q (hq : q = w.heap.size) => by omega) (by omega))
    have HV := Lib.hid (chg_fresh (chg_fresh (chg_fresh HK8.out (Nat.le_refl _) 0 (.int .i64 dy)) (Nat.le_refl _) 1 (.string x7)) (Nat.le_refl _) 2 (.int .i64 vl))
    first | exact ⟨⟨dy, x7, vl⟩, a7, s7, rfl, (by first | exact hw2 | exact hw7), by omega, by omega, HU.out, HV.out⟩ | exact ⟨⟨dy, x7, vl⟩, rfl, (by first | exact hw2 | exact hw7), a7, by omega, by omega, ⟨s7, HU.out⟩, HV.out⟩
  by_cases e2 : x6 = 2
  · subst e2
    go_wp2_with fail
    refine (src_litI W0 b v bs a6 s6 [-1000001, -1000000, 1000000, 1000001, -9223372036854775808] (by simp) (by simp) w6 HSS6.out (by omega) _ _ rfl).mono ?_
    rintro e w7 ⟨x7, a7, s7, rfl, hx7, h9, h10, HS', HC'⟩
    have hw7 : True := by first | exact trivial | (simp at hx7; rcases hx7 with rfl | rfl | rfl <;> decide)
    clear hx7
    have HZ7 := Lib.hid (HZ6.out.chg HC' (by omega))
    have HX7 := Lib.hid (HX6.out.chg HC' hgb)
    have HK7 := Lib.hid (HK6.out.trans HC')
    have HSS7 := Lib.hid HS'
    clear HS' HC' HX6 HZ6 HSS6 HK6
    obtain ⟨c0, c1, c2, cf⟩ := HX7.out
    obtain ⟨z0, z1, z2, zf⟩ := HZ7.out
    have f0 := cf 0
    have f1 := cf 1
    have f2 := cf 2
    have y0 := zf 0
    have y1 := zf 1
    have y2 := zf 2
    clear cf zf
    go_wp2_with fail
    clear c0 c1 c2 f0 f1 f2 z0 z1 z2 y0 y1 y2
    have HX8 := Lib.hid (HX7.out.set2 (x7))
    have HZ8 := Lib.hid (HZ7.out.chg (chg_set w7 g 2 (Value.int .i64 (x7))) (by omega))
    have HSS8 := Lib.hid (HSS7.out.turn (chg_set w7 g 2 (Value.int .i64 (x7))) (fun q (hq : q = g) => by omega) (by omega))
    have HK8 := Lib.hid (chg_fresh HK7.out hz1 2 (Value.int .i64 (x7)))
    generalize w7.setCell ⟨g, 2, none⟩ (Value.int .i64 (x7)) = w8 at *
    clear HX7 HZ7 HSS7 HK7
    obtain ⟨c0, c1, c2, cf⟩ := HX8.out
    obtain ⟨z0, z1, z2, zf⟩ := HZ8.out
    have f0 := cf 0
    have f1 := cf 1
    have f2 := cf 2
    have y0 := zf 0
    have y1 := zf 1
    have y2 := zf 2
    clear cf zf
    go_wp2_with fail
    refine bodyPost_ret (v := .agg #[.int .i64 dy, .string x2, .int .i64 x7]) (by simp [results, Tryd.results37, go_sem, z0, z1, z2]) rfl ?_
    have HW := Lib.hid (((chg_set w8 w.heap.size 0 (.int .i64 dy)).trans (chg_set _ w.heap.size 1 (.string x2))).trans (chg_set _ w.heap.size 2 (.int .i64 x7)))
    have HU := Lib.hid (HSS8.out.turn HW.out (fun q (hq : q = w.heap.size) => by omega) (by omega))
    have HV := Lib.hid (chg_fresh (chg_fresh (chg_fresh HK8.out (Nat.le_refl _) 0 (.int .i64 dy)) (Nat.le_refl _) 1 (.string x2)) (Nat.le_refl _) 2 (.int .i64 x7))
    first | exact ⟨⟨dy, x2, x7⟩, a7, s7, rfl, (by first | exact hw2 | exact hw7), by omega, by omega, HU.out, HV.out⟩ | exact ⟨⟨dy, x2, x7⟩, rfl, (by first | exact hw2 | exact hw7), a7, by omega, by omega, ⟨s7, HU.out⟩, HV.out⟩
  obtain ⟨c0, c1, c2, cf⟩ := HX6.out
  obtain ⟨z0, z1, z2, zf⟩ := HZ6.out
  have f0 := cf 0
  have f1 := cf 1
  have f2 := cf 2
  have y0 := zf 0
  have y1 := zf 1
  have y2 := zf 2
  clear cf zf
  go_wp2_with fail
  refine bodyPost_ret (v := .agg #[.int .i64 dy, .string x2, .int .i64 vl]) (by simp [results, Tryd.results37, go_sem, z0, z1, z2]) rfl ?_
  have HW := Lib.hid (((chg_set w6 w.heap.size 0 (.int .i64 dy)).trans (chg_set _ w.heap.size 1 (.string x2))).trans (chg_set _ w.heap.size 2 (.int .i64 vl)))
  have HU := Lib.hid (HSS6.out.turn HW.out (fun q (hq : q = w.heap.size) => by omega) (by omega))
  have HV := Lib.hid (chg_fresh (chg_fresh (chg_fresh HK6.out (Nat.le_refl _) 0 (.int .i64 dy)) (Nat.le_refl _) 1 (.string x2)) (Nat.le_refl _) 2 (.int .i64 vl))
  first | exact ⟨⟨dy, x2, vl⟩, a6, s6, rfl, hw2, by omega, by omega, HU.out, HV.out⟩ | exact ⟨⟨dy, x2, vl⟩, rfl, hw2, a6, by omega, by omega, ⟨s6, HU.out⟩, HV.out⟩
end Go.Proofs.YtiedojkoogfokaaDoor
