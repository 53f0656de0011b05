/-
  Drawn entries: l27DrawEntry, l27Entries.
-/
import Derived.Test.YtiedojkoogfokaaDoorSrcM
import Derived.Test.YtiedojkoogfokaaDoorSrcL
import Derived.Test.YtiedojkoogfokaaDoorLog7
import Derived.Test.YtiedojkoogfokaaDoorLgsP
import Derived.Test.YtiedojkoogfokaaDoorValEn
namespace Go.Proofs.YtiedojkoogfokaaDoor
open Go.ChangeShapes Go.WideShapes Go.ChangeAt Go.RowKit Go.Sort
set_option linter.unusedVariables false
set_option maxRecDepth 100000

/-- The three cells of an entry in a block of its own. -/
def B3 (w : World) (p : Nat) (o : EN) : Prop := w.cell? ⟨p, 0, none⟩ = some (.int .i64 o.day) ∧ w.cell? ⟨p, 1, none⟩ = some (.string o.what) ∧ w.cell? ⟨p, 2, none⟩ = some (.int .i64 o.val) ∧ ∀ i, w.frozen? ⟨p, i, none⟩ = false
theorem B3.lt {w : World} {p : Nat} {o : EN} (h : B3 w p o) : p < w.heap.size := block_lt_of_cell h.1
theorem B3.chg {S : Nat → Prop} {w w' : World} {p : Nat} {o : EN} (h : B3 w p o) (hc : Chg S w w') (hp : ¬ S p) : B3 w' p o := by
  obtain ⟨h0, h1, h2, hf⟩ := h
  refine ⟨hc.cell h0 hp, hc.cell h1 hp, hc.cell h2 hp, fun i => ?_⟩
  rw [World.frozen?_of_block (w := w) (a := ⟨p, i, none⟩) (hc.block p (block_lt_of_cell h0) hp)]
  exact hf i
theorem b3_box (w : World) (o : EN) (T : TypeId) : B3 (w.alloc (.cells #[.int .i64 o.day, .string o.what, .int .i64 o.val] T)) w.heap.size o := ⟨by simp [go_sem], by simp [go_sem], by simp [go_sem], fun i => by simp [go_sem]⟩
theorem B3.set0 {w : World} {p : Nat} {o : EN} (h : B3 w p o) (x : Int) : B3 (w.setCell ⟨p, 0, none⟩ (Value.int .i64 x)) p ⟨x, o.what, o.val⟩ := by
  obtain ⟨h0, h1, h2, hf⟩ := h
  refine ⟨?_, ?_, ?_, fun i => by rw [World.frozen?_setCell]; exact hf i⟩
  all_goals first | (rw [World.cell?_setCell_other _ _ _ _ (by simp)]; assumption) | (with_reducible exact World.cell?_setCell_same _ _ _ (by assumption))
theorem B3.set1 {w : World} {p : Nat} {o : EN} (h : B3 w p o) (x : ByteArray) : B3 (w.setCell ⟨p, 1, none⟩ (Value.string x)) p ⟨o.day, x, o.val⟩ := by
  obtain ⟨h0, h1, h2, hf⟩ := h
  refine ⟨?_, ?_, ?_, fun i => by rw [World.frozen?_setCell]; exact hf i⟩
  all_goals first | (rw [World.cell?_setCell_other _ _ _ _ (by simp)]; assumption) | (with_reducible exact World.cell?_setCell_same _ _ _ (by assumption))
theorem B3.set2 {w : World} {p : Nat} {o : EN} (h : B3 w p o) (x : Int) : B3 (w.setCell ⟨p, 2, none⟩ (Value.int .i64 x)) p ⟨o.day, o.what, x⟩ := by
  obtain ⟨h0, h1, h2, hf⟩ := h
  refine ⟨?_, ?_, ?_, fun i => by rw [World.frozen?_setCell]; exact hf i⟩
  all_goals first | (rw [World.cell?_setCell_other _ _ _ _ (by simp)]; assumption) | (with_reducible exact World.cell?_setCell_same _ _ _ (by assumption))

set_option maxHeartbeats 1600000 in
theorem draw_entry (W0 : World) (b : Nat) (v : Value) (bs : List UInt8) (at' seed day : Int) (w : World) (hS : Src W0 w b v bs at' seed) (ha : at' ≤ 1000000) (hd0 : 0 ≤ day) (hd1 : day ≤ 1000000) :
    Calls Tryd.prog 37 #[.pointer (some ⟨b, 0, none⟩), .int .i64 day] w fun e w' => ∃ (o : EN) (at2 seed' : Int), e = .returned (.agg #[.int .i64 o.day, .string o.what, .int .i64 o.val]) ∧ o.what.size ≤ 16 ∧ at' ≤ at2 ∧ at2 ≤ at' + 10 ∧ Src W0 w' b v bs at2 seed' ∧ Chg (fun k => k = b) w w' := by
  have HS := Lib.hid hS; clear hS
  have hbw : b < w.heap.size := HS.out.lt
  go_enter Tryd.func37, Tryd.ntmps37
  go_wp2_with fail
  have HSA := Lib.hid (HS.out.turn (Chg.of_below (ext_alloc1 _ (.cells #[.int .i64 0, .string ⟨#[]⟩, .int .i64 0] 38)) (fun _ => False)) (fun _ h => h.elim) (fun h => h.elim))
  have HZA := Lib.hid (b3_box w ⟨0, ⟨#[]⟩, 0⟩ 38)
  have HKA := Lib.hid (Chg.of_below (ext_alloc1 w (.cells #[.int .i64 0, .string ⟨#[]⟩, .int .i64 0] 38)) (fun k => k = b))
  refine (src_pick W0 b v bs at' seed 4 _ HSA.out (by omega)).mono ?_
  rintro e w1 ⟨x1, a1, s1, rfl, hx1, h1, h2, HS1, HC1⟩
  have HZ1 := Lib.hid (HZA.out.chg HC1 (by omega))
  have HK1 := Lib.hid (HKA.out.trans HC1)
  have HS1 := Lib.hid HS1
  have hzw : w.heap.size < w1.heap.size := HZ1.out.lt
  clear HZA HKA HC1 HSA
  go_wp2_with fail
  generalize wrap64 (day + x1) = dy
  have HZ1 := Lib.hid (HZ1.out.chg (Chg.of_below (ext_alloc1 w1 (.cells #[.int .i64 dy, .string ⟨#[]⟩, .int .i64 0] 38)) (fun _ => False)) (fun h => h))
  have HX1 := Lib.hid (b3_box w1 ⟨dy, ⟨#[]⟩, 0⟩ 38)
  have HSS1 := Lib.hid (HS1.out.turn (Chg.of_below (ext_alloc1 w1 (.cells #[.int .i64 dy, .string ⟨#[]⟩, .int .i64 0] 38)) (fun _ => False)) (fun _ h => h.elim) (fun h => h.elim))
  have HK1 := Lib.hid (HK1.out.trans (Chg.of_below (ext_alloc1 w1 (.cells #[.int .i64 dy, .string ⟨#[]⟩, .int .i64 0] 38)) (fun k => k = b)))
  have hgz : w1.heap.size + 1 = (w1.alloc (.cells #[.int .i64 dy, .string ⟨#[]⟩, .int .i64 0] 38)).heap.size := by simp
  obtain ⟨g, hg⟩ : ∃ g, w1.heap.size = g := ⟨_, rfl⟩
  have hz1 : w.heap.size ≤ g := by omega
  have hgb : ¬ g = b := by omega
  have hlow : W0.heap.size ≤ b := HSS1.out.low
  rw [hgz]
  rw [hg] at HX1 hzw
  rw [hg]
  generalize w1.alloc (.cells #[.int .i64 dy, .string ⟨#[]⟩, .int .i64 0] 38) = wa at *
  clear HS1 hgz hg
  refine (src_litS W0 b v bs a1 s1 [⟨#[115, 101, 101, 110]⟩, ⟨#[98, 114, 105, 99, 107, 115]⟩, ⟨#[115, 116, 97, 114, 45, 51]⟩, ⟨#[102, 114, 111, 115, 116]⟩] (by simp) (by simp) wa HSS1.out (by omega) _ _ rfl).mono ?_
  rintro e w2 ⟨x2, a2, s2, rfl, hx2, h3, h4, HS', HC'⟩
  have hw2 : x2.size ≤ 16 := by simp at hx2; rcases hx2 with rfl | rfl | rfl | rfl <;> decide
  clear hx2 hx1
  have HZ2 := Lib.hid (HZ1.out.chg HC' (by omega))
  have HX2 := Lib.hid (HX1.out.chg HC' hgb)
  have HK2 := Lib.hid (HK1.out.trans HC')
  have HSS2 := Lib.hid HS'
  clear HS' HC' HX1 HZ1 HSS1 HK1
  obtain ⟨c0, c1, c2, cf⟩ := HX2.out
  obtain ⟨z0, z1, z2, zf⟩ := HZ2.out
  have f0 := cf 0
  have f1 := cf 1
  have f2 := cf 2
  have y0 := zf 0
  have y1 := zf 1
  have y2 := zf 2
  clear cf zf
  go_wp2_with fail
  clear c0 c1 c2 f0 f1 f2 z0 z1 z2 y0 y1 y2
  have HX3 := Lib.hid (HX2.out.set1 (x2))
  have HZ3 := Lib.hid (HZ2.out.chg (chg_set w2 g 1 (Value.string (x2))) (by omega))
  have HSS3 := Lib.hid (HSS2.out.turn (chg_set w2 g 1 (Value.string (x2))) (fun q (hq : q = g) => by omega) (by omega))
  have HK3 := Lib.hid (chg_fresh HK2.out hz1 1 (Value.string (x2)))
  generalize w2.setCell ⟨g, 1, none⟩ (Value.string (x2)) = w3 at *
  clear HX2 HZ2 HSS2 HK2
  refine (src_pick W0 b v bs a2 s2 900 _ HSS3.out (by omega)).mono ?_
  rintro e w4 ⟨x4, a4, s4, rfl, hx4, h5, h6, HS', HC'⟩
  clear hx4
  have HZ4 := Lib.hid (HZ3.out.chg HC' (by omega))
  have HX4 := Lib.hid (HX3.out.chg HC' hgb)
  have HK4 := Lib.hid (HK3.out.trans HC')
  have HSS4 := Lib.hid HS'
  clear HS' HC' HX3 HZ3 HSS3 HK3
  obtain ⟨c0, c1, c2, cf⟩ := HX4.out
  obtain ⟨z0, z1, z2, zf⟩ := HZ4.out
  have f0 := cf 0
  have f1 := cf 1
  have f2 := cf 2
  have y0 := zf 0
  have y1 := zf 1
  have y2 := zf 2
  clear cf zf
  go_wp2_with fail
  clear c0 c1 c2 f0 f1 f2 z0 z1 z2 y0 y1 y2
  generalize wrap64 (x4 - 200) = vl
  have HX5 := Lib.hid (HX4.out.set2 (vl))
  have HZ5 := Lib.hid (HZ4.out.chg (chg_set w4 g 2 (Value.int .i64 (vl))) (by omega))
  have HSS5 := Lib.hid (HSS4.out.turn (chg_set w4 g 2 (Value.int .i64 (vl))) (fun q (hq : q = g) => by omega) (by omega))
  have HK5 := Lib.hid (chg_fresh HK4.out hz1 2 (Value.int .i64 (vl)))
  generalize w4.setCell ⟨g, 2, none⟩ (Value.int .i64 (vl)) = w5 at *
  clear HX4 HZ4 HSS4 HK4
  refine (src_pick W0 b v bs a4 s4 24 _ HSS5.out (by omega)).mono ?_
  rintro e w6 ⟨x6, a6, s6, rfl, hx6, h7, h8, HS', HC'⟩
  clear hx6
  have HZ6 := Lib.hid (HZ5.out.chg HC' (by omega))
  have HX6 := Lib.hid (HX5.out.chg HC' hgb)
  have HK6 := Lib.hid (HK5.out.trans HC')
  have HSS6 := Lib.hid HS'
  clear HS' HC' HX5 HZ5 HSS5 HK5
  by_cases e0 : x6 = 0
  · subst e0
    go_wp2_with fail
    refine (src_litI W0 b v bs a6 s6 [-1, 0, 100000, 100001] (by simp) (by simp) w6 HSS6.out (by omega) _ _ rfl).mono ?_
    rintro e w7 ⟨x7, a7, s7, rfl, hx7, h9, h10, HS', HC'⟩
    have hw7 : True := by first | exact trivial | (simp at hx7; rcases hx7 with rfl | rfl | rfl <;> decide)
    clear hx7
    have HZ7 := Lib.hid (HZ6.out.chg HC' (by omega))
    have HX7 := Lib.hid (HX6.out.chg HC' hgb)
    have HK7 := Lib.hid (HK6.out.trans HC')
    have HSS7 := Lib.hid HS'
    clear HS' HC' HX6 HZ6 HSS6 HK6
    obtain ⟨c0, c1, c2, cf⟩ := HX7.out
    obtain ⟨z0, z1, z2, zf⟩ := HZ7.out
    have f0 := cf 0
    have f1 := cf 1
    have f2 := cf 2
    have y0 := zf 0
    have y1 := zf 1
    have y2 := zf 2
    clear cf zf
    go_wp2_with fail
    clear c0 c1 c2 f0 f1 f2 z0 z1 z2 y0 y1 y2
    have HX8 := Lib.hid (HX7.out.set0 (x7))
    have HZ8 := Lib.hid (HZ7.out.chg (chg_set w7 g 0 (Value.int .i64 (x7))) (by omega))
    have HSS8 := Lib.hid (HSS7.out.turn (chg_set w7 g 0 (Value.int .i64 (x7))) (fun q (hq : q = g) => by omega) (by omega))
    have HK8 := Lib.hid (chg_fresh HK7.out hz1 0 (Value.int .i64 (x7)))
    generalize w7.setCell ⟨g, 0, none⟩ (Value.int .i64 (x7)) = w8 at *
    clear HX7 HZ7 HSS7 HK7
    obtain ⟨c0, c1, c2, cf⟩ := HX8.out
    obtain ⟨z0, z1, z2, zf⟩ := HZ8.out
    have f0 := cf 0
    have f1 := cf 1
    have f2 := cf 2
    have y0 := zf 0
    have y1 := zf 1
    have y2 := zf 2
    clear cf zf
    go_wp2_with fail
    refine bodyPost_ret (v := .agg #[.int .i64 x7, .string x2, .int .i64 vl]) (by simp [results, Tryd.results37, go_sem, z0, z1, z2]) rfl ?_
    have HW := Lib.hid (((chg_set w8 w.heap.size 0 (.int .i64 x7)).trans (chg_set _ w.heap.size 1 (.string x2))).trans (chg_set _ w.heap.size 2 (.int .i64 vl)))
    have HU := Lib.hid (HSS8.out.turn HW.out (fun q (hq : q = w.heap.size) => by omega) (by omega))
    have HV := Lib.hid (chg_fresh (chg_fresh (chg_fresh HK8.out (Nat.le_refl _) 0 (.int .i64 x7)) (Nat.le_refl _) 1 (.string x2)) (Nat.le_refl _) 2 (.int .i64 vl))
    first | exact ⟨⟨x7, x2, vl⟩, a7, s7, rfl, (by first | exact hw2 | exact hw7), by omega, by omega, HU.out, HV.out⟩ | exact ⟨⟨x7, x2, vl⟩, rfl, (by first | exact hw2 | exact hw7), a7, by omega, by omega, ⟨s7, HU.out⟩, HV.out⟩
  by_cases e1 : x6 = 1
  · subst e1
    go_wp2_with fail
    refine (src_litS W0 b v bs a6 s6 [⟨#[]⟩, ⟨#[83, 101, 101, 110]⟩, ⟨#[97, 32, 98]⟩] (by simp) (by simp) w6 HSS6.out (by omega) _ _ rfl).mono ?_
    rintro e w7 ⟨x7, a7, s7, rfl, hx7, h9, h10, HS', HC'⟩
    have hw7 : x7.size ≤ 16 := by first | exact trivial | (simp at hx7; rcases hx7 with rfl | rfl | rfl <;> decide)
    clear hx7
    have HZ7 := Lib.hid (HZ6.out.chg HC' (by omega))
    have HX7 := Lib.hid (HX6.out.chg HC' hgb)
    have HK7 := Lib.hid (HK6.out.trans HC')
    have HSS7 := Lib.hid HS'
    clear HS' HC' HX6 HZ6 HSS6 HK6
    obtain ⟨c0, c1, c2, cf⟩ := HX7.out
    obtain ⟨z0, z1, z2, zf⟩ := HZ7.out
    have f0 := cf 0
    have f1 := cf 1
    have f2 := cf 2
    have y0 := zf 0
    have y1 := zf 1
    have y2 := zf 2
    clear cf zf
    go_wp2_with fail
    clear c0 c1 c2 f0 f1 f2 z0 z1 z2 y0 y1 y2
    have HX8 := Lib.hid (HX7.out.set1 (x7))
    have HZ8 := Lib.hid (HZ7.out.chg (chg_set w7 g 1 (Value.string (x7))) (by omega))
    have HSS8 := Lib.hid (HSS7.out.turn (chg_set w7 g 1 (Value.string (x7))) (fun q (hq : q = g) => by omega) (by omega))
    have HK8 := Lib.hid (chg_fresh HK7.out hz1 1 (Value.string (x7)))
    generalize w7.setCell ⟨g, 1, none⟩ (Value.string (x7)) = w8 at *
    clear HX7 HZ7 HSS7 HK7
    obtain ⟨c0, c1, c2, cf⟩ := HX8.out
    obtain ⟨z0, z1, z2, zf⟩ := HZ8.out
    have f0 := cf 0
    have f1 := cf 1
    have f2 := cf 2
    have y0 := zf 0
    have y1 := zf 1
    have y2 := zf 2
    clear cf zf
    go_wp2_with fail
    refine bodyPost_ret (v := .agg #[.int .i64 dy, .string x7, .int .i64 vl]) (by simp [results, Tryd.results37, go_sem, z0, z1, z2]) rfl ?_
    have HW := Lib.hid (((chg_set w8 w.heap.size 0 (.int .i64 dy)).trans (chg_set _ w.heap.size 1 (.string x7))).trans (chg_set _ w.heap.size 2 (.int .i64 vl)))
    have HU := Lib.hid (HSS8.out.turn HW.out (fun q (hq : q = w.heap.size) => by omega) (by omega))
    have HV := Lib.hid (chg_fresh (chg_fresh (chg_fresh HK8.out (Nat.le_refl _) 0 (.int .i64 dy)) (Nat.le_refl _) 1 (.string x7)) (Nat.le_refl _) 2 (.int .i64 vl))
    first | exact ⟨⟨dy, x7, vl⟩, a7, s7, rfl, (by first | exact hw2 | exact hw7), by omega, by omega, HU.out, HV.out⟩ | exact ⟨⟨dy, x7, vl⟩, rfl, (by first | exact hw2 | exact hw7), a7, by omega, by omega, ⟨s7, HU.out⟩, HV.out⟩
  by_cases e2 : x6 = 2
  · subst e2
    go_wp2_with fail
    refine (src_litI W0 b v bs a6 s6 [-1000001, -1000000, 1000000, 1000001, -9223372036854775808] (by simp) (by simp) w6 HSS6.out (by omega) _ _ rfl).mono ?_
    rintro e w7 ⟨x7, a7, s7, rfl, hx7, h9, h10, HS', HC'⟩
    have hw7 : True := by first | exact trivial | (simp at hx7; rcases hx7 with rfl | rfl | rfl <;> decide)
    clear hx7
    have HZ7 := Lib.hid (HZ6.out.chg HC' (by omega))
    have HX7 := Lib.hid (HX6.out.chg HC' hgb)
    have HK7 := Lib.hid (HK6.out.trans HC')
    have HSS7 := Lib.hid HS'
    clear HS' HC' HX6 HZ6 HSS6 HK6
    obtain ⟨c0, c1, c2, cf⟩ := HX7.out
    obtain ⟨z0, z1, z2, zf⟩ := HZ7.out
    have f0 := cf 0
    have f1 := cf 1
    have f2 := cf 2
    have y0 := zf 0
    have y1 := zf 1
    have y2 := zf 2
    clear cf zf
    go_wp2_with fail
    clear c0 c1 c2 f0 f1 f2 z0 z1 z2 y0 y1 y2
    have HX8 := Lib.hid (HX7.out.set2 (x7))
    have HZ8 := Lib.hid (HZ7.out.chg (chg_set w7 g 2 (Value.int .i64 (x7))) (by omega))
    have HSS8 := Lib.hid (HSS7.out.turn (chg_set w7 g 2 (Value.int .i64 (x7))) (fun q (hq : q = g) => by omega) (by omega))
    have HK8 := Lib.hid (chg_fresh HK7.out hz1 2 (Value.int .i64 (x7)))
    generalize w7.setCell ⟨g, 2, none⟩ (Value.int .i64 (x7)) = w8 at *
    clear HX7 HZ7 HSS7 HK7
    obtain ⟨c0, c1, c2, cf⟩ := HX8.out
    obtain ⟨z0, z1, z2, zf⟩ := HZ8.out
    have f0 := cf 0
    have f1 := cf 1
    have f2 := cf 2
    have y0 := zf 0
    have y1 := zf 1
    have y2 := zf 2
    clear cf zf
    go_wp2_with fail
    refine bodyPost_ret (v := .agg #[.int .i64 dy, .string x2, .int .i64 x7]) (by simp [results, Tryd.results37, go_sem, z0, z1, z2]) rfl ?_
    have HW := Lib.hid (((chg_set w8 w.heap.size 0 (.int .i64 dy)).trans (chg_set _ w.heap.size 1 (.string x2))).trans (chg_set _ w.heap.size 2 (.int .i64 x7)))
    have HU := Lib.hid (HSS8.out.turn HW.out (fun q (hq : q = w.heap.size) => by omega) (by omega))
    have HV := Lib.hid (chg_fresh (chg_fresh (chg_fresh HK8.out (Nat.le_refl _) 0 (.int .i64 dy)) (Nat.le_refl _) 1 (.string x2)) (Nat.le_refl _) 2 (.int .i64 x7))
    first | exact ⟨⟨dy, x2, x7⟩, a7, s7, rfl, (by first | exact hw2 | exact hw7), by omega, by omega, HU.out, HV.out⟩ | exact ⟨⟨dy, x2, x7⟩, rfl, (by first | exact hw2 | exact hw7), a7, by omega, by omega, ⟨s7, HU.out⟩, HV.out⟩
  obtain ⟨c0, c1, c2, cf⟩ := HX6.out
  obtain ⟨z0, z1, z2, zf⟩ := HZ6.out
  have f0 := cf 0
  have f1 := cf 1
  have f2 := cf 2
  have y0 := zf 0
  have y1 := zf 1
  have y2 := zf 2
  clear cf zf
  go_wp2_with fail
  refine bodyPost_ret (v := .agg #[.int .i64 dy, .string x2, .int .i64 vl]) (by simp [results, Tryd.results37, go_sem, z0, z1, z2]) rfl ?_
  have HW := Lib.hid (((chg_set w6 w.heap.size 0 (.int .i64 dy)).trans (chg_set _ w.heap.size 1 (.string x2))).trans (chg_set _ w.heap.size 2 (.int .i64 vl)))
  have HU := Lib.hid (HSS6.out.turn HW.out (fun q (hq : q = w.heap.size) => by omega) (by omega))
  have HV := Lib.hid (chg_fresh (chg_fresh (chg_fresh HK6.out (Nat.le_refl _) 0 (.int .i64 dy)) (Nat.le_refl _) 1 (.string x2)) (Nat.le_refl _) 2 (.int .i64 vl))
  first | exact ⟨⟨dy, x2, vl⟩, a6, s6, rfl, hw2, by omega, by omega, HU.out, HV.out⟩ | exact ⟨⟨dy, x2, vl⟩, rfl, hw2, a6, by omega, by omega, ⟨s6, HU.out⟩, HV.out⟩
end Go.Proofs.YtiedojkoogfokaaDoor

/-
  Drawn entries, second part: l27Entries.
-/
namespace Go.Proofs.YtiedojkoogfokaaDoor
open Go.ChangeShapes Go.WideShapes Go.ChangeAt Go.RowKit Go.Sort
set_option linter.unusedVariables false
set_option maxRecDepth 100000

theorem gd_app_l {α : Type} [Inhabited α] {l r : List α} {k : Nat} (h : k < l.length) : gd (l ++ r) k = gd l k := by
  unfold gd; rw [List.getD_eq_getElem?_getD, List.getD_eq_getElem?_getD, List.getElem?_append_left h]
theorem gd_app_r {α : Type} [Inhabited α] {l : List α} {x : α} : gd (l ++ [x]) l.length = x := by
  unfold gd; simp [List.getD_eq_getElem?_getD]
theorem oen_lit (w : World) (B : Nat) (h : B ≤ w.heap.size) : OENS (w.alloc (.cells #[] 38)) B (.slice (some ⟨w.heap.size, 0, none⟩) 0 0) [] :=
  World.ownsRow_lit _ #[] 0 h (by simp [maxLen]) (by simp)
/-- What stands while entries are drawn. -/
structure DE (W0 w w' : World) (b : Nat) (v : Value) (bs : List UInt8) (at' seed : Int) (u : Value) (l : List EN) : Prop where
  src : Src W0 w' b v bs at' seed
  own : OENS w' w.heap.size u l
  all : l.all vEn = true
  days : dK l l.length = true
  chg : Chg (fun k => k = b) w w'
  hb : b < w.heap.size
  hw : W0.heap.size ≤ w.heap.size
section
variable {W0 w w' w'' : World} {b : Nat} {v : Value} {bs : List UInt8} {at' seed at2 seed2 : Int} {u : Value} {l : List EN}
theorem chg_joinE {S T : Nat → Prop} {a b c : World} (h : Chg S a b) (k : Chg T b c) (hT : ∀ i, T i → a.heap.size ≤ i) : Chg S a c :=
  ⟨k.os.trans h.os, k.tape.trans h.tape, k.output.trans h.output, Nat.le_trans h.size k.size, fun i hi hn => (k.block i (Nat.lt_of_lt_of_le hi h.size) (fun ht => by have := hT i ht; omega)).trans (h.block i hi hn)⟩
theorem DE.pick (h : DE W0 w w' b v bs at' seed u l) (hs : Src W0 w'' b v bs at2 seed2) (hc : Chg (fun k => k = b) w' w'') : DE W0 w w'' b v bs at2 seed2 u l :=
  ⟨hs, h.own.chg hc (fun k hk e => by have := (h.own.ge k hk).1; have := h.hb; omega), h.all, h.days, h.chg.trans hc, h.hb, h.hw⟩
theorem DE.wide (h : DE W0 w w' b v bs at' seed u l) (hc : Chg (fun _ => False) w' w'') : DE W0 w w'' b v bs at' seed u l :=
  ⟨h.src.turn hc (fun _ h => h.elim) (fun h => h), h.own.chg hc (fun _ _ h => h), h.all, h.days, chg_joinE h.chg hc (fun _ h => h.elim), h.hb, h.hw⟩
theorem dK_push {l : List EN} {o : EN} (h : dK l l.length = true) (ho : lday l ≤ o.day) : dK (l ++ [o]) (l ++ [o]).length = true := by
  cases hl : l.length with
  | zero =>
    obtain rfl : l = [] := List.eq_nil_of_length_eq_zero hl
    rfl
  | succ j =>
    have hk : dK (l ++ [o]) (j + 1) = true := by
      rw [hl] at h
      rw [← h]
      unfold dK
      have key : ∀ i ∈ List.range (j + 1), (decide (i = 0) || decide ((gd (l ++ [o]) (i - 1)).day ≤ (gd (l ++ [o]) i).day)) = (decide (i = 0) || decide ((gd l (i - 1)).day ≤ (gd l i).day)) := fun i hi => by
        have hi : i < j + 1 := by simpa using hi
        rw [gd_app_l (by omega), gd_app_l (by omega)]
      rw [Bool.eq_iff_iff, List.all_eq_true, List.all_eq_true]
      exact ⟨fun h i hi => by rw [← key i hi]; exact h i hi, fun h i hi => by rw [key i hi]; exact h i hi⟩
    rw [show (l ++ [o]).length = j + 2 by simp; omega, dK_succ, hk, gd_app_l (by omega), ← hl, gd_app_r]
    have := lday_take (es := l) (k := l.length) (Nat.le_refl _)
    rw [List.take_length, if_neg (by omega), hl] at this
    simp only [Nat.add_sub_cancel] at this
    rw [← this]
    simpa using ho
theorem DE.push (h : DE W0 w w' b v bs at' seed u l) {u2 : Value} {o : EN} (hO : OENS w'' w.heap.size u2 (l ++ [o])) (hc : Chg (BENS u) w' w'') (ho : vEn o = true) (hd : lday l ≤ o.day) : DE W0 w w'' b v bs at' seed u2 (l ++ [o]) :=
  ⟨h.src.turn hc (fun k hk => by have := (h.own.ge k hk).1; have := h.hw; omega) (fun hk => by have := (h.own.ge b hk).1; have := h.hb; omega), hO,
    by rw [List.all_append, h.all]; simp [ho], dK_push h.days hd,
    chg_joinE h.chg hc (fun k hk => (h.own.ge k hk).1), h.hb, h.hw⟩
end
theorem chg_grow1 {w0 w' : World} {o : Obj} {v : Value} (h : (w0.alloc o).grownBy w' v.ownBlock) : Chg (BI v) w0 w' := (Chg.of_below (ext_alloc1 _ _) _).trans (Chg.of_grown h)
theorem OENS.of_app {w : World} {B g cap : Nat} {es : List EN} {en : EN} (hown : w.ownsRow B 38 3 (.slice (some ⟨g, 0, none⟩) (es.length + 1) cap) (es.length + 1) (es.flatMap cEN ++ [.int .i64 en.day, .string en.what, .int .i64 en.val])) : OENS w B (.slice (some ⟨g, 0, none⟩) (es.length + 1) cap) (es ++ [en]) := by
  unfold OENS
  rw [List.length_append, List.flatMap_append]
  exact hown
theorem lday_bd {l : List EN} (h : l.all vEn = true) : 0 ≤ lday l ∧ lday l ≤ 100000 := by
  have e := lday_take (es := l) (k := l.length) (Nat.le_refl _)
  rw [List.take_length] at e
  rw [e]
  split
  · omega
  · exact (vEn_iff.1 (all_at h (show l.length - 1 < l.length by omega))).1
set_option maxHeartbeats 1600000 in
theorem draw_entries (W0 : World) (b : Nat) (v : Value) (bs : List UInt8) (at' seed : Int) (w : World) (hS : Src W0 w b v bs at' seed) (ha : at' ≤ 100000) :
    Calls Tryd.prog 19 #[.pointer (some ⟨b, 0, none⟩), .int .i64 7] w fun e w' => ∃ (A : Option Addr) (c : Nat) (l : List EN) (at2 s2 : Int), e = .returned (.slice A l.length c) ∧ l.length ≤ 7 ∧ at' ≤ at2 ∧ at2 ≤ at' + 100 ∧ DE W0 w w' b v bs at2 s2 (.slice A l.length c) l := by
  have HS := Lib.hid hS
  have hbl := hS.lt
  have hwl := hS.old.size
  clear hS
  go_enter Tryd.func19, Tryd.ntmps19
  go_wp2_with fail
  have HD0 : Hid (DE W0 w (w.alloc (.cells #[] 38)) b v bs at' seed (.slice (some ⟨w.heap.size, 0, none⟩) 0 0) []) :=
    Lib.hid ⟨HS.out.turn (Chg.of_below (ext_alloc1 _ _) (fun _ => False)) (fun _ h => h.elim) (fun h => h), oen_lit w _ (Nat.le_refl _), rfl, rfl, Chg.of_below (ext_alloc1 _ _) _, hbl, hwl⟩
  refine (src_pick W0 b v bs at' seed 8 _ HD0.out.src (by omega)).mono ?_
  rintro e w1 ⟨y, a2, s2, rfl, hx, h1, h2, HS1, HC1⟩
  have HD2 := Lib.hid (HD0.out.pick HS1 HC1)
  have hy1 : 0 ≤ y ∧ y ≤ 7 := ⟨hx.1, by have := hx.2.2.1 (by omega); omega⟩
  clear hx HS1 HC1 HD0
  go_wp2_with fail
  go_loopw [5, 6, 7] (fun r d t wr => ∃ (j : Int) (l : List EN) (A : Option Addr) (c : Nat) (at3 sd3 : Int), 0 ≤ j ∧ j + l.length ≤ y ∧ t = .int .i64 j ∧ d = .int .i64 (lday l) ∧ r = .slice A l.length c ∧ a2 ≤ at3 ∧ at3 ≤ a2 + 12 * (y - j) ∧ Hid (DE W0 w wr b v bs at3 sd3 (.slice A l.length c) l)) (fun _ _ t _ => (intOf t).toNat)
  case atStart => exact ⟨y, [], _, 0, a2, s2, by omega, by simp, rfl, rfl, rfl, Int.le_refl _, by omega, HD2.out⟩
  case round =>
    obtain ⟨j, l, A, c, at3, sd3, hj, hjx, rfl, rfl, rfl, ht1, ht2, HD⟩ := hrel
    by_cases hj0 : 0 < j
    · obtain ⟨hd0, hd1⟩ := lday_bd HD.out.all
      have hll : l.length ≤ 7 := by omega
      go_wp2_with fail
      refine (draw_entry W0 b v bs at3 sd3 (lday l) _ HD.out.src (by omega) hd0 (by omega)).mono ?_
      rintro e w3 ⟨o, at4, sd4, rfl, hos, hq1, hq2, HS3, HC3⟩
      have HD3 := Lib.hid (HD.out.pick HS3 HC3)
      have hz3 : w.heap.size ≤ w3.heap.size := HD3.out.chg.size
      have HP3 := Lib.hid (pEN_box w3 o 38)
      have HDw := Lib.hid (HD3.out.wide (Chg.of_below (ext_alloc1 w3 (.cells #[.int .i64 o.day, .string o.what, .int .i64 o.val] 38)) _))
      have hlo : LenEN o := by unfold LenEN maxLen; omega
      clear HS3 HC3 HD
      go_wp2_with fail
      refine (spec_okEn ⟨w3.heap.size, 0, none⟩ o _ hlo HP3.out).mono ?_
      rintro e w4 ⟨rfl, rfl⟩
      obtain ⟨p0, p1, p2⟩ := HP3.out
      have hnb : ¬ BENS (.slice A l.length c) w3.heap.size := fun h => by have := (HD3.out.own.ge _ h).2; omega
      have hza : w.heap.size ≤ (w3.alloc (.cells #[.int .i64 o.day, .string o.what, .int .i64 o.val] 38)).heap.size := by simp; omega
      clear HD3 HP3
      obtain ⟨p, hp⟩ : ∃ p, w3.heap.size = p := ⟨_, rfl⟩
      rw [hp] at p0 p1 p2 hnb
      rw [hp]
      generalize w3.alloc (.cells #[.int .i64 o.day, .string o.what, .int .i64 o.val] 38) = wa at *
      clear hp hz3
      cases hv : vEn o with
      | false =>
        go_wp2_with fail
        go_roundw
        case rel => exact ⟨j - 1, l, A, c, at4, sd4, by omega, by omega, congrArg (Value.int .i64) (by omega), rfl, rfl, by omega, by omega, HDw.out⟩
        case measure => simp [intOf]; omega
      | true =>
        by_cases hd : lday l ≤ o.day
        · go_wp2_with (at_builtin; refine wpList_append_en rfl _ _ rfl w.heap.size (.slice A l.length c) l o rfl rfl HDw.out.own (by omega) hza ?_; intro g c5 w5 hO5 hg5; (have HC5 := Lib.hid (chg_grow1 hg5)); (have HO5 := Lib.hid (OENS.of_app hO5)); (have q0 := HC5.out.cell p0 hnb); clear hO5 hg5 p0 p1 p2)
          go_roundw
          case rel => exact ⟨j - 1, l ++ [o], some ⟨g, 0, none⟩, c5, at4, sd4, by omega, by rw [List.length_append]; simp; omega, congrArg (Value.int .i64) (by omega), by rw [lday_snoc], by rw [List.length_append]; rfl, by omega, by omega, by rw [List.length_append]; exact HDw.out.push HO5.out HC5.out hv hd⟩
          case measure => simp [intOf]; omega
        · have e0 : ¬ (lday l ≤ o.day) := hd
          go_wp2_with fail
          go_roundw
          case rel => exact ⟨j - 1, l, A, c, at4, sd4, by omega, by omega, congrArg (Value.int .i64) (by omega), rfl, rfl, by omega, by omega, HDw.out⟩
          case measure => simp [intOf]; omega
    · have e0 : ¬ (0:Int) < j := hj0
      go_wp2_with fail
      go_ret
      exact ⟨A, c, l, rfl, by omega, at3, by omega, by omega, sd3, HD.out⟩

set_option maxHeartbeats 1600000 in
/-- The entries drawn from bytes: valid, in order, at most seven. -/
theorem a2_entries (v : Value) (bs : List UInt8) (w : World) (hR : RB w v bs) :
    Calls Tryd.prog 6 #[v] w fun e w' => ∃ (A : Option Addr) (c : Nat) (l : List EN), e = .returned (.slice A l.length c) ∧ l.length ≤ 7 ∧ l.all vEn = true ∧ dK l l.length = true ∧ OENS w' w.heap.size (.slice A l.length c) l ∧ Below w.heap.size w w' := by
  have HR := Lib.hid hR; clear hR
  go_enter Tryd.func6, Tryd.ntmps6
  go_wp2_with fail
  refine (src_start v bs _ HR.out).mono ?_
  rintro e w1 ⟨b, rfl, hS, hB⟩
  have HS1 := Lib.hid hS
  have HB1 := Lib.hid hB
  clear hS hB HR
  go_wp2_with fail
  refine (draw_entries _ b v bs 0 0 _ HS1.out (by omega)).mono ?_
  rintro e w2 ⟨A, c, l, at2, s2, rfl, hl, h1, h2, hD⟩
  have HD := Lib.hid hD
  clear hD
  go_wp2_with fail
  go_ret
  have hlo := HS1.out.low
  exact ⟨A, c, l, rfl, hl, HD.out.all, HD.out.days, HD.out.own.mono HS1.out.old.size, Chg.ext HB1.out HD.out.chg (fun k hk => by subst hk; exact hlo)⟩
end Go.Proofs.YtiedojkoogfokaaDoor
