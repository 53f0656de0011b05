/-
  Parts of the proof: Fmt2, Lay1, Lay2.
-/
import Derived.Test.YtfgopboddkhckaaGreatDoorKw9
namespace Go.Proofs.YtfgopboddkhckaaGreatDoor
open Go.ChangeShapes Go.WideShapes Go.ChangeAt Go.RowKit Go.Sort Go.Joins
set_option linter.unusedVariables false
set_option maxRecDepth 100000
def g4 (a : Int) : Int := if a % 4 = 0 then 4 else if a % 4 = 2 then 2 else 1
theorem tmod4 {a : Int} (h : 0 ≤ a) : Int.tmod a 4 = a % 4 := Int.tmod_eq_emod_of_nonneg h
set_option maxHeartbeats 1600000 in
theorem spec_gcd4 (a : Int) (h0 : 0 ≤ a) (h1 : a ≤ 1000000) (w : World) : Calls Tryz.prog 226 #[.int .i64 a, .int .i64 4] w (Ret (.int .i64 (g4 a)) w) := by
 have ht := tmod4 h0
 have HG : Hid (g4 a = if a % 4 = 0 then 4 else if a % 4 = 2 then 2 else 1) := Lib.hid rfl
 rcases (show a % 4 = 0 ∨ a % 4 = 1 ∨ a % 4 = 2 ∨ a % 4 = 3 by omega) with hr | hr | hr | hr
 all_goals
   rw [hr] at ht HG
   clear hr
   go_enter Tryz.func226, Tryz.ntmps226
   go_wp2_with fail
   refine wp_loop_rounds 6 ?_
   repeat (rw [rounds_succ]; go_wp2_with fail; skip)
   go_ret
   refine ⟨ret_int (by rw [HG.out]; rfl), ?_⟩
   repeat (first | exact ext_refl _ | refine ext_drewN ?_ _ | refine ext_drew ?_)
set_option maxHeartbeats 1600000 in
theorem impl_gcd4 (a : Int) (h0 : 0 ≤ a) (h1 : a ≤ 1000000) (w : World) : Calls Tryz.prog 216 #[.int .i64 a, .int .i64 4] w (Ret (.int .i64 (g4 a)) w) := by
 have ht := tmod4 h0
 have HG : Hid (g4 a = if a % 4 = 0 then 4 else if a % 4 = 2 then 2 else 1) := Lib.hid rfl
 rcases (show a % 4 = 0 ∨ a % 4 = 1 ∨ a % 4 = 2 ∨ a % 4 = 3 by omega) with hr | hr | hr | hr
 all_goals
   rw [hr] at ht HG
   clear hr
   go_enter Tryz.func216, Tryz.ntmps216
   go_wp2_with fail
   refine wp_loop_rounds 6 ?_
   repeat (rw [rounds_succ]; go_wp2_with fail; (try (go_quiet (fail); (try rename Nat => n1); go_wp2_with fail)))
   go_ret
   refine ⟨ret_int (by rw [HG.out]; rfl), ?_⟩
   repeat (first | exact ext_refl _ | refine ext_drewN ?_ _ | refine ext_drew ?_)
theorem g4_cases (a : Int) : g4 a = 1 ∨ g4 a = 2 ∨ g4 a = 4 := by unfold g4; split <;> (try split) <;> simp
theorem tdiv_bd {a g : Int} (h0 : 0 ≤ a) (h1 : a ≤ 1000000) (hg : 1 ≤ g) : 0 ≤ Int.tdiv a g ∧ Int.tdiv a g ≤ 1000000 := by
 rw [Int.tdiv_eq_ediv_of_nonneg h0]
 have h2 := Int.ediv_nonneg h0 (show 0 ≤ g by omega)
 have h3 := Int.ediv_le_self g h0
 omega
theorem spec_size0 (n : Int) (h1 : 0 ≤ n) (w : World) : Calls Tryz.prog 224 #[.int .i64 n] w (RetP (.int .i64 n) w) := by
 have e1 : ¬ n < 0 := by omega
 go_enter Tryz.func224, Tryz.ntmps224
 go_wp2_with fail
 go_ret
 exact ⟨rfl, rfl⟩
set_option maxHeartbeats 1600000 in
theorem impl_lowest4 (a : Int) (h0 : 0 ≤ a) (h1 : a ≤ 1000000) (w : World) : Calls Tryz.prog 165 #[.int .i64 a, .int .i64 4] w (Ret (.agg #[.int .i64 (Int.tdiv a (g4 a)), .int .i64 (Int.tdiv 4 (g4 a))]) w) := by
 have HC := Lib.hid (fun w => impl_gcd4 a h0 h1 w)
 have hg := g4_cases a
 obtain ⟨g, hgg⟩ : ∃ g, g4 a = g := ⟨_, rfl⟩
 rw [hgg] at HC hg ⊢
 clear hgg
 have hb1 := tdiv_bd h0 h1 (show 1 ≤ g by omega)
 have hb2 := tdiv_bd (a := 4) (g := g) (by omega) (by omega) (by omega)
 have hg0 : ¬ g = 0 := by omega
 have hg1 : (g == 0) = false := beq_eq_false_iff_ne.2 hg0
 go_enter Tryz.func165, Tryz.ntmps165
 go_wp2_with fail
 skip
 refine (show Calls _ _ _ _ _ from HC.out _).mono ?_
 rintro e w1 ⟨rfl, hb⟩
 have r0 := cell_keep (p := ⟨w.heap.size, 0, none⟩) (v := .int .i64 0) (by simp [go_sem]) hb
 have r1 := cell_keep (p := ⟨w.heap.size, 1, none⟩) (v := .int .i64 0) (by simp [go_sem]) hb
 have rz : ∀ j, w1.frozen? ⟨w.heap.size, j, none⟩ = false := fun j => by rw [(bcell hb).2 _ _ (by simp)]; simp [go_sem]
 have HB := Lib.hid (ext_trans (ext_alloc1 _ _) hb)
 clear hb
 go_wp2_with fail
 go_region
 all_goals
   go_wp2_with fail
   refine bodyPost_ret (v := .agg #[.int .i64 (Int.tdiv a g), .int .i64 (Int.tdiv 4 g)]) (by simp [results, Tryz.results165, go_sem, r0, r1]) rfl ⟨rfl, ?_⟩
   exact ext_drew (ext_set (ext_set HB.out (Nat.le_refl _) _) (Nat.le_refl _) _)
set_option maxHeartbeats 1600000 in
theorem spec_make4 (a : Int) (h0 : 0 ≤ a) (h1 : a ≤ 1000000) (w : World) : Calls Tryz.prog 184 #[.int .i64 a, .int .i64 4] w (Ret (.agg #[.int .i64 (Int.tdiv a (g4 a)), .int .i64 (Int.tdiv 4 (g4 a))]) w) := by
 have HC := Lib.hid (fun w => spec_gcd4 a h0 h1 w)
 have hg := g4_cases a
 obtain ⟨g, hgg⟩ : ∃ g, g4 a = g := ⟨_, rfl⟩
 rw [hgg] at HC hg ⊢
 clear hgg
 have hb1 := tdiv_bd h0 h1 (show 1 ≤ g by omega)
 have hb2 := tdiv_bd (a := 4) (g := g) (by omega) (by omega) (by omega)
 have hg0 : ¬ g = 0 := by omega
 have hg1 : (g == 0) = false := beq_eq_false_iff_ne.2 hg0
 go_enter Tryz.func184, Tryz.ntmps184
 go_wp2_with fail
 (refine (spec_size0 a h0 _).mono ?_; rintro e w0 ⟨rfl, rfl⟩; go_wp2_with fail)
 refine (show Calls _ _ _ _ _ from HC.out _).mono ?_
 rintro e w1 ⟨rfl, hb⟩
 have r0 := cell_keep (p := ⟨w.heap.size, 0, none⟩) (v := .int .i64 0) (by simp [go_sem]) hb
 have r1 := cell_keep (p := ⟨w.heap.size, 1, none⟩) (v := .int .i64 0) (by simp [go_sem]) hb
 have rz : ∀ j, w1.frozen? ⟨w.heap.size, j, none⟩ = false := fun j => by rw [(bcell hb).2 _ _ (by simp)]; simp [go_sem]
 have HB := Lib.hid (ext_trans (ext_alloc1 _ _) hb)
 clear hb
 go_wp2_with fail
 go_region
 all_goals
   go_wp2_with fail
   refine bodyPost_ret (v := .agg #[.int .i64 (Int.tdiv a g), .int .i64 (Int.tdiv 4 g)]) (by simp [results, Tryz.results184, go_sem, r0, r1]) rfl ⟨rfl, ?_⟩
   exact ext_drew (ext_set (ext_set HB.out (Nat.le_refl _) _) (Nat.le_refl _) _)
def mNum (f : FM) (n : Int) : Int := n * (f.l + f.j) - 4 * f.j
def mLen (f : FM) (n : Int) : Int × Int × Int := if fmC f n 1 200 = 0 then (Int.tdiv (mNum f n) (g4 (mNum f n)), Int.tdiv 4 (g4 (mNum f n)), 0) else (0, 0, fmC f n 1 200)
set_option maxHeartbeats 1600000 in
theorem impl_LengthOf (f : FM) (n : Int) (w : World) :
   Calls Tryz.prog 96 #[.agg #[.int .i64 f.l, .int .i64 f.w, .int .i64 f.h, .int .i64 f.j], .int .i64 n] w (Ret (.tuple #[.agg #[.int .i64 (mLen f n).1, .int .i64 (mLen f n).2.1], .int .i64 (mLen f n).2.2]) w) := by
 have HM : Hid (mLen f n = if fmC f n 1 200 = 0 then (Int.tdiv (mNum f n) (g4 (mNum f n)), Int.tdiv 4 (g4 (mNum f n)), 0) else (0, 0, fmC f n 1 200)) := Lib.hid rfl
 have HC := Lib.hid (fun w => impl_fmC f n 1 200 w)
 obtain ⟨z, hz⟩ : ∃ z, fmC f n 1 200 = z := ⟨_, rfl⟩
 by_cases hz0 : z = 0
 · rw [hz0] at hz
   obtain ⟨h1, h2, h3⟩ := fmC_ok hz
   obtain ⟨b1, b2, _, _, _, _, b3, b4, _⟩ := vF_bd h1
   rw [hz, if_pos rfl] at HM
   rw [hz] at HC
   have HN : Hid (mNum f n = n * (f.l + f.j) - 4 * f.j) := Lib.hid rfl
   clear hz hz0 h1
   obtain ⟨l, hw, h, j⟩ := f
   dsimp only at *
   have hp : 100 + j ≤ n * (l + j) ∧ n * (l + j) ≤ 104000 := by
     have k1 : 1 * (l + j) ≤ n * (l + j) := Int.mul_le_mul_of_nonneg_right (by omega) (by omega)
     have k2 : n * (l + j) ≤ 200 * 520 := Int.mul_le_mul (by omega) (by omega) (by omega) (by omega)
     omega
   have HL := Lib.hid (fun w => impl_lowest4 (n * (l + j) - 4 * j) (by omega) (by omega) w)
   go_enter Tryz.func96, Tryz.ntmps96
   go_wp2_with fail
   refine (show Calls _ _ _ _ _ from HC.out _).mono ?_
   rintro e w1 ⟨rfl, hb⟩
   have k0 := cell_keep (p := ⟨w.heap.size, 0, none⟩) (v := .int .i64 l) (by simp [go_sem]) hb
   have k3 := cell_keep (p := ⟨w.heap.size, 3, none⟩) (v := .int .i64 j) (by simp [go_sem]) hb
   have r0 := cell_keep (p := ⟨w.heap.size + 1, 0, none⟩) (v := .int .i64 0) (by simp [go_sem]) hb
   have r1 := cell_keep (p := ⟨w.heap.size + 1, 1, none⟩) (v := .int .i64 0) (by simp [go_sem]) hb
   have rz : ∀ i, w1.frozen? ⟨w.heap.size + 1, i, none⟩ = false := fun i => by rw [(bcell hb).2 _ _ (by simp)]; simp [go_sem]
   have HB := Lib.hid (ext_trans (ext_alloc (ext_alloc1 w _) _) hb)
   clear hb
   go_wp2_with fail
   have hrl := block_lt_of_cell r0
   refine (show Calls _ _ _ _ _ from HL.out _).mono ?_
   rintro e w2 ⟨rfl, hb⟩
   replace r0 := cell_keep r0 hb
   replace r1 := cell_keep r1 hb
   have rz2 : ∀ i, w2.frozen? ⟨w.heap.size + 1, i, none⟩ = false := fun i => by rw [(bcell hb).2 _ _ hrl]; exact rz i
   have HB2 := Lib.hid (ext_trans HB.out hb)
   clear hb k0 k3
   have HM2 : Hid (mLen ⟨l, hw, h, j⟩ n = (Int.tdiv (n * (l + j) - 4 * j) (g4 (n * (l + j) - 4 * j)), Int.tdiv 4 (g4 (n * (l + j) - 4 * j)), 0)) := Lib.hid HM.out
   clear HM
   generalize Int.tdiv 4 (g4 (n * (l + j) - 4 * j)) = q2 at *
   generalize Int.tdiv (n * (l + j) - 4 * j) (g4 (n * (l + j) - 4 * j)) = q1 at *
   go_wp2_with fail
   refine bodyPost_ret (v := .tuple #[.agg #[.int .i64 q1, .int .i64 q2], .int .i64 0]) (by simp [results, Tryz.results96, go_sem, r0, r1]) rfl ⟨by rw [HM2.out], ?_⟩
   exact ext_set (ext_set HB2.out (Nat.le_succ _) _) (Nat.le_succ _) _
 · rw [hz, if_neg hz0] at HM
   rw [hz] at HC
   have e1 : (z == 0) = false := beq_eq_false_iff_ne.2 hz0
   have e2 : (z != 0) = true := bne_iff_ne.2 hz0
   clear hz
   go_enter Tryz.func96, Tryz.ntmps96
   go_wp2_with fail
   refine (show Calls _ _ _ _ _ from HC.out _).mono ?_
   rintro e w1 ⟨rfl, hb⟩
   have r0 := cell_keep (p := ⟨w.heap.size + 1, 0, none⟩) (v := .int .i64 0) (by simp [go_sem]) hb
   have r1 := cell_keep (p := ⟨w.heap.size + 1, 1, none⟩) (v := .int .i64 0) (by simp [go_sem]) hb
   have rz : ∀ i, w1.frozen? ⟨w.heap.size + 1, i, none⟩ = false := fun i => by rw [(bcell hb).2 _ _ (by simp)]; simp [go_sem]
   have HB := Lib.hid (ext_trans (ext_alloc (ext_alloc1 w _) _) hb)
   clear hb
   go_wp2_with fail
   refine bodyPost_ret (v := .tuple #[.agg #[.int .i64 0, .int .i64 0], .int .i64 z]) (by simp [results, Tryz.results96, go_sem, r0, r1]) rfl ⟨by rw [HM.out], ?_⟩
   repeat (first | exact HB.out | refine ext_set ?_ (Nat.le_succ _) _)
set_option maxHeartbeats 1600000 in
theorem spec_LengthOf (f : FM) (n : Int) (w : World) :
   Calls Tryz.prog 125 #[.agg #[.int .i64 f.l, .int .i64 f.w, .int .i64 f.h, .int .i64 f.j], .int .i64 n] w (Ret (.tuple #[.agg #[.int .i64 (mLen f n).1, .int .i64 (mLen f n).2.1], .int .i64 (mLen f n).2.2]) w) := by
 have HM : Hid (mLen f n = if fmC f n 1 200 = 0 then (Int.tdiv (mNum f n) (g4 (mNum f n)), Int.tdiv 4 (g4 (mNum f n)), 0) else (0, 0, fmC f n 1 200)) := Lib.hid rfl
 have HC := Lib.hid (fun w => spec_fmC f n 1 200 w)
 obtain ⟨z, hz⟩ : ∃ z, fmC f n 1 200 = z := ⟨_, rfl⟩
 by_cases hz0 : z = 0
 · rw [hz0] at hz
   obtain ⟨h1, h2, h3⟩ := fmC_ok hz
   obtain ⟨b1, b2, _, _, _, _, b3, b4, _⟩ := vF_bd h1
   rw [hz, if_pos rfl] at HM
   rw [hz] at HC
   have HN : Hid (mNum f n = n * (f.l + f.j) - 4 * f.j) := Lib.hid rfl
   clear hz hz0 h1
   obtain ⟨l, hw, h, j⟩ := f
   dsimp only at *
   have hp : 100 + j ≤ n * (l + j) ∧ n * (l + j) ≤ 104000 := by
     have k1 : 1 * (l + j) ≤ n * (l + j) := Int.mul_le_mul_of_nonneg_right (by omega) (by omega)
     have k2 : n * (l + j) ≤ 200 * 520 := Int.mul_le_mul (by omega) (by omega) (by omega) (by omega)
     omega
   have HL := Lib.hid (fun w => spec_make4 (n * (l + j) - 4 * j) (by omega) (by omega) w)
   go_enter Tryz.func125, Tryz.ntmps125
   go_wp2_with fail
   refine (show Calls _ _ _ _ _ from HC.out _).mono ?_
   rintro e w1 ⟨rfl, hb⟩
   have k0 := cell_keep (p := ⟨w.heap.size, 0, none⟩) (v := .int .i64 l) (by simp [go_sem]) hb
   have k3 := cell_keep (p := ⟨w.heap.size, 3, none⟩) (v := .int .i64 j) (by simp [go_sem]) hb
   have r0 := cell_keep (p := ⟨w.heap.size + 1, 0, none⟩) (v := .int .i64 0) (by simp [go_sem]) hb
   have r1 := cell_keep (p := ⟨w.heap.size + 1, 1, none⟩) (v := .int .i64 0) (by simp [go_sem]) hb
   have rz : ∀ i, w1.frozen? ⟨w.heap.size + 1, i, none⟩ = false := fun i => by rw [(bcell hb).2 _ _ (by simp)]; simp [go_sem]
   have HB := Lib.hid (ext_trans (ext_alloc (ext_alloc1 w _) _) hb)
   clear hb
   go_wp2_with fail
   have hrl := block_lt_of_cell r0
   refine (show Calls _ _ _ _ _ from HL.out _).mono ?_
   rintro e w2 ⟨rfl, hb⟩
   replace r0 := cell_keep r0 hb
   replace r1 := cell_keep r1 hb
   have rz2 : ∀ i, w2.frozen? ⟨w.heap.size + 1, i, none⟩ = false := fun i => by rw [(bcell hb).2 _ _ hrl]; exact rz i
   have HB2 := Lib.hid (ext_trans HB.out hb)
   clear hb k0 k3
   have HM2 : Hid (mLen ⟨l, hw, h, j⟩ n = (Int.tdiv (n * (l + j) - 4 * j) (g4 (n * (l + j) - 4 * j)), Int.tdiv 4 (g4 (n * (l + j) - 4 * j)), 0)) := Lib.hid HM.out
   clear HM
   generalize Int.tdiv 4 (g4 (n * (l + j) - 4 * j)) = q2 at *
   generalize Int.tdiv (n * (l + j) - 4 * j) (g4 (n * (l + j) - 4 * j)) = q1 at *
   go_wp2_with fail
   refine bodyPost_ret (v := .tuple #[.agg #[.int .i64 q1, .int .i64 q2], .int .i64 0]) (by simp [results, Tryz.results125, go_sem, r0, r1]) rfl ⟨by rw [HM2.out], ?_⟩
   exact ext_set (ext_set HB2.out (Nat.le_succ _) _) (Nat.le_succ _) _
 · rw [hz, if_neg hz0] at HM
   rw [hz] at HC
   have e1 : (z == 0) = false := beq_eq_false_iff_ne.2 hz0
   have e2 : (z != 0) = true := bne_iff_ne.2 hz0
   clear hz
   go_enter Tryz.func125, Tryz.ntmps125
   go_wp2_with fail
   refine (show Calls _ _ _ _ _ from HC.out _).mono ?_
   rintro e w1 ⟨rfl, hb⟩
   have r0 := cell_keep (p := ⟨w.heap.size + 1, 0, none⟩) (v := .int .i64 0) (by simp [go_sem]) hb
   have r1 := cell_keep (p := ⟨w.heap.size + 1, 1, none⟩) (v := .int .i64 0) (by simp [go_sem]) hb
   have rz : ∀ i, w1.frozen? ⟨w.heap.size + 1, i, none⟩ = false := fun i => by rw [(bcell hb).2 _ _ (by simp)]; simp [go_sem]
   have HB := Lib.hid (ext_trans (ext_alloc (ext_alloc1 w _) _) hb)
   clear hb
   go_wp2_with fail
   refine bodyPost_ret (v := .tuple #[.agg #[.int .i64 0, .int .i64 0], .int .i64 z]) (by simp [results, Tryz.results125, go_sem, r0, r1]) rfl ⟨by rw [HM.out], ?_⟩
   repeat (first | exact HB.out | refine ext_set ?_ (Nat.le_succ _) _)
set_option maxHeartbeats 1600000 in
theorem impl_piece (c : CO) (i : Nat) (hv : vC c = true) (hi : i ≤ 1000) (w : World) :
   Calls Tryz.prog 209 #[.agg #[.string c.lead, .string c.cyc], .int .i64 i] w (Ret (.int .u8 (ltr c i)) w) := by
 obtain ⟨h1, _, h3, h4, _⟩ := vC_parts hv
 clear hv
 obtain ⟨a, b⟩ := c
 dsimp only at *
 have e0 : (0 : Int) ≤ i := by omega
 by_cases hlt : i < a.size
 · have e1 : (i : Int) < a.size := by omega
   have hy := byt_eq a i hlt
   have HL : Hid (ltr ⟨a, b⟩ i = byt a i) := Lib.hid (by unfold ltr; rw [if_pos hlt])
   obtain ⟨y, hyy⟩ : ∃ y, byt a i = y := ⟨_, rfl⟩
   rw [hyy] at hy HL
   clear hyy
   go_enter Tryz.func209, Tryz.ntmps209
   go_wp2_with fail
   go_ret
   exact ⟨by rw [HL.out]; rfl, ext_alloc1 _ _⟩
 · have e1 : ¬ (i : Int) < a.size := by omega
   obtain ⟨r, hr⟩ : ∃ r, (i - a.size) % b.size = r := ⟨_, rfl⟩
   have hrb : r < b.size := by rw [← hr]; exact Nat.mod_lt _ (by omega)
   have ht : ((i : Int) - (a.size : Int)).tmod (b.size : Int) = (r : Int) := by
     rw [Int.tmod_eq_emod_of_nonneg (by omega), ← hr, show (i : Int) - (a.size : Int) = ((i - a.size : Nat) : Int) by omega]
     rfl
   have hy := byt_eq b r hrb
   have HL : Hid (ltr ⟨a, b⟩ i = byt b r) := Lib.hid (by unfold ltr; rw [if_neg hlt]; show byt b ((i - a.size) % b.size) = byt b r; rw [hr])
   obtain ⟨y, hyy⟩ : ∃ y, byt b r = y := ⟨_, rfl⟩
   rw [hyy] at hy HL
   have e2 : (0 : Int) ≤ r := by omega
   have e3 : (r : Int) < b.size := by omega
   have e4 : ((b.size : Int) == 0) = false := beq_eq_false_iff_ne.2 (by omega)
   have e5 : ¬ (b.size : Int) = 0 := by omega
   clear hyy hr
   go_enter Tryz.func209, Tryz.ntmps209
   go_wp2_with fail
   go_quiet (fail)
   go_wp2_with fail
   go_ret
   exact ⟨by rw [HL.out]; rfl, ext_drewN (ext_alloc1 _ _) _⟩
set_option maxHeartbeats 1600000 in
theorem spec_letter4 (c : CO) (i : Nat) (hv : vC c = true) (hi : i ≤ 1000) (w : World) :
   Calls Tryz.prog 229 #[.agg #[.string c.lead, .string c.cyc], .int .i64 i] w (Ret (.int .u8 (ltr c i)) w) := by
 obtain ⟨h1, _, h3, h4, _⟩ := vC_parts hv
 clear hv
 obtain ⟨a, b⟩ := c
 dsimp only at *
 have e0 : (0 : Int) ≤ i := by omega
 by_cases hlt : i < a.size
 · have e1 : (i : Int) < a.size := by omega
   have hy := byt_eq a i hlt
   have HL : Hid (ltr ⟨a, b⟩ i = byt a i) := Lib.hid (by unfold ltr; rw [if_pos hlt])
   obtain ⟨y, hyy⟩ : ∃ y, byt a i = y := ⟨_, rfl⟩
   rw [hyy] at hy HL
   clear hyy
   go_enter Tryz.func229, Tryz.ntmps229
   go_wp2_with fail
   go_ret
   exact ⟨by rw [HL.out]; rfl, ext_alloc1 _ _⟩
 · have e1 : ¬ (i : Int) < a.size := by omega
   obtain ⟨r, hr⟩ : ∃ r, (i - a.size) % b.size = r := ⟨_, rfl⟩
   have hrb : r < b.size := by rw [← hr]; exact Nat.mod_lt _ (by omega)
   have ht : ((i : Int) - (a.size : Int)).tmod (b.size : Int) = (r : Int) := by
     rw [Int.tmod_eq_emod_of_nonneg (by omega), ← hr, show (i : Int) - (a.size : Int) = ((i - a.size : Nat) : Int) by omega]
     rfl
   have hy := byt_eq b r hrb
   have HL : Hid (ltr ⟨a, b⟩ i = byt b r) := Lib.hid (by unfold ltr; rw [if_neg hlt]; show byt b ((i - a.size) % b.size) = byt b r; rw [hr])
   obtain ⟨y, hyy⟩ : ∃ y, byt b r = y := ⟨_, rfl⟩
   rw [hyy] at hy HL
   have e2 : (0 : Int) ≤ r := by omega
   have e3 : (r : Int) < b.size := by omega
   have e4 : ((b.size : Int) == 0) = false := beq_eq_false_iff_ne.2 (by omega)
   have e5 : ¬ (b.size : Int) = 0 := by omega
   clear hyy hr
   go_enter Tryz.func229, Tryz.ntmps229
   go_wp2_with fail
   go_quiet (fail)
   go_wp2_with fail
   go_ret
   exact ⟨by rw [HL.out]; rfl, ext_drewN (ext_alloc1 _ _) _⟩
set_option maxHeartbeats 1600000 in
theorem impl_course (A : Option Addr) (c : Nat) (nm : ByteArray) (cs : List CO) (k : Nat) (hk : k ≤ 1000) (h1 : 1 ≤ cs.length) (h8 : cs.length ≤ 8) (w : World) (ha : RCOS w (.slice A cs.length c) cs) :
   Calls Tryz.prog 208 #[.agg #[.string nm, .slice A cs.length c], .int .i64 k] w (Ret (.agg #[.string (gd cs (k % cs.length)).lead, .string (gd cs (k % cs.length)).cyc]) w) := by
 obtain ⟨r, hr⟩ : ∃ r, k % cs.length = r := ⟨_, rfl⟩
 have hrb : r < cs.length := by rw [← hr]; exact Nat.mod_lt _ (by omega)
 have ht : (k : Int).tmod (cs.length : Int) = (r : Int) := by rw [Int.tmod_eq_emod_of_nonneg (by omega), ← hr]; rfl
 rw [hr]
 obtain ⟨ad, rfl, hbd, hc⟩ := ha.at hrb
 obtain ⟨p0, p1⟩ := hc r hrb
 obtain ⟨o, ho⟩ : ∃ o, gd cs r = o := ⟨_, rfl⟩
 rw [ho] at p0 p1
 rw [ho]
 have hb1 := ext_alloc (ext_alloc1 w (.cells #[.string nm, .slice (some ad) cs.length c] 36)) (.cells #[.string ⟨#[]⟩, .string ⟨#[]⟩] 102)
 have q0 := cell_keep p0 (ext_drew hb1)
 have q1 := cell_keep p1 (ext_drew hb1)
 have e0 : (0 : Int) ≤ r := by omega
 have e1 : (r : Int) < cs.length := by omega
 have e2 : ((cs.length : Int) == 0) = false := beq_eq_false_iff_ne.2 (by omega)
 have e3 : ¬ (cs.length : Int) = 0 := by omega
 clear hc ho hr hb1 p0 p1
 go_enter Tryz.func208, Tryz.ntmps208
 go_wp2_with fail
 go_region
 all_goals
   go_wp2_with fail
   refine bodyPost_ret (v := .agg #[.string o.lead, .string o.cyc]) (by simp [results, Tryz.results208, go_sem]) rfl ⟨rfl, ?_⟩
   exact ext_drew (ext_alloc (ext_alloc1 w _) _)
set_option maxHeartbeats 1600000 in
theorem spec_course4 (b o' : Nat) (A : Option Addr) (c : Nat) (cs : List CO) (k : Nat) (hk : k ≤ 1000) (h1 : 1 ≤ cs.length) (h8 : cs.length ≤ 8) (w : World) (ha : RCOS w (.slice A cs.length c) cs) (hb1 : w.cell? ⟨b, o' + 1, none⟩ = some (.slice A cs.length c)) :
   Calls Tryz.prog 228 #[.pointer (some ⟨b, o', none⟩), .int .i64 k] w (Ret (.agg #[.string (gd cs (k % cs.length)).lead, .string (gd cs (k % cs.length)).cyc]) w) := by
 obtain ⟨r, hr⟩ : ∃ r, k % cs.length = r := ⟨_, rfl⟩
 have hrb : r < cs.length := by rw [← hr]; exact Nat.mod_lt _ (by omega)
 have ht : (k : Int).tmod (cs.length : Int) = (r : Int) := by rw [Int.tmod_eq_emod_of_nonneg (by omega), ← hr]; rfl
 rw [hr]
 obtain ⟨ad, rfl, hbd, hc⟩ := ha.at hrb
 obtain ⟨p0, p1⟩ := hc r hrb
 obtain ⟨o, ho⟩ : ∃ o, gd cs r = o := ⟨_, rfl⟩
 rw [ho] at p0 p1
 rw [ho]
 have hx := ext_alloc1 w (.cells #[.string ⟨#[]⟩, .string ⟨#[]⟩] 102)
 have q0 := cell_keep p0 (ext_drew hx)
 have q1 := cell_keep p1 (ext_drew hx)
 have q2 := cell_keep hb1 (ext_drew hx)
 have e0 : (0 : Int) ≤ r := by omega
 have e1 : (r : Int) < cs.length := by omega
 have e2 : ((cs.length : Int) == 0) = false := beq_eq_false_iff_ne.2 (by omega)
 have e3 : ¬ (cs.length : Int) = 0 := by omega
 clear hc ho hr hx p0 p1 hb1
 go_enter Tryz.func228, Tryz.ntmps228
 go_wp2_with fail
 go_region
 all_goals
   go_wp2_with fail
   refine bodyPost_ret (v := .agg #[.string o.lead, .string o.cyc]) (by simp [results, Tryz.results228, go_sem]) rfl ⟨rfl, ?_⟩
   exact ext_drew (ext_alloc1 w _)
theorem wpList_append_byL {w0 : World} {ops : Array Oper} {rest : List Oper} {o : Oper} {a : Act} {Q : Exit → Act → World → Prop} (hgd : o.guard = none) (s x : Operand)
   (ho : o.op = .call { callee := .builtin .append, args := #[s, x], argTypes := #[47, 47] })
   (H : Nat) (hH : w0.heap.size = H) (base : Nat) (v : Value) (xs : List UInt8) (n : Int) (b : UInt8) (hn : (b.toNat : Int) = n) (hs : a.eval s = v) (hx : a.eval x = .slice (some ⟨H, 0, none⟩) 1 1) (hO : OB w0 base v xs)
   (hl : xs.length ≤ 1000000) (hbase : base ≤ w0.heap.size)
   (h : ∀ g c w', OB w' base (.slice (some ⟨g, 0, none⟩) (xs.length + 1) c) (xs ++ [b]) → Chg (BY v) w0 w' → (v.ownBlock = some g ∨ g = H + 1) → wpList Tryz.prog ops Q rest (a.put o.dst (.slice (some ⟨g, 0, none⟩) (xs.length + 1) c)) w') :
   wpList Tryz.prog ops Q (o :: rest) a (w0.alloc (.cells #[.int .u8 n] 5)) := by
 subst hH
 obtain ⟨i0, hi, hz0, hz1, hz2⟩ := info_parts info_u8
 subst hn
 refine wpList_append_lies _ hgd s x _ ho base 5 i0 (.int .u8 0) 1 1 Tryz.underlying47 hi hz0 hz1 hz2 rfl (by omega) v xs.length _ hs (World.ownsRow.alloc hO _)
   ⟨w0.heap.size, 0, none⟩ 1 1 [.int .u8 (b.toNat : Int)] hx rfl (cell_one_new _ _ _) (by simp [Value.oneCell']) (by omega) (by unfold maxLen; omega) (by omega) (by simp; omega) (w0.heap.size + 1) (by simp) ?_
 intro g cap w1 hown hgrow hat hlt
 refine h g cap w1 ?_ ((Chg.of_below (ext_alloc1 _ _) _).trans (Chg.of_grown hgrow)) hat
 unfold OB
 simpa using hown
theorem ltr_u8 (c : CO) (i : Nat) : (((ltr c i).toNat.toUInt8).toNat : Int) = ltr c i := by
 have h := ltr_bd c i
 have : ((ltr c i).toNat.toUInt8).toNat = (ltr c i).toNat := by
   simp [Nat.toUInt8, UInt8.toNat_ofNat']
   omega
 rw [this]; omega
structure LST (w W : World) (q : Nat) (co : CO) (A : Option Addr) (cp : Nat) (bs : List UInt8) : Prop where
 b : Below w.heap.size w W
 lt : q < W.heap.size
 c0 : W.cell? ⟨q, 0, none⟩ = some (.string co.lead)
 c1 : W.cell? ⟨q, 1, none⟩ = some (.string co.cyc)
 own : OB W w.heap.size (.slice A bs.length cp) bs
 far : ∀ k, BY (.slice A bs.length cp) k → k ≠ q
theorem LST.ext {w W W' : World} {q : Nat} {co : CO} {A : Option Addr} {cp : Nat} {bs : List UInt8} (h : LST w W q co A cp bs) (hb : Below W.heap.size W W') : LST w W' q co A cp bs :=
 ⟨ext_trans h.b hb, Nat.lt_of_lt_of_le h.lt hb.size, cell_keep h.c0 hb, cell_keep h.c1 hb, h.own.ext hb, h.far⟩
theorem LST.app {w W W' : World} {q g cp2 : Nat} {co : CO} {A : Option Addr} {cp : Nat} {bs : List UInt8} {x : UInt8} (h : LST w W q co A cp bs) (hO : OB W' w.heap.size (.slice (some ⟨g, 0, none⟩) (bs.length + 1) cp2) (bs ++ [x]))
   (hC : Chg (BY (.slice A bs.length cp)) W W') (hat : (Value.slice A bs.length cp).ownBlock = some g ∨ g = W.heap.size + 1) : LST w W' q co (some ⟨g, 0, none⟩) cp2 (bs ++ [x]) := by
 have hl : (bs ++ [x]).length = bs.length + 1 := by simp
 have hlt := h.lt
 refine ⟨Chg.ext h.b hC (fun k hk => (h.own.ge k hk).1), Nat.lt_of_lt_of_le h.lt hC.size, hC.cell h.c0 (fun hs => h.far _ hs rfl), hC.cell h.c1 (fun hs => h.far _ hs rfl), by rw [hl]; exact hO, fun k hk => ?_⟩
 obtain rfl : g = k := Option.some.inj hk
 rcases hat with e | e
 · exact h.far g e
 · omega
def layR (t : ByteArray) : ByteArray × Int := if 60 < t.size then (⟨#[]⟩, 5) else (t, 0)
theorem layR_long {l : List UInt8} (h : 60 < l.length) : layR ⟨l.toArray⟩ = (⟨#[]⟩, 5) := by
 unfold layR; exact if_pos (show 60 < l.toArray.size by simpa using h)
theorem layR_short {l : List UInt8} (h : ¬ 60 < l.length) : layR ⟨l.toArray⟩ = (⟨l.toArray⟩, 0) := by
 unfold layR; exact if_neg (show ¬ 60 < l.toArray.size by simpa using h)
set_option maxHeartbeats 3200000 in
theorem impl_layCourse (A0 : Option Addr) (c0 : Nat) (nm : ByteArray) (cs : List CO) (k0 : Nat) (L : Int) (hk0 : k0 ≤ 1000) (hL0 : 1 ≤ L) (hL : L ≤ 200) (hv : vB nm cs = true) (w : World) (ha : RCOS w (.slice A0 cs.length c0) cs) :
   Calls Tryz.prog 155 #[.agg #[.string nm, .slice A0 cs.length c0], .int .i64 k0, .int .i64 L] w
     (Ret (.tuple #[.string (layR (layT (gd cs (k0 % cs.length)) L)).1, .int .i64 (layR (layT (gd cs (k0 % cs.length)) L)).2]) w) := by
 have hvv : 1 ≤ cs.length ∧ cs.length ≤ 8 ∧ ∀ k, k < cs.length → vC (gd cs k) = true := by
   unfold vB at hv
   simp only [Bool.and_eq_true] at hv
   have h2 := inB_iff.1 hv.1.2
   exact ⟨by omega, by omega, fun k hk => List.all_eq_true.1 hv.2 _ (gd_mem hk)⟩
 have HC := Lib.hid (fun w h => impl_course A0 c0 nm cs k0 hk0 hvv.1 hvv.2.1 w h)
 have HA := Lib.hid ha
 have hvc := hvv.2.2 (k0 % cs.length) (Nat.mod_lt _ (by omega))
 obtain ⟨co, hco⟩ : ∃ co, gd cs (k0 % cs.length) = co := ⟨_, rfl⟩
 rw [hco] at HC hvc
 rw [hco]
 have HV := Lib.hid hvc
 clear hco ha hvv hv hvc
 go_enter Tryz.func155, Tryz.ntmps155
 go_wp2_with fail
 refine (show Calls _ _ _ _ _ from HC.out _ (HA.out.alloc _)).mono ?_
 rintro e w1 ⟨rfl, hb⟩
 have HB := Lib.hid (ext_trans (ext_alloc1 _ _) hb)
 clear hb
 go_wp2_with fail
 have HS : Hid (LST w ((w1.alloc (.cells #[] 5)).alloc (.cells #[.string co.lead, .string co.cyc] 102)) (w1.heap.size + 1) co (some ⟨w1.heap.size, 0, none⟩) 0 []) := Lib.hid (by
   refine ⟨ext_alloc (ext_alloc HB.out _) _, by simp, by simp [go_sem], by simp [go_sem], (ob_lit w1 w.heap.size HB.out.size).ext (ext_alloc1 _ _), fun k hk => ?_⟩
   obtain rfl : w1.heap.size = k := Option.some.inj hk
   omega)
 generalize (w1.alloc (.cells #[] 5)).alloc (.cells #[.string co.lead, .string co.cyc] 102) = wb at *
 generalize w1.heap.size + 1 = q at *
 generalize w1.heap.size = g0 at *
 have HAT := Lib.hid (LayAt.zero (c := co) (L := L) (by omega))
 go_loopw [9, 10] (fun u a wr => ∃ (k : Nat) (A : Option Addr) (cp : Nat), k ≤ 200 ∧ u = .slice A k cp ∧ a = .int .i64 (atK co k) ∧ Hid (LayAt co L k) ∧ Hid (LST w wr q co A cp (layL co k))) (fun u _ _ => 201 - (match u with | .slice _ n _ => n | _ => 0))
 case atStart => exact ⟨0, some ⟨g0, 0, none⟩, 0, by omega, rfl, rfl, HAT, HS⟩
 case round =>
   obtain ⟨k, A, cp, hk, rfl, rfl, HT, HR⟩ := hrel
   have p0 := HR.out.c0
   have p1 := HR.out.c1
   have HP := Lib.hid (fun w => impl_piece co k HV.out (by omega) w)
   have hbd := ltr_bd co k
   have hq := ltr_q HV.out k
   have hab := atK_bd HV.out k
   have HQ := Lib.hid (fun w => impl_quarters (ltr co k) hbd.1 hbd.2 w)
   have HK : Hid (atK co (k + 1) = atK co k + qC (ltr co k)) := Lib.hid rfl
   have HB8 := Lib.hid (ltr_u8 co k)
   have HLS := Lib.hid (layL_succ co k)
   obtain ⟨y, hy⟩ : ∃ y, ltr co k = y := ⟨_, rfl⟩
   obtain ⟨z, hz⟩ : ∃ z, qC (ltr co k) = z := ⟨_, rfl⟩
   obtain ⟨t, ht⟩ : ∃ t, atK co k = t := ⟨_, rfl⟩
   rw [hz] at hq HK HQ
   rw [hy] at HP HQ HB8 HLS
   rw [ht] at hab HK
   rw [ht]
   have htt := Lib.hid ht
   clear hy hz ht hbd
   go_wp2_with fail
   refine (show Calls _ _ _ _ _ from HP.out _).mono ?_
   rintro e w3 ⟨rfl, hb⟩
   replace HR := Lib.hid (HR.out.ext hb)
   clear hb p0 p1
   have p0 := HR.out.c0
   have p1 := HR.out.c1
   by_cases hgo : L < t + z
   · have HN : Hid (lenN co L = k) := Lib.hid (HT.out.stop (by rw [HK.out]; exact hgo))
     have HLT0 : layT co L = ⟨(layL co k ++ lastC (L - atK co k)).toArray⟩ := by unfold layT; rw [HN.out]
     have hll := layL_len co k
     rw [htt.out] at HLT0
     obtain ⟨bs, hbs⟩ : ∃ bs, layL co k = bs := ⟨_, rfl⟩
     rw [hbs] at HR HLT0 hll
     have HLL := Lib.hid hll
     have HLT := Lib.hid HLT0
     have hbl : bs.length ≤ 200 := by omega
     have HO := Lib.hid (show OB w3 w.heap.size (.slice A k cp) bs from by have := HR.out.own; rwa [HLL.out] at this)
     have HSZ := Lib.hid HR.out.b.size
     clear hbs hll HLT0
     go_wp2_with fail
     refine (show Calls _ _ _ _ _ from HQ.out _).mono ?_
     rintro e w4 ⟨rfl, rfl⟩
     by_cases h1 : L - t = 1
     · have e1 : (L - t == 1) = true := by simpa using h1
       replace HLT : Hid (layT co L = ⟨(bs ++ [67]).toArray⟩) := Lib.hid (by rw [HLT.out]; unfold lastC; rw [if_pos h1])
       by_cases hlong : 60 < bs.length + 1
       · have HX := Lib.hid (layR_long (l := bs ++ [67]) (by simpa using hlong))
         have hlong2 : (60 : Int) < (bs.length : Int) + 1 := by omega
         go_wp2_with (at_builtin; refine wpList_append_byL rfl _ _ rfl w3.heap.size rfl w.heap.size (.slice A k cp) bs 67 67 rfl rfl rfl HO.out (by omega) HSZ.out ?_; intro g cp2 w5 hO5 hC5 hat5; have HB5 := Lib.hid (Chg.ext HR.out.b hC5 (fun j hj => (HO.out.ge j hj).1)); have hcv := conv_rb hO5.rd)
         all_goals (go_ret2; rw [HLT.out, HX.out]; exact ⟨rfl, HB5.out⟩)
       · have HX := Lib.hid (layR_short (l := bs ++ [67]) (by simpa using hlong))
         have hlong2 : ¬ (60 : Int) < (bs.length : Int) + 1 := by omega
         go_wp2_with (at_builtin; refine wpList_append_byL rfl _ _ rfl w3.heap.size rfl w.heap.size (.slice A k cp) bs 67 67 rfl rfl rfl HO.out (by omega) HSZ.out ?_; intro g cp2 w5 hO5 hC5 hat5; have HB5 := Lib.hid (Chg.ext HR.out.b hC5 (fun j hj => (HO.out.ge j hj).1)); have hcv := conv_rb hO5.rd)
         all_goals (go_ret2; rw [HLT.out, HX.out]; exact ⟨rfl, HB5.out⟩)
     · have e1 : (L - t == 1) = false := by simpa using h1
       by_cases h2 : L - t = 2
       · have e2 : (L - t == 2) = true := by simpa using h2
         replace HLT : Hid (layT co L = ⟨(bs ++ [66]).toArray⟩) := Lib.hid (by rw [HLT.out]; unfold lastC; rw [if_neg h1, if_pos h2])
         by_cases hlong : 60 < bs.length + 1
         · have HX := Lib.hid (layR_long (l := bs ++ [66]) (by simpa using hlong))
           have hlong2 : (60 : Int) < (bs.length : Int) + 1 := by omega
           go_wp2_with (at_builtin; refine wpList_append_byL rfl _ _ rfl w3.heap.size rfl w.heap.size (.slice A k cp) bs 66 66 rfl rfl rfl HO.out (by omega) HSZ.out ?_; intro g cp2 w5 hO5 hC5 hat5; have HB5 := Lib.hid (Chg.ext HR.out.b hC5 (fun j hj => (HO.out.ge j hj).1)); have hcv := conv_rb hO5.rd)
           all_goals (go_ret2; rw [HLT.out, HX.out]; exact ⟨rfl, HB5.out⟩)
         · have HX := Lib.hid (layR_short (l := bs ++ [66]) (by simpa using hlong))
           have hlong2 : ¬ (60 : Int) < (bs.length : Int) + 1 := by omega
           go_wp2_with (at_builtin; refine wpList_append_byL rfl _ _ rfl w3.heap.size rfl w.heap.size (.slice A k cp) bs 66 66 rfl rfl rfl HO.out (by omega) HSZ.out ?_; intro g cp2 w5 hO5 hC5 hat5; have HB5 := Lib.hid (Chg.ext HR.out.b hC5 (fun j hj => (HO.out.ge j hj).1)); have hcv := conv_rb hO5.rd)
           all_goals (go_ret2; rw [HLT.out, HX.out]; exact ⟨rfl, HB5.out⟩)
       · have e2 : (L - t == 2) = false := by simpa using h2
         by_cases h3 : L - t = 3
         · have e3 : (L - t == 3) = true := by simpa using h3
           replace HLT : Hid (layT co L = ⟨(bs ++ [84]).toArray⟩) := Lib.hid (by rw [HLT.out]; unfold lastC; rw [if_neg h1, if_neg h2, if_pos h3])
           by_cases hlong : 60 < bs.length + 1
           · have HX := Lib.hid (layR_long (l := bs ++ [84]) (by simpa using hlong))
             have hlong2 : (60 : Int) < (bs.length : Int) + 1 := by omega
             go_wp2_with (at_builtin; refine wpList_append_byL rfl _ _ rfl w3.heap.size rfl w.heap.size (.slice A k cp) bs 84 84 rfl rfl rfl HO.out (by omega) HSZ.out ?_; intro g cp2 w5 hO5 hC5 hat5; have HB5 := Lib.hid (Chg.ext HR.out.b hC5 (fun j hj => (HO.out.ge j hj).1)); have hcv := conv_rb hO5.rd)
             all_goals (go_ret2; rw [HLT.out, HX.out]; exact ⟨rfl, HB5.out⟩)
           · have HX := Lib.hid (layR_short (l := bs ++ [84]) (by simpa using hlong))
             have hlong2 : ¬ (60 : Int) < (bs.length : Int) + 1 := by omega
             go_wp2_with (at_builtin; refine wpList_append_byL rfl _ _ rfl w3.heap.size rfl w.heap.size (.slice A k cp) bs 84 84 rfl rfl rfl HO.out (by omega) HSZ.out ?_; intro g cp2 w5 hO5 hC5 hat5; have HB5 := Lib.hid (Chg.ext HR.out.b hC5 (fun j hj => (HO.out.ge j hj).1)); have hcv := conv_rb hO5.rd)
             all_goals (go_ret2; rw [HLT.out, HX.out]; exact ⟨rfl, HB5.out⟩)
         · have e3 : (L - t == 3) = false := by simpa using h3
           replace HLT : Hid (layT co L = ⟨bs.toArray⟩) := Lib.hid (by rw [HLT.out]; unfold lastC; rw [if_neg h1, if_neg h2, if_neg h3]; simp)
           have HB5 := Lib.hid HR.out.b
           have hcv := conv_rb (show RB w3 (.slice A k cp) bs from by have := HO.out.rd; exact this)
           by_cases hlong : 60 < bs.length
           · have HX := Lib.hid (layR_long (l := bs) hlong)
             have hlong2 : (60 : Int) < (k : Int) := by have := HLL.out; omega
             clear hcv
             go_wp2_with fail
             all_goals (go_ret2; rw [HLT.out, HX.out]; exact ⟨rfl, HB5.out⟩)
           · have HX := Lib.hid (layR_short (l := bs) hlong)
             have hlong2 : ¬ (60 : Int) < (k : Int) := by have := HLL.out; omega
             go_wp2_with fail
             all_goals (go_ret2; rw [HLT.out, HX.out]; exact ⟨rfl, HB5.out⟩)
   · have HT2 := Lib.hid (HT.out.next HV.out hL (by rw [HK.out]; exact hgo))
     go_wp2_with fail
     refine (show Calls _ _ _ _ _ from HQ.out _).mono ?_
     rintro e w4 ⟨rfl, rfl⟩
     have hll := layL_len co k
     obtain ⟨bs, hbs⟩ : ∃ bs, layL co k = bs := ⟨_, rfl⟩
     rw [hbs] at HR HLS hll
     have HLL := Lib.hid hll
     have hbl : bs.length ≤ 200 := by omega
     have HO := Lib.hid (show OB w3 w.heap.size (.slice A k cp) bs from by have := HR.out.own; rwa [HLL.out] at this)
     have HSZ := Lib.hid HR.out.b.size
     clear hbs hll
     go_wp2_with (at_builtin; refine wpList_append_byL rfl _ _ rfl w3.heap.size rfl w.heap.size (.slice A k cp) bs y y.toNat.toUInt8 HB8.out rfl rfl HO.out (by omega) HSZ.out ?_; intro g cp2 w5 hO5 hC5 hat5)
     go_wp2_with fail
     refine (show Calls _ _ _ _ _ from HQ.out _).mono ?_
     rintro e w6 ⟨rfl, rfl⟩
     have HR2 := Lib.hid (HR.out.app hO5 (by rw [HLL.out]; exact hC5) (by rw [HLL.out]; exact hat5))
     rw [← HLS.out] at HR2
     have hrr : Hid (bs.length + 1 = k + 1) := Lib.hid (by rw [HLL.out])
     go_wp2_with fail
     go_roundw
     case rel => exact ⟨k + 1, some ⟨g, 0, none⟩, cp2, by have := HT2.out.1; omega, by rw [hrr.out], by rw [HK.out], HT2, HR2⟩
     case measure => have := HLL.out; simp; omega
end Go.Proofs.YtfgopboddkhckaaGreatDoor
