/-
  Parts of the proof: Cdr, Con, RowB, DoorV, DoorK.
-/
import Derived.Test.YtfgopboddkhckaaGreatDoorKa1
import Derived.Test.YtfgopboddkhckaaGreatDoorKa14
import Derived.Test.YtfgopboddkhckaaGreatDoorKa15
import Derived.Test.YtfgopboddkhckaaGreatDoorKa17
import Derived.Test.YtfgopboddkhckaaGreatDoorKa18
import Derived.Test.YtfgopboddkhckaaGreatDoorKa21
import Derived.Deep.RegionHeld3
namespace Go.Proofs.YtfgopboddkhckaaGreatDoor
open Go.ChangeShapes Go.WideShapes Go.ChangeAt Go.RowKit Go.Sort
set_option linter.unusedVariables false
set_option maxRecDepth 100000

abbrev ln0 : List ByteArray := [⟨#[98, 111, 110, 100, 32, 101, 110, 103, 108, 105, 115, 104]⟩, ⟨#[98, 111, 110, 100, 32, 102, 108, 101, 109, 105, 115, 104]⟩, ⟨#[98, 111, 110, 100, 32, 103, 97, 114, 100, 101, 110]⟩, ⟨#[98, 111, 110, 100, 32, 104, 101, 97, 100, 101, 114]⟩, ⟨#[98, 111, 110, 100, 32, 115, 116, 114, 101, 116, 99, 104, 101, 114]⟩, ⟨#[98, 111, 110, 100, 32, 111, 119, 110]⟩, ⟨#[98, 111, 110, 100]⟩]
theorem ln0_ok : ∀ x ∈ ln0, Ln x := by decide +kernel
abbrev ln1 : List ByteArray := [⟨#[119, 97, 108, 108, 32, 49, 50, 32, 50]⟩, ⟨#[119, 97, 108, 108, 32, 49, 48, 32, 51]⟩, ⟨#[119, 97, 108, 108, 32, 50, 49, 32, 53]⟩, ⟨#[119, 97, 108, 108, 32, 48, 32, 49]⟩, ⟨#[119, 97, 108, 108, 32, 55, 32, 52, 49]⟩, ⟨#[119, 97, 108, 108, 32, 50, 48, 48, 32, 50]⟩, ⟨#[119, 97, 108, 108, 32, 52, 32, 120]⟩]
theorem ln1_ok : ∀ x ∈ ln1, Ln x := by decide +kernel
abbrev ln2 : List ByteArray := [⟨#[115, 104, 111, 119]⟩, ⟨#[99, 104, 101, 99, 107, 32, 49]⟩, ⟨#[99, 104, 101, 99, 107, 32, 50]⟩, ⟨#[99, 104, 101, 99, 107, 32, 48]⟩, ⟨#[99, 104, 101, 99, 107, 32, 120]⟩, ⟨#[99, 111, 117, 110, 116]⟩, ⟨#[115, 104, 111, 119, 32, 49]⟩]
theorem ln2_ok : ∀ x ∈ ln2, Ln x := by decide +kernel
abbrev ln3 : List ByteArray := [⟨#[112, 97, 105, 114, 32, 49, 48, 32, 49]⟩, ⟨#[112, 97, 105, 114, 32, 57, 32, 49]⟩, ⟨#[112, 97, 105, 114, 32, 49, 51, 32, 50]⟩, ⟨#[112, 97, 105, 114, 32, 56, 49, 32, 49]⟩, ⟨#[112, 97, 105, 114, 32, 54, 32, 52]⟩, ⟨#[112, 97, 105, 114, 32, 53, 32, 120]⟩]
theorem ln3_ok : ∀ x ∈ ln3, Ln x := by decide +kernel
abbrev ln4 : List ByteArray := [⟨#[102, 111, 114, 109, 97, 116, 32, 50, 52, 48, 120, 49, 49, 53, 120, 55, 49, 43, 49, 48]⟩, ⟨#[102, 111, 114, 109, 97, 116, 32, 50, 49, 53, 120, 49, 48, 50, 120, 54, 53, 43, 49, 48]⟩, ⟨#[102, 111, 114, 109, 97, 116, 32, 57, 57, 120, 53, 48, 120, 53, 48, 43, 53]⟩, ⟨#[102, 111, 114, 109, 97, 116, 32, 120]⟩, ⟨#[108, 101, 110, 103, 116, 104, 32, 53]⟩, ⟨#[108, 101, 110, 103, 116, 104, 32, 48]⟩, ⟨#[104, 101, 105, 103, 104, 116, 32, 51]⟩, ⟨#[104, 101, 105, 103, 104, 116, 32, 50, 48, 49]⟩, ⟨#[104, 101, 105, 103, 104, 116, 32, 121]⟩]
theorem ln4_ok : ∀ x ∈ ln4, Ln x := by decide +kernel
abbrev ln5 : List ByteArray := [⟨#[101, 110, 116, 101, 114, 32, 51, 32, 98, 114, 105, 99, 107, 115, 32, 53, 48, 48]⟩, ⟨#[101, 110, 116, 101, 114, 32, 52, 32, 98, 114, 105, 99, 107, 115, 32, 45, 50, 48]⟩, ⟨#[101, 110, 116, 101, 114, 32, 50, 32, 102, 114, 111, 115, 116, 32, 49]⟩, ⟨#[101, 110, 116, 101, 114, 32, 57, 32, 70, 114, 111, 115, 116, 32, 49]⟩, ⟨#[108, 111, 103]⟩, ⟨#[108, 111, 103, 32, 49]⟩, ⟨#[]⟩, ⟨#[102, 111, 111]⟩]
theorem ln5_ok : ∀ x ∈ ln5, Ln x := by decide +kernel
set_option maxHeartbeats 1600000 in
theorem draw_line (W0 : World) (b : Nat) (v : Value) (bs : List UInt8) (at' seed : Int) (w : World) (hS : Src W0 w b v bs at' seed) (ha : at' ≤ 1000000) :
    Calls Tryz.prog 52 #[.pointer (some ⟨b, 0, none⟩)] w fun e w' => ∃ (x : ByteArray) (at2 seed' : Int), e = .returned (.string x) ∧ Ln x ∧ at' ≤ at2 ∧ at2 ≤ at' + 10 ∧ Src W0 w' b v bs at2 seed' ∧ Chg (fun k => k = b) w w' := by
  have HS := Lib.hid hS; clear hS
  go_enter Tryz.func52, Tryz.ntmps52
  go_wp2_with fail
  refine (src_pick W0 b v bs at' seed 7 _ HS.out (by omega)).mono ?_
  rintro e w1 ⟨x, a2, s2, rfl, hx, h1, h2, HS1, HC1⟩
  have HS1 := Lib.hid HS1
  have HC1 := Lib.hid HC1
  clear hx HS
  by_cases e0 : x = 0
  · subst e0
    go_wp2_with fail
    refine (src_litS W0 b v bs a2 s2 ln0 (by simp) (by simp) w1 HS1.out (by omega) _ _ rfl).mono ?_
    rintro e w2 ⟨y, a3, s3, rfl, hy, h3, h4, HS2, HC2⟩
    have hl := ln0_ok y hy
    clear hy
    go_wp2_with fail
    go_ret
    exact ⟨y, a3, s3, rfl, hl, by omega, by omega, HS2, HC1.out.trans HC2⟩
  by_cases e1 : x = 1
  · subst e1
    go_wp2_with fail
    refine (src_litS W0 b v bs a2 s2 ln1 (by simp) (by simp) w1 HS1.out (by omega) _ _ rfl).mono ?_
    rintro e w2 ⟨y, a3, s3, rfl, hy, h3, h4, HS2, HC2⟩
    have hl := ln1_ok y hy
    clear hy
    go_wp2_with fail
    go_ret
    exact ⟨y, a3, s3, rfl, hl, by omega, by omega, HS2, HC1.out.trans HC2⟩
  by_cases e2 : x = 2
  · subst e2
    go_wp2_with fail
    refine (src_litS W0 b v bs a2 s2 ln1 (by simp) (by simp) w1 HS1.out (by omega) _ _ rfl).mono ?_
    rintro e w2 ⟨y, a3, s3, rfl, hy, h3, h4, HS2, HC2⟩
    have hl := ln1_ok y hy
    clear hy
    go_wp2_with fail
    go_ret
    exact ⟨y, a3, s3, rfl, hl, by omega, by omega, HS2, HC1.out.trans HC2⟩
  by_cases e3 : x = 3
  · subst e3
    go_wp2_with fail
    refine (src_litS W0 b v bs a2 s2 ln2 (by simp) (by simp) w1 HS1.out (by omega) _ _ rfl).mono ?_
    rintro e w2 ⟨y, a3, s3, rfl, hy, h3, h4, HS2, HC2⟩
    have hl := ln2_ok y hy
    clear hy
    go_wp2_with fail
    go_ret
    exact ⟨y, a3, s3, rfl, hl, by omega, by omega, HS2, HC1.out.trans HC2⟩
  by_cases e4 : x = 4
  · subst e4
    go_wp2_with fail
    refine (src_litS W0 b v bs a2 s2 ln3 (by simp) (by simp) w1 HS1.out (by omega) _ _ rfl).mono ?_
    rintro e w2 ⟨y, a3, s3, rfl, hy, h3, h4, HS2, HC2⟩
    have hl := ln3_ok y hy
    clear hy
    go_wp2_with fail
    go_ret
    exact ⟨y, a3, s3, rfl, hl, by omega, by omega, HS2, HC1.out.trans HC2⟩
  by_cases e5 : x = 5
  · subst e5
    go_wp2_with fail
    refine (src_litS W0 b v bs a2 s2 ln4 (by simp) (by simp) w1 HS1.out (by omega) _ _ rfl).mono ?_
    rintro e w2 ⟨y, a3, s3, rfl, hy, h3, h4, HS2, HC2⟩
    have hl := ln4_ok y hy
    clear hy
    go_wp2_with fail
    go_ret
    exact ⟨y, a3, s3, rfl, hl, by omega, by omega, HS2, HC1.out.trans HC2⟩
  have b0 : (x == 0) = false := by simpa using e0
  have b1 : (x == 1) = false := by simpa using e1
  have b2 : (x == 2) = false := by simpa using e2
  have b3 : (x == 3) = false := by simpa using e3
  have b4 : (x == 4) = false := by simpa using e4
  have b5 : (x == 5) = false := by simpa using e5
  go_wp2_with fail
  refine (src_litS W0 b v bs a2 s2 ln5 (by simp) (by simp) w1 HS1.out (by omega) _ _ rfl).mono ?_
  rintro e w2 ⟨y, a3, s3, rfl, hy, h3, h4, HS2, HC2⟩
  have hl := ln5_ok y hy
  clear hy
  go_wp2_with fail
  go_ret
  exact ⟨y, a3, s3, rfl, hl, by omega, by omega, HS2, HC1.out.trans HC2⟩

/-- What stands while lines are drawn. -/
structure DL (W0 w w' : World) (b : Nat) (v : Value) (bs : List UInt8) (at' seed : Int) (u : Value) (l : List ByteArray) : Prop where
  src : Src W0 w' b v bs at' seed
  own : OStr w' w.heap.size u l
  all : ∀ x ∈ l, Ln x
  chg : Chg (fun k => k = b) w w'
  hb : b < w.heap.size
  hw : W0.heap.size ≤ w.heap.size
theorem chg_joinL {S T : Nat → Prop} {a b c : World} (h : Chg S a b) (k : Chg T b c) (hT : ∀ i, T i → a.heap.size ≤ i) : Chg S a c :=
  ⟨k.os.trans h.os, k.tape.trans h.tape, k.output.trans h.output, Nat.le_trans h.size k.size, fun i hi hn => (k.block i (Nat.lt_of_lt_of_le hi h.size) (fun ht => by have := hT i ht; omega)).trans (h.block i hi hn)⟩
theorem DL.pick {W0 w w' w'' : World} {b : Nat} {v : Value} {bs : List UInt8} {at' seed at2 seed2 : Int} {u : Value} {l : List ByteArray} (h : DL W0 w w' b v bs at' seed u l) (hs : Src W0 w'' b v bs at2 seed2) (hc : Chg (fun k => k = b) w' w'') : DL W0 w w'' b v bs at2 seed2 u l :=
  ⟨hs, h.own.chg hc (fun k hk e => by have := (h.own.ge k hk).1; have := h.hb; omega), h.all, h.chg.trans hc, h.hb, h.hw⟩
theorem DL.push {W0 w w' w'' : World} {b : Nat} {v : Value} {bs : List UInt8} {at' seed : Int} {u : Value} {l : List ByteArray} (h : DL W0 w w' b v bs at' seed u l) {u2 : Value} {x : ByteArray} (hO : OStr w'' w.heap.size u2 (l ++ [x])) (hc : Chg (BI u) w' w'') (hx : Ln x) : DL W0 w w'' b v bs at' seed u2 (l ++ [x]) :=
  ⟨h.src.turn hc (fun k hk => by have := (h.own.ge k hk).1; have := h.hw; omega) (fun hk => by have := (h.own.ge b hk).1; have := h.hb; omega), hO,
    fun y hy => by rcases List.mem_append.1 hy with hy | hy; exact h.all y hy; obtain rfl := List.mem_singleton.1 hy; exact hx,
    chg_joinL h.chg hc (fun k hk => (h.own.ge k hk).1), h.hb, h.hw⟩
set_option maxHeartbeats 1600000 in
theorem a2_lines (v : Value) (bs : List UInt8) (w : World) (hR : RB w v bs) :
    Calls Tryz.prog 19 #[v] w fun e w' => ∃ (A : Option Addr) (c : Nat) (l : List ByteArray), e = .returned (.slice A l.length c) ∧ l.length ≤ 12 ∧ (∀ x ∈ l, Ln x) ∧ OStr w' w.heap.size (.slice A l.length c) l ∧ Below w.heap.size w w' := by
  have HR := Lib.hid hR; clear hR
  go_enter Tryz.func19, Tryz.ntmps19
  go_wp2_with fail
  refine (src_start v bs _ HR.out).mono ?_
  rintro e w1 ⟨b, rfl, hS, hB⟩
  have HS1 := Lib.hid hS
  have HB1 := Lib.hid hB
  have hbl := hS.lt
  have hwl := hS.old.size
  have hlo := hS.low
  clear hS hB HR
  go_wp2_with fail
  have HD0 : Hid (DL w w1 (w1.alloc (.cells #[] 9)) b v bs 0 0 (.slice (some ⟨w1.heap.size, 0, none⟩) 0 0) []) :=
    Lib.hid ⟨HS1.out.turn (Chg.of_below (ext_alloc1 _ _) (fun _ => False)) (fun _ h => h.elim) (fun h => h), ostr_lit w1 _ (Nat.le_refl _), fun x hx => (by cases hx), Chg.of_below (ext_alloc1 _ _) _, hbl, hwl⟩
  refine (src_pick w b v bs 0 0 13 _ HD0.out.src (by omega)).mono ?_
  rintro e w2 ⟨y, a2, s2, rfl, hx, h1, h2, HS2, HC2⟩
  have HD2 := Lib.hid (HD0.out.pick HS2 HC2)
  have hy1 : 0 ≤ y ∧ y ≤ 12 := ⟨hx.1, by have := hx.2.2.1 (by omega); omega⟩
  clear hx HS2 HC2 HD0 HS1
  go_wp2_with fail
  go_loopw [4, 5] (fun r t wr => ∃ (j : Int) (l : List ByteArray) (A : Option Addr) (c : Nat) (at3 sd3 : Int), 0 ≤ j ∧ j + l.length ≤ y ∧ t = .int .i64 j ∧ r = .slice A l.length c ∧ a2 ≤ at3 ∧ at3 ≤ a2 + 12 * (y - j) ∧ Hid (DL w w1 wr b v bs at3 sd3 (.slice A l.length c) l)) (fun _ t _ => (intOf t).toNat)
  case atStart => exact ⟨y, [], _, 0, a2, s2, by omega, by simp, rfl, rfl, Int.le_refl _, by omega, HD2.out⟩
  case round =>
    obtain ⟨j, l, A, c, at3, sd3, hj, hjx, rfl, rfl, ht1, ht2, HD⟩ := hrel
    have hll : l.length ≤ 12 := by omega
    by_cases hj0 : 0 < j
    · go_wp2_with fail
      refine (draw_line w b v bs at3 sd3 _ HD.out.src (by omega)).mono ?_
      rintro e w3 ⟨x, at4, sd4, rfl, hxl, hq1, hq2, HS3, HC3⟩
      have HD3 := Lib.hid (HD.out.pick HS3 HC3)
      have hz3 : w1.heap.size ≤ w3.heap.size := HD3.out.chg.size
      clear HS3 HC3 HD
      go_wp2_with (at_builtin; refine wpList_append_str rfl _ _ rfl w1.heap.size (.slice A l.length c) l x rfl rfl HD3.out.own (by omega) hz3 ?_; intro g c5 w5 hO5 hg5 hlt5)
      go_roundw
      case rel => exact ⟨j - 1, l ++ [x], some ⟨g, 0, none⟩, c5, at4, sd4, by omega, by rw [List.length_append]; simp; omega, congrArg (Value.int .i64) (by omega), by rw [List.length_append]; rfl, by omega, by omega, by rw [List.length_append]; exact HD3.out.push hO5 hg5 hxl⟩
      case measure => simp [intOf]; omega
    · have e0 : ¬ (0:Int) < j := hj0
      go_wp2_with fail
      go_ret
      exact ⟨A, c, l, rfl, hll, HD.out.all, HD.out.own.mono hwl, Chg.ext HB1.out HD.out.chg (fun k hk => by subst hk; exact hlo)⟩
end Go.Proofs.YtfgopboddkhckaaGreatDoor
namespace Go.Proofs.YtfgopboddkhckaaGreatDoor
open Go.ChangeShapes Go.WideShapes Go.ChangeAt Go.RowKit Go.Sort Go.Joins
set_option linter.unusedVariables false
set_option maxRecDepth 100000

theorem a2_long1 (v0 : Value) (x0 : List UInt8) (w : World) (h0 : RB w v0 x0) :
    Calls Tryz.prog 18 #[v0, .slice none 0 0] w (RetP (.bool (decide (3000 < x0.length))) w) := by
  obtain ⟨A, c, rfl, hc1, hc2, _⟩ := h0.open_
  clear h0
  unfold maxLen at hc2
  by_cases h : 3000 < x0.length
  · have HX : Hid (decide (3000 < x0.length) = true) := Lib.hid (decide_eq_true h)
    have e1 : (3000:Int) < x0.length := by omega
    go_enter Tryz.func18, Tryz.ntmps18
    go_wp2_with fail
    go_ret
    exact ⟨ret_bool HX.out.symm, rfl⟩
  · have HX : Hid (decide (3000 < x0.length) = false) := Lib.hid (decide_eq_false h)
    have e1 : ¬ (3000:Int) < x0.length := by omega
    go_enter Tryz.func18, Tryz.ntmps18
    go_wp2_with fail
    go_ret
    first | exact ⟨ret_bool HX.out.symm, rfl⟩ | exact ⟨rfl, rfl⟩
theorem mDT_ok2 {d : DK} (h : vDK d = true) : mDeskText d = dkT d := by unfold mDeskText; rw [h]; rfl
theorem lnA_q (o : List ByteArray) : lnA (o ++ [quest]) = lnA o ++ ⟨#[63, 10]⟩ := by
  rw [lnA_snoc, ByteArray.append_assoc]
  rfl
theorem lnA_take {o m : List ByteArray} {k : Nat} (h : k < m.length) : lnA (o ++ m.take (k + 1)) = lnA (o ++ m.take k) ++ (gd m k ++ ⟨#[10]⟩) := by
  rw [take_gd h, ← List.append_assoc, lnA_snoc, ByteArray.append_assoc]
theorem dkT_ne (d : DK) : (dkT d).toList.isEmpty = false := by
  rw [emptS, decide_eq_false]
  intro h
  unfold dkT at h
  simp only [ByteArray.size_append] at h
  have h2 : (⟨#[32, 99, 111, 117, 114, 115, 101, 115]⟩ : ByteArray).size = 8 := rfl
  omega
theorem lnA_size {o : List ByteArray} {k : Nat} (h : OutK o k) : (lnA o).size ≤ 4001 * o.length := lnK_size h.z _ (Nat.le_refl _)
theorem DB.fresh8 {W1 : World} {B0 H : Nat} {d : DK} {A : Option Addr} {c : Nat} {B : Option Addr} {e : Nat} {y0 y1 y2 y3 y4 y5 y6 y7 : Value} (z0 : W1.cell? ⟨H, 0, none⟩ = some y0) (z1 : W1.cell? ⟨H, 1, none⟩ = some y1) (z2 : W1.cell? ⟨H, 2, none⟩ = some y2) (z3 : W1.cell? ⟨H, 3, none⟩ = some y3) (z4 : W1.cell? ⟨H, 4, none⟩ = some y4) (z5 : W1.cell? ⟨H, 5, none⟩ = some y5) (z6 : W1.cell? ⟨H, 6, none⟩ = some y6) (z7 : W1.cell? ⟨H, 7, none⟩ = some y7) (hf : ∀ j, W1.frozen? ⟨H, j, none⟩ = false)
    (hod : ODKp W1 (H + 1) (.slice A d.cs.length c) (.slice B d.wall.length e) d) (hB : B0 ≤ H) : DB (D8 W1 H d A c B e) B0 H d A c B e := by
  have hD := dr_put W1 H z0 z1 z2 z3 z4 z5 z6 z7 (.int .i64 d.f.l) (.int .i64 d.f.w) (.int .i64 d.f.h) (.int .i64 d.f.j) (.string d.nm) (.slice A d.cs.length c) (.slice B d.wall.length e) (.string d.log)
  have h1 : ∀ k, BI (.slice A d.cs.length c) k → k ≠ H := fun k hk => by have := (hod.1.ge k hk).1; omega
  have h2 : ∀ k, BI (.slice B d.wall.length e) k → k ≠ H := fun k hk => by have := (hod.2.1.ge k hk).1; omega
  exact ⟨⟨hD.r0, hD.r1, hD.r2, hD.r3, hD.r4, hD.r5, hD.r6, hD.r7⟩, ⟨(hod.1.chg hD.c (fun k hk e => h1 k hk e)).mono (by omega), (hod.2.1.chg hD.c (fun k hk e => h2 k hk e)).mono (by omega), hod.2.2⟩, h1, h2, fun j => by simp only [D8, P8, World.frozen?_setCell]; exact hf j, hB⟩
theorem DB.new8 {W1 : World} {B0 : Nat} {d : DK} {A : Option Addr} {c : Nat} {B : Option Addr} {e : Nat} (hod : ODKp W1 B0 (.slice A d.cs.length c) (.slice B d.wall.length e) d) (hB : B0 ≤ W1.heap.size) : DB (W1.alloc (Z8 d A c B e)) B0 W1.heap.size d A c B e :=
  ⟨PDK.new W1 d A c B e _, hod.ext (ext_alloc1 _ _), fun k hk e => by have := (hod.1.ge k hk).2; omega, fun k hk e => by have := (hod.2.1.ge k hk).2; omega, fun j => by simp [go_sem], hB⟩
set_option maxHeartbeats 12800000 in
theorem law_FnConsole0 (hDC : ∀ w, EnvK w → DCmd w) (v : Value) (x : List UInt8) (w : World) (hE : EnvK w) (hR : RB w v x) :
    Calls Tryz.prog 5 #[v] w (Ret (.bool true) w) := by
  have HE := Lib.hid (fun W (h : Below w.heap.size w W) => hE.ext h)
  have HR := Lib.hid hR
  have HDC := Lib.hid hDC
  clear hR hE hDC
  go_enter Tryz.func5, Tryz.ntmps5
  go_wp2_with fail
  refine (a2_long1 v x _ HR.out).mono ?_
  rintro e w1 ⟨rfl, rfl⟩
  cases hlg : decide (3000 < x.length) with
  | true =>
    clear hlg
    go_wp2_with fail
    go_ret
    exact ⟨rfl, ext_refl _⟩
  | false =>
  clear hlg
  go_wp2_with fail
  refine (a2_lines v x _ HR.out).mono ?_
  rintro e w2 ⟨Al, cl, l, rfl, hl, hln, hO, hb⟩
  have HLN := Lib.hid hln
  have HRL := Lib.hid (fun W' (h : Below w2.heap.size w2 W') => hO.rd.ext h)
  have HB2 := Lib.hid hb
  clear hln hO hb HR
  go_wp2_with fail
  refine (impl_NewDesk _ ⟨(HE.out _ HB2.out).env.shp, (HE.out _ HB2.out).lib⟩).mono ?_
  rintro e w3 ⟨v3, rfl, ⟨A, c, B, e, rfl, hod⟩, hsm, hb3⟩
  obtain ⟨d0, hd0⟩ : ∃ d, newD = d := ⟨_, rfl⟩
  rw [hd0] at hod
  have HRUN : Hid (runK l 0 = (d0, [])) := Lib.hid (by rw [← hd0]; rfl)
  simp only [hd0]
  have HD0 : Hid (DB (w3.alloc (Z8 d0 A c B e)) w2.heap.size w3.heap.size d0 A c B e) := Lib.hid
    ⟨PDK.new w3 d0 A c B e _, hod.ext (ext_alloc1 _ _), fun k hk e => by have := (hod.1.ge k hk).2; omega, fun k hk e => by have := (hod.2.1.ge k hk).2; omega, fun j => by simp [go_sem], hb3.size⟩
  have HB3 := Lib.hid (ext_alloc hb3 (Z8 d0 A c B e))
  clear hod hsm hd0 hb3
  go_wp2_with fail
  obtain ⟨q, hq⟩ : ∃ q, w3.heap.size = q := ⟨_, rfl⟩
  obtain ⟨w4, hw4⟩ : ∃ x, w3.alloc (Z8 d0 A c B e) = x := ⟨_, rfl⟩
  rw [hw4] at HD0 HB3
  rw [hq] at HD0
  simp only [hq]
  rw [hw4]
  clear hw4 hq
  have HSZL := Lib.hid (lnA_line HLN.out)
  go_loopw [5, 6, 7, 8, 9, 10, 11] (fun t u i _ _ _ _ wr => ∃ (k : Nat) (text want : ByteArray) (o : List ByteArray) (d : DK) (A2 : Option Addr) (c2 : Nat) (B2 : Option Addr) (e2 : Nat), k ≤ l.length ∧ i = .int .i64 k ∧ t = .string text ∧ u = .string want ∧ Hid (text = lnK l k) ∧ Hid (want = lnA o) ∧ Hid (runK l k = (d, o)) ∧ Hid (DB wr w2.heap.size q d A2 c2 B2 e2) ∧ Hid (Below w2.heap.size w2 wr)) (fun _ _ i _ _ _ _ _ => l.length - (intOf i).toNat)
  case atStart => exact ⟨0, ⟨#[]⟩, ⟨#[]⟩, [], d0, A, c, B, e, Nat.zero_le _, rfl, rfl, rfl, Lib.hid rfl, Lib.hid rfl, HRUN, HD0, HB3⟩
  case round =>
    obtain ⟨k, text, want, o, d, A2, c2, B2, e2, hk, rfl, rfl, rfl, HTX, HWA, HRK, HDB, HBW⟩ := hrel
    have e1 : (0 : Int) ≤ k := by omega
    by_cases hlt : k < l.length
    · have e2' : (k : Int) < l.length := by omega
      obtain ⟨ad, rfl, hadl, hcl⟩ := (HRL.out wr HBW.out).at hlt
      have wl := hcl k hlt
      clear hcl
      obtain ⟨line, hline⟩ : ∃ x, gd l k = x := ⟨_, rfl⟩
      have hlz := (HLN.out _ (gd_mem hlt)).1
      rw [hline] at wl hlz
      have HLI := Lib.hid hline
      have HV : Hid (vDK d = true) := Lib.hid (by have := (run_ok l k).1; rw [HRK.out] at this; exact this)
      have HTX2 : Hid (text ++ (line ++ ⟨#[10]⟩) = lnK l (k + 1)) := Lib.hid (by rw [HTX.out]; show lnK l k ++ (line ++ ⟨#[10]⟩) = lnK l k ++ gd l k ++ ⟨#[10]⟩; rw [← hline, ByteArray.append_assoc])
      have htz : text.size ≤ 300 := by
        have h1 : ∀ j, j ≤ l.length → (lnK l j).size ≤ 25 * j := by
          intro j
          induction j with
          | zero => intro _; exact Nat.le_refl _
          | succ j ih =>
            intro hj
            have h1 := ih (by omega)
            have h2 := (HLN.out _ (gd_mem (show j < l.length by omega))).1
            show (lnK l j ++ gd l j ++ ⟨#[10]⟩).size ≤ _
            rw [ByteArray.size_append, ByteArray.size_append]
            have h3 : (⟨#[10]⟩ : ByteArray).size = 1 := rfl
            omega
        have := h1 k hk
        rw [HTX.out]
        omega
      have s1 : ¬ 9223372036854775807 < line.size + 1 := by omega
      have s2 : ¬ 9223372036854775807 < text.size + (line.size + 1) := by omega
      have hwz : want.size ≤ 4001 * (4001 * 60 + 1) := by
        have h1 := lnA_size (outK_run l k)
        have h2 := (outK_run l k).n
        rw [HRK.out] at h1 h2
        rw [HWA.out]
        simp only at h1 h2
        have h3 : o.length ≤ 4001 * 60 + 1 := by omega
        have h4 := Nat.mul_le_mul_left 4001 h3
        omega
      have HBA := Lib.hid (ext_trans HB2.out HBW.out)
      have HRD : Hid (RDK wr (.agg #[.int .i64 d.f.l, .int .i64 d.f.w, .int .i64 d.f.h, .int .i64 d.f.j, .string d.nm, .slice A2 d.cs.length c2, .slice B2 d.wall.length e2, .string d.log]) d) := Lib.hid ⟨A2, c2, B2, e2, rfl, HDB.out.own.1.rd, HDB.out.own.2.1.rd⟩
      have HCALL := Lib.hid (fun W' (h : Below wr.heap.size wr W') => HDC.out W' (HE.out _ (ext_trans HBA.out h)) _ d line W' (ext_refl _) (HRD.out.ext h) (vDK_sm HV.out) (by omega))
      obtain ⟨k0, k1, k2, k3, k4, k5, k6, k7⟩ := HDB.out.cells
      have hql := HDB.out.lt
      have hqn : q ≠ wr.heap.size := by omega
      have hadn : (ad.add k).block ≠ wr.heap.size := by have := block_lt_of_cell wl; omega
      clear hline htz hlz
      obtain ⟨r, hr⟩ : ∃ x, mDesk d line = x := ⟨_, rfl⟩
      have HR := Lib.hid hr
      rw [hr] at HCALL
      clear hr
      obtain ⟨d3, l3, y⟩ := r
      replace HCALL : Hid (∀ W', Below wr.heap.size wr W' → Calls Tryz.prog 11 #[.agg #[.int .i64 d.f.l, .int .i64 d.f.w, .int .i64 d.f.h, .int .i64 d.f.j, .string d.nm, .slice A2 d.cs.length c2, .slice B2 d.wall.length e2, .string d.log], .string line] W' (fun e w' => ∃ A3 c3 B3 e3 lv, e = .returned (.tuple #[.agg #[.int .i64 d3.f.l, .int .i64 d3.f.w, .int .i64 d3.f.h, .int .i64 d3.f.j, .string d3.nm, .slice A3 d3.cs.length c3, .slice B3 d3.wall.length e3, .string d3.log], lv, .int .i64 y]) ∧ ODKp w' W'.heap.size (.slice A3 d3.cs.length c3) (.slice B3 d3.wall.length e3) d3 ∧ OStr w' W'.heap.size lv l3 ∧ Below W'.heap.size W' w')) := Lib.hid fun W' h => (HCALL.out W' h).mono (by
        rintro e' w6 ⟨dv, lv, rfl, ⟨A3, c3, B3, e3, rfl, hod⟩, hol, _, hb6⟩
        exact ⟨A3, c3, B3, e3, lv, rfl, hod, hol, hb6⟩)
      go_upto_region 11 with fail
      go_cut [8, 9, 10] from 30 to 39 (fun u v2 y2 wx => ∃ g A3 c3 B3 e3 lv, u = .pointer (some ⟨g, 0, none⟩) ∧ v2 = lv ∧ y2 = .int .i64 y ∧ Hid (DB wx wr.heap.size g d3 A3 c3 B3 e3) ∧ Hid (OStr wx wr.heap.size lv l3) ∧ Hid (Below wr.heap.size wr wx))
      case first =>
        clear HE HLN HRL HB2 HSZL HTX HWA HRK HDB HBW HLI HV HTX2 HBA HRD HR s1 s2 hwz hl HB3 HD0 HRUN
        have hz : wr.drew.heap.size = wr.heap.size := rfl
        have ka0 := fun o => cell_keep k0 (ext_alloc1 wr o)
        have ka1 := fun o => cell_keep k1 (ext_alloc1 wr o)
        have ka2 := fun o => cell_keep k2 (ext_alloc1 wr o)
        have ka3 := fun o => cell_keep k3 (ext_alloc1 wr o)
        have ka4 := fun o => cell_keep k4 (ext_alloc1 wr o)
        have ka5 := fun o => cell_keep k5 (ext_alloc1 wr o)
        have ka6 := fun o => cell_keep k6 (ext_alloc1 wr o)
        have ka7 := fun o => cell_keep k7 (ext_alloc1 wr o)
        have wa := fun o => cell_keep wl (ext_alloc1 wr o)
        have hqm := hqn.symm
        have hadm := hadn.symm
        have adz : (ad.add k).block < wr.heap.size := block_lt_of_cell wl
        first
          | go_region_law (first
            | (go_simp; go_at_call 11; refine (show Calls _ _ _ (World.drew (World.alloc _ _)) _ from HCALL.out _ (ext_drew (ext_alloc1 _ _))).mono ?_; rintro e W1 ⟨A3, c3, B3, e3, lv, rfl, hod, hol, hb6⟩; (have y0 : W1.cell? ⟨wr.heap.size, 0, none⟩ = some (.int .i64 0) := cell_keep (by simp [go_sem]) hb6); (have y1 : W1.cell? ⟨wr.heap.size, 1, none⟩ = some (.int .i64 0) := cell_keep (by simp [go_sem]) hb6); (have y2 : W1.cell? ⟨wr.heap.size, 2, none⟩ = some (.int .i64 0) := cell_keep (by simp [go_sem]) hb6); (have y3 : W1.cell? ⟨wr.heap.size, 3, none⟩ = some (.int .i64 0) := cell_keep (by simp [go_sem]) hb6); (have y4 : W1.cell? ⟨wr.heap.size, 4, none⟩ = some (.string ⟨#[]⟩) := cell_keep (by simp [go_sem]) hb6); (have y5 : W1.cell? ⟨wr.heap.size, 5, none⟩ = some (.slice none 0 0) := cell_keep (by simp [go_sem]) hb6); (have y6 : W1.cell? ⟨wr.heap.size, 6, none⟩ = some (.slice none 0 0) := cell_keep (by simp [go_sem]) hb6); (have y7 : W1.cell? ⟨wr.heap.size, 7, none⟩ = some (.string ⟨#[]⟩) := cell_keep (by simp [go_sem]) hb6); (have yf : ∀ j, W1.frozen? ⟨wr.heap.size, j, none⟩ = false := fun j => by rw [(bcell hb6).2 _ _ (by simp)]; simp [go_sem]); (have HOD := Lib.hid hod); (have HOL := Lib.hid hol); (have HB := Lib.hid (ext_trans (ext_drew (ext_alloc1 _ _)) hb6)); clear hod hol hb6; dsimp only)
            | (go_simp; go_at_call 11; refine (show Calls _ _ _ (World.drew _) _ from HCALL.out _ (ext_drew (ext_refl _))).mono ?_; rintro e W1 ⟨A3, c3, B3, e3, lv, rfl, hod, hol, hb6⟩; (have HOD := Lib.hid hod); (have HOL := Lib.hid hol); (have HB := Lib.hid (ext_trans (ext_drew (ext_refl _)) hb6)); clear hod hol hb6; dsimp only))
          | fail
        all_goals
          go_wp2_with fail
          go_meet
          have hs1 := HB.out.size
          first
            | (have hy0 := y0; exact ⟨wr.heap.size, A3, c3, B3, e3, lv, rfl, rfl, rfl, Lib.hid (DB.fresh8 y0 y1 y2 y3 y4 y5 y6 y7 yf (by simpa using HOD.out) (Nat.le_refl _)), Lib.hid ((HOL.out.chg (chg8 _ _ _ _ _ _ _ _ _ _) (fun k hk e => by have := (HOL.out.ge k hk).1; simp at this; omega)).mono (by simp)), Lib.hid (Chg.ext HB.out (chg8 _ _ _ _ _ _ _ _ _ _) (fun k hk => by subst hk; exact Nat.le_refl _))⟩)
            | exact ⟨W1.heap.size, A3, c3, B3, e3, lv, rfl, rfl, rfl, Lib.hid (DB.new8 HOD.out hs1), Lib.hid (HOL.out.ext (ext_alloc1 _ _)), Lib.hid (ext_alloc HB.out _)⟩
      case rest =>
        obtain ⟨g, A3, c3, B3, e3, lv, rfl, rfl, rfl, HDG, HOL, HB⟩ := hcut
        clear k0 k1 k2 k3 k4 k5 k6 k7 wl HCALL HRD
        cases hm : mDo d line with
        | none =>
          have h := HR.out.symm.trans (mDesk_q HV.out hm)
          injection h with h1 h
          injection h with h2 h3
          subst h3
          have HRK2 := Lib.hid (runK_none HRK.out (by rw [HLI.out]; exact hm))
          have s3 : ¬ 9223372036854775807 < want.size + 2 := by omega
          clear hm h1 h2
          go_wp2_with fail
          go_roundw
          case rel => exact ⟨k + 1, text ++ (line ++ ⟨#[10]⟩), want ++ ⟨#[63, 10]⟩, o ++ [quest], d, A2, c2, B2, e2, hlt, by go_num, rfl, rfl, HTX2, Lib.hid (by rw [lnA_q, HWA.out]), HRK2, Lib.hid (HDB.out.ext HB.out), Lib.hid (ext_trans HBW.out HB.out)⟩
          case measure => simp [intOf]; omega
        | some p =>
          obtain ⟨d4, l4⟩ := p
          have h := HR.out.symm.trans (mDesk_p HV.out hm)
          injection h with h1 h
          injection h with h2 h3
          subst h3
          have h1 : d3 = d4 := h1
          have h2 : l3 = l4 := h2
          subst h1
          subst h2
          have hdo := do_ok HV.out hm
          have HV3 : Hid (vDK d3 = true) := Lib.hid hdo.1
          have HSY : Hid (Say l3) := Lib.hid hdo.2
          have HRK2 : Hid (runK l (k + 1) = (d3, o ++ l3)) := Lib.hid (runK_some HRK.out (by rw [HLI.out]; exact hm))
          clear hm hdo
          obtain ⟨Av, cv, rfl, hv1, hv2⟩ := HOL.out.rd.open_
          unfold maxLen at hv2
          have n1 : 1 ≤ l3.length := HSY.out.1
          have n1i : ¬ (l3.length : Int) < 1 := by omega
          have n1j : decide (l3.length < 1) = false := decide_eq_false (by omega)
          obtain ⟨g0, g1, g2, g3, g4, g5, g6, g7⟩ := HDG.out.cells
          have HRD : Hid (RDK wc (.agg #[.int .i64 d3.f.l, .int .i64 d3.f.w, .int .i64 d3.f.h, .int .i64 d3.f.j, .string d3.nm, .slice A3 d3.cs.length c3, .slice B3 d3.wall.length e3, .string d3.log]) d3) := Lib.hid ⟨A3, c3, B3, e3, rfl, HDG.out.own.1.rd, HDG.out.own.2.1.rd⟩
          have HVD := Lib.hid (spec_ValidDesk _ d3 wc HRD.out (vDK_sm HV3.out) (HE.out _ (ext_trans HBA.out HB.out)).env)
          rw [HV3.out] at HVD
          have HDT := Lib.hid (fun W' (h : Below wc.heap.size wc W') => impl_DeskText _ d3 W' (HRD.out.ext h) (vDK_sm HV3.out) (HE.out _ (ext_trans (ext_trans HBA.out HB.out) h)).env)
          rw [mDT_ok2 HV3.out] at HDT
          have hne := dkT_ne d3
          obtain ⟨dt, hdt⟩ : ∃ x, dkT d3 = x := ⟨_, rfl⟩
          rw [hdt] at HDT hne
          clear hdt
          go_wp2_with fail
          refine (show Calls _ _ _ _ _ from HVD.out).mono ?_
          rintro e w6 ⟨rfl, hb6⟩
          have HB6 := Lib.hid hb6
          clear hb6
          replace g0 := cell_keep g0 HB6.out
          replace g1 := cell_keep g1 HB6.out
          replace g2 := cell_keep g2 HB6.out
          replace g3 := cell_keep g3 HB6.out
          replace g4 := cell_keep g4 HB6.out
          replace g5 := cell_keep g5 HB6.out
          replace g6 := cell_keep g6 HB6.out
          replace g7 := cell_keep g7 HB6.out
          go_wp2_with fail
          refine (show Calls _ _ _ _ _ from HDT.out _ HB6.out).mono ?_
          rintro e w7 ⟨rfl, hb7⟩
          have HB7 := Lib.hid (ext_trans HB6.out hb7)
          clear hb7 g0 g1 g2 g3 g4 g5 g6 g7
          go_wp2_with fail
          have HRL7 := Lib.hid (fun W' (h : Below w7.heap.size w7 W') => HOL.out.rd.ext (ext_trans HB7.out h))
          have HDG7 := Lib.hid (fun W' (h : Below w7.heap.size w7 W') => HDG.out.ext (ext_trans HB7.out h))
          have HLS : Hid (∀ m, m ≤ l3.length → (lnA (o ++ l3.take m)).size ≤ 4001 * 300000) := Lib.hid (fun m hm => by
            have ha : ∀ t ∈ o ++ l3.take m, t.size ≤ 4000 := fun t ht => by
              rcases List.mem_append.1 ht with h | h
              · have := (outK_run l k).z t (by rw [HRK.out]; exact h)
                exact this
              · exact HSY.out.2.2 t (List.mem_of_mem_take h)
            have h1 := lnK_size ha _ (Nat.le_refl _)
            have h2 : (o ++ l3.take m).length ≤ 300000 := by
              have h3 := (outK_run l k).n
              rw [HRK.out] at h3
              simp only at h3
              have h4 := HSY.out.2.1
              rw [List.length_append, List.length_take]
              omega
            have h5 := Nat.mul_le_mul_left 4001 h2
            show (lnK _ _).size ≤ _
            omega)
          go_loopw [6, 11] (fun u j ws => ∃ (m : Nat) (acc : ByteArray), m ≤ l3.length ∧ j = .int .i64 m ∧ u = .string acc ∧ Hid (acc = lnA (o ++ l3.take m)) ∧ Hid (Below w7.heap.size w7 ws)) (fun _ j _ => l3.length - (intOf j).toNat)
          case atStart => exact ⟨0, want, Nat.zero_le _, rfl, rfl, Lib.hid (by rw [List.take_zero, List.append_nil, HWA.out]), Lib.hid (ext_refl _)⟩
          case round =>
            obtain ⟨m, acc, hm, rfl, rfl, HACC, HBI⟩ := hrel
            have f1 : (0 : Int) ≤ m := by omega
            by_cases hmt : m < l3.length
            · have f2 : (m : Int) < l3.length := by omega
              obtain ⟨bd, rfl, _, hcl⟩ := (HRL7.out wr HBI.out).at hmt
              have wl := hcl m hmt
              have z1 := HLS.out m hm
              rw [← HACC.out] at z1
              have z2 := HSY.out.2.2 _ (gd_mem hmt)
              have HNX := Lib.hid (lnA_take (o := o) hmt)
              obtain ⟨lx, hlx⟩ : ∃ x, gd l3 m = x := ⟨_, rfl⟩
              rw [hlx] at wl z2 HNX
              have s3 : ¬ 9223372036854775807 < lx.size + 1 := by omega
              have s4 : ¬ 9223372036854775807 < acc.size + (lx.size + 1) := by omega
              clear hcl hlx z1 z2
              go_wp2_with fail
              go_roundw
              case rel => exact ⟨m + 1, acc ++ (lx ++ ⟨#[10]⟩), hmt, by go_num, rfl, Lib.hid (by rw [HNX.out, HACC.out]), HBI⟩
              case measure => simp [intOf]; omega
            · have f2 : ¬ (m : Int) < l3.length := by omega
              obtain rfl : m = l3.length := by omega
              have hD := HDG7.out wr HBI.out
              have hq7 : q < wr.heap.size := by have := HDB.out.lt; have := (ext_trans (ext_trans HB.out HB7.out) HBI.out).size; omega
              have HBS := Lib.hid (ext_trans (ext_trans HB.out HB7.out) HBI.out)
              have HQ := Lib.hid (HDB.out.ext HBS.out)
              have hgq : g ≠ q := by have := hD.ge; have := HDB.out.lt; omega
              obtain ⟨g0, g1, g2, g3, g4, g5, g6, g7⟩ := hD.cells
              obtain ⟨z0, z1, z2, z3, z4, z5, z6, z7⟩ := HQ.out.cells
              have zf := HQ.out.fz
              have HDG8 := Lib.hid hD
              have HDF : Hid (DB (D8 wr q d3 A3 c3 B3 e3) w2.heap.size q d3 A3 c3 B3 e3) := Lib.hid (by
                have hd := dr_put wr q z0 z1 z2 z3 z4 z5 z6 z7 (.int .i64 d3.f.l) (.int .i64 d3.f.w) (.int .i64 d3.f.h) (.int .i64 d3.f.j) (.string d3.nm) (.slice A3 d3.cs.length c3) (.slice B3 d3.wall.length e3) (.string d3.log)
                have hql := HDB.out.lt
                have hwb := HBW.out.size
                have a1 : ∀ k, BI (.slice A3 d3.cs.length c3) k → k ≠ q := fun k hk => by have := (HDG8.out.own.1.ge k hk).1; omega
                have a2 : ∀ k, BI (.slice B3 d3.wall.length e3) k → k ≠ q := fun k hk => by have := (HDG8.out.own.2.1.ge k hk).1; omega
                exact ⟨⟨hd.r0, hd.r1, hd.r2, hd.r3, hd.r4, hd.r5, hd.r6, hd.r7⟩, ⟨(HDG8.out.own.1.chg hd.c (fun k hk e => a1 k hk e)).mono hwb, (HDG8.out.own.2.1.chg hd.c (fun k hk e => a2 k hk e)).mono hwb, HDG8.out.own.2.2⟩, a1, a2, fun j => by simp only [D8, P8, World.frozen?_setCell]; exact zf j, HDB.out.ge⟩)
              have HBF : Hid (Below w2.heap.size w2 (D8 wr q d3 A3 c3 B3 e3)) := Lib.hid (Chg.ext (ext_trans HBW.out HBS.out) (chg8 wr q _ _ _ _ _ _ _ _) (fun k hk => by subst hk; exact HDB.out.ge))
              have HWN : Hid (acc = lnA (o ++ l3)) := Lib.hid (by rw [HACC.out, List.take_length])
              go_wp2_with fail
              go_roundw
              case rel => exact ⟨k + 1, text ++ (line ++ ⟨#[10]⟩), acc, o ++ l3, d3, A3, c3, B3, e3, hlt, by go_num, rfl, rfl, HTX2, HWN, HRK2, HDF, HBF⟩
              case measure => simp [intOf]; omega
    · have e2' : ¬ (k : Int) < l.length := by omega
      have hkl : k = l.length := by omega
      have HF : Hid (mRun text = want) := Lib.hid (by
        rw [HTX.out, hkl]
        show mRun (lnA l) = want
        rw [mRun_eq, lines_back HLN.out, outOf_all (d := d) (o := o) (by omega) (by rw [← hkl]; exact HRK.out), HWA.out])
      have hsz : text.size ≤ 1048576 := by
        have := HSZL.out
        rw [HTX.out, hkl]
        show (lnA l).size ≤ _
        omega
      have HRD := Lib.hid (impl_RunDesk0 text hsz wr (HE.out _ (ext_trans HB2.out HBW.out)) (HDC.out _ (HE.out _ (ext_trans HB2.out HBW.out))))
      rw [HF.out] at HRD
      clear hkl hsz
      go_wp2_with fail
      refine (show Calls _ _ _ _ _ from HRD.out).mono ?_
      rintro e w9 ⟨rfl, hb⟩
      have HB9 := Lib.hid (ext_trans (ext_trans HB2.out HBW.out) hb)
      clear hb
      go_wp2_with fail
      go_ret
      exact ⟨rfl, HB9.out⟩
end Go.Proofs.YtfgopboddkhckaaGreatDoor
namespace Go.Proofs.YtfgopboddkhckaaGreatDoor
open Go.ChangeShapes Go.WideShapes Go.ChangeAt Go.RowKit Go.Sort Go.Joins

theorem u8_wf {z : Int} (h : (Lit.int .u8 z).wf = true) : ((UInt8.ofNat z.toNat).toNat : Int) = z := by
  have h2 : 0 ≤ z ∧ z < 256 := by
    have h1 : IntKind.u8.min = 0 := by decide
    have h3 : IntKind.u8.max = 255 := by decide
    simp [Lit.wf] at h
    omega
  rw [UInt8.toNat_ofNat_of_lt' (by show z.toNat < 256; omega)]
  omega
set_option maxRecDepth 100000 in
theorem open_bytes_arg {H : Type} {enc : TypeId × Value → H} {W : World} {sp : Nat → Bool} {r : Reach} {b0 : Nat} {v : Value} {d : DataW H} {p : List MemPlace}
    (hv : Value.okWide Tryz.prog W r b0 47 v) (h : DataW.Trod enc Tryz.prog W 0 sp true 47 v d p) :
    ∃ bs : List UInt8, RB W v bs := by
  obtain ⟨a0, n0, c0, rfl⟩ := okWide_slice Tryz.underlying47 hv
  obtain ⟨fuel, hf⟩ := h
  rcases open_ints Tryz.underlying47 Tryz.underlying5 (by kernel_rfl) hf with ⟨hv, _⟩ | ⟨a, len, cap, zs, hv, _, hl, hm, hz, _, hc, hwf⟩
  · injection hv with hv
    injection hv with e1 e2 e3
    subst e1 e2 e3
    exact ⟨[], by simp, none, 0, rfl, by simp, by simp [maxLen], fun h => by simp at h⟩
  · injection hv with hv
    injection hv with e1 e2 e3
    subst e1 e2 e3
    have hzl : n0 ≤ zs.length := by rw [hz]; split <;> omega
    have e : ((zs.take n0).map fun z => UInt8.ofNat z.toNat).length = n0 := by simp; omega
    refine ⟨(zs.take n0).map fun z => UInt8.ofNat z.toNat, by simp, some a, c0, by rw [e], by rw [e]; exact hl, hm, fun h0 => ⟨a, rfl, ?_, fun j u hu => ?_⟩⟩
    · have := block_lt_of_cell (hc 0 (by omega))
      rwa [block_of_add] at this
    · have hj : j < n0 := by
        rcases Nat.lt_or_ge j n0 with h | h
        · exact h
        · rw [List.getElem?_eq_none (by simp; omega)] at hu; cases hu
      rw [List.getElem?_map, List.getElem?_map, List.getElem?_take, if_pos hj, List.getElem?_eq_getElem (by omega)] at hu
      simp only [Option.map_some, Option.some.injEq] at hu
      rw [hc j (by omega), ← hu, u8_wf (hwf _ (List.getElem_mem _)), List.getD_eq_getElem?_getD, List.getElem?_eq_getElem (by omega)]
      rfl

end Go.Proofs.YtfgopboddkhckaaGreatDoor
namespace Go.Proofs.YtfgopboddkhckaaGreatDoor
open Go.ChangeShapes Go.WideShapes Go.ChangeAt Go.RowKit Go.Sort Go.Joins
set_option maxRecDepth 100000

theorem vars_stays {H : Type} {enc : TypeId × Value → H} {W W' : World} {sp : Nat → Bool} (hb : Below W.heap.size W W') :
    ∀ (ns : List String) (gs : List (DataW H)) (ps : List MemPlace), (∀ n ∈ ns, ∃ g t, Tryz.prog.globalNamed n = some g ∧ (Tryz.prog.globals[g]?).map (·.type) = some t ∧ Tryz.prog.readableRec t = true ∧ t < Tryz.prog.types.size) →
      DataW.TrodVars enc Tryz.prog W (fun _ => true) ns gs ps → (∀ p ∈ ps, p.block < W.heap.size) → (∀ p ∈ ps, sp p.block = true) → DataW.TrodVars enc Tryz.prog W' sp ns gs ps
  | [], [], _, _, h, _, _ => h
  | n :: ns, d :: gs, ps, hr, h, hlt, hsp => by
    obtain ⟨g, t, cs, fuel, p, q, h1, h2, h3, h4, h5, rfl⟩ := h
    obtain ⟨g', t', k1, k2, k3, k4⟩ := hr n (by simp)
    obtain rfl := Option.some.inj (k1.symm.trans h1)
    obtain rfl := Option.some.inj (k2.symm.trans h2)
    exact ⟨g', t', cs, fuel, p, q, h1, h2, var_ext hb h3, DataW.trod_stays (kids_book laid_out k3) (book_sized k3) (fun h => by cases h) ⟨k4, book_self t'⟩ h4
      (fun x hx => hb.same (hlt x (by simp [hx]))) (fun x hx => hsp x (by simp [hx])), vars_stays hb ns gs q (fun m hm => hr m (by simp [hm])) h5 (fun x hx => hlt x (by simp [hx])) (fun x hx => hsp x (by simp [hx])), rfl⟩
  | [], _ :: _, _, _, h, _, _ => h.elim
  | _ :: _, [], _, _, h, _, _ => h.elim
theorem law_postVs {H : Type} {enc : TypeId × Value → H} {f : Func} {s : ChangeSpec} {W W' : World} {args : Array Value} {ds gs : List (DataW H)} {before : List MemPlace}
    (hr : ∀ t ∈ f.params.toList, Tryz.prog.readableRec t = true ∧ t < Tryz.prog.types.size) (hres : f.resultTypes = #[4])
    (hvs : ∀ n ∈ s.vars, ∃ g t, Tryz.prog.globalNamed n = some g ∧ (Tryz.prog.globals[g]?).map (·.type) = some t ∧ Tryz.prog.readableRec t = true ∧ t < Tryz.prog.types.size)
    (hW : DataW.Whole enc Tryz.prog f.params.toList s.vars false W args.toList ds gs before)
    (hspec : s.fn H (ds ++ gs) = { results := [.lit (.bool true)], args := ds, vars := gs }) (hb : Below W.heap.size W W') :
    s.post enc Tryz.prog f false true false false W args (.bool true) W' := by
  have hW' := hW
  obtain ⟨p, q, hA, hV, rfl, hfz, hnd⟩ := hW
  have hlt : ∀ x ∈ p, x.block < W.heap.size := fun x hx => hW'.lt x (by simp [hx])
  have hltq : ∀ x ∈ q, x.block < W.heap.size := fun x hx => hW'.lt x (by simp [hx])
  have hokb := okWide_bool_mk (P := Tryz.prog) (W' := W') Tryz.underlying4 true
  have hshut := fun (b : Nat) (sp : Nat → Bool) (hd : Bool) => shut_bool (H := H) (enc := enc) (P := Tryz.prog) (w := W') (base := b) (spare := sp) (held := hd) Tryz.underlying4 true
  refine post_of_below (pa := p) (pv := q) hW' (fun b sp hd => ?_) (fun sp hsp => ?_) (fun sp hsp => ?_) rfl hb ?_
  · rw [hspec, hres]
    exact trodAll_mk1 (hshut b sp hd)
  · rw [hspec]
    exact trodAll_stays hb _ _ _ _ hr hA hlt (fun x hx => hsp x (by simp [hx]))
  · rw [hspec]
    exact vars_stays hb _ _ _ hvs hV hltq (fun x hx => hsp x (by simp [hx]))
  · exact ok_one hres rfl hokb
end Go.Proofs.YtfgopboddkhckaaGreatDoor
namespace Go.Proofs.YtfgopboddkhckaaGreatDoor
open Go.ChangeShapes Go.WideShapes Go.ChangeAt Go.RowKit Go.Sort Go.Joins
set_option maxRecDepth 100000

theorem g_cod : (Tryz.prog.globals[0]?).map (·.type) = some 109 := by kernel_rfl
theorem n_cod : Tryz.prog.globalNamed "loop.example/g01042/impl.codeNames" = some 0 := by kernel_rfl
theorem cod_of {laid : List (String × DataW Unit)} {W : World} (h : laidMet Tryz.prog laid W) (hm : ("loop.example/g01042/impl.codeNames", Rows.laid_loop_example_g01042_impl_codeNames) ∈ laid) : CodeT W := by
  obtain ⟨ps, hv, _⟩ := h
  obtain ⟨g, t, cs, fuel, p, h1, h2, h3, h4⟩ := var_reads hv _ _ hm
  obtain rfl := Option.some.inj (n_cod.symm.trans h1)
  obtain rfl := Option.some.inj (g_cod.symm.trans h2)
  obtain ⟨xs, m, _, hx, hl, hxl, hf⟩ := DataW.trod_array Tryz.underlying109 h4
  have c5 : Tryz.prog.cellsOf 109 = 11 := by kernel_rfl
  have c1 : Tryz.prog.cellsOf 9 = 1 := by kernel_rfl
  rw [c5] at hl
  rw [c1] at hf
  have hx1 := congrArg Prod.fst hx
  have e : (Rows.laid_loop_example_g01042_impl_codeNames : DataW Unit) = .agg [.lit (.string (⟨#[111, 107]⟩ : ByteArray).data.toList), .lit (.string (⟨#[105, 110, 118, 97, 108, 105, 100]⟩ : ByteArray).data.toList), .lit (.string (⟨#[114, 97, 110, 103, 101]⟩ : ByteArray).data.toList), .lit (.string (⟨#[110, 111, 116, 45, 102, 111, 117, 110, 100]⟩ : ByteArray).data.toList), .lit (.string (⟨#[101, 120, 105, 115, 116, 115]⟩ : ByteArray).data.toList), .lit (.string (⟨#[102, 117, 108, 108]⟩ : ByteArray).data.toList), .lit (.string (⟨#[115, 116, 97, 116, 101]⟩ : ByteArray).data.toList), .lit (.string (⟨#[115, 121, 110, 116, 97, 120]⟩ : ByteArray).data.toList), .lit (.string (⟨#[102, 111, 114, 109, 97, 116]⟩ : ByteArray).data.toList), .lit (.string (⟨#[99, 108, 97, 115, 104]⟩ : ByteArray).data.toList), .lit (.string (⟨#[99, 114, 97, 99, 107, 101, 100]⟩ : ByteArray).data.toList)] := by rfl
  rw [e] at hx1
  injection hx1 with hx1
  obtain ⟨ls⟩ := cs
  match ls, hl, xs, hxl with
  | [d0, d1, d2, d3, d4, d5, d6, d7, d8, d9, d10], _, [x0, x1, x2, x3, x4, x5, x6, x7, x8, x9, x10], _ =>
    simp only [List.map_cons, List.map_nil, List.cons.injEq, and_true] at hx1
    obtain ⟨q0, q1, q2, q3, q4, q5, q6, q7, q8, q9, q10⟩ := hx1
    have k : ∀ (i : Nat) (d : Value) (x : DataW Unit × List MemPlace) (t : ByteArray), i < 11 → ([d0, d1, d2, d3, d4, d5, d6, d7, d8, d9, d10].drop (i * 1)).take 1 = [d] → [x0, x1, x2, x3, x4, x5, x6, x7, x8, x9, x10][i]? = some x → DataW.lit (.string t.data.toList) = x.1 → d = .string t := by
      intro i d x t hi hd hx hq
      have h := hf i hi
      rw [show (Array.mk [d0, d1, d2, d3, d4, d5, d6, d7, d8, d9, d10]).toList = [d0, d1, d2, d3, d4, d5, d6, d7, d8, d9, d10] from rfl, hd, hx] at h
      obtain ⟨s, hs, hx2, _⟩ := DataW.trod_string Tryz.underlying9 h
      injection hs with hs
      rw [hx2] at hq
      injection hq with hq
      injection hq with hq
      rw [hs, ba_ext hq]
    obtain rfl := k 0 d0 x0 ⟨#[111, 107]⟩ (by omega) rfl rfl q0
    obtain rfl := k 1 d1 x1 ⟨#[105, 110, 118, 97, 108, 105, 100]⟩ (by omega) rfl rfl q1
    obtain rfl := k 2 d2 x2 ⟨#[114, 97, 110, 103, 101]⟩ (by omega) rfl rfl q2
    obtain rfl := k 3 d3 x3 ⟨#[110, 111, 116, 45, 102, 111, 117, 110, 100]⟩ (by omega) rfl rfl q3
    obtain rfl := k 4 d4 x4 ⟨#[101, 120, 105, 115, 116, 115]⟩ (by omega) rfl rfl q4
    obtain rfl := k 5 d5 x5 ⟨#[102, 117, 108, 108]⟩ (by omega) rfl rfl q5
    obtain rfl := k 6 d6 x6 ⟨#[115, 116, 97, 116, 101]⟩ (by omega) rfl rfl q6
    obtain rfl := k 7 d7 x7 ⟨#[115, 121, 110, 116, 97, 120]⟩ (by omega) rfl rfl q7
    obtain rfl := k 8 d8 x8 ⟨#[102, 111, 114, 109, 97, 116]⟩ (by omega) rfl rfl q8
    obtain rfl := k 9 d9 x9 ⟨#[99, 108, 97, 115, 104]⟩ (by omega) rfl rfl q9
    obtain rfl := k 10 d10 x10 ⟨#[99, 114, 97, 99, 107, 101, 100]⟩ (by omega) rfl rfl q10
    exact h3
theorem vK (n : String) (h : n = "loop.example/g01042/impl.libraryTexts" ∨ n = "loop.example/g01042/impl.codeNames") : ∃ g t, Tryz.prog.globalNamed n = some g ∧ (Tryz.prog.globals[g]?).map (·.type) = some t ∧ Tryz.prog.readableRec t = true ∧ t < Tryz.prog.types.size := by
  rcases h with rfl | rfl
  · exact ⟨_, _, n_lib, g_lib, by kernel_rfl, of_decide_eq_true (by kernel_rfl)⟩
  · exact ⟨_, _, n_cod, g_cod, by kernel_rfl, of_decide_eq_true (by kernel_rfl)⟩
theorem gs_two {H : Type} {enc : TypeId × Value → H} {P : Program} {W : World} {sp : Nat → Bool} {a b : String} : ∀ (gs : List (DataW H)) (ps : List MemPlace), DataW.TrodVars enc P W sp [a, b] gs ps → ∃ d1 d2, gs = [d1, d2]
  | [], _, h => h.elim
  | [_], _, h => by
    obtain ⟨_, _, _, _, _, _, _, _, _, _, h5, _⟩ := h
    exact h5.elim
  | [d1, d2], _, _ => ⟨d1, d2, rfl⟩
  | _ :: _ :: _ :: _, _, h => by
    obtain ⟨_, _, _, _, _, _, _, _, _, _, h5, _⟩ := h
    obtain ⟨_, _, _, _, _, _, _, _, _, _, h6, _⟩ := h5
    exact h6.elim
end Go.Proofs.YtfgopboddkhckaaGreatDoor
