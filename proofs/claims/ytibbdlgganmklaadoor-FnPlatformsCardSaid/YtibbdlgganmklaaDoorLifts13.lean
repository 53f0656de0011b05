/-
  Lifts, thirteenth part: what is drawn: a valid wall, a list that may be a plan.
-/
import Derived.Test.YtibbdlgganmklaaDoorSrc
import Derived.Test.YtibbdlgganmklaaDoorLifts7
namespace Go.Proofs.YtibbdlgganmklaaDoor
open Go.ChangeShapes Go.WideShapes Go.ChangeAt Go.RowKit Go.Sort
set_option linter.unusedVariables false

theorem src_from (v : Value) (bs : List UInt8) (w : World) (hR : RB w v bs) :
    Calls Tryd.prog 13 #[v] w fun e w' => ∃ b, e = .returned (.pointer (some ⟨b, 0, none⟩)) ∧ Src w w' b v bs 0 0 ∧ Below w.heap.size w w' := by
  have HR := Lib.hid hR
  obtain ⟨A, c, rfl, hc1, hc2, _⟩ := hR.open_
  clear hR
  go_enter Tryd.func13, Tryd.ntmps13
  go_wp2_with fail
  go_ret
  exact ⟨w.heap.size, rfl, ⟨ext_alloc1 _ _, Nat.le_refl _, by simp, HR.out, by simp [go_sem], by simp [go_sem], by simp [go_sem], by simp [go_sem], by simp [go_sem], by omega, by omega⟩, ext_alloc1 _ _⟩

/-- Four cells of a block, none frozen. -/
def BX (w : World) (p : Nat) (a b c d : Value) : Prop := w.cell? ⟨p, 0, none⟩ = some a ∧ w.cell? ⟨p, 1, none⟩ = some b ∧ w.cell? ⟨p, 2, none⟩ = some c ∧ w.cell? ⟨p, 3, none⟩ = some d ∧ ∀ i, w.frozen? ⟨p, i, none⟩ = false
theorem BX.lt {w : World} {p : Nat} {a b c d : Value} (h : BX w p a b c d) : p < w.heap.size := block_lt_of_cell h.1
theorem BX.chg {S : Nat → Prop} {w w' : World} {p : Nat} {a b c d : Value} (h : BX w p a b c d) (hc : Chg S w w') (hp : ¬ S p) : BX w' p a b c d := by
  obtain ⟨h0, h1, h2, h3, h4⟩ := h
  refine ⟨hc.cell h0 hp, hc.cell h1 hp, hc.cell h2 hp, hc.cell h3 hp, fun i => ?_⟩
  rw [World.frozen?_of_block (w := w) (a := ⟨p, i, none⟩) (hc.block p (block_lt_of_cell h0) hp)]
  exact h4 i
theorem bx_box (w : World) (a b c d : Value) (T : TypeId) : BX (w.alloc (.cells #[a, b, c, d] T)) w.heap.size a b c d := ⟨by simp [go_sem], by simp [go_sem], by simp [go_sem], by simp [go_sem], fun i => by simp [go_sem]⟩
theorem Src.chg {S : Nat → Prop} {W0 w w' : World} {b : Nat} {v : Value} {bs : List UInt8} {at' seed : Int} (h : Src W0 w b v bs at' seed) (hc : Chg S w w') (hS : ∀ k, S k → W0.heap.size ≤ k) (hb : ¬ S b) : Src W0 w' b v bs at' seed :=
  ⟨Chg.ext h.old hc hS, h.low, Nat.lt_of_lt_of_le h.lt hc.size, h.rd, hc.cell h.c0 hb, hc.cell h.c1 hb, hc.cell h.c2 hb,
    by rw [World.frozen?_of_block (w := w) (a := ⟨b, 1, none⟩) (hc.block b h.lt hb)]; exact h.f1,
    by rw [World.frozen?_of_block (w := w) (a := ⟨b, 2, none⟩) (hc.block b h.lt hb)]; exact h.f2, h.a0, h.a1⟩

theorem BX.set0 {w : World} {p : Nat} {a b c d : Value} (h : BX w p a b c d) (x : Value) : BX (w.setCell ⟨p, 0, none⟩ x) p x b c d := by
  obtain ⟨h0, h1, h2, h3, h4⟩ := h
  exact ⟨World.cell?_setCell_same _ _ _ h0, by rw [World.cell?_setCell_other _ _ _ _ (by simp)]; exact h1, by rw [World.cell?_setCell_other _ _ _ _ (by simp)]; exact h2, by rw [World.cell?_setCell_other _ _ _ _ (by simp)]; exact h3, fun i => by simpa using h4 i⟩
theorem BX.set2 {w : World} {p : Nat} {a b c d : Value} (h : BX w p a b c d) (x : Value) : BX (w.setCell ⟨p, 2, none⟩ x) p a b x d := by
  obtain ⟨h0, h1, h2, h3, h4⟩ := h
  exact ⟨by rw [World.cell?_setCell_other _ _ _ _ (by simp)]; exact h0, by rw [World.cell?_setCell_other _ _ _ _ (by simp)]; exact h1, World.cell?_setCell_same _ _ _ h2, by rw [World.cell?_setCell_other _ _ _ _ (by simp)]; exact h3, fun i => by simpa using h4 i⟩
theorem BX.set3 {w : World} {p : Nat} {a b c d : Value} (h : BX w p a b c d) (x : Value) : BX (w.setCell ⟨p, 3, none⟩ x) p a b c x := by
  obtain ⟨h0, h1, h2, h3, h4⟩ := h
  exact ⟨by rw [World.cell?_setCell_other _ _ _ _ (by simp)]; exact h0, by rw [World.cell?_setCell_other _ _ _ _ (by simp)]; exact h1, by rw [World.cell?_setCell_other _ _ _ _ (by simp)]; exact h2, World.cell?_setCell_same _ _ _ h3, fun i => by simpa using h4 i⟩
theorem set_chg (w : World) (q i : Nat) (x : Value) : Chg (fun k => k = q) w (w.setCell ⟨q, i, none⟩ x) := ⟨rfl, rfl, rfl, by simp, fun k _ hn => heap_setCell_other _ _ _ _ hn⟩
theorem Chg.fresh {S : Nat → Prop} {w w' : World} (h : Chg S w w') {q : Nat} (hq : w.heap.size ≤ q) (i : Nat) (x : Value) : Chg S w (w'.setCell ⟨q, i, none⟩ x) := by
  have hc := set_chg w' q i x
  refine ⟨h.os, h.tape, h.output, Nat.le_trans h.size hc.size, fun k hk hn => ?_⟩
  rw [hc.block k (Nat.lt_of_lt_of_le hk h.size) (by omega)]
  exact h.block k hk hn
/-- What stands while a wall is drawn. -/
structure DS (W0 w w' : World) (b : Nat) (v : Value) (bs : List UInt8) (at' seed : Int) (p q : Nat) (A : Value) (r s e : Int) : Prop where
  src : Src W0 w' b v bs at' seed
  bp : BX w' p (.slice none 0 0) (.int .i64 0) (.int .i64 0) (.int .i64 0)
  bq : BX w' q A (.int .i64 r) (.int .i64 s) (.int .i64 e)
  chg : Chg (fun k => k = b) w w'
  hb : b < w.heap.size
  hp : w.heap.size ≤ p
  hpq : p < q
  hw : W0.heap.size ≤ w.heap.size
section
variable {W0 w w' w'' : World} {b : Nat} {v : Value} {bs : List UInt8} {at' seed at2 seed2 : Int} {p q : Nat} {A : Value} {r s e : Int}
theorem DS.pick (h : DS W0 w w' b v bs at' seed p q A r s e) (hs : Src W0 w'' b v bs at2 seed2) (hc : Chg (fun k => k = b) w' w'') : DS W0 w w'' b v bs at2 seed2 p q A r s e :=
  ⟨hs, h.bp.chg hc (by have := h.hb; have := h.hp; omega), h.bq.chg hc (by have := h.hb; have := h.hp; have := h.hpq; omega), h.chg.trans hc, h.hb, h.hp, h.hpq, h.hw⟩
theorem DS.other (h : DS W0 w w' b v bs at' seed p q A r s e) {S : Nat → Prop} (hc : Chg S w' w'') (hS : ∀ k, S k → q < k) : DS W0 w w'' b v bs at' seed p q A r s e := by
  have h1 := h.hb; have h2 := h.hp; have h3 := h.hpq; have h4 := h.hw
  refine ⟨h.src.chg hc (fun k hk => by have := hS k hk; omega) (fun hk => by have := hS b hk; omega), h.bp.chg hc (fun hk => by have := hS p hk; omega), h.bq.chg hc (fun hk => by have := hS q hk; omega), ⟨hc.os.trans h.chg.os, hc.tape.trans h.chg.tape, hc.output.trans h.chg.output, Nat.le_trans h.chg.size hc.size, fun k hk hn => ?_⟩, h.hb, h.hp, h.hpq, h.hw⟩
  rw [hc.block k (Nat.lt_of_lt_of_le hk h.chg.size) (fun hs => by have := hS k hs; omega)]
  exact h.chg.block k hk hn
theorem DS.setq (h : DS W0 w w' b v bs at' seed p q A r s e) (i : Nat) (x : Value) {A2 : Value} {s2 e2 : Int} (hq : BX (w'.setCell ⟨q, i, none⟩ x) q A2 (.int .i64 r) (.int .i64 s2) (.int .i64 e2)) : DS W0 w (w'.setCell ⟨q, i, none⟩ x) b v bs at' seed p q A2 r s2 e2 := by
  have h1 := h.hb; have h2 := h.hp; have h3 := h.hpq; have h4 := h.hw
  have hc := set_chg w' q i x
  refine ⟨h.src.chg hc (fun k hk => by omega) (by omega), h.bp.chg hc (by omega), hq, ⟨h.chg.os, h.chg.tape, h.chg.output, Nat.le_trans h.chg.size hc.size, fun k hk hn => ?_⟩, h.hb, h.hp, h.hpq, h.hw⟩
  rw [hc.block k (Nat.lt_of_lt_of_le hk h.chg.size) (by omega)]
  exact h.chg.block k hk hn
end

set_option maxHeartbeats 3200000 in
theorem draw_rise (W0 : World) (b : Nat) (v : Value) (bs : List UInt8) (at' seed : Int) (w : World) (hS : Src W0 w b v bs at' seed) (ha : at' ≤ 1000000) :
    Calls Tryd.prog 12 #[.pointer (some ⟨b, 0, none⟩)] w fun e w' => ∃ v' r at2 seed', e = .returned v' ∧ OSR w' w.heap.size v' r ∧ vRise r = true ∧ at' ≤ at2 ∧ at2 ≤ at' + 100 ∧ Src W0 w' b v bs at2 seed' ∧ Chg (fun k => k = b) w w' := by
  have HS := Lib.hid hS
  have hbl := hS.lt
  have hwl := hS.old.size
  clear hS
  go_enter Tryd.func12, Tryd.ntmps12
  go_wp2_with fail
  have HSA := Lib.hid (HS.out.chg (Chg.of_below (ext_alloc1 w (.cells #[.slice none 0 0, .int .i64 0, .int .i64 0, .int .i64 0] 26)) (fun _ => False)) (fun k hk => hk.elim) (fun hk => hk))
  refine (src_pick W0 b v bs at' seed 20 _ HSA.out (by omega)).mono ?_
  rintro e w1 ⟨x, a1, s1, rfl, hx, ha1, hb1, HS1, HC1⟩
  have hx1 : 0 ≤ x ∧ x ≤ 19 := ⟨hx.1, by have := hx.2.2.1 (by omega); omega⟩
  have HBP : Hid (BX (w1.alloc (.cells #[.slice none 0 0, .int .i64 (200 + 50 * x), .int .i64 0, .int .i64 0] 26)) w.heap.size (.slice none 0 0) (.int .i64 0) (.int .i64 0) (.int .i64 0)) :=
    Lib.hid (((bx_box w (.slice none 0 0) (.int .i64 0) (.int .i64 0) (.int .i64 0) 26).chg HC1 (by omega)).chg (Chg.of_below (ext_alloc1 _ _) (fun _ => False)) (fun h => h))
  have hsz1 : w.heap.size < w1.heap.size := by have := HC1.size; rw [World.size_alloc] at this; omega
  have HD0 : Hid (DS W0 w (w1.alloc (.cells #[.slice none 0 0, .int .i64 (200 + 50 * x), .int .i64 0, .int .i64 0] 26)) b v bs a1 s1 w.heap.size w1.heap.size (.slice none 0 0) (200 + 50 * x) 0 0) :=
    Lib.hid ⟨HS1.chg (Chg.of_below (ext_alloc1 _ _) (fun _ => False)) (fun k hk => hk.elim) (fun h => h), HBP.out, bx_box _ _ _ _ _ _, ((Chg.of_below (ext_alloc1 w _) _).trans HC1).trans (Chg.of_below (ext_alloc1 _ _) _), hbl, Nat.le_refl _, hsz1, hwl⟩
  clear hx HS1 HC1 HSA HBP
  go_wp2_with fail
  generalize w1.alloc (.cells #[.slice none 0 0, .int .i64 (200 + 50 * x), .int .i64 0, .int .i64 0] 26) = wB at *
  generalize w1.heap.size = q at *
  refine (src_pick W0 b v bs a1 s1 30 _ HD0.out.src (by omega)).mono ?_
  rintro e w2 ⟨y, a2, s2, rfl, hy, ha2, hb2, HS2, HC2⟩
  have hy1 : 0 ≤ y ∧ y ≤ 29 := ⟨hy.1, by have := hy.2.2.1 (by omega); omega⟩
  have HD1 := Lib.hid (HD0.out.pick HS2 HC2)
  clear hy HS2 HC2 HD0
  obtain ⟨_, _, h2, _, hf⟩ := HD1.out.bq
  have hf2 := hf 2
  clear hf
  go_wp2_with fail
  have HD2 := Lib.hid (HD1.out.setq 2 (.int .i64 (50 * y)) (HD1.out.bq.set2 _))
  clear h2 hf2 HD1
  generalize w2.setCell ⟨q, 2, none⟩ (.int .i64 (50 * y)) = wC at *
  refine (src_pick W0 b v bs a2 s2 16 _ HD2.out.src (by omega)).mono ?_
  rintro e w3 ⟨z, a3, s3, rfl, hz, ha3, hb3, HS3, HC3⟩
  have hz1 : 0 ≤ z ∧ z ≤ 15 := ⟨hz.1, by have := hz.2.2.1 (by omega); omega⟩
  have HD3 := Lib.hid (HD2.out.pick HS3 HC3)
  clear hz HS3 HC3 HD2
  obtain ⟨_, _, _, h3, hf⟩ := HD3.out.bq
  have hf3 := hf 3
  clear hf
  go_wp2_with fail
  have HD4 := Lib.hid (HD3.out.setq 3 (.int .i64 (50 * z)) (HD3.out.bq.set3 _))
  clear h3 hf3 HD3
  generalize w3.setCell ⟨q, 3, none⟩ (.int .i64 (50 * z)) = wD at *
  refine (src_pick W0 b v bs a3 s3 12 _ HD4.out.src (by omega)).mono ?_
  rintro e wE ⟨u, a4, s4, rfl, hu, ha4, hb4, HS4, HC4⟩
  have hu1 : 0 ≤ u ∧ u ≤ 11 := ⟨hu.1, by have := hu.2.2.1 (by omega); omega⟩
  have HD5 := Lib.hid (HD4.out.pick HS4 HC4)
  clear hu HS4 HC4 HD4
  go_wp2_with fail
  go_loopw [4] (fun t wr => ∃ (j : Int) (xs : List Int) (A : Option Addr) (c : Nat) (at3 sd3 : Int), 0 ≤ j ∧ j + xs.length = 1 + u ∧ t = .int .i64 j ∧ a4 ≤ at3 ∧ at3 ≤ a4 + 6 * xs.length ∧ Hid (DS W0 w wr b v bs at3 sd3 w.heap.size q (.slice A xs.length c) (200 + 50 * x) (50 * y) (50 * z)) ∧ Hid (OI wr (q + 1) (.slice A xs.length c) xs) ∧ Hid (∀ i, i < xs.length → 30 ≤ gi xs i ∧ gi xs i ≤ 200)) (fun t _ => (intOf t).toNat)
  case atStart => exact ⟨_, [], none, 0, a4, s4, by omega, by simp, rfl, Int.le_refl _, by simp, HD5.out, oi_nil _ _, fun i hi => by simp at hi⟩
  case round =>
    obtain ⟨j, xs, A, c, at3, sd3, hj, hjx, rfl, ht1, ht2, HD, HO, HB⟩ := hrel
    by_cases hj0 : 0 < j
    · go_wp2_with fail
      refine (src_one W0 b v bs at3 sd3 3 _ HD.out.src (by omega)).mono ?_
      rintro e w3 ⟨o, at4, sd4, rfl, hq1, hq2, HS3, HC3⟩
      cases o with
      | false =>
        have HD4 := Lib.hid (HD.out.pick HS3 HC3)
        have HO4 := Lib.hid (HO.out.chg HC3 (fun k hk hs => by have := (HO.out.ge k hk).1; have := HD.out.hb; have := HD.out.hp; have := HD.out.hpq; omega))
        clear HS3 HC3 HD HO
        generalize hw4 : w3 = w4 at *
        clear hw4
        have hN := Lib.hid (show (30:Int) ≤ (75:Int) ∧ (75:Int) ≤ 200 by omega)
        have hsz4 : q + 1 ≤ w4.heap.size := HD4.out.bq.lt
        obtain ⟨hq0, _, _, _, hqf⟩ := HD4.out.bq
        have hqf0 := hqf 0
        clear hqf
        go_wp2_with (at_builtin; refine wpList_append_i rfl _ _ rfl (q + 1) (.slice A xs.length c) xs ((75:Int)) rfl rfl HO4.out (by omega) hsz4 ?_; intro g c5 w5 hO5 hg5 hlt5; (have HD5 := Lib.hid (HD4.out.other hg5 (fun k hk => (HO4.out.ge k hk).1))); (have HO5 := Lib.hid hO5); (obtain ⟨hr0, _, _, _, hrf⟩ := HD5.out.bq); (have hrf0 := hrf 0); clear hO5 hg5 hlt5 hrf hq0 hqf0)
        have HD6 := Lib.hid (HD5.out.setq 0 (.slice (some ⟨g, 0, none⟩) (xs.length + 1) c5) (HD5.out.bq.set0 _))
        have HO6 : Hid (OI (w5.setCell ⟨q, 0, none⟩ (.slice (some ⟨g, 0, none⟩) (xs.length + 1) c5)) (q + 1) (.slice (some ⟨g, 0, none⟩) (xs.length + 1) c5) (xs ++ [(75:Int)])) := Lib.hid (HO5.out.chg (set_chg w5 q 0 _) (fun k hk hs => by have := (HO5.out.ge k hk).1; omega))
        go_roundw
        case rel => exact ⟨j - 1, xs ++ [(75:Int)], some ⟨g, 0, none⟩, c5, at4, sd4, by omega, by rw [List.length_append]; simp; omega, congrArg (Value.int .i64) (by omega), by omega, by rw [List.length_append]; simp; omega, by rw [List.length_append]; exact HD6.out, by rw [List.length_append]; exact HO6.out, (fun i hi => by
          rw [List.length_append] at hi
          by_cases hix : i < xs.length
          · have h9 := HB.out i hix
            unfold gi at h9 ⊢
            rw [List.getD_eq_getElem?_getD, List.getElem?_append_left hix, ← List.getD_eq_getElem?_getD]; exact h9
          · have : i = xs.length := by simp at hi; omega
            subst this
            unfold gi
            rw [List.getD_eq_getElem?_getD, List.getElem?_append_right (Nat.le_refl _), Nat.sub_self]; exact hN.out)⟩
        case measure => simp [intOf]; omega
      | true =>
        have HD3 := Lib.hid (HD.out.pick HS3 HC3)
        have HO3 := Lib.hid (HO.out.chg HC3 (fun k hk hs => by have := (HO.out.ge k hk).1; have := HD.out.hb; have := HD.out.hp; have := HD.out.hpq; omega))
        clear HS3 HC3 HD HO
        rename_i at3b
        go_wp2_with fail
        refine (src_pick W0 b v bs at4 sd4 18 _ HD3.out.src (by omega)).mono ?_
        rintro e w4 ⟨z2, at5, sd5, rfl, hz2, hq3, hq4, HS4, HC4⟩
        have hz3 : 0 ≤ z2 ∧ z2 ≤ 17 := ⟨hz2.1, by have := hz2.2.2.1 (by omega); omega⟩
        have HD4 := Lib.hid (HD3.out.pick HS4 HC4)
        have HO4 := Lib.hid (HO3.out.chg HC4 (fun k hk hs => by have := (HO3.out.ge k hk).1; have := HD3.out.hb; have := HD3.out.hp; have := HD3.out.hpq; omega))
        clear HS4 HC4 HD3 HO3 hz2
        generalize at5 = at4 at *
        generalize sd5 = sd4 at *
        have hN := Lib.hid (show (30:Int) ≤ (30 + 10 * z2) ∧ (30 + 10 * z2) ≤ 200 by omega)
        have hsz4 : q + 1 ≤ w4.heap.size := HD4.out.bq.lt
        obtain ⟨hq0, _, _, _, hqf⟩ := HD4.out.bq
        have hqf0 := hqf 0
        clear hqf
        go_wp2_with (at_builtin; refine wpList_append_i rfl _ _ rfl (q + 1) (.slice A xs.length c) xs ((30 + 10 * z2)) rfl rfl HO4.out (by omega) hsz4 ?_; intro g c5 w5 hO5 hg5 hlt5; (have HD5 := Lib.hid (HD4.out.other hg5 (fun k hk => (HO4.out.ge k hk).1))); (have HO5 := Lib.hid hO5); (obtain ⟨hr0, _, _, _, hrf⟩ := HD5.out.bq); (have hrf0 := hrf 0); clear hO5 hg5 hlt5 hrf hq0 hqf0)
        have HD6 := Lib.hid (HD5.out.setq 0 (.slice (some ⟨g, 0, none⟩) (xs.length + 1) c5) (HD5.out.bq.set0 _))
        have HO6 : Hid (OI (w5.setCell ⟨q, 0, none⟩ (.slice (some ⟨g, 0, none⟩) (xs.length + 1) c5)) (q + 1) (.slice (some ⟨g, 0, none⟩) (xs.length + 1) c5) (xs ++ [(30 + 10 * z2)])) := Lib.hid (HO5.out.chg (set_chg w5 q 0 _) (fun k hk hs => by have := (HO5.out.ge k hk).1; omega))
        go_roundw
        case rel => exact ⟨j - 1, xs ++ [(30 + 10 * z2)], some ⟨g, 0, none⟩, c5, at4, sd4, by omega, by rw [List.length_append]; simp; omega, congrArg (Value.int .i64) (by omega), by omega, by rw [List.length_append]; simp; omega, by rw [List.length_append]; exact HD6.out, by rw [List.length_append]; exact HO6.out, (fun i hi => by
          rw [List.length_append] at hi
          by_cases hix : i < xs.length
          · have h9 := HB.out i hix
            unfold gi at h9 ⊢
            rw [List.getD_eq_getElem?_getD, List.getElem?_append_left hix, ← List.getD_eq_getElem?_getD]; exact h9
          · have : i = xs.length := by simp at hi; omega
            subst this
            unfold gi
            rw [List.getD_eq_getElem?_getD, List.getElem?_append_right (Nat.le_refl _), Nat.sub_self]; exact hN.out)⟩
        case measure => simp [intOf]; omega
    · have hj1 : j = 0 := by omega
      subst hj1
      have e0 : ¬ (0:Int) < 0 := by omega
      obtain ⟨hp0, hp1, hp2, hp3, hpf⟩ := HD.out.bp
      obtain ⟨hq0, hq1, hq2, hq3, hqf⟩ := HD.out.bq
      have hf0 := hpf 0
      have hf1 := hpf 1
      have hf2 := hpf 2
      have hf3 := hpf 3
      clear hpf hqf
      have hne := HD.out.hpq
      have hHX := HD.out
      go_wp2_with fail
      have hxl : xs.length = 1 + u := by omega
      refine bodyPost_ret (v := .agg #[.slice A xs.length c, .int .i64 (200 + 50 * x), .int .i64 (50 * y), .int .i64 (50 * z)]) (by simp [results, Tryd.results12, go_sem, hp0, hp1, hp2, hp3]) rfl
        ⟨_, rfl, ⟨xs, 200 + 50 * x, 50 * y, 50 * z⟩, ⟨A, c, rfl, ?_⟩, ?_, at3, by omega, by omega, ⟨sd3, ?_⟩, ?_⟩
      · have h1 := HO.out.mono (show w.heap.size ≤ q + 1 by omega)
        repeat (refine OI.chg ?_ (set_chg _ w.heap.size _ _) (fun k hk hs => by have := (HO.out.ge k hk).1; omega))
        exact h1
      · refine vRise_iff.2 ⟨out_no (fun k hk => inB_yes (HB.out k hk).1 (HB.out k hk).2), ?_, ?_, ?_, ?_⟩ <;> dsimp only <;> omega
      · repeat (refine Src.chg ?_ (set_chg _ w.heap.size _ _) (fun k hk => by omega) (by omega))
        exact hHX.src
      · repeat (refine Chg.fresh ?_ (Nat.le_refl _) _ _)
        exact hHX.chg

end Go.Proofs.YtibbdlgganmklaaDoor
