/-
  Drawn entries, second part: l27Entries.
-/
import Derived.Test.YtiedojkoogfokaaDoorDrwE
import Derived.Test.YtiedojkoogfokaaDoorLgsP
import Derived.Test.YtiedojkoogfokaaDoorValEn
namespace Go.Proofs.YtiedojkoogfokaaDoor
open Go.ChangeShapes Go.WideShapes Go.ChangeAt Go.RowKit Go.Sort
set_option linter.unusedVariables false
set_option maxRecDepth 100000

theorem gd_app_l {α : Type} [Inhabited α] {l r : List α} {k : Nat} (h : k < l.length) : gd (l ++ r) k = gd l k := by
  unfold gd; rw [List.getD_eq_getElem?_getD, List.getD_eq_getElem?_getD, List.getElem?_append_left h]
theorem gd_app_r {α : Type} [Inhabited α] {l : List α} {x : α} : gd (l ++ [x]) l.length = x := by
  unfold gd; simp [List.getD_eq_getElem?_getD]
theorem oen_lit (w : World) (B : Nat) (h : B ≤ w.heap.size) : OENS (w.alloc (.cells #[] 38)) B (.slice (some ⟨w.heap.size, 0, none⟩) 0 0) [] :=
  World.ownsRow_lit _ #[] 0 h (by simp [maxLen]) (by simp)
/-- What stands while entries are drawn. -/
structure DE (W0 w w' : World) (b : Nat) (v : Value) (bs : List UInt8) (at' seed : Int) (u : Value) (l : List EN) : Prop where
  src : Src W0 w' b v bs at' seed
  own : OENS w' w.heap.size u l
  all : l.all vEn = true
  days : dK l l.length = true
  chg : Chg (fun k => k = b) w w'
  hb : b < w.heap.size
  hw : W0.heap.size ≤ w.heap.size
section
variable {W0 w w' w'' : World} {b : Nat} {v : Value} {bs : List UInt8} {at' seed at2 seed2 : Int} {u : Value} {l : List EN}
theorem chg_joinE {S T : Nat → Prop} {a b c : World} (h : Chg S a b) (k : Chg T b c) (hT : ∀ i, T i → a.heap.size ≤ i) : Chg S a c :=
  ⟨k.os.trans h.os, k.tape.trans h.tape, k.output.trans h.output, Nat.le_trans h.size k.size, fun i hi hn => (k.block i (Nat.lt_of_lt_of_le hi h.size) (fun ht => by have := hT i ht; omega)).trans (h.block i hi hn)⟩
theorem DE.pick (h : DE W0 w w' b v bs at' seed u l) (hs : Src W0 w'' b v bs at2 seed2) (hc : Chg (fun k => k = b) w' w'') : DE W0 w w'' b v bs at2 seed2 u l :=
  ⟨hs, h.own.chg hc (fun k hk e => by have := (h.own.ge k hk).1; have := h.hb; omega), h.all, h.days, h.chg.trans hc, h.hb, h.hw⟩
theorem DE.wide (h : DE W0 w w' b v bs at' seed u l) (hc : Chg (fun _ => False) w' w'') : DE W0 w w'' b v bs at' seed u l :=
  ⟨h.src.turn hc (fun _ h => h.elim) (fun h => h), h.own.chg hc (fun _ _ h => h), h.all, h.days, chg_joinE h.chg hc (fun _ h => h.elim), h.hb, h.hw⟩
theorem dK_push {l : List EN} {o : EN} (h : dK l l.length = true) (ho : lday l ≤ o.day) : dK (l ++ [o]) (l ++ [o]).length = true := by
  cases hl : l.length with
  | zero =>
    obtain rfl : l = [] := List.eq_nil_of_length_eq_zero hl
    rfl
  | succ j =>
    have hk : dK (l ++ [o]) (j + 1) = true := by
      rw [hl] at h
      rw [← h]
      unfold dK
      have key : ∀ i ∈ List.range (j + 1), (decide (i = 0) || decide ((gd (l ++ [o]) (i - 1)).day ≤ (gd (l ++ [o]) i).day)) = (decide (i = 0) || decide ((gd l (i - 1)).day ≤ (gd l i).day)) := fun i hi => by
        have hi : i < j + 1 := by simpa using hi
        rw [gd_app_l (by omega), gd_app_l (by omega)]
      rw [Bool.eq_iff_iff, List.all_eq_true, List.all_eq_true]
      exact ⟨fun h i hi => by rw [← key i hi]; exact h i hi, fun h i hi => by rw [key i hi]; exact h i hi⟩
    rw [show (l ++ [o]).length = j + 2 by simp; omega, dK_succ, hk, gd_app_l (by omega), ← hl, gd_app_r]
    have := lday_take (es := l) (k := l.length) (Nat.le_refl _)
    rw [List.take_length, if_neg (by omega), hl] at this
    simp only [Nat.add_sub_cancel] at this
    rw [← this]
    simpa using ho
theorem DE.push (h : DE W0 w w' b v bs at' seed u l) {u2 : Value} {o : EN} (hO : OENS w'' w.heap.size u2 (l ++ [o])) (hc : Chg (BENS u) w' w'') (ho : vEn o = true) (hd : lday l ≤ o.day) : DE W0 w w'' b v bs at' seed u2 (l ++ [o]) :=
  ⟨h.src.turn hc (fun k hk => by have := (h.own.ge k hk).1; have := h.hw; omega) (fun hk => by have := (h.own.ge b hk).1; have := h.hb; omega), hO,
    by rw [List.all_append, h.all]; simp [ho], dK_push h.days hd,
    chg_joinE h.chg hc (fun k hk => (h.own.ge k hk).1), h.hb, h.hw⟩
end
theorem chg_grow1 {w0 w' : World} {o : Obj} {v : Value} (h : (w0.alloc o).grownBy w' v.ownBlock) : Chg (BI v) w0 w' := (Chg.of_below (ext_alloc1 _ _) _).trans (Chg.of_grown h)
theorem OENS.of_app {w : World} {B g cap : Nat} {es : List EN} {en : EN} (hown : w.ownsRow B 38 3 (.slice (some ⟨g, 0, none⟩) (es.length + 1) cap) (es.length + 1) (es.flatMap cEN ++ [.int .i64 en.day, .string en.what, .int .i64 en.val])) : OENS w B (.slice (some ⟨g, 0, none⟩) (es.length + 1) cap) (es ++ [en]) := by
  unfold OENS
  rw [List.length_append, List.flatMap_append]
  exact hown
theorem lday_bd {l : List EN} (h : l.all vEn = true) : 0 ≤ lday l ∧ lday l ≤ 100000 := by
  have e := lday_take (es := l) (k := l.length) (Nat.le_refl _)
  rw [List.take_length] at e
  rw [e]
  split
  · omega
  · exact (vEn_iff.1 (all_at h (show l.length - 1 < l.length by omega))).1
set_option maxHeartbeats 1600000 in
theorem draw_entries (W0 : World) (b : Nat) (v : Value) (bs : List UInt8) (at' seed : Int) (w : World) (hS : Src W0 w b v bs at' seed) (ha : at' ≤ 100000) :
    Calls Tryd.prog 19 #[.pointer (some ⟨b, 0, none⟩), .int .i64 7] w fun e w' => ∃ (A : Option Addr) (c : Nat) (l : List EN) (at2 s2 : Int), e = .returned (.slice A l.length c) ∧ l.length ≤ 7 ∧ at' ≤ at2 ∧ at2 ≤ at' + 100 ∧ DE W0 w w' b v bs at2 s2 (.slice A l.length c) l := by
  have HS := Lib.hid hS
  have hbl := hS.lt
  have hwl := hS.old.size
  clear hS
  go_enter Tryd.func19, Tryd.ntmps19
  go_wp2_with fail
  have HD0 : Hid (DE W0 w (w.alloc (.cells #[] 38)) b v bs at' seed (.slice (some ⟨w.heap.size, 0, none⟩) 0 0) []) :=
    Lib.hid ⟨HS.out.turn (Chg.of_below (ext_alloc1 _ _) (fun _ => False)) (fun _ h => h.elim) (fun h => h), oen_lit w _ (Nat.le_refl _), rfl, rfl, Chg.of_below (ext_alloc1 _ _) _, hbl, hwl⟩
  refine (src_pick W0 b v bs at' seed 8 _ HD0.out.src (by omega)).mono ?_
  rintro e w1 ⟨y, a2, s2, rfl, hx, h1, h2, HS1, HC1⟩
  have HD2 := Lib.hid (HD0.out.pick HS1 HC1)
  have hy1 : 0 ≤ y ∧ y ≤ 7 := ⟨hx.1, by have := hx.2.2.1 (by omega); omega⟩
  clear hx HS1 HC1 HD0
  go_wp2_with fail
  go_loopw [5, 6, 7] (fun r d t wr => ∃ (j : Int) (l : List EN) (A : Option Addr) (c : Nat) (at3 sd3 : Int), 0 ≤ j ∧ j + l.length ≤ y ∧ t = .int .i64 j ∧ d = .int .i64 (lday l) ∧ r = .slice A l.length c ∧ a2 ≤ at3 ∧ at3 ≤ a2 + 12 * (y - j) ∧ Hid (DE W0 w wr b v bs at3 sd3 (.slice A l.length c) l)) (fun _ _ t _ => (intOf t).toNat)
  case atStart => exact ⟨y, [], _, 0, a2, s2, by omega, by simp, rfl, rfl, rfl, Int.le_refl _, by omega, HD2.out⟩
  case round =>
    obtain ⟨j, l, A, c, at3, sd3, hj, hjx, rfl, rfl, rfl, ht1, ht2, HD⟩ := hrel
    by_cases hj0 : 0 < j
    · obtain ⟨hd0, hd1⟩ := lday_bd HD.out.all
      have hll : l.length ≤ 7 := by omega
      go_wp2_with fail
      refine (draw_entry W0 b v bs at3 sd3 (lday l) _ HD.out.src (by omega) hd0 (by omega)).mono ?_
      rintro e w3 ⟨o, at4, sd4, rfl, hos, hq1, hq2, HS3, HC3⟩
      have HD3 := Lib.hid (HD.out.pick HS3 HC3)
      have hz3 : w.heap.size ≤ w3.heap.size := HD3.out.chg.size
      have HP3 := Lib.hid (pEN_box w3 o 38)
      have HDw := Lib.hid (HD3.out.wide (Chg.of_below (ext_alloc1 w3 (.cells #[.int .i64 o.day, .string o.what, .int .i64 o.val] 38)) _))
      have hlo : LenEN o := by unfold LenEN maxLen; omega
      clear HS3 HC3 HD
      go_wp2_with fail
      refine (spec_okEn ⟨w3.heap.size, 0, none⟩ o _ hlo HP3.out).mono ?_
      rintro e w4 ⟨rfl, rfl⟩
      obtain ⟨p0, p1, p2⟩ := HP3.out
      have hnb : ¬ BENS (.slice A l.length c) w3.heap.size := fun h => by have := (HD3.out.own.ge _ h).2; omega
      have hza : w.heap.size ≤ (w3.alloc (.cells #[.int .i64 o.day, .string o.what, .int .i64 o.val] 38)).heap.size := by simp; omega
      clear HD3 HP3
      obtain ⟨p, hp⟩ : ∃ p, w3.heap.size = p := ⟨_, rfl⟩
      rw [hp] at p0 p1 p2 hnb
      rw [hp]
      generalize w3.alloc (.cells #[.int .i64 o.day, .string o.what, .int .i64 o.val] 38) = wa at *
      clear hp hz3
      cases hv : vEn o with
      | false =>
        go_wp2_with fail
        go_roundw
        case rel => exact ⟨j - 1, l, A, c, at4, sd4, by omega, by omega, congrArg (Value.int .i64) (by omega), rfl, rfl, by omega, by omega, HDw.out⟩
        case measure => simp [intOf]; omega
      | true =>
        by_cases hd : lday l ≤ o.day
        · go_wp2_with (at_builtin; refine wpList_append_en rfl _ _ rfl w.heap.size (.slice A l.length c) l o rfl rfl HDw.out.own (by omega) hza ?_; intro g c5 w5 hO5 hg5; (have HC5 := Lib.hid (chg_grow1 hg5)); (have HO5 := Lib.hid (OENS.of_app hO5)); (have q0 := HC5.out.cell p0 hnb); clear hO5 hg5 p0 p1 p2)
          go_roundw
          case rel => exact ⟨j - 1, l ++ [o], some ⟨g, 0, none⟩, c5, at4, sd4, by omega, by rw [List.length_append]; simp; omega, congrArg (Value.int .i64) (by omega), by rw [lday_snoc], by rw [List.length_append]; rfl, by omega, by omega, by rw [List.length_append]; exact HDw.out.push HO5.out HC5.out hv hd⟩
          case measure => simp [intOf]; omega
        · have e0 : ¬ (lday l ≤ o.day) := hd
          go_wp2_with fail
          go_roundw
          case rel => exact ⟨j - 1, l, A, c, at4, sd4, by omega, by omega, congrArg (Value.int .i64) (by omega), rfl, rfl, by omega, by omega, HDw.out⟩
          case measure => simp [intOf]; omega
    · have e0 : ¬ (0:Int) < j := hj0
      go_wp2_with fail
      go_ret
      exact ⟨A, c, l, rfl, by omega, at3, by omega, by omega, sd3, HD.out⟩

set_option maxHeartbeats 1600000 in
/-- The entries drawn from bytes: valid, in order, at most seven. -/
theorem a2_entries (v : Value) (bs : List UInt8) (w : World) (hR : RB w v bs) :
    Calls Tryd.prog 6 #[v] w fun e w' => ∃ (A : Option Addr) (c : Nat) (l : List EN), e = .returned (.slice A l.length c) ∧ l.length ≤ 7 ∧ l.all vEn = true ∧ dK l l.length = true ∧ OENS w' w.heap.size (.slice A l.length c) l ∧ Below w.heap.size w w' := by
  have HR := Lib.hid hR; clear hR
  go_enter Tryd.func6, Tryd.ntmps6
  go_wp2_with fail
  refine (src_start v bs _ HR.out).mono ?_
  rintro e w1 ⟨b, rfl, hS, hB⟩
  have HS1 := Lib.hid hS
  have HB1 := Lib.hid hB
  clear hS hB HR
  go_wp2_with fail
  refine (draw_entries _ b v bs 0 0 _ HS1.out (by omega)).mono ?_
  rintro e w2 ⟨A, c, l, at2, s2, rfl, hl, h1, h2, hD⟩
  have HD := Lib.hid hD
  clear hD
  go_wp2_with fail
  go_ret
  have hlo := HS1.out.low
  exact ⟨A, c, l, rfl, hl, HD.out.all, HD.out.days, HD.out.own.mono HS1.out.old.size, Chg.ext HB1.out HD.out.chg (fun k hk => by subst hk; exact hlo)⟩
end Go.Proofs.YtiedojkoogfokaaDoor
