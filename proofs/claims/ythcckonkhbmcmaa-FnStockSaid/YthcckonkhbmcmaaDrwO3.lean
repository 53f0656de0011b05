/-
  Drawn orders, third part: l25Draw, l25Bent, l25DrawStock, l25Each.
-/
import Derived.Test.YthcckonkhbmcmaaDrwO2
namespace Go.Proofs.Ythcckonkhbmcmaa
open Go.ChangeShapes Go.WideShapes Go.ChangeAt Go.RowKit Go.Sort
set_option linter.unusedVariables false
set_option maxRecDepth 100000

/-- What stands while orders are drawn. -/
structure DL (W0 w w' : World) (b : Nat) (v : Value) (bs : List UInt8) (at' seed : Int) (u : Value) (l : List OD) : Prop where
  src : Src W0 w' b v bs at' seed
  own : OODS w' w.heap.size u l
  all : ∀ o ∈ l, DO o
  chg : Chg (fun k => k = b) w w'
  hb : b < w.heap.size
  hw : W0.heap.size ≤ w.heap.size
section
variable {W0 w w' w'' : World} {b : Nat} {v : Value} {bs : List UInt8} {at' seed at2 seed2 : Int} {u : Value} {l : List OD}
theorem chg_join {S T : Nat → Prop} {a b c : World} (h : Chg S a b) (k : Chg T b c) (hT : ∀ i, T i → a.heap.size ≤ i) : Chg S a c :=
  ⟨k.os.trans h.os, k.tape.trans h.tape, k.output.trans h.output, Nat.le_trans h.size k.size, fun i hi hn => (k.block i (Nat.lt_of_lt_of_le hi h.size) (fun ht => by have := hT i ht; omega)).trans (h.block i hi hn)⟩
theorem DL.pick (h : DL W0 w w' b v bs at' seed u l) (hs : Src W0 w'' b v bs at2 seed2) (hc : Chg (fun k => k = b) w' w'') : DL W0 w w'' b v bs at2 seed2 u l :=
  ⟨hs, h.own.chg hc (fun k hk e => by have := (h.own.ge k hk).1; have := h.hb; omega), h.all, h.chg.trans hc, h.hb, h.hw⟩
theorem DL.push (h : DL W0 w w' b v bs at' seed u l) {u2 : Value} {o : OD} (hO : OODS w'' w.heap.size u2 (l ++ [o])) (hc : Chg (BODS u) w' w'') (ho : DO o) : DL W0 w w'' b v bs at' seed u2 (l ++ [o]) :=
  ⟨h.src.turn hc (fun k hk => by have := (h.own.ge k hk).1; have := h.hw; omega) (fun hk => by have := (h.own.ge b hk).1; have := h.hb; omega), hO,
    fun q hq => by rcases List.mem_append.1 hq with h1 | h1; exact h.all q h1; rw [List.mem_singleton.1 h1]; exact ho,
    chg_join h.chg hc (fun k hk => (h.own.ge k hk).1), h.hb, h.hw⟩
theorem DL.other (h : DL W0 w w' b v bs at' seed u l) (hc : Chg (fun _ => False) w' w'') {u2 : Value} {l2 : List OD} (hO : OODS w'' w.heap.size u2 l2) (ha : ∀ o ∈ l2, DO o) : DL W0 w w'' b v bs at' seed u2 l2 :=
  ⟨h.src.turn hc (fun _ h => h.elim) (fun h => h), hO, ha, chg_join h.chg hc (fun _ h => h.elim), h.hb, h.hw⟩
end

set_option maxHeartbeats 1600000 in
theorem draw_list (W0 : World) (b : Nat) (v : Value) (bs : List UInt8) (at' seed : Int) (w : World) (hS : Src W0 w b v bs at' seed) (ha : at' ≤ 100000) :
    Calls Try.prog 41 #[.pointer (some ⟨b, 0, none⟩)] w fun e w' => ∃ (A : Option Addr) (c : Nat) (l : List OD) (at2 s2 : Int), e = .returned (.slice A l.length c) ∧ l.length ≤ 7 ∧ at' ≤ at2 ∧ at2 ≤ at' + 100 ∧ DL W0 w w' b v bs at2 s2 (.slice A l.length c) l := by
  have HS := Lib.hid hS
  have hbl := hS.lt
  have hwl := hS.old.size
  clear hS
  go_enter Try.func41, Try.ntmps41
  go_wp2_with fail
  have HD0 : Hid (DL W0 w (w.alloc (.cells #[] 40)) b v bs at' seed (.slice (some ⟨w.heap.size, 0, none⟩) 0 0) []) :=
    Lib.hid ⟨HS.out.turn (Chg.of_below (ext_alloc1 _ _) (fun _ => False)) (fun _ h => h.elim) (fun h => h), ood_lit w _ (Nat.le_refl _), fun o ho => by simp at ho, Chg.of_below (ext_alloc1 _ _) _, hbl, hwl⟩
  refine (src_pick W0 b v bs at' seed 4 _ HD0.out.src (by omega)).mono ?_
  rintro e w1 ⟨x, a1, s1, rfl, hx, h1, h2, HS1, HC1⟩
  have HD1 := Lib.hid (HD0.out.pick HS1 HC1)
  have hx1 : 0 ≤ x ∧ x ≤ 3 := ⟨hx.1, by have := hx.2.2.1 (by omega); omega⟩
  clear hx HS1 HC1 HD0
  go_wp2_with fail
  refine (src_pick W0 b v bs a1 s1 8 _ HD1.out.src (by omega)).mono ?_
  rintro e w2 ⟨y, a2, s2, rfl, hy, h3, h4, HS2, HC2⟩
  have HD2 := Lib.hid (HD1.out.pick HS2 HC2)
  have hy1 : 0 ≤ y ∧ y ≤ 7 := ⟨hy.1, by have := hy.2.2.1 (by omega); omega⟩
  clear hy HS2 HC2 HD1
  go_wp2_with fail
  go_loopw [3, 4, 5] (fun r i t wr => ∃ (j id : Int) (l : List OD) (A : Option Addr) (c : Nat) (at3 sd3 : Int), 0 ≤ j ∧ j + l.length = y ∧ t = .int .i64 j ∧ i = .int .i64 id ∧ r = .slice A l.length c ∧ 1 ≤ id ∧ id ≤ 4 + 3 * l.length ∧ a2 ≤ at3 ∧ at3 ≤ a2 + 12 * l.length ∧ Hid (DL W0 w wr b v bs at3 sd3 (.slice A l.length c) l)) (fun _ _ t _ => (intOf t).toNat)
  case atStart => exact ⟨y, _, [], _, 0, a2, s2, by omega, by simp, rfl, rfl, rfl, by omega, by simp; omega, Int.le_refl _, by simp, HD2.out⟩
  case round =>
    obtain ⟨j, id, l, A, c, at3, sd3, hj, hjx, rfl, rfl, rfl, hi1, hi2, ht1, ht2, HD⟩ := hrel
    by_cases hj0 : 0 < j
    · go_wp2_with fail
      refine (draw_new W0 b v bs at3 sd3 id _ HD.out.src (by omega)).mono ?_
      rintro e w3 ⟨o, at4, sd4, rfl, hoid, hDO, hq1, hq2, HS3, HC3⟩
      have HD3 := Lib.hid (HD.out.pick HS3 HC3)
      have HDO := Lib.hid hDO
      have hz3 : w.heap.size ≤ w3.heap.size := HD3.out.chg.size
      have hll : l.length ≤ 7 := by omega
      clear HS3 HC3 HD hDO hoid
      go_wp2_with (at_builtin; refine wpList_append_o1 rfl _ _ rfl w.heap.size (.slice A l.length c) l o rfl rfl HD3.out.own (by omega) hz3 ?_; intro g c5 w5 hO5 hg5; (have HD5 := Lib.hid (HD3.out.push hO5 hg5 HDO.out)); clear hO5 hg5)
      refine (src_pick W0 b v bs at4 sd4 3 _ HD5.out.src (by omega)).mono ?_
      rintro e w6 ⟨z, at5, sd5, rfl, hz, hq3, hq4, HS6, HC6⟩
      have HD6 := Lib.hid (HD5.out.pick HS6 HC6)
      have hz1 : 0 ≤ z ∧ z ≤ 2 := ⟨hz.1, by have := hz.2.2.1 (by omega); omega⟩
      clear hz HS6 HC6 HD5
      go_wp2_with fail
      go_roundw
      case rel => exact ⟨j - 1, id + (1 + z), l ++ [o], some ⟨g, 0, none⟩, c5, at5, sd5, by omega, by rw [List.length_append]; simp; omega, rfl, congrArg (Value.int .i64) (by omega), by rw [List.length_append]; rfl, by omega, by rw [List.length_append]; simp; omega, by omega, by rw [List.length_append]; simp; omega, by rw [List.length_append]; exact HD6.out⟩
      case measure => simp [intOf]; omega
    · have e0 : ¬ (0:Int) < j := hj0
      go_wp2_with fail
      go_ret
      exact ⟨A, c, l, rfl, by omega, at3, by omega, by omega, sd3, HD.out⟩

theorem DL.turned {W0 w w1 w' : World} {b : Nat} {v : Value} {bs : List UInt8} {at' seed at2 seed2 : Int} {g c k i : Nat} {l : List OD} {o' : OD} {x : Value} (h : DL W0 w w' b v bs at' seed (.slice (some ⟨g, 0, none⟩) l.length c) l)
    (hs : Src W0 (w1.setCell ⟨g, k * 5 + i, none⟩ x) b v bs at2 seed2) (hc : Chg (fun k => k = b) w' w1) (hk : k < l.length) (ht : Turn5 (gd l k) o' i x) :
    Src W0 (w1.setCell ⟨g, k * 5 + i, none⟩ x) b v bs at2 seed2 ∧ OODS (w1.setCell ⟨g, k * 5 + i, none⟩ x) w.heap.size (.slice (some ⟨g, 0, none⟩) l.length c) (l.set k o') ∧ Chg (fun k => k = b) w (w1.setCell ⟨g, k * 5 + i, none⟩ x) := by
  have hg := h.own.ge g rfl
  have hb := h.hb
  refine ⟨hs, (h.own.chg hc (fun q hq e => by have := (h.own.ge q hq).1; omega)).turn rfl hk ht, ?_⟩
  exact chg_fresh (h.chg.trans hc) hg.1 _ _

/-- What l25Bent draws: at most 31 orders, with short names. -/
def Bent (W0 : World) (b : Nat) (v : Value) (bs : List UInt8) (at' : Int) (w : World) : Ending → World → Prop := fun e w' => ∃ (u : Value) (l : List OD) (at2 s2 : Int), e = .returned u ∧ l.length ≤ 31 ∧ (∀ o ∈ l, o.cu.size ≤ 16) ∧ at' ≤ at2 ∧ at2 ≤ at' + 1000 ∧ Src W0 w' b v bs at2 s2 ∧ OODS w' w.heap.size u l ∧ Chg (fun k => k = b) w w'

set_option maxHeartbeats 3200000 in
theorem draw_bent (W0 : World) (b : Nat) (v : Value) (bs : List UInt8) (at' seed : Int) (w : World) (hS : Src W0 w b v bs at' seed) (ha : at' ≤ 10000) :
    Calls Try.prog 22 #[.pointer (some ⟨b, 0, none⟩)] w (Bent W0 b v bs at' w) := by
  have HS := Lib.hid hS; clear hS
  go_enter Try.func22, Try.ntmps22
  go_wp2_with fail
  refine (draw_list W0 b v bs at' seed _ HS.out (by omega)).mono ?_
  rintro e w1 ⟨A, c, l, a1, s1, rfl, hl, h11, h12, hD⟩
  have HD1 := Lib.hid hD
  clear hD HS
  go_wp2_with fail
  refine (src_one W0 b v bs a1 s1 24 _ HD1.out.src (by omega)).mono ?_
  rintro e w2 ⟨q, a2, s2, rfl, h21, h22, HS2, HC2⟩
  have HD2 := Lib.hid (HD1.out.pick HS2 HC2)
  clear HS2 HC2 HD1
  cases q with
  | false =>
    have HD := HD2; clear HD2
    generalize ha3 : a2 = at3 at *
    generalize hs3 : s2 = sd3 at *
    clear ha3 hs3
    have hll : l.length ≤ 31 := by omega
    by_cases hl0 : 0 < l.length
    · have e1 : (0:Int) < l.length := by omega
      have e2 : decide ((0:Int) < l.length) = true := decide_eq_true e1
      obtain ⟨g, hg, hgb, hgl, _⟩ := HD.out.own.blk hl0
      subst hg
      go_wp2_with fail
      refine (src_one W0 b v bs at3 sd3 10 _ HD.out.src (by omega)).mono ?_
      rintro e w5 ⟨q, a5, s5, rfl, h51, h52, HS5, HC5⟩
      have HD5 := Lib.hid (HD.out.pick HS5 HC5)
      clear HS5 HC5 HD
      cases q with
      | false =>
        go_wp2_with fail
        go_ret
        exact ⟨_, l, a5, s5, rfl, by omega, fun o ho => (HD5.out.all o ho).1, by omega, by omega, HD5.out.src, HD5.out.own, HD5.out.chg⟩
      | true =>
        go_wp2_with fail
        refine (src_pick W0 b v bs a5 s5 l.length _ HD5.out.src (by omega)).mono ?_
        rintro e w6 ⟨z, a6, s6, rfl, hz, h61, h62, HS6, HC6⟩
        have HD6 := Lib.hid (HD5.out.pick HS6 HC6)
        obtain ⟨z0, _, z2, z3⟩ := hz
        obtain ⟨k, rfl⟩ := Int.eq_ofNat_of_zero_le z0
        have hk : k < l.length := by
          rcases Nat.lt_or_ge 1 l.length with h | h
          · have := z2 (by omega); omega
          · have := z3 (by omega); omega
        have e3 : (k : Int) < l.length := by omega
        have hbw := HD6.out.hb
        have hww := HD6.out.hw
        have hdo := HD6.out.all (gd l k) (gd_mem hk)
        obtain ⟨c0, c1, c2, c3, c4, hf⟩ := HD6.out.own.cells5 rfl hk
        have HSP := Lib.hid (draw_spoil W0 b v bs a6 s6 g (k * 5) (gd l k) w6 HD6.out.src (by omega) (by omega) (by omega) ⟨c0, c1, c2, c3, c4, hf⟩ hdo.2.1 (by have := hdo.2.2; omega))
        have HDO := Lib.hid hdo.1
        clear HS6 HC6 HD5 z0 z2 z3 c0 c1 c2 c3 c4 hf hdo
        go_wp2_with fail
        refine (show Calls _ _ _ _ _ from HSP.out).mono ?_
        rintro e w7 ⟨o', a7, s7, w8, i, x, rfl, ho', h71, h72, hs7, ht7, hc7, rfl⟩
        have HT := Lib.hid (DL.turned HD6.out hs7 hc7 hk ht7)
        have HO := Lib.hid (ho' HDO.out)
        clear hs7 ht7 hc7 ho'
        generalize w8.setCell ⟨g, k * 5 + i, none⟩ x = w9 at *
        go_wp2_with fail
        go_ret
        refine ⟨_, l.set k o', a7, s7, rfl, by rw [List.length_set]; omega, fun o ho => ?_, by omega, by omega, HT.out.1, HT.out.2.1, HT.out.2.2⟩
        rcases List.mem_or_eq_of_mem_set ho with h | h
        · exact (HD6.out.all o h).1
        · rw [h]; exact HO.out
    · obtain rfl : l = [] := List.eq_nil_of_length_eq_zero (by omega)
      go_wp2_with fail
      go_ret
      exact ⟨_, [], at3, sd3, rfl, by simp, fun o ho => (HD.out.all o ho).1, by omega, by omega, HD.out.src, HD.out.own, HD.out.chg⟩
  | true =>
    have hz2 : w.heap.size ≤ w2.heap.size := HD2.out.chg.size
    have HDa : Hid (DL W0 w (w2.alloc (.cells #[] 40)) b v bs a2 s2 (.slice (some ⟨w2.heap.size, 0, none⟩) 0 0) []) :=
      Lib.hid (HD2.out.other (Chg.of_below (ext_alloc1 _ _) _) (ood_lit w2 _ hz2) (fun o ho => by simp at ho))
    go_wp2_with fail
    refine (src_pick W0 b v bs a2 s2 2 _ HDa.out.src (by omega)).mono ?_
    rintro e w3 ⟨y, a3, s3, rfl, hy, h31, h32, HS3, HC3⟩
    have HD3 := Lib.hid (HDa.out.pick HS3 HC3)
    have hy1 : 0 ≤ y ∧ y ≤ 1 := ⟨hy.1, by have := hy.2.2.1 (by omega); omega⟩
    obtain ⟨g0, hg0⟩ : ∃ g0, w2.heap.size = g0 := ⟨_, rfl⟩
    rw [hg0] at HD3
    clear hy HS3 HC3 HDa HD2
    go_wp2_with fail
    go_loopw [3, 4] (fun r t wr => ∃ (j : Int) (l : List OD) (A : Option Addr) (c : Nat) (at3 sd3 : Int), 0 ≤ j ∧ j + l.length = 30 + y ∧ t = .int .i64 j ∧ r = .slice A l.length c ∧ a3 ≤ at3 ∧ at3 ≤ a3 + 10 * l.length ∧ Hid (DL W0 w wr b v bs at3 sd3 (.slice A l.length c) l)) (fun _ t _ => (intOf t).toNat)
    case atStart => exact ⟨30 + y, [], _, 0, a3, s3, by omega, by simp, rfl, rfl, Int.le_refl _, by simp, HD3.out⟩
    case round =>
      clear hl
      obtain ⟨j, l, A, c, at3, sd3, hj, hjx, rfl, rfl, ht1, ht2, HD⟩ := hrel
      by_cases hj0 : 0 < j
      · have hll : l.length ≤ 30 := by omega
        go_wp2_with fail
        refine (draw_new W0 b v bs at3 sd3 _ _ HD.out.src (by omega)).mono ?_
        rintro e w4 ⟨o, at4, sd4, rfl, hoid, hDO, hq1, hq2, HS3, HC3⟩
        have HD4 := Lib.hid (HD.out.pick HS3 HC3)
        have HDO := Lib.hid hDO
        have hz4 : w.heap.size ≤ w4.heap.size := HD4.out.chg.size
        clear HS3 HC3 HD hDO hoid
        go_wp2_with (at_builtin; refine wpList_append_o1 rfl _ _ rfl w.heap.size (.slice A l.length c) l o rfl rfl HD4.out.own (by omega) hz4 ?_; intro g c5 w5 hO5 hg5; (have HD5 := Lib.hid (HD4.out.push hO5 hg5 HDO.out)); clear hO5 hg5)
        go_roundw
        case rel => exact ⟨j - 1, l ++ [o], some ⟨g, 0, none⟩, c5, at4, sd4, by omega, by rw [List.length_append]; simp; omega, congrArg (Value.int .i64) (by omega), by rw [List.length_append]; rfl, by omega, by rw [List.length_append]; simp; omega, by rw [List.length_append]; exact HD5.out⟩
        case measure => simp [intOf]; omega
      · have e0 : ¬ (0:Int) < j := hj0
        have hll : l.length ≤ 31 := by omega
        by_cases hl0 : 0 < l.length
        · have e1 : (0:Int) < l.length := by omega
          have e2 : decide ((0:Int) < l.length) = true := decide_eq_true e1
          obtain ⟨g, hg, hgb, hgl, _⟩ := HD.out.own.blk hl0
          subst hg
          go_wp2_with fail
          refine (src_one W0 b v bs at3 sd3 10 _ HD.out.src (by omega)).mono ?_
          rintro e w5 ⟨q, a5, s5, rfl, h51, h52, HS5, HC5⟩
          have HD5 := Lib.hid (HD.out.pick HS5 HC5)
          clear HS5 HC5 HD
          cases q with
          | false =>
            go_wp2_with fail
            go_ret
            exact ⟨_, l, a5, s5, rfl, by omega, fun o ho => (HD5.out.all o ho).1, by omega, by omega, HD5.out.src, HD5.out.own, HD5.out.chg⟩
          | true =>
            go_wp2_with fail
            refine (src_pick W0 b v bs a5 s5 l.length _ HD5.out.src (by omega)).mono ?_
            rintro e w6 ⟨z, a6, s6, rfl, hz, h61, h62, HS6, HC6⟩
            have HD6 := Lib.hid (HD5.out.pick HS6 HC6)
            obtain ⟨z0, _, z2, z3⟩ := hz
            obtain ⟨k, rfl⟩ := Int.eq_ofNat_of_zero_le z0
            have hk : k < l.length := by
              rcases Nat.lt_or_ge 1 l.length with h | h
              · have := z2 (by omega); omega
              · have := z3 (by omega); omega
            have e3 : (k : Int) < l.length := by omega
            have hbw := HD6.out.hb
            have hww := HD6.out.hw
            have hdo := HD6.out.all (gd l k) (gd_mem hk)
            obtain ⟨c0, c1, c2, c3, c4, hf⟩ := HD6.out.own.cells5 rfl hk
            have HSP := Lib.hid (draw_spoil W0 b v bs a6 s6 g (k * 5) (gd l k) w6 HD6.out.src (by omega) (by omega) (by omega) ⟨c0, c1, c2, c3, c4, hf⟩ hdo.2.1 (by have := hdo.2.2; omega))
            have HDO := Lib.hid hdo.1
            clear HS6 HC6 HD5 z0 z2 z3 c0 c1 c2 c3 c4 hf hdo
            go_wp2_with fail
            refine (show Calls _ _ _ _ _ from HSP.out).mono ?_
            rintro e w7 ⟨o', a7, s7, w8, i, x, rfl, ho', h71, h72, hs7, ht7, hc7, rfl⟩
            have HT := Lib.hid (DL.turned HD6.out hs7 hc7 hk ht7)
            have HO := Lib.hid (ho' HDO.out)
            clear hs7 ht7 hc7 ho'
            generalize w8.setCell ⟨g, k * 5 + i, none⟩ x = w9 at *
            go_wp2_with fail
            go_ret
            refine ⟨_, l.set k o', a7, s7, rfl, by rw [List.length_set]; omega, fun o ho => ?_, by omega, by omega, HT.out.1, HT.out.2.1, HT.out.2.2⟩
            rcases List.mem_or_eq_of_mem_set ho with h | h
            · exact (HD6.out.all o h).1
            · rw [h]; exact HO.out
        · obtain rfl : l = [] := List.eq_nil_of_length_eq_zero (by omega)
          go_wp2_with fail
          go_ret
          exact ⟨_, [], at3, sd3, rfl, by simp, fun o ho => (HD.out.all o ho).1, by omega, by omega, HD.out.src, HD.out.own, HD.out.chg⟩

set_option maxHeartbeats 1600000 in
theorem draw_stock (W0 : World) (b : Nat) (v : Value) (bs : List UInt8) (at' seed : Int) (w : World) (hS : Src W0 w b v bs at' seed) (ha : at' ≤ 1000000) :
    Calls Try.prog 23 #[.pointer (some ⟨b, 0, none⟩)] w fun e w' => ∃ (x at2 s2 : Int), e = .returned (.int .i64 x) ∧ at' ≤ at2 ∧ at2 ≤ at' + 4 ∧ Src W0 w' b v bs at2 s2 ∧ Chg (fun k => k = b) w w' := by
  have HS := Lib.hid hS; clear hS
  go_enter Try.func23, Try.ntmps23
  go_wp2_with fail
  refine (src_one W0 b v bs at' seed 10 _ HS.out (by omega)).mono ?_
  rintro e w1 ⟨q, a1, s1, rfl, h1, h2, HS1, HC1⟩
  have HS1 := Lib.hid HS1
  have HC1 := Lib.hid HC1
  cases q with
  | false =>
    go_wp2_with fail
    refine (src_pick W0 b v bs a1 s1 150 _ HS1.out (by omega)).mono ?_
    rintro e w2 ⟨x, a2, s2, rfl, hx, h3, h4, HS2, HC2⟩
    obtain ⟨hx0, hx1, _, _⟩ := hx
    go_wp2_with fail
    go_ret
    first | exact ⟨_, a2, s2, rfl, by omega, by omega, HS2, HC1.out.trans HC2⟩ | exact ⟨_, rfl, a2, by omega, by omega, ⟨s2, HS2⟩, HC1.out.trans HC2⟩
  | true =>
    go_wp2_with fail
    refine (src_litI W0 b v bs a1 s1 [-1, 0, 10000000, 10000001] (by simp) (by simp) w1 HS1.out (by omega) _ _ rfl).mono ?_
    rintro e w2 ⟨x, a2, s2, rfl, hx, h3, h4, HS2, HC2⟩
    go_wp2_with fail
    go_ret
    first | exact ⟨_, a2, s2, rfl, by omega, by omega, HS2, HC1.out.trans HC2⟩ | exact ⟨_, rfl, a2, by omega, by omega, ⟨s2, HS2⟩, HC1.out.trans HC2⟩
set_option maxHeartbeats 1600000 in
theorem draw_each (W0 : World) (b : Nat) (v : Value) (bs : List UInt8) (at' seed : Int) (w : World) (hS : Src W0 w b v bs at' seed) (ha : at' ≤ 1000000) :
    Calls Try.prog 33 #[.pointer (some ⟨b, 0, none⟩)] w fun e w' => ∃ (x at2 s2 : Int), e = .returned (.int .i64 x) ∧ at' ≤ at2 ∧ at2 ≤ at' + 4 ∧ Src W0 w' b v bs at2 s2 ∧ Chg (fun k => k = b) w w' := by
  have HS := Lib.hid hS; clear hS
  go_enter Try.func33, Try.ntmps33
  go_wp2_with fail
  refine (src_one W0 b v bs at' seed 10 _ HS.out (by omega)).mono ?_
  rintro e w1 ⟨q, a1, s1, rfl, h1, h2, HS1, HC1⟩
  have HS1 := Lib.hid HS1
  have HC1 := Lib.hid HC1
  cases q with
  | false =>
    go_wp2_with fail
    refine (src_pick W0 b v bs a1 s1 30 _ HS1.out (by omega)).mono ?_
    rintro e w2 ⟨x, a2, s2, rfl, hx, h3, h4, HS2, HC2⟩
    obtain ⟨hx0, hx1, _, _⟩ := hx
    go_wp2_with fail
    go_ret
    first | exact ⟨_, a2, s2, rfl, by omega, by omega, HS2, HC1.out.trans HC2⟩ | exact ⟨_, rfl, a2, by omega, by omega, ⟨s2, HS2⟩, HC1.out.trans HC2⟩
  | true =>
    go_wp2_with fail
    refine (src_litI W0 b v bs a1 s1 [-1, 0, 100000, 100001] (by simp) (by simp) w1 HS1.out (by omega) _ _ rfl).mono ?_
    rintro e w2 ⟨x, a2, s2, rfl, hx, h3, h4, HS2, HC2⟩
    go_wp2_with fail
    go_ret
    first | exact ⟨_, a2, s2, rfl, by omega, by omega, HS2, HC1.out.trans HC2⟩ | exact ⟨_, rfl, a2, by omega, by omega, ⟨s2, HS2⟩, HC1.out.trans HC2⟩

end Go.Proofs.Ythcckonkhbmcmaa
