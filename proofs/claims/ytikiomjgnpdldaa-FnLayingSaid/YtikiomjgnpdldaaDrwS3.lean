/-
  Drawn sites, third part: l24Ask, l24Cure, l11DrawMany.
-/
import Derived.Test.YtikiomjgnpdldaaDrwS2
namespace Go.Proofs.Ytikiomjgnpdldaa
open Go.ChangeShapes Go.WideShapes Go.ChangeAt Go.RowKit Go.Sort
set_option linter.unusedVariables false
set_option maxRecDepth 100000

theorem DT.made {W0 w w1 : World} {b : Nat} {v : Value} {bs : List UInt8} {a1 s1 : Int} {s : ByteArray} {A : Option Addr} {c : Nat} {xs : List Int} (hb : b < w.heap.size) (hw : W0.heap.size ≤ w.heap.size) (HS1 : Src W0 w1 b v bs a1 s1)
    (HO1 : OI w1 (w.alloc (.cells #[.string ⟨#[]⟩, .slice none 0 0] 26)).heap.size (.slice A xs.length c) xs) (HC1 : Chg (fun k => k = b) (w.alloc (.cells #[.string ⟨#[]⟩, .slice none 0 0] 26)) w1) :
    DT W0 w (w1.alloc (.cells #[.string s, .slice A xs.length c] 26)) b v bs a1 s1 w.heap.size w1.heap.size s (.slice A xs.length c) xs := by
  have hsz1 : w.heap.size < w1.heap.size := by have := HC1.size; rw [World.size_alloc] at this; omega
  exact ⟨HS1.turn (Chg.of_below (ext_alloc1 _ _) (fun _ => False)) (fun _ h => h.elim) (fun h => h), ((box2_new w _ _ _).chg HC1 (by omega)).chg (Chg.of_below (ext_alloc1 _ _) (fun _ => False)) (fun h => h), box2_new w1 _ _ _,
      (HO1.mono (show w.heap.size ≤ _ by rw [World.size_alloc]; omega)).ext (ext_alloc1 _ _), ((Chg.of_below (ext_alloc1 w _) _).trans HC1).trans (Chg.of_below (ext_alloc1 _ _) _), hb, Nat.le_refl _, by omega, by omega, fun k hk => by have := HO1.ge k hk; rw [World.size_alloc] at this; omega, hw⟩

theorem pick_200 {n x : Int} (h : pickOk n x) (hn : n ≤ 200) : x ≤ 200 := by
  obtain ⟨_, _, h2, h3⟩ := h
  rcases Int.lt_or_le 1 n with h9 | h9
  · have := h2 h9; omega
  · have := h3 h9; omega
/-- What l24Ask draws: a site and a day. -/
def AskS (W0 : World) (b : Nat) (v : Value) (bs : List UInt8) (at' : Int) (w : World) : Ending → World → Prop := fun e w' => ∃ (s : ByteArray) (A : Option Addr) (c : Nat) (xs : List Int) (d at2 s2 : Int), e = .returned (.tuple #[.agg #[.string s, .slice A xs.length c], .int .i64 d]) ∧ s.size ≤ 200 ∧ xs.length ≤ 200 ∧ -1 ≤ d ∧ d ≤ 300 ∧ at' ≤ at2 ∧ at2 ≤ at' + 1500 ∧ Src W0 w' b v bs at2 s2 ∧ OI w' w.heap.size (.slice A xs.length c) xs ∧ Chg (fun k => k = b) w w'
set_option maxHeartbeats 3200000 in
theorem draw_ask (W0 : World) (b : Nat) (v : Value) (bs : List UInt8) (at' seed : Int) (w : World) (hS : Src W0 w b v bs at' seed) (ha : at' ≤ 1000) :
    Calls Try.prog 42 #[.pointer (some ⟨b, 0, none⟩)] w (AskS W0 b v bs at' w) := by
  have HS := Lib.hid hS
  have hbl := hS.lt
  have hwl := hS.old.size
  clear hS
  go_enter Try.func42, Try.ntmps42
  go_wp2_with fail
  have HSA := Lib.hid (HS.out.turn (Chg.of_below (ext_alloc1 w (.cells #[.string ⟨#[]⟩, .slice none 0 0] 26)) (fun _ => False)) (fun _ h => h.elim) (fun h => h))
  refine (draw_bent_site W0 b v bs at' seed _ HSA.out (by omega)).mono ?_
  rintro e w1 ⟨s, A, c, xs, a1, s1, rfl, hs1, hxl, h1, h2, HS1, HO1, HC1⟩
  have HD0 := Lib.hid (DT.made (s := s) hbl hwl HS1 HO1 HC1)
  clear HS1 HO1 HC1 HSA
  go_wp2_with fail
  generalize w1.alloc (.cells #[.string s, .slice A xs.length c] 26) = wB at *
  generalize w1.heap.size = q at *
  refine (src_one W0 b v bs a1 s1 10 _ HD0.out.src (by omega)).mono ?_
  rintro e w2 ⟨y, a2, s2, rfl, h3, h4, HS2, HC2⟩
  have HD2 := Lib.hid (HD0.out.pick HS2 HC2)
  clear HS2 HC2 HD0
  obtain ⟨hc0, hc1, hf0, hf1, _⟩ := HD2.out.bq
  cases y with
  | false =>
    have HAM := Lib.hid (src_pick W0 b v bs a2 s2 s.size w2.drew (src_drew HD2.out.src 1) (by omega))
    go_wp2_with fail
    go_region_with ((go_at_call 45; refine (show Calls _ _ _ _ _ from HAM.out).mono ?_; rintro e w3 ⟨x, a3, s3, rfl, hx, h5, h6, HS3, HC3⟩; (have HD3 := Lib.hid (HD2.out.pick HS3 ((Chg.of_below (ext_drew (ext_refl _)) _).trans HC3))); (have hx4 := pick_200 hx (by omega)); (have hx0 := hx.1); (obtain ⟨hp0, hp1, hpf0, hpf1, _⟩ := HD3.out.bp); (obtain ⟨hd0, hd1, hg0, hg1, _⟩ := HD3.out.bq); clear HS3 HC3 hx))
    all_goals
      first | (go_wp2_with fail) | skip
      refine bodyPost_ret (v := .tuple #[.agg #[.string s, .slice A xs.length c], .int .i64 x]) (by simp [results, Try.results42, go_sem, hp0, hp1]) rfl ?_
      have HF := HD3.out.out (.string s) (.slice A xs.length c)
      exact ⟨s, A, c, xs, x, a3, s3, rfl, by omega, by omega, by omega, by omega, by omega, by omega, HF.1, HF.2.1, HF.2.2⟩
  | true =>
    have HWR : Hid (IntKind.i64.wrap ((s.size : Int) - 1) = (s.size : Int) - 1 ∧ IntKind.i64.wrap ((s.size : Int) + 1) = (s.size : Int) + 1) := Lib.hid (by constructor <;> simp [IntKind.wrap, IntKind.signed, IntKind.bits] <;> omega)
    have HAM := Lib.hid (src_litD W0 b v bs a2 s2 [-1, 0, IntKind.i64.wrap ((s.size : Int) - 1), s.size, IntKind.i64.wrap ((s.size : Int) + 1)] (by simp) (by simp) w2 HD2.out.src (by omega) 2 _ rfl)
    go_wp2_with fail
    go_region_with ((go_at_call 44; refine (show Calls _ _ _ _ _ from HAM.out).mono ?_; rintro e w3 ⟨x, a3, s3, rfl, hx, h5, h6, HS3, HC3⟩; (have HD3 := Lib.hid (HD2.out.pick HS3 HC3)); (have hx4 : -1 ≤ x ∧ x ≤ 201 := (by rw [HWR.out.1, HWR.out.2] at hx; simp at hx; omega)); (obtain ⟨hp0, hp1, hpf0, hpf1, _⟩ := HD3.out.bp); (obtain ⟨hd0, hd1, hg0, hg1, _⟩ := HD3.out.bq); clear HS3 HC3 hx))
    all_goals
      first | (go_wp2_with fail) | skip
      refine bodyPost_ret (v := .tuple #[.agg #[.string s, .slice A xs.length c], .int .i64 x]) (by simp [results, Try.results42, go_sem, hp0, hp1]) rfl ?_
      have HF := HD3.out.out (.string s) (.slice A xs.length c)
      exact ⟨s, A, c, xs, x, a3, s3, rfl, by omega, by omega, by omega, by omega, by omega, by omega, HF.1, HF.2.1, HF.2.2⟩

/-- A number that is drawn. -/
def NumS (W0 : World) (b : Nat) (v : Value) (bs : List UInt8) (at' : Int) (w : World) : Ending → World → Prop := fun e w' => ∃ (x at2 s2 : Int), e = .returned (.int .i64 x) ∧ at' ≤ at2 ∧ at2 ≤ at' + 8 ∧ Src W0 w' b v bs at2 s2 ∧ Chg (fun k => k = b) w w'
set_option maxHeartbeats 1600000 in
theorem draw_cure (W0 : World) (b : Nat) (v : Value) (bs : List UInt8) (at' seed : Int) (w : World) (hS : Src W0 w b v bs at' seed) (ha : at' ≤ 100000) :
    Calls Try.prog 64 #[.pointer (some ⟨b, 0, none⟩)] w (NumS W0 b v bs at' w) := by
  have HS := Lib.hid hS; clear hS
  go_enter Try.func64, Try.ntmps64
  go_wp2_with fail
  refine (src_one W0 b v bs at' seed 10 _ HS.out (by omega)).mono ?_
  rintro e w1 ⟨q, a1, s1, rfl, h1, h2, HS1, HC1⟩
  have HS1 := Lib.hid HS1
  have HC1 := Lib.hid HC1
  cases q with
  | false =>
    go_wp2_with fail
    refine (src_pick W0 b v bs a1 s1 5 _ HS1.out (by omega)).mono ?_
    rintro e w2 ⟨x, a2, s2, rfl, hx, h3, h4, HS2, HC2⟩
    go_wp2_with fail
    go_ret
    exact ⟨x, a2, s2, rfl, by omega, by omega, HS2, HC1.out.trans HC2⟩
  | true =>
    go_wp2_with fail
    refine (src_litI W0 b v bs a1 s1 [-1, 0, 28, 29] (by simp) (by simp) w1 HS1.out (by omega) _ _ rfl).mono ?_
    rintro e w2 ⟨x, a2, s2, rfl, hx, h3, h4, HS2, HC2⟩
    go_wp2_with fail
    go_ret
    exact ⟨x, a2, s2, rfl, by omega, by omega, HS2, HC1.out.trans HC2⟩
set_option maxHeartbeats 1600000 in
theorem draw_many (W0 : World) (b : Nat) (v : Value) (bs : List UInt8) (at' seed : Int) (w : World) (hS : Src W0 w b v bs at' seed) (ha : at' ≤ 100000) :
    Calls Try.prog 65 #[.pointer (some ⟨b, 0, none⟩)] w (NumS W0 b v bs at' w) := by
  have HS := Lib.hid hS; clear hS
  go_enter Try.func65, Try.ntmps65
  go_wp2_with fail
  refine (src_one W0 b v bs at' seed 10 _ HS.out (by omega)).mono ?_
  rintro e w1 ⟨q, a1, s1, rfl, h1, h2, HS1, HC1⟩
  have HS1 := Lib.hid HS1
  have HC1 := Lib.hid HC1
  cases q with
  | false =>
    go_wp2_with fail
    refine (src_pick W0 b v bs a1 s1 200 _ HS1.out (by omega)).mono ?_
    rintro e w2 ⟨x, a2, s2, rfl, hx, h3, h4, HS2, HC2⟩
    have HS2 := Lib.hid HS2
    have HC2 := Lib.hid HC2
    have hx1 : 0 ≤ x ∧ x ≤ 199 := ⟨hx.1, by have := hx.2.2.1 (by omega); omega⟩
    clear hx
    go_wp2_with fail
    refine (src_pick W0 b v bs a2 s2 60 _ HS2.out (by omega)).mono ?_
    rintro e w3 ⟨y, a3, s3, rfl, hy, h5, h6, HS3, HC3⟩
    have hy1 : 0 ≤ y ∧ y ≤ 59 := ⟨hy.1, by have := hy.2.2.1 (by omega); omega⟩
    have hm : 0 ≤ x * (1 + y) ∧ x * (1 + y) ≤ 199 * 60 := ⟨Int.mul_nonneg hx1.1 (by omega), Int.mul_le_mul hx1.2 (by omega) (by omega) (by omega)⟩
    clear hy
    go_wp2_with fail
    go_ret
    exact ⟨_, a3, s3, rfl, by omega, by omega, HS3, (HC1.out.trans HC2.out).trans HC3⟩
  | true =>
    go_wp2_with fail
    refine (src_litI W0 b v bs a1 s1 [-1, 0, 1, 1000000, 1000001, 9223372036854775807] (by simp) (by simp) w1 HS1.out (by omega) _ _ rfl).mono ?_
    rintro e w2 ⟨x, a2, s2, rfl, hx, h3, h4, HS2, HC2⟩
    go_wp2_with fail
    go_ret
    exact ⟨x, a2, s2, rfl, by omega, by omega, HS2, HC1.out.trans HC2⟩

end Go.Proofs.Ytikiomjgnpdldaa
