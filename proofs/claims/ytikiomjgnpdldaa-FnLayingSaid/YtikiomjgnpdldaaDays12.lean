/-
  Days at the site, twelfth part: ChangeWeather.
-/
import Derived.Test.YtikiomjgnpdldaaDays11
import Derived.Test.YtikiomjgnpdldaaClone
import Derived.Deep.RegionHeld3
import Derived.Deep.DrawnRows
import Derived.IntWalk
namespace Go.Proofs.Ytikiomjgnpdldaa
open Go.ChangeShapes Go.WideShapes Go.ChangeAt Go.RowKit Go.Sort
set_option linter.unusedVariables false
attribute [local go_sem ↓] Go.wp_at_zero Go.wp_at_succ

/-- The weather with day d's changed to t. -/
def swapW (s : ByteArray) (d : Nat) (t : ByteArray) : ByteArray := s.extract 0 d ++ t ++ s.extract (d + 1) s.size
def mChangeWeather (s : ByteArray) (xs : List Int) (day : Int) (t : ByteArray) : ByteArray × List Int × Int :=
  bif vSite s xs then (bif inB day 0 ((s.size : Int) - 1) then (bif decide (t.size = 1) && lets t t.size then (swapW s day.toNat t, xs, 0) else (⟨#[]⟩, [], 7)) else (⟨#[]⟩, [], 2)) else (⟨#[]⟩, [], 1)
/-- The result of a function that returns a site and a code. -/
def RetS (s : ByteArray) (xs : List Int) (code : Int) (w : World) : Ending → World → Prop := fun e w' => ∃ v, e = .returned (.tuple #[v, .int .i64 code]) ∧ OST w' w.heap.size v s xs ∧ SmST s xs ∧ Below w.heap.size w w'
theorem ost_zero (w : World) (B : Nat) : OST w B (.agg #[.string ⟨#[]⟩, .slice none 0 0]) ⟨#[]⟩ [] := ⟨none, 0, rfl, oi_nil _ _⟩
theorem sm_zero : SmST ⟨#[]⟩ [] := by unfold SmST; exact ⟨by show 0 ≤ _; omega, by show 0 ≤ _; omega⟩
/-- A block of two cells that can be written. -/
structure Box2 (w : World) (b : Nat) (u v : Value) : Prop where
  c0 : w.cell? ⟨b, 0, none⟩ = some u
  c1 : w.cell? ⟨b, 1, none⟩ = some v
  f0 : w.frozen? ⟨b, 0, none⟩ = false
  f1 : w.frozen? ⟨b, 1, none⟩ = false
  lt : b < w.heap.size
theorem Box2.ext {w w' : World} {b : Nat} {u v : Value} (h : Box2 w b u v) (hb : Below w.heap.size w w') : Box2 w' b u v :=
  ⟨cell_keep h.c0 hb, cell_keep h.c1 hb, (hb.frozen (p := ⟨b, 0, none⟩) h.lt).trans h.f0, (hb.frozen (p := ⟨b, 1, none⟩) h.lt).trans h.f1, Nat.lt_of_lt_of_le h.lt hb.size⟩
theorem box2_new (w : World) (u v : Value) (T : TypeId) : Box2 (w.alloc (.cells #[u, v] T)) w.heap.size u v :=
  ⟨by simp [go_sem], by simp [go_sem], by rw [Go.RowKit.frozen?_alloc_cells]; simp [World.frozen?], by rw [Go.RowKit.frozen?_alloc_cells]; simp [World.frozen?], by simp⟩

theorem Box2.set {w : World} {b : Nat} {u v : Value} (h : Box2 w b u v) (u' v' : Value) : Box2 ((w.setCell ⟨b, 0, none⟩ u').setCell ⟨b, 1, none⟩ v') b u' v' :=
  ⟨by rw [World.cell?_setCell_other _ _ _ _ (by simp)]; exact World.cell?_setCell_same _ _ _ h.c0, World.cell?_setCell_same _ _ _ (u := v) (by rw [World.cell?_setCell_other _ _ _ _ (by simp)]; exact h.c1),
    by simpa using h.f0, by simpa using h.f1, by simpa using h.lt⟩
theorem below_set2 {w : World} {B b : Nat} (hB : B ≤ b) (u' v' : Value) : Below B w ((w.setCell ⟨b, 0, none⟩ u').setCell ⟨b, 1, none⟩ v') :=
  ((Below.refl B w).setCell hB u').setCell hB v'
theorem OI.set2 {w : World} {base b : Nat} {v : Value} {xs : List Int} (h : OI w base v xs) (hb : b < base) (u' v' : Value) : OI ((w.setCell ⟨b, 0, none⟩ u').setCell ⟨b, 1, none⟩ v') base v xs := by
  refine h.chg (S := fun k => k = b) ?_ ?_
  · have h1 := ((Below.refl b w).setCell (p := ⟨b, 0, none⟩) (Nat.le_refl b) u').setCell (p := ⟨b, 1, none⟩) (Nat.le_refl b) v'
    refine ⟨h1.os, h1.tape, h1.output, by simp, fun k hk hn => ?_⟩
    rw [heap_setCell_other _ _ _ _ hn, heap_setCell_other _ _ _ _ hn]
  · intro k hk he
    have := h.ge k hk
    omega

theorem swap_sm {s t : ByteArray} {xs : List Int} {d : Nat} (h : SmST s xs) (hd : d < s.size) (ht : t.size = 1) : SmST (swapW s d t) xs := by
  refine ⟨?_, h.2⟩
  have := h.1
  simp [swapW]
  omega

set_option maxHeartbeats 1600000 in
theorem spec_ChangeWeather (v : Value) (s : ByteArray) (xs : List Int) (day : Int) (t : ByteArray) (w : World) (hR : ST w v s xs) (hsm : SmST s xs) (ht : t.size ≤ 1048576) :
    Calls Try.prog 40 #[v, .int .i64 day, .string t] w (RetS (mChangeWeather s xs day t).1 (mChangeWeather s xs day t).2.1 (mChangeWeather s xs day t).2.2 w) := by
  obtain ⟨A, c, rfl, hR⟩ := hR
  have HP := Lib.hid ((ps_box (T := 26) (s := s) hR).ext (ext_alloc1 _ (.cells #[.string ⟨#[]⟩, .slice none 0 0] 26)))
  have e3 : (s.size:Int) ≤ 1048576 := by have := hsm.1; omega
  have e4 : (t.size:Int) ≤ 1048576 := by omega
  have HS := Lib.hid hsm; clear hsm hR
  go_enter Try.func40, Try.ntmps40
  go_wp2_with fail
  refine (spec_day _ s xs day HS.out.1 _ HP.out).mono ?_
  rintro e w1 ⟨rfl, hb⟩
  have HW := Lib.hid (ext_trans (ext_alloc (ext_alloc1 _ _) _) hb)
  have HP1 := Lib.hid (HP.out.ext hb)
  have hz := (box2_new (w.alloc (.cells #[.string s, .slice A xs.length c] 26)) (.string ⟨#[]⟩) (.slice none 0 0) 26).ext hb
  simp only [World.size_alloc] at hz
  obtain ⟨hz0, hz1, hf0, hf1, hz2⟩ := hz
  have hsz := hb.size
  simp only [World.size_alloc] at hsz
  clear hb
  cases hv : vSite s xs with
  | false =>
    have e1 : codeDay s xs day = 1 := by unfold codeDay; rw [hv]; rfl
    have HM : Hid (mChangeWeather s xs day t = (⟨#[]⟩, [], 1)) := Lib.hid (by unfold mChangeWeather; rw [hv]; rfl)
    clear hv
    rw [e1]; clear e1
    go_wp2_with fail
    have hz := (Box2.mk hz0 hz1 hf0 hf1 hz2).set (.string ⟨#[]⟩) (.slice none 0 0)
    refine bodyPost_ret (v := .tuple #[.agg #[.string ⟨#[]⟩, .slice none 0 0], .int .i64 1]) (by simp [results, Try.results40, go_sem, hz.c0, hz.c1]) rfl ?_
    rw [HM.out]
    exact ⟨_, rfl, ost_zero _ _, sm_zero, HW.out.trans (below_set2 (by omega) _ _)⟩
  | true =>
    cases hi : inB day 0 ((s.size : Int) - 1) with
    | false =>
      have e1 : codeDay s xs day = 2 := by unfold codeDay; rw [hv, hi]; rfl
      have HM : Hid (mChangeWeather s xs day t = (⟨#[]⟩, [], 2)) := Lib.hid (by unfold mChangeWeather; rw [hv, hi]; rfl)
      clear hv hi
      rw [e1]; clear e1
      go_wp2_with fail
      have hz := (Box2.mk hz0 hz1 hf0 hf1 hz2).set (.string ⟨#[]⟩) (.slice none 0 0)
      refine bodyPost_ret (v := .tuple #[.agg #[.string ⟨#[]⟩, .slice none 0 0], .int .i64 2]) (by simp [results, Try.results40, go_sem, hz.c0, hz.c1]) rfl ?_
      rw [HM.out]
      exact ⟨_, rfl, ost_zero _ _, sm_zero, HW.out.trans (below_set2 (by omega) _ _)⟩
    | true =>
      have e1 : codeDay s xs day = 0 := by unfold codeDay; rw [hv, hi]; rfl
      have hd := inB_iff.1 hi
      obtain ⟨d, rfl⟩ := Int.eq_ofNat_of_zero_le hd.1
      have hd1 : d < s.size := by omega
      have HM : Hid (mChangeWeather s xs d t = bif decide (t.size = 1) && lets t t.size then (swapW s d t, xs, 0) else (⟨#[]⟩, [], 7)) := Lib.hid (by unfold mChangeWeather; rw [hv, hi]; rfl)
      clear hv hi hd
      rw [e1]; clear e1
      by_cases ht1 : t.size = 1
      · have HB := Lib.hid (byt_eq t 0 (by omega))
        have ht2 : (t.size : Int) = 1 := by omega
        cases hl : letB (byt t 0) with
        | false =>
          have HM2 : Hid (mChangeWeather s xs d t = (⟨#[]⟩, [], 7)) := Lib.hid (by
            rw [HM.out, ht1, lets_succ, hl]; simp)
          have HL := Lib.hid hl; clear hl
          go_wp2_with fail
          refine (RetP.bool (spec_letter _ _) (show letB (t[0].toNat : Int) = false by rw [HB.out]; exact HL.out)).mono ?_
          rintro e w2 ⟨rfl, rfl⟩
          go_wp2_with fail
          have hz := (Box2.mk hz0 hz1 hf0 hf1 hz2).set (.string ⟨#[]⟩) (.slice none 0 0)
          refine bodyPost_ret (v := .tuple #[.agg #[.string ⟨#[]⟩, .slice none 0 0], .int .i64 7]) (by simp [results, Try.results40, go_sem, hz.c0, hz.c1]) rfl ?_
          rw [HM2.out]
          exact ⟨_, rfl, ost_zero _ _, sm_zero, HW.out.trans (below_set2 (by omega) _ _)⟩
        | true =>
          have HM2 : Hid (mChangeWeather s xs d t = (swapW s d t, xs, 0)) := Lib.hid (by
            rw [HM.out, ht1, lets_succ, hl]; simp [lets])
          have HL := Lib.hid hl; clear hl
          obtain ⟨hc0, A1, c1, hc1, hR1⟩ := HP1.out
          have HR1 := Lib.hid hR1; clear hR1
          have e5 : IntKind.i64.wrap ((d:Int) + 1) = (d:Int) + 1 := IntWalk.i64_in _ (by omega)
          have e6 : (0:Int) ≤ (d:Int) + 1 := by omega
          have e7 : ((d:Int) + 1).toNat = d + 1 := by omega
          have e8 : (d:Int) + 1 ≤ s.size := by omega
          have e9 : (d:Int) ≤ s.size := by omega
          have e10 : ¬ 9223372036854775807 < min d s.size + 1 := by omega
          have e11 : ¬ 9223372036854775807 < min d s.size + 1 + (s.size - (d + 1)) := by have := HS.out.1; omega
          have e12 : d < s.size := by omega
          have hd0 : w1.drew.cell? ⟨w.heap.size, 0, none⟩ = some (.string s) := hc0
          have hd1 : w1.drew.cell? ⟨w.heap.size, 1, none⟩ = some (.slice A1 xs.length c1) := hc1
          have Hz : Hid (Box2 w1.drew (w.heap.size + 1) (.string ⟨#[]⟩) (.slice none 0 0)) := Lib.hid ⟨hz0, hz1, hf0, hf1, hz2⟩
          go_wp2_with fail
          refine (RetP.bool (spec_letter _ _) (show letB (t[0].toNat : Int) = true by rw [HB.out]; exact HL.out)).mono ?_
          rintro e w2 ⟨rfl, rfl⟩
          go_wp2_with fail
          go_region_held3 (fun w' => w'.cell? ⟨w.heap.size, 0, none⟩ = some (.string s) ∧ w'.cell? ⟨w.heap.size, 1, none⟩ = some (.slice A1 xs.length c1)) (first | exact ⟨hd0, hd1⟩ | exact ⟨he0, he1⟩ | exact ⟨(World.cell?_setCell_far _ _ _ _ (by simp)).trans ((World.cell?_setCell_far _ _ _ _ (by simp)).trans he0), (World.cell?_setCell_far _ _ _ _ (by simp)).trans ((World.cell?_setCell_far _ _ _ _ (by simp)).trans he1)⟩)
            (first
              | (go_at_call 59; (have ht := spec_own _ xs _ (HR1.out.ext (ext_drew (ext_refl _))) HS.out.2); (with_reducible refine ht.mono ?_); clear ht; rintro e w3 ⟨A2, c2, rfl, hO, hb⟩; (have he0 := cell_keep hd0 hb); (have he1 := cell_keep hd1 hb); (obtain ⟨hz0, hz1, hf0, hf1, hz2⟩ := Hz.out.ext hb))
              | fail)
          go_wp2_with fail
          have hz := (Box2.mk hz0 hz1 hf0 hf1 hz2).set (.string (s.extract 0 d ++ t ++ s.extract (d + 1) s.size)) (.slice A2 xs.length c2)
          refine bodyPost_ret (v := .tuple #[.agg #[.string (s.extract 0 d ++ t ++ s.extract (d + 1) s.size), .slice A2 xs.length c2], .int .i64 0]) (by simp [results, Try.results40, go_sem, hz.c0, hz.c1]) rfl ?_
          rw [HM2.out]
          have hb3 := ext_trans HW.out (ext_trans (ext_drew (ext_refl _)) hb)
          exact ⟨_, rfl, ⟨_, _, rfl, (hO.set2 (by simpa using Hz.out.lt) _ _).mono (by simpa using HW.out.size)⟩, swap_sm HS.out e12 ht1, hb3.trans (below_set2 (by omega) _ _)⟩
      · have ht2 : ¬ (t.size : Int) = 1 := by omega
        have HM2 : Hid (mChangeWeather s xs d t = (⟨#[]⟩, [], 7)) := Lib.hid (by
          rw [HM.out, decide_eq_false ht1]; rfl)
        go_wp2_with fail
        have hz := (Box2.mk hz0 hz1 hf0 hf1 hz2).set (.string ⟨#[]⟩) (.slice none 0 0)
        refine bodyPost_ret (v := .tuple #[.agg #[.string ⟨#[]⟩, .slice none 0 0], .int .i64 7]) (by simp [results, Try.results40, go_sem, hz.c0, hz.c1]) rfl ?_
        rw [HM2.out]
        exact ⟨_, rfl, ost_zero _ _, sm_zero, HW.out.trans (below_set2 (by omega) _ _)⟩

set_option maxHeartbeats 1600000 in
theorem impl_ChangeWeather (v : Value) (s : ByteArray) (xs : List Int) (day : Int) (t : ByteArray) (w : World) (hR : ST w v s xs) (hsm : SmST s xs) (ht : t.size ≤ 1048576) :
    Calls Try.prog 39 #[v, .int .i64 day, .string t] w (RetS (mChangeWeather s xs day t).1 (mChangeWeather s xs day t).2.1 (mChangeWeather s xs day t).2.2 w) := by
  obtain ⟨A, c, rfl, hR⟩ := hR
  have HP := Lib.hid ((ps_box (T := 26) (s := s) hR).ext (ext_alloc1 _ (.cells #[.string ⟨#[]⟩, .slice none 0 0] 26)))
  have e3 : (s.size:Int) ≤ 1048576 := by have := hsm.1; omega
  have e4 : (t.size:Int) ≤ 1048576 := by omega
  have HS := Lib.hid hsm; clear hsm hR
  go_enter Try.func39, Try.ntmps39
  obtain ⟨A0, c0, hc0, hc1, hs1⟩ := HP.out.st
  have H1 := Lib.hid hs1; clear hs1
  go_wp2_with fail
  refine (impl_code _ s xs day 0 HS.out _ H1.out).mono ?_
  rintro e w1 ⟨rfl, hb⟩
  have HW := Lib.hid (ext_trans (ext_alloc (ext_alloc1 _ _) _) hb)
  have HP1 := Lib.hid (HP.out.ext hb)
  have hz := (box2_new (w.alloc (.cells #[.string s, .slice A xs.length c] 26)) (.string ⟨#[]⟩) (.slice none 0 0) 26).ext hb
  simp only [World.size_alloc] at hz
  obtain ⟨hz0, hz1, hf0, hf1, hz2⟩ := hz
  have hsz := hb.size
  simp only [World.size_alloc] at hsz
  clear hb hc0 hc1
  cases hv : vSite s xs with
  | false =>
    have e1 : code2 s xs day 0 = 1 := by unfold code2; rw [hv]; rfl
    have HM : Hid (mChangeWeather s xs day t = (⟨#[]⟩, [], 1)) := Lib.hid (by unfold mChangeWeather; rw [hv]; rfl)
    clear hv
    rw [e1]; clear e1
    go_wp2_with fail
    have hz := (Box2.mk hz0 hz1 hf0 hf1 hz2).set (.string ⟨#[]⟩) (.slice none 0 0)
    refine bodyPost_ret (v := .tuple #[.agg #[.string ⟨#[]⟩, .slice none 0 0], .int .i64 1]) (by simp [results, Try.results39, go_sem, hz.c0, hz.c1]) rfl ?_
    rw [HM.out]
    exact ⟨_, rfl, ost_zero _ _, sm_zero, HW.out.trans (below_set2 (by omega) _ _)⟩
  | true =>
    cases hi : inB day 0 ((s.size : Int) - 1) with
    | false =>
      have e1 : code2 s xs day 0 = 2 := by unfold code2; rw [hv, hi]; rfl
      have HM : Hid (mChangeWeather s xs day t = (⟨#[]⟩, [], 2)) := Lib.hid (by unfold mChangeWeather; rw [hv, hi]; rfl)
      clear hv hi
      rw [e1]; clear e1
      go_wp2_with fail
      have hz := (Box2.mk hz0 hz1 hf0 hf1 hz2).set (.string ⟨#[]⟩) (.slice none 0 0)
      refine bodyPost_ret (v := .tuple #[.agg #[.string ⟨#[]⟩, .slice none 0 0], .int .i64 2]) (by simp [results, Try.results39, go_sem, hz.c0, hz.c1]) rfl ?_
      rw [HM.out]
      exact ⟨_, rfl, ost_zero _ _, sm_zero, HW.out.trans (below_set2 (by omega) _ _)⟩
    | true =>
      have e1 : code2 s xs day 0 = 0 := by unfold code2; rw [hv, hi]; rfl
      have hd := inB_iff.1 hi
      obtain ⟨d, rfl⟩ := Int.eq_ofNat_of_zero_le hd.1
      have hd1 : d < s.size := by omega
      have HM : Hid (mChangeWeather s xs d t = bif decide (t.size = 1) && lets t t.size then (swapW s d t, xs, 0) else (⟨#[]⟩, [], 7)) := Lib.hid (by unfold mChangeWeather; rw [hv, hi]; rfl)
      clear hv hi hd
      rw [e1]; clear e1
      by_cases ht1 : t.size = 1
      · have HB := Lib.hid (byt_eq t 0 (by omega))
        have ht2 : (t.size : Int) = 1 := by omega
        have HO := Lib.hid (only_letters t (by unfold maxLen; omega))
        cases hl : letB (byt t 0) with
        | false =>
          have HM2 : Hid (mChangeWeather s xs d t = (⟨#[]⟩, [], 7)) := Lib.hid (by
            rw [HM.out, ht1, lets_succ, hl]; simp)
          have HL := Lib.hid hl; clear hl
          go_wp2_with fail
          refine (RetP.bool (HO.out _) (show lets t t.size = false by rw [ht1, lets_succ, HL.out]; simp)).mono ?_
          rintro e w2 ⟨rfl, rfl⟩
          go_wp2_with fail
          have hz := (Box2.mk hz0 hz1 hf0 hf1 hz2).set (.string ⟨#[]⟩) (.slice none 0 0)
          refine bodyPost_ret (v := .tuple #[.agg #[.string ⟨#[]⟩, .slice none 0 0], .int .i64 7]) (by simp [results, Try.results39, go_sem, hz.c0, hz.c1]) rfl ?_
          rw [HM2.out]
          exact ⟨_, rfl, ost_zero _ _, sm_zero, HW.out.trans (below_set2 (by omega) _ _)⟩
        | true =>
          have HM2 : Hid (mChangeWeather s xs d t = (swapW s d t, xs, 0)) := Lib.hid (by
            rw [HM.out, ht1, lets_succ, hl]; simp [lets])
          have HL := Lib.hid hl; clear hl
          obtain ⟨hc0, A1, c1, hc1, hR1⟩ := HP1.out
          have HR1 := Lib.hid hR1; clear hR1
          have e5 : IntKind.i64.wrap ((d:Int) + 1) = (d:Int) + 1 := IntWalk.i64_in _ (by omega)
          have e6 : (0:Int) ≤ (d:Int) + 1 := by omega
          have e7 : ((d:Int) + 1).toNat = d + 1 := by omega
          have e8 : (d:Int) + 1 ≤ s.size := by omega
          have e9 : (d:Int) ≤ s.size := by omega
          have e10 : ¬ 9223372036854775807 < min d s.size + 1 := by omega
          have e11 : ¬ 9223372036854775807 < min d s.size + 1 + (s.size - (d + 1)) := by have := HS.out.1; omega
          have e12 : d < s.size := by omega
          have hd0 : w1.drew.cell? ⟨w.heap.size, 0, none⟩ = some (.string s) := hc0
          have hd1 : w1.drew.cell? ⟨w.heap.size, 1, none⟩ = some (.slice A1 xs.length c1) := hc1
          have Hz : Hid (Box2 w1.drew (w.heap.size + 1) (.string ⟨#[]⟩) (.slice none 0 0)) := Lib.hid ⟨hz0, hz1, hf0, hf1, hz2⟩
          go_wp2_with fail
          refine (RetP.bool (HO.out _) (show lets t t.size = true by rw [ht1, lets_succ, HL.out]; simp [lets])).mono ?_
          rintro e w2 ⟨rfl, rfl⟩
          go_wp2_with fail
          go_region_held3 (fun w' => w'.cell? ⟨w.heap.size, 0, none⟩ = some (.string s) ∧ w'.cell? ⟨w.heap.size, 1, none⟩ = some (.slice A1 xs.length c1)) (first | exact ⟨hd0, hd1⟩ | exact ⟨he0, he1⟩ | exact ⟨(World.cell?_setCell_far _ _ _ _ (by simp)).trans ((World.cell?_setCell_far _ _ _ _ (by simp)).trans he0), (World.cell?_setCell_far _ _ _ _ (by simp)).trans ((World.cell?_setCell_far _ _ _ _ (by simp)).trans he1)⟩)
            (first
              | (go_at_call 73; (have ht := clone_ri _ xs _ (HR1.out.ext (ext_drew (ext_refl _))) HS.out.2); (with_reducible refine ht.mono ?_); clear ht; rintro e w3 ⟨A2, c2, rfl, hO, hb⟩; (have he0 := cell_keep hd0 hb); (have he1 := cell_keep hd1 hb); (obtain ⟨hz0, hz1, hf0, hf1, hz2⟩ := Hz.out.ext hb))
              | fail)
          go_wp2_with fail
          have hz := (Box2.mk hz0 hz1 hf0 hf1 hz2).set (.string (s.extract 0 d ++ t ++ s.extract (d + 1) s.size)) (.slice A2 xs.length c2)
          refine bodyPost_ret (v := .tuple #[.agg #[.string (s.extract 0 d ++ t ++ s.extract (d + 1) s.size), .slice A2 xs.length c2], .int .i64 0]) (by simp [results, Try.results39, go_sem, hz.c0, hz.c1]) rfl ?_
          rw [HM2.out]
          have hb3 := ext_trans HW.out (ext_trans (ext_drew (ext_refl _)) hb)
          exact ⟨_, rfl, ⟨_, _, rfl, (hO.set2 (by simpa using Hz.out.lt) _ _).mono (by simpa using HW.out.size)⟩, swap_sm HS.out e12 ht1, hb3.trans (below_set2 (by omega) _ _)⟩
      · have ht2 : ¬ (t.size : Int) = 1 := by omega
        have HM2 : Hid (mChangeWeather s xs d t = (⟨#[]⟩, [], 7)) := Lib.hid (by
          rw [HM.out, decide_eq_false ht1]; rfl)
        go_wp2_with fail
        have hz := (Box2.mk hz0 hz1 hf0 hf1 hz2).set (.string ⟨#[]⟩) (.slice none 0 0)
        refine bodyPost_ret (v := .tuple #[.agg #[.string ⟨#[]⟩, .slice none 0 0], .int .i64 7]) (by simp [results, Try.results39, go_sem, hz.c0, hz.c1]) rfl ?_
        rw [HM2.out]
        exact ⟨_, rfl, ost_zero _ _, sm_zero, HW.out.trans (below_set2 (by omega) _ _)⟩

end Go.Proofs.Ytikiomjgnpdldaa
