/-
  Drawn sites: DrawHoursOn, DrawLostDays, DrawSiteText, DrawSameSite.
-/
import Derived.Test.YtikiomjgnpdldaaDrwSX
import Derived.Test.YtikiomjgnpdldaaSmall
import Derived.Deep.DeepCutAuto
namespace Go.Proofs.Ytikiomjgnpdldaa
open Go.ChangeShapes Go.WideShapes Go.ChangeAt Go.RowKit Go.Sort
set_option linter.unusedVariables false
set_option maxRecDepth 100000

theorem OutS.made {w w0 w1 : World} {b : Nat} {v : Value} {bs : List UInt8} {s : ByteArray} {A : Option Addr} {c : Nat} {xs : List Int} {z1 z2 : Int} (hS0 : Src (w.alloc (.cells #[.string ⟨#[]⟩, .slice none 0 0] 26)) w0 b v bs z1 z2)
    (hB0 : Below (w.alloc (.cells #[.string ⟨#[]⟩, .slice none 0 0] 26)).heap.size (w.alloc (.cells #[.string ⟨#[]⟩, .slice none 0 0] 26)) w0)
    (HO1 : OI w1 w0.heap.size (.slice A xs.length c) xs) (HC1 : Chg (fun k => k = b) w0 w1) (h1 : s.size ≤ 200) (h2 : xs.length ≤ 200) :
    Box2 w1 w.heap.size (.string ⟨#[]⟩) (.slice none 0 0) ∧ ∀ x y, OutS w ((w1.setCell ⟨w.heap.size, 0, none⟩ x).setCell ⟨w.heap.size, 1, none⟩ y) (.agg #[.string s, .slice A xs.length c]) s xs := by
  have h3 := hS0.low; have h4 := hS0.lt; have h5 := HC1.size; have h6 := hB0.size
  rw [World.size_alloc] at h3 h6
  have hl : Below w.heap.size w w1 := Chg.ext (ext_trans (ext_alloc1 _ _) hB0) HC1 (fun k hk => by omega)
  refine ⟨((box2_new w _ _ _).ext hB0).chg HC1 (by omega), fun x y => ?_⟩
  have s1 := chg_set w1 w.heap.size 0 x
  have s2 := chg_set (w1.setCell ⟨w.heap.size, 0, none⟩ x) w.heap.size 1 y
  exact ⟨⟨A, c, rfl, ((HO1.mono (by omega)).chg s1 (fun k hk e => by have := (HO1.ge k hk).1; omega)).chg s2 (fun k hk e => by have := (HO1.ge k hk).1; omega)⟩, ⟨by omega, by omega⟩, Chg.ext (Chg.ext hl s1 (fun k hk => by omega)) s2 (fun k hk => by omega)⟩
set_option maxHeartbeats 1600000 in
theorem draw_HoursOn (v : Value) (bs : List UInt8) (w : World) (hR : RB w v bs) : Calls Try.prog 17 #[v] w (PS2 w) := by
  have HR := Lib.hid hR; clear hR
  go_enter Try.func17, Try.ntmps17
  go_wp2_with fail
  refine (src_start v bs _ (HR.out.ext (ext_alloc1 _ _))).mono ?_
  rintro e w0 ⟨b, rfl, hS0, hB0⟩
  have HS0 := Lib.hid hS0
  have HB0 := Lib.hid hB0
  clear hS0 hB0
  go_wp2_with fail
  refine (draw_ask _ b v bs 0 0 _ HS0.out (by omega)).mono ?_
  rintro e w1 ⟨s, A, c, xs, d, a1, s1, rfl, hs1, hxl, hd0, hd1, h1, h2, HS1, HO1, HC1⟩
  obtain ⟨hB, hF⟩ := OutS.made HS0.out HB0.out HO1 HC1 hs1 hxl
  have HF := Lib.hid hF
  obtain ⟨hp0, hp1, hpf0, hpf1, _⟩ := hB
  clear HS1 HO1 HC1 hF
  go_wp2_with fail
  refine bodyPost_ret (v := .tuple #[.agg #[.string s, .slice A xs.length c], .int .i64 d]) (by simp [results, Try.results17, go_sem, hp0, hp1]) rfl ?_
  exact ⟨_, s, xs, d, rfl, HF.out _ _⟩
set_option maxHeartbeats 1600000 in
theorem draw_LostDays (v : Value) (bs : List UInt8) (w : World) (hR : RB w v bs) : Calls Try.prog 12 #[v] w (PS1 w) := by
  have HR := Lib.hid hR; clear hR
  go_enter Try.func12, Try.ntmps12
  go_wp2_with fail
  refine (src_start v bs _ (HR.out.ext (ext_alloc1 _ _))).mono ?_
  rintro e w0 ⟨b, rfl, hS0, hB0⟩
  have HS0 := Lib.hid hS0
  have HB0 := Lib.hid hB0
  clear hS0 hB0
  go_wp2_with fail
  refine (draw_bent_site _ b v bs 0 0 _ HS0.out (by omega)).mono ?_
  rintro e w1 ⟨s, A, c, xs, a1, s1, rfl, hs1, hxl, h1, h2, HS1, HO1, HC1⟩
  obtain ⟨hB, hF⟩ := OutS.made HS0.out HB0.out HO1 HC1 hs1 hxl
  have HF := Lib.hid hF
  obtain ⟨hp0, hp1, hpf0, hpf1, _⟩ := hB
  clear HS1 HO1 HC1 hF
  go_wp2_with fail
  refine bodyPost_ret (v := .agg #[.string s, .slice A xs.length c]) (by simp [results, Try.results12, go_sem, hp0, hp1]) rfl ?_
  exact ⟨_, s, xs, rfl, HF.out _ _⟩
set_option maxHeartbeats 1600000 in
theorem draw_SiteText (v : Value) (bs : List UInt8) (w : World) (hR : RB w v bs) : Calls Try.prog 21 #[v] w (PS1 w) := by
  have HR := Lib.hid hR; clear hR
  go_enter Try.func21, Try.ntmps21
  go_wp2_with fail
  refine (src_start v bs _ (HR.out.ext (ext_alloc1 _ _))).mono ?_
  rintro e w0 ⟨b, rfl, hS0, hB0⟩
  have HS0 := Lib.hid hS0
  have HB0 := Lib.hid hB0
  clear hS0 hB0
  go_wp2_with fail
  refine (draw_bent_site _ b v bs 0 0 _ HS0.out (by omega)).mono ?_
  rintro e w1 ⟨s, A, c, xs, a1, s1, rfl, hs1, hxl, h1, h2, HS1, HO1, HC1⟩
  obtain ⟨hB, hF⟩ := OutS.made HS0.out HB0.out HO1 HC1 hs1 hxl
  have HF := Lib.hid hF
  obtain ⟨hp0, hp1, hpf0, hpf1, _⟩ := hB
  clear HS1 HO1 HC1 hF
  go_wp2_with fail
  refine bodyPost_ret (v := .agg #[.string s, .slice A xs.length c]) (by simp [results, Try.results21, go_sem, hp0, hp1]) rfl ?_
  exact ⟨_, s, xs, rfl, HF.out _ _⟩

/-- Two sites: what stands while DrawSameSite turns the second. -/
structure DY (w w' : World) (b : Nat) (v : Value) (bs : List UInt8) (at' seed : Int) (q5 q6 : Nat) (s : ByteArray) (u : Value) (xs : List Int) (t : ByteArray) (y : Value) (ys : List Int) : Prop where
  src : Src ((w.alloc (.cells #[.string ⟨#[]⟩, .slice none 0 0] 26)).alloc (.cells #[.string ⟨#[]⟩, .slice none 0 0] 26)) w' b v bs at' seed
  b1 : Box2 w' w.heap.size (.string ⟨#[]⟩) (.slice none 0 0)
  b2 : Box2 w' (w.heap.size + 1) (.string ⟨#[]⟩) (.slice none 0 0)
  b5 : Box2 w' q5 (.string s) u
  b6 : Box2 w' q6 (.string t) y
  o5 : OI w' w.heap.size u xs
  o6 : OI w' w.heap.size y ys
  low : Below w.heap.size w w'
  ord : w.heap.size + 1 < b ∧ b < q5 ∧ q5 < q6
  h5 : ∀ k, BY u k → b < k ∧ k < q5
  h6 : ∀ k, BY y k → q5 < k ∧ k ≠ q6
section
variable {w w' w'' : World} {b : Nat} {v : Value} {bs : List UInt8} {at' seed at2 seed2 : Int} {q5 q6 : Nat} {s t : ByteArray} {u y : Value} {xs ys : List Int}
theorem DY.pick (h : DY w w' b v bs at' seed q5 q6 s u xs t y ys) (hs : Src ((w.alloc (.cells #[.string ⟨#[]⟩, .slice none 0 0] 26)).alloc (.cells #[.string ⟨#[]⟩, .slice none 0 0] 26)) w'' b v bs at2 seed2) (hc : Chg (fun k => k = b) w' w'') : DY w w'' b v bs at2 seed2 q5 q6 s u xs t y ys := by
  have h1 := h.ord
  exact ⟨hs, h.b1.chg hc (by omega), h.b2.chg hc (by omega), h.b5.chg hc (by omega), h.b6.chg hc (by omega), h.o5.chg hc (fun k hk e => by have := h.h5 k hk; omega), h.o6.chg hc (fun k hk e => by have := h.h6 k hk; omega), Chg.ext h.low hc (fun k hk => by omega), h.ord, h.h5, h.h6⟩
theorem DY.text (h : DY w w' b v bs at' seed q5 q6 s u xs t y ys) (x : ByteArray) : DY w (w'.setCell ⟨q6, 0, none⟩ (.string x)) b v bs at' seed q5 q6 s u xs x y ys := by
  have h1 := h.ord
  have hc := chg_set w' q6 0 (.string x)
  exact ⟨h.src.turn hc (fun k hk => by simp only [World.size_alloc]; omega) (by omega), h.b1.chg hc (by omega), h.b2.chg hc (by omega), h.b5.chg hc (by omega), h.b6.set0 _, h.o5.chg hc (fun k hk e => by have := h.h5 k hk; omega), h.o6.chg hc (fun k hk e => (h.h6 k hk).2 e), Chg.ext h.low hc (fun k hk => by omega), h.ord, h.h5, h.h6⟩
theorem DY.grow (h : DY w w' b v bs at' seed q5 q6 s u xs t y ys) {g n c : Nat} {zs : List Int} (hO : OI w'' w.heap.size (.slice (some ⟨g, 0, none⟩) n c) zs) (hc : Chg (BY y) w' w'') (hg : BY y g ∨ w'.heap.size ≤ g) :
    DY w (w''.setCell ⟨q6, 1, none⟩ (.slice (some ⟨g, 0, none⟩) n c)) b v bs at' seed q5 q6 s u xs t (.slice (some ⟨g, 0, none⟩) n c) zs := by
  have h1 := h.ord
  have h2 := h.b6.lt
  have hsc := chg_set w'' q6 1 (.slice (some ⟨g, 0, none⟩) n c)
  have hgq : q5 < g ∧ g ≠ q6 := by
    rcases hg with h8 | h8
    · exact h.h6 g h8
    · omega
  have n6 := h.h6
  exact ⟨(h.src.turn hc (fun k hk => by have := n6 k hk; simp only [World.size_alloc]; omega) (fun e => by have := n6 b e; omega)).turn hsc (fun k hk => by simp only [World.size_alloc]; omega) (by omega),
    (h.b1.chg hc (fun e => by have := n6 _ e; omega)).chg hsc (by omega), (h.b2.chg hc (fun e => by have := n6 _ e; omega)).chg hsc (by omega), (h.b5.chg hc (fun e => by have := n6 _ e; omega)).chg hsc (by omega), (h.b6.chg hc (fun e => (n6 _ e).2 rfl)).set1 _,
    (h.o5.chg hc (fun k hk e => by have := n6 k e; have := h.h5 k hk; omega)).chg hsc (fun k hk e => by have := h.h5 k hk; omega), hO.chg hsc (fun k hk e => by
      obtain rfl : g = k := Option.some.inj hk
      exact hgq.2 e), Chg.ext (Chg.ext h.low hc (fun k hk => by have := n6 k hk; omega)) hsc (fun k hk => by omega), h.ord, h.h5, fun k hk => by
      obtain rfl : g = k := Option.some.inj hk
      exact hgq⟩
/-- Two sites that a draw returns. -/
def Out2 (w w' : World) (u : Value) (s : ByteArray) (xs : List Int) (y : Value) (t : ByteArray) (ys : List Int) : Prop := ST w' u s xs ∧ SmST s xs ∧ ST w' y t ys ∧ SmST t ys ∧ Below w.heap.size w w'
theorem DY.out {A B : Option Addr} {c d : Nat} (h : DY w w' b v bs at' seed q5 q6 s (.slice A xs.length c) xs t (.slice B ys.length d) ys) (h1 : s.size ≤ 300) (h2 : xs.length ≤ 300) (h3 : t.size ≤ 300) (h4 : ys.length ≤ 300) (hc : Chg (fun k => k = w.heap.size ∨ k = w.heap.size + 1) w' w'') :
    Out2 w w'' (.agg #[.string s, .slice A xs.length c]) s xs (.agg #[.string t, .slice B ys.length d]) t ys := by
  have h5 := h.ord
  exact ⟨⟨A, c, rfl, (h.o5.chg hc (fun k hk e => by have := h.h5 k hk; omega)).rd⟩, ⟨by omega, by omega⟩, ⟨B, d, rfl, (h.o6.chg hc (fun k hk e => by have := h.h6 k hk; omega)).rd⟩, ⟨by omega, by omega⟩, Chg.ext h.low hc (fun k hk => by omega)⟩
end
theorem DY.made {w w0 w1 W : World} {b : Nat} {v : Value} {bs : List UInt8} {a1 s1 : Int} {s : ByteArray} {A : Option Addr} {c : Nat} {xs : List Int} {y : Value} {z1 z2 : Int} {q6 : Nat}
    (hS0 : Src ((w.alloc (.cells #[.string ⟨#[]⟩, .slice none 0 0] 26)).alloc (.cells #[.string ⟨#[]⟩, .slice none 0 0] 26)) w0 b v bs z1 z2)
    (hB0 : Below ((w.alloc (.cells #[.string ⟨#[]⟩, .slice none 0 0] 26)).alloc (.cells #[.string ⟨#[]⟩, .slice none 0 0] 26)).heap.size ((w.alloc (.cells #[.string ⟨#[]⟩, .slice none 0 0] 26)).alloc (.cells #[.string ⟨#[]⟩, .slice none 0 0] 26)) w0)
    (HS1 : Src ((w.alloc (.cells #[.string ⟨#[]⟩, .slice none 0 0] 26)).alloc (.cells #[.string ⟨#[]⟩, .slice none 0 0] 26)) w1 b v bs a1 s1) (HO1 : OI w1 w0.heap.size (.slice A xs.length c) xs) (HC1 : Chg (fun k => k = b) w0 w1)
    (HW : Below (w1.alloc (.cells #[.string s, .slice A xs.length c] 26)).heap.size (w1.alloc (.cells #[.string s, .slice A xs.length c] 26)) W)
    (b6 : Box2 W q6 (.string s) y) (o6 : OI W (w1.heap.size + 1) y xs) (hq6 : w1.heap.size < q6) (h6 : ∀ k, BY y k → k ≠ q6) :
    DY w W b v bs a1 s1 w1.heap.size q6 s (.slice A xs.length c) xs s y xs := by
  have h1 := hS0.low; have h2 := hS0.lt; have h3 := HC1.size; have h4 := hB0.size
  simp only [World.size_alloc] at h1 h4
  have nf : ∀ a b : World, Below a.heap.size a b → Chg (fun _ => False) a b := fun a b h => Chg.of_below h _
  have hl0 : Below w.heap.size w w0 := ext_trans (ext_trans (ext_alloc1 _ _) (ext_alloc1 _ _)) hB0
  have hl : Below w.heap.size w w1 := Chg.ext hl0 HC1 (fun k hk => by omega)
  have b1 := (((box2_new w (.string ⟨#[]⟩) (.slice none 0 0) 26).ext (ext_trans (ext_alloc1 _ (.cells #[.string ⟨#[]⟩, .slice none 0 0] 26)) hB0)).chg HC1 (by omega)).ext (ext_trans (ext_alloc1 _ _) HW)
  have e2 : (w.alloc (.cells #[.string ⟨#[]⟩, .slice none 0 0] 26)).heap.size = w.heap.size + 1 := by simp
  have b2 := (((box2_new (w.alloc (.cells #[.string ⟨#[]⟩, .slice none 0 0] 26)) (.string ⟨#[]⟩) (.slice none 0 0) 26).ext hB0).chg HC1 (by rw [e2]; omega)).ext (ext_trans (ext_alloc1 _ _) HW)
  rw [e2] at b2
  exact ⟨(HS1.turn (nf _ _ (ext_alloc1 _ _)) (fun _ h => h.elim) (fun h => h)).turn (nf _ _ HW) (fun _ h => h.elim) (fun h => h), b1, b2,
    (box2_new w1 _ _ _).ext HW, b6, (HO1.mono (by omega)).ext (ext_trans (ext_alloc1 _ _) HW), o6.mono (by omega),
    ext_trans hl (ext_trans (ext_alloc1 _ _) HW), ⟨by omega, by omega, hq6⟩, fun k hk => by have := HO1.ge k hk; omega, fun k hk => ⟨by have := o6.ge k hk; omega, h6 k hk⟩⟩

def PS22 (w : World) : Ending → World → Prop := fun e w' => ∃ (u : Value) (s : ByteArray) (xs : List Int) (y : Value) (t : ByteArray) (ys : List Int), e = .returned (.tuple #[u, y]) ∧ Out2 w w' u s xs y t ys
set_option maxHeartbeats 3200000 in
theorem draw_SameSite (v : Value) (bs : List UInt8) (w : World) (hR : RB w v bs) : Calls Try.prog 20 #[v] w (PS22 w) := by
  have HR := Lib.hid hR; clear hR
  go_enter Try.func20, Try.ntmps20
  go_wp2_with fail
  refine (src_start v bs _ (HR.out.ext (ext_trans (ext_alloc1 _ _) (ext_alloc1 _ _)))).mono ?_
  rintro e w0 ⟨b, rfl, hS0, hB0⟩
  have HS0 := Lib.hid hS0
  have HB0 := Lib.hid hB0
  clear hS0 hB0
  go_wp2_with fail
  refine (draw_site _ b v bs 0 0 _ HS0.out (by omega)).mono ?_
  rintro e w1 ⟨s, A, c, xs, a1, s1, rfl, hs1, hxl, h1, h2, HS1, HO1, HC1⟩
  have HS1 := Lib.hid HS1
  have HO1 := Lib.hid HO1
  have HC1 := Lib.hid HC1
  have hbx := box2_new w1 (.string s) (.slice A xs.length c) 26
  obtain ⟨wq, hwq⟩ : ∃ W, w1.alloc (.cells #[.string s, .slice A xs.length c] 26) = W := ⟨_, rfl⟩
  have hwz : wq.heap.size = w1.heap.size + 1 := by rw [← hwq]; simp
  have HRD : Hid (RI wq (.slice A xs.length c) xs) := Lib.hid (by rw [← hwq]; exact HO1.out.rd.ext (ext_alloc1 _ _))
  have HSI : Hid (SmI xs) := Lib.hid (by unfold SmI; omega)
  have HOW := Lib.hid (spec_own _ xs wq.drew (HRD.out.ext (ext_drew (ext_refl _))) HSI.out)
  have HOV := Lib.hid (spec_own _ xs (wq.alloc (.cells #[.string ⟨#[]⟩, .slice none 0 0] 26)).drew (HRD.out.ext (ext_drew (ext_alloc1 _ _))) HSI.out)
  have HMK := Lib.hid (fun W q6 y HW b6 o6 hq6 h6 => @DY.made w w0 w1 W b v bs a1 s1 s A c xs y 0 0 q6 HS0.out HB0.out HS1.out HO1.out HC1.out HW b6 o6 hq6 h6)
  rw [hwq] at HMK
  have HBX : Hid (Box2 wq w1.heap.size (.string s) (.slice A xs.length c)) := Lib.hid (by rw [← hwq]; exact hbx)
  obtain ⟨hx0, hx1, _, _, _⟩ := HBX.out
  have HZ := Lib.hid hwz
  go_upto_region 3 with fail
  rw [hwq] at *
  clear hwq hbx
  generalize w1.heap.size = q5 at *
  have HZ := Lib.hid hwz
  go_cut [6] from 11 to 16 (fun s6 wx => ∃ (q6 : Nat) (B : Option Addr) (d : Nat), s6 = .pointer (some ⟨q6, 0, none⟩) ∧ Hid (DY w wx b v bs a1 s1 q5 q6 s (.slice A xs.length c) xs s (.slice B xs.length d) xs))
  case first =>
    go_region_with (first
      | (go_at_call 59; refine (show Calls _ _ _ _ _ from HOW.out).mono ?_; rintro e w3 ⟨A2, c2, rfl, hO3, hb3⟩; (have HB3 := Lib.hid ((ext_drew (ext_refl wq)).trans hb3)); (have HO3 := Lib.hid hO3); (obtain ⟨hm0, hm1, _, _, _⟩ := HBX.out.ext HB3.out); clear hO3 hb3)
      | (go_at_call 59; refine (show Calls _ _ _ _ _ from HOV.out).mono ?_; rintro e w3 ⟨A2, c2, rfl, hO3, hb3⟩; (have HB4 : Hid (Below (wq.alloc (.cells #[.string ⟨#[]⟩, .slice none 0 0] 26)).heap.size (wq.alloc (.cells #[.string ⟨#[]⟩, .slice none 0 0] 26)) w3) := Lib.hid ((ext_drew (ext_refl _)).trans hb3)); (have HO4 := Lib.hid hO3); (obtain ⟨hm0, hm1, _, _, _⟩ := HBX.out.ext (ext_trans (ext_alloc1 _ _) HB4.out)); (have HBZ := Lib.hid ((box2_new wq (.string ⟨#[]⟩) (.slice none 0 0) 26).ext HB4.out)); rw [HZ.out] at HBZ; (obtain ⟨hn0, hn1, hnf0, hnf1, _⟩ := HBZ.out); clear hO3 hb3))
    all_goals
      first | (go_wp2_with fail) | skip
      go_meet
      first
        | exact ⟨w3.heap.size, A2, c2, rfl, Lib.hid (HMK.out _ w3.heap.size (.slice A2 xs.length c2) (ext_trans HB3.out (ext_alloc1 _ _)) (box2_new w3 _ _ _) ((HO3.out.mono (show q5 + 1 ≤ wq.heap.size by omega)).ext (ext_alloc1 _ _)) (by have := HB3.out.size; omega) (fun k hk => by have := HO3.out.ge k hk; omega))⟩
        | exact ⟨q5 + 1, A2, c2, rfl, Lib.hid (HMK.out _ (q5 + 1) (.slice A2 xs.length c2) (by rw [← HZ.out]; exact ((ext_trans (ext_alloc1 _ _) HB4.out).setCell (p := ⟨wq.heap.size, 0, none⟩) (Nat.le_refl _) _).setCell (p := ⟨wq.heap.size, 1, none⟩) (Nat.le_refl _) _) (HBZ.out.set _ _) (((HO4.out.mono (show q5 + 1 ≤ _ by rw [World.size_drew, World.size_alloc]; omega)).chg (chg_set w3 (q5 + 1) 0 _) (fun k hk e => by have := (HO4.out.ge k hk).1; rw [World.size_drew, World.size_alloc] at this; omega)).chg (chg_set _ (q5 + 1) 1 _) (fun k hk e => by have := (HO4.out.ge k hk).1; rw [World.size_drew, World.size_alloc] at this; omega)) (by omega) (fun k hk => by have := (HO4.out.ge k hk).1; rw [World.size_drew, World.size_alloc] at this; omega))⟩
  case rest =>
  obtain ⟨q6, B, d, rfl, HD⟩ := hcut
  clear HMK HOW HOV HBX HS1 HO1 HC1 HB0 HS0
  go_wp2_with fail
  refine (src_pick _ b v bs a1 s1 4 _ HD.out.src (by omega)).mono ?_
  rintro e w4 ⟨x, a4, s4, rfl, hx, h3, h4, HS4, HC4⟩
  have HD4 := Lib.hid (HD.out.pick HS4 HC4)
  clear HS4 HC4 HD hx
  by_cases hx0 : x = 0
  · subst hx0
    obtain ⟨hk0, _, hl0, _, _⟩ := HD4.out.b6
    have HDF := Lib.hid (HD4.out.text (s ++ ⟨#[100]⟩))
    have e9 : ¬ 9223372036854775807 < s.size + 1 := by omega
    have e8 : (⟨#[100]⟩ : ByteArray).size = 1 := rfl
    have hts : (s ++ ⟨#[100]⟩).size = s.size + 1 := by rw [ByteArray.size_append, e8]
    have HTS := Lib.hid hts; clear hts
    go_upto_region 9 with fail
    generalize w4.setCell ⟨q6, 0, none⟩ (.string (s ++ ⟨#[100]⟩)) = wF at *
    clear hk0 hl0
    obtain ⟨hc0, hc1, hf0, hf1, _⟩ := HDF.out.b5
    obtain ⟨hd0, hd1, hg0, hg1, _⟩ := HDF.out.b6
    obtain ⟨hp0, hp1, hpf0, hpf1, _⟩ := HDF.out.b1
    obtain ⟨hr0, hr1, hrf0, hrf1, _⟩ := HDF.out.b2
    have hq := HDF.out.ord
    have hsz : (s ++ ⟨#[100]⟩).size ≤ 300 := by (have := HTS.out; omega)
    have HOUT := fun W hc => HDF.out.out (w'' := W) (by omega) (by omega) hsz (by first | omega | (rw [List.length_append]; simp; omega)) hc
    try simp only [hxl7] at HOUT
    have n1 : ¬ q5 = w.heap.size := by omega
    have n2 : ¬ q5 = w.heap.size + 1 := by omega
    have n3 : ¬ q6 = w.heap.size := by omega
    have n4 : ¬ q6 = w.heap.size + 1 := by omega
    go_wp2_with fail
    go_region
    all_goals
      first | (go_wp2_with fail) | skip
      refine bodyPost_ret (v := .tuple #[.agg #[.string s, .slice A xs.length c], .agg #[.string (s ++ ⟨#[100]⟩), .slice B xs.length d]]) (by simp [results, Try.results20, go_sem, hp0, hp1, hr0, hr1]) rfl ?_
      refine ⟨_, s, xs, _, (s ++ ⟨#[100]⟩), xs, rfl, HOUT _ ?_⟩
      refine Chg.trans ?_ (Chg.of_below (ext_drew (ext_refl _)) _)
      repeat (refine Chg.trans ?_ (Chg.mono (chg_set _ _ _ _) ?hh); case hh => intro k hk; omega)
      exact Chg.of_below (ext_refl _) _
  by_cases hx1 : x = 1
  · subst hx1
    obtain ⟨_, hk1, _, hl1, _⟩ := HD4.out.b6
    have hz4 := HD4.out.low.size
    go_upto_region 9 with (at_builtin; refine wpList_append_i3 rfl _ _ rfl w.heap.size (.slice B xs.length d) xs 50 rfl rfl HD4.out.o6 (by omega) hz4 ?_; intro g7 c7 w7 hO7 hg7 hgl7; (have HD7 := Lib.hid (HD4.out.grow hO7 hg7 hgl7)); (have HC7 := Lib.hid (HD4.out.b6.chg hg7 (fun e => (HD4.out.h6 _ e).2 rfl))); clear hO7 hg7 hgl7; (obtain ⟨_, hn1, _, hm1, _⟩ := HC7.out))
    clear hk1 hl1 hn1 hm1 HC7
    generalize w7.setCell ⟨q6, 1, none⟩ (.slice (some ⟨g7, 0, none⟩) (xs.length + 1) c7) = wF at *
    have hxl7 : (xs ++ [50]).length = xs.length + 1 := by rw [List.length_append]; rfl
    rw [← hxl7] at HD7
    obtain ⟨hc0, hc1, hf0, hf1, _⟩ := HD7.out.b5
    obtain ⟨hd0, hd1, hg0, hg1, _⟩ := HD7.out.b6
    obtain ⟨hp0, hp1, hpf0, hpf1, _⟩ := HD7.out.b1
    obtain ⟨hr0, hr1, hrf0, hrf1, _⟩ := HD7.out.b2
    have hq := HD7.out.ord
    have hsz : s.size ≤ 300 := by omega
    have HOUT := fun W hc => HD7.out.out (w'' := W) (by omega) (by omega) hsz (by first | omega | (rw [List.length_append]; simp; omega)) hc
    try simp only [hxl7] at HOUT
    have n1 : ¬ q5 = w.heap.size := by omega
    have n2 : ¬ q5 = w.heap.size + 1 := by omega
    have n3 : ¬ q6 = w.heap.size := by omega
    have n4 : ¬ q6 = w.heap.size + 1 := by omega
    go_wp2_with fail
    go_region
    all_goals
      first | (go_wp2_with fail) | skip
      refine bodyPost_ret (v := .tuple #[.agg #[.string s, .slice A xs.length c], .agg #[.string s, .slice (some ⟨g7, 0, none⟩) (xs.length + 1) c7]]) (by simp [results, Try.results20, go_sem, hp0, hp1, hr0, hr1]) rfl ?_
      refine ⟨_, s, xs, _, s, (xs ++ [50]), rfl, HOUT _ ?_⟩
      refine Chg.trans ?_ (Chg.of_below (ext_drew (ext_refl _)) _)
      repeat (refine Chg.trans ?_ (Chg.mono (chg_set _ _ _ _) ?hh); case hh => intro k hk; omega)
      exact Chg.of_below (ext_refl _) _
  · have e0 : (x == 0) = false := by simp [hx0]
    have e1 : (x == 1) = false := by simp [hx1]
    go_upto_region 9 with fail
    obtain ⟨hc0, hc1, hf0, hf1, _⟩ := HD4.out.b5
    obtain ⟨hd0, hd1, hg0, hg1, _⟩ := HD4.out.b6
    obtain ⟨hp0, hp1, hpf0, hpf1, _⟩ := HD4.out.b1
    obtain ⟨hr0, hr1, hrf0, hrf1, _⟩ := HD4.out.b2
    have hq := HD4.out.ord
    have hsz : s.size ≤ 300 := by omega
    have HOUT := fun W hc => HD4.out.out (w'' := W) (by omega) (by omega) hsz (by first | omega | (rw [List.length_append]; simp; omega)) hc
    try simp only [hxl7] at HOUT
    have n1 : ¬ q5 = w.heap.size := by omega
    have n2 : ¬ q5 = w.heap.size + 1 := by omega
    have n3 : ¬ q6 = w.heap.size := by omega
    have n4 : ¬ q6 = w.heap.size + 1 := by omega
    go_wp2_with fail
    go_region
    all_goals
      first | (go_wp2_with fail) | skip
      refine bodyPost_ret (v := .tuple #[.agg #[.string s, .slice A xs.length c], .agg #[.string s, .slice B xs.length d]]) (by simp [results, Try.results20, go_sem, hp0, hp1, hr0, hr1]) rfl ?_
      refine ⟨_, s, xs, _, s, xs, rfl, HOUT _ ?_⟩
      refine Chg.trans ?_ (Chg.of_below (ext_drew (ext_refl _)) _)
      repeat (refine Chg.trans ?_ (Chg.mono (chg_set _ _ _ _) ?hh); case hh => intro k hk; omega)
      exact Chg.of_below (ext_refl _) _


end Go.Proofs.Ytikiomjgnpdldaa
