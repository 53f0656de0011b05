/-
  Drawn sites, second part: l24Bent.
-/
import Derived.Test.YtikiomjgnpdldaaDrwS
import Derived.Test.YtikiomjgnpdldaaSrcL
import Derived.Deep.RegionLaw
namespace Go.Proofs.Ytikiomjgnpdldaa
open Go.ChangeShapes Go.WideShapes Go.ChangeAt Go.RowKit Go.Sort
set_option linter.unusedVariables false
set_option maxRecDepth 100000

theorem step_append_i3 {w0 : World} {ops : Array Oper} {o : Oper} {a : Act} {K : Act → World → Prop} {Q : Exit → Act → World → Prop} {E : Prop} (hgd : o.guard = none) (s x : Operand)
    (ho : o.op = .call { callee := .builtin .append, args := #[s, x], argTypes := #[24, 24] })
    (base : Nat) (v : Value) (xs : List Int) (n : Int) (hs : a.eval s = v) (hx : a.eval x = .slice (some ⟨w0.heap.size, 0, none⟩) 1 1) (hO : OI w0 base v xs)
    (hl : xs.length ≤ 1099511627776) (hbase : base ≤ w0.heap.size)
    (h : ∀ g cap w', OI w' base (.slice (some ⟨g, 0, none⟩) (xs.length + 1) cap) (xs ++ [n]) → Chg (BY v) w0 w' → (BY v g ∨ w0.heap.size ≤ g) → K (a.put o.dst (.slice (some ⟨g, 0, none⟩) (xs.length + 1) cap)) w') :
    if Region.wanted o (yielded ops a.tmps) = true then Oper.wp Try.prog o a (w0.alloc (.cells #[.int .i64 n] 2)) K Q else E := by
  obtain ⟨i0, hi, hz0, hz1, hz2⟩ := info_parts info_int
  refine step_append_lies _ hgd s x _ ho base 2 i0 (.int .i64 0) 1 8 Try.underlying24 hi hz0 hz1 hz2 rfl (by omega) v xs.length (xs.map (Value.int .i64)) hs (World.ownsRow.alloc hO _)
    ⟨w0.heap.size, 0, none⟩ 1 1 [.int .i64 n] hx rfl (cell_one_new _ _ _) (by simp [Value.oneCell']) (by omega) (by unfold maxLen; omega) (by omega) (by simp; omega) (w0.heap.size + 1) (by simp) ?_
  intro g cap w1 hown hgrow hat hlt
  refine h g cap w1 ?_ ((Chg.of_below (ext_alloc1 _ _) _).trans (Chg.of_grown hgrow)) (hat.elim (fun h => .inl h) fun h => .inr (by omega))
  unfold OI
  simpa using hown
theorem DT.both {W0 w w' : World} {b : Nat} {v : Value} {bs : List UInt8} {at' seed : Int} {p q : Nat} {s : ByteArray} {u : Value} {xs : List Int} (h : DT W0 w w' b v bs at' seed p q s u xs) (t : ByteArray) :
    DT W0 w ((w'.setCell ⟨q, 0, none⟩ (.string t)).setCell ⟨q, 1, none⟩ (.slice none 0 0)) b v bs at' seed p q t (.slice none 0 0) [] := by
  have h0 := h.text t
  have h1 := h0.hb; have h2 := h0.hw; have h3 := h0.hq; have h5 := h0.hpq
  have hsc := chg_set (w'.setCell ⟨q, 0, none⟩ (.string t)) q 1 (.slice none 0 0)
  exact ⟨h0.src.turn hsc (fun k hk => by omega) (by omega), h0.bp.chg hsc h5, h0.bq.set1 _, oi_nil _ _, chg_join h0.chg hsc (fun k hk => by omega), h0.hb, h0.hp, h0.hq, h0.hpq, fun k hk => by simp [BY, Value.ownBlock] at hk, h0.hw⟩

set_option maxHeartbeats 6400000 in
theorem draw_bent_site (W0 : World) (b : Nat) (v : Value) (bs : List UInt8) (at' seed : Int) (w : World) (hS : Src W0 w b v bs at' seed) (ha : at' ≤ 10000) :
    Calls Try.prog 52 #[.pointer (some ⟨b, 0, none⟩)] w (DrawnS W0 b v bs at' 200 w) := by
  have HS := Lib.hid hS
  have hbl := hS.lt
  have hwl := hS.old.size
  clear hS
  go_enter Try.func52, Try.ntmps52
  go_wp2_with fail
  have HSA := Lib.hid (HS.out.turn (Chg.of_below (ext_alloc1 w (.cells #[.string ⟨#[]⟩, .slice none 0 0] 26)) (fun _ => False)) (fun _ h => h.elim) (fun h => h))
  refine (draw_site W0 b v bs at' seed _ HSA.out (by omega)).mono ?_
  rintro e w1 ⟨s, A, c, xs, a1, s1, rfl, hs1, hxl, h1, h2, HS1, HO1, HC1⟩
  have hsz1 : w.heap.size < w1.heap.size := by have := HC1.size; rw [World.size_alloc] at this; omega
  have HD0 : Hid (DT W0 w (w1.alloc (.cells #[.string s, .slice A xs.length c] 26)) b v bs a1 s1 w.heap.size w1.heap.size s (.slice A xs.length c) xs) :=
    Lib.hid ⟨HS1.turn (Chg.of_below (ext_alloc1 _ _) (fun _ => False)) (fun _ h => h.elim) (fun h => h), ((box2_new w _ _ _).chg HC1 (by omega)).chg (Chg.of_below (ext_alloc1 _ _) (fun _ => False)) (fun h => h), box2_new w1 _ _ _,
      (HO1.mono (show w.heap.size ≤ _ by rw [World.size_alloc]; omega)).ext (ext_alloc1 _ _), ((Chg.of_below (ext_alloc1 w _) _).trans HC1).trans (Chg.of_below (ext_alloc1 _ _) _), hbl, Nat.le_refl _, by omega, by omega, fun k hk => by have := HO1.ge k hk; rw [World.size_alloc] at this; omega, hwl⟩
  clear HS1 HO1 HC1 HSA
  go_wp2_with fail
  generalize w1.alloc (.cells #[.string s, .slice A xs.length c] 26) = wB at *
  generalize w1.heap.size = q at *
  refine (src_pick W0 b v bs a1 s1 20 _ HD0.out.src (by omega)).mono ?_
  rintro e w2 ⟨y, a2, s2, rfl, hy, h3, h4, HS2, HC2⟩
  have HD2 := Lib.hid (HD0.out.pick HS2 HC2)
  obtain ⟨y0, _, _, _⟩ := hy
  clear HS2 HC2 HD0
  by_cases hy0 : y = 0
  · subst hy0
    have hz2 := HD2.out.chg.size
    have hq2 := HD2.out.bq.lt
    have hqb : q ≠ b := by have := HD2.out.hq; omega
    have HAM := Lib.hid (src_litSD W0 b v bs a2 s2 [⟨#[120]⟩, ⟨#[68]⟩, ⟨#[100]⟩] (by simp) (by simp) w2 HD2.out.src (by omega) 9 _ rfl)
    obtain ⟨hc0, hc1, hf0, hf1, _⟩ := HD2.out.bq
    go_wp2_with fail
    go_region_with ((go_at_call 72; refine (show Calls _ _ _ _ _ from HAM.out).mono ?_; rintro e w3 ⟨x, a3, s3, rfl, hx, h5, h6, HS3, HC3⟩; (have HD3 := Lib.hid (HD2.out.pick HS3 HC3)); (obtain ⟨hd0, hd1, hg0, hg1, _⟩ := HD3.out.bq); (have hxs : x.size ≤ 1 := (by simp at hx; rcases hx with rfl | rfl | rfl <;> exact Nat.le_refl _)); (have e9 : ¬ 9223372036854775807 < s.size + x.size := (by omega)); clear HS3 HC3 hx))
    all_goals
      have HDF := Lib.hid (HD3.out.text (s ++ x))
      have hsx : (s ++ x).size ≤ 200 := by rw [ByteArray.size_append]; omega
      clear hc0 hc1 hf0 hf1 hd0 hd1 hg0 hg1
      generalize w3.setCell ⟨q, 0, none⟩ (.string (s ++ x)) = wF at *
      obtain ⟨hc0, hc1, hf0, hf1, _⟩ := HDF.out.bq
      obtain ⟨hp0, hp1, hpf0, hpf1, _⟩ := HDF.out.bp
      go_wp2_with fail
      refine bodyPost_ret (v := .agg #[.string (s ++ x), .slice A xs.length c]) (by simp [results, Try.results52, go_sem, hp0, hp1]) rfl ?_
      have HF := HDF.out.out (.string (s ++ x)) (.slice A xs.length c)
      exact ⟨_, A, c, xs, a3, s3, rfl, hsx, by omega, by omega, by omega, HF.1, HF.2.1, HF.2.2⟩
  by_cases hy1 : y = 1
  · subst hy1
    have hz2 := HD2.out.chg.size
    have hq2 := HD2.out.bq.lt
    have HAM := Lib.hid (src_litD W0 b v bs a2 s2 [-1, 0, (s.size : Int)] (by simp) (by simp) w2 HD2.out.src (by omega) 2 _ rfl)
    obtain ⟨hc0, hc1, hf0, hf1, _⟩ := HD2.out.bq
    go_wp2_with fail
    go_region_law (first
      | (go_simp; refine (show Calls _ _ _ _ _ from HAM.out).mono ?_; rintro e w3 ⟨x, a3, s3, rfl, hx, h5, h6, HS3, HC3⟩; (have HD3 := Lib.hid (HD2.out.pick HS3 HC3)); (obtain ⟨hd0, hd1, hg0, hg1, _⟩ := HD3.out.bq); (have hz3 := HD3.out.chg.size); clear HS3 HC3 hx; dsimp only)
      | (refine step_append_i3 (by rfl) _ _ (by rfl) w.heap.size (.slice A xs.length c) xs x (by rfl) (by rfl) HD3.out.own (by omega) hz3 ?_; intro g7 c7 w7 hO7 hg7 hgl7; (have HD7 := Lib.hid (HD3.out.grow hO7 hg7 hgl7)); (have HC7 := Lib.hid (HD3.out.bq.chg hg7 (fun e => (HD3.out.hu _ e).2 rfl))); clear hO7 hg7 hgl7; (obtain ⟨_, hk1, _, hl1, _⟩ := HC7.out)))
    all_goals
      have hxl7 : (xs ++ [x]).length = xs.length + 1 := by rw [List.length_append]; rfl
      clear hc0 hc1 hf0 hf1 hd0 hd1 hg0 hg1 hk1 hl1 HC7
      generalize w7.setCell ⟨q, 1, none⟩ (.slice (some ⟨g7, 0, none⟩) (xs.length + 1) c7) = wF at *
      obtain ⟨hc0, hc1, hf0, hf1, _⟩ := HD7.out.bq
      obtain ⟨hp0, hp1, hpf0, hpf1, _⟩ := HD7.out.bp
      go_wp2_with fail
      refine bodyPost_ret (v := .agg #[.string s, .slice (some ⟨g7, 0, none⟩) (xs.length + 1) c7]) (by simp [results, Try.results52, go_sem, hp0, hp1]) rfl ?_
      have HF := HD7.out.out (.string s) (.slice (some ⟨g7, 0, none⟩) (xs.length + 1) c7)
      exact ⟨s, some ⟨g7, 0, none⟩, c7, xs ++ [x], a3, s3, by rw [hxl7], by omega, by omega, by omega, by omega, HF.1, by rw [hxl7]; exact HF.2.1, HF.2.2⟩
  by_cases hy2 : y = 2
  · subst hy2
    have hz2 := HD2.out.chg.size
    have HOa := Lib.hid (ob_lit w2 w.heap.size hz2)
    have HDa := Lib.hid (HD2.out.far (Chg.of_below (ext_alloc1 w2 (.cells #[] 5)) (fun _ => False)) (fun _ h => h.elim))
    have HYa : Hid (∀ k, BY (.slice (some ⟨w2.heap.size, 0, none⟩) 0 0) k → k ≠ w.heap.size ∧ k ≠ q ∧ ¬ BY (.slice A xs.length c) k) := Lib.hid (fun k hk => by
      obtain rfl : w2.heap.size = k := Option.some.inj hk
      have h8 := HD2.out.bp.lt
      have h7 := HD2.out.bq.lt
      exact ⟨by omega, by omega, fun e => by have := (HD2.out.own.ge _ e).2; omega⟩)
    go_wp2_with fail
    generalize w2.alloc (.cells #[] 5) = wa at *
    generalize w2.heap.size = g0 at *
    refine (src_pick W0 b v bs a2 s2 2 _ HDa.out.src (by omega)).mono ?_
    rintro e w3 ⟨z, a3, s3, rfl, hz, h5, h6, HS3, HC3⟩
    have HD3 := Lib.hid (HDa.out.pick HS3 HC3)
    have HO3 := Lib.hid (HOa.out.chg HC3 (fun k hk e => by have := (HOa.out.ge k hk).1; omega))
    have hz1 : 0 ≤ z ∧ z ≤ 1 := ⟨hz.1, by have := hz.2.2.1 (by omega); omega⟩
    clear hz HS3 HC3 HDa HOa HD2
    go_wp2_with fail
    go_loopw [4, 5] (fun y' i wr => ∃ (j : Int) (ws : List UInt8) (B : Option Addr) (cb : Nat), 0 ≤ j ∧ j + ws.length = 120 + z ∧ i = .int .i64 j ∧ y' = .slice B ws.length cb ∧ Hid (DT W0 w wr b v bs a3 s3 w.heap.size q s (.slice A xs.length c) xs) ∧ Hid (OB wr w.heap.size (.slice B ws.length cb) ws) ∧ Hid (∀ k, BY (.slice B ws.length cb) k → k ≠ w.heap.size ∧ k ≠ q ∧ ¬ BY (.slice A xs.length c) k)) (fun _ i _ => (intOf i).toNat)
    case atStart => exact ⟨120 + z, [], _, 0, by omega, by simp, rfl, rfl, HD3.out, HO3.out, HYa.out⟩
    case round =>
      obtain ⟨j, ws, B, cb, hj, hjw, rfl, rfl, HD, HO, HY⟩ := hrel
      by_cases hj0 : 0 < j
      · have hwl : ws.length ≤ 121 := by omega
        have hzr := HD.out.chg.size
        have HJ := Lib.hid hjw
        have hj121 : j ≤ 121 := by omega
        clear hjw
        go_wp2_with (at_builtin; refine wpList_append_by3 rfl _ _ rfl w.heap.size (.slice B ws.length cb) ws 100 100 rfl rfl rfl HO.out (by omega) hzr ?_; intro g c5 w5 hO5 hg5 hgl; (have HO5 := Lib.hid hO5); (have HD5 := Lib.hid (HD.out.far hg5 (fun k hk => ⟨(HO.out.ge k hk).1, HY.out k hk⟩))); (have HL5 := Lib.hid hgl); clear hO5 hg5 hgl)
        have HY5 : Hid (∀ k, BY (.slice (some ⟨g, 0, none⟩) (ws.length + 1) c5) k → k ≠ w.heap.size ∧ k ≠ q ∧ ¬ BY (.slice A xs.length c) k) := Lib.hid (fun k hk => by
          obtain rfl : g = k := Option.some.inj hk
          rcases HL5.out with h9 | h9
          · exact HY.out g h9
          · have h8 := HD.out.bp.lt
            have h7 := HD.out.bq.lt
            exact ⟨by omega, by omega, fun e => by have := (HD.out.own.ge g e).2; omega⟩)
        go_roundw
        case rel => exact ⟨j - 1, ws ++ [100], some ⟨g, 0, none⟩, c5, by omega, by rw [List.length_append]; have := HJ.out; simp; omega, congrArg (Value.int .i64) (by omega), by rw [List.length_append]; rfl, HD5.out, by rw [List.length_append]; exact HO5.out, by rw [List.length_append]; exact HY5.out⟩
        case measure => simp [intOf]; omega
      · have hcv := conv_rb HO.out.rd
        have hwl : ws.length ≤ 121 := by omega
        have hwsz : (⟨ws.toArray⟩ : ByteArray).size ≤ 200 := show ws.length ≤ 200 by omega
        have HDF := Lib.hid (HD.out.both ⟨ws.toArray⟩)
        obtain ⟨hc0, hc1, hf0, hf1, _⟩ := HD.out.bq
        obtain ⟨hd0, hd1, hg0, hg1, _⟩ := HDF.out.bq
        obtain ⟨hp0, hp1, hpf0, hpf1, _⟩ := HDF.out.bp
        clear hjw
        go_wp2_with fail
        refine bodyPost_ret (v := .agg #[.string ⟨ws.toArray⟩, .slice none 0 0]) (by simp [results, Try.results52, go_sem, hp0, hp1]) rfl ?_
        have HF := HDF.out.out (.string ⟨ws.toArray⟩) (.slice none 0 0)
        exact ⟨_, none, 0, [], a3, s3, rfl, hwsz, by simp, by omega, by omega, HF.1, HF.2.1, HF.2.2⟩
  by_cases hy3 : y = 3
  · subst hy3
    have HDF := Lib.hid (HD2.out.both ⟨#[100, 100, 100, 100, 100, 100, 100, 100, 100, 100, 100, 100, 100, 100, 100, 100, 100, 100, 100, 100, 100, 100, 100, 100, 100, 100, 100, 100, 100, 100]⟩)
    obtain ⟨hc0, hc1, hf0, hf1, _⟩ := HD2.out.bq
    go_wp2_with fail
    obtain ⟨t, ht⟩ : ∃ t : ByteArray, t = ⟨#[100, 100, 100, 100, 100, 100, 100, 100, 100, 100, 100, 100, 100, 100, 100, 100, 100, 100, 100, 100, 100, 100, 100, 100, 100, 100, 100, 100, 100, 100]⟩ := ⟨_, rfl⟩
    have hts : t.size ≤ 200 := by rw [ht]; decide
    rw [← ht] at HDF ⊢
    clear ht hc0 hc1 hf0 hf1 HD2
    generalize (w2.setCell ⟨q, 0, none⟩ (.string t)).setCell ⟨q, 1, none⟩ (.slice none 0 0) = wa at *
    refine (src_pick W0 b v bs a2 s2 2 _ HDF.out.src (by omega)).mono ?_
    rintro e w3 ⟨z, a3, s3, rfl, hz, h5, h6, HS3, HC3⟩
    have HD3 := Lib.hid (HDF.out.pick HS3 HC3)
    have hz1 : 0 ≤ z ∧ z ≤ 1 := ⟨hz.1, by have := hz.2.2.1 (by omega); omega⟩
    clear hz HS3 HC3 HDF
    go_wp2_with fail
    go_loopw [6] (fun i wr => ∃ (j : Int) (ys : List Int) (B : Option Addr) (cb : Nat), 0 ≤ j ∧ j + ys.length = 20 + z ∧ i = .int .i64 j ∧ Hid (DT W0 w wr b v bs a3 s3 w.heap.size q t (.slice B ys.length cb) ys)) (fun i _ => (intOf i).toNat)
    case atStart => exact ⟨20 + z, [], none, 0, by omega, by simp, rfl, HD3.out⟩
    case round =>
      obtain ⟨j, ys, B, cb, hj, hjw, rfl, HD⟩ := hrel
      have hyl : ys.length ≤ 21 := by omega
      have hj21 : j ≤ 21 := by omega
      have HJ := Lib.hid hjw
      clear hjw
      by_cases hj0 : 0 < j
      · have hzr := HD.out.chg.size
        obtain ⟨_, hc1, _, hf1, _⟩ := HD.out.bq
        go_wp2_with (at_builtin; refine wpList_append_i3 rfl _ _ rfl w.heap.size (.slice B ys.length cb) ys ys.length rfl rfl HD.out.own (by omega) hzr ?_; intro g7 c7 w7 hO7 hg7 hgl7; (have HD7 := Lib.hid (HD.out.grow hO7 hg7 hgl7)); (have HC7 := Lib.hid (HD.out.bq.chg hg7 (fun e => (HD.out.hu _ e).2 rfl))); clear hO7 hg7 hgl7; (obtain ⟨_, hd1, _, hg1, _⟩ := HC7.out); clear hc1 hf1)
        go_roundw
        case rel => exact ⟨j - 1, ys ++ [(ys.length : Int)], some ⟨g7, 0, none⟩, c7, by omega, by rw [List.length_append]; have := HJ.out; simp; omega, congrArg (Value.int .i64) (by omega), by rw [List.length_append]; exact HD7.out⟩
        case measure => simp [intOf]; omega
      · obtain ⟨hc0, hc1, hf0, hf1, _⟩ := HD.out.bq
        obtain ⟨hp0, hp1, hpf0, hpf1, _⟩ := HD.out.bp
        go_wp2_with fail
        refine bodyPost_ret (v := .agg #[.string t, .slice B ys.length cb]) (by simp [results, Try.results52, go_sem, hp0, hp1]) rfl ?_
        have HF := HD.out.out (.string t) (.slice B ys.length cb)
        exact ⟨t, B, cb, ys, a3, s3, rfl, hts, by omega, by omega, by omega, HF.1, HF.2.1, HF.2.2⟩
  · have e0 : (y == 0) = false := by simp [hy0]
    have e1 : (y == 1) = false := by simp [hy1]
    have e2 : (y == 2) = false := by simp [hy2]
    have e3 : (y == 3) = false := by simp [hy3]
    obtain ⟨hc0, hc1, hf0, hf1, _⟩ := HD2.out.bq
    obtain ⟨hp0, hp1, hpf0, hpf1, _⟩ := HD2.out.bp
    go_wp2_with fail
    refine bodyPost_ret (v := .agg #[.string s, .slice A xs.length c]) (by simp [results, Try.results52, go_sem, hp0, hp1]) rfl ?_
    have HF := HD2.out.out (.string s) (.slice A xs.length c)
    exact ⟨_, A, c, xs, a2, s2, rfl, by omega, by omega, by omega, by omega, HF.1, HF.2.1, HF.2.2⟩

end Go.Proofs.Ytikiomjgnpdldaa
