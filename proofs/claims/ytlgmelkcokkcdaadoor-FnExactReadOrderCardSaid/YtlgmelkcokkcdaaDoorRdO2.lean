/-
  Orders: the order with a text (ReadOrder), of the program.
-/
import Derived.Test.YtlgmelkcokkcdaaDoorRdO
import Derived.Deep.RegionHeld3
namespace Go.Proofs.YtlgmelkcokkcdaaDoor
open Go.ChangeShapes Go.WideShapes Go.ChangeAt Go.RowKit Go.Sort
set_option linter.unusedVariables false
set_option maxRecDepth 100000
attribute [local go_sem ↓] Go.wp_at_zero Go.wp_at_succ

theorem OI.cells2 {w : World} {base : Nat} {A : Option Addr} {n c : Nat} {xs : List Int} (h : OI w base (.slice A n c) xs) (h5 : xs.length = 2) :
    ∃ g1, A = some ⟨g1, 0, none⟩ ∧ w.cell? ⟨g1, 0, none⟩ = some (.int .i64 (gi xs 0)) ∧ w.cell? ⟨g1, 1, none⟩ = some (.int .i64 (gi xs 1)) := by
  obtain ⟨ad, hA, hlt, hc⟩ := h.rd.at2 (show 0 < xs.length by omega)
  rcases h.2 with ⟨hv, h1⟩ | ⟨g, cap, cur, hv, hg, _⟩
  · omega
  · injection hv with q1 q2 q3
    subst q1
    injection hA with hA
    subst hA
    refine ⟨g, rfl, ?_, ?_⟩
    · simpa [Addr.add] using hc 0 (by omega)
    · simpa [Addr.add] using hc 1 (by omega)
theorem rdNs_two {x : ByteArray} : rdNs 47 x 2 = true ↔ ((spb 47 x).length = 2 ∧ rdb (gd (spb 47 x) 0) = true ∧ rdb (gd (spb 47 x) 1) = true) := by
  unfold rdNs
  simp only [Bool.and_eq_true, decide_eq_true_eq]
  constructor
  · rintro ⟨h1, h2⟩
    obtain ⟨a, b, h⟩ := two _ h1
    rw [h] at h2 ⊢
    simp only [List.all_cons, List.all_nil, Bool.and_eq_true] at h2
    exact ⟨rfl, h2.1, h2.2.1⟩
  · rintro ⟨h1, h2, h3⟩
    obtain ⟨a, b, h⟩ := two _ h1
    rw [h] at h2 h3 ⊢
    refine ⟨rfl, ?_⟩
    simp only [List.all_cons, List.all_nil, Bool.and_eq_true]
    exact ⟨h2, h3, trivial⟩
theorem gi_map2 {x : ByteArray} (h : (spb 47 x).length = 2) : gi ((spb 47 x).map rdv) 0 = rdv (gd (spb 47 x) 0) ∧ gi ((spb 47 x).map rdv) 1 = rdv (gd (spb 47 x) 1) := by
  obtain ⟨a, b, h⟩ := two _ h
  rw [h]
  exact ⟨rfl, rfl⟩
set_option maxHeartbeats 6400000 in
theorem impl_ReadOrder (s : ByteArray) (w : World) (hs : s.size ≤ 1048576) (hE : Env w) :
    Calls Tryd.prog 8 #[.string s] w (RetOD (rdOv s) (rdOb s) w) := by
  have HEV : Hid (∀ W', Below w.heap.size w W' → Env W') := Lib.hid fun W' h => hE.ext h
  have HSP : Hid (∀ w, Env w → Calls Tryd.prog 28 #[.string s, .string ⟨#[32]⟩] w fun e w' => ∃ A cp, e = .returned (.slice A (spb 32 s).length cp) ∧ OStr w' w.heap.size (.slice A (spb 32 s).length cp) (spb 32 s) ∧ Below w.heap.size w w') := Lib.hid (fun w h => impl_Split s hs 32 w h)
  have HPT : Hid (∀ x ∈ spb 32 s, x.size ≤ 1048576) := Lib.hid fun x hx => Nat.le_trans (spb_part hx) hs
  clear hs hE
  go_enter Tryd.func8, Tryd.ntmps8
  go_wp2_with fail
  refine (show Calls _ _ _ _ _ from HSP.out _ (HEV.out _ (ext_alloc1 _ _))).mono ?_
  rintro e w1 ⟨A, cp, rfl, hO, hb1⟩
  have HZ : Hid (B5 w1 w.heap.size zOD) := Lib.hid ((B5.zero w _).ext hb1)
  have HW := Lib.hid (ext_trans (ext_alloc1 w _) hb1)
  have HO := Lib.hid hO
  clear hb1 hO HSP
  by_cases h5 : (spb 32 s).length = 5
  · obtain ⟨l, hl⟩ : ∃ l, spb 32 s = l := ⟨_, rfl⟩
    have HL := Lib.hid hl
    rw [hl] at h5 HO HPT
    rw [hl, h5]
    clear hl
    have HO' := HO.out
    rw [h5] at HO'
    obtain ⟨g1, rfl, k0, k1, k2, k3, k4⟩ := HO'.cells5 h5
    have H5 := Lib.hid h5
    clear HO' HO k3
    have p0 := HPT.out _ (gd_mem (l := l) (k := 0) (by omega))
    have HT0 : Hid ((tr35 (gd l 0)).size ≤ 1048576) := Lib.hid (by
      unfold tr35 Lib.trimPrefix
      split
      · rw [bsq_size, List.length_drop, size_toList]; omega
      · rw [bsq_size, size_toList]; omega)
    have HTP : Hid (∀ w, Calls Tryd.prog 30 #[.string (gd l 0), .string ⟨#[35]⟩] w (RetP (.string (tr35 (gd l 0))) w)) := Lib.hid fun w => (Tryd.strings_TrimPrefix (gd l 0) ⟨#[35]⟩ w).mono fun e w' ⟨h1, h2⟩ => ⟨by rw [h1]; rfl, h2.symm⟩
    have HN0 : Hid (∀ w, Env w → Calls Tryd.prog 29 #[.string (tr35 (gd l 0))] w (Ret (.tuple #[.int .i64 (rdv (tr35 (gd l 0))), .bool (rdb (tr35 (gd l 0)))]) w)) := Lib.hid fun w h => impl_ReadDecimal _ HT0.out w h
    have HN2 : Hid (∀ w, Env w → Calls Tryd.prog 31 #[.string (gd l 2), .string ⟨#[47]⟩, .int .i64 2] w (RetN 47 (gd l 2) 2 w)) := Lib.hid fun w h => impl_readNumbers (gd l 2) (HPT.out _ (gd_mem (by omega))) 47 2 (by omega) (by omega) w h
    have HN4 : Hid (∀ w, Env w → Calls Tryd.prog 29 #[.string (gd l 4)] w (Ret (.tuple #[.int .i64 (rdv (gd l 4)), .bool (rdb (gd l 4))]) w)) := Lib.hid fun w h => impl_ReadDecimal _ (HPT.out _ (gd_mem (by omega))) w h
    have HS1 : Hid ((gd l 1).size ≤ 1048576) := Lib.hid (HPT.out _ (gd_mem (by omega)))
    clear h5 HPT p0 HT0
    go_wp2_with fail
    refine (show Calls _ _ _ _ _ from HTP.out _).mono ?_
    rintro e w2 ⟨rfl, rfl⟩
    go_wp2_with fail
    refine (show Calls _ _ _ _ _ from HN0.out _ (HEV.out _ HW.out)).mono ?_
    rintro e w3 ⟨rfl, hb3⟩
    replace HW := Lib.hid (ext_trans HW.out hb3)
    replace HZ := Lib.hid (HZ.out.ext hb3)
    replace k1 := cell_keep k1 hb3
    replace k2 := cell_keep k2 hb3
    replace k4 := cell_keep k4 hb3
    clear hb3 HN0 HTP k0
    go_wp2_with fail
    refine (show Calls _ _ _ _ _ from HN2.out _ (HEV.out _ HW.out)).mono ?_
    rintro e w4 ⟨v2, rfl, hb3, hn2⟩
    replace HW := Lib.hid (ext_trans HW.out hb3)
    replace HZ := Lib.hid (HZ.out.ext hb3)
    replace k1 := cell_keep k1 hb3
    replace k4 := cell_keep k4 hb3
    have HNN := Lib.hid hn2
    clear hb3 HN2 k2 hn2
    go_wp2_with fail
    refine (show Calls _ _ _ _ _ from HN4.out _ (HEV.out _ HW.out)).mono ?_
    rintro e w5 ⟨rfl, hb3⟩
    replace HW := Lib.hid (ext_trans HW.out hb3)
    replace HZ := Lib.hid (HZ.out.ext hb3)
    replace k1 := cell_keep k1 hb3
    have HB5 := Lib.hid hb3
    clear hb3 HN4 k4
    have HE1 : Hid (rdb (tr35 (gd (spb 32 s) 0)) = false → rdO s = none) := Lib.hid rdO_num
    have HE2 : Hid (rdNs 47 (gd (spb 32 s) 2) 2 = false → rdO s = none) := Lib.hid fun h => rdO_two (fun h2 => by rw [rdNs_two.2 h2] at h; cases h)
    have HE4 : Hid (rdb (gd (spb 32 s) 4) = false → rdO s = none) := Lib.hid rdO_three
    have HE5 : Hid (rdNs 47 (gd (spb 32 s) 2) 2 = true → rdb (tr35 (gd (spb 32 s) 0)) = true → rdb (gd (spb 32 s) 4) = true → rdO s = if mOrderText (oP (spb 32 s) (spb 47 (gd (spb 32 s) 2))) = s then some (oP (spb 32 s) (spb 47 (gd (spb 32 s) 2))) else none) := Lib.hid fun h h1 h3 => by
      obtain ⟨a, b, c⟩ := rdNs_two.1 h
      exact rdO_last (by rw [HL.out]; exact H5.out) a h1 b c h3
    rw [HL.out] at HE1 HE2 HE4 HE5
    obtain ⟨b1, hb1⟩ : ∃ b, rdb (tr35 (gd l 0)) = b := ⟨_, rfl⟩
    obtain ⟨b2, hb2⟩ : ∃ b, rdNs 47 (gd l 2) 2 = b := ⟨_, rfl⟩
    obtain ⟨b4, hb4⟩ : ∃ b, rdb (gd l 4) = b := ⟨_, rfl⟩
    have HX := Lib.hid hb2
    rw [hb1] at HE1 HE5 ⊢
    rw [hb2] at HE2 HE5 HNN ⊢
    rw [hb4] at HE4 HE5 ⊢
    clear hb1 hb2 hb4
    cases b1 with
    | false =>
      have HF : Hid (rdO s = none) := Lib.hid (HE1.out rfl)
      have hz0 := HZ.out.1.1
      have hz1 := HZ.out.1.2.1
      have hz2 := HZ.out.1.2.2.1
      have hz3 := HZ.out.1.2.2.2.1
      have hz4 := HZ.out.1.2.2.2.2
      have hzf := HZ.out.2
      have hx := @box5_set w5 w.heap.size _ _ _ _ _ (.int .i64 0) (.string ⟨#[]⟩) (.int .i64 0) (.int .i64 0) (.int .i64 0) hz0 hz1 hz2 hz3 hz4
      have hw0 := hx.1
      have hw1 := hx.2.1
      have hw2 := hx.2.2.1
      have hw3 := hx.2.2.2.1
      have hw4 := hx.2.2.2.2
      clear hx
      try simp only []
      go_wp2_with fail
      refine bodyPost_ret (v := .tuple #[.agg #[.int .i64 0, .string ⟨#[]⟩, .int .i64 0, .int .i64 0, .int .i64 0], .bool false]) (by simp [results, Tryd.results8, go_sem, hw0, hw1, hw2, hw3, hw4]) rfl (RetOD.no HF.out ?_)
      repeat (refine ext_set ?_ (by simp; try omega) _)
      exact HW.out
    | true =>
    cases b2 with
    | false =>
      have HF : Hid (rdO s = none) := Lib.hid (HE2.out rfl)
      have hz0 := HZ.out.1.1
      have hz1 := HZ.out.1.2.1
      have hz2 := HZ.out.1.2.2.1
      have hz3 := HZ.out.1.2.2.2.1
      have hz4 := HZ.out.1.2.2.2.2
      have hzf := HZ.out.2
      have hx := @box5_set w5 w.heap.size _ _ _ _ _ (.int .i64 0) (.string ⟨#[]⟩) (.int .i64 0) (.int .i64 0) (.int .i64 0) hz0 hz1 hz2 hz3 hz4
      have hw0 := hx.1
      have hw1 := hx.2.1
      have hw2 := hx.2.2.1
      have hw3 := hx.2.2.2.1
      have hw4 := hx.2.2.2.2
      clear hx
      try simp only []
      go_wp2_with fail
      refine bodyPost_ret (v := .tuple #[.agg #[.int .i64 0, .string ⟨#[]⟩, .int .i64 0, .int .i64 0, .int .i64 0], .bool false]) (by simp [results, Tryd.results8, go_sem, hw0, hw1, hw2, hw3, hw4]) rfl (RetOD.no HF.out ?_)
      repeat (refine ext_set ?_ (by simp; try omega) _)
      exact HW.out
    | true =>
    cases b4 with
    | false =>
      have HF : Hid (rdO s = none) := Lib.hid (HE4.out rfl)
      have hz0 := HZ.out.1.1
      have hz1 := HZ.out.1.2.1
      have hz2 := HZ.out.1.2.2.1
      have hz3 := HZ.out.1.2.2.2.1
      have hz4 := HZ.out.1.2.2.2.2
      have hzf := HZ.out.2
      have hx := @box5_set w5 w.heap.size _ _ _ _ _ (.int .i64 0) (.string ⟨#[]⟩) (.int .i64 0) (.int .i64 0) (.int .i64 0) hz0 hz1 hz2 hz3 hz4
      have hw0 := hx.1
      have hw1 := hx.2.1
      have hw2 := hx.2.2.1
      have hw3 := hx.2.2.2.1
      have hw4 := hx.2.2.2.2
      clear hx
      try simp only []
      go_wp2_with fail
      refine bodyPost_ret (v := .tuple #[.agg #[.int .i64 0, .string ⟨#[]⟩, .int .i64 0, .int .i64 0, .int .i64 0], .bool false]) (by simp [results, Tryd.results8, go_sem, hw0, hw1, hw2, hw3, hw4]) rfl (RetOD.no HF.out ?_)
      repeat (refine ext_set ?_ (by simp; try omega) _)
      exact HW.out
    | true =>
    obtain ⟨hlv, ⟨A2, c2, rfl⟩, hov⟩ := HNN.out rfl
    obtain ⟨g2, rfl, n0, n1⟩ := hov.cells2 (by rw [List.length_map]; exact hlv)
    rw [(gi_map2 hlv).1] at n0
    rw [(gi_map2 hlv).2] at n1
    replace n0 := cell_keep n0 HB5.out
    replace n1 := cell_keep n1 HB5.out
    clear hov hlv HNN HB5
    obtain ⟨o, ho⟩ : ∃ o, oP l (spb 47 (gd l 2)) = o := ⟨_, rfl⟩
    have q0 : rdv (tr35 (gd l 0)) = o.id := by rw [← ho]; rfl
    have q1 : gd l 1 = o.cu := by rw [← ho]; rfl
    have q2 : rdv (gd (spb 47 (gd l 2)) 1) = o.br := by rw [← ho]; rfl
    have q3 : rdv (gd l 4) = o.due := by rw [← ho]; rfl
    have q4 : rdv (gd (spb 47 (gd l 2)) 0) = o.sent := by rw [← ho]; rfl
    rw [ho] at HE5
    rw [q1] at HS1 k1
    rw [q2] at n1
    rw [q4] at n0
    rw [q0, q3]
    clear q0 q1 q2 q3 q4 ho HE1 HE2 HE4
    have HFS := Lib.hid (HE5.out rfl rfl rfl)
    clear HE5
    go_wp2_with fail
    have n0a := fun o => cell_keep n0 (ext_alloc1 w5 o)
    have n1a := fun o => cell_keep n1 (ext_alloc1 w5 o)
    have k1a := fun o => cell_keep k1 (ext_alloc1 w5 o)
    go_region
    have HP : Hid (POD (w5.alloc (.cells #[.int .i64 o.id, .string o.cu, .int .i64 o.br, .int .i64 o.due, .int .i64 o.sent] 23)).drew ⟨w5.heap.size, 0, none⟩ o) := Lib.hid (POD.ext (pOD_box w5 o 23) (ext_drew (ext_refl _)))
    have hbw : Below w5.heap.size w5 (w5.alloc (.cells #[.int .i64 o.id, .string o.cu, .int .i64 o.br, .int .i64 o.due, .int .i64 o.sent] 23)).drew := ext_drew (ext_alloc1 _ _)
    replace HW := Lib.hid (ext_trans HW.out hbw)
    replace HZ := Lib.hid (HZ.out.ext hbw)
    clear hbw n0 n1 k1 n0a n1a k1a
    generalize w5.heap.size = g6 at *
    generalize (w5.alloc _).drew = w6 at *
    have HC : Hid (Calls Tryd.prog 32 #[.agg #[.int .i64 o.id, .string o.cu, .int .i64 o.br, .int .i64 o.due, .int .i64 o.sent]] w6 (Ret (.string (mOrderText o)) w6)) := Lib.hid (impl_OrderText _ o w6 rfl HS1.out (HEV.out _ HW.out).lay)
    have hp0 := HP.out.1
    have hp1 := HP.out.2.1
    have hp2 := HP.out.2.2.1
    have hp3 := HP.out.2.2.2.1
    have hp4 := HP.out.2.2.2.2
    try simp only []
    go_wp2_with fail
    clear hp0 hp1 hp2 hp3 hp4
    refine (show Calls _ _ _ _ _ from HC.out).mono ?_
    rintro e w7 ⟨rfl, hb3⟩
    replace HW := Lib.hid (ext_trans HW.out hb3)
    replace HZ := Lib.hid (HZ.out.ext hb3)
    replace HP := Lib.hid (HP.out.ext hb3)
    clear hb3 HC
    by_cases hq : mOrderText o = s
    · have HF : Hid (rdO s = some o) := Lib.hid (by rw [HFS.out, if_pos hq])
      rw [hq]
      clear hq
      have hz0 := HZ.out.1.1
      have hz1 := HZ.out.1.2.1
      have hz2 := HZ.out.1.2.2.1
      have hz3 := HZ.out.1.2.2.2.1
      have hz4 := HZ.out.1.2.2.2.2
      have hzf := HZ.out.2
      have hx := @box5_set w7 w.heap.size _ _ _ _ _ (.int .i64 o.id) (.string o.cu) (.int .i64 o.br) (.int .i64 o.due) (.int .i64 o.sent) hz0 hz1 hz2 hz3 hz4
      have hw0 := hx.1
      have hw1 := hx.2.1
      have hw2 := hx.2.2.1
      have hw3 := hx.2.2.2.1
      have hw4 := hx.2.2.2.2
      have hp0 := HP.out.1
      have hp1 := HP.out.2.1
      have hp2 := HP.out.2.2.1
      have hp3 := HP.out.2.2.2.1
      have hp4 := HP.out.2.2.2.2
      clear hx
      try simp only []
      go_wp2_with fail
      refine bodyPost_ret (v := .tuple #[.agg #[.int .i64 o.id, .string o.cu, .int .i64 o.br, .int .i64 o.due, .int .i64 o.sent], .bool true]) (by simp [results, Tryd.results8, go_sem, hw0, hw1, hw2, hw3, hw4]) rfl (RetOD.yes HF.out HS1.out ?_)
      repeat (refine ext_set ?_ (by simp; try omega) _)
      exact HW.out
    · have HF : Hid (rdO s = none) := Lib.hid (by rw [HFS.out, if_neg hq])
      have hst := str_ne hq
      clear hq
      have hz0 := HZ.out.1.1
      have hz1 := HZ.out.1.2.1
      have hz2 := HZ.out.1.2.2.1
      have hz3 := HZ.out.1.2.2.2.1
      have hz4 := HZ.out.1.2.2.2.2
      have hzf := HZ.out.2
      have hx := @box5_set w7 w.heap.size _ _ _ _ _ (.int .i64 0) (.string ⟨#[]⟩) (.int .i64 0) (.int .i64 0) (.int .i64 0) hz0 hz1 hz2 hz3 hz4
      have hw0 := hx.1
      have hw1 := hx.2.1
      have hw2 := hx.2.2.1
      have hw3 := hx.2.2.2.1
      have hw4 := hx.2.2.2.2
      clear hx
      try simp only []
      go_wp2_with fail
      refine bodyPost_ret (v := .tuple #[.agg #[.int .i64 0, .string ⟨#[]⟩, .int .i64 0, .int .i64 0, .int .i64 0], .bool false]) (by simp [results, Tryd.results8, go_sem, hw0, hw1, hw2, hw3, hw4]) rfl (RetOD.no HF.out ?_)
      repeat (refine ext_set ?_ (by simp; try omega) _)
      exact HW.out
  · have HF : Hid (rdO s = none) := Lib.hid (rdO_len h5)
    have e1 : ((((spb 32 s).length : Nat) : Int) != 5) = true := by simp; omega
    clear h5
    have hz0 := HZ.out.1.1
    have hz1 := HZ.out.1.2.1
    have hz2 := HZ.out.1.2.2.1
    have hz3 := HZ.out.1.2.2.2.1
    have hz4 := HZ.out.1.2.2.2.2
    have hzf := HZ.out.2
    have hx := @box5_set w1 w.heap.size _ _ _ _ _ (.int .i64 0) (.string ⟨#[]⟩) (.int .i64 0) (.int .i64 0) (.int .i64 0) hz0 hz1 hz2 hz3 hz4
    have hw0 := hx.1
    have hw1 := hx.2.1
    have hw2 := hx.2.2.1
    have hw3 := hx.2.2.2.1
    have hw4 := hx.2.2.2.2
    clear hx
    try simp only []
    go_wp2_with fail
    refine bodyPost_ret (v := .tuple #[.agg #[.int .i64 0, .string ⟨#[]⟩, .int .i64 0, .int .i64 0, .int .i64 0], .bool false]) (by simp [results, Tryd.results8, go_sem, hw0, hw1, hw2, hw3, hw4]) rfl (RetOD.no HF.out ?_)
    repeat (refine ext_set ?_ (by simp; try omega) _)
    exact HW.out
end Go.Proofs.YtlgmelkcokkcdaaDoor
