/-
  Parts of the proof: RdF, RdF2, Lay3.
-/
import Derived.Test.YtfgopboddkhckaaGreatDoorKw10
import Derived.OwnWalk
namespace Go.Proofs.YtfgopboddkhckaaGreatDoor
open Go.ChangeShapes Go.WideShapes Go.ChangeAt Go.RowKit Go.Sort Go.Joins
set_option linter.unusedVariables false
set_option maxRecDepth 100000
theorem ri3_new (W : World) (a b c : Int) : RI (W.alloc (.cells #[.int .i64 a, .int .i64 b, .int .i64 c] 2)) (.slice (some ⟨W.heap.size, 0, none⟩) 3 3) [a, b, c] := by
 have h : OI (W.alloc (.cells #[.int .i64 a, .int .i64 b, .int .i64 c] 2)) W.heap.size (.slice (some ⟨W.heap.size, 0, none⟩) 3 3) [a, b, c] :=
   World.ownsRow_lit _ #[.int .i64 a, .int .i64 b, .int .i64 c] 3 (Nat.le_refl _) (by simp [maxLen]) (by simp)
 exact h.rd
def xT (f : FM) : ByteArray := bsq (jnL 120 ([f.l, f.w, f.h].map Lib.itoa))
theorem xT_eq (f : FM) : xT f ++ ⟨#[43]⟩ ++ itb f.j = fmT f := by
 apply ba_ext
 rw [fmT_list]
 unfold xT
 show (bsq (jnL 120 [Lib.itoa f.l, Lib.itoa f.w, Lib.itoa f.h]) ++ ⟨#[43]⟩ ++ itb f.j).data.toList = _
 rw [jnL_cons _ _ (by simp), jnL_cons _ _ (by simp)]
 simp [ByteArray.data_append, bsq, itb, jnL]
set_option maxHeartbeats 6400000 in
theorem impl_FormatText (f : FM) (w : World) (hL : LayF w) :
   Calls Tryz.prog 88 #[.agg #[.int .i64 f.l, .int .i64 f.w, .int .i64 f.h, .int .i64 f.j]] w (Ret (.string (mFT f)) w) := by
 have HLF : Hid (∀ W', Below w.heap.size w W' → LayF W') := Lib.hid fun W' h => hL.ext h
 have HOK := Lib.hid (fun w => impl_okF f w)
 have HM : Hid (mFT f = bif vF f then fmT f else ⟨#[]⟩) := Lib.hid rfl
 cases hv : vF f with
 | false =>
   rw [hv] at HOK HM
   clear hv hL
   go_enter Tryz.func88, Tryz.ntmps88
   go_wp2_with fail
   refine (show Calls _ _ _ _ _ from HOK.out _).mono ?_
   rintro e w1 ⟨rfl, hb⟩
   have HB := Lib.hid (ext_trans (ext_alloc1 _ _) hb)
   clear hb
   go_wp2_with fail
   go_ret
   exact ⟨by rw [HM.out]; rfl, HB.out⟩
 | true =>
   obtain ⟨b1, b2, b3, b4, b5, b6, b7, b8, _⟩ := vF_bd hv
   have HX := Lib.hid (xT_eq f)
   have HN : Hid (∀ W v, RI W v [f.l, f.w, f.h] → Below w.heap.size w W → Calls Tryz.prog 93 #[.string ⟨#[120]⟩, v] W (Ret (.string (xT f)) W)) := Lib.hid fun W v h hb => impl_numsText 120 v [f.l, f.w, f.h] W h (by simp) (fun k hk => by
     have hk : k < 3 := hk
     rcases (show k = 0 ∨ k = 1 ∨ k = 2 by omega) with rfl | rfl | rfl
     · show -9223372036854775808 ≤ f.l ∧ f.l ≤ 9223372036854775807; omega
     · show -9223372036854775808 ≤ f.w ∧ f.w ≤ 9223372036854775807; omega
     · show -9223372036854775808 ≤ f.h ∧ f.h ≤ 9223372036854775807; omega) (HLF.out W hb)
   have HD : Hid (∀ W, Below w.heap.size w W → Calls Tryz.prog 54 #[.int .i64 f.j] W (Ret (.string (itb f.j)) W)) := Lib.hid fun W hb => impl_Dec f.j (by omega) (by omega) W (HLF.out W hb)
   have hxs : (xT f).size ≤ 100 := by
     have h1 := itb_size f.l (by omega) (by omega)
     have h2 := itb_size f.w (by omega) (by omega)
     have h3 := itb_size f.h (by omega) (by omega)
     rw [← size_toList, itb_list] at h1 h2 h3
     unfold xT
     rw [bsq_size]
     show (jnL 120 [Lib.itoa f.l, Lib.itoa f.w, Lib.itoa f.h]).length ≤ 100
     rw [jnL_cons _ _ (by simp), jnL_cons _ _ (by simp)]
     simp [jnL]
     omega
   have hjs := itb_size f.j (by omega) (by omega)
   have c1 : ¬ 9223372036854775807 < (xT f).size + 1 := by omega
   have c2 : ¬ 9223372036854775807 < (xT f).size + 1 + (itb f.j).size := by omega
   rw [hv] at HOK HM
   clear hv hL b1 b2 b3 b4 b5 b6 b7 b8 hxs hjs
   obtain ⟨xt, hxt⟩ : ∃ t, xT f = t := ⟨_, rfl⟩
   obtain ⟨jt, hjt⟩ : ∃ t, itb f.j = t := ⟨_, rfl⟩
   rw [hxt, hjt] at HX c2
   rw [hxt] at c1 HN
   rw [hjt] at HD
   clear hxt hjt
   go_enter Tryz.func88, Tryz.ntmps88
   go_wp2_with fail
   refine (show Calls _ _ _ _ _ from HOK.out _).mono ?_
   rintro e w1 ⟨rfl, hb⟩
   have k0 := cell_keep (p := ⟨w.heap.size, 0, none⟩) (v := .int .i64 f.l) (by simp [go_sem]) hb
   have k1 := cell_keep (p := ⟨w.heap.size, 1, none⟩) (v := .int .i64 f.w) (by simp [go_sem]) hb
   have k2 := cell_keep (p := ⟨w.heap.size, 2, none⟩) (v := .int .i64 f.h) (by simp [go_sem]) hb
   have k3 := cell_keep (p := ⟨w.heap.size, 3, none⟩) (v := .int .i64 f.j) (by simp [go_sem]) hb
   have HB := Lib.hid (ext_trans (ext_alloc1 _ _) hb)
   have m3 := fun o => cell_keep k3 (ext_alloc1 w1 o)
   clear hb
   go_wp2_with fail
   have HRI := Lib.hid ((ri3_new w1 f.l f.w f.h).ext (ext_drew (ext_refl _)))
   have HBA := Lib.hid (ext_drew (ext_alloc HB.out (.cells #[.int .i64 f.l, .int .i64 f.w, .int .i64 f.h] 2)))
   go_region_law (first
     | (go_simp; refine (show Calls _ _ _ _ _ from HN.out _ _ HRI.out HBA.out).mono ?_; rintro e w3 ⟨rfl, hb3⟩; (have HB3 := Lib.hid (ext_trans HBA.out hb3)); (have j3 := cell_keep (cell_keep k3 (ext_drew (ext_alloc1 w1 (.cells #[.int .i64 f.l, .int .i64 f.w, .int .i64 f.h] 2)))) hb3); clear hb3; dsimp only)
     | (go_simp; refine (show Calls _ _ _ _ _ from HD.out _ HB3.out).mono ?_; rintro e w4 ⟨rfl, hb4⟩; (have HB4 := Lib.hid (ext_trans HB3.out hb4)); clear hb4; dsimp only))
   all_goals
     go_wp2_with fail
     go_ret
     exact ⟨by rw [HM.out, ← HX.out]; rfl, HB4.out⟩
theorem cut_sz (s : ByteArray) : (cutA s).size ≤ s.size ∧ (cutD s).size ≤ s.size := by
 unfold cutA cutD
 rw [bsq_size, bsq_size, ← size_toList]
 unfold Lib.cut
 split
 · exact ⟨by simp only [List.length_take]; omega, by simp only [List.length_drop]; omega⟩
 · exact ⟨Nat.le_refl _, Nat.zero_le _⟩
structure Z4 (w W : World) (p : Nat) : Prop where
 b : Below w.heap.size w W
 ge : w.heap.size ≤ p
 lt : p < W.heap.size
 c0 : W.cell? ⟨p, 0, none⟩ = some (.int .i64 0)
 c1 : W.cell? ⟨p, 1, none⟩ = some (.int .i64 0)
 c2 : W.cell? ⟨p, 2, none⟩ = some (.int .i64 0)
 c3 : W.cell? ⟨p, 3, none⟩ = some (.int .i64 0)
 fz : ∀ j, W.frozen? ⟨p, j, none⟩ = false
theorem Z4.ext {w W W' : World} {p : Nat} (h : Z4 w W p) (hb : Below W.heap.size W W') : Z4 w W' p :=
 ⟨ext_trans h.b hb, h.ge, Nat.lt_of_lt_of_le h.lt hb.size, cell_keep h.c0 hb, cell_keep h.c1 hb, cell_keep h.c2 hb, cell_keep h.c3 hb, fun j => by rw [(bcell hb).2 p j h.lt]; exact h.fz j⟩
def RetF (s : ByteArray) (w : World) : Ending → World → Prop := Ret (.tuple #[.agg #[.int .i64 (rfV s).l, .int .i64 (rfV s).w, .int .i64 (rfV s).h, .int .i64 (rfV s).j], .bool (rfB s)]) w
theorem RetF.no {s : ByteArray} {w w' : World} (h : mRF s = none) (hb : Below w.heap.size w w') : RetF s w (.returned (.tuple #[.agg #[.int .i64 0, .int .i64 0, .int .i64 0, .int .i64 0], .bool false])) w' := by
 unfold RetF; rw [(rf_none h).1, (rf_none h).2]; exact ⟨rfl, hb⟩
theorem RetF.yes {s : ByteArray} {f : FM} {w w' : World} (h : mRF s = some f) (hb : Below w.heap.size w w') : RetF s w (.returned (.tuple #[.agg #[.int .i64 f.l, .int .i64 f.w, .int .i64 f.h, .int .i64 f.j], .bool true])) w' := by
 unfold RetF; rw [(rf_some h).1, (rf_some h).2]; exact ⟨rfl, hb⟩
set_option maxHeartbeats 6400000 in
theorem impl_ReadFormat (s : ByteArray) (hs : s.size ≤ 1048576) (w : World) (hE : Env w) :
   Calls Tryz.prog 87 #[.string s] w (RetF s w) := by
 have HEV : Hid (∀ W', Below w.heap.size w W' → Env W') := Lib.hid fun W' h => hE.ext h
 have hcs := cut_sz s
 have HC := Lib.hid (fun w h => impl_Cut s hs 43 w h)
 have HRN := Lib.hid (fun w h => impl_readNumbers (cutA s) (by omega) 120 3 (by omega) (by omega) w h)
 have HRD := Lib.hid (fun w h => impl_ReadDecimal (cutD s) (by omega) w h)
 have HNO : Hid (rdNs 120 (cutA s) 3 = false ∨ rdb (cutD s) = false → mRF s = none) := Lib.hid fun h => rf_prog_no s h
 have HYES := Lib.hid (fun h h2 => rf_prog s h h2)
 have HICF : Hid (∀ f, icF s = f → True) := Lib.hid fun _ _ => trivial
 unfold cutA at HRN
 unfold cutD at HRD
 have HJ : Hid ((icF s).j = rdv (cutD s) ∧ (icF s).l = gi ((spb 120 (cutA s)).map rdv) 0 ∧ (icF s).w = gi ((spb 120 (cutA s)).map rdv) 1 ∧ (icF s).h = gi ((spb 120 (cutA s)).map rdv) 2) := Lib.hid ⟨rfl, rfl, rfl, rfl⟩
 clear hE hcs
 go_enter Tryz.func87, Tryz.ntmps87
 go_wp2_with fail
 have HZ : Hid (Z4 w (w.alloc (.cells #[.int .i64 0, .int .i64 0, .int .i64 0, .int .i64 0] 33)) w.heap.size) := Lib.hid ⟨ext_alloc1 _ _, Nat.le_refl _, by simp, by simp [go_sem], by simp [go_sem], by simp [go_sem], by simp [go_sem], fun j => by simp [go_sem]⟩
 refine (show Calls _ _ _ _ _ from HC.out _ (HEV.out _ HZ.out.b)).mono ?_
 rintro e w1 ⟨rfl, hb⟩
 replace HZ := Lib.hid (HZ.out.ext hb)
 clear hb
 obtain ⟨ca, hca⟩ : ∃ x, bsq (Lib.cut s.data.toList [43]).1 = x := ⟨_, rfl⟩
 obtain ⟨cd, hcd⟩ : ∃ x, bsq (Lib.cut s.data.toList [43]).2.1 = x := ⟨_, rfl⟩
 obtain ⟨cb, hcb⟩ : ∃ x, (Lib.cut s.data.toList [43]).2.2 = x := ⟨_, rfl⟩
 have hca2 : cutA s = ca := hca
 have hcd2 : cutD s = cd := hcd
 rw [hca] at HRN
 rw [hcd] at HRD
 rw [hca, hcd, hcb]
 rw [hca2, hcd2] at HNO HYES HJ
 clear hca hcd hcb hca2 hcd2
 go_wp2_with fail
 refine (show Calls _ _ _ _ _ from HRN.out _ (HEV.out _ HZ.out.b)).mono ?_
 rintro e w2 ⟨v, rfl, hb, hv⟩
 have HOI : Hid (rdNs 120 ca 3 = true → ∃ A c, v = .slice A 3 c ∧ OI w2 w1.heap.size v ((spb 120 ca).map rdv) ∧ (spb 120 ca).length = 3) := Lib.hid fun h => by obtain ⟨h1, ⟨A, c, h2⟩, h3⟩ := hv h; exact ⟨A, c, h2, h3, h1⟩
 replace HZ := Lib.hid (HZ.out.ext hb)
 have HB2 := Lib.hid hb
 clear hb hv
 go_wp2_with fail
 refine (show Calls _ _ _ _ _ from HRD.out _ (HEV.out _ HZ.out.b)).mono ?_
 rintro e w3 ⟨rfl, hb⟩
 replace HZ := Lib.hid (HZ.out.ext hb)
 have HB3 := Lib.hid hb
 clear hb
 cases h1 : rdNs 120 ca 3 with
 | false =>
   replace HNO : Hid (mRF s = none) := Lib.hid (HNO.out (.inl h1))
   generalize rdv cd = y at *
   generalize rdb cd = y2 at *
   clear h1
   have HZF := Lib.hid HZ.out
   obtain ⟨zb, zge, zlt, c0, c1, c2, c3, fz⟩ := HZ.out
   go_wp2_with fail
   refine bodyPost_ret (v := .tuple #[.agg #[.int .i64 0, .int .i64 0, .int .i64 0, .int .i64 0], .bool false]) (by simp [results, Tryz.results87, go_sem, c0, c1, c2, c3]) rfl (RetF.no HNO.out ?_)
   repeat (first | exact zb | refine ext_set ?_ (by simp; try omega) _)
 | true =>
 obtain ⟨A, c, rfl, hO, hl3⟩ := HOI.out h1
 cases h2 : rdb cd with
 | false =>
   replace HNO : Hid (mRF s = none) := Lib.hid (HNO.out (.inr h2))
   generalize rdv cd = y at *
   clear h1 h2 hO hl3
   have HZF := Lib.hid HZ.out
   obtain ⟨zb, zge, zlt, c0, c1, c2, c3, fz⟩ := HZ.out
   go_wp2_with fail
   refine bodyPost_ret (v := .tuple #[.agg #[.int .i64 0, .int .i64 0, .int .i64 0, .int .i64 0], .bool false]) (by simp [results, Tryz.results87, go_sem, c0, c1, c2, c3]) rfl (RetF.no HNO.out ?_)
   repeat (first | exact zb | refine ext_set ?_ (by simp; try omega) _)
 | true =>
   have HY := Lib.hid (HYES.out h1 h2)
   clear h1 h2
   have hml : ((spb 120 ca).map rdv).length = 3 := by rw [List.length_map]; exact hl3
   obtain ⟨ad, rfl, q0⟩ : ∃ ad, A = some ad ∧ ∀ j, j < 3 → w3.cell? (ad.add j) = some (.int .i64 (gi ((spb 120 ca).map rdv) j)) := by
     obtain ⟨ad, hA, _, hc⟩ := (hO.ext HB3.out).rd.at2 (k := 0) (by omega)
     exact ⟨ad, hA, fun j hj => hc j (by omega)⟩
   obtain ⟨e0, e1, e2, e3⟩ := HJ.out
   have HFT := Lib.hid (fun w h => impl_FormatText (icF s) w h)
   obtain ⟨F, hF⟩ : ∃ F, icF s = F := ⟨_, rfl⟩
   rw [hF] at e0 e1 e2 e3 HY HFT
   rw [← e0]
   have r0 := q0 0 (by omega)
   have r1 := q0 1 (by omega)
   have r2 := q0 2 (by omega)
   rw [← e1, Addr.add_zero'] at r0
   rw [← e2, addr_succ] at r1
   rw [← e3, addr_succ] at r2
   clear q0 e0 e1 e2 e3 hO hl3 hml hF HJ HICF HYES HNO HOI HRN HRD HC
   obtain ⟨a1, a2, a3, a4⟩ := F
   dsimp only at r0 r1 r2
   dsimp only
   have x0 := fun o => cell_keep r0 (ext_alloc1 w3 o)
   have x1 := fun o => cell_keep r1 (ext_alloc1 w3 o)
   have x2 := fun o => cell_keep r2 (ext_alloc1 w3 o)
   go_wp2_with fail
   go_region
   all_goals
     clear x0 x1 x2 r0 r1 r2
     have HZ5 := Lib.hid (HZ.out.ext (ext_drew (ext_alloc1 w3 (.cells #[.int .i64 a1, .int .i64 a2, .int .i64 a3, .int .i64 a4] 33))))
     go_wp2_with fail
     refine (show Calls _ _ _ _ _ from HFT.out _ (HEV.out _ HZ5.out.b).lay).mono ?_
     rintro e w6 ⟨rfl, hb⟩
     have y0 := cell_keep (p := ⟨w3.heap.size, 0, none⟩) (v := .int .i64 a1) (by simp [go_sem]) hb
     have y1 := cell_keep (p := ⟨w3.heap.size, 1, none⟩) (v := .int .i64 a2) (by simp [go_sem]) hb
     have y2 := cell_keep (p := ⟨w3.heap.size, 2, none⟩) (v := .int .i64 a3) (by simp [go_sem]) hb
     have y3 := cell_keep (p := ⟨w3.heap.size, 3, none⟩) (v := .int .i64 a4) (by simp [go_sem]) hb
     have HZ6 := Lib.hid (HZ5.out.ext hb)
     have HN3 : Hid (w.heap.size ≠ w3.heap.size) := Lib.hid (by have := HZ.out.lt; omega)
     clear hb
     obtain ⟨t, ht⟩ : ∃ t, mFT ⟨a1, a2, a3, a4⟩ = t := ⟨_, rfl⟩
     rw [ht] at HY
     rw [ht]
     clear ht
     by_cases hq : t = s
     · have HYF : Hid (mRF s = some ⟨a1, a2, a3, a4⟩) := Lib.hid (by rw [HY.out, if_pos hq])
       subst hq
       obtain ⟨zb, zge, zlt, c0, c1, c2, c3, fz⟩ := HZ6.out
       have n3 := HN3.out
       go_wp2_with fail
       refine bodyPost_ret (v := .tuple #[.agg #[.int .i64 a1, .int .i64 a2, .int .i64 a3, .int .i64 a4], .bool true]) (by simp [results, Tryz.results87, go_sem, c0, c1, c2, c3]) rfl (RetF.yes HYF.out ?_)
       repeat (first | exact zb | refine ext_set ?_ (by simp; try omega) _)
     · have HNOF : Hid (mRF s = none) := Lib.hid (by rw [HY.out, if_neg hq])
       have hst := str_ne hq
       obtain ⟨zb, zge, zlt, c0, c1, c2, c3, fz⟩ := HZ6.out
       go_wp2_with fail
       refine bodyPost_ret (v := .tuple #[.agg #[.int .i64 0, .int .i64 0, .int .i64 0, .int .i64 0], .bool false]) (by simp [results, Tryz.results87, go_sem, c0, c1, c2, c3]) rfl (RetF.no HNOF.out ?_)
       repeat (first | exact zb | refine ext_set ?_ (by simp; try omega) _)
theorem mRF_1 {s : ByteArray} (h : (spb 43 s).length ≠ 2) : mRF s = none := by unfold mRF; rw [if_neg h]
theorem mRF_2 {s : ByteArray} (h : (spb 43 s).length = 2) (h2 : (spb 120 (gd (spb 43 s) 0)).length ≠ 3) : mRF s = none := by unfold mRF; rw [if_pos h, if_neg h2]
theorem mRF_3 {s : ByteArray} (h : (spb 43 s).length = 2) (h2 : (spb 120 (gd (spb 43 s) 0)).length = 3) : mRF s = if rfOk (spb 43 s) (spb 120 (gd (spb 43 s) 0)) = true then some (rfF (spb 43 s) (spb 120 (gd (spb 43 s) 0))) else none := by unfold mRF; rw [if_pos h, if_pos h2]
theorem spb_sz {b : UInt8} {s : ByteArray} {k : Nat} (hk : k < (spb b s).length) : (gd (spb b s) k).size ≤ s.size := by
 have hm := gd_mem hk
 unfold spb at hm ⊢
 obtain ⟨u, hu, he⟩ := List.mem_map.1 hm
 rw [← he, bsq_size, ← size_toList s]
 exact splL_part hu
set_option maxHeartbeats 6400000 in
theorem spec_ReadFormat (s : ByteArray) (hs : s.size ≤ 1048576) (w : World) :
   Calls Tryz.prog 122 #[.string s] w (RetF s w) := by
 have HC := Lib.hid (fun w => spec_Split s hs 43 43 rfl w)
 have HSZ := Lib.hid (fun (k : Nat) (hk : k < (spb 43 s).length) => spb_sz hk)
 have H1 := Lib.hid (fun h => mRF_1 (s := s) h)
 have H2 := Lib.hid (fun h h2 => mRF_2 (s := s) h h2)
 have H3 := Lib.hid (fun h h2 => mRF_3 (s := s) h h2)
 have hpl := spb_len 43 s
 go_enter Tryz.func122, Tryz.ntmps122
 go_wp2_with fail
 have HZ : Hid (Z4 w (w.alloc (.cells #[.int .i64 0, .int .i64 0, .int .i64 0, .int .i64 0] 33)) w.heap.size) := Lib.hid ⟨ext_alloc1 _ _, Nat.le_refl _, by simp, by simp [go_sem], by simp [go_sem], by simp [go_sem], by simp [go_sem], fun j => by simp [go_sem]⟩
 refine (show Calls _ _ _ _ _ from HC.out _).mono ?_
 rintro e w1 ⟨A, cp, rfl, hO, hb⟩
 have HP := Lib.hid hO.rd
 replace HZ := Lib.hid (HZ.out.ext hb)
 clear hb HC hO
 obtain ⟨p, hp⟩ : ∃ p, spb 43 s = p := ⟨_, rfl⟩
 rw [hp] at HSZ H1 H2 H3 HP hpl
 rw [hp]
 clear hp
 by_cases hl2 : p.length = 2
 · have e2 : (p.length : Int) = 2 := by omega
   have HL2 := Lib.hid hl2
   obtain ⟨ad, rfl, _, hc⟩ := HP.out.at (k := 0) (by omega)
   have p0 := hc 0 (by omega)
   rw [Addr.add_zero'] at p0
   have hq0 := HSZ.out 0 (by omega)
   have hq1 := HSZ.out 1 (by omega)
   clear hc
   have HQC := Lib.hid (fun w => spec_Split (gd p 0) (by omega) 120 120 rfl w)
   have hql := spb_len 120 (gd p 0)
   have HS2 := Lib.hid (fun (k : Nat) (hk : k < (spb 120 (gd p 0)).length) => spb_sz hk)
   obtain ⟨q, hq⟩ : ∃ q, spb 120 (gd p 0) = q := ⟨_, rfl⟩
   rw [hq] at H2 H3 HQC hql HS2
   clear hq
   go_wp2_with fail
   refine (show Calls _ _ _ _ _ from HQC.out _).mono ?_
   rintro e w2 ⟨B, cq, rfl, hO, hb⟩
   have HQ := Lib.hid hO.rd
   replace HZ := Lib.hid (HZ.out.ext hb)
   replace HP := Lib.hid (HP.out.ext hb)
   clear hb HQC hO p0
   by_cases hl3 : q.length = 3
   · have HM := Lib.hid (H3.out HL2.out hl3)
     have e3 : (q.length : Int) = 3 := by omega
     have hqs : ∀ x, (x = gd q 0 ∨ x = gd q 1 ∨ x = gd q 2 ∨ x = gd p 1) → x.size ≤ maxLen := fun x hx => by
       have h0 := HS2.out 0 (by omega)
       have h1 := HS2.out 1 (by omega)
       have h2 := HS2.out 2 (by omega)
       unfold maxLen
       rcases hx with rfl | rfl | rfl | rfl <;> omega
     have HNUM : Hid (∀ x, (x = gd q 0 ∨ x = gd q 1 ∨ x = gd q 2 ∨ x = gd p 1) → ∀ w, Calls Tryz.prog 58 #[.string x] w (Ret (.tuple #[.int .i64 (rdv x), .bool (rdb x)]) w)) := Lib.hid fun x hx w => spec_Number x (hqs x hx) w
     obtain ⟨bd, rfl, _, hc⟩ := HQ.out.at (k := 0) (by omega)
     have q0 := hc 0 (by omega)
     rw [Addr.add_zero'] at q0
     clear hc hqs hql hpl hq0 hq1
     go_wp2_with fail
     refine (show Calls _ _ _ _ _ from (HNUM.out (gd q 0) (by simp) _)).mono ?_
     rintro e w3 ⟨rfl, hb⟩
     replace HZ := Lib.hid (HZ.out.ext hb)
     replace HP := Lib.hid (HP.out.ext hb)
     replace HQ := Lib.hid (HQ.out.ext hb)
     clear hb
     clear q0
     obtain ⟨bd', hbd, _, hc⟩ := HQ.out.at (k := 1) (by omega)
     obtain rfl := Option.some.inj hbd
     have q0 := hc 1 (by omega)
     rw [addr_succ] at q0
     clear hc hbd
     go_wp2_with fail
     refine (show Calls _ _ _ _ _ from (HNUM.out (gd q 1) (by simp) _)).mono ?_
     rintro e w4 ⟨rfl, hb⟩
     replace HZ := Lib.hid (HZ.out.ext hb)
     replace HP := Lib.hid (HP.out.ext hb)
     replace HQ := Lib.hid (HQ.out.ext hb)
     clear hb
     clear q0
     obtain ⟨bd', hbd, _, hc⟩ := HQ.out.at (k := 2) (by omega)
     obtain rfl := Option.some.inj hbd
     have q0 := hc 2 (by omega)
     rw [addr_succ] at q0
     clear hc hbd
     go_wp2_with fail
     refine (show Calls _ _ _ _ _ from (HNUM.out (gd q 2) (by simp) _)).mono ?_
     rintro e w5 ⟨rfl, hb⟩
     replace HZ := Lib.hid (HZ.out.ext hb)
     replace HP := Lib.hid (HP.out.ext hb)
     replace HQ := Lib.hid (HQ.out.ext hb)
     clear hb
     clear q0
     obtain ⟨bd', hbd, _, hc⟩ := HP.out.at (k := 1) (by omega)
     obtain rfl := Option.some.inj hbd
     have q0 := hc 1 (by omega)
     rw [addr_succ] at q0
     clear hc hbd
     go_wp2_with fail
     refine (show Calls _ _ _ _ _ from (HNUM.out (gd p 1) (by simp) _)).mono ?_
     rintro e w6 ⟨rfl, hb⟩
     replace HZ := Lib.hid (HZ.out.ext hb)
     replace HP := Lib.hid (HP.out.ext hb)
     replace HQ := Lib.hid (HQ.out.ext hb)
     clear hb
     clear q0 HNUM HQ HP HS2
     have HOKF := Lib.hid (fun w => spec_okF (rfF p q) w)
     unfold rfOk at HM
     unfold rfF at HM HOKF
     obtain ⟨v0, h⟩ : ∃ v, rdv (gd q 0) = v := ⟨_, rfl⟩
     rw [h] at HM HOKF ⊢
     clear h
     obtain ⟨v1, h⟩ : ∃ v, rdv (gd q 1) = v := ⟨_, rfl⟩
     rw [h] at HM HOKF ⊢
     clear h
     obtain ⟨v2, h⟩ : ∃ v, rdv (gd q 2) = v := ⟨_, rfl⟩
     rw [h] at HM HOKF ⊢
     clear h
     obtain ⟨v3, h⟩ : ∃ v, rdv (gd p 1) = v := ⟨_, rfl⟩
     rw [h] at HM HOKF ⊢
     clear h
     obtain ⟨b0, h⟩ : ∃ v, rdb (gd q 0) = v := ⟨_, rfl⟩
     rw [h] at HM ⊢
     clear h
     obtain ⟨b1, h⟩ : ∃ v, rdb (gd q 1) = v := ⟨_, rfl⟩
     rw [h] at HM ⊢
     clear h
     obtain ⟨b2, h⟩ : ∃ v, rdb (gd q 2) = v := ⟨_, rfl⟩
     rw [h] at HM ⊢
     clear h
     obtain ⟨b3, h⟩ : ∃ v, rdb (gd p 1) = v := ⟨_, rfl⟩
     rw [h] at HM ⊢
     clear h
     obtain ⟨b4, h⟩ : ∃ v, vF ⟨v0, v1, v2, v3⟩ = v := ⟨_, rfl⟩
     rw [h] at HM HOKF
     clear h H1 H2 H3 HSZ
     have hzl := HZ.out.lt
     cases b0 with
     | false =>
       have HNO : Hid (mRF s = none) := Lib.hid HM.out
       obtain ⟨zb, zge, zlt, c0, c1, c2, c3, fz⟩ := HZ.out
       go_wp2_with fail
       refine bodyPost_ret (v := .tuple #[.agg #[.int .i64 0, .int .i64 0, .int .i64 0, .int .i64 0], .bool false]) (by simp [results, Tryz.results122, go_sem, c0, c1, c2, c3, zlt]) rfl (RetF.no HNO.out ?_)
       repeat (first | exact zb | refine ext_alloc ?_ _ | refine ext_set ?_ (by simp; try omega) _)
     | true =>
     cases b1 with
     | false =>
       have HNO : Hid (mRF s = none) := Lib.hid HM.out
       obtain ⟨zb, zge, zlt, c0, c1, c2, c3, fz⟩ := HZ.out
       go_wp2_with fail
       refine bodyPost_ret (v := .tuple #[.agg #[.int .i64 0, .int .i64 0, .int .i64 0, .int .i64 0], .bool false]) (by simp [results, Tryz.results122, go_sem, c0, c1, c2, c3, zlt]) rfl (RetF.no HNO.out ?_)
       repeat (first | exact zb | refine ext_alloc ?_ _ | refine ext_set ?_ (by simp; try omega) _)
     | true =>
     cases b2 with
     | false =>
       have HNO : Hid (mRF s = none) := Lib.hid HM.out
       obtain ⟨zb, zge, zlt, c0, c1, c2, c3, fz⟩ := HZ.out
       go_wp2_with fail
       refine bodyPost_ret (v := .tuple #[.agg #[.int .i64 0, .int .i64 0, .int .i64 0, .int .i64 0], .bool false]) (by simp [results, Tryz.results122, go_sem, c0, c1, c2, c3, zlt]) rfl (RetF.no HNO.out ?_)
       repeat (first | exact zb | refine ext_alloc ?_ _ | refine ext_set ?_ (by simp; try omega) _)
     | true =>
     cases b3 with
     | false =>
       have HNO : Hid (mRF s = none) := Lib.hid HM.out
       obtain ⟨zb, zge, zlt, c0, c1, c2, c3, fz⟩ := HZ.out
       go_wp2_with fail
       refine bodyPost_ret (v := .tuple #[.agg #[.int .i64 0, .int .i64 0, .int .i64 0, .int .i64 0], .bool false]) (by simp [results, Tryz.results122, go_sem, c0, c1, c2, c3, zlt]) rfl (RetF.no HNO.out ?_)
       repeat (first | exact zb | refine ext_alloc ?_ _ | refine ext_set ?_ (by simp; try omega) _)
     | true =>
     have HZ6 := Lib.hid (HZ.out.ext (ext_alloc1 w6 (.cells #[.int .i64 v0, .int .i64 v1, .int .i64 v2, .int .i64 v3] 33)))
     go_wp2_with fail
     refine (show Calls _ _ _ _ _ from HOKF.out _).mono ?_
     rintro e w7 ⟨rfl, hb⟩
     have y0 := cell_keep (p := ⟨w6.heap.size, 0, none⟩) (v := .int .i64 v0) (by simp [go_sem]) hb
     have y1 := cell_keep (p := ⟨w6.heap.size, 1, none⟩) (v := .int .i64 v1) (by simp [go_sem]) hb
     have y2 := cell_keep (p := ⟨w6.heap.size, 2, none⟩) (v := .int .i64 v2) (by simp [go_sem]) hb
     have y3 := cell_keep (p := ⟨w6.heap.size, 3, none⟩) (v := .int .i64 v3) (by simp [go_sem]) hb
     replace HZ6 := Lib.hid (HZ6.out.ext hb)
     have HN3 : Hid (w.heap.size ≠ w6.heap.size) := Lib.hid (by have := HZ.out.lt; omega)
     clear hb
     obtain ⟨zb, zge, zlt, c0, c1, c2, c3, fz⟩ := HZ6.out
     cases b4 with
     | false =>
       have HNO : Hid (mRF s = none) := Lib.hid HM.out
       go_wp2_with fail
       refine bodyPost_ret (v := .tuple #[.agg #[.int .i64 0, .int .i64 0, .int .i64 0, .int .i64 0], .bool false]) (by simp [results, Tryz.results122, go_sem, c0, c1, c2, c3]) rfl (RetF.no HNO.out ?_)
       repeat (first | exact zb | refine ext_set ?_ (by simp; try omega) _)
     | true =>
       have HYF : Hid (mRF s = some ⟨v0, v1, v2, v3⟩) := Lib.hid HM.out
       have n3 := HN3.out
       go_wp2_with fail
       refine bodyPost_ret (v := .tuple #[.agg #[.int .i64 v0, .int .i64 v1, .int .i64 v2, .int .i64 v3], .bool true]) (by simp [results, Tryz.results122, go_sem, c0, c1, c2, c3]) rfl (RetF.yes HYF.out ?_)
       repeat (first | exact zb | refine ext_set ?_ (by simp; try omega) _)
   · have HNO := Lib.hid (H2.out HL2.out hl3)
     have e3 : ((q.length : Int) == 3) = false := beq_eq_false_iff_ne.2 (by omega)
     have e4 : ((q.length : Int) != 3) = true := bne_iff_ne.2 (by omega)
     clear hl3
     have HZF := Lib.hid HZ.out
     obtain ⟨zb, zge, zlt, c0, c1, c2, c3, fz⟩ := HZ.out
     go_wp2_with fail
     refine bodyPost_ret (v := .tuple #[.agg #[.int .i64 0, .int .i64 0, .int .i64 0, .int .i64 0], .bool false]) (by simp [results, Tryz.results122, go_sem, c0, c1, c2, c3]) rfl (RetF.no HNO.out ?_)
     repeat (first | exact zb | refine ext_set ?_ (by simp; try omega) _)
 · have HNO := Lib.hid (H1.out hl2)
   have e3 : ((p.length : Int) == 2) = false := beq_eq_false_iff_ne.2 (by omega)
   have e4 : ((p.length : Int) != 2) = true := bne_iff_ne.2 (by omega)
   clear hl2
   have HZF := Lib.hid HZ.out
   obtain ⟨zb, zge, zlt, c0, c1, c2, c3, fz⟩ := HZ.out
   go_wp2_with fail
   refine bodyPost_ret (v := .tuple #[.agg #[.int .i64 0, .int .i64 0, .int .i64 0, .int .i64 0], .bool false]) (by simp [results, Tryz.results122, go_sem, c0, c1, c2, c3]) rfl (RetF.no HNO.out ?_)
   repeat (first | exact zb | refine ext_set ?_ (by simp; try omega) _)
set_option maxHeartbeats 3200000 in
theorem spec_lay6 (b : Nat) (A0 : Option Addr) (c0 : Nat) (nm : ByteArray) (cs : List CO) (k0 : Nat) (L : Int) (hk0 : k0 ≤ 1000) (hL0 : 1 ≤ L) (hL : L ≤ 200) (hv : vB nm cs = true) (w : World) (ha : RCOS w (.slice A0 cs.length c0) cs) (hb1 : w.cell? ⟨b, 1, none⟩ = some (.slice A0 cs.length c0)) :
   Calls Tryz.prog 188 #[.pointer (some ⟨b, 0, none⟩), .int .i64 k0, .int .i64 L] w
     (Ret (.string (layT (gd cs (k0 % cs.length)) L)) w) := by
 have hvv : 1 ≤ cs.length ∧ cs.length ≤ 8 ∧ ∀ k, k < cs.length → vC (gd cs k) = true := by
   unfold vB at hv
   simp only [Bool.and_eq_true] at hv
   have h2 := inB_iff.1 hv.1.2
   exact ⟨by omega, by omega, fun k hk => List.all_eq_true.1 hv.2 _ (gd_mem hk)⟩
 have HC := Lib.hid (fun w h => spec_course4 b 0 A0 c0 cs k0 hk0 hvv.1 hvv.2.1 w h)
 have HA := Lib.hid ha
 have hvc := hvv.2.2 (k0 % cs.length) (Nat.mod_lt _ (by omega))
 obtain ⟨co, hco⟩ : ∃ co, gd cs (k0 % cs.length) = co := ⟨_, rfl⟩
 rw [hco] at HC hvc
 rw [hco]
 have HV := Lib.hid hvc
 clear hco ha hvv hv hvc
 have HH := Lib.hid hb1
 clear hb1
 go_enter Tryz.func188, Tryz.ntmps188
 go_wp2_with fail
 refine (show Calls _ _ _ _ _ from HC.out _ HA.out HH.out).mono ?_
 rintro e w1 ⟨rfl, hb⟩
 have HB := Lib.hid hb
 clear hb
 go_wp2_with fail
 have HS : Hid (LST w ((w1.alloc (.cells #[.string co.lead, .string co.cyc] 102)).alloc (.cells #[] 5)) w1.heap.size co (some ⟨w1.heap.size + 1, 0, none⟩) 0 []) := Lib.hid (by
   have ho := ob_lit (w1.alloc (.cells #[.string co.lead, .string co.cyc] 102)) w.heap.size (by have := HB.out.size; simp; omega)
   rw [show (w1.alloc (.cells #[.string co.lead, .string co.cyc] 102)).heap.size = w1.heap.size + 1 by simp] at ho
   refine ⟨ext_alloc (ext_alloc HB.out _) _, by simp; omega, by simp [go_sem], by simp [go_sem], ho, fun k hk => ?_⟩
   obtain rfl : w1.heap.size + 1 = k := Option.some.inj hk
   omega)
 generalize (w1.alloc (.cells #[.string co.lead, .string co.cyc] 102)).alloc (.cells #[] 5) = wb at *
 generalize w1.heap.size + 1 = g0 at *
 generalize w1.heap.size = q at *
 have HAT := Lib.hid (LayAt.zero (c := co) (L := L) (by omega))
 go_loopw [8, 9, 10] (fun u a i wr => ∃ (k : Nat) (A : Option Addr) (cp : Nat), k ≤ 200 ∧ u = .slice A k cp ∧ a = .int .i64 (atK co k) ∧ i = .int .i64 k ∧ Hid (LayAt co L k) ∧ Hid (LST w wr q co A cp (layL co k))) (fun u _ _ _ => 201 - (match u with | .slice _ n _ => n | _ => 0))
 case atStart => exact ⟨0, some ⟨g0, 0, none⟩, 0, by omega, rfl, rfl, rfl, HAT, HS⟩
 case round =>
   obtain ⟨k, A, cp, hk, rfl, rfl, rfl, HT, HR⟩ := hrel
   have p0 := HR.out.c0
   have p1 := HR.out.c1
   have HP := Lib.hid (fun w => spec_letter4 co k HV.out (by omega) w)
   have hbd := ltr_bd co k
   have hq := ltr_q HV.out k
   have hab := atK_bd HV.out k
   have HQ := Lib.hid (fun w => spec_quarters (ltr co k) hbd.1 hbd.2 w)
   have HK : Hid (atK co (k + 1) = atK co k + qC (ltr co k)) := Lib.hid rfl
   have HB8 := Lib.hid (ltr_u8 co k)
   have HLS := Lib.hid (layL_succ co k)
   obtain ⟨y, hy⟩ : ∃ y, ltr co k = y := ⟨_, rfl⟩
   obtain ⟨z, hz⟩ : ∃ z, qC (ltr co k) = z := ⟨_, rfl⟩
   obtain ⟨t, ht⟩ : ∃ t, atK co k = t := ⟨_, rfl⟩
   rw [hz] at hq HK HQ
   rw [hy] at HP HQ HB8 HLS
   rw [ht] at hab HK
   rw [ht]
   have htt := Lib.hid ht
   clear hy hz ht hbd
   go_wp2_with fail
   refine (show Calls _ _ _ _ _ from HP.out _).mono ?_
   rintro e w3 ⟨rfl, hb⟩
   replace HR := Lib.hid (HR.out.ext hb)
   clear hb p0 p1
   have p0 := HR.out.c0
   have p1 := HR.out.c1
   by_cases hgo : L < t + z
   · have HN : Hid (lenN co L = k) := Lib.hid (HT.out.stop (by rw [HK.out]; exact hgo))
     have HLT0 : layT co L = ⟨(layL co k ++ lastC (L - atK co k)).toArray⟩ := by unfold layT; rw [HN.out]
     have hll := layL_len co k
     rw [htt.out] at HLT0
     obtain ⟨bs, hbs⟩ : ∃ bs, layL co k = bs := ⟨_, rfl⟩
     rw [hbs] at HR HLT0 hll
     have HLL := Lib.hid hll
     have HLT := Lib.hid HLT0
     have hbl : bs.length ≤ 200 := by omega
     have HO := Lib.hid (show OB w3 w.heap.size (.slice A k cp) bs from by have := HR.out.own; rwa [HLL.out] at this)
     have HSZ := Lib.hid HR.out.b.size
     clear hbs hll HLT0
     go_wp2_with fail
     refine (show Calls _ _ _ _ _ from HQ.out _).mono ?_
     rintro e w4 ⟨rfl, rfl⟩
     by_cases h1 : L - t = 1
     · have e1 : (L - t == 1) = true := by simpa using h1
       replace HLT : Hid (layT co L = ⟨(bs ++ [67]).toArray⟩) := Lib.hid (by rw [HLT.out]; unfold lastC; rw [if_pos h1])
       go_wp2_with (at_builtin; refine wpList_append_byL rfl _ _ rfl w3.heap.size rfl w.heap.size (.slice A k cp) bs 67 67 rfl rfl rfl HO.out (by omega) HSZ.out ?_; intro g cp2 w5 hO5 hC5 hat5; have HB5 := Lib.hid (Chg.ext HR.out.b hC5 (fun j hj => (HO.out.ge j hj).1)); have hcv := conv_rb hO5.rd)
       all_goals (go_ret; rw [HLT.out]; exact ⟨rfl, HB5.out⟩)
     · have e1 : (L - t == 1) = false := by simpa using h1
       by_cases h2 : L - t = 2
       · have e2 : (L - t == 2) = true := by simpa using h2
         replace HLT : Hid (layT co L = ⟨(bs ++ [66]).toArray⟩) := Lib.hid (by rw [HLT.out]; unfold lastC; rw [if_neg h1, if_pos h2])
         go_wp2_with (at_builtin; refine wpList_append_byL rfl _ _ rfl w3.heap.size rfl w.heap.size (.slice A k cp) bs 66 66 rfl rfl rfl HO.out (by omega) HSZ.out ?_; intro g cp2 w5 hO5 hC5 hat5; have HB5 := Lib.hid (Chg.ext HR.out.b hC5 (fun j hj => (HO.out.ge j hj).1)); have hcv := conv_rb hO5.rd)
         all_goals (go_ret; rw [HLT.out]; exact ⟨rfl, HB5.out⟩)
       · have e2 : (L - t == 2) = false := by simpa using h2
         by_cases h3 : L - t = 3
         · have e3 : (L - t == 3) = true := by simpa using h3
           replace HLT : Hid (layT co L = ⟨(bs ++ [84]).toArray⟩) := Lib.hid (by rw [HLT.out]; unfold lastC; rw [if_neg h1, if_neg h2, if_pos h3])
           go_wp2_with (at_builtin; refine wpList_append_byL rfl _ _ rfl w3.heap.size rfl w.heap.size (.slice A k cp) bs 84 84 rfl rfl rfl HO.out (by omega) HSZ.out ?_; intro g cp2 w5 hO5 hC5 hat5; have HB5 := Lib.hid (Chg.ext HR.out.b hC5 (fun j hj => (HO.out.ge j hj).1)); have hcv := conv_rb hO5.rd)
           all_goals (go_ret; rw [HLT.out]; exact ⟨rfl, HB5.out⟩)
         · have e3 : (L - t == 3) = false := by simpa using h3
           replace HLT : Hid (layT co L = ⟨bs.toArray⟩) := Lib.hid (by rw [HLT.out]; unfold lastC; rw [if_neg h1, if_neg h2, if_neg h3]; simp)
           have HB5 := Lib.hid HR.out.b
           have hcv := conv_rb (show RB w3 (.slice A k cp) bs from by have := HO.out.rd; exact this)
           go_wp2_with fail
           all_goals (go_ret; rw [HLT.out]; exact ⟨rfl, HB5.out⟩)
   · have HT2 := Lib.hid (HT.out.next HV.out hL (by rw [HK.out]; exact hgo))
     go_wp2_with fail
     refine (show Calls _ _ _ _ _ from HQ.out _).mono ?_
     rintro e w4 ⟨rfl, rfl⟩
     have hll := layL_len co k
     obtain ⟨bs, hbs⟩ : ∃ bs, layL co k = bs := ⟨_, rfl⟩
     rw [hbs] at HR HLS hll
     have HLL := Lib.hid hll
     have hbl : bs.length ≤ 200 := by omega
     have HO := Lib.hid (show OB w3 w.heap.size (.slice A k cp) bs from by have := HR.out.own; rwa [HLL.out] at this)
     have HSZ := Lib.hid HR.out.b.size
     clear hbs hll
     go_wp2_with (at_builtin; refine wpList_append_byL rfl _ _ rfl w3.heap.size rfl w.heap.size (.slice A k cp) bs y y.toNat.toUInt8 HB8.out rfl rfl HO.out (by omega) HSZ.out ?_; intro g cp2 w5 hO5 hC5 hat5)
     go_wp2_with fail
     refine (show Calls _ _ _ _ _ from HQ.out _).mono ?_
     rintro e w6 ⟨rfl, rfl⟩
     have HR2 := Lib.hid (HR.out.app hO5 (by rw [HLL.out]; exact hC5) (by rw [HLL.out]; exact hat5))
     rw [← HLS.out] at HR2
     have hrr : Hid (bs.length + 1 = k + 1) := Lib.hid (by rw [HLL.out])
     go_wp2_with fail
     go_roundw
     case rel => exact ⟨k + 1, some ⟨g, 0, none⟩, cp2, by have := HT2.out.1; omega, by rw [hrr.out], by rw [HK.out], by go_num, HT2, HR2⟩
     case measure => have := HLL.out; simp; omega
end Go.Proofs.YtfgopboddkhckaaGreatDoor
