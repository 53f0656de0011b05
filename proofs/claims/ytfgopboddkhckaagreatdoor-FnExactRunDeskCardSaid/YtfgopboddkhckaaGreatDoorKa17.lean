/-
  Parts of the proof: RdF2, Lay4, Ex1, Ex13, DeskW, Dc0, RnP.
-/
import Derived.Test.YtfgopboddkhckaaGreatDoorKa1
import Derived.Test.YtfgopboddkhckaaGreatDoorKa3
import Derived.Test.YtfgopboddkhckaaGreatDoorKa8
import Derived.Test.YtfgopboddkhckaaGreatDoorKa14
import Derived.Test.YtfgopboddkhckaaGreatDoorKa15
import Derived.Test.YtfgopboddkhckaaGreatDoorKa16
namespace Go.Proofs.YtfgopboddkhckaaGreatDoor
open Go.ChangeShapes Go.WideShapes Go.ChangeAt Go.RowKit Go.Sort Go.Joins
set_option linter.unusedVariables false
set_option maxRecDepth 100000

theorem cut_sz (s : ByteArray) : (cutA s).size ≤ s.size ∧ (cutD s).size ≤ s.size := by
  unfold cutA cutD
  rw [bsq_size, bsq_size, ← size_toList]
  unfold Lib.cut
  split
  · exact ⟨by simp only [List.length_take]; omega, by simp only [List.length_drop]; omega⟩
  · exact ⟨Nat.le_refl _, Nat.zero_le _⟩
/-- A result of four numbers, still zero, at block p. -/
structure Z4 (w W : World) (p : Nat) : Prop where
  b : Below w.heap.size w W
  ge : w.heap.size ≤ p
  lt : p < W.heap.size
  c0 : W.cell? ⟨p, 0, none⟩ = some (.int .i64 0)
  c1 : W.cell? ⟨p, 1, none⟩ = some (.int .i64 0)
  c2 : W.cell? ⟨p, 2, none⟩ = some (.int .i64 0)
  c3 : W.cell? ⟨p, 3, none⟩ = some (.int .i64 0)
  fz : ∀ j, W.frozen? ⟨p, j, none⟩ = false
theorem Z4.ext {w W W' : World} {p : Nat} (h : Z4 w W p) (hb : Below W.heap.size W W') : Z4 w W' p :=
  ⟨ext_trans h.b hb, h.ge, Nat.lt_of_lt_of_le h.lt hb.size, cell_keep h.c0 hb, cell_keep h.c1 hb, cell_keep h.c2 hb, cell_keep h.c3 hb, fun j => by rw [(bcell hb).2 p j h.lt]; exact h.fz j⟩
def RetF (s : ByteArray) (w : World) : Ending → World → Prop := Ret (.tuple #[.agg #[.int .i64 (rfV s).l, .int .i64 (rfV s).w, .int .i64 (rfV s).h, .int .i64 (rfV s).j], .bool (rfB s)]) w
theorem RetF.no {s : ByteArray} {w w' : World} (h : mRF s = none) (hb : Below w.heap.size w w') : RetF s w (.returned (.tuple #[.agg #[.int .i64 0, .int .i64 0, .int .i64 0, .int .i64 0], .bool false])) w' := by
  unfold RetF; rw [(rf_none h).1, (rf_none h).2]; exact ⟨rfl, hb⟩
theorem RetF.yes {s : ByteArray} {f : FM} {w w' : World} (h : mRF s = some f) (hb : Below w.heap.size w w') : RetF s w (.returned (.tuple #[.agg #[.int .i64 f.l, .int .i64 f.w, .int .i64 f.h, .int .i64 f.j], .bool true])) w' := by
  unfold RetF; rw [(rf_some h).1, (rf_some h).2]; exact ⟨rfl, hb⟩
set_option maxHeartbeats 6400000 in
theorem impl_ReadFormat (s : ByteArray) (hs : s.size ≤ 1048576) (w : World) (hE : Env w) :
    Calls Tryz.prog 87 #[.string s] w (RetF s w) := by
  have HEV : Hid (∀ W', Below w.heap.size w W' → Env W') := Lib.hid fun W' h => hE.ext h
  have hcs := cut_sz s
  have HC := Lib.hid (fun w h => impl_Cut s hs 43 w h)
  have HRN := Lib.hid (fun w h => impl_readNumbers (cutA s) (by omega) 120 3 (by omega) (by omega) w h)
  have HRD := Lib.hid (fun w h => impl_ReadDecimal (cutD s) (by omega) w h)
  have HNO : Hid (rdNs 120 (cutA s) 3 = false ∨ rdb (cutD s) = false → mRF s = none) := Lib.hid fun h => rf_prog_no s h
  have HYES := Lib.hid (fun h h2 => rf_prog s h h2)
  have HICF : Hid (∀ f, icF s = f → True) := Lib.hid fun _ _ => trivial
  unfold cutA at HRN
  unfold cutD at HRD
  have HJ : Hid ((icF s).j = rdv (cutD s) ∧ (icF s).l = gi ((spb 120 (cutA s)).map rdv) 0 ∧ (icF s).w = gi ((spb 120 (cutA s)).map rdv) 1 ∧ (icF s).h = gi ((spb 120 (cutA s)).map rdv) 2) := Lib.hid ⟨rfl, rfl, rfl, rfl⟩
  clear hE hcs
  go_enter Tryz.func87, Tryz.ntmps87
  go_wp2_with fail
  have HZ : Hid (Z4 w (w.alloc (.cells #[.int .i64 0, .int .i64 0, .int .i64 0, .int .i64 0] 33)) w.heap.size) := Lib.hid ⟨ext_alloc1 _ _, Nat.le_refl _, by simp, by simp [go_sem], by simp [go_sem], by simp [go_sem], by simp [go_sem], fun j => by simp [go_sem]⟩
  refine (show Calls _ _ _ _ _ from HC.out _ (HEV.out _ HZ.out.b)).mono ?_
  rintro e w1 ⟨rfl, hb⟩
  replace HZ := Lib.hid (HZ.out.ext hb)
  clear hb
  obtain ⟨ca, hca⟩ : ∃ x, bsq (Lib.cut s.data.toList [43]).1 = x := ⟨_, rfl⟩
  obtain ⟨cd, hcd⟩ : ∃ x, bsq (Lib.cut s.data.toList [43]).2.1 = x := ⟨_, rfl⟩
  obtain ⟨cb, hcb⟩ : ∃ x, (Lib.cut s.data.toList [43]).2.2 = x := ⟨_, rfl⟩
  have hca2 : cutA s = ca := hca
  have hcd2 : cutD s = cd := hcd
  rw [hca] at HRN
  rw [hcd] at HRD
  rw [hca, hcd, hcb]
  rw [hca2, hcd2] at HNO HYES HJ
  clear hca hcd hcb hca2 hcd2
  go_wp2_with fail
  refine (show Calls _ _ _ _ _ from HRN.out _ (HEV.out _ HZ.out.b)).mono ?_
  rintro e w2 ⟨v, rfl, hb, hv⟩
  have HOI : Hid (rdNs 120 ca 3 = true → ∃ A c, v = .slice A 3 c ∧ OI w2 w1.heap.size v ((spb 120 ca).map rdv) ∧ (spb 120 ca).length = 3) := Lib.hid fun h => by obtain ⟨h1, ⟨A, c, h2⟩, h3⟩ := hv h; exact ⟨A, c, h2, h3, h1⟩
  replace HZ := Lib.hid (HZ.out.ext hb)
  have HB2 := Lib.hid hb
  clear hb hv
  go_wp2_with fail
  refine (show Calls _ _ _ _ _ from HRD.out _ (HEV.out _ HZ.out.b)).mono ?_
  rintro e w3 ⟨rfl, hb⟩
  replace HZ := Lib.hid (HZ.out.ext hb)
  have HB3 := Lib.hid hb
  clear hb
  cases h1 : rdNs 120 ca 3 with
  | false =>
    replace HNO : Hid (mRF s = none) := Lib.hid (HNO.out (.inl h1))
    generalize rdv cd = y at *
    generalize rdb cd = y2 at *
    clear h1
    have HZF := Lib.hid HZ.out
    obtain ⟨zb, zge, zlt, c0, c1, c2, c3, fz⟩ := HZ.out
    go_wp2_with fail
    refine bodyPost_ret (v := .tuple #[.agg #[.int .i64 0, .int .i64 0, .int .i64 0, .int .i64 0], .bool false]) (by simp [results, Tryz.results87, go_sem, c0, c1, c2, c3]) rfl (RetF.no HNO.out ?_)
    repeat (first | exact zb | refine ext_set ?_ (by simp; try omega) _)
  | true =>
  obtain ⟨A, c, rfl, hO, hl3⟩ := HOI.out h1
  cases h2 : rdb cd with
  | false =>
    replace HNO : Hid (mRF s = none) := Lib.hid (HNO.out (.inr h2))
    generalize rdv cd = y at *
    clear h1 h2 hO hl3
    have HZF := Lib.hid HZ.out
    obtain ⟨zb, zge, zlt, c0, c1, c2, c3, fz⟩ := HZ.out
    go_wp2_with fail
    refine bodyPost_ret (v := .tuple #[.agg #[.int .i64 0, .int .i64 0, .int .i64 0, .int .i64 0], .bool false]) (by simp [results, Tryz.results87, go_sem, c0, c1, c2, c3]) rfl (RetF.no HNO.out ?_)
    repeat (first | exact zb | refine ext_set ?_ (by simp; try omega) _)
  | true =>
    have HY := Lib.hid (HYES.out h1 h2)
    clear h1 h2
    have hml : ((spb 120 ca).map rdv).length = 3 := by rw [List.length_map]; exact hl3
    obtain ⟨ad, rfl, q0⟩ : ∃ ad, A = some ad ∧ ∀ j, j < 3 → w3.cell? (ad.add j) = some (.int .i64 (gi ((spb 120 ca).map rdv) j)) := by
      obtain ⟨ad, hA, _, hc⟩ := (hO.ext HB3.out).rd.at2 (k := 0) (by omega)
      exact ⟨ad, hA, fun j hj => hc j (by omega)⟩
    obtain ⟨e0, e1, e2, e3⟩ := HJ.out
    have HFT := Lib.hid (fun w h => impl_FormatText (icF s) w h)
    obtain ⟨F, hF⟩ : ∃ F, icF s = F := ⟨_, rfl⟩
    rw [hF] at e0 e1 e2 e3 HY HFT
    rw [← e0]
    have r0 := q0 0 (by omega)
    have r1 := q0 1 (by omega)
    have r2 := q0 2 (by omega)
    rw [← e1, Addr.add_zero'] at r0
    rw [← e2, addr_succ] at r1
    rw [← e3, addr_succ] at r2
    clear q0 e0 e1 e2 e3 hO hl3 hml hF HJ HICF HYES HNO HOI HRN HRD HC
    obtain ⟨a1, a2, a3, a4⟩ := F
    dsimp only at r0 r1 r2
    dsimp only
    have x0 := fun o => cell_keep r0 (ext_alloc1 w3 o)
    have x1 := fun o => cell_keep r1 (ext_alloc1 w3 o)
    have x2 := fun o => cell_keep r2 (ext_alloc1 w3 o)
    go_wp2_with fail
    go_region
    all_goals
      clear x0 x1 x2 r0 r1 r2
      have HZ5 := Lib.hid (HZ.out.ext (ext_drew (ext_alloc1 w3 (.cells #[.int .i64 a1, .int .i64 a2, .int .i64 a3, .int .i64 a4] 33))))
      go_wp2_with fail
      refine (show Calls _ _ _ _ _ from HFT.out _ (HEV.out _ HZ5.out.b).lay).mono ?_
      rintro e w6 ⟨rfl, hb⟩
      have y0 := cell_keep (p := ⟨w3.heap.size, 0, none⟩) (v := .int .i64 a1) (by simp [go_sem]) hb
      have y1 := cell_keep (p := ⟨w3.heap.size, 1, none⟩) (v := .int .i64 a2) (by simp [go_sem]) hb
      have y2 := cell_keep (p := ⟨w3.heap.size, 2, none⟩) (v := .int .i64 a3) (by simp [go_sem]) hb
      have y3 := cell_keep (p := ⟨w3.heap.size, 3, none⟩) (v := .int .i64 a4) (by simp [go_sem]) hb
      have HZ6 := Lib.hid (HZ5.out.ext hb)
      have HN3 : Hid (w.heap.size ≠ w3.heap.size) := Lib.hid (by have := HZ.out.lt; omega)
      clear hb
      obtain ⟨t, ht⟩ : ∃ t, mFT ⟨a1, a2, a3, a4⟩ = t := ⟨_, rfl⟩
      rw [ht] at HY
      rw [ht]
      clear ht
      by_cases hq : t = s
      · have HYF : Hid (mRF s = some ⟨a1, a2, a3, a4⟩) := Lib.hid (by rw [HY.out, if_pos hq])
        subst hq
        obtain ⟨zb, zge, zlt, c0, c1, c2, c3, fz⟩ := HZ6.out
        have n3 := HN3.out
        go_wp2_with fail
        refine bodyPost_ret (v := .tuple #[.agg #[.int .i64 a1, .int .i64 a2, .int .i64 a3, .int .i64 a4], .bool true]) (by simp [results, Tryz.results87, go_sem, c0, c1, c2, c3]) rfl (RetF.yes HYF.out ?_)
        repeat (first | exact zb | refine ext_set ?_ (by simp; try omega) _)
      · have HNOF : Hid (mRF s = none) := Lib.hid (by rw [HY.out, if_neg hq])
        have hst := str_ne hq
        obtain ⟨zb, zge, zlt, c0, c1, c2, c3, fz⟩ := HZ6.out
        go_wp2_with fail
        refine bodyPost_ret (v := .tuple #[.agg #[.int .i64 0, .int .i64 0, .int .i64 0, .int .i64 0], .bool false]) (by simp [results, Tryz.results87, go_sem, c0, c1, c2, c3]) rfl (RetF.no HNOF.out ?_)
        repeat (first | exact zb | refine ext_set ?_ (by simp; try omega) _)
theorem spb_sz {b : UInt8} {s : ByteArray} {k : Nat} (hk : k < (spb b s).length) : (gd (spb b s) k).size ≤ s.size := by
  have hm := gd_mem hk
  unfold spb at hm ⊢
  obtain ⟨u, hu, he⟩ := List.mem_map.1 hm
  rw [← he, bsq_size, ← size_toList s]
  exact splL_part hu
end Go.Proofs.YtfgopboddkhckaaGreatDoor
namespace Go.Proofs.YtfgopboddkhckaaGreatDoor
open Go.ChangeShapes Go.WideShapes Go.ChangeAt Go.RowKit Go.Sort Go.Joins
set_option linter.unusedVariables false
set_option maxRecDepth 100000

/-- The result of a function that returns texts and a code. -/
def RetL (M : List ByteArray) (code : Int) (w : World) : Ending → World → Prop := fun e w' => ∃ A c, e = .returned (.tuple #[.slice A M.length c, .int .i64 code]) ∧ OStr w' w.heap.size (.slice A M.length c) M ∧ Below w.heap.size w w'
theorem RetL.no {w w' : World} {code : Int} (hb : Below w.heap.size w w') : RetL [] code w (.returned (.tuple #[.slice none 0 0, .int .i64 code])) w' := ⟨_, _, rfl, ostr_nil _ _, hb⟩
theorem vB_lens {nm : ByteArray} {cs : List CO} (h : vB nm cs = true) : 1 ≤ cs.length ∧ cs.length ≤ 8 := by
  unfold vB at h
  simp only [Bool.and_eq_true] at h
  have h2 := inB_iff.1 h.1.2
  omega
theorem layR_ok {t : ByteArray} (h : t.size ≤ 60) : layR t = (t, 0) := by unfold layR; exact if_neg (by omega)
theorem layR_no {t : ByteArray} (h : ¬ t.size ≤ 60) : layR t = (⟨#[]⟩, 5) := by unfold layR; exact if_pos (by omega)
theorem mLW_0 {nm : ByteArray} {cs : List CO} {L n : Int} (h : vB nm cs = false) : mLayWall nm cs L n = ([], 1) := by unfold mLayWall; rw [h]; rfl
theorem mLW_1 {nm : ByteArray} {cs : List CO} {L n : Int} (h : vB nm cs = true) (h2 : (inB L 1 200 && inB n 1 40) = false) : mLayWall nm cs L n = ([], 2) := by unfold mLayWall; rw [if_pos h, h2]; rfl
theorem mLW_2 {nm : ByteArray} {cs : List CO} {L n : Int} (h : vB nm cs = true) (h2 : (inB L 1 200 && inB n 1 40) = true) : mLayWall nm cs L n = if lwB cs L n.toNat = true then (lwL cs L n.toNat, 0) else ([], 5) := by unfold mLayWall; rw [if_pos h, if_pos h2]

set_option maxHeartbeats 3200000 in
theorem impl_LayWall (A0 : Option Addr) (c0 : Nat) (nm : ByteArray) (cs : List CO) (L n : Int) (w : World) (l1 : nm.size ≤ maxLen) (l2 : LenCOS cs) (ha : RCOS w (.slice A0 cs.length c0) cs) :
    Calls Tryz.prog 89 #[.agg #[.string nm, .slice A0 cs.length c0], .int .i64 L, .int .i64 n] w (RetL (mLayWall nm cs L n).1 (mLayWall nm cs L n).2 w) := by
  have HA := Lib.hid ha; clear ha
  have HVB := Lib.hid (fun w h => impl_ValidBond A0 c0 nm cs w l1 l2 h)
  clear l1 l2
  obtain ⟨v, hv⟩ : ∃ v, vB nm cs = v := ⟨_, rfl⟩
  rw [hv] at HVB
  go_enter Tryz.func89, Tryz.ntmps89
  go_wp2_with fail
  refine (show Calls _ _ _ _ _ from HVB.out _ (HA.out.alloc _)).mono ?_
  rintro e w1 ⟨rfl, hb⟩
  have HB := Lib.hid (ext_trans (ext_alloc1 _ _) hb)
  have HP0 : Hid (w1.cell? ⟨w.heap.size, 0, none⟩ = some (.string nm)) := Lib.hid (cell_keep (by simp [go_sem]) hb)
  have HP1 : Hid (w1.cell? ⟨w.heap.size, 1, none⟩ = some (.slice A0 cs.length c0)) := Lib.hid (cell_keep (by simp [go_sem]) hb)
  clear hb HVB
  cases v
  · have HM := Lib.hid (mLW_0 (L := L) (n := n) hv)
    clear hv
    go_wp2_with fail
    go_ret2
    rw [HM.out]
    exact RetL.no HB.out
  have HV := Lib.hid hv
  clear hv
  have HI := Lib.hid (fun w => impl_within L 1 200 w)
  have HJ := Lib.hid (fun w => impl_within n 1 40 w)
  obtain ⟨x, hx⟩ : ∃ x, inB L 1 200 = x := ⟨_, rfl⟩
  obtain ⟨y, hy⟩ : ∃ y, inB n 1 40 = y := ⟨_, rfl⟩
  have HX := Lib.hid hx
  have HY := Lib.hid hy
  rw [hx] at HI
  rw [hy] at HJ
  clear hx hy
  go_wp2_with fail
  refine (show Calls _ _ _ _ _ from HI.out _).mono ?_
  rintro e w2 ⟨rfl, rfl⟩
  cases x
  · have HM := Lib.hid (mLW_1 (n := n) HV.out (by rw [HX.out]; rfl))
    go_wp2_with fail
    go_ret2
    rw [HM.out]
    exact RetL.no HB.out
  go_wp2_with fail
  refine (show Calls _ _ _ _ _ from HJ.out _).mono ?_
  rintro e w2 ⟨rfl, rfl⟩
  cases y
  · have HM := Lib.hid (mLW_1 (L := L) HV.out (by rw [HY.out]; simp))
    go_wp2_with fail
    go_ret2
    rw [HM.out]
    exact RetL.no HB.out
  have HM := Lib.hid (mLW_2 HV.out (by rw [HX.out, HY.out]; rfl))
  have hL := inB_iff.1 HX.out
  have hn := inB_iff.1 HY.out
  have hcl := vB_lens HV.out
  clear HX HY HI HJ
  obtain ⟨m, hm⟩ : ∃ m : Nat, n = m := ⟨n.toNat, by omega⟩
  subst hm
  rw [Int.toNat_natCast] at HM
  have hm1 : m ≤ 40 := by omega
  have HC := Lib.hid (fun (k : Nat) (hk : k ≤ 1000) w h => impl_layCourse A0 c0 nm cs k L hk hL.1 hL.2 HV.out w h)
  clear hn
  go_wp2_with fail
  go_loopw [8, 27] (fun u i wr => ∃ (k g cq : Nat), k ≤ m ∧ i = .int .i64 k ∧ u = .slice (some ⟨g, 0, none⟩) k cq ∧ Hid (lwB cs L k = true) ∧ Hid (OStr wr w1.heap.size (.slice (some ⟨g, 0, none⟩) k cq) (lwL cs L k)) ∧ Hid (Below w1.heap.size w1 wr)) (fun _ i _ => m - (intOf i).toNat)
  case atStart => exact ⟨0, w1.heap.size, 0, Nat.zero_le _, rfl, rfl, Lib.hid rfl, Lib.hid (ostr_lit _ _ (Nat.le_refl _)), Lib.hid (ext_alloc1 _ _)⟩
  case round =>
    obtain ⟨k, g, cq, hk, rfl, rfl, HT, HO, HBB⟩ := hrel
    have e1 : (0 : Int) ≤ k := by omega
    by_cases hlt : k < m
    · have e2 : (k : Int) < m := by omega
      have p0 := cell_keep HP0.out HBB.out
      have p1 := cell_keep HP1.out HBB.out
      have HC2 := Lib.hid (HC.out k (by omega) wr (HA.out.ext (ext_trans HB.out HBB.out)))
      have HLS := Lib.hid (lwL_succ cs L k)
      have HBS := Lib.hid (lwB_succ cs L k)
      have HNO : Hid (¬ (layT (gd cs (k % cs.length)) L).size ≤ 60 → lwB cs L m = false) := Lib.hid fun h => lwB_no hlt h
      have HKL : Hid ((lwL cs L k).length = k) := Lib.hid (lwL_len _ _ _)
      obtain ⟨ls, hls⟩ : ∃ ls, lwL cs L k = ls := ⟨_, rfl⟩
      rw [hls] at HO HLS HKL
      clear hls
      obtain ⟨t, ht⟩ : ∃ t, layT (gd cs (k % cs.length)) L = t := ⟨_, rfl⟩
      rw [ht] at HC2 HLS HBS HNO
      clear ht
      by_cases h60 : t.size ≤ 60
      · have HR := Lib.hid (layR_ok h60)
        rw [HR.out] at HC2
        go_wp2_with fail
        refine (show Calls _ _ _ _ _ from HC2.out).mono ?_
        rintro e w3 ⟨rfl, hb3⟩
        have HB3 := Lib.hid (ext_trans HBB.out hb3)
        have HO3 := Lib.hid (HO.out.ext hb3)
        have hsz3 := HB3.out.size
        have HT3 : Hid (lwB cs L (k + 1) = true) := Lib.hid (by rw [HBS.out, HT.out, decide_eq_true h60]; rfl)
        clear hb3 p0 p1 h60
        go_wp2_with (at_builtin; refine wpList_append_str rfl _ _ rfl w1.heap.size (.slice (some ⟨g, 0, none⟩) k cq) ls t rfl rfl HO3.out (by rw [HKL.out]; omega) hsz3 ?_; intro g2 cap w4 hO4 hg4 hlt4)
        go_roundw
        case rel =>
          refine ⟨k + 1, g2, cap, by omega, by go_num, by rw [HKL.out], HT3, Lib.hid ?_, Lib.hid (Chg.ext HB3.out hg4 (fun j hj => (HO3.out.ge j hj).1))⟩
          rw [HLS.out]
          rw [HKL.out] at hO4
          exact hO4
        case measure => simp [intOf]; omega
      · have HR := Lib.hid (layR_no h60)
        rw [HR.out] at HC2
        have HF : Hid (mLayWall nm cs L m = ([], 5)) := Lib.hid (by rw [HM.out, HNO.out h60]; rfl)
        clear h60
        go_wp2_with fail
        refine (show Calls _ _ _ _ _ from HC2.out).mono ?_
        rintro e w3 ⟨rfl, hb3⟩
        have HB3 := Lib.hid (ext_trans HBB.out hb3)
        clear hb3 p0 p1
        go_wp2_with fail
        go_ret2
        rw [HF.out]
        exact RetL.no (ext_trans HB.out HB3.out)
    · obtain rfl : k = m := by omega
      have HF : Hid (mLayWall nm cs L k = (lwL cs L k, 0)) := Lib.hid (by rw [HM.out, if_pos HT.out])
      have HKL : Hid ((lwL cs L k).length = k) := Lib.hid (lwL_len _ _ _)
      go_wp2_with fail
      go_ret2
      rw [HF.out]
      refine ⟨some ⟨g, 0, none⟩, cq, by rw [HKL.out]; rfl, ?_, ext_trans HB.out HBB.out⟩
      rw [HKL.out]
      exact HO.out.mono HB.out.size
end Go.Proofs.YtfgopboddkhckaaGreatDoor
namespace Go.Proofs.YtfgopboddkhckaaGreatDoor
open Go.ChangeShapes Go.WideShapes Go.ChangeAt Go.RowKit Go.Sort Go.Joins
set_option linter.unusedVariables false
set_option maxRecDepth 100000

theorem lit_neC {x : ByteArray} {l : List UInt8} (h : x ≠ ⟨l.toArray⟩) : ¬ x.toList = l ∧ (x.toList == l) = false := by
  have h2 : ¬ x.toList = l := fun e => h (WideShapes.bytes_inj (by rw [← ByteArray.toList_eq, e]))
  exact ⟨h2, by rw [beq_eq_false_iff_ne]; exact h2⟩
/-- A state in the box q; its parts are the call's own. -/
structure DB (W : World) (B0 q : Nat) (d : DK) (A : Option Addr) (c : Nat) (B : Option Addr) (e : Nat) : Prop where
  cells : PDK W q d A c B e
  own : ODKp W B0 (.slice A d.cs.length c) (.slice B d.wall.length e) d
  fa : ∀ k, BI (.slice A d.cs.length c) k → k ≠ q
  fb : ∀ k, BI (.slice B d.wall.length e) k → k ≠ q
  fz : ∀ j, W.frozen? ⟨q, j, none⟩ = false
  ge : B0 ≤ q
theorem DB.lt {W : World} {B0 q : Nat} {d : DK} {A : Option Addr} {c : Nat} {B : Option Addr} {e : Nat} (h : DB W B0 q d A c B e) : q < W.heap.size := block_lt_of_cell h.cells.k0
theorem DB.ext {W W' : World} {B0 q : Nat} {d : DK} {A : Option Addr} {c : Nat} {B : Option Addr} {e : Nat} (h : DB W B0 q d A c B e) (hb : Below W.heap.size W W') : DB W' B0 q d A c B e :=
  ⟨h.cells.ext hb, h.own.ext hb, h.fa, h.fb, fun j => by rw [(bcell hb).2 q j h.lt]; exact h.fz j, h.ge⟩
theorem ostr_one (W : World) (base : Nat) (t : ByteArray) (h : base ≤ W.heap.size) : OStr (W.alloc (.cells #[.string t] 9)) base (.slice (some ⟨W.heap.size, 0, none⟩) 1 1) [t] :=
  World.ownsRow_lit _ #[.string t] 1 h (by simp [maxLen]) (by simp)
/-- What a command leaves. -/
def ExP (r : DK × List ByteArray × Int) (W : World) (B0 q : Nat) : Ending → World → Prop := fun e W' => ∃ u, e = .returned (.tuple #[u, .int .i64 r.2.2]) ∧ Chg (fun k => k = q) W W' ∧
  (r.2.2 = 0 → ∃ A c B e', DB W' B0 q r.1 A c B e' ∧ OStr W' B0 u r.2.1 ∧ ∀ k, BI u k → k ≠ q ∧ ¬ BI (.slice A r.1.cs.length c) k ∧ ¬ BI (.slice B r.1.wall.length e') k)
theorem ExP.no {r : DK × List ByteArray × Int} {W W' : World} {B0 q : Nat} {u : Value} {k : Int} (hr : r.2.2 = k) (hk : k ≠ 0) (hb : Chg (fun k => k = q) W W') : ExP r W B0 q (.returned (.tuple #[u, .int .i64 k])) W' :=
  ⟨u, by rw [hr], hb, fun h => absurd (hr.symm.trans h) hk⟩
theorem ExP.one {r : DK × List ByteArray × Int} {W W2 : World} {B0 q : Nat} {d : DK} {t : ByteArray} {A : Option Addr} {c : Nat} {B : Option Addr} {e : Nat} (hr : r = (d, [t], 0)) (hD : DB W2 B0 q d A c B e) (hb : Chg (fun k => k = q) W W2) :
    ExP r W B0 q (.returned (.tuple #[.slice (some ⟨W2.heap.size, 0, none⟩) 1 1, .int .i64 0])) (W2.alloc (.cells #[.string t] 9)) := by
  subst hr
  have hl := hD.lt
  have hg := hD.ge
  refine ⟨_, rfl, hb.trans (Chg.of_below (ext_alloc1 _ _) _), fun _ => ⟨A, c, B, e, hD.ext (ext_alloc1 _ _), ostr_one W2 B0 t (by omega), fun k hk => ?_⟩⟩
  obtain rfl : W2.heap.size = k := Option.some.inj hk
  refine ⟨by omega, fun h => ?_, fun h => ?_⟩
  · have := (hD.own.1.ge _ h).2; omega
  · have := (hD.own.2.1.ge _ h).2; omega
/-- The format's four cells filled. -/
theorem DB.putF {W : World} {B0 q : Nat} {d : DK} {A : Option Addr} {c : Nat} {B : Option Addr} {e : Nat} (h : DB W B0 q d A c B e) (f : FM) :
    DB ((((W.setCell ⟨q, 0, none⟩ (.int .i64 f.l)).setCell ⟨q, 1, none⟩ (.int .i64 f.w)).setCell ⟨q, 2, none⟩ (.int .i64 f.h)).setCell ⟨q, 3, none⟩ (.int .i64 f.j)) B0 q { d with f := f } A c B e := by
  have hc : Chg (fun k => k = q) W ((((W.setCell ⟨q, 0, none⟩ (.int .i64 f.l)).setCell ⟨q, 1, none⟩ (.int .i64 f.w)).setCell ⟨q, 2, none⟩ (.int .i64 f.h)).setCell ⟨q, 3, none⟩ (.int .i64 f.j)) := ((((Chg.setCell (S := fun k => k = q) _ (p := ⟨q, 0, none⟩) rfl _).trans (Chg.setCell (S := fun k => k = q) _ (p := ⟨q, 1, none⟩) rfl _)).trans (Chg.setCell (S := fun k => k = q) _ (p := ⟨q, 2, none⟩) rfl _)).trans (Chg.setCell (S := fun k => k = q) _ (p := ⟨q, 3, none⟩) rfl _))
  obtain ⟨k0, k1, k2, k3, k4, k5, k6, k7⟩ := h.cells
  have fz := h.fz
  refine ⟨⟨by simp [go_sem, k0], by simp [go_sem, k1], by simp [go_sem, k2], by simp [go_sem, k3], by simp [go_sem, k4], by simp [go_sem, k5], by simp [go_sem, k6], by simp [go_sem, k7]⟩, ⟨h.own.1.chg hc (fun k hk e => h.fa k hk e), h.own.2.1.chg hc (fun k hk e => h.fb k hk e), h.own.2.2⟩, h.fa, h.fb, fun j => by simpa using fz j, h.ge⟩
theorem chg_putF (W : World) (q : Nat) (x0 x1 x2 x3 : Value) : Chg (fun k => k = q) W ((((W.setCell ⟨q, 0, none⟩ x0).setCell ⟨q, 1, none⟩ x1).setCell ⟨q, 2, none⟩ x2).setCell ⟨q, 3, none⟩ x3) := ((((Chg.setCell (S := fun k => k = q) _ (p := ⟨q, 0, none⟩) rfl _).trans (Chg.setCell (S := fun k => k = q) _ (p := ⟨q, 1, none⟩) rfl _)).trans (Chg.setCell (S := fun k => k = q) _ (p := ⟨q, 2, none⟩) rfl _)).trans (Chg.setCell (S := fun k => k = q) _ (p := ⟨q, 3, none⟩) rfl _))
set_option maxHeartbeats 3200000 in
theorem impl_ex_format (w00 W : World) (q : Nat) (d : DK) (A : Option Addr) (c : Nat) (B : Option Addr) (e : Nat) (hD : DB W w00.heap.size q d A c B e) (hb0 : Below w00.heap.size w00 W) (Aw : Option Addr) (cw : Nat) (l : List ByteArray) (hw : RStr W (.slice Aw l.length cw) l) (hl : l.length = 2) (hx : gd l 0 = cmW .format) (hsz : ∀ k, k < l.length → (gd l k).size ≤ 1048576) (nv : Value) (hE : Env w00) :
    Calls Tryz.prog 44 #[.pointer (some ⟨q, 0, none⟩), .slice Aw l.length cw, nv] W (ExP (exFormat d (gd l 1)) W w00.heap.size q) := by
  have HD := Lib.hid hD
  have HE := Lib.hid (fun W' (h : Below w00.heap.size w00 W') => hE.ext h)
  have HB0 := Lib.hid hb0
  obtain ⟨ad, rfl, _, hc⟩ := hw.at (k := 0) (by omega)
  have w0 := hc 0 (by omega)
  rw [Addr.add_zero'] at w0
  have w1 := hc 1 (by omega)
  rw [addr_succ] at w1
  have hz1 := hsz 1 (by omega)
  obtain ⟨x0, hx0⟩ : ∃ x, gd l 0 = x := ⟨_, rfl⟩
  obtain ⟨t, ht⟩ : ∃ x, gd l 1 = x := ⟨_, rfl⟩
  rw [hx0] at w0 hx
  rw [ht] at w1 hz1
  rw [ht]
  have hx0 := hx
  have he : x0.toList = [102, 111, 114, 109, 97, 116] := by rw [hx0, ByteArray.toList_eq]; rfl
  have HRF := Lib.hid (fun w h => impl_ReadFormat t hz1 w h)
  clear hD hE hc ht hsz hx hw hx0 hz1 hb0
  have i0 : (0 : Int) < l.length := by omega
  have i1 : (1 : Int) < l.length := by omega
  go_enter Tryz.func44, Tryz.ntmps44
  go_wp2_with fail
  refine (show Calls _ _ _ _ _ from HRF.out _ (HE.out _ HB0.out)).mono ?_
  rintro e' W1 ⟨rfl, hb⟩
  have HB := Lib.hid hb
  clear hb HRF
  have HMF : Hid (exFormat d t = if rfB t = true then ({ d with f := rfV t }, [fmT (rfV t)], 0) else (d, [], 7)) := Lib.hid rfl
  have HVF : Hid (rfB t = true → vF (rfV t) = true) := Lib.hid (fun h => by
    unfold rfB at h
    cases hm : mRF t with
    | none => rw [hm] at h; cases h
    | some f => rw [(rf_some hm).1]; exact (mRF_some hm).1)
  obtain ⟨F, hF⟩ : ∃ F, rfV t = F := ⟨_, rfl⟩
  obtain ⟨b, hb⟩ : ∃ b, rfB t = b := ⟨_, rfl⟩
  rw [hF, hb] at HMF HVF
  rw [hF, hb]
  clear hF hb
  cases b with
  | false =>
    go_wp2_with fail
    go_ret2
    exact ExP.no (by rw [HMF.out]; rfl) (by decide) (Chg.of_below (ext_alloc HB.out _) _)
  | true =>
    have HFT := Lib.hid (fun w h => impl_FormatText F w h)
    have HMT : Hid (mFT F = fmT F) := Lib.hid (by unfold mFT; rw [HVF.out rfl]; rfl)
    rw [HMT.out] at HFT
    have HD1 := Lib.hid (HD.out.ext HB.out)
    have k0 := HD1.out.cells.k0
    have k1 := HD1.out.cells.k1
    have k2 := HD1.out.cells.k2
    have k3 := HD1.out.cells.k3
    have kf := HD1.out.fz
    have hq := HD.out.lt
    have hq1 : q < W1.heap.size := Nat.lt_of_lt_of_le hq HB.out.size
    have hqn : q ≠ W1.heap.size := by omega
    have hqn2 : W1.heap.size ≠ q := by omega
    have HDP := Lib.hid (HD1.out.putF F)
    have HCP := Lib.hid ((Chg.of_below HB.out (fun k => k = q)).trans (chg_putF W1 q (.int .i64 F.l) (.int .i64 F.w) (.int .i64 F.h) (.int .i64 F.j)))
    obtain ⟨W2, hW2⟩ : ∃ x, ((((W1.setCell ⟨q, 0, none⟩ (.int .i64 F.l)).setCell ⟨q, 1, none⟩ (.int .i64 F.w)).setCell ⟨q, 2, none⟩ (.int .i64 F.h)).setCell ⟨q, 3, none⟩ (.int .i64 F.j)) = x := ⟨_, rfl⟩
    have HB2 : Hid (Below w00.heap.size w00 W2) := Lib.hid (by rw [← hW2]; exact Chg.ext HB0.out HCP.out (fun k hk => by subst hk; exact HD.out.ge))
    have hsz2 : W2.heap.size = W1.heap.size := by rw [← hW2]; simp
    rw [hW2] at HDP HCP
    go_wp2_with fail
    clear hW2
    refine (show Calls _ _ _ _ _ from HFT.out _ (HE.out _ (ext_alloc HB2.out _)).lay).mono ?_
    rintro e' W3 ⟨rfl, hb⟩
    have HB3 := Lib.hid (ext_trans (ext_alloc1 _ _) hb)
    clear hb
    go_wp2_with fail
    go_ret2
    exact ExP.one (r := exFormat d t) HMF.out (HDP.out.ext HB3.out) (HCP.out.trans (Chg.of_below HB3.out _))
end Go.Proofs.YtfgopboddkhckaaGreatDoor
namespace Go.Proofs.YtfgopboddkhckaaGreatDoor
open Go.ChangeShapes Go.WideShapes Go.ChangeAt Go.RowKit Go.Sort Go.Joins
set_option linter.unusedVariables false
set_option maxRecDepth 100000
/-- What the words behind a word are, as bytes. -/
def shF (l : List Bool) : List UInt8 := l.map fun b => if b then 110 else 119
def shW (x : ByteArray) : ByteArray := match cmOf x with | some c => ⟨(shF (cmF c)).toArray⟩ | none => ⟨#[]⟩
set_option maxHeartbeats 3200000 in
theorem impl_deskShape (x : ByteArray) (w : World) : Calls Tryz.prog 37 #[.string x] w (RetP (.string (shW x)) w) := by
  by_cases h0 : x = ⟨#[98, 111, 110, 100]⟩
  · have he : x.toList = [98, 111, 110, 100] := by rw [h0, ByteArray.toList_eq]
    have hs : shW x = ⟨#[119]⟩ := by rw [h0]; decide
    rw [hs]
    clear hs h0
    go_enter Tryz.func37, Tryz.ntmps37
    go_wp2_with fail
    go_ret
    exact ⟨rfl, rfl⟩
  obtain ⟨p0, q0⟩ := lit_neC (x := x) (l := [98, 111, 110, 100]) h0
  by_cases h1 : x = ⟨#[102, 111, 114, 109, 97, 116]⟩
  · have he : x.toList = [102, 111, 114, 109, 97, 116] := by rw [h1, ByteArray.toList_eq]
    have hs : shW x = ⟨#[119]⟩ := by rw [h1]; decide
    rw [hs]
    clear hs h1
    go_enter Tryz.func37, Tryz.ntmps37
    go_wp2_with fail
    go_ret
    exact ⟨rfl, rfl⟩
  obtain ⟨p1, q1⟩ := lit_neC (x := x) (l := [102, 111, 114, 109, 97, 116]) h1
  by_cases h2 : x = ⟨#[99, 104, 101, 99, 107]⟩
  · have he : x.toList = [99, 104, 101, 99, 107] := by rw [h2, ByteArray.toList_eq]
    have hs : shW x = ⟨#[110]⟩ := by rw [h2]; decide
    rw [hs]
    clear hs h2
    go_enter Tryz.func37, Tryz.ntmps37
    go_wp2_with fail
    go_ret
    exact ⟨rfl, rfl⟩
  obtain ⟨p2, q2⟩ := lit_neC (x := x) (l := [99, 104, 101, 99, 107]) h2
  by_cases h3 : x = ⟨#[104, 101, 105, 103, 104, 116]⟩
  · have he : x.toList = [104, 101, 105, 103, 104, 116] := by rw [h3, ByteArray.toList_eq]
    have hs : shW x = ⟨#[110]⟩ := by rw [h3]; decide
    rw [hs]
    clear hs h3
    go_enter Tryz.func37, Tryz.ntmps37
    go_wp2_with fail
    go_ret
    exact ⟨rfl, rfl⟩
  obtain ⟨p3, q3⟩ := lit_neC (x := x) (l := [104, 101, 105, 103, 104, 116]) h3
  by_cases h4 : x = ⟨#[108, 101, 110, 103, 116, 104]⟩
  · have he : x.toList = [108, 101, 110, 103, 116, 104] := by rw [h4, ByteArray.toList_eq]
    have hs : shW x = ⟨#[110]⟩ := by rw [h4]; decide
    rw [hs]
    clear hs h4
    go_enter Tryz.func37, Tryz.ntmps37
    go_wp2_with fail
    go_ret
    exact ⟨rfl, rfl⟩
  obtain ⟨p4, q4⟩ := lit_neC (x := x) (l := [108, 101, 110, 103, 116, 104]) h4
  by_cases h5 : x = ⟨#[112, 97, 105, 114]⟩
  · have he : x.toList = [112, 97, 105, 114] := by rw [h5, ByteArray.toList_eq]
    have hs : shW x = ⟨#[110, 110]⟩ := by rw [h5]; decide
    rw [hs]
    clear hs h5
    go_enter Tryz.func37, Tryz.ntmps37
    go_wp2_with fail
    go_ret
    exact ⟨rfl, rfl⟩
  obtain ⟨p5, q5⟩ := lit_neC (x := x) (l := [112, 97, 105, 114]) h5
  by_cases h6 : x = ⟨#[119, 97, 108, 108]⟩
  · have he : x.toList = [119, 97, 108, 108] := by rw [h6, ByteArray.toList_eq]
    have hs : shW x = ⟨#[110, 110]⟩ := by rw [h6]; decide
    rw [hs]
    clear hs h6
    go_enter Tryz.func37, Tryz.ntmps37
    go_wp2_with fail
    go_ret
    exact ⟨rfl, rfl⟩
  obtain ⟨p6, q6⟩ := lit_neC (x := x) (l := [119, 97, 108, 108]) h6
  by_cases h7 : x = ⟨#[101, 110, 116, 101, 114]⟩
  · have he : x.toList = [101, 110, 116, 101, 114] := by rw [h7, ByteArray.toList_eq]
    have hs : shW x = ⟨#[110, 119, 110]⟩ := by rw [h7]; decide
    rw [hs]
    clear hs h7
    go_enter Tryz.func37, Tryz.ntmps37
    go_wp2_with fail
    go_ret
    exact ⟨rfl, rfl⟩
  obtain ⟨p7, q7⟩ := lit_neC (x := x) (l := [101, 110, 116, 101, 114]) h7
  have hs : shW x = ⟨#[]⟩ := by
    unfold shW
    cases hc : cmOf x with
    | none => rfl
    | some c =>
      have hx := cmOf_some hc
      cases c
      · exact absurd hx h0
      · exact absurd hx h2
      · rfl
      · exact absurd hx h7
      · exact absurd hx h1
      · exact absurd hx h3
      · exact absurd hx h4
      · rfl
      · exact absurd hx h5
      · rfl
      · exact absurd hx h6
  rw [hs]
  clear hs h0 h1 h2 h3 h4 h5 h6 h7
  go_enter Tryz.func37, Tryz.ntmps37
  go_wp2_with fail
  go_ret
  exact ⟨rfl, rfl⟩
end Go.Proofs.YtfgopboddkhckaaGreatDoor
namespace Go.Proofs.YtfgopboddkhckaaGreatDoor
open Go.ChangeShapes Go.WideShapes Go.ChangeAt Go.RowKit Go.Sort
set_option linter.unusedVariables false
set_option maxRecDepth 100000
attribute [local go_sem ↓] Go.wp_at_zero Go.wp_at_succ

/-- The words with which commands begin. -/
def dwL : List ByteArray := [⟨#[98, 111, 110, 100]⟩, ⟨#[99, 104, 101, 99, 107]⟩, ⟨#[99, 111, 117, 110, 116]⟩, ⟨#[101, 110, 116, 101, 114]⟩, ⟨#[102, 111, 114, 109, 97, 116]⟩, ⟨#[104, 101, 105, 103, 104, 116]⟩, ⟨#[108, 101, 110, 103, 116, 104]⟩, ⟨#[108, 111, 103]⟩, ⟨#[112, 97, 105, 114]⟩, ⟨#[115, 104, 111, 119]⟩, ⟨#[119, 97, 108, 108]⟩]
def dwC : Array Value := (dwL.map Value.string).toArray
def RetW (w : World) : Ending → World → Prop := fun e w' => ∃ v, e = .returned v ∧ OStr w' w.heap.size v dwL ∧ SmStr dwL ∧ Below w.heap.size w w'
theorem RetW.lit (w : World) : RetW w (.returned (.slice (some ⟨w.heap.size, 0, none⟩) 11 11)) (w.alloc (.cells dwC 9)) := by
  refine ⟨_, rfl, ?_, (show 11 ≤ 1048576 by omega), ext_alloc1 _ _⟩
  exact World.ownsRow_lit w dwC 11 (Nat.le_refl _) (by simp [maxLen]) rfl
end Go.Proofs.YtfgopboddkhckaaGreatDoor
namespace Go.Proofs.YtfgopboddkhckaaGreatDoor
open Go.ChangeShapes Go.WideShapes Go.ChangeAt Go.RowKit Go.Sort Go.Joins
set_option linter.unusedVariables false
set_option maxRecDepth 100000
def InC (x : Int) : Prop := 0 ≤ x ∧ x ≤ 10
theorem inC_lgC (s : ByteArray) : InC (lgC s) := by unfold lgC InC; (repeat' split) <;> omega
theorem inC_add (s : ByteArray) (o : EN) : InC (mAddEntry s o).2 := by
  unfold mAddEntry
  split
  · unfold mAdded
    cases vEn o with
    | false => rw [cond_false]; unfold InC; decide
    | true => rw [cond_true]; (repeat' split) <;> (simp [InC])
  · exact inC_lgC s
theorem inC_fm (f : FM) (n a b : Int) : InC (fmC f n a b) := by unfold fmC InC; (repeat' split) <;> omega
theorem inC_bn (t : ByteArray) : InC (bnR t) := by unfold bnR InC; split <;> omega
theorem inC_wall (nm : ByteArray) (cs : List CO) (L n : Int) : InC (mLayWall nm cs L n).2 := by unfold mLayWall; (repeat' split) <;> (simp [InC])
theorem inC_wl (l : List ByteArray) (lap : Int) : InC (wlC l lap) := by unfold wlC InC; (repeat' split) <;> omega
theorem inC_clash (l : List ByteArray) (lap : Int) : InC (mClash l lap).2.2.2 := by
  unfold mClash
  split
  · split <;> (simp [InC])
  · exact inC_wl _ _
theorem inC_count (l : List ByteArray) : InC (mCount l).2 := by unfold mCount; split <;> (simp [InC])
theorem inC_pair (a b : Int) : InC (mPair a b).2.2 := by unfold mPair; (repeat' split) <;> (simp [InC])
theorem inC_len (f : FM) (n : Int) : InC (mLen f n).2.2 := by unfold mLen; split; (simp [InC]); exact inC_fm _ _ _ _
theorem inC_height (f : FM) (n : Int) : InC (mHeight f n).2 := by unfold mHeight; split; (simp [InC]); exact inC_fm _ _ _ _
theorem inC_0 : InC 0 := by unfold InC; decide
theorem exec_code (d : DK) (c : CM) (l : List ByteArray) : InC (mExec d c l).2.2 := by
  cases c <;> simp only [mExec]
  · unfold exBond; split; exact inC_0; exact inC_bn _
  · unfold exCheck; split; exact inC_0; split; exact inC_0; exact inC_clash _ _
  · unfold exCount; split; exact inC_0; exact inC_count _
  · unfold exEnter; split; exact inC_0; exact inC_add _ _
  · unfold exFormat; split; exact inC_0; (simp [InC])
  · unfold exHeight; split; exact inC_0; exact inC_height _ _
  · unfold exLength; split; exact inC_0; exact inC_len _ _
  · exact inC_0
  · unfold exPair; split; exact inC_0; exact inC_pair _ _
  · exact inC_0
  · unfold exWall; split; exact inC_0; exact inC_wall _ _ _ _
theorem con_dw (x : ByteArray) : Lib.containsS (dwL.take 11) x = (cmOf x).isSome := by
  have hh : ∀ y ∈ dwL, ∃ c ∈ cmL, cmW c = y := by decide
  have ht : dwL.take 11 = dwL := rfl
  rw [ht, Bool.eq_iff_iff, Lib.containsS_iff]
  constructor
  · intro hx
    obtain ⟨c, _, e⟩ := hh x hx
    cases hc : cmOf x with
    | none => exact absurd e.symm (cmOf_none hc c)
    | some c => rfl
  · intro h
    obtain ⟨c, hc⟩ := Option.isSome_iff_exists.1 h
    have := cmOf_some hc
    subst this
    cases c <;> simp [cmW, dwL]
theorem spb_pos (b : UInt8) (s : ByteArray) : 1 ≤ (spb b s).length := by
  unfold spb
  rw [List.length_map]
  rcases Nat.eq_zero_or_pos (splL b s.data.toList).length with h | h
  · exact absurd (List.length_eq_zero_iff.1 h) (splL_ne b _)
  · exact h
theorem mDo_none {d : DK} {line : ByteArray} (h : cmOf (gd (spb 32 line) 0) = none) : mDo d line = none := by unfold mDo; rw [h]
theorem mDo_len {d : DK} {line : ByteArray} {c : CM} (h : cmOf (gd (spb 32 line) 0) = some c) (hl : (spb 32 line).length ≠ (cmF c).length + 1) : mDo d line = none := by unfold mDo; rw [h]; exact if_neg hl
theorem mDo_some {d : DK} {line : ByteArray} {c : CM} (h : cmOf (gd (spb 32 line) 0) = some c) (hl : (spb 32 line).length = (cmF c).length + 1) : mDo d line = some (mGo d c (spb 32 line)) := by unfold mDo; rw [h]; exact if_pos hl
theorem mGo_no {d : DK} {c : CM} {l : List ByteArray} (h : okN c l (cmF c).length = false) : mGo d c l = (d, [erT 7]) := by unfold mGo; rw [h]; rfl
theorem mGo_er {d : DK} {c : CM} {l : List ByteArray} (h : okN c l (cmF c).length = true) (h2 : (mExec d c l).2.2 ≠ 0) : mGo d c l = (d, [erT (mExec d c l).2.2]) := by unfold mGo; rw [if_pos h, if_neg h2]
theorem mGo_ok {d : DK} {c : CM} {l : List ByteArray} (h : okN c l (cmF c).length = true) (h2 : (mExec d c l).2.2 = 0) : mGo d c l = ((mExec d c l).1, (mExec d c l).2.1) := by unfold mGo; rw [if_pos h, if_pos h2]
theorem mDesk_no {d : DK} {line : ByteArray} (h : vDK d = false) : mDesk d line = (default, [], 1) := by unfold mDesk; rw [h]; rfl
theorem mDesk_none {d : DK} {line : ByteArray} (h : vDK d = true) (h2 : mDo d line = none) : mDesk d line = (default, [], 7) := by unfold mDesk; rw [if_pos h, h2]
theorem mDesk_some {d : DK} {line : ByteArray} {p : DK × List ByteArray} (h : vDK d = true) (h2 : mDo d line = some p) : mDesk d line = (p.1, p.2, 0) := by unfold mDesk; rw [if_pos h, h2]
theorem shW_some {x : ByteArray} {c : CM} (h : cmOf x = some c) : shW x = ⟨(shF (cmF c)).toArray⟩ := by unfold shW; rw [h]
theorem shW_size (c : CM) : (⟨(shF (cmF c)).toArray⟩ : ByteArray).size = (cmF c).length ∧ (cmF c).length ≤ 3 := by cases c <;> decide
theorem shW_byte (c : CM) : ∀ k, k < (cmF c).length → byt ⟨(shF (cmF c)).toArray⟩ k = if gd (cmF c) k = true then 110 else 119 := by cases c <;> decide
end Go.Proofs.YtfgopboddkhckaaGreatDoor
namespace Go.Proofs.YtfgopboddkhckaaGreatDoor
open Go.ChangeShapes Go.WideShapes Go.ChangeAt Go.RowKit Go.Sort Go.Joins
set_option linter.unusedVariables false
set_option maxRecDepth 100000

theorem RStr.pre {w : World} {A : Option Addr} {n c m : Nat} {l : List ByteArray} (h : RStr w (.slice A n c) l) (hm : m ≤ l.length) : RStr w (.slice A m c) (l.take m) := by
  obtain ⟨_, A', c', hv, h2, h3, h4⟩ := h
  injection hv with e1 e2 e3
  subst e1
  subst e3
  have hl : (l.take m).length = m := by rw [List.length_take, Nat.min_eq_left hm]
  refine ⟨by simp, A, c, by rw [hl], by rw [hl]; omega, h3, fun h0 => ?_⟩
  rw [hl] at h0
  obtain ⟨ad, e, hlt, hc⟩ := h4 (by omega)
  refine ⟨ad, e, hlt, fun j u hu => hc j u ?_⟩
  rw [List.getElem?_map] at hu ⊢
  rw [List.getElem?_take] at hu
  split at hu
  · exact hu
  · simp at hu

theorem linesOf_le (t : ByteArray) : (linesOf t).length ≤ t.size + 1 := by
  have h := spb_len 10 t
  unfold linesOf
  split
  · rw [List.length_take]; omega
  · exact h
theorem linesOf_sz {t : ByteArray} {k : Nat} (h : k < (linesOf t).length) : (gd (linesOf t) k).size ≤ t.size := by
  have hh := h
  unfold linesOf at hh ⊢
  split at hh
  · rename_i e
    rw [if_pos e]
    rw [List.length_take] at hh
    rw [gd_take (by omega)]
    exact spb_sz (by omega)
  · rename_i e
    rw [if_neg e]
    exact spb_sz hh
theorem linesOf_last {t : ByteArray} {m : Nat} (h : (spb 10 t).length = m + 1) (h0 : gd (spb 10 t) m = ⟨#[]⟩) : linesOf t = (spb 10 t).take m := by
  unfold linesOf
  rw [h, Nat.add_sub_cancel, if_pos h0]
theorem linesOf_all {t : ByteArray} {m : Nat} (h : (spb 10 t).length = m + 1) (h0 : gd (spb 10 t) m ≠ ⟨#[]⟩) : linesOf t = spb 10 t := by
  unfold linesOf
  rw [h, Nat.add_sub_cancel, if_neg h0]

theorem runK_none {l : List ByteArray} {k : Nat} {d : DK} {o : List ByteArray} (h : runK l k = (d, o)) (hm : mDo d (gd l k) = none) : runK l (k + 1) = (d, o ++ [quest]) := by
  show (match mDo (runK l k).1 (gd l k) with | some p => (p.1, (runK l k).2 ++ p.2) | none => ((runK l k).1, (runK l k).2 ++ [quest])) = _
  rw [h]
  simp only
  rw [hm]
theorem runK_some {l : List ByteArray} {k : Nat} {d : DK} {o : List ByteArray} (h : runK l k = (d, o)) {p : DK × List ByteArray} (hm : mDo d (gd l k) = some p) : runK l (k + 1) = (p.1, o ++ p.2) := by
  show (match mDo (runK l k).1 (gd l k) with | some p => (p.1, (runK l k).2 ++ p.2) | none => ((runK l k).1, (runK l k).2 ++ [quest])) = _
  rw [h]
  simp only
  rw [hm]
theorem outOf_all {l : List ByteArray} (h : l.length ≤ 60) {d : DK} {o : List ByteArray} (hr : runK l l.length = (d, o)) : outOf l = o := by
  unfold outOf
  rw [Nat.min_eq_left h, if_neg (by omega), hr, List.append_nil]
theorem outOf_full {l : List ByteArray} (h : 60 < l.length) {d : DK} {o : List ByteArray} (hr : runK l 60 = (d, o)) : outOf l = o ++ [erT 5] := by
  unfold outOf
  rw [Nat.min_eq_right (by omega), if_pos h, hr]
theorem erT5 : erT 5 = ⟨#[101, 114, 114, 111, 114, 32, 102, 117, 108, 108]⟩ := by decide +kernel
/-- What an output may be. -/
structure OutK (o : List ByteArray) (k : Nat) : Prop where
  n : o.length ≤ 4001 * k + 1
  z : ∀ t ∈ o, t.size ≤ 4000
theorem outK_run (l : List ByteArray) (k : Nat) : OutK (runK l k).2 k := by
  obtain ⟨_, h1, h2⟩ := run_ok l k
  exact ⟨by omega, h2⟩
theorem outOf_ok (l : List ByteArray) : OutK (outOf l) 60 := by
  unfold outOf
  obtain ⟨_, h1, h2⟩ := run_ok l (min l.length 60)
  have hk : min l.length 60 ≤ 60 := Nat.min_le_right _ _
  have hm : 4001 * min l.length 60 ≤ 4001 * 60 := Nat.mul_le_mul_left _ hk
  refine ⟨?_, fun t ht => ?_⟩
  · rw [List.length_append]
    split <;> simp <;> omega
  · rcases List.mem_append.1 ht with h | h
    · exact h2 t h
    · split at h
      · obtain rfl := List.mem_singleton.1 h
        have := erT_size 5
        omega
      · cases h
theorem lnK_size {l : List ByteArray} (h : ∀ t ∈ l, t.size ≤ 4000) : ∀ k, k ≤ l.length → (lnK l k).size ≤ 4001 * k
  | 0, _ => Nat.le_refl _
  | k + 1, hk => by
    have h1 := lnK_size h k (by omega)
    have h2 := h _ (gd_mem (show k < l.length by omega))
    show (lnK l k ++ gd l k ++ ⟨#[10]⟩).size ≤ _
    rw [ByteArray.size_append, ByteArray.size_append]
    have h3 : (⟨#[10]⟩ : ByteArray).size = 1 := rfl
    omega

/-! ### Lines with a newline behind each -/
theorem lnK_app (l m : List ByteArray) : ∀ k, k ≤ l.length → lnK (l ++ m) k = lnK l k
  | 0, _ => rfl
  | k + 1, hk => by
    show lnK (l ++ m) k ++ gd (l ++ m) k ++ ⟨#[10]⟩ = lnK l k ++ gd l k ++ ⟨#[10]⟩
    rw [lnK_app l m k (by omega), gd_append_left (by omega)]
def lnA (l : List ByteArray) : ByteArray := lnK l l.length
theorem lnA_snoc (l : List ByteArray) (x : ByteArray) : lnA (l ++ [x]) = lnA l ++ x ++ ⟨#[10]⟩ := by
  unfold lnA
  rw [List.length_append, List.length_singleton]
  show lnK (l ++ [x]) l.length ++ gd (l ++ [x]) l.length ++ ⟨#[10]⟩ = _
  rw [lnK_app l [x] _ (Nat.le_refl _)]
  have : gd (l ++ [x]) l.length = x := by unfold gd; simp [List.getD_eq_getElem?_getD]
  rw [this]
theorem mRun_eq (t : ByteArray) : mRun t = lnA (outOf (linesOf t)) := rfl
/-- A line: short, no newline. -/
def Ln (x : ByteArray) : Prop := x.size ≤ 24 ∧ (10 : UInt8) ∉ x.data.toList
instance (x : ByteArray) : Decidable (Ln x) := by unfold Ln; infer_instance
theorem lnK_data (l : List ByteArray) : ∀ k, k ≤ l.length → (lnK l k).data.toList = (l.take k).flatMap fun x => x.data.toList ++ [10]
  | 0, _ => by simp [lnK]
  | k + 1, hk => by
    show (lnK l k ++ gd l k ++ ⟨#[10]⟩).data.toList = _
    rw [take_gd (by omega), List.flatMap_append, ← lnK_data l k (by omega)]
    simp
theorem jn_lines : ∀ (p : List (List UInt8)), jnL 10 (p ++ [[]]) = p.flatMap fun x => x ++ [10]
  | [] => rfl
  | x :: p => by
    have ih := jn_lines p
    cases p with
    | nil => simp [jnL]
    | cons y q =>
      show x ++ 10 :: jnL 10 ((y :: q) ++ [[]]) = _
      rw [ih]
      simp
theorem lines_back {l : List ByteArray} (h : ∀ x ∈ l, Ln x) : linesOf (lnA l) = l := by
  have hd : (lnA l).data.toList = jnL 10 (l.map (fun x => x.data.toList) ++ [[]]) := by
    unfold lnA
    rw [lnK_data l _ (Nat.le_refl _), List.take_length, jn_lines, List.flatMap_map]
  have hs : splL 10 (lnA l).data.toList = l.map (fun x => x.data.toList) ++ [[]] := by
    rw [hd]
    refine spl_jn 10 _ (by simp) fun x hx => ?_
    rcases List.mem_append.1 hx with hx | hx
    · obtain ⟨y, hy, rfl⟩ := List.mem_map.1 hx
      exact (h y hy).2
    · obtain rfl := List.mem_singleton.1 hx
      simp
  have hb : spb 10 (lnA l) = l ++ [⟨#[]⟩] := by
    unfold spb
    rw [hs, List.map_append, List.map_map]
    have : l.map (bsq ∘ fun x => x.data.toList) = l := by
      rw [show (bsq ∘ fun x : ByteArray => x.data.toList) = id from funext fun x => by simp [bsq]]
      exact List.map_id l
    rw [this]
    rfl
  have hg : gd (l ++ [(⟨#[]⟩ : ByteArray)]) l.length = ⟨#[]⟩ := by unfold gd; simp [List.getD_eq_getElem?_getD]
  have := linesOf_last (t := lnA l) (m := l.length) (by rw [hb]; simp) (by rw [hb]; exact hg)
  rw [this, hb]
  simp
theorem lnA_line {l : List ByteArray} (h : ∀ x ∈ l, Ln x) : (lnA l).size ≤ 25 * l.length := by
  have key : ∀ k, k ≤ l.length → (lnK l k).size ≤ 25 * k := by
    intro k
    induction k with
    | zero => intro _; exact Nat.le_refl _
    | succ k ih =>
      intro hk
      have h1 := ih (by omega)
      have h2 := (h _ (gd_mem (show k < l.length by omega))).1
      show (lnK l k ++ gd l k ++ ⟨#[10]⟩).size ≤ _
      rw [ByteArray.size_append, ByteArray.size_append]
      have h3 : (⟨#[10]⟩ : ByteArray).size = 1 := rfl
      omega
  exact key _ (Nat.le_refl _)
/-- The numbers among the first k words behind a command's own. -/
def nmL (c : CM) (l : List ByteArray) : Nat → List Int
  | 0 => []
  | k + 1 => if gd (cmF c) k = true then nmL c l k ++ [num1 l (k + 1)] else nmL c l k
theorem nmL_len (c : CM) (l : List ByteArray) : ∀ k, (nmL c l k).length ≤ k
  | 0 => Nat.le_refl _
  | k + 1 => by
    have := nmL_len c l k
    unfold nmL
    split
    · simp; omega
    · omega
end Go.Proofs.YtfgopboddkhckaaGreatDoor
