/-
  Parts of the proof: Lay4, Ex1, Ex13, DeskW, Dc0, RnP.
-/
import Derived.Test.YtfgopboddkhckaaGreatDoorKw20
import Derived.Test.YtfgopboddkhckaaGreatDoorKw21
namespace Go.Proofs.YtfgopboddkhckaaGreatDoor
open Go.ChangeShapes Go.WideShapes Go.ChangeAt Go.RowKit Go.Sort Go.Joins
set_option linter.unusedVariables false
set_option maxRecDepth 100000
def RetL (M : List ByteArray) (code : Int) (w : World) : Ending → World → Prop := fun e w' => ∃ A c, e = .returned (.tuple #[.slice A M.length c, .int .i64 code]) ∧ OStr w' w.heap.size (.slice A M.length c) M ∧ Below w.heap.size w w'
theorem RetL.no {w w' : World} {code : Int} (hb : Below w.heap.size w w') : RetL [] code w (.returned (.tuple #[.slice none 0 0, .int .i64 code])) w' := ⟨_, _, rfl, ostr_nil _ _, hb⟩
theorem vB_lens {nm : ByteArray} {cs : List CO} (h : vB nm cs = true) : 1 ≤ cs.length ∧ cs.length ≤ 8 := by
 unfold vB at h
 simp only [Bool.and_eq_true] at h
 have h2 := inB_iff.1 h.1.2
 omega
theorem layR_ok {t : ByteArray} (h : t.size ≤ 60) : layR t = (t, 0) := by unfold layR; exact if_neg (by omega)
theorem layR_no {t : ByteArray} (h : ¬ t.size ≤ 60) : layR t = (⟨#[]⟩, 5) := by unfold layR; exact if_pos (by omega)
theorem mLW_0 {nm : ByteArray} {cs : List CO} {L n : Int} (h : vB nm cs = false) : mLayWall nm cs L n = ([], 1) := by unfold mLayWall; rw [h]; rfl
theorem mLW_1 {nm : ByteArray} {cs : List CO} {L n : Int} (h : vB nm cs = true) (h2 : (inB L 1 200 && inB n 1 40) = false) : mLayWall nm cs L n = ([], 2) := by unfold mLayWall; rw [if_pos h, h2]; rfl
theorem mLW_2 {nm : ByteArray} {cs : List CO} {L n : Int} (h : vB nm cs = true) (h2 : (inB L 1 200 && inB n 1 40) = true) : mLayWall nm cs L n = if lwB cs L n.toNat = true then (lwL cs L n.toNat, 0) else ([], 5) := by unfold mLayWall; rw [if_pos h, if_pos h2]
set_option maxHeartbeats 3200000 in
theorem impl_LayWall (A0 : Option Addr) (c0 : Nat) (nm : ByteArray) (cs : List CO) (L n : Int) (w : World) (l1 : nm.size ≤ maxLen) (l2 : LenCOS cs) (ha : RCOS w (.slice A0 cs.length c0) cs) :
   Calls Tryz.prog 89 #[.agg #[.string nm, .slice A0 cs.length c0], .int .i64 L, .int .i64 n] w (RetL (mLayWall nm cs L n).1 (mLayWall nm cs L n).2 w) := by
 have HA := Lib.hid ha; clear ha
 have HVB := Lib.hid (fun w h => impl_ValidBond A0 c0 nm cs w l1 l2 h)
 clear l1 l2
 obtain ⟨v, hv⟩ : ∃ v, vB nm cs = v := ⟨_, rfl⟩
 rw [hv] at HVB
 go_enter Tryz.func89, Tryz.ntmps89
 go_wp2_with fail
 refine (show Calls _ _ _ _ _ from HVB.out _ (HA.out.alloc _)).mono ?_
 rintro e w1 ⟨rfl, hb⟩
 have HB := Lib.hid (ext_trans (ext_alloc1 _ _) hb)
 have HP0 : Hid (w1.cell? ⟨w.heap.size, 0, none⟩ = some (.string nm)) := Lib.hid (cell_keep (by simp [go_sem]) hb)
 have HP1 : Hid (w1.cell? ⟨w.heap.size, 1, none⟩ = some (.slice A0 cs.length c0)) := Lib.hid (cell_keep (by simp [go_sem]) hb)
 clear hb HVB
 cases v
 · have HM := Lib.hid (mLW_0 (L := L) (n := n) hv)
   clear hv
   go_wp2_with fail
   go_ret2
   rw [HM.out]
   exact RetL.no HB.out
 have HV := Lib.hid hv
 clear hv
 have HI := Lib.hid (fun w => impl_within L 1 200 w)
 have HJ := Lib.hid (fun w => impl_within n 1 40 w)
 obtain ⟨x, hx⟩ : ∃ x, inB L 1 200 = x := ⟨_, rfl⟩
 obtain ⟨y, hy⟩ : ∃ y, inB n 1 40 = y := ⟨_, rfl⟩
 have HX := Lib.hid hx
 have HY := Lib.hid hy
 rw [hx] at HI
 rw [hy] at HJ
 clear hx hy
 go_wp2_with fail
 refine (show Calls _ _ _ _ _ from HI.out _).mono ?_
 rintro e w2 ⟨rfl, rfl⟩
 cases x
 · have HM := Lib.hid (mLW_1 (n := n) HV.out (by rw [HX.out]; rfl))
   go_wp2_with fail
   go_ret2
   rw [HM.out]
   exact RetL.no HB.out
 go_wp2_with fail
 refine (show Calls _ _ _ _ _ from HJ.out _).mono ?_
 rintro e w2 ⟨rfl, rfl⟩
 cases y
 · have HM := Lib.hid (mLW_1 (L := L) HV.out (by rw [HY.out]; simp))
   go_wp2_with fail
   go_ret2
   rw [HM.out]
   exact RetL.no HB.out
 have HM := Lib.hid (mLW_2 HV.out (by rw [HX.out, HY.out]; rfl))
 have hL := inB_iff.1 HX.out
 have hn := inB_iff.1 HY.out
 have hcl := vB_lens HV.out
 clear HX HY HI HJ
 obtain ⟨m, hm⟩ : ∃ m : Nat, n = m := ⟨n.toNat, by omega⟩
 subst hm
 rw [Int.toNat_natCast] at HM
 have hm1 : m ≤ 40 := by omega
 have HC := Lib.hid (fun (k : Nat) (hk : k ≤ 1000) w h => impl_layCourse A0 c0 nm cs k L hk hL.1 hL.2 HV.out w h)
 clear hn
 go_wp2_with fail
 go_loopw [8, 27] (fun u i wr => ∃ (k g cq : Nat), k ≤ m ∧ i = .int .i64 k ∧ u = .slice (some ⟨g, 0, none⟩) k cq ∧ Hid (lwB cs L k = true) ∧ Hid (OStr wr w1.heap.size (.slice (some ⟨g, 0, none⟩) k cq) (lwL cs L k)) ∧ Hid (Below w1.heap.size w1 wr)) (fun _ i _ => m - (intOf i).toNat)
 case atStart => exact ⟨0, w1.heap.size, 0, Nat.zero_le _, rfl, rfl, Lib.hid rfl, Lib.hid (ostr_lit _ _ (Nat.le_refl _)), Lib.hid (ext_alloc1 _ _)⟩
 case round =>
   obtain ⟨k, g, cq, hk, rfl, rfl, HT, HO, HBB⟩ := hrel
   have e1 : (0 : Int) ≤ k := by omega
   by_cases hlt : k < m
   · have e2 : (k : Int) < m := by omega
     have p0 := cell_keep HP0.out HBB.out
     have p1 := cell_keep HP1.out HBB.out
     have HC2 := Lib.hid (HC.out k (by omega) wr (HA.out.ext (ext_trans HB.out HBB.out)))
     have HLS := Lib.hid (lwL_succ cs L k)
     have HBS := Lib.hid (lwB_succ cs L k)
     have HNO : Hid (¬ (layT (gd cs (k % cs.length)) L).size ≤ 60 → lwB cs L m = false) := Lib.hid fun h => lwB_no hlt h
     have HKL : Hid ((lwL cs L k).length = k) := Lib.hid (lwL_len _ _ _)
     obtain ⟨ls, hls⟩ : ∃ ls, lwL cs L k = ls := ⟨_, rfl⟩
     rw [hls] at HO HLS HKL
     clear hls
     obtain ⟨t, ht⟩ : ∃ t, layT (gd cs (k % cs.length)) L = t := ⟨_, rfl⟩
     rw [ht] at HC2 HLS HBS HNO
     clear ht
     by_cases h60 : t.size ≤ 60
     · have HR := Lib.hid (layR_ok h60)
       rw [HR.out] at HC2
       go_wp2_with fail
       refine (show Calls _ _ _ _ _ from HC2.out).mono ?_
       rintro e w3 ⟨rfl, hb3⟩
       have HB3 := Lib.hid (ext_trans HBB.out hb3)
       have HO3 := Lib.hid (HO.out.ext hb3)
       have hsz3 := HB3.out.size
       have HT3 : Hid (lwB cs L (k + 1) = true) := Lib.hid (by rw [HBS.out, HT.out, decide_eq_true h60]; rfl)
       clear hb3 p0 p1 h60
       go_wp2_with (at_builtin; refine wpList_append_str rfl _ _ rfl w1.heap.size (.slice (some ⟨g, 0, none⟩) k cq) ls t rfl rfl HO3.out (by rw [HKL.out]; omega) hsz3 ?_; intro g2 cap w4 hO4 hg4 hlt4)
       go_roundw
       case rel =>
         refine ⟨k + 1, g2, cap, by omega, by go_num, by rw [HKL.out], HT3, Lib.hid ?_, Lib.hid (Chg.ext HB3.out hg4 (fun j hj => (HO3.out.ge j hj).1))⟩
         rw [HLS.out]
         rw [HKL.out] at hO4
         exact hO4
       case measure => simp [intOf]; omega
     · have HR := Lib.hid (layR_no h60)
       rw [HR.out] at HC2
       have HF : Hid (mLayWall nm cs L m = ([], 5)) := Lib.hid (by rw [HM.out, HNO.out h60]; rfl)
       clear h60
       go_wp2_with fail
       refine (show Calls _ _ _ _ _ from HC2.out).mono ?_
       rintro e w3 ⟨rfl, hb3⟩
       have HB3 := Lib.hid (ext_trans HBB.out hb3)
       clear hb3 p0 p1
       go_wp2_with fail
       go_ret2
       rw [HF.out]
       exact RetL.no (ext_trans HB.out HB3.out)
   · obtain rfl : k = m := by omega
     have HF : Hid (mLayWall nm cs L k = (lwL cs L k, 0)) := Lib.hid (by rw [HM.out, if_pos HT.out])
     have HKL : Hid ((lwL cs L k).length = k) := Lib.hid (lwL_len _ _ _)
     go_wp2_with fail
     go_ret2
     rw [HF.out]
     refine ⟨some ⟨g, 0, none⟩, cq, by rw [HKL.out]; rfl, ?_, ext_trans HB.out HBB.out⟩
     rw [HKL.out]
     exact HO.out.mono HB.out.size
def l4C (nm : ByteArray) (cs : List CO) (L : Int) : Int := if vB nm cs = true then (if inB L 1 200 = true then 0 else 2) else 1
set_option maxHeartbeats 3200000 in
theorem spec_code4 (b : Nat) (A0 : Option Addr) (c0 : Nat) (nm : ByteArray) (cs : List CO) (L : Int) (w : World) (l1 : nm.size ≤ maxLen) (l2 : LenCOS cs) (ha : RCOS w (.slice A0 cs.length c0) cs)
   (h0 : w.cell? ⟨b, 0, none⟩ = some (.string nm)) (h1 : w.cell? ⟨b, 1, none⟩ = some (.slice A0 cs.length c0)) :
   Calls Tryz.prog 187 #[.pointer (some ⟨b, 0, none⟩), .int .i64 0, .int .i64 L] w (Ret (.int .i64 (l4C nm cs L)) w) := by
 have HV : Hid (l4C nm cs L = if vB nm cs = true then (if inB L 1 200 = true then 0 else 2) else 1) := Lib.hid rfl
 have HVB := Lib.hid (spec_okB b 0 A0 c0 nm cs w l1 l2 ha h0 h1)
 obtain ⟨v, hv⟩ : ∃ v, vB nm cs = v := ⟨_, rfl⟩
 obtain ⟨x, hx⟩ : ∃ x, inB L 1 200 = x := ⟨_, rfl⟩
 have HI := Lib.hid (fun w => RetP.bool (spec_in L 1 200 w) hx)
 have HJ := Lib.hid (fun w => spec_in 0 0 1000 w)
 rw [hv] at HVB
 rw [hv, hx] at HV
 clear hv hx ha h0 h1 l1 l2
 go_enter Tryz.func187, Tryz.ntmps187
 go_wp2_with fail
 refine (show Calls _ _ _ _ _ from HVB.out).mono ?_
 rintro e w1 ⟨rfl, hb⟩
 have HB := Lib.hid hb
 clear hb
 cases v
 · go_wp2_with fail
   go_ret
   exact ⟨ret_int (by rw [HV.out]; rfl), HB.out⟩
 go_wp2_with fail
 refine (show Calls _ _ _ _ _ from HJ.out _).mono ?_
 rintro e w2 ⟨rfl, rfl⟩
 go_wp2_with fail
 refine (show Calls _ _ _ _ _ from HI.out _).mono ?_
 rintro e w2 ⟨rfl, rfl⟩
 cases x
 · go_wp2_with fail
   go_ret
   exact ⟨ret_int (by rw [HV.out]; rfl), HB.out⟩
 · go_wp2_with fail
   go_ret
   exact ⟨ret_int (by rw [HV.out]; rfl), HB.out⟩
set_option maxHeartbeats 3200000 in
theorem spec_LayWall (A0 : Option Addr) (c0 : Nat) (nm : ByteArray) (cs : List CO) (L n : Int) (w : World) (l1 : nm.size ≤ maxLen) (l2 : LenCOS cs) (ha : RCOS w (.slice A0 cs.length c0) cs) :
   Calls Tryz.prog 130 #[.agg #[.string nm, .slice A0 cs.length c0], .int .i64 L, .int .i64 n] w (RetL (mLayWall nm cs L n).1 (mLayWall nm cs L n).2 w) := by
 have HA := Lib.hid ha; clear ha
 have HVB := Lib.hid (fun w2 h h0 h1 => spec_code4 w.heap.size A0 c0 nm cs L w2 l1 l2 h h0 h1)
 clear l1 l2
 obtain ⟨v, hv⟩ : ∃ v, vB nm cs = v := ⟨_, rfl⟩
 obtain ⟨x, hx⟩ : ∃ x, inB L 1 200 = x := ⟨_, rfl⟩
 obtain ⟨y, hy⟩ : ∃ y, inB n 1 40 = y := ⟨_, rfl⟩
 have HJ := Lib.hid (fun w => RetP.bool (spec_in n 1 40 w) hy)
 have HX := Lib.hid hx
 have HY := Lib.hid hy
 have HV := Lib.hid hv
 unfold l4C at HVB
 rw [hv, hx] at HVB
 clear hv hx hy
 go_enter Tryz.func130, Tryz.ntmps130
 go_wp2_with fail
 refine (show Calls _ _ _ _ _ from HVB.out _ (HA.out.alloc _) (by simp [go_sem]) (by simp [go_sem])).mono ?_
 rintro e w1 ⟨rfl, hb⟩
 have HB := Lib.hid (ext_trans (ext_alloc1 _ _) hb)
 have HP1 : Hid (w1.cell? ⟨w.heap.size, 1, none⟩ = some (.slice A0 cs.length c0)) := Lib.hid (cell_keep (by simp [go_sem]) hb)
 clear hb HVB
 cases v
 · have HM := Lib.hid (mLW_0 (L := L) (n := n) HV.out)
   dsimp only [Bool.false_eq_true, if_false]
   go_wp2_with fail
   go_ret2
   rw [HM.out]
   exact RetL.no HB.out
 cases x
 · have HM := Lib.hid (mLW_1 (n := n) HV.out (by rw [HX.out]; rfl))
   dsimp only [Bool.false_eq_true, if_false, if_true]
   go_wp2_with fail
   go_ret2
   rw [HM.out]
   exact RetL.no HB.out
 go_wp2_with fail
 refine (show Calls _ _ _ _ _ from HJ.out _).mono ?_
 rintro e w2 ⟨rfl, rfl⟩
 cases y
 · have HM := Lib.hid (mLW_1 (L := L) HV.out (by rw [HY.out]; simp))
   go_wp2_with fail
   go_ret2
   rw [HM.out]
   exact RetL.no HB.out
 have HM := Lib.hid (mLW_2 HV.out (by rw [HX.out, HY.out]; rfl))
 have hL := inB_iff.1 HX.out
 have hn := inB_iff.1 HY.out
 have hcl := vB_lens HV.out
 clear HX HY HJ
 obtain ⟨m, hm⟩ : ∃ m : Nat, n = m := ⟨n.toNat, by omega⟩
 subst hm
 rw [Int.toNat_natCast] at HM
 have hm1 : m ≤ 40 := by omega
 have HC := Lib.hid (fun (k : Nat) (hk : k ≤ 1000) w2 h h1 => spec_lay6 w.heap.size A0 c0 nm cs k L hk hL.1 hL.2 HV.out w2 h h1)
 clear hn
 go_wp2_with fail
 go_loopw [9, 10] (fun u i wr => ∃ (k g cq : Nat), k ≤ m ∧ i = .int .i64 k ∧ u = .slice (some ⟨g, 0, none⟩) k cq ∧ Hid (lwB cs L k = true) ∧ Hid (OStr wr w1.heap.size (.slice (some ⟨g, 0, none⟩) k cq) (lwL cs L k)) ∧ Hid (Below w1.heap.size w1 wr)) (fun _ i _ => m - (intOf i).toNat)
 case atStart => exact ⟨0, w1.heap.size, 0, Nat.zero_le _, rfl, rfl, Lib.hid rfl, Lib.hid (ostr_lit _ _ (Nat.le_refl _)), Lib.hid (ext_alloc1 _ _)⟩
 case round =>
   obtain ⟨k, g, cq, hk, rfl, rfl, HT, HO, HBB⟩ := hrel
   have e1 : (0 : Int) ≤ k := by omega
   by_cases hlt : k < m
   · have e2 : (k : Int) < m := by omega
     have HC2 := Lib.hid (HC.out k (by omega) wr (HA.out.ext (ext_trans HB.out HBB.out)) (cell_keep HP1.out HBB.out))
     have HLS := Lib.hid (lwL_succ cs L k)
     have HBS := Lib.hid (lwB_succ cs L k)
     have HNO : Hid (¬ (layT (gd cs (k % cs.length)) L).size ≤ 60 → lwB cs L m = false) := Lib.hid fun h => lwB_no hlt h
     have HKL : Hid ((lwL cs L k).length = k) := Lib.hid (lwL_len _ _ _)
     obtain ⟨ls, hls⟩ : ∃ ls, lwL cs L k = ls := ⟨_, rfl⟩
     rw [hls] at HO HLS HKL
     clear hls
     obtain ⟨t, ht⟩ : ∃ t, layT (gd cs (k % cs.length)) L = t := ⟨_, rfl⟩
     rw [ht] at HC2 HLS HBS HNO
     clear ht
     by_cases h60 : t.size ≤ 60
     · have h60' : ¬ (60 : Int) < t.size := by omega
       have HT3 : Hid (lwB cs L (k + 1) = true) := Lib.hid (by rw [HBS.out, HT.out, decide_eq_true h60]; rfl)
       go_wp2_with fail
       refine (show Calls _ _ _ _ _ from HC2.out).mono ?_
       rintro e w3 ⟨rfl, hb3⟩
       have HB3 := Lib.hid (ext_trans HBB.out hb3)
       have HO3 := Lib.hid (HO.out.ext hb3)
       have hsz3 := HB3.out.size
       clear hb3 h60
       go_wp2_with (at_builtin; refine wpList_append_str rfl _ _ rfl w1.heap.size (.slice (some ⟨g, 0, none⟩) k cq) ls t rfl rfl HO3.out (by rw [HKL.out]; omega) hsz3 ?_; intro g2 cap w4 hO4 hg4 hlt4)
       go_roundw
       case rel =>
         refine ⟨k + 1, g2, cap, by omega, by go_num, by rw [HKL.out], HT3, Lib.hid ?_, Lib.hid (Chg.ext HB3.out hg4 (fun j hj => (HO3.out.ge j hj).1))⟩
         rw [HLS.out]
         rw [HKL.out] at hO4
         exact hO4
       case measure => simp [intOf]; omega
     · have h60' : (60 : Int) < t.size := by omega
       have HF : Hid (mLayWall nm cs L m = ([], 5)) := Lib.hid (by rw [HM.out, HNO.out h60]; rfl)
       clear h60
       go_wp2_with fail
       refine (show Calls _ _ _ _ _ from HC2.out).mono ?_
       rintro e w3 ⟨rfl, hb3⟩
       have HB3 := Lib.hid (ext_trans HBB.out hb3)
       clear hb3
       go_wp2_with fail
       go_ret2
       rw [HF.out]
       exact RetL.no (ext_trans HB.out HB3.out)
   · obtain rfl : k = m := by omega
     have HF : Hid (mLayWall nm cs L k = (lwL cs L k, 0)) := Lib.hid (by rw [HM.out, if_pos HT.out])
     have HKL : Hid ((lwL cs L k).length = k) := Lib.hid (lwL_len _ _ _)
     go_wp2_with fail
     go_ret2
     rw [HF.out]
     refine ⟨some ⟨g, 0, none⟩, cq, by rw [HKL.out]; rfl, ?_, ext_trans HB.out HBB.out⟩
     rw [HKL.out]
     exact HO.out.mono HB.out.size
theorem lit_neC {x : ByteArray} {l : List UInt8} (h : x ≠ ⟨l.toArray⟩) : ¬ x.toList = l ∧ (x.toList == l) = false := by
 have h2 : ¬ x.toList = l := fun e => h (WideShapes.bytes_inj (by rw [← ByteArray.toList_eq, e]))
 exact ⟨h2, by rw [beq_eq_false_iff_ne]; exact h2⟩
structure DB (W : World) (B0 q : Nat) (d : DK) (A : Option Addr) (c : Nat) (B : Option Addr) (e : Nat) : Prop where
 cells : PDK W q d A c B e
 own : ODKp W B0 (.slice A d.cs.length c) (.slice B d.wall.length e) d
 fa : ∀ k, BI (.slice A d.cs.length c) k → k ≠ q
 fb : ∀ k, BI (.slice B d.wall.length e) k → k ≠ q
 fz : ∀ j, W.frozen? ⟨q, j, none⟩ = false
 ge : B0 ≤ q
theorem DB.lt {W : World} {B0 q : Nat} {d : DK} {A : Option Addr} {c : Nat} {B : Option Addr} {e : Nat} (h : DB W B0 q d A c B e) : q < W.heap.size := block_lt_of_cell h.cells.k0
theorem DB.ext {W W' : World} {B0 q : Nat} {d : DK} {A : Option Addr} {c : Nat} {B : Option Addr} {e : Nat} (h : DB W B0 q d A c B e) (hb : Below W.heap.size W W') : DB W' B0 q d A c B e :=
 ⟨h.cells.ext hb, h.own.ext hb, h.fa, h.fb, fun j => by rw [(bcell hb).2 q j h.lt]; exact h.fz j, h.ge⟩
theorem ostr_one (W : World) (base : Nat) (t : ByteArray) (h : base ≤ W.heap.size) : OStr (W.alloc (.cells #[.string t] 9)) base (.slice (some ⟨W.heap.size, 0, none⟩) 1 1) [t] :=
 World.ownsRow_lit _ #[.string t] 1 h (by simp [maxLen]) (by simp)
def ExP (r : DK × List ByteArray × Int) (W : World) (B0 q : Nat) : Ending → World → Prop := fun e W' => ∃ u, e = .returned (.tuple #[u, .int .i64 r.2.2]) ∧ Chg (fun k => k = q) W W' ∧
  (r.2.2 = 0 → ∃ A c B e', DB W' B0 q r.1 A c B e' ∧ OStr W' B0 u r.2.1 ∧ ∀ k, BI u k → k ≠ q ∧ ¬ BI (.slice A r.1.cs.length c) k ∧ ¬ BI (.slice B r.1.wall.length e') k)
theorem ExP.no {r : DK × List ByteArray × Int} {W W' : World} {B0 q : Nat} {u : Value} {k : Int} (hr : r.2.2 = k) (hk : k ≠ 0) (hb : Chg (fun k => k = q) W W') : ExP r W B0 q (.returned (.tuple #[u, .int .i64 k])) W' :=
 ⟨u, by rw [hr], hb, fun h => absurd (hr.symm.trans h) hk⟩
theorem ExP.one {r : DK × List ByteArray × Int} {W W2 : World} {B0 q : Nat} {d : DK} {t : ByteArray} {A : Option Addr} {c : Nat} {B : Option Addr} {e : Nat} (hr : r = (d, [t], 0)) (hD : DB W2 B0 q d A c B e) (hb : Chg (fun k => k = q) W W2) :
   ExP r W B0 q (.returned (.tuple #[.slice (some ⟨W2.heap.size, 0, none⟩) 1 1, .int .i64 0])) (W2.alloc (.cells #[.string t] 9)) := by
 subst hr
 have hl := hD.lt
 have hg := hD.ge
 refine ⟨_, rfl, hb.trans (Chg.of_below (ext_alloc1 _ _) _), fun _ => ⟨A, c, B, e, hD.ext (ext_alloc1 _ _), ostr_one W2 B0 t (by omega), fun k hk => ?_⟩⟩
 obtain rfl : W2.heap.size = k := Option.some.inj hk
 refine ⟨by omega, fun h => ?_, fun h => ?_⟩
 · have := (hD.own.1.ge _ h).2; omega
 · have := (hD.own.2.1.ge _ h).2; omega
theorem DB.putF {W : World} {B0 q : Nat} {d : DK} {A : Option Addr} {c : Nat} {B : Option Addr} {e : Nat} (h : DB W B0 q d A c B e) (f : FM) :
   DB ((((W.setCell ⟨q, 0, none⟩ (.int .i64 f.l)).setCell ⟨q, 1, none⟩ (.int .i64 f.w)).setCell ⟨q, 2, none⟩ (.int .i64 f.h)).setCell ⟨q, 3, none⟩ (.int .i64 f.j)) B0 q { d with f := f } A c B e := by
 have hc : Chg (fun k => k = q) W ((((W.setCell ⟨q, 0, none⟩ (.int .i64 f.l)).setCell ⟨q, 1, none⟩ (.int .i64 f.w)).setCell ⟨q, 2, none⟩ (.int .i64 f.h)).setCell ⟨q, 3, none⟩ (.int .i64 f.j)) := ((((Chg.setCell (S := fun k => k = q) _ (p := ⟨q, 0, none⟩) rfl _).trans (Chg.setCell (S := fun k => k = q) _ (p := ⟨q, 1, none⟩) rfl _)).trans (Chg.setCell (S := fun k => k = q) _ (p := ⟨q, 2, none⟩) rfl _)).trans (Chg.setCell (S := fun k => k = q) _ (p := ⟨q, 3, none⟩) rfl _))
 obtain ⟨k0, k1, k2, k3, k4, k5, k6, k7⟩ := h.cells
 have fz := h.fz
 refine ⟨⟨by simp [go_sem, k0], by simp [go_sem, k1], by simp [go_sem, k2], by simp [go_sem, k3], by simp [go_sem, k4], by simp [go_sem, k5], by simp [go_sem, k6], by simp [go_sem, k7]⟩, ⟨h.own.1.chg hc (fun k hk e => h.fa k hk e), h.own.2.1.chg hc (fun k hk e => h.fb k hk e), h.own.2.2⟩, h.fa, h.fb, fun j => by simpa using fz j, h.ge⟩
theorem chg_putF (W : World) (q : Nat) (x0 x1 x2 x3 : Value) : Chg (fun k => k = q) W ((((W.setCell ⟨q, 0, none⟩ x0).setCell ⟨q, 1, none⟩ x1).setCell ⟨q, 2, none⟩ x2).setCell ⟨q, 3, none⟩ x3) := ((((Chg.setCell (S := fun k => k = q) _ (p := ⟨q, 0, none⟩) rfl _).trans (Chg.setCell (S := fun k => k = q) _ (p := ⟨q, 1, none⟩) rfl _)).trans (Chg.setCell (S := fun k => k = q) _ (p := ⟨q, 2, none⟩) rfl _)).trans (Chg.setCell (S := fun k => k = q) _ (p := ⟨q, 3, none⟩) rfl _))
set_option maxHeartbeats 3200000 in
theorem impl_ex_format (w00 W : World) (q : Nat) (d : DK) (A : Option Addr) (c : Nat) (B : Option Addr) (e : Nat) (hD : DB W w00.heap.size q d A c B e) (hb0 : Below w00.heap.size w00 W) (Aw : Option Addr) (cw : Nat) (l : List ByteArray) (hw : RStr W (.slice Aw l.length cw) l) (hl : l.length = 2) (hx : gd l 0 = cmW .format) (hsz : ∀ k, k < l.length → (gd l k).size ≤ 1048576) (nv : Value) (hE : Env w00) :
   Calls Tryz.prog 44 #[.pointer (some ⟨q, 0, none⟩), .slice Aw l.length cw, nv] W (ExP (exFormat d (gd l 1)) W w00.heap.size q) := by
 have HD := Lib.hid hD
 have HE := Lib.hid (fun W' (h : Below w00.heap.size w00 W') => hE.ext h)
 have HB0 := Lib.hid hb0
 obtain ⟨ad, rfl, _, hc⟩ := hw.at (k := 0) (by omega)
 have w0 := hc 0 (by omega)
 rw [Addr.add_zero'] at w0
 have w1 := hc 1 (by omega)
 rw [addr_succ] at w1
 have hz1 := hsz 1 (by omega)
 obtain ⟨x0, hx0⟩ : ∃ x, gd l 0 = x := ⟨_, rfl⟩
 obtain ⟨t, ht⟩ : ∃ x, gd l 1 = x := ⟨_, rfl⟩
 rw [hx0] at w0 hx
 rw [ht] at w1 hz1
 rw [ht]
 have hx0 := hx
 have he : x0.toList = [102, 111, 114, 109, 97, 116] := by rw [hx0, ByteArray.toList_eq]; rfl
 have HRF := Lib.hid (fun w h => impl_ReadFormat t hz1 w h)
 clear hD hE hc ht hsz hx hw hx0 hz1 hb0
 have i0 : (0 : Int) < l.length := by omega
 have i1 : (1 : Int) < l.length := by omega
 go_enter Tryz.func44, Tryz.ntmps44
 go_wp2_with fail
 refine (show Calls _ _ _ _ _ from HRF.out _ (HE.out _ HB0.out)).mono ?_
 rintro e' W1 ⟨rfl, hb⟩
 have HB := Lib.hid hb
 clear hb HRF
 have HMF : Hid (exFormat d t = if rfB t = true then ({ d with f := rfV t }, [fmT (rfV t)], 0) else (d, [], 7)) := Lib.hid rfl
 have HVF : Hid (rfB t = true → vF (rfV t) = true) := Lib.hid (fun h => by
   unfold rfB at h
   cases hm : mRF t with
   | none => rw [hm] at h; cases h
   | some f => rw [(rf_some hm).1]; exact (mRF_some hm).1)
 obtain ⟨F, hF⟩ : ∃ F, rfV t = F := ⟨_, rfl⟩
 obtain ⟨b, hb⟩ : ∃ b, rfB t = b := ⟨_, rfl⟩
 rw [hF, hb] at HMF HVF
 rw [hF, hb]
 clear hF hb
 cases b with
 | false =>
   go_wp2_with fail
   go_ret2
   exact ExP.no (by rw [HMF.out]; rfl) (by decide) (Chg.of_below (ext_alloc HB.out _) _)
 | true =>
   have HFT := Lib.hid (fun w h => impl_FormatText F w h)
   have HMT : Hid (mFT F = fmT F) := Lib.hid (by unfold mFT; rw [HVF.out rfl]; rfl)
   rw [HMT.out] at HFT
   have HD1 := Lib.hid (HD.out.ext HB.out)
   have k0 := HD1.out.cells.k0
   have k1 := HD1.out.cells.k1
   have k2 := HD1.out.cells.k2
   have k3 := HD1.out.cells.k3
   have kf := HD1.out.fz
   have hq := HD.out.lt
   have hq1 : q < W1.heap.size := Nat.lt_of_lt_of_le hq HB.out.size
   have hqn : q ≠ W1.heap.size := by omega
   have hqn2 : W1.heap.size ≠ q := by omega
   have HDP := Lib.hid (HD1.out.putF F)
   have HCP := Lib.hid ((Chg.of_below HB.out (fun k => k = q)).trans (chg_putF W1 q (.int .i64 F.l) (.int .i64 F.w) (.int .i64 F.h) (.int .i64 F.j)))
   obtain ⟨W2, hW2⟩ : ∃ x, ((((W1.setCell ⟨q, 0, none⟩ (.int .i64 F.l)).setCell ⟨q, 1, none⟩ (.int .i64 F.w)).setCell ⟨q, 2, none⟩ (.int .i64 F.h)).setCell ⟨q, 3, none⟩ (.int .i64 F.j)) = x := ⟨_, rfl⟩
   have HB2 : Hid (Below w00.heap.size w00 W2) := Lib.hid (by rw [← hW2]; exact Chg.ext HB0.out HCP.out (fun k hk => by subst hk; exact HD.out.ge))
   have hsz2 : W2.heap.size = W1.heap.size := by rw [← hW2]; simp
   rw [hW2] at HDP HCP
   go_wp2_with fail
   clear hW2
   refine (show Calls _ _ _ _ _ from HFT.out _ (HE.out _ (ext_alloc HB2.out _)).lay).mono ?_
   rintro e' W3 ⟨rfl, hb⟩
   have HB3 := Lib.hid (ext_trans (ext_alloc1 _ _) hb)
   clear hb
   go_wp2_with fail
   go_ret2
   exact ExP.one (r := exFormat d t) HMF.out (HDP.out.ext HB3.out) (HCP.out.trans (Chg.of_below HB3.out _))
def shF (l : List Bool) : List UInt8 := l.map fun b => if b then 110 else 119
def shW (x : ByteArray) : ByteArray := match cmOf x with | some c => ⟨(shF (cmF c)).toArray⟩ | none => ⟨#[]⟩
set_option maxHeartbeats 3200000 in
theorem impl_deskShape (x : ByteArray) (w : World) : Calls Tryz.prog 37 #[.string x] w (RetP (.string (shW x)) w) := by
 by_cases h0 : x = ⟨#[98, 111, 110, 100]⟩
 · have he : x.toList = [98, 111, 110, 100] := by rw [h0, ByteArray.toList_eq]
   have hs : shW x = ⟨#[119]⟩ := by rw [h0]; decide
   rw [hs]
   clear hs h0
   go_enter Tryz.func37, Tryz.ntmps37
   go_wp2_with fail
   go_ret
   exact ⟨rfl, rfl⟩
 obtain ⟨p0, q0⟩ := lit_neC (x := x) (l := [98, 111, 110, 100]) h0
 by_cases h1 : x = ⟨#[102, 111, 114, 109, 97, 116]⟩
 · have he : x.toList = [102, 111, 114, 109, 97, 116] := by rw [h1, ByteArray.toList_eq]
   have hs : shW x = ⟨#[119]⟩ := by rw [h1]; decide
   rw [hs]
   clear hs h1
   go_enter Tryz.func37, Tryz.ntmps37
   go_wp2_with fail
   go_ret
   exact ⟨rfl, rfl⟩
 obtain ⟨p1, q1⟩ := lit_neC (x := x) (l := [102, 111, 114, 109, 97, 116]) h1
 by_cases h2 : x = ⟨#[99, 104, 101, 99, 107]⟩
 · have he : x.toList = [99, 104, 101, 99, 107] := by rw [h2, ByteArray.toList_eq]
   have hs : shW x = ⟨#[110]⟩ := by rw [h2]; decide
   rw [hs]
   clear hs h2
   go_enter Tryz.func37, Tryz.ntmps37
   go_wp2_with fail
   go_ret
   exact ⟨rfl, rfl⟩
 obtain ⟨p2, q2⟩ := lit_neC (x := x) (l := [99, 104, 101, 99, 107]) h2
 by_cases h3 : x = ⟨#[104, 101, 105, 103, 104, 116]⟩
 · have he : x.toList = [104, 101, 105, 103, 104, 116] := by rw [h3, ByteArray.toList_eq]
   have hs : shW x = ⟨#[110]⟩ := by rw [h3]; decide
   rw [hs]
   clear hs h3
   go_enter Tryz.func37, Tryz.ntmps37
   go_wp2_with fail
   go_ret
   exact ⟨rfl, rfl⟩
 obtain ⟨p3, q3⟩ := lit_neC (x := x) (l := [104, 101, 105, 103, 104, 116]) h3
 by_cases h4 : x = ⟨#[108, 101, 110, 103, 116, 104]⟩
 · have he : x.toList = [108, 101, 110, 103, 116, 104] := by rw [h4, ByteArray.toList_eq]
   have hs : shW x = ⟨#[110]⟩ := by rw [h4]; decide
   rw [hs]
   clear hs h4
   go_enter Tryz.func37, Tryz.ntmps37
   go_wp2_with fail
   go_ret
   exact ⟨rfl, rfl⟩
 obtain ⟨p4, q4⟩ := lit_neC (x := x) (l := [108, 101, 110, 103, 116, 104]) h4
 by_cases h5 : x = ⟨#[112, 97, 105, 114]⟩
 · have he : x.toList = [112, 97, 105, 114] := by rw [h5, ByteArray.toList_eq]
   have hs : shW x = ⟨#[110, 110]⟩ := by rw [h5]; decide
   rw [hs]
   clear hs h5
   go_enter Tryz.func37, Tryz.ntmps37
   go_wp2_with fail
   go_ret
   exact ⟨rfl, rfl⟩
 obtain ⟨p5, q5⟩ := lit_neC (x := x) (l := [112, 97, 105, 114]) h5
 by_cases h6 : x = ⟨#[119, 97, 108, 108]⟩
 · have he : x.toList = [119, 97, 108, 108] := by rw [h6, ByteArray.toList_eq]
   have hs : shW x = ⟨#[110, 110]⟩ := by rw [h6]; decide
   rw [hs]
   clear hs h6
   go_enter Tryz.func37, Tryz.ntmps37
   go_wp2_with fail
   go_ret
   exact ⟨rfl, rfl⟩
 obtain ⟨p6, q6⟩ := lit_neC (x := x) (l := [119, 97, 108, 108]) h6
 by_cases h7 : x = ⟨#[101, 110, 116, 101, 114]⟩
 · have he : x.toList = [101, 110, 116, 101, 114] := by rw [h7, ByteArray.toList_eq]
   have hs : shW x = ⟨#[110, 119, 110]⟩ := by rw [h7]; decide
   rw [hs]
   clear hs h7
   go_enter Tryz.func37, Tryz.ntmps37
   go_wp2_with fail
   go_ret
   exact ⟨rfl, rfl⟩
 obtain ⟨p7, q7⟩ := lit_neC (x := x) (l := [101, 110, 116, 101, 114]) h7
 have hs : shW x = ⟨#[]⟩ := by
   unfold shW
   cases hc : cmOf x with
   | none => rfl
   | some c =>
     have hx := cmOf_some hc
     cases c
     · exact absurd hx h0
     · exact absurd hx h2
     · rfl
     · exact absurd hx h7
     · exact absurd hx h1
     · exact absurd hx h3
     · exact absurd hx h4
     · rfl
     · exact absurd hx h5
     · rfl
     · exact absurd hx h6
 rw [hs]
 clear hs h0 h1 h2 h3 h4 h5 h6 h7
 go_enter Tryz.func37, Tryz.ntmps37
 go_wp2_with fail
 go_ret
 exact ⟨rfl, rfl⟩
end Go.Proofs.YtfgopboddkhckaaGreatDoor
namespace Go.Proofs.YtfgopboddkhckaaGreatDoor
open Go.ChangeShapes Go.WideShapes Go.ChangeAt Go.RowKit Go.Sort
set_option linter.unusedVariables false
set_option maxRecDepth 100000
attribute [local go_sem ↓] Go.wp_at_zero Go.wp_at_succ
def dwL : List ByteArray := [⟨#[98, 111, 110, 100]⟩, ⟨#[99, 104, 101, 99, 107]⟩, ⟨#[99, 111, 117, 110, 116]⟩, ⟨#[101, 110, 116, 101, 114]⟩, ⟨#[102, 111, 114, 109, 97, 116]⟩, ⟨#[104, 101, 105, 103, 104, 116]⟩, ⟨#[108, 101, 110, 103, 116, 104]⟩, ⟨#[108, 111, 103]⟩, ⟨#[112, 97, 105, 114]⟩, ⟨#[115, 104, 111, 119]⟩, ⟨#[119, 97, 108, 108]⟩]
def dwC : Array Value := (dwL.map Value.string).toArray
end Go.Proofs.YtfgopboddkhckaaGreatDoor
namespace Go.Proofs.YtfgopboddkhckaaGreatDoor
open Go.ChangeShapes Go.WideShapes Go.ChangeAt Go.RowKit Go.Sort Go.Joins
set_option linter.unusedVariables false
set_option maxRecDepth 100000
def InC (x : Int) : Prop := 0 ≤ x ∧ x ≤ 10
theorem inC_lgC (s : ByteArray) : InC (lgC s) := by unfold lgC InC; (repeat' split) <;> omega
theorem inC_add (s : ByteArray) (o : EN) : InC (mAddEntry s o).2 := by
 unfold mAddEntry
 split
 · unfold mAdded
   cases vEn o with
   | false => rw [cond_false]; unfold InC; decide
   | true => rw [cond_true]; (repeat' split) <;> (simp [InC])
 · exact inC_lgC s
theorem inC_fm (f : FM) (n a b : Int) : InC (fmC f n a b) := by unfold fmC InC; (repeat' split) <;> omega
theorem inC_bn (t : ByteArray) : InC (bnR t) := by unfold bnR InC; split <;> omega
theorem inC_wall (nm : ByteArray) (cs : List CO) (L n : Int) : InC (mLayWall nm cs L n).2 := by unfold mLayWall; (repeat' split) <;> (simp [InC])
theorem inC_wl (l : List ByteArray) (lap : Int) : InC (wlC l lap) := by unfold wlC InC; (repeat' split) <;> omega
theorem inC_clash (l : List ByteArray) (lap : Int) : InC (mClash l lap).2.2.2 := by
 unfold mClash
 split
 · split <;> (simp [InC])
 · exact inC_wl _ _
theorem inC_count (l : List ByteArray) : InC (mCount l).2 := by unfold mCount; split <;> (simp [InC])
theorem inC_pair (a b : Int) : InC (mPair a b).2.2 := by unfold mPair; (repeat' split) <;> (simp [InC])
theorem inC_len (f : FM) (n : Int) : InC (mLen f n).2.2 := by unfold mLen; split; (simp [InC]); exact inC_fm _ _ _ _
theorem inC_height (f : FM) (n : Int) : InC (mHeight f n).2 := by unfold mHeight; split; (simp [InC]); exact inC_fm _ _ _ _
theorem inC_0 : InC 0 := by unfold InC; decide
theorem exec_code (d : DK) (c : CM) (l : List ByteArray) : InC (mExec d c l).2.2 := by
 cases c <;> simp only [mExec]
 · unfold exBond; split; exact inC_0; exact inC_bn _
 · unfold exCheck; split; exact inC_0; split; exact inC_0; exact inC_clash _ _
 · unfold exCount; split; exact inC_0; exact inC_count _
 · unfold exEnter; split; exact inC_0; exact inC_add _ _
 · unfold exFormat; split; exact inC_0; (simp [InC])
 · unfold exHeight; split; exact inC_0; exact inC_height _ _
 · unfold exLength; split; exact inC_0; exact inC_len _ _
 · exact inC_0
 · unfold exPair; split; exact inC_0; exact inC_pair _ _
 · exact inC_0
 · unfold exWall; split; exact inC_0; exact inC_wall _ _ _ _
theorem con_dw (x : ByteArray) : Lib.containsS (dwL.take 11) x = (cmOf x).isSome := by
 have hh : ∀ y ∈ dwL, ∃ c ∈ cmL, cmW c = y := by decide
 have ht : dwL.take 11 = dwL := rfl
 rw [ht, Bool.eq_iff_iff, Lib.containsS_iff]
 constructor
 · intro hx
   obtain ⟨c, _, e⟩ := hh x hx
   cases hc : cmOf x with
   | none => exact absurd e.symm (cmOf_none hc c)
   | some c => rfl
 · intro h
   obtain ⟨c, hc⟩ := Option.isSome_iff_exists.1 h
   have := cmOf_some hc
   subst this
   cases c <;> simp [cmW, dwL]
theorem spb_pos (b : UInt8) (s : ByteArray) : 1 ≤ (spb b s).length := by
 unfold spb
 rw [List.length_map]
 rcases Nat.eq_zero_or_pos (splL b s.data.toList).length with h | h
 · exact absurd (List.length_eq_zero_iff.1 h) (splL_ne b _)
 · exact h
theorem mDo_none {d : DK} {line : ByteArray} (h : cmOf (gd (spb 32 line) 0) = none) : mDo d line = none := by unfold mDo; rw [h]
theorem mDo_len {d : DK} {line : ByteArray} {c : CM} (h : cmOf (gd (spb 32 line) 0) = some c) (hl : (spb 32 line).length ≠ (cmF c).length + 1) : mDo d line = none := by unfold mDo; rw [h]; exact if_neg hl
theorem mDo_some {d : DK} {line : ByteArray} {c : CM} (h : cmOf (gd (spb 32 line) 0) = some c) (hl : (spb 32 line).length = (cmF c).length + 1) : mDo d line = some (mGo d c (spb 32 line)) := by unfold mDo; rw [h]; exact if_pos hl
theorem mGo_no {d : DK} {c : CM} {l : List ByteArray} (h : okN c l (cmF c).length = false) : mGo d c l = (d, [erT 7]) := by unfold mGo; rw [h]; rfl
theorem mGo_er {d : DK} {c : CM} {l : List ByteArray} (h : okN c l (cmF c).length = true) (h2 : (mExec d c l).2.2 ≠ 0) : mGo d c l = (d, [erT (mExec d c l).2.2]) := by unfold mGo; rw [if_pos h, if_neg h2]
theorem mGo_ok {d : DK} {c : CM} {l : List ByteArray} (h : okN c l (cmF c).length = true) (h2 : (mExec d c l).2.2 = 0) : mGo d c l = ((mExec d c l).1, (mExec d c l).2.1) := by unfold mGo; rw [if_pos h, if_pos h2]
theorem mDesk_no {d : DK} {line : ByteArray} (h : vDK d = false) : mDesk d line = (default, [], 1) := by unfold mDesk; rw [h]; rfl
theorem mDesk_none {d : DK} {line : ByteArray} (h : vDK d = true) (h2 : mDo d line = none) : mDesk d line = (default, [], 7) := by unfold mDesk; rw [if_pos h, h2]
theorem mDesk_some {d : DK} {line : ByteArray} {p : DK × List ByteArray} (h : vDK d = true) (h2 : mDo d line = some p) : mDesk d line = (p.1, p.2, 0) := by unfold mDesk; rw [if_pos h, h2]
theorem shW_some {x : ByteArray} {c : CM} (h : cmOf x = some c) : shW x = ⟨(shF (cmF c)).toArray⟩ := by unfold shW; rw [h]
theorem shW_size (c : CM) : (⟨(shF (cmF c)).toArray⟩ : ByteArray).size = (cmF c).length ∧ (cmF c).length ≤ 3 := by cases c <;> decide
theorem shW_byte (c : CM) : ∀ k, k < (cmF c).length → byt ⟨(shF (cmF c)).toArray⟩ k = if gd (cmF c) k = true then 110 else 119 := by cases c <;> decide
theorem RStr.pre {w : World} {A : Option Addr} {n c m : Nat} {l : List ByteArray} (h : RStr w (.slice A n c) l) (hm : m ≤ l.length) : RStr w (.slice A m c) (l.take m) := by
 obtain ⟨_, A', c', hv, h2, h3, h4⟩ := h
 injection hv with e1 e2 e3
 subst e1
 subst e3
 have hl : (l.take m).length = m := by rw [List.length_take, Nat.min_eq_left hm]
 refine ⟨by simp, A, c, by rw [hl], by rw [hl]; omega, h3, fun h0 => ?_⟩
 rw [hl] at h0
 obtain ⟨ad, e, hlt, hc⟩ := h4 (by omega)
 refine ⟨ad, e, hlt, fun j u hu => hc j u ?_⟩
 rw [List.getElem?_map] at hu ⊢
 rw [List.getElem?_take] at hu
 split at hu
 · exact hu
 · simp at hu
/-! ### Lines with a newline behind each -/
def Ln (x : ByteArray) : Prop := x.size ≤ 24 ∧ (10 : UInt8) ∉ x.data.toList
instance (x : ByteArray) : Decidable (Ln x) := by unfold Ln; infer_instance
def nmL (c : CM) (l : List ByteArray) : Nat → List Int
 | 0 => []
 | k + 1 => if gd (cmF c) k = true then nmL c l k ++ [num1 l (k + 1)] else nmL c l k
theorem nmL_len (c : CM) (l : List ByteArray) : ∀ k, (nmL c l k).length ≤ k
 | 0 => Nat.le_refl _
 | k + 1 => by
   have := nmL_len c l k
   unfold nmL
   split
   · simp; omega
   · omega
end Go.Proofs.YtfgopboddkhckaaGreatDoor
