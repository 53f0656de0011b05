/-
  Parts of the proof: Cnt, Ex8.
-/
import Derived.Test.YtfgopboddkhckaaGreatDoorKw24
import Derived.Deep.OwnRows
namespace Go.Proofs.YtfgopboddkhckaaGreatDoor
open Go.ChangeShapes Go.WideShapes Go.ChangeAt Go.RowKit Go.Sort Go.Joins
set_option linter.unusedVariables false
set_option maxRecDepth 100000
def RetJ (M : List Int) (code : Int) (w : World) : Ending → World → Prop := fun e w' => ∃ A c, e = .returned (.tuple #[.slice A M.length c, .int .i64 code]) ∧ OI w' w.heap.size (.slice A M.length c) M ∧ Below w.heap.size w w'
theorem RetJ.no {w w' : World} {code : Int} (hb : Below w.heap.size w w') : RetJ [] code w (.returned (.tuple #[.slice none 0 0, .int .i64 code])) w' := ⟨_, _, rfl, World.ownsRow_nil _ _ _ _, hb⟩
theorem mCount_yes {l : List ByteArray} (h : vW l = true) : mCount l = (cntL l, 0) := by unfold mCount; rw [if_pos h]
theorem mCount_no {l : List ByteArray} (h : vW l = false) : mCount l = ([], 1) := by unfold mCount; rw [h]; rfl
def O5 (w : World) (base g : Nat) (a : List Int) : Prop := a.length = 5 ∧ w.ownsRow base 2 1 (.slice (some ⟨g, 0, none⟩) 5 5) 5 (a.map (Value.int .i64))
theorem O5.ext {w w' : World} {base g : Nat} {a : List Int} (h : O5 w base g a) (hb : Below w.heap.size w w') : O5 w' base g a := ⟨h.1, own_ext h.2 hb⟩
theorem O5.cell {w : World} {base g : Nat} {a : List Int} (h : O5 w base g a) {j : Nat} (hj : j < 5) : w.cell? ⟨g, j, none⟩ = some (.int .i64 (gi a j)) ∧ w.frozen? ⟨g, j, none⟩ = false := by
 refine ⟨?_, h.2.frozenAt j⟩
 rw [h.2.cellAt j (by omega), List.getElem?_map]
 unfold gi
 have := h.1
 rw [List.getD_eq_getElem?_getD, List.getElem?_eq_getElem (by omega)]
 rfl
theorem O5.set {w : World} {base g : Nat} {a : List Int} (h : O5 w base g a) {j : Nat} (x : Int) : O5 (w.setCell ⟨g, j, none⟩ (.int .i64 x)) base g (a.set j x) := by
 refine ⟨by rw [List.length_set]; exact h.1, ?_⟩
 have := (h.2.stored j (.int .i64 x)).1
 rwa [List.map_set]
theorem O5.new (w : World) (base : Nat) (hb : base ≤ w.heap.size) : O5 (w.alloc (.cells #[.int .i64 0, .int .i64 0, .int .i64 0, .int .i64 0, .int .i64 0] 2)) base w.heap.size [0, 0, 0, 0, 0] :=
 ⟨rfl, World.ownsRow_lit _ #[.int .i64 0, .int .i64 0, .int .i64 0, .int .i64 0, .int .i64 0] 5 hb (by simp [maxLen]) (by simp)⟩
theorem O5.oi {w : World} {base g : Nat} {a : List Int} (h : O5 w base g a) : OI w base (.slice (some ⟨g, 0, none⟩) 5 5) a := by
 unfold OI; rw [h.1]; exact h.2
theorem gi_cnt (l : List ByteArray) (k i : Nat) : gi (cntAt l k i) 0 = ctW l 83 k + ctS (gd l k) 83 i ∧ gi (cntAt l k i) 1 = ctW l 72 k + ctS (gd l k) 72 i ∧ gi (cntAt l k i) 2 = ctW l 84 k + ctS (gd l k) 84 i ∧ gi (cntAt l k i) 3 = ctW l 66 k + ctS (gd l k) 66 i ∧ gi (cntAt l k i) 4 = ctW l 67 k + ctS (gd l k) 67 i := ⟨rfl, rfl, rfl, rfl, rfl⟩
theorem cnt_bd {l : List ByteArray} (h : ∀ k, k < l.length → (gd l k).size ≤ 60) (h40 : l.length ≤ 40) {k i : Nat} (hk : k < l.length) (hi : i ≤ 60) (y : Int) : 0 ≤ ctW l y k + ctS (gd l k) y i ∧ ctW l y k + ctS (gd l k) y i ≤ 3000 := by
 have h1 := ctW_bd l h y k (by omega)
 have h2 := ctS_bd (gd l k) y i
 omega
theorem cnt_set {l : List ByteArray} {k i : Nat} {y : Int} (hy : byt (gd l k) i = y) (j : Nat) (h : (y = 83 ∧ j = 0) ∨ (y = 72 ∧ j = 1) ∨ (y = 84 ∧ j = 2) ∨ (y = 66 ∧ j = 3) ∨ (y = 67 ∧ j = 4)) :
   (cntAt l k i).set j (gi (cntAt l k i) j + 1) = cntAt l k (i + 1) := by
 rcases h with ⟨rfl, rfl⟩ | ⟨rfl, rfl⟩ | ⟨rfl, rfl⟩ | ⟨rfl, rfl⟩ | ⟨rfl, rfl⟩ <;> simp [cntAt, ctS, hy, gi, Int.add_assoc]
theorem make5 (w : World) : (Instr.makeSlice 55 (.int .i64 5) (.int .i64 5)).run Tryz.prog w = .ok (.slice (some ⟨w.heap.size, 0, none⟩) 5 5) (w.alloc (.cells #[.int .i64 0, .int .i64 0, .int .i64 0, .int .i64 0, .int .i64 0] 2)) := by
 have h := run_make_row' 55 2 (.int .i64 0) 8 Tryz.underlying55 info_int rfl .i64 .i64 5 (by omega) (by omega) w
 rw [show madeCells #[Value.int .i64 0] 5 = #[.int .i64 0, .int .i64 0, .int .i64 0, .int .i64 0, .int .i64 0] from by kernel_rfl] at h
 exact h
set_option maxHeartbeats 6400000 in
theorem impl_CountPieces (A : Option Addr) (c : Nat) (l : List ByteArray) (w : World) (hR : RStr w (.slice A l.length c) l) (hsm : SmWall l) :
   Calls Tryz.prog 94 #[.slice A l.length c] w (RetJ (mCount l).1 (mCount l).2 w) := by
 have HR := Lib.hid hR
 have HWC := Lib.hid (impl_okW A c l w hR hsm)
 clear hR hsm
 cases hv : vW l with
 | false =>
   have HM := Lib.hid (mCount_no hv)
   rw [hv] at HWC
   clear hv
   go_enter Tryz.func94, Tryz.ntmps94
   go_wp2_with fail
   refine (show Calls _ _ _ _ _ from HWC.out).mono ?_
   rintro e w1 ⟨rfl, hb⟩
   have HB1 := Lib.hid hb
   clear hb
   go_wp2_with fail
   go_ret2
   rw [HM.out]
   exact RetJ.no HB1.out
 | true =>
 have HM := Lib.hid (mCount_yes hv)
 have hmk := make5
 obtain ⟨v1, v2, v3⟩ := vW_parts hv
 have HV : Hid (∀ k, k < l.length → (gd l k).size ≤ 60 ∧ onl pcC (gd l k) (gd l k).size = true) := Lib.hid fun k hk => ⟨(vCo_parts (v3 k hk)).2.1, (vCo_parts (v3 k hk)).2.2.1⟩
 rw [hv] at HWC
 clear hv v3
 go_enter Tryz.func94, Tryz.ntmps94
 go_wp2_with fail
 refine (show Calls _ _ _ _ _ from HWC.out).mono ?_
 rintro e w1 ⟨rfl, hb⟩
 have HB1 := Lib.hid hb
 clear hb
 go_wp2_with fail
 obtain ⟨g, hg⟩ : ∃ g, w1.heap.size = g := ⟨_, rfl⟩
 have HG : Hid (w1.heap.size ≤ g) := Lib.hid (by omega)
 have HS0 : Hid (O5 (w1.alloc (.cells #[.int .i64 0, .int .i64 0, .int .i64 0, .int .i64 0, .int .i64 0] 2)) w1.heap.size g [0, 0, 0, 0, 0]) := Lib.hid (by rw [← hg]; exact O5.new _ _ (Nat.le_refl _))
 rw [hg]
 go_loopw [14] (fun i wr => ∃ k : Nat, k ≤ l.length ∧ i = .int .i64 (k : Int) ∧ Hid (O5 wr w1.heap.size g (cntAt l k 0)) ∧ Hid (Below w1.heap.size w1 wr)) (fun i _ => l.length - (intOf i).toNat)
 case atStart => exact ⟨0, Nat.zero_le _, rfl, Lib.hid HS0.out, Lib.hid (ext_alloc1 _ _)⟩
 case round =>
   obtain ⟨k, hk, rfl, HO, HB⟩ := hrel
   have e0 : (0 : Int) ≤ k := by omega
   by_cases hlt : k < l.length
   · have e1 : (k : Int) < l.length := by omega
     obtain ⟨ad, rfl, _, hc⟩ := (HR.out.ext (ext_trans HB1.out HB.out)).at hlt
     have p0 := hc k hlt
     clear hc
     have h60 := (HV.out k hlt).1
     have HPC := Lib.hid (HV.out k hlt).2
     have HBD2 : Hid (∀ (i : Nat), i ≤ 60 → ∀ y, 0 ≤ ctW l y k + ctS (gd l k) y i ∧ ctW l y k + ctS (gd l k) y i ≤ 3000) := Lib.hid fun i hi y => cnt_bd (fun k hk => (HV.out k hk).1) (by omega) hlt hi y
     have HNX := Lib.hid (cntAt_next l k)
     obtain ⟨s, hs⟩ : ∃ s, gd l k = s := ⟨_, rfl⟩
     have HS := Lib.hid hs
     rw [hs] at p0 h60 HPC HNX
     clear hs
     go_wp2_with fail
     go_loopw [20] (fun i wr => ∃ j : Nat, j ≤ s.size ∧ i = .int .i64 (j : Int) ∧ Hid (O5 wr w1.heap.size g (cntAt l k j)) ∧ Hid (Below w1.heap.size w1 wr)) (fun i _ => s.size - (intOf i).toNat)
     case atStart => exact ⟨0, Nat.zero_le _, rfl, HO, HB⟩
     case round =>
       clear HO HB p0
       obtain ⟨i, hi, rfl, HO, HBB⟩ := hrel
       have i0 : (0 : Int) ≤ i := by omega
       by_cases hil : i < s.size
       · have i1 : (i : Int) < s.size := by omega
         have hy := byt_eq s i hil
         have HPY : Hid (pcC (byt s i) = true) := Lib.hid (onl_at HPC.out hil)
         have HBD : Hid (∀ m, m < 5 → 0 ≤ gi (cntAt l k i) m ∧ gi (cntAt l k i) m ≤ 3000) := Lib.hid (by
           have hb := HBD2.out i (by omega)
           obtain ⟨e0, e1, e2, e3, e4⟩ := gi_cnt l k i
           intro m hm
           rcases (show m = 0 ∨ m = 1 ∨ m = 2 ∨ m = 3 ∨ m = 4 by omega) with rfl | rfl | rfl | rfl | rfl
           · rw [e0]; exact hb 83
           · rw [e1]; exact hb 72
           · rw [e2]; exact hb 84
           · rw [e3]; exact hb 66
           · rw [e4]; exact hb 67)
         obtain ⟨y, hyy⟩ : ∃ y, byt s i = y := ⟨_, rfl⟩
         have HY : Hid (byt (gd l k) i = y) := Lib.hid (by rw [HS.out]; exact hyy)
         rw [hyy] at hy HPY
         clear hyy
         rcases pc_cases y with rfl | rfl | rfl | rfl | rfl | ⟨h1, h2, h3, h4, h5⟩
         · skip
           have HSET := Lib.hid (cnt_set (l := l) (k := k) (i := i) HY.out 0 (by simp))
           obtain ⟨q0, f0⟩ := HO.out.cell (j := 0) (by omega)
           have hb5 := HBD.out 0 (by omega)
           have HO2 := Lib.hid (fun x => HO.out.set (j := 0) x)
           have HBX := Lib.hid (fun x => ext_set HBB.out (p := ⟨g, 0, none⟩) HG.out (.int .i64 x))
           obtain ⟨a, ha⟩ : ∃ a, gi (cntAt l k i) 0 = a := ⟨_, rfl⟩
           rw [ha] at q0 HSET hb5
           have hz : Lib.indexByte (ByteArray.mk #[83, 72, 84, 66, 67]).data.toList (Int.toNat (83 : Int)).toUInt8 = 0 := by decide +kernel
           have HC := Lib.hid (fun w => Tryz.strings_IndexByte (ByteArray.mk #[83, 72, 84, 66, 67]) 83 w)
           rw [hz] at HC
           clear ha hz
           go_wp2_with fail
           refine (show Calls _ _ _ _ _ from HC.out _).mono ?_
           rintro e w3 ⟨rfl, rfl⟩
           go_wp2_with fail
           go_roundw
           case rel => exact ⟨i + 1, by omega, by go_num, Lib.hid (by rw [← HSET.out]; exact HO2.out _), Lib.hid (HBX.out _)⟩
           case measure => simp [intOf]; omega
         · skip
           have HSET := Lib.hid (cnt_set (l := l) (k := k) (i := i) HY.out 2 (by simp))
           obtain ⟨q0, f0⟩ := HO.out.cell (j := 2) (by omega)
           have hb5 := HBD.out 2 (by omega)
           have HO2 := Lib.hid (fun x => HO.out.set (j := 2) x)
           have HBX := Lib.hid (fun x => ext_set HBB.out (p := ⟨g, 2, none⟩) HG.out (.int .i64 x))
           obtain ⟨a, ha⟩ : ∃ a, gi (cntAt l k i) 2 = a := ⟨_, rfl⟩
           rw [ha] at q0 HSET hb5
           have hz : Lib.indexByte (ByteArray.mk #[83, 72, 84, 66, 67]).data.toList (Int.toNat (84 : Int)).toUInt8 = 2 := by decide +kernel
           have HC := Lib.hid (fun w => Tryz.strings_IndexByte (ByteArray.mk #[83, 72, 84, 66, 67]) 84 w)
           rw [hz] at HC
           clear ha hz
           go_wp2_with fail
           refine (show Calls _ _ _ _ _ from HC.out _).mono ?_
           rintro e w3 ⟨rfl, rfl⟩
           go_wp2_with fail
           go_roundw
           case rel => exact ⟨i + 1, by omega, by go_num, Lib.hid (by rw [← HSET.out]; exact HO2.out _), Lib.hid (HBX.out _)⟩
           case measure => simp [intOf]; omega
         · skip
           have HSET := Lib.hid (cnt_set (l := l) (k := k) (i := i) HY.out 1 (by simp))
           obtain ⟨q0, f0⟩ := HO.out.cell (j := 1) (by omega)
           have hb5 := HBD.out 1 (by omega)
           have HO2 := Lib.hid (fun x => HO.out.set (j := 1) x)
           have HBX := Lib.hid (fun x => ext_set HBB.out (p := ⟨g, 1, none⟩) HG.out (.int .i64 x))
           obtain ⟨a, ha⟩ : ∃ a, gi (cntAt l k i) 1 = a := ⟨_, rfl⟩
           rw [ha] at q0 HSET hb5
           have hz : Lib.indexByte (ByteArray.mk #[83, 72, 84, 66, 67]).data.toList (Int.toNat (72 : Int)).toUInt8 = 1 := by decide +kernel
           have HC := Lib.hid (fun w => Tryz.strings_IndexByte (ByteArray.mk #[83, 72, 84, 66, 67]) 72 w)
           rw [hz] at HC
           clear ha hz
           go_wp2_with fail
           refine (show Calls _ _ _ _ _ from HC.out _).mono ?_
           rintro e w3 ⟨rfl, rfl⟩
           go_wp2_with fail
           go_roundw
           case rel => exact ⟨i + 1, by omega, by go_num, Lib.hid (by rw [← HSET.out]; exact HO2.out _), Lib.hid (HBX.out _)⟩
           case measure => simp [intOf]; omega
         · skip
           have HSET := Lib.hid (cnt_set (l := l) (k := k) (i := i) HY.out 3 (by simp))
           obtain ⟨q0, f0⟩ := HO.out.cell (j := 3) (by omega)
           have hb5 := HBD.out 3 (by omega)
           have HO2 := Lib.hid (fun x => HO.out.set (j := 3) x)
           have HBX := Lib.hid (fun x => ext_set HBB.out (p := ⟨g, 3, none⟩) HG.out (.int .i64 x))
           obtain ⟨a, ha⟩ : ∃ a, gi (cntAt l k i) 3 = a := ⟨_, rfl⟩
           rw [ha] at q0 HSET hb5
           have hz : Lib.indexByte (ByteArray.mk #[83, 72, 84, 66, 67]).data.toList (Int.toNat (66 : Int)).toUInt8 = 3 := by decide +kernel
           have HC := Lib.hid (fun w => Tryz.strings_IndexByte (ByteArray.mk #[83, 72, 84, 66, 67]) 66 w)
           rw [hz] at HC
           clear ha hz
           go_wp2_with fail
           refine (show Calls _ _ _ _ _ from HC.out _).mono ?_
           rintro e w3 ⟨rfl, rfl⟩
           go_wp2_with fail
           go_roundw
           case rel => exact ⟨i + 1, by omega, by go_num, Lib.hid (by rw [← HSET.out]; exact HO2.out _), Lib.hid (HBX.out _)⟩
           case measure => simp [intOf]; omega
         · skip
           have HSET := Lib.hid (cnt_set (l := l) (k := k) (i := i) HY.out 4 (by simp))
           obtain ⟨q0, f0⟩ := HO.out.cell (j := 4) (by omega)
           have hb5 := HBD.out 4 (by omega)
           have HO2 := Lib.hid (fun x => HO.out.set (j := 4) x)
           have HBX := Lib.hid (fun x => ext_set HBB.out (p := ⟨g, 4, none⟩) HG.out (.int .i64 x))
           obtain ⟨a, ha⟩ : ∃ a, gi (cntAt l k i) 4 = a := ⟨_, rfl⟩
           rw [ha] at q0 HSET hb5
           have hz : Lib.indexByte (ByteArray.mk #[83, 72, 84, 66, 67]).data.toList (Int.toNat (67 : Int)).toUInt8 = 4 := by decide +kernel
           have HC := Lib.hid (fun w => Tryz.strings_IndexByte (ByteArray.mk #[83, 72, 84, 66, 67]) 67 w)
           rw [hz] at HC
           clear ha hz
           go_wp2_with fail
           refine (show Calls _ _ _ _ _ from HC.out _).mono ?_
           rintro e w3 ⟨rfl, rfl⟩
           go_wp2_with fail
           go_roundw
           case rel => exact ⟨i + 1, by omega, by go_num, Lib.hid (by rw [← HSET.out]; exact HO2.out _), Lib.hid (HBX.out _)⟩
           case measure => simp [intOf]; omega
         · exfalso
           have := HPY.out
           unfold pcC at this
           simp [h1, h2, h3, h4, h5] at this
       · obtain rfl : i = s.size := by omega
         have HNN : Hid (O5 wr w1.heap.size g (cntAt l (k + 1) 0)) := Lib.hid (by rw [← HNX.out]; exact HO.out)
         have i1 : ¬ (s.size : Int) < s.size := by omega
         go_wp2_with fail
         go_roundw
         case rel => exact ⟨k + 1, by omega, by go_num, HNN, HBB⟩
         case measure => simp [intOf]; omega
   · obtain rfl : k = l.length := by omega
     have e1 : ¬ (l.length : Int) < l.length := by omega
     have HE : Hid (cntAt l l.length 0 = cntL l) := Lib.hid (by unfold cntAt cntL; simp [ctS])
     go_wp2_with fail
     go_ret2
     rw [HM.out]
     refine ⟨some ⟨g, 0, none⟩, 5, rfl, ?_, ext_trans HB1.out HB.out⟩
     have h := HO.out.oi
     rw [HE.out] at h
     exact h.mono HB1.out.size
def mixJ (b a : List Int) (j : Nat) : List Int := b.take j ++ a.drop j
theorem spec_order (w : World) : Calls Tryz.prog 177 #[] w (RetP (.string (ByteArray.mk #[83, 72, 84, 66, 67])) w) := by
 go_enter Tryz.func177, Tryz.ntmps177
 go_wp2_with fail
 go_ret
 exact ⟨rfl, rfl⟩
set_option maxHeartbeats 6400000 in
theorem spec_CountPieces (A : Option Addr) (c : Nat) (l : List ByteArray) (w : World) (hR : RStr w (.slice A l.length c) l) (hsm : SmWall l) :
   Calls Tryz.prog 118 #[.slice A l.length c] w (RetJ (mCount l).1 (mCount l).2 w) := by
 have HR := Lib.hid hR
 have HWC := Lib.hid (spec_okW A c l w hR hsm)
 clear hR hsm
 cases hv : vW l with
 | false =>
   have HM := Lib.hid (mCount_no hv)
   rw [hv] at HWC
   clear hv
   go_enter Tryz.func118, Tryz.ntmps118
   go_wp2_with fail
   refine (show Calls _ _ _ _ _ from HWC.out).mono ?_
   rintro e w1 ⟨rfl, hb⟩
   have HB1 := Lib.hid hb
   clear hb
   go_wp2_with fail
   go_ret2
   rw [HM.out]
   exact RetJ.no HB1.out
 | true =>
 have HM := Lib.hid (mCount_yes hv)
 have hmk := make5
 obtain ⟨v1, v2, v3⟩ := vW_parts hv
 have HV : Hid (∀ k, k < l.length → (gd l k).size ≤ 60) := Lib.hid fun k hk => (vCo_parts (v3 k hk)).2.1
 rw [hv] at HWC
 clear hv v3
 go_enter Tryz.func118, Tryz.ntmps118
 go_wp2_with fail
 refine (show Calls _ _ _ _ _ from HWC.out).mono ?_
 rintro e w1 ⟨rfl, hb⟩
 have HB1 := Lib.hid hb
 clear hb
 go_wp2_with fail
 refine (spec_order _).mono ?_
 rintro e w1' ⟨rfl, rfl⟩
 go_wp2_with fail
 obtain ⟨g, hg⟩ : ∃ g, w1.heap.size = g := ⟨_, rfl⟩
 have HG : Hid (w1.heap.size ≤ g) := Lib.hid (by omega)
 have HS0 : Hid (O5 (w1.alloc (.cells #[.int .i64 0, .int .i64 0, .int .i64 0, .int .i64 0, .int .i64 0] 2)) w1.heap.size g [0, 0, 0, 0, 0]) := Lib.hid (by rw [← hg]; exact O5.new _ _ (Nat.le_refl _))
 rw [hg]
 go_loopw [6] (fun i wr => ∃ k : Nat, k ≤ l.length ∧ i = .int .i64 (k : Int) ∧ Hid (O5 wr w1.heap.size g (cntAt l k 0)) ∧ Hid (Below w1.heap.size w1 wr)) (fun i _ => l.length - (intOf i).toNat)
 case atStart => exact ⟨0, Nat.zero_le _, rfl, Lib.hid HS0.out, Lib.hid (ext_alloc1 _ _)⟩
 case round =>
   obtain ⟨k, hk, rfl, HO, HB⟩ := hrel
   have e0 : (0 : Int) ≤ k := by omega
   by_cases hlt : k < l.length
   · have e1 : (k : Int) < l.length := by omega
     obtain ⟨ad, rfl, _, hc⟩ := (HR.out.ext HB1.out).at hlt
     have HP0 : Hid (∀ W, Below w1.heap.size w1 W → W.cell? (ad.add k) = some (.string (gd l k))) := Lib.hid fun W hW => cell_keep (hc k hlt) hW
     clear hc
     have h60 := HV.out k hlt
     have HBD2 : Hid (∀ (i : Nat), i ≤ 60 → ∀ y, 0 ≤ ctW l y k + ctS (gd l k) y i ∧ ctW l y k + ctS (gd l k) y i ≤ 3000) := Lib.hid fun i hi y => cnt_bd (fun k hk => HV.out k hk) (by omega) hlt hi y
     have HNX := Lib.hid (cntAt_next l k)
     obtain ⟨s, hs⟩ : ∃ s, gd l k = s := ⟨_, rfl⟩
     have HS := Lib.hid hs
     rw [hs] at HP0 h60 HNX
     clear hs
     go_wp2_with fail
     go_loopw [7] (fun i wr2 => ∃ j : Nat, j ≤ s.size ∧ i = .int .i64 (j : Int) ∧ Hid (O5 wr2 w1.heap.size g (cntAt l k j)) ∧ Hid (Below w1.heap.size w1 wr2)) (fun i _ => s.size - (intOf i).toNat)
     case atStart => exact ⟨0, Nat.zero_le _, rfl, HO, HB⟩
     case round =>
       clear HO HB
       obtain ⟨i, hi, rfl, HO, HBB⟩ := hrel
       have i0 : (0 : Int) ≤ i := by omega
       have p0 := HP0.out _ HBB.out
       by_cases hil : i < s.size
       · have i1 : (i : Int) < s.size := by omega
         have hy := byt_eq s i hil
         have HBD : Hid (∀ m, m < 5 → 0 ≤ gi (cntAt l k i) m ∧ gi (cntAt l k i) m ≤ 3000) := Lib.hid (by
           have hb := HBD2.out i (by omega)
           obtain ⟨e0, e1, e2, e3, e4⟩ := gi_cnt l k i
           intro m hm
           rcases (show m = 0 ∨ m = 1 ∨ m = 2 ∨ m = 3 ∨ m = 4 by omega) with rfl | rfl | rfl | rfl | rfl
           · rw [e0]; exact hb 83
           · rw [e1]; exact hb 72
           · rw [e2]; exact hb 84
           · rw [e3]; exact hb 66
           · rw [e4]; exact hb 67)
         obtain ⟨y, hyy⟩ : ∃ y, byt s i = y := ⟨_, rfl⟩
         have HY : Hid (byt (gd l k) i = y) := Lib.hid (by rw [HS.out]; exact hyy)
         rw [hyy] at hy
         clear hyy
         go_wp2_with fail
         clear p0
         go_loopw [8] (fun i' wr3 => ∃ j : Nat, j ≤ 5 ∧ i' = .int .i64 (j : Int) ∧ Hid (O5 wr3 w1.heap.size g (mixJ (cntAt l k (i + 1)) (cntAt l k i) j)) ∧ Hid (Below w1.heap.size w1 wr3)) (fun i' _ => 5 - (intOf i').toNat)
         case atStart => exact ⟨0, Nat.zero_le _, rfl, HO, HBB⟩
         case round =>
           clear HO HBB
           obtain ⟨j, hj, rfl, HO3, HB3⟩ := hrel
           rcases (show j = 0 ∨ j = 1 ∨ j = 2 ∨ j = 3 ∨ j = 4 ∨ j = 5 by omega) with rfl | rfl | rfl | rfl | rfl | rfl
           · skip
             have hb5 := HBD.out 0 (by omega)
             have q0 := fun d os => cell_regrown (HP0.out _ HB3.out) d os
             by_cases hyl : y = 83
             · have HSET : Hid ((mixJ (cntAt l k (i + 1)) (cntAt l k i) 0).set 0 (gi (cntAt l k i) 0 + 1) = mixJ (cntAt l k (i + 1)) (cntAt l k i) (0 + 1)) := Lib.hid (by
                 have := HY.out
                 rw [hyl] at this
                 simp [mixJ, cntAt, ctS, this, gi, Int.add_assoc])
               have HAJ : Hid (gi (mixJ (cntAt l k (i + 1)) (cntAt l k i) 0) 0 = gi (cntAt l k i) 0) := Lib.hid rfl
               subst hyl
               obtain ⟨a, ha⟩ : ∃ a, gi (cntAt l k i) 0 = a := ⟨_, rfl⟩
               rw [ha] at HSET hb5 HAJ
               clear ha
               go_wp2_with fail
               refine wp_region_quiet_below (by kernel_rfl) (by kernel_rfl) ?_
               repeat (go_big_quiet_step (fail))
               refine wpQuiet_nil ?_
               intro w' hw'
               obtain ⟨p, rfl⟩ := hw'
               have HO4 := Lib.hid (HO3.out.ext (below_regrown _ p.d p.os))
               have HB4 := Lib.hid (ext_trans HB3.out (below_regrown _ p.d p.os))
               have HBX := Lib.hid (fun x => ext_set HB4.out (p := ⟨g, 0, none⟩) HG.out (.int .i64 x))
               obtain ⟨q1, f1⟩ := HO4.out.cell (j := 0) (by omega)
               rw [HAJ.out] at q1
               clear q0
               generalize grow (redrawn wr p.d) p.os = w5 at *
               go_wp2_with fail
               go_roundw
               case rel => exact ⟨0 + 1, by omega, by go_num, Lib.hid (by rw [← HSET.out]; exact HO4.out.set _), Lib.hid (HBX.out _)⟩
               case measure => simp [intOf]
             · have HSET : Hid (mixJ (cntAt l k (i + 1)) (cntAt l k i) 0 = mixJ (cntAt l k (i + 1)) (cntAt l k i) (0 + 1)) := Lib.hid (by
                 have := HY.out
                 simp [mixJ, cntAt, ctS, this, hyl])
               have hyl2 : ((((ByteArray.mk #[83, 72, 84, 66, 67])[0]'(by decide)).toNat : Int) == y) = false := beq_eq_false_iff_ne.2 (fun e => hyl e.symm)
               have hyl3 : (y == (83 : Int)) = false := beq_eq_false_iff_ne.2 hyl
               clear hyl hb5
               go_wp2_with fail
               refine wp_region_quiet_below (by kernel_rfl) (by kernel_rfl) ?_
               repeat (go_big_quiet_step (fail))
               refine wpQuiet_nil ?_
               intro w' hw'
               obtain ⟨p, rfl⟩ := hw'
               have HO4 := Lib.hid (HO3.out.ext (below_regrown _ p.d p.os))
               have HB4 := Lib.hid (ext_trans HB3.out (below_regrown _ p.d p.os))
               clear q0
               go_wp2_with fail
               go_roundw
               case rel => exact ⟨0 + 1, by omega, by go_num, Lib.hid (by rw [← HSET.out]; exact HO4.out), HB4⟩
               case measure => simp [intOf]
           · skip
             have hb5 := HBD.out 1 (by omega)
             have q0 := fun d os => cell_regrown (HP0.out _ HB3.out) d os
             by_cases hyl : y = 72
             · have HSET : Hid ((mixJ (cntAt l k (i + 1)) (cntAt l k i) 1).set 1 (gi (cntAt l k i) 1 + 1) = mixJ (cntAt l k (i + 1)) (cntAt l k i) (1 + 1)) := Lib.hid (by
                 have := HY.out
                 rw [hyl] at this
                 simp [mixJ, cntAt, ctS, this, gi, Int.add_assoc])
               have HAJ : Hid (gi (mixJ (cntAt l k (i + 1)) (cntAt l k i) 1) 1 = gi (cntAt l k i) 1) := Lib.hid rfl
               subst hyl
               obtain ⟨a, ha⟩ : ∃ a, gi (cntAt l k i) 1 = a := ⟨_, rfl⟩
               rw [ha] at HSET hb5 HAJ
               clear ha
               go_wp2_with fail
               refine wp_region_quiet_below (by kernel_rfl) (by kernel_rfl) ?_
               repeat (go_big_quiet_step (fail))
               refine wpQuiet_nil ?_
               intro w' hw'
               obtain ⟨p, rfl⟩ := hw'
               have HO4 := Lib.hid (HO3.out.ext (below_regrown _ p.d p.os))
               have HB4 := Lib.hid (ext_trans HB3.out (below_regrown _ p.d p.os))
               have HBX := Lib.hid (fun x => ext_set HB4.out (p := ⟨g, 1, none⟩) HG.out (.int .i64 x))
               obtain ⟨q1, f1⟩ := HO4.out.cell (j := 1) (by omega)
               rw [HAJ.out] at q1
               clear q0
               generalize grow (redrawn wr p.d) p.os = w5 at *
               go_wp2_with fail
               go_roundw
               case rel => exact ⟨1 + 1, by omega, by go_num, Lib.hid (by rw [← HSET.out]; exact HO4.out.set _), Lib.hid (HBX.out _)⟩
               case measure => simp [intOf]
             · have HSET : Hid (mixJ (cntAt l k (i + 1)) (cntAt l k i) 1 = mixJ (cntAt l k (i + 1)) (cntAt l k i) (1 + 1)) := Lib.hid (by
                 have := HY.out
                 simp [mixJ, cntAt, ctS, this, hyl])
               have hyl2 : ((((ByteArray.mk #[83, 72, 84, 66, 67])[1]'(by decide)).toNat : Int) == y) = false := beq_eq_false_iff_ne.2 (fun e => hyl e.symm)
               have hyl3 : (y == (72 : Int)) = false := beq_eq_false_iff_ne.2 hyl
               clear hyl hb5
               go_wp2_with fail
               refine wp_region_quiet_below (by kernel_rfl) (by kernel_rfl) ?_
               repeat (go_big_quiet_step (fail))
               refine wpQuiet_nil ?_
               intro w' hw'
               obtain ⟨p, rfl⟩ := hw'
               have HO4 := Lib.hid (HO3.out.ext (below_regrown _ p.d p.os))
               have HB4 := Lib.hid (ext_trans HB3.out (below_regrown _ p.d p.os))
               clear q0
               go_wp2_with fail
               go_roundw
               case rel => exact ⟨1 + 1, by omega, by go_num, Lib.hid (by rw [← HSET.out]; exact HO4.out), HB4⟩
               case measure => simp [intOf]
           · skip
             have hb5 := HBD.out 2 (by omega)
             have q0 := fun d os => cell_regrown (HP0.out _ HB3.out) d os
             by_cases hyl : y = 84
             · have HSET : Hid ((mixJ (cntAt l k (i + 1)) (cntAt l k i) 2).set 2 (gi (cntAt l k i) 2 + 1) = mixJ (cntAt l k (i + 1)) (cntAt l k i) (2 + 1)) := Lib.hid (by
                 have := HY.out
                 rw [hyl] at this
                 simp [mixJ, cntAt, ctS, this, gi, Int.add_assoc])
               have HAJ : Hid (gi (mixJ (cntAt l k (i + 1)) (cntAt l k i) 2) 2 = gi (cntAt l k i) 2) := Lib.hid rfl
               subst hyl
               obtain ⟨a, ha⟩ : ∃ a, gi (cntAt l k i) 2 = a := ⟨_, rfl⟩
               rw [ha] at HSET hb5 HAJ
               clear ha
               go_wp2_with fail
               refine wp_region_quiet_below (by kernel_rfl) (by kernel_rfl) ?_
               repeat (go_big_quiet_step (fail))
               refine wpQuiet_nil ?_
               intro w' hw'
               obtain ⟨p, rfl⟩ := hw'
               have HO4 := Lib.hid (HO3.out.ext (below_regrown _ p.d p.os))
               have HB4 := Lib.hid (ext_trans HB3.out (below_regrown _ p.d p.os))
               have HBX := Lib.hid (fun x => ext_set HB4.out (p := ⟨g, 2, none⟩) HG.out (.int .i64 x))
               obtain ⟨q1, f1⟩ := HO4.out.cell (j := 2) (by omega)
               rw [HAJ.out] at q1
               clear q0
               generalize grow (redrawn wr p.d) p.os = w5 at *
               go_wp2_with fail
               go_roundw
               case rel => exact ⟨2 + 1, by omega, by go_num, Lib.hid (by rw [← HSET.out]; exact HO4.out.set _), Lib.hid (HBX.out _)⟩
               case measure => simp [intOf]
             · have HSET : Hid (mixJ (cntAt l k (i + 1)) (cntAt l k i) 2 = mixJ (cntAt l k (i + 1)) (cntAt l k i) (2 + 1)) := Lib.hid (by
                 have := HY.out
                 simp [mixJ, cntAt, ctS, this, hyl])
               have hyl2 : ((((ByteArray.mk #[83, 72, 84, 66, 67])[2]'(by decide)).toNat : Int) == y) = false := beq_eq_false_iff_ne.2 (fun e => hyl e.symm)
               have hyl3 : (y == (84 : Int)) = false := beq_eq_false_iff_ne.2 hyl
               clear hyl hb5
               go_wp2_with fail
               refine wp_region_quiet_below (by kernel_rfl) (by kernel_rfl) ?_
               repeat (go_big_quiet_step (fail))
               refine wpQuiet_nil ?_
               intro w' hw'
               obtain ⟨p, rfl⟩ := hw'
               have HO4 := Lib.hid (HO3.out.ext (below_regrown _ p.d p.os))
               have HB4 := Lib.hid (ext_trans HB3.out (below_regrown _ p.d p.os))
               clear q0
               go_wp2_with fail
               go_roundw
               case rel => exact ⟨2 + 1, by omega, by go_num, Lib.hid (by rw [← HSET.out]; exact HO4.out), HB4⟩
               case measure => simp [intOf]
           · skip
             have hb5 := HBD.out 3 (by omega)
             have q0 := fun d os => cell_regrown (HP0.out _ HB3.out) d os
             by_cases hyl : y = 66
             · have HSET : Hid ((mixJ (cntAt l k (i + 1)) (cntAt l k i) 3).set 3 (gi (cntAt l k i) 3 + 1) = mixJ (cntAt l k (i + 1)) (cntAt l k i) (3 + 1)) := Lib.hid (by
                 have := HY.out
                 rw [hyl] at this
                 simp [mixJ, cntAt, ctS, this, gi, Int.add_assoc])
               have HAJ : Hid (gi (mixJ (cntAt l k (i + 1)) (cntAt l k i) 3) 3 = gi (cntAt l k i) 3) := Lib.hid rfl
               subst hyl
               obtain ⟨a, ha⟩ : ∃ a, gi (cntAt l k i) 3 = a := ⟨_, rfl⟩
               rw [ha] at HSET hb5 HAJ
               clear ha
               go_wp2_with fail
               refine wp_region_quiet_below (by kernel_rfl) (by kernel_rfl) ?_
               repeat (go_big_quiet_step (fail))
               refine wpQuiet_nil ?_
               intro w' hw'
               obtain ⟨p, rfl⟩ := hw'
               have HO4 := Lib.hid (HO3.out.ext (below_regrown _ p.d p.os))
               have HB4 := Lib.hid (ext_trans HB3.out (below_regrown _ p.d p.os))
               have HBX := Lib.hid (fun x => ext_set HB4.out (p := ⟨g, 3, none⟩) HG.out (.int .i64 x))
               obtain ⟨q1, f1⟩ := HO4.out.cell (j := 3) (by omega)
               rw [HAJ.out] at q1
               clear q0
               generalize grow (redrawn wr p.d) p.os = w5 at *
               go_wp2_with fail
               go_roundw
               case rel => exact ⟨3 + 1, by omega, by go_num, Lib.hid (by rw [← HSET.out]; exact HO4.out.set _), Lib.hid (HBX.out _)⟩
               case measure => simp [intOf]
             · have HSET : Hid (mixJ (cntAt l k (i + 1)) (cntAt l k i) 3 = mixJ (cntAt l k (i + 1)) (cntAt l k i) (3 + 1)) := Lib.hid (by
                 have := HY.out
                 simp [mixJ, cntAt, ctS, this, hyl])
               have hyl2 : ((((ByteArray.mk #[83, 72, 84, 66, 67])[3]'(by decide)).toNat : Int) == y) = false := beq_eq_false_iff_ne.2 (fun e => hyl e.symm)
               have hyl3 : (y == (66 : Int)) = false := beq_eq_false_iff_ne.2 hyl
               clear hyl hb5
               go_wp2_with fail
               refine wp_region_quiet_below (by kernel_rfl) (by kernel_rfl) ?_
               repeat (go_big_quiet_step (fail))
               refine wpQuiet_nil ?_
               intro w' hw'
               obtain ⟨p, rfl⟩ := hw'
               have HO4 := Lib.hid (HO3.out.ext (below_regrown _ p.d p.os))
               have HB4 := Lib.hid (ext_trans HB3.out (below_regrown _ p.d p.os))
               clear q0
               go_wp2_with fail
               go_roundw
               case rel => exact ⟨3 + 1, by omega, by go_num, Lib.hid (by rw [← HSET.out]; exact HO4.out), HB4⟩
               case measure => simp [intOf]
           · skip
             have hb5 := HBD.out 4 (by omega)
             have q0 := fun d os => cell_regrown (HP0.out _ HB3.out) d os
             by_cases hyl : y = 67
             · have HSET : Hid ((mixJ (cntAt l k (i + 1)) (cntAt l k i) 4).set 4 (gi (cntAt l k i) 4 + 1) = mixJ (cntAt l k (i + 1)) (cntAt l k i) (4 + 1)) := Lib.hid (by
                 have := HY.out
                 rw [hyl] at this
                 simp [mixJ, cntAt, ctS, this, gi, Int.add_assoc])
               have HAJ : Hid (gi (mixJ (cntAt l k (i + 1)) (cntAt l k i) 4) 4 = gi (cntAt l k i) 4) := Lib.hid rfl
               subst hyl
               obtain ⟨a, ha⟩ : ∃ a, gi (cntAt l k i) 4 = a := ⟨_, rfl⟩
               rw [ha] at HSET hb5 HAJ
               clear ha
               go_wp2_with fail
               refine wp_region_quiet_below (by kernel_rfl) (by kernel_rfl) ?_
               repeat (go_big_quiet_step (fail))
               refine wpQuiet_nil ?_
               intro w' hw'
               obtain ⟨p, rfl⟩ := hw'
               have HO4 := Lib.hid (HO3.out.ext (below_regrown _ p.d p.os))
               have HB4 := Lib.hid (ext_trans HB3.out (below_regrown _ p.d p.os))
               have HBX := Lib.hid (fun x => ext_set HB4.out (p := ⟨g, 4, none⟩) HG.out (.int .i64 x))
               obtain ⟨q1, f1⟩ := HO4.out.cell (j := 4) (by omega)
               rw [HAJ.out] at q1
               clear q0
               generalize grow (redrawn wr p.d) p.os = w5 at *
               go_wp2_with fail
               go_roundw
               case rel => exact ⟨4 + 1, by omega, by go_num, Lib.hid (by rw [← HSET.out]; exact HO4.out.set _), Lib.hid (HBX.out _)⟩
               case measure => simp [intOf]
             · have HSET : Hid (mixJ (cntAt l k (i + 1)) (cntAt l k i) 4 = mixJ (cntAt l k (i + 1)) (cntAt l k i) (4 + 1)) := Lib.hid (by
                 have := HY.out
                 simp [mixJ, cntAt, ctS, this, hyl])
               have hyl2 : ((((ByteArray.mk #[83, 72, 84, 66, 67])[4]'(by decide)).toNat : Int) == y) = false := beq_eq_false_iff_ne.2 (fun e => hyl e.symm)
               have hyl3 : (y == (67 : Int)) = false := beq_eq_false_iff_ne.2 hyl
               clear hyl hb5
               go_wp2_with fail
               refine wp_region_quiet_below (by kernel_rfl) (by kernel_rfl) ?_
               repeat (go_big_quiet_step (fail))
               refine wpQuiet_nil ?_
               intro w' hw'
               obtain ⟨p, rfl⟩ := hw'
               have HO4 := Lib.hid (HO3.out.ext (below_regrown _ p.d p.os))
               have HB4 := Lib.hid (ext_trans HB3.out (below_regrown _ p.d p.os))
               clear q0
               go_wp2_with fail
               go_roundw
               case rel => exact ⟨4 + 1, by omega, by go_num, Lib.hid (by rw [← HSET.out]; exact HO4.out), HB4⟩
               case measure => simp [intOf]
           · have HO4 : Hid (O5 wr w1.heap.size g (cntAt l k (i + 1))) := Lib.hid (by
               have h := HO3.out
               have e : mixJ (cntAt l k (i + 1)) (cntAt l k i) 5 = cntAt l k (i + 1) := by simp [mixJ, cntAt]
               rwa [e] at h)
             go_wp2_with fail
             go_roundw
             case rel => exact ⟨i + 1, by omega, by go_num, HO4, HB3⟩
             case measure => simp [intOf]; omega
       · obtain rfl : i = s.size := by omega
         have HNN : Hid (O5 wr w1.heap.size g (cntAt l (k + 1) 0)) := Lib.hid (by rw [← HNX.out]; exact HO.out)
         have i1 : ¬ (s.size : Int) < s.size := by omega
         go_wp2_with fail
         go_roundw
         case rel => exact ⟨k + 1, by omega, by go_num, HNN, HBB⟩
         case measure => simp [intOf]; omega
   · obtain rfl : k = l.length := by omega
     have e1 : ¬ (l.length : Int) < l.length := by omega
     have HE : Hid (cntAt l l.length 0 = cntL l) := Lib.hid (by unfold cntAt cntL; simp [ctS])
     go_wp2_with fail
     go_ret2
     rw [HM.out]
     refine ⟨some ⟨g, 0, none⟩, 5, rfl, ?_, ext_trans HB1.out HB.out⟩
     have h := HO.out.oi
     rw [HE.out] at h
     exact h.mono HB1.out.size
theorem exWall_no {d : DK} {L n : Int} (h : ¬ (mLayWall d.nm d.cs L n).2 = 0) : exWall d L n = (d, [], (mLayWall d.nm d.cs L n).2) := by unfold exWall; exact if_neg h
theorem exWall_ok {d : DK} {L n : Int} (h : (mLayWall d.nm d.cs L n).2 = 0) (hv : vDK d = true) : exWall d L n = ({ d with wall := (mLayWall d.nm d.cs L n).1 }, [dkT { d with wall := (mLayWall d.nm d.cs L n).1 }], 0) ∧ vDK { d with wall := (mLayWall d.nm d.cs L n).1 } = true := by
 obtain ⟨d1, d2, d3, d4⟩ := vDK_parts hv
 exact ⟨by unfold exWall; exact if_pos h, vDK_of d1 d2 (.inr (vW_laid h)) d4⟩
theorem mDT_ok {d : DK} (h : vDK d = true) : mDeskText d = dkT d := by unfold mDeskText; rw [h]; rfl
theorem DB.putW {W : World} {B0 q : Nat} {d : DK} {A : Option Addr} {c : Nat} {B : Option Addr} {e : Nat} (h : DB W B0 q d A c B e) {A1 : Option Addr} {c1 : Nat} {M : List ByteArray} (hO : OStr W B0 (.slice A1 M.length c1) M) (hn : ∀ k, BI (.slice A1 M.length c1) k → k ≠ q ∧ ¬ BI (.slice A d.cs.length c) k) :
   DB (W.setCell ⟨q, 6, none⟩ (.slice A1 M.length c1)) B0 q { d with wall := M } A c A1 c1 := by
 have hc : Chg (fun k => k = q) W (W.setCell ⟨q, 6, none⟩ (.slice A1 M.length c1)) := Chg.setCell (S := fun k => k = q) _ (p := ⟨q, 6, none⟩) rfl _
 obtain ⟨k0, k1, k2, k3, k4, k5, k6, k7⟩ := h.cells
 have fz := h.fz
 refine ⟨⟨by simp [go_sem, k0], by simp [go_sem, k1], by simp [go_sem, k2], by simp [go_sem, k3], by simp [go_sem, k4], by simp [go_sem, k5], by simp [go_sem, k6], by simp [go_sem, k7]⟩, ⟨h.own.1.chg hc (fun k hk e => h.fa k hk e), hO.chg hc (fun k hk e => (hn k hk).1 e), fun k h1 h2 => (hn k h2).2 h1⟩, h.fa, fun k hk => (hn k hk).1, fun j => by simpa using fz j, h.ge⟩
theorem DB.rd {W : World} {B0 q : Nat} {d : DK} {A : Option Addr} {c : Nat} {B : Option Addr} {e : Nat} (h : DB W B0 q d A c B e) : RDK W (.agg #[.int .i64 d.f.l, .int .i64 d.f.w, .int .i64 d.f.h, .int .i64 d.f.j, .string d.nm, .slice A d.cs.length c, .slice B d.wall.length e, .string d.log]) d := ⟨A, c, B, e, rfl, h.own.1.rd, h.own.2.1.rd⟩
set_option maxHeartbeats 3200000 in
theorem impl_ex_wall (w00 W : World) (q : Nat) (d : DK) (A : Option Addr) (c : Nat) (B : Option Addr) (e : Nat) (hD : DB W w00.heap.size q d A c B e) (hb0 : Below w00.heap.size w00 W) (Aw : Option Addr) (cw : Nat) (l : List ByteArray) (hw : RStr W (.slice Aw l.length cw) l) (hl : l.length = 3) (hx : gd l 0 = cmW .wall) (n1 n2 : Int) (An : Option Addr) (cn : Nat) (hn : RI W (.slice An 2 cn) [n1, n2]) (hE : Env w00) (hV : vDK d = true) :
   Calls Tryz.prog 44 #[.pointer (some ⟨q, 0, none⟩), .slice Aw l.length cw, .slice An 2 cn] W (ExP (exWall d n1 n2) W w00.heap.size q) := by
 have HD := Lib.hid hD
 have HB0 := Lib.hid hb0
 obtain ⟨ad, rfl, _, hc⟩ := hw.at (k := 0) (by omega)
 have w0 := hc 0 (by omega)
 rw [Addr.add_zero'] at w0
 obtain ⟨x0, hx0⟩ : ∃ x, gd l 0 = x := ⟨_, rfl⟩
 rw [hx0] at w0 hx
 have hx0 := hx
 obtain ⟨p0, q0⟩ := lit_neC (x := x0) (l := [102, 111, 114, 109, 97, 116]) (by rw [hx0]; decide)
 obtain ⟨p1, q1⟩ := lit_neC (x := x0) (l := [98, 111, 110, 100]) (by rw [hx0]; decide)
 have he : x0.toList = [119, 97, 108, 108] := by rw [hx0, ByteArray.toList_eq]; rfl
 obtain ⟨an, rfl, _, hcn⟩ := hn.at2 (k := 0) (by simp)
 have m0 := hcn 0 (by simp)
 rw [Addr.add_zero'] at m0
 have m1 := hcn 1 (by simp)
 rw [addr_succ] at m1
 replace m0 : W.cell? an = some (.int .i64 n1) := m0
 replace m1 : W.cell? ⟨an.block, an.off + 1, none⟩ = some (.int .i64 n2) := m1
 clear hcn
 have i0 : (0 : Int) < l.length := by omega
 have HE := Lib.hid (fun W' (h : Below w00.heap.size w00 W') => hE.ext h)
 have HV := Lib.hid hV
 have hlen := vDK_sm hV
 have hl1 : d.nm.size ≤ maxLen := by have := (vDK_sizes hV).1; unfold maxLen; omega
 have hl2 : LenCOS d.cs := (sm_lenDK hlen).2.1
 have HLW := Lib.hid (fun W' (h : Below W.heap.size W W') => impl_LayWall A c d.nm d.cs n1 n2 W' hl1 hl2 (hD.own.1.rd.ext h))
 obtain ⟨M, hM⟩ : ∃ M, mLayWall d.nm d.cs n1 n2 = M := ⟨_, rfl⟩
 have HM := Lib.hid hM
 rw [hM] at HLW
 obtain ⟨ls, y⟩ := M
 replace HLW : Hid (∀ W', Below W.heap.size W W' → Calls Tryz.prog 89 #[.agg #[.string d.nm, .slice A d.cs.length c], .int .i64 n1, .int .i64 n2] W' (RetL ls y W')) := HLW
 have k4 := HD.out.cells.k4
 have k5 := HD.out.cells.k5
 clear hM hV hlen hE hD hw hx hx0 hc hn hl hb0
 go_enter Tryz.func44, Tryz.ntmps44
 go_upto_region 15 with fail
 go_cut [12, 13] from 80 to 93 (fun u v wx => ∃ A1 c1, u = .slice A1 ls.length c1 ∧ v = .int .i64 y ∧ Hid (OStr wx W.heap.size (.slice A1 ls.length c1) ls) ∧ Hid (Below W.heap.size W wx))
 case first =>
   go_region_law (go_simp; refine (show Calls _ _ _ _ _ from HLW.out _ (ext_drew (ext_refl _))).mono ?_; rintro e' W1 ⟨A1, c1, rfl, hO, hb⟩; (have HO := Lib.hid hO); (have HB := Lib.hid (ext_trans (ext_drew (ext_refl _)) hb)); clear hO hb; dsimp only)
   all_goals
     go_wp2_with fail
     go_meet
     exact ⟨A1, c1, rfl, rfl, Lib.hid HO.out, HB⟩
 case rest =>
   obtain ⟨A1, c1, rfl, rfl, HO, HB⟩ := hcut
   by_cases hy : y = 0
   · subst hy
     obtain ⟨hex, hv2⟩ := exWall_ok (L := n1) (n := n2) (by rw [HM.out]) HV.out
     have HEX := Lib.hid hex
     rw [HM.out] at HEX hv2
     have HD2 := Lib.hid ((HD.out.ext HB.out).putW (HO.out.mono HB0.out.size) (fun k hk => ⟨by have := (HO.out.ge k hk).1; have := HD.out.lt; omega, fun h2 => by have := (HO.out.ge k hk).1; have := (HD.out.own.1.ge k h2).2; omega⟩))
     have HDT := Lib.hid (fun W' v (h : RDK W' v { d with wall := ls }) hE => impl_DeskText v { d with wall := ls } W' h (vDK_sm hv2) hE)
     rw [mDT_ok hv2] at HDT
     have k6 := (HD.out.ext HB.out).cells.k6
     have kf := (HD.out.ext HB.out).fz 6
     have HCP := Lib.hid ((Chg.of_below HB.out (fun k => k = q)).trans (Chg.setCell (S := fun k => k = q) wc (p := ⟨q, 6, none⟩) rfl (.slice A1 ls.length c1)))
     clear hv2 k4 k5 hex
     obtain ⟨W2, hW2⟩ : ∃ x, wc.setCell ⟨q, 6, none⟩ (.slice A1 ls.length c1) = x := ⟨_, rfl⟩
     rw [hW2] at HD2 HCP
     have HE2 := Lib.hid (HE.out W2 (Chg.ext HB0.out HCP.out (fun k hk => by subst hk; exact HD.out.ge)))
     have h0 := HD2.out.cells.k0
     have h1 := HD2.out.cells.k1
     have h2 := HD2.out.cells.k2
     have h3 := HD2.out.cells.k3
     have h4 := HD2.out.cells.k4
     have h5 := HD2.out.cells.k5
     have h6 := HD2.out.cells.k6
     have h7 := HD2.out.cells.k7
     go_wp2_with fail
     clear hW2
     refine (show Calls _ _ _ _ _ from HDT.out _ _ HD2.out.rd HE2.out).mono ?_
     rintro e' W3 ⟨rfl, hb⟩
     have HB3 := Lib.hid hb
     clear hb h0 h1 h2 h3 h4 h5 h6 h7
     go_wp2_with fail
     go_ret2
     exact ExP.one (r := exWall d n1 n2) HEX.out (HD2.out.ext HB3.out) (HCP.out.trans (Chg.of_below HB3.out _))
   · have HEX := Lib.hid (exWall_no (d := d) (L := n1) (n := n2) (by rw [HM.out]; exact hy))
     go_wp2_with fail
     go_ret2
     exact ExP.no (by rw [HEX.out, HM.out]) hy (Chg.of_below HB.out _)
end Go.Proofs.YtfgopboddkhckaaGreatDoor
