/-
  Parts of the proof: Per, Clash, Ex4.
-/
import Derived.Test.YtfgopboddkhckaaGreatDoorKw22
namespace Go.Proofs.YtfgopboddkhckaaGreatDoor
open Go.ChangeShapes Go.WideShapes Go.ChangeAt Go.RowKit Go.Sort Go.Joins
set_option linter.unusedVariables false
set_option maxRecDepth 100000
theorem oi_lit0 (w : World) (B : Nat) (h : B ≤ w.heap.size) : OI (w.alloc (.cells #[] 2)) B (.slice (some ⟨w.heap.size, 0, none⟩) 0 0) [] :=
 World.ownsRow_lit _ #[] 0 h (by simp [maxLen]) (by simp)
def RetO1 (xs : List Int) (w : World) : Ending → World → Prop := fun e w' => ∃ A c, e = .returned (.slice A xs.length c) ∧ OI w' w.heap.size (.slice A xs.length c) xs ∧ Below w.heap.size w w'
set_option maxHeartbeats 1600000 in
theorem impl_perps (s : ByteArray) (h1 : 1 ≤ s.size) (hs : s.size ≤ 60) (w : World) :
   Calls Tryz.prog 158 #[.string s] w (RetO1 (perp s) w) := by
 obtain ⟨n, hn⟩ : ∃ n, s.size = n + 1 := ⟨s.size - 1, by omega⟩
 have HN : Hid (s.size - 1 = n) := Lib.hid (by omega)
 have HPL : Hid ((perp s).length = n) := Lib.hid (by rw [perp_len, hn]; rfl)
 have hn1 : (s.size : Int) - 1 = n := by omega
 have hn2 : n ≤ 59 := by omega
 have HSZ := Lib.hid hn
 clear h1 hs hn
 go_enter Tryz.func158, Tryz.ntmps158
 go_wp2_with fail
 go_loopw [3, 4, 10] (fun u a i wr => ∃ (k g cp : Nat), k ≤ n ∧ u = .slice (some ⟨g, 0, none⟩) k cp ∧ a = .int .i64 (lenQ s k) ∧ i = .int .i64 k ∧ Hid (OI wr w.heap.size (.slice (some ⟨g, 0, none⟩) k cp) ((perp s).take k)) ∧ Hid (Below w.heap.size w wr)) (fun _ _ i _ => n - (intOf i).toNat)
 case atStart => exact ⟨0, w.heap.size, 0, Nat.zero_le _, rfl, rfl, rfl, Lib.hid (oi_lit0 _ _ (Nat.le_refl _)), Lib.hid (ext_alloc1 _ _)⟩
 case round =>
   obtain ⟨k, g, cp, hk, rfl, rfl, rfl, HO, HB⟩ := hrel
   have e0 : (0:Int) ≤ k := by omega
   have hsz := HB.out.size
   by_cases hlt : k < n
   · have hlt2 : k < s.size := by have := HSZ.out; omega
     have e1 : (k:Int) < n := by omega
     have e2 : (k:Int) < s.size := by omega
     have e3 : (k:Int) + 1 < s.size := by omega
     have hy := byt_eq s k hlt2
     have hyb := byt_bd s k
     have hb1 := lenQ_bd s k
     have hb2 := qC_bd (byt s k)
     have HS : Hid (lenQ s (k + 1) = lenQ s k + qC (byt s k)) := Lib.hid rfl
     have HTK : Hid ((perp s).take (k + 1) = (perp s).take k ++ [lenQ s (k + 1)]) := Lib.hid (perp_take (by rw [HN.out]; exact hlt))
     have HKL : Hid (((perp s).take k).length = k) := Lib.hid (by rw [List.length_take, HPL.out]; omega)
     obtain ⟨y, hyy⟩ : ∃ y, byt s k = y := ⟨_, rfl⟩
     rw [hyy] at hy hyb HS hb2
     clear hyy
     have HC := Lib.hid (fun w => impl_quarters y hyb.1 hyb.2 w)
     obtain ⟨z, hzz⟩ : ∃ z, qC y = z := ⟨_, rfl⟩
     rw [hzz] at HC HS hb2
     obtain ⟨t, htt⟩ : ∃ t, lenQ s k = t := ⟨_, rfl⟩
     rw [htt] at HS hb1
     rw [HS.out] at HTK
     rw [htt]
     obtain ⟨ls, hls⟩ : ∃ ls, (perp s).take k = ls := ⟨_, rfl⟩
     rw [hls] at HO HTK HKL
     clear hzz htt hyb hls
     go_wp2_with fail
     refine (show Calls _ _ _ _ _ from HC.out _).mono ?_
     rintro e w1 ⟨rfl, rfl⟩
     go_wp2_with (at_builtin; refine wpList_append_i rfl _ _ rfl w.heap.size (.slice (some ⟨g, 0, none⟩) k cp) ls (t + z) rfl rfl HO.out (by rw [HKL.out]; omega) hsz ?_; intro g2 cap w4 hO4 hg4 hlt4)
     go_roundw
     case rel =>
       refine ⟨k + 1, g2, cap, by omega, by rw [HKL.out], by rw [HS.out], by go_num, Lib.hid ?_, Lib.hid (Chg.ext HB.out hg4 (fun j hj => (HO.out.ge j hj).1))⟩
       rw [HTK.out]
       rw [HKL.out] at hO4
       exact hO4
     case measure => simp [intOf]; omega
   · obtain rfl : k = n := by omega
     have e1 : ¬ (k:Int) < k := by omega
     have e3 : ¬ (k:Int) + 1 < s.size := by have := HSZ.out; omega
     go_wp2_with fail
     go_ret
     refine ⟨some ⟨g, 0, none⟩, cp, by rw [HPL.out]; rfl, ?_, HB.out⟩
     rw [HPL.out]
     have h := HO.out
     rwa [List.take_of_length_le (by rw [HPL.out]; exact Nat.le_refl _)] at h
set_option maxHeartbeats 1600000 in
theorem spec_perps (s : ByteArray) (h1 : 1 ≤ s.size) (hs : s.size ≤ 60) (w : World) :
   Calls Tryz.prog 223 #[.string s] w (RetO1 (perp s) w) := by
 obtain ⟨n, hn⟩ : ∃ n, s.size = n + 1 := ⟨s.size - 1, by omega⟩
 have HN : Hid (s.size - 1 = n) := Lib.hid (by omega)
 have HPL : Hid ((perp s).length = n) := Lib.hid (by rw [perp_len, hn]; rfl)
 have hn1 : (s.size : Int) - 1 = n := by omega
 have hn2 : n ≤ 59 := by omega
 have HSZ := Lib.hid hn
 clear h1 hs hn
 go_enter Tryz.func223, Tryz.ntmps223
 go_wp2_with fail
 go_loopw [3, 4, 5] (fun u a i wr => ∃ (k g cp : Nat), k ≤ n ∧ u = .slice (some ⟨g, 0, none⟩) k cp ∧ a = .int .i64 (lenQ s k) ∧ i = .int .i64 k ∧ Hid (OI wr w.heap.size (.slice (some ⟨g, 0, none⟩) k cp) ((perp s).take k)) ∧ Hid (Below w.heap.size w wr)) (fun _ _ i _ => n - (intOf i).toNat)
 case atStart => exact ⟨0, w.heap.size, 0, Nat.zero_le _, rfl, rfl, rfl, Lib.hid (oi_lit0 _ _ (Nat.le_refl _)), Lib.hid (ext_alloc1 _ _)⟩
 case round =>
   obtain ⟨k, g, cp, hk, rfl, rfl, rfl, HO, HB⟩ := hrel
   have e0 : (0:Int) ≤ k := by omega
   have hsz := HB.out.size
   by_cases hlt : k < n
   · have hlt2 : k < s.size := by have := HSZ.out; omega
     have e1 : (k:Int) < n := by omega
     have e2 : (k:Int) < s.size := by omega
     have e3 : (k:Int) + 1 < s.size := by omega
     have hy := byt_eq s k hlt2
     have hyb := byt_bd s k
     have hb1 := lenQ_bd s k
     have hb2 := qC_bd (byt s k)
     have HS : Hid (lenQ s (k + 1) = lenQ s k + qC (byt s k)) := Lib.hid rfl
     have HTK : Hid ((perp s).take (k + 1) = (perp s).take k ++ [lenQ s (k + 1)]) := Lib.hid (perp_take (by rw [HN.out]; exact hlt))
     have HKL : Hid (((perp s).take k).length = k) := Lib.hid (by rw [List.length_take, HPL.out]; omega)
     obtain ⟨y, hyy⟩ : ∃ y, byt s k = y := ⟨_, rfl⟩
     rw [hyy] at hy hyb HS hb2
     clear hyy
     have HC := Lib.hid (fun w => spec_quarters y hyb.1 hyb.2 w)
     obtain ⟨z, hzz⟩ : ∃ z, qC y = z := ⟨_, rfl⟩
     rw [hzz] at HC HS hb2
     obtain ⟨t, htt⟩ : ∃ t, lenQ s k = t := ⟨_, rfl⟩
     rw [htt] at HS hb1
     rw [HS.out] at HTK
     rw [htt]
     obtain ⟨ls, hls⟩ : ∃ ls, (perp s).take k = ls := ⟨_, rfl⟩
     rw [hls] at HO HTK HKL
     clear hzz htt hyb hls
     go_wp2_with fail
     refine (show Calls _ _ _ _ _ from HC.out _).mono ?_
     rintro e w1 ⟨rfl, rfl⟩
     go_wp2_with (at_builtin; refine wpList_append_i rfl _ _ rfl w.heap.size (.slice (some ⟨g, 0, none⟩) k cp) ls (t + z) rfl rfl HO.out (by rw [HKL.out]; omega) hsz ?_; intro g2 cap w4 hO4 hg4 hlt4)
     go_roundw
     case rel =>
       refine ⟨k + 1, g2, cap, by omega, by rw [HKL.out], by rw [HS.out], by go_num, Lib.hid ?_, Lib.hid (Chg.ext HB.out hg4 (fun j hj => (HO.out.ge j hj).1))⟩
       rw [HTK.out]
       rw [HKL.out] at hO4
       exact hO4
     case measure => simp [intOf]; omega
   · obtain rfl : k = n := by omega
     have e1 : ¬ (k:Int) < k := by omega
     have e3 : ¬ (k:Int) + 1 < s.size := by have := HSZ.out; omega
     go_wp2_with fail
     go_ret
     refine ⟨some ⟨g, 0, none⟩, cp, by rw [HPL.out]; rfl, ?_, HB.out⟩
     rw [HPL.out]
     have h := HO.out
     rwa [List.take_of_length_le (by rw [HPL.out]; exact Nat.le_refl _)] at h
theorem impl_apart (a b : Int) (h1 : 0 ≤ a ∧ a ≤ 1000000) (h2 : 0 ≤ b ∧ b ≤ 1000000) (w : World) : Calls Tryz.prog 159 #[.int .i64 a, .int .i64 b] w (RetP (.int .i64 (apt a b)) w) := by
 by_cases h : b - a < a - b
 · have HA : Hid (apt a b = a - b) := Lib.hid (by unfold apt; rw [if_pos h])
   go_enter Tryz.func159, Tryz.ntmps159
   go_wp2_with fail
   go_ret
   exact ⟨ret_int (by rw [HA.out]; omega), rfl⟩
 · have HA : Hid (apt a b = b - a) := Lib.hid (by unfold apt; rw [if_neg h])
   go_enter Tryz.func159, Tryz.ntmps159
   go_wp2_with fail
   go_ret
   exact ⟨ret_int (by rw [HA.out]; omega), rfl⟩
theorem spec_sizeI (n : Int) (h1 : -1000000 ≤ n) (w : World) : Calls Tryz.prog 224 #[.int .i64 n] w (RetP (.int .i64 (if n < 0 then -n else n)) w) := by
 by_cases h : n < 0
 · rw [if_pos h]
   go_enter Tryz.func224, Tryz.ntmps224
   go_wp2_with fail
   go_ret
   exact ⟨rfl, rfl⟩
 · rw [if_neg h]
   go_enter Tryz.func224, Tryz.ntmps224
   go_wp2_with fail
   go_ret
   exact ⟨rfl, rfl⟩
theorem apt_size (a b : Int) : (if a - b < 0 then -(a - b) else a - b) = apt a b := by unfold apt; split <;> split <;> omega
theorem spec_sizeD (a b : Int) (h1 : 0 ≤ a ∧ a ≤ 1000000) (h2 : 0 ≤ b ∧ b ≤ 1000000) (w : World) : Calls Tryz.prog 224 #[.int .i64 (a - b)] w (RetP (.int .i64 (apt a b)) w) := by
 rw [← apt_size]; exact spec_sizeI (a - b) (by omega) w
set_option maxHeartbeats 800000 in
theorem impl_wallC (A : Option Addr) (c : Nat) (l : List ByteArray) (lap : Int) (w : World) (hR : RStr w (.slice A l.length c) l) (hsm : SmWall l) :
   Calls Tryz.prog 157 #[.slice A l.length c, .int .i64 lap] w (Ret (.int .i64 (wlC l lap)) w) := by
 have HV : Hid (wlC l lap = if vW l then (if inB lap 1 4 then 0 else 2) else 1) := Lib.hid rfl
 have HF := Lib.hid (impl_okW A c l w hR hsm)
 obtain ⟨x, hx⟩ : ∃ x, vW l = x := ⟨_, rfl⟩
 obtain ⟨y, hy⟩ : ∃ y, inB lap 1 4 = y := ⟨_, rfl⟩
 have HI := Lib.hid (fun w => RetP.bool (impl_within lap 1 4 w) hy)
 rw [hx, hy] at HV
 rw [hx] at HF
 clear hx hy hR hsm
 go_enter Tryz.func157, Tryz.ntmps157
 go_wp2_with fail
 refine (show Calls _ _ _ _ _ from HF.out).mono ?_
 rintro e w1 ⟨rfl, hb⟩
 have HB := Lib.hid hb
 clear hb
 cases x
 · go_wp2_with fail
   go_ret
   exact ⟨ret_int (by rw [HV.out]; rfl), HB.out⟩
 go_wp2_with fail
 refine (show Calls _ _ _ _ _ from HI.out _).mono ?_
 rintro e w2 ⟨rfl, rfl⟩
 cases y
 · go_wp2_with fail
   go_ret
   exact ⟨ret_int (by rw [HV.out]; rfl), HB.out⟩
 go_wp2_with fail
 go_ret
 exact ⟨ret_int (by rw [HV.out]; rfl), HB.out⟩
set_option maxHeartbeats 800000 in
theorem spec_wallC (A : Option Addr) (c : Nat) (l : List ByteArray) (lap : Int) (w : World) (hR : RStr w (.slice A l.length c) l) (hsm : SmWall l) :
   Calls Tryz.prog 175 #[.slice A l.length c, .int .i64 lap] w (Ret (.int .i64 (wlC l lap)) w) := by
 have HV : Hid (wlC l lap = if vW l then (if inB lap 1 4 then 0 else 2) else 1) := Lib.hid rfl
 have HF := Lib.hid (spec_okW A c l w hR hsm)
 obtain ⟨x, hx⟩ : ∃ x, vW l = x := ⟨_, rfl⟩
 obtain ⟨y, hy⟩ : ∃ y, inB lap 1 4 = y := ⟨_, rfl⟩
 have HI := Lib.hid (fun w => RetP.bool (spec_in lap 1 4 w) hy)
 rw [hx, hy] at HV
 rw [hx] at HF
 clear hx hy hR hsm
 go_enter Tryz.func175, Tryz.ntmps175
 go_wp2_with fail
 refine (show Calls _ _ _ _ _ from HF.out).mono ?_
 rintro e w1 ⟨rfl, hb⟩
 have HB := Lib.hid hb
 clear hb
 cases x
 · go_wp2_with fail
   go_ret
   exact ⟨ret_int (by rw [HV.out]; rfl), HB.out⟩
 go_wp2_with fail
 refine (show Calls _ _ _ _ _ from HI.out _).mono ?_
 rintro e w2 ⟨rfl, rfl⟩
 cases y
 · go_wp2_with fail
   go_ret
   exact ⟨ret_int (by rw [HV.out]; rfl), HB.out⟩
 go_wp2_with fail
 go_ret
 exact ⟨ret_int (by rw [HV.out]; rfl), HB.out⟩
theorem OI.at2 {w : World} {base : Nat} {A : Option Addr} {n c : Nat} {xs : List Int} (h : OI w base (.slice A n c) xs) {k : Nat} (hk : k < xs.length) : ∃ ad, A = some ad ∧ w.cell? (ad.add k) = some (.int .i64 (gi xs k)) := by
 obtain ⟨ad, hA, _, hc⟩ := h.rd.at2 hk
 exact ⟨ad, hA, hc k hk⟩
theorem clB_yes {lap x : Int} {ys : List Int} {j : Nat} (hj : j < ys.length) (h : (ys.take j).findSome? (fun y => if apt x y < lap then some y else none) = none) (h2 : apt x (gi ys j) < lap) : clB lap x ys = some (gi ys j) :=
 fs_hit (f := fun y => if apt x y < lap then some y else none) hj h (by rw [gd_gi]; exact if_pos h2)
def clBk (lap x : Int) (ys : List Int) (j : Nat) : Option Int := (ys.take j).findSome? (fun y => if apt x y < lap then some y else none)
theorem clBk_next {lap x : Int} {ys : List Int} {j : Nat} (hj : j < ys.length) (h : clBk lap x ys j = none) (h2 : ¬ apt x (gi ys j) < lap) : clBk lap x ys (j + 1) = none :=
 fs_next (f := fun y => if apt x y < lap then some y else none) hj h (by rw [gd_gi]; exact if_neg h2)
theorem clBk_end {lap x : Int} {ys : List Int} (h : clBk lap x ys ys.length = none) : clB lap x ys = none := fs_end h
def clAk (lap : Int) (xs ys : List Int) (i : Nat) : Option (Int × Int) := (xs.take i).findSome? (fun x => (clB lap x ys).map fun y => (x, y))
theorem clAk_next {lap : Int} {xs ys : List Int} {i : Nat} (hi : i < xs.length) (h : clAk lap xs ys i = none) (h2 : clB lap (gi xs i) ys = none) : clAk lap xs ys (i + 1) = none :=
 fs_next (f := fun x => (clB lap x ys).map fun y => (x, y)) hi h (by rw [gd_gi, h2]; rfl)
theorem clAk_hit {lap : Int} {xs ys : List Int} {i : Nat} {y : Int} (hi : i < xs.length) (h : clAk lap xs ys i = none) (h2 : clB lap (gi xs i) ys = some y) : clA lap xs ys = some (gi xs i, y) :=
 fs_hit (f := fun x => (clB lap x ys).map fun y => (x, y)) hi h (by rw [gd_gi, h2]; rfl)
theorem clAk_end {lap : Int} {xs ys : List Int} (h : clAk lap xs ys xs.length = none) : clA lap xs ys = none := fs_end h
def clWk (lap : Int) (l : List ByteArray) (k : Nat) : Option (Int × Int × Int) := ((List.range (l.length - 1)).take k).findSome? (clK lap l)
theorem clWk_next {lap : Int} {l : List ByteArray} {k : Nat} (hk : k < l.length - 1) (h : clWk lap l k = none) (h2 : clA lap (perp (gd l k)) (perp (gd l (k + 1))) = none) : clWk lap l (k + 1) = none :=
 fs_next (f := clK lap l) (by simpa using hk) h (by rw [range_gd hk]; unfold clK; rw [h2]; rfl)
theorem clWk_hit {lap : Int} {l : List ByteArray} {k : Nat} {x y : Int} (hk : k < l.length - 1) (h : clWk lap l k = none) (h2 : clA lap (perp (gd l k)) (perp (gd l (k + 1))) = some (x, y)) : clW lap l = some ((k : Int), x, y) :=
 fs_hit (f := clK lap l) (by simpa using hk) h (by rw [range_gd hk]; unfold clK; rw [h2]; rfl)
theorem clWk_end {lap : Int} {l : List ByteArray} (h : clWk lap l (l.length - 1) = none) : clW lap l = none := by
 have : clWk lap l (List.range (l.length - 1)).length = none := by rwa [List.length_range]
 exact fs_end this
theorem mClash_hit {l : List ByteArray} {lap k x y : Int} (h : wlC l lap = 0) (h2 : clW lap l = some (k, x, y)) : mClash l lap = (k, x, y, 0) := by unfold mClash; rw [if_pos h, h2]
theorem mClash_end {l : List ByteArray} {lap : Int} (h : wlC l lap = 0) (h2 : clW lap l = none) : mClash l lap = (0, 0, 0, 3) := by unfold mClash; rw [if_pos h, h2]
theorem mClash_no {l : List ByteArray} {lap : Int} (h : ¬ wlC l lap = 0) : mClash l lap = (0, 0, 0, wlC l lap) := by unfold mClash; rw [if_neg h]
def Ret4 (r : Int × Int × Int × Int) (w : World) : Ending → World → Prop := Ret (.tuple #[.int .i64 r.1, .int .i64 r.2.1, .int .i64 r.2.2.1, .int .i64 r.2.2.2]) w
set_option maxHeartbeats 6400000 in
theorem impl_FirstClash (A : Option Addr) (c : Nat) (l : List ByteArray) (lap : Int) (w : World) (hR : RStr w (.slice A l.length c) l) (hsm : SmWall l) :
   Calls Tryz.prog 92 #[.slice A l.length c, .int .i64 lap] w (Ret4 (mClash l lap) w) := by
 obtain ⟨_, _, _, hc1, hc2⟩ := hR.open_
 unfold maxLen at hc2
 have hlm : l.length ≤ 9223372036854775807 := by omega
 have HR := Lib.hid hR
 have HWC := Lib.hid (impl_wallC A c l lap w hR hsm)
 clear hc1 hc2 hR hsm
 by_cases h0 : wlC l lap = 0
 · obtain ⟨hv, hl1, hl4⟩ := wlC_ok h0
   obtain ⟨v1, v2, v3⟩ := vW_parts hv
   have HV : Hid (∀ k, k < l.length → 1 ≤ (gd l k).size ∧ (gd l k).size ≤ 60) := Lib.hid fun k hk => ⟨(vCo_parts (v3 k hk)).1, (vCo_parts (v3 k hk)).2.1⟩
   have H0 := Lib.hid h0
   rw [h0] at HWC
   clear h0 hv v3
   obtain ⟨n, hn⟩ : ∃ n, l.length = n + 1 := ⟨l.length - 1, by omega⟩
   have HN := Lib.hid hn
   have hn40 : n ≤ 39 := by omega
   have hni : (l.length : Int) = n + 1 := by omega
   clear hn v1 v2 hlm
   go_enter Tryz.func92, Tryz.ntmps92
   go_wp2_with fail
   refine (show Calls _ _ _ _ _ from HWC.out).mono ?_
   rintro e w1 ⟨rfl, hb⟩
   have HB1 := Lib.hid hb
   clear hb
   go_wp2_with fail
   go_loopw [9] (fun i wr => ∃ k : Nat, k ≤ n ∧ i = .int .i64 ((k : Int) + 1) ∧ Hid (clWk lap l k = none) ∧ Hid (Below w1.heap.size w1 wr)) (fun i _ => n + 1 - (intOf i).toNat)
   case atStart => exact ⟨0, Nat.zero_le _, rfl, Lib.hid rfl, Lib.hid (ext_refl _)⟩
   case round =>
     obtain ⟨k, hk, rfl, HF, HB⟩ := hrel
     have e0 : (0 : Int) ≤ k := by omega
     by_cases hlt : k < n
     · have e1 : (0 : Int) ≤ (k : Int) + 1 := by omega
       have e2 : (k : Int) + 1 < l.length := by omega
       have e3 : (k : Int) + 1 - 1 = k := by omega
       have e4 : (k : Int) < l.length := by omega
       have e5 : ((k : Int) + 1).toNat = k + 1 := by omega
       have hk1 : k + 1 < l.length := by have := HN.out; omega
       have hk0 : k < l.length := by omega
       obtain ⟨ad, rfl, _, hc⟩ := (HR.out.ext (ext_trans HB1.out HB.out)).at hk1
       have p1 := hc (k + 1) hk1
       rw [addr_succ] at p1
       have p0 := hc k hk0
       clear hc
       have HS := Lib.hid (HV.out (k + 1) hk1)
       have HT := Lib.hid (HV.out k hk0)
       have HNX := Lib.hid (fun h => clWk_next (lap := lap) (l := l) (k := k) (by have := HN.out; omega) HF.out h)
       have HHT := Lib.hid (fun x y h => clWk_hit (lap := lap) (l := l) (k := k) (x := x) (y := y) (by have := HN.out; omega) HF.out h)
       obtain ⟨s, hs⟩ : ∃ s, gd l (k + 1) = s := ⟨_, rfl⟩
       obtain ⟨t, ht⟩ : ∃ t, gd l k = t := ⟨_, rfl⟩
       rw [hs] at p1 HS HNX HHT
       rw [ht] at p0 HT HNX HHT
       have HCS := Lib.hid (fun w => impl_perps s HS.out.1 HS.out.2 w)
       have HCT := Lib.hid (fun w => impl_perps t HT.out.1 HT.out.2 w)
       have HXB : Hid (∀ i, i < (perp t).length → 0 ≤ gi (perp t) i ∧ gi (perp t) i ≤ 240) := Lib.hid fun i hi => perp_bd HT.out.2 (by rwa [perp_len] at hi)
       have HYB : Hid (∀ i, i < (perp s).length → 0 ≤ gi (perp s) i ∧ gi (perp s) i ≤ 240) := Lib.hid fun i hi => perp_bd HS.out.2 (by rwa [perp_len] at hi)
       have hx60 : (perp t).length ≤ 60 := by have := HT.out; rw [perp_len]; omega
       have hy60 : (perp s).length ≤ 60 := by have := HS.out; rw [perp_len]; omega
       obtain ⟨ys, hys⟩ : ∃ ys, perp s = ys := ⟨_, rfl⟩
       obtain ⟨xs, hxs⟩ : ∃ xs, perp t = xs := ⟨_, rfl⟩
       rw [hys] at HCS HNX HHT HYB hy60
       rw [hxs] at HCT HNX HHT HXB hx60
       clear hs ht hys hxs
       go_wp2_with fail
       refine (show Calls _ _ _ _ _ from HCS.out _).mono ?_
       rintro e w2 ⟨C, cc, rfl, hO2, hb2⟩
       have HO2 := Lib.hid hO2
       have HB2 := Lib.hid hb2
       have p2 := cell_keep p0 hb2
       clear hO2 hb2 p1 p0
       go_wp2_with fail
       refine (show Calls _ _ _ _ _ from HCT.out _).mono ?_
       rintro e w3 ⟨D, dc, rfl, hO3, hb3⟩
       have HO3 := Lib.hid hO3
       have HO2' := Lib.hid (HO2.out.ext hb3)
       have HB3 := Lib.hid (ext_trans HB.out (ext_trans HB2.out hb3))
       clear hO3 hb3 p2 HO2
       go_wp2_with fail
       go_loop [39] (fun i => ∃ j : Nat, j ≤ xs.length ∧ i = .int .i64 j ∧ Hid (clAk lap xs ys j = none)) (fun i => xs.length - (intOf i).toNat)
       case atStart => exact ⟨0, Nat.zero_le _, rfl, Lib.hid rfl⟩
       case round =>
         obtain ⟨j, hj, rfl, HJ⟩ := hrel
         have f0 : (0 : Int) ≤ j := by omega
         by_cases hjl : j < xs.length
         · have f1 : (j : Int) < xs.length := by omega
           obtain ⟨bd, rfl, q0⟩ := HO3.out.at2 hjl
           have hxb := HXB.out j hjl
           have HAN := Lib.hid (fun h => clAk_next (lap := lap) (xs := xs) (ys := ys) hjl HJ.out h)
           have HAH := Lib.hid (fun y h => clAk_hit (lap := lap) (xs := xs) (ys := ys) (y := y) hjl HJ.out h)
           obtain ⟨x, hx⟩ : ∃ x, gi xs j = x := ⟨_, rfl⟩
           rw [hx] at q0 hxb HAN HAH
           clear hx
           go_wp2_with fail
           go_loop [45] (fun i => ∃ m : Nat, m ≤ ys.length ∧ i = .int .i64 m ∧ Hid (clBk lap x ys m = none)) (fun i => ys.length - (intOf i).toNat)
           case atStart => exact ⟨0, Nat.zero_le _, rfl, Lib.hid rfl⟩
           case round =>
             obtain ⟨m, hm, rfl, HM⟩ := hrel
             have g0 : (0 : Int) ≤ m := by omega
             by_cases hml : m < ys.length
             · have g1 : (m : Int) < ys.length := by omega
               obtain ⟨cd, rfl, q1⟩ := HO2'.out.at2 hml
               have hyb := HYB.out m hml
               have HBN := Lib.hid (fun h => clBk_next (lap := lap) (x := x) (ys := ys) hml HM.out h)
               have HBH := Lib.hid (fun h => clB_yes (lap := lap) (x := x) (ys := ys) hml HM.out h)
               obtain ⟨y, hy⟩ : ∃ y, gi ys m = y := ⟨_, rfl⟩
               rw [hy] at q1 hyb HBN HBH
               clear hy
               have HCA := Lib.hid (fun w => impl_apart x y (by omega) (by omega) w)
               obtain ⟨z, hz⟩ : ∃ z, apt x y = z := ⟨_, rfl⟩
               rw [hz] at HCA HBN HBH
               clear hz
               by_cases hzl : z < lap
               · have HW := Lib.hid (mClash_hit H0.out (HHT.out _ _ (HAH.out _ (HBH.out hzl))))
                 go_wp2_with fail
                 refine (show Calls _ _ _ _ _ from HCA.out _).mono ?_
                 rintro e w4 ⟨rfl, rfl⟩
                 go_wp2_with fail
                 refine bodyPost_ret (v := .tuple #[.int .i64 k, .int .i64 x, .int .i64 y, .int .i64 0]) (by simp [results, Tryz.results92, go_sem]) rfl ?_
                 unfold Ret4
                 rw [HW.out]
                 exact ⟨rfl, ext_trans HB1.out HB3.out⟩
               · have HBN2 := Lib.hid (HBN.out hzl)
                 go_wp2_with fail
                 refine (show Calls _ _ _ _ _ from HCA.out _).mono ?_
                 rintro e w4 ⟨rfl, rfl⟩
                 go_wp2_with fail
                 go_round
                 case rel => exact ⟨m + 1, by omega, by go_num, HBN2⟩
                 case measure => simp [intOf]; omega
             · obtain rfl : m = ys.length := by omega
               have HBE := Lib.hid (HAN.out (clBk_end HM.out))
               have g1 : ¬ (ys.length : Int) < ys.length := by omega
               go_wp2_with fail
               go_round
               case rel => exact ⟨j + 1, by omega, by go_num, HBE⟩
               case measure => simp [intOf]; omega
         · obtain rfl : j = xs.length := by omega
           have HAE := Lib.hid (HNX.out (clAk_end HJ.out))
           have f1 : ¬ (xs.length : Int) < xs.length := by omega
           go_wp2_with fail
           go_roundw
           case rel => exact ⟨k + 1, by omega, by go_num, HAE, HB3⟩
           case measure => simp [intOf]; omega
     · obtain rfl : k = n := by omega
       have HE := Lib.hid (mClash_end H0.out (clWk_end (by rw [HN.out]; exact HF.out)))
       have e1 : ¬ (k : Int) + 1 < l.length := by omega
       go_wp2_with fail
       refine bodyPost_ret (v := .tuple #[.int .i64 0, .int .i64 0, .int .i64 0, .int .i64 3]) (by simp [results, Tryz.results92, go_sem]) rfl ?_
       unfold Ret4
       rw [HE.out]
       exact ⟨rfl, ext_trans HB1.out HB.out⟩
 · have HE := Lib.hid (mClash_no h0)
   obtain ⟨z, hz⟩ : ∃ z, wlC l lap = z := ⟨_, rfl⟩
   rw [hz] at h0 HWC HE
   have e1 : (z == 0) = false := beq_eq_false_iff_ne.2 h0
   have e2 : (z != 0) = true := bne_iff_ne.2 h0
   clear hz h0
   go_enter Tryz.func92, Tryz.ntmps92
   go_wp2_with fail
   refine (show Calls _ _ _ _ _ from HWC.out).mono ?_
   rintro e w1 ⟨rfl, hb⟩
   have HB1 := Lib.hid hb
   clear hb
   go_wp2_with fail
   refine bodyPost_ret (v := .tuple #[.int .i64 0, .int .i64 0, .int .i64 0, .int .i64 z]) (by simp [results, Tryz.results92, go_sem]) rfl ?_
   unfold Ret4
   rw [HE.out]
   exact ⟨rfl, HB1.out⟩
def clR (lap : Int) (l : List ByteArray) : Int × Int × Int × Bool := match clW lap l with | some (k, x, y) => (k, x, y, true) | none => (0, 0, 0, false)
theorem clR_hit {l : List ByteArray} {lap k x y : Int} (h2 : clW lap l = some (k, x, y)) : clR lap l = (k, x, y, true) := by unfold clR; rw [h2]
theorem clR_end {l : List ByteArray} {lap : Int} (h2 : clW lap l = none) : clR lap l = (0, 0, 0, false) := by unfold clR; rw [h2]
set_option maxHeartbeats 6400000 in
theorem spec_clash6 (A : Option Addr) (c : Nat) (l : List ByteArray) (lap : Int) (w : World) (hR : RStr w (.slice A l.length c) l) (hv : vW l = true) (hl1 : 1 ≤ lap) (hl4 : lap ≤ 4) :
   Calls Tryz.prog 176 #[.slice A l.length c, .int .i64 lap] w (Ret (.tuple #[.int .i64 (clR lap l).1, .int .i64 (clR lap l).2.1, .int .i64 (clR lap l).2.2.1, .bool (clR lap l).2.2.2]) w) := by
 have HR := Lib.hid hR
 obtain ⟨v1, v2, v3⟩ := vW_parts hv
 have HV : Hid (∀ k, k < l.length → 1 ≤ (gd l k).size ∧ (gd l k).size ≤ 60) := Lib.hid fun k hk => ⟨(vCo_parts (v3 k hk)).1, (vCo_parts (v3 k hk)).2.1⟩
 clear hR hv v3
 obtain ⟨n, hn⟩ : ∃ n, l.length = n + 1 := ⟨l.length - 1, by omega⟩
 have HN := Lib.hid hn
 have hn40 : n ≤ 39 := by omega
 have hni : (l.length : Int) = n + 1 := by omega
 clear hn v1 v2
 go_enter Tryz.func176, Tryz.ntmps176
 go_wp2_with fail
 go_loopw [8] (fun i wr => ∃ k : Nat, k ≤ n ∧ i = .int .i64 (k : Int) ∧ Hid (clWk lap l k = none) ∧ Hid (Below w.heap.size w wr)) (fun i _ => n - (intOf i).toNat)
 case atStart => exact ⟨0, Nat.zero_le _, rfl, Lib.hid rfl, Lib.hid (ext_refl _)⟩
 case round =>
   obtain ⟨k, hk, rfl, HF, HB⟩ := hrel
   have e0 : (0 : Int) ≤ k := by omega
   by_cases hlt : k < n
   · have e1 : (0 : Int) ≤ (k : Int) + 1 := by omega
     have e2 : (k : Int) + 1 < l.length := by omega
     have e4 : (k : Int) < l.length := by omega
     have e5 : ((k : Int) + 1).toNat = k + 1 := by omega
     have hk1 : k + 1 < l.length := by have := HN.out; omega
     have hk0 : k < l.length := by omega
     obtain ⟨ad, rfl, _, hc⟩ := (HR.out.ext HB.out).at hk1
     have p1 := hc (k + 1) hk1
     rw [addr_succ] at p1
     have p0 := hc k hk0
     clear hc
     have HS := Lib.hid (HV.out (k + 1) hk1)
     have HT := Lib.hid (HV.out k hk0)
     have HNX := Lib.hid (fun h => clWk_next (lap := lap) (l := l) (k := k) (by have := HN.out; omega) HF.out h)
     have HHT := Lib.hid (fun x y h => clWk_hit (lap := lap) (l := l) (k := k) (x := x) (y := y) (by have := HN.out; omega) HF.out h)
     obtain ⟨s, hs⟩ : ∃ s, gd l (k + 1) = s := ⟨_, rfl⟩
     obtain ⟨t, ht⟩ : ∃ t, gd l k = t := ⟨_, rfl⟩
     rw [hs] at p1 HS HNX HHT
     rw [ht] at p0 HT HNX HHT
     have HCS := Lib.hid (fun w => spec_perps s HS.out.1 HS.out.2 w)
     have HCT := Lib.hid (fun w => spec_perps t HT.out.1 HT.out.2 w)
     have HXB : Hid (∀ i, i < (perp t).length → 0 ≤ gi (perp t) i ∧ gi (perp t) i ≤ 240) := Lib.hid fun i hi => perp_bd HT.out.2 (by rwa [perp_len] at hi)
     have HYB : Hid (∀ i, i < (perp s).length → 0 ≤ gi (perp s) i ∧ gi (perp s) i ≤ 240) := Lib.hid fun i hi => perp_bd HS.out.2 (by rwa [perp_len] at hi)
     have hx60 : (perp t).length ≤ 60 := by have := HT.out; rw [perp_len]; omega
     have hy60 : (perp s).length ≤ 60 := by have := HS.out; rw [perp_len]; omega
     obtain ⟨ys, hys⟩ : ∃ ys, perp s = ys := ⟨_, rfl⟩
     obtain ⟨xs, hxs⟩ : ∃ xs, perp t = xs := ⟨_, rfl⟩
     rw [hys] at HCS HNX HHT HYB hy60
     rw [hxs] at HCT HNX HHT HXB hx60
     clear hs ht hys hxs
     go_wp2_with fail
     refine (show Calls _ _ _ _ _ from HCT.out _).mono ?_
     rintro e w2 ⟨D, dc, rfl, hO2, hb2⟩
     have HO2 := Lib.hid hO2
     have HB2 := Lib.hid hb2
     have p2 := cell_keep p1 hb2
     clear hO2 hb2 p1 p0
     go_wp2_with fail
     refine (show Calls _ _ _ _ _ from HCS.out _).mono ?_
     rintro e w3 ⟨C, cc, rfl, hO3, hb3⟩
     have HO3 := Lib.hid hO3
     have HO2' := Lib.hid (HO2.out.ext hb3)
     have HB3 := Lib.hid (ext_trans HB.out (ext_trans HB2.out hb3))
     clear hO3 hb3 p2 HO2
     go_wp2_with fail
     go_loopw [11] (fun i wr => ∃ j : Nat, j ≤ xs.length ∧ i = .int .i64 j ∧ Hid (clAk lap xs ys j = none) ∧ Hid (Below w3.heap.size w3 wr)) (fun i _ => xs.length - (intOf i).toNat)
     case atStart => exact ⟨0, Nat.zero_le _, rfl, Lib.hid rfl, Lib.hid (ext_refl _)⟩
     case round =>
       obtain ⟨j, hj, rfl, HJ, HBJ⟩ := hrel
       have f0 : (0 : Int) ≤ j := by omega
       by_cases hjl : j < xs.length
       · have f1 : (j : Int) < xs.length := by omega
         have HAN := Lib.hid (fun h => clAk_next (lap := lap) (xs := xs) (ys := ys) hjl HJ.out h)
         have HAH := Lib.hid (fun y h => clAk_hit (lap := lap) (xs := xs) (ys := ys) (y := y) hjl HJ.out h)
         have hxb := HXB.out j hjl
         obtain ⟨bd, rfl, q0'⟩ := HO2'.out.at2 hjl
         have HQ0 := Lib.hid q0'
         clear q0'
         obtain ⟨x, hx⟩ : ∃ x, gi xs j = x := ⟨_, rfl⟩
         rw [hx] at HQ0 hxb HAN HAH
         clear hx
         go_wp2_with fail
         go_loopw [12] (fun i wr' => ∃ m : Nat, m ≤ ys.length ∧ i = .int .i64 m ∧ Hid (clBk lap x ys m = none) ∧ Hid (Below w3.heap.size w3 wr')) (fun i _ => ys.length - (intOf i).toNat)
         case atStart => exact ⟨0, Nat.zero_le _, rfl, Lib.hid rfl, HBJ⟩
         case round =>
           obtain ⟨m, hm, rfl, HM, HBM⟩ := hrel
           have g0 : (0 : Int) ≤ m := by omega
           by_cases hml : m < ys.length
           · have g1 : (m : Int) < ys.length := by omega
             have q0 := fun d os => cell_regrown (cell_keep HQ0.out HBM.out) d os
             obtain ⟨cd, rfl, q1'⟩ := (HO3.out.ext HBM.out).at2 hml
             have hyb := HYB.out m hml
             have HBN := Lib.hid (fun h => clBk_next (lap := lap) (x := x) (ys := ys) hml HM.out h)
             have HBH := Lib.hid (fun h => clB_yes (lap := lap) (x := x) (ys := ys) hml HM.out h)
             obtain ⟨y, hy⟩ : ∃ y, gi ys m = y := ⟨_, rfl⟩
             rw [hy] at q1' hyb HBN HBH
             have q1 := fun d os => cell_regrown q1' d os
             clear hy
             have HCA := Lib.hid (fun w => RetP.ret (spec_sizeD x y (by omega) (by omega) w))
             obtain ⟨z, hz⟩ : ∃ z, apt x y = z := ⟨_, rfl⟩
             rw [hz] at HCA HBN HBH
             clear hz q1'
             by_cases hzl : z < lap
             · have HW := Lib.hid (clR_hit (HHT.out _ _ (HAH.out _ (HBH.out hzl))))
               go_wp2_with fail
               refine wp_region_quiet_below (by kernel_rfl) (by kernel_rfl) ?_
               repeat (go_big_quiet_step ((go_at_call 224; exact regrown_r (HCA.out _))))
               refine wpQuiet_nil ?_
               intro w' hw'
               obtain ⟨p, rfl⟩ := hw'
               have HB5 := Lib.hid (ext_trans HBM.out (below_regrown _ p.d p.os))
               have r0 := fun d os => cell_regrown (q0 p.d p.os) d os
               have r1 := fun d os => cell_regrown (q1 p.d p.os) d os
               clear q0 q1
               generalize grow (redrawn wr p.d) p.os = w5 at *
               go_wp2_with fail
               refine wp_region_quiet_below (by kernel_rfl) (by kernel_rfl) ?_
               repeat (go_big_quiet_step (fail))
               refine wpQuiet_nil ?_
               intro w' hw'
               obtain ⟨p, rfl⟩ := hw'
               go_wp2_with fail
               refine bodyPost_ret (v := .tuple #[.int .i64 k, .int .i64 x, .int .i64 y, .bool true]) (by simp [results, Tryz.results176, go_sem]) rfl ?_
               rw [HW.out]
               exact ⟨rfl, ext_trans HB3.out (ext_trans HB5.out (below_regrown _ p.d p.os))⟩
             · have HBN2 := Lib.hid (HBN.out hzl)
               go_wp2_with fail
               refine wp_region_quiet_below (by kernel_rfl) (by kernel_rfl) ?_
               repeat (go_big_quiet_step ((go_at_call 224; exact regrown_r (HCA.out _))))
               refine wpQuiet_nil ?_
               intro w' hw'
               obtain ⟨p, rfl⟩ := hw'
               have HB5 := Lib.hid (ext_trans HBM.out (below_regrown _ p.d p.os))
               clear q0 q1
               go_wp2_with fail
               go_roundw
               case rel => exact ⟨m + 1, by omega, by go_num, HBN2, HB5⟩
               case measure => simp [intOf]; omega
           · obtain rfl : m = ys.length := by omega
             have HBE := Lib.hid (HAN.out (clBk_end HM.out))
             have g1 : ¬ (ys.length : Int) < ys.length := by omega
             go_wp2_with fail
             go_roundw
             case rel => exact ⟨j + 1, by omega, by go_num, HBE, HBM⟩
             case measure => simp [intOf]; omega
       · obtain rfl : j = xs.length := by omega
         have HAE := Lib.hid (HNX.out (clAk_end HJ.out))
         have f1 : ¬ (xs.length : Int) < xs.length := by omega
         go_wp2_with fail
         go_roundw
         case rel => exact ⟨k + 1, by omega, by go_num, HAE, Lib.hid (ext_trans HB3.out HBJ.out)⟩
         case measure => simp [intOf]; omega
   · obtain rfl : k = n := by omega
     have HE := Lib.hid (clR_end (clWk_end (by rw [HN.out]; exact HF.out)))
     have e1 : ¬ (k : Int) + 1 < l.length := by omega
     go_wp2_with fail
     refine bodyPost_ret (v := .tuple #[.int .i64 0, .int .i64 0, .int .i64 0, .bool false]) (by simp [results, Tryz.results176, go_sem]) rfl ?_
     rw [HE.out]
     exact ⟨rfl, HB.out⟩
set_option maxHeartbeats 1600000 in
theorem spec_FirstClash (A : Option Addr) (c : Nat) (l : List ByteArray) (lap : Int) (w : World) (hR : RStr w (.slice A l.length c) l) (hsm : SmWall l) :
   Calls Tryz.prog 116 #[.slice A l.length c, .int .i64 lap] w (Ret4 (mClash l lap) w) := by
 have HR := Lib.hid hR
 have HWC := Lib.hid (spec_wallC A c l lap w hR hsm)
 clear hR hsm
 by_cases h0 : wlC l lap = 0
 · obtain ⟨hv, hl1, hl4⟩ := wlC_ok h0
   have HCL := Lib.hid (fun w h => spec_clash6 A c l lap w h hv hl1 hl4)
   have HM : Hid (mClash l lap = (match clW lap l with | some (k, x, y) => (k, x, y, 0) | none => (0, 0, 0, 3))) := Lib.hid (by unfold mClash; rw [if_pos h0]; cases clW lap l <;> rfl)
   rw [h0] at HWC
   clear hv h0
   unfold clR at HCL
   cases hc : clW lap l with
   | none =>
     rw [hc] at HCL HM
     clear hc
     go_enter Tryz.func116, Tryz.ntmps116
     go_wp2_with fail
     refine (show Calls _ _ _ _ _ from HWC.out).mono ?_
     rintro e w1 ⟨rfl, hb⟩
     have HB1 := Lib.hid hb
     clear hb
     go_wp2_with fail
     refine (show Calls _ _ _ _ _ from HCL.out _ (HR.out.ext HB1.out)).mono ?_
     rintro e w2 ⟨rfl, hb⟩
     have HB2 := Lib.hid (ext_trans HB1.out hb)
     clear hb
     dsimp only
     go_wp2_with fail
     refine bodyPost_ret (v := .tuple #[.int .i64 0, .int .i64 0, .int .i64 0, .int .i64 3]) (by simp [results, Tryz.results116, go_sem]) rfl ?_
     unfold Ret4
     rw [HM.out]
     exact ⟨rfl, HB2.out⟩
   | some p =>
     obtain ⟨k, x, y⟩ := p
     rw [hc] at HCL HM
     clear hc
     go_enter Tryz.func116, Tryz.ntmps116
     go_wp2_with fail
     refine (show Calls _ _ _ _ _ from HWC.out).mono ?_
     rintro e w1 ⟨rfl, hb⟩
     have HB1 := Lib.hid hb
     clear hb
     go_wp2_with fail
     refine (show Calls _ _ _ _ _ from HCL.out _ (HR.out.ext HB1.out)).mono ?_
     rintro e w2 ⟨rfl, hb⟩
     have HB2 := Lib.hid (ext_trans HB1.out hb)
     clear hb
     dsimp only
     go_wp2_with fail
     refine bodyPost_ret (v := .tuple #[.int .i64 k, .int .i64 x, .int .i64 y, .int .i64 0]) (by simp [results, Tryz.results116, go_sem]) rfl ?_
     unfold Ret4
     rw [HM.out]
     exact ⟨rfl, HB2.out⟩
 · have HE := Lib.hid (mClash_no h0)
   obtain ⟨z, hz⟩ : ∃ z, wlC l lap = z := ⟨_, rfl⟩
   rw [hz] at h0 HWC HE
   have e1 : (z == 0) = false := beq_eq_false_iff_ne.2 h0
   have e2 : (z != 0) = true := bne_iff_ne.2 h0
   clear hz h0
   go_enter Tryz.func116, Tryz.ntmps116
   go_wp2_with fail
   refine (show Calls _ _ _ _ _ from HWC.out).mono ?_
   rintro e w1 ⟨rfl, hb⟩
   have HB1 := Lib.hid hb
   clear hb
   go_wp2_with fail
   refine bodyPost_ret (v := .tuple #[.int .i64 0, .int .i64 0, .int .i64 0, .int .i64 z]) (by simp [results, Tryz.results116, go_sem]) rfl ?_
   unfold Ret4
   rw [HE.out]
   exact ⟨rfl, HB1.out⟩
theorem ExP.said {r : DK × List ByteArray × Int} {W W2 : World} {B0 q : Nat} {d : DK} {t : ByteArray} {k : Int} {A : Option Addr} {c : Nat} {B : Option Addr} {e : Nat} (hk : r.2.2 = k) (hr : k = 0 → r = (d, [t], 0)) (hD : DB W2 B0 q d A c B e) (hb : Chg (fun k => k = q) W W2) :
   ExP r W B0 q (.returned (.tuple #[.slice (some ⟨W2.heap.size, 0, none⟩) 1 1, .int .i64 k])) (W2.alloc (.cells #[.string t] 9)) := by
 by_cases h : k = 0
 · subst h
   exact ExP.one (hr rfl) hD hb
 · exact ExP.no hk h (hb.trans (Chg.of_below (ext_alloc1 _ _) _))
theorem exHeight_eq {d : DK} {n : Int} : (exHeight d n).2.2 = (mHeight d.f n).2 ∧ ((mHeight d.f n).2 = 0 → exHeight d n = (d, [itb (mHeight d.f n).1], 0)) := by
 unfold exHeight
 by_cases h : (mHeight d.f n).2 = 0
 · rw [if_pos h]; exact ⟨h.symm, fun _ => rfl⟩
 · rw [if_neg h]; exact ⟨rfl, fun h2 => absurd h2 h⟩
set_option maxHeartbeats 3200000 in
theorem impl_ex_height (w00 W : World) (q : Nat) (d : DK) (A : Option Addr) (c : Nat) (B : Option Addr) (e : Nat) (hD : DB W w00.heap.size q d A c B e) (hb0 : Below w00.heap.size w00 W) (Aw : Option Addr) (cw : Nat) (l : List ByteArray) (hw : RStr W (.slice Aw l.length cw) l) (hl : l.length = 2) (hx : gd l 0 = cmW .height) (n1 : Int) (An : Option Addr) (cn : Nat) (hn : RI W (.slice An 1 cn) [n1]) (hE : Env w00) :
   Calls Tryz.prog 44 #[.pointer (some ⟨q, 0, none⟩), .slice Aw l.length cw, .slice An 1 cn] W (ExP (exHeight d n1) W w00.heap.size q) := by
 have HD := Lib.hid hD
 have HB0 := Lib.hid hb0
 obtain ⟨ad, rfl, _, hc⟩ := hw.at (k := 0) (by omega)
 have w0 := hc 0 (by omega)
 rw [Addr.add_zero'] at w0
 obtain ⟨x0, hx0⟩ : ∃ x, gd l 0 = x := ⟨_, rfl⟩
 rw [hx0] at w0 hx
 have hx0 := hx
 obtain ⟨p0, q0⟩ := lit_neC (x := x0) (l := [102, 111, 114, 109, 97, 116]) (by rw [hx0]; decide)
 obtain ⟨p1, q1⟩ := lit_neC (x := x0) (l := [98, 111, 110, 100]) (by rw [hx0]; decide)
 obtain ⟨p2, q2⟩ := lit_neC (x := x0) (l := [119, 97, 108, 108]) (by rw [hx0]; decide)
 obtain ⟨p3, q3⟩ := lit_neC (x := x0) (l := [115, 104, 111, 119]) (by rw [hx0]; decide)
 obtain ⟨p4, q4⟩ := lit_neC (x := x0) (l := [99, 104, 101, 99, 107]) (by rw [hx0]; decide)
 obtain ⟨p5, q5⟩ := lit_neC (x := x0) (l := [99, 111, 117, 110, 116]) (by rw [hx0]; decide)
 obtain ⟨p6, q6⟩ := lit_neC (x := x0) (l := [112, 97, 105, 114]) (by rw [hx0]; decide)
 obtain ⟨p7, q7⟩ := lit_neC (x := x0) (l := [108, 101, 110, 103, 116, 104]) (by rw [hx0]; decide)
 have he : x0.toList = [104, 101, 105, 103, 104, 116] := by rw [hx0, ByteArray.toList_eq]; rfl
 obtain ⟨an, rfl, _, hcn⟩ := hn.at2 (k := 0) (by simp)
 have m0 := hcn 0 (by simp)
 rw [Addr.add_zero'] at m0
 replace m0 : W.cell? an = some (.int .i64 n1) := m0
 clear hcn
 have i0 : (0 : Int) < l.length := by omega
 have HLF : Hid (∀ W', Below W.heap.size W W' → LayF W') := Lib.hid fun W' h => (hE.ext (ext_trans hb0 h)).lay
 have HHO := Lib.hid (fun w => impl_HeightOf d.f n1 w)
 have HEX := Lib.hid (exHeight_eq (d := d) (n := n1))
 obtain ⟨hb1, hb2⟩ := mHeight_bd d.f n1
 have HDE : Hid (∀ W', Below W.heap.size W W' → Calls Tryz.prog 54 #[.int .i64 (mHeight d.f n1).1] W' (Ret (.string (itb (mHeight d.f n1).1)) W')) := Lib.hid fun W' h => impl_Dec _ (by omega) (by omega) W' (HLF.out _ h)
 obtain ⟨x, hx1⟩ : ∃ x, (mHeight d.f n1).1 = x := ⟨_, rfl⟩
 obtain ⟨y, hy1⟩ : ∃ y, (mHeight d.f n1).2 = y := ⟨_, rfl⟩
 rw [hx1] at HHO HEX HDE
 rw [hy1] at HHO HEX
 have k0 := HD.out.cells.k0
 have k1 := HD.out.cells.k1
 have k2 := HD.out.cells.k2
 have k3 := HD.out.cells.k3
 clear hx1 hy1 hb1 hb2 hE hD hw hx hx0 hc hn hl hb0
 go_enter Tryz.func44, Tryz.ntmps44
 replace k0 := fun d os => cell_regrown k0 d os
 replace k1 := fun d os => cell_regrown k1 d os
 replace k2 := fun d os => cell_regrown k2 d os
 replace k3 := fun d os => cell_regrown k3 d os
 replace m0 := fun d os => cell_regrown m0 d os
 go_wp2_with fail
 refine wp_region_quiet_below (by kernel_rfl) (by kernel_rfl) ?_
 repeat (go_big_quiet_step ((go_at_call 97; exact regrown_r (HHO.out _))))
 refine wpQuiet_nil ?_
 intro w' hw'
 obtain ⟨p, rfl⟩ := hw'
 have HB := Lib.hid (below_regrown W p.d p.os)
 generalize (grow (redrawn W p.d) p.os) = W1 at *
 clear k0 k1 k2 k3 m0
 go_wp2_with fail
 refine (show Calls _ _ _ _ _ from HDE.out _ HB.out).mono ?_
 rintro e' W3 ⟨rfl, hb⟩
 have HB3 := Lib.hid (ext_trans HB.out hb)
 clear hb
 go_wp2_with fail
 go_ret2
 exact ExP.said (r := exHeight d n1) HEX.out.1 HEX.out.2 (HD.out.ext HB3.out) (Chg.of_below HB3.out _)
end Go.Proofs.YtfgopboddkhckaaGreatDoor
