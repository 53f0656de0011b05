/-
  Parts of the proof: Dk.
-/
import Derived.Test.YtfgopboddkhckaaGreatDoorKw4
namespace Go.Proofs.YtfgopboddkhckaaGreatDoor
open Go.ChangeShapes Go.WideShapes Go.ChangeAt Go.RowKit Go.Sort Go.Joins
set_option linter.unusedVariables false
set_option maxRecDepth 100000
structure FM where
  l : Int
  w : Int
  h : Int
  j : Int
deriving DecidableEq
structure DK where
 f : FM
 nm : ByteArray
 cs : List CO
 wall : List ByteArray
 log : ByteArray
instance : Inhabited FM := ⟨⟨0, 0, 0, 0⟩⟩
instance : Inhabited DK := ⟨⟨default, ⟨#[]⟩, [], [], ⟨#[]⟩⟩⟩
def RDK (w : World) (v : Value) (d : DK) : Prop := ∃ A c B e, v = .agg #[.int .i64 d.f.l, .int .i64 d.f.w, .int .i64 d.f.h, .int .i64 d.f.j, .string d.nm, .slice A d.cs.length c, .slice B d.wall.length e, .string d.log] ∧
  RCOS w (.slice A d.cs.length c) d.cs ∧ RStr w (.slice B d.wall.length e) d.wall
theorem RDK.ext {w w' : World} {v : Value} {d : DK} (h : RDK w v d) (hb : Below w.heap.size w w') : RDK w' v d := by
 obtain ⟨A, c, B, e, rfl, h1, h2⟩ := h; exact ⟨A, c, B, e, rfl, h1.ext hb, h2.ext hb⟩
def ODKp (w : World) (base : Nat) (v1 v2 : Value) (d : DK) : Prop := OCOS w base v1 d.cs ∧ OStr w base v2 d.wall ∧ ∀ k, BI v1 k → ¬ BI v2 k
theorem ODKp.ext {w w' : World} {base : Nat} {v1 v2 : Value} {d : DK} (h : ODKp w base v1 v2 d) (hb : Below w.heap.size w w') : ODKp w' base v1 v2 d := ⟨h.1.ext hb, h.2.1.ext hb, h.2.2⟩
theorem ODKp.mono {w : World} {base base' : Nat} {v1 v2 : Value} {d : DK} (h : ODKp w base v1 v2 d) (hb : base' ≤ base) : ODKp w base' v1 v2 d := ⟨h.1.mono hb, h.2.1.mono hb, h.2.2⟩
def ODK (w : World) (base : Nat) (v : Value) (d : DK) : Prop := ∃ A c B e, v = .agg #[.int .i64 d.f.l, .int .i64 d.f.w, .int .i64 d.f.h, .int .i64 d.f.j, .string d.nm, .slice A d.cs.length c, .slice B d.wall.length e, .string d.log] ∧
  ODKp w base (.slice A d.cs.length c) (.slice B d.wall.length e) d
theorem ODK.rd {w : World} {base : Nat} {v : Value} {d : DK} (h : ODK w base v d) : RDK w v d := by
 obtain ⟨A, c, B, e, rfl, h1, h2, _⟩ := h; exact ⟨A, c, B, e, rfl, h1.rd, h2.rd⟩
theorem ODK.ext {w w' : World} {base : Nat} {v : Value} {d : DK} (h : ODK w base v d) (hb : Below w.heap.size w w') : ODK w' base v d := by
 obtain ⟨A, c, B, e, rfl, h⟩ := h; exact ⟨A, c, B, e, rfl, h.ext hb⟩
theorem ODK.mono {w : World} {base base' : Nat} {v : Value} {d : DK} (h : ODK w base v d) (hb : base' ≤ base) : ODK w base' v d := by
 obtain ⟨A, c, B, e, rfl, h⟩ := h; exact ⟨A, c, B, e, rfl, h.mono hb⟩
def BDK (v : Value) : Nat → Prop := fun k => BI (v.cells.getD 5 undef) k ∨ BI (v.cells.getD 6 undef) k
theorem ODK.ge {w : World} {base : Nat} {v : Value} {d : DK} (h : ODK w base v d) : ∀ k, BDK v k → base ≤ k ∧ k < w.heap.size := by
 obtain ⟨A, c, B, e, rfl, h1, h2, _⟩ := h
 intro k hk
 rcases hk with hk | hk
 · exact h1.ge k hk
 · exact h2.ge k hk
theorem ODK.chg {S : Nat → Prop} {w w' : World} {base : Nat} {v : Value} {d : DK} (h : ODK w base v d) (hb : Chg S w w') (hS : ∀ k, BDK v k → ¬ S k) : ODK w' base v d := by
 obtain ⟨A, c, B, e, rfl, h1, h2, h3⟩ := h
 exact ⟨A, c, B, e, rfl, h1.chg hb fun k hk => hS k (.inl hk), h2.chg hb fun k hk => hS k (.inr hk), h3⟩
/-! ### Sizes -/
def totStr (l : List ByteArray) : Nat := (l.map fun o => o.size).sum
theorem totStr_succ {l : List ByteArray} {k : Nat} (hk : k < l.length) : totStr (l.take (k + 1)) = totStr (l.take k) + (gd l k).size := by unfold totStr; rw [take_gd hk]; simp
theorem totStr_le (l : List ByteArray) (k : Nat) : totStr (l.take k) ≤ totStr l := by
 have h : l = l.take k ++ l.drop k := (List.take_append_drop k l).symm
 have : totStr l = totStr (l.take k) + totStr (l.drop k) := by unfold totStr; rw [← List.sum_append, ← List.map_append, ← h]
 omega
def szStr (l : List ByteArray) (left : Int) : Int := szN left (l.length + totStr l)
def LenStr (l : List ByteArray) : Prop := l.length ≤ maxLen ∧ ∀ o ∈ l, o.size ≤ maxLen
set_option maxHeartbeats 800000 in
theorem sz_Str (v : Value) (l : List ByteArray) (left : Int) (h1 : 0 ≤ left) (h2 : left ≤ 1048576) (w : World) (hl : LenStr l) (ha : RStr w v l) :
   Calls Tryz.prog 31 #[v, .int .i64 left] w (Ret (.int .i64 (szStr l left)) w) := by
 obtain ⟨A, c, rfl, hc1, hc2⟩ := ha.open_
 have HA := Lib.hid ha; clear ha
 have HL := Lib.hid hl; clear hl
 unfold maxLen at hc2
 go_enter Tryz.func31, Tryz.ntmps31
 by_cases hlt0 : left < l.length
 · go_wp2_with fail
   go_ret
   exact ⟨ret_int (by unfold szStr szN; rw [if_pos (by omega)]), ext_refl w⟩
 · have e0 : ¬ left - (l.length : Int) < 0 := by omega
   go_wp2_with fail
   go_loopw [5, 1] (fun i q wr => ∃ (k : Nat) (s : Int), k ≤ l.length ∧ i = .int .i64 k ∧ q = .int .i64 s ∧ Hid (s = left - l.length - totStr (l.take k)) ∧ 0 ≤ s ∧ s ≤ 1048576 ∧ Below w.heap.size w wr) (fun i _ _ => l.length - (intOf i).toNat)
   case atStart => exact ⟨0, _, Nat.zero_le _, rfl, rfl, (by unfold Hid; simp [totStr]), by omega, by omega, ext_refl _⟩
   case round =>
     obtain ⟨k, s, hk, rfl, rfl, HS, hs1, hs2, hbw⟩ := hrel
     have HB := Lib.hid hbw
     have HAw := Lib.hid (HA.out.ext hbw); clear hbw
     by_cases hlt : k < l.length
     · obtain ⟨ad, rfl, hbd, hc⟩ := HAw.out.at hlt
       have h0 := hc k hlt
       clear hc hbd
       have e1 : (0:Int) ≤ k := by omega
       have e2 : (k:Int) < l.length := by omega
       have hone : (gd l k).size ≤ maxLen := HL.out.2 _ (gd_mem hlt)
       unfold maxLen at hone
       have HT := Lib.hid (totStr_succ hlt)
       have HT2 := Lib.hid (totStr_le l (k + 1))
       by_cases hq : s < (gd l k).size
       · have HF : Hid (szStr l left = -1) := Lib.hid (by
           have h1 := HT.out; have h2 := HT2.out; have h3 := HS.out
           unfold szStr szN; rw [if_pos (by omega)])
         have e3 : s - ((gd l k).size : Int) < 0 := by omega
         go_wp2_with fail
         go_ret
         exact ⟨ret_int HF.out.symm, HB.out⟩
       · have HS2 : Hid (s - ((gd l k).size : Int) = left - l.length - totStr (l.take (k + 1))) := Lib.hid (by have h1 := HT.out; have h3 := HS.out; omega)
         have e3 : ¬ s - ((gd l k).size : Int) < 0 := by omega
         go_wp2_with fail
         go_roundw
         case rel => exact ⟨k + 1, _, by omega, by go_num, rfl, HS2.out, by omega, by omega, HB.out⟩
         case measure => simp [intOf]; omega
     · have hkn : k = l.length := by omega
       subst hkn
       have HF : Hid (szStr l left = s) := Lib.hid (by
         have h3 := HS.out
         rw [List.take_length] at h3
         unfold szStr szN; rw [if_neg (by omega)]; omega)
       go_wp2_with fail
       go_ret
       exact ⟨ret_int HF.out.symm, HB.out⟩
def totDK (d : DK) : Nat := d.nm.size + (d.cs.length + totCO d.cs) + (d.wall.length + totStr d.wall) + d.log.size
def szDK (d : DK) (left : Int) : Int := szN left (totDK d)
theorem szDK_le (d : DK) {left : Int} (h : left ≤ 1048576) : szDK d left ≤ 1048576 ∧ -1 ≤ szDK d left := szN_le _ _ h
def SmDK (d : DK) : Prop := totDK d ≤ 1048576
def LenDK (d : DK) : Prop := d.nm.size ≤ maxLen ∧ LenCOS d.cs ∧ LenStr d.wall ∧ d.log.size ≤ maxLen
theorem ok_DK {d : DK} {left : Int} (h2 : left ≤ 1048576) (h : 0 ≤ szDK d left) : 0 ≤ left ∧ SmDK d := by
 have h1 := szN_ok h
 have h3 := szN_pos h
 unfold SmDK; omega
theorem szN_add (left : Int) (a b : Nat) (h : 0 ≤ szN left a) : szN (szN left a) b = szN left (a + b) := by
 unfold szN at *
 split at h
 · omega
 · rename_i h1
   rw [if_neg h1]
   split <;> split <;> omega
theorem szN_neg {left : Int} {a : Nat} (b : Nat) (h0 : 0 ≤ left) (h : ¬ 0 ≤ szN left a) : szN left a = -1 ∧ szN left (a + b) = -1 := by
 unfold szN at *
 split at h
 · rename_i h1
   exact ⟨by rw [if_pos h1], by rw [if_pos (by omega)]⟩
 · omega
set_option maxHeartbeats 800000 in
theorem sz_bond (A : Option Addr) (c : Nat) (nm : ByteArray) (cs : List CO) (left : Int) (h1 : 0 ≤ left) (h2 : left ≤ 1048576) (w : World) (hn : nm.size ≤ maxLen) (hl : LenCOS cs) (ha : RCOS w (.slice A cs.length c) cs) :
   Calls Tryz.prog 30 #[.agg #[.string nm, .slice A cs.length c], .int .i64 left] w (Ret (.int .i64 (szN left (nm.size + (cs.length + totCO cs)))) w) := by
 unfold maxLen at hn
 have HA := Lib.hid ha; clear ha
 have HL := Lib.hid hl; clear hl
 by_cases hq : left < nm.size
 · have HF : Hid (szN left (nm.size + (cs.length + totCO cs)) = -1) := Lib.hid (by unfold szN; rw [if_pos (by omega)])
   go_enter Tryz.func30, Tryz.ntmps30
   go_wp2_with fail
   go_ret
   exact ⟨ret_int HF.out.symm, ext_alloc1 _ _⟩
 · have e1 : szN left nm.size = left - nm.size := by unfold szN; rw [if_neg hq]
   have HE : Hid (szN left (nm.size + (cs.length + totCO cs)) = szCOS cs (left - nm.size)) := Lib.hid (by
     rw [← szN_add _ _ _ (by omega), e1]; rfl)
   have hb := szCOS_le cs (left := left - nm.size) (by omega)
   have HC := Lib.hid (fun w h => sz_COS (.slice A cs.length c) cs (left - nm.size) (by omega) (by omega) w HL.out h)
   obtain ⟨z, hz⟩ : ∃ z, szCOS cs (left - nm.size) = z := ⟨_, rfl⟩
   rw [hz] at HE HC hb
   clear hz e1
   go_enter Tryz.func30, Tryz.ntmps30
   by_cases hz : z < 0
   · go_wp2_with fail
     refine (show Calls _ _ _ _ _ from HC.out _ (HA.out.alloc _)).mono ?_
     rintro e w1 ⟨rfl, hb1⟩
     have HB := Lib.hid (ext_trans (ext_alloc1 _ _) hb1)
     clear hb1
     go_wp2_with fail
     go_ret
     exact ⟨ret_int (by rw [HE.out]; omega), HB.out⟩
   · go_wp2_with fail
     refine (show Calls _ _ _ _ _ from HC.out _ (HA.out.alloc _)).mono ?_
     rintro e w1 ⟨rfl, hb1⟩
     have HB := Lib.hid (ext_trans (ext_alloc1 _ _) hb1)
     clear hb1
     go_wp2_with fail
     go_ret
     exact ⟨ret_int (by rw [HE.out]), HB.out⟩
set_option maxHeartbeats 1600000 in
theorem sz_DK (v : Value) (d : DK) (left : Int) (h1 : 0 ≤ left) (h2 : left ≤ 1048576) (w : World) (hl : LenDK d) (ha : RDK w v d) :
   Calls Tryz.prog 8 #[v, .int .i64 left] w (Ret (.int .i64 (szDK d left)) w) := by
 obtain ⟨A, c, B, e, rfl, hcs, hwl⟩ := ha
 obtain ⟨l1, l2, l3, l4⟩ := hl
 unfold maxLen at l4
 have HCS := Lib.hid hcs
 have HWL := Lib.hid hwl
 have HL := Lib.hid l3
 have HC := Lib.hid (fun w h => sz_bond A c d.nm d.cs left h1 h2 w l1 l2 h)
 have HX : Hid (totDK d = (d.nm.size + (d.cs.length + totCO d.cs)) + (d.wall.length + totStr d.wall) + d.log.size) := Lib.hid rfl
 clear hcs hwl l1 l2 l3
 obtain ⟨n1, hn1⟩ : ∃ n, d.nm.size + (d.cs.length + totCO d.cs) = n := ⟨_, rfl⟩
 rw [hn1] at HC HX
 clear hn1
 have hz1 := szN_le left n1 h2
 by_cases hq : 0 ≤ szN left n1
 · have HQ := Lib.hid hq
   have HC2 := Lib.hid (fun w h => sz_Str (.slice B d.wall.length e) d.wall (szN left n1) hq hz1.1 w HL.out h)
   have HY : Hid (szStr d.wall (szN left n1) = szN left (n1 + (d.wall.length + totStr d.wall))) := Lib.hid (szN_add _ _ _ hq)
   rw [HY.out] at HC2
   obtain ⟨n2, hn2⟩ : ∃ n, n1 + (d.wall.length + totStr d.wall) = n := ⟨_, rfl⟩
   rw [hn2] at HC2 HX
   clear hn2 HY
   have hz2 := szN_le left n2 h2
   obtain ⟨z1, hzz1⟩ : ∃ z, szN left n1 = z := ⟨_, rfl⟩
   rw [hzz1] at HC HC2 hq hz1
   clear hzz1 HQ
   have hq' : ¬ z1 < 0 := by omega
   by_cases hr : 0 ≤ szN left n2
   · have hzz2 : szN left n2 = left - n2 := by unfold szN at *; split at hr <;> omega
     by_cases hs : left - n2 < d.log.size
     · have HF : Hid (szDK d left = -1) := Lib.hid (by unfold szDK szN; rw [HX.out, if_pos (by omega)])
       obtain ⟨z2, hz3⟩ : ∃ z, szN left n2 = z := ⟨_, rfl⟩
       have e1 : ¬ z2 < 0 := by omega
       have e2 : z2 - (d.log.size : Int) < 0 := by omega
       rw [hz3] at HC2
       clear hzz2 hr hz2
       go_enter Tryz.func8, Tryz.ntmps8
       go_wp2_with fail
       refine (show Calls _ _ _ _ _ from HC.out _ (HCS.out.alloc _)).mono ?_
       rintro e w1 ⟨rfl, hb1⟩
       have HB1 := Lib.hid (ext_trans (ext_alloc1 _ _) hb1)
       have HB0 := Lib.hid hb1
       have hk := cell_keep (p := ⟨w.heap.size, 7, none⟩) (v := .string d.log) (by simp [go_sem]) hb1
       have hk6 := cell_keep (p := ⟨w.heap.size, 6, none⟩) (v := .slice B d.wall.length e) (by simp [go_sem]) hb1
       clear hb1
       go_wp2_with fail
       refine (show Calls _ _ _ _ _ from HC2.out _ (HWL.out.ext HB1.out)).mono ?_
       rintro e w2 ⟨rfl, hb2⟩
       have HB2 := Lib.hid (ext_trans HB1.out hb2)
       replace hk := cell_keep hk hb2
       clear hb2 hk6
       go_wp2_with fail
       go_ret
       exact ⟨ret_int HF.out.symm, HB2.out⟩
     · have HF : Hid (szDK d left = szN left n2 - d.log.size) := Lib.hid (by unfold szDK; rw [HX.out, hzz2]; unfold szN; rw [if_neg (by omega)]; omega)
       obtain ⟨z2, hz3⟩ : ∃ z, szN left n2 = z := ⟨_, rfl⟩
       have e1 : ¬ z2 < 0 := by omega
       have e2 : ¬ z2 - (d.log.size : Int) < 0 := by omega
       rw [hz3] at HC2 HF hz2
       clear hzz2 hr
       go_enter Tryz.func8, Tryz.ntmps8
       go_wp2_with fail
       refine (show Calls _ _ _ _ _ from HC.out _ (HCS.out.alloc _)).mono ?_
       rintro e w1 ⟨rfl, hb1⟩
       have HB1 := Lib.hid (ext_trans (ext_alloc1 _ _) hb1)
       have hk := cell_keep (p := ⟨w.heap.size, 7, none⟩) (v := .string d.log) (by simp [go_sem]) hb1
       have hk6 := cell_keep (p := ⟨w.heap.size, 6, none⟩) (v := .slice B d.wall.length e) (by simp [go_sem]) hb1
       clear hb1
       go_wp2_with fail
       refine (show Calls _ _ _ _ _ from HC2.out _ (HWL.out.ext HB1.out)).mono ?_
       rintro e w2 ⟨rfl, hb2⟩
       have HB2 := Lib.hid (ext_trans HB1.out hb2)
       replace hk := cell_keep hk hb2
       clear hb2 hk6
       go_wp2_with fail
       go_ret
       exact ⟨ret_int HF.out.symm, HB2.out⟩
   · have hzz2 := szN_neg d.log.size h1 hr
     have HF : Hid (szDK d left = -1) := Lib.hid (by unfold szDK; rw [HX.out]; exact hzz2.2)
     rw [hzz2.1] at HC2
     clear hzz2 hr hz2
     go_enter Tryz.func8, Tryz.ntmps8
     go_wp2_with fail
     refine (show Calls _ _ _ _ _ from HC.out _ (HCS.out.alloc _)).mono ?_
     rintro e w1 ⟨rfl, hb1⟩
     have HB1 := Lib.hid (ext_trans (ext_alloc1 _ _) hb1)
     have hk6 := cell_keep (p := ⟨w.heap.size, 6, none⟩) (v := .slice B d.wall.length e) (by simp [go_sem]) hb1
     clear hb1
     go_wp2_with fail
     refine (show Calls _ _ _ _ _ from HC2.out _ (HWL.out.ext HB1.out)).mono ?_
     rintro e w2 ⟨rfl, hb2⟩
     have HB2 := Lib.hid (ext_trans HB1.out hb2)
     clear hb2 hk6
     go_wp2_with fail
     go_ret
     exact ⟨ret_int HF.out.symm, HB2.out⟩
 · have hzz1 := szN_neg ((d.wall.length + totStr d.wall) + d.log.size) h1 hq
   have HF : Hid (szDK d left = -1) := Lib.hid (by unfold szDK; rw [HX.out, Nat.add_assoc]; exact hzz1.2)
   rw [hzz1.1] at HC
   clear hzz1 hq hz1
   go_enter Tryz.func8, Tryz.ntmps8
   go_wp2_with fail
   refine (show Calls _ _ _ _ _ from HC.out _ (HCS.out.alloc _)).mono ?_
   rintro e w1 ⟨rfl, hb1⟩
   have HB1 := Lib.hid (ext_trans (ext_alloc1 _ _) hb1)
   clear hb1
   go_wp2_with fail
   go_ret
   exact ⟨ret_int HF.out.symm, HB1.out⟩
/-! ### toDesk -/
set_option maxHeartbeats 1600000 in
theorem to_Str (v : Value) (l : List ByteArray) (w : World) (ha : RStr w v l) (hsm : l.length ≤ 1048576) :
   Calls Tryz.prog 36 #[v] w fun e w' => ∃ A' c', e = .returned (.slice A' l.length c') ∧ OStr w' w.heap.size (.slice A' l.length c') l ∧ Below w.heap.size w w' := by
 obtain ⟨A, c, rfl, hc1, hc2⟩ := ha.open_
 have HA := Lib.hid ha; clear ha
 unfold maxLen at hc2
 obtain ⟨i0, hi, hz0, hz1, hz2⟩ := info_parts info_str
 have hb : i0.bytes * l.length ≤ 281474976710656 := by rw [hz2]; omega
 have HZ2 := Lib.hid hz2; clear hz2
 go_enter Tryz.func36, Tryz.ntmps36
 go_wp2_with (refine wpList_make_full _ rfl _ _ _ rfl w.heap.size 9 i0 (.string ⟨#[]⟩) 1 Tryz.underlying29 hi hz0 hz1 .i64 .i64 _ _ l.length rfl rfl rfl rfl hb (by unfold maxLen; omega) (Nat.le_refl _) ?_; intro w1 hown1 hgrow1)
 go_loopw [4] (fun i wr => ∃ (k : Nat) (F : Nat → Value), k ≤ l.length ∧ i = .int .i64 k ∧ Hid (ORow wr w.heap.size 9 1 (.slice (some ⟨w.heap.size, 0, none⟩) l.length l.length) l.length F) ∧ Hid (∀ j, j < k → F j = .string (gd l j)) ∧ Below w.heap.size w wr) (fun i _ => l.length - (intOf i).toNat)
 case atStart => exact ⟨0, _, Nat.zero_le _, rfl, Lib.hid (ORow.of hown1), (fun j hj => by omega), (ext_refl w).grown hgrow1 (Nat.le_refl _) (by simp)⟩
 case round =>
   obtain ⟨k, F, hk, rfl, HO, HF, hbw⟩ := hrel
   have HB := Lib.hid hbw
   have HAw := Lib.hid (HA.out.ext hbw); clear hbw
   by_cases hlt : k < l.length
   · obtain ⟨ad, rfl, hbd, hc⟩ := HAw.out.at hlt
     have h0 := hc k hlt
     clear hc hbd
     have e1 : (0:Int) ≤ k := by omega
     have e2 : (k:Int) < l.length := by omega
     have hc0 := HO.out.cell (j := k) (by omega)
     have hf0 := HO.out.frozen k
     go_wp2_with fail
     have HO3 := Lib.hid (HO.out.set k (.string (gd l k)))
     go_roundw
     case rel =>
       refine ⟨k + 1, _, by omega, by go_num, HO3.out, (fun j hj => ?_), HB.out.setCell (p := ⟨w.heap.size, k, none⟩) (Nat.le_refl _) (.string (gd l k))⟩
       rcases (show j < k ∨ j = k by omega) with h | rfl
       · rw [if_neg (by omega)]
         exact HF.out j h
       · rw [if_pos rfl]
     case measure => simp [intOf]; omega
   · have hkn : k = l.length := by omega
     subst hkn
     go_wp2_with fail
     go_ret
     refine ⟨_, _, rfl, ?_, HB.out⟩
     have h9 := HO.out
     unfold ORow at h9
     have h8 : (List.range (l.length * 1)).map F = l.map Value.string := by
       apply List.ext_getElem
       · simp
       · intro j h1 h2
         have hj : j < l.length := by simpa using h2
         simp only [List.getElem_map, List.getElem_range]
         rw [HF.out j hj, gd_eq hj]
     rw [h8] at h9
     exact h9
theorem to_FM (a b c d : Int) (w : World) :
   Calls Tryz.prog 34 #[.agg #[.int .i64 a, .int .i64 b, .int .i64 c, .int .i64 d]] w (Ret (.agg #[.int .i64 a, .int .i64 b, .int .i64 c, .int .i64 d]) w) := by
 go_enter Tryz.func34, Tryz.ntmps34
 go_wp2_with fail
 refine bodyPost_ret (v := .agg #[.int .i64 a, .int .i64 b, .int .i64 c, .int .i64 d]) (by simp [results, Tryz.results34, go_sem]) rfl ⟨rfl, ?_⟩
 repeat (refine ext_set ?_ (by simp; try omega) _)
 exact ext_alloc (ext_alloc (ext_alloc1 w _) _) _
theorem eq_FM (a b c d : Int) (w : World) :
   Calls Tryz.prog 45 #[.agg #[.int .i64 a, .int .i64 b, .int .i64 c, .int .i64 d], .agg #[.int .i64 a, .int .i64 b, .int .i64 c, .int .i64 d]] w (Ret (.bool true) w) := by
 go_enter Tryz.func45, Tryz.ntmps45
 go_wp2_with fail
 go_ret
 exact ⟨rfl, ext_alloc (ext_alloc1 _ _) _⟩
set_option maxHeartbeats 800000 in
theorem to_bond (A : Option Addr) (c : Nat) (nm : ByteArray) (cs : List CO) (w : World) (hsm : SmCOS cs) (ha : RCOS w (.slice A cs.length c) cs) :
   Calls Tryz.prog 35 #[.agg #[.string nm, .slice A cs.length c]] w fun e w' => ∃ A' c', e = .returned (.agg #[.string nm, .slice A' cs.length c']) ∧ OCOS w' w.heap.size (.slice A' cs.length c') cs ∧ Below w.heap.size w w' := by
 have HA := Lib.hid ha; clear ha
 have HS := Lib.hid hsm; clear hsm
 go_enter Tryz.func35, Tryz.ntmps35
 go_wp2_with (go_at_call 76; refine (to_COS _ cs _ (((HA.out.alloc _).alloc _).alloc _) HS.out).mono ?_; rintro e w1 ⟨A', c', rfl, hO, hb⟩; (have HO := Lib.hid hO; clear hO); (have HB := Lib.hid hb); (obtain ⟨hc, hfz⟩ := bcell hb); (have hz := hb.size); clear hb; simp at hz)
 refine bodyPost_ret (v := .agg #[.string nm, .slice A' cs.length c']) (by simp [results, Tryz.results35, go_sem, hc]) rfl ⟨_, _, rfl, ?_, ?_⟩
 · have h1 := HO.out
   simp only [World.size_alloc] at h1
   refine OCOS.mono (base := w.heap.size + 1 + 1 + 1) ?_ (by omega)
   unfold OCOS at h1 ⊢
   repeat (refine ownsRow_setCell_below ?_ (by simp; try omega) _)
   exact h1
 · repeat (refine ext_set ?_ (by simp; try omega) _)
   exact ext_trans (ext_alloc (ext_alloc (ext_alloc1 w _) _) _) HB.out
theorem eq_bond (A B : Option Addr) (c d : Nat) (nm : ByteArray) (cs : List CO) (w : World) (ha : RCOS w (.slice A cs.length c) cs) (hb : RCOS w (.slice B cs.length d) cs) :
   Calls Tryz.prog 46 #[.agg #[.string nm, .slice A cs.length c], .agg #[.string nm, .slice B cs.length d]] w (Ret (.bool true) w) := by
 have HA := Lib.hid ha; clear ha
 have HB := Lib.hid hb; clear hb
 go_enter Tryz.func46, Tryz.ntmps46
 go_wp2_with (go_at_call 103; refine (eq_COS _ _ cs _ ((HA.out.alloc _).alloc _) ((HB.out.alloc _).alloc _)).mono ?_; rintro e w1 ⟨rfl, hb⟩)
 go_ret
 exact ⟨rfl, ext_trans (ext_alloc (ext_alloc1 w _) _) hb⟩
theorem OCOS.put {w : World} {base : Nat} {v : Value} {l : List CO} (h : OCOS w base v l) {q : Nat} (hq : q < base) (j : Nat) (u : Value) : OCOS (w.setCell ⟨q, j, none⟩ u) base v l := ownsRow_setCell_below h hq u
theorem OStr.put {w : World} {base : Nat} {v : Value} {l : List ByteArray} (h : OStr w base v l) {q : Nat} (hq : q < base) (j : Nat) (u : Value) : OStr (w.setCell ⟨q, j, none⟩ u) base v l := ownsRow_setCell_below h hq u
structure TB (w W : World) (p q r : Nat) (bx o z : List Value) : Prop where
 b : Below w.heap.size w W
 hq : w.heap.size ≤ q
 hr : w.heap.size ≤ r
 ne : p ≠ q
 nr : r ≠ q
 hp : p < W.heap.size
 hq2 : q < W.heap.size
 hr2 : r < W.heap.size
 cb : ∀ j v, bx[j]? = some v → W.cell? ⟨p, j, none⟩ = some v
 co : ∀ j v, o[j]? = some v → W.cell? ⟨q, j, none⟩ = some v
 cr : ∀ j v, z[j]? = some v → W.cell? ⟨r, j, none⟩ = some v
 fr : ∀ j, W.frozen? ⟨q, j, none⟩ = false
 fz : ∀ j, W.frozen? ⟨r, j, none⟩ = false
theorem TB.ext {w W W' : World} {p q r : Nat} {bx o z : List Value} (h : TB w W p q r bx o z) (hb : Below W.heap.size W W') : TB w W' p q r bx o z :=
 ⟨ext_trans h.b hb, h.hq, h.hr, h.ne, h.nr, Nat.lt_of_lt_of_le h.hp hb.size, Nat.lt_of_lt_of_le h.hq2 hb.size, Nat.lt_of_lt_of_le h.hr2 hb.size, fun j v hv => cell_keep (h.cb j v hv) hb, fun j v hv => cell_keep (h.co j v hv) hb, fun j v hv => cell_keep (h.cr j v hv) hb, fun j => by rw [(bcell hb).2 q j h.hq2]; exact h.fr j, fun j => by rw [(bcell hb).2 r j h.hr2]; exact h.fz j⟩
theorem TB.set {w W : World} {p q r : Nat} {bx o z : List Value} (h : TB w W p q r bx o z) (j : Nat) (hj : j < o.length) (u : Value) : TB w (W.setCell ⟨q, j, none⟩ u) p q r bx (o.set j u) z := by
 refine ⟨ext_set h.b h.hq u, h.hq, h.hr, h.ne, h.nr, by simpa using h.hp, by simpa using h.hq2, by simpa using h.hr2, fun k v hv => ?_, fun k v hv => ?_, fun k v hv => ?_, fun k => by simpa using h.fr k, fun k => by simpa using h.fz k⟩
 · rw [World.cell?_setCell_other _ _ _ _ (by intro e; injection e with e1 _ _; exact h.ne e1.symm)]
   exact h.cb k v hv
 · by_cases hk : j = k
   · subst hk
     rw [List.getElem?_set_self hj] at hv
     injection hv with hv
     subst hv
     exact World.cell?_setCell_same _ _ _ (h.co j _ (List.getElem?_eq_getElem hj))
   · rw [List.getElem?_set_ne hk] at hv
     rw [World.cell?_setCell_other _ _ _ _ (by intro e; injection e with _ e2 _; exact hk e2)]
     exact h.co k v hv
 · rw [World.cell?_setCell_other _ _ _ _ (by intro e; injection e with e1 _ _; exact h.nr e1.symm)]
   exact h.cr k v hv
set_option maxHeartbeats 3200000 in
theorem to_DK (v : Value) (d : DK) (w : World) (ha : RDK w v d) (hsm : SmDK d) :
   Calls Tryz.prog 10 #[v] w fun e w' => ∃ v', e = .returned v' ∧ ODK w' w.heap.size v' d ∧ Below w.heap.size w w' := by
 obtain ⟨A, c, B, e, rfl, hcs, hwl⟩ := ha
 have HC := Lib.hid hcs; clear hcs
 have HW := Lib.hid hwl; clear hwl
 have HS : Hid (SmCOS d.cs) := Lib.hid (by unfold SmDK totDK at hsm; unfold SmCOS; omega)
 have HS2 : Hid (d.wall.length ≤ 1048576) := Lib.hid (by unfold SmDK totDK at hsm; omega)
 clear hsm
 go_enter Tryz.func10, Tryz.ntmps10
 go_wp2_with fail
 refine (to_FM _ _ _ _ _).mono ?_
 rintro e w1 ⟨rfl, hb1⟩
 have HT : Hid (TB w w1 w.heap.size (w.heap.size + 1 + 1) (w.heap.size + 1) [.int .i64 d.f.l, .int .i64 d.f.w, .int .i64 d.f.h, .int .i64 d.f.j, .string d.nm, .slice A d.cs.length c, .slice B d.wall.length e, .string d.log] [.int .i64 0, .int .i64 0, .int .i64 0, .int .i64 0, .string ⟨#[]⟩, .slice none 0 0, .slice none 0 0, .string ⟨#[]⟩] [.int .i64 0, .int .i64 0, .int .i64 0, .int .i64 0, .string ⟨#[]⟩, .slice none 0 0, .slice none 0 0, .string ⟨#[]⟩]) := Lib.hid (by
   refine TB.ext ⟨ext_alloc (ext_alloc (ext_alloc1 w _) _) _, by omega, by omega, by omega, by omega, by simp; omega, by simp, by simp, ?_, ?_, ?_, ?_, ?_⟩ hb1
   · intro j v hv
     obtain ⟨hj, rfl⟩ := List.getElem?_eq_some_iff.1 hv
     match j, hj with
     | 0, _ | 1, _ | 2, _ | 3, _ | 4, _ | 5, _ | 6, _ | 7, _ => simp [go_sem]
   · intro j v hv
     obtain ⟨hj, rfl⟩ := List.getElem?_eq_some_iff.1 hv
     match j, hj with
     | 0, _ | 1, _ | 2, _ | 3, _ | 4, _ | 5, _ | 6, _ | 7, _ => simp [go_sem]
   · intro j v hv
     obtain ⟨hj, rfl⟩ := List.getElem?_eq_some_iff.1 hv
     match j, hj with
     | 0, _ | 1, _ | 2, _ | 3, _ | 4, _ | 5, _ | 6, _ | 7, _ => simp [go_sem]
   · intro j
     simp [go_sem]
   · intro j
     simp [go_sem])
 clear hb1
 generalize w.heap.size + 1 + 1 = q at *
 generalize w.heap.size + 1 = r at *
 have o0 := HT.out.co 0 _ rfl
 have o1 := HT.out.co 1 _ rfl
 have o2 := HT.out.co 2 _ rfl
 have o3 := HT.out.co 3 _ rfl
 have f := HT.out.fr
 have b4 := HT.out.cb 4 _ rfl
 have b5 := HT.out.cb 5 _ rfl
 go_wp2_with fail
 have HT2 := Lib.hid ((((HT.out.set 0 (by simp) (.int .i64 d.f.l)).set 1 (by simp) (.int .i64 d.f.w)).set 2 (by simp) (.int .i64 d.f.h)).set 3 (by simp) (.int .i64 d.f.j))
 clear HT o0 o1 o2 o3 f b4 b5
 refine (to_bond A c d.nm d.cs _ HS.out (HC.out.ext HT2.out.b)).mono ?_
 rintro e w2 ⟨A2, c2, rfl, hO2, hb2⟩
 have HT3 := Lib.hid (HT2.out.ext hb2)
 have z1 := HT2.out.b.size
 have z2 := HT2.out.hq2
 have z3 := hb2.size
 have HO2 := Lib.hid hO2
 have z4 := HT3.out.hq
 have z6 := HT2.out.hr2
 have z7 := HT2.out.hr
 clear hb2 hO2 HT2
 simp only [World.size_setCell] at z1 z2 z3 HO2 z6
 have o4 := HT3.out.co 4 _ rfl
 have o5 := HT3.out.co 5 _ rfl
 have f := HT3.out.fr
 have b6 := HT3.out.cb 6 _ rfl
 go_wp2_with fail
 have HT4 := Lib.hid ((HT3.out.set 4 (by simp) (.string d.nm)).set 5 (by simp) (.slice A2 d.cs.length c2))
 have HO3 : Hid (OCOS _ w1.heap.size (.slice A2 d.cs.length c2) d.cs) := Lib.hid ((HO2.out.put z2 4 (.string d.nm)).put z2 5 (.slice A2 d.cs.length c2))
 clear HT3 HO2 o4 o5 f b6
 refine (to_Str _ d.wall _ (HW.out.ext HT4.out.b) HS2.out).mono ?_
 rintro e w3 ⟨A3, c3, rfl, hO3, hb3⟩
 have HT5 := Lib.hid (HT4.out.ext hb3)
 have HO4 := Lib.hid (HO3.out.ext hb3)
 have HG := Lib.hid HO3.out.ge
 have HP := Lib.hid hO3
 have z5 := hb3.size
 clear hb3 hO3 HT4 HO3
 simp only [World.size_setCell] at z5 HP HG
 have o6 := HT5.out.co 6 _ rfl
 have f := HT5.out.fr
 have b7 := HT5.out.cb 7 _ rfl
 have o0 := HT5.out.co 0 _ rfl
 have o1 := HT5.out.co 1 _ rfl
 have o2 := HT5.out.co 2 _ rfl
 have o3 := HT5.out.co 3 _ rfl
 have o4 := HT5.out.co 4 _ rfl
 have o5 := HT5.out.co 5 _ rfl
 have o7 := HT5.out.co 7 _ rfl
 have r0 := HT5.out.cr 0 _ rfl
 have r1 := HT5.out.cr 1 _ rfl
 have r2 := HT5.out.cr 2 _ rfl
 have r3 := HT5.out.cr 3 _ rfl
 have r4 := HT5.out.cr 4 _ rfl
 have r5 := HT5.out.cr 5 _ rfl
 have r6 := HT5.out.cr 6 _ rfl
 have r7 := HT5.out.cr 7 _ rfl
 have fz := HT5.out.fz
 have nr := HT5.out.nr
 have nr2 := nr.symm
 go_wp2_with fail
 have HT6 := Lib.hid ((HT5.out.set 6 (by simp) (.slice A3 d.wall.length c3)).set 7 (by simp) (.string d.log))
 have HO5 := Lib.hid ((HO4.out.put z2 6 (.slice A3 d.wall.length c3)).put z2 7 (.string d.log))
 have HP5 := Lib.hid ((HP.out.put (show q < w2.heap.size by omega) 6 (.slice A3 d.wall.length c3)).put (show q < w2.heap.size by omega) 7 (.string d.log))
 have HAP : Hid (∀ k, BI (.slice A2 d.cs.length c2) k → ¬ BI (.slice A3 d.wall.length c3) k) := Lib.hid (fun k h1 h2 => by have g1 := HG.out k h1; have g2 := HP.out.ge k h2; omega)
 refine bodyPost_ret (v := .agg #[.int .i64 d.f.l, .int .i64 d.f.w, .int .i64 d.f.h, .int .i64 d.f.j, .string d.nm, .slice A2 d.cs.length c2, .slice A3 d.wall.length c3, .string d.log]) (by simp [results, Tryz.results10, go_sem, r0, r1, r2, r3, r4, r5, r6, r7]) rfl ⟨_, rfl, ⟨_, _, _, _, rfl, ?_, ?_, HAP.out⟩, ?_⟩
 · exact ((((((((HO5.out.put z6 0 _).put z6 1 _).put z6 2 _).put z6 3 _).put z6 4 _).put z6 5 _).put z6 6 _).put z6 7 _).mono z1
 · have z8 : r < w2.heap.size := by omega
   exact ((((((((HP5.out.put z8 0 _).put z8 1 _).put z8 2 _).put z8 3 _).put z8 4 _).put z8 5 _).put z8 6 _).put z8 7 _).mono (by omega)
 · have z9 : ∀ j, w.heap.size ≤ (⟨r, j, none⟩ : Addr).block := fun _ => z7
   exact ext_set (ext_set (ext_set (ext_set (ext_set (ext_set (ext_set (ext_set HT6.out.b (z9 0) _) (z9 1) _) (z9 2) _) (z9 3) _) (z9 4) _) (z9 5) _) (z9 6) _) (z9 7) _
set_option maxHeartbeats 1600000 in
theorem eq_DK (v1 v2 : Value) (d : DK) (w : World) (ha : RDK w v1 d) (hb : RDK w v2 d) :
   Calls Tryz.prog 12 #[v1, v2] w (Ret (.bool true) w) := by
 obtain ⟨A, c, B, e, rfl, hcs, hwl⟩ := ha
 obtain ⟨A', c', B', e', rfl, hcs', hwl'⟩ := hb
 have HC := Lib.hid hcs; clear hcs
 have HW := Lib.hid hwl; clear hwl
 have HC' := Lib.hid hcs'; clear hcs'
 have HW' := Lib.hid hwl'; clear hwl'
 go_enter Tryz.func12, Tryz.ntmps12
 go_wp2_with fail
 refine (eq_FM _ _ _ _ _).mono ?_
 rintro e w1 ⟨rfl, hb1⟩
 have k4 := cell_keep (p := ⟨w.heap.size, 4, none⟩) (v := .string d.nm) (by simp [go_sem]) hb1
 have k5 := cell_keep (p := ⟨w.heap.size, 5, none⟩) (v := .slice A d.cs.length c) (by simp [go_sem]) hb1
 have k6 := cell_keep (p := ⟨w.heap.size, 6, none⟩) (v := .slice B d.wall.length e) (by simp [go_sem]) hb1
 have k7 := cell_keep (p := ⟨w.heap.size, 7, none⟩) (v := .string d.log) (by simp [go_sem]) hb1
 have j4 := cell_keep (p := ⟨w.heap.size + 1, 4, none⟩) (v := .string d.nm) (by simp [go_sem]) hb1
 have j5 := cell_keep (p := ⟨w.heap.size + 1, 5, none⟩) (v := .slice A' d.cs.length c') (by simp [go_sem]) hb1
 have j6 := cell_keep (p := ⟨w.heap.size + 1, 6, none⟩) (v := .slice B' d.wall.length e') (by simp [go_sem]) hb1
 have j7 := cell_keep (p := ⟨w.heap.size + 1, 7, none⟩) (v := .string d.log) (by simp [go_sem]) hb1
 have HB := Lib.hid (ext_trans (ext_alloc (ext_alloc1 w _) _) hb1)
 clear hb1
 go_wp2_with fail
 refine (eq_bond _ _ _ _ d.nm d.cs _ (HC.out.ext HB.out) (HC'.out.ext HB.out)).mono ?_
 rintro e w2 ⟨rfl, hb2⟩
 replace k6 := cell_keep k6 hb2
 replace k7 := cell_keep k7 hb2
 replace j6 := cell_keep j6 hb2
 replace j7 := cell_keep j7 hb2
 have HB2 := Lib.hid (ext_trans HB.out hb2)
 clear hb2 k4 k5 j4 j5 HB
 go_wp2_with fail
 refine (eq_Str _ _ d.wall _ (HW.out.ext HB2.out) (HW'.out.ext HB2.out)).mono ?_
 rintro e w3 ⟨rfl, hb3⟩
 replace k7 := cell_keep k7 hb3
 replace j7 := cell_keep j7 hb3
 have HB3 := Lib.hid (ext_trans HB2.out hb3)
 clear hb3 k6 j6 HB2
 go_wp2_with fail
 go_ret
 exact ⟨rfl, HB3.out⟩
end Go.Proofs.YtfgopboddkhckaaGreatDoor
