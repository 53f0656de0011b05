/-
  Parts of the proof: Co, Name, Small.
-/
import Derived.Test.YtfgopboddkhckaaGreatDoorKw1
import Derived.Deep.RegionHeld3
import Derived.Deep.DrawnRows
import Derived.IntWalk
namespace Go.Proofs.YtfgopboddkhckaaGreatDoor
open Go.ChangeShapes Go.WideShapes Go.ChangeAt Go.RowKit Go.Sort Go.Joins
set_option linter.unusedVariables false
structure CO where
  lead : ByteArray
  cyc : ByteArray
deriving DecidableEq
instance : Inhabited CO := ⟨⟨⟨#[]⟩, ⟨#[]⟩⟩⟩
def cCO (o : CO) : List Value := [.string o.lead, .string o.cyc]
theorem cCO_len (o : CO) : (cCO o).length = 2 := rfl
def RCO (_ : World) (v : Value) (o : CO) : Prop := v = .agg #[.string o.lead, .string o.cyc]
theorem RCO.ext {w w' : World} {v : Value} {o : CO} (h : RCO w v o) (_ : Below w.heap.size w w') : RCO w' v o := h
def OCO (_ : World) (_ : Nat) (v : Value) (o : CO) : Prop := v = .agg #[.string o.lead, .string o.cyc]
theorem OCO.rd {w : World} {b : Nat} {v : Value} {o : CO} (h : OCO w b v o) : RCO w v o := h
theorem OCO.ext {w w' : World} {b : Nat} {v : Value} {o : CO} (h : OCO w b v o) (_ : Below w.heap.size w w') : OCO w' b v o := h
def SmCO (o : CO) : Prop := o.lead.size + o.cyc.size ≤ 1048576
def LenCO (o : CO) : Prop := o.lead.size ≤ maxLen ∧ o.cyc.size ≤ maxLen
def szCO (o : CO) (left : Int) : Int := szN left (o.lead.size + o.cyc.size)
def PCO (w : World) (p : Addr) (o : CO) : Prop := w.cell? p = some (.string o.lead) ∧ w.cell? ⟨p.block, p.off + 1, none⟩ = some (.string o.cyc)
theorem PCO.ext {w w' : World} {p : Addr} {o : CO} (h : PCO w p o) (hb : Below w.heap.size w w') : PCO w' p o := by
 obtain ⟨h0, h1⟩ := h
 exact ⟨cell_keep h0 hb, cell_keep h1 hb⟩
def RCOS (w : World) (v : Value) (l : List CO) : Prop := Rd w 2 v l.length (l.flatMap cCO)
theorem RCOS.ext {w w' : World} {v : Value} {l : List CO} (h : RCOS w v l) (hb : Below w.heap.size w w') : RCOS w' v l := Rd.ext h hb
theorem RCOS.alloc {w : World} {v : Value} {l : List CO} (h : RCOS w v l) (o : Obj) : RCOS (w.alloc o) v l := Rd.alloc h o
theorem RCOS.at {w : World} {A : Option Addr} {n cp : Nat} {l : List CO} (h : RCOS w (.slice A n cp) l) {k : Nat} (hk : k < l.length) : ∃ ad, A = some ad ∧ ad.block < w.heap.size ∧ ∀ k, k < l.length → PCO w (ad.add (k * 2)) (gd l k) := by
 obtain ⟨ad, hA, hlt, hc⟩ := Rd.at cCO_len h hk
 refine ⟨ad, hA, hlt, fun k hk => ?_⟩
 have h0 := fun j (hj : j < 2) => hc k hk j hj
 simp only [← add_of_add] at h0
 refine ⟨?_, ?_⟩
 · have := h0 0 (by omega)
   rwa [Addr.add_zero'] at this
 · have := h0 1 (by omega)
   rwa [addr_succ] at this
theorem RCOS.open_ {w : World} {v : Value} {l : List CO} (h : RCOS w v l) : ∃ A c, v = .slice A l.length c ∧ l.length ≤ c ∧ c ≤ maxLen := by
 obtain ⟨_, A, c, h1, h2, h3, _⟩ := h; exact ⟨A, c, h1, h2, h3⟩
def OCOS (w : World) (base : Nat) (v : Value) (l : List CO) : Prop := w.ownsRow base 102 2 v l.length (l.flatMap cCO)
theorem OCOS.rd {w : World} {base : Nat} {v : Value} {l : List CO} (h : OCOS w base v l) : RCOS w v l := own_rd h
theorem OCOS.ext {w w' : World} {base : Nat} {v : Value} {l : List CO} (h : OCOS w base v l) (hb : Below w.heap.size w w') : OCOS w' base v l := own_ext h hb
theorem OCOS.mono {w : World} {base base' : Nat} {v : Value} {l : List CO} (h : OCOS w base v l) (hb : base' ≤ base) : OCOS w base' v l := own_mono h hb
theorem OCOS.ge {w : World} {base : Nat} {v : Value} {l : List CO} (h : OCOS w base v l) : ∀ k, BI v k → base ≤ k ∧ k < w.heap.size := World.ownsRow.lt h
theorem OCOS.chg {S : Nat → Prop} {w w' : World} {base : Nat} {v : Value} {l : List CO} (h : OCOS w base v l) (hb : Chg S w w') (hS : ∀ k, BI v k → ¬ S k) : OCOS w' base v l := own_chg h hb hS
abbrev BCOS := BI
def totCO (l : List CO) : Nat := (l.map fun o => o.lead.size + o.cyc.size).sum
theorem totCO_succ {l : List CO} {k : Nat} (hk : k < l.length) : totCO (l.take (k + 1)) = totCO (l.take k) + ((gd l k).lead.size + (gd l k).cyc.size) := by unfold totCO; rw [take_gd hk]; simp
theorem totCO_le (l : List CO) (k : Nat) : totCO (l.take k) ≤ totCO l := by
 have h : l = l.take k ++ l.drop k := (List.take_append_drop k l).symm
 have : totCO l = totCO (l.take k) + totCO (l.drop k) := by unfold totCO; rw [← List.sum_append, ← List.map_append, ← h]
 omega
def szCOS (l : List CO) (left : Int) : Int := szN left (l.length + totCO l)
theorem szCOS_le (l : List CO) {left : Int} (h : left ≤ 1048576) : szCOS l left ≤ 1048576 ∧ -1 ≤ szCOS l left := szN_le _ _ h
def SmCOS (l : List CO) : Prop := l.length + totCO l ≤ 1048576
def LenCOS (l : List CO) : Prop := l.length ≤ maxLen ∧ ∀ o ∈ l, LenCO o
theorem SmCOS.one {l : List CO} (h : SmCOS l) {k : Nat} (hk : k < l.length) : SmCO (gd l k) := by
 have h1 := totCO_succ hk
 have h2 := totCO_le l (k + 1)
 unfold SmCOS at h; unfold SmCO; omega
theorem sz_CO (v : Value) (o : CO) (left : Int) (h1 : 0 ≤ left) (h2 : left ≤ 1048576) (w : World) (hl : LenCO o) (ha : RCO w v o) :
   Calls Tryz.prog 134 #[v, .int .i64 left] w (Ret (.int .i64 (szCO o left)) w) := by
 obtain ⟨hl1, hl2⟩ := hl
 unfold maxLen at hl1 hl2
 obtain rfl : v = _ := ha
 go_enter Tryz.func134, Tryz.ntmps134
 by_cases hc : left < o.lead.size
 · go_wp2_with fail
   go_ret
   exact ⟨ret_int (by unfold szCO szN; rw [if_pos (by omega)]), ext_alloc1 _ _⟩
 · by_cases hd : left < o.lead.size + o.cyc.size
   · have e1 : left - (o.lead.size : Int) - (o.cyc.size : Int) < 0 := by omega
     go_wp2_with fail
     go_ret
     exact ⟨ret_int (by unfold szCO szN; rw [if_pos (by omega)]), ext_alloc1 _ _⟩
   · have e1 : ¬ left - (o.lead.size : Int) - (o.cyc.size : Int) < 0 := by omega
     go_wp2_with fail
     go_ret
     exact ⟨ret_int (by unfold szCO szN; rw [if_neg (by omega)]; omega), ext_alloc1 _ _⟩
set_option maxHeartbeats 800000 in
theorem sz_COS (v : Value) (l : List CO) (left : Int) (h1 : 0 ≤ left) (h2 : left ≤ 1048576) (w : World) (hl : LenCOS l) (ha : RCOS w v l) :
   Calls Tryz.prog 71 #[v, .int .i64 left] w (Ret (.int .i64 (szCOS l left)) w) := by
 obtain ⟨A, c, rfl, hc1, hc2⟩ := ha.open_
 have HA := Lib.hid ha; clear ha
 have HL := Lib.hid hl; clear hl
 unfold maxLen at hc2
 go_enter Tryz.func71, Tryz.ntmps71
 by_cases hlt0 : left < l.length
 · go_wp2_with fail
   go_ret
   exact ⟨ret_int (by unfold szCOS szN; rw [if_pos (by omega)]), ext_refl w⟩
 · have e0 : ¬ left - (l.length : Int) < 0 := by omega
   go_wp2_with fail
   go_loopw [5, 1] (fun i q wr => ∃ (k : Nat) (s : Int), k ≤ l.length ∧ i = .int .i64 k ∧ q = .int .i64 s ∧ Hid (s = left - l.length - totCO (l.take k)) ∧ 0 ≤ s ∧ s ≤ 1048576 ∧ Below w.heap.size w wr) (fun i _ _ => l.length - (intOf i).toNat)
   case atStart => exact ⟨0, _, Nat.zero_le _, rfl, rfl, (by unfold Hid; simp [totCO]), by omega, by omega, ext_refl _⟩
   case round =>
     obtain ⟨k, s, hk, rfl, rfl, HS, hs1, hs2, hbw⟩ := hrel
     have HB := Lib.hid hbw
     have HAw := Lib.hid (HA.out.ext hbw); clear hbw
     by_cases hlt : k < l.length
     · obtain ⟨ad, rfl, hbd, hc⟩ := HAw.out.at hlt
       obtain ⟨h0, h1⟩ := hc k hlt
       clear hc hbd
       have e1 : (0:Int) ≤ k := by omega
       have e2 : (k:Int) < l.length := by omega
       have hone : LenCO (gd l k) := HL.out.2 _ (gd_mem hlt)
       have HT := Lib.hid (totCO_succ hlt)
       have HT2 := Lib.hid (totCO_le l (k + 1))
       have HZ := Lib.hid (sz_CO (.agg #[.string (gd l k).lead, .string (gd l k).cyc]) (gd l k) s hs1 hs2 wr hone rfl)
       clear hone
       go_wp2_with fail
       refine (show Calls _ _ _ _ _ from HZ.out).mono ?_
       rintro e w1 ⟨rfl, hb⟩
       have HB1 := Lib.hid (ext_trans HB.out hb); clear hb h0 h1
       obtain ⟨z, hz0⟩ : ∃ z, (gd l k).lead.size + (gd l k).cyc.size = z := ⟨_, rfl⟩
       have HT0 := HT.out
       rw [hz0] at HT0
       have HT' := Lib.hid HT0
       have hzz : szCO (gd l k) s = szN s z := by unfold szCO; rw [hz0]
       rw [hzz]
       clear hz0 hzz HT HT0
       by_cases hq : s < z
       · have hz : szN s z = -1 := by unfold szN; rw [if_pos hq]
         rw [hz]
         have HF : Hid (szCOS l left = -1) := Lib.hid (by
           have h1 := HT'.out; have h2 := HT2.out; have h3 := HS.out
           unfold szCOS szN; rw [if_pos (by omega)])
         clear hz hq
         go_wp2_with fail
         go_ret
         exact ⟨ret_int HF.out.symm, HB1.out⟩
       · have hz : szN s z = s - z := by unfold szN; rw [if_neg hq]
         obtain ⟨s2, hs3⟩ : ∃ s2, s - (z : Int) = s2 := ⟨_, rfl⟩
         rw [hz, hs3]
         have HS2 : Hid (s2 = left - l.length - totCO (l.take (k + 1))) := Lib.hid (by have h1 := HT'.out; have h3 := HS.out; omega)
         have e3 : 0 ≤ s2 := by omega
         have e4 : s2 ≤ 1048576 := by omega
         clear hz hq hs3
         go_wp2_with fail
         go_roundw
         case rel => exact ⟨k + 1, s2, by omega, by go_num, rfl, HS2.out, e3, e4, HB1.out⟩
         case measure => simp [intOf]; omega
     · have hkn : k = l.length := by omega
       subst hkn
       have HF : Hid (szCOS l left = s) := Lib.hid (by
         have h3 := HS.out
         rw [List.take_length] at h3
         unfold szCOS szN; rw [if_neg (by omega)]; omega)
       go_wp2_with fail
       go_ret
       exact ⟨ret_int HF.out.symm, HB.out⟩
theorem to_CO (v : Value) (o : CO) (w : World) (ha : RCO w v o) (_ : SmCO o) :
   Calls Tryz.prog 140 #[v] w (Ret (.agg #[.string o.lead, .string o.cyc]) w) := by
 obtain rfl : v = _ := ha
 go_enter Tryz.func140, Tryz.ntmps140
 go_wp2_with fail
 refine bodyPost_ret (v := .agg #[.string o.lead, .string o.cyc]) (by simp [results, Tryz.results140, go_sem]) rfl ⟨rfl, ?_⟩
 repeat (refine ext_set ?_ (by simp; try omega) _)
 exact ext_alloc (ext_alloc (ext_alloc1 w _) _) _
theorem info_CO : (Tryz.prog.info? 102).map (fun i => (i.zero, i.size, i.bytes)) = some (some (.agg #[.string ⟨#[]⟩, .string ⟨#[]⟩]), 2, 32) := by kernel_rfl
set_option maxHeartbeats 1600000 in
set_option maxRecDepth 100000 in
theorem to_COS (v : Value) (l : List CO) (w : World) (ha : RCOS w v l) (hsm : SmCOS l) :
   Calls Tryz.prog 76 #[v] w fun e w' => ∃ A' c', e = .returned (.slice A' l.length c') ∧ OCOS w' w.heap.size (.slice A' l.length c') l ∧ Below w.heap.size w w' := by
 obtain ⟨A, c, rfl, hc1, hc2⟩ := ha.open_
 have HA := Lib.hid ha; clear ha
 have HS := Lib.hid hsm
 unfold SmCOS at hsm
 unfold maxLen at hc2
 obtain ⟨i0, hi, hz0, hz1, hz2⟩ := info_parts info_CO
 have hb : i0.bytes * l.length ≤ 281474976710656 := by rw [hz2]; omega
 have HZ2 := Lib.hid hz2; clear hz2
 go_enter Tryz.func76, Tryz.ntmps76
 go_wp2_with (refine wpList_make_full _ rfl _ _ _ rfl w.heap.size 102 i0 (.agg #[.string ⟨#[]⟩, .string ⟨#[]⟩]) 2 Tryz.underlying34 hi hz0 hz1 .i64 .i64 _ _ l.length rfl rfl rfl rfl hb (by unfold maxLen; omega) (Nat.le_refl _) ?_; intro w1 hown1 hgrow1)
 go_loopw [4] (fun i wr => ∃ (k : Nat) (F : Nat → Value), k ≤ l.length ∧ i = .int .i64 k ∧ Hid (ORow wr w.heap.size 102 2 (.slice (some ⟨w.heap.size, 0, none⟩) l.length l.length) l.length F) ∧ Hid (∀ j, j < k * 2 → F j = cf cCO 2 l j) ∧ Below w.heap.size w wr) (fun i _ => l.length - (intOf i).toNat)
 case atStart => exact ⟨0, _, Nat.zero_le _, rfl, Lib.hid (ORow.of hown1), (fun j hj => by omega), (ext_refl w).grown hgrow1 (Nat.le_refl _) (by simp)⟩
 case round =>
   obtain ⟨k, F, hk, rfl, HO, HF, hbw⟩ := hrel
   have HB := Lib.hid hbw
   have HAw := Lib.hid (HA.out.ext hbw); clear hbw
   by_cases hlt : k < l.length
   · obtain ⟨ad, rfl, hbd, hc⟩ := HAw.out.at hlt
     obtain ⟨h0, h1⟩ := hc k hlt
     clear hc hbd
     have e1 : (0:Int) ≤ k := by omega
     have e2 : (k:Int) < l.length := by omega
     go_wp2_with fail
     refine (to_CO _ (gd l k) _ rfl (HS.out.one hlt)).mono ?_
     rintro e w2 ⟨rfl, hb⟩
     have HO2 := Lib.hid (HO.out.ext hb)
     have HB2 := Lib.hid (ext_trans HB.out hb)
     clear hb h0 h1
     have hc0 := HO2.out.cell (j := k * 2) (by omega)
     have hf0 := HO2.out.frozen (k * 2)
     have hc1 := HO2.out.cell (j := k * 2 + 1) (by omega)
     have hf1 := HO2.out.frozen (k * 2 + 1)
     go_wp2_with fail
     have HO3 := Lib.hid ((HO2.out.set (k * 2) (.string (gd l k).lead)).set (k * 2 + 1) (.string (gd l k).cyc))
     go_roundw
     case rel =>
       refine ⟨k + 1, _, by omega, by go_num, HO3.out, (fun j hj => ?_), ((HB2.out.setCell (p := ⟨w.heap.size, k * 2, none⟩) (Nat.le_refl _) (.string (gd l k).lead)).setCell (p := ⟨w.heap.size, k * 2 + 1, none⟩) (Nat.le_refl _) (.string (gd l k).cyc))⟩
       rcases (show j < k * 2 ∨ j = k * 2 ∨ j = k * 2 + 1 by omega) with h | rfl | rfl
       · have hg := HF.out j h
         rw [if_neg (by omega)]; rw [if_neg (by omega)]
         exact hg
       · rw [if_neg (by omega)]; rw [if_pos rfl, ← Nat.add_zero (k * 2), cf_at cCO 2 (by omega)]; rfl
       · rw [if_pos rfl, cf_at cCO 2 (by omega)]; rfl
     case measure => simp [intOf]; omega
   · have hkn : k = l.length := by omega
     subst hkn
     go_wp2_with fail
     go_ret
     exact ⟨_, _, rfl, HO.out.flat cCO_len (by omega) (fun j hj => HF.out j hj), HB.out⟩
set_option maxHeartbeats 800000 in
theorem eq_CO (v1 v2 : Value) (o : CO) (w : World) (ha : RCO w v1 o) (hb : RCO w v2 o) :
   Calls Tryz.prog 169 #[v1, v2] w (Ret (.bool true) w) := by
 obtain rfl : v1 = _ := ha
 obtain rfl : v2 = _ := hb
 go_enter Tryz.func169, Tryz.ntmps169
 go_wp2_with fail
 go_ret
 exact ⟨rfl, ext_alloc (ext_alloc1 _ _) _⟩
set_option maxHeartbeats 1600000 in
theorem eq_COS (v1 v2 : Value) (l : List CO) (w : World) (ha : RCOS w v1 l) (hb : RCOS w v2 l) :
   Calls Tryz.prog 103 #[v1, v2] w (Ret (.bool true) w) := by
 obtain ⟨A, c, rfl, hc1, hc2⟩ := ha.open_
 obtain ⟨B, d, rfl, hd1, hd2⟩ := hb.open_
 have HA := Lib.hid ha; clear ha
 have HB := Lib.hid hb; clear hb
 unfold maxLen at hc2 hd2
 go_enter Tryz.func103, Tryz.ntmps103
 go_wp2_with fail
 go_loopw [5] (fun i wr => ∃ k : Nat, k ≤ l.length ∧ i = .int .i64 k ∧ Below w.heap.size w wr) (fun i _ => l.length - (intOf i).toNat)
 case atStart => exact ⟨0, Nat.zero_le _, rfl, ext_refl _⟩
 case round =>
   obtain ⟨k, hk, rfl, hbw⟩ := hrel
   have HAw := Lib.hid (HA.out.ext hbw)
   have HBw := Lib.hid (HB.out.ext hbw)
   have HW := Lib.hid hbw; clear hbw
   by_cases hlt : k < l.length
   · obtain ⟨ad, rfl, _, hc⟩ := HAw.out.at hlt
     obtain ⟨bd, rfl, _, hd⟩ := HBw.out.at hlt
     obtain ⟨h0, h1⟩ := hc k hlt
     obtain ⟨g0, g1⟩ := hd k hlt
     clear hc hd
     replace h0 := fun d os => cell_regrown h0 d os
     replace h1 := fun d os => cell_regrown h1 d os
     replace g0 := fun d os => cell_regrown g0 d os
     replace g1 := fun d os => cell_regrown g1 d os
     have e1 : (0:Int) ≤ k := by omega
     have e2 : (k:Int) < l.length := by omega
     have HE := Lib.hid (fun w => eq_CO (.agg #[.string (gd l k).lead, .string (gd l k).cyc]) (.agg #[.string (gd l k).lead, .string (gd l k).cyc]) (gd l k) w rfl rfl)
     go_wp2_with fail
     refine wp_region_quiet_below (by kernel_rfl) (by kernel_rfl) ?_
     repeat (go_big_quiet_step ((go_at_call 169; exact regrown_r (HE.out _))))
     refine wpQuiet_nil ?_
     intro w' hw'
     obtain ⟨p, rfl⟩ := hw'
     clear h0 h1 g0 g1
     go_wp2_with fail
     go_roundw
     case rel => exact ⟨k + 1, by omega, by go_num, ext_trans HW.out (below_regrown _ _ _)⟩
     case measure => simp [intOf]; omega
   · have hkn : k = l.length := by omega
     subst hkn
     go_wp2_with fail
     go_ret
     exact ⟨rfl, HW.out⟩
set_option maxRecDepth 100000
theorem cells_s_CO : Tryz.prog.cellsOf 9 = 1 := by kernel_rfl
theorem cells_e_CO : Tryz.prog.cellsOf 159 = 2 := by kernel_rfl
theorem elem_CO {H : Type} {enc : TypeId × Value → H} {W : World} {sp : Nat → Bool} {fuel : Nat} {cs : List Value} {x : DataW H × List MemPlace} (h : DataW.trod enc Tryz.prog W 0 sp true fuel 159 cs = some x) :
   ∃ o : CO, cs = cCO o ∧ LenCO o := by
 obtain ⟨xs, n, _, rfl, hl, hlen, hf⟩ := DataW.trod_struct Tryz.underlying159 h
 rw [cells_e_CO] at hl
 match cs, hl with
 | [c0, c1], _ =>
 have k0 := hf 0 _ rfl
 rw [List.getElem?_eq_getElem (by rw [hlen]; decide)] at k0
 obtain ⟨v0, e0, _, hs0⟩ := DataW.trod_string Tryz.underlying9 k0
 have q0 : List.take (Tryz.prog.cellsOf 9) (List.drop 0 [c0, c1]) = [Value.string v0] := e0
 rw [cells_s_CO] at q0
 replace q0 : c0 = Value.string v0 := by simpa using q0
 clear e0
 have k1 := hf 1 _ rfl
 rw [List.getElem?_eq_getElem (by rw [hlen]; decide)] at k1
 obtain ⟨v1, e1, _, hs1⟩ := DataW.trod_string Tryz.underlying9 k1
 have q1 : List.take (Tryz.prog.cellsOf 9) (List.drop 1 [c0, c1]) = [Value.string v1] := e1
 rw [cells_s_CO] at q1
 replace q1 : c1 = Value.string v1 := by simpa using q1
 clear e1
 exact ⟨⟨v0, v1⟩, by simp only [q0, q1, cCO], hs0, hs1⟩
end Go.Proofs.YtfgopboddkhckaaGreatDoor
namespace Go.Proofs.YtfgopboddkhckaaGreatDoor
open Go.ChangeShapes Go.WideShapes Go.ChangeAt Go.RowKit Go.Sort
set_option linter.unusedVariables false
def byt (s : ByteArray) (k : Nat) : Int := ((s.data.toList.getD k 0).toNat : Int)
theorem byt_eq (s : ByteArray) (k : Nat) (h : k < s.size) : (s[k].toNat : Int) = byt s k := by
 have h' : k < s.data.toList.length := by simpa using h
 unfold byt
 rw [List.getD_eq_getElem?_getD, List.getElem?_eq_getElem h']
 rfl
theorem byt_bd (s : ByteArray) (k : Nat) : 0 ≤ byt s k ∧ byt s k ≤ 255 := by
 unfold byt
 have := (s.data.toList.getD k 0).toNat_lt
 omega
def smC (c : Int) : Bool := decide (97 ≤ c) && decide (c ≤ 122)
def dgC (c : Int) : Bool := decide (48 ≤ c) && decide (c ≤ 57)
def nbC (c : Int) : Bool := smC c || dgC c || c == 45
def nbs (s : ByteArray) (k : Nat) : Bool := (List.range k).all fun i => nbC (byt s i)
theorem nbs_succ (s : ByteArray) (k : Nat) : nbs s (k + 1) = (nbs s k && nbC (byt s k)) := by simp [nbs, List.range_succ]
theorem nbs_no {s : ByteArray} {k n : Nat} (hk : k < n) (h : nbC (byt s k) = false) : nbs s n = false := by
 unfold nbs
 rw [List.all_eq_false]
 exact ⟨k, by simpa using hk, by simp [h]⟩
def isN (s : ByteArray) : Bool := decide (1 ≤ s.size) && decide (s.size ≤ 12) && smC (byt s 0) && nbs s s.size
theorem spec_small (c : Int) (h0 : 0 ≤ c) (h1 : c ≤ 255) (w : World) : Calls Tryz.prog 196 #[.int .u8 c] w (RetP (.bool (smC c)) w) := by
 by_cases h2 : 97 ≤ c
 · have e1 : decide (97 ≤ c) = true := decide_eq_true h2
   have HX : Hid (smC c = decide (c ≤ 122)) := Lib.hid (by unfold smC; rw [e1]; rfl)
   go_enter Tryz.func196, Tryz.ntmps196
   go_wp2
   go_ret
   exact ⟨ret_bool (by rw [HX.out]), rfl⟩
 · have e1 : decide (97 ≤ c) = false := decide_eq_false h2
   have HX : Hid (smC c = false) := Lib.hid (by unfold smC; rw [e1]; rfl)
   go_enter Tryz.func196, Tryz.ntmps196
   go_wp2
   go_ret
   exact ⟨ret_bool (by rw [HX.out]), rfl⟩
theorem spec_digit (c : Int) (h0 : 0 ≤ c) (h1 : c ≤ 255) (w : World) : Calls Tryz.prog 113 #[.int .u8 c] w (RetP (.bool (dgC c)) w) := by
 by_cases h2 : 48 ≤ c
 · have e1 : decide (48 ≤ c) = true := decide_eq_true h2
   have HX : Hid (dgC c = decide (c ≤ 57)) := Lib.hid (by unfold dgC; rw [e1]; rfl)
   go_enter Tryz.func113, Tryz.ntmps113
   go_wp2
   go_ret
   exact ⟨ret_bool (by rw [HX.out]), rfl⟩
 · have e1 : decide (48 ≤ c) = false := decide_eq_false h2
   have HX : Hid (dgC c = false) := Lib.hid (by unfold dgC; rw [e1]; rfl)
   go_enter Tryz.func113, Tryz.ntmps113
   go_wp2
   go_ret
   exact ⟨ret_bool (by rw [HX.out]), rfl⟩
theorem nm_cases (y : Int) : (y = 45) ∨ (y < 48 ∧ y ≠ 45) ∨ (48 ≤ y ∧ y ≤ 57) ∨ (58 ≤ y ∧ y ≤ 96) ∨ (97 ≤ y ∧ y ≤ 122) ∨ 123 ≤ y := by omega
set_option maxHeartbeats 1600000 in
theorem impl_IsName (s : ByteArray) (hs : s.size ≤ maxLen) (w : World) :
   Calls Tryz.prog 141 #[.string s] w (RetP (.bool (isN s)) w) := by
 unfold maxLen at hs
 by_cases h1 : s.size < 1
 · have h2 : s.size = 0 := by omega
   have e1 : (s.size : Int) < 1 := by omega
   have HX : Hid (isN s = false) := Lib.hid (by unfold isN; rw [h2]; rfl)
   go_enter Tryz.func141, Tryz.ntmps141
   go_wp2_with fail
   go_ret
   exact ⟨ret_bool (by rw [HX.out]), rfl⟩
 · have e1 : ¬ (s.size : Int) < 1 := by omega
   by_cases h3 : 12 < s.size
   · have e2 : (12 : Int) < s.size := by omega
     have HX : Hid (isN s = false) := Lib.hid (by unfold isN; rw [decide_eq_false (show ¬ s.size ≤ 12 by omega)]; simp)
     go_enter Tryz.func141, Tryz.ntmps141
     go_wp2_with fail
     go_ret
     exact ⟨ret_bool (by rw [HX.out]), rfl⟩
   · have e2 : ¬ (12 : Int) < s.size := by omega
     have hb0 := byt_eq s 0 (by omega)
     obtain ⟨z, hz⟩ : ∃ z, byt s 0 = z := ⟨_, rfl⟩
     have hzb := byt_bd s 0
     rw [hz] at hb0 hzb
     by_cases h4 : smC z = true
     · have h5 : 97 ≤ z ∧ z ≤ 122 := by simpa [smC] using h4
       have e3 : decide (z < 97) = false := by simp; omega
       have e4 : decide (122 < z) = false := by simp; omega
       have HI : Hid (isN s = nbs s s.size) := Lib.hid (by unfold isN; rw [hz, h4, decide_eq_true (show 1 ≤ s.size by omega), decide_eq_true (show s.size ≤ 12 by omega)]; rfl)
       have HN1 : Hid (nbs s 1 = true) := Lib.hid (by rw [nbs_succ, hz]; unfold nbC; rw [h4]; rfl)
       clear h4 hz
       go_enter Tryz.func141, Tryz.ntmps141
       go_wp2_with fail
       clear hb0 e3 e4 h5 hzb
       go_loop [3] (fun i => ∃ k : Nat, 1 ≤ k ∧ k ≤ s.size ∧ i = .int .i64 k ∧ Hid (nbs s k = true)) (fun i => s.size - (intOf i).toNat)
       case atStart => exact ⟨1, Nat.le_refl _, by omega, rfl, HN1.out⟩
       case round =>
         obtain ⟨k, hk1, hk, rfl, HT⟩ := hrel
         by_cases hlt : k < s.size
         · have e5 : (k:Int) < s.size := by omega
           have e6 : (0:Int) ≤ k := by omega
           have hy := byt_eq s k hlt
           have hyb := byt_bd s k
           obtain ⟨y, hyy⟩ : ∃ y, byt s k = y := ⟨_, rfl⟩
           rw [hyy] at hy hyb
           have HY := Lib.hid hyy; clear hyy
           rcases nm_cases y with hxy | hxy | hxy | hxy | hxy | hxy
           · skip
             have e97 : decide (y < 97) = true := decide_eq_true (by omega)
             have e122 : decide (122 < y) = false := decide_eq_false (by omega)
             have e48 : decide (y < 48) = true := decide_eq_true (by omega)
             have e57 : decide (57 < y) = false := decide_eq_false (by omega)
             have HB : Hid (nbC (byt s k) = true) := Lib.hid (by rw [HY.out]; simp [nbC, smC, dgC]; omega)
             go_wp2_with fail
             go_round
             case rel => exact ⟨k + 1, by omega, by omega, by go_num, by unfold Hid; rw [nbs_succ, HT.out, HB.out]; rfl⟩
             case measure => simp [intOf]; omega
           · skip
             have e97 : decide (y < 97) = true := decide_eq_true (by omega)
             have e122 : decide (122 < y) = false := decide_eq_false (by omega)
             have e48 : decide (y < 48) = true := decide_eq_true (by omega)
             have e57 : decide (57 < y) = false := decide_eq_false (by omega)
             have HB : Hid (nbC (byt s k) = false) := Lib.hid (by rw [HY.out]; simp [nbC, smC, dgC]; omega)
             go_wp2_with fail
             go_ret
             exact ⟨ret_bool (by rw [HI.out, nbs_no hlt HB.out]), rfl⟩
           · skip
             have e97 : decide (y < 97) = true := decide_eq_true (by omega)
             have e122 : decide (122 < y) = false := decide_eq_false (by omega)
             have e48 : decide (y < 48) = false := decide_eq_false (by omega)
             have e57 : decide (57 < y) = false := decide_eq_false (by omega)
             have HB : Hid (nbC (byt s k) = true) := Lib.hid (by rw [HY.out]; simp [nbC, smC, dgC]; omega)
             go_wp2_with fail
             go_round
             case rel => exact ⟨k + 1, by omega, by omega, by go_num, by unfold Hid; rw [nbs_succ, HT.out, HB.out]; rfl⟩
             case measure => simp [intOf]; omega
           · skip
             have e97 : decide (y < 97) = true := decide_eq_true (by omega)
             have e122 : decide (122 < y) = false := decide_eq_false (by omega)
             have e48 : decide (y < 48) = false := decide_eq_false (by omega)
             have e57 : decide (57 < y) = true := decide_eq_true (by omega)
             have HB : Hid (nbC (byt s k) = false) := Lib.hid (by rw [HY.out]; simp [nbC, smC, dgC]; omega)
             go_wp2_with fail
             go_ret
             exact ⟨ret_bool (by rw [HI.out, nbs_no hlt HB.out]), rfl⟩
           · skip
             have e97 : decide (y < 97) = false := decide_eq_false (by omega)
             have e122 : decide (122 < y) = false := decide_eq_false (by omega)
             have e48 : decide (y < 48) = false := decide_eq_false (by omega)
             have e57 : decide (57 < y) = true := decide_eq_true (by omega)
             have HB : Hid (nbC (byt s k) = true) := Lib.hid (by rw [HY.out]; simp [nbC, smC, dgC]; omega)
             go_wp2_with fail
             go_round
             case rel => exact ⟨k + 1, by omega, by omega, by go_num, by unfold Hid; rw [nbs_succ, HT.out, HB.out]; rfl⟩
             case measure => simp [intOf]; omega
           · skip
             have e97 : decide (y < 97) = false := decide_eq_false (by omega)
             have e122 : decide (122 < y) = true := decide_eq_true (by omega)
             have e48 : decide (y < 48) = false := decide_eq_false (by omega)
             have e57 : decide (57 < y) = true := decide_eq_true (by omega)
             have HB : Hid (nbC (byt s k) = false) := Lib.hid (by rw [HY.out]; simp [nbC, smC, dgC]; omega)
             go_wp2_with fail
             go_ret
             exact ⟨ret_bool (by rw [HI.out, nbs_no hlt HB.out]), rfl⟩
         · have hkn : k = s.size := by omega
           subst hkn
           go_wp2_with fail
           go_ret
           exact ⟨ret_bool (by rw [HI.out, HT.out]), rfl⟩
     · have HX : Hid (isN s = false) := Lib.hid (by unfold isN; rw [hz, show smC z = false from by simpa using h4]; simp)
       by_cases h6 : z < 97
       · have e3 : decide (z < 97) = true := by simpa using h6
         clear h4 hz
         go_enter Tryz.func141, Tryz.ntmps141
         go_wp2_with fail
         go_ret
         exact ⟨ret_bool (by rw [HX.out]), rfl⟩
       · have e3 : decide (z < 97) = false := by simpa using h6
         have e4 : decide (122 < z) = true := by
           rw [decide_eq_true_eq]
           have : ¬ (97 ≤ z ∧ z ≤ 122) := fun h => h4 (by simp [smC, h.1, h.2])
           omega
         clear h4 hz
         go_enter Tryz.func141, Tryz.ntmps141
         go_wp2_with fail
         go_ret
         exact ⟨ret_bool (by rw [HX.out]), rfl⟩
set_option maxHeartbeats 1600000 in
theorem spec_IsName (s : ByteArray) (hs : s.size ≤ maxLen) (w : World) :
   Calls Tryz.prog 137 #[.string s] w (RetP (.bool (isN s)) w) := by
 unfold maxLen at hs
 by_cases h1 : s.size < 1
 · have h2 : s.size = 0 := by omega
   have HX : Hid (isN s = false) := Lib.hid (by unfold isN; rw [h2]; rfl)
   obtain rfl : s = ⟨#[]⟩ := by
     cases s with
     | mk d => exact congrArg _ (Array.eq_empty_of_size_eq_zero h2)
   go_enter Tryz.func137, Tryz.ntmps137
   go_wp2_with fail
   go_ret
   exact ⟨ret_bool (by rw [HX.out]), rfl⟩
 · have hne : s ≠ ⟨#[]⟩ := by rintro rfl; exact h1 (by decide)
   have hem2 : ¬ s.toList = [] := by
     have h := str_ne hne
     intro h2
     rw [h2] at h
     simp at h
   have hem : s.toList.isEmpty = false := by
     cases h : s.toList with
     | nil => exact absurd h hem2
     | cons a l => rfl
   clear hne
   by_cases h3 : 12 < s.size
   · have e2 : (12 : Int) < s.size := by omega
     have HX : Hid (isN s = false) := Lib.hid (by unfold isN; rw [decide_eq_false (show ¬ s.size ≤ 12 by omega)]; simp)
     go_enter Tryz.func137, Tryz.ntmps137
     go_wp2_with fail
     go_ret
     exact ⟨ret_bool (by rw [HX.out]), rfl⟩
   · have e2 : ¬ (12 : Int) < s.size := by omega
     have e1 : (0 : Int) < s.size := by omega
     have hb0 := byt_eq s 0 (by omega)
     obtain ⟨z, hz⟩ : ∃ z, byt s 0 = z := ⟨_, rfl⟩
     have hzb := byt_bd s 0
     rw [hz] at hb0 hzb
     cases h4 : smC z with
     | true =>
       have HI : Hid (isN s = nbs s s.size) := Lib.hid (by unfold isN; rw [hz, h4, decide_eq_true (show 1 ≤ s.size by omega), decide_eq_true (show s.size ≤ 12 by omega)]; rfl)
       have HC := Lib.hid (fun w => h4 ▸ spec_small z hzb.1 hzb.2 w)
       clear h4 hz hzb
       go_enter Tryz.func137, Tryz.ntmps137
       go_wp2_with fail
       refine (show Calls _ _ _ _ _ from HC.out _).mono ?_
       rintro e w' ⟨rfl, rfl⟩
       go_wp2_with fail
       clear hb0 HC hem hem2
       go_loop [3] (fun i => ∃ k : Nat, k ≤ s.size ∧ i = .int .i64 k ∧ Hid (nbs s k = true)) (fun i => s.size - (intOf i).toNat)
       case atStart => exact ⟨0, Nat.zero_le _, rfl, rfl⟩
       case round =>
         obtain ⟨k, hk, rfl, HT⟩ := hrel
         by_cases hlt : k < s.size
         · have e5 : (k:Int) < s.size := by omega
           have e6 : (0:Int) ≤ k := by omega
           have hy := byt_eq s k hlt
           have hyb := byt_bd s k
           obtain ⟨y, hyy⟩ : ∃ y, byt s k = y := ⟨_, rfl⟩
           rw [hyy] at hy hyb
           have HY := Lib.hid hyy; clear hyy
           have HC1 := Lib.hid (fun w => spec_small y hyb.1 hyb.2 w)
           have HC2 := Lib.hid (fun w => spec_digit y hyb.1 hyb.2 w)
           clear hyb
           go_wp2_with fail
           refine (show Calls _ _ _ _ _ from HC1.out _).mono ?_
           rintro e w' ⟨rfl, rfl⟩
           cases hs1 : smC y with
           | true =>
             have HB : Hid (nbC (byt s k) = true) := Lib.hid (by rw [HY.out]; unfold nbC; rw [hs1]; rfl)
             clear hs1
             go_wp2_with fail
             go_round
             case rel => exact ⟨k + 1, by omega, by go_num, by unfold Hid; rw [nbs_succ, HT.out, HB.out]; rfl⟩
             case measure => simp [intOf]; omega
           | false =>
             have HS1 := Lib.hid hs1; clear hs1
             go_wp2_with fail
             refine (show Calls _ _ _ _ _ from HC2.out _).mono ?_
             rintro e w' ⟨rfl, rfl⟩
             cases hd1 : dgC y with
             | true =>
               have HB : Hid (nbC (byt s k) = true) := Lib.hid (by rw [HY.out]; unfold nbC; rw [hd1]; simp)
               clear hd1
               go_wp2_with fail
               go_round
               case rel => exact ⟨k + 1, by omega, by go_num, by unfold Hid; rw [nbs_succ, HT.out, HB.out]; rfl⟩
               case measure => simp [intOf]; omega
             | false =>
               have HD1 := Lib.hid hd1; clear hd1
               by_cases hy5 : y = 45
               · have HB : Hid (nbC (byt s k) = true) := Lib.hid (by rw [HY.out]; unfold nbC; rw [hy5]; rfl)
                 go_wp2_with fail
                 go_round
                 case rel => exact ⟨k + 1, by omega, by go_num, by unfold Hid; rw [nbs_succ, HT.out, HB.out]; rfl⟩
                 case measure => simp [intOf]; omega
               · have HB : Hid (nbC (byt s k) = false) := Lib.hid (by rw [HY.out]; unfold nbC; rw [HS1.out, HD1.out]; simpa using hy5)
                 go_wp2_with fail
                 go_ret
                 exact ⟨ret_bool (by rw [HI.out, nbs_no hlt HB.out]), rfl⟩
         · have hkn : k = s.size := by omega
           subst hkn
           go_wp2_with fail
           go_ret
           exact ⟨ret_bool (by rw [HI.out, HT.out]), rfl⟩
     | false =>
       have HX : Hid (isN s = false) := Lib.hid (by unfold isN; rw [hz, h4]; simp)
       have HC := Lib.hid (fun w => h4 ▸ spec_small z hzb.1 hzb.2 w)
       clear h4 hz hzb
       go_enter Tryz.func137, Tryz.ntmps137
       go_wp2_with fail
       refine (show Calls _ _ _ _ _ from HC.out _).mono ?_
       rintro e w' ⟨rfl, rfl⟩
       go_wp2_with fail
       go_ret
       exact ⟨ret_bool (by rw [HX.out]), rfl⟩
end Go.Proofs.YtfgopboddkhckaaGreatDoor
namespace Go.Proofs.YtfgopboddkhckaaGreatDoor
open Go.ChangeShapes Go.WideShapes Go.ChangeAt Go.RowKit Go.Sort
def inB (n lo hi : Int) : Bool := decide (lo ≤ n ∧ n ≤ hi)
theorem inB_yes {n lo hi : Int} (h1 : lo ≤ n) (h2 : n ≤ hi) : inB n lo hi = true := by simp [inB, h1, h2]
theorem inB_no {n lo hi : Int} (h : ¬ (lo ≤ n ∧ n ≤ hi)) : inB n lo hi = false := by simp [inB]; omega
theorem inB_iff {n lo hi : Int} : inB n lo hi = true ↔ lo ≤ n ∧ n ≤ hi := by simp [inB]
theorem RetP.bool {P : Program} {f : FuncId} {args : Array Value} {w : World} {b c : Bool} (h : Calls P f args w (RetP (.bool b) w)) (e : b = c) : Calls P f args w (RetP (.bool c) w) := e ▸ h
theorem spec_in (n lo hi : Int) (w : World) : Calls Tryz.prog 112 #[.int .i64 n, .int .i64 lo, .int .i64 hi] w (RetP (.bool (inB n lo hi)) w) := by
 by_cases h1 : lo ≤ n
 · by_cases h2 : n ≤ hi
   · have HI := Lib.hid (inB_yes h1 h2)
     go_enter Tryz.func112, Tryz.ntmps112
     go_wp2
     go_ret
     exact ⟨ret_bool (by rw [HI.out]), rfl⟩
   · have HI := Lib.hid (inB_no (n := n) (lo := lo) (hi := hi) (by omega))
     go_enter Tryz.func112, Tryz.ntmps112
     go_wp2
     go_ret
     exact ⟨ret_bool (by rw [HI.out]), rfl⟩
 · have HI := Lib.hid (inB_no (n := n) (lo := lo) (hi := hi) (by omega))
   have h1' : decide (n ≥ lo) = false := by simp; omega
   go_enter Tryz.func112, Tryz.ntmps112
   go_wp2
   go_ret
   exact ⟨ret_bool (by rw [HI.out]), rfl⟩
theorem impl_within (n lo hi : Int) (w : World) : Calls Tryz.prog 86 #[.int .i64 n, .int .i64 lo, .int .i64 hi] w (RetP (.bool (inB n lo hi)) w) := by
 by_cases h1 : lo ≤ n
 · by_cases h2 : n ≤ hi
   · have HI := Lib.hid (inB_yes h1 h2)
     go_enter Tryz.func86, Tryz.ntmps86
     go_wp2
     go_ret
     exact ⟨ret_bool (by rw [HI.out]), rfl⟩
   · have HI := Lib.hid (inB_no (n := n) (lo := lo) (hi := hi) (by omega))
     go_enter Tryz.func86, Tryz.ntmps86
     go_wp2
     go_ret
     exact ⟨ret_bool (by rw [HI.out]), rfl⟩
 · have HI := Lib.hid (inB_no (n := n) (lo := lo) (hi := hi) (by omega))
   have h1' : decide (n ≥ lo) = false := by simp; omega
   go_enter Tryz.func86, Tryz.ntmps86
   go_wp2
   go_ret
   exact ⟨ret_bool (by rw [HI.out]), rfl⟩
end Go.Proofs.YtfgopboddkhckaaGreatDoor
