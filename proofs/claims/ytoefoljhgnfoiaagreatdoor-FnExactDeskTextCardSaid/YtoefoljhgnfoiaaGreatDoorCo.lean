/-
  The struct Course and slices of it: how they read, the laws' small functions on them, and how they come in.
-/
import Derived.Test.YtoefoljhgnfoiaaGreatDoorFlat
import Derived.Test.YtoefoljhgnfoiaaGreatDoorMtx
import Derived.Test.YtoefoljhgnfoiaaGreatDoorRegrown
import Derived.Test.YtoefoljhgnfoiaaGreatDoorRow
import Derived.Deep.RegionHeld3
import Derived.Deep.DrawnRows
namespace Go.Proofs.YtoefoljhgnfoiaaGreatDoor
open Go.ChangeShapes Go.WideShapes Go.ChangeAt Go.RowKit Go.Sort Go.Joins
set_option linter.unusedVariables false

structure CO where
  lead : ByteArray
  cyc : ByteArray
deriving DecidableEq
instance : Inhabited CO := ⟨⟨⟨#[]⟩, ⟨#[]⟩⟩⟩
def cCO (o : CO) : List Value := [.string o.lead, .string o.cyc]
theorem cCO_len (o : CO) : (cCO o).length = 2 := rfl
/-- v is the struct o. -/
def RCO (_ : World) (v : Value) (o : CO) : Prop := v = .agg #[.string o.lead, .string o.cyc]
theorem RCO.ext {w w' : World} {v : Value} {o : CO} (h : RCO w v o) (_ : Below w.heap.size w w') : RCO w' v o := h
/-- The same, where a call gave it. -/
def OCO (_ : World) (_ : Nat) (v : Value) (o : CO) : Prop := v = .agg #[.string o.lead, .string o.cyc]
theorem OCO.rd {w : World} {b : Nat} {v : Value} {o : CO} (h : OCO w b v o) : RCO w v o := h
theorem OCO.ext {w w' : World} {b : Nat} {v : Value} {o : CO} (h : OCO w b v o) (_ : Below w.heap.size w w') : OCO w' b v o := h
def SmCO (o : CO) : Prop := o.lead.size + o.cyc.size ≤ 1048576
def LenCO (o : CO) : Prop := o.lead.size ≤ maxLen ∧ o.cyc.size ≤ maxLen
def szCO (o : CO) (left : Int) : Int := szN left (o.lead.size + o.cyc.size)
theorem szCO_le (o : CO) {left : Int} (h : left ≤ 1048576) : szCO o left ≤ 1048576 ∧ -1 ≤ szCO o left := szN_le _ _ h
theorem ok_CO {o : CO} {left : Int} (h2 : left ≤ 1048576) (h : 0 ≤ szCO o left) : 0 ≤ left ∧ SmCO o := by
  have h1 := szN_ok h
  have h3 := szN_pos h
  unfold SmCO; omega
/-- The cells of o behind an address. -/
def PCO (w : World) (p : Addr) (o : CO) : Prop := w.cell? p = some (.string o.lead) ∧ w.cell? ⟨p.block, p.off + 1, none⟩ = some (.string o.cyc)
theorem PCO.ext {w w' : World} {p : Addr} {o : CO} (h : PCO w p o) (hb : Below w.heap.size w w') : PCO w' p o := by
  obtain ⟨h0, h1⟩ := h
  exact ⟨cell_keep h0 hb, cell_keep h1 hb⟩
theorem pCO_box (w : World) (o : CO) (Ty : TypeId) : PCO (w.alloc (.cells #[.string o.lead, .string o.cyc] Ty)) ⟨w.heap.size, 0, none⟩ o := ⟨by simp [go_sem], by simp [go_sem]⟩
/-- v reads as the list l. -/
def RCOS (w : World) (v : Value) (l : List CO) : Prop := Rd w 2 v l.length (l.flatMap cCO)
theorem RCOS.ext {w w' : World} {v : Value} {l : List CO} (h : RCOS w v l) (hb : Below w.heap.size w w') : RCOS w' v l := Rd.ext h hb
theorem RCOS.alloc {w : World} {v : Value} {l : List CO} (h : RCOS w v l) (o : Obj) : RCOS (w.alloc o) v l := Rd.alloc h o
theorem RCOS.at {w : World} {A : Option Addr} {n cp : Nat} {l : List CO} (h : RCOS w (.slice A n cp) l) {k : Nat} (hk : k < l.length) : ∃ ad, A = some ad ∧ ad.block < w.heap.size ∧ ∀ k, k < l.length → PCO w (ad.add (k * 2)) (gd l k) := by
  obtain ⟨ad, hA, hlt, hc⟩ := Rd.at cCO_len h hk
  refine ⟨ad, hA, hlt, fun k hk => ?_⟩
  have h0 := fun j (hj : j < 2) => hc k hk j hj
  simp only [← add_of_add] at h0
  refine ⟨?_, ?_⟩
  · have := h0 0 (by omega)
    rwa [Addr.add_zero'] at this
  · have := h0 1 (by omega)
    rwa [addr_succ] at this
theorem RCOS.open_ {w : World} {v : Value} {l : List CO} (h : RCOS w v l) : ∃ A c, v = .slice A l.length c ∧ l.length ≤ c ∧ c ≤ maxLen := by
  obtain ⟨_, A, c, h1, h2, h3, _⟩ := h; exact ⟨A, c, h1, h2, h3⟩
def OCOS (w : World) (base : Nat) (v : Value) (l : List CO) : Prop := w.ownsRow base 68 2 v l.length (l.flatMap cCO)
theorem OCOS.rd {w : World} {base : Nat} {v : Value} {l : List CO} (h : OCOS w base v l) : RCOS w v l := own_rd h
theorem OCOS.ext {w w' : World} {base : Nat} {v : Value} {l : List CO} (h : OCOS w base v l) (hb : Below w.heap.size w w') : OCOS w' base v l := own_ext h hb
theorem OCOS.mono {w : World} {base base' : Nat} {v : Value} {l : List CO} (h : OCOS w base v l) (hb : base' ≤ base) : OCOS w base' v l := own_mono h hb
theorem OCOS.ge {w : World} {base : Nat} {v : Value} {l : List CO} (h : OCOS w base v l) : ∀ k, BI v k → base ≤ k ∧ k < w.heap.size := World.ownsRow.lt h
theorem OCOS.chg {S : Nat → Prop} {w w' : World} {base : Nat} {v : Value} {l : List CO} (h : OCOS w base v l) (hb : Chg S w w') (hS : ∀ k, BI v k → ¬ S k) : OCOS w' base v l := own_chg h hb hS
abbrev BCOS := BI
def totCO (l : List CO) : Nat := (l.map fun o => o.lead.size + o.cyc.size).sum
theorem totCO_succ {l : List CO} {k : Nat} (hk : k < l.length) : totCO (l.take (k + 1)) = totCO (l.take k) + ((gd l k).lead.size + (gd l k).cyc.size) := by unfold totCO; rw [take_gd hk]; simp
theorem totCO_le (l : List CO) (k : Nat) : totCO (l.take k) ≤ totCO l := by
  have h : l = l.take k ++ l.drop k := (List.take_append_drop k l).symm
  have : totCO l = totCO (l.take k) + totCO (l.drop k) := by unfold totCO; rw [← List.sum_append, ← List.map_append, ← h]
  omega
def szCOS (l : List CO) (left : Int) : Int := szN left (l.length + totCO l)
theorem szCOS_le (l : List CO) {left : Int} (h : left ≤ 1048576) : szCOS l left ≤ 1048576 ∧ -1 ≤ szCOS l left := szN_le _ _ h
def SmCOS (l : List CO) : Prop := l.length + totCO l ≤ 1048576
def LenCOS (l : List CO) : Prop := l.length ≤ maxLen ∧ ∀ o ∈ l, LenCO o
theorem ok_COS {l : List CO} {left : Int} (h2 : left ≤ 1048576) (h : 0 ≤ szCOS l left) : 0 ≤ left ∧ SmCOS l := by
  have h1 := szN_ok h
  have h3 := szN_pos h
  unfold SmCOS; omega
theorem SmCOS.one {l : List CO} (h : SmCOS l) {k : Nat} (hk : k < l.length) : SmCO (gd l k) := by
  have h1 := totCO_succ hk
  have h2 := totCO_le l (k + 1)
  unfold SmCOS at h; unfold SmCO; omega
theorem sz_CO (v : Value) (o : CO) (left : Int) (h1 : 0 ≤ left) (h2 : left ≤ 1048576) (w : World) (hl : LenCO o) (ha : RCO w v o) :
    Calls Tryz.prog 46 #[v, .int .i64 left] w (Ret (.int .i64 (szCO o left)) w) := by
  obtain ⟨hl1, hl2⟩ := hl
  unfold maxLen at hl1 hl2
  obtain rfl : v = _ := ha
  go_enter Tryz.func46, Tryz.ntmps46
  by_cases hc : left < o.lead.size
  · go_wp2_with fail
    go_ret
    exact ⟨ret_int (by unfold szCO szN; rw [if_pos (by omega)]), ext_alloc1 _ _⟩
  · by_cases hd : left < o.lead.size + o.cyc.size
    · have e1 : left - (o.lead.size : Int) - (o.cyc.size : Int) < 0 := by omega
      go_wp2_with fail
      go_ret
      exact ⟨ret_int (by unfold szCO szN; rw [if_pos (by omega)]), ext_alloc1 _ _⟩
    · have e1 : ¬ left - (o.lead.size : Int) - (o.cyc.size : Int) < 0 := by omega
      go_wp2_with fail
      go_ret
      exact ⟨ret_int (by unfold szCO szN; rw [if_neg (by omega)]; omega), ext_alloc1 _ _⟩
set_option maxHeartbeats 800000 in
theorem sz_COS (v : Value) (l : List CO) (left : Int) (h1 : 0 ≤ left) (h2 : left ≤ 1048576) (w : World) (hl : LenCOS l) (ha : RCOS w v l) :
    Calls Tryz.prog 27 #[v, .int .i64 left] w (Ret (.int .i64 (szCOS l left)) w) := by
  obtain ⟨A, c, rfl, hc1, hc2⟩ := ha.open_
  have HA := Lib.hid ha; clear ha
  have HL := Lib.hid hl; clear hl
  unfold maxLen at hc2
  go_enter Tryz.func27, Tryz.ntmps27
  by_cases hlt0 : left < l.length
  · go_wp2_with fail
    go_ret
    exact ⟨ret_int (by unfold szCOS szN; rw [if_pos (by omega)]), ext_refl w⟩
  · have e0 : ¬ left - (l.length : Int) < 0 := by omega
    go_wp2_with fail
    go_loopw [5, 1] (fun i q wr => ∃ (k : Nat) (s : Int), k ≤ l.length ∧ i = .int .i64 k ∧ q = .int .i64 s ∧ Hid (s = left - l.length - totCO (l.take k)) ∧ 0 ≤ s ∧ s ≤ 1048576 ∧ Below w.heap.size w wr) (fun i _ _ => l.length - (intOf i).toNat)
    case atStart => exact ⟨0, _, Nat.zero_le _, rfl, rfl, (by unfold Hid; simp [totCO]), by omega, by omega, ext_refl _⟩
    case round =>
      obtain ⟨k, s, hk, rfl, rfl, HS, hs1, hs2, hbw⟩ := hrel
      have HB := Lib.hid hbw
      have HAw := Lib.hid (HA.out.ext hbw); clear hbw
      by_cases hlt : k < l.length
      · obtain ⟨ad, rfl, hbd, hc⟩ := HAw.out.at hlt
        obtain ⟨h0, h1⟩ := hc k hlt
        clear hc hbd
        have e1 : (0:Int) ≤ k := by omega
        have e2 : (k:Int) < l.length := by omega
        have hone : LenCO (gd l k) := HL.out.2 _ (gd_mem hlt)
        have HT := Lib.hid (totCO_succ hlt)
        have HT2 := Lib.hid (totCO_le l (k + 1))
        have HZ := Lib.hid (sz_CO (.agg #[.string (gd l k).lead, .string (gd l k).cyc]) (gd l k) s hs1 hs2 wr hone rfl)
        clear hone
        go_wp2_with fail
        refine (show Calls _ _ _ _ _ from HZ.out).mono ?_
        rintro e w1 ⟨rfl, hb⟩
        have HB1 := Lib.hid (ext_trans HB.out hb); clear hb h0 h1
        obtain ⟨z, hz0⟩ : ∃ z, (gd l k).lead.size + (gd l k).cyc.size = z := ⟨_, rfl⟩
        have HT0 := HT.out
        rw [hz0] at HT0
        have HT' := Lib.hid HT0
        have hzz : szCO (gd l k) s = szN s z := by unfold szCO; rw [hz0]
        rw [hzz]
        clear hz0 hzz HT HT0
        by_cases hq : s < z
        · have hz : szN s z = -1 := by unfold szN; rw [if_pos hq]
          rw [hz]
          have HF : Hid (szCOS l left = -1) := Lib.hid (by
            have h1 := HT'.out; have h2 := HT2.out; have h3 := HS.out
            unfold szCOS szN; rw [if_pos (by omega)])
          clear hz hq
          go_wp2_with fail
          go_ret
          exact ⟨ret_int HF.out.symm, HB1.out⟩
        · have hz : szN s z = s - z := by unfold szN; rw [if_neg hq]
          obtain ⟨s2, hs3⟩ : ∃ s2, s - (z : Int) = s2 := ⟨_, rfl⟩
          rw [hz, hs3]
          have HS2 : Hid (s2 = left - l.length - totCO (l.take (k + 1))) := Lib.hid (by have h1 := HT'.out; have h3 := HS.out; omega)
          have e3 : 0 ≤ s2 := by omega
          have e4 : s2 ≤ 1048576 := by omega
          clear hz hq hs3
          go_wp2_with fail
          go_roundw
          case rel => exact ⟨k + 1, s2, by omega, by go_num, rfl, HS2.out, e3, e4, HB1.out⟩
          case measure => simp [intOf]; omega
      · have hkn : k = l.length := by omega
        subst hkn
        have HF : Hid (szCOS l left = s) := Lib.hid (by
          have h3 := HS.out
          rw [List.take_length] at h3
          unfold szCOS szN; rw [if_neg (by omega)]; omega)
        go_wp2_with fail
        go_ret
        exact ⟨ret_int HF.out.symm, HB.out⟩
theorem to_CO (v : Value) (o : CO) (w : World) (ha : RCO w v o) (_ : SmCO o) :
    Calls Tryz.prog 53 #[v] w (Ret (.agg #[.string o.lead, .string o.cyc]) w) := by
  obtain rfl : v = _ := ha
  go_enter Tryz.func53, Tryz.ntmps53
  go_wp2_with fail
  refine bodyPost_ret (v := .agg #[.string o.lead, .string o.cyc]) (by simp [results, Tryz.results53, go_sem]) rfl ⟨rfl, ?_⟩
  repeat (refine ext_set ?_ (by simp; try omega) _)
  exact ext_alloc (ext_alloc (ext_alloc1 w _) _) _
theorem to_COv (v : Value) (o : CO) (w : World) (ha : RCO w v o) (hs : SmCO o) :
    Calls Tryz.prog 53 #[v] w fun e w' => ∃ v', e = .returned v' ∧ OCO w' w.heap.size v' o ∧ Below w.heap.size w w' := (to_CO v o w ha hs).mono fun e w' ⟨h1, h2⟩ => ⟨_, h1, rfl, h2⟩
theorem info_CO : (Tryz.prog.info? 68).map (fun i => (i.zero, i.size, i.bytes)) = some (some (.agg #[.string ⟨#[]⟩, .string ⟨#[]⟩]), 2, 32) := by kernel_rfl
set_option maxHeartbeats 1600000 in
set_option maxRecDepth 100000 in
theorem to_COS (v : Value) (l : List CO) (w : World) (ha : RCOS w v l) (hsm : SmCOS l) :
    Calls Tryz.prog 32 #[v] w fun e w' => ∃ A' c', e = .returned (.slice A' l.length c') ∧ OCOS w' w.heap.size (.slice A' l.length c') l ∧ Below w.heap.size w w' := by
  obtain ⟨A, c, rfl, hc1, hc2⟩ := ha.open_
  have HA := Lib.hid ha; clear ha
  have HS := Lib.hid hsm
  unfold SmCOS at hsm
  unfold maxLen at hc2
  obtain ⟨i0, hi, hz0, hz1, hz2⟩ := info_parts info_CO
  have hb : i0.bytes * l.length ≤ 281474976710656 := by rw [hz2]; omega
  have HZ2 := Lib.hid hz2; clear hz2
  go_enter Tryz.func32, Tryz.ntmps32
  go_wp2_with (refine wpList_make_full _ rfl _ _ _ rfl w.heap.size 68 i0 (.agg #[.string ⟨#[]⟩, .string ⟨#[]⟩]) 2 Tryz.underlying33 hi hz0 hz1 .i64 .i64 _ _ l.length rfl rfl rfl rfl hb (by unfold maxLen; omega) (Nat.le_refl _) ?_; intro w1 hown1 hgrow1)
  go_loopw [4] (fun i wr => ∃ (k : Nat) (F : Nat → Value), k ≤ l.length ∧ i = .int .i64 k ∧ Hid (ORow wr w.heap.size 68 2 (.slice (some ⟨w.heap.size, 0, none⟩) l.length l.length) l.length F) ∧ Hid (∀ j, j < k * 2 → F j = cf cCO 2 l j) ∧ Below w.heap.size w wr) (fun i _ => l.length - (intOf i).toNat)
  case atStart => exact ⟨0, _, Nat.zero_le _, rfl, Lib.hid (ORow.of hown1), (fun j hj => by omega), (ext_refl w).grown hgrow1 (Nat.le_refl _) (by simp)⟩
  case round =>
    obtain ⟨k, F, hk, rfl, HO, HF, hbw⟩ := hrel
    have HB := Lib.hid hbw
    have HAw := Lib.hid (HA.out.ext hbw); clear hbw
    by_cases hlt : k < l.length
    · obtain ⟨ad, rfl, hbd, hc⟩ := HAw.out.at hlt
      obtain ⟨h0, h1⟩ := hc k hlt
      clear hc hbd
      have e1 : (0:Int) ≤ k := by omega
      have e2 : (k:Int) < l.length := by omega
      go_wp2_with fail
      refine (to_CO _ (gd l k) _ rfl (HS.out.one hlt)).mono ?_
      rintro e w2 ⟨rfl, hb⟩
      have HO2 := Lib.hid (HO.out.ext hb)
      have HB2 := Lib.hid (ext_trans HB.out hb)
      clear hb h0 h1
      have hc0 := HO2.out.cell (j := k * 2) (by omega)
      have hf0 := HO2.out.frozen (k * 2)
      have hc1 := HO2.out.cell (j := k * 2 + 1) (by omega)
      have hf1 := HO2.out.frozen (k * 2 + 1)
      go_wp2_with fail
      have HO3 := Lib.hid ((HO2.out.set (k * 2) (.string (gd l k).lead)).set (k * 2 + 1) (.string (gd l k).cyc))
      go_roundw
      case rel =>
        refine ⟨k + 1, _, by omega, by go_num, HO3.out, (fun j hj => ?_), ((HB2.out.setCell (p := ⟨w.heap.size, k * 2, none⟩) (Nat.le_refl _) (.string (gd l k).lead)).setCell (p := ⟨w.heap.size, k * 2 + 1, none⟩) (Nat.le_refl _) (.string (gd l k).cyc))⟩
        rcases (show j < k * 2 ∨ j = k * 2 ∨ j = k * 2 + 1 by omega) with h | rfl | rfl
        · have hg := HF.out j h
          rw [if_neg (by omega)]; rw [if_neg (by omega)]
          exact hg
        · rw [if_neg (by omega)]; rw [if_pos rfl, ← Nat.add_zero (k * 2), cf_at cCO 2 (by omega)]; rfl
        · rw [if_pos rfl, cf_at cCO 2 (by omega)]; rfl
      case measure => simp [intOf]; omega
    · have hkn : k = l.length := by omega
      subst hkn
      go_wp2_with fail
      go_ret
      exact ⟨_, _, rfl, HO.out.flat cCO_len (by omega) (fun j hj => HF.out j hj), HB.out⟩
set_option maxHeartbeats 800000 in
theorem eq_CO (v1 v2 : Value) (o : CO) (w : World) (ha : RCO w v1 o) (hb : RCO w v2 o) :
    Calls Tryz.prog 59 #[v1, v2] w (Ret (.bool true) w) := by
  obtain rfl : v1 = _ := ha
  obtain rfl : v2 = _ := hb
  go_enter Tryz.func59, Tryz.ntmps59
  go_wp2_with fail
  go_ret
  exact ⟨rfl, ext_alloc (ext_alloc1 _ _) _⟩
set_option maxHeartbeats 1600000 in
theorem eq_COS (v1 v2 : Value) (l : List CO) (w : World) (ha : RCOS w v1 l) (hb : RCOS w v2 l) :
    Calls Tryz.prog 43 #[v1, v2] w (Ret (.bool true) w) := by
  obtain ⟨A, c, rfl, hc1, hc2⟩ := ha.open_
  obtain ⟨B, d, rfl, hd1, hd2⟩ := hb.open_
  have HA := Lib.hid ha; clear ha
  have HB := Lib.hid hb; clear hb
  unfold maxLen at hc2 hd2
  go_enter Tryz.func43, Tryz.ntmps43
  go_wp2_with fail
  go_loopw [5] (fun i wr => ∃ k : Nat, k ≤ l.length ∧ i = .int .i64 k ∧ Below w.heap.size w wr) (fun i _ => l.length - (intOf i).toNat)
  case atStart => exact ⟨0, Nat.zero_le _, rfl, ext_refl _⟩
  case round =>
    obtain ⟨k, hk, rfl, hbw⟩ := hrel
    have HAw := Lib.hid (HA.out.ext hbw)
    have HBw := Lib.hid (HB.out.ext hbw)
    have HW := Lib.hid hbw; clear hbw
    by_cases hlt : k < l.length
    · obtain ⟨ad, rfl, _, hc⟩ := HAw.out.at hlt
      obtain ⟨bd, rfl, _, hd⟩ := HBw.out.at hlt
      obtain ⟨h0, h1⟩ := hc k hlt
      obtain ⟨g0, g1⟩ := hd k hlt
      clear hc hd
      replace h0 := fun d os => cell_regrown h0 d os
      replace h1 := fun d os => cell_regrown h1 d os
      replace g0 := fun d os => cell_regrown g0 d os
      replace g1 := fun d os => cell_regrown g1 d os
      have e1 : (0:Int) ≤ k := by omega
      have e2 : (k:Int) < l.length := by omega
      have HE := Lib.hid (fun w => eq_CO (.agg #[.string (gd l k).lead, .string (gd l k).cyc]) (.agg #[.string (gd l k).lead, .string (gd l k).cyc]) (gd l k) w rfl rfl)
      go_wp2_with fail
      refine wp_region_quiet_below (by kernel_rfl) (by kernel_rfl) ?_
      repeat (go_big_quiet_step ((go_at_call 59; exact regrown_r (HE.out _))))
      refine wpQuiet_nil ?_
      intro w' hw'
      obtain ⟨p, rfl⟩ := hw'
      clear h0 h1 g0 g1
      go_wp2_with fail
      go_roundw
      case rel => exact ⟨k + 1, by omega, by go_num, ext_trans HW.out (below_regrown _ _ _)⟩
      case measure => simp [intOf]; omega
    · have hkn : k = l.length := by omega
      subst hkn
      go_wp2_with fail
      go_ret
      exact ⟨rfl, HW.out⟩
set_option maxRecDepth 100000
theorem cells_s_CO : Tryz.prog.cellsOf 9 = 1 := by kernel_rfl
theorem cells_e_CO : Tryz.prog.cellsOf 81 = 2 := by kernel_rfl
theorem elem_CO {H : Type} {enc : TypeId × Value → H} {W : World} {sp : Nat → Bool} {fuel : Nat} {cs : List Value} {x : DataW H × List MemPlace} (h : DataW.trod enc Tryz.prog W 0 sp true fuel 81 cs = some x) :
    ∃ o : CO, cs = cCO o ∧ LenCO o := by
  obtain ⟨xs, n, _, rfl, hl, hlen, hf⟩ := DataW.trod_struct Tryz.underlying81 h
  rw [cells_e_CO] at hl
  match cs, hl with
  | [c0, c1], _ =>
  have k0 := hf 0 _ rfl
  rw [List.getElem?_eq_getElem (by rw [hlen]; decide)] at k0
  obtain ⟨v0, e0, _, hs0⟩ := DataW.trod_string Tryz.underlying9 k0
  have q0 : List.take (Tryz.prog.cellsOf 9) (List.drop 0 [c0, c1]) = [Value.string v0] := e0
  rw [cells_s_CO] at q0
  replace q0 : c0 = Value.string v0 := by simpa using q0
  clear e0
  have k1 := hf 1 _ rfl
  rw [List.getElem?_eq_getElem (by rw [hlen]; decide)] at k1
  obtain ⟨v1, e1, _, hs1⟩ := DataW.trod_string Tryz.underlying9 k1
  have q1 : List.take (Tryz.prog.cellsOf 9) (List.drop 1 [c0, c1]) = [Value.string v1] := e1
  rw [cells_s_CO] at q1
  replace q1 : c1 = Value.string v1 := by simpa using q1
  clear e1
  exact ⟨⟨v0, v1⟩, by simp only [q0, q1, cCO], hs0, hs1⟩
theorem open_CO {H : Type} {enc : TypeId × Value → H} {W : World} {sp : Nat → Bool} {r : Reach} {b0 : Nat} {v : Value} {d : DataW H} {p : List MemPlace}
    (hv : Value.okWide Tryz.prog W r b0 81 v) (h : DataW.Trod enc Tryz.prog W 0 sp true 81 v d p) :
    ∃ o : CO, RCO W v o ∧ LenCO o := by
  obtain ⟨cs, rfl, hsz⟩ := okWide_struct Tryz.underlying81 hv
  obtain ⟨fuel, hf⟩ := h
  obtain ⟨o, ho, hl⟩ := elem_CO hf
  refine ⟨o, ?_, hl⟩
  have : cs.toList = cCO o := ho
  unfold RCO
  rw [show cs = (cCO o).toArray from by rw [← this]]
  rfl
theorem open_COS {H : Type} {enc : TypeId × Value → H} {W : World} {sp : Nat → Bool} {r : Reach} {b0 : Nat} {v : Value} {d : DataW H} {p : List MemPlace}
    (hv : Value.okWide Tryz.prog W r b0 24 v) (h : DataW.Trod enc Tryz.prog W 0 sp true 24 v d p) :
    ∃ l : List CO, RCOS W v l ∧ LenCOS l := by
  obtain ⟨a0, n0, c0, rfl⟩ := okWide_slice Tryz.underlying24 hv
  obtain ⟨fuel, hf⟩ := h
  rcases Go.Deep.open_slice Tryz.underlying24 hf with ⟨hcs, _⟩ | ⟨a, len, cap, m, n, D, Pl, hcs, _, hl, hm, hmm, _, hx⟩
  · injection hcs with hcs
    injection hcs with e1 e2 e3
    subst e1 e2 e3
    exact ⟨[], ⟨by simp, none, 0, rfl, by simp, by simp [maxLen], fun h => by simp at h⟩, by simp [LenCOS]⟩
  · injection hcs with hcs
    injection hcs with e1 e2 e3
    subst e1 e2 e3
    have hlm : n0 ≤ m := by rw [hmm]; split <;> omega
    rw [cells_e_CO] at hx
    obtain ⟨f, hF⟩ := Go.Deep.choose_lt (α := CO) (p := fun i o => (∀ j, j < 2 → W.cell? ((a.add (i * 2)).add j) = (cCO o)[j]?) ∧ LenCO o) (n := n0) (fun i hi => by
      obtain ⟨cs', h1, h2⟩ := hx i (by omega)
      obtain ⟨o, rfl, ho⟩ := elem_CO h2
      obtain ⟨_, _, hcell⟩ := World.cells?_some h1
      exact ⟨o, hcell, ho⟩)
    refine ⟨(List.range n0).map f, rd_open cCO_len (by omega) hl hm f (fun i hi => (hF i hi).1), by simp; omega, fun o ho => ?_⟩
    obtain ⟨i, hi, rfl⟩ := List.mem_map.1 ho
    exact (hF i (by simpa using hi)).2

end Go.Proofs.YtoefoljhgnfoiaaGreatDoor
