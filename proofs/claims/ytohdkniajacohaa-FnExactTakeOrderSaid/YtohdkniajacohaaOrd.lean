/-
  The struct Order and slices of it: how they read, the laws' small functions on them, and how they come in.
-/
import Derived.Test.YtohdkniajacohaaFlat
import Derived.Test.YtohdkniajacohaaMtx
import Derived.Test.YtohdkniajacohaaRegrown
import Derived.Test.YtohdkniajacohaaRow
import Derived.Deep.RegionHeld3
import Derived.Deep.DrawnRows
namespace Go.Proofs.Ytohdkniajacohaa
open Go.ChangeShapes Go.WideShapes Go.ChangeAt Go.RowKit Go.Sort Go.Joins
set_option linter.unusedVariables false

structure OD where
  id : Int
  cu : ByteArray
  br : Int
  due : Int
  sent : Int
instance : Inhabited OD := ⟨⟨0, ⟨#[]⟩, 0, 0, 0⟩⟩
def cOD (o : OD) : List Value := [.int .i64 o.id, .string o.cu, .int .i64 o.br, .int .i64 o.due, .int .i64 o.sent]
theorem cOD_len (o : OD) : (cOD o).length = 5 := rfl
/-- v is the struct o. -/
def ROD (_ : World) (v : Value) (o : OD) : Prop := v = .agg #[.int .i64 o.id, .string o.cu, .int .i64 o.br, .int .i64 o.due, .int .i64 o.sent]
theorem ROD.ext {w w' : World} {v : Value} {o : OD} (h : ROD w v o) (_ : Below w.heap.size w w') : ROD w' v o := h
def SmOD (o : OD) : Prop := o.cu.size ≤ 1048576
def LenOD (o : OD) : Prop := o.cu.size ≤ maxLen
def szOD (o : OD) (left : Int) : Int := szN left o.cu.size
theorem szOD_le (o : OD) {left : Int} (h : left ≤ 1048576) : szOD o left ≤ 1048576 ∧ -1 ≤ szOD o left := szN_le _ _ h
theorem ok_OD {o : OD} {left : Int} (h2 : left ≤ 1048576) (h : 0 ≤ szOD o left) : 0 ≤ left ∧ SmOD o := by
  have h1 := szN_ok h
  have h3 := szN_pos h
  unfold SmOD; omega
/-- The cells of o behind an address. -/
def POD (w : World) (p : Addr) (o : OD) : Prop := w.cell? p = some (.int .i64 o.id) ∧ w.cell? ⟨p.block, p.off + 1, none⟩ = some (.string o.cu) ∧ w.cell? ⟨p.block, p.off + 2, none⟩ = some (.int .i64 o.br) ∧ w.cell? ⟨p.block, p.off + 3, none⟩ = some (.int .i64 o.due) ∧ w.cell? ⟨p.block, p.off + 4, none⟩ = some (.int .i64 o.sent)
theorem POD.ext {w w' : World} {p : Addr} {o : OD} (h : POD w p o) (hb : Below w.heap.size w w') : POD w' p o := by
  obtain ⟨h0, h1, h2, h3, h4⟩ := h
  exact ⟨cell_keep h0 hb, cell_keep h1 hb, cell_keep h2 hb, cell_keep h3 hb, cell_keep h4 hb⟩
theorem pOD_box (w : World) (o : OD) (Ty : TypeId) : POD (w.alloc (.cells #[.int .i64 o.id, .string o.cu, .int .i64 o.br, .int .i64 o.due, .int .i64 o.sent] Ty)) ⟨w.heap.size, 0, none⟩ o := ⟨by simp [go_sem], by simp [go_sem], by simp [go_sem], by simp [go_sem], by simp [go_sem]⟩
/-- v reads as the list l. -/
def RODS (w : World) (v : Value) (l : List OD) : Prop := Rd w 5 v l.length (l.flatMap cOD)
theorem RODS.ext {w w' : World} {v : Value} {l : List OD} (h : RODS w v l) (hb : Below w.heap.size w w') : RODS w' v l := Rd.ext h hb
theorem RODS.alloc {w : World} {v : Value} {l : List OD} (h : RODS w v l) (o : Obj) : RODS (w.alloc o) v l := Rd.alloc h o
theorem RODS.at {w : World} {A : Option Addr} {n cp : Nat} {l : List OD} (h : RODS w (.slice A n cp) l) {k : Nat} (hk : k < l.length) : ∃ ad, A = some ad ∧ ad.block < w.heap.size ∧ ∀ k, k < l.length → POD w (ad.add (k * 5)) (gd l k) := by
  obtain ⟨ad, hA, hlt, hc⟩ := Rd.at cOD_len h hk
  refine ⟨ad, hA, hlt, fun k hk => ?_⟩
  have h0 := fun j (hj : j < 5) => hc k hk j hj
  simp only [← add_of_add] at h0
  refine ⟨?_, ?_, ?_, ?_, ?_⟩
  · have := h0 0 (by omega)
    rwa [Addr.add_zero'] at this
  · have := h0 1 (by omega)
    rwa [addr_succ] at this
  · have := h0 2 (by omega)
    rwa [addr_succ] at this
  · have := h0 3 (by omega)
    rwa [addr_succ] at this
  · have := h0 4 (by omega)
    rwa [addr_succ] at this
theorem RODS.open_ {w : World} {v : Value} {l : List OD} (h : RODS w v l) : ∃ A c, v = .slice A l.length c ∧ l.length ≤ c ∧ c ≤ maxLen := by
  obtain ⟨_, A, c, h1, h2, h3, _⟩ := h; exact ⟨A, c, h1, h2, h3⟩
def OODS (w : World) (base : Nat) (v : Value) (l : List OD) : Prop := w.ownsRow base 39 5 v l.length (l.flatMap cOD)
theorem OODS.rd {w : World} {base : Nat} {v : Value} {l : List OD} (h : OODS w base v l) : RODS w v l := own_rd h
theorem OODS.ext {w w' : World} {base : Nat} {v : Value} {l : List OD} (h : OODS w base v l) (hb : Below w.heap.size w w') : OODS w' base v l := own_ext h hb
theorem OODS.mono {w : World} {base base' : Nat} {v : Value} {l : List OD} (h : OODS w base v l) (hb : base' ≤ base) : OODS w base' v l := own_mono h hb
theorem OODS.ge {w : World} {base : Nat} {v : Value} {l : List OD} (h : OODS w base v l) : ∀ k, BI v k → base ≤ k ∧ k < w.heap.size := World.ownsRow.lt h
theorem OODS.chg {S : Nat → Prop} {w w' : World} {base : Nat} {v : Value} {l : List OD} (h : OODS w base v l) (hb : Chg S w w') (hS : ∀ k, BI v k → ¬ S k) : OODS w' base v l := own_chg h hb hS
abbrev BODS := BI
def totOD (l : List OD) : Nat := (l.map fun o => o.cu.size).sum
theorem totOD_succ {l : List OD} {k : Nat} (hk : k < l.length) : totOD (l.take (k + 1)) = totOD (l.take k) + (gd l k).cu.size := by unfold totOD; rw [take_gd hk]; simp
theorem totOD_le (l : List OD) (k : Nat) : totOD (l.take k) ≤ totOD l := by
  have h : l = l.take k ++ l.drop k := (List.take_append_drop k l).symm
  have : totOD l = totOD (l.take k) + totOD (l.drop k) := by unfold totOD; rw [← List.sum_append, ← List.map_append, ← h]
  omega
def szODS (l : List OD) (left : Int) : Int := szN left (l.length + totOD l)
theorem szODS_le (l : List OD) {left : Int} (h : left ≤ 1048576) : szODS l left ≤ 1048576 ∧ -1 ≤ szODS l left := szN_le _ _ h
def SmODS (l : List OD) : Prop := l.length + totOD l ≤ 1048576
def LenODS (l : List OD) : Prop := l.length ≤ maxLen ∧ ∀ o ∈ l, o.cu.size ≤ maxLen
theorem ok_ODS {l : List OD} {left : Int} (h2 : left ≤ 1048576) (h : 0 ≤ szODS l left) : 0 ≤ left ∧ SmODS l := by
  have h1 := szN_ok h
  have h3 := szN_pos h
  unfold SmODS; omega
theorem SmODS.one {l : List OD} (h : SmODS l) {k : Nat} (hk : k < l.length) : SmOD (gd l k) := by
  have h1 := totOD_succ hk
  have h2 := totOD_le l (k + 1)
  unfold SmODS at h; unfold SmOD; omega
theorem sz_OD (v : Value) (o : OD) (left : Int) (h1 : 0 ≤ left) (h2 : left ≤ 1048576) (w : World) (hl : LenOD o) (ha : ROD w v o) :
    Calls Try.prog 16 #[v, .int .i64 left] w (Ret (.int .i64 (szOD o left)) w) := by
  unfold LenOD maxLen at hl
  obtain rfl : v = _ := ha
  go_enter Try.func16, Try.ntmps16
  by_cases hc : left < o.cu.size
  · go_wp2_with fail
    go_ret
    exact ⟨ret_int (by unfold szOD szN; rw [if_pos hc]), ext_alloc1 _ _⟩
  · go_wp2_with fail
    go_ret
    exact ⟨ret_int (by unfold szOD szN; rw [if_neg (by omega)]), ext_alloc1 _ _⟩
set_option maxHeartbeats 800000 in
theorem sz_ODS (v : Value) (l : List OD) (left : Int) (h1 : 0 ≤ left) (h2 : left ≤ 1048576) (w : World) (hl : LenODS l) (ha : RODS w v l) :
    Calls Try.prog 7 #[v, .int .i64 left] w (Ret (.int .i64 (szODS l left)) w) := by
  obtain ⟨A, c, rfl, hc1, hc2⟩ := ha.open_
  have HA := Lib.hid ha; clear ha
  have HL := Lib.hid hl; clear hl
  unfold maxLen at hc2
  go_enter Try.func7, Try.ntmps7
  by_cases hlt0 : left < l.length
  · go_wp2_with fail
    go_ret
    exact ⟨ret_int (by unfold szODS szN; rw [if_pos (by omega)]), ext_refl w⟩
  · have e0 : ¬ left - (l.length : Int) < 0 := by omega
    go_wp2_with fail
    go_loopw [5, 1] (fun i q wr => ∃ (k : Nat) (s : Int), k ≤ l.length ∧ i = .int .i64 k ∧ q = .int .i64 s ∧ Hid (s = left - l.length - totOD (l.take k)) ∧ 0 ≤ s ∧ s ≤ 1048576 ∧ Below w.heap.size w wr) (fun i _ _ => l.length - (intOf i).toNat)
    case atStart => exact ⟨0, _, Nat.zero_le _, rfl, rfl, (by unfold Hid; simp [totOD]), by omega, by omega, ext_refl _⟩
    case round =>
      obtain ⟨k, s, hk, rfl, rfl, HS, hs1, hs2, hbw⟩ := hrel
      have HB := Lib.hid hbw
      have HAw := Lib.hid (HA.out.ext hbw); clear hbw
      by_cases hlt : k < l.length
      · obtain ⟨ad, rfl, hbd, hc⟩ := HAw.out.at hlt
        obtain ⟨h0, h1, h2, h3, h4⟩ := hc k hlt
        clear hc hbd
        have e1 : (0:Int) ≤ k := by omega
        have e2 : (k:Int) < l.length := by omega
        have hone : (gd l k).cu.size ≤ maxLen := HL.out.2 _ (gd_mem hlt)
        have HT := Lib.hid (totOD_succ hlt)
        have HT2 := Lib.hid (totOD_le l (k + 1))
        have HZ := Lib.hid (sz_OD (.agg #[.int .i64 (gd l k).id, .string (gd l k).cu, .int .i64 (gd l k).br, .int .i64 (gd l k).due, .int .i64 (gd l k).sent]) (gd l k) s hs1 hs2 wr hone rfl)
        clear hone
        go_wp2_with fail
        refine (show Calls _ _ _ _ _ from HZ.out).mono ?_
        rintro e w1 ⟨rfl, hb⟩
        have HB1 := Lib.hid (ext_trans HB.out hb); clear hb h0 h1 h2 h3 h4
        by_cases hq : s < (gd l k).cu.size
        · have hz : szOD (gd l k) s = -1 := by unfold szOD szN; rw [if_pos hq]
          rw [hz]
          have HF : Hid (szODS l left = -1) := Lib.hid (by
            have h1 := HT.out; have h2 := HT2.out; have h3 := HS.out
            unfold szODS szN; rw [if_pos (by omega)])
          clear hz hq
          go_wp2_with fail
          go_ret
          exact ⟨ret_int HF.out.symm, HB1.out⟩
        · have hz : szOD (gd l k) s = s - (gd l k).cu.size := by unfold szOD szN; rw [if_neg hq]
          obtain ⟨s2, hs3⟩ : ∃ s2, s - ((gd l k).cu.size : Int) = s2 := ⟨_, rfl⟩
          rw [hz, hs3]
          have HS2 : Hid (s2 = left - l.length - totOD (l.take (k + 1))) := Lib.hid (by have h1 := HT.out; have h3 := HS.out; omega)
          have e3 : 0 ≤ s2 := by omega
          have e4 : s2 ≤ 1048576 := by omega
          clear hz hq hs3
          go_wp2_with fail
          go_roundw
          case rel => exact ⟨k + 1, s2, by omega, by go_num, rfl, HS2.out, e3, e4, HB1.out⟩
          case measure => simp [intOf]; omega
      · have hkn : k = l.length := by omega
        subst hkn
        have HF : Hid (szODS l left = s) := Lib.hid (by
          have h3 := HS.out
          rw [List.take_length] at h3
          unfold szODS szN; rw [if_neg (by omega)]; omega)
        go_wp2_with fail
        go_ret
        exact ⟨ret_int HF.out.symm, HB.out⟩
theorem to_OD (v : Value) (o : OD) (w : World) (ha : ROD w v o) (_ : SmOD o) :
    Calls Try.prog 18 #[v] w (Ret (.agg #[.int .i64 o.id, .string o.cu, .int .i64 o.br, .int .i64 o.due, .int .i64 o.sent]) w) := by
  obtain rfl : v = _ := ha
  go_enter Try.func18, Try.ntmps18
  go_wp2_with fail
  refine bodyPost_ret (v := .agg #[.int .i64 o.id, .string o.cu, .int .i64 o.br, .int .i64 o.due, .int .i64 o.sent]) (by simp [results, Try.results18, go_sem]) rfl ⟨rfl, ?_⟩
  repeat (refine ext_set ?_ (by simp; try omega) _)
  exact ext_alloc (ext_alloc (ext_alloc1 w _) _) _
theorem info_OD : (Try.prog.info? 39).map (fun i => (i.zero, i.size, i.bytes)) = some (some (.agg #[.int .i64 0, .string ⟨#[]⟩, .int .i64 0, .int .i64 0, .int .i64 0]), 5, 48) := by kernel_rfl
set_option maxHeartbeats 1600000 in
set_option maxRecDepth 100000 in
theorem to_ODS (v : Value) (l : List OD) (w : World) (ha : RODS w v l) (hsm : SmODS l) :
    Calls Try.prog 9 #[v] w fun e w' => ∃ A' c', e = .returned (.slice A' l.length c') ∧ OODS w' w.heap.size (.slice A' l.length c') l ∧ Below w.heap.size w w' := by
  obtain ⟨A, c, rfl, hc1, hc2⟩ := ha.open_
  have HA := Lib.hid ha; clear ha
  have HS := Lib.hid hsm
  unfold SmODS at hsm
  unfold maxLen at hc2
  obtain ⟨i0, hi, hz0, hz1, hz2⟩ := info_parts info_OD
  have hb : i0.bytes * l.length ≤ 281474976710656 := by rw [hz2]; omega
  have HZ2 := Lib.hid hz2; clear hz2
  go_enter Try.func9, Try.ntmps9
  go_wp2_with (refine wpList_make_full _ rfl _ _ _ rfl w.heap.size 39 i0 (.agg #[.int .i64 0, .string ⟨#[]⟩, .int .i64 0, .int .i64 0, .int .i64 0]) 5 Try.underlying27 hi hz0 hz1 .i64 .i64 _ _ l.length rfl rfl rfl rfl hb (by unfold maxLen; omega) (Nat.le_refl _) ?_; intro w1 hown1 hgrow1)
  go_loopw [4] (fun i wr => ∃ (k : Nat) (F : Nat → Value), k ≤ l.length ∧ i = .int .i64 k ∧ Hid (ORow wr w.heap.size 39 5 (.slice (some ⟨w.heap.size, 0, none⟩) l.length l.length) l.length F) ∧ Hid (∀ j, j < k * 5 → F j = cf cOD 5 l j) ∧ Below w.heap.size w wr) (fun i _ => l.length - (intOf i).toNat)
  case atStart => exact ⟨0, _, Nat.zero_le _, rfl, Lib.hid (ORow.of hown1), (fun j hj => by omega), (ext_refl w).grown hgrow1 (Nat.le_refl _) (by simp)⟩
  case round =>
    obtain ⟨k, F, hk, rfl, HO, HF, hbw⟩ := hrel
    have HB := Lib.hid hbw
    have HAw := Lib.hid (HA.out.ext hbw); clear hbw
    by_cases hlt : k < l.length
    · obtain ⟨ad, rfl, hbd, hc⟩ := HAw.out.at hlt
      obtain ⟨h0, h1, h2, h3, h4⟩ := hc k hlt
      clear hc hbd
      have e1 : (0:Int) ≤ k := by omega
      have e2 : (k:Int) < l.length := by omega
      go_wp2_with fail
      refine (to_OD _ (gd l k) _ rfl (HS.out.one hlt)).mono ?_
      rintro e w2 ⟨rfl, hb⟩
      have HO2 := Lib.hid (HO.out.ext hb)
      have HB2 := Lib.hid (ext_trans HB.out hb)
      clear hb h0 h1 h2 h3 h4
      have hc0 := HO2.out.cell (j := k * 5) (by omega)
      have hf0 := HO2.out.frozen (k * 5)
      have hc1 := HO2.out.cell (j := k * 5 + 1) (by omega)
      have hf1 := HO2.out.frozen (k * 5 + 1)
      have hc2 := HO2.out.cell (j := k * 5 + 2) (by omega)
      have hf2 := HO2.out.frozen (k * 5 + 2)
      have hc3 := HO2.out.cell (j := k * 5 + 3) (by omega)
      have hf3 := HO2.out.frozen (k * 5 + 3)
      have hc4 := HO2.out.cell (j := k * 5 + 4) (by omega)
      have hf4 := HO2.out.frozen (k * 5 + 4)
      go_wp2_with fail
      have HO3 := Lib.hid ((((((HO2.out.set (k * 5) (.int .i64 (gd l k).id)).set (k * 5 + 1) (.string (gd l k).cu)).set (k * 5 + 2) (.int .i64 (gd l k).br)).set (k * 5 + 3) (.int .i64 (gd l k).due)).set (k * 5 + 4) (.int .i64 (gd l k).sent)))
      go_roundw
      case rel =>
        refine ⟨k + 1, _, by omega, by go_num, HO3.out, (fun j hj => ?_), (((((HB2.out.setCell (p := ⟨w.heap.size, k * 5, none⟩) (Nat.le_refl _) (.int .i64 (gd l k).id)).setCell (p := ⟨w.heap.size, k * 5 + 1, none⟩) (Nat.le_refl _) (.string (gd l k).cu)).setCell (p := ⟨w.heap.size, k * 5 + 2, none⟩) (Nat.le_refl _) (.int .i64 (gd l k).br)).setCell (p := ⟨w.heap.size, k * 5 + 3, none⟩) (Nat.le_refl _) (.int .i64 (gd l k).due)).setCell (p := ⟨w.heap.size, k * 5 + 4, none⟩) (Nat.le_refl _) (.int .i64 (gd l k).sent))⟩
        rcases (show j < k * 5 ∨ j = k * 5 ∨ j = k * 5 + 1 ∨ j = k * 5 + 2 ∨ j = k * 5 + 3 ∨ j = k * 5 + 4 by omega) with h | rfl | rfl | rfl | rfl | rfl
        · have hg := HF.out j h
          rw [if_neg (by omega)]; rw [if_neg (by omega)]; rw [if_neg (by omega)]; rw [if_neg (by omega)]; rw [if_neg (by omega)]
          exact hg
        · rw [if_neg (by omega)]; rw [if_neg (by omega)]; rw [if_neg (by omega)]; rw [if_neg (by omega)]; rw [if_pos rfl, ← Nat.add_zero (k * 5), cf_at cOD 5 (by omega)]; rfl
        · rw [if_neg (by omega)]; rw [if_neg (by omega)]; rw [if_neg (by omega)]; rw [if_pos rfl, cf_at cOD 5 (by omega)]; rfl
        · rw [if_neg (by omega)]; rw [if_neg (by omega)]; rw [if_pos rfl, cf_at cOD 5 (by omega)]; rfl
        · rw [if_neg (by omega)]; rw [if_pos rfl, cf_at cOD 5 (by omega)]; rfl
        · rw [if_pos rfl, cf_at cOD 5 (by omega)]; rfl
      case measure => simp [intOf]; omega
    · have hkn : k = l.length := by omega
      subst hkn
      go_wp2_with fail
      go_ret
      exact ⟨_, _, rfl, HO.out.flat cOD_len (by omega) (fun j hj => HF.out j hj), HB.out⟩
set_option maxHeartbeats 800000 in
theorem eq_OD (v1 v2 : Value) (o : OD) (w : World) (ha : ROD w v1 o) (hb : ROD w v2 o) :
    Calls Try.prog 29 #[v1, v2] w (Ret (.bool true) w) := by
  obtain rfl : v1 = _ := ha
  obtain rfl : v2 = _ := hb
  go_enter Try.func29, Try.ntmps29
  go_wp2_with fail
  go_ret
  exact ⟨rfl, ext_alloc (ext_alloc1 _ _) _⟩
set_option maxHeartbeats 1600000 in
theorem eq_ODS (v1 v2 : Value) (l : List OD) (w : World) (ha : RODS w v1 l) (hb : RODS w v2 l) :
    Calls Try.prog 12 #[v1, v2] w (Ret (.bool true) w) := by
  obtain ⟨A, c, rfl, hc1, hc2⟩ := ha.open_
  obtain ⟨B, d, rfl, hd1, hd2⟩ := hb.open_
  have HA := Lib.hid ha; clear ha
  have HB := Lib.hid hb; clear hb
  unfold maxLen at hc2 hd2
  go_enter Try.func12, Try.ntmps12
  go_wp2_with fail
  go_loopw [5] (fun i wr => ∃ k : Nat, k ≤ l.length ∧ i = .int .i64 k ∧ Below w.heap.size w wr) (fun i _ => l.length - (intOf i).toNat)
  case atStart => exact ⟨0, Nat.zero_le _, rfl, ext_refl _⟩
  case round =>
    obtain ⟨k, hk, rfl, hbw⟩ := hrel
    have HAw := Lib.hid (HA.out.ext hbw)
    have HBw := Lib.hid (HB.out.ext hbw)
    have HW := Lib.hid hbw; clear hbw
    by_cases hlt : k < l.length
    · obtain ⟨ad, rfl, _, hc⟩ := HAw.out.at hlt
      obtain ⟨bd, rfl, _, hd⟩ := HBw.out.at hlt
      obtain ⟨h0, h1, h2, h3, h4⟩ := hc k hlt
      obtain ⟨g0, g1, g2, g3, g4⟩ := hd k hlt
      clear hc hd
      replace h0 := fun d os => cell_regrown h0 d os
      replace h1 := fun d os => cell_regrown h1 d os
      replace h2 := fun d os => cell_regrown h2 d os
      replace h3 := fun d os => cell_regrown h3 d os
      replace h4 := fun d os => cell_regrown h4 d os
      replace g0 := fun d os => cell_regrown g0 d os
      replace g1 := fun d os => cell_regrown g1 d os
      replace g2 := fun d os => cell_regrown g2 d os
      replace g3 := fun d os => cell_regrown g3 d os
      replace g4 := fun d os => cell_regrown g4 d os
      have e1 : (0:Int) ≤ k := by omega
      have e2 : (k:Int) < l.length := by omega
      have HE := Lib.hid (fun w => eq_OD (.agg #[.int .i64 (gd l k).id, .string (gd l k).cu, .int .i64 (gd l k).br, .int .i64 (gd l k).due, .int .i64 (gd l k).sent]) (.agg #[.int .i64 (gd l k).id, .string (gd l k).cu, .int .i64 (gd l k).br, .int .i64 (gd l k).due, .int .i64 (gd l k).sent]) (gd l k) w rfl rfl)
      go_wp2_with fail
      refine wp_region_quiet_below (by kernel_rfl) (by kernel_rfl) ?_
      repeat (go_big_quiet_step ((go_at_call 29; exact regrown_r (HE.out _))))
      refine wpQuiet_nil ?_
      intro w' hw'
      obtain ⟨p, rfl⟩ := hw'
      clear h0 h1 h2 h3 h4 g0 g1 g2 g3 g4
      go_wp2_with fail
      go_roundw
      case rel => exact ⟨k + 1, by omega, by go_num, ext_trans HW.out (below_regrown _ _ _)⟩
      case measure => simp [intOf]; omega
    · have hkn : k = l.length := by omega
      subst hkn
      go_wp2_with fail
      go_ret
      exact ⟨rfl, HW.out⟩
set_option maxRecDepth 100000
theorem cells_i_OD : Try.prog.cellsOf 2 = 1 := by kernel_rfl
theorem cells_s_OD : Try.prog.cellsOf 9 = 1 := by kernel_rfl
theorem cells_e_OD : Try.prog.cellsOf 35 = 5 := by kernel_rfl
theorem elem_OD {H : Type} {enc : TypeId × Value → H} {W : World} {sp : Nat → Bool} {fuel : Nat} {cs : List Value} {x : DataW H × List MemPlace} (h : DataW.trod enc Try.prog W 0 sp true fuel 35 cs = some x) :
    ∃ o : OD, cs = cOD o ∧ LenOD o := by
  obtain ⟨xs, n, _, rfl, hl, hlen, hf⟩ := DataW.trod_struct Try.underlying35 h
  rw [cells_e_OD] at hl
  match cs, hl with
  | [c0, c1, c2, c3, c4], _ =>
  have k0 := hf 0 _ rfl
  rw [List.getElem?_eq_getElem (by rw [hlen]; decide)] at k0
  obtain ⟨v0, e0, _, hs0⟩ := DataW.trod_int Try.underlying2 k0
  have q0 : List.take (Try.prog.cellsOf 2) (List.drop 0 [c0, c1, c2, c3, c4]) = [Value.int .i64 v0] := e0
  rw [cells_i_OD] at q0
  replace q0 : c0 = Value.int .i64 v0 := by simpa using q0
  clear e0
  have k1 := hf 1 _ rfl
  rw [List.getElem?_eq_getElem (by rw [hlen]; decide)] at k1
  obtain ⟨v1, e1, _, hs1⟩ := DataW.trod_string Try.underlying9 k1
  have q1 : List.take (Try.prog.cellsOf 9) (List.drop 1 [c0, c1, c2, c3, c4]) = [Value.string v1] := e1
  rw [cells_s_OD] at q1
  replace q1 : c1 = Value.string v1 := by simpa using q1
  clear e1
  have k2 := hf 2 _ rfl
  rw [List.getElem?_eq_getElem (by rw [hlen]; decide)] at k2
  obtain ⟨v2, e2, _, hs2⟩ := DataW.trod_int Try.underlying2 k2
  have q2 : List.take (Try.prog.cellsOf 2) (List.drop 2 [c0, c1, c2, c3, c4]) = [Value.int .i64 v2] := e2
  rw [cells_i_OD] at q2
  replace q2 : c2 = Value.int .i64 v2 := by simpa using q2
  clear e2
  have k3 := hf 3 _ rfl
  rw [List.getElem?_eq_getElem (by rw [hlen]; decide)] at k3
  obtain ⟨v3, e3, _, hs3⟩ := DataW.trod_int Try.underlying2 k3
  have q3 : List.take (Try.prog.cellsOf 2) (List.drop 3 [c0, c1, c2, c3, c4]) = [Value.int .i64 v3] := e3
  rw [cells_i_OD] at q3
  replace q3 : c3 = Value.int .i64 v3 := by simpa using q3
  clear e3
  have k4 := hf 4 _ rfl
  rw [List.getElem?_eq_getElem (by rw [hlen]; decide)] at k4
  obtain ⟨v4, e4, _, hs4⟩ := DataW.trod_int Try.underlying2 k4
  have q4 : List.take (Try.prog.cellsOf 2) (List.drop 4 [c0, c1, c2, c3, c4]) = [Value.int .i64 v4] := e4
  rw [cells_i_OD] at q4
  replace q4 : c4 = Value.int .i64 v4 := by simpa using q4
  clear e4
  exact ⟨⟨v0, v1, v2, v3, v4⟩, by simp only [q0, q1, q2, q3, q4, cOD], hs1⟩
theorem open_OD {H : Type} {enc : TypeId × Value → H} {W : World} {sp : Nat → Bool} {r : Reach} {b0 : Nat} {v : Value} {d : DataW H} {p : List MemPlace}
    (hv : Value.okWide Try.prog W r b0 35 v) (h : DataW.Trod enc Try.prog W 0 sp true 35 v d p) :
    ∃ o : OD, ROD W v o ∧ LenOD o := by
  obtain ⟨cs, rfl, hsz⟩ := okWide_struct Try.underlying35 hv
  obtain ⟨fuel, hf⟩ := h
  obtain ⟨o, ho, hl⟩ := elem_OD hf
  refine ⟨o, ?_, hl⟩
  have : cs.toList = cOD o := ho
  unfold ROD
  rw [show cs = (cOD o).toArray from by rw [← this]]
  rfl
theorem open_ODS {H : Type} {enc : TypeId × Value → H} {W : World} {sp : Nat → Bool} {r : Reach} {b0 : Nat} {v : Value} {d : DataW H} {p : List MemPlace}
    (hv : Value.okWide Try.prog W r b0 22 v) (h : DataW.Trod enc Try.prog W 0 sp true 22 v d p) :
    ∃ l : List OD, RODS W v l ∧ LenODS l := by
  obtain ⟨a0, n0, c0, rfl⟩ := okWide_slice Try.underlying22 hv
  obtain ⟨fuel, hf⟩ := h
  rcases Go.Deep.open_slice Try.underlying22 hf with ⟨hcs, _⟩ | ⟨a, len, cap, m, n, D, Pl, hcs, _, hl, hm, hmm, _, hx⟩
  · injection hcs with hcs
    injection hcs with e1 e2 e3
    subst e1 e2 e3
    exact ⟨[], ⟨by simp, none, 0, rfl, by simp, by simp [maxLen], fun h => by simp at h⟩, by simp [LenODS]⟩
  · injection hcs with hcs
    injection hcs with e1 e2 e3
    subst e1 e2 e3
    have hlm : n0 ≤ m := by rw [hmm]; split <;> omega
    rw [cells_e_OD] at hx
    obtain ⟨f, hF⟩ := Go.Deep.choose_lt (α := OD) (p := fun i o => (∀ j, j < 5 → W.cell? ((a.add (i * 5)).add j) = (cOD o)[j]?) ∧ LenOD o) (n := n0) (fun i hi => by
      obtain ⟨cs', h1, h2⟩ := hx i (by omega)
      obtain ⟨o, rfl, ho⟩ := elem_OD h2
      obtain ⟨_, _, hcell⟩ := World.cells?_some h1
      exact ⟨o, hcell, ho⟩)
    refine ⟨(List.range n0).map f, rd_open cOD_len (by omega) hl hm f (fun i hi => (hF i hi).1), by simp; omega, fun o ho => ?_⟩
    obtain ⟨i, hi, rfl⟩ := List.mem_map.1 ho
    exact (hF i (by simpa using hi)).2

end Go.Proofs.Ytohdkniajacohaa
