/-
  The struct Entry and slices of it: how they read, the laws' small functions on them, and how they come in.
-/
import Derived.Test.YtjebddemamagdaaDoorFlat
import Derived.Test.YtjebddemamagdaaDoorMtx
import Derived.Test.YtjebddemamagdaaDoorRegrown
import Derived.Test.YtjebddemamagdaaDoorRow
import Derived.Deep.RegionHeld3
import Derived.Deep.DrawnRows
namespace Go.Proofs.YtjebddemamagdaaDoor
open Go.ChangeShapes Go.WideShapes Go.ChangeAt Go.RowKit Go.Sort Go.Joins
set_option linter.unusedVariables false

structure EN where
  day : Int
  what : ByteArray
  val : Int
instance : Inhabited EN := ⟨⟨0, ⟨#[]⟩, 0⟩⟩
def cEN (o : EN) : List Value := [.int .i64 o.day, .string o.what, .int .i64 o.val]
theorem cEN_len (o : EN) : (cEN o).length = 3 := rfl
/-- v is the struct o. -/
def REN (_ : World) (v : Value) (o : EN) : Prop := v = .agg #[.int .i64 o.day, .string o.what, .int .i64 o.val]
theorem REN.ext {w w' : World} {v : Value} {o : EN} (h : REN w v o) (_ : Below w.heap.size w w') : REN w' v o := h
/-- The same, where a call gave it. -/
def OEN (_ : World) (_ : Nat) (v : Value) (o : EN) : Prop := v = .agg #[.int .i64 o.day, .string o.what, .int .i64 o.val]
theorem OEN.rd {w : World} {b : Nat} {v : Value} {o : EN} (h : OEN w b v o) : REN w v o := h
theorem OEN.ext {w w' : World} {b : Nat} {v : Value} {o : EN} (h : OEN w b v o) (_ : Below w.heap.size w w') : OEN w' b v o := h
def SmEN (o : EN) : Prop := o.what.size ≤ 1048576
def LenEN (o : EN) : Prop := o.what.size ≤ maxLen
def szEN (o : EN) (left : Int) : Int := szN left o.what.size
theorem szEN_le (o : EN) {left : Int} (h : left ≤ 1048576) : szEN o left ≤ 1048576 ∧ -1 ≤ szEN o left := szN_le _ _ h
theorem ok_EN {o : EN} {left : Int} (h2 : left ≤ 1048576) (h : 0 ≤ szEN o left) : 0 ≤ left ∧ SmEN o := by
  have h1 := szN_ok h
  have h3 := szN_pos h
  unfold SmEN; omega
/-- The cells of o behind an address. -/
def PEN (w : World) (p : Addr) (o : EN) : Prop := w.cell? p = some (.int .i64 o.day) ∧ w.cell? ⟨p.block, p.off + 1, none⟩ = some (.string o.what) ∧ w.cell? ⟨p.block, p.off + 2, none⟩ = some (.int .i64 o.val)
theorem PEN.ext {w w' : World} {p : Addr} {o : EN} (h : PEN w p o) (hb : Below w.heap.size w w') : PEN w' p o := by
  obtain ⟨h0, h1, h2⟩ := h
  exact ⟨cell_keep h0 hb, cell_keep h1 hb, cell_keep h2 hb⟩
theorem pEN_box (w : World) (o : EN) (Ty : TypeId) : PEN (w.alloc (.cells #[.int .i64 o.day, .string o.what, .int .i64 o.val] Ty)) ⟨w.heap.size, 0, none⟩ o := ⟨by simp [go_sem], by simp [go_sem], by simp [go_sem]⟩
/-- v reads as the list l. -/
def RENS (w : World) (v : Value) (l : List EN) : Prop := Rd w 3 v l.length (l.flatMap cEN)
theorem RENS.ext {w w' : World} {v : Value} {l : List EN} (h : RENS w v l) (hb : Below w.heap.size w w') : RENS w' v l := Rd.ext h hb
theorem RENS.alloc {w : World} {v : Value} {l : List EN} (h : RENS w v l) (o : Obj) : RENS (w.alloc o) v l := Rd.alloc h o
theorem RENS.at {w : World} {A : Option Addr} {n cp : Nat} {l : List EN} (h : RENS w (.slice A n cp) l) {k : Nat} (hk : k < l.length) : ∃ ad, A = some ad ∧ ad.block < w.heap.size ∧ ∀ k, k < l.length → PEN w (ad.add (k * 3)) (gd l k) := by
  obtain ⟨ad, hA, hlt, hc⟩ := Rd.at cEN_len h hk
  refine ⟨ad, hA, hlt, fun k hk => ?_⟩
  have h0 := fun j (hj : j < 3) => hc k hk j hj
  simp only [← add_of_add] at h0
  refine ⟨?_, ?_, ?_⟩
  · have := h0 0 (by omega)
    rwa [Addr.add_zero'] at this
  · have := h0 1 (by omega)
    rwa [addr_succ] at this
  · have := h0 2 (by omega)
    rwa [addr_succ] at this
theorem RENS.open_ {w : World} {v : Value} {l : List EN} (h : RENS w v l) : ∃ A c, v = .slice A l.length c ∧ l.length ≤ c ∧ c ≤ maxLen := by
  obtain ⟨_, A, c, h1, h2, h3, _⟩ := h; exact ⟨A, c, h1, h2, h3⟩
def OENS (w : World) (base : Nat) (v : Value) (l : List EN) : Prop := w.ownsRow base 27 3 v l.length (l.flatMap cEN)
theorem OENS.rd {w : World} {base : Nat} {v : Value} {l : List EN} (h : OENS w base v l) : RENS w v l := own_rd h
theorem OENS.ext {w w' : World} {base : Nat} {v : Value} {l : List EN} (h : OENS w base v l) (hb : Below w.heap.size w w') : OENS w' base v l := own_ext h hb
theorem OENS.mono {w : World} {base base' : Nat} {v : Value} {l : List EN} (h : OENS w base v l) (hb : base' ≤ base) : OENS w base' v l := own_mono h hb
theorem OENS.ge {w : World} {base : Nat} {v : Value} {l : List EN} (h : OENS w base v l) : ∀ k, BI v k → base ≤ k ∧ k < w.heap.size := World.ownsRow.lt h
theorem OENS.chg {S : Nat → Prop} {w w' : World} {base : Nat} {v : Value} {l : List EN} (h : OENS w base v l) (hb : Chg S w w') (hS : ∀ k, BI v k → ¬ S k) : OENS w' base v l := own_chg h hb hS
abbrev BENS := BI
def totEN (l : List EN) : Nat := (l.map fun o => o.what.size).sum
theorem totEN_succ {l : List EN} {k : Nat} (hk : k < l.length) : totEN (l.take (k + 1)) = totEN (l.take k) + (gd l k).what.size := by unfold totEN; rw [take_gd hk]; simp
theorem totEN_le (l : List EN) (k : Nat) : totEN (l.take k) ≤ totEN l := by
  have h : l = l.take k ++ l.drop k := (List.take_append_drop k l).symm
  have : totEN l = totEN (l.take k) + totEN (l.drop k) := by unfold totEN; rw [← List.sum_append, ← List.map_append, ← h]
  omega
def szENS (l : List EN) (left : Int) : Int := szN left (l.length + totEN l)
theorem szENS_le (l : List EN) {left : Int} (h : left ≤ 1048576) : szENS l left ≤ 1048576 ∧ -1 ≤ szENS l left := szN_le _ _ h
def SmENS (l : List EN) : Prop := l.length + totEN l ≤ 1048576
def LenENS (l : List EN) : Prop := l.length ≤ maxLen ∧ ∀ o ∈ l, o.what.size ≤ maxLen
theorem ok_ENS {l : List EN} {left : Int} (h2 : left ≤ 1048576) (h : 0 ≤ szENS l left) : 0 ≤ left ∧ SmENS l := by
  have h1 := szN_ok h
  have h3 := szN_pos h
  unfold SmENS; omega
theorem SmENS.one {l : List EN} (h : SmENS l) {k : Nat} (hk : k < l.length) : SmEN (gd l k) := by
  have h1 := totEN_succ hk
  have h2 := totEN_le l (k + 1)
  unfold SmENS at h; unfold SmEN; omega
theorem sz_EN (v : Value) (o : EN) (left : Int) (h1 : 0 ≤ left) (h2 : left ≤ 1048576) (w : World) (hl : LenEN o) (ha : REN w v o) :
    Calls Tryd.prog 14 #[v, .int .i64 left] w (Ret (.int .i64 (szEN o left)) w) := by
  unfold LenEN maxLen at hl
  obtain rfl : v = _ := ha
  go_enter Tryd.func14, Tryd.ntmps14
  by_cases hc : left < o.what.size
  · go_wp2_with fail
    go_ret
    exact ⟨ret_int (by unfold szEN szN; rw [if_pos hc]), ext_alloc1 _ _⟩
  · go_wp2_with fail
    go_ret
    exact ⟨ret_int (by unfold szEN szN; rw [if_neg (by omega)]), ext_alloc1 _ _⟩
set_option maxHeartbeats 800000 in
theorem sz_ENS (v : Value) (l : List EN) (left : Int) (h1 : 0 ≤ left) (h2 : left ≤ 1048576) (w : World) (hl : LenENS l) (ha : RENS w v l) :
    Calls Tryd.prog 18 #[v, .int .i64 left] w (Ret (.int .i64 (szENS l left)) w) := by
  obtain ⟨A, c, rfl, hc1, hc2⟩ := ha.open_
  have HA := Lib.hid ha; clear ha
  have HL := Lib.hid hl; clear hl
  unfold maxLen at hc2
  go_enter Tryd.func18, Tryd.ntmps18
  by_cases hlt0 : left < l.length
  · go_wp2_with fail
    go_ret
    exact ⟨ret_int (by unfold szENS szN; rw [if_pos (by omega)]), ext_refl w⟩
  · have e0 : ¬ left - (l.length : Int) < 0 := by omega
    go_wp2_with fail
    go_loopw [5, 1] (fun i q wr => ∃ (k : Nat) (s : Int), k ≤ l.length ∧ i = .int .i64 k ∧ q = .int .i64 s ∧ Hid (s = left - l.length - totEN (l.take k)) ∧ 0 ≤ s ∧ s ≤ 1048576 ∧ Below w.heap.size w wr) (fun i _ _ => l.length - (intOf i).toNat)
    case atStart => exact ⟨0, _, Nat.zero_le _, rfl, rfl, (by unfold Hid; simp [totEN]), by omega, by omega, ext_refl _⟩
    case round =>
      obtain ⟨k, s, hk, rfl, rfl, HS, hs1, hs2, hbw⟩ := hrel
      have HB := Lib.hid hbw
      have HAw := Lib.hid (HA.out.ext hbw); clear hbw
      by_cases hlt : k < l.length
      · obtain ⟨ad, rfl, hbd, hc⟩ := HAw.out.at hlt
        obtain ⟨h0, h1, h2⟩ := hc k hlt
        clear hc hbd
        have e1 : (0:Int) ≤ k := by omega
        have e2 : (k:Int) < l.length := by omega
        have hone : (gd l k).what.size ≤ maxLen := HL.out.2 _ (gd_mem hlt)
        have HT := Lib.hid (totEN_succ hlt)
        have HT2 := Lib.hid (totEN_le l (k + 1))
        have HZ := Lib.hid (sz_EN (.agg #[.int .i64 (gd l k).day, .string (gd l k).what, .int .i64 (gd l k).val]) (gd l k) s hs1 hs2 wr hone rfl)
        clear hone
        go_wp2_with fail
        refine (show Calls _ _ _ _ _ from HZ.out).mono ?_
        rintro e w1 ⟨rfl, hb⟩
        have HB1 := Lib.hid (ext_trans HB.out hb); clear hb h0 h1 h2
        by_cases hq : s < (gd l k).what.size
        · have hz : szEN (gd l k) s = -1 := by unfold szEN szN; rw [if_pos hq]
          rw [hz]
          have HF : Hid (szENS l left = -1) := Lib.hid (by
            have h1 := HT.out; have h2 := HT2.out; have h3 := HS.out
            unfold szENS szN; rw [if_pos (by omega)])
          clear hz hq
          go_wp2_with fail
          go_ret
          exact ⟨ret_int HF.out.symm, HB1.out⟩
        · have hz : szEN (gd l k) s = s - (gd l k).what.size := by unfold szEN szN; rw [if_neg hq]
          obtain ⟨s2, hs3⟩ : ∃ s2, s - ((gd l k).what.size : Int) = s2 := ⟨_, rfl⟩
          rw [hz, hs3]
          have HS2 : Hid (s2 = left - l.length - totEN (l.take (k + 1))) := Lib.hid (by have h1 := HT.out; have h3 := HS.out; omega)
          have e3 : 0 ≤ s2 := by omega
          have e4 : s2 ≤ 1048576 := by omega
          clear hz hq hs3
          go_wp2_with fail
          go_roundw
          case rel => exact ⟨k + 1, s2, by omega, by go_num, rfl, HS2.out, e3, e4, HB1.out⟩
          case measure => simp [intOf]; omega
      · have hkn : k = l.length := by omega
        subst hkn
        have HF : Hid (szENS l left = s) := Lib.hid (by
          have h3 := HS.out
          rw [List.take_length] at h3
          unfold szENS szN; rw [if_neg (by omega)]; omega)
        go_wp2_with fail
        go_ret
        exact ⟨ret_int HF.out.symm, HB.out⟩
theorem to_EN (v : Value) (o : EN) (w : World) (ha : REN w v o) (_ : SmEN o) :
    Calls Tryd.prog 16 #[v] w (Ret (.agg #[.int .i64 o.day, .string o.what, .int .i64 o.val]) w) := by
  obtain rfl : v = _ := ha
  go_enter Tryd.func16, Tryd.ntmps16
  go_wp2_with fail
  refine bodyPost_ret (v := .agg #[.int .i64 o.day, .string o.what, .int .i64 o.val]) (by simp [results, Tryd.results16, go_sem]) rfl ⟨rfl, ?_⟩
  repeat (refine ext_set ?_ (by simp; try omega) _)
  exact ext_alloc (ext_alloc (ext_alloc1 w _) _) _
theorem to_ENv (v : Value) (o : EN) (w : World) (ha : REN w v o) (hs : SmEN o) :
    Calls Tryd.prog 16 #[v] w fun e w' => ∃ v', e = .returned v' ∧ OEN w' w.heap.size v' o ∧ Below w.heap.size w w' := (to_EN v o w ha hs).mono fun e w' ⟨h1, h2⟩ => ⟨_, h1, rfl, h2⟩
theorem info_EN : (Tryd.prog.info? 27).map (fun i => (i.zero, i.size, i.bytes)) = some (some (.agg #[.int .i64 0, .string ⟨#[]⟩, .int .i64 0]), 3, 32) := by kernel_rfl
set_option maxHeartbeats 1600000 in
set_option maxRecDepth 100000 in
theorem to_ENS (v : Value) (l : List EN) (w : World) (ha : RENS w v l) (hsm : SmENS l) :
    Calls Tryd.prog 20 #[v] w fun e w' => ∃ A' c', e = .returned (.slice A' l.length c') ∧ OENS w' w.heap.size (.slice A' l.length c') l ∧ Below w.heap.size w w' := by
  obtain ⟨A, c, rfl, hc1, hc2⟩ := ha.open_
  have HA := Lib.hid ha; clear ha
  have HS := Lib.hid hsm
  unfold SmENS at hsm
  unfold maxLen at hc2
  obtain ⟨i0, hi, hz0, hz1, hz2⟩ := info_parts info_EN
  have hb : i0.bytes * l.length ≤ 281474976710656 := by rw [hz2]; omega
  have HZ2 := Lib.hid hz2; clear hz2
  go_enter Tryd.func20, Tryd.ntmps20
  go_wp2_with (refine wpList_make_full _ rfl _ _ _ rfl w.heap.size 27 i0 (.agg #[.int .i64 0, .string ⟨#[]⟩, .int .i64 0]) 3 Tryd.underlying34 hi hz0 hz1 .i64 .i64 _ _ l.length rfl rfl rfl rfl hb (by unfold maxLen; omega) (Nat.le_refl _) ?_; intro w1 hown1 hgrow1)
  go_loopw [4] (fun i wr => ∃ (k : Nat) (F : Nat → Value), k ≤ l.length ∧ i = .int .i64 k ∧ Hid (ORow wr w.heap.size 27 3 (.slice (some ⟨w.heap.size, 0, none⟩) l.length l.length) l.length F) ∧ Hid (∀ j, j < k * 3 → F j = cf cEN 3 l j) ∧ Below w.heap.size w wr) (fun i _ => l.length - (intOf i).toNat)
  case atStart => exact ⟨0, _, Nat.zero_le _, rfl, Lib.hid (ORow.of hown1), (fun j hj => by omega), (ext_refl w).grown hgrow1 (Nat.le_refl _) (by simp)⟩
  case round =>
    obtain ⟨k, F, hk, rfl, HO, HF, hbw⟩ := hrel
    have HB := Lib.hid hbw
    have HAw := Lib.hid (HA.out.ext hbw); clear hbw
    by_cases hlt : k < l.length
    · obtain ⟨ad, rfl, hbd, hc⟩ := HAw.out.at hlt
      obtain ⟨h0, h1, h2⟩ := hc k hlt
      clear hc hbd
      have e1 : (0:Int) ≤ k := by omega
      have e2 : (k:Int) < l.length := by omega
      go_wp2_with fail
      refine (to_EN _ (gd l k) _ rfl (HS.out.one hlt)).mono ?_
      rintro e w2 ⟨rfl, hb⟩
      have HO2 := Lib.hid (HO.out.ext hb)
      have HB2 := Lib.hid (ext_trans HB.out hb)
      clear hb h0 h1 h2
      have hc0 := HO2.out.cell (j := k * 3) (by omega)
      have hf0 := HO2.out.frozen (k * 3)
      have hc1 := HO2.out.cell (j := k * 3 + 1) (by omega)
      have hf1 := HO2.out.frozen (k * 3 + 1)
      have hc2 := HO2.out.cell (j := k * 3 + 2) (by omega)
      have hf2 := HO2.out.frozen (k * 3 + 2)
      go_wp2_with fail
      have HO3 := Lib.hid ((((HO2.out.set (k * 3) (.int .i64 (gd l k).day)).set (k * 3 + 1) (.string (gd l k).what)).set (k * 3 + 2) (.int .i64 (gd l k).val)))
      go_roundw
      case rel =>
        refine ⟨k + 1, _, by omega, by go_num, HO3.out, (fun j hj => ?_), (((HB2.out.setCell (p := ⟨w.heap.size, k * 3, none⟩) (Nat.le_refl _) (.int .i64 (gd l k).day)).setCell (p := ⟨w.heap.size, k * 3 + 1, none⟩) (Nat.le_refl _) (.string (gd l k).what)).setCell (p := ⟨w.heap.size, k * 3 + 2, none⟩) (Nat.le_refl _) (.int .i64 (gd l k).val))⟩
        rcases (show j < k * 3 ∨ j = k * 3 ∨ j = k * 3 + 1 ∨ j = k * 3 + 2 by omega) with h | rfl | rfl | rfl
        · have hg := HF.out j h
          rw [if_neg (by omega)]; rw [if_neg (by omega)]; rw [if_neg (by omega)]
          exact hg
        · rw [if_neg (by omega)]; rw [if_neg (by omega)]; rw [if_pos rfl, ← Nat.add_zero (k * 3), cf_at cEN 3 (by omega)]; rfl
        · rw [if_neg (by omega)]; rw [if_pos rfl, cf_at cEN 3 (by omega)]; rfl
        · rw [if_pos rfl, cf_at cEN 3 (by omega)]; rfl
      case measure => simp [intOf]; omega
    · have hkn : k = l.length := by omega
      subst hkn
      go_wp2_with fail
      go_ret
      exact ⟨_, _, rfl, HO.out.flat cEN_len (by omega) (fun j hj => HF.out j hj), HB.out⟩
set_option maxHeartbeats 800000 in
theorem eq_EN (v1 v2 : Value) (o : EN) (w : World) (ha : REN w v1 o) (hb : REN w v2 o) :
    Calls Tryd.prog 61 #[v1, v2] w (Ret (.bool true) w) := by
  obtain rfl : v1 = _ := ha
  obtain rfl : v2 = _ := hb
  go_enter Tryd.func61, Tryd.ntmps61
  go_wp2_with fail
  go_ret
  exact ⟨rfl, ext_alloc (ext_alloc1 _ _) _⟩
set_option maxHeartbeats 1600000 in
theorem eq_ENS (v1 v2 : Value) (l : List EN) (w : World) (ha : RENS w v1 l) (hb : RENS w v2 l) :
    Calls Tryd.prog 22 #[v1, v2] w (Ret (.bool true) w) := by
  obtain ⟨A, c, rfl, hc1, hc2⟩ := ha.open_
  obtain ⟨B, d, rfl, hd1, hd2⟩ := hb.open_
  have HA := Lib.hid ha; clear ha
  have HB := Lib.hid hb; clear hb
  unfold maxLen at hc2 hd2
  go_enter Tryd.func22, Tryd.ntmps22
  go_wp2_with fail
  go_loopw [5] (fun i wr => ∃ k : Nat, k ≤ l.length ∧ i = .int .i64 k ∧ Below w.heap.size w wr) (fun i _ => l.length - (intOf i).toNat)
  case atStart => exact ⟨0, Nat.zero_le _, rfl, ext_refl _⟩
  case round =>
    obtain ⟨k, hk, rfl, hbw⟩ := hrel
    have HAw := Lib.hid (HA.out.ext hbw)
    have HBw := Lib.hid (HB.out.ext hbw)
    have HW := Lib.hid hbw; clear hbw
    by_cases hlt : k < l.length
    · obtain ⟨ad, rfl, _, hc⟩ := HAw.out.at hlt
      obtain ⟨bd, rfl, _, hd⟩ := HBw.out.at hlt
      obtain ⟨h0, h1, h2⟩ := hc k hlt
      obtain ⟨g0, g1, g2⟩ := hd k hlt
      clear hc hd
      replace h0 := fun d os => cell_regrown h0 d os
      replace h1 := fun d os => cell_regrown h1 d os
      replace h2 := fun d os => cell_regrown h2 d os
      replace g0 := fun d os => cell_regrown g0 d os
      replace g1 := fun d os => cell_regrown g1 d os
      replace g2 := fun d os => cell_regrown g2 d os
      have e1 : (0:Int) ≤ k := by omega
      have e2 : (k:Int) < l.length := by omega
      have HE := Lib.hid (fun w => eq_EN (.agg #[.int .i64 (gd l k).day, .string (gd l k).what, .int .i64 (gd l k).val]) (.agg #[.int .i64 (gd l k).day, .string (gd l k).what, .int .i64 (gd l k).val]) (gd l k) w rfl rfl)
      go_wp2_with fail
      refine wp_region_quiet_below (by kernel_rfl) (by kernel_rfl) ?_
      repeat (go_big_quiet_step ((go_at_call 61; exact regrown_r (HE.out _))))
      refine wpQuiet_nil ?_
      intro w' hw'
      obtain ⟨p, rfl⟩ := hw'
      clear h0 h1 h2 g0 g1 g2
      go_wp2_with fail
      go_roundw
      case rel => exact ⟨k + 1, by omega, by go_num, ext_trans HW.out (below_regrown _ _ _)⟩
      case measure => simp [intOf]; omega
    · have hkn : k = l.length := by omega
      subst hkn
      go_wp2_with fail
      go_ret
      exact ⟨rfl, HW.out⟩
set_option maxRecDepth 100000
theorem cells_i_EN : Tryd.prog.cellsOf 2 = 1 := by kernel_rfl
theorem cells_s_EN : Tryd.prog.cellsOf 9 = 1 := by kernel_rfl
theorem cells_e_EN : Tryd.prog.cellsOf 23 = 3 := by kernel_rfl
theorem elem_EN {H : Type} {enc : TypeId × Value → H} {W : World} {sp : Nat → Bool} {fuel : Nat} {cs : List Value} {x : DataW H × List MemPlace} (h : DataW.trod enc Tryd.prog W 0 sp true fuel 23 cs = some x) :
    ∃ o : EN, cs = cEN o ∧ LenEN o := by
  obtain ⟨xs, n, _, rfl, hl, hlen, hf⟩ := DataW.trod_struct Tryd.underlying23 h
  rw [cells_e_EN] at hl
  match cs, hl with
  | [c0, c1, c2], _ =>
  have k0 := hf 0 _ rfl
  rw [List.getElem?_eq_getElem (by rw [hlen]; decide)] at k0
  obtain ⟨v0, e0, _, hs0⟩ := DataW.trod_int Tryd.underlying2 k0
  have q0 : List.take (Tryd.prog.cellsOf 2) (List.drop 0 [c0, c1, c2]) = [Value.int .i64 v0] := e0
  rw [cells_i_EN] at q0
  replace q0 : c0 = Value.int .i64 v0 := by simpa using q0
  clear e0
  have k1 := hf 1 _ rfl
  rw [List.getElem?_eq_getElem (by rw [hlen]; decide)] at k1
  obtain ⟨v1, e1, _, hs1⟩ := DataW.trod_string Tryd.underlying9 k1
  have q1 : List.take (Tryd.prog.cellsOf 9) (List.drop 1 [c0, c1, c2]) = [Value.string v1] := e1
  rw [cells_s_EN] at q1
  replace q1 : c1 = Value.string v1 := by simpa using q1
  clear e1
  have k2 := hf 2 _ rfl
  rw [List.getElem?_eq_getElem (by rw [hlen]; decide)] at k2
  obtain ⟨v2, e2, _, hs2⟩ := DataW.trod_int Tryd.underlying2 k2
  have q2 : List.take (Tryd.prog.cellsOf 2) (List.drop 2 [c0, c1, c2]) = [Value.int .i64 v2] := e2
  rw [cells_i_EN] at q2
  replace q2 : c2 = Value.int .i64 v2 := by simpa using q2
  clear e2
  exact ⟨⟨v0, v1, v2⟩, by simp only [q0, q1, q2, cEN], hs1⟩
theorem open_EN {H : Type} {enc : TypeId × Value → H} {W : World} {sp : Nat → Bool} {r : Reach} {b0 : Nat} {v : Value} {d : DataW H} {p : List MemPlace}
    (hv : Value.okWide Tryd.prog W r b0 23 v) (h : DataW.Trod enc Tryd.prog W 0 sp true 23 v d p) :
    ∃ o : EN, REN W v o ∧ LenEN o := by
  obtain ⟨cs, rfl, hsz⟩ := okWide_struct Tryd.underlying23 hv
  obtain ⟨fuel, hf⟩ := h
  obtain ⟨o, ho, hl⟩ := elem_EN hf
  refine ⟨o, ?_, hl⟩
  have : cs.toList = cEN o := ho
  unfold REN
  rw [show cs = (cEN o).toArray from by rw [← this]]
  rfl
theorem open_ENS {H : Type} {enc : TypeId × Value → H} {W : World} {sp : Nat → Bool} {r : Reach} {b0 : Nat} {v : Value} {d : DataW H} {p : List MemPlace}
    (hv : Value.okWide Tryd.prog W r b0 30 v) (h : DataW.Trod enc Tryd.prog W 0 sp true 30 v d p) :
    ∃ l : List EN, RENS W v l ∧ LenENS l := by
  obtain ⟨a0, n0, c0, rfl⟩ := okWide_slice Tryd.underlying30 hv
  obtain ⟨fuel, hf⟩ := h
  rcases Go.Deep.open_slice Tryd.underlying30 hf with ⟨hcs, _⟩ | ⟨a, len, cap, m, n, D, Pl, hcs, _, hl, hm, hmm, _, hx⟩
  · injection hcs with hcs
    injection hcs with e1 e2 e3
    subst e1 e2 e3
    exact ⟨[], ⟨by simp, none, 0, rfl, by simp, by simp [maxLen], fun h => by simp at h⟩, by simp [LenENS]⟩
  · injection hcs with hcs
    injection hcs with e1 e2 e3
    subst e1 e2 e3
    have hlm : n0 ≤ m := by rw [hmm]; split <;> omega
    rw [cells_e_EN] at hx
    obtain ⟨f, hF⟩ := Go.Deep.choose_lt (α := EN) (p := fun i o => (∀ j, j < 3 → W.cell? ((a.add (i * 3)).add j) = (cEN o)[j]?) ∧ LenEN o) (n := n0) (fun i hi => by
      obtain ⟨cs', h1, h2⟩ := hx i (by omega)
      obtain ⟨o, rfl, ho⟩ := elem_EN h2
      obtain ⟨_, _, hcell⟩ := World.cells?_some h1
      exact ⟨o, hcell, ho⟩)
    refine ⟨(List.range n0).map f, rd_open cEN_len (by omega) hl hm f (fun i hi => (hF i hi).1), by simp; omega, fun o ho => ?_⟩
    obtain ⟨i, hi, rfl⟩ := List.mem_map.1 ho
    exact (hF i (by simpa using hi)).2

end Go.Proofs.YtjebddemamagdaaDoor
