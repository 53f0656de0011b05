/-
  The struct Course and slices of it: how they read, the laws' small functions on them, and how they come in.
-/
import Derived.Test.YtpoalklakhegoaaDoorFlat
import Derived.Test.YtpoalklakhegoaaDoorMtx
import Derived.Test.YtpoalklakhegoaaDoorRegrown
import Derived.Test.YtpoalklakhegoaaDoorRow
import Derived.Deep.RegionHeld3
import Derived.Deep.DrawnRows
namespace Go.Proofs.YtpoalklakhegoaaDoor
open Go.ChangeShapes Go.WideShapes Go.ChangeAt Go.RowKit Go.Sort Go.Joins
set_option linter.unusedVariables false

structure CO where
  lead : ByteArray
  cyc : ByteArray
deriving DecidableEq
instance : Inhabited CO := ⟨⟨⟨#[]⟩, ⟨#[]⟩⟩⟩
def cCO (o : CO) : List Value := [.string o.lead, .string o.cyc]
theorem cCO_len (o : CO) : (cCO o).length = 2 := rfl
/-- v is the struct o. -/
def RCO (_ : World) (v : Value) (o : CO) : Prop := v = .agg #[.string o.lead, .string o.cyc]
theorem RCO.ext {w w' : World} {v : Value} {o : CO} (h : RCO w v o) (_ : Below w.heap.size w w') : RCO w' v o := h
/-- The same, where a call gave it. -/
def OCO (_ : World) (_ : Nat) (v : Value) (o : CO) : Prop := v = .agg #[.string o.lead, .string o.cyc]
theorem OCO.rd {w : World} {b : Nat} {v : Value} {o : CO} (h : OCO w b v o) : RCO w v o := h
theorem OCO.ext {w w' : World} {b : Nat} {v : Value} {o : CO} (h : OCO w b v o) (_ : Below w.heap.size w w') : OCO w' b v o := h
def SmCO (o : CO) : Prop := o.lead.size + o.cyc.size ≤ 1048576
def LenCO (o : CO) : Prop := o.lead.size ≤ maxLen ∧ o.cyc.size ≤ maxLen
def szCO (o : CO) (left : Int) : Int := szN left (o.lead.size + o.cyc.size)
theorem szCO_le (o : CO) {left : Int} (h : left ≤ 1048576) : szCO o left ≤ 1048576 ∧ -1 ≤ szCO o left := szN_le _ _ h
theorem ok_CO {o : CO} {left : Int} (h2 : left ≤ 1048576) (h : 0 ≤ szCO o left) : 0 ≤ left ∧ SmCO o := by
  have h1 := szN_ok h
  have h3 := szN_pos h
  unfold SmCO; omega
/-- The cells of o behind an address. -/
def PCO (w : World) (p : Addr) (o : CO) : Prop := w.cell? p = some (.string o.lead) ∧ w.cell? ⟨p.block, p.off + 1, none⟩ = some (.string o.cyc)
theorem PCO.ext {w w' : World} {p : Addr} {o : CO} (h : PCO w p o) (hb : Below w.heap.size w w') : PCO w' p o := by
  obtain ⟨h0, h1⟩ := h
  exact ⟨cell_keep h0 hb, cell_keep h1 hb⟩
theorem pCO_box (w : World) (o : CO) (Ty : TypeId) : PCO (w.alloc (.cells #[.string o.lead, .string o.cyc] Ty)) ⟨w.heap.size, 0, none⟩ o := ⟨by simp [go_sem], by simp [go_sem]⟩
/-- v reads as the list l. -/
def RCOS (w : World) (v : Value) (l : List CO) : Prop := Rd w 2 v l.length (l.flatMap cCO)
theorem RCOS.ext {w w' : World} {v : Value} {l : List CO} (h : RCOS w v l) (hb : Below w.heap.size w w') : RCOS w' v l := Rd.ext h hb
theorem RCOS.alloc {w : World} {v : Value} {l : List CO} (h : RCOS w v l) (o : Obj) : RCOS (w.alloc o) v l := Rd.alloc h o
theorem RCOS.at {w : World} {A : Option Addr} {n cp : Nat} {l : List CO} (h : RCOS w (.slice A n cp) l) {k : Nat} (hk : k < l.length) : ∃ ad, A = some ad ∧ ad.block < w.heap.size ∧ ∀ k, k < l.length → PCO w (ad.add (k * 2)) (gd l k) := by
  obtain ⟨ad, hA, hlt, hc⟩ := Rd.at cCO_len h hk
  refine ⟨ad, hA, hlt, fun k hk => ?_⟩
  have h0 := fun j (hj : j < 2) => hc k hk j hj
  simp only [← add_of_add] at h0
  refine ⟨?_, ?_⟩
  · have := h0 0 (by omega)
    rwa [Addr.add_zero'] at this
  · have := h0 1 (by omega)
    rwa [addr_succ] at this
theorem RCOS.open_ {w : World} {v : Value} {l : List CO} (h : RCOS w v l) : ∃ A c, v = .slice A l.length c ∧ l.length ≤ c ∧ c ≤ maxLen := by
  obtain ⟨_, A, c, h1, h2, h3, _⟩ := h; exact ⟨A, c, h1, h2, h3⟩
def OCOS (w : World) (base : Nat) (v : Value) (l : List CO) : Prop := w.ownsRow base 50 2 v l.length (l.flatMap cCO)
theorem OCOS.rd {w : World} {base : Nat} {v : Value} {l : List CO} (h : OCOS w base v l) : RCOS w v l := own_rd h
theorem OCOS.ext {w w' : World} {base : Nat} {v : Value} {l : List CO} (h : OCOS w base v l) (hb : Below w.heap.size w w') : OCOS w' base v l := own_ext h hb
theorem OCOS.mono {w : World} {base base' : Nat} {v : Value} {l : List CO} (h : OCOS w base v l) (hb : base' ≤ base) : OCOS w base' v l := own_mono h hb
theorem OCOS.ge {w : World} {base : Nat} {v : Value} {l : List CO} (h : OCOS w base v l) : ∀ k, BI v k → base ≤ k ∧ k < w.heap.size := World.ownsRow.lt h
theorem OCOS.chg {S : Nat → Prop} {w w' : World} {base : Nat} {v : Value} {l : List CO} (h : OCOS w base v l) (hb : Chg S w w') (hS : ∀ k, BI v k → ¬ S k) : OCOS w' base v l := own_chg h hb hS
abbrev BCOS := BI
def totCO (l : List CO) : Nat := (l.map fun o => o.lead.size + o.cyc.size).sum
theorem totCO_succ {l : List CO} {k : Nat} (hk : k < l.length) : totCO (l.take (k + 1)) = totCO (l.take k) + ((gd l k).lead.size + (gd l k).cyc.size) := by unfold totCO; rw [take_gd hk]; simp
theorem totCO_le (l : List CO) (k : Nat) : totCO (l.take k) ≤ totCO l := by
  have h : l = l.take k ++ l.drop k := (List.take_append_drop k l).symm
  have : totCO l = totCO (l.take k) + totCO (l.drop k) := by unfold totCO; rw [← List.sum_append, ← List.map_append, ← h]
  omega
def szCOS (l : List CO) (left : Int) : Int := szN left (l.length + totCO l)
theorem szCOS_le (l : List CO) {left : Int} (h : left ≤ 1048576) : szCOS l left ≤ 1048576 ∧ -1 ≤ szCOS l left := szN_le _ _ h
def SmCOS (l : List CO) : Prop := l.length + totCO l ≤ 1048576
def LenCOS (l : List CO) : Prop := l.length ≤ maxLen ∧ ∀ o ∈ l, LenCO o
theorem ok_COS {l : List CO} {left : Int} (h2 : left ≤ 1048576) (h : 0 ≤ szCOS l left) : 0 ≤ left ∧ SmCOS l := by
  have h1 := szN_ok h
  have h3 := szN_pos h
  unfold SmCOS; omega
theorem SmCOS.one {l : List CO} (h : SmCOS l) {k : Nat} (hk : k < l.length) : SmCO (gd l k) := by
  have h1 := totCO_succ hk
  have h2 := totCO_le l (k + 1)
  unfold SmCOS at h; unfold SmCO; omega
theorem info_CO : (Tryd.prog.info? 50).map (fun i => (i.zero, i.size, i.bytes)) = some (some (.agg #[.string ⟨#[]⟩, .string ⟨#[]⟩]), 2, 32) := by kernel_rfl
set_option maxHeartbeats 800000 in
theorem eq_CO (v1 v2 : Value) (o : CO) (w : World) (ha : RCO w v1 o) (hb : RCO w v2 o) :
    Calls Tryd.prog 29 #[v1, v2] w (Ret (.bool true) w) := by
  obtain rfl : v1 = _ := ha
  obtain rfl : v2 = _ := hb
  go_enter Tryd.func29, Tryd.ntmps29
  go_wp2_with fail
  go_ret
  exact ⟨rfl, ext_alloc (ext_alloc1 _ _) _⟩
set_option maxHeartbeats 1600000 in
theorem eq_COS (v1 v2 : Value) (l : List CO) (w : World) (ha : RCOS w v1 l) (hb : RCOS w v2 l) :
    Calls Tryd.prog 20 #[v1, v2] w (Ret (.bool true) w) := by
  obtain ⟨A, c, rfl, hc1, hc2⟩ := ha.open_
  obtain ⟨B, d, rfl, hd1, hd2⟩ := hb.open_
  have HA := Lib.hid ha; clear ha
  have HB := Lib.hid hb; clear hb
  unfold maxLen at hc2 hd2
  go_enter Tryd.func20, Tryd.ntmps20
  go_wp2_with fail
  go_loopw [5] (fun i wr => ∃ k : Nat, k ≤ l.length ∧ i = .int .i64 k ∧ Below w.heap.size w wr) (fun i _ => l.length - (intOf i).toNat)
  case atStart => exact ⟨0, Nat.zero_le _, rfl, ext_refl _⟩
  case round =>
    obtain ⟨k, hk, rfl, hbw⟩ := hrel
    have HAw := Lib.hid (HA.out.ext hbw)
    have HBw := Lib.hid (HB.out.ext hbw)
    have HW := Lib.hid hbw; clear hbw
    by_cases hlt : k < l.length
    · obtain ⟨ad, rfl, _, hc⟩ := HAw.out.at hlt
      obtain ⟨bd, rfl, _, hd⟩ := HBw.out.at hlt
      obtain ⟨h0, h1⟩ := hc k hlt
      obtain ⟨g0, g1⟩ := hd k hlt
      clear hc hd
      replace h0 := fun d os => cell_regrown h0 d os
      replace h1 := fun d os => cell_regrown h1 d os
      replace g0 := fun d os => cell_regrown g0 d os
      replace g1 := fun d os => cell_regrown g1 d os
      have e1 : (0:Int) ≤ k := by omega
      have e2 : (k:Int) < l.length := by omega
      have HE := Lib.hid (fun w => eq_CO (.agg #[.string (gd l k).lead, .string (gd l k).cyc]) (.agg #[.string (gd l k).lead, .string (gd l k).cyc]) (gd l k) w rfl rfl)
      go_wp2_with fail
      refine wp_region_quiet_below (by kernel_rfl) (by kernel_rfl) ?_
      repeat (go_big_quiet_step ((go_at_call 29; exact regrown_r (HE.out _))))
      refine wpQuiet_nil ?_
      intro w' hw'
      obtain ⟨p, rfl⟩ := hw'
      clear h0 h1 g0 g1
      go_wp2_with fail
      go_roundw
      case rel => exact ⟨k + 1, by omega, by go_num, ext_trans HW.out (below_regrown _ _ _)⟩
      case measure => simp [intOf]; omega
    · have hkn : k = l.length := by omega
      subst hkn
      go_wp2_with fail
      go_ret
      exact ⟨rfl, HW.out⟩

end Go.Proofs.YtpoalklakhegoaaDoor
