/-
  The source of choices (l00Src): next, pick, one. What is drawn is in range; of old memory only the source's own block turns.
-/
import Derived.Test.YtbggggaoljpfnaaGreatDoorBase
import Derived.Test.YtbggggaoljpfnaaGreatDoorByt
import Derived.IntWalk
import Derived.BigQuiet
import Derived.Laws.Bits64b
namespace Go.Proofs.YtbggggaoljpfnaaGreatDoor
open Go.ChangeShapes Go.WideShapes Go.ChangeAt Go.RowKit Go.Sort
set_option linter.unusedVariables false
set_option maxRecDepth 20000

/-- A source behind block b: its bytes lie in the world W0. -/
structure Src (W0 w : World) (b : Nat) (v : Value) (bs : List UInt8) (at' seed : Int) : Prop where
  old : Below W0.heap.size W0 w
  low : W0.heap.size ≤ b
  lt : b < w.heap.size
  rd : RB W0 v bs
  c0 : w.cell? ⟨b, 0, none⟩ = some v
  c1 : w.cell? ⟨b, 1, none⟩ = some (.int .i64 at')
  c2 : w.cell? ⟨b, 2, none⟩ = some (.int .u64 seed)
  f1 : w.frozen? ⟨b, 1, none⟩ = false
  f2 : w.frozen? ⟨b, 2, none⟩ = false
  a0 : 0 ≤ at'
  a1 : at' ≤ 1099511627776

theorem u64_bd (z : Int) : 0 ≤ IntKind.u64.wrap z ∧ IntKind.u64.wrap z < 18446744073709551616 := by
  have : IntKind.u64.wrap z = z % 18446744073709551616 := by simp [IntKind.wrap, IntKind.signed, IntKind.bits]
  omega
theorem low8 {sd : Int} (h0 : 0 ≤ sd) (h1 : sd < 18446744073709551616) : 0 ≤ wrap64 (bits BinOp.and IntKind.u64 (sd / 1099511627776) 255) ∧ wrap64 (bits BinOp.and IntKind.u64 (sd / 1099511627776) 255) ≤ 255 := by
  obtain ⟨n, rfl⟩ := Int.eq_ofNat_of_zero_le h0
  have e : bits BinOp.and IntKind.u64 ((n : Int) / 1099511627776) 255 = (((n / 1099511627776) &&& 255 : Nat) : Int) := by
    have := bits_and_u64_nat (n / 1099511627776) 255 (by omega) (by omega)
    simpa using this
  rw [e]
  have hl : (n / 1099511627776) &&& 255 ≤ 255 := Nat.and_le_right
  have : wrap64 (((n / 1099511627776) &&& 255 : Nat) : Int) = (((n / 1099511627776) &&& 255 : Nat) : Int) := by unfold wrap64; omega
  rw [this]
  omega
theorem src_drew {W0 w : World} {b : Nat} {v : Value} {bs : List UInt8} {at' seed : Int} (h : Src W0 w b v bs at' seed) (n : Nat) : Src W0 (w.drewN n) b v bs at' seed :=
  ⟨ext_drewN h.old n, h.low, h.lt, h.rd, h.c0, h.c1, h.c2, h.f1, h.f2, h.a0, h.a1⟩
theorem src_step {W0 w : World} {b : Nat} {v : Value} {bs : List UInt8} {at' seed : Int} (h : Src W0 w b v bs at' seed) (ha : at' < 1099511627776) (n : Nat) (sd : Int) :
    Src W0 (((w.drewN n).setCell ⟨b, 1, none⟩ (.int .i64 (at' + 1))).setCell ⟨b, 2, none⟩ (.int .u64 sd)) b v bs (at' + 1) sd ∧
    Chg (fun k => k = b) w (((w.drewN n).setCell ⟨b, 1, none⟩ (.int .i64 (at' + 1))).setCell ⟨b, 2, none⟩ (.int .u64 sd)) := by
  have hb : Below b w (((w.drewN n).setCell ⟨b, 1, none⟩ (.int .i64 (at' + 1))).setCell ⟨b, 2, none⟩ (.int .u64 sd)) :=
    ((show Below b w (w.drewN n) from ⟨rfl, rfl, rfl, Nat.le_refl _, fun _ _ => rfl⟩).setCell (p := ⟨b, 1, none⟩) (Nat.le_refl b) _).setCell (p := ⟨b, 2, none⟩) (Nat.le_refl b) _
  refine ⟨⟨h.old.trans (hb.mono h.low), h.low, by simpa using h.lt, h.rd, ?_, ?_, ?_, ?_, ?_, by have := h.a0; omega, by omega⟩, ⟨hb.os, hb.tape, hb.output, by simp, fun k hk hn => ?_⟩⟩
  · rw [World.cell?_setCell_other _ _ _ _ (by simp), World.cell?_setCell_other _ _ _ _ (by simp)]; exact h.c0
  · rw [World.cell?_setCell_other _ _ _ _ (by simp)]; exact World.cell?_setCell_same _ _ _ (u := .int .i64 at') h.c1
  · exact World.cell?_setCell_same _ _ _ (u := .int .u64 seed) (by rw [World.cell?_setCell_other _ _ _ _ (by simp)]; exact h.c2)
  · simpa using h.f1
  · simpa using h.f2
  · rw [heap_setCell_other _ _ _ _ hn, heap_setCell_other _ _ _ _ hn]; rfl

set_option maxHeartbeats 1600000 in
theorem src_next (W0 : World) (b : Nat) (v : Value) (bs : List UInt8) (at' seed : Int) (w : World) (hS : Src W0 w b v bs at' seed) (ha : at' < 1099511627776) :
    Calls Tryz.prog 62 #[.pointer (some ⟨b, 0, none⟩)] w fun e w' => ∃ x seed', e = .returned (.int .i64 x) ∧ 0 ≤ x ∧ x ≤ 255 ∧ Src W0 w' b v bs (at' + 1) seed' ∧ Chg (fun k => k = b) w w' := by
  obtain ⟨A, c, rfl, hc1, hc2, hA⟩ := (hS.rd.ext hS.old).open_
  unfold maxLen at hc2
  have HS := Lib.hid hS
  obtain ⟨i1, i2, i3, i4, h0, h1, h2, f1, f2, i5, i6⟩ := hS
  clear i1 i4
  by_cases hlt : at' < (bs.length : Int)
  · obtain ⟨k, rfl⟩ := Int.eq_ofNat_of_zero_le i5
    obtain ⟨ad, rfl, hcell⟩ := hA k (by omega)
    clear hA
    have e1 : (k : Int) < (bs.length : Int) := hlt
    have hk : k < bs.length := by omega
    obtain ⟨y, hy, hy0, hy1⟩ : ∃ y : Int, (bs[k].toNat : Int) = y ∧ 0 ≤ y ∧ y ≤ 255 := ⟨_, rfl, by omega, by have := bs[k].toNat_lt; omega⟩
    rw [hy] at hcell
    clear hy
    go_enter Tryz.func62, Tryz.ntmps62
    go_wp2_with fail
    go_quiet (fail)
    rename Nat => n1
    go_wp2_with fail
    go_quiet (fail)
    rename Nat => n2
    go_wp2_with fail
    generalize IntKind.u64.wrap (IntKind.u64.wrap (IntKind.u64.wrap (seed * 6364136223846793005) + y) + 1442695040888963407) = sd
    obtain ⟨HX, HC⟩ := src_step HS.out ha (n1 + n2) sd
    generalize ((w.drewN (n1 + n2)).setCell ⟨b, 1, none⟩ (.int .i64 ((k : Int) + 1))).setCell ⟨b, 2, none⟩ (.int .u64 sd) = w2 at *
    have h0 := HX.c0
    have h1 := HX.c1
    have h2 := HX.c2
    have e2 : (k : Int) + 1 ≤ (bs.length : Int) := by omega
    go_wp2_with fail
    go_quiet (fail)
    go_wp2_with fail
    go_ret
    exact ⟨y, sd, rfl, hy0, hy1, src_drew HX _, HC.trans (Chg.of_below (ext_drewN (ext_refl _) _) _)⟩
  · clear hA
    go_enter Tryz.func62, Tryz.ntmps62
    go_wp2_with fail
    go_quiet (fail)
    rename Nat => n1
    go_wp2_with fail
    have hsd := u64_bd (IntKind.u64.wrap (IntKind.u64.wrap (seed * 6364136223846793005)) + 1442695040888963407)
    generalize IntKind.u64.wrap (IntKind.u64.wrap (IntKind.u64.wrap (seed * 6364136223846793005)) + 1442695040888963407) = sd at *
    have HL := Lib.hid (low8 hsd.1 hsd.2); clear hsd
    obtain ⟨HX, HC⟩ := src_step HS.out ha n1 sd
    generalize ((w.drewN n1).setCell ⟨b, 1, none⟩ (.int .i64 (at' + 1))).setCell ⟨b, 2, none⟩ (.int .u64 sd) = w2 at *
    have h0 := HX.c0
    have h1 := HX.c1
    have h2 := HX.c2
    have e2 : ¬ at' + 1 ≤ (bs.length : Int) := by omega
    go_wp2_with fail
    go_quiet (fail)
    go_wp2_with fail
    go_ret
    exact ⟨_, sd, rfl, HL.out.1, HL.out.2, src_drew HX _, HC.trans (Chg.of_below (ext_drewN (ext_refl _) _) _)⟩

/-- What a drawn number of n may be. -/
def pickOk (n x : Int) : Prop := 0 ≤ x ∧ x ≤ 65535 ∧ (1 < n → x < n) ∧ (n ≤ 1 → x = 0)

set_option maxHeartbeats 1600000 in
theorem src_pick (W0 : World) (b : Nat) (v : Value) (bs : List UInt8) (at' seed : Int) (n : Int) (w : World) (hS : Src W0 w b v bs at' seed) (ha : at' + 1 < 1099511627776) :
    Calls Tryz.prog 33 #[.pointer (some ⟨b, 0, none⟩), .int .i64 n] w fun e w' => ∃ x at2 seed', e = .returned (.int .i64 x) ∧ pickOk n x ∧ at' ≤ at2 ∧ at2 ≤ at' + 2 ∧ Src W0 w' b v bs at2 seed' ∧ Chg (fun k => k = b) w w' := by
  have HS := Lib.hid hS; clear hS
  by_cases h1 : n ≤ 1
  · go_enter Tryz.func33, Tryz.ntmps33
    go_wp2_with fail
    go_ret
    exact ⟨0, at', seed, rfl, ⟨by omega, by omega, by omega, fun _ => rfl⟩, by omega, by omega, HS.out, Chg.of_below (ext_refl _) _⟩
  · have e1 : 1 < n := by omega
    go_enter Tryz.func33, Tryz.ntmps33
    go_wp2_with fail
    refine (src_next W0 b v bs at' seed _ HS.out (by omega)).mono ?_
    rintro e w1 ⟨x, s1, rfl, hx0, hx1, HS1, HC1⟩
    by_cases h2 : n ≤ 200
    · have e2 : decide ((200:Int) < n) = false := by simp; omega
      go_wp2_with fail
      go_ret
      have hm := Int.emod_lt_of_pos x (show 0 < n by omega)
      have hm0 := Int.emod_nonneg x (show n ≠ 0 by omega)
      exact ⟨_, at' + 1, s1, rfl, ⟨hm0, by omega, fun _ => hm, by omega⟩, by omega, by omega, HS1, HC1⟩
    · have e2 : decide ((200:Int) < n) = true := by simp; omega
      have HS1' := Lib.hid HS1
      have HC1' := Lib.hid HC1
      clear HS1 HC1
      go_wp2_with fail
      refine (src_next W0 b v bs (at' + 1) s1 _ HS1'.out (by omega)).mono ?_
      rintro e w2 ⟨y, s2, rfl, hy0, hy1, HS2, HC2⟩
      go_wp2_with fail
      go_ret
      have hm := Int.emod_lt_of_pos (x * 256 + y) (show 0 < n by omega)
      have hm0 := Int.emod_nonneg (x * 256 + y) (show n ≠ 0 by omega)
      have hm1 : (x * 256 + y) % n ≤ x * 256 + y := by
        have h9 := Int.mul_nonneg (show 0 ≤ n by omega) (Int.ediv_nonneg (show 0 ≤ x * 256 + y by omega) (show 0 ≤ n by omega))
        rw [Int.emod_def]
        omega
      exact ⟨_, at' + 1 + 1, s2, rfl, ⟨hm0, by omega, fun _ => hm, by omega⟩, by omega, by omega, HS2, HC1'.out.trans HC2⟩

theorem src_one (W0 : World) (b : Nat) (v : Value) (bs : List UInt8) (at' seed : Int) (n : Int) (w : World) (hS : Src W0 w b v bs at' seed) (ha : at' + 1 < 1099511627776) :
    Calls Tryz.prog 35 #[.pointer (some ⟨b, 0, none⟩), .int .i64 n] w fun e w' => ∃ (x : Bool) (at2 seed' : Int), e = .returned (.bool x) ∧ at' ≤ at2 ∧ at2 ≤ at' + 2 ∧ Src W0 w' b v bs at2 seed' ∧ Chg (fun k => k = b) w w' := by
  go_enter Tryz.func35, Tryz.ntmps35
  go_wp2_with fail
  refine (src_pick W0 b v bs at' seed n _ hS ha).mono ?_
  rintro e w1 ⟨x, a2, s2, rfl, hx, h1, h2, HS1, HC1⟩
  go_wp2_with fail
  go_ret
  exact ⟨_, a2, s2, rfl, h1, h2, HS1, HC1⟩

end Go.Proofs.YtbggggaoljpfnaaGreatDoor
