/-
  The source of choices, further: one of some numbers, one of some texts.
-/
import Derived.Test.YtbggggaoljpfnaaGreatDoorSrc
namespace Go.Proofs.YtbggggaoljpfnaaGreatDoor
open Go.ChangeShapes Go.WideShapes Go.ChangeAt Go.RowKit Go.Sort
set_option linter.unusedVariables false
set_option maxRecDepth 20000

theorem src_start (v : Value) (bs : List UInt8) (w : World) (hR : RB w v bs) :
    Calls Tryz.prog 31 #[v] w fun e w' => ∃ b, e = .returned (.pointer (some ⟨b, 0, none⟩)) ∧ Src w w' b v bs 0 0 ∧ Below w.heap.size w w' := by
  have HR := Lib.hid hR
  obtain ⟨A, c, rfl, hc1, hc2, _⟩ := hR.open_
  clear hR
  go_enter Tryz.func31, Tryz.ntmps31
  go_wp2_with fail
  go_ret
  exact ⟨w.heap.size, rfl, ⟨ext_alloc1 _ _, Nat.le_refl _, by simp, HR.out, by simp [go_sem], by simp [go_sem], by simp [go_sem], by simp [go_sem], by simp [go_sem], by omega, by omega⟩, ext_alloc1 _ _⟩
theorem Src.turn {S : Nat → Prop} {W0 w w' : World} {b : Nat} {v : Value} {bs : List UInt8} {at' seed : Int} (h : Src W0 w b v bs at' seed) (hc : Chg S w w') (hS : ∀ k, S k → W0.heap.size ≤ k) (hb : ¬ S b) : Src W0 w' b v bs at' seed :=
  ⟨Chg.ext h.old hc hS, h.low, Nat.lt_of_lt_of_le h.lt hc.size, h.rd, hc.cell h.c0 hb, hc.cell h.c1 hb, hc.cell h.c2 hb,
    by rw [World.frozen?_of_block (w := w) (a := ⟨b, 1, none⟩) (hc.block b h.lt hb)]; exact h.f1,
    by rw [World.frozen?_of_block (w := w) (a := ⟨b, 2, none⟩) (hc.block b h.lt hb)]; exact h.f2, h.a0, h.a1⟩

theorem chg_set (w : World) (q i : Nat) (x : Value) : Chg (fun k => k = q) w (w.setCell ⟨q, i, none⟩ x) := ⟨rfl, rfl, rfl, by simp, fun k _ hn => heap_setCell_other _ _ _ _ hn⟩
theorem chg_fresh {S : Nat → Prop} {w w' : World} (h : Chg S w w') {q : Nat} (hq : w.heap.size ≤ q) (i : Nat) (x : Value) : Chg S w (w'.setCell ⟨q, i, none⟩ x) := by
  have hc := chg_set w' q i x
  refine ⟨h.os, h.tape, h.output, Nat.le_trans h.size hc.size, fun k hk hn => ?_⟩
  rw [hc.block k (Nat.lt_of_lt_of_le hk h.size) (by omega)]
  exact h.block k hk hn
theorem src_among (W0 : World) (b : Nat) (v : Value) (bs : List UInt8) (at' seed : Int) (P : Int → Prop) (g m : Nat) (hm : 0 < m) (hm2 : m ≤ 1000) (hgb : g ≠ b) (w : World) (hS : Src W0 w b v bs at' seed) (ha : at' + 1 < 1099511627776)
    (hc : ∀ k, k < m → ∃ x : Int, P x ∧ w.cell? ⟨g, k, none⟩ = some (.int .i64 x)) :
    Calls Tryz.prog 45 #[.pointer (some ⟨b, 0, none⟩), .slice (some ⟨g, 0, none⟩) m m] w fun e w' => ∃ (x : Int) (at2 seed' : Int), e = .returned (.int .i64 x) ∧ P x ∧ at' ≤ at2 ∧ at2 ≤ at' + 2 ∧ Src W0 w' b v bs at2 seed' ∧ Chg (fun k => k = b) w w' := by
  have HC := Lib.hid hc; clear hc
  go_enter Tryz.func45, Tryz.ntmps45
  go_wp2_with fail
  refine (src_pick W0 b v bs at' seed m _ hS ha).mono ?_
  rintro e w1 ⟨x, a2, s2, rfl, hx, h1, h2, HS1, HC1⟩
  obtain ⟨p0, p1, p2, p3⟩ := hx
  obtain ⟨k, rfl⟩ := Int.eq_ofNat_of_zero_le p0
  have hk : k < m := by
    rcases Nat.lt_or_ge 1 m with h | h
    · have := p2 (by omega); omega
    · have := p3 (by omega); omega
  obtain ⟨y, hy, hcell⟩ := HC.out k hk
  have hcell1 := HC1.cell (p := ⟨g, k, none⟩) hcell hgb
  have e1 : (k : Int) < m := by omega
  clear p0 p1 p2 p3 hcell
  go_wp2_with fail
  go_ret
  exact ⟨y, a2, s2, rfl, hy, h1, h2, HS1, HC1⟩
theorem src_text (W0 : World) (b : Nat) (v : Value) (bs : List UInt8) (at' seed : Int) (P : ByteArray → Prop) (g m : Nat) (hm : 0 < m) (hm2 : m ≤ 1000) (hgb : g ≠ b) (w : World) (hS : Src W0 w b v bs at' seed) (ha : at' + 1 < 1099511627776)
    (hc : ∀ k, k < m → ∃ x : ByteArray, P x ∧ w.cell? ⟨g, k, none⟩ = some (.string x)) :
    Calls Tryz.prog 63 #[.pointer (some ⟨b, 0, none⟩), .slice (some ⟨g, 0, none⟩) m m] w fun e w' => ∃ (x : ByteArray) (at2 seed' : Int), e = .returned (.string x) ∧ P x ∧ at' ≤ at2 ∧ at2 ≤ at' + 2 ∧ Src W0 w' b v bs at2 seed' ∧ Chg (fun k => k = b) w w' := by
  have HC := Lib.hid hc; clear hc
  go_enter Tryz.func63, Tryz.ntmps63
  go_wp2_with fail
  refine (src_pick W0 b v bs at' seed m _ hS ha).mono ?_
  rintro e w1 ⟨x, a2, s2, rfl, hx, h1, h2, HS1, HC1⟩
  obtain ⟨p0, p1, p2, p3⟩ := hx
  obtain ⟨k, rfl⟩ := Int.eq_ofNat_of_zero_le p0
  have hk : k < m := by
    rcases Nat.lt_or_ge 1 m with h | h
    · have := p2 (by omega); omega
    · have := p3 (by omega); omega
  obtain ⟨y, hy, hcell⟩ := HC.out k hk
  have hcell1 := HC1.cell (p := ⟨g, k, none⟩) hcell hgb
  have e1 : (k : Int) < m := by omega
  clear p0 p1 p2 p3 hcell
  go_wp2_with fail
  go_ret
  exact ⟨y, a2, s2, rfl, hy, h1, h2, HS1, HC1⟩

end Go.Proofs.YtbggggaoljpfnaaGreatDoor
