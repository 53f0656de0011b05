/-
  Logs: the reference's reader: its state in memory, day, line.
-/
import Derived.Test.YtoefoljhgnfoiaaGreatDoorLogQ
import Derived.Deep.RegionHeld3
import Derived.IntWalk
namespace Go.Proofs.YtoefoljhgnfoiaaGreatDoor
open Go.ChangeShapes Go.WideShapes Go.ChangeAt Go.RowKit Go.Sort
set_option linter.unusedVariables false
set_option maxRecDepth 100000
attribute [local go_sem ↓] Go.wp_at_zero Go.wp_at_succ

/-- The reader in block g: the text, where it stands, the stamp, the entries. -/
structure RR (w : World) (B g : Nat) (s : ByteArray) (es : List EN) (st : Int) (n : Nat) (A : Option Addr) (c : Nat) : Prop where
  h0 : w.cell? ⟨g, 0, none⟩ = some (.string s)
  h1 : w.cell? ⟨g, 1, none⟩ = some (.int .i64 (n : Int))
  h2 : w.cell? ⟨g, 2, none⟩ = some (.int .i64 st)
  h3 : w.cell? ⟨g, 3, none⟩ = some (.slice A es.length c)
  fz : ∀ j, w.frozen? ⟨g, j, none⟩ = false
  own : OENS w B (.slice A es.length c) es
  far : ∀ k, BI (.slice A es.length c) k → k ≠ g
  ge : B ≤ g
theorem RR.lt {w : World} {B g : Nat} {s : ByteArray} {es : List EN} {st : Int} {n : Nat} {A : Option Addr} {c : Nat} (h : RR w B g s es st n A c) : g < w.heap.size := block_lt_of_cell h.h0
theorem RR.ext {w w' : World} {B g : Nat} {s : ByteArray} {es : List EN} {st : Int} {n : Nat} {A : Option Addr} {c : Nat} (h : RR w B g s es st n A c) (hb : Below w.heap.size w w') : RR w' B g s es st n A c :=
  ⟨cell_keep h.h0 hb, cell_keep h.h1 hb, cell_keep h.h2 hb, cell_keep h.h3 hb, fun j => by rw [hb.frozen (p := ⟨g, j, none⟩) h.lt]; exact h.fz j, h.own.ext hb, h.far, h.ge⟩
set_option maxHeartbeats 800000 in
theorem spec_rday (B g : Nat) (s : ByteArray) (es : List EN) (st : Int) (n : Nat) (A : Option Addr) (c : Nat) (w : World) (h : RR w B g s es st n A c) :
    Calls Tryz.prog 78 #[.pointer (some ⟨g, 0, none⟩)] w (Ret (.int .i64 (lday es)) w) := by
  have h3 := h.h3
  obtain ⟨_, _, hv, hc1, hc2⟩ := h.own.rd.open_
  injection hv with q1 q2 q3
  subst q1 q3
  unfold maxLen at hc2
  have HR := Lib.hid h.own.rd
  clear h
  by_cases h0 : es.length = 0
  · have hes : es = [] := List.eq_nil_of_length_eq_zero h0
    subst hes
    go_enter Tryz.func78, Tryz.ntmps78
    go_wp2_with fail
    go_ret
    exact ⟨rfl, ext_refl _⟩
  · have HD := Lib.hid (lday_get (es := es) (by omega))
    obtain ⟨k, hk⟩ : ∃ k, es.length = k + 1 := ⟨es.length - 1, by omega⟩
    obtain ⟨ad, rfl, _, hc⟩ := HR.out.at (show k < es.length by omega)
    obtain ⟨g0, _, _⟩ := hc k (by omega)
    clear hc
    have HD2 : Hid (lday es = (gd es k).day) := Lib.hid (by rw [HD.out, hk]; rfl)
    rw [hk] at h3 hc1
    clear h0 hk HD HR
    have e0 : (((k + 1 : Nat) : Int) == 0) = false := by rw [beq_eq_false_iff_ne]; omega
    have e1 : ((k + 1 : Nat) : Int) - 1 = k := by omega
    have e3 : (0 : Int) ≤ k := by omega
    have e4 : (k : Int) < ((k + 1 : Nat) : Int) := by omega
    have e5 : (k : Int).toNat = k := by omega
    have e2 : IntKind.i64.wrap (k : Int) = k := IntWalk.i64_in _ (by omega)
    go_enter Tryz.func78, Tryz.ntmps78
    go_wp2_with fail
    go_quiet (fail)
    go_wp2_with fail
    go_ret
    rw [HD2.out]
    exact ⟨rfl, ext_drewN (ext_refl _) _⟩
end Go.Proofs.YtoefoljhgnfoiaaGreatDoor
