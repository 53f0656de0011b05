/-
  The struct Order and slices of it: how they read, the laws' small functions on them, and how they come in.
-/
import Derived.Test.YtbggggaoljpfnaaGreatDoorFlat
import Derived.Test.YtbggggaoljpfnaaGreatDoorMtx
import Derived.Test.YtbggggaoljpfnaaGreatDoorRegrown
import Derived.Test.YtbggggaoljpfnaaGreatDoorRow
import Derived.Deep.RegionHeld3
import Derived.Deep.DrawnRows
namespace Go.Proofs.YtbggggaoljpfnaaGreatDoor
open Go.ChangeShapes Go.WideShapes Go.ChangeAt Go.RowKit Go.Sort Go.Joins
set_option linter.unusedVariables false

structure OD where
  id : Int
  cu : ByteArray
  br : Int
  due : Int
  sent : Int
instance : Inhabited OD := ⟨⟨0, ⟨#[]⟩, 0, 0, 0⟩⟩
def cOD (o : OD) : List Value := [.int .i64 o.id, .string o.cu, .int .i64 o.br, .int .i64 o.due, .int .i64 o.sent]
theorem cOD_len (o : OD) : (cOD o).length = 5 := rfl
/-- v is the struct o. -/
def ROD (_ : World) (v : Value) (o : OD) : Prop := v = .agg #[.int .i64 o.id, .string o.cu, .int .i64 o.br, .int .i64 o.due, .int .i64 o.sent]
theorem ROD.ext {w w' : World} {v : Value} {o : OD} (h : ROD w v o) (_ : Below w.heap.size w w') : ROD w' v o := h
def SmOD (o : OD) : Prop := o.cu.size ≤ 1048576
def LenOD (o : OD) : Prop := o.cu.size ≤ maxLen
def szOD (o : OD) (left : Int) : Int := szN left o.cu.size
theorem szOD_le (o : OD) {left : Int} (h : left ≤ 1048576) : szOD o left ≤ 1048576 ∧ -1 ≤ szOD o left := szN_le _ _ h
theorem ok_OD {o : OD} {left : Int} (h2 : left ≤ 1048576) (h : 0 ≤ szOD o left) : 0 ≤ left ∧ SmOD o := by
  have h1 := szN_ok h
  have h3 := szN_pos h
  unfold SmOD; omega
/-- The cells of o behind an address. -/
def POD (w : World) (p : Addr) (o : OD) : Prop := w.cell? p = some (.int .i64 o.id) ∧ w.cell? ⟨p.block, p.off + 1, none⟩ = some (.string o.cu) ∧ w.cell? ⟨p.block, p.off + 2, none⟩ = some (.int .i64 o.br) ∧ w.cell? ⟨p.block, p.off + 3, none⟩ = some (.int .i64 o.due) ∧ w.cell? ⟨p.block, p.off + 4, none⟩ = some (.int .i64 o.sent)
theorem POD.ext {w w' : World} {p : Addr} {o : OD} (h : POD w p o) (hb : Below w.heap.size w w') : POD w' p o := by
  obtain ⟨h0, h1, h2, h3, h4⟩ := h
  exact ⟨cell_keep h0 hb, cell_keep h1 hb, cell_keep h2 hb, cell_keep h3 hb, cell_keep h4 hb⟩
theorem pOD_box (w : World) (o : OD) (Ty : TypeId) : POD (w.alloc (.cells #[.int .i64 o.id, .string o.cu, .int .i64 o.br, .int .i64 o.due, .int .i64 o.sent] Ty)) ⟨w.heap.size, 0, none⟩ o := ⟨by simp [go_sem], by simp [go_sem], by simp [go_sem], by simp [go_sem], by simp [go_sem]⟩
/-- v reads as the list l. -/
def RODS (w : World) (v : Value) (l : List OD) : Prop := Rd w 5 v l.length (l.flatMap cOD)
theorem RODS.ext {w w' : World} {v : Value} {l : List OD} (h : RODS w v l) (hb : Below w.heap.size w w') : RODS w' v l := Rd.ext h hb
theorem RODS.alloc {w : World} {v : Value} {l : List OD} (h : RODS w v l) (o : Obj) : RODS (w.alloc o) v l := Rd.alloc h o
theorem RODS.at {w : World} {A : Option Addr} {n cp : Nat} {l : List OD} (h : RODS w (.slice A n cp) l) {k : Nat} (hk : k < l.length) : ∃ ad, A = some ad ∧ ad.block < w.heap.size ∧ ∀ k, k < l.length → POD w (ad.add (k * 5)) (gd l k) := by
  obtain ⟨ad, hA, hlt, hc⟩ := Rd.at cOD_len h hk
  refine ⟨ad, hA, hlt, fun k hk => ?_⟩
  have h0 := fun j (hj : j < 5) => hc k hk j hj
  simp only [← add_of_add] at h0
  refine ⟨?_, ?_, ?_, ?_, ?_⟩
  · have := h0 0 (by omega)
    rwa [Addr.add_zero'] at this
  · have := h0 1 (by omega)
    rwa [addr_succ] at this
  · have := h0 2 (by omega)
    rwa [addr_succ] at this
  · have := h0 3 (by omega)
    rwa [addr_succ] at this
  · have := h0 4 (by omega)
    rwa [addr_succ] at this
theorem RODS.open_ {w : World} {v : Value} {l : List OD} (h : RODS w v l) : ∃ A c, v = .slice A l.length c ∧ l.length ≤ c ∧ c ≤ maxLen := by
  obtain ⟨_, A, c, h1, h2, h3, _⟩ := h; exact ⟨A, c, h1, h2, h3⟩
def OODS (w : World) (base : Nat) (v : Value) (l : List OD) : Prop := w.ownsRow base 26 5 v l.length (l.flatMap cOD)
theorem OODS.rd {w : World} {base : Nat} {v : Value} {l : List OD} (h : OODS w base v l) : RODS w v l := own_rd h
theorem OODS.ext {w w' : World} {base : Nat} {v : Value} {l : List OD} (h : OODS w base v l) (hb : Below w.heap.size w w') : OODS w' base v l := own_ext h hb
theorem OODS.mono {w : World} {base base' : Nat} {v : Value} {l : List OD} (h : OODS w base v l) (hb : base' ≤ base) : OODS w base' v l := own_mono h hb
theorem OODS.ge {w : World} {base : Nat} {v : Value} {l : List OD} (h : OODS w base v l) : ∀ k, BI v k → base ≤ k ∧ k < w.heap.size := World.ownsRow.lt h
theorem OODS.chg {S : Nat → Prop} {w w' : World} {base : Nat} {v : Value} {l : List OD} (h : OODS w base v l) (hb : Chg S w w') (hS : ∀ k, BI v k → ¬ S k) : OODS w' base v l := own_chg h hb hS
abbrev BODS := BI
def totOD (l : List OD) : Nat := (l.map fun o => o.cu.size).sum
theorem totOD_succ {l : List OD} {k : Nat} (hk : k < l.length) : totOD (l.take (k + 1)) = totOD (l.take k) + (gd l k).cu.size := by unfold totOD; rw [take_gd hk]; simp
theorem totOD_le (l : List OD) (k : Nat) : totOD (l.take k) ≤ totOD l := by
  have h : l = l.take k ++ l.drop k := (List.take_append_drop k l).symm
  have : totOD l = totOD (l.take k) + totOD (l.drop k) := by unfold totOD; rw [← List.sum_append, ← List.map_append, ← h]
  omega
def szODS (l : List OD) (left : Int) : Int := szN left (l.length + totOD l)
theorem szODS_le (l : List OD) {left : Int} (h : left ≤ 1048576) : szODS l left ≤ 1048576 ∧ -1 ≤ szODS l left := szN_le _ _ h
def SmODS (l : List OD) : Prop := l.length + totOD l ≤ 1048576
def LenODS (l : List OD) : Prop := l.length ≤ maxLen ∧ ∀ o ∈ l, o.cu.size ≤ maxLen
theorem ok_ODS {l : List OD} {left : Int} (h2 : left ≤ 1048576) (h : 0 ≤ szODS l left) : 0 ≤ left ∧ SmODS l := by
  have h1 := szN_ok h
  have h3 := szN_pos h
  unfold SmODS; omega
theorem SmODS.one {l : List OD} (h : SmODS l) {k : Nat} (hk : k < l.length) : SmOD (gd l k) := by
  have h1 := totOD_succ hk
  have h2 := totOD_le l (k + 1)
  unfold SmODS at h; unfold SmOD; omega
theorem info_OD : (Tryz.prog.info? 26).map (fun i => (i.zero, i.size, i.bytes)) = some (some (.agg #[.int .i64 0, .string ⟨#[]⟩, .int .i64 0, .int .i64 0, .int .i64 0]), 5, 48) := by kernel_rfl
set_option maxRecDepth 100000

end Go.Proofs.YtbggggaoljpfnaaGreatDoor
