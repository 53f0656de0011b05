/-
  The struct Entry and slices of it: how they read, the laws' small functions on them, and how they come in.
-/
import Derived.Test.YtoefoljhgnfoiaaGreatDoorFlat
import Derived.Test.YtoefoljhgnfoiaaGreatDoorMtx
import Derived.Test.YtoefoljhgnfoiaaGreatDoorRegrown
import Derived.Test.YtoefoljhgnfoiaaGreatDoorRow
import Derived.Deep.RegionHeld3
import Derived.Deep.DrawnRows
namespace Go.Proofs.YtoefoljhgnfoiaaGreatDoor
open Go.ChangeShapes Go.WideShapes Go.ChangeAt Go.RowKit Go.Sort Go.Joins
set_option linter.unusedVariables false

structure EN where
  day : Int
  what : ByteArray
  val : Int
instance : Inhabited EN := ⟨⟨0, ⟨#[]⟩, 0⟩⟩
def cEN (o : EN) : List Value := [.int .i64 o.day, .string o.what, .int .i64 o.val]
theorem cEN_len (o : EN) : (cEN o).length = 3 := rfl
/-- v is the struct o. -/
def REN (_ : World) (v : Value) (o : EN) : Prop := v = .agg #[.int .i64 o.day, .string o.what, .int .i64 o.val]
theorem REN.ext {w w' : World} {v : Value} {o : EN} (h : REN w v o) (_ : Below w.heap.size w w') : REN w' v o := h
/-- The same, where a call gave it. -/
def OEN (_ : World) (_ : Nat) (v : Value) (o : EN) : Prop := v = .agg #[.int .i64 o.day, .string o.what, .int .i64 o.val]
theorem OEN.rd {w : World} {b : Nat} {v : Value} {o : EN} (h : OEN w b v o) : REN w v o := h
theorem OEN.ext {w w' : World} {b : Nat} {v : Value} {o : EN} (h : OEN w b v o) (_ : Below w.heap.size w w') : OEN w' b v o := h
def SmEN (o : EN) : Prop := o.what.size ≤ 1048576
def LenEN (o : EN) : Prop := o.what.size ≤ maxLen
def szEN (o : EN) (left : Int) : Int := szN left o.what.size
theorem szEN_le (o : EN) {left : Int} (h : left ≤ 1048576) : szEN o left ≤ 1048576 ∧ -1 ≤ szEN o left := szN_le _ _ h
theorem ok_EN {o : EN} {left : Int} (h2 : left ≤ 1048576) (h : 0 ≤ szEN o left) : 0 ≤ left ∧ SmEN o := by
  have h1 := szN_ok h
  have h3 := szN_pos h
  unfold SmEN; omega
/-- The cells of o behind an address. -/
def PEN (w : World) (p : Addr) (o : EN) : Prop := w.cell? p = some (.int .i64 o.day) ∧ w.cell? ⟨p.block, p.off + 1, none⟩ = some (.string o.what) ∧ w.cell? ⟨p.block, p.off + 2, none⟩ = some (.int .i64 o.val)
theorem PEN.ext {w w' : World} {p : Addr} {o : EN} (h : PEN w p o) (hb : Below w.heap.size w w') : PEN w' p o := by
  obtain ⟨h0, h1, h2⟩ := h
  exact ⟨cell_keep h0 hb, cell_keep h1 hb, cell_keep h2 hb⟩
theorem pEN_box (w : World) (o : EN) (Ty : TypeId) : PEN (w.alloc (.cells #[.int .i64 o.day, .string o.what, .int .i64 o.val] Ty)) ⟨w.heap.size, 0, none⟩ o := ⟨by simp [go_sem], by simp [go_sem], by simp [go_sem]⟩
/-- v reads as the list l. -/
def RENS (w : World) (v : Value) (l : List EN) : Prop := Rd w 3 v l.length (l.flatMap cEN)
theorem RENS.ext {w w' : World} {v : Value} {l : List EN} (h : RENS w v l) (hb : Below w.heap.size w w') : RENS w' v l := Rd.ext h hb
theorem RENS.alloc {w : World} {v : Value} {l : List EN} (h : RENS w v l) (o : Obj) : RENS (w.alloc o) v l := Rd.alloc h o
theorem RENS.at {w : World} {A : Option Addr} {n cp : Nat} {l : List EN} (h : RENS w (.slice A n cp) l) {k : Nat} (hk : k < l.length) : ∃ ad, A = some ad ∧ ad.block < w.heap.size ∧ ∀ k, k < l.length → PEN w (ad.add (k * 3)) (gd l k) := by
  obtain ⟨ad, hA, hlt, hc⟩ := Rd.at cEN_len h hk
  refine ⟨ad, hA, hlt, fun k hk => ?_⟩
  have h0 := fun j (hj : j < 3) => hc k hk j hj
  simp only [← add_of_add] at h0
  refine ⟨?_, ?_, ?_⟩
  · have := h0 0 (by omega)
    rwa [Addr.add_zero'] at this
  · have := h0 1 (by omega)
    rwa [addr_succ] at this
  · have := h0 2 (by omega)
    rwa [addr_succ] at this
theorem RENS.open_ {w : World} {v : Value} {l : List EN} (h : RENS w v l) : ∃ A c, v = .slice A l.length c ∧ l.length ≤ c ∧ c ≤ maxLen := by
  obtain ⟨_, A, c, h1, h2, h3, _⟩ := h; exact ⟨A, c, h1, h2, h3⟩
def OENS (w : World) (base : Nat) (v : Value) (l : List EN) : Prop := w.ownsRow base 98 3 v l.length (l.flatMap cEN)
theorem OENS.rd {w : World} {base : Nat} {v : Value} {l : List EN} (h : OENS w base v l) : RENS w v l := own_rd h
theorem OENS.ext {w w' : World} {base : Nat} {v : Value} {l : List EN} (h : OENS w base v l) (hb : Below w.heap.size w w') : OENS w' base v l := own_ext h hb
theorem OENS.mono {w : World} {base base' : Nat} {v : Value} {l : List EN} (h : OENS w base v l) (hb : base' ≤ base) : OENS w base' v l := own_mono h hb
theorem OENS.ge {w : World} {base : Nat} {v : Value} {l : List EN} (h : OENS w base v l) : ∀ k, BI v k → base ≤ k ∧ k < w.heap.size := World.ownsRow.lt h
theorem OENS.chg {S : Nat → Prop} {w w' : World} {base : Nat} {v : Value} {l : List EN} (h : OENS w base v l) (hb : Chg S w w') (hS : ∀ k, BI v k → ¬ S k) : OENS w' base v l := own_chg h hb hS
abbrev BENS := BI
def totEN (l : List EN) : Nat := (l.map fun o => o.what.size).sum
theorem totEN_succ {l : List EN} {k : Nat} (hk : k < l.length) : totEN (l.take (k + 1)) = totEN (l.take k) + (gd l k).what.size := by unfold totEN; rw [take_gd hk]; simp
theorem totEN_le (l : List EN) (k : Nat) : totEN (l.take k) ≤ totEN l := by
  have h : l = l.take k ++ l.drop k := (List.take_append_drop k l).symm
  have : totEN l = totEN (l.take k) + totEN (l.drop k) := by unfold totEN; rw [← List.sum_append, ← List.map_append, ← h]
  omega
def szENS (l : List EN) (left : Int) : Int := szN left (l.length + totEN l)
theorem szENS_le (l : List EN) {left : Int} (h : left ≤ 1048576) : szENS l left ≤ 1048576 ∧ -1 ≤ szENS l left := szN_le _ _ h
def SmENS (l : List EN) : Prop := l.length + totEN l ≤ 1048576
def LenENS (l : List EN) : Prop := l.length ≤ maxLen ∧ ∀ o ∈ l, o.what.size ≤ maxLen
theorem ok_ENS {l : List EN} {left : Int} (h2 : left ≤ 1048576) (h : 0 ≤ szENS l left) : 0 ≤ left ∧ SmENS l := by
  have h1 := szN_ok h
  have h3 := szN_pos h
  unfold SmENS; omega
theorem SmENS.one {l : List EN} (h : SmENS l) {k : Nat} (hk : k < l.length) : SmEN (gd l k) := by
  have h1 := totEN_succ hk
  have h2 := totEN_le l (k + 1)
  unfold SmENS at h; unfold SmEN; omega
theorem info_EN : (Tryz.prog.info? 98).map (fun i => (i.zero, i.size, i.bytes)) = some (some (.agg #[.int .i64 0, .string ⟨#[]⟩, .int .i64 0]), 3, 32) := by kernel_rfl

end Go.Proofs.YtoefoljhgnfoiaaGreatDoor
