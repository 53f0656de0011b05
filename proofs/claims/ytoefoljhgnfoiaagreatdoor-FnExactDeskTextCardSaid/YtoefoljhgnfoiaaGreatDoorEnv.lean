/-
  What the library's texts find in the program's variables (Env), carried to later worlds; texts of bytes.
-/
import Derived.Test.YtoefoljhgnfoiaaGreatDoorDec
import Derived.Lib.LaidTab
import Derived.ShapedOpen
import Derived.ChangeAgain
namespace Go.Proofs.YtoefoljhgnfoiaaGreatDoor
open Go.ChangeShapes Go.WideShapes Go.ChangeAt Go.RowKit Go.Sort
set_option linter.unusedVariables false
set_option maxRecDepth 8000

/-- The table of powers lies as the library lays it. -/
def LayF (w : World) : Prop := Lib.TabIs Tryz.prog w "internal/strconv.uint64pow10" .u64 Lib.pow10Tab
theorem lt_of_heap {w : World} {g : Nat} {o : Obj} (h : w.heap[g]? = some o) : g < w.heap.size := by
  rcases Nat.lt_or_ge g w.heap.size with h1 | h1
  · exact h1
  · rw [Array.getElem?_eq_none h1] at h; cases h
theorem var_ext {w w' : World} (hb : Below w.heap.size w w') {nm : String} {cs : Array Value} (h : w.var? Tryz.prog nm = some cs) : w'.var? Tryz.prog nm = some cs := by
  unfold World.var? at *
  cases hg : Tryz.prog.globalNamed nm with
  | none => rw [hg] at h; cases h
  | some g =>
    rw [hg] at h
    simp only [Option.bind_some] at h ⊢
    have hlt : g < w.heap.size := by
      rcases Nat.lt_or_ge g w.heap.size with h1 | h1
      · exact h1
      · rw [Array.getElem?_eq_none h1] at h; cases h
    rw [hb.block g hlt]
    exact h
theorem LayF.ext {w w' : World} (h : LayF w) (hb : Below w.heap.size w w') : LayF w' := by
  unfold LayF Lib.TabIs at *
  exact var_ext hb h
theorem shaped_ext {w w' : World} (h : w.ShapedOpen Tryz.prog) (hb : Below w.heap.size w w') : w'.ShapedOpen Tryz.prog := by
  have same : ∀ {i : Nat} {o : Obj}, w.heap[i]? = some o → w'.heap[i]? = some o := fun {i o} ho => by rw [hb.block i (lt_of_heap ho)]; exact ho
  refine ⟨fun g zero t hg hz => ?_, fun k hk1 hk2 => ?_⟩
  · obtain ⟨cs, h1, h2, h3⟩ := h.1 g zero t hg hz
    refine ⟨cs, same h1, h2, fun hbd => Row.ok_of_shape (fun b x hx => ?_) (h3 hbd)⟩
    unfold World.shape? at hx ⊢
    cases hh : w.heap[b]? with
    | none => rw [hh] at hx; simp at hx
    | some o => rw [same hh, ← hh]; exact hx
  · obtain ⟨o, o₀, h1, h2, h3⟩ := h.2 k hk1 hk2
    exact ⟨o, o₀, same h1, h2, h3⟩
/-- What ParseInt and the searches in strings ask besides. -/
structure Env (w : World) : Prop where
  lay : LayF w
  shp : w.ShapedOpen Tryz.prog
  syn : ∃ tp p, w.var? Tryz.prog "strconv.ErrSyntax" = some #[.iface tp p]
  rng : ∃ tp p, w.var? Tryz.prog "strconv.ErrRange" = some #[.iface tp p]
theorem Env.ext {w w' : World} (h : Env w) (hb : Below w.heap.size w w') : Env w' := by
  obtain ⟨h1, h2, ⟨a, b, h3⟩, ⟨c, d, h4⟩⟩ := h
  exact ⟨h1.ext hb, shaped_ext h2 hb, ⟨a, b, var_ext hb h3⟩, ⟨c, d, var_ext hb h4⟩⟩

theorem size_toList (s : ByteArray) : s.data.toList.length = s.size := by rw [Array.length_toList]; rfl
theorem ba_ext {s t : ByteArray} (h : s.data.toList = t.data.toList) : s = t := by
  apply ByteArray.ext; apply Array.ext'; exact h
theorem itb_list (n : Int) : (itb n).data.toList = Lib.itoa n := rfl
theorem itb_eq {n : Int} {s : ByteArray} : itb n = s ↔ Lib.itoa n = s.data.toList := ⟨fun h => by rw [← h]; rfl, fun h => ba_ext h⟩
theorem itb_size (n : Int) (h0 : -9223372036854775808 ≤ n) (h1 : n ≤ 9223372036854775807) : (itb n).size ≤ 20 := by
  rw [← size_toList, itb_list]; exact itoa_length_le n h0 h1
/-- The text of bytes. -/
def bsq (l : List UInt8) : ByteArray := ⟨l.toArray⟩
theorem bsq_list (l : List UInt8) : (bsq l).data.toList = l := rfl
theorem bsq_size (l : List UInt8) : (bsq l).size = l.length := by rw [← size_toList]; rfl
theorem bsq_of (s : ByteArray) : bsq s.data.toList = s := ba_ext rfl
theorem bsq_inj {l m : List UInt8} (h : bsq l = bsq m) : l = m := by rw [← bsq_list l, h]; rfl
theorem bsq_app (l m : List UInt8) : bsq l ++ bsq m = bsq (l ++ m) := by apply ba_ext; simp [ByteArray.data_append, bsq]
end Go.Proofs.YtoefoljhgnfoiaaGreatDoor
