/-
  Parts of the proof: Base, Ints, Flat, Regrown, Row, Co, Name.
-/
import Derived.Test.YtfgopboddkhckaaGreatDoorRows
import Derived.WalkKit
import Derived.WalkSpells
import Derived.WalkLawsBesides
import Derived.ProofKit
import Derived.OpenShut
import Derived.Below
import Derived.Laws.OwnMore
import Derived.Deep.AppendLies
import Derived.Deep.Draws
import Derived.Deep.QuietTactic
import Derived.BigQuiet
import Derived.Outline
import Derived.Lib.Hide
import Derived.LoopTactic
import Derived.Lib.QuietBelow
import Derived.Deep.Slices
import Derived.Deep.Fields
import Derived.Carry
import Derived.Lib.SmallJoins
import Derived.WideKeyArgs
import Derived.Handed
import Derived.ChangeAt
import Derived.Deep.RegionHeld3
import Derived.Deep.DrawnRows
import Derived.Laws.IdiomStrings
import Derived.IntWalk
namespace Go.Proofs.YtfgopboddkhckaaGreatDoor
open Go.ChangeShapes Go.WideShapes Go.ChangeAt Go.RowKit Go.Sort

/-- The call returns v; what was there before stands as it was. -/
def Ret (v : Value) (w : World) : Ending → World → Prop := fun e w' => e = .returned v ∧ Below w.heap.size w w'

/-- The call returns v and leaves the world as it is. -/
def RetP (v : Value) (w : World) : Ending → World → Prop := fun e w' => e = .returned v ∧ w = w'

theorem ext_trans {w w1 w2 : World} (h : Below w.heap.size w w1) (k : Below w1.heap.size w1 w2) : Below w.heap.size w w2 := h.trans (k.mono h.size)
theorem ext_drewN {w w1 : World} (h : Below w.heap.size w w1) (n : Nat) : Below w.heap.size w (w1.drewN n) := ⟨h.os, h.tape, h.output, h.size, h.block⟩
theorem ext_drew {w w1 : World} (h : Below w.heap.size w w1) : Below w.heap.size w w1.drew := ⟨h.os, h.tape, h.output, h.size, h.block⟩
theorem ext_refl (w : World) : Below w.heap.size w w := Below.refl _ _
theorem ext_alloc {w w1 : World} (h : Below w.heap.size w w1) (o : Obj) : Below w.heap.size w (w1.alloc o) := h.alloc h.size o
theorem ext_set {w w1 : World} (h : Below w.heap.size w w1) {p : Addr} (hp : w.heap.size ≤ p.block) (u : Value) : Below w.heap.size w (w1.setCell p u) := h.setCell hp u
theorem ext_alloc1 (w : World) (o : Obj) : Below w.heap.size w (w.alloc o) := ext_alloc (ext_refl w) o
theorem block_of_add (a : Addr) (n : Nat) : (a.add n).block = a.block := by unfold Addr.add; split <;> rfl
theorem add_of_add (a : Addr) (i j : Nat) : (a.add i).add j = a.add (i + j) := by
  unfold Addr.add
  by_cases hi : i = 0 <;> by_cases hj : j = 0 <;> simp [hi, hj, Nat.add_assoc]

/-- The slice value v reads, in w, as n elements of `size` cells each: the cells are xs. -/
def Rd (w : World) (size : Nat) (v : Value) (n : Nat) (xs : List Value) : Prop :=
  xs.length = n * size ∧ ∃ A c, v = .slice A n c ∧ n ≤ c ∧ c ≤ maxLen ∧ (0 < n → ∃ ad, A = some ad ∧ ad.block < w.heap.size ∧ ∀ j u, xs[j]? = some u → w.cell? (ad.add j) = some u)

theorem Rd.ext {w w' : World} {size n : Nat} {v : Value} {xs : List Value} (h : Rd w size v n xs) (hb : Below w.heap.size w w') : Rd w' size v n xs := by
  obtain ⟨h1, A, c, rfl, h2, h3, h4⟩ := h
  refine ⟨h1, A, c, rfl, h2, h3, fun hn => ?_⟩
  obtain ⟨ad, rfl, hlt, hc⟩ := h4 hn
  exact ⟨ad, rfl, Nat.lt_of_lt_of_le hlt hb.size, fun j u hu => by rw [hb.cell (by rw [block_of_add]; exact hlt)]; exact hc j u hu⟩
theorem Rd.drewN {w : World} {size n : Nat} {v : Value} {xs : List Value} (h : Rd w size v n xs) (k : Nat) : Rd (w.drewN k) size v n xs := h.ext (ext_drewN (ext_refl w) k)
theorem Rd.alloc {w : World} {size n : Nat} {v : Value} {xs : List Value} (h : Rd w size v n xs) (o : Obj) : Rd (w.alloc o) size v n xs := h.ext (ext_alloc1 w o)

/-- Reads as the ints xs. -/
def RI (w : World) (v : Value) (xs : List Int) : Prop := Rd w 1 v xs.length (xs.map (Value.int .i64))
theorem RI.ext {w w' : World} {v : Value} {xs : List Int} (h : RI w v xs) (hb : Below w.heap.size w w') : RI w' v xs := Rd.ext h hb
theorem RI.drewN {w : World} {v : Value} {xs : List Int} (h : RI w v xs) (k : Nat) : RI (w.drewN k) v xs := Rd.drewN h k
theorem RI.alloc {w : World} {v : Value} {xs : List Int} (h : RI w v xs) (o : Obj) : RI (w.alloc o) v xs := Rd.alloc h o
theorem RI.open_ {w : World} {v : Value} {xs : List Int} (h : RI w v xs) : ∃ A c, v = .slice A xs.length c ∧ xs.length ≤ c ∧ c ≤ maxLen ∧
    ∀ k, k < xs.length → ∃ ad, A = some ad ∧ ad.block < w.heap.size ∧ ∀ j, j < xs.length → w.cell? (ad.add j) = some (.int .i64 (xs.getD j 0)) := by
  obtain ⟨_, A, c, rfl, h2, h3, h4⟩ := h
  refine ⟨A, c, rfl, h2, h3, fun k hk => ?_⟩
  obtain ⟨ad, rfl, hlt, hc⟩ := h4 (by omega)
  exact ⟨ad, rfl, hlt, fun j hj => hc j _ (by simp [List.getD_eq_getElem?_getD, List.getElem?_eq_getElem hj])⟩

/-- A fresh slice of ints that the call owns from block `base` on. -/
def OI (w : World) (base : Nat) (v : Value) (xs : List Int) : Prop := w.ownsRow base 2 1 v xs.length (xs.map (Value.int .i64))
theorem OI.rd {w : World} {base : Nat} {v : Value} {xs : List Int} (h : OI w base v xs) : RI w v xs := by
  obtain ⟨h1, h2⟩ := h
  refine ⟨h1, ?_⟩
  rcases h2 with ⟨rfl, h0⟩ | ⟨g, cap, cur, rfl, hg, hh, hn, hm, hs, ht⟩
  · exact ⟨none, 0, by rw [h0], by omega, by simp [maxLen], fun h => by omega⟩
  · refine ⟨some ⟨g, 0, none⟩, cap, rfl, hn, hm, fun h0 => ⟨_, rfl, ?_, fun j u hu => ?_⟩⟩
    · rcases Nat.lt_or_ge g w.heap.size with hlt | hge
      · exact hlt
      · rw [Array.getElem?_eq_none hge] at hh; cases hh
    · have := World.ownsRow.cells (w := w) (base := base) (e := 2) (size := 1) (v := .slice (some ⟨g, 0, none⟩) xs.length cap) (n := xs.length) ⟨h1, .inr ⟨g, cap, cur, rfl, hg, hh, hn, hm, hs, ht⟩⟩ (g := g) rfl
      exact this j u hu
theorem own_ext {w w' : World} {base : Nat} {e : TypeId} {size : Nat} {v : Value} {n : Nat} {xs : List Value} (h : w.ownsRow base e size v n xs) (hb : Below w.heap.size w w') : w'.ownsRow base e size v n xs :=
  ⟨h.1, h.2.imp id fun ⟨g, cap, cur, hv, hg, hh, r⟩ => ⟨g, cap, cur, hv, hg, by
    rw [hb.block g (by rcases Nat.lt_or_ge g w.heap.size with hlt | hge; exact hlt; rw [Array.getElem?_eq_none hge] at hh; cases hh)]; exact hh, r⟩⟩
theorem OI.ext {w w' : World} {base : Nat} {v : Value} {xs : List Int} (h : OI w base v xs) (hb : Below w.heap.size w w') : OI w' base v xs := own_ext h hb
theorem own_mono {w : World} {base base' : Nat} {e : TypeId} {size : Nat} {v : Value} {n : Nat} {xs : List Value} (h : w.ownsRow base e size v n xs) (hb : base' ≤ base) : w.ownsRow base' e size v n xs :=
  ⟨h.1, h.2.imp id fun ⟨g, cap, cur, hv, hg, r⟩ => ⟨g, cap, cur, hv, by omega, r⟩⟩
theorem OI.mono {w : World} {base base' : Nat} {v : Value} {xs : List Int} (h : OI w base v xs) (hb : base' ≤ base) : OI w base' v xs := own_mono h hb

theorem ret_int {k : IntKind} {a b : Int} (h : a = b) : Ending.returned (.int k a) = .returned (.int k b) := by rw [h]
theorem ret_bool {a b : Bool} (h : a = b) : Ending.returned (.bool a) = .returned (.bool b) := by rw [h]

theorem take_succ_getD {xs : List Int} {k : Nat} (hk : k < xs.length) : xs.take (k + 1) = xs.take k ++ [xs.getD k 0] := by
  rw [List.take_succ_eq_append_getElem hk, List.getD_eq_getElem?_getD, List.getElem?_eq_getElem hk]; rfl

theorem str_ne {s t : ByteArray} (h : s ≠ t) : (s.toList == t.toList) = false := by
  rw [ByteArray.toList_eq, ByteArray.toList_eq, beq_eq_false_iff_ne]
  exact fun e => h (WideShapes.bytes_inj e)
theorem bcell {W w1 : World} (hb : Below W.heap.size W w1) : (∀ b o, b < W.heap.size → w1.cell? ⟨b, o, none⟩ = W.cell? ⟨b, o, none⟩) ∧ (∀ b o, b < W.heap.size → w1.frozen? ⟨b, o, none⟩ = W.frozen? ⟨b, o, none⟩) :=
  ⟨fun b o h => hb.cell (p := ⟨b, o, none⟩) h, fun b o h => hb.frozen (p := ⟨b, o, none⟩) h⟩

/-- A known cell stays known behind whatever leaves old memory alone. -/
theorem cell_keep {w w' : World} {p : Addr} {v : Value} (h : w.cell? p = some v) (hb : Below w.heap.size w w') : w'.cell? p = some v := by
  rw [hb.cell (block_lt_of_cell h)]; exact h

/-- Of the old blocks at most those of S have turned. -/
structure Chg (S : Nat → Prop) (w w' : World) : Prop where
  os : w'.os = w.os
  tape : w'.tape = w.tape
  output : w'.output = w.output
  size : w.heap.size ≤ w'.heap.size
  block : ∀ k, k < w.heap.size → ¬ S k → w'.heap[k]? = w.heap[k]?
theorem Chg.below {S : Nat → Prop} {w w' : World} (h : Chg S w w') {B : Nat} (hB : B ≤ w.heap.size) (hS : ∀ k, S k → B ≤ k) : Below B w w' :=
  ⟨h.os, h.tape, h.output, h.size, fun k hk => h.block k (by omega) (fun hs => by have := hS k hs; omega)⟩
theorem Chg.ext {S : Nat → Prop} {w0 w w' : World} (h0 : Below w0.heap.size w0 w) (h : Chg S w w') (hS : ∀ k, S k → w0.heap.size ≤ k) : Below w0.heap.size w0 w' :=
  h0.trans (h.below h0.size hS)
theorem Chg.cell {S : Nat → Prop} {w w' : World} (h : Chg S w w') {p : Addr} {v : Value} (hc : w.cell? p = some v) (hp : ¬ S p.block) : w'.cell? p = some v := by
  rw [World.cell?_of_block (w := w) (h.block p.block (block_lt_of_cell hc) hp)]; exact hc
theorem Chg.of_grown {w w' : World} {row : Option Nat} (h : w.grownBy w' row) : Chg (fun k => row = some k) w w' :=
  ⟨h.os, h.tape, h.output, h.size, fun k hk hn => h.block k hk (fun e => hn e.symm)⟩
theorem Chg.of_below {w w' : World} (h : Below w.heap.size w w') (S : Nat → Prop) : Chg S w w' := ⟨h.os, h.tape, h.output, h.size, fun k hk _ => h.block k hk⟩
theorem Chg.trans {S : Nat → Prop} {a b c : World} (h : Chg S a b) (k : Chg S b c) : Chg S a c :=
  ⟨k.os.trans h.os, k.tape.trans h.tape, k.output.trans h.output, Nat.le_trans h.size k.size, fun i hi hn => (k.block i (Nat.lt_of_lt_of_le hi h.size) hn).trans (h.block i hi hn)⟩
theorem Chg.mono {S S' : Nat → Prop} {a b : World} (h : Chg S a b) (hs : ∀ k, S k → S' k) : Chg S' a b := ⟨h.os, h.tape, h.output, h.size, fun i hi hn => h.block i hi (fun x => hn (hs i x))⟩
theorem own_chg {S : Nat → Prop} {w w' : World} {base : Nat} {e : TypeId} {size : Nat} {v : Value} {n : Nat} {xs : List Value} (h : w.ownsRow base e size v n xs) (hb : Chg S w w') (hS : ∀ k, v.ownBlock = some k → ¬ S k) : w'.ownsRow base e size v n xs :=
  ⟨h.1, h.2.imp id fun ⟨g, cap, cur, hv, hg, hh, r⟩ => ⟨g, cap, cur, hv, hg, by
    rw [hb.block g (by rcases Nat.lt_or_ge g w.heap.size with hlt | hge; exact hlt; rw [Array.getElem?_eq_none hge] at hh; cases hh) (hS g (by rw [hv]; rfl))]; exact hh, r⟩⟩
theorem OI.chg {S : Nat → Prop} {w w' : World} {base : Nat} {v : Value} {xs : List Int} (h : OI w base v xs) (hb : Chg S w w') (hS : ∀ k, v.ownBlock = some k → ¬ S k) : OI w' base v xs := own_chg h hb hS
theorem OI.ge {w : World} {base : Nat} {v : Value} {xs : List Int} (h : OI w base v xs) : ∀ k, v.ownBlock = some k → base ≤ k ∧ k < w.heap.size := World.ownsRow.lt h

theorem RetP.ret {v : Value} {w : World} {f : FuncId} {args : Array Value} {P : Program} (h : Calls P f args w (RetP v w)) : Calls P f args w (Ret v w) :=
  h.mono fun _ _ ⟨h1, h2⟩ => ⟨h1, by subst h2; exact ext_refl _⟩

/-- Element k; closed to the walk's simp. -/
def gi (xs : List Int) (k : Nat) : Int := xs.getD k 0
theorem RI.open2 {w : World} {v : Value} {xs : List Int} (h : RI w v xs) : ∃ A c, v = .slice A xs.length c ∧ xs.length ≤ c ∧ c ≤ maxLen ∧
    ∀ k, k < xs.length → ∃ ad, A = some ad ∧ ad.block < w.heap.size ∧ ∀ j, j < xs.length → w.cell? (ad.add j) = some (.int .i64 (gi xs j)) := h.open_
theorem RI.at2 {w : World} {A : Option Addr} {n c : Nat} {xs : List Int} (h : RI w (.slice A n c) xs) {k : Nat} (hk : k < xs.length) : ∃ ad, A = some ad ∧ ad.block < w.heap.size ∧ ∀ j, j < xs.length → w.cell? (ad.add j) = some (.int .i64 (gi xs j)) := by
  obtain ⟨A', c', hv, _, _, h'⟩ := h.open2
  injection hv with h1 h2 h3
  subst h1
  exact h' k hk

end Go.Proofs.YtfgopboddkhckaaGreatDoor
namespace Go.Proofs.YtfgopboddkhckaaGreatDoor
open Go.ChangeShapes Go.WideShapes Go.ChangeAt Go.RowKit Go.Sort

theorem info_int : (Tryz.prog.info? 2).map (fun i => (i.zero, i.size, i.bytes)) = some (some (.int .i64 0), 1, 8) := by kernel_rfl

/-- The data blocks of a slice. -/
def BI (v : Value) : Nat → Prop := fun k => v.ownBlock = some k
def SmI (xs : List Int) : Prop := xs.length ≤ 1048576

end Go.Proofs.YtfgopboddkhckaaGreatDoor
namespace Go.Proofs.YtfgopboddkhckaaGreatDoor
open Go.ChangeShapes Go.WideShapes Go.ChangeAt Go.RowKit Go.Sort

section
variable {α : Type} [Inhabited α]
/-- Element k; closed to the walk's simp. -/
def gd (l : List α) (k : Nat) : α := l.getD k default
theorem gd_eq {l : List α} {k : Nat} (h : k < l.length) : gd l k = l[k] := by unfold gd; rw [List.getD_eq_getElem?_getD, List.getElem?_eq_getElem h]; rfl
theorem gd_take {l : List α} {n k : Nat} (h : k < n) : gd (l.take n) k = gd l k := by
  unfold gd; rw [List.getD_eq_getElem?_getD, List.getD_eq_getElem?_getD, List.getElem?_take, if_pos h]
theorem take_gd {l : List α} {k : Nat} (hk : k < l.length) : l.take (k + 1) = l.take k ++ [gd l k] := by
  rw [List.take_succ_eq_append_getElem hk, gd_eq hk]
theorem gd_append_left {l m : List α} {k : Nat} (h : k < l.length) : gd (l ++ m) k = gd l k := by
  unfold gd; rw [List.getD_eq_getElem?_getD, List.getD_eq_getElem?_getD, List.getElem?_append_left h]
theorem gd_mem {l : List α} {k : Nat} (h : k < l.length) : gd l k ∈ l := by rw [gd_eq h]; exact List.getElem_mem h
variable (c : α → List Value) (s : Nat) (hs : ∀ a, (c a).length = s)
include hs
theorem flat_get (l : List α) : ∀ {k j : Nat}, k < l.length → j < s → (l.flatMap c)[k * s + j]? = (c (gd l k))[j]? := by
  induction l with
  | nil => intro k j hk; simp at hk
  | cons a t ih =>
    intro k j hk hj
    rw [List.flatMap_cons]
    cases k with
    | zero => rw [Nat.zero_mul, Nat.zero_add, List.getElem?_append_left (by rw [hs]; exact hj)]; rfl
    | succ k =>
      rw [List.length_cons] at hk
      rw [List.getElem?_append_right (by rw [hs, Nat.succ_mul]; omega), hs, show (k + 1) * s + j - s = k * s + j from by rw [Nat.succ_mul]; omega, ih (by omega) hj]
      rfl
end

theorem addr_succ (a : Addr) (n : Nat) : a.add (n + 1) = ⟨a.block, a.off + (n + 1), none⟩ := by simp [Addr.add]
/-- A row of the call's own, its cells by index. -/
def ORow (w : World) (base : Nat) (e : TypeId) (size : Nat) (v : Value) (n : Nat) (F : Nat → Value) : Prop := w.ownsRow base e size v n ((List.range (n * size)).map F)
section
variable {w : World} {base : Nat} {e : TypeId} {size : Nat} {v : Value} {n : Nat} {F G : Nat → Value} {g cap : Nat}
theorem ORow.congr (h : ORow w base e size v n F) (he : ∀ j, j < n * size → F j = G j) : ORow w base e size v n G := by
  unfold ORow at h ⊢
  rw [show (List.range (n * size)).map G = (List.range (n * size)).map F from List.map_congr_left fun j hj => (he j (by simpa using hj)).symm]
  exact h
theorem set_range (N j : Nat) (u : Value) : ((List.range N).map F).set j u = (List.range N).map (fun i => if i = j then u else F i) := by
  apply List.ext_getElem?
  intro i
  rw [List.getElem?_set]
  by_cases hij : j = i
  · subst hij
    by_cases hj : j < N <;> simp [hj]
  · rw [if_neg hij]
    by_cases hi : i < N
    · simp [List.getElem?_range hi, show ¬ i = j from fun h => hij h.symm]
    · rw [List.getElem?_eq_none (by simp; omega), List.getElem?_eq_none (by simp; omega)]
theorem ORow.set (h : ORow w base e size (.slice (some ⟨g, 0, none⟩) n cap) n F) (j : Nat) (u : Value) : ORow (w.setCell ⟨g, j, none⟩ u) base e size (.slice (some ⟨g, 0, none⟩) n cap) n (fun i => if i = j then u else F i) := by
  have := (World.ownsRow.stored h j u).1
  rw [set_range] at this
  exact this
theorem ORow.cell (h : ORow w base e size (.slice (some ⟨g, 0, none⟩) n cap) n F) {j : Nat} (hj : j < n * size) : w.cell? ⟨g, j, none⟩ = some (F j) := by
  rw [World.ownsRow.cellAt h j hj]; simp [hj]
theorem ORow.frozen (h : ORow w base e size (.slice (some ⟨g, 0, none⟩) n cap) n F) (j : Nat) : w.frozen? ⟨g, j, none⟩ = false := World.ownsRow.frozenAt h j
theorem ORow.ext {w' : World} (h : ORow w base e size v n F) (hb : Below w.heap.size w w') : ORow w' base e size v n F := own_ext h hb
end

/-- A row that reads as structs: the cells of element k. -/
theorem Rd.at {α : Type} [Inhabited α] {c : α → List Value} {s : Nat} (hs : ∀ a, (c a).length = s) {w : World} {A : Option Addr} {n cp : Nat} {l : List α} (h : Rd w s (.slice A n cp) l.length (l.flatMap c)) {k : Nat} (hk : k < l.length) :
    ∃ ad, A = some ad ∧ ad.block < w.heap.size ∧ ∀ k, k < l.length → ∀ j, j < s → w.cell? (ad.add (k * s + j)) = (c (gd l k))[j]? := by
  obtain ⟨h1, A', c', hv, h2, h3, h4⟩ := h
  injection hv with e1 e2 e3
  subst e1
  obtain ⟨ad, hA, hlt, hc⟩ := h4 (by omega)
  refine ⟨ad, hA, hlt, fun k hk j hj => ?_⟩
  have h5 := flat_get c s hs l hk hj
  have h6 : j < (c (gd l k)).length := by rw [hs]; exact hj
  rw [List.getElem?_eq_getElem h6] at h5 ⊢
  exact hc _ _ h5
theorem Rd.len {w : World} {s : Nat} {A : Option Addr} {n cp m : Nat} {xs : List Value} (h : Rd w s (.slice A n cp) m xs) : n = m ∧ m ≤ cp ∧ cp ≤ maxLen := by
  obtain ⟨h1, A', c', hv, h2, h3, h4⟩ := h
  injection hv with e1 e2 e3
  subst e3
  exact ⟨e2, h2, h3⟩
theorem own_rd {w : World} {base : Nat} {e : TypeId} {s : Nat} {v : Value} {n : Nat} {xs : List Value} (h : w.ownsRow base e s v n xs) : Rd w s v n xs := by
  obtain ⟨h1, h2⟩ := h
  refine ⟨h1, ?_⟩
  rcases h2 with ⟨rfl, h0⟩ | ⟨g, cap, cur, rfl, hg, hh, hn, hm, hsz, ht⟩
  · exact ⟨none, 0, by rw [h0], by omega, by simp [maxLen], fun h => by omega⟩
  · refine ⟨some ⟨g, 0, none⟩, cap, rfl, hn, hm, fun h0 => ⟨_, rfl, ?_, fun j u hu => ?_⟩⟩
    · rcases Nat.lt_or_ge g w.heap.size with hlt | hge
      · exact hlt
      · rw [Array.getElem?_eq_none hge] at hh; cases hh
    · exact World.ownsRow.cells (w := w) (base := base) (e := e) (size := s) (v := .slice (some ⟨g, 0, none⟩) n cap) (n := n) ⟨h1, .inr ⟨g, cap, cur, rfl, hg, hh, hn, hm, hsz, ht⟩⟩ (g := g) rfl j u hu

theorem ORow.of {w : World} {base : Nat} {e : TypeId} {size : Nat} {v : Value} {n : Nat} {xs : List Value} (h : w.ownsRow base e size v n xs) : ORow w base e size v n (fun j => xs.getD j undef) := by
  unfold ORow
  have hl := h.1
  rw [show (List.range (n * size)).map (fun j => xs.getD j undef) = xs from ?_]
  · exact h
  · apply List.ext_getElem?
    intro i
    by_cases hi : i < n * size
    · simp only [List.getElem?_map, List.getElem?_range hi, Option.map_some, List.getD_eq_getElem?_getD]
      rw [List.getElem?_eq_getElem (by omega)]
      rfl
    · rw [List.getElem?_eq_none (by simp; omega), List.getElem?_eq_none (by omega)]
theorem Chg.setCell {S : Nat → Prop} (w : World) {p : Addr} (h : S p.block) (u : Value) : Chg S w (w.setCell p u) :=
  ⟨rfl, rfl, rfl, by simp, fun k _ hn => heap_setCell_other _ _ _ _ (fun e => hn (e ▸ h))⟩
end Go.Proofs.YtfgopboddkhckaaGreatDoor
namespace Go.Proofs.YtfgopboddkhckaaGreatDoor
open Go.ChangeShapes Go.WideShapes Go.ChangeAt Go.RowKit Go.Sort

theorem regrown_p {P : Program} {f : FuncId} {args : Array Value} {w : World} {d : Nat} {os : Array Obj} {v : Value} (h : Calls P f args (grow (redrawn w d) os) (RetP v (grow (redrawn w d) os))) :
    Calls P f args (grow (redrawn w d) os) fun e w'' => e = .returned v ∧ ∃ p : Regrown, w'' = grow (redrawn w p.d) p.os := Calls.regrown_of (RetP.ret h)
theorem regrown_r {P : Program} {f : FuncId} {args : Array Value} {w : World} {d : Nat} {os : Array Obj} {v : Value} (h : Calls P f args (grow (redrawn w d) os) (Ret v (grow (redrawn w d) os))) :
    Calls P f args (grow (redrawn w d) os) fun e w'' => e = .returned v ∧ ∃ p : Regrown, w'' = grow (redrawn w p.d) p.os := Calls.regrown_of h
theorem Ret.bool {P : Program} {f : FuncId} {args : Array Value} {w : World} {b c : Bool} (h : Calls P f args w (Ret (.bool b) w)) (e : b = c) : Calls P f args w (Ret (.bool c) w) := e ▸ h

end Go.Proofs.YtfgopboddkhckaaGreatDoor
namespace Go.Proofs.YtfgopboddkhckaaGreatDoor
open Go.ChangeShapes Go.WideShapes Go.ChangeAt Go.RowKit Go.Sort Go.Joins

theorem own_knob : ownKnob Tryz.prog.godebug = none := by kernel_rfl
theorem laid_out : laidOutB Tryz.prog = true := by kernel_rfl

theorem trodAll_stays {H : Type} {enc : TypeId × Value → H} {W W' : World} {sp : Nat → Bool} (hb : Below W.heap.size W W') :
    ∀ (ts : List TypeId) (vs : List Value) (ds : List (DataW H)) (ps : List MemPlace), (∀ t ∈ ts, Tryz.prog.readableRec t = true ∧ t < Tryz.prog.types.size) →
      DataW.TrodAll enc Tryz.prog W 0 (fun _ => true) true ts vs ds ps → (∀ p ∈ ps, p.block < W.heap.size) → (∀ p ∈ ps, sp p.block = true) →
      DataW.TrodAll enc Tryz.prog W' 0 sp true ts vs ds ps
  | [], [], [], _, _, h, _, _ => h
  | t :: ts, v :: vs, d :: ds, ps, hr, h, hlt, hsp => by
    obtain ⟨p, q, h1, h2, rfl⟩ := h
    have hp := hr t (by simp)
    exact ⟨p, q, WideElems.Trod_stays laid_out hp.1 hp.2 h1 (fun x hx => hb.same (hlt x (by simp [hx]))) (fun x hx => hsp x (by simp [hx])),
      trodAll_stays hb ts vs ds q (fun t ht => hr t (by simp [ht])) h2 (fun x hx => hlt x (by simp [hx])) (fun x hx => hsp x (by simp [hx])), rfl⟩
  | [], _ :: _, _, _, _, h, _, _ => h.elim
  | [], [], _ :: _, _, _, h, _, _ => h.elim
  | _ :: _, [], _, _, _, h, _, _ => h.elim
  | _ :: _, _ :: _, [], _, _, h, _, _ => h.elim

section
variable {H : Type} {enc : TypeId × Value → H} {P : Program}
/-- The row's post where the call has left old memory alone. -/
theorem post_of_below {f : Func} {s : ChangeSpec} {apart fresh handsOn again : Bool} {W W' : World} {args : Array Value} {v : Value} {ds gs : List (DataW H)} {before pa pv : List MemPlace}
    (hW : DataW.Whole enc P f.params.toList s.vars apart W args.toList ds gs before)
    (hres : ∀ (b : Nat) (sp : Nat → Bool) (hd : Bool), DataW.TrodAll enc P W' b sp hd f.resultTypes.toList (v.resultList f.resultTypes.size) (s.fn H (ds ++ gs)).results [])
    (hargs : ∀ sp : Nat → Bool, (∀ p ∈ before, sp p.block = true) → DataW.TrodAll enc P W' 0 sp true f.params.toList args.toList (s.fn H (ds ++ gs)).args pa)
    (hvars : ∀ sp : Nat → Bool, (∀ p ∈ before, sp p.block = true) → DataW.TrodVars enc P W' sp s.vars (s.fn H (ds ++ gs)).vars pv)
    (hps : before = pa ++ pv) (hb : Below W.heap.size W W')
    (hok : ∀ (j : Nat) (t : TypeId) (r : Value), f.resultTypes[j]? = some t → (v.resultList f.resultTypes.size)[j]? = some r → Value.okWide P W' .any 0 t r) :
    s.post enc P f apart fresh handsOn again W args v W' := by
  have hlt : ∀ p ∈ before, p.block < W.heap.size := fun p hp => hW.lt p hp
  have hold : ∀ p ∈ before, (fun b => decide (b < W.heap.size)) p.block = true := fun p hp => by simpa using hlt p hp
  refine ⟨ds, gs, before, [], pa, pv, hW, hres _ _ _, hargs _ hold, hvars _ hold, World.keptBut_mono (fun p hp => ⟨hp, ?_⟩) (hb.frame (· ∈ before)), fun _ => ?_⟩
  · rw [hps, List.mem_append] at hp
    exact Or.inr hp
  · obtain ⟨_, _, _, _, _, hz, hn⟩ := hW
    refine ⟨hok, _, _, ([] ++ pa) ++ pv, ⟨[] ++ pa, pv, trodAll_append (hargs _ (fun _ _ => rfl)) (hres _ _ _), hvars _ (fun _ _ => rfl), rfl, ?_, ?_⟩, ?_⟩
    · intro b off hp
      have hin : MemPlace.cell b off ∈ before := by rw [hps]; simpa using hp
      rw [hb.frozen (hlt _ hin)]
      exact hz b off hin
    · intro ha
      have := hn ha
      rw [hps] at this
      simpa using this
    · intro p hp _
      rw [hps]
      simpa using hp
end

end Go.Proofs.YtfgopboddkhckaaGreatDoor
namespace Go.Proofs.YtfgopboddkhckaaGreatDoor
open Go.ChangeShapes Go.WideShapes Go.ChangeAt Go.RowKit Go.Sort Go.Joins
set_option linter.unusedVariables false

structure CO where
  lead : ByteArray
  cyc : ByteArray
deriving DecidableEq
instance : Inhabited CO := ⟨⟨⟨#[]⟩, ⟨#[]⟩⟩⟩
def cCO (o : CO) : List Value := [.string o.lead, .string o.cyc]
theorem cCO_len (o : CO) : (cCO o).length = 2 := rfl
/-- v is the struct o. -/
def RCO (_ : World) (v : Value) (o : CO) : Prop := v = .agg #[.string o.lead, .string o.cyc]
theorem RCO.ext {w w' : World} {v : Value} {o : CO} (h : RCO w v o) (_ : Below w.heap.size w w') : RCO w' v o := h
/-- The same, where a call gave it. -/
def OCO (_ : World) (_ : Nat) (v : Value) (o : CO) : Prop := v = .agg #[.string o.lead, .string o.cyc]
theorem OCO.rd {w : World} {b : Nat} {v : Value} {o : CO} (h : OCO w b v o) : RCO w v o := h
theorem OCO.ext {w w' : World} {b : Nat} {v : Value} {o : CO} (h : OCO w b v o) (_ : Below w.heap.size w w') : OCO w' b v o := h
def SmCO (o : CO) : Prop := o.lead.size + o.cyc.size ≤ 1048576
def LenCO (o : CO) : Prop := o.lead.size ≤ maxLen ∧ o.cyc.size ≤ maxLen
/-- The cells of o behind an address. -/
def PCO (w : World) (p : Addr) (o : CO) : Prop := w.cell? p = some (.string o.lead) ∧ w.cell? ⟨p.block, p.off + 1, none⟩ = some (.string o.cyc)
theorem PCO.ext {w w' : World} {p : Addr} {o : CO} (h : PCO w p o) (hb : Below w.heap.size w w') : PCO w' p o := by
  obtain ⟨h0, h1⟩ := h
  exact ⟨cell_keep h0 hb, cell_keep h1 hb⟩
/-- v reads as the list l. -/
def RCOS (w : World) (v : Value) (l : List CO) : Prop := Rd w 2 v l.length (l.flatMap cCO)
theorem RCOS.ext {w w' : World} {v : Value} {l : List CO} (h : RCOS w v l) (hb : Below w.heap.size w w') : RCOS w' v l := Rd.ext h hb
theorem RCOS.alloc {w : World} {v : Value} {l : List CO} (h : RCOS w v l) (o : Obj) : RCOS (w.alloc o) v l := Rd.alloc h o
theorem RCOS.at {w : World} {A : Option Addr} {n cp : Nat} {l : List CO} (h : RCOS w (.slice A n cp) l) {k : Nat} (hk : k < l.length) : ∃ ad, A = some ad ∧ ad.block < w.heap.size ∧ ∀ k, k < l.length → PCO w (ad.add (k * 2)) (gd l k) := by
  obtain ⟨ad, hA, hlt, hc⟩ := Rd.at cCO_len h hk
  refine ⟨ad, hA, hlt, fun k hk => ?_⟩
  have h0 := fun j (hj : j < 2) => hc k hk j hj
  simp only [← add_of_add] at h0
  refine ⟨?_, ?_⟩
  · have := h0 0 (by omega)
    rwa [Addr.add_zero'] at this
  · have := h0 1 (by omega)
    rwa [addr_succ] at this
theorem RCOS.open_ {w : World} {v : Value} {l : List CO} (h : RCOS w v l) : ∃ A c, v = .slice A l.length c ∧ l.length ≤ c ∧ c ≤ maxLen := by
  obtain ⟨_, A, c, h1, h2, h3, _⟩ := h; exact ⟨A, c, h1, h2, h3⟩
def OCOS (w : World) (base : Nat) (v : Value) (l : List CO) : Prop := w.ownsRow base 102 2 v l.length (l.flatMap cCO)
theorem OCOS.rd {w : World} {base : Nat} {v : Value} {l : List CO} (h : OCOS w base v l) : RCOS w v l := own_rd h
theorem OCOS.ext {w w' : World} {base : Nat} {v : Value} {l : List CO} (h : OCOS w base v l) (hb : Below w.heap.size w w') : OCOS w' base v l := own_ext h hb
theorem OCOS.mono {w : World} {base base' : Nat} {v : Value} {l : List CO} (h : OCOS w base v l) (hb : base' ≤ base) : OCOS w base' v l := own_mono h hb
theorem OCOS.ge {w : World} {base : Nat} {v : Value} {l : List CO} (h : OCOS w base v l) : ∀ k, BI v k → base ≤ k ∧ k < w.heap.size := World.ownsRow.lt h
theorem OCOS.chg {S : Nat → Prop} {w w' : World} {base : Nat} {v : Value} {l : List CO} (h : OCOS w base v l) (hb : Chg S w w') (hS : ∀ k, BI v k → ¬ S k) : OCOS w' base v l := own_chg h hb hS
def totCO (l : List CO) : Nat := (l.map fun o => o.lead.size + o.cyc.size).sum
theorem totCO_succ {l : List CO} {k : Nat} (hk : k < l.length) : totCO (l.take (k + 1)) = totCO (l.take k) + ((gd l k).lead.size + (gd l k).cyc.size) := by unfold totCO; rw [take_gd hk]; simp
theorem totCO_le (l : List CO) (k : Nat) : totCO (l.take k) ≤ totCO l := by
  have h : l = l.take k ++ l.drop k := (List.take_append_drop k l).symm
  have : totCO l = totCO (l.take k) + totCO (l.drop k) := by unfold totCO; rw [← List.sum_append, ← List.map_append, ← h]
  omega
def SmCOS (l : List CO) : Prop := l.length + totCO l ≤ 1048576
def LenCOS (l : List CO) : Prop := l.length ≤ maxLen ∧ ∀ o ∈ l, LenCO o
theorem SmCOS.one {l : List CO} (h : SmCOS l) {k : Nat} (hk : k < l.length) : SmCO (gd l k) := by
  have h1 := totCO_succ hk
  have h2 := totCO_le l (k + 1)
  unfold SmCOS at h; unfold SmCO; omega
theorem info_CO : (Tryz.prog.info? 102).map (fun i => (i.zero, i.size, i.bytes)) = some (some (.agg #[.string ⟨#[]⟩, .string ⟨#[]⟩]), 2, 32) := by kernel_rfl
set_option maxRecDepth 100000
end Go.Proofs.YtfgopboddkhckaaGreatDoor
namespace Go.Proofs.YtfgopboddkhckaaGreatDoor
open Go.ChangeShapes Go.WideShapes Go.ChangeAt Go.RowKit Go.Sort
set_option linter.unusedVariables false

/-- Byte k of a text, as a number. -/
def byt (s : ByteArray) (k : Nat) : Int := ((s.data.toList.getD k 0).toNat : Int)
theorem byt_eq (s : ByteArray) (k : Nat) (h : k < s.size) : (s[k].toNat : Int) = byt s k := by
  have h' : k < s.data.toList.length := by simpa using h
  unfold byt
  rw [List.getD_eq_getElem?_getD, List.getElem?_eq_getElem h']
  rfl
theorem byt_bd (s : ByteArray) (k : Nat) : 0 ≤ byt s k ∧ byt s k ≤ 255 := by
  unfold byt
  have := (s.data.toList.getD k 0).toNat_lt
  omega
/-- A small letter; a digit; a byte of a name. -/
def smC (c : Int) : Bool := decide (97 ≤ c) && decide (c ≤ 122)
def dgC (c : Int) : Bool := decide (48 ≤ c) && decide (c ≤ 57)
def nbC (c : Int) : Bool := smC c || dgC c || c == 45
def nbs (s : ByteArray) (k : Nat) : Bool := (List.range k).all fun i => nbC (byt s i)
theorem nbs_succ (s : ByteArray) (k : Nat) : nbs s (k + 1) = (nbs s k && nbC (byt s k)) := by simp [nbs, List.range_succ]
theorem nbs_no {s : ByteArray} {k n : Nat} (hk : k < n) (h : nbC (byt s k) = false) : nbs s n = false := by
  unfold nbs
  rw [List.all_eq_false]
  exact ⟨k, by simpa using hk, by simp [h]⟩
def isN (s : ByteArray) : Bool := decide (1 ≤ s.size) && decide (s.size ≤ 12) && smC (byt s 0) && nbs s s.size

theorem spec_small (c : Int) (h0 : 0 ≤ c) (h1 : c ≤ 255) (w : World) : Calls Tryz.prog 196 #[.int .u8 c] w (RetP (.bool (smC c)) w) := by
  by_cases h2 : 97 ≤ c
  · have e1 : decide (97 ≤ c) = true := decide_eq_true h2
    have HX : Hid (smC c = decide (c ≤ 122)) := Lib.hid (by unfold smC; rw [e1]; rfl)
    go_enter Tryz.func196, Tryz.ntmps196
    go_wp2
    go_ret
    exact ⟨ret_bool (by rw [HX.out]), rfl⟩
  · have e1 : decide (97 ≤ c) = false := decide_eq_false h2
    have HX : Hid (smC c = false) := Lib.hid (by unfold smC; rw [e1]; rfl)
    go_enter Tryz.func196, Tryz.ntmps196
    go_wp2
    go_ret
    exact ⟨ret_bool (by rw [HX.out]), rfl⟩
theorem spec_digit (c : Int) (h0 : 0 ≤ c) (h1 : c ≤ 255) (w : World) : Calls Tryz.prog 113 #[.int .u8 c] w (RetP (.bool (dgC c)) w) := by
  by_cases h2 : 48 ≤ c
  · have e1 : decide (48 ≤ c) = true := decide_eq_true h2
    have HX : Hid (dgC c = decide (c ≤ 57)) := Lib.hid (by unfold dgC; rw [e1]; rfl)
    go_enter Tryz.func113, Tryz.ntmps113
    go_wp2
    go_ret
    exact ⟨ret_bool (by rw [HX.out]), rfl⟩
  · have e1 : decide (48 ≤ c) = false := decide_eq_false h2
    have HX : Hid (dgC c = false) := Lib.hid (by unfold dgC; rw [e1]; rfl)
    go_enter Tryz.func113, Tryz.ntmps113
    go_wp2
    go_ret
    exact ⟨ret_bool (by rw [HX.out]), rfl⟩

theorem nm_cases (y : Int) : (y = 45) ∨ (y < 48 ∧ y ≠ 45) ∨ (48 ≤ y ∧ y ≤ 57) ∨ (58 ≤ y ∧ y ≤ 96) ∨ (97 ≤ y ∧ y ≤ 122) ∨ 123 ≤ y := by omega

set_option maxHeartbeats 1600000 in
theorem impl_IsName (s : ByteArray) (hs : s.size ≤ maxLen) (w : World) :
    Calls Tryz.prog 141 #[.string s] w (RetP (.bool (isN s)) w) := by
  unfold maxLen at hs
  by_cases h1 : s.size < 1
  · have h2 : s.size = 0 := by omega
    have e1 : (s.size : Int) < 1 := by omega
    have HX : Hid (isN s = false) := Lib.hid (by unfold isN; rw [h2]; rfl)
    go_enter Tryz.func141, Tryz.ntmps141
    go_wp2_with fail
    go_ret
    exact ⟨ret_bool (by rw [HX.out]), rfl⟩
  · have e1 : ¬ (s.size : Int) < 1 := by omega
    by_cases h3 : 12 < s.size
    · have e2 : (12 : Int) < s.size := by omega
      have HX : Hid (isN s = false) := Lib.hid (by unfold isN; rw [decide_eq_false (show ¬ s.size ≤ 12 by omega)]; simp)
      go_enter Tryz.func141, Tryz.ntmps141
      go_wp2_with fail
      go_ret
      exact ⟨ret_bool (by rw [HX.out]), rfl⟩
    · have e2 : ¬ (12 : Int) < s.size := by omega
      have hb0 := byt_eq s 0 (by omega)
      obtain ⟨z, hz⟩ : ∃ z, byt s 0 = z := ⟨_, rfl⟩
      have hzb := byt_bd s 0
      rw [hz] at hb0 hzb
      by_cases h4 : smC z = true
      · have h5 : 97 ≤ z ∧ z ≤ 122 := by simpa [smC] using h4
        have e3 : decide (z < 97) = false := by simp; omega
        have e4 : decide (122 < z) = false := by simp; omega
        have HI : Hid (isN s = nbs s s.size) := Lib.hid (by unfold isN; rw [hz, h4, decide_eq_true (show 1 ≤ s.size by omega), decide_eq_true (show s.size ≤ 12 by omega)]; rfl)
        have HN1 : Hid (nbs s 1 = true) := Lib.hid (by rw [nbs_succ, hz]; unfold nbC; rw [h4]; rfl)
        clear h4 hz
        go_enter Tryz.func141, Tryz.ntmps141
        go_wp2_with fail
        clear hb0 e3 e4 h5 hzb
        go_loop [3] (fun i => ∃ k : Nat, 1 ≤ k ∧ k ≤ s.size ∧ i = .int .i64 k ∧ Hid (nbs s k = true)) (fun i => s.size - (intOf i).toNat)
        case atStart => exact ⟨1, Nat.le_refl _, by omega, rfl, HN1.out⟩
        case round =>
          obtain ⟨k, hk1, hk, rfl, HT⟩ := hrel
          by_cases hlt : k < s.size
          · have e5 : (k:Int) < s.size := by omega
            have e6 : (0:Int) ≤ k := by omega
            have hy := byt_eq s k hlt
            have hyb := byt_bd s k
            obtain ⟨y, hyy⟩ : ∃ y, byt s k = y := ⟨_, rfl⟩
            rw [hyy] at hy hyb
            have HY := Lib.hid hyy; clear hyy
            rcases nm_cases y with hxy | hxy | hxy | hxy | hxy | hxy
            · skip
              have e97 : decide (y < 97) = true := decide_eq_true (by omega)
              have e122 : decide (122 < y) = false := decide_eq_false (by omega)
              have e48 : decide (y < 48) = true := decide_eq_true (by omega)
              have e57 : decide (57 < y) = false := decide_eq_false (by omega)
              have HB : Hid (nbC (byt s k) = true) := Lib.hid (by rw [HY.out]; simp [nbC, smC, dgC]; omega)
              go_wp2_with fail
              go_round
              case rel => exact ⟨k + 1, by omega, by omega, by go_num, by unfold Hid; rw [nbs_succ, HT.out, HB.out]; rfl⟩
              case measure => simp [intOf]; omega
            · skip
              have e97 : decide (y < 97) = true := decide_eq_true (by omega)
              have e122 : decide (122 < y) = false := decide_eq_false (by omega)
              have e48 : decide (y < 48) = true := decide_eq_true (by omega)
              have e57 : decide (57 < y) = false := decide_eq_false (by omega)
              have HB : Hid (nbC (byt s k) = false) := Lib.hid (by rw [HY.out]; simp [nbC, smC, dgC]; omega)
              go_wp2_with fail
              go_ret
              exact ⟨ret_bool (by rw [HI.out, nbs_no hlt HB.out]), rfl⟩
            · skip
              have e97 : decide (y < 97) = true := decide_eq_true (by omega)
              have e122 : decide (122 < y) = false := decide_eq_false (by omega)
              have e48 : decide (y < 48) = false := decide_eq_false (by omega)
              have e57 : decide (57 < y) = false := decide_eq_false (by omega)
              have HB : Hid (nbC (byt s k) = true) := Lib.hid (by rw [HY.out]; simp [nbC, smC, dgC]; omega)
              go_wp2_with fail
              go_round
              case rel => exact ⟨k + 1, by omega, by omega, by go_num, by unfold Hid; rw [nbs_succ, HT.out, HB.out]; rfl⟩
              case measure => simp [intOf]; omega
            · skip
              have e97 : decide (y < 97) = true := decide_eq_true (by omega)
              have e122 : decide (122 < y) = false := decide_eq_false (by omega)
              have e48 : decide (y < 48) = false := decide_eq_false (by omega)
              have e57 : decide (57 < y) = true := decide_eq_true (by omega)
              have HB : Hid (nbC (byt s k) = false) := Lib.hid (by rw [HY.out]; simp [nbC, smC, dgC]; omega)
              go_wp2_with fail
              go_ret
              exact ⟨ret_bool (by rw [HI.out, nbs_no hlt HB.out]), rfl⟩
            · skip
              have e97 : decide (y < 97) = false := decide_eq_false (by omega)
              have e122 : decide (122 < y) = false := decide_eq_false (by omega)
              have e48 : decide (y < 48) = false := decide_eq_false (by omega)
              have e57 : decide (57 < y) = true := decide_eq_true (by omega)
              have HB : Hid (nbC (byt s k) = true) := Lib.hid (by rw [HY.out]; simp [nbC, smC, dgC]; omega)
              go_wp2_with fail
              go_round
              case rel => exact ⟨k + 1, by omega, by omega, by go_num, by unfold Hid; rw [nbs_succ, HT.out, HB.out]; rfl⟩
              case measure => simp [intOf]; omega
            · skip
              have e97 : decide (y < 97) = false := decide_eq_false (by omega)
              have e122 : decide (122 < y) = true := decide_eq_true (by omega)
              have e48 : decide (y < 48) = false := decide_eq_false (by omega)
              have e57 : decide (57 < y) = true := decide_eq_true (by omega)
              have HB : Hid (nbC (byt s k) = false) := Lib.hid (by rw [HY.out]; simp [nbC, smC, dgC]; omega)
              go_wp2_with fail
              go_ret
              exact ⟨ret_bool (by rw [HI.out, nbs_no hlt HB.out]), rfl⟩
          · have hkn : k = s.size := by omega
            subst hkn
            go_wp2_with fail
            go_ret
            exact ⟨ret_bool (by rw [HI.out, HT.out]), rfl⟩
      · have HX : Hid (isN s = false) := Lib.hid (by unfold isN; rw [hz, show smC z = false from by simpa using h4]; simp)
        by_cases h6 : z < 97
        · have e3 : decide (z < 97) = true := by simpa using h6
          clear h4 hz
          go_enter Tryz.func141, Tryz.ntmps141
          go_wp2_with fail
          go_ret
          exact ⟨ret_bool (by rw [HX.out]), rfl⟩
        · have e3 : decide (z < 97) = false := by simpa using h6
          have e4 : decide (122 < z) = true := by
            rw [decide_eq_true_eq]
            have : ¬ (97 ≤ z ∧ z ≤ 122) := fun h => h4 (by simp [smC, h.1, h.2])
            omega
          clear h4 hz
          go_enter Tryz.func141, Tryz.ntmps141
          go_wp2_with fail
          go_ret
          exact ⟨ret_bool (by rw [HX.out]), rfl⟩

set_option maxHeartbeats 1600000 in
theorem spec_IsName (s : ByteArray) (hs : s.size ≤ maxLen) (w : World) :
    Calls Tryz.prog 137 #[.string s] w (RetP (.bool (isN s)) w) := by
  unfold maxLen at hs
  by_cases h1 : s.size < 1
  · have h2 : s.size = 0 := by omega
    have HX : Hid (isN s = false) := Lib.hid (by unfold isN; rw [h2]; rfl)
    obtain rfl : s = ⟨#[]⟩ := by
      cases s with
      | mk d => exact congrArg _ (Array.eq_empty_of_size_eq_zero h2)
    go_enter Tryz.func137, Tryz.ntmps137
    go_wp2_with fail
    go_ret
    exact ⟨ret_bool (by rw [HX.out]), rfl⟩
  · have hne : s ≠ ⟨#[]⟩ := by rintro rfl; exact h1 (by decide)
    have hem2 : ¬ s.toList = [] := by
      have h := str_ne hne
      intro h2
      rw [h2] at h
      simp at h
    have hem : s.toList.isEmpty = false := by
      cases h : s.toList with
      | nil => exact absurd h hem2
      | cons a l => rfl
    clear hne
    by_cases h3 : 12 < s.size
    · have e2 : (12 : Int) < s.size := by omega
      have HX : Hid (isN s = false) := Lib.hid (by unfold isN; rw [decide_eq_false (show ¬ s.size ≤ 12 by omega)]; simp)
      go_enter Tryz.func137, Tryz.ntmps137
      go_wp2_with fail
      go_ret
      exact ⟨ret_bool (by rw [HX.out]), rfl⟩
    · have e2 : ¬ (12 : Int) < s.size := by omega
      have e1 : (0 : Int) < s.size := by omega
      have hb0 := byt_eq s 0 (by omega)
      obtain ⟨z, hz⟩ : ∃ z, byt s 0 = z := ⟨_, rfl⟩
      have hzb := byt_bd s 0
      rw [hz] at hb0 hzb
      cases h4 : smC z with
      | true =>
        have HI : Hid (isN s = nbs s s.size) := Lib.hid (by unfold isN; rw [hz, h4, decide_eq_true (show 1 ≤ s.size by omega), decide_eq_true (show s.size ≤ 12 by omega)]; rfl)
        have HC := Lib.hid (fun w => h4 ▸ spec_small z hzb.1 hzb.2 w)
        clear h4 hz hzb
        go_enter Tryz.func137, Tryz.ntmps137
        go_wp2_with fail
        refine (show Calls _ _ _ _ _ from HC.out _).mono ?_
        rintro e w' ⟨rfl, rfl⟩
        go_wp2_with fail
        clear hb0 HC hem hem2
        go_loop [3] (fun i => ∃ k : Nat, k ≤ s.size ∧ i = .int .i64 k ∧ Hid (nbs s k = true)) (fun i => s.size - (intOf i).toNat)
        case atStart => exact ⟨0, Nat.zero_le _, rfl, rfl⟩
        case round =>
          obtain ⟨k, hk, rfl, HT⟩ := hrel
          by_cases hlt : k < s.size
          · have e5 : (k:Int) < s.size := by omega
            have e6 : (0:Int) ≤ k := by omega
            have hy := byt_eq s k hlt
            have hyb := byt_bd s k
            obtain ⟨y, hyy⟩ : ∃ y, byt s k = y := ⟨_, rfl⟩
            rw [hyy] at hy hyb
            have HY := Lib.hid hyy; clear hyy
            have HC1 := Lib.hid (fun w => spec_small y hyb.1 hyb.2 w)
            have HC2 := Lib.hid (fun w => spec_digit y hyb.1 hyb.2 w)
            clear hyb
            go_wp2_with fail
            refine (show Calls _ _ _ _ _ from HC1.out _).mono ?_
            rintro e w' ⟨rfl, rfl⟩
            cases hs1 : smC y with
            | true =>
              have HB : Hid (nbC (byt s k) = true) := Lib.hid (by rw [HY.out]; unfold nbC; rw [hs1]; rfl)
              clear hs1
              go_wp2_with fail
              go_round
              case rel => exact ⟨k + 1, by omega, by go_num, by unfold Hid; rw [nbs_succ, HT.out, HB.out]; rfl⟩
              case measure => simp [intOf]; omega
            | false =>
              have HS1 := Lib.hid hs1; clear hs1
              go_wp2_with fail
              refine (show Calls _ _ _ _ _ from HC2.out _).mono ?_
              rintro e w' ⟨rfl, rfl⟩
              cases hd1 : dgC y with
              | true =>
                have HB : Hid (nbC (byt s k) = true) := Lib.hid (by rw [HY.out]; unfold nbC; rw [hd1]; simp)
                clear hd1
                go_wp2_with fail
                go_round
                case rel => exact ⟨k + 1, by omega, by go_num, by unfold Hid; rw [nbs_succ, HT.out, HB.out]; rfl⟩
                case measure => simp [intOf]; omega
              | false =>
                have HD1 := Lib.hid hd1; clear hd1
                by_cases hy5 : y = 45
                · have HB : Hid (nbC (byt s k) = true) := Lib.hid (by rw [HY.out]; unfold nbC; rw [hy5]; rfl)
                  go_wp2_with fail
                  go_round
                  case rel => exact ⟨k + 1, by omega, by go_num, by unfold Hid; rw [nbs_succ, HT.out, HB.out]; rfl⟩
                  case measure => simp [intOf]; omega
                · have HB : Hid (nbC (byt s k) = false) := Lib.hid (by rw [HY.out]; unfold nbC; rw [HS1.out, HD1.out]; simpa using hy5)
                  go_wp2_with fail
                  go_ret
                  exact ⟨ret_bool (by rw [HI.out, nbs_no hlt HB.out]), rfl⟩
          · have hkn : k = s.size := by omega
            subst hkn
            go_wp2_with fail
            go_ret
            exact ⟨ret_bool (by rw [HI.out, HT.out]), rfl⟩
      | false =>
        have HX : Hid (isN s = false) := Lib.hid (by unfold isN; rw [hz, h4]; simp)
        have HC := Lib.hid (fun w => h4 ▸ spec_small z hzb.1 hzb.2 w)
        clear h4 hz hzb
        go_enter Tryz.func137, Tryz.ntmps137
        go_wp2_with fail
        refine (show Calls _ _ _ _ _ from HC.out _).mono ?_
        rintro e w' ⟨rfl, rfl⟩
        go_wp2_with fail
        go_ret
        exact ⟨ret_bool (by rw [HX.out]), rfl⟩

end Go.Proofs.YtfgopboddkhckaaGreatDoor
