/-
  Rows whose elements are structs of s cells each: their cells by index.
-/
import Derived.Test.YtoefoljhgnfoiaaGreatDoorInts
namespace Go.Proofs.YtoefoljhgnfoiaaGreatDoor
open Go.ChangeShapes Go.WideShapes Go.ChangeAt Go.RowKit Go.Sort

section
variable {α : Type} [Inhabited α]
/-- Element k; closed to the walk's simp. -/
def gd (l : List α) (k : Nat) : α := l.getD k default
theorem gd_eq {l : List α} {k : Nat} (h : k < l.length) : gd l k = l[k] := by unfold gd; rw [List.getD_eq_getElem?_getD, List.getElem?_eq_getElem h]; rfl
theorem gd_take {l : List α} {n k : Nat} (h : k < n) : gd (l.take n) k = gd l k := by
  unfold gd; rw [List.getD_eq_getElem?_getD, List.getD_eq_getElem?_getD, List.getElem?_take, if_pos h]
theorem take_gd {l : List α} {k : Nat} (hk : k < l.length) : l.take (k + 1) = l.take k ++ [gd l k] := by
  rw [List.take_succ_eq_append_getElem hk, gd_eq hk]
theorem drop_gd {l : List α} {k : Nat} (hk : k < l.length) : l.drop k = gd l k :: l.drop (k + 1) := by
  rw [List.drop_eq_getElem_cons hk, gd_eq hk]
theorem gd_append_left {l m : List α} {k : Nat} (h : k < l.length) : gd (l ++ m) k = gd l k := by
  unfold gd; rw [List.getD_eq_getElem?_getD, List.getD_eq_getElem?_getD, List.getElem?_append_left h]
theorem gd_mem {l : List α} {k : Nat} (h : k < l.length) : gd l k ∈ l := by rw [gd_eq h]; exact List.getElem_mem h
theorem ext_gd {l m : List α} (h : l.length = m.length) (he : ∀ k, k < l.length → gd l k = gd m k) : l = m := by
  apply List.ext_getElem h
  intro i h1 h2
  have := he i h1
  rwa [gd_eq h1, gd_eq h2] at this

variable (c : α → List Value) (s : Nat) (hs : ∀ a, (c a).length = s)
include hs
omit [Inhabited α] in
theorem flat_len (l : List α) : (l.flatMap c).length = l.length * s := by
  induction l with
  | nil => simp
  | cons a t ih => rw [List.flatMap_cons, List.length_append, hs, ih, List.length_cons, Nat.succ_mul]; omega
theorem flat_get (l : List α) : ∀ {k j : Nat}, k < l.length → j < s → (l.flatMap c)[k * s + j]? = (c (gd l k))[j]? := by
  induction l with
  | nil => intro k j hk; simp at hk
  | cons a t ih =>
    intro k j hk hj
    rw [List.flatMap_cons]
    cases k with
    | zero => rw [Nat.zero_mul, Nat.zero_add, List.getElem?_append_left (by rw [hs]; exact hj)]; rfl
    | succ k =>
      rw [List.length_cons] at hk
      rw [List.getElem?_append_right (by rw [hs, Nat.succ_mul]; omega), hs, show (k + 1) * s + j - s = k * s + j from by rw [Nat.succ_mul]; omega, ih (by omega) hj]
      rfl
omit hs in
/-- Cell j of a row. -/
def cf (l : List α) (j : Nat) : Value := (c (gd l (j / s))).getD (j % s) undef
theorem flat_idx (h0 : 0 < s) (l : List α) : l.flatMap c = (List.range (l.length * s)).map (cf c s l) := by
  apply List.ext_getElem?
  intro j
  by_cases hj : j < l.length * s
  · have h1 : j / s < l.length := (Nat.div_lt_iff_lt_mul h0).2 hj
    have h2 : j % s < s := Nat.mod_lt _ h0
    have h3 : j / s * s + j % s = j := by rw [Nat.mul_comm]; exact Nat.div_add_mod j s
    have h4 := flat_get c s hs l h1 h2
    rw [h3] at h4
    rw [h4, List.getElem?_eq_getElem (by rw [hs]; exact h2)]
    simp only [List.getElem?_map, List.getElem?_range hj, Option.map_some, cf]
    rw [List.getD_eq_getElem?_getD, List.getElem?_eq_getElem (by rw [hs]; exact h2)]
    rfl
  · rw [List.getElem?_eq_none (by rw [flat_len c s hs]; omega), List.getElem?_eq_none (by simp; omega)]
omit hs in
theorem cf_at {l : List α} {k i : Nat} (hi : i < s) : cf c s l (k * s + i) = (c (gd l k)).getD i undef := by
  unfold cf
  rw [show (k * s + i) / s = k from by rw [Nat.add_comm, Nat.add_mul_div_right _ _ (by omega), Nat.div_eq_of_lt hi, Nat.zero_add], show (k * s + i) % s = i from by rw [Nat.add_comm, Nat.add_mul_mod_self_right, Nat.mod_eq_of_lt hi]]
end

theorem addr_succ (a : Addr) (n : Nat) : a.add (n + 1) = ⟨a.block, a.off + (n + 1), none⟩ := by simp [Addr.add]
/-- A row of the call's own, its cells by index. -/
def ORow (w : World) (base : Nat) (e : TypeId) (size : Nat) (v : Value) (n : Nat) (F : Nat → Value) : Prop := w.ownsRow base e size v n ((List.range (n * size)).map F)
section
variable {w : World} {base : Nat} {e : TypeId} {size : Nat} {v : Value} {n : Nat} {F G : Nat → Value} {g cap : Nat}
theorem ORow.congr (h : ORow w base e size v n F) (he : ∀ j, j < n * size → F j = G j) : ORow w base e size v n G := by
  unfold ORow at h ⊢
  rw [show (List.range (n * size)).map G = (List.range (n * size)).map F from List.map_congr_left fun j hj => (he j (by simpa using hj)).symm]
  exact h
theorem set_range (N j : Nat) (u : Value) : ((List.range N).map F).set j u = (List.range N).map (fun i => if i = j then u else F i) := by
  apply List.ext_getElem?
  intro i
  rw [List.getElem?_set]
  by_cases hij : j = i
  · subst hij
    by_cases hj : j < N <;> simp [hj]
  · rw [if_neg hij]
    by_cases hi : i < N
    · simp [List.getElem?_range hi, show ¬ i = j from fun h => hij h.symm]
    · rw [List.getElem?_eq_none (by simp; omega), List.getElem?_eq_none (by simp; omega)]
theorem ORow.set (h : ORow w base e size (.slice (some ⟨g, 0, none⟩) n cap) n F) (j : Nat) (u : Value) : ORow (w.setCell ⟨g, j, none⟩ u) base e size (.slice (some ⟨g, 0, none⟩) n cap) n (fun i => if i = j then u else F i) := by
  have := (World.ownsRow.stored h j u).1
  rw [set_range] at this
  exact this
theorem ORow.cell (h : ORow w base e size (.slice (some ⟨g, 0, none⟩) n cap) n F) {j : Nat} (hj : j < n * size) : w.cell? ⟨g, j, none⟩ = some (F j) := by
  rw [World.ownsRow.cellAt h j hj]; simp [hj]
theorem ORow.frozen (h : ORow w base e size (.slice (some ⟨g, 0, none⟩) n cap) n F) (j : Nat) : w.frozen? ⟨g, j, none⟩ = false := World.ownsRow.frozenAt h j
theorem ORow.ext {w' : World} (h : ORow w base e size v n F) (hb : Below w.heap.size w w') : ORow w' base e size v n F := own_ext h hb
end

/-- A row that reads as structs: the cells of element k. -/
theorem Rd.at {α : Type} [Inhabited α] {c : α → List Value} {s : Nat} (hs : ∀ a, (c a).length = s) {w : World} {A : Option Addr} {n cp : Nat} {l : List α} (h : Rd w s (.slice A n cp) l.length (l.flatMap c)) {k : Nat} (hk : k < l.length) :
    ∃ ad, A = some ad ∧ ad.block < w.heap.size ∧ ∀ k, k < l.length → ∀ j, j < s → w.cell? (ad.add (k * s + j)) = (c (gd l k))[j]? := by
  obtain ⟨h1, A', c', hv, h2, h3, h4⟩ := h
  injection hv with e1 e2 e3
  subst e1
  obtain ⟨ad, hA, hlt, hc⟩ := h4 (by omega)
  refine ⟨ad, hA, hlt, fun k hk j hj => ?_⟩
  have h5 := flat_get c s hs l hk hj
  have h6 : j < (c (gd l k)).length := by rw [hs]; exact hj
  rw [List.getElem?_eq_getElem h6] at h5 ⊢
  exact hc _ _ h5
theorem Rd.len {w : World} {s : Nat} {A : Option Addr} {n cp m : Nat} {xs : List Value} (h : Rd w s (.slice A n cp) m xs) : n = m ∧ m ≤ cp ∧ cp ≤ maxLen := by
  obtain ⟨h1, A', c', hv, h2, h3, h4⟩ := h
  injection hv with e1 e2 e3
  subst e3
  exact ⟨e2, h2, h3⟩
theorem own_rd {w : World} {base : Nat} {e : TypeId} {s : Nat} {v : Value} {n : Nat} {xs : List Value} (h : w.ownsRow base e s v n xs) : Rd w s v n xs := by
  obtain ⟨h1, h2⟩ := h
  refine ⟨h1, ?_⟩
  rcases h2 with ⟨rfl, h0⟩ | ⟨g, cap, cur, rfl, hg, hh, hn, hm, hsz, ht⟩
  · exact ⟨none, 0, by rw [h0], by omega, by simp [maxLen], fun h => by omega⟩
  · refine ⟨some ⟨g, 0, none⟩, cap, rfl, hn, hm, fun h0 => ⟨_, rfl, ?_, fun j u hu => ?_⟩⟩
    · rcases Nat.lt_or_ge g w.heap.size with hlt | hge
      · exact hlt
      · rw [Array.getElem?_eq_none hge] at hh; cases hh
    · exact World.ownsRow.cells (w := w) (base := base) (e := e) (size := s) (v := .slice (some ⟨g, 0, none⟩) n cap) (n := n) ⟨h1, .inr ⟨g, cap, cur, rfl, hg, hh, hn, hm, hsz, ht⟩⟩ (g := g) rfl j u hu

theorem ORow.of {w : World} {base : Nat} {e : TypeId} {size : Nat} {v : Value} {n : Nat} {xs : List Value} (h : w.ownsRow base e size v n xs) : ORow w base e size v n (fun j => xs.getD j undef) := by
  unfold ORow
  have hl := h.1
  rw [show (List.range (n * size)).map (fun j => xs.getD j undef) = xs from ?_]
  · exact h
  · apply List.ext_getElem?
    intro i
    by_cases hi : i < n * size
    · simp only [List.getElem?_map, List.getElem?_range hi, Option.map_some, List.getD_eq_getElem?_getD]
      rw [List.getElem?_eq_getElem (by omega)]
      rfl
    · rw [List.getElem?_eq_none (by simp; omega), List.getElem?_eq_none (by omega)]
theorem ORow.flat {α : Type} [Inhabited α] {c : α → List Value} {s : Nat} (hs : ∀ a, (c a).length = s) (h0 : 0 < s) {w : World} {base : Nat} {e : TypeId} {v : Value} {l : List α} {F : Nat → Value} (h : ORow w base e s v l.length F)
    (hF : ∀ j, j < l.length * s → F j = cf c s l j) : w.ownsRow base e s v l.length (l.flatMap c) := by
  rw [flat_idx c s hs h0]
  exact ORow.congr h hF

theorem Chg.setCell {S : Nat → Prop} (w : World) {p : Addr} (h : S p.block) (u : Value) : Chg S w (w.setCell p u) :=
  ⟨rfl, rfl, rfl, by simp, fun k _ hn => heap_setCell_other _ _ _ _ (fun e => hn (e ▸ h))⟩
/-- A slice whose every element reads as f i. -/
theorem rd_open {α : Type} [Inhabited α] {c : α → List Value} {s : Nat} (hs : ∀ a, (c a).length = s) (h0 : 0 < s) {w : World} {a : Addr} {len cap : Nat} (hl : len ≤ cap) (hm : cap ≤ maxLen) (f : Nat → α)
    (h : ∀ i, i < len → ∀ j, j < s → w.cell? ((a.add (i * s)).add j) = (c (f i))[j]?) : Rd w s (.slice (some a) len cap) ((List.range len).map f).length (((List.range len).map f).flatMap c) := by
  have hL : ((List.range len).map f).length = len := by simp
  refine ⟨flat_len c s hs _, some a, cap, by rw [hL], by rw [hL]; exact hl, hm, fun hn => ⟨a, rfl, ?_, fun j u hu => ?_⟩⟩
  · rw [hL] at hn
    have h1 := h 0 hn 0 h0
    rw [List.getElem?_eq_getElem (by rw [hs]; exact h0)] at h1
    have := block_lt_of_cell h1
    rwa [block_of_add, block_of_add] at this
  · have hj : j < len * s := by
      rcases Nat.lt_or_ge j (len * s) with h1 | h1
      · exact h1
      · rw [List.getElem?_eq_none (by rw [flat_len c s hs, hL]; exact h1)] at hu; cases hu
    have h1 : j / s < len := (Nat.div_lt_iff_lt_mul h0).2 hj
    have h2 : j % s < s := Nat.mod_lt _ h0
    have h3 : j / s * s + j % s = j := by rw [Nat.mul_comm]; exact Nat.div_add_mod j s
    have h4 := flat_get c s hs ((List.range len).map f) (k := j / s) (j := j % s) (by rw [hL]; exact h1) h2
    rw [h3, hu, gd_eq (by rw [hL]; exact h1)] at h4
    have h5 := h (j / s) h1 (j % s) h2
    rw [add_of_add, h3] at h5
    rw [h5, h4]
    simp

end Go.Proofs.YtoefoljhgnfoiaaGreatDoor
