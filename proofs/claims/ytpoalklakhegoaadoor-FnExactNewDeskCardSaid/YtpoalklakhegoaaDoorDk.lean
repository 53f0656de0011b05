/-
  The console's state (Desk): its format, its bond, its wall, its log: how it reads, the laws' small functions on it, and how it comes in.
-/
import Derived.Test.YtpoalklakhegoaaDoorStr
import Derived.Test.YtpoalklakhegoaaDoorCoM
namespace Go.Proofs.YtpoalklakhegoaaDoor
open Go.ChangeShapes Go.WideShapes Go.ChangeAt Go.RowKit Go.Sort Go.Joins
set_option linter.unusedVariables false
set_option maxRecDepth 100000

structure FM where
  l : Int
  w : Int
  h : Int
  j : Int
deriving DecidableEq
structure DK where
  f : FM
  nm : ByteArray
  cs : List CO
  wall : List ByteArray
  log : ByteArray
instance : Inhabited FM := ⟨⟨0, 0, 0, 0⟩⟩
instance : Inhabited DK := ⟨⟨default, ⟨#[]⟩, [], [], ⟨#[]⟩⟩⟩
/-- v is a state that reads as d. -/
def RDK (w : World) (v : Value) (d : DK) : Prop := ∃ A c B e, v = .agg #[.int .i64 d.f.l, .int .i64 d.f.w, .int .i64 d.f.h, .int .i64 d.f.j, .string d.nm, .slice A d.cs.length c, .slice B d.wall.length e, .string d.log] ∧
  RCOS w (.slice A d.cs.length c) d.cs ∧ RStr w (.slice B d.wall.length e) d.wall
theorem RDK.ext {w w' : World} {v : Value} {d : DK} (h : RDK w v d) (hb : Below w.heap.size w w') : RDK w' v d := by
  obtain ⟨A, c, B, e, rfl, h1, h2⟩ := h; exact ⟨A, c, B, e, rfl, h1.ext hb, h2.ext hb⟩
/-- The bond's courses and the wall, in memory of the call's own, apart. -/
def ODKp (w : World) (base : Nat) (v1 v2 : Value) (d : DK) : Prop := OCOS w base v1 d.cs ∧ OStr w base v2 d.wall ∧ ∀ k, BI v1 k → ¬ BI v2 k
theorem ODKp.ext {w w' : World} {base : Nat} {v1 v2 : Value} {d : DK} (h : ODKp w base v1 v2 d) (hb : Below w.heap.size w w') : ODKp w' base v1 v2 d := ⟨h.1.ext hb, h.2.1.ext hb, h.2.2⟩
theorem ODKp.mono {w : World} {base base' : Nat} {v1 v2 : Value} {d : DK} (h : ODKp w base v1 v2 d) (hb : base' ≤ base) : ODKp w base' v1 v2 d := ⟨h.1.mono hb, h.2.1.mono hb, h.2.2⟩
/-- .. whose parts are the call's own. -/
def ODK (w : World) (base : Nat) (v : Value) (d : DK) : Prop := ∃ A c B e, v = .agg #[.int .i64 d.f.l, .int .i64 d.f.w, .int .i64 d.f.h, .int .i64 d.f.j, .string d.nm, .slice A d.cs.length c, .slice B d.wall.length e, .string d.log] ∧
  ODKp w base (.slice A d.cs.length c) (.slice B d.wall.length e) d
theorem ODK.rd {w : World} {base : Nat} {v : Value} {d : DK} (h : ODK w base v d) : RDK w v d := by
  obtain ⟨A, c, B, e, rfl, h1, h2, _⟩ := h; exact ⟨A, c, B, e, rfl, h1.rd, h2.rd⟩
theorem ODK.ext {w w' : World} {base : Nat} {v : Value} {d : DK} (h : ODK w base v d) (hb : Below w.heap.size w w') : ODK w' base v d := by
  obtain ⟨A, c, B, e, rfl, h⟩ := h; exact ⟨A, c, B, e, rfl, h.ext hb⟩
theorem ODK.mono {w : World} {base base' : Nat} {v : Value} {d : DK} (h : ODK w base v d) (hb : base' ≤ base) : ODK w base' v d := by
  obtain ⟨A, c, B, e, rfl, h⟩ := h; exact ⟨A, c, B, e, rfl, h.mono hb⟩
/-- The blocks of a state. -/
def BDK (v : Value) : Nat → Prop := fun k => BI (v.cells.getD 5 undef) k ∨ BI (v.cells.getD 6 undef) k
theorem ODK.ge {w : World} {base : Nat} {v : Value} {d : DK} (h : ODK w base v d) : ∀ k, BDK v k → base ≤ k ∧ k < w.heap.size := by
  obtain ⟨A, c, B, e, rfl, h1, h2, _⟩ := h
  intro k hk
  rcases hk with hk | hk
  · exact h1.ge k hk
  · exact h2.ge k hk
theorem ODK.chg {S : Nat → Prop} {w w' : World} {base : Nat} {v : Value} {d : DK} (h : ODK w base v d) (hb : Chg S w w') (hS : ∀ k, BDK v k → ¬ S k) : ODK w' base v d := by
  obtain ⟨A, c, B, e, rfl, h1, h2, h3⟩ := h
  exact ⟨A, c, B, e, rfl, h1.chg hb fun k hk => hS k (.inl hk), h2.chg hb fun k hk => hS k (.inr hk), h3⟩

/-! ### Sizes -/
def totStr (l : List ByteArray) : Nat := (l.map fun o => o.size).sum
theorem totStr_succ {l : List ByteArray} {k : Nat} (hk : k < l.length) : totStr (l.take (k + 1)) = totStr (l.take k) + (gd l k).size := by unfold totStr; rw [take_gd hk]; simp
theorem totStr_le (l : List ByteArray) (k : Nat) : totStr (l.take k) ≤ totStr l := by
  have h : l = l.take k ++ l.drop k := (List.take_append_drop k l).symm
  have : totStr l = totStr (l.take k) + totStr (l.drop k) := by unfold totStr; rw [← List.sum_append, ← List.map_append, ← h]
  omega
def szStr (l : List ByteArray) (left : Int) : Int := szN left (l.length + totStr l)
def LenStr (l : List ByteArray) : Prop := l.length ≤ maxLen ∧ ∀ o ∈ l, o.size ≤ maxLen
def totDK (d : DK) : Nat := d.nm.size + (d.cs.length + totCO d.cs) + (d.wall.length + totStr d.wall) + d.log.size
def szDK (d : DK) (left : Int) : Int := szN left (totDK d)
theorem szDK_le (d : DK) {left : Int} (h : left ≤ 1048576) : szDK d left ≤ 1048576 ∧ -1 ≤ szDK d left := szN_le _ _ h
def SmDK (d : DK) : Prop := totDK d ≤ 1048576
def LenDK (d : DK) : Prop := d.nm.size ≤ maxLen ∧ LenCOS d.cs ∧ LenStr d.wall ∧ d.log.size ≤ maxLen
theorem ok_DK {d : DK} {left : Int} (h2 : left ≤ 1048576) (h : 0 ≤ szDK d left) : 0 ≤ left ∧ SmDK d := by
  have h1 := szN_ok h
  have h3 := szN_pos h
  unfold SmDK; omega
theorem szN_add (left : Int) (a b : Nat) (h : 0 ≤ szN left a) : szN (szN left a) b = szN left (a + b) := by
  unfold szN at *
  split at h
  · omega
  · rename_i h1
    rw [if_neg h1]
    split <;> split <;> omega
theorem szN_neg {left : Int} {a : Nat} (b : Nat) (h0 : 0 ≤ left) (h : ¬ 0 ≤ szN left a) : szN left a = -1 ∧ szN left (a + b) = -1 := by
  unfold szN at *
  split at h
  · rename_i h1
    exact ⟨by rw [if_pos h1], by rw [if_pos (by omega)]⟩
  · omega

/-! ### toDesk -/

theorem eq_FM (a b c d : Int) (w : World) :
    Calls Tryd.prog 11 #[.agg #[.int .i64 a, .int .i64 b, .int .i64 c, .int .i64 d], .agg #[.int .i64 a, .int .i64 b, .int .i64 c, .int .i64 d]] w (Ret (.bool true) w) := by
  go_enter Tryd.func11, Tryd.ntmps11
  go_wp2_with fail
  go_ret
  exact ⟨rfl, ext_alloc (ext_alloc1 _ _) _⟩
theorem eq_bond (A B : Option Addr) (c d : Nat) (nm : ByteArray) (cs : List CO) (w : World) (ha : RCOS w (.slice A cs.length c) cs) (hb : RCOS w (.slice B cs.length d) cs) :
    Calls Tryd.prog 12 #[.agg #[.string nm, .slice A cs.length c], .agg #[.string nm, .slice B cs.length d]] w (Ret (.bool true) w) := by
  have HA := Lib.hid ha; clear ha
  have HB := Lib.hid hb; clear hb
  go_enter Tryd.func12, Tryd.ntmps12
  go_wp2_with (go_at_call 20; refine (eq_COS _ _ cs _ ((HA.out.alloc _).alloc _) ((HB.out.alloc _).alloc _)).mono ?_; rintro e w1 ⟨rfl, hb⟩)
  go_ret
  exact ⟨rfl, ext_trans (ext_alloc (ext_alloc1 w _) _) hb⟩
theorem OCOS.put {w : World} {base : Nat} {v : Value} {l : List CO} (h : OCOS w base v l) {q : Nat} (hq : q < base) (j : Nat) (u : Value) : OCOS (w.setCell ⟨q, j, none⟩ u) base v l := ownsRow_setCell_below h hq u
theorem OStr.put {w : World} {base : Nat} {v : Value} {l : List ByteArray} (h : OStr w base v l) {q : Nat} (hq : q < base) (j : Nat) (u : Value) : OStr (w.setCell ⟨q, j, none⟩ u) base v l := ownsRow_setCell_below h hq u
/-- A box at p, a result being filled at q, and its place r, still empty. -/
structure TB (w W : World) (p q r : Nat) (bx o z : List Value) : Prop where
  b : Below w.heap.size w W
  hq : w.heap.size ≤ q
  hr : w.heap.size ≤ r
  ne : p ≠ q
  nr : r ≠ q
  hp : p < W.heap.size
  hq2 : q < W.heap.size
  hr2 : r < W.heap.size
  cb : ∀ j v, bx[j]? = some v → W.cell? ⟨p, j, none⟩ = some v
  co : ∀ j v, o[j]? = some v → W.cell? ⟨q, j, none⟩ = some v
  cr : ∀ j v, z[j]? = some v → W.cell? ⟨r, j, none⟩ = some v
  fr : ∀ j, W.frozen? ⟨q, j, none⟩ = false
  fz : ∀ j, W.frozen? ⟨r, j, none⟩ = false
theorem TB.ext {w W W' : World} {p q r : Nat} {bx o z : List Value} (h : TB w W p q r bx o z) (hb : Below W.heap.size W W') : TB w W' p q r bx o z :=
  ⟨ext_trans h.b hb, h.hq, h.hr, h.ne, h.nr, Nat.lt_of_lt_of_le h.hp hb.size, Nat.lt_of_lt_of_le h.hq2 hb.size, Nat.lt_of_lt_of_le h.hr2 hb.size, fun j v hv => cell_keep (h.cb j v hv) hb, fun j v hv => cell_keep (h.co j v hv) hb, fun j v hv => cell_keep (h.cr j v hv) hb, fun j => by rw [(bcell hb).2 q j h.hq2]; exact h.fr j, fun j => by rw [(bcell hb).2 r j h.hr2]; exact h.fz j⟩
theorem TB.set {w W : World} {p q r : Nat} {bx o z : List Value} (h : TB w W p q r bx o z) (j : Nat) (hj : j < o.length) (u : Value) : TB w (W.setCell ⟨q, j, none⟩ u) p q r bx (o.set j u) z := by
  refine ⟨ext_set h.b h.hq u, h.hq, h.hr, h.ne, h.nr, by simpa using h.hp, by simpa using h.hq2, by simpa using h.hr2, fun k v hv => ?_, fun k v hv => ?_, fun k v hv => ?_, fun k => by simpa using h.fr k, fun k => by simpa using h.fz k⟩
  · rw [World.cell?_setCell_other _ _ _ _ (by intro e; injection e with e1 _ _; exact h.ne e1.symm)]
    exact h.cb k v hv
  · by_cases hk : j = k
    · subst hk
      rw [List.getElem?_set_self hj] at hv
      injection hv with hv
      subst hv
      exact World.cell?_setCell_same _ _ _ (h.co j _ (List.getElem?_eq_getElem hj))
    · rw [List.getElem?_set_ne hk] at hv
      rw [World.cell?_setCell_other _ _ _ _ (by intro e; injection e with _ e2 _; exact hk e2)]
      exact h.co k v hv
  · rw [World.cell?_setCell_other _ _ _ _ (by intro e; injection e with e1 _ _; exact h.nr e1.symm)]
    exact h.cr k v hv
set_option maxHeartbeats 1600000 in
theorem eq_DK (v1 v2 : Value) (d : DK) (w : World) (ha : RDK w v1 d) (hb : RDK w v2 d) :
    Calls Tryd.prog 6 #[v1, v2] w (Ret (.bool true) w) := by
  obtain ⟨A, c, B, e, rfl, hcs, hwl⟩ := ha
  obtain ⟨A', c', B', e', rfl, hcs', hwl'⟩ := hb
  have HC := Lib.hid hcs; clear hcs
  have HW := Lib.hid hwl; clear hwl
  have HC' := Lib.hid hcs'; clear hcs'
  have HW' := Lib.hid hwl'; clear hwl'
  go_enter Tryd.func6, Tryd.ntmps6
  go_wp2_with fail
  refine (eq_FM _ _ _ _ _).mono ?_
  rintro e w1 ⟨rfl, hb1⟩
  have k4 := cell_keep (p := ⟨w.heap.size, 4, none⟩) (v := .string d.nm) (by simp [go_sem]) hb1
  have k5 := cell_keep (p := ⟨w.heap.size, 5, none⟩) (v := .slice A d.cs.length c) (by simp [go_sem]) hb1
  have k6 := cell_keep (p := ⟨w.heap.size, 6, none⟩) (v := .slice B d.wall.length e) (by simp [go_sem]) hb1
  have k7 := cell_keep (p := ⟨w.heap.size, 7, none⟩) (v := .string d.log) (by simp [go_sem]) hb1
  have j4 := cell_keep (p := ⟨w.heap.size + 1, 4, none⟩) (v := .string d.nm) (by simp [go_sem]) hb1
  have j5 := cell_keep (p := ⟨w.heap.size + 1, 5, none⟩) (v := .slice A' d.cs.length c') (by simp [go_sem]) hb1
  have j6 := cell_keep (p := ⟨w.heap.size + 1, 6, none⟩) (v := .slice B' d.wall.length e') (by simp [go_sem]) hb1
  have j7 := cell_keep (p := ⟨w.heap.size + 1, 7, none⟩) (v := .string d.log) (by simp [go_sem]) hb1
  have HB := Lib.hid (ext_trans (ext_alloc (ext_alloc1 w _) _) hb1)
  clear hb1
  go_wp2_with fail
  refine (eq_bond _ _ _ _ d.nm d.cs _ (HC.out.ext HB.out) (HC'.out.ext HB.out)).mono ?_
  rintro e w2 ⟨rfl, hb2⟩
  replace k6 := cell_keep k6 hb2
  replace k7 := cell_keep k7 hb2
  replace j6 := cell_keep j6 hb2
  replace j7 := cell_keep j7 hb2
  have HB2 := Lib.hid (ext_trans HB.out hb2)
  clear hb2 k4 k5 j4 j5 HB
  go_wp2_with fail
  refine (eq_Str _ _ d.wall _ (HW.out.ext HB2.out) (HW'.out.ext HB2.out)).mono ?_
  rintro e w3 ⟨rfl, hb3⟩
  replace k7 := cell_keep k7 hb3
  replace j7 := cell_keep j7 hb3
  have HB3 := Lib.hid (ext_trans HB2.out hb3)
  clear hb3 k6 j6 HB2
  go_wp2_with fail
  go_ret
  exact ⟨rfl, HB3.out⟩
end Go.Proofs.YtpoalklakhegoaaDoor
