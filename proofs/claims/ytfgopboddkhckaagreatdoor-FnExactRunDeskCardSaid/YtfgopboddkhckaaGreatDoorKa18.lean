/-
  Parts of the proof: Dcf, Per, Clash, Ex4, Ex5.
-/
import Derived.Test.YtfgopboddkhckaaGreatDoorKa5
import Derived.Test.YtfgopboddkhckaaGreatDoorKa6
import Derived.Test.YtfgopboddkhckaaGreatDoorKa7
import Derived.Test.YtfgopboddkhckaaGreatDoorKa8
import Derived.Test.YtfgopboddkhckaaGreatDoorKa17
import Derived.OwnWalk
import Derived.BigQuiet
import Derived.Lib.QuietBelow
namespace Go.Proofs.YtfgopboddkhckaaGreatDoor
open Go.ChangeShapes Go.WideShapes Go.ChangeAt Go.RowKit Go.Sort Go.Joins
set_option linter.unusedVariables false
set_option maxRecDepth 100000
/-- What the console's commands ask of the laid variables. -/
structure EnvK (w : World) : Prop where
  env : Env w
  lib : LibT w
  cod : CodeT w
theorem EnvK.ext {w w' : World} (h : EnvK w) (hb : Below w.heap.size w w') : EnvK w' := ⟨h.env.ext hb, h.lib.ext hb, h.cod.ext hb⟩
theorem wpList_append_i3 {w0 : World} {ops : Array Oper} {rest : List Oper} {o : Oper} {a : Act} {Q : Exit → Act → World → Prop} (hgd : o.guard = none) (s x : Operand)
    (ho : o.op = .call { callee := .builtin .append, args := #[s, x], argTypes := #[55, 55] })
    (base : Nat) (v : Value) (xs : List Int) (n : Int) (hs : a.eval s = v) (hx : a.eval x = .slice (some ⟨w0.heap.size, 0, none⟩) 1 1) (hO : OI w0 base v xs)
    (hl : xs.length ≤ 1099511627776) (hbase : base ≤ w0.heap.size)
    (h : ∀ g cap w', OI w' base (.slice (some ⟨g, 0, none⟩) (xs.length + 1) cap) (xs ++ [n]) → Chg (BI v) w0 w' → w0.heap.size < w'.heap.size → (BI v g ∨ w0.heap.size ≤ g) → wpList Tryz.prog ops Q rest (a.put o.dst (.slice (some ⟨g, 0, none⟩) (xs.length + 1) cap)) w') :
    wpList Tryz.prog ops Q (o :: rest) a (w0.alloc (.cells #[.int .i64 n] 2)) := by
  obtain ⟨i0, hi, hz0, hz1, hz2⟩ := info_parts info_int
  refine wpList_append_lies _ hgd s x _ ho base 2 i0 (.int .i64 0) 1 8 Tryz.underlying55 hi hz0 hz1 hz2 rfl (by omega) v xs.length (xs.map (Value.int .i64)) hs (World.ownsRow.alloc hO _)
    ⟨w0.heap.size, 0, none⟩ 1 1 [.int .i64 n] hx rfl (cell_one_new _ _ _) (by simp [Value.oneCell']) (by omega) (by unfold maxLen; omega) (by omega) (by simp; omega) (w0.heap.size + 1) (by simp) ?_
  intro g cap w1 hown hgrow hat hlt
  refine h g cap w1 ?_ ((Chg.of_below (ext_alloc1 _ _) _).trans (Chg.of_grown hgrow)) (by have := hgrow.size; simp at this; omega) (hat.elim (fun h => .inl h) fun h => .inr (by omega))
  unfold OI
  simpa using hown
theorem DB.chg {S : Nat → Prop} {W W' : World} {B0 q : Nat} {d : DK} {A : Option Addr} {c : Nat} {B : Option Addr} {e : Nat} (h : DB W B0 q d A c B e) (hc : Chg S W W') (hq : ¬ S q) (h1 : ∀ k, BI (.slice A d.cs.length c) k → ¬ S k) (h2 : ∀ k, BI (.slice B d.wall.length e) k → ¬ S k) : DB W' B0 q d A c B e := by
  obtain ⟨k0, k1, k2, k3, k4, k5, k6, k7⟩ := h.cells
  refine ⟨⟨hc.cell k0 hq, hc.cell k1 hq, hc.cell k2 hq, hc.cell k3 hq, hc.cell k4 hq, hc.cell k5 hq, hc.cell k6 hq, hc.cell k7 hq⟩, ⟨h.own.1.chg hc h1, h.own.2.1.chg hc h2, h.own.2.2⟩, h.fa, h.fb, fun j => ?_, h.ge⟩
  rw [World.frozen?_of_block (hc.block q h.lt hq)]
  exact h.fz j
/-- What a line leaves: a state and lines of the call's own, a code. -/
def RetD (r : DK × List ByteArray × Int) (w : World) : Ending → World → Prop := fun e w' => ∃ dv lv, e = .returned (.tuple #[dv, lv, .int .i64 r.2.2]) ∧ ODK w' w.heap.size dv r.1 ∧ OStr w' w.heap.size lv r.2.1 ∧ (∀ k, BDK dv k → ¬ BI lv k) ∧ Below w.heap.size w w'
/-- The state that came in, in its box p; the result's box r, still empty. -/
structure DC (w W : World) (p r : Nat) (d : DK) (A : Option Addr) (c : Nat) (B : Option Addr) (e : Nat) : Prop where
  b : Below w.heap.size w W
  bx : PDK W p d A c B e
  z0 : W.cell? ⟨r, 0, none⟩ = some (.int .i64 0)
  z1 : W.cell? ⟨r, 1, none⟩ = some (.int .i64 0)
  z2 : W.cell? ⟨r, 2, none⟩ = some (.int .i64 0)
  z3 : W.cell? ⟨r, 3, none⟩ = some (.int .i64 0)
  z4 : W.cell? ⟨r, 4, none⟩ = some (.string ⟨#[]⟩)
  z5 : W.cell? ⟨r, 5, none⟩ = some (.slice none 0 0)
  z6 : W.cell? ⟨r, 6, none⟩ = some (.slice none 0 0)
  z7 : W.cell? ⟨r, 7, none⟩ = some (.string ⟨#[]⟩)
  fz : ∀ j, W.frozen? ⟨r, j, none⟩ = false
  hp : w.heap.size ≤ p
  hpr : p < r
theorem DC.lt {w W : World} {p r : Nat} {d : DK} {A : Option Addr} {c : Nat} {B : Option Addr} {e : Nat} (h : DC w W p r d A c B e) : r < W.heap.size := block_lt_of_cell h.z0
theorem DC.ext {w W W' : World} {p r : Nat} {d : DK} {A : Option Addr} {c : Nat} {B : Option Addr} {e : Nat} (h : DC w W p r d A c B e) (hb : Below W.heap.size W W') : DC w W' p r d A c B e :=
  ⟨ext_trans h.b hb, h.bx.ext hb, cell_keep h.z0 hb, cell_keep h.z1 hb, cell_keep h.z2 hb, cell_keep h.z3 hb, cell_keep h.z4 hb, cell_keep h.z5 hb, cell_keep h.z6 hb, cell_keep h.z7 hb, fun j => by rw [(bcell hb).2 r j h.lt]; exact h.fz j, h.hp, h.hpr⟩
theorem DC.chg {S : Nat → Prop} {w W W' : World} {p r : Nat} {d : DK} {A : Option Addr} {c : Nat} {B : Option Addr} {e : Nat} (h : DC w W p r d A c B e) (hb : Chg S W W') (hS : ∀ k, S k → r < k) : DC w W' p r d A c B e := by
  have hB : Below (r + 1) W W' := hb.below h.lt (fun k hk => hS k hk)
  have hk : ∀ (q j : Nat) (v : Value), q ≤ r → W.cell? ⟨q, j, none⟩ = some v → W'.cell? ⟨q, j, none⟩ = some v := fun q j v hq hc => hb.cell hc (fun hs => by have := hS _ hs; simp at this; omega)
  have h1 := h.hpr
  refine ⟨Chg.ext h.b hb (fun k hk => by have := hS k hk; have := h.hp; omega), ⟨hk _ _ _ (by omega) h.bx.k0, hk _ _ _ (by omega) h.bx.k1, hk _ _ _ (by omega) h.bx.k2, hk _ _ _ (by omega) h.bx.k3, hk _ _ _ (by omega) h.bx.k4, hk _ _ _ (by omega) h.bx.k5, hk _ _ _ (by omega) h.bx.k6, hk _ _ _ (by omega) h.bx.k7⟩, hk _ _ _ (Nat.le_refl _) h.z0, hk _ _ _ (Nat.le_refl _) h.z1, hk _ _ _ (Nat.le_refl _) h.z2, hk _ _ _ (Nat.le_refl _) h.z3, hk _ _ _ (Nat.le_refl _) h.z4, hk _ _ _ (Nat.le_refl _) h.z5, hk _ _ _ (Nat.le_refl _) h.z6, hk _ _ _ (Nat.le_refl _) h.z7, fun j => ?_, h.hp, h.hpr⟩
  rw [hB.frozen (p := ⟨r, j, none⟩) (show r < r + 1 by omega)]
  exact h.fz j
/-- The result's box filled. -/
abbrev P8 (W : World) (r : Nat) (x0 x1 x2 x3 x4 x5 x6 x7 : Value) : World := (((((((W.setCell ⟨r, 0, none⟩ x0).setCell ⟨r, 1, none⟩ x1).setCell ⟨r, 2, none⟩ x2).setCell ⟨r, 3, none⟩ x3).setCell ⟨r, 4, none⟩ x4).setCell ⟨r, 5, none⟩ x5).setCell ⟨r, 6, none⟩ x6).setCell ⟨r, 7, none⟩ x7
structure DR (W W2 : World) (r : Nat) (x0 x1 x2 x3 x4 x5 x6 x7 : Value) : Prop where
  c : Chg (fun k => k = r) W W2
  s : W2.heap.size = W.heap.size
  r0 : W2.cell? ⟨r, 0, none⟩ = some x0
  r1 : W2.cell? ⟨r, 1, none⟩ = some x1
  r2 : W2.cell? ⟨r, 2, none⟩ = some x2
  r3 : W2.cell? ⟨r, 3, none⟩ = some x3
  r4 : W2.cell? ⟨r, 4, none⟩ = some x4
  r5 : W2.cell? ⟨r, 5, none⟩ = some x5
  r6 : W2.cell? ⟨r, 6, none⟩ = some x6
  r7 : W2.cell? ⟨r, 7, none⟩ = some x7
theorem chg8 (W : World) (r : Nat) (x0 x1 x2 x3 x4 x5 x6 x7 : Value) : Chg (fun k => k = r) W (P8 W r x0 x1 x2 x3 x4 x5 x6 x7) :=
  (((((((Chg.setCell (S := fun k => k = r) _ (p := ⟨r, 0, none⟩) rfl _).trans (Chg.setCell (S := fun k => k = r) _ (p := ⟨r, 1, none⟩) rfl _)).trans (Chg.setCell (S := fun k => k = r) _ (p := ⟨r, 2, none⟩) rfl _)).trans (Chg.setCell (S := fun k => k = r) _ (p := ⟨r, 3, none⟩) rfl _)).trans (Chg.setCell (S := fun k => k = r) _ (p := ⟨r, 4, none⟩) rfl _)).trans (Chg.setCell (S := fun k => k = r) _ (p := ⟨r, 5, none⟩) rfl _)).trans (Chg.setCell (S := fun k => k = r) _ (p := ⟨r, 6, none⟩) rfl _)).trans (Chg.setCell (S := fun k => k = r) _ (p := ⟨r, 7, none⟩) rfl _)
theorem DC.put {w W : World} {p r : Nat} {d : DK} {A : Option Addr} {c : Nat} {B : Option Addr} {e : Nat} (h : DC w W p r d A c B e) (x0 x1 x2 x3 x4 x5 x6 x7 : Value) : DR W (P8 W r x0 x1 x2 x3 x4 x5 x6 x7) r x0 x1 x2 x3 x4 x5 x6 x7 := by
  obtain ⟨_, _, z0, z1, z2, z3, z4, z5, z6, z7, _, _, _⟩ := h
  exact ⟨chg8 _ _ _ _ _ _ _ _ _ _, by simp, by simp [go_sem, z0], by simp [go_sem, z1], by simp [go_sem, z2], by simp [go_sem, z3], by simp [go_sem, z4], by simp [go_sem, z5], by simp [go_sem, z6], by simp [go_sem, z7]⟩
theorem DR.ret {w W W2 : World} {p r : Nat} {d : DK} {A : Option Addr} {c : Nat} {B : Option Addr} {e : Nat} (hC : DC w W p r d A c B e) {A1 : Option Addr} {c1 : Nat} {B1 : Option Addr} {e1 : Nat} {d1 : DK} {lv : Value} {ls : List ByteArray} {x : DK × List ByteArray × Int} {k : Int} (hx : x = (d1, ls, k))
    (hc : Chg (fun k => k = r) W W2) (ho : ODKp W w.heap.size (.slice A1 d1.cs.length c1) (.slice B1 d1.wall.length e1) d1) (hl : OStr W w.heap.size lv ls) (n1 : ∀ k, BI (.slice A1 d1.cs.length c1) k → k ≠ r) (n2 : ∀ k, BI (.slice B1 d1.wall.length e1) k → k ≠ r) (n3 : ∀ k, BI lv k → k ≠ r ∧ ¬ BI (.slice A1 d1.cs.length c1) k ∧ ¬ BI (.slice B1 d1.wall.length e1) k) :
    RetD x w (.returned (.tuple #[.agg #[.int .i64 d1.f.l, .int .i64 d1.f.w, .int .i64 d1.f.h, .int .i64 d1.f.j, .string d1.nm, .slice A1 d1.cs.length c1, .slice B1 d1.wall.length e1, .string d1.log], lv, .int .i64 k])) W2 := by
  subst hx
  refine ⟨_, _, rfl, ⟨A1, c1, B1, e1, rfl, ?_⟩, hl.chg hc (fun k hk e => (n3 k hk).1 e), fun k hk h2 => ?_, Chg.ext hC.b hc (fun k hk => by subst hk; have := hC.hp; have := hC.hpr; omega)⟩
  · exact ⟨ho.1.chg hc (fun k hk e => n1 k hk e), ho.2.1.chg hc (fun k hk e => n2 k hk e), ho.2.2⟩
  · rcases hk with hk | hk
    · exact (n3 k h2).2.1 hk
    · exact (n3 k h2).2.2 hk
theorem DR.ret2 {w W W2 W3 : World} {p r : Nat} {d : DK} {A : Option Addr} {c : Nat} {B : Option Addr} {e : Nat} (hC : DC w W p r d A c B e) {A1 : Option Addr} {c1 : Nat} {B1 : Option Addr} {e1 : Nat} {d1 : DK} {lv : Value} {ls : List ByteArray} {x : DK × List ByteArray × Int} {k : Int} (hx : x = (d1, ls, k))
    (hc : Chg (fun k => k = r) W W2) (hb : Below W2.heap.size W2 W3) (ho : ODKp W w.heap.size (.slice A1 d1.cs.length c1) (.slice B1 d1.wall.length e1) d1) (hl : OStr W3 w.heap.size lv ls) (n1 : ∀ k, BI (.slice A1 d1.cs.length c1) k → k ≠ r) (n2 : ∀ k, BI (.slice B1 d1.wall.length e1) k → k ≠ r) (n3 : ∀ k, BI lv k → ¬ BI (.slice A1 d1.cs.length c1) k ∧ ¬ BI (.slice B1 d1.wall.length e1) k) :
    RetD x w (.returned (.tuple #[.agg #[.int .i64 d1.f.l, .int .i64 d1.f.w, .int .i64 d1.f.h, .int .i64 d1.f.j, .string d1.nm, .slice A1 d1.cs.length c1, .slice B1 d1.wall.length e1, .string d1.log], lv, .int .i64 k])) W3 := by
  subst hx
  refine ⟨_, _, rfl, ⟨A1, c1, B1, e1, rfl, ?_⟩, hl, fun k hk h2 => ?_, ext_trans (Chg.ext hC.b hc (fun k hk => by subst hk; have := hC.hp; have := hC.hpr; omega)) hb⟩
  · exact ⟨(ho.1.chg hc (fun k hk e => n1 k hk e)).ext hb, (ho.2.1.chg hc (fun k hk e => n2 k hk e)).ext hb, ho.2.2⟩
  · rcases hk with hk | hk
    · exact (n3 k h2).1 hk
    · exact (n3 k h2).2 hk
theorem DB.mono {W : World} {B0 B1 q : Nat} {d : DK} {A : Option Addr} {c : Nat} {B : Option Addr} {e : Nat} (h : DB W B0 q d A c B e) (hb : B1 ≤ B0) : DB W B1 q d A c B e := ⟨h.cells, h.own.mono hb, h.fa, h.fb, h.fz, Nat.le_trans hb h.ge⟩
theorem nmL_yes {c : CM} {l : List ByteArray} {k : Nat} (h : gd (cmF c) k = true) : nmL c l (k + 1) = nmL c l k ++ [num1 l (k + 1)] := if_pos h
theorem bi_nil {k n c : Nat} (h : BI (.slice none n c) k) : False := by cases h
theorem DR.nil {w W W2 : World} {p r : Nat} {d : DK} {A : Option Addr} {c : Nat} {B : Option Addr} {e : Nat} (hC : DC w W p r d A c B e) {x : DK × List ByteArray × Int} {k : Int} (hx : x = (default, [], k)) (hc : Chg (fun k => k = r) W W2) :
    RetD x w (.returned (.tuple #[.agg #[.int .i64 0, .int .i64 0, .int .i64 0, .int .i64 0, .string ⟨#[]⟩, .slice none 0 0, .slice none 0 0, .string ⟨#[]⟩], .slice none 0 0, .int .i64 k])) W2 :=
  DR.ret hC (d1 := default) (A1 := none) (c1 := 0) (B1 := none) (e1 := 0) hx hc ⟨World.ownsRow_nil _ _ _ _, World.ownsRow_nil _ _ _ _, fun k h => (bi_nil h).elim⟩ (World.ownsRow_nil _ _ _ _) (fun k h => (bi_nil h).elim) (fun k h => (bi_nil h).elim) (fun k h => (bi_nil h).elim)
theorem impl_DW (w : World) : Calls Tryz.prog 40 #[] w (fun e w' => e = .returned (.slice (some ⟨w.heap.size, 0, none⟩) 11 11) ∧ w' = w.alloc (.cells dwC 9)) := by
  unfold dwC dwL
  go_enter Tryz.func40, Tryz.ntmps40
  go_wp2_with fail
  go_ret
  exact ⟨rfl, rfl⟩
theorem dw_cells (w : World) (j : Nat) (hj : j < dwL.length) : (w.alloc (.cells dwC 9)).cell? ⟨w.heap.size, 0 + j, none⟩ = some (.string (dwL.getD j ByteArray.empty)) := by
  rw [Nat.zero_add, World.cell?_alloc_at _ _ _ _ rfl]
  unfold dwC
  rw [List.getElem?_toArray, List.getElem?_map, List.getElem?_eq_getElem hj, List.getD_eq_getElem?_getD, List.getElem?_eq_getElem hj]
  rfl
theorem impl_has (w : World) (x : ByteArray) : Calls Tryz.prog 39 #[.slice (some ⟨w.heap.size, 0, none⟩) 11 11, .string x] (w.alloc (.cells dwC 9)).drew (fun e w' => e = .returned (.bool (cmOf x).isSome) ∧ w' = (w.alloc (.cells dwC 9)).drew) := by
  have h := Tryz.slices_Contains_string w.heap.size 0 11 11 dwL x (w.alloc (.cells dwC 9)).drew (Nat.le_refl _) (by omega) (fun j hj => by rw [← dw_cells w j hj]; rfl)
  rwa [con_dw] at h
end Go.Proofs.YtfgopboddkhckaaGreatDoor
namespace Go.Proofs.YtfgopboddkhckaaGreatDoor
open Go.ChangeShapes Go.WideShapes Go.ChangeAt Go.RowKit Go.Sort Go.Joins
set_option linter.unusedVariables false
set_option maxRecDepth 100000

theorem oi_lit0 (w : World) (B : Nat) (h : B ≤ w.heap.size) : OI (w.alloc (.cells #[] 2)) B (.slice (some ⟨w.heap.size, 0, none⟩) 0 0) [] :=
  World.ownsRow_lit _ #[] 0 h (by simp [maxLen]) (by simp)
/-- A function that returns numbers in memory of its own. -/
def RetO1 (xs : List Int) (w : World) : Ending → World → Prop := fun e w' => ∃ A c, e = .returned (.slice A xs.length c) ∧ OI w' w.heap.size (.slice A xs.length c) xs ∧ Below w.heap.size w w'
set_option maxHeartbeats 1600000 in
theorem impl_perps (s : ByteArray) (h1 : 1 ≤ s.size) (hs : s.size ≤ 60) (w : World) :
    Calls Tryz.prog 158 #[.string s] w (RetO1 (perp s) w) := by
  obtain ⟨n, hn⟩ : ∃ n, s.size = n + 1 := ⟨s.size - 1, by omega⟩
  have HN : Hid (s.size - 1 = n) := Lib.hid (by omega)
  have HPL : Hid ((perp s).length = n) := Lib.hid (by rw [perp_len, hn]; rfl)
  have hn1 : (s.size : Int) - 1 = n := by omega
  have hn2 : n ≤ 59 := by omega
  have HSZ := Lib.hid hn
  clear h1 hs hn
  go_enter Tryz.func158, Tryz.ntmps158
  go_wp2_with fail
  go_loopw [3, 4, 10] (fun u a i wr => ∃ (k g cp : Nat), k ≤ n ∧ u = .slice (some ⟨g, 0, none⟩) k cp ∧ a = .int .i64 (lenQ s k) ∧ i = .int .i64 k ∧ Hid (OI wr w.heap.size (.slice (some ⟨g, 0, none⟩) k cp) ((perp s).take k)) ∧ Hid (Below w.heap.size w wr)) (fun _ _ i _ => n - (intOf i).toNat)
  case atStart => exact ⟨0, w.heap.size, 0, Nat.zero_le _, rfl, rfl, rfl, Lib.hid (oi_lit0 _ _ (Nat.le_refl _)), Lib.hid (ext_alloc1 _ _)⟩
  case round =>
    obtain ⟨k, g, cp, hk, rfl, rfl, rfl, HO, HB⟩ := hrel
    have e0 : (0:Int) ≤ k := by omega
    have hsz := HB.out.size
    by_cases hlt : k < n
    · have hlt2 : k < s.size := by have := HSZ.out; omega
      have e1 : (k:Int) < n := by omega
      have e2 : (k:Int) < s.size := by omega
      have e3 : (k:Int) + 1 < s.size := by omega
      have hy := byt_eq s k hlt2
      have hyb := byt_bd s k
      have hb1 := lenQ_bd s k
      have hb2 := qC_bd (byt s k)
      have HS : Hid (lenQ s (k + 1) = lenQ s k + qC (byt s k)) := Lib.hid rfl
      have HTK : Hid ((perp s).take (k + 1) = (perp s).take k ++ [lenQ s (k + 1)]) := Lib.hid (perp_take (by rw [HN.out]; exact hlt))
      have HKL : Hid (((perp s).take k).length = k) := Lib.hid (by rw [List.length_take, HPL.out]; omega)
      obtain ⟨y, hyy⟩ : ∃ y, byt s k = y := ⟨_, rfl⟩
      rw [hyy] at hy hyb HS hb2
      clear hyy
      have HC := Lib.hid (fun w => impl_quarters y hyb.1 hyb.2 w)
      obtain ⟨z, hzz⟩ : ∃ z, qC y = z := ⟨_, rfl⟩
      rw [hzz] at HC HS hb2
      obtain ⟨t, htt⟩ : ∃ t, lenQ s k = t := ⟨_, rfl⟩
      rw [htt] at HS hb1
      rw [HS.out] at HTK
      rw [htt]
      obtain ⟨ls, hls⟩ : ∃ ls, (perp s).take k = ls := ⟨_, rfl⟩
      rw [hls] at HO HTK HKL
      clear hzz htt hyb hls
      go_wp2_with fail
      refine (show Calls _ _ _ _ _ from HC.out _).mono ?_
      rintro e w1 ⟨rfl, rfl⟩
      go_wp2_with (at_builtin; refine wpList_append_i rfl _ _ rfl w.heap.size (.slice (some ⟨g, 0, none⟩) k cp) ls (t + z) rfl rfl HO.out (by rw [HKL.out]; omega) hsz ?_; intro g2 cap w4 hO4 hg4 hlt4)
      go_roundw
      case rel =>
        refine ⟨k + 1, g2, cap, by omega, by rw [HKL.out], by rw [HS.out], by go_num, Lib.hid ?_, Lib.hid (Chg.ext HB.out hg4 (fun j hj => (HO.out.ge j hj).1))⟩
        rw [HTK.out]
        rw [HKL.out] at hO4
        exact hO4
      case measure => simp [intOf]; omega
    · obtain rfl : k = n := by omega
      have e1 : ¬ (k:Int) < k := by omega
      have e3 : ¬ (k:Int) + 1 < s.size := by have := HSZ.out; omega
      go_wp2_with fail
      go_ret
      refine ⟨some ⟨g, 0, none⟩, cp, by rw [HPL.out]; rfl, ?_, HB.out⟩
      rw [HPL.out]
      have h := HO.out
      rwa [List.take_of_length_le (by rw [HPL.out]; exact Nat.le_refl _)] at h
theorem impl_apart (a b : Int) (h1 : 0 ≤ a ∧ a ≤ 1000000) (h2 : 0 ≤ b ∧ b ≤ 1000000) (w : World) : Calls Tryz.prog 159 #[.int .i64 a, .int .i64 b] w (RetP (.int .i64 (apt a b)) w) := by
  by_cases h : b - a < a - b
  · have HA : Hid (apt a b = a - b) := Lib.hid (by unfold apt; rw [if_pos h])
    go_enter Tryz.func159, Tryz.ntmps159
    go_wp2_with fail
    go_ret
    exact ⟨ret_int (by rw [HA.out]; omega), rfl⟩
  · have HA : Hid (apt a b = b - a) := Lib.hid (by unfold apt; rw [if_neg h])
    go_enter Tryz.func159, Tryz.ntmps159
    go_wp2_with fail
    go_ret
    exact ⟨ret_int (by rw [HA.out]; omega), rfl⟩
set_option maxHeartbeats 800000 in
theorem impl_wallC (A : Option Addr) (c : Nat) (l : List ByteArray) (lap : Int) (w : World) (hR : RStr w (.slice A l.length c) l) (hsm : SmWall l) :
    Calls Tryz.prog 157 #[.slice A l.length c, .int .i64 lap] w (Ret (.int .i64 (wlC l lap)) w) := by
  have HV : Hid (wlC l lap = if vW l then (if inB lap 1 4 then 0 else 2) else 1) := Lib.hid rfl
  have HF := Lib.hid (impl_okW A c l w hR hsm)
  obtain ⟨x, hx⟩ : ∃ x, vW l = x := ⟨_, rfl⟩
  obtain ⟨y, hy⟩ : ∃ y, inB lap 1 4 = y := ⟨_, rfl⟩
  have HI := Lib.hid (fun w => RetP.bool (impl_within lap 1 4 w) hy)
  rw [hx, hy] at HV
  rw [hx] at HF
  clear hx hy hR hsm
  go_enter Tryz.func157, Tryz.ntmps157
  go_wp2_with fail
  refine (show Calls _ _ _ _ _ from HF.out).mono ?_
  rintro e w1 ⟨rfl, hb⟩
  have HB := Lib.hid hb
  clear hb
  cases x
  · go_wp2_with fail
    go_ret
    exact ⟨ret_int (by rw [HV.out]; rfl), HB.out⟩
  go_wp2_with fail
  refine (show Calls _ _ _ _ _ from HI.out _).mono ?_
  rintro e w2 ⟨rfl, rfl⟩
  cases y
  · go_wp2_with fail
    go_ret
    exact ⟨ret_int (by rw [HV.out]; rfl), HB.out⟩
  go_wp2_with fail
  go_ret
  exact ⟨ret_int (by rw [HV.out]; rfl), HB.out⟩
end Go.Proofs.YtfgopboddkhckaaGreatDoor
namespace Go.Proofs.YtfgopboddkhckaaGreatDoor
open Go.ChangeShapes Go.WideShapes Go.ChangeAt Go.RowKit Go.Sort Go.Joins
set_option linter.unusedVariables false
set_option maxRecDepth 100000

theorem OI.at2 {w : World} {base : Nat} {A : Option Addr} {n c : Nat} {xs : List Int} (h : OI w base (.slice A n c) xs) {k : Nat} (hk : k < xs.length) : ∃ ad, A = some ad ∧ w.cell? (ad.add k) = some (.int .i64 (gi xs k)) := by
  obtain ⟨ad, hA, _, hc⟩ := h.rd.at2 hk
  exact ⟨ad, hA, hc k hk⟩
/-- What is found of two courses' perpends. -/
theorem clB_yes {lap x : Int} {ys : List Int} {j : Nat} (hj : j < ys.length) (h : (ys.take j).findSome? (fun y => if apt x y < lap then some y else none) = none) (h2 : apt x (gi ys j) < lap) : clB lap x ys = some (gi ys j) :=
  fs_hit (f := fun y => if apt x y < lap then some y else none) hj h (by rw [gd_gi]; exact if_pos h2)
def clBk (lap x : Int) (ys : List Int) (j : Nat) : Option Int := (ys.take j).findSome? (fun y => if apt x y < lap then some y else none)
theorem clBk_next {lap x : Int} {ys : List Int} {j : Nat} (hj : j < ys.length) (h : clBk lap x ys j = none) (h2 : ¬ apt x (gi ys j) < lap) : clBk lap x ys (j + 1) = none :=
  fs_next (f := fun y => if apt x y < lap then some y else none) hj h (by rw [gd_gi]; exact if_neg h2)
theorem clBk_end {lap x : Int} {ys : List Int} (h : clBk lap x ys ys.length = none) : clB lap x ys = none := fs_end h
def clAk (lap : Int) (xs ys : List Int) (i : Nat) : Option (Int × Int) := (xs.take i).findSome? (fun x => (clB lap x ys).map fun y => (x, y))
theorem clAk_next {lap : Int} {xs ys : List Int} {i : Nat} (hi : i < xs.length) (h : clAk lap xs ys i = none) (h2 : clB lap (gi xs i) ys = none) : clAk lap xs ys (i + 1) = none :=
  fs_next (f := fun x => (clB lap x ys).map fun y => (x, y)) hi h (by rw [gd_gi, h2]; rfl)
theorem clAk_hit {lap : Int} {xs ys : List Int} {i : Nat} {y : Int} (hi : i < xs.length) (h : clAk lap xs ys i = none) (h2 : clB lap (gi xs i) ys = some y) : clA lap xs ys = some (gi xs i, y) :=
  fs_hit (f := fun x => (clB lap x ys).map fun y => (x, y)) hi h (by rw [gd_gi, h2]; rfl)
theorem clAk_end {lap : Int} {xs ys : List Int} (h : clAk lap xs ys xs.length = none) : clA lap xs ys = none := fs_end h
def clWk (lap : Int) (l : List ByteArray) (k : Nat) : Option (Int × Int × Int) := ((List.range (l.length - 1)).take k).findSome? (clK lap l)
theorem clWk_next {lap : Int} {l : List ByteArray} {k : Nat} (hk : k < l.length - 1) (h : clWk lap l k = none) (h2 : clA lap (perp (gd l k)) (perp (gd l (k + 1))) = none) : clWk lap l (k + 1) = none :=
  fs_next (f := clK lap l) (by simpa using hk) h (by rw [range_gd hk]; unfold clK; rw [h2]; rfl)
theorem clWk_hit {lap : Int} {l : List ByteArray} {k : Nat} {x y : Int} (hk : k < l.length - 1) (h : clWk lap l k = none) (h2 : clA lap (perp (gd l k)) (perp (gd l (k + 1))) = some (x, y)) : clW lap l = some ((k : Int), x, y) :=
  fs_hit (f := clK lap l) (by simpa using hk) h (by rw [range_gd hk]; unfold clK; rw [h2]; rfl)
theorem clWk_end {lap : Int} {l : List ByteArray} (h : clWk lap l (l.length - 1) = none) : clW lap l = none := by
  have : clWk lap l (List.range (l.length - 1)).length = none := by rwa [List.length_range]
  exact fs_end this
theorem mClash_hit {l : List ByteArray} {lap k x y : Int} (h : wlC l lap = 0) (h2 : clW lap l = some (k, x, y)) : mClash l lap = (k, x, y, 0) := by unfold mClash; rw [if_pos h, h2]
theorem mClash_end {l : List ByteArray} {lap : Int} (h : wlC l lap = 0) (h2 : clW lap l = none) : mClash l lap = (0, 0, 0, 3) := by unfold mClash; rw [if_pos h, h2]
theorem mClash_no {l : List ByteArray} {lap : Int} (h : ¬ wlC l lap = 0) : mClash l lap = (0, 0, 0, wlC l lap) := by unfold mClash; rw [if_neg h]
def Ret4 (r : Int × Int × Int × Int) (w : World) : Ending → World → Prop := Ret (.tuple #[.int .i64 r.1, .int .i64 r.2.1, .int .i64 r.2.2.1, .int .i64 r.2.2.2]) w

set_option maxHeartbeats 6400000 in
theorem impl_FirstClash (A : Option Addr) (c : Nat) (l : List ByteArray) (lap : Int) (w : World) (hR : RStr w (.slice A l.length c) l) (hsm : SmWall l) :
    Calls Tryz.prog 92 #[.slice A l.length c, .int .i64 lap] w (Ret4 (mClash l lap) w) := by
  obtain ⟨_, _, _, hc1, hc2⟩ := hR.open_
  unfold maxLen at hc2
  have hlm : l.length ≤ 9223372036854775807 := by omega
  have HR := Lib.hid hR
  have HWC := Lib.hid (impl_wallC A c l lap w hR hsm)
  clear hc1 hc2 hR hsm
  by_cases h0 : wlC l lap = 0
  · obtain ⟨hv, hl1, hl4⟩ := wlC_ok h0
    obtain ⟨v1, v2, v3⟩ := vW_parts hv
    have HV : Hid (∀ k, k < l.length → 1 ≤ (gd l k).size ∧ (gd l k).size ≤ 60) := Lib.hid fun k hk => ⟨(vCo_parts (v3 k hk)).1, (vCo_parts (v3 k hk)).2.1⟩
    have H0 := Lib.hid h0
    rw [h0] at HWC
    clear h0 hv v3
    obtain ⟨n, hn⟩ : ∃ n, l.length = n + 1 := ⟨l.length - 1, by omega⟩
    have HN := Lib.hid hn
    have hn40 : n ≤ 39 := by omega
    have hni : (l.length : Int) = n + 1 := by omega
    clear hn v1 v2 hlm
    go_enter Tryz.func92, Tryz.ntmps92
    go_wp2_with fail
    refine (show Calls _ _ _ _ _ from HWC.out).mono ?_
    rintro e w1 ⟨rfl, hb⟩
    have HB1 := Lib.hid hb
    clear hb
    go_wp2_with fail
    go_loopw [9] (fun i wr => ∃ k : Nat, k ≤ n ∧ i = .int .i64 ((k : Int) + 1) ∧ Hid (clWk lap l k = none) ∧ Hid (Below w1.heap.size w1 wr)) (fun i _ => n + 1 - (intOf i).toNat)
    case atStart => exact ⟨0, Nat.zero_le _, rfl, Lib.hid rfl, Lib.hid (ext_refl _)⟩
    case round =>
      obtain ⟨k, hk, rfl, HF, HB⟩ := hrel
      have e0 : (0 : Int) ≤ k := by omega
      by_cases hlt : k < n
      · have e1 : (0 : Int) ≤ (k : Int) + 1 := by omega
        have e2 : (k : Int) + 1 < l.length := by omega
        have e3 : (k : Int) + 1 - 1 = k := by omega
        have e4 : (k : Int) < l.length := by omega
        have e5 : ((k : Int) + 1).toNat = k + 1 := by omega
        have hk1 : k + 1 < l.length := by have := HN.out; omega
        have hk0 : k < l.length := by omega
        obtain ⟨ad, rfl, _, hc⟩ := (HR.out.ext (ext_trans HB1.out HB.out)).at hk1
        have p1 := hc (k + 1) hk1
        rw [addr_succ] at p1
        have p0 := hc k hk0
        clear hc
        have HS := Lib.hid (HV.out (k + 1) hk1)
        have HT := Lib.hid (HV.out k hk0)
        have HNX := Lib.hid (fun h => clWk_next (lap := lap) (l := l) (k := k) (by have := HN.out; omega) HF.out h)
        have HHT := Lib.hid (fun x y h => clWk_hit (lap := lap) (l := l) (k := k) (x := x) (y := y) (by have := HN.out; omega) HF.out h)
        obtain ⟨s, hs⟩ : ∃ s, gd l (k + 1) = s := ⟨_, rfl⟩
        obtain ⟨t, ht⟩ : ∃ t, gd l k = t := ⟨_, rfl⟩
        rw [hs] at p1 HS HNX HHT
        rw [ht] at p0 HT HNX HHT
        have HCS := Lib.hid (fun w => impl_perps s HS.out.1 HS.out.2 w)
        have HCT := Lib.hid (fun w => impl_perps t HT.out.1 HT.out.2 w)
        have HXB : Hid (∀ i, i < (perp t).length → 0 ≤ gi (perp t) i ∧ gi (perp t) i ≤ 240) := Lib.hid fun i hi => perp_bd HT.out.2 (by rwa [perp_len] at hi)
        have HYB : Hid (∀ i, i < (perp s).length → 0 ≤ gi (perp s) i ∧ gi (perp s) i ≤ 240) := Lib.hid fun i hi => perp_bd HS.out.2 (by rwa [perp_len] at hi)
        have hx60 : (perp t).length ≤ 60 := by have := HT.out; rw [perp_len]; omega
        have hy60 : (perp s).length ≤ 60 := by have := HS.out; rw [perp_len]; omega
        obtain ⟨ys, hys⟩ : ∃ ys, perp s = ys := ⟨_, rfl⟩
        obtain ⟨xs, hxs⟩ : ∃ xs, perp t = xs := ⟨_, rfl⟩
        rw [hys] at HCS HNX HHT HYB hy60
        rw [hxs] at HCT HNX HHT HXB hx60
        clear hs ht hys hxs
        go_wp2_with fail
        refine (show Calls _ _ _ _ _ from HCS.out _).mono ?_
        rintro e w2 ⟨C, cc, rfl, hO2, hb2⟩
        have HO2 := Lib.hid hO2
        have HB2 := Lib.hid hb2
        have p2 := cell_keep p0 hb2
        clear hO2 hb2 p1 p0
        go_wp2_with fail
        refine (show Calls _ _ _ _ _ from HCT.out _).mono ?_
        rintro e w3 ⟨D, dc, rfl, hO3, hb3⟩
        have HO3 := Lib.hid hO3
        have HO2' := Lib.hid (HO2.out.ext hb3)
        have HB3 := Lib.hid (ext_trans HB.out (ext_trans HB2.out hb3))
        clear hO3 hb3 p2 HO2
        go_wp2_with fail
        go_loop [39] (fun i => ∃ j : Nat, j ≤ xs.length ∧ i = .int .i64 j ∧ Hid (clAk lap xs ys j = none)) (fun i => xs.length - (intOf i).toNat)
        case atStart => exact ⟨0, Nat.zero_le _, rfl, Lib.hid rfl⟩
        case round =>
          obtain ⟨j, hj, rfl, HJ⟩ := hrel
          have f0 : (0 : Int) ≤ j := by omega
          by_cases hjl : j < xs.length
          · have f1 : (j : Int) < xs.length := by omega
            obtain ⟨bd, rfl, q0⟩ := HO3.out.at2 hjl
            have hxb := HXB.out j hjl
            have HAN := Lib.hid (fun h => clAk_next (lap := lap) (xs := xs) (ys := ys) hjl HJ.out h)
            have HAH := Lib.hid (fun y h => clAk_hit (lap := lap) (xs := xs) (ys := ys) (y := y) hjl HJ.out h)
            obtain ⟨x, hx⟩ : ∃ x, gi xs j = x := ⟨_, rfl⟩
            rw [hx] at q0 hxb HAN HAH
            clear hx
            go_wp2_with fail
            go_loop [45] (fun i => ∃ m : Nat, m ≤ ys.length ∧ i = .int .i64 m ∧ Hid (clBk lap x ys m = none)) (fun i => ys.length - (intOf i).toNat)
            case atStart => exact ⟨0, Nat.zero_le _, rfl, Lib.hid rfl⟩
            case round =>
              obtain ⟨m, hm, rfl, HM⟩ := hrel
              have g0 : (0 : Int) ≤ m := by omega
              by_cases hml : m < ys.length
              · have g1 : (m : Int) < ys.length := by omega
                obtain ⟨cd, rfl, q1⟩ := HO2'.out.at2 hml
                have hyb := HYB.out m hml
                have HBN := Lib.hid (fun h => clBk_next (lap := lap) (x := x) (ys := ys) hml HM.out h)
                have HBH := Lib.hid (fun h => clB_yes (lap := lap) (x := x) (ys := ys) hml HM.out h)
                obtain ⟨y, hy⟩ : ∃ y, gi ys m = y := ⟨_, rfl⟩
                rw [hy] at q1 hyb HBN HBH
                clear hy
                have HCA := Lib.hid (fun w => impl_apart x y (by omega) (by omega) w)
                obtain ⟨z, hz⟩ : ∃ z, apt x y = z := ⟨_, rfl⟩
                rw [hz] at HCA HBN HBH
                clear hz
                by_cases hzl : z < lap
                · have HW := Lib.hid (mClash_hit H0.out (HHT.out _ _ (HAH.out _ (HBH.out hzl))))
                  go_wp2_with fail
                  refine (show Calls _ _ _ _ _ from HCA.out _).mono ?_
                  rintro e w4 ⟨rfl, rfl⟩
                  go_wp2_with fail
                  refine bodyPost_ret (v := .tuple #[.int .i64 k, .int .i64 x, .int .i64 y, .int .i64 0]) (by simp [results, Tryz.results92, go_sem]) rfl ?_
                  unfold Ret4
                  rw [HW.out]
                  exact ⟨rfl, ext_trans HB1.out HB3.out⟩
                · have HBN2 := Lib.hid (HBN.out hzl)
                  go_wp2_with fail
                  refine (show Calls _ _ _ _ _ from HCA.out _).mono ?_
                  rintro e w4 ⟨rfl, rfl⟩
                  go_wp2_with fail
                  go_round
                  case rel => exact ⟨m + 1, by omega, by go_num, HBN2⟩
                  case measure => simp [intOf]; omega
              · obtain rfl : m = ys.length := by omega
                have HBE := Lib.hid (HAN.out (clBk_end HM.out))
                have g1 : ¬ (ys.length : Int) < ys.length := by omega
                go_wp2_with fail
                go_round
                case rel => exact ⟨j + 1, by omega, by go_num, HBE⟩
                case measure => simp [intOf]; omega
          · obtain rfl : j = xs.length := by omega
            have HAE := Lib.hid (HNX.out (clAk_end HJ.out))
            have f1 : ¬ (xs.length : Int) < xs.length := by omega
            go_wp2_with fail
            go_roundw
            case rel => exact ⟨k + 1, by omega, by go_num, HAE, HB3⟩
            case measure => simp [intOf]; omega
      · obtain rfl : k = n := by omega
        have HE := Lib.hid (mClash_end H0.out (clWk_end (by rw [HN.out]; exact HF.out)))
        have e1 : ¬ (k : Int) + 1 < l.length := by omega
        go_wp2_with fail
        refine bodyPost_ret (v := .tuple #[.int .i64 0, .int .i64 0, .int .i64 0, .int .i64 3]) (by simp [results, Tryz.results92, go_sem]) rfl ?_
        unfold Ret4
        rw [HE.out]
        exact ⟨rfl, ext_trans HB1.out HB.out⟩
  · have HE := Lib.hid (mClash_no h0)
    obtain ⟨z, hz⟩ : ∃ z, wlC l lap = z := ⟨_, rfl⟩
    rw [hz] at h0 HWC HE
    have e1 : (z == 0) = false := beq_eq_false_iff_ne.2 h0
    have e2 : (z != 0) = true := bne_iff_ne.2 h0
    clear hz h0
    go_enter Tryz.func92, Tryz.ntmps92
    go_wp2_with fail
    refine (show Calls _ _ _ _ _ from HWC.out).mono ?_
    rintro e w1 ⟨rfl, hb⟩
    have HB1 := Lib.hid hb
    clear hb
    go_wp2_with fail
    refine bodyPost_ret (v := .tuple #[.int .i64 0, .int .i64 0, .int .i64 0, .int .i64 z]) (by simp [results, Tryz.results92, go_sem]) rfl ?_
    unfold Ret4
    rw [HE.out]
    exact ⟨rfl, HB1.out⟩
end Go.Proofs.YtfgopboddkhckaaGreatDoor
namespace Go.Proofs.YtfgopboddkhckaaGreatDoor
open Go.ChangeShapes Go.WideShapes Go.ChangeAt Go.RowKit Go.Sort Go.Joins
set_option linter.unusedVariables false
set_option maxRecDepth 100000
theorem ExP.said {r : DK × List ByteArray × Int} {W W2 : World} {B0 q : Nat} {d : DK} {t : ByteArray} {k : Int} {A : Option Addr} {c : Nat} {B : Option Addr} {e : Nat} (hk : r.2.2 = k) (hr : k = 0 → r = (d, [t], 0)) (hD : DB W2 B0 q d A c B e) (hb : Chg (fun k => k = q) W W2) :
    ExP r W B0 q (.returned (.tuple #[.slice (some ⟨W2.heap.size, 0, none⟩) 1 1, .int .i64 k])) (W2.alloc (.cells #[.string t] 9)) := by
  by_cases h : k = 0
  · subst h
    exact ExP.one (hr rfl) hD hb
  · exact ExP.no hk h (hb.trans (Chg.of_below (ext_alloc1 _ _) _))
theorem exHeight_eq {d : DK} {n : Int} : (exHeight d n).2.2 = (mHeight d.f n).2 ∧ ((mHeight d.f n).2 = 0 → exHeight d n = (d, [itb (mHeight d.f n).1], 0)) := by
  unfold exHeight
  by_cases h : (mHeight d.f n).2 = 0
  · rw [if_pos h]; exact ⟨h.symm, fun _ => rfl⟩
  · rw [if_neg h]; exact ⟨rfl, fun h2 => absurd h2 h⟩
set_option maxHeartbeats 3200000 in
theorem impl_ex_height (w00 W : World) (q : Nat) (d : DK) (A : Option Addr) (c : Nat) (B : Option Addr) (e : Nat) (hD : DB W w00.heap.size q d A c B e) (hb0 : Below w00.heap.size w00 W) (Aw : Option Addr) (cw : Nat) (l : List ByteArray) (hw : RStr W (.slice Aw l.length cw) l) (hl : l.length = 2) (hx : gd l 0 = cmW .height) (n1 : Int) (An : Option Addr) (cn : Nat) (hn : RI W (.slice An 1 cn) [n1]) (hE : Env w00) :
    Calls Tryz.prog 44 #[.pointer (some ⟨q, 0, none⟩), .slice Aw l.length cw, .slice An 1 cn] W (ExP (exHeight d n1) W w00.heap.size q) := by
  have HD := Lib.hid hD
  have HB0 := Lib.hid hb0
  obtain ⟨ad, rfl, _, hc⟩ := hw.at (k := 0) (by omega)
  have w0 := hc 0 (by omega)
  rw [Addr.add_zero'] at w0
  obtain ⟨x0, hx0⟩ : ∃ x, gd l 0 = x := ⟨_, rfl⟩
  rw [hx0] at w0 hx
  have hx0 := hx
  obtain ⟨p0, q0⟩ := lit_neC (x := x0) (l := [102, 111, 114, 109, 97, 116]) (by rw [hx0]; decide)
  obtain ⟨p1, q1⟩ := lit_neC (x := x0) (l := [98, 111, 110, 100]) (by rw [hx0]; decide)
  obtain ⟨p2, q2⟩ := lit_neC (x := x0) (l := [119, 97, 108, 108]) (by rw [hx0]; decide)
  obtain ⟨p3, q3⟩ := lit_neC (x := x0) (l := [115, 104, 111, 119]) (by rw [hx0]; decide)
  obtain ⟨p4, q4⟩ := lit_neC (x := x0) (l := [99, 104, 101, 99, 107]) (by rw [hx0]; decide)
  obtain ⟨p5, q5⟩ := lit_neC (x := x0) (l := [99, 111, 117, 110, 116]) (by rw [hx0]; decide)
  obtain ⟨p6, q6⟩ := lit_neC (x := x0) (l := [112, 97, 105, 114]) (by rw [hx0]; decide)
  obtain ⟨p7, q7⟩ := lit_neC (x := x0) (l := [108, 101, 110, 103, 116, 104]) (by rw [hx0]; decide)
  have he : x0.toList = [104, 101, 105, 103, 104, 116] := by rw [hx0, ByteArray.toList_eq]; rfl
  obtain ⟨an, rfl, _, hcn⟩ := hn.at2 (k := 0) (by simp)
  have m0 := hcn 0 (by simp)
  rw [Addr.add_zero'] at m0
  replace m0 : W.cell? an = some (.int .i64 n1) := m0
  clear hcn
  have i0 : (0 : Int) < l.length := by omega
  have HLF : Hid (∀ W', Below W.heap.size W W' → LayF W') := Lib.hid fun W' h => (hE.ext (ext_trans hb0 h)).lay
  have HHO := Lib.hid (fun w => impl_HeightOf d.f n1 w)
  have HEX := Lib.hid (exHeight_eq (d := d) (n := n1))
  obtain ⟨hb1, hb2⟩ := mHeight_bd d.f n1
  have HDE : Hid (∀ W', Below W.heap.size W W' → Calls Tryz.prog 54 #[.int .i64 (mHeight d.f n1).1] W' (Ret (.string (itb (mHeight d.f n1).1)) W')) := Lib.hid fun W' h => impl_Dec _ (by omega) (by omega) W' (HLF.out _ h)
  obtain ⟨x, hx1⟩ : ∃ x, (mHeight d.f n1).1 = x := ⟨_, rfl⟩
  obtain ⟨y, hy1⟩ : ∃ y, (mHeight d.f n1).2 = y := ⟨_, rfl⟩
  rw [hx1] at HHO HEX HDE
  rw [hy1] at HHO HEX
  have k0 := HD.out.cells.k0
  have k1 := HD.out.cells.k1
  have k2 := HD.out.cells.k2
  have k3 := HD.out.cells.k3
  clear hx1 hy1 hb1 hb2 hE hD hw hx hx0 hc hn hl hb0
  go_enter Tryz.func44, Tryz.ntmps44
  replace k0 := fun d os => cell_regrown k0 d os
  replace k1 := fun d os => cell_regrown k1 d os
  replace k2 := fun d os => cell_regrown k2 d os
  replace k3 := fun d os => cell_regrown k3 d os
  replace m0 := fun d os => cell_regrown m0 d os
  go_wp2_with fail
  refine wp_region_quiet_below (by kernel_rfl) (by kernel_rfl) ?_
  repeat (go_big_quiet_step ((go_at_call 97; exact regrown_r (HHO.out _))))
  refine wpQuiet_nil ?_
  intro w' hw'
  obtain ⟨p, rfl⟩ := hw'
  have HB := Lib.hid (below_regrown W p.d p.os)
  generalize (grow (redrawn W p.d) p.os) = W1 at *
  clear k0 k1 k2 k3 m0
  go_wp2_with fail
  refine (show Calls _ _ _ _ _ from HDE.out _ HB.out).mono ?_
  rintro e' W3 ⟨rfl, hb⟩
  have HB3 := Lib.hid (ext_trans HB.out hb)
  clear hb
  go_wp2_with fail
  go_ret2
  exact ExP.said (r := exHeight d n1) HEX.out.1 HEX.out.2 (HD.out.ext HB3.out) (Chg.of_below HB3.out _)
end Go.Proofs.YtfgopboddkhckaaGreatDoor
namespace Go.Proofs.YtfgopboddkhckaaGreatDoor
open Go.ChangeShapes Go.WideShapes Go.ChangeAt Go.RowKit Go.Sort Go.Joins
set_option linter.unusedVariables false
set_option maxRecDepth 100000
theorem exCheck_3 {d : DK} {n a b x : Int} (h : mClash d.wall n = (a, b, x, 3)) : exCheck d n = (d, [bondedT], 0) := by unfold exCheck; rw [h]; rfl
theorem exCheck_y {d : DK} {n a b x y : Int} (h : mClash d.wall n = (a, b, x, y)) (hy : y ≠ 3) : (exCheck d n).2.2 = y ∧ (y = 0 → exCheck d n = (d, [nmT [a, b, x]], 0)) := by
  unfold exCheck; rw [h]
  show (if y = 3 then _ else if y = 0 then _ else _ : DK × List ByteArray × Int).2.2 = y ∧ (y = 0 → (if y = 3 then _ else if y = 0 then _ else _ : DK × List ByteArray × Int) = _)
  rw [if_neg hy]
  by_cases h0 : y = 0
  · rw [if_pos h0]; exact ⟨h0.symm, fun _ => rfl⟩
  · rw [if_neg h0]; exact ⟨rfl, fun h => absurd h h0⟩
theorem clash_bd {l : List ByteArray} {n a b x y : Int} (h : mClash l n = (a, b, x, y)) : (0 ≤ a ∧ a ≤ 1000) ∧ (0 ≤ b ∧ b ≤ 1000) ∧ (0 ≤ x ∧ x ≤ 1000) := by
  by_cases hy : y = 0
  · have := mClash_ok (l := l) (lap := n) (by rw [h]; exact hy)
    rw [h] at this
    exact this
  · unfold mClash at h
    split at h
    · split at h
      · injection h with _ h; injection h with _ h; injection h with _ h
        exact absurd h.symm hy
      · injection h with h1 h; injection h with h2 h; injection h with h3 h
        subst h1 h2 h3
        decide
    · injection h with h1 h; injection h with h2 h; injection h with h3 h
      subst h1 h2 h3
      decide
set_option maxHeartbeats 3200000 in
theorem impl_ex_check (w00 W : World) (q : Nat) (d : DK) (A : Option Addr) (c : Nat) (B : Option Addr) (e : Nat) (hD : DB W w00.heap.size q d A c B e) (hb0 : Below w00.heap.size w00 W) (Aw : Option Addr) (cw : Nat) (l : List ByteArray) (hw : RStr W (.slice Aw l.length cw) l) (hl : l.length = 2) (hx : gd l 0 = cmW .check) (n1 : Int) (An : Option Addr) (cn : Nat) (hn : RI W (.slice An 1 cn) [n1]) (hE : Env w00) (hV : vDK d = true) :
    Calls Tryz.prog 44 #[.pointer (some ⟨q, 0, none⟩), .slice Aw l.length cw, .slice An 1 cn] W (ExP (exCheck d n1) W w00.heap.size q) := by
  have HD := Lib.hid hD
  have HB0 := Lib.hid hb0
  obtain ⟨ad, rfl, _, hc⟩ := hw.at (k := 0) (by omega)
  have w0 := hc 0 (by omega)
  rw [Addr.add_zero'] at w0
  obtain ⟨x0, hx0⟩ : ∃ x, gd l 0 = x := ⟨_, rfl⟩
  rw [hx0] at w0 hx
  have hx0 := hx
  obtain ⟨p0, q0⟩ := lit_neC (x := x0) (l := [102, 111, 114, 109, 97, 116]) (by rw [hx0]; decide)
  obtain ⟨p1, q1⟩ := lit_neC (x := x0) (l := [98, 111, 110, 100]) (by rw [hx0]; decide)
  obtain ⟨p2, q2⟩ := lit_neC (x := x0) (l := [119, 97, 108, 108]) (by rw [hx0]; decide)
  obtain ⟨p3, q3⟩ := lit_neC (x := x0) (l := [115, 104, 111, 119]) (by rw [hx0]; decide)
  have he : x0.toList = [99, 104, 101, 99, 107] := by rw [hx0, ByteArray.toList_eq]; rfl
  obtain ⟨an, rfl, _, hcn⟩ := hn.at2 (k := 0) (by simp)
  have m0 := hcn 0 (by simp)
  rw [Addr.add_zero'] at m0
  replace m0 : W.cell? an = some (.int .i64 n1) := m0
  clear hcn
  have i0 : (0 : Int) < l.length := by omega
  have HLF : Hid (∀ W', Below W.heap.size W W' → LayF W') := Lib.hid fun W' h => (hE.ext (ext_trans hb0 h)).lay
  have hSM := sm_wall (vDK_sm hV)
  have HFC := Lib.hid (fun d2 os => impl_FirstClash B e d.wall n1 (grow (redrawn W d2) os) (hD.own.2.1.rd.ext (below_regrown _ _ _)) hSM)
  obtain ⟨⟨a, b, x, y⟩, hM⟩ : ∃ M, mClash d.wall n1 = M := ⟨_, rfl⟩
  have hbd := clash_bd hM
  have HM := Lib.hid hM
  have HNT : Hid (∀ W' v, RI W' v [a, b, x] → Below W.heap.size W W' → Calls Tryz.prog 93 #[.string ⟨#[32]⟩, v] W' (Ret (.string (nmT [a, b, x])) W')) := Lib.hid fun W' v h hb => impl_numsText 32 v [a, b, x] W' h (by simp) (fun k hk => by
      have hk : k < 3 := hk
      rcases (show k = 0 ∨ k = 1 ∨ k = 2 by omega) with rfl | rfl | rfl
      · show -9223372036854775808 ≤ a ∧ a ≤ 9223372036854775807; omega
      · show -9223372036854775808 ≤ b ∧ b ≤ 9223372036854775807; omega
      · show -9223372036854775808 ≤ x ∧ x ≤ 9223372036854775807; omega) (HLF.out W' hb)
  rw [hM] at HFC
  replace HFC : Hid (∀ d2 os, Calls Tryz.prog 92 #[.slice B d.wall.length e, .int .i64 n1] (grow (redrawn W d2) os) (Ret (.tuple #[.int .i64 a, .int .i64 b, .int .i64 x, .int .i64 y]) (grow (redrawn W d2) os))) := HFC
  have k6 := HD.out.cells.k6
  obtain ⟨sw, hsw⟩ : ∃ v, Value.slice B d.wall.length e = v := ⟨_, rfl⟩
  rw [hsw] at HFC k6
  clear hsw hM hbd hSM hV hE hD hw hx hx0 hc hn hl hb0
  go_enter Tryz.func44, Tryz.ntmps44
  replace k6 := fun d os => cell_regrown k6 d os
  replace m0 := fun d os => cell_regrown m0 d os
  go_wp2_with fail
  refine wp_region_quiet_below (by kernel_rfl) (by kernel_rfl) ?_
  repeat (go_big_quiet_step ((go_at_call 92; exact regrown_r (HFC.out _ _))))
  refine wpQuiet_nil ?_
  intro w' hw'
  obtain ⟨p, rfl⟩ := hw'
  have HB := Lib.hid (below_regrown W p.d p.os)
  generalize (grow (redrawn W p.d) p.os) = W1 at *
  clear k6 m0
  by_cases hy : y = 3
  · subst hy
    have HEX := Lib.hid (exCheck_3 HM.out)
    go_wp2_with fail
    go_ret2
    exact ExP.one (r := exCheck d n1) HEX.out (HD.out.ext HB.out) (Chg.of_below HB.out _)
  · have HEX := Lib.hid (exCheck_y HM.out hy)
    go_wp2_with fail
    refine (show Calls _ _ _ _ _ from HNT.out _ _ (ri3_new W1 a b x) (ext_alloc HB.out _)).mono ?_
    rintro e' W3 ⟨rfl, hb⟩
    have HB3 := Lib.hid (ext_trans (ext_alloc HB.out _) hb)
    clear hb
    go_wp2_with fail
    go_ret2
    exact ExP.said (r := exCheck d n1) HEX.out.1 HEX.out.2 (HD.out.ext HB3.out) (Chg.of_below HB3.out _)
end Go.Proofs.YtfgopboddkhckaaGreatDoor
