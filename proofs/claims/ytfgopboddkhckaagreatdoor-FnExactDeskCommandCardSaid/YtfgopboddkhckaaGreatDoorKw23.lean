/-
  Parts of the proof: Dcf, Ss1, Ss2.
-/
import Derived.Test.YtfgopboddkhckaaGreatDoorKw22
namespace Go.Proofs.YtfgopboddkhckaaGreatDoor
open Go.ChangeShapes Go.WideShapes Go.ChangeAt Go.RowKit Go.Sort Go.Joins
set_option linter.unusedVariables false
set_option maxRecDepth 100000
structure EnvK (w : World) : Prop where
 env : Env w
 lib : LibT w
 cod : CodeT w
theorem EnvK.ext {w w' : World} (h : EnvK w) (hb : Below w.heap.size w w') : EnvK w' := ⟨h.env.ext hb, h.lib.ext hb, h.cod.ext hb⟩
theorem wpList_append_i3 {w0 : World} {ops : Array Oper} {rest : List Oper} {o : Oper} {a : Act} {Q : Exit → Act → World → Prop} (hgd : o.guard = none) (s x : Operand)
   (ho : o.op = .call { callee := .builtin .append, args := #[s, x], argTypes := #[55, 55] })
   (base : Nat) (v : Value) (xs : List Int) (n : Int) (hs : a.eval s = v) (hx : a.eval x = .slice (some ⟨w0.heap.size, 0, none⟩) 1 1) (hO : OI w0 base v xs)
   (hl : xs.length ≤ 1099511627776) (hbase : base ≤ w0.heap.size)
   (h : ∀ g cap w', OI w' base (.slice (some ⟨g, 0, none⟩) (xs.length + 1) cap) (xs ++ [n]) → Chg (BI v) w0 w' → w0.heap.size < w'.heap.size → (BI v g ∨ w0.heap.size ≤ g) → wpList Tryz.prog ops Q rest (a.put o.dst (.slice (some ⟨g, 0, none⟩) (xs.length + 1) cap)) w') :
   wpList Tryz.prog ops Q (o :: rest) a (w0.alloc (.cells #[.int .i64 n] 2)) := by
 obtain ⟨i0, hi, hz0, hz1, hz2⟩ := info_parts info_int
 refine wpList_append_lies _ hgd s x _ ho base 2 i0 (.int .i64 0) 1 8 Tryz.underlying55 hi hz0 hz1 hz2 rfl (by omega) v xs.length (xs.map (Value.int .i64)) hs (World.ownsRow.alloc hO _)
   ⟨w0.heap.size, 0, none⟩ 1 1 [.int .i64 n] hx rfl (cell_one_new _ _ _) (by simp [Value.oneCell']) (by omega) (by unfold maxLen; omega) (by omega) (by simp; omega) (w0.heap.size + 1) (by simp) ?_
 intro g cap w1 hown hgrow hat hlt
 refine h g cap w1 ?_ ((Chg.of_below (ext_alloc1 _ _) _).trans (Chg.of_grown hgrow)) (by have := hgrow.size; simp at this; omega) (hat.elim (fun h => .inl h) fun h => .inr (by omega))
 unfold OI
 simpa using hown
theorem DB.chg {S : Nat → Prop} {W W' : World} {B0 q : Nat} {d : DK} {A : Option Addr} {c : Nat} {B : Option Addr} {e : Nat} (h : DB W B0 q d A c B e) (hc : Chg S W W') (hq : ¬ S q) (h1 : ∀ k, BI (.slice A d.cs.length c) k → ¬ S k) (h2 : ∀ k, BI (.slice B d.wall.length e) k → ¬ S k) : DB W' B0 q d A c B e := by
 obtain ⟨k0, k1, k2, k3, k4, k5, k6, k7⟩ := h.cells
 refine ⟨⟨hc.cell k0 hq, hc.cell k1 hq, hc.cell k2 hq, hc.cell k3 hq, hc.cell k4 hq, hc.cell k5 hq, hc.cell k6 hq, hc.cell k7 hq⟩, ⟨h.own.1.chg hc h1, h.own.2.1.chg hc h2, h.own.2.2⟩, h.fa, h.fb, fun j => ?_, h.ge⟩
 rw [World.frozen?_of_block (hc.block q h.lt hq)]
 exact h.fz j
def RetD (r : DK × List ByteArray × Int) (w : World) : Ending → World → Prop := fun e w' => ∃ dv lv, e = .returned (.tuple #[dv, lv, .int .i64 r.2.2]) ∧ ODK w' w.heap.size dv r.1 ∧ OStr w' w.heap.size lv r.2.1 ∧ (∀ k, BDK dv k → ¬ BI lv k) ∧ Below w.heap.size w w'
structure DC (w W : World) (p r : Nat) (d : DK) (A : Option Addr) (c : Nat) (B : Option Addr) (e : Nat) : Prop where
 b : Below w.heap.size w W
 bx : PDK W p d A c B e
 z0 : W.cell? ⟨r, 0, none⟩ = some (.int .i64 0)
 z1 : W.cell? ⟨r, 1, none⟩ = some (.int .i64 0)
 z2 : W.cell? ⟨r, 2, none⟩ = some (.int .i64 0)
 z3 : W.cell? ⟨r, 3, none⟩ = some (.int .i64 0)
 z4 : W.cell? ⟨r, 4, none⟩ = some (.string ⟨#[]⟩)
 z5 : W.cell? ⟨r, 5, none⟩ = some (.slice none 0 0)
 z6 : W.cell? ⟨r, 6, none⟩ = some (.slice none 0 0)
 z7 : W.cell? ⟨r, 7, none⟩ = some (.string ⟨#[]⟩)
 fz : ∀ j, W.frozen? ⟨r, j, none⟩ = false
 hp : w.heap.size ≤ p
 hpr : p < r
theorem DC.lt {w W : World} {p r : Nat} {d : DK} {A : Option Addr} {c : Nat} {B : Option Addr} {e : Nat} (h : DC w W p r d A c B e) : r < W.heap.size := block_lt_of_cell h.z0
theorem DC.ext {w W W' : World} {p r : Nat} {d : DK} {A : Option Addr} {c : Nat} {B : Option Addr} {e : Nat} (h : DC w W p r d A c B e) (hb : Below W.heap.size W W') : DC w W' p r d A c B e :=
 ⟨ext_trans h.b hb, h.bx.ext hb, cell_keep h.z0 hb, cell_keep h.z1 hb, cell_keep h.z2 hb, cell_keep h.z3 hb, cell_keep h.z4 hb, cell_keep h.z5 hb, cell_keep h.z6 hb, cell_keep h.z7 hb, fun j => by rw [(bcell hb).2 r j h.lt]; exact h.fz j, h.hp, h.hpr⟩
theorem DC.chg {S : Nat → Prop} {w W W' : World} {p r : Nat} {d : DK} {A : Option Addr} {c : Nat} {B : Option Addr} {e : Nat} (h : DC w W p r d A c B e) (hb : Chg S W W') (hS : ∀ k, S k → r < k) : DC w W' p r d A c B e := by
 have hB : Below (r + 1) W W' := hb.below h.lt (fun k hk => hS k hk)
 have hk : ∀ (q j : Nat) (v : Value), q ≤ r → W.cell? ⟨q, j, none⟩ = some v → W'.cell? ⟨q, j, none⟩ = some v := fun q j v hq hc => hb.cell hc (fun hs => by have := hS _ hs; simp at this; omega)
 have h1 := h.hpr
 refine ⟨Chg.ext h.b hb (fun k hk => by have := hS k hk; have := h.hp; omega), ⟨hk _ _ _ (by omega) h.bx.k0, hk _ _ _ (by omega) h.bx.k1, hk _ _ _ (by omega) h.bx.k2, hk _ _ _ (by omega) h.bx.k3, hk _ _ _ (by omega) h.bx.k4, hk _ _ _ (by omega) h.bx.k5, hk _ _ _ (by omega) h.bx.k6, hk _ _ _ (by omega) h.bx.k7⟩, hk _ _ _ (Nat.le_refl _) h.z0, hk _ _ _ (Nat.le_refl _) h.z1, hk _ _ _ (Nat.le_refl _) h.z2, hk _ _ _ (Nat.le_refl _) h.z3, hk _ _ _ (Nat.le_refl _) h.z4, hk _ _ _ (Nat.le_refl _) h.z5, hk _ _ _ (Nat.le_refl _) h.z6, hk _ _ _ (Nat.le_refl _) h.z7, fun j => ?_, h.hp, h.hpr⟩
 rw [hB.frozen (p := ⟨r, j, none⟩) (show r < r + 1 by omega)]
 exact h.fz j
abbrev P8 (W : World) (r : Nat) (x0 x1 x2 x3 x4 x5 x6 x7 : Value) : World := (((((((W.setCell ⟨r, 0, none⟩ x0).setCell ⟨r, 1, none⟩ x1).setCell ⟨r, 2, none⟩ x2).setCell ⟨r, 3, none⟩ x3).setCell ⟨r, 4, none⟩ x4).setCell ⟨r, 5, none⟩ x5).setCell ⟨r, 6, none⟩ x6).setCell ⟨r, 7, none⟩ x7
structure DR (W W2 : World) (r : Nat) (x0 x1 x2 x3 x4 x5 x6 x7 : Value) : Prop where
 c : Chg (fun k => k = r) W W2
 s : W2.heap.size = W.heap.size
 r0 : W2.cell? ⟨r, 0, none⟩ = some x0
 r1 : W2.cell? ⟨r, 1, none⟩ = some x1
 r2 : W2.cell? ⟨r, 2, none⟩ = some x2
 r3 : W2.cell? ⟨r, 3, none⟩ = some x3
 r4 : W2.cell? ⟨r, 4, none⟩ = some x4
 r5 : W2.cell? ⟨r, 5, none⟩ = some x5
 r6 : W2.cell? ⟨r, 6, none⟩ = some x6
 r7 : W2.cell? ⟨r, 7, none⟩ = some x7
theorem chg8 (W : World) (r : Nat) (x0 x1 x2 x3 x4 x5 x6 x7 : Value) : Chg (fun k => k = r) W (P8 W r x0 x1 x2 x3 x4 x5 x6 x7) :=
 (((((((Chg.setCell (S := fun k => k = r) _ (p := ⟨r, 0, none⟩) rfl _).trans (Chg.setCell (S := fun k => k = r) _ (p := ⟨r, 1, none⟩) rfl _)).trans (Chg.setCell (S := fun k => k = r) _ (p := ⟨r, 2, none⟩) rfl _)).trans (Chg.setCell (S := fun k => k = r) _ (p := ⟨r, 3, none⟩) rfl _)).trans (Chg.setCell (S := fun k => k = r) _ (p := ⟨r, 4, none⟩) rfl _)).trans (Chg.setCell (S := fun k => k = r) _ (p := ⟨r, 5, none⟩) rfl _)).trans (Chg.setCell (S := fun k => k = r) _ (p := ⟨r, 6, none⟩) rfl _)).trans (Chg.setCell (S := fun k => k = r) _ (p := ⟨r, 7, none⟩) rfl _)
theorem DC.put {w W : World} {p r : Nat} {d : DK} {A : Option Addr} {c : Nat} {B : Option Addr} {e : Nat} (h : DC w W p r d A c B e) (x0 x1 x2 x3 x4 x5 x6 x7 : Value) : DR W (P8 W r x0 x1 x2 x3 x4 x5 x6 x7) r x0 x1 x2 x3 x4 x5 x6 x7 := by
 obtain ⟨_, _, z0, z1, z2, z3, z4, z5, z6, z7, _, _, _⟩ := h
 exact ⟨chg8 _ _ _ _ _ _ _ _ _ _, by simp, by simp [go_sem, z0], by simp [go_sem, z1], by simp [go_sem, z2], by simp [go_sem, z3], by simp [go_sem, z4], by simp [go_sem, z5], by simp [go_sem, z6], by simp [go_sem, z7]⟩
theorem DR.ret {w W W2 : World} {p r : Nat} {d : DK} {A : Option Addr} {c : Nat} {B : Option Addr} {e : Nat} (hC : DC w W p r d A c B e) {A1 : Option Addr} {c1 : Nat} {B1 : Option Addr} {e1 : Nat} {d1 : DK} {lv : Value} {ls : List ByteArray} {x : DK × List ByteArray × Int} {k : Int} (hx : x = (d1, ls, k))
   (hc : Chg (fun k => k = r) W W2) (ho : ODKp W w.heap.size (.slice A1 d1.cs.length c1) (.slice B1 d1.wall.length e1) d1) (hl : OStr W w.heap.size lv ls) (n1 : ∀ k, BI (.slice A1 d1.cs.length c1) k → k ≠ r) (n2 : ∀ k, BI (.slice B1 d1.wall.length e1) k → k ≠ r) (n3 : ∀ k, BI lv k → k ≠ r ∧ ¬ BI (.slice A1 d1.cs.length c1) k ∧ ¬ BI (.slice B1 d1.wall.length e1) k) :
   RetD x w (.returned (.tuple #[.agg #[.int .i64 d1.f.l, .int .i64 d1.f.w, .int .i64 d1.f.h, .int .i64 d1.f.j, .string d1.nm, .slice A1 d1.cs.length c1, .slice B1 d1.wall.length e1, .string d1.log], lv, .int .i64 k])) W2 := by
 subst hx
 refine ⟨_, _, rfl, ⟨A1, c1, B1, e1, rfl, ?_⟩, hl.chg hc (fun k hk e => (n3 k hk).1 e), fun k hk h2 => ?_, Chg.ext hC.b hc (fun k hk => by subst hk; have := hC.hp; have := hC.hpr; omega)⟩
 · exact ⟨ho.1.chg hc (fun k hk e => n1 k hk e), ho.2.1.chg hc (fun k hk e => n2 k hk e), ho.2.2⟩
 · rcases hk with hk | hk
   · exact (n3 k h2).2.1 hk
   · exact (n3 k h2).2.2 hk
theorem DR.ret2 {w W W2 W3 : World} {p r : Nat} {d : DK} {A : Option Addr} {c : Nat} {B : Option Addr} {e : Nat} (hC : DC w W p r d A c B e) {A1 : Option Addr} {c1 : Nat} {B1 : Option Addr} {e1 : Nat} {d1 : DK} {lv : Value} {ls : List ByteArray} {x : DK × List ByteArray × Int} {k : Int} (hx : x = (d1, ls, k))
   (hc : Chg (fun k => k = r) W W2) (hb : Below W2.heap.size W2 W3) (ho : ODKp W w.heap.size (.slice A1 d1.cs.length c1) (.slice B1 d1.wall.length e1) d1) (hl : OStr W3 w.heap.size lv ls) (n1 : ∀ k, BI (.slice A1 d1.cs.length c1) k → k ≠ r) (n2 : ∀ k, BI (.slice B1 d1.wall.length e1) k → k ≠ r) (n3 : ∀ k, BI lv k → ¬ BI (.slice A1 d1.cs.length c1) k ∧ ¬ BI (.slice B1 d1.wall.length e1) k) :
   RetD x w (.returned (.tuple #[.agg #[.int .i64 d1.f.l, .int .i64 d1.f.w, .int .i64 d1.f.h, .int .i64 d1.f.j, .string d1.nm, .slice A1 d1.cs.length c1, .slice B1 d1.wall.length e1, .string d1.log], lv, .int .i64 k])) W3 := by
 subst hx
 refine ⟨_, _, rfl, ⟨A1, c1, B1, e1, rfl, ?_⟩, hl, fun k hk h2 => ?_, ext_trans (Chg.ext hC.b hc (fun k hk => by subst hk; have := hC.hp; have := hC.hpr; omega)) hb⟩
 · exact ⟨(ho.1.chg hc (fun k hk e => n1 k hk e)).ext hb, (ho.2.1.chg hc (fun k hk e => n2 k hk e)).ext hb, ho.2.2⟩
 · rcases hk with hk | hk
   · exact (n3 k h2).1 hk
   · exact (n3 k h2).2 hk
theorem DB.mono {W : World} {B0 B1 q : Nat} {d : DK} {A : Option Addr} {c : Nat} {B : Option Addr} {e : Nat} (h : DB W B0 q d A c B e) (hb : B1 ≤ B0) : DB W B1 q d A c B e := ⟨h.cells, h.own.mono hb, h.fa, h.fb, h.fz, Nat.le_trans hb h.ge⟩
theorem nmL_yes {c : CM} {l : List ByteArray} {k : Nat} (h : gd (cmF c) k = true) : nmL c l (k + 1) = nmL c l k ++ [num1 l (k + 1)] := if_pos h
theorem bi_nil {k n c : Nat} (h : BI (.slice none n c) k) : False := by cases h
theorem DR.nil {w W W2 : World} {p r : Nat} {d : DK} {A : Option Addr} {c : Nat} {B : Option Addr} {e : Nat} (hC : DC w W p r d A c B e) {x : DK × List ByteArray × Int} {k : Int} (hx : x = (default, [], k)) (hc : Chg (fun k => k = r) W W2) :
   RetD x w (.returned (.tuple #[.agg #[.int .i64 0, .int .i64 0, .int .i64 0, .int .i64 0, .string ⟨#[]⟩, .slice none 0 0, .slice none 0 0, .string ⟨#[]⟩], .slice none 0 0, .int .i64 k])) W2 :=
 DR.ret hC (d1 := default) (A1 := none) (c1 := 0) (B1 := none) (e1 := 0) hx hc ⟨World.ownsRow_nil _ _ _ _, World.ownsRow_nil _ _ _ _, fun k h => (bi_nil h).elim⟩ (World.ownsRow_nil _ _ _ _) (fun k h => (bi_nil h).elim) (fun k h => (bi_nil h).elim) (fun k h => (bi_nil h).elim)
theorem impl_DW (w : World) : Calls Tryz.prog 40 #[] w (fun e w' => e = .returned (.slice (some ⟨w.heap.size, 0, none⟩) 11 11) ∧ w' = w.alloc (.cells dwC 9)) := by
 unfold dwC dwL
 go_enter Tryz.func40, Tryz.ntmps40
 go_wp2_with fail
 go_ret
 exact ⟨rfl, rfl⟩
theorem dw_cells (w : World) (j : Nat) (hj : j < dwL.length) : (w.alloc (.cells dwC 9)).cell? ⟨w.heap.size, 0 + j, none⟩ = some (.string (dwL.getD j ByteArray.empty)) := by
 rw [Nat.zero_add, World.cell?_alloc_at _ _ _ _ rfl]
 unfold dwC
 rw [List.getElem?_toArray, List.getElem?_map, List.getElem?_eq_getElem hj, List.getD_eq_getElem?_getD, List.getElem?_eq_getElem hj]
 rfl
theorem impl_has (w : World) (x : ByteArray) : Calls Tryz.prog 39 #[.slice (some ⟨w.heap.size, 0, none⟩) 11 11, .string x] (w.alloc (.cells dwC 9)).drew (fun e w' => e = .returned (.bool (cmOf x).isSome) ∧ w' = (w.alloc (.cells dwC 9)).drew) := by
 have h := Tryz.slices_Contains_string w.heap.size 0 11 11 dwL x (w.alloc (.cells dwC 9)).drew (Nat.le_refl _) (by omega) (fun j hj => by rw [← dw_cells w j hj]; rfl)
 rwa [con_dw] at h
theorem wpList_append_str4 {w0 : World} {ops : Array Oper} {rest : List Oper} {o : Oper} {a : Act} {Q : Exit → Act → World → Prop} (hgd : o.guard = none) (s x : Operand)
   (ho : o.op = .call { callee := .builtin .append, args := #[s, x], argTypes := #[29, 29] })
   (base : Nat) (v : Value) (l : List ByteArray) (n : ByteArray) (hs : a.eval s = v) (hx : a.eval x = .slice (some ⟨w0.heap.size, 0, none⟩) 1 1) (hO : OStr w0 base v l)
   (hl : l.length ≤ 1099511627776) (hbase : base ≤ w0.heap.size)
   (h : ∀ g cap w', OStr w' base (.slice (some ⟨g, 0, none⟩) (l.length + 1) cap) (l ++ [n]) → Chg (BI v) w0 w' → w0.heap.size < w'.heap.size → (BI v g ∨ w0.heap.size ≤ g) → wpList Tryz.prog ops Q rest (a.put o.dst (.slice (some ⟨g, 0, none⟩) (l.length + 1) cap)) w') :
   wpList Tryz.prog ops Q (o :: rest) a (w0.alloc (.cells #[.string n] 9)) := by
 obtain ⟨i0, hi, hz0, hz1, hz2⟩ := info_parts info_str
 refine wpList_append_lies _ hgd s x _ ho base 9 i0 (.string ⟨#[]⟩) 1 16 Tryz.underlying29 hi hz0 hz1 hz2 rfl (by omega) v l.length (l.map Value.string) hs (World.ownsRow.alloc hO _)
   ⟨w0.heap.size, 0, none⟩ 1 1 [.string n] hx rfl (cell_one_new _ _ _) (by simp [Value.oneCell']) (by omega) (by unfold maxLen; omega) (by omega) (by simp; omega) (w0.heap.size + 1) (by simp) ?_
 intro g cap w1 hown hgrow hat hlt
 refine h g cap w1 ?_ ((Chg.of_below (ext_alloc1 _ _) _).trans (Chg.of_grown hgrow)) (by have := hgrow.size; simp at this; omega) (hat.elim (fun h => .inl h) fun h => .inr (by omega))
 unfold OStr
 simpa using hown
theorem wpList_append_rs4 {w : World} {ops : Array Oper} {rest : List Oper} {o : Oper} {a : Act} {Q : Exit → Act → World → Prop} (hgd : o.guard = none) (s x : Operand)
   (ho : o.op = .call { callee := .builtin .append, args := #[s, x], argTypes := #[29, 29] })
   (base : Nat) (v v2 : Value) (xs ys : List ByteArray) (hs : a.eval s = v) (hx : a.eval x = v2) (hO : OStr w base v xs) (hR : RStr w v2 ys)
   (hl : xs.length ≤ 1099511627776) (hl2 : ys.length ≤ 1099511627776) (hbase : base ≤ w.heap.size)
   (h : ∀ A c w', OStr w' base (.slice A (xs.length + ys.length) c) (xs ++ ys) → Chg (BI v) w w' → (∀ j, BI (.slice A (xs.length + ys.length) c) j → BI v j ∨ w.heap.size ≤ j) → wpList Tryz.prog ops Q rest (a.put o.dst (.slice A (xs.length + ys.length) c)) w') : wpList Tryz.prog ops Q (o :: rest) a w := by
 obtain ⟨i0, hi, hz0, hz1, hz2⟩ := info_parts info_str
 have hR' := hR
 obtain ⟨_, A, c, rfl, _⟩ := hR'
 refine wpList_append_rd hgd s x _ ho base 9 i0 (.string ⟨#[]⟩) 1 16 Tryz.underlying29 hi hz0 hz1 hz2 rfl (by omega) v xs.length (xs.map Value.string) hs hO A ys.length c (ys.map Value.string) hx hR (by simp [Value.oneCell']) (by unfold maxLen; omega) (by omega) hbase ?_
 intro v' w' hown hgrow hat
 have hO' : OStr w' base v' (xs ++ ys) := by unfold OStr; simpa using hown
 have hO2 := hO'
 obtain ⟨_, A', c', rfl, _⟩ := hO2.rd
 simp only [List.length_append] at hO' hat ⊢
 refine h A' c' w' hO' (Chg.of_grown hgrow) fun j hj => ?_
 rcases hat with hat | hat
 · left; unfold BI at *; rw [hat] at hj; exact hj
 · right; unfold BI at hj; rw [hat] at hj; obtain rfl := Option.some.inj hj; exact Nat.le_refl _
structure SX (W : World) (B0 q : Nat) (d : DK) (A : Option Addr) (c : Nat) (B : Option Addr) (e : Nat) (O : Option Addr) (co : Nat) (out : List ByteArray) (N T : Value) : Prop where
 bx : DB W B0 q d A c B e
 k8 : W.cell? ⟨q, 8, none⟩ = some (.slice O out.length co)
 k9 : W.cell? ⟨q, 9, none⟩ = some N
 k10 : W.cell? ⟨q, 10, none⟩ = some T
 own : OStr W B0 (.slice O out.length co) out
 ap : ∀ j, BI (.slice O out.length co) j → j ≠ q ∧ ¬ BI (.slice A d.cs.length c) j ∧ ¬ BI (.slice B d.wall.length e) j
section
variable {W W' : World} {B0 q : Nat} {d : DK} {A : Option Addr} {c : Nat} {B : Option Addr} {e : Nat} {O : Option Addr} {co : Nat} {out : List ByteArray} {N T : Value}
theorem SX.lt (h : SX W B0 q d A c B e O co out N T) : q < W.heap.size := h.bx.lt
theorem SX.ext (h : SX W B0 q d A c B e O co out N T) (hb : Below W.heap.size W W') : SX W' B0 q d A c B e O co out N T :=
 ⟨h.bx.ext hb, cell_keep h.k8 hb, cell_keep h.k9 hb, cell_keep h.k10 hb, h.own.ext hb, h.ap⟩
theorem PDK.to {p : Nat} (h : PDK W p d A c B e) {W' : World} (hk : ∀ j v, j < 8 → W.cell? ⟨p, j, none⟩ = some v → W'.cell? ⟨p, j, none⟩ = some v) : PDK W' p d A c B e :=
 ⟨hk _ _ (by omega) h.k0, hk _ _ (by omega) h.k1, hk _ _ (by omega) h.k2, hk _ _ (by omega) h.k3, hk _ _ (by omega) h.k4, hk _ _ (by omega) h.k5, hk _ _ (by omega) h.k6, hk _ _ (by omega) h.k7⟩
theorem SX.put8 (h : SX W B0 q d A c B e O co out N T) {W' : World} (hc : Chg (BI (.slice O out.length co)) W W') {O' : Option Addr} {co' : Nat} {out' : List ByteArray} (hO : OStr W' B0 (.slice O' out'.length co') out')
   (hg : ∀ j, BI (.slice O' out'.length co') j → BI (.slice O out.length co) j ∨ W.heap.size ≤ j) : SX (W'.setCell ⟨q, 8, none⟩ (.slice O' out'.length co')) B0 q d A c B e O' co' out' N T := by
 have hq : ¬ BI (.slice O out.length co) q := fun hh => (h.ap q hh).1 rfl
 have hlt := h.lt
 have hfar : ∀ j, BI (.slice O' out'.length co') j → j ≠ q ∧ ¬ BI (.slice A d.cs.length c) j ∧ ¬ BI (.slice B d.wall.length e) j := fun j hj => by
   rcases hg j hj with h1 | h1
   · exact h.ap j h1
   · exact ⟨by omega, fun hk => by have := (h.bx.own.1.ge j hk).2; omega, fun hk => by have := (h.bx.own.2.1.ge j hk).2; omega⟩
 have hA : ∀ k, BI (.slice A d.cs.length c) k → ¬ BI (.slice O out.length co) k := fun k hk h2 => (h.ap k h2).2.1 hk
 have hB : ∀ k, BI (.slice B d.wall.length e) k → ¬ BI (.slice O out.length co) k := fun k hk h2 => (h.ap k h2).2.2 hk
 have hD := h.bx.chg hc hq hA hB
 have hs : Chg (fun k => k = q) W' (W'.setCell ⟨q, 8, none⟩ (.slice O' out'.length co')) := Chg.setCell (S := fun k => k = q) _ (p := ⟨q, 8, none⟩) rfl _
 have k9 := hc.cell h.k9 hq
 have k10 := hc.cell h.k10 hq
 have k8 := hc.cell h.k8 hq
 have hne : ∀ j, j < 8 → (⟨q, j, none⟩ : Addr) ≠ ⟨q, 8, none⟩ := fun j hj e => by injection e with _ e2; omega
 have hP : PDK (W'.setCell ⟨q, 8, none⟩ (.slice O' out'.length co')) q d A c B e := hD.cells.to fun j v hj hv => (World.cell?_setCell_other _ _ _ _ (fun e => hne j hj e.symm)).trans hv
 have hDB : DB (W'.setCell ⟨q, 8, none⟩ (.slice O' out'.length co')) B0 q d A c B e := ⟨hP, ⟨hD.own.1.chg hs (fun k hk => hD.fa k hk), hD.own.2.1.chg hs (fun k hk => hD.fb k hk), hD.own.2.2⟩, hD.fa, hD.fb, fun j => by rw [World.frozen?_setCell]; exact hD.fz j, hD.ge⟩
 have h9 : (W'.setCell ⟨q, 8, none⟩ (.slice O' out'.length co')).cell? ⟨q, 9, none⟩ = some N := (World.cell?_setCell_other _ _ _ _ (by simp)).trans k9
 have h10 : (W'.setCell ⟨q, 8, none⟩ (.slice O' out'.length co')).cell? ⟨q, 10, none⟩ = some T := (World.cell?_setCell_other _ _ _ _ (by simp)).trans k10
 have h8 : (W'.setCell ⟨q, 8, none⟩ (.slice O' out'.length co')).cell? ⟨q, 8, none⟩ = some (.slice O' out'.length co') := World.cell?_setCell_same _ _ _ k8
 have h5 : OStr (W'.setCell ⟨q, 8, none⟩ (.slice O' out'.length co')) B0 (.slice O' out'.length co') out' := hO.chg hs (fun k hk => (hfar k hk).1)
 exact ⟨hDB, h8, h9, h10, h5, hfar⟩
end
def SP (W : World) (B0 q : Nat) (O : Option Addr) (n co : Nat) (d : DK) (out : List ByteArray) (N T : Value) : World → Prop := fun W' => ∃ A c B e O' co', SX W' B0 q d A c B e O' co' out N T ∧ Chg (fun k => k = q ∨ BI (.slice O n co) k) W W' ∧ (∀ j, BI (.slice O' out.length co') j → BI (.slice O n co) j ∨ W.heap.size ≤ j)
theorem SP.pre {W W1 W' : World} {B0 q : Nat} {O : Option Addr} {n co : Nat} {d : DK} {out : List ByteArray} {N T : Value} (h : SP W1 B0 q O n co d out N T W') (hc : Chg (fun k => k = q) W W1) : SP W B0 q O n co d out N T W' := by
 obtain ⟨A, c, B, e, O', co', h1, h2, h3⟩ := h
 have hs := hc.size
 exact ⟨A, c, B, e, O', co', h1, (hc.mono (fun k hk => .inl hk)).trans h2, fun j hj => (h3 j hj).imp id fun h => by omega⟩
set_option maxHeartbeats 1600000 in
theorem spec_say (W : World) (B0 q : Nat) (d : DK) (A : Option Addr) (c : Nat) (B : Option Addr) (e : Nat) (O : Option Addr) (co : Nat) (out : List ByteArray) (N T : Value) (h : SX W B0 q d A c B e O co out N T) (t : ByteArray) (hl : out.length ≤ 1073741824) :
   Calls Tryz.prog 27 #[.pointer (some ⟨q, 0, none⟩), .string t] W (fun e' W' => e' = .returned (.tuple #[]) ∧ SP W B0 q O out.length co d (out ++ [t]) N T W') := by
 have HX := Lib.hid h
 have hlt := h.lt
 have k8 := h.k8
 have hfz := h.bx.fz 8
 have hge : B0 ≤ W.heap.size := by have := h.bx.ge; omega
 clear h
 go_enter Tryz.func27, Tryz.ntmps27
 go_wp2_with (at_builtin; refine wpList_append_str4 rfl _ _ rfl B0 (.slice O out.length co) out t rfl rfl HX.out.own (by omega) hge ?_; intro g cap w' hO hc hlt2 hg; (have k8' := hc.cell k8 (fun hh => (HX.out.ap q hh).1 rfl)); (have hfz' : w'.frozen? ⟨q, 8, none⟩ = false := by rw [World.frozen?_of_block (hc.block q hlt (fun hh => (HX.out.ap q hh).1 rfl))]; exact hfz))
 refine bodyPost_end (v := .tuple #[]) (by simp [results, Tryz.results27, go_sem]) rfl ?_
 refine ⟨rfl, A, c, B, e, some ⟨g, 0, none⟩, cap, ?_⟩
 have hO2 : OStr w' B0 (.slice (some ⟨g, 0, none⟩) (out ++ [t]).length cap) (out ++ [t]) := by rw [List.length_append]; exact hO
 have hgj : ∀ j, BI (.slice (some ⟨g, 0, none⟩) (out ++ [t]).length cap) j → BI (.slice O out.length co) j ∨ W.heap.size ≤ j := fun j hj => by obtain rfl : g = j := Option.some.inj hj; exact hg
 have hX := HX.out.put8 hc hO2 hgj
 rw [List.length_append] at hX
 refine ⟨hX, (hc.mono fun k hk => .inr hk).trans (Chg.setCell (S := fun k => k = q ∨ BI (.slice O out.length co) k) _ (p := ⟨q, 8, none⟩) (.inl rfl) _), hgj⟩
set_option maxHeartbeats 1600000 in
theorem spec_report0 (W : World) (p : Value) : Calls Tryz.prog 25 #[p, .int .i64 0] W (fun e' W' => e' = .returned (.bool false) ∧ W' = W) := by
 go_enter Tryz.func25, Tryz.ntmps25
 go_wp2_with fail
 go_ret
 exact ⟨rfl, rfl⟩
theorem spec_report1 (W : World) (B0 q : Nat) (d : DK) (A : Option Addr) (c : Nat) (B : Option Addr) (e : Nat) (O : Option Addr) (co : Nat) (out : List ByteArray) (N T : Value) (h : SX W B0 q d A c B e O co out N T) (x : Int) (hx : x ≠ 0) (h0 : 0 ≤ x) (h1 : x ≤ 10) (hl : out.length ≤ 1073741824) :
   Calls Tryz.prog 25 #[.pointer (some ⟨q, 0, none⟩), .int .i64 x] W (fun e' W' => e' = .returned (.bool true) ∧ SP W B0 q O out.length co d (out ++ [erT x]) N T W') := by
 have HX := Lib.hid h
 have HCN := Lib.hid (fun W => spec_CodeName x h0 h1 W)
 have hb : (x == 0) = false := by simpa using hx
 have hcz := cnT_size x
 have c1 : ¬ 9223372036854775807 < 6 + (cnT x).size := by omega
 have HER : Hid (erT x = ⟨#[101, 114, 114, 111, 114, 32]⟩ ++ cnT x) := Lib.hid rfl
 obtain ⟨ct, hct⟩ : ∃ y, cnT x = y := ⟨_, rfl⟩
 rw [hct] at HCN c1 HER
 clear hct hcz h
 go_enter Tryz.func25, Tryz.ntmps25
 go_wp2_with fail
 refine (show Calls _ _ _ _ _ from HCN.out _).mono ?_
 rintro e' w1 ⟨rfl, hb1⟩
 have hX1 := HX.out.ext hb1
 have HS := Lib.hid (spec_say w1 B0 q d A c B e O co out N T hX1 (erT x) hl)
 rw [HER.out] at HS
 have HB1 := Lib.hid hb1
 clear hX1 hb1
 go_wp2_with fail
 refine (show Calls _ _ _ _ _ from HS.out).mono ?_
 rintro e' w2 ⟨rfl, hp⟩
 have HP := Lib.hid (hp.pre (Chg.of_below HB1.out _))
 clear hp
 go_wp2_with fail
 go_ret
 exact ⟨rfl, by rw [HER.out]; exact HP.out⟩
end Go.Proofs.YtfgopboddkhckaaGreatDoor
namespace Go.Proofs.YtfgopboddkhckaaGreatDoor
open Go.ChangeShapes Go.WideShapes Go.ChangeAt Go.RowKit Go.Sort Go.Joins
set_option linter.unusedVariables false
set_option maxRecDepth 100000
theorem chg_more {S S' : Nat → Prop} {w a b : World} (h : Chg S w a) (k : Chg S' a b) (hS : ∀ j, S' j → S j ∨ w.heap.size ≤ j) : Chg S w b :=
 ⟨k.os.trans h.os, k.tape.trans h.tape, k.output.trans h.output, Nat.le_trans h.size k.size, fun i hi hn => (k.block i (Nat.lt_of_lt_of_le hi h.size) (fun hs => (hS i hs).elim hn (fun h2 => by omega))).trans (h.block i hi hn)⟩
theorem SP.of {W W1 W' : World} {B0 q : Nat} {O O1 : Option Addr} {n co n1 co1 : Nat} {d : DK} {out : List ByteArray} {N T : Value} (h : SP W1 B0 q O1 n1 co1 d out N T W') (hc : Chg (fun k => k = q ∨ BI (.slice O n co) k) W W1)
   (ha : ∀ j, BI (.slice O1 n1 co1) j → BI (.slice O n co) j ∨ W.heap.size ≤ j) : SP W B0 q O n co d out N T W' := by
 obtain ⟨A, c, B, e, O', co', h1, h2, h3⟩ := h
 have hs := hc.size
 refine ⟨A, c, B, e, O', co', h1, chg_more hc h2 fun j hj => ?_, fun j hj => ?_⟩
 · rcases hj with hj | hj
   · exact .inl (.inl hj)
   · exact (ha j hj).imp (fun h => .inr h) id
 · rcases h3 j hj with h4 | h4
   · exact ha j h4
   · right; omega
theorem SP.low {W W1 W' : World} {B0 q : Nat} {O : Option Addr} {n co : Nat} {d : DK} {out : List ByteArray} {N T : Value} (h : SP W1 B0 q O n co d out N T W') (hb : Below W.heap.size W W1) : SP W B0 q O n co d out N T W' := h.pre (Chg.of_below hb _)
/-! ### Numbers between blanks -/
theorem take_succ_gi {xs : List Int} {k : Nat} (h : k < xs.length) : xs.take (k + 1) = xs.take k ++ [gi xs k] := by
 rw [List.take_add_one, List.getElem?_eq_getElem h]
 unfold gi
 rw [List.getD_eq_getElem?_getD, List.getElem?_eq_getElem h]
 rfl
theorem nmT_one (n : Int) : nmT [n] = itb n := rfl
theorem nmT_snoc {xs : List Int} (h : xs ≠ []) (n : Int) : nmT (xs ++ [n]) = nmT xs ++ ⟨#[32]⟩ ++ itb n := by
 unfold nmT
 rw [List.map_append, List.map_singleton, jnL_snoc 32 _ _ (by simpa using h)]
 apply ba_ext
 simp [bsq, itb]
set_option maxHeartbeats 1600000 in
theorem spec_list (W : World) (B0 q : Nat) (d : DK) (A : Option Addr) (c : Nat) (B : Option Addr) (e : Nat) (O : Option Addr) (co : Nat) (out : List ByteArray) (N T : Value) (h : SX W B0 q d A c B e O co out N T) (Al : Option Addr) (cl : Nat) (ls : List ByteArray) (hR : RStr W (.slice Al ls.length cl) ls) (hl : out.length ≤ 1000000000) (hls : ls.length ≤ 1048576) :
   Calls Tryz.prog 127 #[.pointer (some ⟨q, 0, none⟩), .slice Al ls.length cl] W (fun e' W' => e' = .returned (.tuple #[]) ∧ SP W B0 q O out.length co d (out ++ (ls ++ [okT ls.length])) N T W') := by
 have HX := Lib.hid h
 have HR := Lib.hid hR
 have hlt := h.lt
 have k8 := h.k8
 have hfz := h.bx.fz 8
 have hge : B0 ≤ W.heap.size := by have := h.bx.ge; omega
 have hz := itb_size ls.length (by omega) (by omega)
 have c1 : ¬ 9223372036854775807 < 3 + (itb ls.length).size := by omega
 have HOK : Hid (okT ls.length = ⟨#[111, 107, 32]⟩ ++ itb ls.length) := Lib.hid rfl
 have HD := Lib.hid (fun w => spec_Dec ls.length (by omega) (by omega) w)
 obtain ⟨tx, htx⟩ : ∃ x, itb ls.length = x := ⟨_, rfl⟩
 rw [htx] at HOK HD c1
 clear h hR hz htx
 go_enter Tryz.func127, Tryz.ntmps127
 go_wp2_with (at_builtin; refine wpList_append_rs4 rfl _ _ rfl B0 (.slice O out.length co) (.slice Al ls.length cl) out ls rfl rfl HX.out.own HR.out (by omega) (by omega) hge ?_; intro A1 c1 w' hO hc hg; (have k8' := hc.cell k8 (fun hh => (HX.out.ap q hh).1 rfl)); (have hfz' : w'.frozen? ⟨q, 8, none⟩ = false := by rw [World.frozen?_of_block (hc.block q hlt (fun hh => (HX.out.ap q hh).1 rfl))]; exact hfz))
 have hO2 : OStr w' B0 (.slice A1 (out ++ ls).length c1) (out ++ ls) := by rw [List.length_append]; exact hO
 have hgj : ∀ j, BI (.slice A1 (out ++ ls).length c1) j → BI (.slice O out.length co) j ∨ W.heap.size ≤ j := by rw [List.length_append]; exact hg
 have HX2 := Lib.hid (HX.out.put8 hc hO2 hgj)
 have HC2 := Lib.hid ((hc.mono fun k hk => Or.inr hk).trans (Chg.setCell (S := fun k => k = q ∨ BI (.slice O out.length co) k) _ (p := ⟨q, 8, none⟩) (.inl rfl) (.slice A1 (out ++ ls).length c1)))
 have HG2 := Lib.hid hgj
 have hle : (out ++ ls).length = out.length + ls.length := List.length_append
 have HS := Lib.hid (fun w1 (hb : Below _ _ w1) => spec_say w1 B0 q d A c B e A1 c1 (out ++ ls) N T (HX2.out.ext hb) (okT ls.length) (by omega))
 rw [hle] at HX2 HC2 HG2 HS
 rw [HOK.out] at HS
 clear hle hO2 hgj hO hc hg k8 k8' hfz hfz'
 refine (show Calls _ _ _ _ _ from HD.out _).mono ?_
 rintro e' w2 ⟨rfl, hb2⟩
 have HB2 := Lib.hid hb2
 clear hb2
 go_wp2_with fail
 refine (show Calls _ _ _ _ _ from HS.out _ HB2.out).mono ?_
 rintro e' w3 ⟨rfl, hp⟩
 have HP := Lib.hid ((hp.low HB2.out).of HC2.out HG2.out)
 clear hp
 go_wp2_with fail
 refine bodyPost_end (v := .tuple #[]) (by simp [results, Tryz.results127, go_sem]) rfl ⟨rfl, ?_⟩
 rw [HOK.out, ← List.append_assoc]
 exact HP.out
set_option maxHeartbeats 1600000 in
theorem spec_row (W : World) (B0 q : Nat) (d : DK) (A : Option Addr) (c : Nat) (B : Option Addr) (e : Nat) (O : Option Addr) (co : Nat) (out : List ByteArray) (N T : Value) (h : SX W B0 q d A c B e O co out N T) (Al : Option Addr) (cl : Nat) (xs : List Int) (hR : RI W (.slice Al xs.length cl) xs) (hl : out.length ≤ 1000000000) (hls : xs.length ≤ 1048576) (hx : ∀ k, k < xs.length → -9223372036854775808 ≤ gi xs k ∧ gi xs k ≤ 9223372036854775807) :
   Calls Tryz.prog 117 #[.pointer (some ⟨q, 0, none⟩), .slice Al xs.length cl] W (fun e' W' => e' = .returned (.tuple #[]) ∧ SP W B0 q O out.length co d (out ++ [nmT xs]) N T W') := by
 have HX := Lib.hid h
 have HR := Lib.hid hR
 have HXB := Lib.hid hx
 have HZ : Hid (∀ k, k ≤ xs.length → (nmT (xs.take k)).size ≤ 21 * xs.length) := Lib.hid fun k hk => by
   have h1 := nmT_size (xs := xs.take k) (fun x hx2 => by
     obtain ⟨j, hj, e⟩ := List.getElem_of_mem (List.mem_of_mem_take hx2)
     have := hx j hj
     have e2 : gi xs j = x := by unfold gi; rw [List.getD_eq_getElem?_getD, List.getElem?_eq_getElem hj, ← e]; rfl
     omega)
   have h2 : (xs.take k).length ≤ xs.length := by rw [List.length_take]; omega
   have h3 : 21 * (xs.take k).length ≤ 21 * xs.length := Nat.mul_le_mul_left _ h2
   omega
 clear h hR hx
 go_enter Tryz.func117, Tryz.ntmps117
 go_wp2_with fail
 go_loopw [4, 5] (fun u i wr => ∃ (k : Nat) (acc : ByteArray), k ≤ xs.length ∧ i = .int .i64 k ∧ u = .string acc ∧ Hid (acc = nmT (xs.take k)) ∧ Hid (Below W.heap.size W wr)) (fun _ i _ => xs.length - (intOf i).toNat)
 case atStart => exact ⟨0, ⟨#[]⟩, Nat.zero_le _, rfl, rfl, Lib.hid rfl, Lib.hid (ext_refl _)⟩
 case round =>
   obtain ⟨k, acc, hk, rfl, rfl, HACC, HB⟩ := hrel
   have e1 : (0 : Int) ≤ k := by omega
   by_cases hlt : k < xs.length
   · have e2 : (k : Int) < xs.length := by omega
     obtain ⟨ad, rfl, _, hc⟩ := (HR.out.ext HB.out).at2 hlt
     have wl := hc k hlt
     have hb1 := HXB.out k hlt
     have hz1 := HZ.out k hk
     rw [← HACC.out] at hz1
     obtain ⟨x, hxk⟩ : ∃ x, gi xs k = x := ⟨_, rfl⟩
     have HXK : Hid (xs.take (k + 1) = xs.take k ++ [x]) := Lib.hid (by rw [← hxk]; exact take_succ_gi hlt)
     rw [hxk] at wl hb1
     have HD := Lib.hid (fun w => spec_Dec x hb1.1 hb1.2 w)
     have hzx := itb_size x hb1.1 hb1.2
     obtain ⟨tx, htx⟩ : ∃ y, itb x = y := ⟨_, rfl⟩
     have HTX := Lib.hid htx
     rw [htx] at HD hzx
     clear htx hc hb1 hxk
     by_cases hk0 : k = 0
     · have HNEW : Hid (acc ++ tx = nmT (xs.take (k + 1))) := Lib.hid (by
         rw [HXK.out, HACC.out, hk0, List.take_zero, List.nil_append, nmT_one, ← HTX.out]
         apply ba_ext; rfl)
       have e3 : ¬ (0 : Int) < k := by omega
       have c1 : ¬ 9223372036854775807 < acc.size + tx.size := by omega
       clear hk0 hz1 hzx
       go_wp2_with fail
       refine (show Calls _ _ _ _ _ from HD.out _).mono ?_
       rintro e' w2 ⟨rfl, hb2⟩
       have HB2 := Lib.hid (ext_trans HB.out hb2)
       clear hb2
       go_wp2_with fail
       go_roundw
       case rel => exact ⟨k + 1, acc ++ tx, hlt, by go_num, rfl, HNEW, HB2⟩
       case measure => simp [intOf]; omega
     · have HNEW : Hid (acc ++ ⟨#[32]⟩ ++ tx = nmT (xs.take (k + 1))) := Lib.hid (by
         rw [HXK.out, HACC.out, nmT_snoc (by intro h; have := congrArg List.length h; rw [List.length_take, List.length_nil] at this; omega), ← HTX.out])
       have e3 : (0 : Int) < k := by omega
       have c0 : ¬ 9223372036854775807 < acc.size + 1 := by omega
       have c1 : ¬ 9223372036854775807 < acc.size + 1 + tx.size := by omega
       clear hk0 hz1 hzx
       go_wp2_with fail
       refine (show Calls _ _ _ _ _ from HD.out _).mono ?_
       rintro e' w2 ⟨rfl, hb2⟩
       have HB2 := Lib.hid (ext_trans HB.out hb2)
       clear hb2
       go_wp2_with fail
       go_roundw
       case rel => exact ⟨k + 1, acc ++ ⟨#[32]⟩ ++ tx, hlt, by go_num, rfl, HNEW, HB2⟩
       case measure => simp [intOf]; omega
   · have e2 : ¬ (k : Int) < xs.length := by omega
     have HF : Hid (acc = nmT xs) := Lib.hid (by have : k = xs.length := by omega
                                                 rw [HACC.out, this, List.take_length])
     have HS := Lib.hid (fun w1 (hb : Below _ _ w1) => spec_say w1 B0 q d A c B e O co out N T (HX.out.ext hb) acc (by omega))
     go_wp2_with fail
     refine (show Calls _ _ _ _ _ from HS.out _ HB.out).mono ?_
     rintro e' w3 ⟨rfl, hp⟩
     have HP := Lib.hid (hp.low HB.out)
     clear hp
     go_wp2_with fail
     refine bodyPost_end (v := .tuple #[]) (by simp [results, Tryz.results117, go_sem]) rfl ⟨rfl, ?_⟩
     rw [← HF.out]
     exact HP.out
end Go.Proofs.YtfgopboddkhckaaGreatDoor
