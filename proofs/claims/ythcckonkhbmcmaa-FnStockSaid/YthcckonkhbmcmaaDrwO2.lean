/-
  Drawn orders, second part: l25Spoil, l25Draw, l25Bent, l25DrawStock, l25Each.
-/
import Derived.Test.YthcckonkhbmcmaaDrwO
import Derived.Test.YthcckonkhbmcmaaOrdR
namespace Go.Proofs.Ythcckonkhbmcmaa
open Go.ChangeShapes Go.WideShapes Go.ChangeAt Go.RowKit Go.Sort
set_option linter.unusedVariables false
set_option maxRecDepth 100000

/-- Five cells from p on, none frozen. -/
structure F5 (w : World) (g k : Nat) (o : OD) : Prop where
  c0 : w.cell? ⟨g, k, none⟩ = some (.int .i64 o.id)
  c1 : w.cell? ⟨g, k + 1, none⟩ = some (.string o.cu)
  c2 : w.cell? ⟨g, k + 2, none⟩ = some (.int .i64 o.br)
  c3 : w.cell? ⟨g, k + 3, none⟩ = some (.int .i64 o.due)
  c4 : w.cell? ⟨g, k + 4, none⟩ = some (.int .i64 o.sent)
  f : ∀ i, w.frozen? ⟨g, i, none⟩ = false
theorem F5.chg {S : Nat → Prop} {w w' : World} {g k : Nat} {o : OD} (h : F5 w g k o) (hc : Chg S w w') (hp : ¬ S g) : F5 w' g k o :=
  ⟨hc.cell h.c0 hp, hc.cell h.c1 hp, hc.cell h.c2 hp, hc.cell h.c3 hp, hc.cell h.c4 hp, fun i => by
    rw [World.frozen?_of_block (w := w) (a := ⟨g, i, none⟩) (hc.block g (block_lt_of_cell h.c0) hp)]; exact h.f i⟩
/-- One of five cells has turned: the order o, of which cell i is x, is o'. -/
def Turn5 (o o' : OD) (i : Nat) (x : Value) : Prop := i < 5 ∧ ∀ j, j < 5 → (cOD o').getD j undef = if j = i then x else (cOD o).getD j undef
theorem tn0 (o : OD) (x : Int) : Turn5 o ⟨x, o.cu, o.br, o.due, o.sent⟩ 0 (.int .i64 x) := ⟨by omega, fun j hj => by rcases (show j = 0 ∨ j = 1 ∨ j = 2 ∨ j = 3 ∨ j = 4 by omega) with rfl | rfl | rfl | rfl | rfl <;> rfl⟩
theorem tn1 (o : OD) (x : ByteArray) : Turn5 o ⟨o.id, x, o.br, o.due, o.sent⟩ 1 (.string x) := ⟨by omega, fun j hj => by rcases (show j = 0 ∨ j = 1 ∨ j = 2 ∨ j = 3 ∨ j = 4 by omega) with rfl | rfl | rfl | rfl | rfl <;> rfl⟩
theorem tn2 (o : OD) (x : Int) : Turn5 o ⟨o.id, o.cu, x, o.due, o.sent⟩ 2 (.int .i64 x) := ⟨by omega, fun j hj => by rcases (show j = 0 ∨ j = 1 ∨ j = 2 ∨ j = 3 ∨ j = 4 by omega) with rfl | rfl | rfl | rfl | rfl <;> rfl⟩
theorem tn3 (o : OD) (x : Int) : Turn5 o ⟨o.id, o.cu, o.br, x, o.sent⟩ 3 (.int .i64 x) := ⟨by omega, fun j hj => by rcases (show j = 0 ∨ j = 1 ∨ j = 2 ∨ j = 3 ∨ j = 4 by omega) with rfl | rfl | rfl | rfl | rfl <;> rfl⟩
theorem tn4 (o : OD) (x : Int) : Turn5 o ⟨o.id, o.cu, o.br, o.due, x⟩ 4 (.int .i64 x) := ⟨by omega, fun j hj => by rcases (show j = 0 ∨ j = 1 ∨ j = 2 ∨ j = 3 ∨ j = 4 by omega) with rfl | rfl | rfl | rfl | rfl <;> rfl⟩
theorem OODS.turn {w : World} {base g n c k i : Nat} {l : List OD} {o' : OD} {x : Value} (h : OODS w base (.slice (some ⟨g, 0, none⟩) n c) l) (hn : n = l.length) (hk : k < l.length) (ht : Turn5 (gd l k) o' i x) :
    OODS (w.setCell ⟨g, k * 5 + i, none⟩ x) base (.slice (some ⟨g, 0, none⟩) n c) (l.set k o') := by
  subst hn
  refine OODS.of_row hk (h.row.set (k * 5 + i) x) (fun j hj => ?_) (fun q j hq hqk hj => ?_)
  · rw [ht.2 j hj]
    by_cases h1 : j = i
    · rw [if_pos (by omega), if_pos h1]
    · rw [if_neg (by omega), if_neg h1, cf_at cOD 5 hj]
  · have := ht.1
    rw [if_neg (by omega), cf_at cOD 5 hj]
/-- The post of a call that spoils an order. -/
def Spoilt (W0 : World) (b : Nat) (v : Value) (bs : List UInt8) (at' : Int) (g k : Nat) (o : OD) (w : World) : Ending → World → Prop := fun e w' => ∃ (o' : OD) (at2 s2 : Int) (w1 : World) (i : Nat) (x : Value),
  e = .returned (.tuple #[]) ∧ (o.cu.size ≤ 16 → o'.cu.size ≤ 16) ∧ at' ≤ at2 ∧ at2 ≤ at' + 4 ∧ Src W0 w' b v bs at2 s2 ∧ Turn5 o o' i x ∧ Chg (fun k => k = b) w w1 ∧ w' = w1.setCell ⟨g, k + i, none⟩ x



theorem src_litI (W0 : World) (b : Nat) (v : Value) (bs : List UInt8) (at' seed : Int) (xs : List Int) (h0 : 0 < xs.length) (h1 : xs.length ≤ 1000) (w : World) (hS : Src W0 w b v bs at' seed) (ha : at' + 1 < 1099511627776) (T : TypeId) (cs : Array Value) (hcs : cs = (xs.map (Value.int .i64)).toArray) :
    Calls Try.prog 38 #[.pointer (some ⟨b, 0, none⟩), .slice (some ⟨w.heap.size, 0, none⟩) xs.length xs.length] (w.alloc (.cells cs T)) fun e w' => ∃ (x : Int) (at2 s2 : Int), e = .returned (Value.int .i64 x) ∧ x ∈ xs ∧ at' ≤ at2 ∧ at2 ≤ at' + 2 ∧ Src W0 w' b v bs at2 s2 ∧ Chg (fun k => k = b) w w' := by
  subst hcs
  have hlt := hS.lt
  refine (src_among W0 b v bs at' seed (fun x => x ∈ xs) w.heap.size xs.length h0 h1 (by omega) _ (hS.turn (Chg.of_below (ext_alloc1 _ _) (fun _ => False)) (fun _ h => h.elim) (fun h => h)) ha (fun k hk => ⟨xs[k], List.getElem_mem hk, by simp [go_sem, hk]⟩)).mono ?_
  rintro e w1 ⟨x, a2, s2, he, hx, h1, h2, HS1, HC1⟩
  exact ⟨x, a2, s2, he, hx, h1, h2, HS1, (Chg.of_below (ext_alloc1 _ _) _).trans HC1⟩
theorem src_litD (W0 : World) (b : Nat) (v : Value) (bs : List UInt8) (at' seed : Int) (xs : List Int) (h0 : 0 < xs.length) (h1 : xs.length ≤ 1000) (w : World) (hS : Src W0 w b v bs at' seed) (ha : at' + 1 < 1099511627776) (T : TypeId) (cs : Array Value) (hcs : cs = (xs.map (Value.int .i64)).toArray) :
    Calls Try.prog 38 #[.pointer (some ⟨b, 0, none⟩), .slice (some ⟨w.heap.size, 0, none⟩) xs.length xs.length] (w.alloc (.cells cs T)).drew fun e w' => ∃ (x : Int) (at2 s2 : Int), e = .returned (.int .i64 x) ∧ x ∈ xs ∧ at' ≤ at2 ∧ at2 ≤ at' + 2 ∧ Src W0 w' b v bs at2 s2 ∧ Chg (fun k => k = b) w w' := by
  subst hcs
  have hlt := hS.lt
  refine (src_among W0 b v bs at' seed (fun x => x ∈ xs) w.heap.size xs.length h0 h1 (by omega) _ (hS.turn (Chg.of_below (ext_drew (ext_alloc1 _ _)) (fun _ => False)) (fun _ h => h.elim) (fun h => h)) ha (fun k hk => ⟨xs[k], List.getElem_mem hk, by simp [go_sem, hk]⟩)).mono ?_
  rintro e w1 ⟨x, a2, s2, he, hx, h1, h2, HS1, HC1⟩
  exact ⟨x, a2, s2, he, hx, h1, h2, HS1, (Chg.of_below (ext_drew (ext_alloc1 _ _)) _).trans HC1⟩
theorem src_litS (W0 : World) (b : Nat) (v : Value) (bs : List UInt8) (at' seed : Int) (xs : List ByteArray) (h0 : 0 < xs.length) (h1 : xs.length ≤ 1000) (w : World) (hS : Src W0 w b v bs at' seed) (ha : at' + 1 < 1099511627776) (T : TypeId) (cs : Array Value) (hcs : cs = (xs.map (Value.string)).toArray) :
    Calls Try.prog 51 #[.pointer (some ⟨b, 0, none⟩), .slice (some ⟨w.heap.size, 0, none⟩) xs.length xs.length] (w.alloc (.cells cs T)) fun e w' => ∃ (x : ByteArray) (at2 s2 : Int), e = .returned (Value.string x) ∧ x ∈ xs ∧ at' ≤ at2 ∧ at2 ≤ at' + 2 ∧ Src W0 w' b v bs at2 s2 ∧ Chg (fun k => k = b) w w' := by
  subst hcs
  have hlt := hS.lt
  refine (src_text W0 b v bs at' seed (fun x => x ∈ xs) w.heap.size xs.length h0 h1 (by omega) _ (hS.turn (Chg.of_below (ext_alloc1 _ _) (fun _ => False)) (fun _ h => h.elim) (fun h => h)) ha (fun k hk => ⟨xs[k], List.getElem_mem hk, by simp [go_sem, hk]⟩)).mono ?_
  rintro e w1 ⟨x, a2, s2, he, hx, h1, h2, HS1, HC1⟩
  exact ⟨x, a2, s2, he, hx, h1, h2, HS1, (Chg.of_below (ext_alloc1 _ _) _).trans HC1⟩

set_option maxHeartbeats 1600000 in
theorem draw_spoil (W0 : World) (b : Nat) (v : Value) (bs : List UInt8) (at' seed : Int) (g k : Nat) (o : OD) (w : World) (hS : Src W0 w b v bs at' seed) (ha : at' ≤ 1000000) (hg : g ≠ b) (hW : W0.heap.size ≤ g) (hF : F5 w g k o) (hb1 : 0 ≤ o.br) (hb2 : o.br ≤ 1000000) :
    Calls Try.prog 43 #[.pointer (some ⟨b, 0, none⟩), .pointer (some ⟨g, k, none⟩)] w (Spoilt W0 b v bs at' g k o w) := by
  have HS := Lib.hid hS; clear hS
  have HF := Lib.hid hF; clear hF
  go_enter Try.func43, Try.ntmps43
  go_wp2_with fail
  refine (src_pick W0 b v bs at' seed 5 _ HS.out (by omega)).mono ?_
  rintro e w1 ⟨x, a1, s1, rfl, hx, h1, h2, HS1, HC1⟩
  have HS1 := Lib.hid HS1
  have HC1 := Lib.hid HC1
  have HF1 := Lib.hid (HF.out.chg HC1.out hg)
  clear HS HF
  obtain ⟨x0, _, x4, _⟩ := hx
  have x4 := x4 (by omega)
  obtain ⟨n, rfl⟩ := Int.eq_ofNat_of_zero_le x0
  have hx5 : n = 0 ∨ n = 1 ∨ n = 2 ∨ n = 3 ∨ n = 4 := by omega
  clear x0 x4
  obtain ⟨c0, c1, c2, c3, c4, hf⟩ := HF1.out
  have f0 := hf k
  have f1 := hf (k + 1)
  have f2 := hf (k + 2)
  have f3 := hf (k + 3)
  have f4 := hf (k + 4)
  clear hf
  have hgb := block_lt_of_cell c0
  rcases hx5 with rfl | rfl | rfl | rfl | rfl
  · go_wp2_with fail
    refine (src_litI W0 b v bs a1 s1 [0, 1, 9999, 10000, -9223372036854775808] (by simp) (by simp) w1 HS1.out (by omega) _ _ rfl).mono ?_
    rintro e w2 ⟨x, a2, s2, rfl, hx, h3, h4, HS2, HC2⟩
    have HX := Lib.hid hx
    have HS2 := Lib.hid HS2
    have HC2 := Lib.hid HC2
    obtain ⟨d0, d1, d2, d3, d4, hf⟩ := HF1.out.chg HC2.out hg
    have g0 := hf k
    have g1 := hf (k + 1)
    have g2 := hf (k + 2)
    have g3 := hf (k + 3)
    have g4 := hf (k + 4)
    clear hf c0 c1 c2 c3 c4 f0 f1 f2 f3 f4 hx
    go_wp2_with fail
    refine bodyPost_ret (v := .tuple #[]) (by simp [results, Try.results43, go_sem]) rfl ?_
    exact ⟨⟨x, o.cu, o.br, o.due, o.sent⟩, a2, s2, w2, 0, _, rfl, id, by omega, by omega, HS2.out.turn (chg_set w2 g (k + 0) (Value.int .i64 x)) (fun q hq => by subst hq; exact hW) (fun e => hg e.symm), tn0 o x, HC1.out.trans HC2.out, rfl⟩
  · go_wp2_with fail
    refine (src_litS W0 b v bs a1 s1 [⟨#[]⟩, ⟨#[83, 109, 105, 116, 104]⟩, ⟨#[97]⟩] (by simp) (by simp) w1 HS1.out (by omega) _ _ rfl).mono ?_
    rintro e w2 ⟨x, a2, s2, rfl, hx, h3, h4, HS2, HC2⟩
    have HX := Lib.hid hx
    have HS2 := Lib.hid HS2
    have HC2 := Lib.hid HC2
    obtain ⟨d0, d1, d2, d3, d4, hf⟩ := HF1.out.chg HC2.out hg
    have g0 := hf k
    have g1 := hf (k + 1)
    have g2 := hf (k + 2)
    have g3 := hf (k + 3)
    have g4 := hf (k + 4)
    clear hf c0 c1 c2 c3 c4 f0 f1 f2 f3 f4 hx
    go_wp2_with fail
    refine bodyPost_ret (v := .tuple #[]) (by simp [results, Try.results43, go_sem]) rfl ?_
    exact ⟨⟨o.id, x, o.br, o.due, o.sent⟩, a2, s2, w2, 1, _, rfl, (fun _ => by show x.size ≤ 16; have := HX.out; simp at this; rcases this with rfl | rfl | rfl <;> decide), by omega, by omega, HS2.out.turn (chg_set w2 g (k + 1) (Value.string x)) (fun q hq => by subst hq; exact hW) (fun e => hg e.symm), tn1 o x, HC1.out.trans HC2.out, rfl⟩
  · go_wp2_with fail
    refine (src_litI W0 b v bs a1 s1 [0, 1, 1000000, 1000001] (by simp) (by simp) w1 HS1.out (by omega) _ _ rfl).mono ?_
    rintro e w2 ⟨x, a2, s2, rfl, hx, h3, h4, HS2, HC2⟩
    have HX := Lib.hid hx
    have HS2 := Lib.hid HS2
    have HC2 := Lib.hid HC2
    obtain ⟨d0, d1, d2, d3, d4, hf⟩ := HF1.out.chg HC2.out hg
    have g0 := hf k
    have g1 := hf (k + 1)
    have g2 := hf (k + 2)
    have g3 := hf (k + 3)
    have g4 := hf (k + 4)
    clear hf c0 c1 c2 c3 c4 f0 f1 f2 f3 f4 hx
    go_wp2_with fail
    refine bodyPost_ret (v := .tuple #[]) (by simp [results, Try.results43, go_sem]) rfl ?_
    exact ⟨⟨o.id, o.cu, x, o.due, o.sent⟩, a2, s2, w2, 2, _, rfl, id, by omega, by omega, HS2.out.turn (chg_set w2 g (k + 2) (Value.int .i64 x)) (fun q hq => by subst hq; exact hW) (fun e => hg e.symm), tn2 o x, HC1.out.trans HC2.out, rfl⟩
  · go_wp2_with fail
    refine (src_litI W0 b v bs a1 s1 [-1, 0, 10000, 10001] (by simp) (by simp) w1 HS1.out (by omega) _ _ rfl).mono ?_
    rintro e w2 ⟨x, a2, s2, rfl, hx, h3, h4, HS2, HC2⟩
    have HX := Lib.hid hx
    have HS2 := Lib.hid HS2
    have HC2 := Lib.hid HC2
    obtain ⟨d0, d1, d2, d3, d4, hf⟩ := HF1.out.chg HC2.out hg
    have g0 := hf k
    have g1 := hf (k + 1)
    have g2 := hf (k + 2)
    have g3 := hf (k + 3)
    have g4 := hf (k + 4)
    clear hf c0 c1 c2 c3 c4 f0 f1 f2 f3 f4 hx
    go_wp2_with fail
    refine bodyPost_ret (v := .tuple #[]) (by simp [results, Try.results43, go_sem]) rfl ?_
    exact ⟨⟨o.id, o.cu, o.br, x, o.sent⟩, a2, s2, w2, 3, _, rfl, id, by omega, by omega, HS2.out.turn (chg_set w2 g (k + 3) (Value.int .i64 x)) (fun q hq => by subst hq; exact hW) (fun e => hg e.symm), tn3 o x, HC1.out.trans HC2.out, rfl⟩
  · go_wp2_with fail
    have HAM := Lib.hid (src_litD W0 b v bs a1 s1 [-1, 0, o.br, IntKind.i64.wrap (o.br + 1)] (by simp) (by simp) w1 HS1.out (by omega) 2 _ rfl)
    go_region_with ((go_at_call 38; refine (show Calls _ _ _ _ _ from HAM.out).mono ?_; rintro e w2 ⟨x, a2, s2, rfl, _, h3, h4, HS2, HC2⟩; (obtain ⟨d0, d1, d2, d3, d4, hf⟩ := HF1.out.chg HC2 hg); (have g4 := hf (k + 4))))
    all_goals
      refine bodyPost_ret (v := .tuple #[]) (by simp [results, Try.results43, go_sem]) rfl ?_
      exact ⟨⟨o.id, o.cu, o.br, o.due, x⟩, a2, s2, w2, 4, _, rfl, id, by omega, by omega, HS2.turn (chg_set w2 g (k + 4) (.int .i64 x)) (fun q hq => by subst hq; exact hW) (fun e => hg e.symm), tn4 o x, HC1.out.trans HC2, rfl⟩

end Go.Proofs.Ythcckonkhbmcmaa
