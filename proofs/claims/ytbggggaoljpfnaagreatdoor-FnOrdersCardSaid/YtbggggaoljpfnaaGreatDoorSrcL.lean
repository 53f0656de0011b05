/-
  The source of choices: one of the numbers or texts of a literal.
-/
import Derived.Test.YtbggggaoljpfnaaGreatDoorSrcM
namespace Go.Proofs.YtbggggaoljpfnaaGreatDoor
open Go.ChangeShapes Go.WideShapes Go.ChangeAt Go.RowKit Go.Sort
set_option linter.unusedVariables false
set_option maxRecDepth 100000

theorem src_litI (W0 : World) (b : Nat) (v : Value) (bs : List UInt8) (at' seed : Int) (xs : List Int) (h0 : 0 < xs.length) (h1 : xs.length ≤ 1000) (w : World) (hS : Src W0 w b v bs at' seed) (ha : at' + 1 < 1099511627776) (T : TypeId) (cs : Array Value) (hcs : cs = (xs.map (Value.int .i64)).toArray) :
    Calls Tryz.prog 45 #[.pointer (some ⟨b, 0, none⟩), .slice (some ⟨w.heap.size, 0, none⟩) xs.length xs.length] (w.alloc (.cells cs T)) fun e w' => ∃ (x : Int) (at2 s2 : Int), e = .returned (Value.int .i64 x) ∧ x ∈ xs ∧ at' ≤ at2 ∧ at2 ≤ at' + 2 ∧ Src W0 w' b v bs at2 s2 ∧ Chg (fun k => k = b) w w' := by
  subst hcs
  have hlt := hS.lt
  refine (src_among W0 b v bs at' seed (fun x => x ∈ xs) w.heap.size xs.length h0 h1 (by omega) _ (hS.turn (Chg.of_below (ext_alloc1 _ _) (fun _ => False)) (fun _ h => h.elim) (fun h => h)) ha (fun k hk => ⟨xs[k], List.getElem_mem hk, by simp [go_sem, hk]⟩)).mono ?_
  rintro e w1 ⟨x, a2, s2, he, hx, h1, h2, HS1, HC1⟩
  exact ⟨x, a2, s2, he, hx, h1, h2, HS1, (Chg.of_below (ext_alloc1 _ _) _).trans HC1⟩
theorem src_litS (W0 : World) (b : Nat) (v : Value) (bs : List UInt8) (at' seed : Int) (xs : List ByteArray) (h0 : 0 < xs.length) (h1 : xs.length ≤ 1000) (w : World) (hS : Src W0 w b v bs at' seed) (ha : at' + 1 < 1099511627776) (T : TypeId) (cs : Array Value) (hcs : cs = (xs.map (Value.string)).toArray) :
    Calls Tryz.prog 63 #[.pointer (some ⟨b, 0, none⟩), .slice (some ⟨w.heap.size, 0, none⟩) xs.length xs.length] (w.alloc (.cells cs T)) fun e w' => ∃ (x : ByteArray) (at2 s2 : Int), e = .returned (Value.string x) ∧ x ∈ xs ∧ at' ≤ at2 ∧ at2 ≤ at' + 2 ∧ Src W0 w' b v bs at2 s2 ∧ Chg (fun k => k = b) w w' := by
  subst hcs
  have hlt := hS.lt
  refine (src_text W0 b v bs at' seed (fun x => x ∈ xs) w.heap.size xs.length h0 h1 (by omega) _ (hS.turn (Chg.of_below (ext_alloc1 _ _) (fun _ => False)) (fun _ h => h.elim) (fun h => h)) ha (fun k hk => ⟨xs[k], List.getElem_mem hk, by simp [go_sem, hk]⟩)).mono ?_
  rintro e w1 ⟨x, a2, s2, he, hx, h1, h2, HS1, HC1⟩
  exact ⟨x, a2, s2, he, hx, h1, h2, HS1, (Chg.of_below (ext_alloc1 _ _) _).trans HC1⟩
theorem src_litD (W0 : World) (b : Nat) (v : Value) (bs : List UInt8) (at' seed : Int) (xs : List Int) (h0 : 0 < xs.length) (h1 : xs.length ≤ 1000) (w : World) (hS : Src W0 w b v bs at' seed) (ha : at' + 1 < 1099511627776) (T : TypeId) (cs : Array Value) (hcs : cs = (xs.map (Value.int .i64)).toArray) :
    Calls Tryz.prog 45 #[.pointer (some ⟨b, 0, none⟩), .slice (some ⟨w.heap.size, 0, none⟩) xs.length xs.length] (w.alloc (.cells cs T)).drew fun e w' => ∃ (x : Int) (at2 s2 : Int), e = .returned (.int .i64 x) ∧ x ∈ xs ∧ at' ≤ at2 ∧ at2 ≤ at' + 2 ∧ Src W0 w' b v bs at2 s2 ∧ Chg (fun k => k = b) w w' := by
  subst hcs
  have hlt := hS.lt
  refine (src_among W0 b v bs at' seed (fun x => x ∈ xs) w.heap.size xs.length h0 h1 (by omega) _ (hS.turn (Chg.of_below (ext_drew (ext_alloc1 _ _)) (fun _ => False)) (fun _ h => h.elim) (fun h => h)) ha (fun k hk => ⟨xs[k], List.getElem_mem hk, by simp [go_sem, hk]⟩)).mono ?_
  rintro e w1 ⟨x, a2, s2, he, hx, h1, h2, HS1, HC1⟩
  exact ⟨x, a2, s2, he, hx, h1, h2, HS1, (Chg.of_below (ext_drew (ext_alloc1 _ _)) _).trans HC1⟩

theorem src_litSD (W0 : World) (b : Nat) (v : Value) (bs : List UInt8) (at' seed : Int) (xs : List ByteArray) (h0 : 0 < xs.length) (h1 : xs.length ≤ 1000) (w : World) (hS : Src W0 w b v bs at' seed) (ha : at' + 1 < 1099511627776) (T : TypeId) (cs : Array Value) (hcs : cs = (xs.map (Value.string)).toArray) :
    Calls Tryz.prog 63 #[.pointer (some ⟨b, 0, none⟩), .slice (some ⟨w.heap.size, 0, none⟩) xs.length xs.length] (w.alloc (.cells cs T)).drew fun e w' => ∃ (x : ByteArray) (at2 s2 : Int), e = .returned (.string x) ∧ x ∈ xs ∧ at' ≤ at2 ∧ at2 ≤ at' + 2 ∧ Src W0 w' b v bs at2 s2 ∧ Chg (fun k => k = b) w w' := by
  subst hcs
  have hlt := hS.lt
  refine (src_text W0 b v bs at' seed (fun x => x ∈ xs) w.heap.size xs.length h0 h1 (by omega) _ (hS.turn (Chg.of_below (ext_drew (ext_alloc1 _ _)) (fun _ => False)) (fun _ h => h.elim) (fun h => h)) ha (fun k hk => ⟨xs[k], List.getElem_mem hk, by simp [go_sem, hk]⟩)).mono ?_
  rintro e w1 ⟨x, a2, s2, he, hx, h1, h2, HS1, HC1⟩
  exact ⟨x, a2, s2, he, hx, h1, h2, HS1, (Chg.of_below (ext_drew (ext_alloc1 _ _)) _).trans HC1⟩


end Go.Proofs.YtbggggaoljpfnaaGreatDoor
