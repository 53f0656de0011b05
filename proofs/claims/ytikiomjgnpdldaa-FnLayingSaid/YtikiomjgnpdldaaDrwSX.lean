/-
  Drawn sites, what stands while FnSites' and FnLaying's arguments are drawn.
-/
import Derived.Test.YtikiomjgnpdldaaDrwS3
namespace Go.Proofs.Ytikiomjgnpdldaa
open Go.ChangeShapes Go.WideShapes Go.ChangeAt Go.RowKit Go.Sort
set_option linter.unusedVariables false
set_option maxRecDepth 100000

/-- What stands behind the two boxes of a draw from the bytes. -/
structure DX (w w' : World) (b : Nat) (v : Value) (bs : List UInt8) (at' seed : Int) (q : Nat) (s : ByteArray) (u : Value) (xs : List Int) : Prop where
  src : Src (w.alloc (.cells #[.string ⟨#[]⟩, .slice none 0 0] 26)) w' b v bs at' seed
  bp : Box2 w' w.heap.size (.string ⟨#[]⟩) (.slice none 0 0)
  bq : Box2 w' q (.string s) u
  own : OI w' w.heap.size u xs
  low : Below w.heap.size w w'
  hb : w.heap.size < b ∧ b < q
  hu : ∀ k, BY u k → k ≠ w.heap.size ∧ k ≠ q ∧ k ≠ b
theorem DX.made {w w0 w1 : World} {b : Nat} {v : Value} {bs : List UInt8} {a1 s1 : Int} {s : ByteArray} {A : Option Addr} {c : Nat} {xs : List Int} {z1 z2 : Int} (hS0 : Src (w.alloc (.cells #[.string ⟨#[]⟩, .slice none 0 0] 26)) w0 b v bs z1 z2)
    (hB0 : Below (w.alloc (.cells #[.string ⟨#[]⟩, .slice none 0 0] 26)).heap.size (w.alloc (.cells #[.string ⟨#[]⟩, .slice none 0 0] 26)) w0)
    (HS1 : Src (w.alloc (.cells #[.string ⟨#[]⟩, .slice none 0 0] 26)) w1 b v bs a1 s1) (HO1 : OI w1 w0.heap.size (.slice A xs.length c) xs) (HC1 : Chg (fun k => k = b) w0 w1) :
    DX w (w1.alloc (.cells #[.string s, .slice A xs.length c] 26)) b v bs a1 s1 w1.heap.size s (.slice A xs.length c) xs := by
  have h1 := hS0.low; have h2 := hS0.lt; have h3 := HC1.size; have h4 := hB0.size
  rw [World.size_alloc] at h1 h4
  have hl : Below w.heap.size w w1 := Chg.ext (ext_trans (ext_alloc1 _ _) hB0) HC1 (fun k hk => by omega)
  exact ⟨HS1.turn (Chg.of_below (ext_alloc1 _ _) (fun _ => False)) (fun _ h => h.elim) (fun h => h), (((box2_new w _ _ _).ext hB0).chg HC1 (by omega)).chg (Chg.of_below (ext_alloc1 _ _) (fun _ => False)) (fun h => h), box2_new w1 _ _ _,
    (HO1.mono (by omega)).ext (ext_alloc1 _ _), ext_trans hl (ext_alloc1 _ _), ⟨by omega, by omega⟩, fun k hk => by have := HO1.ge k hk; omega⟩
theorem DX.pick {w w' w'' : World} {b : Nat} {v : Value} {bs : List UInt8} {at' seed at2 seed2 : Int} {q : Nat} {s : ByteArray} {u : Value} {xs : List Int} (h : DX w w' b v bs at' seed q s u xs) (hs : Src (w.alloc (.cells #[.string ⟨#[]⟩, .slice none 0 0] 26)) w'' b v bs at2 seed2) (hc : Chg (fun k => k = b) w' w'') : DX w w'' b v bs at2 seed2 q s u xs := by
  have h1 := h.hb
  exact ⟨hs, h.bp.chg hc (by omega), h.bq.chg hc (by omega), h.own.chg hc (fun k hk e => (h.hu k hk).2.2 e), Chg.ext h.low hc (fun k hk => by omega), h.hb, h.hu⟩
/-- A site that a draw returns. -/
def OutS (w w' : World) (u : Value) (s : ByteArray) (xs : List Int) : Prop := OST w' w.heap.size u s xs ∧ SmST s xs ∧ Below w.heap.size w w'
theorem DX.out {w w' : World} {b : Nat} {v : Value} {bs : List UInt8} {at' seed : Int} {q : Nat} {s : ByteArray} {A : Option Addr} {c : Nat} {xs : List Int} (h : DX w w' b v bs at' seed q s (.slice A xs.length c) xs) (h1 : s.size ≤ 200) (h2 : xs.length ≤ 200) (x y : Value) :
    OutS w ((w'.setCell ⟨w.heap.size, 0, none⟩ x).setCell ⟨w.heap.size, 1, none⟩ y) (.agg #[.string s, .slice A xs.length c]) s xs := by
  have s1 := chg_set w' w.heap.size 0 x
  have s2 := chg_set (w'.setCell ⟨w.heap.size, 0, none⟩ x) w.heap.size 1 y
  exact ⟨⟨A, c, rfl, (h.own.chg s1 (fun k hk e => (h.hu k hk).1 e)).chg s2 (fun k hk e => (h.hu k hk).1 e)⟩, ⟨by omega, by omega⟩, Chg.ext (Chg.ext h.low s1 (fun k hk => by omega)) s2 (fun k hk => by omega)⟩

theorem letter_size {x : ByteArray} (h : x ∈ ([⟨#[100]⟩, ⟨#[109]⟩, ⟨#[114]⟩, ⟨#[102]⟩, ⟨#[102]⟩, ⟨#[]⟩, ⟨#[120]⟩, ⟨#[100, 100]⟩] : List ByteArray)) : x.size ≤ 10 := by
  simp at h
  rcases h with rfl | rfl | rfl | rfl | rfl | rfl | rfl <;> decide
def PS1 (w : World) : Ending → World → Prop := fun e w' => ∃ (u : Value) (s : ByteArray) (xs : List Int), e = .returned u ∧ OutS w w' u s xs
def PS2 (w : World) : Ending → World → Prop := fun e w' => ∃ (u : Value) (s : ByteArray) (xs : List Int) (d : Int), e = .returned (.tuple #[u, .int .i64 d]) ∧ OutS w w' u s xs
def PS3 (w : World) : Ending → World → Prop := fun e w' => ∃ (u : Value) (s : ByteArray) (xs : List Int) (d y : Int), e = .returned (.tuple #[u, .int .i64 d, .int .i64 y]) ∧ OutS w w' u s xs
def PS4 (w : World) : Ending → World → Prop := fun e w' => ∃ (u : Value) (s : ByteArray) (xs : List Int) (d y z : Int), e = .returned (.tuple #[u, .int .i64 d, .int .i64 y, .int .i64 z]) ∧ OutS w w' u s xs
def PSt (w : World) : Ending → World → Prop := fun e w' => ∃ (u : Value) (s : ByteArray) (xs : List Int) (d : Int) (t : ByteArray), e = .returned (.tuple #[u, .int .i64 d, .string t]) ∧ t.size ≤ 10 ∧ OutS w w' u s xs


end Go.Proofs.Ytikiomjgnpdldaa
