/-
  Drawn sites: l24Draw.
-/
import Derived.Test.YtikiomjgnpdldaaSrcM
import Derived.Test.YtikiomjgnpdldaaDays12
import Derived.Test.YtikiomjgnpdldaaApp
namespace Go.Proofs.Ytikiomjgnpdldaa
open Go.ChangeShapes Go.WideShapes Go.ChangeAt Go.RowKit Go.Sort
set_option linter.unusedVariables false
set_option maxRecDepth 100000

/-- 'append(out, n)', and where the new block lies. -/
theorem wpList_append_i3 {w0 : World} {ops : Array Oper} {rest : List Oper} {o : Oper} {a : Act} {Q : Exit → Act → World → Prop} (hgd : o.guard = none) (s x : Operand)
    (ho : o.op = .call { callee := .builtin .append, args := #[s, x], argTypes := #[24, 24] })
    (base : Nat) (v : Value) (xs : List Int) (n : Int) (hs : a.eval s = v) (hx : a.eval x = .slice (some ⟨w0.heap.size, 0, none⟩) 1 1) (hO : OI w0 base v xs)
    (hl : xs.length ≤ 1099511627776) (hbase : base ≤ w0.heap.size)
    (h : ∀ g cap w', OI w' base (.slice (some ⟨g, 0, none⟩) (xs.length + 1) cap) (xs ++ [n]) → Chg (BY v) w0 w' → (BY v g ∨ w0.heap.size ≤ g) → wpList Try.prog ops Q rest (a.put o.dst (.slice (some ⟨g, 0, none⟩) (xs.length + 1) cap)) w') :
    wpList Try.prog ops Q (o :: rest) a (w0.alloc (.cells #[.int .i64 n] 2)) := by
  obtain ⟨i0, hi, hz0, hz1, hz2⟩ := info_parts info_int
  refine wpList_append_lies _ hgd s x _ ho base 2 i0 (.int .i64 0) 1 8 Try.underlying24 hi hz0 hz1 hz2 rfl (by omega) v xs.length (xs.map (Value.int .i64)) hs (World.ownsRow.alloc hO _)
    ⟨w0.heap.size, 0, none⟩ 1 1 [.int .i64 n] hx rfl (cell_one_new _ _ _) (by simp [Value.oneCell']) (by omega) (by unfold maxLen; omega) (by omega) (by simp; omega) (w0.heap.size + 1) (by simp) ?_
  intro g cap w1 hown hgrow hat hlt
  refine h g cap w1 ?_ ((Chg.of_below (ext_alloc1 _ _) _).trans (Chg.of_grown hgrow)) (hat.elim (fun h => .inl h) fun h => .inr (by omega))
  unfold OI
  simpa using hown
/-- 'append(out, b)', and where the new block lies. -/
theorem wpList_append_by3 {w0 : World} {ops : Array Oper} {rest : List Oper} {o : Oper} {a : Act} {Q : Exit → Act → World → Prop} (hgd : o.guard = none) (s x : Operand)
    (ho : o.op = .call { callee := .builtin .append, args := #[s, x], argTypes := #[22, 22] })
    (base : Nat) (v : Value) (xs : List UInt8) (n : Int) (b : UInt8) (hn : (b.toNat : Int) = n) (hs : a.eval s = v) (hx : a.eval x = .slice (some ⟨w0.heap.size, 0, none⟩) 1 1) (hO : OB w0 base v xs)
    (hl : xs.length ≤ 1099511627776) (hbase : base ≤ w0.heap.size)
    (h : ∀ g cap w', OB w' base (.slice (some ⟨g, 0, none⟩) (xs.length + 1) cap) (xs ++ [b]) → Chg (BY v) w0 w' → (BY v g ∨ w0.heap.size ≤ g) → wpList Try.prog ops Q rest (a.put o.dst (.slice (some ⟨g, 0, none⟩) (xs.length + 1) cap)) w') :
    wpList Try.prog ops Q (o :: rest) a (w0.alloc (.cells #[.int .u8 n] 5)) := by
  obtain ⟨i0, hi, hz0, hz1, hz2⟩ := info_parts info_u8
  subst hn
  refine wpList_append_lies _ hgd s x _ ho base 5 i0 (.int .u8 0) 1 1 Try.underlying22 hi hz0 hz1 hz2 rfl (by omega) v xs.length _ hs (World.ownsRow.alloc hO _)
    ⟨w0.heap.size, 0, none⟩ 1 1 [.int .u8 (b.toNat : Int)] hx rfl (cell_one_new _ _ _) (by simp [Value.oneCell']) (by omega) (by unfold maxLen; omega) (by omega) (by simp; omega) (w0.heap.size + 1) (by simp) ?_
  intro g cap w1 hown hgrow hat hlt
  refine h g cap w1 ?_ ((Chg.of_below (ext_alloc1 _ _) _).trans (Chg.of_grown hgrow)) (hat.elim (fun h => .inl h) fun h => .inr (by omega))
  unfold OB
  simpa using hown

theorem Box2.chg {S : Nat → Prop} {w w' : World} {b : Nat} {u v : Value} (h : Box2 w b u v) (hc : Chg S w w') (hp : ¬ S b) : Box2 w' b u v :=
  ⟨hc.cell h.c0 hp, hc.cell h.c1 hp, by rw [World.frozen?_of_block (w := w) (a := ⟨b, 0, none⟩) (hc.block b h.lt hp)]; exact h.f0, by rw [World.frozen?_of_block (w := w) (a := ⟨b, 1, none⟩) (hc.block b h.lt hp)]; exact h.f1, Nat.lt_of_lt_of_le h.lt hc.size⟩
theorem Box2.set0 {w : World} {b : Nat} {u v : Value} (h : Box2 w b u v) (x : Value) : Box2 (w.setCell ⟨b, 0, none⟩ x) b x v :=
  ⟨World.cell?_setCell_same _ _ _ h.c0, by rw [World.cell?_setCell_other _ _ _ _ (by simp)]; exact h.c1, by rw [World.frozen?_setCell]; exact h.f0, by rw [World.frozen?_setCell]; exact h.f1, by simpa using h.lt⟩
theorem Box2.set1 {w : World} {b : Nat} {u v : Value} (h : Box2 w b u v) (x : Value) : Box2 (w.setCell ⟨b, 1, none⟩ x) b u x :=
  ⟨by rw [World.cell?_setCell_other _ _ _ _ (by simp)]; exact h.c0, World.cell?_setCell_same _ _ _ h.c1, by rw [World.frozen?_setCell]; exact h.f0, by rw [World.frozen?_setCell]; exact h.f1, by simpa using h.lt⟩
theorem chg_join {S T : Nat → Prop} {a b c : World} (h : Chg S a b) (k : Chg T b c) (hT : ∀ i, T i → a.heap.size ≤ i) : Chg S a c :=
  ⟨k.os.trans h.os, k.tape.trans h.tape, k.output.trans h.output, Nat.le_trans h.size k.size, fun i hi hn => (k.block i (Nat.lt_of_lt_of_le hi h.size) (fun ht => by have := hT i ht; omega)).trans (h.block i hi hn)⟩

/-- What stands while a site is drawn: the source, the result's box, the site's box, its row of days. -/
structure DT (W0 w w' : World) (b : Nat) (v : Value) (bs : List UInt8) (at' seed : Int) (p q : Nat) (s : ByteArray) (u : Value) (xs : List Int) : Prop where
  src : Src W0 w' b v bs at' seed
  bp : Box2 w' p (.string ⟨#[]⟩) (.slice none 0 0)
  bq : Box2 w' q (.string s) u
  own : OI w' w.heap.size u xs
  chg : Chg (fun k => k = b) w w'
  hb : b < w.heap.size
  hp : w.heap.size ≤ p
  hq : w.heap.size ≤ q
  hpq : p ≠ q
  hu : ∀ k, BY u k → k ≠ p ∧ k ≠ q
  hw : W0.heap.size ≤ w.heap.size
section
variable {W0 w w' w'' : World} {b : Nat} {v : Value} {bs : List UInt8} {at' seed at2 seed2 : Int} {p q : Nat} {s : ByteArray} {u : Value} {xs : List Int}
theorem DT.pick (h : DT W0 w w' b v bs at' seed p q s u xs) (hs : Src W0 w'' b v bs at2 seed2) (hc : Chg (fun k => k = b) w' w'') : DT W0 w w'' b v bs at2 seed2 p q s u xs := by
  have h1 := h.hb; have h2 := h.hp; have h3 := h.hq
  exact ⟨hs, h.bp.chg hc (by omega), h.bq.chg hc (by omega), h.own.chg hc (fun k hk e => by have := (h.own.ge k hk).1; omega), h.chg.trans hc, h.hb, h.hp, h.hq, h.hpq, h.hu, h.hw⟩
theorem DT.far (h : DT W0 w w' b v bs at' seed p q s u xs) {S : Nat → Prop} (hc : Chg S w' w'') (hS : ∀ k, S k → w.heap.size ≤ k ∧ k ≠ p ∧ k ≠ q ∧ ¬ BY u k) : DT W0 w w'' b v bs at' seed p q s u xs := by
  have h1 := h.hb; have h2 := h.hw
  exact ⟨h.src.turn hc (fun k hk => by have := (hS k hk).1; omega) (fun e => by have := (hS b e).1; omega), h.bp.chg hc (fun e => (hS p e).2.1 rfl), h.bq.chg hc (fun e => (hS q e).2.2.1 rfl), h.own.chg hc (fun k hk e => (hS k e).2.2.2 hk),
    chg_join h.chg hc (fun k hk => (hS k hk).1), h.hb, h.hp, h.hq, h.hpq, h.hu, h.hw⟩
/-- The row has grown, and its box turns. -/
theorem DT.grow (h : DT W0 w w' b v bs at' seed p q s u xs) {g n c : Nat} {ys : List Int} (hO : OI w'' w.heap.size (.slice (some ⟨g, 0, none⟩) n c) ys) (hc : Chg (BY u) w' w'') (hg : BY u g ∨ w'.heap.size ≤ g) :
    DT W0 w (w''.setCell ⟨q, 1, none⟩ (.slice (some ⟨g, 0, none⟩) n c)) b v bs at' seed p q s (.slice (some ⟨g, 0, none⟩) n c) ys := by
  have h1 := h.hb; have h2 := h.hw; have h3 := h.hq; have h4 := h.hp; have h5 := h.hpq; have h6 := h.bp.lt; have h7 := h.bq.lt
  have hge := h.own.ge
  have hsc := chg_set w'' q 1 (.slice (some ⟨g, 0, none⟩) n c)
  have hgq : g ≠ p ∧ g ≠ q := by
    rcases hg with h8 | h8
    · exact h.hu g h8
    · omega
  refine ⟨(h.src.turn hc (fun k hk => by have := (hge k hk).1; omega) (fun e => by have := (hge b e).1; omega)).turn hsc (fun k hk => by omega) (by omega),
    (h.bp.chg hc (fun e => (h.hu p e).1 rfl)).chg hsc h5, (h.bq.chg hc (fun e => (h.hu q e).2 rfl)).set1 _, hO.chg hsc (fun k hk e => by
      obtain rfl : g = k := Option.some.inj hk
      exact hgq.2 e), chg_join (chg_join h.chg hc (fun k hk => (hge k hk).1)) hsc (fun k hk => by omega), h.hb, h.hp, h.hq, h.hpq, fun k hk => by
      obtain rfl : g = k := Option.some.inj hk
      exact hgq, h.hw⟩
theorem DT.text (h : DT W0 w w' b v bs at' seed p q s u xs) (t : ByteArray) : DT W0 w (w'.setCell ⟨q, 0, none⟩ (.string t)) b v bs at' seed p q t u xs := by
  have h1 := h.hb; have h2 := h.hw; have h3 := h.hq; have h5 := h.hpq
  have hsc := chg_set w' q 0 (.string t)
  exact ⟨h.src.turn hsc (fun k hk => by omega) (by omega), h.bp.chg hsc h5, h.bq.set0 _, h.own.chg hsc (fun k hk e => (h.hu k hk).2 e), chg_join h.chg hsc (fun k hk => by omega), h.hb, h.hp, h.hq, h.hpq, h.hu, h.hw⟩
end
theorem DT.out {W0 w w' : World} {b : Nat} {v : Value} {bs : List UInt8} {at' seed : Int} {p q : Nat} {s : ByteArray} {u : Value} {xs : List Int} (h : DT W0 w w' b v bs at' seed p q s u xs) (x y : Value) :
    Src W0 ((w'.setCell ⟨p, 0, none⟩ x).setCell ⟨p, 1, none⟩ y) b v bs at' seed ∧ OI ((w'.setCell ⟨p, 0, none⟩ x).setCell ⟨p, 1, none⟩ y) w.heap.size u xs ∧ Chg (fun k => k = b) w ((w'.setCell ⟨p, 0, none⟩ x).setCell ⟨p, 1, none⟩ y) := by
  have h1 := h.hb; have h2 := h.hw; have h3 := h.hp
  have s1 := chg_set w' p 0 x
  have s2 := chg_set (w'.setCell ⟨p, 0, none⟩ x) p 1 y
  exact ⟨(h.src.turn s1 (fun k hk => by omega) (by omega)).turn s2 (fun k hk => by omega) (by omega), (h.own.chg s1 (fun k hk e => (h.hu k hk).1 e)).chg s2 (fun k hk e => (h.hu k hk).1 e), chg_fresh (chg_fresh h.chg h3 0 x) h3 1 y⟩
theorem oi_lit1 (w : World) (B : Nat) (h : B ≤ w.heap.size) : OI (w.alloc (.cells #[] 2)) B (.slice (some ⟨w.heap.size, 0, none⟩) 0 0) [] :=
  World.ownsRow_lit _ #[] 0 h (by simp [maxLen]) (by simp)
theorem DT.start {W0 w : World} {b : Nat} {v : Value} {bs : List UInt8} {at' seed : Int} (hS : Src W0 w b v bs at' seed) :
    DT W0 w ((((w.alloc (.cells #[.string ⟨#[]⟩, .slice none 0 0] 26)).alloc (.cells #[] 2)).alloc (.cells #[.string ⟨#[]⟩, .slice (some ⟨w.heap.size + 1, 0, none⟩) 0 0] 26)).alloc (.cells #[] 5)) b v bs at' seed w.heap.size (w.heap.size + 1 + 1) ⟨#[]⟩ (.slice (some ⟨w.heap.size + 1, 0, none⟩) 0 0) [] ∧
    OB ((((w.alloc (.cells #[.string ⟨#[]⟩, .slice none 0 0] 26)).alloc (.cells #[] 2)).alloc (.cells #[.string ⟨#[]⟩, .slice (some ⟨w.heap.size + 1, 0, none⟩) 0 0] 26)).alloc (.cells #[] 5)) w.heap.size (.slice (some ⟨w.heap.size + 1 + 1 + 1, 0, none⟩) 0 0) [] := by
  have hb := hS.lt
  have z1 : (w.alloc (.cells #[.string ⟨#[]⟩, .slice none 0 0] 26)).heap.size = w.heap.size + 1 := by simp
  have z2 : ((w.alloc (.cells #[.string ⟨#[]⟩, .slice none 0 0] 26)).alloc (.cells #[] 2)).heap.size = w.heap.size + 1 + 1 := by simp
  have z3 : (((w.alloc (.cells #[.string ⟨#[]⟩, .slice none 0 0] 26)).alloc (.cells #[] 2)).alloc (.cells #[.string ⟨#[]⟩, .slice (some ⟨w.heap.size + 1, 0, none⟩) 0 0] 26)).heap.size = w.heap.size + 1 + 1 + 1 := by simp
  have B0 := box2_new w (.string ⟨#[]⟩) (.slice none 0 0) 26
  have O1 := oi_lit1 (w.alloc (.cells #[.string ⟨#[]⟩, .slice none 0 0] 26)) w.heap.size (by simp)
  rw [z1] at O1
  have B2 := box2_new ((w.alloc (.cells #[.string ⟨#[]⟩, .slice none 0 0] 26)).alloc (.cells #[] 2)) (.string ⟨#[]⟩) (.slice (some ⟨w.heap.size + 1, 0, none⟩) 0 0) 26
  rw [z2] at B2
  have O3 := ob_lit (((w.alloc (.cells #[.string ⟨#[]⟩, .slice none 0 0] 26)).alloc (.cells #[] 2)).alloc (.cells #[.string ⟨#[]⟩, .slice (some ⟨w.heap.size + 1, 0, none⟩) 0 0] 26)) w.heap.size (by simp; omega)
  rw [z3] at O3
  refine ⟨⟨?_, ?_, B2.ext (ext_alloc1 _ _), (O1.ext (ext_alloc1 _ _)).ext (ext_alloc1 _ _), ?_, hb, Nat.le_refl _, by omega, by omega, ?_, hS.old.size⟩, O3⟩
  · repeat (refine Src.turn ?_ (Chg.of_below (ext_alloc1 _ _) (fun _ => False)) (fun _ h => h.elim) (fun h => h))
    exact hS
  · exact ((B0.ext (ext_alloc1 _ _)).ext (ext_alloc1 _ _)).ext (ext_alloc1 _ _)
  · exact Chg.of_below (ext_trans (ext_trans (ext_trans (ext_alloc1 _ _) (ext_alloc1 _ _)) (ext_alloc1 _ _)) (ext_alloc1 _ _)) _
  · intro k hk
    obtain rfl : w.heap.size + 1 = k := Option.some.inj hk
    omega
/-- What l24Draw and l24Bent draw: a site of at most so many days, with at most so many of them free. -/
def DrawnS (W0 : World) (b : Nat) (v : Value) (bs : List UInt8) (at' : Int) (m : Nat) (w : World) : Ending → World → Prop := fun e w' => ∃ (s : ByteArray) (A : Option Addr) (c : Nat) (xs : List Int) (at2 s2 : Int), e = .returned (.agg #[.string s, .slice A xs.length c]) ∧ s.size ≤ m ∧ xs.length ≤ m ∧ at' ≤ at2 ∧ at2 ≤ at' + 7 * (m : Int) ∧ Src W0 w' b v bs at2 s2 ∧ OI w' w.heap.size (.slice A xs.length c) xs ∧ Chg (fun k => k = b) w w'

set_option maxHeartbeats 3200000 in
theorem draw_site (W0 : World) (b : Nat) (v : Value) (bs : List UInt8) (at' seed : Int) (w : World) (hS : Src W0 w b v bs at' seed) (ha : at' ≤ 100000) :
    Calls Try.prog 58 #[.pointer (some ⟨b, 0, none⟩)] w (DrawnS W0 b v bs at' 40 w) := by
  have HS := Lib.hid hS
  have hbl := hS.lt
  have hwl := hS.old.size
  clear hS
  go_enter Try.func58, Try.ntmps58
  obtain ⟨hD, hO⟩ := DT.start HS.out
  have HD0 := Lib.hid hD
  have HO0 := Lib.hid hO
  clear hD hO
  go_wp2_with fail
  generalize (((w.alloc (.cells #[.string ⟨#[]⟩, .slice none 0 0] 26)).alloc (.cells #[] 2)).alloc (.cells #[.string ⟨#[]⟩, .slice (some ⟨w.heap.size + 1, 0, none⟩) 0 0] 26)).alloc (.cells #[] 5) = wA at *
  refine (src_pick W0 b v bs at' seed 30 _ HD0.out.src (by omega)).mono ?_
  rintro e w1 ⟨y, a1, s1, rfl, hy, h1, h2, HS1, HC1⟩
  have HD1 := Lib.hid (HD0.out.pick HS1 HC1)
  have HO1 := Lib.hid (HO0.out.chg HC1 (fun k hk e => by have := (HO0.out.ge k hk).1; omega))
  have hy1 : 0 ≤ y ∧ y ≤ 29 := ⟨hy.1, by have := hy.2.2.1 (by omega); omega⟩
  clear hy HS1 HC1 HD0 HO0
  go_wp2_with fail
  go_loopw [4, 6] (fun y' i wr => ∃ (k : Nat) (ws : List UInt8) (B : Option Addr) (cb : Nat) (xs : List Int) (u : Value) (at3 sd3 : Int), (k : Int) ≤ y ∧ i = .int .i64 k ∧ y' = .slice B ws.length cb ∧ ws.length ≤ k ∧ xs.length ≤ k ∧ a1 ≤ at3 ∧ at3 ≤ a1 + 4 * k ∧ Hid (DT W0 w wr b v bs at3 sd3 w.heap.size (w.heap.size + 1 + 1) ⟨#[]⟩ u xs) ∧ Hid (OB wr w.heap.size (.slice B ws.length cb) ws) ∧ Hid (∀ k, BY (.slice B ws.length cb) k → k ≠ w.heap.size ∧ k ≠ w.heap.size + 1 + 1 ∧ ¬ BY u k)) (fun _ i _ => (y - intOf i).toNat)
  case atStart => exact ⟨0, [], _, 0, [], _, a1, s1, by omega, rfl, rfl, Nat.le_refl _, Nat.le_refl _, by omega, by omega, HD1.out, HO1.out, Lib.hid (fun k hk => by
      obtain rfl : w.heap.size + 1 + 1 + 1 = k := Option.some.inj hk
      exact ⟨by omega, by omega, fun e => by have : w.heap.size + 1 = w.heap.size + 1 + 1 + 1 := Option.some.inj e; omega⟩)⟩
  case round =>
    obtain ⟨k, ws, B, cb, xs, u, at3, sd3, hk, rfl, rfl, hwl2, hxl, ht1, ht2, HD, HO, HAP⟩ := hrel
    by_cases hlt : (k : Int) < y
    · go_wp2_with fail
      refine (src_pick W0 b v bs at3 sd3 7 _ HD.out.src (by omega)).mono ?_
      rintro e w3 ⟨z, at4, sd4, rfl, hz, hq1, hq2, HS3, HC3⟩
      have HD3 := Lib.hid (HD.out.pick HS3 HC3)
      have HO3 := Lib.hid (HO.out.chg HC3 (fun k hk e => by have := (HO.out.ge k hk).1; omega))
      obtain ⟨z0, _, z2, _⟩ := hz
      have z2 := z2 (by omega)
      obtain ⟨n, rfl⟩ := Int.eq_ofNat_of_zero_le z0
      have hn : n < 7 := by omega
      clear HS3 HC3 HD HO z0 z2
      have hz3 := HD3.out.chg.size
      go_wp2_with (at_builtin; refine wpList_append_by3 rfl _ _ rfl w.heap.size (.slice B ws.length cb) ws _ _ rfl rfl rfl HO3.out (by omega) hz3 ?_; intro g c5 w5 hO5 hg5 hgl; (have HO5 := Lib.hid hO5); (have HG5 := Lib.hid hg5); (have HL5 := Lib.hid hgl); clear hO5 hg5 hgl)
      have HD5 := Lib.hid (HD3.out.far HG5.out (fun k hk => by
        have h9 := HAP.out k hk
        have h8 := (HO3.out.ge k hk).1
        exact ⟨h8, h9.1, h9.2.1, h9.2.2⟩))
      have HAP5 : Hid (∀ k, BY (.slice (some ⟨g, 0, none⟩) (ws.length + 1) c5) k → k ≠ w.heap.size ∧ k ≠ w.heap.size + 1 + 1 ∧ ¬ BY u k) := Lib.hid (fun k hk => by
        obtain rfl : g = k := Option.some.inj hk
        rcases HL5.out with h9 | h9
        · exact HAP.out g h9
        · have h8 := HD3.out.bp.lt
          have h7 := HD3.out.bq.lt
          exact ⟨by omega, by omega, fun e => by have := (HD3.out.own.ge g e).2; omega⟩)
      clear HD3 HO3 HG5 HL5 HAP
      refine (src_one W0 b v bs at4 sd4 7 _ HD5.out.src (by omega)).mono ?_
      rintro e w6 ⟨x, at6, sd6, rfl, hq3, hq4, HS6, HC6⟩
      have HD6 := Lib.hid (HD5.out.pick HS6 HC6)
      have HO6 := Lib.hid (HO5.out.chg HC6 (fun k hk e => by have := (HO5.out.ge k hk).1; omega))
      clear HS6 HC6 HD5 HO5
      cases x with
      | false =>
        go_wp2_with fail
        go_roundw
        case rel => exact ⟨k + 1, ws ++ [_], some ⟨g, 0, none⟩, c5, xs, u, at6, sd6, by omega, by go_num, by rw [List.length_append]; rfl, by rw [List.length_append]; simp; omega, by omega, by omega, by omega, HD6.out, by rw [List.length_append]; exact HO6.out, by rw [List.length_append]; exact HAP5.out⟩
        case measure => simp [intOf]; omega
      | true =>
        have hz6 := HD6.out.chg.size
        obtain ⟨_, hc1, _, hf1, _⟩ := HD6.out.bq
        go_wp2_with (at_builtin; refine wpList_append_i3 rfl _ _ rfl w.heap.size u xs k rfl rfl HD6.out.own (by omega) hz6 ?_; intro g7 c7 w7 hO7 hg7 hgl7; (have HD7 := Lib.hid (HD6.out.grow hO7 hg7 hgl7)); (have HO7 := Lib.hid (HO6.out.chg hg7 (fun k hk e => (HAP5.out k hk).2.2 e))); (have HG7 := Lib.hid hgl7); (have HC7 := Lib.hid (HD6.out.bq.chg hg7 (fun e => (HD6.out.hu _ e).2 rfl))); clear hO7 hg7 hgl7; (obtain ⟨_, hd1, _, hg1, _⟩ := HC7.out); clear hc1 hf1)
        have HO8 := Lib.hid (HO7.out.chg (chg_set w7 (w.heap.size + 1 + 1) 1 (.slice (some ⟨g7, 0, none⟩) (xs.length + 1) c7)) (fun k hk e => (HAP5.out k hk).2.1 e))
        have HAP8 : Hid (∀ k, BY (.slice (some ⟨g, 0, none⟩) (ws.length + 1) c5) k → k ≠ w.heap.size ∧ k ≠ w.heap.size + 1 + 1 ∧ ¬ BY (.slice (some ⟨g7, 0, none⟩) (xs.length + 1) c7) k) := Lib.hid (fun k hk => ⟨(HAP5.out k hk).1, (HAP5.out k hk).2.1, fun e => by
          obtain rfl : g7 = k := Option.some.inj e
          rcases HG7.out with h9 | h9
          · exact (HAP5.out g7 hk).2.2 h9
          · have := (HO6.out.ge g7 hk).2; omega⟩)
        go_roundw
        case rel => exact ⟨k + 1, ws ++ [_], some ⟨g, 0, none⟩, c5, xs ++ [(k : Int)], _, at6, sd6, by omega, by go_num, by rw [List.length_append]; rfl, by rw [List.length_append]; simp; omega, by rw [List.length_append]; simp; omega, by omega, by omega, HD7.out, by rw [List.length_append]; exact HO8.out, by rw [List.length_append]; exact HAP8.out⟩
        case measure => simp [intOf]; omega
    · have hcv := conv_rb HO.out.rd
      obtain ⟨_, hc1, hf0, hf1, _⟩ := HD.out.bq
      obtain ⟨hp0, hp1, hpf0, hpf1, _⟩ := HD.out.bp
      obtain ⟨A, c, rfl, _, _, _⟩ := HD.out.own.rd.open2
      have hwsz : (⟨ws.toArray⟩ : ByteArray).size = ws.length := rfl
      go_wp2_with fail
      refine bodyPost_ret (v := .agg #[.string ⟨ws.toArray⟩, .slice A xs.length c]) (by simp [results, Try.results58, go_sem, hp0, hp1]) rfl ?_
      have HF := (HD.out.text ⟨ws.toArray⟩).out (.string ⟨ws.toArray⟩) (.slice A xs.length c)
      exact ⟨_, A, c, xs, at3, sd3, rfl, by rw [hwsz]; omega, by omega, by omega, by omega, HF.1, HF.2.1, HF.2.2⟩

end Go.Proofs.Ytikiomjgnpdldaa
