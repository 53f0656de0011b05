/-
  Parts of the proof: Pb2.
-/
import Derived.Test.YtfgopboddkhckaaGreatDoorKw20
import Derived.Test.YtfgopboddkhckaaGreatDoorKw27
import Derived.BigRegion
namespace Go.Proofs.YtfgopboddkhckaaGreatDoor
open Go.ChangeShapes Go.WideShapes Go.ChangeAt Go.RowKit Go.Sort Go.Joins
set_option linter.unusedVariables false
set_option maxRecDepth 100000
abbrev k3 (t lo hi : Nat) : Int × Int × Int := ((t : Int), (lo : Int), (hi : Int))
def pRes (L P t lo hi : Nat) : Option PV := pB L P (L - t) t lo hi
structure PMem (w : World) (p L P bb bk bd : Nat) : Prop where
 head : PSH w p L P bb bk bd
 maps : ∃ fb fk fd, MapS w bb fb ∧ MapS w bk fk ∧ MapS w bd fd ∧
   ∀ t lo hi : Nat, (fk (k3 t lo hi) = none ∧ fd (k3 t lo hi) = none) ∨
     (fk (k3 t lo hi) = some (.bool (pRes L P t lo hi).isSome) ∧ fd (k3 t lo hi) = some (.bool !(pRes L P t lo hi).isSome) ∧ fb (k3 t lo hi) = some (PVv ((pRes L P t lo hi).getD PV.zero)))
 ne1 : bb ≠ bk
 ne2 : bb ≠ bd
 ne3 : bk ≠ bd
 np1 : p ≠ bb
 np2 : p ≠ bk
 np3 : p ≠ bd
def S3 (bb bk bd : Nat) : Nat → Prop := fun k => k = bb ∨ k = bk ∨ k = bd
theorem PMem.lt {w : World} {p L P bb bk bd : Nat} (h : PMem w p L P bb bk bd) : bb < w.heap.size ∧ bk < w.heap.size ∧ bd < w.heap.size ∧ p < w.heap.size := by
 obtain ⟨fb, fk, fd, h1, h2, h3, _⟩ := h.maps
 exact ⟨h1.lt, h2.lt, h3.lt, block_lt_of_cell h.head.c0⟩
theorem PMem.ext {w w' : World} {p L P bb bk bd : Nat} (h : PMem w p L P bb bk bd) (hb : Below w.heap.size w w') : PMem w' p L P bb bk bd := by
 obtain ⟨fb, fk, fd, h1, h2, h3, h4⟩ := h.maps
 exact ⟨h.head.ext hb, ⟨fb, fk, fd, h1.of_block (hb.block _ h1.lt), h2.of_block (hb.block _ h2.lt), h3.of_block (hb.block _ h3.lt), h4⟩, h.ne1, h.ne2, h.ne3, h.np1, h.np2, h.np3⟩
theorem PMem.chg {S : Nat → Prop} {w w' : World} {p L P bb bk bd : Nat} (h : PMem w p L P bb bk bd) (hb : Chg S w w') (hS : ∀ k, S k → k ≠ p ∧ k ≠ bb ∧ k ≠ bk ∧ k ≠ bd) : PMem w' p L P bb bk bd := by
 obtain ⟨fb, fk, fd, h1, h2, h3, h4⟩ := h.maps
 exact ⟨h.head.chg hb (fun hs => (hS _ hs).1 rfl), ⟨fb, fk, fd, h1.of_block (hb.block _ h1.lt (fun hs => (hS _ hs).2.1 rfl)), h2.of_block (hb.block _ h2.lt (fun hs => (hS _ hs).2.2.1 rfl)), h3.of_block (hb.block _ h3.lt (fun hs => (hS _ hs).2.2.2 rfl)), h4⟩, h.ne1, h.ne2, h.ne3, h.np1, h.np2, h.np3⟩
structure FB (w W : World) (p L P bb bk bd s r : Nat) (t lo hi : Nat) : Prop where
 mem : PMem W p L P bb bk bd
 chg : Chg (S3 bb bk bd) w W
 s0 : W.cell? ⟨s, 0, none⟩ = some (.int .i64 (t : Int))
 s1 : W.cell? ⟨s, 1, none⟩ = some (.int .i64 (lo : Int))
 s2 : W.cell? ⟨s, 2, none⟩ = some (.int .i64 (hi : Int))
 r0 : W.cell? ⟨r, 0, none⟩ = some (.int .i64 0)
 r1 : W.cell? ⟨r, 1, none⟩ = some (.int .i64 0)
 r2 : W.cell? ⟨r, 2, none⟩ = some (.string ⟨#[]⟩)
 r3 : W.cell? ⟨r, 3, none⟩ = some (.string ⟨#[]⟩)
 rf : ∀ j, W.frozen? ⟨r, j, none⟩ = false
 sge : w.heap.size ≤ s
 rge : w.heap.size ≤ r
 ne : s ≠ r
 rlt : r < W.heap.size
theorem FB.ext {w W W' : World} {p L P bb bk bd s r t lo hi : Nat} (h : FB w W p L P bb bk bd s r t lo hi) (hb : Below W.heap.size W W') : FB w W' p L P bb bk bd s r t lo hi :=
 ⟨h.mem.ext hb, h.chg.trans (Chg.of_below hb _), cell_keep h.s0 hb, cell_keep h.s1 hb, cell_keep h.s2 hb, cell_keep h.r0 hb, cell_keep h.r1 hb, cell_keep h.r2 hb, cell_keep h.r3 hb, fun j => by rw [(bcell hb).2 r j h.rlt]; exact h.rf j, h.sge, h.rge, h.ne, Nat.lt_of_lt_of_le h.rlt hb.size⟩
theorem lookup_bool {P : Program} {T K E : TypeId} (hT : P.underlying T = some (.map K E)) (hK : Key3 P K) (hz : ∀ w, (zeroValue E).run P w = .ok (.bool false) w) {w : World} {b : Nat} {f : Int × Int × Int → Option Value} (h : MapS w b f) (k : Int × Int × Int) {v : Value} (hv : (f k).getD (.bool false) = v) :
   (Instr.lookup T (.map (some b)) (K3 k) false).run P w = .ok v w := by
 rw [run_lookup3 hT hK (hz w) h.is k, hv]
theorem chg_frozen {S : Nat → Prop} {w w' : World} (h : Chg S w w') {p : Addr} (hl : p.block < w.heap.size) (hp : ¬ S p.block) : w'.frozen? p = w.frozen? p := by
 have := h.block p.block hl hp
 unfold World.frozen?
 rw [this]
theorem Chg.more {S S' : Nat → Prop} {w a b : World} (h : Chg S w a) (k : Chg S' a b) (hS : ∀ j, S' j → S j ∨ w.heap.size ≤ j) : Chg S w b :=
 ⟨k.os.trans h.os, k.tape.trans h.tape, k.output.trans h.output, Nat.le_trans h.size k.size, fun i hi hn => (k.block i (Nat.lt_of_lt_of_le hi h.size) (fun hs => (hS i hs).elim hn (fun h2 => by omega))).trans (h.block i hi hn)⟩
structure FE (w W : World) (p L P bb bk bd r : Nat) (x0 x1 x2 x3 : Value) : Prop where
 mem : PMem W p L P bb bk bd
 chg : Chg (S3 bb bk bd) w W
 u0 : W.cell? ⟨r, 0, none⟩ = some x0
 u1 : W.cell? ⟨r, 1, none⟩ = some x1
 u2 : W.cell? ⟨r, 2, none⟩ = some x2
 u3 : W.cell? ⟨r, 3, none⟩ = some x3
theorem FB.fin {w W : World} {p L P bb bk bd s r t lo hi : Nat} (h : FB w W p L P bb bk bd s r t lo hi) (hl : bb < w.heap.size ∧ bk < w.heap.size ∧ bd < w.heap.size ∧ p < w.heap.size) (x0 x1 x2 x3 : Value) :
   FE w ((((W.setCell ⟨r, 0, none⟩ x0).setCell ⟨r, 1, none⟩ x1).setCell ⟨r, 2, none⟩ x2).setCell ⟨r, 3, none⟩ x3) p L P bb bk bd r x0 x1 x2 x3 := by
 have hc3 : Chg (fun k => k = r) W ((((W.setCell ⟨r, 0, none⟩ x0).setCell ⟨r, 1, none⟩ x1).setCell ⟨r, 2, none⟩ x2).setCell ⟨r, 3, none⟩ x3) := ((((Chg.setCell (S := fun k => k = r) _ (p := ⟨r, 0, none⟩) rfl _).trans (Chg.setCell (S := fun k => k = r) _ (p := ⟨r, 1, none⟩) rfl _)).trans (Chg.setCell (S := fun k => k = r) _ (p := ⟨r, 2, none⟩) rfl _)).trans (Chg.setCell (S := fun k => k = r) _ (p := ⟨r, 3, none⟩) rfl _))
 obtain ⟨l1, l2, l3, l4⟩ := hl
 have hg := h.rge
 have r0 := h.r0
 have r1 := h.r1
 have r2 := h.r2
 have r3 := h.r3
 refine ⟨h.mem.chg hc3 (fun k hk => ?_), h.chg.more hc3 (fun k hk => .inr ?_), ?_, ?_, ?_, ?_⟩
 · subst hk; exact ⟨by omega, by omega, by omega, by omega⟩
 · subst hk; exact hg
 · simp [go_sem, r0]
 · simp [go_sem, r1]
 · simp [go_sem, r2]
 · simp [go_sem, r3]
theorem FB.turn {w W W' : World} {p L P bb bk bd s r t lo hi : Nat} (h : FB w W p L P bb bk bd s r t lo hi) (hl : bb < w.heap.size ∧ bk < w.heap.size ∧ bd < w.heap.size ∧ p < w.heap.size) (hm : PMem W' p L P bb bk bd) (hc : Chg (S3 bb bk bd) W W') : FB w W' p L P bb bk bd s r t lo hi := by
 have hg := h.rge
 have hsg := h.sge
 have ns : ¬ S3 bb bk bd s := by unfold S3; omega
 have nr : ¬ S3 bb bk bd r := by unfold S3; omega
 exact ⟨hm, h.chg.trans hc, hc.cell h.s0 ns, hc.cell h.s1 ns, hc.cell h.s2 ns, hc.cell h.r0 nr, hc.cell h.r1 nr, hc.cell h.r2 nr, hc.cell h.r3 nr, fun j => by rw [chg_frozen hc h.rlt nr]; exact h.rf j, h.sge, h.rge, h.ne, Nat.lt_of_lt_of_le h.rlt hc.size⟩
theorem FB.far {S : Nat → Prop} {w W W' : World} {p L P bb bk bd s r t lo hi : Nat} (h : FB w W p L P bb bk bd s r t lo hi) (hl : bb < w.heap.size ∧ bk < w.heap.size ∧ bd < w.heap.size ∧ p < w.heap.size) (hc : Chg S W W') (hS : ∀ k, S k → w.heap.size ≤ k ∧ k ≠ s ∧ k ≠ r) : FB w W' p L P bb bk bd s r t lo hi := by
 have ns : ¬ S s := fun e => (hS _ e).2.1 rfl
 have nr : ¬ S r := fun e => (hS _ e).2.2 rfl
 exact ⟨h.mem.chg hc (fun k hk => by have := (hS k hk).1; omega), h.chg.more hc (fun k hk => .inr (hS k hk).1), hc.cell h.s0 ns, hc.cell h.s1 ns, hc.cell h.s2 ns, hc.cell h.r0 nr, hc.cell h.r1 nr, hc.cell h.r2 nr, hc.cell h.r3 nr, fun j => by rw [chg_frozen hc h.rlt nr]; exact h.rf j, h.sge, h.rge, h.ne, Nat.lt_of_lt_of_le h.rlt hc.size⟩
structure B4 (W : World) (g : Nat) (v : PV) : Prop where
 g0 : W.cell? ⟨g, 0, none⟩ = some (.int .i64 (v.c : Int))
 g1 : W.cell? ⟨g, 1, none⟩ = some (.int .i64 (v.p : Int))
 g2 : W.cell? ⟨g, 2, none⟩ = some (.string (bsq v.lo))
 g3 : W.cell? ⟨g, 3, none⟩ = some (.string (bsq v.hi))
 gf : ∀ j, W.frozen? ⟨g, j, none⟩ = false
theorem B4.lt {W : World} {g : Nat} {v : PV} (h : B4 W g v) : g < W.heap.size := block_lt_of_cell h.g0
theorem B4.chg {S : Nat → Prop} {W W' : World} {g : Nat} {v : PV} (h : B4 W g v) (hc : Chg S W W') (hS : ¬ S g) : B4 W' g v :=
 ⟨hc.cell h.g0 hS, hc.cell h.g1 hS, hc.cell h.g2 hS, hc.cell h.g3 hS, fun j => by rw [chg_frozen hc h.lt hS]; exact h.gf j⟩
theorem B4.ext {W W' : World} {g : Nat} {v : PV} (h : B4 W g v) (hb : Below W.heap.size W W') : B4 W' g v := h.chg (S := fun _ => False) (Chg.of_below hb _) (fun e => e)
theorem B4.new (W : World) (v : PV) (T : TypeId) : B4 (W.alloc (.cells #[.int .i64 (v.c : Int), .int .i64 (v.p : Int), .string (bsq v.lo), .string (bsq v.hi)] T)) W.heap.size v :=
 ⟨by simp [go_sem], by simp [go_sem], by simp [go_sem], by simp [go_sem], fun j => by simp [go_sem]⟩
theorem B4.put {W : World} {g : Nat} {u : PV} (h : B4 W g u) (v : PV) : B4 ((((W.setCell ⟨g, 0, none⟩ (.int .i64 (v.c : Int))).setCell ⟨g, 1, none⟩ (.int .i64 (v.p : Int))).setCell ⟨g, 2, none⟩ (.string (bsq v.lo))).setCell ⟨g, 3, none⟩ (.string (bsq v.hi))) g v := by
 have g0 := h.g0
 have g1 := h.g1
 have g2 := h.g2
 have g3 := h.g3
 exact ⟨by simp [go_sem, g0], by simp [go_sem, g1], by simp [go_sem, g2], by simp [go_sem, g3], fun j => by simpa using h.gf j⟩
theorem chg_put (W : World) (g : Nat) (x0 x1 x2 x3 : Value) : Chg (fun k => k = g) W ((((W.setCell ⟨g, 0, none⟩ x0).setCell ⟨g, 1, none⟩ x1).setCell ⟨g, 2, none⟩ x2).setCell ⟨g, 3, none⟩ x3) :=
 ((((Chg.setCell (S := fun k => k = g) _ (p := ⟨g, 0, none⟩) rfl _).trans (Chg.setCell (S := fun k => k = g) _ (p := ⟨g, 1, none⟩) rfl _)).trans (Chg.setCell (S := fun k => k = g) _ (p := ⟨g, 2, none⟩) rfl _)).trans (Chg.setCell (S := fun k => k = g) _ (p := ⟨g, 3, none⟩) rfl _))
theorem chg_put3 (W : World) (g j : Nat) (x0 x1 x2 : Value) : Chg (fun k => k = g) W (((W.setCell ⟨g, 0, none⟩ x0).setCell ⟨g, 1, none⟩ x1).setCell ⟨g, j, none⟩ x2) :=
 (((Chg.setCell (S := fun k => k = g) _ (p := ⟨g, 0, none⟩) rfl _).trans (Chg.setCell (S := fun k => k = g) _ (p := ⟨g, 1, none⟩) rfl _)).trans (Chg.setCell (S := fun k => k = g) _ (p := ⟨g, j, none⟩) rfl _))
theorem B4.putLo {W : World} {g : Nat} {u : PV} (h : B4 W g u) (q : Nat) : B4 (((W.setCell ⟨g, 0, none⟩ (.int .i64 ((u.c : Int) + (cut8 q : Int)))).setCell ⟨g, 1, none⟩ (.int .i64 ((u.p : Int) + 1))).setCell ⟨g, 2, none⟩ (.string (bsq [let8 q] ++ bsq u.lo))) g (preLo q u) := by
 have g0 := h.g0
 have g1 := h.g1
 have g2 := h.g2
 have g3 := h.g3
 refine ⟨by simp [go_sem, g0, preLo], by simp [go_sem, g1, preLo], ?_, by simp [go_sem, g3, preLo], fun j => by simpa using h.gf j⟩
 rw [bsq_app]
 simp [go_sem, g2, preLo]
theorem B4.putHi {W : World} {g : Nat} {u : PV} (h : B4 W g u) (q : Nat) : B4 (((W.setCell ⟨g, 0, none⟩ (.int .i64 ((u.c : Int) + (cut8 q : Int)))).setCell ⟨g, 1, none⟩ (.int .i64 ((u.p : Int) + 1))).setCell ⟨g, 3, none⟩ (.string (bsq [let8 q] ++ bsq u.hi))) g (preHi q u) := by
 have g0 := h.g0
 have g1 := h.g1
 have g2 := h.g2
 have g3 := h.g3
 refine ⟨by simp [go_sem, g0, preHi], by simp [go_sem, g1, preHi], by simp [go_sem, g2, preHi], ?_, fun j => by simpa using h.gf j⟩
 rw [bsq_app]
 simp [go_sem, g3, preHi]
def accK (L P n t lo hi c : Nat) : Option PV :=
 ([(false, false), (true, false), (false, true), (true, true)].take c).foldl (fun acc (ch : Bool × Bool) => pick acc (if may L P t lo hi ch.1 ch.2 = true then (pB L P n (t + 1) (if ch.1 then t + 1 else lo) (if ch.2 then t + 1 else hi)).map (pre (t + 1) lo hi ch.1 ch.2) else none)) none
structure FL (w W : World) (p L P bb bk bd s r g t lo hi : Nat) (acc : Option PV) : Prop where
 fb : FB w W p L P bb bk bd s r t lo hi
 best : B4 W g (acc.getD PV.zero)
 gge : w.heap.size ≤ g
 gs : g ≠ s
 gr : g ≠ r
theorem FL.ext {w W W' : World} {p L P bb bk bd s r g t lo hi : Nat} {acc : Option PV} (h : FL w W p L P bb bk bd s r g t lo hi acc) (hb : Below W.heap.size W W') : FL w W' p L P bb bk bd s r g t lo hi acc :=
 ⟨h.fb.ext hb, h.best.ext hb, h.gge, h.gs, h.gr⟩
theorem may_lo {L P t lo hi : Nat} {b : Bool} (h : may L P t lo hi false b = true) : t + 1 - lo ≤ 3 := by
 unfold may at h
 by_cases hq : t + 1 - lo > 3
 · rw [if_pos (by simp [hq])] at h; cases h
 · omega
theorem may_hi {L P t lo hi : Nat} {a : Bool} (h : may L P t lo hi a false = true) : t + 1 - hi ≤ 3 := by
 unfold may at h
 by_cases hq : t + 1 - hi > 3
 · rw [if_pos (by simp [hq])] at h; cases h
 · omega
theorem FL.turn {w W W' : World} {p L P bb bk bd s r g t lo hi : Nat} {acc : Option PV} (h : FL w W p L P bb bk bd s r g t lo hi acc) (hl : bb < w.heap.size ∧ bk < w.heap.size ∧ bd < w.heap.size ∧ p < w.heap.size) (hm : PMem W' p L P bb bk bd) (hc : Chg (S3 bb bk bd) W W') : FL w W' p L P bb bk bd s r g t lo hi acc :=
 ⟨h.fb.turn hl hm hc, h.best.chg hc (by have := h.gge; unfold S3; omega), h.gge, h.gs, h.gr⟩
theorem FL.put {w W : World} {p L P bb bk bd s r g t lo hi : Nat} {acc : Option PV} (h : FL w W p L P bb bk bd s r g t lo hi acc) (hl : bb < w.heap.size ∧ bk < w.heap.size ∧ bd < w.heap.size ∧ p < w.heap.size) (v : PV) :
   FL w ((((W.setCell ⟨g, 0, none⟩ (.int .i64 (v.c : Int))).setCell ⟨g, 1, none⟩ (.int .i64 (v.p : Int))).setCell ⟨g, 2, none⟩ (.string (bsq v.lo))).setCell ⟨g, 3, none⟩ (.string (bsq v.hi))) p L P bb bk bd s r g t lo hi (some v) :=
 ⟨h.fb.far hl (chg_put W g _ _ _ _) (fun k hk => by subst hk; exact ⟨h.gge, h.gs, h.gr⟩), h.best.put v, h.gge, h.gs, h.gr⟩
theorem FL.far {S : Nat → Prop} {w W W' : World} {p L P bb bk bd s r g t lo hi : Nat} {acc : Option PV} (h : FL w W p L P bb bk bd s r g t lo hi acc) (hl : bb < w.heap.size ∧ bk < w.heap.size ∧ bd < w.heap.size ∧ p < w.heap.size) (hc : Chg S W W') (hS : ∀ k, S k → w.heap.size ≤ k ∧ k ≠ s ∧ k ≠ r ∧ k ≠ g) : FL w W' p L P bb bk bd s r g t lo hi acc :=
 ⟨h.fb.far hl hc (fun k hk => ⟨(hS k hk).1, (hS k hk).2.1, (hS k hk).2.2.1⟩), h.best.chg hc (fun e => (hS _ e).2.2.2 rfl), h.gge, h.gs, h.gr⟩
theorem cut8_le (q : Nat) : cut8 q ≤ 1 := by unfold cut8; split <;> (try split) <;> omega
theorem piece_at {t lo : Nat} (h1 : lo ≤ t) (h4 : t + 1 - lo ≤ 4) (w : World) : Calls Tryz.prog 243 #[.int .i64 ((t : Int) + 1 - (lo : Int))] w (RetP (.string (bsq [let8 (t + 1 - lo)])) w) := by
 have h := impl_piece8 (t + 1 - lo) (by omega) h4 w
 rwa [show ((t + 1 - lo : Nat) : Int) = (t : Int) + 1 - lo by omega] at h
structure CK (W : World) (p bb bk bd s g t lo hi : Nat) (v : PV) : Prop where
 c2 : W.cell? ⟨p, 2, none⟩ = some (.map (some bb))
 c3 : W.cell? ⟨p, 3, none⟩ = some (.map (some bk))
 c4 : W.cell? ⟨p, 4, none⟩ = some (.map (some bd))
 s0 : W.cell? ⟨s, 0, none⟩ = some (.int .i64 (t : Int))
 s1 : W.cell? ⟨s, 1, none⟩ = some (.int .i64 (lo : Int))
 s2 : W.cell? ⟨s, 2, none⟩ = some (.int .i64 (hi : Int))
 g0 : W.cell? ⟨g, 0, none⟩ = some (.int .i64 (v.c : Int))
 g1 : W.cell? ⟨g, 1, none⟩ = some (.int .i64 (v.p : Int))
 g2 : W.cell? ⟨g, 2, none⟩ = some (.string (bsq v.lo))
 g3 : W.cell? ⟨g, 3, none⟩ = some (.string (bsq v.hi))
theorem CK.chg {W W' : World} {p bb bk bd s g t lo hi b : Nat} {v : PV} (h : CK W p bb bk bd s g t lo hi v) (hc : Chg (fun k => k = b) W W') (h1 : p ≠ b) (h2 : s ≠ b) (h3 : g ≠ b) : CK W' p bb bk bd s g t lo hi v :=
 ⟨hc.cell h.c2 h1, hc.cell h.c3 h1, hc.cell h.c4 h1, hc.cell h.s0 h2, hc.cell h.s1 h2, hc.cell h.s2 h2, hc.cell h.g0 h3, hc.cell h.g1 h3, hc.cell h.g2 h3, hc.cell h.g3 h3⟩
theorem k3_inj {t lo hi t' lo' hi' : Nat} (h : k3 t' lo' hi' = k3 t lo hi) : t' = t ∧ lo' = lo ∧ hi' = hi := by
 unfold k3 at h
 simp only [Prod.mk.injEq] at h
 omega
theorem zero_bool (w : World) : (zeroValue 4).run Tryz.prog w = .ok (.bool false) w := by
 simp [go_sem]
theorem zero_best (w : World) : (zeroValue 183).run Tryz.prog w = .ok (PVv PV.zero) w := by
 show _ = Result.ok (Value.agg #[.int .i64 0, .int .i64 0, .string ⟨#[]⟩, .string ⟨#[]⟩]) w
 simp [go_sem]
def FromP (L P n t lo hi p bb bk bd : Nat) (w : World) : Ending → World → Prop := fun e w' =>
  e = .returned (.tuple #[PVv ((pB L P n t lo hi).getD PV.zero), .bool (pB L P n t lo hi).isSome]) ∧ PMem w' p L P bb bk bd ∧ Chg (S3 bb bk bd) w w'
set_option maxHeartbeats 64000000 in
theorem impl_from (p L P bb bk bd : Nat) (hP : 1 ≤ P) (hL : L ≤ 80) : ∀ (n t lo hi : Nat), t + n = L → lo ≤ t → hi ≤ t → t - lo ≤ 3 → t - hi ≤ 3 → ∀ w : World, PMem w p L P bb bk bd →
   Calls Tryz.prog 215 #[.pointer (some ⟨p, 0, none⟩), .agg #[.int .i64 (t : Int), .int .i64 (lo : Int), .int .i64 (hi : Int)]] w (FromP L P n t lo hi p bb bk bd w) := by
 intro n
 induction n with
 | zero =>
   intro t lo hi ht hlo hhi h3 h3' w hM
   have HLT := Lib.hid hM.lt
   obtain rfl : t = L := by omega
   have HF : Hid (FB w ((w.alloc (.cells #[.int .i64 (t : Int), .int .i64 (lo : Int), .int .i64 (hi : Int)] 241)).alloc (.cells #[.int .i64 0, .int .i64 0, .string ⟨#[]⟩, .string ⟨#[]⟩] 183)) p t P bb bk bd w.heap.size (w.heap.size + 1) t lo hi) := Lib.hid
     ⟨hM.ext (ext_alloc (ext_alloc1 _ _) _), Chg.of_below (ext_alloc (ext_alloc1 _ _) _) _, by simp [go_sem], by simp [go_sem], by simp [go_sem], by simp [go_sem], by simp [go_sem], by simp [go_sem], by simp [go_sem], fun j => by simp [go_sem], Nat.le_refl _, Nat.le_succ _, by omega, by simp⟩
   clear hM
   go_enter Tryz.func215, Tryz.ntmps215
   go_wp2_with fail
   generalize ((w.alloc (.cells #[.int .i64 (t : Int), .int .i64 (lo : Int), .int .i64 (hi : Int)] 241)).alloc (.cells #[.int .i64 0, .int .i64 0, .string ⟨#[]⟩, .string ⟨#[]⟩] 183)) = w1 at *
   generalize w.heap.size + 1 = r at *
   have q0 := fun d os => cell_regrown HF.out.s0 d os
   have q1 := fun d os => cell_regrown HF.out.mem.head.c0 d os
   refine wp_region_quiet_below (by kernel_rfl) (by kernel_rfl) ?_
   repeat (go_big_quiet_step (fail))
   refine wpQuiet_nil ?_
   intro w' hw'
   obtain ⟨q, rfl⟩ := hw'
   replace HF := Lib.hid (HF.out.ext (below_regrown _ q.d q.os))
   clear q0 q1
   generalize grow (redrawn w1 q.d) q.os = w2 at *
   obtain ⟨hm, hc, _, _, _, r0, r1, r2, r3, rf, _, rge, _, rlt⟩ := HF.out
   go_wp2_with fail
   have HE := Lib.hid (HF.out.fin HLT.out (.int .i64 0) (.int .i64 0) (.string ⟨#[]⟩) (.string ⟨#[]⟩))
   obtain ⟨w9, hw9⟩ : ∃ x, ((((w2.setCell ⟨r, 0, none⟩ (.int .i64 0)).setCell ⟨r, 1, none⟩ (.int .i64 0)).setCell ⟨r, 2, none⟩ (.string ⟨#[]⟩)).setCell ⟨r, 3, none⟩ (.string ⟨#[]⟩)) = x := ⟨_, rfl⟩
   rw [hw9] at HE
   rw [hw9]
   have u0 := HE.out.u0
   have u1 := HE.out.u1
   have u2 := HE.out.u2
   have u3 := HE.out.u3
   clear hw9
   refine bodyPost_ret (v := .tuple #[.agg #[(.int .i64 0), (.int .i64 0), (.string ⟨#[]⟩), (.string ⟨#[]⟩)], .bool true]) (by simp [results, Tryz.results215, go_sem, u0, u1, u2, u3]) rfl ?_
   exact ⟨rfl, HE.out.mem, HE.out.chg⟩
 | succ n ih =>
   intro t lo hi ht hlo hhi h3 h3' w hM
   have HLT := Lib.hid hM.lt
   have HF : Hid (FB w ((w.alloc (.cells #[.int .i64 (t : Int), .int .i64 (lo : Int), .int .i64 (hi : Int)] 241)).alloc (.cells #[.int .i64 0, .int .i64 0, .string ⟨#[]⟩, .string ⟨#[]⟩] 183)) p L P bb bk bd w.heap.size (w.heap.size + 1) t lo hi) := Lib.hid
     ⟨hM.ext (ext_alloc (ext_alloc1 _ _) _), Chg.of_below (ext_alloc (ext_alloc1 _ _) _) _, by simp [go_sem], by simp [go_sem], by simp [go_sem], by simp [go_sem], by simp [go_sem], by simp [go_sem], by simp [go_sem], fun j => by simp [go_sem], Nat.le_refl _, Nat.le_succ _, by omega, by simp⟩
   clear hM
   have htL : ((t : Int) == (L : Int)) = false := beq_eq_false_iff_ne.2 (by omega)
   go_enter Tryz.func215, Tryz.ntmps215
   go_wp2_with fail
   generalize ((w.alloc (.cells #[.int .i64 (t : Int), .int .i64 (lo : Int), .int .i64 (hi : Int)] 241)).alloc (.cells #[.int .i64 0, .int .i64 0, .string ⟨#[]⟩, .string ⟨#[]⟩] 183)) = w1 at *
   generalize w.heap.size + 1 = r at *
   obtain ⟨s, hs⟩ : ∃ s, w.heap.size = s := ⟨_, rfl⟩
   have HS := Lib.hid hs
   rw [hs] at HF
   rw [hs]
   clear hs
   have q0 := fun d os => cell_regrown HF.out.s0 d os
   have q1 := fun d os => cell_regrown HF.out.mem.head.c0 d os
   refine wp_region_quiet_below (by kernel_rfl) (by kernel_rfl) ?_
   repeat (go_big_quiet_step (fail))
   refine wpQuiet_nil ?_
   intro w' hw'
   obtain ⟨q, rfl⟩ := hw'
   replace HF := Lib.hid (HF.out.ext (below_regrown _ q.d q.os))
   clear q0 q1
   generalize grow (redrawn w1 q.d) q.os = w2 at *
   obtain ⟨fb, fk, fd, mb, mk, md, hmemo⟩ := HF.out.mem.maps
   have HMB := Lib.hid mb
   have HMK := Lib.hid mk
   have HMD := Lib.hid md
   have HR : Hid (pRes L P t lo hi = pB L P (n + 1) t lo hi) := Lib.hid (by unfold pRes; rw [show L - t = n + 1 by omega])
   have hk := hmemo t lo hi
   have HMEMO := Lib.hid hmemo
   clear mb mk md hmemo
   rw [HR.out] at hk
   have s0 := fun d os => cell_regrown HF.out.s0 d os
   have s1 := fun d os => cell_regrown HF.out.s1 d os
   have s2 := fun d os => cell_regrown HF.out.s2 d os
   have c3 := fun d os => cell_regrown HF.out.mem.head.c3 d os
   have c4 := fun d os => cell_regrown HF.out.mem.head.c4 d os
   rcases hk with ⟨hk1, hk2⟩ | ⟨hk1, hk2, hk3⟩
   · have l1 : ∀ d os, (Instr.lookup 236 (.map (some bk)) (.agg #[.int .i64 (t : Int), .int .i64 (lo : Int), .int .i64 (hi : Int)]) false).run Tryz.prog (grow (redrawn w2 d) os) = .ok (.bool false) (grow (redrawn w2 d) os) := fun d os => lookup_bool Tryz.underlying236 key3 zero_bool (HMK.out.of_block ((below_regrown w2 d os).block _ HMK.out.lt)) (k3 t lo hi) (by rw [hk1]; rfl)
     have l2 : ∀ d os, (Instr.lookup 236 (.map (some bd)) (.agg #[.int .i64 (t : Int), .int .i64 (lo : Int), .int .i64 (hi : Int)]) false).run Tryz.prog (grow (redrawn w2 d) os) = .ok (.bool false) (grow (redrawn w2 d) os) := fun d os => lookup_bool Tryz.underlying236 key3 zero_bool (HMD.out.of_block ((below_regrown w2 d os).block _ HMD.out.lt)) (k3 t lo hi) (by rw [hk2]; rfl)
     go_wp2_with fail
     refine wp_region_quiet_below (by kernel_rfl) (by kernel_rfl) ?_
     repeat (go_big_quiet_step (fail))
     refine wpQuiet_nil ?_
     intro w' hw'
     obtain ⟨q, rfl⟩ := hw'
     replace HF := Lib.hid (HF.out.ext (below_regrown _ q.d q.os))
     clear l1 l2 s0 s1 s2 c3 c4 hk1 hk2 HMB HMK HMD HMEMO
     generalize grow (redrawn w2 q.d) q.os = w2 at *
     go_wp2_with fail
     have HL0 : Hid (FL w (w2.alloc (.cells #[.int .i64 0, .int .i64 0, .string ⟨#[]⟩, .string ⟨#[]⟩] 183)) p L P bb bk bd s r w2.heap.size t lo hi (accK L P n t lo hi 0)) := Lib.hid
       ⟨HF.out.ext (ext_alloc1 _ _), B4.new w2 PV.zero _, HF.out.chg.size, by have : s < w2.heap.size := block_lt_of_cell HF.out.s0; omega, by have := HF.out.rlt; omega⟩
     generalize w2.alloc (.cells #[.int .i64 0, .int .i64 0, .string ⟨#[]⟩, .string ⟨#[]⟩] 183) = w3 at *
     obtain ⟨g, hg⟩ : ∃ g, w2.heap.size = g := ⟨_, rfl⟩
     rw [hg] at HL0
     rw [hg]
     clear hg HF
     go_loopw [51, 7] (fun i f wr => ∃ c : Nat, c ≤ 4 ∧ i = .int .i64 c ∧ f = .bool (accK L P n t lo hi c).isSome ∧ Hid (FL w wr p L P bb bk bd s r g t lo hi (accK L P n t lo hi c))) (fun i _ _ => 4 - (intOf i).toNat)
     case atStart => exact ⟨0, by omega, rfl, rfl, HL0⟩
     case round =>
       clear HL0
       obtain ⟨c, hc, rfl, rfl, HL⟩ := hrel
       rcases (show c = 0 ∨ c = 1 ∨ c = 2 ∨ c = 3 ∨ c = 4 by omega) with rfl | rfl | rfl | rfl | rfl
       · as_aux_lemma =>
         have HACC : Hid (accK L P n t lo hi (0 + 1) = pick (accK L P n t lo hi 0) (if may L P t lo hi false false = true then (pB L P n (t + 1) lo hi).map (pre (t + 1) lo hi false false) else none)) := Lib.hid rfl
         obtain ⟨acc, hacc⟩ : ∃ acc, accK L P n t lo hi 0 = acc := ⟨_, rfl⟩
         rw [hacc] at HL HACC
         rw [hacc]
         clear hacc
         have HMAY := Lib.hid (fun w h => impl_may p L P bb bk bd t lo hi false false hlo hhi (by omega) w h)
         have hp0 := HL.out.fb.s0
         have hp1 := HL.out.fb.s1
         have hp2 := HL.out.fb.s2
         have hbA : (bits BinOp.and IntKind.i64 (0 : Int) 1 == 1) = false := by decide +kernel
         have hbB : (bits BinOp.and IntKind.i64 (0 : Int) 2 == 2) = false := by decide +kernel
         cases hm : may L P t lo hi false false with
         | false =>
           rw [hm] at HMAY HACC
           have HA2 : Hid (accK L P n t lo hi (0 + 1) = acc) := Lib.hid (by rw [HACC.out]; rfl)
           clear hm HACC
           go_wp2_with fail
           refine (show Calls _ _ _ _ _ from HMAY.out _ HL.out.fb.mem.head).mono ?_
           rintro e w4 ⟨rfl, hb⟩
           replace HL := Lib.hid (HL.out.ext hb)
           clear hb hp0 hp1 hp2
           go_wp2_with fail
           go_roundw
           case rel => exact ⟨0 + 1, by omega, rfl, by rw [HA2.out], by rw [HA2.out]; exact HL⟩
           case measure => simp [intOf]
         | true =>
           have HMM := Lib.hid hm
           rw [hm] at HMAY HACC
           replace HACC : Hid (accK L P n t lo hi (0 + 1) = pick acc ((pB L P n (t + 1) lo hi).map (pre (t + 1) lo hi false false))) := Lib.hid HACC.out
           clear hm
           go_wp2_with fail
           refine (show Calls _ _ _ _ _ from HMAY.out _ HL.out.fb.mem.head).mono ?_
           rintro e w4 ⟨rfl, hb⟩
           replace HL := Lib.hid (HL.out.ext hb)
           clear hb hp0 hp1 hp2 HMAY
           have hp0 := HL.out.fb.s0
           have hp1 := HL.out.fb.s1
           have hp2 := HL.out.fb.s2
           go_wp2_with fail
           have HIH : Hid (∀ W, PMem W p L P bb bk bd → Calls Tryz.prog 215 #[.pointer (some ⟨p, 0, none⟩), .agg #[.int .i64 ((t : Int) + 1), .int .i64 ((lo : Int)), .int .i64 ((hi : Int))]] W (FromP L P n (t + 1) lo hi p bb bk bd W)) := Lib.hid (fun W h => ih (t + 1) lo hi (by omega) (by omega) (by omega) (by first | omega | exact may_lo HMM.out) (by first | omega | exact may_hi HMM.out) W h)
           have HBX : Hid (Below w4.heap.size w4 (w4.alloc (.cells #[.int .i64 ((t : Int) + 1), .int .i64 (lo : Int), .int .i64 (hi : Int)] 241))) := Lib.hid (ext_alloc1 _ _)
           have HX : Hid ((w4.alloc (.cells #[.int .i64 ((t : Int) + 1), .int .i64 (lo : Int), .int .i64 (hi : Int)] 241)).cell? ⟨w4.heap.size, 0, none⟩ = some (.int .i64 ((t : Int) + 1))) := Lib.hid (by simp [go_sem])
           have hxg : w.heap.size ≤ w4.heap.size := HL.out.fb.chg.size
           have hxs : w4.heap.size ≠ s ∧ w4.heap.size ≠ r ∧ w4.heap.size ≠ g := by
             have h1 := HL.out.fb.rlt
             have h2 : s < w4.heap.size := block_lt_of_cell HL.out.fb.s0
             have h3 := HL.out.best.lt
             omega
           refine (show Calls _ _ _ _ _ from HIH.out _ (HL.out.fb.mem.ext HBX.out)).mono ?_
           rintro e w5 ⟨rfl, hm5, hc5⟩
           replace HL := Lib.hid ((HL.out.ext HBX.out).turn HLT.out hm5 hc5)
           have hx0 := hc5.cell HX.out (by have := HLT.out; unfold S3; dsimp only; omega)
           have hxl : w4.heap.size < w5.heap.size := block_lt_of_cell hx0
           clear hm5 hc5 HX HBX HIH hp0 hp1 hp2
           generalize w4.heap.size = x at *
           have HPL := Lib.hid (pB_len L P n (t + 1) lo hi)
           obtain ⟨o, ho⟩ : ∃ o, pB L P n (t + 1) lo hi = o := ⟨_, rfl⟩
           rw [ho] at HACC HPL
           rw [ho]
           clear ho
           cases o with
           | none =>
             have HA2 : Hid (accK L P n t lo hi (0 + 1) = acc) := Lib.hid HACC.out
             have HL6 := Lib.hid (fun o => HL.out.ext (ext_alloc1 w5 o))
             clear HACC HPL
             go_wp2_with fail
             go_roundw
             case rel => exact ⟨0 + 1, by omega, rfl, by rw [HA2.out], by rw [HA2.out]; exact Lib.hid (HL6.out _)⟩
             case measure => simp [intOf]
           | some v =>
             have hvl := HPL.out v rfl
             have hyg : w.heap.size ≤ w5.heap.size ∧ w5.heap.size ≠ s ∧ w5.heap.size ≠ r ∧ w5.heap.size ≠ g ∧ w5.heap.size ≠ x := by
               have h1 := HL.out.fb.rlt
               have h2 : s < w5.heap.size := block_lt_of_cell HL.out.fb.s0
               have h3 := HL.out.best.lt
               have h4 := HL.out.fb.chg.size
               omega
             have HY : Hid (B4 (w5.alloc (.cells #[.int .i64 (v.c : Int), .int .i64 (v.p : Int), .string (bsq v.lo), .string (bsq v.hi)] 183)) w5.heap.size v) := Lib.hid (B4.new w5 v _)
             replace HL := Lib.hid (HL.out.ext (ext_alloc1 w5 (.cells #[.int .i64 (v.c : Int), .int .i64 (v.p : Int), .string (bsq v.lo), .string (bsq v.hi)] 183)))
             replace hx0 := cell_keep hx0 (ext_alloc1 w5 (.cells #[.int .i64 (v.c : Int), .int .i64 (v.p : Int), .string (bsq v.lo), .string (bsq v.hi)] 183))
             clear HPL
             have y0 := HY.out.g0
             have y1 := HY.out.g1
             have y2 := HY.out.g2
             have y3 := HY.out.g3
             cases acc with
             | none =>
               have HA2 : Hid (accK L P n t lo hi (0 + 1) = some (v)) := Lib.hid HACC.out
               have b0 := HL.out.best.g0
               have b1 := HL.out.best.g1
               have b2 := HL.out.best.g2
               have b3 := HL.out.best.g3
               have bf := HL.out.best.gf
               have HLP := Lib.hid (HL.out.put HLT.out (v))
               go_wp2_with fail
               go_roundw
               case rel => exact ⟨0 + 1, by omega, rfl, by rw [HA2.out]; rfl, by rw [HA2.out]; exact HLP⟩
               case measure => simp [intOf]
             | some a =>
               have HCL := Lib.hid (fun w => impl_lessP (v) a w)
               have HA2 : Hid (accK L P n t lo hi (0 + 1) = if plt (v) a then some (v) else some a) := Lib.hid HACC.out
               have b0 : _ = some (Value.int .i64 (a.c : Int)) := HL.out.best.g0
               have b1 : _ = some (Value.int .i64 (a.p : Int)) := HL.out.best.g1
               have b2 : _ = some (Value.string (bsq a.lo)) := HL.out.best.g2
               have b3 : _ = some (Value.string (bsq a.hi)) := HL.out.best.g3
               by_cases hp : plt (v) a
               · rw [decide_eq_true hp] at HCL
                 rw [if_pos hp] at HA2
                 clear hp
                 go_wp2_with fail
                 refine (show Calls _ _ _ _ _ from HCL.out _).mono ?_
                 rintro e w7 ⟨rfl, hb⟩
                 replace HL := Lib.hid (HL.out.ext hb)
                 replace HY := Lib.hid (HY.out.ext hb)
                 clear hb y0 y1 y2 y3 b0 b1 b2 b3
                 have y0 := HY.out.g0
                 have y1 := HY.out.g1
                 have y2 := HY.out.g2
                 have y3 := HY.out.g3
                 have b0 := HL.out.best.g0
                 have b1 := HL.out.best.g1
                 have b2 := HL.out.best.g2
                 have b3 := HL.out.best.g3
                 have bf := HL.out.best.gf
                 have HLP := Lib.hid (HL.out.put HLT.out (v))
                 go_wp2_with fail
                 go_roundw
                 case rel => exact ⟨0 + 1, by omega, rfl, by rw [HA2.out]; rfl, by rw [HA2.out]; exact HLP⟩
                 case measure => simp [intOf]
               · rw [decide_eq_false hp] at HCL
                 rw [if_neg hp] at HA2
                 clear hp
                 go_wp2_with fail
                 refine (show Calls _ _ _ _ _ from HCL.out _).mono ?_
                 rintro e w7 ⟨rfl, hb⟩
                 replace HL := Lib.hid (HL.out.ext hb)
                 clear hb y0 y1 y2 y3 b0 b1 b2 b3
                 go_wp2_with fail
                 go_roundw
                 case rel => exact ⟨0 + 1, by omega, rfl, by rw [HA2.out]; rfl, by rw [HA2.out]; exact HL⟩
                 case measure => simp [intOf]
       · as_aux_lemma =>
         have HACC : Hid (accK L P n t lo hi (1 + 1) = pick (accK L P n t lo hi 1) (if may L P t lo hi true false = true then (pB L P n (t + 1) (t + 1) hi).map (pre (t + 1) lo hi true false) else none)) := Lib.hid rfl
         obtain ⟨acc, hacc⟩ : ∃ acc, accK L P n t lo hi 1 = acc := ⟨_, rfl⟩
         rw [hacc] at HL HACC
         rw [hacc]
         clear hacc
         have HMAY := Lib.hid (fun w h => impl_may p L P bb bk bd t lo hi true false hlo hhi (by omega) w h)
         have hp0 := HL.out.fb.s0
         have hp1 := HL.out.fb.s1
         have hp2 := HL.out.fb.s2
         have hbA : (bits BinOp.and IntKind.i64 (1 : Int) 1 == 1) = true := by decide +kernel
         have hbB : (bits BinOp.and IntKind.i64 (1 : Int) 2 == 2) = false := by decide +kernel
         cases hm : may L P t lo hi true false with
         | false =>
           rw [hm] at HMAY HACC
           have HA2 : Hid (accK L P n t lo hi (1 + 1) = acc) := Lib.hid (by rw [HACC.out]; rfl)
           clear hm HACC
           go_wp2_with fail
           refine (show Calls _ _ _ _ _ from HMAY.out _ HL.out.fb.mem.head).mono ?_
           rintro e w4 ⟨rfl, hb⟩
           replace HL := Lib.hid (HL.out.ext hb)
           clear hb hp0 hp1 hp2
           go_wp2_with fail
           go_roundw
           case rel => exact ⟨1 + 1, by omega, rfl, by rw [HA2.out], by rw [HA2.out]; exact HL⟩
           case measure => simp [intOf]
         | true =>
           have HMM := Lib.hid hm
           rw [hm] at HMAY HACC
           replace HACC : Hid (accK L P n t lo hi (1 + 1) = pick acc ((pB L P n (t + 1) (t + 1) hi).map (pre (t + 1) lo hi true false))) := Lib.hid HACC.out
           clear hm
           go_wp2_with fail
           refine (show Calls _ _ _ _ _ from HMAY.out _ HL.out.fb.mem.head).mono ?_
           rintro e w4 ⟨rfl, hb⟩
           replace HL := Lib.hid (HL.out.ext hb)
           clear hb hp0 hp1 hp2 HMAY
           have hp0 := HL.out.fb.s0
           have hp1 := HL.out.fb.s1
           have hp2 := HL.out.fb.s2
           go_wp2_with fail
           have HIH : Hid (∀ W, PMem W p L P bb bk bd → Calls Tryz.prog 215 #[.pointer (some ⟨p, 0, none⟩), .agg #[.int .i64 ((t : Int) + 1), .int .i64 ((t : Int) + 1), .int .i64 ((hi : Int))]] W (FromP L P n (t + 1) (t + 1) hi p bb bk bd W)) := Lib.hid (fun W h => ih (t + 1) (t + 1) hi (by omega) (by omega) (by omega) (by first | omega | exact may_lo HMM.out) (by first | omega | exact may_hi HMM.out) W h)
           have HBX : Hid (Below w4.heap.size w4 (w4.alloc (.cells #[.int .i64 ((t : Int) + 1), .int .i64 ((t : Int) + 1), .int .i64 (hi : Int)] 241))) := Lib.hid (ext_alloc1 _ _)
           have HX : Hid ((w4.alloc (.cells #[.int .i64 ((t : Int) + 1), .int .i64 ((t : Int) + 1), .int .i64 (hi : Int)] 241)).cell? ⟨w4.heap.size, 0, none⟩ = some (.int .i64 ((t : Int) + 1))) := Lib.hid (by simp [go_sem])
           have hxg : w.heap.size ≤ w4.heap.size := HL.out.fb.chg.size
           have hxs : w4.heap.size ≠ s ∧ w4.heap.size ≠ r ∧ w4.heap.size ≠ g := by
             have h1 := HL.out.fb.rlt
             have h2 : s < w4.heap.size := block_lt_of_cell HL.out.fb.s0
             have h3 := HL.out.best.lt
             omega
           refine (show Calls _ _ _ _ _ from HIH.out _ (HL.out.fb.mem.ext HBX.out)).mono ?_
           rintro e w5 ⟨rfl, hm5, hc5⟩
           replace HL := Lib.hid ((HL.out.ext HBX.out).turn HLT.out hm5 hc5)
           have hx0 := hc5.cell HX.out (by have := HLT.out; unfold S3; dsimp only; omega)
           have hxl : w4.heap.size < w5.heap.size := block_lt_of_cell hx0
           clear hm5 hc5 HX HBX HIH hp0 hp1 hp2
           generalize w4.heap.size = x at *
           have HPL := Lib.hid (pB_len L P n (t + 1) (t + 1) hi)
           obtain ⟨o, ho⟩ : ∃ o, pB L P n (t + 1) (t + 1) hi = o := ⟨_, rfl⟩
           rw [ho] at HACC HPL
           rw [ho]
           clear ho
           cases o with
           | none =>
             have HA2 : Hid (accK L P n t lo hi (1 + 1) = acc) := Lib.hid HACC.out
             have HL6 := Lib.hid (fun o => HL.out.ext (ext_alloc1 w5 o))
             clear HACC HPL
             go_wp2_with fail
             go_roundw
             case rel => exact ⟨1 + 1, by omega, rfl, by rw [HA2.out], by rw [HA2.out]; exact Lib.hid (HL6.out _)⟩
             case measure => simp [intOf]
           | some v =>
             have hvl := HPL.out v rfl
             have hyg : w.heap.size ≤ w5.heap.size ∧ w5.heap.size ≠ s ∧ w5.heap.size ≠ r ∧ w5.heap.size ≠ g ∧ w5.heap.size ≠ x := by
               have h1 := HL.out.fb.rlt
               have h2 : s < w5.heap.size := block_lt_of_cell HL.out.fb.s0
               have h3 := HL.out.best.lt
               have h4 := HL.out.fb.chg.size
               omega
             have HY : Hid (B4 (w5.alloc (.cells #[.int .i64 (v.c : Int), .int .i64 (v.p : Int), .string (bsq v.lo), .string (bsq v.hi)] 183)) w5.heap.size v) := Lib.hid (B4.new w5 v _)
             replace HL := Lib.hid (HL.out.ext (ext_alloc1 w5 (.cells #[.int .i64 (v.c : Int), .int .i64 (v.p : Int), .string (bsq v.lo), .string (bsq v.hi)] 183)))
             replace hx0 := cell_keep hx0 (ext_alloc1 w5 (.cells #[.int .i64 (v.c : Int), .int .i64 (v.p : Int), .string (bsq v.lo), .string (bsq v.hi)] 183))
             clear HPL
             have sx := HL.out.fb.s1
             go_wp2_with fail
             generalize w5.alloc (.cells #[.int .i64 (v.c : Int), .int .i64 (v.p : Int), .string (bsq v.lo), .string (bsq v.hi)] 183) = wa at *
             generalize w5.heap.size = y at *
             have HPC := Lib.hid (fun w => piece_at (t := t) (lo := lo) (by omega) (by omega) w)
             have hq14 : 1 ≤ t + 1 - lo ∧ t + 1 - lo ≤ 4 := by omega
             obtain ⟨qq, hqq⟩ : ∃ q, t + 1 - lo = q := ⟨_, rfl⟩
             have HQQ := Lib.hid hqq
             rw [hqq] at HPC hq14
             clear hqq
             have HWT := Lib.hid (fun w => impl_with8 qq hq14.1 hq14.2 (v).c (v).p (by first | omega | (simp only [preLo, preHi]; have := cut8_le (t + 1 - lo); omega)) (by first | omega | (simp only [preLo, preHi]; omega)) w)
             have hptz : (bsq [let8 qq]).size = 1 := rfl
             have hptb : (((bsq [let8 qq])[0]'(by rw [hptz]; omega)).toNat : Int) = ((let8 qq).toNat : Int) := rfl
             have HPUT := Lib.hid (fun W h => B4.putLo (W := W) (g := y) (u := v) h qq)
             obtain ⟨yy, hyy⟩ : ∃ yy, ((let8 qq).toNat : Int) = yy := ⟨_, rfl⟩
             rw [hyy] at HWT hptb
             have hsz : (bsq (v).lo).size ≤ 200 := by rw [bsq_size]; first | omega | (simp only [preLo, preHi, List.length_cons]; omega)
             obtain ⟨pt, hpt⟩ : ∃ pt, bsq [let8 qq] = pt := ⟨_, rfl⟩
             have hptb' : ∀ h, ((pt[0]'h).toNat : Int) = yy := by subst hpt; exact fun _ => hptb
             rw [hpt] at hptz HPC HPUT
             clear hptb hpt hyy
             have hpz0 : (0 : Int) < pt.size := by omega
             have hpz1 : 0 < pt.size := by omega
             have hcc2 : ¬ 9223372036854775807 < 1 + (bsq (v).lo).size := by omega
             have hcc : ¬ 9223372036854775807 < pt.size + (bsq (v).lo).size := by omega
             refine (show Calls _ _ _ _ _ from HPC.out _).mono ?_
             rintro e wb ⟨rfl, rfl⟩
             clear sx
             have y0 := HY.out.g0
             have y1 := HY.out.g1
             have yl := HY.out.g2
             have yf := HY.out.gf
             go_upto_region 20 with fail
             go_cut [107] from 97 to 107 (fun _ wx => Hid (FL w wx p L P bb bk bd s r g t lo hi acc) ∧ Hid (B4 wx y (preLo qq (v))) ∧ wx.cell? ⟨x, 0, none⟩ = some (.int .i64 ((t : Int) + 1)))
             case first =>
              go_region_law (first
               | (go_simp; refine (show Calls _ _ _ _ _ from HWT.out _).mono ?_; rintro e w8 ⟨rfl, hb8⟩; (have HY8 := Lib.hid ((HY.out.ext (ext_drew (ext_refl _))).ext hb8)); (have HL8 := Lib.hid ((HL.out.ext (ext_drew (ext_refl _))).ext hb8)); (have hx8 := cell_keep (cell_keep hx0 (ext_drew (ext_refl _))) hb8); (have z0 := HY8.out.g0); (have z1 := HY8.out.g1); (have zl := HY8.out.g2); (have zf := HY8.out.gf); clear hb8; dsimp only))
              all_goals
               have HYN := Lib.hid (HPUT.out _ HY8.out)
               have HLN := Lib.hid (HL8.out.far HLT.out (chg_put3 w8 y 2 (.int .i64 (((v).c : Int) + (cut8 qq : Int))) (.int .i64 (((v).p : Int) + 1)) (.string (pt ++ bsq (v).lo))) (fun k hk => by subst hk; exact ⟨hyg.1, hyg.2.1, hyg.2.2.1, hyg.2.2.2.1⟩))
               have hxN := (chg_put3 w8 y 2 (.int .i64 (((v).c : Int) + (cut8 qq : Int))) (.int .i64 (((v).p : Int) + 1)) (.string (pt ++ bsq (v).lo))).cell hx8 (fun e => hyg.2.2.2.2 e.symm)
               first | (go_wp2_with fail) | skip
               go_meet
               exact ⟨HLN, HYN, hxN⟩
             case rest =>
             obtain ⟨HLn, HYn, hxn⟩ := hcut
             clear HY HL hx0 y0 y1 yl yf HPUT HWT HPC hcc hcc2 hpz0 hpz1 hptz hptb' hsz
             replace HACC : Hid (accK L P n t lo hi (1 + 1) = pick acc (some (preLo qq v))) := Lib.hid (by rw [← HQQ.out]; exact HACC.out)
             have HL := HLn
             obtain ⟨own, hown⟩ : ∃ own, preLo qq v = own := ⟨_, rfl⟩
             rw [hown] at HYn HACC
             have HY := HYn
             clear hown hxn HQQ hvl HLn HYn
             have y0 := HY.out.g0
             have y1 := HY.out.g1
             have y2 := HY.out.g2
             have y3 := HY.out.g3
             cases acc with
             | none =>
               have HA2 : Hid (accK L P n t lo hi (1 + 1) = some (own)) := Lib.hid HACC.out
               have b0 := HL.out.best.g0
               have b1 := HL.out.best.g1
               have b2 := HL.out.best.g2
               have b3 := HL.out.best.g3
               have bf := HL.out.best.gf
               have HLP := Lib.hid (HL.out.put HLT.out (own))
               go_wp2_with fail
               go_roundw
               case rel => exact ⟨1 + 1, by omega, rfl, by rw [HA2.out]; rfl, by rw [HA2.out]; exact HLP⟩
               case measure => simp [intOf]
             | some a =>
               have HCL := Lib.hid (fun w => impl_lessP (own) a w)
               have HA2 : Hid (accK L P n t lo hi (1 + 1) = if plt (own) a then some (own) else some a) := Lib.hid HACC.out
               have b0 : _ = some (Value.int .i64 (a.c : Int)) := HL.out.best.g0
               have b1 : _ = some (Value.int .i64 (a.p : Int)) := HL.out.best.g1
               have b2 : _ = some (Value.string (bsq a.lo)) := HL.out.best.g2
               have b3 : _ = some (Value.string (bsq a.hi)) := HL.out.best.g3
               by_cases hp : plt (own) a
               · rw [decide_eq_true hp] at HCL
                 rw [if_pos hp] at HA2
                 clear hp
                 go_wp2_with fail
                 refine (show Calls _ _ _ _ _ from HCL.out _).mono ?_
                 rintro e w7 ⟨rfl, hb⟩
                 replace HL := Lib.hid (HL.out.ext hb)
                 replace HY := Lib.hid (HY.out.ext hb)
                 clear hb y0 y1 y2 y3 b0 b1 b2 b3
                 have y0 := HY.out.g0
                 have y1 := HY.out.g1
                 have y2 := HY.out.g2
                 have y3 := HY.out.g3
                 have b0 := HL.out.best.g0
                 have b1 := HL.out.best.g1
                 have b2 := HL.out.best.g2
                 have b3 := HL.out.best.g3
                 have bf := HL.out.best.gf
                 have HLP := Lib.hid (HL.out.put HLT.out (own))
                 go_wp2_with fail
                 go_roundw
                 case rel => exact ⟨1 + 1, by omega, rfl, by rw [HA2.out]; rfl, by rw [HA2.out]; exact HLP⟩
                 case measure => simp [intOf]
               · rw [decide_eq_false hp] at HCL
                 rw [if_neg hp] at HA2
                 clear hp
                 go_wp2_with fail
                 refine (show Calls _ _ _ _ _ from HCL.out _).mono ?_
                 rintro e w7 ⟨rfl, hb⟩
                 replace HL := Lib.hid (HL.out.ext hb)
                 clear hb y0 y1 y2 y3 b0 b1 b2 b3
                 go_wp2_with fail
                 go_roundw
                 case rel => exact ⟨1 + 1, by omega, rfl, by rw [HA2.out]; rfl, by rw [HA2.out]; exact HL⟩
                 case measure => simp [intOf]
       · as_aux_lemma =>
         have HACC : Hid (accK L P n t lo hi (2 + 1) = pick (accK L P n t lo hi 2) (if may L P t lo hi false true = true then (pB L P n (t + 1) lo (t + 1)).map (pre (t + 1) lo hi false true) else none)) := Lib.hid rfl
         obtain ⟨acc, hacc⟩ : ∃ acc, accK L P n t lo hi 2 = acc := ⟨_, rfl⟩
         rw [hacc] at HL HACC
         rw [hacc]
         clear hacc
         have HMAY := Lib.hid (fun w h => impl_may p L P bb bk bd t lo hi false true hlo hhi (by omega) w h)
         have hp0 := HL.out.fb.s0
         have hp1 := HL.out.fb.s1
         have hp2 := HL.out.fb.s2
         have hbA : (bits BinOp.and IntKind.i64 (2 : Int) 1 == 1) = false := by decide +kernel
         have hbB : (bits BinOp.and IntKind.i64 (2 : Int) 2 == 2) = true := by decide +kernel
         cases hm : may L P t lo hi false true with
         | false =>
           rw [hm] at HMAY HACC
           have HA2 : Hid (accK L P n t lo hi (2 + 1) = acc) := Lib.hid (by rw [HACC.out]; rfl)
           clear hm HACC
           go_wp2_with fail
           refine (show Calls _ _ _ _ _ from HMAY.out _ HL.out.fb.mem.head).mono ?_
           rintro e w4 ⟨rfl, hb⟩
           replace HL := Lib.hid (HL.out.ext hb)
           clear hb hp0 hp1 hp2
           go_wp2_with fail
           go_roundw
           case rel => exact ⟨2 + 1, by omega, rfl, by rw [HA2.out], by rw [HA2.out]; exact HL⟩
           case measure => simp [intOf]
         | true =>
           have HMM := Lib.hid hm
           rw [hm] at HMAY HACC
           replace HACC : Hid (accK L P n t lo hi (2 + 1) = pick acc ((pB L P n (t + 1) lo (t + 1)).map (pre (t + 1) lo hi false true))) := Lib.hid HACC.out
           clear hm
           go_wp2_with fail
           refine (show Calls _ _ _ _ _ from HMAY.out _ HL.out.fb.mem.head).mono ?_
           rintro e w4 ⟨rfl, hb⟩
           replace HL := Lib.hid (HL.out.ext hb)
           clear hb hp0 hp1 hp2 HMAY
           have hp0 := HL.out.fb.s0
           have hp1 := HL.out.fb.s1
           have hp2 := HL.out.fb.s2
           go_wp2_with fail
           have HIH : Hid (∀ W, PMem W p L P bb bk bd → Calls Tryz.prog 215 #[.pointer (some ⟨p, 0, none⟩), .agg #[.int .i64 ((t : Int) + 1), .int .i64 ((lo : Int)), .int .i64 ((t : Int) + 1)]] W (FromP L P n (t + 1) lo (t + 1) p bb bk bd W)) := Lib.hid (fun W h => ih (t + 1) lo (t + 1) (by omega) (by omega) (by omega) (by first | omega | exact may_lo HMM.out) (by first | omega | exact may_hi HMM.out) W h)
           have HBX : Hid (Below w4.heap.size w4 (w4.alloc (.cells #[.int .i64 ((t : Int) + 1), .int .i64 (lo : Int), .int .i64 ((t : Int) + 1)] 241))) := Lib.hid (ext_alloc1 _ _)
           have HX : Hid ((w4.alloc (.cells #[.int .i64 ((t : Int) + 1), .int .i64 (lo : Int), .int .i64 ((t : Int) + 1)] 241)).cell? ⟨w4.heap.size, 0, none⟩ = some (.int .i64 ((t : Int) + 1))) := Lib.hid (by simp [go_sem])
           have hxg : w.heap.size ≤ w4.heap.size := HL.out.fb.chg.size
           have hxs : w4.heap.size ≠ s ∧ w4.heap.size ≠ r ∧ w4.heap.size ≠ g := by
             have h1 := HL.out.fb.rlt
             have h2 : s < w4.heap.size := block_lt_of_cell HL.out.fb.s0
             have h3 := HL.out.best.lt
             omega
           refine (show Calls _ _ _ _ _ from HIH.out _ (HL.out.fb.mem.ext HBX.out)).mono ?_
           rintro e w5 ⟨rfl, hm5, hc5⟩
           replace HL := Lib.hid ((HL.out.ext HBX.out).turn HLT.out hm5 hc5)
           have hx0 := hc5.cell HX.out (by have := HLT.out; unfold S3; dsimp only; omega)
           have hxl : w4.heap.size < w5.heap.size := block_lt_of_cell hx0
           clear hm5 hc5 HX HBX HIH hp0 hp1 hp2
           generalize w4.heap.size = x at *
           have HPL := Lib.hid (pB_len L P n (t + 1) lo (t + 1))
           obtain ⟨o, ho⟩ : ∃ o, pB L P n (t + 1) lo (t + 1) = o := ⟨_, rfl⟩
           rw [ho] at HACC HPL
           rw [ho]
           clear ho
           cases o with
           | none =>
             have HA2 : Hid (accK L P n t lo hi (2 + 1) = acc) := Lib.hid HACC.out
             have HL6 := Lib.hid (fun o => HL.out.ext (ext_alloc1 w5 o))
             clear HACC HPL
             go_wp2_with fail
             go_roundw
             case rel => exact ⟨2 + 1, by omega, rfl, by rw [HA2.out], by rw [HA2.out]; exact Lib.hid (HL6.out _)⟩
             case measure => simp [intOf]
           | some v =>
             have hvl := HPL.out v rfl
             have hyg : w.heap.size ≤ w5.heap.size ∧ w5.heap.size ≠ s ∧ w5.heap.size ≠ r ∧ w5.heap.size ≠ g ∧ w5.heap.size ≠ x := by
               have h1 := HL.out.fb.rlt
               have h2 : s < w5.heap.size := block_lt_of_cell HL.out.fb.s0
               have h3 := HL.out.best.lt
               have h4 := HL.out.fb.chg.size
               omega
             have HY : Hid (B4 (w5.alloc (.cells #[.int .i64 (v.c : Int), .int .i64 (v.p : Int), .string (bsq v.lo), .string (bsq v.hi)] 183)) w5.heap.size v) := Lib.hid (B4.new w5 v _)
             replace HL := Lib.hid (HL.out.ext (ext_alloc1 w5 (.cells #[.int .i64 (v.c : Int), .int .i64 (v.p : Int), .string (bsq v.lo), .string (bsq v.hi)] 183)))
             replace hx0 := cell_keep hx0 (ext_alloc1 w5 (.cells #[.int .i64 (v.c : Int), .int .i64 (v.p : Int), .string (bsq v.lo), .string (bsq v.hi)] 183))
             clear HPL
             have sx := HL.out.fb.s2
             go_wp2_with fail
             generalize w5.alloc (.cells #[.int .i64 (v.c : Int), .int .i64 (v.p : Int), .string (bsq v.lo), .string (bsq v.hi)] 183) = wa at *
             generalize w5.heap.size = y at *
             have HPC := Lib.hid (fun w => piece_at (t := t) (lo := hi) (by omega) (by omega) w)
             have hq14 : 1 ≤ t + 1 - hi ∧ t + 1 - hi ≤ 4 := by omega
             obtain ⟨qq, hqq⟩ : ∃ q, t + 1 - hi = q := ⟨_, rfl⟩
             have HQQ := Lib.hid hqq
             rw [hqq] at HPC hq14
             clear hqq
             have HWT := Lib.hid (fun w => impl_with8 qq hq14.1 hq14.2 (v).c (v).p (by first | omega | (simp only [preLo, preHi]; have := cut8_le (t + 1 - lo); omega)) (by first | omega | (simp only [preLo, preHi]; omega)) w)
             have hptz : (bsq [let8 qq]).size = 1 := rfl
             have hptb : (((bsq [let8 qq])[0]'(by rw [hptz]; omega)).toNat : Int) = ((let8 qq).toNat : Int) := rfl
             have HPUT := Lib.hid (fun W h => B4.putHi (W := W) (g := y) (u := v) h qq)
             obtain ⟨yy, hyy⟩ : ∃ yy, ((let8 qq).toNat : Int) = yy := ⟨_, rfl⟩
             rw [hyy] at HWT hptb
             have hsz : (bsq (v).hi).size ≤ 200 := by rw [bsq_size]; first | omega | (simp only [preLo, preHi, List.length_cons]; omega)
             obtain ⟨pt, hpt⟩ : ∃ pt, bsq [let8 qq] = pt := ⟨_, rfl⟩
             have hptb' : ∀ h, ((pt[0]'h).toNat : Int) = yy := by subst hpt; exact fun _ => hptb
             rw [hpt] at hptz HPC HPUT
             clear hptb hpt hyy
             have hpz0 : (0 : Int) < pt.size := by omega
             have hpz1 : 0 < pt.size := by omega
             have hcc2 : ¬ 9223372036854775807 < 1 + (bsq (v).hi).size := by omega
             have hcc : ¬ 9223372036854775807 < pt.size + (bsq (v).hi).size := by omega
             refine (show Calls _ _ _ _ _ from HPC.out _).mono ?_
             rintro e wb ⟨rfl, rfl⟩
             clear sx
             have y0 := HY.out.g0
             have y1 := HY.out.g1
             have yl := HY.out.g3
             have yf := HY.out.gf
             go_upto_region 23 with fail
             go_cut [125] from 115 to 125 (fun _ wx => Hid (FL w wx p L P bb bk bd s r g t lo hi acc) ∧ Hid (B4 wx y (preHi qq (v))) ∧ wx.cell? ⟨x, 0, none⟩ = some (.int .i64 ((t : Int) + 1)))
             case first =>
              go_region_law (first
               | (go_simp; refine (show Calls _ _ _ _ _ from HWT.out _).mono ?_; rintro e w8 ⟨rfl, hb8⟩; (have HY8 := Lib.hid ((HY.out.ext (ext_drew (ext_refl _))).ext hb8)); (have HL8 := Lib.hid ((HL.out.ext (ext_drew (ext_refl _))).ext hb8)); (have hx8 := cell_keep (cell_keep hx0 (ext_drew (ext_refl _))) hb8); (have z0 := HY8.out.g0); (have z1 := HY8.out.g1); (have zl := HY8.out.g3); (have zf := HY8.out.gf); clear hb8; dsimp only))
              all_goals
               have HYN := Lib.hid (HPUT.out _ HY8.out)
               have HLN := Lib.hid (HL8.out.far HLT.out (chg_put3 w8 y 3 (.int .i64 (((v).c : Int) + (cut8 qq : Int))) (.int .i64 (((v).p : Int) + 1)) (.string (pt ++ bsq (v).hi))) (fun k hk => by subst hk; exact ⟨hyg.1, hyg.2.1, hyg.2.2.1, hyg.2.2.2.1⟩))
               have hxN := (chg_put3 w8 y 3 (.int .i64 (((v).c : Int) + (cut8 qq : Int))) (.int .i64 (((v).p : Int) + 1)) (.string (pt ++ bsq (v).hi))).cell hx8 (fun e => hyg.2.2.2.2 e.symm)
               first | (go_wp2_with fail) | skip
               go_meet
               exact ⟨HLN, HYN, hxN⟩
             case rest =>
             obtain ⟨HLn, HYn, hxn⟩ := hcut
             clear HY HL hx0 y0 y1 yl yf HPUT HWT HPC hcc hcc2 hpz0 hpz1 hptz hptb' hsz
             replace HACC : Hid (accK L P n t lo hi (2 + 1) = pick acc (some (preHi qq v))) := Lib.hid (by rw [← HQQ.out]; exact HACC.out)
             have HL := HLn
             obtain ⟨own, hown⟩ : ∃ own, preHi qq v = own := ⟨_, rfl⟩
             rw [hown] at HYn HACC
             have HY := HYn
             clear hown hxn HQQ hvl HLn HYn
             have y0 := HY.out.g0
             have y1 := HY.out.g1
             have y2 := HY.out.g2
             have y3 := HY.out.g3
             cases acc with
             | none =>
               have HA2 : Hid (accK L P n t lo hi (2 + 1) = some (own)) := Lib.hid HACC.out
               have b0 := HL.out.best.g0
               have b1 := HL.out.best.g1
               have b2 := HL.out.best.g2
               have b3 := HL.out.best.g3
               have bf := HL.out.best.gf
               have HLP := Lib.hid (HL.out.put HLT.out (own))
               go_wp2_with fail
               go_roundw
               case rel => exact ⟨2 + 1, by omega, rfl, by rw [HA2.out]; rfl, by rw [HA2.out]; exact HLP⟩
               case measure => simp [intOf]
             | some a =>
               have HCL := Lib.hid (fun w => impl_lessP (own) a w)
               have HA2 : Hid (accK L P n t lo hi (2 + 1) = if plt (own) a then some (own) else some a) := Lib.hid HACC.out
               have b0 : _ = some (Value.int .i64 (a.c : Int)) := HL.out.best.g0
               have b1 : _ = some (Value.int .i64 (a.p : Int)) := HL.out.best.g1
               have b2 : _ = some (Value.string (bsq a.lo)) := HL.out.best.g2
               have b3 : _ = some (Value.string (bsq a.hi)) := HL.out.best.g3
               by_cases hp : plt (own) a
               · rw [decide_eq_true hp] at HCL
                 rw [if_pos hp] at HA2
                 clear hp
                 go_wp2_with fail
                 refine (show Calls _ _ _ _ _ from HCL.out _).mono ?_
                 rintro e w7 ⟨rfl, hb⟩
                 replace HL := Lib.hid (HL.out.ext hb)
                 replace HY := Lib.hid (HY.out.ext hb)
                 clear hb y0 y1 y2 y3 b0 b1 b2 b3
                 have y0 := HY.out.g0
                 have y1 := HY.out.g1
                 have y2 := HY.out.g2
                 have y3 := HY.out.g3
                 have b0 := HL.out.best.g0
                 have b1 := HL.out.best.g1
                 have b2 := HL.out.best.g2
                 have b3 := HL.out.best.g3
                 have bf := HL.out.best.gf
                 have HLP := Lib.hid (HL.out.put HLT.out (own))
                 go_wp2_with fail
                 go_roundw
                 case rel => exact ⟨2 + 1, by omega, rfl, by rw [HA2.out]; rfl, by rw [HA2.out]; exact HLP⟩
                 case measure => simp [intOf]
               · rw [decide_eq_false hp] at HCL
                 rw [if_neg hp] at HA2
                 clear hp
                 go_wp2_with fail
                 refine (show Calls _ _ _ _ _ from HCL.out _).mono ?_
                 rintro e w7 ⟨rfl, hb⟩
                 replace HL := Lib.hid (HL.out.ext hb)
                 clear hb y0 y1 y2 y3 b0 b1 b2 b3
                 go_wp2_with fail
                 go_roundw
                 case rel => exact ⟨2 + 1, by omega, rfl, by rw [HA2.out]; rfl, by rw [HA2.out]; exact HL⟩
                 case measure => simp [intOf]
       · as_aux_lemma =>
         have HACC : Hid (accK L P n t lo hi (3 + 1) = pick (accK L P n t lo hi 3) (if may L P t lo hi true true = true then (pB L P n (t + 1) (t + 1) (t + 1)).map (pre (t + 1) lo hi true true) else none)) := Lib.hid rfl
         obtain ⟨acc, hacc⟩ : ∃ acc, accK L P n t lo hi 3 = acc := ⟨_, rfl⟩
         rw [hacc] at HL HACC
         rw [hacc]
         clear hacc
         have HMAY := Lib.hid (fun w h => impl_may p L P bb bk bd t lo hi true true hlo hhi (by omega) w h)
         have hp0 := HL.out.fb.s0
         have hp1 := HL.out.fb.s1
         have hp2 := HL.out.fb.s2
         have hbA : (bits BinOp.and IntKind.i64 (3 : Int) 1 == 1) = true := by decide +kernel
         have hbB : (bits BinOp.and IntKind.i64 (3 : Int) 2 == 2) = true := by decide +kernel
         cases hm : may L P t lo hi true true with
         | false =>
           rw [hm] at HMAY HACC
           have HA2 : Hid (accK L P n t lo hi (3 + 1) = acc) := Lib.hid (by rw [HACC.out]; rfl)
           clear hm HACC
           go_wp2_with fail
           refine (show Calls _ _ _ _ _ from HMAY.out _ HL.out.fb.mem.head).mono ?_
           rintro e w4 ⟨rfl, hb⟩
           replace HL := Lib.hid (HL.out.ext hb)
           clear hb hp0 hp1 hp2
           go_wp2_with fail
           go_roundw
           case rel => exact ⟨3 + 1, by omega, rfl, by rw [HA2.out], by rw [HA2.out]; exact HL⟩
           case measure => simp [intOf]
         | true =>
           have HMM := Lib.hid hm
           rw [hm] at HMAY HACC
           replace HACC : Hid (accK L P n t lo hi (3 + 1) = pick acc ((pB L P n (t + 1) (t + 1) (t + 1)).map (pre (t + 1) lo hi true true))) := Lib.hid HACC.out
           clear hm
           go_wp2_with fail
           refine (show Calls _ _ _ _ _ from HMAY.out _ HL.out.fb.mem.head).mono ?_
           rintro e w4 ⟨rfl, hb⟩
           replace HL := Lib.hid (HL.out.ext hb)
           clear hb hp0 hp1 hp2 HMAY
           have hp0 := HL.out.fb.s0
           have hp1 := HL.out.fb.s1
           have hp2 := HL.out.fb.s2
           go_wp2_with fail
           have HIH : Hid (∀ W, PMem W p L P bb bk bd → Calls Tryz.prog 215 #[.pointer (some ⟨p, 0, none⟩), .agg #[.int .i64 ((t : Int) + 1), .int .i64 ((t : Int) + 1), .int .i64 ((t : Int) + 1)]] W (FromP L P n (t + 1) (t + 1) (t + 1) p bb bk bd W)) := Lib.hid (fun W h => ih (t + 1) (t + 1) (t + 1) (by omega) (by omega) (by omega) (by first | omega | exact may_lo HMM.out) (by first | omega | exact may_hi HMM.out) W h)
           have HBX : Hid (Below w4.heap.size w4 (w4.alloc (.cells #[.int .i64 ((t : Int) + 1), .int .i64 ((t : Int) + 1), .int .i64 ((t : Int) + 1)] 241))) := Lib.hid (ext_alloc1 _ _)
           have HX : Hid ((w4.alloc (.cells #[.int .i64 ((t : Int) + 1), .int .i64 ((t : Int) + 1), .int .i64 ((t : Int) + 1)] 241)).cell? ⟨w4.heap.size, 0, none⟩ = some (.int .i64 ((t : Int) + 1))) := Lib.hid (by simp [go_sem])
           have hxg : w.heap.size ≤ w4.heap.size := HL.out.fb.chg.size
           have hxs : w4.heap.size ≠ s ∧ w4.heap.size ≠ r ∧ w4.heap.size ≠ g := by
             have h1 := HL.out.fb.rlt
             have h2 : s < w4.heap.size := block_lt_of_cell HL.out.fb.s0
             have h3 := HL.out.best.lt
             omega
           refine (show Calls _ _ _ _ _ from HIH.out _ (HL.out.fb.mem.ext HBX.out)).mono ?_
           rintro e w5 ⟨rfl, hm5, hc5⟩
           replace HL := Lib.hid ((HL.out.ext HBX.out).turn HLT.out hm5 hc5)
           have hx0 := hc5.cell HX.out (by have := HLT.out; unfold S3; dsimp only; omega)
           have hxl : w4.heap.size < w5.heap.size := block_lt_of_cell hx0
           clear hm5 hc5 HX HBX HIH hp0 hp1 hp2
           generalize w4.heap.size = x at *
           have HPL := Lib.hid (pB_len L P n (t + 1) (t + 1) (t + 1))
           obtain ⟨o, ho⟩ : ∃ o, pB L P n (t + 1) (t + 1) (t + 1) = o := ⟨_, rfl⟩
           rw [ho] at HACC HPL
           rw [ho]
           clear ho
           cases o with
           | none =>
             have HA2 : Hid (accK L P n t lo hi (3 + 1) = acc) := Lib.hid HACC.out
             have HL6 := Lib.hid (fun o => HL.out.ext (ext_alloc1 w5 o))
             clear HACC HPL
             go_wp2_with fail
             go_roundw
             case rel => exact ⟨3 + 1, by omega, rfl, by rw [HA2.out], by rw [HA2.out]; exact Lib.hid (HL6.out _)⟩
             case measure => simp [intOf]
           | some v =>
             have hvl := HPL.out v rfl
             have hyg : w.heap.size ≤ w5.heap.size ∧ w5.heap.size ≠ s ∧ w5.heap.size ≠ r ∧ w5.heap.size ≠ g ∧ w5.heap.size ≠ x := by
               have h1 := HL.out.fb.rlt
               have h2 : s < w5.heap.size := block_lt_of_cell HL.out.fb.s0
               have h3 := HL.out.best.lt
               have h4 := HL.out.fb.chg.size
               omega
             have HY : Hid (B4 (w5.alloc (.cells #[.int .i64 (v.c : Int), .int .i64 (v.p : Int), .string (bsq v.lo), .string (bsq v.hi)] 183)) w5.heap.size v) := Lib.hid (B4.new w5 v _)
             replace HL := Lib.hid (HL.out.ext (ext_alloc1 w5 (.cells #[.int .i64 (v.c : Int), .int .i64 (v.p : Int), .string (bsq v.lo), .string (bsq v.hi)] 183)))
             replace hx0 := cell_keep hx0 (ext_alloc1 w5 (.cells #[.int .i64 (v.c : Int), .int .i64 (v.p : Int), .string (bsq v.lo), .string (bsq v.hi)] 183))
             clear HPL
             have sx := HL.out.fb.s1
             go_wp2_with fail
             generalize w5.alloc (.cells #[.int .i64 (v.c : Int), .int .i64 (v.p : Int), .string (bsq v.lo), .string (bsq v.hi)] 183) = wa at *
             generalize w5.heap.size = y at *
             have HPC := Lib.hid (fun w => piece_at (t := t) (lo := lo) (by omega) (by omega) w)
             have hq14 : 1 ≤ t + 1 - lo ∧ t + 1 - lo ≤ 4 := by omega
             obtain ⟨qq, hqq⟩ : ∃ q, t + 1 - lo = q := ⟨_, rfl⟩
             have HQQ := Lib.hid hqq
             rw [hqq] at HPC hq14
             clear hqq
             have HWT := Lib.hid (fun w => impl_with8 qq hq14.1 hq14.2 (v).c (v).p (by first | omega | (simp only [preLo, preHi]; have := cut8_le (t + 1 - lo); omega)) (by first | omega | (simp only [preLo, preHi]; omega)) w)
             have hptz : (bsq [let8 qq]).size = 1 := rfl
             have hptb : (((bsq [let8 qq])[0]'(by rw [hptz]; omega)).toNat : Int) = ((let8 qq).toNat : Int) := rfl
             have HPUT := Lib.hid (fun W h => B4.putLo (W := W) (g := y) (u := v) h qq)
             obtain ⟨yy, hyy⟩ : ∃ yy, ((let8 qq).toNat : Int) = yy := ⟨_, rfl⟩
             rw [hyy] at HWT hptb
             have hsz : (bsq (v).lo).size ≤ 200 := by rw [bsq_size]; first | omega | (simp only [preLo, preHi, List.length_cons]; omega)
             obtain ⟨pt, hpt⟩ : ∃ pt, bsq [let8 qq] = pt := ⟨_, rfl⟩
             have hptb' : ∀ h, ((pt[0]'h).toNat : Int) = yy := by subst hpt; exact fun _ => hptb
             rw [hpt] at hptz HPC HPUT
             clear hptb hpt hyy
             have hpz0 : (0 : Int) < pt.size := by omega
             have hpz1 : 0 < pt.size := by omega
             have hcc2 : ¬ 9223372036854775807 < 1 + (bsq (v).lo).size := by omega
             have hcc : ¬ 9223372036854775807 < pt.size + (bsq (v).lo).size := by omega
             refine (show Calls _ _ _ _ _ from HPC.out _).mono ?_
             rintro e wb ⟨rfl, rfl⟩
             clear sx
             have y0 := HY.out.g0
             have y1 := HY.out.g1
             have yl := HY.out.g2
             have yf := HY.out.gf
             go_upto_region 20 with fail
             go_cut [107] from 97 to 107 (fun _ wx => Hid (FL w wx p L P bb bk bd s r g t lo hi acc) ∧ Hid (B4 wx y (preLo qq (v))) ∧ wx.cell? ⟨x, 0, none⟩ = some (.int .i64 ((t : Int) + 1)))
             case first =>
              go_region_law (first
               | (go_simp; refine (show Calls _ _ _ _ _ from HWT.out _).mono ?_; rintro e w8 ⟨rfl, hb8⟩; (have HY8 := Lib.hid ((HY.out.ext (ext_drew (ext_refl _))).ext hb8)); (have HL8 := Lib.hid ((HL.out.ext (ext_drew (ext_refl _))).ext hb8)); (have hx8 := cell_keep (cell_keep hx0 (ext_drew (ext_refl _))) hb8); (have z0 := HY8.out.g0); (have z1 := HY8.out.g1); (have zl := HY8.out.g2); (have zf := HY8.out.gf); clear hb8; dsimp only))
              all_goals
               have HYN := Lib.hid (HPUT.out _ HY8.out)
               have HLN := Lib.hid (HL8.out.far HLT.out (chg_put3 w8 y 2 (.int .i64 (((v).c : Int) + (cut8 qq : Int))) (.int .i64 (((v).p : Int) + 1)) (.string (pt ++ bsq (v).lo))) (fun k hk => by subst hk; exact ⟨hyg.1, hyg.2.1, hyg.2.2.1, hyg.2.2.2.1⟩))
               have hxN := (chg_put3 w8 y 2 (.int .i64 (((v).c : Int) + (cut8 qq : Int))) (.int .i64 (((v).p : Int) + 1)) (.string (pt ++ bsq (v).lo))).cell hx8 (fun e => hyg.2.2.2.2 e.symm)
               first | (go_wp2_with fail) | skip
               go_meet
               exact ⟨HLN, HYN, hxN⟩
             case rest =>
             obtain ⟨HLn, HYn, hxn⟩ := hcut
             clear HY HL hx0 y0 y1 yl yf HPUT HWT HPC hcc hcc2 hpz0 hpz1 hptz hptb' hsz
             replace HACC : Hid (accK L P n t lo hi (3 + 1) = pick acc (some (preHi (t + 1 - hi) (preLo qq v)))) := Lib.hid (by rw [← HQQ.out]; exact HACC.out)
             have HL := HLn
             have HY := HYn
             have hx0 := hxn
             have hxl2 : (preLo qq v).lo.length ≤ n + 1 ∧ (preLo qq v).hi.length ≤ n + 1 ∧ (preLo qq v).c ≤ 2 * n + 1 ∧ (preLo qq v).p ≤ 2 * n + 1 := by
               have := cut8_le qq
               simp only [preLo, List.length_cons]
               omega
             obtain ⟨u, hu⟩ : ∃ u, preLo qq v = u := ⟨_, rfl⟩
             rw [hu] at HY HACC hxl2
             clear HLn HYn hxn HQQ hu hq14 hvl
             have sx := HL.out.fb.s2
             go_wp2_with fail
             have HPC := Lib.hid (fun w => piece_at (t := t) (lo := hi) (by omega) (by omega) w)
             have hq14 : 1 ≤ t + 1 - hi ∧ t + 1 - hi ≤ 4 := by omega
             obtain ⟨qq, hqq⟩ : ∃ q, t + 1 - hi = q := ⟨_, rfl⟩
             have HQQ := Lib.hid hqq
             rw [hqq] at HPC hq14
             clear hqq
             have HWT := Lib.hid (fun w => impl_with8 qq hq14.1 hq14.2 (u).c (u).p (by first | omega | (simp only [preLo, preHi]; have := cut8_le (t + 1 - lo); omega)) (by first | omega | (simp only [preLo, preHi]; omega)) w)
             have hptz : (bsq [let8 qq]).size = 1 := rfl
             have hptb : (((bsq [let8 qq])[0]'(by rw [hptz]; omega)).toNat : Int) = ((let8 qq).toNat : Int) := rfl
             have HPUT := Lib.hid (fun W h => B4.putHi (W := W) (g := y) (u := u) h qq)
             obtain ⟨yy, hyy⟩ : ∃ yy, ((let8 qq).toNat : Int) = yy := ⟨_, rfl⟩
             rw [hyy] at HWT hptb
             have hsz : (bsq (u).hi).size ≤ 200 := by rw [bsq_size]; first | omega | (simp only [preLo, preHi, List.length_cons]; omega)
             obtain ⟨pt, hpt⟩ : ∃ pt, bsq [let8 qq] = pt := ⟨_, rfl⟩
             have hptb' : ∀ h, ((pt[0]'h).toNat : Int) = yy := by subst hpt; exact fun _ => hptb
             rw [hpt] at hptz HPC HPUT
             clear hptb hpt hyy
             have hpz0 : (0 : Int) < pt.size := by omega
             have hpz1 : 0 < pt.size := by omega
             have hcc2 : ¬ 9223372036854775807 < 1 + (bsq (u).hi).size := by omega
             have hcc : ¬ 9223372036854775807 < pt.size + (bsq (u).hi).size := by omega
             refine (show Calls _ _ _ _ _ from HPC.out _).mono ?_
             rintro e wb ⟨rfl, rfl⟩
             clear sx
             have y0 := HY.out.g0
             have y1 := HY.out.g1
             have yl := HY.out.g3
             have yf := HY.out.gf
             go_upto_region 23 with fail
             go_cut [125] from 115 to 125 (fun _ wx => Hid (FL w wx p L P bb bk bd s r g t lo hi acc) ∧ Hid (B4 wx y (preHi qq (u))) ∧ wx.cell? ⟨x, 0, none⟩ = some (.int .i64 ((t : Int) + 1)))
             case first =>
              go_region_law (first
               | (go_simp; refine (show Calls _ _ _ _ _ from HWT.out _).mono ?_; rintro e w8 ⟨rfl, hb8⟩; (have HY8 := Lib.hid ((HY.out.ext (ext_drew (ext_refl _))).ext hb8)); (have HL8 := Lib.hid ((HL.out.ext (ext_drew (ext_refl _))).ext hb8)); (have hx8 := cell_keep (cell_keep hx0 (ext_drew (ext_refl _))) hb8); (have z0 := HY8.out.g0); (have z1 := HY8.out.g1); (have zl := HY8.out.g3); (have zf := HY8.out.gf); clear hb8; dsimp only))
              all_goals
               have HYN := Lib.hid (HPUT.out _ HY8.out)
               have HLN := Lib.hid (HL8.out.far HLT.out (chg_put3 w8 y 3 (.int .i64 (((u).c : Int) + (cut8 qq : Int))) (.int .i64 (((u).p : Int) + 1)) (.string (pt ++ bsq (u).hi))) (fun k hk => by subst hk; exact ⟨hyg.1, hyg.2.1, hyg.2.2.1, hyg.2.2.2.1⟩))
               have hxN := (chg_put3 w8 y 3 (.int .i64 (((u).c : Int) + (cut8 qq : Int))) (.int .i64 (((u).p : Int) + 1)) (.string (pt ++ bsq (u).hi))).cell hx8 (fun e => hyg.2.2.2.2 e.symm)
               first | (go_wp2_with fail) | skip
               go_meet
               exact ⟨HLN, HYN, hxN⟩
             case rest =>
             obtain ⟨HLn, HYn, hxn⟩ := hcut
             clear HY HL hx0 y0 y1 yl yf HPUT HWT HPC hcc hcc2 hpz0 hpz1 hptz hptb' hsz
             replace HACC : Hid (accK L P n t lo hi (3 + 1) = pick acc (some (preHi qq u))) := Lib.hid (by rw [← HQQ.out]; exact HACC.out)
             have HL := HLn
             obtain ⟨own, hown⟩ : ∃ own, preHi qq u = own := ⟨_, rfl⟩
             rw [hown] at HYn HACC
             have HY := HYn
             clear hown hxn HQQ hxl2 HLn HYn
             have y0 := HY.out.g0
             have y1 := HY.out.g1
             have y2 := HY.out.g2
             have y3 := HY.out.g3
             cases acc with
             | none =>
               have HA2 : Hid (accK L P n t lo hi (3 + 1) = some (own)) := Lib.hid HACC.out
               have b0 := HL.out.best.g0
               have b1 := HL.out.best.g1
               have b2 := HL.out.best.g2
               have b3 := HL.out.best.g3
               have bf := HL.out.best.gf
               have HLP := Lib.hid (HL.out.put HLT.out (own))
               go_wp2_with fail
               go_roundw
               case rel => exact ⟨3 + 1, by omega, rfl, by rw [HA2.out]; rfl, by rw [HA2.out]; exact HLP⟩
               case measure => simp [intOf]
             | some a =>
               have HCL := Lib.hid (fun w => impl_lessP (own) a w)
               have HA2 : Hid (accK L P n t lo hi (3 + 1) = if plt (own) a then some (own) else some a) := Lib.hid HACC.out
               have b0 : _ = some (Value.int .i64 (a.c : Int)) := HL.out.best.g0
               have b1 : _ = some (Value.int .i64 (a.p : Int)) := HL.out.best.g1
               have b2 : _ = some (Value.string (bsq a.lo)) := HL.out.best.g2
               have b3 : _ = some (Value.string (bsq a.hi)) := HL.out.best.g3
               by_cases hp : plt (own) a
               · rw [decide_eq_true hp] at HCL
                 rw [if_pos hp] at HA2
                 clear hp
                 go_wp2_with fail
                 refine (show Calls _ _ _ _ _ from HCL.out _).mono ?_
                 rintro e w7 ⟨rfl, hb⟩
                 replace HL := Lib.hid (HL.out.ext hb)
                 replace HY := Lib.hid (HY.out.ext hb)
                 clear hb y0 y1 y2 y3 b0 b1 b2 b3
                 have y0 := HY.out.g0
                 have y1 := HY.out.g1
                 have y2 := HY.out.g2
                 have y3 := HY.out.g3
                 have b0 := HL.out.best.g0
                 have b1 := HL.out.best.g1
                 have b2 := HL.out.best.g2
                 have b3 := HL.out.best.g3
                 have bf := HL.out.best.gf
                 have HLP := Lib.hid (HL.out.put HLT.out (own))
                 go_wp2_with fail
                 go_roundw
                 case rel => exact ⟨3 + 1, by omega, rfl, by rw [HA2.out]; rfl, by rw [HA2.out]; exact HLP⟩
                 case measure => simp [intOf]
               · rw [decide_eq_false hp] at HCL
                 rw [if_neg hp] at HA2
                 clear hp
                 go_wp2_with fail
                 refine (show Calls _ _ _ _ _ from HCL.out _).mono ?_
                 rintro e w7 ⟨rfl, hb⟩
                 replace HL := Lib.hid (HL.out.ext hb)
                 clear hb y0 y1 y2 y3 b0 b1 b2 b3
                 go_wp2_with fail
                 go_roundw
                 case rel => exact ⟨3 + 1, by omega, rfl, by rw [HA2.out]; rfl, by rw [HA2.out]; exact HL⟩
                 case measure => simp [intOf]
       · as_aux_lemma =>
         obtain ⟨o, ho⟩ : ∃ o, accK L P n t lo hi 4 = o := ⟨_, rfl⟩
         have HO : Hid (pB L P (n + 1) t lo hi = o) := Lib.hid ho
         rw [ho] at HL
         rw [ho]
         clear ho
         obtain ⟨v, hv⟩ : ∃ v, o.getD PV.zero = v := ⟨_, rfl⟩
         have HV := Lib.hid hv
         have HLB := HL.out.best
         rw [hv] at HLB
         clear hv
         obtain ⟨hx1, hx2, hx3, hx4⟩ := HLT.out
         have hsg := HL.out.fb.sge
         have hgg := HL.out.gge
         have hrg := HL.out.fb.rge
         have nb1 := HL.out.fb.mem.np1
         have nb2 := HL.out.fb.mem.np2
         have nb3 := HL.out.fb.mem.np3
         have nm1 := HL.out.fb.mem.ne1
         have nm2 := HL.out.fb.mem.ne2
         have nm3 := HL.out.fb.mem.ne3
         obtain ⟨fb', fk', fd', mb, mk, md, hmemo⟩ := HL.out.fb.mem.maps
         have HCK0 : Hid (CK wr p bb bk bd s g t lo hi v) := Lib.hid ⟨HL.out.fb.mem.head.c2, HL.out.fb.mem.head.c3, HL.out.fb.mem.head.c4, HL.out.fb.s0, HL.out.fb.s1, HL.out.fb.s2, HLB.g0, HLB.g1, HLB.g2, HLB.g3⟩
         obtain ⟨v1, st1, x1, x2, e1, d1, e2, d2, m2⟩ := run_entry3 Tryz.underlying236 key3 (zero_bool wr.drew) (mk.of_block (w' := wr.drew) rfl) (k3 t lo hi) (.bool o.isSome)
         have d1' : Chg (fun j => j = bk) wr x1 := (Chg.of_below (ext_drew (ext_refl _)) _).trans d1
         have md2 := md.of_block ((d1'.trans d2).block _ md.lt (fun e => nm3 e.symm))
         obtain ⟨v2, st2, x3, x4, e3, d3, e4, d4, m4⟩ := run_entry3 Tryz.underlying236 key3 (zero_bool x2) md2 (k3 t lo hi) (.bool o.isNone)
         have mb4 := (mb.of_block ((d1'.trans d2).block _ mb.lt nm1)).of_block ((d3.trans d4).block _ (Nat.lt_of_lt_of_le mb.lt (d1'.trans d2).size) nm2)
         obtain ⟨v3, st3, x5, x6, e5, d5, e6, d6, m6⟩ := run_entry3 Tryz.underlying235 key3 (zero_best x4) mb4 (k3 t lo hi) (PVv v)
         have HCK1 := Lib.hid (HCK0.out.chg d1' nb2 (by omega) (by omega))
         have HCK2 := Lib.hid (HCK1.out.chg d2 nb2 (by omega) (by omega))
         have HCK3 := Lib.hid (HCK2.out.chg d3 nb3 (by omega) (by omega))
         have HCK4 := Lib.hid (HCK3.out.chg d4 nb3 (by omega) (by omega))
         have HCK5 := Lib.hid (HCK4.out.chg d5 nb1 (by omega) (by omega))
         have HCK6 := Lib.hid (HCK5.out.chg d6 nb1 (by omega) (by omega))
         have hcg : Chg (S3 bb bk bd) wr x6 := (((((d1'.trans d2).mono (fun k hk => Or.inr (Or.inl hk))) : Chg (S3 bb bk bd) wr x2).trans ((d3.trans d4).mono (fun k hk => Or.inr (Or.inr hk)))).trans ((d5.trans d6).mono (fun k hk => Or.inl hk)))
         have HMEM : Hid (PMem x6 p L P bb bk bd) := Lib.hid (by
           refine ⟨HL.out.fb.mem.head.chg hcg (by unfold S3; omega), ⟨_, _, _, m6, (m2.of_block ((d3.trans d4).block _ m2.lt nm3)).of_block ((d5.trans d6).block _ (Nat.lt_of_lt_of_le m2.lt (d3.trans d4).size) nm1.symm), m4.of_block ((d5.trans d6).block _ m4.lt nm2.symm), fun t' lo' hi' => ?_⟩, nm1, nm2, nm3, nb1, nb2, nb3⟩
           by_cases hk : k3 t' lo' hi' = k3 t lo hi
           · obtain ⟨rfl, rfl, rfl⟩ := k3_inj hk
             right
             have hr : pRes L P t' lo' hi' = o := by rw [HR.out, HO.out]
             rw [hr, HV.out]
             exact ⟨if_pos rfl, (if_pos rfl).trans (by cases o <;> rfl), if_pos rfl⟩
           · rcases hmemo t' lo' hi' with ⟨a1, a2⟩ | ⟨a1, a2, a3⟩
             · exact .inl ⟨by rw [if_neg hk]; exact a1, by rw [if_neg hk]; exact a2⟩
             · exact .inr ⟨by rw [if_neg hk]; exact a1, by rw [if_neg hk]; exact a2, by rw [if_neg hk]; exact a3⟩)
         have HFX := Lib.hid (HL.out.fb.turn HLT.out HMEM.out hcg)
         clear HLB m2 md2 m4 mb4 m6 mb mk md hmemo d1 d1' d2 d3 d4 d5 d6 hcg hsg hgg hx1 hx2 hx3 hx4 nb1 nb2 nb3 nm1 nm2 nm3 HMEM HL
         obtain ⟨a2, a3, a4, a5, a6, a7, a8, a9, a10, a11⟩ := HCK0.out
         obtain ⟨_, _, _, b5, b6, b7, b8, b9, b10, b11⟩ := HCK1.out
         obtain ⟨_, _, _, c5, c6, c7, c8, c9, c10, c11⟩ := HCK2.out
         obtain ⟨_, _, _, i5, i6, i7, i8, i9, i10, i11⟩ := HCK3.out
         obtain ⟨_, _, _, j5, j6, j7, j8, j9, j10, j11⟩ := HCK4.out
         obtain ⟨_, _, _, _, _, _, k8, k9, k10, k11⟩ := HCK5.out
         obtain ⟨_, _, _, _, _, _, l8, l9, l10, l11⟩ := HCK6.out
         go_upto_region 27 with fail
         go_cut [159] from 135 to 159 (fun _ wx => wx = x6)
         case first => as_aux_lemma =>
           go_region
           all_goals
             first | (go_wp2_with fail) | skip
             go_meet
             rfl
         case rest =>
         obtain rfl := hcut
         have r0 := HFX.out.r0
         have r1 := HFX.out.r1
         have r2 := HFX.out.r2
         have r3 := HFX.out.r3
         have rf := HFX.out.rf
         go_wp2_with fail
         have HE := Lib.hid (HFX.out.fin HLT.out (.int .i64 (v.c : Int)) (.int .i64 (v.p : Int)) (.string (bsq v.lo)) (.string (bsq v.hi)))
         obtain ⟨w9, hw9⟩ : ∃ x, ((((wc.setCell ⟨r, 0, none⟩ (.int .i64 (v.c : Int))).setCell ⟨r, 1, none⟩ (.int .i64 (v.p : Int))).setCell ⟨r, 2, none⟩ (.string (bsq v.lo))).setCell ⟨r, 3, none⟩ (.string (bsq v.hi))) = x := ⟨_, rfl⟩
         rw [hw9] at HE
         rw [hw9]
         have u0 := HE.out.u0
         have u1 := HE.out.u1
         have u2 := HE.out.u2
         have u3 := HE.out.u3
         clear hw9
         refine bodyPost_ret (v := .tuple #[.agg #[.int .i64 (v.c : Int), .int .i64 (v.p : Int), .string (bsq v.lo), .string (bsq v.hi)], .bool o.isSome]) (by simp [results, Tryz.results215, go_sem, u0, u1, u2, u3]) rfl ?_
         exact ⟨by rw [HO.out, HV.out], HE.out.mem, HE.out.chg⟩
   · cases hr : pB L P (n + 1) t lo hi with
     | none => as_aux_lemma =>
       rw [hr] at hk1 hk2 hk3
       have HR2 := Lib.hid hr
       have l1 : ∀ d os, (Instr.lookup 236 (.map (some bk)) (.agg #[.int .i64 (t : Int), .int .i64 (lo : Int), .int .i64 (hi : Int)]) false).run Tryz.prog (grow (redrawn w2 d) os) = .ok (.bool false) (grow (redrawn w2 d) os) := fun d os => lookup_bool Tryz.underlying236 key3 zero_bool (HMK.out.of_block ((below_regrown w2 d os).block _ HMK.out.lt)) (k3 t lo hi) (by rw [hk1]; rfl)
       have l2 : ∀ d os, (Instr.lookup 236 (.map (some bd)) (.agg #[.int .i64 (t : Int), .int .i64 (lo : Int), .int .i64 (hi : Int)]) false).run Tryz.prog (grow (redrawn w2 d) os) = .ok (.bool true) (grow (redrawn w2 d) os) := fun d os => lookup_bool Tryz.underlying236 key3 zero_bool (HMD.out.of_block ((below_regrown w2 d os).block _ HMD.out.lt)) (k3 t lo hi) (by rw [hk2]; rfl)
       clear hr
       go_wp2_with fail
       refine wp_region_quiet_below (by kernel_rfl) (by kernel_rfl) ?_
       repeat (go_big_quiet_step (fail))
       refine wpQuiet_nil ?_
       intro w' hw'
       obtain ⟨q, rfl⟩ := hw'
       replace HF := Lib.hid (HF.out.ext (below_regrown _ q.d q.os))
       replace HMB := Lib.hid (HMB.out.of_block ((below_regrown w2 q.d q.os).block _ HMB.out.lt))
       replace HMK := Lib.hid (HMK.out.of_block ((below_regrown w2 q.d q.os).block _ HMK.out.lt))
       clear l1 l2 s0 s1 s2 c3 c4
       generalize grow (redrawn w2 q.d) q.os = w2 at *
       have k0 := HF.out.s0
       have k1 := HF.out.s1
       have k2 := HF.out.s2
       have b2 := HF.out.mem.head.c2
       have b3 := HF.out.mem.head.c3
       have r0 := HF.out.r0
       have r1 := HF.out.r1
       have r2 := HF.out.r2
       have r3 := HF.out.r3
       have rf := HF.out.rf
       have hne := HF.out.ne
       have hne2 := hne.symm
       obtain ⟨hx1, hx2, hx3, hx4⟩ := HLT.out
       have hrg := HF.out.rge
       have hnb : r ≠ bk := by omega
       have hnb2 : r ≠ p := by omega
       have HWX : Hid (Chg (fun k => k = r) w2 ((((w2.setCell ⟨r, 0, none⟩ (.int .i64 ((PV.zero).c : Int))).setCell ⟨r, 1, none⟩ (.int .i64 ((PV.zero).p : Int))).setCell ⟨r, 2, none⟩ (.string (bsq (PV.zero).lo))).setCell ⟨r, 3, none⟩ (.string (bsq (PV.zero).hi)))) := Lib.hid ((((Chg.setCell (S := fun k => k = r) _ (p := ⟨r, 0, none⟩) rfl _).trans (Chg.setCell (S := fun k => k = r) _ (p := ⟨r, 1, none⟩) rfl _)).trans (Chg.setCell (S := fun k => k = r) _ (p := ⟨r, 2, none⟩) rfl _)).trans (Chg.setCell (S := fun k => k = r) _ (p := ⟨r, 3, none⟩) rfl _))
       have lb : (Instr.lookup 235 (.map (some bb)) (.agg #[.int .i64 (t : Int), .int .i64 (lo : Int), .int .i64 (hi : Int)]) false).run Tryz.prog w2.drew = .ok (PVv PV.zero) w2.drew := by
         rw [run_lookup3 Tryz.underlying235 key3 (zero_best _) (HMB.out.of_block (w' := w2.drew) rfl).is (k3 t lo hi), hk3]; rfl
       have lk : (Instr.lookup 236 (.map (some bk)) (.agg #[.int .i64 (t : Int), .int .i64 (lo : Int), .int .i64 (hi : Int)]) false).run Tryz.prog w2.drew = .ok (.bool false) w2.drew := lookup_bool Tryz.underlying236 key3 zero_bool (HMK.out.of_block (w' := w2.drew) rfl) (k3 t lo hi) (by rw [hk1]; rfl)
       have lj : (Instr.lookup 236 (.map (some bk)) (.agg #[.int .i64 (t : Int), .int .i64 (lo : Int), .int .i64 (hi : Int)]) false).run Tryz.prog ((((w2.setCell ⟨r, 0, none⟩ (.int .i64 ((PV.zero).c : Int))).setCell ⟨r, 1, none⟩ (.int .i64 ((PV.zero).p : Int))).setCell ⟨r, 2, none⟩ (.string (bsq (PV.zero).lo))).setCell ⟨r, 3, none⟩ (.string (bsq (PV.zero).hi))).drew = .ok (.bool false) ((((w2.setCell ⟨r, 0, none⟩ (.int .i64 ((PV.zero).c : Int))).setCell ⟨r, 1, none⟩ (.int .i64 ((PV.zero).p : Int))).setCell ⟨r, 2, none⟩ (.string (bsq (PV.zero).lo))).setCell ⟨r, 3, none⟩ (.string (bsq (PV.zero).hi))).drew := lookup_bool Tryz.underlying236 key3 zero_bool (HMK.out.of_block (w' := ((((w2.setCell ⟨r, 0, none⟩ (.int .i64 ((PV.zero).c : Int))).setCell ⟨r, 1, none⟩ (.int .i64 ((PV.zero).p : Int))).setCell ⟨r, 2, none⟩ (.string (bsq (PV.zero).lo))).setCell ⟨r, 3, none⟩ (.string (bsq (PV.zero).hi))).drew) (HWX.out.block _ HMK.out.lt (fun e => hnb e.symm))) (k3 t lo hi) (by rw [hk1]; rfl)
       have j0 := HWX.out.cell k0 hne
       have j1 := HWX.out.cell k1 hne
       have j2 := HWX.out.cell k2 hne
       have e3 := HWX.out.cell b3 (fun e => hnb2 e.symm)
       go_wp2_with fail
       go_region
       all_goals
         go_wp2_with fail
         clear k0 k1 k2 b2 b3 j0 j1 j2 e3 lb lk lj r0 r1 r2 r3 HWX
         have HE := Lib.hid (HF.out.fin HLT.out (.int .i64 ((PV.zero).c : Int)) (.int .i64 ((PV.zero).p : Int)) (.string (bsq (PV.zero).lo)) (.string (bsq (PV.zero).hi)))
         obtain ⟨w9, hw9⟩ : ∃ x, ((((w2.setCell ⟨r, 0, none⟩ (.int .i64 ((PV.zero).c : Int))).setCell ⟨r, 1, none⟩ (.int .i64 ((PV.zero).p : Int))).setCell ⟨r, 2, none⟩ (.string (bsq (PV.zero).lo))).setCell ⟨r, 3, none⟩ (.string (bsq (PV.zero).hi))) = x := ⟨_, rfl⟩
         rw [hw9] at HE
         rw [hw9]
         have u0 := HE.out.u0
         have u1 := HE.out.u1
         have u2 := HE.out.u2
         have u3 := HE.out.u3
         clear hw9
         refine bodyPost_ret (v := .tuple #[.agg #[.int .i64 ((PV.zero).c : Int), .int .i64 ((PV.zero).p : Int), .string (bsq (PV.zero).lo), .string (bsq (PV.zero).hi)], .bool false]) (by simp [results, Tryz.results215, go_sem, u0, u1, u2, u3]) rfl ?_
         exact ⟨by rw [HR2.out]; rfl, HE.out.mem.ext (ext_drew (ext_refl _)), HE.out.chg.trans (Chg.of_below (ext_drew (ext_refl _)) _)⟩
     | some v => as_aux_lemma =>
       rw [hr] at hk1 hk2 hk3
       have HR2 := Lib.hid hr
       have l1 : ∀ d os, (Instr.lookup 236 (.map (some bk)) (.agg #[.int .i64 (t : Int), .int .i64 (lo : Int), .int .i64 (hi : Int)]) false).run Tryz.prog (grow (redrawn w2 d) os) = .ok (.bool true) (grow (redrawn w2 d) os) := fun d os => lookup_bool Tryz.underlying236 key3 zero_bool (HMK.out.of_block ((below_regrown w2 d os).block _ HMK.out.lt)) (k3 t lo hi) (by rw [hk1]; rfl)
       have l2 : ∀ d os, (Instr.lookup 236 (.map (some bd)) (.agg #[.int .i64 (t : Int), .int .i64 (lo : Int), .int .i64 (hi : Int)]) false).run Tryz.prog (grow (redrawn w2 d) os) = .ok (.bool false) (grow (redrawn w2 d) os) := fun d os => lookup_bool Tryz.underlying236 key3 zero_bool (HMD.out.of_block ((below_regrown w2 d os).block _ HMD.out.lt)) (k3 t lo hi) (by rw [hk2]; rfl)
       clear hr
       go_wp2_with fail
       refine wp_region_quiet_below (by kernel_rfl) (by kernel_rfl) ?_
       repeat (go_big_quiet_step (fail))
       refine wpQuiet_nil ?_
       intro w' hw'
       obtain ⟨q, rfl⟩ := hw'
       replace HF := Lib.hid (HF.out.ext (below_regrown _ q.d q.os))
       replace HMB := Lib.hid (HMB.out.of_block ((below_regrown w2 q.d q.os).block _ HMB.out.lt))
       replace HMK := Lib.hid (HMK.out.of_block ((below_regrown w2 q.d q.os).block _ HMK.out.lt))
       clear l1 l2 s0 s1 s2 c3 c4
       generalize grow (redrawn w2 q.d) q.os = w2 at *
       have k0 := HF.out.s0
       have k1 := HF.out.s1
       have k2 := HF.out.s2
       have b2 := HF.out.mem.head.c2
       have b3 := HF.out.mem.head.c3
       have r0 := HF.out.r0
       have r1 := HF.out.r1
       have r2 := HF.out.r2
       have r3 := HF.out.r3
       have rf := HF.out.rf
       have hne := HF.out.ne
       have hne2 := hne.symm
       obtain ⟨hx1, hx2, hx3, hx4⟩ := HLT.out
       have hrg := HF.out.rge
       have hnb : r ≠ bk := by omega
       have hnb2 : r ≠ p := by omega
       have HWX : Hid (Chg (fun k => k = r) w2 ((((w2.setCell ⟨r, 0, none⟩ (.int .i64 ((v).c : Int))).setCell ⟨r, 1, none⟩ (.int .i64 ((v).p : Int))).setCell ⟨r, 2, none⟩ (.string (bsq (v).lo))).setCell ⟨r, 3, none⟩ (.string (bsq (v).hi)))) := Lib.hid ((((Chg.setCell (S := fun k => k = r) _ (p := ⟨r, 0, none⟩) rfl _).trans (Chg.setCell (S := fun k => k = r) _ (p := ⟨r, 1, none⟩) rfl _)).trans (Chg.setCell (S := fun k => k = r) _ (p := ⟨r, 2, none⟩) rfl _)).trans (Chg.setCell (S := fun k => k = r) _ (p := ⟨r, 3, none⟩) rfl _))
       have lb : (Instr.lookup 235 (.map (some bb)) (.agg #[.int .i64 (t : Int), .int .i64 (lo : Int), .int .i64 (hi : Int)]) false).run Tryz.prog w2.drew = .ok (PVv v) w2.drew := by
         rw [run_lookup3 Tryz.underlying235 key3 (zero_best _) (HMB.out.of_block (w' := w2.drew) rfl).is (k3 t lo hi), hk3]; rfl
       have lk : (Instr.lookup 236 (.map (some bk)) (.agg #[.int .i64 (t : Int), .int .i64 (lo : Int), .int .i64 (hi : Int)]) false).run Tryz.prog w2.drew = .ok (.bool true) w2.drew := lookup_bool Tryz.underlying236 key3 zero_bool (HMK.out.of_block (w' := w2.drew) rfl) (k3 t lo hi) (by rw [hk1]; rfl)
       have lj : (Instr.lookup 236 (.map (some bk)) (.agg #[.int .i64 (t : Int), .int .i64 (lo : Int), .int .i64 (hi : Int)]) false).run Tryz.prog ((((w2.setCell ⟨r, 0, none⟩ (.int .i64 ((v).c : Int))).setCell ⟨r, 1, none⟩ (.int .i64 ((v).p : Int))).setCell ⟨r, 2, none⟩ (.string (bsq (v).lo))).setCell ⟨r, 3, none⟩ (.string (bsq (v).hi))).drew = .ok (.bool true) ((((w2.setCell ⟨r, 0, none⟩ (.int .i64 ((v).c : Int))).setCell ⟨r, 1, none⟩ (.int .i64 ((v).p : Int))).setCell ⟨r, 2, none⟩ (.string (bsq (v).lo))).setCell ⟨r, 3, none⟩ (.string (bsq (v).hi))).drew := lookup_bool Tryz.underlying236 key3 zero_bool (HMK.out.of_block (w' := ((((w2.setCell ⟨r, 0, none⟩ (.int .i64 ((v).c : Int))).setCell ⟨r, 1, none⟩ (.int .i64 ((v).p : Int))).setCell ⟨r, 2, none⟩ (.string (bsq (v).lo))).setCell ⟨r, 3, none⟩ (.string (bsq (v).hi))).drew) (HWX.out.block _ HMK.out.lt (fun e => hnb e.symm))) (k3 t lo hi) (by rw [hk1]; rfl)
       have j0 := HWX.out.cell k0 hne
       have j1 := HWX.out.cell k1 hne
       have j2 := HWX.out.cell k2 hne
       have e3 := HWX.out.cell b3 (fun e => hnb2 e.symm)
       go_wp2_with fail
       go_region
       all_goals
         go_wp2_with fail
         clear k0 k1 k2 b2 b3 j0 j1 j2 e3 lb lk lj r0 r1 r2 r3 HWX
         have HE := Lib.hid (HF.out.fin HLT.out (.int .i64 ((v).c : Int)) (.int .i64 ((v).p : Int)) (.string (bsq (v).lo)) (.string (bsq (v).hi)))
         obtain ⟨w9, hw9⟩ : ∃ x, ((((w2.setCell ⟨r, 0, none⟩ (.int .i64 ((v).c : Int))).setCell ⟨r, 1, none⟩ (.int .i64 ((v).p : Int))).setCell ⟨r, 2, none⟩ (.string (bsq (v).lo))).setCell ⟨r, 3, none⟩ (.string (bsq (v).hi))) = x := ⟨_, rfl⟩
         rw [hw9] at HE
         rw [hw9]
         have u0 := HE.out.u0
         have u1 := HE.out.u1
         have u2 := HE.out.u2
         have u3 := HE.out.u3
         clear hw9
         refine bodyPost_ret (v := .tuple #[.agg #[.int .i64 ((v).c : Int), .int .i64 ((v).p : Int), .string (bsq (v).lo), .string (bsq (v).hi)], .bool true]) (by simp [results, Tryz.results215, go_sem, u0, u1, u2, u3]) rfl ?_
         exact ⟨by rw [HR2.out]; rfl, HE.out.mem.ext (ext_drew (ext_refl _)), HE.out.chg.trans (Chg.of_below (ext_drew (ext_refl _)) _)⟩
end Go.Proofs.YtfgopboddkhckaaGreatDoor
