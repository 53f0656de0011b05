/-
  Parts of the proof: Rd1, Dx.
-/
import Derived.Test.YtfgopboddkhckaaGreatDoorKa14
import Derived.Test.YtfgopboddkhckaaGreatDoorKa17
import Derived.Test.YtfgopboddkhckaaGreatDoorKa18
import Derived.Test.YtfgopboddkhckaaGreatDoorKa21
import Derived.Test.YtfgopboddkhckaaGreatDoorKa22
import Derived.Test.YtfgopboddkhckaaGreatDoorKa23
import Derived.Test.YtfgopboddkhckaaGreatDoorKa24
import Derived.Deep.DeepCutAuto
import Derived.Deep.CutBlock
namespace Go.Proofs.YtfgopboddkhckaaGreatDoor
open Go.ChangeShapes Go.WideShapes Go.ChangeAt Go.RowKit Go.Sort Go.Joins
set_option linter.unusedVariables false
set_option maxRecDepth 100000

theorem step_append_rs {w : World} {ops : Array Oper} {o : Oper} {a : Act} {K : Act → World → Prop} {Q : Exit → Act → World → Prop} {E : Prop} (hgd : o.guard = none) (s x : Operand)
    (ho : o.op = .call { callee := .builtin .append, args := #[s, x], argTypes := #[29, 29] })
    (base : Nat) (v : Value) (xs ys : List ByteArray) (ad : Addr) (m c : Nat) (hs : a.eval s = v) (hx : a.eval x = .slice (some ad) m c) (hO : OStr w base v xs) (hR : RStr w (.slice (some ad) m c) ys) (hm : ys.length = m) (h0 : 0 < m)
    (hl : xs.length ≤ 1099511627776) (hl2 : m ≤ 1099511627776) (hbase : base ≤ w.heap.size)
    (h : ∀ g cap w', OStr w' base (.slice (some ⟨g, 0, none⟩) (xs.length + m) cap) (xs ++ ys) → Chg (BI v) w w' → (BI v g ∨ g = w.heap.size) → g < w'.heap.size → K (a.put o.dst (.slice (some ⟨g, 0, none⟩) (xs.length + m) cap)) w') :
    if Region.wanted o (yielded ops a.tmps) = true then Oper.wp Tryz.prog o a w K Q else E := by
  obtain ⟨i0, hi, hz0, hz1, hz2⟩ := info_parts info_str
  obtain ⟨_, A', c', hv, _, _, h4⟩ := hR
  injection hv with e1 e2 e3
  subst e1
  obtain ⟨ad2, e, hlt, hc⟩ := h4 (by omega)
  obtain rfl : ad = ad2 := Option.some.inj e
  refine step_append_lies w hgd s x _ ho base 9 i0 (.string ⟨#[]⟩) 1 16 Tryz.underlying29 hi hz0 hz1 hz2 rfl (by omega) v xs.length (xs.map Value.string) hs hO
    ad m c (ys.map Value.string) hx (by simp [hm]) hc (by simp [Value.oneCell']) h0 (by unfold maxLen; omega) (by omega) hbase w.heap.size rfl ?_
  intro g cap w1 hown hgrow hat hlt
  refine h g cap w1 ?_ (Chg.of_grown hgrow) (hat.elim (fun h => .inl h) fun h => .inr h) hlt
  unfold OStr
  rw [List.length_append, hm, List.map_append]
  exact hown
theorem wpList_append_str5 {w0 : World} {ops : Array Oper} {rest : List Oper} {o : Oper} {a : Act} {Q : Exit → Act → World → Prop} (hgd : o.guard = none) (s x : Operand)
    (ho : o.op = .call { callee := .builtin .append, args := #[s, x], argTypes := #[29, 29] })
    (base : Nat) (v : Value) (l : List ByteArray) (n : ByteArray) (H : Nat) (hH : w0.heap.size = H) (hs : a.eval s = v) (hx : a.eval x = .slice (some ⟨H, 0, none⟩) 1 1) (hO : OStr w0 base v l)
    (hl : l.length ≤ 1099511627776) (hbase : base ≤ w0.heap.size)
    (h : ∀ g cap w', OStr w' base (.slice (some ⟨g, 0, none⟩) (l.length + 1) cap) (l ++ [n]) → Chg (BI v) w0 w' → w0.heap.size < w'.heap.size → (BI v g ∨ w0.heap.size ≤ g) → wpList Tryz.prog ops Q rest (a.put o.dst (.slice (some ⟨g, 0, none⟩) (l.length + 1) cap)) w') :
    wpList Tryz.prog ops Q (o :: rest) a (w0.alloc (.cells #[.string n] 9)) := by
  subst hH
  obtain ⟨i0, hi, hz0, hz1, hz2⟩ := info_parts info_str
  refine wpList_append_lies _ hgd s x _ ho base 9 i0 (.string ⟨#[]⟩) 1 16 Tryz.underlying29 hi hz0 hz1 hz2 rfl (by omega) v l.length (l.map Value.string) hs (World.ownsRow.alloc hO _)
    ⟨w0.heap.size, 0, none⟩ 1 1 [.string n] hx rfl (cell_one_new _ _ _) (by simp [Value.oneCell']) (by omega) (by unfold maxLen; omega) (by omega) (by simp; omega) (w0.heap.size + 1) (by simp) ?_
  intro g cap w1 hown hgrow hat hlt
  refine h g cap w1 ?_ ((Chg.of_below (ext_alloc1 _ _) _).trans (Chg.of_grown hgrow)) (by have := hgrow.size; simp at this; omega) (hat.elim (fun h => .inl h) fun h => .inr (by omega))
  unfold OStr
  simpa using hown
theorem ba_nil {x : ByteArray} (h : x.size = 0) : x = ⟨#[]⟩ := by
  have : x.data.toList.length = 0 := by rw [size_toList]; exact h
  exact ba_ext (List.eq_nil_of_length_eq_zero this)
/-- What DeskCommand's contract says. -/
def DCmd (w : World) : Prop := ∀ (v : Value) (d : DK) (line : ByteArray) (W : World), Below w.heap.size w W → RDK W v d → SmDK d → line.size ≤ 1048576 → Calls Tryz.prog 11 #[v, .string line] W (RetD (mDesk d line) W)
theorem mDesk_q {d : DK} {line : ByteArray} (hv : vDK d = true) (h : mDo d line = none) : mDesk d line = (default, [], 7) := by unfold mDesk; rw [if_pos hv, h]
theorem mDesk_p {d : DK} {line : ByteArray} {p : DK × List ByteArray} (hv : vDK d = true) (h : mDo d line = some p) : mDesk d line = (p.1, p.2, 0) := by unfold mDesk; rw [if_pos hv, h]
/-- What stands while the lines are executed. -/
structure RX (w w1 W : World) (q : Nat) (ls : List ByteArray) (k : Nat) (d : DK) (A : Option Addr) (c : Nat) (B : Option Addr) (e : Nat) (O : Option Addr) (co : Nat) (out : List ByteArray) : Prop where
  run : runK ls k = (d, out)
  bx : DB W w1.heap.size q d A c B e
  own : OStr W w1.heap.size (.slice O out.length co) out
  ap : ∀ j, BI (.slice O out.length co) j → j ≠ q ∧ ¬ BI (.slice A d.cs.length c) j ∧ ¬ BI (.slice B d.wall.length e) j
  bel : Below w1.heap.size w1 W
  hw : Below w.heap.size w w1
theorem RX.ok {w w1 W : World} {q : Nat} {ls : List ByteArray} {k : Nat} {d : DK} {A : Option Addr} {c : Nat} {B : Option Addr} {e : Nat} {O : Option Addr} {co : Nat} {out : List ByteArray} (h : RX w w1 W q ls k d A c B e O co out) : vDK d = true := by
  have := (run_ok ls k).1
  rw [h.run] at this
  exact this
theorem RX.lt {w w1 W : World} {q : Nat} {ls : List ByteArray} {k : Nat} {d : DK} {A : Option Addr} {c : Nat} {B : Option Addr} {e : Nat} {O : Option Addr} {co : Nat} {out : List ByteArray} (h : RX w w1 W q ls k d A c B e O co out) : q < W.heap.size := h.bx.lt
theorem RX.n {w w1 W : World} {q : Nat} {ls : List ByteArray} {k : Nat} {d : DK} {A : Option Addr} {c : Nat} {B : Option Addr} {e : Nat} {O : Option Addr} {co : Nat} {out : List ByteArray} (h : RX w w1 W q ls k d A c B e O co out) : out.length ≤ 4001 * k := by
  have := (run_ok ls k).2.1
  rw [h.run] at this
  exact this
theorem RX.rd {w w1 W : World} {q : Nat} {ls : List ByteArray} {k : Nat} {d : DK} {A : Option Addr} {c : Nat} {B : Option Addr} {e : Nat} {O : Option Addr} {co : Nat} {out : List ByteArray} (h : RX w w1 W q ls k d A c B e O co out) : RDK W (.agg #[.int .i64 d.f.l, .int .i64 d.f.w, .int .i64 d.f.h, .int .i64 d.f.j, .string d.nm, .slice A d.cs.length c, .slice B d.wall.length e, .string d.log]) d :=
  ⟨A, c, B, e, rfl, h.bx.own.1.rd, h.bx.own.2.1.rd⟩
theorem RX.ext {w w1 W W' : World} {q : Nat} {ls : List ByteArray} {k : Nat} {d : DK} {A : Option Addr} {c : Nat} {B : Option Addr} {e : Nat} {O : Option Addr} {co : Nat} {out : List ByteArray} (h : RX w w1 W q ls k d A c B e O co out) (hb : Below W.heap.size W W') : RX w w1 W' q ls k d A c B e O co out :=
  ⟨h.run, h.bx.ext hb, h.own.ext hb, h.ap, ext_trans h.bel hb, h.hw⟩
theorem RX.to {w w1 W : World} {q : Nat} {ls : List ByteArray} {k : Nat} {d : DK} {A : Option Addr} {c : Nat} {B : Option Addr} {e : Nat} {O : Option Addr} {co : Nat} {out : List ByteArray} (h : RX w w1 W q ls k d A c B e O co out) : Below w.heap.size w W := ext_trans h.hw h.bel
/-- A line that is no command. -/
theorem RX.none' {w w1 W W' : World} {q : Nat} {ls : List ByteArray} {k : Nat} {d : DK} {A : Option Addr} {c : Nat} {B : Option Addr} {e : Nat} {O : Option Addr} {co : Nat} {out : List ByteArray} (h : RX w w1 W q ls k d A c B e O co out) (hn : mDo d (gd ls k) = none) {g cap : Nat}
    (hO : OStr W' w1.heap.size (.slice (some ⟨g, 0, none⟩) (out.length + 1) cap) (out ++ [quest])) (hc : Chg (BI (.slice O out.length co)) W W') (hg : BI (.slice O out.length co) g ∨ W.heap.size ≤ g) : RX w w1 W' q ls (k + 1) d A c B e (some ⟨g, 0, none⟩) cap (out ++ [quest]) := by
  refine ⟨runK_none h.run hn, ?_, by rw [List.length_append]; exact hO, fun j hj => ?_, Chg.ext h.bel hc (fun k hk => (h.own.ge k hk).1), h.hw⟩
  · exact h.bx.chg hc (fun hq => (h.ap _ hq).1 rfl) (fun k hk h2 => (h.ap _ h2).2.1 hk) (fun k hk h2 => (h.ap _ h2).2.2 hk)
  · obtain rfl : g = j := Option.some.inj hj
    rcases hg with hg | hg
    · exact h.ap _ hg
    · have := h.bx.lt
      exact ⟨by omega, fun hk => by have := (h.bx.own.1.ge _ hk).2; omega, fun hk => by have := (h.bx.own.2.1.ge _ hk).2; omega⟩
abbrev Z8 (d : DK) (A : Option Addr) (c : Nat) (B : Option Addr) (e : Nat) : Obj := .cells #[.int .i64 d.f.l, .int .i64 d.f.w, .int .i64 d.f.h, .int .i64 d.f.j, .string d.nm, .slice A d.cs.length c, .slice B d.wall.length e, .string d.log] 38
abbrev D8 (W : World) (r : Nat) (d : DK) (A : Option Addr) (c : Nat) (B : Option Addr) (e : Nat) : World := P8 W r (.int .i64 d.f.l) (.int .i64 d.f.w) (.int .i64 d.f.h) (.int .i64 d.f.j) (.string d.nm) (.slice A d.cs.length c) (.slice B d.wall.length e) (.string d.log)
/-- A command's state stored into the box, its lines appended. -/
theorem RX.some' {w w1 W W7 W8 : World} {q : Nat} {ls : List ByteArray} {k : Nat} {d : DK} {A : Option Addr} {c : Nat} {B : Option Addr} {e : Nat} {O : Option Addr} {co : Nat} {out : List ByteArray} (h : RX w w1 W q ls k d A c B e O co out) {p : DK × List ByteArray} (hn : mDo d (gd ls k) = some p)
    {A2 : Option Addr} {c2 : Nat} {B2 : Option Addr} {e2 : Nat} (hb7 : Below W.heap.size W W7) (hd : ODKp W7 W.heap.size (.slice A2 p.1.cs.length c2) (.slice B2 p.1.wall.length e2) p.1)
    (hc : Chg (fun j => BI (.slice O out.length co) j ∨ j = q) W7 W8) (k0 : PDK W8 q p.1 A2 c2 B2 e2) (hf : ∀ j, W8.frozen? ⟨q, j, none⟩ = false) {g cap : Nat}
    (hO : OStr W8 w1.heap.size (.slice (some ⟨g, 0, none⟩) (out.length + p.2.length) cap) (out ++ p.2)) (hg : BI (.slice O out.length co) g ∨ W7.heap.size ≤ g) : RX w w1 W8 q ls (k + 1) p.1 A2 c2 B2 e2 (some ⟨g, 0, none⟩) cap (out ++ p.2) := by
  have h7 := hb7.size
  have hql := h.bx.lt
  have hge := h.bx.ge
  have hw1 := h.bel.size
  refine ⟨runK_some h.run hn, ⟨k0, ?_, fun k hk => ?_, fun k hk => ?_, hf, hge⟩, by rw [List.length_append]; exact hO, fun j hj => ?_, Chg.ext (ext_trans h.bel hb7) hc (fun k hk => ?_), h.hw⟩
  · have hne : ∀ j, W.heap.size ≤ j → ¬ (BI (.slice O out.length co) j ∨ j = q) := fun j hj hh => by
      rcases hh with hh | hh
      · have := (h.own.ge j hh).2; omega
      · omega
    exact ⟨(hd.1.chg hc (fun j hj => hne j (hd.1.ge j hj).1)).mono hw1, (hd.2.1.chg hc (fun j hj => hne j (hd.2.1.ge j hj).1)).mono hw1, hd.2.2⟩
  · have := (hd.1.ge k hk).1; omega
  · have := (hd.2.1.ge k hk).1; omega
  · obtain rfl : g = j := Option.some.inj hj
    rcases hg with hg | hg
    · have := (h.own.ge _ hg).2
      exact ⟨(h.ap _ hg).1, fun hk => by have := (hd.1.ge _ hk).1; omega, fun hk => by have := (hd.2.1.ge _ hk).1; omega⟩
    · exact ⟨by omega, fun hk => by have := (hd.1.ge _ hk).2; omega, fun hk => by have := (hd.2.1.ge _ hk).2; omega⟩
  · rcases hk with hk | hk
    · exact (h.own.ge k hk).1
    · omega
theorem dr_put (W : World) (r : Nat) {y0 y1 y2 y3 y4 y5 y6 y7 : Value} (z0 : W.cell? ⟨r, 0, none⟩ = some y0) (z1 : W.cell? ⟨r, 1, none⟩ = some y1) (z2 : W.cell? ⟨r, 2, none⟩ = some y2) (z3 : W.cell? ⟨r, 3, none⟩ = some y3) (z4 : W.cell? ⟨r, 4, none⟩ = some y4) (z5 : W.cell? ⟨r, 5, none⟩ = some y5) (z6 : W.cell? ⟨r, 6, none⟩ = some y6) (z7 : W.cell? ⟨r, 7, none⟩ = some y7) (x0 x1 x2 x3 x4 x5 x6 x7 : Value) : DR W (P8 W r x0 x1 x2 x3 x4 x5 x6 x7) r x0 x1 x2 x3 x4 x5 x6 x7 :=
  ⟨chg8 _ _ _ _ _ _ _ _ _ _, by simp, by simp [go_sem, z0], by simp [go_sem, z1], by simp [go_sem, z2], by simp [go_sem, z3], by simp [go_sem, z4], by simp [go_sem, z5], by simp [go_sem, z6], by simp [go_sem, z7]⟩
theorem RX.fin {w w1 W W7 W8 : World} {q : Nat} {ls : List ByteArray} {k : Nat} {d : DK} {A : Option Addr} {c : Nat} {B : Option Addr} {e : Nat} {O : Option Addr} {co : Nat} {out : List ByteArray} (h : RX w w1 W q ls k d A c B e O co out) {d2 : DK} {l2 : List ByteArray} (hn : mDo d (gd ls k) = some (d2, l2))
    {A2 : Option Addr} {c2 : Nat} {B2 : Option Addr} {e2 : Nat} (hb7 : Below W.heap.size W W7) (hd : ODKp W7 W.heap.size (.slice A2 d2.cs.length c2) (.slice B2 d2.wall.length e2) d2) (hc : Chg (BI (.slice O out.length co)) W7.drew W8) {g cap : Nat}
    (hO : OStr W8 w1.heap.size (.slice (some ⟨g, 0, none⟩) (out.length + l2.length) cap) (out ++ l2)) (hg : BI (.slice O out.length co) g ∨ g = W7.drew.heap.size) : RX w w1 (D8 W8 q d2 A2 c2 B2 e2) q ls (k + 1) d2 A2 c2 B2 e2 (some ⟨g, 0, none⟩) cap (out ++ l2) := by
  have h7 := hb7.size
  have hql := h.bx.lt
  have hnq : ¬ BI (.slice O out.length co) q := fun hh => (h.ap q hh).1 rfl
  obtain ⟨z0, z1, z2, z3, z4, z5, z6, z7⟩ := (h.bx.ext (ext_trans hb7 (ext_drew (ext_refl _)))).chg hc hnq (fun j hj h2 => (h.ap j h2).2.1 hj) (fun j hj h2 => (h.ap j h2).2.2 hj) |>.cells
  have hf := ((h.bx.ext (ext_trans hb7 (ext_drew (ext_refl _)))).chg hc hnq (fun j hj h2 => (h.ap j h2).2.1 hj) (fun j hj h2 => (h.ap j h2).2.2 hj)).fz
  have hD := dr_put W8 q z0 z1 z2 z3 z4 z5 z6 z7 (.int .i64 d2.f.l) (.int .i64 d2.f.w) (.int .i64 d2.f.h) (.int .i64 d2.f.j) (.string d2.nm) (.slice A2 d2.cs.length c2) (.slice B2 d2.wall.length e2) (.string d2.log)
  have hgq : g ≠ q := by
    rcases hg with hg | hg
    · exact (h.ap g hg).1
    · have : W7.drew.heap.size = W7.heap.size := rfl
      omega
  have hcc : Chg (fun j => BI (.slice O out.length co) j ∨ j = q) W7 (D8 W8 q d2 A2 c2 B2 e2) := ((Chg.of_below (ext_drew (ext_refl _)) _).trans (hc.mono fun k hk => .inl hk)).trans (hD.c.mono fun k hk => .inr hk)
  exact h.some' hn hb7 hd hcc ⟨hD.r0, hD.r1, hD.r2, hD.r3, hD.r4, hD.r5, hD.r6, hD.r7⟩ (fun j => by simp only [D8, P8, World.frozen?_setCell]; exact hf j)
    (hO.chg hD.c (fun k hk => by obtain rfl : g = k := Option.some.inj hk; exact hgq)) (hg.imp id fun h => by have : W7.drew.heap.size = W7.heap.size := rfl; omega)
set_option maxHeartbeats 6400000 in
theorem impl_RunDesk0 (t : ByteArray) (ht : t.size ≤ 1048576) (w : World) (hE : EnvK w) (hD : DCmd w) :
    Calls Tryz.prog 7 #[.string t] w (Ret (.string (mRun t)) w) := by
  obtain ⟨m, hm⟩ : ∃ m, (spb 10 t).length = m + 1 := ⟨(spb 10 t).length - 1, by have := spb_pos 10 t; omega⟩
  have HE := Lib.hid (fun W (h : Below w.heap.size w W) => hE.ext h)
  have HDC := Lib.hid hD
  have HSP : Hid (∀ W, Env W → Calls Tryz.prog 29 #[.string t, .string ⟨#[10]⟩] W fun e w' => ∃ A cp, e = .returned (.slice A (m + 1) cp) ∧ OStr w' W.heap.size (.slice A (m + 1) cp) (spb 10 t) ∧ Below W.heap.size W w') := Lib.hid fun W hE => by
    have h := impl_Split t ht 10 W hE
    rw [hm] at h
    exact h
  have HLS := Lib.hid (fun k (hk : k < (linesOf t).length) => Nat.le_trans (linesOf_sz hk) ht)
  have HL1 := Lib.hid (fun h => linesOf_last (t := t) hm h)
  have HL2 := Lib.hid (fun h => linesOf_all (t := t) hm h)
  have HMR : Hid (mRun t = lnA (outOf (linesOf t))) := Lib.hid rfl
  have HLE : Hid ((linesOf t).length ≤ 1048577) := Lib.hid (by have := linesOf_le t; omega)
  have HM := Lib.hid hm
  obtain ⟨ws, hws⟩ : ∃ x, spb 10 t = x := ⟨_, rfl⟩
  obtain ⟨ls, hls⟩ : ∃ x, linesOf t = x := ⟨_, rfl⟩
  obtain ⟨R, hR⟩ : ∃ x, mRun t = x := ⟨_, rfl⟩
  rw [hws] at HSP HL1 HL2 HM
  rw [hls] at HLS HL1 HL2 HMR HLE
  rw [hR] at HMR
  rw [hR]
  have hmz : m ≤ 1048576 := by have := spb_len 10 t; omega
  clear hws hls hR hE hD hm ht
  go_enter Tryz.func7, Tryz.ntmps7
  go_wp2_with fail
  refine (show Calls _ _ _ _ _ from HSP.out _ (HE.out _ (ext_refl _)).env).mono ?_
  rintro e' w1 ⟨Aw, cw, rfl, hO, hb⟩
  have HO := Lib.hid hO
  have HB1 := Lib.hid hb
  obtain ⟨ad, rfl, _, hc⟩ := HO.out.rd.at (k := m) (by rw [HM.out]; omega)
  have wl := hc m (by rw [HM.out]; omega)
  have hmc : m ≤ cw := by obtain ⟨A', c', hv, h1, _⟩ := HO.out.rd.open_; injection hv with _ _ e; subst e; have := HM.out; omega
  clear hO hb hc HSP
  obtain ⟨x0, hx0⟩ : ∃ x, gd ws m = x := ⟨_, rfl⟩
  rw [hx0] at wl HL1 HL2
  clear hx0
  have HR1 : Hid (RStr w1 (.slice (some ad) ls.length cw) ls) := Lib.hid (by
    by_cases hz : x0 = ⟨#[]⟩
    · rw [HL1.out hz]
      have h := HO.out.rd.pre (m := m) (by rw [HM.out]; omega)
      rwa [show (ws.take m).length = m by rw [List.length_take, HM.out]; omega]
    · rw [HL2.out hz, HM.out]
      exact HO.out.rd)
  go_upto_if 24 with fail
  go_cut [3] from 24 to 27 (fun u wx => u = .slice (some ad) ls.length cw ∧ wx = w1)
  case first =>
    by_cases hz : x0 = ⟨#[]⟩
    · have HN : Hid (ls.length = m) := Lib.hid (by rw [HL1.out hz, List.length_take, HM.out]; omega)
      have hz2 : x0.toList.isEmpty = true := by rw [emptS, hz]; rfl
      clear hz
      rw [hz2]
      go_wp2_with fail
      go_meet
      exact ⟨by rw [HN.out], rfl⟩
    · have HN : Hid (ls.length = m + 1) := Lib.hid (by rw [HL2.out hz, HM.out])
      have hz2 : x0.toList.isEmpty = false := by rw [emptS, decide_eq_false (fun h => hz (ba_nil h))]
      clear hz
      rw [hz2]
      go_wp2_with fail
      go_meet
      exact ⟨by rw [HN.out], rfl⟩
  case rest =>
  obtain ⟨rfl, rfl⟩ := hcut
  clear wl HL1 HL2 HO HM
  go_wp2_with fail
  refine (impl_NewDesk _ ⟨(HE.out _ HB1.out).env.shp, (HE.out _ HB1.out).lib⟩).mono ?_
  rintro e' w2 ⟨v, rfl, ⟨A, c, B, e, rfl, hod⟩, hsm, hb2⟩
  obtain ⟨d0, hd0⟩ : ∃ d, newD = d := ⟨_, rfl⟩
  rw [hd0] at hod
  have HRUN : Hid (runK ls 0 = (d0, [])) := Lib.hid (by rw [← hd0]; rfl)
  simp only [hd0]
  have HX0 : Hid (RX w wc ((w2.alloc (.cells #[] 9)).alloc (Z8 d0 A c B e)) (w2.heap.size + 1) ls 0 d0 A c B e (some ⟨w2.heap.size, 0, none⟩) 0 []) := Lib.hid (by
    have hs2 := hb2.size
    have h3 : Below wc.heap.size wc (w2.alloc (.cells #[] 9)) := ext_alloc hb2 _
    refine ⟨HRUN.out, ?_, ?_, ?_, ext_alloc h3 _, HB1.out⟩
    · have hP := PDK.new (w2.alloc (.cells #[] 9)) d0 A c B e 38
      rw [World.size_alloc] at hP
      refine ⟨hP, (hod.ext (ext_alloc1 _ _)).ext (ext_alloc1 _ _), fun k hk => ?_, fun k hk => ?_, fun j => by simp [go_sem], by omega⟩
      · have := (hod.1.ge k hk).2; omega
      · have := (hod.2.1.ge k hk).2; omega
    · exact (ostr_lit w2 wc.heap.size hs2).ext (ext_alloc1 _ _)
    · intro j hj
      obtain rfl : w2.heap.size = j := Option.some.inj hj
      exact ⟨by omega, fun hk => by have := (hod.1.ge _ hk).2; omega, fun hk => by have := (hod.2.1.ge _ hk).2; omega⟩)
  clear hod hsm hb2 hd0 HRUN
  go_upto_block 0 with fail
  obtain ⟨q, hq⟩ : ∃ q, w2.heap.size + 1 = q := ⟨_, rfl⟩
  simp only [hq] at HX0 ⊢
  obtain ⟨w3, hw3⟩ : ∃ x, (w2.alloc (.cells #[] 9)).alloc (Z8 d0 A c B e) = x := ⟨_, rfl⟩
  rw [hw3] at HX0
  rw [hw3]
  clear hw3
  go_cut [6, 7, 8, 9, 10, 11] (fun u _ _ _ _ _ wx => ∃ A1 c1, u = .slice A1 (outOf ls).length c1 ∧ Hid (OStr wx wc.heap.size (.slice A1 (outOf ls).length c1) (outOf ls)) ∧ Hid (Below w.heap.size w wx))
  case first =>
    go_wp2_with fail
    go_loopw [6, 32] (fun u i wr => ∃ (k : Nat) (d : DK) (A2 : Option Addr) (c2 : Nat) (B2 : Option Addr) (e2 : Nat) (O : Option Addr) (co : Nat) (out : List ByteArray), k ≤ ls.length ∧ k ≤ 60 ∧ i = .int .i64 k ∧ u = .slice O out.length co ∧ Hid (RX w wc wr q ls k d A2 c2 B2 e2 O co out)) (fun _ i _ => ls.length - (intOf i).toNat)
    case atStart => exact ⟨0, d0, A, c, B, e, _, _, [], Nat.zero_le _, Nat.zero_le _, rfl, rfl, HX0⟩
    case round =>
      obtain ⟨k, d, A2, c2, B2, e2, O, co, out, hk, hk6, rfl, rfl, HX⟩ := hrel
      have e1 : (0 : Int) ≤ k := by omega
      have hon := HX.out.n
      have hosz : out.length ≤ 1073741824 := by omega
      clear hon
      by_cases hlt : k < ls.length
      · have e2' : (k : Int) < ls.length := by omega
        obtain ⟨ad2, hA, _, hcl⟩ := (HR1.out.ext HX.out.bel).at hlt
        obtain rfl : ad = ad2 := Option.some.inj hA
        have wl := hcl k hlt
        clear hA hcl
        by_cases h60 : k = 60
        · have HOF : Hid (outOf ls = out ++ [erT 5]) := Lib.hid (outOf_full (by omega) (by have := HX.out.run; rw [h60] at this; exact this))
          have e6 : ((k : Int) == 60) = true := by rw [h60]; rfl
          clear h60
          have hge : wc.heap.size ≤ wr.heap.size := HX.out.bel.size
          go_wp2_with (at_builtin; refine wpList_append_str rfl _ _ rfl wc.heap.size (.slice O out.length co) out ⟨#[101, 114, 114, 111, 114, 32, 102, 117, 108, 108]⟩ rfl rfl HX.out.own (by omega) hge ?_; intro g cap w5 hO5 hg5 hlt5)
          go_meet
          rw [HOF.out, erT5]
          exact ⟨some ⟨g, 0, none⟩, cap, by rw [List.length_append]; rfl, Lib.hid (by rw [List.length_append]; exact hO5), Lib.hid (Chg.ext HX.out.to hg5 (fun j hj => by have := (HX.out.own.ge j hj).1; have := HB1.out.size; omega))⟩
        · have e6 : ((k : Int) == 60) = false := by simp; omega
          obtain ⟨z0, z1, z2, z3, z4, z5, z6, z7⟩ := HX.out.bx.cells
          obtain ⟨line, hline⟩ : ∃ x, gd ls k = x := ⟨_, rfl⟩
          rw [hline] at wl
          have HLN := Lib.hid hline
          have HCALL := Lib.hid (HDC.out _ d line wr HX.out.to HX.out.rd (vDK_sm HX.out.ok) (by rw [← hline]; exact HLS.out k hlt))
          clear hline
          cases hm : mDo d line with
          | none =>
            rw [mDesk_q HX.out.ok hm] at HCALL
            have HM := Lib.hid hm
            clear hm
            go_wp2_with fail
            refine (show Calls _ _ _ _ _ from HCALL.out).mono ?_
            rintro e' w6 ⟨dv, lv, rfl, ⟨A3, c3, B3, e3, rfl, hod⟩, hol, hap, hb6⟩
            have HX6 := Lib.hid (HX.out.ext hb6)
            clear hod hol hap hb6 z0 z1 z2 z3 z4 z5 z6 z7 HCALL
            generalize (default : DK) = dd
            have HX7 := Lib.hid (HX6.out.ext (ext_alloc1 w6 (Z8 dd A3 c3 B3 e3)))
            have hge : wc.heap.size ≤ (w6.alloc (Z8 dd A3 c3 B3 e3)).heap.size := HX7.out.bel.size
            go_wp2_with (at_builtin; refine wpList_append_str5 rfl _ _ rfl wc.heap.size (.slice O out.length co) out ⟨#[63]⟩ (w6.heap.size + 1) (by simp) rfl rfl HX7.out.own (by omega) hge ?_; intro g cap w8 hO8 hc8 hlt8 hg8)
            go_roundw
            case rel => exact ⟨k + 1, d, A2, c2, B2, e2, some ⟨g, 0, none⟩, cap, out ++ [quest], hlt, by omega, by go_num, by rw [List.length_append]; rfl, Lib.hid (HX7.out.none' (by rw [HLN.out]; exact HM.out) hO8 hc8 hg8)⟩
            case measure => simp [intOf]; omega
          | some p =>
            rw [mDesk_p HX.out.ok hm] at HCALL
            have HSAY := Lib.hid (do_ok HX.out.ok hm).2
            have HM := Lib.hid hm
            clear hm
            obtain ⟨d3, l3⟩ := p
            have hs1 := HSAY.out.1
            have hs2 := HSAY.out.2.1
            simp only at hs1 hs2 HCALL
            go_wp2_with fail
            refine (show Calls _ _ _ _ _ from HCALL.out).mono ?_
            rintro e' w6 ⟨dv, lv, rfl, ⟨A3, c3, B3, e3, rfl, hod⟩, hol, hap, hb6⟩
            change ODKp w6 wr.heap.size (.slice A3 d3.cs.length c3) (.slice B3 d3.wall.length e3) d3 at hod
            change OStr w6 wr.heap.size lv l3 at hol
            obtain ⟨Al, cl, rfl, _⟩ := hol.rd.open_
            obtain ⟨adl, rfl, _⟩ := hol.rd.at (k := 0) (by omega)
            have HX6 := Lib.hid (HX.out.ext hb6)
            have HB6 := Lib.hid hb6
            have HOD := Lib.hid hod
            have HOL := Lib.hid hol
            clear hod hol hap hb6 z0 z1 z2 z3 z4 z5 z6 z7 HCALL
            obtain ⟨w7, hw7⟩ : ∃ x, w6.alloc (Z8 d3 A3 c3 B3 e3) = x := ⟨_, rfl⟩
            have HP7 : Hid (PDK w7 w6.heap.size d3 A3 c3 B3 e3) := Lib.hid (by rw [← hw7]; exact PDK.new w6 d3 A3 c3 B3 e3 _)
            have HB67 : Hid (Below w6.heap.size w6 w7) := Lib.hid (by rw [← hw7]; exact ext_alloc1 _ _)
            have hs7 : w7.heap.size = w6.heap.size + 1 := by rw [← hw7]; simp
            have HX7 := Lib.hid (HX6.out.ext HB67.out)
            have HOD7 := Lib.hid (HOD.out.ext HB67.out)
            have HOL7 := Lib.hid (HOL.out.ext HB67.out)
            have HB7 := Lib.hid (ext_trans HB6.out HB67.out)
            have hql := HX6.out.bx.lt
            have hs6 := HB6.out.size
            go_upto_region 14 with fail
            obtain ⟨r, hr⟩ : ∃ r, w6.heap.size = r := ⟨_, rfl⟩
            rw [hr] at HP7 hql hs7
            simp only [hr]
            have HNR : Hid (¬ BI (.slice O out.length co) r) := Lib.hid (fun h => by have := (HX6.out.own.ge r h).2; omega)
            have HNQ : Hid (¬ BI (.slice O out.length co) q) := Lib.hid (fun h => (HX7.out.ap q h).1 rfl)
            clear hw7 HOD HOL HX6 HB6 HB67 hr
            obtain ⟨l0, l1, l2, l3', l4, l5, l6, l7⟩ := HP7.out
            obtain ⟨z0, z1, z2, z3, z4, z5, z6, z7⟩ := HX7.out.bx.cells
            have zf := HX7.out.bx.fz
            have hqr : q ≠ r := by omega
            have hrq := hqr.symm
            have hge : wc.heap.size ≤ w7.heap.size := HX7.out.bel.size
            go_region_law ((refine step_append_rs (by rfl) _ _ (by rfl) wc.heap.size (.slice O out.length co) out l3 adl l3.length cl (by rfl) (by rfl) (HX7.out.own.ext (ext_drew (ext_refl _))) (HOL7.out.rd.ext (ext_drew (ext_refl _))) rfl (by omega) (by omega) (by omega) (by simpa using hge) ?_; intro g cap w8 hO8 hc8 hg8 hlt8); (have m0 := hc8.cell (cell_keep l0 (ext_drew (ext_refl _))) HNR.out); (have m1 := hc8.cell (cell_keep l1 (ext_drew (ext_refl _))) HNR.out); (have m2 := hc8.cell (cell_keep l2 (ext_drew (ext_refl _))) HNR.out); (have m3 := hc8.cell (cell_keep l3' (ext_drew (ext_refl _))) HNR.out); (have m4 := hc8.cell (cell_keep l4 (ext_drew (ext_refl _))) HNR.out); (have m5 := hc8.cell (cell_keep l5 (ext_drew (ext_refl _))) HNR.out); (have m6 := hc8.cell (cell_keep l6 (ext_drew (ext_refl _))) HNR.out); (have m7 := hc8.cell (cell_keep l7 (ext_drew (ext_refl _))) HNR.out); (have y0 := hc8.cell (cell_keep z0 (ext_drew (ext_refl _))) HNQ.out); (have y1 := hc8.cell (cell_keep z1 (ext_drew (ext_refl _))) HNQ.out); (have y2 := hc8.cell (cell_keep z2 (ext_drew (ext_refl _))) HNQ.out); (have y3 := hc8.cell (cell_keep z3 (ext_drew (ext_refl _))) HNQ.out); (have y4 := hc8.cell (cell_keep z4 (ext_drew (ext_refl _))) HNQ.out); (have y5 := hc8.cell (cell_keep z5 (ext_drew (ext_refl _))) HNQ.out); (have y6 := hc8.cell (cell_keep z6 (ext_drew (ext_refl _))) HNQ.out); (have y7 := hc8.cell (cell_keep z7 (ext_drew (ext_refl _))) HNQ.out); (have yf : ∀ j, w8.frozen? ⟨q, j, none⟩ = false := fun j => by rw [World.frozen?_of_block (hc8.block q (show q < w7.drew.heap.size from HX7.out.lt) HNQ.out)]; exact zf j); (have HO8 := Lib.hid hO8); (have HC8 := Lib.hid hc8); (have HG8 := Lib.hid hg8); clear hO8 hc8 hg8 hlt8)
            all_goals
              go_wp2_with fail
              go_roundw
              case rel => exact ⟨k + 1, d3, A3, c3, B3, e3, some ⟨g, 0, none⟩, cap, out ++ l3, hlt, by omega, by go_num, by rw [List.length_append], Lib.hid (HX.out.fin (by rw [HLN.out]; exact HM.out) HB7.out HOD7.out HC8.out HO8.out HG8.out)⟩
              case measure => simp [intOf]; omega
      · have e2' : ¬ (k : Int) < ls.length := by omega
        have HOF : Hid (outOf ls = out) := Lib.hid (by
          have : k = ls.length := by omega
          subst this
          exact outOf_all hk6 HX.out.run)
        go_wp2_with fail
        go_meet
        rw [HOF.out]
        exact ⟨O, co, rfl, Lib.hid HX.out.own, Lib.hid HX.out.to⟩
  case rest =>
    obtain ⟨A1, c1, rfl, HO9, HB9⟩ := hcut
    have HOK := Lib.hid (outOf_ok ls)
    obtain ⟨out, hout⟩ : ∃ x, outOf ls = x := ⟨_, rfl⟩
    rw [hout] at HO9 HMR HOK
    simp only [hout]
    clear hout HX0 HR1 HLS HDC hq
    have HSZ := Lib.hid (lnK_size HOK.out.z)
    have hon := HOK.out.n
    go_wp2_with fail
    go_loopw [12, 61] (fun u i wr => ∃ (k : Nat) (acc : ByteArray), k ≤ out.length ∧ i = .int .i64 k ∧ u = .string acc ∧ Hid (acc = lnK out k) ∧ Hid (RStr wr (.slice A1 out.length c1) out) ∧ Hid (Below w.heap.size w wr)) (fun _ i _ => out.length - (intOf i).toNat)
    case atStart => exact ⟨0, ⟨#[]⟩, Nat.zero_le _, rfl, rfl, Lib.hid rfl, Lib.hid HO9.out.rd, HB9⟩
    case round =>
      obtain ⟨k, acc, hk, rfl, rfl, HACC, HRO, HB⟩ := hrel
      have e1 : (0 : Int) ≤ k := by omega
      by_cases hlt : k < out.length
      · have e2 : (k : Int) < out.length := by omega
        obtain ⟨ad2, rfl, _, hcl⟩ := HRO.out.at hlt
        have wl := hcl k hlt
        have hz1 := HSZ.out k hk
        rw [← HACC.out] at hz1
        have hz2 := HOK.out.z _ (gd_mem hlt)
        obtain ⟨line, hline⟩ : ∃ x, gd out k = x := ⟨_, rfl⟩
        have HLN := Lib.hid hline
        rw [hline] at wl hz2
        have s1 : ¬ 9223372036854775807 < line.size + 1 := by omega
        have s2 : ¬ 9223372036854775807 < acc.size + (line.size + 1) := by omega
        clear hcl hline hz1 hz2
        go_wp2_with fail
        go_roundw
        case rel => exact ⟨k + 1, acc ++ (line ++ ⟨#[10]⟩), hlt, by go_num, rfl, Lib.hid (by show _ = lnK out k ++ gd out k ++ ⟨#[10]⟩; rw [HLN.out, ← HACC.out, ByteArray.append_assoc]), HRO, HB⟩
        case measure => simp [intOf]; omega
      · have e2 : ¬ (k : Int) < out.length := by omega
        obtain rfl : k = out.length := by omega
        go_wp2_with fail
        go_ret
        exact ⟨by rw [HMR.out, HACC.out]; rfl, HB.out⟩
end Go.Proofs.YtfgopboddkhckaaGreatDoor
namespace Go.Proofs.YtfgopboddkhckaaGreatDoor
open Go.ChangeShapes Go.WideShapes Go.ChangeAt Go.RowKit Go.Sort Go.Joins
set_option linter.unusedVariables false
set_option maxRecDepth 100000
def ExecC : Prop := ∀ (c : CM) (w00 W : World) (q : Nat) (d : DK) (A : Option Addr) (cc : Nat) (B : Option Addr) (e : Nat) (hD : DB W w00.heap.size q d A cc B e) (hb0 : Below w00.heap.size w00 W) (Aw : Option Addr) (cw : Nat) (l : List ByteArray) (hw : RStr W (.slice Aw l.length cw) l) (hl : l.length = (cmF c).length + 1) (hx : gd l 0 = cmW c) (hwq : ∀ ad, Aw = some ad → ad.block ≠ q) (hsz : ∀ k, k < l.length → (gd l k).size ≤ 1048576)
    (An : Option Addr) (cn : Nat) (xs : List Int) (hn : RI W (.slice An xs.length cn) xs) (hxs : xs = nmL c l (cmF c).length) (hE : Env w00) (hT : LibT w00) (hV : vDK d = true),
    Calls Tryz.prog 44 #[.pointer (some ⟨q, 0, none⟩), .slice Aw l.length cw, .slice An xs.length cn] W (ExP (mExec d c l) W w00.heap.size q)
end Go.Proofs.YtfgopboddkhckaaGreatDoor
