/-
  Logs: what the program reads of a line, in the words of the plain reading; its state in memory.
-/
import Derived.Test.YtoefoljhgnfoiaaGreatDoorLog6
namespace Go.Proofs.YtoefoljhgnfoiaaGreatDoor
open Go.ChangeShapes Go.WideShapes Go.ChangeAt Go.RowKit Go.Sort
set_option linter.unusedVariables false
set_option maxRecDepth 100000

theorem rl_yes {l : List ByteArray} (h : rlB l = true) : l.length = 4 ∧ rdb (gd l 0) = true ∧ rdb (gd l 2) = true ∧ rdb (gd l 3) = true ∧ vEn (enW l) = true ∧ rlE l = enW l ∧ rlS l = rdv (gd l 3) := by
  unfold rlB at h
  simp only [Bool.and_eq_true, decide_eq_true_eq] at h
  obtain ⟨h4, ⟨⟨h0, h2⟩, h3⟩, hv⟩ := h
  refine ⟨h4, h0, h2, h3, hv, ?_, ?_⟩
  · unfold rlE; rw [if_pos h4]
  · unfold rlS; rw [if_pos h4]
theorem impl_step_no {es : List EN} {st : Int} {r line : List UInt8} {k : Nat} {l : List ByteArray} (hline : r.take k = line) (h10 : (10 : UInt8) ∉ r.take k) (hk : r[k]? = some 10) (hl : spb 32 (bsq line) = l) (hb : rlB l = false) : stepL es st r = none := by
  rw [step_line h10 hk, hline]
  by_cases h4 : l.length = 4
  · rw [ln_four hl h4]
    by_cases hc : (rdb (gd l 0) && rdb (gd l 2) && vEn (enW l)) = true
    · rw [if_pos hc]
      simp only []
      rw [if_neg]
      rintro ⟨_, hd⟩
      simp only [Bool.and_eq_true] at hc
      have h3 := ((rd_iff (d := gd l 3) (stmp_bd st (wrd (enW l))).1 (stmp_bd st (wrd (enW l))).2).2 hd).1
      unfold rlB at hb
      rw [decide_eq_true h4, hc.1.1, hc.1.2, h3, hc.2] at hb
      simp at hb
    · rw [if_neg hc]
  · rw [ln_short (by rw [hl]; exact h4)]
theorem impl_step_yes {es : List EN} {st : Int} {r line : List UInt8} {k : Nat} {l : List ByteArray} (hline : r.take k = line) (h10 : (10 : UInt8) ∉ r.take k) (hk : r[k]? = some 10) (hl : spb 32 (bsq line) = l) (hb : rlB l = true) :
    stepL es st r = if lday es ≤ (rlE l).day ∧ stmp st (wrd (rlE l)) = rlS l then some (rlE l, stmp st (wrd (rlE l)), k + 1) else none := by
  obtain ⟨h4, h0, h2, h3, hv, hE, hS⟩ := rl_yes hb
  rw [step_line h10 hk, hline, ln_four hl h4, if_pos (by rw [h0, h2, hv]; rfl), hE, hS]
  simp only []
  have hi := rd_iff (d := gd l 3) (stmp_bd st (wrd (enW l))).1 (stmp_bd st (wrd (enW l))).2
  by_cases hd : (gd l 3).data.toList = Lib.itoa (stmp st (wrd (enW l)))
  · have := (hi.2 hd).2
    by_cases hl2 : lday es ≤ (enW l).day
    · rw [if_pos ⟨hl2, hd⟩, if_pos ⟨hl2, this⟩]
    · rw [if_neg (fun h => hl2 h.1), if_neg (fun h => hl2 h.1)]
  · rw [if_neg (fun h => hd h.2), if_neg (fun h => hd (hi.1 ⟨h3, h.2⟩))]

/-- The program's reading in block g: the entries, the stamp, the bytes. -/
structure RI3 (w : World) (B g : Nat) (es : List EN) (st : Int) (n : Nat) (A : Option Addr) (c : Nat) : Prop where
  h0 : w.cell? ⟨g, 0, none⟩ = some (.slice A es.length c)
  h1 : w.cell? ⟨g, 1, none⟩ = some (.int .i64 st)
  h2 : w.cell? ⟨g, 2, none⟩ = some (.int .i64 (n : Int))
  fz : ∀ j, w.frozen? ⟨g, j, none⟩ = false
  own : OENS w B (.slice A es.length c) es
  hg : g < B
theorem RI3.lt {w : World} {B g : Nat} {es : List EN} {st : Int} {n : Nat} {A : Option Addr} {c : Nat} (h : RI3 w B g es st n A c) : g < w.heap.size := block_lt_of_cell h.h0
theorem RI3.ext {w w' : World} {B g : Nat} {es : List EN} {st : Int} {n : Nat} {A : Option Addr} {c : Nat} (h : RI3 w B g es st n A c) (hb : Below w.heap.size w w') : RI3 w' B g es st n A c :=
  ⟨cell_keep h.h0 hb, cell_keep h.h1 hb, cell_keep h.h2 hb, fun j => by rw [hb.frozen (p := ⟨g, j, none⟩) h.lt]; exact h.fz j, h.own.ext hb, h.hg⟩
/-- One entry more. -/
theorem RI3.step {w7 w8 : World} {B g : Nat} {es : List EN} {st : Int} {n : Nat} {A : Option Addr} {c : Nat} (h : RI3 w7 B g es st n A c) {W7 : World} (hbb : Below w7.heap.size w7 W7) {gg cap : Nat} {en : EN}
    (hgrow : W7.grownBy w8 (Value.slice A es.length c).ownBlock) (hB : B ≤ w7.heap.size)
    (hown : w8.ownsRow B 98 3 (.slice (some ⟨gg, 0, none⟩) (es.length + 1) cap) (es.length + 1) (es.flatMap cEN ++ [.int .i64 en.day, .string en.what, .int .i64 en.val])) (st2 : Int) (m : Nat) :
    RI3 (((w8.setCell ⟨g, 0, none⟩ (.slice (some ⟨gg, 0, none⟩) (es.length + 1) cap)).setCell ⟨g, 1, none⟩ (.int .i64 st2)).setCell ⟨g, 2, none⟩ (.int .i64 (m : Int))) B g (es ++ [en]) st2 m (some ⟨gg, 0, none⟩) cap ∧
      Chg (fun k => k = g ∨ B ≤ k) w7 (((w8.setCell ⟨g, 0, none⟩ (.slice (some ⟨gg, 0, none⟩) (es.length + 1) cap)).setCell ⟨g, 1, none⟩ (.int .i64 st2)).setCell ⟨g, 2, none⟩ (.int .i64 (m : Int))) := by
  have hlt7 : g < w7.heap.size := h.lt
  have hne : (Value.slice A es.length c).ownBlock ≠ some g := fun e => by have := (h.own.ge g e).1; have := h.hg; omega
  have hltb : g < W7.heap.size := Nat.lt_of_lt_of_le hlt7 hbb.size
  have cl : ∀ j v, w7.cell? ⟨g, j, none⟩ = some v → w8.cell? ⟨g, j, none⟩ = some v := fun j v hv => (hgrow.cell_far ⟨g, j, none⟩ hltb (Ne.symm hne)).trans (cell_keep hv hbb)
  have fl : ∀ j, w8.frozen? ⟨g, j, none⟩ = false := fun j => (hgrow.frozen_far ⟨g, j, none⟩ hltb (Ne.symm hne)).trans ((hbb.frozen (p := ⟨g, j, none⟩) h.lt).trans (h.fz j))
  have hbx := @box3_set w8 g _ _ _ (.slice (some ⟨gg, 0, none⟩) (es.length + 1) cap) (.int .i64 st2) (.int .i64 (m : Int)) (cl 0 _ h.h0) (cl 1 _ h.h1) (cl 2 _ h.h2)
  have hl : (es ++ [en]).length = es.length + 1 := by simp
  have hO : OENS w8 B (.slice (some ⟨gg, 0, none⟩) (es ++ [en]).length cap) (es ++ [en]) := by
    unfold OENS
    rw [hl, List.flatMap_append]
    exact hown
  have hCh : Chg (fun k => k = g) w8 (((w8.setCell ⟨g, 0, none⟩ (.slice (some ⟨gg, 0, none⟩) (es.length + 1) cap)).setCell ⟨g, 1, none⟩ (.int .i64 st2)).setCell ⟨g, 2, none⟩ (.int .i64 (m : Int))) :=
    ((Chg.setCell (S := fun k => k = g) w8 (p := ⟨g, 0, none⟩) rfl _).trans (Chg.setCell (S := fun k => k = g) _ (p := ⟨g, 1, none⟩) rfl _)).trans (Chg.setCell (S := fun k => k = g) _ (p := ⟨g, 2, none⟩) rfl _)
  refine ⟨⟨by rw [hl]; exact hbx.1, hbx.2.1, hbx.2.2, fun j => by simpa using fl j, hO.chg hCh (fun k hk e => ?_), h.hg⟩, ?_⟩
  · subst e
    have := (hO.ge k hk).1
    have := h.hg
    omega
  · have c1 : Chg (fun k => k = g ∨ B ≤ k) w7 w8 := (Chg.of_below hbb _).trans ((Chg.of_grown hgrow).mono fun k hk => Or.inr (h.own.ge k hk).1)
    exact c1.trans (hCh.mono fun k hk => Or.inl hk)

theorem RI3.mid {w7 w8 : World} {B g : Nat} {es : List EN} {st : Int} {n : Nat} {A : Option Addr} {c : Nat} (h : RI3 w7 B g es st n A c) {W7 : World} (hbb : Below w7.heap.size w7 W7)
    (hgrow : W7.grownBy w8 (Value.slice A es.length c).ownBlock) : w8.cell? ⟨g, 0, none⟩ = some (.slice A es.length c) ∧ w8.cell? ⟨g, 1, none⟩ = some (.int .i64 st) ∧ w8.cell? ⟨g, 2, none⟩ = some (.int .i64 (n : Int)) ∧ ∀ j, w8.frozen? ⟨g, j, none⟩ = false := by
  have hne : (Value.slice A es.length c).ownBlock ≠ some g := fun e => by have := (h.own.ge g e).1; have := h.hg; omega
  have hltb : g < W7.heap.size := Nat.lt_of_lt_of_le h.lt hbb.size
  have cl : ∀ j v, w7.cell? ⟨g, j, none⟩ = some v → w8.cell? ⟨g, j, none⟩ = some v := fun j v hv => (hgrow.cell_far ⟨g, j, none⟩ hltb (Ne.symm hne)).trans (cell_keep hv hbb)
  exact ⟨cl 0 _ h.h0, cl 1 _ h.h1, cl 2 _ h.h2, fun j => (hgrow.frozen_far ⟨g, j, none⟩ hltb (Ne.symm hne)).trans ((hbb.frozen (p := ⟨g, j, none⟩) h.lt).trans (h.fz j))⟩
/-- 'append(out, e)': the entry lies in a block of its own. -/
theorem wpList_append_en {w0 : World} {ops : Array Oper} {rest : List Oper} {o : Oper} {a : Act} {Q : Exit → Act → World → Prop} (hgd : o.guard = none) (s x : Operand)
    (ho : o.op = .call { callee := .builtin .append, args := #[s, x], argTypes := #[73, 73] })
    (base : Nat) (v : Value) (es : List EN) (en : EN) (hs : a.eval s = v) (hx : a.eval x = .slice (some ⟨w0.heap.size, 0, none⟩) 1 1) (hO : OENS w0 base v es)
    (hl : es.length ≤ 1048576) (hbase : base ≤ w0.heap.size)
    (h : ∀ g cap w', w'.ownsRow base 98 3 (.slice (some ⟨g, 0, none⟩) (es.length + 1) cap) (es.length + 1) (es.flatMap cEN ++ [.int .i64 en.day, .string en.what, .int .i64 en.val]) →
      (w0.alloc (.cells #[.int .i64 en.day, .string en.what, .int .i64 en.val] 98)).grownBy w' v.ownBlock → wpList Tryz.prog ops Q rest (a.put o.dst (.slice (some ⟨g, 0, none⟩) (es.length + 1) cap)) w') :
    wpList Tryz.prog ops Q (o :: rest) a (w0.alloc (.cells #[.int .i64 en.day, .string en.what, .int .i64 en.val] 98)) := by
  obtain ⟨i0, hi, hz0, hz1, hz2⟩ := info_parts info_EN
  refine wpList_append_lies _ hgd s x _ ho base 98 i0 _ 3 32 Tryz.underlying73 hi hz0 hz1 hz2 rfl (by omega) v es.length (es.flatMap cEN) hs (World.ownsRow.alloc hO _)
    ⟨w0.heap.size, 0, none⟩ 1 1 [.int .i64 en.day, .string en.what, .int .i64 en.val] hx rfl (World.news_of_block (cs := #[.int .i64 en.day, .string en.what, .int .i64 en.val]) (t := 98) (fr := (0, 0)) (heap_alloc_new w0 _)) (by simp [Value.oneCell']) (by omega) (by unfold maxLen; omega) (by omega) (by simp; omega) (w0.heap.size + 1) (by simp) ?_
  intro g cap w1 hown hgrow hat hlt
  exact h g cap w1 hown hgrow
end Go.Proofs.YtoefoljhgnfoiaaGreatDoor
