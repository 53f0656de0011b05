/-
  Slices of bytes: read, the call's own, append, the text of them.
-/
import Derived.Test.YtoefoljhgnfoiaaGreatDoorBase
import Derived.Test.YtoefoljhgnfoiaaGreatDoorAppG
import Derived.Lib.AppendStr
import Derived.Laws.IdiomStrings
import Derived.Laws.BytesArg
namespace Go.Proofs.YtoefoljhgnfoiaaGreatDoor
open Go.ChangeShapes Go.WideShapes Go.ChangeAt Go.RowKit Go.Sort Go.Lib
set_option maxRecDepth 8000
set_option linter.unusedVariables false

/-- v reads as the bytes bs. -/
def RB (w : World) (v : Value) (bs : List UInt8) : Prop := Rd w 1 v bs.length (bs.map fun b => Value.int .u8 (b.toNat : Int))
theorem RB.ext {w w' : World} {v : Value} {bs : List UInt8} (h : RB w v bs) (hb : Below w.heap.size w w') : RB w' v bs := Rd.ext h hb
theorem RB.open_ {w : World} {v : Value} {bs : List UInt8} (h : RB w v bs) : ∃ A c, v = .slice A bs.length c ∧ bs.length ≤ c ∧ c ≤ maxLen ∧
    ∀ k (hk : k < bs.length), ∃ ad, A = some ad ∧ w.cell? (ad.add k) = some (.int .u8 (bs[k].toNat : Int)) := by
  obtain ⟨_, A, c, rfl, h2, h3, h4⟩ := h
  refine ⟨A, c, rfl, h2, h3, fun k hk => ?_⟩
  obtain ⟨ad, rfl, hlt, hc⟩ := h4 (by omega)
  exact ⟨ad, rfl, hc k _ (by simp [List.getElem?_eq_getElem hk])⟩

def bv (b : UInt8) : Value := .int .u8 (b.toNat : Int)
/-- v is the bytes bs, in memory of the call's own. -/
def OB (w : World) (base : Nat) (v : Value) (bs : List UInt8) : Prop := w.ownsRow base 5 1 v bs.length (bs.map fun b => Value.int .u8 (b.toNat : Int))
theorem OB.rd {w : World} {base : Nat} {v : Value} {bs : List UInt8} (h : OB w base v bs) : RB w v bs := by
  obtain ⟨h1, h2⟩ := h
  refine ⟨by simp, ?_⟩
  rcases h2 with ⟨rfl, h0⟩ | ⟨g, cap, cur, rfl, hg, hh, hn, hm, hs, ht⟩
  · exact ⟨none, 0, by rw [h0], by omega, by simp [maxLen], fun h => by omega⟩
  · refine ⟨some ⟨g, 0, none⟩, cap, rfl, hn, hm, fun h0 => ⟨_, rfl, ?_, fun j u hu => ?_⟩⟩
    · rcases Nat.lt_or_ge g w.heap.size with hlt | hge
      · exact hlt
      · rw [Array.getElem?_eq_none hge] at hh; cases hh
    · have := World.ownsRow.cells (w := w) (base := base) (e := 5) (size := 1) (v := .slice (some ⟨g, 0, none⟩) bs.length cap) (n := bs.length) ⟨h1, .inr ⟨g, cap, cur, rfl, hg, hh, hn, hm, hs, ht⟩⟩ (g := g) rfl
      exact this j u hu
theorem OB.ext {w w' : World} {base : Nat} {v : Value} {bs : List UInt8} (h : OB w base v bs) (hb : Below w.heap.size w w') : OB w' base v bs := own_ext h hb
theorem OB.mono {w : World} {base base' : Nat} {v : Value} {bs : List UInt8} (h : OB w base v bs) (hb : base' ≤ base) : OB w base' v bs := own_mono h hb
theorem OB.chg {S : Nat → Prop} {w w' : World} {base : Nat} {v : Value} {bs : List UInt8} (h : OB w base v bs) (hb : Chg S w w') (hS : ∀ k, v.ownBlock = some k → ¬ S k) : OB w' base v bs := own_chg h hb hS
theorem OB.ge {w : World} {base : Nat} {v : Value} {bs : List UInt8} (h : OB w base v bs) : ∀ k, v.ownBlock = some k → base ≤ k ∧ k < w.heap.size := World.ownsRow.lt h
theorem ob_nil (w : World) (base : Nat) : OB w base (.slice none 0 0) [] := ⟨rfl, .inl ⟨rfl, rfl⟩⟩
theorem ob_lit (w : World) (base : Nat) (h : base ≤ w.heap.size) : OB (w.alloc (.cells #[] 5)) base (.slice (some ⟨w.heap.size, 0, none⟩) 0 0) [] :=
  World.ownsRow_lit _ #[] 0 h (by simp [maxLen]) (by simp)
theorem ob_one (w : World) (base : Nat) (h : base ≤ w.heap.size) (b : UInt8) : OB (w.alloc (.cells #[.int .u8 (b.toNat : Int)] 5)) base (.slice (some ⟨w.heap.size, 0, none⟩) 1 1) [b] :=
  World.ownsRow_lit _ #[.int .u8 (b.toNat : Int)] 1 h (by simp [maxLen]) (by simp)
/-- Its block. -/
def BY (v : Value) : Nat → Prop := fun k => v.ownBlock = some k

theorem info_u8 : (Tryz.prog.info? 5).map (fun i => (i.zero, i.size, i.bytes)) = some (some (.int .u8 0), 1, 1) := by kernel_rfl

/-- 'append(out, list...)' of bytes. -/
theorem wpList_append_rb {w : World} {ops : Array Oper} {rest : List Oper} {o : Oper} {a : Act} {Q : Exit → Act → World → Prop} (hgd : o.guard = none) (s x : Operand)
    (ho : o.op = .call { callee := .builtin .append, args := #[s, x], argTypes := #[92, 92] })
    (base : Nat) (v v2 : Value) (xs ys : List UInt8) (hs : a.eval s = v) (hx : a.eval x = v2) (hO : OB w base v xs) (hR : RB w v2 ys)
    (hl : xs.length ≤ 1099511627776) (hl2 : ys.length ≤ 1099511627776) (hbase : base ≤ w.heap.size)
    (h : ∀ A c w', OB w' base (.slice A (xs.length + ys.length) c) (xs ++ ys) → Chg (BY v) w w' → wpList Tryz.prog ops Q rest (a.put o.dst (.slice A (xs.length + ys.length) c)) w') : wpList Tryz.prog ops Q (o :: rest) a w := by
  obtain ⟨i0, hi, hz0, hz1, hz2⟩ := info_parts info_u8
  have hR' := hR
  obtain ⟨_, A, c, rfl, _⟩ := hR'
  refine wpList_append_rd hgd s x _ ho base 5 i0 (.int .u8 0) 1 1 Tryz.underlying92 hi hz0 hz1 hz2 rfl (by omega) v xs.length _ hs hO A ys.length c _ hx hR (by simp [Value.oneCell']) (by unfold maxLen; omega) (by omega) hbase ?_
  intro v' w' hown hgrow _
  have hO' : OB w' base v' (xs ++ ys) := by unfold OB; simpa using hown
  have hO2 := hO'
  obtain ⟨_, A', c', rfl, _⟩ := hO2.rd
  simp only [List.length_append] at hO' ⊢
  exact h A' c' w' hO' (Chg.of_grown hgrow)

/-- 'append(out, b)': the byte lies in a block of its own. -/
theorem wpList_append_by {w0 : World} {ops : Array Oper} {rest : List Oper} {o : Oper} {a : Act} {Q : Exit → Act → World → Prop} (hgd : o.guard = none) (s x : Operand)
    (ho : o.op = .call { callee := .builtin .append, args := #[s, x], argTypes := #[92, 92] })
    (base : Nat) (v : Value) (xs : List UInt8) (n : Int) (b : UInt8) (hn : (b.toNat : Int) = n) (hs : a.eval s = v) (hx : a.eval x = .slice (some ⟨w0.heap.size, 0, none⟩) 1 1) (hO : OB w0 base v xs)
    (hl : xs.length ≤ 1099511627776) (hbase : base ≤ w0.heap.size)
    (h : ∀ A c w', OB w' base (.slice A (xs.length + 1) c) (xs ++ [b]) → Chg (BY v) w0 w' → w0.heap.size < w'.heap.size → wpList Tryz.prog ops Q rest (a.put o.dst (.slice A (xs.length + 1) c)) w') :
    wpList Tryz.prog ops Q (o :: rest) a (w0.alloc (.cells #[.int .u8 n] 5)) := by
  obtain ⟨i0, hi, hz0, hz1, hz2⟩ := info_parts info_u8
  subst hn
  refine wpList_append_lies _ hgd s x _ ho base 5 i0 (.int .u8 0) 1 1 Tryz.underlying92 hi hz0 hz1 hz2 rfl (by omega) v xs.length _ hs (World.ownsRow.alloc hO _)
    ⟨w0.heap.size, 0, none⟩ 1 1 [.int .u8 (b.toNat : Int)] hx rfl (cell_one_new _ _ _) (by simp [Value.oneCell']) (by omega) (by unfold maxLen; omega) (by omega) (by simp; omega) (w0.heap.size + 1) (by simp) ?_
  intro g cap w1 hown hgrow hat hlt
  refine h (some ⟨g, 0, none⟩) cap w1 ?_ ((Chg.of_below (ext_alloc1 _ _) _).trans (Chg.of_grown hgrow)) (by have := hgrow.size; simp at this; omega)
  unfold OB
  simpa using hown

theorem strCells_eq (s : ByteArray) : strCells s = s.data.toList.map fun b => Value.int .u8 (b.toNat : Int) := by
  first | rfl | simp [strCells]
/-- 'append(out, text...)'. -/
theorem wpList_append_bs {w : World} {ops : Array Oper} {rest : List Oper} {o : Oper} {a : Act} {Q : Exit → Act → World → Prop} (hgd : o.guard = none) (s x : Operand)
    (ho : o.op = .call { callee := .builtin .append, args := #[s, x], argTypes := #[92, 9] })
    (base : Nat) (v : Value) (xs : List UInt8) (t : ByteArray) (hs : a.eval s = v) (hx : a.eval x = .string t) (hO : OB w base v xs)
    (hl : xs.length ≤ 1099511627776) (hl2 : t.size ≤ 1099511627776) (hbase : base ≤ w.heap.size)
    (h : ∀ A c w', OB w' base (.slice A (xs.length + t.size) c) (xs ++ t.data.toList) → Chg (BY v) w w' → wpList Tryz.prog ops Q rest (a.put o.dst (.slice A (xs.length + t.size) c)) w') : wpList Tryz.prog ops Q (o :: rest) a w := by
  obtain ⟨i0, hi, hz0, hz1, hz2⟩ := info_parts info_u8
  refine Lib.wpList_append_own_string w hgd s x _ _ ho base 5 i0 Tryz.underlying92 Tryz.underlying9 hi hz0 hz1 hz2 v xs.length _ hs hO t hx (by unfold maxLen; omega) (by omega) hbase ?_
  intro v' w' hown hgrow _
  have hO' : OB w' base v' (xs ++ t.data.toList) := by
    unfold OB
    rw [strCells_eq] at hown
    simpa using hown
  have hO2 := hO'
  obtain ⟨_, A', c', rfl, _⟩ := hO2.rd
  have e : (xs ++ t.data.toList).length = xs.length + t.size := by rw [List.length_append, Array.length_toList]; rfl
  rw [e] at hO' ⊢
  exact h A' c' w' hO' (Chg.of_grown hgrow)

/-- The text of bytes. -/
theorem conv_rb {w : World} {A : Option Addr} {n c : Nat} {bs : List UInt8} (h : RB w (.slice A n c) bs) :
    (convert 92 9 (.slice A n c)).run Tryz.prog w = .ok (.string ⟨bs.toArray⟩) w := by
  obtain ⟨hl, A', c', hv, h1, h2, h3⟩ := h
  injection hv with e1 e2 e3
  subst e1 e2 e3
  by_cases h0 : 0 < bs.length
  · obtain ⟨ad, rfl, hlt, hc⟩ := h3 h0
    refine run_convert_bytes_back _ _ _ _ ad c bs Tryz.underlying92 Tryz.underlying5 Tryz.underlying9 (fun j hj => ?_)
    rw [hc j (.int .u8 (bs[j].toNat : Int)) (by simp [List.getElem?_eq_getElem hj])]
  · have hn : bs = [] := List.eq_nil_of_length_eq_zero (by omega)
    subst hn
    cases A with
    | none => exact run_convert_bytes_nil w _ _ Tryz.underlying92 Tryz.underlying5 _ _ _ Tryz.underlying9
    | some ad => exact run_convert_bytes_back _ _ _ _ ad c [] Tryz.underlying92 Tryz.underlying5 Tryz.underlying9 (fun j hj => by simp at hj)

end Go.Proofs.YtoefoljhgnfoiaaGreatDoor
