/-
  Slices of strings: read, the call's own, append of one, the laws' small functions on them.
-/
import Derived.Test.YtoefoljhgnfoiaaGreatDoorFlat
import Derived.Test.YtoefoljhgnfoiaaGreatDoorRegrown
import Derived.Test.YtoefoljhgnfoiaaGreatDoorMtx
import Derived.Test.YtoefoljhgnfoiaaGreatDoorAppG
import Derived.Deep.RegionHeld3
import Derived.Deep.DrawnRows
namespace Go.Proofs.YtoefoljhgnfoiaaGreatDoor
open Go.ChangeShapes Go.WideShapes Go.ChangeAt Go.RowKit Go.Sort
set_option linter.unusedVariables false
set_option maxRecDepth 8000

/-- v reads as the strings l. -/
def RStr (w : World) (v : Value) (l : List ByteArray) : Prop := Rd w 1 v l.length (l.map Value.string)
theorem RStr.ext {w w' : World} {v : Value} {l : List ByteArray} (h : RStr w v l) (hb : Below w.heap.size w w') : RStr w' v l := Rd.ext h hb
theorem RStr.alloc {w : World} {v : Value} {l : List ByteArray} (h : RStr w v l) (o : Obj) : RStr (w.alloc o) v l := Rd.alloc h o
theorem RStr.open_ {w : World} {v : Value} {l : List ByteArray} (h : RStr w v l) : ∃ A c, v = .slice A l.length c ∧ l.length ≤ c ∧ c ≤ maxLen := by
  obtain ⟨_, A, c, h1, h2, h3, _⟩ := h; exact ⟨A, c, h1, h2, h3⟩
theorem RStr.at {w : World} {A : Option Addr} {n cp : Nat} {l : List ByteArray} (h : RStr w (.slice A n cp) l) {k : Nat} (hk : k < l.length) : ∃ ad, A = some ad ∧ ad.block < w.heap.size ∧ ∀ k, k < l.length → w.cell? (ad.add k) = some (.string (gd l k)) := by
  obtain ⟨_, A', c', hv, h2, h3, h4⟩ := h
  injection hv with e1 e2 e3
  subst e1
  obtain ⟨ad, rfl, hlt, hc⟩ := h4 (by omega)
  exact ⟨ad, rfl, hlt, fun k hk => hc k _ (by rw [List.getElem?_map, List.getElem?_eq_getElem hk, gd_eq hk]; rfl)⟩
/-- v is the strings l, in memory of the call's own. -/
def OStr (w : World) (base : Nat) (v : Value) (l : List ByteArray) : Prop := w.ownsRow base 9 1 v l.length (l.map Value.string)
theorem OStr.rd {w : World} {base : Nat} {v : Value} {l : List ByteArray} (h : OStr w base v l) : RStr w v l := own_rd h
theorem OStr.ext {w w' : World} {base : Nat} {v : Value} {l : List ByteArray} (h : OStr w base v l) (hb : Below w.heap.size w w') : OStr w' base v l := own_ext h hb
theorem OStr.mono {w : World} {base base' : Nat} {v : Value} {l : List ByteArray} (h : OStr w base v l) (hb : base' ≤ base) : OStr w base' v l := own_mono h hb
theorem OStr.chg {S : Nat → Prop} {w w' : World} {base : Nat} {v : Value} {l : List ByteArray} (h : OStr w base v l) (hb : Chg S w w') (hS : ∀ k, v.ownBlock = some k → ¬ S k) : OStr w' base v l := own_chg h hb hS
theorem OStr.ge {w : World} {base : Nat} {v : Value} {l : List ByteArray} (h : OStr w base v l) : ∀ k, BI v k → base ≤ k ∧ k < w.heap.size := World.ownsRow.lt h
abbrev BStr := BI
theorem ostr_nil (w : World) (base : Nat) : OStr w base (.slice none 0 0) [] := ⟨rfl, .inl ⟨rfl, rfl⟩⟩
theorem ostr_lit (w : World) (base : Nat) (h : base ≤ w.heap.size) : OStr (w.alloc (.cells #[] 9)) base (.slice (some ⟨w.heap.size, 0, none⟩) 0 0) [] :=
  World.ownsRow_lit _ #[] 0 h (by simp [maxLen]) (by simp)
theorem info_str : (Tryz.prog.info? 9).map (fun i => (i.zero, i.size, i.bytes)) = some (some (.string ⟨#[]⟩), 1, 16) := by kernel_rfl
def SmStr (l : List ByteArray) : Prop := l.length ≤ 1048576

/-- 'append(out, s)': the string lies in a block of its own. -/
theorem wpList_append_str {w0 : World} {ops : Array Oper} {rest : List Oper} {o : Oper} {a : Act} {Q : Exit → Act → World → Prop} (hgd : o.guard = none) (s x : Operand)
    (ho : o.op = .call { callee := .builtin .append, args := #[s, x], argTypes := #[27, 27] })
    (base : Nat) (v : Value) (l : List ByteArray) (n : ByteArray) (hs : a.eval s = v) (hx : a.eval x = .slice (some ⟨w0.heap.size, 0, none⟩) 1 1) (hO : OStr w0 base v l)
    (hl : l.length ≤ 1099511627776) (hbase : base ≤ w0.heap.size)
    (h : ∀ g cap w', OStr w' base (.slice (some ⟨g, 0, none⟩) (l.length + 1) cap) (l ++ [n]) → Chg (BI v) w0 w' → w0.heap.size < w'.heap.size → wpList Tryz.prog ops Q rest (a.put o.dst (.slice (some ⟨g, 0, none⟩) (l.length + 1) cap)) w') :
    wpList Tryz.prog ops Q (o :: rest) a (w0.alloc (.cells #[.string n] 9)) := by
  obtain ⟨i0, hi, hz0, hz1, hz2⟩ := info_parts info_str
  refine wpList_append_lies _ hgd s x _ ho base 9 i0 (.string ⟨#[]⟩) 1 16 Tryz.underlying27 hi hz0 hz1 hz2 rfl (by omega) v l.length (l.map Value.string) hs (World.ownsRow.alloc hO _)
    ⟨w0.heap.size, 0, none⟩ 1 1 [.string n] hx rfl (cell_one_new _ _ _) (by simp [Value.oneCell']) (by omega) (by unfold maxLen; omega) (by omega) (by simp; omega) (w0.heap.size + 1) (by simp) ?_
  intro g cap w1 hown hgrow hat hlt
  refine h g cap w1 ?_ ((Chg.of_below (ext_alloc1 _ _) _).trans (Chg.of_grown hgrow)) (by have := hgrow.size; simp at this; omega)
  unfold OStr
  simpa using hown

/-- Marks. -/
def mkStr (j : Int) (n : Nat) : List ByteArray := (List.range n).map fun (i : Nat) => mtx (j + (i : Int))
theorem mkStr_len (j : Int) (n : Nat) : (mkStr j n).length = n := by simp [mkStr]
theorem mkStr_gd {j : Int} {n i : Nat} (h : i < n) : gd (mkStr j n) i = mtx (j + (i : Int)) := by rw [gd_eq (by rw [mkStr_len]; exact h)]; simp [mkStr]
theorem mkStr_take (j : Int) (n i : Nat) (h : i < n) : (mkStr j n).take (i + 1) = (mkStr j n).take i ++ [mtx (j + (i : Int))] := by
  rw [take_gd (by rw [mkStr_len]; exact h), mkStr_gd h]
theorem set_str {xs : List ByteArray} {n k : Nat} (hk : k < n) (hn : xs.length = n) (u : ByteArray) (m : List ByteArray) (hm : m.length = k) :
    (m.map Value.string ++ (xs.drop k).map Value.string).set k (.string u) = (m ++ [u]).map Value.string ++ (xs.drop (k + 1)).map Value.string := by
  rw [List.set_append_right k _ (by simp; omega)]
  simp only [List.length_map, hm, Nat.sub_self, List.map_append, List.append_assoc, List.append_cancel_left_eq]
  rw [List.drop_eq_getElem_cons (i := k) (l := xs) (by omega)]
  simp only [List.map_cons, List.set_cons_zero, List.map_nil, List.cons_append, List.nil_append]

set_option maxHeartbeats 800000 in
theorem eq_Str (v1 v2 : Value) (l : List ByteArray) (w : World) (ha : RStr w v1 l) (hb : RStr w v2 l) :
    Calls Tryz.prog 24 #[v1, v2] w (Ret (.bool true) w) := by
  obtain ⟨A, c, rfl, hc1, hc2⟩ := ha.open_
  obtain ⟨B, d, rfl, hd1, hd2⟩ := hb.open_
  have HA := Lib.hid ha; clear ha
  have HB := Lib.hid hb; clear hb
  unfold maxLen at hc2 hd2
  go_enter Tryz.func24, Tryz.ntmps24
  go_wp2_with fail
  go_loopw [5] (fun i wr => ∃ k q : Nat, k ≤ l.length ∧ i = .int .i64 k ∧ wr = w.drewN q) (fun i _ => l.length - (intOf i).toNat)
  case atStart => exact ⟨0, 0, Nat.zero_le _, rfl, rfl⟩
  case round =>
    obtain ⟨k, q, hk, rfl, rfl⟩ := hrel
    by_cases hlt : k < l.length
    · obtain ⟨ad, rfl, _, hc⟩ := HA.out.at hlt
      obtain ⟨bd, rfl, _, hd⟩ := HB.out.at hlt
      replace hc := hc k hlt
      replace hd := hd k hlt
      have e1 : (0:Int) ≤ k := by omega
      have e2 : (k:Int) < l.length := by omega
      go_wp2_with fail
      go_quiet (fail)
      go_wp2_with fail
      go_roundw
      case rel => exact ⟨k + 1, _, by omega, by go_num, rfl⟩
      case measure => simp [intOf]; omega
    · have hkn : k = l.length := by omega
      subst hkn
      go_wp2_with fail
      go_ret
      exact ⟨rfl, ext_drewN (ext_refl w) _⟩
end Go.Proofs.YtoefoljhgnfoiaaGreatDoor
