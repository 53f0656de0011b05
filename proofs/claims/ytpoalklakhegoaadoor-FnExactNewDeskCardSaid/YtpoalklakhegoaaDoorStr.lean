/-
  Slices of strings: read, the call's own, append of one, the laws' small functions on them.
-/
import Derived.Test.YtpoalklakhegoaaDoorFlat
import Derived.Test.YtpoalklakhegoaaDoorRegrown
import Derived.Test.YtpoalklakhegoaaDoorMtx
import Derived.Test.YtpoalklakhegoaaDoorAppG
import Derived.Deep.RegionHeld3
import Derived.Deep.DrawnRows
namespace Go.Proofs.YtpoalklakhegoaaDoor
open Go.ChangeShapes Go.WideShapes Go.ChangeAt Go.RowKit Go.Sort
set_option linter.unusedVariables false
set_option maxRecDepth 8000

/-- v reads as the strings l. -/
def RStr (w : World) (v : Value) (l : List ByteArray) : Prop := Rd w 1 v l.length (l.map Value.string)
theorem RStr.ext {w w' : World} {v : Value} {l : List ByteArray} (h : RStr w v l) (hb : Below w.heap.size w w') : RStr w' v l := Rd.ext h hb
theorem RStr.alloc {w : World} {v : Value} {l : List ByteArray} (h : RStr w v l) (o : Obj) : RStr (w.alloc o) v l := Rd.alloc h o
theorem RStr.open_ {w : World} {v : Value} {l : List ByteArray} (h : RStr w v l) : ∃ A c, v = .slice A l.length c ∧ l.length ≤ c ∧ c ≤ maxLen := by
  obtain ⟨_, A, c, h1, h2, h3, _⟩ := h; exact ⟨A, c, h1, h2, h3⟩
theorem RStr.at {w : World} {A : Option Addr} {n cp : Nat} {l : List ByteArray} (h : RStr w (.slice A n cp) l) {k : Nat} (hk : k < l.length) : ∃ ad, A = some ad ∧ ad.block < w.heap.size ∧ ∀ k, k < l.length → w.cell? (ad.add k) = some (.string (gd l k)) := by
  obtain ⟨_, A', c', hv, h2, h3, h4⟩ := h
  injection hv with e1 e2 e3
  subst e1
  obtain ⟨ad, rfl, hlt, hc⟩ := h4 (by omega)
  exact ⟨ad, rfl, hlt, fun k hk => hc k _ (by rw [List.getElem?_map, List.getElem?_eq_getElem hk, gd_eq hk]; rfl)⟩
/-- v is the strings l, in memory of the call's own. -/
def OStr (w : World) (base : Nat) (v : Value) (l : List ByteArray) : Prop := w.ownsRow base 9 1 v l.length (l.map Value.string)
theorem OStr.rd {w : World} {base : Nat} {v : Value} {l : List ByteArray} (h : OStr w base v l) : RStr w v l := own_rd h
theorem OStr.ext {w w' : World} {base : Nat} {v : Value} {l : List ByteArray} (h : OStr w base v l) (hb : Below w.heap.size w w') : OStr w' base v l := own_ext h hb
theorem OStr.mono {w : World} {base base' : Nat} {v : Value} {l : List ByteArray} (h : OStr w base v l) (hb : base' ≤ base) : OStr w base' v l := own_mono h hb
theorem OStr.chg {S : Nat → Prop} {w w' : World} {base : Nat} {v : Value} {l : List ByteArray} (h : OStr w base v l) (hb : Chg S w w') (hS : ∀ k, v.ownBlock = some k → ¬ S k) : OStr w' base v l := own_chg h hb hS
theorem OStr.ge {w : World} {base : Nat} {v : Value} {l : List ByteArray} (h : OStr w base v l) : ∀ k, BI v k → base ≤ k ∧ k < w.heap.size := World.ownsRow.lt h
abbrev BStr := BI
theorem ostr_nil (w : World) (base : Nat) : OStr w base (.slice none 0 0) [] := ⟨rfl, .inl ⟨rfl, rfl⟩⟩
theorem ostr_lit (w : World) (base : Nat) (h : base ≤ w.heap.size) : OStr (w.alloc (.cells #[] 9)) base (.slice (some ⟨w.heap.size, 0, none⟩) 0 0) [] :=
  World.ownsRow_lit _ #[] 0 h (by simp [maxLen]) (by simp)
theorem info_str : (Tryd.prog.info? 9).map (fun i => (i.zero, i.size, i.bytes)) = some (some (.string ⟨#[]⟩), 1, 16) := by kernel_rfl
def SmStr (l : List ByteArray) : Prop := l.length ≤ 1048576

/-- 'append(out, s)': the string lies in a block of its own. -/
theorem wpList_append_str {w0 : World} {ops : Array Oper} {rest : List Oper} {o : Oper} {a : Act} {Q : Exit → Act → World → Prop} (hgd : o.guard = none) (s x : Operand)
    (ho : o.op = .call { callee := .builtin .append, args := #[s, x], argTypes := #[27, 27] })
    (base : Nat) (v : Value) (l : List ByteArray) (n : ByteArray) (hs : a.eval s = v) (hx : a.eval x = .slice (some ⟨w0.heap.size, 0, none⟩) 1 1) (hO : OStr w0 base v l)
    (hl : l.length ≤ 1099511627776) (hbase : base ≤ w0.heap.size)
    (h : ∀ g cap w', OStr w' base (.slice (some ⟨g, 0, none⟩) (l.length + 1) cap) (l ++ [n]) → Chg (BI v) w0 w' → w0.heap.size < w'.heap.size → wpList Tryd.prog ops Q rest (a.put o.dst (.slice (some ⟨g, 0, none⟩) (l.length + 1) cap)) w') :
    wpList Tryd.prog ops Q (o :: rest) a (w0.alloc (.cells #[.string n] 9)) := by
  obtain ⟨i0, hi, hz0, hz1, hz2⟩ := info_parts info_str
  refine wpList_append_lies _ hgd s x _ ho base 9 i0 (.string ⟨#[]⟩) 1 16 Tryd.underlying27 hi hz0 hz1 hz2 rfl (by omega) v l.length (l.map Value.string) hs (World.ownsRow.alloc hO _)
    ⟨w0.heap.size, 0, none⟩ 1 1 [.string n] hx rfl (cell_one_new _ _ _) (by simp [Value.oneCell']) (by omega) (by unfold maxLen; omega) (by omega) (by simp; omega) (w0.heap.size + 1) (by simp) ?_
  intro g cap w1 hown hgrow hat hlt
  refine h g cap w1 ?_ ((Chg.of_below (ext_alloc1 _ _) _).trans (Chg.of_grown hgrow)) (by have := hgrow.size; simp at this; omega)
  unfold OStr
  simpa using hown

/-- Marks. -/
def mkStr (j : Int) (n : Nat) : List ByteArray := (List.range n).map fun (i : Nat) => mtx (j + (i : Int))
theorem mkStr_len (j : Int) (n : Nat) : (mkStr j n).length = n := by simp [mkStr]
theorem mkStr_gd {j : Int} {n i : Nat} (h : i < n) : gd (mkStr j n) i = mtx (j + (i : Int)) := by rw [gd_eq (by rw [mkStr_len]; exact h)]; simp [mkStr]
theorem mkStr_take (j : Int) (n i : Nat) (h : i < n) : (mkStr j n).take (i + 1) = (mkStr j n).take i ++ [mtx (j + (i : Int))] := by
  rw [take_gd (by rw [mkStr_len]; exact h), mkStr_gd h]
theorem set_str {xs : List ByteArray} {n k : Nat} (hk : k < n) (hn : xs.length = n) (u : ByteArray) (m : List ByteArray) (hm : m.length = k) :
    (m.map Value.string ++ (xs.drop k).map Value.string).set k (.string u) = (m ++ [u]).map Value.string ++ (xs.drop (k + 1)).map Value.string := by
  rw [List.set_append_right k _ (by simp; omega)]
  simp only [List.length_map, hm, Nat.sub_self, List.map_append, List.append_assoc, List.append_cancel_left_eq]
  rw [List.drop_eq_getElem_cons (i := k) (l := xs) (by omega)]
  simp only [List.map_cons, List.set_cons_zero, List.map_nil, List.cons_append, List.nil_append]

set_option maxHeartbeats 800000 in
theorem eq_Str (v1 v2 : Value) (l : List ByteArray) (w : World) (ha : RStr w v1 l) (hb : RStr w v2 l) :
    Calls Tryd.prog 13 #[v1, v2] w (Ret (.bool true) w) := by
  obtain ⟨A, c, rfl, hc1, hc2⟩ := ha.open_
  obtain ⟨B, d, rfl, hd1, hd2⟩ := hb.open_
  have HA := Lib.hid ha; clear ha
  have HB := Lib.hid hb; clear hb
  unfold maxLen at hc2 hd2
  go_enter Tryd.func13, Tryd.ntmps13
  go_wp2_with fail
  go_loopw [5] (fun i wr => ∃ k q : Nat, k ≤ l.length ∧ i = .int .i64 k ∧ wr = w.drewN q) (fun i _ => l.length - (intOf i).toNat)
  case atStart => exact ⟨0, 0, Nat.zero_le _, rfl, rfl⟩
  case round =>
    obtain ⟨k, q, hk, rfl, rfl⟩ := hrel
    by_cases hlt : k < l.length
    · obtain ⟨ad, rfl, _, hc⟩ := HA.out.at hlt
      obtain ⟨bd, rfl, _, hd⟩ := HB.out.at hlt
      replace hc := hc k hlt
      replace hd := hd k hlt
      have e1 : (0:Int) ≤ k := by omega
      have e2 : (k:Int) < l.length := by omega
      go_wp2_with fail
      go_quiet (fail)
      go_wp2_with fail
      go_roundw
      case rel => exact ⟨k + 1, _, by omega, by go_num, rfl⟩
      case measure => simp [intOf]; omega
    · have hkn : k = l.length := by omega
      subst hkn
      go_wp2_with fail
      go_ret
      exact ⟨rfl, ext_drewN (ext_refl w) _⟩
set_option maxHeartbeats 1600000 in
theorem mark_Str (base : Nat) (v : Value) (l : List ByteArray) (j : Int) (hj0 : 0 ≤ j) (hj : j ≤ 1099511627776) (w : World) (hsm : SmStr l) (hO : OStr w base v l) :
    Calls Tryd.prog 15 #[v, .int .i64 j] w fun e w' => e = .returned (.int .i64 (j + (l.length : Int))) ∧ OStr w' base v (mkStr j l.length) ∧ Chg (BStr v) w w' := by
  unfold SmStr at hsm
  have hO' := hO
  obtain ⟨h1, h2⟩ := hO'
  rcases h2 with ⟨rfl, h0⟩ | ⟨g, cap, cur, rfl, hg, hh, hn, hm, hs, ht⟩
  · clear hO h1
    have hx : l = [] := List.eq_nil_of_length_eq_zero h0
    subst hx
    go_enter Tryd.func15, Tryd.ntmps15
    go_wp2_with fail
    refine wp_loop_rounds 1 ?_
    rw [rounds_succ]
    go_wp2_with fail
    go_ret
    exact ⟨ret_int (by simp), World.ownsRow_nil _ _ _ _, Chg.of_below (ext_refl _) _⟩
  · clear h1 hh hn hs ht cur
    have HO0 := Lib.hid hO; clear hO
    obtain ⟨n, hnn⟩ : ∃ n, l.length = n := ⟨_, rfl⟩
    unfold OStr at HO0
    rw [hnn] at HO0 hsm
    rw [hnn]
    unfold OStr
    rw [mkStr_len]
    have HN := Lib.hid hnn; clear hnn
    unfold maxLen at hm
    go_enter Tryd.func15, Tryd.ntmps15
    go_wp2_with fail
    go_loopw [5, 1] (fun i q wr => ∃ (k : Nat), k ≤ n ∧ i = .int .i64 k ∧ q = .int .i64 (j + (k : Int)) ∧ Hid (wr.ownsRow base 9 1 (.slice (some ⟨g, 0, none⟩) n cap) n (((mkStr j n).take k).map Value.string ++ (l.drop k).map Value.string)) ∧ Hid (Chg (fun b => b = g) w wr)) (fun i _ _ => n - (intOf i).toNat)
    case atStart => exact ⟨0, Nat.zero_le _, rfl, by simp, (by simpa [Hid] using HO0.out), Chg.of_below (ext_refl _) _⟩
    case round =>
      obtain ⟨k, hk, rfl, rfl, HO, HC⟩ := hrel
      by_cases hlt : k < n
      · have e1 : (0:Int) ≤ k := by omega
        have e2 : (k:Int) < n := by omega
        go_wp2_with fail
        refine (mark_text _ (by omega) (by omega) _).mono ?_
        rintro e w2 ⟨rfl, hb⟩
        have HO1 := Lib.hid (own_ext HO.out hb)
        have HC1 := Lib.hid (HC.out.trans (Chg.of_below hb _))
        clear hb
        have hfr := HO1.out.frozenAt k
        have hsome : w2.cell? ⟨g, k, none⟩ = some (.string (gd l k)) := by
          rw [HO1.out.cellAt k (by omega), List.getElem?_append_right (by simp; omega)]
          simp only [List.length_map, List.length_take, mkStr_len]
          rw [show min k n = k from by omega, List.getElem?_map, List.getElem?_drop]
          simp only [Nat.sub_self, Nat.add_zero]
          rw [List.getElem?_eq_getElem (by rw [HN.out]; omega), gd_eq (by rw [HN.out]; omega)]
          rfl
        go_wp2_with fail
        go_roundw
        case rel =>
          refine ⟨k + 1, by omega, by go_num, ?_, ?_, ?_⟩
          · exact (by rw [show (j + (k:Int) + 1) = j + ((k + 1 : Nat) : Int) from by omega])
          · have h1 := (HO1.out.stored k (.string (mtx (j + (k : Int))))).1
            rw [set_str hlt HN.out _ _ (by simp [mkStr_len]; omega)] at h1
            unfold Hid
            rw [mkStr_take j n k hlt]
            exact h1
          · exact HC1.out.trans (Chg.setCell (S := fun b => b = g) _ (p := ⟨g, k, none⟩) rfl _)
        case measure => simp [intOf]; omega
      · have hkn : k = n := by omega
        subst hkn
        go_wp2_with fail
        go_ret
        refine ⟨rfl, ?_, HC.out.mono fun b hb => by rw [hb]; rfl⟩
        have := HO.out
        rw [List.take_of_length_le (by rw [mkStr_len]; omega), List.drop_of_length_le (by rw [HN.out]; omega)] at this
        simpa using this
set_option maxHeartbeats 1600000 in
theorem held_Str (v : Value) (l : List ByteArray) (j : Int) (hj0 : 0 ≤ j) (hj : j ≤ 1099511627776) (w : World) (hsm : SmStr l) (ha : RStr w v (mkStr j l.length)) :
    Calls Tryd.prog 17 #[v, .int .i64 j] w (Ret (.int .i64 (j + (l.length : Int))) w) := by
  unfold SmStr at hsm
  obtain ⟨n, hn⟩ : ∃ n, l.length = n := ⟨_, rfl⟩
  rw [hn] at ha hsm
  rw [hn]
  clear hn
  obtain ⟨A, c, rfl, hc1, hc2⟩ := ha.open_
  have HA := Lib.hid ha; clear ha
  rw [mkStr_len] at hc1 HA
  rw [mkStr_len]
  unfold maxLen at hc2
  go_enter Tryd.func17, Tryd.ntmps17
  go_wp2_with fail
  go_loopw [5, 1] (fun i q wr => ∃ k : Nat, k ≤ n ∧ i = .int .i64 k ∧ q = .int .i64 (j + (k : Int)) ∧ Below w.heap.size w wr) (fun i _ _ => n - (intOf i).toNat)
  case atStart => exact ⟨0, Nat.zero_le _, rfl, by simp, ext_refl _⟩
  case round =>
    obtain ⟨k, hk, rfl, rfl, hbw⟩ := hrel
    have HAw := Lib.hid (HA.out.ext hbw)
    have HW := Lib.hid hbw; clear hbw
    by_cases hlt : k < n
    · obtain ⟨ad, rfl, _, hc⟩ := RStr.at (l := mkStr j n) (n := n) HAw.out (show k < (mkStr j n).length by rw [mkStr_len]; exact hlt)
      have hp := hc k (by rw [mkStr_len]; exact hlt)
      rw [mkStr_gd hlt] at hp
      clear hc
      have h1 : ∀ d os, (grow (redrawn wr d) os).cell? (ad.add k) = some (.string (mtx (j + (k : Int)))) := fun d os => cell_regrown hp d os
      clear hp
      have e1 : (0:Int) ≤ k := by omega
      have e2 : (k:Int) < n := by omega
      go_wp2_with fail
      refine wp_region_quiet_below (by kernel_rfl) (by kernel_rfl) ?_
      repeat (go_big_quiet_step ((go_at_call 22; exact regrown_r (mark_text _ (by omega) (by omega) _))))
      refine wpQuiet_nil ?_
      intro w' hw'
      obtain ⟨p, rfl⟩ := hw'
      have HWL := Lib.hid (ext_trans HW.out (below_regrown wr p.d p.os))
      clear h1
      generalize grow (redrawn wr p.d) p.os = w2 at *
      go_wp2_with fail
      go_roundw
      case rel => exact ⟨k + 1, by omega, by go_num, by rw [show (j + (k : Int) + 1) = j + ((k + 1 : Nat) : Int) from by omega], HWL.out⟩
      case measure => simp [intOf]; omega
    · have hkn : k = n := by omega
      subst hkn
      go_wp2_with fail
      go_ret
      exact ⟨rfl, HW.out⟩
end Go.Proofs.YtpoalklakhegoaaDoor
