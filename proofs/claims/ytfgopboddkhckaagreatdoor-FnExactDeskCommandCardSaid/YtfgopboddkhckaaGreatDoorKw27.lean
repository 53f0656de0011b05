/-
  Parts of the proof: Mp, Mp2, Pb1.
-/
import Derived.Test.YtfgopboddkhckaaGreatDoorKw19
import Derived.MapKept
import Derived.Laws.StructEq
import Derived.OwnWalk
namespace Go.Proofs.YtfgopboddkhckaaGreatDoor
open Go.ChangeShapes Go.WideShapes Go.ChangeAt Go.RowKit Go.Sort
open Go.Instr
set_option linter.unusedVariables false
set_option maxRecDepth 100000
abbrev K3 (a : Int × Int × Int) : Value := .agg #[.int .i64 a.1, .int .i64 a.2.1, .int .i64 a.2.2]
theorem K3_inj {a b : Int × Int × Int} (h : K3 a = K3 b) : a = b := by
 obtain ⟨a1, a2, a3⟩ := a
 obtain ⟨b1, b2, b3⟩ := b
 simp only [K3, Value.agg.injEq, Array.mk.injEq, List.cons.injEq, Value.int.injEq, true_and, and_true] at h
 obtain ⟨rfl, rfl, rfl⟩ := h
 rfl
structure Key3 (P : Program) (K : TypeId) : Prop where
 eq : ∀ (a b : Int × Int × Int) w, (Op.equal K (K3 a) (K3 b)).run P w = .ok (decide (a = b)) w
 chk : ∀ (a : Int × Int × Int) e w, (checkKey e 10000 K (K3 a)).run P w = .ok () w
 str : ∃ fs, P.underlying K = some (.struct fs)
def keys3 (es : List MapEntry) : Prop := ∀ e ∈ es, ∃ a, e.key = K3 a
open Classical in
noncomputable def fnd (k : Int × Int × Int) : List MapEntry → Nat → Option (Nat × Value)
 | [], _ => none
 | e :: es, i => if e.key = K3 k then some (i, e.val) else fnd k es (i + 1)
theorem run_findAsking {P : Program} {K : TypeId} (h : Key3 P K) (k : Int × Int × Int) (w : World) : ∀ (es : List MapEntry) (i : Nat), keys3 es → (findAsking K (K3 k) es i).run P w = .ok (fnd k es i) w
 | [], i, _ => rfl
 | e :: es, i, hk => by
   obtain ⟨a, ha⟩ := hk e (by simp)
   have ih := run_findAsking h k w es (i + 1) (fun x hx => hk x (by simp [hx]))
   unfold findAsking fnd
   rw [ha]
   by_cases hq : k = a
   · subst hq
     simp [Sem.run_bind, h.eq, Result.andThen]
   · have hq2 : ¬ K3 a = K3 k := fun e => hq (K3_inj e).symm
     rw [if_neg hq2]
     simp [Sem.run_bind, h.eq, Result.andThen, hq, ih]
theorem run_findKey {P : Program} {K : TypeId} (h : Key3 P K) (k : Int × Int × Int) (w : World) (es : List MapEntry) (hk : keys3 es) : (findKey K (K3 k) es).run P w = .ok (fnd k es 0) w := by
 obtain ⟨fs, hs⟩ := h.str
 unfold findKey
 rw [Sem.run_bind, run_underlying hs]
 cases es with
 | nil => rfl
 | cons e es =>
   have hn : findNow (.struct fs) (K3 k) (e :: es) 0 = none := by
     rfl
   simp only [Result.andThen, hn]
   exact run_findAsking h k w _ 0 hk
def MapIs (w : World) (b : Nat) (f : Int × Int × Int → Option Value) : Prop := ∃ es clock, w.heap[b]? = some (.map es clock) ∧ keys3 es.toList ∧ ∀ k, (fnd k es.toList 0).map (·.2) = f k
theorem MapIs.new (w : World) : MapIs (w.alloc (.map #[] 0)) w.heap.size (fun _ => none) := by
 exact ⟨#[], 0, heap_alloc_new w _, fun e he => by simp at he, fun k => rfl⟩
theorem MapIs.lt {w : World} {b : Nat} {f : Int × Int × Int → Option Value} (h : MapIs w b f) : b < w.heap.size := by
 obtain ⟨es, c, hb, _⟩ := h
 rcases Nat.lt_or_ge b w.heap.size with h1 | h1
 · exact h1
 · rw [Array.getElem?_eq_none h1] at hb; cases hb
theorem MapIs.of_block {w w' : World} {b : Nat} {f : Int × Int × Int → Option Value} (h : MapIs w b f) (e : w'.heap[b]? = w.heap[b]?) : MapIs w' b f := by
 obtain ⟨es, c, hb, r⟩ := h; exact ⟨es, c, by rw [e]; exact hb, r⟩
theorem run_lookup3 {P : Program} {T K E : TypeId} (hT : P.underlying T = some (.map K E)) (hK : Key3 P K) {w : World} {z : Value} (hz : (zeroValue E).run P w = .ok z w) {b : Nat} {f : Int × Int × Int → Option Value} (h : MapIs w b f) (k : Int × Int × Int) :
   (Instr.lookup T (.map (some b)) (K3 k) false).run P w = .ok ((f k).getD z) w := by
 obtain ⟨es, c, hb, hk, hf⟩ := h
 have h1 := run_findKey hK k w es.toList hk
 have h2 := hf k
 cases hq : fnd k es.toList 0 with
 | none =>
   rw [hq] at h1 h2
   rw [← h2]
   simp [Instr.lookup, run_underlying hT, MapKept.run_getObj_map hb, hK.chk, h1, hz, Result.andThen]
 | some q =>
   obtain ⟨i, v⟩ := q
   rw [hq] at h1 h2
   rw [← h2]
   simp [Instr.lookup, run_underlying hT, MapKept.run_getObj_map hb, hK.chk, h1, Result.andThen]
open Classical in
noncomputable def fv (k : Int × Int × Int) : List MapEntry → Option Value
 | [] => none
 | e :: es => if e.key = K3 k then some e.val else fv k es
theorem fnd_fv (k : Int × Int × Int) : ∀ (es : List MapEntry) (i : Nat), (fnd k es i).map (·.2) = fv k es
 | [], _ => rfl
 | e :: es, i => by
   unfold fnd fv
   by_cases h : e.key = K3 k
   · rw [if_pos h, if_pos h]; rfl
   · rw [if_neg h, if_neg h]; exact fnd_fv k es (i + 1)
open Classical in
theorem fv_push (j : Int × Int × Int) (e : MapEntry) : ∀ (es : List MapEntry), fv j (es ++ [e]) = match fv j es with | some x => some x | none => if e.key = K3 j then some e.val else none
 | [] => by unfold fv; by_cases h : e.key = K3 j <;> simp [h, fv]
 | x :: es => by
   rw [List.cons_append]
   unfold fv
   by_cases h : x.key = K3 j
   · rw [if_pos h, if_pos h]
   · rw [if_neg h, if_neg h]; exact fv_push j e es
theorem fnd_some {k : Int × Int × Int} : ∀ {es : List MapEntry} {n i : Nat} {v : Value}, fnd k es n = some (i, v) → ∃ m e, i = n + m ∧ es[m]? = some e ∧ e.key = K3 k ∧
   ∀ (e' : MapEntry), e'.key = K3 k → ∀ j, fv j (es.set m e') = if j = k then some e'.val else fv j es
 | [], _, _, _, h => by simp [fnd] at h
 | e :: es, n, i, v, h => by
   unfold fnd at h
   by_cases hk : e.key = K3 k
   · rw [if_pos hk] at h
     injection h with h
     injection h with h1 h2
     refine ⟨0, e, by omega, rfl, hk, fun e' he' j => ?_⟩
     rw [List.set_cons_zero]
     unfold fv
     by_cases hj : j = k
     · subst hj
       rw [if_pos he', if_pos rfl]
     · have g : ¬ K3 k = K3 j := fun q => hj (K3_inj q).symm
       rw [he', hk, if_neg g, if_neg g, if_neg hj]
   · rw [if_neg hk] at h
     obtain ⟨m, x, h1, h2, h3, h4⟩ := fnd_some h
     refine ⟨m + 1, x, by omega, by simpa using h2, h3, fun e' he' j => ?_⟩
     rw [List.set_cons_succ]
     have ih := h4 e' he' j
     unfold fv
     by_cases hj : e.key = K3 j
     · have hjk : ¬ j = k := fun q => hk (by rw [hj, q])
       rw [if_pos hj, if_neg hjk, if_pos hj]
     · rw [if_neg hj, if_neg hj]; exact ih
theorem sameBits_K3 (k : Int × Int × Int) : sameBits 10000 (K3 k) (K3 k) = true := by
 show sameBits (9999 + 1) (K3 k) (K3 k) = true
 unfold sameBits
 simp [sameBits]
end Go.Proofs.YtfgopboddkhckaaGreatDoor
namespace Go.Proofs.YtfgopboddkhckaaGreatDoor
open Go.ChangeShapes Go.WideShapes Go.ChangeAt Go.RowKit Go.Sort
open Go.Instr Go.MapKept
set_option linter.unusedVariables false
set_option maxRecDepth 100000
def MapS (w : World) (b : Nat) (f : Int × Int × Int → Option Value) : Prop := ∃ es clock, w.heap[b]? = some (.map es clock) ∧ keys3 es.toList ∧ Stamped es clock ∧ ∀ k, fv k es.toList = f k
theorem MapS.is {w : World} {b : Nat} {f : Int × Int × Int → Option Value} (h : MapS w b f) : MapIs w b f := by
 obtain ⟨es, c, h1, h2, _, h4⟩ := h
 exact ⟨es, c, h1, h2, fun k => by rw [fnd_fv]; exact h4 k⟩
theorem MapS.lt {w : World} {b : Nat} {f : Int × Int × Int → Option Value} (h : MapS w b f) : b < w.heap.size := h.is.lt
theorem MapS.of_block {w w' : World} {b : Nat} {f : Int × Int × Int → Option Value} (h : MapS w b f) (e : w'.heap[b]? = w.heap[b]?) : MapS w' b f := by
 obtain ⟨es, c, hb, r⟩ := h; exact ⟨es, c, by rw [e]; exact hb, r⟩
theorem MapS.new (w : World) : MapS (w.alloc (.map #[] 0)) w.heap.size (fun _ => none) :=
 ⟨#[], 0, heap_alloc_new w _, fun e he => by simp at he, stamped_empty 0, fun k => rfl⟩
theorem findIdx_stamp {l : List MapEntry} (hn : (l.map (·.born)).Nodup) {j : Nat} {e0 : MapEntry} (h : l[j]? = some e0) : l.findIdx? (fun e => ((e.born : Nat) : Int) == ((e0.born : Nat) : Int)) = some j := by
 induction l generalizing j with
 | nil => simp at h
 | cons a r ih =>
   simp only [List.map_cons, List.nodup_cons] at hn
   cases j with
   | zero =>
     simp only [List.getElem?_cons_zero, Option.some.injEq] at h
     subst h
     simp [List.findIdx?_cons]
   | succ j =>
     simp only [List.getElem?_cons_succ] at h
     have hne : a.born ≠ e0.born := fun e1 => hn.1 (List.mem_map.2 ⟨e0, List.mem_of_getElem? h, e1.symm⟩)
     have hb : (((a.born : Nat) : Int) == ((e0.born : Nat) : Int)) = false := by
       simp only [beq_eq_false_iff_ne, ne_eq, Int.natCast_inj]
       exact hne
     rw [List.findIdx?_cons, hb]
     simp [ih hn.2 h]
theorem findIdx_arr' (xs : Array MapEntry) (p : MapEntry → Bool) : xs.findIdx? p = xs.toList.findIdx? p := by
 cases xs
 simp
theorem modify_last' {α : Type} (f : α → α) (a : α) : ∀ l : List α, (l ++ [a]).modify l.length f = l ++ [f a]
 | [] => rfl
 | b :: r => by simp [List.modify_succ_cons, modify_last' f a r]
theorem set_self' {α : Type} : ∀ (l : List α) (j : Nat) (a : α), l[j]? = some a → l.set j a = l
 | [], _, _, h => by simp at h
 | b :: r, 0, a, h => by simp at h; subst h; rfl
 | b :: r, j + 1, a, h => by simp at h; simp [set_self' r j a h]
theorem fv_none {k : Int × Int × Int} : ∀ {es : List MapEntry}, fv k es = none → ∀ x ∈ es, x.key ≠ K3 k
 | [], _, x, hx => by simp at hx
 | e :: es, h, x, hx => by
   unfold fv at h
   by_cases hk : e.key = K3 k
   · rw [if_pos hk] at h; cases h
   · rw [if_neg hk] at h
     rcases List.mem_cons.1 hx with rfl | hx
     · exact hk
     · exact fv_none h x hx
abbrev setB (w : World) (b : Nat) (o : Obj) : World := { w with heap := w.heap.setIfInBounds b o }
theorem chg_setB (w : World) (b : Nat) (o : Obj) : Chg (fun k => k = b) w (setB w b o) :=
 ⟨rfl, rfl, rfl, by simp, fun k hk hn => by simp [Ne.symm hn]⟩
theorem run_entry3 {P : Program} {T K E : TypeId} (hT : P.underlying T = some (.map K E)) (hK : Key3 P K) {w : World} {z : Value} (hz : (zeroValue E).run P w = .ok z w) {b : Nat} {f : Int × Int × Int → Option Value} (h : MapS w b f) (k : Int × Int × Int) (v : Value) :
   ∃ (v0 : Value) (st : Int) (w1 w2 : World), (Instr.mapEntry T (.map (some b)) (K3 k)).run P w = .ok (.tuple #[v0, .int .i64 st]) w1 ∧ Chg (fun j => j = b) w w1 ∧
     (Instr.entryStore T (.map (some b)) (.int .i64 st) v).run P w1 = .ok () w2 ∧ Chg (fun j => j = b) w1 w2 ∧ MapS w2 b (fun j => if j = k then some v else f j) := by
 have hlt := h.lt
 obtain ⟨es, c, hb, hk, hs, hf⟩ := h
 have h1 := run_findKey hK k w es.toList hk
 have hsz : ∀ o : Obj, (setB w b o).heap[b]? = some o := fun o => by simp [hlt]
 obtain ⟨s1, s2, s3⟩ := hs
 cases hq : fnd k es.toList 0 with
 | none =>
   rw [hq] at h1
   have hfn : fv k es.toList = none := by rw [← fnd_fv k es.toList 0, hq]; rfl
   have hno := fv_none hfn
   have hidx : (es.push { key := K3 k, val := z, born := c }).findIdx? (fun e => ((e.born : Nat) : Int) == ((c : Nat) : Int)) = some es.size := by
     rw [findIdx_arr']
     have := findIdx_stamp (l := (es.push ({ key := K3 k, val := z, born := c } : MapEntry)).toList) (j := es.size) (e0 := { key := K3 k, val := z, born := c }) (by
       simp only [Array.toList_push, List.map_append, List.map_cons, List.map_nil]
       refine List.nodup_append.2 ⟨s2, by simp, fun a ha d hd e1 => ?_⟩
       simp only [List.mem_singleton] at hd
       obtain ⟨x, hx, rfl⟩ := List.mem_map.1 ha
       have := s1 x hx
       omega) (by simp)
     exact this
   have hmod : (es.push { key := K3 k, val := z, born := c }).modify es.size (fun e => { e with val := v }) = es.push { key := K3 k, val := v, born := c } := by
     apply Array.ext'
     rw [Array.toList_modify, Array.toList_push, Array.toList_push, ← Array.length_toList, modify_last']
   have hb1 := hsz (.map (es.push { key := K3 k, val := z, born := c }) (c + 1))
   refine ⟨z, c, setB w b (.map (es.push { key := K3 k, val := z, born := c }) (c + 1)), setB (setB w b (.map (es.push { key := K3 k, val := z, born := c }) (c + 1))) b (.map (es.push { key := K3 k, val := v, born := c }) (c + 1)), ?_, chg_setB _ _ _, ?_, chg_setB _ _ _, es.push { key := K3 k, val := v, born := c }, c + 1, ?_, ?_, ?_, ?_⟩
   · simp [Instr.mapEntry, run_underlying hT, MapKept.run_getObj_map hb, hK.chk, h1, hz, MapKept.run_setObj_map _ hb, Result.andThen, goInt]
   · simp [Instr.entryStore, MapKept.run_getObj_map hb1, asInt, asIntOf, hidx, hmod, MapKept.run_setObj_map _ hb1, Result.andThen]
   · simp [hlt]
   · intro e he
     simp only [Array.toList_push, List.mem_append, List.mem_singleton] at he
     rcases he with he | rfl
     · exact hk e he
     · exact ⟨k, rfl⟩
   · exact stamped_push ⟨s1, s2, s3⟩ hno
   · intro j
     rw [Array.toList_push, fv_push]
     by_cases hj : j = k
     · subst hj
       rw [hfn]; simp
     · have g : ¬ K3 k = K3 j := fun q => hj (K3_inj q).symm
       show _ = if j = k then some v else f j
       rw [if_neg hj, ← hf j]
       cases fv j es.toList with
       | none => simp [g]
       | some x => rfl
 | some q =>
   obtain ⟨i, u⟩ := q
   rw [hq] at h1
   obtain ⟨m, e, hi, he, hke, hset⟩ := fnd_some hq
   have him : i = m := by omega
   subst him
   have hie : es[i]? = some e := by rw [← Array.getElem?_toList]; exact he
   have hsame : es.modify i (fun e => { e with key := K3 k }) = es := by
     apply Array.ext'
     rw [Array.toList_modify, ChangeMaps.modify_eq_set _ _ _ _ he]
     have : ({ e with key := K3 k } : MapEntry) = e := by rw [← hke]
     rw [this]
     exact set_self' _ _ _ he
   have hidx : es.findIdx? (fun x => ((x.born : Nat) : Int) == ((e.born : Nat) : Int)) = some i := by
     rw [findIdx_arr']
     exact findIdx_stamp s2 he
   have hb1 := hsz (.map es c)
   refine ⟨u, e.born, setB w b (.map es c), setB (setB w b (.map es c)) b (.map (es.modify i fun x => { x with val := v }) c), ?_, chg_setB _ _ _, ?_, chg_setB _ _ _, es.modify i (fun x => { x with val := v }), c, ?_, ?_, ?_, ?_⟩
   · simp [Instr.mapEntry, run_underlying hT, MapKept.run_getObj_map hb, hK.chk, h1, MapKept.run_setObj_map _ hb, Result.andThen, keyThatStays, hie, hke, sameBits_K3, hsame, goInt]
   · simp [Instr.entryStore, MapKept.run_getObj_map hb1, asInt, asIntOf, hidx, MapKept.run_setObj_map _ hb1, Result.andThen]
   · simp [hlt]
   · intro x hx
     rw [Array.toList_modify, ChangeMaps.modify_eq_set _ _ _ _ he] at hx
     rcases List.mem_or_eq_of_mem_set hx with h | h
     · exact hk x h
     · exact ⟨k, by rw [h]; exact hke⟩
   · exact stamped_modify ⟨s1, s2, s3⟩ i _ (fun _ _ => rfl) (fun _ _ _ => rfl)
   · intro j
     rw [Array.toList_modify, ChangeMaps.modify_eq_set _ _ _ _ he]
     have := hset { e with val := v } hke j
     rw [this]
     show _ = if j = k then some v else f j
     rw [← hf j]
end Go.Proofs.YtfgopboddkhckaaGreatDoor
namespace Go.Proofs.YtfgopboddkhckaaGreatDoor
open Go.ChangeShapes Go.WideShapes Go.ChangeAt Go.RowKit Go.Sort Go.Joins
set_option linter.unusedVariables false
set_option maxRecDepth 100000
theorem chk_int (n : Nat) (e : Bool) (x : Int) (w : World) : (Instr.checkKey e (n + 1) 2 (.int .i64 x)).run Tryz.prog w = .ok () w := by
 unfold Instr.checkKey
 simp [run_underlying Tryz.underlying2, Result.andThen]
theorem chk_k3 (n : Nat) (e : Bool) (a1 a2 a3 : Int) (w : World) : (Instr.checkKey e (n + 1 + 1) 241 (.agg #[.int .i64 a1, .int .i64 a2, .int .i64 a3])).run Tryz.prog w = .ok () w := by
 have hu := Tryz.underlying241
 have hi := chk_int n e
 unfold Instr.checkKey
 simp [run_underlying hu, Result.andThen, go_sem, hi]
theorem key3 : Key3 Tryz.prog 241 where
 eq := fun a b w => by
   obtain ⟨a1, a2, a3⟩ := a
   obtain ⟨b1, b2, b3⟩ := b
   have hu := Tryz.underlying241
   have hf := (show ∀ fs, Tryz.prog.underlying 241 = some (.struct fs) → Tryz.prog.fieldsOf 241 = fs from fun fs h => by unfold Program.fieldsOf; rw [h]) _ hu
   show (Op.equalIn 10000 241 (.agg #[.int .i64 a1, .int .i64 a2, .int .i64 a3]) (.agg #[.int .i64 b1, .int .i64 b2, .int .i64 b3])).run Tryz.prog w = _
   rw [run_equalIn_struct _ 9999 _ _ _ (by rw [hf]; exact hu) (by kernel_rfl), hf]
   simp [Op.eqFields, go_sem, Tryz.underlying2]
   by_cases h1 : a1 = b1 <;> by_cases h2 : a2 = b2 <;> by_cases h3 : a3 = b3 <;> simp [h1, h2, h3]
 chk := fun a e w => by
   obtain ⟨a1, a2, a3⟩ := a
   exact chk_k3 9998 e a1 a2 a3 w
 str := ⟨_, Tryz.underlying241⟩
abbrev PVv (v : PV) : Value := .agg #[.int .i64 (v.c : Int), .int .i64 (v.p : Int), .string (bsq v.lo), .string (bsq v.hi)]
theorem q4 {q : Nat} (h1 : 1 ≤ q) (h4 : q ≤ 4) : q = 1 ∨ q = 2 ∨ q = 3 ∨ q = 4 := by omega
theorem impl_cut8 (q : Nat) (h1 : 1 ≤ q) (h4 : q ≤ 4) (w : World) : Calls Tryz.prog 258 #[.int .u8 ((let8 q).toNat : Int)] w (RetP (.bool (decide (cut8 q = 1))) w) := by
 rcases q4 h1 h4 with rfl | rfl | rfl | rfl
 · show Calls _ _ #[.int .u8 67] _ _
   go_enter Tryz.func258, Tryz.ntmps258
   go_wp2_with fail
   go_ret
   exact ⟨rfl, rfl⟩
 · show Calls _ _ #[.int .u8 72] _ _
   go_enter Tryz.func258, Tryz.ntmps258
   go_wp2_with fail
   go_ret
   exact ⟨rfl, rfl⟩
 · show Calls _ _ #[.int .u8 84] _ _
   go_enter Tryz.func258, Tryz.ntmps258
   go_wp2_with fail
   go_ret
   exact ⟨rfl, rfl⟩
 · show Calls _ _ #[.int .u8 83] _ _
   go_enter Tryz.func258, Tryz.ntmps258
   go_wp2_with fail
   go_ret
   exact ⟨rfl, rfl⟩
theorem impl_piece8 (q : Nat) (h1 : 1 ≤ q) (h4 : q ≤ 4) (w : World) : Calls Tryz.prog 243 #[.int .i64 (q : Int)] w (RetP (.string (bsq [let8 q])) w) := by
 rcases q4 h1 h4 with rfl | rfl | rfl | rfl
 all_goals
   go_enter Tryz.func243, Tryz.ntmps243
   go_wp2_with fail
   go_ret
   exact ⟨rfl, rfl⟩
set_option maxHeartbeats 800000 in
theorem impl_with8 (q : Nat) (h1 : 1 ≤ q) (h4 : q ≤ 4) (c p : Nat) (hc : c ≤ 1000000) (hp : p ≤ 1000000) (w : World) : Calls Tryz.prog 244 #[.agg #[.int .i64 (c : Int), .int .i64 (p : Int)], .int .u8 ((let8 q).toNat : Int)] w (Ret (.agg #[.int .i64 ((c + cut8 q : Nat) : Int), .int .i64 ((p + 1 : Nat) : Int)]) w) := by
 have HC := Lib.hid (fun w => impl_cut8 q h1 h4 w)
 by_cases hq : cut8 q = 1
 · rw [hq]
   have HD : Hid (decide (cut8 q = 1) = true) := Lib.hid (decide_eq_true hq)
   rw [HD.out] at HC
   obtain ⟨y, hy⟩ : ∃ y, ((let8 q).toNat : Int) = y := ⟨_, rfl⟩
   rw [hy] at HC ⊢
   clear hy hq HD
   go_enter Tryz.func244, Tryz.ntmps244
   go_wp2_with fail
   refine (show Calls _ _ _ _ _ from HC.out _).mono ?_
   rintro e w1 ⟨rfl, rfl⟩
   go_wp2_with fail
   refine bodyPost_ret (v := .agg #[.int .i64 ((c + 1 : Nat) : Int), .int .i64 ((p + 1 : Nat) : Int)]) (by simp [results, Tryz.results244, go_sem]) rfl ⟨rfl, ?_⟩
   repeat (first | exact ext_refl _ | refine ext_set ?_ (by simp; try omega) _ | refine ext_alloc ?_ _)
 · have hz : cut8 q = 0 := by unfold cut8 at *; split <;> (try split) <;> simp_all
   rw [hz]
   have HD : Hid (decide (cut8 q = 1) = false) := Lib.hid (decide_eq_false hq)
   rw [HD.out] at HC
   obtain ⟨y, hy⟩ : ∃ y, ((let8 q).toNat : Int) = y := ⟨_, rfl⟩
   rw [hy] at HC ⊢
   clear hy hq HD hz
   go_enter Tryz.func244, Tryz.ntmps244
   go_wp2_with fail
   refine (show Calls _ _ _ _ _ from HC.out _).mono ?_
   rintro e w1 ⟨rfl, rfl⟩
   go_wp2_with fail
   refine bodyPost_ret (v := .agg #[.int .i64 ((c + 0 : Nat) : Int), .int .i64 ((p + 1 : Nat) : Int)]) (by simp [results, Tryz.results244, go_sem]) rfl ⟨rfl, ?_⟩
   repeat (first | exact ext_refl _ | refine ext_set ?_ (by simp; try omega) _ | refine ext_alloc ?_ _)
theorem impl_lessC (a b c d : Int) (w : World) : Calls Tryz.prog 259 #[.agg #[.int .i64 a, .int .i64 b], .agg #[.int .i64 c, .int .i64 d]] w (Ret (.bool (decide (a < c ∨ (a = c ∧ b < d)))) w) := by
 by_cases h1 : a < c
 · go_enter Tryz.func259, Tryz.ntmps259
   go_wp2_with fail
   go_ret
   exact ⟨ret_bool (by simp [h1]), ext_alloc (ext_alloc1 _ _) _⟩
 · by_cases h2 : a = c
   · subst h2
     go_enter Tryz.func259, Tryz.ntmps259
     go_wp2_with fail
     go_ret
     exact ⟨ret_bool (by simp), ext_alloc (ext_alloc1 _ _) _⟩
   · have h3 : (a == c) = false := beq_eq_false_iff_ne.2 h2
     go_enter Tryz.func259, Tryz.ntmps259
     go_wp2_with fail
     go_ret
     exact ⟨ret_bool (by simp [h1]), ext_alloc (ext_alloc1 _ _) _⟩
theorem run_eqCost (a b c d : Int) (w : World) : (Op.equalIn 10000 181 (.agg #[.int .i64 a, .int .i64 b]) (.agg #[.int .i64 c, .int .i64 d])).run Tryz.prog w = .ok (decide (a = c) && decide (b = d)) w := by
 have hu := Tryz.underlying181
 have hf := (show ∀ fs, Tryz.prog.underlying 181 = some (.struct fs) → Tryz.prog.fieldsOf 181 = fs from fun fs h => by unfold Program.fieldsOf; rw [h]) _ hu
 rw [run_equalIn_struct _ 9999 _ _ _ (by rw [hf]; exact hu) (by kernel_rfl), hf]
 simp [Op.eqFields, go_sem, Tryz.underlying2]
 by_cases h1 : a = c <;> by_cases h2 : b = d <;> simp [h1, h2]
theorem tl_bsq (l : List UInt8) : (bsq l).toList = l := by rw [ByteArray.toList_eq]; rfl
theorem bl_tlt : ∀ (x y : List UInt8), Op.bytesLess x y = tlt x y
 | [], [] => rfl
 | [], _ :: _ => rfl
 | _ :: _, [] => rfl
 | a :: x, b :: y => by
   unfold Op.bytesLess tlt
   rw [bl_tlt x y]
   rcases Nat.lt_trichotomy a.toNat b.toNat with h | h | h
   · have h1 : a < b := u8_lt.2 h
     simp [h1]
   · have h1 : a = b := u8_eq.2 h
     subst h1
     simp
   · have h1 : ¬ a < b := fun h2 => by have := u8_lt.1 h2; omega
     have h2 : ¬ a = b := fun h2 => by have := u8_eq.1 h2; omega
     simp [h1, h2]
set_option maxHeartbeats 800000 in
theorem impl_lessP (x y : PV) (w : World) : Calls Tryz.prog 245 #[PVv x, PVv y] w (Ret (.bool (decide (plt x y))) w) := by
 obtain ⟨a, b, s, t⟩ := x
 obtain ⟨c, d, u, v⟩ := y
 have hq := fun w => run_eqCost (a : Int) (b : Int) (c : Int) (d : Int) w
 have HL := Lib.hid (fun w => impl_lessC (a : Int) (b : Int) (c : Int) (d : Int) w)
 by_cases he : a = c ∧ b = d
 · obtain ⟨rfl, rfl⟩ := he
   have hq' : (decide ((a : Int) = a) && decide ((b : Int) = b)) = true := by simp
   rw [hq'] at hq
   go_enter Tryz.func245, Tryz.ntmps245
   have key : decide (plt ⟨a, b, s, t⟩ ⟨a, b, u, v⟩) = (tlt s u || (decide (s = u) && tlt t v)) := by
     have hi : plt ⟨a, b, s, t⟩ ⟨a, b, u, v⟩ ↔ (tlt s u = true ∨ (s = u ∧ tlt t v = true)) := by unfold plt; simp
     have hd : decide (plt ⟨a, b, s, t⟩ ⟨a, b, u, v⟩) = decide (tlt s u = true ∨ (s = u ∧ tlt t v = true)) := decide_eq_decide.2 hi
     rw [hd]
     simp [Bool.decide_or, Bool.decide_and]
   go_wp2_with fail
   all_goals
     go_ret
     refine ⟨ret_bool ?_, ext_alloc (ext_alloc1 _ _) _⟩
     clear key
     simp only [tl_bsq, bl_tlt] at *
     simp [*, tlt_irrefl]
 · have hq' : (decide ((a : Int) = c) && decide ((b : Int) = d)) = false := by simp; omega
   rw [hq'] at hq
   have HP : Hid (decide (plt ⟨a, b, s, t⟩ ⟨c, d, u, v⟩) = decide ((a : Int) < c ∨ ((a : Int) = c ∧ (b : Int) < d))) := Lib.hid (by
     apply decide_eq_decide.2
     unfold plt
     constructor
     · rintro (h | ⟨h1, h | ⟨h2, _⟩⟩)
       · left; exact_mod_cast h
       · right; exact ⟨by exact_mod_cast h1, by exact_mod_cast h⟩
       · exact absurd ⟨h1, h2⟩ he
     · rintro (h | ⟨h1, h⟩)
       · left; exact_mod_cast h
       · right; exact ⟨by exact_mod_cast h1, .inl (by exact_mod_cast h)⟩)
   rw [HP.out]
   clear he hq' HP
   go_enter Tryz.func245, Tryz.ntmps245
   go_wp2_with fail
   refine (show Calls _ _ _ _ _ from HL.out _).mono ?_
   rintro e w1 ⟨rfl, hb⟩
   go_wp2_with fail
   go_ret
   refine ⟨ret_bool ?_, ext_trans (ext_alloc (ext_alloc1 _ _) _) hb⟩
   by_cases h1 : a < c <;> by_cases h2 : a = c <;> by_cases h3 : b < d <;> simp [h1, h2, h3]
structure PSH (w : World) (p L P bb bk bd : Nat) : Prop where
 c0 : w.cell? ⟨p, 0, none⟩ = some (.int .i64 (L : Int))
 c1 : w.cell? ⟨p, 1, none⟩ = some (.int .i64 (P : Int))
 c2 : w.cell? ⟨p, 2, none⟩ = some (.map (some bb))
 c3 : w.cell? ⟨p, 3, none⟩ = some (.map (some bk))
 c4 : w.cell? ⟨p, 4, none⟩ = some (.map (some bd))
theorem PSH.ext {w w' : World} {p L P bb bk bd : Nat} (h : PSH w p L P bb bk bd) (hb : Below w.heap.size w w') : PSH w' p L P bb bk bd := ⟨cell_keep h.c0 hb, cell_keep h.c1 hb, cell_keep h.c2 hb, cell_keep h.c3 hb, cell_keep h.c4 hb⟩
theorem PSH.chg {S : Nat → Prop} {w w' : World} {p L P bb bk bd : Nat} (h : PSH w p L P bb bk bd) (hb : Chg S w w') (hp : ¬ S p) : PSH w' p L P bb bk bd := ⟨hb.cell h.c0 hp, hb.cell h.c1 hp, hb.cell h.c2 hp, hb.cell h.c3 hp, hb.cell h.c4 hp⟩
set_option maxHeartbeats 3200000 in
theorem impl_may (p L P bb bk bd t lo hi : Nat) (a b : Bool) (hlo : lo ≤ t) (hhi : hi ≤ t) (ht : t ≤ 1000) (w : World) (hP : PSH w p L P bb bk bd) :
   Calls Tryz.prog 242 #[.pointer (some ⟨p, 0, none⟩), .agg #[.int .i64 (t : Int), .int .i64 (lo : Int), .int .i64 (hi : Int)], .bool a, .bool b] w (Ret (.bool (may L P t lo hi a b)) w) := by
 obtain ⟨c0, c1, _, _, _⟩ := hP
 have hx := ext_alloc1 w (.cells #[.int .i64 (t : Int), .int .i64 (lo : Int), .int .i64 (hi : Int)] 241)
 have p0 := cell_keep c0 hx
 have p1 := fun d os => cell_regrown (cell_keep c1 hx) d os
 have k1 : ∀ d os, (grow (redrawn (w.alloc (.cells #[.int .i64 (t : Int), .int .i64 (lo : Int), .int .i64 (hi : Int)] 241)) d) os).cell? ⟨w.heap.size, 1, none⟩ = some (.int .i64 (lo : Int)) := fun d os => cell_regrown (by simp [go_sem]) d os
 have k2 : ∀ d os, (grow (redrawn (w.alloc (.cells #[.int .i64 (t : Int), .int .i64 (lo : Int), .int .i64 (hi : Int)] 241)) d) os).cell? ⟨w.heap.size, 2, none⟩ = some (.int .i64 (hi : Int)) := fun d os => cell_regrown (by simp [go_sem]) d os
 obtain ⟨r, hr⟩ : ∃ r, may L P t lo hi a b = r := ⟨_, rfl⟩
 have HR := Lib.hid hr
 rw [hr]
 clear hx hr c0 c1
 cases a <;> cases b
 · by_cases hx : 3 < t + 1 - lo
   · have hx' : (3 : Int) < (t : Int) + 1 - lo := by omega
     have HF : Hid (r = false) := Lib.hid (by rw [← HR.out]; simp [may, hx])
     clear hx
     go_enter Tryz.func242, Tryz.ntmps242
     go_wp2_with fail
     go_ret
     exact ⟨ret_bool HF.out.symm, ext_alloc1 _ _⟩
   have hx' : ¬ (3 : Int) < (t : Int) + 1 - lo := by omega
   by_cases hy : 3 < t + 1 - hi
   · have hy' : (3 : Int) < (t : Int) + 1 - hi := by omega
     have HF : Hid (r = false) := Lib.hid (by rw [← HR.out]; simp [may, hy])
     clear hx hy
     go_enter Tryz.func242, Tryz.ntmps242
     go_wp2_with fail
     go_ret
     exact ⟨ret_bool HF.out.symm, ext_alloc1 _ _⟩
   have hy' : ¬ (3 : Int) < (t : Int) + 1 - hi := by omega
   by_cases hL : t + 1 = L
   · have hL' : ((t : Int) + 1 == (L : Int)) = true := by rw [beq_iff_eq]; omega
     have HF : Hid (r = false) := Lib.hid (by rw [← HR.out]; simp [may, hL])
     clear hx hy hL
     go_enter Tryz.func242, Tryz.ntmps242
     go_wp2_with fail
     go_ret
     exact ⟨ret_bool HF.out.symm, ext_alloc1 _ _⟩
   · have hL' : ((t : Int) + 1 == (L : Int)) = false := beq_eq_false_iff_ne.2 (by omega)
     have HF : Hid (r = true) := Lib.hid (by rw [← HR.out]; simp [may, hL, hx, hy])
     clear hx hy hL
     go_enter Tryz.func242, Tryz.ntmps242
     go_wp2_with fail
     refine wp_region_quiet_below (by kernel_rfl) (by kernel_rfl) ?_
     repeat (go_big_quiet_step (fail))
     refine wpQuiet_nil ?_
     intro w' hw'
     obtain ⟨q, rfl⟩ := hw'
     go_wp2_with fail
     go_ret
     exact ⟨ret_bool HF.out.symm, ext_trans (ext_alloc1 _ _) (below_regrown _ q.d q.os)⟩
 · by_cases hx : 3 < t + 1 - lo
   · have hx' : (3 : Int) < (t : Int) + 1 - lo := by omega
     have HF : Hid (r = false) := Lib.hid (by rw [← HR.out]; simp [may, hx])
     clear hx
     go_enter Tryz.func242, Tryz.ntmps242
     go_wp2_with fail
     go_ret
     exact ⟨ret_bool HF.out.symm, ext_alloc1 _ _⟩
   have hx' : ¬ (3 : Int) < (t : Int) + 1 - lo := by omega
   by_cases hL : t + 1 = L
   · have hL' : ((t : Int) + 1 == (L : Int)) = true := by rw [beq_iff_eq]; omega
     have HF : Hid (r = false) := Lib.hid (by rw [← HR.out]; simp [may, hL])
     clear hx hL
     go_enter Tryz.func242, Tryz.ntmps242
     go_wp2_with fail
     go_ret
     exact ⟨ret_bool HF.out.symm, ext_alloc1 _ _⟩
   have hL' : ((t : Int) + 1 == (L : Int)) = false := beq_eq_false_iff_ne.2 (by omega)
   by_cases h0 : 0 < lo
   · have f0 : decide (0 < lo) = true := decide_eq_true h0
     have f0' : decide ((0 : Int) < (lo : Int)) = true := decide_eq_true (by omega)
     by_cases h1 : t + 1 - lo < P
     · have f1 : decide ((t : Int) + 1 - lo < (P : Int)) = true := decide_eq_true (by omega)
       have HF : Hid (r = false) := Lib.hid (by rw [← HR.out]; simp [may, hL, hx, h0, h1])
       clear hx hL h0 h1
       go_enter Tryz.func242, Tryz.ntmps242
       go_wp2_with fail
       refine wp_region_quiet_below (by kernel_rfl) (by kernel_rfl) ?_
       repeat (go_big_quiet_step (fail))
       refine wpQuiet_nil ?_
       intro w' hw'
       obtain ⟨q, rfl⟩ := hw'
       go_wp2_with fail
       go_ret
       exact ⟨ret_bool HF.out.symm, ext_trans (ext_alloc1 _ _) (below_regrown _ q.d q.os)⟩
     · have f1 : decide ((t : Int) + 1 - lo < (P : Int)) = false := decide_eq_false (by omega)
       have HF : Hid (r = true) := Lib.hid (by rw [← HR.out]; simp [may, hL, hx, h0, h1])
       clear hx hL h0 h1
       go_enter Tryz.func242, Tryz.ntmps242
       go_wp2_with fail
       refine wp_region_quiet_below (by kernel_rfl) (by kernel_rfl) ?_
       repeat (go_big_quiet_step (fail))
       refine wpQuiet_nil ?_
       intro w' hw'
       obtain ⟨q, rfl⟩ := hw'
       go_wp2_with fail
       go_ret
       exact ⟨ret_bool HF.out.symm, ext_trans (ext_alloc1 _ _) (below_regrown _ q.d q.os)⟩
   · have f0 : decide (0 < lo) = false := decide_eq_false h0
     have f0' : decide ((0 : Int) < (lo : Int)) = false := decide_eq_false (by omega)
     have HF : Hid (r = true) := Lib.hid (by rw [← HR.out]; simp [may, hL, hx, h0])
     clear hx hL h0
     go_enter Tryz.func242, Tryz.ntmps242
     go_wp2_with fail
     refine wp_region_quiet_below (by kernel_rfl) (by kernel_rfl) ?_
     repeat (go_big_quiet_step (fail))
     refine wpQuiet_nil ?_
     intro w' hw'
     obtain ⟨q, rfl⟩ := hw'
     go_wp2_with fail
     go_ret
     exact ⟨ret_bool HF.out.symm, ext_trans (ext_alloc1 _ _) (below_regrown _ q.d q.os)⟩
 · by_cases hy : 3 < t + 1 - hi
   · have hy' : (3 : Int) < (t : Int) + 1 - hi := by omega
     have HF : Hid (r = false) := Lib.hid (by rw [← HR.out]; simp [may, hy])
     clear hy
     go_enter Tryz.func242, Tryz.ntmps242
     go_wp2_with fail
     go_ret
     exact ⟨ret_bool HF.out.symm, ext_alloc1 _ _⟩
   have hy' : ¬ (3 : Int) < (t : Int) + 1 - hi := by omega
   by_cases hL : t + 1 = L
   · have hL' : ((t : Int) + 1 == (L : Int)) = true := by rw [beq_iff_eq]; omega
     have HF : Hid (r = false) := Lib.hid (by rw [← HR.out]; simp [may, hL])
     clear hy hL
     go_enter Tryz.func242, Tryz.ntmps242
     go_wp2_with fail
     go_ret
     exact ⟨ret_bool HF.out.symm, ext_alloc1 _ _⟩
   have hL' : ((t : Int) + 1 == (L : Int)) = false := beq_eq_false_iff_ne.2 (by omega)
   by_cases h0 : 0 < hi
   · have f0 : decide (0 < hi) = true := decide_eq_true h0
     have f0' : decide ((0 : Int) < (hi : Int)) = true := decide_eq_true (by omega)
     by_cases h1 : t + 1 - hi < P
     · have f1 : decide ((t : Int) + 1 - hi < (P : Int)) = true := decide_eq_true (by omega)
       have HF : Hid (r = false) := Lib.hid (by rw [← HR.out]; simp [may, hL, hy, h0, h1])
       clear hy hL h0 h1
       go_enter Tryz.func242, Tryz.ntmps242
       go_wp2_with fail
       refine wp_region_quiet_below (by kernel_rfl) (by kernel_rfl) ?_
       repeat (go_big_quiet_step (fail))
       refine wpQuiet_nil ?_
       intro w' hw'
       obtain ⟨q, rfl⟩ := hw'
       go_wp2_with fail
       go_ret
       exact ⟨ret_bool HF.out.symm, ext_trans (ext_alloc1 _ _) (below_regrown _ q.d q.os)⟩
     · have f1 : decide ((t : Int) + 1 - hi < (P : Int)) = false := decide_eq_false (by omega)
       have HF : Hid (r = true) := Lib.hid (by rw [← HR.out]; simp [may, hL, hy, h0, h1])
       clear hy hL h0 h1
       go_enter Tryz.func242, Tryz.ntmps242
       go_wp2_with fail
       refine wp_region_quiet_below (by kernel_rfl) (by kernel_rfl) ?_
       repeat (go_big_quiet_step (fail))
       refine wpQuiet_nil ?_
       intro w' hw'
       obtain ⟨q, rfl⟩ := hw'
       go_wp2_with fail
       go_ret
       exact ⟨ret_bool HF.out.symm, ext_trans (ext_alloc1 _ _) (below_regrown _ q.d q.os)⟩
   · have f0 : decide (0 < hi) = false := decide_eq_false h0
     have f0' : decide ((0 : Int) < (hi : Int)) = false := decide_eq_false (by omega)
     have HF : Hid (r = true) := Lib.hid (by rw [← HR.out]; simp [may, hL, hy, h0])
     clear hy hL h0
     go_enter Tryz.func242, Tryz.ntmps242
     go_wp2_with fail
     refine wp_region_quiet_below (by kernel_rfl) (by kernel_rfl) ?_
     repeat (go_big_quiet_step (fail))
     refine wpQuiet_nil ?_
     intro w' hw'
     obtain ⟨q, rfl⟩ := hw'
     go_wp2_with fail
     go_ret
     exact ⟨ret_bool HF.out.symm, ext_trans (ext_alloc1 _ _) (below_regrown _ q.d q.os)⟩
 · by_cases hL : t + 1 = L
   · have hL' : ((t : Int) + 1 == (L : Int)) = true := by rw [beq_iff_eq]; omega
     have HF : Hid (r = true) := Lib.hid (by rw [← HR.out]; simp [may, hL])
     clear hL
     go_enter Tryz.func242, Tryz.ntmps242
     go_wp2_with fail
     go_ret
     exact ⟨ret_bool HF.out.symm, ext_alloc1 _ _⟩
   · have hL' : ((t : Int) + 1 == (L : Int)) = false := beq_eq_false_iff_ne.2 (by omega)
     have HF : Hid (r = false) := Lib.hid (by rw [← HR.out]; simp [may, hL])
     clear hL
     go_enter Tryz.func242, Tryz.ntmps242
     go_wp2_with fail
     refine wp_region_quiet_below (by kernel_rfl) (by kernel_rfl) ?_
     repeat (go_big_quiet_step (fail))
     refine wpQuiet_nil ?_
     intro w' hw'
     obtain ⟨q, rfl⟩ := hw'
     go_wp2_with fail
     go_ret
     exact ⟨ret_bool HF.out.symm, ext_trans (ext_alloc1 _ _) (below_regrown _ q.d q.os)⟩
end Go.Proofs.YtfgopboddkhckaaGreatDoor
