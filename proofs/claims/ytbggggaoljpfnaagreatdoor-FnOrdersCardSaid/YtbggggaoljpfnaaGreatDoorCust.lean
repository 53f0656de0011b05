/-
  Orders: CustomersOf.
-/
import Derived.Test.YtbggggaoljpfnaaGreatDoorOrders3
import Derived.Test.YtbggggaoljpfnaaGreatDoorStr
import Derived.Test.YtbggggaoljpfnaaGreatDoorApp
import Derived.Test.YtbggggaoljpfnaaGreatDoorShelf
import Derived.BigQuiet
import Derived.StillTailTactics
import Derived.Deep.DrawnRows
namespace Go.Proofs.YtbggggaoljpfnaaGreatDoor
open Go.ChangeShapes Go.WideShapes Go.ChangeAt Go.RowKit Go.Sort
set_option linter.unusedVariables false
set_option maxRecDepth 100000
attribute [local go_sem ↓] Go.wp_at_zero Go.wp_at_succ

/-- 'append(out, s)', and where the new block lies. -/
theorem wpList_append_str2 {w0 : World} {ops : Array Oper} {rest : List Oper} {o : Oper} {a : Act} {Q : Exit → Act → World → Prop} (hgd : o.guard = none) (s x : Operand)
    (ho : o.op = .call { callee := .builtin .append, args := #[s, x], argTypes := #[37, 37] })
    (base : Nat) (v : Value) (l : List ByteArray) (n : ByteArray) (hs : a.eval s = v) (hx : a.eval x = .slice (some ⟨w0.heap.size, 0, none⟩) 1 1) (hO : OStr w0 base v l)
    (hl : l.length ≤ 1099511627776) (hbase : base ≤ w0.heap.size)
    (h : ∀ g cap w', OStr w' base (.slice (some ⟨g, 0, none⟩) (l.length + 1) cap) (l ++ [n]) → Chg (BI v) w0 w' → w0.heap.size < w'.heap.size → (BI v g ∨ w0.heap.size ≤ g) → wpList Tryz.prog ops Q rest (a.put o.dst (.slice (some ⟨g, 0, none⟩) (l.length + 1) cap)) w') :
    wpList Tryz.prog ops Q (o :: rest) a (w0.alloc (.cells #[.string n] 9)) := by
  obtain ⟨i0, hi, hz0, hz1, hz2⟩ := info_parts info_str
  refine wpList_append_lies _ hgd s x _ ho base 9 i0 (.string ⟨#[]⟩) 1 16 Tryz.underlying37 hi hz0 hz1 hz2 rfl (by omega) v l.length (l.map Value.string) hs (World.ownsRow.alloc hO _)
    ⟨w0.heap.size, 0, none⟩ 1 1 [.string n] hx rfl (cell_one_new _ _ _) (by simp [Value.oneCell']) (by omega) (by unfold maxLen; omega) (by omega) (by simp; omega) (w0.heap.size + 1) (by simp) ?_
  intro g cap w1 hown hgrow hat hlt
  refine h g cap w1 ?_ ((Chg.of_below (ext_alloc1 _ _) _).trans (Chg.of_grown hgrow)) (by have := hgrow.size; simp at this; omega) (hat.elim (fun h => .inl h) fun h => .inr (by omega))
  unfold OStr
  simpa using hown
theorem wpList_append_i2 {w0 : World} {ops : Array Oper} {rest : List Oper} {o : Oper} {a : Act} {Q : Exit → Act → World → Prop} (hgd : o.guard = none) (s x : Operand)
    (ho : o.op = .call { callee := .builtin .append, args := #[s, x], argTypes := #[38, 38] })
    (base : Nat) (v : Value) (xs : List Int) (n : Int) (hs : a.eval s = v) (hx : a.eval x = .slice (some ⟨w0.heap.size, 0, none⟩) 1 1) (hO : OI w0 base v xs)
    (hl : xs.length ≤ 1099511627776) (hbase : base ≤ w0.heap.size)
    (h : ∀ g cap w', OI w' base (.slice (some ⟨g, 0, none⟩) (xs.length + 1) cap) (xs ++ [n]) → Chg (BI v) w0 w' → w0.heap.size < w'.heap.size → (BI v g ∨ w0.heap.size ≤ g) → wpList Tryz.prog ops Q rest (a.put o.dst (.slice (some ⟨g, 0, none⟩) (xs.length + 1) cap)) w') :
    wpList Tryz.prog ops Q (o :: rest) a (w0.alloc (.cells #[.int .i64 n] 2)) := by
  obtain ⟨i0, hi, hz0, hz1, hz2⟩ := info_parts info_int
  refine wpList_append_lies _ hgd s x _ ho base 2 i0 (.int .i64 0) 1 8 Tryz.underlying38 hi hz0 hz1 hz2 rfl (by omega) v xs.length (xs.map (Value.int .i64)) hs (World.ownsRow.alloc hO _)
    ⟨w0.heap.size, 0, none⟩ 1 1 [.int .i64 n] hx rfl (cell_one_new _ _ _) (by simp [Value.oneCell']) (by omega) (by unfold maxLen; omega) (by omega) (by simp; omega) (w0.heap.size + 1) (by simp) ?_
  intro g cap w1 hown hgrow hat hlt
  refine h g cap w1 ?_ ((Chg.of_below (ext_alloc1 _ _) _).trans (Chg.of_grown hgrow)) (by have := hgrow.size; simp at this; omega) (hat.elim (fun h => .inl h) fun h => .inr (by omega))
  unfold OI
  simpa using hown

/-- The place of a text among texts; their number, if it is none of them. -/
def posS (l : List ByteArray) (x : ByteArray) : Nat := l.findIdx fun y => decide (y = x)
theorem posS_lt {l : List ByteArray} {x : ByteArray} (h : posS l x < l.length) : gd l (posS l x) = x := by
  have h1 : decide (l[posS l x] = x) = true := List.findIdx_getElem (p := fun y => decide (y = x)) (xs := l) (w := h)
  rw [gd_eq h]; exact of_decide_eq_true h1
theorem posS_no {l : List ByteArray} {x : ByteArray} {j : Nat} (h : j < posS l x) (hj : j < l.length) : gd l j ≠ x := by
  have h1 := List.not_of_lt_findIdx (p := fun y => decide (y = x)) (xs := l) h
  rw [gd_eq hj]; simpa using h1
theorem posS_mem {l : List ByteArray} {x : ByteArray} (h : x ∈ l) : posS l x < l.length := List.findIdx_lt_length_of_exists ⟨x, h, by simp⟩
theorem posS_le (l : List ByteArray) (x : ByteArray) : posS l x ≤ l.length := List.findIdx_le_length
theorem posS_at {l : List ByteArray} {x : ByteArray} (hn : l.Nodup) {j : Nat} (hj : j < l.length) (h : gd l j = x) : posS l x = j := by
  have hm : x ∈ l := h ▸ gd_mem hj
  have h1 := posS_lt (posS_mem hm)
  rw [gd_eq (posS_mem hm)] at h1
  rw [gd_eq hj] at h
  exact (List.getElem_inj (h₀ := posS_mem hm) (h₁ := hj) hn).1 (h1.trans h.symm)
/-- What the reference's inner loop has found among the first j names. -/
def atK (l : List ByteArray) (x : ByteArray) (j : Nat) : Int := if posS l x < j then (posS l x : Int) else -1
theorem atK_yes {l : List ByteArray} {x : ByteArray} (hn : l.Nodup) {j : Nat} (hj : j < l.length) (h : gd l j = x) : atK l x (j + 1) = j := by
  unfold atK; rw [posS_at hn hj h, if_pos (by omega)]
theorem atK_no {l : List ByteArray} {x : ByteArray} {j : Nat} (hj : j < l.length) (h : gd l j ≠ x) : atK l x (j + 1) = atK l x j := by
  have : posS l x ≠ j := fun he => h (he ▸ posS_lt (he ▸ hj))
  unfold atK
  by_cases h1 : posS l x < j
  · rw [if_pos h1, if_pos (by omega)]
  · rw [if_neg h1, if_neg (by omega)]
/-- slices.Index gives the same. -/
theorem idx_atK (l : List ByteArray) (x : ByteArray) : Lib.idxOfS (l.take l.length) x = atK l x l.length := by
  unfold atK
  by_cases h : posS l x < l.length
  · rw [if_pos h]
    refine Lib.idxOfS_hit l l.length (posS l x) x h (Nat.le_refl _) ?_ fun j hj => ?_
    · have := posS_lt h
      rw [gd_eq h] at this
      rw [← List.getElem_eq_getD (h := h)]; exact this
    · have hjl : j < l.length := by omega
      have := posS_no hj hjl
      rw [gd_eq hjl] at this
      rw [← List.getElem_eq_getD (h := hjl)]; exact this
  · rw [if_neg h]
    refine Lib.idxOfS_miss l l.length x fun j hj => ?_
    have := posS_no (x := x) (show j < posS l x by omega) hj
    rw [gd_eq hj] at this
    rw [← List.getElem_eq_getD (h := hj)]; exact this
/-- The step of CustomersOf: the names and the sums so far, and an order. -/
def cuStep (p : List ByteArray × List Int) (o : OD) : List ByteArray × List Int :=
  if posS p.1 o.cu < p.1.length then (p.1, p.2.set (posS p.1 o.cu) (p.2.getD (posS p.1 o.cu) 0 + o.br)) else (p.1 ++ [o.cu], p.2 ++ [o.br])
def cuK (l : List OD) (k : Nat) : List ByteArray × List Int := (l.take k).foldl cuStep ([], [])
theorem cuK_succ {l : List OD} {k : Nat} (hk : k < l.length) : cuK l (k + 1) = cuStep (cuK l k) (gd l k) := by
  unfold cuK; rw [take_gd hk, List.foldl_append]; rfl
def mCustomersOf (l : List OD) : List ByteArray × List Int × Int := bif vOrders l then ((cuK l l.length).1, (cuK l l.length).2, 0) else ([], [], 1)
/-- The state's law: as many sums as names, the names differ, every sum is between 0 and k times the greatest order. -/
def CuOk (p : List ByteArray × List Int) (k : Nat) : Prop := p.1.length = p.2.length ∧ p.1.length ≤ k ∧ p.1.Nodup ∧ ∀ s ∈ p.2, 0 ≤ s ∧ s ≤ 1000000 * (k : Int)
theorem cuOk_step {p : List ByteArray × List Int} {k : Nat} {o : OD} (h : CuOk p k) (hb : 1 ≤ o.br ∧ o.br ≤ 1000000) : CuOk (cuStep p o) (k + 1) := by
  obtain ⟨h1, h2, h3, h4⟩ := h
  unfold cuStep
  by_cases hk : posS p.1 o.cu < p.1.length
  · simp only [if_pos hk]
    refine ⟨by simpa using h1, by simp; omega, h3, fun s hs => ?_⟩
    rcases List.mem_or_eq_of_mem_set hs with hm | rfl
    · have := h4 s hm; omega
    · have hlt : posS p.1 o.cu < p.2.length := by omega
      have := h4 _ (List.getElem_mem hlt)
      rw [← List.getElem_eq_getD (h := hlt)]
      omega
  · simp only [if_neg hk]
    have hm : o.cu ∉ p.1 := fun hm => hk (posS_mem hm)
    refine ⟨by simp; omega, by simp; omega, ?_, fun s hs => ?_⟩
    · rw [List.nodup_append]
      exact ⟨h3, by simp, fun a ha b hb => by simp at hb; subst hb; exact fun h => hm (h ▸ ha)⟩
    · rcases List.mem_append.1 hs with hm | hm
      · have := h4 s hm; omega
      · simp at hm; subst hm; omega
theorem cuOk_K {l : List OD} (hv : vOrders l = true) : ∀ {k : Nat}, k ≤ l.length → CuOk (cuK l k) k := by
  intro k
  induction k with
  | zero => intro _; exact ⟨rfl, Nat.le_refl _, List.nodup_nil, fun s hs => by simp [cuK] at hs⟩
  | succ k ih =>
    intro hk
    rw [cuK_succ (by omega)]
    refine cuOk_step (ih (by omega)) ?_
    have h1 : okAt l k = true := by
      have := (Bool.and_eq_true _ _ ▸ hv).1
      exact List.all_eq_true.1 this k (List.mem_range.2 (by omega))
    unfold okAt at h1
    rw [Bool.and_eq_true] at h1
    exact (oneO_iff.1 h1.1).2.2.1

/-- Two rows lie apart. -/
def Apt (u v : Value) : Prop := ∀ b, BI u b → ¬ BI v b
def RetC (L : List ByteArray) (M : List Int) (code : Int) (w : World) : Ending → World → Prop := fun e w' => ∃ u v, e = .returned (.tuple #[u, v, .int .i64 code]) ∧ OStr w' w.heap.size u L ∧ SmStr L ∧ OI w' w.heap.size v M ∧ SmI M ∧ Apt u v ∧ Below w.heap.size w w'
theorem RetC.no {w w' : World} {code : Int} (hb : Below w.heap.size w w') : RetC [] [] code w (.returned (.tuple #[.slice none 0 0, .slice none 0 0, .int .i64 code])) w' :=
  ⟨_, _, rfl, ostr_nil _ _, by simp [SmStr], ⟨rfl, .inl ⟨rfl, rfl⟩⟩, by simp [SmI], fun b hb => by simp [BI, Value.ownBlock] at hb, hb⟩
/-- The state between two rounds. -/
structure CS (w : World) (base : Nat) (p : List ByteArray × List Int) (u s : Value) : Prop where
  hu : OStr w base u p.1
  hs : OI w base s p.2
  ap : Apt u s
theorem vO_len {l : List OD} (h : vOrders l = true) : l.length ≤ 30 := by
  unfold vOrders at h; rw [Bool.and_eq_true] at h; exact of_decide_eq_true h.2
theorem vO_one {l : List OD} (h : vOrders l = true) {k : Nat} (hk : k < l.length) : oneO (gd l k) = true := by
  have h1 : okAt l k = true := by
    have := (Bool.and_eq_true _ _ ▸ h).1
    exact List.all_eq_true.1 this k (List.mem_range.2 hk)
  unfold okAt at h1
  rw [Bool.and_eq_true] at h1
  exact h1.1
theorem cs_store {w w' : World} {base : Nat} {p : List ByteArray × List Int} {u : Value} {g c n j : Nat} {x : Int} (h : CS w base p u (.slice (some ⟨g, 0, none⟩) n c)) (hj : j < p.2.length)
    (hb : Below (w.setCell ⟨g, j, none⟩ (.int .i64 x)).heap.size (w.setCell ⟨g, j, none⟩ (.int .i64 x)) w') : CS w' base (p.1, p.2.set j x) u (.slice (some ⟨g, 0, none⟩) n c) := by
  have h1 := h.hs
  have hn : n = p.2.length := by
    rcases h1.2 with ⟨h2, _⟩ | ⟨_, _, _, h2, _⟩
    · cases h2
    · injection h2
  refine ⟨OStr.ext (OStr.chg h.hu (Chg.setCell (S := fun b => b = g) w (p := ⟨g, j, none⟩) rfl _) fun b hb1 hb2 => h.ap b hb1 (by rw [hb2]; rfl)) hb, OI.ext ?_ hb, h.ap⟩
  subst hn
  have h2 := (World.ownsRow.stored (w := w) h1 j (.int .i64 x)).1
  unfold OI
  simpa [List.map_set] using h2
theorem oi_lit (w : World) (base : Nat) (h : base ≤ w.heap.size) : OI (w.alloc (.cells #[] 2)) base (.slice (some ⟨w.heap.size, 0, none⟩) 0 0) [] :=
  World.ownsRow_lit _ #[] 0 h (by simp [maxLen]) (by simp)
theorem oi_open {w : World} {base : Nat} {D : Option Addr} {n c : Nat} {m : List Int} (h : OI w base (.slice D n c) m) (h0 : 0 < m.length) : ∃ g, D = some ⟨g, 0, none⟩ ∧ n = m.length := by
  rcases h.2 with ⟨_, h1⟩ | ⟨g, cap, cur, hv, _⟩
  · omega
  · injection hv with e1 e2 e3
    exact ⟨g, e1, e2⟩
theorem oi_cell {w : World} {base g n c : Nat} {m : List Int} (h : OI w base (.slice (some ⟨g, 0, none⟩) n c) m) {j : Nat} (hj : j < m.length) : w.cell? ⟨g, j, none⟩ = some (.int .i64 (m.getD j 0)) ∧ w.frozen? ⟨g, j, none⟩ = false := by
  obtain ⟨g', e, hn⟩ := oi_open h (by omega)
  subst hn
  refine ⟨?_, World.ownsRow.frozenAt h j⟩
  rw [World.ownsRow.cellAt h j (by omega)]
  simp [List.getElem?_map, List.getElem?_eq_getElem hj]
theorem cs_mid {w w4 : World} {base : Nat} {p : List ByteArray × List Int} {u s : Value} (h : CS w base p u s) (hg : Chg (BI u) w w4) : OI w4 base s p.2 :=
  OI.chg h.hs hg fun b hb1 hb2 => h.ap b hb2 hb1
theorem cs_push {w w4 w5 : World} {base g4 n4 c4 g5 n5 c5 : Nat} {l l' : List ByteArray} {m m' : List Int} {u s : Value} (h : CS w base (l, m) u s)
    (hO4 : OStr w4 base (.slice (some ⟨g4, 0, none⟩) n4 c4) l') (ha4 : BI u g4 ∨ w.heap.size ≤ g4) (hO5 : OI w5 base (.slice (some ⟨g5, 0, none⟩) n5 c5) m') (hg5 : Chg (BI s) w4 w5) (ha5 : BI s g5 ∨ w4.heap.size ≤ g5) :
    CS w5 base (l', m') (.slice (some ⟨g4, 0, none⟩) n4 c4) (.slice (some ⟨g5, 0, none⟩) n5 c5) := by
  have h4 : ¬ BI s g4 := by
    intro hb
    rcases ha4 with h1 | h1
    · exact h.ap g4 h1 hb
    · have := (h.hs.ge g4 hb).2; omega
  have h5 : g4 ≠ g5 := by
    intro e
    subst e
    rcases ha5 with h1 | h1
    · exact h4 h1
    · have := (hO4.ge g4 rfl).2; omega
  refine ⟨OStr.chg hO4 hg5 fun b hb1 hb2 => ?_, hO5, fun b hb1 hb2 => ?_⟩
  · obtain rfl : g4 = b := Option.some.inj hb1
    exact h4 hb2
  · have e1 : g4 = b := Option.some.inj hb1
    have e2 : g5 = b := Option.some.inj hb2
    exact h5 (e1.trans e2.symm)
theorem set_last (m : List Int) (n : Nat) (h : n = m.length) (x : Int) : (m ++ [0]).set n x = m ++ [x] := by
  subst h
  rw [List.set_append_right _ _ (Nat.le_refl _)]; simp
theorem cs_ext {w w' : World} {base : Nat} {p : List ByteArray × List Int} {u v : Value} (h : CS w base p u v) (hb : Below w.heap.size w w') : CS w' base p u v := ⟨h.hu.ext hb, h.hs.ext hb, h.ap⟩

set_option maxHeartbeats 6400000 in
theorem spec_CustomersOf (v : Value) (es : List OD) (w : World) (hR : RODS w v es) (hsm : SmODS es) :
    Calls Tryz.prog 16 #[v] w (RetC (mCustomersOf es).1 (mCustomersOf es).2.1 (mCustomersOf es).2.2 w) := by
  have HC := Lib.hid (spec_okO v es hsm w hR)
  obtain ⟨A, c, rfl, hc1, hc2⟩ := hR.open_
  have HR := Lib.hid hR; clear hR
  have hlen : es.length ≤ 1048576 := by unfold SmODS at hsm; omega
  clear hsm
  unfold maxLen at hc2
  go_enter Tryz.func16, Tryz.ntmps16
  go_wp2_with fail
  refine (show Calls _ _ _ _ _ from HC.out).mono ?_
  rintro e w2 ⟨rfl, hb2⟩
  have HW := Lib.hid hb2
  clear hb2 HC
  cases hv : vOrders es with
  | false =>
    have HF : Hid (mCustomersOf es = ([], [], 1)) := Lib.hid (by unfold mCustomersOf; rw [hv]; rfl)
    clear hv
    go_wp2_with fail
    refine bodyPost_ret (v := .tuple #[.slice none 0 0, .slice none 0 0, .int .i64 1]) (by simp [results, Tryz.results16, go_sem]) rfl ?_
    rw [HF.out]
    exact RetC.no HW.out
  | true =>
    have HF : Hid (mCustomersOf es = ((cuK es es.length).1, (cuK es es.length).2, 0)) := Lib.hid (by unfold mCustomersOf; rw [hv]; rfl)
    have HV := Lib.hid hv
    have hl30 := vO_len hv
    clear hv
    go_wp2_with fail
    go_loopw [5, 6, 7] (fun u s i wr => ∃ (k : Nat) (l : List ByteArray) (m : List Int) (B D : Option Addr) (cp dp : Nat), k ≤ es.length ∧ i = .int .i64 k ∧ u = .slice B l.length cp ∧ s = .slice D m.length dp ∧ Hid (cuK es k = (l, m)) ∧ Hid (CS wr w.heap.size (l, m) (.slice B l.length cp) (.slice D m.length dp)) ∧ Hid (Below w.heap.size w wr)) (fun _ _ i _ => es.length - (intOf i).toNat)
    case atStart =>
      refine ⟨0, [], [], some ⟨w2.heap.size, 0, none⟩, some ⟨w2.heap.size + 1, 0, none⟩, 0, 0, Nat.zero_le _, rfl, rfl, rfl, Lib.hid rfl, Lib.hid ⟨?_, ?_, ?_⟩, Lib.hid (ext_alloc (ext_alloc HW.out _) _)⟩
      · exact ((ostr_lit w2 w2.heap.size (Nat.le_refl _)).ext (ext_alloc1 _ _)).mono HW.out.size
      · have h := oi_lit (w2.alloc (.cells #[] 9)) w2.heap.size (by simp)
        simp only [World.size_alloc] at h
        exact h.mono HW.out.size
      · intro b hb1 hb2
        simp [BI, Value.ownBlock] at hb1 hb2
        omega
    case round =>
      obtain ⟨k, l, m, B, D, cp, dp, hk, rfl, rfl, rfl, HK, HCS, HB⟩ := hrel
      have e1 : (0 : Int) ≤ k := by omega
      have hok := cuOk_K HV.out hk
      rw [HK.out] at hok
      have HND : Hid l.Nodup := Lib.hid hok.2.2.1
      have hlm : Hid (l.length = m.length) := Lib.hid hok.1
      have hl3 : l.length ≤ 30 := by have : l.length ≤ k := hok.2.1; omega
      have hm3 : m.length ≤ 30 := by have : l.length = m.length := hok.1; omega
      have HBD := Lib.hid hok.2.2.2
      clear hok
      by_cases hlt : k < es.length
      · have e2 : (k : Int) < es.length := by omega
        obtain ⟨ad, rfl, _, hc⟩ := (HR.out.ext HB.out).at hlt
        obtain ⟨p0, p1, p2, p3, p4⟩ := hc k hlt
        have hbr := (oneO_iff.1 (vO_one HV.out hlt)).2.2.1
        have HS := Lib.hid (cuK_succ hlt)
        obtain ⟨o, ho⟩ : ∃ o, gd es k = o := ⟨_, rfl⟩
        have HG := Lib.hid ho
        rw [ho] at p1 p2 HS hbr
        rw [HK.out] at HS
        clear hc p0 p3 p4 ho
        obtain ⟨x, hx⟩ : ∃ x, o.cu = x := ⟨_, rfl⟩
        obtain ⟨br, hbb⟩ : ∃ br, o.br = br := ⟨_, rfl⟩
        have HX := Lib.hid hx
        have HBR := Lib.hid hbb
        rw [hx] at p1
        rw [hbb] at p2 hbr
        clear hx hbb
        have HU := Lib.hid HCS.out.hu.rd
        go_wp2_with fail
        obtain ⟨wo, hwo⟩ : ∃ wo : World, wo = wr := ⟨_, rfl⟩
        subst hwo
        go_loopw [8, 9] (fun a i wx => ∃ (j q : Nat) (t : Int), j ≤ l.length ∧ i = .int .i64 j ∧ a = .int .i64 t ∧ Hid (atK l x j = t) ∧ wx = wo.drewN q) (fun _ i _ => l.length - (intOf i).toNat)
        case atStart => exact ⟨0, 0, -1, Nat.zero_le _, rfl, rfl, Lib.hid rfl, rfl⟩
        case round =>
          obtain ⟨j, q, t, hj, rfl, rfl, HT, rfl⟩ := hrel
          have g1 : (0 : Int) ≤ j := by omega
          by_cases hjl : j < l.length
          · have g2 : (j : Int) < l.length := by omega
            obtain ⟨bd, rfl, _, hd⟩ := HU.out.at hjl
            replace hd := hd j hjl
            by_cases hq : gd l j = x
            · have HT2 := Lib.hid (atK_yes HND.out hjl hq)
              rw [hq] at hd
              clear hq
              go_wp2_with fail
              go_quiet (fail)
              go_wp2_with fail
              go_roundw
              case rel => exact ⟨j + 1, _, j, by omega, by go_num, rfl, HT2.out, rfl⟩
              case measure => simp [intOf]; omega
            · have hst := str_ne hq
              have HT2 : Hid (atK l x (j + 1) = t) := Lib.hid (by rw [atK_no hjl hq, HT.out])
              clear hq
              go_wp2_with fail
              go_quiet (fail)
              go_wp2_with fail
              go_roundw
              case rel => exact ⟨j + 1, _, t, by omega, by go_num, rfl, HT2.out, rfl⟩
              case measure => simp [intOf]; omega
          · obtain rfl : j = l.length := by omega
            have HCS2 := Lib.hid (cs_ext HCS.out (ext_drewN (ext_refl wo) q))
            have HB2 := Lib.hid (ext_drewN HB.out q)
            replace p1 := cell_keep p1 (ext_drewN (ext_refl wo) q)
            replace p2 := cell_keep p2 (ext_drewN (ext_refl wo) q)
            clear HCS HB HU
            generalize wo.drewN q = wx at *
            by_cases hpz : posS l x < l.length
            · have ht : t = (posS l x : Int) := by rw [← HT.out]; unfold atK; rw [if_pos hpz]
              have HS2 : Hid (cuK es (k + 1) = (l, m.set (posS l x) (m.getD (posS l x) 0 + br))) := Lib.hid (by rw [HS.out]; unfold cuStep; rw [HX.out, HBR.out]; simp only []; rw [if_pos hpz])
              obtain ⟨z, hz⟩ : ∃ z, posS l x = z := ⟨_, rfl⟩
              rw [hz] at ht HS2 hpz
              subst ht
              have hzm : z < m.length := by have := hlm.out; omega
              clear hz
              obtain ⟨g, rfl, _⟩ := oi_open HCS2.out.hs (show 0 < m.length by omega)
              obtain ⟨s1, s2⟩ := oi_cell HCS2.out.hs hzm
              have hold : 0 ≤ m.getD z 0 ∧ m.getD z 0 ≤ 1000000 * (k : Int) := by
                have := HBD.out _ (List.getElem_mem (show z < (l, m).2.length from hzm))
                rw [← List.getElem_eq_getD (h := hzm)]; exact this
              obtain ⟨old, hol⟩ : ∃ old, m.getD z 0 = old := ⟨_, rfl⟩
              rw [hol] at s1 HS2 hold
              clear hol
              have f1 : (0 : Int) ≤ z := by omega
              have f2 : (z : Int) < m.length := by omega
              go_wp2_with fail
              go_region
              all_goals go_wp2_with fail
              all_goals go_roundw
              case rel => exact ⟨k + 1, l, m.set z (old + br), B, some ⟨g, 0, none⟩, cp, dp, by omega, by go_num, rfl, by rw [List.length_set], HS2.out, Lib.hid (by rw [List.length_set]; exact cs_store HCS2.out hzm (ext_drew (ext_refl _))), Lib.hid (ext_drew (Chg.ext HB2.out (Chg.setCell (S := fun b => b = g) wx (p := ⟨g, z, none⟩) rfl _) (fun j hj => (HCS2.out.hs.ge j (by rw [hj]; rfl)).1)))⟩
              case measure => simp [intOf]; omega
            · have ht : t = -1 := by rw [← HT.out]; unfold atK; rw [if_neg hpz]
              have HS2 : Hid (cuK es (k + 1) = (l ++ [x], m ++ [br])) := Lib.hid (by rw [HS.out]; unfold cuStep; rw [HX.out, HBR.out]; simp only []; rw [if_neg hpz])
              subst ht
              clear hpz
              have hszb := HB2.out.size
              go_wp2_with (at_builtin; first
                | (refine wpList_append_str2 rfl _ _ rfl w.heap.size (.slice B l.length cp) l x rfl rfl HCS2.out.hu (by omega) hszb ?_; intro g4 c4 w4 hO4 hg4 hlt4 ha4; (have HO4 := Lib.hid hO4); (have HG4 := Lib.hid hg4); (have HA4 := Lib.hid ha4); (have HM4 := Lib.hid (cs_mid HCS2.out hg4)); (have hsz4 : w.heap.size ≤ w4.heap.size := by omega); clear hO4 hg4 ha4)
                | (refine wpList_append_i2 rfl _ _ rfl w.heap.size (.slice D m.length dp) m 0 rfl rfl HM4.out (by omega) hsz4 ?_; intro g5 c5 w5 hO5 hg5 hlt5 ha5; (have HO5 := Lib.hid hO5); (have HG5 := Lib.hid hg5); (have HA5 := Lib.hid ha5); clear hO5 hg5 ha5))
              have HCS5 := Lib.hid (cs_push HCS2.out HO4.out HA4.out HO5.out HG5.out HA5.out)
              have HB4 := Lib.hid (Chg.ext HB2.out HG4.out (fun j hj => (HCS2.out.hu.ge j hj).1))
              have HB5 := Lib.hid (Chg.ext HB4.out HG5.out (fun j hj => (HM4.out.ge j hj).1))
              have p5 := (let ⟨ad2, h2, _, hc2⟩ := (HR.out.ext HB5.out).at hlt; Option.some.inj h2 ▸ (hc2 k hlt).2.2.1 : w5.cell? ⟨(ad.add (k * 5)).block, (ad.add (k * 5)).off + 2, none⟩ = some (.int .i64 (gd es k).br))
              rw [HG.out, HBR.out] at p5
              have hl1 : l.length < (m ++ [0]).length := by have := hlm.out; rw [List.length_append]; simp; omega
              obtain ⟨s1, s2⟩ := oi_cell HO5.out hl1
              have hz0 : (m ++ [(0 : Int)]).getD l.length 0 = 0 := by rw [hlm.out]; simp
              rw [hz0] at s1
              clear hz0
              have hl2 : l.length < m.length + 1 := by have := hlm.out; omega
              clear hl1
              go_wp2_with fail
              go_region
              all_goals go_wp2_with fail
              all_goals go_roundw
              case rel => exact ⟨k + 1, l ++ [x], m ++ [br], some ⟨g4, 0, none⟩, some ⟨g5, 0, none⟩, c4, c5, by omega, by go_num, by rw [List.length_append]; rfl, by rw [List.length_append]; rfl, HS2.out, Lib.hid (by rw [List.length_append, List.length_append, ← set_last m l.length hlm.out br]; exact cs_store HCS5.out (by have := hlm.out; show l.length < (m ++ [(0 : Int)]).length; rw [List.length_append]; simp; omega) (ext_drew (ext_refl _))), Lib.hid (ext_drew (Chg.ext HB5.out (Chg.setCell (S := fun b => b = g5) w5 (p := ⟨g5, l.length, none⟩) rfl _) (fun j hj => (HCS5.out.hs.ge j (by rw [hj]; rfl)).1)))⟩
              case measure => simp [intOf]; omega
      · obtain rfl : k = es.length := by omega
        go_wp2_with fail
        refine bodyPost_ret (v := .tuple #[.slice B l.length cp, .slice D m.length dp, .int .i64 0]) (by simp [results, Tryz.results16, go_sem]) rfl ?_
        rw [HF.out, HK.out]
        exact ⟨_, _, rfl, HCS.out.hu, (show l.length ≤ 1048576 by omega), HCS.out.hs, (show m.length ≤ 1048576 by omega), HCS.out.ap, HB.out⟩
end Go.Proofs.YtbggggaoljpfnaaGreatDoor
