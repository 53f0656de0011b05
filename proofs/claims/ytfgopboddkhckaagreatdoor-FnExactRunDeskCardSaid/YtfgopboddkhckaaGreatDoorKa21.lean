/-
  Parts of the proof: BytX, WlPX, FmtX, Fmt3X, PrPX, Fmt2X, Lay1X, VDkX.
-/
import Derived.Test.YtfgopboddkhckaaGreatDoorKa1
import Derived.Test.YtfgopboddkhckaaGreatDoorKa3
import Derived.Test.YtfgopboddkhckaaGreatDoorKa4
import Derived.Test.YtfgopboddkhckaaGreatDoorKa5
import Derived.Test.YtfgopboddkhckaaGreatDoorKa7
import Derived.Test.YtfgopboddkhckaaGreatDoorKa8
import Derived.Test.YtfgopboddkhckaaGreatDoorKa12
import Derived.Lib.AppendStr
import Derived.Laws.IdiomStrings
import Derived.Laws.BytesArg
import Derived.LoopN
import Derived.BigQuiet
import Derived.Lib.QuietBelow
namespace Go.Proofs.YtfgopboddkhckaaGreatDoor
open Go.ChangeShapes Go.WideShapes Go.ChangeAt Go.RowKit Go.Sort Go.Lib
set_option maxRecDepth 8000
set_option linter.unusedVariables false

/-- 'append(out, b)': the byte lies in a block of its own. -/
theorem wpList_append_by {w0 : World} {ops : Array Oper} {rest : List Oper} {o : Oper} {a : Act} {Q : Exit → Act → World → Prop} (hgd : o.guard = none) (s x : Operand)
    (ho : o.op = .call { callee := .builtin .append, args := #[s, x], argTypes := #[47, 47] })
    (base : Nat) (v : Value) (xs : List UInt8) (n : Int) (b : UInt8) (hn : (b.toNat : Int) = n) (hs : a.eval s = v) (hx : a.eval x = .slice (some ⟨w0.heap.size, 0, none⟩) 1 1) (hO : OB w0 base v xs)
    (hl : xs.length ≤ 1099511627776) (hbase : base ≤ w0.heap.size)
    (h : ∀ A c w', OB w' base (.slice A (xs.length + 1) c) (xs ++ [b]) → Chg (BY v) w0 w' → w0.heap.size < w'.heap.size → wpList Tryz.prog ops Q rest (a.put o.dst (.slice A (xs.length + 1) c)) w') :
    wpList Tryz.prog ops Q (o :: rest) a (w0.alloc (.cells #[.int .u8 n] 5)) := by
  obtain ⟨i0, hi, hz0, hz1, hz2⟩ := info_parts info_u8
  subst hn
  refine wpList_append_lies _ hgd s x _ ho base 5 i0 (.int .u8 0) 1 1 Tryz.underlying47 hi hz0 hz1 hz2 rfl (by omega) v xs.length _ hs (World.ownsRow.alloc hO _)
    ⟨w0.heap.size, 0, none⟩ 1 1 [.int .u8 (b.toNat : Int)] hx rfl (cell_one_new _ _ _) (by simp [Value.oneCell']) (by omega) (by unfold maxLen; omega) (by omega) (by simp; omega) (w0.heap.size + 1) (by simp) ?_
  intro g cap w1 hown hgrow hat hlt
  refine h (some ⟨g, 0, none⟩) cap w1 ?_ ((Chg.of_below (ext_alloc1 _ _) _).trans (Chg.of_grown hgrow)) (by have := hgrow.size; simp at this; omega)
  unfold OB
  simpa using hown

theorem strCells_eq (s : ByteArray) : strCells s = s.data.toList.map fun b => Value.int .u8 (b.toNat : Int) := by
  first | rfl | simp [strCells]
/-- 'append(out, text...)'. -/
theorem wpList_append_bs {w : World} {ops : Array Oper} {rest : List Oper} {o : Oper} {a : Act} {Q : Exit → Act → World → Prop} (hgd : o.guard = none) (s x : Operand)
    (ho : o.op = .call { callee := .builtin .append, args := #[s, x], argTypes := #[47, 9] })
    (base : Nat) (v : Value) (xs : List UInt8) (t : ByteArray) (hs : a.eval s = v) (hx : a.eval x = .string t) (hO : OB w base v xs)
    (hl : xs.length ≤ 1099511627776) (hl2 : t.size ≤ 1099511627776) (hbase : base ≤ w.heap.size)
    (h : ∀ A c w', OB w' base (.slice A (xs.length + t.size) c) (xs ++ t.data.toList) → Chg (BY v) w w' → wpList Tryz.prog ops Q rest (a.put o.dst (.slice A (xs.length + t.size) c)) w') : wpList Tryz.prog ops Q (o :: rest) a w := by
  obtain ⟨i0, hi, hz0, hz1, hz2⟩ := info_parts info_u8
  refine Lib.wpList_append_own_string w hgd s x _ _ ho base 5 i0 Tryz.underlying47 Tryz.underlying9 hi hz0 hz1 hz2 v xs.length _ hs hO t hx (by unfold maxLen; omega) (by omega) hbase ?_
  intro v' w' hown hgrow _
  have hO' : OB w' base v' (xs ++ t.data.toList) := by
    unfold OB
    rw [strCells_eq] at hown
    simpa using hown
  have hO2 := hO'
  obtain ⟨_, A', c', rfl, _⟩ := hO2.rd
  have e : (xs ++ t.data.toList).length = xs.length + t.size := by rw [List.length_append, Array.length_toList]; rfl
  rw [e] at hO' ⊢
  exact h A' c' w' hO' (Chg.of_grown hgrow)

end Go.Proofs.YtfgopboddkhckaaGreatDoor
namespace Go.Proofs.YtfgopboddkhckaaGreatDoor
open Go.ChangeShapes Go.WideShapes Go.ChangeAt Go.RowKit Go.Sort Go.Joins
set_option linter.unusedVariables false

/-! ### Searches in lists -/
/-! ### Perpends and clashes -/
/-! ### Runs -/
theorem jnL_snoc (b : UInt8) : ∀ (l : List (List UInt8)) (x : List UInt8), l ≠ [] → jnL b (l ++ [x]) = jnL b l ++ b :: x
  | [], _, h => absurd rfl h
  | [a], x, _ => by
    show jnL b (a :: [x]) = a ++ b :: x
    rw [jnL_cons _ _ (by simp)]
    rfl
  | a :: m :: t, x, _ => by
    have ih := jnL_snoc b (m :: t) x (by simp)
    rw [List.cons_append, jnL_cons b a (t := m :: t ++ [x]) (by simp), ih, jnL_cons b a (t := m :: t) (by simp)]
    simp

/-! ### Counts -/
end Go.Proofs.YtfgopboddkhckaaGreatDoor
namespace Go.Proofs.YtfgopboddkhckaaGreatDoor
open Go.ChangeShapes Go.WideShapes Go.ChangeAt Go.RowKit Go.Sort Go.Joins
set_option linter.unusedVariables false
set_option maxRecDepth 100000

set_option maxHeartbeats 800000 in
theorem spec_fmC (f : FM) (n lo hi : Int) (w : World) :
    Calls Tryz.prog 183 #[.agg #[.int .i64 f.l, .int .i64 f.w, .int .i64 f.h, .int .i64 f.j], .int .i64 n, .int .i64 lo, .int .i64 hi] w (Ret (.int .i64 (fmC f n lo hi)) w) := by
  have HV : Hid (fmC f n lo hi = if vF f then (if inB n lo hi then 0 else 2) else 1) := Lib.hid rfl
  have HF := Lib.hid (fun w => spec_okF f w)
  obtain ⟨x, hx⟩ : ∃ x, vF f = x := ⟨_, rfl⟩
  obtain ⟨y, hy⟩ : ∃ y, inB n lo hi = y := ⟨_, rfl⟩
  have HI := Lib.hid (fun w => RetP.bool (spec_in n lo hi w) hy)
  rw [hx, hy] at HV
  rw [hx] at HF
  clear hx hy
  go_enter Tryz.func183, Tryz.ntmps183
  go_wp2_with fail
  refine (show Calls _ _ _ _ _ from HF.out _).mono ?_
  rintro e w1 ⟨rfl, hb⟩
  have HB := Lib.hid (ext_trans (ext_alloc1 _ _) hb)
  clear hb
  cases x
  · go_wp2_with fail
    go_ret
    exact ⟨ret_int (by rw [HV.out]; rfl), HB.out⟩
  go_wp2_with fail
  refine (show Calls _ _ _ _ _ from HI.out _).mono ?_
  rintro e w2 ⟨rfl, rfl⟩
  cases y
  · go_wp2_with fail
    go_ret
    exact ⟨ret_int (by rw [HV.out]; rfl), HB.out⟩
  go_wp2_with fail
  go_ret
  exact ⟨ret_int (by rw [HV.out]; rfl), HB.out⟩
set_option maxHeartbeats 800000 in
theorem spec_HeightOf (f : FM) (n : Int) (w : World) :
    Calls Tryz.prog 124 #[.agg #[.int .i64 f.l, .int .i64 f.w, .int .i64 f.h, .int .i64 f.j], .int .i64 n] w (Ret (.tuple #[.int .i64 (mHeight f n).1, .int .i64 (mHeight f n).2]) w) := by
  have HM : Hid (mHeight f n = if fmC f n 1 200 = 0 then (n * (f.h + f.j) - f.j, 0) else (0, fmC f n 1 200)) := Lib.hid rfl
  have HC := Lib.hid (fun w => spec_fmC f n 1 200 w)
  obtain ⟨z, hz⟩ : ∃ z, fmC f n 1 200 = z := ⟨_, rfl⟩
  by_cases hz0 : z = 0
  · rw [hz0] at hz
    obtain ⟨h1, h2, h3⟩ := fmC_ok hz
    obtain ⟨_, _, _, _, b1, b2, b3, b4, _⟩ := vF_bd h1
    rw [hz, if_pos rfl] at HM
    rw [hz] at HC
    clear hz hz0 h1
    obtain ⟨a, hw, h, j⟩ := f
    dsimp only at *
    have hp : 0 ≤ n * (h + j) ∧ n * (h + j) ≤ 34000 := by
      have k1 : 0 ≤ n * (h + j) := Int.mul_nonneg (by omega) (by omega)
      have k2 : n * (h + j) ≤ 200 * 170 := Int.mul_le_mul (by omega) (by omega) (by omega) (by omega)
      omega
    go_enter Tryz.func124, Tryz.ntmps124
    go_wp2_with fail
    refine (show Calls _ _ _ _ _ from HC.out _).mono ?_
    rintro e w1 ⟨rfl, hb⟩
    have k2 := cell_keep (p := ⟨w.heap.size, 2, none⟩) (v := .int .i64 h) (by simp [go_sem]) hb
    have k3 := cell_keep (p := ⟨w.heap.size, 3, none⟩) (v := .int .i64 j) (by simp [go_sem]) hb
    have HB := Lib.hid (ext_trans (ext_alloc1 _ _) hb)
    clear hb
    go_wp2_with fail
    go_ret2
    exact ⟨by rw [HM.out]; rfl, HB.out⟩
  · rw [hz, if_neg hz0] at HM
    rw [hz] at HC
    have e1 : (z == 0) = false := beq_eq_false_iff_ne.2 hz0
    have e2 : (z != 0) = true := bne_iff_ne.2 hz0
    clear hz
    go_enter Tryz.func124, Tryz.ntmps124
    go_wp2_with fail
    refine (show Calls _ _ _ _ _ from HC.out _).mono ?_
    rintro e w1 ⟨rfl, hb⟩
    have HB := Lib.hid (ext_trans (ext_alloc1 _ _) hb)
    clear hb
    go_wp2_with fail
    go_ret2
    exact ⟨by rw [HM.out]; rfl, HB.out⟩
end Go.Proofs.YtfgopboddkhckaaGreatDoor
namespace Go.Proofs.YtfgopboddkhckaaGreatDoor
open Go.ChangeShapes Go.WideShapes Go.ChangeAt Go.RowKit Go.Sort Go.Joins
set_option linter.unusedVariables false
set_option maxRecDepth 100000

set_option maxHeartbeats 3200000 in
theorem spec_fmT (f : FM) (hv : vF f = true) (w : World) :
    Calls Tryz.prog 123 #[.agg #[.int .i64 f.l, .int .i64 f.w, .int .i64 f.h, .int .i64 f.j]] w (Ret (.string (fmT f)) w) := by
  obtain ⟨b1, b2, b3, b4, b5, b6, b7, b8, _⟩ := vF_bd hv
  have hz1 := itb_size f.l (by omega) (by omega)
  have hz2 := itb_size f.w (by omega) (by omega)
  have hz3 := itb_size f.h (by omega) (by omega)
  have hz4 := itb_size f.j (by omega) (by omega)
  have HT : Hid (fmT f = itb f.l ++ ⟨#[120]⟩ ++ itb f.w ++ ⟨#[120]⟩ ++ itb f.h ++ ⟨#[43]⟩ ++ itb f.j) := Lib.hid rfl
  have HD : Hid (∀ n w, (n = f.l ∨ n = f.w ∨ n = f.h ∨ n = f.j) → Calls Tryz.prog 114 #[.int .i64 n] w (Ret (.string (itb n)) w)) := Lib.hid fun n w hn => spec_Dec n (by rcases hn with rfl | rfl | rfl | rfl <;> omega) (by rcases hn with rfl | rfl | rfl | rfl <;> omega) w
  have c1 : ¬ 9223372036854775807 < (itb f.l).size + 1 := by omega
  have c2 : ¬ 9223372036854775807 < (itb f.l).size + 1 + (itb f.w).size := by omega
  have c3 : ¬ 9223372036854775807 < (itb f.l).size + 1 + (itb f.w).size + 1 := by omega
  have c4 : ¬ 9223372036854775807 < (itb f.l).size + 1 + (itb f.w).size + 1 + (itb f.h).size := by omega
  have c5 : ¬ 9223372036854775807 < (itb f.l).size + 1 + (itb f.w).size + 1 + (itb f.h).size + 1 := by omega
  have c6 : ¬ 9223372036854775807 < (itb f.l).size + 1 + (itb f.w).size + 1 + (itb f.h).size + 1 + (itb f.j).size := by omega
  have g0 : ∀ d os, (grow (redrawn (w.alloc (.cells #[.int .i64 f.l, .int .i64 f.w, .int .i64 f.h, .int .i64 f.j] 33)) d) os).cell? ⟨w.heap.size, 0, none⟩ = some (.int .i64 f.l) := fun d os => cell_regrown (by simp [go_sem]) d os
  have g1 : ∀ d os, (grow (redrawn (w.alloc (.cells #[.int .i64 f.l, .int .i64 f.w, .int .i64 f.h, .int .i64 f.j] 33)) d) os).cell? ⟨w.heap.size, 1, none⟩ = some (.int .i64 f.w) := fun d os => cell_regrown (by simp [go_sem]) d os
  have g2 : ∀ d os, (grow (redrawn (w.alloc (.cells #[.int .i64 f.l, .int .i64 f.w, .int .i64 f.h, .int .i64 f.j] 33)) d) os).cell? ⟨w.heap.size, 2, none⟩ = some (.int .i64 f.h) := fun d os => cell_regrown (by simp [go_sem]) d os
  have g3 : ∀ d os, (grow (redrawn (w.alloc (.cells #[.int .i64 f.l, .int .i64 f.w, .int .i64 f.h, .int .i64 f.j] 33)) d) os).cell? ⟨w.heap.size, 3, none⟩ = some (.int .i64 f.j) := fun d os => cell_regrown (by simp [go_sem]) d os
  clear hv hz1 hz2 hz3 hz4 b1 b2 b3 b4 b5 b6 b7 b8
  go_enter Tryz.func123, Tryz.ntmps123
  go_wp2_with fail
  refine wp_region_quiet_below (by kernel_rfl) (by kernel_rfl) ?_
  repeat (go_big_quiet_step ((go_at_call 114; exact regrown_r (HD.out _ _ (by simp)))))
  refine wpQuiet_nil ?_
  intro w' hw'
  obtain ⟨q, rfl⟩ := hw'
  go_wp2_with fail
  go_ret
  exact ⟨by rw [HT.out]; rfl, ext_trans (ext_alloc1 _ _) (below_regrown _ q.d q.os)⟩
end Go.Proofs.YtfgopboddkhckaaGreatDoor
namespace Go.Proofs.YtfgopboddkhckaaGreatDoor
set_option linter.unusedVariables false

theorem tlt_cons (a : UInt8) (x y : List UInt8) : tlt (a :: x) (a :: y) = tlt x y := by simp [tlt]
theorem plt_irrefl (x : PV) : ¬ plt x x := by
  unfold plt
  rw [tlt_irrefl, tlt_irrefl]
  simp
theorem Least.uniq {S : PV → Prop} {r s : Option PV} (h : Least S r) (k : Least S s) : r = s := by
  cases r with
  | none => cases s with
    | none => rfl
    | some v => exact absurd k.1 (h v)
  | some u => cases s with
    | none => exact absurd h.1 (k u)
    | some v => rw [plt_tri (k.2 u h.1) (h.2 v k.1)]
theorem preLo_lt (q : Nat) (x y : PV) (h : plt (preLo q x) (preLo q y)) : plt x y := by
  unfold plt preLo at *
  simp only [tlt_cons, List.cons.injEq, true_and] at h
  rcases h with h | ⟨h1, h | ⟨h2, h⟩⟩
  · left; omega
  · right; exact ⟨by omega, .inl (by omega)⟩
  · right; exact ⟨by omega, .inr ⟨by omega, h⟩⟩
theorem preHi_lt (q : Nat) (x y : PV) (h : plt (preHi q x) (preHi q y)) : plt x y := by
  unfold plt preHi at *
  simp only [tlt_cons] at h
  rcases h with h | ⟨h1, h | ⟨h2, h⟩⟩
  · left; omega
  · right; exact ⟨by omega, .inl (by omega)⟩
  · right; exact ⟨by omega, .inr ⟨by omega, h⟩⟩

/-- Where the pieces x end, from a on. -/
def ends : Nat → List Nat → List Nat
  | _, [] => []
  | a, q :: x => (a + q) :: ends (a + q) x
def good (x : List Nat) : Prop := ∀ q ∈ x, 1 ≤ q ∧ q ≤ 4
theorem good_cons {q : Nat} {x : List Nat} : good (q :: x) ↔ (1 ≤ q ∧ q ≤ 4) ∧ good x := by simp [good]
theorem ends_gt : ∀ {a : Nat} {x : List Nat}, good x → ∀ e ∈ ends a x, a < e
  | _, [], _, e, h => by simp [ends] at h
  | a, q :: x, hg, e, h => by
    have h1 := (good_cons.1 hg).1
    rcases List.mem_cons.1 h with rfl | h
    · omega
    · have := ends_gt (good_cons.1 hg).2 e h
      omega
theorem val_lo (q : Nat) (x y : List Nat) : val (q :: x) y = preLo q (val x y) := by
  unfold val preLo cutsL txt
  simp only [List.map_cons, List.sum_cons, List.length_cons, PV.mk.injEq, and_true]
  omega
theorem val_hi (q : Nat) (x y : List Nat) : val x (q :: y) = preHi q (val x y) := by
  unfold val preHi cutsL txt
  simp only [List.map_cons, List.sum_cons, List.length_cons, PV.mk.injEq, and_true]
  omega
/-- x and y are rests of courses from a and b on that end at L and do not clash. -/
structure Ok (L P a b : Nat) (x y : List Nat) : Prop where
  gx : good x
  gy : good y
  sx : a + x.sum = L
  sy : b + y.sum = L
  fr : ∀ e ∈ a :: ends a x, ∀ f ∈ b :: ends b y, far L P e f
def SV (L P a b : Nat) (v : PV) : Prop := ∃ x y, Ok L P a b x y ∧ v = val x y

theorem Ok.end_ {L P : Nat} {x y : List Nat} : Ok L P L L x y ↔ x = [] ∧ y = [] := by
  have nil : ∀ {x : List Nat}, good x → L + x.sum = L → x = [] := fun {x} hg hs => by
    cases x with
    | nil => rfl
    | cons q x => have := (good_cons.1 hg).1; simp at hs; omega
  constructor
  · intro h; exact ⟨nil h.gx h.sx, nil h.gy h.sy⟩
  · rintro ⟨rfl, rfl⟩
    refine ⟨by simp [good], by simp [good], by simp, by simp, fun e he f hf => ?_⟩
    simp [ends] at he hf
    subst he hf
    exact .inr (.inr (.inl (Nat.le_refl _)))
theorem least_end (L P : Nat) : Least (SV L P L L) (some PV.zero) := by
  refine ⟨⟨[], [], Ok.end_.2 ⟨rfl, rfl⟩, rfl⟩, ?_⟩
  rintro v ⟨x, y, h, rfl⟩
  obtain ⟨rfl, rfl⟩ := Ok.end_.1 h
  exact plt_irrefl _

/-- One piece more of the course that has got less far. -/
theorem ok_lo {L P a b : Nat} (hP : 1 ≤ P) (hab : a ≤ b) (ha : a < L) (hf : far L P a b) {x y : List Nat} :
    Ok L P a b x y ↔ ∃ q x', (1 ≤ q ∧ q ≤ 4) ∧ a + q ≤ L ∧ far L P (a + q) b ∧ x = q :: x' ∧ Ok L P (a + q) b x' y := by
  constructor
  · intro h
    cases x with
    | nil => have := h.sx; simp at this; omega
    | cons q x' =>
      have hg := good_cons.1 h.gx
      have hs := h.sx
      simp only [List.sum_cons] at hs
      refine ⟨q, x', hg.1, by omega, h.fr _ (by simp [ends]) _ (by simp), rfl, ⟨hg.2, h.gy, by omega, h.sy, fun e he f hf => h.fr e ?_ f hf⟩⟩
      rw [ends]
      exact List.mem_cons_of_mem _ he
  · rintro ⟨q, x', hq, hl, hff, rfl, h⟩
    refine ⟨good_cons.2 ⟨hq, h.gx⟩, h.gy, by have := h.sx; simp only [List.sum_cons]; omega, h.sy, fun e he f hf2 => ?_⟩
    rw [ends] at he
    rcases List.mem_cons.1 he with rfl | he
    · rcases List.mem_cons.1 hf2 with rfl | hf2
      · exact hf
      · have h1 := ends_gt h.gy f hf2
        unfold far at *
        omega
    · exact h.fr e he f hf2
theorem far_comm {L P e f : Nat} : far L P e f ↔ far L P f e := by unfold far; omega
theorem Ok.swap {L P a b : Nat} {x y : List Nat} (h : Ok L P a b x y) : Ok L P b a y x := ⟨h.gy, h.gx, h.sy, h.sx, fun e he f hf => far_comm.1 (h.fr f hf e he)⟩
theorem ok_hi {L P a b : Nat} (hP : 1 ≤ P) (hab : b < a) (hb : b < L) (hf : far L P a b) {x y : List Nat} :
    Ok L P a b x y ↔ ∃ q y', (1 ≤ q ∧ q ≤ 4) ∧ b + q ≤ L ∧ far L P (b + q) a ∧ y = q :: y' ∧ Ok L P a (b + q) x y' := by
  constructor
  · intro h
    obtain ⟨q, y', h1, h2, h3, h4, h5⟩ := (ok_lo hP (by omega) hb (far_comm.1 hf)).1 h.swap
    exact ⟨q, y', h1, h2, h3, h4, h5.swap⟩
  · rintro ⟨q, y', h1, h2, h3, h4, h5⟩
    exact ((ok_lo hP (by omega) hb (far_comm.1 hf)).2 ⟨q, y', h1, h2, h3, h4, h5.swap⟩).swap

/-- What the reference finds from two places on (n: more than the quarters that are left). -/
def sB (L P : Nat) : Nat → Nat → Nat → Option PV
  | 0, _, _ => none
  | n + 1, a, b =>
    if a = L ∧ b = L then some PV.zero
    else if a ≤ b then
      [4, 2, 3, 1].foldl (fun acc q => pick acc (if a + q ≤ L ∧ far L P (a + q) b then (sB L P n (a + q) b).map (preLo q) else none)) none
    else
      [4, 2, 3, 1].foldl (fun acc q => pick acc (if b + q ≤ L ∧ far L P (b + q) a then (sB L P n a (b + q)).map (preHi q) else none)) none
theorem least_if {S : PV → Prop} {r : Option PV} {c : Prop} [Decidable c] (h : c → Least S r) : Least (fun v => c ∧ S v) (if c then r else none) := by
  by_cases hc : c
  · rw [if_pos hc]; exact (h hc).congr fun v => ⟨fun q => ⟨hc, q⟩, fun q => q.2⟩
  · rw [if_neg hc]; exact fun x q => hc q.1
theorem least_fold4 {S : Nat → PV → Prop} {r : Nat → Option PV} (h : ∀ q, 1 ≤ q → q ≤ 4 → Least (S q) (r q)) : Least (fun v => ∃ q, (1 ≤ q ∧ q ≤ 4) ∧ S q v) ([4, 2, 3, 1].foldl (fun acc q => pick acc (r q)) none) := by
  show Least _ (pick (pick (pick (pick none (r 4)) (r 2)) (r 3)) (r 1))
  refine ((((Least.none'.pick (h 4 (by omega) (by omega))).pick (h 2 (by omega) (by omega))).pick (h 3 (by omega) (by omega))).pick (h 1 (by omega) (by omega))).congr fun v => ?_
  constructor
  · rintro ((((h | h) | h) | h) | h)
    · exact h.elim
    · exact ⟨4, by omega, h⟩
    · exact ⟨2, by omega, h⟩
    · exact ⟨3, by omega, h⟩
    · exact ⟨1, by omega, h⟩
  · rintro ⟨q, hq, h⟩
    rcases (show q = 4 ∨ q = 2 ∨ q = 3 ∨ q = 1 by omega) with rfl | rfl | rfl | rfl
    · exact .inl (.inl (.inl (.inr h)))
    · exact .inl (.inl (.inr h))
    · exact .inl (.inr h)
    · exact .inr h
theorem least_sB {L P : Nat} (hP : 1 ≤ P) : ∀ (n a b : Nat), a ≤ L → b ≤ L → (L - a) + (L - b) < n → far L P a b → Least (SV L P a b) (sB L P n a b)
  | 0, _, _, _, _, h, _ => by omega
  | n + 1, a, b, ha, hb, hn, hf => by
    unfold sB
    by_cases he : a = L ∧ b = L
    · rw [if_pos he]
      obtain ⟨rfl, rfl⟩ := he
      exact least_end _ _
    · rw [if_neg he]
      by_cases hab : a ≤ b
      · rw [if_pos hab]
        refine (least_fold4 (S := fun q v => (a + q ≤ L ∧ far L P (a + q) b) ∧ ∃ u, SV L P (a + q) b u ∧ v = preLo q u) fun q h1 h4 => least_if fun hc => (least_sB hP n (a + q) b hc.1 hb (by omega) hc.2).map _ (preLo_lt q)).congr fun v => ?_
        constructor
        · rintro ⟨q, hq, ⟨h1, h2⟩, u, ⟨x, y, hok, rfl⟩, rfl⟩
          exact ⟨q :: x, y, (ok_lo hP hab (by omega) hf).2 ⟨q, x, hq, h1, h2, rfl, hok⟩, (val_lo q x y).symm⟩
        · rintro ⟨x, y, hok, rfl⟩
          obtain ⟨q, x', hq, h1, h2, rfl, h3⟩ := (ok_lo hP hab (by omega) hf).1 hok
          exact ⟨q, hq, ⟨h1, h2⟩, _, ⟨x', y, h3, rfl⟩, val_lo q x' y⟩
      · rw [if_neg hab]
        refine (least_fold4 (S := fun q v => (b + q ≤ L ∧ far L P (b + q) a) ∧ ∃ u, SV L P a (b + q) u ∧ v = preHi q u) fun q h1 h4 => least_if fun hc => (least_sB hP n a (b + q) ha hc.1 (by omega) (far_comm.1 hc.2)).map _ (preHi_lt q)).congr fun v => ?_
        constructor
        · rintro ⟨q, hq, ⟨h1, h2⟩, u, ⟨x, y, hok, rfl⟩, rfl⟩
          exact ⟨x, q :: y, (ok_hi hP (by omega) (by omega) hf).2 ⟨q, y, hq, h1, h2, rfl, hok⟩, (val_hi q x y).symm⟩
        · rintro ⟨x, y, hok, rfl⟩
          obtain ⟨q, y', hq, h1, h2, rfl, h3⟩ := (ok_hi hP (by omega) (by omega) hf).1 hok
          exact ⟨q, hq, ⟨h1, h2⟩, _, ⟨x, y', h3, rfl⟩, val_hi q x y'⟩

/-- Ends behind a place. -/
def Ahead (t a : Nat) (x : List Nat) : Prop := ∀ e ∈ ends a x, t < e
def SI (L P t a b : Nat) (v : PV) : Prop := ∃ x y, (Ok L P a b x y ∧ Ahead t a x ∧ Ahead t b y) ∧ v = val x y
/-- x, its first piece ended (c) or not. -/
def addQ (c : Bool) (q : Nat) (x : List Nat) : List Nat := if c then q :: x else x
theorem ends_add {c : Bool} {q a : Nat} {x : List Nat} : ends a (addQ c q x) = if c then (a + q) :: ends (a + q) x else ends a x := by cases c <;> rfl

/-- What the first piece of a course does at the next quarter. -/
theorem split_at {L t a : Nat} {x : List Nat} (hg : good x) (hs : a + x.sum = L) (hat : a ≤ t) (ht : t < L) (hA : Ahead t a x) :
    ∃ c x', x = addQ c (t + 1 - a) x' ∧ good x' ∧ (if c then t + 1 else a) + x'.sum = L ∧ Ahead (t + 1) (if c then t + 1 else a) x' ∧ (c = false → t + 1 - a ≤ 3) ∧ (t + 1 = L → c = true) ∧ (c = true → t + 1 - a ≤ 4) := by
  cases x with
  | nil => simp at hs; omega
  | cons q x =>
    have hq := (good_cons.1 hg).1
    have h1 : t < a + q := hA _ (by simp [ends])
    simp only [List.sum_cons] at hs
    by_cases he : a + q = t + 1
    · refine ⟨true, x, ?_, (good_cons.1 hg).2, ?_, ?_, by simp, by simp, fun _ => by omega⟩
      · show q :: x = (t + 1 - a) :: x
        rw [show t + 1 - a = q from by omega]
      · show t + 1 + x.sum = L
        omega
      · show Ahead (t + 1) (t + 1) x
        exact fun e h => ends_gt (good_cons.1 hg).2 e h
    · refine ⟨false, q :: x, rfl, hg, ?_, ?_, fun _ => by omega, fun _ => by omega, by simp⟩
      · show a + (q :: x).sum = L
        simp only [List.sum_cons]; omega
      · show Ahead (t + 1) a (q :: x)
        intro e h
        rw [ends] at h
        rcases List.mem_cons.1 h with rfl | h
        · omega
        · have := ends_gt (good_cons.1 hg).2 e h
          omega
theorem ok_step {L P t a b : Nat} (hP : 1 ≤ P) (ha : a ≤ t) (hb : b ≤ t) (ha3 : t - a ≤ 3) (hb3 : t - b ≤ 3) (ht : t < L) (hf : far L P a b) {x y : List Nat} :
    (Ok L P a b x y ∧ Ahead t a x ∧ Ahead t b y) ↔ ∃ c d x' y', may L P t a b c d = true ∧ x = addQ c (t + 1 - a) x' ∧ y = addQ d (t + 1 - b) y' ∧
      (Ok L P (if c then t + 1 else a) (if d then t + 1 else b) x' y' ∧ Ahead (t + 1) (if c then t + 1 else a) x' ∧ Ahead (t + 1) (if d then t + 1 else b) y') := by
  constructor
  · rintro ⟨h, hA, hB⟩
    obtain ⟨c, x', rfl, gx, sx, aX, c1, c2, c3⟩ := split_at h.gx h.sx ha ht hA
    obtain ⟨d, y', rfl, gy, sy, aY, d1, d2, d3⟩ := split_at h.gy h.sy hb ht hB
    refine ⟨c, d, x', y', ?_, rfl, rfl, ⟨gx, gy, sx, sy, ?_⟩, aX, aY⟩
    · unfold may
      rw [if_neg (by
        intro hh
        simp only [Bool.or_eq_true, Bool.and_eq_true, Bool.not_eq_true', decide_eq_true_eq] at hh
        rcases hh with ⟨h1, h2⟩ | ⟨h1, h2⟩
        · have := c1 h1; omega
        · have := d1 h1; omega)]
      by_cases hL : t + 1 = L
      · rw [if_pos hL, c2 hL, d2 hL]; rfl
      · rw [if_neg hL]
        have hfr := h.fr
        rw [ends_add, ends_add] at hfr
        have k1 : c = true → a + (t + 1 - a) = t + 1 := fun _ => by omega
        have k2 : d = true → b + (t + 1 - b) = t + 1 := fun _ => by omega
        cases c <;> cases d
        · simp
        · have h1 := hfr a (by simp) (t + 1) (by simp [k2 rfl])
          unfold far at h1
          simp; omega
        · have h1 := hfr (t + 1) (by simp [k1 rfl]) b (by simp)
          unfold far at h1
          simp; omega
        · have h1 := hfr (t + 1) (by simp [k1 rfl]) (t + 1) (by simp [k2 rfl])
          unfold far at h1
          omega
    · intro e he f hff
      refine h.fr e ?_ f ?_
      · rw [ends_add]
        cases c
        · exact he
        · have : a + (t + 1 - a) = t + 1 := by omega
          simp only [if_true, this]
          exact List.mem_cons_of_mem _ he
      · rw [ends_add]
        cases d
        · exact hff
        · have : b + (t + 1 - b) = t + 1 := by omega
          simp only [if_true, this]
          exact List.mem_cons_of_mem _ hff
  · rintro ⟨c, d, x', y', hm, rfl, rfl, h, hA, hB⟩
    have e1 : a + (t + 1 - a) = t + 1 := by omega
    have e2 : b + (t + 1 - b) = t + 1 := by omega
    unfold may at hm
    by_cases hq : ((!c && decide (t + 1 - a > 3)) || (!d && decide (t + 1 - b > 3))) = true
    · rw [if_pos hq] at hm; cases hm
    rw [if_neg hq] at hm
    have gx : good (addQ c (t + 1 - a) x') := by
      cases c
      · exact h.gx
      · exact good_cons.2 ⟨by omega, h.gx⟩
    have gy : good (addQ d (t + 1 - b) y') := by
      cases d
      · exact h.gy
      · exact good_cons.2 ⟨by omega, h.gy⟩
    have aX : Ahead t a (addQ c (t + 1 - a) x') := by
      intro e he
      rw [ends_add] at he
      cases c
      · have := hA e he; omega
      · simp only [if_true, e1] at he
        rcases List.mem_cons.1 he with rfl | he
        · omega
        · have := hA e he; omega
    have aY : Ahead t b (addQ d (t + 1 - b) y') := by
      intro e he
      rw [ends_add] at he
      cases d
      · have := hB e he; omega
      · simp only [if_true, e2] at he
        rcases List.mem_cons.1 he with rfl | he
        · omega
        · have := hB e he; omega
    refine ⟨⟨gx, gy, ?_, ?_, ?_⟩, aX, aY⟩
    · have := h.sx
      cases c
      · exact this
      · show a + ((t + 1 - a) :: x').sum = L
        have : t + 1 + x'.sum = L := h.sx
        simp only [List.sum_cons]; omega
    · have := h.sy
      cases d
      · exact this
      · show b + ((t + 1 - b) :: y').sum = L
        have : t + 1 + y'.sum = L := h.sy
        simp only [List.sum_cons]; omega
    · intro e he f hff
      have hfr := h.fr
      cases c <;> cases d
      · exact hfr e he f hff
      · rw [ends_add] at hff
        simp only [if_true, e2] at hff
        rcases List.mem_cons.1 hff with rfl | hff
        · rcases List.mem_cons.1 he with rfl | he
          · exact hf
          · have h1 := aX e he
            have h2 := hfr e (List.mem_cons_of_mem _ he) (t + 1) (by simp)
            by_cases hL : t + 1 = L
            · rw [if_pos hL] at hm; simp at hm
            · unfold far at *; omega
        · exact hfr e he f hff
      · rw [ends_add] at he
        simp only [if_true, e1] at he
        rcases List.mem_cons.1 he with rfl | he
        · rcases List.mem_cons.1 hff with rfl | hff
          · exact hf
          · have h1 := aY f hff
            have h2 := hfr (t + 1) (by simp) f (List.mem_cons_of_mem _ hff)
            by_cases hL : t + 1 = L
            · rw [if_pos hL] at hm; simp at hm
            · unfold far at *; omega
        · exact hfr e he f hff
      · have hL : t + 1 = L := by
          by_cases hL : t + 1 = L
          · exact hL
          · rw [if_neg hL] at hm; simp at hm
        rcases List.mem_cons.1 he with rfl | he
        · rcases List.mem_cons.1 hff with rfl | hff
          · exact hf
          · have := aY f hff
            unfold far; omega
        · have := aX e he
          unfold far; omega
theorem val_pre (t a b : Nat) (c d : Bool) (x y : List Nat) : val (addQ c (t + 1 - a) x) (addQ d (t + 1 - b) y) = pre (t + 1) a b c d (val x y) := by
  cases c <;> cases d <;> simp only [addQ, pre, if_true, val_lo, val_hi] <;> first | rfl | (unfold preLo preHi; simp only [PV.mk.injEq, and_true, true_and]; omega)
theorem pre_lt (n a b : Nat) (c d : Bool) (x y : PV) (h : plt (pre n a b c d x) (pre n a b c d y)) : plt x y := by
  unfold pre at h
  cases c <;> cases d <;> simp only [if_true] at h
  · exact h
  · exact preHi_lt _ _ _ h
  · exact preLo_lt _ _ _ h
  · exact preLo_lt _ _ _ (preHi_lt _ _ _ h)
theorem least_fold22 {S : Bool → Bool → PV → Prop} {r : Bool → Bool → Option PV} (h : ∀ c d, Least (S c d) (r c d)) : Least (fun v => ∃ c d, S c d v) ([(false, false), (true, false), (false, true), (true, true)].foldl (fun acc (c : Bool × Bool) => pick acc (r c.1 c.2)) none) := by
  show Least _ (pick (pick (pick (pick none (r false false)) (r true false)) (r false true)) (r true true))
  refine ((((Least.none'.pick (h _ _)).pick (h _ _)).pick (h _ _)).pick (h _ _)).congr fun v => ?_
  constructor
  · rintro ((((h | h) | h) | h) | h)
    · exact h.elim
    all_goals exact ⟨_, _, h⟩
  · rintro ⟨c, d, h⟩
    cases c <;> cases d
    · exact .inl (.inl (.inl (.inr h)))
    · exact .inl (.inr h)
    · exact .inl (.inl (.inr h))
    · exact .inr h
theorem least_pB {L P : Nat} (hP : 1 ≤ P) : ∀ (n t a b : Nat), t + n = L → a ≤ t → b ≤ t → t - a ≤ 3 → t - b ≤ 3 → far L P a b → (n = 0 → a = L ∧ b = L) → Least (SI L P t a b) (pB L P n t a b)
  | 0, t, a, b, ht, ha, hb, _, _, _, h0 => by
    obtain ⟨ea, eb⟩ := h0 rfl
    refine Least.congr (S := SV L P a b) ?_ fun v => ?_
    · rw [ea, eb]; exact least_end L P
    · constructor
      · rintro ⟨x, y, h, rfl⟩
        have h' := h
        rw [ea, eb] at h'
        obtain ⟨rfl, rfl⟩ := Ok.end_.1 h'
        exact ⟨[], [], ⟨h, by simp [Ahead, ends], by simp [Ahead, ends]⟩, rfl⟩
      · rintro ⟨x, y, h, rfl⟩
        exact ⟨x, y, h.1, rfl⟩
  | n + 1, t, a, b, ht, ha, hb, ha3, hb3, hf, _ => by
    unfold pB
    refine (least_fold22 (S := fun c d v => may L P t a b c d = true ∧ ∃ u, SI L P (t + 1) (if c then t + 1 else a) (if d then t + 1 else b) u ∧ v = pre (t + 1) a b c d u) fun c d => least_if fun hm => (least_pB hP n (t + 1) _ _ (by omega) ?_ ?_ ?_ ?_ ?_ ?_).map _ (pre_lt _ _ _ c d)).congr fun v => ?_
    · cases c <;> simp <;> omega
    · cases d <;> simp <;> omega
    · unfold may at hm
      cases c
      · by_cases hq : t + 1 - a > 3
        · rw [if_pos (by simp [hq])] at hm; cases hm
        · simp only [Bool.false_eq_true, if_false]; omega
      · simp
    · unfold may at hm
      cases d
      · by_cases hq : t + 1 - b > 3
        · rw [if_pos (by simp [hq])] at hm; cases hm
        · simp only [Bool.false_eq_true, if_false]; omega
      · simp
    · unfold may at hm
      by_cases hq : ((!c && decide (t + 1 - a > 3)) || (!d && decide (t + 1 - b > 3))) = true
      · rw [if_pos hq] at hm; cases hm
      rw [if_neg hq] at hm
      by_cases hL : t + 1 = L
      · rw [if_pos hL] at hm
        cases c <;> cases d <;> simp at hm
        simp only [if_true]
        unfold far; omega
      · rw [if_neg hL] at hm
        cases c <;> cases d
        · exact hf
        · simp at hm
          show far L P a (t + 1)
          unfold far; omega
        · simp at hm
          show far L P (t + 1) b
          unfold far; omega
        · simp at hm
    · intro hn0
      have hL : t + 1 = L := by omega
      unfold may at hm
      by_cases hq : ((!c && decide (t + 1 - a > 3)) || (!d && decide (t + 1 - b > 3))) = true
      · rw [if_pos hq] at hm; cases hm
      rw [if_neg hq, if_pos hL] at hm
      cases c <;> cases d <;> simp at hm
      simp [hL]
    · constructor
      · rintro ⟨c, d, hm, u, ⟨x, y, h, rfl⟩, rfl⟩
        exact ⟨_, _, (ok_step hP ha hb ha3 hb3 (by omega) hf).2 ⟨c, d, x, y, hm, rfl, rfl, h⟩, (val_pre t a b c d x y).symm⟩
      · rintro ⟨x, y, h, rfl⟩
        obtain ⟨c, d, x', y', hm, rfl, rfl, h'⟩ := (ok_step hP ha hb ha3 hb3 (by omega) hf).1 h
        exact ⟨c, d, hm, _, ⟨x', y', h', rfl⟩, val_pre t a b c d x' y'⟩
/-- Both find the same. -/
theorem pair_same {L P n : Nat} (hP : 1 ≤ P) (hL : 1 ≤ L) (hn : 2 * L < n) : pB L P L 0 0 0 = sB L P n 0 0 := by
  have h1 := least_pB (L := L) hP L 0 0 0 (by omega) (Nat.le_refl _) (Nat.le_refl _) (by omega) (by omega) (.inl rfl) (fun h => by omega)
  have h2 := least_sB (L := L) hP n 0 0 (by omega) (by omega) (by omega) (.inl rfl : far L P 0 0)
  refine Least.uniq h1 (h2.congr fun v => ?_)
  constructor
  · rintro ⟨x, y, h, rfl⟩
    exact ⟨x, y, ⟨h, fun e he => ends_gt h.gx e he, fun e he => ends_gt h.gy e he⟩, rfl⟩
  · rintro ⟨x, y, h, rfl⟩
    exact ⟨x, y, h.1, rfl⟩

end Go.Proofs.YtfgopboddkhckaaGreatDoor
namespace Go.Proofs.YtfgopboddkhckaaGreatDoor
open Go.ChangeShapes Go.WideShapes Go.ChangeAt Go.RowKit Go.Sort Go.Joins
set_option linter.unusedVariables false
set_option maxRecDepth 100000

set_option maxHeartbeats 1600000 in
theorem spec_gcd4 (a : Int) (h0 : 0 ≤ a) (h1 : a ≤ 1000000) (w : World) : Calls Tryz.prog 226 #[.int .i64 a, .int .i64 4] w (Ret (.int .i64 (g4 a)) w) := by
  have ht := tmod4 h0
  have HG : Hid (g4 a = if a % 4 = 0 then 4 else if a % 4 = 2 then 2 else 1) := Lib.hid rfl
  rcases (show a % 4 = 0 ∨ a % 4 = 1 ∨ a % 4 = 2 ∨ a % 4 = 3 by omega) with hr | hr | hr | hr
  all_goals
    rw [hr] at ht HG
    clear hr
    go_enter Tryz.func226, Tryz.ntmps226
    go_wp2_with fail
    refine wp_loop_rounds 6 ?_
    repeat (rw [rounds_succ]; go_wp2_with fail; skip)
    go_ret
    refine ⟨ret_int (by rw [HG.out]; rfl), ?_⟩
    repeat (first | exact ext_refl _ | refine ext_drewN ?_ _ | refine ext_drew ?_)
theorem spec_size0 (n : Int) (h1 : 0 ≤ n) (w : World) : Calls Tryz.prog 224 #[.int .i64 n] w (RetP (.int .i64 n) w) := by
  have e1 : ¬ n < 0 := by omega
  go_enter Tryz.func224, Tryz.ntmps224
  go_wp2_with fail
  go_ret
  exact ⟨rfl, rfl⟩
set_option maxHeartbeats 1600000 in
theorem spec_make4 (a : Int) (h0 : 0 ≤ a) (h1 : a ≤ 1000000) (w : World) : Calls Tryz.prog 184 #[.int .i64 a, .int .i64 4] w (Ret (.agg #[.int .i64 (Int.tdiv a (g4 a)), .int .i64 (Int.tdiv 4 (g4 a))]) w) := by
  have HC := Lib.hid (fun w => spec_gcd4 a h0 h1 w)
  have hg := g4_cases a
  obtain ⟨g, hgg⟩ : ∃ g, g4 a = g := ⟨_, rfl⟩
  rw [hgg] at HC hg ⊢
  clear hgg
  have hb1 := tdiv_bd h0 h1 (show 1 ≤ g by omega)
  have hb2 := tdiv_bd (a := 4) (g := g) (by omega) (by omega) (by omega)
  have hg0 : ¬ g = 0 := by omega
  have hg1 : (g == 0) = false := beq_eq_false_iff_ne.2 hg0
  go_enter Tryz.func184, Tryz.ntmps184
  go_wp2_with fail
  (refine (spec_size0 a h0 _).mono ?_; rintro e w0 ⟨rfl, rfl⟩; go_wp2_with fail)
  refine (show Calls _ _ _ _ _ from HC.out _).mono ?_
  rintro e w1 ⟨rfl, hb⟩
  have r0 := cell_keep (p := ⟨w.heap.size, 0, none⟩) (v := .int .i64 0) (by simp [go_sem]) hb
  have r1 := cell_keep (p := ⟨w.heap.size, 1, none⟩) (v := .int .i64 0) (by simp [go_sem]) hb
  have rz : ∀ j, w1.frozen? ⟨w.heap.size, j, none⟩ = false := fun j => by rw [(bcell hb).2 _ _ (by simp)]; simp [go_sem]
  have HB := Lib.hid (ext_trans (ext_alloc1 _ _) hb)
  clear hb
  go_wp2_with fail
  go_region
  all_goals
    go_wp2_with fail
    refine bodyPost_ret (v := .agg #[.int .i64 (Int.tdiv a g), .int .i64 (Int.tdiv 4 g)]) (by simp [results, Tryz.results184, go_sem, r0, r1]) rfl ⟨rfl, ?_⟩
    exact ext_drew (ext_set (ext_set HB.out (Nat.le_refl _) _) (Nat.le_refl _) _)
set_option maxHeartbeats 1600000 in
theorem spec_LengthOf (f : FM) (n : Int) (w : World) :
    Calls Tryz.prog 125 #[.agg #[.int .i64 f.l, .int .i64 f.w, .int .i64 f.h, .int .i64 f.j], .int .i64 n] w (Ret (.tuple #[.agg #[.int .i64 (mLen f n).1, .int .i64 (mLen f n).2.1], .int .i64 (mLen f n).2.2]) w) := by
  have HM : Hid (mLen f n = if fmC f n 1 200 = 0 then (Int.tdiv (mNum f n) (g4 (mNum f n)), Int.tdiv 4 (g4 (mNum f n)), 0) else (0, 0, fmC f n 1 200)) := Lib.hid rfl
  have HC := Lib.hid (fun w => spec_fmC f n 1 200 w)
  obtain ⟨z, hz⟩ : ∃ z, fmC f n 1 200 = z := ⟨_, rfl⟩
  by_cases hz0 : z = 0
  · rw [hz0] at hz
    obtain ⟨h1, h2, h3⟩ := fmC_ok hz
    obtain ⟨b1, b2, _, _, _, _, b3, b4, _⟩ := vF_bd h1
    rw [hz, if_pos rfl] at HM
    rw [hz] at HC
    have HN : Hid (mNum f n = n * (f.l + f.j) - 4 * f.j) := Lib.hid rfl
    clear hz hz0 h1
    obtain ⟨l, hw, h, j⟩ := f
    dsimp only at *
    have hp : 100 + j ≤ n * (l + j) ∧ n * (l + j) ≤ 104000 := by
      have k1 : 1 * (l + j) ≤ n * (l + j) := Int.mul_le_mul_of_nonneg_right (by omega) (by omega)
      have k2 : n * (l + j) ≤ 200 * 520 := Int.mul_le_mul (by omega) (by omega) (by omega) (by omega)
      omega
    have HL := Lib.hid (fun w => spec_make4 (n * (l + j) - 4 * j) (by omega) (by omega) w)
    go_enter Tryz.func125, Tryz.ntmps125
    go_wp2_with fail
    refine (show Calls _ _ _ _ _ from HC.out _).mono ?_
    rintro e w1 ⟨rfl, hb⟩
    have k0 := cell_keep (p := ⟨w.heap.size, 0, none⟩) (v := .int .i64 l) (by simp [go_sem]) hb
    have k3 := cell_keep (p := ⟨w.heap.size, 3, none⟩) (v := .int .i64 j) (by simp [go_sem]) hb
    have r0 := cell_keep (p := ⟨w.heap.size + 1, 0, none⟩) (v := .int .i64 0) (by simp [go_sem]) hb
    have r1 := cell_keep (p := ⟨w.heap.size + 1, 1, none⟩) (v := .int .i64 0) (by simp [go_sem]) hb
    have rz : ∀ i, w1.frozen? ⟨w.heap.size + 1, i, none⟩ = false := fun i => by rw [(bcell hb).2 _ _ (by simp)]; simp [go_sem]
    have HB := Lib.hid (ext_trans (ext_alloc (ext_alloc1 w _) _) hb)
    clear hb
    go_wp2_with fail
    have hrl := block_lt_of_cell r0
    refine (show Calls _ _ _ _ _ from HL.out _).mono ?_
    rintro e w2 ⟨rfl, hb⟩
    replace r0 := cell_keep r0 hb
    replace r1 := cell_keep r1 hb
    have rz2 : ∀ i, w2.frozen? ⟨w.heap.size + 1, i, none⟩ = false := fun i => by rw [(bcell hb).2 _ _ hrl]; exact rz i
    have HB2 := Lib.hid (ext_trans HB.out hb)
    clear hb k0 k3
    have HM2 : Hid (mLen ⟨l, hw, h, j⟩ n = (Int.tdiv (n * (l + j) - 4 * j) (g4 (n * (l + j) - 4 * j)), Int.tdiv 4 (g4 (n * (l + j) - 4 * j)), 0)) := Lib.hid HM.out
    clear HM
    generalize Int.tdiv 4 (g4 (n * (l + j) - 4 * j)) = q2 at *
    generalize Int.tdiv (n * (l + j) - 4 * j) (g4 (n * (l + j) - 4 * j)) = q1 at *
    go_wp2_with fail
    refine bodyPost_ret (v := .tuple #[.agg #[.int .i64 q1, .int .i64 q2], .int .i64 0]) (by simp [results, Tryz.results125, go_sem, r0, r1]) rfl ⟨by rw [HM2.out], ?_⟩
    exact ext_set (ext_set HB2.out (Nat.le_succ _) _) (Nat.le_succ _) _
  · rw [hz, if_neg hz0] at HM
    rw [hz] at HC
    have e1 : (z == 0) = false := beq_eq_false_iff_ne.2 hz0
    have e2 : (z != 0) = true := bne_iff_ne.2 hz0
    clear hz
    go_enter Tryz.func125, Tryz.ntmps125
    go_wp2_with fail
    refine (show Calls _ _ _ _ _ from HC.out _).mono ?_
    rintro e w1 ⟨rfl, hb⟩
    have r0 := cell_keep (p := ⟨w.heap.size + 1, 0, none⟩) (v := .int .i64 0) (by simp [go_sem]) hb
    have r1 := cell_keep (p := ⟨w.heap.size + 1, 1, none⟩) (v := .int .i64 0) (by simp [go_sem]) hb
    have rz : ∀ i, w1.frozen? ⟨w.heap.size + 1, i, none⟩ = false := fun i => by rw [(bcell hb).2 _ _ (by simp)]; simp [go_sem]
    have HB := Lib.hid (ext_trans (ext_alloc (ext_alloc1 w _) _) hb)
    clear hb
    go_wp2_with fail
    refine bodyPost_ret (v := .tuple #[.agg #[.int .i64 0, .int .i64 0], .int .i64 z]) (by simp [results, Tryz.results125, go_sem, r0, r1]) rfl ⟨by rw [HM.out], ?_⟩
    repeat (first | exact HB.out | refine ext_set ?_ (Nat.le_succ _) _)
end Go.Proofs.YtfgopboddkhckaaGreatDoor
namespace Go.Proofs.YtfgopboddkhckaaGreatDoor
open Go.ChangeShapes Go.WideShapes Go.ChangeAt Go.RowKit Go.Sort Go.Joins
set_option linter.unusedVariables false
set_option maxRecDepth 100000

set_option maxHeartbeats 1600000 in
theorem spec_letter4 (c : CO) (i : Nat) (hv : vC c = true) (hi : i ≤ 1000) (w : World) :
    Calls Tryz.prog 229 #[.agg #[.string c.lead, .string c.cyc], .int .i64 i] w (Ret (.int .u8 (ltr c i)) w) := by
  obtain ⟨h1, _, h3, h4, _⟩ := vC_parts hv
  clear hv
  obtain ⟨a, b⟩ := c
  dsimp only at *
  have e0 : (0 : Int) ≤ i := by omega
  by_cases hlt : i < a.size
  · have e1 : (i : Int) < a.size := by omega
    have hy := byt_eq a i hlt
    have HL : Hid (ltr ⟨a, b⟩ i = byt a i) := Lib.hid (by unfold ltr; rw [if_pos hlt])
    obtain ⟨y, hyy⟩ : ∃ y, byt a i = y := ⟨_, rfl⟩
    rw [hyy] at hy HL
    clear hyy
    go_enter Tryz.func229, Tryz.ntmps229
    go_wp2_with fail
    go_ret
    exact ⟨by rw [HL.out]; rfl, ext_alloc1 _ _⟩
  · have e1 : ¬ (i : Int) < a.size := by omega
    obtain ⟨r, hr⟩ : ∃ r, (i - a.size) % b.size = r := ⟨_, rfl⟩
    have hrb : r < b.size := by rw [← hr]; exact Nat.mod_lt _ (by omega)
    have ht : ((i : Int) - (a.size : Int)).tmod (b.size : Int) = (r : Int) := by
      rw [Int.tmod_eq_emod_of_nonneg (by omega), ← hr, show (i : Int) - (a.size : Int) = ((i - a.size : Nat) : Int) by omega]
      rfl
    have hy := byt_eq b r hrb
    have HL : Hid (ltr ⟨a, b⟩ i = byt b r) := Lib.hid (by unfold ltr; rw [if_neg hlt]; show byt b ((i - a.size) % b.size) = byt b r; rw [hr])
    obtain ⟨y, hyy⟩ : ∃ y, byt b r = y := ⟨_, rfl⟩
    rw [hyy] at hy HL
    have e2 : (0 : Int) ≤ r := by omega
    have e3 : (r : Int) < b.size := by omega
    have e4 : ((b.size : Int) == 0) = false := beq_eq_false_iff_ne.2 (by omega)
    have e5 : ¬ (b.size : Int) = 0 := by omega
    clear hyy hr
    go_enter Tryz.func229, Tryz.ntmps229
    go_wp2_with fail
    go_quiet (fail)
    go_wp2_with fail
    go_ret
    exact ⟨by rw [HL.out]; rfl, ext_drewN (ext_alloc1 _ _) _⟩
set_option maxHeartbeats 1600000 in
theorem spec_course4 (b o' : Nat) (A : Option Addr) (c : Nat) (cs : List CO) (k : Nat) (hk : k ≤ 1000) (h1 : 1 ≤ cs.length) (h8 : cs.length ≤ 8) (w : World) (ha : RCOS w (.slice A cs.length c) cs) (hb1 : w.cell? ⟨b, o' + 1, none⟩ = some (.slice A cs.length c)) :
    Calls Tryz.prog 228 #[.pointer (some ⟨b, o', none⟩), .int .i64 k] w (Ret (.agg #[.string (gd cs (k % cs.length)).lead, .string (gd cs (k % cs.length)).cyc]) w) := by
  obtain ⟨r, hr⟩ : ∃ r, k % cs.length = r := ⟨_, rfl⟩
  have hrb : r < cs.length := by rw [← hr]; exact Nat.mod_lt _ (by omega)
  have ht : (k : Int).tmod (cs.length : Int) = (r : Int) := by rw [Int.tmod_eq_emod_of_nonneg (by omega), ← hr]; rfl
  rw [hr]
  obtain ⟨ad, rfl, hbd, hc⟩ := ha.at hrb
  obtain ⟨p0, p1⟩ := hc r hrb
  obtain ⟨o, ho⟩ : ∃ o, gd cs r = o := ⟨_, rfl⟩
  rw [ho] at p0 p1
  rw [ho]
  have hx := ext_alloc1 w (.cells #[.string ⟨#[]⟩, .string ⟨#[]⟩] 102)
  have q0 := cell_keep p0 (ext_drew hx)
  have q1 := cell_keep p1 (ext_drew hx)
  have q2 := cell_keep hb1 (ext_drew hx)
  have e0 : (0 : Int) ≤ r := by omega
  have e1 : (r : Int) < cs.length := by omega
  have e2 : ((cs.length : Int) == 0) = false := beq_eq_false_iff_ne.2 (by omega)
  have e3 : ¬ (cs.length : Int) = 0 := by omega
  clear hc ho hr hx p0 p1 hb1
  go_enter Tryz.func228, Tryz.ntmps228
  go_wp2_with fail
  go_region
  all_goals
    go_wp2_with fail
    refine bodyPost_ret (v := .agg #[.string o.lead, .string o.cyc]) (by simp [results, Tryz.results228, go_sem]) rfl ⟨rfl, ?_⟩
    exact ext_drew (ext_alloc1 w _)
end Go.Proofs.YtfgopboddkhckaaGreatDoor
namespace Go.Proofs.YtfgopboddkhckaaGreatDoor
open Go.ChangeShapes Go.WideShapes Go.ChangeAt Go.RowKit Go.Sort Go.Joins
set_option linter.unusedVariables false
set_option maxRecDepth 100000

set_option maxHeartbeats 1600000 in
theorem spec_dkT (p : Nat) (d : DK) (A : Option Addr) (c : Nat) (B : Option Addr) (e : Nat) (w : World) (hP : PDK w p d A c B e) (hv : vDK d = true) :
    Calls Tryz.prog 115 #[.pointer (some ⟨p, 0, none⟩)] w (Ret (.string (dkT d)) w) := by
  obtain ⟨hs1, hs2, _, _⟩ := vDK_sizes hv
  have hz := itb_size d.wall.length (by omega) (by omega)
  have HT : Hid (dkT d = d.nm ++ ⟨#[32]⟩ ++ itb d.wall.length ++ ⟨#[32, 99, 111, 117, 114, 115, 101, 115]⟩) := Lib.hid rfl
  have HD : Hid (∀ w, Calls Tryz.prog 114 #[.int .i64 (d.wall.length : Int)] w (Ret (.string (itb d.wall.length)) w)) := Lib.hid fun w => spec_Dec _ (by omega) (by omega) w
  have c1 : ¬ 9223372036854775807 < d.nm.size + 1 := by omega
  have c2 : ¬ 9223372036854775807 < d.nm.size + 1 + (itb d.wall.length).size := by omega
  have c3 : ¬ 9223372036854775807 < d.nm.size + 1 + (itb d.wall.length).size + 8 := by omega
  have g4 := fun x os => cell_regrown hP.k4 x os
  have g6 := fun x os => cell_regrown hP.k6 x os
  clear hP hv hs1 hz
  go_enter Tryz.func115, Tryz.ntmps115
  go_wp2_with fail
  refine wp_region_quiet_below (by kernel_rfl) (by kernel_rfl) ?_
  repeat (go_big_quiet_step ((go_at_call 114; exact regrown_r (HD.out _))))
  refine wpQuiet_nil ?_
  intro w' hw'
  obtain ⟨q, rfl⟩ := hw'
  go_wp2_with fail
  go_ret
  exact ⟨by rw [HT.out]; rfl, below_regrown w q.d q.os⟩
end Go.Proofs.YtfgopboddkhckaaGreatDoor
