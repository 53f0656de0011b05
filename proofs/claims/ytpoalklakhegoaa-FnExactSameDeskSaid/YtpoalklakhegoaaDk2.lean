/-
  SameDesk on both sides: strings' and courses' lists compared.
-/
import Derived.Test.YtpoalklakhegoaaDk
import Derived.Test.YtpoalklakhegoaaSmall
import Derived.Laws.StructEq
import Derived.BigQuiet
namespace Go.Proofs.Ytpoalklakhegoaa
open Go.ChangeShapes Go.WideShapes Go.ChangeAt Go.RowKit Go.Sort Go.Joins
set_option linter.unusedVariables false
set_option maxRecDepth 100000

theorem bs_eq (a b : ByteArray) : (a.toList == b.toList) = decide (a = b) := by
  by_cases h : a = b
  · subst h; simp
  · rw [str_ne h, decide_eq_false h]
theorem bs_iff (a b : ByteArray) : a.toList = b.toList ↔ a = b := by
  have h := bs_eq a b
  constructor
  · intro h2
    rw [h2] at h
    simpa using h.symm
  · rintro rfl; rfl
theorem rng_succ (p : Nat → Bool) (k : Nat) : (List.range (k + 1)).all p = ((List.range k).all p && p k) := by simp [List.range_succ]
theorem rng_no {p : Nat → Bool} {k n : Nat} (hk : k < n) (h : p k = false) : (List.range n).all p = false := by
  rw [List.all_eq_false]
  exact ⟨k, by simpa using hk, by simp [h]⟩
/-- Are two lists of strings equal? -/
def sameT (l m : List ByteArray) : Bool := decide (l.length = m.length) && (List.range l.length).all fun k => decide (gd l k = gd m k)
def eqC (o p : CO) : Bool := decide (o.lead = p.lead) && decide (o.cyc = p.cyc)
/-- Are two lists of courses equal? -/
def sameC (l m : List CO) : Bool := decide (l.length = m.length) && (List.range l.length).all fun k => eqC (gd l k) (gd m k)
theorem run_eqC (o p : CO) (w : World) : (Op.equalIn 10000 50 (.agg #[.string o.lead, .string o.cyc]) (.agg #[.string p.lead, .string p.cyc])).run Try.prog w = .ok (eqC o p) w := by
  have hu := Try.underlying50
  have hf := (show ∀ fs, Try.prog.underlying 50 = some (.struct fs) → Try.prog.fieldsOf 50 = fs from fun fs h => by unfold Program.fieldsOf; rw [h]) _ hu
  rw [run_equalIn_struct _ 9999 _ _ _ (by rw [hf]; exact hu) (by kernel_rfl), hf]
  simp [Op.eqFields, go_sem, Try.underlying9]
  simp only [bs_iff]
  unfold eqC
  by_cases h1 : o.lead = p.lead <;> by_cases h2 : o.cyc = p.cyc <;> simp [h1, h2]

set_option maxHeartbeats 1600000 in
theorem spec_l14Same (v1 v2 : Value) (l m : List ByteArray) (w : World) (ha : RStr w v1 l) (hb : RStr w v2 m) :
    Calls Try.prog 12 #[v1, v2] w (Ret (.bool (sameT l m)) w) := by
  obtain ⟨A, c, rfl, hc1, hc2⟩ := ha.open_
  obtain ⟨B, d, rfl, hd1, hd2⟩ := hb.open_
  have HA := Lib.hid ha; clear ha
  have HB := Lib.hid hb; clear hb
  unfold maxLen at hc2 hd2
  by_cases hl : l.length = m.length
  · have el : (l.length : Int) = m.length := by omega
    go_enter Try.func12, Try.ntmps12
    go_wp2_with fail
    clear el
    go_loopw [5] (fun i wr => ∃ k : Nat, k ≤ l.length ∧ i = .int .i64 k ∧ Hid ((List.range k).all (fun k => decide (gd l k = gd m k)) = true) ∧ Below w.heap.size w wr) (fun i _ => l.length - (intOf i).toNat)
    case atStart => exact ⟨0, Nat.zero_le _, rfl, rfl, ext_refl _⟩
    case round =>
      obtain ⟨k, hk, rfl, HT, hbw⟩ := hrel
      have HAw := Lib.hid (HA.out.ext hbw)
      have HBw := Lib.hid (HB.out.ext hbw)
      have HW := Lib.hid hbw; clear hbw
      by_cases hlt : k < l.length
      · obtain ⟨ad, rfl, _, hc⟩ := HAw.out.at hlt
        obtain ⟨bd, rfl, _, hd⟩ := HBw.out.at (show k < m.length by omega)
        have h0 := hc k hlt
        have g0 := hd k (by omega)
        clear hc hd
        have e1 : (0:Int) ≤ k := by omega
        have e2 : (k:Int) < l.length := by omega
        have e3 : (k:Int) < m.length := by omega
        by_cases hE : gd l k = gd m k
        · have HE := Lib.hid hE
          rw [← hE] at g0
          clear hE
          go_wp2_with fail
          go_quiet (fail)
          rename Nat => n1
          clear h0 g0
          go_wp2_with fail
          go_roundw
          case rel => exact ⟨k + 1, by omega, by go_num, by unfold Hid; rw [rng_succ, HT.out, decide_eq_true HE.out]; rfl, ext_drewN HW.out _⟩
          case measure => simp [intOf]; omega
        · have HE : Hid (sameT l m = false) := Lib.hid (by unfold sameT; rw [rng_no hlt (decide_eq_false hE), Bool.and_false])
          have q1 := str_ne hE
          have q2 : ¬ (gd l k).toList = (gd m k).toList := fun h => hE ((bs_iff _ _).1 h)
          generalize gd l k = x at *
          generalize gd m k = y at *
          clear hE
          go_wp2_with fail
          go_quiet (fail)
          rename Nat => n1
          clear h0 g0
          go_wp2_with fail
          go_ret
          exact ⟨ret_bool HE.out.symm, ext_drewN HW.out _⟩
      · have hkn : k = l.length := by omega
        have HE : Hid (sameT l m = true) := Lib.hid (by unfold sameT; rw [decide_eq_true hl, ← hkn, HT.out]; rfl)
        have e2 : ¬ (k:Int) < l.length := by omega
        clear hkn
        go_wp2_with fail
        go_ret
        exact ⟨ret_bool HE.out.symm, HW.out⟩
  · have HE : Hid (sameT l m = false) := Lib.hid (by unfold sameT; rw [decide_eq_false hl]; rfl)
    go_enter Try.func12, Try.ntmps12
    go_wp2_with fail
    go_ret
    exact ⟨ret_bool HE.out.symm, ext_refl w⟩
set_option maxHeartbeats 1600000 in
theorem sl_sameT (v1 v2 : Value) (l m : List ByteArray) (w : World) (ha : RStr w v1 l) (hb : RStr w v2 m) :
    Calls Try.prog 17 #[v1, v2] w (Ret (.bool (sameT l m)) w) := by
  obtain ⟨A, c, rfl, hc1, hc2⟩ := ha.open_
  obtain ⟨B, d, rfl, hd1, hd2⟩ := hb.open_
  have HA := Lib.hid ha; clear ha
  have HB := Lib.hid hb; clear hb
  unfold maxLen at hc2 hd2
  by_cases hl : l.length = m.length
  · have el : (l.length : Int) = m.length := by omega
    go_enter Try.func17, Try.ntmps17
    go_wp2_with fail
    clear el
    go_loopw [13] (fun i wr => ∃ k : Nat, k ≤ l.length ∧ i = .int .i64 k ∧ Hid ((List.range k).all (fun k => decide (gd l k = gd m k)) = true) ∧ Below w.heap.size w wr) (fun i _ => l.length - (intOf i).toNat)
    case atStart => exact ⟨0, Nat.zero_le _, rfl, rfl, ext_refl _⟩
    case round =>
      obtain ⟨k, hk, rfl, HT, hbw⟩ := hrel
      have HAw := Lib.hid (HA.out.ext hbw)
      have HBw := Lib.hid (HB.out.ext hbw)
      have HW := Lib.hid hbw; clear hbw
      by_cases hlt : k < l.length
      · obtain ⟨ad, rfl, _, hc⟩ := HAw.out.at hlt
        obtain ⟨bd, rfl, _, hd⟩ := HBw.out.at (show k < m.length by omega)
        have h0 := hc k hlt
        have g0 := hd k (by omega)
        clear hc hd
        have e1 : (0:Int) ≤ k := by omega
        have e2 : (k:Int) < l.length := by omega
        have e3 : (k:Int) < m.length := by omega
        by_cases hE : gd l k = gd m k
        · have HE := Lib.hid hE
          rw [← hE] at g0
          clear hE
          go_wp2_with fail
          go_quiet (fail)
          rename Nat => n1
          clear h0 g0
          go_wp2_with fail
          go_roundw
          case rel => exact ⟨k + 1, by omega, by go_num, by unfold Hid; rw [rng_succ, HT.out, decide_eq_true HE.out]; rfl, ext_drewN HW.out _⟩
          case measure => simp [intOf]; omega
        · have HE : Hid (sameT l m = false) := Lib.hid (by unfold sameT; rw [rng_no hlt (decide_eq_false hE), Bool.and_false])
          have q1 := str_ne hE
          have q2 : ¬ (gd l k).toList = (gd m k).toList := fun h => hE ((bs_iff _ _).1 h)
          generalize gd l k = x at *
          generalize gd m k = y at *
          clear hE
          go_wp2_with fail
          go_quiet (fail)
          rename Nat => n1
          clear h0 g0
          go_wp2_with fail
          go_ret
          exact ⟨ret_bool HE.out.symm, ext_drewN HW.out _⟩
      · have hkn : k = l.length := by omega
        have HE : Hid (sameT l m = true) := Lib.hid (by unfold sameT; rw [decide_eq_true hl, ← hkn, HT.out]; rfl)
        have e2 : ¬ (k:Int) < l.length := by omega
        clear hkn
        go_wp2_with fail
        go_ret
        exact ⟨ret_bool HE.out.symm, HW.out⟩
  · have HE : Hid (sameT l m = false) := Lib.hid (by unfold sameT; rw [decide_eq_false hl]; rfl)
    go_enter Try.func17, Try.ntmps17
    go_wp2_with fail
    go_ret
    exact ⟨ret_bool HE.out.symm, ext_refl w⟩
set_option maxHeartbeats 1600000 in
theorem sl_sameC (v1 v2 : Value) (l m : List CO) (w : World) (ha : RCOS w v1 l) (hb : RCOS w v2 m) :
    Calls Try.prog 23 #[v1, v2] w (Ret (.bool (sameC l m)) w) := by
  obtain ⟨A, c, rfl, hc1, hc2⟩ := ha.open_
  obtain ⟨B, d, rfl, hd1, hd2⟩ := hb.open_
  have HA := Lib.hid ha; clear ha
  have HB := Lib.hid hb; clear hb
  unfold maxLen at hc2 hd2
  by_cases hl : l.length = m.length
  · have el : (l.length : Int) = m.length := by omega
    go_enter Try.func23, Try.ntmps23
    go_wp2_with fail
    clear el
    go_loopw [13] (fun i wr => ∃ k : Nat, k ≤ l.length ∧ i = .int .i64 k ∧ Hid ((List.range k).all (fun k => eqC (gd l k) (gd m k)) = true) ∧ Below w.heap.size w wr) (fun i _ => l.length - (intOf i).toNat)
    case atStart => exact ⟨0, Nat.zero_le _, rfl, rfl, ext_refl _⟩
    case round =>
      obtain ⟨k, hk, rfl, HT, hbw⟩ := hrel
      have HAw := Lib.hid (HA.out.ext hbw)
      have HBw := Lib.hid (HB.out.ext hbw)
      have HW := Lib.hid hbw; clear hbw
      by_cases hlt : k < l.length
      · obtain ⟨ad, rfl, _, hc⟩ := HAw.out.at hlt
        obtain ⟨bd, rfl, _, hd⟩ := HBw.out.at (show k < m.length by omega)
        obtain ⟨h0, h1⟩ := hc k hlt
        obtain ⟨g0, g1⟩ := hd k (by omega)
        clear hc hd
        have hq := fun w => run_eqC (gd l k) (gd m k) w
        have e1 : (0:Int) ≤ k := by omega
        have e2 : (k:Int) < l.length := by omega
        have e3 : (k:Int) < m.length := by omega
        cases hE : eqC (gd l k) (gd m k) with
        | true =>
          have HE := Lib.hid hE
          rw [hE] at hq
          clear hE
          go_wp2_with fail
          go_quiet (fail)
          rename Nat => n1
          clear hq h0 h1 g0 g1
          go_wp2_with fail
          go_roundw
          case rel => exact ⟨k + 1, by omega, by go_num, by unfold Hid; rw [rng_succ, HT.out, HE.out]; rfl, ext_drewN HW.out _⟩
          case measure => simp [intOf]; omega
        | false =>
          have HE : Hid (sameC l m = false) := Lib.hid (by unfold sameC; rw [rng_no hlt hE, Bool.and_false])
          rw [hE] at hq
          clear hE
          go_wp2_with fail
          go_quiet (fail)
          rename Nat => n1
          clear hq h0 h1 g0 g1
          go_wp2_with fail
          go_ret
          exact ⟨ret_bool HE.out.symm, ext_drewN HW.out _⟩
      · have hkn : k = l.length := by omega
        have HE : Hid (sameC l m = true) := Lib.hid (by unfold sameC; rw [decide_eq_true hl, ← hkn, HT.out]; rfl)
        have e2 : ¬ (k:Int) < l.length := by omega
        clear hkn
        go_wp2_with fail
        go_ret
        exact ⟨ret_bool HE.out.symm, HW.out⟩
  · have HE : Hid (sameC l m = false) := Lib.hid (by unfold sameC; rw [decide_eq_false hl]; rfl)
    go_enter Try.func23, Try.ntmps23
    go_wp2_with fail
    go_ret
    exact ⟨ret_bool HE.out.symm, ext_refl w⟩
def sameB (a b : ByteArray) (l m : List CO) : Bool := decide (a = b) && sameC l m
theorem impl_SameBond (A B : Option Addr) (c d : Nat) (a b : ByteArray) (l m : List CO) (w : World) (ha : RCOS w (.slice A l.length c) l) (hb : RCOS w (.slice B m.length d) m) :
    Calls Try.prog 16 #[.agg #[.string a, .slice A l.length c], .agg #[.string b, .slice B m.length d]] w (Ret (.bool (sameB a b l m)) w) := by
  have HA := Lib.hid ha; clear ha
  have HB := Lib.hid hb; clear hb
  by_cases hn : a = b
  · subst hn
    have HE : Hid (sameB a a l m = sameC l m) := Lib.hid (by unfold sameB; rw [decide_eq_true rfl]; rfl)
    obtain ⟨q, hq⟩ : ∃ q, sameC l m = q := ⟨_, rfl⟩
    have HQ := Lib.hid hq
    clear hq
    go_enter Try.func16, Try.ntmps16
    go_wp2_with fail
    refine (sl_sameC _ _ l m _ ((HA.out.alloc _).alloc _) ((HB.out.alloc _).alloc _)).mono ?_
    rintro e w1 ⟨rfl, hb⟩
    rw [HQ.out]
    go_wp2_with fail
    go_ret
    exact ⟨ret_bool (by rw [HE.out, HQ.out]), ext_trans (ext_alloc (ext_alloc1 w _) _) hb⟩
  · have HE : Hid (sameB a b l m = false) := Lib.hid (by unfold sameB; rw [decide_eq_false hn]; rfl)
    have q1 := str_ne hn
    have q2 : ¬ a.toList = b.toList := fun h => hn ((bs_iff _ _).1 h)
    clear hn
    go_enter Try.func16, Try.ntmps16
    go_wp2_with fail
    go_ret
    exact ⟨ret_bool HE.out.symm, ext_alloc (ext_alloc1 w _) _⟩
set_option maxHeartbeats 1600000 in
theorem spec_SameBond (A B : Option Addr) (c d : Nat) (a b : ByteArray) (l m : List CO) (w : World) (ha : RCOS w (.slice A l.length c) l) (hb : RCOS w (.slice B m.length d) m) :
    Calls Try.prog 11 #[.agg #[.string a, .slice A l.length c], .agg #[.string b, .slice B m.length d]] w (Ret (.bool (sameB a b l m)) w) := by
  have HA := Lib.hid ha; clear ha
  have HB := Lib.hid hb; clear hb
  by_cases hn : a = b
  · subst hn
    have HE : Hid (sameB a a l m = sameC l m) := Lib.hid (by unfold sameB; rw [decide_eq_true rfl]; rfl)
    by_cases hl : l.length = m.length
    · have el : (l.length : Int) = m.length := by omega
      have HLE := Lib.hid hl
      have hlm : l.length ≤ 9223372036854775807 := by obtain ⟨_, _, _, h1, h2⟩ := HA.out.open_; unfold maxLen at h2; omega
      clear hl
      have HX : Hid (Below w.heap.size w ((w.alloc (.cells #[.string a, .slice A l.length c] 35)).alloc (.cells #[.string a, .slice B m.length d] 35))) := Lib.hid (ext_alloc (ext_alloc1 w _) _)
      have ka : ((w.alloc (.cells #[.string a, .slice A l.length c] 35)).alloc (.cells #[.string a, .slice B m.length d] 35)).cell? ⟨w.heap.size, 1, none⟩ = some (.slice A l.length c) := by simp [go_sem]
      have kb : ((w.alloc (.cells #[.string a, .slice A l.length c] 35)).alloc (.cells #[.string a, .slice B m.length d] 35)).cell? ⟨w.heap.size + 1, 1, none⟩ = some (.slice B m.length d) := by simp [go_sem]
      go_enter Try.func11, Try.ntmps11
      go_wp2_with fail
      clear el
      generalize hWW : ((w.alloc (.cells #[.string a, .slice A l.length c] 35)).alloc (.cells #[.string a, .slice B m.length d] 35)) = W at *
      clear hWW
      have HKA : Hid (∀ W', Below W.heap.size W W' → W'.cell? ⟨w.heap.size, 1, none⟩ = some (.slice A l.length c)) := Lib.hid (fun W' h => cell_keep ka h)
      have HKB : Hid (∀ W', Below W.heap.size W W' → W'.cell? ⟨w.heap.size + 1, 1, none⟩ = some (.slice B m.length d)) := Lib.hid (fun W' h => cell_keep kb h)
      clear ka kb
      go_loopw [5] (fun i wr => ∃ k : Nat, k ≤ l.length ∧ i = .int .i64 k ∧ Hid ((List.range k).all (fun k => eqC (gd l k) (gd m k)) = true) ∧ Below W.heap.size W wr) (fun i _ => l.length - (intOf i).toNat)
      case atStart => exact ⟨0, Nat.zero_le _, rfl, rfl, ext_refl _⟩
      case round =>
        obtain ⟨k, hk, rfl, HT, hbw⟩ := hrel
        have HAw := Lib.hid (HA.out.ext (ext_trans HX.out hbw))
        have HBw := Lib.hid (HB.out.ext (ext_trans HX.out hbw))
        have ka := HKA.out _ hbw
        have kb := HKB.out _ hbw
        have HW := Lib.hid (ext_trans HX.out hbw)
        have HWX := Lib.hid hbw; clear hbw
        by_cases hlt : k < l.length
        · obtain ⟨ad, rfl, _, hc⟩ := HAw.out.at hlt
          obtain ⟨bd, rfl, _, hd⟩ := HBw.out.at (show k < m.length by have := HLE.out; omega)
          obtain ⟨h0, h1⟩ := hc k hlt
          obtain ⟨g0, g1⟩ := hd k (by have := HLE.out; omega)
          clear hc hd
          have hq := fun w => run_eqC (gd l k) (gd m k) w
          have e1 : (0:Int) ≤ k := by omega
          have e2 : (k:Int) < l.length := by omega
          have e3 : (k:Int) < m.length := by have := HLE.out; omega
          cases hE : eqC (gd l k) (gd m k) with
          | true =>
            have HE1 := Lib.hid hE
            rw [hE] at hq
            clear hE
            go_wp2_with fail
            go_quiet (fail)
            rename Nat => n1
            clear hq h0 h1 g0 g1
            go_wp2_with fail
            go_roundw
            case rel => exact ⟨k + 1, by omega, by go_num, by unfold Hid; rw [rng_succ, HT.out, HE1.out]; rfl, ext_drewN HWX.out _⟩
            case measure => simp [intOf]; omega
          | false =>
            have HE1 : Hid (sameC l m = false) := Lib.hid (by unfold sameC; rw [rng_no hlt hE, Bool.and_false])
            rw [hE] at hq
            clear hE
            go_wp2_with fail
            go_quiet (fail)
            rename Nat => n1
            clear hq h0 h1 g0 g1
            go_wp2_with fail
            go_ret
            exact ⟨ret_bool (by rw [HE.out, HE1.out]), ext_drewN HW.out _⟩
        · have hkn : k = l.length := by omega
          have HE1 : Hid (sameC l m = true) := Lib.hid (by unfold sameC; rw [decide_eq_true HLE.out, ← hkn, HT.out]; rfl)
          have e2 : ¬ (k:Int) < l.length := by omega
          clear hkn
          go_wp2_with fail
          go_ret
          exact ⟨ret_bool (by rw [HE.out, HE1.out]), HW.out⟩
    · have HE1 : Hid (sameC l m = false) := Lib.hid (by unfold sameC; rw [decide_eq_false hl]; rfl)
      go_enter Try.func11, Try.ntmps11
      go_wp2_with fail
      go_ret
      exact ⟨ret_bool (by rw [HE.out, HE1.out]), ext_alloc (ext_alloc1 w _) _⟩
  · have HE : Hid (sameB a b l m = false) := Lib.hid (by unfold sameB; rw [decide_eq_false hn]; rfl)
    have q1 := str_ne hn
    have q2 : ¬ a.toList = b.toList := fun h => hn ((bs_iff _ _).1 h)
    clear hn
    go_enter Try.func11, Try.ntmps11
    go_wp2_with fail
    go_ret
    exact ⟨ret_bool HE.out.symm, ext_alloc (ext_alloc1 w _) _⟩
def eqF (a b : FM) : Bool := decide (a.l = b.l) && decide (a.w = b.w) && decide (a.h = b.h) && decide (a.j = b.j)
def sameDK (a b : DK) : Bool := eqF a.f b.f && decide (a.log = b.log) && sameB a.nm b.nm a.cs b.cs && sameT a.wall b.wall
theorem run_eqF (a b : FM) (w : World) : (Op.equalIn 10000 32 (.agg #[.int .i64 a.l, .int .i64 a.w, .int .i64 a.h, .int .i64 a.j]) (.agg #[.int .i64 b.l, .int .i64 b.w, .int .i64 b.h, .int .i64 b.j])).run Try.prog w = .ok (eqF a b) w := by
  have hu := Try.underlying32
  have hf := (show ∀ fs, Try.prog.underlying 32 = some (.struct fs) → Try.prog.fieldsOf 32 = fs from fun fs h => by unfold Program.fieldsOf; rw [h]) _ hu
  rw [run_equalIn_struct _ 9999 _ _ _ (by rw [hf]; exact hu) (by kernel_rfl), hf]
  simp [Op.eqFields, go_sem, Try.underlying2]
  unfold eqF
  by_cases h1 : a.l = b.l <;> by_cases h2 : a.w = b.w <;> by_cases h3 : a.h = b.h <;> by_cases h4 : a.j = b.j <;> simp [h1, h2, h3, h4]
set_option maxHeartbeats 1600000 in
theorem impl_SameDesk (v1 : Value) (a : DK) (v2 : Value) (b : DK) (w : World) (ha : RDK w v1 a) (_ : SmDK a) (hb : RDK w v2 b) (_ : SmDK b) :
    Calls Try.prog 7 #[v1, v2] w (Ret (.bool (sameDK a b)) w) := by
  obtain ⟨A, c, B, e, rfl, hcs, hwl⟩ := ha
  obtain ⟨A', c', B', e', rfl, hcs', hwl'⟩ := hb
  have HC := Lib.hid hcs; clear hcs
  have HW := Lib.hid hwl; clear hwl
  have HC' := Lib.hid hcs'; clear hcs'
  have HW' := Lib.hid hwl'; clear hwl'
  have hq := fun w => run_eqF a.f b.f w
  cases hE : eqF a.f b.f with
  | false =>
    have HE : Hid (sameDK a b = false) := Lib.hid (by unfold sameDK; rw [hE]; rfl)
    rw [hE] at hq
    clear hE
    go_enter Try.func7, Try.ntmps7
    go_wp2_with fail
    go_ret
    exact ⟨ret_bool HE.out.symm, ext_alloc (ext_alloc1 w _) _⟩
  | true =>
    rw [hE] at hq
    by_cases hn : a.log = b.log
    · have HE1 : Hid (sameDK a b = (sameB a.nm b.nm a.cs b.cs && sameT a.wall b.wall)) := Lib.hid (by unfold sameDK; rw [hE, decide_eq_true hn]; rfl)
      clear hE
      obtain ⟨fa, na, ca, la, ga⟩ := a
      obtain ⟨fb, nb, cb, lb, gb⟩ := b
      dsimp only at *
      subst hn
      have HSB := Lib.hid (fun w h1 h2 => impl_SameBond A A' c c' na nb ca cb w h1 h2)
      obtain ⟨q1, hq1⟩ : ∃ q, sameB na nb ca cb = q := ⟨_, rfl⟩
      have HST := Lib.hid (fun w h1 h2 => sl_sameT (.slice B la.length e) (.slice B' lb.length e') la lb w h1 h2)
      obtain ⟨q2, hq2⟩ : ∃ q, sameT la lb = q := ⟨_, rfl⟩
      rw [hq1, hq2] at HE1
      rw [hq1] at HSB
      rw [hq2] at HST
      clear hq1 hq2
      go_enter Try.func7, Try.ntmps7
      go_wp2_with fail
      refine (show Calls _ _ _ _ _ from HSB.out _ ((HC.out.alloc _).alloc _) ((HC'.out.alloc _).alloc _)).mono ?_
      rintro ee w1 ⟨rfl, hb1⟩
      have k6 := cell_keep (p := ⟨w.heap.size, 6, none⟩) (v := .slice B la.length e) (by simp [go_sem]) hb1
      have j6 := cell_keep (p := ⟨w.heap.size + 1, 6, none⟩) (v := .slice B' lb.length e') (by simp [go_sem]) hb1
      have HB := Lib.hid (ext_trans (ext_alloc (ext_alloc1 w _) _) hb1)
      clear hb1
      cases q1
      · go_wp2_with fail
        go_ret
        exact ⟨ret_bool HE1.out.symm, HB.out⟩
      · go_wp2_with fail
        refine (show Calls _ _ _ _ _ from HST.out _ (HW.out.ext HB.out) (HW'.out.ext HB.out)).mono ?_
        rintro ee w2 ⟨rfl, hb2⟩
        have HB2 := Lib.hid (ext_trans HB.out hb2)
        clear hb2 k6 j6
        go_wp2_with fail
        go_ret
        exact ⟨ret_bool (by rw [HE1.out]; rfl), HB2.out⟩
    · have HE : Hid (sameDK a b = false) := Lib.hid (by unfold sameDK; rw [decide_eq_false hn]; simp)
      have p1 := str_ne hn
      have p2 : ¬ a.log.toList = b.log.toList := fun h => hn ((bs_iff _ _).1 h)
      clear hn hE
      go_enter Try.func7, Try.ntmps7
      go_wp2_with fail
      go_ret
      exact ⟨ret_bool HE.out.symm, ext_alloc (ext_alloc1 w _) _⟩
set_option maxHeartbeats 1600000 in
theorem spec_SameDesk (v1 : Value) (a : DK) (v2 : Value) (b : DK) (w : World) (ha : RDK w v1 a) (_ : SmDK a) (hb : RDK w v2 b) (_ : SmDK b) :
    Calls Try.prog 5 #[v1, v2] w (Ret (.bool (sameDK a b)) w) := by
  obtain ⟨A, c, B, e, rfl, hcs, hwl⟩ := ha
  obtain ⟨A', c', B', e', rfl, hcs', hwl'⟩ := hb
  have HC := Lib.hid hcs; clear hcs
  have HW := Lib.hid hwl; clear hwl
  have HC' := Lib.hid hcs'; clear hcs'
  have HW' := Lib.hid hwl'; clear hwl'
  have hq := fun w => run_eqF a.f b.f w
  cases hE : eqF a.f b.f with
  | false =>
    have HE : Hid (sameDK a b = false) := Lib.hid (by unfold sameDK; rw [hE]; rfl)
    rw [hE] at hq
    clear hE
    go_enter Try.func5, Try.ntmps5
    go_wp2_with fail
    go_ret
    exact ⟨ret_bool HE.out.symm, ext_alloc (ext_alloc1 w _) _⟩
  | true =>
    rw [hE] at hq
    obtain ⟨q0, hq0⟩ : ∃ q, decide (a.log = b.log) = q := ⟨_, rfl⟩
    have HE1 : Hid (sameDK a b = (q0 && sameB a.nm b.nm a.cs b.cs && sameT a.wall b.wall)) := Lib.hid (by unfold sameDK; rw [hE, hq0]; rfl)
    clear hE
    have HSB := Lib.hid (fun w h1 h2 => spec_SameBond A A' c c' a.nm b.nm a.cs b.cs w h1 h2)
    obtain ⟨q1, hq1⟩ : ∃ q, sameB a.nm b.nm a.cs b.cs = q := ⟨_, rfl⟩
    have HST := Lib.hid (fun w h1 h2 => spec_l14Same (.slice B a.wall.length e) (.slice B' b.wall.length e') a.wall b.wall w h1 h2)
    obtain ⟨q2, hq2⟩ : ∃ q, sameT a.wall b.wall = q := ⟨_, rfl⟩
    rw [hq1, hq2] at HE1
    rw [hq1] at HSB
    rw [hq2] at HST
    have HQ0 := Lib.hid hq0
    clear hq1 hq2 hq0
    go_enter Try.func5, Try.ntmps5
    go_wp2_with fail
    refine (show Calls _ _ _ _ _ from HSB.out _ ((HC.out.alloc _).alloc _) ((HC'.out.alloc _).alloc _)).mono ?_
    rintro ee w1 ⟨rfl, hb1⟩
    have k6 := cell_keep (p := ⟨w.heap.size, 6, none⟩) (v := .slice B a.wall.length e) (by simp [go_sem]) hb1
    have j6 := cell_keep (p := ⟨w.heap.size + 1, 6, none⟩) (v := .slice B' b.wall.length e') (by simp [go_sem]) hb1
    have k7 := cell_keep (p := ⟨w.heap.size, 7, none⟩) (v := .string a.log) (by simp [go_sem]) hb1
    have j7 := cell_keep (p := ⟨w.heap.size + 1, 7, none⟩) (v := .string b.log) (by simp [go_sem]) hb1
    have HB := Lib.hid (ext_trans (ext_alloc (ext_alloc1 w _) _) hb1)
    clear hb1
    cases q1
    · go_wp2_with fail
      go_ret
      exact ⟨ret_bool (by rw [HE1.out]; simp), HB.out⟩
    · go_wp2_with fail
      refine (show Calls _ _ _ _ _ from HST.out _ (HW.out.ext HB.out) (HW'.out.ext HB.out)).mono ?_
      rintro ee w2 ⟨rfl, hb2⟩
      have HB2 := Lib.hid (ext_trans HB.out hb2)
      replace k7 := cell_keep k7 hb2
      replace j7 := cell_keep j7 hb2
      clear hb2 k6 j6
      cases q2
      · go_wp2_with fail
        go_ret
        exact ⟨ret_bool (by rw [HE1.out]; simp), HB2.out⟩
      · by_cases hn : a.log = b.log
        · have hq1 : q0 = true := by rw [← HQ0.out]; exact decide_eq_true hn
          rw [hn] at k7
          clear hn
          go_wp2_with fail
          go_ret
          exact ⟨ret_bool (by rw [HE1.out, hq1]; rfl), HB2.out⟩
        · have hq1 : q0 = false := by rw [← HQ0.out]; exact decide_eq_false hn
          have p1 := str_ne hn
          have p2 : ¬ a.log.toList = b.log.toList := fun h => hn ((bs_iff _ _).1 h)
          clear hn
          go_wp2_with fail
          go_ret
          exact ⟨ret_bool (by rw [HE1.out, hq1]; rfl), HB2.out⟩
end Go.Proofs.Ytpoalklakhegoaa
