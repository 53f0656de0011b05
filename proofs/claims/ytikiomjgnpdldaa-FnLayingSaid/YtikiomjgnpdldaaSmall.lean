/-
  Small functions of the reference and the program that everything else calls: ranges, least and greatest, searches in slices of ints.
-/
import Derived.Test.YtikiomjgnpdldaaInts
namespace Go.Proofs.Ytikiomjgnpdldaa
open Go.ChangeShapes Go.WideShapes Go.ChangeAt Go.RowKit Go.Sort

/-- Is n between lo and hi? -/
def inB (n lo hi : Int) : Bool := decide (lo ≤ n ∧ n ≤ hi)
theorem inB_yes {n lo hi : Int} (h1 : lo ≤ n) (h2 : n ≤ hi) : inB n lo hi = true := by simp [inB, h1, h2]
theorem inB_no {n lo hi : Int} (h : ¬ (lo ≤ n ∧ n ≤ hi)) : inB n lo hi = false := by simp [inB]; omega
theorem inB_iff {n lo hi : Int} : inB n lo hi = true ↔ lo ≤ n ∧ n ≤ hi := by simp [inB]
theorem inB_false {n lo hi : Int} : inB n lo hi = false ↔ ¬ (lo ≤ n ∧ n ≤ hi) := by simp [inB]

theorem any_take_succ (p : Int → Bool) {xs : List Int} {k : Nat} (hk : k < xs.length) : (xs.take (k + 1)).any p = ((xs.take k).any p || p (xs.getD k 0)) := by
  rw [take_succ_getD hk]; simp
theorem any_hit (p : Int → Bool) {xs : List Int} {k : Nat} (hk : k < xs.length) (h : p (xs.getD k 0) = true) : xs.any p = true := by
  have h1 := any_take_succ p hk
  rw [h, Bool.or_true] at h1
  rw [List.any_eq_true] at h1 ⊢
  obtain ⟨x, hx, hp⟩ := h1
  exact ⟨x, List.mem_of_mem_take hx, hp⟩


theorem RetP.bool {P : Program} {f : FuncId} {args : Array Value} {w : World} {b c : Bool} (h : Calls P f args w (RetP (.bool b) w)) (e : b = c) : Calls P f args w (RetP (.bool c) w) := e ▸ h
theorem spec_in (n lo hi : Int) (w : World) : Calls Try.prog 50 #[.int .i64 n, .int .i64 lo, .int .i64 hi] w (RetP (.bool (inB n lo hi)) w) := by
  by_cases h1 : lo ≤ n
  · by_cases h2 : n ≤ hi
    · have HI := Lib.hid (inB_yes h1 h2)
      go_enter Try.func50, Try.ntmps50
      go_wp2
      go_ret
      exact ⟨ret_bool (by rw [HI.out]), rfl⟩
    · have HI := Lib.hid (inB_no (n := n) (lo := lo) (hi := hi) (by omega))
      go_enter Try.func50, Try.ntmps50
      go_wp2
      go_ret
      exact ⟨ret_bool (by rw [HI.out]), rfl⟩
  · have HI := Lib.hid (inB_no (n := n) (lo := lo) (hi := hi) (by omega))
    have h1' : decide (n ≥ lo) = false := by simp; omega
    go_enter Try.func50, Try.ntmps50
    go_wp2
    go_ret
    exact ⟨ret_bool (by rw [HI.out]), rfl⟩
theorem impl_within (n lo hi : Int) (w : World) : Calls Try.prog 46 #[.int .i64 n, .int .i64 lo, .int .i64 hi] w (RetP (.bool (inB n lo hi)) w) := by
  by_cases h1 : lo ≤ n
  · by_cases h2 : n ≤ hi
    · have HI := Lib.hid (inB_yes h1 h2)
      go_enter Try.func46, Try.ntmps46
      go_wp2
      go_ret
      exact ⟨ret_bool (by rw [HI.out]), rfl⟩
    · have HI := Lib.hid (inB_no (n := n) (lo := lo) (hi := hi) (by omega))
      go_enter Try.func46, Try.ntmps46
      go_wp2
      go_ret
      exact ⟨ret_bool (by rw [HI.out]), rfl⟩
  · have HI := Lib.hid (inB_no (n := n) (lo := lo) (hi := hi) (by omega))
    have h1' : decide (n ≥ lo) = false := by simp; omega
    go_enter Try.func46, Try.ntmps46
    go_wp2
    go_ret
    exact ⟨ret_bool (by rw [HI.out]), rfl⟩

def minI (a b : Int) : Int := if a < b then a else b
def maxI (a b : Int) : Int := if b < a then a else b
theorem minI_eq (a b : Int) : minI a b = min a b := by unfold minI; omega
theorem maxI_eq (a b : Int) : maxI a b = max a b := by unfold maxI; omega
theorem spec_min (a b : Int) (w : World) : Calls Try.prog 69 #[.int .i64 a, .int .i64 b] w (RetP (.int .i64 (minI a b)) w) := by
  by_cases h : a < b
  all_goals
    go_enter Try.func69, Try.ntmps69
    go_wp2
    go_ret
    exact ⟨ret_int (by unfold minI; split <;> omega), rfl⟩
theorem spec_max (a b : Int) (w : World) : Calls Try.prog 55 #[.int .i64 a, .int .i64 b] w (RetP (.int .i64 (maxI a b)) w) := by
  by_cases h : b < a
  all_goals
    go_enter Try.func55, Try.ntmps55
    go_wp2
    go_ret
    exact ⟨ret_int (by unfold maxI; split <;> omega), rfl⟩

/-- impl.outside's closure. -/
theorem outside_fn (n lo hi : Int) (bl bh : Addr) (w : World) (h1 : w.cell? bl = some (.int .i64 lo)) (h2 : w.cell? bh = some (.int .i64 hi)) :
    Calls Try.prog 81 #[.int .i64 n, .pointer (some bl), .pointer (some bh)] w (RetP (.bool (!inB n lo hi)) w) := by
  go_enter Try.func81, Try.ntmps81
  go_wp2_with (go_at_call 46; refine (impl_within n lo hi _).mono ?_; rintro e w' ⟨rfl, rfl⟩)
  go_ret
  exact ⟨rfl, rfl⟩

/-- Is a number of the list outside lo .. hi? -/
def outB (xs : List Int) (lo hi : Int) : Bool := xs.any fun n => !inB n lo hi

set_option maxHeartbeats 400000 in
theorem outside_idx (v : Value) (xs : List Int) (lo hi : Int) (bl bh : Addr) (w : World) (hR : RI w v xs) (h1 : w.cell? bl = some (.int .i64 lo)) (h2 : w.cell? bh = some (.int .i64 hi)) :
    Calls Try.prog 85 #[v, .func (.func 81) #[] #[.pointer (some bl), .pointer (some bh)]] w fun e w' => (∃ i : Int, e = .returned (.int .i64 i) ∧ (outB xs lo hi = true → 0 ≤ i) ∧ (outB xs lo hi = false → i = -1)) ∧ w = w' := by
  obtain ⟨A, c, rfl, hc1, hc2, HA'⟩ := hR.open_
  unfold maxLen at hc2
  have HA := Lib.hid HA'; clear HA' hR
  generalize hn : xs.length = n at *
  have HN := Lib.hid hn; clear hn
  go_enter Try.func85, Try.ntmps85
  go_wp2_with fail
  go_loop [8] (fun i => ∃ k : Nat, k ≤ n ∧ i = .int .i64 k ∧ Hid ((xs.take k).any (fun n => !inB n lo hi) = false)) (fun i => n - (intOf i).toNat)
  case atStart => exact ⟨0, Nat.zero_le _, rfl, by simp [Hid]⟩
  case round =>
    obtain ⟨k, hk, rfl, HT⟩ := hrel
    by_cases hlt : k < n
    · obtain ⟨ad, rfl, hbd, hc⟩ := HA.out k (by have := HN.out; omega)
      replace hc := hc k (by have := HN.out; omega)
      have e1 : (0:Int) ≤ k := by omega
      have e2 : (k:Int) < n := by omega
      have hst := any_take_succ (fun n => !inB n lo hi) (xs := xs) (k := k) (by rw [HN.out]; exact hlt)
      have HS := Lib.hid hst; clear hst
      have HB : Hid (outB xs lo hi = true → _) := Lib.hid fun (_ : outB xs lo hi = true) => Int.natCast_nonneg k
      go_wp2_with fail
      refine (outside_fn (xs.getD k 0) lo hi bl bh _ h1 h2).mono ?_
      rintro e w' ⟨rfl, rfl⟩
      cases hb : inB (xs.getD k 0) lo hi with
      | true =>
        have HX := Lib.hid hb; clear hb
        go_wp2_with fail
        go_round
        case rel => exact ⟨k + 1, by omega, by go_num, by have h := HS.out; rw [HT.out, HX.out] at h; exact h⟩
        case measure => simp [intOf]; omega
      | false =>
        have HX := Lib.hid hb; clear hb
        have hany : outB xs lo hi = true := any_hit (fun n => !inB n lo hi) (k := k) (by rw [HN.out]; exact hlt) (by rw [HX.out]; rfl)
        have HY := Lib.hid hany; clear hany
        go_wp2_with fail
        go_ret
        exact ⟨⟨_, rfl, fun _ => by omega, fun h => by rw [HY.out] at h; cases h⟩, rfl⟩
    · go_wp2_with fail
      go_ret
      have hkn : k = n := by omega
      subst hkn
      have h := HT.out
      rw [List.take_of_length_le (by rw [HN.out]; omega)] at h
      refine ⟨⟨_, rfl, fun h2 => ?_, fun _ => rfl⟩, rfl⟩
      unfold outB at h2; rw [h] at h2; cases h2

theorem outside_has (v : Value) (xs : List Int) (lo hi : Int) (bl bh : Addr) (w : World) (hR : RI w v xs) (h1 : w.cell? bl = some (.int .i64 lo)) (h2 : w.cell? bh = some (.int .i64 hi)) :
    Calls Try.prog 80 #[v, .func (.func 81) #[] #[.pointer (some bl), .pointer (some bh)]] w (RetP (.bool (outB xs lo hi)) w) := by
  obtain ⟨A, c, rfl, hc1, hc2, HA'⟩ := hR.open_
  clear HA'
  go_enter Try.func80, Try.ntmps80
  go_wp2_with fail
  refine (outside_idx _ xs lo hi bl bh _ hR h1 h2).mono ?_
  rintro e w' ⟨⟨i, rfl, hi1, hi2⟩, rfl⟩
  cases hb : outB xs lo hi with
  | true =>
    have h0 := hi1 hb
    have HB := Lib.hid hb
    clear hi1 hi2 hb
    go_wp2_with fail
    go_ret
    exact ⟨ret_bool (by rw [HB.out]), rfl⟩
  | false =>
    have h0 := hi2 hb
    subst h0
    have HB := Lib.hid hb
    clear hi1 hi2 hb
    go_wp2_with fail
    go_ret
    exact ⟨ret_bool (by rw [HB.out]), rfl⟩

theorem impl_outside (v : Value) (xs : List Int) (lo hi : Int) (w : World) (hR : RI w v xs) :
    Calls Try.prog 63 #[v, .int .i64 lo, .int .i64 hi] w (Ret (.bool (outB xs lo hi)) w) := by
  obtain ⟨A, c, rfl, hc1, hc2, HA'⟩ := hR.open_
  clear HA'
  have HR := Lib.hid hR; clear hR
  have hmf : ∀ (fn : Fn) (first cap : Array Value) (w : World), (Instr.makeFunc fn first cap).run Try.prog w = .ok (.func fn first cap) w := fun _ _ _ _ => rfl
  go_enter Try.func63, Try.ntmps63
  go_wp2_with fail
  refine (outside_has _ xs lo hi _ _ _ ((HR.out.alloc _).alloc _) (by simp [go_sem]) (by simp [go_sem])).mono ?_
  rintro e w' ⟨rfl, rfl⟩
  go_wp2_with fail
  go_ret
  exact ⟨rfl, ext_alloc (ext_alloc1 _ _) _⟩

/-- Does the list have m? -/
def hasB (xs : List Int) (m : Int) : Bool := xs.any fun n => n == m

theorem spec_has (v : Value) (xs : List Int) (m : Int) (w : World) (hR : RI w v xs) :
    Calls Try.prog 78 #[v, .int .i64 m] w (RetP (.bool (hasB xs m)) w) := by
  obtain ⟨A, c, rfl, hc1, hc2, HA'⟩ := hR.open_
  unfold maxLen at hc2
  have HA := Lib.hid HA'; clear HA' hR
  generalize hn : xs.length = n at *
  have HN := Lib.hid hn; clear hn
  go_enter Try.func78, Try.ntmps78
  go_wp2_with fail
  go_loop [5] (fun i => ∃ k : Nat, k ≤ n ∧ i = .int .i64 k ∧ Hid ((xs.take k).any (fun n => n == m) = false)) (fun i => n - (intOf i).toNat)
  case atStart => exact ⟨0, Nat.zero_le _, rfl, by simp [Hid]⟩
  case round =>
    obtain ⟨k, hk, rfl, HT⟩ := hrel
    by_cases hlt : k < n
    · obtain ⟨ad, rfl, hbd, hc⟩ := HA.out k (by have := HN.out; omega)
      replace hc := hc k (by have := HN.out; omega)
      have e1 : (0:Int) ≤ k := by omega
      have e2 : (k:Int) < n := by omega
      have HS := Lib.hid (any_take_succ (fun n => n == m) (xs := xs) (k := k) (by rw [HN.out]; exact hlt))
      have HY := Lib.hid (fun h => any_hit (fun n => n == m) (xs := xs) (k := k) (by rw [HN.out]; exact hlt) h)
      go_wp2_with fail
      · go_ret
        have he : (xs[k]?.getD 0 == m) = true := by assumption
        have hy := HY.out (by simpa using he)
        exact ⟨ret_bool (by unfold hasB; rw [hy]), rfl⟩
      · go_round
        case rel =>
          have he : (xs[k]?.getD 0 == m) = false := by assumption
          exact ⟨k + 1, by omega, by go_num, by have h := HS.out; rw [HT.out] at h; unfold Hid; rw [h]; simpa using he⟩
        case measure => simp [intOf]; omega
    · go_wp2_with fail
      go_ret
      have hkn : k = n := by omega
      subst hkn
      have h := HT.out
      rw [List.take_of_length_le (by rw [HN.out]; omega)] at h
      exact ⟨ret_bool (by unfold hasB; rw [h]), rfl⟩

/-- Do the first k numbers rise, each from lo to hi? -/
def rises (xs : List Int) (lo hi : Int) (k : Nat) : Bool := (List.range k).all fun i => inB (xs.getD i 0) lo hi && (i == 0 || decide (xs.getD (i - 1) 0 < xs.getD i 0))
def risesB (xs : List Int) (lo hi : Int) : Bool := rises xs lo hi xs.length
theorem rises_succ (xs : List Int) (lo hi : Int) (k : Nat) : rises xs lo hi (k + 1) = (rises xs lo hi k && (inB (xs.getD k 0) lo hi && (k == 0 || decide (xs.getD (k - 1) 0 < xs.getD k 0)))) := by
  simp [rises, List.range_succ]
theorem rises_no {xs : List Int} {lo hi : Int} {k : Nat} (hk : k < xs.length) (h : (inB (xs.getD k 0) lo hi && (k == 0 || decide (xs.getD (k - 1) 0 < xs.getD k 0))) = false) : risesB xs lo hi = false := by
  unfold risesB rises
  rw [List.all_eq_false]
  exact ⟨k, by simpa using hk, by rw [h]; simp⟩

set_option maxHeartbeats 800000 in
theorem spec_rises (v : Value) (xs : List Int) (lo hi : Int) (w : World) (hR : RI w v xs) :
    Calls Try.prog 77 #[v, .int .i64 lo, .int .i64 hi] w (Ret (.bool (risesB xs lo hi)) w) := by
  obtain ⟨A, c, rfl, hc1, hc2, HA'⟩ := hR.open_
  unfold maxLen at hc2
  have HA := Lib.hid HA'; clear HA' hR
  generalize hn : xs.length = n at *
  have HN := Lib.hid hn; clear hn
  go_enter Try.func77, Try.ntmps77
  go_wp2_with fail
  go_loopw [7] (fun i wr => ∃ k q : Nat, k ≤ n ∧ i = .int .i64 k ∧ wr = w.drewN q ∧ Hid (rises xs lo hi k = true)) (fun i _ => n - (intOf i).toNat)
  case atStart => exact ⟨0, 0, Nat.zero_le _, rfl, rfl, rfl⟩
  case round =>
    obtain ⟨k, q, hk, rfl, rfl, HT⟩ := hrel
    by_cases hlt : k < n
    · obtain ⟨ad, rfl, hbd, hc⟩ := HA.out k (by have := HN.out; omega)
      have hc0 := hc k (by have := HN.out; omega)
      have e1 : (0:Int) ≤ k := by omega
      have e2 : (k:Int) < n := by omega
      have HS := Lib.hid (rises_succ xs lo hi k)
      have HX := Lib.hid (fun h => rises_no (xs := xs) (lo := lo) (hi := hi) (k := k) (by rw [HN.out]; exact hlt) h)
      cases hb : inB (xs.getD k 0) lo hi with
      | false =>
        have HB := Lib.hid hb; clear hb
        clear hc
        go_wp2_with fail
        go_quiet ((go_at_call 50; exact quiet_p2 (RetP.bool (spec_in _ lo hi _) HB.out)))
        go_wp2_with fail
        go_ret
        exact ⟨ret_bool (by rw [HX.out (by rw [HB.out]; rfl)]), ext_drewN (ext_drewN (ext_refl _) _) _⟩
      | true =>
        have HB := Lib.hid hb; clear hb
        by_cases h0 : k = 0
        · have e4 : decide (0 < k) = false := by simp; omega
          have H0 := Lib.hid h0; clear h0
          clear hc
          go_wp2_with fail
          go_quiet ((go_at_call 50; exact quiet_p2 (RetP.bool (spec_in _ lo hi _) HB.out)))
          go_wp2_with fail
          go_roundw
          case rel => exact ⟨k + 1, _, by omega, by go_num, rfl, by unfold Hid; rw [HS.out, HT.out, HB.out]; simp [H0.out]⟩
          case measure => simp [intOf]; omega
        · have hc1' := hc (k - 1) (by have := HN.out; omega)
          clear hc
          have e3 : (0:Int) < k := by omega
          have e4 : decide (0 < k) = true := by simp; omega
          have e5 : (0:Int) ≤ (k:Int) - 1 := by omega
          have e6 : (k:Int) - 1 < n := by omega
          have e7 : ((k:Int) - 1).toNat = k - 1 := by omega
          by_cases hlt2 : xs.getD (k - 1) 0 < xs.getD k 0
          · have e8 : decide (xs[k]?.getD 0 ≤ xs[k - 1]?.getD 0) = false := by simpa using hlt2
            have HL := Lib.hid hlt2; clear hlt2
            go_wp2_with fail
            go_quiet ((go_at_call 50; exact quiet_p2 (RetP.bool (spec_in _ lo hi _) HB.out)))
            go_wp2_with fail
            go_roundw
            case rel => exact ⟨k + 1, _, by omega, by go_num, rfl, by unfold Hid; rw [HS.out, HT.out, HB.out, decide_eq_true HL.out]; simp⟩
            case measure => simp [intOf]; omega
          · have e8 : decide (xs[k]?.getD 0 ≤ xs[k - 1]?.getD 0) = true := by simpa using hlt2
            have HL := Lib.hid hlt2; clear hlt2
            go_wp2_with fail
            go_quiet ((go_at_call 50; exact quiet_p2 (RetP.bool (spec_in _ lo hi _) HB.out)))
            go_wp2_with fail
            go_ret
            exact ⟨ret_bool (by rw [HX.out (by rw [HB.out, decide_eq_false (Int.not_lt.2 HL.out)]; simp; exact h0)]), ext_drewN (ext_drewN (ext_refl _) _) _⟩
    · go_wp2_with fail
      go_ret
      have hkn : k = n := by omega
      subst hkn
      refine ⟨ret_bool ?_, ext_drewN (ext_refl _) _⟩
      unfold risesB
      rw [HN.out, HT.out]

set_option maxHeartbeats 400000 in
theorem sl_index (v : Value) (xs : List Int) (m : Int) (w : World) (hR : RI w v xs) :
    Calls Try.prog 83 #[v, .int .i64 m] w fun e w' => (∃ i : Int, e = .returned (.int .i64 i) ∧ (hasB xs m = true → 0 ≤ i) ∧ (hasB xs m = false → i = -1)) ∧ w = w' := by
  obtain ⟨A, c, rfl, hc1, hc2, HA'⟩ := hR.open_
  unfold maxLen at hc2
  have HA := Lib.hid HA'; clear HA' hR
  generalize hn : xs.length = n at *
  have HN := Lib.hid hn; clear hn
  go_enter Try.func83, Try.ntmps83
  go_wp2_with fail
  go_loop [8] (fun i => ∃ k : Nat, k ≤ n ∧ i = .int .i64 k ∧ Hid ((xs.take k).any (fun n => n == m) = false)) (fun i => n - (intOf i).toNat)
  case atStart => exact ⟨0, Nat.zero_le _, rfl, by simp [Hid]⟩
  case round =>
    obtain ⟨k, hk, rfl, HT⟩ := hrel
    by_cases hlt : k < n
    · obtain ⟨ad, rfl, hbd, hc⟩ := HA.out k (by have := HN.out; omega)
      replace hc := hc k (by have := HN.out; omega)
      have e1 : (0:Int) ≤ k := by omega
      have e2 : (k:Int) < n := by omega
      have HS := Lib.hid (any_take_succ (fun n => n == m) (xs := xs) (k := k) (by rw [HN.out]; exact hlt))
      have HY := Lib.hid (fun h => any_hit (fun n => n == m) (xs := xs) (k := k) (by rw [HN.out]; exact hlt) h)
      go_wp2_with fail
      · go_ret
        have he : (m == xs[k]?.getD 0) = true := by assumption
        have hy : hasB xs m = true := HY.out (by simpa using Eq.symm (by simpa using he))
        exact ⟨⟨_, rfl, fun _ => by omega, fun h => by rw [hy] at h; cases h⟩, rfl⟩
      · go_round
        case rel =>
          have he : (m == xs[k]?.getD 0) = false := by assumption
          exact ⟨k + 1, by omega, by go_num, by have h := HS.out; rw [HT.out] at h; unfold Hid; rw [h]; simp at he ⊢; exact fun h => he h.symm⟩
        case measure => simp [intOf]; omega
    · go_wp2_with fail
      go_ret
      have hkn : k = n := by omega
      subst hkn
      have h := HT.out
      rw [List.take_of_length_le (by rw [HN.out]; omega)] at h
      exact ⟨⟨_, rfl, (fun h2 => by unfold hasB at h2; rw [h] at h2; cases h2), fun _ => rfl⟩, rfl⟩
theorem sl_contains (v : Value) (xs : List Int) (m : Int) (w : World) (hR : RI w v xs) :
    Calls Try.prog 76 #[v, .int .i64 m] w (RetP (.bool (hasB xs m)) w) := by
  obtain ⟨A, c, rfl, hc1, hc2, HA'⟩ := hR.open_
  clear HA'
  go_enter Try.func76, Try.ntmps76
  go_wp2_with fail
  refine (sl_index _ xs m _ hR).mono ?_
  rintro e w' ⟨⟨i, rfl, hi1, hi2⟩, rfl⟩
  cases hb : hasB xs m with
  | true =>
    have h0 := hi1 hb
    have HB := Lib.hid hb
    clear hi1 hi2 hb
    go_wp2_with fail
    go_ret
    exact ⟨ret_bool (by rw [HB.out]), rfl⟩
  | false =>
    have h0 := hi2 hb
    subst h0
    have HB := Lib.hid hb
    clear hi1 hi2 hb
    go_wp2_with fail
    go_ret
    exact ⟨ret_bool (by rw [HB.out]), rfl⟩

end Go.Proofs.Ytikiomjgnpdldaa
