/-
  Days at the site, eighth part: frost.
-/
import Derived.Test.YtikiomjgnpdldaaDays7
import Derived.Test.YtikiomjgnpdldaaShelf
namespace Go.Proofs.Ytikiomjgnpdldaa
open Go.ChangeShapes Go.WideShapes Go.ChangeAt Go.RowKit Go.Sort

/-- Is there frost on a day from d on, before day k? -/
def frTo (s : ByteArray) (d k : Nat) : Bool := (List.range' d (k - d)).any fun j => byt s j == 102
theorem frTo_self (s : ByteArray) (d : Nat) : frTo s d d = false := by simp [frTo]
theorem frTo_succ (s : ByteArray) {d k : Nat} (h : d ≤ k) : frTo s d (k + 1) = (frTo s d k || byt s k == 102) := by
  unfold frTo
  rw [show k + 1 - d = (k - d) + 1 from by omega, List.range'_concat, List.any_append]
  simp [show d + (k - d) = k from by omega]
theorem frTo_hit {s : ByteArray} {d k n : Nat} (h1 : d ≤ k) (h2 : k < n) (h : (byt s k == 102) = true) : frTo s d n = true := by
  unfold frTo
  rw [List.any_eq_true]
  exact ⟨k, by rw [List.mem_range'_1]; omega, h⟩
/-- Is there frost on a day or one of the next ones? -/
def frostB (s : ByteArray) (d cure : Nat) : Bool := frTo s d (min (d + cure + 1) s.size)

set_option maxHeartbeats 800000 in
theorem spec_frost (b : Nat) (s : ByteArray) (xs : List Int) (d cure : Nat) (hd : d < s.size) (hcu : cure ≤ 28) (hs : s.size ≤ 1048576) (w : World) (hP : PS w b s xs) :
    Calls Try.prog 71 #[.pointer (some ⟨b, 0, none⟩), .int .i64 d, .int .i64 cure] w (RetP (.bool (frostB s d cure)) w) := by
  obtain ⟨hc0, hr⟩ := hP
  clear hr
  go_enter Try.func71, Try.ntmps71
  go_wp2_with fail
  go_loop [7] (fun i => ∃ k : Nat, d ≤ k ∧ k ≤ d + cure + 1 ∧ k ≤ s.size ∧ i = .int .i64 k ∧ Hid (frTo s d k = false)) (fun i => s.size - (intOf i).toNat)
  case atStart => exact ⟨d, Nat.le_refl _, by omega, by omega, rfl, frTo_self s d⟩
  case round =>
    obtain ⟨k, hk1, hk2, hk3, rfl, HT⟩ := hrel
    by_cases hlt : k < s.size
    · have e1 : (0:Int) ≤ k := by omega
      have e2 : (k:Int) < s.size := by omega
      have e3 : (k:Int) ≤ 1048576 := by omega
      by_cases hle : k ≤ d + cure
      · have e4 : (k:Int) ≤ d + cure := by omega
        have HB := Lib.hid (byt_eq s k hlt)
        have HSU := Lib.hid (frTo_succ s hk1)
        cases hq : ((s[k].toNat : Int) == 102) with
        | true =>
          have HQ := Lib.hid hq
          go_wp2_with fail
          go_ret
          exact ⟨ret_bool (by unfold frostB; rw [frTo_hit hk1 (show k < _ by omega) (by rw [← HB.out]; exact HQ.out)]), rfl⟩
        | false =>
          have HQ := Lib.hid hq
          go_wp2_with fail
          go_round
          case rel => exact ⟨k + 1, by omega, by omega, by omega, by go_num, by unfold Hid; rw [HSU.out, HT.out, ← HB.out, HQ.out]; rfl⟩
          case measure => simp [intOf]; omega
      · have e4 : ¬ (k:Int) ≤ d + cure := by omega
        go_wp2_with fail
        go_ret
        exact ⟨ret_bool (by unfold frostB; rw [show min (d + cure + 1) s.size = k from by omega]; exact HT.out.symm), rfl⟩
    · have e2 : ¬ (k:Int) < s.size := by omega
      go_wp2_with fail
      go_ret
      exact ⟨ret_bool (by unfold frostB; rw [show min (d + cure + 1) s.size = k from by omega]; exact HT.out.symm), rfl⟩

theorem idx_any (l : List UInt8) (c : UInt8) : decide (0 ≤ Lib.indexByte l c) = l.any (· == c) := by
  induction l with
  | nil => rfl
  | cons a l ih =>
    have hg := Lib.indexByte_ge l c
    rw [List.any_cons, ← ih]
    rw [show Lib.indexByte (a :: l) c = (if a == c then 0 else if Lib.indexByte l c == -1 then -1 else Lib.indexByte l c + 1) from rfl]
    generalize Lib.indexByte l c = z at *
    cases h : (a == c)
    · by_cases h2 : z = -1
      · subst h2; simp
      · have h4 : (z == -1) = false := by simpa using h2
        simp [h4]; omega
    · simp
theorem byt_lt {s : ByteArray} {k : Nat} (h : k < s.data.toList.length) : byt s k = (s.data.toList[k].toNat : Int) := by
  unfold byt
  rw [List.getD_eq_getElem?_getD, List.getElem?_eq_getElem h]; rfl
theorem byte_is (c : UInt8) : (c == 102) = ((c.toNat : Int) == 102) := by
  have h : ∀ i : Fin 256, ((UInt8.ofNat i.val) == 102) = (((UInt8.ofNat i.val).toNat : Int) == 102) := by decide +kernel
  have := h ⟨c.toNat, c.toNat_lt⟩
  simpa using this
theorem frost_sub {s : ByteArray} {d cure : Nat} (hd : d < s.size) : decide (0 ≤ Lib.indexByte (s.extract d (min ((d:Int) + cure + 1) s.size).toNat).data.toList 102) = frostB s d cure := by
  rw [idx_any, show (min ((d:Int) + cure + 1) s.size).toNat = min (d + cure + 1) s.size from by omega]
  unfold frostB frTo
  generalize hm : min (d + cure + 1) s.size = m
  have hm2 : m ≤ s.data.toList.length := by have : s.data.toList.length = s.size := by simp
                                            omega
  have he : (s.extract d m).data.toList = (s.data.toList.drop d).take (m - d) := by simp [List.extract_eq_take_drop]
  rw [he, Bool.eq_iff_iff, List.any_eq_true, List.any_eq_true]
  constructor
  · rintro ⟨x, hx, hq⟩
    obtain ⟨i, hi, rfl⟩ := List.getElem_of_mem hx
    simp only [List.length_take, List.length_drop] at hi
    refine ⟨d + i, by rw [List.mem_range'_1]; omega, ?_⟩
    rw [byt_lt (by omega), ← byte_is]
    simpa using hq
  · rintro ⟨i, hi, hq⟩
    rw [List.mem_range'_1] at hi
    rw [byt_lt (by omega), ← byte_is] at hq
    refine ⟨_, ?_, hq⟩
    rw [List.mem_iff_getElem]
    exact ⟨i - d, by simp only [List.length_take, List.length_drop]; omega, by simp [show d + (i - d) = i from by omega]⟩

theorem contains_one (s : ByteArray) (c : UInt8) (w : World) : Calls Try.prog 82 #[.string s, .string ⟨#[c]⟩] w (RetP (.bool (decide (0 ≤ Lib.indexByte s.data.toList c))) w) :=
  (Try.strings_Contains_one s c w).mono fun _ _ h => ⟨h.1, h.2.symm⟩

set_option maxHeartbeats 800000 in
theorem impl_frost (v : Value) (s : ByteArray) (xs : List Int) (d cure : Nat) (hd : d < s.size) (hcu : cure ≤ 28) (hs : s.size ≤ 1048576) (w : World) (hS : ST w v s xs) :
    Calls Try.prog 70 #[v, .int .i64 d, .int .i64 cure] w (Ret (.bool (frostB s d cure)) w) := by
  obtain ⟨A, c, rfl, hf⟩ := hS
  have HF := Lib.hid hf; clear hf
  have HM : Hid (s.size ≤ maxLen) := Lib.hid (by unfold maxLen; omega)
  have hk0 : ∀ d os, (grow (redrawn (w.alloc (.cells #[.string s, .slice A xs.length c] 26)) d) os).cell? ⟨w.heap.size, 0, none⟩ = some (.string s) := fun d os => cell_regrown (by simp [go_sem]) d os
  have hk1 : ∀ d os, (grow (redrawn (w.alloc (.cells #[.string s, .slice A xs.length c] 26)) d) os).cell? ⟨w.heap.size, 1, none⟩ = some (.slice A xs.length c) := fun d os => cell_regrown (by simp [go_sem]) d os
  have HX : Hid (∀ d os, RI (grow (redrawn (w.alloc (.cells #[.string s, .slice A xs.length c] 26)) d) os) (.slice A xs.length c) xs) := Lib.hid fun d os => (HF.out.alloc _).ext (below_regrown _ _ _)
  have e1 : (0:Int) ≤ d := by omega
  have e2 : (d:Int) < s.size := by omega
  have e3 : (d:Int) ≤ 1048576 := by omega
  go_enter Try.func70, Try.ntmps70
  go_wp2_with fail
  refine wp_region_quiet_below (by kernel_rfl) (by kernel_rfl) ?_
  repeat (go_big_quiet_step ((go_at_call 47; exact regrown_r (impl_days _ s xs HM.out _ ⟨_, _, rfl, HX.out _ _⟩))))
  go_big_quiet_step ((go_at_call 82; exact regrown_p (RetP.bool (contains_one _ _ _) (frost_sub hd))))
  repeat (go_big_quiet_step (fail))
  refine wpQuiet_nil ?_
  intro w' hw'
  obtain ⟨p, rfl⟩ := hw'
  go_wp2_with fail
  go_ret
  exact ⟨rfl, ext_trans (ext_alloc1 _ _) (below_regrown _ _ _)⟩

end Go.Proofs.Ytikiomjgnpdldaa
