/-
  Days at the site: what the reference's and the program's functions return, in plain words (letB, vSite, hoursM ..), and their walks.
-/
import Derived.Test.YtikiomjgnpdldaaSmall
import Derived.Test.YtikiomjgnpdldaaSite
import Derived.Test.YtikiomjgnpdldaaShelf
namespace Go.Proofs.Ytikiomjgnpdldaa
open Go.ChangeShapes Go.WideShapes Go.ChangeAt Go.RowKit Go.Sort

/-- Byte k of a text, as a number. -/
def byt (s : ByteArray) (k : Nat) : Int := ((s.data.toList.getD k 0).toNat : Int)
theorem byt_eq (s : ByteArray) (k : Nat) (h : k < s.size) : (s[k].toNat : Int) = byt s k := by
  have h' : k < s.data.toList.length := by simpa using h
  unfold byt
  rw [List.getD_eq_getElem?_getD, List.getElem?_eq_getElem h']
  rfl
def letB (c : Int) : Bool := c == 100 || c == 109 || c == 114 || c == 102
def lets (s : ByteArray) (k : Nat) : Bool := (List.range k).all fun i => letB (byt s i)
theorem lets_succ (s : ByteArray) (k : Nat) : lets s (k + 1) = (lets s k && letB (byt s k)) := by simp [lets, List.range_succ]
theorem lets_no {s : ByteArray} {k n : Nat} (hk : k < n) (h : letB (byt s k) = false) : lets s n = false := by
  unfold lets
  rw [List.all_eq_false]
  exact ⟨k, by simpa using hk, by simp [h]⟩
/-- A valid site. -/
def vSite (s : ByteArray) (xs : List Int) : Bool := lets s s.size && decide (s.size ≤ 120) && decide (xs.length ≤ 20) && risesB xs 0 ((s.size : Int) - 1)

/-- The cells of a Site behind a pointer. -/
def PS (w : World) (b : Nat) (s : ByteArray) (xs : List Int) : Prop := w.cell? ⟨b, 0, none⟩ = some (.string s) ∧ ∃ A c, w.cell? ⟨b, 1, none⟩ = some (.slice A xs.length c) ∧ RI w (.slice A xs.length c) xs
theorem PS.ext {w w' : World} {b : Nat} {s : ByteArray} {xs : List Int} (h : PS w b s xs) (hb : Below w.heap.size w w') : PS w' b s xs := by
  obtain ⟨h1, A, c, h2, h3⟩ := h; exact ⟨cell_keep h1 hb, A, c, cell_keep h2 hb, h3.ext hb⟩

theorem spec_letter (c : Int) (w : World) : Calls Try.prog 74 #[.int .u8 c] w (RetP (.bool (letB c)) w) := by
  cases h1 : (c == 100)
  · cases h2 : (c == 109)
    · cases h3 : (c == 114)
      · have HX : Hid (letB c = (c == 102)) := Lib.hid (by simp [letB, h1, h2, h3])
        go_enter Try.func74, Try.ntmps74
        go_wp2
        go_ret
        exact ⟨ret_bool (by rw [HX.out]), rfl⟩
      · have HX : Hid (letB c = true) := Lib.hid (by simp [letB, h1, h2, h3])
        go_enter Try.func74, Try.ntmps74
        go_wp2
        go_ret
        exact ⟨ret_bool (by rw [HX.out]), rfl⟩
    · have HX : Hid (letB c = true) := Lib.hid (by simp [letB, h1, h2])
      go_enter Try.func74, Try.ntmps74
      go_wp2
      go_ret
      exact ⟨ret_bool (by rw [HX.out]), rfl⟩
  · have HX : Hid (letB c = true) := Lib.hid (by simp [letB, h1])
    go_enter Try.func74, Try.ntmps74
    go_wp2
    go_ret
    exact ⟨ret_bool (by rw [HX.out]), rfl⟩

theorem idx_letters (c : UInt8) : decide (Lib.indexByte [100, 109, 114, 102] c < 0) = !letB c.toNat := by
  have h : ∀ i : Fin 256, decide (Lib.indexByte [100, 109, 114, 102] (UInt8.ofNat i.val) < 0) = !letB ((UInt8.ofNat i.val).toNat : Int) := by decide +kernel
  have := h ⟨c.toNat, c.toNat_lt⟩
  simpa using this

theorem only_letters (s : ByteArray) (hs : s.size ≤ maxLen) (w : World) :
    Calls Try.prog 62 #[.string s, .string ⟨#[100, 109, 114, 102]⟩] w (RetP (.bool (lets s s.size)) w) := by
  unfold maxLen at hs
  go_enter Try.func62, Try.ntmps62
  go_wp2_with fail
  go_loop [8] (fun i => ∃ k : Nat, k ≤ s.size ∧ i = .int .i64 k ∧ Hid (lets s k = true)) (fun i => s.size - (intOf i).toNat)
  case atStart => exact ⟨0, Nat.zero_le _, rfl, rfl⟩
  case round =>
    obtain ⟨k, hk, rfl, HT⟩ := hrel
    by_cases hlt : k < s.size
    · have e1 : (0:Int) ≤ k := by omega
      have e2 : (k:Int) < s.size := by omega
      have hl := idx_letters s[k]
      rw [byt_eq s k hlt] at hl
      go_wp2_with fail
      refine (Try.strings_IndexByte ⟨#[100, 109, 114, 102]⟩ (s[k].toNat : Int) _).mono ?_
      rintro e w' ⟨rfl, rfl⟩
      have hc : ((s[k].toNat : Int)).toNat.toUInt8 = s[k] := by simp
      rw [hc]
      cases hb : letB (byt s k) with
      | true =>
        rw [hb] at hl
        have HB := Lib.hid hb; clear hb hc
        have h0 : 0 ≤ Lib.indexByte [100, 109, 114, 102] s[k] := by simpa using hl
        clear hl
        generalize Lib.indexByte _ s[k] = q at *
        go_wp2_with fail
        go_round
        case rel => exact ⟨k + 1, by omega, by go_num, by unfold Hid; rw [lets_succ, HT.out, HB.out]; rfl⟩
        case measure => simp [intOf]; omega
      | false =>
        rw [hb] at hl
        have HB := Lib.hid hb; clear hb hc
        have h0 : Lib.indexByte [100, 109, 114, 102] s[k] < 0 := by simpa using hl
        clear hl
        generalize Lib.indexByte _ s[k] = q at *
        go_wp2_with fail
        go_ret
        exact ⟨ret_bool (lets_no hlt HB.out).symm, rfl⟩
    · go_wp2_with fail
      go_ret
      have hkn : k = s.size := by omega
      subst hkn
      exact ⟨ret_bool HT.out.symm, rfl⟩

set_option maxHeartbeats 1000000 in
theorem spec_ok (b : Nat) (s : ByteArray) (xs : List Int) (hs : s.size ≤ maxLen) (w : World) (hP : PS w b s xs) :
    Calls Try.prog 53 #[.pointer (some ⟨b, 0, none⟩)] w (Ret (.bool (vSite s xs)) w) := by
  obtain ⟨hc0, A, c, hc1, hR⟩ := hP
  have HR := Lib.hid hR; clear hR
  unfold maxLen at hs
  have hxl : xs.length ≤ 9223372036854775807 := by obtain ⟨_, _, _, hv, h1, h2, _⟩ := HR.out; unfold maxLen at h2; simp at hv; omega
  go_enter Try.func53, Try.ntmps53
  go_wp2_with fail
  go_loop [3] (fun i => ∃ k : Nat, k ≤ s.size ∧ i = .int .i64 k ∧ Hid (lets s k = true)) (fun i => s.size - (intOf i).toNat)
  case atStart => exact ⟨0, Nat.zero_le _, rfl, rfl⟩
  case round =>
    obtain ⟨k, hk, rfl, HT⟩ := hrel
    by_cases hlt : k < s.size
    · have e1 : (0:Int) ≤ k := by omega
      have e2 : (k:Int) < s.size := by omega
      go_wp2_with fail
      refine (spec_letter (s[k].toNat : Int) _).mono ?_
      rintro e w' ⟨rfl, rfl⟩
      rw [byt_eq s k hlt]
      cases hb : letB (byt s k) with
      | true =>
        have HB := Lib.hid hb; clear hb
        go_wp2_with fail
        go_round
        case rel => exact ⟨k + 1, by omega, by go_num, by unfold Hid; rw [lets_succ, HT.out, HB.out]; rfl⟩
        case measure => simp [intOf]; omega
      | false =>
        have HB := Lib.hid hb; clear hb
        go_wp2_with fail
        go_ret
        exact ⟨ret_bool (by unfold vSite; rw [lets_no hlt HB.out]; rfl), ext_refl _⟩
    · have hkn : k = s.size := by omega
      subst hkn
      by_cases h1 : s.size ≤ 120
      · by_cases h2 : xs.length ≤ 20
        · have e1 : (s.size : Int) ≤ 120 := by omega
          have e2 : (xs.length : Int) ≤ 20 := by omega
          go_wp2_with fail
          refine (spec_rises _ xs 0 ((s.size : Int) - 1) _ HR.out).mono ?_
          rintro e w' ⟨rfl, hb⟩
          go_wp2_with fail
          go_ret
          exact ⟨ret_bool (by unfold vSite; rw [HT.out, decide_eq_true h1, decide_eq_true h2]; rfl), hb⟩
        · have e1 : (s.size : Int) ≤ 120 := by omega
          have e2 : ¬ (xs.length : Int) ≤ 20 := by omega
          go_wp2_with fail
          go_ret
          exact ⟨ret_bool (by unfold vSite; rw [decide_eq_false h2]; simp), ext_refl _⟩
      · have e1 : ¬ (s.size : Int) ≤ 120 := by omega
        go_wp2_with fail
        go_ret
        exact ⟨ret_bool (by unfold vSite; rw [decide_eq_false h1]; simp), ext_refl _⟩

theorem ps_box {w : World} {s : ByteArray} {A : Option Addr} {c : Nat} {xs : List Int} {T : TypeId} (h : RI w (.slice A xs.length c) xs) :
    PS (w.alloc (.cells #[.string s, .slice A xs.length c] T)) w.heap.size s xs :=
  ⟨by simp [go_sem], A, c, by simp [go_sem], h.alloc _⟩

theorem spec_ValidSite (v : Value) (s : ByteArray) (xs : List Int) (w : World) (hR : ST w v s xs) (hsm : SmST s xs) :
    Calls Try.prog 28 #[v] w (Ret (.bool (vSite s xs)) w) := by
  obtain ⟨A, c, rfl, hf⟩ := hR
  have HF := Lib.hid hf; clear hf
  have HS := Lib.hid hsm; clear hsm
  go_enter Try.func28, Try.ntmps28
  go_wp2_with fail
  refine (spec_ok _ s xs (by have := HS.out.1; unfold maxLen; omega) _ (ps_box HF.out)).mono ?_
  rintro e w1 ⟨rfl, hb⟩
  go_wp2_with fail
  go_ret
  exact ⟨rfl, ext_trans (ext_alloc1 _ _) hb⟩

theorem impl_days (v : Value) (s : ByteArray) (xs : List Int) (_hs : s.size ≤ maxLen) (w : World) (hR : ST w v s xs) :
    Calls Try.prog 47 #[v] w (Ret (.int .i64 s.size) w) := by
  obtain ⟨A, c, rfl, hf⟩ := hR
  have HF := Lib.hid hf; clear hf
  unfold maxLen at _hs
  go_enter Try.func47, Try.ntmps47
  go_wp2_with fail
  go_ret
  exact ⟨rfl, ext_alloc1 _ _⟩

/-- Do the first k numbers rise? -/
def asc (xs : List Int) (k : Nat) : Bool := (List.range k).all fun i => i == 0 || decide (xs.getD (i - 1) 0 < xs.getD i 0)
theorem asc_succ (xs : List Int) (k : Nat) : asc xs (k + 1) = (asc xs k && (k == 0 || decide (xs.getD (k - 1) 0 < xs.getD k 0))) := by
  simp [asc, List.range_succ]
theorem asc_no {xs : List Int} {k n : Nat} (hk : k < n) (h0 : k ≠ 0) (h : ¬ xs.getD (k - 1) 0 < xs.getD k 0) : asc xs n = false := by
  unfold asc
  rw [List.all_eq_false]
  exact ⟨k, by simpa using hk, by simp [h0]; simpa using h⟩
theorem rises_split (xs : List Int) (lo hi : Int) : risesB xs lo hi = (!outB xs lo hi && asc xs xs.length) := by
  rw [Bool.eq_iff_iff]
  simp only [risesB, rises, outB, asc, Bool.and_eq_true, Bool.not_eq_true', List.all_eq_true, List.any_eq_false, List.mem_range, Bool.not_eq_false]
  constructor
  · intro h
    refine ⟨fun x hx => ?_, fun i hi => (h i hi).2⟩
    obtain ⟨i, hi, rfl⟩ := List.getElem_of_mem hx
    have := (h i hi).1
    rw [List.getD_eq_getElem?_getD, List.getElem?_eq_getElem hi] at this
    exact this
  · rintro ⟨h1, h2⟩ i hi
    refine ⟨?_, h2 i hi⟩
    rw [List.getD_eq_getElem?_getD, List.getElem?_eq_getElem hi]
    exact h1 _ (List.getElem_mem hi)

theorem regrown_p {P : Program} {f : FuncId} {args : Array Value} {w : World} {d : Nat} {os : Array Obj} {v : Value} (h : Calls P f args (grow (redrawn w d) os) (RetP v (grow (redrawn w d) os))) :
    Calls P f args (grow (redrawn w d) os) fun e w'' => e = .returned v ∧ ∃ p : Regrown, w'' = grow (redrawn w p.d) p.os := Calls.regrown_of (RetP.ret h)
theorem regrown_r {P : Program} {f : FuncId} {args : Array Value} {w : World} {d : Nat} {os : Array Obj} {v : Value} (h : Calls P f args (grow (redrawn w d) os) (Ret v (grow (redrawn w d) os))) :
    Calls P f args (grow (redrawn w d) os) fun e w'' => e = .returned v ∧ ∃ p : Regrown, w'' = grow (redrawn w p.d) p.os := Calls.regrown_of h
theorem Ret.bool {P : Program} {f : FuncId} {args : Array Value} {w : World} {b c : Bool} (h : Calls P f args w (Ret (.bool b) w)) (e : b = c) : Calls P f args w (Ret (.bool c) w) := e ▸ h

set_option maxHeartbeats 2000000 in
theorem impl_ValidSite (v : Value) (s : ByteArray) (xs : List Int) (w : World) (hR : ST w v s xs) (hsm : SmST s xs) :
    Calls Try.prog 27 #[v] w (Ret (.bool (vSite s xs)) w) := by
  obtain ⟨A, c, rfl, hf⟩ := hR
  have HF := Lib.hid hf; clear hf
  have hs1 : (s.size : Int) ≤ 1048576 := by have := hsm.1; omega
  have hs2 : (xs.length : Int) ≤ 1048576 := by have := hsm.2; omega
  have HM : Hid (s.size ≤ maxLen) := Lib.hid (by unfold maxLen; omega)
  clear hsm
  have hk0 : ∀ d os, (grow (redrawn (w.alloc (.cells #[.string s, .slice A xs.length c] 26)) d) os).cell? ⟨w.heap.size, 0, none⟩ = some (.string s) := fun d os => cell_regrown (by simp [go_sem]) d os
  have hk1 : ∀ d os, (grow (redrawn (w.alloc (.cells #[.string s, .slice A xs.length c] 26)) d) os).cell? ⟨w.heap.size, 1, none⟩ = some (.slice A xs.length c) := fun d os => cell_regrown (by simp [go_sem]) d os
  have HX : Hid (∀ d os, RI (grow (redrawn (w.alloc (.cells #[.string s, .slice A xs.length c] 26)) d) os) (.slice A xs.length c) xs) := Lib.hid fun d os => (HF.out.alloc _).ext (below_regrown _ _ _)
  by_cases h1 : (s.size : Int) ≤ 120
  · have n1 : decide ((120:Int) < (s.size:Int)) = false := by simp; omega
    cases hl : lets s s.size with
    | false =>
      have HL := Lib.hid hl; clear hl
      go_enter Try.func27, Try.ntmps27
      go_wp2_with fail
      refine wp_region_quiet_below (by kernel_rfl) (by kernel_rfl) ?_
      repeat (go_big_quiet_step ((go_at_call 62; exact regrown_p (RetP.bool (only_letters s HM.out _) HL.out))))
      refine wpQuiet_nil ?_
      intro w' hw'
      obtain ⟨p, rfl⟩ := hw'
      go_wp2_with fail
      go_ret
      exact ⟨ret_bool (by unfold vSite; rw [HL.out]; rfl), ext_trans (ext_alloc1 _ _) (below_regrown _ _ _)⟩
    | true =>
      have HL := Lib.hid hl; clear hl
      by_cases h2 : (xs.length : Int) ≤ 20
      · have n2 : decide ((20:Int) < (xs.length:Int)) = false := by simp; omega
        cases ho : outB xs 0 ((s.size : Int) - 1) with
        | true =>
          have HO := Lib.hid ho; clear ho
          go_enter Try.func27, Try.ntmps27
          go_wp2_with fail
          refine wp_region_quiet_below (by kernel_rfl) (by kernel_rfl) ?_
          repeat (go_big_quiet_step (first | (go_at_call 62; exact regrown_p (RetP.bool (only_letters s HM.out _) HL.out)) | (go_at_call 47; exact regrown_r (impl_days _ s xs HM.out _ ⟨_, _, rfl, HX.out _ _⟩)) | (go_at_call 63; exact regrown_r (Ret.bool (impl_outside _ xs _ _ _ (HX.out _ _)) HO.out))))
          refine wpQuiet_nil ?_
          intro w' hw'
          obtain ⟨p, rfl⟩ := hw'
          go_wp2_with fail
          go_ret
          exact ⟨ret_bool (by unfold vSite; rw [rises_split, HO.out]; simp), ext_trans (ext_alloc1 _ _) (below_regrown _ _ _)⟩
        | false =>
          have HO := Lib.hid ho; clear ho
          go_enter Try.func27, Try.ntmps27
          go_wp2_with fail
          refine wp_region_quiet_below (by kernel_rfl) (by kernel_rfl) ?_
          repeat (go_big_quiet_step (first | (go_at_call 62; exact regrown_p (RetP.bool (only_letters s HM.out _) HL.out)) | (go_at_call 47; exact regrown_r (impl_days _ s xs HM.out _ ⟨_, _, rfl, HX.out _ _⟩)) | (go_at_call 63; exact regrown_r (Ret.bool (impl_outside _ xs _ _ _ (HX.out _ _)) HO.out))))
          refine wpQuiet_nil ?_
          intro w' hw'
          obtain ⟨p, rfl⟩ := hw'
          have hc0 := hk0 p.d p.os
          have hc1 := hk1 p.d p.os
          have HW : Hid (Below w.heap.size w (grow (redrawn (w.alloc (.cells #[.string s, .slice A xs.length c] 26)) p.d) p.os)) := Lib.hid (ext_trans (ext_alloc1 _ _) (below_regrown _ _ _))
          have HR := Lib.hid (HX.out p.d p.os)
          clear hk0 hk1 HX
          generalize grow (redrawn (w.alloc (.cells #[.string s, .slice A xs.length c] 26)) p.d) p.os = w1 at *
          go_wp2_with fail
          go_loopw [3] (fun i wr => ∃ k q : Nat, 1 ≤ k ∧ (k ≤ xs.length ∨ k = 1) ∧ i = .int .i64 k ∧ wr = w1.drewN q ∧ Hid (asc xs k = true)) (fun i _ => xs.length - (intOf i).toNat)
          case atStart => exact ⟨1, 0, by omega, by omega, rfl, rfl, by simp [Hid, asc]⟩
          case round =>
            obtain ⟨k, q, hk1, hk, rfl, rfl, HT⟩ := hrel
            by_cases hlt : k < xs.length
            · obtain ⟨ad, rfl, hbd, hc⟩ := HR.out.at2 hlt
              have hca := hc k hlt
              have hcb := hc (k - 1) (by omega)
              clear hc
              have e1 : (0:Int) ≤ k := by omega
              have e2 : (k:Int) < xs.length := by omega
              have e5 : (0:Int) ≤ (k:Int) - 1 := by omega
              have e6 : (k:Int) - 1 < xs.length := by omega
              have e7 : ((k:Int) - 1).toNat = k - 1 := by omega
              by_cases hlt2 : gi xs (k - 1) < gi xs k
              · have e8 : decide (gi xs k ≤ gi xs (k - 1)) = false := by simpa using hlt2
                have HL2 := Lib.hid hlt2; clear hlt2
                go_wp2_with fail
                go_quiet (fail)
                go_wp2_with fail
                go_roundw
                case rel => exact ⟨k + 1, _, by omega, by omega, by go_num, rfl, by unfold Hid; rw [asc_succ, HT.out, decide_eq_true (show xs.getD (k - 1) 0 < xs.getD k 0 from HL2.out)]; simp⟩
                case measure => simp [intOf]; omega
              · have e8 : decide (gi xs k ≤ gi xs (k - 1)) = true := by simpa using hlt2
                have HL2 := Lib.hid hlt2; clear hlt2
                go_wp2_with fail
                go_quiet (fail)
                go_wp2_with fail
                go_ret
                exact ⟨ret_bool (by unfold vSite; rw [rises_split, asc_no hlt (by omega) (Int.not_lt.2 HL2.out)]; simp), ext_drewN (ext_drewN HW.out _) _⟩
            · have e2 : ¬ (k:Int) < xs.length := by omega
              go_wp2_with fail
              go_ret
              have hasc : asc xs xs.length = true := by
                rcases hk with hk | hk
                · rw [show xs.length = k from by omega]; exact HT.out
                · by_cases h0 : xs.length = 0
                  · rw [h0]; simp [asc]
                  · rw [show xs.length = 1 from by omega]; simp [asc]
              exact ⟨ret_bool (by unfold vSite; rw [rises_split, HL.out, HO.out, hasc, decide_eq_true (p := s.size ≤ 120) (by omega), decide_eq_true (p := xs.length ≤ 20) (by omega)]; rfl), ext_drewN HW.out _⟩
      · have n2 : decide ((20:Int) < (xs.length:Int)) = true := by simp; omega
        go_enter Try.func27, Try.ntmps27
        go_wp2_with fail
        refine wp_region_quiet_below (by kernel_rfl) (by kernel_rfl) ?_
        repeat (go_big_quiet_step ((go_at_call 62; exact regrown_p (RetP.bool (only_letters s HM.out _) HL.out))))
        refine wpQuiet_nil ?_
        intro w' hw'
        obtain ⟨p, rfl⟩ := hw'
        go_wp2_with fail
        go_ret
        exact ⟨ret_bool (by unfold vSite; rw [decide_eq_false (p := xs.length ≤ 20) (by omega)]; simp), ext_trans (ext_alloc1 _ _) (below_regrown _ _ _)⟩
  · have n1 : decide ((120:Int) < (s.size:Int)) = true := by simp; omega
    go_enter Try.func27, Try.ntmps27
    go_wp2_with fail
    refine wp_region_quiet_below (by kernel_rfl) (by kernel_rfl) ?_
    repeat (go_big_quiet_step (fail))
    refine wpQuiet_nil ?_
    intro w' hw'
    obtain ⟨p, rfl⟩ := hw'
    go_wp2_with fail
    go_ret
    exact ⟨ret_bool (by unfold vSite; rw [decide_eq_false (p := s.size ≤ 120) (by omega)]; simp), ext_trans (ext_alloc1 _ _) (below_regrown _ _ _)⟩

end Go.Proofs.Ytikiomjgnpdldaa
