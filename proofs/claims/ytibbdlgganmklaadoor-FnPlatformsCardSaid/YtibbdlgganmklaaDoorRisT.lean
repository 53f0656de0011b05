/-
  Lifts: the text of a wall (RiseText).
-/
import Derived.Test.YtibbdlgganmklaaDoorLifts
import Derived.Test.YtibbdlgganmklaaDoorImpDec
import Derived.Test.YtibbdlgganmklaaDoorSplP
import Derived.Test.YtibbdlgganmklaaDoorNumP
import Derived.Test.YtibbdlgganmklaaDoorStr
import Derived.Test.YtibbdlgganmklaaDoorShelf
import Derived.BigQuiet
import Derived.Lib.Join
namespace Go.Proofs.YtibbdlgganmklaaDoor
open Go.ChangeShapes Go.WideShapes Go.ChangeAt Go.RowKit Go.Sort
set_option linter.unusedVariables false
set_option maxRecDepth 100000
attribute [local go_sem ↓] Go.wp_at_zero Go.wp_at_succ

/-- The text of a wall ahead of its courses. -/
def hdB (r : RS) : ByteArray := (⟨#[114, 101, 97, 99, 104, 32]⟩ : ByteArray) ++ itb r.reach ++ ⟨#[32, 115, 101, 116, 117, 112, 32]⟩ ++ itb r.setup ++ ⟨#[32, 101, 97, 115, 121, 32]⟩ ++ itb r.easy
/-- Numbers, a blank ahead of each. -/
def csL (xs : List Int) : List UInt8 := xs.flatMap fun c => 32 :: Lib.itoa c
theorem csL_snoc (xs : List Int) (c : Int) : csL (xs ++ [c]) = csL xs ++ 32 :: Lib.itoa c := by unfold csL; simp
theorem csL_join : ∀ (xs : List Int), xs ≠ [] → csL xs = 32 :: jnL 32 (xs.map Lib.itoa)
  | [], h => absurd rfl h
  | [c], _ => by simp [csL, jnL]
  | c :: d :: t, _ => by
    have ih := csL_join (d :: t) (by simp)
    show (32 :: Lib.itoa c) ++ csL (d :: t) = _
    rw [ih]
    simp [jnL]
theorem join_jnL : ∀ (p : List (List UInt8)), Lib.join p [32] = jnL 32 p
  | [] => rfl
  | [l] => Lib.join_one l _
  | l :: m :: t => by
    rw [jnL_cons _ _ (by simp), ← join_jnL (m :: t), Lib.join_cons, Lib.join_cons]
    simp [Lib.joinTail]
/-- The first k courses behind the head. -/
def rsK (r : RS) (k : Nat) : ByteArray := hdB r ++ ⟨#[58]⟩ ++ bsq (csL (r.cs.take k))
def rsb (r : RS) : ByteArray := rsK r r.cs.length
def mRiseText (r : RS) : ByteArray := bif vRise r then rsb r else ⟨#[]⟩
theorem app_nil (s : ByteArray) : s ++ bsq [] = s := by apply ba_ext; simp [ByteArray.data_append, bsq]
theorem rsK_zero (r : RS) : rsK r 0 = hdB r ++ ⟨#[58]⟩ := by unfold rsK; rw [List.take_zero]; exact app_nil _
theorem rsK_succ (r : RS) {k : Nat} (hk : k < r.cs.length) : rsK r (k + 1) = rsK r k ++ ((⟨#[32]⟩ : ByteArray) ++ itb (gi r.cs k)) := by
  unfold rsK
  rw [take_succ_getD hk, csL_snoc]
  apply ba_ext
  simp [ByteArray.data_append, bsq, itb, gi]
theorem hdB_size {r : RS} (h : vRise r = true) : (hdB r).size ≤ 79 := by
  have h1 := vRise_iff.1 h
  have h2 := itb_size r.reach (by omega) (by omega)
  have h3 := itb_size r.setup (by omega) (by omega)
  have h4 := itb_size r.easy (by omega) (by omega)
  unfold hdB
  simp only [ByteArray.size_append]
  have e1 : (⟨#[114, 101, 97, 99, 104, 32]⟩ : ByteArray).size = 6 := rfl
  have e2 : (⟨#[32, 115, 101, 116, 117, 112, 32]⟩ : ByteArray).size = 7 := rfl
  have e3 : (⟨#[32, 101, 97, 115, 121, 32]⟩ : ByteArray).size = 6 := rfl
  omega
theorem csL_len {r : RS} (h : vRise r = true) (k : Nat) : (csL (r.cs.take k)).length ≤ 21 * k := by
  have h1 := (vRise_iff.1 h).1
  induction k with
  | zero => simp [csL]
  | succ k ih =>
    by_cases hk : k < r.cs.length
    · rw [take_succ_getD hk, csL_snoc, List.length_append, List.length_cons]
      have h2 := in_of_out h1 hk
      have h3 := itoa_length_le (gi r.cs k) (by omega) (by omega)
      unfold gi at h3
      omega
    · rw [List.take_of_length_le (by omega)]
      rw [List.take_of_length_le (by omega)] at ih
      omega
theorem rsK_size {r : RS} (h : vRise r = true) {k : Nat} (hk : k ≤ 40) : (rsK r k).size ≤ 920 := by
  have h1 := hdB_size h
  have h2 := csL_len h k
  unfold rsK
  rw [ByteArray.size_append, ByteArray.size_append, bsq_size]
  have e1 : (⟨#[58]⟩ : ByteArray).size = 1 := rfl
  omega
/-- The program's text is the same. -/
theorem rsb_join {r : RS} (h : vRise r = true) : hdB r ++ ⟨#[58, 32]⟩ ++ bsq (jnL 32 (r.cs.map Lib.itoa)) = rsb r := by
  have h1 := (vRise_iff.1 h).2.1
  unfold rsb rsK
  rw [List.take_length, csL_join r.cs (by intro e; rw [e] at h1; simp at h1)]
  apply ba_ext
  simp [ByteArray.data_append, bsq]

theorem jnL_len : ∀ (p : List (List UInt8)), (∀ x ∈ p, x.length ≤ 20) → (jnL 32 p).length ≤ 21 * p.length
  | [], _ => by simp [jnL]
  | [l], h => by have := h l (by simp); simp [jnL]; omega
  | l :: m :: t, h => by
    have ih := jnL_len (m :: t) (fun x hx => h x (List.mem_cons_of_mem _ hx))
    have := h l (by simp)
    rw [jnL_cons _ _ (by simp), List.length_append, List.length_cons]
    simp only [List.length_cons] at ih ⊢
    omega
theorem itb_map (xs : List Int) : (xs.map itb).map (·.data.toList) = xs.map Lib.itoa := by rw [List.map_map]; rfl
/-- The program's numbersText, a blank between. -/
theorem impl_numbersText (v : Value) (xs : List Int) (w : World) (hR : RI w v xs) (hn : xs.length ≤ 1048576) (hx : ∀ k, k < xs.length → -9223372036854775808 ≤ gi xs k ∧ gi xs k ≤ 9223372036854775807) (hL : LayF w) :
    Calls Tryd.prog 21 #[.string ⟨#[32]⟩, v] w (Ret (.string (bsq (jnL 32 (xs.map Lib.itoa)))) w) := by
  obtain ⟨A, c, rfl, hc1, hc2, HA'⟩ := hR.open_
  have HR := Lib.hid hR
  have HLF : Hid (∀ W', Below w.heap.size w W' → LayF W') := Lib.hid fun W' h => hL.ext h
  have HX := Lib.hid hx
  unfold maxLen at hc2
  clear HA' hR hL hx
  obtain ⟨n, hln⟩ : ∃ n, xs.length = n := ⟨_, rfl⟩
  have HN := Lib.hid hln
  rw [hln] at hn hc1 ⊢
  clear hln
  go_enter Tryd.func21, Tryd.ntmps21
  go_wp2_with fail
  go_loopw [5, 11] (fun u i wr => ∃ (k g cq : Nat), k ≤ n ∧ i = .int .i64 k ∧ u = .slice (some ⟨g, 0, none⟩) k cq ∧ Hid (OStr wr w.heap.size (.slice (some ⟨g, 0, none⟩) k cq) ((xs.take k).map itb)) ∧ Hid (Below w.heap.size w wr)) (fun _ i _ => n - (intOf i).toNat)
  case atStart => exact ⟨0, w.heap.size, 0, Nat.zero_le _, rfl, rfl, Lib.hid (ostr_lit _ _ (Nat.le_refl _)), Lib.hid (ext_alloc1 _ _)⟩
  case round =>
    obtain ⟨k, g, cq, hk, rfl, rfl, HO, HB⟩ := hrel
    have e1 : (0 : Int) ≤ k := by omega
    have hsz := HB.out.size
    by_cases hlt : k < n
    · have e2 : (k : Int) < n := by omega
      have hlt2 : k < xs.length := by rw [HN.out]; exact hlt
      obtain ⟨ad, rfl, _, hc⟩ := (HR.out.ext HB.out).at2 hlt2
      have hca := hc k hlt2
      have hxk := HX.out k hlt2
      have HS : Hid ((xs.take (k + 1)).map itb = (xs.take k).map itb ++ [itb (gi xs k)]) := Lib.hid (by rw [take_succ_getD hlt2, List.map_append]; rfl)
      have HKL : Hid (((xs.take k).map itb).length = k) := Lib.hid (by rw [List.length_map, List.length_take, HN.out]; omega)
      have HC : Hid (∀ W, Below w.heap.size w W → Calls Tryd.prog 20 #[.int .i64 (gi xs k)] W (Ret (.string (itb (gi xs k))) W)) := Lib.hid fun W h => impl_Dec _ hxk.1 hxk.2 W (HLF.out _ h)
      obtain ⟨t, ht⟩ : ∃ t, itb (gi xs k) = t := ⟨_, rfl⟩
      rw [ht] at HS HC
      clear ht hc hxk hlt2
      go_wp2_with fail
      refine (show Calls _ _ _ _ _ from HC.out _ HB.out).mono ?_
      rintro e w3 ⟨rfl, hb3⟩
      have HB3 := Lib.hid (ext_trans HB.out hb3)
      have HO3 := Lib.hid (HO.out.ext hb3)
      have hsz3 := HB3.out.size
      clear hb3 hca
      obtain ⟨ls, hls⟩ : ∃ ls, (xs.take k).map itb = ls := ⟨_, rfl⟩
      rw [hls] at HO3 HS HKL
      clear hls HO
      go_wp2_with (at_builtin; refine wpList_append_str rfl _ _ rfl w.heap.size (.slice (some ⟨g, 0, none⟩) k cq) ls t rfl rfl HO3.out (by rw [HKL.out]; omega) hsz3 ?_; intro g2 cap w4 hO4 hg4 hlt4)
      go_roundw
      case rel =>
        refine ⟨k + 1, g2, cap, by omega, by go_num, by rw [HKL.out], Lib.hid ?_, Lib.hid (Chg.ext HB3.out hg4 (fun j hj => (HO3.out.ge j hj).1))⟩
        rw [HS.out]
        rw [HKL.out] at hO4
        exact hO4
      case measure => simp [intOf]; omega
    · obtain rfl : k = n := by omega
      have HO2 : Hid (OStr wr w.heap.size (.slice (some ⟨g, 0, none⟩) k cq) (xs.map itb)) := Lib.hid (by
        have h := HO.out
        rwa [List.take_of_length_le (by rw [HN.out]; exact Nat.le_refl _)] at h)
      have hl : (xs.map itb).length = k := by rw [List.length_map, HN.out]
      have HJ : Hid (Calls Tryd.prog 39 #[.slice (some ⟨g, 0, none⟩) k cq, .string ⟨#[32]⟩] wr (Ret (.string (bsq (jnL 32 (xs.map Lib.itoa)))) wr)) := Lib.hid (by
        have h := HO2.out.rd
        obtain ⟨A2, c2, hv, h2, h3⟩ := h.open_
        injection hv with q1 q2 q3
        have hcell : ∀ (j : Nat) x, (xs.map itb)[j]? = some x → wr.cell? ⟨g, 0 + j, none⟩ = some (.string x) := fun j x hx => by
          have hj : j < (xs.map itb).length := (List.getElem?_eq_some_iff.1 hx).1
          obtain ⟨ad, hA, _, hc⟩ := h.at hj
          injection hA with hA
          have := hc j hj
          rw [← hA, gd_eq hj] at this
          rw [List.getElem?_eq_getElem hj] at hx
          injection hx with hx
          rw [hx] at this
          have e1 : (⟨g, 0, none⟩ : Addr).add j = ⟨g, 0 + j, none⟩ := by unfold Addr.add; split <;> simp <;> omega
          rwa [e1] at this
        have hbk : g < wr.heap.size := (HO2.out.ge g rfl).2
        have hjl : (Lib.join ((xs.map itb).map (·.data.toList)) [32]).length ≤ 140737488355328 := by
          rw [itb_map, join_jnL]
          have := jnL_len (xs.map Lib.itoa) (fun x hx => by
            obtain ⟨y, hy, rfl⟩ := List.mem_map.1 hx
            obtain ⟨i, hi, rfl⟩ := List.getElem_of_mem hy
            have := HX.out i hi
            unfold gi at this
            rw [List.getD_eq_getElem?_getD, List.getElem?_eq_getElem hi] at this
            exact itoa_length_le _ this.1 this.2)
          rw [List.length_map, HN.out] at this
          omega
        have hj := Tryd.strings_Join g 0 cq (xs.map itb) ⟨#[32]⟩ wr hcell hbk (by rw [hl]; omega) (by rw [hl]; omega) hjl
        rw [hl] at hj
        refine hj.mono fun e w' ⟨h1, h2⟩ => ⟨?_, h2⟩
        rw [h1]
        show Ending.returned (.string (bsq (Lib.join ((xs.map itb).map (·.data.toList)) [32]))) = _
        rw [itb_map, join_jnL])
      clear hl
      go_wp2_with fail
      refine (show Calls _ _ _ _ _ from HJ.out).mono ?_
      rintro e w3 ⟨rfl, hb3⟩
      go_wp2_with fail
      go_ret
      exact ⟨rfl, ext_trans HB.out hb3⟩
set_option maxHeartbeats 6400000 in
theorem impl_RiseText (v : Value) (r : RS) (w : World) (ha : SR w v r) (hsm : SmSR r) (hL : LayF w) :
    Calls Tryd.prog 7 #[v] w (Ret (.string (mRiseText r)) w) := by
  obtain ⟨A, c, rfl, hf⟩ := ha
  have HP := Lib.hid (pr_box (T := 26) hf)
  have HSR := Lib.hid (hf.alloc (.cells #[.slice A r.cs.length c, .int .i64 r.reach, .int .i64 r.setup, .int .i64 r.easy] 26))
  have HLF : Hid (∀ W', Below w.heap.size w W' → LayF W') := Lib.hid fun W' h => hL.ext h
  clear hf hL
  go_enter Tryd.func7, Tryd.ntmps7
  go_wp2_with fail
  refine (impl_ValidRise _ r _ ⟨A, c, rfl, HSR.out⟩ hsm).mono ?_
  rintro e w1 ⟨rfl, hb1⟩
  replace HP := Lib.hid (HP.out.ext hb1)
  have HW := Lib.hid (ext_trans (ext_alloc1 _ _) hb1)
  clear hb1 HSR
  cases hv : vRise r with
  | false =>
    have HF : Hid (mRiseText r = ⟨#[]⟩) := Lib.hid (by unfold mRiseText; rw [hv]; rfl)
    clear hv
    go_wp2_with fail
    go_ret
    rw [HF.out]
    exact ⟨rfl, HW.out⟩
  | true =>
  have HF : Hid (mRiseText r = rsb r) := Lib.hid (by unfold mRiseText; rw [hv]; rfl)
  have HJ := Lib.hid (rsb_join hv)
  have hvv := vRise_iff.1 hv
  have hb1 := itb_size r.reach (by omega) (by omega)
  have hb2 := itb_size r.setup (by omega) (by omega)
  have hb3 := itb_size r.easy (by omega) (by omega)
  have HW0 : Hid (hdB r = (⟨#[114, 101, 97, 99, 104, 32]⟩ : ByteArray) ++ itb r.reach ++ ⟨#[32, 115, 101, 116, 117, 112, 32]⟩ ++ itb r.setup ++ ⟨#[32, 101, 97, 115, 121, 32]⟩ ++ itb r.easy) := Lib.hid rfl
  have hc1 : ¬ 9223372036854775807 < 6 + (itb r.reach).size := by omega
  have hc2 : ¬ 9223372036854775807 < 6 + (itb r.reach).size + 7 := by omega
  have hc3 : ¬ 9223372036854775807 < 6 + (itb r.reach).size + 7 + (itb r.setup).size := by omega
  have hc4 : ¬ 9223372036854775807 < 6 + (itb r.reach).size + 7 + (itb r.setup).size + 6 := by omega
  have hc5 : ¬ 9223372036854775807 < 6 + (itb r.reach).size + 7 + (itb r.setup).size + 6 + (itb r.easy).size := by omega
  have hc6 : ¬ 9223372036854775807 < 6 + (itb r.reach).size + 7 + (itb r.setup).size + 6 + (itb r.easy).size + 1 := by omega
  have hc7 : ¬ 9223372036854775807 < 6 + (itb r.reach).size + 7 + (itb r.setup).size + 6 + (itb r.easy).size + 2 := by omega
  have hjz : (bsq (jnL 32 (r.cs.map Lib.itoa))).size ≤ 840 := by
    rw [bsq_size]
    have h := jnL_len (r.cs.map Lib.itoa) (fun x hx => by
      obtain ⟨y, hy, rfl⟩ := List.mem_map.1 hx
      obtain ⟨i, hi, rfl⟩ := List.getElem_of_mem hy
      have := in_of_out hvv.1 hi
      unfold gi at this
      rw [List.getD_eq_getElem?_getD, List.getElem?_eq_getElem hi] at this
      have h1 : 30 ≤ r.cs[i] := this.1
      have h2 : r.cs[i] ≤ 200 := this.2
      exact itoa_length_le _ (by omega) (by omega))
    rw [List.length_map] at h
    omega
  have hc8 : ¬ 9223372036854775807 < 6 + (itb r.reach).size + 7 + (itb r.setup).size + 6 + (itb r.easy).size + 2 + (bsq (jnL 32 (r.cs.map Lib.itoa))).size := by omega
  have HD : Hid (∀ n W, (n = r.reach ∨ n = r.setup ∨ n = r.easy) ∧ Below w.heap.size w W → Calls Tryd.prog 20 #[.int .i64 n] W (Ret (.string (itb n)) W)) := Lib.hid fun n W hn => impl_Dec n (by rcases hn.1 with rfl | rfl | rfl <;> omega) (by rcases hn.1 with rfl | rfl | rfl <;> omega) W (HLF.out _ hn.2)
  obtain ⟨⟨A1, c1, p0, hR⟩, p1, p2, p3⟩ := HP.out
  have HN : Hid (∀ W, Below w1.heap.size w1 W → Calls Tryd.prog 21 #[.string ⟨#[32]⟩, .slice A1 r.cs.length c1] W (Ret (.string (bsq (jnL 32 (r.cs.map Lib.itoa)))) W)) := Lib.hid fun W h => impl_numbersText _ r.cs W (hR.ext h) (by omega) (fun k hk => by have := in_of_out hvv.1 hk; omega) (HLF.out _ (ext_trans HW.out h))
  clear hvv hv hb1 hb2 hb3 hR hjz
  obtain ⟨jt, hjt⟩ : ∃ jt, bsq (jnL 32 (r.cs.map Lib.itoa)) = jt := ⟨_, rfl⟩
  rw [hjt] at HN HJ hc8
  clear hjt
  have g0 := fun d os => cell_regrown p0 d os
  have g1 := fun d os => cell_regrown p1 d os
  have g2 := fun d os => cell_regrown p2 d os
  have g3 := fun d os => cell_regrown p3 d os
  clear p0 p1 p2 p3 hsm
  go_wp2_with fail
  refine wp_region_quiet_below (by kernel_rfl) (by kernel_rfl) ?_
  repeat (go_big_quiet_step ((first | (go_at_call 20; exact regrown_r (HD.out _ _ ⟨by simp, ext_trans HW.out (below_regrown _ _ _)⟩)) | (go_at_call 21; exact regrown_r (HN.out _ (below_regrown _ _ _))))))
  refine wpQuiet_nil ?_
  intro w' hw'
  obtain ⟨p, rfl⟩ := hw'
  go_wp2_with fail
  go_ret
  rw [HF.out, ← HJ.out, HW0.out]
  exact ⟨rfl, ext_trans HW.out (below_regrown _ _ _)⟩
end Go.Proofs.YtibbdlgganmklaaDoor
