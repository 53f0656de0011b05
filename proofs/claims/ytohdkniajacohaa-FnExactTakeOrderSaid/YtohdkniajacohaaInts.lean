/-
  The small functions on slices of int64 that the laws and the reference share: equality, copies, marks.
-/
import Derived.Test.YtohdkniajacohaaBase
namespace Go.Proofs.Ytohdkniajacohaa
open Go.ChangeShapes Go.WideShapes Go.ChangeAt Go.RowKit Go.Sort

theorem eq_take {xs ys : List Int} {k : Nat} (hl : xs.length = ys.length) (hk : k < xs.length) (h : xs.take k = ys.take k) (he : xs.getD k 0 = ys.getD k 0) : xs.take (k+1) = ys.take (k+1) := by
  rw [take_succ_getD hk, take_succ_getD (by omega), h, he]

theorem bne_get {xs ys : List Int} {k : Nat} (h : (xs[k]?.getD 0 != ys[k]?.getD 0) = true) : xs ≠ ys := by
  rintro rfl; simp at h

/-- Two slices of ints compared element by element. -/
theorem eqints (v1 v2 : Value) (xs ys : List Int) (w : World) (ha : RI w v1 xs) (hb : RI w v2 ys) :
    Calls Try.prog 11 #[v1, v2] w (Ret (.bool (decide (xs = ys))) w) := by
  obtain ⟨A, c, rfl, hc1, hc2, HA'⟩ := ha.open_
  obtain ⟨B, d, rfl, hd1, hd2, HB'⟩ := hb.open_
  unfold maxLen at hc2 hd2
  have HA := Lib.hid HA'; clear HA' ha
  have HB := Lib.hid HB'; clear HB' hb
  generalize hn : xs.length = n at *
  generalize hm : ys.length = m at *
  have HN := Lib.hid hn; clear hn
  have HM := Lib.hid hm; clear hm
  by_cases hl : n = m
  · subst hl
    go_enter Try.func11, Try.ntmps11
    go_wp2
    go_loopw [5] (fun i wr => ∃ k q : Nat, k ≤ n ∧ i = .int .i64 k ∧ wr = w.drewN q ∧ xs.take k = ys.take k) (fun i _ => n - (intOf i).toNat)
    case atStart => exact ⟨0, 0, Nat.zero_le _, rfl, rfl, rfl⟩
    case round =>
      obtain ⟨k, q, hk, rfl, rfl, htk⟩ := hrel
      have HT := Lib.hid htk; clear htk
      by_cases hlt : k < n
      · obtain ⟨ad, rfl, hbd, hc⟩ := HA.out k (by have := HN.out; omega)
        obtain ⟨bd, rfl, hbd2, hc2⟩ := HB.out k (by have := HM.out; omega)
        replace hc := hc k (by have := HN.out; omega)
        replace hc2 := hc2 k (by have := HM.out; omega)
        have e1 : (0:Int) ≤ k := by omega
        have e2 : (k:Int) < n := by omega
        go_wp2
        go_quiet (fail)
        go_wp2
        · go_ret
          rename_i hne
          exact ⟨ret_bool (by simp [bne_get hne]), ext_drewN (ext_drewN (ext_refl w) _) _⟩
        · go_roundw
          case rel => exact ⟨k + 1, _, by omega, by go_num, rfl, eq_take (by rw [HN.out, HM.out]) (by rw [HN.out]; omega) HT.out (by rename_i he; simpa using he)⟩
          case measure => simp [intOf]; omega
      · go_wp2
        go_ret
        have hkn : k = n := by omega
        subst hkn
        refine ⟨ret_bool ?_, ext_drewN (ext_refl w) _⟩
        have := HT.out
        rw [List.take_of_length_le (by have := HN.out; omega), List.take_of_length_le (by have := HM.out; omega)] at this
        simp [this]
  · go_enter Try.func11, Try.ntmps11
    go_wp2
    go_ret
    refine ⟨ret_bool ?_, ext_refl w⟩
    have : xs ≠ ys := by rintro rfl; exact hl (HN.out.symm.trans HM.out)
    simp [this]

/-- What is left of a size budget behind a part of n. -/
def szN (left : Int) (n : Nat) : Int := if left < n then -1 else left - n
theorem szN_le (left : Int) (n : Nat) (h : left ≤ 1048576) : szN left n ≤ 1048576 ∧ -1 ≤ szN left n := by unfold szN; split <;> omega

theorem info_int : (Try.prog.info? 2).map (fun i => (i.zero, i.size, i.bytes)) = some (some (.int .i64 0), 1, 8) := by kernel_rfl

theorem set_append {xs : List Int} {k : Nat} (hk : k < xs.length) (ys : List Value) (u : Value) (hy : ys.length = k) :
    (ys ++ (List.replicate (xs.length - k) (Value.int .i64 0))).set k u = (ys ++ [u]) ++ List.replicate (xs.length - (k + 1)) (Value.int .i64 0) := by
  obtain ⟨m, hm⟩ : ∃ m, xs.length - k = m + 1 := ⟨xs.length - k - 1, by omega⟩
  rw [hm, show xs.length - (k+1) = m from by omega, List.set_append_right k u (by omega), hy]
  simp [List.replicate_succ]

/-- The marks k, k + 1, .. -/
def marks (k : Int) (n : Nat) : List Int := (List.range n).map fun (i : Nat) => k + (i : Int)
theorem marks_length (k : Int) (n : Nat) : (marks k n).length = n := by simp [marks]
theorem marks_getD (k : Int) (n i : Nat) (h : i < n) : (marks k n).getD i 0 = k + i := by
  simp [marks, List.getD_eq_getElem?_getD, h]
theorem marks_take (k : Int) (n i : Nat) (h : i < n) : (marks k n).take (i + 1) = (marks k n).take i ++ [k + (i : Int)] := by
  rw [take_succ_getD (by rw [marks_length]; exact h), marks_getD k n i h]

theorem set_mark {xs : List Int} {n k : Nat} (hk : k < n) (hn : xs.length = n) (j : Int) (m : List Int) (hm : m.length = k) :
    (m.map (Value.int .i64) ++ (xs.drop k).map (Value.int .i64)).set k (.int .i64 j) = (m ++ [j]).map (Value.int .i64) ++ (xs.drop (k + 1)).map (Value.int .i64) := by
  rw [List.set_append_right k _ (by simp; omega)]
  simp only [List.length_map, hm, Nat.sub_self, List.map_append, List.append_assoc, List.append_cancel_left_eq]
  rw [List.drop_eq_getElem_cons (i := k) (l := xs) (by omega)]
  simp only [List.map_cons, List.set_cons_zero, List.map_nil, List.cons_append, List.nil_append]

set_option maxRecDepth 100000 in
/-- Marks written into a row of the call's own. -/
theorem markints (base : Nat) (v : Value) (xs : List Int) (j : Int) (hj0 : 0 ≤ j) (hj : j ≤ 1099511627776) (hsz : xs.length ≤ 1099511627776) (w : World) (hO : OI w base v xs) :
    Calls Try.prog 14 #[v, .int .i64 j] w fun e w' => e = .returned (.int .i64 (j + xs.length)) ∧ OI w' base v (marks j xs.length) ∧ w.grownBy w' v.ownBlock ∧ w'.heap.size = w.heap.size := by
  have hO' := hO
  obtain ⟨h1, h2⟩ := hO'
  rcases h2 with ⟨rfl, h0⟩ | ⟨g, cap, cur, rfl, hg, hh, hn, hm, hs, ht⟩
  · have h0' := h0
    rw [h0']
    go_enter Try.func14, Try.ntmps14
    go_wp2
    refine wp_loop_rounds 1 ?_
    rw [rounds_succ]
    go_wp2
    go_ret
    have hx : xs = [] := List.eq_nil_of_length_eq_zero h0
    subst hx
    exact ⟨ret_int (by simp), World.ownsRow_nil _ _ _ _, World.grownBy.refl _ _, rfl⟩
  · clear h1 hh hn hs ht cur
    generalize hn : xs.length = n at *
    have HN := Lib.hid hn; clear hn
    unfold OI at hO
    rw [HN.out] at hO
    unfold maxLen at hm
    have HO := Lib.hid hO; clear hO
    go_enter Try.func14, Try.ntmps14
    go_wp2
    go_loopw [5, 1] (fun i q wr => ∃ k : Nat, k ≤ n ∧ i = .int .i64 k ∧ q = .int .i64 (j + k) ∧ wr.ownsRow base 2 1 (.slice (some ⟨g, 0, none⟩) n cap) n (((marks j n).take k).map (Value.int .i64) ++ (xs.drop k).map (Value.int .i64)) ∧ w.grownBy wr (some g) ∧ wr.heap.size = w.heap.size) (fun i _ _ => n - (intOf i).toNat)
    case atStart => exact ⟨0, Nat.zero_le _, rfl, by simp, by simpa using HO.out, World.grownBy.refl _ _, rfl⟩
    case round =>
      obtain ⟨k, hk, rfl, rfl, hown, hgr, hsz2⟩ := hrel
      have HO2 := Lib.hid hown; clear hown
      have HG := Lib.hid hgr; clear hgr
      have HS := Lib.hid hsz2; clear hsz2
      by_cases hlt : k < n
      · have hfr := HO2.out.frozenAt k
        have hsome : wr.cell? ⟨g, k, none⟩ = some (.int .i64 (xs.getD k 0)) := by
          rw [HO2.out.cellAt k (by omega), List.getElem?_append_right (by simp; omega)]
          simp only [List.length_map, List.length_take, marks_length]
          rw [show min k n = k from by omega]
          simp [List.getD_eq_getElem?_getD]
          rw [List.getElem?_eq_getElem (by rw [HN.out]; omega)]
          rfl
        have e1 : (0:Int) ≤ k := by omega
        have e2 : (k:Int) < n := by omega
        go_wp2
        go_roundw
        case rel =>
          refine ⟨k + 1, by omega, by go_num, ?_, ?_, ?_, ?_⟩
          · exact (by rw [show (j + (k:Int) + 1) = j + ((k + 1 : Nat) : Int) from by omega])
          · have h1 := (HO2.out.stored k (.int .i64 (j + k))).1
            rw [set_mark hlt HN.out _ _ (by simp [marks_length]; omega)] at h1
            rw [marks_take j n k hlt]
            exact h1
          · exact HG.out.trans (HO2.out.stored k (.int .i64 (j + k))).2
          · simpa using HS.out
        case measure => simp [intOf]; omega
      · go_wp2
        go_ret
        have hkn : k = n := by omega
        subst hkn
        refine ⟨rfl, ?_, HG.out, HS.out⟩
        have := HO2.out
        rw [List.take_of_length_le (by rw [marks_length]; omega), List.drop_of_length_le (by rw [HN.out]; omega)] at this
        unfold OI
        rw [marks_length]
        simpa using this

/-- Marks read back. -/
theorem heldints (v : Value) (j : Int) (n : Nat) (hj0 : 0 ≤ j) (hj : j ≤ 1099511627776) (hsz : n ≤ 1099511627776) (w : World) (ha : RI w v (marks j n)) :
    Calls Try.prog 15 #[v, .int .i64 j] w (Ret (.int .i64 (j + n)) w) := by
  obtain ⟨A, c, rfl, hc1, hc2, HA'⟩ := ha.open_
  unfold maxLen at hc2
  rw [marks_length] at *
  have HA := Lib.hid HA'; clear HA' ha
  go_enter Try.func15, Try.ntmps15
  go_wp2
  go_loop [5, 1] (fun i q => ∃ k : Nat, k ≤ n ∧ i = .int .i64 k ∧ q = .int .i64 (j + k)) (fun i _ => n - (intOf i).toNat)
  case atStart => exact ⟨0, Nat.zero_le _, rfl, by simp⟩
  case round =>
    obtain ⟨k, hk, rfl, rfl⟩ := hrel
    by_cases hlt : k < n
    · obtain ⟨ad, rfl, hbd, hc⟩ := HA.out k hlt
      replace hc := hc k hlt
      rw [marks_getD j n k hlt] at hc
      have e1 : (0:Int) ≤ k := by omega
      have e2 : (k:Int) < n := by omega
      go_wp2
      go_round
      case rel => exact ⟨k + 1, by omega, by go_num, by rw [show (j + (k:Int) + 1) = j + ((k + 1 : Nat) : Int) from by omega]⟩
      case measure => simp [intOf]; omega
    · go_wp2
      go_ret
      have hkn : k = n := by omega
      subst hkn
      exact ⟨rfl, ext_refl w⟩
/-- The data blocks of a slice. -/
def BI (v : Value) : Nat → Prop := fun k => v.ownBlock = some k
theorem markI (base : Nat) (v : Value) (xs : List Int) (j : Int) (hj0 : 0 ≤ j) (hj : j ≤ 1099511627776) (hsz : xs.length ≤ 1099511627776) (w : World) (hO : OI w base v xs) :
    Calls Try.prog 14 #[v, .int .i64 j] w fun e w' => e = .returned (.int .i64 (j + xs.length)) ∧ OI w' base v (marks j xs.length) ∧ Chg (BI v) w w' :=
  (markints base v xs j hj0 hj hsz w hO).mono fun _ _ ⟨h1, h2, h3, _⟩ => ⟨h1, h2, Chg.of_grown h3⟩
theorem eqI (v1 v2 : Value) (xs : List Int) (w : World) (ha : RI w v1 xs) (hb : RI w v2 xs) :
    Calls Try.prog 11 #[v1, v2] w (Ret (.bool true) w) := by
  have h := eqints v1 v2 xs xs w ha hb
  rwa [decide_eq_true rfl] at h
theorem szN_ok {l : Int} {n : Nat} (h : 0 ≤ szN l n) : (n : Int) ≤ l ∧ szN l n = l - n := by
  unfold szN at h ⊢
  split at h
  · omega
  · rename_i hh; rw [if_neg hh]; omega
theorem szN_pos {l : Int} {n : Nat} (h : 0 ≤ szN l n) : 0 ≤ l := by have := szN_ok h; omega

def SmI (xs : List Int) : Prop := xs.length ≤ 1048576
theorem eq_I (v1 v2 : Value) (xs : List Int) (w : World) (ha : RI w v1 xs) (hb : RI w v2 xs) :
    Calls Try.prog 11 #[v1, v2] w (Ret (.bool true) w) := eqI v1 v2 xs w ha hb
theorem mark_I (base : Nat) (v : Value) (xs : List Int) (j : Int) (hj0 : 0 ≤ j) (hj : j ≤ 1099511627776) (w : World) (hsm : SmI xs) (hO : OI w base v xs) :
    Calls Try.prog 14 #[v, .int .i64 j] w fun e w' => e = .returned (.int .i64 (j + xs.length)) ∧ OI w' base v (marks j xs.length) ∧ Chg (BI v) w w' :=
  markI base v xs j hj0 hj (by unfold SmI at hsm; omega) w hO
theorem held_I (v : Value) (xs : List Int) (j : Int) (hj0 : 0 ≤ j) (hj : j ≤ 1099511627776) (w : World) (hsm : SmI xs) (ha : RI w v (marks j xs.length)) :
    Calls Try.prog 15 #[v, .int .i64 j] w (Ret (.int .i64 (j + xs.length)) w) := heldints v j xs.length hj0 hj (by unfold SmI at hsm; omega) w ha

end Go.Proofs.Ytohdkniajacohaa
