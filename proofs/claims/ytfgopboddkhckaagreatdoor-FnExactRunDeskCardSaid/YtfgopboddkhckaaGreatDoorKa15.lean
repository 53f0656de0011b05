/-
  Parts of the proof: SmC, Cpy.
-/
import Derived.Test.YtfgopboddkhckaaGreatDoorKa14
import Derived.Lib.SliceRun
import Derived.ChangeBears2
namespace Go.Proofs.YtfgopboddkhckaaGreatDoor
open Go.ChangeShapes Go.WideShapes Go.ChangeAt Go.RowKit Go.Sort Go.Joins
set_option linter.unusedVariables false
set_option maxRecDepth 100000

/-- The names of the codes lie as the program lays them. -/
def CodeT (w : World) : Prop := w.var? Tryz.prog "loop.example/g01042/impl.codeNames" = some #[.string ⟨#[111, 107]⟩, .string ⟨#[105, 110, 118, 97, 108, 105, 100]⟩, .string ⟨#[114, 97, 110, 103, 101]⟩, .string ⟨#[110, 111, 116, 45, 102, 111, 117, 110, 100]⟩, .string ⟨#[101, 120, 105, 115, 116, 115]⟩, .string ⟨#[102, 117, 108, 108]⟩, .string ⟨#[115, 116, 97, 116, 101]⟩, .string ⟨#[115, 121, 110, 116, 97, 120]⟩, .string ⟨#[102, 111, 114, 109, 97, 116]⟩, .string ⟨#[99, 108, 97, 115, 104]⟩, .string ⟨#[99, 114, 97, 99, 107, 101, 100]⟩]
theorem CodeT.ext {w w' : World} (h : CodeT w) (hb : Below w.heap.size w w') : CodeT w' := var_ext hb h
theorem nat11 {c : Int} (h0 : 0 ≤ c) (h1 : c ≤ 10) : c = 0 ∨ c = 1 ∨ c = 2 ∨ c = 3 ∨ c = 4 ∨ c = 5 ∨ c = 6 ∨ c = 7 ∨ c = 8 ∨ c = 9 ∨ c = 10 := by omega
set_option maxHeartbeats 1600000 in
theorem impl_CodeName (c : Int) (h0 : 0 ≤ c) (h1 : c ≤ 10) (w : World) (hT : CodeT w) : Calls Tryz.prog 43 #[.int .i64 c] w (Ret (.string (cnT c)) w) := by
  have hc := var?_cell (g := 0) (by kernel_rfl) hT
  have HI := Lib.hid (fun w => impl_within c 0 10 w)
  rw [inB_iff.2 ⟨h0, h1⟩] at HI
  rcases nat11 h0 h1 with rfl | rfl | rfl | rfl | rfl | rfl | rfl | rfl | rfl | rfl | rfl
  · have g := hc 0
    clear hc hT
    simp only [List.getElem?_toArray, List.getElem?_cons_zero] at g
    go_enter Tryz.func43, Tryz.ntmps43
    go_wp2_with fail
    refine (show Calls _ _ _ _ _ from HI.out _).mono ?_
    rintro e w1 ⟨rfl, rfl⟩
    go_wp2_with fail
    go_ret
    exact ⟨rfl, ext_refl _⟩
  · have g := hc 1
    clear hc hT
    simp only [List.getElem?_toArray, List.getElem?_cons_zero, List.getElem?_cons_succ] at g
    go_enter Tryz.func43, Tryz.ntmps43
    go_wp2_with fail
    refine (show Calls _ _ _ _ _ from HI.out _).mono ?_
    rintro e w1 ⟨rfl, rfl⟩
    go_wp2_with fail
    go_ret
    exact ⟨rfl, ext_refl _⟩
  · have g := hc 2
    clear hc hT
    simp only [List.getElem?_toArray, List.getElem?_cons_zero, List.getElem?_cons_succ] at g
    go_enter Tryz.func43, Tryz.ntmps43
    go_wp2_with fail
    refine (show Calls _ _ _ _ _ from HI.out _).mono ?_
    rintro e w1 ⟨rfl, rfl⟩
    go_wp2_with fail
    go_ret
    exact ⟨rfl, ext_refl _⟩
  · have g := hc 3
    clear hc hT
    simp only [List.getElem?_toArray, List.getElem?_cons_zero, List.getElem?_cons_succ] at g
    go_enter Tryz.func43, Tryz.ntmps43
    go_wp2_with fail
    refine (show Calls _ _ _ _ _ from HI.out _).mono ?_
    rintro e w1 ⟨rfl, rfl⟩
    go_wp2_with fail
    go_ret
    exact ⟨rfl, ext_refl _⟩
  · have g := hc 4
    clear hc hT
    simp only [List.getElem?_toArray, List.getElem?_cons_zero, List.getElem?_cons_succ] at g
    go_enter Tryz.func43, Tryz.ntmps43
    go_wp2_with fail
    refine (show Calls _ _ _ _ _ from HI.out _).mono ?_
    rintro e w1 ⟨rfl, rfl⟩
    go_wp2_with fail
    go_ret
    exact ⟨rfl, ext_refl _⟩
  · have g := hc 5
    clear hc hT
    simp only [List.getElem?_toArray, List.getElem?_cons_zero, List.getElem?_cons_succ] at g
    go_enter Tryz.func43, Tryz.ntmps43
    go_wp2_with fail
    refine (show Calls _ _ _ _ _ from HI.out _).mono ?_
    rintro e w1 ⟨rfl, rfl⟩
    go_wp2_with fail
    go_ret
    exact ⟨rfl, ext_refl _⟩
  · have g := hc 6
    clear hc hT
    simp only [List.getElem?_toArray, List.getElem?_cons_zero, List.getElem?_cons_succ] at g
    go_enter Tryz.func43, Tryz.ntmps43
    go_wp2_with fail
    refine (show Calls _ _ _ _ _ from HI.out _).mono ?_
    rintro e w1 ⟨rfl, rfl⟩
    go_wp2_with fail
    go_ret
    exact ⟨rfl, ext_refl _⟩
  · have g := hc 7
    clear hc hT
    simp only [List.getElem?_toArray, List.getElem?_cons_zero, List.getElem?_cons_succ] at g
    go_enter Tryz.func43, Tryz.ntmps43
    go_wp2_with fail
    refine (show Calls _ _ _ _ _ from HI.out _).mono ?_
    rintro e w1 ⟨rfl, rfl⟩
    go_wp2_with fail
    go_ret
    exact ⟨rfl, ext_refl _⟩
  · have g := hc 8
    clear hc hT
    simp only [List.getElem?_toArray, List.getElem?_cons_zero, List.getElem?_cons_succ] at g
    go_enter Tryz.func43, Tryz.ntmps43
    go_wp2_with fail
    refine (show Calls _ _ _ _ _ from HI.out _).mono ?_
    rintro e w1 ⟨rfl, rfl⟩
    go_wp2_with fail
    go_ret
    exact ⟨rfl, ext_refl _⟩
  · have g := hc 9
    clear hc hT
    simp only [List.getElem?_toArray, List.getElem?_cons_zero, List.getElem?_cons_succ] at g
    go_enter Tryz.func43, Tryz.ntmps43
    go_wp2_with fail
    refine (show Calls _ _ _ _ _ from HI.out _).mono ?_
    rintro e w1 ⟨rfl, rfl⟩
    go_wp2_with fail
    go_ret
    exact ⟨rfl, ext_refl _⟩
  · have g := hc 10
    clear hc hT
    simp only [List.getElem?_toArray, List.getElem?_cons_zero, List.getElem?_cons_succ] at g
    go_enter Tryz.func43, Tryz.ntmps43
    go_wp2_with fail
    refine (show Calls _ _ _ _ _ from HI.out _).mono ?_
    rintro e w1 ⟨rfl, rfl⟩
    go_wp2_with fail
    go_ret
    exact ⟨rfl, ext_refl _⟩
theorem sumI_succ {xs : List Int} {k : Nat} (hk : k < xs.length) : sumI (xs.take (k + 1)) = sumI (xs.take k) + gi xs k := by
  unfold sumI
  rw [take_succ_getD hk, List.sum_append]
  simp [gi]
theorem sumI_bd2 {xs : List Int} {B : Nat} (h : ∀ k, k < xs.length → -(B : Int) ≤ gi xs k ∧ gi xs k ≤ B) : ∀ k, k ≤ xs.length → -((B : Int) * k) ≤ sumI (xs.take k) ∧ sumI (xs.take k) ≤ (B : Int) * k
  | 0, _ => by simp [sumI]
  | k + 1, hk => by
    have ih := sumI_bd2 h k (by omega)
    have h1 := h k (by omega)
    rw [sumI_succ (by omega)]
    rw [show (B : Int) * ((k + 1 : Nat) : Int) = B * k + B by rw [Int.natCast_add, Int.mul_add]; simp]
    omega
set_option maxHeartbeats 800000 in
theorem impl_sum (v : Value) (xs : List Int) (w : World) (hR : RI w v xs) (hl : xs.length ≤ 4000) (hb : ∀ k, k < xs.length → -1000000 ≤ gi xs k ∧ gi xs k ≤ 1000000) :
    Calls Tryz.prog 100 #[v] w (RetP (.int .i64 (sumI xs)) w) := by
  obtain ⟨A, c, rfl, hc1, hc2, HA'⟩ := hR.open2
  have HA := Lib.hid HA'; clear HA' hR hc1 hc2
  have HBD : Hid (∀ k, k ≤ xs.length → -4000000000 ≤ sumI (xs.take k) ∧ sumI (xs.take k) ≤ 4000000000) := Lib.hid fun k hk => by
    have h := sumI_bd2 (xs := xs) (B := 1000000) (fun k hk => by have := hb k hk; omega) k hk
    have hm : ((1000000 : Nat) : Int) * (k : Int) ≤ 1000000 * 4000 := Int.mul_le_mul_of_nonneg_left (by omega) (by decide)
    omega
  have HB := Lib.hid hb; clear hb
  go_enter Tryz.func100, Tryz.ntmps100
  go_wp2_with fail
  go_loop [3, 8] (fun u i => ∃ k : Nat, k ≤ xs.length ∧ i = .int .i64 k ∧ u = .int .i64 (sumI (xs.take k))) (fun _ i => xs.length - (intOf i).toNat)
  case atStart => exact ⟨0, Nat.zero_le _, rfl, rfl⟩
  case round =>
    obtain ⟨k, hk, rfl, rfl⟩ := hrel
    have e0 : (0:Int) ≤ k := by omega
    by_cases hlt : k < xs.length
    · have e1 : (k:Int) < xs.length := by omega
      obtain ⟨ad, rfl, _, hc⟩ := HA.out k hlt
      have p0 := hc k hlt
      have HS := Lib.hid (sumI_succ hlt)
      have hb1 := HBD.out k hk
      have hb2 := HB.out k hlt
      clear hc
      obtain ⟨y, hyy⟩ : ∃ y, gi xs k = y := ⟨_, rfl⟩
      rw [hyy] at p0 HS hb2
      clear hyy
      obtain ⟨t, htt⟩ : ∃ t, sumI (xs.take k) = t := ⟨_, rfl⟩
      rw [htt] at HS hb1
      rw [htt]
      clear htt
      go_wp2_with fail
      go_round
      case rel => exact ⟨k + 1, by omega, by go_num, by rw [HS.out]⟩
      case measure => simp [intOf]; omega
    · have hkn : k = xs.length := by omega
      have e1 : ¬ (k:Int) < xs.length := by omega
      have HE : Hid (sumI (xs.take k) = sumI xs) := Lib.hid (by rw [hkn, List.take_length])
      clear hkn
      go_wp2_with fail
      go_ret
      exact ⟨ret_int HE.out, rfl⟩
theorem wpList_append_rs {w : World} {ops : Array Oper} {rest : List Oper} {o : Oper} {a : Act} {Q : Exit → Act → World → Prop} (hgd : o.guard = none) (s x : Operand)
    (ho : o.op = .call { callee := .builtin .append, args := #[s, x], argTypes := #[29, 29] })
    (base : Nat) (v v2 : Value) (xs ys : List ByteArray) (hs : a.eval s = v) (hx : a.eval x = v2) (hO : OStr w base v xs) (hR : RStr w v2 ys)
    (hl : xs.length ≤ 1099511627776) (hl2 : ys.length ≤ 1099511627776) (hbase : base ≤ w.heap.size)
    (h : ∀ A c w', OStr w' base (.slice A (xs.length + ys.length) c) (xs ++ ys) → Chg (BI v) w w' → wpList Tryz.prog ops Q rest (a.put o.dst (.slice A (xs.length + ys.length) c)) w') : wpList Tryz.prog ops Q (o :: rest) a w := by
  obtain ⟨i0, hi, hz0, hz1, hz2⟩ := info_parts info_str
  have hR' := hR
  obtain ⟨_, A, c, rfl, _⟩ := hR'
  refine wpList_append_rd hgd s x _ ho base 9 i0 (.string ⟨#[]⟩) 1 16 Tryz.underlying29 hi hz0 hz1 hz2 rfl (by omega) v xs.length (xs.map Value.string) hs hO A ys.length c (ys.map Value.string) hx hR (by simp [Value.oneCell']) (by unfold maxLen; omega) (by omega) hbase ?_
  intro v' w' hown hgrow _
  have hO' : OStr w' base v' (xs ++ ys) := by unfold OStr; simpa using hown
  have hO2 := hO'
  obtain ⟨_, A', c', rfl, _⟩ := hO2.rd
  simp only [List.length_append] at hO' ⊢
  exact h A' c' w' hO' (Chg.of_grown hgrow)
theorem wpList_append_rc {w : World} {ops : Array Oper} {rest : List Oper} {o : Oper} {a : Act} {Q : Exit → Act → World → Prop} (hgd : o.guard = none) (s x : Operand)
    (ho : o.op = .call { callee := .builtin .append, args := #[s, x], argTypes := #[34, 34] })
    (base : Nat) (v v2 : Value) (xs ys : List CO) (hs : a.eval s = v) (hx : a.eval x = v2) (hO : OCOS w base v xs) (hR : RCOS w v2 ys)
    (hl : xs.length ≤ 1099511627 ) (hl2 : ys.length ≤ 1099511627) (hbase : base ≤ w.heap.size)
    (h : ∀ A c w', OCOS w' base (.slice A (xs.length + ys.length) c) (xs ++ ys) → Chg (BI v) w w' → wpList Tryz.prog ops Q rest (a.put o.dst (.slice A (xs.length + ys.length) c)) w') : wpList Tryz.prog ops Q (o :: rest) a w := by
  obtain ⟨i0, hi, hz0, hz1, hz2⟩ := info_parts info_CO
  have hR' := hR
  obtain ⟨_, A, c, rfl, _⟩ := hR'
  refine wpList_append_rd hgd s x _ ho base 102 i0 _ 2 32 Tryz.underlying34 hi hz0 hz1 hz2 rfl (by omega) v xs.length (xs.flatMap cCO) hs hO A ys.length c (ys.flatMap cCO) hx hR (by intro u hu; obtain ⟨o, _, hu⟩ := List.mem_flatMap.1 hu; simp [cCO] at hu; rcases hu with rfl | rfl <;> rfl) (by unfold maxLen; omega) (by omega) hbase ?_
  intro v' w' hown hgrow _
  have hO' : OCOS w' base v' (xs ++ ys) := by unfold OCOS; simpa using hown
  have hO2 := hO'
  obtain ⟨_, A', c', rfl, _⟩ := hO2.rd
  simp only [List.length_append] at hO' ⊢
  exact h A' c' w' hO' (Chg.of_grown hgrow)
end Go.Proofs.YtfgopboddkhckaaGreatDoor
namespace Go.Proofs.YtfgopboddkhckaaGreatDoor
open Go.ChangeShapes Go.WideShapes Go.ChangeAt Go.RowKit Go.Sort Go.Joins
set_option linter.unusedVariables false
set_option maxRecDepth 100000

theorem eql_nilS (w : World) (a : Option Addr) (n c : Nat) : (binOp .eql 29 (.slice a n c) (.slice none 0 0)).run Tryz.prog w = .ok (.bool a.isNone) w := Lib.run_eql_slice_nil w _ _ a n c 0 0 Tryz.underlying29
theorem eql_nilC (w : World) (a : Option Addr) (n c : Nat) : (binOp .eql 34 (.slice a n c) (.slice none 0 0)).run Tryz.prog w = .ok (.bool a.isNone) w := Lib.run_eql_slice_nil w _ _ a n c 0 0 Tryz.underlying34
attribute [local go_sem] eql_nilS eql_nilC
theorem clone_S (A0 : Option Addr) (c0 : Nat) (xs : List ByteArray) (w : World) (hR : RStr w (.slice A0 xs.length c0) xs) (hsm : xs.length ≤ 1048576) :
    Calls Tryz.prog 83 #[.slice A0 xs.length c0] w fun e w' => ∃ A c, e = .returned (.slice A xs.length c) ∧ OStr w' w.heap.size (.slice A xs.length c) xs ∧ Below w.heap.size w w' := by
  have HR := Lib.hid hR
  rcases A0 with _ | ad
  · have hn : xs = [] := by
      rcases Nat.eq_zero_or_pos xs.length with h0 | h0
      · exact List.eq_nil_of_length_eq_zero h0
      · obtain ⟨ad, h, _⟩ := hR.at h0
        cases h
    subst hn
    have hc0 : c0 = c0 := rfl
    go_enter Tryz.func83, Tryz.ntmps83
    go_wp2_with fail
    go_ret
    exact ⟨none, 0, rfl, World.ownsRow_nil _ _ _ _, ext_refl _⟩
  · clear hR
    go_enter Tryz.func83, Tryz.ntmps83
    go_wp2_with (at_builtin; refine wpList_append_rs rfl _ _ rfl w.heap.size (.slice (some ⟨w.heap.size, 0, none⟩) 0 0) _ [] xs rfl rfl (World.ownsRow_lit _ #[] 0 (Nat.le_refl _) (by simp [maxLen]) (by simp)) (HR.out.ext (ext_alloc1 _ _)) (by simp) (by omega) (by simp) ?_; intro A1 c1 w1 hO1 hg1)
    go_ret
    simp only [List.length_nil, Nat.zero_add, List.nil_append] at *
    refine ⟨A1, c1, rfl, hO1, ?_⟩
    exact Chg.ext (w0 := w) (ext_alloc1 _ _) hg1 (fun k hk => by simp [BI, Value.ownBlock] at hk; omega)
theorem clone_C (A0 : Option Addr) (c0 : Nat) (xs : List CO) (w : World) (hR : RCOS w (.slice A0 xs.length c0) xs) (hsm : xs.length ≤ 1048576) :
    Calls Tryz.prog 82 #[.slice A0 xs.length c0] w fun e w' => ∃ A c, e = .returned (.slice A xs.length c) ∧ OCOS w' w.heap.size (.slice A xs.length c) xs ∧ Below w.heap.size w w' := by
  have HR := Lib.hid hR
  rcases A0 with _ | ad
  · have hn : xs = [] := by
      rcases Nat.eq_zero_or_pos xs.length with h0 | h0
      · exact List.eq_nil_of_length_eq_zero h0
      · obtain ⟨ad, h, _⟩ := hR.at h0
        cases h
    subst hn
    have hc0 : c0 = c0 := rfl
    go_enter Tryz.func82, Tryz.ntmps82
    go_wp2_with fail
    go_ret
    exact ⟨none, 0, rfl, World.ownsRow_nil _ _ _ _, ext_refl _⟩
  · clear hR
    go_enter Tryz.func82, Tryz.ntmps82
    go_wp2_with (at_builtin; refine wpList_append_rc rfl _ _ rfl w.heap.size (.slice (some ⟨w.heap.size, 0, none⟩) 0 0) _ [] xs rfl rfl (World.ownsRow_lit _ #[] 0 (Nat.le_refl _) (by simp [maxLen]) (by simp)) (HR.out.ext (ext_alloc1 _ _)) (by simp) (by omega) (by simp) ?_; intro A1 c1 w1 hO1 hg1)
    go_ret
    simp only [List.length_nil, Nat.zero_add, List.nil_append] at *
    refine ⟨A1, c1, rfl, hO1, ?_⟩
    exact Chg.ext (w0 := w) (ext_alloc1 _ _) hg1 (fun k hk => by simp [BI, Value.ownBlock] at hk; omega)
abbrev dkCells (d : DK) (A : Option Addr) (c : Nat) (B : Option Addr) (e : Nat) : List Value := [.int .i64 d.f.l, .int .i64 d.f.w, .int .i64 d.f.h, .int .i64 d.f.j, .string d.nm, .slice A d.cs.length c, .slice B d.wall.length e, .string d.log]
abbrev dkZero : List Value := [.int .i64 0, .int .i64 0, .int .i64 0, .int .i64 0, .string ⟨#[]⟩, .slice none 0 0, .slice none 0 0, .string ⟨#[]⟩]
set_option maxHeartbeats 6400000 in
theorem impl_copyDesk (v : Value) (d : DK) (w : World) (ha : RDK w v d) (hsm : SmDK d) :
    Calls Tryz.prog 41 #[v] w fun e w' => ∃ v', e = .returned v' ∧ ODK w' w.heap.size v' d ∧ Below w.heap.size w w' := by
  obtain ⟨A, c, B, e, rfl, hcs, hwl⟩ := ha
  have hl1 : d.cs.length ≤ 1048576 := by unfold SmDK totDK at hsm; omega
  have hl2 : d.wall.length ≤ 1048576 := by unfold SmDK totDK at hsm; omega
  have HC := Lib.hid (fun W (h : Below w.heap.size w W) => clone_C A c d.cs W (hcs.ext h) hl1)
  have HW := Lib.hid (fun W (h : Below w.heap.size w W) => clone_S B e d.wall W (hwl.ext h) hl2)
  clear hcs hwl hsm hl1 hl2
  have HT : Hid (TB w ((w.alloc (.cells #[.int .i64 d.f.l, .int .i64 d.f.w, .int .i64 d.f.h, .int .i64 d.f.j, .string d.nm, .slice A d.cs.length c, .slice B d.wall.length e, .string d.log] 38)).alloc (.cells #[.int .i64 0, .int .i64 0, .int .i64 0, .int .i64 0, .string ⟨#[]⟩, .slice none 0 0, .slice none 0 0, .string ⟨#[]⟩] 38)) (w.heap.size + 1) w.heap.size (w.heap.size + 1) [] (dkCells d A c B e) dkZero) := Lib.hid (by
    refine ⟨ext_alloc (ext_alloc1 w _) _, Nat.le_refl _, by omega, by omega, by omega, by simp, by simp; omega, by simp, ?_, ?_, ?_, ?_, ?_⟩
    · intro j v hv; simp at hv
    · intro j v hv
      obtain ⟨hj, rfl⟩ := List.getElem?_eq_some_iff.1 hv
      match j, hj with
      | 0, _ | 1, _ | 2, _ | 3, _ | 4, _ | 5, _ | 6, _ | 7, _ => simp [go_sem]
    · intro j v hv
      obtain ⟨hj, rfl⟩ := List.getElem?_eq_some_iff.1 hv
      match j, hj with
      | 0, _ | 1, _ | 2, _ | 3, _ | 4, _ | 5, _ | 6, _ | 7, _ => simp [go_sem]
    · intro j; simp [go_sem]
    · intro j; simp [go_sem])
  go_enter Tryz.func41, Tryz.ntmps41
  go_wp2_with fail
  generalize ((w.alloc (.cells #[.int .i64 d.f.l, .int .i64 d.f.w, .int .i64 d.f.h, .int .i64 d.f.j, .string d.nm, .slice A d.cs.length c, .slice B d.wall.length e, .string d.log] 38)).alloc (.cells #[.int .i64 0, .int .i64 0, .int .i64 0, .int .i64 0, .string ⟨#[]⟩, .slice none 0 0, .slice none 0 0, .string ⟨#[]⟩] 38)) = w1 at *
  generalize w.heap.size + 1 = r at *
  obtain ⟨q, hq⟩ : ∃ q, w.heap.size = q := ⟨_, rfl⟩
  have HQ := Lib.hid hq
  have o5 : w1.cell? ⟨q, 5, none⟩ = some (.slice A d.cs.length c) := by rw [← hq]; exact HT.out.co 5 _ rfl
  have o6 : w1.cell? ⟨q, 6, none⟩ = some (.slice B d.wall.length e) := by rw [← hq]; exact HT.out.co 6 _ rfl
  rw [hq] at HT
  simp only [hq]
  clear hq
  have hqlt := HT.out.hq2
  have HRL := Lib.hid HT.out.hr2
  have f := HT.out.fr
  go_region_law (first
    | (go_simp; refine (show Calls _ _ _ _ _ from HC.out _ (ext_drew HT.out.b)).mono ?_; rintro e' w3 ⟨A2, c2, rfl, hO2, hb2⟩; (have HT3 := Lib.hid ((HT.out.ext (ext_drew (ext_refl _))).ext hb2)); (have HO3 := Lib.hid hO2); (have p5 := HT3.out.co 5 _ rfl); (have p6 := HT3.out.co 6 _ rfl); (have HZ3 := Lib.hid hb2.size); clear hb2 hO2; dsimp only)
    | (go_simp; refine (show Calls _ _ _ _ _ from HW.out _ HT3.out.b).mono ?_; rintro e' w4 ⟨A3, c3, rfl, hO3, hb3⟩; (have HT4 := Lib.hid (HT3.out.ext hb3)); (have HO4 := Lib.hid (HO3.out.ext hb3)); (have HP4 := Lib.hid hO3); (have HG4 := Lib.hid HO3.out.ge); (have z5 := hb3.size); (have s5 := HT4.out.co 5 _ rfl); (have s6 := HT4.out.co 6 _ rfl); (have sf := HT4.out.fr); clear hb3 hO3; dsimp only))
  all_goals
    simp only [World.size_drew] at HO4 HP4 HG4 z5
    have HT5 := Lib.hid ((HT4.out.set 5 (by simp) (.slice A2 d.cs.length c2)).set 6 (by simp) (.slice A3 d.wall.length c3))
    have HO5 := Lib.hid ((HO4.out.put hqlt 5 (.slice A2 d.cs.length c2)).put hqlt 6 (.slice A3 d.wall.length c3))
    have z3 : w1.heap.size ≤ w3.heap.size := HZ3.out
    have HP5 := Lib.hid ((HP4.out.put (show q < w3.heap.size by omega) 5 (.slice A2 d.cs.length c2)).put (show q < w3.heap.size by omega) 6 (.slice A3 d.wall.length c3))
    have HAP : Hid (∀ k, BI (.slice A2 d.cs.length c2) k → ¬ BI (.slice A3 d.wall.length c3) k) := Lib.hid (fun k h1 h2 => by have g1 := (HG4.out k h1).2; have g2 := (HP4.out.ge k h2).1; omega)
    clear HT HT3 HT4 HO3 HO4 HP4 HG4 p5 p6 s5 s6 sf o5 o6 f
    obtain ⟨w5, hw5⟩ : ∃ x, ((w4.setCell ⟨q, 5, none⟩ (.slice A2 d.cs.length c2)).setCell ⟨q, 6, none⟩ (.slice A3 d.wall.length c3)) = x := ⟨_, rfl⟩
    rw [hw5] at HT5 HO5 HP5
    rw [hw5]
    have z6 : w4.heap.size = w5.heap.size := by rw [← hw5]; simp
    clear hw5
    have o0 := HT5.out.co 0 _ rfl
    have o1 := HT5.out.co 1 _ rfl
    have o2 := HT5.out.co 2 _ rfl
    have o3 := HT5.out.co 3 _ rfl
    have o4 := HT5.out.co 4 _ rfl
    have o5 := HT5.out.co 5 _ rfl
    have o6 := HT5.out.co 6 _ rfl
    have o7 := HT5.out.co 7 _ rfl
    have r0 := HT5.out.cr 0 _ rfl
    have r1 := HT5.out.cr 1 _ rfl
    have r2 := HT5.out.cr 2 _ rfl
    have r3 := HT5.out.cr 3 _ rfl
    have r4 := HT5.out.cr 4 _ rfl
    have r5 := HT5.out.cr 5 _ rfl
    have r6 := HT5.out.cr 6 _ rfl
    have r7 := HT5.out.cr 7 _ rfl
    have fz := HT5.out.fz
    have nr := HT5.out.nr
    have nr2 := nr.symm
    have hrr := HT5.out.hr
    have hrlt := HRL.out
    have hwq := HQ.out
    go_wp2_with fail
    refine bodyPost_ret (v := .agg #[.int .i64 d.f.l, .int .i64 d.f.w, .int .i64 d.f.h, .int .i64 d.f.j, .string d.nm, .slice A2 d.cs.length c2, .slice A3 d.wall.length c3, .string d.log]) (by simp [results, Tryz.results41, go_sem, r0, r1, r2, r3, r4, r5, r6, r7]) rfl ⟨_, rfl, ⟨_, _, _, _, rfl, ?_, ?_, HAP.out⟩, ?_⟩
    · exact ((((((((HO5.out.put hrlt 0 _).put hrlt 1 _).put hrlt 2 _).put hrlt 3 _).put hrlt 4 _).put hrlt 5 _).put hrlt 6 _).put hrlt 7 _).mono (by omega)
    · have z8 : r < w3.heap.size := by omega
      exact ((((((((HP5.out.put z8 0 _).put z8 1 _).put z8 2 _).put z8 3 _).put z8 4 _).put z8 5 _).put z8 6 _).put z8 7 _).mono (by omega)
    · have z9 : ∀ j, w.heap.size ≤ (⟨r, j, none⟩ : Addr).block := fun _ => hrr
      exact ext_set (ext_set (ext_set (ext_set (ext_set (ext_set (ext_set (ext_set HT5.out.b (z9 0) _) (z9 1) _) (z9 2) _) (z9 3) _) (z9 4) _) (z9 5) _) (z9 6) _) (z9 7) _
end Go.Proofs.YtfgopboddkhckaaGreatDoor
