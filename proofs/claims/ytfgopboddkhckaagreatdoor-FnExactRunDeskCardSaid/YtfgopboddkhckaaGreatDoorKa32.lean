/-
  Parts of the proof: SsL, SbP, SbA, SbB.
-/
import Derived.Test.YtfgopboddkhckaaGreatDoorKa5
import Derived.Test.YtfgopboddkhckaaGreatDoorKa7
import Derived.Test.YtfgopboddkhckaaGreatDoorKa18
import Derived.Test.YtfgopboddkhckaaGreatDoorKa19
import Derived.Test.YtfgopboddkhckaaGreatDoorKa20
import Derived.Test.YtfgopboddkhckaaGreatDoorKa21
import Derived.Test.YtfgopboddkhckaaGreatDoorKa22
import Derived.Test.YtfgopboddkhckaaGreatDoorKa23
import Derived.Test.YtfgopboddkhckaaGreatDoorKa24
import Derived.Test.YtfgopboddkhckaaGreatDoorKa25
import Derived.Test.YtfgopboddkhckaaGreatDoorKa26
import Derived.Test.YtfgopboddkhckaaGreatDoorKa31
namespace Go.Proofs.YtfgopboddkhckaaGreatDoor
open Go.ChangeShapes Go.WideShapes Go.ChangeAt Go.RowKit Go.Sort Go.Joins
set_option linter.unusedVariables false
set_option maxRecDepth 100000
/-- The box of a fresh console. -/
theorem SX.new (w W : World) (d : DK) (A : Option Addr) (c : Nat) (B : Option Addr) (e : Nat) (hod : ODKp W w.heap.size (.slice A d.cs.length c) (.slice B d.wall.length e) d) (hw : w.heap.size ≤ W.heap.size) :
    SX (W.alloc (.cells #[.int .i64 d.f.l, .int .i64 d.f.w, .int .i64 d.f.h, .int .i64 d.f.j, .string d.nm, .slice A d.cs.length c, .slice B d.wall.length e, .string d.log, .slice none 0 0, .slice none 0 0, .slice none 0 0] 57)) w.heap.size W.heap.size d A c B e none 0 [] (.slice none 0 0) (.slice none 0 0) :=
  ⟨⟨⟨by simp [go_sem], by simp [go_sem], by simp [go_sem], by simp [go_sem], by simp [go_sem], by simp [go_sem], by simp [go_sem], by simp [go_sem]⟩, hod.ext (ext_alloc1 _ _), fun k hk e => by have := (hod.1.ge k hk).2; omega, fun k hk e => by have := (hod.2.1.ge k hk).2; omega, fun j => by simp [go_sem], hw⟩, by simp [go_sem], by simp [go_sem], by simp [go_sem], ostr_nil _ _, fun j hj => by cases hj⟩
set_option maxHeartbeats 1600000 in
theorem spec_Lines (A : Option Addr) (c : Nat) (l : List ByteArray) (w : World) (hR : RStr w (.slice A l.length c) l) (hn : l.length ≤ 300000) (hz : ∀ t ∈ l, t.size ≤ 4000) :
    Calls Tryz.prog 28 #[.slice A l.length c] w (Ret (.string (lnA l)) w) := by
  have HR := Lib.hid hR
  have HSZ := Lib.hid (lnK_size hz)
  have HZ := Lib.hid hz
  obtain ⟨_, _, _, r1, r2⟩ := hR.open_
  unfold maxLen at r2
  clear hR hz
  go_enter Tryz.func28, Tryz.ntmps28
  go_wp2_with fail
  go_loopw [3, 4] (fun u i wr => ∃ (k : Nat) (A1 : Option Addr) (c1 : Nat) (bs : List UInt8), k ≤ l.length ∧ i = .int .i64 k ∧ u = .slice A1 bs.length c1 ∧ Hid (bs = (lnK l k).data.toList) ∧ Hid (OB wr w.heap.size (.slice A1 bs.length c1) bs) ∧ Hid (Below w.heap.size w wr)) (fun _ i _ => l.length - (intOf i).toNat)
  case atStart => exact ⟨0, _, 0, [], Nat.zero_le _, rfl, rfl, Lib.hid rfl, Lib.hid (ob_lit w w.heap.size (Nat.le_refl _)), Lib.hid (ext_alloc1 _ _)⟩
  case round =>
    obtain ⟨k, A1, c1, bs, hk, rfl, rfl, HBS, HO, HB⟩ := hrel
    have e1 : (0 : Int) ≤ k := by omega
    have hsz := HB.out.size
    by_cases hlt : k < l.length
    · have e2 : (k : Int) < l.length := by omega
      obtain ⟨bd, rfl, _, hcl⟩ := (HR.out.ext HB.out).at hlt
      have wl := hcl k hlt
      have z1 := HSZ.out k hk
      have z2 := HZ.out _ (gd_mem hlt)
      have hbl : bs.length ≤ 4001 * 300000 := by rw [HBS.out, size_toList]; have := Nat.mul_le_mul_left 4001 (Nat.le_trans hk hn); omega
      have HNX : Hid (bs ++ (gd l k).data.toList ++ [10] = (lnK l (k + 1)).data.toList) := Lib.hid (by
        show _ = (lnK l k ++ gd l k ++ ⟨#[10]⟩).data.toList
        rw [HBS.out]; simp)
      obtain ⟨lx, hlx⟩ : ∃ x, gd l k = x := ⟨_, rfl⟩
      rw [hlx] at wl z2 HNX
      clear hcl hlx z1
      have hl2 : (bs ++ lx.data.toList).length = bs.length + lx.size := by rw [List.length_append, size_toList]
      go_wp2_with (at_builtin; first | (refine wpList_append_bs rfl _ _ rfl w.heap.size (.slice A1 bs.length c1) bs lx rfl rfl HO.out (by omega) (by omega) hsz ?_; intro A2 c2 w2 hO2 hc2; (have hs2 : w.heap.size ≤ w2.heap.size := Nat.le_trans hsz hc2.size)) | (refine wpList_append_by rfl _ _ rfl w.heap.size (.slice A2 (bs.length + lx.size) c2) (bs ++ lx.data.toList) 10 10 rfl rfl rfl hO2 (by omega) hs2 ?_; intro A3 c3 w3 hO3 hc3 hlt3))
      go_roundw
      case rel => exact ⟨k + 1, A3, c3, bs ++ lx.data.toList ++ [10], hlt, by go_num, by rw [List.length_append, hl2]; rfl, HNX, Lib.hid (by rw [List.length_append]; exact hO3), Lib.hid (Chg.ext (Chg.ext HB.out hc2 (fun j hj => (HO.out.ge j hj).1)) hc3 (fun j hj => (OB.ge hO2 j hj).1))⟩
      case measure => simp [intOf]; omega
    · have e2 : ¬ (k : Int) < l.length := by omega
      obtain rfl : k = l.length := by omega
      have hcv := conv_rb HO.out.rd
      have HF : Hid ((⟨bs.toArray⟩ : ByteArray) = lnA l) := Lib.hid (by rw [HBS.out]; rfl)
      go_wp2_with fail
      go_ret
      exact ⟨by show Ending.returned (.string ⟨bs.toArray⟩) = _; rw [HF.out], HB.out⟩
end Go.Proofs.YtfgopboddkhckaaGreatDoor
namespace Go.Proofs.YtfgopboddkhckaaGreatDoor
set_option linter.unusedVariables false

/-- The letters in the reference's order; their quarters; are they cut? -/
def pcs : List UInt8 := [83, 72, 84, 66, 67]
def qL (x : UInt8) : Nat := if x = 83 then 4 else if x = 72 then 2 else if x = 84 then 3 else if x = 66 then 2 else 1
def cL (x : UInt8) : Nat := if x = 83 then 0 else if x = 72 then 0 else 1
def adLo (x : UInt8) (v : PV) : PV := ⟨v.c + cL x, v.p + 1, x :: v.lo, v.hi⟩
def adHi (x : UInt8) (v : PV) : PV := ⟨v.c + cL x, v.p + 1, v.lo, x :: v.hi⟩
theorem cL_le (x : UInt8) : cL x ≤ 1 := by unfold cL; split <;> (try split) <;> omega
theorem qL_ge (x : UInt8) : 1 ≤ qL x ∧ qL x ≤ 4 := by unfold qL; split <;> (try split) <;> (try split) <;> (try split) <;> omega
theorem sB_fuel {L P : Nat} : ∀ (n m a b : Nat), a ≤ L → b ≤ L → (L - a) + (L - b) < n → (L - a) + (L - b) < m → sB L P n a b = sB L P m a b
  | 0, _, _, _, _, _, h, _ => by omega
  | _ + 1, 0, _, _, _, _, _, h => by omega
  | n + 1, m + 1, a, b, ha, hb, hn, hm => by
    unfold sB
    by_cases he : a = L ∧ b = L
    · rw [if_pos he, if_pos he]
    · rw [if_neg he, if_neg he]
      by_cases hab : a ≤ b
      · rw [if_pos hab, if_pos hab]
        have key : ∀ q, 1 ≤ q → (if a + q ≤ L ∧ far L P (a + q) b then (sB L P n (a + q) b).map (preLo q) else none) = (if a + q ≤ L ∧ far L P (a + q) b then (sB L P m (a + q) b).map (preLo q) else none) := by
          intro q hq
          by_cases hc : a + q ≤ L ∧ far L P (a + q) b
          · rw [if_pos hc, if_pos hc, sB_fuel n m (a + q) b hc.1 hb (by omega) (by omega)]
          · rw [if_neg hc, if_neg hc]
        simp only [List.foldl]
        rw [key 4 (by omega), key 2 (by omega), key 3 (by omega), key 1 (by omega)]
      · rw [if_neg hab, if_neg hab]
        have key : ∀ q, 1 ≤ q → (if b + q ≤ L ∧ far L P (b + q) a then (sB L P n a (b + q)).map (preHi q) else none) = (if b + q ≤ L ∧ far L P (b + q) a then (sB L P m a (b + q)).map (preHi q) else none) := by
          intro q hq
          by_cases hc : b + q ≤ L ∧ far L P (b + q) a
          · rw [if_pos hc, if_pos hc, sB_fuel n m a (b + q) ha hc.1 (by omega) (by omega)]
          · rw [if_neg hc, if_neg hc]
        simp only [List.foldl]
        rw [key 4 (by omega), key 2 (by omega), key 3 (by omega), key 1 (by omega)]
/-- What the search finds from two places on. -/
def sR (L P a b : Nat) : Option PV := sB L P (2 * L + 1) a b
theorem sR_end (L P : Nat) : sR L P L L = some PV.zero := by unfold sR sB; rw [if_pos ⟨rfl, rfl⟩]
/-- One letter's way on. -/
def cand (L P a b : Nat) (x : UInt8) : Option PV :=
  if a ≤ b then (if a + qL x ≤ L ∧ far L P (a + qL x) b then (sR L P (a + qL x) b).map (adLo x) else none)
  else (if b + qL x ≤ L ∧ far L P (b + qL x) a then (sR L P a (b + qL x)).map (adHi x) else none)
/-- The best of the first k letters. -/
def accS (L P a b : Nat) : Nat → Option PV
  | 0 => none
  | k + 1 => pick (accS L P a b k) (cand L P a b (pcs.getD k 0))
theorem cand_lo {L P a b : Nat} {x : UInt8} (h : a ≤ b) (hc : a + qL x ≤ L ∧ far L P (a + qL x) b) : cand L P a b x = (sR L P (a + qL x) b).map (adLo x) := by unfold cand; rw [if_pos h, if_pos hc]
theorem cand_hi {L P a b : Nat} {x : UInt8} (h : ¬ a ≤ b) (hc : b + qL x ≤ L ∧ far L P (b + qL x) a) : cand L P a b x = (sR L P a (b + qL x)).map (adHi x) := by unfold cand; rw [if_neg h, if_pos hc]
theorem cand_lo_no {L P a b : Nat} {x : UInt8} (h : a ≤ b) (hc : ¬ (a + qL x ≤ L ∧ far L P (a + qL x) b)) : cand L P a b x = none := by unfold cand; rw [if_pos h, if_neg hc]
theorem cand_hi_no {L P a b : Nat} {x : UInt8} (h : ¬ a ≤ b) (hc : ¬ (b + qL x ≤ L ∧ far L P (b + qL x) a)) : cand L P a b x = none := by unfold cand; rw [if_neg h, if_neg hc]
theorem pick_ge_right (acc : Option PV) (v : PV) : ∃ u, pick acc (some v) = some u ∧ ¬ plt v u := by
  cases acc with
  | none => exact ⟨v, rfl, plt_irrefl v⟩
  | some a =>
    by_cases h : plt v a
    · exact ⟨v, by show (if plt v a then some v else some a) = _; rw [if_pos h], plt_irrefl v⟩
    · exact ⟨a, by show (if plt v a then some v else some a) = _; rw [if_neg h], h⟩
theorem pick_ge_left {u v : PV} (x : Option PV) (h : ¬ plt v u) : ∃ u', pick (some u) x = some u' ∧ ¬ plt v u' := by
  cases x with
  | none => exact ⟨u, rfl, h⟩
  | some y =>
    by_cases hy : plt y u
    · exact ⟨y, by show (if plt y u then some y else some u) = _; rw [if_pos hy], fun e => h (plt_trans e hy)⟩
    · exact ⟨u, by show (if plt y u then some y else some u) = _; rw [if_neg hy], h⟩
/-- A worse way than one seen before changes nothing. -/
theorem pick_worse (X x y : Option PV) (z : Option PV) (hz : (x = none ∧ z = none) ∨ ∃ v w, x = some v ∧ z = some w ∧ plt v w) : pick (pick (pick X x) y) z = pick (pick X x) y := by
  rcases hz with ⟨_, rfl⟩ | ⟨v, w, rfl, rfl, hlt⟩
  · rfl
  · obtain ⟨u, hu, h1⟩ := pick_ge_right X v
    rw [hu]
    obtain ⟨u', hu', h2⟩ := pick_ge_left y h1
    rw [hu']
    show (if plt w u' then some w else some u') = _
    rw [if_neg (fun e => h2 (plt_trans hlt e))]
theorem map_worse (o : Option PV) (f g : PV → PV) (h : ∀ v, plt (f v) (g v)) : (o.map f = none ∧ o.map g = none) ∨ ∃ v w, o.map f = some v ∧ o.map g = some w ∧ plt v w := by
  cases o with
  | none => exact .inl ⟨rfl, rfl⟩
  | some v => exact .inr ⟨_, _, rfl, rfl, h v⟩
theorem accS_5 {L P a b : Nat} (ha : a ≤ L) (hb : b ≤ L) (he : ¬ (a = L ∧ b = L)) : accS L P a b 5 = sR L P a b := by
  have e5 : accS L P a b 5 = pick (pick (pick (pick (pick none (cand L P a b 83)) (cand L P a b 72)) (cand L P a b 84)) (cand L P a b 66)) (cand L P a b 67) := rfl
  have hw : (cand L P a b 72 = none ∧ cand L P a b 66 = none) ∨ ∃ v w, cand L P a b 72 = some v ∧ cand L P a b 66 = some w ∧ plt v w := by
    have q1 : qL 72 = 2 := rfl
    have q2 : qL 66 = 2 := rfl
    unfold cand
    rw [q1, q2]
    by_cases hab : a ≤ b
    · rw [if_pos hab, if_pos hab]
      by_cases hc : a + 2 ≤ L ∧ far L P (a + 2) b
      · rw [if_pos hc, if_pos hc]
        exact map_worse _ _ _ fun v => .inl (by show v.c + 0 < v.c + 1; omega)
      · rw [if_neg hc, if_neg hc]; exact .inl ⟨rfl, rfl⟩
    · rw [if_neg hab, if_neg hab]
      by_cases hc : b + 2 ≤ L ∧ far L P (b + 2) a
      · rw [if_pos hc, if_pos hc]
        exact map_worse _ _ _ fun v => .inl (by show v.c + 0 < v.c + 1; omega)
      · rw [if_neg hc, if_neg hc]; exact .inl ⟨rfl, rfl⟩
  rw [e5, pick_worse _ _ _ _ hw]
  have h1 : sR L P a b = if a ≤ b then [4, 2, 3, 1].foldl (fun acc q => pick acc (if a + q ≤ L ∧ far L P (a + q) b then (sB L P (2 * L) (a + q) b).map (preLo q) else none)) none
      else [4, 2, 3, 1].foldl (fun acc q => pick acc (if b + q ≤ L ∧ far L P (b + q) a then (sB L P (2 * L) a (b + q)).map (preHi q) else none)) none := by
    unfold sR
    rw [sB, if_neg he]
  rw [h1]
  unfold cand
  by_cases hab : a ≤ b
  · simp only [if_pos hab]
    have key : ∀ (x : UInt8) (q : Nat) (f : PV → PV), qL x = q → 1 ≤ q → (if a + qL x ≤ L ∧ far L P (a + qL x) b then (sR L P (a + qL x) b).map f else none) = (if a + q ≤ L ∧ far L P (a + q) b then (sB L P (2 * L) (a + q) b).map f else none) := by
      intro x q f hx hq
      rw [hx]
      by_cases hc : a + q ≤ L ∧ far L P (a + q) b
      · rw [if_pos hc, if_pos hc]
        unfold sR
        rw [sB_fuel (2 * L + 1) (2 * L) (a + q) b hc.1 hb (by omega) (by omega)]
      · rw [if_neg hc, if_neg hc]
    rw [key 83 4 _ rfl (by omega), key 72 2 _ rfl (by omega), key 84 3 _ rfl (by omega), key 67 1 _ rfl (by omega)]
    rfl
  · simp only [if_neg hab]
    have key : ∀ (x : UInt8) (q : Nat) (f : PV → PV), qL x = q → 1 ≤ q → (if b + qL x ≤ L ∧ far L P (b + qL x) a then (sR L P a (b + qL x)).map f else none) = (if b + q ≤ L ∧ far L P (b + q) a then (sB L P (2 * L) a (b + q)).map f else none) := by
      intro x q f hx hq
      rw [hx]
      by_cases hc : b + q ≤ L ∧ far L P (b + q) a
      · rw [if_pos hc, if_pos hc]
        unfold sR
        rw [sB_fuel (2 * L + 1) (2 * L) a (b + q) ha hc.1 (by omega) (by omega)]
      · rw [if_neg hc, if_neg hc]
    rw [key 83 4 _ rfl (by omega), key 72 2 _ rfl (by omega), key 84 3 _ rfl (by omega), key 67 1 _ rfl (by omega)]
    rfl
/-- The program and the reference find the same pair. -/
theorem pair_sR {L P : Nat} (hP : 1 ≤ P) (hL : 1 ≤ L) : pB L P L 0 0 0 = sR L P 0 0 := pair_same hP hL (by omega)
/-- A value in its bounds. -/
structure PVok (v : PV) : Prop where
  c : v.c ≤ 1000
  p : v.p ≤ 1000
  l : v.lo.length ≤ 1000
  h : v.hi.length ≤ 1000
theorem sB_len {L P : Nat} : ∀ (n a b : Nat) (v : PV), sB L P n a b = some v → v.c ≤ n ∧ v.p ≤ n ∧ v.lo.length ≤ n ∧ v.hi.length ≤ n
  | 0, _, _, _, h => by cases h
  | n + 1, a, b, v, h => by
    have hc8 : ∀ q, cut8 q ≤ 1 := fun q => by unfold cut8; split <;> (try split) <;> omega
    have fold : ∀ (l : List Nat) (f : Nat → Option PV) (acc : Option PV), (∀ u, acc = some u → u.c ≤ n + 1 ∧ u.p ≤ n + 1 ∧ u.lo.length ≤ n + 1 ∧ u.hi.length ≤ n + 1) →
        (∀ q u, f q = some u → u.c ≤ n + 1 ∧ u.p ≤ n + 1 ∧ u.lo.length ≤ n + 1 ∧ u.hi.length ≤ n + 1) → ∀ u, l.foldl (fun acc q => pick acc (f q)) acc = some u → u.c ≤ n + 1 ∧ u.p ≤ n + 1 ∧ u.lo.length ≤ n + 1 ∧ u.hi.length ≤ n + 1 := by
      intro l f
      induction l with
      | nil => intro acc ha _ u hu; exact ha u hu
      | cons q l ih =>
        intro acc ha hf u hu
        refine ih (pick acc (f q)) (fun u2 h2 => ?_) hf u hu
        cases hq : f q with
        | none => rw [hq] at h2; exact ha u2 h2
        | some y =>
          rw [hq] at h2
          cases acc with
          | none => exact hf q u2 (by rw [hq]; exact h2)
          | some z =>
            have h3 : (if plt y z then some y else some z) = some u2 := h2
            split at h3
            · exact hf q u2 (by rw [hq]; exact h3)
            · exact ha u2 h3
    unfold sB at h
    split at h
    · obtain rfl := Option.some.inj h
      simp [PV.zero]
    · split at h
      · refine fold _ (fun q => if a + q ≤ L ∧ far L P (a + q) b then (sB L P n (a + q) b).map (preLo q) else none) none (fun u hu => by cases hu) (fun q u hu => ?_) v h
        split at hu
        · obtain ⟨y, hy, rfl⟩ := Option.map_eq_some_iff.1 hu
          obtain ⟨h1, h2, h3, h4⟩ := sB_len n _ _ y hy
          have := hc8 q
          exact ⟨by show y.c + cut8 q ≤ _; omega, by show y.p + 1 ≤ _; omega, by show (let8 q :: y.lo).length ≤ _; simp only [List.length_cons]; omega, by show y.hi.length ≤ _; omega⟩
        · cases hu
      · refine fold _ (fun q => if b + q ≤ L ∧ far L P (b + q) a then (sB L P n a (b + q)).map (preHi q) else none) none (fun u hu => by cases hu) (fun q u hu => ?_) v h
        split at hu
        · obtain ⟨y, hy, rfl⟩ := Option.map_eq_some_iff.1 hu
          obtain ⟨h1, h2, h3, h4⟩ := sB_len n _ _ y hy
          have := hc8 q
          exact ⟨by show y.c + cut8 q ≤ _; omega, by show y.p + 1 ≤ _; omega, by show y.lo.length ≤ _; omega, by show (let8 q :: y.hi).length ≤ _; simp only [List.length_cons]; omega⟩
        · cases hu
theorem sR_ok {L P a b : Nat} (hL : L ≤ 80) {v : PV} (h : sR L P a b = some v) : PVok v := by
  obtain ⟨h1, h2, h3, h4⟩ := sB_len _ _ _ v h
  exact ⟨by omega, by omega, by omega, by omega⟩
end Go.Proofs.YtfgopboddkhckaaGreatDoor
namespace Go.Proofs.YtfgopboddkhckaaGreatDoor
open Go.ChangeShapes Go.WideShapes Go.ChangeAt Go.RowKit Go.Sort Go.Joins
set_option linter.unusedVariables false
set_option maxRecDepth 100000

/-- What the search holds of what it found: numbers and texts; -1: nothing. -/
def oc : Option PV → Int
  | none => -1
  | some v => (v.c : Int)
def on : Option PV → Int
  | none => 0
  | some v => (v.p : Int)
def ol : Option PV → ByteArray
  | none => ⟨#[]⟩
  | some v => bsq v.lo
def oh : Option PV → ByteArray
  | none => ⟨#[]⟩
  | some v => bsq v.hi
abbrev OVv (o : Option PV) : Value := .agg #[.int .i64 (oc o), .int .i64 (on o), .string (ol o), .string (oh o)]
/-- Is a pair better than what was found so far? -/
def beats (x : PV) : Option PV → Bool
  | none => true
  | some y => decide (plt x y)
theorem pick_beats (acc : Option PV) (x : PV) : pick acc (some x) = if beats x acc = true then some x else acc := by
  cases acc with
  | none => rfl
  | some y =>
    show (if plt x y then some x else some y) = _
    by_cases h : plt x y
    · rw [if_pos h, if_pos (by simpa [beats] using h)]
    · rw [if_neg h, if_neg (by simpa [beats] using h)]
set_option maxHeartbeats 1600000 in
theorem spec_Before (x : PV) (y : Option PV) (w : World) : Calls Tryz.prog 253 #[PVv x, OVv y] w (Ret (.bool (beats x y)) w) := by
  obtain ⟨a, b, s, t⟩ := x
  have f0 : decide ((a : Int) < 0) = false := decide_eq_false (by omega)
  have f0' : ¬ ((a : Int) < 0) := by omega
  have f0'' : (0 : Int) ≤ (a : Int) := by omega
  cases y with
  | none =>
    show Calls Tryz.prog 253 #[.agg #[.int .i64 (a : Int), .int .i64 (b : Int), .string (bsq s), .string (bsq t)], .agg #[.int .i64 (-1), .int .i64 0, .string ⟨#[]⟩, .string ⟨#[]⟩]] w (Ret (.bool true) w)
    go_enter Tryz.func253, Tryz.ntmps253
    go_wp2_with fail
    go_ret
    exact ⟨rfl, ext_alloc (ext_alloc1 _ _) _⟩
  | some y =>
    obtain ⟨c, d, u, v⟩ := y
    show Calls Tryz.prog 253 #[.agg #[.int .i64 (a : Int), .int .i64 (b : Int), .string (bsq s), .string (bsq t)], .agg #[.int .i64 (c : Int), .int .i64 (d : Int), .string (bsq u), .string (bsq v)]] w (Ret (.bool (decide (plt ⟨a, b, s, t⟩ ⟨c, d, u, v⟩))) w)
    have g0 : decide ((c : Int) < 0) = false := decide_eq_false (by omega)
    have g0' : ¬ ((c : Int) < 0) := by omega
    by_cases h1 : a = c
    · by_cases h2 : b = d
      · subst h1 h2
        have key : decide (plt ⟨a, b, s, t⟩ ⟨a, b, u, v⟩) = (tlt s u || (decide (s = u) && tlt t v)) := by
          have hi : plt ⟨a, b, s, t⟩ ⟨a, b, u, v⟩ ↔ (tlt s u = true ∨ (s = u ∧ tlt t v = true)) := by unfold plt; simp
          have hd : decide (plt ⟨a, b, s, t⟩ ⟨a, b, u, v⟩) = decide (tlt s u = true ∨ (s = u ∧ tlt t v = true)) := decide_eq_decide.2 hi
          rw [hd]
          simp [Bool.decide_or, Bool.decide_and]
        rw [key]
        clear key
        by_cases h3 : s = u
        · subst h3
          have e3 : (tlt s s || (decide (s = s) && tlt t v)) = tlt t v := by simp [tlt_irrefl]
          rw [e3]
          clear e3
          go_enter Tryz.func253, Tryz.ntmps253
          go_wp2_with fail
          go_ret
          refine ⟨ret_bool ?_, ext_alloc (ext_alloc1 _ _) _⟩
          simp only [tl_bsq, bl_tlt] at *
        · have e3 : (tlt s u || (decide (s = u) && tlt t v)) = tlt s u := by simp [h3]
          rw [e3]
          have e4 : ((bsq s).toList == (bsq u).toList) = false := by rw [tl_bsq, tl_bsq]; exact beq_eq_false_iff_ne.2 h3
          have e5 : ¬ (bsq s).toList = (bsq u).toList := by rw [tl_bsq, tl_bsq]; exact h3
          clear e3 h3
          go_enter Tryz.func253, Tryz.ntmps253
          go_wp2_with fail
          go_ret
          refine ⟨ret_bool ?_, ext_alloc (ext_alloc1 _ _) _⟩
          simp only [tl_bsq, bl_tlt] at *
      · subst h1
        have e1 : decide (plt ⟨a, b, s, t⟩ ⟨a, d, u, v⟩) = decide ((b : Int) < (d : Int)) := decide_eq_decide.2 (by unfold plt; simp only [Nat.lt_irrefl, false_or, true_and, h2, false_and, or_false]; omega)
        rw [e1]
        have e2 : ((b : Int) == (d : Int)) = false := beq_eq_false_iff_ne.2 (by omega)
        clear e1 h2
        go_enter Tryz.func253, Tryz.ntmps253
        go_wp2_with fail
        go_ret
        exact ⟨ret_bool (by simp), ext_alloc (ext_alloc1 _ _) _⟩
    · have e1 : decide (plt ⟨a, b, s, t⟩ ⟨c, d, u, v⟩) = decide ((a : Int) < (c : Int)) := decide_eq_decide.2 (by unfold plt; simp only [h1, false_and, or_false]; omega)
      rw [e1]
      have e2 : ((a : Int) == (c : Int)) = false := beq_eq_false_iff_ne.2 (by omega)
      clear e1 h1
      go_enter Tryz.func253, Tryz.ntmps253
      go_wp2_with fail
      go_ret
      exact ⟨ret_bool (by simp), ext_alloc (ext_alloc1 _ _) _⟩
/-- The letters, one by one. -/
theorem pcs_at (k : Nat) (hk : k < 5) : ∃ x, pcs.getD k 0 = x ∧ (x = 83 ∨ x = 72 ∨ x = 84 ∨ x = 66 ∨ x = 67) := by
  rcases (show k = 0 ∨ k = 1 ∨ k = 2 ∨ k = 3 ∨ k = 4 by omega) with rfl | rfl | rfl | rfl | rfl <;> exact ⟨_, rfl, by decide⟩
theorem qC_qL {x : UInt8} (h : x = 83 ∨ x = 72 ∨ x = 84 ∨ x = 66 ∨ x = 67) : qC (x.toNat : Int) = (qL x : Int) := by
  rcases h with rfl | rfl | rfl | rfl | rfl <;> decide
theorem spec_cost8 (x : UInt8) (hx : x = 83 ∨ x = 72 ∨ x = 84 ∨ x = 66 ∨ x = 67) (w : World) : Calls Tryz.prog 252 #[.int .u8 (x.toNat : Int)] w (RetP (.int .i64 (cL x : Int)) w) := by
  have hc : ∀ w, Calls Tryz.prog 262 #[.int .u8 (x.toNat : Int)] w (RetP (.bool (decide (cL x = 1))) w) := by
    intro w
    rcases hx with rfl | rfl | rfl | rfl | rfl
    · show Calls Tryz.prog 262 #[.int .u8 83] w (RetP (.bool false) w)
      go_enter Tryz.func262, Tryz.ntmps262
      go_wp2_with fail
      go_ret
      exact ⟨rfl, rfl⟩
    · show Calls Tryz.prog 262 #[.int .u8 72] w (RetP (.bool false) w)
      go_enter Tryz.func262, Tryz.ntmps262
      go_wp2_with fail
      go_ret
      exact ⟨rfl, rfl⟩
    · show Calls Tryz.prog 262 #[.int .u8 84] w (RetP (.bool true) w)
      go_enter Tryz.func262, Tryz.ntmps262
      go_wp2_with fail
      go_ret
      exact ⟨rfl, rfl⟩
    · show Calls Tryz.prog 262 #[.int .u8 66] w (RetP (.bool true) w)
      go_enter Tryz.func262, Tryz.ntmps262
      go_wp2_with fail
      go_ret
      exact ⟨rfl, rfl⟩
    · show Calls Tryz.prog 262 #[.int .u8 67] w (RetP (.bool true) w)
      go_enter Tryz.func262, Tryz.ntmps262
      go_wp2_with fail
      go_ret
      exact ⟨rfl, rfl⟩
  have HC := Lib.hid hc
  have h01 : cL x = 0 ∨ cL x = 1 := by have := cL_le x; omega
  rcases h01 with h | h
  · rw [h]
    rw [h, show decide ((0 : Nat) = 1) = false from rfl] at HC
    clear h hc hx
    go_enter Tryz.func252, Tryz.ntmps252
    go_wp2_with fail
    refine (show Calls _ _ _ _ _ from HC.out _).mono ?_
    rintro e w1 ⟨rfl, rfl⟩
    go_wp2_with fail
    go_ret
    exact ⟨rfl, rfl⟩
  · rw [h]
    rw [h, show decide ((1 : Nat) = 1) = true from rfl] at HC
    clear h hc hx
    go_enter Tryz.func252, Tryz.ntmps252
    go_wp2_with fail
    refine (show Calls _ _ _ _ _ from HC.out _).mono ?_
    rintro e w1 ⟨rfl, rfl⟩
    go_wp2_with fail
    go_ret
    exact ⟨rfl, rfl⟩
set_option maxHeartbeats 1600000 in
theorem spec_free (q L P a b : Nat) (ha : a ≤ 1000) (hb : b ≤ 1000) (w : World) (c0 : w.cell? ⟨q, 0, none⟩ = some (.int .i64 (L : Int))) (c1 : w.cell? ⟨q, 1, none⟩ = some (.int .i64 (P : Int))) (haL : a ≤ L) (hbL : b ≤ L) :
    Calls Tryz.prog 251 #[.pointer (some ⟨q, 0, none⟩), .int .i64 (a : Int), .int .i64 (b : Int)] w (Ret (.bool (decide (far L P a b))) w) := by
  have k0 := fun d os => cell_regrown c0 d os
  have k1 := fun d os => cell_regrown c1 d os
  have HSZ := Lib.hid (fun w => spec_sizeD (a : Int) (b : Int) (by omega) (by omega) w)
  obtain ⟨r, hr⟩ : ∃ r, decide (far L P a b) = r := ⟨_, rfl⟩
  rw [hr]
  clear c0 c1
  by_cases h1 : a = 0
  · have e1 : ((a : Int) == 0) = true := beq_iff_eq.2 (by omega)
    have HF : Hid (r = true) := Lib.hid (by rw [← hr]; exact decide_eq_true (.inl h1))
    clear hr h1 haL hbL
    go_enter Tryz.func251, Tryz.ntmps251
    go_wp2_with fail
    refine wp_region_quiet_below (by kernel_rfl) (by kernel_rfl) ?_
    try simp only [List.append]
    repeat (go_big_quiet_step ((go_at_call 224; exact regrown_p (HSZ.out _))))
    refine wpQuiet_nil ?_
    intro w' hw'
    obtain ⟨p, rfl⟩ := hw'
    go_wp2_with fail
    go_ret
    exact ⟨ret_bool (by rw [HF.out]), below_regrown _ _ _⟩
  have e1 : ((a : Int) == 0) = false := beq_eq_false_iff_ne.2 (by omega)
  by_cases h2 : b = 0
  · have e2 : ((b : Int) == 0) = true := beq_iff_eq.2 (by omega)
    have HF : Hid (r = true) := Lib.hid (by rw [← hr]; exact decide_eq_true (.inr (.inl h2)))
    clear hr h1 h2 haL hbL
    go_enter Tryz.func251, Tryz.ntmps251
    go_wp2_with fail
    refine wp_region_quiet_below (by kernel_rfl) (by kernel_rfl) ?_
    try simp only [List.append]
    repeat (go_big_quiet_step ((go_at_call 224; exact regrown_p (HSZ.out _))))
    refine wpQuiet_nil ?_
    intro w' hw'
    obtain ⟨p, rfl⟩ := hw'
    go_wp2_with fail
    go_ret
    exact ⟨ret_bool (by rw [HF.out]), below_regrown _ _ _⟩
  have e2 : ((b : Int) == 0) = false := beq_eq_false_iff_ne.2 (by omega)
  by_cases h3 : a = L
  · have e3 : ((a : Int) == (L : Int)) = true := beq_iff_eq.2 (by omega)
    have HF : Hid (r = true) := Lib.hid (by rw [← hr]; exact decide_eq_true (.inr (.inr (.inl (by omega)))))
    clear hr h1 h2 h3 haL hbL
    go_enter Tryz.func251, Tryz.ntmps251
    go_wp2_with fail
    refine wp_region_quiet_below (by kernel_rfl) (by kernel_rfl) ?_
    try simp only [List.append]
    repeat (go_big_quiet_step ((go_at_call 224; exact regrown_p (HSZ.out _))))
    refine wpQuiet_nil ?_
    intro w' hw'
    obtain ⟨p, rfl⟩ := hw'
    go_wp2_with fail
    go_ret
    exact ⟨ret_bool (by rw [HF.out]), below_regrown _ _ _⟩
  have e3 : ((a : Int) == (L : Int)) = false := beq_eq_false_iff_ne.2 (by omega)
  by_cases h4 : b = L
  · have e4 : ((b : Int) == (L : Int)) = true := beq_iff_eq.2 (by omega)
    have HF : Hid (r = true) := Lib.hid (by rw [← hr]; exact decide_eq_true (.inr (.inr (.inr (.inl (by omega))))))
    clear hr h1 h2 h3 h4 haL hbL
    go_enter Tryz.func251, Tryz.ntmps251
    go_wp2_with fail
    refine wp_region_quiet_below (by kernel_rfl) (by kernel_rfl) ?_
    try simp only [List.append]
    repeat (go_big_quiet_step ((go_at_call 224; exact regrown_p (HSZ.out _))))
    refine wpQuiet_nil ?_
    intro w' hw'
    obtain ⟨p, rfl⟩ := hw'
    go_wp2_with fail
    go_ret
    exact ⟨ret_bool (by rw [HF.out]), below_regrown _ _ _⟩
  have e4 : ((b : Int) == (L : Int)) = false := beq_eq_false_iff_ne.2 (by omega)
  have HF : Hid (decide ((P : Int) ≤ apt (a : Int) (b : Int)) = r) := Lib.hid (by
    rw [← hr]
    refine decide_eq_decide.2 ?_
    unfold far apt
    split <;> omega)
  obtain ⟨z, hz⟩ : ∃ z, apt (a : Int) (b : Int) = z := ⟨_, rfl⟩
  rw [hz] at HF HSZ
  clear hz hr h1 h2 h3 h4 haL hbL
  go_enter Tryz.func251, Tryz.ntmps251
  go_wp2_with fail
  refine wp_region_quiet_below (by kernel_rfl) (by kernel_rfl) ?_
  try simp only [List.append]
  repeat (go_big_quiet_step ((go_at_call 224; exact regrown_p (HSZ.out _))))
  refine wpQuiet_nil ?_
  intro w' hw'
  obtain ⟨p, rfl⟩ := hw'
  go_wp2_with fail
  go_ret
  exact ⟨ret_bool (by rw [← HF.out]), below_regrown _ _ _⟩
end Go.Proofs.YtfgopboddkhckaaGreatDoor
namespace Go.Proofs.YtfgopboddkhckaaGreatDoor
open Go.ChangeShapes Go.WideShapes Go.ChangeAt Go.RowKit Go.Sort Go.Joins
set_option linter.unusedVariables false
set_option maxRecDepth 100000

/-- Four cells of a block from an offset on tell o. -/
structure C4 (W : World) (g k : Nat) (o : Option PV) : Prop where
  c0 : W.cell? ⟨g, k, none⟩ = some (.int .i64 (oc o))
  c1 : W.cell? ⟨g, k + 1, none⟩ = some (.int .i64 (on o))
  c2 : W.cell? ⟨g, k + 2, none⟩ = some (.string (ol o))
  c3 : W.cell? ⟨g, k + 3, none⟩ = some (.string (oh o))
theorem C4.chg {S : Nat → Prop} {W W' : World} {g k : Nat} {o : Option PV} (h : C4 W g k o) (hc : Chg S W W') (hS : ¬ S g) : C4 W' g k o :=
  ⟨hc.cell h.c0 hS, hc.cell h.c1 hS, hc.cell h.c2 hS, hc.cell h.c3 hS⟩
/-- The search at q: its length, its lap, its two tables, which tell the truth. -/
structure SM (W : World) (q L P N T D : Nat) : Prop where
  c0 : W.cell? ⟨q, 0, none⟩ = some (.int .i64 (L : Int))
  c1 : W.cell? ⟨q, 1, none⟩ = some (.int .i64 (P : Int))
  c2 : W.cell? ⟨q, 2, none⟩ = some (.slice (some ⟨T, 0, none⟩) N N)
  c3 : W.cell? ⟨q, 3, none⟩ = some (.slice (some ⟨D, 0, none⟩) N N)
  tab : ∃ (y : Nat → Option PV) (dn : Nat → Bool), (∀ i, i < N → C4 W T (i * 4) (y i)) ∧ (∀ i, i < N → W.cell? ⟨D, i, none⟩ = some (.bool (dn i))) ∧ (∀ a b, a ≤ L → b ≤ L → dn (a * (L + 1) + b) = true → y (a * (L + 1) + b) = sR L P a b)
  ft : ∀ j, W.frozen? ⟨T, j, none⟩ = false
  fd : ∀ j, W.frozen? ⟨D, j, none⟩ = false
  hN : N = (L + 1) * (L + 1)
  n1 : T ≠ D
  n2 : T ≠ q
  n3 : D ≠ q
def S2 (T D : Nat) : Nat → Prop := fun k => k = T ∨ k = D
theorem SM.lt {W : World} {q L P N T D : Nat} (h : SM W q L P N T D) : T < W.heap.size ∧ D < W.heap.size ∧ q < W.heap.size := by
  obtain ⟨y, dn, h1, h2, h3⟩ := h.tab
  have hp : 0 < N := by rw [h.hN]; exact Nat.mul_pos (Nat.succ_pos _) (Nat.succ_pos _)
  exact ⟨block_lt_of_cell (h1 0 hp).c0, block_lt_of_cell (h2 0 hp), block_lt_of_cell h.c0⟩
theorem SM.chg {S : Nat → Prop} {W W' : World} {q L P N T D : Nat} (h : SM W q L P N T D) (hc : Chg S W W') (hS : ∀ k, S k → k ≠ q ∧ k ≠ T ∧ k ≠ D) : SM W' q L P N T D := by
  obtain ⟨y, dn, h1, h2, h3⟩ := h.tab
  have sq : ¬ S q := fun e => (hS _ e).1 rfl
  have sT : ¬ S T := fun e => (hS _ e).2.1 rfl
  have sD : ¬ S D := fun e => (hS _ e).2.2 rfl
  have hl := h.lt
  exact ⟨hc.cell h.c0 sq, hc.cell h.c1 sq, hc.cell h.c2 sq, hc.cell h.c3 sq, ⟨y, dn, fun i hi => (h1 i hi).chg hc sT, fun i hi => hc.cell (h2 i hi) sD, h3⟩, fun j => by rw [chg_frozen hc hl.1 sT]; exact h.ft j, fun j => by rw [chg_frozen hc hl.2.1 sD]; exact h.fd j, h.hN, h.n1, h.n2, h.n3⟩
theorem SM.ext {W W' : World} {q L P N T D : Nat} (h : SM W q L P N T D) (hb : Below W.heap.size W W') : SM W' q L P N T D := h.chg (S := fun _ => False) (Chg.of_below hb _) (fun _ e => e.elim)
theorem at_inj {L a b a' b' : Nat} (hb : b ≤ L) (hb' : b' ≤ L) (h : a * (L + 1) + b = a' * (L + 1) + b') : a = a' ∧ b = b' := by
  have h1 : (a * (L + 1) + b) % (L + 1) = b := by rw [Nat.add_comm, Nat.add_mul_mod_self_right]; exact Nat.mod_eq_of_lt (by omega)
  have h2 : (a' * (L + 1) + b') % (L + 1) = b' := by rw [Nat.add_comm, Nat.add_mul_mod_self_right]; exact Nat.mod_eq_of_lt (by omega)
  have hbb : b = b' := by rw [← h1, ← h2, h]
  subst hbb
  exact ⟨Nat.eq_of_mul_eq_mul_right (Nat.succ_pos L) (Nat.add_right_cancel h), rfl⟩
theorem at_lt {L a b : Nat} (ha : a ≤ L) (hb : b ≤ L) : a * (L + 1) + b < (L + 1) * (L + 1) := by
  have h1 : a * (L + 1) ≤ L * (L + 1) := Nat.mul_le_mul_right _ ha
  have h2 : (L + 1) * (L + 1) = L * (L + 1) + (L + 1) := by rw [Nat.succ_mul]
  omega
/-- An entry of the tables turned. -/
def putT (W : World) (T k : Nat) (o : Option PV) : World := (((W.setCell ⟨T, k, none⟩ (.int .i64 (oc o))).setCell ⟨T, k + 1, none⟩ (.int .i64 (on o))).setCell ⟨T, k + 2, none⟩ (.string (ol o))).setCell ⟨T, k + 3, none⟩ (.string (oh o))
theorem putT_chg (W : World) (T k : Nat) (o : Option PV) : Chg (fun j => j = T) W (putT W T k o) :=
  ((((Chg.setCell (S := fun j => j = T) _ (p := ⟨T, k, none⟩) rfl _).trans (Chg.setCell (S := fun j => j = T) _ (p := ⟨T, k + 1, none⟩) rfl _)).trans (Chg.setCell (S := fun j => j = T) _ (p := ⟨T, k + 2, none⟩) rfl _)).trans (Chg.setCell (S := fun j => j = T) _ (p := ⟨T, k + 3, none⟩) rfl _))
theorem putT_frozen (W : World) (T k : Nat) (o : Option PV) (p : Addr) : (putT W T k o).frozen? p = W.frozen? p := by unfold putT; simp [World.frozen?_setCell]
theorem putT_same {W : World} {T k : Nat} {u : Option PV} (h : C4 W T k u) (o : Option PV) : C4 (putT W T k o) T k o := by
  obtain ⟨c0, c1, c2, c3⟩ := h
  unfold putT
  exact ⟨by simp [go_sem, c0], by simp [go_sem, c1], by simp [go_sem, c2], by simp [go_sem, c3]⟩
theorem putT_other {W : World} {T k j : Nat} {v : Value} (h : W.cell? ⟨T, j, none⟩ = some v) (o : Option PV) (hj : j < k ∨ k + 4 ≤ j) : (putT W T k o).cell? ⟨T, j, none⟩ = some v := by
  have n0 : (⟨T, k, none⟩ : Addr) ≠ ⟨T, j, none⟩ := fun e => by injection e with _ e2; omega
  have n1 : (⟨T, k + 1, none⟩ : Addr) ≠ ⟨T, j, none⟩ := fun e => by injection e with _ e2; omega
  have n2 : (⟨T, k + 2, none⟩ : Addr) ≠ ⟨T, j, none⟩ := fun e => by injection e with _ e2; omega
  have n3 : (⟨T, k + 3, none⟩ : Addr) ≠ ⟨T, j, none⟩ := fun e => by injection e with _ e2; omega
  unfold putT
  rw [World.cell?_setCell_other _ _ _ _ n3, World.cell?_setCell_other _ _ _ _ n2, World.cell?_setCell_other _ _ _ _ n1, World.cell?_setCell_other _ _ _ _ n0]
  exact h
theorem SM.put {W : World} {q L P N T D : Nat} (h : SM W q L P N T D) {a b : Nat} (ha : a ≤ L) (hb : b ≤ L) :
    SM (putT (W.setCell ⟨D, a * (L + 1) + b, none⟩ (.bool true)) T ((a * (L + 1) + b) * 4) (sR L P a b)) q L P N T D := by
  obtain ⟨y, dn, h1, h2, h3⟩ := h.tab
  have hm : a * (L + 1) + b < N := by rw [h.hN]; exact at_lt ha hb
  have hinj : ∀ a' b', a' ≤ L → b' ≤ L → a' * (L + 1) + b' = a * (L + 1) + b → a' = a ∧ b' = b := fun a' b' _ hb' e => at_inj hb' hb e
  obtain ⟨m, hmm⟩ : ∃ m, a * (L + 1) + b = m := ⟨_, rfl⟩
  rw [hmm] at hm hinj ⊢
  have hcD : Chg (fun k => k = D) W (W.setCell ⟨D, m, none⟩ (.bool true)) := Chg.setCell (S := fun k => k = D) _ (p := ⟨D, m, none⟩) rfl _
  have hcT := putT_chg (W.setCell ⟨D, m, none⟩ (.bool true)) T (m * 4) (sR L P a b)
  have nTD := h.n1
  have nTq := h.n2
  have nDq := h.n3
  have kq : ∀ {j v}, W.cell? ⟨q, j, none⟩ = some v → (putT (W.setCell ⟨D, m, none⟩ (.bool true)) T (m * 4) (sR L P a b)).cell? ⟨q, j, none⟩ = some v := fun hv => hcT.cell (hcD.cell hv (fun e => nDq e.symm)) (fun e => nTq e.symm)
  have t1 : ∀ i, i < N → C4 (W.setCell ⟨D, m, none⟩ (.bool true)) T (i * 4) (y i) := fun i hi => (h1 i hi).chg hcD (fun e => nTD e)
  refine ⟨kq h.c0, kq h.c1, kq h.c2, kq h.c3, ⟨fun i => if i = m then sR L P a b else y i, fun i => if i = m then true else dn i, fun i hi => ?_, fun i hi => ?_, fun a' b' ha' hb' hd => ?_⟩, fun j => ?_, fun j => ?_, h.hN, h.n1, h.n2, h.n3⟩
  · by_cases e : i = m
    · subst e
      simp only [if_true]
      exact putT_same (t1 i hi) _
    · simp only [if_neg e]
      obtain ⟨c0, c1, c2, c3⟩ := t1 i hi
      exact ⟨putT_other c0 _ (by omega), putT_other c1 _ (by omega), putT_other c2 _ (by omega), putT_other c3 _ (by omega)⟩
  · refine hcT.cell ?_ (fun e => nTD e.symm)
    by_cases e : i = m
    · subst e
      simp only [if_true]
      exact World.cell?_setCell_same _ _ _ (h2 i hi)
    · simp only [if_neg e]
      exact (World.cell?_setCell_other _ _ _ _ (fun e2 => by injection e2 with _ e3; omega)).trans (h2 i hi)
  · by_cases e : a' * (L + 1) + b' = m
    · obtain ⟨rfl, rfl⟩ := hinj a' b' ha' hb' e
      simp only [if_pos e]
    · simp only [if_neg e] at hd ⊢
      exact h3 a' b' ha' hb' hd
  · rw [putT_frozen, World.frozen?_setCell]; exact h.ft j
  · rw [putT_frozen, World.frozen?_setCell]; exact h.fd j
/-- A box of four cells at g tells o. -/
structure O4 (W : World) (g : Nat) (o : Option PV) : Prop where
  cs : C4 W g 0 o
  gf : ∀ j, W.frozen? ⟨g, j, none⟩ = false
theorem O4.lt {W : World} {g : Nat} {o : Option PV} (h : O4 W g o) : g < W.heap.size := block_lt_of_cell h.cs.c0
theorem O4.chg {S : Nat → Prop} {W W' : World} {g : Nat} {o : Option PV} (h : O4 W g o) (hc : Chg S W W') (hS : ¬ S g) : O4 W' g o :=
  ⟨h.cs.chg hc hS, fun j => by rw [chg_frozen hc h.lt hS]; exact h.gf j⟩
theorem O4.ext {W W' : World} {g : Nat} {o : Option PV} (h : O4 W g o) (hb : Below W.heap.size W W') : O4 W' g o := h.chg (S := fun _ => False) (Chg.of_below hb _) (fun e => e)
theorem O4.new (W : World) (o : Option PV) (ty : TypeId) : O4 (W.alloc (.cells #[.int .i64 (oc o), .int .i64 (on o), .string (ol o), .string (oh o)] ty)) W.heap.size o :=
  ⟨⟨by simp [go_sem], by simp [go_sem], by simp [go_sem], by simp [go_sem]⟩, fun j => by simp [go_sem]⟩
theorem O4.put {W : World} {g : Nat} {u : Option PV} (h : O4 W g u) (o : Option PV) : O4 (putT W g 0 o) g o := ⟨putT_same h.cs o, fun j => by rw [putT_frozen]; exact h.gf j⟩
/-- The frame of a call: its result at r. -/
structure FS (w W : World) (q L P N T D r : Nat) : Prop where
  mem : SM W q L P N T D
  chg : Chg (S2 T D) w W
  rs : O4 W r (some PV.zero)
  rge : w.heap.size ≤ r
theorem FS.chg' {S : Nat → Prop} {w W W' : World} {q L P N T D r : Nat} (h : FS w W q L P N T D r) (hl : T < w.heap.size ∧ D < w.heap.size ∧ q < w.heap.size) (hc : Chg S W W') (hS : ∀ k, S k → w.heap.size ≤ k ∧ k ≠ r) : FS w W' q L P N T D r :=
  ⟨h.mem.chg hc (fun k hk => by have := (hS k hk).1; omega), h.chg.more hc (fun k hk => .inr (hS k hk).1), h.rs.chg hc (fun e => (hS _ e).2 rfl), h.rge⟩
theorem FS.ext {w W W' : World} {q L P N T D r : Nat} (h : FS w W q L P N T D r) (hb : Below W.heap.size W W') : FS w W' q L P N T D r :=
  ⟨h.mem.ext hb, h.chg.trans (Chg.of_below hb _), h.rs.ext hb, h.rge⟩
theorem FS.turn {w W W' : World} {q L P N T D r : Nat} (h : FS w W q L P N T D r) (hl : T < w.heap.size ∧ D < w.heap.size ∧ q < w.heap.size) (hm : SM W' q L P N T D) (hc : Chg (S2 T D) W W') : FS w W' q L P N T D r :=
  ⟨hm, h.chg.trans hc, h.rs.chg hc (by have := h.rge; unfold S2; omega), h.rge⟩
/-- A round: the best so far at g. -/
structure FR (w W : World) (q L P N T D r g : Nat) (acc : Option PV) : Prop where
  fs : FS w W q L P N T D r
  best : O4 W g acc
  gge : w.heap.size ≤ g
  gr : g ≠ r
theorem FR.ext {w W W' : World} {q L P N T D r g : Nat} {acc : Option PV} (h : FR w W q L P N T D r g acc) (hb : Below W.heap.size W W') : FR w W' q L P N T D r g acc :=
  ⟨h.fs.ext hb, h.best.ext hb, h.gge, h.gr⟩
theorem FR.turn {w W W' : World} {q L P N T D r g : Nat} {acc : Option PV} (h : FR w W q L P N T D r g acc) (hl : T < w.heap.size ∧ D < w.heap.size ∧ q < w.heap.size) (hm : SM W' q L P N T D) (hc : Chg (S2 T D) W W') : FR w W' q L P N T D r g acc :=
  ⟨h.fs.turn hl hm hc, h.best.chg hc (by have := h.gge; unfold S2; omega), h.gge, h.gr⟩
theorem FR.far {S : Nat → Prop} {w W W' : World} {q L P N T D r g : Nat} {acc : Option PV} (h : FR w W q L P N T D r g acc) (hl : T < w.heap.size ∧ D < w.heap.size ∧ q < w.heap.size) (hc : Chg S W W') (hS : ∀ k, S k → w.heap.size ≤ k ∧ k ≠ r ∧ k ≠ g) : FR w W' q L P N T D r g acc :=
  ⟨h.fs.chg' hl hc (fun k hk => ⟨(hS k hk).1, (hS k hk).2.1⟩), h.best.chg hc (fun e => (hS _ e).2.2 rfl), h.gge, h.gr⟩
theorem FR.put {w W : World} {q L P N T D r g : Nat} {acc : Option PV} (h : FR w W q L P N T D r g acc) (hl : T < w.heap.size ∧ D < w.heap.size ∧ q < w.heap.size) (o : Option PV) : FR w (putT W g 0 o) q L P N T D r g o :=
  ⟨h.fs.chg' hl (putT_chg W g 0 o) (fun k hk => by subst hk; exact ⟨h.gge, h.gr⟩), h.best.put o, h.gge, h.gr⟩
/-- What a search leaves. -/
def BestP (L P N a b q T D : Nat) (w : World) : Ending → World → Prop := fun e w' =>
  e = .returned (OVv (sR L P a b)) ∧ SM w' q L P N T D ∧ Chg (S2 T D) w w'
/-- The end of a search: the result's cells filled. -/
structure FE2 (w W : World) (q L P N T D r : Nat) (o : Option PV) : Prop where
  mem : SM W q L P N T D
  chg : Chg (S2 T D) w W
  u : C4 W r 0 o
theorem FS.fin {w W : World} {q L P N T D r : Nat} (h : FS w W q L P N T D r) (hl : T < w.heap.size ∧ D < w.heap.size ∧ q < w.heap.size) (o : Option PV) : FE2 w (putT W r 0 o) q L P N T D r o :=
  ⟨h.mem.chg (putT_chg W r 0 o) (fun k hk => by subst hk; have := h.rge; omega), h.chg.more (putT_chg W r 0 o) (fun k hk => .inr (by subst hk; exact h.rge)), putT_same h.rs.cs o⟩
end Go.Proofs.YtfgopboddkhckaaGreatDoor
