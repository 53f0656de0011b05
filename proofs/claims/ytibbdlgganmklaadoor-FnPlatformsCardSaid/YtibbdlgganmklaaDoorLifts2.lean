/-
  Lifts, second part: heights and efforts.
-/
import Derived.Test.YtibbdlgganmklaaDoorLifts
import Derived.Test.YtibbdlgganmklaaDoorRegrown
import Derived.BigQuiet
import Derived.IntWalk
namespace Go.Proofs.YtibbdlgganmklaaDoor
open Go.ChangeShapes Go.WideShapes Go.ChangeAt Go.RowKit Go.Sort
set_option linter.unusedVariables false

/-- The height of the courses from a to b - 1. -/
def hgt (r : RS) (a b : Nat) : Int := ((List.range' a (b - a)).map (gi r.cs)).sum
theorem hgt_self (r : RS) (a : Nat) : hgt r a a = 0 := by simp [hgt]
theorem hgt_succ (r : RS) {a b : Nat} (h : a ≤ b) : hgt r a (b + 1) = hgt r a b + gi r.cs b := by
  unfold hgt
  rw [show b + 1 - a = (b - a) + 1 from by omega, List.range'_concat, List.map_append, List.sum_append]
  simp only [List.map_cons, List.map_nil, List.sum_cons, List.sum_nil, Nat.one_mul, Int.add_zero]
  rw [show a + (b - a) = b from by omega]
theorem hgt_bd (r : RS) (hO : outB r.cs 30 200 = false) (a : Nat) : ∀ b, a ≤ b → b ≤ r.cs.length → 30 * ((b : Int) - a) ≤ hgt r a b ∧ hgt r a b ≤ 200 * ((b : Int) - a) := by
  intro b h
  obtain ⟨k, rfl⟩ : ∃ k, b = a + k := ⟨b - a, by omega⟩
  clear h
  induction k with
  | zero => intro _; simp [hgt_self]
  | succ k ih =>
    intro hb
    have h1 := hgt_succ r (a := a) (b := a + k) (by omega)
    have h2 := in_of_out hO (k := a + k) (by omega)
    have h3 := ih (by omega)
    rw [← Nat.add_assoc, h1]
    omega
theorem hgt_sub (r : RS) {a b : Nat} (h : b ≤ r.cs.length) : ((r.cs.drop a).take (b - a)).sum = hgt r a b := by
  unfold hgt
  congr 1
  apply List.ext_getElem
  · simp; omega
  · intro i h1 h2
    simp only [List.length_take, List.length_drop] at h1
    simp only [List.getElem_take, List.getElem_drop, List.getElem_map, List.getElem_range', Nat.one_mul]
    unfold gi
    rw [List.getD_eq_getElem?_getD, List.getElem?_eq_getElem (by omega)]
    rfl

def sumTo (xs : List Int) (k : Nat) : Int := (xs.take k).sum
theorem sumTo_succ {xs : List Int} {k : Nat} (h : k < xs.length) : sumTo xs (k + 1) = sumTo xs k + gi xs k := by
  unfold sumTo gi
  rw [take_succ_getD h]; simp
theorem sumTo_bd {xs : List Int} (hx : ∀ k, k < xs.length → 0 ≤ gi xs k ∧ gi xs k ≤ 1000) : ∀ k, k ≤ xs.length → 0 ≤ sumTo xs k ∧ sumTo xs k ≤ 1000 * (k : Int) := by
  intro k
  induction k with
  | zero => intro _; simp [sumTo]
  | succ k ih =>
    intro h
    have h1 := ih (by omega)
    have h2 := hx k (by omega)
    rw [sumTo_succ (by omega)]
    omega

theorem impl_sumOf (v : Value) (xs : List Int) (hx : ∀ k, k < xs.length → 0 ≤ gi xs k ∧ gi xs k ≤ 1000) (hl : xs.length ≤ 1048576) (w : World) (hR : RI w v xs) :
    Calls Tryd.prog 25 #[v] w (RetP (.int .i64 xs.sum) w) := by
  obtain ⟨A, c, rfl, hc1, hc2, HA'⟩ := hR.open2
  unfold maxLen at hc2
  have HA := Lib.hid HA'; clear HA' hR
  have HX := Lib.hid hx; clear hx
  generalize hn : xs.length = n at *
  have HN := Lib.hid hn; clear hn
  have e0 : (n : Int) ≤ 1048576 := by omega
  go_enter Tryd.func25, Tryd.ntmps25
  go_wp2_with fail
  go_loop [3, 8] (fun t d => ∃ k : Nat, k ≤ n ∧ d = .int .i64 k ∧ t = .int .i64 (sumTo xs k)) (fun _ d => n - (intOf d).toNat)
  case atStart => exact ⟨0, Nat.zero_le _, rfl, by simp [sumTo]⟩
  case round =>
    obtain ⟨k, hk, rfl, rfl⟩ := hrel
    have hbd := sumTo_bd (xs := xs) (by rw [HN.out]; exact HX.out) k (by rw [HN.out]; exact hk)
    by_cases hlt : k < n
    · obtain ⟨ad, rfl, hbdd, hc⟩ := HA.out k hlt
      have hca := hc k hlt
      clear hc hbdd
      have hg := HX.out k hlt
      have e1 : (0:Int) ≤ k := by omega
      have e2 : (k:Int) < n := by omega
      go_wp2_with fail
      go_round
      case rel => exact ⟨k + 1, by omega, by go_num, by rw [sumTo_succ (by rw [HN.out]; exact hlt)]⟩
      case measure => simp [intOf]; omega
    · have e2 : ¬ (k:Int) < n := by omega
      go_wp2_with fail
      go_ret
      have hkn : k = n := by omega
      subst hkn
      exact ⟨ret_int (by unfold sumTo; rw [List.take_of_length_le (by rw [HN.out]; omega)]), rfl⟩

def absI (n : Int) : Int := if n < 0 then -n else n
theorem impl_apart (a b : Int) (h1 : -1000000 ≤ a) (h2 : a ≤ 1000000) (h3 : -1000000 ≤ b) (h4 : b ≤ 1000000) (w : World) : Calls Tryd.prog 72 #[.int .i64 a, .int .i64 b] w (RetP (.int .i64 (absI (b - a))) w) := by
  go_enter Tryd.func72, Tryd.ntmps72
  go_wp2
  all_goals
    go_ret
    exact ⟨ret_int (by unfold absI; split <;> omega), rfl⟩

/-- The effort of course k of a lift from a on. -/
def eff (r : RS) (a k : Nat) : Int := absI (hgt r a k - r.easy)
theorem eff_bd (r : RS) (hv : vRise r = true) {a k : Nat} (hak : a ≤ k) (hk : k ≤ r.cs.length) : 0 ≤ eff r a k ∧ eff r a k ≤ 10000 := by
  obtain ⟨h1, h2, h3, h4, h5⟩ := vRise_iff.1 hv
  have := hgt_bd r h1 a k hak hk
  unfold eff absI
  split <;> omega

theorem RI.sub {w : World} {ad : Addr} {n c : Nat} {xs : List Int} (h : RI w (.slice (some ad) n c) xs) (hx : 0 < xs.length) {a b : Nat} (hab : a ≤ b) (hb : b ≤ xs.length) : RI w (.slice (some (ad.add a)) (b - a) (c - a)) ((xs.drop a).take (b - a)) := by
  obtain ⟨hl, A', c', hv, h2, h3, h4⟩ := h
  injection hv with e1 e2 e3
  subst e1 e2 e3
  obtain ⟨ad', he, hlt, hc⟩ := h4 hx
  injection he with he
  subst he
  have hlen : ((xs.drop a).take (b - a)).length = b - a := by simp; omega
  refine ⟨by simp, some (ad.add a), c - a, by rw [hlen], by rw [hlen]; omega, by omega, fun _ => ⟨_, rfl, by rw [block_of_add]; exact hlt, fun j u hu => ?_⟩⟩
  rw [hlen] at *
  have hj : j < b - a := by
    rcases Nat.lt_or_ge j (b - a) with h | h
    · exact h
    · rw [List.getElem?_eq_none (by simp; omega)] at hu; cases hu
  rw [Addr.add_add]
  refine hc (a + j) u ?_
  rw [← hu]
  simp [List.getElem?_drop, hj]

theorem sub_bd {xs : List Int} {a n : Nat} (h : outB xs 30 200 = false) : ∀ j, j < ((xs.drop a).take n).length → 0 ≤ gi ((xs.drop a).take n) j ∧ gi ((xs.drop a).take n) j ≤ 1000 := by
  intro j hj
  have hj2 : j < n ∧ a + j < xs.length := by simp at hj; omega
  have hg := in_of_out h hj2.2
  have e : gi ((xs.drop a).take n) j = gi xs (a + j) := by
    unfold gi
    rw [List.getD_eq_getElem?_getD, List.getD_eq_getElem?_getD, List.getElem?_take_of_lt hj2.1, List.getElem?_drop]
  rw [e]
  omega

theorem RI.sub2 {w : World} {ad : Addr} {n c : Nat} {xs : List Int} (h : RI w (.slice (some ad) n c) xs) (hx : 0 < xs.length) {a b : Nat} (hab : a ≤ b) (hb : b ≤ xs.length) : RI w (.slice (if c = a then some ad else some (ad.add a)) (b - a) (c - a)) ((xs.drop a).take (b - a)) := by
  by_cases hca : c = a
  · obtain ⟨_, A', c', hv, h2, h3, _⟩ := h
    injection hv with e1 e2 e3
    have hba : b - a = 0 := by omega
    rw [if_pos hca, hba, List.take_zero]
    exact ⟨by simp, _, _, rfl, by simp, by omega, fun h => by simp at h⟩
  · rw [if_neg hca]
    exact h.sub hx hab hb

theorem impl_effort (v : Value) (r : RS) (a k : Nat) (hak : a ≤ k) (hk : k ≤ r.cs.length) (hv : vRise r = true) (w : World) (hR : SR w v r) :
    Calls Tryd.prog 53 #[v, .int .i64 a, .int .i64 k] w (Ret (.int .i64 (eff r a k)) w) := by
  obtain ⟨g1, g2, g3, g4, g5⟩ := vRise_iff.1 hv
  have hbd := hgt_bd r g1 a k hak hk
  obtain ⟨A, c, rfl, hf⟩ := hR
  have hc := hf
  obtain ⟨_, A', c', hvv, hcap, hcm, _⟩ := hc
  injection hvv with e1 e2 e3
  subst e1 e3
  clear e2
  obtain ⟨ad, rfl, _, _⟩ := hf.at2 (show 0 < r.cs.length by omega)
  unfold maxLen at hcm
  have HF := Lib.hid hf; clear hf
  have hk0 : ∀ d os, (grow (redrawn (w.alloc (.cells #[.slice (some ad) r.cs.length c, .int .i64 r.reach, .int .i64 r.setup, .int .i64 r.easy] 26)) d) os).cell? ⟨w.heap.size, 0, none⟩ = some (.slice (some ad) r.cs.length c) := fun d os => cell_regrown (by simp [go_sem]) d os
  have hk3 : ∀ d os, (grow (redrawn (w.alloc (.cells #[.slice (some ad) r.cs.length c, .int .i64 r.reach, .int .i64 r.setup, .int .i64 r.easy] 26)) d) os).cell? ⟨w.heap.size, 3, none⟩ = some (.int .i64 r.easy) := fun d os => cell_regrown (by simp [go_sem]) d os
  have HX : Hid (∀ d os, RI (grow (redrawn (w.alloc (.cells #[.slice (some ad) r.cs.length c, .int .i64 r.reach, .int .i64 r.setup, .int .i64 r.easy] 26)) d) os) (.slice (some ad) r.cs.length c) r.cs) := Lib.hid fun d os => (HF.out.alloc _).ext (below_regrown _ _ _)
  have e1 : (0:Int) ≤ a := by omega
  have e2 : (a:Int) ≤ k := by omega
  have e3 : (k:Int) ≤ c := by omega
  have e4 : (0:Int) ≤ k := by omega
  have HN : Hid (0 < r.cs.length) := Lib.hid (by omega)
  have HSUM := Lib.hid (fun v w (h : RI w v ((r.cs.drop a).take (k - a))) => show Calls Tryd.prog 25 #[v] w (RetP (.int .i64 (hgt r a k)) w) from hgt_sub r hk ▸ impl_sumOf v _ (sub_bd g1) (by simp; omega) w h)
  have HAP := Lib.hid (fun w => impl_apart r.easy (hgt r a k) (by omega) (by omega) (by omega) (by omega) w)
  clear g1 g2 g3 g4 g5 hbd
  go_enter Tryd.func53, Tryd.ntmps53
  go_wp2_with fail
  refine wp_region_quiet_below (by kernel_rfl) (by kernel_rfl) ?_
  repeat (go_big_quiet_step (first | (go_at_call 25; exact regrown_p (HSUM.out _ _ ((HX.out _ _).sub2 HN.out hak hk))) | (go_at_call 72; exact regrown_p (HAP.out _))))
  refine wpQuiet_nil ?_
  intro w' hw'
  obtain ⟨p, rfl⟩ := hw'
  go_wp2_with fail
  all_goals
    go_ret
    exact ⟨rfl, ext_trans (ext_alloc1 _ _) (below_regrown _ _ _)⟩

end Go.Proofs.YtibbdlgganmklaaDoor
