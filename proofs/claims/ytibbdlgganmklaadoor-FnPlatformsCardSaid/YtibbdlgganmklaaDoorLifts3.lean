/-
  Lifts, third part: EffortOf, the cost of a lift.
-/
import Derived.Test.YtibbdlgganmklaaDoorLifts2
namespace Go.Proofs.YtibbdlgganmklaaDoor
open Go.ChangeShapes Go.WideShapes Go.ChangeAt Go.RowKit Go.Sort
set_option linter.unusedVariables false

def mEffortOf (r : RS) (a k : Int) : Int × Int := bif vRise r then (bif inB k 0 ((r.cs.length : Int) - 1) && inB a 0 k then (eff r a.toNat k.toNat, 0) else (0, 2)) else (0, 1)

/-- The efforts of the courses from a to k - 1 of a lift from a on. -/
def csum (r : RS) (a k : Nat) : Int := ((List.range' a (k - a)).map (eff r a)).sum
theorem csum_self (r : RS) (a : Nat) : csum r a a = 0 := by simp [csum]
theorem csum_succ (r : RS) {a b : Nat} (h : a ≤ b) : csum r a (b + 1) = csum r a b + eff r a b := by
  unfold csum
  rw [show b + 1 - a = (b - a) + 1 from by omega, List.range'_concat, List.map_append, List.sum_append]
  simp only [List.map_cons, List.map_nil, List.sum_cons, List.sum_nil, Nat.one_mul, Int.add_zero]
  rw [show a + (b - a) = b from by omega]
theorem csum_bd (r : RS) (hv : vRise r = true) (a : Nat) : ∀ b, a ≤ b → b ≤ r.cs.length → 0 ≤ csum r a b ∧ csum r a b ≤ 10000 * ((b : Int) - a) := by
  intro b h
  obtain ⟨k, rfl⟩ : ∃ k, b = a + k := ⟨b - a, by omega⟩
  clear h
  induction k with
  | zero => intro _; simp [csum_self]
  | succ k ih =>
    intro hb
    have h1 := csum_succ r (a := a) (b := a + k) (by omega)
    have h2 := eff_bd r hv (a := a) (k := a + k) (by omega) (by omega)
    have h3 := ih (by omega)
    rw [← Nat.add_assoc, h1]
    omega
/-- What a lift costs. -/
def cost (r : RS) (a b : Nat) : Int := r.setup + csum r a b
/-- Can one reach so high? -/
def fits (r : RS) (a b : Nat) : Bool := decide (hgt r a b ≤ r.reach)
def costS (r : RS) (a b : Nat) : Int := bif fits r a b then cost r a b else -1
theorem cost_bd (r : RS) (hv : vRise r = true) {a b : Nat} (h : a ≤ b) (hb : b ≤ r.cs.length) : 0 ≤ cost r a b ∧ cost r a b ≤ 410000 := by
  obtain ⟨g1, g2, g3, g4, g5⟩ := vRise_iff.1 hv
  have := csum_bd r hv a b h hb
  unfold cost; omega

set_option maxHeartbeats 1600000 in
theorem impl_cost (v : Value) (r : RS) (a b : Nat) (hab : a ≤ b) (hb : b ≤ r.cs.length) (hv : vRise r = true) (w : World) (hR : SR w v r) :
    Calls Tryd.prog 41 #[v, .int .i64 a, .int .i64 b] w (Ret (.tuple #[.int .i64 (cost r a b), .bool (fits r a b)]) w) := by
  obtain ⟨g1, g2, g3, g4, g5⟩ := vRise_iff.1 hv
  have HV := Lib.hid hv; clear hv
  obtain ⟨A, c, rfl, hf⟩ := hR
  have HP := Lib.hid (pr_box (T := 26) hf)
  have HN : Hid (0 < r.cs.length) := Lib.hid (by omega)
  have e4 : (b:Int) ≤ 40 := by omega
  have e6 : (0:Int) ≤ a := by omega
  have e7 : (a:Int) ≤ b := by omega
  have e8 : (0:Int) ≤ b := by omega
  have HSUM := Lib.hid (fun v w (h : RI w v ((r.cs.drop a).take (b - a))) => show Calls Tryd.prog 25 #[v] w (RetP (.int .i64 (hgt r a b)) w) from hgt_sub r hb ▸ impl_sumOf v _ (sub_bd g1) (by simp; omega) w h)
  clear g1 g3 g5 hf
  go_enter Tryd.func41, Tryd.ntmps41
  go_wp2_with fail
  go_loopw [8, 9] (fun t d wr => ∃ k : Nat, a ≤ k ∧ k ≤ b ∧ d = .int .i64 k ∧ t = .int .i64 (r.setup + csum r a k) ∧ Below (w.alloc (.cells #[.slice A r.cs.length c, .int .i64 r.reach, .int .i64 r.setup, .int .i64 r.easy] 26)).heap.size (w.alloc (.cells #[.slice A r.cs.length c, .int .i64 r.reach, .int .i64 r.setup, .int .i64 r.easy] 26)) wr) (fun _ d _ => b - (intOf d).toNat)
  case atStart => exact ⟨a, Nat.le_refl _, hab, rfl, by rw [csum_self, Int.add_zero], ext_refl _⟩
  case round =>
    obtain ⟨k, hk1, hk2, rfl, rfl, hbw⟩ := hrel
    have hbd := csum_bd r HV.out a k hk1 (by omega)
    obtain ⟨A1, c1, h0, h1, h2, h3, hs⟩ := (HP.out.ext hbw).st
    have H1 := Lib.hid hs; clear hs
    have HB := Lib.hid hbw; clear hbw
    by_cases hlt : k < b
    · have e5 : (k:Int) < b := by omega
      have hh := eff_bd r HV.out hk1 (by omega)
      go_wp2_with fail
      refine (impl_effort _ r a k hk1 (by omega) HV.out _ H1.out).mono ?_
      rintro e w3 ⟨rfl, hb⟩
      have HB3 := Lib.hid (ext_trans HB.out hb)
      clear hb h0 h1 h2 h3
      go_wp2_with fail
      go_roundw
      case rel => exact ⟨k + 1, by omega, by omega, by go_num, by rw [csum_succ r hk1, Int.add_assoc], HB3.out⟩
      case measure => simp [intOf]; omega
    · have e5 : ¬ (k:Int) < b := by omega
      have hkn : k = b := by omega
      subst hkn
      obtain ⟨A2, c2, hvv, hRI⟩ := H1.out
      injection hvv with hvv
      injection hvv with hvv
      injection hvv with hvv _
      injection hvv with i1 i2 i3
      subst i1 i3
      clear i2
      have hcap := hRI
      obtain ⟨_, A', c', hv2, hcp, hcm, _⟩ := hcap
      injection hv2 with j1 j2 j3
      subst j1 j3
      clear j2
      unfold maxLen at hcm
      obtain ⟨ad, rfl, _, _⟩ := hRI.at2 HN.out
      have e9 : (k:Int) ≤ c1 := by omega
      have hk0 : ∀ d os, (grow (redrawn wr d) os).cell? ⟨w.heap.size, 0, none⟩ = some (.slice (some ad) r.cs.length c1) := fun d os => cell_regrown h0 d os
      have hk1 : ∀ d os, (grow (redrawn wr d) os).cell? ⟨w.heap.size, 1, none⟩ = some (.int .i64 r.reach) := fun d os => cell_regrown h1 d os
      have HX : Hid (∀ d os, RI (grow (redrawn wr d) os) (.slice (some ad) r.cs.length c1) r.cs) := Lib.hid fun d os => hRI.ext (below_regrown _ _ _)
      clear h2 h3 hRI
      go_wp2_with fail
      refine wp_region_quiet_below (by kernel_rfl) (by kernel_rfl) ?_
      repeat (go_big_quiet_step ((go_at_call 25; exact regrown_p (HSUM.out _ _ ((HX.out _ _).sub2 HN.out hab hb)))))
      refine wpQuiet_nil ?_
      intro w' hw'
      obtain ⟨p, rfl⟩ := hw'
      go_wp2_with fail
      all_goals
        go_ret2
        exact ⟨rfl, ext_trans (ext_trans (ext_alloc1 _ _) HB.out) (below_regrown _ _ _)⟩

end Go.Proofs.YtibbdlgganmklaaDoor
