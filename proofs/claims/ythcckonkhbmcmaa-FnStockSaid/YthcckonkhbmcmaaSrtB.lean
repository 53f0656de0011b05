/-
  slices.SortStableFunc of ints, the walks: the merge in place.
-/
import Derived.Test.YthcckonkhbmcmaaSrtA
namespace Go.Proofs.Ythcckonkhbmcmaa
open Go.ChangeShapes Go.WideShapes Go.ChangeAt Go.RowKit Go.Sort
set_option linter.unusedVariables false
set_option maxRecDepth 100000

section
variable {α : Type} [Inhabited α] {kd : α → Int} {ki : α → Nat}
theorem MgK.hiS {Y Z : Array α} {a md p q : Nat} (h : MgK kd ki Y Z a md) (hp : md ≤ p) (hs : SrtK kd ki Y p q) : SrtK kd ki Z p q := fun i j h1 h2 h3 => by
  rw [h.out i (Or.inr (by omega)), h.out j (Or.inr (by omega))]; exact hs i j h1 h2 h3
theorem MgK.hiC {Y Z : Array α} {a md p q r : Nat} (h : MgK kd ki Y Z a md) (hp : md ≤ p) (hs : CrsK ki Y p q r) : CrsK ki Z p q r := fun i j h1 h2 h3 h4 => by
  rw [h.out i (Or.inr (by omega)), h.out j (Or.inr (by omega))]; exact hs i j h1 h2 h3 h4
/-- Outside the part nothing has turned. -/
def OutK (X Y : Array α) (a b : Nat) : Prop := ∀ p, p < a ∨ b ≤ p → Y[p]! = X[p]!
/-- The search's bounds. -/
structure Bnd (a mm b md nn lo hi : Nat) : Prop where
  sum : nn = md + mm
  lo_ : a ≤ lo
  ord : lo ≤ hi
  him : hi ≤ mm
  hid : hi ≤ md
  top : nn ≤ lo + b
  lo2 : lo = a ∨ nn = lo + b
  hi2 : hi = mm ∨ hi = md
theorem low_below {X : Array α} {a mm b md nn lo hi s : Nat} (B : Bnd a mm b md nn lo hi) (h1 : SrtK kd ki X a mm) (h2 : SrtK kd ki X mm b) (hs : lo ≤ s) (hs2 : s ≤ hi)
    (hl : ∀ c, lo ≤ c → c < s → ltK kd ki X[c]! X[nn - 1 - c]!) : ∀ p q, a ≤ p → p < s → nn - s ≤ q → q < b → ltK kd ki X[p]! X[q]! := by
  intro p q hp hps hq hqb
  have e1 := B.sum; have e2 := B.lo_; have e3 := B.ord; have e4 := B.him; have e5 := B.hid; have e6 := B.top
  by_cases hsl : s = lo
  · rcases B.lo2 with h | h <;> omega
  · have h0 := hl (s - 1) (by omega) (by omega)
    have e7 : nn - 1 - (s - 1) = nn - s := by omega
    rw [e7] at h0
    have h3 : ltK kd ki X[p]! X[nn - s]! := by
      by_cases e : p = s - 1
      · rw [e]; exact h0
      · exact (h1 p (s - 1) hp (by omega) (by omega)).trans h0
    by_cases e : q = nn - s
    · rw [e]; exact h3
    · exact h3.trans (h2 (nn - s) q (by omega) (by omega) hqb)
theorem right_below {X : Array α} {a mm b md nn lo hi s : Nat} (B : Bnd a mm b md nn lo hi) (h1 : SrtK kd ki X a mm) (h2 : SrtK kd ki X mm b) (hs : lo ≤ s) (hs2 : s ≤ hi)
    (hr : ∀ c, s ≤ c → c < hi → ltK kd ki X[nn - 1 - c]! X[c]!) : ∀ p q, mm ≤ p → p < nn - s → s ≤ q → q < mm → ltK kd ki X[p]! X[q]! := by
  intro p q hp hps hq hqb
  have e1 := B.sum; have e2 := B.lo_; have e3 := B.ord; have e4 := B.him; have e5 := B.hid; have e6 := B.top
  by_cases hsl : s = hi
  · rcases B.hi2 with h | h <;> omega
  · have h0 := hr s (Nat.le_refl _) (by omega)
    have h3 : ltK kd ki X[nn - 1 - s]! X[q]! := by
      by_cases e : q = s
      · rw [e]; exact h0
      · exact h0.trans (h1 s q (by omega) (by omega) hqb)
    by_cases e : p = nn - 1 - s
    · rw [e]; exact h3
    · exact (h2 p (nn - 1 - s) hp (by omega) (by omega)).trans h3
end

set_option maxHeartbeats 12800000 in
theorem sw_merge {N : Nat} {w : World} {blk bx : Nat} {X0 : Array (Fin (N + 1))} {kd : Fin (N + 1) → Int} (hH : Holds eF w blk 0 X0) (hsz : X0.size ≤ 1048576) (hC : CmpK w blk X0.size bx kd) (cap : Nat) :
    ∀ (d : Nat) (X : Array (Fin (N + 1))) (hX : X.size = X0.size) (m0 a mm b : Nat), b - a ≤ d → a < mm → mm < b → b ≤ X0.size → SrtK kd kI X a mm → SrtK kd kI X mm b → CrsK kI X a mm b →
    Calls Try.prog 57 #[.slice (some ⟨blk, 0, none⟩) X0.size cap, .int .i64 a, .int .i64 mm, .int .i64 b, cmF bx] (WX w blk X m0) (RetX w blk fun Y => MgK kd kI X Y a b) := by
  intro d
  induction d with
  | zero => intro X hX m0 a mm b hd ham hmb; omega
  | succ d ih =>
  intro X hX m0 a mm b hd ham hmb hb hs1 hs2 hcr
  by_cases h1 : a + 1 = mm
  · exact sw_one hH hsz hC cap X hX m0 a mm b h1 hmb hb hs2 hcr
  by_cases h2 : mm + 1 = b
  · exact sw_last hH hsz hC cap X hX m0 a mm b (by omega) h2 hb hs1 hcr
  have HH := Lib.hid hH
  have HX := Lib.hid hX
  have HC := Lib.hid hC
  have HS1 := Lib.hid hs1
  have HS2 := Lib.hid hs2
  have HCR := Lib.hid hcr
  have IH := Lib.hid ih
  clear hH hX hC hs1 hs2 hcr ih
  obtain ⟨n, hn⟩ : ∃ n, X0.size = n := ⟨_, rfl⟩
  have HN := Lib.hid hn
  rw [hn] at hsz hb HC IH ⊢
  clear hn
  have e0 : ((mm : Int) - a == 1) = false := by rw [beq_eq_false_iff_ne]; omega
  have e1 : ((b : Int) - mm == 1) = false := by rw [beq_eq_false_iff_ne]; omega
  obtain ⟨md, hmd⟩ : ∃ md, (a + b) / 2 = md := ⟨_, rfl⟩
  obtain ⟨nn, hnn⟩ : ∃ nn, md + mm = nn := ⟨_, rfl⟩
  obtain ⟨pp, hpp⟩ : ∃ pp, nn - 1 = pp := ⟨_, rfl⟩
  have e2 : ((a : Int) + b) / 2 = md := by omega
  have e3 : (md : Int) + mm = nn := by omega
  have e4 : (nn : Int) - 1 = pp := by omega
  have HPP : Hid (nn = pp + 1) := Lib.hid (by omega)
  have m1 : a < md := by omega
  have m2 : md < b := by omega
  have m3 : md ≤ 1048576 := by omega
  by_cases hgt : md < mm
  · obtain ⟨lo, hlo⟩ : ∃ lo, nn - b = lo := ⟨_, rfl⟩
    have e5 : (nn : Int) - b = lo := by omega
    have HBD : Hid (Bnd a mm b md nn lo md) := Lib.hid ⟨by omega, by omega, by omega, by omega, by omega, by omega, by omega, by omega⟩
    have e6 : decide ((mm : Int) > md) = true := decide_eq_true (by omega)
    clear hmd hnn hpp hlo
    go_enter Try.func57, Try.ntmps57
    go_wp2_with fail
    go_loopw [20, 21] (fun vi vj wr => ∃ s r m : Nat, lo ≤ s ∧ s ≤ r ∧ r ≤ md ∧ vi = .int .i64 s ∧ vj = .int .i64 r ∧ Hid (∀ c, lo ≤ c → c < s → ltK kd kI X[c]! X[nn - 1 - c]!) ∧ Hid (∀ c, r ≤ c → c < md → ltK kd kI X[nn - 1 - c]! X[c]!) ∧ wr = WX w blk X m) (fun vi vj _ => (intOf vj).toNat - (intOf vi).toNat)
    case atStart => exact ⟨lo, md, m0, Nat.le_refl _, HBD.out.ord, Nat.le_refl _, rfl, rfl, Lib.hid (fun h h1 h2 => by omega), Lib.hid (fun h h1 h2 => by omega), rfl⟩
    case round =>
      obtain ⟨s, r, m, hi, hij, hj, rfl, rfl, H1, H2, rfl⟩ := hrel
      have bd1 := HBD.out.sum
      have bd2 := HBD.out.lo_
      have bd3 := HBD.out.him
      have bd4 := HBD.out.hid
      have bd5 := HBD.out.top
      by_cases hlt : s < r
      · have f1 : (s : Int) < r := by omega
        obtain ⟨cc, hcc⟩ : ∃ cc, (s + r) / 2 = cc := ⟨_, rfl⟩
        obtain ⟨q, hq⟩ : ∃ q, nn - 1 - cc = q := ⟨_, rfl⟩
        have k1 : ((s : Int) + r) / 2 = cc := by omega
        have k2 : (pp : Int) - cc = q := by have := HPP.out; omega
        have HCC1 := Lib.hid hcc
        have HQ := Lib.hid hq
        have k3 : s ≤ cc := by omega
        have k4 : cc < r := by omega
        have k5 : mm ≤ q := by omega
        have k6 : q < b := by omega
        have k7 : cc + 1 ≤ r := by omega
        clear hcc hq bd1 bd2 bd4 bd5
        have c1 := (WX.cell HH.out HX.out m (j := q) (by rw [HN.out]; omega)).1
        have c2 := (WX.cell HH.out HX.out m (j := cc) (by rw [HN.out]; omega)).1
        unfold eF at c1 c2
        obtain ⟨x, hx⟩ : ∃ x, X[q]! = x := ⟨_, rfl⟩
        obtain ⟨y, hy⟩ : ∃ y, X[cc]! = y := ⟨_, rfl⟩
        have HXX := Lib.hid hx
        have HYY := Lib.hid hy
        rw [hx] at c1
        rw [hy] at c2
        clear hx hy
        have g1 : (0 : Int) ≤ q := by omega
        have g2 : (q : Int) < n := by omega
        have g3 : (0 : Int) ≤ cc := by omega
        have g4 : (cc : Int) < n := by omega
        have HCC := Lib.hid (fun k => HC.out.at_ (hX := by rw [HX.out, HN.out]) m x y k)
        have HD := Lib.hid (fun k => WX.drewN w blk X m k)
        generalize WX w blk X m = wq at c1 c2 HCC HD ⊢
        by_cases hlo : kd x < kd y
        · have e3 : cmpI (kd x) (kd y) = -1 := by unfold cmpI; rw [if_pos hlo]
          rw [e3] at HCC
          have HLO := Lib.hid hlo; clear hlo e3
          go_wp2_with fail
          go_quiet ((go_at_call 46; exact (HCC.out _)))
          go_wp2_with fail
          refine ⟨⟨s, cc, m + nq, hi, k3, by omega, rfl, rfl, H1, Lib.hid fun h h1 h2 => ?_, HD.out nq⟩, by simp [intOf]; omega⟩
          have e1 := HQ.out
          have e2 := HBD.out.sum; have e3 := HBD.out.lo_; have e4 := HBD.out.him; have e5 := HBD.out.hid; have e6 := HBD.out.top
          have h0 : ltK kd kI X[nn - 1 - cc]! X[cc]! := by rw [e1, HXX.out, HYY.out]; exact ltK_yes _ HLO.out
          by_cases hq : h = cc
          · rw [hq]; exact h0
          · exact ((HS2.out (nn - 1 - h) (nn - 1 - cc) (by omega) (by omega) (by omega)).trans h0).trans (HS1.out cc h (by omega) (by omega) (by omega))
        · have e3 : (cmpI (kd x) (kd y) < 0) = False := eq_false (by unfold cmpI; rw [if_neg hlo]; split <;> omega)
          obtain ⟨cv, hcv⟩ : ∃ c, cmpI (kd x) (kd y) = c := ⟨_, rfl⟩
          rw [hcv] at HCC e3
          have e4 : ¬ cv < 0 := fun h => by rw [e3] at h; exact h
          have e5 : decide (cv < 0) = false := decide_eq_false e4
          have HLO := Lib.hid hlo; clear hlo e3 hcv
          go_wp2_with fail
          go_quiet ((go_at_call 46; exact (HCC.out _)))
          go_wp2_with fail
          refine ⟨⟨cc + 1, r, m + nq, by omega, k7, hj, rfl, rfl, Lib.hid fun h h1 h2 => ?_, H2, HD.out nq⟩, by simp [intOf]; omega⟩
          have e1 := HQ.out
          have e2 := HBD.out.sum; have e3 := HBD.out.lo_; have e6 := HBD.out.him; have e7 := HBD.out.hid; have e8 := HBD.out.top
          have h0 : ltK kd kI X[cc]! X[nn - 1 - cc]! := ltK_no (by rw [e1, HXX.out, HYY.out]; have := HLO.out; omega) (HCR.out cc (nn - 1 - cc) (by omega) (by omega) (by omega) (by omega))
          by_cases hq : h = cc
          · rw [hq]; exact h0
          · exact ((HS1.out h cc (by omega) (by omega) (by omega)).trans h0).trans (HS2.out (nn - 1 - cc) (nn - 1 - h) (by omega) (by omega) (by omega))
      · obtain rfl : s = r := by omega
        have f1 : ¬ (s : Int) < s := by omega
        obtain ⟨ee, hee⟩ : ∃ ee, nn - s = ee := ⟨_, rfl⟩
        have k1 : (nn : Int) - s = ee := by omega
        have HLB : Hid (∀ p q, a ≤ p → p < s → ee ≤ q → q < b → ltK kd kI X[p]! X[q]!) := Lib.hid (by rw [← hee]; exact low_below HBD.out HS1.out HS2.out hi hj H1.out)
        have HRB : Hid (∀ p q, mm ≤ p → p < ee → s ≤ q → q < mm → ltK kd kI X[p]! X[q]!) := Lib.hid (by rw [← hee]; exact right_below HBD.out HS1.out HS2.out hi hj H2.out)
        have t1 : s ≤ mm := by omega
        have t2 : mm ≤ ee := by omega
        have t3 : ee ≤ b := by omega
        have t4 : s + (ee - mm) = md := by omega
        have t5 : a ≤ s := by omega
        have t6 : s ≤ md := by omega
        have t7 : md ≤ ee := by omega
        clear hee bd1 bd2 bd3 bd4 bd5 hi hij hj H1 H2 HBD HPP
        by_cases o1 : s < mm
        · have o1p : decide ((s : Int) < mm) = true := decide_eq_true (by omega)
          have o1q : (s : Int) < mm := by omega
          by_cases o2 : mm < ee
          · have o2q : (mm : Int) < ee := by omega
            have HRT := Lib.hid (sw_rotate HH.out (by rw [HN.out]; exact hsz) cap (cmF bx) X HX.out m s mm ee o1 o2 (by rw [HN.out]; omega))
            rw [HN.out] at HRT
            go_wp2_with fail
            refine (show Calls _ _ _ _ _ from HRT.out).mono ?_
            rintro e wz ⟨rfl, Y, my, hrot, rfl⟩
            have HROT := Lib.hid hrot
            clear hrot HRT
            obtain ⟨z1, z2, z3, z4, z5, z6, z7, z8, z9⟩ := rot_parts (md := md) HROT.out ham hmb (by omega) (by omega) (by omega) (by omega) (by omega) HS1.out HS2.out HCR.out HLB.out HRB.out
            have HP1 := Lib.hid z1
            have HP2 := Lib.hid z2
            have HP3 := Lib.hid z3
            have HP4 := Lib.hid z4
            have HP5 := Lib.hid z5
            have HP6 := Lib.hid z6
            have HYX := Lib.hid z7
            have HYO : Hid (OutK X Y a b) := Lib.hid z8
            have HYM := Lib.hid z9
            have HYs : Hid ((Y).size = X0.size) := Lib.hid (by rw [HROT.out.size, HX.out])
            clear z1 z2 z3 z4 z5 z6 z7 z8 z9
            by_cases l1 : a < s
            · have p1 : decide ((a : Int) < s) = true := decide_eq_true (by omega)
              have p1b : (a : Int) < s := by omega
              by_cases l2 : s < md
              · have p2 : (s : Int) < md := by omega
                have HCL := Lib.hid (IH.out Y (by rw [HYs.out, HN.out]) my a s md (by omega) l1 l2 (by omega) HP1.out HP2.out HP3.out)
                go_wp2_with fail
                refine (show Calls _ _ _ _ _ from HCL.out).mono ?_
                rintro e wz ⟨rfl, Z, mz, hmg, rfl⟩
                have HL := Lib.hid hmg
                clear hmg HCL
                have HZs : Hid (Z.size = X0.size) := Lib.hid (by rw [HL.out.size, HYs.out])
                by_cases r1 : md < ee
                · have q1 : decide ((md : Int) < ee) = true := decide_eq_true (by omega)
                  have q1b : (md : Int) < ee := by omega
                  by_cases r2 : ee < b
                  · have q2 : (ee : Int) < b := by omega
                    have HCR := Lib.hid (IH.out Z (by rw [HZs.out, HN.out]) mz md ee b (by omega) (by omega) (by omega) (by omega) (HL.out.hiS (Nat.le_refl _) HP4.out) (HL.out.hiS (by omega) HP5.out) (HL.out.hiC (Nat.le_refl _) HP6.out))
                    go_wp2_with fail
                    refine (show Calls _ _ _ _ _ from HCR.out).mono ?_
                    rintro e wz ⟨rfl, V, mv, hmg, rfl⟩
                    have HR := Lib.hid hmg
                    clear hmg
                    go_wp2_with fail
                    go_end0
                    exact ⟨rfl, _, _, MgK.join (HYs.out.trans HX.out.symm) HYO.out HYM.out HYX.out (by omega) (by omega) HL.out HR.out, rfl⟩
                  · have q2 : ¬ (ee : Int) < b := by omega
                    have HR : Hid (MgK kd kI Z Z md b) := Lib.hid (MgK.same (by
                      have e : ee = b := by omega
                      rw [e] at HP4
                      exact HL.out.hiS (Nat.le_refl _) HP4.out))
                    go_wp2_with fail
                    go_end0
                    exact ⟨rfl, _, _, MgK.join (HYs.out.trans HX.out.symm) HYO.out HYM.out HYX.out (by omega) (by omega) HL.out HR.out, rfl⟩
                · have q1 : decide ((md : Int) < ee) = false := decide_eq_false (by omega)
                  have q1b : ¬ (md : Int) < ee := by omega
                  have HR : Hid (MgK kd kI Z Z md b) := Lib.hid (MgK.same (by
                    have e : ee = md := by omega
                    rw [e] at HP5
                    exact HL.out.hiS (Nat.le_refl _) HP5.out))
                  go_wp2_with fail
                  go_end0
                  exact ⟨rfl, _, _, MgK.join (HYs.out.trans HX.out.symm) HYO.out HYM.out HYX.out (by omega) (by omega) HL.out HR.out, rfl⟩
              · have p2 : ¬ (s : Int) < md := by omega
                obtain ⟨Z, mz, hZ, HL⟩ : ∃ Z mz, WX w blk Z mz = WX w blk Y my ∧ Hid (MgK kd kI Y Z a md) := ⟨Y, my, rfl, Lib.hid (MgK.same (by
                  have e : s = md := by omega
                  rw [e] at HP1
                  exact HP1.out))⟩
                rw [← hZ]
                clear hZ
                have HZs : Hid (Z.size = X0.size) := Lib.hid (by rw [HL.out.size, HYs.out])
                by_cases r1 : md < ee
                · have q1 : decide ((md : Int) < ee) = true := decide_eq_true (by omega)
                  have q1b : (md : Int) < ee := by omega
                  by_cases r2 : ee < b
                  · have q2 : (ee : Int) < b := by omega
                    have HCR := Lib.hid (IH.out Z (by rw [HZs.out, HN.out]) mz md ee b (by omega) (by omega) (by omega) (by omega) (HL.out.hiS (Nat.le_refl _) HP4.out) (HL.out.hiS (by omega) HP5.out) (HL.out.hiC (Nat.le_refl _) HP6.out))
                    go_wp2_with fail
                    refine (show Calls _ _ _ _ _ from HCR.out).mono ?_
                    rintro e wz ⟨rfl, V, mv, hmg, rfl⟩
                    have HR := Lib.hid hmg
                    clear hmg
                    go_wp2_with fail
                    go_end0
                    exact ⟨rfl, _, _, MgK.join (HYs.out.trans HX.out.symm) HYO.out HYM.out HYX.out (by omega) (by omega) HL.out HR.out, rfl⟩
                  · have q2 : ¬ (ee : Int) < b := by omega
                    have HR : Hid (MgK kd kI Z Z md b) := Lib.hid (MgK.same (by
                      have e : ee = b := by omega
                      rw [e] at HP4
                      exact HL.out.hiS (Nat.le_refl _) HP4.out))
                    go_wp2_with fail
                    go_end0
                    exact ⟨rfl, _, _, MgK.join (HYs.out.trans HX.out.symm) HYO.out HYM.out HYX.out (by omega) (by omega) HL.out HR.out, rfl⟩
                · have q1 : decide ((md : Int) < ee) = false := decide_eq_false (by omega)
                  have q1b : ¬ (md : Int) < ee := by omega
                  have HR : Hid (MgK kd kI Z Z md b) := Lib.hid (MgK.same (by
                    have e : ee = md := by omega
                    rw [e] at HP5
                    exact HL.out.hiS (Nat.le_refl _) HP5.out))
                  go_wp2_with fail
                  go_end0
                  exact ⟨rfl, _, _, MgK.join (HYs.out.trans HX.out.symm) HYO.out HYM.out HYX.out (by omega) (by omega) HL.out HR.out, rfl⟩
            · have p1 : decide ((a : Int) < s) = false := decide_eq_false (by omega)
              have p1b : ¬ (a : Int) < s := by omega
              obtain ⟨Z, mz, hZ, HL⟩ : ∃ Z mz, WX w blk Z mz = WX w blk Y my ∧ Hid (MgK kd kI Y Z a md) := ⟨Y, my, rfl, Lib.hid (MgK.same (by
                have e : a = s := by omega
                rw [← e] at HP2
                exact HP2.out))⟩
              rw [← hZ]
              clear hZ
              have HZs : Hid (Z.size = X0.size) := Lib.hid (by rw [HL.out.size, HYs.out])
              by_cases r1 : md < ee
              · have q1 : decide ((md : Int) < ee) = true := decide_eq_true (by omega)
                have q1b : (md : Int) < ee := by omega
                by_cases r2 : ee < b
                · have q2 : (ee : Int) < b := by omega
                  have HCR := Lib.hid (IH.out Z (by rw [HZs.out, HN.out]) mz md ee b (by omega) (by omega) (by omega) (by omega) (HL.out.hiS (Nat.le_refl _) HP4.out) (HL.out.hiS (by omega) HP5.out) (HL.out.hiC (Nat.le_refl _) HP6.out))
                  go_wp2_with fail
                  refine (show Calls _ _ _ _ _ from HCR.out).mono ?_
                  rintro e wz ⟨rfl, V, mv, hmg, rfl⟩
                  have HR := Lib.hid hmg
                  clear hmg
                  go_wp2_with fail
                  go_end0
                  exact ⟨rfl, _, _, MgK.join (HYs.out.trans HX.out.symm) HYO.out HYM.out HYX.out (by omega) (by omega) HL.out HR.out, rfl⟩
                · have q2 : ¬ (ee : Int) < b := by omega
                  have HR : Hid (MgK kd kI Z Z md b) := Lib.hid (MgK.same (by
                    have e : ee = b := by omega
                    rw [e] at HP4
                    exact HL.out.hiS (Nat.le_refl _) HP4.out))
                  go_wp2_with fail
                  go_end0
                  exact ⟨rfl, _, _, MgK.join (HYs.out.trans HX.out.symm) HYO.out HYM.out HYX.out (by omega) (by omega) HL.out HR.out, rfl⟩
              · have q1 : decide ((md : Int) < ee) = false := decide_eq_false (by omega)
                have q1b : ¬ (md : Int) < ee := by omega
                have HR : Hid (MgK kd kI Z Z md b) := Lib.hid (MgK.same (by
                  have e : ee = md := by omega
                  rw [e] at HP5
                  exact HL.out.hiS (Nat.le_refl _) HP5.out))
                go_wp2_with fail
                go_end0
                exact ⟨rfl, _, _, MgK.join (HYs.out.trans HX.out.symm) HYO.out HYM.out HYX.out (by omega) (by omega) HL.out HR.out, rfl⟩
          · have o2q : ¬ (mm : Int) < ee := by omega
            have HROT : Hid (RotR X X s mm ee) := Lib.hid (RotR.none (by omega) t1 t2)
            obtain ⟨z1, z2, z3, z4, z5, z6, z7, z8, z9⟩ := rot_parts (md := md) HROT.out ham hmb (by omega) (by omega) (by omega) (by omega) (by omega) HS1.out HS2.out HCR.out HLB.out HRB.out
            have HP1 := Lib.hid z1
            have HP2 := Lib.hid z2
            have HP3 := Lib.hid z3
            have HP4 := Lib.hid z4
            have HP5 := Lib.hid z5
            have HP6 := Lib.hid z6
            have HYX := Lib.hid z7
            have HYO : Hid (OutK X X a b) := Lib.hid z8
            have HYM := Lib.hid z9
            have HYs : Hid ((X).size = X0.size) := Lib.hid (by rw [HROT.out.size, HX.out])
            clear z1 z2 z3 z4 z5 z6 z7 z8 z9
            by_cases l1 : a < s
            · have p1 : decide ((a : Int) < s) = true := decide_eq_true (by omega)
              have p1b : (a : Int) < s := by omega
              by_cases l2 : s < md
              · have p2 : (s : Int) < md := by omega
                have HCL := Lib.hid (IH.out X (by rw [HYs.out, HN.out]) m a s md (by omega) l1 l2 (by omega) HP1.out HP2.out HP3.out)
                go_wp2_with fail
                refine (show Calls _ _ _ _ _ from HCL.out).mono ?_
                rintro e wz ⟨rfl, Z, mz, hmg, rfl⟩
                have HL := Lib.hid hmg
                clear hmg HCL
                have HZs : Hid (Z.size = X0.size) := Lib.hid (by rw [HL.out.size, HYs.out])
                by_cases r1 : md < ee
                · have q1 : decide ((md : Int) < ee) = true := decide_eq_true (by omega)
                  have q1b : (md : Int) < ee := by omega
                  by_cases r2 : ee < b
                  · have q2 : (ee : Int) < b := by omega
                    have HCR := Lib.hid (IH.out Z (by rw [HZs.out, HN.out]) mz md ee b (by omega) (by omega) (by omega) (by omega) (HL.out.hiS (Nat.le_refl _) HP4.out) (HL.out.hiS (by omega) HP5.out) (HL.out.hiC (Nat.le_refl _) HP6.out))
                    go_wp2_with fail
                    refine (show Calls _ _ _ _ _ from HCR.out).mono ?_
                    rintro e wz ⟨rfl, V, mv, hmg, rfl⟩
                    have HR := Lib.hid hmg
                    clear hmg
                    go_wp2_with fail
                    go_end0
                    exact ⟨rfl, _, _, MgK.join (HYs.out.trans HX.out.symm) HYO.out HYM.out HYX.out (by omega) (by omega) HL.out HR.out, rfl⟩
                  · have q2 : ¬ (ee : Int) < b := by omega
                    have HR : Hid (MgK kd kI Z Z md b) := Lib.hid (MgK.same (by
                      have e : ee = b := by omega
                      rw [e] at HP4
                      exact HL.out.hiS (Nat.le_refl _) HP4.out))
                    go_wp2_with fail
                    go_end0
                    exact ⟨rfl, _, _, MgK.join (HYs.out.trans HX.out.symm) HYO.out HYM.out HYX.out (by omega) (by omega) HL.out HR.out, rfl⟩
                · have q1 : decide ((md : Int) < ee) = false := decide_eq_false (by omega)
                  have q1b : ¬ (md : Int) < ee := by omega
                  have HR : Hid (MgK kd kI Z Z md b) := Lib.hid (MgK.same (by
                    have e : ee = md := by omega
                    rw [e] at HP5
                    exact HL.out.hiS (Nat.le_refl _) HP5.out))
                  go_wp2_with fail
                  go_end0
                  exact ⟨rfl, _, _, MgK.join (HYs.out.trans HX.out.symm) HYO.out HYM.out HYX.out (by omega) (by omega) HL.out HR.out, rfl⟩
              · have p2 : ¬ (s : Int) < md := by omega
                obtain ⟨Z, mz, hZ, HL⟩ : ∃ Z mz, WX w blk Z mz = WX w blk X m ∧ Hid (MgK kd kI X Z a md) := ⟨X, m, rfl, Lib.hid (MgK.same (by
                  have e : s = md := by omega
                  rw [e] at HP1
                  exact HP1.out))⟩
                rw [← hZ]
                clear hZ
                have HZs : Hid (Z.size = X0.size) := Lib.hid (by rw [HL.out.size, HYs.out])
                by_cases r1 : md < ee
                · have q1 : decide ((md : Int) < ee) = true := decide_eq_true (by omega)
                  have q1b : (md : Int) < ee := by omega
                  by_cases r2 : ee < b
                  · have q2 : (ee : Int) < b := by omega
                    have HCR := Lib.hid (IH.out Z (by rw [HZs.out, HN.out]) mz md ee b (by omega) (by omega) (by omega) (by omega) (HL.out.hiS (Nat.le_refl _) HP4.out) (HL.out.hiS (by omega) HP5.out) (HL.out.hiC (Nat.le_refl _) HP6.out))
                    go_wp2_with fail
                    refine (show Calls _ _ _ _ _ from HCR.out).mono ?_
                    rintro e wz ⟨rfl, V, mv, hmg, rfl⟩
                    have HR := Lib.hid hmg
                    clear hmg
                    go_wp2_with fail
                    go_end0
                    exact ⟨rfl, _, _, MgK.join (HYs.out.trans HX.out.symm) HYO.out HYM.out HYX.out (by omega) (by omega) HL.out HR.out, rfl⟩
                  · have q2 : ¬ (ee : Int) < b := by omega
                    have HR : Hid (MgK kd kI Z Z md b) := Lib.hid (MgK.same (by
                      have e : ee = b := by omega
                      rw [e] at HP4
                      exact HL.out.hiS (Nat.le_refl _) HP4.out))
                    go_wp2_with fail
                    go_end0
                    exact ⟨rfl, _, _, MgK.join (HYs.out.trans HX.out.symm) HYO.out HYM.out HYX.out (by omega) (by omega) HL.out HR.out, rfl⟩
                · have q1 : decide ((md : Int) < ee) = false := decide_eq_false (by omega)
                  have q1b : ¬ (md : Int) < ee := by omega
                  have HR : Hid (MgK kd kI Z Z md b) := Lib.hid (MgK.same (by
                    have e : ee = md := by omega
                    rw [e] at HP5
                    exact HL.out.hiS (Nat.le_refl _) HP5.out))
                  go_wp2_with fail
                  go_end0
                  exact ⟨rfl, _, _, MgK.join (HYs.out.trans HX.out.symm) HYO.out HYM.out HYX.out (by omega) (by omega) HL.out HR.out, rfl⟩
            · have p1 : decide ((a : Int) < s) = false := decide_eq_false (by omega)
              have p1b : ¬ (a : Int) < s := by omega
              obtain ⟨Z, mz, hZ, HL⟩ : ∃ Z mz, WX w blk Z mz = WX w blk X m ∧ Hid (MgK kd kI X Z a md) := ⟨X, m, rfl, Lib.hid (MgK.same (by
                have e : a = s := by omega
                rw [← e] at HP2
                exact HP2.out))⟩
              rw [← hZ]
              clear hZ
              have HZs : Hid (Z.size = X0.size) := Lib.hid (by rw [HL.out.size, HYs.out])
              by_cases r1 : md < ee
              · have q1 : decide ((md : Int) < ee) = true := decide_eq_true (by omega)
                have q1b : (md : Int) < ee := by omega
                by_cases r2 : ee < b
                · have q2 : (ee : Int) < b := by omega
                  have HCR := Lib.hid (IH.out Z (by rw [HZs.out, HN.out]) mz md ee b (by omega) (by omega) (by omega) (by omega) (HL.out.hiS (Nat.le_refl _) HP4.out) (HL.out.hiS (by omega) HP5.out) (HL.out.hiC (Nat.le_refl _) HP6.out))
                  go_wp2_with fail
                  refine (show Calls _ _ _ _ _ from HCR.out).mono ?_
                  rintro e wz ⟨rfl, V, mv, hmg, rfl⟩
                  have HR := Lib.hid hmg
                  clear hmg
                  go_wp2_with fail
                  go_end0
                  exact ⟨rfl, _, _, MgK.join (HYs.out.trans HX.out.symm) HYO.out HYM.out HYX.out (by omega) (by omega) HL.out HR.out, rfl⟩
                · have q2 : ¬ (ee : Int) < b := by omega
                  have HR : Hid (MgK kd kI Z Z md b) := Lib.hid (MgK.same (by
                    have e : ee = b := by omega
                    rw [e] at HP4
                    exact HL.out.hiS (Nat.le_refl _) HP4.out))
                  go_wp2_with fail
                  go_end0
                  exact ⟨rfl, _, _, MgK.join (HYs.out.trans HX.out.symm) HYO.out HYM.out HYX.out (by omega) (by omega) HL.out HR.out, rfl⟩
              · have q1 : decide ((md : Int) < ee) = false := decide_eq_false (by omega)
                have q1b : ¬ (md : Int) < ee := by omega
                have HR : Hid (MgK kd kI Z Z md b) := Lib.hid (MgK.same (by
                  have e : ee = md := by omega
                  rw [e] at HP5
                  exact HL.out.hiS (Nat.le_refl _) HP5.out))
                go_wp2_with fail
                go_end0
                exact ⟨rfl, _, _, MgK.join (HYs.out.trans HX.out.symm) HYO.out HYM.out HYX.out (by omega) (by omega) HL.out HR.out, rfl⟩
        · have o1p : decide ((s : Int) < mm) = false := decide_eq_false (by omega)
          have o1q : ¬ (s : Int) < mm := by omega
          have HROT : Hid (RotR X X s mm ee) := Lib.hid (RotR.none (by omega) t1 t2)
          obtain ⟨z1, z2, z3, z4, z5, z6, z7, z8, z9⟩ := rot_parts (md := md) HROT.out ham hmb (by omega) (by omega) (by omega) (by omega) (by omega) HS1.out HS2.out HCR.out HLB.out HRB.out
          have HP1 := Lib.hid z1
          have HP2 := Lib.hid z2
          have HP3 := Lib.hid z3
          have HP4 := Lib.hid z4
          have HP5 := Lib.hid z5
          have HP6 := Lib.hid z6
          have HYX := Lib.hid z7
          have HYO : Hid (OutK X X a b) := Lib.hid z8
          have HYM := Lib.hid z9
          have HYs : Hid ((X).size = X0.size) := Lib.hid (by rw [HROT.out.size, HX.out])
          clear z1 z2 z3 z4 z5 z6 z7 z8 z9
          by_cases l1 : a < s
          · have p1 : decide ((a : Int) < s) = true := decide_eq_true (by omega)
            have p1b : (a : Int) < s := by omega
            by_cases l2 : s < md
            · have p2 : (s : Int) < md := by omega
              have HCL := Lib.hid (IH.out X (by rw [HYs.out, HN.out]) m a s md (by omega) l1 l2 (by omega) HP1.out HP2.out HP3.out)
              go_wp2_with fail
              refine (show Calls _ _ _ _ _ from HCL.out).mono ?_
              rintro e wz ⟨rfl, Z, mz, hmg, rfl⟩
              have HL := Lib.hid hmg
              clear hmg HCL
              have HZs : Hid (Z.size = X0.size) := Lib.hid (by rw [HL.out.size, HYs.out])
              by_cases r1 : md < ee
              · have q1 : decide ((md : Int) < ee) = true := decide_eq_true (by omega)
                have q1b : (md : Int) < ee := by omega
                by_cases r2 : ee < b
                · have q2 : (ee : Int) < b := by omega
                  have HCR := Lib.hid (IH.out Z (by rw [HZs.out, HN.out]) mz md ee b (by omega) (by omega) (by omega) (by omega) (HL.out.hiS (Nat.le_refl _) HP4.out) (HL.out.hiS (by omega) HP5.out) (HL.out.hiC (Nat.le_refl _) HP6.out))
                  go_wp2_with fail
                  refine (show Calls _ _ _ _ _ from HCR.out).mono ?_
                  rintro e wz ⟨rfl, V, mv, hmg, rfl⟩
                  have HR := Lib.hid hmg
                  clear hmg
                  go_wp2_with fail
                  go_end0
                  exact ⟨rfl, _, _, MgK.join (HYs.out.trans HX.out.symm) HYO.out HYM.out HYX.out (by omega) (by omega) HL.out HR.out, rfl⟩
                · have q2 : ¬ (ee : Int) < b := by omega
                  have HR : Hid (MgK kd kI Z Z md b) := Lib.hid (MgK.same (by
                    have e : ee = b := by omega
                    rw [e] at HP4
                    exact HL.out.hiS (Nat.le_refl _) HP4.out))
                  go_wp2_with fail
                  go_end0
                  exact ⟨rfl, _, _, MgK.join (HYs.out.trans HX.out.symm) HYO.out HYM.out HYX.out (by omega) (by omega) HL.out HR.out, rfl⟩
              · have q1 : decide ((md : Int) < ee) = false := decide_eq_false (by omega)
                have q1b : ¬ (md : Int) < ee := by omega
                have HR : Hid (MgK kd kI Z Z md b) := Lib.hid (MgK.same (by
                  have e : ee = md := by omega
                  rw [e] at HP5
                  exact HL.out.hiS (Nat.le_refl _) HP5.out))
                go_wp2_with fail
                go_end0
                exact ⟨rfl, _, _, MgK.join (HYs.out.trans HX.out.symm) HYO.out HYM.out HYX.out (by omega) (by omega) HL.out HR.out, rfl⟩
            · have p2 : ¬ (s : Int) < md := by omega
              obtain ⟨Z, mz, hZ, HL⟩ : ∃ Z mz, WX w blk Z mz = WX w blk X m ∧ Hid (MgK kd kI X Z a md) := ⟨X, m, rfl, Lib.hid (MgK.same (by
                have e : s = md := by omega
                rw [e] at HP1
                exact HP1.out))⟩
              rw [← hZ]
              clear hZ
              have HZs : Hid (Z.size = X0.size) := Lib.hid (by rw [HL.out.size, HYs.out])
              by_cases r1 : md < ee
              · have q1 : decide ((md : Int) < ee) = true := decide_eq_true (by omega)
                have q1b : (md : Int) < ee := by omega
                by_cases r2 : ee < b
                · have q2 : (ee : Int) < b := by omega
                  have HCR := Lib.hid (IH.out Z (by rw [HZs.out, HN.out]) mz md ee b (by omega) (by omega) (by omega) (by omega) (HL.out.hiS (Nat.le_refl _) HP4.out) (HL.out.hiS (by omega) HP5.out) (HL.out.hiC (Nat.le_refl _) HP6.out))
                  go_wp2_with fail
                  refine (show Calls _ _ _ _ _ from HCR.out).mono ?_
                  rintro e wz ⟨rfl, V, mv, hmg, rfl⟩
                  have HR := Lib.hid hmg
                  clear hmg
                  go_wp2_with fail
                  go_end0
                  exact ⟨rfl, _, _, MgK.join (HYs.out.trans HX.out.symm) HYO.out HYM.out HYX.out (by omega) (by omega) HL.out HR.out, rfl⟩
                · have q2 : ¬ (ee : Int) < b := by omega
                  have HR : Hid (MgK kd kI Z Z md b) := Lib.hid (MgK.same (by
                    have e : ee = b := by omega
                    rw [e] at HP4
                    exact HL.out.hiS (Nat.le_refl _) HP4.out))
                  go_wp2_with fail
                  go_end0
                  exact ⟨rfl, _, _, MgK.join (HYs.out.trans HX.out.symm) HYO.out HYM.out HYX.out (by omega) (by omega) HL.out HR.out, rfl⟩
              · have q1 : decide ((md : Int) < ee) = false := decide_eq_false (by omega)
                have q1b : ¬ (md : Int) < ee := by omega
                have HR : Hid (MgK kd kI Z Z md b) := Lib.hid (MgK.same (by
                  have e : ee = md := by omega
                  rw [e] at HP5
                  exact HL.out.hiS (Nat.le_refl _) HP5.out))
                go_wp2_with fail
                go_end0
                exact ⟨rfl, _, _, MgK.join (HYs.out.trans HX.out.symm) HYO.out HYM.out HYX.out (by omega) (by omega) HL.out HR.out, rfl⟩
          · have p1 : decide ((a : Int) < s) = false := decide_eq_false (by omega)
            have p1b : ¬ (a : Int) < s := by omega
            obtain ⟨Z, mz, hZ, HL⟩ : ∃ Z mz, WX w blk Z mz = WX w blk X m ∧ Hid (MgK kd kI X Z a md) := ⟨X, m, rfl, Lib.hid (MgK.same (by
              have e : a = s := by omega
              rw [← e] at HP2
              exact HP2.out))⟩
            rw [← hZ]
            clear hZ
            have HZs : Hid (Z.size = X0.size) := Lib.hid (by rw [HL.out.size, HYs.out])
            by_cases r1 : md < ee
            · have q1 : decide ((md : Int) < ee) = true := decide_eq_true (by omega)
              have q1b : (md : Int) < ee := by omega
              by_cases r2 : ee < b
              · have q2 : (ee : Int) < b := by omega
                have HCR := Lib.hid (IH.out Z (by rw [HZs.out, HN.out]) mz md ee b (by omega) (by omega) (by omega) (by omega) (HL.out.hiS (Nat.le_refl _) HP4.out) (HL.out.hiS (by omega) HP5.out) (HL.out.hiC (Nat.le_refl _) HP6.out))
                go_wp2_with fail
                refine (show Calls _ _ _ _ _ from HCR.out).mono ?_
                rintro e wz ⟨rfl, V, mv, hmg, rfl⟩
                have HR := Lib.hid hmg
                clear hmg
                go_wp2_with fail
                go_end0
                exact ⟨rfl, _, _, MgK.join (HYs.out.trans HX.out.symm) HYO.out HYM.out HYX.out (by omega) (by omega) HL.out HR.out, rfl⟩
              · have q2 : ¬ (ee : Int) < b := by omega
                have HR : Hid (MgK kd kI Z Z md b) := Lib.hid (MgK.same (by
                  have e : ee = b := by omega
                  rw [e] at HP4
                  exact HL.out.hiS (Nat.le_refl _) HP4.out))
                go_wp2_with fail
                go_end0
                exact ⟨rfl, _, _, MgK.join (HYs.out.trans HX.out.symm) HYO.out HYM.out HYX.out (by omega) (by omega) HL.out HR.out, rfl⟩
            · have q1 : decide ((md : Int) < ee) = false := decide_eq_false (by omega)
              have q1b : ¬ (md : Int) < ee := by omega
              have HR : Hid (MgK kd kI Z Z md b) := Lib.hid (MgK.same (by
                have e : ee = md := by omega
                rw [e] at HP5
                exact HL.out.hiS (Nat.le_refl _) HP5.out))
              go_wp2_with fail
              go_end0
              exact ⟨rfl, _, _, MgK.join (HYs.out.trans HX.out.symm) HYO.out HYM.out HYX.out (by omega) (by omega) HL.out HR.out, rfl⟩
  · have HBD : Hid (Bnd a mm b md nn a mm) := Lib.hid ⟨by omega, by omega, by omega, by omega, by omega, by omega, by omega, by omega⟩
    have e6 : decide ((mm : Int) > md) = false := decide_eq_false (by omega)
    clear hmd hnn hpp
    go_enter Try.func57, Try.ntmps57
    go_wp2_with fail
    go_loopw [20, 21] (fun vi vj wr => ∃ s r m : Nat, a ≤ s ∧ s ≤ r ∧ r ≤ mm ∧ vi = .int .i64 s ∧ vj = .int .i64 r ∧ Hid (∀ c, a ≤ c → c < s → ltK kd kI X[c]! X[nn - 1 - c]!) ∧ Hid (∀ c, r ≤ c → c < mm → ltK kd kI X[nn - 1 - c]! X[c]!) ∧ wr = WX w blk X m) (fun vi vj _ => (intOf vj).toNat - (intOf vi).toNat)
    case atStart => exact ⟨a, mm, m0, Nat.le_refl _, HBD.out.ord, Nat.le_refl _, rfl, rfl, Lib.hid (fun h h1 h2 => by omega), Lib.hid (fun h h1 h2 => by omega), rfl⟩
    case round =>
      obtain ⟨s, r, m, hi, hij, hj, rfl, rfl, H1, H2, rfl⟩ := hrel
      have bd1 := HBD.out.sum
      have bd2 := HBD.out.lo_
      have bd3 := HBD.out.him
      have bd4 := HBD.out.hid
      have bd5 := HBD.out.top
      by_cases hlt : s < r
      · have f1 : (s : Int) < r := by omega
        obtain ⟨cc, hcc⟩ : ∃ cc, (s + r) / 2 = cc := ⟨_, rfl⟩
        obtain ⟨q, hq⟩ : ∃ q, nn - 1 - cc = q := ⟨_, rfl⟩
        have k1 : ((s : Int) + r) / 2 = cc := by omega
        have k2 : (pp : Int) - cc = q := by have := HPP.out; omega
        have HCC1 := Lib.hid hcc
        have HQ := Lib.hid hq
        have k3 : s ≤ cc := by omega
        have k4 : cc < r := by omega
        have k5 : mm ≤ q := by omega
        have k6 : q < b := by omega
        have k7 : cc + 1 ≤ r := by omega
        clear hcc hq bd1 bd2 bd4 bd5
        have c1 := (WX.cell HH.out HX.out m (j := q) (by rw [HN.out]; omega)).1
        have c2 := (WX.cell HH.out HX.out m (j := cc) (by rw [HN.out]; omega)).1
        unfold eF at c1 c2
        obtain ⟨x, hx⟩ : ∃ x, X[q]! = x := ⟨_, rfl⟩
        obtain ⟨y, hy⟩ : ∃ y, X[cc]! = y := ⟨_, rfl⟩
        have HXX := Lib.hid hx
        have HYY := Lib.hid hy
        rw [hx] at c1
        rw [hy] at c2
        clear hx hy
        have g1 : (0 : Int) ≤ q := by omega
        have g2 : (q : Int) < n := by omega
        have g3 : (0 : Int) ≤ cc := by omega
        have g4 : (cc : Int) < n := by omega
        have HCC := Lib.hid (fun k => HC.out.at_ (hX := by rw [HX.out, HN.out]) m x y k)
        have HD := Lib.hid (fun k => WX.drewN w blk X m k)
        generalize WX w blk X m = wq at c1 c2 HCC HD ⊢
        by_cases hlo : kd x < kd y
        · have e3 : cmpI (kd x) (kd y) = -1 := by unfold cmpI; rw [if_pos hlo]
          rw [e3] at HCC
          have HLO := Lib.hid hlo; clear hlo e3
          go_wp2_with fail
          go_quiet ((go_at_call 46; exact (HCC.out _)))
          go_wp2_with fail
          refine ⟨⟨s, cc, m + nq, hi, k3, by omega, rfl, rfl, H1, Lib.hid fun h h1 h2 => ?_, HD.out nq⟩, by simp [intOf]; omega⟩
          have e1 := HQ.out
          have e2 := HBD.out.sum; have e3 := HBD.out.lo_; have e4 := HBD.out.him; have e5 := HBD.out.hid; have e6 := HBD.out.top
          have h0 : ltK kd kI X[nn - 1 - cc]! X[cc]! := by rw [e1, HXX.out, HYY.out]; exact ltK_yes _ HLO.out
          by_cases hq : h = cc
          · rw [hq]; exact h0
          · exact ((HS2.out (nn - 1 - h) (nn - 1 - cc) (by omega) (by omega) (by omega)).trans h0).trans (HS1.out cc h (by omega) (by omega) (by omega))
        · have e3 : (cmpI (kd x) (kd y) < 0) = False := eq_false (by unfold cmpI; rw [if_neg hlo]; split <;> omega)
          obtain ⟨cv, hcv⟩ : ∃ c, cmpI (kd x) (kd y) = c := ⟨_, rfl⟩
          rw [hcv] at HCC e3
          have e4 : ¬ cv < 0 := fun h => by rw [e3] at h; exact h
          have e5 : decide (cv < 0) = false := decide_eq_false e4
          have HLO := Lib.hid hlo; clear hlo e3 hcv
          go_wp2_with fail
          go_quiet ((go_at_call 46; exact (HCC.out _)))
          go_wp2_with fail
          refine ⟨⟨cc + 1, r, m + nq, by omega, k7, hj, rfl, rfl, Lib.hid fun h h1 h2 => ?_, H2, HD.out nq⟩, by simp [intOf]; omega⟩
          have e1 := HQ.out
          have e2 := HBD.out.sum; have e3 := HBD.out.lo_; have e6 := HBD.out.him; have e7 := HBD.out.hid; have e8 := HBD.out.top
          have h0 : ltK kd kI X[cc]! X[nn - 1 - cc]! := ltK_no (by rw [e1, HXX.out, HYY.out]; have := HLO.out; omega) (HCR.out cc (nn - 1 - cc) (by omega) (by omega) (by omega) (by omega))
          by_cases hq : h = cc
          · rw [hq]; exact h0
          · exact ((HS1.out h cc (by omega) (by omega) (by omega)).trans h0).trans (HS2.out (nn - 1 - cc) (nn - 1 - h) (by omega) (by omega) (by omega))
      · obtain rfl : s = r := by omega
        have f1 : ¬ (s : Int) < s := by omega
        obtain ⟨ee, hee⟩ : ∃ ee, nn - s = ee := ⟨_, rfl⟩
        have k1 : (nn : Int) - s = ee := by omega
        have HLB : Hid (∀ p q, a ≤ p → p < s → ee ≤ q → q < b → ltK kd kI X[p]! X[q]!) := Lib.hid (by rw [← hee]; exact low_below HBD.out HS1.out HS2.out hi hj H1.out)
        have HRB : Hid (∀ p q, mm ≤ p → p < ee → s ≤ q → q < mm → ltK kd kI X[p]! X[q]!) := Lib.hid (by rw [← hee]; exact right_below HBD.out HS1.out HS2.out hi hj H2.out)
        have t1 : s ≤ mm := by omega
        have t2 : mm ≤ ee := by omega
        have t3 : ee ≤ b := by omega
        have t4 : s + (ee - mm) = md := by omega
        have t5 : a ≤ s := by omega
        have t6 : s ≤ md := by omega
        have t7 : md ≤ ee := by omega
        clear hee bd1 bd2 bd3 bd4 bd5 hi hij hj H1 H2 HBD HPP
        by_cases o1 : s < mm
        · have o1p : decide ((s : Int) < mm) = true := decide_eq_true (by omega)
          have o1q : (s : Int) < mm := by omega
          by_cases o2 : mm < ee
          · have o2q : (mm : Int) < ee := by omega
            have HRT := Lib.hid (sw_rotate HH.out (by rw [HN.out]; exact hsz) cap (cmF bx) X HX.out m s mm ee o1 o2 (by rw [HN.out]; omega))
            rw [HN.out] at HRT
            go_wp2_with fail
            refine (show Calls _ _ _ _ _ from HRT.out).mono ?_
            rintro e wz ⟨rfl, Y, my, hrot, rfl⟩
            have HROT := Lib.hid hrot
            clear hrot HRT
            obtain ⟨z1, z2, z3, z4, z5, z6, z7, z8, z9⟩ := rot_parts (md := md) HROT.out ham hmb (by omega) (by omega) (by omega) (by omega) (by omega) HS1.out HS2.out HCR.out HLB.out HRB.out
            have HP1 := Lib.hid z1
            have HP2 := Lib.hid z2
            have HP3 := Lib.hid z3
            have HP4 := Lib.hid z4
            have HP5 := Lib.hid z5
            have HP6 := Lib.hid z6
            have HYX := Lib.hid z7
            have HYO : Hid (OutK X Y a b) := Lib.hid z8
            have HYM := Lib.hid z9
            have HYs : Hid ((Y).size = X0.size) := Lib.hid (by rw [HROT.out.size, HX.out])
            clear z1 z2 z3 z4 z5 z6 z7 z8 z9
            by_cases l1 : a < s
            · have p1 : decide ((a : Int) < s) = true := decide_eq_true (by omega)
              have p1b : (a : Int) < s := by omega
              by_cases l2 : s < md
              · have p2 : (s : Int) < md := by omega
                have HCL := Lib.hid (IH.out Y (by rw [HYs.out, HN.out]) my a s md (by omega) l1 l2 (by omega) HP1.out HP2.out HP3.out)
                go_wp2_with fail
                refine (show Calls _ _ _ _ _ from HCL.out).mono ?_
                rintro e wz ⟨rfl, Z, mz, hmg, rfl⟩
                have HL := Lib.hid hmg
                clear hmg HCL
                have HZs : Hid (Z.size = X0.size) := Lib.hid (by rw [HL.out.size, HYs.out])
                by_cases r1 : md < ee
                · have q1 : decide ((md : Int) < ee) = true := decide_eq_true (by omega)
                  have q1b : (md : Int) < ee := by omega
                  by_cases r2 : ee < b
                  · have q2 : (ee : Int) < b := by omega
                    have HCR := Lib.hid (IH.out Z (by rw [HZs.out, HN.out]) mz md ee b (by omega) (by omega) (by omega) (by omega) (HL.out.hiS (Nat.le_refl _) HP4.out) (HL.out.hiS (by omega) HP5.out) (HL.out.hiC (Nat.le_refl _) HP6.out))
                    go_wp2_with fail
                    refine (show Calls _ _ _ _ _ from HCR.out).mono ?_
                    rintro e wz ⟨rfl, V, mv, hmg, rfl⟩
                    have HR := Lib.hid hmg
                    clear hmg
                    go_wp2_with fail
                    go_end0
                    exact ⟨rfl, _, _, MgK.join (HYs.out.trans HX.out.symm) HYO.out HYM.out HYX.out (by omega) (by omega) HL.out HR.out, rfl⟩
                  · have q2 : ¬ (ee : Int) < b := by omega
                    have HR : Hid (MgK kd kI Z Z md b) := Lib.hid (MgK.same (by
                      have e : ee = b := by omega
                      rw [e] at HP4
                      exact HL.out.hiS (Nat.le_refl _) HP4.out))
                    go_wp2_with fail
                    go_end0
                    exact ⟨rfl, _, _, MgK.join (HYs.out.trans HX.out.symm) HYO.out HYM.out HYX.out (by omega) (by omega) HL.out HR.out, rfl⟩
                · have q1 : decide ((md : Int) < ee) = false := decide_eq_false (by omega)
                  have q1b : ¬ (md : Int) < ee := by omega
                  have HR : Hid (MgK kd kI Z Z md b) := Lib.hid (MgK.same (by
                    have e : ee = md := by omega
                    rw [e] at HP5
                    exact HL.out.hiS (Nat.le_refl _) HP5.out))
                  go_wp2_with fail
                  go_end0
                  exact ⟨rfl, _, _, MgK.join (HYs.out.trans HX.out.symm) HYO.out HYM.out HYX.out (by omega) (by omega) HL.out HR.out, rfl⟩
              · have p2 : ¬ (s : Int) < md := by omega
                obtain ⟨Z, mz, hZ, HL⟩ : ∃ Z mz, WX w blk Z mz = WX w blk Y my ∧ Hid (MgK kd kI Y Z a md) := ⟨Y, my, rfl, Lib.hid (MgK.same (by
                  have e : s = md := by omega
                  rw [e] at HP1
                  exact HP1.out))⟩
                rw [← hZ]
                clear hZ
                have HZs : Hid (Z.size = X0.size) := Lib.hid (by rw [HL.out.size, HYs.out])
                by_cases r1 : md < ee
                · have q1 : decide ((md : Int) < ee) = true := decide_eq_true (by omega)
                  have q1b : (md : Int) < ee := by omega
                  by_cases r2 : ee < b
                  · have q2 : (ee : Int) < b := by omega
                    have HCR := Lib.hid (IH.out Z (by rw [HZs.out, HN.out]) mz md ee b (by omega) (by omega) (by omega) (by omega) (HL.out.hiS (Nat.le_refl _) HP4.out) (HL.out.hiS (by omega) HP5.out) (HL.out.hiC (Nat.le_refl _) HP6.out))
                    go_wp2_with fail
                    refine (show Calls _ _ _ _ _ from HCR.out).mono ?_
                    rintro e wz ⟨rfl, V, mv, hmg, rfl⟩
                    have HR := Lib.hid hmg
                    clear hmg
                    go_wp2_with fail
                    go_end0
                    exact ⟨rfl, _, _, MgK.join (HYs.out.trans HX.out.symm) HYO.out HYM.out HYX.out (by omega) (by omega) HL.out HR.out, rfl⟩
                  · have q2 : ¬ (ee : Int) < b := by omega
                    have HR : Hid (MgK kd kI Z Z md b) := Lib.hid (MgK.same (by
                      have e : ee = b := by omega
                      rw [e] at HP4
                      exact HL.out.hiS (Nat.le_refl _) HP4.out))
                    go_wp2_with fail
                    go_end0
                    exact ⟨rfl, _, _, MgK.join (HYs.out.trans HX.out.symm) HYO.out HYM.out HYX.out (by omega) (by omega) HL.out HR.out, rfl⟩
                · have q1 : decide ((md : Int) < ee) = false := decide_eq_false (by omega)
                  have q1b : ¬ (md : Int) < ee := by omega
                  have HR : Hid (MgK kd kI Z Z md b) := Lib.hid (MgK.same (by
                    have e : ee = md := by omega
                    rw [e] at HP5
                    exact HL.out.hiS (Nat.le_refl _) HP5.out))
                  go_wp2_with fail
                  go_end0
                  exact ⟨rfl, _, _, MgK.join (HYs.out.trans HX.out.symm) HYO.out HYM.out HYX.out (by omega) (by omega) HL.out HR.out, rfl⟩
            · have p1 : decide ((a : Int) < s) = false := decide_eq_false (by omega)
              have p1b : ¬ (a : Int) < s := by omega
              obtain ⟨Z, mz, hZ, HL⟩ : ∃ Z mz, WX w blk Z mz = WX w blk Y my ∧ Hid (MgK kd kI Y Z a md) := ⟨Y, my, rfl, Lib.hid (MgK.same (by
                have e : a = s := by omega
                rw [← e] at HP2
                exact HP2.out))⟩
              rw [← hZ]
              clear hZ
              have HZs : Hid (Z.size = X0.size) := Lib.hid (by rw [HL.out.size, HYs.out])
              by_cases r1 : md < ee
              · have q1 : decide ((md : Int) < ee) = true := decide_eq_true (by omega)
                have q1b : (md : Int) < ee := by omega
                by_cases r2 : ee < b
                · have q2 : (ee : Int) < b := by omega
                  have HCR := Lib.hid (IH.out Z (by rw [HZs.out, HN.out]) mz md ee b (by omega) (by omega) (by omega) (by omega) (HL.out.hiS (Nat.le_refl _) HP4.out) (HL.out.hiS (by omega) HP5.out) (HL.out.hiC (Nat.le_refl _) HP6.out))
                  go_wp2_with fail
                  refine (show Calls _ _ _ _ _ from HCR.out).mono ?_
                  rintro e wz ⟨rfl, V, mv, hmg, rfl⟩
                  have HR := Lib.hid hmg
                  clear hmg
                  go_wp2_with fail
                  go_end0
                  exact ⟨rfl, _, _, MgK.join (HYs.out.trans HX.out.symm) HYO.out HYM.out HYX.out (by omega) (by omega) HL.out HR.out, rfl⟩
                · have q2 : ¬ (ee : Int) < b := by omega
                  have HR : Hid (MgK kd kI Z Z md b) := Lib.hid (MgK.same (by
                    have e : ee = b := by omega
                    rw [e] at HP4
                    exact HL.out.hiS (Nat.le_refl _) HP4.out))
                  go_wp2_with fail
                  go_end0
                  exact ⟨rfl, _, _, MgK.join (HYs.out.trans HX.out.symm) HYO.out HYM.out HYX.out (by omega) (by omega) HL.out HR.out, rfl⟩
              · have q1 : decide ((md : Int) < ee) = false := decide_eq_false (by omega)
                have q1b : ¬ (md : Int) < ee := by omega
                have HR : Hid (MgK kd kI Z Z md b) := Lib.hid (MgK.same (by
                  have e : ee = md := by omega
                  rw [e] at HP5
                  exact HL.out.hiS (Nat.le_refl _) HP5.out))
                go_wp2_with fail
                go_end0
                exact ⟨rfl, _, _, MgK.join (HYs.out.trans HX.out.symm) HYO.out HYM.out HYX.out (by omega) (by omega) HL.out HR.out, rfl⟩
          · have o2q : ¬ (mm : Int) < ee := by omega
            have HROT : Hid (RotR X X s mm ee) := Lib.hid (RotR.none (by omega) t1 t2)
            obtain ⟨z1, z2, z3, z4, z5, z6, z7, z8, z9⟩ := rot_parts (md := md) HROT.out ham hmb (by omega) (by omega) (by omega) (by omega) (by omega) HS1.out HS2.out HCR.out HLB.out HRB.out
            have HP1 := Lib.hid z1
            have HP2 := Lib.hid z2
            have HP3 := Lib.hid z3
            have HP4 := Lib.hid z4
            have HP5 := Lib.hid z5
            have HP6 := Lib.hid z6
            have HYX := Lib.hid z7
            have HYO : Hid (OutK X X a b) := Lib.hid z8
            have HYM := Lib.hid z9
            have HYs : Hid ((X).size = X0.size) := Lib.hid (by rw [HROT.out.size, HX.out])
            clear z1 z2 z3 z4 z5 z6 z7 z8 z9
            by_cases l1 : a < s
            · have p1 : decide ((a : Int) < s) = true := decide_eq_true (by omega)
              have p1b : (a : Int) < s := by omega
              by_cases l2 : s < md
              · have p2 : (s : Int) < md := by omega
                have HCL := Lib.hid (IH.out X (by rw [HYs.out, HN.out]) m a s md (by omega) l1 l2 (by omega) HP1.out HP2.out HP3.out)
                go_wp2_with fail
                refine (show Calls _ _ _ _ _ from HCL.out).mono ?_
                rintro e wz ⟨rfl, Z, mz, hmg, rfl⟩
                have HL := Lib.hid hmg
                clear hmg HCL
                have HZs : Hid (Z.size = X0.size) := Lib.hid (by rw [HL.out.size, HYs.out])
                by_cases r1 : md < ee
                · have q1 : decide ((md : Int) < ee) = true := decide_eq_true (by omega)
                  have q1b : (md : Int) < ee := by omega
                  by_cases r2 : ee < b
                  · have q2 : (ee : Int) < b := by omega
                    have HCR := Lib.hid (IH.out Z (by rw [HZs.out, HN.out]) mz md ee b (by omega) (by omega) (by omega) (by omega) (HL.out.hiS (Nat.le_refl _) HP4.out) (HL.out.hiS (by omega) HP5.out) (HL.out.hiC (Nat.le_refl _) HP6.out))
                    go_wp2_with fail
                    refine (show Calls _ _ _ _ _ from HCR.out).mono ?_
                    rintro e wz ⟨rfl, V, mv, hmg, rfl⟩
                    have HR := Lib.hid hmg
                    clear hmg
                    go_wp2_with fail
                    go_end0
                    exact ⟨rfl, _, _, MgK.join (HYs.out.trans HX.out.symm) HYO.out HYM.out HYX.out (by omega) (by omega) HL.out HR.out, rfl⟩
                  · have q2 : ¬ (ee : Int) < b := by omega
                    have HR : Hid (MgK kd kI Z Z md b) := Lib.hid (MgK.same (by
                      have e : ee = b := by omega
                      rw [e] at HP4
                      exact HL.out.hiS (Nat.le_refl _) HP4.out))
                    go_wp2_with fail
                    go_end0
                    exact ⟨rfl, _, _, MgK.join (HYs.out.trans HX.out.symm) HYO.out HYM.out HYX.out (by omega) (by omega) HL.out HR.out, rfl⟩
                · have q1 : decide ((md : Int) < ee) = false := decide_eq_false (by omega)
                  have q1b : ¬ (md : Int) < ee := by omega
                  have HR : Hid (MgK kd kI Z Z md b) := Lib.hid (MgK.same (by
                    have e : ee = md := by omega
                    rw [e] at HP5
                    exact HL.out.hiS (Nat.le_refl _) HP5.out))
                  go_wp2_with fail
                  go_end0
                  exact ⟨rfl, _, _, MgK.join (HYs.out.trans HX.out.symm) HYO.out HYM.out HYX.out (by omega) (by omega) HL.out HR.out, rfl⟩
              · have p2 : ¬ (s : Int) < md := by omega
                obtain ⟨Z, mz, hZ, HL⟩ : ∃ Z mz, WX w blk Z mz = WX w blk X m ∧ Hid (MgK kd kI X Z a md) := ⟨X, m, rfl, Lib.hid (MgK.same (by
                  have e : s = md := by omega
                  rw [e] at HP1
                  exact HP1.out))⟩
                rw [← hZ]
                clear hZ
                have HZs : Hid (Z.size = X0.size) := Lib.hid (by rw [HL.out.size, HYs.out])
                by_cases r1 : md < ee
                · have q1 : decide ((md : Int) < ee) = true := decide_eq_true (by omega)
                  have q1b : (md : Int) < ee := by omega
                  by_cases r2 : ee < b
                  · have q2 : (ee : Int) < b := by omega
                    have HCR := Lib.hid (IH.out Z (by rw [HZs.out, HN.out]) mz md ee b (by omega) (by omega) (by omega) (by omega) (HL.out.hiS (Nat.le_refl _) HP4.out) (HL.out.hiS (by omega) HP5.out) (HL.out.hiC (Nat.le_refl _) HP6.out))
                    go_wp2_with fail
                    refine (show Calls _ _ _ _ _ from HCR.out).mono ?_
                    rintro e wz ⟨rfl, V, mv, hmg, rfl⟩
                    have HR := Lib.hid hmg
                    clear hmg
                    go_wp2_with fail
                    go_end0
                    exact ⟨rfl, _, _, MgK.join (HYs.out.trans HX.out.symm) HYO.out HYM.out HYX.out (by omega) (by omega) HL.out HR.out, rfl⟩
                  · have q2 : ¬ (ee : Int) < b := by omega
                    have HR : Hid (MgK kd kI Z Z md b) := Lib.hid (MgK.same (by
                      have e : ee = b := by omega
                      rw [e] at HP4
                      exact HL.out.hiS (Nat.le_refl _) HP4.out))
                    go_wp2_with fail
                    go_end0
                    exact ⟨rfl, _, _, MgK.join (HYs.out.trans HX.out.symm) HYO.out HYM.out HYX.out (by omega) (by omega) HL.out HR.out, rfl⟩
                · have q1 : decide ((md : Int) < ee) = false := decide_eq_false (by omega)
                  have q1b : ¬ (md : Int) < ee := by omega
                  have HR : Hid (MgK kd kI Z Z md b) := Lib.hid (MgK.same (by
                    have e : ee = md := by omega
                    rw [e] at HP5
                    exact HL.out.hiS (Nat.le_refl _) HP5.out))
                  go_wp2_with fail
                  go_end0
                  exact ⟨rfl, _, _, MgK.join (HYs.out.trans HX.out.symm) HYO.out HYM.out HYX.out (by omega) (by omega) HL.out HR.out, rfl⟩
            · have p1 : decide ((a : Int) < s) = false := decide_eq_false (by omega)
              have p1b : ¬ (a : Int) < s := by omega
              obtain ⟨Z, mz, hZ, HL⟩ : ∃ Z mz, WX w blk Z mz = WX w blk X m ∧ Hid (MgK kd kI X Z a md) := ⟨X, m, rfl, Lib.hid (MgK.same (by
                have e : a = s := by omega
                rw [← e] at HP2
                exact HP2.out))⟩
              rw [← hZ]
              clear hZ
              have HZs : Hid (Z.size = X0.size) := Lib.hid (by rw [HL.out.size, HYs.out])
              by_cases r1 : md < ee
              · have q1 : decide ((md : Int) < ee) = true := decide_eq_true (by omega)
                have q1b : (md : Int) < ee := by omega
                by_cases r2 : ee < b
                · have q2 : (ee : Int) < b := by omega
                  have HCR := Lib.hid (IH.out Z (by rw [HZs.out, HN.out]) mz md ee b (by omega) (by omega) (by omega) (by omega) (HL.out.hiS (Nat.le_refl _) HP4.out) (HL.out.hiS (by omega) HP5.out) (HL.out.hiC (Nat.le_refl _) HP6.out))
                  go_wp2_with fail
                  refine (show Calls _ _ _ _ _ from HCR.out).mono ?_
                  rintro e wz ⟨rfl, V, mv, hmg, rfl⟩
                  have HR := Lib.hid hmg
                  clear hmg
                  go_wp2_with fail
                  go_end0
                  exact ⟨rfl, _, _, MgK.join (HYs.out.trans HX.out.symm) HYO.out HYM.out HYX.out (by omega) (by omega) HL.out HR.out, rfl⟩
                · have q2 : ¬ (ee : Int) < b := by omega
                  have HR : Hid (MgK kd kI Z Z md b) := Lib.hid (MgK.same (by
                    have e : ee = b := by omega
                    rw [e] at HP4
                    exact HL.out.hiS (Nat.le_refl _) HP4.out))
                  go_wp2_with fail
                  go_end0
                  exact ⟨rfl, _, _, MgK.join (HYs.out.trans HX.out.symm) HYO.out HYM.out HYX.out (by omega) (by omega) HL.out HR.out, rfl⟩
              · have q1 : decide ((md : Int) < ee) = false := decide_eq_false (by omega)
                have q1b : ¬ (md : Int) < ee := by omega
                have HR : Hid (MgK kd kI Z Z md b) := Lib.hid (MgK.same (by
                  have e : ee = md := by omega
                  rw [e] at HP5
                  exact HL.out.hiS (Nat.le_refl _) HP5.out))
                go_wp2_with fail
                go_end0
                exact ⟨rfl, _, _, MgK.join (HYs.out.trans HX.out.symm) HYO.out HYM.out HYX.out (by omega) (by omega) HL.out HR.out, rfl⟩
        · have o1p : decide ((s : Int) < mm) = false := decide_eq_false (by omega)
          have o1q : ¬ (s : Int) < mm := by omega
          have HROT : Hid (RotR X X s mm ee) := Lib.hid (RotR.none (by omega) t1 t2)
          obtain ⟨z1, z2, z3, z4, z5, z6, z7, z8, z9⟩ := rot_parts (md := md) HROT.out ham hmb (by omega) (by omega) (by omega) (by omega) (by omega) HS1.out HS2.out HCR.out HLB.out HRB.out
          have HP1 := Lib.hid z1
          have HP2 := Lib.hid z2
          have HP3 := Lib.hid z3
          have HP4 := Lib.hid z4
          have HP5 := Lib.hid z5
          have HP6 := Lib.hid z6
          have HYX := Lib.hid z7
          have HYO : Hid (OutK X X a b) := Lib.hid z8
          have HYM := Lib.hid z9
          have HYs : Hid ((X).size = X0.size) := Lib.hid (by rw [HROT.out.size, HX.out])
          clear z1 z2 z3 z4 z5 z6 z7 z8 z9
          by_cases l1 : a < s
          · have p1 : decide ((a : Int) < s) = true := decide_eq_true (by omega)
            have p1b : (a : Int) < s := by omega
            by_cases l2 : s < md
            · have p2 : (s : Int) < md := by omega
              have HCL := Lib.hid (IH.out X (by rw [HYs.out, HN.out]) m a s md (by omega) l1 l2 (by omega) HP1.out HP2.out HP3.out)
              go_wp2_with fail
              refine (show Calls _ _ _ _ _ from HCL.out).mono ?_
              rintro e wz ⟨rfl, Z, mz, hmg, rfl⟩
              have HL := Lib.hid hmg
              clear hmg HCL
              have HZs : Hid (Z.size = X0.size) := Lib.hid (by rw [HL.out.size, HYs.out])
              by_cases r1 : md < ee
              · have q1 : decide ((md : Int) < ee) = true := decide_eq_true (by omega)
                have q1b : (md : Int) < ee := by omega
                by_cases r2 : ee < b
                · have q2 : (ee : Int) < b := by omega
                  have HCR := Lib.hid (IH.out Z (by rw [HZs.out, HN.out]) mz md ee b (by omega) (by omega) (by omega) (by omega) (HL.out.hiS (Nat.le_refl _) HP4.out) (HL.out.hiS (by omega) HP5.out) (HL.out.hiC (Nat.le_refl _) HP6.out))
                  go_wp2_with fail
                  refine (show Calls _ _ _ _ _ from HCR.out).mono ?_
                  rintro e wz ⟨rfl, V, mv, hmg, rfl⟩
                  have HR := Lib.hid hmg
                  clear hmg
                  go_wp2_with fail
                  go_end0
                  exact ⟨rfl, _, _, MgK.join (HYs.out.trans HX.out.symm) HYO.out HYM.out HYX.out (by omega) (by omega) HL.out HR.out, rfl⟩
                · have q2 : ¬ (ee : Int) < b := by omega
                  have HR : Hid (MgK kd kI Z Z md b) := Lib.hid (MgK.same (by
                    have e : ee = b := by omega
                    rw [e] at HP4
                    exact HL.out.hiS (Nat.le_refl _) HP4.out))
                  go_wp2_with fail
                  go_end0
                  exact ⟨rfl, _, _, MgK.join (HYs.out.trans HX.out.symm) HYO.out HYM.out HYX.out (by omega) (by omega) HL.out HR.out, rfl⟩
              · have q1 : decide ((md : Int) < ee) = false := decide_eq_false (by omega)
                have q1b : ¬ (md : Int) < ee := by omega
                have HR : Hid (MgK kd kI Z Z md b) := Lib.hid (MgK.same (by
                  have e : ee = md := by omega
                  rw [e] at HP5
                  exact HL.out.hiS (Nat.le_refl _) HP5.out))
                go_wp2_with fail
                go_end0
                exact ⟨rfl, _, _, MgK.join (HYs.out.trans HX.out.symm) HYO.out HYM.out HYX.out (by omega) (by omega) HL.out HR.out, rfl⟩
            · have p2 : ¬ (s : Int) < md := by omega
              obtain ⟨Z, mz, hZ, HL⟩ : ∃ Z mz, WX w blk Z mz = WX w blk X m ∧ Hid (MgK kd kI X Z a md) := ⟨X, m, rfl, Lib.hid (MgK.same (by
                have e : s = md := by omega
                rw [e] at HP1
                exact HP1.out))⟩
              rw [← hZ]
              clear hZ
              have HZs : Hid (Z.size = X0.size) := Lib.hid (by rw [HL.out.size, HYs.out])
              by_cases r1 : md < ee
              · have q1 : decide ((md : Int) < ee) = true := decide_eq_true (by omega)
                have q1b : (md : Int) < ee := by omega
                by_cases r2 : ee < b
                · have q2 : (ee : Int) < b := by omega
                  have HCR := Lib.hid (IH.out Z (by rw [HZs.out, HN.out]) mz md ee b (by omega) (by omega) (by omega) (by omega) (HL.out.hiS (Nat.le_refl _) HP4.out) (HL.out.hiS (by omega) HP5.out) (HL.out.hiC (Nat.le_refl _) HP6.out))
                  go_wp2_with fail
                  refine (show Calls _ _ _ _ _ from HCR.out).mono ?_
                  rintro e wz ⟨rfl, V, mv, hmg, rfl⟩
                  have HR := Lib.hid hmg
                  clear hmg
                  go_wp2_with fail
                  go_end0
                  exact ⟨rfl, _, _, MgK.join (HYs.out.trans HX.out.symm) HYO.out HYM.out HYX.out (by omega) (by omega) HL.out HR.out, rfl⟩
                · have q2 : ¬ (ee : Int) < b := by omega
                  have HR : Hid (MgK kd kI Z Z md b) := Lib.hid (MgK.same (by
                    have e : ee = b := by omega
                    rw [e] at HP4
                    exact HL.out.hiS (Nat.le_refl _) HP4.out))
                  go_wp2_with fail
                  go_end0
                  exact ⟨rfl, _, _, MgK.join (HYs.out.trans HX.out.symm) HYO.out HYM.out HYX.out (by omega) (by omega) HL.out HR.out, rfl⟩
              · have q1 : decide ((md : Int) < ee) = false := decide_eq_false (by omega)
                have q1b : ¬ (md : Int) < ee := by omega
                have HR : Hid (MgK kd kI Z Z md b) := Lib.hid (MgK.same (by
                  have e : ee = md := by omega
                  rw [e] at HP5
                  exact HL.out.hiS (Nat.le_refl _) HP5.out))
                go_wp2_with fail
                go_end0
                exact ⟨rfl, _, _, MgK.join (HYs.out.trans HX.out.symm) HYO.out HYM.out HYX.out (by omega) (by omega) HL.out HR.out, rfl⟩
          · have p1 : decide ((a : Int) < s) = false := decide_eq_false (by omega)
            have p1b : ¬ (a : Int) < s := by omega
            obtain ⟨Z, mz, hZ, HL⟩ : ∃ Z mz, WX w blk Z mz = WX w blk X m ∧ Hid (MgK kd kI X Z a md) := ⟨X, m, rfl, Lib.hid (MgK.same (by
              have e : a = s := by omega
              rw [← e] at HP2
              exact HP2.out))⟩
            rw [← hZ]
            clear hZ
            have HZs : Hid (Z.size = X0.size) := Lib.hid (by rw [HL.out.size, HYs.out])
            by_cases r1 : md < ee
            · have q1 : decide ((md : Int) < ee) = true := decide_eq_true (by omega)
              have q1b : (md : Int) < ee := by omega
              by_cases r2 : ee < b
              · have q2 : (ee : Int) < b := by omega
                have HCR := Lib.hid (IH.out Z (by rw [HZs.out, HN.out]) mz md ee b (by omega) (by omega) (by omega) (by omega) (HL.out.hiS (Nat.le_refl _) HP4.out) (HL.out.hiS (by omega) HP5.out) (HL.out.hiC (Nat.le_refl _) HP6.out))
                go_wp2_with fail
                refine (show Calls _ _ _ _ _ from HCR.out).mono ?_
                rintro e wz ⟨rfl, V, mv, hmg, rfl⟩
                have HR := Lib.hid hmg
                clear hmg
                go_wp2_with fail
                go_end0
                exact ⟨rfl, _, _, MgK.join (HYs.out.trans HX.out.symm) HYO.out HYM.out HYX.out (by omega) (by omega) HL.out HR.out, rfl⟩
              · have q2 : ¬ (ee : Int) < b := by omega
                have HR : Hid (MgK kd kI Z Z md b) := Lib.hid (MgK.same (by
                  have e : ee = b := by omega
                  rw [e] at HP4
                  exact HL.out.hiS (Nat.le_refl _) HP4.out))
                go_wp2_with fail
                go_end0
                exact ⟨rfl, _, _, MgK.join (HYs.out.trans HX.out.symm) HYO.out HYM.out HYX.out (by omega) (by omega) HL.out HR.out, rfl⟩
            · have q1 : decide ((md : Int) < ee) = false := decide_eq_false (by omega)
              have q1b : ¬ (md : Int) < ee := by omega
              have HR : Hid (MgK kd kI Z Z md b) := Lib.hid (MgK.same (by
                have e : ee = md := by omega
                rw [e] at HP5
                exact HL.out.hiS (Nat.le_refl _) HP5.out))
              go_wp2_with fail
              go_end0
              exact ⟨rfl, _, _, MgK.join (HYs.out.trans HX.out.symm) HYO.out HYM.out HYX.out (by omega) (by omega) HL.out HR.out, rfl⟩
end Go.Proofs.Ythcckonkhbmcmaa
