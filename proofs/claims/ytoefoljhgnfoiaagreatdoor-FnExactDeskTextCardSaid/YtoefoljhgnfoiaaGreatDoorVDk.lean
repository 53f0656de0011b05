/-
  ValidDesk and DeskText, on both sides.
-/
import Derived.Test.YtoefoljhgnfoiaaGreatDoorVal2
import Derived.Test.YtoefoljhgnfoiaaGreatDoorLog11
namespace Go.Proofs.YtoefoljhgnfoiaaGreatDoor
open Go.ChangeShapes Go.WideShapes Go.ChangeAt Go.RowKit Go.Sort Go.Joins
set_option linter.unusedVariables false
set_option maxRecDepth 100000

def vDK (d : DK) : Bool := vF d.f && vB d.nm d.cs && (decide (d.wall.length = 0) || vW d.wall) && decide (lgC d.log = 0)
theorem sm_wall {d : DK} (h : SmDK d) : SmWall d.wall := fun k hk => by
  have h1 := totStr_succ hk
  have h2 := totStr_le d.wall (k + 1)
  unfold SmDK totDK at h
  omega
theorem sm_lenDK {d : DK} (h : SmDK d) : LenDK d := by
  have hw := sm_wall h
  have hc : SmCOS d.cs := by unfold SmDK totDK at h; unfold SmCOS; omega
  have h0 := h
  unfold SmDK totDK at h
  refine ⟨by unfold maxLen; omega, ⟨by unfold maxLen; omega, fun o ho => ?_⟩, ⟨by unfold maxLen; omega, fun o ho => ?_⟩, by unfold maxLen; omega⟩
  · obtain ⟨k, hk, rfl⟩ := List.mem_iff_getElem.1 ho
    have := hc.one hk
    rw [gd_eq hk] at this
    unfold SmCO at this
    exact ⟨by unfold maxLen; omega, by unfold maxLen; omega⟩
  · obtain ⟨k, hk, rfl⟩ := List.mem_iff_getElem.1 ho
    have := hw k hk
    rw [gd_eq hk] at this
    unfold maxLen; omega
/-- A state's eight cells in a box. -/
structure PDK (w : World) (p : Nat) (d : DK) (A : Option Addr) (c : Nat) (B : Option Addr) (e : Nat) : Prop where
  k0 : w.cell? ⟨p, 0, none⟩ = some (.int .i64 d.f.l)
  k1 : w.cell? ⟨p, 1, none⟩ = some (.int .i64 d.f.w)
  k2 : w.cell? ⟨p, 2, none⟩ = some (.int .i64 d.f.h)
  k3 : w.cell? ⟨p, 3, none⟩ = some (.int .i64 d.f.j)
  k4 : w.cell? ⟨p, 4, none⟩ = some (.string d.nm)
  k5 : w.cell? ⟨p, 5, none⟩ = some (.slice A d.cs.length c)
  k6 : w.cell? ⟨p, 6, none⟩ = some (.slice B d.wall.length e)
  k7 : w.cell? ⟨p, 7, none⟩ = some (.string d.log)
theorem PDK.ext {w w' : World} {p : Nat} {d : DK} {A : Option Addr} {c : Nat} {B : Option Addr} {e : Nat} (h : PDK w p d A c B e) (hb : Below w.heap.size w w') : PDK w' p d A c B e :=
  ⟨cell_keep h.k0 hb, cell_keep h.k1 hb, cell_keep h.k2 hb, cell_keep h.k3 hb, cell_keep h.k4 hb, cell_keep h.k5 hb, cell_keep h.k6 hb, cell_keep h.k7 hb⟩
theorem PDK.new (w : World) (d : DK) (A : Option Addr) (c : Nat) (B : Option Addr) (e : Nat) (T : TypeId) : PDK (w.alloc (.cells #[.int .i64 d.f.l, .int .i64 d.f.w, .int .i64 d.f.h, .int .i64 d.f.j, .string d.nm, .slice A d.cs.length c, .slice B d.wall.length e, .string d.log] T)) w.heap.size d A c B e :=
  ⟨by simp [go_sem], by simp [go_sem], by simp [go_sem], by simp [go_sem], by simp [go_sem], by simp [go_sem], by simp [go_sem], by simp [go_sem]⟩
set_option maxHeartbeats 800000 in
theorem impl_isLog (s : ByteArray) (hs : s.size ≤ 1048576) (w : World) (hE : Env w) :
    Calls Tryz.prog 21 #[.string s] w (Ret (.bool (decide (lgC s = 0))) w) := by
  have HC := Lib.hid (impl_logCode s hs w hE)
  clear hE
  go_enter Tryz.func21, Tryz.ntmps21
  go_wp2_with fail
  refine (show Calls _ _ _ _ _ from HC.out).mono ?_
  rintro e w1 ⟨A, c, rfl, _, hb⟩
  have HB := Lib.hid hb
  clear hb
  generalize lgC s = z at *
  go_wp2_with fail
  go_ret
  exact ⟨ret_bool (by by_cases h : z = 0 <;> simp [h]), ext_alloc HB.out _⟩
set_option maxHeartbeats 3200000 in
theorem spec_okD (p : Nat) (d : DK) (A : Option Addr) (c : Nat) (B : Option Addr) (e : Nat) (w : World) (hP : PDK w p d A c B e) (hcs : RCOS w (.slice A d.cs.length c) d.cs) (hwl : RStr w (.slice B d.wall.length e) d.wall) (hsm : SmDK d) :
    Calls Tryz.prog 14 #[.pointer (some ⟨p, 0, none⟩)] w (Ret (.bool (vDK d)) w) := by
  obtain ⟨l1, l2, l3, l4⟩ := sm_lenDK hsm
  have HLG : Hid (d.log.size ≤ 1048576) := Lib.hid (by unfold SmDK totDK at hsm; omega)
  have HSW := Lib.hid (sm_wall hsm)
  have HP := Lib.hid hP
  have HC := Lib.hid hcs
  have HW := Lib.hid hwl
  have HF := Lib.hid (fun w => spec_okF d.f w)
  have HB : Hid (∀ w h h0 h1, Calls Tryz.prog 30 #[.pointer (some ⟨p, 4, none⟩)] w (Ret (.bool (vB d.nm d.cs)) w)) := Lib.hid (fun w h h0 h1 => spec_okB p 4 A c d.nm d.cs w l1 l2 h h0 h1)
  have HX := Lib.hid (fun w h => spec_okW B e d.wall w h HSW.out)
  have HV : Hid (vDK d = (vF d.f && vB d.nm d.cs && (decide (d.wall.length = 0) || vW d.wall) && decide (lgC d.log = 0))) := Lib.hid rfl
  have HG := Lib.hid (fun w => spec_Code d.log HLG.out w)
  obtain ⟨x1, h1⟩ : ∃ x, vF d.f = x := ⟨_, rfl⟩
  obtain ⟨x2, h2⟩ : ∃ x, vB d.nm d.cs = x := ⟨_, rfl⟩
  obtain ⟨x3, h3⟩ : ∃ x, vW d.wall = x := ⟨_, rfl⟩
  rw [h1, h2, h3] at HV
  rw [h1] at HF
  rw [h2] at HB
  rw [h3] at HX
  clear h1 h2 h3 hP hcs hwl hsm l1 l2 l3 l4
  obtain ⟨k0, k1, k2, k3, k4, k5, k6, k7⟩ := HP.out
  go_enter Tryz.func14, Tryz.ntmps14
  go_wp2_with fail
  refine (show Calls _ _ _ _ _ from HG.out _).mono ?_
  rintro e' w1 ⟨g, A', c', rfl, _, hb⟩
  replace HP := Lib.hid (HP.out.ext hb)
  replace HC := Lib.hid (HC.out.ext hb)
  replace HW := Lib.hid (HW.out.ext hb)
  have HB1 := Lib.hid hb
  clear hb k0 k1 k2 k3 k4 k5 k6 k7
  obtain ⟨k0, k1, k2, k3, k4, k5, k6, k7⟩ := HP.out
  obtain ⟨z, hz⟩ : ∃ z, lgC d.log = z := ⟨_, rfl⟩
  rw [hz] at HV
  rw [hz]
  clear hz
  go_wp2_with fail
  refine (show Calls _ _ _ _ _ from HF.out _).mono ?_
  rintro e' w2 ⟨rfl, hb⟩
  replace HP := Lib.hid (HP.out.ext hb)
  replace HC := Lib.hid (HC.out.ext hb)
  replace HW := Lib.hid (HW.out.ext hb)
  replace HB1 := Lib.hid (ext_trans HB1.out hb)
  clear hb k0 k1 k2 k3 k4 k5 k6 k7
  obtain ⟨k0, k1, k2, k3, k4, k5, k6, k7⟩ := HP.out
  cases x1
  · go_wp2_with fail
    go_ret
    exact ⟨ret_bool (by rw [HV.out]; rfl), HB1.out⟩
  go_wp2_with fail
  refine (show Calls _ _ _ _ _ from HB.out _ HC.out k4 k5).mono ?_
  rintro e' w3 ⟨rfl, hb⟩
  replace HP := Lib.hid (HP.out.ext hb)
  replace HW := Lib.hid (HW.out.ext hb)
  replace HB1 := Lib.hid (ext_trans HB1.out hb)
  clear hb k0 k1 k2 k3 k4 k5 k6 k7
  obtain ⟨k0, k1, k2, k3, k4, k5, k6, k7⟩ := HP.out
  cases x2
  · go_wp2_with fail
    go_ret
    exact ⟨ret_bool (by rw [HV.out]; rfl), HB1.out⟩
  by_cases hw0 : d.wall.length = 0
  · have e0 : ((d.wall.length : Int) == 0) = true := by rw [hw0]; rfl
    have HV2 : Hid (vDK d = decide (z = 0)) := Lib.hid (by rw [HV.out, decide_eq_true hw0]; simp)
    clear hw0
    go_wp2_with fail
    go_ret
    exact ⟨ret_bool (by rw [HV2.out]; by_cases h : z = 0 <;> simp [h]), HB1.out⟩
  · have e0 : ((d.wall.length : Int) == 0) = false := beq_eq_false_iff_ne.2 (by omega)
    have HV2 : Hid (vDK d = (x3 && decide (z = 0))) := Lib.hid (by rw [HV.out, decide_eq_false hw0]; simp)
    clear hw0
    go_wp2_with fail
    refine (show Calls _ _ _ _ _ from HX.out _ HW.out).mono ?_
    rintro e' w4 ⟨rfl, hb⟩
    replace HB1 := Lib.hid (ext_trans HB1.out hb)
    clear hb
    cases x3
    · go_wp2_with fail
      go_ret
      exact ⟨ret_bool (by rw [HV2.out]; rfl), HB1.out⟩
    · go_wp2_with fail
      go_ret
      exact ⟨ret_bool (by rw [HV2.out]; by_cases h : z = 0 <;> simp [h]), HB1.out⟩
theorem spec_ValidDesk (v : Value) (d : DK) (w : World) (ha : RDK w v d) (hsm : SmDK d) (_ : Env w) :
    Calls Tryz.prog 6 #[v] w (Ret (.bool (vDK d)) w) := by
  obtain ⟨A, c, B, e, rfl, hcs, hwl⟩ := ha
  have HC := Lib.hid hcs
  have HW := Lib.hid hwl
  clear hcs hwl
  go_enter Tryz.func6, Tryz.ntmps6
  go_wp2_with fail
  refine (spec_okD _ d A c B e _ (PDK.new w d A c B e _) (HC.out.alloc _) (HW.out.alloc _) hsm).mono ?_
  rintro e' w1 ⟨rfl, hb⟩
  go_wp2_with fail
  go_ret
  exact ⟨rfl, ext_trans (ext_alloc1 _ _) hb⟩
set_option maxHeartbeats 3200000 in
theorem impl_ValidDesk (v : Value) (d : DK) (w : World) (ha : RDK w v d) (hsm : SmDK d) (hE : Env w) :
    Calls Tryz.prog 8 #[v] w (Ret (.bool (vDK d)) w) := by
  obtain ⟨A, c, B, e, rfl, hcs, hwl⟩ := ha
  obtain ⟨l1, l2, l3, l4⟩ := sm_lenDK hsm
  have HLG : Hid (d.log.size ≤ 1048576) := Lib.hid (by unfold SmDK totDK at hsm; omega)
  have HSW := Lib.hid (sm_wall hsm)
  have HEV : Hid (∀ W', Below w.heap.size w W' → Env W') := Lib.hid fun W' h => hE.ext h
  have HC := Lib.hid hcs
  have HW := Lib.hid hwl
  have HF := Lib.hid (fun w => impl_okF d.f w)
  have HB := Lib.hid (fun w h => impl_ValidBond A c d.nm d.cs w l1 l2 h)
  have HX := Lib.hid (fun w h => impl_okW B e d.wall w h HSW.out)
  have HV : Hid (vDK d = (vF d.f && vB d.nm d.cs && (decide (d.wall.length = 0) || vW d.wall) && decide (lgC d.log = 0))) := Lib.hid rfl
  have HG := Lib.hid (fun w h => impl_isLog d.log HLG.out w h)
  obtain ⟨x1, h1⟩ : ∃ x, vF d.f = x := ⟨_, rfl⟩
  obtain ⟨x2, h2⟩ : ∃ x, vB d.nm d.cs = x := ⟨_, rfl⟩
  obtain ⟨x3, h3⟩ : ∃ x, vW d.wall = x := ⟨_, rfl⟩
  obtain ⟨x4, h4⟩ : ∃ x, decide (lgC d.log = 0) = x := ⟨_, rfl⟩
  rw [h1, h2, h3, h4] at HV
  rw [h1] at HF
  rw [h2] at HB
  rw [h3] at HX
  rw [h4] at HG
  clear h1 h2 h3 h4 hcs hwl hsm l1 l2 l3 l4 hE
  go_enter Tryz.func8, Tryz.ntmps8
  go_wp2_with fail
  have HP := Lib.hid (PDK.new w d A c B e 37)
  refine (show Calls _ _ _ _ _ from HF.out _).mono ?_
  rintro e' w2 ⟨rfl, hb⟩
  replace HP := Lib.hid (HP.out.ext hb)
  have HB1 := Lib.hid (ext_trans (ext_alloc1 _ _) hb)
  clear hb
  obtain ⟨k0, k1, k2, k3, k4, k5, k6, k7⟩ := HP.out
  cases x1
  · go_wp2_with fail
    go_ret
    exact ⟨ret_bool (by rw [HV.out]; rfl), HB1.out⟩
  go_wp2_with fail
  refine (show Calls _ _ _ _ _ from HB.out _ (HC.out.ext HB1.out)).mono ?_
  rintro e' w3 ⟨rfl, hb⟩
  replace HP := Lib.hid (HP.out.ext hb)
  replace HB1 := Lib.hid (ext_trans HB1.out hb)
  clear hb k0 k1 k2 k3 k4 k5 k6 k7
  obtain ⟨k0, k1, k2, k3, k4, k5, k6, k7⟩ := HP.out
  cases x2
  · go_wp2_with fail
    go_ret
    exact ⟨ret_bool (by rw [HV.out]; rfl), HB1.out⟩
  by_cases hw0 : d.wall.length = 0
  · have e0 : ((d.wall.length : Int) == 0) = true := by rw [hw0]; rfl
    have HV2 : Hid (vDK d = x4) := Lib.hid (by rw [HV.out, decide_eq_true hw0]; simp)
    clear hw0
    go_wp2_with fail
    refine (show Calls _ _ _ _ _ from HG.out _ (HEV.out _ HB1.out)).mono ?_
    rintro e' w4 ⟨rfl, hb⟩
    replace HB1 := Lib.hid (ext_trans HB1.out hb)
    clear hb
    go_wp2_with fail
    go_ret
    exact ⟨ret_bool HV2.out.symm, HB1.out⟩
  · have e0 : ((d.wall.length : Int) == 0) = false := beq_eq_false_iff_ne.2 (by omega)
    have HV2 : Hid (vDK d = (x3 && x4)) := Lib.hid (by rw [HV.out, decide_eq_false hw0]; simp)
    clear hw0
    go_wp2_with fail
    refine (show Calls _ _ _ _ _ from HX.out _ (HW.out.ext HB1.out)).mono ?_
    rintro e' w4 ⟨rfl, hb⟩
    replace HP := Lib.hid (HP.out.ext hb)
    replace HB1 := Lib.hid (ext_trans HB1.out hb)
    clear hb k0 k1 k2 k3 k4 k5 k6 k7
    obtain ⟨k0, k1, k2, k3, k4, k5, k6, k7⟩ := HP.out
    cases x3
    · go_wp2_with fail
      go_ret
      exact ⟨ret_bool (by rw [HV2.out]; rfl), HB1.out⟩
    · go_wp2_with fail
      refine (show Calls _ _ _ _ _ from HG.out _ (HEV.out _ HB1.out)).mono ?_
      rintro e' w5 ⟨rfl, hb⟩
      replace HB1 := Lib.hid (ext_trans HB1.out hb)
      clear hb
      go_wp2_with fail
      go_ret
      exact ⟨ret_bool (by rw [HV2.out]; rfl), HB1.out⟩
/-- A valid state's text. -/
def dkT (d : DK) : ByteArray := d.nm ++ ⟨#[32]⟩ ++ itb d.wall.length ++ ⟨#[32, 99, 111, 117, 114, 115, 101, 115]⟩
def mDeskText (d : DK) : ByteArray := bif vDK d then dkT d else ⟨#[]⟩
theorem vDK_sizes {d : DK} (h : vDK d = true) : d.nm.size ≤ 12 ∧ d.wall.length ≤ 40 ∧ d.cs.length ≤ 8 ∧ d.log.size ≤ 4000 := by
  unfold vDK at h
  simp only [Bool.and_eq_true, Bool.or_eq_true, decide_eq_true_eq] at h
  obtain ⟨⟨⟨h1, h2⟩, h3⟩, h4⟩ := h
  have hb : d.nm.size ≤ 12 ∧ d.cs.length ≤ 8 := by
    unfold vB at h2
    simp only [Bool.and_eq_true] at h2
    have h5 := inB_iff.1 h2.1.2
    have h6 := h2.1.1
    unfold isN at h6
    simp only [Bool.and_eq_true, decide_eq_true_eq] at h6
    omega
  have hw : d.wall.length ≤ 40 := by
    rcases h3 with h3 | h3
    · omega
    · unfold vW at h3
      simp only [Bool.and_eq_true] at h3
      have h5 := inB_iff.1 h3.1
      omega
  refine ⟨hb.1, hw, hb.2, ?_⟩
  unfold lgC at h4
  split at h4
  · cases h4
  · omega
set_option maxHeartbeats 1600000 in
theorem spec_dkT (p : Nat) (d : DK) (A : Option Addr) (c : Nat) (B : Option Addr) (e : Nat) (w : World) (hP : PDK w p d A c B e) (hv : vDK d = true) :
    Calls Tryz.prog 25 #[.pointer (some ⟨p, 0, none⟩)] w (Ret (.string (dkT d)) w) := by
  obtain ⟨hs1, hs2, _, _⟩ := vDK_sizes hv
  have hz := itb_size d.wall.length (by omega) (by omega)
  have HT : Hid (dkT d = d.nm ++ ⟨#[32]⟩ ++ itb d.wall.length ++ ⟨#[32, 99, 111, 117, 114, 115, 101, 115]⟩) := Lib.hid rfl
  have HD : Hid (∀ w, Calls Tryz.prog 44 #[.int .i64 (d.wall.length : Int)] w (Ret (.string (itb d.wall.length)) w)) := Lib.hid fun w => spec_Dec _ (by omega) (by omega) w
  have c1 : ¬ 9223372036854775807 < d.nm.size + 1 := by omega
  have c2 : ¬ 9223372036854775807 < d.nm.size + 1 + (itb d.wall.length).size := by omega
  have c3 : ¬ 9223372036854775807 < d.nm.size + 1 + (itb d.wall.length).size + 8 := by omega
  have g4 := fun x os => cell_regrown hP.k4 x os
  have g6 := fun x os => cell_regrown hP.k6 x os
  clear hP hv hs1 hz
  go_enter Tryz.func25, Tryz.ntmps25
  go_wp2_with fail
  refine wp_region_quiet_below (by kernel_rfl) (by kernel_rfl) ?_
  repeat (go_big_quiet_step ((go_at_call 44; exact regrown_r (HD.out _))))
  refine wpQuiet_nil ?_
  intro w' hw'
  obtain ⟨q, rfl⟩ := hw'
  go_wp2_with fail
  go_ret
  exact ⟨by rw [HT.out]; rfl, below_regrown w q.d q.os⟩
theorem spec_DeskText (v : Value) (d : DK) (w : World) (ha : RDK w v d) (hsm : SmDK d) (_ : Env w) :
    Calls Tryz.prog 10 #[v] w (Ret (.string (mDeskText d)) w) := by
  obtain ⟨A, c, B, e, rfl, hcs, hwl⟩ := ha
  have HC := Lib.hid (spec_okD w.heap.size d A c B e _ (PDK.new w d A c B e 37) (hcs.alloc _) (hwl.alloc _) hsm)
  have HM : Hid (mDeskText d = bif vDK d then dkT d else ⟨#[]⟩) := Lib.hid rfl
  have HP := Lib.hid (PDK.new w d A c B e 37)
  obtain ⟨x, hx⟩ : ∃ x, vDK d = x := ⟨_, rfl⟩
  have HX := Lib.hid hx
  rw [hx] at HC HM
  clear hcs hwl hsm hx
  go_enter Tryz.func10, Tryz.ntmps10
  go_wp2_with fail
  refine (show Calls _ _ _ _ _ from HC.out).mono ?_
  rintro e' w1 ⟨rfl, hb⟩
  have HB1 := Lib.hid (ext_trans (ext_alloc1 _ _) hb)
  replace HP := Lib.hid (HP.out.ext hb)
  clear hb
  cases x
  · go_wp2_with fail
    go_ret
    exact ⟨by rw [HM.out]; rfl, HB1.out⟩
  · go_wp2_with fail
    refine (spec_dkT w.heap.size d A c B e _ HP.out HX.out).mono ?_
    rintro e' w2 ⟨rfl, hb⟩
    go_wp2_with fail
    go_ret
    exact ⟨by rw [HM.out]; rfl, ext_trans HB1.out hb⟩
set_option maxHeartbeats 1600000 in
theorem impl_DeskText (v : Value) (d : DK) (w : World) (ha : RDK w v d) (hsm : SmDK d) (hE : Env w) :
    Calls Tryz.prog 11 #[v] w (Ret (.string (mDeskText d)) w) := by
  obtain ⟨A, c, B, e, rfl, hcs, hwl⟩ := ha
  have HEV : Hid (∀ W', Below w.heap.size w W' → Env W') := Lib.hid fun W' h => hE.ext h
  have HC := Lib.hid (impl_ValidDesk (.agg #[.int .i64 d.f.l, .int .i64 d.f.w, .int .i64 d.f.h, .int .i64 d.f.j, .string d.nm, .slice A d.cs.length c, .slice B d.wall.length e, .string d.log]) d _ ⟨A, c, B, e, rfl, hcs.alloc (.cells #[.int .i64 d.f.l, .int .i64 d.f.w, .int .i64 d.f.h, .int .i64 d.f.j, .string d.nm, .slice A d.cs.length c, .slice B d.wall.length e, .string d.log] 37), hwl.alloc _⟩ hsm (hE.ext (ext_alloc1 _ _)))
  have HM : Hid (mDeskText d = bif vDK d then dkT d else ⟨#[]⟩) := Lib.hid rfl
  have HP := Lib.hid (PDK.new w d A c B e 37)
  obtain ⟨x, hx⟩ : ∃ x, vDK d = x := ⟨_, rfl⟩
  have HX := Lib.hid hx
  rw [hx] at HC HM
  clear hcs hwl hsm hx hE
  go_enter Tryz.func11, Tryz.ntmps11
  go_wp2_with fail
  refine (show Calls _ _ _ _ _ from HC.out).mono ?_
  rintro e' w1 ⟨rfl, hb⟩
  have HB1 := Lib.hid (ext_trans (ext_alloc1 _ _) hb)
  replace HP := Lib.hid (HP.out.ext hb)
  clear hb
  cases x
  · go_wp2_with fail
    go_ret
    exact ⟨by rw [HM.out]; rfl, HB1.out⟩
  · obtain ⟨hs1, hs2, _, _⟩ := vDK_sizes HX.out
    have hz := itb_size d.wall.length (by omega) (by omega)
    have HT : Hid (dkT d = d.nm ++ ⟨#[32]⟩ ++ itb d.wall.length ++ ⟨#[32, 99, 111, 117, 114, 115, 101, 115]⟩) := Lib.hid rfl
    have HD : Hid (∀ x os, Calls Tryz.prog 26 #[.int .i64 (d.wall.length : Int)] (grow (redrawn w1 x) os) (Ret (.string (itb d.wall.length)) (grow (redrawn w1 x) os))) := Lib.hid fun x os => impl_Dec _ (by omega) (by omega) _ (HEV.out _ (ext_trans HB1.out (below_regrown w1 x os))).lay
    have c1 : ¬ 9223372036854775807 < d.nm.size + 1 := by omega
    have c2 : ¬ 9223372036854775807 < d.nm.size + 1 + (itb d.wall.length).size := by omega
    have c3 : ¬ 9223372036854775807 < d.nm.size + 1 + (itb d.wall.length).size + 8 := by omega
    have g4 := fun x os => cell_regrown HP.out.k4 x os
    have g6 := fun x os => cell_regrown HP.out.k6 x os
    clear hs1 hz
    go_wp2_with fail
    refine wp_region_quiet_below (by kernel_rfl) (by kernel_rfl) ?_
    repeat (go_big_quiet_step ((go_at_call 26; exact regrown_r (HD.out _ _))))
    refine wpQuiet_nil ?_
    intro w' hw'
    obtain ⟨q, rfl⟩ := hw'
    go_wp2_with fail
    go_ret
    exact ⟨by rw [HM.out, HT.out]; rfl, ext_trans HB1.out (below_regrown w1 q.d q.os)⟩
end Go.Proofs.YtoefoljhgnfoiaaGreatDoor
