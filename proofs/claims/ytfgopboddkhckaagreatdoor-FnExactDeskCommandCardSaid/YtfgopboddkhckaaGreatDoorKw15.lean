/-
  Parts of the proof: VDk, Log12, Log13.
-/
import Derived.Test.YtfgopboddkhckaaGreatDoorKw14
namespace Go.Proofs.YtfgopboddkhckaaGreatDoor
open Go.ChangeShapes Go.WideShapes Go.ChangeAt Go.RowKit Go.Sort Go.Joins
set_option linter.unusedVariables false
set_option maxRecDepth 100000
def vDK (d : DK) : Bool := vF d.f && vB d.nm d.cs && (decide (d.wall.length = 0) || vW d.wall) && decide (lgC d.log = 0)
theorem sm_wall {d : DK} (h : SmDK d) : SmWall d.wall := fun k hk => by
  have h1 := totStr_succ hk
  have h2 := totStr_le d.wall (k + 1)
  unfold SmDK totDK at h
  omega
theorem sm_lenDK {d : DK} (h : SmDK d) : LenDK d := by
 have hw := sm_wall h
 have hc : SmCOS d.cs := by unfold SmDK totDK at h; unfold SmCOS; omega
 have h0 := h
 unfold SmDK totDK at h
 refine ⟨by unfold maxLen; omega, ⟨by unfold maxLen; omega, fun o ho => ?_⟩, ⟨by unfold maxLen; omega, fun o ho => ?_⟩, by unfold maxLen; omega⟩
 · obtain ⟨k, hk, rfl⟩ := List.mem_iff_getElem.1 ho
   have := hc.one hk
   rw [gd_eq hk] at this
   unfold SmCO at this
   exact ⟨by unfold maxLen; omega, by unfold maxLen; omega⟩
 · obtain ⟨k, hk, rfl⟩ := List.mem_iff_getElem.1 ho
   have := hw k hk
   rw [gd_eq hk] at this
   unfold maxLen; omega
structure PDK (w : World) (p : Nat) (d : DK) (A : Option Addr) (c : Nat) (B : Option Addr) (e : Nat) : Prop where
 k0 : w.cell? ⟨p, 0, none⟩ = some (.int .i64 d.f.l)
 k1 : w.cell? ⟨p, 1, none⟩ = some (.int .i64 d.f.w)
 k2 : w.cell? ⟨p, 2, none⟩ = some (.int .i64 d.f.h)
 k3 : w.cell? ⟨p, 3, none⟩ = some (.int .i64 d.f.j)
 k4 : w.cell? ⟨p, 4, none⟩ = some (.string d.nm)
 k5 : w.cell? ⟨p, 5, none⟩ = some (.slice A d.cs.length c)
 k6 : w.cell? ⟨p, 6, none⟩ = some (.slice B d.wall.length e)
 k7 : w.cell? ⟨p, 7, none⟩ = some (.string d.log)
theorem PDK.ext {w w' : World} {p : Nat} {d : DK} {A : Option Addr} {c : Nat} {B : Option Addr} {e : Nat} (h : PDK w p d A c B e) (hb : Below w.heap.size w w') : PDK w' p d A c B e :=
 ⟨cell_keep h.k0 hb, cell_keep h.k1 hb, cell_keep h.k2 hb, cell_keep h.k3 hb, cell_keep h.k4 hb, cell_keep h.k5 hb, cell_keep h.k6 hb, cell_keep h.k7 hb⟩
theorem PDK.new (w : World) (d : DK) (A : Option Addr) (c : Nat) (B : Option Addr) (e : Nat) (T : TypeId) : PDK (w.alloc (.cells #[.int .i64 d.f.l, .int .i64 d.f.w, .int .i64 d.f.h, .int .i64 d.f.j, .string d.nm, .slice A d.cs.length c, .slice B d.wall.length e, .string d.log] T)) w.heap.size d A c B e :=
 ⟨by simp [go_sem], by simp [go_sem], by simp [go_sem], by simp [go_sem], by simp [go_sem], by simp [go_sem], by simp [go_sem], by simp [go_sem]⟩
set_option maxHeartbeats 800000 in
theorem impl_isLog (s : ByteArray) (hs : s.size ≤ 1048576) (w : World) (hE : Env w) :
   Calls Tryz.prog 80 #[.string s] w (Ret (.bool (decide (lgC s = 0))) w) := by
 have HC := Lib.hid (impl_logCode s hs w hE)
 clear hE
 go_enter Tryz.func80, Tryz.ntmps80
 go_wp2_with fail
 refine (show Calls _ _ _ _ _ from HC.out).mono ?_
 rintro e w1 ⟨A, c, rfl, _, hb⟩
 have HB := Lib.hid hb
 clear hb
 generalize lgC s = z at *
 go_wp2_with fail
 go_ret
 exact ⟨ret_bool (by by_cases h : z = 0 <;> simp [h]), ext_alloc HB.out _⟩
set_option maxHeartbeats 3200000 in
theorem spec_okD (p : Nat) (d : DK) (A : Option Addr) (c : Nat) (B : Option Addr) (e : Nat) (w : World) (hP : PDK w p d A c B e) (hcs : RCOS w (.slice A d.cs.length c) d.cs) (hwl : RStr w (.slice B d.wall.length e) d.wall) (hsm : SmDK d) :
   Calls Tryz.prog 32 #[.pointer (some ⟨p, 0, none⟩)] w (Ret (.bool (vDK d)) w) := by
 obtain ⟨l1, l2, l3, l4⟩ := sm_lenDK hsm
 have HLG : Hid (d.log.size ≤ 1048576) := Lib.hid (by unfold SmDK totDK at hsm; omega)
 have HSW := Lib.hid (sm_wall hsm)
 have HP := Lib.hid hP
 have HC := Lib.hid hcs
 have HW := Lib.hid hwl
 have HF := Lib.hid (fun w => spec_okF d.f w)
 have HB : Hid (∀ w h h0 h1, Calls Tryz.prog 74 #[.pointer (some ⟨p, 4, none⟩)] w (Ret (.bool (vB d.nm d.cs)) w)) := Lib.hid (fun w h h0 h1 => spec_okB p 4 A c d.nm d.cs w l1 l2 h h0 h1)
 have HX := Lib.hid (fun w h => spec_okW B e d.wall w h HSW.out)
 have HV : Hid (vDK d = (vF d.f && vB d.nm d.cs && (decide (d.wall.length = 0) || vW d.wall) && decide (lgC d.log = 0))) := Lib.hid rfl
 have HG := Lib.hid (fun w => spec_Code d.log HLG.out w)
 obtain ⟨x1, h1⟩ : ∃ x, vF d.f = x := ⟨_, rfl⟩
 obtain ⟨x2, h2⟩ : ∃ x, vB d.nm d.cs = x := ⟨_, rfl⟩
 obtain ⟨x3, h3⟩ : ∃ x, vW d.wall = x := ⟨_, rfl⟩
 rw [h1, h2, h3] at HV
 rw [h1] at HF
 rw [h2] at HB
 rw [h3] at HX
 clear h1 h2 h3 hP hcs hwl hsm l1 l2 l3 l4
 obtain ⟨k0, k1, k2, k3, k4, k5, k6, k7⟩ := HP.out
 go_enter Tryz.func32, Tryz.ntmps32
 go_wp2_with fail
 refine (show Calls _ _ _ _ _ from HG.out _).mono ?_
 rintro e' w1 ⟨g, A', c', rfl, _, hb⟩
 replace HP := Lib.hid (HP.out.ext hb)
 replace HC := Lib.hid (HC.out.ext hb)
 replace HW := Lib.hid (HW.out.ext hb)
 have HB1 := Lib.hid hb
 clear hb k0 k1 k2 k3 k4 k5 k6 k7
 obtain ⟨k0, k1, k2, k3, k4, k5, k6, k7⟩ := HP.out
 obtain ⟨z, hz⟩ : ∃ z, lgC d.log = z := ⟨_, rfl⟩
 rw [hz] at HV
 rw [hz]
 clear hz
 go_wp2_with fail
 refine (show Calls _ _ _ _ _ from HF.out _).mono ?_
 rintro e' w2 ⟨rfl, hb⟩
 replace HP := Lib.hid (HP.out.ext hb)
 replace HC := Lib.hid (HC.out.ext hb)
 replace HW := Lib.hid (HW.out.ext hb)
 replace HB1 := Lib.hid (ext_trans HB1.out hb)
 clear hb k0 k1 k2 k3 k4 k5 k6 k7
 obtain ⟨k0, k1, k2, k3, k4, k5, k6, k7⟩ := HP.out
 cases x1
 · go_wp2_with fail
   go_ret
   exact ⟨ret_bool (by rw [HV.out]; rfl), HB1.out⟩
 go_wp2_with fail
 refine (show Calls _ _ _ _ _ from HB.out _ HC.out k4 k5).mono ?_
 rintro e' w3 ⟨rfl, hb⟩
 replace HP := Lib.hid (HP.out.ext hb)
 replace HW := Lib.hid (HW.out.ext hb)
 replace HB1 := Lib.hid (ext_trans HB1.out hb)
 clear hb k0 k1 k2 k3 k4 k5 k6 k7
 obtain ⟨k0, k1, k2, k3, k4, k5, k6, k7⟩ := HP.out
 cases x2
 · go_wp2_with fail
   go_ret
   exact ⟨ret_bool (by rw [HV.out]; rfl), HB1.out⟩
 by_cases hw0 : d.wall.length = 0
 · have e0 : ((d.wall.length : Int) == 0) = true := by rw [hw0]; rfl
   have HV2 : Hid (vDK d = decide (z = 0)) := Lib.hid (by rw [HV.out, decide_eq_true hw0]; simp)
   clear hw0
   go_wp2_with fail
   go_ret
   exact ⟨ret_bool (by rw [HV2.out]; by_cases h : z = 0 <;> simp [h]), HB1.out⟩
 · have e0 : ((d.wall.length : Int) == 0) = false := beq_eq_false_iff_ne.2 (by omega)
   have HV2 : Hid (vDK d = (x3 && decide (z = 0))) := Lib.hid (by rw [HV.out, decide_eq_false hw0]; simp)
   clear hw0
   go_wp2_with fail
   refine (show Calls _ _ _ _ _ from HX.out _ HW.out).mono ?_
   rintro e' w4 ⟨rfl, hb⟩
   replace HB1 := Lib.hid (ext_trans HB1.out hb)
   clear hb
   cases x3
   · go_wp2_with fail
     go_ret
     exact ⟨ret_bool (by rw [HV2.out]; rfl), HB1.out⟩
   · go_wp2_with fail
     go_ret
     exact ⟨ret_bool (by rw [HV2.out]; by_cases h : z = 0 <;> simp [h]), HB1.out⟩
set_option maxHeartbeats 3200000 in
theorem impl_ValidDesk (v : Value) (d : DK) (w : World) (ha : RDK w v d) (hsm : SmDK d) (hE : Env w) :
   Calls Tryz.prog 38 #[v] w (Ret (.bool (vDK d)) w) := by
 obtain ⟨A, c, B, e, rfl, hcs, hwl⟩ := ha
 obtain ⟨l1, l2, l3, l4⟩ := sm_lenDK hsm
 have HLG : Hid (d.log.size ≤ 1048576) := Lib.hid (by unfold SmDK totDK at hsm; omega)
 have HSW := Lib.hid (sm_wall hsm)
 have HEV : Hid (∀ W', Below w.heap.size w W' → Env W') := Lib.hid fun W' h => hE.ext h
 have HC := Lib.hid hcs
 have HW := Lib.hid hwl
 have HF := Lib.hid (fun w => impl_okF d.f w)
 have HB := Lib.hid (fun w h => impl_ValidBond A c d.nm d.cs w l1 l2 h)
 have HX := Lib.hid (fun w h => impl_okW B e d.wall w h HSW.out)
 have HV : Hid (vDK d = (vF d.f && vB d.nm d.cs && (decide (d.wall.length = 0) || vW d.wall) && decide (lgC d.log = 0))) := Lib.hid rfl
 have HG := Lib.hid (fun w h => impl_isLog d.log HLG.out w h)
 obtain ⟨x1, h1⟩ : ∃ x, vF d.f = x := ⟨_, rfl⟩
 obtain ⟨x2, h2⟩ : ∃ x, vB d.nm d.cs = x := ⟨_, rfl⟩
 obtain ⟨x3, h3⟩ : ∃ x, vW d.wall = x := ⟨_, rfl⟩
 obtain ⟨x4, h4⟩ : ∃ x, decide (lgC d.log = 0) = x := ⟨_, rfl⟩
 rw [h1, h2, h3, h4] at HV
 rw [h1] at HF
 rw [h2] at HB
 rw [h3] at HX
 rw [h4] at HG
 clear h1 h2 h3 h4 hcs hwl hsm l1 l2 l3 l4 hE
 go_enter Tryz.func38, Tryz.ntmps38
 go_wp2_with fail
 have HP := Lib.hid (PDK.new w d A c B e 38)
 refine (show Calls _ _ _ _ _ from HF.out _).mono ?_
 rintro e' w2 ⟨rfl, hb⟩
 replace HP := Lib.hid (HP.out.ext hb)
 have HB1 := Lib.hid (ext_trans (ext_alloc1 _ _) hb)
 clear hb
 obtain ⟨k0, k1, k2, k3, k4, k5, k6, k7⟩ := HP.out
 cases x1
 · go_wp2_with fail
   go_ret
   exact ⟨ret_bool (by rw [HV.out]; rfl), HB1.out⟩
 go_wp2_with fail
 refine (show Calls _ _ _ _ _ from HB.out _ (HC.out.ext HB1.out)).mono ?_
 rintro e' w3 ⟨rfl, hb⟩
 replace HP := Lib.hid (HP.out.ext hb)
 replace HB1 := Lib.hid (ext_trans HB1.out hb)
 clear hb k0 k1 k2 k3 k4 k5 k6 k7
 obtain ⟨k0, k1, k2, k3, k4, k5, k6, k7⟩ := HP.out
 cases x2
 · go_wp2_with fail
   go_ret
   exact ⟨ret_bool (by rw [HV.out]; rfl), HB1.out⟩
 by_cases hw0 : d.wall.length = 0
 · have e0 : ((d.wall.length : Int) == 0) = true := by rw [hw0]; rfl
   have HV2 : Hid (vDK d = x4) := Lib.hid (by rw [HV.out, decide_eq_true hw0]; simp)
   clear hw0
   go_wp2_with fail
   refine (show Calls _ _ _ _ _ from HG.out _ (HEV.out _ HB1.out)).mono ?_
   rintro e' w4 ⟨rfl, hb⟩
   replace HB1 := Lib.hid (ext_trans HB1.out hb)
   clear hb
   go_wp2_with fail
   go_ret
   exact ⟨ret_bool HV2.out.symm, HB1.out⟩
 · have e0 : ((d.wall.length : Int) == 0) = false := beq_eq_false_iff_ne.2 (by omega)
   have HV2 : Hid (vDK d = (x3 && x4)) := Lib.hid (by rw [HV.out, decide_eq_false hw0]; simp)
   clear hw0
   go_wp2_with fail
   refine (show Calls _ _ _ _ _ from HX.out _ (HW.out.ext HB1.out)).mono ?_
   rintro e' w4 ⟨rfl, hb⟩
   replace HP := Lib.hid (HP.out.ext hb)
   replace HB1 := Lib.hid (ext_trans HB1.out hb)
   clear hb k0 k1 k2 k3 k4 k5 k6 k7
   obtain ⟨k0, k1, k2, k3, k4, k5, k6, k7⟩ := HP.out
   cases x3
   · go_wp2_with fail
     go_ret
     exact ⟨ret_bool (by rw [HV2.out]; rfl), HB1.out⟩
   · go_wp2_with fail
     refine (show Calls _ _ _ _ _ from HG.out _ (HEV.out _ HB1.out)).mono ?_
     rintro e' w5 ⟨rfl, hb⟩
     replace HB1 := Lib.hid (ext_trans HB1.out hb)
     clear hb
     go_wp2_with fail
     go_ret
     exact ⟨ret_bool (by rw [HV2.out]; rfl), HB1.out⟩
def dkT (d : DK) : ByteArray := d.nm ++ ⟨#[32]⟩ ++ itb d.wall.length ++ ⟨#[32, 99, 111, 117, 114, 115, 101, 115]⟩
def mDeskText (d : DK) : ByteArray := bif vDK d then dkT d else ⟨#[]⟩
theorem vDK_sizes {d : DK} (h : vDK d = true) : d.nm.size ≤ 12 ∧ d.wall.length ≤ 40 ∧ d.cs.length ≤ 8 ∧ d.log.size ≤ 4000 := by
 unfold vDK at h
 simp only [Bool.and_eq_true, Bool.or_eq_true, decide_eq_true_eq] at h
 obtain ⟨⟨⟨h1, h2⟩, h3⟩, h4⟩ := h
 have hb : d.nm.size ≤ 12 ∧ d.cs.length ≤ 8 := by
   unfold vB at h2
   simp only [Bool.and_eq_true] at h2
   have h5 := inB_iff.1 h2.1.2
   have h6 := h2.1.1
   unfold isN at h6
   simp only [Bool.and_eq_true, decide_eq_true_eq] at h6
   omega
 have hw : d.wall.length ≤ 40 := by
   rcases h3 with h3 | h3
   · omega
   · unfold vW at h3
     simp only [Bool.and_eq_true] at h3
     have h5 := inB_iff.1 h3.1
     omega
 refine ⟨hb.1, hw, hb.2, ?_⟩
 unfold lgC at h4
 split at h4
 · cases h4
 · omega
set_option maxHeartbeats 1600000 in
theorem spec_dkT (p : Nat) (d : DK) (A : Option Addr) (c : Nat) (B : Option Addr) (e : Nat) (w : World) (hP : PDK w p d A c B e) (hv : vDK d = true) :
   Calls Tryz.prog 115 #[.pointer (some ⟨p, 0, none⟩)] w (Ret (.string (dkT d)) w) := by
 obtain ⟨hs1, hs2, _, _⟩ := vDK_sizes hv
 have hz := itb_size d.wall.length (by omega) (by omega)
 have HT : Hid (dkT d = d.nm ++ ⟨#[32]⟩ ++ itb d.wall.length ++ ⟨#[32, 99, 111, 117, 114, 115, 101, 115]⟩) := Lib.hid rfl
 have HD : Hid (∀ w, Calls Tryz.prog 114 #[.int .i64 (d.wall.length : Int)] w (Ret (.string (itb d.wall.length)) w)) := Lib.hid fun w => spec_Dec _ (by omega) (by omega) w
 have c1 : ¬ 9223372036854775807 < d.nm.size + 1 := by omega
 have c2 : ¬ 9223372036854775807 < d.nm.size + 1 + (itb d.wall.length).size := by omega
 have c3 : ¬ 9223372036854775807 < d.nm.size + 1 + (itb d.wall.length).size + 8 := by omega
 have g4 := fun x os => cell_regrown hP.k4 x os
 have g6 := fun x os => cell_regrown hP.k6 x os
 clear hP hv hs1 hz
 go_enter Tryz.func115, Tryz.ntmps115
 go_wp2_with fail
 refine wp_region_quiet_below (by kernel_rfl) (by kernel_rfl) ?_
 repeat (go_big_quiet_step ((go_at_call 114; exact regrown_r (HD.out _))))
 refine wpQuiet_nil ?_
 intro w' hw'
 obtain ⟨q, rfl⟩ := hw'
 go_wp2_with fail
 go_ret
 exact ⟨by rw [HT.out]; rfl, below_regrown w q.d q.os⟩
set_option maxHeartbeats 1600000 in
theorem impl_DeskText (v : Value) (d : DK) (w : World) (ha : RDK w v d) (hsm : SmDK d) (hE : Env w) :
   Calls Tryz.prog 22 #[v] w (Ret (.string (mDeskText d)) w) := by
 obtain ⟨A, c, B, e, rfl, hcs, hwl⟩ := ha
 have HEV : Hid (∀ W', Below w.heap.size w W' → Env W') := Lib.hid fun W' h => hE.ext h
 have HC := Lib.hid (impl_ValidDesk (.agg #[.int .i64 d.f.l, .int .i64 d.f.w, .int .i64 d.f.h, .int .i64 d.f.j, .string d.nm, .slice A d.cs.length c, .slice B d.wall.length e, .string d.log]) d _ ⟨A, c, B, e, rfl, hcs.alloc (.cells #[.int .i64 d.f.l, .int .i64 d.f.w, .int .i64 d.f.h, .int .i64 d.f.j, .string d.nm, .slice A d.cs.length c, .slice B d.wall.length e, .string d.log] 38), hwl.alloc _⟩ hsm (hE.ext (ext_alloc1 _ _)))
 have HM : Hid (mDeskText d = bif vDK d then dkT d else ⟨#[]⟩) := Lib.hid rfl
 have HP := Lib.hid (PDK.new w d A c B e 38)
 obtain ⟨x, hx⟩ : ∃ x, vDK d = x := ⟨_, rfl⟩
 have HX := Lib.hid hx
 rw [hx] at HC HM
 clear hcs hwl hsm hx hE
 go_enter Tryz.func22, Tryz.ntmps22
 go_wp2_with fail
 refine (show Calls _ _ _ _ _ from HC.out).mono ?_
 rintro e' w1 ⟨rfl, hb⟩
 have HB1 := Lib.hid (ext_trans (ext_alloc1 _ _) hb)
 replace HP := Lib.hid (HP.out.ext hb)
 clear hb
 cases x
 · go_wp2_with fail
   go_ret
   exact ⟨by rw [HM.out]; rfl, HB1.out⟩
 · obtain ⟨hs1, hs2, _, _⟩ := vDK_sizes HX.out
   have hz := itb_size d.wall.length (by omega) (by omega)
   have HT : Hid (dkT d = d.nm ++ ⟨#[32]⟩ ++ itb d.wall.length ++ ⟨#[32, 99, 111, 117, 114, 115, 101, 115]⟩) := Lib.hid rfl
   have HD : Hid (∀ x os, Calls Tryz.prog 54 #[.int .i64 (d.wall.length : Int)] (grow (redrawn w1 x) os) (Ret (.string (itb d.wall.length)) (grow (redrawn w1 x) os))) := Lib.hid fun x os => impl_Dec _ (by omega) (by omega) _ (HEV.out _ (ext_trans HB1.out (below_regrown w1 x os))).lay
   have c1 : ¬ 9223372036854775807 < d.nm.size + 1 := by omega
   have c2 : ¬ 9223372036854775807 < d.nm.size + 1 + (itb d.wall.length).size := by omega
   have c3 : ¬ 9223372036854775807 < d.nm.size + 1 + (itb d.wall.length).size + 8 := by omega
   have g4 := fun x os => cell_regrown HP.out.k4 x os
   have g6 := fun x os => cell_regrown HP.out.k6 x os
   clear hs1 hz
   go_wp2_with fail
   refine wp_region_quiet_below (by kernel_rfl) (by kernel_rfl) ?_
   repeat (go_big_quiet_step ((go_at_call 54; exact regrown_r (HD.out _ _))))
   refine wpQuiet_nil ?_
   intro w' hw'
   obtain ⟨q, rfl⟩ := hw'
   go_wp2_with fail
   go_ret
   exact ⟨by rw [HM.out, HT.out]; rfl, ext_trans HB1.out (below_regrown w1 q.d q.os)⟩
end Go.Proofs.YtfgopboddkhckaaGreatDoor
namespace Go.Proofs.YtfgopboddkhckaaGreatDoor
open Go.ChangeShapes Go.WideShapes Go.ChangeAt Go.RowKit Go.Sort
set_option linter.unusedVariables false
set_option maxRecDepth 100000
attribute [local go_sem ↓] Go.wp_at_zero Go.wp_at_succ
def lwC (s what : ByteArray) : Int := if lgC s = 0 then (bif isN what then 0 else 2) else lgC s
theorem lwC_no {s what : ByteArray} (h : lgC s ≠ 0) : lwC s what = lgC s := by unfold lwC; rw [if_neg h]
theorem lwC_yes {s what : ByteArray} (h : lgC s = 0) : lwC s what = bif isN what then 0 else 2 := by unfold lwC; rw [if_pos h]
def SWhatP (s what : ByteArray) (w : World) : Ending → World → Prop := fun e w' =>
  ∃ g A c, e = .returned (.tuple #[.pointer (some ⟨g, 0, none⟩), .int .i64 (lwC s what)]) ∧ (lgC s = 0 → RR w' w.heap.size g s (rdLog s.data.toList).1 (rdLog s.data.toList).2.1 (rdLog s.data.toList).2.2 A c) ∧ Below w.heap.size w w'
set_option maxHeartbeats 1600000 in
theorem spec_What (s what : ByteArray) (hs : s.size ≤ 1048576) (hw : what.size ≤ 1048576) (w : World) :
   Calls Tryz.prog 182 #[.string s, .string what] w (SWhatP s what w) := by
 have HC := Lib.hid (spec_Code s hs w)
 have HN := Lib.hid (fun w => spec_IsName what (by unfold maxLen; omega) w)
 go_enter Tryz.func182, Tryz.ntmps182
 go_wp2_with fail
 refine (show Calls _ _ _ _ _ from HC.out).mono ?_
 rintro e w2 ⟨g, A, c, rfl, hR, hb⟩
 have HR := Lib.hid hR
 have HW := Lib.hid hb
 clear hR hb HC
 by_cases h0 : lgC s = 0
 · have HG := Lib.hid (lwC_yes (what := what) h0)
   rw [h0]
   have H0 := Lib.hid h0
   clear h0
   go_wp2_with fail
   refine (show Calls _ _ _ _ _ from HN.out _).mono ?_
   rintro e w3 ⟨rfl, rfl⟩
   cases hn : isN what with
   | true =>
     have HG2 : Hid (lwC s what = 0) := Lib.hid (by rw [HG.out, hn]; rfl)
     clear hn
     go_wp2_with fail
     go_ret2
     exact ⟨g, A, c, (by rw [HG2.out]; rfl), HR.out, HW.out⟩
   | false =>
     have HG2 : Hid (lwC s what = 2) := Lib.hid (by rw [HG.out, hn]; rfl)
     clear hn
     go_wp2_with fail
     go_ret2
     exact ⟨g, A, c, (by rw [HG2.out]; rfl), HR.out, HW.out⟩
 · have HG := Lib.hid (lwC_no (what := what) h0)
   have e1 : (lgC s == 0) = false := by simpa using h0
   clear h0
   go_wp2_with fail
   go_ret2
   exact ⟨g, A, c, (by rw [HG.out]; rfl), HR.out, HW.out⟩
end Go.Proofs.YtfgopboddkhckaaGreatDoor
namespace Go.Proofs.YtfgopboddkhckaaGreatDoor
open Go.ChangeShapes Go.WideShapes Go.ChangeAt Go.RowKit Go.Sort
set_option linter.unusedVariables false
set_option maxRecDepth 100000
attribute [local go_sem ↓] Go.wp_at_zero Go.wp_at_succ
def valK (es : List EN) (what : ByteArray) (k : Nat) : List Int := ((es.take k).filter fun e => decide (e.what = what)).map (·.val)
theorem valK_yes {es : List EN} {what : ByteArray} {k : Nat} (hk : k < es.length) (h : (gd es k).what = what) : valK es what (k + 1) = valK es what k ++ [(gd es k).val] := by
 unfold valK; rw [take_gd hk, List.filter_append]; simp [h]
theorem valK_no {es : List EN} {what : ByteArray} {k : Nat} (hk : k < es.length) (h : (gd es k).what ≠ what) : valK es what (k + 1) = valK es what k := by
 unfold valK; rw [take_gd hk, List.filter_append]; simp [h]
theorem valK_len (es : List EN) (what : ByteArray) (k : Nat) : (valK es what k).length ≤ k := by
 unfold valK
 rw [List.length_map]
 refine Nat.le_trans (List.length_filter_le _ _) ?_
 exact List.length_take_le _ _
def mValuesOf (s what : ByteArray) : List Int × Int := if lwC s what = 0 then (valK (lgE s) what (lgE s).length, 0) else ([], lwC s what)
def RetI (M : List Int) (code : Int) (w : World) : Ending → World → Prop := fun e w' => ∃ v, e = .returned (.tuple #[v, .int .i64 code]) ∧ OI w' w.heap.size v M ∧ SmI M ∧ Below w.heap.size w w'
theorem RetI.no {w w' : World} {code : Int} (hb : Below w.heap.size w w') : RetI [] code w (.returned (.tuple #[.slice none 0 0, .int .i64 code])) w' := ⟨_, rfl, World.ownsRow_nil _ _ _ _, by simp [SmI], hb⟩
theorem oi_lit (w : World) (B : Nat) (h : B ≤ w.heap.size) : OI (w.alloc (.cells #[] 2)) B (.slice (some ⟨w.heap.size, 0, none⟩) 0 0) [] :=
 World.ownsRow_lit _ #[] 0 h (by simp [maxLen]) (by simp)
set_option maxHeartbeats 3200000 in
theorem spec_ValuesOf (s what : ByteArray) (w : World) (hs : s.size ≤ 1048576) (hw : what.size ≤ 1048576) (_ : Env w) :
   Calls Tryz.prog 120 #[.string s, .string what] w (RetI (mValuesOf s what).1 (mValuesOf s what).2 w) := by
 have HC := Lib.hid (spec_What s what hs hw w)
 go_enter Tryz.func120, Tryz.ntmps120
 go_wp2_with fail
 refine (show Calls _ _ _ _ _ from HC.out).mono ?_
 rintro e w2 ⟨g, A, c, rfl, hR, hb⟩
 have HR := Lib.hid hR
 have HW := Lib.hid hb
 clear hR hb HC
 by_cases h0 : lwC s what = 0
 · have HM : Hid (mValuesOf s what = (valK (lgE s) what (lgE s).length, 0)) := Lib.hid (by unfold mValuesOf; rw [if_pos h0])
   have H0 : Hid (lgC s = 0) := Lib.hid (by
     by_cases h : lgC s = 0
     · exact h
     · rw [lwC_no h] at h0; exact absurd h0 h)
   rw [h0]
   clear h0
   have h1 := (lg_yes H0.out).1
   have r3 := (HR.out H0.out).h3
   have HA := Lib.hid (HR.out H0.out).own.rd
   rw [← h1] at r3 HA
   have hlen := lgE_len s
   clear h1
   obtain ⟨es, hes⟩ : ∃ es, lgE s = es := ⟨_, rfl⟩
   rw [hes] at r3 HA hlen HM
   clear hes
   have HR3 := Lib.hid r3
   go_wp2_with fail
   clear r3
   go_loopw [8, 9] (fun u i wr => ∃ (k : Nat) (l : List Int) (B : Option Addr) (cp : Nat), k ≤ es.length ∧ i = .int .i64 k ∧ u = .slice B l.length cp ∧ Hid (valK es what k = l) ∧ l.length ≤ k ∧ Hid (OI wr w2.heap.size (.slice B l.length cp) l) ∧ Hid (Below w2.heap.size w2 wr)) (fun _ i _ => es.length - (intOf i).toNat)
   case atStart => exact ⟨0, [], some ⟨w2.heap.size, 0, none⟩, 0, Nat.zero_le _, rfl, rfl, Lib.hid rfl, Nat.le_refl _, Lib.hid (oi_lit _ _ (Nat.le_refl _)), Lib.hid (ext_alloc1 _ _)⟩
   case round =>
     obtain ⟨k, l, B, cp, hk, rfl, rfl, HV, hlk, HO, HB⟩ := hrel
     have e1 : (0 : Int) ≤ k := by omega
     have r3 := cell_keep HR3.out HB.out
     have hsz := HB.out.size
     by_cases hlt : k < es.length
     · have e2 : (k : Int) < es.length := by omega
       obtain ⟨ad, rfl, _, hc⟩ := (HA.out.ext HB.out).at hlt
       obtain ⟨p0, p1, p2⟩ := hc k hlt
       clear hc p0
       by_cases hq : (gd es k).what = what
       · have HS : Hid (valK es what (k + 1) = l ++ [(gd es k).val]) := Lib.hid (by rw [valK_yes hlt hq, HV.out])
         rw [hq] at p1
         clear hq
         go_wp2_with (at_builtin; refine wpList_append_i rfl _ _ rfl w2.heap.size (.slice B l.length cp) l (gd es k).val rfl rfl HO.out (by omega) hsz ?_; intro g2 cap w4 hO4 hg4 hlt4)
         go_roundw
         case rel => exact ⟨k + 1, l ++ [(gd es k).val], some ⟨g2, 0, none⟩, cap, by omega, by go_num, by rw [List.length_append]; rfl, HS.out, by rw [List.length_append]; simp; omega, Lib.hid (by rw [List.length_append]; exact hO4), Lib.hid (Chg.ext HB.out hg4 (fun j hj => (HO.out.ge j hj).1))⟩
         case measure => simp [intOf]; omega
       · have hst := str_ne hq
         have HS : Hid (valK es what (k + 1) = l) := Lib.hid (by rw [valK_no hlt hq, HV.out])
         clear hq p2
         go_wp2_with fail
         go_roundw
         case rel => exact ⟨k + 1, l, B, cp, by omega, by go_num, rfl, HS.out, by omega, HO.out, HB.out⟩
         case measure => simp [intOf]; omega
     · obtain rfl : k = es.length := by omega
       go_wp2_with fail
       go_ret2
       unfold RetI
       rw [HM.out, HV.out]
       exact ⟨.slice B l.length cp, rfl, HO.out.mono HW.out.size, (show l.length ≤ 1048576 by omega), ext_trans HW.out HB.out⟩
 · have HM : Hid (mValuesOf s what = ([], lwC s what)) := Lib.hid (by unfold mValuesOf; rw [if_neg h0])
   have e2 : (lwC s what != 0) = true := by simpa using h0
   clear h0
   go_wp2_with fail
   go_ret2
   rw [HM.out]
   exact RetI.no HW.out
set_option maxHeartbeats 3200000 in
theorem impl_ValuesOf (s what : ByteArray) (w : World) (hs : s.size ≤ 1048576) (hw : what.size ≤ 1048576) (hE : Env w) :
   Calls Tryz.prog 99 #[.string s, .string what] w (RetI (mValuesOf s what).1 (mValuesOf s what).2 w) := by
 have HC := Lib.hid (impl_logCode s hs w hE)
 have HN := Lib.hid (fun w => impl_IsName what (by unfold maxLen; omega) w)
 clear hE
 go_enter Tryz.func99, Tryz.ntmps99
 go_wp2_with fail
 refine (show Calls _ _ _ _ _ from HC.out).mono ?_
 rintro e w2 ⟨A, c, rfl, hO, hb⟩
 have HO0 := Lib.hid hO
 have HW := Lib.hid hb
 clear hO hb HC
 have hbx := box3 w2 (.slice A (lgE s).length c) (.int .i64 (lgS s)) (.int .i64 (lgN s)) 135 _ (ext_refl _)
 have hx0 := hbx.1
 clear hbx
 have hlen := lgE_len s
 by_cases h0 : lgC s = 0
 · have HG := Lib.hid (lwC_yes (what := what) h0)
   rw [h0]
   clear h0
   go_wp2_with fail
   refine (show Calls _ _ _ _ _ from HN.out _).mono ?_
   rintro e w3 ⟨rfl, rfl⟩
   cases hn : isN what with
   | false =>
     have HM : Hid (mValuesOf s what = ([], 2)) := Lib.hid (by unfold mValuesOf; rw [HG.out, hn]; rfl)
     clear hn
     go_wp2_with fail
     go_ret2
     rw [HM.out]
     exact RetI.no (ext_alloc HW.out _)
   | true =>
   have HM : Hid (mValuesOf s what = (valK (lgE s) what (lgE s).length, 0)) := Lib.hid (by unfold mValuesOf; rw [HG.out, hn]; rfl)
   have HA := Lib.hid HO0.out.rd
   clear hn
   obtain ⟨es, hes⟩ : ∃ es, lgE s = es := ⟨_, rfl⟩
   rw [hes] at hx0 HA hlen HM ⊢
   clear hes HO0
   have hx1 := fun o => cell_keep hx0 (ext_alloc1 _ o)
   go_wp2_with fail
   clear hx1 hx0
   go_loopw [8, 30] (fun u i wr => ∃ (k : Nat) (l : List Int) (B : Option Addr) (cp : Nat), k ≤ es.length ∧ i = .int .i64 k ∧ u = .slice B l.length cp ∧ Hid (valK es what k = l) ∧ l.length ≤ k ∧ Hid (OI wr w2.heap.size (.slice B l.length cp) l) ∧ Hid (Below w2.heap.size w2 wr)) (fun _ i _ => es.length - (intOf i).toNat)
   case atStart =>
     refine ⟨0, [], some ⟨w2.heap.size + 1, 0, none⟩, 0, Nat.zero_le _, rfl, rfl, Lib.hid rfl, Nat.le_refl _, Lib.hid ?_, Lib.hid (ext_alloc (ext_alloc1 _ _) _)⟩
     have h := oi_lit (w2.alloc (.cells #[.slice A es.length c, .int .i64 (lgS s), .int .i64 (lgN s)] 135)) w2.heap.size (by simp)
     simp only [World.size_alloc] at h
     exact h
   case round =>
     obtain ⟨k, l, B, cp, hk, rfl, rfl, HV, hlk, HO, HB⟩ := hrel
     have e1 : (0 : Int) ≤ k := by omega
     have hsz := HB.out.size
     by_cases hlt : k < es.length
     · have e2 : (k : Int) < es.length := by omega
       obtain ⟨ad, rfl, _, hc⟩ := (HA.out.ext HB.out).at hlt
       obtain ⟨p0, p1, p2⟩ := hc k hlt
       clear hc
       by_cases hq : (gd es k).what = what
       · have HS : Hid (valK es what (k + 1) = l ++ [(gd es k).val]) := Lib.hid (by rw [valK_yes hlt hq, HV.out])
         have HQ := Lib.hid hq
         rw [hq] at p1
         clear hq
         have hO3 := Lib.hid (fun o => HO.out.ext (ext_alloc1 wr o))
         go_wp2_with (at_builtin; refine wpList_append_i rfl _ _ rfl w2.heap.size (.slice B l.length cp) l (gd es k).val rfl (by simp [Act.eval]) (hO3.out _) (by omega) (by simp; omega) ?_; intro g2 cap w4 hO4 hg4 hlt4)
         go_roundw
         case rel => exact ⟨k + 1, l ++ [(gd es k).val], some ⟨g2, 0, none⟩, cap, by omega, by go_num, by rw [List.length_append]; rfl, HS.out, by rw [List.length_append]; simp; omega, Lib.hid (by rw [List.length_append]; exact hO4), Lib.hid (Chg.ext (ext_alloc HB.out _) hg4 (fun j hj => (HO.out.ge j hj).1))⟩
         case measure => simp [intOf]; omega
       · have hst := str_ne hq
         have HS : Hid (valK es what (k + 1) = l) := Lib.hid (by rw [valK_no hlt hq, HV.out])
         clear hq
         go_wp2_with fail
         go_roundw
         case rel => exact ⟨k + 1, l, B, cp, by omega, by go_num, rfl, HS.out, by omega, Lib.hid (HO.out.ext (ext_alloc1 _ _)), Lib.hid (ext_alloc HB.out _)⟩
         case measure => simp [intOf]; omega
     · obtain rfl : k = es.length := by omega
       go_wp2_with fail
       go_ret2
       unfold RetI
       rw [HM.out, HV.out]
       exact ⟨.slice B l.length cp, rfl, HO.out.mono HW.out.size, (show l.length ≤ 1048576 by omega), ext_trans HW.out HB.out⟩
 · have HM : Hid (mValuesOf s what = ([], lgC s)) := Lib.hid (by unfold mValuesOf; rw [lwC_no h0, if_neg h0])
   have e1 : (lgC s == 0) = false := by simpa using h0
   have e2 : (lgC s != 0) = true := by simpa using h0
   clear h0
   go_wp2_with fail
   go_ret2
   rw [HM.out]
   exact RetI.no (ext_alloc HW.out _)
end Go.Proofs.YtfgopboddkhckaaGreatDoor
