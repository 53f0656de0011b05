/-
  Parts of the proof: Log11, VDk, Log12, Log13, Log14.
-/
import Derived.Test.YtfgopboddkhckaaGreatDoorKa1
import Derived.Test.YtfgopboddkhckaaGreatDoorKa6
import Derived.Test.YtfgopboddkhckaaGreatDoorKa8
import Derived.Test.YtfgopboddkhckaaGreatDoorKa11
import Derived.Deep.RegionHeld3
import Derived.Deep.DrawnRows
import Derived.Laws.IdiomStrings
import Derived.IntWalk
namespace Go.Proofs.YtfgopboddkhckaaGreatDoor
open Go.ChangeShapes Go.WideShapes Go.ChangeAt Go.RowKit Go.Sort
set_option linter.unusedVariables false
set_option maxRecDepth 100000
attribute [local go_sem ↓] Go.wp_at_zero Go.wp_at_succ

def lgE (s : ByteArray) : List EN := if lgC s = 0 then (rdLog s.data.toList).1 else []
def lgS (s : ByteArray) : Int := if lgC s = 0 then (rdLog s.data.toList).2.1 else 0
def lgN (s : ByteArray) : Int := if lgC s = 0 then (rdLog s.data.toList).2.2 else 0
theorem lg_no {s : ByteArray} (h : lgC s ≠ 0) : lgE s = [] ∧ lgS s = 0 ∧ lgN s = 0 := by unfold lgE lgS lgN; rw [if_neg h, if_neg h, if_neg h]; exact ⟨rfl, rfl, rfl⟩
theorem lg_yes {s : ByteArray} (h : lgC s = 0) : lgE s = (rdLog s.data.toList).1 ∧ lgS s = (rdLog s.data.toList).2.1 ∧ lgN s = (rdLog s.data.toList).2.2 := by unfold lgE lgS lgN; rw [if_pos h, if_pos h, if_pos h]; exact ⟨rfl, rfl, rfl⟩
/-- The entries read are valid. -/
theorem rdL_ok (s : List UInt8) : ∀ (f : Nat) (es : List EN) (st : Int) (n : Nat), (∀ e ∈ es, vEn e = true) → ∀ e ∈ (rdL s f es st n).1, vEn e = true
  | 0, es, st, n, h => h
  | f + 1, es, st, n, h => by
    rw [rdL]
    split
    · rename_i e st' k hk
      refine rdL_ok s f _ _ _ (fun x hx => ?_)
      rcases List.mem_append.1 hx with hx | hx
      · exact h x hx
      · simp only [List.mem_singleton] at hx; subst hx; exact (stepL_some hk).1
    · exact h
theorem lgE_ok (s : ByteArray) : ∀ e ∈ lgE s, vEn e = true := by
  unfold lgE
  split
  · exact rdL_ok _ _ [] 0 0 (fun e he => by simp at he)
  · intro e he; simp at he
theorem lgE_len (s : ByteArray) : (lgE s).length ≤ 4000 := by
  by_cases h : lgC s = 0
  · rw [(lg_yes h).1]
    have h2 := rdLog_le s
    have h3 : ¬ 4000 < s.size := fun h4 => by
      unfold lgC at h
      rw [if_pos h4] at h
      exact absurd h (by decide)
    omega
  · rw [(lg_no h).1]; simp
/-- What logCode leaves. -/
def ICodeP (s : ByteArray) (w : World) : Ending → World → Prop := fun e w' =>
  ∃ A c, e = .returned (.tuple #[.agg #[.slice A (lgE s).length c, .int .i64 (lgS s), .int .i64 (lgN s)], .int .i64 (lgC s)]) ∧ OENS w' w.heap.size (.slice A (lgE s).length c) (lgE s) ∧ Below w.heap.size w w'
theorem ICodeP.no {s : ByteArray} {w w' : World} {k : Int} (h : lgC s = k) (hk : k ≠ 0) (hb : Below w.heap.size w w') : ICodeP s w (.returned (.tuple #[.agg #[.slice none 0 0, .int .i64 0, .int .i64 0], .int .i64 k])) w' := by
  subst h
  obtain ⟨h1, h2, h3⟩ := lg_no hk
  exact ⟨none, 0, by rw [h1, h2, h3]; rfl, by rw [h1]; exact World.ownsRow_nil _ _ _ _, hb⟩

set_option maxHeartbeats 3200000 in
theorem impl_logCode (s : ByteArray) (hs : s.size ≤ 1048576) (w : World) (hE : Env w) :
    Calls Tryz.prog 149 #[.string s] w (ICodeP s w) := by
  have HZ := Lib.hid (fun W' h => box3 w (.slice none 0 0) (.int .i64 0) (.int .i64 0) 135 W' h)
  by_cases h4 : 4000 < s.size
  · have HF : Hid (lgC s = 5) := Lib.hid (by unfold lgC; rw [if_pos h4])
    have e1 : (4000 : Int) < s.size := by omega
    clear h4 hE
    go_enter Tryz.func149, Tryz.ntmps149
    go_wp2_with fail
    refine bodyPost_ret (v := .tuple #[.agg #[.slice none 0 0, .int .i64 0, .int .i64 0], .int .i64 5]) (by simp [results, Tryz.results149, go_sem]) rfl (ICodeP.no HF.out (by decide) ?_)
    repeat (first | exact ext_alloc1 _ _ | refine ext_set ?_ (by simp; try omega) _)
  · have e1 : ¬ (4000 : Int) < s.size := by omega
    have HC : Hid (∀ o, Calls Tryz.prog 101 #[.string s] (w.alloc o) (RLogP s (w.alloc o))) := Lib.hid fun o => impl_readLog s hs _ (hE.ext (ext_alloc1 w o))
    have HF : Hid (lgC s = if (rdLog s.data.toList).2.2 = s.size then 0 else 8) := Lib.hid (by unfold lgC; rw [if_neg h4])
    have hn := (rdLog_le s).2.1
    clear h4 hE
    go_enter Tryz.func149, Tryz.ntmps149
    go_wp2_with fail
    refine (show Calls _ _ _ _ _ from HC.out _).mono ?_
    rintro e w2 ⟨A, c, rfl, hO, hb⟩
    have HO := Lib.hid hO
    have HW : Hid (Below w.heap.size w w2) := Lib.hid (ext_trans (ext_alloc1 _ _) hb)
    have hz0 := (HZ.out _ hb).1
    have hz1 := (HZ.out _ hb).2.1
    have hz2 := (HZ.out _ hb).2.2.1
    have hzf := (HZ.out _ hb).2.2.2
    have hlt : w.heap.size < w2.heap.size := by have := hb.size; simp at this; omega
    clear hO hb HC HZ
    obtain ⟨es, hes⟩ : ∃ es, (rdLog s.data.toList).1 = es := ⟨_, rfl⟩
    obtain ⟨st, hst⟩ : ∃ st, (rdLog s.data.toList).2.1 = st := ⟨_, rfl⟩
    obtain ⟨n, hnn⟩ : ∃ n, (rdLog s.data.toList).2.2 = n := ⟨_, rfl⟩
    rw [hes] at HO ⊢
    rw [hst, hnn]
    rw [hnn] at hn HF
    have HRD : Hid (rdLog s.data.toList = (es, st, n)) := Lib.hid (by rw [← hes, ← hst, ← hnn])
    clear hes hst hnn
    have hn1 : ¬ w.heap.size = w2.heap.size := by omega
    have hn2 : ¬ w2.heap.size = w.heap.size := by omega
    by_cases hq : n = s.size
    · have HG : Hid (lgC s = 0) := Lib.hid (by rw [HF.out, if_pos hq])
      have e2 : ¬ ((n : Int) < s.size) := by omega
      clear hq
      have hx := @box3_set w2 w.heap.size _ _ _ (.slice A es.length c) (.int .i64 st) (.int .i64 (n : Int)) hz0 hz1 hz2
      have hr0 := fun o => cell_keep hx.1 (ext_alloc1 _ o)
      have hr1 := fun o => cell_keep hx.2.1 (ext_alloc1 _ o)
      have hr2 := fun o => cell_keep hx.2.2 (ext_alloc1 _ o)
      have HO2 := Lib.hid (fun o => (HO.out.chg (((Chg.setCell (S := fun k => k = w.heap.size) w2 (p := ⟨w.heap.size, 0, none⟩) rfl (.slice A es.length c)).trans (Chg.setCell (S := fun k => k = w.heap.size) _ (p := ⟨w.heap.size, 1, none⟩) rfl (.int .i64 st))).trans (Chg.setCell (S := fun k => k = w.heap.size) _ (p := ⟨w.heap.size, 2, none⟩) rfl (.int .i64 (n : Int)))) (fun k hk e => by have := (HO.out.ge k hk).1; simp at this; omega)).ext (ext_alloc1 _ o))
      go_wp2_with fail
      clear hz0 hz1 hz2 hzf
      refine bodyPost_ret (v := .tuple #[.agg #[.slice A es.length c, .int .i64 st, .int .i64 (n : Int)], .int .i64 0]) (by simp [results, Tryz.results149, go_sem, hr0, hr1, hr2]) rfl ?_
      obtain ⟨h1, h2, h3⟩ := lg_yes HG.out
      rw [HRD.out] at h1 h2 h3
      refine ⟨A, c, by rw [h1, h2, h3, HG.out], ?_, ?_⟩
      · rw [h1]; exact (HO2.out _).mono (by simp)
      · repeat (first | refine ext_alloc ?_ _ | refine ext_set ?_ (by simp; try omega) _)
        exact HW.out
    · have HG : Hid (lgC s = 8) := Lib.hid (by rw [HF.out, if_neg hq])
      have e2 : (n : Int) < s.size := by omega
      clear hq
      have hx := @box3_set w2 w.heap.size _ _ _ (.slice none 0 0) (.int .i64 0) (.int .i64 0) hz0 hz1 hz2
      have hr0 := fun o => cell_keep hx.1 (ext_alloc1 _ o)
      have hr1 := fun o => cell_keep hx.2.1 (ext_alloc1 _ o)
      have hr2 := fun o => cell_keep hx.2.2 (ext_alloc1 _ o)
      go_wp2_with fail
      clear hz0 hz1 hz2 hzf
      refine bodyPost_ret (v := .tuple #[.agg #[.slice none 0 0, .int .i64 0, .int .i64 0], .int .i64 8]) (by simp [results, Tryz.results149, go_sem, hr0, hr1, hr2]) rfl (ICodeP.no HG.out (by decide) ?_)
      repeat (first | refine ext_alloc ?_ _ | refine ext_set ?_ (by simp; try omega) _)
      exact HW.out

end Go.Proofs.YtfgopboddkhckaaGreatDoor
namespace Go.Proofs.YtfgopboddkhckaaGreatDoor
open Go.ChangeShapes Go.WideShapes Go.ChangeAt Go.RowKit Go.Sort Go.Joins
set_option linter.unusedVariables false
set_option maxRecDepth 100000

def vDK (d : DK) : Bool := vF d.f && vB d.nm d.cs && (decide (d.wall.length = 0) || vW d.wall) && decide (lgC d.log = 0)
theorem sm_wall {d : DK} (h : SmDK d) : SmWall d.wall := fun k hk => by
  have h1 := totStr_succ hk
  have h2 := totStr_le d.wall (k + 1)
  unfold SmDK totDK at h
  omega
theorem sm_lenDK {d : DK} (h : SmDK d) : LenDK d := by
  have hw := sm_wall h
  have hc : SmCOS d.cs := by unfold SmDK totDK at h; unfold SmCOS; omega
  have h0 := h
  unfold SmDK totDK at h
  refine ⟨by unfold maxLen; omega, ⟨by unfold maxLen; omega, fun o ho => ?_⟩, ⟨by unfold maxLen; omega, fun o ho => ?_⟩, by unfold maxLen; omega⟩
  · obtain ⟨k, hk, rfl⟩ := List.mem_iff_getElem.1 ho
    have := hc.one hk
    rw [gd_eq hk] at this
    unfold SmCO at this
    exact ⟨by unfold maxLen; omega, by unfold maxLen; omega⟩
  · obtain ⟨k, hk, rfl⟩ := List.mem_iff_getElem.1 ho
    have := hw k hk
    rw [gd_eq hk] at this
    unfold maxLen; omega
/-- A state's eight cells in a box. -/
structure PDK (w : World) (p : Nat) (d : DK) (A : Option Addr) (c : Nat) (B : Option Addr) (e : Nat) : Prop where
  k0 : w.cell? ⟨p, 0, none⟩ = some (.int .i64 d.f.l)
  k1 : w.cell? ⟨p, 1, none⟩ = some (.int .i64 d.f.w)
  k2 : w.cell? ⟨p, 2, none⟩ = some (.int .i64 d.f.h)
  k3 : w.cell? ⟨p, 3, none⟩ = some (.int .i64 d.f.j)
  k4 : w.cell? ⟨p, 4, none⟩ = some (.string d.nm)
  k5 : w.cell? ⟨p, 5, none⟩ = some (.slice A d.cs.length c)
  k6 : w.cell? ⟨p, 6, none⟩ = some (.slice B d.wall.length e)
  k7 : w.cell? ⟨p, 7, none⟩ = some (.string d.log)
theorem PDK.ext {w w' : World} {p : Nat} {d : DK} {A : Option Addr} {c : Nat} {B : Option Addr} {e : Nat} (h : PDK w p d A c B e) (hb : Below w.heap.size w w') : PDK w' p d A c B e :=
  ⟨cell_keep h.k0 hb, cell_keep h.k1 hb, cell_keep h.k2 hb, cell_keep h.k3 hb, cell_keep h.k4 hb, cell_keep h.k5 hb, cell_keep h.k6 hb, cell_keep h.k7 hb⟩
theorem PDK.new (w : World) (d : DK) (A : Option Addr) (c : Nat) (B : Option Addr) (e : Nat) (T : TypeId) : PDK (w.alloc (.cells #[.int .i64 d.f.l, .int .i64 d.f.w, .int .i64 d.f.h, .int .i64 d.f.j, .string d.nm, .slice A d.cs.length c, .slice B d.wall.length e, .string d.log] T)) w.heap.size d A c B e :=
  ⟨by simp [go_sem], by simp [go_sem], by simp [go_sem], by simp [go_sem], by simp [go_sem], by simp [go_sem], by simp [go_sem], by simp [go_sem]⟩
set_option maxHeartbeats 800000 in
theorem impl_isLog (s : ByteArray) (hs : s.size ≤ 1048576) (w : World) (hE : Env w) :
    Calls Tryz.prog 80 #[.string s] w (Ret (.bool (decide (lgC s = 0))) w) := by
  have HC := Lib.hid (impl_logCode s hs w hE)
  clear hE
  go_enter Tryz.func80, Tryz.ntmps80
  go_wp2_with fail
  refine (show Calls _ _ _ _ _ from HC.out).mono ?_
  rintro e w1 ⟨A, c, rfl, _, hb⟩
  have HB := Lib.hid hb
  clear hb
  generalize lgC s = z at *
  go_wp2_with fail
  go_ret
  exact ⟨ret_bool (by by_cases h : z = 0 <;> simp [h]), ext_alloc HB.out _⟩
set_option maxHeartbeats 3200000 in
theorem spec_okD (p : Nat) (d : DK) (A : Option Addr) (c : Nat) (B : Option Addr) (e : Nat) (w : World) (hP : PDK w p d A c B e) (hcs : RCOS w (.slice A d.cs.length c) d.cs) (hwl : RStr w (.slice B d.wall.length e) d.wall) (hsm : SmDK d) :
    Calls Tryz.prog 32 #[.pointer (some ⟨p, 0, none⟩)] w (Ret (.bool (vDK d)) w) := by
  obtain ⟨l1, l2, l3, l4⟩ := sm_lenDK hsm
  have HLG : Hid (d.log.size ≤ 1048576) := Lib.hid (by unfold SmDK totDK at hsm; omega)
  have HSW := Lib.hid (sm_wall hsm)
  have HP := Lib.hid hP
  have HC := Lib.hid hcs
  have HW := Lib.hid hwl
  have HF := Lib.hid (fun w => spec_okF d.f w)
  have HB : Hid (∀ w h h0 h1, Calls Tryz.prog 74 #[.pointer (some ⟨p, 4, none⟩)] w (Ret (.bool (vB d.nm d.cs)) w)) := Lib.hid (fun w h h0 h1 => spec_okB p 4 A c d.nm d.cs w l1 l2 h h0 h1)
  have HX := Lib.hid (fun w h => spec_okW B e d.wall w h HSW.out)
  have HV : Hid (vDK d = (vF d.f && vB d.nm d.cs && (decide (d.wall.length = 0) || vW d.wall) && decide (lgC d.log = 0))) := Lib.hid rfl
  have HG := Lib.hid (fun w => spec_Code d.log HLG.out w)
  obtain ⟨x1, h1⟩ : ∃ x, vF d.f = x := ⟨_, rfl⟩
  obtain ⟨x2, h2⟩ : ∃ x, vB d.nm d.cs = x := ⟨_, rfl⟩
  obtain ⟨x3, h3⟩ : ∃ x, vW d.wall = x := ⟨_, rfl⟩
  rw [h1, h2, h3] at HV
  rw [h1] at HF
  rw [h2] at HB
  rw [h3] at HX
  clear h1 h2 h3 hP hcs hwl hsm l1 l2 l3 l4
  obtain ⟨k0, k1, k2, k3, k4, k5, k6, k7⟩ := HP.out
  go_enter Tryz.func32, Tryz.ntmps32
  go_wp2_with fail
  refine (show Calls _ _ _ _ _ from HG.out _).mono ?_
  rintro e' w1 ⟨g, A', c', rfl, _, hb⟩
  replace HP := Lib.hid (HP.out.ext hb)
  replace HC := Lib.hid (HC.out.ext hb)
  replace HW := Lib.hid (HW.out.ext hb)
  have HB1 := Lib.hid hb
  clear hb k0 k1 k2 k3 k4 k5 k6 k7
  obtain ⟨k0, k1, k2, k3, k4, k5, k6, k7⟩ := HP.out
  obtain ⟨z, hz⟩ : ∃ z, lgC d.log = z := ⟨_, rfl⟩
  rw [hz] at HV
  rw [hz]
  clear hz
  go_wp2_with fail
  refine (show Calls _ _ _ _ _ from HF.out _).mono ?_
  rintro e' w2 ⟨rfl, hb⟩
  replace HP := Lib.hid (HP.out.ext hb)
  replace HC := Lib.hid (HC.out.ext hb)
  replace HW := Lib.hid (HW.out.ext hb)
  replace HB1 := Lib.hid (ext_trans HB1.out hb)
  clear hb k0 k1 k2 k3 k4 k5 k6 k7
  obtain ⟨k0, k1, k2, k3, k4, k5, k6, k7⟩ := HP.out
  cases x1
  · go_wp2_with fail
    go_ret
    exact ⟨ret_bool (by rw [HV.out]; rfl), HB1.out⟩
  go_wp2_with fail
  refine (show Calls _ _ _ _ _ from HB.out _ HC.out k4 k5).mono ?_
  rintro e' w3 ⟨rfl, hb⟩
  replace HP := Lib.hid (HP.out.ext hb)
  replace HW := Lib.hid (HW.out.ext hb)
  replace HB1 := Lib.hid (ext_trans HB1.out hb)
  clear hb k0 k1 k2 k3 k4 k5 k6 k7
  obtain ⟨k0, k1, k2, k3, k4, k5, k6, k7⟩ := HP.out
  cases x2
  · go_wp2_with fail
    go_ret
    exact ⟨ret_bool (by rw [HV.out]; rfl), HB1.out⟩
  by_cases hw0 : d.wall.length = 0
  · have e0 : ((d.wall.length : Int) == 0) = true := by rw [hw0]; rfl
    have HV2 : Hid (vDK d = decide (z = 0)) := Lib.hid (by rw [HV.out, decide_eq_true hw0]; simp)
    clear hw0
    go_wp2_with fail
    go_ret
    exact ⟨ret_bool (by rw [HV2.out]; by_cases h : z = 0 <;> simp [h]), HB1.out⟩
  · have e0 : ((d.wall.length : Int) == 0) = false := beq_eq_false_iff_ne.2 (by omega)
    have HV2 : Hid (vDK d = (x3 && decide (z = 0))) := Lib.hid (by rw [HV.out, decide_eq_false hw0]; simp)
    clear hw0
    go_wp2_with fail
    refine (show Calls _ _ _ _ _ from HX.out _ HW.out).mono ?_
    rintro e' w4 ⟨rfl, hb⟩
    replace HB1 := Lib.hid (ext_trans HB1.out hb)
    clear hb
    cases x3
    · go_wp2_with fail
      go_ret
      exact ⟨ret_bool (by rw [HV2.out]; rfl), HB1.out⟩
    · go_wp2_with fail
      go_ret
      exact ⟨ret_bool (by rw [HV2.out]; by_cases h : z = 0 <;> simp [h]), HB1.out⟩
theorem spec_ValidDesk (v : Value) (d : DK) (w : World) (ha : RDK w v d) (hsm : SmDK d) (_ : Env w) :
    Calls Tryz.prog 21 #[v] w (Ret (.bool (vDK d)) w) := by
  obtain ⟨A, c, B, e, rfl, hcs, hwl⟩ := ha
  have HC := Lib.hid hcs
  have HW := Lib.hid hwl
  clear hcs hwl
  go_enter Tryz.func21, Tryz.ntmps21
  go_wp2_with fail
  refine (spec_okD _ d A c B e _ (PDK.new w d A c B e _) (HC.out.alloc _) (HW.out.alloc _) hsm).mono ?_
  rintro e' w1 ⟨rfl, hb⟩
  go_wp2_with fail
  go_ret
  exact ⟨rfl, ext_trans (ext_alloc1 _ _) hb⟩
set_option maxHeartbeats 3200000 in
theorem impl_ValidDesk (v : Value) (d : DK) (w : World) (ha : RDK w v d) (hsm : SmDK d) (hE : Env w) :
    Calls Tryz.prog 38 #[v] w (Ret (.bool (vDK d)) w) := by
  obtain ⟨A, c, B, e, rfl, hcs, hwl⟩ := ha
  obtain ⟨l1, l2, l3, l4⟩ := sm_lenDK hsm
  have HLG : Hid (d.log.size ≤ 1048576) := Lib.hid (by unfold SmDK totDK at hsm; omega)
  have HSW := Lib.hid (sm_wall hsm)
  have HEV : Hid (∀ W', Below w.heap.size w W' → Env W') := Lib.hid fun W' h => hE.ext h
  have HC := Lib.hid hcs
  have HW := Lib.hid hwl
  have HF := Lib.hid (fun w => impl_okF d.f w)
  have HB := Lib.hid (fun w h => impl_ValidBond A c d.nm d.cs w l1 l2 h)
  have HX := Lib.hid (fun w h => impl_okW B e d.wall w h HSW.out)
  have HV : Hid (vDK d = (vF d.f && vB d.nm d.cs && (decide (d.wall.length = 0) || vW d.wall) && decide (lgC d.log = 0))) := Lib.hid rfl
  have HG := Lib.hid (fun w h => impl_isLog d.log HLG.out w h)
  obtain ⟨x1, h1⟩ : ∃ x, vF d.f = x := ⟨_, rfl⟩
  obtain ⟨x2, h2⟩ : ∃ x, vB d.nm d.cs = x := ⟨_, rfl⟩
  obtain ⟨x3, h3⟩ : ∃ x, vW d.wall = x := ⟨_, rfl⟩
  obtain ⟨x4, h4⟩ : ∃ x, decide (lgC d.log = 0) = x := ⟨_, rfl⟩
  rw [h1, h2, h3, h4] at HV
  rw [h1] at HF
  rw [h2] at HB
  rw [h3] at HX
  rw [h4] at HG
  clear h1 h2 h3 h4 hcs hwl hsm l1 l2 l3 l4 hE
  go_enter Tryz.func38, Tryz.ntmps38
  go_wp2_with fail
  have HP := Lib.hid (PDK.new w d A c B e 38)
  refine (show Calls _ _ _ _ _ from HF.out _).mono ?_
  rintro e' w2 ⟨rfl, hb⟩
  replace HP := Lib.hid (HP.out.ext hb)
  have HB1 := Lib.hid (ext_trans (ext_alloc1 _ _) hb)
  clear hb
  obtain ⟨k0, k1, k2, k3, k4, k5, k6, k7⟩ := HP.out
  cases x1
  · go_wp2_with fail
    go_ret
    exact ⟨ret_bool (by rw [HV.out]; rfl), HB1.out⟩
  go_wp2_with fail
  refine (show Calls _ _ _ _ _ from HB.out _ (HC.out.ext HB1.out)).mono ?_
  rintro e' w3 ⟨rfl, hb⟩
  replace HP := Lib.hid (HP.out.ext hb)
  replace HB1 := Lib.hid (ext_trans HB1.out hb)
  clear hb k0 k1 k2 k3 k4 k5 k6 k7
  obtain ⟨k0, k1, k2, k3, k4, k5, k6, k7⟩ := HP.out
  cases x2
  · go_wp2_with fail
    go_ret
    exact ⟨ret_bool (by rw [HV.out]; rfl), HB1.out⟩
  by_cases hw0 : d.wall.length = 0
  · have e0 : ((d.wall.length : Int) == 0) = true := by rw [hw0]; rfl
    have HV2 : Hid (vDK d = x4) := Lib.hid (by rw [HV.out, decide_eq_true hw0]; simp)
    clear hw0
    go_wp2_with fail
    refine (show Calls _ _ _ _ _ from HG.out _ (HEV.out _ HB1.out)).mono ?_
    rintro e' w4 ⟨rfl, hb⟩
    replace HB1 := Lib.hid (ext_trans HB1.out hb)
    clear hb
    go_wp2_with fail
    go_ret
    exact ⟨ret_bool HV2.out.symm, HB1.out⟩
  · have e0 : ((d.wall.length : Int) == 0) = false := beq_eq_false_iff_ne.2 (by omega)
    have HV2 : Hid (vDK d = (x3 && x4)) := Lib.hid (by rw [HV.out, decide_eq_false hw0]; simp)
    clear hw0
    go_wp2_with fail
    refine (show Calls _ _ _ _ _ from HX.out _ (HW.out.ext HB1.out)).mono ?_
    rintro e' w4 ⟨rfl, hb⟩
    replace HP := Lib.hid (HP.out.ext hb)
    replace HB1 := Lib.hid (ext_trans HB1.out hb)
    clear hb k0 k1 k2 k3 k4 k5 k6 k7
    obtain ⟨k0, k1, k2, k3, k4, k5, k6, k7⟩ := HP.out
    cases x3
    · go_wp2_with fail
      go_ret
      exact ⟨ret_bool (by rw [HV2.out]; rfl), HB1.out⟩
    · go_wp2_with fail
      refine (show Calls _ _ _ _ _ from HG.out _ (HEV.out _ HB1.out)).mono ?_
      rintro e' w5 ⟨rfl, hb⟩
      replace HB1 := Lib.hid (ext_trans HB1.out hb)
      clear hb
      go_wp2_with fail
      go_ret
      exact ⟨ret_bool (by rw [HV2.out]; rfl), HB1.out⟩
/-- A valid state's text. -/
def dkT (d : DK) : ByteArray := d.nm ++ ⟨#[32]⟩ ++ itb d.wall.length ++ ⟨#[32, 99, 111, 117, 114, 115, 101, 115]⟩
def mDeskText (d : DK) : ByteArray := bif vDK d then dkT d else ⟨#[]⟩
theorem vDK_sizes {d : DK} (h : vDK d = true) : d.nm.size ≤ 12 ∧ d.wall.length ≤ 40 ∧ d.cs.length ≤ 8 ∧ d.log.size ≤ 4000 := by
  unfold vDK at h
  simp only [Bool.and_eq_true, Bool.or_eq_true, decide_eq_true_eq] at h
  obtain ⟨⟨⟨h1, h2⟩, h3⟩, h4⟩ := h
  have hb : d.nm.size ≤ 12 ∧ d.cs.length ≤ 8 := by
    unfold vB at h2
    simp only [Bool.and_eq_true] at h2
    have h5 := inB_iff.1 h2.1.2
    have h6 := h2.1.1
    unfold isN at h6
    simp only [Bool.and_eq_true, decide_eq_true_eq] at h6
    omega
  have hw : d.wall.length ≤ 40 := by
    rcases h3 with h3 | h3
    · omega
    · unfold vW at h3
      simp only [Bool.and_eq_true] at h3
      have h5 := inB_iff.1 h3.1
      omega
  refine ⟨hb.1, hw, hb.2, ?_⟩
  unfold lgC at h4
  split at h4
  · cases h4
  · omega
set_option maxHeartbeats 1600000 in
theorem impl_DeskText (v : Value) (d : DK) (w : World) (ha : RDK w v d) (hsm : SmDK d) (hE : Env w) :
    Calls Tryz.prog 22 #[v] w (Ret (.string (mDeskText d)) w) := by
  obtain ⟨A, c, B, e, rfl, hcs, hwl⟩ := ha
  have HEV : Hid (∀ W', Below w.heap.size w W' → Env W') := Lib.hid fun W' h => hE.ext h
  have HC := Lib.hid (impl_ValidDesk (.agg #[.int .i64 d.f.l, .int .i64 d.f.w, .int .i64 d.f.h, .int .i64 d.f.j, .string d.nm, .slice A d.cs.length c, .slice B d.wall.length e, .string d.log]) d _ ⟨A, c, B, e, rfl, hcs.alloc (.cells #[.int .i64 d.f.l, .int .i64 d.f.w, .int .i64 d.f.h, .int .i64 d.f.j, .string d.nm, .slice A d.cs.length c, .slice B d.wall.length e, .string d.log] 38), hwl.alloc _⟩ hsm (hE.ext (ext_alloc1 _ _)))
  have HM : Hid (mDeskText d = bif vDK d then dkT d else ⟨#[]⟩) := Lib.hid rfl
  have HP := Lib.hid (PDK.new w d A c B e 38)
  obtain ⟨x, hx⟩ : ∃ x, vDK d = x := ⟨_, rfl⟩
  have HX := Lib.hid hx
  rw [hx] at HC HM
  clear hcs hwl hsm hx hE
  go_enter Tryz.func22, Tryz.ntmps22
  go_wp2_with fail
  refine (show Calls _ _ _ _ _ from HC.out).mono ?_
  rintro e' w1 ⟨rfl, hb⟩
  have HB1 := Lib.hid (ext_trans (ext_alloc1 _ _) hb)
  replace HP := Lib.hid (HP.out.ext hb)
  clear hb
  cases x
  · go_wp2_with fail
    go_ret
    exact ⟨by rw [HM.out]; rfl, HB1.out⟩
  · obtain ⟨hs1, hs2, _, _⟩ := vDK_sizes HX.out
    have hz := itb_size d.wall.length (by omega) (by omega)
    have HT : Hid (dkT d = d.nm ++ ⟨#[32]⟩ ++ itb d.wall.length ++ ⟨#[32, 99, 111, 117, 114, 115, 101, 115]⟩) := Lib.hid rfl
    have HD : Hid (∀ x os, Calls Tryz.prog 54 #[.int .i64 (d.wall.length : Int)] (grow (redrawn w1 x) os) (Ret (.string (itb d.wall.length)) (grow (redrawn w1 x) os))) := Lib.hid fun x os => impl_Dec _ (by omega) (by omega) _ (HEV.out _ (ext_trans HB1.out (below_regrown w1 x os))).lay
    have c1 : ¬ 9223372036854775807 < d.nm.size + 1 := by omega
    have c2 : ¬ 9223372036854775807 < d.nm.size + 1 + (itb d.wall.length).size := by omega
    have c3 : ¬ 9223372036854775807 < d.nm.size + 1 + (itb d.wall.length).size + 8 := by omega
    have g4 := fun x os => cell_regrown HP.out.k4 x os
    have g6 := fun x os => cell_regrown HP.out.k6 x os
    clear hs1 hz
    go_wp2_with fail
    refine wp_region_quiet_below (by kernel_rfl) (by kernel_rfl) ?_
    repeat (go_big_quiet_step ((go_at_call 54; exact regrown_r (HD.out _ _))))
    refine wpQuiet_nil ?_
    intro w' hw'
    obtain ⟨q, rfl⟩ := hw'
    go_wp2_with fail
    go_ret
    exact ⟨by rw [HM.out, HT.out]; rfl, ext_trans HB1.out (below_regrown w1 q.d q.os)⟩
end Go.Proofs.YtfgopboddkhckaaGreatDoor
namespace Go.Proofs.YtfgopboddkhckaaGreatDoor
open Go.ChangeShapes Go.WideShapes Go.ChangeAt Go.RowKit Go.Sort
set_option linter.unusedVariables false
set_option maxRecDepth 100000
attribute [local go_sem ↓] Go.wp_at_zero Go.wp_at_succ

def lwC (s what : ByteArray) : Int := if lgC s = 0 then (bif isN what then 0 else 2) else lgC s
theorem lwC_no {s what : ByteArray} (h : lgC s ≠ 0) : lwC s what = lgC s := by unfold lwC; rw [if_neg h]
theorem lwC_yes {s what : ByteArray} (h : lgC s = 0) : lwC s what = bif isN what then 0 else 2 := by unfold lwC; rw [if_pos h]
end Go.Proofs.YtfgopboddkhckaaGreatDoor
namespace Go.Proofs.YtfgopboddkhckaaGreatDoor
open Go.ChangeShapes Go.WideShapes Go.ChangeAt Go.RowKit Go.Sort
set_option linter.unusedVariables false
set_option maxRecDepth 100000
attribute [local go_sem ↓] Go.wp_at_zero Go.wp_at_succ

/-- The values of the entries with a name. -/
def valK (es : List EN) (what : ByteArray) (k : Nat) : List Int := ((es.take k).filter fun e => decide (e.what = what)).map (·.val)
theorem valK_yes {es : List EN} {what : ByteArray} {k : Nat} (hk : k < es.length) (h : (gd es k).what = what) : valK es what (k + 1) = valK es what k ++ [(gd es k).val] := by
  unfold valK; rw [take_gd hk, List.filter_append]; simp [h]
theorem valK_no {es : List EN} {what : ByteArray} {k : Nat} (hk : k < es.length) (h : (gd es k).what ≠ what) : valK es what (k + 1) = valK es what k := by
  unfold valK; rw [take_gd hk, List.filter_append]; simp [h]
theorem valK_len (es : List EN) (what : ByteArray) (k : Nat) : (valK es what k).length ≤ k := by
  unfold valK
  rw [List.length_map]
  refine Nat.le_trans (List.length_filter_le _ _) ?_
  exact List.length_take_le _ _
def mValuesOf (s what : ByteArray) : List Int × Int := if lwC s what = 0 then (valK (lgE s) what (lgE s).length, 0) else ([], lwC s what)
/-- The result of a function that returns numbers and a code. -/
def RetI (M : List Int) (code : Int) (w : World) : Ending → World → Prop := fun e w' => ∃ v, e = .returned (.tuple #[v, .int .i64 code]) ∧ OI w' w.heap.size v M ∧ SmI M ∧ Below w.heap.size w w'
theorem RetI.no {w w' : World} {code : Int} (hb : Below w.heap.size w w') : RetI [] code w (.returned (.tuple #[.slice none 0 0, .int .i64 code])) w' := ⟨_, rfl, World.ownsRow_nil _ _ _ _, by simp [SmI], hb⟩
theorem oi_lit (w : World) (B : Nat) (h : B ≤ w.heap.size) : OI (w.alloc (.cells #[] 2)) B (.slice (some ⟨w.heap.size, 0, none⟩) 0 0) [] :=
  World.ownsRow_lit _ #[] 0 h (by simp [maxLen]) (by simp)

set_option maxHeartbeats 3200000 in
theorem impl_ValuesOf (s what : ByteArray) (w : World) (hs : s.size ≤ 1048576) (hw : what.size ≤ 1048576) (hE : Env w) :
    Calls Tryz.prog 99 #[.string s, .string what] w (RetI (mValuesOf s what).1 (mValuesOf s what).2 w) := by
  have HC := Lib.hid (impl_logCode s hs w hE)
  have HN := Lib.hid (fun w => impl_IsName what (by unfold maxLen; omega) w)
  clear hE
  go_enter Tryz.func99, Tryz.ntmps99
  go_wp2_with fail
  refine (show Calls _ _ _ _ _ from HC.out).mono ?_
  rintro e w2 ⟨A, c, rfl, hO, hb⟩
  have HO0 := Lib.hid hO
  have HW := Lib.hid hb
  clear hO hb HC
  have hbx := box3 w2 (.slice A (lgE s).length c) (.int .i64 (lgS s)) (.int .i64 (lgN s)) 135 _ (ext_refl _)
  have hx0 := hbx.1
  clear hbx
  have hlen := lgE_len s
  by_cases h0 : lgC s = 0
  · have HG := Lib.hid (lwC_yes (what := what) h0)
    rw [h0]
    clear h0
    go_wp2_with fail
    refine (show Calls _ _ _ _ _ from HN.out _).mono ?_
    rintro e w3 ⟨rfl, rfl⟩
    cases hn : isN what with
    | false =>
      have HM : Hid (mValuesOf s what = ([], 2)) := Lib.hid (by unfold mValuesOf; rw [HG.out, hn]; rfl)
      clear hn
      go_wp2_with fail
      go_ret2
      rw [HM.out]
      exact RetI.no (ext_alloc HW.out _)
    | true =>
    have HM : Hid (mValuesOf s what = (valK (lgE s) what (lgE s).length, 0)) := Lib.hid (by unfold mValuesOf; rw [HG.out, hn]; rfl)
    have HA := Lib.hid HO0.out.rd
    clear hn
    obtain ⟨es, hes⟩ : ∃ es, lgE s = es := ⟨_, rfl⟩
    rw [hes] at hx0 HA hlen HM ⊢
    clear hes HO0
    have hx1 := fun o => cell_keep hx0 (ext_alloc1 _ o)
    go_wp2_with fail
    clear hx1 hx0
    go_loopw [8, 30] (fun u i wr => ∃ (k : Nat) (l : List Int) (B : Option Addr) (cp : Nat), k ≤ es.length ∧ i = .int .i64 k ∧ u = .slice B l.length cp ∧ Hid (valK es what k = l) ∧ l.length ≤ k ∧ Hid (OI wr w2.heap.size (.slice B l.length cp) l) ∧ Hid (Below w2.heap.size w2 wr)) (fun _ i _ => es.length - (intOf i).toNat)
    case atStart =>
      refine ⟨0, [], some ⟨w2.heap.size + 1, 0, none⟩, 0, Nat.zero_le _, rfl, rfl, Lib.hid rfl, Nat.le_refl _, Lib.hid ?_, Lib.hid (ext_alloc (ext_alloc1 _ _) _)⟩
      have h := oi_lit (w2.alloc (.cells #[.slice A es.length c, .int .i64 (lgS s), .int .i64 (lgN s)] 135)) w2.heap.size (by simp)
      simp only [World.size_alloc] at h
      exact h
    case round =>
      obtain ⟨k, l, B, cp, hk, rfl, rfl, HV, hlk, HO, HB⟩ := hrel
      have e1 : (0 : Int) ≤ k := by omega
      have hsz := HB.out.size
      by_cases hlt : k < es.length
      · have e2 : (k : Int) < es.length := by omega
        obtain ⟨ad, rfl, _, hc⟩ := (HA.out.ext HB.out).at hlt
        obtain ⟨p0, p1, p2⟩ := hc k hlt
        clear hc
        by_cases hq : (gd es k).what = what
        · have HS : Hid (valK es what (k + 1) = l ++ [(gd es k).val]) := Lib.hid (by rw [valK_yes hlt hq, HV.out])
          have HQ := Lib.hid hq
          rw [hq] at p1
          clear hq
          have hO3 := Lib.hid (fun o => HO.out.ext (ext_alloc1 wr o))
          go_wp2_with (at_builtin; refine wpList_append_i rfl _ _ rfl w2.heap.size (.slice B l.length cp) l (gd es k).val rfl (by simp [Act.eval]) (hO3.out _) (by omega) (by simp; omega) ?_; intro g2 cap w4 hO4 hg4 hlt4)
          go_roundw
          case rel => exact ⟨k + 1, l ++ [(gd es k).val], some ⟨g2, 0, none⟩, cap, by omega, by go_num, by rw [List.length_append]; rfl, HS.out, by rw [List.length_append]; simp; omega, Lib.hid (by rw [List.length_append]; exact hO4), Lib.hid (Chg.ext (ext_alloc HB.out _) hg4 (fun j hj => (HO.out.ge j hj).1))⟩
          case measure => simp [intOf]; omega
        · have hst := str_ne hq
          have HS : Hid (valK es what (k + 1) = l) := Lib.hid (by rw [valK_no hlt hq, HV.out])
          clear hq
          go_wp2_with fail
          go_roundw
          case rel => exact ⟨k + 1, l, B, cp, by omega, by go_num, rfl, HS.out, by omega, Lib.hid (HO.out.ext (ext_alloc1 _ _)), Lib.hid (ext_alloc HB.out _)⟩
          case measure => simp [intOf]; omega
      · obtain rfl : k = es.length := by omega
        go_wp2_with fail
        go_ret2
        unfold RetI
        rw [HM.out, HV.out]
        exact ⟨.slice B l.length cp, rfl, HO.out.mono HW.out.size, (show l.length ≤ 1048576 by omega), ext_trans HW.out HB.out⟩
  · have HM : Hid (mValuesOf s what = ([], lgC s)) := Lib.hid (by unfold mValuesOf; rw [lwC_no h0, if_neg h0])
    have e1 : (lgC s == 0) = false := by simpa using h0
    have e2 : (lgC s != 0) = true := by simpa using h0
    clear h0
    go_wp2_with fail
    go_ret2
    rw [HM.out]
    exact RetI.no (ext_alloc HW.out _)
end Go.Proofs.YtfgopboddkhckaaGreatDoor
namespace Go.Proofs.YtfgopboddkhckaaGreatDoor
open Go.ChangeShapes Go.WideShapes Go.ChangeAt Go.RowKit Go.Sort
set_option linter.unusedVariables false
set_option maxRecDepth 100000
attribute [local go_sem ↓] Go.wp_at_zero Go.wp_at_succ

def mAdded (s : ByteArray) (es : List EN) (st : Int) (o : EN) : ByteArray × Int :=
  bif vEn o then (if o.day < lday es then (⟨#[]⟩, 6) else if 4000 < s.size + (lnb (stpb st (wrb o)) o).size then (⟨#[]⟩, 5) else (s ++ lnb (stpb st (wrb o)) o, 0)) else (⟨#[]⟩, 7)
def mAddEntry (s : ByteArray) (o : EN) : ByteArray × Int := if lgC s = 0 then mAdded s (lgE s) (lgS s) o else (⟨#[]⟩, lgC s)
theorem lgS_bd (s : ByteArray) : 0 ≤ lgS s ∧ lgS s ≤ 65518 := by
  by_cases h : lgC s = 0
  · rw [(lg_yes h).2.1]; exact (rdLog_le s).2.2
  · rw [(lg_no h).2.1]; omega

theorem add_eq (s : ByteArray) (st : Int) (o : EN) : s ++ (wrb o ++ ⟨#[32]⟩ ++ itb (stpb st (wrb o)) ++ ⟨#[10]⟩) = s ++ lnb (stpb st (wrb o)) o := by rw [lnb_eq]
set_option maxHeartbeats 6400000 in
theorem impl_added (s : ByteArray) (es : List EN) (st n : Int) (A : Option Addr) (c : Nat) (o : EN) (w : World) (hs : s.size ≤ 1048576) (hR : RENS w (.slice A es.length c) es) (hlen : es.length ≤ 4000) (hst : 0 ≤ st ∧ st ≤ 65518) (ho : LenEN o) (hL : LayF w) :
    Calls Tryz.prog 166 #[.string s, .agg #[.slice A es.length c, .int .i64 st, .int .i64 n], .agg #[.int .i64 o.day, .string o.what, .int .i64 o.val]] w (Ret (.tuple #[.string (mAdded s es st o).1, .int .i64 (mAdded s es st o).2]) w) := by
  have HOK := Lib.hid (fun w => impl_okEn (.agg #[.int .i64 o.day, .string o.what, .int .i64 o.val]) o w ho rfl)
  have HLL := Lib.hid hL
  have HRR := Lib.hid hR
  have HBX := Lib.hid (fun W' h => box3 w (.slice A es.length c) (.int .i64 st) (.int .i64 n) 135 W' h)
  have HBE := Lib.hid (pEN_box (w.alloc (.cells #[.slice A es.length c, .int .i64 st, .int .i64 n] 135)) o 130)
  clear ho hL hR
  go_enter Tryz.func166, Tryz.ntmps166
  go_wp2_with fail
  refine (show Calls _ _ _ _ _ from HOK.out _).mono ?_
  rintro e w1 ⟨rfl, hb1⟩
  have HW : Hid (Below w.heap.size w w1) := Lib.hid (ext_trans (ext_alloc (ext_alloc1 _ _) _) hb1)
  have hbx := HBX.out w1 (ext_trans (ext_alloc1 _ _) hb1)
  have HX0 := Lib.hid hbx.1
  have HX1 := Lib.hid hbx.2.1
  have HPE : Hid (PEN w1 ⟨w.heap.size + 1, 0, none⟩ o) := Lib.hid (by
    have h := HBE.out.ext hb1
    simp only [World.size_alloc] at h
    exact h)
  have HA := Lib.hid (HRR.out.ext HW.out)
  clear hbx hb1 HBX HBE HRR
  cases hv : vEn o with
  | false =>
    have HF : Hid (mAdded s es st o = (⟨#[]⟩, 7)) := Lib.hid (by unfold mAdded; rw [hv]; rfl)
    clear hv
    go_wp2_with fail
    go_ret2
    rw [HF.out]
    exact ⟨rfl, HW.out⟩
  | true =>
  have HV := Lib.hid hv
  have hday := (vEn_iff.1 hv).1
  clear hv
  have x0 := fun d os => cell_regrown (d := d) (os := os) HX0.out
  have p0 := fun d os => cell_regrown (d := d) (os := os) HPE.out.1
  by_cases h0 : es.length = 0
  · have hes0 : es = [] := List.eq_nil_of_length_eq_zero h0
    subst hes0
    have HDN : Hid (lday ([] : List EN) ≤ o.day) := Lib.hid hday.1
    clear hday h0
    go_wp2_with fail
    refine wp_region_quiet_below (by kernel_rfl) (by kernel_rfl) ?_
    repeat (go_big_quiet_step (fail))
    refine wpQuiet_nil ?_
    intro w' hw'
    obtain ⟨p, rfl⟩ := hw'
    clear x0 p0
    replace HW := Lib.hid (ext_trans HW.out (below_regrown w1 p.d p.os))
    replace HPE := Lib.hid (HPE.out.ext (below_regrown w1 p.d p.os))
    replace HX1 := Lib.hid (cell_keep HX1.out (below_regrown w1 p.d p.os))
    generalize grow (redrawn w1 p.d) p.os = w5 at *
    have hs2 := stpb_bd st (wrb o)
    have HWD : Hid (∀ d os, Calls Tryz.prog 102 #[.agg #[.int .i64 o.day, .string o.what, .int .i64 o.val]] (grow (redrawn w5 d) os) (Ret (.string (wrb o)) (grow (redrawn w5 d) os))) := Lib.hid fun d os => impl_words _ o _ HV.out rfl (HLL.out.ext (ext_trans HW.out (below_regrown _ _ _)))
    have HST : Hid (∀ d os, Calls Tryz.prog 168 #[.int .i64 st, .agg #[.int .i64 o.day, .string o.what, .int .i64 o.val]] (grow (redrawn w5 d) os) (Ret (.int .i64 (stpb st (wrb o))) (grow (redrawn w5 d) os))) := Lib.hid fun d os => impl_stamp st _ o _ hst.1 hst.2 HV.out rfl (HLL.out.ext (ext_trans HW.out (below_regrown _ _ _)))
    have HDC : Hid (∀ d os, Calls Tryz.prog 54 #[.int .i64 (stpb st (wrb o))] (grow (redrawn w5 d) os) (Ret (.string (itb (stpb st (wrb o)))) (grow (redrawn w5 d) os))) := Lib.hid fun d os => impl_Dec _ (by omega) (by omega) _ (HLL.out.ext (ext_trans HW.out (below_regrown _ _ _)))
    have hll := lnb_size HV.out hs2.1 hs2.2
    have hw1 := wrb_size HV.out
    have hi1 := itb_size (stpb st (wrb o)) (by omega) (by omega)
    have x2 := fun d os => cell_regrown (d := d) (os := os) HX1.out
    have p0 := fun d os => cell_regrown (d := d) (os := os) HPE.out.1
    have p1 := fun d os => cell_regrown (d := d) (os := os) HPE.out.2.1
    have p2 := fun d os => cell_regrown (d := d) (os := os) HPE.out.2.2
    have HAE := Lib.hid (add_eq s st o)
    have HLZ : Hid ((lnb (stpb st (wrb o)) o).size = (wrb o).size + 1 + (itb (stpb st (wrb o))).size + 1) := Lib.hid (by rw [← lnb_eq]; simp [ByteArray.size_append]; rfl)
    obtain ⟨st2, hst2⟩ : ∃ st2, stpb st (wrb o) = st2 := ⟨_, rfl⟩
    have HS2 := Lib.hid hst2
    rw [hst2] at HDC HST hi1 HAE HLZ hll
    clear hst2 hs2
    have hc1 : ¬ 9223372036854775807 < (wrb o).size + 1 := by omega
    have hc2 : ¬ 9223372036854775807 < (wrb o).size + 1 + (itb st2).size := by omega
    have hc3 : ¬ 9223372036854775807 < (wrb o).size + 1 + (itb st2).size + 1 := by omega
    have hc4 : ¬ 9223372036854775807 < s.size + ((wrb o).size + 1 + (itb st2).size + 1) := by omega
    go_wp2_with fail
    refine wp_region_quiet_below (by kernel_rfl) (by kernel_rfl) ?_
    repeat (go_big_quiet_step ((first | (go_at_call 102; exact regrown_r (HWD.out _ _)) | (go_at_call 168; exact regrown_r (HST.out _ _)) | (go_at_call 54; exact regrown_r (HDC.out _ _)))))
    refine wpQuiet_nil ?_
    intro w' hw'
    obtain ⟨p, rfl⟩ := hw'
    replace HW := Lib.hid (ext_trans HW.out (below_regrown w5 p.d p.os))
    clear x2 p0 p1 p2 HWD HST HDC
    by_cases hbig : 4000 < s.size + ((wrb o).size + 1 + (itb st2).size + 1)
    · have HF : Hid (mAdded s ([] : List EN) st o = (⟨#[]⟩, 5)) := Lib.hid (by unfold mAdded; rw [HV.out, cond_true, if_neg (by have := HDN.out; omega), HS2.out, if_pos (by rw [HLZ.out]; exact hbig)])
      have f1 : (4000 : Int) < (s.size : Int) + (((wrb o).size : Int) + 1 + (itb st2).size + 1) := by omega
      go_wp2_with fail
      go_ret2
      rw [HF.out]
      exact ⟨rfl, HW.out⟩
    · have HF : Hid (mAdded s ([] : List EN) st o = (s ++ lnb st2 o, 0)) := Lib.hid (by unfold mAdded; rw [HV.out, cond_true, if_neg (by have := HDN.out; omega), HS2.out, if_neg (by rw [HLZ.out]; exact hbig)])
      have f1 : ¬ (4000 : Int) < (s.size : Int) + (((wrb o).size : Int) + 1 + (itb st2).size + 1) := by omega
      go_wp2_with fail
      go_ret2
      rw [HF.out, ← HAE.out]
      exact ⟨rfl, HW.out⟩
  · obtain ⟨j, hj⟩ : ∃ j, es.length = j + 1 := ⟨es.length - 1, by omega⟩
    have HLG : Hid (lday es = (gd es j).day) := Lib.hid (by rw [lday_get (by omega), hj]; rfl)
    obtain ⟨ad, rfl, _, hc⟩ := HA.out.at (show j < es.length by omega)
    have y0 := fun d os => cell_regrown (d := d) (os := os) (hc j (by omega)).1
    have f1 : (0 : Int) < (es.length : Int) := by omega
    have f8 : decide (0 < es.length) = true := decide_eq_true (by omega)
    have f9 : 0 < es.length := by omega
    have f2 : (es.length : Int) - 1 = j := by omega
    have f3 : (0 : Int) ≤ j := by omega
    have f4 : (j : Int) < (es.length : Int) := by omega
    have f5 : IntKind.i64.wrap (j : Int) = j := IntWalk.i64_in _ (by omega)
    have f6 : (j : Int).toNat = j := by omega
    clear hc h0 hj hday
    by_cases hd : o.day < (gd es j).day
    · have HF : Hid (mAdded s es st o = (⟨#[]⟩, 6)) := Lib.hid (by unfold mAdded; rw [HV.out, cond_true, if_pos (by rw [HLG.out]; exact hd)])
      have f7 : decide ((gd es j).day > o.day) = true := decide_eq_true hd
      clear hd
      go_wp2_with fail
      refine wp_region_quiet_below (by kernel_rfl) (by kernel_rfl) ?_
      repeat (go_big_quiet_step (fail))
      refine wpQuiet_nil ?_
      intro w' hw'
      obtain ⟨p, rfl⟩ := hw'
      go_wp2_with fail
      go_ret2
      rw [HF.out]
      exact ⟨rfl, ext_trans HW.out (below_regrown _ _ _)⟩
    have f7 : decide ((gd es j).day > o.day) = false := decide_eq_false hd
    have HDN : Hid (lday es ≤ o.day) := Lib.hid (by rw [HLG.out]; omega)
    clear hd
    go_wp2_with fail
    refine wp_region_quiet_below (by kernel_rfl) (by kernel_rfl) ?_
    repeat (go_big_quiet_step (fail))
    refine wpQuiet_nil ?_
    intro w' hw'
    obtain ⟨p, rfl⟩ := hw'
    clear x0 p0 y0 f1 f8 f9 f2 f3 f4 f5 f6 f7
    replace HW := Lib.hid (ext_trans HW.out (below_regrown w1 p.d p.os))
    replace HPE := Lib.hid (HPE.out.ext (below_regrown w1 p.d p.os))
    replace HX1 := Lib.hid (cell_keep HX1.out (below_regrown w1 p.d p.os))
    generalize grow (redrawn w1 p.d) p.os = w5 at *
    have hs2 := stpb_bd st (wrb o)
    have HWD : Hid (∀ d os, Calls Tryz.prog 102 #[.agg #[.int .i64 o.day, .string o.what, .int .i64 o.val]] (grow (redrawn w5 d) os) (Ret (.string (wrb o)) (grow (redrawn w5 d) os))) := Lib.hid fun d os => impl_words _ o _ HV.out rfl (HLL.out.ext (ext_trans HW.out (below_regrown _ _ _)))
    have HST : Hid (∀ d os, Calls Tryz.prog 168 #[.int .i64 st, .agg #[.int .i64 o.day, .string o.what, .int .i64 o.val]] (grow (redrawn w5 d) os) (Ret (.int .i64 (stpb st (wrb o))) (grow (redrawn w5 d) os))) := Lib.hid fun d os => impl_stamp st _ o _ hst.1 hst.2 HV.out rfl (HLL.out.ext (ext_trans HW.out (below_regrown _ _ _)))
    have HDC : Hid (∀ d os, Calls Tryz.prog 54 #[.int .i64 (stpb st (wrb o))] (grow (redrawn w5 d) os) (Ret (.string (itb (stpb st (wrb o)))) (grow (redrawn w5 d) os))) := Lib.hid fun d os => impl_Dec _ (by omega) (by omega) _ (HLL.out.ext (ext_trans HW.out (below_regrown _ _ _)))
    have hll := lnb_size HV.out hs2.1 hs2.2
    have hw1 := wrb_size HV.out
    have hi1 := itb_size (stpb st (wrb o)) (by omega) (by omega)
    have x2 := fun d os => cell_regrown (d := d) (os := os) HX1.out
    have p0 := fun d os => cell_regrown (d := d) (os := os) HPE.out.1
    have p1 := fun d os => cell_regrown (d := d) (os := os) HPE.out.2.1
    have p2 := fun d os => cell_regrown (d := d) (os := os) HPE.out.2.2
    have HAE := Lib.hid (add_eq s st o)
    have HLZ : Hid ((lnb (stpb st (wrb o)) o).size = (wrb o).size + 1 + (itb (stpb st (wrb o))).size + 1) := Lib.hid (by rw [← lnb_eq]; simp [ByteArray.size_append]; rfl)
    obtain ⟨st2, hst2⟩ : ∃ st2, stpb st (wrb o) = st2 := ⟨_, rfl⟩
    have HS2 := Lib.hid hst2
    rw [hst2] at HDC HST hi1 HAE HLZ hll
    clear hst2 hs2
    have hc1 : ¬ 9223372036854775807 < (wrb o).size + 1 := by omega
    have hc2 : ¬ 9223372036854775807 < (wrb o).size + 1 + (itb st2).size := by omega
    have hc3 : ¬ 9223372036854775807 < (wrb o).size + 1 + (itb st2).size + 1 := by omega
    have hc4 : ¬ 9223372036854775807 < s.size + ((wrb o).size + 1 + (itb st2).size + 1) := by omega
    go_wp2_with fail
    refine wp_region_quiet_below (by kernel_rfl) (by kernel_rfl) ?_
    repeat (go_big_quiet_step ((first | (go_at_call 102; exact regrown_r (HWD.out _ _)) | (go_at_call 168; exact regrown_r (HST.out _ _)) | (go_at_call 54; exact regrown_r (HDC.out _ _)))))
    refine wpQuiet_nil ?_
    intro w' hw'
    obtain ⟨p, rfl⟩ := hw'
    replace HW := Lib.hid (ext_trans HW.out (below_regrown w5 p.d p.os))
    clear x2 p0 p1 p2 HWD HST HDC
    by_cases hbig : 4000 < s.size + ((wrb o).size + 1 + (itb st2).size + 1)
    · have HF : Hid (mAdded s es st o = (⟨#[]⟩, 5)) := Lib.hid (by unfold mAdded; rw [HV.out, cond_true, if_neg (by have := HDN.out; omega), HS2.out, if_pos (by rw [HLZ.out]; exact hbig)])
      have f1 : (4000 : Int) < (s.size : Int) + (((wrb o).size : Int) + 1 + (itb st2).size + 1) := by omega
      go_wp2_with fail
      go_ret2
      rw [HF.out]
      exact ⟨rfl, HW.out⟩
    · have HF : Hid (mAdded s es st o = (s ++ lnb st2 o, 0)) := Lib.hid (by unfold mAdded; rw [HV.out, cond_true, if_neg (by have := HDN.out; omega), HS2.out, if_neg (by rw [HLZ.out]; exact hbig)])
      have f1 : ¬ (4000 : Int) < (s.size : Int) + (((wrb o).size : Int) + 1 + (itb st2).size + 1) := by omega
      go_wp2_with fail
      go_ret2
      rw [HF.out, ← HAE.out]
      exact ⟨rfl, HW.out⟩
set_option maxHeartbeats 3200000 in
theorem impl_AddEntry (s : ByteArray) (v : Value) (o : EN) (w : World) (hs : s.size ≤ 1048576) (ha : REN w v o) (hsm : SmEN o) (hE : Env w) :
    Calls Tryz.prog 98 #[.string s, v] w (Ret (.tuple #[.string (mAddEntry s o).1, .int .i64 (mAddEntry s o).2]) w) := by
  obtain rfl : v = _ := ha
  have HC := Lib.hid (impl_logCode s hs (w.alloc (.cells #[.int .i64 o.day, .string o.what, .int .i64 o.val] 130)) (hE.ext (ext_alloc1 _ _)))
  have HP := Lib.hid (pEN_box w o 130)
  have HSM := Lib.hid hsm
  have HLL := Lib.hid hE.lay
  clear hsm hE
  go_enter Tryz.func98, Tryz.ntmps98
  go_wp2_with fail
  refine (show Calls _ _ _ _ _ from HC.out).mono ?_
  rintro e w2 ⟨A, c, rfl, hO, hb⟩
  have HO := Lib.hid hO
  have HW : Hid (Below w.heap.size w w2) := Lib.hid (ext_trans (ext_alloc1 _ _) hb)
  replace HP := Lib.hid (HP.out.ext hb)
  clear hO hb HC
  by_cases h0 : lgC s = 0
  · have HM : Hid (mAddEntry s o = mAdded s (lgE s) (lgS s) o) := Lib.hid (by unfold mAddEntry; rw [if_pos h0])
    rw [h0]
    clear h0
    have hbx := box3 w2 (.slice A (lgE s).length c) (.int .i64 (lgS s)) (.int .i64 (lgN s)) 135 _ (ext_refl _)
    have q0 := hbx.1
    have q1 := hbx.2.1
    have q2 := hbx.2.2.1
    have hpp := HP.out.ext (ext_alloc1 w2 (.cells #[.slice A (lgE s).length c, .int .i64 (lgS s), .int .i64 (lgN s)] 135))
    have r0 := hpp.1
    have r1 := hpp.2.1
    have r2 := hpp.2.2
    simp only [Nat.zero_add] at r0 r1 r2
    have HCA : Hid (∀ o', Calls Tryz.prog 166 #[.string s, .agg #[.slice A (lgE s).length c, .int .i64 (lgS s), .int .i64 (lgN s)], .agg #[.int .i64 o.day, .string o.what, .int .i64 o.val]] (w2.alloc o') (Ret (.tuple #[.string (mAdded s (lgE s) (lgS s) o).1, .int .i64 (mAdded s (lgE s) (lgS s) o).2]) (w2.alloc o'))) := Lib.hid fun o' => impl_added s (lgE s) (lgS s) (lgN s) A c o _ hs (HO.out.rd.ext (ext_alloc1 _ _)) (lgE_len s) (lgS_bd s) (sm_len HSM.out) (HLL.out.ext (ext_alloc HW.out _))
    clear hbx hpp
    go_wp2_with fail
    refine (show Calls _ _ _ _ _ from HCA.out _).mono ?_
    rintro e w3 ⟨rfl, hb3⟩
    have HW3 : Hid (Below w.heap.size w w3) := Lib.hid (ext_trans (ext_alloc HW.out _) hb3)
    clear hb3 q0 q1 q2 r0 r1 r2
    go_wp2_with fail
    go_ret2
    rw [HM.out]
    exact ⟨rfl, HW3.out⟩
  · have HM : Hid (mAddEntry s o = (⟨#[]⟩, lgC s)) := Lib.hid (by unfold mAddEntry; rw [if_neg h0])
    have e1 : (lgC s != 0) = true := by simpa using h0
    clear h0
    go_wp2_with fail
    go_ret2
    rw [HM.out]
    exact ⟨rfl, ext_alloc HW.out _⟩
end Go.Proofs.YtfgopboddkhckaaGreatDoor
