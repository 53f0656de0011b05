/-
  Parts of the proof: NewD, CnP, SmC.
-/
import Derived.Test.YtfgopboddkhckaaGreatDoorKw10
import Derived.Test.YtfgopboddkhckaaGreatDoorKw18
import Derived.Lib.SliceRun
namespace Go.Proofs.YtfgopboddkhckaaGreatDoor
open Go.ChangeShapes Go.WideShapes Go.ChangeAt Go.RowKit Go.Sort Go.Joins
set_option linter.unusedVariables false
set_option maxRecDepth 100000
def newD : DK := ⟨⟨215, 102, 65, 10⟩, nL0, cL0, [], ⟨#[]⟩⟩
theorem sm_newD : SmDK newD := by unfold SmDK; decide +kernel
set_option maxHeartbeats 1600000 in
theorem impl_NewDesk (w : World) (hE : EnvN w) :
   Calls Tryz.prog 20 #[] w fun e w' => ∃ v, e = .returned v ∧ ODK w' w.heap.size v newD ∧ SmDK newD ∧ Below w.heap.size w w' := by
 have HC : Hid (∀ w1, Below w.heap.size w w1 → Calls Tryz.prog 53 #[.string ⟨#[115, 116, 114, 101, 116, 99, 104, 101, 114]⟩] w1 fun e w' => ∃ A c, e = .returned (.tuple #[.agg #[.string nL0, .slice A cL0.length c], .int .i64 0]) ∧ OCOS w' w1.heap.size (.slice A cL0.length c) cL0 ∧ Below w1.heap.size w1 w') := Lib.hid (by
   intro w1 hb
   have h := impl_BondNamed ⟨#[115, 116, 114, 101, 116, 99, 104, 101, 114]⟩ w1 (hE.ext hb).shp (hE.ext hb).lib
   rw [show bnN ⟨#[115, 116, 114, 101, 116, 99, 104, 101, 114]⟩ = nL0 from by decide +kernel, show bnC ⟨#[115, 116, 114, 101, 116, 99, 104, 101, 114]⟩ = cL0 from by decide +kernel, show bnR ⟨#[115, 116, 114, 101, 116, 99, 104, 101, 114]⟩ = 0 from by decide +kernel] at h
   exact h)
 go_enter Tryz.func20, Tryz.ntmps20
 go_wp2_with fail
 refine (show Calls _ _ _ _ _ from HC.out _ (ext_alloc1 _ _)).mono ?_
 rintro e w1 ⟨A, c, rfl, hO, hb⟩
 have r0 := cell_keep (p := ⟨w.heap.size, 0, none⟩) (v := .int .i64 0) (by simp [go_sem]) hb
 have r1 := cell_keep (p := ⟨w.heap.size, 1, none⟩) (v := .int .i64 0) (by simp [go_sem]) hb
 have r2 := cell_keep (p := ⟨w.heap.size, 2, none⟩) (v := .int .i64 0) (by simp [go_sem]) hb
 have r3 := cell_keep (p := ⟨w.heap.size, 3, none⟩) (v := .int .i64 0) (by simp [go_sem]) hb
 have r4 := cell_keep (p := ⟨w.heap.size, 4, none⟩) (v := .string ⟨#[]⟩) (by simp [go_sem]) hb
 have r5 := cell_keep (p := ⟨w.heap.size, 5, none⟩) (v := .slice none 0 0) (by simp [go_sem]) hb
 have r6 := cell_keep (p := ⟨w.heap.size, 6, none⟩) (v := .slice none 0 0) (by simp [go_sem]) hb
 have r7 := cell_keep (p := ⟨w.heap.size, 7, none⟩) (v := .string ⟨#[]⟩) (by simp [go_sem]) hb
 have rz : ∀ j, w1.frozen? ⟨w.heap.size, j, none⟩ = false := fun j => by rw [(bcell hb).2 _ _ (by simp)]; simp [go_sem]
 have HB := Lib.hid (ext_trans (ext_alloc1 _ _) hb)
 have hlt : w.heap.size < w1.heap.size := block_lt_of_cell r0
 have HO := Lib.hid (hO.mono (show w.heap.size + 1 ≤ _ by simp))
 clear hb hO
 go_wp2_with fail
 obtain ⟨wc, hwc⟩ : ∃ x, ((((((((w1.setCell ⟨w.heap.size, 0, none⟩ (.int .i64 215)).setCell ⟨w.heap.size, 1, none⟩ (.int .i64 102)).setCell ⟨w.heap.size, 2, none⟩ (.int .i64 65)).setCell ⟨w.heap.size, 3, none⟩ (.int .i64 10)).setCell ⟨w.heap.size, 4, none⟩ (.string nL0)).setCell ⟨w.heap.size, 5, none⟩ (.slice A cL0.length c)).setCell ⟨w.heap.size, 6, none⟩ (.slice none 0 0)).setCell ⟨w.heap.size, 7, none⟩ (.string ⟨#[]⟩)) = x := ⟨_, rfl⟩
 have u0 : (wc.alloc (.cells #[.string nL0, .slice A cL0.length c] 36)).cell? ⟨w.heap.size, 0, none⟩ = some (.int .i64 215) := cell_keep (by rw [← hwc]; simp [go_sem, r0]) (ext_alloc1 _ _)
 have u1 : (wc.alloc (.cells #[.string nL0, .slice A cL0.length c] 36)).cell? ⟨w.heap.size, 1, none⟩ = some (.int .i64 102) := cell_keep (by rw [← hwc]; simp [go_sem, r1]) (ext_alloc1 _ _)
 have u2 : (wc.alloc (.cells #[.string nL0, .slice A cL0.length c] 36)).cell? ⟨w.heap.size, 2, none⟩ = some (.int .i64 65) := cell_keep (by rw [← hwc]; simp [go_sem, r2]) (ext_alloc1 _ _)
 have u3 : (wc.alloc (.cells #[.string nL0, .slice A cL0.length c] 36)).cell? ⟨w.heap.size, 3, none⟩ = some (.int .i64 10) := cell_keep (by rw [← hwc]; simp [go_sem, r3]) (ext_alloc1 _ _)
 have u4 : (wc.alloc (.cells #[.string nL0, .slice A cL0.length c] 36)).cell? ⟨w.heap.size, 4, none⟩ = some (.string nL0) := cell_keep (by rw [← hwc]; simp [go_sem, r4]) (ext_alloc1 _ _)
 have u5 : (wc.alloc (.cells #[.string nL0, .slice A cL0.length c] 36)).cell? ⟨w.heap.size, 5, none⟩ = some (.slice A cL0.length c) := cell_keep (by rw [← hwc]; simp [go_sem, r5]) (ext_alloc1 _ _)
 have u6 : (wc.alloc (.cells #[.string nL0, .slice A cL0.length c] 36)).cell? ⟨w.heap.size, 6, none⟩ = some (.slice none 0 0) := cell_keep (by rw [← hwc]; simp [go_sem, r6]) (ext_alloc1 _ _)
 have u7 : (wc.alloc (.cells #[.string nL0, .slice A cL0.length c] 36)).cell? ⟨w.heap.size, 7, none⟩ = some (.string ⟨#[]⟩) := cell_keep (by rw [← hwc]; simp [go_sem, r7]) (ext_alloc1 _ _)
 have HO2 : OCOS wc (w.heap.size + 1) (.slice A cL0.length c) cL0 := by rw [← hwc]; exact ((((((((HO.out.put (Nat.lt_succ_self _) 0 (.int .i64 215)).put (Nat.lt_succ_self _) 1 (.int .i64 102)).put (Nat.lt_succ_self _) 2 (.int .i64 65)).put (Nat.lt_succ_self _) 3 (.int .i64 10)).put (Nat.lt_succ_self _) 4 (.string nL0)).put (Nat.lt_succ_self _) 5 (.slice A cL0.length c)).put (Nat.lt_succ_self _) 6 (.slice none 0 0)).put (Nat.lt_succ_self _) 7 (.string ⟨#[]⟩))
 have HB2 : Below w.heap.size w wc := by rw [← hwc]; exact (ext_set (ext_set (ext_set (ext_set (ext_set (ext_set (ext_set (ext_set HB.out (Nat.le_refl _) _) (Nat.le_refl _) _) (Nat.le_refl _) _) (Nat.le_refl _) _) (Nat.le_refl _) _) (Nat.le_refl _) _) (Nat.le_refl _) _) (Nat.le_refl _) _)
 rw [hwc]
 clear hwc
 refine bodyPost_ret (v := .agg #[.int .i64 215, .int .i64 102, .int .i64 65, .int .i64 10, .string nL0, .slice A cL0.length c, .slice none 0 0, .string ⟨#[]⟩]) (by simp [results, Tryz.results20, go_sem, u0, u1, u2, u3, u4, u5, u6, u7]) rfl ⟨_, rfl, ⟨A, c, none, 0, rfl, (HO2.ext (ext_alloc1 _ _)).mono (Nat.le_succ _), ostr_nil _ _, fun k _ h2 => by cases h2⟩, sm_newD, ext_alloc HB2 _⟩
def mkD (j : Int) (d : DK) : DK := ⟨d.f, d.nm, mkCO j d.cs.length, mkStr (j + 2 * (d.cs.length : Int)) d.wall.length, d.log⟩
theorem mark_bond (A : Option Addr) (c base : Nat) (nm : ByteArray) (cs : List CO) (j : Int) (hj0 : 0 ≤ j) (hj : j ≤ 1099511627776) (w : World) (hsm : SmCOS cs) (hO : OCOS w base (.slice A cs.length c) cs) :
   Calls Tryz.prog 47 #[.agg #[.string nm, .slice A cs.length c], .int .i64 j] w fun e w' => e = .returned (.int .i64 (j + 2 * (cs.length : Int))) ∧ OCOS w' base (.slice A cs.length c) (mkCO j cs.length) ∧ Chg (BCOS (.slice A cs.length c)) w w' := by
 have HO := Lib.hid hO; clear hO
 have HS := Lib.hid hsm; clear hsm
 go_enter Tryz.func47, Tryz.ntmps47
 go_wp2_with fail
 refine (mark_COS base _ cs j hj0 hj _ HS.out (HO.out.ext (ext_alloc1 _ _))).mono ?_
 rintro e w1 ⟨rfl, h1, h2⟩
 have H1 := Lib.hid h1
 have H2 := Lib.hid h2
 clear h1 h2
 go_wp2_with fail
 go_ret
 exact ⟨rfl, H1.out, (Chg.of_below (ext_alloc1 w _) _).trans H2.out⟩
theorem mkD_len (j : Int) (d : DK) : (mkD j d).cs.length = d.cs.length ∧ (mkD j d).wall.length = d.wall.length := ⟨mkCO_len _ _, mkStr_len _ _⟩
set_option maxHeartbeats 1600000 in
theorem mark_DK (base : Nat) (v : Value) (d : DK) (j : Int) (hj0 : 0 ≤ j) (hj : j ≤ 1000000000000) (w : World) (hsm : SmDK d) (hO : ODK w base v d) :
   Calls Tryz.prog 14 #[v, .int .i64 j] w fun e w' => e = .returned (.int .i64 (j + (2 * (d.cs.length : Int) + (d.wall.length : Int)))) ∧ ODK w' base v (mkD j d) ∧ Chg (BDK v) w w' := by
 obtain ⟨A, c, B, e, rfl, hc, hw, hap⟩ := hO
 have HC := Lib.hid hc
 have HW := Lib.hid hw
 have HAP := Lib.hid hap
 unfold SmDK totDK at hsm
 have HS : Hid (SmCOS d.cs) := Lib.hid (by unfold SmCOS; omega)
 have HS2 : Hid (SmStr d.wall) := Lib.hid (by unfold SmStr; omega)
 have hl1 : d.cs.length ≤ 1048576 := by omega
 have hl2 : d.wall.length ≤ 1048576 := by omega
 clear hc hw hap hsm
 go_enter Tryz.func14, Tryz.ntmps14
 go_wp2_with fail
 refine (mark_bond A c base d.nm d.cs j hj0 (by omega) _ HS.out (HC.out.ext (ext_alloc1 _ _))).mono ?_
 rintro e' w1 ⟨rfl, h1, h2⟩
 have k6 := h2.cell (p := ⟨w.heap.size, 6, none⟩) (v := .slice B d.wall.length e) (by simp [go_sem]) (fun hk => Nat.lt_irrefl _ (HC.out.ge _ hk).2)
 have HW1 := Lib.hid ((HW.out.ext (ext_alloc1 _ _)).chg h2 (fun k hk hs => HAP.out k hs hk))
 have HC1 := Lib.hid h1
 have HG1 := Lib.hid ((Chg.of_below (ext_alloc1 w _) _).trans h2)
 clear h1 h2
 go_wp2_with fail
 refine (mark_Str base _ d.wall (j + 2 * (d.cs.length : Int)) (by omega) (by omega) _ HS2.out HW1.out).mono ?_
 rintro e' w2 ⟨rfl, h1, h2⟩
 have HW2 := Lib.hid h1
 have HC2 := Lib.hid (HC1.out.chg h2 (fun k hk hs => HAP.out k hk hs))
 have HG2 := Lib.hid ((HG1.out.mono (fun k hk => Or.inl hk) : Chg (BDK (.agg #[.int .i64 d.f.l, .int .i64 d.f.w, .int .i64 d.f.h, .int .i64 d.f.j, .string d.nm, .slice A d.cs.length c, .slice B d.wall.length e, .string d.log])) w w1).trans (h2.mono (fun k hk => Or.inr hk)))
 clear h1 h2 k6
 go_wp2_with fail
 go_ret
 refine ⟨ret_int (by omega), ⟨A, c, B, e, ?_, ?_, ?_, ?_⟩, HG2.out⟩
 · rw [(mkD_len j d).1, (mkD_len j d).2]; rfl
 · rw [(mkD_len j d).1]; exact HC2.out
 · rw [(mkD_len j d).2]; exact HW2.out
 · rw [(mkD_len j d).1, (mkD_len j d).2]; exact HAP.out
theorem held_bond (A : Option Addr) (c : Nat) (nm : ByteArray) (cs : List CO) (j : Int) (hj0 : 0 ≤ j) (hj : j ≤ 1099511627776) (w : World) (hsm : SmCOS cs) (ha : RCOS w (.slice A cs.length c) (mkCO j cs.length)) :
   Calls Tryz.prog 49 #[.agg #[.string nm, .slice A cs.length c], .int .i64 j] w (Ret (.int .i64 (j + 2 * (cs.length : Int))) w) := by
 have HA := Lib.hid ha; clear ha
 have hl1 : cs.length ≤ 1048576 := by unfold SmCOS at hsm; omega
 have HS := Lib.hid hsm; clear hsm
 go_enter Tryz.func49, Tryz.ntmps49
 go_wp2_with fail
 refine (held_COS _ cs j hj0 hj _ HS.out (HA.out.ext (ext_alloc1 _ _))).mono ?_
 rintro e w1 ⟨rfl, hb⟩
 have HB := Lib.hid (ext_trans (ext_alloc1 _ _) hb)
 clear hb
 have e1 : ¬ j + 2 * (cs.length : Int) < 0 := by omega
 go_wp2_with fail
 go_ret
 exact ⟨rfl, HB.out⟩
set_option maxHeartbeats 1600000 in
theorem held_DK (v : Value) (d : DK) (j : Int) (hj0 : 0 ≤ j) (hj : j ≤ 1000000000000) (w : World) (hsm : SmDK d) (ha : RDK w v (mkD j d)) :
   Calls Tryz.prog 16 #[v, .int .i64 j] w (Ret (.int .i64 (j + (2 * (d.cs.length : Int) + (d.wall.length : Int)))) w) := by
 obtain ⟨A, c, B, e, rfl, hc, hw⟩ := ha
 rw [(mkD_len j d).1] at hc
 rw [(mkD_len j d).2] at hw
 rw [(mkD_len j d).1, (mkD_len j d).2]
 have HC := Lib.hid hc
 have HW := Lib.hid hw
 unfold SmDK totDK at hsm
 have HS : Hid (SmCOS d.cs) := Lib.hid (by unfold SmCOS; omega)
 have HS2 : Hid (SmStr d.wall) := Lib.hid (by unfold SmStr; omega)
 have hl1 : d.cs.length ≤ 1048576 := by omega
 have hl2 : d.wall.length ≤ 1048576 := by omega
 clear hc hw hsm
 go_enter Tryz.func16, Tryz.ntmps16
 go_wp2_with fail
 refine (held_bond A c (mkD j d).nm d.cs j hj0 (by omega) _ HS.out (HC.out.ext (ext_alloc1 _ _))).mono ?_
 rintro e' w1 ⟨rfl, hb⟩
 have k6 := cell_keep (p := ⟨w.heap.size, 6, none⟩) (v := .slice B d.wall.length e) (by simp [go_sem]) hb
 have HB := Lib.hid (ext_trans (ext_alloc1 _ _) hb)
 clear hb
 have e1 : ¬ j + 2 * (d.cs.length : Int) < 0 := by omega
 go_wp2_with fail
 refine (held_Str _ d.wall (j + 2 * (d.cs.length : Int)) (by omega) (by omega) _ HS2.out (HW.out.ext HB.out)).mono ?_
 rintro e' w2 ⟨rfl, hb⟩
 have HB2 := Lib.hid (ext_trans HB.out hb)
 clear hb k6
 have e2 : ¬ j + 2 * (d.cs.length : Int) + (d.wall.length : Int) < 0 := by omega
 go_wp2_with fail
 go_ret
 exact ⟨ret_int (by omega), HB2.out⟩
end Go.Proofs.YtfgopboddkhckaaGreatDoor
namespace Go.Proofs.YtfgopboddkhckaaGreatDoor
open Go.ChangeShapes Go.WideShapes Go.ChangeAt Go.RowKit Go.Sort Go.Joins
set_option linter.unusedVariables false
/-! ### Codes -/
def cnL : List ByteArray := [⟨#[111, 107]⟩, ⟨#[105, 110, 118, 97, 108, 105, 100]⟩, ⟨#[114, 97, 110, 103, 101]⟩, ⟨#[110, 111, 116, 45, 102, 111, 117, 110, 100]⟩, ⟨#[101, 120, 105, 115, 116, 115]⟩, ⟨#[102, 117, 108, 108]⟩, ⟨#[115, 116, 97, 116, 101]⟩, ⟨#[115, 121, 110, 116, 97, 120]⟩, ⟨#[102, 111, 114, 109, 97, 116]⟩, ⟨#[99, 108, 97, 115, 104]⟩, ⟨#[99, 114, 97, 99, 107, 101, 100]⟩]
def cnT (c : Int) : ByteArray := if inB c 0 10 then gd cnL c.toNat else ⟨#[]⟩
def erT (c : Int) : ByteArray := ⟨#[101, 114, 114, 111, 114, 32]⟩ ++ cnT c
theorem cnT_size (c : Int) : (cnT c).size ≤ 9 := by
 unfold cnT
 split
 · rename_i h
   have h := inB_iff.1 h
   have : ∀ k : Nat, k < 11 → (gd cnL k).size ≤ 9 := by decide +kernel
   exact this _ (by omega)
 · exact Nat.zero_le _
theorem erT_size (c : Int) : (erT c).size ≤ 15 := by
 unfold erT
 rw [ByteArray.size_append]
 have := cnT_size c
 have h2 : (⟨#[101, 114, 114, 111, 114, 32]⟩ : ByteArray).size = 6 := rfl
 omega
/-! ### Walls laid -/
def lwL (cs : List CO) (L : Int) (n : Nat) : List ByteArray := (List.range n).map fun k => layT (gd cs (k % cs.length)) L
theorem lwL_len (cs : List CO) (L : Int) (n : Nat) : (lwL cs L n).length = n := by simp [lwL]
theorem lwL_succ (cs : List CO) (L : Int) (n : Nat) : lwL cs L (n + 1) = lwL cs L n ++ [layT (gd cs (n % cs.length)) L] := by simp [lwL, List.range_succ]
def lwB (cs : List CO) (L : Int) (n : Nat) : Bool := (List.range n).all fun k => decide ((layT (gd cs (k % cs.length)) L).size ≤ 60)
theorem lwB_succ (cs : List CO) (L : Int) (n : Nat) : lwB cs L (n + 1) = (lwB cs L n && decide ((layT (gd cs (n % cs.length)) L).size ≤ 60)) := by simp [lwB, List.range_succ]
theorem lwB_no {cs : List CO} {L : Int} {n k : Nat} (hk : k < n) (h : ¬ (layT (gd cs (k % cs.length)) L).size ≤ 60) : lwB cs L n = false := by
 unfold lwB
 rw [List.all_eq_false]
 exact ⟨k, by simpa using hk, by simpa using h⟩
def mLayWall (nm : ByteArray) (cs : List CO) (L n : Int) : List ByteArray × Int :=
 if vB nm cs = true then
   if (inB L 1 200 && inB n 1 40) = true then
     if lwB cs L n.toNat = true then (lwL cs L n.toNat, 0) else ([], 5)
   else ([], 2)
 else ([], 1)
/-! ### The best pair -/
def mPair (L P : Int) : ByteArray × ByteArray × Int :=
 if (inB L 1 80 && inB P 1 4) = true then
   match pB L.toNat P.toNat L.toNat 0 0 0 with
   | some v => (bsq v.lo, bsq v.hi, 0)
   | none => (⟨#[]⟩, ⟨#[]⟩, 3)
 else (⟨#[]⟩, ⟨#[]⟩, 2)
/-! ### Commands -/
inductive CM where
  | bond | check | count | enter | format | height | length | log | pair | show_ | wall
deriving DecidableEq
def cmW : CM → ByteArray
 | .bond => ⟨#[98, 111, 110, 100]⟩
 | .check => ⟨#[99, 104, 101, 99, 107]⟩
 | .count => ⟨#[99, 111, 117, 110, 116]⟩
 | .enter => ⟨#[101, 110, 116, 101, 114]⟩
 | .format => ⟨#[102, 111, 114, 109, 97, 116]⟩
 | .height => ⟨#[104, 101, 105, 103, 104, 116]⟩
 | .length => ⟨#[108, 101, 110, 103, 116, 104]⟩
 | .log => ⟨#[108, 111, 103]⟩
 | .pair => ⟨#[112, 97, 105, 114]⟩
 | .show_ => ⟨#[115, 104, 111, 119]⟩
 | .wall => ⟨#[119, 97, 108, 108]⟩
def cmL : List CM := [.bond, .check, .count, .enter, .format, .height, .length, .log, .pair, .show_, .wall]
def cmOf (w : ByteArray) : Option CM := cmL.find? fun c => decide (cmW c = w)
theorem cmOf_some {w : ByteArray} {c : CM} (h : cmOf w = some c) : w = cmW c := by
 unfold cmOf at h
 have := List.find?_some h
 exact (by simpa using this : cmW c = w).symm
theorem cmOf_none {w : ByteArray} (h : cmOf w = none) (c : CM) : w ≠ cmW c := by
 unfold cmOf at h
 rw [List.find?_eq_none] at h
 intro e
 have := h c (by cases c <;> decide)
 simp only [decide_eq_true_eq] at this
 exact this e.symm
def cmF : CM → List Bool
 | .bond => [false]
 | .format => [false]
 | .check => [true]
 | .height => [true]
 | .length => [true]
 | .pair => [true, true]
 | .wall => [true, true]
 | .enter => [true, false, true]
 | _ => []
def num1 (l : List ByteArray) (k : Nat) : Int := rdv (gd l k)
def nmT (xs : List Int) : ByteArray := bsq (jnL 32 (xs.map Lib.itoa))
def okT (n : Nat) : ByteArray := ⟨#[111, 107, 32]⟩ ++ itb n
def bondedT : ByteArray := ⟨#[98, 111, 110, 100, 101, 100]⟩
def pairT (lo hi : ByteArray) : ByteArray := lo ++ ⟨#[32]⟩ ++ hi
def fracT (a b : Int) : ByteArray := itb a ++ ⟨#[47]⟩ ++ itb b
def sumI (xs : List Int) : Int := xs.sum
def exFormat (d : DK) (t : ByteArray) : DK × List ByteArray × Int := if rfB t = true then ({ d with f := rfV t }, [fmT (rfV t)], 0) else (d, [], 7)
def exBond (d : DK) (t : ByteArray) : DK × List ByteArray × Int := if bnR t = 0 then ({ d with nm := bnN t, cs := bnC t }, [dkT { d with nm := bnN t, cs := bnC t }], 0) else (d, [], bnR t)
def exWall (d : DK) (L n : Int) : DK × List ByteArray × Int := if (mLayWall d.nm d.cs L n).2 = 0 then ({ d with wall := (mLayWall d.nm d.cs L n).1 }, [dkT { d with wall := (mLayWall d.nm d.cs L n).1 }], 0) else (d, [], (mLayWall d.nm d.cs L n).2)
def exShow (d : DK) : DK × List ByteArray × Int := (d, d.wall.map rnT ++ [okT d.wall.length], 0)
def exCheck (d : DK) (lap : Int) : DK × List ByteArray × Int :=
 if (mClash d.wall lap).2.2.2 = 3 then (d, [bondedT], 0)
 else if (mClash d.wall lap).2.2.2 = 0 then (d, [nmT [(mClash d.wall lap).1, (mClash d.wall lap).2.1, (mClash d.wall lap).2.2.1]], 0)
 else (d, [], (mClash d.wall lap).2.2.2)
def exCount (d : DK) : DK × List ByteArray × Int := if (mCount d.wall).2 = 0 then (d, [nmT (mCount d.wall).1], 0) else (d, [], (mCount d.wall).2)
def exPair (d : DK) (L P : Int) : DK × List ByteArray × Int := if (mPair L P).2.2 = 0 then (d, [pairT (mPair L P).1 (mPair L P).2.1], 0) else (d, [], (mPair L P).2.2)
def exLength (d : DK) (n : Int) : DK × List ByteArray × Int := if (mLen d.f n).2.2 = 0 then (d, [fracT (mLen d.f n).1 (mLen d.f n).2.1], 0) else (d, [], (mLen d.f n).2.2)
def exHeight (d : DK) (n : Int) : DK × List ByteArray × Int := if (mHeight d.f n).2 = 0 then (d, [itb (mHeight d.f n).1], 0) else (d, [], (mHeight d.f n).2)
def exEnter (d : DK) (e : EN) : DK × List ByteArray × Int :=
 if (mAddEntry d.log e).2 = 0 then ({ d with log := (mAddEntry d.log e).1 }, [itb (sumI (mValuesOf (mAddEntry d.log e).1 e.what).1)], 0) else (d, [], (mAddEntry d.log e).2)
def exLog (d : DK) : DK × List ByteArray × Int := (d, (lgE d.log).map wrb ++ [okT (lgE d.log).length], 0)
def mExec (d : DK) (c : CM) (l : List ByteArray) : DK × List ByteArray × Int :=
 match c with
 | .format => exFormat d (gd l 1)
 | .bond => exBond d (gd l 1)
 | .wall => exWall d (num1 l 1) (num1 l 2)
 | .show_ => exShow d
 | .check => exCheck d (num1 l 1)
 | .count => exCount d
 | .pair => exPair d (num1 l 1) (num1 l 2)
 | .length => exLength d (num1 l 1)
 | .height => exHeight d (num1 l 1)
 | .enter => exEnter d ⟨num1 l 1, gd l 2, num1 l 3⟩
 | .log => exLog d
def okN (c : CM) (l : List ByteArray) (k : Nat) : Bool := (List.range k).all fun i => !gd (cmF c) i || rdb (gd l (i + 1))
theorem okN_succ (c : CM) (l : List ByteArray) (k : Nat) : okN c l (k + 1) = (okN c l k && (!gd (cmF c) k || rdb (gd l (k + 1)))) := by simp [okN, List.range_succ]
theorem okN_no {c : CM} {l : List ByteArray} {n k : Nat} (hk : k < n) (h : (!gd (cmF c) k || rdb (gd l (k + 1))) = false) : okN c l n = false := by
 unfold okN
 rw [List.all_eq_false]
 exact ⟨k, by simpa using hk, by rw [h]; simp⟩
def mGo (d : DK) (c : CM) (l : List ByteArray) : DK × List ByteArray :=
 if okN c l (cmF c).length = true then
   (if (mExec d c l).2.2 = 0 then ((mExec d c l).1, (mExec d c l).2.1) else (d, [erT (mExec d c l).2.2]))
 else (d, [erT 7])
def mDo (d : DK) (line : ByteArray) : Option (DK × List ByteArray) :=
 match cmOf (gd (spb 32 line) 0) with
 | none => none
 | some c => if (spb 32 line).length = (cmF c).length + 1 then some (mGo d c (spb 32 line)) else none
def mDesk (d : DK) (line : ByteArray) : DK × List ByteArray × Int :=
 if vDK d = true then
   match mDo d line with
   | some p => (p.1, p.2, 0)
   | none => (default, [], 7)
 else (default, [], 1)
/-! ### Runs of the console -/
end Go.Proofs.YtfgopboddkhckaaGreatDoor
namespace Go.Proofs.YtfgopboddkhckaaGreatDoor
open Go.ChangeShapes Go.WideShapes Go.ChangeAt Go.RowKit Go.Sort Go.Joins
set_option linter.unusedVariables false
set_option maxRecDepth 100000
def CodeT (w : World) : Prop := w.var? Tryz.prog "loop.example/g01042/impl.codeNames" = some #[.string ⟨#[111, 107]⟩, .string ⟨#[105, 110, 118, 97, 108, 105, 100]⟩, .string ⟨#[114, 97, 110, 103, 101]⟩, .string ⟨#[110, 111, 116, 45, 102, 111, 117, 110, 100]⟩, .string ⟨#[101, 120, 105, 115, 116, 115]⟩, .string ⟨#[102, 117, 108, 108]⟩, .string ⟨#[115, 116, 97, 116, 101]⟩, .string ⟨#[115, 121, 110, 116, 97, 120]⟩, .string ⟨#[102, 111, 114, 109, 97, 116]⟩, .string ⟨#[99, 108, 97, 115, 104]⟩, .string ⟨#[99, 114, 97, 99, 107, 101, 100]⟩]
theorem CodeT.ext {w w' : World} (h : CodeT w) (hb : Below w.heap.size w w') : CodeT w' := var_ext hb h
theorem nat11 {c : Int} (h0 : 0 ≤ c) (h1 : c ≤ 10) : c = 0 ∨ c = 1 ∨ c = 2 ∨ c = 3 ∨ c = 4 ∨ c = 5 ∨ c = 6 ∨ c = 7 ∨ c = 8 ∨ c = 9 ∨ c = 10 := by omega
set_option maxHeartbeats 1600000 in
theorem impl_CodeName (c : Int) (h0 : 0 ≤ c) (h1 : c ≤ 10) (w : World) (hT : CodeT w) : Calls Tryz.prog 43 #[.int .i64 c] w (Ret (.string (cnT c)) w) := by
 have hc := var?_cell (g := 0) (by kernel_rfl) hT
 have HI := Lib.hid (fun w => impl_within c 0 10 w)
 rw [inB_iff.2 ⟨h0, h1⟩] at HI
 rcases nat11 h0 h1 with rfl | rfl | rfl | rfl | rfl | rfl | rfl | rfl | rfl | rfl | rfl
 · have g := hc 0
   clear hc hT
   simp only [List.getElem?_toArray, List.getElem?_cons_zero] at g
   go_enter Tryz.func43, Tryz.ntmps43
   go_wp2_with fail
   refine (show Calls _ _ _ _ _ from HI.out _).mono ?_
   rintro e w1 ⟨rfl, rfl⟩
   go_wp2_with fail
   go_ret
   exact ⟨rfl, ext_refl _⟩
 · have g := hc 1
   clear hc hT
   simp only [List.getElem?_toArray, List.getElem?_cons_zero, List.getElem?_cons_succ] at g
   go_enter Tryz.func43, Tryz.ntmps43
   go_wp2_with fail
   refine (show Calls _ _ _ _ _ from HI.out _).mono ?_
   rintro e w1 ⟨rfl, rfl⟩
   go_wp2_with fail
   go_ret
   exact ⟨rfl, ext_refl _⟩
 · have g := hc 2
   clear hc hT
   simp only [List.getElem?_toArray, List.getElem?_cons_zero, List.getElem?_cons_succ] at g
   go_enter Tryz.func43, Tryz.ntmps43
   go_wp2_with fail
   refine (show Calls _ _ _ _ _ from HI.out _).mono ?_
   rintro e w1 ⟨rfl, rfl⟩
   go_wp2_with fail
   go_ret
   exact ⟨rfl, ext_refl _⟩
 · have g := hc 3
   clear hc hT
   simp only [List.getElem?_toArray, List.getElem?_cons_zero, List.getElem?_cons_succ] at g
   go_enter Tryz.func43, Tryz.ntmps43
   go_wp2_with fail
   refine (show Calls _ _ _ _ _ from HI.out _).mono ?_
   rintro e w1 ⟨rfl, rfl⟩
   go_wp2_with fail
   go_ret
   exact ⟨rfl, ext_refl _⟩
 · have g := hc 4
   clear hc hT
   simp only [List.getElem?_toArray, List.getElem?_cons_zero, List.getElem?_cons_succ] at g
   go_enter Tryz.func43, Tryz.ntmps43
   go_wp2_with fail
   refine (show Calls _ _ _ _ _ from HI.out _).mono ?_
   rintro e w1 ⟨rfl, rfl⟩
   go_wp2_with fail
   go_ret
   exact ⟨rfl, ext_refl _⟩
 · have g := hc 5
   clear hc hT
   simp only [List.getElem?_toArray, List.getElem?_cons_zero, List.getElem?_cons_succ] at g
   go_enter Tryz.func43, Tryz.ntmps43
   go_wp2_with fail
   refine (show Calls _ _ _ _ _ from HI.out _).mono ?_
   rintro e w1 ⟨rfl, rfl⟩
   go_wp2_with fail
   go_ret
   exact ⟨rfl, ext_refl _⟩
 · have g := hc 6
   clear hc hT
   simp only [List.getElem?_toArray, List.getElem?_cons_zero, List.getElem?_cons_succ] at g
   go_enter Tryz.func43, Tryz.ntmps43
   go_wp2_with fail
   refine (show Calls _ _ _ _ _ from HI.out _).mono ?_
   rintro e w1 ⟨rfl, rfl⟩
   go_wp2_with fail
   go_ret
   exact ⟨rfl, ext_refl _⟩
 · have g := hc 7
   clear hc hT
   simp only [List.getElem?_toArray, List.getElem?_cons_zero, List.getElem?_cons_succ] at g
   go_enter Tryz.func43, Tryz.ntmps43
   go_wp2_with fail
   refine (show Calls _ _ _ _ _ from HI.out _).mono ?_
   rintro e w1 ⟨rfl, rfl⟩
   go_wp2_with fail
   go_ret
   exact ⟨rfl, ext_refl _⟩
 · have g := hc 8
   clear hc hT
   simp only [List.getElem?_toArray, List.getElem?_cons_zero, List.getElem?_cons_succ] at g
   go_enter Tryz.func43, Tryz.ntmps43
   go_wp2_with fail
   refine (show Calls _ _ _ _ _ from HI.out _).mono ?_
   rintro e w1 ⟨rfl, rfl⟩
   go_wp2_with fail
   go_ret
   exact ⟨rfl, ext_refl _⟩
 · have g := hc 9
   clear hc hT
   simp only [List.getElem?_toArray, List.getElem?_cons_zero, List.getElem?_cons_succ] at g
   go_enter Tryz.func43, Tryz.ntmps43
   go_wp2_with fail
   refine (show Calls _ _ _ _ _ from HI.out _).mono ?_
   rintro e w1 ⟨rfl, rfl⟩
   go_wp2_with fail
   go_ret
   exact ⟨rfl, ext_refl _⟩
 · have g := hc 10
   clear hc hT
   simp only [List.getElem?_toArray, List.getElem?_cons_zero, List.getElem?_cons_succ] at g
   go_enter Tryz.func43, Tryz.ntmps43
   go_wp2_with fail
   refine (show Calls _ _ _ _ _ from HI.out _).mono ?_
   rintro e w1 ⟨rfl, rfl⟩
   go_wp2_with fail
   go_ret
   exact ⟨rfl, ext_refl _⟩
set_option maxHeartbeats 1600000 in
theorem spec_CodeName (c : Int) (h0 : 0 ≤ c) (h1 : c ≤ 10) (w : World) : Calls Tryz.prog 56 #[.int .i64 c] w (Ret (.string (cnT c)) w) := by
 have HI := Lib.hid (fun w => spec_in c 0 10 w)
 rw [inB_iff.2 ⟨h0, h1⟩] at HI
 rcases nat11 h0 h1 with rfl | rfl | rfl | rfl | rfl | rfl | rfl | rfl | rfl | rfl | rfl
 · go_enter Tryz.func56, Tryz.ntmps56
   go_wp2_with fail
   refine (show Calls _ _ _ _ _ from HI.out _).mono ?_
   rintro e w1 ⟨rfl, rfl⟩
   go_wp2_with fail
   go_ret
   exact ⟨rfl, ext_alloc1 _ _⟩
 · go_enter Tryz.func56, Tryz.ntmps56
   go_wp2_with fail
   refine (show Calls _ _ _ _ _ from HI.out _).mono ?_
   rintro e w1 ⟨rfl, rfl⟩
   go_wp2_with fail
   go_ret
   exact ⟨rfl, ext_alloc1 _ _⟩
 · go_enter Tryz.func56, Tryz.ntmps56
   go_wp2_with fail
   refine (show Calls _ _ _ _ _ from HI.out _).mono ?_
   rintro e w1 ⟨rfl, rfl⟩
   go_wp2_with fail
   go_ret
   exact ⟨rfl, ext_alloc1 _ _⟩
 · go_enter Tryz.func56, Tryz.ntmps56
   go_wp2_with fail
   refine (show Calls _ _ _ _ _ from HI.out _).mono ?_
   rintro e w1 ⟨rfl, rfl⟩
   go_wp2_with fail
   go_ret
   exact ⟨rfl, ext_alloc1 _ _⟩
 · go_enter Tryz.func56, Tryz.ntmps56
   go_wp2_with fail
   refine (show Calls _ _ _ _ _ from HI.out _).mono ?_
   rintro e w1 ⟨rfl, rfl⟩
   go_wp2_with fail
   go_ret
   exact ⟨rfl, ext_alloc1 _ _⟩
 · go_enter Tryz.func56, Tryz.ntmps56
   go_wp2_with fail
   refine (show Calls _ _ _ _ _ from HI.out _).mono ?_
   rintro e w1 ⟨rfl, rfl⟩
   go_wp2_with fail
   go_ret
   exact ⟨rfl, ext_alloc1 _ _⟩
 · go_enter Tryz.func56, Tryz.ntmps56
   go_wp2_with fail
   refine (show Calls _ _ _ _ _ from HI.out _).mono ?_
   rintro e w1 ⟨rfl, rfl⟩
   go_wp2_with fail
   go_ret
   exact ⟨rfl, ext_alloc1 _ _⟩
 · go_enter Tryz.func56, Tryz.ntmps56
   go_wp2_with fail
   refine (show Calls _ _ _ _ _ from HI.out _).mono ?_
   rintro e w1 ⟨rfl, rfl⟩
   go_wp2_with fail
   go_ret
   exact ⟨rfl, ext_alloc1 _ _⟩
 · go_enter Tryz.func56, Tryz.ntmps56
   go_wp2_with fail
   refine (show Calls _ _ _ _ _ from HI.out _).mono ?_
   rintro e w1 ⟨rfl, rfl⟩
   go_wp2_with fail
   go_ret
   exact ⟨rfl, ext_alloc1 _ _⟩
 · go_enter Tryz.func56, Tryz.ntmps56
   go_wp2_with fail
   refine (show Calls _ _ _ _ _ from HI.out _).mono ?_
   rintro e w1 ⟨rfl, rfl⟩
   go_wp2_with fail
   go_ret
   exact ⟨rfl, ext_alloc1 _ _⟩
 · go_enter Tryz.func56, Tryz.ntmps56
   go_wp2_with fail
   refine (show Calls _ _ _ _ _ from HI.out _).mono ?_
   rintro e w1 ⟨rfl, rfl⟩
   go_wp2_with fail
   go_ret
   exact ⟨rfl, ext_alloc1 _ _⟩
theorem sumI_succ {xs : List Int} {k : Nat} (hk : k < xs.length) : sumI (xs.take (k + 1)) = sumI (xs.take k) + gi xs k := by
 unfold sumI
 rw [take_succ_getD hk, List.sum_append]
 simp [gi]
theorem sumI_bd2 {xs : List Int} {B : Nat} (h : ∀ k, k < xs.length → -(B : Int) ≤ gi xs k ∧ gi xs k ≤ B) : ∀ k, k ≤ xs.length → -((B : Int) * k) ≤ sumI (xs.take k) ∧ sumI (xs.take k) ≤ (B : Int) * k
 | 0, _ => by simp [sumI]
 | k + 1, hk => by
   have ih := sumI_bd2 h k (by omega)
   have h1 := h k (by omega)
   rw [sumI_succ (by omega)]
   rw [show (B : Int) * ((k + 1 : Nat) : Int) = B * k + B by rw [Int.natCast_add, Int.mul_add]; simp]
   omega
set_option maxHeartbeats 800000 in
theorem impl_sum (v : Value) (xs : List Int) (w : World) (hR : RI w v xs) (hl : xs.length ≤ 4000) (hb : ∀ k, k < xs.length → -1000000 ≤ gi xs k ∧ gi xs k ≤ 1000000) :
   Calls Tryz.prog 100 #[v] w (RetP (.int .i64 (sumI xs)) w) := by
 obtain ⟨A, c, rfl, hc1, hc2, HA'⟩ := hR.open2
 have HA := Lib.hid HA'; clear HA' hR hc1 hc2
 have HBD : Hid (∀ k, k ≤ xs.length → -4000000000 ≤ sumI (xs.take k) ∧ sumI (xs.take k) ≤ 4000000000) := Lib.hid fun k hk => by
   have h := sumI_bd2 (xs := xs) (B := 1000000) (fun k hk => by have := hb k hk; omega) k hk
   have hm : ((1000000 : Nat) : Int) * (k : Int) ≤ 1000000 * 4000 := Int.mul_le_mul_of_nonneg_left (by omega) (by decide)
   omega
 have HB := Lib.hid hb; clear hb
 go_enter Tryz.func100, Tryz.ntmps100
 go_wp2_with fail
 go_loop [3, 8] (fun u i => ∃ k : Nat, k ≤ xs.length ∧ i = .int .i64 k ∧ u = .int .i64 (sumI (xs.take k))) (fun _ i => xs.length - (intOf i).toNat)
 case atStart => exact ⟨0, Nat.zero_le _, rfl, rfl⟩
 case round =>
   obtain ⟨k, hk, rfl, rfl⟩ := hrel
   have e0 : (0:Int) ≤ k := by omega
   by_cases hlt : k < xs.length
   · have e1 : (k:Int) < xs.length := by omega
     obtain ⟨ad, rfl, _, hc⟩ := HA.out k hlt
     have p0 := hc k hlt
     have HS := Lib.hid (sumI_succ hlt)
     have hb1 := HBD.out k hk
     have hb2 := HB.out k hlt
     clear hc
     obtain ⟨y, hyy⟩ : ∃ y, gi xs k = y := ⟨_, rfl⟩
     rw [hyy] at p0 HS hb2
     clear hyy
     obtain ⟨t, htt⟩ : ∃ t, sumI (xs.take k) = t := ⟨_, rfl⟩
     rw [htt] at HS hb1
     rw [htt]
     clear htt
     go_wp2_with fail
     go_round
     case rel => exact ⟨k + 1, by omega, by go_num, by rw [HS.out]⟩
     case measure => simp [intOf]; omega
   · have hkn : k = xs.length := by omega
     have e1 : ¬ (k:Int) < xs.length := by omega
     have HE : Hid (sumI (xs.take k) = sumI xs) := Lib.hid (by rw [hkn, List.take_length])
     clear hkn
     go_wp2_with fail
     go_ret
     exact ⟨ret_int HE.out, rfl⟩
set_option maxHeartbeats 800000 in
theorem spec_sum (v : Value) (xs : List Int) (w : World) (hR : RI w v xs) (hl : xs.length ≤ 4000) (hb : ∀ k, k < xs.length → -1000000 ≤ gi xs k ∧ gi xs k ≤ 1000000) :
   Calls Tryz.prog 121 #[v] w (RetP (.int .i64 (sumI xs)) w) := by
 obtain ⟨A, c, rfl, hc1, hc2, HA'⟩ := hR.open2
 have HA := Lib.hid HA'; clear HA' hR hc1 hc2
 have HBD : Hid (∀ k, k ≤ xs.length → -4000000000 ≤ sumI (xs.take k) ∧ sumI (xs.take k) ≤ 4000000000) := Lib.hid fun k hk => by
   have h := sumI_bd2 (xs := xs) (B := 1000000) (fun k hk => by have := hb k hk; omega) k hk
   have hm : ((1000000 : Nat) : Int) * (k : Int) ≤ 1000000 * 4000 := Int.mul_le_mul_of_nonneg_left (by omega) (by decide)
   omega
 have HB := Lib.hid hb; clear hb
 go_enter Tryz.func121, Tryz.ntmps121
 go_wp2_with fail
 go_loop [3, 4] (fun u i => ∃ k : Nat, k ≤ xs.length ∧ i = .int .i64 k ∧ u = .int .i64 (sumI (xs.take k))) (fun _ i => xs.length - (intOf i).toNat)
 case atStart => exact ⟨0, Nat.zero_le _, rfl, rfl⟩
 case round =>
   obtain ⟨k, hk, rfl, rfl⟩ := hrel
   have e0 : (0:Int) ≤ k := by omega
   by_cases hlt : k < xs.length
   · have e1 : (k:Int) < xs.length := by omega
     obtain ⟨ad, rfl, _, hc⟩ := HA.out k hlt
     have p0 := hc k hlt
     have HS := Lib.hid (sumI_succ hlt)
     have hb1 := HBD.out k hk
     have hb2 := HB.out k hlt
     clear hc
     obtain ⟨y, hyy⟩ : ∃ y, gi xs k = y := ⟨_, rfl⟩
     rw [hyy] at p0 HS hb2
     clear hyy
     obtain ⟨t, htt⟩ : ∃ t, sumI (xs.take k) = t := ⟨_, rfl⟩
     rw [htt] at HS hb1
     rw [htt]
     clear htt
     go_wp2_with fail
     go_round
     case rel => exact ⟨k + 1, by omega, by go_num, by rw [HS.out]⟩
     case measure => simp [intOf]; omega
   · have hkn : k = xs.length := by omega
     have e1 : ¬ (k:Int) < xs.length := by omega
     have HE : Hid (sumI (xs.take k) = sumI xs) := Lib.hid (by rw [hkn, List.take_length])
     clear hkn
     go_wp2_with fail
     go_ret
     exact ⟨ret_int HE.out, rfl⟩
theorem wpList_append_rs {w : World} {ops : Array Oper} {rest : List Oper} {o : Oper} {a : Act} {Q : Exit → Act → World → Prop} (hgd : o.guard = none) (s x : Operand)
   (ho : o.op = .call { callee := .builtin .append, args := #[s, x], argTypes := #[29, 29] })
   (base : Nat) (v v2 : Value) (xs ys : List ByteArray) (hs : a.eval s = v) (hx : a.eval x = v2) (hO : OStr w base v xs) (hR : RStr w v2 ys)
   (hl : xs.length ≤ 1099511627776) (hl2 : ys.length ≤ 1099511627776) (hbase : base ≤ w.heap.size)
   (h : ∀ A c w', OStr w' base (.slice A (xs.length + ys.length) c) (xs ++ ys) → Chg (BI v) w w' → wpList Tryz.prog ops Q rest (a.put o.dst (.slice A (xs.length + ys.length) c)) w') : wpList Tryz.prog ops Q (o :: rest) a w := by
 obtain ⟨i0, hi, hz0, hz1, hz2⟩ := info_parts info_str
 have hR' := hR
 obtain ⟨_, A, c, rfl, _⟩ := hR'
 refine wpList_append_rd hgd s x _ ho base 9 i0 (.string ⟨#[]⟩) 1 16 Tryz.underlying29 hi hz0 hz1 hz2 rfl (by omega) v xs.length (xs.map Value.string) hs hO A ys.length c (ys.map Value.string) hx hR (by simp [Value.oneCell']) (by unfold maxLen; omega) (by omega) hbase ?_
 intro v' w' hown hgrow _
 have hO' : OStr w' base v' (xs ++ ys) := by unfold OStr; simpa using hown
 have hO2 := hO'
 obtain ⟨_, A', c', rfl, _⟩ := hO2.rd
 simp only [List.length_append] at hO' ⊢
 exact h A' c' w' hO' (Chg.of_grown hgrow)
theorem wpList_append_rc {w : World} {ops : Array Oper} {rest : List Oper} {o : Oper} {a : Act} {Q : Exit → Act → World → Prop} (hgd : o.guard = none) (s x : Operand)
   (ho : o.op = .call { callee := .builtin .append, args := #[s, x], argTypes := #[34, 34] })
   (base : Nat) (v v2 : Value) (xs ys : List CO) (hs : a.eval s = v) (hx : a.eval x = v2) (hO : OCOS w base v xs) (hR : RCOS w v2 ys)
   (hl : xs.length ≤ 1099511627 ) (hl2 : ys.length ≤ 1099511627) (hbase : base ≤ w.heap.size)
   (h : ∀ A c w', OCOS w' base (.slice A (xs.length + ys.length) c) (xs ++ ys) → Chg (BI v) w w' → wpList Tryz.prog ops Q rest (a.put o.dst (.slice A (xs.length + ys.length) c)) w') : wpList Tryz.prog ops Q (o :: rest) a w := by
 obtain ⟨i0, hi, hz0, hz1, hz2⟩ := info_parts info_CO
 have hR' := hR
 obtain ⟨_, A, c, rfl, _⟩ := hR'
 refine wpList_append_rd hgd s x _ ho base 102 i0 _ 2 32 Tryz.underlying34 hi hz0 hz1 hz2 rfl (by omega) v xs.length (xs.flatMap cCO) hs hO A ys.length c (ys.flatMap cCO) hx hR (by intro u hu; obtain ⟨o, _, hu⟩ := List.mem_flatMap.1 hu; simp [cCO] at hu; rcases hu with rfl | rfl <;> rfl) (by unfold maxLen; omega) (by omega) hbase ?_
 intro v' w' hown hgrow _
 have hO' : OCOS w' base v' (xs ++ ys) := by unfold OCOS; simpa using hown
 have hO2 := hO'
 obtain ⟨_, A', c', rfl, _⟩ := hO2.rd
 simp only [List.length_append] at hO' ⊢
 exact h A' c' w' hO' (Chg.of_grown hgrow)
end Go.Proofs.YtfgopboddkhckaaGreatDoor
