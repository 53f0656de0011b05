/-
  The law FnConsole: the console stays valid, and the lines of a text are executed one after the other, for all arguments; no condition.
-/
import Derived.Test.YtfgopboddkhckaaGreatDoorKa17
import Derived.Test.YtfgopboddkhckaaGreatDoorKa18
import Derived.Test.YtfgopboddkhckaaGreatDoorKa20
import Derived.Test.YtfgopboddkhckaaGreatDoorKa22
import Derived.Test.YtfgopboddkhckaaGreatDoorKa23
import Derived.Test.YtfgopboddkhckaaGreatDoorKa24
import Derived.Test.YtfgopboddkhckaaGreatDoorKa25
import Derived.Test.YtfgopboddkhckaaGreatDoorKa26
namespace Go.Proofs.YtfgopboddkhckaaGreatDoor
open Go.ChangeShapes Go.WideShapes Go.ChangeAt Go.RowKit Go.Sort Go.Joins
set_option linter.unusedVariables false
set_option maxRecDepth 100000

theorem PMem.newed (w : World) (L P : Nat) (T : TypeId) : PMem ((((w.alloc (.map #[] 0)).alloc (.map #[] 0)).alloc (.map #[] 0)).alloc (.cells #[.int .i64 (L : Int), .int .i64 (P : Int), .map (some w.heap.size), .map (some (w.heap.size + 1)), .map (some (w.heap.size + 1 + 1))] T)) (w.heap.size + 1 + 1 + 1) L P w.heap.size (w.heap.size + 1) (w.heap.size + 1 + 1) := by
  refine ⟨⟨by simp [go_sem], by simp [go_sem], by simp [go_sem], by simp [go_sem], by simp [go_sem]⟩, ⟨fun _ => none, fun _ => none, fun _ => none, ?_, ?_, ?_, fun t lo hi => .inl ⟨rfl, rfl⟩⟩, by omega, by omega, by omega, by omega, by omega, by omega⟩
  · exact (((MapS.new w).of_block ((ext_alloc1 _ _).block _ (by simp))).of_block ((ext_alloc1 _ _).block _ (by simp <;> omega))).of_block ((ext_alloc1 _ _).block _ (by simp <;> omega))
  · have h := ((MapS.new (w.alloc (.map #[] 0))).of_block ((ext_alloc1 _ (.map #[] 0)).block _ (by simp))).of_block ((ext_alloc1 _ (.cells #[.int .i64 (L : Int), .int .i64 (P : Int), .map (some w.heap.size), .map (some (w.heap.size + 1)), .map (some (w.heap.size + 1 + 1))] T)).block _ (by simp <;> omega))
    rwa [show (w.alloc (.map #[] 0)).heap.size = w.heap.size + 1 by simp] at h
  · have h := (MapS.new ((w.alloc (.map #[] 0)).alloc (.map #[] 0))).of_block ((ext_alloc1 _ (.cells #[.int .i64 (L : Int), .int .i64 (P : Int), .map (some w.heap.size), .map (some (w.heap.size + 1)), .map (some (w.heap.size + 1 + 1))] T)).block _ (by simp))
    rwa [show ((w.alloc (.map #[] 0)).alloc (.map #[] 0)).heap.size = w.heap.size + 1 + 1 by simp] at h
theorem impl_newPair (L P : Nat) (w : World) :
    Calls Tryz.prog 162 #[.int .i64 (L : Int), .int .i64 (P : Int)] w fun e w' => ∃ p bb bk bd, e = .returned (.pointer (some ⟨p, 0, none⟩)) ∧ PMem w' p L P bb bk bd ∧ w.heap.size ≤ bb ∧ w.heap.size ≤ bk ∧ w.heap.size ≤ bd ∧ Below w.heap.size w w' := by
  have hmm := @run_makeMap Tryz.prog
  go_enter Tryz.func162, Tryz.ntmps162
  go_wp2_with fail
  go_ret
  exact ⟨_, _, _, _, rfl, PMem.newed w L P _, by omega, by omega, by omega, ext_alloc (ext_alloc (ext_alloc (ext_alloc1 _ _) _) _) _⟩
set_option maxHeartbeats 1600000 in
theorem impl_search (p L P bb bk bd : Nat) (hP : 1 ≤ P) (hL1 : 1 ≤ L) (hL : L ≤ 80) (w : World) (hM : PMem w p L P bb bk bd) :
    Calls Tryz.prog 163 #[.pointer (some ⟨p, 0, none⟩)] w fun e w' => e = .returned (.tuple #[PVv ((pB L P L 0 0 0).getD PV.zero), .bool (pB L P L 0 0 0).isSome]) ∧ ∃ w1, Chg (S3 bb bk bd) w w1 ∧ Below w.heap.size w1 w' := by
  have HLT := hM.lt
  have HC : Hid (∀ W, PMem W p L P bb bk bd → Calls Tryz.prog 215 #[.pointer (some ⟨p, 0, none⟩), .agg #[.int .i64 0, .int .i64 0, .int .i64 0]] W (FromP L P L 0 0 0 p bb bk bd W)) := Lib.hid (fun W h => impl_from p L P bb bk bd hP hL L 0 0 0 (by omega) (by omega) (by omega) (by omega) (by omega) W h)
  have HB : Hid (B4 (w.alloc (.cells #[.int .i64 0, .int .i64 0, .string ⟨#[]⟩, .string ⟨#[]⟩] 183)) w.heap.size PV.zero) := Lib.hid (B4.new w PV.zero _)
  obtain ⟨o, ho⟩ : ∃ o, pB L P L 0 0 0 = o := ⟨_, rfl⟩
  unfold FromP at HC
  rw [ho] at HC
  rw [ho]
  clear ho
  have HM := Lib.hid hM
  clear hM
  go_enter Tryz.func163, Tryz.ntmps163
  go_wp2_with fail
  refine (show Calls _ _ _ _ _ from HC.out _ (HM.out.ext (ext_alloc1 _ _))).mono ?_
  rintro e w1 ⟨rfl, hm, hc⟩
  have HY := HB.out.chg hc (by unfold S3; omega)
  have HCC := Lib.hid ((Chg.of_below (ext_alloc1 w (.cells #[.int .i64 0, .int .i64 0, .string ⟨#[]⟩, .string ⟨#[]⟩] 183)) _).trans hc)
  obtain ⟨v, hv⟩ : ∃ v, o.getD PV.zero = v := ⟨_, rfl⟩
  have HV := Lib.hid hv
  rw [hv]
  have r0 := HY.g0
  have r1 := HY.g1
  have r2 := HY.g2
  have r3 := HY.g3
  have rf := HY.gf
  have HPT := Lib.hid (HY.put v)
  have HCP := Lib.hid (chg_put w1 w.heap.size (.int .i64 (v.c : Int)) (.int .i64 (v.p : Int)) (.string (bsq v.lo)) (.string (bsq v.hi)))
  clear hm hc hv HY HC
  go_wp2_with fail
  obtain ⟨w9, hw9⟩ : ∃ x, ((((w1.setCell ⟨w.heap.size, 0, none⟩ (.int .i64 (v.c : Int))).setCell ⟨w.heap.size, 1, none⟩ (.int .i64 (v.p : Int))).setCell ⟨w.heap.size, 2, none⟩ (.string (bsq v.lo))).setCell ⟨w.heap.size, 3, none⟩ (.string (bsq v.hi))) = x := ⟨_, rfl⟩
  rw [hw9] at HPT HCP
  rw [hw9]
  obtain ⟨u0, u1, u2, u3, _⟩ := HPT.out
  clear hw9
  refine bodyPost_ret (v := .tuple #[.agg #[.int .i64 (v.c : Int), .int .i64 (v.p : Int), .string (bsq v.lo), .string (bsq v.hi)], .bool o.isSome]) (by simp [results, Tryz.results163, go_sem, u0, u1, u2, u3]) rfl ?_
  exact ⟨by rw [HV.out], w1, HCC.out, HCP.out.below HCC.out.size (fun k hk => by subst hk; exact Nat.le_refl _)⟩
theorem mPair_ok {L P : Int} (h : (inB L 1 80 && inB P 1 4) = true) : mPair L P = match pB L.toNat P.toNat L.toNat 0 0 0 with | some v => (bsq v.lo, bsq v.hi, 0) | none => (⟨#[]⟩, ⟨#[]⟩, 3) := by unfold mPair; rw [if_pos h]; cases pB L.toNat P.toNat L.toNat 0 0 0 <;> rfl
theorem mPair_no {L P : Int} (h : (inB L 1 80 && inB P 1 4) = false) : mPair L P = (⟨#[]⟩, ⟨#[]⟩, 2) := by unfold mPair; rw [h]; rfl
def pairC (L P : Int) : Int := if (inB L 1 80 && inB P 1 4) = true then 0 else 2
def RetP3 (r : ByteArray × ByteArray × Int) (w : World) : Ending → World → Prop := Ret (.tuple #[.string r.1, .string r.2.1, .int .i64 r.2.2]) w
theorem impl_isPair (L : Int) (w : World) : Calls Tryz.prog 214 #[.int .i64 L] w (RetP (.bool (inB L 1 80)) w) := by
  go_enter Tryz.func214, Tryz.ntmps214
  go_wp2_with fail
  refine (impl_within L 1 80 _).mono ?_
  rintro e w1 ⟨rfl, rfl⟩
  go_wp2_with fail
  go_ret
  exact ⟨rfl, rfl⟩
theorem impl_pairCode (L P : Int) (w : World) : Calls Tryz.prog 161 #[.int .i64 L, .int .i64 P] w (RetP (.int .i64 (pairC L P)) w) := by
  have HV : Hid (pairC L P = if (inB L 1 80 && inB P 1 4) = true then 0 else 2) := Lib.hid rfl
  obtain ⟨x, hx⟩ : ∃ x, inB L 1 80 = x := ⟨_, rfl⟩
  obtain ⟨y, hy⟩ : ∃ y, inB P 1 4 = y := ⟨_, rfl⟩
  have HI := Lib.hid (fun w => RetP.bool (impl_isPair L w) hx)
  have HJ := Lib.hid (fun w => RetP.bool (impl_within P 1 4 w) hy)
  rw [hx, hy] at HV
  clear hx hy
  go_enter Tryz.func161, Tryz.ntmps161
  go_wp2_with fail
  refine (show Calls _ _ _ _ _ from HI.out _).mono ?_
  rintro e w1 ⟨rfl, rfl⟩
  cases x
  · go_wp2_with fail
    go_ret
    exact ⟨ret_int (by rw [HV.out]; rfl), rfl⟩
  go_wp2_with fail
  refine (show Calls _ _ _ _ _ from HJ.out _).mono ?_
  rintro e w1 ⟨rfl, rfl⟩
  cases y
  · go_wp2_with fail
    go_ret
    exact ⟨ret_int (by rw [HV.out]; rfl), rfl⟩
  · go_wp2_with fail
    go_ret
    exact ⟨ret_int (by rw [HV.out]; rfl), rfl⟩
set_option maxHeartbeats 1600000 in
theorem impl_BestPair (L P : Int) (w : World) : Calls Tryz.prog 95 #[.int .i64 L, .int .i64 P] w (RetP3 (mPair L P) w) := by
  have HPC := Lib.hid (fun w => impl_pairCode L P w)
  unfold pairC at HPC
  cases hb : (inB L 1 80 && inB P 1 4) with
  | false =>
    have HM := Lib.hid (mPair_no hb)
    rw [hb] at HPC
    clear hb
    go_enter Tryz.func95, Tryz.ntmps95
    go_wp2_with fail
    refine (show Calls _ _ _ _ _ from HPC.out _).mono ?_
    rintro e w1 ⟨rfl, rfl⟩
    dsimp only [Bool.false_eq_true, if_false]
    go_wp2_with fail
    refine bodyPost_ret (v := .tuple #[.string ⟨#[]⟩, .string ⟨#[]⟩, .int .i64 2]) (by simp [results, Tryz.results95, go_sem]) rfl ?_
    unfold RetP3
    rw [HM.out]
    exact ⟨rfl, ext_refl _⟩
  | true =>
    have HM := Lib.hid (mPair_ok hb)
    rw [hb] at HPC
    simp only [Bool.and_eq_true] at hb
    have hL := inB_iff.1 hb.1
    have hPP := inB_iff.1 hb.2
    obtain ⟨l, hl⟩ : ∃ l : Nat, L = l := ⟨L.toNat, by omega⟩
    obtain ⟨q, hq⟩ : ∃ q : Nat, P = q := ⟨P.toNat, by omega⟩
    subst hl hq
    rw [Int.toNat_natCast, Int.toNat_natCast] at HM
    clear hb
    have HS := Lib.hid (fun p bb bk bd w h => impl_search p l q bb bk bd (by omega) (by omega) (by omega) w h)
    obtain ⟨o, ho⟩ : ∃ o, pB l q l 0 0 0 = o := ⟨_, rfl⟩
    rw [ho] at HM HS
    clear ho
    go_enter Tryz.func95, Tryz.ntmps95
    go_wp2_with fail
    refine (show Calls _ _ _ _ _ from HPC.out _).mono ?_
    rintro e w1 ⟨rfl, rfl⟩
    dsimp only [if_true]
    go_wp2_with fail
    refine (impl_newPair l q _).mono ?_
    rintro e w2 ⟨p, bb, bk, bd, rfl, hm, g1, g2, g3, hb2⟩
    have HMM := Lib.hid hm
    have HB2 := Lib.hid hb2
    clear hm hb2
    go_wp2_with fail
    refine (show Calls _ _ _ _ _ from HS.out p bb bk bd _ HMM.out).mono ?_
    rintro e w3 ⟨rfl, w4, hc, hb⟩
    have HB3 : Hid (Below w.heap.size w w3) := Lib.hid ((HB2.out.trans (hc.below HB2.out.size (fun k hk => by unfold S3 at hk; omega))).trans (hb.mono HB2.out.size))
    clear hc hb HB2 HMM HS
    cases o with
    | none =>
      dsimp only [Option.getD, Option.isSome]
      go_wp2_with fail
      refine bodyPost_ret (v := .tuple #[.string ⟨#[]⟩, .string ⟨#[]⟩, .int .i64 3]) (by simp [results, Tryz.results95, go_sem]) rfl ?_
      unfold RetP3
      rw [HM.out]
      exact ⟨rfl, ext_alloc HB3.out _⟩
    | some v =>
      dsimp only [Option.getD, Option.isSome]
      go_wp2_with fail
      go_region
      all_goals
        go_wp2_with fail
        refine bodyPost_ret (v := .tuple #[.string (bsq v.lo), .string (bsq v.hi), .int .i64 0]) (by simp [results, Tryz.results95, go_sem]) rfl ?_
        unfold RetP3
        rw [HM.out]
        exact ⟨rfl, ext_drew (ext_alloc HB3.out _)⟩
end Go.Proofs.YtfgopboddkhckaaGreatDoor
namespace Go.Proofs.YtfgopboddkhckaaGreatDoor
open Go.ChangeShapes Go.WideShapes Go.ChangeAt Go.RowKit Go.Sort Go.Joins
set_option linter.unusedVariables false
set_option maxRecDepth 100000
theorem exPair_eq {d : DK} {n m y : Int} {lo hi : ByteArray} (h : mPair n m = (lo, hi, y)) : (exPair d n m).2.2 = y ∧ (y = 0 → exPair d n m = (d, [pairT lo hi], 0)) := by
  unfold exPair; rw [h]
  by_cases h : y = 0
  · rw [if_pos h]; exact ⟨h.symm, fun _ => rfl⟩
  · rw [if_neg h]; exact ⟨rfl, fun h2 => absurd h2 h⟩
set_option maxHeartbeats 3200000 in
theorem impl_ex_pair (w00 W : World) (q : Nat) (d : DK) (A : Option Addr) (c : Nat) (B : Option Addr) (e : Nat) (hD : DB W w00.heap.size q d A c B e) (hb0 : Below w00.heap.size w00 W) (Aw : Option Addr) (cw : Nat) (l : List ByteArray) (hw : RStr W (.slice Aw l.length cw) l) (hl : l.length = 3) (hx : gd l 0 = cmW .pair) (n1 n2 : Int) (An : Option Addr) (cn : Nat) (hn : RI W (.slice An 2 cn) [n1, n2]) :
    Calls Tryz.prog 44 #[.pointer (some ⟨q, 0, none⟩), .slice Aw l.length cw, .slice An 2 cn] W (ExP (exPair d n1 n2) W w00.heap.size q) := by
  have HD := Lib.hid hD
  have HB0 := Lib.hid hb0
  obtain ⟨ad, rfl, _, hc⟩ := hw.at (k := 0) (by omega)
  have w0 := hc 0 (by omega)
  rw [Addr.add_zero'] at w0
  obtain ⟨x0, hx0⟩ : ∃ x, gd l 0 = x := ⟨_, rfl⟩
  rw [hx0] at w0 hx
  have hx0 := hx
  obtain ⟨p0, q0⟩ := lit_neC (x := x0) (l := [102, 111, 114, 109, 97, 116]) (by rw [hx0]; decide)
  obtain ⟨p1, q1⟩ := lit_neC (x := x0) (l := [98, 111, 110, 100]) (by rw [hx0]; decide)
  obtain ⟨p2, q2⟩ := lit_neC (x := x0) (l := [119, 97, 108, 108]) (by rw [hx0]; decide)
  obtain ⟨p3, q3⟩ := lit_neC (x := x0) (l := [115, 104, 111, 119]) (by rw [hx0]; decide)
  obtain ⟨p4, q4⟩ := lit_neC (x := x0) (l := [99, 104, 101, 99, 107]) (by rw [hx0]; decide)
  obtain ⟨p5, q5⟩ := lit_neC (x := x0) (l := [99, 111, 117, 110, 116]) (by rw [hx0]; decide)
  have he : x0.toList = [112, 97, 105, 114] := by rw [hx0, ByteArray.toList_eq]; rfl
  obtain ⟨an, rfl, _, hcn⟩ := hn.at2 (k := 0) (by simp)
  have m0 := hcn 0 (by simp)
  rw [Addr.add_zero'] at m0
  have m1 := hcn 1 (by simp)
  rw [addr_succ] at m1
  replace m0 : W.cell? an = some (.int .i64 n1) := m0
  replace m1 : W.cell? ⟨an.block, an.off + 1, none⟩ = some (.int .i64 n2) := m1
  clear hcn
  have i0 : (0 : Int) < l.length := by omega
  have HBP := Lib.hid (fun W' => impl_BestPair n1 n2 W')
  have hsz := mPair_size n1 n2
  obtain ⟨⟨lo, hi, y⟩, hM⟩ : ∃ M, mPair n1 n2 = M := ⟨_, rfl⟩
  have HEX := Lib.hid (exPair_eq (d := d) hM)
  rw [hM] at HBP hsz
  replace HBP : Hid (∀ W', Calls Tryz.prog 95 #[.int .i64 n1, .int .i64 n2] W' (Ret (.tuple #[.string lo, .string hi, .int .i64 y]) W')) := HBP
  replace hsz : lo.size ≤ 80 ∧ hi.size ≤ 80 := hsz
  obtain ⟨z1, z2⟩ := hsz
  have s1 : ¬ 9223372036854775807 < lo.size + 1 := by omega
  have s2 : ¬ 9223372036854775807 < lo.size + 1 + hi.size := by omega
  clear hM z1 z2 hD hw hx hx0 hc hn hl hb0
  go_enter Tryz.func44, Tryz.ntmps44
  replace m0 := fun d os => cell_regrown m0 d os
  replace m1 := fun d os => cell_regrown m1 d os
  go_wp2_with fail
  refine wp_region_quiet_below (by kernel_rfl) (by kernel_rfl) ?_
  repeat (go_big_quiet_step ((go_at_call 95; exact regrown_r (HBP.out _))))
  refine wpQuiet_nil ?_
  intro w' hw'
  obtain ⟨p, rfl⟩ := hw'
  have HB := Lib.hid (below_regrown W p.d p.os)
  generalize (grow (redrawn W p.d) p.os) = W1 at *
  clear m0 m1
  go_wp2_with fail
  go_ret2
  exact ExP.said (r := exPair d n1 n2) (t := pairT lo hi) HEX.out.1 HEX.out.2 (HD.out.ext HB.out) (Chg.of_below HB.out _)
end Go.Proofs.YtfgopboddkhckaaGreatDoor
namespace Go.Proofs.YtfgopboddkhckaaGreatDoor
open Go.ChangeShapes Go.WideShapes Go.ChangeAt Go.RowKit Go.Sort Go.Joins
set_option linter.unusedVariables false
set_option maxRecDepth 100000
theorem impl_execute (c : CM) (w00 W : World) (q : Nat) (d : DK) (A : Option Addr) (cc : Nat) (B : Option Addr) (e : Nat) (hD : DB W w00.heap.size q d A cc B e) (hb0 : Below w00.heap.size w00 W) (Aw : Option Addr) (cw : Nat) (l : List ByteArray) (hw : RStr W (.slice Aw l.length cw) l) (hl : l.length = (cmF c).length + 1) (hx : gd l 0 = cmW c) (hwq : ∀ ad, Aw = some ad → ad.block ≠ q) (hsz : ∀ k, k < l.length → (gd l k).size ≤ 1048576)
    (An : Option Addr) (cn : Nat) (xs : List Int) (hn : RI W (.slice An xs.length cn) xs) (hxs : xs = nmL c l (cmF c).length) (hE : Env w00) (hT : LibT w00) (hV : vDK d = true) :
    Calls Tryz.prog 44 #[.pointer (some ⟨q, 0, none⟩), .slice Aw l.length cw, .slice An xs.length cn] W (ExP (mExec d c l) W w00.heap.size q) := by
  subst hxs
  cases c with
  | bond => exact impl_ex_bond w00 W q d A cc B e hD hb0 Aw cw l hw hl hx _ hE hT hV
  | check => exact impl_ex_check w00 W q d A cc B e hD hb0 Aw cw l hw hl hx _ An cn hn hE hV
  | count => exact impl_ex_count w00 W q d A cc B e hD hb0 Aw cw l hw hl hx _ hE hV
  | enter => exact impl_ex_enter w00 W q d A cc B e hD hb0 Aw cw l hw hl hx _ _ An cn hn hwq (hsz 2 (by rw [hl]; decide)) hE hV
  | format => exact impl_ex_format w00 W q d A cc B e hD hb0 Aw cw l hw hl hx hsz _ hE
  | height => exact impl_ex_height w00 W q d A cc B e hD hb0 Aw cw l hw hl hx _ An cn hn hE
  | length => exact impl_ex_length w00 W q d A cc B e hD hb0 Aw cw l hw hl hx _ An cn hn hE
  | log => exact impl_ex_log w00 W q d A cc B e hD hb0 Aw cw l hw hl hx _ hE hV
  | pair => exact impl_ex_pair w00 W q d A cc B e hD hb0 Aw cw l hw hl hx _ _ An cn hn
  | show_ => exact impl_ex_show w00 W q d A cc B e hD hb0 Aw cw l hw hl hx _ hE hV
  | wall => exact impl_ex_wall w00 W q d A cc B e hD hb0 Aw cw l hw hl hx _ _ An cn hn hE hV
end Go.Proofs.YtfgopboddkhckaaGreatDoor
namespace Go.Proofs.YtfgopboddkhckaaGreatDoor
open Go.ChangeShapes Go.WideShapes Go.ChangeAt Go.RowKit Go.Sort Go.Joins
set_option linter.unusedVariables false
set_option maxRecDepth 100000
theorem impl_DeskCommand (v : Value) (d : DK) (line : ByteArray) (w : World) (ha : RDK w v d) (hsm : SmDK d) (hs : line.size ≤ 1048576) (hE : EnvK w) :
    Calls Tryz.prog 11 #[v, .string line] w (RetD (mDesk d line) w) := impl_DeskCommand0 impl_execute v d line w ha hsm hs hE
end Go.Proofs.YtfgopboddkhckaaGreatDoor
namespace Go.Proofs.YtfgopboddkhckaaGreatDoor
open Go.ChangeShapes Go.WideShapes Go.ChangeAt Go.RowKit Go.Sort Go.Joins
theorem holds_FnConsole : Rows.FnConsoleCardSaid :=
  holdsC_FnConsole fun v x w hE hR => law_FnConsole0 (fun _ hE v d line W hb h1 h2 h3 => impl_DeskCommand v d line W h1 h2 h3 (hE.ext hb)) v x w hE hR
end Go.Proofs.YtfgopboddkhckaaGreatDoor
