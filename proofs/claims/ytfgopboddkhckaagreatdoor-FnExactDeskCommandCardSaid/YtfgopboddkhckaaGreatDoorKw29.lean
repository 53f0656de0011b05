/-
  Parts of the proof: Pb3, Ex6, Ex9, Ss5.
-/
import Derived.Test.YtfgopboddkhckaaGreatDoorKw26
import Derived.Test.YtfgopboddkhckaaGreatDoorKw28
namespace Go.Proofs.YtfgopboddkhckaaGreatDoor
open Go.ChangeShapes Go.WideShapes Go.ChangeAt Go.RowKit Go.Sort Go.Joins
set_option linter.unusedVariables false
set_option maxRecDepth 100000
theorem PMem.newed (w : World) (L P : Nat) (T : TypeId) : PMem ((((w.alloc (.map #[] 0)).alloc (.map #[] 0)).alloc (.map #[] 0)).alloc (.cells #[.int .i64 (L : Int), .int .i64 (P : Int), .map (some w.heap.size), .map (some (w.heap.size + 1)), .map (some (w.heap.size + 1 + 1))] T)) (w.heap.size + 1 + 1 + 1) L P w.heap.size (w.heap.size + 1) (w.heap.size + 1 + 1) := by
 refine ⟨⟨by simp [go_sem], by simp [go_sem], by simp [go_sem], by simp [go_sem], by simp [go_sem]⟩, ⟨fun _ => none, fun _ => none, fun _ => none, ?_, ?_, ?_, fun t lo hi => .inl ⟨rfl, rfl⟩⟩, by omega, by omega, by omega, by omega, by omega, by omega⟩
 · exact (((MapS.new w).of_block ((ext_alloc1 _ _).block _ (by simp))).of_block ((ext_alloc1 _ _).block _ (by simp <;> omega))).of_block ((ext_alloc1 _ _).block _ (by simp <;> omega))
 · have h := ((MapS.new (w.alloc (.map #[] 0))).of_block ((ext_alloc1 _ (.map #[] 0)).block _ (by simp))).of_block ((ext_alloc1 _ (.cells #[.int .i64 (L : Int), .int .i64 (P : Int), .map (some w.heap.size), .map (some (w.heap.size + 1)), .map (some (w.heap.size + 1 + 1))] T)).block _ (by simp <;> omega))
   rwa [show (w.alloc (.map #[] 0)).heap.size = w.heap.size + 1 by simp] at h
 · have h := (MapS.new ((w.alloc (.map #[] 0)).alloc (.map #[] 0))).of_block ((ext_alloc1 _ (.cells #[.int .i64 (L : Int), .int .i64 (P : Int), .map (some w.heap.size), .map (some (w.heap.size + 1)), .map (some (w.heap.size + 1 + 1))] T)).block _ (by simp))
   rwa [show ((w.alloc (.map #[] 0)).alloc (.map #[] 0)).heap.size = w.heap.size + 1 + 1 by simp] at h
theorem impl_newPair (L P : Nat) (w : World) :
   Calls Tryz.prog 162 #[.int .i64 (L : Int), .int .i64 (P : Int)] w fun e w' => ∃ p bb bk bd, e = .returned (.pointer (some ⟨p, 0, none⟩)) ∧ PMem w' p L P bb bk bd ∧ w.heap.size ≤ bb ∧ w.heap.size ≤ bk ∧ w.heap.size ≤ bd ∧ Below w.heap.size w w' := by
 have hmm := @run_makeMap Tryz.prog
 go_enter Tryz.func162, Tryz.ntmps162
 go_wp2_with fail
 go_ret
 exact ⟨_, _, _, _, rfl, PMem.newed w L P _, by omega, by omega, by omega, ext_alloc (ext_alloc (ext_alloc (ext_alloc1 _ _) _) _) _⟩
set_option maxHeartbeats 1600000 in
theorem impl_search (p L P bb bk bd : Nat) (hP : 1 ≤ P) (hL1 : 1 ≤ L) (hL : L ≤ 80) (w : World) (hM : PMem w p L P bb bk bd) :
   Calls Tryz.prog 163 #[.pointer (some ⟨p, 0, none⟩)] w fun e w' => e = .returned (.tuple #[PVv ((pB L P L 0 0 0).getD PV.zero), .bool (pB L P L 0 0 0).isSome]) ∧ ∃ w1, Chg (S3 bb bk bd) w w1 ∧ Below w.heap.size w1 w' := by
 have HLT := hM.lt
 have HC : Hid (∀ W, PMem W p L P bb bk bd → Calls Tryz.prog 215 #[.pointer (some ⟨p, 0, none⟩), .agg #[.int .i64 0, .int .i64 0, .int .i64 0]] W (FromP L P L 0 0 0 p bb bk bd W)) := Lib.hid (fun W h => impl_from p L P bb bk bd hP hL L 0 0 0 (by omega) (by omega) (by omega) (by omega) (by omega) W h)
 have HB : Hid (B4 (w.alloc (.cells #[.int .i64 0, .int .i64 0, .string ⟨#[]⟩, .string ⟨#[]⟩] 183)) w.heap.size PV.zero) := Lib.hid (B4.new w PV.zero _)
 obtain ⟨o, ho⟩ : ∃ o, pB L P L 0 0 0 = o := ⟨_, rfl⟩
 unfold FromP at HC
 rw [ho] at HC
 rw [ho]
 clear ho
 have HM := Lib.hid hM
 clear hM
 go_enter Tryz.func163, Tryz.ntmps163
 go_wp2_with fail
 refine (show Calls _ _ _ _ _ from HC.out _ (HM.out.ext (ext_alloc1 _ _))).mono ?_
 rintro e w1 ⟨rfl, hm, hc⟩
 have HY := HB.out.chg hc (by unfold S3; omega)
 have HCC := Lib.hid ((Chg.of_below (ext_alloc1 w (.cells #[.int .i64 0, .int .i64 0, .string ⟨#[]⟩, .string ⟨#[]⟩] 183)) _).trans hc)
 obtain ⟨v, hv⟩ : ∃ v, o.getD PV.zero = v := ⟨_, rfl⟩
 have HV := Lib.hid hv
 rw [hv]
 have r0 := HY.g0
 have r1 := HY.g1
 have r2 := HY.g2
 have r3 := HY.g3
 have rf := HY.gf
 have HPT := Lib.hid (HY.put v)
 have HCP := Lib.hid (chg_put w1 w.heap.size (.int .i64 (v.c : Int)) (.int .i64 (v.p : Int)) (.string (bsq v.lo)) (.string (bsq v.hi)))
 clear hm hc hv HY HC
 go_wp2_with fail
 obtain ⟨w9, hw9⟩ : ∃ x, ((((w1.setCell ⟨w.heap.size, 0, none⟩ (.int .i64 (v.c : Int))).setCell ⟨w.heap.size, 1, none⟩ (.int .i64 (v.p : Int))).setCell ⟨w.heap.size, 2, none⟩ (.string (bsq v.lo))).setCell ⟨w.heap.size, 3, none⟩ (.string (bsq v.hi))) = x := ⟨_, rfl⟩
 rw [hw9] at HPT HCP
 rw [hw9]
 obtain ⟨u0, u1, u2, u3, _⟩ := HPT.out
 clear hw9
 refine bodyPost_ret (v := .tuple #[.agg #[.int .i64 (v.c : Int), .int .i64 (v.p : Int), .string (bsq v.lo), .string (bsq v.hi)], .bool o.isSome]) (by simp [results, Tryz.results163, go_sem, u0, u1, u2, u3]) rfl ?_
 exact ⟨by rw [HV.out], w1, HCC.out, HCP.out.below HCC.out.size (fun k hk => by subst hk; exact Nat.le_refl _)⟩
theorem mPair_ok {L P : Int} (h : (inB L 1 80 && inB P 1 4) = true) : mPair L P = match pB L.toNat P.toNat L.toNat 0 0 0 with | some v => (bsq v.lo, bsq v.hi, 0) | none => (⟨#[]⟩, ⟨#[]⟩, 3) := by unfold mPair; rw [if_pos h]; cases pB L.toNat P.toNat L.toNat 0 0 0 <;> rfl
theorem mPair_no {L P : Int} (h : (inB L 1 80 && inB P 1 4) = false) : mPair L P = (⟨#[]⟩, ⟨#[]⟩, 2) := by unfold mPair; rw [h]; rfl
def pairC (L P : Int) : Int := if (inB L 1 80 && inB P 1 4) = true then 0 else 2
def RetP3 (r : ByteArray × ByteArray × Int) (w : World) : Ending → World → Prop := Ret (.tuple #[.string r.1, .string r.2.1, .int .i64 r.2.2]) w
theorem impl_isPair (L : Int) (w : World) : Calls Tryz.prog 214 #[.int .i64 L] w (RetP (.bool (inB L 1 80)) w) := by
 go_enter Tryz.func214, Tryz.ntmps214
 go_wp2_with fail
 refine (impl_within L 1 80 _).mono ?_
 rintro e w1 ⟨rfl, rfl⟩
 go_wp2_with fail
 go_ret
 exact ⟨rfl, rfl⟩
theorem impl_pairCode (L P : Int) (w : World) : Calls Tryz.prog 161 #[.int .i64 L, .int .i64 P] w (RetP (.int .i64 (pairC L P)) w) := by
 have HV : Hid (pairC L P = if (inB L 1 80 && inB P 1 4) = true then 0 else 2) := Lib.hid rfl
 obtain ⟨x, hx⟩ : ∃ x, inB L 1 80 = x := ⟨_, rfl⟩
 obtain ⟨y, hy⟩ : ∃ y, inB P 1 4 = y := ⟨_, rfl⟩
 have HI := Lib.hid (fun w => RetP.bool (impl_isPair L w) hx)
 have HJ := Lib.hid (fun w => RetP.bool (impl_within P 1 4 w) hy)
 rw [hx, hy] at HV
 clear hx hy
 go_enter Tryz.func161, Tryz.ntmps161
 go_wp2_with fail
 refine (show Calls _ _ _ _ _ from HI.out _).mono ?_
 rintro e w1 ⟨rfl, rfl⟩
 cases x
 · go_wp2_with fail
   go_ret
   exact ⟨ret_int (by rw [HV.out]; rfl), rfl⟩
 go_wp2_with fail
 refine (show Calls _ _ _ _ _ from HJ.out _).mono ?_
 rintro e w1 ⟨rfl, rfl⟩
 cases y
 · go_wp2_with fail
   go_ret
   exact ⟨ret_int (by rw [HV.out]; rfl), rfl⟩
 · go_wp2_with fail
   go_ret
   exact ⟨ret_int (by rw [HV.out]; rfl), rfl⟩
set_option maxHeartbeats 1600000 in
theorem impl_BestPair (L P : Int) (w : World) : Calls Tryz.prog 95 #[.int .i64 L, .int .i64 P] w (RetP3 (mPair L P) w) := by
 have HPC := Lib.hid (fun w => impl_pairCode L P w)
 unfold pairC at HPC
 cases hb : (inB L 1 80 && inB P 1 4) with
 | false =>
   have HM := Lib.hid (mPair_no hb)
   rw [hb] at HPC
   clear hb
   go_enter Tryz.func95, Tryz.ntmps95
   go_wp2_with fail
   refine (show Calls _ _ _ _ _ from HPC.out _).mono ?_
   rintro e w1 ⟨rfl, rfl⟩
   dsimp only [Bool.false_eq_true, if_false]
   go_wp2_with fail
   refine bodyPost_ret (v := .tuple #[.string ⟨#[]⟩, .string ⟨#[]⟩, .int .i64 2]) (by simp [results, Tryz.results95, go_sem]) rfl ?_
   unfold RetP3
   rw [HM.out]
   exact ⟨rfl, ext_refl _⟩
 | true =>
   have HM := Lib.hid (mPair_ok hb)
   rw [hb] at HPC
   simp only [Bool.and_eq_true] at hb
   have hL := inB_iff.1 hb.1
   have hPP := inB_iff.1 hb.2
   obtain ⟨l, hl⟩ : ∃ l : Nat, L = l := ⟨L.toNat, by omega⟩
   obtain ⟨q, hq⟩ : ∃ q : Nat, P = q := ⟨P.toNat, by omega⟩
   subst hl hq
   rw [Int.toNat_natCast, Int.toNat_natCast] at HM
   clear hb
   have HS := Lib.hid (fun p bb bk bd w h => impl_search p l q bb bk bd (by omega) (by omega) (by omega) w h)
   obtain ⟨o, ho⟩ : ∃ o, pB l q l 0 0 0 = o := ⟨_, rfl⟩
   rw [ho] at HM HS
   clear ho
   go_enter Tryz.func95, Tryz.ntmps95
   go_wp2_with fail
   refine (show Calls _ _ _ _ _ from HPC.out _).mono ?_
   rintro e w1 ⟨rfl, rfl⟩
   dsimp only [if_true]
   go_wp2_with fail
   refine (impl_newPair l q _).mono ?_
   rintro e w2 ⟨p, bb, bk, bd, rfl, hm, g1, g2, g3, hb2⟩
   have HMM := Lib.hid hm
   have HB2 := Lib.hid hb2
   clear hm hb2
   go_wp2_with fail
   refine (show Calls _ _ _ _ _ from HS.out p bb bk bd _ HMM.out).mono ?_
   rintro e w3 ⟨rfl, w4, hc, hb⟩
   have HB3 : Hid (Below w.heap.size w w3) := Lib.hid ((HB2.out.trans (hc.below HB2.out.size (fun k hk => by unfold S3 at hk; omega))).trans (hb.mono HB2.out.size))
   clear hc hb HB2 HMM HS
   cases o with
   | none =>
     dsimp only [Option.getD, Option.isSome]
     go_wp2_with fail
     refine bodyPost_ret (v := .tuple #[.string ⟨#[]⟩, .string ⟨#[]⟩, .int .i64 3]) (by simp [results, Tryz.results95, go_sem]) rfl ?_
     unfold RetP3
     rw [HM.out]
     exact ⟨rfl, ext_alloc HB3.out _⟩
   | some v =>
     dsimp only [Option.getD, Option.isSome]
     go_wp2_with fail
     go_region
     all_goals
       go_wp2_with fail
       refine bodyPost_ret (v := .tuple #[.string (bsq v.lo), .string (bsq v.hi), .int .i64 0]) (by simp [results, Tryz.results95, go_sem]) rfl ?_
       unfold RetP3
       rw [HM.out]
       exact ⟨rfl, ext_drew (ext_alloc HB3.out _)⟩
theorem exPair_eq {d : DK} {n m y : Int} {lo hi : ByteArray} (h : mPair n m = (lo, hi, y)) : (exPair d n m).2.2 = y ∧ (y = 0 → exPair d n m = (d, [pairT lo hi], 0)) := by
 unfold exPair; rw [h]
 by_cases h : y = 0
 · rw [if_pos h]; exact ⟨h.symm, fun _ => rfl⟩
 · rw [if_neg h]; exact ⟨rfl, fun h2 => absurd h2 h⟩
set_option maxHeartbeats 3200000 in
theorem impl_ex_pair (w00 W : World) (q : Nat) (d : DK) (A : Option Addr) (c : Nat) (B : Option Addr) (e : Nat) (hD : DB W w00.heap.size q d A c B e) (hb0 : Below w00.heap.size w00 W) (Aw : Option Addr) (cw : Nat) (l : List ByteArray) (hw : RStr W (.slice Aw l.length cw) l) (hl : l.length = 3) (hx : gd l 0 = cmW .pair) (n1 n2 : Int) (An : Option Addr) (cn : Nat) (hn : RI W (.slice An 2 cn) [n1, n2]) :
   Calls Tryz.prog 44 #[.pointer (some ⟨q, 0, none⟩), .slice Aw l.length cw, .slice An 2 cn] W (ExP (exPair d n1 n2) W w00.heap.size q) := by
 have HD := Lib.hid hD
 have HB0 := Lib.hid hb0
 obtain ⟨ad, rfl, _, hc⟩ := hw.at (k := 0) (by omega)
 have w0 := hc 0 (by omega)
 rw [Addr.add_zero'] at w0
 obtain ⟨x0, hx0⟩ : ∃ x, gd l 0 = x := ⟨_, rfl⟩
 rw [hx0] at w0 hx
 have hx0 := hx
 obtain ⟨p0, q0⟩ := lit_neC (x := x0) (l := [102, 111, 114, 109, 97, 116]) (by rw [hx0]; decide)
 obtain ⟨p1, q1⟩ := lit_neC (x := x0) (l := [98, 111, 110, 100]) (by rw [hx0]; decide)
 obtain ⟨p2, q2⟩ := lit_neC (x := x0) (l := [119, 97, 108, 108]) (by rw [hx0]; decide)
 obtain ⟨p3, q3⟩ := lit_neC (x := x0) (l := [115, 104, 111, 119]) (by rw [hx0]; decide)
 obtain ⟨p4, q4⟩ := lit_neC (x := x0) (l := [99, 104, 101, 99, 107]) (by rw [hx0]; decide)
 obtain ⟨p5, q5⟩ := lit_neC (x := x0) (l := [99, 111, 117, 110, 116]) (by rw [hx0]; decide)
 have he : x0.toList = [112, 97, 105, 114] := by rw [hx0, ByteArray.toList_eq]; rfl
 obtain ⟨an, rfl, _, hcn⟩ := hn.at2 (k := 0) (by simp)
 have m0 := hcn 0 (by simp)
 rw [Addr.add_zero'] at m0
 have m1 := hcn 1 (by simp)
 rw [addr_succ] at m1
 replace m0 : W.cell? an = some (.int .i64 n1) := m0
 replace m1 : W.cell? ⟨an.block, an.off + 1, none⟩ = some (.int .i64 n2) := m1
 clear hcn
 have i0 : (0 : Int) < l.length := by omega
 have HBP := Lib.hid (fun W' => impl_BestPair n1 n2 W')
 have hsz := mPair_size n1 n2
 obtain ⟨⟨lo, hi, y⟩, hM⟩ : ∃ M, mPair n1 n2 = M := ⟨_, rfl⟩
 have HEX := Lib.hid (exPair_eq (d := d) hM)
 rw [hM] at HBP hsz
 replace HBP : Hid (∀ W', Calls Tryz.prog 95 #[.int .i64 n1, .int .i64 n2] W' (Ret (.tuple #[.string lo, .string hi, .int .i64 y]) W')) := HBP
 replace hsz : lo.size ≤ 80 ∧ hi.size ≤ 80 := hsz
 obtain ⟨z1, z2⟩ := hsz
 have s1 : ¬ 9223372036854775807 < lo.size + 1 := by omega
 have s2 : ¬ 9223372036854775807 < lo.size + 1 + hi.size := by omega
 clear hM z1 z2 hD hw hx hx0 hc hn hl hb0
 go_enter Tryz.func44, Tryz.ntmps44
 replace m0 := fun d os => cell_regrown m0 d os
 replace m1 := fun d os => cell_regrown m1 d os
 go_wp2_with fail
 refine wp_region_quiet_below (by kernel_rfl) (by kernel_rfl) ?_
 repeat (go_big_quiet_step ((go_at_call 95; exact regrown_r (HBP.out _))))
 refine wpQuiet_nil ?_
 intro w' hw'
 obtain ⟨p, rfl⟩ := hw'
 have HB := Lib.hid (below_regrown W p.d p.os)
 generalize (grow (redrawn W p.d) p.os) = W1 at *
 clear m0 m1
 go_wp2_with fail
 go_ret2
 exact ExP.said (r := exPair d n1 n2) (t := pairT lo hi) HEX.out.1 HEX.out.2 (HD.out.ext HB.out) (Chg.of_below HB.out _)
theorem exCount_eq {d : DK} {ls : List Int} {y : Int} (h : mCount d.wall = (ls, y)) : (exCount d).2.2 = y ∧ (y = 0 → exCount d = (d, [nmT ls], 0)) := by
 unfold exCount; rw [h]
 by_cases h : y = 0
 · rw [if_pos h]; exact ⟨h.symm, fun _ => rfl⟩
 · rw [if_neg h]; exact ⟨rfl, fun h2 => absurd h2 h⟩
theorem count_vals {l : List ByteArray} {ls : List Int} {y : Int} (h : mCount l = (ls, y)) : ls.length ≤ 5 ∧ ∀ x ∈ ls, -9223372036854775808 ≤ x ∧ x ≤ 9223372036854775807 := by
 unfold mCount at h
 split at h
 · rename_i hv
   obtain ⟨h1, h2, h3⟩ := vW_parts hv
   injection h with h _
   subst h
   refine ⟨Nat.le_refl _, fun x hx => ?_⟩
   unfold cntL at hx
   obtain ⟨y, _, rfl⟩ := List.mem_map.1 hx
   have := ctW_bd l (fun k hk => (vCo_parts (h3 k hk)).2.1) y l.length (Nat.le_refl _)
   omega
 · injection h with h _
   subst h
   exact ⟨Nat.zero_le _, fun x hx => absurd hx (by simp)⟩
theorem exLen_eq {d : DK} {n a b y : Int} (h : mLen d.f n = (a, b, y)) : (exLength d n).2.2 = y ∧ (y = 0 → exLength d n = (d, [fracT a b], 0)) := by
 unfold exLength; rw [h]
 by_cases h : y = 0
 · rw [if_pos h]; exact ⟨h.symm, fun _ => rfl⟩
 · rw [if_neg h]; exact ⟨rfl, fun h2 => absurd h2 h⟩
theorem ri2_new (w : World) (a b : Int) : RI (w.alloc (.cells #[.int .i64 a, .int .i64 b] 2)) (.slice (some ⟨w.heap.size, 0, none⟩) 2 2) [a, b] := by
 have h : OI (w.alloc (.cells #[.int .i64 a, .int .i64 b] 2)) w.heap.size (.slice (some ⟨w.heap.size, 0, none⟩) 2 2) [a, b] := World.ownsRow_lit _ #[.int .i64 a, .int .i64 b] 2 (Nat.le_refl _) (by simp [maxLen]) (by simp)
 exact h.rd
theorem nm2 (a b : Int) : bsq (jnL 47 ([a, b].map Lib.itoa)) = fracT a b := by
 apply WideShapes.bytes_inj
 show (jnL 47 ([a, b].map Lib.itoa)) = _
 unfold fracT
 simp [jnL, itb]
set_option maxHeartbeats 3200000 in
theorem impl_ex_count (w00 W : World) (q : Nat) (d : DK) (A : Option Addr) (c : Nat) (B : Option Addr) (e : Nat) (hD : DB W w00.heap.size q d A c B e) (hb0 : Below w00.heap.size w00 W) (Aw : Option Addr) (cw : Nat) (l : List ByteArray) (hw : RStr W (.slice Aw l.length cw) l) (hl : l.length = 1) (hx : gd l 0 = cmW .count) (nv : Value) (hE : Env w00) (hV : vDK d = true) :
   Calls Tryz.prog 44 #[.pointer (some ⟨q, 0, none⟩), .slice Aw l.length cw, nv] W (ExP (exCount d) W w00.heap.size q) := by
 have HD := Lib.hid hD
 have HB0 := Lib.hid hb0
 obtain ⟨ad, rfl, _, hc⟩ := hw.at (k := 0) (by omega)
 have w0 := hc 0 (by omega)
 rw [Addr.add_zero'] at w0
 obtain ⟨x0, hx0⟩ : ∃ x, gd l 0 = x := ⟨_, rfl⟩
 rw [hx0] at w0 hx
 have hx0 := hx
 obtain ⟨p0, q0⟩ := lit_neC (x := x0) (l := [102, 111, 114, 109, 97, 116]) (by rw [hx0]; decide)
 obtain ⟨p1, q1⟩ := lit_neC (x := x0) (l := [98, 111, 110, 100]) (by rw [hx0]; decide)
 obtain ⟨p2, q2⟩ := lit_neC (x := x0) (l := [119, 97, 108, 108]) (by rw [hx0]; decide)
 obtain ⟨p3, q3⟩ := lit_neC (x := x0) (l := [115, 104, 111, 119]) (by rw [hx0]; decide)
 obtain ⟨p4, q4⟩ := lit_neC (x := x0) (l := [99, 104, 101, 99, 107]) (by rw [hx0]; decide)
 have he : x0.toList = [99, 111, 117, 110, 116] := by rw [hx0, ByteArray.toList_eq]; rfl
 have i0 : (0 : Int) < l.length := by omega
 have HLF : Hid (∀ W', Below W.heap.size W W' → LayF W') := Lib.hid fun W' h => (hE.ext (ext_trans hb0 h)).lay
 have hSM := sm_wall (vDK_sm hV)
 have HCP := Lib.hid (fun W' (h : Below W.heap.size W W') => impl_CountPieces B e d.wall W' (hD.own.2.1.rd.ext h) hSM)
 obtain ⟨⟨ls, y⟩, hM⟩ : ∃ M, mCount d.wall = M := ⟨_, rfl⟩
 obtain ⟨c1, c2⟩ := count_vals hM
 have HEX := Lib.hid (exCount_eq hM)
 have HNT : Hid (∀ W' v, RI W' v ls → Below W.heap.size W W' → Calls Tryz.prog 93 #[.string ⟨#[32]⟩, v] W' (Ret (.string (nmT ls)) W')) := Lib.hid fun W' v h hb => impl_numsText 32 v ls W' h (by omega) (fun k hk => c2 _ (by rw [← gd_gi]; exact gd_mem hk)) (HLF.out W' hb)
 rw [hM] at HCP
 replace HCP : Hid (∀ W', Below W.heap.size W W' → Calls Tryz.prog 94 #[.slice B d.wall.length e] W' (RetJ ls y W')) := HCP
 have k6 := HD.out.cells.k6
 obtain ⟨sw, hsw⟩ : ∃ v, Value.slice B d.wall.length e = v := ⟨_, rfl⟩
 rw [hsw] at HCP k6
 clear hsw hM c1 c2 hSM hV hE hD hw hx hx0 hc hl hb0
 go_enter Tryz.func44, Tryz.ntmps44
 go_wp2_with fail
 refine (show Calls _ _ _ _ _ from HCP.out _ (ext_refl _)).mono ?_
 rintro e' W1 ⟨A1, c1, rfl, hO, hb⟩
 have HO := Lib.hid hO
 have HB := Lib.hid hb
 clear hO hb k6
 go_wp2_with fail
 refine (show Calls _ _ _ _ _ from HNT.out _ _ HO.out.rd HB.out).mono ?_
 rintro e' W3 ⟨rfl, hb⟩
 have HB3 := Lib.hid (ext_trans HB.out hb)
 clear hb
 go_wp2_with fail
 go_ret2
 exact ExP.said (r := exCount d) HEX.out.1 HEX.out.2 (HD.out.ext HB3.out) (Chg.of_below HB3.out _)
set_option maxHeartbeats 3200000 in
theorem impl_ex_length (w00 W : World) (q : Nat) (d : DK) (A : Option Addr) (c : Nat) (B : Option Addr) (e : Nat) (hD : DB W w00.heap.size q d A c B e) (hb0 : Below w00.heap.size w00 W) (Aw : Option Addr) (cw : Nat) (l : List ByteArray) (hw : RStr W (.slice Aw l.length cw) l) (hl : l.length = 2) (hx : gd l 0 = cmW .length) (n1 : Int) (An : Option Addr) (cn : Nat) (hn : RI W (.slice An 1 cn) [n1]) (hE : Env w00) :
   Calls Tryz.prog 44 #[.pointer (some ⟨q, 0, none⟩), .slice Aw l.length cw, .slice An 1 cn] W (ExP (exLength d n1) W w00.heap.size q) := by
 have HD := Lib.hid hD
 have HB0 := Lib.hid hb0
 obtain ⟨ad, rfl, _, hc⟩ := hw.at (k := 0) (by omega)
 have w0 := hc 0 (by omega)
 rw [Addr.add_zero'] at w0
 obtain ⟨x0, hx0⟩ : ∃ x, gd l 0 = x := ⟨_, rfl⟩
 rw [hx0] at w0 hx
 have hx0 := hx
 obtain ⟨p0, q0⟩ := lit_neC (x := x0) (l := [102, 111, 114, 109, 97, 116]) (by rw [hx0]; decide)
 obtain ⟨p1, q1⟩ := lit_neC (x := x0) (l := [98, 111, 110, 100]) (by rw [hx0]; decide)
 obtain ⟨p2, q2⟩ := lit_neC (x := x0) (l := [119, 97, 108, 108]) (by rw [hx0]; decide)
 obtain ⟨p3, q3⟩ := lit_neC (x := x0) (l := [115, 104, 111, 119]) (by rw [hx0]; decide)
 obtain ⟨p4, q4⟩ := lit_neC (x := x0) (l := [99, 104, 101, 99, 107]) (by rw [hx0]; decide)
 obtain ⟨p5, q5⟩ := lit_neC (x := x0) (l := [99, 111, 117, 110, 116]) (by rw [hx0]; decide)
 obtain ⟨p6, q6⟩ := lit_neC (x := x0) (l := [112, 97, 105, 114]) (by rw [hx0]; decide)
 have he : x0.toList = [108, 101, 110, 103, 116, 104] := by rw [hx0, ByteArray.toList_eq]; rfl
 obtain ⟨an, rfl, _, hcn⟩ := hn.at2 (k := 0) (by simp)
 have m0 := hcn 0 (by simp)
 rw [Addr.add_zero'] at m0
 replace m0 : W.cell? an = some (.int .i64 n1) := m0
 clear hcn
 have i0 : (0 : Int) < l.length := by omega
 have HLF : Hid (∀ W', Below W.heap.size W W' → LayF W') := Lib.hid fun W' h => (hE.ext (ext_trans hb0 h)).lay
 have HLO := Lib.hid (fun W' => impl_LengthOf d.f n1 W')
 have hbd := mLen_bd d.f n1
 obtain ⟨⟨a, b, y⟩, hM⟩ : ∃ M, mLen d.f n1 = M := ⟨_, rfl⟩
 have HEX := Lib.hid (exLen_eq hM)
 rw [hM] at HLO hbd
 replace HLO : Hid (∀ W', Calls Tryz.prog 96 #[.agg #[.int .i64 d.f.l, .int .i64 d.f.w, .int .i64 d.f.h, .int .i64 d.f.j], .int .i64 n1] W' (Ret (.tuple #[.agg #[.int .i64 a, .int .i64 b], .int .i64 y]) W')) := HLO
 replace hbd : (0 ≤ a ∧ a ≤ 1000000) ∧ (0 ≤ b ∧ b ≤ 1000000) := hbd
 have HNT : Hid (∀ W' v, RI W' v [a, b] → Below W.heap.size W W' → Calls Tryz.prog 93 #[.string ⟨#[47]⟩, v] W' (Ret (.string (fracT a b)) W')) := Lib.hid fun W' v h hb => by
   have := impl_numsText 47 v [a, b] W' h (by simp) (fun k hk => by
     have hk : k < 2 := hk
     rcases (show k = 0 ∨ k = 1 by omega) with rfl | rfl
     · show -9223372036854775808 ≤ a ∧ a ≤ 9223372036854775807; omega
     · show -9223372036854775808 ≤ b ∧ b ≤ 9223372036854775807; omega) (HLF.out W' hb)
   rwa [nm2] at this
 have k0 := HD.out.cells.k0
 have k1 := HD.out.cells.k1
 have k2 := HD.out.cells.k2
 have k3 := HD.out.cells.k3
 clear hM hbd hE hD hw hx hx0 hc hn hl hb0
 go_enter Tryz.func44, Tryz.ntmps44
 go_upto_region 40 with fail
 go_cut [26, 27] from 186 to 196 (fun u v wx => ∃ g, u = .pointer (some ⟨g, 0, none⟩) ∧ v = .int .i64 y ∧ wx.cell? ⟨g, 0, none⟩ = some (.int .i64 a) ∧ wx.cell? ⟨g, 1, none⟩ = some (.int .i64 b) ∧ Hid (Below W.heap.size W wx))
 case first =>
   have ka0 := fun o => cell_keep k0 (ext_alloc1 W o)
   have ka1 := fun o => cell_keep k1 (ext_alloc1 W o)
   have ka2 := fun o => cell_keep k2 (ext_alloc1 W o)
   have ka3 := fun o => cell_keep k3 (ext_alloc1 W o)
   go_region_law (first
     | (go_simp; refine (show Calls _ _ _ (World.drew (World.alloc _ _)) _ from HLO.out _).mono ?_; rintro e' W1 ⟨rfl, hb⟩; (have y0 : W1.cell? ⟨W.heap.size, 0, none⟩ = some (.int .i64 0) := cell_keep (by simp [go_sem]) hb); (have y1 : W1.cell? ⟨W.heap.size, 1, none⟩ = some (.int .i64 0) := cell_keep (by simp [go_sem]) hb); (have yf : ∀ j, W1.frozen? ⟨W.heap.size, j, none⟩ = false := fun j => by rw [(bcell hb).2 _ _ (by simp)]; simp [go_sem]); (have HB := Lib.hid (ext_trans (ext_drew (ext_alloc1 _ _)) hb)); clear hb; dsimp only)
     | (go_simp; refine (show Calls _ _ _ (World.drew _) _ from HLO.out _).mono ?_; rintro e' W1 ⟨rfl, hb⟩; (have HB := Lib.hid (ext_trans (ext_drew (ext_refl _)) hb)); clear hb; dsimp only))
   all_goals
     go_wp2_with fail
     go_meet
     first
       | exact ⟨_, rfl, rfl, by simp [go_sem]; done, by simp [go_sem]; done, Lib.hid (ext_alloc HB.out _)⟩
       | exact ⟨_, rfl, rfl, by simp [go_sem, y0], by simp [go_sem, y1], Lib.hid (Chg.ext HB.out ((Chg.setCell (S := fun k => k = W.heap.size) _ (p := ⟨W.heap.size, 0, none⟩) rfl _).trans (Chg.setCell (S := fun k => k = W.heap.size) _ (p := ⟨W.heap.size, 1, none⟩) rfl _)) (fun k hk => by subst hk; exact Nat.le_refl _))⟩
 case rest =>
   obtain ⟨g, rfl, rfl, y0, y1, HB⟩ := hcut
   clear k0 k1 k2 k3 m0
   go_wp2_with fail
   refine (show Calls _ _ _ _ _ from HNT.out _ _ (ri2_new wc a b) (ext_alloc HB.out _)).mono ?_
   rintro e' W3 ⟨rfl, hb⟩
   have HB3 := Lib.hid (ext_trans (ext_alloc HB.out _) hb)
   clear hb
   go_wp2_with fail
   go_ret2
   exact ExP.said (r := exLength d n1) HEX.out.1 HEX.out.2 (HD.out.ext HB3.out) (Chg.of_below HB3.out _)
theorem keep2 {W : World} {g : Nat} {p : Addr} {v : Value} (h : W.cell? p = some v) (hp : p.block ≠ g) (i j : Nat) (x y : Value) : ((W.setCell ⟨g, i, none⟩ x).setCell ⟨g, j, none⟩ y).cell? p = some v := by
 rw [World.cell?_setCell_other _ _ _ _ (fun e => hp (by rw [← e])), World.cell?_setCell_other _ _ _ _ (fun e => hp (by rw [← e]))]
 exact h
set_option maxHeartbeats 3200000 in
theorem spec_ex_pair (W : World) (B0 q : Nat) (d : DK) (A : Option Addr) (c : Nat) (B : Option Addr) (e : Nat) (O : Option Addr) (co : Nat) (out : List ByteArray) (T : Value) (An : Option Addr) (cn : Nat) (xs : List Int) (h : SX W B0 q d A c B e O co out (.slice An xs.length cn) T) (hN : RI W (.slice An xs.length cn) xs) (h0 : 1 < xs.length) (hl : out.length ≤ 1000000000)
   (hBP : ∀ (a b : Int) (w : World), Calls Tryz.prog 128 #[.int .i64 a, .int .i64 b] w (Ret (.tuple #[.string (mPair a b).1, .string (mPair a b).2.1, .int .i64 (mPair a b).2.2]) w)) :
   Calls Tryz.prog 67 #[.pointer (some ⟨q, 0, none⟩)] W (SQ W B0 q O out.length co d out (exPair d (gi xs 0) (gi xs 1)) (.slice An xs.length cn) T) := by
 have HX := Lib.hid h
 obtain ⟨an, rfl, _, hcn⟩ := hN.at2 (k := 0) (by omega)
 have m0 := hcn 0 (by omega)
 rw [Addr.add_zero'] at m0
 have m1 := hcn 1 (by omega)
 rw [addr_succ] at m1
 replace m1 : W.cell? ⟨an.block, an.off + 1, none⟩ = some (.int .i64 (gi xs 1)) := m1
 obtain ⟨n1, hn1⟩ : ∃ x, gi xs 0 = x := ⟨_, rfl⟩
 obtain ⟨n2, hn2⟩ : ∃ x, gi xs 1 = x := ⟨_, rfl⟩
 rw [hn1] at m0
 rw [hn2] at m1
 rw [hn1, hn2]
 have j0 : (0 : Int) < xs.length := by omega
 have j0n : 0 < xs.length := by omega
 have j1 : (1 : Int) < xs.length := by omega
 have k9 := h.k9
 clear hn1 hn2
 have HPR := Lib.hid (fun w => hBP n1 n2 w)
 have HC := Lib.hid (inC_pair n1 n2)
 have hz := mPair_size n1 n2
 obtain ⟨⟨lo, hi, y⟩, hM⟩ : ∃ M, mPair n1 n2 = M := ⟨_, rfl⟩
 have HEX := Lib.hid (exPair_eq (d := d) hM)
 rw [hM] at HPR HC hz
 replace HPR : Hid (∀ w, Calls Tryz.prog 128 #[.int .i64 n1, .int .i64 n2] w (Ret (.tuple #[.string lo, .string hi, .int .i64 y]) w)) := HPR
 replace HC : Hid (InC y) := HC
 replace hz : lo.size ≤ 80 ∧ hi.size ≤ 80 := hz
 have s1 : ¬ 9223372036854775807 < lo.size + 1 := by omega
 have s2 : ¬ 9223372036854775807 < lo.size + 1 + hi.size := by omega
 clear hM hz h hN hcn hBP
 go_enter Tryz.func67, Tryz.ntmps67
 replace m0 := fun d os => cell_regrown m0 d os
 replace m1 := fun d os => cell_regrown m1 d os
 replace k9 := fun d os => cell_regrown k9 d os
 go_wp2_with fail
 refine wp_region_quiet_below (by kernel_rfl) (by kernel_rfl) ?_
 repeat (go_big_quiet_step ((go_at_call 128; exact regrown_r (HPR.out _))))
 refine wpQuiet_nil ?_
 intro w' hw'
 obtain ⟨p, rfl⟩ := hw'
 have HB := Lib.hid (below_regrown W p.d p.os)
 generalize (grow (redrawn W p.d) p.os) = W1 at *
 clear m0 m1 k9
 by_cases hy : y = 0
 · subst hy
   go_wp2_with fail
   refine (spec_report0 _ _).mono ?_
   rintro e' W1 ⟨rfl, rfl⟩
   have HS := Lib.hid (spec_say W1 B0 q _ A c B e O co out _ T (HX.out.ext HB.out) (pairT lo hi) (by omega))
   unfold pairT at HS
   go_wp2_with fail
   refine (show Calls _ _ _ _ _ from HS.out).mono ?_
   rintro e' W4 ⟨rfl, hp⟩
   have HP := Lib.hid (hp.low HB.out)
   clear hp
   go_wp2_with fail
   first
     | refine bodyPost_end (v := .tuple #[]) (by simp [results, Tryz.results67, go_sem]) rfl ?_
     | refine bodyPost_ret (v := .tuple #[]) (by simp [results, Tryz.results67, go_sem]) rfl ?_
   exact SQ.ok (HEX.out.2 (by trivial)) HP.out
 · skip
   have HRP := Lib.hid (fun w1 (hb : Below W.heap.size W w1) => spec_report1 w1 B0 q d A c B e O co out _ T (HX.out.ext hb) y hy HC.out.1 HC.out.2 (by omega))
   go_wp2_with fail
   refine (show Calls _ _ _ _ _ from HRP.out _ HB.out).mono ?_
   rintro e' W2 ⟨rfl, hp⟩
   have HP := Lib.hid (hp.low HB.out)
   clear hp
   go_wp2_with fail
   first
     | refine bodyPost_end (v := .tuple #[]) (by simp [results, Tryz.results67, go_sem]) rfl ?_
     | refine bodyPost_ret (v := .tuple #[]) (by simp [results, Tryz.results67, go_sem]) rfl ?_
   exact SQ.no HEX.out.1 hy HP.out
set_option maxHeartbeats 3200000 in
theorem spec_ex_length (W : World) (B0 q : Nat) (d : DK) (A : Option Addr) (c : Nat) (B : Option Addr) (e : Nat) (O : Option Addr) (co : Nat) (out : List ByteArray) (T : Value) (An : Option Addr) (cn : Nat) (xs : List Int) (h : SX W B0 q d A c B e O co out (.slice An xs.length cn) T) (hN : RI W (.slice An xs.length cn) xs) (h0 : 0 < xs.length) (hl : out.length ≤ 1000000000) :
   Calls Tryz.prog 65 #[.pointer (some ⟨q, 0, none⟩)] W (SQ W B0 q O out.length co d out (exLength d (gi xs 0)) (.slice An xs.length cn) T) := by
 have HX := Lib.hid h
 obtain ⟨an, rfl, _, hcn⟩ := hN.at2 (k := 0) (by omega)
 have m0 := hcn 0 (by omega)
 rw [Addr.add_zero'] at m0
 obtain ⟨n1, hn1⟩ : ∃ x, gi xs 0 = x := ⟨_, rfl⟩
 rw [hn1] at m0
 rw [hn1]
 have j0 : (0 : Int) < xs.length := by omega
 have j0n : 0 < xs.length := by omega
 have k9 := h.k9
 clear hn1
 have HLO := Lib.hid (fun w => spec_LengthOf d.f n1 w)
 have hbd := mLen_bd d.f n1
 have HC := Lib.hid (inC_len d.f n1)
 obtain ⟨⟨a, b, y⟩, hM⟩ : ∃ M, mLen d.f n1 = M := ⟨_, rfl⟩
 have HEX := Lib.hid (exLen_eq (d := d) hM)
 rw [hM] at HLO hbd HC
 replace HLO : Hid (∀ W', Calls Tryz.prog 125 #[.agg #[.int .i64 d.f.l, .int .i64 d.f.w, .int .i64 d.f.h, .int .i64 d.f.j], .int .i64 n1] W' (Ret (.tuple #[.agg #[.int .i64 a, .int .i64 b], .int .i64 y]) W')) := HLO
 replace hbd : (0 ≤ a ∧ a ≤ 1000000) ∧ (0 ≤ b ∧ b ≤ 1000000) := hbd
 replace HC : Hid (InC y) := HC
 have HD : Hid (∀ n w, (n = a ∨ n = b) → Calls Tryz.prog 114 #[.int .i64 n] w (Ret (.string (itb n)) w)) := Lib.hid fun n w hn => spec_Dec n (by rcases hn with rfl | rfl <;> omega) (by rcases hn with rfl | rfl <;> omega) w
 have hza := itb_size a (by omega) (by omega)
 have hzb := itb_size b (by omega) (by omega)
 have s1 : ¬ 9223372036854775807 < (itb a).size + 1 := by omega
 have s2 : ¬ 9223372036854775807 < (itb a).size + 1 + (itb b).size := by omega
 obtain ⟨k0, k1, k2, k3, _, _, _, _⟩ := h.bx.cells
 clear hM hza hzb hbd h hN hcn
 go_enter Tryz.func65, Tryz.ntmps65
 go_upto_region 0 with fail
 go_cut [2, 3] from 4 to 18 (fun u v wx => ∃ g, u = .pointer (some ⟨g, 0, none⟩) ∧ v = .int .i64 y ∧ wx.cell? ⟨g, 0, none⟩ = some (.int .i64 a) ∧ wx.cell? ⟨g, 1, none⟩ = some (.int .i64 b) ∧ Hid (Below W.heap.size W wx))
 case first =>
   have kd0 := cell_keep k0 (ext_drew (w := W) (ext_refl _))
   have kd1 := cell_keep k1 (ext_drew (w := W) (ext_refl _))
   have kd2 := cell_keep k2 (ext_drew (w := W) (ext_refl _))
   have kd3 := cell_keep k3 (ext_drew (w := W) (ext_refl _))
   have kd9 := cell_keep k9 (ext_drew (w := W) (ext_refl _))
   have md0 := cell_keep m0 (ext_drew (w := W) (ext_refl _))
   have hqg : q ≠ W.heap.size := by have := HX.out.lt; omega
   have hag : an.block ≠ W.heap.size := by have := block_lt_of_cell m0; omega
   go_region_held3 (fun w' => w'.cell? ⟨q, 0, none⟩ = some (.int .i64 d.f.l) ∧ w'.cell? ⟨q, 1, none⟩ = some (.int .i64 d.f.w) ∧ w'.cell? ⟨q, 2, none⟩ = some (.int .i64 d.f.h) ∧ w'.cell? ⟨q, 3, none⟩ = some (.int .i64 d.f.j) ∧ w'.cell? ⟨q, 9, none⟩ = some (.slice (some an) xs.length cn) ∧ w'.cell? an = some (.int .i64 n1)) (first | exact ⟨k0, k1, k2, k3, k9, m0⟩ | exact ⟨hd0, hd1, hd2, hd3, hd9, hm0⟩ | exact ⟨cell_keep k0 (ext_drew (ext_alloc1 _ _)), cell_keep k1 (ext_drew (ext_alloc1 _ _)), cell_keep k2 (ext_drew (ext_alloc1 _ _)), cell_keep k3 (ext_drew (ext_alloc1 _ _)), cell_keep k9 (ext_drew (ext_alloc1 _ _)), cell_keep m0 (ext_drew (ext_alloc1 _ _))⟩ | exact ⟨cell_keep kd0 (ext_alloc1 _ _), cell_keep kd1 (ext_alloc1 _ _), cell_keep kd2 (ext_alloc1 _ _), cell_keep kd3 (ext_alloc1 _ _), cell_keep kd9 (ext_alloc1 _ _), cell_keep md0 (ext_alloc1 _ _)⟩ | exact ⟨cell_keep hd0 (ext_alloc1 _ _), cell_keep hd1 (ext_alloc1 _ _), cell_keep hd2 (ext_alloc1 _ _), cell_keep hd3 (ext_alloc1 _ _), cell_keep hd9 (ext_alloc1 _ _), cell_keep hm0 (ext_alloc1 _ _)⟩ | exact ⟨keep2 hd0 hqg _ _ _ _, keep2 hd1 hqg _ _ _ _, keep2 hd2 hqg _ _ _ _, keep2 hd3 hqg _ _ _ _, keep2 hd9 hqg _ _ _ _, keep2 hm0 hag _ _ _ _⟩)
     ((go_at_call 125; (first | (refine (show Calls _ _ _ (World.drew (World.alloc _ _)) _ from HLO.out _).mono ?_; rintro e' W1 ⟨rfl, hb⟩; (have y0 : W1.cell? ⟨W.heap.size, 0, none⟩ = some (.int .i64 0) := cell_keep (by simp [go_sem]) hb); (have y1 : W1.cell? ⟨W.heap.size, 1, none⟩ = some (.int .i64 0) := cell_keep (by simp [go_sem]) hb); (have yf : ∀ j, W1.frozen? ⟨W.heap.size, j, none⟩ = false := fun j => by rw [(bcell hb).2 _ _ (by simp)]; simp [go_sem]); (have HB := Lib.hid (ext_trans (ext_drew (ext_alloc1 _ _)) hb))) | (refine (show Calls _ _ _ (World.drew _) _ from HLO.out _).mono ?_; rintro e' W1 ⟨rfl, hb⟩; (have HB := Lib.hid (ext_trans (ext_drew (ext_refl _)) hb)))); (have hd0 := cell_keep k0 HB.out); (have hd1 := cell_keep k1 HB.out); (have hd2 := cell_keep k2 HB.out); (have hd3 := cell_keep k3 HB.out); (have hd9 := cell_keep k9 HB.out); (have hm0 := cell_keep m0 HB.out); clear hb; dsimp only))
   all_goals
     go_wp2_with fail
     go_meet
     first
       | exact ⟨_, rfl, rfl, by simp [go_sem]; done, by simp [go_sem]; done, Lib.hid (ext_alloc HB.out _)⟩
       | exact ⟨_, rfl, rfl, by simp [go_sem, y0], by simp [go_sem, y1], Lib.hid (Chg.ext HB.out ((Chg.setCell (S := fun k => k = W.heap.size) _ (p := ⟨W.heap.size, 0, none⟩) rfl _).trans (Chg.setCell (S := fun k => k = W.heap.size) _ (p := ⟨W.heap.size, 1, none⟩) rfl _)) (fun k hk => by subst hk; exact Nat.le_refl _))⟩
 case rest =>
   obtain ⟨g, rfl, rfl, y0, y1, HB⟩ := hcut
   clear k0 k1 k2 k3 m0 k9
   by_cases hy : y = 0
   · subst hy
     have HS := Lib.hid (fun w1 (hb : Below wc.heap.size wc w1) => spec_say w1 B0 q d A c B e O co out _ T (HX.out.ext (ext_trans HB.out hb)) (fracT a b) (by omega))
     unfold fracT at HS
     have g0 := cell_keep y0 (ext_drew (w := wc) (ext_refl _))
     have g1 := cell_keep y1 (ext_drew (w := wc) (ext_refl _))
     have hB := ext_drew (w := wc) (ext_refl _)
     go_wp2_with fail
     refine (spec_report0 _ _).mono ?_
     rintro e' wc ⟨rfl, rfl⟩
     go_wp2_with fail
     first
       | go_region_law (first
         | (go_simp; go_at_call 114; refine (show Calls _ _ _ _ _ from HD.out _ _ (by first | exact Or.inl rfl | exact Or.inr rfl)).mono ?_; rintro e' W2 ⟨rfl, hb⟩; (have g0 := cell_keep g0 hb); (have g1 := cell_keep g1 hb); (have hB := ext_trans hB hb); clear hb; dsimp only)
         | (go_simp; go_at_call 27; refine (show Calls _ _ _ _ _ from HS.out _ hB).mono ?_; rintro e' W4 ⟨rfl, hp⟩; (have HP := Lib.hid (hp.low (ext_trans HB.out hB))); clear hp; dsimp only))
       | fail
     all_goals
       first
         | refine bodyPost_end (v := .tuple #[]) (by simp [results, Tryz.results65, go_sem]) rfl ?_
         | refine bodyPost_ret (v := .tuple #[]) (by simp [results, Tryz.results65, go_sem]) rfl ?_
       exact SQ.ok (HEX.out.2 (by trivial)) HP.out
   · skip
     have HRP := Lib.hid (fun w1 (hb : Below W.heap.size W w1) => spec_report1 w1 B0 q d A c B e O co out _ T (HX.out.ext hb) y hy HC.out.1 HC.out.2 (by omega))
     go_wp2_with fail
     refine (show Calls _ _ _ _ _ from HRP.out _ HB.out).mono ?_
     rintro e' W2 ⟨rfl, hp⟩
     have HP := Lib.hid (hp.low HB.out)
     clear hp
     go_wp2_with fail
     first
       | refine bodyPost_end (v := .tuple #[]) (by simp [results, Tryz.results65, go_sem]) rfl ?_
       | refine bodyPost_ret (v := .tuple #[]) (by simp [results, Tryz.results65, go_sem]) rfl ?_
     exact SQ.no HEX.out.1 hy HP.out
set_option maxHeartbeats 3200000 in
theorem spec_ex_count (W : World) (B0 q : Nat) (d : DK) (A : Option Addr) (c : Nat) (B : Option Addr) (e : Nat) (O : Option Addr) (co : Nat) (out : List ByteArray) (N T : Value) (h : SX W B0 q d A c B e O co out N T) (hl : out.length ≤ 1000000000) (hV : vDK d = true) :
   Calls Tryz.prog 61 #[.pointer (some ⟨q, 0, none⟩)] W (SQ W B0 q O out.length co d out (exCount d) N T) := by
 have HX := Lib.hid h
 have hsm := vDK_sm hV
 have HCT := Lib.hid (spec_CountPieces B e d.wall W h.bx.own.2.1.rd (sm_wall hsm))
 have HC := Lib.hid (inC_count d.wall)
 have k6 := h.bx.cells.k6
 obtain ⟨⟨ls, y⟩, hM⟩ : ∃ M, mCount d.wall = M := ⟨_, rfl⟩
 have HEX := Lib.hid (exCount_eq (d := d) hM)
 rw [hM] at HCT HC
 replace HCT : Hid (Calls Tryz.prog 118 #[.slice B d.wall.length e] W (RetJ ls y W)) := HCT
 replace HC : Hid (InC y) := HC
 have HM := Lib.hid hM
 clear hM h hsm hV
 go_enter Tryz.func61, Tryz.ntmps61
 go_wp2_with fail
 refine (show Calls _ _ _ _ _ from HCT.out).mono ?_
 rintro e' W1 ⟨A1, c1, rfl, hO, hb⟩
 have HO := Lib.hid hO
 have HB := Lib.hid hb
 clear hO hb
 by_cases hy : y = 0
 · subst hy
   have HBD : Hid (ls.length ≤ 1048576 ∧ ∀ k, k < ls.length → -9223372036854775808 ≤ gi ls k ∧ gi ls k ≤ 9223372036854775807) := Lib.hid (by
     obtain ⟨c1, c2⟩ := count_vals HM.out
     exact ⟨by omega, fun k hk => c2 _ (by rw [← gd_gi]; exact gd_mem hk)⟩)
   go_wp2_with fail
   refine (spec_report0 _ _).mono ?_
   rintro e' W1 ⟨rfl, rfl⟩
   have HS := Lib.hid (spec_row W1 B0 q d A c B e O co out N T (HX.out.ext HB.out) A1 c1 ls HO.out.rd hl HBD.out.1 HBD.out.2)
   go_wp2_with fail
   refine (show Calls _ _ _ _ _ from HS.out).mono ?_
   rintro e' W4 ⟨rfl, hp⟩
   have HP := Lib.hid (hp.low HB.out)
   clear hp
   go_wp2_with fail
   first
     | refine bodyPost_end (v := .tuple #[]) (by simp [results, Tryz.results61, go_sem]) rfl ?_
     | refine bodyPost_ret (v := .tuple #[]) (by simp [results, Tryz.results61, go_sem]) rfl ?_
   exact SQ.ok (HEX.out.2 (by trivial)) HP.out
 · skip
   have HRP := Lib.hid (fun w1 (hb : Below W.heap.size W w1) => spec_report1 w1 B0 q d A c B e O co out _ T (HX.out.ext hb) y hy HC.out.1 HC.out.2 (by omega))
   go_wp2_with fail
   refine (show Calls _ _ _ _ _ from HRP.out _ HB.out).mono ?_
   rintro e' W2 ⟨rfl, hp⟩
   have HP := Lib.hid (hp.low HB.out)
   clear hp
   go_wp2_with fail
   first
     | refine bodyPost_end (v := .tuple #[]) (by simp [results, Tryz.results61, go_sem]) rfl ?_
     | refine bodyPost_ret (v := .tuple #[]) (by simp [results, Tryz.results61, go_sem]) rfl ?_
   exact SQ.no HEX.out.1 hy HP.out
set_option maxHeartbeats 3200000 in
theorem spec_ex_check (W : World) (B0 q : Nat) (d : DK) (A : Option Addr) (c : Nat) (B : Option Addr) (e : Nat) (O : Option Addr) (co : Nat) (out : List ByteArray) (T : Value) (An : Option Addr) (cn : Nat) (xs : List Int) (h : SX W B0 q d A c B e O co out (.slice An xs.length cn) T) (hN : RI W (.slice An xs.length cn) xs) (h0 : 0 < xs.length) (hl : out.length ≤ 1000000000) (hV : vDK d = true) :
   Calls Tryz.prog 60 #[.pointer (some ⟨q, 0, none⟩)] W (SQ W B0 q O out.length co d out (exCheck d (gi xs 0)) (.slice An xs.length cn) T) := by
 have HX := Lib.hid h
 obtain ⟨an, rfl, _, hcn⟩ := hN.at2 (k := 0) (by omega)
 have m0 := hcn 0 (by omega)
 rw [Addr.add_zero'] at m0
 obtain ⟨n1, hn1⟩ : ∃ x, gi xs 0 = x := ⟨_, rfl⟩
 rw [hn1] at m0
 rw [hn1]
 have j0 : (0 : Int) < xs.length := by omega
 have j0n : 0 < xs.length := by omega
 have k9 := h.k9
 clear hn1
 have hsm := vDK_sm hV
 have HFC := Lib.hid (fun w (hb : Below W.heap.size W w) => spec_FirstClash B e d.wall n1 w (h.bx.own.2.1.rd.ext hb) (sm_wall hsm))
 have HC := Lib.hid (inC_clash d.wall n1)
 have HBD := Lib.hid (@mClash_ok d.wall n1)
 have k6 := h.bx.cells.k6
 obtain ⟨⟨a, b, x, y⟩, hM⟩ : ∃ M, mClash d.wall n1 = M := ⟨_, rfl⟩
 have HM := Lib.hid hM
 rw [hM] at HFC HC HBD
 replace HFC : Hid (∀ w, Below W.heap.size W w → Calls Tryz.prog 116 #[.slice B d.wall.length e, .int .i64 n1] w (Ret (.tuple #[.int .i64 a, .int .i64 b, .int .i64 x, .int .i64 y]) w)) := HFC
 replace HC : Hid (InC y) := HC
 replace HBD : Hid (y = 0 → (0 ≤ a ∧ a ≤ 1000) ∧ (0 ≤ b ∧ b ≤ 1000) ∧ (0 ≤ x ∧ x ≤ 1000)) := HBD
 clear hM h hN hcn hsm hV
 go_enter Tryz.func60, Tryz.ntmps60
 replace m0 := fun d os => cell_regrown m0 d os
 replace k6 := fun d os => cell_regrown k6 d os
 replace k9 := fun d os => cell_regrown k9 d os
 go_wp2_with fail
 refine wp_region_quiet_below (by kernel_rfl) (by kernel_rfl) ?_
 repeat (go_big_quiet_step ((go_at_call 116; exact regrown_r (HFC.out _ (below_regrown _ _ _)))))
 refine wpQuiet_nil ?_
 intro w' hw'
 obtain ⟨p, rfl⟩ := hw'
 have HB := Lib.hid (below_regrown W p.d p.os)
 generalize (grow (redrawn W p.d) p.os) = W1 at *
 clear m0 k6 k9
 by_cases h3 : y = 3
 · subst h3
   have HEX := Lib.hid (exCheck_3 HM.out)
   have HS := Lib.hid (spec_say W1 B0 q d A c B e O co out _ T (HX.out.ext HB.out) bondedT (by omega))
   unfold bondedT at HS
   go_wp2_with fail
   refine (show Calls _ _ _ _ _ from HS.out).mono ?_
   rintro e' W4 ⟨rfl, hp⟩
   have HP := Lib.hid (hp.low HB.out)
   clear hp
   go_wp2_with fail
   first
     | refine bodyPost_end (v := .tuple #[]) (by simp [results, Tryz.results60, go_sem]) rfl ?_
     | refine bodyPost_ret (v := .tuple #[]) (by simp [results, Tryz.results60, go_sem]) rfl ?_
   exact SQ.ok HEX.out HP.out
 have HEX := Lib.hid (exCheck_y (d := d) HM.out h3)
 have hb3 : (y == 3) = false := by simpa using h3
 clear h3
 by_cases hy : y = 0
 · subst hy
   obtain ⟨b1, b2, b3⟩ := HBD.out rfl
   go_wp2_with fail
   refine (spec_report0 _ _).mono ?_
   rintro e' W1 ⟨rfl, rfl⟩
   have HB2 := Lib.hid (ext_alloc HB.out (.cells #[.int .i64 a, .int .i64 b, .int .i64 x] 2))
   have HS := Lib.hid (spec_row _ B0 q d A c B e O co out _ T (HX.out.ext HB2.out) (some ⟨W1.heap.size, 0, none⟩) 3 [a, b, x] (ri3_new W1 a b x) hl (by simp) (fun k hk => by
     have hk : k < 3 := hk
     rcases (show k = 0 ∨ k = 1 ∨ k = 2 by omega) with rfl | rfl | rfl
     · show -9223372036854775808 ≤ a ∧ a ≤ 9223372036854775807; omega
     · show -9223372036854775808 ≤ b ∧ b ≤ 9223372036854775807; omega
     · show -9223372036854775808 ≤ x ∧ x ≤ 9223372036854775807; omega))
   go_wp2_with fail
   refine (show Calls _ _ _ _ _ from HS.out).mono ?_
   rintro e' W4 ⟨rfl, hp⟩
   have HP := Lib.hid (hp.low HB2.out)
   clear hp
   go_wp2_with fail
   first
     | refine bodyPost_end (v := .tuple #[]) (by simp [results, Tryz.results60, go_sem]) rfl ?_
     | refine bodyPost_ret (v := .tuple #[]) (by simp [results, Tryz.results60, go_sem]) rfl ?_
   exact SQ.ok (HEX.out.2 (by trivial)) HP.out
 · skip
   have HRP := Lib.hid (fun w1 (hb : Below W.heap.size W w1) => spec_report1 w1 B0 q d A c B e O co out _ T (HX.out.ext hb) y hy HC.out.1 HC.out.2 (by omega))
   go_wp2_with fail
   refine (show Calls _ _ _ _ _ from HRP.out _ HB.out).mono ?_
   rintro e' W2 ⟨rfl, hp⟩
   have HP := Lib.hid (hp.low HB.out)
   clear hp
   go_wp2_with fail
   first
     | refine bodyPost_end (v := .tuple #[]) (by simp [results, Tryz.results60, go_sem]) rfl ?_
     | refine bodyPost_ret (v := .tuple #[]) (by simp [results, Tryz.results60, go_sem]) rfl ?_
   exact SQ.no HEX.out.1 hy HP.out
end Go.Proofs.YtfgopboddkhckaaGreatDoor
