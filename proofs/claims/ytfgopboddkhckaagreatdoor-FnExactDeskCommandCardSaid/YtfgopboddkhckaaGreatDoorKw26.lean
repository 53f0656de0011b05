/-
  Parts of the proof: Ex7, Ex11, Ss3, Ss4, Ex5.
-/
import Derived.Test.YtfgopboddkhckaaGreatDoorKw23
import Derived.Test.YtfgopboddkhckaaGreatDoorKw25
namespace Go.Proofs.YtfgopboddkhckaaGreatDoor
open Go.ChangeShapes Go.WideShapes Go.ChangeAt Go.RowKit Go.Sort Go.Joins
set_option linter.unusedVariables false
set_option maxRecDepth 100000
theorem exBond_no {d : DK} {t : ByteArray} (h : ¬ bnR t = 0) : exBond d t = (d, [], bnR t) := by unfold exBond; exact if_neg h
theorem exBond_ok {d : DK} {t : ByteArray} (h : bnR t = 0) (hv : vDK d = true) : exBond d t = ({ d with nm := bnN t, cs := bnC t }, [dkT { d with nm := bnN t, cs := bnC t }], 0) ∧ vDK { d with nm := bnN t, cs := bnC t } = true := by
 obtain ⟨d1, d2, d3, d4⟩ := vDK_parts hv
 exact ⟨by unfold exBond; exact if_pos h, vDK_of d1 (bnF_ok h) d3 d4⟩
theorem DB.putB {W : World} {B0 q : Nat} {d : DK} {A : Option Addr} {c : Nat} {B : Option Addr} {e : Nat} (h : DB W B0 q d A c B e) {A1 : Option Addr} {c1 : Nat} {nm : ByteArray} {M : List CO} (hO : OCOS W B0 (.slice A1 M.length c1) M) (hn : ∀ k, BI (.slice A1 M.length c1) k → k ≠ q ∧ ¬ BI (.slice B d.wall.length e) k) :
   DB ((W.setCell ⟨q, 4, none⟩ (.string nm)).setCell ⟨q, 5, none⟩ (.slice A1 M.length c1)) B0 q { d with nm := nm, cs := M } A1 c1 B e := by
 have hc : Chg (fun k => k = q) W ((W.setCell ⟨q, 4, none⟩ (.string nm)).setCell ⟨q, 5, none⟩ (.slice A1 M.length c1)) := (Chg.setCell (S := fun k => k = q) _ (p := ⟨q, 4, none⟩) rfl _).trans (Chg.setCell (S := fun k => k = q) _ (p := ⟨q, 5, none⟩) rfl _)
 obtain ⟨k0, k1, k2, k3, k4, k5, k6, k7⟩ := h.cells
 have fz := h.fz
 refine ⟨⟨by simp [go_sem, k0], by simp [go_sem, k1], by simp [go_sem, k2], by simp [go_sem, k3], by simp [go_sem, k4], by simp [go_sem, k5], by simp [go_sem, k6], by simp [go_sem, k7]⟩, ⟨hO.chg hc (fun k hk e => (hn k hk).1 e), h.own.2.1.chg hc (fun k hk e => h.fb k hk e), fun k h1 h2 => (hn k h1).2 h2⟩, fun k hk => (hn k hk).1, h.fb, fun j => by simpa using fz j, h.ge⟩
set_option maxHeartbeats 3200000 in
theorem impl_ex_bond (w00 W : World) (q : Nat) (d : DK) (A : Option Addr) (c : Nat) (B : Option Addr) (e : Nat) (hD : DB W w00.heap.size q d A c B e) (hb0 : Below w00.heap.size w00 W) (Aw : Option Addr) (cw : Nat) (l : List ByteArray) (hw : RStr W (.slice Aw l.length cw) l) (hl : l.length = 2) (hx : gd l 0 = cmW .bond) (nv : Value) (hE : Env w00) (hT : LibT w00) (hV : vDK d = true) :
   Calls Tryz.prog 44 #[.pointer (some ⟨q, 0, none⟩), .slice Aw l.length cw, nv] W (ExP (exBond d (gd l 1)) W w00.heap.size q) := by
 have HD := Lib.hid hD
 have HB0 := Lib.hid hb0
 obtain ⟨ad, rfl, _, hc⟩ := hw.at (k := 0) (by omega)
 have w0 := hc 0 (by omega)
 rw [Addr.add_zero'] at w0
 have w1 := hc 1 (by omega)
 rw [addr_succ] at w1
 obtain ⟨x0, hx0⟩ : ∃ x, gd l 0 = x := ⟨_, rfl⟩
 rw [hx0] at w0 hx
 have hx0 := hx
 obtain ⟨p0, q0⟩ := lit_neC (x := x0) (l := [102, 111, 114, 109, 97, 116]) (by rw [hx0]; decide)
 have he : x0.toList = [98, 111, 110, 100] := by rw [hx0, ByteArray.toList_eq]; rfl
 have i0 : (0 : Int) < l.length := by omega
 have HE := Lib.hid (fun W' (h : Below w00.heap.size w00 W') => hE.ext h)
 obtain ⟨t, ht⟩ : ∃ x, gd l 1 = x := ⟨_, rfl⟩
 rw [ht] at w1
 rw [ht]
 have i1 : (1 : Int) < l.length := by omega
 have HV := Lib.hid hV
 have HBN := Lib.hid (fun W' (h : Below w00.heap.size w00 W') => impl_BondNamed t W' (hE.ext h).shp (hT.ext h))
 have HXN := Lib.hid (@exBond_no d t)
 have HXY := Lib.hid (fun h => exBond_ok (d := d) (t := t) h hV)
 obtain ⟨nm, hnm⟩ : ∃ x, bnN t = x := ⟨_, rfl⟩
 obtain ⟨cs, hcs⟩ : ∃ x, bnC t = x := ⟨_, rfl⟩
 obtain ⟨y, hy⟩ : ∃ x, bnR t = x := ⟨_, rfl⟩
 rw [hnm, hcs, hy] at HBN HXY
 rw [hy] at HXN
 clear hnm hcs hy ht hV hT hE hD hw hx hx0 hc hl hb0
 go_enter Tryz.func44, Tryz.ntmps44
 go_wp2_with fail
 refine (show Calls _ _ _ _ _ from HBN.out _ HB0.out).mono ?_
 rintro e' W1 ⟨A1, c1, rfl, hO, hb⟩
 have HO := Lib.hid hO
 have HB := Lib.hid hb
 clear hO hb
 by_cases hy : y = 0
 · subst hy
   obtain ⟨hex, hv2⟩ := HXY.out rfl
   have HEX := Lib.hid hex
   have HDT := Lib.hid (fun W' v (h : RDK W' v { d with nm := nm, cs := cs }) hE => impl_DeskText v { d with nm := nm, cs := cs } W' h (vDK_sm hv2) hE)
   rw [mDT_ok hv2] at HDT
   have HD1 := Lib.hid (HD.out.ext HB.out)
   have HD2 := Lib.hid (HD1.out.putB (nm := nm) (HO.out.mono HB0.out.size) (fun k hk => ⟨by have := (HO.out.ge k hk).1; have := HD.out.lt; omega, fun h2 => by have := (HO.out.ge k hk).1; have := (HD.out.own.2.1.ge k h2).2; omega⟩))
   have k4 := HD1.out.cells.k4
   have k5 := HD1.out.cells.k5
   have kf := HD1.out.fz
   have hq := HD.out.lt
   have hq1 : q < W1.heap.size := Nat.lt_of_lt_of_le hq HB.out.size
   have hqn : q ≠ W1.heap.size := by omega
   have hqn2 : W1.heap.size ≠ q := by omega
   have HCP := Lib.hid ((Chg.of_below HB.out (fun k => k = q)).trans ((Chg.setCell (S := fun k => k = q) W1 (p := ⟨q, 4, none⟩) rfl (.string nm)).trans (Chg.setCell (S := fun k => k = q) _ (p := ⟨q, 5, none⟩) rfl (.slice A1 cs.length c1))))
   clear hv2 hex
   obtain ⟨W2, hW2⟩ : ∃ x, (W1.setCell ⟨q, 4, none⟩ (.string nm)).setCell ⟨q, 5, none⟩ (.slice A1 cs.length c1) = x := ⟨_, rfl⟩
   rw [hW2] at HD2 HCP
   have HE2 := Lib.hid (HE.out _ (ext_alloc (Chg.ext HB0.out HCP.out (fun k hk => by subst hk; exact HD.out.ge)) (.cells #[.string nm, .slice A1 cs.length c1] 36)))
   have hsz2 : W2.heap.size = W1.heap.size := by rw [← hW2]; simp
   have h0 := HD2.out.cells.k0
   have h1 := HD2.out.cells.k1
   have h2 := HD2.out.cells.k2
   have h3 := HD2.out.cells.k3
   have h4 := HD2.out.cells.k4
   have h5 := HD2.out.cells.k5
   have h6 := HD2.out.cells.k6
   have h7 := HD2.out.cells.k7
   go_wp2_with fail
   clear hW2
   refine (show Calls _ _ _ _ _ from HDT.out _ _ (HD2.out.ext (ext_alloc1 _ _)).rd HE2.out).mono ?_
   rintro e' W3 ⟨rfl, hb⟩
   have HB3 := Lib.hid (ext_trans (ext_alloc1 _ _) hb)
   clear hb h0 h1 h2 h3 h4 h5 h6 h7
   go_wp2_with fail
   go_ret2
   exact ExP.one (r := exBond d t) HEX.out (HD2.out.ext HB3.out) (HCP.out.trans (Chg.of_below HB3.out _))
 · have HEX := Lib.hid (HXN.out hy)
   go_wp2_with fail
   go_ret2
   exact ExP.no (by rw [HEX.out]) hy (Chg.of_below (ext_alloc HB.out _) _)
theorem exEnter_no {d : DK} {o : EN} (h : ¬ (mAddEntry d.log o).2 = 0) : exEnter d o = (d, [], (mAddEntry d.log o).2) := by unfold exEnter; exact if_neg h
theorem exEnter_ok {d : DK} {o : EN} (h : (mAddEntry d.log o).2 = 0) : exEnter d o = ({ d with log := (mAddEntry d.log o).1 }, [itb (sumI (mValuesOf (mAddEntry d.log o).1 o.what).1)], 0) := by unfold exEnter; exact if_pos h
theorem DB.putL {W : World} {B0 q : Nat} {d : DK} {A : Option Addr} {c : Nat} {B : Option Addr} {e : Nat} (h : DB W B0 q d A c B e) (s : ByteArray) :
   DB (W.setCell ⟨q, 7, none⟩ (.string s)) B0 q { d with log := s } A c B e := by
 have hc : Chg (fun k => k = q) W (W.setCell ⟨q, 7, none⟩ (.string s)) := Chg.setCell (S := fun k => k = q) _ (p := ⟨q, 7, none⟩) rfl _
 obtain ⟨k0, k1, k2, k3, k4, k5, k6, k7⟩ := h.cells
 have fz := h.fz
 refine ⟨⟨by simp [go_sem, k0], by simp [go_sem, k1], by simp [go_sem, k2], by simp [go_sem, k3], by simp [go_sem, k4], by simp [go_sem, k5], by simp [go_sem, k6], by simp [go_sem, k7]⟩, ⟨h.own.1.chg hc (fun k hk e => h.fa k hk e), h.own.2.1.chg hc (fun k hk e => h.fb k hk e), h.own.2.2⟩, h.fa, h.fb, fun j => by simpa using fz j, h.ge⟩
set_option maxHeartbeats 3200000 in
theorem impl_ex_enter (w00 W : World) (q : Nat) (d : DK) (A : Option Addr) (c : Nat) (B : Option Addr) (e : Nat) (hD : DB W w00.heap.size q d A c B e) (hb0 : Below w00.heap.size w00 W) (Aw : Option Addr) (cw : Nat) (l : List ByteArray) (hw : RStr W (.slice Aw l.length cw) l) (hl : l.length = 4) (hx : gd l 0 = cmW .enter) (n1 n2 : Int) (An : Option Addr) (cn : Nat) (hn : RI W (.slice An 2 cn) [n1, n2]) (hwq : ∀ ad, Aw = some ad → ad.block ≠ q) (hsz : (gd l 2).size ≤ 1048576) (hE : Env w00) (hV : vDK d = true) :
   Calls Tryz.prog 44 #[.pointer (some ⟨q, 0, none⟩), .slice Aw l.length cw, .slice An 2 cn] W (ExP (exEnter d ⟨n1, gd l 2, n2⟩) W w00.heap.size q) := by
 have HD := Lib.hid hD
 have HB0 := Lib.hid hb0
 obtain ⟨ad, rfl, _, hc⟩ := hw.at (k := 0) (by omega)
 have w0 := hc 0 (by omega)
 rw [Addr.add_zero'] at w0
 obtain ⟨x0, hx0⟩ : ∃ x, gd l 0 = x := ⟨_, rfl⟩
 rw [hx0] at w0 hx
 have hx0 := hx
 obtain ⟨p0, q0⟩ := lit_neC (x := x0) (l := [102, 111, 114, 109, 97, 116]) (by rw [hx0]; decide)
 obtain ⟨p1, q1⟩ := lit_neC (x := x0) (l := [98, 111, 110, 100]) (by rw [hx0]; decide)
 obtain ⟨p2, q2⟩ := lit_neC (x := x0) (l := [119, 97, 108, 108]) (by rw [hx0]; decide)
 obtain ⟨p3, q3⟩ := lit_neC (x := x0) (l := [115, 104, 111, 119]) (by rw [hx0]; decide)
 obtain ⟨p4, q4⟩ := lit_neC (x := x0) (l := [99, 104, 101, 99, 107]) (by rw [hx0]; decide)
 obtain ⟨p5, q5⟩ := lit_neC (x := x0) (l := [99, 111, 117, 110, 116]) (by rw [hx0]; decide)
 obtain ⟨p6, q6⟩ := lit_neC (x := x0) (l := [112, 97, 105, 114]) (by rw [hx0]; decide)
 obtain ⟨p7, q7⟩ := lit_neC (x := x0) (l := [108, 101, 110, 103, 116, 104]) (by rw [hx0]; decide)
 obtain ⟨p8, q8⟩ := lit_neC (x := x0) (l := [104, 101, 105, 103, 104, 116]) (by rw [hx0]; decide)
 have he : x0.toList = [101, 110, 116, 101, 114] := by rw [hx0, ByteArray.toList_eq]; rfl
 obtain ⟨an, rfl, _, hcn⟩ := hn.at2 (k := 0) (by simp)
 have m0 := hcn 0 (by simp)
 rw [Addr.add_zero'] at m0
 have m1 := hcn 1 (by simp)
 rw [addr_succ] at m1
 replace m0 : W.cell? an = some (.int .i64 n1) := m0
 replace m1 : W.cell? ⟨an.block, an.off + 1, none⟩ = some (.int .i64 n2) := m1
 clear hcn
 have i0 : (0 : Int) < l.length := by omega
 have w2 := hc 2 (by omega)
 rw [addr_succ] at w2
 replace w2 : W.cell? ⟨ad.block, ad.off + 2, none⟩ = some (.string (gd l 2)) := w2
 have i2 : (2 : Int) < l.length := by omega
 obtain ⟨what, hwh⟩ : ∃ x, gd l 2 = x := ⟨_, rfl⟩
 rw [hwh] at w2 hsz
 rw [hwh]
 have HE := Lib.hid (fun W' (h : Below w00.heap.size w00 W') => hE.ext h)
 have hls := (vDK_sizes hV).2.2.2
 have HAE := Lib.hid (fun W' (h : Below w00.heap.size w00 W') => impl_AddEntry d.log (.agg #[.int .i64 n1, .string what, .int .i64 n2]) ⟨n1, what, n2⟩ W' (by omega) rfl hsz (hE.ext h))
 have HNO := Lib.hid (@exEnter_no d ⟨n1, what, n2⟩)
 have HYE := Lib.hid (@exEnter_ok d ⟨n1, what, n2⟩)
 have HVO := Lib.hid (fun (h : (mAddEntry d.log ⟨n1, what, n2⟩).2 = 0) W' hE => impl_ValuesOf (mAddEntry d.log ⟨n1, what, n2⟩).1 what W' (by have := (add_ok h).2.2.2.2; omega) hsz hE)
 have HVC := Lib.hid (@add_vals d.log ⟨n1, what, n2⟩)
 obtain ⟨lg, hlg⟩ : ∃ x, (mAddEntry d.log ⟨n1, what, n2⟩).1 = x := ⟨_, rfl⟩
 obtain ⟨y, hy⟩ : ∃ x, (mAddEntry d.log ⟨n1, what, n2⟩).2 = x := ⟨_, rfl⟩
 rw [hlg, hy] at HAE HYE HVO HVC
 rw [hy] at HNO
 have HSV := Lib.hid (sum_vals lg what)
 have HBV := Lib.hid (vals_bd lg what)
 obtain ⟨xs, hxs⟩ : ∃ x, (mValuesOf lg what).1 = x := ⟨_, rfl⟩
 obtain ⟨yc, hyc⟩ : ∃ x, (mValuesOf lg what).2 = x := ⟨_, rfl⟩
 replace HVC : Hid (y = 0 → yc = 0) := Lib.hid (fun h => by rw [← hyc]; exact HVC.out h)
 replace HYE : Hid (y = 0 → exEnter d ⟨n1, what, n2⟩ = ({ d with log := lg }, [itb (sumI xs)], 0)) := Lib.hid (fun h => by rw [← hxs]; exact HYE.out h)
 rw [hxs] at HVO HSV HBV
 rw [hyc] at HVO
 have HSU := Lib.hid (fun v W' (h : RI W' v xs) => impl_sum v xs W' h HBV.out.1 (fun k hk => HBV.out.2 _ (by rw [← gd_gi]; exact gd_mem hk)))
 have k7 := HD.out.cells.k7
 have wr2 := fun W' h => cell_keep (w' := W') w2 h
 have HW2 := Lib.hid wr2
 replace hwq := hwq ad rfl
 clear hlg hy hxs hyc hwh hls hsz hV hE hD hw hx hx0 hc hn hl hb0 wr2
 go_enter Tryz.func44, Tryz.ntmps44
 replace k7 := fun d os => cell_regrown k7 d os
 replace w2 := fun d os => cell_regrown w2 d os
 replace m0 := fun d os => cell_regrown m0 d os
 replace m1 := fun d os => cell_regrown m1 d os
 go_wp2_with fail
 refine wp_region_quiet_below (by kernel_rfl) (by kernel_rfl) ?_
 repeat (go_big_quiet_step ((go_at_call 98; exact regrown_r (HAE.out _ (ext_trans HB0.out (below_regrown _ _ _))))))
 refine wpQuiet_nil ?_
 intro w' hw'
 obtain ⟨p, rfl⟩ := hw'
 have HB := Lib.hid (below_regrown W p.d p.os)
 generalize (grow (redrawn W p.d) p.os) = W1 at *
 clear k7 m0 m1 w2
 by_cases hy : y = 0
 · subst hy
   have hyc := HVC.out rfl
   subst hyc
   have HEX := Lib.hid (HYE.out rfl)
   have HD1 := Lib.hid (HD.out.ext HB.out)
   have HD2 := Lib.hid (HD1.out.putL lg)
   have k7 := HD1.out.cells.k7
   have kf := HD1.out.fz
   have HCP := Lib.hid ((Chg.of_below HB.out (fun k => k = q)).trans (Chg.setCell (S := fun k => k = q) W1 (p := ⟨q, 7, none⟩) rfl (.string lg)))
   obtain ⟨W2, hW2⟩ : ∃ x, W1.setCell ⟨q, 7, none⟩ (.string lg) = x := ⟨_, rfl⟩
   have w2 : W2.cell? ⟨ad.block, ad.off + 2, none⟩ = some (.string what) := by
     rw [← hW2, World.cell?_setCell_other W1 ⟨q, 7, none⟩ ⟨ad.block, ad.off + 2, none⟩ (.string lg) (fun e => hwq (congrArg Addr.block e).symm)]
     exact HW2.out W1 HB.out
   rw [hW2] at HD2 HCP
   have HB2 := Lib.hid (Chg.ext HB0.out HCP.out (fun k hk => by subst hk; exact HD.out.ge))
   have j7 := HD2.out.cells.k7
   go_upto_region 50 with fail
   clear hW2
   go_cut [31, 32] from 249 to 259 (fun u v wx => u = .int .i64 0 ∧ Hid (RI wx v xs) ∧ Hid (Below W2.heap.size W2 wx))
   case first =>
     go_region_law (go_simp; refine (show Calls _ _ _ _ _ from HVO.out rfl _ (HE.out _ (ext_drew HB2.out))).mono ?_; rintro e' W3 ⟨v, rfl, hO, _, hb⟩; (have HO := Lib.hid hO); (have HB3 := Lib.hid (ext_trans (ext_drew (ext_refl _)) hb)); clear hO hb; dsimp only)
     all_goals
       go_wp2_with fail
       go_meet
       exact ⟨rfl, Lib.hid HO.out.rd, HB3⟩
   case rest =>
     obtain ⟨rfl, HR, HB3⟩ := hcut
     clear j7 w2 k7 kf
     have HDE := Lib.hid (fun W' (h : Below w00.heap.size w00 W') => impl_Dec (sumI xs) (by have := HSV.out; omega) (by have := HSV.out; omega) W' (HE.out W' h).lay)
     go_wp2_with fail
     refine (show Calls _ _ _ _ _ from HSU.out _ _ HR.out).mono ?_
     rintro e' W4 ⟨rfl, rfl⟩
     go_wp2_with fail
     refine (show Calls _ _ _ _ _ from HDE.out _ (ext_trans HB2.out HB3.out)).mono ?_
     rintro e' W4 ⟨rfl, hb⟩
     have HB4 := Lib.hid (ext_trans HB3.out hb)
     clear hb
     go_wp2_with fail
     go_ret2
     exact ExP.one (r := exEnter d ⟨n1, what, n2⟩) HEX.out (HD2.out.ext HB4.out) (HCP.out.trans (Chg.of_below HB4.out _))
 · have HEX := Lib.hid (HNO.out hy)
   go_wp2_with fail
   go_ret2
   exact ExP.no (by rw [HEX.out]) hy (Chg.of_below HB.out _)
def SQ (W : World) (B0 q : Nat) (O : Option Addr) (n co : Nat) (d : DK) (out : List ByteArray) (r : DK × List ByteArray × Int) (N T : Value) : Ending → World → Prop := fun e' W' => e' = .returned (.tuple #[]) ∧ SP W B0 q O n co (if r.2.2 = 0 then r.1 else d) (out ++ if r.2.2 = 0 then r.2.1 else [erT r.2.2]) N T W'
theorem SQ.ok {W W' : World} {B0 q : Nat} {O : Option Addr} {n co : Nat} {d d1 : DK} {out ls : List ByteArray} {r : DK × List ByteArray × Int} {N T : Value} (hr : r = (d1, ls, 0)) (h : SP W B0 q O n co d1 (out ++ ls) N T W') : SQ W B0 q O n co d out r N T (.returned (.tuple #[])) W' := by
 subst hr
 refine ⟨rfl, ?_⟩
 rw [if_pos rfl, if_pos rfl]
 exact h
theorem SQ.no {W W' : World} {B0 q : Nat} {O : Option Addr} {n co : Nat} {d : DK} {out : List ByteArray} {r : DK × List ByteArray × Int} {N T : Value} {k : Int} (hr : r.2.2 = k) (hk : k ≠ 0) (h : SP W B0 q O n co d (out ++ [erT k]) N T W') : SQ W B0 q O n co d out r N T (.returned (.tuple #[])) W' := by
 subst hr
 refine ⟨rfl, ?_⟩
 rw [if_neg hk, if_neg hk]
 exact h
theorem far8 (W : World) (q i j : Nat) (u : Value) (hi : i < 8) (hj : 8 ≤ j) : (W.setCell ⟨q, i, none⟩ u).cell? ⟨q, j, none⟩ = W.cell? ⟨q, j, none⟩ :=
 World.cell?_setCell_other _ _ _ _ (fun e => by injection e with _ e2; omega)
theorem SX.turn {W W' : World} {B0 q : Nat} {d d' : DK} {A A' : Option Addr} {c c' : Nat} {B B' : Option Addr} {e e' : Nat} {O : Option Addr} {co : Nat} {out : List ByteArray} {N T : Value} (h : SX W B0 q d A c B e O co out N T) (hD : DB W' B0 q d' A' c' B' e')
   (hk : ∀ j, 8 ≤ j → W'.cell? ⟨q, j, none⟩ = W.cell? ⟨q, j, none⟩) (hc : Chg (fun k => k = q) W W') (ha : ∀ j, BI (.slice O out.length co) j → ¬ BI (.slice A' d'.cs.length c') j ∧ ¬ BI (.slice B' d'.wall.length e') j) : SX W' B0 q d' A' c' B' e' O co out N T :=
 ⟨hD, (hk 8 (by omega)).trans h.k8, (hk 9 (by omega)).trans h.k9, (hk 10 (by omega)).trans h.k10, h.own.chg hc (fun k hk e => (h.ap k hk).1 e), fun j hj => ⟨(h.ap j hj).1, ha j hj⟩⟩
theorem SX.putF {W : World} {B0 q : Nat} {d : DK} {A : Option Addr} {c : Nat} {B : Option Addr} {e : Nat} {O : Option Addr} {co : Nat} {out : List ByteArray} {N T : Value} (h : SX W B0 q d A c B e O co out N T) (f : FM) :
   SX ((((W.setCell ⟨q, 0, none⟩ (.int .i64 f.l)).setCell ⟨q, 1, none⟩ (.int .i64 f.w)).setCell ⟨q, 2, none⟩ (.int .i64 f.h)).setCell ⟨q, 3, none⟩ (.int .i64 f.j)) B0 q { d with f := f } A c B e O co out N T :=
 h.turn (h.bx.putF f) (fun j hj => by rw [far8 _ _ _ _ _ (by omega) hj, far8 _ _ _ _ _ (by omega) hj, far8 _ _ _ _ _ (by omega) hj, far8 _ _ _ _ _ (by omega) hj]) (chg_putF _ _ _ _ _ _) (fun j hj => (h.ap j hj).2)
set_option maxHeartbeats 3200000 in
theorem spec_ex_format (W : World) (B0 q : Nat) (d : DK) (A : Option Addr) (c : Nat) (B : Option Addr) (e : Nat) (O : Option Addr) (co : Nat) (out : List ByteArray) (N : Value) (At : Option Addr) (ct : Nat) (tl : List ByteArray) (h : SX W B0 q d A c B e O co out N (.slice At tl.length ct)) (hT : RStr W (.slice At tl.length ct) tl) (h0 : 0 < tl.length) (hsz : (gd tl 0).size ≤ 1048576) (hl : out.length ≤ 1000000000) :
   Calls Tryz.prog 63 #[.pointer (some ⟨q, 0, none⟩)] W (SQ W B0 q O out.length co d out (exFormat d (gd tl 0)) N (.slice At tl.length ct)) := by
 have HX := Lib.hid h
 obtain ⟨ad, rfl, _, hc⟩ := hT.at (k := 0) h0
 have w0 := hc 0 h0
 rw [Addr.add_zero'] at w0
 have k10 := h.k10
 obtain ⟨t, ht⟩ : ∃ x, gd tl 0 = x := ⟨_, rfl⟩
 rw [ht] at w0 hsz
 rw [ht]
 have i0 : (0 : Int) < tl.length := by omega
 have HRF := Lib.hid (fun w => spec_ReadFormat t hsz w)
 have hq := h.lt
 clear h hT hc ht hsz
 have HRP := Lib.hid (fun w1 (hb : Below W.heap.size W w1) => spec_report1 w1 B0 q d A c B e O co out N _ (HX.out.ext hb) 7 (by decide) (by decide) (by decide) (by omega))
 go_enter Tryz.func63, Tryz.ntmps63
 go_wp2_with fail
 refine (show Calls _ _ _ _ _ from HRF.out _).mono ?_
 rintro e' W1 ⟨rfl, hb⟩
 have HB := Lib.hid hb
 clear hb HRF
 have HMF : Hid (exFormat d t = if rfB t = true then ({ d with f := rfV t }, [fmT (rfV t)], 0) else (d, [], 7)) := Lib.hid rfl
 have HVF : Hid (rfB t = true → vF (rfV t) = true) := Lib.hid (fun h => by
   unfold rfB at h
   cases hm : mRF t with
   | none => rw [hm] at h; cases h
   | some f => rw [(rf_some hm).1]; exact (mRF_some hm).1)
 obtain ⟨F, hF⟩ : ∃ F, rfV t = F := ⟨_, rfl⟩
 obtain ⟨b, hb⟩ : ∃ b, rfB t = b := ⟨_, rfl⟩
 rw [hF, hb] at HMF HVF
 rw [hF, hb]
 clear hF hb
 have hsz := HB.out.size
 cases b with
 | false =>
   go_wp2_with fail
   refine (show Calls _ _ _ _ _ from HRP.out _ (ext_alloc HB.out _)).mono ?_
   rintro e' W2 ⟨rfl, hp⟩
   have HP := Lib.hid (hp.low (ext_alloc HB.out _))
   clear hp
   go_wp2_with fail
   first
     | refine bodyPost_end (v := .tuple #[]) (by simp [results, Tryz.results63, go_sem]) rfl ?_
     | refine bodyPost_ret (v := .tuple #[]) (by simp [results, Tryz.results63, go_sem]) rfl ?_
   exact SQ.no (by rw [HMF.out]; rfl) (by decide) HP.out
 | true =>
   have HX1 := Lib.hid (HX.out.ext HB.out)
   have HFT := Lib.hid (fun w => spec_fmT F (HVF.out (by trivial)) w)
   obtain ⟨k0, k1, k2, k3, _, _, _, _⟩ := HX1.out.bx.cells
   have kf := HX1.out.bx.fz
   have hq1 : q < W1.heap.size := by omega
   have hqn : q ≠ W1.heap.size := by omega
   have hqm := hqn.symm
   go_wp2_with fail
   have HX2 := Lib.hid (HX1.out.putF F)
   have HC2 := Lib.hid ((Chg.of_below HB.out (fun k => k = q)).trans (chg_putF W1 q (.int .i64 F.l) (.int .i64 F.w) (.int .i64 F.h) (.int .i64 F.j)))
   obtain ⟨W2, hW2⟩ : ∃ x, (((W1.setCell ⟨q, 0, none⟩ (.int .i64 F.l)).setCell ⟨q, 1, none⟩ (.int .i64 F.w)).setCell ⟨q, 2, none⟩ (.int .i64 F.h)).setCell ⟨q, 3, none⟩ (.int .i64 F.j) = x := ⟨_, rfl⟩
   rw [hW2] at HX2 HC2
   rw [hW2]
   clear hW2 k0 k1 k2 k3 kf
   have hfz := fmT_size (HVF.out (by trivial))
   refine (show Calls _ _ _ _ _ from HFT.out _).mono ?_
   rintro e' W3 ⟨rfl, hb3⟩
   have HX3 := Lib.hid (HX2.out.ext (ext_trans (ext_alloc1 _ _) hb3))
   have HB3 := Lib.hid (ext_trans (ext_alloc1 _ _) hb3)
   clear hb3
   have HS := Lib.hid (spec_say W3 B0 q _ A c B e O co out N _ HX3.out (fmT F) (by omega))
   go_wp2_with fail
   refine (show Calls _ _ _ _ _ from HS.out).mono ?_
   rintro e' W4 ⟨rfl, hp⟩
   have HP := Lib.hid ((hp.low HB3.out).pre HC2.out)
   clear hp
   go_wp2_with fail
   first
     | refine bodyPost_end (v := .tuple #[]) (by simp [results, Tryz.results63, go_sem]) rfl ?_
     | refine bodyPost_ret (v := .tuple #[]) (by simp [results, Tryz.results63, go_sem]) rfl ?_
   exact SQ.ok (by rw [HMF.out]; exact if_pos (by trivial)) HP.out
theorem SX.putB {W : World} {B0 q : Nat} {d : DK} {A : Option Addr} {c : Nat} {B : Option Addr} {e : Nat} {O : Option Addr} {co : Nat} {out : List ByteArray} {N T : Value} (h : SX W B0 q d A c B e O co out N T) {A1 : Option Addr} {c1 : Nat} {nm : ByteArray} {M : List CO} (hO : OCOS W B0 (.slice A1 M.length c1) M) {H : Nat} (hf : ∀ k, BI (.slice A1 M.length c1) k → H ≤ k) (hq : q < H) (hB : ∀ k, BI (.slice B d.wall.length e) k → k < H) (hOo : ∀ k, BI (.slice O out.length co) k → k < H) :
   SX ((W.setCell ⟨q, 4, none⟩ (.string nm)).setCell ⟨q, 5, none⟩ (.slice A1 M.length c1)) B0 q { d with nm := nm, cs := M } A1 c1 B e O co out N T :=
 h.turn (h.bx.putB hO (fun k hk => ⟨by have := hf k hk; omega, fun h2 => by have := hf k hk; have := hB k h2; omega⟩)) (fun j hj => by rw [far8 _ _ _ _ _ (by omega) hj, far8 _ _ _ _ _ (by omega) hj])
   ((Chg.setCell (S := fun k => k = q) _ (p := ⟨q, 4, none⟩) rfl _).trans (Chg.setCell (S := fun k => k = q) _ (p := ⟨q, 5, none⟩) rfl _)) (fun j hj => ⟨fun h2 => by have := hf j h2; have := hOo j hj; omega, (h.ap j hj).2.2⟩)
theorem SX.putW {W : World} {B0 q : Nat} {d : DK} {A : Option Addr} {c : Nat} {B : Option Addr} {e : Nat} {O : Option Addr} {co : Nat} {out : List ByteArray} {N T : Value} (h : SX W B0 q d A c B e O co out N T) {A1 : Option Addr} {c1 : Nat} {M : List ByteArray} (hO : OStr W B0 (.slice A1 M.length c1) M) {H : Nat} (hf : ∀ k, BI (.slice A1 M.length c1) k → H ≤ k) (hq : q < H) (hA : ∀ k, BI (.slice A d.cs.length c) k → k < H) (hOo : ∀ k, BI (.slice O out.length co) k → k < H) :
   SX (W.setCell ⟨q, 6, none⟩ (.slice A1 M.length c1)) B0 q { d with wall := M } A c A1 c1 O co out N T :=
 h.turn (h.bx.putW hO (fun k hk => ⟨by have := hf k hk; omega, fun h2 => by have := hf k hk; have := hA k h2; omega⟩)) (fun j hj => by rw [far8 _ _ _ _ _ (by omega) hj])
   (Chg.setCell (S := fun k => k = q) _ (p := ⟨q, 6, none⟩) rfl _) (fun j hj => ⟨(h.ap j hj).2.1, fun h2 => by have := hf j h2; have := hOo j hj; omega⟩)
theorem SX.putL {W : World} {B0 q : Nat} {d : DK} {A : Option Addr} {c : Nat} {B : Option Addr} {e : Nat} {O : Option Addr} {co : Nat} {out : List ByteArray} {N T : Value} (h : SX W B0 q d A c B e O co out N T) (s : ByteArray) :
   SX (W.setCell ⟨q, 7, none⟩ (.string s)) B0 q { d with log := s } A c B e O co out N T :=
 h.turn (h.bx.putL s) (fun j hj => by rw [far8 _ _ _ _ _ (by omega) hj]) (Chg.setCell (S := fun k => k = q) _ (p := ⟨q, 7, none⟩) rfl _) (fun j hj => (h.ap j hj).2)
set_option maxHeartbeats 3200000 in
theorem spec_ex_bond (W : World) (B0 q : Nat) (d : DK) (A : Option Addr) (c : Nat) (B : Option Addr) (e : Nat) (O : Option Addr) (co : Nat) (out : List ByteArray) (N : Value) (At : Option Addr) (ct : Nat) (tl : List ByteArray) (h : SX W B0 q d A c B e O co out N (.slice At tl.length ct)) (hT : RStr W (.slice At tl.length ct) tl) (h0 : 0 < tl.length) (hl : out.length ≤ 1000000000) (hV : vDK d = true) :
   Calls Tryz.prog 59 #[.pointer (some ⟨q, 0, none⟩)] W (SQ W B0 q O out.length co d out (exBond d (gd tl 0)) N (.slice At tl.length ct)) := by
 have HX := Lib.hid h
 obtain ⟨ad, rfl, _, hc⟩ := hT.at (k := 0) h0
 have w0 := hc 0 h0
 rw [Addr.add_zero'] at w0
 have k10 := h.k10
 obtain ⟨t, ht⟩ : ∃ x, gd tl 0 = x := ⟨_, rfl⟩
 rw [ht] at w0
 rw [ht]
 have i0 : (0 : Int) < tl.length := by omega
 have HBN := Lib.hid (fun w => spec_BondNamed t w)
 have hq := h.lt
 have hge := h.bx.ge
 have HV := Lib.hid hV
 have HNO := Lib.hid (@exBond_no d t)
 have HYE := Lib.hid (@exBond_ok d t)
 have HC := Lib.hid (inC_bn t)
 clear h hT hc ht hV
 obtain ⟨M, hM⟩ : ∃ x, bnC t = x := ⟨_, rfl⟩
 obtain ⟨nm, hnm⟩ : ∃ x, bnN t = x := ⟨_, rfl⟩
 obtain ⟨y, hy⟩ : ∃ x, bnR t = x := ⟨_, rfl⟩
 rw [hM, hnm, hy] at HBN HYE
 rw [hy] at HNO HC
 clear hM hnm hy
 go_enter Tryz.func59, Tryz.ntmps59
 go_wp2_with fail
 refine (show Calls _ _ _ _ _ from HBN.out _).mono ?_
 rintro e' W1 ⟨A1, c1, rfl, hO, hb⟩
 have HB := Lib.hid hb
 have HO := Lib.hid hO
 clear hb hO HBN
 have hsz := HB.out.size
 by_cases hy : y = 0
 · subst hy
   obtain ⟨he, hv2⟩ := HYE.out rfl HV.out
   have HEX := Lib.hid he
   have HV2 := Lib.hid hv2
   clear he hv2
   have HX1 := Lib.hid (HX.out.ext HB.out)
   have HX2 := Lib.hid (HX1.out.putB (nm := nm) (HO.out.mono (by omega)) (fun k hk => (HO.out.ge k hk).1) hq (fun k hk => (HX.out.bx.own.2.1.ge k hk).2) (fun k hk => (HX.out.own.ge k hk).2))
   have HC2 := Lib.hid ((Chg.of_below HB.out (fun k => k = q)).trans ((Chg.setCell (S := fun k => k = q) W1 (p := ⟨q, 4, none⟩) rfl (.string nm)).trans (Chg.setCell (S := fun k => k = q) _ (p := ⟨q, 5, none⟩) rfl (.slice A1 M.length c1))))
   obtain ⟨_, _, _, _, k4, k5, _, _⟩ := HX1.out.bx.cells
   have kf := HX1.out.bx.fz
   have hq1 : q < W1.heap.size := by omega
   have hqn : q ≠ W1.heap.size := by omega
   have hqm := hqn.symm
   go_wp2_with fail
   refine (spec_report0 _ _).mono ?_
   rintro e' W3 ⟨rfl, rfl⟩
   go_wp2_with fail
   obtain ⟨W2, hW2⟩ : ∃ x, (W1.setCell ⟨q, 4, none⟩ (.string nm)).setCell ⟨q, 5, none⟩ (.slice A1 M.length c1) = x := ⟨_, rfl⟩
   rw [hW2] at HX2 HC2
   rw [hW2]
   clear hW2 k4 k5 kf
   have HDT := Lib.hid (fun w (hb : Below W2.heap.size W2 w) => spec_dkT q _ A1 c1 B e w (HX2.out.ext hb).bx.cells HV2.out)
   refine (show Calls _ _ _ _ _ from HDT.out _ (ext_alloc1 _ _)).mono ?_
   rintro e' W3 ⟨rfl, hb3⟩
   have HB3 := Lib.hid (ext_trans (ext_alloc1 _ _) hb3)
   have HX3 := Lib.hid (HX2.out.ext HB3.out)
   clear hb3
   have HS := Lib.hid (spec_say W3 B0 q _ A1 c1 B e O co out N _ HX3.out (dkT { d with nm := nm, cs := M }) (by omega))
   go_wp2_with fail
   refine (show Calls _ _ _ _ _ from HS.out).mono ?_
   rintro e' W4 ⟨rfl, hp⟩
   have HP := Lib.hid ((hp.low HB3.out).pre HC2.out)
   clear hp
   go_wp2_with fail
   first
     | refine bodyPost_end (v := .tuple #[]) (by simp [results, Tryz.results59, go_sem]) rfl ?_
     | refine bodyPost_ret (v := .tuple #[]) (by simp [results, Tryz.results59, go_sem]) rfl ?_
   exact SQ.ok HEX.out HP.out
 · have HRP := Lib.hid (fun w1 (hb : Below W.heap.size W w1) => spec_report1 w1 B0 q d A c B e O co out N _ (HX.out.ext hb) y hy HC.out.1 HC.out.2 (by omega))
   go_wp2_with fail
   refine (show Calls _ _ _ _ _ from HRP.out _ (ext_alloc HB.out _)).mono ?_
   rintro e' W2 ⟨rfl, hp⟩
   have HP := Lib.hid (hp.low (ext_alloc HB.out _))
   clear hp
   go_wp2_with fail
   first
     | refine bodyPost_end (v := .tuple #[]) (by simp [results, Tryz.results59, go_sem]) rfl ?_
     | refine bodyPost_ret (v := .tuple #[]) (by simp [results, Tryz.results59, go_sem]) rfl ?_
   exact SQ.no (by rw [HNO.out hy]) hy HP.out
set_option maxHeartbeats 3200000 in
theorem spec_ex_wall (W : World) (B0 q : Nat) (d : DK) (A : Option Addr) (c : Nat) (B : Option Addr) (e : Nat) (O : Option Addr) (co : Nat) (out : List ByteArray) (T : Value) (An : Option Addr) (cn : Nat) (xs : List Int) (h : SX W B0 q d A c B e O co out (.slice An xs.length cn) T) (hN : RI W (.slice An xs.length cn) xs) (h0 : 1 < xs.length) (hl : out.length ≤ 1000000000) (hV : vDK d = true) :
   Calls Tryz.prog 69 #[.pointer (some ⟨q, 0, none⟩)] W (SQ W B0 q O out.length co d out (exWall d (gi xs 0) (gi xs 1)) (.slice An xs.length cn) T) := by
 have HX := Lib.hid h
 obtain ⟨an, rfl, _, hcn⟩ := hN.at2 (k := 0) (by omega)
 have m0 := hcn 0 (by omega)
 rw [Addr.add_zero'] at m0
 have m1 := hcn 1 (by omega)
 rw [addr_succ] at m1
 replace m1 : W.cell? ⟨an.block, an.off + 1, none⟩ = some (.int .i64 (gi xs 1)) := m1
 obtain ⟨n1, hn1⟩ : ∃ x, gi xs 0 = x := ⟨_, rfl⟩
 obtain ⟨n2, hn2⟩ : ∃ x, gi xs 1 = x := ⟨_, rfl⟩
 rw [hn1] at m0
 rw [hn2] at m1
 rw [hn1, hn2]
 have j0 : (0 : Int) < xs.length := by omega
 have j0n : 0 < xs.length := by omega
 have j1 : (1 : Int) < xs.length := by omega
 have k9 := h.k9
 clear hn1 hn2
 have hq := h.lt
 have hge := h.bx.ge
 have HV := Lib.hid hV
 have HNO := Lib.hid (@exWall_no d n1 n2)
 have HYE := Lib.hid (@exWall_ok d n1 n2)
 have HC := Lib.hid (inC_wall d.nm d.cs n1 n2)
 obtain ⟨l1, l2, l3, l4⟩ := sm_lenDK (vDK_sm hV)
 have HLW := Lib.hid (fun w (hb : Below W.heap.size W w) => spec_LayWall A c d.nm d.cs n1 n2 w l1 l2 (h.bx.own.1.rd.ext hb))
 obtain ⟨_, _, _, _, k4, k5, _, _⟩ := h.bx.cells
 clear h hN hcn hV l1 l2 l3 l4
 obtain ⟨M, hM⟩ : ∃ x, (mLayWall d.nm d.cs n1 n2).1 = x := ⟨_, rfl⟩
 obtain ⟨y, hy⟩ : ∃ x, (mLayWall d.nm d.cs n1 n2).2 = x := ⟨_, rfl⟩
 rw [hM, hy] at HLW HYE
 rw [hy] at HNO HC
 clear hM hy
 go_enter Tryz.func69, Tryz.ntmps69
 go_upto_region 0 with fail
 go_cut [2, 3] from 4 to 24 (fun u v wx => ∃ A1 c1, u = .slice A1 M.length c1 ∧ v = .int .i64 y ∧ Hid (OStr wx W.heap.size (.slice A1 M.length c1) M) ∧ Hid (Below W.heap.size W wx))
 case first =>
   go_region_held3 (fun w' => w'.cell? ⟨q, 4, none⟩ = some (.string d.nm) ∧ w'.cell? ⟨q, 5, none⟩ = some (.slice A d.cs.length c) ∧ w'.cell? ⟨q, 9, none⟩ = some (.slice (some an) xs.length cn) ∧ w'.cell? an = some (.int .i64 n1) ∧ w'.cell? ⟨an.block, an.off + 1, none⟩ = some (.int .i64 n2)) (first | exact ⟨k4, k5, k9, m0, m1⟩ | exact ⟨hd4, hd5, hd9, hm0, hm1⟩)
     ((go_at_call 130; (have ht := HLW.out W.drew (ext_drew (ext_refl _))); (with_reducible refine ht.mono ?_); clear ht; rintro e' W1 ⟨A1, c1, rfl, hO, hb⟩; (have HO := Lib.hid hO); (have HB := Lib.hid (ext_trans (ext_drew (ext_refl _)) hb)); (have hd4 := cell_keep k4 HB.out); (have hd5 := cell_keep k5 HB.out); (have hd9 := cell_keep k9 HB.out); (have hm0 := cell_keep m0 HB.out); (have hm1 := cell_keep m1 HB.out); clear hO hb; dsimp only))
   all_goals
     go_wp2_with fail
     go_meet
     exact ⟨A1, c1, rfl, rfl, Lib.hid HO.out, HB⟩
 case rest =>
 obtain ⟨A1, c1, rfl, rfl, HO, HB⟩ := hcut
 have hsz := HB.out.size
 clear k4 k5 m0 m1 k9 HLW
 by_cases hy : y = 0
 · subst hy
   obtain ⟨he, hv2⟩ := HYE.out rfl HV.out
   have HEX := Lib.hid he
   have HV2 := Lib.hid hv2
   clear he hv2
   have HX1 := Lib.hid (HX.out.ext HB.out)
   have HX2 := Lib.hid (HX1.out.putW (HO.out.mono (by omega)) (fun k hk => (HO.out.ge k hk).1) hq (fun k hk => (HX.out.bx.own.1.ge k hk).2) (fun k hk => (HX.out.own.ge k hk).2))
   have HC2 := Lib.hid ((Chg.of_below HB.out (fun k => k = q)).trans (Chg.setCell (S := fun k => k = q) wc (p := ⟨q, 6, none⟩) rfl (.slice A1 M.length c1)))
   have k6 := HX1.out.bx.cells.k6
   have kf := HX1.out.bx.fz 6
   go_wp2_with fail
   refine (spec_report0 _ _).mono ?_
   rintro e' wc ⟨rfl, rfl⟩
   go_wp2_with fail
   obtain ⟨W2, hW2⟩ : ∃ x, wc.setCell ⟨q, 6, none⟩ (.slice A1 M.length c1) = x := ⟨_, rfl⟩
   rw [hW2] at HX2 HC2
   rw [hW2]
   clear hW2 k6 kf
   have HDT := Lib.hid (spec_dkT q _ A c A1 c1 W2 HX2.out.bx.cells HV2.out)
   refine (show Calls _ _ _ _ _ from HDT.out).mono ?_
   rintro e' W3 ⟨rfl, hb3⟩
   have HB3 := Lib.hid hb3
   have HX3 := Lib.hid (HX2.out.ext HB3.out)
   clear hb3
   have HS := Lib.hid (spec_say W3 B0 q _ A c A1 c1 O co out _ T HX3.out (dkT { d with wall := M }) (by omega))
   go_wp2_with fail
   refine (show Calls _ _ _ _ _ from HS.out).mono ?_
   rintro e' W4 ⟨rfl, hp⟩
   have HP := Lib.hid ((hp.low HB3.out).pre HC2.out)
   clear hp
   go_wp2_with fail
   first
     | refine bodyPost_end (v := .tuple #[]) (by simp [results, Tryz.results69, go_sem]) rfl ?_
     | refine bodyPost_ret (v := .tuple #[]) (by simp [results, Tryz.results69, go_sem]) rfl ?_
   exact SQ.ok HEX.out HP.out
 · skip
   have HRP := Lib.hid (fun w1 (hb : Below W.heap.size W w1) => spec_report1 w1 B0 q d A c B e O co out _ T (HX.out.ext hb) y hy HC.out.1 HC.out.2 (by omega))
   go_wp2_with fail
   refine (show Calls _ _ _ _ _ from HRP.out _ HB.out).mono ?_
   rintro e' W2 ⟨rfl, hp⟩
   have HP := Lib.hid (hp.low HB.out)
   clear hp
   go_wp2_with fail
   first
     | refine bodyPost_end (v := .tuple #[]) (by simp [results, Tryz.results69, go_sem]) rfl ?_
     | refine bodyPost_ret (v := .tuple #[]) (by simp [results, Tryz.results69, go_sem]) rfl ?_
   exact SQ.no (by rw [HNO.out hy]) hy HP.out
set_option maxHeartbeats 3200000 in
theorem spec_ex_height (W : World) (B0 q : Nat) (d : DK) (A : Option Addr) (c : Nat) (B : Option Addr) (e : Nat) (O : Option Addr) (co : Nat) (out : List ByteArray) (T : Value) (An : Option Addr) (cn : Nat) (xs : List Int) (h : SX W B0 q d A c B e O co out (.slice An xs.length cn) T) (hN : RI W (.slice An xs.length cn) xs) (h0 : 0 < xs.length) (hl : out.length ≤ 1000000000) :
   Calls Tryz.prog 64 #[.pointer (some ⟨q, 0, none⟩)] W (SQ W B0 q O out.length co d out (exHeight d (gi xs 0)) (.slice An xs.length cn) T) := by
 have HX := Lib.hid h
 obtain ⟨an, rfl, _, hcn⟩ := hN.at2 (k := 0) (by omega)
 have m0 := hcn 0 (by omega)
 rw [Addr.add_zero'] at m0
 obtain ⟨n1, hn1⟩ : ∃ x, gi xs 0 = x := ⟨_, rfl⟩
 rw [hn1] at m0
 rw [hn1]
 have j0 : (0 : Int) < xs.length := by omega
 have j0n : 0 < xs.length := by omega
 have k9 := h.k9
 clear hn1
 have hq := h.lt
 have HHO := Lib.hid (fun w => spec_HeightOf d.f n1 w)
 have HEX := Lib.hid (exHeight_eq (d := d) (n := n1))
 obtain ⟨hb1, hb2⟩ := mHeight_bd d.f n1
 have HC := Lib.hid (inC_height d.f n1)
 have HDE := Lib.hid (fun w => spec_Dec (mHeight d.f n1).1 (by omega) (by omega) w)
 obtain ⟨x, hx1⟩ : ∃ x, (mHeight d.f n1).1 = x := ⟨_, rfl⟩
 obtain ⟨y, hy1⟩ : ∃ y, (mHeight d.f n1).2 = y := ⟨_, rfl⟩
 rw [hx1] at HHO HEX HDE
 rw [hy1] at HHO HEX HC
 obtain ⟨k0, k1, k2, k3, _, _, _, _⟩ := h.bx.cells
 clear hx1 hy1 hb1 hb2 h hN hcn
 go_enter Tryz.func64, Tryz.ntmps64
 replace k0 := fun d os => cell_regrown k0 d os
 replace k1 := fun d os => cell_regrown k1 d os
 replace k2 := fun d os => cell_regrown k2 d os
 replace k3 := fun d os => cell_regrown k3 d os
 replace m0 := fun d os => cell_regrown m0 d os
 replace k9 := fun d os => cell_regrown k9 d os
 go_wp2_with fail
 refine wp_region_quiet_below (by kernel_rfl) (by kernel_rfl) ?_
 repeat (go_big_quiet_step ((go_at_call 124; exact regrown_r (HHO.out _))))
 refine wpQuiet_nil ?_
 intro w' hw'
 obtain ⟨p, rfl⟩ := hw'
 have HB := Lib.hid (below_regrown W p.d p.os)
 generalize (grow (redrawn W p.d) p.os) = W1 at *
 clear k0 k1 k2 k3 m0 k9
 by_cases hy : y = 0
 · subst hy
   go_wp2_with fail
   refine (spec_report0 _ _).mono ?_
   rintro e' W3 ⟨rfl, rfl⟩
   go_wp2_with fail
   refine (show Calls _ _ _ _ _ from HDE.out _).mono ?_
   rintro e' W3 ⟨rfl, hb⟩
   have HB3 := Lib.hid (ext_trans HB.out hb)
   have HS := Lib.hid (spec_say W3 B0 q _ A c B e O co out _ T (HX.out.ext HB3.out) (itb x) (by omega))
   clear hb
   go_wp2_with fail
   refine (show Calls _ _ _ _ _ from HS.out).mono ?_
   rintro e' W4 ⟨rfl, hp⟩
   have HP := Lib.hid (hp.low HB3.out)
   clear hp
   go_wp2_with fail
   first
     | refine bodyPost_end (v := .tuple #[]) (by simp [results, Tryz.results64, go_sem]) rfl ?_
     | refine bodyPost_ret (v := .tuple #[]) (by simp [results, Tryz.results64, go_sem]) rfl ?_
   exact SQ.ok (HEX.out.2 (by trivial)) HP.out
 · skip
   have HRP := Lib.hid (fun w1 (hb : Below W.heap.size W w1) => spec_report1 w1 B0 q d A c B e O co out _ T (HX.out.ext hb) y hy HC.out.1 HC.out.2 (by omega))
   go_wp2_with fail
   refine (show Calls _ _ _ _ _ from HRP.out _ HB.out).mono ?_
   rintro e' W2 ⟨rfl, hp⟩
   have HP := Lib.hid (hp.low HB.out)
   clear hp
   go_wp2_with fail
   first
     | refine bodyPost_end (v := .tuple #[]) (by simp [results, Tryz.results64, go_sem]) rfl ?_
     | refine bodyPost_ret (v := .tuple #[]) (by simp [results, Tryz.results64, go_sem]) rfl ?_
   exact SQ.no HEX.out.1 hy HP.out
theorem exCheck_3 {d : DK} {n a b x : Int} (h : mClash d.wall n = (a, b, x, 3)) : exCheck d n = (d, [bondedT], 0) := by unfold exCheck; rw [h]; rfl
theorem exCheck_y {d : DK} {n a b x y : Int} (h : mClash d.wall n = (a, b, x, y)) (hy : y ≠ 3) : (exCheck d n).2.2 = y ∧ (y = 0 → exCheck d n = (d, [nmT [a, b, x]], 0)) := by
 unfold exCheck; rw [h]
 show (if y = 3 then _ else if y = 0 then _ else _ : DK × List ByteArray × Int).2.2 = y ∧ (y = 0 → (if y = 3 then _ else if y = 0 then _ else _ : DK × List ByteArray × Int) = _)
 rw [if_neg hy]
 by_cases h0 : y = 0
 · rw [if_pos h0]; exact ⟨h0.symm, fun _ => rfl⟩
 · rw [if_neg h0]; exact ⟨rfl, fun h => absurd h h0⟩
theorem clash_bd {l : List ByteArray} {n a b x y : Int} (h : mClash l n = (a, b, x, y)) : (0 ≤ a ∧ a ≤ 1000) ∧ (0 ≤ b ∧ b ≤ 1000) ∧ (0 ≤ x ∧ x ≤ 1000) := by
 by_cases hy : y = 0
 · have := mClash_ok (l := l) (lap := n) (by rw [h]; exact hy)
   rw [h] at this
   exact this
 · unfold mClash at h
   split at h
   · split at h
     · injection h with _ h; injection h with _ h; injection h with _ h
       exact absurd h.symm hy
     · injection h with h1 h; injection h with h2 h; injection h with h3 h
       subst h1 h2 h3
       decide
   · injection h with h1 h; injection h with h2 h; injection h with h3 h
     subst h1 h2 h3
     decide
set_option maxHeartbeats 3200000 in
theorem impl_ex_check (w00 W : World) (q : Nat) (d : DK) (A : Option Addr) (c : Nat) (B : Option Addr) (e : Nat) (hD : DB W w00.heap.size q d A c B e) (hb0 : Below w00.heap.size w00 W) (Aw : Option Addr) (cw : Nat) (l : List ByteArray) (hw : RStr W (.slice Aw l.length cw) l) (hl : l.length = 2) (hx : gd l 0 = cmW .check) (n1 : Int) (An : Option Addr) (cn : Nat) (hn : RI W (.slice An 1 cn) [n1]) (hE : Env w00) (hV : vDK d = true) :
   Calls Tryz.prog 44 #[.pointer (some ⟨q, 0, none⟩), .slice Aw l.length cw, .slice An 1 cn] W (ExP (exCheck d n1) W w00.heap.size q) := by
 have HD := Lib.hid hD
 have HB0 := Lib.hid hb0
 obtain ⟨ad, rfl, _, hc⟩ := hw.at (k := 0) (by omega)
 have w0 := hc 0 (by omega)
 rw [Addr.add_zero'] at w0
 obtain ⟨x0, hx0⟩ : ∃ x, gd l 0 = x := ⟨_, rfl⟩
 rw [hx0] at w0 hx
 have hx0 := hx
 obtain ⟨p0, q0⟩ := lit_neC (x := x0) (l := [102, 111, 114, 109, 97, 116]) (by rw [hx0]; decide)
 obtain ⟨p1, q1⟩ := lit_neC (x := x0) (l := [98, 111, 110, 100]) (by rw [hx0]; decide)
 obtain ⟨p2, q2⟩ := lit_neC (x := x0) (l := [119, 97, 108, 108]) (by rw [hx0]; decide)
 obtain ⟨p3, q3⟩ := lit_neC (x := x0) (l := [115, 104, 111, 119]) (by rw [hx0]; decide)
 have he : x0.toList = [99, 104, 101, 99, 107] := by rw [hx0, ByteArray.toList_eq]; rfl
 obtain ⟨an, rfl, _, hcn⟩ := hn.at2 (k := 0) (by simp)
 have m0 := hcn 0 (by simp)
 rw [Addr.add_zero'] at m0
 replace m0 : W.cell? an = some (.int .i64 n1) := m0
 clear hcn
 have i0 : (0 : Int) < l.length := by omega
 have HLF : Hid (∀ W', Below W.heap.size W W' → LayF W') := Lib.hid fun W' h => (hE.ext (ext_trans hb0 h)).lay
 have hSM := sm_wall (vDK_sm hV)
 have HFC := Lib.hid (fun d2 os => impl_FirstClash B e d.wall n1 (grow (redrawn W d2) os) (hD.own.2.1.rd.ext (below_regrown _ _ _)) hSM)
 obtain ⟨⟨a, b, x, y⟩, hM⟩ : ∃ M, mClash d.wall n1 = M := ⟨_, rfl⟩
 have hbd := clash_bd hM
 have HM := Lib.hid hM
 have HNT : Hid (∀ W' v, RI W' v [a, b, x] → Below W.heap.size W W' → Calls Tryz.prog 93 #[.string ⟨#[32]⟩, v] W' (Ret (.string (nmT [a, b, x])) W')) := Lib.hid fun W' v h hb => impl_numsText 32 v [a, b, x] W' h (by simp) (fun k hk => by
     have hk : k < 3 := hk
     rcases (show k = 0 ∨ k = 1 ∨ k = 2 by omega) with rfl | rfl | rfl
     · show -9223372036854775808 ≤ a ∧ a ≤ 9223372036854775807; omega
     · show -9223372036854775808 ≤ b ∧ b ≤ 9223372036854775807; omega
     · show -9223372036854775808 ≤ x ∧ x ≤ 9223372036854775807; omega) (HLF.out W' hb)
 rw [hM] at HFC
 replace HFC : Hid (∀ d2 os, Calls Tryz.prog 92 #[.slice B d.wall.length e, .int .i64 n1] (grow (redrawn W d2) os) (Ret (.tuple #[.int .i64 a, .int .i64 b, .int .i64 x, .int .i64 y]) (grow (redrawn W d2) os))) := HFC
 have k6 := HD.out.cells.k6
 obtain ⟨sw, hsw⟩ : ∃ v, Value.slice B d.wall.length e = v := ⟨_, rfl⟩
 rw [hsw] at HFC k6
 clear hsw hM hbd hSM hV hE hD hw hx hx0 hc hn hl hb0
 go_enter Tryz.func44, Tryz.ntmps44
 replace k6 := fun d os => cell_regrown k6 d os
 replace m0 := fun d os => cell_regrown m0 d os
 go_wp2_with fail
 refine wp_region_quiet_below (by kernel_rfl) (by kernel_rfl) ?_
 repeat (go_big_quiet_step ((go_at_call 92; exact regrown_r (HFC.out _ _))))
 refine wpQuiet_nil ?_
 intro w' hw'
 obtain ⟨p, rfl⟩ := hw'
 have HB := Lib.hid (below_regrown W p.d p.os)
 generalize (grow (redrawn W p.d) p.os) = W1 at *
 clear k6 m0
 by_cases hy : y = 3
 · subst hy
   have HEX := Lib.hid (exCheck_3 HM.out)
   go_wp2_with fail
   go_ret2
   exact ExP.one (r := exCheck d n1) HEX.out (HD.out.ext HB.out) (Chg.of_below HB.out _)
 · have HEX := Lib.hid (exCheck_y HM.out hy)
   go_wp2_with fail
   refine (show Calls _ _ _ _ _ from HNT.out _ _ (ri3_new W1 a b x) (ext_alloc HB.out _)).mono ?_
   rintro e' W3 ⟨rfl, hb⟩
   have HB3 := Lib.hid (ext_trans (ext_alloc HB.out _) hb)
   clear hb
   go_wp2_with fail
   go_ret2
   exact ExP.said (r := exCheck d n1) HEX.out.1 HEX.out.2 (HD.out.ext HB3.out) (Chg.of_below HB3.out _)
end Go.Proofs.YtfgopboddkhckaaGreatDoor
