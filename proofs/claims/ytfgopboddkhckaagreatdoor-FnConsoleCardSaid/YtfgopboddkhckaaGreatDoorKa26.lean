/-
  Parts of the proof: Ex11.
-/
import Derived.Test.YtfgopboddkhckaaGreatDoorKa15
import Derived.Test.YtfgopboddkhckaaGreatDoorKa25
namespace Go.Proofs.YtfgopboddkhckaaGreatDoor
open Go.ChangeShapes Go.WideShapes Go.ChangeAt Go.RowKit Go.Sort Go.Joins
set_option linter.unusedVariables false
set_option maxRecDepth 100000
theorem exEnter_no {d : DK} {o : EN} (h : ¬ (mAddEntry d.log o).2 = 0) : exEnter d o = (d, [], (mAddEntry d.log o).2) := by unfold exEnter; exact if_neg h
theorem exEnter_ok {d : DK} {o : EN} (h : (mAddEntry d.log o).2 = 0) : exEnter d o = ({ d with log := (mAddEntry d.log o).1 }, [itb (sumI (mValuesOf (mAddEntry d.log o).1 o.what).1)], 0) := by unfold exEnter; exact if_pos h
/-- The log's cell filled. -/
theorem DB.putL {W : World} {B0 q : Nat} {d : DK} {A : Option Addr} {c : Nat} {B : Option Addr} {e : Nat} (h : DB W B0 q d A c B e) (s : ByteArray) :
    DB (W.setCell ⟨q, 7, none⟩ (.string s)) B0 q { d with log := s } A c B e := by
  have hc : Chg (fun k => k = q) W (W.setCell ⟨q, 7, none⟩ (.string s)) := Chg.setCell (S := fun k => k = q) _ (p := ⟨q, 7, none⟩) rfl _
  obtain ⟨k0, k1, k2, k3, k4, k5, k6, k7⟩ := h.cells
  have fz := h.fz
  refine ⟨⟨by simp [go_sem, k0], by simp [go_sem, k1], by simp [go_sem, k2], by simp [go_sem, k3], by simp [go_sem, k4], by simp [go_sem, k5], by simp [go_sem, k6], by simp [go_sem, k7]⟩, ⟨h.own.1.chg hc (fun k hk e => h.fa k hk e), h.own.2.1.chg hc (fun k hk e => h.fb k hk e), h.own.2.2⟩, h.fa, h.fb, fun j => by simpa using fz j, h.ge⟩
set_option maxHeartbeats 3200000 in
theorem impl_ex_enter (w00 W : World) (q : Nat) (d : DK) (A : Option Addr) (c : Nat) (B : Option Addr) (e : Nat) (hD : DB W w00.heap.size q d A c B e) (hb0 : Below w00.heap.size w00 W) (Aw : Option Addr) (cw : Nat) (l : List ByteArray) (hw : RStr W (.slice Aw l.length cw) l) (hl : l.length = 4) (hx : gd l 0 = cmW .enter) (n1 n2 : Int) (An : Option Addr) (cn : Nat) (hn : RI W (.slice An 2 cn) [n1, n2]) (hwq : ∀ ad, Aw = some ad → ad.block ≠ q) (hsz : (gd l 2).size ≤ 1048576) (hE : Env w00) (hV : vDK d = true) :
    Calls Tryz.prog 44 #[.pointer (some ⟨q, 0, none⟩), .slice Aw l.length cw, .slice An 2 cn] W (ExP (exEnter d ⟨n1, gd l 2, n2⟩) W w00.heap.size q) := by
  have HD := Lib.hid hD
  have HB0 := Lib.hid hb0
  obtain ⟨ad, rfl, _, hc⟩ := hw.at (k := 0) (by omega)
  have w0 := hc 0 (by omega)
  rw [Addr.add_zero'] at w0
  obtain ⟨x0, hx0⟩ : ∃ x, gd l 0 = x := ⟨_, rfl⟩
  rw [hx0] at w0 hx
  have hx0 := hx
  obtain ⟨p0, q0⟩ := lit_neC (x := x0) (l := [102, 111, 114, 109, 97, 116]) (by rw [hx0]; decide)
  obtain ⟨p1, q1⟩ := lit_neC (x := x0) (l := [98, 111, 110, 100]) (by rw [hx0]; decide)
  obtain ⟨p2, q2⟩ := lit_neC (x := x0) (l := [119, 97, 108, 108]) (by rw [hx0]; decide)
  obtain ⟨p3, q3⟩ := lit_neC (x := x0) (l := [115, 104, 111, 119]) (by rw [hx0]; decide)
  obtain ⟨p4, q4⟩ := lit_neC (x := x0) (l := [99, 104, 101, 99, 107]) (by rw [hx0]; decide)
  obtain ⟨p5, q5⟩ := lit_neC (x := x0) (l := [99, 111, 117, 110, 116]) (by rw [hx0]; decide)
  obtain ⟨p6, q6⟩ := lit_neC (x := x0) (l := [112, 97, 105, 114]) (by rw [hx0]; decide)
  obtain ⟨p7, q7⟩ := lit_neC (x := x0) (l := [108, 101, 110, 103, 116, 104]) (by rw [hx0]; decide)
  obtain ⟨p8, q8⟩ := lit_neC (x := x0) (l := [104, 101, 105, 103, 104, 116]) (by rw [hx0]; decide)
  have he : x0.toList = [101, 110, 116, 101, 114] := by rw [hx0, ByteArray.toList_eq]; rfl
  obtain ⟨an, rfl, _, hcn⟩ := hn.at2 (k := 0) (by simp)
  have m0 := hcn 0 (by simp)
  rw [Addr.add_zero'] at m0
  have m1 := hcn 1 (by simp)
  rw [addr_succ] at m1
  replace m0 : W.cell? an = some (.int .i64 n1) := m0
  replace m1 : W.cell? ⟨an.block, an.off + 1, none⟩ = some (.int .i64 n2) := m1
  clear hcn
  have i0 : (0 : Int) < l.length := by omega
  have w2 := hc 2 (by omega)
  rw [addr_succ] at w2
  replace w2 : W.cell? ⟨ad.block, ad.off + 2, none⟩ = some (.string (gd l 2)) := w2
  have i2 : (2 : Int) < l.length := by omega
  obtain ⟨what, hwh⟩ : ∃ x, gd l 2 = x := ⟨_, rfl⟩
  rw [hwh] at w2 hsz
  rw [hwh]
  have HE := Lib.hid (fun W' (h : Below w00.heap.size w00 W') => hE.ext h)
  have hls := (vDK_sizes hV).2.2.2
  have HAE := Lib.hid (fun W' (h : Below w00.heap.size w00 W') => impl_AddEntry d.log (.agg #[.int .i64 n1, .string what, .int .i64 n2]) ⟨n1, what, n2⟩ W' (by omega) rfl hsz (hE.ext h))
  have HNO := Lib.hid (@exEnter_no d ⟨n1, what, n2⟩)
  have HYE := Lib.hid (@exEnter_ok d ⟨n1, what, n2⟩)
  have HVO := Lib.hid (fun (h : (mAddEntry d.log ⟨n1, what, n2⟩).2 = 0) W' hE => impl_ValuesOf (mAddEntry d.log ⟨n1, what, n2⟩).1 what W' (by have := (add_ok h).2.2.2.2; omega) hsz hE)
  have HVC := Lib.hid (@add_vals d.log ⟨n1, what, n2⟩)
  obtain ⟨lg, hlg⟩ : ∃ x, (mAddEntry d.log ⟨n1, what, n2⟩).1 = x := ⟨_, rfl⟩
  obtain ⟨y, hy⟩ : ∃ x, (mAddEntry d.log ⟨n1, what, n2⟩).2 = x := ⟨_, rfl⟩
  rw [hlg, hy] at HAE HYE HVO HVC
  rw [hy] at HNO
  have HSV := Lib.hid (sum_vals lg what)
  have HBV := Lib.hid (vals_bd lg what)
  obtain ⟨xs, hxs⟩ : ∃ x, (mValuesOf lg what).1 = x := ⟨_, rfl⟩
  obtain ⟨yc, hyc⟩ : ∃ x, (mValuesOf lg what).2 = x := ⟨_, rfl⟩
  replace HVC : Hid (y = 0 → yc = 0) := Lib.hid (fun h => by rw [← hyc]; exact HVC.out h)
  replace HYE : Hid (y = 0 → exEnter d ⟨n1, what, n2⟩ = ({ d with log := lg }, [itb (sumI xs)], 0)) := Lib.hid (fun h => by rw [← hxs]; exact HYE.out h)
  rw [hxs] at HVO HSV HBV
  rw [hyc] at HVO
  have HSU := Lib.hid (fun v W' (h : RI W' v xs) => impl_sum v xs W' h HBV.out.1 (fun k hk => HBV.out.2 _ (by rw [← gd_gi]; exact gd_mem hk)))
  have k7 := HD.out.cells.k7
  have wr2 := fun W' h => cell_keep (w' := W') w2 h
  have HW2 := Lib.hid wr2
  replace hwq := hwq ad rfl
  clear hlg hy hxs hyc hwh hls hsz hV hE hD hw hx hx0 hc hn hl hb0 wr2
  go_enter Tryz.func44, Tryz.ntmps44
  replace k7 := fun d os => cell_regrown k7 d os
  replace w2 := fun d os => cell_regrown w2 d os
  replace m0 := fun d os => cell_regrown m0 d os
  replace m1 := fun d os => cell_regrown m1 d os
  go_wp2_with fail
  refine wp_region_quiet_below (by kernel_rfl) (by kernel_rfl) ?_
  repeat (go_big_quiet_step ((go_at_call 98; exact regrown_r (HAE.out _ (ext_trans HB0.out (below_regrown _ _ _))))))
  refine wpQuiet_nil ?_
  intro w' hw'
  obtain ⟨p, rfl⟩ := hw'
  have HB := Lib.hid (below_regrown W p.d p.os)
  generalize (grow (redrawn W p.d) p.os) = W1 at *
  clear k7 m0 m1 w2
  by_cases hy : y = 0
  · subst hy
    have hyc := HVC.out rfl
    subst hyc
    have HEX := Lib.hid (HYE.out rfl)
    have HD1 := Lib.hid (HD.out.ext HB.out)
    have HD2 := Lib.hid (HD1.out.putL lg)
    have k7 := HD1.out.cells.k7
    have kf := HD1.out.fz
    have HCP := Lib.hid ((Chg.of_below HB.out (fun k => k = q)).trans (Chg.setCell (S := fun k => k = q) W1 (p := ⟨q, 7, none⟩) rfl (.string lg)))
    obtain ⟨W2, hW2⟩ : ∃ x, W1.setCell ⟨q, 7, none⟩ (.string lg) = x := ⟨_, rfl⟩
    have w2 : W2.cell? ⟨ad.block, ad.off + 2, none⟩ = some (.string what) := by
      rw [← hW2, World.cell?_setCell_other W1 ⟨q, 7, none⟩ ⟨ad.block, ad.off + 2, none⟩ (.string lg) (fun e => hwq (congrArg Addr.block e).symm)]
      exact HW2.out W1 HB.out
    rw [hW2] at HD2 HCP
    have HB2 := Lib.hid (Chg.ext HB0.out HCP.out (fun k hk => by subst hk; exact HD.out.ge))
    have j7 := HD2.out.cells.k7
    go_upto_region 50 with fail
    clear hW2
    go_cut [31, 32] from 249 to 259 (fun u v wx => u = .int .i64 0 ∧ Hid (RI wx v xs) ∧ Hid (Below W2.heap.size W2 wx))
    case first =>
      go_region_law (go_simp; refine (show Calls _ _ _ _ _ from HVO.out rfl _ (HE.out _ (ext_drew HB2.out))).mono ?_; rintro e' W3 ⟨v, rfl, hO, _, hb⟩; (have HO := Lib.hid hO); (have HB3 := Lib.hid (ext_trans (ext_drew (ext_refl _)) hb)); clear hO hb; dsimp only)
      all_goals
        go_wp2_with fail
        go_meet
        exact ⟨rfl, Lib.hid HO.out.rd, HB3⟩
    case rest =>
      obtain ⟨rfl, HR, HB3⟩ := hcut
      clear j7 w2 k7 kf
      have HDE := Lib.hid (fun W' (h : Below w00.heap.size w00 W') => impl_Dec (sumI xs) (by have := HSV.out; omega) (by have := HSV.out; omega) W' (HE.out W' h).lay)
      go_wp2_with fail
      refine (show Calls _ _ _ _ _ from HSU.out _ _ HR.out).mono ?_
      rintro e' W4 ⟨rfl, rfl⟩
      go_wp2_with fail
      refine (show Calls _ _ _ _ _ from HDE.out _ (ext_trans HB2.out HB3.out)).mono ?_
      rintro e' W4 ⟨rfl, hb⟩
      have HB4 := Lib.hid (ext_trans HB3.out hb)
      clear hb
      go_wp2_with fail
      go_ret2
      exact ExP.one (r := exEnter d ⟨n1, what, n2⟩) HEX.out (HD2.out.ext HB4.out) (HCP.out.trans (Chg.of_below HB4.out _))
  · have HEX := Lib.hid (HNO.out hy)
    go_wp2_with fail
    go_ret2
    exact ExP.no (by rw [HEX.out]) hy (Chg.of_below HB.out _)
end Go.Proofs.YtfgopboddkhckaaGreatDoor
