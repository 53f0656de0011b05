/-
  Parts of the proof: SbC.
-/
import Derived.Test.YtfgopboddkhckaaGreatDoorKw34
namespace Go.Proofs.YtfgopboddkhckaaGreatDoor
open Go.ChangeShapes Go.WideShapes Go.ChangeAt Go.RowKit Go.Sort Go.Joins
set_option linter.unusedVariables false
set_option maxRecDepth 100000
def od5 : ByteArray := ⟨#[83, 72, 84, 66, 67]⟩
theorem od5_at (k : Nat) (hk : k < 5) : ∀ h, ((od5[k]'h).toNat : Int) = ((pcs.getD k 0).toNat : Int) := by
 rcases (show k = 0 ∨ k = 1 ∨ k = 2 ∨ k = 3 ∨ k = 4 by omega) with rfl | rfl | rfl | rfl | rfl <;> exact fun _ => rfl
theorem od5_cut (k : Nat) (hk : k < 5) : od5.extract k (k + 1) = bsq [pcs.getD k 0] := by
 rcases (show k = 0 ∨ k = 1 ∨ k = 2 ∨ k = 3 ∨ k = 4 by omega) with rfl | rfl | rfl | rfl | rfl <;> decide
def tLo (x : UInt8) (v : PV) : PV := ⟨v.c, v.p, x :: v.lo, v.hi⟩
def tHi (x : UInt8) (v : PV) : PV := ⟨v.c, v.p, v.lo, x :: v.hi⟩
def adC (x : UInt8) (v : PV) : PV := ⟨v.c + cL x, v.p, v.lo, v.hi⟩
def adP (v : PV) : PV := ⟨v.c, v.p + 1, v.lo, v.hi⟩
theorem chg_drew (W : World) (S : Nat → Prop) : Chg S W W.drew := Chg.of_below (ext_drew (ext_refl _)) S
theorem O4.tLo {W : World} {g : Nat} {v : PV} (h : O4 W g (some v)) (x : UInt8) : O4 ((W.setCell ⟨g, 2, none⟩ (.string (bsq [x] ++ bsq v.lo))).drew) g (some (tLo x v)) := by
 obtain ⟨⟨c0, c1, c2, c3⟩, gf⟩ := h
 change W.cell? ⟨g, 0, none⟩ = some (.int .i64 (v.c : Int)) at c0
 change W.cell? ⟨g, 0 + 1, none⟩ = some (.int .i64 (v.p : Int)) at c1
 change W.cell? ⟨g, 0 + 2, none⟩ = some (.string (bsq v.lo)) at c2
 change W.cell? ⟨g, 0 + 3, none⟩ = some (.string (bsq v.hi)) at c3
 simp only [Nat.zero_add] at c1 c2 c3
 rw [bsq_app]
 refine ⟨⟨?_, ?_, ?_, ?_⟩, fun j => by simpa using gf j⟩
 all_goals simp [go_sem, oc, on, ol, oh, Go.Proofs.YtfgopboddkhckaaGreatDoor.tLo, c0, c1, c2, c3]
theorem O4.tHi {W : World} {g : Nat} {v : PV} (h : O4 W g (some v)) (x : UInt8) : O4 ((W.setCell ⟨g, 3, none⟩ (.string (bsq [x] ++ bsq v.hi))).drew) g (some (tHi x v)) := by
 obtain ⟨⟨c0, c1, c2, c3⟩, gf⟩ := h
 change W.cell? ⟨g, 0, none⟩ = some (.int .i64 (v.c : Int)) at c0
 change W.cell? ⟨g, 0 + 1, none⟩ = some (.int .i64 (v.p : Int)) at c1
 change W.cell? ⟨g, 0 + 2, none⟩ = some (.string (bsq v.lo)) at c2
 change W.cell? ⟨g, 0 + 3, none⟩ = some (.string (bsq v.hi)) at c3
 simp only [Nat.zero_add] at c1 c2 c3
 rw [bsq_app]
 refine ⟨⟨?_, ?_, ?_, ?_⟩, fun j => by simpa using gf j⟩
 all_goals simp [go_sem, oc, on, ol, oh, Go.Proofs.YtfgopboddkhckaaGreatDoor.tHi, c0, c1, c2, c3]
theorem O4.adC {W : World} {g : Nat} {v : PV} (h : O4 W g (some v)) (x : UInt8) : O4 (W.setCell ⟨g, 0, none⟩ (.int .i64 ((v.c : Int) + (cL x : Int)))) g (some (adC x v)) := by
 obtain ⟨⟨c0, c1, c2, c3⟩, gf⟩ := h
 change W.cell? ⟨g, 0, none⟩ = some (.int .i64 (v.c : Int)) at c0
 change W.cell? ⟨g, 0 + 1, none⟩ = some (.int .i64 (v.p : Int)) at c1
 change W.cell? ⟨g, 0 + 2, none⟩ = some (.string (bsq v.lo)) at c2
 change W.cell? ⟨g, 0 + 3, none⟩ = some (.string (bsq v.hi)) at c3
 simp only [Nat.zero_add] at c1 c2 c3
 refine ⟨⟨?_, ?_, ?_, ?_⟩, fun j => by simpa using gf j⟩
 all_goals simp [go_sem, oc, on, ol, oh, Go.Proofs.YtfgopboddkhckaaGreatDoor.adC, c0, c1, c2, c3]
theorem O4.adP {W : World} {g : Nat} {v : PV} (h : O4 W g (some v)) : O4 (W.setCell ⟨g, 1, none⟩ (.int .i64 ((v.p : Int) + 1))) g (some (adP v)) := by
 obtain ⟨⟨c0, c1, c2, c3⟩, gf⟩ := h
 change W.cell? ⟨g, 0, none⟩ = some (.int .i64 (v.c : Int)) at c0
 change W.cell? ⟨g, 0 + 1, none⟩ = some (.int .i64 (v.p : Int)) at c1
 change W.cell? ⟨g, 0 + 2, none⟩ = some (.string (bsq v.lo)) at c2
 change W.cell? ⟨g, 0 + 3, none⟩ = some (.string (bsq v.hi)) at c3
 simp only [Nat.zero_add] at c1 c2 c3
 refine ⟨⟨?_, ?_, ?_, ?_⟩, fun j => by simpa using gf j⟩
 all_goals simp [go_sem, oc, on, ol, oh, Go.Proofs.YtfgopboddkhckaaGreatDoor.adP, c0, c1, c2, c3]
set_option maxHeartbeats 16000000 in
theorem spec_best (q L P N T D : Nat) (hP : 1 ≤ P) (hL : L ≤ 80) : ∀ (n a b : Nat), a ≤ L → b ≤ L → (L - a) + (L - b) < n → ∀ w : World, SM w q L P N T D →
   Calls Tryz.prog 227 #[.pointer (some ⟨q, 0, none⟩), .int .i64 (a : Int), .int .i64 (b : Int)] w (BestP L P N a b q T D w) := by
 intro n
 induction n with
 | zero => intro a b _ _ h; omega
 | succ n ih =>
   intro a b ha hb hn w hM
   have HLT := Lib.hid hM.lt
   have HF : Hid (FS w (w.alloc (.cells #[.int .i64 0, .int .i64 0, .string ⟨#[]⟩, .string ⟨#[]⟩] 210)) q L P N T D w.heap.size) := Lib.hid
     ⟨hM.ext (ext_alloc1 _ _), Chg.of_below (ext_alloc1 _ _) _, O4.new w (some PV.zero) _, Nat.le_refl _⟩
   have HN : Hid (N = (L + 1) * (L + 1)) := Lib.hid hM.hN
   clear hM
   by_cases he : a = L ∧ b = L
   · obtain ⟨rfl, hbL⟩ := he
     subst hbL
     have HR : Hid (sR b P b b = some PV.zero) := Lib.hid (sR_end b P)
     go_enter Tryz.func227, Tryz.ntmps227
     go_upto_region 1 with fail
     generalize (w.alloc (.cells #[.int .i64 0, .int .i64 0, .string ⟨#[]⟩, .string ⟨#[]⟩] 210)) = w2 at *
     obtain ⟨r, hr⟩ : ∃ r, w.heap.size = r := ⟨_, rfl⟩
     rw [hr] at HF
     simp only [hr]
     clear hr
     have k0 := HF.out.mem.c0
     obtain ⟨r0, r1, r2, r3⟩ := HF.out.rs.cs
     have rf := HF.out.rs.gf
     go_wp2_with fail
     have HE := Lib.hid (HF.out.fin HLT.out (some PV.zero))
     obtain ⟨w9, hw9⟩ : ∃ x, putT w2 r 0 (some PV.zero) = x := ⟨_, rfl⟩
     rw [hw9] at HE
     change ((((w2.setCell ⟨r, 0, none⟩ (.int .i64 0)).setCell ⟨r, 1, none⟩ (.int .i64 0)).setCell ⟨r, 2, none⟩ (.string ⟨#[]⟩)).setCell ⟨r, 3, none⟩ (.string ⟨#[]⟩)) = w9 at hw9
     rw [hw9]
     obtain ⟨u0, u1, u2, u3⟩ := HE.out.u
     clear hw9
     refine bodyPost_ret (v := OVv (some PV.zero)) (by simp [results, Tryz.results227, go_sem, u0, u1, u2, u3]) rfl ?_
     exact ⟨by rw [HR.out], HE.out.mem, HE.out.chg⟩
   · have hab : a = L → ((b : Int) == (L : Int)) = false := fun h => beq_eq_false_iff_ne.2 (by omega)
     have HE : Hid (¬ (a = L ∧ b = L)) := Lib.hid he
     obtain ⟨m, hm⟩ : ∃ m, a * (L + 1) + b = m := ⟨_, rfl⟩
     have hmN : m < N := by rw [HN.out, ← hm]; exact at_lt ha hb
     have hmi : (a : Int) * ((L : Int) + 1) + (b : Int) = (m : Int) := by rw [← hm]; push_cast; rfl
     have hN2 : N ≤ 81 * 81 := by rw [HN.out]; exact Nat.mul_le_mul (by omega) (by omega)
     have hw1 : (a : Int) * ((L : Int) + 1) ≤ 1000000 := by have : (0 : Int) ≤ b := by omega
                                                            omega
     have hw0 : (0 : Int) ≤ (a : Int) * ((L : Int) + 1) := Int.mul_nonneg (by omega) (by omega)
     have hwr : IntKind.i64.wrap ((a : Int) * ((L : Int) + 1)) = (a : Int) * ((L : Int) + 1) := IntWalk.i64_in _ (by omega)
     have HMM : Hid (a * (L + 1) + b = m) := Lib.hid hm
     clear he hm
     go_enter Tryz.func227, Tryz.ntmps227
     go_upto_region 1 with fail
     generalize (w.alloc (.cells #[.int .i64 0, .int .i64 0, .string ⟨#[]⟩, .string ⟨#[]⟩] 210)) = w2 at *
     obtain ⟨r, hr⟩ : ∃ r, w.heap.size = r := ⟨_, rfl⟩
     rw [hr] at HF
     simp only [hr]
     clear hr
     have k0 := HF.out.mem.c0
     have k2 := HF.out.mem.c2
     have k3 := HF.out.mem.c3
     obtain ⟨y, dn, hy, hd, hmemo⟩ := HF.out.mem.tab
     have d0 := hd m hmN
     obtain ⟨t0, t1, t2, t3⟩ := hy m hmN
     have HMEM : Hid (dn m = true → y m = sR L P a b) := Lib.hid (by rw [← HMM.out]; exact hmemo a b ha hb)
     clear hy hd hmemo
     obtain ⟨r0, r1, r2, r3⟩ := HF.out.rs.cs
     simp only [Nat.zero_add] at r1 r2 r3
     have rf := HF.out.rs.gf
     have hmN' : (m : Int) < (N : Int) := by omega
     go_cut [27] from 14 to 27 (fun v wx => v = .bool false ∧ wx = w2)
     case first =>
       by_cases hal : a = L
       · have e1 : ((a : Int) == (L : Int)) = true := beq_iff_eq.2 (by omega)
         have e2 := hab hal
         clear hal hab
         go_wp2_with fail
         go_meet
         exact ⟨rfl, rfl⟩
       · have e1 : ((a : Int) == (L : Int)) = false := beq_eq_false_iff_ne.2 (by omega)
         clear hal hab
         go_wp2_with fail
         go_meet
         exact ⟨rfl, rfl⟩
     case rest =>
     obtain ⟨rfl, rfl⟩ := hcut
     clear hab
     obtain ⟨db, hdb⟩ : ∃ x, dn m = x := ⟨_, rfl⟩
     rw [hdb] at d0 HMEM
     clear hdb
     cases db with
     | true =>
       have HY : Hid (y m = sR L P a b) := Lib.hid (HMEM.out rfl)
       obtain ⟨o, ho⟩ : ∃ o, y m = o := ⟨_, rfl⟩
       rw [ho] at HY t0 t1 t2 t3
       clear ho HMEM
       go_wp2_with fail
       have HE := Lib.hid (HF.out.fin HLT.out (o))
       obtain ⟨w9, hw9⟩ : ∃ x, putT wc r 0 (o) = x := ⟨_, rfl⟩
       rw [hw9] at HE
       change ((((wc.setCell ⟨r, 0, none⟩ (.int .i64 (oc o))).setCell ⟨r, 1, none⟩ (.int .i64 (on o))).setCell ⟨r, 2, none⟩ (.string (ol o))).setCell ⟨r, 3, none⟩ (.string (oh o))) = w9 at hw9
       rw [hw9]
       obtain ⟨u0, u1, u2, u3⟩ := HE.out.u
       clear hw9
       refine bodyPost_ret (v := OVv (o)) (by simp [results, Tryz.results227, go_sem, u0, u1, u2, u3]) rfl ?_
       exact ⟨by rw [HY.out], HE.out.mem, HE.out.chg⟩
     | false =>
       clear t0 t1 t2 t3 HMEM k2 r0 r1 r2 r3 rf
       go_wp2_with fail
       refine (spec_order _).mono ?_
       rintro e w3 ⟨rfl, rfl⟩
       clear k0 k3 d0 hmN' hw0 hw1 hwr hmi
       have HO0 : Hid (FR w (wc.alloc (.cells #[.int .i64 (-1), .int .i64 0, .string ⟨#[]⟩, .string ⟨#[]⟩] 210)) q L P N T D r wc.heap.size (accS L P a b 0)) := Lib.hid
         ⟨HF.out.ext (ext_alloc1 _ _), O4.new wc none _, HF.out.chg.size, by have := HF.out.rs.lt; omega⟩
       have HOD : Hid (od5 = ⟨#[83, 72, 84, 66, 67]⟩) := Lib.hid rfl
       have hodz : od5.size = 5 := rfl
       rw [← HOD.out]
       obtain ⟨od, hod⟩ : ∃ x, od5 = x := ⟨_, rfl⟩
       have HB5 := Lib.hid od5_at
       have HX5 := Lib.hid od5_cut
       rw [hod] at hodz HB5 HX5
       rw [hod]
       clear hod HOD
       go_upto_region 9 with fail
       generalize (wc.alloc (.cells #[.int .i64 (-1), .int .i64 0, .string ⟨#[]⟩, .string ⟨#[]⟩] 210)) = w4 at *
       obtain ⟨g, hg⟩ : ∃ g, wc.heap.size = g := ⟨_, rfl⟩
       rw [hg] at HO0
       simp only [hg]
       clear hg HF
       go_loopw [10] (fun i wr => ∃ k : Nat, k ≤ 5 ∧ i = .int .i64 k ∧ Hid (FR w wr q L P N T D r g (accS L P a b k))) (fun i _ => 5 - (intOf i).toNat)
       case atStart => exact ⟨0, by omega, rfl, HO0⟩
       case round =>
         clear HO0
         obtain ⟨k, hk, rfl, HFR⟩ := hrel
         have e0 : (0 : Int) ≤ k := by omega
         by_cases hk5 : k < 5
         · have e1 : (k : Int) < od.size := by omega
           have e2 : k < od.size := by omega
           obtain ⟨x, hx, hxc⟩ := pcs_at k hk5
           have HACC : Hid (accS L P a b (k + 1) = pick (accS L P a b k) (cand L P a b x)) := Lib.hid (by rw [← hx]; rfl)
           have hbx := HB5.out k hk5
           have HXX := Lib.hid (HX5.out k hk5)
           rw [hx] at hbx HXX
           obtain ⟨acc, hacc⟩ : ∃ acc, accS L P a b k = acc := ⟨_, rfl⟩
           rw [hacc] at HFR HACC
           have HXC := Lib.hid hxc
           clear hx hacc
           have HQ : Hid (∀ w, Calls Tryz.prog 197 #[.int .u8 (x.toNat : Int)] w (RetP (.int .i64 (qL x : Int)) w)) := Lib.hid (fun w => by
             have h := spec_quarters (x.toNat : Int) (by omega) (by have := x.toNat_lt; omega) w
             rwa [qC_qL HXC.out] at h)
           have hz := qL_ge x
           clear hxc
           have HF1 := Lib.hid (HFR.out.ext (ext_alloc1 wr (.cells #[.int .i64 (-1), .int .i64 0, .string ⟨#[]⟩, .string ⟨#[]⟩] 210)))
           have HX1 : Hid (O4 (wr.alloc (.cells #[.int .i64 (-1), .int .i64 0, .string ⟨#[]⟩, .string ⟨#[]⟩] 210)) wr.heap.size none) := Lib.hid (O4.new wr none _)
           have HNE : Hid (w.heap.size ≤ wr.heap.size ∧ wr.heap.size ≠ r ∧ wr.heap.size ≠ g) := Lib.hid (by
             have h1 := HFR.out.fs.rs.lt
             have h2 := HFR.out.best.lt
             have h3 := HFR.out.fs.chg.size
             omega)
           by_cases hab : a ≤ b
           · have hab' : (a : Int) ≤ (b : Int) := by omega
             go_wp2_with fail
             refine (show Calls _ _ _ _ _ from (by first | exact HQ.out _ | (rw [hbx]; exact HQ.out _))).mono ?_
             rintro e w5 ⟨rfl, rfl⟩
             generalize (wr.alloc (.cells #[.int .i64 (-1), .int .i64 0, .string ⟨#[]⟩, .string ⟨#[]⟩] 210)) = w6 at *
             obtain ⟨xb, hxb⟩ : ∃ y, wr.heap.size = y := ⟨_, rfl⟩
             rw [hxb] at HX1 HNE
             simp only [hxb]
             obtain ⟨z, hzz⟩ : ∃ z, qL x = z := ⟨_, rfl⟩
             have HZ := Lib.hid hzz
             rw [hzz] at hz
             simp only [hzz]
             clear hxb HFR HQ hzz
             have k0 := HF1.out.fs.mem.c0
             by_cases hgt : a + z ≤ L
             · have e3 : ¬ (L : Int) < (a : Int) + (z : Int) := by omega
               have HFREE : Hid (∀ W, SM W q L P N T D → Calls Tryz.prog 251 #[.pointer (some ⟨q, 0, none⟩), .int .i64 ((a : Int) + (z : Int)), .int .i64 (b : Int)] W (Ret (.bool (decide (far L P (a + z) b))) W)) := Lib.hid (fun W h => by
                 have h1 := spec_free q L P (a + z) b (by omega) (by omega) W h.c0 h.c1 hgt (by omega)
                 rwa [Int.natCast_add] at h1)
               by_cases hfar : far L P (a + z) b
               · rw [decide_eq_true hfar] at HFREE
                 have HCD : Hid (cand L P a b x = (sR L P (a + z) b).map (adLo x)) := Lib.hid (by
                   have h := cand_lo (P := P) (x := x) hab (by rw [HZ.out]; exact ⟨hgt, hfar⟩)
                   rwa [HZ.out] at h)
                 have HIH : Hid (∀ W, SM W q L P N T D → Calls Tryz.prog 227 #[.pointer (some ⟨q, 0, none⟩), .int .i64 ((a : Int) + (z : Int)), .int .i64 ((b : Int))] W (BestP L P N (a + z) b q T D W)) := Lib.hid (fun W h => by
                   have h1 := ih (a + z) b (by omega) (by omega) (by omega) W h
                   rwa [Int.natCast_add] at h1)
                 clear hfar
                 go_wp2_with fail
                 refine (show Calls _ _ _ _ _ from HFREE.out _ HF1.out.fs.mem).mono ?_
                 rintro e w7 ⟨rfl, hb7⟩
                 have HF2 := Lib.hid (HF1.out.ext hb7)
                 have HX2 := Lib.hid (HX1.out.ext hb7)
                 clear hb7 k0 HF1 HX1 HFREE
                 go_wp2_with fail
                 refine (show Calls _ _ _ _ _ from HIH.out _ HF2.out.fs.mem).mono ?_
                 rintro e w8 ⟨rfl, hm8, hc8⟩
                 have HF3 := Lib.hid (HF2.out.turn HLT.out hm8 hc8)
                 have HX3 := Lib.hid (HX2.out.chg hc8 (by have := HLT.out; have := HNE.out; unfold S2; omega))
                 have HOK := Lib.hid (fun v (h : sR L P (a + z) b = some v) => sR_ok hL h)
                 obtain ⟨o, ho⟩ : ∃ o, sR L P (a + z) b = o := ⟨_, rfl⟩
                 rw [ho] at HCD HOK
                 simp only [ho]
                 clear hm8 hc8 HF2 HX2 HIH ho
                 have HX4 := Lib.hid (HX3.out.put o)
                 have HF4 := Lib.hid (HF3.out.far HLT.out (putT_chg w8 xb 0 o) (fun k hk => by subst hk; exact HNE.out))
                 obtain ⟨x0, x1, x2, x3⟩ := HX3.out.cs
                 simp only [Nat.zero_add] at x1 x2 x3
                 have xf := HX3.out.gf
                 obtain ⟨w9, hw9⟩ : ∃ x, putT w8 xb 0 o = x := ⟨_, rfl⟩
                 rw [hw9] at HX4 HF4
                 change ((((w8.setCell ⟨xb, 0, none⟩ (.int .i64 (oc o))).setCell ⟨xb, 1, none⟩ (.int .i64 (on o))).setCell ⟨xb, 2, none⟩ (.string (ol o))).setCell ⟨xb, 3, none⟩ (.string (oh o))) = w9 at hw9
                 go_upto_region 16 with fail
                 clear x0 x1 x2 x3 xf hw9 HF3 HX3
                 obtain ⟨x0, x1, x2, x3⟩ := HX4.out.cs
                 simp only [Nat.zero_add] at x1 x2 x3
                 have xf := HX4.out.gf
                 have hodc := HXX.out
                 have hbz : (bsq [x]).size = 1 := rfl
                 obtain ⟨tx, htx⟩ : ∃ y, bsq [x] = y := ⟨_, rfl⟩
                 have HTX := Lib.hid htx
                 rw [htx] at hodc hbz
                 clear htx
                 cases o with
                 | none =>
                   have HA2 : Hid (accS L P a b (k + 1) = acc) := Lib.hid (by rw [HACC.out, HCD.out]; rfl)
                   change w9.cell? ⟨xb, 0, none⟩ = some (.int .i64 (-1)) at x0
                   change w9.cell? ⟨xb, 2, none⟩ = some (.string ⟨#[]⟩) at x2
                   go_region
                   all_goals
                     go_wp2_with fail
                     exact ⟨⟨k + 1, by omega, by go_num, by rw [HA2.out]; exact Lib.hid (HF4.out.far HLT.out ((Chg.setCell (S := fun k => k = xb) _ (p := ⟨xb, 2, none⟩) rfl _).trans (chg_drew _ _)) (fun k hk => by subst hk; exact HNE.out))⟩, by simp [intOf]; omega⟩
                 | some v =>
                   have hv := HOK.out v rfl
                   have HCD2 : Hid (cand L P a b x = some (adLo x v)) := Lib.hid HCD.out
                   change w9.cell? ⟨xb, 0, none⟩ = some (.int .i64 (v.c : Int)) at x0
                   change w9.cell? ⟨xb, 2, none⟩ = some (.string (bsq v.lo)) at x2
                   have hcz : (bsq v.lo).size ≤ 1000 := by rw [bsq_size]; first | exact hv.l | exact hv.h
                   have hcc : ¬ 9223372036854775807 < tx.size + (bsq v.lo).size := by omega
                   have hcc2 : ¬ 9223372036854775807 < 1 + (bsq v.lo).size := by omega
                   have HX5' : Hid (O4 ((w9.setCell ⟨xb, 2, none⟩ (.string (tx ++ bsq v.lo))).drew) xb (some (tLo x v))) := Lib.hid (by rw [← HTX.out]; exact HX4.out.tLo x)
                   have HF5 := Lib.hid (HF4.out.far HLT.out ((Chg.setCell (S := fun k => k = xb) w9 (p := ⟨xb, 2, none⟩) rfl (.string (tx ++ bsq v.lo))).trans (chg_drew _ _)) (fun k hk => by subst hk; exact HNE.out))
                   go_region
                   obtain ⟨w10, hw10⟩ : ∃ y, (w9.setCell ⟨xb, 2, none⟩ (.string (tx ++ bsq v.lo))).drew = y := ⟨_, rfl⟩
                   rw [hw10] at HX5' HF5
                   rw [hw10]
                   clear hw10 x0 x1 x2 x3 xf HX4 HF4 hcz hcc hcc2 hodc hbz
                   have hc0 : ((tLo x v).c : Int) ≤ 1000 := by have : (tLo x v).c = v.c := rfl
                                                               have := hv.c
                                                               omega
                   have hp0 : ((tLo x v).p : Int) ≤ 1000 := by have : (tLo x v).p = v.p := rfl
                                                               have := hv.p
                                                               omega
                   have HAD : Hid (adP (adC x (tLo x v)) = adLo x v) := Lib.hid rfl
                   have HCO := Lib.hid (fun w => spec_cost8 x HXC.out w)
                   have hcl := cL_le x
                   obtain ⟨u, hu⟩ : ∃ u, tLo x v = u := ⟨_, rfl⟩
                   rw [hu] at HX5' HAD hc0 hp0
                   clear hu hv HOK HCD
                   obtain ⟨x0, x1, x2, x3⟩ := HX5'.out.cs
                   simp only [Nat.zero_add] at x1 x2 x3
                   have xf := HX5'.out.gf
                   change w10.cell? ⟨xb, 0, none⟩ = some (.int .i64 (u.c : Int)) at x0
                   have hcl' : (cL x : Int) ≤ 1 := by omega
                   have hcl0 : (0 : Int) ≤ (cL x : Int) := by omega
                   have hc00 : (0 : Int) ≤ (u.c : Int) := by omega
                   go_upto_region 22 with fail
                   go_cut [138] from 131 to 138 (fun _ wx => Hid (FR w wx q L P N T D r g acc) ∧ Hid (O4 wx xb (some (adC x u))))
                   case first =>
                     go_region_law (first
                      | (go_simp; refine (show Calls _ _ _ _ _ from (by first | exact HCO.out _ | (rw [hbx]; exact HCO.out _))).mono ?_; rintro e w11 ⟨rfl, rfl⟩; dsimp only))
                     all_goals
                       first | (go_wp2_with fail) | skip
                       go_meet
                       rw [show IntKind.i64.wrap ((u.c : Int) + (cL x : Int)) = (u.c : Int) + (cL x : Int) from IntWalk.i64_in _ (by omega)]
                       exact ⟨Lib.hid (HF5.out.far HLT.out ((Chg.setCell (S := fun k => k = xb) w10 (p := ⟨xb, 0, none⟩) rfl (.int .i64 ((u.c : Int) + (cL x : Int)))).trans (chg_drew _ _)) (fun k hk => by subst hk; exact HNE.out)), Lib.hid ((HX5'.out.adC x).ext (ext_drew (ext_refl _)))⟩
                   case rest =>
                   obtain ⟨HF6, HX6⟩ := hcut
                   have hp6 : ((adC x u).p : Int) ≤ 1000 := hp0
                   obtain ⟨u2, hu2⟩ : ∃ u2, adC x u = u2 := ⟨_, rfl⟩
                   rw [hu2] at HX6 HAD hp6
                   clear hu2 x0 x1 x2 x3 xf HX5' HF5 HCO hcl hcl' hcl0 hc0 hc00 hp0
                   obtain ⟨x0, x1, x2, x3⟩ := HX6.out.cs
                   simp only [Nat.zero_add] at x1 x2 x3
                   have xf := HX6.out.gf
                   replace x1 : _ = some (Value.int .i64 (u2.p : Int)) := x1
                   go_upto_region 24 with fail
                   have HX7 := Lib.hid HX6.out.adP
                   have HF7 := Lib.hid (HF6.out.far HLT.out (Chg.setCell (S := fun k => k = xb) wc (p := ⟨xb, 1, none⟩) rfl (.int .i64 ((u2.p : Int) + 1))) (fun k hk => by subst hk; exact HNE.out))
                   obtain ⟨w12, hw12⟩ : ∃ y, wc.setCell ⟨xb, 1, none⟩ (.int .i64 ((u2.p : Int) + 1)) = y := ⟨_, rfl⟩
                   rw [hw12] at HX7 HF7
                   rw [hw12]
                   rw [HAD.out] at HX7
                   clear hw12 x0 x1 x2 x3 xf HX6 HF6 HAD hp6
                   obtain ⟨own, hown⟩ : ∃ y, adLo x v = y := ⟨_, rfl⟩
                   rw [hown] at HX7 HCD2
                   have HA1 : Hid (accS L P a b (k + 1) = if beats own acc = true then some own else acc) := Lib.hid (by rw [HACC.out, HCD2.out, pick_beats])
                   have HBF := Lib.hid (fun w => spec_Before own acc w)
                   clear hown HCD2 HACC
                   obtain ⟨x0, x1, x2, x3⟩ := HX7.out.cs
                   simp only [Nat.zero_add] at x1 x2 x3
                   obtain ⟨b0, b1, b2, b3⟩ := HF7.out.best.cs
                   simp only [Nat.zero_add] at b1 b2 b3
                   obtain ⟨bt, hbt⟩ : ∃ y, beats own acc = y := ⟨_, rfl⟩
                   rw [hbt] at HA1 HBF
                   clear hbt
                   cases bt with
                   | true =>
                     have HA2 : Hid (accS L P a b (k + 1) = some own) := Lib.hid HA1.out
                     go_wp2_with fail
                     refine (show Calls _ _ _ _ _ from HBF.out _).mono ?_
                     rintro e w13 ⟨rfl, hb13⟩
                     have HX8 := Lib.hid (HX7.out.ext hb13)
                     have HF8 := Lib.hid (HF7.out.ext hb13)
                     clear hb13 x0 x1 x2 x3 b0 b1 b2 b3 HX7 HF7 HA1 HBF
                     obtain ⟨x0, x1, x2, x3⟩ := HX8.out.cs
                     simp only [Nat.zero_add] at x1 x2 x3
                     obtain ⟨b0, b1, b2, b3⟩ := HF8.out.best.cs
                     simp only [Nat.zero_add] at b1 b2 b3
                     have bf := HF8.out.best.gf
                     have HPU := Lib.hid (HF8.out.put HLT.out (some own))
                     go_wp2_with fail
                     go_roundw
                     case rel => exact ⟨k + 1, by omega, by go_num, by rw [HA2.out]; exact HPU⟩
                     case measure => simp [intOf]; omega
                   | false =>
                     have HA2 : Hid (accS L P a b (k + 1) = acc) := Lib.hid HA1.out
                     go_wp2_with fail
                     refine (show Calls _ _ _ _ _ from HBF.out _).mono ?_
                     rintro e w13 ⟨rfl, hb13⟩
                     have HF8 := Lib.hid (HF7.out.ext hb13)
                     clear hb13 x0 x1 x2 x3 b0 b1 b2 b3 HX7 HF7 HA1 HBF
                     go_wp2_with fail
                     go_roundw
                     case rel => exact ⟨k + 1, by omega, by go_num, by rw [HA2.out]; exact HF8⟩
                     case measure => simp [intOf]; omega
               · rw [decide_eq_false hfar] at HFREE
                 have HA2 : Hid (accS L P a b (k + 1) = acc) := Lib.hid (by rw [HACC.out, cand_lo_no hab (by rw [HZ.out]; exact fun h => hfar h.2)]; rfl)
                 clear hfar
                 go_wp2_with fail
                 refine (show Calls _ _ _ _ _ from HFREE.out _ HF1.out.fs.mem).mono ?_
                 rintro e w7 ⟨rfl, hb7⟩
                 have HF2 := Lib.hid (HF1.out.ext hb7)
                 clear hb7 k0 HF1 HX1
                 go_wp2_with fail
                 go_roundw
                 case rel => exact ⟨k + 1, by omega, by go_num, by rw [HA2.out]; exact HF2⟩
                 case measure => simp [intOf]; omega
             · have e3 : (L : Int) < (a : Int) + (z : Int) := by omega
               have HA2 : Hid (accS L P a b (k + 1) = acc) := Lib.hid (by rw [HACC.out, cand_lo_no hab (by rw [HZ.out]; exact fun h => hgt h.1)]; rfl)
               go_wp2_with fail
               go_roundw
               case rel => exact ⟨k + 1, by omega, by go_num, by rw [HA2.out]; exact HF1⟩
               case measure => simp [intOf]; omega
           · have hab' : ¬ (a : Int) ≤ (b : Int) := by omega
             go_wp2_with fail
             refine (show Calls _ _ _ _ _ from (by first | exact HQ.out _ | (rw [hbx]; exact HQ.out _))).mono ?_
             rintro e w5 ⟨rfl, rfl⟩
             generalize (wr.alloc (.cells #[.int .i64 (-1), .int .i64 0, .string ⟨#[]⟩, .string ⟨#[]⟩] 210)) = w6 at *
             obtain ⟨xb, hxb⟩ : ∃ y, wr.heap.size = y := ⟨_, rfl⟩
             rw [hxb] at HX1 HNE
             simp only [hxb]
             obtain ⟨z, hzz⟩ : ∃ z, qL x = z := ⟨_, rfl⟩
             have HZ := Lib.hid hzz
             rw [hzz] at hz
             simp only [hzz]
             clear hxb HFR HQ hzz
             have k0 := HF1.out.fs.mem.c0
             by_cases hgt : b + z ≤ L
             · have e3 : ¬ (L : Int) < (b : Int) + (z : Int) := by omega
               have HFREE : Hid (∀ W, SM W q L P N T D → Calls Tryz.prog 251 #[.pointer (some ⟨q, 0, none⟩), .int .i64 ((b : Int) + (z : Int)), .int .i64 (a : Int)] W (Ret (.bool (decide (far L P (b + z) a))) W)) := Lib.hid (fun W h => by
                 have h1 := spec_free q L P (b + z) a (by omega) (by omega) W h.c0 h.c1 hgt (by omega)
                 rwa [Int.natCast_add] at h1)
               by_cases hfar : far L P (b + z) a
               · rw [decide_eq_true hfar] at HFREE
                 have HCD : Hid (cand L P a b x = (sR L P a (b + z)).map (adHi x)) := Lib.hid (by
                   have h := cand_hi (P := P) (x := x) hab (by rw [HZ.out]; exact ⟨hgt, hfar⟩)
                   rwa [HZ.out] at h)
                 have HIH : Hid (∀ W, SM W q L P N T D → Calls Tryz.prog 227 #[.pointer (some ⟨q, 0, none⟩), .int .i64 ((a : Int)), .int .i64 ((b : Int) + (z : Int))] W (BestP L P N a (b + z) q T D W)) := Lib.hid (fun W h => by
                   have h1 := ih a (b + z) (by omega) (by omega) (by omega) W h
                   rwa [Int.natCast_add] at h1)
                 clear hfar
                 go_wp2_with fail
                 refine (show Calls _ _ _ _ _ from HFREE.out _ HF1.out.fs.mem).mono ?_
                 rintro e w7 ⟨rfl, hb7⟩
                 have HF2 := Lib.hid (HF1.out.ext hb7)
                 have HX2 := Lib.hid (HX1.out.ext hb7)
                 clear hb7 k0 HF1 HX1 HFREE
                 go_wp2_with fail
                 refine (show Calls _ _ _ _ _ from HIH.out _ HF2.out.fs.mem).mono ?_
                 rintro e w8 ⟨rfl, hm8, hc8⟩
                 have HF3 := Lib.hid (HF2.out.turn HLT.out hm8 hc8)
                 have HX3 := Lib.hid (HX2.out.chg hc8 (by have := HLT.out; have := HNE.out; unfold S2; omega))
                 have HOK := Lib.hid (fun v (h : sR L P a (b + z) = some v) => sR_ok hL h)
                 obtain ⟨o, ho⟩ : ∃ o, sR L P a (b + z) = o := ⟨_, rfl⟩
                 rw [ho] at HCD HOK
                 simp only [ho]
                 clear hm8 hc8 HF2 HX2 HIH ho
                 have HX4 := Lib.hid (HX3.out.put o)
                 have HF4 := Lib.hid (HF3.out.far HLT.out (putT_chg w8 xb 0 o) (fun k hk => by subst hk; exact HNE.out))
                 obtain ⟨x0, x1, x2, x3⟩ := HX3.out.cs
                 simp only [Nat.zero_add] at x1 x2 x3
                 have xf := HX3.out.gf
                 obtain ⟨w9, hw9⟩ : ∃ x, putT w8 xb 0 o = x := ⟨_, rfl⟩
                 rw [hw9] at HX4 HF4
                 change ((((w8.setCell ⟨xb, 0, none⟩ (.int .i64 (oc o))).setCell ⟨xb, 1, none⟩ (.int .i64 (on o))).setCell ⟨xb, 2, none⟩ (.string (ol o))).setCell ⟨xb, 3, none⟩ (.string (oh o))) = w9 at hw9
                 go_upto_region 20 with fail
                 clear x0 x1 x2 x3 xf hw9 HF3 HX3
                 obtain ⟨x0, x1, x2, x3⟩ := HX4.out.cs
                 simp only [Nat.zero_add] at x1 x2 x3
                 have xf := HX4.out.gf
                 have hodc := HXX.out
                 have hbz : (bsq [x]).size = 1 := rfl
                 obtain ⟨tx, htx⟩ : ∃ y, bsq [x] = y := ⟨_, rfl⟩
                 have HTX := Lib.hid htx
                 rw [htx] at hodc hbz
                 clear htx
                 cases o with
                 | none =>
                   have HA2 : Hid (accS L P a b (k + 1) = acc) := Lib.hid (by rw [HACC.out, HCD.out]; rfl)
                   change w9.cell? ⟨xb, 0, none⟩ = some (.int .i64 (-1)) at x0
                   change w9.cell? ⟨xb, 3, none⟩ = some (.string ⟨#[]⟩) at x3
                   go_region
                   all_goals
                     go_wp2_with fail
                     exact ⟨⟨k + 1, by omega, by go_num, by rw [HA2.out]; exact Lib.hid (HF4.out.far HLT.out ((Chg.setCell (S := fun k => k = xb) _ (p := ⟨xb, 3, none⟩) rfl _).trans (chg_drew _ _)) (fun k hk => by subst hk; exact HNE.out))⟩, by simp [intOf]; omega⟩
                 | some v =>
                   have hv := HOK.out v rfl
                   have HCD2 : Hid (cand L P a b x = some (adHi x v)) := Lib.hid HCD.out
                   change w9.cell? ⟨xb, 0, none⟩ = some (.int .i64 (v.c : Int)) at x0
                   change w9.cell? ⟨xb, 3, none⟩ = some (.string (bsq v.hi)) at x3
                   have hcz : (bsq v.hi).size ≤ 1000 := by rw [bsq_size]; first | exact hv.l | exact hv.h
                   have hcc : ¬ 9223372036854775807 < tx.size + (bsq v.hi).size := by omega
                   have hcc2 : ¬ 9223372036854775807 < 1 + (bsq v.hi).size := by omega
                   have HX5' : Hid (O4 ((w9.setCell ⟨xb, 3, none⟩ (.string (tx ++ bsq v.hi))).drew) xb (some (tHi x v))) := Lib.hid (by rw [← HTX.out]; exact HX4.out.tHi x)
                   have HF5 := Lib.hid (HF4.out.far HLT.out ((Chg.setCell (S := fun k => k = xb) w9 (p := ⟨xb, 3, none⟩) rfl (.string (tx ++ bsq v.hi))).trans (chg_drew _ _)) (fun k hk => by subst hk; exact HNE.out))
                   go_region
                   obtain ⟨w10, hw10⟩ : ∃ y, (w9.setCell ⟨xb, 3, none⟩ (.string (tx ++ bsq v.hi))).drew = y := ⟨_, rfl⟩
                   rw [hw10] at HX5' HF5
                   rw [hw10]
                   clear hw10 x0 x1 x2 x3 xf HX4 HF4 hcz hcc hcc2 hodc hbz
                   have hc0 : ((tHi x v).c : Int) ≤ 1000 := by have : (tHi x v).c = v.c := rfl
                                                               have := hv.c
                                                               omega
                   have hp0 : ((tHi x v).p : Int) ≤ 1000 := by have : (tHi x v).p = v.p := rfl
                                                               have := hv.p
                                                               omega
                   have HAD : Hid (adP (adC x (tHi x v)) = adHi x v) := Lib.hid rfl
                   have HCO := Lib.hid (fun w => spec_cost8 x HXC.out w)
                   have hcl := cL_le x
                   obtain ⟨u, hu⟩ : ∃ u, tHi x v = u := ⟨_, rfl⟩
                   rw [hu] at HX5' HAD hc0 hp0
                   clear hu hv HOK HCD
                   obtain ⟨x0, x1, x2, x3⟩ := HX5'.out.cs
                   simp only [Nat.zero_add] at x1 x2 x3
                   have xf := HX5'.out.gf
                   change w10.cell? ⟨xb, 0, none⟩ = some (.int .i64 (u.c : Int)) at x0
                   have hcl' : (cL x : Int) ≤ 1 := by omega
                   have hcl0 : (0 : Int) ≤ (cL x : Int) := by omega
                   have hc00 : (0 : Int) ≤ (u.c : Int) := by omega
                   go_upto_region 22 with fail
                   go_cut [138] from 131 to 138 (fun _ wx => Hid (FR w wx q L P N T D r g acc) ∧ Hid (O4 wx xb (some (adC x u))))
                   case first =>
                     go_region_law (first
                      | (go_simp; refine (show Calls _ _ _ _ _ from (by first | exact HCO.out _ | (rw [hbx]; exact HCO.out _))).mono ?_; rintro e w11 ⟨rfl, rfl⟩; dsimp only))
                     all_goals
                       first | (go_wp2_with fail) | skip
                       go_meet
                       rw [show IntKind.i64.wrap ((u.c : Int) + (cL x : Int)) = (u.c : Int) + (cL x : Int) from IntWalk.i64_in _ (by omega)]
                       exact ⟨Lib.hid (HF5.out.far HLT.out ((Chg.setCell (S := fun k => k = xb) w10 (p := ⟨xb, 0, none⟩) rfl (.int .i64 ((u.c : Int) + (cL x : Int)))).trans (chg_drew _ _)) (fun k hk => by subst hk; exact HNE.out)), Lib.hid ((HX5'.out.adC x).ext (ext_drew (ext_refl _)))⟩
                   case rest =>
                   obtain ⟨HF6, HX6⟩ := hcut
                   have hp6 : ((adC x u).p : Int) ≤ 1000 := hp0
                   obtain ⟨u2, hu2⟩ : ∃ u2, adC x u = u2 := ⟨_, rfl⟩
                   rw [hu2] at HX6 HAD hp6
                   clear hu2 x0 x1 x2 x3 xf HX5' HF5 HCO hcl hcl' hcl0 hc0 hc00 hp0
                   obtain ⟨x0, x1, x2, x3⟩ := HX6.out.cs
                   simp only [Nat.zero_add] at x1 x2 x3
                   have xf := HX6.out.gf
                   replace x1 : _ = some (Value.int .i64 (u2.p : Int)) := x1
                   go_upto_region 24 with fail
                   have HX7 := Lib.hid HX6.out.adP
                   have HF7 := Lib.hid (HF6.out.far HLT.out (Chg.setCell (S := fun k => k = xb) wc (p := ⟨xb, 1, none⟩) rfl (.int .i64 ((u2.p : Int) + 1))) (fun k hk => by subst hk; exact HNE.out))
                   obtain ⟨w12, hw12⟩ : ∃ y, wc.setCell ⟨xb, 1, none⟩ (.int .i64 ((u2.p : Int) + 1)) = y := ⟨_, rfl⟩
                   rw [hw12] at HX7 HF7
                   rw [hw12]
                   rw [HAD.out] at HX7
                   clear hw12 x0 x1 x2 x3 xf HX6 HF6 HAD hp6
                   obtain ⟨own, hown⟩ : ∃ y, adHi x v = y := ⟨_, rfl⟩
                   rw [hown] at HX7 HCD2
                   have HA1 : Hid (accS L P a b (k + 1) = if beats own acc = true then some own else acc) := Lib.hid (by rw [HACC.out, HCD2.out, pick_beats])
                   have HBF := Lib.hid (fun w => spec_Before own acc w)
                   clear hown HCD2 HACC
                   obtain ⟨x0, x1, x2, x3⟩ := HX7.out.cs
                   simp only [Nat.zero_add] at x1 x2 x3
                   obtain ⟨b0, b1, b2, b3⟩ := HF7.out.best.cs
                   simp only [Nat.zero_add] at b1 b2 b3
                   obtain ⟨bt, hbt⟩ : ∃ y, beats own acc = y := ⟨_, rfl⟩
                   rw [hbt] at HA1 HBF
                   clear hbt
                   cases bt with
                   | true =>
                     have HA2 : Hid (accS L P a b (k + 1) = some own) := Lib.hid HA1.out
                     go_wp2_with fail
                     refine (show Calls _ _ _ _ _ from HBF.out _).mono ?_
                     rintro e w13 ⟨rfl, hb13⟩
                     have HX8 := Lib.hid (HX7.out.ext hb13)
                     have HF8 := Lib.hid (HF7.out.ext hb13)
                     clear hb13 x0 x1 x2 x3 b0 b1 b2 b3 HX7 HF7 HA1 HBF
                     obtain ⟨x0, x1, x2, x3⟩ := HX8.out.cs
                     simp only [Nat.zero_add] at x1 x2 x3
                     obtain ⟨b0, b1, b2, b3⟩ := HF8.out.best.cs
                     simp only [Nat.zero_add] at b1 b2 b3
                     have bf := HF8.out.best.gf
                     have HPU := Lib.hid (HF8.out.put HLT.out (some own))
                     go_wp2_with fail
                     go_roundw
                     case rel => exact ⟨k + 1, by omega, by go_num, by rw [HA2.out]; exact HPU⟩
                     case measure => simp [intOf]; omega
                   | false =>
                     have HA2 : Hid (accS L P a b (k + 1) = acc) := Lib.hid HA1.out
                     go_wp2_with fail
                     refine (show Calls _ _ _ _ _ from HBF.out _).mono ?_
                     rintro e w13 ⟨rfl, hb13⟩
                     have HF8 := Lib.hid (HF7.out.ext hb13)
                     clear hb13 x0 x1 x2 x3 b0 b1 b2 b3 HX7 HF7 HA1 HBF
                     go_wp2_with fail
                     go_roundw
                     case rel => exact ⟨k + 1, by omega, by go_num, by rw [HA2.out]; exact HF8⟩
                     case measure => simp [intOf]; omega
               · rw [decide_eq_false hfar] at HFREE
                 have HA2 : Hid (accS L P a b (k + 1) = acc) := Lib.hid (by rw [HACC.out, cand_hi_no hab (by rw [HZ.out]; exact fun h => hfar h.2)]; rfl)
                 clear hfar
                 go_wp2_with fail
                 refine (show Calls _ _ _ _ _ from HFREE.out _ HF1.out.fs.mem).mono ?_
                 rintro e w7 ⟨rfl, hb7⟩
                 have HF2 := Lib.hid (HF1.out.ext hb7)
                 clear hb7 k0 HF1 HX1
                 go_wp2_with fail
                 go_roundw
                 case rel => exact ⟨k + 1, by omega, by go_num, by rw [HA2.out]; exact HF2⟩
                 case measure => simp [intOf]; omega
             · have e3 : (L : Int) < (b : Int) + (z : Int) := by omega
               have HA2 : Hid (accS L P a b (k + 1) = acc) := Lib.hid (by rw [HACC.out, cand_hi_no hab (by rw [HZ.out]; exact fun h => hgt h.1)]; rfl)
               go_wp2_with fail
               go_roundw
               case rel => exact ⟨k + 1, by omega, by go_num, by rw [HA2.out]; exact HF1⟩
               case measure => simp [intOf]; omega
         · obtain rfl : k = 5 := by omega
           have e1 : ¬ (5 : Int) < od.size := by omega
           have HA5 : Hid (accS L P a b 5 = sR L P a b) := Lib.hid (accS_5 ha hb HE.out)
           rw [HA5.out] at HFR
           have HPUT := Lib.hid (HFR.out.fs.mem.put ha hb)
           rw [HMM.out] at HPUT
           obtain ⟨o, ho⟩ : ∃ o, sR L P a b = o := ⟨_, rfl⟩
           rw [ho] at HFR HPUT
           have HO := Lib.hid ho
           have hmN' : (m : Int) < (N : Int) := by omega
           have k2 := HFR.out.fs.mem.c2
           have k3 := HFR.out.fs.mem.c3
           obtain ⟨y2, dn2, hy2, hd2, _⟩ := HFR.out.fs.mem.tab
           have d0 := hd2 m hmN
           have HT4 := Lib.hid (hy2 m hmN)
           have fd := HFR.out.fs.mem.fd
           have hsD : Chg (fun k => k = D) wr (wr.setCell ⟨D, m, none⟩ (.bool true)) := Chg.setCell (S := fun k => k = D) _ (p := ⟨D, m, none⟩) rfl _
           have hL1 := HLT.out
           have hgg := HFR.out.gge
           have hrg := HFR.out.fs.rge
           have nTD := HFR.out.fs.mem.n1
           have nTq := HFR.out.fs.mem.n2
           have nDq := HFR.out.fs.mem.n3
           have ngD : g ≠ D := by omega
           have ngT : g ≠ T := by omega
           have nrD : r ≠ D := by omega
           have nrT : r ≠ T := by omega
           have HG1 := Lib.hid (HFR.out.best.chg hsD ngD)
           have HR1 := Lib.hid (HFR.out.fs.rs.chg hsD nrD)
           have HT5 := Lib.hid (HT4.out.chg hsD nTD)
           have HFT : Hid (∀ j, (wr.setCell ⟨D, m, none⟩ (.bool true)).frozen? ⟨T, j, none⟩ = false) := Lib.hid (fun j => by rw [World.frozen?_setCell]; exact HFR.out.fs.mem.ft j)
           have k2' := hsD.cell k2 (fun e => nDq e.symm)
           have HCW : Hid (Chg (S2 T D) w (wr.setCell ⟨D, m, none⟩ (.bool true))) := Lib.hid (HFR.out.fs.chg.trans (hsD.mono fun k hk => .inr hk))
           clear hy2 hd2 HA5 ho hL1 hgg hrg HT4 hsD
           go_upto_region 27 with fail
           obtain ⟨wx, hwx⟩ : ∃ y, wr.setCell ⟨D, m, none⟩ (.bool true) = y := ⟨_, rfl⟩
           rw [hwx] at HG1 HR1 HT5 HFT k2' HCW HPUT
           rw [hwx]
           clear hwx d0 fd k3 k2
           obtain ⟨b0, b1, b2, b3⟩ := HG1.out.cs
           simp only [Nat.zero_add] at b1 b2 b3
           obtain ⟨t0, t1, t2, t3⟩ := HT5.out
           have tf := HFT.out
           have HRG := Lib.hid HFR.out.fs.rge
           go_region
           obtain ⟨w3, hw3⟩ : ∃ y, (putT wx T (m * 4) o).drew = y := ⟨_, rfl⟩
           have HCT := Lib.hid ((putT_chg wx T (m * 4) o).trans (chg_drew _ _))
           replace HPUT := Lib.hid (HPUT.out.ext (ext_drew (ext_refl _)))
           rw [hw3] at HCT HPUT
           have HF3 : Hid (FS w w3 q L P N T D r) := Lib.hid ⟨HPUT.out, HCW.out.trans (HCT.out.mono fun k hk => .inl hk), HR1.out.chg HCT.out nrT, HRG.out⟩
           have HG3 := Lib.hid (HG1.out.chg HCT.out ngT)
           change ((((wx.setCell ⟨T, m * 4, none⟩ (.int .i64 (oc o))).setCell ⟨T, m * 4 + 1, none⟩ (.int .i64 (on o))).setCell ⟨T, m * 4 + 2, none⟩ (.string (ol o))).setCell ⟨T, m * 4 + 3, none⟩ (.string (oh o))).drew = w3 at hw3
           rw [hw3]
           clear hw3 b0 b1 b2 b3 t0 t1 t2 t3 tf k2' HG1 HR1 HT5 HCT HCW HPUT HFT HFR
           obtain ⟨b0, b1, b2, b3⟩ := HG3.out.cs
           simp only [Nat.zero_add] at b1 b2 b3
           obtain ⟨r0, r1, r2, r3⟩ := HF3.out.rs.cs
           simp only [Nat.zero_add] at r1 r2 r3
           have rf := HF3.out.rs.gf
           have HF := HF3
           go_wp2_with fail
           have HE := Lib.hid (HF.out.fin HLT.out (o))
           obtain ⟨w9, hw9⟩ : ∃ x, putT w3 r 0 (o) = x := ⟨_, rfl⟩
           rw [hw9] at HE
           change ((((w3.setCell ⟨r, 0, none⟩ (.int .i64 (oc o))).setCell ⟨r, 1, none⟩ (.int .i64 (on o))).setCell ⟨r, 2, none⟩ (.string (ol o))).setCell ⟨r, 3, none⟩ (.string (oh o))) = w9 at hw9
           rw [hw9]
           obtain ⟨u0, u1, u2, u3⟩ := HE.out.u
           clear hw9
           refine bodyPost_ret (v := OVv (o)) (by simp [results, Tryz.results227, go_sem, u0, u1, u2, u3]) rfl ?_
           exact ⟨by rw [HO.out], HE.out.mem, HE.out.chg⟩
end Go.Proofs.YtfgopboddkhckaaGreatDoor
