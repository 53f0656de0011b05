/-
  Parts of the proof: SbD, Ss9, Dx.
-/
import Derived.Test.YtfgopboddkhckaaGreatDoorKw35
namespace Go.Proofs.YtfgopboddkhckaaGreatDoor
open Go.ChangeShapes Go.WideShapes Go.ChangeAt Go.RowKit Go.Sort Go.Joins
set_option linter.unusedVariables false
set_option maxRecDepth 100000
def Zq4 : Array Value := #[.int .i64 0, .int .i64 0, .string ⟨#[]⟩, .string ⟨#[]⟩]
theorem made_at (z : Array Value) (m k : Nat) (hk : k < m) : (madeCells z m)[k]? = some (z[k % z.size]!) := by simp [madeCells, hk]
theorem made4 (w : World) (m : Nat) (ty : TypeId) (i : Nat) (hi : i * 4 + 3 < m) : C4 (w.alloc (.cells (madeCells Zq4 m) ty)) w.heap.size (i * 4) (some PV.zero) := by
 have h0 := made_at Zq4 m (i * 4) (by omega)
 have h1 := made_at Zq4 m (i * 4 + 1) (by omega)
 have h2 := made_at Zq4 m (i * 4 + 2) (by omega)
 have h3 := made_at Zq4 m (i * 4 + 3) (by omega)
 rw [show i * 4 % Zq4.size = 0 by show i * 4 % 4 = 0; omega] at h0
 rw [show (i * 4 + 1) % Zq4.size = 1 by show (i * 4 + 1) % 4 = 1; omega] at h1
 rw [show (i * 4 + 2) % Zq4.size = 2 by show (i * 4 + 2) % 4 = 2; omega] at h2
 rw [show (i * 4 + 3) % Zq4.size = 3 by show (i * 4 + 3) % 4 = 3; omega] at h3
 exact ⟨by simp [go_sem, h0]; rfl, by simp [go_sem, h1]; rfl, by simp [go_sem, h2]; rfl, by simp [go_sem, h3]; rfl⟩
theorem made1 (w : World) (m : Nat) (ty : TypeId) (i : Nat) (hi : i < m) : (w.alloc (.cells (madeCells #[.bool false] m) ty)).cell? ⟨w.heap.size, i, none⟩ = some (.bool false) := by
 have h0 := made_at #[.bool false] m i hi
 rw [show i % (#[Value.bool false] : Array Value).size = 0 by show i % 1 = 0; omega] at h0
 simp [go_sem, h0]
theorem SM.start {W : World} {q L P N T D : Nat} (c0 : W.cell? ⟨q, 0, none⟩ = some (.int .i64 (L : Int))) (c1 : W.cell? ⟨q, 1, none⟩ = some (.int .i64 (P : Int))) (c2 : W.cell? ⟨q, 2, none⟩ = some (.slice (some ⟨T, 0, none⟩) N N)) (c3 : W.cell? ⟨q, 3, none⟩ = some (.slice (some ⟨D, 0, none⟩) N N))
   (ht : ∀ i, i < N → C4 W T (i * 4) (some PV.zero)) (hd : ∀ i, i < N → W.cell? ⟨D, i, none⟩ = some (.bool false)) (ft : ∀ j, W.frozen? ⟨T, j, none⟩ = false) (fd : ∀ j, W.frozen? ⟨D, j, none⟩ = false) (hN : N = (L + 1) * (L + 1)) (n1 : T ≠ D) (n2 : T ≠ q) (n3 : D ≠ q) : SM W q L P N T D :=
 ⟨c0, c1, c2, c3, ⟨fun _ => some PV.zero, fun _ => false, ht, hd, fun _ _ _ _ h => by cases h⟩, ft, fd, hN, n1, n2, n3⟩
theorem C4.ext {W W' : World} {g k : Nat} {o : Option PV} (h : C4 W g k o) (hb : Below W.heap.size W W') : C4 W' g k o := h.chg (S := fun _ => False) (Chg.of_below hb _) (fun e => e)
theorem start1 (w : World) (L P N : Nat) (hN : N = (L + 1) * (L + 1)) (t1 t2 t3 : TypeId) :
   SM ((((w.alloc (.cells (madeCells Zq4 (N * 4)) t1)).alloc (.cells (madeCells #[.bool false] N) t2)).alloc (.cells #[.int .i64 (L : Int), .int .i64 (P : Int), .slice (some ⟨w.heap.size, 0, none⟩) N N, .slice (some ⟨w.heap.size + 1, 0, none⟩) N N] t3)).drew) (w.heap.size + 1 + 1) L P N w.heap.size (w.heap.size + 1) := by
 refine SM.start (by simp [go_sem]) (by simp [go_sem]) (by simp [go_sem]) (by simp [go_sem]) (fun i hi => ?_) (fun i hi => ?_) (fun j => by simp [go_sem]) (fun j => by simp [go_sem]) hN (by omega) (by omega) (by omega)
 · exact (made4 w (N * 4) t1 i (by omega)).ext (ext_drew (ext_alloc (ext_alloc1 _ _) _))
 · have h := made1 (w.alloc (.cells (madeCells Zq4 (N * 4)) t1)) N t2 i hi
   rw [World.size_alloc] at h
   exact cell_keep h (ext_drew (ext_alloc1 _ _))
theorem start2 (w : World) (L P N : Nat) (hN : N = (L + 1) * (L + 1)) (t1 t2 t3 : TypeId) :
   SM ((((w.alloc (.cells (madeCells #[.bool false] N) t2)).alloc (.cells (madeCells Zq4 (N * 4)) t1)).alloc (.cells #[.int .i64 (L : Int), .int .i64 (P : Int), .slice (some ⟨w.heap.size + 1, 0, none⟩) N N, .slice (some ⟨w.heap.size, 0, none⟩) N N] t3)).drew) (w.heap.size + 1 + 1) L P N (w.heap.size + 1) w.heap.size := by
 refine SM.start (by simp [go_sem]) (by simp [go_sem]) (by simp [go_sem]) (by simp [go_sem]) (fun i hi => ?_) (fun i hi => ?_) (fun j => by simp [go_sem]) (fun j => by simp [go_sem]) hN (by omega) (by omega) (by omega)
 · have h := made4 (w.alloc (.cells (madeCells #[.bool false] N) t2)) (N * 4) t1 i (by omega)
   rw [World.size_alloc] at h
   exact h.ext (ext_drew (ext_alloc1 _ _))
 · exact cell_keep (made1 w N t2 i hi) (ext_drew (ext_alloc (ext_alloc1 _ _) _))
structure PE (w W : World) (q L P N T D r : Nat) : Prop where
 mem : SM W q L P N T D
 rs : O4 W r (some PV.zero)
 bel : Below w.heap.size w W
 g1 : w.heap.size ≤ T
 g2 : w.heap.size ≤ D
 g3 : w.heap.size ≤ r
 n1 : r ≠ T
 n2 : r ≠ D
theorem info_4 : (Tryz.prog.info? 210).map (fun i => (i.zero, i.size, i.bytes)) = some (some (.agg #[.int .i64 0, .int .i64 0, .string ⟨#[]⟩, .string ⟨#[]⟩]), 4, 48) := by kernel_rfl
theorem info_b : (Tryz.prog.info? 4).map (fun i => (i.zero, i.size, i.bytes)) = some (some (.bool false), 1, 1) := by kernel_rfl
theorem make_4 {n : Nat} (hn : n ≤ 1000000) (w : World) :
   (Instr.makeSlice 253 (.int .i64 (n : Int)) (.int .i64 (n : Int))).run Tryz.prog w = .ok (.slice (some ⟨w.heap.size, 0, none⟩) n n) (w.alloc (.cells (madeCells Zq4 (n * 4)) 210)) := by
 obtain ⟨i, hi, hz, hs, hb⟩ := info_parts info_4
 have h := run_make (P := Tryz.prog) w 253 210 i _ Tryz.underlying253 hi hz .i64 .i64 (n : Int) (n : Int) (by omega) (by omega) (by rw [hb]; omega) (by omega)
 rw [hs, Int.toNat_natCast] at h
 exact h
theorem make_b {n : Nat} (hn : n ≤ 1000000) (w : World) :
   (Instr.makeSlice 254 (.int .i64 (n : Int)) (.int .i64 (n : Int))).run Tryz.prog w = .ok (.slice (some ⟨w.heap.size, 0, none⟩) n n) (w.alloc (.cells (madeCells #[.bool false] n) 4)) := by
 obtain ⟨i, hi, hz, hs, hb⟩ := info_parts info_b
 have h := run_make (P := Tryz.prog) w 254 4 i _ Tryz.underlying254 hi hz .i64 .i64 (n : Int) (n : Int) (by omega) (by omega) (by rw [hb]; omega) (by omega)
 rw [hs, Int.toNat_natCast, Nat.mul_one] at h
 exact h
set_option maxHeartbeats 1600000 in
theorem spec_Pair (L P : Nat) (hP : 1 ≤ P) (hL : L ≤ 80) (w : World) :
   Calls Tryz.prog 186 #[.int .i64 (L : Int), .int .i64 (P : Int)] w (Ret (OVv (sR L P 0 0)) w) := by
 have HBS := Lib.hid (fun N q T D W h => spec_best q L P N T D hP hL (2 * L + 1) 0 0 (by omega) (by omega) (by omega) W h)
 obtain ⟨o, ho⟩ : ∃ o, sR L P 0 0 = o := ⟨_, rfl⟩
 unfold BestP at HBS
 rw [ho] at HBS
 rw [ho]
 clear ho
 obtain ⟨N, hN⟩ : ∃ N, (L + 1) * (L + 1) = N := ⟨_, rfl⟩
 have HN := Lib.hid hN
 have hN2 : N ≤ 81 * 81 := by rw [← hN]; exact Nat.mul_le_mul (by omega) (by omega)
 have hNi : ((L : Int) + 1) * ((L : Int) + 1) = (N : Int) := by rw [← hN]; push_cast; rfl
 have hN0 : (0 : Int) ≤ (N : Int) := by omega
 have hm4 := fun w => make_4 (n := N) (by omega) w
 have hmb := fun w => make_b (n := N) (by omega) w
 clear hN
 go_enter Tryz.func186, Tryz.ntmps186
 go_upto_region 2 with fail
 go_region
 · skip
   have HPE : Hid (PE w (((((w.alloc (.cells #[.int .i64 0, .int .i64 0, .string ⟨#[]⟩, .string ⟨#[]⟩] 210)).alloc (.cells (madeCells Zq4 (N * 4)) 210)).alloc (.cells (madeCells #[.bool false] N) 4)).alloc (.cells #[.int .i64 (L : Int), .int .i64 (P : Int), .slice (some ⟨w.heap.size + 1, 0, none⟩) N N, .slice (some ⟨w.heap.size + 1 + 1, 0, none⟩) N N] 256)).drew) (w.heap.size + 1 + 1 + 1) L P N (w.heap.size + 1) (w.heap.size + 1 + 1) w.heap.size) := Lib.hid (by
     have h := start1 (w.alloc (.cells #[.int .i64 0, .int .i64 0, .string ⟨#[]⟩, .string ⟨#[]⟩] 210)) L P N HN.out.symm 210 4 256
     rw [World.size_alloc] at h
     exact ⟨h, (O4.new w (some PV.zero) _).ext (ext_drew (ext_alloc (ext_alloc (ext_alloc1 _ _) _) _)), ext_drew (ext_alloc (ext_alloc (ext_alloc (ext_alloc1 _ _) _) _) _), by omega, by omega, Nat.le_refl _, by omega, by omega⟩)
   go_wp2_with fail
   clear hm4 hmb hNi hN0 hN2 HN
   obtain ⟨W, hW⟩ : ∃ y, ((((w.alloc (.cells #[.int .i64 0, .int .i64 0, .string ⟨#[]⟩, .string ⟨#[]⟩] 210)).alloc (.cells (madeCells Zq4 (N * 4)) 210)).alloc (.cells (madeCells #[.bool false] N) 4)).alloc (.cells #[.int .i64 (L : Int), .int .i64 (P : Int), .slice (some ⟨w.heap.size + 1, 0, none⟩) N N, .slice (some ⟨w.heap.size + 1 + 1, 0, none⟩) N N] 256)).drew = y := ⟨_, rfl⟩
   rw [hW] at HPE
   rw [hW]
   clear hW
   obtain ⟨r, hr⟩ : ∃ y, w.heap.size = y := ⟨_, rfl⟩
   have HR := Lib.hid hr
   rw [hr] at HPE
   simp only [hr]
   clear hr
   refine (show Calls _ _ _ _ _ from HBS.out _ _ _ _ _ HPE.out.mem).mono ?_
   rintro e w2 ⟨rfl, _, hc⟩
   have HR2 := Lib.hid (HPE.out.rs.chg hc (by have := HPE.out.n1; have := HPE.out.n2; unfold S2; omega))
   have HB2 : Hid (Below w.heap.size w w2) := Lib.hid (Chg.ext HPE.out.bel hc (fun k hk => by have := HPE.out.g1; have := HPE.out.g2; unfold S2 at hk; omega))
   clear hc HBS
   obtain ⟨r0, r1, r2, r3⟩ := HR2.out.cs
   simp only [Nat.zero_add] at r1 r2 r3
   have rf := HR2.out.gf
   go_wp2_with fail
   have HPU := Lib.hid (putT_same HR2.out.cs o)
   have HB3 := Lib.hid (Chg.ext HB2.out (putT_chg w2 r 0 o) (fun k hk => by subst hk; have := HPE.out.g3; exact this))
   obtain ⟨w9, hw9⟩ : ∃ x, putT w2 r 0 o = x := ⟨_, rfl⟩
   rw [hw9] at HPU HB3
   change ((((w2.setCell ⟨r, 0, none⟩ (.int .i64 (oc o))).setCell ⟨r, 1, none⟩ (.int .i64 (on o))).setCell ⟨r, 2, none⟩ (.string (ol o))).setCell ⟨r, 3, none⟩ (.string (oh o))) = w9 at hw9
   rw [hw9]
   obtain ⟨u0, u1, u2, u3⟩ := HPU.out
   clear hw9
   refine bodyPost_ret (v := OVv o) (by simp [results, Tryz.results186, go_sem, u0, u1, u2, u3]) rfl ?_
   exact ⟨rfl, HB3.out⟩
 · skip
   have HPE : Hid (PE w (((((w.alloc (.cells #[.int .i64 0, .int .i64 0, .string ⟨#[]⟩, .string ⟨#[]⟩] 210)).alloc (.cells (madeCells #[.bool false] N) 4)).alloc (.cells (madeCells Zq4 (N * 4)) 210)).alloc (.cells #[.int .i64 (L : Int), .int .i64 (P : Int), .slice (some ⟨w.heap.size + 1 + 1, 0, none⟩) N N, .slice (some ⟨w.heap.size + 1, 0, none⟩) N N] 256)).drew) (w.heap.size + 1 + 1 + 1) L P N (w.heap.size + 1 + 1) (w.heap.size + 1) w.heap.size) := Lib.hid (by
     have h := start2 (w.alloc (.cells #[.int .i64 0, .int .i64 0, .string ⟨#[]⟩, .string ⟨#[]⟩] 210)) L P N HN.out.symm 210 4 256
     rw [World.size_alloc] at h
     exact ⟨h, (O4.new w (some PV.zero) _).ext (ext_drew (ext_alloc (ext_alloc (ext_alloc1 _ _) _) _)), ext_drew (ext_alloc (ext_alloc (ext_alloc (ext_alloc1 _ _) _) _) _), by omega, by omega, Nat.le_refl _, by omega, by omega⟩)
   go_wp2_with fail
   clear hm4 hmb hNi hN0 hN2 HN
   obtain ⟨W, hW⟩ : ∃ y, ((((w.alloc (.cells #[.int .i64 0, .int .i64 0, .string ⟨#[]⟩, .string ⟨#[]⟩] 210)).alloc (.cells (madeCells #[.bool false] N) 4)).alloc (.cells (madeCells Zq4 (N * 4)) 210)).alloc (.cells #[.int .i64 (L : Int), .int .i64 (P : Int), .slice (some ⟨w.heap.size + 1 + 1, 0, none⟩) N N, .slice (some ⟨w.heap.size + 1, 0, none⟩) N N] 256)).drew = y := ⟨_, rfl⟩
   rw [hW] at HPE
   rw [hW]
   clear hW
   obtain ⟨r, hr⟩ : ∃ y, w.heap.size = y := ⟨_, rfl⟩
   have HR := Lib.hid hr
   rw [hr] at HPE
   simp only [hr]
   clear hr
   refine (show Calls _ _ _ _ _ from HBS.out _ _ _ _ _ HPE.out.mem).mono ?_
   rintro e w2 ⟨rfl, _, hc⟩
   have HR2 := Lib.hid (HPE.out.rs.chg hc (by have := HPE.out.n1; have := HPE.out.n2; unfold S2; omega))
   have HB2 : Hid (Below w.heap.size w w2) := Lib.hid (Chg.ext HPE.out.bel hc (fun k hk => by have := HPE.out.g1; have := HPE.out.g2; unfold S2 at hk; omega))
   clear hc HBS
   obtain ⟨r0, r1, r2, r3⟩ := HR2.out.cs
   simp only [Nat.zero_add] at r1 r2 r3
   have rf := HR2.out.gf
   go_wp2_with fail
   have HPU := Lib.hid (putT_same HR2.out.cs o)
   have HB3 := Lib.hid (Chg.ext HB2.out (putT_chg w2 r 0 o) (fun k hk => by subst hk; have := HPE.out.g3; exact this))
   obtain ⟨w9, hw9⟩ : ∃ x, putT w2 r 0 o = x := ⟨_, rfl⟩
   rw [hw9] at HPU HB3
   change ((((w2.setCell ⟨r, 0, none⟩ (.int .i64 (oc o))).setCell ⟨r, 1, none⟩ (.int .i64 (on o))).setCell ⟨r, 2, none⟩ (.string (ol o))).setCell ⟨r, 3, none⟩ (.string (oh o))) = w9 at hw9
   rw [hw9]
   obtain ⟨u0, u1, u2, u3⟩ := HPU.out
   clear hw9
   refine bodyPost_ret (v := OVv o) (by simp [results, Tryz.results186, go_sem, u0, u1, u2, u3]) rfl ?_
   exact ⟨rfl, HB3.out⟩
theorem spec_Lengths (L P : Int) (w : World) : Calls Tryz.prog 185 #[.int .i64 L, .int .i64 P] w (RetP (.bool (inB L 1 80 && inB P 1 4)) w) := by
 obtain ⟨x, hx⟩ : ∃ x, inB L 1 80 = x := ⟨_, rfl⟩
 obtain ⟨y, hy⟩ : ∃ y, inB P 1 4 = y := ⟨_, rfl⟩
 have HI := Lib.hid (fun w => RetP.bool (spec_in L 1 80 w) hx)
 have HJ := Lib.hid (fun w => RetP.bool (spec_in P 1 4 w) hy)
 rw [hx, hy]
 clear hx hy
 go_enter Tryz.func185, Tryz.ntmps185
 go_wp2_with fail
 refine (show Calls _ _ _ _ _ from HI.out _).mono ?_
 rintro e w1 ⟨rfl, rfl⟩
 cases x
 · go_wp2_with fail
   go_ret
   exact ⟨rfl, rfl⟩
 go_wp2_with fail
 refine (show Calls _ _ _ _ _ from HJ.out _).mono ?_
 rintro e w1 ⟨rfl, rfl⟩
 go_wp2_with fail
 go_ret
 exact ⟨rfl, rfl⟩
set_option maxHeartbeats 1600000 in
theorem spec_BestPair (L P : Int) (w : World) : Calls Tryz.prog 128 #[.int .i64 L, .int .i64 P] w (RetP3 (mPair L P) w) := by
 have HPC := Lib.hid (fun w => spec_Lengths L P w)
 cases hb : (inB L 1 80 && inB P 1 4) with
 | false =>
   have HM := Lib.hid (mPair_no hb)
   rw [hb] at HPC
   clear hb
   go_enter Tryz.func128, Tryz.ntmps128
   go_wp2_with fail
   refine (show Calls _ _ _ _ _ from HPC.out _).mono ?_
   rintro e w1 ⟨rfl, rfl⟩
   go_wp2_with fail
   refine bodyPost_ret (v := .tuple #[.string ⟨#[]⟩, .string ⟨#[]⟩, .int .i64 2]) (by simp [results, Tryz.results128, go_sem]) rfl ?_
   unfold RetP3
   rw [HM.out]
   exact ⟨rfl, ext_refl _⟩
 | true =>
   have HM := Lib.hid (mPair_ok hb)
   rw [hb] at HPC
   simp only [Bool.and_eq_true] at hb
   have hL := inB_iff.1 hb.1
   have hPP := inB_iff.1 hb.2
   obtain ⟨l, hl⟩ : ∃ l : Nat, L = l := ⟨L.toNat, by omega⟩
   obtain ⟨q, hq⟩ : ∃ q : Nat, P = q := ⟨P.toNat, by omega⟩
   subst hl hq
   rw [Int.toNat_natCast, Int.toNat_natCast, pair_sR (by omega) (by omega)] at HM
   clear hb
   have HS := Lib.hid (fun w => spec_Pair l q (by omega) (by omega) w)
   obtain ⟨o, ho⟩ : ∃ o, sR l q 0 0 = o := ⟨_, rfl⟩
   rw [ho] at HM HS
   clear ho
   go_enter Tryz.func128, Tryz.ntmps128
   go_wp2_with fail
   refine (show Calls _ _ _ _ _ from HPC.out _).mono ?_
   rintro e w1 ⟨rfl, rfl⟩
   go_wp2_with fail
   refine (show Calls _ _ _ _ _ from HS.out _).mono ?_
   rintro e w2 ⟨rfl, hb2⟩
   have HB2 := Lib.hid hb2
   clear hb2 HS
   cases o with
   | none =>
     dsimp only [oc, on, ol, oh]
     go_wp2_with fail
     refine bodyPost_ret (v := .tuple #[.string ⟨#[]⟩, .string ⟨#[]⟩, .int .i64 3]) (by simp [results, Tryz.results128, go_sem]) rfl ?_
     unfold RetP3
     rw [HM.out]
     exact ⟨rfl, ext_alloc HB2.out _⟩
   | some v =>
     dsimp only [oc, on, ol, oh]
     go_wp2_with fail
     go_region
     all_goals
       go_wp2_with fail
       refine bodyPost_ret (v := .tuple #[.string (bsq v.lo), .string (bsq v.hi), .int .i64 0]) (by simp [results, Tryz.results128, go_sem, ol, oh]) rfl ?_
       unfold RetP3
       rw [HM.out]
       exact ⟨rfl, ext_drew (ext_alloc HB2.out _)⟩
set_option maxHeartbeats 6400000 in
theorem spec_DeskCommand (v : Value) (d : DK) (line : ByteArray) (w : World) (ha : RDK w v d) (hsm : SmDK d) (hs : line.size ≤ 1048576) (hE : EnvK w) :
   Calls Tryz.prog 9 #[v, .string line] w (RetD (mDesk d line) w) := by
 obtain ⟨A, cA, B, e, rfl, hcs, hwl⟩ := ha
 have HOK := Lib.hid (fun W (h : PDK W w.heap.size d A cA B e) (hb : Below w.heap.size w W) => spec_okD w.heap.size d A cA B e W h (hcs.ext hb) (hwl.ext hb) hsm)
 have HCP := Lib.hid (fun W (h : PDK W w.heap.size d A cA B e) (hb : Below w.heap.size w W) => spec_Copy w.heap.size d A cA B e W h (hcs.ext hb) (hwl.ext hb) hsm)
 have HE := Lib.hid hE
 have HLS := Lib.hid hs
 have HN1 := Lib.hid (fun h => mDesk_no (d := d) (line := line) h)
 have HN2 := Lib.hid (fun h h2 => mDesk_none (d := d) (line := line) h h2)
 have HY := Lib.hid (fun p h h2 => mDesk_some (d := d) (line := line) (p := p) h h2)
 have HDO := Lib.hid (fun W hb B0 q hq A c B e h hV => spec_do w W hb hE.env B0 q hq d A c B e none 0 [] (.slice none 0 0) (.slice none 0 0) h line hs (by simp) hV (fun a b w => spec_BestPair a b w))
 obtain ⟨M, hM⟩ : ∃ x, mDesk d line = x := ⟨_, rfl⟩
 obtain ⟨D, hDD⟩ : ∃ x, mDo d line = x := ⟨_, rfl⟩
 rw [hDD] at HN2 HY HDO
 rw [hM] at HN1 HN2 HY
 rw [hM]
 clear hM hDD hcs hwl hE hs hsm
 have HC0 : Hid (DC w ((w.alloc (.cells #[.int .i64 d.f.l, .int .i64 d.f.w, .int .i64 d.f.h, .int .i64 d.f.j, .string d.nm, .slice A d.cs.length cA, .slice B d.wall.length e, .string d.log] 38)).alloc (.cells #[.int .i64 0, .int .i64 0, .int .i64 0, .int .i64 0, .string ⟨#[]⟩, .slice none 0 0, .slice none 0 0, .string ⟨#[]⟩] 38)) w.heap.size (w.heap.size + 1) d A cA B e) := Lib.hid
   ⟨ext_alloc (ext_alloc1 _ _) _, (PDK.new w d A cA B e _).ext (ext_alloc1 _ _), by simp [go_sem], by simp [go_sem], by simp [go_sem], by simp [go_sem], by simp [go_sem], by simp [go_sem], by simp [go_sem], by simp [go_sem], fun j => by simp [go_sem], Nat.le_refl _, by omega⟩
 go_enter Tryz.func9, Tryz.ntmps9
 go_wp2_with fail
 refine (show Calls _ _ _ _ _ from HOK.out _ HC0.out.bx HC0.out.b).mono ?_
 rintro e' w2 ⟨rfl, hb⟩
 have HC2 := Lib.hid (HC0.out.ext hb)
 clear hb HC0
 generalize w.heap.size + 1 = r at *
 obtain ⟨vb, hvb⟩ : ∃ x, vDK d = x := ⟨_, rfl⟩
 have HVB := Lib.hid hvb
 rw [hvb] at HN1 HN2 HY HDO
 rw [hvb]
 clear hvb
 cases vb with
 | false =>
   have HR := Lib.hid (HC2.out.put (.int .i64 0) (.int .i64 0) (.int .i64 0) (.int .i64 0) (.string ⟨#[]⟩) (.slice none 0 0) (.slice none 0 0) (.string ⟨#[]⟩))
   obtain ⟨_, _, z0, z1, z2, z3, z4, z5, z6, z7, zf, _, _⟩ := HC2.out
   obtain ⟨W2, hW2⟩ : ∃ x, P8 w2 r (.int .i64 0) (.int .i64 0) (.int .i64 0) (.int .i64 0) (.string ⟨#[]⟩) (.slice none 0 0) (.slice none 0 0) (.string ⟨#[]⟩) = x := ⟨_, rfl⟩
   rw [hW2] at HR
   unfold P8 at hW2
   go_wp2_with fail
   clear z0 z1 z2 z3 z4 z5 z6 z7 zf hW2
   obtain ⟨_, _, r0, r1, r2, r3, r4, r5, r6, r7⟩ := HR.out
   refine bodyPost_ret (v := .tuple #[.agg #[.int .i64 0, .int .i64 0, .int .i64 0, .int .i64 0, .string ⟨#[]⟩, .slice none 0 0, .slice none 0 0, .string ⟨#[]⟩], .slice none 0 0, .int .i64 1]) (by simp [results, Tryz.results9, go_sem, r0, r1, r2, r3, r4, r5, r6, r7]) rfl (DR.nil HC2.out (HN1.out (by trivial)) HR.out.c)
 | true =>
 go_wp2_with fail
 refine (show Calls _ _ _ _ _ from HCP.out _ HC2.out.bx HC2.out.b).mono ?_
 rintro e' w3 ⟨v, rfl, ⟨A4, c4, B4, e4, rfl, hod⟩, hb⟩
 have HC3 := Lib.hid (HC2.out.ext hb)
 have HSX := Lib.hid (SX.new w2 w3 d A4 c4 B4 e4 hod hb.size)
 have hr2 := HC2.out.lt
 have HC4 := Lib.hid (HC3.out.ext (ext_alloc1 w3 (.cells #[.int .i64 d.f.l, .int .i64 d.f.w, .int .i64 d.f.h, .int .i64 d.f.j, .string d.nm, .slice A4 d.cs.length c4, .slice B4 d.wall.length e4, .string d.log, .slice none 0 0, .slice none 0 0, .slice none 0 0] 57)))
 clear hb hod
 have hrl := HC3.out.lt
 have HCALL := Lib.hid (HDO.out _ HC4.out.b w2.heap.size _ HC3.out.b.size A4 c4 B4 e4 HSX.out (by trivial))
 go_wp2_with fail
 refine (show Calls _ _ _ _ _ from HCALL.out).mono ?_
 rintro e' w7 ⟨N, T, rfl, A8, c8, B8, e8, O, co, hx, hch, hat⟩
 have HX7 := Lib.hid hx
 have HC7 := Lib.hid (HC4.out.chg hch (fun k hk => by rcases hk with hk | hk; (subst hk; exact hrl); (cases hk)))
 clear hx hch hat HCALL
 cases D with
 | none =>
   have HR := Lib.hid (HC7.out.put (.int .i64 0) (.int .i64 0) (.int .i64 0) (.int .i64 0) (.string ⟨#[]⟩) (.slice none 0 0) (.slice none 0 0) (.string ⟨#[]⟩))
   obtain ⟨_, _, z0, z1, z2, z3, z4, z5, z6, z7, zf, _, _⟩ := HC7.out
   obtain ⟨W2, hW2⟩ : ∃ x, P8 w7 r (.int .i64 0) (.int .i64 0) (.int .i64 0) (.int .i64 0) (.string ⟨#[]⟩) (.slice none 0 0) (.slice none 0 0) (.string ⟨#[]⟩) = x := ⟨_, rfl⟩
   rw [hW2] at HR
   unfold P8 at hW2
   go_wp2_with fail
   clear z0 z1 z2 z3 z4 z5 z6 z7 zf hW2
   obtain ⟨_, _, r0, r1, r2, r3, r4, r5, r6, r7⟩ := HR.out
   refine bodyPost_ret (v := .tuple #[.agg #[.int .i64 0, .int .i64 0, .int .i64 0, .int .i64 0, .string ⟨#[]⟩, .slice none 0 0, .slice none 0 0, .string ⟨#[]⟩], .slice none 0 0, .int .i64 7]) (by simp [results, Tryz.results9, go_sem, r0, r1, r2, r3, r4, r5, r6, r7]) rfl (DR.nil HC7.out (HN2.out (by trivial) (by trivial)) HR.out.c)
 | some pr =>
   obtain ⟨d8, ls8⟩ := pr
   have HM : Hid (M = (d8, ls8, 0)) := Lib.hid (HY.out (d8, ls8) (by trivial) rfl)
   replace HX7 : Hid (SX w7 w2.heap.size w3.heap.size d8 A8 c8 B8 e8 O co ls8 N T) := HX7
   obtain ⟨q, hq⟩ : ∃ q, w3.heap.size = q := ⟨_, rfl⟩
   rw [hq] at HX7 hrl
   simp only [hq]
   obtain ⟨l0, l1, l2, l3, l4, l5, l6, l7⟩ := HX7.out.bx.cells
   have l8 := HX7.out.k8
   have HR := Lib.hid (HC7.out.put (.int .i64 d8.f.l) (.int .i64 d8.f.w) (.int .i64 d8.f.h) (.int .i64 d8.f.j) (.string d8.nm) (.slice A8 d8.cs.length c8) (.slice B8 d8.wall.length e8) (.string d8.log))
   obtain ⟨_, _, z0, z1, z2, z3, z4, z5, z6, z7, zf, _, _⟩ := HC7.out
   have hrq : r ≠ q := by omega
   have hqr := hrq.symm
   have HW2 := Lib.hid HC2.out.b.size
   go_upto_region 6 with fail
   obtain ⟨W8, hW8⟩ : ∃ x, (P8 w7 r (.int .i64 d8.f.l) (.int .i64 d8.f.w) (.int .i64 d8.f.h) (.int .i64 d8.f.j) (.string d8.nm) (.slice A8 d8.cs.length c8) (.slice B8 d8.wall.length e8) (.string d8.log)) = x := ⟨_, rfl⟩
   rw [hW8] at HR
   have HRP := Lib.hid (DR.ret (W2 := W8.drew) (c := cA) HC7.out HM.out (HR.out.c.trans (Chg.of_below (ext_drew (ext_refl W8)) _)) (HX7.out.bx.own.mono HW2.out) (HX7.out.own.mono HW2.out)
     (fun k hk => by have := (HX7.out.bx.own.1.ge k hk).1; omega) (fun k hk => by have := (HX7.out.bx.own.2.1.ge k hk).1; omega) (fun k hk => ⟨by have := (HX7.out.own.ge k hk).1; omega, (HX7.out.ap k hk).2.1, (HX7.out.ap k hk).2.2⟩))
   have HRD : Hid (DR w7 W8.drew r (.int .i64 d8.f.l) (.int .i64 d8.f.w) (.int .i64 d8.f.h) (.int .i64 d8.f.j) (.string d8.nm) (.slice A8 d8.cs.length c8) (.slice B8 d8.wall.length e8) (.string d8.log)) := Lib.hid (by
     obtain ⟨hc, hs, r0, r1, r2, r3, r4, r5, r6, r7⟩ := HR.out
     have hb := ext_drew (ext_refl W8)
     exact ⟨hc.trans (Chg.of_below hb _), hs, cell_keep r0 hb, cell_keep r1 hb, cell_keep r2 hb, cell_keep r3 hb, cell_keep r4 hb, cell_keep r5 hb, cell_keep r6 hb, cell_keep r7 hb⟩)
   have HW8 := Lib.hid hW8
   clear hW8
   go_region
   have hW8 := HW8.out
   unfold P8 at hW8
   rw [hW8]
   clear hW8 z0 z1 z2 z3 z4 z5 z6 z7 zf l0 l1 l2 l3 l4 l5 l6 l7 l8
   obtain ⟨_, _, r0, r1, r2, r3, r4, r5, r6, r7⟩ := HRD.out
   go_wp2_with fail
   refine bodyPost_ret (v := .tuple #[.agg #[.int .i64 d8.f.l, .int .i64 d8.f.w, .int .i64 d8.f.h, .int .i64 d8.f.j, .string d8.nm, .slice A8 d8.cs.length c8, .slice B8 d8.wall.length e8, .string d8.log], .slice O ls8.length co, .int .i64 0]) (by simp [results, Tryz.results9, go_sem, r0, r1, r2, r3, r4, r5, r6, r7]) rfl HRP.out
def ExecC : Prop := ∀ (c : CM) (w00 W : World) (q : Nat) (d : DK) (A : Option Addr) (cc : Nat) (B : Option Addr) (e : Nat) (hD : DB W w00.heap.size q d A cc B e) (hb0 : Below w00.heap.size w00 W) (Aw : Option Addr) (cw : Nat) (l : List ByteArray) (hw : RStr W (.slice Aw l.length cw) l) (hl : l.length = (cmF c).length + 1) (hx : gd l 0 = cmW c) (hwq : ∀ ad, Aw = some ad → ad.block ≠ q) (hsz : ∀ k, k < l.length → (gd l k).size ≤ 1048576)
    (An : Option Addr) (cn : Nat) (xs : List Int) (hn : RI W (.slice An xs.length cn) xs) (hxs : xs = nmL c l (cmF c).length) (hE : Env w00) (hT : LibT w00) (hV : vDK d = true),
    Calls Tryz.prog 44 #[.pointer (some ⟨q, 0, none⟩), .slice Aw l.length cw, .slice An xs.length cn] W (ExP (mExec d c l) W w00.heap.size q)
end Go.Proofs.YtfgopboddkhckaaGreatDoor
