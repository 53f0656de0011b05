/-
  Parts of the proof: SbD, Ss10.
-/
import Derived.Test.YtfgopboddkhckaaGreatDoorKa21
import Derived.Test.YtfgopboddkhckaaGreatDoorKa22
import Derived.Test.YtfgopboddkhckaaGreatDoorKa23
import Derived.Test.YtfgopboddkhckaaGreatDoorKa24
import Derived.Test.YtfgopboddkhckaaGreatDoorKa25
import Derived.Test.YtfgopboddkhckaaGreatDoorKa28
import Derived.Test.YtfgopboddkhckaaGreatDoorKa32
import Derived.Test.YtfgopboddkhckaaGreatDoorKa33
namespace Go.Proofs.YtfgopboddkhckaaGreatDoor
open Go.ChangeShapes Go.WideShapes Go.ChangeAt Go.RowKit Go.Sort Go.Joins
set_option linter.unusedVariables false
set_option maxRecDepth 100000

def Zq4 : Array Value := #[.int .i64 0, .int .i64 0, .string ⟨#[]⟩, .string ⟨#[]⟩]
theorem made_at (z : Array Value) (m k : Nat) (hk : k < m) : (madeCells z m)[k]? = some (z[k % z.size]!) := by simp [madeCells, hk]
theorem made4 (w : World) (m : Nat) (ty : TypeId) (i : Nat) (hi : i * 4 + 3 < m) : C4 (w.alloc (.cells (madeCells Zq4 m) ty)) w.heap.size (i * 4) (some PV.zero) := by
  have h0 := made_at Zq4 m (i * 4) (by omega)
  have h1 := made_at Zq4 m (i * 4 + 1) (by omega)
  have h2 := made_at Zq4 m (i * 4 + 2) (by omega)
  have h3 := made_at Zq4 m (i * 4 + 3) (by omega)
  rw [show i * 4 % Zq4.size = 0 by show i * 4 % 4 = 0; omega] at h0
  rw [show (i * 4 + 1) % Zq4.size = 1 by show (i * 4 + 1) % 4 = 1; omega] at h1
  rw [show (i * 4 + 2) % Zq4.size = 2 by show (i * 4 + 2) % 4 = 2; omega] at h2
  rw [show (i * 4 + 3) % Zq4.size = 3 by show (i * 4 + 3) % 4 = 3; omega] at h3
  exact ⟨by simp [go_sem, h0]; rfl, by simp [go_sem, h1]; rfl, by simp [go_sem, h2]; rfl, by simp [go_sem, h3]; rfl⟩
theorem made1 (w : World) (m : Nat) (ty : TypeId) (i : Nat) (hi : i < m) : (w.alloc (.cells (madeCells #[.bool false] m) ty)).cell? ⟨w.heap.size, i, none⟩ = some (.bool false) := by
  have h0 := made_at #[.bool false] m i hi
  rw [show i % (#[Value.bool false] : Array Value).size = 0 by show i % 1 = 0; omega] at h0
  simp [go_sem, h0]
/-- A search's memory at its start. -/
theorem SM.start {W : World} {q L P N T D : Nat} (c0 : W.cell? ⟨q, 0, none⟩ = some (.int .i64 (L : Int))) (c1 : W.cell? ⟨q, 1, none⟩ = some (.int .i64 (P : Int))) (c2 : W.cell? ⟨q, 2, none⟩ = some (.slice (some ⟨T, 0, none⟩) N N)) (c3 : W.cell? ⟨q, 3, none⟩ = some (.slice (some ⟨D, 0, none⟩) N N))
    (ht : ∀ i, i < N → C4 W T (i * 4) (some PV.zero)) (hd : ∀ i, i < N → W.cell? ⟨D, i, none⟩ = some (.bool false)) (ft : ∀ j, W.frozen? ⟨T, j, none⟩ = false) (fd : ∀ j, W.frozen? ⟨D, j, none⟩ = false) (hN : N = (L + 1) * (L + 1)) (n1 : T ≠ D) (n2 : T ≠ q) (n3 : D ≠ q) : SM W q L P N T D :=
  ⟨c0, c1, c2, c3, ⟨fun _ => some PV.zero, fun _ => false, ht, hd, fun _ _ _ _ h => by cases h⟩, ft, fd, hN, n1, n2, n3⟩
theorem C4.ext {W W' : World} {g k : Nat} {o : Option PV} (h : C4 W g k o) (hb : Below W.heap.size W W') : C4 W' g k o := h.chg (S := fun _ => False) (Chg.of_below hb _) (fun e => e)
/-- A fresh search: its table first, or its marks first. -/
theorem start1 (w : World) (L P N : Nat) (hN : N = (L + 1) * (L + 1)) (t1 t2 t3 : TypeId) :
    SM ((((w.alloc (.cells (madeCells Zq4 (N * 4)) t1)).alloc (.cells (madeCells #[.bool false] N) t2)).alloc (.cells #[.int .i64 (L : Int), .int .i64 (P : Int), .slice (some ⟨w.heap.size, 0, none⟩) N N, .slice (some ⟨w.heap.size + 1, 0, none⟩) N N] t3)).drew) (w.heap.size + 1 + 1) L P N w.heap.size (w.heap.size + 1) := by
  refine SM.start (by simp [go_sem]) (by simp [go_sem]) (by simp [go_sem]) (by simp [go_sem]) (fun i hi => ?_) (fun i hi => ?_) (fun j => by simp [go_sem]) (fun j => by simp [go_sem]) hN (by omega) (by omega) (by omega)
  · exact (made4 w (N * 4) t1 i (by omega)).ext (ext_drew (ext_alloc (ext_alloc1 _ _) _))
  · have h := made1 (w.alloc (.cells (madeCells Zq4 (N * 4)) t1)) N t2 i hi
    rw [World.size_alloc] at h
    exact cell_keep h (ext_drew (ext_alloc1 _ _))
theorem start2 (w : World) (L P N : Nat) (hN : N = (L + 1) * (L + 1)) (t1 t2 t3 : TypeId) :
    SM ((((w.alloc (.cells (madeCells #[.bool false] N) t2)).alloc (.cells (madeCells Zq4 (N * 4)) t1)).alloc (.cells #[.int .i64 (L : Int), .int .i64 (P : Int), .slice (some ⟨w.heap.size + 1, 0, none⟩) N N, .slice (some ⟨w.heap.size, 0, none⟩) N N] t3)).drew) (w.heap.size + 1 + 1) L P N (w.heap.size + 1) w.heap.size := by
  refine SM.start (by simp [go_sem]) (by simp [go_sem]) (by simp [go_sem]) (by simp [go_sem]) (fun i hi => ?_) (fun i hi => ?_) (fun j => by simp [go_sem]) (fun j => by simp [go_sem]) hN (by omega) (by omega) (by omega)
  · have h := made4 (w.alloc (.cells (madeCells #[.bool false] N) t2)) (N * 4) t1 i (by omega)
    rw [World.size_alloc] at h
    exact h.ext (ext_drew (ext_alloc1 _ _))
  · exact cell_keep (made1 w N t2 i hi) (ext_drew (ext_alloc (ext_alloc1 _ _) _))
/-- The end of l08Pair. -/
structure PE (w W : World) (q L P N T D r : Nat) : Prop where
  mem : SM W q L P N T D
  rs : O4 W r (some PV.zero)
  bel : Below w.heap.size w W
  g1 : w.heap.size ≤ T
  g2 : w.heap.size ≤ D
  g3 : w.heap.size ≤ r
  n1 : r ≠ T
  n2 : r ≠ D
theorem info_4 : (Tryz.prog.info? 210).map (fun i => (i.zero, i.size, i.bytes)) = some (some (.agg #[.int .i64 0, .int .i64 0, .string ⟨#[]⟩, .string ⟨#[]⟩]), 4, 48) := by kernel_rfl
theorem info_b : (Tryz.prog.info? 4).map (fun i => (i.zero, i.size, i.bytes)) = some (some (.bool false), 1, 1) := by kernel_rfl
theorem make_4 {n : Nat} (hn : n ≤ 1000000) (w : World) :
    (Instr.makeSlice 253 (.int .i64 (n : Int)) (.int .i64 (n : Int))).run Tryz.prog w = .ok (.slice (some ⟨w.heap.size, 0, none⟩) n n) (w.alloc (.cells (madeCells Zq4 (n * 4)) 210)) := by
  obtain ⟨i, hi, hz, hs, hb⟩ := info_parts info_4
  have h := run_make (P := Tryz.prog) w 253 210 i _ Tryz.underlying253 hi hz .i64 .i64 (n : Int) (n : Int) (by omega) (by omega) (by rw [hb]; omega) (by omega)
  rw [hs, Int.toNat_natCast] at h
  exact h
theorem make_b {n : Nat} (hn : n ≤ 1000000) (w : World) :
    (Instr.makeSlice 254 (.int .i64 (n : Int)) (.int .i64 (n : Int))).run Tryz.prog w = .ok (.slice (some ⟨w.heap.size, 0, none⟩) n n) (w.alloc (.cells (madeCells #[.bool false] n) 4)) := by
  obtain ⟨i, hi, hz, hs, hb⟩ := info_parts info_b
  have h := run_make (P := Tryz.prog) w 254 4 i _ Tryz.underlying254 hi hz .i64 .i64 (n : Int) (n : Int) (by omega) (by omega) (by rw [hb]; omega) (by omega)
  rw [hs, Int.toNat_natCast, Nat.mul_one] at h
  exact h
set_option maxHeartbeats 1600000 in
theorem spec_Pair (L P : Nat) (hP : 1 ≤ P) (hL : L ≤ 80) (w : World) :
    Calls Tryz.prog 186 #[.int .i64 (L : Int), .int .i64 (P : Int)] w (Ret (OVv (sR L P 0 0)) w) := by
  have HBS := Lib.hid (fun N q T D W h => spec_best q L P N T D hP hL (2 * L + 1) 0 0 (by omega) (by omega) (by omega) W h)
  obtain ⟨o, ho⟩ : ∃ o, sR L P 0 0 = o := ⟨_, rfl⟩
  unfold BestP at HBS
  rw [ho] at HBS
  rw [ho]
  clear ho
  obtain ⟨N, hN⟩ : ∃ N, (L + 1) * (L + 1) = N := ⟨_, rfl⟩
  have HN := Lib.hid hN
  have hN2 : N ≤ 81 * 81 := by rw [← hN]; exact Nat.mul_le_mul (by omega) (by omega)
  have hNi : ((L : Int) + 1) * ((L : Int) + 1) = (N : Int) := by rw [← hN]; push_cast; rfl
  have hN0 : (0 : Int) ≤ (N : Int) := by omega
  have hm4 := fun w => make_4 (n := N) (by omega) w
  have hmb := fun w => make_b (n := N) (by omega) w
  clear hN
  go_enter Tryz.func186, Tryz.ntmps186
  go_upto_region 2 with fail
  go_region
  · skip
    have HPE : Hid (PE w (((((w.alloc (.cells #[.int .i64 0, .int .i64 0, .string ⟨#[]⟩, .string ⟨#[]⟩] 210)).alloc (.cells (madeCells Zq4 (N * 4)) 210)).alloc (.cells (madeCells #[.bool false] N) 4)).alloc (.cells #[.int .i64 (L : Int), .int .i64 (P : Int), .slice (some ⟨w.heap.size + 1, 0, none⟩) N N, .slice (some ⟨w.heap.size + 1 + 1, 0, none⟩) N N] 256)).drew) (w.heap.size + 1 + 1 + 1) L P N (w.heap.size + 1) (w.heap.size + 1 + 1) w.heap.size) := Lib.hid (by
      have h := start1 (w.alloc (.cells #[.int .i64 0, .int .i64 0, .string ⟨#[]⟩, .string ⟨#[]⟩] 210)) L P N HN.out.symm 210 4 256
      rw [World.size_alloc] at h
      exact ⟨h, (O4.new w (some PV.zero) _).ext (ext_drew (ext_alloc (ext_alloc (ext_alloc1 _ _) _) _)), ext_drew (ext_alloc (ext_alloc (ext_alloc (ext_alloc1 _ _) _) _) _), by omega, by omega, Nat.le_refl _, by omega, by omega⟩)
    go_wp2_with fail
    clear hm4 hmb hNi hN0 hN2 HN
    obtain ⟨W, hW⟩ : ∃ y, ((((w.alloc (.cells #[.int .i64 0, .int .i64 0, .string ⟨#[]⟩, .string ⟨#[]⟩] 210)).alloc (.cells (madeCells Zq4 (N * 4)) 210)).alloc (.cells (madeCells #[.bool false] N) 4)).alloc (.cells #[.int .i64 (L : Int), .int .i64 (P : Int), .slice (some ⟨w.heap.size + 1, 0, none⟩) N N, .slice (some ⟨w.heap.size + 1 + 1, 0, none⟩) N N] 256)).drew = y := ⟨_, rfl⟩
    rw [hW] at HPE
    rw [hW]
    clear hW
    obtain ⟨r, hr⟩ : ∃ y, w.heap.size = y := ⟨_, rfl⟩
    have HR := Lib.hid hr
    rw [hr] at HPE
    simp only [hr]
    clear hr
    refine (show Calls _ _ _ _ _ from HBS.out _ _ _ _ _ HPE.out.mem).mono ?_
    rintro e w2 ⟨rfl, _, hc⟩
    have HR2 := Lib.hid (HPE.out.rs.chg hc (by have := HPE.out.n1; have := HPE.out.n2; unfold S2; omega))
    have HB2 : Hid (Below w.heap.size w w2) := Lib.hid (Chg.ext HPE.out.bel hc (fun k hk => by have := HPE.out.g1; have := HPE.out.g2; unfold S2 at hk; omega))
    clear hc HBS
    obtain ⟨r0, r1, r2, r3⟩ := HR2.out.cs
    simp only [Nat.zero_add] at r1 r2 r3
    have rf := HR2.out.gf
    go_wp2_with fail
    have HPU := Lib.hid (putT_same HR2.out.cs o)
    have HB3 := Lib.hid (Chg.ext HB2.out (putT_chg w2 r 0 o) (fun k hk => by subst hk; have := HPE.out.g3; exact this))
    obtain ⟨w9, hw9⟩ : ∃ x, putT w2 r 0 o = x := ⟨_, rfl⟩
    rw [hw9] at HPU HB3
    change ((((w2.setCell ⟨r, 0, none⟩ (.int .i64 (oc o))).setCell ⟨r, 1, none⟩ (.int .i64 (on o))).setCell ⟨r, 2, none⟩ (.string (ol o))).setCell ⟨r, 3, none⟩ (.string (oh o))) = w9 at hw9
    rw [hw9]
    obtain ⟨u0, u1, u2, u3⟩ := HPU.out
    clear hw9
    refine bodyPost_ret (v := OVv o) (by simp [results, Tryz.results186, go_sem, u0, u1, u2, u3]) rfl ?_
    exact ⟨rfl, HB3.out⟩
  · skip
    have HPE : Hid (PE w (((((w.alloc (.cells #[.int .i64 0, .int .i64 0, .string ⟨#[]⟩, .string ⟨#[]⟩] 210)).alloc (.cells (madeCells #[.bool false] N) 4)).alloc (.cells (madeCells Zq4 (N * 4)) 210)).alloc (.cells #[.int .i64 (L : Int), .int .i64 (P : Int), .slice (some ⟨w.heap.size + 1 + 1, 0, none⟩) N N, .slice (some ⟨w.heap.size + 1, 0, none⟩) N N] 256)).drew) (w.heap.size + 1 + 1 + 1) L P N (w.heap.size + 1 + 1) (w.heap.size + 1) w.heap.size) := Lib.hid (by
      have h := start2 (w.alloc (.cells #[.int .i64 0, .int .i64 0, .string ⟨#[]⟩, .string ⟨#[]⟩] 210)) L P N HN.out.symm 210 4 256
      rw [World.size_alloc] at h
      exact ⟨h, (O4.new w (some PV.zero) _).ext (ext_drew (ext_alloc (ext_alloc (ext_alloc1 _ _) _) _)), ext_drew (ext_alloc (ext_alloc (ext_alloc (ext_alloc1 _ _) _) _) _), by omega, by omega, Nat.le_refl _, by omega, by omega⟩)
    go_wp2_with fail
    clear hm4 hmb hNi hN0 hN2 HN
    obtain ⟨W, hW⟩ : ∃ y, ((((w.alloc (.cells #[.int .i64 0, .int .i64 0, .string ⟨#[]⟩, .string ⟨#[]⟩] 210)).alloc (.cells (madeCells #[.bool false] N) 4)).alloc (.cells (madeCells Zq4 (N * 4)) 210)).alloc (.cells #[.int .i64 (L : Int), .int .i64 (P : Int), .slice (some ⟨w.heap.size + 1 + 1, 0, none⟩) N N, .slice (some ⟨w.heap.size + 1, 0, none⟩) N N] 256)).drew = y := ⟨_, rfl⟩
    rw [hW] at HPE
    rw [hW]
    clear hW
    obtain ⟨r, hr⟩ : ∃ y, w.heap.size = y := ⟨_, rfl⟩
    have HR := Lib.hid hr
    rw [hr] at HPE
    simp only [hr]
    clear hr
    refine (show Calls _ _ _ _ _ from HBS.out _ _ _ _ _ HPE.out.mem).mono ?_
    rintro e w2 ⟨rfl, _, hc⟩
    have HR2 := Lib.hid (HPE.out.rs.chg hc (by have := HPE.out.n1; have := HPE.out.n2; unfold S2; omega))
    have HB2 : Hid (Below w.heap.size w w2) := Lib.hid (Chg.ext HPE.out.bel hc (fun k hk => by have := HPE.out.g1; have := HPE.out.g2; unfold S2 at hk; omega))
    clear hc HBS
    obtain ⟨r0, r1, r2, r3⟩ := HR2.out.cs
    simp only [Nat.zero_add] at r1 r2 r3
    have rf := HR2.out.gf
    go_wp2_with fail
    have HPU := Lib.hid (putT_same HR2.out.cs o)
    have HB3 := Lib.hid (Chg.ext HB2.out (putT_chg w2 r 0 o) (fun k hk => by subst hk; have := HPE.out.g3; exact this))
    obtain ⟨w9, hw9⟩ : ∃ x, putT w2 r 0 o = x := ⟨_, rfl⟩
    rw [hw9] at HPU HB3
    change ((((w2.setCell ⟨r, 0, none⟩ (.int .i64 (oc o))).setCell ⟨r, 1, none⟩ (.int .i64 (on o))).setCell ⟨r, 2, none⟩ (.string (ol o))).setCell ⟨r, 3, none⟩ (.string (oh o))) = w9 at hw9
    rw [hw9]
    obtain ⟨u0, u1, u2, u3⟩ := HPU.out
    clear hw9
    refine bodyPost_ret (v := OVv o) (by simp [results, Tryz.results186, go_sem, u0, u1, u2, u3]) rfl ?_
    exact ⟨rfl, HB3.out⟩
theorem spec_Lengths (L P : Int) (w : World) : Calls Tryz.prog 185 #[.int .i64 L, .int .i64 P] w (RetP (.bool (inB L 1 80 && inB P 1 4)) w) := by
  obtain ⟨x, hx⟩ : ∃ x, inB L 1 80 = x := ⟨_, rfl⟩
  obtain ⟨y, hy⟩ : ∃ y, inB P 1 4 = y := ⟨_, rfl⟩
  have HI := Lib.hid (fun w => RetP.bool (spec_in L 1 80 w) hx)
  have HJ := Lib.hid (fun w => RetP.bool (spec_in P 1 4 w) hy)
  rw [hx, hy]
  clear hx hy
  go_enter Tryz.func185, Tryz.ntmps185
  go_wp2_with fail
  refine (show Calls _ _ _ _ _ from HI.out _).mono ?_
  rintro e w1 ⟨rfl, rfl⟩
  cases x
  · go_wp2_with fail
    go_ret
    exact ⟨rfl, rfl⟩
  go_wp2_with fail
  refine (show Calls _ _ _ _ _ from HJ.out _).mono ?_
  rintro e w1 ⟨rfl, rfl⟩
  go_wp2_with fail
  go_ret
  exact ⟨rfl, rfl⟩
set_option maxHeartbeats 1600000 in
theorem spec_BestPair (L P : Int) (w : World) : Calls Tryz.prog 128 #[.int .i64 L, .int .i64 P] w (RetP3 (mPair L P) w) := by
  have HPC := Lib.hid (fun w => spec_Lengths L P w)
  cases hb : (inB L 1 80 && inB P 1 4) with
  | false =>
    have HM := Lib.hid (mPair_no hb)
    rw [hb] at HPC
    clear hb
    go_enter Tryz.func128, Tryz.ntmps128
    go_wp2_with fail
    refine (show Calls _ _ _ _ _ from HPC.out _).mono ?_
    rintro e w1 ⟨rfl, rfl⟩
    go_wp2_with fail
    refine bodyPost_ret (v := .tuple #[.string ⟨#[]⟩, .string ⟨#[]⟩, .int .i64 2]) (by simp [results, Tryz.results128, go_sem]) rfl ?_
    unfold RetP3
    rw [HM.out]
    exact ⟨rfl, ext_refl _⟩
  | true =>
    have HM := Lib.hid (mPair_ok hb)
    rw [hb] at HPC
    simp only [Bool.and_eq_true] at hb
    have hL := inB_iff.1 hb.1
    have hPP := inB_iff.1 hb.2
    obtain ⟨l, hl⟩ : ∃ l : Nat, L = l := ⟨L.toNat, by omega⟩
    obtain ⟨q, hq⟩ : ∃ q : Nat, P = q := ⟨P.toNat, by omega⟩
    subst hl hq
    rw [Int.toNat_natCast, Int.toNat_natCast, pair_sR (by omega) (by omega)] at HM
    clear hb
    have HS := Lib.hid (fun w => spec_Pair l q (by omega) (by omega) w)
    obtain ⟨o, ho⟩ : ∃ o, sR l q 0 0 = o := ⟨_, rfl⟩
    rw [ho] at HM HS
    clear ho
    go_enter Tryz.func128, Tryz.ntmps128
    go_wp2_with fail
    refine (show Calls _ _ _ _ _ from HPC.out _).mono ?_
    rintro e w1 ⟨rfl, rfl⟩
    go_wp2_with fail
    refine (show Calls _ _ _ _ _ from HS.out _).mono ?_
    rintro e w2 ⟨rfl, hb2⟩
    have HB2 := Lib.hid hb2
    clear hb2 HS
    cases o with
    | none =>
      dsimp only [oc, on, ol, oh]
      go_wp2_with fail
      refine bodyPost_ret (v := .tuple #[.string ⟨#[]⟩, .string ⟨#[]⟩, .int .i64 3]) (by simp [results, Tryz.results128, go_sem]) rfl ?_
      unfold RetP3
      rw [HM.out]
      exact ⟨rfl, ext_alloc HB2.out _⟩
    | some v =>
      dsimp only [oc, on, ol, oh]
      go_wp2_with fail
      go_region
      all_goals
        go_wp2_with fail
        refine bodyPost_ret (v := .tuple #[.string (bsq v.lo), .string (bsq v.hi), .int .i64 0]) (by simp [results, Tryz.results128, go_sem, ol, oh]) rfl ?_
        unfold RetP3
        rw [HM.out]
        exact ⟨rfl, ext_drew (ext_alloc HB2.out _)⟩
end Go.Proofs.YtfgopboddkhckaaGreatDoor
namespace Go.Proofs.YtfgopboddkhckaaGreatDoor
open Go.ChangeShapes Go.WideShapes Go.ChangeAt Go.RowKit Go.Sort Go.Joins
set_option linter.unusedVariables false
set_option maxRecDepth 100000
theorem baN {x : ByteArray} (h : x.size = 0) : x = ⟨#[]⟩ := by
  obtain ⟨d⟩ := x
  have : d.size = 0 := h
  have := Array.eq_empty_of_size_eq_zero this
  subst this; rfl
/-- A round of the reference's run. -/
structure RS10 (B0 : Nat) (w4 W : World) (q : Nat) (ls : List ByteArray) (k : Nat) (d : DK) (A : Option Addr) (c : Nat) (B : Option Addr) (e : Nat) (O : Option Addr) (co : Nat) (out : List ByteArray) (N T : Value) : Prop where
  run : runK ls k = (d, out)
  bx : SX W B0 q d A c B e O co out N T
  chg : Chg (fun k => k = q) w4 W
  og : ∀ j, BI (.slice O out.length co) j → w4.heap.size ≤ j
theorem RS10.ok {B0 : Nat} {w4 W : World} {q : Nat} {ls : List ByteArray} {k : Nat} {d : DK} {A : Option Addr} {c : Nat} {B : Option Addr} {e : Nat} {O : Option Addr} {co : Nat} {out : List ByteArray} {N T : Value} (h : RS10 B0 w4 W q ls k d A c B e O co out N T) : vDK d = true := by
  have := (run_ok ls k).1
  rwa [h.run] at this
theorem RS10.n {B0 : Nat} {w4 W : World} {q : Nat} {ls : List ByteArray} {k : Nat} {d : DK} {A : Option Addr} {c : Nat} {B : Option Addr} {e : Nat} {O : Option Addr} {co : Nat} {out : List ByteArray} {N T : Value} (h : RS10 B0 w4 W q ls k d A c B e O co out N T) : out.length ≤ 4001 * k := by
  have := (run_ok ls k).2.1
  rwa [h.run] at this
/-- What a step leaves, carried on. -/
theorem RS10.step {B0 : Nat} {w4 W W' : World} {q : Nat} {ls : List ByteArray} {k k' : Nat} {d : DK} {A : Option Addr} {c : Nat} {B : Option Addr} {e : Nat} {O : Option Addr} {co : Nat} {out : List ByteArray} {N T : Value} (h : RS10 B0 w4 W q ls k d A c B e O co out N T)
    {d' : DK} {out' : List ByteArray} {N' T' : Value} (hp : SP W B0 q O out.length co d' out' N' T' W') (hr : runK ls k' = (d', out')) : ∃ A' c' B' e' O' co', RS10 B0 w4 W' q ls k' d' A' c' B' e' O' co' out' N' T' := by
  obtain ⟨A', c', B', e', O', co', h1, h2, h3⟩ := hp
  have hs := h.chg.size
  exact ⟨A', c', B', e', O', co', hr, h1, h.chg.more h2 (fun j hj => hj.elim .inl fun hj => .inr (h.og j hj)), fun j hj => (h3 j hj).elim (h.og j) fun hj => by omega⟩
/-- The same without a round's number: what the end reads. -/
theorem RS10.fin {B0 : Nat} {w4 W W' : World} {q : Nat} {ls : List ByteArray} {k : Nat} {d : DK} {A : Option Addr} {c : Nat} {B : Option Addr} {e : Nat} {O : Option Addr} {co : Nat} {out : List ByteArray} {N T : Value} (h : RS10 B0 w4 W q ls k d A c B e O co out N T)
    {d' : DK} {out' : List ByteArray} {N' T' : Value} (hp : SP W B0 q O out.length co d' out' N' T' W') : Chg (fun k => k = q) w4 W' := by
  obtain ⟨A', c', B', e', O', co', h1, h2, h3⟩ := hp
  exact h.chg.more h2 (fun j hj => hj.elim .inl fun hj => .inr (h.og j hj))
set_option maxHeartbeats 6400000 in
theorem spec_RunDesk0 (t : ByteArray) (ht : t.size ≤ 1048576) (w : World) (hE : Env w) :
    Calls Tryz.prog 6 #[.string t] w (Ret (.string (mRun t)) w) := by
  obtain ⟨m, hm⟩ : ∃ m, (spb 10 t).length = m + 1 := ⟨(spb 10 t).length - 1, by have := spb_pos 10 t; omega⟩
  have HE := Lib.hid (fun W (h : Below w.heap.size w W) => hE.ext h)
  have HSP : Hid (∀ W, Calls Tryz.prog 24 #[.string t, .int .u8 10] W fun e w' => ∃ A cp, e = .returned (.slice A (m + 1) cp) ∧ OStr w' W.heap.size (.slice A (m + 1) cp) (spb 10 t) ∧ Below W.heap.size W w') := Lib.hid fun W => by
    have h := spec_Split t ht 10 10 rfl W
    rw [hm] at h
    exact h
  have HLS := Lib.hid (fun k (hk : k < (linesOf t).length) => Nat.le_trans (linesOf_sz hk) ht)
  have HL1 := Lib.hid (fun h => linesOf_last (t := t) hm h)
  have HL2 := Lib.hid (fun h => linesOf_all (t := t) hm h)
  have HMR : Hid (mRun t = lnA (outOf (linesOf t))) := Lib.hid rfl
  have HLE : Hid ((linesOf t).length ≤ 1048577) := Lib.hid (by have := linesOf_le t; omega)
  have HM := Lib.hid hm
  obtain ⟨ws, hws⟩ : ∃ x, spb 10 t = x := ⟨_, rfl⟩
  obtain ⟨ls, hls⟩ : ∃ x, linesOf t = x := ⟨_, rfl⟩
  obtain ⟨R, hR⟩ : ∃ x, mRun t = x := ⟨_, rfl⟩
  rw [hws] at HSP HL1 HL2 HM
  rw [hls] at HLS HL1 HL2 HMR HLE
  rw [hR] at HMR
  rw [hR]
  have hmz : m ≤ 1048576 := by have := spb_len 10 t; omega
  clear hws hls hR hE hm ht
  go_enter Tryz.func6, Tryz.ntmps6
  go_wp2_with fail
  refine (spec_l28New _).mono ?_
  rintro e' w2 ⟨v, rfl, ⟨A, c, B, e, rfl, hod⟩, hsm, hb2⟩
  obtain ⟨d0, hd0⟩ : ∃ d, newD = d := ⟨_, rfl⟩
  rw [hd0] at hod
  have HRUN : Hid (runK ls 0 = (d0, [])) := Lib.hid (by rw [← hd0]; rfl)
  simp only [hd0]
  have HOD := Lib.hid hod
  have HB2 := Lib.hid hb2
  clear hod hsm hb2 hd0
  go_wp2_with fail
  refine (show Calls _ _ _ _ _ from HSP.out _).mono ?_
  rintro e' w4 ⟨Aw, cw, rfl, hO, hb⟩
  have hs2 := HB2.out.size
  have HX0 := Lib.hid ((SX.new w w2 d0 A c B e HOD.out hs2).ext hb)
  obtain ⟨w3, hw3⟩ : ∃ y, w2.alloc (.cells #[.int .i64 d0.f.l, .int .i64 d0.f.w, .int .i64 d0.f.h, .int .i64 d0.f.j, .string d0.nm, .slice A d0.cs.length c, .slice B d0.wall.length e, .string d0.log, .slice none 0 0, .slice none 0 0, .slice none 0 0] 57) = y := ⟨_, rfl⟩
  have HB4 : Hid (Below w.heap.size w w4) := Lib.hid (ext_trans (ext_alloc HB2.out _) hb)
  have hs3 : w3.heap.size = w2.heap.size + 1 := by rw [← hw3]; simp
  rw [hw3] at hO hb
  have hs4 := hb.size
  obtain ⟨q, hq⟩ : ∃ y, w2.heap.size = y := ⟨_, rfl⟩
  rw [hq] at hs2 hs3 HX0
  simp only [hq]
  have HO := Lib.hid hO
  have HQ : Hid (w.heap.size ≤ q ∧ q < w4.heap.size) := Lib.hid (by omega)
  obtain ⟨ad, rfl, _, hc⟩ := HO.out.rd.at (k := m) (by rw [HM.out]; omega)
  have wl := hc m (by rw [HM.out]; omega)
  have hmc : m ≤ cw := by obtain ⟨A', c', hv, h1, _⟩ := HO.out.rd.open_; injection hv with _ _ e; subst e; have := HM.out; omega
  obtain ⟨x0, hx0⟩ : ∃ x, gd ws m = x := ⟨_, rfl⟩
  rw [hx0] at wl HL1 HL2
  have HR1 : Hid (∀ W, Chg (fun k => k = q) w4 W → RStr W (.slice (some ad) ls.length cw) ls) := Lib.hid (fun W hW => by
    have HO' := HO.out.chg hW (fun k hk (e : k = q) => by have := (HO.out.ge k hk).1; omega)
    by_cases hz : x0 = ⟨#[]⟩
    · rw [HL1.out hz]
      have h := HO'.rd.pre (m := m) (by rw [HM.out]; omega)
      rwa [show (ws.take m).length = m by rw [List.length_take, HM.out]; omega]
    · rw [HL2.out hz, HM.out]
      exact HO'.rd)
  clear hO hb hc HSP hx0 hs2 hs3 hs4 hw3 hq HOD HB2
  go_upto_if 17 with fail
  go_cut [4] from 17 to 22 (fun u wx => u = .slice (some ad) ls.length cw ∧ wx = w4)
  case first =>
    by_cases hz : x0 = ⟨#[]⟩
    · have HN : Hid (ls.length = m) := Lib.hid (by rw [HL1.out hz, List.length_take, HM.out]; omega)
      have hz2 : x0.toList.isEmpty = true := by rw [emptS, hz]; rfl
      clear hz
      rw [hz2]
      go_wp2_with fail
      go_meet
      exact ⟨by rw [HN.out], rfl⟩
    · have HN : Hid (ls.length = m + 1) := Lib.hid (by rw [HL2.out hz, HM.out])
      have hz2 : x0.toList.isEmpty = false := by rw [emptS, decide_eq_false (fun h => hz (baN h))]
      clear hz
      rw [hz2]
      go_wp2_with fail
      go_meet
      exact ⟨by rw [HN.out], rfl⟩
  case rest =>
  obtain ⟨rfl, rfl⟩ := hcut
  clear wl HL1 HL2 HO HM
  have HOO := Lib.hid (outOf_ok ls)
  obtain ⟨hon, hoz⟩ := HOO.out
  have HOZ := Lib.hid hoz
  have hon2 : (outOf ls).length ≤ 300000 := by omega
  clear hoz hon
  have HON := Lib.hid hon2
  clear hon2
  have HX1 : Hid (RS10 w.heap.size wc wc q ls 0 d0 A c B e none 0 [] (.slice none 0 0) (.slice none 0 0)) := Lib.hid ⟨HRUN.out, HX0.out, Chg.of_below (ext_refl _) _, fun j hj => by cases hj⟩
  clear HRUN HX0
  go_wp2_with fail
  go_loopw [5] (fun i wr => ∃ (k : Nat) (d : DK) (A2 : Option Addr) (c2 : Nat) (B2 : Option Addr) (e2 : Nat) (O : Option Addr) (co : Nat) (out : List ByteArray) (N T : Value), k ≤ ls.length ∧ k ≤ 60 ∧ i = .int .i64 k ∧ Hid (RS10 w.heap.size wc wr q ls k d A2 c2 B2 e2 O co out N T)) (fun i _ => ls.length - (intOf i).toNat)
  case atStart => exact ⟨0, d0, A, c, B, e, none, 0, [], _, _, Nat.zero_le _, Nat.zero_le _, rfl, HX1⟩
  case round =>
    clear HX1
    obtain ⟨k, d, A2, c2, B2, e2, O, co, out, N, T, hk, hk6, rfl, HX⟩ := hrel
    have e1 : (0 : Int) ≤ k := by omega
    have hosz : out.length ≤ 1000000 := by have := HX.out.n; have := Nat.mul_le_mul_left 4001 hk6; omega
    have HBW : Hid (Below w.heap.size w wr) := Lib.hid (Chg.ext HB4.out HX.out.chg (fun j hj => by have := HQ.out; omega))
    by_cases hlt : k < ls.length
    · have e2' : (k : Int) < ls.length := by omega
      obtain ⟨ad2, hA, _, hcl⟩ := (HR1.out _ HX.out.chg).at hlt
      obtain rfl : ad = ad2 := Option.some.inj hA
      have wl := hcl k hlt
      clear hA hcl
      by_cases h60 : k = 60
      · have HOF : Hid (outOf ls = out ++ [erT 5]) := Lib.hid (outOf_full (by omega) (by have := HX.out.run; rw [h60] at this; exact this))
        have e6 : (60 : Int) ≤ (k : Int) := by omega
        have HREP := Lib.hid (spec_report1 wr w.heap.size q d A2 c2 B2 e2 O co out N T HX.out.bx 5 (by omega) (by omega) (by omega) (by omega))
        clear h60
        go_wp2_with fail
        refine (show Calls _ _ _ _ _ from HREP.out).mono ?_
        rintro e' w5 ⟨rfl, hp⟩
        have HC5 := Lib.hid (HX.out.fin hp)
        obtain ⟨A5, c5, B5, e5, O5, co5, h5, _, _⟩ := hp
        rw [← HOF.out] at h5
        have k8 := h5.k8
        have HLN := Lib.hid (spec_Lines O5 co5 (outOf ls) w5 h5.own.rd HON.out HOZ.out)
        have HB5 : Hid (Below w.heap.size w w5) := Lib.hid (Chg.ext HB4.out HC5.out (fun j hj => by have := HQ.out; omega))
        clear h5 wl HREP
        go_wp2_with fail
        refine (show Calls _ _ _ _ _ from HLN.out).mono ?_
        rintro e' w8 ⟨rfl, hb8⟩
        go_wp2_with fail
        go_ret
        exact ⟨by rw [HMR.out]; rfl, ext_trans HB5.out hb8⟩
      · have e6 : ¬ (60 : Int) ≤ (k : Int) := by omega
        obtain ⟨line, hline⟩ : ∃ x, gd ls k = x := ⟨_, rfl⟩
        rw [hline] at wl
        have HLN := Lib.hid hline
        have HCALL := Lib.hid (spec_do w wr HBW.out (HE.out w (ext_refl _)) w.heap.size q HQ.out.1 d A2 c2 B2 e2 O co out N T HX.out.bx line (by rw [← hline]; exact HLS.out k hlt) (by omega) HX.out.ok (fun a b w => spec_BestPair a b w))
        clear hline
        cases hm : mDo d line with
        | none =>
          have HNX : Hid (runK ls (k + 1) = (d, out ++ [quest])) := Lib.hid (runK_none HX.out.run (by rw [HLN.out]; exact hm))
          rw [hm] at HCALL
          clear hm
          go_wp2_with fail
          refine (show Calls _ _ _ _ _ from HCALL.out).mono ?_
          rintro e' w6 ⟨N6, T6, rfl, hp⟩
          rw [show out ++ oS none = out from List.append_nil out] at hp
          obtain ⟨A6, c6, B6, e6', O6, co6, h6⟩ := HX.out.step (k' := k) (d' := d) hp HX.out.run
          have HSY := Lib.hid (spec_say w6 w.heap.size q d A6 c6 B6 e6' O6 co6 out N6 T6 h6.bx ⟨#[63]⟩ (by omega))
          have HX6 := Lib.hid h6
          rw [show (none : Option (DK × List ByteArray)).isSome = false from rfl]
          clear hp h6 HCALL wl
          go_wp2_with fail
          refine (show Calls _ _ _ _ _ from HSY.out).mono ?_
          rintro e' w7 ⟨rfl, hp⟩
          obtain ⟨A7, c7, B7, e7, O7, co7, h7⟩ := HX6.out.step (k' := k + 1) hp HNX.out
          have HX7 := Lib.hid h7
          clear hp h7 HSY
          go_wp2_with fail
          go_roundw
          case rel => exact ⟨k + 1, _, A7, c7, B7, e7, O7, co7, _, N6, T6, hlt, by omega, by go_num, HX7⟩
          case measure => simp [intOf]; omega
        | some p =>
          have HNX : Hid (runK ls (k + 1) = (p.1, out ++ p.2)) := Lib.hid (runK_some HX.out.run (by rw [HLN.out]; exact hm))
          rw [hm] at HCALL
          clear hm
          go_wp2_with fail
          refine (show Calls _ _ _ _ _ from HCALL.out).mono ?_
          rintro e' w6 ⟨N6, T6, rfl, hp⟩
          obtain ⟨A7, c7, B7, e7, O7, co7, h7⟩ := HX.out.step hp HNX.out
          have HX7 := Lib.hid h7
          clear hp h7 HCALL wl
          go_wp2_with fail
          go_roundw
          case rel => exact ⟨k + 1, _, A7, c7, B7, e7, O7, co7, _, N6, T6, hlt, by omega, by go_num, HX7⟩
          case measure => simp [intOf]; omega
    · have e2' : ¬ (k : Int) < ls.length := by omega
      have HOF : Hid (outOf ls = out) := Lib.hid (by
        have : k = ls.length := by omega
        subst this
        exact outOf_all hk6 HX.out.run)
      have HB5 := Lib.hid HX.out.bx
      rw [← HOF.out] at HB5
      have k8 := HB5.out.k8
      have HLN := Lib.hid (spec_Lines O co (outOf ls) wr HB5.out.own.rd HON.out HOZ.out)
      go_wp2_with fail
      refine (show Calls _ _ _ _ _ from HLN.out).mono ?_
      rintro e' w8 ⟨rfl, hb8⟩
      go_wp2_with fail
      go_ret
      exact ⟨by rw [HMR.out]; rfl, ext_trans HBW.out hb8⟩
end Go.Proofs.YtfgopboddkhckaaGreatDoor
