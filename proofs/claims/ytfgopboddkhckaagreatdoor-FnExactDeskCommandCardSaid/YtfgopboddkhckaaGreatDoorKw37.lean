/-
  Parts of the proof: Dc1, Ex14, Dc2, DkL, DkO, DoorV.
-/
import Derived.Test.YtfgopboddkhckaaGreatDoorKw36
namespace Go.Proofs.YtfgopboddkhckaaGreatDoor
open Go.ChangeShapes Go.WideShapes Go.ChangeAt Go.RowKit Go.Sort Go.Joins
set_option linter.unusedVariables false
set_option maxRecDepth 100000
set_option maxHeartbeats 6400000 in
theorem impl_DeskCommand0 (hX : ExecC) (v : Value) (d : DK) (line : ByteArray) (w : World) (ha : RDK w v d) (hsm : SmDK d) (hs : line.size ≤ 1048576) (hE : EnvK w) :
   Calls Tryz.prog 11 #[v, .string line] w (RetD (mDesk d line) w) := by
 obtain ⟨A, cA, B, e, rfl, hcs, hwl⟩ := ha
 have HA1 := Lib.hid hcs
 have HA2 := Lib.hid hwl
 have HE := Lib.hid (fun W (h : Below w.heap.size w W) => hE.ext h)
 have HSP := Lib.hid (fun W hE => impl_Split line hs 32 W hE)
 have HSZ := Lib.hid (fun (k : Nat) (hk : k < (spb 32 line).length) => Nat.le_trans (spb_sz hk) hs)
 have HPOS := Lib.hid (spb_pos 32 line)
 have HVD := Lib.hid (fun W v ha hE => impl_ValidDesk v d W ha hsm hE)
 have HN1 := Lib.hid (fun h => mDesk_no (d := d) (line := line) h)
 have HN2 := Lib.hid (fun h h2 => mDesk_none (d := d) (line := line) h h2)
 have HY := Lib.hid (fun p h h2 => mDesk_some (d := d) (line := line) (p := p) h h2)
 have HD1 := Lib.hid (fun h => mDo_none (d := d) (line := line) h)
 have HD2 := Lib.hid (fun c h h2 => mDo_len (d := d) (line := line) (c := c) h h2)
 have HD3 := Lib.hid (fun c h h2 => mDo_some (d := d) (line := line) (c := c) h h2)
 have HSM := Lib.hid hsm
 obtain ⟨ws, hws⟩ : ∃ x, spb 32 line = x := ⟨_, rfl⟩
 obtain ⟨M, hM⟩ : ∃ x, mDesk d line = x := ⟨_, rfl⟩
 obtain ⟨D, hDD⟩ : ∃ x, mDo d line = x := ⟨_, rfl⟩
 rw [hws] at HSP HSZ HPOS HD1 HD2 HD3
 rw [hDD] at HN2 HY HD1 HD2 HD3
 rw [hM] at HN1 HN2 HY
 rw [hM]
 clear hws hM hDD hcs hwl hE hs hsm
 have HC0 : Hid (DC w ((w.alloc (.cells #[.int .i64 d.f.l, .int .i64 d.f.w, .int .i64 d.f.h, .int .i64 d.f.j, .string d.nm, .slice A d.cs.length cA, .slice B d.wall.length e, .string d.log] 38)).alloc (.cells #[.int .i64 0, .int .i64 0, .int .i64 0, .int .i64 0, .string ⟨#[]⟩, .slice none 0 0, .slice none 0 0, .string ⟨#[]⟩] 38)) w.heap.size (w.heap.size + 1) d A cA B e) := Lib.hid
   ⟨ext_alloc (ext_alloc1 _ _) _, (PDK.new w d A cA B e _).ext (ext_alloc1 _ _), by simp [go_sem], by simp [go_sem], by simp [go_sem], by simp [go_sem], by simp [go_sem], by simp [go_sem], by simp [go_sem], by simp [go_sem], fun j => by simp [go_sem], Nat.le_refl _, by omega⟩
 go_enter Tryz.func11, Tryz.ntmps11
 go_wp2_with fail
 refine (show Calls _ _ _ _ _ from HSP.out _ (HE.out _ HC0.out.b).env).mono ?_
 rintro e' w1 ⟨Aw, cw, rfl, hO, hb⟩
 have HC := Lib.hid (HC0.out.ext hb)
 have HO := Lib.hid hO
 clear hb hO HC0
 generalize w.heap.size + 1 = r at *
 obtain ⟨ad, rfl, hadlt, hc⟩ := HO.out.rd.at (k := 0) (by have := HPOS.out; omega)
 have w0 := hc 0 (by have := HPOS.out; omega)
 rw [Addr.add_zero'] at w0
 obtain ⟨x0, hx0⟩ : ∃ x, gd ws 0 = x := ⟨_, rfl⟩
 have HX0 := Lib.hid hx0
 rw [hx0] at w0 HD1 HD2 HD3
 have HSH := Lib.hid (fun w => impl_deskShape x0 w)
 clear hx0 hc HSP
 have i0 : (0 : Int) < ws.length := by have := HPOS.out; omega
 obtain ⟨k0, k1, k2, k3, k4, k5, k6, k7⟩ := HC.out.bx
 obtain ⟨vb, hvb⟩ : ∃ x, vDK d = x := ⟨_, rfl⟩
 have HVB := Lib.hid hvb
 rw [hvb] at HVD HN1 HN2 HY
 clear hvb
 obtain ⟨sh, hsh⟩ : ∃ x, shW x0 = x := ⟨_, rfl⟩
 have HSW := Lib.hid hsh
 rw [hsh] at HSH
 clear hsh
 go_wp2_with fail
 refine (show Calls _ _ _ _ _ from HSH.out _).mono ?_
 rintro e' w2 ⟨rfl, rfl⟩
 go_wp2_with fail
 refine (show Calls _ _ _ _ _ from HVD.out _ _ ⟨A, cA, B, e, rfl, HA1.out.ext HC.out.b, HA2.out.ext HC.out.b⟩ (HE.out _ HC.out.b).env).mono ?_
 rintro e' w2 ⟨rfl, hb⟩
 have HC2 := Lib.hid (HC.out.ext hb)
 have HO2 := Lib.hid (HO.out.ext hb)
 replace w0 := cell_keep w0 hb
 clear hb k0 k1 k2 k3 k4 k5 k6 k7 HVD HSH
 cases vb with
 | false =>
   have HR := Lib.hid (HC2.out.put (.int .i64 0) (.int .i64 0) (.int .i64 0) (.int .i64 0) (.string ⟨#[]⟩) (.slice none 0 0) (.slice none 0 0) (.string ⟨#[]⟩))
   obtain ⟨_, _, z0, z1, z2, z3, z4, z5, z6, z7, zf, _, _⟩ := HC2.out
   obtain ⟨W2, hW2⟩ : ∃ x, P8 w2 r (.int .i64 0) (.int .i64 0) (.int .i64 0) (.int .i64 0) (.string ⟨#[]⟩) (.slice none 0 0) (.slice none 0 0) (.string ⟨#[]⟩) = x := ⟨_, rfl⟩
   rw [hW2] at HR
   unfold P8 at hW2
   go_wp2_with fail
   clear z0 z1 z2 z3 z4 z5 z6 z7 zf hW2
   obtain ⟨_, _, r0, r1, r2, r3, r4, r5, r6, r7⟩ := HR.out
   refine bodyPost_ret (v := .tuple #[.agg #[.int .i64 0, .int .i64 0, .int .i64 0, .int .i64 0, .string ⟨#[]⟩, .slice none 0 0, .slice none 0 0, .string ⟨#[]⟩], .slice none 0 0, .int .i64 1]) (by simp [results, Tryz.results11, go_sem, r0, r1, r2, r3, r4, r5, r6, r7]) rfl (DR.nil HC2.out (HN1.out (by trivial)) HR.out.c)
 | true =>
 go_upto_region 5 with fail
 go_cut [27] from 28 to 41 (fun u wx => u = .bool D.isNone ∧ Hid (Below w2.heap.size w2 wx))
 case first =>
   have i0n : 0 < ws.length := HPOS.out
   have HDW := Lib.hid (fun w => impl_DW w)
   have w0a := fun o => cell_keep w0 (ext_alloc1 w2 o)
   have w0d := cell_keep w0 (ext_drew (w := w2) (ext_refl _))
   have w0e := cell_keep w0d (ext_alloc1 w2.drew (.cells dwC 9))
   have w0f := cell_keep w0 (ext_drew (ext_alloc1 w2 (.cells dwC 9)))
   have adl : ad.block < w2.heap.size := block_lt_of_cell w0
   have adn : ad.block ≠ w2.heap.size := by omega
   have adm := adn.symm
   have ads : ¬ w2.heap.size ≤ ad.block := by omega
   obtain ⟨bh, hbh⟩ : ∃ b, (cmOf x0).isSome = b := ⟨_, rfl⟩
   have HH : Hid (Calls Tryz.prog 39 #[.slice (some ⟨w2.heap.size, 0, none⟩) 11 11, .string x0] (w2.alloc (.cells dwC 9)).drew (fun e w' => e = .returned (.bool bh) ∧ w' = (w2.alloc (.cells dwC 9)).drew)) := Lib.hid (by have h := impl_has w2 x0; rw [hbh] at h; exact h)
   cases hcm : cmOf x0 with
   | none =>
     have hD := HD1.out hcm
     rw [hcm] at hbh
     change false = bh at hbh
     subst hD hbh
     clear hcm HA1 HA2 HE HSM HPOS HSZ HC HO HX0 HSW HC2 HO2 HN1 HVB HD3 HD2 HD1 HY HN2
     first
       | go_region_law (first
         | (go_simp; go_at_call 40; refine (show Calls _ _ _ _ _ from HDW.out _).mono ?_; rintro e' w3 ⟨rfl, rfl⟩; dsimp only)
         | (go_simp; go_at_call 39; refine (show Calls _ _ _ _ _ from HH.out).mono ?_; rintro e' w3 ⟨rfl, rfl⟩; dsimp only))
       | fail
     all_goals
       go_wp2_with fail
       go_meet
       exact ⟨rfl, Lib.hid (ext_drew (ext_alloc1 _ _))⟩
   | some c =>
     have hsw := shW_some hcm
     rw [HSW.out] at hsw
     obtain ⟨hz1, hz2⟩ := shW_size c
     rw [← hsw] at hz1
     rw [hcm] at hbh
     change true = bh at hbh
     have e5 : IntKind.i64.wrap ((sh.size:Int) + 1) = (sh.size:Int) + 1 := IntWalk.i64_in _ (by omega)
     obtain ⟨g, hg⟩ : ∃ g, ((ws.length : Int) != (sh.size : Int) + 1) = g := ⟨_, rfl⟩
     have hDN : Hid (Value.bool g = .bool D.isNone) := Lib.hid (by
       by_cases hl : ws.length = (cmF c).length + 1
       · rw [HD3.out c hcm hl, ← hg, hz1, hl]; simp
       · rw [HD2.out c hcm hl, ← hg, hz1]
         have : ((ws.length : Int) != (((cmF c).length : Nat) : Int) + 1) = true := by simp; omega
         rw [this]; rfl)
     subst hbh
     clear hcm hsw hz1 hz2 HA1 HA2 HE HSM HPOS HSZ HC HO HX0 HSW HC2 HO2 HN1 HVB HD3 HD2 HD1 HY HN2
     first
       | go_region_held3 (fun w' => w'.cell? ad = some (.string x0)) (first | exact w0 | exact w0d | exact w0e | exact w0f) (first
         | (go_at_call 40; refine (show Calls _ _ _ _ _ from HDW.out _).mono ?_; rintro e' w3 ⟨rfl, rfl⟩; dsimp only)
         | (go_at_call 39; refine (show Calls _ _ _ _ _ from HH.out).mono ?_; rintro e' w3 ⟨rfl, rfl⟩; dsimp only))
       | fail
     all_goals
       go_wp2_with fail
       go_meet
       exact ⟨hDN.out, Lib.hid (ext_drew (ext_alloc1 _ _))⟩
 case rest =>
   obtain ⟨rfl, hb⟩ := hcut
   have HC3 := Lib.hid (HC2.out.ext hb)
   have HO3 := Lib.hid (HO2.out.ext hb)
   clear hb w0
   cases D with
   | none =>
     have HR := Lib.hid (HC3.out.put (.int .i64 0) (.int .i64 0) (.int .i64 0) (.int .i64 0) (.string ⟨#[]⟩) (.slice none 0 0) (.slice none 0 0) (.string ⟨#[]⟩))
     obtain ⟨_, _, z0, z1, z2, z3, z4, z5, z6, z7, zf, _, _⟩ := HC3.out
     obtain ⟨W2, hW2⟩ : ∃ x, P8 wc r (.int .i64 0) (.int .i64 0) (.int .i64 0) (.int .i64 0) (.string ⟨#[]⟩) (.slice none 0 0) (.slice none 0 0) (.string ⟨#[]⟩) = x := ⟨_, rfl⟩
     rw [hW2] at HR
     unfold P8 at hW2
     go_wp2_with fail
     clear z0 z1 z2 z3 z4 z5 z6 z7 zf hW2
     obtain ⟨_, _, r0, r1, r2, r3, r4, r5, r6, r7⟩ := HR.out
     refine bodyPost_ret (v := .tuple #[.agg #[.int .i64 0, .int .i64 0, .int .i64 0, .int .i64 0, .string ⟨#[]⟩, .slice none 0 0, .slice none 0 0, .string ⟨#[]⟩], .slice none 0 0, .int .i64 7]) (by simp [results, Tryz.results11, go_sem, r0, r1, r2, r3, r4, r5, r6, r7]) rfl (DR.nil HC3.out (HN2.out (by trivial) (by trivial)) HR.out.c)
   | some pr =>
     have HM := Lib.hid (HY.out pr (by trivial) rfl)
     clear HN1 HN2 HY
     obtain ⟨c, hcm⟩ : ∃ c, cmOf x0 = some c := by
       cases hcm : cmOf x0 with
       | none => exact absurd (HD1.out hcm) (by simp)
       | some c => exact ⟨c, rfl⟩
     have hl : ws.length = (cmF c).length + 1 := by
       by_cases hl : ws.length = (cmF c).length + 1
       · exact hl
       · exact absurd (HD2.out c hcm hl) (by simp)
     have hgo : pr = mGo d c ws := Option.some.inj (HD3.out c hcm hl)
     have HGO := Lib.hid hgo
     have HCM := Lib.hid (cmOf_some hcm)
     have hsw := shW_some hcm
     rw [HSW.out] at hsw
     obtain ⟨hz1, hz2⟩ := shW_size c
     have HSB := Lib.hid (shW_byte c)
     rw [← hsw] at hz1 HSB
     have HLEN := Lib.hid hl
     obtain ⟨n, hn⟩ : ∃ x, (cmF c).length = x := ⟨_, rfl⟩
     have HN := Lib.hid hn
     rw [hn] at hz1 hz2 HSB
     have HWL : Hid (ws.length = n + 1) := Lib.hid (by rw [HLEN.out, hn])
     clear hcm hl hgo hsw HD1 HD2 HD3 HSW hn
     obtain ⟨k0, k1, k2, k3, k4, k5, k6, k7⟩ := HC3.out.bx
     replace k0 := fun o => cell_keep k0 (ext_alloc1 wc o)
     replace k1 := fun o => cell_keep k1 (ext_alloc1 wc o)
     replace k2 := fun o => cell_keep k2 (ext_alloc1 wc o)
     replace k3 := fun o => cell_keep k3 (ext_alloc1 wc o)
     replace k4 := fun o => cell_keep k4 (ext_alloc1 wc o)
     replace k5 := fun o => cell_keep k5 (ext_alloc1 wc o)
     replace k6 := fun o => cell_keep k6 (ext_alloc1 wc o)
     replace k7 := fun o => cell_keep k7 (ext_alloc1 wc o)
     have HCP := Lib.hid (fun W (h : RDK W (.agg #[.int .i64 d.f.l, .int .i64 d.f.w, .int .i64 d.f.h, .int .i64 d.f.j, .string d.nm, .slice A d.cs.length cA, .slice B d.wall.length e, .string d.log]) d) => impl_copyDesk _ d W h HSM.out)
     have HAD : Hid (ad.block < wc.heap.size) := Lib.hid (by obtain ⟨ad2, hA, h2, _⟩ := HO3.out.rd.at (k := 0) (by have := HWL.out; omega); obtain rfl : ad = ad2 := Option.some.inj hA; exact h2)
     go_wp2_with fail
     refine (show Calls _ _ _ _ _ from HCP.out _ ⟨A, cA, B, e, rfl, HA1.out.ext (ext_alloc HC3.out.b _), HA2.out.ext (ext_alloc HC3.out.b _)⟩).mono ?_
     rintro e' w4 ⟨v4, rfl, ⟨A4, c4, B4, e4, rfl, hod⟩, hb4⟩
     clear k0 k1 k2 k3 k4 k5 k6 k7 HCP
     have HB4 := Lib.hid (ext_trans (ext_alloc1 _ _) hb4)
     have h4s := hb4.size
     simp only [World.size_alloc] at h4s
     have HDB : Hid (DB (w4.alloc (.cells #[.int .i64 d.f.l, .int .i64 d.f.w, .int .i64 d.f.h, .int .i64 d.f.j, .string d.nm, .slice A4 d.cs.length c4, .slice B4 d.wall.length e4, .string d.log] 38)) (wc.heap.size + 1) w4.heap.size d A4 c4 B4 e4) := Lib.hid (by
       simp only [World.size_alloc] at hod
       exact ⟨PDK.new w4 d A4 c4 B4 e4 _, hod.ext (ext_alloc1 _ _), fun k hk e => by have := (hod.1.ge k hk).2; omega, fun k hk e => by have := (hod.2.1.ge k hk).2; omega, fun j => by simp [go_sem], h4s⟩)
     have HNUM : Hid (OI (w4.alloc (.cells #[.int .i64 d.f.l, .int .i64 d.f.w, .int .i64 d.f.h, .int .i64 d.f.j, .string d.nm, .slice A4 d.cs.length c4, .slice B4 d.wall.length e4, .string d.log] 38)) wc.heap.size (.slice (some ⟨wc.heap.size, 0, none⟩) 0 0) []) := Lib.hid (own_ext (own_ext (oi_lit wc wc.heap.size (Nat.le_refl _)) hb4) (ext_alloc1 _ _))
     have HBQ := Lib.hid (ext_trans HB4.out (ext_alloc1 w4 (.cells #[.int .i64 d.f.l, .int .i64 d.f.w, .int .i64 d.f.h, .int .i64 d.f.j, .string d.nm, .slice A4 d.cs.length c4, .slice B4 d.wall.length e4, .string d.log] 38)))
     clear hod hb4
     go_wp2_with fail
     obtain ⟨w5, hw5⟩ : ∃ x, w4.alloc (.cells #[.int .i64 d.f.l, .int .i64 d.f.w, .int .i64 d.f.h, .int .i64 d.f.j, .string d.nm, .slice A4 d.cs.length c4, .slice B4 d.wall.length e4, .string d.log] 38) = x := ⟨_, rfl⟩
     rw [hw5] at HDB HNUM HBQ
     rw [hw5]
     have h5s : w5.heap.size = w4.heap.size + 1 := by rw [← hw5]; simp
     clear hw5
     generalize w4.heap.size = q at *
     go_loopw [9, 48] (fun u i wr => ∃ (k g cq : Nat) (xs : List Int), k ≤ n ∧ i = .int .i64 k ∧ u = .slice (some ⟨g, 0, none⟩) xs.length cq ∧ Hid (xs = nmL c ws k) ∧ Hid (okN c ws k = true) ∧ Hid (OI wr wc.heap.size (.slice (some ⟨g, 0, none⟩) xs.length cq) xs) ∧ (g = wc.heap.size ∨ w5.heap.size ≤ g) ∧ Hid (Chg (fun j => j = wc.heap.size) w5 wr)) (fun _ i _ => n - (intOf i).toNat)
     case atStart => exact ⟨0, wc.heap.size, 0, [], Nat.zero_le _, rfl, rfl, Lib.hid rfl, Lib.hid rfl, HNUM, .inl rfl, Lib.hid (Chg.of_below (ext_refl _) _)⟩
     case round =>
       obtain ⟨k, g, cq, xs, hk, rfl, rfl, HXS, HOK, HOI, hgg, HCH⟩ := hrel
       have e1 : (0 : Int) ≤ k := by omega
       have HBW := Lib.hid (Chg.ext HBQ.out HCH.out (fun j hj => by subst hj; exact Nat.le_refl _))
       have hsz := HBW.out.size
       have hsz5 := HCH.out.size
       by_cases hlt : k < n
       · have hbk := HSB.out k hlt
         have e2 : (k : Int) < sh.size := by omega
         have hks : k < sh.size := by omega
         have hy := byt_eq sh k hks
         rw [hbk] at hy
         cases hg : gd (cmF c) k with
         | false =>
           rw [hg] at hy
           have hy2 : sh[k] ≠ 110 := fun e => by rw [e] at hy; exact absurd hy (by decide)
           have HXS2 : Hid (xs = nmL c ws (k + 1)) := Lib.hid (by unfold nmL; rw [hg]; exact HXS.out)
           have HOK2 : Hid (okN c ws (k + 1) = true) := Lib.hid (by rw [okN_succ, HOK.out, hg]; rfl)
           clear hg hbk
           go_wp2_with fail
           go_roundw
           case rel => exact ⟨k + 1, g, cq, xs, by omega, by go_num, rfl, HXS2, HOK2, HOI, hgg, HCH⟩
           case measure => simp [intOf]; omega
         | true =>
           rw [hg] at hy
           have hy2 : sh[k] = 110 := by
             have : sh[k].toNat = 110 := by have : (sh[k].toNat : Int) = 110 := hy; omega
             exact UInt8.toNat_inj.1 this
           obtain ⟨ad2, hA, _, hd⟩ := (HO3.out.ext HBW.out).rd.at (k := k + 1) (by have := HWL.out; omega)
           obtain rfl : ad = ad2 := Option.some.inj hA
           have hw := hd (k + 1) (by have := HWL.out; omega)
           rw [addr_succ] at hw
           have e3 : (0 : Int) ≤ (k : Int) + 1 := by omega
           have e14 : (k : Int) + 1 < ws.length := by have := HWL.out; omega
           have HRD := Lib.hid (fun W (h : Below w.heap.size w W) => impl_ReadDecimal (gd ws (k + 1)) (HSZ.out (k + 1) (by have := HWL.out; omega)) W (HE.out _ h).env)
           have HXS2 : Hid (xs ++ [rdv (gd ws (k + 1))] = nmL c ws (k + 1)) := Lib.hid (by rw [nmL_yes hg, ← HXS.out]; rfl)
           have HOK2 : Hid (okN c ws (k + 1) = rdb (gd ws (k + 1))) := Lib.hid (by rw [okN_succ, HOK.out, hg]; simp)
           have HNO : Hid (rdb (gd ws (k + 1)) = false → okN c ws n = false) := Lib.hid (fun h => okN_no hlt (by rw [hg, h]; rfl))
           obtain ⟨wd, hwd⟩ : ∃ x, gd ws (k + 1) = x := ⟨_, rfl⟩
           rw [hwd] at hw HRD HXS2 HOK2 HNO
           clear hg hbk hd hA hwd
           go_wp2_with fail
           refine (show Calls _ _ _ _ _ from HRD.out _ (ext_trans HC3.out.b HBW.out)).mono ?_
           rintro e' w6 ⟨rfl, hb6⟩
           obtain ⟨rv, hrv⟩ : ∃ x, rdv wd = x := ⟨_, rfl⟩
           obtain ⟨rb, hrb⟩ : ∃ x, rdb wd = x := ⟨_, rfl⟩
           rw [hrv] at HXS2
           rw [hrb] at HOK2 HNO
           rw [hrv, hrb]
           have HOI6 := Lib.hid (HOI.out.ext hb6)
           have HBW6 := Lib.hid (ext_trans HBW.out hb6)
           have HCH6 := Lib.hid (HCH.out.trans (Chg.of_below hb6 _))
           clear hrv hrb hb6 hw
           have hsz6 := HBW6.out.size
           have hsz56 := HCH6.out.size
           cases rb with
           | true =>
             have hxl := nmL_len c ws k
             rw [← HXS.out] at hxl
             go_wp2_with (at_builtin; refine wpList_append_i3 rfl _ _ rfl wc.heap.size (.slice (some ⟨g, 0, none⟩) xs.length cq) xs rv rfl rfl HOI6.out (by omega) hsz6 ?_; intro g2 cap w7 hO7 hg7 hlt7 hat7)
             go_roundw
             case rel =>
               refine ⟨k + 1, g2, cap, xs ++ [rv], by omega, by go_num, by rw [List.length_append]; rfl, HXS2, HOK2, Lib.hid (by rw [List.length_append]; exact hO7), ?_, Lib.hid (HCH6.out.more2 hg7 (fun j hj => by obtain rfl : g = j := Option.some.inj hj; exact hgg))⟩
               rcases hat7 with h | h
               · obtain rfl : g = g2 := Option.some.inj h
                 exact hgg
               · exact .inr (by omega)
             case measure => simp [intOf]; omega
           | false =>
             have HM2 : Hid (M = (d, [erT 7], 0)) := Lib.hid (by rw [HM.out, HGO.out, mGo_no (by rw [HN.out]; exact HNO.out rfl)])
             have HCN := Lib.hid (fun W (h : Below w.heap.size w W) => impl_CodeName 7 (by decide) (by decide) W (HE.out W h).cod)
             have HD6 := Lib.hid (HDB.out.chg HCH6.out (fun e => by omega) (fun k hk e => by have := (HDB.out.own.1.ge k hk).1; omega) (fun k hk e => by have := (HDB.out.own.2.1.ge k hk).1; omega))
             have HC6 := Lib.hid ((HC3.out.ext HBQ.out).chg HCH6.out (fun k hk => by subst hk; exact HC3.out.lt))
             have hcz := cnT_size 7
             have c1 : ¬ 9223372036854775807 < 6 + (cnT 7).size := by omega
             obtain ⟨k0, k1, k2, k3, k4, k5, k6, k7⟩ := HD6.out.cells
             clear hcz
             have HER : Hid (erT 7 = ⟨#[101, 114, 114, 111, 114, 32]⟩ ++ cnT 7) := Lib.hid rfl
             obtain ⟨ct, hct⟩ : ∃ x, cnT 7 = x := ⟨_, rfl⟩
             rw [hct] at HCN c1 HER
             clear hct
             go_wp2_with fail
             go_region_law (go_simp; refine (show Calls _ _ _ _ _ from HCN.out _ (ext_drew HC6.out.b)).mono ?_; rintro e' w7 ⟨rfl, hb7⟩; (have HB7 := Lib.hid (ext_trans (ext_drew (ext_refl _)) hb7)); (have HC7 := Lib.hid (HC6.out.ext HB7.out)); (have HD7 := Lib.hid (HD6.out.ext HB7.out)); (have hr7 : r ≠ w7.heap.size := by have := HC7.out.lt; omega); (have hr8 := hr7.symm); (have hr1 : r < w7.heap.size := HC7.out.lt); (have hq1 : q < w7.heap.size := HD7.out.lt); (have hq2 : q ≠ w7.heap.size := by omega); (have hq3 := hq2.symm); (have l0 := HD7.out.cells.k0); (have l1 := HD7.out.cells.k1); (have l2 := HD7.out.cells.k2); (have l3 := HD7.out.cells.k3); (have l4 := HD7.out.cells.k4); (have l5 := HD7.out.cells.k5); (have l6 := HD7.out.cells.k6); (have l7 := HD7.out.cells.k7); (have z0 := HC7.out.z0); (have z1 := HC7.out.z1); (have z2 := HC7.out.z2); (have z3 := HC7.out.z3); (have z4 := HC7.out.z4); (have z5 := HC7.out.z5); (have z6 := HC7.out.z6); (have z7 := HC7.out.z7); (have zf := HC7.out.fz); (have HR := Lib.hid (HC7.out.put (.int .i64 d.f.l) (.int .i64 d.f.w) (.int .i64 d.f.h) (.int .i64 d.f.j) (.string d.nm) (.slice A4 d.cs.length c4) (.slice B4 d.wall.length e4) (.string d.log))); (obtain ⟨W2, hW2⟩ : ∃ x, P8 w7 r (.int .i64 d.f.l) (.int .i64 d.f.w) (.int .i64 d.f.h) (.int .i64 d.f.j) (.string d.nm) (.slice A4 d.cs.length c4) (.slice B4 d.wall.length e4) (.string d.log) = x := ⟨_, rfl⟩); (rw [hW2] at HR); (unfold P8 at hW2); clear hb7; dsimp only)
             all_goals
               go_wp2_with fail
               clear z0 z1 z2 z3 z4 z5 z6 z7 zf hW2 l0 l1 l2 l3 l4 l5 l6 l7
               obtain ⟨_, _, r0, r1, r2, r3, r4, r5, r6, r7⟩ := HR.out
               have hrl := HC3.out.lt
               have hwl2 := HC3.out.b.size
               have hos := ostr_one W2 w.heap.size (erT 7) (by rw [HR.out.s]; exact HC7.out.b.size)
               rw [HR.out.s, HER.out] at hos
               have q0 := cell_keep r0 (ext_alloc1 W2 (.cells #[.string (⟨#[101, 114, 114, 111, 114, 32]⟩ ++ ct)] 9))
               have q1 := cell_keep r1 (ext_alloc1 W2 (.cells #[.string (⟨#[101, 114, 114, 111, 114, 32]⟩ ++ ct)] 9))
               have q2 := cell_keep r2 (ext_alloc1 W2 (.cells #[.string (⟨#[101, 114, 114, 111, 114, 32]⟩ ++ ct)] 9))
               have q3 := cell_keep r3 (ext_alloc1 W2 (.cells #[.string (⟨#[101, 114, 114, 111, 114, 32]⟩ ++ ct)] 9))
               have q4 := cell_keep r4 (ext_alloc1 W2 (.cells #[.string (⟨#[101, 114, 114, 111, 114, 32]⟩ ++ ct)] 9))
               have q5 := cell_keep r5 (ext_alloc1 W2 (.cells #[.string (⟨#[101, 114, 114, 111, 114, 32]⟩ ++ ct)] 9))
               have q6 := cell_keep r6 (ext_alloc1 W2 (.cells #[.string (⟨#[101, 114, 114, 111, 114, 32]⟩ ++ ct)] 9))
               have q7 := cell_keep r7 (ext_alloc1 W2 (.cells #[.string (⟨#[101, 114, 114, 111, 114, 32]⟩ ++ ct)] 9))
               refine bodyPost_ret (v := .tuple #[.agg #[.int .i64 d.f.l, .int .i64 d.f.w, .int .i64 d.f.h, .int .i64 d.f.j, .string d.nm, .slice A4 d.cs.length c4, .slice B4 d.wall.length e4, .string d.log], .slice (some ⟨w7.heap.size, 0, none⟩) 1 1, .int .i64 0]) (by simp [results, Tryz.results11, go_sem, q0, q1, q2, q3, q4, q5, q6, q7]) rfl (DR.ret2 HC7.out (by rw [HM2.out, HER.out]) HR.out.c (ext_alloc1 W2 _) (HD7.out.own.mono (by omega)) hos (fun k hk e => by have := (HD7.out.own.1.ge k hk).1; omega) (fun k hk e => by have := (HD7.out.own.2.1.ge k hk).1; omega) (fun k hk => ?_))
               obtain rfl : w7.heap.size = k := Option.some.inj hk
               exact ⟨fun h => by have := (HD7.out.own.1.ge _ h).2; omega, fun h => by have := (HD7.out.own.2.1.ge _ h).2; omega⟩
       · obtain rfl : k = n := by omega
         have HC5 := Lib.hid ((HC3.out.ext HBQ.out).chg HCH.out (fun k hk => by subst hk; exact HC3.out.lt))
         have HD5 := Lib.hid ((HDB.out.chg HCH.out (fun e => by omega) (fun k hk e => by have := (HDB.out.own.1.ge k hk).1; omega) (fun k hk e => by have := (HDB.out.own.2.1.ge k hk).1; omega)).mono (Nat.le_succ _))
         have HOKn : Hid (okN c ws (cmF c).length = true) := Lib.hid (by rw [HN.out]; exact HOK.out)
         have HER := Lib.hid (@mGo_er d c ws HOKn.out)
         have HYE := Lib.hid (@mGo_ok d c ws HOKn.out)
         have HCC := Lib.hid (exec_code d c ws)
         have HEX := Lib.hid (hX c wc wr q d A4 c4 B4 e4 HD5.out HBW.out (some ad) cw ws (HO3.out.ext HBW.out).rd HLEN.out (by rw [HX0.out, HCM.out]) (fun ad2 h e => by
           obtain rfl : ad = ad2 := Option.some.inj h
           have := HC3.out.b
           have h2 := HAD.out
           omega) HSZ.out (some ⟨g, 0, none⟩) cq xs HOI.out.rd (by rw [HN.out]; exact HXS.out) (HE.out wc HC3.out.b).env (HE.out wc HC3.out.b).lib HVB.out)
         obtain ⟨R, hR⟩ : ∃ x, mExec d c ws = x := ⟨_, rfl⟩
         rw [hR] at HER HYE HCC HEX
         clear hR
         obtain ⟨d8, ls8, x8⟩ := R
         replace HEX : Hid (Calls Tryz.prog 44 #[.pointer (some ⟨q, 0, none⟩), .slice (some ad) ws.length cw, .slice (some ⟨g, 0, none⟩) xs.length cq] wr (fun e W' => ∃ u, e = .returned (.tuple #[u, .int .i64 x8]) ∧ Chg (fun k => k = q) wr W' ∧ (x8 = 0 → ∃ A c B e', DB W' wc.heap.size q d8 A c B e' ∧ OStr W' wc.heap.size u ls8 ∧ ∀ k, BI u k → k ≠ q ∧ ¬ BI (.slice A d8.cs.length c) k ∧ ¬ BI (.slice B d8.wall.length e') k))) := HEX
         go_wp2_with fail
         refine (show Calls _ _ _ _ _ from HEX.out).mono ?_
         rintro e' w7 ⟨u, rfl, hch, hok⟩
         have HCH7 := Lib.hid hch
         have HOK7 := Lib.hid hok
         clear hch hok HEX
         have HC7 := Lib.hid (HC5.out.chg HCH7.out (fun k hk => by subst hk; have := HC3.out.lt; omega))
         by_cases hx : x8 = 0
         · subst hx
           have HM2 : Hid (M = (d8, ls8, 0)) := Lib.hid (by rw [HM.out, HGO.out, HYE.out rfl])
           obtain ⟨A8, c8, B8, e8, hD8, hO8, hap⟩ := HOK7.out rfl
           have HD8 := Lib.hid hD8
           have HO8 := Lib.hid hO8
           have HAP := Lib.hid hap
           clear hD8 hO8 hap HOK7
           have HR := Lib.hid (HC7.out.put (.int .i64 d8.f.l) (.int .i64 d8.f.w) (.int .i64 d8.f.h) (.int .i64 d8.f.j) (.string d8.nm) (.slice A8 d8.cs.length c8) (.slice B8 d8.wall.length e8) (.string d8.log))
           obtain ⟨l0, l1, l2, l3, l4, l5, l6, l7⟩ := HD8.out.cells
           obtain ⟨_, _, z0, z1, z2, z3, z4, z5, z6, z7, zf, _, _⟩ := HC7.out
           obtain ⟨W2, hW2⟩ : ∃ x, P8 w7 r (.int .i64 d8.f.l) (.int .i64 d8.f.w) (.int .i64 d8.f.h) (.int .i64 d8.f.j) (.string d8.nm) (.slice A8 d8.cs.length c8) (.slice B8 d8.wall.length e8) (.string d8.log) = x := ⟨_, rfl⟩
           rw [hW2] at HR
           unfold P8 at hW2
           go_wp2_with fail
           clear z0 z1 z2 z3 z4 z5 z6 z7 zf hW2 l0 l1 l2 l3 l4 l5 l6 l7
           obtain ⟨_, _, r0, r1, r2, r3, r4, r5, r6, r7⟩ := HR.out
           have hrl := HC3.out.lt
           have hwl2 := HC3.out.b.size
           refine bodyPost_ret (v := .tuple #[.agg #[.int .i64 d8.f.l, .int .i64 d8.f.w, .int .i64 d8.f.h, .int .i64 d8.f.j, .string d8.nm, .slice A8 d8.cs.length c8, .slice B8 d8.wall.length e8, .string d8.log], u, .int .i64 0]) (by simp [results, Tryz.results11, go_sem, r0, r1, r2, r3, r4, r5, r6, r7]) rfl (DR.ret2 HC7.out HM2.out HR.out.c (ext_refl _) (HD8.out.own.mono hwl2) ((HO8.out.chg HR.out.c (fun k hk e => by have := (HO8.out.ge k hk).1; omega)).mono hwl2) (fun k hk e => by have := (HD8.out.own.1.ge k hk).1; omega) (fun k hk e => by have := (HD8.out.own.2.1.ge k hk).1; omega) (fun k hk => (HAP.out k hk).2))
         · have HM2 : Hid (M = (d, [erT x8], 0)) := Lib.hid (by rw [HM.out, HGO.out, HER.out hx])
           have HCN := Lib.hid (fun W (h : Below w.heap.size w W) => impl_CodeName x8 HCC.out.1 HCC.out.2 W (HE.out W h).cod)
           have hcz := cnT_size x8
           have c1 : ¬ 9223372036854775807 < 6 + (cnT x8).size := by omega
           have HRT : Hid (erT x8 = ⟨#[101, 114, 114, 111, 114, 32]⟩ ++ cnT x8) := Lib.hid rfl
           obtain ⟨ct, hct⟩ : ∃ x, cnT x8 = x := ⟨_, rfl⟩
           rw [hct] at HCN c1 HRT
           have HCP := Lib.hid (fun W (h : RDK W (.agg #[.int .i64 d.f.l, .int .i64 d.f.w, .int .i64 d.f.h, .int .i64 d.f.j, .string d.nm, .slice A d.cs.length cA, .slice B d.wall.length e, .string d.log]) d) => impl_copyDesk _ d W h HSM.out)
           obtain ⟨k0, k1, k2, k3, k4, k5, k6, k7⟩ := HC7.out.bx
           clear hcz hct HOK7
           go_wp2_with fail
           refine (show Calls _ _ _ _ _ from HCP.out _ ⟨A, cA, B, e, rfl, HA1.out.ext HC7.out.b, HA2.out.ext HC7.out.b⟩).mono ?_
           rintro e' w8 ⟨v8, rfl, ⟨A8, c8, B8, e8, rfl, hod8⟩, hb8⟩
           have HC8 := Lib.hid (HC7.out.ext hb8)
           have HO8 := Lib.hid hod8
           clear hb8 hod8 k0 k1 k2 k3 k4 k5 k6 k7 HCP
           go_wp2_with fail
           refine (show Calls _ _ _ _ _ from HCN.out _ HC8.out.b).mono ?_
           rintro e' w9 ⟨rfl, hb9⟩
           have HC9 := Lib.hid (HC8.out.ext hb9)
           have HO9 := Lib.hid (HO8.out.ext hb9)
           clear hb9
           have hr9 : r ≠ w9.heap.size := by have := HC9.out.lt; omega
           have hr9' := hr9.symm
           have hr1 : r < w9.heap.size := HC9.out.lt
           have HR := Lib.hid (HC9.out.put (.int .i64 d.f.l) (.int .i64 d.f.w) (.int .i64 d.f.h) (.int .i64 d.f.j) (.string d.nm) (.slice A8 d.cs.length c8) (.slice B8 d.wall.length e8) (.string d.log))
           obtain ⟨_, _, z0, z1, z2, z3, z4, z5, z6, z7, zf, _, _⟩ := HC9.out
           obtain ⟨W2, hW2⟩ : ∃ x, P8 w9 r (.int .i64 d.f.l) (.int .i64 d.f.w) (.int .i64 d.f.h) (.int .i64 d.f.j) (.string d.nm) (.slice A8 d.cs.length c8) (.slice B8 d.wall.length e8) (.string d.log) = x := ⟨_, rfl⟩
           rw [hW2] at HR
           unfold P8 at hW2
           go_wp2_with fail
           clear z0 z1 z2 z3 z4 z5 z6 z7 zf hW2
           obtain ⟨_, _, r0, r1, r2, r3, r4, r5, r6, r7⟩ := HR.out
           have hrl := HC7.out.lt
           have hwl2 := HC7.out.b.size
           have hos := ostr_one W2 w.heap.size (erT x8) (by rw [HR.out.s]; exact HC9.out.b.size)
           rw [HR.out.s, HRT.out] at hos
           have q0 := cell_keep r0 (ext_alloc1 W2 (.cells #[.string (⟨#[101, 114, 114, 111, 114, 32]⟩ ++ ct)] 9))
           have q1 := cell_keep r1 (ext_alloc1 W2 (.cells #[.string (⟨#[101, 114, 114, 111, 114, 32]⟩ ++ ct)] 9))
           have q2 := cell_keep r2 (ext_alloc1 W2 (.cells #[.string (⟨#[101, 114, 114, 111, 114, 32]⟩ ++ ct)] 9))
           have q3 := cell_keep r3 (ext_alloc1 W2 (.cells #[.string (⟨#[101, 114, 114, 111, 114, 32]⟩ ++ ct)] 9))
           have q4 := cell_keep r4 (ext_alloc1 W2 (.cells #[.string (⟨#[101, 114, 114, 111, 114, 32]⟩ ++ ct)] 9))
           have q5 := cell_keep r5 (ext_alloc1 W2 (.cells #[.string (⟨#[101, 114, 114, 111, 114, 32]⟩ ++ ct)] 9))
           have q6 := cell_keep r6 (ext_alloc1 W2 (.cells #[.string (⟨#[101, 114, 114, 111, 114, 32]⟩ ++ ct)] 9))
           have q7 := cell_keep r7 (ext_alloc1 W2 (.cells #[.string (⟨#[101, 114, 114, 111, 114, 32]⟩ ++ ct)] 9))
           refine bodyPost_ret (v := .tuple #[.agg #[.int .i64 d.f.l, .int .i64 d.f.w, .int .i64 d.f.h, .int .i64 d.f.j, .string d.nm, .slice A8 d.cs.length c8, .slice B8 d.wall.length e8, .string d.log], .slice (some ⟨w9.heap.size, 0, none⟩) 1 1, .int .i64 0]) (by simp [results, Tryz.results11, go_sem, q0, q1, q2, q3, q4, q5, q6, q7]) rfl (DR.ret2 HC9.out (by rw [HM2.out, HRT.out]) HR.out.c (ext_alloc1 W2 _) (HO9.out.mono hwl2) hos (fun k hk e => by have := (HO9.out.1.ge k hk).1; omega) (fun k hk e => by have := (HO9.out.2.1.ge k hk).1; omega) (fun k hk => ?_))
           obtain rfl : w9.heap.size = k := Option.some.inj hk
           exact ⟨fun h => by have := (HO9.out.1.ge _ h).2; omega, fun h => by have := (HO9.out.2.1.ge _ h).2; omega⟩
theorem impl_execute (c : CM) (w00 W : World) (q : Nat) (d : DK) (A : Option Addr) (cc : Nat) (B : Option Addr) (e : Nat) (hD : DB W w00.heap.size q d A cc B e) (hb0 : Below w00.heap.size w00 W) (Aw : Option Addr) (cw : Nat) (l : List ByteArray) (hw : RStr W (.slice Aw l.length cw) l) (hl : l.length = (cmF c).length + 1) (hx : gd l 0 = cmW c) (hwq : ∀ ad, Aw = some ad → ad.block ≠ q) (hsz : ∀ k, k < l.length → (gd l k).size ≤ 1048576)
   (An : Option Addr) (cn : Nat) (xs : List Int) (hn : RI W (.slice An xs.length cn) xs) (hxs : xs = nmL c l (cmF c).length) (hE : Env w00) (hT : LibT w00) (hV : vDK d = true) :
   Calls Tryz.prog 44 #[.pointer (some ⟨q, 0, none⟩), .slice Aw l.length cw, .slice An xs.length cn] W (ExP (mExec d c l) W w00.heap.size q) := by
 subst hxs
 cases c with
 | bond => exact impl_ex_bond w00 W q d A cc B e hD hb0 Aw cw l hw hl hx _ hE hT hV
 | check => exact impl_ex_check w00 W q d A cc B e hD hb0 Aw cw l hw hl hx _ An cn hn hE hV
 | count => exact impl_ex_count w00 W q d A cc B e hD hb0 Aw cw l hw hl hx _ hE hV
 | enter => exact impl_ex_enter w00 W q d A cc B e hD hb0 Aw cw l hw hl hx _ _ An cn hn hwq (hsz 2 (by rw [hl]; decide)) hE hV
 | format => exact impl_ex_format w00 W q d A cc B e hD hb0 Aw cw l hw hl hx hsz _ hE
 | height => exact impl_ex_height w00 W q d A cc B e hD hb0 Aw cw l hw hl hx _ An cn hn hE
 | length => exact impl_ex_length w00 W q d A cc B e hD hb0 Aw cw l hw hl hx _ An cn hn hE
 | log => exact impl_ex_log w00 W q d A cc B e hD hb0 Aw cw l hw hl hx _ hE hV
 | pair => exact impl_ex_pair w00 W q d A cc B e hD hb0 Aw cw l hw hl hx _ _ An cn hn
 | show_ => exact impl_ex_show w00 W q d A cc B e hD hb0 Aw cw l hw hl hx _ hE hV
 | wall => exact impl_ex_wall w00 W q d A cc B e hD hb0 Aw cw l hw hl hx _ _ An cn hn hE hV
theorem impl_DeskCommand (v : Value) (d : DK) (line : ByteArray) (w : World) (ha : RDK w v d) (hsm : SmDK d) (hs : line.size ≤ 1048576) (hE : EnvK w) :
   Calls Tryz.prog 11 #[v, .string line] w (RetD (mDesk d line) w) := impl_DeskCommand0 impl_execute v d line w ha hsm hs hE
end Go.Proofs.YtfgopboddkhckaaGreatDoor
namespace Go.Proofs.YtfgopboddkhckaaGreatDoor
open Go.ChangeShapes Go.WideShapes Go.ChangeAt Go.RowKit Go.Sort Go.Joins
set_option linter.unusedVariables false
theorem mDesk_sm (d : DK) (line : ByteArray) : SmDK (mDesk d line).1 ∧ SmStr (mDesk d line).2.1 := by
 have h0 : SmDK default ∧ SmStr [] := ⟨by unfold SmDK; decide, by unfold SmStr; decide⟩
 cases hv : vDK d with
 | false => rw [mDesk_no hv]; exact h0
 | true =>
   cases hm : mDo d line with
   | none => rw [mDesk_none hv hm]; exact h0
   | some p =>
     rw [mDesk_some hv hm]
     obtain ⟨h1, _, h2, _⟩ := do_ok hv hm
     exact ⟨vDK_sm h1, by show p.2.length ≤ 1048576; omega⟩
def RetDL (r : DK × List ByteArray × Int) (w : World) : Ending → World → Prop := fun e w' => ∃ dv lv, e = .returned (.tuple #[dv, lv, .int .i64 r.2.2]) ∧ ODK w' w.heap.size dv r.1 ∧ SmDK r.1 ∧ OStr w' w.heap.size lv r.2.1 ∧ SmStr r.2.1 ∧ (∀ k, BDK dv k → ¬ BI lv k) ∧ Below w.heap.size w w'
theorem RetDL.of {d : DK} {line : ByteArray} {w : World} {e : Ending} {w' : World} (h : RetD (mDesk d line) w e w') : RetDL (mDesk d line) w e w' := by
 obtain ⟨dv, lv, h1, h2, h3, h4, h5⟩ := h
 exact ⟨dv, lv, h1, h2, (mDesk_sm d line).1, h3, (mDesk_sm d line).2, h4, h5⟩
theorem spec_DeskCommandL (v : Value) (d : DK) (line : ByteArray) (w : World) (ha : RDK w v d) (hsm : SmDK d) (hs : line.size ≤ 1048576) (hE : EnvK w) :
   Calls Tryz.prog 9 #[v, .string line] w (RetDL (mDesk d line) w) := (spec_DeskCommand v d line w ha hsm hs hE).mono fun _ _ h => RetDL.of h
theorem impl_DeskCommandL (v : Value) (d : DK) (line : ByteArray) (w : World) (ha : RDK w v d) (hsm : SmDK d) (hs : line.size ≤ 1048576) (hE : EnvK w) :
   Calls Tryz.prog 11 #[v, .string line] w (RetDL (mDesk d line) w) := (impl_DeskCommand v d line w ha hsm hs hE).mono fun _ _ h => RetDL.of h
end Go.Proofs.YtfgopboddkhckaaGreatDoor
namespace Go.Proofs.YtfgopboddkhckaaGreatDoor
open Go.ChangeShapes Go.WideShapes Go.ChangeAt Go.RowKit Go.Sort Go.Joins
set_option linter.unusedVariables false
set_option maxRecDepth 100000
theorem elem_COS {H : Type} {enc : TypeId × Value → H} {W : World} {sp : Nat → Bool} {fuel : Nat} {v : Value} {x : DataW H × List MemPlace} (hf : DataW.trod enc Tryz.prog W 0 sp true fuel 26 [v] = some x) :
   ∃ (A : Option Addr) (c : Nat) (l : List CO), v = .slice A l.length c ∧ RCOS W (.slice A l.length c) l ∧ LenCOS l := by
 rcases Go.Deep.open_slice Tryz.underlying26 hf with ⟨hcs, _⟩ | ⟨a, len, cap, m, n, D, Pl, hcs, _, hl, hm, hmm, _, hx⟩
 · injection hcs with hcs
   subst hcs
   exact ⟨none, 0, [], rfl, ⟨by simp, none, 0, rfl, by simp, by simp [maxLen], fun h => by simp at h⟩, by simp [LenCOS]⟩
 · injection hcs with hcs
   subst hcs
   have hlm : len ≤ m := by rw [hmm]; split <;> omega
   rw [cells_e_CO] at hx
   obtain ⟨f, hF⟩ := Go.Deep.choose_lt (α := CO) (p := fun i o => (∀ j, j < 2 → W.cell? ((a.add (i * 2)).add j) = (cCO o)[j]?) ∧ LenCO o) (n := len) (fun i hi => by
     obtain ⟨cs', h1, h2⟩ := hx i (by omega)
     obtain ⟨o, rfl, ho⟩ := elem_CO h2
     obtain ⟨_, _, hcell⟩ := World.cells?_some h1
     exact ⟨o, hcell, ho⟩)
   have hr : RCOS W (.slice (some a) len cap) ((List.range len).map f) := rd_open cCO_len (by omega) hl hm f (fun i hi => (hF i hi).1)
   refine ⟨some a, cap, (List.range len).map f, by simp, by simpa using hr, by simp; omega, fun o ho => ?_⟩
   obtain ⟨i, hi, rfl⟩ := List.mem_map.1 ho
   exact (hF i (by simpa using hi)).2
theorem elem_StrS {H : Type} {enc : TypeId × Value → H} {W : World} {sp : Nat → Bool} {fuel : Nat} {v : Value} {x : DataW H × List MemPlace} (hf : DataW.trod enc Tryz.prog W 0 sp true fuel 29 [v] = some x) :
   ∃ (A : Option Addr) (c : Nat) (l : List ByteArray), v = .slice A l.length c ∧ RStr W (.slice A l.length c) l ∧ LenStr l := by
 rcases Go.Deep.open_slice1 Tryz.underlying29 (by kernel_rfl) hf with ⟨hcs, _⟩ | ⟨a, len, cap, m, n, V, D, Pl, hcs, _, hl, hm, hmm, _, hx⟩
 · injection hcs with hcs
   subst hcs
   exact ⟨none, 0, [], rfl, ⟨by simp, none, 0, rfl, by simp, by simp [maxLen], fun h => by simp at h⟩, by simp [LenStr]⟩
 · injection hcs with hcs
   subst hcs
   have hlm : len ≤ m := by rw [hmm]; split <;> omega
   obtain ⟨f, hF⟩ := Go.Deep.choose_lt (α := ByteArray) (p := fun i o => W.cell? (a.add i) = some (.string o) ∧ o.size ≤ maxLen) (n := len) (fun i hi => by
     obtain ⟨h1, h2⟩ := hx i (by omega)
     obtain ⟨s, e, _, hs⟩ := DataW.trod_string Tryz.underlying9 h2
     injection e with e
     exact ⟨s, by rw [h1, e], hs⟩)
   have hr : RStr W (.slice (some a) len cap) ((List.range len).map f) := by
     have h0 := rd_open (c := fun s : ByteArray => [Value.string s]) (s := 1) (fun _ => rfl) (by omega) hl hm f (w := W) (a := a) (fun i hi j hj => by
       obtain rfl : j = 0 := by omega
       rw [Nat.mul_one, Addr.add_zero', (hF i hi).1]; rfl)
     unfold RStr
     have h1 : ((List.range len).map f).flatMap (fun s : ByteArray => [Value.string s]) = ((List.range len).map f).map Value.string := by
       induction ((List.range len).map f) with
       | nil => rfl
       | cons y ys ih => simp only [List.flatMap_cons, List.map_cons, ih]; rfl
     rw [← h1]; exact h0
   refine ⟨some a, cap, (List.range len).map f, by simp, by simpa using hr, by simp; omega, fun o ho => ?_⟩
   obtain ⟨i, hi, rfl⟩ := List.mem_map.1 ho
   exact (hF i (by simpa using hi)).2
theorem cells_DK : Tryz.prog.cellsOf 31 = 8 ∧ Tryz.prog.cellsOf 25 = 4 ∧ Tryz.prog.cellsOf 28 = 2 ∧ Tryz.prog.cellsOf 26 = 1 ∧ Tryz.prog.cellsOf 29 = 1 ∧ Tryz.prog.cellsOf 9 = 1 ∧ Tryz.prog.cellsOf 2 = 1 := by
 refine ⟨by kernel_rfl, by kernel_rfl, by kernel_rfl, by kernel_rfl, by kernel_rfl, by kernel_rfl, by kernel_rfl⟩
theorem open_DK {H : Type} {enc : TypeId × Value → H} {W : World} {sp : Nat → Bool} {r : Reach} {b0 : Nat} {v : Value} {d : DataW H} {p : List MemPlace}
   (hv : Value.okWide Tryz.prog W r b0 31 v) (h : DataW.Trod enc Tryz.prog W 0 sp true 31 v d p) :
   ∃ q : DK, RDK W v q ∧ LenDK q := by
 obtain ⟨cs, rfl, hsz⟩ := okWide_struct Tryz.underlying31 hv
 obtain ⟨cD, cF, cB, cC, cW, cS, cI⟩ := cells_DK
 obtain ⟨fuel, hf⟩ := h
 rw [cD] at hsz
 obtain ⟨ls⟩ := cs
 match ls, hsz with
 | [c0, c1, c2, c3, c4, c5, c6, c7], _ =>
 obtain ⟨y0, y1, y2, y3, n, hx, _, h0, h1, h2, h3⟩ := trod_struct4 Tryz.underlying31 hf
 obtain ⟨z0, z1, z2, z3, n', hx', _, f0, f1, f2, f3⟩ := trod_struct4 Tryz.underlying25 h0
 obtain ⟨u0, u1, n'', hx'', _, g0, g1⟩ := trod_struct2 Tryz.underlying28 h1
 simp only [cF, cB, cC, cW, cS, cI, Value.cells] at f0 f1 f2 f3 g0 g1 h2 h3
 obtain ⟨i0, e0, _, _⟩ := DataW.trod_int Tryz.underlying2 f0
 obtain ⟨i1, e1, _, _⟩ := DataW.trod_int Tryz.underlying2 f1
 obtain ⟨i2, e2, _, _⟩ := DataW.trod_int Tryz.underlying2 f2
 obtain ⟨i3, e3, _, _⟩ := DataW.trod_int Tryz.underlying2 f3
 obtain ⟨s4, e4, _, hs4⟩ := DataW.trod_string Tryz.underlying9 g0
 obtain ⟨A, ca, l, e5, hl, hll⟩ := elem_COS g1
 obtain ⟨B, cb, m, e6, hm, hml⟩ := elem_StrS h2
 obtain ⟨s7, e7, _, hs7⟩ := DataW.trod_string Tryz.underlying9 h3
 have q0 : c0 = .int .i64 i0 := by simpa using e0
 have q1 : c1 = .int .i64 i1 := by simpa using e1
 have q2 : c2 = .int .i64 i2 := by simpa using e2
 have q3 : c3 = .int .i64 i3 := by simpa using e3
 have q4 : c4 = .string s4 := by simpa using e4
 have q7 : c7 = .string s7 := by simpa using e7
 subst q0 q1 q2 q3 q4 q7 e5 e6
 exact ⟨⟨⟨i0, i1, i2, i3⟩, s4, l, m, s7⟩, ⟨A, ca, B, cb, rfl, hl, hm⟩, hs4, hll, hml, hs7⟩
end Go.Proofs.YtfgopboddkhckaaGreatDoor
namespace Go.Proofs.YtfgopboddkhckaaGreatDoor
open Go.ChangeShapes Go.WideShapes Go.ChangeAt Go.RowKit Go.Sort Go.Joins
set_option maxRecDepth 100000
theorem vars_stays {H : Type} {enc : TypeId × Value → H} {W W' : World} {sp : Nat → Bool} (hb : Below W.heap.size W W') :
   ∀ (ns : List String) (gs : List (DataW H)) (ps : List MemPlace), (∀ n ∈ ns, ∃ g t, Tryz.prog.globalNamed n = some g ∧ (Tryz.prog.globals[g]?).map (·.type) = some t ∧ Tryz.prog.readableRec t = true ∧ t < Tryz.prog.types.size) →
     DataW.TrodVars enc Tryz.prog W (fun _ => true) ns gs ps → (∀ p ∈ ps, p.block < W.heap.size) → (∀ p ∈ ps, sp p.block = true) → DataW.TrodVars enc Tryz.prog W' sp ns gs ps
 | [], [], _, _, h, _, _ => h
 | n :: ns, d :: gs, ps, hr, h, hlt, hsp => by
   obtain ⟨g, t, cs, fuel, p, q, h1, h2, h3, h4, h5, rfl⟩ := h
   obtain ⟨g', t', k1, k2, k3, k4⟩ := hr n (by simp)
   obtain rfl := Option.some.inj (k1.symm.trans h1)
   obtain rfl := Option.some.inj (k2.symm.trans h2)
   exact ⟨g', t', cs, fuel, p, q, h1, h2, var_ext hb h3, DataW.trod_stays (kids_book laid_out k3) (book_sized k3) (fun h => by cases h) ⟨k4, book_self t'⟩ h4
     (fun x hx => hb.same (hlt x (by simp [hx]))) (fun x hx => hsp x (by simp [hx])), vars_stays hb ns gs q (fun m hm => hr m (by simp [hm])) h5 (fun x hx => hlt x (by simp [hx])) (fun x hx => hsp x (by simp [hx])), rfl⟩
 | [], _ :: _, _, _, h, _, _ => h.elim
 | _ :: _, [], _, _, h, _, _ => h.elim
theorem law_postVs {H : Type} {enc : TypeId × Value → H} {f : Func} {s : ChangeSpec} {W W' : World} {args : Array Value} {ds gs : List (DataW H)} {before : List MemPlace}
   (hr : ∀ t ∈ f.params.toList, Tryz.prog.readableRec t = true ∧ t < Tryz.prog.types.size) (hres : f.resultTypes = #[4])
   (hvs : ∀ n ∈ s.vars, ∃ g t, Tryz.prog.globalNamed n = some g ∧ (Tryz.prog.globals[g]?).map (·.type) = some t ∧ Tryz.prog.readableRec t = true ∧ t < Tryz.prog.types.size)
   (hW : DataW.Whole enc Tryz.prog f.params.toList s.vars false W args.toList ds gs before)
   (hspec : s.fn H (ds ++ gs) = { results := [.lit (.bool true)], args := ds, vars := gs }) (hb : Below W.heap.size W W') :
   s.post enc Tryz.prog f false true false false W args (.bool true) W' := by
 have hW' := hW
 obtain ⟨p, q, hA, hV, rfl, hfz, hnd⟩ := hW
 have hlt : ∀ x ∈ p, x.block < W.heap.size := fun x hx => hW'.lt x (by simp [hx])
 have hltq : ∀ x ∈ q, x.block < W.heap.size := fun x hx => hW'.lt x (by simp [hx])
 have hokb := okWide_bool_mk (P := Tryz.prog) (W' := W') Tryz.underlying4 true
 have hshut := fun (b : Nat) (sp : Nat → Bool) (hd : Bool) => shut_bool (H := H) (enc := enc) (P := Tryz.prog) (w := W') (base := b) (spare := sp) (held := hd) Tryz.underlying4 true
 refine post_of_below (pa := p) (pv := q) hW' (fun b sp hd => ?_) (fun sp hsp => ?_) (fun sp hsp => ?_) rfl hb ?_
 · rw [hspec, hres]
   exact trodAll_mk1 (hshut b sp hd)
 · rw [hspec]
   exact trodAll_stays hb _ _ _ _ hr hA hlt (fun x hx => hsp x (by simp [hx]))
 · rw [hspec]
   exact vars_stays hb _ _ _ hvs hV hltq (fun x hx => hsp x (by simp [hx]))
 · exact ok_one hres rfl hokb
end Go.Proofs.YtfgopboddkhckaaGreatDoor
