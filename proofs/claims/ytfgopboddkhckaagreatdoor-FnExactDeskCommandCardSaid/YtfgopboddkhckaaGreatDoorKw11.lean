/-
  Parts of the proof: Val2, Ent, LogP, ValEn, Log1, Log2.
-/
import Derived.Test.YtfgopboddkhckaaGreatDoorKw7
namespace Go.Proofs.YtfgopboddkhckaaGreatDoor
open Go.ChangeShapes Go.WideShapes Go.ChangeAt Go.RowKit Go.Sort Go.Joins
set_option linter.unusedVariables false
set_option maxRecDepth 100000
def SmWall (l : List ByteArray) : Prop := ∀ k, k < l.length → (gd l k).size ≤ 1048576
set_option maxHeartbeats 1600000 in
theorem badwall_fn (s t : ByteArray) (hs : s.size ≤ 1048576) (ht : t.size ≤ 1048576) (b : Nat) (ad : Addr) (n c : Nat) (hn : 1 ≤ n) (w : World) (hb : w.cell? ⟨b, 0, none⟩ = some (.slice (some ad) n c)) (hc : w.cell? ad = some (.string t)) :
   Calls Tryz.prog 146 #[.string s, .pointer (some ⟨b, 0, none⟩)] w (Ret (.bool (!vCw t s)) w) := by
 have HV : Hid (vCw t s = (vCo s && decide (lenC s = lenC t))) := Lib.hid rfl
 obtain ⟨x, hx⟩ : ∃ x, vCo s = x := ⟨_, rfl⟩
 have HC : Hid (∀ w, Calls Tryz.prog 147 #[.string s] w (Ret (.bool x) w)) := Lib.hid (fun w => RetP.ret (RetP.bool (impl_okC s hs w) hx))
 have HL : Hid (∀ u w, (u = s ∨ u = t) → Calls Tryz.prog 148 #[.string u] w (Ret (.int .i64 (lenC u)) w)) := Lib.hid (fun u w h => RetP.ret (impl_length u (by rcases h with rfl | rfl <;> assumption) w))
 rw [hx] at HV
 clear hx
 have g1 := fun d os => cell_regrown hb d os
 have g2 := fun d os => cell_regrown hc d os
 have hn2 : (0 : Int) < n := by omega
 clear hb hc
 cases x
 · go_enter Tryz.func146, Tryz.ntmps146
   go_wp2_with fail
   refine wp_region_quiet_below (by kernel_rfl) (by kernel_rfl) ?_
   repeat (go_big_quiet_step (first | (go_at_call 147; exact regrown_r (HC.out _)) | (go_at_call 148; exact regrown_r (HL.out _ _ (by simp)))))
   refine wpQuiet_nil ?_
   intro w' hw'
   obtain ⟨p, rfl⟩ := hw'
   go_wp2_with fail
   go_ret
   exact ⟨ret_bool (by rw [HV.out]; rfl), below_regrown w p.d p.os⟩
 · obtain ⟨a1, h1⟩ : ∃ a, lenC s = a := ⟨_, rfl⟩
   obtain ⟨a2, h2⟩ : ∃ a, lenC t = a := ⟨_, rfl⟩
   rw [h1, h2] at HV
   go_enter Tryz.func146, Tryz.ntmps146
   go_wp2_with fail
   refine wp_region_quiet_below (by kernel_rfl) (by kernel_rfl) ?_
   repeat (go_big_quiet_step (first | (go_at_call 147; exact regrown_r (HC.out _)) | (go_at_call 148; exact regrown_r (HL.out _ _ (by simp)))))
   refine wpQuiet_nil ?_
   intro w' hw'
   obtain ⟨p, rfl⟩ := hw'
   go_wp2_with fail
   go_ret
   exact ⟨ret_bool (by rw [HV.out]; by_cases h : a1 = a2 <;> simp [h]), below_regrown w p.d p.os⟩
set_option maxHeartbeats 1600000 in
theorem badwall_idx (A : Option Addr) (c : Nat) (l : List ByteArray) (b : Nat) (w : World) (hR : RStr w (.slice A l.length c) l) (hsm : SmWall l) (hb : w.cell? ⟨b, 0, none⟩ = some (.slice A l.length c)) (z : Bool) (hz : l.all (vCw (gd l 0)) = z) :
   Calls Tryz.prog 199 #[.slice A l.length c, .func (.func 146) #[] #[.pointer (some ⟨b, 0, none⟩)]] w fun e w' => (∃ i : Int, e = .returned (.int .i64 i) ∧ (z = false → 0 ≤ i) ∧ (z = true → i = -1)) ∧ Below w.heap.size w w' := by
 obtain ⟨_, _, hvv, hc1, hc2⟩ := hR.open_
 have HR := Lib.hid hR; clear hR
 have HSM := Lib.hid hsm
 have HBX := Lib.hid hb
 have HZ := Lib.hid hz
 unfold maxLen at hc2
 have hlm : l.length ≤ 9223372036854775807 := by omega
 clear hsm hb hvv hc1 hc2 hz
 go_enter Tryz.func199, Tryz.ntmps199
 go_wp2_with fail
 go_loopw [8] (fun i wr => ∃ k : Nat, k ≤ l.length ∧ i = .int .i64 k ∧ Hid ((l.take k).all (vCw (gd l 0)) = true) ∧ Hid (Below w.heap.size w wr)) (fun i _ => l.length - (intOf i).toNat)
 case atStart => exact ⟨0, Nat.zero_le _, rfl, Lib.hid rfl, Lib.hid (ext_refl _)⟩
 case round =>
   obtain ⟨k, hk, rfl, HA, HB⟩ := hrel
   have e1 : (0 : Int) ≤ k := by omega
   by_cases hlt : k < l.length
   · have e2 : (k : Int) < l.length := by omega
     have HBX2 := Lib.hid (cell_keep HBX.out HB.out)
     obtain ⟨ad, rfl, _, hc⟩ := (HR.out.ext HB.out).at hlt
     have p0 := hc k hlt
     have HP0 : Hid (wr.cell? ad = some (.string (gd l 0))) := Lib.hid (by have h := hc 0 (by omega); rwa [Addr.add_zero'] at h)
     have hs1 := HSM.out k hlt
     have hs2 := HSM.out 0 (by omega)
     have HA2 := Lib.hid (vCw_succ (t := gd l 0) hlt)
     clear hc
     have HQ := Lib.hid (fun h => vCw_no (t := gd l 0) hlt h)
     have HF := Lib.hid (badwall_fn (gd l k) (gd l 0) hs1 hs2 b ad l.length c (by omega) wr HBX2.out HP0.out)
     obtain ⟨t, ht⟩ : ∃ t, gd l 0 = t := ⟨_, rfl⟩
     obtain ⟨o, ho⟩ : ∃ o, gd l k = o := ⟨_, rfl⟩
     rw [ho] at p0 HF HA2 HQ
     rw [ht] at HF HA2 HQ HA
     have HTT := Lib.hid ht
     clear ho ht hs1 hs2
     go_wp2_with fail
     refine (show Calls _ _ _ _ _ from HF.out).mono ?_
     rintro e w3 ⟨rfl, hb3⟩
     have HB3 := Lib.hid (ext_trans HB.out hb3)
     clear hb3
     cases hv : vCw t o with
     | false =>
       have HF := Lib.hid (HQ.out hv)
       clear hv
       go_wp2_with fail
       go_ret
       exact ⟨⟨_, rfl, fun _ => by omega, fun h => by rw [← HZ.out, HTT.out, HF.out] at h; cases h⟩, HB3.out⟩
     | true =>
       have HA3 : Hid ((l.take (k + 1)).all (vCw (gd l 0)) = true) := Lib.hid (by rw [HTT.out, HA2.out, HA.out, hv]; rfl)
       clear hv
       go_wp2_with fail
       go_roundw
       case rel => exact ⟨k + 1, by omega, by go_num, HA3.out, HB3⟩
       case measure => simp [intOf]; omega
   · obtain rfl : k = l.length := by omega
     have e2 : ¬ (l.length : Int) < l.length := by omega
     have HAll : Hid (l.all (vCw (gd l 0)) = true) := Lib.hid (by have := HA.out; rwa [List.take_length] at this)
     go_wp2_with fail
     go_ret
     exact ⟨⟨-1, rfl, fun h => (by rw [← HZ.out, HAll.out] at h; cases h), fun _ => rfl⟩, HB.out⟩
theorem badwall_has (A : Option Addr) (c : Nat) (l : List ByteArray) (b : Nat) (w : World) (hR : RStr w (.slice A l.length c) l) (hsm : SmWall l) (hb : w.cell? ⟨b, 0, none⟩ = some (.slice A l.length c)) :
   Calls Tryz.prog 145 #[.slice A l.length c, .func (.func 146) #[] #[.pointer (some ⟨b, 0, none⟩)]] w (Ret (.bool (!l.all (vCw (gd l 0)))) w) := by
 obtain ⟨z, hz⟩ : ∃ z, l.all (vCw (gd l 0)) = z := ⟨_, rfl⟩
 have HI := Lib.hid (badwall_idx A c l b w hR hsm hb z hz)
 rw [hz]
 clear hR hsm hb hz
 go_enter Tryz.func145, Tryz.ntmps145
 go_wp2_with fail
 refine (show Calls _ _ _ _ _ from HI.out).mono ?_
 rintro e w' ⟨⟨i, rfl, hi1, hi2⟩, hb⟩
 have HB := Lib.hid hb
 clear hb HI
 cases z with
 | false =>
   have h0 := hi1 rfl
   clear hi1 hi2
   go_wp2_with fail
   go_ret
   exact ⟨ret_bool (by simp), HB.out⟩
 | true =>
   obtain rfl := hi2 rfl
   clear hi1 hi2
   go_wp2_with fail
   go_ret
   exact ⟨ret_bool (by simp), HB.out⟩
set_option maxHeartbeats 1600000 in
theorem impl_okW (A : Option Addr) (c : Nat) (l : List ByteArray) (w : World) (hR : RStr w (.slice A l.length c) l) (hsm : SmWall l) :
   Calls Tryz.prog 79 #[.slice A l.length c] w (Ret (.bool (vW l)) w) := by
 have HR := Lib.hid hR; clear hR
 have HC := Lib.hid (fun (b : Nat) w h h2 => badwall_has A c l b w h hsm h2)
 have HV : Hid (vW l = (inB l.length 1 40 && l.all (vCw (gd l 0)))) := Lib.hid rfl
 obtain ⟨y, hy⟩ : ∃ y, inB l.length 1 40 = y := ⟨_, rfl⟩
 obtain ⟨z, hz⟩ : ∃ z, l.all (vCw (gd l 0)) = z := ⟨_, rfl⟩
 have HI := Lib.hid (fun w => RetP.bool (impl_within (l.length : Int) 1 40 w) hy)
 rw [hy, hz] at HV
 rw [hz] at HC
 clear hy hz hsm
 go_enter Tryz.func79, Tryz.ntmps79
 go_wp2_with fail
 refine (show Calls _ _ _ _ _ from HI.out _).mono ?_
 rintro e w1 ⟨rfl, rfl⟩
 cases y
 · go_wp2_with fail
   go_ret
   exact ⟨ret_bool (by rw [HV.out]; rfl), ext_alloc1 _ _⟩
 · go_wp2_with fail
   refine (show Calls _ _ _ _ _ from HC.out _ _ (HR.out.alloc _) (by simp [go_sem])).mono ?_
   rintro e w1 ⟨rfl, hb⟩
   have HB := Lib.hid hb
   clear hb
   go_wp2_with fail
   go_ret
   exact ⟨ret_bool (by rw [HV.out]; simp), ext_trans (ext_alloc1 _ _) HB.out⟩
set_option maxHeartbeats 3200000 in
theorem spec_okW (A : Option Addr) (c : Nat) (l : List ByteArray) (w : World) (hR : RStr w (.slice A l.length c) l) (hsm : SmWall l) :
   Calls Tryz.prog 75 #[.slice A l.length c] w (Ret (.bool (vW l)) w) := by
 obtain ⟨_, _, hvv, hc1, hc2⟩ := hR.open_
 have HR := Lib.hid hR; clear hR
 have HSM := Lib.hid hsm
 unfold maxLen at hc2
 have hlm : l.length ≤ 9223372036854775807 := by omega
 clear hsm hvv hc1 hc2
 go_enter Tryz.func75, Tryz.ntmps75
 go_wp2_with fail
 go_loopw [3] (fun i wr => ∃ k : Nat, k ≤ l.length ∧ i = .int .i64 k ∧ Hid ((l.take k).all (vCw (gd l 0)) = true) ∧ Hid (Below w.heap.size w wr)) (fun i _ => l.length - (intOf i).toNat)
 case atStart => exact ⟨0, Nat.zero_le _, rfl, Lib.hid rfl, Lib.hid (ext_refl _)⟩
 case round =>
   obtain ⟨k, hk, rfl, HA, HB⟩ := hrel
   have e1 : (0 : Int) ≤ k := by omega
   by_cases hlt : k < l.length
   · have e2 : (k : Int) < l.length := by omega
     have e3 : (0 : Int) < l.length := by omega
     obtain ⟨ad, rfl, _, hc⟩ := (HR.out.ext HB.out).at hlt
     have p0 := hc k hlt
     have p1 : wr.cell? ad = some (.string (gd l 0)) := by have h := hc 0 (by omega); rwa [Addr.add_zero'] at h
     have hs1 := HSM.out k hlt
     have hs2 := HSM.out 0 (by omega)
     have HA2 := Lib.hid (vCw_succ (t := gd l 0) hlt)
     clear hc
     have HQ := Lib.hid (fun h => vCw_no (t := gd l 0) hlt h)
     obtain ⟨t, ht⟩ : ∃ t, gd l 0 = t := ⟨_, rfl⟩
     obtain ⟨o, ho⟩ : ∃ o, gd l k = o := ⟨_, rfl⟩
     rw [ho] at p0 HA2 HQ hs1
     rw [ht] at p1 HA2 HQ HA hs2
     have HTT := Lib.hid ht
     clear ho ht
     have HV : Hid (vCw t o = (vCo o && decide (lenC o = lenC t))) := Lib.hid rfl
     obtain ⟨x, hx⟩ : ∃ x, vCo o = x := ⟨_, rfl⟩
     have HC : Hid (∀ w, Calls Tryz.prog 138 #[.string o] w (Ret (.bool x) w)) := Lib.hid (fun w => RetP.ret (RetP.bool (spec_okC o hs1 w) hx))
     have HL : Hid (∀ u w, (u = o ∨ u = t) → Calls Tryz.prog 139 #[.string u] w (Ret (.int .i64 (lenC u)) w)) := Lib.hid (fun u w h => RetP.ret (spec_length u (by rcases h with rfl | rfl <;> assumption) w))
     rw [hx] at HV
     have g0 := fun d os => cell_regrown p0 d os
     have g1 := fun d os => cell_regrown p1 d os
     clear hx hs1 hs2 p0 p1
     cases x
     · have HF := Lib.hid (HQ.out (by rw [HV.out]; rfl))
       have HG : Hid (vW l = false) := Lib.hid (by unfold vW; rw [HTT.out, HF.out]; simp)
       go_wp2_with fail
       refine wp_region_quiet_below (by kernel_rfl) (by kernel_rfl) ?_
       repeat (go_big_quiet_step (first | (go_at_call 138; exact regrown_r (HC.out _)) | (go_at_call 139; exact regrown_r (HL.out _ _ (by simp)))))
       refine wpQuiet_nil ?_
       intro w' hw'
       obtain ⟨p, rfl⟩ := hw'
       go_wp2_with fail
       go_ret
       exact ⟨ret_bool HG.out.symm, ext_trans HB.out (below_regrown wr p.d p.os)⟩
     · by_cases hE : lenC o = lenC t
       · have HA3 : Hid ((l.take (k + 1)).all (vCw (gd l 0)) = true) := Lib.hid (by rw [HTT.out, HA2.out, HA.out, HV.out, decide_eq_true hE]; rfl)
         have hE2 : (lenC o != lenC t) = false := by rw [hE]; simp
         clear hE
         go_wp2_with fail
         refine wp_region_quiet_below (by kernel_rfl) (by kernel_rfl) ?_
         repeat (go_big_quiet_step (first | (go_at_call 138; exact regrown_r (HC.out _)) | (go_at_call 139; exact regrown_r (HL.out _ _ (by simp)))))
         refine wpQuiet_nil ?_
         intro w' hw'
         obtain ⟨p, rfl⟩ := hw'
         have HB3 := Lib.hid (ext_trans HB.out (below_regrown wr p.d p.os))
         clear g0 g1
         go_wp2_with fail
         go_roundw
         case rel => exact ⟨k + 1, by omega, by go_num, HA3.out, HB3⟩
         case measure => simp [intOf]; omega
       · have HF := Lib.hid (HQ.out (by rw [HV.out, decide_eq_false hE]; rfl))
         have HG : Hid (vW l = false) := Lib.hid (by unfold vW; rw [HTT.out, HF.out]; simp)
         have hE2 : (lenC o != lenC t) = true := bne_iff_ne.2 hE
         clear hE
         go_wp2_with fail
         refine wp_region_quiet_below (by kernel_rfl) (by kernel_rfl) ?_
         repeat (go_big_quiet_step (first | (go_at_call 138; exact regrown_r (HC.out _)) | (go_at_call 139; exact regrown_r (HL.out _ _ (by simp)))))
         refine wpQuiet_nil ?_
         intro w' hw'
         obtain ⟨p, rfl⟩ := hw'
         go_wp2_with fail
         go_ret
         exact ⟨ret_bool HG.out.symm, ext_trans HB.out (below_regrown wr p.d p.os)⟩
   · obtain rfl : k = l.length := by omega
     have e2 : ¬ (l.length : Int) < l.length := by omega
     have HAll : Hid (l.all (vCw (gd l 0)) = true) := Lib.hid (by have := HA.out; rwa [List.take_length] at this)
     have HV : Hid (vW l = inB l.length 1 40) := Lib.hid (by unfold vW; rw [HAll.out]; simp)
     have HI := Lib.hid (fun w => spec_in (l.length : Int) 1 40 w)
     go_wp2_with fail
     refine (show Calls _ _ _ _ _ from HI.out _).mono ?_
     rintro e w1 ⟨rfl, rfl⟩
     go_wp2_with fail
     go_ret
     exact ⟨ret_bool HV.out.symm, HB.out⟩
end Go.Proofs.YtfgopboddkhckaaGreatDoor
namespace Go.Proofs.YtfgopboddkhckaaGreatDoor
open Go.ChangeShapes Go.WideShapes Go.ChangeAt Go.RowKit Go.Sort Go.Joins
set_option linter.unusedVariables false
structure EN where
 day : Int
 what : ByteArray
 val : Int
instance : Inhabited EN := ⟨⟨0, ⟨#[]⟩, 0⟩⟩
def cEN (o : EN) : List Value := [.int .i64 o.day, .string o.what, .int .i64 o.val]
theorem cEN_len (o : EN) : (cEN o).length = 3 := rfl
def REN (_ : World) (v : Value) (o : EN) : Prop := v = .agg #[.int .i64 o.day, .string o.what, .int .i64 o.val]
theorem REN.ext {w w' : World} {v : Value} {o : EN} (h : REN w v o) (_ : Below w.heap.size w w') : REN w' v o := h
def OEN (_ : World) (_ : Nat) (v : Value) (o : EN) : Prop := v = .agg #[.int .i64 o.day, .string o.what, .int .i64 o.val]
theorem OEN.rd {w : World} {b : Nat} {v : Value} {o : EN} (h : OEN w b v o) : REN w v o := h
theorem OEN.ext {w w' : World} {b : Nat} {v : Value} {o : EN} (h : OEN w b v o) (_ : Below w.heap.size w w') : OEN w' b v o := h
def SmEN (o : EN) : Prop := o.what.size ≤ 1048576
def LenEN (o : EN) : Prop := o.what.size ≤ maxLen
def PEN (w : World) (p : Addr) (o : EN) : Prop := w.cell? p = some (.int .i64 o.day) ∧ w.cell? ⟨p.block, p.off + 1, none⟩ = some (.string o.what) ∧ w.cell? ⟨p.block, p.off + 2, none⟩ = some (.int .i64 o.val)
theorem PEN.ext {w w' : World} {p : Addr} {o : EN} (h : PEN w p o) (hb : Below w.heap.size w w') : PEN w' p o := by
 obtain ⟨h0, h1, h2⟩ := h
 exact ⟨cell_keep h0 hb, cell_keep h1 hb, cell_keep h2 hb⟩
theorem pEN_box (w : World) (o : EN) (Ty : TypeId) : PEN (w.alloc (.cells #[.int .i64 o.day, .string o.what, .int .i64 o.val] Ty)) ⟨w.heap.size, 0, none⟩ o := ⟨by simp [go_sem], by simp [go_sem], by simp [go_sem]⟩
def RENS (w : World) (v : Value) (l : List EN) : Prop := Rd w 3 v l.length (l.flatMap cEN)
theorem RENS.ext {w w' : World} {v : Value} {l : List EN} (h : RENS w v l) (hb : Below w.heap.size w w') : RENS w' v l := Rd.ext h hb
theorem RENS.alloc {w : World} {v : Value} {l : List EN} (h : RENS w v l) (o : Obj) : RENS (w.alloc o) v l := Rd.alloc h o
theorem RENS.at {w : World} {A : Option Addr} {n cp : Nat} {l : List EN} (h : RENS w (.slice A n cp) l) {k : Nat} (hk : k < l.length) : ∃ ad, A = some ad ∧ ad.block < w.heap.size ∧ ∀ k, k < l.length → PEN w (ad.add (k * 3)) (gd l k) := by
 obtain ⟨ad, hA, hlt, hc⟩ := Rd.at cEN_len h hk
 refine ⟨ad, hA, hlt, fun k hk => ?_⟩
 have h0 := fun j (hj : j < 3) => hc k hk j hj
 simp only [← add_of_add] at h0
 refine ⟨?_, ?_, ?_⟩
 · have := h0 0 (by omega)
   rwa [Addr.add_zero'] at this
 · have := h0 1 (by omega)
   rwa [addr_succ] at this
 · have := h0 2 (by omega)
   rwa [addr_succ] at this
theorem RENS.open_ {w : World} {v : Value} {l : List EN} (h : RENS w v l) : ∃ A c, v = .slice A l.length c ∧ l.length ≤ c ∧ c ≤ maxLen := by
 obtain ⟨_, A, c, h1, h2, h3, _⟩ := h; exact ⟨A, c, h1, h2, h3⟩
def OENS (w : World) (base : Nat) (v : Value) (l : List EN) : Prop := w.ownsRow base 130 3 v l.length (l.flatMap cEN)
theorem OENS.rd {w : World} {base : Nat} {v : Value} {l : List EN} (h : OENS w base v l) : RENS w v l := own_rd h
theorem OENS.ext {w w' : World} {base : Nat} {v : Value} {l : List EN} (h : OENS w base v l) (hb : Below w.heap.size w w') : OENS w' base v l := own_ext h hb
theorem OENS.mono {w : World} {base base' : Nat} {v : Value} {l : List EN} (h : OENS w base v l) (hb : base' ≤ base) : OENS w base' v l := own_mono h hb
theorem OENS.ge {w : World} {base : Nat} {v : Value} {l : List EN} (h : OENS w base v l) : ∀ k, BI v k → base ≤ k ∧ k < w.heap.size := World.ownsRow.lt h
theorem OENS.chg {S : Nat → Prop} {w w' : World} {base : Nat} {v : Value} {l : List EN} (h : OENS w base v l) (hb : Chg S w w') (hS : ∀ k, BI v k → ¬ S k) : OENS w' base v l := own_chg h hb hS
theorem info_EN : (Tryz.prog.info? 130).map (fun i => (i.zero, i.size, i.bytes)) = some (some (.agg #[.int .i64 0, .string ⟨#[]⟩, .int .i64 0]), 3, 32) := by kernel_rfl
end Go.Proofs.YtfgopboddkhckaaGreatDoor
namespace Go.Proofs.YtfgopboddkhckaaGreatDoor
open Go.Lib
set_option linter.unusedVariables false
def vEn (e : EN) : Bool := inB e.day 0 100000 && isN e.what && inB e.val (-1000000) 1000000
def wrd (e : EN) : List UInt8 := itoa e.day ++ 32 :: (e.what.data.toList ++ 32 :: itoa e.val)
def stp1 (s : Int) (c : UInt8) : Int := (37 * s + (c.toNat : Int)) % 65519
def stmp (before : Int) (ws : List UInt8) : Int := ws.foldl stp1 ((before + 29) % 65519)
theorem stp1_bd (s : Int) (c : UInt8) : 0 ≤ stp1 s c ∧ stp1 s c ≤ 65518 := by unfold stp1; omega
theorem stmp_bd (b : Int) (ws : List UInt8) : 0 ≤ stmp b ws ∧ stmp b ws ≤ 65518 := by
 unfold stmp
 have : ∀ (ws : List UInt8) (s : Int), 0 ≤ s → s ≤ 65518 → 0 ≤ ws.foldl stp1 s ∧ ws.foldl stp1 s ≤ 65518 := by
   intro ws
   induction ws with
   | nil => intro s h1 h2; exact ⟨h1, h2⟩
   | cons c r ih => intro s _ _; exact ih _ (stp1_bd s c).1 (stp1_bd s c).2
 exact this ws _ (by omega) (by omega)
theorem stmp_snoc (b : Int) (ws : List UInt8) (c : UInt8) : stmp b (ws ++ [c]) = stp1 (stmp b ws) c := by unfold stmp; rw [List.foldl_append]; rfl
def linL (st : Int) (e : EN) : List UInt8 := wrd e ++ 32 :: (itoa st ++ [10])
theorem vEn_iff {e : EN} : vEn e = true ↔ (0 ≤ e.day ∧ e.day ≤ 100000) ∧ isN e.what = true ∧ (-1000000 ≤ e.val ∧ e.val ≤ 1000000) := by
 unfold vEn inB
 simp [and_assoc]
theorem vEn_sm {e : EN} (h : vEn e = true) : e.what.size ≤ 12 := (isN_size (vEn_iff.1 h).2.1).2
theorem wrd_len {e : EN} (h : vEn e = true) : (wrd e).length ≤ 36 := by
 have h1 := vEn_iff.1 h
 have h2 := itoa_small e.day (by omega) (by omega)
 have h3 := itoa_small e.val (by omega) (by omega)
 have h4 := vEn_sm h
 have h5 : e.what.data.toList.length = e.what.size := by rw [Array.length_toList]; rfl
 unfold wrd
 simp only [List.length_append, List.length_cons]
 omega
theorem linL_len {e : EN} {st : Int} (h : vEn e = true) (h0 : 0 ≤ st) (h1 : st ≤ 65518) : (linL st e).length ≤ 60 := by
 have h2 := wrd_len h
 have h3 := itoa_small st (by omega) (by omega)
 unfold linL
 simp only [List.length_append, List.length_cons, List.length_nil]
 omega
/-! ### Reading -/
def rdLn (line : List UInt8) : Option (EN × List UInt8) :=
 match splL 32 line with
 | [a, b, c, d] => match rdec a, rdec c with
   | some day, some v => if vEn ⟨day, ⟨b.toArray⟩, v⟩ then some (⟨day, ⟨b.toArray⟩, v⟩, d) else none
   | _, _ => none
 | _ => none
theorem rdLn_some {line : List UInt8} {e : EN} {d : List UInt8} (h : rdLn line = some (e, d)) : vEn e = true ∧ line = wrd e ++ 32 :: d ∧ splL 32 line = [itoa e.day, e.what.data.toList, itoa e.val, d] := by
 unfold rdLn at h
 split at h
 · rename_i a b c d' hs
   split at h
   · rename_i day v h1 h2
     split at h
     · rename_i hv
       injection h with h
       injection h with h3 h4
       subst h3 h4
       have e1 := rdec_itoa_eq h1
       have e2 := rdec_itoa_eq h2
       have e3 := jn_spl 32 line
       rw [hs] at e3
       refine ⟨hv, ?_, by rw [hs, e1, e2]⟩
       rw [← e3, e1, e2]
       simp [jnL, wrd]
     · cases h
   · cases h
 · cases h
theorem rdLn_mk {e : EN} {d : List UInt8} (hv : vEn e = true) (hd : (32 : UInt8) ∉ d) : rdLn (wrd e ++ 32 :: d) = some (e, d) := by
 have h1 := vEn_iff.1 hv
 have hs : splL 32 (wrd e ++ 32 :: d) = [itoa e.day, e.what.data.toList, itoa e.val, d] := by
   have := spl_jn 32 [itoa e.day, e.what.data.toList, itoa e.val, d] (by simp) (by
     intro x hx
     simp only [List.mem_cons, List.not_mem_nil, or_false] at hx
     rcases hx with rfl | rfl | rfl | rfl
     · exact itoa_no32 _
     · exact isN_no32 h1.2.1
     · exact itoa_no32 _
     · exact hd)
   rw [← this]
   simp [jnL, wrd]
 unfold rdLn
 rw [hs]
 simp only [rdec_itoa e.day (by omega) (by omega), rdec_itoa e.val (by omega) (by omega)]
 have e5 : (⟨e.what.data.toList.toArray⟩ : ByteArray) = e.what := by cases e.what; simp
 rw [e5, if_pos hv]
def lday (es : List EN) : Int := match es.getLast? with | some e => e.day | none => 0
def stepL (es : List EN) (st : Int) (rest : List UInt8) : Option (EN × Int × Nat) :=
 match rest.idxOf? 10 with
 | none => none
 | some k => match rdLn (rest.take k) with
   | none => none
   | some (e, d) => if lday es ≤ e.day ∧ d = itoa (stmp st (wrd e)) then some (e, stmp st (wrd e), k + 1) else none
theorem idxOf_none {l : List UInt8} (h : (10 : UInt8) ∉ l) : l.idxOf? 10 = none := by simpa using h
theorem idxOf_some {l : List UInt8} {k : Nat} (h2 : (10 : UInt8) ∉ l.take k) (h3 : l[k]? = some 10) : l.idxOf? 10 = some k := by
 induction l generalizing k with
 | nil => simp at h3
 | cons c r ih =>
   cases k with
   | zero => simp at h3; subst h3; simp [List.idxOf?_cons]
   | succ k =>
     simp only [List.take_succ_cons, List.mem_cons, not_or] at h2
     rw [List.idxOf?_cons, if_neg (by simpa using fun e => h2.1 e.symm), ih h2.2 (by simpa using h3)]
     rfl
theorem idxOf_inv {l : List UInt8} {k : Nat} (h : l.idxOf? 10 = some k) : (10 : UInt8) ∉ l.take k ∧ l[k]? = some 10 := by
 induction l generalizing k with
 | nil => simp at h
 | cons c r ih =>
   rw [List.idxOf?_cons] at h
   split at h
   · rename_i hc
     cases h
     simp at hc
     subst hc
     simp
   · rename_i hc
     simp at hc
     simp only [Option.map_eq_some_iff] at h
     obtain ⟨j, hj, rfl⟩ := h
     have := ih hj
     simp only [List.take_succ_cons, List.mem_cons, not_or, List.getElem?_cons_succ]
     exact ⟨⟨fun e => hc e.symm, this.1⟩, this.2⟩
theorem stepL_some {es : List EN} {st : Int} {rest : List UInt8} {e : EN} {st' : Int} {n : Nat} (h : stepL es st rest = some (e, st', n)) :
   vEn e = true ∧ lday es ≤ e.day ∧ st' = stmp st (wrd e) ∧ rest.take n = linL st' e ∧ n = (linL st' e).length ∧ n ≤ rest.length := by
 unfold stepL at h
 split at h
 · cases h
 · rename_i k hk
   obtain ⟨k1, k2⟩ := idxOf_inv hk
   split at h
   · cases h
   · rename_i e' d hl
     split at h
     · rename_i hc
       injection h with h
       injection h with h1 h2
       injection h2 with h2 h3
       subst h1 h2 h3
       obtain ⟨r1, r2, r3⟩ := rdLn_some hl
       have hkl : k < rest.length := by
         rcases Nat.lt_or_ge k rest.length with h | h
         · exact h
         · rw [List.getElem?_eq_none h] at k2; cases k2
       have ht : rest.take (k + 1) = linL (stmp st (wrd e')) e' := by
         rw [List.take_succ_eq_append_getElem hkl, r2, hc.2]
         rw [List.getElem?_eq_getElem hkl] at k2
         injection k2 with k2
         rw [k2]
         simp [linL]
       refine ⟨r1, hc.1, rfl, ht, ?_, hkl⟩
       rw [← ht, List.length_take]; omega
     · cases h
theorem linL_no10 {e : EN} (h : vEn e = true) (st : Int) : (10 : UInt8) ∉ wrd e ++ 32 :: itoa st := by
 have h1 := isN_no10 (vEn_iff.1 h).2.1
 have h2 := itoa_no10 e.day
 have h3 := itoa_no10 e.val
 have h4 := itoa_no10 st
 unfold wrd
 simp only [List.mem_append, List.mem_cons, not_or]
 exact ⟨⟨h2, by decide, h1, by decide, h3⟩, by decide, h4⟩
theorem stepL_mk {es : List EN} {st : Int} {e : EN} (hv : vEn e = true) (hd : lday es ≤ e.day) (r : List UInt8) :
   stepL es st (linL (stmp st (wrd e)) e ++ r) = some (e, stmp st (wrd e), (linL (stmp st (wrd e)) e).length) := by
 have hn := linL_no10 hv (stmp st (wrd e))
 have hl : linL (stmp st (wrd e)) e = (wrd e ++ 32 :: itoa (stmp st (wrd e))) ++ [10] := by simp [linL]
 have h1 : (linL (stmp st (wrd e)) e ++ r).take (wrd e ++ 32 :: itoa (stmp st (wrd e))).length = wrd e ++ 32 :: itoa (stmp st (wrd e)) := by
   rw [hl, List.append_assoc, List.take_left]
 have h2 : (linL (stmp st (wrd e)) e ++ r).idxOf? 10 = some (wrd e ++ 32 :: itoa (stmp st (wrd e))).length := by
   refine idxOf_some (by rw [h1]; exact hn) ?_
   rw [hl, List.append_assoc, List.getElem?_append_right (Nat.le_refl _)]
   simp
 unfold stepL
 rw [h2]
 simp only [h1, rdLn_mk hv (itoa_no32 _)]
 rw [if_pos ⟨hd, trivial⟩, hl]
 simp only [List.length_append, List.length_cons, List.length_nil]
def rdL (s : List UInt8) : Nat → List EN → Int → Nat → List EN × Int × Nat
 | 0, es, st, n => (es, st, n)
 | f + 1, es, st, n => match stepL es st (s.drop n) with
   | some (e, st', k) => rdL s f (es ++ [e]) st' (n + k)
   | none => (es, st, n)
theorem linL_pos (st : Int) (e : EN) : 0 < (linL st e).length := by unfold linL; simp only [List.length_append, List.length_cons]; omega
theorem rdL_fuel (s : List UInt8) : ∀ (f f' : Nat) (es : List EN) (st : Int) (n : Nat), s.length < f + n → s.length < f' + n → rdL s f es st n = rdL s f' es st n
 | 0, f', es, st, n, h, h' => by
   have hd : s.drop n = [] := List.drop_of_length_le (by omega)
   cases f' with
   | zero => rfl
   | succ f' => simp [rdL, hd, stepL]
 | f + 1, 0, es, st, n, h, h' => by
   have hd : s.drop n = [] := List.drop_of_length_le (by omega)
   simp [rdL, hd, stepL]
 | f + 1, f' + 1, es, st, n, h, h' => by
   rw [rdL, rdL]
   split
   · rename_i e st' k hk
     have := (stepL_some hk).2.2.2.2
     have hp := linL_pos st' e
     exact rdL_fuel s f f' _ _ _ (by omega) (by omega)
   · rfl
def rdAt (s : List UInt8) (es : List EN) (st : Int) (n : Nat) : List EN × Int × Nat := rdL s (s.length + 1) es st n
def rdLog (s : List UInt8) : List EN × Int × Nat := rdAt s [] 0 0
theorem rdAt_step {s : List UInt8} {es : List EN} {st : Int} {n : Nat} {e : EN} {st' : Int} {k : Nat} (h : stepL es st (s.drop n) = some (e, st', k)) : rdAt s es st n = rdAt s (es ++ [e]) st' (n + k) := by
 unfold rdAt
 rw [rdL, h]
 have := (stepL_some h).2.2.2.2
 have hp := linL_pos st' e
 exact rdL_fuel s _ _ _ _ _ (by omega) (by omega)
theorem rdAt_stop {s : List UInt8} {es : List EN} {st : Int} {n : Nat} (h : stepL es st (s.drop n) = none) : rdAt s es st n = (es, st, n) := by
 unfold rdAt
 rw [rdL, h]
end Go.Proofs.YtfgopboddkhckaaGreatDoor
namespace Go.Proofs.YtfgopboddkhckaaGreatDoor
open Go.ChangeShapes Go.WideShapes Go.ChangeAt Go.RowKit Go.Sort
set_option linter.unusedVariables false
set_option maxRecDepth 8000
theorem sm_len {o : EN} (h : SmEN o) : LenEN o := by unfold SmEN at h; unfold LenEN maxLen; omega
set_option maxHeartbeats 1600000 in
theorem impl_okEn (v : Value) (o : EN) (w : World) (hl : LenEN o) (ha : REN w v o) :
   Calls Tryz.prog 217 #[v] w (Ret (.bool (vEn o)) w) := by
 obtain rfl : v = _ := ha
 have HN := Lib.hid (fun w => impl_IsName o.what hl w)
 clear hl
 go_enter Tryz.func217, Tryz.ntmps217
 go_wp2_with fail
 refine (impl_within o.day 0 100000 _).mono ?_
 rintro e w1 ⟨rfl, rfl⟩
 cases h1 : inB o.day 0 100000 with
 | false =>
   have HX : Hid (vEn o = false) := Lib.hid (by unfold vEn; rw [h1]; rfl)
   clear h1
   go_wp2_with fail
   go_ret
   exact ⟨ret_bool HX.out.symm, ext_alloc1 _ _⟩
 | true =>
   have H1 := Lib.hid h1; clear h1
   go_wp2_with fail
   refine (show Calls _ _ _ _ _ from HN.out _).mono ?_
   rintro e w1 ⟨rfl, rfl⟩
   cases h2 : isN o.what with
   | false =>
     have HX : Hid (vEn o = false) := Lib.hid (by unfold vEn; rw [h2]; simp)
     clear h2
     go_wp2_with fail
     go_ret
     exact ⟨ret_bool HX.out.symm, ext_alloc1 _ _⟩
   | true =>
     have HX : Hid (vEn o = inB o.val (-1000000) 1000000) := Lib.hid (by unfold vEn; rw [H1.out, h2]; rfl)
     clear h2
     go_wp2_with fail
     refine (impl_within o.val (-1000000) 1000000 _).mono ?_
     rintro e w1 ⟨rfl, rfl⟩
     go_wp2_with fail
     go_ret
     exact ⟨ret_bool HX.out.symm, ext_alloc1 _ _⟩
theorem spec_day (n : Int) (w : World) : Calls Tryz.prog 225 #[.int .i64 n] w (RetP (.bool (inB n 0 100000)) w) := by
 go_enter Tryz.func225, Tryz.ntmps225
 go_wp2_with fail
 refine (spec_in n 0 100000 _).mono ?_
 rintro e w1 ⟨rfl, rfl⟩
 go_wp2_with fail
 go_ret
 exact ⟨rfl, rfl⟩
set_option maxHeartbeats 1600000 in
theorem spec_okEn (p : Addr) (o : EN) (w : World) (hl : LenEN o) (hp : PEN w p o) :
   Calls Tryz.prog 178 #[.pointer (some p)] w (RetP (.bool (vEn o)) w) := by
 obtain ⟨h0, h1, h2⟩ := hp
 have HN := Lib.hid (fun w => spec_IsName o.what hl w)
 clear hl
 go_enter Tryz.func178, Tryz.ntmps178
 go_wp2_with fail
 refine (spec_day o.day _).mono ?_
 rintro e w1 ⟨rfl, rfl⟩
 cases h1 : inB o.day 0 100000 with
 | false =>
   have HX : Hid (vEn o = false) := Lib.hid (by unfold vEn; rw [h1]; rfl)
   clear h1
   go_wp2_with fail
   go_ret
   exact ⟨ret_bool HX.out.symm, rfl⟩
 | true =>
   have H1 := Lib.hid h1; clear h1
   go_wp2_with fail
   refine (show Calls _ _ _ _ _ from HN.out _).mono ?_
   rintro e w1 ⟨rfl, rfl⟩
   cases h2 : isN o.what with
   | false =>
     have HX : Hid (vEn o = false) := Lib.hid (by unfold vEn; rw [h2]; simp)
     clear h2
     go_wp2_with fail
     go_ret
     exact ⟨ret_bool HX.out.symm, rfl⟩
   | true =>
     have HX : Hid (vEn o = inB o.val (-1000000) 1000000) := Lib.hid (by unfold vEn; rw [H1.out, h2]; rfl)
     clear h2
     go_wp2_with fail
     refine (spec_in o.val (-1000000) 1000000 _).mono ?_
     rintro e w1 ⟨rfl, rfl⟩
     go_wp2_with fail
     go_ret
     exact ⟨ret_bool HX.out.symm, rfl⟩
attribute [local go_sem ↓] Go.wp_at_zero Go.wp_at_succ
def wrb (e : EN) : ByteArray := bsq (wrd e)
theorem wrb_size {e : EN} (h : vEn e = true) : (wrb e).size ≤ 36 := by unfold wrb; rw [bsq_size]; exact wrd_len h
theorem wrb_eq (e : EN) : itb e.day ++ ⟨#[32]⟩ ++ e.what ++ ⟨#[32]⟩ ++ itb e.val = wrb e := by
 apply ba_ext
 unfold wrb
 rw [bsq_list]
 simp [ByteArray.data_append, wrd, itb]
set_option maxHeartbeats 3200000 in
theorem impl_words (v : Value) (o : EN) (w : World) (hv : vEn o = true) (ha : REN w v o) (hL : LayF w) :
   Calls Tryz.prog 102 #[v] w (Ret (.string (wrb o)) w) := by
 obtain rfl : v = _ := ha
 have hvv := vEn_iff.1 hv
 have hb1 := itb_size o.day (by omega) (by omega)
 have hb2 := itb_size o.val (by omega) (by omega)
 have hb3 := vEn_sm hv
 have HD : Hid (∀ n w, (n = o.day ∨ n = o.val) → LayF w → Calls Tryz.prog 54 #[.int .i64 n] w (Ret (.string (itb n)) w)) := Lib.hid fun n w hn h => impl_Dec n (by rcases hn with rfl | rfl <;> omega) (by rcases hn with rfl | rfl <;> omega) w h
 have HW := Lib.hid (wrb_eq o)
 have hc1 : ¬ 9223372036854775807 < (itb o.day).size + 1 := by omega
 have hc2 : ¬ 9223372036854775807 < (itb o.day).size + 1 + o.what.size := by omega
 have hc3 : ¬ 9223372036854775807 < (itb o.day).size + 1 + o.what.size + 1 := by omega
 have hc4 : ¬ 9223372036854775807 < (itb o.day).size + 1 + o.what.size + 1 + (itb o.val).size := by omega
 have HLL : Hid (∀ T d os, LayF (grow (redrawn (w.alloc (.cells #[.int .i64 o.day, .string o.what, .int .i64 o.val] T)) d) os)) := Lib.hid fun T d os => hL.ext (ext_trans (ext_alloc1 _ _) (below_regrown _ _ _))
 clear hvv hv hb1 hb2 hb3 hL
 have hp := fun T => pEN_box w o T
 have g0 : ∀ T d os, (grow (redrawn (w.alloc (.cells #[.int .i64 o.day, .string o.what, .int .i64 o.val] T)) d) os).cell? ⟨w.heap.size, 0, none⟩ = some (.int .i64 o.day) := fun T d os => cell_regrown (hp T).1 d os
 have g1 : ∀ T d os, (grow (redrawn (w.alloc (.cells #[.int .i64 o.day, .string o.what, .int .i64 o.val] T)) d) os).cell? ⟨w.heap.size, 1, none⟩ = some (.string o.what) := fun T d os => cell_regrown (hp T).2.1 d os
 have g2 : ∀ T d os, (grow (redrawn (w.alloc (.cells #[.int .i64 o.day, .string o.what, .int .i64 o.val] T)) d) os).cell? ⟨w.heap.size, 2, none⟩ = some (.int .i64 o.val) := fun T d os => cell_regrown (hp T).2.2 d os
 clear hp
 go_enter Tryz.func102, Tryz.ntmps102
 go_wp2_with fail
 refine wp_region_quiet_below (by kernel_rfl) (by kernel_rfl) ?_
 repeat (go_big_quiet_step ((go_at_call 54; exact regrown_r (HD.out _ _ (by first | exact Or.inl rfl | exact Or.inr rfl) (HLL.out _ _ _)))))
 refine wpQuiet_nil ?_
 intro w' hw'
 obtain ⟨p, rfl⟩ := hw'
 go_wp2_with fail
 go_ret
 rw [← HW.out]
 exact ⟨rfl, ext_trans (ext_alloc1 _ _) (below_regrown _ _ _)⟩
set_option maxHeartbeats 3200000 in
theorem spec_words (p : Addr) (o : EN) (w : World) (hv : vEn o = true) (hp : PEN w p o) :
   Calls Tryz.prog 126 #[.pointer (some p)] w (Ret (.string (wrb o)) w) := by
 have hvv := vEn_iff.1 hv
 have hb1 := itb_size o.day (by omega) (by omega)
 have hb2 := itb_size o.val (by omega) (by omega)
 have hb3 := vEn_sm hv
 have HD : Hid (∀ n w, (n = o.day ∨ n = o.val) → Calls Tryz.prog 114 #[.int .i64 n] w (Ret (.string (itb n)) w)) := Lib.hid fun n w hn => spec_Dec n (by rcases hn with rfl | rfl <;> omega) (by rcases hn with rfl | rfl <;> omega) w
 have HW := Lib.hid (wrb_eq o)
 have hc1 : ¬ 9223372036854775807 < (itb o.day).size + 1 := by omega
 have hc2 : ¬ 9223372036854775807 < (itb o.day).size + 1 + o.what.size := by omega
 have hc3 : ¬ 9223372036854775807 < (itb o.day).size + 1 + o.what.size + 1 := by omega
 have hc4 : ¬ 9223372036854775807 < (itb o.day).size + 1 + o.what.size + 1 + (itb o.val).size := by omega
 clear hvv hv hb1 hb2 hb3
 have g0 := fun d os => cell_regrown hp.1 d os
 have g1 := fun d os => cell_regrown hp.2.1 d os
 have g2 := fun d os => cell_regrown hp.2.2 d os
 clear hp
 go_enter Tryz.func126, Tryz.ntmps126
 go_wp2_with fail
 refine wp_region_quiet_below (by kernel_rfl) (by kernel_rfl) ?_
 repeat (go_big_quiet_step ((go_at_call 114; exact regrown_r (HD.out _ _ (by first | exact Or.inl rfl | exact Or.inr rfl)))))
 refine wpQuiet_nil ?_
 intro w' hw'
 obtain ⟨p, rfl⟩ := hw'
 go_wp2_with fail
 go_ret
 rw [← HW.out]
 exact ⟨rfl, below_regrown _ _ _⟩
end Go.Proofs.YtfgopboddkhckaaGreatDoor
namespace Go.Proofs.YtfgopboddkhckaaGreatDoor
open Go.ChangeShapes Go.WideShapes Go.ChangeAt Go.RowKit Go.Sort
set_option linter.unusedVariables false
set_option maxRecDepth 8000
attribute [local go_sem ↓] Go.wp_at_zero Go.wp_at_succ
def stpb (b : Int) (s : ByteArray) : Int := stmp b s.data.toList
theorem stpb_bd (b : Int) (s : ByteArray) : 0 ≤ stpb b s ∧ stpb b s ≤ 65518 := stmp_bd _ _
def stk (b : Int) (s : ByteArray) (k : Nat) : Int := stmp b (s.data.toList.take k)
theorem stk_zero (b : Int) (s : ByteArray) : stk b s 0 = (b + 29) % 65519 := rfl
theorem stk_succ (b : Int) (s : ByteArray) (k : Nat) (h : k < s.size) : stk b s (k + 1) = (37 * stk b s k + byt s k) % 65519 := by
 unfold stk
 have h' : k < s.data.toList.length := by rw [size_toList]; exact h
 rw [List.take_succ_eq_append_getElem h', stmp_snoc]
 unfold stp1 byt
 rw [List.getD_eq_getElem?_getD, List.getElem?_eq_getElem h']
 rfl
theorem stk_end (b : Int) (s : ByteArray) : stk b s s.size = stpb b s := by
 unfold stk stpb
 rw [List.take_of_length_le (by rw [size_toList]; exact Nat.le_refl _)]
set_option maxHeartbeats 800000 in
theorem spec_stamp (b : Int) (s : ByteArray) (h0 : 0 ≤ b) (h1 : b ≤ 65518) (hs : s.size ≤ maxLen) (w : World) :
   Calls Tryz.prog 181 #[.int .i64 b, .string s] w (RetP (.int .i64 (stpb b s)) w) := by
 unfold maxLen at hs
 have H0 := Lib.hid (stk_zero b s)
 have hm : Int.tmod (b + 29) 65519 = (b + 29) % 65519 := Int.tmod_eq_emod_of_nonneg (by omega)
 go_enter Tryz.func181, Tryz.ntmps181
 go_wp2_with fail
 clear hm
 go_loop [5, 6] (fun t i => ∃ (k : Nat) (u : Int), k ≤ s.size ∧ i = .int .i64 k ∧ t = .int .i64 u ∧ 0 ≤ u ∧ u ≤ 65518 ∧ Hid (stk b s k = u)) (fun _ i => s.size - (intOf i).toNat)
 case atStart => exact ⟨0, _, Nat.zero_le _, rfl, rfl, by omega, by omega, H0.out⟩
 case round =>
   obtain ⟨k, u, hk, rfl, rfl, hu0, hu1, HU⟩ := hrel
   by_cases hlt : k < s.size
   · have e1 : (0:Int) ≤ k := by omega
     have e2 : (k:Int) < s.size := by omega
     have hy := byt_eq s k hlt
     have hyb := byt_bd s k
     have HS := Lib.hid (stk_succ b s k hlt)
     obtain ⟨y, hyy⟩ : ∃ y, byt s k = y := ⟨_, rfl⟩
     rw [hyy] at hy hyb HS
     clear hyy
     have hm : Int.tmod (37 * u + y) 65519 = (37 * u + y) % 65519 := Int.tmod_eq_emod_of_nonneg (by omega)
     go_wp2_with fail
     go_round
     case rel => exact ⟨k + 1, _, by omega, by go_num, rfl, by omega, by omega, by unfold Hid; rw [HS.out, HU.out]⟩
     case measure => simp [intOf]; omega
   · obtain rfl : k = s.size := by omega
     have HE : Hid (stpb b s = u) := Lib.hid (by rw [← stk_end]; exact HU.out)
     go_wp2_with fail
     go_ret
     exact ⟨ret_int HE.out.symm, rfl⟩
def lnb (st : Int) (e : EN) : ByteArray := bsq (linL st e)
theorem lnb_eq (st : Int) (e : EN) : wrb e ++ ⟨#[32]⟩ ++ itb st ++ ⟨#[10]⟩ = lnb st e := by
 apply ba_ext
 unfold lnb wrb
 rw [bsq_list]
 simp [ByteArray.data_append, linL, itb, bsq]
theorem lnb_size {st : Int} {e : EN} (h : vEn e = true) (h0 : 0 ≤ st) (h1 : st ≤ 65518) : (lnb st e).size ≤ 60 := by unfold lnb; rw [bsq_size]; exact linL_len h h0 h1
set_option maxHeartbeats 1600000 in
theorem spec_line (st : Int) (p : Addr) (o : EN) (w : World) (h0 : 0 ≤ st) (h1 : st ≤ 65518) (hv : vEn o = true) (hp : PEN w p o) :
   Calls Tryz.prog 180 #[.int .i64 st, .pointer (some p)] w (Ret (.string (lnb st o)) w) := by
 have hb1 := wrb_size hv
 have hb2 := itb_size st (by omega) (by omega)
 have HC1 := Lib.hid (spec_words p o w hv hp)
 have HC2 := Lib.hid (fun w => spec_Dec st (by omega) (by omega) w)
 have HE := Lib.hid (lnb_eq st o)
 have hc1 : ¬ 9223372036854775807 < (wrb o).size + 1 := by omega
 have hc2 : ¬ 9223372036854775807 < (wrb o).size + 1 + (itb st).size := by omega
 have hc3 : ¬ 9223372036854775807 < (wrb o).size + 1 + (itb st).size + 1 := by omega
 clear hb1 hb2 hv hp
 go_enter Tryz.func180, Tryz.ntmps180
 go_wp2_with fail
 refine (show Calls _ _ _ _ _ from HC1.out).mono ?_
 rintro e w1 ⟨rfl, hb1⟩
 go_wp2_with fail
 refine (show Calls _ _ _ _ _ from HC2.out _).mono ?_
 rintro e w2 ⟨rfl, hb2⟩
 go_wp2_with fail
 go_ret
 rw [HE.out]
 exact ⟨rfl, ext_trans hb1 hb2⟩
set_option maxHeartbeats 1600000 in
theorem impl_stamp (b : Int) (v : Value) (o : EN) (w : World) (h0 : 0 ≤ b) (h1 : b ≤ 65518) (hv : vEn o = true) (ha : REN w v o) (hL : LayF w) :
   Calls Tryz.prog 168 #[.int .i64 b, v] w (Ret (.int .i64 (stpb b (wrb o))) w) := by
 obtain rfl : v = _ := ha
 have HC1 : Hid (∀ T, Calls Tryz.prog 102 #[.agg #[.int .i64 o.day, .string o.what, .int .i64 o.val]] (w.alloc (.cells #[.int .i64 o.day, .string o.what, .int .i64 o.val] T)) (Ret (.string (wrb o)) (w.alloc (.cells #[.int .i64 o.day, .string o.what, .int .i64 o.val] T)))) := Lib.hid fun T => impl_words _ o _ hv rfl (hL.ext (ext_alloc1 _ _))
 have hsz := wrb_size hv
 have H0 := Lib.hid (stk_zero b (wrb o))
 have hm : Int.tmod (b + 29) 65519 = (b + 29) % 65519 := Int.tmod_eq_emod_of_nonneg (by omega)
 clear hv hL
 go_enter Tryz.func168, Tryz.ntmps168
 go_wp2_with fail
 refine (show Calls _ _ _ _ _ from HC1.out _).mono ?_
 rintro e w1 ⟨rfl, hb1⟩
 have HW := Lib.hid (ext_trans (ext_alloc1 _ _) hb1)
 clear hb1
 generalize wrb o = s at *
 go_wp2_with fail
 clear hm
 go_loop [5, 15] (fun t i => ∃ (k : Nat) (u : Int), k ≤ s.size ∧ i = .int .i64 k ∧ t = .int .i64 u ∧ 0 ≤ u ∧ u ≤ 65518 ∧ Hid (stk b s k = u)) (fun _ i => s.size - (intOf i).toNat)
 case atStart => exact ⟨0, _, Nat.zero_le _, rfl, rfl, by omega, by omega, H0.out⟩
 case round =>
   obtain ⟨k, u, hk, rfl, rfl, hu0, hu1, HU⟩ := hrel
   by_cases hlt : k < s.size
   · have e1 : (0:Int) ≤ k := by omega
     have e2 : (k:Int) < s.size := by omega
     have hy := byt_eq s k hlt
     have hyb := byt_bd s k
     have HS := Lib.hid (stk_succ b s k hlt)
     obtain ⟨y, hyy⟩ : ∃ y, byt s k = y := ⟨_, rfl⟩
     rw [hyy] at hy hyb HS
     clear hyy
     have hm : Int.tmod (37 * u + y) 65519 = (37 * u + y) % 65519 := Int.tmod_eq_emod_of_nonneg (by omega)
     go_wp2_with fail
     go_round
     case rel => exact ⟨k + 1, _, by omega, by go_num, rfl, by omega, by omega, by unfold Hid; rw [HS.out, HU.out]⟩
     case measure => simp [intOf]; omega
   · obtain rfl : k = s.size := by omega
     have HE : Hid (stpb b s = u) := Lib.hid (by rw [← stk_end]; exact HU.out)
     go_wp2_with fail
     go_ret
     exact ⟨ret_int HE.out.symm, HW.out⟩
end Go.Proofs.YtfgopboddkhckaaGreatDoor
