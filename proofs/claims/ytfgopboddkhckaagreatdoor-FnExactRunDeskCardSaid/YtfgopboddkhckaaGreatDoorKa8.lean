/-
  Parts of the proof: Lay2, Val2, Ent, LogP.
-/
import Derived.Test.YtfgopboddkhckaaGreatDoorKa1
import Derived.Test.YtfgopboddkhckaaGreatDoorKa2
import Derived.Test.YtfgopboddkhckaaGreatDoorKa4
import Derived.Test.YtfgopboddkhckaaGreatDoorKa5
import Derived.Test.YtfgopboddkhckaaGreatDoorKa7
import Derived.BigQuiet
import Derived.Lib.QuietBelow
import Derived.Deep.RegionHeld3
import Derived.Deep.DrawnRows
import Derived.Laws.IdiomStrings
namespace Go.Proofs.YtfgopboddkhckaaGreatDoor
open Go.ChangeShapes Go.WideShapes Go.ChangeAt Go.RowKit Go.Sort Go.Joins
set_option linter.unusedVariables false
set_option maxRecDepth 100000

/-- 'append(out, b)', and where the row lies then. -/
theorem wpList_append_byL {w0 : World} {ops : Array Oper} {rest : List Oper} {o : Oper} {a : Act} {Q : Exit → Act → World → Prop} (hgd : o.guard = none) (s x : Operand)
    (ho : o.op = .call { callee := .builtin .append, args := #[s, x], argTypes := #[47, 47] })
    (H : Nat) (hH : w0.heap.size = H) (base : Nat) (v : Value) (xs : List UInt8) (n : Int) (b : UInt8) (hn : (b.toNat : Int) = n) (hs : a.eval s = v) (hx : a.eval x = .slice (some ⟨H, 0, none⟩) 1 1) (hO : OB w0 base v xs)
    (hl : xs.length ≤ 1000000) (hbase : base ≤ w0.heap.size)
    (h : ∀ g c w', OB w' base (.slice (some ⟨g, 0, none⟩) (xs.length + 1) c) (xs ++ [b]) → Chg (BY v) w0 w' → (v.ownBlock = some g ∨ g = H + 1) → wpList Tryz.prog ops Q rest (a.put o.dst (.slice (some ⟨g, 0, none⟩) (xs.length + 1) c)) w') :
    wpList Tryz.prog ops Q (o :: rest) a (w0.alloc (.cells #[.int .u8 n] 5)) := by
  subst hH
  obtain ⟨i0, hi, hz0, hz1, hz2⟩ := info_parts info_u8
  subst hn
  refine wpList_append_lies _ hgd s x _ ho base 5 i0 (.int .u8 0) 1 1 Tryz.underlying47 hi hz0 hz1 hz2 rfl (by omega) v xs.length _ hs (World.ownsRow.alloc hO _)
    ⟨w0.heap.size, 0, none⟩ 1 1 [.int .u8 (b.toNat : Int)] hx rfl (cell_one_new _ _ _) (by simp [Value.oneCell']) (by omega) (by unfold maxLen; omega) (by omega) (by simp; omega) (w0.heap.size + 1) (by simp) ?_
  intro g cap w1 hown hgrow hat hlt
  refine h g cap w1 ?_ ((Chg.of_below (ext_alloc1 _ _) _).trans (Chg.of_grown hgrow)) hat
  unfold OB
  simpa using hown
theorem ltr_u8 (c : CO) (i : Nat) : (((ltr c i).toNat.toUInt8).toNat : Int) = ltr c i := by
  have h := ltr_bd c i
  have : ((ltr c i).toNat.toUInt8).toNat = (ltr c i).toNat := by
    simp [Nat.toUInt8, UInt8.toNat_ofNat']
    omega
  rw [this]; omega
/-- A course being laid: its bytes, and the course's box at q. -/
structure LST (w W : World) (q : Nat) (co : CO) (A : Option Addr) (cp : Nat) (bs : List UInt8) : Prop where
  b : Below w.heap.size w W
  lt : q < W.heap.size
  c0 : W.cell? ⟨q, 0, none⟩ = some (.string co.lead)
  c1 : W.cell? ⟨q, 1, none⟩ = some (.string co.cyc)
  own : OB W w.heap.size (.slice A bs.length cp) bs
  far : ∀ k, BY (.slice A bs.length cp) k → k ≠ q
theorem LST.ext {w W W' : World} {q : Nat} {co : CO} {A : Option Addr} {cp : Nat} {bs : List UInt8} (h : LST w W q co A cp bs) (hb : Below W.heap.size W W') : LST w W' q co A cp bs :=
  ⟨ext_trans h.b hb, Nat.lt_of_lt_of_le h.lt hb.size, cell_keep h.c0 hb, cell_keep h.c1 hb, h.own.ext hb, h.far⟩
theorem LST.app {w W W' : World} {q g cp2 : Nat} {co : CO} {A : Option Addr} {cp : Nat} {bs : List UInt8} {x : UInt8} (h : LST w W q co A cp bs) (hO : OB W' w.heap.size (.slice (some ⟨g, 0, none⟩) (bs.length + 1) cp2) (bs ++ [x]))
    (hC : Chg (BY (.slice A bs.length cp)) W W') (hat : (Value.slice A bs.length cp).ownBlock = some g ∨ g = W.heap.size + 1) : LST w W' q co (some ⟨g, 0, none⟩) cp2 (bs ++ [x]) := by
  have hl : (bs ++ [x]).length = bs.length + 1 := by simp
  have hlt := h.lt
  refine ⟨Chg.ext h.b hC (fun k hk => (h.own.ge k hk).1), Nat.lt_of_lt_of_le h.lt hC.size, hC.cell h.c0 (fun hs => h.far _ hs rfl), hC.cell h.c1 (fun hs => h.far _ hs rfl), by rw [hl]; exact hO, fun k hk => ?_⟩
  obtain rfl : g = k := Option.some.inj hk
  rcases hat with e | e
  · exact h.far g e
  · omega
def layR (t : ByteArray) : ByteArray × Int := if 60 < t.size then (⟨#[]⟩, 5) else (t, 0)
theorem layR_long {l : List UInt8} (h : 60 < l.length) : layR ⟨l.toArray⟩ = (⟨#[]⟩, 5) := by
  unfold layR; exact if_pos (show 60 < l.toArray.size by simpa using h)
theorem layR_short {l : List UInt8} (h : ¬ 60 < l.length) : layR ⟨l.toArray⟩ = (⟨l.toArray⟩, 0) := by
  unfold layR; exact if_neg (show ¬ 60 < l.toArray.size by simpa using h)
set_option maxHeartbeats 3200000 in
theorem impl_layCourse (A0 : Option Addr) (c0 : Nat) (nm : ByteArray) (cs : List CO) (k0 : Nat) (L : Int) (hk0 : k0 ≤ 1000) (hL0 : 1 ≤ L) (hL : L ≤ 200) (hv : vB nm cs = true) (w : World) (ha : RCOS w (.slice A0 cs.length c0) cs) :
    Calls Tryz.prog 155 #[.agg #[.string nm, .slice A0 cs.length c0], .int .i64 k0, .int .i64 L] w
      (Ret (.tuple #[.string (layR (layT (gd cs (k0 % cs.length)) L)).1, .int .i64 (layR (layT (gd cs (k0 % cs.length)) L)).2]) w) := by
  have hvv : 1 ≤ cs.length ∧ cs.length ≤ 8 ∧ ∀ k, k < cs.length → vC (gd cs k) = true := by
    unfold vB at hv
    simp only [Bool.and_eq_true] at hv
    have h2 := inB_iff.1 hv.1.2
    exact ⟨by omega, by omega, fun k hk => List.all_eq_true.1 hv.2 _ (gd_mem hk)⟩
  have HC := Lib.hid (fun w h => impl_course A0 c0 nm cs k0 hk0 hvv.1 hvv.2.1 w h)
  have HA := Lib.hid ha
  have hvc := hvv.2.2 (k0 % cs.length) (Nat.mod_lt _ (by omega))
  obtain ⟨co, hco⟩ : ∃ co, gd cs (k0 % cs.length) = co := ⟨_, rfl⟩
  rw [hco] at HC hvc
  rw [hco]
  have HV := Lib.hid hvc
  clear hco ha hvv hv hvc
  go_enter Tryz.func155, Tryz.ntmps155
  go_wp2_with fail
  refine (show Calls _ _ _ _ _ from HC.out _ (HA.out.alloc _)).mono ?_
  rintro e w1 ⟨rfl, hb⟩
  have HB := Lib.hid (ext_trans (ext_alloc1 _ _) hb)
  clear hb
  go_wp2_with fail
  have HS : Hid (LST w ((w1.alloc (.cells #[] 5)).alloc (.cells #[.string co.lead, .string co.cyc] 102)) (w1.heap.size + 1) co (some ⟨w1.heap.size, 0, none⟩) 0 []) := Lib.hid (by
    refine ⟨ext_alloc (ext_alloc HB.out _) _, by simp, by simp [go_sem], by simp [go_sem], (ob_lit w1 w.heap.size HB.out.size).ext (ext_alloc1 _ _), fun k hk => ?_⟩
    obtain rfl : w1.heap.size = k := Option.some.inj hk
    omega)
  generalize (w1.alloc (.cells #[] 5)).alloc (.cells #[.string co.lead, .string co.cyc] 102) = wb at *
  generalize w1.heap.size + 1 = q at *
  generalize w1.heap.size = g0 at *
  have HAT := Lib.hid (LayAt.zero (c := co) (L := L) (by omega))
  go_loopw [9, 10] (fun u a wr => ∃ (k : Nat) (A : Option Addr) (cp : Nat), k ≤ 200 ∧ u = .slice A k cp ∧ a = .int .i64 (atK co k) ∧ Hid (LayAt co L k) ∧ Hid (LST w wr q co A cp (layL co k))) (fun u _ _ => 201 - (match u with | .slice _ n _ => n | _ => 0))
  case atStart => exact ⟨0, some ⟨g0, 0, none⟩, 0, by omega, rfl, rfl, HAT, HS⟩
  case round =>
    obtain ⟨k, A, cp, hk, rfl, rfl, HT, HR⟩ := hrel
    have p0 := HR.out.c0
    have p1 := HR.out.c1
    have HP := Lib.hid (fun w => impl_piece co k HV.out (by omega) w)
    have hbd := ltr_bd co k
    have hq := ltr_q HV.out k
    have hab := atK_bd HV.out k
    have HQ := Lib.hid (fun w => impl_quarters (ltr co k) hbd.1 hbd.2 w)
    have HK : Hid (atK co (k + 1) = atK co k + qC (ltr co k)) := Lib.hid rfl
    have HB8 := Lib.hid (ltr_u8 co k)
    have HLS := Lib.hid (layL_succ co k)
    obtain ⟨y, hy⟩ : ∃ y, ltr co k = y := ⟨_, rfl⟩
    obtain ⟨z, hz⟩ : ∃ z, qC (ltr co k) = z := ⟨_, rfl⟩
    obtain ⟨t, ht⟩ : ∃ t, atK co k = t := ⟨_, rfl⟩
    rw [hz] at hq HK HQ
    rw [hy] at HP HQ HB8 HLS
    rw [ht] at hab HK
    rw [ht]
    have htt := Lib.hid ht
    clear hy hz ht hbd
    go_wp2_with fail
    refine (show Calls _ _ _ _ _ from HP.out _).mono ?_
    rintro e w3 ⟨rfl, hb⟩
    replace HR := Lib.hid (HR.out.ext hb)
    clear hb p0 p1
    have p0 := HR.out.c0
    have p1 := HR.out.c1
    by_cases hgo : L < t + z
    · have HN : Hid (lenN co L = k) := Lib.hid (HT.out.stop (by rw [HK.out]; exact hgo))
      have HLT0 : layT co L = ⟨(layL co k ++ lastC (L - atK co k)).toArray⟩ := by unfold layT; rw [HN.out]
      have hll := layL_len co k
      rw [htt.out] at HLT0
      obtain ⟨bs, hbs⟩ : ∃ bs, layL co k = bs := ⟨_, rfl⟩
      rw [hbs] at HR HLT0 hll
      have HLL := Lib.hid hll
      have HLT := Lib.hid HLT0
      have hbl : bs.length ≤ 200 := by omega
      have HO := Lib.hid (show OB w3 w.heap.size (.slice A k cp) bs from by have := HR.out.own; rwa [HLL.out] at this)
      have HSZ := Lib.hid HR.out.b.size
      clear hbs hll HLT0
      go_wp2_with fail
      refine (show Calls _ _ _ _ _ from HQ.out _).mono ?_
      rintro e w4 ⟨rfl, rfl⟩
      by_cases h1 : L - t = 1
      · have e1 : (L - t == 1) = true := by simpa using h1
        replace HLT : Hid (layT co L = ⟨(bs ++ [67]).toArray⟩) := Lib.hid (by rw [HLT.out]; unfold lastC; rw [if_pos h1])
        by_cases hlong : 60 < bs.length + 1
        · have HX := Lib.hid (layR_long (l := bs ++ [67]) (by simpa using hlong))
          have hlong2 : (60 : Int) < (bs.length : Int) + 1 := by omega
          go_wp2_with (at_builtin; refine wpList_append_byL rfl _ _ rfl w3.heap.size rfl w.heap.size (.slice A k cp) bs 67 67 rfl rfl rfl HO.out (by omega) HSZ.out ?_; intro g cp2 w5 hO5 hC5 hat5; have HB5 := Lib.hid (Chg.ext HR.out.b hC5 (fun j hj => (HO.out.ge j hj).1)); have hcv := conv_rb hO5.rd)
          all_goals (go_ret2; rw [HLT.out, HX.out]; exact ⟨rfl, HB5.out⟩)
        · have HX := Lib.hid (layR_short (l := bs ++ [67]) (by simpa using hlong))
          have hlong2 : ¬ (60 : Int) < (bs.length : Int) + 1 := by omega
          go_wp2_with (at_builtin; refine wpList_append_byL rfl _ _ rfl w3.heap.size rfl w.heap.size (.slice A k cp) bs 67 67 rfl rfl rfl HO.out (by omega) HSZ.out ?_; intro g cp2 w5 hO5 hC5 hat5; have HB5 := Lib.hid (Chg.ext HR.out.b hC5 (fun j hj => (HO.out.ge j hj).1)); have hcv := conv_rb hO5.rd)
          all_goals (go_ret2; rw [HLT.out, HX.out]; exact ⟨rfl, HB5.out⟩)
      · have e1 : (L - t == 1) = false := by simpa using h1
        by_cases h2 : L - t = 2
        · have e2 : (L - t == 2) = true := by simpa using h2
          replace HLT : Hid (layT co L = ⟨(bs ++ [66]).toArray⟩) := Lib.hid (by rw [HLT.out]; unfold lastC; rw [if_neg h1, if_pos h2])
          by_cases hlong : 60 < bs.length + 1
          · have HX := Lib.hid (layR_long (l := bs ++ [66]) (by simpa using hlong))
            have hlong2 : (60 : Int) < (bs.length : Int) + 1 := by omega
            go_wp2_with (at_builtin; refine wpList_append_byL rfl _ _ rfl w3.heap.size rfl w.heap.size (.slice A k cp) bs 66 66 rfl rfl rfl HO.out (by omega) HSZ.out ?_; intro g cp2 w5 hO5 hC5 hat5; have HB5 := Lib.hid (Chg.ext HR.out.b hC5 (fun j hj => (HO.out.ge j hj).1)); have hcv := conv_rb hO5.rd)
            all_goals (go_ret2; rw [HLT.out, HX.out]; exact ⟨rfl, HB5.out⟩)
          · have HX := Lib.hid (layR_short (l := bs ++ [66]) (by simpa using hlong))
            have hlong2 : ¬ (60 : Int) < (bs.length : Int) + 1 := by omega
            go_wp2_with (at_builtin; refine wpList_append_byL rfl _ _ rfl w3.heap.size rfl w.heap.size (.slice A k cp) bs 66 66 rfl rfl rfl HO.out (by omega) HSZ.out ?_; intro g cp2 w5 hO5 hC5 hat5; have HB5 := Lib.hid (Chg.ext HR.out.b hC5 (fun j hj => (HO.out.ge j hj).1)); have hcv := conv_rb hO5.rd)
            all_goals (go_ret2; rw [HLT.out, HX.out]; exact ⟨rfl, HB5.out⟩)
        · have e2 : (L - t == 2) = false := by simpa using h2
          by_cases h3 : L - t = 3
          · have e3 : (L - t == 3) = true := by simpa using h3
            replace HLT : Hid (layT co L = ⟨(bs ++ [84]).toArray⟩) := Lib.hid (by rw [HLT.out]; unfold lastC; rw [if_neg h1, if_neg h2, if_pos h3])
            by_cases hlong : 60 < bs.length + 1
            · have HX := Lib.hid (layR_long (l := bs ++ [84]) (by simpa using hlong))
              have hlong2 : (60 : Int) < (bs.length : Int) + 1 := by omega
              go_wp2_with (at_builtin; refine wpList_append_byL rfl _ _ rfl w3.heap.size rfl w.heap.size (.slice A k cp) bs 84 84 rfl rfl rfl HO.out (by omega) HSZ.out ?_; intro g cp2 w5 hO5 hC5 hat5; have HB5 := Lib.hid (Chg.ext HR.out.b hC5 (fun j hj => (HO.out.ge j hj).1)); have hcv := conv_rb hO5.rd)
              all_goals (go_ret2; rw [HLT.out, HX.out]; exact ⟨rfl, HB5.out⟩)
            · have HX := Lib.hid (layR_short (l := bs ++ [84]) (by simpa using hlong))
              have hlong2 : ¬ (60 : Int) < (bs.length : Int) + 1 := by omega
              go_wp2_with (at_builtin; refine wpList_append_byL rfl _ _ rfl w3.heap.size rfl w.heap.size (.slice A k cp) bs 84 84 rfl rfl rfl HO.out (by omega) HSZ.out ?_; intro g cp2 w5 hO5 hC5 hat5; have HB5 := Lib.hid (Chg.ext HR.out.b hC5 (fun j hj => (HO.out.ge j hj).1)); have hcv := conv_rb hO5.rd)
              all_goals (go_ret2; rw [HLT.out, HX.out]; exact ⟨rfl, HB5.out⟩)
          · have e3 : (L - t == 3) = false := by simpa using h3
            replace HLT : Hid (layT co L = ⟨bs.toArray⟩) := Lib.hid (by rw [HLT.out]; unfold lastC; rw [if_neg h1, if_neg h2, if_neg h3]; simp)
            have HB5 := Lib.hid HR.out.b
            have hcv := conv_rb (show RB w3 (.slice A k cp) bs from by have := HO.out.rd; exact this)
            by_cases hlong : 60 < bs.length
            · have HX := Lib.hid (layR_long (l := bs) hlong)
              have hlong2 : (60 : Int) < (k : Int) := by have := HLL.out; omega
              clear hcv
              go_wp2_with fail
              all_goals (go_ret2; rw [HLT.out, HX.out]; exact ⟨rfl, HB5.out⟩)
            · have HX := Lib.hid (layR_short (l := bs) hlong)
              have hlong2 : ¬ (60 : Int) < (k : Int) := by have := HLL.out; omega
              go_wp2_with fail
              all_goals (go_ret2; rw [HLT.out, HX.out]; exact ⟨rfl, HB5.out⟩)
    · have HT2 := Lib.hid (HT.out.next HV.out hL (by rw [HK.out]; exact hgo))
      go_wp2_with fail
      refine (show Calls _ _ _ _ _ from HQ.out _).mono ?_
      rintro e w4 ⟨rfl, rfl⟩
      have hll := layL_len co k
      obtain ⟨bs, hbs⟩ : ∃ bs, layL co k = bs := ⟨_, rfl⟩
      rw [hbs] at HR HLS hll
      have HLL := Lib.hid hll
      have hbl : bs.length ≤ 200 := by omega
      have HO := Lib.hid (show OB w3 w.heap.size (.slice A k cp) bs from by have := HR.out.own; rwa [HLL.out] at this)
      have HSZ := Lib.hid HR.out.b.size
      clear hbs hll
      go_wp2_with (at_builtin; refine wpList_append_byL rfl _ _ rfl w3.heap.size rfl w.heap.size (.slice A k cp) bs y y.toNat.toUInt8 HB8.out rfl rfl HO.out (by omega) HSZ.out ?_; intro g cp2 w5 hO5 hC5 hat5)
      go_wp2_with fail
      refine (show Calls _ _ _ _ _ from HQ.out _).mono ?_
      rintro e w6 ⟨rfl, rfl⟩
      have HR2 := Lib.hid (HR.out.app hO5 (by rw [HLL.out]; exact hC5) (by rw [HLL.out]; exact hat5))
      rw [← HLS.out] at HR2
      have hrr : Hid (bs.length + 1 = k + 1) := Lib.hid (by rw [HLL.out])
      go_wp2_with fail
      go_roundw
      case rel => exact ⟨k + 1, some ⟨g, 0, none⟩, cp2, by have := HT2.out.1; omega, by rw [hrr.out], by rw [HK.out], HT2, HR2⟩
      case measure => have := HLL.out; simp; omega
end Go.Proofs.YtfgopboddkhckaaGreatDoor
namespace Go.Proofs.YtfgopboddkhckaaGreatDoor
open Go.ChangeShapes Go.WideShapes Go.ChangeAt Go.RowKit Go.Sort Go.Joins
set_option linter.unusedVariables false
set_option maxRecDepth 100000

def SmWall (l : List ByteArray) : Prop := ∀ k, k < l.length → (gd l k).size ≤ 1048576
set_option maxHeartbeats 1600000 in
theorem badwall_fn (s t : ByteArray) (hs : s.size ≤ 1048576) (ht : t.size ≤ 1048576) (b : Nat) (ad : Addr) (n c : Nat) (hn : 1 ≤ n) (w : World) (hb : w.cell? ⟨b, 0, none⟩ = some (.slice (some ad) n c)) (hc : w.cell? ad = some (.string t)) :
    Calls Tryz.prog 146 #[.string s, .pointer (some ⟨b, 0, none⟩)] w (Ret (.bool (!vCw t s)) w) := by
  have HV : Hid (vCw t s = (vCo s && decide (lenC s = lenC t))) := Lib.hid rfl
  obtain ⟨x, hx⟩ : ∃ x, vCo s = x := ⟨_, rfl⟩
  have HC : Hid (∀ w, Calls Tryz.prog 147 #[.string s] w (Ret (.bool x) w)) := Lib.hid (fun w => RetP.ret (RetP.bool (impl_okC s hs w) hx))
  have HL : Hid (∀ u w, (u = s ∨ u = t) → Calls Tryz.prog 148 #[.string u] w (Ret (.int .i64 (lenC u)) w)) := Lib.hid (fun u w h => RetP.ret (impl_length u (by rcases h with rfl | rfl <;> assumption) w))
  rw [hx] at HV
  clear hx
  have g1 := fun d os => cell_regrown hb d os
  have g2 := fun d os => cell_regrown hc d os
  have hn2 : (0 : Int) < n := by omega
  clear hb hc
  cases x
  · go_enter Tryz.func146, Tryz.ntmps146
    go_wp2_with fail
    refine wp_region_quiet_below (by kernel_rfl) (by kernel_rfl) ?_
    repeat (go_big_quiet_step (first | (go_at_call 147; exact regrown_r (HC.out _)) | (go_at_call 148; exact regrown_r (HL.out _ _ (by simp)))))
    refine wpQuiet_nil ?_
    intro w' hw'
    obtain ⟨p, rfl⟩ := hw'
    go_wp2_with fail
    go_ret
    exact ⟨ret_bool (by rw [HV.out]; rfl), below_regrown w p.d p.os⟩
  · obtain ⟨a1, h1⟩ : ∃ a, lenC s = a := ⟨_, rfl⟩
    obtain ⟨a2, h2⟩ : ∃ a, lenC t = a := ⟨_, rfl⟩
    rw [h1, h2] at HV
    go_enter Tryz.func146, Tryz.ntmps146
    go_wp2_with fail
    refine wp_region_quiet_below (by kernel_rfl) (by kernel_rfl) ?_
    repeat (go_big_quiet_step (first | (go_at_call 147; exact regrown_r (HC.out _)) | (go_at_call 148; exact regrown_r (HL.out _ _ (by simp)))))
    refine wpQuiet_nil ?_
    intro w' hw'
    obtain ⟨p, rfl⟩ := hw'
    go_wp2_with fail
    go_ret
    exact ⟨ret_bool (by rw [HV.out]; by_cases h : a1 = a2 <;> simp [h]), below_regrown w p.d p.os⟩
set_option maxHeartbeats 1600000 in
theorem badwall_idx (A : Option Addr) (c : Nat) (l : List ByteArray) (b : Nat) (w : World) (hR : RStr w (.slice A l.length c) l) (hsm : SmWall l) (hb : w.cell? ⟨b, 0, none⟩ = some (.slice A l.length c)) (z : Bool) (hz : l.all (vCw (gd l 0)) = z) :
    Calls Tryz.prog 199 #[.slice A l.length c, .func (.func 146) #[] #[.pointer (some ⟨b, 0, none⟩)]] w fun e w' => (∃ i : Int, e = .returned (.int .i64 i) ∧ (z = false → 0 ≤ i) ∧ (z = true → i = -1)) ∧ Below w.heap.size w w' := by
  obtain ⟨_, _, hvv, hc1, hc2⟩ := hR.open_
  have HR := Lib.hid hR; clear hR
  have HSM := Lib.hid hsm
  have HBX := Lib.hid hb
  have HZ := Lib.hid hz
  unfold maxLen at hc2
  have hlm : l.length ≤ 9223372036854775807 := by omega
  clear hsm hb hvv hc1 hc2 hz
  go_enter Tryz.func199, Tryz.ntmps199
  go_wp2_with fail
  go_loopw [8] (fun i wr => ∃ k : Nat, k ≤ l.length ∧ i = .int .i64 k ∧ Hid ((l.take k).all (vCw (gd l 0)) = true) ∧ Hid (Below w.heap.size w wr)) (fun i _ => l.length - (intOf i).toNat)
  case atStart => exact ⟨0, Nat.zero_le _, rfl, Lib.hid rfl, Lib.hid (ext_refl _)⟩
  case round =>
    obtain ⟨k, hk, rfl, HA, HB⟩ := hrel
    have e1 : (0 : Int) ≤ k := by omega
    by_cases hlt : k < l.length
    · have e2 : (k : Int) < l.length := by omega
      have HBX2 := Lib.hid (cell_keep HBX.out HB.out)
      obtain ⟨ad, rfl, _, hc⟩ := (HR.out.ext HB.out).at hlt
      have p0 := hc k hlt
      have HP0 : Hid (wr.cell? ad = some (.string (gd l 0))) := Lib.hid (by have h := hc 0 (by omega); rwa [Addr.add_zero'] at h)
      have hs1 := HSM.out k hlt
      have hs2 := HSM.out 0 (by omega)
      have HA2 := Lib.hid (vCw_succ (t := gd l 0) hlt)
      clear hc
      have HQ := Lib.hid (fun h => vCw_no (t := gd l 0) hlt h)
      have HF := Lib.hid (badwall_fn (gd l k) (gd l 0) hs1 hs2 b ad l.length c (by omega) wr HBX2.out HP0.out)
      obtain ⟨t, ht⟩ : ∃ t, gd l 0 = t := ⟨_, rfl⟩
      obtain ⟨o, ho⟩ : ∃ o, gd l k = o := ⟨_, rfl⟩
      rw [ho] at p0 HF HA2 HQ
      rw [ht] at HF HA2 HQ HA
      have HTT := Lib.hid ht
      clear ho ht hs1 hs2
      go_wp2_with fail
      refine (show Calls _ _ _ _ _ from HF.out).mono ?_
      rintro e w3 ⟨rfl, hb3⟩
      have HB3 := Lib.hid (ext_trans HB.out hb3)
      clear hb3
      cases hv : vCw t o with
      | false =>
        have HF := Lib.hid (HQ.out hv)
        clear hv
        go_wp2_with fail
        go_ret
        exact ⟨⟨_, rfl, fun _ => by omega, fun h => by rw [← HZ.out, HTT.out, HF.out] at h; cases h⟩, HB3.out⟩
      | true =>
        have HA3 : Hid ((l.take (k + 1)).all (vCw (gd l 0)) = true) := Lib.hid (by rw [HTT.out, HA2.out, HA.out, hv]; rfl)
        clear hv
        go_wp2_with fail
        go_roundw
        case rel => exact ⟨k + 1, by omega, by go_num, HA3.out, HB3⟩
        case measure => simp [intOf]; omega
    · obtain rfl : k = l.length := by omega
      have e2 : ¬ (l.length : Int) < l.length := by omega
      have HAll : Hid (l.all (vCw (gd l 0)) = true) := Lib.hid (by have := HA.out; rwa [List.take_length] at this)
      go_wp2_with fail
      go_ret
      exact ⟨⟨-1, rfl, fun h => (by rw [← HZ.out, HAll.out] at h; cases h), fun _ => rfl⟩, HB.out⟩
theorem badwall_has (A : Option Addr) (c : Nat) (l : List ByteArray) (b : Nat) (w : World) (hR : RStr w (.slice A l.length c) l) (hsm : SmWall l) (hb : w.cell? ⟨b, 0, none⟩ = some (.slice A l.length c)) :
    Calls Tryz.prog 145 #[.slice A l.length c, .func (.func 146) #[] #[.pointer (some ⟨b, 0, none⟩)]] w (Ret (.bool (!l.all (vCw (gd l 0)))) w) := by
  obtain ⟨z, hz⟩ : ∃ z, l.all (vCw (gd l 0)) = z := ⟨_, rfl⟩
  have HI := Lib.hid (badwall_idx A c l b w hR hsm hb z hz)
  rw [hz]
  clear hR hsm hb hz
  go_enter Tryz.func145, Tryz.ntmps145
  go_wp2_with fail
  refine (show Calls _ _ _ _ _ from HI.out).mono ?_
  rintro e w' ⟨⟨i, rfl, hi1, hi2⟩, hb⟩
  have HB := Lib.hid hb
  clear hb HI
  cases z with
  | false =>
    have h0 := hi1 rfl
    clear hi1 hi2
    go_wp2_with fail
    go_ret
    exact ⟨ret_bool (by simp), HB.out⟩
  | true =>
    obtain rfl := hi2 rfl
    clear hi1 hi2
    go_wp2_with fail
    go_ret
    exact ⟨ret_bool (by simp), HB.out⟩
set_option maxHeartbeats 1600000 in
theorem impl_okW (A : Option Addr) (c : Nat) (l : List ByteArray) (w : World) (hR : RStr w (.slice A l.length c) l) (hsm : SmWall l) :
    Calls Tryz.prog 79 #[.slice A l.length c] w (Ret (.bool (vW l)) w) := by
  have HR := Lib.hid hR; clear hR
  have HC := Lib.hid (fun (b : Nat) w h h2 => badwall_has A c l b w h hsm h2)
  have HV : Hid (vW l = (inB l.length 1 40 && l.all (vCw (gd l 0)))) := Lib.hid rfl
  obtain ⟨y, hy⟩ : ∃ y, inB l.length 1 40 = y := ⟨_, rfl⟩
  obtain ⟨z, hz⟩ : ∃ z, l.all (vCw (gd l 0)) = z := ⟨_, rfl⟩
  have HI := Lib.hid (fun w => RetP.bool (impl_within (l.length : Int) 1 40 w) hy)
  rw [hy, hz] at HV
  rw [hz] at HC
  clear hy hz hsm
  go_enter Tryz.func79, Tryz.ntmps79
  go_wp2_with fail
  refine (show Calls _ _ _ _ _ from HI.out _).mono ?_
  rintro e w1 ⟨rfl, rfl⟩
  cases y
  · go_wp2_with fail
    go_ret
    exact ⟨ret_bool (by rw [HV.out]; rfl), ext_alloc1 _ _⟩
  · go_wp2_with fail
    refine (show Calls _ _ _ _ _ from HC.out _ _ (HR.out.alloc _) (by simp [go_sem])).mono ?_
    rintro e w1 ⟨rfl, hb⟩
    have HB := Lib.hid hb
    clear hb
    go_wp2_with fail
    go_ret
    exact ⟨ret_bool (by rw [HV.out]; simp), ext_trans (ext_alloc1 _ _) HB.out⟩
set_option maxHeartbeats 3200000 in
theorem spec_okW (A : Option Addr) (c : Nat) (l : List ByteArray) (w : World) (hR : RStr w (.slice A l.length c) l) (hsm : SmWall l) :
    Calls Tryz.prog 75 #[.slice A l.length c] w (Ret (.bool (vW l)) w) := by
  obtain ⟨_, _, hvv, hc1, hc2⟩ := hR.open_
  have HR := Lib.hid hR; clear hR
  have HSM := Lib.hid hsm
  unfold maxLen at hc2
  have hlm : l.length ≤ 9223372036854775807 := by omega
  clear hsm hvv hc1 hc2
  go_enter Tryz.func75, Tryz.ntmps75
  go_wp2_with fail
  go_loopw [3] (fun i wr => ∃ k : Nat, k ≤ l.length ∧ i = .int .i64 k ∧ Hid ((l.take k).all (vCw (gd l 0)) = true) ∧ Hid (Below w.heap.size w wr)) (fun i _ => l.length - (intOf i).toNat)
  case atStart => exact ⟨0, Nat.zero_le _, rfl, Lib.hid rfl, Lib.hid (ext_refl _)⟩
  case round =>
    obtain ⟨k, hk, rfl, HA, HB⟩ := hrel
    have e1 : (0 : Int) ≤ k := by omega
    by_cases hlt : k < l.length
    · have e2 : (k : Int) < l.length := by omega
      have e3 : (0 : Int) < l.length := by omega
      obtain ⟨ad, rfl, _, hc⟩ := (HR.out.ext HB.out).at hlt
      have p0 := hc k hlt
      have p1 : wr.cell? ad = some (.string (gd l 0)) := by have h := hc 0 (by omega); rwa [Addr.add_zero'] at h
      have hs1 := HSM.out k hlt
      have hs2 := HSM.out 0 (by omega)
      have HA2 := Lib.hid (vCw_succ (t := gd l 0) hlt)
      clear hc
      have HQ := Lib.hid (fun h => vCw_no (t := gd l 0) hlt h)
      obtain ⟨t, ht⟩ : ∃ t, gd l 0 = t := ⟨_, rfl⟩
      obtain ⟨o, ho⟩ : ∃ o, gd l k = o := ⟨_, rfl⟩
      rw [ho] at p0 HA2 HQ hs1
      rw [ht] at p1 HA2 HQ HA hs2
      have HTT := Lib.hid ht
      clear ho ht
      have HV : Hid (vCw t o = (vCo o && decide (lenC o = lenC t))) := Lib.hid rfl
      obtain ⟨x, hx⟩ : ∃ x, vCo o = x := ⟨_, rfl⟩
      have HC : Hid (∀ w, Calls Tryz.prog 138 #[.string o] w (Ret (.bool x) w)) := Lib.hid (fun w => RetP.ret (RetP.bool (spec_okC o hs1 w) hx))
      have HL : Hid (∀ u w, (u = o ∨ u = t) → Calls Tryz.prog 139 #[.string u] w (Ret (.int .i64 (lenC u)) w)) := Lib.hid (fun u w h => RetP.ret (spec_length u (by rcases h with rfl | rfl <;> assumption) w))
      rw [hx] at HV
      have g0 := fun d os => cell_regrown p0 d os
      have g1 := fun d os => cell_regrown p1 d os
      clear hx hs1 hs2 p0 p1
      cases x
      · have HF := Lib.hid (HQ.out (by rw [HV.out]; rfl))
        have HG : Hid (vW l = false) := Lib.hid (by unfold vW; rw [HTT.out, HF.out]; simp)
        go_wp2_with fail
        refine wp_region_quiet_below (by kernel_rfl) (by kernel_rfl) ?_
        repeat (go_big_quiet_step (first | (go_at_call 138; exact regrown_r (HC.out _)) | (go_at_call 139; exact regrown_r (HL.out _ _ (by simp)))))
        refine wpQuiet_nil ?_
        intro w' hw'
        obtain ⟨p, rfl⟩ := hw'
        go_wp2_with fail
        go_ret
        exact ⟨ret_bool HG.out.symm, ext_trans HB.out (below_regrown wr p.d p.os)⟩
      · by_cases hE : lenC o = lenC t
        · have HA3 : Hid ((l.take (k + 1)).all (vCw (gd l 0)) = true) := Lib.hid (by rw [HTT.out, HA2.out, HA.out, HV.out, decide_eq_true hE]; rfl)
          have hE2 : (lenC o != lenC t) = false := by rw [hE]; simp
          clear hE
          go_wp2_with fail
          refine wp_region_quiet_below (by kernel_rfl) (by kernel_rfl) ?_
          repeat (go_big_quiet_step (first | (go_at_call 138; exact regrown_r (HC.out _)) | (go_at_call 139; exact regrown_r (HL.out _ _ (by simp)))))
          refine wpQuiet_nil ?_
          intro w' hw'
          obtain ⟨p, rfl⟩ := hw'
          have HB3 := Lib.hid (ext_trans HB.out (below_regrown wr p.d p.os))
          clear g0 g1
          go_wp2_with fail
          go_roundw
          case rel => exact ⟨k + 1, by omega, by go_num, HA3.out, HB3⟩
          case measure => simp [intOf]; omega
        · have HF := Lib.hid (HQ.out (by rw [HV.out, decide_eq_false hE]; rfl))
          have HG : Hid (vW l = false) := Lib.hid (by unfold vW; rw [HTT.out, HF.out]; simp)
          have hE2 : (lenC o != lenC t) = true := bne_iff_ne.2 hE
          clear hE
          go_wp2_with fail
          refine wp_region_quiet_below (by kernel_rfl) (by kernel_rfl) ?_
          repeat (go_big_quiet_step (first | (go_at_call 138; exact regrown_r (HC.out _)) | (go_at_call 139; exact regrown_r (HL.out _ _ (by simp)))))
          refine wpQuiet_nil ?_
          intro w' hw'
          obtain ⟨p, rfl⟩ := hw'
          go_wp2_with fail
          go_ret
          exact ⟨ret_bool HG.out.symm, ext_trans HB.out (below_regrown wr p.d p.os)⟩
    · obtain rfl : k = l.length := by omega
      have e2 : ¬ (l.length : Int) < l.length := by omega
      have HAll : Hid (l.all (vCw (gd l 0)) = true) := Lib.hid (by have := HA.out; rwa [List.take_length] at this)
      have HV : Hid (vW l = inB l.length 1 40) := Lib.hid (by unfold vW; rw [HAll.out]; simp)
      have HI := Lib.hid (fun w => spec_in (l.length : Int) 1 40 w)
      go_wp2_with fail
      refine (show Calls _ _ _ _ _ from HI.out _).mono ?_
      rintro e w1 ⟨rfl, rfl⟩
      go_wp2_with fail
      go_ret
      exact ⟨ret_bool HV.out.symm, HB.out⟩
end Go.Proofs.YtfgopboddkhckaaGreatDoor
namespace Go.Proofs.YtfgopboddkhckaaGreatDoor
open Go.ChangeShapes Go.WideShapes Go.ChangeAt Go.RowKit Go.Sort Go.Joins
set_option linter.unusedVariables false

structure EN where
  day : Int
  what : ByteArray
  val : Int
instance : Inhabited EN := ⟨⟨0, ⟨#[]⟩, 0⟩⟩
def cEN (o : EN) : List Value := [.int .i64 o.day, .string o.what, .int .i64 o.val]
theorem cEN_len (o : EN) : (cEN o).length = 3 := rfl
/-- v is the struct o. -/
def REN (_ : World) (v : Value) (o : EN) : Prop := v = .agg #[.int .i64 o.day, .string o.what, .int .i64 o.val]
theorem REN.ext {w w' : World} {v : Value} {o : EN} (h : REN w v o) (_ : Below w.heap.size w w') : REN w' v o := h
/-- The same, where a call gave it. -/
def OEN (_ : World) (_ : Nat) (v : Value) (o : EN) : Prop := v = .agg #[.int .i64 o.day, .string o.what, .int .i64 o.val]
theorem OEN.rd {w : World} {b : Nat} {v : Value} {o : EN} (h : OEN w b v o) : REN w v o := h
theorem OEN.ext {w w' : World} {b : Nat} {v : Value} {o : EN} (h : OEN w b v o) (_ : Below w.heap.size w w') : OEN w' b v o := h
def SmEN (o : EN) : Prop := o.what.size ≤ 1048576
def LenEN (o : EN) : Prop := o.what.size ≤ maxLen
/-- The cells of o behind an address. -/
def PEN (w : World) (p : Addr) (o : EN) : Prop := w.cell? p = some (.int .i64 o.day) ∧ w.cell? ⟨p.block, p.off + 1, none⟩ = some (.string o.what) ∧ w.cell? ⟨p.block, p.off + 2, none⟩ = some (.int .i64 o.val)
theorem PEN.ext {w w' : World} {p : Addr} {o : EN} (h : PEN w p o) (hb : Below w.heap.size w w') : PEN w' p o := by
  obtain ⟨h0, h1, h2⟩ := h
  exact ⟨cell_keep h0 hb, cell_keep h1 hb, cell_keep h2 hb⟩
theorem pEN_box (w : World) (o : EN) (Ty : TypeId) : PEN (w.alloc (.cells #[.int .i64 o.day, .string o.what, .int .i64 o.val] Ty)) ⟨w.heap.size, 0, none⟩ o := ⟨by simp [go_sem], by simp [go_sem], by simp [go_sem]⟩
/-- v reads as the list l. -/
def RENS (w : World) (v : Value) (l : List EN) : Prop := Rd w 3 v l.length (l.flatMap cEN)
theorem RENS.ext {w w' : World} {v : Value} {l : List EN} (h : RENS w v l) (hb : Below w.heap.size w w') : RENS w' v l := Rd.ext h hb
theorem RENS.alloc {w : World} {v : Value} {l : List EN} (h : RENS w v l) (o : Obj) : RENS (w.alloc o) v l := Rd.alloc h o
theorem RENS.at {w : World} {A : Option Addr} {n cp : Nat} {l : List EN} (h : RENS w (.slice A n cp) l) {k : Nat} (hk : k < l.length) : ∃ ad, A = some ad ∧ ad.block < w.heap.size ∧ ∀ k, k < l.length → PEN w (ad.add (k * 3)) (gd l k) := by
  obtain ⟨ad, hA, hlt, hc⟩ := Rd.at cEN_len h hk
  refine ⟨ad, hA, hlt, fun k hk => ?_⟩
  have h0 := fun j (hj : j < 3) => hc k hk j hj
  simp only [← add_of_add] at h0
  refine ⟨?_, ?_, ?_⟩
  · have := h0 0 (by omega)
    rwa [Addr.add_zero'] at this
  · have := h0 1 (by omega)
    rwa [addr_succ] at this
  · have := h0 2 (by omega)
    rwa [addr_succ] at this
theorem RENS.open_ {w : World} {v : Value} {l : List EN} (h : RENS w v l) : ∃ A c, v = .slice A l.length c ∧ l.length ≤ c ∧ c ≤ maxLen := by
  obtain ⟨_, A, c, h1, h2, h3, _⟩ := h; exact ⟨A, c, h1, h2, h3⟩
def OENS (w : World) (base : Nat) (v : Value) (l : List EN) : Prop := w.ownsRow base 130 3 v l.length (l.flatMap cEN)
theorem OENS.rd {w : World} {base : Nat} {v : Value} {l : List EN} (h : OENS w base v l) : RENS w v l := own_rd h
theorem OENS.ext {w w' : World} {base : Nat} {v : Value} {l : List EN} (h : OENS w base v l) (hb : Below w.heap.size w w') : OENS w' base v l := own_ext h hb
theorem OENS.mono {w : World} {base base' : Nat} {v : Value} {l : List EN} (h : OENS w base v l) (hb : base' ≤ base) : OENS w base' v l := own_mono h hb
theorem OENS.ge {w : World} {base : Nat} {v : Value} {l : List EN} (h : OENS w base v l) : ∀ k, BI v k → base ≤ k ∧ k < w.heap.size := World.ownsRow.lt h
theorem OENS.chg {S : Nat → Prop} {w w' : World} {base : Nat} {v : Value} {l : List EN} (h : OENS w base v l) (hb : Chg S w w') (hS : ∀ k, BI v k → ¬ S k) : OENS w' base v l := own_chg h hb hS
def totEN (l : List EN) : Nat := (l.map fun o => o.what.size).sum
theorem totEN_succ {l : List EN} {k : Nat} (hk : k < l.length) : totEN (l.take (k + 1)) = totEN (l.take k) + (gd l k).what.size := by unfold totEN; rw [take_gd hk]; simp
theorem totEN_le (l : List EN) (k : Nat) : totEN (l.take k) ≤ totEN l := by
  have h : l = l.take k ++ l.drop k := (List.take_append_drop k l).symm
  have : totEN l = totEN (l.take k) + totEN (l.drop k) := by unfold totEN; rw [← List.sum_append, ← List.map_append, ← h]
  omega
def SmENS (l : List EN) : Prop := l.length + totEN l ≤ 1048576
theorem SmENS.one {l : List EN} (h : SmENS l) {k : Nat} (hk : k < l.length) : SmEN (gd l k) := by
  have h1 := totEN_succ hk
  have h2 := totEN_le l (k + 1)
  unfold SmENS at h; unfold SmEN; omega
theorem info_EN : (Tryz.prog.info? 130).map (fun i => (i.zero, i.size, i.bytes)) = some (some (.agg #[.int .i64 0, .string ⟨#[]⟩, .int .i64 0]), 3, 32) := by kernel_rfl

end Go.Proofs.YtfgopboddkhckaaGreatDoor
namespace Go.Proofs.YtfgopboddkhckaaGreatDoor
open Go.Lib
set_option linter.unusedVariables false

def vEn (e : EN) : Bool := inB e.day 0 100000 && isN e.what && inB e.val (-1000000) 1000000
/-- The words of an entry. -/
def wrd (e : EN) : List UInt8 := itoa e.day ++ 32 :: (e.what.data.toList ++ 32 :: itoa e.val)
/-- One byte more of a stamp. -/
def stp1 (s : Int) (c : UInt8) : Int := (37 * s + (c.toNat : Int)) % 65519
def stmp (before : Int) (ws : List UInt8) : Int := ws.foldl stp1 ((before + 29) % 65519)
theorem stp1_bd (s : Int) (c : UInt8) : 0 ≤ stp1 s c ∧ stp1 s c ≤ 65518 := by unfold stp1; omega
theorem stmp_bd (b : Int) (ws : List UInt8) : 0 ≤ stmp b ws ∧ stmp b ws ≤ 65518 := by
  unfold stmp
  have : ∀ (ws : List UInt8) (s : Int), 0 ≤ s → s ≤ 65518 → 0 ≤ ws.foldl stp1 s ∧ ws.foldl stp1 s ≤ 65518 := by
    intro ws
    induction ws with
    | nil => intro s h1 h2; exact ⟨h1, h2⟩
    | cons c r ih => intro s _ _; exact ih _ (stp1_bd s c).1 (stp1_bd s c).2
  exact this ws _ (by omega) (by omega)
theorem stmp_snoc (b : Int) (ws : List UInt8) (c : UInt8) : stmp b (ws ++ [c]) = stp1 (stmp b ws) c := by unfold stmp; rw [List.foldl_append]; rfl
/-- The line of an entry. -/
def linL (st : Int) (e : EN) : List UInt8 := wrd e ++ 32 :: (itoa st ++ [10])

theorem vEn_iff {e : EN} : vEn e = true ↔ (0 ≤ e.day ∧ e.day ≤ 100000) ∧ isN e.what = true ∧ (-1000000 ≤ e.val ∧ e.val ≤ 1000000) := by
  unfold vEn inB
  simp [and_assoc]
theorem vEn_sm {e : EN} (h : vEn e = true) : e.what.size ≤ 12 := (isN_size (vEn_iff.1 h).2.1).2
theorem wrd_len {e : EN} (h : vEn e = true) : (wrd e).length ≤ 36 := by
  have h1 := vEn_iff.1 h
  have h2 := itoa_small e.day (by omega) (by omega)
  have h3 := itoa_small e.val (by omega) (by omega)
  have h4 := vEn_sm h
  have h5 : e.what.data.toList.length = e.what.size := by rw [Array.length_toList]; rfl
  unfold wrd
  simp only [List.length_append, List.length_cons]
  omega
theorem linL_len {e : EN} {st : Int} (h : vEn e = true) (h0 : 0 ≤ st) (h1 : st ≤ 65518) : (linL st e).length ≤ 60 := by
  have h2 := wrd_len h
  have h3 := itoa_small st (by omega) (by omega)
  unfold linL
  simp only [List.length_append, List.length_cons, List.length_nil]
  omega

/-! ### Reading -/
/-- The entry of a line and the text of its stamp. -/
def rdLn (line : List UInt8) : Option (EN × List UInt8) :=
  match splL 32 line with
  | [a, b, c, d] => match rdec a, rdec c with
    | some day, some v => if vEn ⟨day, ⟨b.toArray⟩, v⟩ then some (⟨day, ⟨b.toArray⟩, v⟩, d) else none
    | _, _ => none
  | _ => none
theorem rdLn_some {line : List UInt8} {e : EN} {d : List UInt8} (h : rdLn line = some (e, d)) : vEn e = true ∧ line = wrd e ++ 32 :: d ∧ splL 32 line = [itoa e.day, e.what.data.toList, itoa e.val, d] := by
  unfold rdLn at h
  split at h
  · rename_i a b c d' hs
    split at h
    · rename_i day v h1 h2
      split at h
      · rename_i hv
        injection h with h
        injection h with h3 h4
        subst h3 h4
        have e1 := rdec_itoa_eq h1
        have e2 := rdec_itoa_eq h2
        have e3 := jn_spl 32 line
        rw [hs] at e3
        refine ⟨hv, ?_, by rw [hs, e1, e2]⟩
        rw [← e3, e1, e2]
        simp [jnL, wrd]
      · cases h
    · cases h
  · cases h
theorem rdLn_mk {e : EN} {d : List UInt8} (hv : vEn e = true) (hd : (32 : UInt8) ∉ d) : rdLn (wrd e ++ 32 :: d) = some (e, d) := by
  have h1 := vEn_iff.1 hv
  have hs : splL 32 (wrd e ++ 32 :: d) = [itoa e.day, e.what.data.toList, itoa e.val, d] := by
    have := spl_jn 32 [itoa e.day, e.what.data.toList, itoa e.val, d] (by simp) (by
      intro x hx
      simp only [List.mem_cons, List.not_mem_nil, or_false] at hx
      rcases hx with rfl | rfl | rfl | rfl
      · exact itoa_no32 _
      · exact isN_no32 h1.2.1
      · exact itoa_no32 _
      · exact hd)
    rw [← this]
    simp [jnL, wrd]
  unfold rdLn
  rw [hs]
  simp only [rdec_itoa e.day (by omega) (by omega), rdec_itoa e.val (by omega) (by omega)]
  have e5 : (⟨e.what.data.toList.toArray⟩ : ByteArray) = e.what := by cases e.what; simp
  rw [e5, if_pos hv]

/-- The day of the last entry; 0 if there is none. -/
def lday (es : List EN) : Int := match es.getLast? with | some e => e.day | none => 0
/-- What the next line gives: the entry, its stamp and the bytes read. -/
def stepL (es : List EN) (st : Int) (rest : List UInt8) : Option (EN × Int × Nat) :=
  match rest.idxOf? 10 with
  | none => none
  | some k => match rdLn (rest.take k) with
    | none => none
    | some (e, d) => if lday es ≤ e.day ∧ d = itoa (stmp st (wrd e)) then some (e, stmp st (wrd e), k + 1) else none
theorem idxOf_none {l : List UInt8} (h : (10 : UInt8) ∉ l) : l.idxOf? 10 = none := by simpa using h
theorem idxOf_some {l : List UInt8} {k : Nat} (h2 : (10 : UInt8) ∉ l.take k) (h3 : l[k]? = some 10) : l.idxOf? 10 = some k := by
  induction l generalizing k with
  | nil => simp at h3
  | cons c r ih =>
    cases k with
    | zero => simp at h3; subst h3; simp [List.idxOf?_cons]
    | succ k =>
      simp only [List.take_succ_cons, List.mem_cons, not_or] at h2
      rw [List.idxOf?_cons, if_neg (by simpa using fun e => h2.1 e.symm), ih h2.2 (by simpa using h3)]
      rfl
theorem idxOf_inv {l : List UInt8} {k : Nat} (h : l.idxOf? 10 = some k) : (10 : UInt8) ∉ l.take k ∧ l[k]? = some 10 := by
  induction l generalizing k with
  | nil => simp at h
  | cons c r ih =>
    rw [List.idxOf?_cons] at h
    split at h
    · rename_i hc
      cases h
      simp at hc
      subst hc
      simp
    · rename_i hc
      simp at hc
      simp only [Option.map_eq_some_iff] at h
      obtain ⟨j, hj, rfl⟩ := h
      have := ih hj
      simp only [List.take_succ_cons, List.mem_cons, not_or, List.getElem?_cons_succ]
      exact ⟨⟨fun e => hc e.symm, this.1⟩, this.2⟩
theorem stepL_some {es : List EN} {st : Int} {rest : List UInt8} {e : EN} {st' : Int} {n : Nat} (h : stepL es st rest = some (e, st', n)) :
    vEn e = true ∧ lday es ≤ e.day ∧ st' = stmp st (wrd e) ∧ rest.take n = linL st' e ∧ n = (linL st' e).length ∧ n ≤ rest.length := by
  unfold stepL at h
  split at h
  · cases h
  · rename_i k hk
    obtain ⟨k1, k2⟩ := idxOf_inv hk
    split at h
    · cases h
    · rename_i e' d hl
      split at h
      · rename_i hc
        injection h with h
        injection h with h1 h2
        injection h2 with h2 h3
        subst h1 h2 h3
        obtain ⟨r1, r2, r3⟩ := rdLn_some hl
        have hkl : k < rest.length := by
          rcases Nat.lt_or_ge k rest.length with h | h
          · exact h
          · rw [List.getElem?_eq_none h] at k2; cases k2
        have ht : rest.take (k + 1) = linL (stmp st (wrd e')) e' := by
          rw [List.take_succ_eq_append_getElem hkl, r2, hc.2]
          rw [List.getElem?_eq_getElem hkl] at k2
          injection k2 with k2
          rw [k2]
          simp [linL]
        refine ⟨r1, hc.1, rfl, ht, ?_, hkl⟩
        rw [← ht, List.length_take]; omega
      · cases h
theorem linL_no10 {e : EN} (h : vEn e = true) (st : Int) : (10 : UInt8) ∉ wrd e ++ 32 :: itoa st := by
  have h1 := isN_no10 (vEn_iff.1 h).2.1
  have h2 := itoa_no10 e.day
  have h3 := itoa_no10 e.val
  have h4 := itoa_no10 st
  unfold wrd
  simp only [List.mem_append, List.mem_cons, not_or]
  exact ⟨⟨h2, by decide, h1, by decide, h3⟩, by decide, h4⟩
theorem stepL_mk {es : List EN} {st : Int} {e : EN} (hv : vEn e = true) (hd : lday es ≤ e.day) (r : List UInt8) :
    stepL es st (linL (stmp st (wrd e)) e ++ r) = some (e, stmp st (wrd e), (linL (stmp st (wrd e)) e).length) := by
  have hn := linL_no10 hv (stmp st (wrd e))
  have hl : linL (stmp st (wrd e)) e = (wrd e ++ 32 :: itoa (stmp st (wrd e))) ++ [10] := by simp [linL]
  have h1 : (linL (stmp st (wrd e)) e ++ r).take (wrd e ++ 32 :: itoa (stmp st (wrd e))).length = wrd e ++ 32 :: itoa (stmp st (wrd e)) := by
    rw [hl, List.append_assoc, List.take_left]
  have h2 : (linL (stmp st (wrd e)) e ++ r).idxOf? 10 = some (wrd e ++ 32 :: itoa (stmp st (wrd e))).length := by
    refine idxOf_some (by rw [h1]; exact hn) ?_
    rw [hl, List.append_assoc, List.getElem?_append_right (Nat.le_refl _)]
    simp
  unfold stepL
  rw [h2]
  simp only [h1, rdLn_mk hv (itoa_no32 _)]
  rw [if_pos ⟨hd, trivial⟩, hl]
  simp only [List.length_append, List.length_cons, List.length_nil]

/-- The longest beginning that is a log: its entries, its stamp, its length. -/
def rdL (s : List UInt8) : Nat → List EN → Int → Nat → List EN × Int × Nat
  | 0, es, st, n => (es, st, n)
  | f + 1, es, st, n => match stepL es st (s.drop n) with
    | some (e, st', k) => rdL s f (es ++ [e]) st' (n + k)
    | none => (es, st, n)
theorem linL_pos (st : Int) (e : EN) : 0 < (linL st e).length := by unfold linL; simp only [List.length_append, List.length_cons]; omega
theorem rdL_fuel (s : List UInt8) : ∀ (f f' : Nat) (es : List EN) (st : Int) (n : Nat), s.length < f + n → s.length < f' + n → rdL s f es st n = rdL s f' es st n
  | 0, f', es, st, n, h, h' => by
    have hd : s.drop n = [] := List.drop_of_length_le (by omega)
    cases f' with
    | zero => rfl
    | succ f' => simp [rdL, hd, stepL]
  | f + 1, 0, es, st, n, h, h' => by
    have hd : s.drop n = [] := List.drop_of_length_le (by omega)
    simp [rdL, hd, stepL]
  | f + 1, f' + 1, es, st, n, h, h' => by
    rw [rdL, rdL]
    split
    · rename_i e st' k hk
      have := (stepL_some hk).2.2.2.2
      have hp := linL_pos st' e
      exact rdL_fuel s f f' _ _ _ (by omega) (by omega)
    · rfl
/-- From here on. -/
def rdAt (s : List UInt8) (es : List EN) (st : Int) (n : Nat) : List EN × Int × Nat := rdL s (s.length + 1) es st n
def rdLog (s : List UInt8) : List EN × Int × Nat := rdAt s [] 0 0
theorem rdAt_step {s : List UInt8} {es : List EN} {st : Int} {n : Nat} {e : EN} {st' : Int} {k : Nat} (h : stepL es st (s.drop n) = some (e, st', k)) : rdAt s es st n = rdAt s (es ++ [e]) st' (n + k) := by
  unfold rdAt
  rw [rdL, h]
  have := (stepL_some h).2.2.2.2
  have hp := linL_pos st' e
  exact rdL_fuel s _ _ _ _ _ (by omega) (by omega)
theorem rdAt_stop {s : List UInt8} {es : List EN} {st : Int} {n : Nat} (h : stepL es st (s.drop n) = none) : rdAt s es st n = (es, st, n) := by
  unfold rdAt
  rw [rdL, h]

end Go.Proofs.YtfgopboddkhckaaGreatDoor
