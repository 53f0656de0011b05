/-
  Logs: LogOf.
-/
import Derived.Test.YtiedojkoogfokaaDoorLog3
import Derived.Test.YtiedojkoogfokaaDoorByt
import Derived.IntWalk
namespace Go.Proofs.YtiedojkoogfokaaDoor
open Go.ChangeShapes Go.WideShapes Go.ChangeAt Go.RowKit Go.Sort
set_option linter.unusedVariables false
set_option maxRecDepth 100000
attribute [local go_sem ↓] Go.wp_at_zero Go.wp_at_succ

/-- The days never fall, among the first k. -/
def dK (es : List EN) (k : Nat) : Bool := (List.range k).all fun i => decide (i = 0) || decide ((gd es (i - 1)).day ≤ (gd es i).day)
theorem dK_succ (es : List EN) (j : Nat) : dK es (j + 2) = (dK es (j + 1) && decide ((gd es j).day ≤ (gd es (j + 1)).day)) := by
  unfold dK; rw [List.range_succ (n := j + 1)]; simp
theorem dK_false {es : List EN} {j n : Nat} (h : j + 1 < n) (hd : (gd es (j + 1)).day < (gd es j).day) : dK es n = false := by
  unfold dK
  rw [List.all_eq_false]
  exact ⟨j + 1, by simpa using h, by simp; omega⟩
def sK (es : List EN) (k : Nat) : Int := (es.take k).foldl (fun st e => stpb st (wrb e)) 0
theorem sK_succ {es : List EN} {k : Nat} (hk : k < es.length) : sK es (k + 1) = stpb (sK es k) (wrb (gd es k)) := by
  unfold sK; rw [take_gd hk, List.foldl_append]; rfl
def oK (es : List EN) : Nat → ByteArray
  | 0 => ⟨#[]⟩
  | k + 1 => oK es k ++ lnb (sK es (k + 1)) (gd es k)
theorem oK_succ (es : List EN) (k : Nat) : oK es (k + 1) = oK es k ++ lnb (sK es (k + 1)) (gd es k) := rfl
theorem oK_le (es : List EN) {k n : Nat} (h : k ≤ n) : (oK es k).size ≤ (oK es n).size := by
  induction n with
  | zero => obtain rfl : k = 0 := by omega
            exact Nat.le_refl _
  | succ n ih =>
    by_cases hk : k = n + 1
    · subst hk; exact Nat.le_refl _
    · have := ih (by omega)
      rw [oK_succ, ByteArray.size_append]; omega
def mLogOf (es : List EN) : ByteArray × Int :=
  bif es.all vEn then (bif dK es es.length then (if 4000 < (oK es es.length).size then (⟨#[]⟩, 5) else (oK es es.length, 0)) else (⟨#[]⟩, 6)) else (⟨#[]⟩, 7)
theorem all_at {es : List EN} {k : Nat} (h : es.all vEn = true) (hk : k < es.length) : vEn (gd es k) = true := by
  rw [List.all_eq_true] at h; exact h _ (gd_mem hk)
theorem all_no {es : List EN} {k : Nat} (hk : k < es.length) (h : vEn (gd es k) = false) : es.all vEn = false := by
  rw [List.all_eq_false]; exact ⟨_, gd_mem hk, by simp [h]⟩
theorem all_succ {es : List EN} {k : Nat} (hk : k < es.length) : (es.take (k + 1)).all vEn = ((es.take k).all vEn && vEn (gd es k)) := by rw [take_gd hk]; simp
theorem lg_add (acc : ByteArray) (st : Int) (o : EN) : acc ++ (wrb o ++ ⟨#[32]⟩ ++ itb st ++ ⟨#[10]⟩) = acc ++ lnb st o := by rw [lnb_eq]

set_option maxHeartbeats 1600000 in
theorem spec_Make (v : Value) (es : List EN) (w : World) (hR : RENS w v es) (hsm : SmENS es) (hv : es.all vEn = true) :
    Calls Tryd.prog 22 #[v] w (Ret (.string (oK es es.length)) w) := by
  obtain ⟨A, c, rfl, hc1, hc2⟩ := hR.open_
  have HR := Lib.hid hR; clear hR
  have HV := Lib.hid hv; clear hv
  have hlen : es.length ≤ 1048576 := by unfold SmENS at hsm; omega
  clear hsm
  unfold maxLen at hc2
  go_enter Tryd.func22, Tryd.ntmps22
  go_wp2_with fail
  go_loopw [3, 4, 5] (fun u s i wr => ∃ (k : Nat) (l : List UInt8) (B : Option Addr) (cp : Nat) (st : Int), k ≤ es.length ∧ i = .int .i64 k ∧ u = .slice B l.length cp ∧ s = .int .i64 st ∧ Hid (sK es k = st) ∧ 0 ≤ st ∧ st ≤ 65518 ∧ Hid ((oK es k).data.toList = l) ∧ l.length ≤ 60 * k ∧ Hid (OB wr w.heap.size (.slice B l.length cp) l) ∧ Hid (Below w.heap.size w wr)) (fun _ _ i _ => es.length - (intOf i).toNat)
  case atStart => exact ⟨0, [], some ⟨w.heap.size, 0, none⟩, 0, 0, Nat.zero_le _, rfl, rfl, rfl, Lib.hid rfl, by omega, by omega, Lib.hid rfl, Nat.le_refl _, Lib.hid (ob_lit _ _ (Nat.le_refl _)), Lib.hid (ext_alloc1 _ _)⟩
  case round =>
    obtain ⟨k, l, B, cp, st, hk, rfl, rfl, rfl, HS, hs0, hs1, HT, hl, HO, HB⟩ := hrel
    have e1 : (0 : Int) ≤ k := by omega
    by_cases hlt : k < es.length
    · have e2 : (k : Int) < es.length := by omega
      obtain ⟨ad, rfl, _, hc⟩ := (HR.out.ext HB.out).at hlt
      have HP := Lib.hid (hc k hlt)
      have HVk := Lib.hid (all_at HV.out hlt)
      have HS2 := Lib.hid (sK_succ hlt)
      have HT2 := Lib.hid (oK_succ es k)
      obtain ⟨o, ho⟩ : ∃ o, gd es k = o := ⟨_, rfl⟩
      rw [ho] at HP HVk HS2 HT2
      rw [HS.out] at HS2
      clear ho hc
      go_wp2_with fail
      refine (spec_words _ o _ HVk.out HP.out).mono ?_
      rintro e w3 ⟨rfl, hb3⟩
      have HP3 := Lib.hid (HP.out.ext hb3)
      have HO3 := Lib.hid (HO.out.ext hb3)
      have HB3 := Lib.hid (ext_trans HB.out hb3)
      clear hb3 HP HO HB
      go_wp2_with fail
      refine (spec_stamp st (wrb o) hs0 hs1 (by have := wrb_size HVk.out; unfold maxLen; omega) _).mono ?_
      rintro e w4 ⟨rfl, rfl⟩
      have hsb := stpb_bd st (wrb o)
      obtain ⟨st2, hst2⟩ : ∃ st2, stpb st (wrb o) = st2 := ⟨_, rfl⟩
      rw [hst2] at HS2 hsb ⊢
      clear hst2
      go_wp2_with fail
      refine (spec_line st2 _ o _ hsb.1 hsb.2 HVk.out HP3.out).mono ?_
      rintro e w5 ⟨rfl, hb5⟩
      have HO5 := Lib.hid (HO3.out.ext hb5)
      have HB5 := Lib.hid (ext_trans HB3.out hb5)
      have hsz5 := HB5.out.size
      have hll := lnb_size HVk.out hsb.1 hsb.2
      clear hb5 HO3 HB3 HP3
      rw [HS2.out] at HT2
      obtain ⟨ln, hln⟩ : ∃ ln, lnb st2 o = ln := ⟨_, rfl⟩
      rw [hln] at HT2 hll ⊢
      clear hln
      have hls : ln.data.toList.length = ln.size := Array.length_toList
      go_wp2_with (at_builtin; refine wpList_append_bs rfl _ _ rfl w.heap.size (.slice B l.length cp) l ln rfl rfl HO5.out (by omega) (by omega) hsz5 ?_; intro A6 c6 w6 hO6 hg6)
      go_roundw
      case rel => exact ⟨k + 1, l ++ ln.data.toList, A6, c6, st2, by omega, by go_num, by rw [List.length_append, hls], rfl, HS2.out ▸ Lib.hid rfl, hsb.1, hsb.2, Lib.hid (by rw [HT2.out, ByteArray.data_append, Array.toList_append, HT.out]), by rw [List.length_append, hls]; omega, Lib.hid (by rw [List.length_append, hls]; exact hO6), Lib.hid (Chg.ext HB5.out hg6 (fun j hj => (HO5.out.ge j hj).1))⟩
      case measure => simp [intOf]; omega
    · obtain rfl : k = es.length := by omega
      have hcv := conv_rb HO.out.rd
      have HF : Hid ((⟨l.toArray⟩ : ByteArray) = oK es es.length) := Lib.hid (by rw [← HT.out])
      go_wp2_with fail
      go_ret
      rw [HF.out]
      exact ⟨rfl, HB.out⟩

set_option maxHeartbeats 3200000 in
theorem spec_LogOf (v : Value) (es : List EN) (w : World) (hR : RENS w v es) (hsm : SmENS es) (_ : LayF w) :
    Calls Tryd.prog 7 #[v] w (Ret (.tuple #[.string (mLogOf es).1, .int .i64 (mLogOf es).2]) w) := by
  obtain ⟨A, c, rfl, hc1, hc2⟩ := hR.open_
  have HR := Lib.hid hR; clear hR
  have hlen : es.length ≤ 1048576 := by unfold SmENS at hsm; omega
  have HSM := Lib.hid hsm
  clear hsm
  unfold maxLen at hc2
  go_enter Tryd.func7, Tryd.ntmps7
  go_wp2_with fail
  go_loop [4] (fun i => ∃ (k : Nat), k ≤ es.length ∧ i = .int .i64 k ∧ Hid ((es.take k).all vEn = true)) (fun i => es.length - (intOf i).toNat)
  case atStart => exact ⟨0, Nat.zero_le _, rfl, Lib.hid rfl⟩
  case round =>
    obtain ⟨k, hk, rfl, HA⟩ := hrel
    have e1 : (0 : Int) ≤ k := by omega
    by_cases hlt : k < es.length
    · have e2 : (k : Int) < es.length := by omega
      obtain ⟨ad, rfl, _, hc⟩ := HR.out.at hlt
      have HP := Lib.hid (hc k hlt)
      have HL := Lib.hid (sm_len (HSM.out.one hlt))
      have HA2 := Lib.hid (all_succ hlt)
      clear hc
      go_wp2_with fail
      refine (spec_okEn _ (gd es k) _ HL.out HP.out).mono ?_
      rintro e w3 ⟨rfl, rfl⟩
      cases hv : vEn (gd es k) with
      | false =>
        have HF : Hid (mLogOf es = (⟨#[]⟩, 7)) := Lib.hid (by unfold mLogOf; rw [all_no hlt hv]; rfl)
        clear hv
        go_wp2_with fail
        go_ret2
        rw [HF.out]
        exact ⟨rfl, ext_refl _⟩
      | true =>
        have HA3 : Hid ((es.take (k + 1)).all vEn = true) := Lib.hid (by rw [HA2.out, HA.out, hv]; rfl)
        clear hv
        go_wp2_with fail
        go_round
        case rel => exact ⟨k + 1, by omega, by go_num, HA3.out⟩
        case measure => simp [intOf]; omega
    · obtain rfl : k = es.length := by omega
      have HAll : Hid (es.all vEn = true) := Lib.hid (by have := HA.out; rwa [List.take_length] at this)
      go_wp2_with fail
      go_loopw [5] (fun i wr => ∃ (j q : Nat), (j + 1 ≤ es.length ∨ j = 0) ∧ i = .int .i64 ((j : Int) + 1) ∧ Hid (dK es (j + 1) = true) ∧ wr = w.drewN q) (fun i _ => es.length - (intOf i).toNat)
      case atStart => exact ⟨0, 0, Or.inr rfl, rfl, Lib.hid rfl, rfl⟩
      case round =>
        obtain ⟨j, q, hj, rfl, HD, rfl⟩ := hrel
        have g1 : (0 : Int) ≤ j := by omega
        by_cases hlt : j + 1 < es.length
        · have g2 : (j : Int) + 1 < es.length := by omega
          have g3 : (0 : Int) ≤ (j : Int) + 1 := by omega
          have g4 : (j : Int) < es.length := by omega
          obtain ⟨ad, rfl, _, hc⟩ := HR.out.at hlt
          have p0 := (hc j (by omega)).1
          have q0 := (hc (j + 1) hlt).1
          clear hc
          have HD2 := Lib.hid (dK_succ es j)
          by_cases hd : (gd es (j + 1)).day < (gd es j).day
          · have HF : Hid (mLogOf es = (⟨#[]⟩, 6)) := Lib.hid (by unfold mLogOf; rw [HAll.out, dK_false hlt hd]; rfl)
            have e8 : decide ((gd es (j + 1)).day < (gd es j).day) = true := decide_eq_true hd
            clear hd
            go_wp2_with fail
            go_quiet (fail)
            go_wp2_with fail
            go_ret2
            rw [HF.out]
            exact ⟨rfl, ext_drewN (ext_drewN (ext_refl _) _) _⟩
          · have HD3 : Hid (dK es (j + 1 + 1) = true) := Lib.hid (by rw [show j + 1 + 1 = j + 2 from rfl, HD2.out, HD.out, decide_eq_true (by omega)]; rfl)
            have e8 : decide ((gd es (j + 1)).day < (gd es j).day) = false := decide_eq_false hd
            clear hd
            go_wp2_with fail
            go_quiet (fail)
            go_wp2_with fail
            go_roundw
            case rel => exact ⟨j + 1, _, Or.inl (by omega), by go_num, HD3.out, rfl⟩
            case measure => simp [intOf]; omega
        · have HD4 : Hid (dK es es.length = true) := Lib.hid (by
            have := HD.out
            by_cases h0 : es.length = 0
            · rw [h0]; rfl
            · rw [show es.length = j + 1 by omega]; exact this)
          have HM : Hid (mLogOf es = if 4000 < (oK es es.length).size then (⟨#[]⟩, 5) else (oK es es.length, 0)) := Lib.hid (by unfold mLogOf; rw [HAll.out, HD4.out]; rfl)
          obtain ⟨out, hout⟩ : ∃ out, oK es es.length = out := ⟨_, rfl⟩
          rw [hout] at HM
          have HMK := Lib.hid (spec_Make _ es _ (HR.out.ext (ext_drewN (ext_refl w) q)) HSM.out HAll.out)
          rw [hout] at HMK
          clear hout
          go_wp2_with fail
          refine (show Calls _ _ _ _ _ from HMK.out).mono ?_
          rintro e w5 ⟨rfl, hb5⟩
          have HB5 := Lib.hid (ext_trans (ext_drewN (ext_refl w) q) hb5)
          clear hb5
          by_cases hbig : 4000 < out.size
          · have HF : Hid (mLogOf es = (⟨#[]⟩, 5)) := Lib.hid (by rw [HM.out, if_pos hbig])
            have f1 : (4000 : Int) < out.size := by omega
            go_wp2_with fail
            go_ret2
            rw [HF.out]
            exact ⟨rfl, HB5.out⟩
          · have HF : Hid (mLogOf es = (out, 0)) := Lib.hid (by rw [HM.out, if_neg hbig])
            have f1 : ¬ (4000 : Int) < out.size := by omega
            go_wp2_with fail
            go_ret2
            rw [HF.out]
            exact ⟨rfl, HB5.out⟩

theorem inval_fn (o : EN) (w : World) (hl : LenEN o) :
    Calls Tryd.prog 28 #[.agg #[.int .i64 o.day, .string o.what, .int .i64 o.val]] w (Ret (.bool (!vEn o)) w) := by
  go_enter Tryd.func28, Tryd.ntmps28
  go_wp2_with fail
  refine (impl_okEn _ o _ hl rfl).mono ?_
  rintro e w1 ⟨rfl, hb⟩
  go_wp2_with fail
  go_ret
  exact ⟨rfl, ext_trans (ext_alloc1 _ _) hb⟩

set_option maxHeartbeats 1600000 in
theorem inval_idx (v : Value) (es : List EN) (w : World) (hR : RENS w v es) (hsm : SmENS es) :
    Calls Tryd.prog 45 #[v, .func (.func 28) #[] #[]] w fun e w' => (∃ i : Int, e = .returned (.int .i64 i) ∧ (es.all vEn = false → 0 ≤ i) ∧ (es.all vEn = true → i = -1)) ∧ Below w.heap.size w w' := by
  obtain ⟨A, c, rfl, hc1, hc2⟩ := hR.open_
  have HR := Lib.hid hR; clear hR
  have hlen : es.length ≤ 1048576 := by unfold SmENS at hsm; omega
  have HSM := Lib.hid hsm
  clear hsm
  unfold maxLen at hc2
  go_enter Tryd.func45, Tryd.ntmps45
  go_wp2_with fail
  go_loopw [8] (fun i wr => ∃ k : Nat, k ≤ es.length ∧ i = .int .i64 k ∧ Hid ((es.take k).all vEn = true) ∧ Hid (Below w.heap.size w wr)) (fun i _ => es.length - (intOf i).toNat)
  case atStart => exact ⟨0, Nat.zero_le _, rfl, Lib.hid rfl, Lib.hid (ext_refl _)⟩
  case round =>
    obtain ⟨k, hk, rfl, HA, HB⟩ := hrel
    have e1 : (0 : Int) ≤ k := by omega
    by_cases hlt : k < es.length
    · have e2 : (k : Int) < es.length := by omega
      obtain ⟨ad, rfl, _, hc⟩ := (HR.out.ext HB.out).at hlt
      obtain ⟨p0, p1, p2⟩ := hc k hlt
      have HL := Lib.hid (sm_len (HSM.out.one hlt))
      have HA2 := Lib.hid (all_succ hlt)
      clear hc
      have HQ := Lib.hid (fun h => all_no hlt h)
      obtain ⟨o, ho⟩ : ∃ o, gd es k = o := ⟨_, rfl⟩
      rw [ho] at p0 p1 p2 HL HA2 HQ
      clear ho
      go_wp2_with fail
      refine (inval_fn o _ HL.out).mono ?_
      rintro e w3 ⟨rfl, hb3⟩
      have HB3 := Lib.hid (ext_trans HB.out hb3)
      clear hb3
      cases hv : vEn o with
      | false =>
        have HF := Lib.hid (HQ.out hv)
        clear hv
        go_wp2_with fail
        go_ret
        exact ⟨⟨_, rfl, fun _ => by omega, fun h => by rw [HF.out] at h; cases h⟩, HB3.out⟩
      | true =>
        have HA3 : Hid ((es.take (k + 1)).all vEn = true) := Lib.hid (by rw [HA2.out, HA.out, hv]; rfl)
        clear hv
        go_wp2_with fail
        go_roundw
        case rel => exact ⟨k + 1, by omega, by go_num, HA3.out, HB3⟩
        case measure => simp [intOf]; omega
    · obtain rfl : k = es.length := by omega
      have HAll : Hid (es.all vEn = true) := Lib.hid (by have := HA.out; rwa [List.take_length] at this)
      go_wp2_with fail
      go_ret
      exact ⟨⟨_, rfl, fun h => (by rw [HAll.out] at h; cases h), fun _ => rfl⟩, HB.out⟩

theorem inval_has (v : Value) (es : List EN) (w : World) (hR : RENS w v es) (hsm : SmENS es) :
    Calls Tryd.prog 27 #[v, .func (.func 28) #[] #[]] w (Ret (.bool (!es.all vEn)) w) := by
  obtain ⟨A, c, rfl, hc1, hc2⟩ := hR.open_
  have HI := Lib.hid (inval_idx _ es w hR hsm)
  clear hR hsm
  go_enter Tryd.func27, Tryd.ntmps27
  go_wp2_with fail
  refine (show Calls _ _ _ _ _ from HI.out).mono ?_
  rintro e w' ⟨⟨i, rfl, hi1, hi2⟩, hb⟩
  have HB := Lib.hid hb
  clear hb HI
  cases hv : es.all vEn with
  | false =>
    have h0 := hi1 hv
    have HX := Lib.hid hv
    clear hi1 hi2 hv
    go_wp2_with fail
    go_ret
    exact ⟨ret_bool (by simp [HX.out]), HB.out⟩
  | true =>
    obtain rfl := hi2 hv
    have HX := Lib.hid hv
    clear hi1 hi2 hv
    go_wp2_with fail
    go_ret
    exact ⟨ret_bool (by simp [HX.out]), HB.out⟩

set_option maxHeartbeats 3200000 in
theorem impl_LogOf (v : Value) (es : List EN) (w : World) (hR : RENS w v es) (hsm : SmENS es) (hL : LayF w) :
    Calls Tryd.prog 12 #[v] w (Ret (.tuple #[.string (mLogOf es).1, .int .i64 (mLogOf es).2]) w) := by
  obtain ⟨A, c, rfl, hc1, hc2⟩ := hR.open_
  have HLF : Hid (∀ W', Below w.heap.size w W' → LayF W') := Lib.hid fun W' h => hL.ext h
  have HI := Lib.hid (inval_has _ es w hR hsm)
  have HR := Lib.hid hR; clear hR hL
  have hlen : es.length ≤ 1048576 := by unfold SmENS at hsm; omega
  have HSM := Lib.hid hsm
  clear hsm
  unfold maxLen at hc2
  go_enter Tryd.func12, Tryd.ntmps12
  go_wp2_with fail
  refine (show Calls _ _ _ _ _ from HI.out).mono ?_
  rintro e w2 ⟨rfl, hb2⟩
  have HB2 := Lib.hid hb2
  clear hb2 HI
  cases hv : es.all vEn with
  | false =>
    have HF : Hid (mLogOf es = (⟨#[]⟩, 7)) := Lib.hid (by unfold mLogOf; rw [hv]; rfl)
    clear hv
    go_wp2_with fail
    go_ret2
    rw [HF.out]
    exact ⟨rfl, HB2.out⟩
  | true =>
    have HAll := Lib.hid hv
    clear hv
    go_wp2_with fail
    go_loopw [4] (fun i wr => ∃ (j q : Nat), (j + 1 ≤ es.length ∨ j = 0) ∧ i = .int .i64 ((j : Int) + 1) ∧ Hid (dK es (j + 1) = true) ∧ wr = w2.drewN q) (fun i _ => es.length - (intOf i).toNat)
    case atStart => exact ⟨0, 0, Or.inr rfl, rfl, Lib.hid rfl, rfl⟩
    case round =>
      obtain ⟨j, q, hj, rfl, HD, rfl⟩ := hrel
      have g1 : (0 : Int) ≤ j := by omega
      by_cases hlt : j + 1 < es.length
      · have g2 : (j : Int) + 1 < es.length := by omega
        have g3 : (0 : Int) ≤ (j : Int) + 1 := by omega
        have g4 : (j : Int) < es.length := by omega
        obtain ⟨ad, rfl, _, hc⟩ := (HR.out.ext HB2.out).at hlt
        have p0 := (hc j (by omega)).1
        have q0 := (hc (j + 1) hlt).1
        clear hc
        have HD2 := Lib.hid (dK_succ es j)
        by_cases hd : (gd es (j + 1)).day < (gd es j).day
        · have HF : Hid (mLogOf es = (⟨#[]⟩, 6)) := Lib.hid (by unfold mLogOf; rw [HAll.out, dK_false hlt hd]; rfl)
          have e8 : decide ((gd es (j + 1)).day < (gd es j).day) = true := decide_eq_true hd
          clear hd
          go_wp2_with fail
          go_quiet (fail)
          go_wp2_with fail
          go_ret2
          rw [HF.out]
          exact ⟨rfl, ext_drewN (ext_drewN HB2.out _) _⟩
        · have HD3 : Hid (dK es (j + 1 + 1) = true) := Lib.hid (by rw [show j + 1 + 1 = j + 2 from rfl, HD2.out, HD.out, decide_eq_true (by omega)]; rfl)
          have e8 : decide ((gd es (j + 1)).day < (gd es j).day) = false := decide_eq_false hd
          clear hd
          go_wp2_with fail
          go_quiet (fail)
          go_wp2_with fail
          go_roundw
          case rel => exact ⟨j + 1, _, Or.inl (by omega), by go_num, HD3.out, rfl⟩
          case measure => simp [intOf]; omega
      · have HD4 : Hid (dK es es.length = true) := Lib.hid (by
          have := HD.out
          by_cases h0 : es.length = 0
          · rw [h0]; rfl
          · rw [show es.length = j + 1 by omega]; exact this)
        have HM : Hid (mLogOf es = if 4000 < (oK es es.length).size then (⟨#[]⟩, 5) else (oK es es.length, 0)) := Lib.hid (by unfold mLogOf; rw [HAll.out, HD4.out]; rfl)
        have HB3 := Lib.hid (ext_drewN HB2.out q)
        go_wp2_with fail
        clear HB2 HD HD4 hj g1 hlt
        generalize w2.drewN q = w3 at *
        go_loopw [5, 6, 31] (fun u s i wr => ∃ (k : Nat) (acc : ByteArray) (st : Int), k ≤ es.length ∧ i = .int .i64 k ∧ u = .string acc ∧ s = .int .i64 st ∧ Hid (sK es k = st) ∧ 0 ≤ st ∧ st ≤ 65518 ∧ Hid (oK es k = acc) ∧ acc.size ≤ 4000 ∧ Hid (Below w.heap.size w wr)) (fun _ _ i _ => es.length - (intOf i).toNat)
        case atStart => exact ⟨0, ⟨#[]⟩, 0, Nat.zero_le _, rfl, rfl, rfl, Lib.hid rfl, by omega, by omega, Lib.hid rfl, Nat.zero_le _, HB3⟩
        case round =>
          obtain ⟨k, acc, st, hk, rfl, rfl, rfl, HS, hs0, hs1, HT, hl, HB⟩ := hrel
          have e1 : (0 : Int) ≤ k := by omega
          by_cases hlt : k < es.length
          · have e2 : (k : Int) < es.length := by omega
            obtain ⟨ad, rfl, _, hc⟩ := (HR.out.ext HB.out).at hlt
            obtain ⟨p0, p1, p2⟩ := hc k hlt
            have HVk := Lib.hid (all_at HAll.out hlt)
            have HS2 := Lib.hid (sK_succ hlt)
            have HT2 := Lib.hid (oK_succ es k)
            have HLE := Lib.hid (oK_le es (show k + 1 ≤ es.length from hlt))
            obtain ⟨o, ho⟩ : ∃ o, gd es k = o := ⟨_, rfl⟩
            rw [ho] at p0 p1 p2 HVk HS2 HT2
            rw [HS.out] at HS2
            clear ho hc
            go_wp2_with fail
            refine (impl_stamp st _ o _ hs0 hs1 HVk.out rfl (HLF.out _ (ext_alloc HB.out _))).mono ?_
            rintro e w4 ⟨rfl, hb4⟩
            have HP := Lib.hid ((pEN_box wr o 38).ext hb4)
            have HB4 := Lib.hid (ext_trans (ext_alloc HB.out _) hb4)
            clear hb4
            obtain ⟨q0, q1, q2⟩ := HP.out
            have hsb := stpb_bd st (wrb o)
            obtain ⟨st2, hst2⟩ : ∃ st2, stpb st (wrb o) = st2 := ⟨_, rfl⟩
            rw [hst2] at HS2 hsb ⊢
            clear hst2
            rw [HS2.out, HT.out] at HT2
            have hw1 := wrb_size HVk.out
            have hi1 := itb_size st2 (by omega) (by omega)
            have HAE := Lib.hid (lg_add acc st2 o)
            have HLZ : Hid ((lnb st2 o).size = (wrb o).size + 1 + (itb st2).size + 1) := Lib.hid (by rw [← lnb_eq]; simp [ByteArray.size_append]; rfl)
            have hk1 : ¬ 9223372036854775807 < (wrb o).size + 1 := by omega
            have hk2 : ¬ 9223372036854775807 < (wrb o).size + 1 + (itb st2).size := by omega
            have hk3 : ¬ 9223372036854775807 < (wrb o).size + 1 + (itb st2).size + 1 := by omega
            have hk4 : ¬ 9223372036854775807 < acc.size + ((wrb o).size + 1 + (itb st2).size + 1) := by omega
            go_wp2_with fail
            refine (impl_words _ o _ HVk.out rfl (HLF.out _ HB4.out)).mono ?_
            rintro e w5 ⟨rfl, hb5⟩
            have HB5 := Lib.hid (ext_trans HB4.out hb5)
            clear hb5
            go_wp2_with fail
            refine (impl_Dec st2 (by omega) (by omega) _ (HLF.out _ HB5.out)).mono ?_
            rintro e w6 ⟨rfl, hb6⟩
            have HB6 := Lib.hid (ext_trans HB5.out hb6)
            clear hb6
            by_cases hbig : 4000 < acc.size + ((wrb o).size + 1 + (itb st2).size + 1)
            · have HF : Hid (mLogOf es = (⟨#[]⟩, 5)) := Lib.hid (by rw [HM.out, if_pos (by have h1 := HLE.out; rw [HT2.out, ByteArray.size_append, HLZ.out] at h1; omega)])
              have f1 : (4000 : Int) < (acc.size : Int) + (((wrb o).size : Int) + 1 + (itb st2).size + 1) := by omega
              go_wp2_with fail
              go_ret2
              rw [HF.out]
              exact ⟨rfl, HB6.out⟩
            · have f1 : ¬ (4000 : Int) < (acc.size : Int) + (((wrb o).size : Int) + 1 + (itb st2).size + 1) := by omega
              go_wp2_with fail
              go_roundw
              case rel => exact ⟨k + 1, _, st2, by omega, by go_num, rfl, rfl, HS2.out ▸ Lib.hid rfl, hsb.1, hsb.2, Lib.hid (by rw [HT2.out, ← HAE.out]), by rw [HAE.out, ByteArray.size_append, HLZ.out]; omega, HB6⟩
              case measure => simp [intOf]; omega
          · obtain rfl : k = es.length := by omega
            have HF : Hid (mLogOf es = (acc, 0)) := Lib.hid (by rw [HM.out, HT.out, if_neg (by omega)])
            go_wp2_with fail
            go_ret2
            rw [HF.out]
            exact ⟨rfl, HB.out⟩
end Go.Proofs.YtiedojkoogfokaaDoor
