/-
  Orders: FirstShort.
-/
import Derived.Test.YthcckonkhbmcmaaByDue
import Derived.IntWalk
import Derived.OwnWalk
namespace Go.Proofs.Ythcckonkhbmcmaa
open Go.ChangeShapes Go.WideShapes Go.ChangeAt Go.RowKit Go.Sort
set_option linter.unusedVariables false
set_option maxRecDepth 100000

/-- How many bricks lack on the day of an order. -/
def lackI (l : List OD) (st ea : Int) (x : Int) : Int := dU l (dI l x) l.length - st - ea * dI l x
def shB (l : List OD) (st ea : Int) (x : Int) : Bool := decide (0 < lackI l st ea x)
def fsh (l : List OD) (st ea : Int) : Option Int := (dueTo l l.length).find? (shB l st ea)
def mFirstShort (l : List OD) (st ea : Int) : Int × Int × Int := bif vOrders l then (bif inB st 0 10000000 && inB ea 0 100000 then (match fsh l st ea with | some x => (dI l x, lackI l st ea x, 0) | none => (0, 0, 3)) else (0, 0, 2)) else (0, 0, 1)
theorem lack_same {l : List OD} {st ea x y : Int} (h : dI l x = dI l y) : lackI l st ea x = lackI l st ea y := by unfold lackI; rw [h]
/-- The last of those with its day. -/
def lastD (l : List OD) (q : List Int) (i : Nat) : Prop := i + 1 < q.length → dI l (gi q i) ≠ dI l (gi q (i + 1))
theorem last_of {l : List OD} {q : List Int} : ∀ (n i : Nat), q.length - i ≤ n → i < q.length → ∃ j, i ≤ j ∧ j < q.length ∧ dI l (gi q j) = dI l (gi q i) ∧ lastD l q j
  | 0, i, hn, hi => by omega
  | n + 1, i, hn, hi => by
    by_cases h : i + 1 < q.length ∧ dI l (gi q i) = dI l (gi q (i + 1))
    · obtain ⟨j, h1, h2, h3, h4⟩ := last_of (l := l) (q := q) n (i + 1) (by omega) h.1
      exact ⟨j, by omega, h2, by rw [h3, h.2], h4⟩
    · exact ⟨i, Nat.le_refl _, hi, rfl, fun h1 h2 => h ⟨h1, h2⟩⟩
theorem pS_last {l : List OD} {q : List Int} (hs : Srt l q) {i : Nat} (hi : i < q.length) (hl : lastD l q i) : pS l q (i + 1) = SD l (dI l (gi q i)) q := by
  rw [← pS_eq hs (d := dI l (gi q i)) (i + 1) (by omega) (fun j hj => hs.at (by omega) hi), ← tS_all]
  have key : ∀ n, i + 1 + n ≤ q.length → tS l (dI l (gi q i)) q (i + 1 + n) = tS l (dI l (gi q i)) q (i + 1) := by
    intro n
    induction n with
    | zero => intro _; rfl
    | succ n ih =>
      intro hn
      have h1 := hs.at (show i + 1 ≤ i + 1 + n by omega) (by omega)
      have h2 := hs.at (show i ≤ i + 1 by omega) (by omega)
      have h3 := hl (by omega)
      rw [show i + 1 + (n + 1) = (i + 1 + n) + 1 by omega, tS_succ, ih (by omega)]
      have : wI l (dI l (gi q i)) (gi q (i + 1 + n)) = 0 := by unfold wI; rw [if_neg (by omega)]
      omega
  have := key (q.length - (i + 1)) (by omega)
  rw [show i + 1 + (q.length - (i + 1)) = q.length by omega] at this
  exact this.symm
theorem fsh_none {l : List OD} {st ea : Int} (h : ∀ i, i < (dueTo l l.length).length → lackI l st ea (gi (dueTo l l.length) i) ≤ 0) : fsh l st ea = none := by
  unfold fsh
  rw [List.find?_eq_none]
  intro x hx
  obtain ⟨i, hi, rfl⟩ := List.getElem_of_mem hx
  have := h i hi
  rw [gi_eq hi] at this
  unfold shB
  simp
  omega
theorem fsh_at {l : List OD} {st ea : Int} {k : Nat} (hk : k < (dueTo l l.length).length) (h : 0 < lackI l st ea (gi (dueTo l l.length) k)) :
    ∃ i x, i ≤ k ∧ gi (dueTo l l.length) i = x ∧ fsh l st ea = some x ∧ 0 < lackI l st ea x := by
  cases hf : fsh l st ea with
  | none =>
    unfold fsh at hf
    rw [List.find?_eq_none] at hf
    have := hf _ (gi_mem hk)
    unfold shB at this
    simp at this
    omega
  | some x =>
    unfold fsh at hf
    rw [List.find?_eq_some_iff_append] at hf
    obtain ⟨hp, ps, bs, hq, has⟩ := hf
    refine ⟨ps.length, x, ?_, ?_, rfl, by unfold shB at hp; simpa using hp⟩
    · rcases Nat.lt_or_ge k ps.length with hlt | hge
      · have hm : gi (dueTo l l.length) k ∈ ps := by
          rw [gi_eq hk]
          simp only [hq, List.getElem_append_left hlt]
          exact List.getElem_mem hlt
        have := has _ hm
        unfold shB at this
        simp at this
        omega
      · exact hge
    · have hl : ps.length < (dueTo l l.length).length := by rw [hq]; simp
      rw [gi_eq hl]
      simp only [hq]
      rw [List.getElem_append_right (Nat.le_refl _)]
      simp
/-- The program's search. -/
theorem fsh_hit {l : List OD} {st ea : Int} {k : Nat} (hk : k < (dueTo l l.length).length) (hb : ∀ i, i < k → lackI l st ea (gi (dueTo l l.length) i) ≤ 0) (h : 0 < lackI l st ea (gi (dueTo l l.length) k)) : fsh l st ea = some (gi (dueTo l l.length) k) := by
  obtain ⟨i, x, h1, h2, h3, h4⟩ := fsh_at hk h
  rw [h3]
  by_cases hik : i = k
  · rw [← h2, hik]
  · have := hb i (by omega)
    rw [h2] at this
    omega
/-- The reference's search: the last of each day. -/
theorem fsh_last {l : List OD} {st ea : Int} {k : Nat} (hk : k < (dueTo l l.length).length) (hb : ∀ i, i < k → lastD l (dueTo l l.length) i → lackI l st ea (gi (dueTo l l.length) i) ≤ 0) (h : 0 < lackI l st ea (gi (dueTo l l.length) k)) :
    ∃ x, fsh l st ea = some x ∧ dI l x = dI l (gi (dueTo l l.length) k) := by
  obtain ⟨i, x, h1, h2, h3, h4⟩ := fsh_at hk h
  refine ⟨x, h3, ?_⟩
  obtain ⟨j, j1, j2, j3, j4⟩ := last_of (l := l) (q := dueTo l l.length) _ i (Nat.le_refl _) (by omega)
  rw [h2] at j3
  rcases Nat.lt_or_ge j k with hj | hj
  · have := hb j hj j4
    rw [lack_same j3] at this
    omega
  · have hs := due_srt l l.length
    have g1 := hs.at h1 hk
    have g2 := hs.at hj j2
    rw [h2] at g1
    omega
theorem fsh_lasts {l : List OD} {st ea : Int} (hb : ∀ i, i < (dueTo l l.length).length → lastD l (dueTo l l.length) i → lackI l st ea (gi (dueTo l l.length) i) ≤ 0) : fsh l st ea = none := by
  refine fsh_none fun i hi => ?_
  obtain ⟨j, j1, j2, j3, j4⟩ := last_of (l := l) (q := dueTo l l.length) _ i (Nat.le_refl _) hi
  rw [← lack_same j3]
  exact hb j j2 j4

def Ret3 (a b c : Int) (w : World) : Ending → World → Prop := Ret (.tuple #[.int .i64 a, .int .i64 b, .int .i64 c]) w
set_option maxHeartbeats 3200000 in
theorem impl_FirstShort (v : Value) (l : List OD) (st ea : Int) (w : World) (ha : RODS w v l) (hsm : SmODS l) :
    Calls Try.prog 14 #[v, .int .i64 st, .int .i64 ea] w (Ret3 (mFirstShort l st ea).1 (mFirstShort l st ea).2.1 (mFirstShort l st ea).2.2 w) := by
  obtain ⟨A, c, rfl, hc1, hc2⟩ := ha.open_
  have HA := Lib.hid ha; clear ha
  have HV0 := Lib.hid (impl_ValidOrders _ l w HA.out hsm)
  clear hsm
  unfold maxLen at hc2
  go_enter Try.func14, Try.ntmps14
  go_wp2_with fail
  refine (show Calls _ _ _ _ _ from HV0.out).mono ?_
  rintro e w1 ⟨rfl, hb⟩
  have HW1 := Lib.hid hb; clear hb HV0
  cases hv : vOrders l with
  | false =>
    have HM : Hid (mFirstShort l st ea = (0, 0, 1)) := Lib.hid (by unfold mFirstShort; rw [hv]; rfl)
    clear hv
    go_wp2_with fail
    go_ret3
    unfold Ret3 Ret
    rw [HM.out]
    exact ⟨rfl, HW1.out⟩
  | true =>
  go_wp2_with fail
  refine (impl_within st 0 10000000 _).mono ?_
  rintro e w0 ⟨rfl, rfl⟩
  cases hi : inB st 0 10000000 with
  | false =>
    have HM : Hid (mFirstShort l st ea = (0, 0, 2)) := Lib.hid (by unfold mFirstShort; rw [hv, hi]; rfl)
    clear hv hi
    go_wp2_with fail
    go_ret3
    unfold Ret3 Ret
    rw [HM.out]
    exact ⟨rfl, HW1.out⟩
  | true =>
  go_wp2_with fail
  refine (impl_within ea 0 100000 _).mono ?_
  rintro e w0 ⟨rfl, rfl⟩
  cases hj : inB ea 0 100000 with
  | false =>
    have HM : Hid (mFirstShort l st ea = (0, 0, 2)) := Lib.hid (by unfold mFirstShort; rw [hv, hi, hj]; rfl)
    clear hv hi hj
    go_wp2_with fail
    go_ret3
    unfold Ret3 Ret
    rw [HM.out]
    exact ⟨rfl, HW1.out⟩
  | true =>
  have HV := Lib.hid hv
  have hlen := v_len hv
  have hs2 := inB_iff.1 hi
  have he2 := inB_iff.1 hj
  have HM : Hid (mFirstShort l st ea = (match fsh l st ea with | some x => (dI l x, lackI l st ea x, 0) | none => (0, 0, 3))) := Lib.hid (by unfold mFirstShort; rw [hv, hi, hj]; rfl)
  have hql := due_len l l.length
  have HDA2 := Lib.hid (fun k h => due_at (l := l) (m := l.length) (k := k) h)
  have HSR := Lib.hid (due_srt l l.length)
  have HSB := Lib.hid (fun k => pS_bd hv k)
  have HUB := Lib.hid (fun d => dU_bd hv d l.length (Nat.le_refl _))
  clear hi hj
  have HC1 := Lib.hid (impl_due (.slice A l.length c) l HV.out w1 (HA.out.ext HW1.out))
  have HDU := Lib.hid (fun d w (h : RODS w (.slice A l.length c) l) => impl_dueUntil (.slice A l.length c) l d HV.out w h)
  have HFN := Lib.hid (fun h => fsh_none (l := l) (st := st) (ea := ea) h)
  have HFH := Lib.hid (fun k h1 h2 h3 => fsh_hit (l := l) (st := st) (ea := ea) (k := k) h1 h2 h3)
  clear hv
  obtain ⟨q, hq⟩ : ∃ q, dueTo l l.length = q := ⟨_, rfl⟩
  rw [hq] at hql HDA2 HC1 HFN HFH
  clear hq HSR HSB
  go_wp2_with fail
  refine (show Calls _ _ _ _ _ from HC1.out).mono ?_
  rintro e w2 ⟨v2, rfl, hO, hb⟩
  obtain ⟨B, d, rfl, hd1, hd2, _⟩ := hO.rd.open2
  unfold maxLen at hd2
  have HQ := Lib.hid hO.rd
  have HW2 := Lib.hid (ext_trans HW1.out hb)
  clear hO hb HC1
  go_wp2_with fail
  go_loopw [29] (fun i wr => ∃ k : Nat, k ≤ q.length ∧ i = .int .i64 k ∧ Hid (∀ i, i < k → lackI l st ea (gi q i) ≤ 0) ∧ Hid (Below w2.heap.size w2 wr)) (fun i _ => q.length - (intOf i).toNat)
  case atStart => exact ⟨0, Nat.zero_le _, rfl, Lib.hid (fun i hi => by omega), Lib.hid (ext_refl _)⟩
  case round =>
    obtain ⟨k, hk, rfl, HT, HB⟩ := hrel
    by_cases hlt : k < q.length
    · obtain ⟨j, hj1, hj3, _⟩ := HDA2.out k hlt
      obtain ⟨bd, rfl, _, hcb⟩ := (HQ.out.ext HB.out).at2 hlt
      have hcq := hcb k hlt
      rw [hj1] at hcq
      have HAw := Lib.hid (HA.out.ext (ext_trans HW2.out HB.out))
      obtain ⟨ad, rfl, _, hc⟩ := HAw.out.at hj3
      obtain ⟨_, _, _, p3, _⟩ := hc j hj3
      clear hc hcb
      have ho := opn_bd HV.out hj3
      have hdd : dI l (gi q k) = (gd l j).due := by unfold dI; rw [hj1, Int.toNat_natCast]
      have HLK : Hid (lackI l st ea (gi q k) = dU l (gd l j).due l.length - st - ea * (gd l j).due) := Lib.hid (by unfold lackI; rw [hdd])
      have HDD := Lib.hid hdd
      obtain ⟨dy, hdy⟩ : ∃ dy, (gd l j).due = dy := ⟨_, rfl⟩
      rw [hdy] at p3 HLK HDD ho
      have hub := HUB.out dy
      have HC := Lib.hid (HDU.out dy wr HAw.out)
      obtain ⟨u, hu⟩ : ∃ u, dU l dy l.length = u := ⟨_, rfl⟩
      rw [hu] at HLK hub HC
      have hm := mul_bd he2.1 he2.2 ho.2.2.1 ho.2.2.2
      clear hdd hj1 hdy hu
      obtain ⟨pr, hpr⟩ : ∃ pr, ea * dy = pr := ⟨_, rfl⟩
      rw [hpr] at hm HLK
      have e1 : (0:Int) ≤ k := by omega
      have e2 : (k:Int) < q.length := by omega
      have e3 : (0:Int) ≤ j := by omega
      have e4 : (j:Int) < l.length := by omega
      go_wp2_with fail
      refine (show Calls _ _ _ _ _ from HC.out).mono ?_
      rintro e w4 ⟨rfl, hb⟩
      have HB4 := Lib.hid (ext_trans HB.out hb)
      clear hb hcq HC p3
      by_cases hsh : 0 < u - st - pr
      · have hgt : decide (u - st - pr > 0) = true := decide_eq_true hsh
        have HF : Hid (fsh l st ea = some (gi q k)) := Lib.hid (HFH.out k hlt HT.out (by rw [HLK.out]; exact hsh))
        go_wp2_with fail
        go_ret3
        have HMM : mFirstShort l st ea = (dy, u - st - pr, 0) := by rw [HM.out, HF.out]; simp only []; rw [HDD.out, HLK.out]
        unfold Ret3 Ret
        rw [HMM]
        exact ⟨rfl, ext_trans HW2.out HB4.out⟩
      · have hgt : decide (u - st - pr > 0) = false := decide_eq_false (by omega)
        have HT2 : Hid (∀ i, i < k + 1 → lackI l st ea (gi q i) ≤ 0) := Lib.hid fun i hi => by
          by_cases hik : i = k
          · rw [hik, HLK.out]; omega
          · exact HT.out i (by omega)
        go_wp2_with fail
        go_roundw
        case rel => exact ⟨k + 1, by omega, by go_num, HT2, HB4⟩
        case measure => simp [intOf]; omega
    · obtain rfl : k = q.length := by omega
      have HF : Hid (fsh l st ea = none) := Lib.hid (HFN.out HT.out)
      go_wp2_with fail
      go_ret3
      unfold Ret3 Ret
      rw [HM.out, HF.out]
      exact ⟨rfl, ext_trans HW2.out HB.out⟩

def sh3 (l : List OD) (st ea : Int) : Int × Int × Bool := match fsh l st ea with | some x => (dI l x, lackI l st ea x, true) | none => (0, 0, false)
set_option maxHeartbeats 6400000 in
theorem spec_short (v : Value) (l : List OD) (st ea : Int) (hv : vOrders l = true) (hi : inB st 0 10000000 = true) (hj : inB ea 0 100000 = true) (w : World) (ha : RODS w v l) :
    Calls Try.prog 36 #[v, .int .i64 st, .int .i64 ea] w (Ret (.tuple #[.int .i64 (sh3 l st ea).1, .int .i64 (sh3 l st ea).2.1, .bool (sh3 l st ea).2.2]) w) := by
  obtain ⟨A, c, rfl, hc1, hc2⟩ := ha.open_
  have HA := Lib.hid ha; clear ha
  unfold maxLen at hc2
  have HV := Lib.hid hv
  have hlen := v_len hv
  have hs2 := inB_iff.1 hi
  have he2 := inB_iff.1 hj
  have HM : Hid (mFirstShort l st ea = (match fsh l st ea with | some x => (dI l x, lackI l st ea x, 0) | none => (0, 0, 3))) := Lib.hid (by unfold mFirstShort; rw [hv, hi, hj]; rfl)
  have hql := due_len l l.length
  have HDA2 := Lib.hid (fun k h => due_at (l := l) (m := l.length) (k := k) h)
  have HSR := Lib.hid (due_srt l l.length)
  have HSB := Lib.hid (fun k => pS_bd hv k)
  have HUB := Lib.hid (fun d => dU_bd hv d l.length (Nat.le_refl _))
  clear hi hj
  have HC1 := Lib.hid (spec_due (.slice A l.length c) l HV.out w HA.out)
  have HPL0 := Lib.hid (fun i h1 h2 => pS_last (i := i) (due_srt l l.length) h1 h2)
  have HSD0 := Lib.hid (fun d => SD_due l d l.length)
  have HFN := Lib.hid (fun h => fsh_lasts (l := l) (st := st) (ea := ea) h)
  have HFL := Lib.hid (fun k h1 h2 h3 => fsh_last (l := l) (st := st) (ea := ea) (k := k) h1 h2 h3)
  clear hv HM
  obtain ⟨q, hq⟩ : ∃ q, dueTo l l.length = q := ⟨_, rfl⟩
  rw [hq] at hql HDA2 HC1 HFN HFL HSB HPL0 HSD0
  clear hq HSR
  go_enter Try.func36, Try.ntmps36
  go_wp2_with fail
  refine (show Calls _ _ _ _ _ from HC1.out).mono ?_
  rintro e w2 ⟨v2, rfl, hO, hb⟩
  obtain ⟨B, d, rfl, hd1, hd2, _⟩ := hO.rd.open2
  unfold maxLen at hd2
  have HQ := Lib.hid hO.rd
  have HW2 := Lib.hid hb
  clear hO hb HC1
  go_wp2_with fail
  go_loopw [9, 11] (fun sv i wr => ∃ k : Nat, k ≤ q.length ∧ i = .int .i64 k ∧ sv = .int .i64 (pS l q k) ∧ Hid (∀ i, i < k → lastD l q i → lackI l st ea (gi q i) ≤ 0) ∧ Hid (Below w2.heap.size w2 wr)) (fun _ i _ => q.length - (intOf i).toNat)
  case atStart => exact ⟨0, Nat.zero_le _, rfl, rfl, Lib.hid (fun i hi => by omega), Lib.hid (ext_refl _)⟩
  case round =>
    obtain ⟨k, hk, rfl, rfl, HT, HB⟩ := hrel
    by_cases hlt : k < q.length
    · obtain ⟨j, hj1, hj3, _⟩ := HDA2.out k hlt
      obtain ⟨bd, rfl, _, hcb⟩ := (HQ.out.ext HB.out).at2 hlt
      have hcq := hcb k hlt
      have HCB := Lib.hid hcb
      rw [hj1] at hcq
      have HAw := Lib.hid (HA.out.ext (ext_trans HW2.out HB.out))
      obtain ⟨ad, rfl, _, hc⟩ := HAw.out.at hj3
      have HPJ0 := Lib.hid (hc j hj3)
      have HCA := Lib.hid hc
      clear hc hcb
      have ho := opn_bd HV.out hj3
      have hdd : dI l (gi q k) = (gd l j).due := by unfold dI; rw [hj1, Int.toNat_natCast]
      have hoI : oI l (gi q k) = opn (gd l j) := by unfold oI; rw [hj1, Int.toNat_natCast]
      have hps := HSB.out k hk
      have hps1 := HSB.out (k + 1) (by omega)
      have HS0 := Lib.hid (pS_succ l q k)
      have HPL := Lib.hid (fun h => HPL0.out k hlt h)
      have HSD := Lib.hid (HSD0.out (dI l (gi q k)))
      have HC : Hid (Calls Try.prog 31 #[.pointer (some (ad.add (j * 5)))] wr (Ret (.int .i64 (opn (gd l j))) wr)) := Lib.hid (spec_open _ (gd l j) wr HPJ0.out (v_one HV.out hj3))
      obtain ⟨op, hop⟩ : ∃ op, opn (gd l j) = op := ⟨_, rfl⟩
      rw [hop] at HC hoI ho
      have HS1 : Hid (pS l q (k + 1) = pS l q k + op) := Lib.hid (by rw [HS0.out, hoI])
      have HDD0 := Lib.hid hdd
      rw [HS1.out] at hps1
      have HDJ := Lib.hid hj1
      clear hoI hop hdd hj1 HS0
      obtain ⟨s0, hs0⟩ : ∃ s0, pS l q k = s0 := ⟨_, rfl⟩
      rw [hs0] at hps hps1 HS1 ⊢
      obtain ⟨u, hu⟩ : ∃ u, s0 + op = u := ⟨_, rfl⟩
      rw [hu] at hps1 HS1
      have HS : Hid (pS l q (k + 1) = u) := HS1
      clear hs0 HS1
      have e1 : (0:Int) ≤ k := by omega
      have e2 : (k:Int) < q.length := by omega
      have e3 : (0:Int) ≤ j := by omega
      have e4 : (j:Int) < l.length := by omega
      go_wp2_with fail
      refine (show Calls _ _ _ _ _ from HC.out).mono ?_
      rintro e w4 ⟨rfl, hb⟩
      have HB4 := Lib.hid (ext_trans HB.out hb)
      have HPJ := Lib.hid (HPJ0.out.ext hb)
      have HQ4 := Lib.hid (HQ.out.ext HB4.out)
      have HA4 := Lib.hid (HAw.out.ext hb)
      clear hb hcq HC HPJ0 HAw HCB HCA HB
      obtain ⟨dy, hdy⟩ : ∃ dy, (gd l j).due = dy := ⟨_, rfl⟩
      have HDD : Hid (dI l (gi q k) = dy) := Lib.hid (by rw [HDD0.out, hdy])
      obtain ⟨_, _, _, p3, _⟩ := HPJ.out
      rw [hdy] at p3 ho
      have hm := mul_bd he2.1 he2.2 ho.2.2.1 ho.2.2.2
      obtain ⟨pr, hpr⟩ : ∃ pr, ea * dy = pr := ⟨_, rfl⟩
      rw [hpr] at hm
      have HPR : Hid (ea * dy = pr) := Lib.hid hpr
      have HDYJ := Lib.hid hdy
      clear hdy HDD0
      have y3 := fun d os => cell_regrown p3 d os
      obtain ⟨k1, hk1⟩ : ∃ k1, k + 1 = k1 := ⟨_, rfl⟩
      have e5 : (k : Int) + 1 = k1 := by omega
      have HK1 := Lib.hid hk1
      by_cases hkn : k1 < q.length
      · have e6 : decide ((k1 : Int) < q.length) = true := decide_eq_true (by omega)
        have e6b : (k1 : Int) < q.length := by omega
        have e6c : (0 : Int) ≤ k1 := by omega
        obtain ⟨j2, hj21, hj23, _⟩ := HDA2.out k1 hkn
        obtain ⟨bd2, hB2, _, hcb⟩ := HQ4.out.at2 hkn
        injection hB2 with hB2
        subst hB2
        have hcq2 := hcb k1 hkn
        rw [hj21] at hcq2
        obtain ⟨ad2, hA2, _, hc⟩ := HA4.out.at hj23
        injection hA2 with hA2
        subst hA2
        obtain ⟨_, _, _, r3, _⟩ := hc j2 hj23
        have hdd2 : dI l (gi q k1) = (gd l j2).due := by unfold dI; rw [hj21, Int.toNat_natCast]
        have HD2 := Lib.hid hdd2
        have e7 : (0 : Int) ≤ j2 := by omega
        have e8 : (j2 : Int) < l.length := by omega
        clear hc hcb hj21 hdd2 hk1
        obtain ⟨d2, hd2q⟩ : ∃ d2, (gd l j2).due = d2 := ⟨_, rfl⟩
        rw [hd2q] at r3 HD2
        clear hd2q
        have y1 := fun d os => cell_regrown hcq2 d os
        have y2 := fun d os => cell_regrown r3 d os
        clear hcq2 r3 p3
        by_cases hdq : d2 = dy
        · have HNL : Hid (lastD l q k → False) := Lib.hid fun h => h (by rw [HK1.out]; exact hkn) (by rw [HK1.out, HD2.out, HDD.out, hdq])
          subst hdq
          go_wp2_with fail
          refine wp_region_quiet_below (by kernel_rfl) (by kernel_rfl) ?_
          repeat (go_big_quiet_step (fail))
          refine wpQuiet_nil ?_
          intro w' hw'
          obtain ⟨p, rfl⟩ := hw'
          replace HB4 := Lib.hid (ext_trans HB4.out (below_regrown w4 p.d p.os))
          replace HPJ := Lib.hid (HPJ.out.ext (below_regrown w4 p.d p.os))
          generalize grow (redrawn w4 p.d) p.os = w5 at *
          have HT2 : Hid (∀ i, i < k1 → lastD l q i → lackI l st ea (gi q i) ≤ 0) := Lib.hid fun i hi hl => by
            by_cases hik : i = k
            · rw [hik] at hl; exact (HNL.out hl).elim
            · exact HT.out i (by have := HK1.out; omega) hl
          go_wp2_with fail
          go_roundw
          case rel => exact ⟨k1, by omega, rfl, by rw [← HK1.out, HS.out], HT2, HB4⟩
          case measure => have := HK1.out; simp [intOf]; omega
        · have hlast : lastD l q k := fun _ h => hdq (by rw [HK1.out, HD2.out, HDD.out] at h; exact h.symm)
          have HLA := Lib.hid hlast
          have e9 : (d2 == dy) = false := by simpa using hdq
          clear hdq hlast
          go_wp2_with fail
          refine wp_region_quiet_below (by kernel_rfl) (by kernel_rfl) ?_
          repeat (go_big_quiet_step (fail))
          refine wpQuiet_nil ?_
          intro w' hw'
          obtain ⟨p, rfl⟩ := hw'
          replace HB4 := Lib.hid (ext_trans HB4.out (below_regrown w4 p.d p.os))
          replace HPJ := Lib.hid (HPJ.out.ext (below_regrown w4 p.d p.os))
          generalize grow (redrawn w4 p.d) p.os = w5 at *
          -- the last of its day
          have HSU : Hid (lackI l st ea (gi q k) = u - st - pr) := Lib.hid (by
            have h1 := HPL.out HLA.out
            unfold lackI
            rw [← HSD.out, ← h1, HS.out, HDD.out, HPR.out])
          obtain ⟨_, _, _, p3b, _⟩ := HPJ.out
          rw [HDYJ.out] at p3b
          by_cases hsh : st + pr < u
          · have hgt : decide (u > st + pr) = true := decide_eq_true hsh
            have HF := Lib.hid (HFL.out k hlt HT.out (by rw [HSU.out]; omega))
            have y3 := fun d os => cell_regrown p3b d os
            go_wp2_with fail
            refine wp_region_quiet_below (by kernel_rfl) (by kernel_rfl) ?_
            repeat (go_big_quiet_step (fail))
            refine wpQuiet_nil ?_
            intro w' hw'
            obtain ⟨p, rfl⟩ := hw'
            replace HB4 := Lib.hid (ext_trans HB4.out (below_regrown w5 p.d p.os))
            replace HPJ := Lib.hid (HPJ.out.ext (below_regrown w5 p.d p.os))
            generalize grow (redrawn w5 p.d) p.os = w6 at *
            go_wp2_with fail
            go_ret3
            have HMM : sh3 l st ea = (dy, u - st - pr, true) := by
              obtain ⟨x, hx1, hx2⟩ := HF.out
              unfold sh3
              rw [hx1]
              simp only []
              rw [hx2, lack_same hx2, HSU.out, HDD.out]
            unfold Ret
            rw [HMM]
            exact ⟨rfl, ext_trans HW2.out HB4.out⟩
          · have hgt : decide (u > st + pr) = false := decide_eq_false (by omega)
            have HT2 : Hid (∀ i, i < k + 1 → lastD l q i → lackI l st ea (gi q i) ≤ 0) := Lib.hid fun i hi hl => by
              by_cases hik : i = k
              · rw [hik, HSU.out]; omega
              · exact HT.out i (by omega) hl
            go_wp2_with fail
            go_roundw
            case rel => exact ⟨k + 1, by omega, by go_num, by rw [HS.out], HT2, HB4⟩
            case measure => simp [intOf]; omega
      · have e6 : decide ((k1 : Int) < q.length) = false := decide_eq_false (by omega)
        have HLA : Hid (lastD l q k) := Lib.hid fun h => by have := HK1.out; omega
        clear hk1 p3
        go_wp2_with fail
        refine wp_region_quiet_below (by kernel_rfl) (by kernel_rfl) ?_
        repeat (go_big_quiet_step (fail))
        refine wpQuiet_nil ?_
        intro w' hw'
        obtain ⟨p, rfl⟩ := hw'
        replace HB4 := Lib.hid (ext_trans HB4.out (below_regrown w4 p.d p.os))
        replace HPJ := Lib.hid (HPJ.out.ext (below_regrown w4 p.d p.os))
        generalize grow (redrawn w4 p.d) p.os = w5 at *
        -- the last of its day
        have HSU : Hid (lackI l st ea (gi q k) = u - st - pr) := Lib.hid (by
          have h1 := HPL.out HLA.out
          unfold lackI
          rw [← HSD.out, ← h1, HS.out, HDD.out, HPR.out])
        obtain ⟨_, _, _, p3b, _⟩ := HPJ.out
        rw [HDYJ.out] at p3b
        by_cases hsh : st + pr < u
        · have hgt : decide (u > st + pr) = true := decide_eq_true hsh
          have HF := Lib.hid (HFL.out k hlt HT.out (by rw [HSU.out]; omega))
          have y3 := fun d os => cell_regrown p3b d os
          go_wp2_with fail
          refine wp_region_quiet_below (by kernel_rfl) (by kernel_rfl) ?_
          repeat (go_big_quiet_step (fail))
          refine wpQuiet_nil ?_
          intro w' hw'
          obtain ⟨p, rfl⟩ := hw'
          replace HB4 := Lib.hid (ext_trans HB4.out (below_regrown w5 p.d p.os))
          replace HPJ := Lib.hid (HPJ.out.ext (below_regrown w5 p.d p.os))
          generalize grow (redrawn w5 p.d) p.os = w6 at *
          go_wp2_with fail
          go_ret3
          have HMM : sh3 l st ea = (dy, u - st - pr, true) := by
            obtain ⟨x, hx1, hx2⟩ := HF.out
            unfold sh3
            rw [hx1]
            simp only []
            rw [hx2, lack_same hx2, HSU.out, HDD.out]
          unfold Ret
          rw [HMM]
          exact ⟨rfl, ext_trans HW2.out HB4.out⟩
        · have hgt : decide (u > st + pr) = false := decide_eq_false (by omega)
          have HT2 : Hid (∀ i, i < k + 1 → lastD l q i → lackI l st ea (gi q i) ≤ 0) := Lib.hid fun i hi hl => by
            by_cases hik : i = k
            · rw [hik, HSU.out]; omega
            · exact HT.out i (by omega) hl
          go_wp2_with fail
          go_roundw
          case rel => exact ⟨k + 1, by omega, by go_num, by rw [HS.out], HT2, HB4⟩
          case measure => simp [intOf]; omega
    · obtain rfl : k = q.length := by omega
      have HF : Hid (fsh l st ea = none) := Lib.hid (HFN.out HT.out)
      go_wp2_with fail
      go_ret3
      unfold Ret sh3
      rw [HF.out]
      exact ⟨rfl, ext_trans HW2.out HB.out⟩
set_option maxHeartbeats 1600000 in
theorem spec_FirstShort (v : Value) (l : List OD) (st ea : Int) (w : World) (ha : RODS w v l) (hsm : SmODS l) :
    Calls Try.prog 15 #[v, .int .i64 st, .int .i64 ea] w (Ret3 (mFirstShort l st ea).1 (mFirstShort l st ea).2.1 (mFirstShort l st ea).2.2 w) := by
  obtain ⟨A, c, rfl, hc1, hc2⟩ := ha.open_
  have HA := Lib.hid ha; clear ha
  have HV0 := Lib.hid (spec_stock _ l st ea hsm w HA.out)
  clear hsm
  unfold maxLen at hc2
  go_enter Try.func15, Try.ntmps15
  go_wp2_with fail
  refine (show Calls _ _ _ _ _ from HV0.out).mono ?_
  rintro e w1 ⟨rfl, hb⟩
  have HW1 := Lib.hid hb; clear hb HV0
  cases hv : vOrders l with
  | false =>
    have HM : Hid (mFirstShort l st ea = (0, 0, 1)) := Lib.hid (by unfold mFirstShort; rw [hv]; rfl)
    rw [show codeS l st ea = 1 from by unfold codeS; rw [hv]; rfl]
    clear hv
    go_wp2_with fail
    go_ret3
    unfold Ret3 Ret
    rw [HM.out]
    exact ⟨rfl, HW1.out⟩
  | true =>
  cases hi : inB st 0 10000000 with
  | false =>
    have HM : Hid (mFirstShort l st ea = (0, 0, 2)) := Lib.hid (by unfold mFirstShort; rw [hv, hi]; rfl)
    rw [show codeS l st ea = 2 from by unfold codeS; rw [hv, hi]; rfl]
    clear hv hi
    go_wp2_with fail
    go_ret3
    unfold Ret3 Ret
    rw [HM.out]
    exact ⟨rfl, HW1.out⟩
  | true =>
  cases hj : inB ea 0 100000 with
  | false =>
    have HM : Hid (mFirstShort l st ea = (0, 0, 2)) := Lib.hid (by unfold mFirstShort; rw [hv, hi, hj]; rfl)
    rw [show codeS l st ea = 2 from by unfold codeS; rw [hv, hi, hj]; rfl]
    clear hv hi hj
    go_wp2_with fail
    go_ret3
    unfold Ret3 Ret
    rw [HM.out]
    exact ⟨rfl, HW1.out⟩
  | true =>
  have HC := Lib.hid (spec_short (.slice A l.length c) l st ea hv hi hj w1 (HA.out.ext HW1.out))
  have HM : Hid (mFirstShort l st ea = (match fsh l st ea with | some x => (dI l x, lackI l st ea x, 0) | none => (0, 0, 3))) := Lib.hid (by unfold mFirstShort; rw [hv, hi, hj]; rfl)
  rw [show codeS l st ea = 0 from by unfold codeS; rw [hv, hi, hj]; rfl]
  clear hv hi hj
  cases hf : fsh l st ea with
  | none =>
    have HMM : Hid (mFirstShort l st ea = (0, 0, 3)) := Lib.hid (by rw [HM.out, hf])
    rw [show sh3 l st ea = (0, 0, false) from by unfold sh3; rw [hf]] at HC
    clear hf HM
    go_wp2_with fail
    refine (show Calls _ _ _ _ _ from HC.out).mono ?_
    rintro e w2 ⟨rfl, hb⟩
    go_wp2_with fail
    go_ret3
    unfold Ret3 Ret
    rw [HMM.out]
    exact ⟨rfl, ext_trans HW1.out hb⟩
  | some x =>
    have HMM : Hid (mFirstShort l st ea = (dI l x, lackI l st ea x, 0)) := Lib.hid (by rw [HM.out, hf])
    rw [show sh3 l st ea = (dI l x, lackI l st ea x, true) from by unfold sh3; rw [hf]] at HC
    clear hf HM
    go_wp2_with fail
    refine (show Calls _ _ _ _ _ from HC.out).mono ?_
    rintro e w2 ⟨rfl, hb⟩
    go_wp2_with fail
    go_ret3
    unfold Ret3 Ret
    rw [HMM.out]
    exact ⟨rfl, ext_trans HW1.out hb⟩
end Go.Proofs.Ythcckonkhbmcmaa
