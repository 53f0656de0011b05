/-
  Bonds read, the program's side: a course of a word, the text of a bond.
-/
import Derived.Test.YtpoalklakhegoaaDoorBnd
import Derived.Test.YtpoalklakhegoaaDoorEnv
namespace Go.Proofs.YtpoalklakhegoaaDoor
open Go.ChangeShapes Go.WideShapes Go.ChangeAt Go.RowKit Go.Sort Go.Joins
set_option linter.unusedVariables false
set_option maxRecDepth 100000

/-- The course of a word. -/
def cof (s : ByteArray) : CO := if (Lib.cut s.data.toList [43]).2.2 then ⟨⟨(Lib.cut s.data.toList [43]).1.toArray⟩, ⟨(Lib.cut s.data.toList [43]).2.1.toArray⟩⟩ else ⟨⟨#[]⟩, s⟩
theorem impl_courseOf (s : ByteArray) (hs : s.size ≤ 1048576) (w : World) (hsh : w.ShapedOpen Tryd.prog) :
    Calls Tryd.prog 27 #[.string s] w (Ret (.agg #[.string (cof s).lead, .string (cof s).cyc]) w) := by
  have HC := Lib.hid (fun w h => Tryd.strings_Cut_shaped s (ByteArray.mk #[43]) w h (by omega))
  have HS := Lib.hid hsh
  have HE : Hid (cof s = if (Lib.cut s.data.toList (ByteArray.mk #[43]).data.toList).2.2 then ⟨⟨(Lib.cut s.data.toList (ByteArray.mk #[43]).data.toList).1.toArray⟩, ⟨(Lib.cut s.data.toList (ByteArray.mk #[43]).data.toList).2.1.toArray⟩⟩ else ⟨⟨#[]⟩, s⟩) := Lib.hid rfl
  clear hsh
  generalize Lib.cut s.data.toList (ByteArray.mk #[43]).data.toList = q at *
  obtain ⟨a, b, c⟩ := q
  dsimp only at *
  generalize (ByteArray.mk a.toArray) = aa at *
  generalize (ByteArray.mk b.toArray) = bb at *
  go_enter Tryd.func27, Tryd.ntmps27
  go_wp2_with fail
  refine (show Calls _ _ _ _ _ from HC.out _ (shaped_ext HS.out (ext_alloc1 _ _))).mono ?_
  rintro e w1 ⟨rfl, n, rfl⟩
  cases c
  · have HE2 : Hid (cof s = ⟨⟨#[]⟩, s⟩) := Lib.hid HE.out
    go_wp2_with fail
    refine bodyPost_ret (v := .agg #[.string ⟨#[]⟩, .string s]) (by simp [results, Tryd.results27, go_sem]) rfl ⟨by rw [HE2.out], ?_⟩
    repeat (refine ext_set ?_ (by simp; try omega) _)
    exact ext_drewN (ext_alloc1 w _) _
  · have HE2 : Hid (cof s = ⟨aa, bb⟩) := Lib.hid HE.out
    go_wp2_with fail
    refine bodyPost_ret (v := .agg #[.string aa, .string bb]) (by simp [results, Tryd.results27, go_sem]) rfl ⟨by rw [HE2.out], ?_⟩
    repeat (refine ext_set ?_ (by simp; try omega) _)
    exact ext_drewN (ext_alloc1 w _) _
/-- A course more behind a text. -/
def btS (o : ByteArray) (c : CO) : ByteArray := (if c.lead.size = 0 then o ++ ⟨#[32]⟩ else (o ++ ⟨#[32]⟩) ++ (c.lead ++ ⟨#[43]⟩)) ++ c.cyc
def btK (nm : ByteArray) (cs : List CO) (k : Nat) : ByteArray := (cs.take k).foldl btS nm
theorem btK_succ (nm : ByteArray) {cs : List CO} {k : Nat} (hk : k < cs.length) : btK nm cs (k + 1) = btS (btK nm cs k) (gd cs k) := by
  unfold btK; rw [take_gd hk, List.foldl_append]; rfl
theorem vC_sizes {o : CO} (h : vC o = true) : o.lead.size ≤ 6 ∧ 1 ≤ o.cyc.size ∧ o.cyc.size ≤ 8 := by
  unfold vC at h
  simp only [Bool.and_eq_true, decide_eq_true_eq] at h
  have h2 := inB_iff.1 h.1.2
  omega
theorem btS_size {o : ByteArray} {c : CO} (h : vC c = true) : (btS o c).size ≤ o.size + 16 := by
  have h1 := vC_sizes h
  unfold btS
  have e1 : (⟨#[32]⟩ : ByteArray).size = 1 := rfl
  have e2 : (⟨#[43]⟩ : ByteArray).size = 1 := rfl
  split <;> simp only [ByteArray.size_append] <;> omega
theorem vB_all {nm : ByteArray} {cs : List CO} (h : vB nm cs = true) : isN nm = true ∧ 1 ≤ cs.length ∧ cs.length ≤ 8 ∧ ∀ k, k < cs.length → vC (gd cs k) = true := by
  unfold vB at h
  simp only [Bool.and_eq_true] at h
  have h2 := inB_iff.1 h.1.2
  exact ⟨h.1.1, by omega, by omega, fun k hk => List.all_eq_true.1 h.2 _ (gd_mem hk)⟩
theorem isN_size {s : ByteArray} (h : isN s = true) : 1 ≤ s.size ∧ s.size ≤ 12 := by
  unfold isN at h
  simp only [Bool.and_eq_true, decide_eq_true_eq] at h
  omega
theorem btK_size {nm : ByteArray} {cs : List CO} (h : vB nm cs = true) : ∀ k, k ≤ cs.length → (btK nm cs k).size ≤ 12 + 16 * k
  | 0, _ => by have := (isN_size (vB_all h).1).2; unfold btK; simpa using this
  | k + 1, hk => by
    have ih := btK_size h k (by omega)
    rw [btK_succ nm (by omega)]
    have := btS_size (o := btK nm cs k) ((vB_all h).2.2.2 k (by omega))
    omega
theorem emptS (t : ByteArray) : t.toList.isEmpty = decide (t.size = 0) := by
  rw [ByteArray.toList_eq]
  cases h : t.data.toList with
  | nil =>
    have : t.size = 0 := by rw [← size_toList, h]; rfl
    simp [this]
  | cons x y =>
    have : t.size ≠ 0 := by rw [← size_toList, h]; simp
    simp [this]
set_option maxHeartbeats 1600000 in
theorem impl_BondText_ok (A : Option Addr) (c : Nat) (nm : ByteArray) (cs : List CO) (w : World) (hn : nm.size ≤ maxLen) (hl : LenCOS cs) (ha : RCOS w (.slice A cs.length c) cs) (hv : vB nm cs = true) :
    Calls Tryd.prog 28 #[.agg #[.string nm, .slice A cs.length c]] w (Ret (.string (btK nm cs cs.length)) w) := by
  have HA := Lib.hid ha; clear ha
  have HV := Lib.hid hv
  have HVB := Lib.hid (fun w h => impl_ValidBond A c nm cs w hn hl h)
  have hcl := (vB_all hv).2.2.1
  rw [hv] at HVB
  clear hn hl hv
  go_enter Tryd.func28, Tryd.ntmps28
  go_wp2_with fail
  refine (show Calls _ _ _ _ _ from HVB.out _ (HA.out.alloc _)).mono ?_
  rintro e w1 ⟨rfl, hb⟩
  have k0 := cell_keep (p := ⟨w.heap.size, 0, none⟩) (v := .string nm) (by simp [go_sem]) hb
  have k1 := cell_keep (p := ⟨w.heap.size, 1, none⟩) (v := .slice A cs.length c) (by simp [go_sem]) hb
  have HB := Lib.hid (ext_trans (ext_alloc1 _ _) hb)
  clear hb
  go_wp2_with fail
  clear k0 k1
  go_loopw [3, 14] (fun u i wr => ∃ k : Nat, k ≤ cs.length ∧ i = .int .i64 k ∧ u = .string (btK nm cs k) ∧ Hid (Below w.heap.size w wr)) (fun _ i _ => cs.length - (intOf i).toNat)
  case atStart => exact ⟨0, Nat.zero_le _, rfl, rfl, HB⟩
  case round =>
    obtain ⟨k, hk, rfl, rfl, HBw⟩ := hrel
    have e1 : (0 : Int) ≤ k := by omega
    by_cases hlt : k < cs.length
    · have e2 : (k : Int) < cs.length := by omega
      obtain ⟨ad, rfl, _, hc⟩ := (HA.out.ext HBw.out).at hlt
      obtain ⟨p0, p1⟩ := hc k hlt
      clear hc
      have HS := Lib.hid (btK_succ nm hlt)
      have hz1 := btK_size HV.out k hk
      have hz2 := vC_sizes ((vB_all HV.out).2.2.2 k hlt)
      obtain ⟨t, ht⟩ : ∃ t, btK nm cs k = t := ⟨_, rfl⟩
      obtain ⟨o, ho⟩ : ∃ o, gd cs k = o := ⟨_, rfl⟩
      rw [ht] at HS hz1
      rw [ho] at HS hz2 p0 p1
      rw [ht]
      clear ht ho
      obtain ⟨a, b⟩ := o
      dsimp only at *
      have c1 : ¬ 9223372036854775807 < t.size + 1 := by omega
      have c2 : ¬ 9223372036854775807 < a.size + 1 := by omega
      have c3 : ¬ 9223372036854775807 < t.size + 1 + (a.size + 1) := by omega
      have c4 : ¬ 9223372036854775807 < t.size + 1 + (a.size + 1) + b.size := by omega
      have c5 : ¬ 9223372036854775807 < t.size + 1 + b.size := by omega
      clear hz1 hz2
      have hem := emptS a
      by_cases hz : a.size = 0
      · rw [decide_eq_true hz] at hem
        have HS2 : Hid (btK nm (cs) (k + 1) = (t ++ ⟨#[32]⟩) ++ b) := Lib.hid (by rw [HS.out]; unfold btS; rw [if_pos hz])
        clear hz
        go_wp2_with fail
        go_roundw
        case rel => exact ⟨k + 1, by omega, by go_num, by rw [HS2.out], Lib.hid (ext_trans HBw.out (ext_alloc1 _ _))⟩
        case measure => simp [intOf]; omega
      · rw [decide_eq_false hz] at hem
        have HS2 : Hid (btK nm (cs) (k + 1) = ((t ++ ⟨#[32]⟩) ++ (a ++ ⟨#[43]⟩)) ++ b) := Lib.hid (by rw [HS.out]; unfold btS; rw [if_neg hz])
        clear hz
        go_wp2_with fail
        go_roundw
        case rel => exact ⟨k + 1, by omega, by go_num, by rw [HS2.out], Lib.hid (ext_trans HBw.out (ext_alloc1 _ _))⟩
        case measure => simp [intOf]; omega
    · obtain rfl : k = cs.length := by omega
      have e2 : ¬ (cs.length : Int) < cs.length := by omega
      go_wp2_with fail
      go_ret
      exact ⟨rfl, HBw.out⟩
end Go.Proofs.YtpoalklakhegoaaDoor
