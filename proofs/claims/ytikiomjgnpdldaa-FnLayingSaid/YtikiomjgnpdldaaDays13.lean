/-
  Days at the site, thirteenth part: SiteText.
-/
import Derived.Test.YtikiomjgnpdldaaDays12
import Derived.Laws.IdiomStrings
namespace Go.Proofs.Ytikiomjgnpdldaa
open Go.ChangeShapes Go.WideShapes Go.ChangeAt Go.RowKit Go.Sort
set_option linter.unusedVariables false
set_option maxRecDepth 8000

/-- The bytes l behind a block. -/
def BYD (w : World) (b : Nat) (l : List UInt8) : Prop := b < w.heap.size ∧ ∀ j (h : j < l.length), w.cell? ⟨b, j, none⟩ = some (.int .u8 (l[j].toNat : Int)) ∧ w.frozen? ⟨b, j, none⟩ = false
theorem BYD.ext {w w' : World} {b : Nat} {l : List UInt8} (h : BYD w b l) (hb : Below w.heap.size w w') : BYD w' b l :=
  ⟨Nat.lt_of_lt_of_le h.1 hb.size, fun j hj => ⟨cell_keep (h.2 j hj).1 hb, (hb.frozen (p := ⟨b, j, none⟩) h.1).trans (h.2 j hj).2⟩⟩
theorem BYD.set {w : World} {b : Nat} {l : List UInt8} (h : BYD w b l) {i : Nat} (hi : i < l.length) (c : UInt8) : BYD (w.setCell ⟨b, i, none⟩ (.int .u8 (c.toNat : Int))) b (l.set i c) := by
  refine ⟨by simpa using h.1, fun j hj => ?_⟩
  rw [List.length_set] at hj
  refine ⟨?_, by simpa using (h.2 j hj).2⟩
  by_cases e : i = j
  · subst e
    rw [World.cell?_setCell_same _ _ _ (h.2 i hi).1]
    simp
  · rw [World.cell?_setCell_other _ _ _ _ (by simp), (h.2 j hj).1, List.getElem_set_ne e]
theorem u8_sub (c : UInt8) : IntKind.u8.wrap ((c.toNat : Int) - 32) = ((c - 32).toNat : Int) := by
  have h : ∀ i : Fin 256, IntKind.u8.wrap (((UInt8.ofNat i.val).toNat : Int) - 32) = (((UInt8.ofNat i.val) - 32).toNat : Int) := by decide +kernel
  have := h ⟨c.toNat, c.toNat_lt⟩
  simpa using this

theorem conv_bytes (w : World) (s : ByteArray) : ∃ cap w2, (convert 9 22 (.string s)).run Try.prog w = .ok (.slice (some ⟨w.heap.size, 0, none⟩) s.size cap) w2 ∧ BYD w2 w.heap.size s.data.toList ∧ Below w.heap.size w w2 ∧ s.size ≤ cap := by
  have hcap := grownCap_ge w s.size 0 5
  refine ⟨_, _, run_bytes_of_string w _ _ _ s Try.underlying9 Try.underlying22 Try.underlying5, ⟨by simp, fun j hj => ?_⟩, ext_alloc (ext_drew (ext_refl _)) _, by simpa using hcap⟩
  have hj' : j < s.data.size := by simpa using hj
  refine ⟨?_, ?_⟩
  · have := World.cell?_alloc_mark w.drew (bytesRow s (grownCap w s.size 0 5)) 5 ((bytesRow s (grownCap w s.size 0 5)).size, (bytesRow s (grownCap w s.size 0 5)).size + 1) j
    rw [bytesRow_at s _ j hj'] at this
    simpa using this
  · have := World.frozen?_alloc_mark w.drew (bytesRow s (grownCap w s.size 0 5)) 5 (bytesRow s (grownCap w s.size 0 5)).size ((bytesRow s (grownCap w s.size 0 5)).size + 1) j
    have h2 : ¬ (bytesRow s (grownCap w s.size 0 5)).size ≤ j := by
      have h3 := bytesRow_at s (grownCap w s.size 0 5) j hj'
      intro h4
      rw [Array.getElem?_eq_none h4] at h3
      cases h3
    simp only [h2, decide_false, Bool.false_and] at this
    exact this
theorem conv_back {w : World} {b n cap : Nat} {l : List UInt8} (h : BYD w b l) (hn : l.length = n) : (convert 22 9 (.slice (some ⟨b, 0, none⟩) n cap)).run Try.prog w = .ok (.string ⟨l.toArray⟩) w := by
  subst hn
  exact run_convert_bytes_back w _ _ _ ⟨b, 0, none⟩ cap l Try.underlying22 Try.underlying5 Try.underlying9 (fun j hj => by
    rw [show (Addr.add ⟨b, 0, none⟩ j) = ⟨b, j, none⟩ from by unfold Addr.add; split <;> simp_all]
    exact (h.2 j hj).1)
theorem free_in {s : ByteArray} {xs : List Int} (h : vSite s xs = true) {k : Nat} (hk : k < xs.length) : ∃ i : Nat, i < s.size ∧ gi xs k = i := by
  simp only [vSite, Bool.and_eq_true, rises_split, Bool.not_eq_true'] at h
  have h1 := h.2.1
  unfold outB at h1
  rw [List.any_eq_false] at h1
  have h2 := h1 (gi xs k) (by unfold gi; rw [List.getD_eq_getElem?_getD, List.getElem?_eq_getElem hk]; exact List.getElem_mem hk)
  simp only [Bool.not_eq_true, Bool.not_eq_false'] at h2
  have h3 := inB_iff.1 h2
  obtain ⟨i, hi⟩ := Int.eq_ofNat_of_zero_le h3.1
  exact ⟨i, by omega, hi⟩

/-- The bytes of the text behind k days that are free. -/
def upB (l : List UInt8) (xs : List Int) : Nat → List UInt8
  | 0 => l
  | k + 1 => (upB l xs k).set (gi xs k).toNat ((upB l xs k).getD (gi xs k).toNat 0 - 32)
theorem upB_len (l : List UInt8) (xs : List Int) (k : Nat) : (upB l xs k).length = l.length := by
  induction k with
  | zero => rfl
  | succ k ih => rw [upB, List.length_set, ih]
def mSiteText (s : ByteArray) (xs : List Int) : ByteArray := bif vSite s xs then ⟨(upB s.data.toList xs xs.length).toArray⟩ else ⟨#[]⟩

set_option maxHeartbeats 800000 in
theorem spec_SiteText (v : Value) (s : ByteArray) (xs : List Int) (w : World) (hR : ST w v s xs) (hsm : SmST s xs) :
    Calls Try.prog 26 #[v] w (Ret (.string (mSiteText s xs)) w) := by
  obtain ⟨A, c, rfl, hR⟩ := hR
  have HP := Lib.hid (ps_box (T := 26) (s := s) hR)
  have e3 : (s.size:Int) ≤ 1048576 := by have := hsm.1; omega
  have HS := Lib.hid hsm; clear hsm hR
  go_enter Try.func26, Try.ntmps26
  go_wp2_with fail
  refine (spec_ok _ s xs (by unfold maxLen; omega) _ HP.out).mono ?_
  rintro e w1 ⟨rfl, hb⟩
  have HW := Lib.hid (ext_trans (ext_alloc1 _ _) hb)
  have HP1 := Lib.hid (HP.out.ext hb)
  clear hb
  cases hv : vSite s xs with
  | false =>
    have HM : Hid (mSiteText s xs = ⟨#[]⟩) := Lib.hid (by unfold mSiteText; rw [hv]; rfl)
    clear hv
    go_wp2_with fail
    go_ret
    exact ⟨by rw [HM.out]; rfl, HW.out⟩
  | true =>
    have HM : Hid (mSiteText s xs = ⟨(upB s.data.toList xs xs.length).toArray⟩) := Lib.hid (by unfold mSiteText; rw [hv]; rfl)
    have HV := Lib.hid hv; clear hv
    obtain ⟨A1, c1, hc0, hc1, hs1⟩ := HP1.out.st
    obtain ⟨cap, w2, hrun, hBY, hb2, hcap⟩ := conv_bytes w1 s
    have HB2 := Lib.hid hb2; clear hb2
    have HY := Lib.hid hBY; clear hBY
    clear hc1 hs1
    obtain ⟨A2, c2, hd0, hd1, hs2⟩ := (HP1.out.ext HB2.out).st
    clear hd0 hd1 hs2
    go_wp2_with fail
    clear hc0 hrun
    have hcap2 : (s.size : Int) ≤ cap := by omega
    go_loopw [4] (fun i wr => ∃ k : Nat, k ≤ xs.length ∧ i = .int .i64 k ∧ Hid (BYD wr w1.heap.size (upB s.data.toList xs k)) ∧ Below w1.heap.size w1 wr) (fun i _ => xs.length - (intOf i).toNat)
    case atStart => exact ⟨0, Nat.zero_le _, rfl, HY.out, HB2.out⟩
    case round =>
      obtain ⟨k, hk, rfl, HY1, hbw⟩ := hrel
      have hPw := HP1.out.ext hbw
      obtain ⟨hc0, A3, c3, hc1, hR3⟩ := hPw
      have HB := Lib.hid hbw; clear hbw
      have hls : (xs.length : Int) ≤ 1048576 := by have := HS.out.2; omega
      by_cases hlt : k < xs.length
      · have e5 : (k:Int) < xs.length := by omega
        have e6 : (0:Int) ≤ k := by omega
        obtain ⟨i0, hi0, hgi⟩ := free_in HV.out hlt
        obtain ⟨ad, rfl, hbd, hca⟩ := hR3.at2 hlt
        have hcx := hca k hlt
        rw [hgi] at hcx
        have HGI := Lib.hid hgi; clear hgi hca hbd
        have e7 : (0:Int) ≤ i0 := by omega
        have e8 : (i0:Int) < s.size := by omega
        have hlen : i0 < (upB s.data.toList xs k).length := by rw [upB_len]; simpa using hi0
        obtain ⟨y, hyy, hyc, hyf⟩ : ∃ y, (upB s.data.toList xs k).getD i0 0 = y ∧ wr.cell? ⟨w1.heap.size, i0, none⟩ = some (.int .u8 (y.toNat : Int)) ∧ wr.frozen? ⟨w1.heap.size, i0, none⟩ = false :=
          ⟨_, rfl, by rw [List.getD_eq_getElem?_getD, List.getElem?_eq_getElem hlen]; exact (HY1.out.2 i0 hlen).1, (HY1.out.2 i0 hlen).2⟩
        have HYY := Lib.hid hyy; clear hyy
        have HLEN := Lib.hid hlen; clear hlen
        have hsub := u8_sub y
        go_wp2_with fail
        go_roundw
        case rel =>
          refine ⟨k + 1, by omega, by go_num, ?_, HB.out.setCell (p := ⟨w1.heap.size, i0, none⟩) (Nat.le_refl _) _⟩
          have h := HY1.out.set HLEN.out (y - 32)
          unfold Hid
          rw [upB, HGI.out]
          simp only [Int.toNat_natCast]
          rw [HYY.out]
          exact h
        case measure => simp [intOf]; omega
      · have e5 : ¬ (k:Int) < xs.length := by omega
        have hkn : k = xs.length := by omega
        subst hkn
        have hback := conv_back (cap := cap) HY1.out (n := s.size) (by rw [upB_len]; simp)
        go_wp2_with fail
        go_ret
        exact ⟨by rw [HM.out]; rfl, ext_trans HW.out HB.out⟩

set_option maxHeartbeats 800000 in
theorem impl_SiteText (v : Value) (s : ByteArray) (xs : List Int) (w : World) (hR : ST w v s xs) (hsm : SmST s xs) :
    Calls Try.prog 25 #[v] w (Ret (.string (mSiteText s xs)) w) := by
  obtain ⟨A, c, rfl, hR⟩ := hR
  have HP := Lib.hid (ps_box (T := 26) (s := s) hR)
  have e3 : (s.size:Int) ≤ 1048576 := by have := hsm.1; omega
  have HS := Lib.hid hsm; clear hsm hR
  go_enter Try.func25, Try.ntmps25
  go_wp2_with fail
  refine (impl_ValidSite _ s xs _ (by obtain ⟨A0, c0, h0, h1, hs⟩ := HP.out.st; simp [go_sem] at h1; obtain ⟨rfl, rfl⟩ := h1; exact hs) HS.out).mono ?_
  rintro e w1 ⟨rfl, hb⟩
  have HW := Lib.hid (ext_trans (ext_alloc1 _ _) hb)
  have HP1 := Lib.hid (HP.out.ext hb)
  clear hb
  cases hv : vSite s xs with
  | false =>
    have HM : Hid (mSiteText s xs = ⟨#[]⟩) := Lib.hid (by unfold mSiteText; rw [hv]; rfl)
    clear hv
    go_wp2_with fail
    go_ret
    exact ⟨by rw [HM.out]; rfl, HW.out⟩
  | true =>
    have HM : Hid (mSiteText s xs = ⟨(upB s.data.toList xs xs.length).toArray⟩) := Lib.hid (by unfold mSiteText; rw [hv]; rfl)
    have HV := Lib.hid hv; clear hv
    obtain ⟨hc0, A1, c1, hc1, hR1⟩ := HP1.out
    have HR1 := Lib.hid hR1; clear hR1
    obtain ⟨cap, w2, hrun, hBY, hb2, hcap⟩ := conv_bytes w1 s
    have HB2 := Lib.hid hb2; clear hb2
    have HY := Lib.hid hBY; clear hBY
    have hd1 := cell_keep hc1 HB2.out
    clear hc1
    go_wp2_with fail
    clear hc0 hrun
    have hcap2 : (s.size : Int) ≤ cap := by omega
    clear hd1
    go_loopw [15] (fun i wr => ∃ k : Nat, k ≤ xs.length ∧ i = .int .i64 k ∧ Hid (BYD wr w1.heap.size (upB s.data.toList xs k)) ∧ Below w1.heap.size w1 wr) (fun i _ => xs.length - (intOf i).toNat)
    case atStart => exact ⟨0, Nat.zero_le _, rfl, HY.out, HB2.out⟩
    case round =>
      obtain ⟨k, hk, rfl, HY1, hbw⟩ := hrel
      have hR3 := HR1.out.ext hbw
      have HB := Lib.hid hbw; clear hbw
      have hls : (xs.length : Int) ≤ 1048576 := by have := HS.out.2; omega
      by_cases hlt : k < xs.length
      · have e5 : (k:Int) < xs.length := by omega
        have e6 : (0:Int) ≤ k := by omega
        obtain ⟨i0, hi0, hgi⟩ := free_in HV.out hlt
        obtain ⟨ad, rfl, hbd, hca⟩ := hR3.at2 hlt
        have hcx := hca k hlt
        rw [hgi] at hcx
        have HGI := Lib.hid hgi; clear hgi hca hbd
        have e7 : (0:Int) ≤ i0 := by omega
        have e8 : (i0:Int) < s.size := by omega
        have hlen : i0 < (upB s.data.toList xs k).length := by rw [upB_len]; simpa using hi0
        obtain ⟨y, hyy, hyc, hyf⟩ : ∃ y, (upB s.data.toList xs k).getD i0 0 = y ∧ wr.cell? ⟨w1.heap.size, i0, none⟩ = some (.int .u8 (y.toNat : Int)) ∧ wr.frozen? ⟨w1.heap.size, i0, none⟩ = false :=
          ⟨_, rfl, by rw [List.getD_eq_getElem?_getD, List.getElem?_eq_getElem hlen]; exact (HY1.out.2 i0 hlen).1, (HY1.out.2 i0 hlen).2⟩
        have HYY := Lib.hid hyy; clear hyy
        have HLEN := Lib.hid hlen; clear hlen
        have hsub := u8_sub y
        go_wp2_with fail
        go_roundw
        case rel =>
          refine ⟨k + 1, by omega, by go_num, ?_, HB.out.setCell (p := ⟨w1.heap.size, i0, none⟩) (Nat.le_refl _) _⟩
          have h := HY1.out.set HLEN.out (y - 32)
          unfold Hid
          rw [upB, HGI.out]
          simp only [Int.toNat_natCast]
          rw [HYY.out]
          exact h
        case measure => simp [intOf]; omega
      · have e5 : ¬ (k:Int) < xs.length := by omega
        have hkn : k = xs.length := by omega
        subst hkn
        have hback := conv_back (cap := cap) HY1.out (n := s.size) (by rw [upB_len]; simp)
        go_wp2_with fail
        go_ret
        exact ⟨by rw [HM.out]; rfl, ext_trans HW.out HB.out⟩

end Go.Proofs.Ytikiomjgnpdldaa
