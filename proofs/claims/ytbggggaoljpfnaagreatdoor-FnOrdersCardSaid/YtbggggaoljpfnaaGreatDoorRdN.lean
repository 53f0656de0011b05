/-
  The program's readNumbers: the numbers between bytes, if there are so many.
-/
import Derived.Test.YtbggggaoljpfnaaGreatDoorReadDec
import Derived.Test.YtbggggaoljpfnaaGreatDoorApp
import Derived.Deep.RegionHeld3
namespace Go.Proofs.YtbggggaoljpfnaaGreatDoor
open Go.ChangeShapes Go.WideShapes Go.ChangeAt Go.RowKit Go.Sort
set_option linter.unusedVariables false
set_option maxRecDepth 100000
attribute [local go_sem ↓] Go.wp_at_zero Go.wp_at_succ

theorem splitN_len (b : UInt8) (l : List UInt8) (n : Nat) (hn : 1 ≤ n) : ((Lib.splitK [b] 0 (min n l.length) l).length = n ∧ Lib.splitK [b] 0 (min n l.length) l = splL b l ∧ (splL b l).length = n) ∨ ((Lib.splitK [b] 0 (min n l.length) l).length ≠ n ∧ (splL b l).length ≠ n) := by
  have h1 := splL_len b l
  by_cases h : (splL b l).length ≤ min n l.length + 1
  · have e := splitK_spl b _ l h
    by_cases h2 : (splL b l).length = n
    · exact Or.inl ⟨by rw [e]; exact h2, e, h2⟩
    · exact Or.inr ⟨by rw [e]; exact h2, h2⟩
  · have e := splitK_many b (min n l.length) l (by omega)
    exact Or.inr ⟨by omega, by omega⟩
/-- SplitN with one part more than asked for. -/
theorem impl_SplitN (s : ByteArray) (hs : s.size ≤ 1048576) (b : UInt8) (n : Nat) (hn : 1 ≤ n) (hn2 : n ≤ 1048577) (w : World) (hE : Env w) :
    Calls Tryz.prog 75 #[.string s, .string ⟨#[b]⟩, .int .i64 ((n : Int) + 1)] w fun e w' => ∃ ad m cp, e = .returned (.slice (some ad) m cp) ∧ m ≤ 1048577 ∧ cp ≤ 1048577 ∧ m ≤ cp ∧ Below w.heap.size w w' ∧
      ((m = n ∧ (spb b s).length = n ∧ RStr w' (.slice (some ad) m cp) (spb b s)) ∨ (m ≠ n ∧ (spb b s).length ≠ n)) := by
  have hq := Tryz.strings_SplitN_shaped s ⟨#[b]⟩ (n + 1) w hE.shp (by omega) (by show 1 ≤ 1; omega) (by omega) (by omega)
  rw [show (((n + 1 : Nat)) : Int) = (n : Int) + 1 by omega] at hq
  refine hq.mono fun e w' ⟨h1, h2⟩ => ?_
  have hk : min (n + 1) (s.size + 1) - 1 = min n s.data.toList.length := by rw [size_toList]; omega
  rw [hk] at h1 h2
  obtain ⟨P, hP⟩ : ∃ P, Lib.splitB ⟨#[b]⟩ 0 (min n s.data.toList.length) s = P := ⟨_, rfl⟩
  have hPd : P = (Lib.splitK [b] 0 (min n s.data.toList.length) s.data.toList).map bsq := mapBsq _ _ (by rw [← hP]; exact Lib.splitB_data _ _ _ _)
  rw [hP] at h1 h2
  have hPl : P.length = (Lib.splitK [b] 0 (min n s.data.toList.length) s.data.toList).length := by rw [hPd, List.length_map]
  have hub : P.length ≤ min (n + 1) (s.size + 1) := by
    rw [hPl]
    have h1 := splL_len b s.data.toList
    by_cases h : (splL b s.data.toList).length ≤ min n s.data.toList.length + 1
    · rw [splitK_spl b _ _ h]; have e := size_toList s; omega
    · rw [splitK_many b (min n s.data.toList.length) _ (by omega)]; have e := size_toList s; omega
  subst h1 h2
  refine ⟨_, P.length, _, rfl, by omega, by omega, hub, ext_alloc1 _ _, ?_⟩
  rcases splitN_len b s.data.toList n hn with ⟨a1, a2, a3⟩ | ⟨a1, a2⟩
  · left
    have hPs : P = spb b s := by rw [hPd, a2]; rfl
    refine ⟨by rw [hPl, a1], by unfold spb; rw [List.length_map]; exact a3, ?_⟩
    rw [← hPs]
    refine ⟨by simp, _, _, rfl, hub, by unfold maxLen; omega, fun _ => ⟨_, rfl, by simp, fun j u hu => ?_⟩⟩
    have hj : j < P.length := by
      have := (List.getElem?_eq_some_iff.1 hu).1
      simpa using this
    have e1 : (⟨w.heap.size, 0, none⟩ : Addr).add j = ⟨w.heap.size, j, none⟩ := by simp [Addr.add]; try omega
    rw [e1, World.cell?_alloc_at _ _ _ _ rfl]
    unfold Lib.cellsOf
    rw [List.getElem?_toArray, List.getElem?_append_left (by simpa using hj)]
    exact hu
  · right
    exact ⟨by rw [hPl]; exact a1, by unfold spb; rw [List.length_map]; exact a2⟩

/-- Are there so many numbers? -/
def rdNs (b : UInt8) (s : ByteArray) (n : Nat) : Bool := decide ((spb b s).length = n) && (spb b s).all rdb
theorem rdNs_len {b : UInt8} {s : ByteArray} {n : Nat} (h : (spb b s).length ≠ n) : rdNs b s n = false := by unfold rdNs; rw [decide_eq_false h]; rfl
theorem all_take_gd (p : ByteArray → Bool) {l : List ByteArray} {k : Nat} (hk : k < l.length) : (l.take (k + 1)).all p = ((l.take k).all p && p (gd l k)) := by rw [take_gd hk]; simp
theorem map_take_gd (f : ByteArray → Int) {l : List ByteArray} {k : Nat} (hk : k < l.length) : (l.take (k + 1)).map f = (l.take k).map f ++ [f (gd l k)] := by rw [take_gd hk]; simp
theorem all_gd_no {p : ByteArray → Bool} {l : List ByteArray} {k : Nat} (hk : k < l.length) (h : p (gd l k) = false) : l.all p = false := by
  rw [List.all_eq_false]; exact ⟨_, gd_mem hk, by simp [h]⟩
def RetN (b : UInt8) (s : ByteArray) (n : Nat) (w : World) : Ending → World → Prop := fun e w' => ∃ v, e = .returned (.tuple #[v, .bool (rdNs b s n)]) ∧ Below w.heap.size w w' ∧
  (rdNs b s n = true → (spb b s).length = n ∧ (∃ A c, v = .slice A n c) ∧ OI w' w.heap.size v ((spb b s).map rdv))
set_option maxHeartbeats 3200000 in
theorem impl_readNumbers (s : ByteArray) (hs : s.size ≤ 1048576) (b : UInt8) (n : Nat) (hn : 1 ≤ n) (hn2 : n ≤ 1048577) (w : World) (hE : Env w) :
    Calls Tryz.prog 55 #[.string s, .string ⟨#[b]⟩, .int .i64 (n : Int)] w (RetN b s n w) := by
  have HS := Lib.hid (impl_SplitN s hs b n hn hn2 w hE)
  have HEV : Hid (∀ W', Below w.heap.size w W' → Env W') := Lib.hid fun W' h => hE.ext h
  have HRD : Hid (∀ x : ByteArray, x ∈ spb b s → x.size ≤ 1048576) := Lib.hid fun x hx => by
    unfold spb at hx
    obtain ⟨u, hu, rfl⟩ := List.mem_map.1 hx
    rw [bsq_size]
    have := splL_part hu
    rw [size_toList] at this
    omega
  clear hE
  go_enter Tryz.func55, Tryz.ntmps55
  go_wp2_with fail
  refine (show Calls _ _ _ _ _ from HS.out).mono ?_
  rintro e w1 ⟨ad, m, cp, rfl, hm, hcp, hmc, hb1, hc⟩
  have HW1 := Lib.hid hb1
  clear hb1 HS
  rcases hc with ⟨rfl, hl, hR⟩ | ⟨hne, hl⟩
  · obtain ⟨l, hll⟩ : ∃ l, spb b s = l := ⟨_, rfl⟩
    have HRN : Hid (rdNs b s m = l.all rdb) := Lib.hid (by unfold rdNs; rw [decide_eq_true hl, hll]; rfl)
    have HLL := Lib.hid hll
    rw [hll] at hl hR HRD
    have HLN := Lib.hid hl
    have HA := Lib.hid hR
    clear hll hR hl
    go_wp2_with fail
    go_loopw [9, 26] (fun u i wr => ∃ (k : Nat) (B : Option Addr) (cq : Nat), k ≤ m ∧ i = .int .i64 k ∧ u = .slice B k cq ∧ Hid ((l.take k).all rdb = true) ∧ Hid (OI wr w1.heap.size (.slice B k cq) ((l.take k).map rdv)) ∧ Hid (Below w1.heap.size w1 wr)) (fun _ i _ => m - (intOf i).toNat)
    case atStart => exact ⟨0, some ⟨w1.heap.size, 0, none⟩, 0, Nat.zero_le _, rfl, rfl, Lib.hid rfl, Lib.hid (World.ownsRow_lit _ #[] 0 (Nat.le_refl _) (by simp [maxLen]) (by simp)), Lib.hid (ext_alloc1 _ _)⟩
    case round =>
      obtain ⟨k, B, cq, hk, rfl, rfl, HT, HO, HB⟩ := hrel
      have e1 : (0 : Int) ≤ k := by omega
      have hsz := HB.out.size
      by_cases hlt : k < m
      · have e2 : (k : Int) < m := by omega
        obtain ⟨ad', hA, _, hc⟩ := (HA.out.ext HB.out).at (k := k) (by rw [HLN.out]; exact hlt)
        injection hA with hA
        subst hA
        have hc0 := hc k (by rw [HLN.out]; exact hlt)
        clear hc
        obtain ⟨x, hx⟩ : ∃ x, gd l k = x := ⟨_, rfl⟩
        rw [hx] at hc0
        have HC : Hid (∀ w, Env w → Calls Tryz.prog 53 #[.string x] w (Ret (.tuple #[.int .i64 (rdv x), .bool (rdb x)]) w)) := Lib.hid fun w h => impl_ReadDecimal x (HRD.out x (by rw [← hx]; exact gd_mem (by rw [HLN.out]; exact hlt))) w h
        have HN : Hid (rdb x = false → rdNs b s m = false) := Lib.hid fun h => by rw [HRN.out]; exact all_gd_no (by rw [HLN.out]; exact hlt) (by rw [hx]; exact h)
        have HTA : Hid ((l.take (k + 1)).all rdb = rdb x) := Lib.hid (by rw [all_take_gd rdb (by rw [HLN.out]; exact hlt), HT.out, hx]; rfl)
        have HMA : Hid ((l.take (k + 1)).map rdv = (l.take k).map rdv ++ [rdv x]) := Lib.hid (by rw [map_take_gd rdv (by rw [HLN.out]; exact hlt), hx])
        have HKL : Hid (((l.take k).map rdv).length = k) := Lib.hid (by rw [List.length_map, List.length_take, HLN.out]; omega)
        clear hx
        obtain ⟨v, hv⟩ : ∃ v, rdv x = v := ⟨_, rfl⟩
        obtain ⟨ok, hok⟩ : ∃ ok, rdb x = ok := ⟨_, rfl⟩
        rw [hv, hok] at HC
        rw [hok] at HN HTA
        rw [hv] at HMA
        clear hv hok
        go_wp2_with fail
        refine (show Calls _ _ _ _ _ from HC.out _ (HEV.out _ (ext_trans HW1.out HB.out))).mono ?_
        rintro e w2 ⟨rfl, hb2⟩
        have HB2 := Lib.hid (ext_trans HB.out hb2)
        have HO2 := Lib.hid (HO.out.ext hb2)
        have hsz2 := HB2.out.size
        clear hb2 hc0
        cases ok with
        | false =>
          have HF := Lib.hid (HN.out rfl)
          go_wp2_with fail
          go_ret2
          exact ⟨.slice none 0 0, (by rw [HF.out]; exact rfl), ext_trans HW1.out HB2.out, fun h => by rw [HF.out] at h; cases h⟩
        | true =>
          obtain ⟨xs, hxs⟩ : ∃ xs, (l.take k).map rdv = xs := ⟨_, rfl⟩
          rw [hxs] at HO2 HMA HKL
          clear HO hxs
          have hxl := HKL.out
          have HO3 : Hid (OI w2 w1.heap.size (.slice B xs.length cq) xs) := Lib.hid (by rw [hxl]; exact HO2.out)
          clear hxl
          go_wp2_with (at_builtin; refine wpList_append_i rfl _ _ rfl w1.heap.size (.slice B k cq) xs v rfl rfl HO2.out (by rw [HKL.out]; omega) hsz2 ?_; intro g2 cap w4 hO4 hg4 hlt4)
          go_roundw
          case rel =>
            refine ⟨k + 1, some ⟨g2, 0, none⟩, cap, by omega, by go_num, by rw [HKL.out], Lib.hid HTA.out, Lib.hid ?_, Lib.hid (Chg.ext HB2.out hg4 (fun j hj => (HO2.out.ge j hj).1))⟩
            rw [HMA.out]
            rw [HKL.out] at hO4
            exact hO4
          case measure => simp [intOf]; omega
      · obtain rfl : k = m := by omega
        have HF : Hid (rdNs b s k = true) := Lib.hid (by
          have h := HT.out
          rw [List.take_of_length_le (by rw [HLN.out]; exact Nat.le_refl _)] at h
          rw [HRN.out, h])
        have HO2 : Hid (OI wr w1.heap.size (.slice B k cq) (l.map rdv)) := Lib.hid (by
          have h := HO.out
          rwa [List.take_of_length_le (by rw [HLN.out]; exact Nat.le_refl _)] at h)
        go_wp2_with fail
        go_ret2
        exact ⟨.slice B k cq, (by rw [HF.out]; exact rfl), ext_trans HW1.out HB.out, fun _ => ⟨by rw [HLL.out]; exact HLN.out, ⟨B, cq, rfl⟩, by rw [HLL.out]; exact HO2.out.mono HW1.out.size⟩⟩
  · have HF := Lib.hid (rdNs_len hl)
    have e1 : ((m : Int) != (n : Int)) = true := by simp; omega
    clear hl hne
    go_wp2_with fail
    go_ret2
    exact ⟨.slice none 0 0, (by rw [HF.out]; exact rfl), HW1.out, fun h => by rw [HF.out] at h; cases h⟩
end Go.Proofs.YtbggggaoljpfnaaGreatDoor
