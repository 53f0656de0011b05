/-
  Logs, plain, second part: what the functions answer of a made log.
-/
import Derived.Test.YtiedojkoogfokaaDoorLgsP
import Derived.Test.YtiedojkoogfokaaDoorLog12
import Derived.Test.YtiedojkoogfokaaDoorLog13
import Derived.Test.YtiedojkoogfokaaDoorLog14
import Derived.Test.YtiedojkoogfokaaDoorLog15
namespace Go.Proofs.YtiedojkoogfokaaDoor
open Go.ChangeShapes Go.WideShapes Go.ChangeAt Go.RowKit Go.Sort
open Go.Lib
set_option linter.unusedVariables false

theorem oK_sz {es : List EN} (hv : es.all vEn = true) (h7 : es.length ≤ 7) {k : Nat} (hk : k ≤ es.length) : (oK es k).size ≤ 420 := by
  have := oL_len hv k hk
  rw [oL_size] at this
  omega
theorem lg_made {es : List EN} (hv : es.all vEn = true) (hd : dK es es.length = true) (h7 : es.length ≤ 7) {n : Nat} (hn : n ≤ es.length) :
    lgC (oK es n) = 0 ∧ lgE (oK es n) = es.take n ∧ lgS (oK es n) = sK es n := by
  have h1 := oK_sz hv h7 hn
  have h2 : rdLog (oK es n).data.toList = (es.take n, sK es n, (oL es n).length) := rd_made hv hd hn
  have h3 : lgC (oK es n) = 0 := by
    unfold lgC
    rw [if_neg (by omega), if_pos (by rw [h2, oL_size])]
  obtain ⟨h4, h5, _⟩ := lg_yes h3
  exact ⟨h3, by rw [h4, h2], by rw [h5, h2]⟩
theorem made_log {es : List EN} (hv : es.all vEn = true) (hd : dK es es.length = true) (h7 : es.length ≤ 7) : mLogOf es = (oK es es.length, 0) := by
  have h1 := oK_sz hv h7 (Nat.le_refl _)
  unfold mLogOf
  rw [hv, hd, if_neg (by omega)]
  rfl
theorem day_made {es : List EN} (hv : es.all vEn = true) (hd : dK es es.length = true) {k : Nat} (hk : k < es.length) : lday (es.take k) ≤ (gd es k).day := by
  rw [lday_take (by omega)]
  split
  · exact (vEn_iff.1 (all_at hv hk)).1.1
  · have := dK_at hd (j := k - 1) (by omega)
    rwa [show k - 1 + 1 = k by omega] at this
theorem add_made {es : List EN} (hv : es.all vEn = true) (hd : dK es es.length = true) (h7 : es.length ≤ 7) {k : Nat} (hk : k < es.length) : mAddEntry (oK es k) (gd es k) = (oK es (k + 1), 0) := by
  obtain ⟨h1, h2, h3⟩ := lg_made hv hd h7 (show k ≤ es.length by omega)
  have h4 := oK_sz hv h7 (show k + 1 ≤ es.length by omega)
  have h5 := day_made hv hd hk
  unfold mAddEntry mAdded
  rw [if_pos h1, h2, h3, all_at hv hk, if_neg (by omega)]
  rw [oK_succ, sK_succ hk, ByteArray.size_append] at h4
  rw [if_neg (by omega), oK_succ, sK_succ hk]
  rfl
theorem toList_cut (s : ByteArray) (c : Nat) : (s.extract 0 c).data.toList = s.data.toList.take c := by
  rw [ByteArray.data_extract, Array.toList_extract]
  simp
theorem size_cut {s : ByteArray} {c : Nat} (h : c ≤ s.size) : (s.extract 0 c).size = c := by rw [ByteArray.size_extract]; omega
theorem cut_facts {s : ByteArray} {c : Nat} (hc : c ≤ s.size) (hs : s.size ≤ 4000) : ∃ m : Nat, m ≤ c ∧ mRecover (s.extract 0 c) = (s.extract 0 m, (c : Int) - m, 0) ∧ mCheckLog (s.extract 0 c) = ((m : Int), 0) ∧ lgC (s.extract 0 m) = 0 ∧ (lgE (s.extract 0 m)).length ≤ (rdLog s.data.toList).1.length := by
  have ht := size_cut hc
  have hm2 : (rdLog (s.extract 0 c).data.toList).2.2 ≤ c := by
    have := (rdLog_le (s.extract 0 c)).2.1
    omega
  generalize hmm : (rdLog (s.extract 0 c).data.toList).2.2 = m at *
  have hx : (s.extract 0 c).extract 0 m = s.extract 0 m := by rw [ByteArray.extract_extract]; congr 1; omega
  have hk : rdLog (s.extract 0 m).data.toList = rdLog (s.extract 0 c).data.toList := by
    rw [← hx, toList_cut, ← hmm]
    exact rdLog_kept _
  have hz : (s.extract 0 m).size = m := size_cut (by omega)
  have h0 : lgC (s.extract 0 m) = 0 := by
    unfold lgC
    rw [if_neg (by omega), if_pos (by rw [hk, hmm, hz])]
  refine ⟨m, hm2, ?_, ?_, h0, ?_⟩
  · unfold mRecover
    rw [if_neg (by omega), hmm, hx, ht]
  · unfold mCheckLog
    rw [if_neg (by omega), hmm]
  · rw [(lg_yes h0).1, hk, toList_cut]
    exact rdLog_cut _ _
theorem ba_nil (s : ByteArray) : s = s ++ ⟨#[]⟩ := by ext1; rw [ByteArray.data_append]; simp
theorem oK_pre (es : List EN) (k : Nat) : ∀ n, k ≤ n → ∃ R, oK es n = oK es k ++ R
  | 0, h => ⟨⟨#[]⟩, by obtain rfl : k = 0 := by omega
                       exact ba_nil _⟩
  | n + 1, h => by
    by_cases hk : k = n + 1
    · exact ⟨⟨#[]⟩, by subst hk; exact ba_nil _⟩
    · obtain ⟨R, hR⟩ := oK_pre es k n (by omega)
      exact ⟨R ++ lnb (sK es (n + 1)) (gd es n), by rw [oK_succ, hR, ByteArray.append_assoc]⟩
theorem oK_cut (es : List EN) {k n : Nat} (h : k ≤ n) : (oK es n).extract 0 (oK es k).size = oK es k := by
  obtain ⟨R, hR⟩ := oK_pre es k n h
  rw [hR]
  exact ByteArray.extract_append_eq_left rfl
end Go.Proofs.YtiedojkoogfokaaDoor
