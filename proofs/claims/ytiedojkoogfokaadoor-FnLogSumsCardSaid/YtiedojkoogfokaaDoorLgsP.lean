/-
  Logs, plain: what is read of a made log, of a part of a log, and of what was read of one.
-/
import Derived.Test.YtiedojkoogfokaaDoorLog16
import Derived.Test.YtiedojkoogfokaaDoorLog10
import Derived.Test.YtiedojkoogfokaaDoorLog11
namespace Go.Proofs.YtiedojkoogfokaaDoor
open Go.ChangeShapes Go.WideShapes Go.ChangeAt Go.RowKit Go.Sort
open Go.Lib
set_option linter.unusedVariables false

theorem stepL_of {es : List EN} {st : Int} {rest : List UInt8} {e : EN} {st' : Int} {n : Nat} (h : stepL es st rest = some (e, st', n)) {rest' : List UInt8} (ht : rest'.take n = rest.take n) : stepL es st rest' = some (e, st', n) := by
  obtain ⟨h1, h2, h3, h4, h5, h6⟩ := stepL_some h
  subst h3
  have := stepL_mk (es := es) (st := st) h1 h2 (rest'.drop n)
  rw [← h4, ← ht, List.take_append_drop, ht, h4, ← h5] at this
  exact this
theorem rdL_ge (s : List UInt8) : ∀ (f : Nat) (es : List EN) (st : Int) (n : Nat), n ≤ (rdL s f es st n).2.2 ∧ es.length ≤ (rdL s f es st n).1.length
  | 0, es, st, n => ⟨Nat.le_refl _, Nat.le_refl _⟩
  | f + 1, es, st, n => by
    rw [rdL]
    split
    · rename_i e st' k hk
      have ih := rdL_ge s f (es ++ [e]) st' (n + k)
      rw [List.length_append] at ih
      simp only [List.length_cons, List.length_nil] at ih
      omega
    · exact ⟨Nat.le_refl _, Nat.le_refl _⟩
theorem drop_take' (s : List UInt8) (c n : Nat) : (s.take c).drop n = (s.drop n).take (c - n) := List.drop_take
theorem rdL_cut (s : List UInt8) (c : Nat) : ∀ (f : Nat) (es : List EN) (st : Int) (n : Nat), (rdL (s.take c) f es st n).1.length ≤ (rdL s f es st n).1.length
  | 0, es, st, n => Nat.le_refl _
  | f + 1, es, st, n => by
    rw [rdL]
    split
    · rename_i e st' k hk
      rw [drop_take'] at hk
      have h6 := (stepL_some hk).2.2.2.2.2
      rw [List.length_take] at h6
      have hk2 : stepL es st (s.drop n) = some (e, st', k) := stepL_of hk (by rw [List.take_take, Nat.min_eq_left (by omega)])
      rw [rdL, hk2]
      exact rdL_cut s c f _ _ _
    · exact (rdL_ge s (f + 1) es st n).2
theorem rdLog_cut (s : List UInt8) (c : Nat) : (rdLog (s.take c)).1.length ≤ (rdLog s).1.length := by
  have h := rdL_cut s c (s.length + 1) [] 0 0
  have hl : (s.take c).length ≤ s.length := by rw [List.length_take]; omega
  rw [rdL_fuel (s.take c) (s.length + 1) ((s.take c).length + 1) [] 0 0 (by omega) (by omega)] at h
  exact h
theorem rdL_kept (s : List UInt8) : ∀ (f : Nat) (es : List EN) (st : Int) (n : Nat), rdL (s.take (rdL s f es st n).2.2) f es st n = rdL s f es st n
  | 0, es, st, n => rfl
  | f + 1, es, st, n => by
    cases hk : stepL es st (s.drop n) with
    | none =>
      have h1 : rdL s (f + 1) es st n = (es, st, n) := by rw [rdL, hk]
      rw [h1, rdL, drop_take', Nat.sub_self, List.take_zero]
      rfl
    | some x =>
      obtain ⟨e, st', k⟩ := x
      have h1 : rdL s (f + 1) es st n = rdL s f (es ++ [e]) st' (n + k) := by rw [rdL, hk]
      rw [h1]
      have h2 := (rdL_ge s f (es ++ [e]) st' (n + k)).1
      have hk2 : stepL es st ((s.take (rdL s f (es ++ [e]) st' (n + k)).2.2).drop n) = some (e, st', k) := by
        rw [drop_take']
        exact stepL_of hk (by rw [List.take_take, Nat.min_eq_left (by omega)])
      rw [rdL, hk2]
      exact rdL_kept s f (es ++ [e]) st' (n + k)
theorem rdLog_kept (s : List UInt8) : rdLog (s.take (rdLog s).2.2) = rdLog s := by
  have h := rdL_kept s (s.length + 1) [] 0 0
  have hl : (s.take (rdLog s).2.2).length ≤ s.length := by rw [List.length_take]; omega
  have e : rdL s (s.length + 1) [] 0 0 = rdLog s := rfl
  rw [e] at h
  rw [rdL_fuel (s.take (rdLog s).2.2) (s.length + 1) ((s.take (rdLog s).2.2).length + 1) [] 0 0 (by omega) (by omega)] at h
  exact h

/-! ### What is made -/
def oL (es : List EN) (k : Nat) : List UInt8 := (oK es k).data.toList
theorem oL_zero (es : List EN) : oL es 0 = [] := rfl
theorem oL_succ (es : List EN) (k : Nat) : oL es (k + 1) = oL es k ++ linL (sK es (k + 1)) (gd es k) := by
  unfold oL
  rw [oK_succ, ByteArray.data_append, Array.toList_append]; rfl
theorem oL_size (es : List EN) (k : Nat) : (oL es k).length = (oK es k).size := by unfold oL; rw [Array.length_toList]; rfl
theorem oL_split (es : List EN) (k : Nat) : ∀ n, k < n → ∃ R, oL es n = oL es k ++ (linL (sK es (k + 1)) (gd es k) ++ R)
  | 0, h => by omega
  | n + 1, h => by
    by_cases hk : k = n
    · subst hk; exact ⟨[], by rw [oL_succ, List.append_nil]⟩
    · obtain ⟨R, hR⟩ := oL_split es k n (by omega)
      exact ⟨R ++ linL (sK es (n + 1)) (gd es n), by rw [oL_succ, hR]; simp⟩
theorem lday_take {es : List EN} {k : Nat} (hk : k ≤ es.length) : lday (es.take k) = if k = 0 then 0 else (gd es (k - 1)).day := by
  cases k with
  | zero => rfl
  | succ k => rw [take_gd (show k < es.length by omega), lday_snoc]; rfl
theorem dK_at {es : List EN} {n j : Nat} (h : dK es n = true) (hj : j + 1 < n) : (gd es j).day ≤ (gd es (j + 1)).day := by
  unfold dK at h
  have := List.all_eq_true.1 h (j + 1) (by simpa using hj)
  simpa using this
theorem rd_made {es : List EN} (hv : es.all vEn = true) (hd : dK es es.length = true) {n : Nat} (hn : n ≤ es.length) : rdLog (oL es n) = (es.take n, sK es n, (oL es n).length) := by
  have key : ∀ k, k ≤ n → rdLog (oL es n) = rdAt (oL es n) (es.take k) (sK es k) (oL es k).length := by
    intro k
    induction k with
    | zero => intro _; rfl
    | succ k ih =>
      intro hk
      obtain ⟨R, hR⟩ := oL_split es k n (by omega)
      have hd1 : lday (es.take k) ≤ (gd es k).day := by
        rw [lday_take (by omega)]
        split
        · exact (vEn_iff.1 (all_at hv (show k < es.length by omega))).1.1
        · have := dK_at hd (j := k - 1) (by omega)
          rwa [show k - 1 + 1 = k by omega] at this
      have hs : sK es (k + 1) = stmp (sK es k) (wrd (gd es k)) := by rw [sK_succ (show k < es.length by omega)]; rfl
      have hst := stepL_mk (es := es.take k) (st := sK es k) (all_at hv (show k < es.length by omega)) hd1 R
      rw [← hs] at hst
      rw [ih (by omega), rdAt_step (e := gd es k) (st' := sK es (k + 1)) (k := (linL (sK es (k + 1)) (gd es k)).length) (by rw [hR, List.drop_left]; exact hst), take_gd (show k < es.length by omega)]
      congr 1
      rw [oL_succ, List.length_append]
  rw [key n (Nat.le_refl _)]
  refine rdAt_stop ?_
  rw [List.drop_length]
  rfl
theorem oL_len {es : List EN} (hv : es.all vEn = true) : ∀ k, k ≤ es.length → (oL es k).length ≤ 60 * k
  | 0, _ => Nat.le_refl _
  | k + 1, hk => by
    have ih := oL_len hv k (by omega)
    have hs : sK es (k + 1) = stmp (sK es k) (wrd (gd es k)) := by rw [sK_succ (show k < es.length by omega)]; rfl
    have hb := stmp_bd (sK es k) (wrd (gd es k))
    have := linL_len (st := sK es (k + 1)) (all_at hv (show k < es.length by omega)) (by omega) (by omega)
    rw [oL_succ, List.length_append]
    omega

end Go.Proofs.YtiedojkoogfokaaDoor
