/-
  Logs: the program's logCode; EntriesOf.
-/
import Derived.Test.YtoefoljhgnfoiaaGreatDoorLog9
import Derived.Test.YtoefoljhgnfoiaaGreatDoorEntM
namespace Go.Proofs.YtoefoljhgnfoiaaGreatDoor
open Go.ChangeShapes Go.WideShapes Go.ChangeAt Go.RowKit Go.Sort
set_option linter.unusedVariables false
set_option maxRecDepth 100000
attribute [local go_sem ↓] Go.wp_at_zero Go.wp_at_succ

def lgE (s : ByteArray) : List EN := if lgC s = 0 then (rdLog s.data.toList).1 else []
def lgS (s : ByteArray) : Int := if lgC s = 0 then (rdLog s.data.toList).2.1 else 0
def lgN (s : ByteArray) : Int := if lgC s = 0 then (rdLog s.data.toList).2.2 else 0
theorem lg_no {s : ByteArray} (h : lgC s ≠ 0) : lgE s = [] ∧ lgS s = 0 ∧ lgN s = 0 := by unfold lgE lgS lgN; rw [if_neg h, if_neg h, if_neg h]; exact ⟨rfl, rfl, rfl⟩
theorem lg_yes {s : ByteArray} (h : lgC s = 0) : lgE s = (rdLog s.data.toList).1 ∧ lgS s = (rdLog s.data.toList).2.1 ∧ lgN s = (rdLog s.data.toList).2.2 := by unfold lgE lgS lgN; rw [if_pos h, if_pos h, if_pos h]; exact ⟨rfl, rfl, rfl⟩
/-- The entries read are valid. -/
theorem rdL_ok (s : List UInt8) : ∀ (f : Nat) (es : List EN) (st : Int) (n : Nat), (∀ e ∈ es, vEn e = true) → ∀ e ∈ (rdL s f es st n).1, vEn e = true
  | 0, es, st, n, h => h
  | f + 1, es, st, n, h => by
    rw [rdL]
    split
    · rename_i e st' k hk
      refine rdL_ok s f _ _ _ (fun x hx => ?_)
      rcases List.mem_append.1 hx with hx | hx
      · exact h x hx
      · simp only [List.mem_singleton] at hx; subst hx; exact (stepL_some hk).1
    · exact h
theorem lgE_ok (s : ByteArray) : ∀ e ∈ lgE s, vEn e = true := by
  unfold lgE
  split
  · exact rdL_ok _ _ [] 0 0 (fun e he => by simp at he)
  · intro e he; simp at he
theorem lgE_len (s : ByteArray) : (lgE s).length ≤ 4000 := by
  by_cases h : lgC s = 0
  · rw [(lg_yes h).1]
    have h2 := rdLog_le s
    have h3 : ¬ 4000 < s.size := fun h4 => by
      unfold lgC at h
      rw [if_pos h4] at h
      exact absurd h (by decide)
    omega
  · rw [(lg_no h).1]; simp
theorem totEN_ok : ∀ {l : List EN}, (∀ e ∈ l, vEn e = true) → totEN l ≤ 12 * l.length
  | [], _ => by simp [totEN]
  | e :: r, h => by
    have ih := totEN_ok (l := r) (fun x hx => h x (List.mem_cons_of_mem _ hx))
    have h1 := vEn_sm (h e (by simp))
    unfold totEN at ih ⊢
    simp only [List.map_cons, List.sum_cons, List.length_cons]
    omega
theorem lgE_sm (s : ByteArray) : SmENS (lgE s) := by
  have h1 := lgE_len s
  have h2 := totEN_ok (lgE_ok s)
  unfold SmENS
  omega

/-- What logCode leaves. -/
def ICodeP (s : ByteArray) (w : World) : Ending → World → Prop := fun e w' =>
  ∃ A c, e = .returned (.tuple #[.agg #[.slice A (lgE s).length c, .int .i64 (lgS s), .int .i64 (lgN s)], .int .i64 (lgC s)]) ∧ OENS w' w.heap.size (.slice A (lgE s).length c) (lgE s) ∧ Below w.heap.size w w'
theorem ICodeP.no {s : ByteArray} {w w' : World} {k : Int} (h : lgC s = k) (hk : k ≠ 0) (hb : Below w.heap.size w w') : ICodeP s w (.returned (.tuple #[.agg #[.slice none 0 0, .int .i64 0, .int .i64 0], .int .i64 k])) w' := by
  subst h
  obtain ⟨h1, h2, h3⟩ := lg_no hk
  exact ⟨none, 0, by rw [h1, h2, h3]; rfl, by rw [h1]; exact World.ownsRow_nil _ _ _ _, hb⟩

set_option maxHeartbeats 3200000 in
theorem impl_logCode (s : ByteArray) (hs : s.size ≤ 1048576) (w : World) (hE : Env w) :
    Calls Tryz.prog 42 #[.string s] w (ICodeP s w) := by
  have HZ := Lib.hid (fun W' h => box3 w (.slice none 0 0) (.int .i64 0) (.int .i64 0) 75 W' h)
  by_cases h4 : 4000 < s.size
  · have HF : Hid (lgC s = 5) := Lib.hid (by unfold lgC; rw [if_pos h4])
    have e1 : (4000 : Int) < s.size := by omega
    clear h4 hE
    go_enter Tryz.func42, Tryz.ntmps42
    go_wp2_with fail
    refine bodyPost_ret (v := .tuple #[.agg #[.slice none 0 0, .int .i64 0, .int .i64 0], .int .i64 5]) (by simp [results, Tryz.results42, go_sem]) rfl (ICodeP.no HF.out (by decide) ?_)
    repeat (first | exact ext_alloc1 _ _ | refine ext_set ?_ (by simp; try omega) _)
  · have e1 : ¬ (4000 : Int) < s.size := by omega
    have HC : Hid (∀ o, Calls Tryz.prog 58 #[.string s] (w.alloc o) (RLogP s (w.alloc o))) := Lib.hid fun o => impl_readLog s hs _ (hE.ext (ext_alloc1 w o))
    have HF : Hid (lgC s = if (rdLog s.data.toList).2.2 = s.size then 0 else 8) := Lib.hid (by unfold lgC; rw [if_neg h4])
    have hn := (rdLog_le s).2.1
    clear h4 hE
    go_enter Tryz.func42, Tryz.ntmps42
    go_wp2_with fail
    refine (show Calls _ _ _ _ _ from HC.out _).mono ?_
    rintro e w2 ⟨A, c, rfl, hO, hb⟩
    have HO := Lib.hid hO
    have HW : Hid (Below w.heap.size w w2) := Lib.hid (ext_trans (ext_alloc1 _ _) hb)
    have hz0 := (HZ.out _ hb).1
    have hz1 := (HZ.out _ hb).2.1
    have hz2 := (HZ.out _ hb).2.2.1
    have hzf := (HZ.out _ hb).2.2.2
    have hlt : w.heap.size < w2.heap.size := by have := hb.size; simp at this; omega
    clear hO hb HC HZ
    obtain ⟨es, hes⟩ : ∃ es, (rdLog s.data.toList).1 = es := ⟨_, rfl⟩
    obtain ⟨st, hst⟩ : ∃ st, (rdLog s.data.toList).2.1 = st := ⟨_, rfl⟩
    obtain ⟨n, hnn⟩ : ∃ n, (rdLog s.data.toList).2.2 = n := ⟨_, rfl⟩
    rw [hes] at HO ⊢
    rw [hst, hnn]
    rw [hnn] at hn HF
    have HRD : Hid (rdLog s.data.toList = (es, st, n)) := Lib.hid (by rw [← hes, ← hst, ← hnn])
    clear hes hst hnn
    have hn1 : ¬ w.heap.size = w2.heap.size := by omega
    have hn2 : ¬ w2.heap.size = w.heap.size := by omega
    by_cases hq : n = s.size
    · have HG : Hid (lgC s = 0) := Lib.hid (by rw [HF.out, if_pos hq])
      have e2 : ¬ ((n : Int) < s.size) := by omega
      clear hq
      have hx := @box3_set w2 w.heap.size _ _ _ (.slice A es.length c) (.int .i64 st) (.int .i64 (n : Int)) hz0 hz1 hz2
      have hr0 := fun o => cell_keep hx.1 (ext_alloc1 _ o)
      have hr1 := fun o => cell_keep hx.2.1 (ext_alloc1 _ o)
      have hr2 := fun o => cell_keep hx.2.2 (ext_alloc1 _ o)
      have HO2 := Lib.hid (fun o => (HO.out.chg (((Chg.setCell (S := fun k => k = w.heap.size) w2 (p := ⟨w.heap.size, 0, none⟩) rfl (.slice A es.length c)).trans (Chg.setCell (S := fun k => k = w.heap.size) _ (p := ⟨w.heap.size, 1, none⟩) rfl (.int .i64 st))).trans (Chg.setCell (S := fun k => k = w.heap.size) _ (p := ⟨w.heap.size, 2, none⟩) rfl (.int .i64 (n : Int)))) (fun k hk e => by have := (HO.out.ge k hk).1; simp at this; omega)).ext (ext_alloc1 _ o))
      go_wp2_with fail
      clear hz0 hz1 hz2 hzf
      refine bodyPost_ret (v := .tuple #[.agg #[.slice A es.length c, .int .i64 st, .int .i64 (n : Int)], .int .i64 0]) (by simp [results, Tryz.results42, go_sem, hr0, hr1, hr2]) rfl ?_
      obtain ⟨h1, h2, h3⟩ := lg_yes HG.out
      rw [HRD.out] at h1 h2 h3
      refine ⟨A, c, by rw [h1, h2, h3, HG.out], ?_, ?_⟩
      · rw [h1]; exact (HO2.out _).mono (by simp)
      · repeat (first | refine ext_alloc ?_ _ | refine ext_set ?_ (by simp; try omega) _)
        exact HW.out
    · have HG : Hid (lgC s = 8) := Lib.hid (by rw [HF.out, if_neg hq])
      have e2 : (n : Int) < s.size := by omega
      clear hq
      have hx := @box3_set w2 w.heap.size _ _ _ (.slice none 0 0) (.int .i64 0) (.int .i64 0) hz0 hz1 hz2
      have hr0 := fun o => cell_keep hx.1 (ext_alloc1 _ o)
      have hr1 := fun o => cell_keep hx.2.1 (ext_alloc1 _ o)
      have hr2 := fun o => cell_keep hx.2.2 (ext_alloc1 _ o)
      go_wp2_with fail
      clear hz0 hz1 hz2 hzf
      refine bodyPost_ret (v := .tuple #[.agg #[.slice none 0 0, .int .i64 0, .int .i64 0], .int .i64 8]) (by simp [results, Tryz.results42, go_sem, hr0, hr1, hr2]) rfl (ICodeP.no HG.out (by decide) ?_)
      repeat (first | refine ext_alloc ?_ _ | refine ext_set ?_ (by simp; try omega) _)
      exact HW.out

/-- The result of a function that returns entries and a code. -/
def RetEN (M : List EN) (code : Int) (w : World) : Ending → World → Prop := fun e w' => ∃ v, e = .returned (.tuple #[v, .int .i64 code]) ∧ OENS w' w.heap.size v M ∧ SmENS M ∧ Below w.heap.size w w'
end Go.Proofs.YtoefoljhgnfoiaaGreatDoor
