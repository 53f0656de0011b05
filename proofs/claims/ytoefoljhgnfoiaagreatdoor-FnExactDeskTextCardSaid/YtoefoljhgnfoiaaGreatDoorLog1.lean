/-
  Logs, first part: valid entries and their words.
-/
import Derived.Test.YtoefoljhgnfoiaaGreatDoorLogP
import Derived.Test.YtoefoljhgnfoiaaGreatDoorEnv
import Derived.Test.YtoefoljhgnfoiaaGreatDoorValEn
import Derived.Test.YtoefoljhgnfoiaaGreatDoorImpDec
import Derived.Test.YtoefoljhgnfoiaaGreatDoorEnt
import Derived.BigQuiet
namespace Go.Proofs.YtoefoljhgnfoiaaGreatDoor
open Go.ChangeShapes Go.WideShapes Go.ChangeAt Go.RowKit Go.Sort
set_option linter.unusedVariables false
set_option maxRecDepth 8000
attribute [local go_sem ↓] Go.wp_at_zero Go.wp_at_succ

/-- The words of an entry, as a text. -/
def wrb (e : EN) : ByteArray := bsq (wrd e)
theorem wrb_size {e : EN} (h : vEn e = true) : (wrb e).size ≤ 36 := by unfold wrb; rw [bsq_size]; exact wrd_len h
theorem wrb_eq (e : EN) : itb e.day ++ ⟨#[32]⟩ ++ e.what ++ ⟨#[32]⟩ ++ itb e.val = wrb e := by
  apply ba_ext
  unfold wrb
  rw [bsq_list]
  simp [ByteArray.data_append, wrd, itb]

set_option maxHeartbeats 3200000 in
theorem impl_words (v : Value) (o : EN) (w : World) (hv : vEn o = true) (ha : REN w v o) (hL : LayF w) :
    Calls Tryz.prog 87 #[v] w (Ret (.string (wrb o)) w) := by
  obtain rfl : v = _ := ha
  have hvv := vEn_iff.1 hv
  have hb1 := itb_size o.day (by omega) (by omega)
  have hb2 := itb_size o.val (by omega) (by omega)
  have hb3 := vEn_sm hv
  have HD : Hid (∀ n w, (n = o.day ∨ n = o.val) → LayF w → Calls Tryz.prog 26 #[.int .i64 n] w (Ret (.string (itb n)) w)) := Lib.hid fun n w hn h => impl_Dec n (by rcases hn with rfl | rfl <;> omega) (by rcases hn with rfl | rfl <;> omega) w h
  have HW := Lib.hid (wrb_eq o)
  have hc1 : ¬ 9223372036854775807 < (itb o.day).size + 1 := by omega
  have hc2 : ¬ 9223372036854775807 < (itb o.day).size + 1 + o.what.size := by omega
  have hc3 : ¬ 9223372036854775807 < (itb o.day).size + 1 + o.what.size + 1 := by omega
  have hc4 : ¬ 9223372036854775807 < (itb o.day).size + 1 + o.what.size + 1 + (itb o.val).size := by omega
  have HLL : Hid (∀ T d os, LayF (grow (redrawn (w.alloc (.cells #[.int .i64 o.day, .string o.what, .int .i64 o.val] T)) d) os)) := Lib.hid fun T d os => hL.ext (ext_trans (ext_alloc1 _ _) (below_regrown _ _ _))
  clear hvv hv hb1 hb2 hb3 hL
  have hp := fun T => pEN_box w o T
  have g0 : ∀ T d os, (grow (redrawn (w.alloc (.cells #[.int .i64 o.day, .string o.what, .int .i64 o.val] T)) d) os).cell? ⟨w.heap.size, 0, none⟩ = some (.int .i64 o.day) := fun T d os => cell_regrown (hp T).1 d os
  have g1 : ∀ T d os, (grow (redrawn (w.alloc (.cells #[.int .i64 o.day, .string o.what, .int .i64 o.val] T)) d) os).cell? ⟨w.heap.size, 1, none⟩ = some (.string o.what) := fun T d os => cell_regrown (hp T).2.1 d os
  have g2 : ∀ T d os, (grow (redrawn (w.alloc (.cells #[.int .i64 o.day, .string o.what, .int .i64 o.val] T)) d) os).cell? ⟨w.heap.size, 2, none⟩ = some (.int .i64 o.val) := fun T d os => cell_regrown (hp T).2.2 d os
  clear hp
  go_enter Tryz.func87, Tryz.ntmps87
  go_wp2_with fail
  refine wp_region_quiet_below (by kernel_rfl) (by kernel_rfl) ?_
  repeat (go_big_quiet_step ((go_at_call 26; exact regrown_r (HD.out _ _ (by first | exact Or.inl rfl | exact Or.inr rfl) (HLL.out _ _ _)))))
  refine wpQuiet_nil ?_
  intro w' hw'
  obtain ⟨p, rfl⟩ := hw'
  go_wp2_with fail
  go_ret
  rw [← HW.out]
  exact ⟨rfl, ext_trans (ext_alloc1 _ _) (below_regrown _ _ _)⟩

set_option maxHeartbeats 3200000 in
theorem spec_words (p : Addr) (o : EN) (w : World) (hv : vEn o = true) (hp : PEN w p o) :
    Calls Tryz.prog 80 #[.pointer (some p)] w (Ret (.string (wrb o)) w) := by
  have hvv := vEn_iff.1 hv
  have hb1 := itb_size o.day (by omega) (by omega)
  have hb2 := itb_size o.val (by omega) (by omega)
  have hb3 := vEn_sm hv
  have HD : Hid (∀ n w, (n = o.day ∨ n = o.val) → Calls Tryz.prog 44 #[.int .i64 n] w (Ret (.string (itb n)) w)) := Lib.hid fun n w hn => spec_Dec n (by rcases hn with rfl | rfl <;> omega) (by rcases hn with rfl | rfl <;> omega) w
  have HW := Lib.hid (wrb_eq o)
  have hc1 : ¬ 9223372036854775807 < (itb o.day).size + 1 := by omega
  have hc2 : ¬ 9223372036854775807 < (itb o.day).size + 1 + o.what.size := by omega
  have hc3 : ¬ 9223372036854775807 < (itb o.day).size + 1 + o.what.size + 1 := by omega
  have hc4 : ¬ 9223372036854775807 < (itb o.day).size + 1 + o.what.size + 1 + (itb o.val).size := by omega
  clear hvv hv hb1 hb2 hb3
  have g0 := fun d os => cell_regrown hp.1 d os
  have g1 := fun d os => cell_regrown hp.2.1 d os
  have g2 := fun d os => cell_regrown hp.2.2 d os
  clear hp
  go_enter Tryz.func80, Tryz.ntmps80
  go_wp2_with fail
  refine wp_region_quiet_below (by kernel_rfl) (by kernel_rfl) ?_
  repeat (go_big_quiet_step ((go_at_call 44; exact regrown_r (HD.out _ _ (by first | exact Or.inl rfl | exact Or.inr rfl)))))
  refine wpQuiet_nil ?_
  intro w' hw'
  obtain ⟨p, rfl⟩ := hw'
  go_wp2_with fail
  go_ret
  rw [← HW.out]
  exact ⟨rfl, below_regrown _ _ _⟩
end Go.Proofs.YtoefoljhgnfoiaaGreatDoor
