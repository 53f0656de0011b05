/-
  Orders: the text of an order.
-/
import Derived.Test.YtbggggaoljpfnaaGreatDoorOrders2
import Derived.Test.YtbggggaoljpfnaaGreatDoorImpDec
import Derived.BigQuiet
namespace Go.Proofs.YtbggggaoljpfnaaGreatDoor
open Go.ChangeShapes Go.WideShapes Go.ChangeAt Go.RowKit Go.Sort
set_option linter.unusedVariables false
set_option maxRecDepth 100000
attribute [local go_sem ↓] Go.wp_at_zero Go.wp_at_succ

/-- The text of an order. -/
def odb (o : OD) : ByteArray := (⟨#[35]⟩ : ByteArray) ++ itb o.id ++ ⟨#[32]⟩ ++ o.cu ++ ⟨#[32]⟩ ++ itb o.sent ++ ⟨#[47]⟩ ++ itb o.br ++ ⟨#[32, 100, 117, 101, 32]⟩ ++ itb o.due
def mOrderText (o : OD) : ByteArray := bif oneO o then odb o else ⟨#[]⟩

set_option maxHeartbeats 6400000 in
theorem spec_text (p : Addr) (o : OD) (w : World) (hv : oneO o = true) (hsm : SmOD o) (hp : POD w p o) :
    Calls Tryz.prog 56 #[.pointer (some p)] w (Ret (.string (odb o)) w) := by
  have hvv := oneO_iff.1 hv
  have hb1 := itb_size o.id (by omega) (by omega)
  have hb2 := itb_size o.sent (by omega) (by omega)
  have hb3 := itb_size o.br (by omega) (by omega)
  have hb4 := itb_size o.due (by omega) (by omega)
  have hb5 : o.cu.size ≤ 1048576 := hsm
  have HW : Hid (odb o = _) := Lib.hid (show odb o = (⟨#[35]⟩ : ByteArray) ++ itb o.id ++ ⟨#[32]⟩ ++ o.cu ++ ⟨#[32]⟩ ++ itb o.sent ++ ⟨#[47]⟩ ++ itb o.br ++ ⟨#[32, 100, 117, 101, 32]⟩ ++ itb o.due from rfl)
  have hc1 : ¬ 9223372036854775807 < 1 + (itb o.id).size := by omega
  have hc2 : ¬ 9223372036854775807 < 1 + (itb o.id).size + 1 := by omega
  have hc3 : ¬ 9223372036854775807 < 1 + (itb o.id).size + 1 + o.cu.size := by omega
  have hc4 : ¬ 9223372036854775807 < 1 + (itb o.id).size + 1 + o.cu.size + 1 := by omega
  have hc5 : ¬ 9223372036854775807 < 1 + (itb o.id).size + 1 + o.cu.size + 1 + (itb o.sent).size := by omega
  have hc6 : ¬ 9223372036854775807 < 1 + (itb o.id).size + 1 + o.cu.size + 1 + (itb o.sent).size + 1 := by omega
  have hc7 : ¬ 9223372036854775807 < 1 + (itb o.id).size + 1 + o.cu.size + 1 + (itb o.sent).size + 1 + (itb o.br).size := by omega
  have hc8 : ¬ 9223372036854775807 < 1 + (itb o.id).size + 1 + o.cu.size + 1 + (itb o.sent).size + 1 + (itb o.br).size + 5 := by omega
  have hc9 : ¬ 9223372036854775807 < 1 + (itb o.id).size + 1 + o.cu.size + 1 + (itb o.sent).size + 1 + (itb o.br).size + 5 + (itb o.due).size := by omega
  have HD : Hid (∀ n w, (n = o.id ∨ n = o.sent ∨ n = o.br ∨ n = o.due) → Calls Tryz.prog 76 #[.int .i64 n] w (Ret (.string (itb n)) w)) := Lib.hid fun n w hn => spec_Dec n (by rcases hn with rfl | rfl | rfl | rfl <;> omega) (by rcases hn with rfl | rfl | rfl | rfl <;> omega) w
  clear hvv hv hb1 hb2 hb3 hb4 hb5 hsm
  have g0 := fun d os => cell_regrown hp.1 d os
  have g1 := fun d os => cell_regrown hp.2.1 d os
  have g2 := fun d os => cell_regrown hp.2.2.1 d os
  have g3 := fun d os => cell_regrown hp.2.2.2.1 d os
  have g4 := fun d os => cell_regrown hp.2.2.2.2 d os
  clear hp
  go_enter Tryz.func56, Tryz.ntmps56
  go_wp2_with fail
  refine wp_region_quiet_below (by kernel_rfl) (by kernel_rfl) ?_
  repeat (go_big_quiet_step ((go_at_call 76; exact regrown_r (HD.out _ _ (by simp)))))
  refine wpQuiet_nil ?_
  intro w' hw'
  obtain ⟨p, rfl⟩ := hw'
  go_wp2_with fail
  go_ret
  rw [HW.out]
  exact ⟨rfl, below_regrown _ _ _⟩

theorem spec_OrderText (v : Value) (o : OD) (w : World) (ha : ROD w v o) (hsm : SmOD o) (_ : LayF w) :
    Calls Tryz.prog 25 #[v] w (Ret (.string (mOrderText o)) w) := by
  obtain rfl : v = _ := ha
  have HS := Lib.hid hsm
  have HP := Lib.hid (pOD_box w o 26)
  have HL : Hid (LenOD o) := Lib.hid (by unfold SmOD at hsm; unfold LenOD maxLen; omega)
  clear hsm
  go_enter Tryz.func25, Tryz.ntmps25
  go_wp2_with fail
  refine (spec_one ⟨w.heap.size, 0, none⟩ o HL.out _ HP.out).mono ?_
  rintro e w1 ⟨rfl, hb1⟩
  have HP1 := Lib.hid (HP.out.ext hb1)
  have HB1 := Lib.hid (ext_trans (ext_alloc1 _ _) hb1)
  clear hb1
  cases hv : oneO o with
  | false =>
    have HF : Hid (mOrderText o = ⟨#[]⟩) := Lib.hid (by unfold mOrderText; rw [hv]; rfl)
    clear hv
    go_wp2_with fail
    go_ret
    rw [HF.out]
    exact ⟨rfl, HB1.out⟩
  | true =>
    have HF : Hid (mOrderText o = odb o) := Lib.hid (by unfold mOrderText; rw [hv]; rfl)
    have HV := Lib.hid hv
    clear hv
    go_wp2_with fail
    refine (spec_text ⟨w.heap.size, 0, none⟩ o _ HV.out HS.out HP1.out).mono ?_
    rintro e w2 ⟨rfl, hb2⟩
    go_wp2_with fail
    go_ret
    rw [HF.out]
    exact ⟨rfl, ext_trans HB1.out hb2⟩

set_option maxHeartbeats 6400000 in
theorem impl_OrderText (v : Value) (o : OD) (w : World) (ha : ROD w v o) (hsm : SmOD o) (hL : LayF w) :
    Calls Tryz.prog 18 #[v] w (Ret (.string (mOrderText o)) w) := by
  obtain rfl : v = _ := ha
  have HS := Lib.hid hsm
  have HP := Lib.hid (pOD_box w o 26)
  have HL : Hid (LenOD o) := Lib.hid (by unfold SmOD at hsm; unfold LenOD maxLen; omega)
  have HLF : Hid (∀ W', Below w.heap.size w W' → LayF W') := Lib.hid fun W' h => hL.ext h
  clear hsm hL
  go_enter Tryz.func18, Tryz.ntmps18
  go_wp2_with fail
  refine (impl_one _ o _ HL.out rfl).mono ?_
  rintro e w1 ⟨rfl, hb1⟩
  have HP1 := Lib.hid (HP.out.ext hb1)
  have HB1 := Lib.hid (ext_trans (ext_alloc1 _ _) hb1)
  clear hb1 HP
  cases hv : oneO o with
  | false =>
    have HF : Hid (mOrderText o = ⟨#[]⟩) := Lib.hid (by unfold mOrderText; rw [hv]; rfl)
    clear hv
    go_wp2_with fail
    go_ret
    rw [HF.out]
    exact ⟨rfl, HB1.out⟩
  | true =>
  have HF : Hid (mOrderText o = odb o) := Lib.hid (by unfold mOrderText; rw [hv]; rfl)
  have hsm := HS.out
  have hvv := oneO_iff.1 hv
  have hb1 := itb_size o.id (by omega) (by omega)
  have hb2 := itb_size o.sent (by omega) (by omega)
  have hb3 := itb_size o.br (by omega) (by omega)
  have hb4 := itb_size o.due (by omega) (by omega)
  have hb5 : o.cu.size ≤ 1048576 := hsm
  have HW : Hid (odb o = _) := Lib.hid (show odb o = (⟨#[35]⟩ : ByteArray) ++ itb o.id ++ ⟨#[32]⟩ ++ o.cu ++ ⟨#[32]⟩ ++ itb o.sent ++ ⟨#[47]⟩ ++ itb o.br ++ ⟨#[32, 100, 117, 101, 32]⟩ ++ itb o.due from rfl)
  have hc1 : ¬ 9223372036854775807 < 1 + (itb o.id).size := by omega
  have hc2 : ¬ 9223372036854775807 < 1 + (itb o.id).size + 1 := by omega
  have hc3 : ¬ 9223372036854775807 < 1 + (itb o.id).size + 1 + o.cu.size := by omega
  have hc4 : ¬ 9223372036854775807 < 1 + (itb o.id).size + 1 + o.cu.size + 1 := by omega
  have hc5 : ¬ 9223372036854775807 < 1 + (itb o.id).size + 1 + o.cu.size + 1 + (itb o.sent).size := by omega
  have hc6 : ¬ 9223372036854775807 < 1 + (itb o.id).size + 1 + o.cu.size + 1 + (itb o.sent).size + 1 := by omega
  have hc7 : ¬ 9223372036854775807 < 1 + (itb o.id).size + 1 + o.cu.size + 1 + (itb o.sent).size + 1 + (itb o.br).size := by omega
  have hc8 : ¬ 9223372036854775807 < 1 + (itb o.id).size + 1 + o.cu.size + 1 + (itb o.sent).size + 1 + (itb o.br).size + 5 := by omega
  have hc9 : ¬ 9223372036854775807 < 1 + (itb o.id).size + 1 + o.cu.size + 1 + (itb o.sent).size + 1 + (itb o.br).size + 5 + (itb o.due).size := by omega
  have HD : Hid (∀ n W, (n = o.id ∨ n = o.sent ∨ n = o.br ∨ n = o.due) ∧ Below w.heap.size w W → Calls Tryz.prog 51 #[.int .i64 n] W (Ret (.string (itb n)) W)) := Lib.hid fun n W hn => impl_Dec n (by rcases hn.1 with rfl | rfl | rfl | rfl <;> omega) (by rcases hn.1 with rfl | rfl | rfl | rfl <;> omega) W (HLF.out _ hn.2)
  clear hvv hv hb1 hb2 hb3 hb4 hb5 hsm
  have hp := HP1.out
  have g0 := fun d os => cell_regrown hp.1 d os
  have g1 := fun d os => cell_regrown hp.2.1 d os
  have g2 := fun d os => cell_regrown hp.2.2.1 d os
  have g3 := fun d os => cell_regrown hp.2.2.2.1 d os
  have g4 := fun d os => cell_regrown hp.2.2.2.2 d os
  clear hp
  go_wp2_with fail
  refine wp_region_quiet_below (by kernel_rfl) (by kernel_rfl) ?_
  repeat (go_big_quiet_step ((go_at_call 51; exact regrown_r (HD.out _ _ ⟨by simp, ext_trans HB1.out (below_regrown _ _ _)⟩))))
  refine wpQuiet_nil ?_
  intro w' hw'
  obtain ⟨p, rfl⟩ := hw'
  go_wp2_with fail
  go_ret
  rw [HF.out, HW.out]
  exact ⟨rfl, ext_trans HB1.out (below_regrown _ _ _)⟩

/-- The same struct, where a call gave it. -/
def OOD (_ : World) (_ : Nat) (v : Value) (o : OD) : Prop := v = .agg #[.int .i64 o.id, .string o.cu, .int .i64 o.br, .int .i64 o.due, .int .i64 o.sent]
theorem OOD.rd {w : World} {b : Nat} {v : Value} {o : OD} (h : OOD w b v o) : ROD w v o := h
/-- It holds no memory. -/
def BOD (_ : Value) (_ : Nat) : Prop := False
theorem OOD.ge {w : World} {b : Nat} {v : Value} {o : OD} (_ : OOD w b v o) : ∀ k, BOD v k → b ≤ k ∧ k < w.heap.size := fun _ h => h.elim
theorem OOD.ext {w w' : World} {b : Nat} {v : Value} {o : OD} (h : OOD w b v o) (_ : Below w.heap.size w w') : OOD w' b v o := h
end Go.Proofs.YtbggggaoljpfnaaGreatDoor
