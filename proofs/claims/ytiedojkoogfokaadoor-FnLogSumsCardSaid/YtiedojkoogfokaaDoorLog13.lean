/-
  Logs: ValuesOf.
-/
import Derived.Test.YtiedojkoogfokaaDoorLog12
import Derived.Test.YtiedojkoogfokaaDoorApp
namespace Go.Proofs.YtiedojkoogfokaaDoor
open Go.ChangeShapes Go.WideShapes Go.ChangeAt Go.RowKit Go.Sort
set_option linter.unusedVariables false
set_option maxRecDepth 100000
attribute [local go_sem ↓] Go.wp_at_zero Go.wp_at_succ

/-- The values of the entries with a name. -/
def valK (es : List EN) (what : ByteArray) (k : Nat) : List Int := ((es.take k).filter fun e => decide (e.what = what)).map (·.val)
theorem valK_yes {es : List EN} {what : ByteArray} {k : Nat} (hk : k < es.length) (h : (gd es k).what = what) : valK es what (k + 1) = valK es what k ++ [(gd es k).val] := by
  unfold valK; rw [take_gd hk, List.filter_append]; simp [h]
theorem valK_no {es : List EN} {what : ByteArray} {k : Nat} (hk : k < es.length) (h : (gd es k).what ≠ what) : valK es what (k + 1) = valK es what k := by
  unfold valK; rw [take_gd hk, List.filter_append]; simp [h]
theorem valK_len (es : List EN) (what : ByteArray) (k : Nat) : (valK es what k).length ≤ k := by
  unfold valK
  rw [List.length_map]
  refine Nat.le_trans (List.length_filter_le _ _) ?_
  exact List.length_take_le _ _
def mValuesOf (s what : ByteArray) : List Int × Int := if whC s what = 0 then (valK (lgE s) what (lgE s).length, 0) else ([], whC s what)
/-- The result of a function that returns numbers and a code. -/
def RetI (M : List Int) (code : Int) (w : World) : Ending → World → Prop := fun e w' => ∃ v, e = .returned (.tuple #[v, .int .i64 code]) ∧ OI w' w.heap.size v M ∧ SmI M ∧ Below w.heap.size w w'
theorem RetI.no {w w' : World} {code : Int} (hb : Below w.heap.size w w') : RetI [] code w (.returned (.tuple #[.slice none 0 0, .int .i64 code])) w' := ⟨_, rfl, World.ownsRow_nil _ _ _ _, by simp [SmI], hb⟩
theorem oi_lit (w : World) (B : Nat) (h : B ≤ w.heap.size) : OI (w.alloc (.cells #[] 2)) B (.slice (some ⟨w.heap.size, 0, none⟩) 0 0) [] :=
  World.ownsRow_lit _ #[] 0 h (by simp [maxLen]) (by simp)

set_option maxHeartbeats 3200000 in
theorem impl_ValuesOf (s what : ByteArray) (w : World) (hs : s.size ≤ 1048576) (hw : what.size ≤ 1048576) (hE : Env w) :
    Calls Tryd.prog 10 #[.string s, .string what] w (RetI (mValuesOf s what).1 (mValuesOf s what).2 w) := by
  have HC := Lib.hid (impl_logCode s hs w hE)
  have HN := Lib.hid (fun w => impl_IsName what (by unfold maxLen; omega) w)
  clear hE
  go_enter Tryd.func10, Tryd.ntmps10
  go_wp2_with fail
  refine (show Calls _ _ _ _ _ from HC.out).mono ?_
  rintro e w2 ⟨A, c, rfl, hO, hb⟩
  have HO0 := Lib.hid hO
  have HW := Lib.hid hb
  clear hO hb HC
  have hbx := box3 w2 (.slice A (lgE s).length c) (.int .i64 (lgS s)) (.int .i64 (lgN s)) 54 _ (ext_refl _)
  have hx0 := hbx.1
  clear hbx
  have hlen := lgE_len s
  by_cases h0 : lgC s = 0
  · have HG := Lib.hid (whC_yes (what := what) h0)
    rw [h0]
    clear h0
    go_wp2_with fail
    refine (show Calls _ _ _ _ _ from HN.out _).mono ?_
    rintro e w3 ⟨rfl, rfl⟩
    cases hn : isN what with
    | false =>
      have HM : Hid (mValuesOf s what = ([], 2)) := Lib.hid (by unfold mValuesOf; rw [HG.out, hn]; rfl)
      clear hn
      go_wp2_with fail
      go_ret2
      rw [HM.out]
      exact RetI.no (ext_alloc HW.out _)
    | true =>
    have HM : Hid (mValuesOf s what = (valK (lgE s) what (lgE s).length, 0)) := Lib.hid (by unfold mValuesOf; rw [HG.out, hn]; rfl)
    have HA := Lib.hid HO0.out.rd
    clear hn
    obtain ⟨es, hes⟩ : ∃ es, lgE s = es := ⟨_, rfl⟩
    rw [hes] at hx0 HA hlen HM ⊢
    clear hes HO0
    have hx1 := fun o => cell_keep hx0 (ext_alloc1 _ o)
    go_wp2_with fail
    clear hx1 hx0
    go_loopw [8, 30] (fun u i wr => ∃ (k : Nat) (l : List Int) (B : Option Addr) (cp : Nat), k ≤ es.length ∧ i = .int .i64 k ∧ u = .slice B l.length cp ∧ Hid (valK es what k = l) ∧ l.length ≤ k ∧ Hid (OI wr w2.heap.size (.slice B l.length cp) l) ∧ Hid (Below w2.heap.size w2 wr)) (fun _ i _ => es.length - (intOf i).toNat)
    case atStart =>
      refine ⟨0, [], some ⟨w2.heap.size + 1, 0, none⟩, 0, Nat.zero_le _, rfl, rfl, Lib.hid rfl, Nat.le_refl _, Lib.hid ?_, Lib.hid (ext_alloc (ext_alloc1 _ _) _)⟩
      have h := oi_lit (w2.alloc (.cells #[.slice A es.length c, .int .i64 (lgS s), .int .i64 (lgN s)] 54)) w2.heap.size (by simp)
      simp only [World.size_alloc] at h
      exact h
    case round =>
      obtain ⟨k, l, B, cp, hk, rfl, rfl, HV, hlk, HO, HB⟩ := hrel
      have e1 : (0 : Int) ≤ k := by omega
      have hsz := HB.out.size
      by_cases hlt : k < es.length
      · have e2 : (k : Int) < es.length := by omega
        obtain ⟨ad, rfl, _, hc⟩ := (HA.out.ext HB.out).at hlt
        obtain ⟨p0, p1, p2⟩ := hc k hlt
        clear hc
        by_cases hq : (gd es k).what = what
        · have HS : Hid (valK es what (k + 1) = l ++ [(gd es k).val]) := Lib.hid (by rw [valK_yes hlt hq, HV.out])
          have HQ := Lib.hid hq
          rw [hq] at p1
          clear hq
          have hO3 := Lib.hid (fun o => HO.out.ext (ext_alloc1 wr o))
          go_wp2_with (at_builtin; refine wpList_append_i rfl _ _ rfl w2.heap.size (.slice B l.length cp) l (gd es k).val rfl (by simp [Act.eval]) (hO3.out _) (by omega) (by simp; omega) ?_; intro g2 cap w4 hO4 hg4 hlt4)
          go_roundw
          case rel => exact ⟨k + 1, l ++ [(gd es k).val], some ⟨g2, 0, none⟩, cap, by omega, by go_num, by rw [List.length_append]; rfl, HS.out, by rw [List.length_append]; simp; omega, Lib.hid (by rw [List.length_append]; exact hO4), Lib.hid (Chg.ext (ext_alloc HB.out _) hg4 (fun j hj => (HO.out.ge j hj).1))⟩
          case measure => simp [intOf]; omega
        · have hst := str_ne hq
          have HS : Hid (valK es what (k + 1) = l) := Lib.hid (by rw [valK_no hlt hq, HV.out])
          clear hq
          go_wp2_with fail
          go_roundw
          case rel => exact ⟨k + 1, l, B, cp, by omega, by go_num, rfl, HS.out, by omega, Lib.hid (HO.out.ext (ext_alloc1 _ _)), Lib.hid (ext_alloc HB.out _)⟩
          case measure => simp [intOf]; omega
      · obtain rfl : k = es.length := by omega
        go_wp2_with fail
        go_ret2
        unfold RetI
        rw [HM.out, HV.out]
        exact ⟨.slice B l.length cp, rfl, HO.out.mono HW.out.size, (show l.length ≤ 1048576 by omega), ext_trans HW.out HB.out⟩
  · have HM : Hid (mValuesOf s what = ([], lgC s)) := Lib.hid (by unfold mValuesOf; rw [whC_no h0, if_neg h0])
    have e1 : (lgC s == 0) = false := by simpa using h0
    have e2 : (lgC s != 0) = true := by simpa using h0
    clear h0
    go_wp2_with fail
    go_ret2
    rw [HM.out]
    exact RetI.no (ext_alloc HW.out _)
end Go.Proofs.YtiedojkoogfokaaDoor
