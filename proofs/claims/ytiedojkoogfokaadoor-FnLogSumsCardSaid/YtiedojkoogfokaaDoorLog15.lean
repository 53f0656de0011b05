/-
  Logs: NamesIn.
-/
import Derived.Test.YtiedojkoogfokaaDoorLog12
import Derived.Test.YtiedojkoogfokaaDoorStr
import Derived.Test.YtiedojkoogfokaaDoorShelf
namespace Go.Proofs.YtiedojkoogfokaaDoor
open Go.ChangeShapes Go.WideShapes Go.ChangeAt Go.RowKit Go.Sort
set_option linter.unusedVariables false
set_option maxRecDepth 100000
attribute [local go_sem ↓] Go.wp_at_zero Go.wp_at_succ

/-- Is a text among texts? -/
def hasS (l : List ByteArray) (x : ByteArray) : Bool := l.any fun y => decide (y = x)
theorem hasS_succ {l : List ByteArray} {k : Nat} (hk : k < l.length) (x : ByteArray) : hasS (l.take (k + 1)) x = (hasS (l.take k) x || decide (gd l k = x)) := by
  unfold hasS; rw [take_gd hk]; simp
def namK (es : List EN) (k : Nat) : List ByteArray := (es.take k).foldl (fun l e => bif hasS l e.what then l else l ++ [e.what]) []
theorem namK_succ {es : List EN} {k : Nat} (hk : k < es.length) : namK es (k + 1) = bif hasS (namK es k) (gd es k).what then namK es k else namK es k ++ [(gd es k).what] := by
  unfold namK; rw [take_gd hk, List.foldl_append]; rfl
def mNamesIn (s : ByteArray) : List ByteArray × Int := if lgC s = 0 then (namK (lgE s) (lgE s).length, 0) else ([], lgC s)
def RetS (M : List ByteArray) (code : Int) (w : World) : Ending → World → Prop := fun e w' => ∃ v, e = .returned (.tuple #[v, .int .i64 code]) ∧ OStr w' w.heap.size v M ∧ SmStr M ∧ Below w.heap.size w w'
theorem RetS.no {w w' : World} {code : Int} (hb : Below w.heap.size w w') : RetS [] code w (.returned (.tuple #[.slice none 0 0, .int .i64 code])) w' := ⟨_, rfl, ostr_nil _ _, by simp [SmStr], hb⟩

theorem hasS_take (l : List ByteArray) (x : ByteArray) : Lib.containsS (l.take l.length) x = hasS l x := by
  rw [List.take_length, Bool.eq_iff_iff, Lib.containsS_iff]; unfold hasS; simp
theorem has_Str (w : World) (base : Nat) (v : Value) (l : List ByteArray) (x : ByteArray) (h : OStr w base v l) (hl : l.length ≤ 1048576) :
    Calls Tryd.prog 24 #[v, .string x] w (fun e w' => e = .returned (.bool (hasS l x)) ∧ w' = w) := by
  have hR := h.rd
  obtain ⟨h1, h2⟩ := h
  rcases h2 with ⟨rfl, h0⟩ | ⟨g, cap, cur, rfl, hg, hh, hn, hm, hs, ht⟩
  · have hx : l = [] := List.eq_nil_of_length_eq_zero h0
    subst hx
    exact Tryd.slices_Contains_string_empty none 0 x w
  · by_cases h0 : 0 < l.length
    · obtain ⟨ad, had, _, hc⟩ := hR.at h0
      obtain rfl := Option.some.inj had
      rw [← hasS_take]
      refine Tryd.slices_Contains_string g 0 l.length cap l x w (Nat.le_refl _) (by omega) fun j hj => ?_
      have := hc j hj
      rw [gd_eq hj] at this
      rw [← List.getElem_eq_getD (h := hj)]
      rw [show (⟨g, 0 + j, none⟩ : Addr) = (⟨g, 0, none⟩ : Addr).add j from by cases j <;> simp [Addr.add]]
      exact this
    · have hx : l = [] := List.eq_nil_of_length_eq_zero (by omega)
      subst hx
      exact Tryd.slices_Contains_string_empty _ cap x w

set_option maxHeartbeats 3200000 in
theorem impl_NamesIn (s : ByteArray) (w : World) (hs : s.size ≤ 1048576) (hE : Env w) :
    Calls Tryd.prog 8 #[.string s] w (RetS (mNamesIn s).1 (mNamesIn s).2 w) := by
  have HC := Lib.hid (impl_logCode s hs w hE)
  clear hE
  go_enter Tryd.func8, Tryd.ntmps8
  go_wp2_with fail
  refine (show Calls _ _ _ _ _ from HC.out).mono ?_
  rintro e w2 ⟨A, c, rfl, hO, hb⟩
  have HO0 := Lib.hid hO
  have HW := Lib.hid hb
  clear hO hb HC
  have hbx := box3 w2 (.slice A (lgE s).length c) (.int .i64 (lgS s)) (.int .i64 (lgN s)) 54 _ (ext_refl _)
  have hx0 := hbx.1
  clear hbx
  have hlen := lgE_len s
  by_cases h0 : lgC s = 0
  · have HM : Hid (mNamesIn s = (namK (lgE s) (lgE s).length, 0)) := Lib.hid (by unfold mNamesIn; rw [if_pos h0])
    rw [h0]
    clear h0
    have HA := Lib.hid HO0.out.rd
    obtain ⟨es, hes⟩ : ∃ es, lgE s = es := ⟨_, rfl⟩
    rw [hes] at hx0 HA hlen HM ⊢
    clear hes HO0
    have hx1 := fun o => cell_keep hx0 (ext_alloc1 _ o)
    go_wp2_with fail
    clear hx1 hx0
    go_loopw [6, 21] (fun u i wr => ∃ (k : Nat) (l : List ByteArray) (B : Option Addr) (cp : Nat), k ≤ es.length ∧ i = .int .i64 k ∧ u = .slice B l.length cp ∧ Hid (namK es k = l) ∧ l.length ≤ k ∧ Hid (OStr wr w2.heap.size (.slice B l.length cp) l) ∧ Hid (Below w2.heap.size w2 wr)) (fun _ i _ => es.length - (intOf i).toNat)
    case atStart =>
      refine ⟨0, [], some ⟨w2.heap.size + 1, 0, none⟩, 0, Nat.zero_le _, rfl, rfl, Lib.hid rfl, Nat.le_refl _, Lib.hid ?_, Lib.hid (ext_alloc (ext_alloc1 _ _) _)⟩
      have h := ostr_lit (w2.alloc (.cells #[.slice A es.length c, .int .i64 (lgS s), .int .i64 (lgN s)] 54)) w2.heap.size (by simp)
      simp only [World.size_alloc] at h
      exact h
    case round =>
      obtain ⟨k, l, B, cp, hk, rfl, rfl, HV, hlk, HO, HB⟩ := hrel
      have e1 : (0 : Int) ≤ k := by omega
      have hsz := HB.out.size
      by_cases hlt : k < es.length
      · have e2 : (k : Int) < es.length := by omega
        obtain ⟨ad, rfl, _, hc⟩ := (HA.out.ext HB.out).at hlt
        obtain ⟨p0, p1, p2⟩ := hc k hlt
        obtain ⟨x, hx⟩ : ∃ x, (gd es k).what = x := ⟨_, rfl⟩
        rw [hx] at p1
        have HN : Hid (namK es (k + 1) = bif hasS l x then l else l ++ [x]) := Lib.hid (by rw [namK_succ hlt, HV.out, hx])
        clear hc hx
        have hO3 := Lib.hid (fun o => HO.out.ext (ext_alloc1 wr o))
        go_wp2_with fail
        refine (has_Str _ _ _ l x (hO3.out _) (by omega)).mono ?_
        rintro e w3 ⟨rfl, rfl⟩
        cases hq : hasS l x with
        | true =>
          have HN2 : Hid (namK es (k + 1) = l) := Lib.hid (by rw [HN.out, hq]; rfl)
          go_wp2_with fail
          go_roundw
          case rel => exact ⟨k + 1, l, B, cp, by omega, by go_num, rfl, HN2.out, by omega, Lib.hid (HO.out.ext (ext_alloc1 _ _)), Lib.hid (ext_alloc HB.out _)⟩
          case measure => simp [intOf]; omega
        | false =>
          have HN2 : Hid (namK es (k + 1) = l ++ [x]) := Lib.hid (by rw [HN.out, hq]; rfl)
          go_wp2_with (at_builtin; refine wpList_append_str rfl _ _ rfl w2.heap.size (.slice B l.length cp) l x rfl (by simp [Act.eval]) (hO3.out _) (by omega) (by simp; omega) ?_; intro g2 cap w4 hO4 hg4 hlt4)
          go_roundw
          case rel => exact ⟨k + 1, l ++ [x], some ⟨g2, 0, none⟩, cap, by omega, by go_num, by rw [List.length_append]; rfl, HN2.out, by rw [List.length_append]; simp; omega, Lib.hid (by rw [List.length_append]; exact hO4), Lib.hid (Chg.ext (ext_alloc HB.out _) hg4 (fun j hj => (HO.out.ge j hj).1))⟩
          case measure => simp [intOf]; omega
      · obtain rfl : k = es.length := by omega
        go_wp2_with fail
        go_ret2
        unfold RetS
        rw [HM.out, HV.out]
        exact ⟨.slice B l.length cp, rfl, HO.out.mono HW.out.size, (show l.length ≤ 1048576 by omega), ext_trans HW.out HB.out⟩
  · have HM : Hid (mNamesIn s = ([], lgC s)) := Lib.hid (by unfold mNamesIn; rw [if_neg h0])
    have e2 : (lgC s != 0) = true := by simpa using h0
    clear h0
    go_wp2_with fail
    go_ret2
    rw [HM.out]
    exact RetS.no (ext_alloc HW.out _)
end Go.Proofs.YtiedojkoogfokaaDoor
