/-
  Orders: CustomersOf, the program's half.
-/
import Derived.Test.YtbggggaoljpfnaaGreatDoorCust
import Derived.Test.YtbggggaoljpfnaaGreatDoorOrders4
import Derived.Test.YtbggggaoljpfnaaGreatDoorOrders3
import Derived.Test.YtbggggaoljpfnaaGreatDoorStr
import Derived.Test.YtbggggaoljpfnaaGreatDoorApp
import Derived.Test.YtbggggaoljpfnaaGreatDoorShelf
import Derived.BigQuiet
import Derived.StillTailTactics
import Derived.Deep.DrawnRows
namespace Go.Proofs.YtbggggaoljpfnaaGreatDoor
open Go.ChangeShapes Go.WideShapes Go.ChangeAt Go.RowKit Go.Sort
set_option linter.unusedVariables false
set_option maxRecDepth 100000
attribute [local go_sem ↓] Go.wp_at_zero Go.wp_at_succ

theorem idx_Str (w : World) (base : Nat) (v : Value) (l : List ByteArray) (x : ByteArray) (h : OStr w base v l) (hl : l.length ≤ 1048576) :
    Calls Tryz.prog 50 #[v, .string x] w (fun e w' => e = .returned (.int .i64 (atK l x l.length)) ∧ w' = w) := by
  have hR := h.rd
  rw [← idx_atK]
  obtain ⟨h1, h2⟩ := h
  rcases h2 with ⟨rfl, h0⟩ | ⟨g, cap, cur, rfl, hg, hh, hn, hm, hs, ht⟩
  · have hx : l = [] := List.eq_nil_of_length_eq_zero h0
    subst hx
    exact Tryz.slices_Index_string_empty none 0 x w
  · by_cases h0 : 0 < l.length
    · obtain ⟨ad, had, _, hc⟩ := hR.at h0
      obtain rfl := Option.some.inj had
      refine Tryz.slices_Index_string g 0 l.length cap l x w (Nat.le_refl _) (by omega) fun j hj => ?_
      have := hc j hj
      rw [gd_eq hj] at this
      rw [← List.getElem_eq_getD (h := hj)]
      rw [show (⟨g, 0 + j, none⟩ : Addr) = (⟨g, 0, none⟩ : Addr).add j from by cases j <;> simp [Addr.add]]
      exact this
    · have hx : l = [] := List.eq_nil_of_length_eq_zero (by omega)
      subst hx
      exact Tryz.slices_Index_string_empty _ cap x w

set_option maxHeartbeats 6400000 in
theorem impl_CustomersOf (v : Value) (es : List OD) (w : World) (hR : RODS w v es) (hsm : SmODS es) :
    Calls Tryz.prog 15 #[v] w (RetC (mCustomersOf es).1 (mCustomersOf es).2.1 (mCustomersOf es).2.2 w) := by
  have HC := Lib.hid (impl_ValidOrders v es w hR hsm)
  obtain ⟨A, c, rfl, hc1, hc2⟩ := hR.open_
  have HR := Lib.hid hR; clear hR
  have hlen : es.length ≤ 1048576 := by unfold SmODS at hsm; omega
  clear hsm
  unfold maxLen at hc2
  go_enter Tryz.func15, Tryz.ntmps15
  go_wp2_with fail
  refine (show Calls _ _ _ _ _ from HC.out).mono ?_
  rintro e w2 ⟨rfl, hb2⟩
  have HW := Lib.hid hb2
  clear hb2 HC
  cases hv : vOrders es with
  | false =>
    have HF : Hid (mCustomersOf es = ([], [], 1)) := Lib.hid (by unfold mCustomersOf; rw [hv]; rfl)
    clear hv
    go_wp2_with fail
    refine bodyPost_ret (v := .tuple #[.slice none 0 0, .slice none 0 0, .int .i64 1]) (by simp [results, go_sem]) rfl ?_
    rw [HF.out]
    exact RetC.no HW.out
  | true =>
    have HF : Hid (mCustomersOf es = ((cuK es es.length).1, (cuK es es.length).2, 0)) := Lib.hid (by unfold mCustomersOf; rw [hv]; rfl)
    have HV := Lib.hid hv
    have hl30 := vO_len hv
    clear hv
    go_wp2_with fail
    go_loopw [5, 6, 17] (fun u s i wr => ∃ (k : Nat) (l : List ByteArray) (m : List Int) (B D : Option Addr) (cp dp : Nat), k ≤ es.length ∧ i = .int .i64 k ∧ u = .slice B l.length cp ∧ s = .slice D m.length dp ∧ Hid (cuK es k = (l, m)) ∧ Hid (CS wr w.heap.size (l, m) (.slice B l.length cp) (.slice D m.length dp)) ∧ Hid (Below w.heap.size w wr)) (fun _ _ i _ => es.length - (intOf i).toNat)
    case atStart =>
      refine ⟨0, [], [], some ⟨w2.heap.size, 0, none⟩, some ⟨w2.heap.size + 1, 0, none⟩, 0, 0, Nat.zero_le _, rfl, rfl, rfl, Lib.hid rfl, Lib.hid ⟨?_, ?_, ?_⟩, Lib.hid (ext_alloc (ext_alloc HW.out _) _)⟩
      · exact ((ostr_lit w2 w2.heap.size (Nat.le_refl _)).ext (ext_alloc1 _ _)).mono HW.out.size
      · have h := oi_lit (w2.alloc (.cells #[] 9)) w2.heap.size (by simp)
        simp only [World.size_alloc] at h
        exact h.mono HW.out.size
      · intro b hb1 hb2
        simp [BI, Value.ownBlock] at hb1 hb2
        omega
    case round =>
      obtain ⟨k, l, m, B, D, cp, dp, hk, rfl, rfl, rfl, HK, HCS, HB⟩ := hrel
      have e1 : (0 : Int) ≤ k := by omega
      have hok := cuOk_K HV.out hk
      rw [HK.out] at hok
      have HND : Hid l.Nodup := Lib.hid hok.2.2.1
      have hlm : Hid (l.length = m.length) := Lib.hid hok.1
      have hl3 : l.length ≤ 30 := by have : l.length ≤ k := hok.2.1; omega
      have hm3 : m.length ≤ 30 := by have : l.length = m.length := hok.1; omega
      have HBD := Lib.hid hok.2.2.2
      clear hok
      by_cases hlt : k < es.length
      · have e2 : (k : Int) < es.length := by omega
        obtain ⟨ad, rfl, _, hc⟩ := (HR.out.ext HB.out).at hlt
        obtain ⟨p0, p1, p2, p3, p4⟩ := hc k hlt
        have hbr := (oneO_iff.1 (vO_one HV.out hlt)).2.2.1
        have HS := Lib.hid (cuK_succ hlt)
        obtain ⟨o, ho⟩ : ∃ o, gd es k = o := ⟨_, rfl⟩
        have HG := Lib.hid ho
        rw [ho] at p0 p1 p2 p3 p4 HS hbr
        rw [HK.out] at HS
        clear hc
        obtain ⟨x, hx⟩ : ∃ x, o.cu = x := ⟨_, rfl⟩
        obtain ⟨br, hbb⟩ : ∃ br, o.br = br := ⟨_, rfl⟩
        have HX := Lib.hid hx
        have HBR := Lib.hid hbb
        rw [hbb] at hbr
        clear ho
        have HCSa := Lib.hid (fun b => cs_ext HCS.out (ext_alloc1 wr b))
        have hszr := HB.out.size
        go_wp2_with fail
        refine (idx_Str _ _ _ l x (HCSa.out _).hu (by omega)).mono ?_
        rintro e w3 ⟨rfl, h3⟩
        have HCS2 : Hid (CS w3 w.heap.size (l, m) (.slice B l.length cp) (.slice D m.length dp)) := Lib.hid (h3 ▸ HCSa.out _)
        have HB2 : Hid (Below w.heap.size w w3) := Lib.hid (h3 ▸ ext_alloc HB.out _)
        have q1 : w3.cell? ⟨wr.heap.size, 1, none⟩ = some (.string x) := by rw [h3]; simp [go_sem]
        have q2 : w3.cell? ⟨wr.heap.size, 2, none⟩ = some (.int .i64 br) := by rw [h3]; simp [go_sem]
        have HU1 : Hid (∀ b, BI (.slice B l.length cp) b → b ≠ wr.heap.size) := Lib.hid fun b hb => by have := (HCS.out.hu.ge b hb).2; omega
        have HU2 : Hid (∀ b, BI (.slice D m.length dp) b → b ≠ wr.heap.size) := Lib.hid fun b hb => by have := (HCS.out.hs.ge b hb).2; omega
        have hsz3 : wr.heap.size < w3.heap.size := by rw [h3]; simp
        clear h3 p0 p1 p2 p3 p4 HCS HB HCSa
        have p1 := q1
        have p2 := q2
        clear hx hbb q1 q2
        obtain ⟨g0, hg0⟩ : ∃ g0, wr.heap.size = g0 := ⟨_, rfl⟩
        rw [hg0] at p1 p2 HU1 HU2 hsz3 ⊢
        clear hg0 hszr
        obtain ⟨t, HT'⟩ : ∃ t, atK l x l.length = t := ⟨_, rfl⟩
        rw [HT']
        have HT := Lib.hid HT'
        clear HT'
        by_cases hpz : posS l x < l.length
        · have ht : t = (posS l x : Int) := by rw [← HT.out]; unfold atK; rw [if_pos hpz]
          have HS2 : Hid (cuK es (k + 1) = (l, m.set (posS l x) (m.getD (posS l x) 0 + br))) := Lib.hid (by rw [HS.out]; unfold cuStep; rw [HX.out, HBR.out]; simp only []; rw [if_pos hpz])
          obtain ⟨z, hz⟩ : ∃ z, posS l x = z := ⟨_, rfl⟩
          rw [hz] at ht HS2 hpz
          subst ht
          have hzm : z < m.length := by have := hlm.out; omega
          clear hz
          obtain ⟨g, rfl, _⟩ := oi_open HCS2.out.hs (show 0 < m.length by omega)
          obtain ⟨s1, s2⟩ := oi_cell HCS2.out.hs hzm
          have hold : 0 ≤ m.getD z 0 ∧ m.getD z 0 ≤ 1000000 * (k : Int) := by
            have := HBD.out _ (List.getElem_mem (show z < (l, m).2.length from hzm))
            rw [← List.getElem_eq_getD (h := hzm)]; exact this
          obtain ⟨old, hol⟩ : ∃ old, m.getD z 0 = old := ⟨_, rfl⟩
          rw [hol] at s1 HS2 hold
          clear hol
          have f1 : (0 : Int) ≤ z := by omega
          have f2 : (z : Int) < m.length := by omega
          go_wp2_with fail
          go_region
          all_goals go_wp2_with fail
          all_goals go_roundw
          case rel => exact ⟨k + 1, l, m.set z (old + br), B, some ⟨g, 0, none⟩, cp, dp, by omega, by go_num, rfl, by rw [List.length_set], HS2.out, Lib.hid (by rw [List.length_set]; exact cs_store HCS2.out hzm (ext_drew (ext_refl _))), Lib.hid (ext_drew (Chg.ext HB2.out (Chg.setCell (S := fun b => b = g) w3 (p := ⟨g, z, none⟩) rfl _) (fun j hj => (HCS2.out.hs.ge j (by rw [hj]; rfl)).1)))⟩
          case measure => simp [intOf]; omega
        · have ht : t = -1 := by rw [← HT.out]; unfold atK; rw [if_neg hpz]
          have HS2 : Hid (cuK es (k + 1) = (l ++ [x], m ++ [br])) := Lib.hid (by rw [HS.out]; unfold cuStep; rw [HX.out, HBR.out]; simp only []; rw [if_neg hpz])
          subst ht
          clear hpz
          have hszb := HB2.out.size
          go_wp2_with (at_builtin; first
            | (refine wpList_append_str2 rfl _ _ rfl w.heap.size (.slice B l.length cp) l x rfl rfl HCS2.out.hu (by omega) hszb ?_; intro g4 c4 w4 hO4 hg4 hlt4 ha4; (have HO4 := Lib.hid hO4); (have HG4 := Lib.hid hg4); (have HA4 := Lib.hid ha4); (have HM4 := Lib.hid (cs_mid HCS2.out hg4)); (have hsz4 : w.heap.size ≤ w4.heap.size := by omega); clear hO4 hg4 ha4)
            | (refine wpList_append_i2 rfl _ _ rfl w.heap.size (.slice D m.length dp) m 0 rfl rfl HM4.out (by omega) hsz4 ?_; intro g5 c5 w5 hO5 hg5 hlt5 ha5; (have HO5 := Lib.hid hO5); (have HG5 := Lib.hid hg5); (have HA5 := Lib.hid ha5); clear hO5 hg5 ha5))
          have HCS5 := Lib.hid (cs_push HCS2.out HO4.out HA4.out HO5.out HG5.out HA5.out)
          have HB4 := Lib.hid (Chg.ext HB2.out HG4.out (fun j hj => (HCS2.out.hu.ge j hj).1))
          have HB5 := Lib.hid (Chg.ext HB4.out HG5.out (fun j hj => (HM4.out.ge j hj).1))
          have p5 : w5.cell? ⟨g0, 2, none⟩ = some (.int .i64 br) := HG5.out.cell (HG4.out.cell p2 (fun hb => HU1.out g0 hb rfl)) (fun hb => HU2.out g0 hb rfl)
          have hl1 : l.length < (m ++ [0]).length := by have := hlm.out; rw [List.length_append]; simp; omega
          obtain ⟨s1, s2⟩ := oi_cell HO5.out hl1
          have hz0 : (m ++ [(0 : Int)]).getD l.length 0 = 0 := by rw [hlm.out]; simp
          rw [hz0] at s1
          clear hz0
          have hl2 : l.length < m.length + 1 := by have := hlm.out; omega
          clear hl1
          go_wp2_with fail
          go_region
          all_goals go_wp2_with fail
          all_goals go_roundw
          case rel => exact ⟨k + 1, l ++ [x], m ++ [br], some ⟨g4, 0, none⟩, some ⟨g5, 0, none⟩, c4, c5, by omega, by go_num, by rw [List.length_append]; rfl, by rw [List.length_append]; rfl, HS2.out, Lib.hid (by rw [List.length_append, List.length_append, ← set_last m l.length hlm.out br]; exact cs_store HCS5.out (by have := hlm.out; show l.length < (m ++ [(0 : Int)]).length; rw [List.length_append]; simp; omega) (ext_drew (ext_refl _))), Lib.hid (ext_drew (Chg.ext HB5.out (Chg.setCell (S := fun b => b = g5) w5 (p := ⟨g5, l.length, none⟩) rfl _) (fun j hj => (HCS5.out.hs.ge j (by rw [hj]; rfl)).1)))⟩
          case measure => simp [intOf]; omega
      · obtain rfl : k = es.length := by omega
        go_wp2_with fail
        refine bodyPost_ret (v := .tuple #[.slice B l.length cp, .slice D m.length dp, .int .i64 0]) (by simp [results, go_sem]) rfl ?_
        rw [HF.out, HK.out]
        exact ⟨_, _, rfl, HCS.out.hu, (show l.length ≤ 1048576 by omega), HCS.out.hs, (show m.length ≤ 1048576 by omega), HCS.out.ap, HB.out⟩
end Go.Proofs.YtbggggaoljpfnaaGreatDoor
