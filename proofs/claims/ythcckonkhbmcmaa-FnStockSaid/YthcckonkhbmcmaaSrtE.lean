/-
  Orders: the program's ordersByDue, the walk.
-/
import Derived.Test.YthcckonkhbmcmaaSrtD
namespace Go.Proofs.Ythcckonkhbmcmaa
open Go.ChangeShapes Go.WideShapes Go.ChangeAt Go.RowKit Go.Sort
set_option linter.unusedVariables false
set_option maxRecDepth 100000

theorem sw_ins0 (A : Option Addr) (c : Nat) (f : Value) (w : World) : Calls Try.prog 56 #[.slice A 0 c, .int .i64 0, .int .i64 0, f] w (RetP (.tuple #[]) w) := by
  go_enter Try.func56, Try.ntmps56
  go_wp2_with fail
  go_loop [8] (fun i => i = .int .i64 1) (fun _ => 0)
  case atStart => rfl
  case round =>
    subst hrel
    go_wp2_with fail
    go_end0
    exact ⟨rfl, rfl⟩
theorem sw_stable0 (A : Option Addr) (c : Nat) (f : Value) (w : World) : Calls Try.prog 53 #[.slice A 0 c, .int .i64 0, f] w (RetP (.tuple #[]) w) := by
  go_enter Try.func53, Try.ntmps53
  go_wp2_with fail
  go_loop [7, 8] (fun i j => i = .int .i64 0 ∧ j = .int .i64 20) (fun _ _ => 0)
  case atStart => exact ⟨rfl, rfl⟩
  case round =>
    obtain ⟨rfl, rfl⟩ := hrel
    go_wp2_with fail
    refine (sw_ins0 A c f _).mono ?_
    rintro e w' ⟨rfl, rfl⟩
    go_wp2_with fail
    go_loop [6] (fun i => i = .int .i64 20) (fun _ => 0)
    case atStart => rfl
    case round =>
      subst hrel
      go_wp2_with fail
      go_end0
      exact ⟨rfl, rfl⟩
theorem sw_sort0 (A : Option Addr) (c : Nat) (f : Value) (w : World) : Calls Try.prog 45 #[.slice A 0 c, f] w (RetP (.tuple #[]) w) := by
  go_enter Try.func45, Try.ntmps45
  go_wp2_with fail
  refine (sw_stable0 A c f _).mono ?_
  rintro e w' ⟨rfl, rfl⟩
  go_wp2_with fail
  go_end0
  exact ⟨rfl, rfl⟩
theorem sw_sort {N : Nat} {w : World} {bx blk : Nat} {ad : Addr} {c : Nat} {l : List OD} (h : LF w bx ad c l) (hl : l.length = N + 1) (hsz : l.length ≤ 1048576) (h1 : bx ≠ blk) (h2 : ad.block ≠ blk) {X0 : Array (Fin (N + 1))} (hH : Holds eF w blk 0 X0) (hx : X0.size ≤ 39) (cap : Nat)
    (hk : ∀ p q, p < q → q < X0.size → kI X0[p]! < kI X0[q]!) :
    Calls Try.prog 45 #[.slice (some ⟨blk, 0, none⟩) X0.size cap, cmF bx] w (RetX w blk fun Y => FinK l X0 Y) := by
  have HC := Lib.hid (sw_stable h hl hsz h1 h2 hH hx cap hk)
  clear h hl hsz h1 h2 hH hk
  obtain ⟨n, hn⟩ : ∃ n, X0.size = n := ⟨_, rfl⟩
  rw [hn] at HC hx ⊢
  clear hn
  go_enter Try.func45, Try.ntmps45
  go_wp2_with fail
  refine (show Calls _ _ _ _ _ from HC.out).mono ?_
  rintro e w' ⟨rfl, Y, m, hY, rfl⟩
  go_wp2_with fail
  go_end0
  exact ⟨rfl, Y, m, hY, rfl⟩

set_option maxHeartbeats 3200000 in
theorem impl_due (v : Value) (l : List OD) (hv : vOrders l = true) (w : World) (ha : RODS w v l) :
    Calls Try.prog 26 #[v] w fun e w' => ∃ v', e = .returned v' ∧ OI w' w.heap.size v' (dueTo l l.length) ∧ Below w.heap.size w w' := by
  obtain ⟨A, c, rfl, hc1, hc2⟩ := ha.open_
  have HA := Lib.hid ha; clear ha
  have HV := Lib.hid hv
  have hlen := v_len hv
  clear hv
  unfold maxLen at hc2
  go_enter Try.func26, Try.ntmps26
  have HBX : Hid ((w.alloc (.cells #[.slice A l.length c] 24)).cell? ⟨w.heap.size, 0, none⟩ = some (.slice A l.length c)) := Lib.hid (by simp [go_sem])
  have HW1 : Hid (Below w.heap.size w (w.alloc (.cells #[.slice A l.length c] 24))) := Lib.hid (ext_alloc1 _ _)
  have hz1 : (w.alloc (.cells #[.slice A l.length c] 24)).heap.size = w.heap.size + 1 := by simp
  have hz2 := fun o => (ext_alloc1 (w.alloc (.cells #[.slice A l.length c] 24)) o)
  have hbx := fun o => cell_keep HBX.out (hz2 o)
  go_wp2_with fail
  clear hbx
  go_loopw [3, 9] (fun o i wr => ∃ (k g cq : Nat) (xs : List Int), k ≤ l.length ∧ i = .int .i64 k ∧ o = .slice (some ⟨g, 0, none⟩) xs.length cq ∧ w.heap.size + 1 ≤ g ∧ xs.length ≤ k ∧ Hid ((oXs l k).map Int.ofNat = xs) ∧ Hid (OI wr (w.heap.size + 1) (.slice (some ⟨g, 0, none⟩) xs.length cq) xs) ∧ Hid (Below (w.heap.size + 1) (w.alloc (.cells #[.slice A l.length c] 24)) wr)) (fun _ i _ => l.length - (intOf i).toNat)
  case atStart =>
    refine ⟨0, w.heap.size + 1, 0, [], Nat.zero_le _, rfl, rfl, Nat.le_refl _, Nat.le_refl _, Lib.hid rfl, Lib.hid ?_, Lib.hid ?_⟩
    · have h := oi_lit (w.alloc (.cells #[.slice A l.length c] 24)) (w.heap.size + 1) (by simp)
      rw [hz1] at h
      exact h
    · have h := hz2 (.cells #[] 2)
      rw [hz1] at h
      exact h
  case round =>
    obtain ⟨k, g, cq, xs, hk, rfl, rfl, hg, hxk, HX, HO, HB⟩ := hrel
    have HWW : Hid (Below w.heap.size w wr) := Lib.hid (HW1.out.trans (HB.out.mono (by omega)))
    have hsz := HB.out.size
    rw [hz1] at hsz
    by_cases hlt : k < l.length
    · obtain ⟨ad, rfl, _, hc⟩ := (HA.out.ext HWW.out).at hlt
      obtain ⟨p0, p1, p2, p3, p4⟩ := hc k hlt
      clear hc
      obtain ⟨o, ho⟩ : ∃ o, gd l k = o := ⟨_, rfl⟩
      have hbd := opn_bd HV.out hlt
      have h1 := v_one HV.out hlt
      have HS := Lib.hid (oXs_succ l k)
      rw [ho] at p0 p1 p2 p3 p4 hbd h1 HS
      have HC : Hid (∀ W, Calls Try.prog 27 #[.agg #[.int .i64 o.id, .string o.cu, .int .i64 o.br, .int .i64 o.due, .int .i64 o.sent]] W (Ret (.int .i64 (opn o)) W)) := Lib.hid fun W => impl_open _ o W rfl h1
      obtain ⟨u, hu⟩ : ∃ u, opn o = u := ⟨_, rfl⟩
      rw [hu] at HC hbd HS
      clear ho h1 hu
      have e1 : (0:Int) ≤ k := by omega
      have e2 : (k:Int) < l.length := by omega
      go_wp2_with fail
      refine (show Calls _ _ _ _ _ from HC.out _).mono ?_
      rintro e w2 ⟨rfl, hb⟩
      have hb2 := ext_trans (ext_alloc1 wr _) hb
      have HB2 := Lib.hid (HB.out.trans (hb2.mono hsz))
      have HO2 := Lib.hid (HO.out.ext hb2)
      have hsz2 := hb2.size
      clear hb hb2 p0 p1 p2 p3 p4 HC HO HB
      by_cases hu0 : u = 0
      · subst hu0
        have HX2 : Hid ((oXs l (k + 1)).map Int.ofNat = xs) := Lib.hid (by rw [HS.out, if_pos rfl, HX.out])
        go_wp2_with fail
        go_roundw
        case rel => exact ⟨k + 1, g, cq, xs, by omega, by go_num, rfl, hg, by omega, HX2, HO2, HB2⟩
        case measure => simp [intOf]; omega
      · have hup : decide (u > 0) = true := decide_eq_true (by omega)
        have hup2 : (0 : Int) < u := by omega
        have HX2 : Hid ((oXs l (k + 1)).map Int.ofNat = xs ++ [(k : Int)]) := Lib.hid (by rw [HS.out, if_neg hu0, List.map_append, HX.out]; rfl)
        clear hu0
        go_wp2_with (at_builtin; refine wpList_append_i rfl _ _ rfl (w.heap.size + 1) (.slice (some ⟨g, 0, none⟩) xs.length cq) xs (k : Int) rfl rfl HO2.out (by omega) (by omega) ?_; intro g2 cap w4 hO4 hg4 hlt4)
        go_roundw
        case rel => exact ⟨k + 1, g2, cap, xs ++ [(k : Int)], by omega, by go_num, by rw [List.length_append]; rfl, (hO4.ge g2 rfl).1, by rw [List.length_append]; simp; omega, HX2, Lib.hid (by rw [List.length_append]; exact hO4), Lib.hid (HB2.out.trans (hg4.below (by omega) (fun j hj => (HO2.out.ge j hj).1)))⟩
        case measure => simp [intOf]; omega
    · obtain rfl : k = l.length := by omega
      by_cases hl0 : l.length = 0
      · have hx0 : xs = [] := List.eq_nil_of_length_eq_zero (by omega)
        subst hx0
        have HF : Hid (dueTo l l.length = []) := Lib.hid (by rw [hl0]; rfl)
        clear hl0
        have e2 : ¬ (l.length : Int) < l.length := by omega
        go_wp2_with fail
        refine (sw_sort0 _ _ _ _).mono ?_
        rintro e w' ⟨rfl, rfl⟩
        go_wp2_with fail
        go_ret
        exact ⟨_, rfl, by rw [HF.out]; exact HO.out.mono (by omega), HWW.out⟩
      · obtain ⟨N, hN⟩ : ∃ N, l.length = N + 1 := ⟨l.length - 1, by omega⟩
        have HNN := Lib.hid hN
        obtain ⟨ad, rfl, hadl, hc⟩ := (HA.out.ext HWW.out).at (show 0 < l.length by omega)
        have hadw : ad.block < w.heap.size := by
          obtain ⟨ad', hA', hlt', _⟩ := HA.out.at (show 0 < l.length by omega)
          injection hA' with hA'
          rw [hA']; exact hlt'
        have hbox : wr.cell? ⟨w.heap.size, 0, none⟩ = some (.slice (some ad) l.length c) := (HB.out.cell (p := ⟨w.heap.size, 0, none⟩) (by simp)).trans HBX.out
        have HLF : LF wr w.heap.size ad c l := ⟨hbox, fun k hk => (hc k hk).2.2.2.1⟩
        have hvx : vL (oXa l N) = xs := by rw [oXa_vL hN]; exact HX.out
        have HO1 := HO.out
        rw [← hvx] at HO1
        have hxs : (oXa l N).size = xs.length := by rw [← hvx, vL_len]
        have HC := Lib.hid (sw_sort HLF hN (by omega) (show w.heap.size ≠ g by omega) (show ad.block ≠ g by omega) (oI_holds HO1) (by omega) cq (oXa_asc hN))
        rw [hxs] at HC
        have HO3 := Lib.hid HO1
        have HXL : Hid ((vL (oXa l N)).length = xs.length) := Lib.hid (by rw [hvx])
        clear hl0 hc hbox HLF hvx hxs HO1 hN
        have e2 : ¬ (l.length : Int) < l.length := by omega
        go_wp2_with fail
        refine (show Calls _ _ _ _ _ from HC.out).mono ?_
        rintro e w' ⟨rfl, Y, m, hY, rfl⟩
        have HS := Lib.hid (oI_sorted (m := m) HO3.out hY.size)
        have HF := Lib.hid (fin_due HNN.out hY)
        clear hY
        have hbox2 := HBX.out
        go_wp2_with fail
        go_ret
        refine ⟨_, rfl, ?_, HWW.out.trans (HS.out.2.below (by omega) (fun j hj => by omega))⟩
        rw [← HF.out, ← HXL.out]
        exact HS.out.1.mono (by omega)
end Go.Proofs.Ythcckonkhbmcmaa
