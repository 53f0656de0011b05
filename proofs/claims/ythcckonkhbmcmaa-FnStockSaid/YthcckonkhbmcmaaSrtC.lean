/-
  slices.SortStableFunc of at most 39 ints, by the days of the orders that they name.
-/
import Derived.Test.YthcckonkhbmcmaaSrtB
import Derived.Test.YthcckonkhbmcmaaOrdDue
import Derived.Test.YthcckonkhbmcmaaShelf
import Derived.Sort.Grow
namespace Go.Proofs.Ythcckonkhbmcmaa
open Go.ChangeShapes Go.WideShapes Go.ChangeAt Go.RowKit Go.Sort
set_option linter.unusedVariables false
set_option maxRecDepth 100000

/-- The list and its box, as the function that compares reads them. -/
def LF (W : World) (bx : Nat) (ad : Addr) (c : Nat) (l : List OD) : Prop := W.cell? ⟨bx, 0, none⟩ = some (.slice (some ad) l.length c) ∧ ∀ k, k < l.length → W.cell? ⟨(ad.add (k * 5)).block, (ad.add (k * 5)).off + 3, none⟩ = some (.int .i64 (gd l k).due)
theorem cmp_due {W : World} {bx : Nat} {ad : Addr} {c : Nat} {l : List OD} (h : LF W bx ad c l) (hl : l.length ≤ 1048576) (i j : Nat) (hi : i < l.length) (hj : j < l.length) :
    Calls Try.prog 46 #[.int .i64 (i : Int), .int .i64 (j : Int), .pointer (some ⟨bx, 0, none⟩)] W fun e w' => e = .returned (.int .i64 (cmpI (gd l i).due (gd l j).due)) ∧ ∃ q, w' = W.drewN q := by
  obtain ⟨h0, hc⟩ := h
  have c1 := hc i hi
  have c2 := hc j hj
  have e1 : (0 : Int) ≤ i := by omega
  have e2 : (0 : Int) ≤ j := by omega
  have e3 : (i : Int) < l.length := by omega
  have e4 : (j : Int) < l.length := by omega
  obtain ⟨n, hn⟩ : ∃ n, l.length = n := ⟨_, rfl⟩
  rw [hn] at h0 e3 e4
  obtain ⟨x, hx⟩ : ∃ x, (gd l i).due = x := ⟨_, rfl⟩
  obtain ⟨y, hy⟩ : ∃ y, (gd l j).due = y := ⟨_, rfl⟩
  rw [hx] at c1
  rw [hy] at c2
  rw [hx, hy]
  have HC := Lib.hid (fun W => cmp_compare x y W)
  clear hc hl hi hj hn hx hy
  go_enter Try.func46, Try.ntmps46
  go_wp2_with fail
  go_quiet ((go_at_call 47; exact quiet_p (HC.out _)))
  go_wp2_with fail
  go_ret
  exact ⟨rfl, _, rfl⟩
theorem cell_sortW {N : Nat} {w : World} {blk m : Nat} {dk : Array (Fin (N + 1))} {os : Array Obj} {a : Addr} {v : Value} (h : w.cell? a = some v) (hb : a.block ≠ blk) : (sortWorld eF w blk 0 m dk os).cell? a = some v := by
  unfold sortWorld
  have hlt := block_lt_of_cell h
  rw [cell?_grow _ _ _ (by rw [size_putRow]; exact hlt), cell?_putRow_other _ _ _ _ _ _ (Or.inl hb)]
  exact h
theorem LF.sort {N : Nat} {w : World} {bx blk m : Nat} {ad : Addr} {c : Nat} {l : List OD} {dk : Array (Fin (N + 1))} {os : Array Obj} (h : LF w bx ad c l) (h1 : bx ≠ blk) (h2 : ad.block ≠ blk) : LF (sortWorld eF w blk 0 m dk os) bx ad c l :=
  ⟨cell_sortW h.1 h1, fun k hk => cell_sortW (h.2 k hk) (by rw [block_of_add]; exact h2)⟩
/-- The day that an index names. -/
def kD (l : List OD) {N : Nat} (i : Fin (N + 1)) : Int := (gd l i.val).due
def cD (l : List OD) {N : Nat} (i j : Fin (N + 1)) : Int := cmpI (kD l i) (kD l j)
theorem cD_lt (l : List OD) {N : Nat} (i j : Fin (N + 1)) : ltOf (cD l) i j = true ↔ kD l i < kD l j := by
  unfold ltOf cD cmpI
  rw [decide_eq_true_eq]
  constructor
  · intro h
    split at h
    · assumption
    · split at h <;> omega
  · intro h; rw [if_pos h]; omega
theorem cmp_reads {N : Nat} {w : World} {bx blk : Nat} {ad : Addr} {c : Nat} {l : List OD} (h : LF w bx ad c l) (hl : l.length = N + 1) (hsz : l.length ≤ 1048576) (h1 : bx ≠ blk) (h2 : ad.block ≠ blk) (n : Nat) :
    CmpReads Try.prog 46 #[.pointer (some ⟨bx, 0, none⟩)] (eF (N := N)) (cD l) blk 0 n w := fun m os dk _ x y =>
  cmp_due (h.sort h1 h2) hsz x.val y.val (by rw [hl]; exact x.2) (by rw [hl]; exact y.2)
theorem cmp_K {N : Nat} {w : World} {bx blk : Nat} {ad : Addr} {c : Nat} {l : List OD} (h : LF w bx ad c l) (hl : l.length = N + 1) (hsz : l.length ≤ 1048576) (h1 : bx ≠ blk) (h2 : ad.block ≠ blk) (n : Nat) : CmpK w blk n bx (kD l (N := N)) := fun X m x y hX => by
  have := cmp_reads h hl hsz h1 h2 n m #[] X hX x y
  rw [sortWorld_none] at this
  exact this
theorem WX.put {N : Nat} (w : World) (blk m : Nat) (X Y : Array (Fin (N + 1))) (h : Y.size = X.size) : putRow eF (WX w blk X m) blk 0 Y = WX w blk Y m := by
  show putRow eF (Sort.ahead (putRow eF w blk 0 X) m) blk 0 Y = Sort.ahead (putRow eF w blk 0 Y) m
  rw [putRow_ahead, putRow_putRow eF w blk 0 X Y h]
theorem LF.row {N : Nat} {w : World} {bx blk m : Nat} {ad : Addr} {c : Nat} {l : List OD} {X : Array (Fin (N + 1))} (h : LF w bx ad c l) (h1 : bx ≠ blk) (h2 : ad.block ≠ blk) : LF (WX w blk X m) bx ad c l := by
  have := h.sort (m := m) (dk := X) (os := #[]) h1 h2
  rw [sortWorld_none] at this
  exact this
/-- Insertion, from any world of the sort's. -/
theorem sw_ins {N : Nat} {w : World} {bx blk : Nat} {ad : Addr} {c : Nat} {l : List OD} (h : LF w bx ad c l) (hl : l.length = N + 1) (hsz : l.length ≤ 1048576) (h1 : bx ≠ blk) (h2 : ad.block ≠ blk) {X0 : Array (Fin (N + 1))} (hH : Holds eF w blk 0 X0) (hx : X0.size ≤ 1048576) (cap : Nat) (X : Array (Fin (N + 1))) (hX : X.size = X0.size) (m0 a b : Nat) (hab : a ≤ b) (hb : b ≤ X0.size)
    (hk : ∀ p q, a ≤ p → p < q → q < b → kI X[p]! < kI X[q]!) :
    Calls Try.prog 56 #[.slice (some ⟨blk, 0, none⟩) X0.size cap, .int .i64 a, .int .i64 b, cmF bx] (WX w blk X m0) (RetX w blk fun Y => MgK (kD l) kI X Y a b) := by
  have eg : ∀ args w, (callFunc 46 args).run Try.prog w = .ok (.enter 46 args) w := enters_of Try.func46 (by kernel_rfl) rfl
  have hHX : Holds eF (WX w blk X m0) blk 0 X := holds_putRow eF w blk 0 X0 X hH hX
  have hq := Try.insertionSortCmpFunc_one eF (fun _ => rfl) (cD l) 46 #[.pointer (some ⟨bx, 0, none⟩)] blk 0 cap a b X (WX w blk X m0) eg (cmp_reads (h.row h1 h2) hl hsz h1 h2 X.size) hHX hab (by rw [hX]; exact hb) (by omega)
  have hm : MgK (kD l) kI X (Sort.insertionSort (ltOf (cD l)) X a b) a b := ins_mg (fun x y => cD_lt l x y) hab (by rw [hX]; exact hb) hk
  rw [hX] at hq
  refine hq.mono fun e w' ⟨e1, n, e2⟩ => ⟨e1, _, m0 + n, hm, ?_⟩
  rw [e2, WX.put _ _ _ _ _ hm.size, WX.drewN]

/-- The whole row sorted, of the same elements. -/
structure FinK {N : Nat} (l : List OD) (X Y : Array (Fin (N + 1))) : Prop where
  size : Y.size = X.size
  srt : SrtK (kD l) kI Y 0 X.size
  mem : ∀ p, p < X.size → ∃ q, q < X.size ∧ Y[p]! = X[q]!
/-- Sorted up to 20, and from there on. -/
structure HalfK {N : Nat} (l : List OD) (X Y : Array (Fin (N + 1))) : Prop where
  size : Y.size = X.size
  lo : SrtK (kD l) kI Y 0 20
  hi : SrtK (kD l) kI Y 20 X.size
  crs : CrsK kI Y 0 20 X.size
  mem : ∀ p, p < X.size → ∃ q, q < X.size ∧ Y[p]! = X[q]!
set_option maxHeartbeats 3200000 in
theorem sw_stable {N : Nat} {w : World} {bx blk : Nat} {ad : Addr} {c : Nat} {l : List OD} (h : LF w bx ad c l) (hl : l.length = N + 1) (hsz : l.length ≤ 1048576) (h1 : bx ≠ blk) (h2 : ad.block ≠ blk) {X0 : Array (Fin (N + 1))} (hH : Holds eF w blk 0 X0) (hx : X0.size ≤ 39) (cap : Nat)
    (hk : ∀ p q, p < q → q < X0.size → kI X0[p]! < kI X0[q]!) :
    Calls Try.prog 53 #[.slice (some ⟨blk, 0, none⟩) X0.size cap, .int .i64 X0.size, cmF bx] w (RetX w blk fun Y => FinK l X0 Y) := by
  have hw0 : w = WX w blk X0 0 := by
    have := putRow_self eF w blk 0 X0 hH
    unfold WX
    rw [this]; rfl
  have HI : Hid (∀ (X : Array (Fin (N + 1))) (hX : X.size = X0.size) (m0 a b : Nat) (hab : a ≤ b) (hb : b ≤ X0.size)
    (hk : ∀ p q, a ≤ p → p < q → q < b → kI X[p]! < kI X[q]!), Calls Try.prog 56 #[.slice (some ⟨blk, 0, none⟩) X0.size cap, .int .i64 a, .int .i64 b, cmF bx] (WX w blk X m0) (RetX w blk fun Y => MgK (kD l) kI X Y a b)) := Lib.hid fun X hX m0 a b hab hb hk => sw_ins h hl hsz h1 h2 hH (by omega) cap X hX m0 a b hab hb hk
  have HM : Hid (∀ (X : Array (Fin (N + 1))) (hX : X.size = X0.size) (m0 a mm b : Nat), a < mm → mm < b → b ≤ X0.size → SrtK (kD l) kI X a mm → SrtK (kD l) kI X mm b → CrsK kI X a mm b →
    Calls Try.prog 57 #[.slice (some ⟨blk, 0, none⟩) X0.size cap, .int .i64 a, .int .i64 mm, .int .i64 b, cmF bx] (WX w blk X m0) (RetX w blk fun Y => MgK (kD l) kI X Y a b)) := Lib.hid fun X hX m0 a mm b g1 g2 g3 g4 g5 g6 => sw_merge hH (by omega) (cmp_K h hl hsz h1 h2 X0.size) cap (b - a) X hX m0 a mm b (Nat.le_refl _) g1 g2 g3 g4 g5 g6
  have HK := Lib.hid hk
  clear h hl hsz h1 h2 hH hk
  obtain ⟨n, hn⟩ : ∃ n, X0.size = n := ⟨_, rfl⟩
  have HN := Lib.hid hn
  rw [hn] at HI HM hx ⊢
  clear hn
  have HW0 := Lib.hid hw0
  rw [hw0]
  have HWW : Hid (∀ (P : Array (Fin (N + 1)) → Prop) e w', RetX w blk P e w' → RetX (WX w blk X0 0) blk P e w') := Lib.hid fun P e w' ⟨a1, Y, m, a2, a3⟩ => ⟨a1, Y, m, a2, by rw [a3, ← HW0.out]⟩
  clear hw0
  go_enter Try.func53, Try.ntmps53
  go_wp2_with fail
  go_loopw [7, 8] (fun va vb wr => ∃ (m : Nat) (X : Array (Fin (N + 1))), ((va = .int .i64 0 ∧ vb = .int .i64 20 ∧ Hid (X = X0)) ∨ (va = .int .i64 20 ∧ vb = .int .i64 40 ∧ 20 ≤ n ∧ Hid (MgK (kD l) kI X0 X 0 20))) ∧ wr = WX w blk X m) (fun va _ _ => 100 - (intOf va).toNat)
  case atStart => exact ⟨0, X0, Or.inl ⟨rfl, rfl, Lib.hid rfl⟩, rfl⟩
  case round =>
    obtain ⟨m, X, hcs, rfl⟩ := hrel
    rcases hcs with ⟨rfl, rfl, HE⟩ | ⟨rfl, rfl, h20, HG⟩
    · have hXe := HE.out
      subst hXe
      by_cases hlt : 20 ≤ n
      · have e1 : (20 : Int) ≤ n := by omega
        have HC : Hid (Calls Try.prog 56 #[.slice (some ⟨blk, 0, none⟩) n cap, .int .i64 0, .int .i64 20, cmF bx] (WX w blk X m) (RetX w blk fun Y => MgK (kD l) kI X Y 0 20)) := Lib.hid (HI.out X HN.out m 0 20 (by omega) (by omega) (fun p q _ h1 h2 => HK.out p q h1 (by rw [HN.out]; omega)))
        go_wp2_with fail
        refine (show Calls _ _ _ _ _ from HC.out).mono ?_
        rintro e w2 ⟨rfl, Y, m2, hmg, rfl⟩
        have HG := Lib.hid hmg
        clear hmg HC
        go_wp2_with fail
        go_roundw
        case rel => exact ⟨m2, Y, Or.inr ⟨rfl, rfl, hlt, HG⟩, rfl⟩
        case measure => simp [intOf]
      · have e1 : ¬ (20 : Int) ≤ n := by omega
        have HC : Hid (Calls Try.prog 56 #[.slice (some ⟨blk, 0, none⟩) n cap, .int .i64 0, .int .i64 n, cmF bx] (WX w blk X m) (RetX w blk fun Y => MgK (kD l) kI X Y 0 n)) := Lib.hid (HI.out X HN.out m 0 n (by omega) (by omega) (fun p q _ h1 h2 => HK.out p q h1 (by rw [HN.out]; omega)))
        go_wp2_with fail
        refine (show Calls _ _ _ _ _ from HC.out).mono ?_
        rintro e w2 ⟨rfl, Y, m2, hmg, rfl⟩
        have HF : Hid (FinK l X Y) := Lib.hid ⟨hmg.size, by rw [HN.out]; exact hmg.srt, fun p hp => by
          rw [HN.out] at hp ⊢
          obtain ⟨q, _, q2, q3⟩ := hmg.mem p (Nat.zero_le _) hp
          exact ⟨q, q2, q3⟩⟩
        clear hmg HC
        have e2 : ¬ (20 : Int) < n := by omega
        go_wp2_with fail
        go_loopw [6] (fun v wr => v = .int .i64 20 ∧ wr = WX w blk Y m2) (fun _ _ => 0)
        case atStart => exact ⟨rfl, rfl⟩
        case round =>
          obtain ⟨rfl, rfl⟩ := hrel
          go_wp2_with fail
          go_end0
          exact HWW.out _ _ _ ⟨rfl, Y, m2, HF.out, rfl⟩
    · have hXs : X.size = n := by rw [HG.out.size, HN.out]
      have e1 : ¬ (40 : Int) ≤ n := by omega
      have HC : Hid (Calls Try.prog 56 #[.slice (some ⟨blk, 0, none⟩) n cap, .int .i64 20, .int .i64 n, cmF bx] (WX w blk X m) (RetX w blk fun Y => MgK (kD l) kI X Y 20 n)) := Lib.hid (HI.out X (by rw [hXs]) m 20 n (by omega) (by omega) (fun p q g1 g2 g3 => by
        rw [HG.out.out p (Or.inr g1), HG.out.out q (Or.inr (by omega))]
        exact HK.out p q g2 (by rw [HN.out]; omega)))
      go_wp2_with fail
      refine (show Calls _ _ _ _ _ from HC.out).mono ?_
      rintro e w2 ⟨rfl, Y, m2, hmg, rfl⟩
      have hlow : ∀ p, p < 20 → Y[p]! = X[p]! := fun p hp => hmg.out p (Or.inl hp)
      have HF : Hid (HalfK l X0 Y) := Lib.hid ⟨by rw [hmg.size, hXs, HN.out], fun p q g1 g2 g3 => by
          rw [hlow p (by omega), hlow q g3]; exact HG.out.srt p q g1 g2 g3, by rw [HN.out]; exact hmg.srt, fun p q g1 g2 g3 g4 => by
          rw [HN.out] at g4
          rw [hlow p g2]
          obtain ⟨q', b1, b2, b3⟩ := hmg.mem q g3 g4
          rw [b3, HG.out.out q' (Or.inr b1)]
          obtain ⟨p', a1, a2, a3⟩ := HG.out.mem p g1 g2
          rw [a3]
          exact HK.out p' q' (by omega) (by rw [HN.out]; omega), fun p hp => by
          rw [HN.out] at hp ⊢
          by_cases hp2 : p < 20
          · rw [hlow p hp2]
            obtain ⟨p', a1, a2, a3⟩ := HG.out.mem p (Nat.zero_le _) hp2
            exact ⟨p', by omega, a3⟩
          · obtain ⟨q', b1, b2, b3⟩ := hmg.mem p (by omega) hp
            exact ⟨q', b2, by rw [b3, HG.out.out q' (Or.inr b1)]⟩⟩
      clear hmg HC hlow hXs e1
      go_wp2_with fail
      go_loopw [6] (fun v wr => ∃ (m : Nat) (Z : Array (Fin (N + 1))), ((v = .int .i64 20 ∧ Hid (HalfK l X0 Z)) ∨ (v = .int .i64 40 ∧ Hid (FinK l X0 Z))) ∧ wr = WX w blk Z m) (fun v _ => 100 - (intOf v).toNat)
      case atStart => exact ⟨m2, Y, Or.inl ⟨rfl, HF⟩, rfl⟩
      case round =>
        obtain ⟨m3, Z, hcs, rfl⟩ := hrel
        rcases hcs with ⟨rfl, HHF⟩ | ⟨rfl, HFN⟩
        · by_cases hn20 : 20 < n
          · have f1 : (20 : Int) < n := by omega
            have f2 : ¬ (40 : Int) ≤ n := by omega
            have HCM : Hid (Calls Try.prog 57 #[.slice (some ⟨blk, 0, none⟩) n cap, .int .i64 0, .int .i64 20, .int .i64 n, cmF bx] (WX w blk Z m3) (RetX w blk fun Y => MgK (kD l) kI Z Y 0 n)) := Lib.hid (by
              have g := HHF.out
              exact HM.out Z (by rw [g.size, HN.out]) m3 0 20 n (by omega) hn20 (Nat.le_refl _) g.lo (by have := g.hi; rwa [HN.out] at this) (by have := g.crs; rwa [HN.out] at this))
            go_wp2_with fail
            go_loopw [7, 8] (fun va vb wr => va = .int .i64 0 ∧ vb = .int .i64 40 ∧ wr = WX w blk Z m3) (fun _ _ _ => 0)
            case atStart => exact ⟨rfl, rfl, rfl⟩
            case round =>
              obtain ⟨rfl, rfl, rfl⟩ := hrel
              go_wp2_with fail
              refine (show Calls _ _ _ _ _ from HCM.out).mono ?_
              rintro e w2 ⟨rfl, V, m4, hmg, rfl⟩
              have HFV : Hid (FinK l X0 V) := Lib.hid (by
                have g := HHF.out
                refine ⟨by rw [hmg.size, g.size], by rw [HN.out]; exact hmg.srt, fun p hp => ?_⟩
                obtain ⟨q', b1, b2, b3⟩ := hmg.mem p (Nat.zero_le _) (by rw [← HN.out]; exact hp)
                obtain ⟨q, c1, c2⟩ := g.mem q' (by rw [HN.out]; exact b2)
                exact ⟨q, c1, by rw [b3, c2]⟩)
              clear hmg HCM
              go_wp2_with fail
              go_roundw
              case rel => exact ⟨m4, V, Or.inr ⟨rfl, HFV⟩, rfl⟩
              case measure => simp [intOf]
          · have f1 : ¬ (20 : Int) < n := by omega
            have HFN : Hid (FinK l X0 Z) := Lib.hid (by
              have g := HHF.out
              have e20 : n = 20 := by omega
              exact ⟨g.size, by rw [HN.out, e20]; exact g.lo, g.mem⟩)
            go_wp2_with fail
            go_end0
            exact HWW.out _ _ _ ⟨rfl, Z, m3, HFN.out, rfl⟩
        · have f1 : ¬ (40 : Int) < n := by omega
          go_wp2_with fail
          go_end0
          exact HWW.out _ _ _ ⟨rfl, Z, m3, HFN.out, rfl⟩
end Go.Proofs.Ythcckonkhbmcmaa
