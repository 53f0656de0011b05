/-
  Parts of the proof: SbA, SbB.
-/
import Derived.Test.YtfgopboddkhckaaGreatDoorKw33
namespace Go.Proofs.YtfgopboddkhckaaGreatDoor
open Go.ChangeShapes Go.WideShapes Go.ChangeAt Go.RowKit Go.Sort Go.Joins
set_option linter.unusedVariables false
set_option maxRecDepth 100000
def oc : Option PV → Int
 | none => -1
 | some v => (v.c : Int)
def on : Option PV → Int
 | none => 0
 | some v => (v.p : Int)
def ol : Option PV → ByteArray
 | none => ⟨#[]⟩
 | some v => bsq v.lo
def oh : Option PV → ByteArray
 | none => ⟨#[]⟩
 | some v => bsq v.hi
abbrev OVv (o : Option PV) : Value := .agg #[.int .i64 (oc o), .int .i64 (on o), .string (ol o), .string (oh o)]
def beats (x : PV) : Option PV → Bool
 | none => true
 | some y => decide (plt x y)
theorem pick_beats (acc : Option PV) (x : PV) : pick acc (some x) = if beats x acc = true then some x else acc := by
 cases acc with
 | none => rfl
 | some y =>
   show (if plt x y then some x else some y) = _
   by_cases h : plt x y
   · rw [if_pos h, if_pos (by simpa [beats] using h)]
   · rw [if_neg h, if_neg (by simpa [beats] using h)]
set_option maxHeartbeats 1600000 in
theorem spec_Before (x : PV) (y : Option PV) (w : World) : Calls Tryz.prog 253 #[PVv x, OVv y] w (Ret (.bool (beats x y)) w) := by
 obtain ⟨a, b, s, t⟩ := x
 have f0 : decide ((a : Int) < 0) = false := decide_eq_false (by omega)
 have f0' : ¬ ((a : Int) < 0) := by omega
 have f0'' : (0 : Int) ≤ (a : Int) := by omega
 cases y with
 | none =>
   show Calls Tryz.prog 253 #[.agg #[.int .i64 (a : Int), .int .i64 (b : Int), .string (bsq s), .string (bsq t)], .agg #[.int .i64 (-1), .int .i64 0, .string ⟨#[]⟩, .string ⟨#[]⟩]] w (Ret (.bool true) w)
   go_enter Tryz.func253, Tryz.ntmps253
   go_wp2_with fail
   go_ret
   exact ⟨rfl, ext_alloc (ext_alloc1 _ _) _⟩
 | some y =>
   obtain ⟨c, d, u, v⟩ := y
   show Calls Tryz.prog 253 #[.agg #[.int .i64 (a : Int), .int .i64 (b : Int), .string (bsq s), .string (bsq t)], .agg #[.int .i64 (c : Int), .int .i64 (d : Int), .string (bsq u), .string (bsq v)]] w (Ret (.bool (decide (plt ⟨a, b, s, t⟩ ⟨c, d, u, v⟩))) w)
   have g0 : decide ((c : Int) < 0) = false := decide_eq_false (by omega)
   have g0' : ¬ ((c : Int) < 0) := by omega
   by_cases h1 : a = c
   · by_cases h2 : b = d
     · subst h1 h2
       have key : decide (plt ⟨a, b, s, t⟩ ⟨a, b, u, v⟩) = (tlt s u || (decide (s = u) && tlt t v)) := by
         have hi : plt ⟨a, b, s, t⟩ ⟨a, b, u, v⟩ ↔ (tlt s u = true ∨ (s = u ∧ tlt t v = true)) := by unfold plt; simp
         have hd : decide (plt ⟨a, b, s, t⟩ ⟨a, b, u, v⟩) = decide (tlt s u = true ∨ (s = u ∧ tlt t v = true)) := decide_eq_decide.2 hi
         rw [hd]
         simp [Bool.decide_or, Bool.decide_and]
       rw [key]
       clear key
       by_cases h3 : s = u
       · subst h3
         have e3 : (tlt s s || (decide (s = s) && tlt t v)) = tlt t v := by simp [tlt_irrefl]
         rw [e3]
         clear e3
         go_enter Tryz.func253, Tryz.ntmps253
         go_wp2_with fail
         go_ret
         refine ⟨ret_bool ?_, ext_alloc (ext_alloc1 _ _) _⟩
         simp only [tl_bsq, bl_tlt] at *
       · have e3 : (tlt s u || (decide (s = u) && tlt t v)) = tlt s u := by simp [h3]
         rw [e3]
         have e4 : ((bsq s).toList == (bsq u).toList) = false := by rw [tl_bsq, tl_bsq]; exact beq_eq_false_iff_ne.2 h3
         have e5 : ¬ (bsq s).toList = (bsq u).toList := by rw [tl_bsq, tl_bsq]; exact h3
         clear e3 h3
         go_enter Tryz.func253, Tryz.ntmps253
         go_wp2_with fail
         go_ret
         refine ⟨ret_bool ?_, ext_alloc (ext_alloc1 _ _) _⟩
         simp only [tl_bsq, bl_tlt] at *
     · subst h1
       have e1 : decide (plt ⟨a, b, s, t⟩ ⟨a, d, u, v⟩) = decide ((b : Int) < (d : Int)) := decide_eq_decide.2 (by unfold plt; simp only [Nat.lt_irrefl, false_or, true_and, h2, false_and, or_false]; omega)
       rw [e1]
       have e2 : ((b : Int) == (d : Int)) = false := beq_eq_false_iff_ne.2 (by omega)
       clear e1 h2
       go_enter Tryz.func253, Tryz.ntmps253
       go_wp2_with fail
       go_ret
       exact ⟨ret_bool (by simp), ext_alloc (ext_alloc1 _ _) _⟩
   · have e1 : decide (plt ⟨a, b, s, t⟩ ⟨c, d, u, v⟩) = decide ((a : Int) < (c : Int)) := decide_eq_decide.2 (by unfold plt; simp only [h1, false_and, or_false]; omega)
     rw [e1]
     have e2 : ((a : Int) == (c : Int)) = false := beq_eq_false_iff_ne.2 (by omega)
     clear e1 h1
     go_enter Tryz.func253, Tryz.ntmps253
     go_wp2_with fail
     go_ret
     exact ⟨ret_bool (by simp), ext_alloc (ext_alloc1 _ _) _⟩
theorem pcs_at (k : Nat) (hk : k < 5) : ∃ x, pcs.getD k 0 = x ∧ (x = 83 ∨ x = 72 ∨ x = 84 ∨ x = 66 ∨ x = 67) := by
 rcases (show k = 0 ∨ k = 1 ∨ k = 2 ∨ k = 3 ∨ k = 4 by omega) with rfl | rfl | rfl | rfl | rfl <;> exact ⟨_, rfl, by decide⟩
theorem qC_qL {x : UInt8} (h : x = 83 ∨ x = 72 ∨ x = 84 ∨ x = 66 ∨ x = 67) : qC (x.toNat : Int) = (qL x : Int) := by
 rcases h with rfl | rfl | rfl | rfl | rfl <;> decide
theorem spec_cost8 (x : UInt8) (hx : x = 83 ∨ x = 72 ∨ x = 84 ∨ x = 66 ∨ x = 67) (w : World) : Calls Tryz.prog 252 #[.int .u8 (x.toNat : Int)] w (RetP (.int .i64 (cL x : Int)) w) := by
 have hc : ∀ w, Calls Tryz.prog 262 #[.int .u8 (x.toNat : Int)] w (RetP (.bool (decide (cL x = 1))) w) := by
   intro w
   rcases hx with rfl | rfl | rfl | rfl | rfl
   · show Calls Tryz.prog 262 #[.int .u8 83] w (RetP (.bool false) w)
     go_enter Tryz.func262, Tryz.ntmps262
     go_wp2_with fail
     go_ret
     exact ⟨rfl, rfl⟩
   · show Calls Tryz.prog 262 #[.int .u8 72] w (RetP (.bool false) w)
     go_enter Tryz.func262, Tryz.ntmps262
     go_wp2_with fail
     go_ret
     exact ⟨rfl, rfl⟩
   · show Calls Tryz.prog 262 #[.int .u8 84] w (RetP (.bool true) w)
     go_enter Tryz.func262, Tryz.ntmps262
     go_wp2_with fail
     go_ret
     exact ⟨rfl, rfl⟩
   · show Calls Tryz.prog 262 #[.int .u8 66] w (RetP (.bool true) w)
     go_enter Tryz.func262, Tryz.ntmps262
     go_wp2_with fail
     go_ret
     exact ⟨rfl, rfl⟩
   · show Calls Tryz.prog 262 #[.int .u8 67] w (RetP (.bool true) w)
     go_enter Tryz.func262, Tryz.ntmps262
     go_wp2_with fail
     go_ret
     exact ⟨rfl, rfl⟩
 have HC := Lib.hid hc
 have h01 : cL x = 0 ∨ cL x = 1 := by have := cL_le x; omega
 rcases h01 with h | h
 · rw [h]
   rw [h, show decide ((0 : Nat) = 1) = false from rfl] at HC
   clear h hc hx
   go_enter Tryz.func252, Tryz.ntmps252
   go_wp2_with fail
   refine (show Calls _ _ _ _ _ from HC.out _).mono ?_
   rintro e w1 ⟨rfl, rfl⟩
   go_wp2_with fail
   go_ret
   exact ⟨rfl, rfl⟩
 · rw [h]
   rw [h, show decide ((1 : Nat) = 1) = true from rfl] at HC
   clear h hc hx
   go_enter Tryz.func252, Tryz.ntmps252
   go_wp2_with fail
   refine (show Calls _ _ _ _ _ from HC.out _).mono ?_
   rintro e w1 ⟨rfl, rfl⟩
   go_wp2_with fail
   go_ret
   exact ⟨rfl, rfl⟩
set_option maxHeartbeats 1600000 in
theorem spec_free (q L P a b : Nat) (ha : a ≤ 1000) (hb : b ≤ 1000) (w : World) (c0 : w.cell? ⟨q, 0, none⟩ = some (.int .i64 (L : Int))) (c1 : w.cell? ⟨q, 1, none⟩ = some (.int .i64 (P : Int))) (haL : a ≤ L) (hbL : b ≤ L) :
   Calls Tryz.prog 251 #[.pointer (some ⟨q, 0, none⟩), .int .i64 (a : Int), .int .i64 (b : Int)] w (Ret (.bool (decide (far L P a b))) w) := by
 have k0 := fun d os => cell_regrown c0 d os
 have k1 := fun d os => cell_regrown c1 d os
 have HSZ := Lib.hid (fun w => spec_sizeD (a : Int) (b : Int) (by omega) (by omega) w)
 obtain ⟨r, hr⟩ : ∃ r, decide (far L P a b) = r := ⟨_, rfl⟩
 rw [hr]
 clear c0 c1
 by_cases h1 : a = 0
 · have e1 : ((a : Int) == 0) = true := beq_iff_eq.2 (by omega)
   have HF : Hid (r = true) := Lib.hid (by rw [← hr]; exact decide_eq_true (.inl h1))
   clear hr h1 haL hbL
   go_enter Tryz.func251, Tryz.ntmps251
   go_wp2_with fail
   refine wp_region_quiet_below (by kernel_rfl) (by kernel_rfl) ?_
   try simp only [List.append]
   repeat (go_big_quiet_step ((go_at_call 224; exact regrown_p (HSZ.out _))))
   refine wpQuiet_nil ?_
   intro w' hw'
   obtain ⟨p, rfl⟩ := hw'
   go_wp2_with fail
   go_ret
   exact ⟨ret_bool (by rw [HF.out]), below_regrown _ _ _⟩
 have e1 : ((a : Int) == 0) = false := beq_eq_false_iff_ne.2 (by omega)
 by_cases h2 : b = 0
 · have e2 : ((b : Int) == 0) = true := beq_iff_eq.2 (by omega)
   have HF : Hid (r = true) := Lib.hid (by rw [← hr]; exact decide_eq_true (.inr (.inl h2)))
   clear hr h1 h2 haL hbL
   go_enter Tryz.func251, Tryz.ntmps251
   go_wp2_with fail
   refine wp_region_quiet_below (by kernel_rfl) (by kernel_rfl) ?_
   try simp only [List.append]
   repeat (go_big_quiet_step ((go_at_call 224; exact regrown_p (HSZ.out _))))
   refine wpQuiet_nil ?_
   intro w' hw'
   obtain ⟨p, rfl⟩ := hw'
   go_wp2_with fail
   go_ret
   exact ⟨ret_bool (by rw [HF.out]), below_regrown _ _ _⟩
 have e2 : ((b : Int) == 0) = false := beq_eq_false_iff_ne.2 (by omega)
 by_cases h3 : a = L
 · have e3 : ((a : Int) == (L : Int)) = true := beq_iff_eq.2 (by omega)
   have HF : Hid (r = true) := Lib.hid (by rw [← hr]; exact decide_eq_true (.inr (.inr (.inl (by omega)))))
   clear hr h1 h2 h3 haL hbL
   go_enter Tryz.func251, Tryz.ntmps251
   go_wp2_with fail
   refine wp_region_quiet_below (by kernel_rfl) (by kernel_rfl) ?_
   try simp only [List.append]
   repeat (go_big_quiet_step ((go_at_call 224; exact regrown_p (HSZ.out _))))
   refine wpQuiet_nil ?_
   intro w' hw'
   obtain ⟨p, rfl⟩ := hw'
   go_wp2_with fail
   go_ret
   exact ⟨ret_bool (by rw [HF.out]), below_regrown _ _ _⟩
 have e3 : ((a : Int) == (L : Int)) = false := beq_eq_false_iff_ne.2 (by omega)
 by_cases h4 : b = L
 · have e4 : ((b : Int) == (L : Int)) = true := beq_iff_eq.2 (by omega)
   have HF : Hid (r = true) := Lib.hid (by rw [← hr]; exact decide_eq_true (.inr (.inr (.inr (.inl (by omega))))))
   clear hr h1 h2 h3 h4 haL hbL
   go_enter Tryz.func251, Tryz.ntmps251
   go_wp2_with fail
   refine wp_region_quiet_below (by kernel_rfl) (by kernel_rfl) ?_
   try simp only [List.append]
   repeat (go_big_quiet_step ((go_at_call 224; exact regrown_p (HSZ.out _))))
   refine wpQuiet_nil ?_
   intro w' hw'
   obtain ⟨p, rfl⟩ := hw'
   go_wp2_with fail
   go_ret
   exact ⟨ret_bool (by rw [HF.out]), below_regrown _ _ _⟩
 have e4 : ((b : Int) == (L : Int)) = false := beq_eq_false_iff_ne.2 (by omega)
 have HF : Hid (decide ((P : Int) ≤ apt (a : Int) (b : Int)) = r) := Lib.hid (by
   rw [← hr]
   refine decide_eq_decide.2 ?_
   unfold far apt
   split <;> omega)
 obtain ⟨z, hz⟩ : ∃ z, apt (a : Int) (b : Int) = z := ⟨_, rfl⟩
 rw [hz] at HF HSZ
 clear hz hr h1 h2 h3 h4 haL hbL
 go_enter Tryz.func251, Tryz.ntmps251
 go_wp2_with fail
 refine wp_region_quiet_below (by kernel_rfl) (by kernel_rfl) ?_
 try simp only [List.append]
 repeat (go_big_quiet_step ((go_at_call 224; exact regrown_p (HSZ.out _))))
 refine wpQuiet_nil ?_
 intro w' hw'
 obtain ⟨p, rfl⟩ := hw'
 go_wp2_with fail
 go_ret
 exact ⟨ret_bool (by rw [← HF.out]), below_regrown _ _ _⟩
structure C4 (W : World) (g k : Nat) (o : Option PV) : Prop where
 c0 : W.cell? ⟨g, k, none⟩ = some (.int .i64 (oc o))
 c1 : W.cell? ⟨g, k + 1, none⟩ = some (.int .i64 (on o))
 c2 : W.cell? ⟨g, k + 2, none⟩ = some (.string (ol o))
 c3 : W.cell? ⟨g, k + 3, none⟩ = some (.string (oh o))
theorem C4.chg {S : Nat → Prop} {W W' : World} {g k : Nat} {o : Option PV} (h : C4 W g k o) (hc : Chg S W W') (hS : ¬ S g) : C4 W' g k o :=
 ⟨hc.cell h.c0 hS, hc.cell h.c1 hS, hc.cell h.c2 hS, hc.cell h.c3 hS⟩
structure SM (W : World) (q L P N T D : Nat) : Prop where
 c0 : W.cell? ⟨q, 0, none⟩ = some (.int .i64 (L : Int))
 c1 : W.cell? ⟨q, 1, none⟩ = some (.int .i64 (P : Int))
 c2 : W.cell? ⟨q, 2, none⟩ = some (.slice (some ⟨T, 0, none⟩) N N)
 c3 : W.cell? ⟨q, 3, none⟩ = some (.slice (some ⟨D, 0, none⟩) N N)
 tab : ∃ (y : Nat → Option PV) (dn : Nat → Bool), (∀ i, i < N → C4 W T (i * 4) (y i)) ∧ (∀ i, i < N → W.cell? ⟨D, i, none⟩ = some (.bool (dn i))) ∧ (∀ a b, a ≤ L → b ≤ L → dn (a * (L + 1) + b) = true → y (a * (L + 1) + b) = sR L P a b)
 ft : ∀ j, W.frozen? ⟨T, j, none⟩ = false
 fd : ∀ j, W.frozen? ⟨D, j, none⟩ = false
 hN : N = (L + 1) * (L + 1)
 n1 : T ≠ D
 n2 : T ≠ q
 n3 : D ≠ q
def S2 (T D : Nat) : Nat → Prop := fun k => k = T ∨ k = D
theorem SM.lt {W : World} {q L P N T D : Nat} (h : SM W q L P N T D) : T < W.heap.size ∧ D < W.heap.size ∧ q < W.heap.size := by
 obtain ⟨y, dn, h1, h2, h3⟩ := h.tab
 have hp : 0 < N := by rw [h.hN]; exact Nat.mul_pos (Nat.succ_pos _) (Nat.succ_pos _)
 exact ⟨block_lt_of_cell (h1 0 hp).c0, block_lt_of_cell (h2 0 hp), block_lt_of_cell h.c0⟩
theorem SM.chg {S : Nat → Prop} {W W' : World} {q L P N T D : Nat} (h : SM W q L P N T D) (hc : Chg S W W') (hS : ∀ k, S k → k ≠ q ∧ k ≠ T ∧ k ≠ D) : SM W' q L P N T D := by
 obtain ⟨y, dn, h1, h2, h3⟩ := h.tab
 have sq : ¬ S q := fun e => (hS _ e).1 rfl
 have sT : ¬ S T := fun e => (hS _ e).2.1 rfl
 have sD : ¬ S D := fun e => (hS _ e).2.2 rfl
 have hl := h.lt
 exact ⟨hc.cell h.c0 sq, hc.cell h.c1 sq, hc.cell h.c2 sq, hc.cell h.c3 sq, ⟨y, dn, fun i hi => (h1 i hi).chg hc sT, fun i hi => hc.cell (h2 i hi) sD, h3⟩, fun j => by rw [chg_frozen hc hl.1 sT]; exact h.ft j, fun j => by rw [chg_frozen hc hl.2.1 sD]; exact h.fd j, h.hN, h.n1, h.n2, h.n3⟩
theorem SM.ext {W W' : World} {q L P N T D : Nat} (h : SM W q L P N T D) (hb : Below W.heap.size W W') : SM W' q L P N T D := h.chg (S := fun _ => False) (Chg.of_below hb _) (fun _ e => e.elim)
theorem at_inj {L a b a' b' : Nat} (hb : b ≤ L) (hb' : b' ≤ L) (h : a * (L + 1) + b = a' * (L + 1) + b') : a = a' ∧ b = b' := by
 have h1 : (a * (L + 1) + b) % (L + 1) = b := by rw [Nat.add_comm, Nat.add_mul_mod_self_right]; exact Nat.mod_eq_of_lt (by omega)
 have h2 : (a' * (L + 1) + b') % (L + 1) = b' := by rw [Nat.add_comm, Nat.add_mul_mod_self_right]; exact Nat.mod_eq_of_lt (by omega)
 have hbb : b = b' := by rw [← h1, ← h2, h]
 subst hbb
 exact ⟨Nat.eq_of_mul_eq_mul_right (Nat.succ_pos L) (Nat.add_right_cancel h), rfl⟩
theorem at_lt {L a b : Nat} (ha : a ≤ L) (hb : b ≤ L) : a * (L + 1) + b < (L + 1) * (L + 1) := by
 have h1 : a * (L + 1) ≤ L * (L + 1) := Nat.mul_le_mul_right _ ha
 have h2 : (L + 1) * (L + 1) = L * (L + 1) + (L + 1) := by rw [Nat.succ_mul]
 omega
def putT (W : World) (T k : Nat) (o : Option PV) : World := (((W.setCell ⟨T, k, none⟩ (.int .i64 (oc o))).setCell ⟨T, k + 1, none⟩ (.int .i64 (on o))).setCell ⟨T, k + 2, none⟩ (.string (ol o))).setCell ⟨T, k + 3, none⟩ (.string (oh o))
theorem putT_chg (W : World) (T k : Nat) (o : Option PV) : Chg (fun j => j = T) W (putT W T k o) :=
 ((((Chg.setCell (S := fun j => j = T) _ (p := ⟨T, k, none⟩) rfl _).trans (Chg.setCell (S := fun j => j = T) _ (p := ⟨T, k + 1, none⟩) rfl _)).trans (Chg.setCell (S := fun j => j = T) _ (p := ⟨T, k + 2, none⟩) rfl _)).trans (Chg.setCell (S := fun j => j = T) _ (p := ⟨T, k + 3, none⟩) rfl _))
theorem putT_frozen (W : World) (T k : Nat) (o : Option PV) (p : Addr) : (putT W T k o).frozen? p = W.frozen? p := by unfold putT; simp [World.frozen?_setCell]
theorem putT_same {W : World} {T k : Nat} {u : Option PV} (h : C4 W T k u) (o : Option PV) : C4 (putT W T k o) T k o := by
 obtain ⟨c0, c1, c2, c3⟩ := h
 unfold putT
 exact ⟨by simp [go_sem, c0], by simp [go_sem, c1], by simp [go_sem, c2], by simp [go_sem, c3]⟩
theorem putT_other {W : World} {T k j : Nat} {v : Value} (h : W.cell? ⟨T, j, none⟩ = some v) (o : Option PV) (hj : j < k ∨ k + 4 ≤ j) : (putT W T k o).cell? ⟨T, j, none⟩ = some v := by
 have n0 : (⟨T, k, none⟩ : Addr) ≠ ⟨T, j, none⟩ := fun e => by injection e with _ e2; omega
 have n1 : (⟨T, k + 1, none⟩ : Addr) ≠ ⟨T, j, none⟩ := fun e => by injection e with _ e2; omega
 have n2 : (⟨T, k + 2, none⟩ : Addr) ≠ ⟨T, j, none⟩ := fun e => by injection e with _ e2; omega
 have n3 : (⟨T, k + 3, none⟩ : Addr) ≠ ⟨T, j, none⟩ := fun e => by injection e with _ e2; omega
 unfold putT
 rw [World.cell?_setCell_other _ _ _ _ n3, World.cell?_setCell_other _ _ _ _ n2, World.cell?_setCell_other _ _ _ _ n1, World.cell?_setCell_other _ _ _ _ n0]
 exact h
theorem SM.put {W : World} {q L P N T D : Nat} (h : SM W q L P N T D) {a b : Nat} (ha : a ≤ L) (hb : b ≤ L) :
   SM (putT (W.setCell ⟨D, a * (L + 1) + b, none⟩ (.bool true)) T ((a * (L + 1) + b) * 4) (sR L P a b)) q L P N T D := by
 obtain ⟨y, dn, h1, h2, h3⟩ := h.tab
 have hm : a * (L + 1) + b < N := by rw [h.hN]; exact at_lt ha hb
 have hinj : ∀ a' b', a' ≤ L → b' ≤ L → a' * (L + 1) + b' = a * (L + 1) + b → a' = a ∧ b' = b := fun a' b' _ hb' e => at_inj hb' hb e
 obtain ⟨m, hmm⟩ : ∃ m, a * (L + 1) + b = m := ⟨_, rfl⟩
 rw [hmm] at hm hinj ⊢
 have hcD : Chg (fun k => k = D) W (W.setCell ⟨D, m, none⟩ (.bool true)) := Chg.setCell (S := fun k => k = D) _ (p := ⟨D, m, none⟩) rfl _
 have hcT := putT_chg (W.setCell ⟨D, m, none⟩ (.bool true)) T (m * 4) (sR L P a b)
 have nTD := h.n1
 have nTq := h.n2
 have nDq := h.n3
 have kq : ∀ {j v}, W.cell? ⟨q, j, none⟩ = some v → (putT (W.setCell ⟨D, m, none⟩ (.bool true)) T (m * 4) (sR L P a b)).cell? ⟨q, j, none⟩ = some v := fun hv => hcT.cell (hcD.cell hv (fun e => nDq e.symm)) (fun e => nTq e.symm)
 have t1 : ∀ i, i < N → C4 (W.setCell ⟨D, m, none⟩ (.bool true)) T (i * 4) (y i) := fun i hi => (h1 i hi).chg hcD (fun e => nTD e)
 refine ⟨kq h.c0, kq h.c1, kq h.c2, kq h.c3, ⟨fun i => if i = m then sR L P a b else y i, fun i => if i = m then true else dn i, fun i hi => ?_, fun i hi => ?_, fun a' b' ha' hb' hd => ?_⟩, fun j => ?_, fun j => ?_, h.hN, h.n1, h.n2, h.n3⟩
 · by_cases e : i = m
   · subst e
     simp only [if_true]
     exact putT_same (t1 i hi) _
   · simp only [if_neg e]
     obtain ⟨c0, c1, c2, c3⟩ := t1 i hi
     exact ⟨putT_other c0 _ (by omega), putT_other c1 _ (by omega), putT_other c2 _ (by omega), putT_other c3 _ (by omega)⟩
 · refine hcT.cell ?_ (fun e => nTD e.symm)
   by_cases e : i = m
   · subst e
     simp only [if_true]
     exact World.cell?_setCell_same _ _ _ (h2 i hi)
   · simp only [if_neg e]
     exact (World.cell?_setCell_other _ _ _ _ (fun e2 => by injection e2 with _ e3; omega)).trans (h2 i hi)
 · by_cases e : a' * (L + 1) + b' = m
   · obtain ⟨rfl, rfl⟩ := hinj a' b' ha' hb' e
     simp only [if_pos e]
   · simp only [if_neg e] at hd ⊢
     exact h3 a' b' ha' hb' hd
 · rw [putT_frozen, World.frozen?_setCell]; exact h.ft j
 · rw [putT_frozen, World.frozen?_setCell]; exact h.fd j
structure O4 (W : World) (g : Nat) (o : Option PV) : Prop where
 cs : C4 W g 0 o
 gf : ∀ j, W.frozen? ⟨g, j, none⟩ = false
theorem O4.lt {W : World} {g : Nat} {o : Option PV} (h : O4 W g o) : g < W.heap.size := block_lt_of_cell h.cs.c0
theorem O4.chg {S : Nat → Prop} {W W' : World} {g : Nat} {o : Option PV} (h : O4 W g o) (hc : Chg S W W') (hS : ¬ S g) : O4 W' g o :=
 ⟨h.cs.chg hc hS, fun j => by rw [chg_frozen hc h.lt hS]; exact h.gf j⟩
theorem O4.ext {W W' : World} {g : Nat} {o : Option PV} (h : O4 W g o) (hb : Below W.heap.size W W') : O4 W' g o := h.chg (S := fun _ => False) (Chg.of_below hb _) (fun e => e)
theorem O4.new (W : World) (o : Option PV) (ty : TypeId) : O4 (W.alloc (.cells #[.int .i64 (oc o), .int .i64 (on o), .string (ol o), .string (oh o)] ty)) W.heap.size o :=
 ⟨⟨by simp [go_sem], by simp [go_sem], by simp [go_sem], by simp [go_sem]⟩, fun j => by simp [go_sem]⟩
theorem O4.put {W : World} {g : Nat} {u : Option PV} (h : O4 W g u) (o : Option PV) : O4 (putT W g 0 o) g o := ⟨putT_same h.cs o, fun j => by rw [putT_frozen]; exact h.gf j⟩
structure FS (w W : World) (q L P N T D r : Nat) : Prop where
 mem : SM W q L P N T D
 chg : Chg (S2 T D) w W
 rs : O4 W r (some PV.zero)
 rge : w.heap.size ≤ r
theorem FS.chg' {S : Nat → Prop} {w W W' : World} {q L P N T D r : Nat} (h : FS w W q L P N T D r) (hl : T < w.heap.size ∧ D < w.heap.size ∧ q < w.heap.size) (hc : Chg S W W') (hS : ∀ k, S k → w.heap.size ≤ k ∧ k ≠ r) : FS w W' q L P N T D r :=
 ⟨h.mem.chg hc (fun k hk => by have := (hS k hk).1; omega), h.chg.more hc (fun k hk => .inr (hS k hk).1), h.rs.chg hc (fun e => (hS _ e).2 rfl), h.rge⟩
theorem FS.ext {w W W' : World} {q L P N T D r : Nat} (h : FS w W q L P N T D r) (hb : Below W.heap.size W W') : FS w W' q L P N T D r :=
 ⟨h.mem.ext hb, h.chg.trans (Chg.of_below hb _), h.rs.ext hb, h.rge⟩
theorem FS.turn {w W W' : World} {q L P N T D r : Nat} (h : FS w W q L P N T D r) (hl : T < w.heap.size ∧ D < w.heap.size ∧ q < w.heap.size) (hm : SM W' q L P N T D) (hc : Chg (S2 T D) W W') : FS w W' q L P N T D r :=
 ⟨hm, h.chg.trans hc, h.rs.chg hc (by have := h.rge; unfold S2; omega), h.rge⟩
structure FR (w W : World) (q L P N T D r g : Nat) (acc : Option PV) : Prop where
 fs : FS w W q L P N T D r
 best : O4 W g acc
 gge : w.heap.size ≤ g
 gr : g ≠ r
theorem FR.ext {w W W' : World} {q L P N T D r g : Nat} {acc : Option PV} (h : FR w W q L P N T D r g acc) (hb : Below W.heap.size W W') : FR w W' q L P N T D r g acc :=
 ⟨h.fs.ext hb, h.best.ext hb, h.gge, h.gr⟩
theorem FR.turn {w W W' : World} {q L P N T D r g : Nat} {acc : Option PV} (h : FR w W q L P N T D r g acc) (hl : T < w.heap.size ∧ D < w.heap.size ∧ q < w.heap.size) (hm : SM W' q L P N T D) (hc : Chg (S2 T D) W W') : FR w W' q L P N T D r g acc :=
 ⟨h.fs.turn hl hm hc, h.best.chg hc (by have := h.gge; unfold S2; omega), h.gge, h.gr⟩
theorem FR.far {S : Nat → Prop} {w W W' : World} {q L P N T D r g : Nat} {acc : Option PV} (h : FR w W q L P N T D r g acc) (hl : T < w.heap.size ∧ D < w.heap.size ∧ q < w.heap.size) (hc : Chg S W W') (hS : ∀ k, S k → w.heap.size ≤ k ∧ k ≠ r ∧ k ≠ g) : FR w W' q L P N T D r g acc :=
 ⟨h.fs.chg' hl hc (fun k hk => ⟨(hS k hk).1, (hS k hk).2.1⟩), h.best.chg hc (fun e => (hS _ e).2.2 rfl), h.gge, h.gr⟩
theorem FR.put {w W : World} {q L P N T D r g : Nat} {acc : Option PV} (h : FR w W q L P N T D r g acc) (hl : T < w.heap.size ∧ D < w.heap.size ∧ q < w.heap.size) (o : Option PV) : FR w (putT W g 0 o) q L P N T D r g o :=
 ⟨h.fs.chg' hl (putT_chg W g 0 o) (fun k hk => by subst hk; exact ⟨h.gge, h.gr⟩), h.best.put o, h.gge, h.gr⟩
def BestP (L P N a b q T D : Nat) (w : World) : Ending → World → Prop := fun e w' =>
  e = .returned (OVv (sR L P a b)) ∧ SM w' q L P N T D ∧ Chg (S2 T D) w w'
structure FE2 (w W : World) (q L P N T D r : Nat) (o : Option PV) : Prop where
 mem : SM W q L P N T D
 chg : Chg (S2 T D) w W
 u : C4 W r 0 o
theorem FS.fin {w W : World} {q L P N T D r : Nat} (h : FS w W q L P N T D r) (hl : T < w.heap.size ∧ D < w.heap.size ∧ q < w.heap.size) (o : Option PV) : FE2 w (putT W r 0 o) q L P N T D r o :=
 ⟨h.mem.chg (putT_chg W r 0 o) (fun k hk => by subst hk; have := h.rge; omega), h.chg.more (putT_chg W r 0 o) (fun k hk => .inr (by subst hk; exact h.rge)), putT_same h.rs.cs o⟩
end Go.Proofs.YtfgopboddkhckaaGreatDoor
