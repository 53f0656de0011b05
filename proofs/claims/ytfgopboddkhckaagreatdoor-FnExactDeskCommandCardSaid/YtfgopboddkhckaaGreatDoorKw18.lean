/-
  Parts of the proof: Bnd5, Bnd6.
-/
import Derived.Test.YtfgopboddkhckaaGreatDoorKw17
namespace Go.Proofs.YtfgopboddkhckaaGreatDoor
open Go.ChangeShapes Go.WideShapes Go.ChangeAt Go.RowKit Go.Sort Go.Joins
set_option linter.unusedVariables false
set_option maxRecDepth 100000
theorem OStr.opn {w : World} {base : Nat} {A : Option Addr} {n c : Nat} {l : List ByteArray} (h : OStr w base (.slice A n c) l) (hl : 0 < l.length) : ∃ g, A = some ⟨g, 0, none⟩ ∧ base ≤ g ∧ n = l.length ∧ ∀ k, k < l.length → w.cell? ⟨g, k, none⟩ = some (.string (gd l k)) := by
 have h1 := h
 rcases h1.2 with ⟨e, h0⟩ | ⟨g, cap, cur, e, hg, hh, hn, hm, hs, ht⟩
 · omega
 · injection e with e1 e2 e3
   subst e1 e2 e3
   obtain ⟨ad, ha, _, hc⟩ := h.rd.at hl
   injection ha with ha
   subst ha
   refine ⟨g, rfl, hg, rfl, fun k hk => ?_⟩
   have := hc k hk
   have e1 : (⟨g, 0, none⟩ : Addr).add k = ⟨g, k, none⟩ := by simp only [Addr.add, Nat.zero_add]; split <;> simp_all
   rwa [e1] at this
def coW (s : ByteArray) : CO := if (spb 43 s).length = 2 then ⟨gd (spb 43 s) 0, gd (spb 43 s) 1⟩ else ⟨⟨#[]⟩, gd (spb 43 s) 0⟩
def wG (s : ByteArray) : Bool := decide (1 ≤ (spb 43 s).length) && decide ((spb 43 s).length ≤ 2) && onl pcC (coW s).lead (coW s).lead.size && onl whC (coW s).cyc (coW s).cyc.size && decide ((coW s).cyc.size ≠ 0) && (decide ((spb 43 s).length = 1) || decide ((coW s).lead.size ≠ 0)) && decide ((coW s).lead.size ≤ 6) && decide ((coW s).cyc.size ≤ 8) && decide (s.size ≤ 1000)
set_option maxHeartbeats 3200000 in
theorem spec_word1 (s cyc : ByteArray) (w : World) (hps : spb 43 s = [cyc]) (g4 : onl whC cyc cyc.size = true) (g5 : cyc.size ≠ 0) (g8 : cyc.size ≤ 8) (g9 : s.size ≤ 1000) :
   Calls Tryz.prog 222 #[.string s] w (Ret (.tuple #[.agg #[.string ⟨#[]⟩, .string cyc], .int .i64 0]) w) := by
 have g7 : (⟨#[]⟩ : ByteArray).size ≤ 6 := Nat.zero_le _
 have g3 : onl pcC (⟨#[]⟩ : ByteArray) (⟨#[]⟩ : ByteArray).size = true := rfl
 have hem := emptS cyc
 rw [decide_eq_false g5] at hem
 have HC := Lib.hid (fun w => spec_Split s (by omega) 43 43 rfl w)
 rw [hps] at HC
 have HP := Lib.hid (fun w => spec_pieces (⟨#[]⟩ : ByteArray) (by unfold maxLen; omega) w)
 have HQ := Lib.hid (fun w => spec_plain cyc (by unfold maxLen; omega) w)
 rw [g3] at HP
 rw [g4] at HQ
 clear g3 g4 g9 hps
 go_enter Tryz.func222, Tryz.ntmps222
 go_wp2_with fail
 refine (show Calls _ _ _ _ _ from HC.out _).mono ?_
 rintro e w1 ⟨A, cp, rfl, hO, hb⟩
 obtain ⟨g, rfl, hg, _, hc⟩ := hO.opn (by simp)
 have r0 := cell_keep (p := ⟨w.heap.size, 0, none⟩) (v := .string ⟨#[]⟩) (by simp [go_sem]) hb
 have r1 := cell_keep (p := ⟨w.heap.size, 1, none⟩) (v := .string ⟨#[]⟩) (by simp [go_sem]) hb
 have rz : ∀ j, w1.frozen? ⟨w.heap.size, j, none⟩ = false := fun j => by rw [(bcell hb).2 _ _ (by simp)]; simp [go_sem]
 have rl : w.heap.size < w1.heap.size := by have := hb.size; simp at this; omega
 have HB := Lib.hid (ext_trans (ext_alloc1 _ _) hb)
 clear hb hO
 have hc0 : w1.cell? ⟨g, 0, none⟩ = some (.string cyc) := hc 0 (by simp)
 clear hc
 go_wp2_with fail
 refine (show Calls _ _ _ _ _ from HP.out _).mono ?_
 rintro e w2 ⟨rfl, rfl⟩
 go_wp2_with fail
 refine (show Calls _ _ _ _ _ from HQ.out _).mono ?_
 rintro e w2 ⟨rfl, rfl⟩
 go_wp2_with fail
 have u0 : (((w1.setCell ⟨w.heap.size, 0, none⟩ (.string (⟨#[]⟩ : ByteArray))).setCell ⟨w.heap.size, 1, none⟩ (.string cyc)).alloc (.cells #[.string (⟨#[]⟩ : ByteArray), .string cyc] 102)).cell? ⟨w.heap.size, 0, none⟩ = some (.string (⟨#[]⟩ : ByteArray)) := cell_keep (by simp [go_sem, r0]) (ext_alloc1 _ _)
 have u1 : (((w1.setCell ⟨w.heap.size, 0, none⟩ (.string (⟨#[]⟩ : ByteArray))).setCell ⟨w.heap.size, 1, none⟩ (.string cyc)).alloc (.cells #[.string (⟨#[]⟩ : ByteArray), .string cyc] 102)).cell? ⟨w.heap.size, 1, none⟩ = some (.string cyc) := cell_keep (by simp [go_sem, r1]) (ext_alloc1 _ _)
 refine bodyPost_ret (v := .tuple #[.agg #[.string (⟨#[]⟩ : ByteArray), .string cyc], .int .i64 0]) (by simp [results, Tryz.results222, go_sem, u0, u1]) rfl ⟨rfl, ?_⟩
 exact ext_alloc (ext_set (ext_set HB.out (Nat.le_refl _) _) (Nat.le_refl _) _) _
set_option maxHeartbeats 3200000 in
theorem spec_word2 (s lead cyc : ByteArray) (w : World) (hps : spb 43 s = [lead, cyc]) (g3 : onl pcC lead lead.size = true) (g4 : onl whC cyc cyc.size = true) (g5 : cyc.size ≠ 0) (g6 : lead.size ≠ 0) (g7 : lead.size ≤ 6) (g8 : cyc.size ≤ 8) (g9 : s.size ≤ 1000) :
   Calls Tryz.prog 222 #[.string s] w (Ret (.tuple #[.agg #[.string lead, .string cyc], .int .i64 0]) w) := by
 have hem := emptS cyc
 rw [decide_eq_false g5] at hem
 have hem2 := emptS lead
 rw [decide_eq_false g6] at hem2
 have HC := Lib.hid (fun w => spec_Split s (by omega) 43 43 rfl w)
 rw [hps] at HC
 have HP := Lib.hid (fun w => spec_pieces lead (by unfold maxLen; omega) w)
 have HQ := Lib.hid (fun w => spec_plain cyc (by unfold maxLen; omega) w)
 rw [g3] at HP
 rw [g4] at HQ
 clear g3 g4 g9 hps
 go_enter Tryz.func222, Tryz.ntmps222
 go_wp2_with fail
 refine (show Calls _ _ _ _ _ from HC.out _).mono ?_
 rintro e w1 ⟨A, cp, rfl, hO, hb⟩
 obtain ⟨g, rfl, hg, _, hc⟩ := hO.opn (by simp)
 have r0 := cell_keep (p := ⟨w.heap.size, 0, none⟩) (v := .string ⟨#[]⟩) (by simp [go_sem]) hb
 have r1 := cell_keep (p := ⟨w.heap.size, 1, none⟩) (v := .string ⟨#[]⟩) (by simp [go_sem]) hb
 have rz : ∀ j, w1.frozen? ⟨w.heap.size, j, none⟩ = false := fun j => by rw [(bcell hb).2 _ _ (by simp)]; simp [go_sem]
 have rl : w.heap.size < w1.heap.size := by have := hb.size; simp at this; omega
 have HB := Lib.hid (ext_trans (ext_alloc1 _ _) hb)
 clear hb hO
 have hc0 : w1.cell? ⟨g, 0, none⟩ = some (.string lead) := hc 0 (by simp)
 have hc1 : w1.cell? ⟨g, 1, none⟩ = some (.string cyc) := hc 1 (by simp)
 clear hc
 have hgl := block_lt_of_cell hc0
 have hgs : g ≠ w1.heap.size := Nat.ne_of_lt hgl
 go_wp2_with fail
 refine (show Calls _ _ _ _ _ from HP.out _).mono ?_
 rintro e w2 ⟨rfl, rfl⟩
 go_wp2_with fail
 refine (show Calls _ _ _ _ _ from HQ.out _).mono ?_
 rintro e w2 ⟨rfl, rfl⟩
 go_wp2_with fail
 have u0 : (((w1.setCell ⟨w.heap.size, 0, none⟩ (.string lead)).setCell ⟨w.heap.size, 1, none⟩ (.string cyc)).alloc (.cells #[.string lead, .string cyc] 102)).cell? ⟨w.heap.size, 0, none⟩ = some (.string lead) := cell_keep (by simp [go_sem, r0]) (ext_alloc1 _ _)
 have u1 : (((w1.setCell ⟨w.heap.size, 0, none⟩ (.string lead)).setCell ⟨w.heap.size, 1, none⟩ (.string cyc)).alloc (.cells #[.string lead, .string cyc] 102)).cell? ⟨w.heap.size, 1, none⟩ = some (.string cyc) := cell_keep (by simp [go_sem, r1]) (ext_alloc1 _ _)
 refine bodyPost_ret (v := .tuple #[.agg #[.string lead, .string cyc], .int .i64 0]) (by simp [results, Tryz.results222, go_sem, u0, u1]) rfl ⟨rfl, ?_⟩
 exact ext_alloc (ext_set (ext_set HB.out (Nat.le_refl _) _) (Nat.le_refl _) _) _
theorem spec_Word (s : ByteArray) (w : World) (hg : wG s = true) :
   Calls Tryz.prog 222 #[.string s] w (Ret (.tuple #[.agg #[.string (coW s).lead, .string (coW s).cyc], .int .i64 0]) w) := by
 unfold wG at hg
 simp only [Bool.and_eq_true, Bool.or_eq_true, decide_eq_true_eq] at hg
 obtain ⟨⟨⟨⟨⟨⟨⟨⟨g1, g2⟩, g3⟩, g4⟩, g5⟩, g6⟩, g7⟩, g8⟩, g9⟩ := hg
 match hp : spb 43 s, g1, g2 with
 | [c], _, _ =>
   have e : coW s = ⟨⟨#[]⟩, c⟩ := by unfold coW; rw [hp, if_neg (by simp)]; rfl
   rw [e] at g3 g4 g5 g7 g8 ⊢
   exact spec_word1 s c w hp g4 g5 g8 g9
 | [a, c], _, _ =>
   have e : coW s = ⟨a, c⟩ := by unfold coW; rw [hp, if_pos (by simp)]; rfl
   rw [e] at g3 g4 g5 g6 g7 g8 ⊢
   rw [hp] at g6
   exact spec_word2 s a c w hp g3 g4 g5 (by simpa using g6) g7 g8 g9
theorem wpList_append_co {w0 : World} {ops : Array Oper} {rest : List Oper} {o : Oper} {a : Act} {Q : Exit → Act → World → Prop} (hgd : o.guard = none) (s x : Operand)
   (ho : o.op = .call { callee := .builtin .append, args := #[s, x], argTypes := #[34, 34] })
   (H : Nat) (hH : w0.heap.size = H) (base : Nat) (v : Value) (l : List CO) (n : CO) (hs : a.eval s = v) (hx : a.eval x = .slice (some ⟨H, 0, none⟩) 1 1) (hO : OCOS w0 base v l)
   (hl : l.length ≤ 1000000) (hbase : base ≤ w0.heap.size)
   (h : ∀ g cap w', w'.ownsRow base 102 2 (.slice (some ⟨g, 0, none⟩) (l.length + 1) cap) (l.length + 1) (l.flatMap cCO ++ [.string n.lead, .string n.cyc]) → (w0.alloc (.cells #[.string n.lead, .string n.cyc] 102)).grownBy w' v.ownBlock → (v.ownBlock = some g ∨ g = w0.heap.size + 1) → wpList Tryz.prog ops Q rest (a.put o.dst (.slice (some ⟨g, 0, none⟩) (l.length + 1) cap)) w') :
   wpList Tryz.prog ops Q (o :: rest) a (w0.alloc (.cells #[.string n.lead, .string n.cyc] 102)) := by
 subst hH
 obtain ⟨i0, hi, hz0, hz1, hz2⟩ := info_parts info_CO
 refine wpList_append_lies _ hgd s x _ ho base 102 i0 _ 2 32 Tryz.underlying34 hi hz0 hz1 hz2 rfl (by omega) v l.length (l.flatMap cCO) hs (World.ownsRow.alloc hO _)
   ⟨w0.heap.size, 0, none⟩ 1 1 [.string n.lead, .string n.cyc] hx rfl (World.news_of_block (cs := #[.string n.lead, .string n.cyc]) (t := 102) (fr := (0, 0)) (heap_alloc_new w0 _)) (by simp [Value.oneCell']) (by omega) (by unfold maxLen; omega) (by omega) (by simp; omega) (w0.heap.size + 1) (by simp) ?_
 intro g cap w1 hown hgrow hat hlt
 exact h g cap w1 hown hgrow hat
def nW (s : ByteArray) : ByteArray := gd (spb 32 s) 0
def cW (s : ByteArray) : List CO := ((spb 32 s).drop 1).map coW
def gW (s : ByteArray) : Bool := decide (2 ≤ (spb 32 s).length) && decide ((spb 32 s).length ≤ 9) && isN (nW s) && ((spb 32 s).drop 1).all wG && decide (s.size ≤ 400)
set_option maxHeartbeats 3200000 in
theorem spec_Check (s : ByteArray) (hg : gW s = true) (w : World) :
   Calls Tryz.prog 174 #[.string s] w fun e w' => ∃ A c B, e = .returned (.tuple #[.agg #[.string (nW s), .slice A (cW s).length c], .slice B 0 0]) ∧ OCOS w' w.heap.size (.slice A (cW s).length c) (cW s) ∧ Below w.heap.size w w' := by
 unfold gW at hg
 simp only [Bool.and_eq_true, decide_eq_true_eq] at hg
 obtain ⟨⟨⟨⟨g1, g2⟩, g3⟩, g4⟩, g5⟩ := hg
 have HC := Lib.hid (fun w => spec_Split s (by omega) 32 32 rfl w)
 have HI := Lib.hid (fun w => spec_IsName (nW s) (by have := isN_size g3; unfold maxLen; omega) w)
 rw [g3] at HI
 have HX : Hid (∀ k, k + 1 < (spb 32 s).length → wG (gd (spb 32 s) (k + 1)) = true) := Lib.hid fun k hk => by
   refine List.all_eq_true.1 g4 _ ?_
   rw [gd_eq hk, List.mem_iff_getElem]
   exact ⟨k, by rw [List.length_drop]; omega, by rw [List.getElem_drop]; congr 1; omega⟩
 have HCI : Hid (cW s = ((spb 32 s).drop 1).map coW) := Lib.hid rfl
 have HCL : Hid ((cW s).length + 1 = (spb 32 s).length) := Lib.hid (by unfold cW; rw [List.length_map, List.length_drop]; omega)
 have HN : Hid (gd (spb 32 s) 0 = nW s) := Lib.hid rfl
 clear g3 g4 g5
 go_enter Tryz.func174, Tryz.ntmps174
 go_wp2_with fail
 refine (show Calls _ _ _ _ _ from HC.out _).mono ?_
 rintro e w1 ⟨A0, cp, rfl, hO, hb⟩
 obtain ⟨g, rfl, hgg, _, hcc⟩ := hO.opn (by omega)
 have HR := Lib.hid hcc
 have z0 := cell_keep (p := ⟨w.heap.size, 0, none⟩) (v := .string ⟨#[]⟩) (by simp [go_sem]) hb
 have z1 := cell_keep (p := ⟨w.heap.size, 1, none⟩) (v := .slice none 0 0) (by simp [go_sem]) hb
 have hz0 : ∀ j, w1.frozen? ⟨w.heap.size, j, none⟩ = false := fun j => by rw [(bcell hb).2 _ _ (by simp)]; simp [go_sem]
 have HB := Lib.hid (ext_trans (ext_alloc1 _ _) hb)
 have hsz := hb.size
 have hc0 := hcc 0 (by omega)
 rw [HN.out] at hc0
 have hgl := block_lt_of_cell hc0
 have hgl2 : g ≠ w1.heap.size := Nat.ne_of_lt hgl
 have hl1 : ((spb 32 s).length : Int) ≥ 1 := by omega
 have hl2 : ¬ ((spb 32 s).length : Int) = 1 := by omega
 clear hb hcc hO
 go_wp2_with fail
 refine (show Calls _ _ _ _ _ from HI.out _).mono ?_
 rintro e w2 ⟨rfl, rfl⟩
 have HBR := Lib.hid ((BR.new w1 w1 (ext_refl _) (nW s)).ext (ext_alloc1 _ (.cells #[] 249)))
 go_wp2_with fail
 generalize (w1.alloc (.cells #[.string (nW s), .slice none 0 0] 36)).alloc (.cells #[] 249) = wb at *
 obtain ⟨q, hq⟩ : ∃ q, w1.heap.size = q := ⟨_, rfl⟩
 rw [hq] at HBR
 have HQ := Lib.hid hq
 simp only [hq]
 clear hq hc0 hl2
 obtain ⟨m, hm⟩ : ∃ m, (cW s).length = m := ⟨_, rfl⟩
 have HM := Lib.hid hm
 have HSN : Hid ((spb 32 s).length = m + 1) := Lib.hid (by have := HCL.out; omega)
 have hm8 : m ≤ 8 := by have := HCL.out; omega
 clear hm
 generalize hn : (spb 32 s).length = n at *
 have HSL := Lib.hid hn
 clear hn g1 g2 hl1
 go_loopw [6, 7] (fun bd i wr => ∃ (k : Nat) (A : Option Addr) (c : Nat), k ≤ m ∧ bd = .slice (some ⟨q + 1, 0, none⟩) 0 0 ∧ i = .int .i64 ((k : Int) + 1) ∧ Hid (BR w1 wr q (nW s) A c ((cW s).take k))) (fun _ i _ => m + 1 - (intOf i).toNat)
 case atStart => exact ⟨0, none, 0, Nat.zero_le _, rfl, rfl, HBR⟩
 case round =>
   obtain ⟨k, A, c, hk, rfl, rfl, HR2⟩ := hrel
   have e1 : (0 : Int) ≤ k := by omega
   by_cases hlt : k < m
   · have e2 : (k : Int) < m := by omega
     have HTK : Hid ((cW s).take (k + 1) = (cW s).take k ++ [coW (gd (spb 32 s) (k + 1))]) := Lib.hid (by
       rw [take_gd (by have := HM.out; omega)]
       congr 2
       rw [gd_eq (by have := HM.out; omega), gd_eq (by have := HSN.out; have := HSL.out; omega)]
       simp only [HCI.out, List.getElem_map, List.getElem_drop]
       congr 2
       omega)
     have hkl : ((cW s).take k).length = k := by rw [List.length_take]; have := HM.out; omega
     have hwd := cell_keep (HR.out (k + 1) (by have := HSN.out; omega)) HR2.out.b
     have HWD := Lib.hid (fun w => spec_Word (gd (spb 32 s) (k + 1)) w (HX.out k (by have := HSN.out; omega)))
     obtain ⟨wd, hwd2⟩ : ∃ x, gd (spb 32 s) (k + 1) = x := ⟨_, rfl⟩
     rw [hwd2] at hwd HWD HTK
     obtain ⟨l, hl⟩ : ∃ l, (cW s).take k = l := ⟨_, rfl⟩
     rw [hl] at HR2 HTK hkl
     have hl9 : l.length ≤ 9 := by omega
     obtain ⟨co, hco⟩ : ∃ o, coW wd = o := ⟨_, rfl⟩
     rw [hco] at HWD HTK
     clear hwd2 hl hco hkl
     have b1 := HR2.out.h1
     have hf1 := HR2.out.fz 1
     have hkn : (k : Int) + 1 < n := by have := HSN.out; omega
     have e9 : ¬ (8 : Int) < (k : Int) + 1 := by omega
     go_wp2_with fail
     refine (show Calls _ _ _ _ _ from HWD.out _).mono ?_
     rintro e w3 ⟨rfl, hb3⟩
     have HR3 := Lib.hid ((HR2.out.ext hb3).ext (ext_alloc1 w3 (.cells #[.string co.lead, .string co.cyc] 102)))
     have hlt3 := HR3.out.lt
     have hlt4 : q < w3.heap.size := Nat.lt_of_lt_of_le HR2.out.lt hb3.size
     replace b1 := HR3.out.h1
     replace hf1 := HR3.out.fz 1
     replace b1 := cell_keep b1 (ext_refl _)
     have HB3 := Lib.hid (ext_trans hb3 (ext_alloc1 w3 (.cells #[.string co.lead, .string co.cyc] 102)))
     have hqn : q ≠ w3.heap.size := Nat.ne_of_lt hlt4
     have b9 : w3.cell? ⟨q, 1, none⟩ = some (.slice A l.length c) := (HR2.out.ext hb3).h1
     clear hb3
     go_wp2_with (at_builtin; refine wpList_append_co rfl _ _ rfl (w3.heap.size + 1) (by simp) (q + 1) (.slice A l.length c) l co rfl rfl HR3.out.own (by omega) (by simp; omega) ?_; intro gg cap w8 hown8 hgrow hat; (have y3 := (hgrow.cell_far ⟨q, 1, none⟩ (by simp; omega) (fun e => HR3.out.far q e.symm rfl)).trans (cell_keep HR3.out.h1 (ext_alloc1 _ _))); (have y4 := (hgrow.frozen_far ⟨q, 1, none⟩ (by simp; omega) (fun e => HR3.out.far q e.symm rfl)).trans (((ext_alloc1 _ _).frozen (p := ⟨q, 1, none⟩) hlt3).trans hf1)))
     have HBS := Lib.hid (HR3.out.step (w7 := (w3.alloc (.cells #[.string co.lead, .string co.cyc] 102)).alloc (.cells #[.string co.lead, .string co.cyc] 102)) (ext_alloc1 _ _) (co := co) hgrow (by simpa using hat) hown8)
     clear hgrow hat hown8 y3 y4
     generalize w8.setCell ⟨q, 1, none⟩ (.slice (some ⟨gg, 0, none⟩) (l.length + 1) cap) = w9 at *
     go_roundw
     case rel => exact ⟨k + 1, some ⟨gg, 0, none⟩, cap, by omega, rfl, by go_num, by rw [HTK.out]; exact HBS⟩
     case measure => simp [intOf]; omega
   · obtain rfl : k = m := by omega
     have e2 : ¬ (k : Int) + 1 < n := by have := HSN.out; omega
     have htk : (cW s).take k = cW s := by rw [List.take_of_length_le (by have := HM.out; omega)]
     rw [htk] at HR2
     clear htk
     have b0 := HR2.out.h0
     have b1 := HR2.out.h1
     have r0 := cell_keep z0 HR2.out.b
     have r1 := cell_keep z1 HR2.out.b
     have hlw : w.heap.size < wr.heap.size := by have := HR2.out.b.size; simp at hsz; omega
     have rf : ∀ j, wr.frozen? ⟨w.heap.size, j, none⟩ = false := fun j => by
       rw [(bcell HR2.out.b).2 _ _ (by simp at hsz; omega)]; exact hz0 j
     have hqw : w.heap.size < q := by have := HQ.out; simp at hsz; omega
     clear HX HN HCI HM HCL
     go_wp2_with fail
     refine bodyPost_ret (v := .tuple #[.agg #[.string (nW s), .slice A (cW s).length c], .slice (some ⟨q + 1, 0, none⟩) 0 0]) (by simp [results, Tryz.results174, go_sem, r0, r1]) rfl ⟨A, c, ⟨_, rfl⟩, ?_, ?_⟩
     · exact ((HR2.out.own.put (show w.heap.size < q + 1 by omega) 0 _).put (show w.heap.size < q + 1 by omega) 1 _).mono (by omega)
     · repeat (refine ext_set ?_ (by simp; try omega) _)
       exact ext_trans HB.out HR2.out.b
theorem libS0 : gW tL0 = true ∧ nW tL0 = nL0 ∧ cW tL0 = cL0 := by decide +kernel
theorem libS1 : gW tL1 = true ∧ nW tL1 = nL1 ∧ cW tL1 = cL1 := by decide +kernel
theorem libS2 : gW tL2 = true ∧ nW tL2 = nL2 ∧ cW tL2 = cL2 := by decide +kernel
theorem libS3 : gW tL3 = true ∧ nW tL3 = nL3 ∧ cW tL3 = cL3 := by decide +kernel
theorem libS4 : gW tL4 = true ∧ nW tL4 = nL4 ∧ cW tL4 = cL4 := by decide +kernel
theorem spec_ReadBond (s : ByteArray) (hg : gW s = true) (w : World) :
   Calls Tryz.prog 111 #[.string s] w fun e w' => ∃ A c, e = .returned (.tuple #[.agg #[.string (nW s), .slice A (cW s).length c], .bool true]) ∧ OCOS w' w.heap.size (.slice A (cW s).length c) (cW s) ∧ Below w.heap.size w w' := by
 have HC := Lib.hid (fun w => spec_Check s hg w)
 unfold gW at hg
 simp only [Bool.and_eq_true, decide_eq_true_eq] at hg
 have h4 : ¬ (400 : Int) < s.size := by omega
 clear hg
 go_enter Tryz.func111, Tryz.ntmps111
 go_wp2_with fail
 refine (show Calls _ _ _ _ _ from HC.out _).mono ?_
 rintro e w1 ⟨A, c, B, rfl, hO, hb⟩
 have z0 := cell_keep (p := ⟨w.heap.size, 0, none⟩) (v := .string ⟨#[]⟩) (by simp [go_sem]) hb
 have z1 := cell_keep (p := ⟨w.heap.size, 1, none⟩) (v := .slice none 0 0) (by simp [go_sem]) hb
 have hz0 : ∀ j, w1.frozen? ⟨w.heap.size, j, none⟩ = false := fun j => by rw [(bcell hb).2 _ _ (by simp)]; simp [go_sem]
 have HB := Lib.hid (ext_trans (ext_alloc1 _ _) hb)
 have hlt : w.heap.size < w1.heap.size := block_lt_of_cell z0
 have HO := Lib.hid (hO.mono (show w.heap.size + 1 ≤ _ by simp))
 clear hb hO
 go_wp2_with fail
 have u0 : (((w1.setCell ⟨w.heap.size, 0, none⟩ (.string (nW s))).setCell ⟨w.heap.size, 1, none⟩ (.slice A (cW s).length c)).alloc (.cells #[.string (nW s), .slice A (cW s).length c] 36)).cell? ⟨w.heap.size, 0, none⟩ = some (.string (nW s)) := cell_keep (by simp [go_sem, z0]) (ext_alloc1 _ _)
 have u1 : (((w1.setCell ⟨w.heap.size, 0, none⟩ (.string (nW s))).setCell ⟨w.heap.size, 1, none⟩ (.slice A (cW s).length c)).alloc (.cells #[.string (nW s), .slice A (cW s).length c] 36)).cell? ⟨w.heap.size, 1, none⟩ = some (.slice A (cW s).length c) := cell_keep (by simp [go_sem, z1]) (ext_alloc1 _ _)
 refine bodyPost_ret (v := .tuple #[.agg #[.string (nW s), .slice A (cW s).length c], .bool true]) (by simp [results, Tryz.results111, go_sem, u0, u1]) rfl ⟨A, c, rfl, ?_, ?_⟩
 · exact (((HO.out.put (Nat.lt_succ_self _) 0 _).put (Nat.lt_succ_self _) 1 _).ext (ext_alloc1 _ _)).mono (Nat.le_succ _)
 · exact ext_alloc (ext_set (ext_set HB.out (Nat.le_refl _) _) (Nat.le_refl _) _) _
structure LB (W : World) (L : Nat) : Prop where
 c0 : W.cell? ⟨L, 0, none⟩ = some (.string tL0)
 c1 : W.cell? ⟨L, 1, none⟩ = some (.string tL1)
 c2 : W.cell? ⟨L, 2, none⟩ = some (.string tL2)
 c3 : W.cell? ⟨L, 3, none⟩ = some (.string tL3)
 c4 : W.cell? ⟨L, 4, none⟩ = some (.string tL4)
theorem LB.ext {W W' : World} {L : Nat} (h : LB W L) (hb : Below W.heap.size W W') : LB W' L := ⟨cell_keep h.c0 hb, cell_keep h.c1 hb, cell_keep h.c2 hb, cell_keep h.c3 hb, cell_keep h.c4 hb⟩
theorem spec_Library (w : World) : Calls Tryz.prog 110 #[] w fun e w' => ∃ L, e = .returned (.slice (some ⟨L, 0, none⟩) 5 5) ∧ LB w' L ∧ Below w.heap.size w w' := by
 go_enter Tryz.func110, Tryz.ntmps110
 go_wp2_with fail
 go_ret
 refine ⟨w.heap.size, rfl, ⟨?_, ?_, ?_, ?_, ?_⟩, ext_alloc1 _ _⟩ <;> (simp [go_sem]; rfl)
theorem spec_ReadL (t n : ByteArray) (cs : List CO) (h : gW t = true ∧ nW t = n ∧ cW t = cs) (w : World) :
   Calls Tryz.prog 111 #[.string t] w fun e w' => ∃ A c, e = .returned (.tuple #[.agg #[.string n, .slice A cs.length c], .bool true]) ∧ OCOS w' w.heap.size (.slice A cs.length c) cs ∧ Below w.heap.size w w' := by
 obtain ⟨h1, rfl, rfl⟩ := h
 exact spec_ReadBond t h1 w
set_option maxHeartbeats 3200000 in
theorem spec_BondNamed (s : ByteArray) (w : World) :
   Calls Tryz.prog 55 #[.string s] w fun e w' => ∃ A c, e = .returned (.tuple #[.agg #[.string (bnN s), .slice A (bnC s).length c], .int .i64 (bnR s)]) ∧ OCOS w' w.heap.size (.slice A (bnC s).length c) (bnC s) ∧ Below w.heap.size w w' := by
 have HE : Hid (RE w (w.alloc (.cells #[.string ⟨#[]⟩, .slice none 0 0] 36)) w.heap.size) := Lib.hid ⟨ext_alloc1 _ _, Nat.le_refl _, by simp, by simp [go_sem], by simp [go_sem], fun j => by simp [go_sem]⟩
 go_enter Tryz.func55, Tryz.ntmps55
 go_wp2_with fail
 refine (spec_Library _).mono ?_
 rintro e w1 ⟨L, rfl, hL, hb⟩
 replace HE := Lib.hid (HE.out.ext hb)
 have HLB := Lib.hid hL
 clear hb hL
 go_wp2_with fail
 refine wp_loop_rounds 6 ?_
 rw [rounds_succ]
 have HL := Lib.hid (fun w => spec_ReadL tL0 nL0 cL0 libS0 w)
 have hlb := HLB.out.c0
 go_wp2_with fail
 refine (show Calls _ _ _ _ _ from HL.out _).mono ?_
 rintro e w1 ⟨A, c, rfl, hO, hb⟩
 have HO := Lib.hid (hO.mono (show w.heap.size + 1 ≤ _ from HE.out.lt))
 replace HE := Lib.hid (HE.out.ext hb)
 replace HLB := Lib.hid (HLB.out.ext hb)
 clear hb hO HL hlb
 by_cases hs : s = nL0
 · have HF : Hid (bnN nL0 = nL0 ∧ bnC nL0 = cL0 ∧ bnR nL0 = 0) := Lib.hid (by decide +kernel)
   subst hs
   have h0 := HE.out.h0
   have h1 := HE.out.h1
   have fz := HE.out.fz
   have hlt := HE.out.lt
   have HB := Lib.hid HE.out.b
   clear HE HLB
   go_wp2_with fail
   have u0 : (((w1.setCell ⟨w.heap.size, 0, none⟩ (.string nL0)).setCell ⟨w.heap.size, 1, none⟩ (.slice A (cL0).length c)).alloc (.cells #[.string nL0, .slice A (cL0).length c] 36)).cell? ⟨w.heap.size, 0, none⟩ = some (.string nL0) := cell_keep (by simp [go_sem, h0]) (ext_alloc1 _ _)
   have u1 : (((w1.setCell ⟨w.heap.size, 0, none⟩ (.string nL0)).setCell ⟨w.heap.size, 1, none⟩ (.slice A (cL0).length c)).alloc (.cells #[.string nL0, .slice A (cL0).length c] 36)).cell? ⟨w.heap.size, 1, none⟩ = some (.slice A (cL0).length c) := cell_keep (by simp [go_sem, h1]) (ext_alloc1 _ _)
   refine bodyPost_ret (v := .tuple #[.agg #[.string nL0, .slice A (cL0).length c], .int .i64 0]) (by simp [results, Tryz.results55, go_sem, u0, u1]) rfl ⟨A, c, by rw [HF.out.1, HF.out.2.1, HF.out.2.2], ?_, ?_⟩
   · rw [HF.out.2.1]
     exact (((HO.out.put (Nat.lt_succ_self _) 0 _).put (Nat.lt_succ_self _) 1 _).ext (ext_alloc1 _ _)).mono (Nat.le_succ _)
   · exact ext_alloc (ext_set (ext_set HB.out (Nat.le_refl _) _) (Nat.le_refl _) _) _
 have hst := str_ne hs
 have hst2 := ne_list hs
 have hst3 := str_ne (Ne.symm hs)
 have hst4 := ne_list (Ne.symm hs)
 go_wp2_with fail
 clear hst hst2 hst3 hst4 HO
 replace HE := Lib.hid (HE.out.ext (ext_alloc1 w1 (.cells #[.string nL0, .slice A (cL0).length c] 36)))
 replace HLB := Lib.hid (HLB.out.ext (ext_alloc1 w1 (.cells #[.string nL0, .slice A (cL0).length c] 36)))
 generalize w1.alloc (.cells #[.string nL0, .slice A (cL0).length c] 36) = wx0 at *
 have HN0 := Lib.hid hs
 clear hs
 rw [rounds_succ]
 have HL := Lib.hid (fun w => spec_ReadL tL1 nL1 cL1 libS1 w)
 have hlb := HLB.out.c1
 go_wp2_with fail
 refine (show Calls _ _ _ _ _ from HL.out _).mono ?_
 rintro e w1 ⟨A, c, rfl, hO, hb⟩
 have HO := Lib.hid (hO.mono (show w.heap.size + 1 ≤ _ from HE.out.lt))
 replace HE := Lib.hid (HE.out.ext hb)
 replace HLB := Lib.hid (HLB.out.ext hb)
 clear hb hO HL hlb
 by_cases hs : s = nL1
 · have HF : Hid (bnN nL1 = nL1 ∧ bnC nL1 = cL1 ∧ bnR nL1 = 0) := Lib.hid (by decide +kernel)
   subst hs
   have h0 := HE.out.h0
   have h1 := HE.out.h1
   have fz := HE.out.fz
   have hlt := HE.out.lt
   have HB := Lib.hid HE.out.b
   clear HE HLB
   go_wp2_with fail
   have u0 : (((w1.setCell ⟨w.heap.size, 0, none⟩ (.string nL1)).setCell ⟨w.heap.size, 1, none⟩ (.slice A (cL1).length c)).alloc (.cells #[.string nL1, .slice A (cL1).length c] 36)).cell? ⟨w.heap.size, 0, none⟩ = some (.string nL1) := cell_keep (by simp [go_sem, h0]) (ext_alloc1 _ _)
   have u1 : (((w1.setCell ⟨w.heap.size, 0, none⟩ (.string nL1)).setCell ⟨w.heap.size, 1, none⟩ (.slice A (cL1).length c)).alloc (.cells #[.string nL1, .slice A (cL1).length c] 36)).cell? ⟨w.heap.size, 1, none⟩ = some (.slice A (cL1).length c) := cell_keep (by simp [go_sem, h1]) (ext_alloc1 _ _)
   refine bodyPost_ret (v := .tuple #[.agg #[.string nL1, .slice A (cL1).length c], .int .i64 0]) (by simp [results, Tryz.results55, go_sem, u0, u1]) rfl ⟨A, c, by rw [HF.out.1, HF.out.2.1, HF.out.2.2], ?_, ?_⟩
   · rw [HF.out.2.1]
     exact (((HO.out.put (Nat.lt_succ_self _) 0 _).put (Nat.lt_succ_self _) 1 _).ext (ext_alloc1 _ _)).mono (Nat.le_succ _)
   · exact ext_alloc (ext_set (ext_set HB.out (Nat.le_refl _) _) (Nat.le_refl _) _) _
 have hst := str_ne hs
 have hst2 := ne_list hs
 have hst3 := str_ne (Ne.symm hs)
 have hst4 := ne_list (Ne.symm hs)
 go_wp2_with fail
 clear hst hst2 hst3 hst4 HO
 replace HE := Lib.hid (HE.out.ext (ext_alloc1 w1 (.cells #[.string nL1, .slice A (cL1).length c] 36)))
 replace HLB := Lib.hid (HLB.out.ext (ext_alloc1 w1 (.cells #[.string nL1, .slice A (cL1).length c] 36)))
 generalize w1.alloc (.cells #[.string nL1, .slice A (cL1).length c] 36) = wx1 at *
 have HN1 := Lib.hid hs
 clear hs
 rw [rounds_succ]
 have HL := Lib.hid (fun w => spec_ReadL tL2 nL2 cL2 libS2 w)
 have hlb := HLB.out.c2
 go_wp2_with fail
 refine (show Calls _ _ _ _ _ from HL.out _).mono ?_
 rintro e w1 ⟨A, c, rfl, hO, hb⟩
 have HO := Lib.hid (hO.mono (show w.heap.size + 1 ≤ _ from HE.out.lt))
 replace HE := Lib.hid (HE.out.ext hb)
 replace HLB := Lib.hid (HLB.out.ext hb)
 clear hb hO HL hlb
 by_cases hs : s = nL2
 · have HF : Hid (bnN nL2 = nL2 ∧ bnC nL2 = cL2 ∧ bnR nL2 = 0) := Lib.hid (by decide +kernel)
   subst hs
   have h0 := HE.out.h0
   have h1 := HE.out.h1
   have fz := HE.out.fz
   have hlt := HE.out.lt
   have HB := Lib.hid HE.out.b
   clear HE HLB
   go_wp2_with fail
   have u0 : (((w1.setCell ⟨w.heap.size, 0, none⟩ (.string nL2)).setCell ⟨w.heap.size, 1, none⟩ (.slice A (cL2).length c)).alloc (.cells #[.string nL2, .slice A (cL2).length c] 36)).cell? ⟨w.heap.size, 0, none⟩ = some (.string nL2) := cell_keep (by simp [go_sem, h0]) (ext_alloc1 _ _)
   have u1 : (((w1.setCell ⟨w.heap.size, 0, none⟩ (.string nL2)).setCell ⟨w.heap.size, 1, none⟩ (.slice A (cL2).length c)).alloc (.cells #[.string nL2, .slice A (cL2).length c] 36)).cell? ⟨w.heap.size, 1, none⟩ = some (.slice A (cL2).length c) := cell_keep (by simp [go_sem, h1]) (ext_alloc1 _ _)
   refine bodyPost_ret (v := .tuple #[.agg #[.string nL2, .slice A (cL2).length c], .int .i64 0]) (by simp [results, Tryz.results55, go_sem, u0, u1]) rfl ⟨A, c, by rw [HF.out.1, HF.out.2.1, HF.out.2.2], ?_, ?_⟩
   · rw [HF.out.2.1]
     exact (((HO.out.put (Nat.lt_succ_self _) 0 _).put (Nat.lt_succ_self _) 1 _).ext (ext_alloc1 _ _)).mono (Nat.le_succ _)
   · exact ext_alloc (ext_set (ext_set HB.out (Nat.le_refl _) _) (Nat.le_refl _) _) _
 have hst := str_ne hs
 have hst2 := ne_list hs
 have hst3 := str_ne (Ne.symm hs)
 have hst4 := ne_list (Ne.symm hs)
 go_wp2_with fail
 clear hst hst2 hst3 hst4 HO
 replace HE := Lib.hid (HE.out.ext (ext_alloc1 w1 (.cells #[.string nL2, .slice A (cL2).length c] 36)))
 replace HLB := Lib.hid (HLB.out.ext (ext_alloc1 w1 (.cells #[.string nL2, .slice A (cL2).length c] 36)))
 generalize w1.alloc (.cells #[.string nL2, .slice A (cL2).length c] 36) = wx2 at *
 have HN2 := Lib.hid hs
 clear hs
 rw [rounds_succ]
 have HL := Lib.hid (fun w => spec_ReadL tL3 nL3 cL3 libS3 w)
 have hlb := HLB.out.c3
 go_wp2_with fail
 refine (show Calls _ _ _ _ _ from HL.out _).mono ?_
 rintro e w1 ⟨A, c, rfl, hO, hb⟩
 have HO := Lib.hid (hO.mono (show w.heap.size + 1 ≤ _ from HE.out.lt))
 replace HE := Lib.hid (HE.out.ext hb)
 replace HLB := Lib.hid (HLB.out.ext hb)
 clear hb hO HL hlb
 by_cases hs : s = nL3
 · have HF : Hid (bnN nL3 = nL3 ∧ bnC nL3 = cL3 ∧ bnR nL3 = 0) := Lib.hid (by decide +kernel)
   subst hs
   have h0 := HE.out.h0
   have h1 := HE.out.h1
   have fz := HE.out.fz
   have hlt := HE.out.lt
   have HB := Lib.hid HE.out.b
   clear HE HLB
   go_wp2_with fail
   have u0 : (((w1.setCell ⟨w.heap.size, 0, none⟩ (.string nL3)).setCell ⟨w.heap.size, 1, none⟩ (.slice A (cL3).length c)).alloc (.cells #[.string nL3, .slice A (cL3).length c] 36)).cell? ⟨w.heap.size, 0, none⟩ = some (.string nL3) := cell_keep (by simp [go_sem, h0]) (ext_alloc1 _ _)
   have u1 : (((w1.setCell ⟨w.heap.size, 0, none⟩ (.string nL3)).setCell ⟨w.heap.size, 1, none⟩ (.slice A (cL3).length c)).alloc (.cells #[.string nL3, .slice A (cL3).length c] 36)).cell? ⟨w.heap.size, 1, none⟩ = some (.slice A (cL3).length c) := cell_keep (by simp [go_sem, h1]) (ext_alloc1 _ _)
   refine bodyPost_ret (v := .tuple #[.agg #[.string nL3, .slice A (cL3).length c], .int .i64 0]) (by simp [results, Tryz.results55, go_sem, u0, u1]) rfl ⟨A, c, by rw [HF.out.1, HF.out.2.1, HF.out.2.2], ?_, ?_⟩
   · rw [HF.out.2.1]
     exact (((HO.out.put (Nat.lt_succ_self _) 0 _).put (Nat.lt_succ_self _) 1 _).ext (ext_alloc1 _ _)).mono (Nat.le_succ _)
   · exact ext_alloc (ext_set (ext_set HB.out (Nat.le_refl _) _) (Nat.le_refl _) _) _
 have hst := str_ne hs
 have hst2 := ne_list hs
 have hst3 := str_ne (Ne.symm hs)
 have hst4 := ne_list (Ne.symm hs)
 go_wp2_with fail
 clear hst hst2 hst3 hst4 HO
 replace HE := Lib.hid (HE.out.ext (ext_alloc1 w1 (.cells #[.string nL3, .slice A (cL3).length c] 36)))
 replace HLB := Lib.hid (HLB.out.ext (ext_alloc1 w1 (.cells #[.string nL3, .slice A (cL3).length c] 36)))
 generalize w1.alloc (.cells #[.string nL3, .slice A (cL3).length c] 36) = wx3 at *
 have HN3 := Lib.hid hs
 clear hs
 rw [rounds_succ]
 have HL := Lib.hid (fun w => spec_ReadL tL4 nL4 cL4 libS4 w)
 have hlb := HLB.out.c4
 go_wp2_with fail
 refine (show Calls _ _ _ _ _ from HL.out _).mono ?_
 rintro e w1 ⟨A, c, rfl, hO, hb⟩
 have HO := Lib.hid (hO.mono (show w.heap.size + 1 ≤ _ from HE.out.lt))
 replace HE := Lib.hid (HE.out.ext hb)
 replace HLB := Lib.hid (HLB.out.ext hb)
 clear hb hO HL hlb
 by_cases hs : s = nL4
 · have HF : Hid (bnN nL4 = nL4 ∧ bnC nL4 = cL4 ∧ bnR nL4 = 0) := Lib.hid (by decide +kernel)
   subst hs
   have h0 := HE.out.h0
   have h1 := HE.out.h1
   have fz := HE.out.fz
   have hlt := HE.out.lt
   have HB := Lib.hid HE.out.b
   clear HE HLB
   go_wp2_with fail
   have u0 : (((w1.setCell ⟨w.heap.size, 0, none⟩ (.string nL4)).setCell ⟨w.heap.size, 1, none⟩ (.slice A (cL4).length c)).alloc (.cells #[.string nL4, .slice A (cL4).length c] 36)).cell? ⟨w.heap.size, 0, none⟩ = some (.string nL4) := cell_keep (by simp [go_sem, h0]) (ext_alloc1 _ _)
   have u1 : (((w1.setCell ⟨w.heap.size, 0, none⟩ (.string nL4)).setCell ⟨w.heap.size, 1, none⟩ (.slice A (cL4).length c)).alloc (.cells #[.string nL4, .slice A (cL4).length c] 36)).cell? ⟨w.heap.size, 1, none⟩ = some (.slice A (cL4).length c) := cell_keep (by simp [go_sem, h1]) (ext_alloc1 _ _)
   refine bodyPost_ret (v := .tuple #[.agg #[.string nL4, .slice A (cL4).length c], .int .i64 0]) (by simp [results, Tryz.results55, go_sem, u0, u1]) rfl ⟨A, c, by rw [HF.out.1, HF.out.2.1, HF.out.2.2], ?_, ?_⟩
   · rw [HF.out.2.1]
     exact (((HO.out.put (Nat.lt_succ_self _) 0 _).put (Nat.lt_succ_self _) 1 _).ext (ext_alloc1 _ _)).mono (Nat.le_succ _)
   · exact ext_alloc (ext_set (ext_set HB.out (Nat.le_refl _) _) (Nat.le_refl _) _) _
 have hst := str_ne hs
 have hst2 := ne_list hs
 have hst3 := str_ne (Ne.symm hs)
 have hst4 := ne_list (Ne.symm hs)
 go_wp2_with fail
 clear hst hst2 hst3 hst4 HO
 replace HE := Lib.hid (HE.out.ext (ext_alloc1 w1 (.cells #[.string nL4, .slice A (cL4).length c] 36)))
 replace HLB := Lib.hid (HLB.out.ext (ext_alloc1 w1 (.cells #[.string nL4, .slice A (cL4).length c] 36)))
 generalize w1.alloc (.cells #[.string nL4, .slice A (cL4).length c] 36) = wx4 at *
 have HN4 := Lib.hid hs
 clear hs
 rw [rounds_succ]
 have HF : Hid (bnN s = ⟨#[]⟩ ∧ bnC s = [] ∧ bnR s = 3) := Lib.hid (by unfold bnN bnC bnR bnF; rw [if_neg HN0.out, if_neg HN1.out, if_neg HN2.out, if_neg HN3.out, if_neg HN4.out]; exact ⟨rfl, rfl, rfl⟩)
 have h0 := HE.out.h0
 have h1 := HE.out.h1
 have fz := HE.out.fz
 have hlt := HE.out.lt
 have HB := Lib.hid HE.out.b
 clear HE
 go_wp2_with fail
 refine bodyPost_ret (v := .tuple #[.agg #[.string ⟨#[]⟩, .slice none 0 0], .int .i64 3]) (by simp [results, Tryz.results55, go_sem, h0, h1]) rfl ⟨none, 0, by rw [HF.out.1, HF.out.2.1, HF.out.2.2]; rfl, ?_, ?_⟩
 · rw [HF.out.2.1]
   exact ⟨rfl, .inl ⟨rfl, rfl⟩⟩
 · exact ext_set (ext_set HB.out (Nat.le_refl _) _) (Nat.le_refl _) _
end Go.Proofs.YtfgopboddkhckaaGreatDoor
