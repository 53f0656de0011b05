/-
  Parts of the proof: Ex12, Ss6.
-/
import Derived.Test.YtfgopboddkhckaaGreatDoorKw29
import Derived.Test.YtfgopboddkhckaaGreatDoorKw30
namespace Go.Proofs.YtfgopboddkhckaaGreatDoor
open Go.ChangeShapes Go.WideShapes Go.ChangeAt Go.RowKit Go.Sort Go.Joins
set_option linter.unusedVariables false
set_option maxRecDepth 100000
theorem Chg.more2 {S S' : Nat → Prop} {w a b : World} (h : Chg S w a) (k : Chg S' a b) (hS : ∀ j, S' j → S j ∨ w.heap.size ≤ j) : Chg S w b :=
 ⟨k.os.trans h.os, k.tape.trans h.tape, k.output.trans h.output, Nat.le_trans h.size k.size, fun i hi hn => (k.block i (Nat.lt_of_lt_of_le hi h.size) (fun hs => (hS i hs).elim hn (fun h2 => by omega))).trans (h.block i hi hn)⟩
theorem wpList_append_str3 {w0 : World} {ops : Array Oper} {rest : List Oper} {o : Oper} {a : Act} {Q : Exit → Act → World → Prop} (hgd : o.guard = none) (s x : Operand)
   (ho : o.op = .call { callee := .builtin .append, args := #[s, x], argTypes := #[29, 29] })
   (base : Nat) (v : Value) (l : List ByteArray) (n : ByteArray) (hs : a.eval s = v) (hx : a.eval x = .slice (some ⟨w0.heap.size, 0, none⟩) 1 1) (hO : OStr w0 base v l)
   (hl : l.length ≤ 1099511627776) (hbase : base ≤ w0.heap.size)
   (h : ∀ g cap w', OStr w' base (.slice (some ⟨g, 0, none⟩) (l.length + 1) cap) (l ++ [n]) → Chg (BI v) w0 w' → w0.heap.size < w'.heap.size → (BI v g ∨ w0.heap.size ≤ g) → wpList Tryz.prog ops Q rest (a.put o.dst (.slice (some ⟨g, 0, none⟩) (l.length + 1) cap)) w') :
   wpList Tryz.prog ops Q (o :: rest) a (w0.alloc (.cells #[.string n] 9)) := by
 obtain ⟨i0, hi, hz0, hz1, hz2⟩ := info_parts info_str
 refine wpList_append_lies _ hgd s x _ ho base 9 i0 (.string ⟨#[]⟩) 1 16 Tryz.underlying29 hi hz0 hz1 hz2 rfl (by omega) v l.length (l.map Value.string) hs (World.ownsRow.alloc hO _)
   ⟨w0.heap.size, 0, none⟩ 1 1 [.string n] hx rfl (cell_one_new _ _ _) (by simp [Value.oneCell']) (by omega) (by unfold maxLen; omega) (by omega) (by simp; omega) (w0.heap.size + 1) (by simp) ?_
 intro g cap w1 hown hgrow hat hlt
 refine h g cap w1 ?_ ((Chg.of_below (ext_alloc1 _ _) _).trans (Chg.of_grown hgrow)) (by have := hgrow.size; simp at this; omega) (hat.elim (fun h => .inl h) fun h => .inr (by omega))
 unfold OStr
 simpa using hown
theorem field_rd0 (A : Option Addr) (n c : Nat) (a b : Int) (w : World) : (Instr.field 135 (.agg #[.slice A n c, .int .i64 a, .int .i64 b]) 0).run Tryz.prog w = .ok (.slice A n c) w := by
 kernel_rfl
set_option maxHeartbeats 3200000 in
theorem impl_ex_log (w00 W : World) (q : Nat) (d : DK) (A : Option Addr) (c : Nat) (B : Option Addr) (e : Nat) (hD : DB W w00.heap.size q d A c B e) (hb0 : Below w00.heap.size w00 W) (Aw : Option Addr) (cw : Nat) (l : List ByteArray) (hw : RStr W (.slice Aw l.length cw) l) (hl : l.length = 1) (hx : gd l 0 = cmW .log) (nv : Value) (hE : Env w00) (hV : vDK d = true) :
   Calls Tryz.prog 44 #[.pointer (some ⟨q, 0, none⟩), .slice Aw l.length cw, nv] W (ExP (exLog d) W w00.heap.size q) := by
 have HD := Lib.hid hD
 have HB0 := Lib.hid hb0
 obtain ⟨ad, rfl, _, hc⟩ := hw.at (k := 0) (by omega)
 have w0 := hc 0 (by omega)
 rw [Addr.add_zero'] at w0
 obtain ⟨x0, hx0⟩ : ∃ x, gd l 0 = x := ⟨_, rfl⟩
 rw [hx0] at w0 hx
 have hx0 := hx
 obtain ⟨p0, q0⟩ := lit_neC (x := x0) (l := [102, 111, 114, 109, 97, 116]) (by rw [hx0]; decide)
 obtain ⟨p1, q1⟩ := lit_neC (x := x0) (l := [98, 111, 110, 100]) (by rw [hx0]; decide)
 obtain ⟨p2, q2⟩ := lit_neC (x := x0) (l := [119, 97, 108, 108]) (by rw [hx0]; decide)
 obtain ⟨p3, q3⟩ := lit_neC (x := x0) (l := [115, 104, 111, 119]) (by rw [hx0]; decide)
 obtain ⟨p4, q4⟩ := lit_neC (x := x0) (l := [99, 104, 101, 99, 107]) (by rw [hx0]; decide)
 obtain ⟨p5, q5⟩ := lit_neC (x := x0) (l := [99, 111, 117, 110, 116]) (by rw [hx0]; decide)
 obtain ⟨p6, q6⟩ := lit_neC (x := x0) (l := [112, 97, 105, 114]) (by rw [hx0]; decide)
 obtain ⟨p7, q7⟩ := lit_neC (x := x0) (l := [108, 101, 110, 103, 116, 104]) (by rw [hx0]; decide)
 obtain ⟨p8, q8⟩ := lit_neC (x := x0) (l := [104, 101, 105, 103, 104, 116]) (by rw [hx0]; decide)
 obtain ⟨p9, q9⟩ := lit_neC (x := x0) (l := [101, 110, 116, 101, 114]) (by rw [hx0]; decide)
 have i0 : (0 : Int) < l.length := by omega
 have HLF : Hid (∀ W', Below W.heap.size W W' → LayF W') := Lib.hid fun W' h => (hE.ext (ext_trans hb0 h)).lay
 have HE := Lib.hid (fun W' (h : Below w00.heap.size w00 W') => hE.ext h)
 have hls := (vDK_sizes hV).2.2.2
 have hg := (vDK_parts hV).2.2.2
 have hlen := lgE_len d.log
 have HVE := Lib.hid (lgE_ok d.log)
 have HRL : Hid (∀ W', Env W' → Calls Tryz.prog 101 #[.string d.log] W' (fun e w' => ∃ A c, ∃ x y : Int, e = .returned (.agg #[.slice A (lgE d.log).length c, .int .i64 x, .int .i64 y]) ∧ OENS w' W'.heap.size (.slice A (lgE d.log).length c) (lgE d.log) ∧ Below W'.heap.size W' w')) := Lib.hid fun W' hE => (impl_readLog d.log (by omega) W' hE).mono (by
   rintro e' w' ⟨A, c, rfl, hO, hb⟩
   rw [(lg_yes hg).1]
   exact ⟨A, c, _, _, rfl, hO, hb⟩)
 have HEX : Hid (exLog d = (d, (lgE d.log).map wrb ++ [okT (lgE d.log).length], 0)) := Lib.hid rfl
 obtain ⟨es, hes⟩ : ∃ x, lgE d.log = x := ⟨_, rfl⟩
 have k7 := HD.out.cells.k7
 rw [hes] at hlen HVE HRL HEX
 replace k7 := fun o => cell_keep k7 (ext_alloc1 W o)
 clear hes hg hls hV hE hD hw hx hx0 hc hl hb0
 go_enter Tryz.func44, Tryz.ntmps44
 go_wp2_with fail
 refine (show Calls _ _ _ _ _ from HRL.out _ (HE.out _ (ext_alloc HB0.out _))).mono ?_
 rintro e' W1 ⟨A1, c1, x1, y1, rfl, hO1, hb⟩
 have HRW := Lib.hid (fun W' (h : Chg (fun j => j = W.heap.size) W1 W') => (hO1.chg h (fun j hj e => by have := (hO1.ge j hj).1; simp at this; omega)).rd)
 have HB1 := Lib.hid (ext_trans (ext_alloc1 _ _) hb)
 have HL0 := Lib.hid ((ostr_lit W W.heap.size (Nat.le_refl _)).ext hb)
 obtain ⟨_, _, _, r1, r2⟩ := hO1.rd.open_
 unfold maxLen at r2
 clear hO1 hb k7
 have hfr := field_rd0 A1 es.length c1 x1 y1
 go_wp2_with fail
 clear hfr
 go_loopw [33, 273] (fun u i wr => ∃ (k g cq : Nat), k ≤ es.length ∧ i = .int .i64 k ∧ u = .slice (some ⟨g, 0, none⟩) k cq ∧ Hid (OStr wr W.heap.size (.slice (some ⟨g, 0, none⟩) k cq) ((es.take k).map wrb)) ∧ (g = W.heap.size ∨ W1.heap.size ≤ g) ∧ Hid (Chg (fun j => j = W.heap.size) W1 wr)) (fun _ i _ => es.length - (intOf i).toNat)
 case atStart => exact ⟨0, W.heap.size, 0, Nat.zero_le _, rfl, rfl, Lib.hid HL0.out, .inl rfl, Lib.hid (Chg.of_below (ext_refl _) _)⟩
 case round =>
   obtain ⟨k, g, cq, hk, rfl, rfl, HO, hgg, HB⟩ := hrel
   have e1 : (0 : Int) ≤ k := by omega
   have HBW := Lib.hid (Chg.ext HB1.out HB.out (fun j hj => by subst hj; exact Nat.le_refl _))
   have hsz := HBW.out.size
   by_cases hlt : k < es.length
   · have e2 : (k : Int) < es.length := by omega
     obtain ⟨bd, rfl, _, hd⟩ := (HRW.out wr HB.out).at hlt
     obtain ⟨p0, p1, p2⟩ := hd k hlt
     have HWO := Lib.hid (fun W' h => impl_words (.agg #[.int .i64 (gd es k).day, .string (gd es k).what, .int .i64 (gd es k).val]) (gd es k) W' (HVE.out _ (gd_mem hlt)) rfl (HLF.out W' h))
     have HS : Hid ((es.take (k + 1)).map wrb = (es.take k).map wrb ++ [wrb (gd es k)]) := Lib.hid (by rw [take_gd hlt, List.map_append]; rfl)
     have HKL : Hid (((es.take k).map wrb).length = k) := Lib.hid (by rw [List.length_map, List.length_take]; omega)
     obtain ⟨t, ht⟩ : ∃ t, wrb (gd es k) = t := ⟨_, rfl⟩
     rw [ht] at HWO HS
     clear hd ht
     obtain ⟨ls, hls⟩ : ∃ ls, (es.take k).map wrb = ls := ⟨_, rfl⟩
     rw [hls] at HO HS HKL
     clear hls
     go_wp2_with fail
     refine (show Calls _ _ _ _ _ from HWO.out _ (ext_alloc HBW.out _)).mono ?_
     rintro e' w3 ⟨rfl, hb3⟩
     have HB3 := Lib.hid (HB.out.trans (Chg.of_below (ext_trans (ext_alloc1 _ _) hb3) _))
     have HBW3 := Lib.hid (ext_trans (ext_alloc HBW.out _) hb3)
     have hsw := HB.out.size
     have HO3 := Lib.hid (HO.out.ext (ext_trans (ext_alloc1 _ _) hb3))
     have hsz3 := HBW3.out.size
     have hs13 := HB3.out.size
     clear hb3 p0 p1 p2
     go_wp2_with (at_builtin; refine wpList_append_str3 rfl _ _ rfl W.heap.size (.slice (some ⟨g, 0, none⟩) k cq) ls t rfl rfl HO3.out (by rw [HKL.out]; omega) hsz3 ?_; intro g2 cap w4 hO4 hg4 hlt4 hat4)
     go_roundw
     case rel =>
       refine ⟨k + 1, g2, cap, by omega, by go_num, by rw [HKL.out], Lib.hid ?_, ?_, Lib.hid (HB3.out.more2 hg4 (fun j hj => by obtain rfl : g = j := Option.some.inj hj; exact hgg))⟩
       · rw [HS.out]
         rw [HKL.out] at hO4
         exact hO4
       · rcases hat4 with h | h
         · obtain rfl : g = g2 := Option.some.inj h
           exact hgg
         · exact .inr (by omega)
     case measure => simp [intOf]; omega
   · obtain rfl : k = es.length := by omega
     rw [List.take_length] at HO
     have HKL : Hid ((es.map wrb).length = es.length) := Lib.hid (List.length_map ..)
     have HOK := Lib.hid (impl_okLine (some ⟨g, 0, none⟩) cq (es.map wrb) W.heap.size wr (by rw [HKL.out]; exact HO.out) (by rw [HKL.out]; omega) hsz (HLF.out _ HBW.out))
     rw [HKL.out] at HOK
     go_wp2_with fail
     refine (show Calls _ _ _ _ _ from HOK.out).mono ?_
     rintro e' w4 ⟨A2, c2, rfl, hO4, hg4⟩
     have HO4 := Lib.hid hO4
     have HB4 := Lib.hid (Chg.ext HBW.out hg4 (fun j hj => (HO.out.ge j hj).1))
     clear hO4 hg4 HOK
     go_wp2_with fail
     go_ret2
     exact ExP.rows HEX.out HD.out HB0.out.size HB4.out HO4.out
set_option maxHeartbeats 3200000 in
theorem spec_ex_show (W : World) (B0 q : Nat) (d : DK) (A : Option Addr) (c : Nat) (B : Option Addr) (e : Nat) (O : Option Addr) (co : Nat) (out : List ByteArray) (N T : Value) (h : SX W B0 q d A c B e O co out N T) (hl : out.length ≤ 1000000000) (hV : vDK d = true) :
   Calls Tryz.prog 68 #[.pointer (some ⟨q, 0, none⟩)] W (SQ W B0 q O out.length co d out (exShow d) N T) := by
 have HX := Lib.hid h
 have hwl := (vDK_sizes hV).2.1
 have HVC : Hid (∀ k, k < d.wall.length → (gd d.wall k).size ≤ 60) := Lib.hid (fun k hk => by
   rcases (vDK_parts hV).2.2.1 with h | h
   · omega
   · exact (vCo_parts ((vW_parts h).2.2 k hk)).2.1)
 have HRW := Lib.hid h.bx.own.2.1.rd
 have HEX : Hid (exShow d = (d, d.wall.map rnT ++ [okT d.wall.length], 0)) := Lib.hid rfl
 have HK6 := Lib.hid (fun w (hb : Below W.heap.size W w) => cell_keep h.bx.cells.k6 hb)
 obtain ⟨wl, hwl2⟩ : ∃ x, d.wall = x := ⟨_, rfl⟩
 rw [hwl2] at hwl HVC HRW HEX HK6
 obtain ⟨_, _, _, r1, r2⟩ := HRW.out.open_
 unfold maxLen at r2
 clear hwl2 hV h
 go_enter Tryz.func68, Tryz.ntmps68
 go_wp2_with fail
 go_loopw [2, 3] (fun u i wr => ∃ (k g cq : Nat), k ≤ wl.length ∧ i = .int .i64 k ∧ u = .slice (some ⟨g, 0, none⟩) k cq ∧ Hid (OStr wr W.heap.size (.slice (some ⟨g, 0, none⟩) k cq) ((wl.take k).map rnT)) ∧ Hid (Below W.heap.size W wr)) (fun _ i _ => wl.length - (intOf i).toNat)
 case atStart => exact ⟨0, W.heap.size, 0, Nat.zero_le _, rfl, rfl, Lib.hid (ostr_lit _ _ (Nat.le_refl _)), Lib.hid (ext_alloc1 _ _)⟩
 case round =>
   obtain ⟨k, g, cq, hk, rfl, rfl, HO, HB⟩ := hrel
   have e1 : (0 : Int) ≤ k := by omega
   have hsz := HB.out.size
   have k6 := HK6.out wr HB.out
   by_cases hlt : k < wl.length
   · have e2 : (k : Int) < wl.length := by omega
     obtain ⟨bd, rfl, _, hd⟩ := (HRW.out.ext HB.out).at hlt
     have hdk := hd k hlt
     have HCR := Lib.hid (fun W' => spec_Runs (gd wl k) (HVC.out k hlt) W')
     have HS : Hid ((wl.take (k + 1)).map rnT = (wl.take k).map rnT ++ [rnT (gd wl k)]) := Lib.hid (by rw [take_gd hlt, List.map_append]; rfl)
     have HKL : Hid (((wl.take k).map rnT).length = k) := Lib.hid (by rw [List.length_map, List.length_take]; omega)
     obtain ⟨s, hs⟩ : ∃ s, gd wl k = s := ⟨_, rfl⟩
     rw [hs] at hdk HCR HS
     obtain ⟨t, ht⟩ : ∃ t, rnT s = t := ⟨_, rfl⟩
     rw [ht] at HCR HS
     clear hd hs ht
     obtain ⟨ls, hls⟩ : ∃ ls, (wl.take k).map rnT = ls := ⟨_, rfl⟩
     rw [hls] at HO HS HKL
     clear hls
     go_wp2_with fail
     refine (show Calls _ _ _ _ _ from HCR.out _).mono ?_
     rintro e' w3 ⟨rfl, hb3⟩
     have HB3 := Lib.hid (ext_trans HB.out hb3)
     have HO3 := Lib.hid (HO.out.ext hb3)
     have hsz3 := HB3.out.size
     clear hb3 hdk k6
     go_wp2_with (at_builtin; refine wpList_append_str rfl _ _ rfl W.heap.size (.slice (some ⟨g, 0, none⟩) k cq) ls t rfl rfl HO3.out (by rw [HKL.out]; omega) hsz3 ?_; intro g2 cap w4 hO4 hg4 hlt4)
     go_roundw
     case rel =>
       refine ⟨k + 1, g2, cap, by omega, by go_num, by rw [HKL.out], Lib.hid ?_, Lib.hid (Chg.ext HB3.out hg4 (fun j hj => (HO3.out.ge j hj).1))⟩
       rw [HS.out]
       rw [HKL.out] at hO4
       exact hO4
     case measure => simp [intOf]; omega
   · obtain rfl : k = wl.length := by omega
     rw [List.take_length] at HO
     have HKL : Hid ((wl.map rnT).length = wl.length) := Lib.hid (List.length_map ..)
     have HS := Lib.hid (spec_list wr B0 q d A c B e O co out N T (HX.out.ext HB.out) (some ⟨g, 0, none⟩) cq (wl.map rnT) (by rw [HKL.out]; exact HO.out.rd) hl (by rw [HKL.out]; omega))
     rw [HKL.out] at HS
     go_wp2_with fail
     refine (show Calls _ _ _ _ _ from HS.out).mono ?_
     rintro e' w4 ⟨rfl, hp⟩
     have HP := Lib.hid (hp.low HB.out)
     clear hp
     go_wp2_with fail
     first
       | refine bodyPost_end (v := .tuple #[]) (by simp [results, Tryz.results68, go_sem]) rfl ?_
       | refine bodyPost_ret (v := .tuple #[]) (by simp [results, Tryz.results68, go_sem]) rfl ?_
     exact SQ.ok HEX.out HP.out
set_option maxHeartbeats 3200000 in
theorem spec_ex_log (W : World) (B0 q : Nat) (d : DK) (A : Option Addr) (c : Nat) (B : Option Addr) (e : Nat) (O : Option Addr) (co : Nat) (out : List ByteArray) (N T : Value) (h : SX W B0 q d A c B e O co out N T) (hl : out.length ≤ 1000000000) (hV : vDK d = true) :
   Calls Tryz.prog 66 #[.pointer (some ⟨q, 0, none⟩)] W (SQ W B0 q O out.length co d out (exLog d) N T) := by
 have HX := Lib.hid h
 have hls := (vDK_sizes hV).2.2.2
 have hg := (vDK_parts hV).2.2.2
 have hlen := lgE_len d.log
 have HVE := Lib.hid (lgE_ok d.log)
 have HCD : Hid (∀ W', Calls Tryz.prog 72 #[.string d.log] W' (fun e' w' => ∃ g A c, e' = .returned (.tuple #[.pointer (some ⟨g, 0, none⟩), .int .i64 0]) ∧ w'.cell? ⟨g, 3, none⟩ = some (.slice A (lgE d.log).length c) ∧ RENS w' (.slice A (lgE d.log).length c) (lgE d.log) ∧ Below W'.heap.size W' w')) := Lib.hid fun W' => (spec_Code d.log (by omega) W').mono (by
   rintro e' w' ⟨g, A, c, rfl, hr, hb⟩
   have hr := hr hg
   rw [(lg_yes hg).1]
   exact ⟨g, A, c, by rw [hg], hr.h3, hr.own.rd, hb⟩)
 have HEX : Hid (exLog d = (d, (lgE d.log).map wrb ++ [okT (lgE d.log).length], 0)) := Lib.hid rfl
 have k7 := h.bx.cells.k7
 obtain ⟨es, hes⟩ : ∃ x, lgE d.log = x := ⟨_, rfl⟩
 rw [hes] at hlen HVE HCD HEX
 clear hes hg hls hV h
 go_enter Tryz.func66, Tryz.ntmps66
 go_wp2_with fail
 refine (show Calls _ _ _ _ _ from HCD.out _).mono ?_
 rintro e' W1 ⟨g0, A1, c1, rfl, hk3, hr1, hb⟩
 have HRW := Lib.hid hr1
 have HB1 := Lib.hid hb
 have HK3 := Lib.hid (fun w (hb : Below W1.heap.size W1 w) => cell_keep hk3 hb)
 obtain ⟨_, _, _, r1, r2⟩ := HRW.out.open_
 unfold maxLen at r2
 clear hk3 hr1 hb k7
 go_wp2_with fail
 go_loopw [4, 5] (fun u i wr => ∃ (k g cq : Nat), k ≤ es.length ∧ i = .int .i64 k ∧ u = .slice (some ⟨g, 0, none⟩) k cq ∧ Hid (OStr wr W1.heap.size (.slice (some ⟨g, 0, none⟩) k cq) ((es.take k).map wrb)) ∧ Hid (Below W1.heap.size W1 wr)) (fun _ i _ => es.length - (intOf i).toNat)
 case atStart => exact ⟨0, W1.heap.size, 0, Nat.zero_le _, rfl, rfl, Lib.hid (ostr_lit _ _ (Nat.le_refl _)), Lib.hid (ext_alloc1 _ _)⟩
 case round =>
   obtain ⟨k, g, cq, hk, rfl, rfl, HO, HB⟩ := hrel
   have e1 : (0 : Int) ≤ k := by omega
   have hsz := HB.out.size
   have k3 := HK3.out wr HB.out
   by_cases hlt : k < es.length
   · have e2 : (k : Int) < es.length := by omega
     obtain ⟨bd, rfl, _, hd⟩ := (HRW.out.ext HB.out).at hlt
     have HPE := Lib.hid (hd k hlt)
     have HWO := Lib.hid (spec_words _ (gd es k) wr (HVE.out _ (gd_mem hlt)) HPE.out)
     have HS : Hid ((es.take (k + 1)).map wrb = (es.take k).map wrb ++ [wrb (gd es k)]) := Lib.hid (by rw [take_gd hlt, List.map_append]; rfl)
     have HKL : Hid (((es.take k).map wrb).length = k) := Lib.hid (by rw [List.length_map, List.length_take]; omega)
     obtain ⟨t, ht⟩ : ∃ t, wrb (gd es k) = t := ⟨_, rfl⟩
     rw [ht] at HWO HS
     clear hd ht
     obtain ⟨ls, hls⟩ : ∃ ls, (es.take k).map wrb = ls := ⟨_, rfl⟩
     rw [hls] at HO HS HKL
     clear hls
     go_wp2_with fail
     refine (show Calls _ _ _ _ _ from HWO.out).mono ?_
     rintro e' w3 ⟨rfl, hb3⟩
     have HB3 := Lib.hid (ext_trans HB.out hb3)
     have HO3 := Lib.hid (HO.out.ext hb3)
     have hsz3 := HB3.out.size
     clear hb3 k3
     go_wp2_with (at_builtin; refine wpList_append_str rfl _ _ rfl W1.heap.size (.slice (some ⟨g, 0, none⟩) k cq) ls t rfl rfl HO3.out (by rw [HKL.out]; omega) hsz3 ?_; intro g2 cap w4 hO4 hg4 hlt4)
     go_roundw
     case rel =>
       refine ⟨k + 1, g2, cap, by omega, by go_num, by rw [HKL.out], Lib.hid ?_, Lib.hid (Chg.ext HB3.out hg4 (fun j hj => (HO3.out.ge j hj).1))⟩
       rw [HS.out]
       rw [HKL.out] at hO4
       exact hO4
     case measure => simp [intOf]; omega
   · obtain rfl : k = es.length := by omega
     rw [List.take_length] at HO
     have HKL : Hid ((es.map wrb).length = es.length) := Lib.hid (List.length_map ..)
     have HBW := Lib.hid (ext_trans HB1.out HB.out)
     have HS := Lib.hid (spec_list wr B0 q d A c B e O co out N T (HX.out.ext HBW.out) (some ⟨g, 0, none⟩) cq (es.map wrb) (by rw [HKL.out]; exact HO.out.rd) hl (by rw [HKL.out]; omega))
     rw [HKL.out] at HS
     go_wp2_with fail
     refine (show Calls _ _ _ _ _ from HS.out).mono ?_
     rintro e' w4 ⟨rfl, hp⟩
     have HP := Lib.hid (hp.low HBW.out)
     clear hp
     go_wp2_with fail
     first
       | refine bodyPost_end (v := .tuple #[]) (by simp [results, Tryz.results66, go_sem]) rfl ?_
       | refine bodyPost_ret (v := .tuple #[]) (by simp [results, Tryz.results66, go_sem]) rfl ?_
     exact SQ.ok HEX.out HP.out
set_option maxHeartbeats 3200000 in
theorem spec_ex_enter (w00 W : World) (hb0 : Below w00.heap.size w00 W) (hE : Env w00) (B0 q : Nat) (hq0 : w00.heap.size ≤ q) (d : DK) (A : Option Addr) (c : Nat) (B : Option Addr) (e : Nat) (O : Option Addr) (co : Nat) (out : List ByteArray) (An : Option Addr) (cn : Nat) (xs : List Int) (At : Option Addr) (ct : Nat) (tl : List ByteArray) (h : SX W B0 q d A c B e O co out (.slice An xs.length cn) (.slice At tl.length ct)) (hN : RI W (.slice An xs.length cn) xs) (h0 : 1 < xs.length) (hT : RStr W (.slice At tl.length ct) tl) (t0 : 0 < tl.length) (hqt : ∀ ad, At = some ad → ad.block ≠ q) (hsz : (gd tl 0).size ≤ 1048576) (hl : out.length ≤ 1000000000) (hV : vDK d = true) :
   Calls Tryz.prog 62 #[.pointer (some ⟨q, 0, none⟩)] W (SQ W B0 q O out.length co d out (exEnter d ⟨gi xs 0, gd tl 0, gi xs 1⟩) (.slice An xs.length cn) (.slice At tl.length ct)) := by
 have HX := Lib.hid h
 obtain ⟨an, rfl, _, hcn⟩ := hN.at2 (k := 0) (by omega)
 have m0 := hcn 0 (by omega)
 rw [Addr.add_zero'] at m0
 have m1 := hcn 1 (by omega)
 rw [addr_succ] at m1
 replace m1 : W.cell? ⟨an.block, an.off + 1, none⟩ = some (.int .i64 (gi xs 1)) := m1
 obtain ⟨n1, hn1⟩ : ∃ x, gi xs 0 = x := ⟨_, rfl⟩
 obtain ⟨n2, hn2⟩ : ∃ x, gi xs 1 = x := ⟨_, rfl⟩
 rw [hn1] at m0
 rw [hn2] at m1
 rw [hn1, hn2]
 have j0 : (0 : Int) < xs.length := by omega
 have j0n : 0 < xs.length := by omega
 have j1 : (1 : Int) < xs.length := by omega
 have k9 := h.k9
 clear hn1 hn2
 obtain ⟨ad, rfl, _, hc⟩ := hT.at (k := 0) t0
 have w0 := hc 0 t0
 rw [Addr.add_zero'] at w0
 replace hqt := hqt ad rfl
 have k10 := h.k10
 obtain ⟨what, hwh⟩ : ∃ x, gd tl 0 = x := ⟨_, rfl⟩
 rw [hwh] at w0 hsz
 rw [hwh]
 have t1 : (0 : Int) < tl.length := by omega
 have hq := h.lt
 have HE := Lib.hid (fun W' (h : Below w00.heap.size w00 W') => hE.ext h)
 have HB0 := Lib.hid hb0
 have hls := (vDK_sizes hV).2.2.2
 have HAE := Lib.hid (fun W' (h : Below W.heap.size W W') => spec_AddEntry d.log (.agg #[.int .i64 n1, .string what, .int .i64 n2]) ⟨n1, what, n2⟩ W' (by omega) rfl hsz (hE.ext (ext_trans hb0 h)))
 have HC := Lib.hid (inC_add d.log ⟨n1, what, n2⟩)
 have HNO := Lib.hid (@exEnter_no d ⟨n1, what, n2⟩)
 have HYE := Lib.hid (@exEnter_ok d ⟨n1, what, n2⟩)
 have HVO := Lib.hid (fun (h : (mAddEntry d.log ⟨n1, what, n2⟩).2 = 0) W' hE => spec_ValuesOf (mAddEntry d.log ⟨n1, what, n2⟩).1 what W' (by have := (add_ok h).2.2.2.2; omega) hsz hE)
 have HVC := Lib.hid (@add_vals d.log ⟨n1, what, n2⟩)
 obtain ⟨lg, hlg⟩ : ∃ x, (mAddEntry d.log ⟨n1, what, n2⟩).1 = x := ⟨_, rfl⟩
 obtain ⟨y, hy⟩ : ∃ x, (mAddEntry d.log ⟨n1, what, n2⟩).2 = x := ⟨_, rfl⟩
 rw [hlg, hy] at HAE HYE HVO HVC
 rw [hy] at HNO HC
 have HSV := Lib.hid (sum_vals lg what)
 have HBV := Lib.hid (vals_bd lg what)
 obtain ⟨vs, hxs⟩ : ∃ x, (mValuesOf lg what).1 = x := ⟨_, rfl⟩
 obtain ⟨yc, hyc⟩ : ∃ x, (mValuesOf lg what).2 = x := ⟨_, rfl⟩
 replace HVC : Hid (y = 0 → yc = 0) := Lib.hid (fun h => by rw [← hyc]; exact HVC.out h)
 replace HYE : Hid (y = 0 → exEnter d ⟨n1, what, n2⟩ = ({ d with log := lg }, [itb (sumI vs)], 0)) := Lib.hid (fun h => by rw [← hxs]; exact HYE.out h)
 rw [hxs] at HVO HSV HBV
 rw [hyc] at HVO
 have HSU := Lib.hid (fun v W' (h : RI W' v vs) => spec_sum v vs W' h HBV.out.1 (fun k hk => HBV.out.2 _ (by rw [← gd_gi]; exact gd_mem hk)))
 have k7 := h.bx.cells.k7
 have HW0 := Lib.hid (fun W' h => cell_keep (w' := W') w0 h)
 clear hlg hy hxs hyc hwh hls hsz hV hE h hN hcn hT hc hb0
 go_enter Tryz.func62, Tryz.ntmps62
 replace k7 := fun d os => cell_regrown k7 d os
 replace k9 := fun d os => cell_regrown k9 d os
 replace k10 := fun d os => cell_regrown k10 d os
 replace w0 := fun d os => cell_regrown w0 d os
 replace m0 := fun d os => cell_regrown m0 d os
 replace m1 := fun d os => cell_regrown m1 d os
 go_wp2_with fail
 refine wp_region_quiet_below (by kernel_rfl) (by kernel_rfl) ?_
 repeat (go_big_quiet_step ((go_at_call 119; exact regrown_r (HAE.out _ (below_regrown _ _ _)))))
 refine wpQuiet_nil ?_
 intro w' hw'
 obtain ⟨p, rfl⟩ := hw'
 have HB := Lib.hid (below_regrown W p.d p.os)
 generalize (grow (redrawn W p.d) p.os) = W1 at *
 clear k7 k9 k10 m0 m1 w0
 by_cases hy : y = 0
 · subst hy
   have hyc := HVC.out rfl
   subst hyc
   have HEX := Lib.hid (HYE.out rfl)
   go_wp2_with fail
   refine (spec_report0 _ _).mono ?_
   rintro e' W1 ⟨rfl, rfl⟩
   have HX1 := Lib.hid (HX.out.ext HB.out)
   have HX2 := Lib.hid (HX1.out.putL lg)
   have k7 := HX1.out.bx.cells.k7
   have kf := HX1.out.bx.fz 7
   have HCP := Lib.hid ((Chg.of_below HB.out (fun k => k = q)).trans (Chg.setCell (S := fun k => k = q) W1 (p := ⟨q, 7, none⟩) rfl (.string lg)))
   obtain ⟨W2, hW2⟩ : ∃ x, W1.setCell ⟨q, 7, none⟩ (.string lg) = x := ⟨_, rfl⟩
   have w2 : W2.cell? ad = some (.string what) := by
     rw [← hW2, World.cell?_setCell_other W1 ⟨q, 7, none⟩ ad (.string lg) (fun e => hqt (congrArg Addr.block e).symm)]
     exact HW0.out W1 HB.out
   rw [hW2] at HX2 HCP
   have j10 := HX2.out.k10
   have HB2 := Lib.hid (Chg.ext HB0.out HCP.out (fun k hk => by subst hk; exact hq0))
   have HDE := Lib.hid (fun w => spec_Dec (sumI vs) (by have := HSV.out; omega) (by have := HSV.out; omega) w)
   have HS := Lib.hid (fun w1 (hb : Below W2.heap.size W2 w1) => spec_say w1 B0 q _ A c B e O co out _ _ (HX2.out.ext hb) (itb (sumI vs)) (by omega))
   go_wp2_with fail
   clear hW2
   refine (show Calls _ _ _ _ _ from HVO.out (by trivial) _ (HE.out _ HB2.out)).mono ?_
   rintro e' W3 ⟨v, rfl, hO, _, hb⟩
   have HO := Lib.hid hO
   have HB3 := Lib.hid hb
   clear hO hb j10 w2 k7 kf
   go_wp2_with fail
   refine (show Calls _ _ _ _ _ from HSU.out _ _ HO.out.rd).mono ?_
   rintro e' W3 ⟨rfl, rfl⟩
   go_wp2_with fail
   refine (show Calls _ _ _ _ _ from HDE.out _).mono ?_
   rintro e' W4 ⟨rfl, hb⟩
   have HB4 := Lib.hid (ext_trans HB3.out hb)
   clear hb
   go_wp2_with fail
   refine (show Calls _ _ _ _ _ from HS.out _ HB4.out).mono ?_
   rintro e' W5 ⟨rfl, hp⟩
   have HP := Lib.hid ((hp.low HB4.out).pre HCP.out)
   clear hp
   go_wp2_with fail
   first
     | refine bodyPost_end (v := .tuple #[]) (by simp [results, Tryz.results62, go_sem]) rfl ?_
     | refine bodyPost_ret (v := .tuple #[]) (by simp [results, Tryz.results62, go_sem]) rfl ?_
   exact SQ.ok HEX.out HP.out
 · skip
   have HRP := Lib.hid (fun w1 (hb : Below W.heap.size W w1) => spec_report1 w1 B0 q d A c B e O co out _ _ (HX.out.ext hb) y hy HC.out.1 HC.out.2 (by omega))
   go_wp2_with fail
   refine (show Calls _ _ _ _ _ from HRP.out _ HB.out).mono ?_
   rintro e' W2 ⟨rfl, hp⟩
   have HP := Lib.hid (hp.low HB.out)
   clear hp
   go_wp2_with fail
   first
     | refine bodyPost_end (v := .tuple #[]) (by simp [results, Tryz.results62, go_sem]) rfl ?_
     | refine bodyPost_ret (v := .tuple #[]) (by simp [results, Tryz.results62, go_sem]) rfl ?_
   exact SQ.no (by rw [HNO.out hy]) hy HP.out
end Go.Proofs.YtfgopboddkhckaaGreatDoor
