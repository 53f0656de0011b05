/-
  Parts of the proof: Run, Ex10.
-/
import Derived.Test.YtfgopboddkhckaaGreatDoorKw24
namespace Go.Proofs.YtfgopboddkhckaaGreatDoor
open Go.ChangeShapes Go.WideShapes Go.ChangeAt Go.RowKit Go.Sort Go.Joins
set_option linter.unusedVariables false
set_option maxRecDepth 100000
theorem step_append_s3 {w0 : World} {ops : Array Oper} {o : Oper} {a : Act} {K : Act → World → Prop} {Q : Exit → Act → World → Prop} {E : Prop} (hgd : o.guard = none) (s x : Operand)
   (ho : o.op = .call { callee := .builtin .append, args := #[s, x], argTypes := #[29, 29] })
   (base : Nat) (v : Value) (xs : List ByteArray) (n : ByteArray) (hs : a.eval s = v) (hx : a.eval x = .slice (some ⟨w0.heap.size, 0, none⟩) 1 1) (hO : OStr w0 base v xs)
   (hl : xs.length ≤ 1099511627776) (hbase : base ≤ w0.heap.size)
   (h : ∀ g cap w', OStr w' base (.slice (some ⟨g, 0, none⟩) (xs.length + 1) cap) (xs ++ [n]) → Chg (BI v) w0 w' → K (a.put o.dst (.slice (some ⟨g, 0, none⟩) (xs.length + 1) cap)) w') :
   if Region.wanted o (yielded ops a.tmps) = true then Oper.wp Tryz.prog o a (w0.alloc (.cells #[.string n] 9)) K Q else E := by
 obtain ⟨i0, hi, hz0, hz1, hz2⟩ := info_parts info_str
 refine step_append_lies _ hgd s x _ ho base 9 i0 (.string ⟨#[]⟩) 1 16 Tryz.underlying29 hi hz0 hz1 hz2 rfl (by omega) v xs.length (xs.map Value.string) hs (World.ownsRow.alloc hO _)
   ⟨w0.heap.size, 0, none⟩ 1 1 [.string n] hx rfl (cell_one_new _ _ _) (by simp [Value.oneCell']) (by omega) (by unfold maxLen; omega) (by omega) (by simp; omega) (w0.heap.size + 1) (by simp) ?_
 intro g cap w1 hown hgrow hat hlt
 refine h g cap w1 ?_ ((Chg.of_below (ext_alloc1 _ _) _).trans (Chg.of_grown hgrow))
 unfold OStr
 simpa using hown
theorem impl_Join (b : UInt8) (g c base : Nat) (ls : List ByteArray) (w : World) (hO : OStr w base (.slice (some ⟨g, 0, none⟩) ls.length c) ls) (hl : ls.length ≤ 1048576) (hs : ∀ t ∈ ls, t.size ≤ 100000) :
   Calls Tryz.prog 156 #[.slice (some ⟨g, 0, none⟩) ls.length c, .string ⟨#[b]⟩] w (Ret (.string (bsq (jnL b (ls.map (·.data.toList))))) w) := by
 have h := hO.rd
 have hcell : ∀ (j : Nat) x, ls[j]? = some x → w.cell? ⟨g, 0 + j, none⟩ = some (.string x) := fun j x hx => by
   have hj : j < ls.length := (List.getElem?_eq_some_iff.1 hx).1
   obtain ⟨ad, hA, _, hc⟩ := h.at hj
   injection hA with hA
   have := hc j hj
   rw [← hA, gd_eq hj] at this
   rw [List.getElem?_eq_getElem hj] at hx
   injection hx with hx
   rw [hx] at this
   have e1 : (⟨g, 0, none⟩ : Addr).add j = ⟨g, 0 + j, none⟩ := by unfold Addr.add; split <;> simp <;> omega
   rwa [e1] at this
 have hbk : g < w.heap.size := (hO.ge g rfl).2
 have hlc : ls.length ≤ c := by
   obtain ⟨A2, c2, hv, h2, h3⟩ := h.open_
   injection hv with q1 q2 q3
   omega
 have hq : (jnL b (ls.map (·.data.toList))).length ≤ 100001 * ls.length := by
   have : ∀ (p : List (List UInt8)), (∀ x ∈ p, x.length ≤ 100000) → (jnL b p).length ≤ 100001 * p.length := by
     intro p
     induction p with
     | nil => intro _; simp [jnL]
     | cons l t ih =>
       intro hh
       have h0 := hh l (by simp)
       cases t with
       | nil => simp [jnL]; omega
       | cons m t =>
         have ih := ih (fun x hx => hh x (List.mem_cons_of_mem _ hx))
         rw [jnL_cons _ _ (by simp), List.length_append, List.length_cons]
         simp only [List.length_cons] at ih ⊢
         omega
   have h2 := this (ls.map (·.data.toList)) (fun x hx => by
     obtain ⟨y, hy, rfl⟩ := List.mem_map.1 hx
     rw [size_toList]; exact hs y hy)
   rwa [List.length_map] at h2
 have hj := Tryz.strings_Join g 0 c ls ⟨#[b]⟩ w hcell hbk (by omega) (by omega) (by
   show (Lib.join (ls.map (·.data.toList)) [b]).length ≤ 140737488355328
   rw [join_jnb]; omega)
 refine hj.mono fun e w' ⟨h1, h2⟩ => ⟨?_, h2⟩
 rw [h1]
 show Ending.returned (.string (bsq (Lib.join (ls.map (·.data.toList)) [b]))) = _
 rw [join_jnb]
theorem rnL_sz {s : ByteArray} (hs : s.size ≤ 60) : (rnL s).length ≤ 60 ∧ ∀ t ∈ rnL s, t.size ≤ 21 := by
 have key : ∀ (f i : Nat), (rnF s f i).length ≤ f ∧ ∀ t ∈ rnF s f i, t.size ≤ 21 := by
   intro f
   induction f with
   | zero => intro i; exact ⟨Nat.le_refl _, fun t h => by simp [rnF] at h⟩
   | succ f ih =>
     intro i
     rw [rnF]
     split
     · rename_i hi
       obtain ⟨h1, h2⟩ := ih (rE s i)
       refine ⟨by simp only [List.length_cons]; omega, fun t h => ?_⟩
       rcases List.mem_cons.1 h with rfl | h
       · have h3 := rE_le (s := s) (i := i) (by omega)
         have z1 := itb_size ((rE s i - i : Nat) : Int) (by omega) (by omega)
         unfold runT
         rw [ByteArray.size_append, ByteArray.size_extract]
         omega
       · exact h2 t h
     · exact ⟨Nat.zero_le _, fun t h => by simp at h⟩
 have := key s.size 0
 exact ⟨by unfold rnL; omega, this.2⟩
set_option maxHeartbeats 6400000 in
theorem impl_CourseRuns (s : ByteArray) (hv : vCo s = true) (w : World) (hL : LayF w) :
   Calls Tryz.prog 90 #[.string s] w (Ret (.string (rnT s)) w) := by
 obtain ⟨hs1, hs, _, _⟩ := vCo_parts hv
 have HLF : Hid (∀ W', Below w.heap.size w W' → LayF W') := Lib.hid fun W' h => hL.ext h
 have HOK := Lib.hid (fun w => RetP.bool (impl_okC s (by omega) w) hv)
 have HRS := Lib.hid (rnL_sz hs)
 clear hv hL hs1
 go_enter Tryz.func90, Tryz.ntmps90
 go_wp2_with fail
 refine (show Calls _ _ _ _ _ from HOK.out _).mono ?_
 rintro e w0 ⟨rfl, rfl⟩
 go_wp2_with fail
 go_loopw [3, 4] (fun u i wr => ∃ (k g cq : Nat) (ls : List ByteArray), k ≤ s.size ∧ i = .int .i64 k ∧ u = .slice (some ⟨g, 0, none⟩) ls.length cq ∧ Hid (RnAt s k ls) ∧ Hid (OStr wr w.heap.size (.slice (some ⟨g, 0, none⟩) ls.length cq) ls) ∧ Hid (Below w.heap.size w wr)) (fun _ i _ => s.size - (intOf i).toNat)
 case atStart => exact ⟨0, w.heap.size, 0, [], Nat.zero_le _, rfl, rfl, Lib.hid (RnAt.zero s), Lib.hid (ostr_lit _ _ (Nat.le_refl _)), Lib.hid (ext_alloc1 _ _)⟩
 case round =>
   obtain ⟨i, g, cq, ls, hi, rfl, rfl, HT, HO, HB⟩ := hrel
   have e0 : (0 : Int) ≤ i := by omega
   have hsz := HB.out.size
   by_cases hlt : i < s.size
   · have e1 : (i : Int) < s.size := by omega
     have HNX := Lib.hid (HT.out.next hlt)
     have hls : ls.length ≤ 60 := by have := HT.out.2.1; omega
     have hyi := byt_eq s i hlt
     go_wp2_with fail
     go_loopw [5] (fun k wr2 => ∃ (j : Nat), j ≤ s.size ∧ k = .int .i64 j ∧ Hid (RunAt s i j) ∧ Hid (Below wr.heap.size wr wr2)) (fun k _ => s.size - (intOf k).toNat)
     case atStart => exact ⟨i, by omega, rfl, Lib.hid (RunAt.zero hi), Lib.hid (ext_refl _)⟩
     case round =>
       obtain ⟨j, hj, rfl, HR, HBB⟩ := hrel
       have f0 : (0 : Int) ≤ j := by omega
       by_cases hjl : j < s.size
       · have f1 : (j : Int) < s.size := by omega
         have f2 : decide ((j : Int) < s.size) = true := decide_eq_true f1
         have f3 : decide (j < s.size) = true := decide_eq_true hjl
         have hyj := byt_eq s j hjl
         by_cases hq : byt s j = byt s i
         · have HR2 := Lib.hid (HR.out.next hjl hq)
           rw [hq] at hyj
           go_wp2_with fail
           refine wp_region_quiet_below (by kernel_rfl) (by kernel_rfl) ?_
           repeat (go_big_quiet_step (fail))
           refine wpQuiet_nil ?_
           intro w' hw'
           obtain ⟨p, rfl⟩ := hw'
           have HB5 := Lib.hid (ext_trans HBB.out (below_regrown _ p.d p.os))
           go_wp2_with fail
           go_roundw
           case rel => exact ⟨j + 1, by omega, by go_num, HR2, HB5⟩
           case measure => simp [intOf]; omega
         · have HE := Lib.hid (HR.out.stop (fun h => hq h.2))
           have hq2 : (byt s j == byt s i) = false := beq_eq_false_iff_ne.2 hq
           go_wp2_with fail
           refine wp_region_quiet_below (by kernel_rfl) (by kernel_rfl) ?_
           repeat (go_big_quiet_step (fail))
           refine wpQuiet_nil ?_
           intro w' hw'
           obtain ⟨p, rfl⟩ := hw'
           have HB5 := Lib.hid (ext_trans HBB.out (below_regrown _ p.d p.os))
           clear hyi hyj hq hq2 f2 f3
           have HNX2 := HNX.out
           have hkj := HE.out
           rw [hkj] at HNX2
           have hgt : i < j := by rw [← hkj]; exact rE_gt hlt
           have HTX : Hid (runT s i = itb ((j : Int) - (i : Int)) ++ s.extract i (i + 1)) := Lib.hid (by unfold runT; rw [hkj, Int.natCast_sub (by omega)])
           rw [HTX.out] at HNX2
           have HNX3 := Lib.hid HNX2
           clear HNX2 hkj HNX
           have HZ : Hid (∀ ls', rnL s = ls' → ls'.length ≤ 60) := Lib.hid fun ls' h => by rw [← h]; exact HRS.out.1
           have hz1 := itb_size ((j : Int) - (i : Int)) (by omega) (by omega)
           have g2 : (0 : Int) ≤ (i : Int) + 1 := by omega
           have g3 : (i : Int) + 1 ≤ s.size := by omega
           have g4 : (i : Int) ≤ (i : Int) + 1 := by omega
           have g5 : ((i : Int) + 1).toNat = i + 1 := by omega
           have g6 : IntKind.i64.wrap ((j : Int) - (i : Int)) = (j : Int) - i := IntWalk.i64_in _ (by omega)
           have g7 : IntKind.i64.wrap ((i : Int) + 1) = (i : Int) + 1 := IntWalk.i64_in _ (by omega)
           have c1 : ¬ 9223372036854775807 < (itb ((j : Int) - (i : Int))).size + (min (i + 1) s.size - i) := by omega
           have HO5 := Lib.hid (HO.out.ext HB5.out)
           have HB6 := Lib.hid (ext_trans HB.out HB5.out)
           have hsz5 := HB6.out.size
           have HDC := Lib.hid (fun w h => impl_Dec ((j : Int) - (i : Int)) (by omega) (by omega) w h)
           have hml : ls.length + 1 ≤ maxLen := by unfold maxLen; omega
           clear hz1
           generalize grow (redrawn wr p.d) p.os = w5 at *
           have HLW := Lib.hid (HLF.out w5.drew (ext_drew HB6.out))
           go_wp2_with fail
           go_region_law (first
             | (go_simp; refine (show Calls _ _ _ _ _ from HDC.out _ HLW.out).mono ?_; rintro e w6 ⟨rfl, hb6⟩; (have HB7 := Lib.hid (ext_trans (ext_drew HB6.out) hb6)); (have HO7 := Lib.hid ((HO5.out.ext (ext_drew (ext_refl _))).ext hb6)); (have hsz7 := HB7.out.size); clear hb6; dsimp only)
             | (refine step_append_s3 (by rfl) _ _ (by rfl) w.heap.size (.slice (some ⟨g, 0, none⟩) ls.length cq) ls (itb ((j : Int) - (i : Int)) ++ s.extract i (i + 1)) (by rfl) (by rfl) HO7.out (by omega) hsz7 ?_; intro g2 cap w8 hO8 hg8; (have HO8 := Lib.hid hO8); (have HB8 := Lib.hid (Chg.ext HB7.out hg8 (fun j hj => (HO7.out.ge j hj).1))); clear hO8 hg8))
           all_goals
             go_wp2_with fail
             go_roundw
             case rel => exact ⟨j, g2, cap, ls ++ [itb ((j : Int) - (i : Int)) ++ s.extract i (i + 1)], hj, rfl, by rw [List.length_append]; rfl, HNX3, Lib.hid (by rw [List.length_append]; exact HO8.out), HB8⟩
             case measure => simp [intOf]; omega
       · have hjs : j = s.size := by omega
         have f1 : ¬ (j : Int) < s.size := by omega
         have f2 : decide ((j : Int) < s.size) = false := decide_eq_false f1
         have f3 : decide (j < s.size) = false := decide_eq_false hjl
         have HE := Lib.hid (HR.out.stop (fun h => hjl h.1))
         clear hjs
         · go_wp2_with fail
           refine wp_region_quiet_below (by kernel_rfl) (by kernel_rfl) ?_
           repeat (go_big_quiet_step (fail))
           refine wpQuiet_nil ?_
           intro w' hw'
           obtain ⟨p, rfl⟩ := hw'
           have HB5 := Lib.hid (ext_trans HBB.out (below_regrown _ p.d p.os))
           clear hyi f2 f3
           have HNX2 := HNX.out
           have hkj := HE.out
           rw [hkj] at HNX2
           have hgt : i < j := by rw [← hkj]; exact rE_gt hlt
           have HTX : Hid (runT s i = itb ((j : Int) - (i : Int)) ++ s.extract i (i + 1)) := Lib.hid (by unfold runT; rw [hkj, Int.natCast_sub (by omega)])
           rw [HTX.out] at HNX2
           have HNX3 := Lib.hid HNX2
           clear HNX2 hkj HNX
           have HZ : Hid (∀ ls', rnL s = ls' → ls'.length ≤ 60) := Lib.hid fun ls' h => by rw [← h]; exact HRS.out.1
           have hz1 := itb_size ((j : Int) - (i : Int)) (by omega) (by omega)
           have g2 : (0 : Int) ≤ (i : Int) + 1 := by omega
           have g3 : (i : Int) + 1 ≤ s.size := by omega
           have g4 : (i : Int) ≤ (i : Int) + 1 := by omega
           have g5 : ((i : Int) + 1).toNat = i + 1 := by omega
           have g6 : IntKind.i64.wrap ((j : Int) - (i : Int)) = (j : Int) - i := IntWalk.i64_in _ (by omega)
           have g7 : IntKind.i64.wrap ((i : Int) + 1) = (i : Int) + 1 := IntWalk.i64_in _ (by omega)
           have c1 : ¬ 9223372036854775807 < (itb ((j : Int) - (i : Int))).size + (min (i + 1) s.size - i) := by omega
           have HO5 := Lib.hid (HO.out.ext HB5.out)
           have HB6 := Lib.hid (ext_trans HB.out HB5.out)
           have hsz5 := HB6.out.size
           have HDC := Lib.hid (fun w h => impl_Dec ((j : Int) - (i : Int)) (by omega) (by omega) w h)
           have hml : ls.length + 1 ≤ maxLen := by unfold maxLen; omega
           clear hz1
           generalize grow (redrawn wr p.d) p.os = w5 at *
           have HLW := Lib.hid (HLF.out w5.drew (ext_drew HB6.out))
           go_wp2_with fail
           go_region_law (first
             | (go_simp; refine (show Calls _ _ _ _ _ from HDC.out _ HLW.out).mono ?_; rintro e w6 ⟨rfl, hb6⟩; (have HB7 := Lib.hid (ext_trans (ext_drew HB6.out) hb6)); (have HO7 := Lib.hid ((HO5.out.ext (ext_drew (ext_refl _))).ext hb6)); (have hsz7 := HB7.out.size); clear hb6; dsimp only)
             | (refine step_append_s3 (by rfl) _ _ (by rfl) w.heap.size (.slice (some ⟨g, 0, none⟩) ls.length cq) ls (itb ((j : Int) - (i : Int)) ++ s.extract i (i + 1)) (by rfl) (by rfl) HO7.out (by omega) hsz7 ?_; intro g2 cap w8 hO8 hg8; (have HO8 := Lib.hid hO8); (have HB8 := Lib.hid (Chg.ext HB7.out hg8 (fun j hj => (HO7.out.ge j hj).1))); clear hO8 hg8))
           all_goals
             go_wp2_with fail
             go_roundw
             case rel => exact ⟨j, g2, cap, ls ++ [itb ((j : Int) - (i : Int)) ++ s.extract i (i + 1)], hj, rfl, by rw [List.length_append]; rfl, HNX3, Lib.hid (by rw [List.length_append]; exact HO8.out), HB8⟩
             case measure => simp [intOf]; omega
   · obtain rfl : i = s.size := by omega
     have HD := Lib.hid HT.out.done
     have e1 : ¬ (s.size : Int) < s.size := by omega
     have HJ := Lib.hid (impl_Join 32 g cq w.heap.size ls wr HO.out (by have := HRS.out.1; rw [HD.out] at this; omega) (fun t ht => by have := HRS.out.2 t (by rw [HD.out]; exact ht); omega))
     have HRT : Hid (rnT s = bsq (jnL 32 (ls.map (·.data.toList)))) := Lib.hid (by unfold rnT; rw [HD.out])
     go_wp2_with fail
     refine (show Calls _ _ _ _ _ from HJ.out).mono ?_
     rintro e w3 ⟨rfl, hb3⟩
     go_wp2_with fail
     go_ret
     exact ⟨by rw [HRT.out]; rfl, ext_trans HB.out hb3⟩
theorem rn_acc {s : ByteArray} (hs : s.size ≤ 60) {i : Nat} {ls : List ByteArray} (h : RnAt s i ls) : (bsq (jnL 32 (ls.map (·.data.toList)))).size ≤ 22 * ls.length := by
 obtain ⟨h1, h2, f, hf, h3⟩ := h
 rw [bsq_size]
 have : ∀ (p : List (List UInt8)), (∀ x ∈ p, x.length ≤ 21) → (jnL 32 p).length ≤ 22 * p.length := by
   intro p
   induction p with
   | nil => intro _; simp [jnL]
   | cons l t ih =>
     intro hh
     have h0 := hh l (by simp)
     cases t with
     | nil => simp [jnL]; omega
     | cons m t =>
       have ih := ih (fun x hx => hh x (List.mem_cons_of_mem _ hx))
       rw [jnL_cons _ _ (by simp), List.length_append, List.length_cons]
       simp only [List.length_cons] at ih ⊢
       omega
 have h4 := this (ls.map (·.data.toList)) (fun x hx => by
   obtain ⟨y, hy, rfl⟩ := List.mem_map.1 hx
   rw [size_toList]
   exact (rnL_sz hs).2 y (by rw [h3]; exact List.mem_append_left _ hy))
 rwa [List.length_map] at h4
theorem acc_nil (t : ByteArray) : bsq (jnL 32 ((([] : List ByteArray) ++ [t]).map (·.data.toList))) = t := by
 show bsq (jnL 32 [t.data.toList]) = t
 exact bsq_of t
theorem acc_snoc {ls : List ByteArray} (h : ls ≠ []) (t : ByteArray) : bsq (jnL 32 ((ls ++ [t]).map (·.data.toList))) = bsq (jnL 32 (ls.map (·.data.toList))) ++ ⟨#[32]⟩ ++ t := by
 rw [List.map_append]
 show bsq (jnL 32 (ls.map (·.data.toList) ++ [t.data.toList])) = _
 rw [jnL_snoc _ _ _ (by simpa using h)]
 apply ba_ext
 simp [ByteArray.data_append, bsq]
theorem acc_pos {ls : List ByteArray} {t : ByteArray} (ht : 1 ≤ t.size) : 0 < (bsq (jnL 32 ((ls ++ [t]).map (·.data.toList)))).size := by
 by_cases h : ls = []
 · subst h; rw [acc_nil]; exact ht
 · rw [acc_snoc h, ByteArray.size_append]; omega
theorem fin_nil (x : ByteArray) : x = bsq (jnL 32 ((([] : List ByteArray) ++ [x]).map (·.data.toList))) := (acc_nil x).symm
theorem fin_snoc {ls : List ByteArray} (h : ls ≠ []) {acc : ByteArray} (ha : acc = bsq (jnL 32 (ls.map (·.data.toList)))) (x : ByteArray) : acc ++ ⟨#[32]⟩ ++ x = bsq (jnL 32 ((ls ++ [x]).map (·.data.toList))) := by rw [acc_snoc h, ha]
set_option maxHeartbeats 6400000 in
theorem spec_Runs (s : ByteArray) (hs : s.size ≤ 60) (w : World) :
   Calls Tryz.prog 129 #[.string s] w (Ret (.string (rnT s)) w) := by
 have HS60 := Lib.hid hs
 go_enter Tryz.func129, Tryz.ntmps129
 go_wp2_with fail
 go_loopw [3, 4] (fun u i wr => ∃ (k : Nat) (ls : List ByteArray) (acc : ByteArray), k ≤ s.size ∧ i = .int .i64 k ∧ u = .string acc ∧ Hid (RnAt s k ls) ∧ Hid (acc = bsq (jnL 32 (ls.map (·.data.toList)))) ∧ Hid (ls ≠ [] → 0 < acc.size) ∧ Hid (Below w.heap.size w wr)) (fun _ i _ => s.size - (intOf i).toNat)
 case atStart => exact ⟨0, [], ⟨#[]⟩, Nat.zero_le _, rfl, rfl, Lib.hid (RnAt.zero s), Lib.hid rfl, Lib.hid (fun h => absurd rfl h), Lib.hid (ext_refl _)⟩
 case round =>
   obtain ⟨i, ls, acc, hi, rfl, rfl, HT, HA, HPOS, HB⟩ := hrel
   have e0 : (0 : Int) ≤ i := by omega
   have hsz := HB.out.size
   by_cases hlt : i < s.size
   · have e1 : (i : Int) < s.size := by omega
     have HNX := Lib.hid (HT.out.next hlt)
     have hls : ls.length ≤ 60 := by have := HT.out.2.1; omega
     have hacc : acc.size ≤ 2000 := by have := rn_acc HS60.out HT.out; rw [← HA.out] at this; omega
     have hyi := byt_eq s i hlt
     go_wp2_with fail
     go_loopw [5] (fun k wr2 => ∃ (j : Nat), j ≤ s.size ∧ k = .int .i64 j ∧ Hid (RunAt s i j) ∧ Hid (Below wr.heap.size wr wr2)) (fun k _ => s.size - (intOf k).toNat)
     case atStart => exact ⟨i, by omega, rfl, Lib.hid (RunAt.zero hi), Lib.hid (ext_refl _)⟩
     case round =>
       obtain ⟨j, hj, rfl, HR, HBB⟩ := hrel
       have f0 : (0 : Int) ≤ j := by omega
       by_cases hjl : j < s.size
       · have f1 : (j : Int) < s.size := by omega
         have f2 : decide ((j : Int) < s.size) = true := decide_eq_true f1
         have f3 : decide (j < s.size) = true := decide_eq_true hjl
         have hyj := byt_eq s j hjl
         by_cases hq : byt s j = byt s i
         · have HR2 := Lib.hid (HR.out.next hjl hq)
           rw [hq] at hyj
           go_wp2_with fail
           refine wp_region_quiet_below (by kernel_rfl) (by kernel_rfl) ?_
           repeat (go_big_quiet_step (fail))
           refine wpQuiet_nil ?_
           intro w' hw'
           obtain ⟨p, rfl⟩ := hw'
           have HB5 := Lib.hid (ext_trans HBB.out (below_regrown _ p.d p.os))
           go_wp2_with fail
           go_roundw
           case rel => exact ⟨j + 1, by omega, by go_num, HR2, HB5⟩
           case measure => simp [intOf]; omega
         · have HE := Lib.hid (HR.out.stop (fun h => hq h.2))
           have hq2 : (byt s j == byt s i) = false := beq_eq_false_iff_ne.2 hq
           by_cases hl0 : ls = []
           · subst hl0
             obtain rfl : acc = ⟨#[]⟩ := HA.out
             go_wp2_with fail
             refine wp_region_quiet_below (by kernel_rfl) (by kernel_rfl) ?_
             repeat (go_big_quiet_step (fail))
             refine wpQuiet_nil ?_
             intro w' hw'
             obtain ⟨p, rfl⟩ := hw'
             have HB5 := Lib.hid (ext_trans HBB.out (below_regrown _ p.d p.os))
             clear hyi hyj hq hq2 f2 f3
             have HNX2 := HNX.out
             have hkj := HE.out
             rw [hkj] at HNX2
             have hgt : i < j := by rw [← hkj]; exact rE_gt hlt
             have HTX : Hid (runT s i = itb ((j : Int) - (i : Int)) ++ s.extract i (i + 1)) := Lib.hid (by unfold runT; rw [hkj, Int.natCast_sub (by omega)])
             rw [HTX.out] at HNX2
             have HNX3 := Lib.hid HNX2
             clear HNX2 hkj HNX
             have hz1 := itb_size ((j : Int) - (i : Int)) (by omega) (by omega)
             have g2 : (0 : Int) ≤ (i : Int) + 1 := by omega
             have g3 : (i : Int) + 1 ≤ s.size := by omega
             have g4 : (i : Int) ≤ (i : Int) + 1 := by omega
             have g5 : ((i : Int) + 1).toNat = i + 1 := by omega
             have g6 : IntKind.i64.wrap ((j : Int) - (i : Int)) = (j : Int) - i := IntWalk.i64_in _ (by omega)
             have g7 : IntKind.i64.wrap ((i : Int) + 1) = (i : Int) + 1 := IntWalk.i64_in _ (by omega)
             have c1 : ¬ 9223372036854775807 < (itb ((j : Int) - (i : Int))).size + (min (i + 1) s.size - i) := by omega
             have c3 : ¬ 9223372036854775807 < 0 + 1 := by omega
             have HB6 := Lib.hid (ext_trans HB.out HB5.out)
             have HDC := Lib.hid (fun w => spec_Dec ((j : Int) - (i : Int)) (by omega) (by omega) w)
             obtain ⟨c4, c5⟩ : ¬ 9223372036854775807 < 0 + ((itb ((j : Int) - (i : Int))).size + (min (i + 1) s.size - i)) ∧ ¬ 9223372036854775807 < 0 + 1 + ((itb ((j : Int) - (i : Int))).size + (min (i + 1) s.size - i)) := ⟨by omega, by omega⟩
             have HPZ : Hid (1 ≤ (itb ((j : Int) - (i : Int)) ++ s.extract i (i + 1)).size) := Lib.hid (by rw [ByteArray.size_append, ByteArray.size_extract]; omega)
             generalize grow (redrawn wr p.d) p.os = w5 at *
             skip
             go_wp2_with fail
             refine wp_region_quiet_below (by kernel_rfl) (by kernel_rfl) ?_
             repeat (go_big_quiet_step ((go_at_call 114; exact regrown_r (HDC.out _))))
             refine wpQuiet_nil ?_
             intro w' hw'
             obtain ⟨p2, rfl⟩ := hw'
             have HB8 := Lib.hid (ext_trans HB6.out (below_regrown _ p2.d p2.os))
             go_wp2_with fail
             go_roundw
             case rel => exact ⟨j, ([] : List ByteArray) ++ [itb ((j : Int) - (i : Int)) ++ s.extract i (i + 1)], (itb ((j : Int) - (i : Int)) ++ s.extract i (i + 1)), hj, rfl, rfl, HNX3, Lib.hid ((fin_nil _)), Lib.hid (fun _ => by have hf : (itb ((j : Int) - (i : Int)) ++ s.extract i (i + 1)) = bsq (jnL 32 ((([] : List ByteArray) ++ [itb ((j : Int) - (i : Int)) ++ s.extract i (i + 1)]).map (·.data.toList))) := (fin_nil _); rw [hf]; exact acc_pos HPZ.out), HB8⟩
             case measure => simp [intOf]; omega
           · obtain ⟨z1, z2⟩ := str_some (HPOS.out hl0)
             have z3 : (acc.toList == []) = false := by cases h : acc.toList with | nil => exact absurd h z1 | cons a l => rfl
             have HL0 := Lib.hid hl0
             clear hl0
             go_wp2_with fail
             refine wp_region_quiet_below (by kernel_rfl) (by kernel_rfl) ?_
             repeat (go_big_quiet_step (fail))
             refine wpQuiet_nil ?_
             intro w' hw'
             obtain ⟨p, rfl⟩ := hw'
             have HB5 := Lib.hid (ext_trans HBB.out (below_regrown _ p.d p.os))
             clear hyi hyj hq hq2 f2 f3
             have HNX2 := HNX.out
             have hkj := HE.out
             rw [hkj] at HNX2
             have hgt : i < j := by rw [← hkj]; exact rE_gt hlt
             have HTX : Hid (runT s i = itb ((j : Int) - (i : Int)) ++ s.extract i (i + 1)) := Lib.hid (by unfold runT; rw [hkj, Int.natCast_sub (by omega)])
             rw [HTX.out] at HNX2
             have HNX3 := Lib.hid HNX2
             clear HNX2 hkj HNX
             have hz1 := itb_size ((j : Int) - (i : Int)) (by omega) (by omega)
             have g2 : (0 : Int) ≤ (i : Int) + 1 := by omega
             have g3 : (i : Int) + 1 ≤ s.size := by omega
             have g4 : (i : Int) ≤ (i : Int) + 1 := by omega
             have g5 : ((i : Int) + 1).toNat = i + 1 := by omega
             have g6 : IntKind.i64.wrap ((j : Int) - (i : Int)) = (j : Int) - i := IntWalk.i64_in _ (by omega)
             have g7 : IntKind.i64.wrap ((i : Int) + 1) = (i : Int) + 1 := IntWalk.i64_in _ (by omega)
             have c1 : ¬ 9223372036854775807 < (itb ((j : Int) - (i : Int))).size + (min (i + 1) s.size - i) := by omega
             have c3 : ¬ 9223372036854775807 < acc.size + 1 := by omega
             have HB6 := Lib.hid (ext_trans HB.out HB5.out)
             have HDC := Lib.hid (fun w => spec_Dec ((j : Int) - (i : Int)) (by omega) (by omega) w)
             obtain ⟨c4, c5⟩ : ¬ 9223372036854775807 < acc.size + ((itb ((j : Int) - (i : Int))).size + (min (i + 1) s.size - i)) ∧ ¬ 9223372036854775807 < acc.size + 1 + ((itb ((j : Int) - (i : Int))).size + (min (i + 1) s.size - i)) := ⟨by omega, by omega⟩
             have HPZ : Hid (1 ≤ (itb ((j : Int) - (i : Int)) ++ s.extract i (i + 1)).size) := Lib.hid (by rw [ByteArray.size_append, ByteArray.size_extract]; omega)
             generalize grow (redrawn wr p.d) p.os = w5 at *
             skip
             go_wp2_with fail
             refine wp_region_quiet_below (by kernel_rfl) (by kernel_rfl) ?_
             repeat (go_big_quiet_step ((go_at_call 114; exact regrown_r (HDC.out _))))
             refine wpQuiet_nil ?_
             intro w' hw'
             obtain ⟨p2, rfl⟩ := hw'
             have HB8 := Lib.hid (ext_trans HB6.out (below_regrown _ p2.d p2.os))
             go_wp2_with fail
             go_roundw
             case rel => exact ⟨j, ls ++ [itb ((j : Int) - (i : Int)) ++ s.extract i (i + 1)], (acc ++ ⟨#[32]⟩ ++ (itb ((j : Int) - (i : Int)) ++ s.extract i (i + 1))), hj, rfl, rfl, HNX3, Lib.hid ((fin_snoc HL0.out HA.out _)), Lib.hid (fun _ => by have hf : (acc ++ ⟨#[32]⟩ ++ (itb ((j : Int) - (i : Int)) ++ s.extract i (i + 1))) = bsq (jnL 32 ((ls ++ [itb ((j : Int) - (i : Int)) ++ s.extract i (i + 1)]).map (·.data.toList))) := (fin_snoc HL0.out HA.out _); rw [hf]; exact acc_pos HPZ.out), HB8⟩
             case measure => simp [intOf]; omega
       · have f1 : ¬ (j : Int) < s.size := by omega
         have f2 : decide ((j : Int) < s.size) = false := decide_eq_false f1
         have f3 : decide (j < s.size) = false := decide_eq_false hjl
         have HE := Lib.hid (HR.out.stop (fun h => hjl h.1))
         by_cases hl0 : ls = []
         · subst hl0
           obtain rfl : acc = ⟨#[]⟩ := HA.out
           go_wp2_with fail
           refine wp_region_quiet_below (by kernel_rfl) (by kernel_rfl) ?_
           repeat (go_big_quiet_step (fail))
           refine wpQuiet_nil ?_
           intro w' hw'
           obtain ⟨p, rfl⟩ := hw'
           have HB5 := Lib.hid (ext_trans HBB.out (below_regrown _ p.d p.os))
           clear hyi f2 f3
           have HNX2 := HNX.out
           have hkj := HE.out
           rw [hkj] at HNX2
           have hgt : i < j := by rw [← hkj]; exact rE_gt hlt
           have HTX : Hid (runT s i = itb ((j : Int) - (i : Int)) ++ s.extract i (i + 1)) := Lib.hid (by unfold runT; rw [hkj, Int.natCast_sub (by omega)])
           rw [HTX.out] at HNX2
           have HNX3 := Lib.hid HNX2
           clear HNX2 hkj HNX
           have hz1 := itb_size ((j : Int) - (i : Int)) (by omega) (by omega)
           have g2 : (0 : Int) ≤ (i : Int) + 1 := by omega
           have g3 : (i : Int) + 1 ≤ s.size := by omega
           have g4 : (i : Int) ≤ (i : Int) + 1 := by omega
           have g5 : ((i : Int) + 1).toNat = i + 1 := by omega
           have g6 : IntKind.i64.wrap ((j : Int) - (i : Int)) = (j : Int) - i := IntWalk.i64_in _ (by omega)
           have g7 : IntKind.i64.wrap ((i : Int) + 1) = (i : Int) + 1 := IntWalk.i64_in _ (by omega)
           have c1 : ¬ 9223372036854775807 < (itb ((j : Int) - (i : Int))).size + (min (i + 1) s.size - i) := by omega
           have c3 : ¬ 9223372036854775807 < 0 + 1 := by omega
           have HB6 := Lib.hid (ext_trans HB.out HB5.out)
           have HDC := Lib.hid (fun w => spec_Dec ((j : Int) - (i : Int)) (by omega) (by omega) w)
           obtain ⟨c4, c5⟩ : ¬ 9223372036854775807 < 0 + ((itb ((j : Int) - (i : Int))).size + (min (i + 1) s.size - i)) ∧ ¬ 9223372036854775807 < 0 + 1 + ((itb ((j : Int) - (i : Int))).size + (min (i + 1) s.size - i)) := ⟨by omega, by omega⟩
           have HPZ : Hid (1 ≤ (itb ((j : Int) - (i : Int)) ++ s.extract i (i + 1)).size) := Lib.hid (by rw [ByteArray.size_append, ByteArray.size_extract]; omega)
           generalize grow (redrawn wr p.d) p.os = w5 at *
           skip
           go_wp2_with fail
           refine wp_region_quiet_below (by kernel_rfl) (by kernel_rfl) ?_
           repeat (go_big_quiet_step ((go_at_call 114; exact regrown_r (HDC.out _))))
           refine wpQuiet_nil ?_
           intro w' hw'
           obtain ⟨p2, rfl⟩ := hw'
           have HB8 := Lib.hid (ext_trans HB6.out (below_regrown _ p2.d p2.os))
           go_wp2_with fail
           go_roundw
           case rel => exact ⟨j, ([] : List ByteArray) ++ [itb ((j : Int) - (i : Int)) ++ s.extract i (i + 1)], (itb ((j : Int) - (i : Int)) ++ s.extract i (i + 1)), hj, rfl, rfl, HNX3, Lib.hid ((fin_nil _)), Lib.hid (fun _ => by have hf : (itb ((j : Int) - (i : Int)) ++ s.extract i (i + 1)) = bsq (jnL 32 ((([] : List ByteArray) ++ [itb ((j : Int) - (i : Int)) ++ s.extract i (i + 1)]).map (·.data.toList))) := (fin_nil _); rw [hf]; exact acc_pos HPZ.out), HB8⟩
           case measure => simp [intOf]; omega
         · obtain ⟨z1, z2⟩ := str_some (HPOS.out hl0)
           have z3 : (acc.toList == []) = false := by cases h : acc.toList with | nil => exact absurd h z1 | cons a l => rfl
           have HL0 := Lib.hid hl0
           clear hl0
           go_wp2_with fail
           refine wp_region_quiet_below (by kernel_rfl) (by kernel_rfl) ?_
           repeat (go_big_quiet_step (fail))
           refine wpQuiet_nil ?_
           intro w' hw'
           obtain ⟨p, rfl⟩ := hw'
           have HB5 := Lib.hid (ext_trans HBB.out (below_regrown _ p.d p.os))
           clear hyi f2 f3
           have HNX2 := HNX.out
           have hkj := HE.out
           rw [hkj] at HNX2
           have hgt : i < j := by rw [← hkj]; exact rE_gt hlt
           have HTX : Hid (runT s i = itb ((j : Int) - (i : Int)) ++ s.extract i (i + 1)) := Lib.hid (by unfold runT; rw [hkj, Int.natCast_sub (by omega)])
           rw [HTX.out] at HNX2
           have HNX3 := Lib.hid HNX2
           clear HNX2 hkj HNX
           have hz1 := itb_size ((j : Int) - (i : Int)) (by omega) (by omega)
           have g2 : (0 : Int) ≤ (i : Int) + 1 := by omega
           have g3 : (i : Int) + 1 ≤ s.size := by omega
           have g4 : (i : Int) ≤ (i : Int) + 1 := by omega
           have g5 : ((i : Int) + 1).toNat = i + 1 := by omega
           have g6 : IntKind.i64.wrap ((j : Int) - (i : Int)) = (j : Int) - i := IntWalk.i64_in _ (by omega)
           have g7 : IntKind.i64.wrap ((i : Int) + 1) = (i : Int) + 1 := IntWalk.i64_in _ (by omega)
           have c1 : ¬ 9223372036854775807 < (itb ((j : Int) - (i : Int))).size + (min (i + 1) s.size - i) := by omega
           have c3 : ¬ 9223372036854775807 < acc.size + 1 := by omega
           have HB6 := Lib.hid (ext_trans HB.out HB5.out)
           have HDC := Lib.hid (fun w => spec_Dec ((j : Int) - (i : Int)) (by omega) (by omega) w)
           obtain ⟨c4, c5⟩ : ¬ 9223372036854775807 < acc.size + ((itb ((j : Int) - (i : Int))).size + (min (i + 1) s.size - i)) ∧ ¬ 9223372036854775807 < acc.size + 1 + ((itb ((j : Int) - (i : Int))).size + (min (i + 1) s.size - i)) := ⟨by omega, by omega⟩
           have HPZ : Hid (1 ≤ (itb ((j : Int) - (i : Int)) ++ s.extract i (i + 1)).size) := Lib.hid (by rw [ByteArray.size_append, ByteArray.size_extract]; omega)
           generalize grow (redrawn wr p.d) p.os = w5 at *
           skip
           go_wp2_with fail
           refine wp_region_quiet_below (by kernel_rfl) (by kernel_rfl) ?_
           repeat (go_big_quiet_step ((go_at_call 114; exact regrown_r (HDC.out _))))
           refine wpQuiet_nil ?_
           intro w' hw'
           obtain ⟨p2, rfl⟩ := hw'
           have HB8 := Lib.hid (ext_trans HB6.out (below_regrown _ p2.d p2.os))
           go_wp2_with fail
           go_roundw
           case rel => exact ⟨j, ls ++ [itb ((j : Int) - (i : Int)) ++ s.extract i (i + 1)], (acc ++ ⟨#[32]⟩ ++ (itb ((j : Int) - (i : Int)) ++ s.extract i (i + 1))), hj, rfl, rfl, HNX3, Lib.hid ((fin_snoc HL0.out HA.out _)), Lib.hid (fun _ => by have hf : (acc ++ ⟨#[32]⟩ ++ (itb ((j : Int) - (i : Int)) ++ s.extract i (i + 1))) = bsq (jnL 32 ((ls ++ [itb ((j : Int) - (i : Int)) ++ s.extract i (i + 1)]).map (·.data.toList))) := (fin_snoc HL0.out HA.out _); rw [hf]; exact acc_pos HPZ.out), HB8⟩
           case measure => simp [intOf]; omega
   · obtain rfl : i = s.size := by omega
     have HD := Lib.hid HT.out.done
     have e1 : ¬ (s.size : Int) < s.size := by omega
     have HRT : Hid (rnT s = acc) := Lib.hid (by unfold rnT; rw [HD.out]; exact HA.out.symm)
     go_wp2_with fail
     go_ret
     exact ⟨by rw [HRT.out]; rfl, HB.out⟩
theorem ExP.rows {r : DK × List ByteArray × Int} {W W2 : World} {B0 q : Nat} {d : DK} {ls : List ByteArray} {u : Value} {A : Option Addr} {c : Nat} {B : Option Addr} {e : Nat} (hr : r = (d, ls, 0)) (hD : DB W B0 q d A c B e) (hB : B0 ≤ W.heap.size) (hb : Below W.heap.size W W2) (hO : OStr W2 W.heap.size u ls) :
   ExP r W B0 q (.returned (.tuple #[u, .int .i64 0])) W2 := by
 subst hr
 have hl := hD.lt
 refine ⟨_, rfl, Chg.of_below hb _, fun _ => ⟨A, c, B, e, hD.ext hb, hO.mono hB, fun k hk => ?_⟩⟩
 have h0 := (hO.ge k hk).1
 refine ⟨by omega, fun h => ?_, fun h => ?_⟩
 · have := (hD.own.1.ge _ h).2; omega
 · have := (hD.own.2.1.ge _ h).2; omega
set_option maxHeartbeats 1600000 in
theorem impl_okLine (A : Option Addr) (c : Nat) (ls : List ByteArray) (base : Nat) (w : World) (hO : OStr w base (.slice A ls.length c) ls) (hl : ls.length ≤ 4000) (hb : base ≤ w.heap.size) (hL : LayF w) :
   Calls Tryz.prog 91 #[.slice A ls.length c] w (fun e w' => ∃ A2 c2, e = .returned (.slice A2 (ls.length + 1) c2) ∧ OStr w' base (.slice A2 (ls.length + 1) c2) (ls ++ [okT ls.length]) ∧ Chg (BI (.slice A ls.length c)) w w') := by
 have HO := Lib.hid hO
 have HDE := Lib.hid (impl_Dec (ls.length : Int) (by omega) (by omega) w hL)
 have hz := itb_size (ls.length : Int) (by omega) (by omega)
 have c1 : ¬ 9223372036854775807 < 3 + (itb (ls.length : Int)).size := by omega
 obtain ⟨t, ht⟩ : ∃ t, itb (ls.length : Int) = t := ⟨_, rfl⟩
 have HT : Hid (okT ls.length = ⟨#[111, 107, 32]⟩ ++ t) := Lib.hid (by rw [← ht]; rfl)
 rw [ht] at HDE c1
 clear ht hz hL hO
 have HLN := Lib.hid hl
 have HBA := Lib.hid hb
 clear hl hb
 go_enter Tryz.func91, Tryz.ntmps91
 go_wp2_with fail
 refine (show Calls _ _ _ _ _ from HDE.out).mono ?_
 rintro e w1 ⟨rfl, hb⟩
 have HB := Lib.hid hb
 have HO1 := Lib.hid (HO.out.ext hb)
 have hb1 : base ≤ w1.heap.size := Nat.le_trans HBA.out hb.size
 clear hb
 go_wp2_with (at_builtin; refine wpList_append_str rfl _ _ rfl base (.slice A ls.length c) ls _ rfl rfl HO1.out (by have := HLN.out; omega) hb1 ?_; intro g2 cap w4 hO4 hg4 hlt4)
 go_ret
 refine ⟨some ⟨g2, 0, none⟩, cap, rfl, ?_, (Chg.of_below HB.out _).trans hg4⟩
 rw [HT.out]
 exact hO4
set_option maxHeartbeats 3200000 in
theorem impl_ex_show (w00 W : World) (q : Nat) (d : DK) (A : Option Addr) (c : Nat) (B : Option Addr) (e : Nat) (hD : DB W w00.heap.size q d A c B e) (hb0 : Below w00.heap.size w00 W) (Aw : Option Addr) (cw : Nat) (l : List ByteArray) (hw : RStr W (.slice Aw l.length cw) l) (hl : l.length = 1) (hx : gd l 0 = cmW .show_) (nv : Value) (hE : Env w00) (hV : vDK d = true) :
   Calls Tryz.prog 44 #[.pointer (some ⟨q, 0, none⟩), .slice Aw l.length cw, nv] W (ExP (exShow d) W w00.heap.size q) := by
 have HD := Lib.hid hD
 have HB0 := Lib.hid hb0
 obtain ⟨ad, rfl, _, hc⟩ := hw.at (k := 0) (by omega)
 have w0 := hc 0 (by omega)
 rw [Addr.add_zero'] at w0
 obtain ⟨x0, hx0⟩ : ∃ x, gd l 0 = x := ⟨_, rfl⟩
 rw [hx0] at w0 hx
 have hx0 := hx
 obtain ⟨p0, q0⟩ := lit_neC (x := x0) (l := [102, 111, 114, 109, 97, 116]) (by rw [hx0]; decide)
 obtain ⟨p1, q1⟩ := lit_neC (x := x0) (l := [98, 111, 110, 100]) (by rw [hx0]; decide)
 obtain ⟨p2, q2⟩ := lit_neC (x := x0) (l := [119, 97, 108, 108]) (by rw [hx0]; decide)
 have he : x0.toList = [115, 104, 111, 119] := by rw [hx0, ByteArray.toList_eq]; rfl
 have i0 : (0 : Int) < l.length := by omega
 have HLF : Hid (∀ W', Below W.heap.size W W' → LayF W') := Lib.hid fun W' h => (hE.ext (ext_trans hb0 h)).lay
 have hwl := (vDK_sizes hV).2.1
 have HVC : Hid (∀ k, k < d.wall.length → vCo (gd d.wall k) = true) := Lib.hid (fun k hk => by
   rcases (vDK_parts hV).2.2.1 with h | h
   · omega
   · exact (vW_parts h).2.2 k hk)
 have HRW := Lib.hid hD.own.2.1.rd
 have HEX : Hid (exShow d = (d, d.wall.map rnT ++ [okT d.wall.length], 0)) := Lib.hid rfl
 obtain ⟨wl, hwl2⟩ : ∃ x, d.wall = x := ⟨_, rfl⟩
 have k6 := HD.out.cells.k6
 rw [hwl2] at hwl HVC HRW HEX k6
 obtain ⟨_, _, _, r1, r2⟩ := HRW.out.open_
 unfold maxLen at r2
 replace k6 := fun o => cell_keep k6 (ext_alloc1 W o)
 clear hwl2 hV hE hD hw hx hx0 hc hl hb0
 go_enter Tryz.func44, Tryz.ntmps44
 go_wp2_with fail
 go_loopw [14, 114] (fun u i wr => ∃ (k g cq : Nat), k ≤ wl.length ∧ i = .int .i64 k ∧ u = .slice (some ⟨g, 0, none⟩) k cq ∧ Hid (OStr wr W.heap.size (.slice (some ⟨g, 0, none⟩) k cq) ((wl.take k).map rnT)) ∧ Hid (Below W.heap.size W wr)) (fun _ i _ => wl.length - (intOf i).toNat)
 case atStart => exact ⟨0, W.heap.size, 0, Nat.zero_le _, rfl, rfl, Lib.hid (ostr_lit _ _ (Nat.le_refl _)), Lib.hid (ext_alloc1 _ _)⟩
 case round =>
   obtain ⟨k, g, cq, hk, rfl, rfl, HO, HB⟩ := hrel
   have e1 : (0 : Int) ≤ k := by omega
   have hsz := HB.out.size
   by_cases hlt : k < wl.length
   · have e2 : (k : Int) < wl.length := by omega
     obtain ⟨bd, rfl, _, hd⟩ := (HRW.out.ext HB.out).at hlt
     have hdk := hd k hlt
     have HCR := Lib.hid (fun W' h => impl_CourseRuns (gd wl k) (HVC.out k hlt) W' (HLF.out W' h))
     have HS : Hid ((wl.take (k + 1)).map rnT = (wl.take k).map rnT ++ [rnT (gd wl k)]) := Lib.hid (by rw [take_gd hlt, List.map_append]; rfl)
     have HKL : Hid (((wl.take k).map rnT).length = k) := Lib.hid (by rw [List.length_map, List.length_take]; omega)
     obtain ⟨s, hs⟩ : ∃ s, gd wl k = s := ⟨_, rfl⟩
     rw [hs] at hdk HCR HS
     obtain ⟨t, ht⟩ : ∃ t, rnT s = t := ⟨_, rfl⟩
     rw [ht] at HCR HS
     clear hd hs ht
     obtain ⟨ls, hls⟩ : ∃ ls, (wl.take k).map rnT = ls := ⟨_, rfl⟩
     rw [hls] at HO HS HKL
     clear hls
     go_wp2_with fail
     refine (show Calls _ _ _ _ _ from HCR.out _ HB.out).mono ?_
     rintro e' w3 ⟨rfl, hb3⟩
     have HB3 := Lib.hid (ext_trans HB.out hb3)
     have HO3 := Lib.hid (HO.out.ext hb3)
     have hsz3 := HB3.out.size
     clear hb3 hdk
     go_wp2_with (at_builtin; refine wpList_append_str rfl _ _ rfl W.heap.size (.slice (some ⟨g, 0, none⟩) k cq) ls t rfl rfl HO3.out (by rw [HKL.out]; omega) hsz3 ?_; intro g2 cap w4 hO4 hg4 hlt4)
     go_roundw
     case rel =>
       refine ⟨k + 1, g2, cap, by omega, by go_num, by rw [HKL.out], Lib.hid ?_, Lib.hid (Chg.ext HB3.out hg4 (fun j hj => (HO3.out.ge j hj).1))⟩
       rw [HS.out]
       rw [HKL.out] at hO4
       exact hO4
     case measure => simp [intOf]; omega
   · obtain rfl : k = wl.length := by omega
     rw [List.take_length] at HO
     have HKL : Hid ((wl.map rnT).length = wl.length) := Lib.hid (List.length_map ..)
     have HOK := Lib.hid (impl_okLine (some ⟨g, 0, none⟩) cq (wl.map rnT) W.heap.size wr (by rw [HKL.out]; exact HO.out) (by rw [HKL.out]; omega) hsz (HLF.out _ HB.out))
     rw [HKL.out] at HOK
     go_wp2_with fail
     refine (show Calls _ _ _ _ _ from HOK.out).mono ?_
     rintro e' w4 ⟨A2, c2, rfl, hO4, hg4⟩
     have HO4 := Lib.hid hO4
     have HB4 := Lib.hid (Chg.ext HB.out hg4 (fun j hj => (HO.out.ge j hj).1))
     clear hO4 hg4 HOK
     go_wp2_with fail
     go_ret2
     exact ExP.rows HEX.out HD.out HB0.out.size HB4.out HO4.out
end Go.Proofs.YtfgopboddkhckaaGreatDoor
