/-
  Parts of the proof: Cpy, CnV.
-/
import Derived.Test.YtfgopboddkhckaaGreatDoorKw19
namespace Go.Proofs.YtfgopboddkhckaaGreatDoor
open Go.ChangeShapes Go.WideShapes Go.ChangeAt Go.RowKit Go.Sort Go.Joins
set_option linter.unusedVariables false
set_option maxRecDepth 100000
theorem eql_nilS (w : World) (a : Option Addr) (n c : Nat) : (binOp .eql 29 (.slice a n c) (.slice none 0 0)).run Tryz.prog w = .ok (.bool a.isNone) w := Lib.run_eql_slice_nil w _ _ a n c 0 0 Tryz.underlying29
theorem eql_nilC (w : World) (a : Option Addr) (n c : Nat) : (binOp .eql 34 (.slice a n c) (.slice none 0 0)).run Tryz.prog w = .ok (.bool a.isNone) w := Lib.run_eql_slice_nil w _ _ a n c 0 0 Tryz.underlying34
attribute [local go_sem] eql_nilS eql_nilC
theorem clone_S (A0 : Option Addr) (c0 : Nat) (xs : List ByteArray) (w : World) (hR : RStr w (.slice A0 xs.length c0) xs) (hsm : xs.length ≤ 1048576) :
   Calls Tryz.prog 83 #[.slice A0 xs.length c0] w fun e w' => ∃ A c, e = .returned (.slice A xs.length c) ∧ OStr w' w.heap.size (.slice A xs.length c) xs ∧ Below w.heap.size w w' := by
 have HR := Lib.hid hR
 rcases A0 with _ | ad
 · have hn : xs = [] := by
     rcases Nat.eq_zero_or_pos xs.length with h0 | h0
     · exact List.eq_nil_of_length_eq_zero h0
     · obtain ⟨ad, h, _⟩ := hR.at h0
       cases h
   subst hn
   have hc0 : c0 = c0 := rfl
   go_enter Tryz.func83, Tryz.ntmps83
   go_wp2_with fail
   go_ret
   exact ⟨none, 0, rfl, World.ownsRow_nil _ _ _ _, ext_refl _⟩
 · clear hR
   go_enter Tryz.func83, Tryz.ntmps83
   go_wp2_with (at_builtin; refine wpList_append_rs rfl _ _ rfl w.heap.size (.slice (some ⟨w.heap.size, 0, none⟩) 0 0) _ [] xs rfl rfl (World.ownsRow_lit _ #[] 0 (Nat.le_refl _) (by simp [maxLen]) (by simp)) (HR.out.ext (ext_alloc1 _ _)) (by simp) (by omega) (by simp) ?_; intro A1 c1 w1 hO1 hg1)
   go_ret
   simp only [List.length_nil, Nat.zero_add, List.nil_append] at *
   refine ⟨A1, c1, rfl, hO1, ?_⟩
   exact Chg.ext (w0 := w) (ext_alloc1 _ _) hg1 (fun k hk => by simp [BI, Value.ownBlock] at hk; omega)
theorem clone_C (A0 : Option Addr) (c0 : Nat) (xs : List CO) (w : World) (hR : RCOS w (.slice A0 xs.length c0) xs) (hsm : xs.length ≤ 1048576) :
   Calls Tryz.prog 82 #[.slice A0 xs.length c0] w fun e w' => ∃ A c, e = .returned (.slice A xs.length c) ∧ OCOS w' w.heap.size (.slice A xs.length c) xs ∧ Below w.heap.size w w' := by
 have HR := Lib.hid hR
 rcases A0 with _ | ad
 · have hn : xs = [] := by
     rcases Nat.eq_zero_or_pos xs.length with h0 | h0
     · exact List.eq_nil_of_length_eq_zero h0
     · obtain ⟨ad, h, _⟩ := hR.at h0
       cases h
   subst hn
   have hc0 : c0 = c0 := rfl
   go_enter Tryz.func82, Tryz.ntmps82
   go_wp2_with fail
   go_ret
   exact ⟨none, 0, rfl, World.ownsRow_nil _ _ _ _, ext_refl _⟩
 · clear hR
   go_enter Tryz.func82, Tryz.ntmps82
   go_wp2_with (at_builtin; refine wpList_append_rc rfl _ _ rfl w.heap.size (.slice (some ⟨w.heap.size, 0, none⟩) 0 0) _ [] xs rfl rfl (World.ownsRow_lit _ #[] 0 (Nat.le_refl _) (by simp [maxLen]) (by simp)) (HR.out.ext (ext_alloc1 _ _)) (by simp) (by omega) (by simp) ?_; intro A1 c1 w1 hO1 hg1)
   go_ret
   simp only [List.length_nil, Nat.zero_add, List.nil_append] at *
   refine ⟨A1, c1, rfl, hO1, ?_⟩
   exact Chg.ext (w0 := w) (ext_alloc1 _ _) hg1 (fun k hk => by simp [BI, Value.ownBlock] at hk; omega)
abbrev dkCells (d : DK) (A : Option Addr) (c : Nat) (B : Option Addr) (e : Nat) : List Value := [.int .i64 d.f.l, .int .i64 d.f.w, .int .i64 d.f.h, .int .i64 d.f.j, .string d.nm, .slice A d.cs.length c, .slice B d.wall.length e, .string d.log]
abbrev dkZero : List Value := [.int .i64 0, .int .i64 0, .int .i64 0, .int .i64 0, .string ⟨#[]⟩, .slice none 0 0, .slice none 0 0, .string ⟨#[]⟩]
set_option maxHeartbeats 6400000 in
theorem impl_copyDesk (v : Value) (d : DK) (w : World) (ha : RDK w v d) (hsm : SmDK d) :
   Calls Tryz.prog 41 #[v] w fun e w' => ∃ v', e = .returned v' ∧ ODK w' w.heap.size v' d ∧ Below w.heap.size w w' := by
 obtain ⟨A, c, B, e, rfl, hcs, hwl⟩ := ha
 have hl1 : d.cs.length ≤ 1048576 := by unfold SmDK totDK at hsm; omega
 have hl2 : d.wall.length ≤ 1048576 := by unfold SmDK totDK at hsm; omega
 have HC := Lib.hid (fun W (h : Below w.heap.size w W) => clone_C A c d.cs W (hcs.ext h) hl1)
 have HW := Lib.hid (fun W (h : Below w.heap.size w W) => clone_S B e d.wall W (hwl.ext h) hl2)
 clear hcs hwl hsm hl1 hl2
 have HT : Hid (TB w ((w.alloc (.cells #[.int .i64 d.f.l, .int .i64 d.f.w, .int .i64 d.f.h, .int .i64 d.f.j, .string d.nm, .slice A d.cs.length c, .slice B d.wall.length e, .string d.log] 38)).alloc (.cells #[.int .i64 0, .int .i64 0, .int .i64 0, .int .i64 0, .string ⟨#[]⟩, .slice none 0 0, .slice none 0 0, .string ⟨#[]⟩] 38)) (w.heap.size + 1) w.heap.size (w.heap.size + 1) [] (dkCells d A c B e) dkZero) := Lib.hid (by
   refine ⟨ext_alloc (ext_alloc1 w _) _, Nat.le_refl _, by omega, by omega, by omega, by simp, by simp; omega, by simp, ?_, ?_, ?_, ?_, ?_⟩
   · intro j v hv; simp at hv
   · intro j v hv
     obtain ⟨hj, rfl⟩ := List.getElem?_eq_some_iff.1 hv
     match j, hj with
     | 0, _ | 1, _ | 2, _ | 3, _ | 4, _ | 5, _ | 6, _ | 7, _ => simp [go_sem]
   · intro j v hv
     obtain ⟨hj, rfl⟩ := List.getElem?_eq_some_iff.1 hv
     match j, hj with
     | 0, _ | 1, _ | 2, _ | 3, _ | 4, _ | 5, _ | 6, _ | 7, _ => simp [go_sem]
   · intro j; simp [go_sem]
   · intro j; simp [go_sem])
 go_enter Tryz.func41, Tryz.ntmps41
 go_wp2_with fail
 generalize ((w.alloc (.cells #[.int .i64 d.f.l, .int .i64 d.f.w, .int .i64 d.f.h, .int .i64 d.f.j, .string d.nm, .slice A d.cs.length c, .slice B d.wall.length e, .string d.log] 38)).alloc (.cells #[.int .i64 0, .int .i64 0, .int .i64 0, .int .i64 0, .string ⟨#[]⟩, .slice none 0 0, .slice none 0 0, .string ⟨#[]⟩] 38)) = w1 at *
 generalize w.heap.size + 1 = r at *
 obtain ⟨q, hq⟩ : ∃ q, w.heap.size = q := ⟨_, rfl⟩
 have HQ := Lib.hid hq
 have o5 : w1.cell? ⟨q, 5, none⟩ = some (.slice A d.cs.length c) := by rw [← hq]; exact HT.out.co 5 _ rfl
 have o6 : w1.cell? ⟨q, 6, none⟩ = some (.slice B d.wall.length e) := by rw [← hq]; exact HT.out.co 6 _ rfl
 rw [hq] at HT
 simp only [hq]
 clear hq
 have hqlt := HT.out.hq2
 have HRL := Lib.hid HT.out.hr2
 have f := HT.out.fr
 go_region_law (first
   | (go_simp; refine (show Calls _ _ _ _ _ from HC.out _ (ext_drew HT.out.b)).mono ?_; rintro e' w3 ⟨A2, c2, rfl, hO2, hb2⟩; (have HT3 := Lib.hid ((HT.out.ext (ext_drew (ext_refl _))).ext hb2)); (have HO3 := Lib.hid hO2); (have p5 := HT3.out.co 5 _ rfl); (have p6 := HT3.out.co 6 _ rfl); (have HZ3 := Lib.hid hb2.size); clear hb2 hO2; dsimp only)
   | (go_simp; refine (show Calls _ _ _ _ _ from HW.out _ HT3.out.b).mono ?_; rintro e' w4 ⟨A3, c3, rfl, hO3, hb3⟩; (have HT4 := Lib.hid (HT3.out.ext hb3)); (have HO4 := Lib.hid (HO3.out.ext hb3)); (have HP4 := Lib.hid hO3); (have HG4 := Lib.hid HO3.out.ge); (have z5 := hb3.size); (have s5 := HT4.out.co 5 _ rfl); (have s6 := HT4.out.co 6 _ rfl); (have sf := HT4.out.fr); clear hb3 hO3; dsimp only))
 all_goals
   simp only [World.size_drew] at HO4 HP4 HG4 z5
   have HT5 := Lib.hid ((HT4.out.set 5 (by simp) (.slice A2 d.cs.length c2)).set 6 (by simp) (.slice A3 d.wall.length c3))
   have HO5 := Lib.hid ((HO4.out.put hqlt 5 (.slice A2 d.cs.length c2)).put hqlt 6 (.slice A3 d.wall.length c3))
   have z3 : w1.heap.size ≤ w3.heap.size := HZ3.out
   have HP5 := Lib.hid ((HP4.out.put (show q < w3.heap.size by omega) 5 (.slice A2 d.cs.length c2)).put (show q < w3.heap.size by omega) 6 (.slice A3 d.wall.length c3))
   have HAP : Hid (∀ k, BI (.slice A2 d.cs.length c2) k → ¬ BI (.slice A3 d.wall.length c3) k) := Lib.hid (fun k h1 h2 => by have g1 := (HG4.out k h1).2; have g2 := (HP4.out.ge k h2).1; omega)
   clear HT HT3 HT4 HO3 HO4 HP4 HG4 p5 p6 s5 s6 sf o5 o6 f
   obtain ⟨w5, hw5⟩ : ∃ x, ((w4.setCell ⟨q, 5, none⟩ (.slice A2 d.cs.length c2)).setCell ⟨q, 6, none⟩ (.slice A3 d.wall.length c3)) = x := ⟨_, rfl⟩
   rw [hw5] at HT5 HO5 HP5
   rw [hw5]
   have z6 : w4.heap.size = w5.heap.size := by rw [← hw5]; simp
   clear hw5
   have o0 := HT5.out.co 0 _ rfl
   have o1 := HT5.out.co 1 _ rfl
   have o2 := HT5.out.co 2 _ rfl
   have o3 := HT5.out.co 3 _ rfl
   have o4 := HT5.out.co 4 _ rfl
   have o5 := HT5.out.co 5 _ rfl
   have o6 := HT5.out.co 6 _ rfl
   have o7 := HT5.out.co 7 _ rfl
   have r0 := HT5.out.cr 0 _ rfl
   have r1 := HT5.out.cr 1 _ rfl
   have r2 := HT5.out.cr 2 _ rfl
   have r3 := HT5.out.cr 3 _ rfl
   have r4 := HT5.out.cr 4 _ rfl
   have r5 := HT5.out.cr 5 _ rfl
   have r6 := HT5.out.cr 6 _ rfl
   have r7 := HT5.out.cr 7 _ rfl
   have fz := HT5.out.fz
   have nr := HT5.out.nr
   have nr2 := nr.symm
   have hrr := HT5.out.hr
   have hrlt := HRL.out
   have hwq := HQ.out
   go_wp2_with fail
   refine bodyPost_ret (v := .agg #[.int .i64 d.f.l, .int .i64 d.f.w, .int .i64 d.f.h, .int .i64 d.f.j, .string d.nm, .slice A2 d.cs.length c2, .slice A3 d.wall.length c3, .string d.log]) (by simp [results, Tryz.results41, go_sem, r0, r1, r2, r3, r4, r5, r6, r7]) rfl ⟨_, rfl, ⟨_, _, _, _, rfl, ?_, ?_, HAP.out⟩, ?_⟩
   · exact ((((((((HO5.out.put hrlt 0 _).put hrlt 1 _).put hrlt 2 _).put hrlt 3 _).put hrlt 4 _).put hrlt 5 _).put hrlt 6 _).put hrlt 7 _).mono (by omega)
   · have z8 : r < w3.heap.size := by omega
     exact ((((((((HP5.out.put z8 0 _).put z8 1 _).put z8 2 _).put z8 3 _).put z8 4 _).put z8 5 _).put z8 6 _).put z8 7 _).mono (by omega)
   · have z9 : ∀ j, w.heap.size ≤ (⟨r, j, none⟩ : Addr).block := fun _ => hrr
     exact ext_set (ext_set (ext_set (ext_set (ext_set (ext_set (ext_set (ext_set HT5.out.b (z9 0) _) (z9 1) _) (z9 2) _) (z9 3) _) (z9 4) _) (z9 5) _) (z9 6) _) (z9 7) _
end Go.Proofs.YtfgopboddkhckaaGreatDoor
namespace Go.Proofs.YtfgopboddkhckaaGreatDoor
open Go.ChangeShapes Go.WideShapes Go.ChangeAt Go.RowKit Go.Sort Go.Joins
set_option linter.unusedVariables false
/-! ### Laid courses are valid -/
theorem byt_arr (l : List UInt8) (k : Nat) : byt ⟨l.toArray⟩ k = ((l.getD k 0).toNat : Int) := rfl
theorem lenQ_pre (l m : List UInt8) : ∀ k, k ≤ l.length → lenQ ⟨(l ++ m).toArray⟩ k = lenQ ⟨l.toArray⟩ k
 | 0, _ => rfl
 | k + 1, h => by
   unfold lenQ
   rw [lenQ_pre l m k (by omega), byt_arr, byt_arr]
   congr 3
   rw [List.getD_eq_getElem?_getD, List.getD_eq_getElem?_getD, List.getElem?_append_left (by omega)]
theorem layL_get (c : CO) {n k : Nat} (h : k < n) : (((layL c n).getD k 0).toNat : Int) = ltr c k := by
 have : (layL c n).getD k 0 = (ltr c k).toNat.toUInt8 := by
   rw [List.getD_eq_getElem?_getD]
   simp [layL, h]
 rw [this]
 exact ltr_u8 c k
theorem lenQ_lay (c : CO) (n : Nat) : ∀ k, k ≤ n → lenQ ⟨(layL c n).toArray⟩ k = atK c k
 | 0, _ => rfl
 | k + 1, h => by
   unfold lenQ atK
   rw [lenQ_lay c n k (by omega), byt_arr, layL_get c (by omega)]
theorem LayAt_end {c : CO} {L : Int} (hv : vC c = true) (h0 : 0 ≤ L) (hL : L ≤ 200) : atK c (lenN c L) ≤ L ∧ L < atK c (lenN c L + 1) ∧ lenN c L ≤ 200 := by
 have key : ∀ (m k : Nat), 201 - k = m → LayAt c L k → atK c (lenN c L) ≤ L ∧ L < atK c (lenN c L + 1) ∧ lenN c L ≤ 200 := by
   intro m
   induction m with
   | zero => intro k hk h; have := h.1; omega
   | succ m ih =>
     intro k hk h
     by_cases hgo : L < atK c (k + 1)
     · have hs := h.stop hgo
       rw [hs]
       exact ⟨h.2.1, hgo, h.1⟩
     · exact ih (k + 1) (by omega) (h.next hv hL hgo)
 exact key 201 0 rfl (LayAt.zero h0)
theorem lastC_q {r : Int} (h0 : 0 ≤ r) (h3 : r ≤ 3) : (lastC r = [] ∧ r = 0) ∨ ∃ b : UInt8, lastC r = [b] ∧ qC (b.toNat : Int) = r ∧ pcC (b.toNat : Int) = true := by
 rcases (show r = 0 ∨ r = 1 ∨ r = 2 ∨ r = 3 by omega) with rfl | rfl | rfl | rfl
 · exact .inl ⟨rfl, rfl⟩
 · exact .inr ⟨67, rfl, by decide, by decide⟩
 · exact .inr ⟨66, rfl, by decide, by decide⟩
 · exact .inr ⟨84, rfl, by decide, by decide⟩
theorem layT_size (c : CO) (L : Int) : (layT c L).size = lenN c L + (lastC (L - atK c (lenN c L))).length := by
 rw [← size_toList]
 unfold layT
 simp [layL_len]
theorem layT_len {c : CO} {L : Int} (hv : vC c = true) (h0 : 0 ≤ L) (hL : L ≤ 200) : lenC (layT c L) = L ∧ onl pcC (layT c L) (layT c L).size = true := by
 obtain ⟨h1, h2, h3⟩ := LayAt_end hv h0 hL
 have hsz := layT_size c L
 have hq := ltr_q hv (lenN c L)
 have h4 : atK c (lenN c L + 1) = atK c (lenN c L) + qC (ltr c (lenN c L)) := rfl
 unfold lenC
 have hb : ∀ k, k < lenN c L → byt (layT c L) k = ltr c k := fun k hk => by
   unfold layT
   rw [byt_arr, List.getD_eq_getElem?_getD, List.getElem?_append_left (by rw [layL_len]; exact hk), ← List.getD_eq_getElem?_getD]
   exact layL_get c hk
 have hQ : lenQ (layT c L) (lenN c L) = atK c (lenN c L) := by
   unfold layT
   rw [lenQ_pre _ _ _ (by rw [layL_len]; exact Nat.le_refl _)]
   exact lenQ_lay c _ _ (Nat.le_refl _)
 rcases lastC_q (r := L - atK c (lenN c L)) (by omega) (by omega) with ⟨hl, hr⟩ | ⟨b, hl, hr, hp⟩
 · rw [hl] at hsz
   simp only [List.length_nil, Nat.add_zero] at hsz
   rw [hsz, hQ]
   refine ⟨by omega, ?_⟩
   unfold onl
   rw [List.all_eq_true]
   intro k hk
   have hk := List.mem_range.1 hk
   rw [hb k hk]
   exact ltr_pc hv k
 · rw [hl] at hsz
   simp only [List.length_cons, List.length_nil, Nat.zero_add] at hsz
   have hlast : byt (layT c L) (lenN c L) = (b.toNat : Int) := by
     unfold layT
     rw [byt_arr, hl, List.getD_eq_getElem?_getD, List.getElem?_append_right (by rw [layL_len]; exact Nat.le_refl _), layL_len]
     simp
   rw [hsz]
   refine ⟨?_, ?_⟩
   · show lenQ (layT c L) (lenN c L) + qC (byt (layT c L) (lenN c L)) = L
     rw [hQ, hlast, hr]; omega
   · unfold onl
     rw [List.all_eq_true]
     intro k hk
     have hk := List.mem_range.1 hk
     rcases (show k < lenN c L ∨ k = lenN c L by omega) with h | rfl
     · rw [hb k h]; exact ltr_pc hv k
     · rw [hlast]; exact hp
theorem vBa {nm : ByteArray} {cs : List CO} (h : vB nm cs = true) : 1 ≤ cs.length ∧ cs.length ≤ 8 ∧ nm.size ≤ 12 ∧ ∀ k, k < cs.length → vC (gd cs k) = true := by
 unfold vB at h
 simp only [Bool.and_eq_true] at h
 have h2 := inB_iff.1 h.1.2
 exact ⟨by omega, by omega, (isN_size h.1.1).2, fun k hk => List.all_eq_true.1 h.2 _ (gd_mem hk)⟩
theorem gd_lwL {cs : List CO} {L : Int} {n k : Nat} (h : k < n) : gd (lwL cs L n) k = layT (gd cs (k % cs.length)) L := by
 rw [gd_eq (by rw [lwL_len]; exact h)]
 simp [lwL]
theorem vW_laid {nm : ByteArray} {cs : List CO} {L n : Int} (h : (mLayWall nm cs L n).2 = 0) : vW (mLayWall nm cs L n).1 = true := by
 unfold mLayWall at h ⊢
 split at h
 · rename_i hv
   rw [if_pos hv]
   obtain ⟨c1, c8, _, hc⟩ := vBa hv
   split at h
   · rename_i hr
     rw [if_pos hr]
     simp only [Bool.and_eq_true] at hr
     have r1 := inB_iff.1 hr.1
     have r2 := inB_iff.1 hr.2
     split at h
     · rename_i hb
       rw [if_pos hb]
       show vW (lwL cs L n.toNat) = true
       have hone : ∀ k, k < n.toNat → vCo (gd (lwL cs L n.toNat) k) = true ∧ lenC (gd (lwL cs L n.toNat) k) = L := fun k hk => by
         rw [gd_lwL hk]
         obtain ⟨e1, e2⟩ := layT_len (L := L) (hc (k % cs.length) (Nat.mod_lt _ (by omega))) (by omega) (by omega)
         refine ⟨?_, e1⟩
         unfold lwB at hb
         have h60 : (layT (gd cs (k % cs.length)) L).size ≤ 60 := by
           have := List.all_eq_true.1 hb k (by simpa using hk)
           simpa using this
         have h1 : 1 ≤ (layT (gd cs (k % cs.length)) L).size := by
           rcases Nat.eq_zero_or_pos (layT (gd cs (k % cs.length)) L).size with h | h
           · exfalso
             unfold lenC at e1
             rw [h] at e1
             simp only [lenQ] at e1
             omega
           · exact h
         unfold vCo
         rw [e1, e2, inB_iff.2 ⟨by omega, by omega⟩, decide_eq_true r1.2]
         rfl
       unfold vW
       rw [lwL_len, inB_iff.2 ⟨by omega, by omega⟩, Bool.true_and, List.all_eq_true]
       intro s hs
       obtain ⟨k, hk, rfl⟩ := List.mem_iff_getElem.1 hs
       have hk' : k < n.toNat := by rwa [lwL_len] at hk
       rw [← gd_eq hk]
       unfold vCw
       rw [(hone k hk').1, (hone k hk').2, (hone 0 (by omega)).2]
       simp
     · cases h
   · cases h
 · cases h
/-! ### Logs grow by valid lines -/
theorem stepL_ofC {es : List EN} {st : Int} {rest : List UInt8} {e : EN} {st' : Int} {n : Nat} (h : stepL es st rest = some (e, st', n)) {rest' : List UInt8} (ht : rest'.take n = rest.take n) : stepL es st rest' = some (e, st', n) := by
 obtain ⟨h1, h2, h3, h4, h5, h6⟩ := stepL_some h
 subst h3
 have := stepL_mk (es := es) (st := st) h1 h2 (rest'.drop n)
 rw [← h4, ← ht, List.take_append_drop, ht, h4, ← h5] at this
 exact this
theorem rdL_ext (s t : List UInt8) : ∀ (f : Nat) (es : List EN) (st : Int) (n : Nat), n ≤ s.length → s.length < f + n → (rdL s f es st n).2.2 = s.length →
   rdAt (s ++ t) es st n = rdAt (s ++ t) (rdL s f es st n).1 (rdL s f es st n).2.1 s.length
 | 0, es, st, n, h1, h2, h3 => by omega
 | f + 1, es, st, n, h1, h2, h3 => by
   rw [rdL] at h3 ⊢
   cases hs : stepL es st (s.drop n) with
   | none =>
     rw [hs] at h3
     have h3 : n = s.length := h3
     subst h3
     rfl
   | some p =>
     obtain ⟨e, st', k⟩ := p
     rw [hs] at h3
     have hk := (stepL_some hs)
     have hp : stepL es st ((s ++ t).drop n) = some (e, st', k) := by
       refine stepL_ofC hs ?_
       rw [List.drop_append_of_le_length h1, List.take_append_of_le_length hk.2.2.2.2.2]
     rw [rdAt_step hp]
     have hlen : k ≤ s.length - n := by have := hk.2.2.2.2.2; rwa [List.length_drop] at this
     have hpos : 0 < k := by have := hk.2.2.2.2.1; have := linL_pos st' e; omega
     exact rdL_ext s t f _ _ _ (by omega) (by omega) h3
theorem rdLog_snoc {s : List UInt8} {es : List EN} {st : Int} {e : EN} (h : rdLog s = (es, st, s.length)) (hv : vEn e = true) (hd : lday es ≤ e.day) :
   rdLog (s ++ linL (stmp st (wrd e)) e) = (es ++ [e], stmp st (wrd e), (s ++ linL (stmp st (wrd e)) e).length) := by
 have h0 := rdL_ext s (linL (stmp st (wrd e)) e) (s.length + 1) [] 0 0 (Nat.zero_le _) (by omega) (by
   show (rdLog s).2.2 = s.length
   rw [h])
 have e1 : rdL s (s.length + 1) [] 0 0 = (es, st, s.length) := h
 rw [e1] at h0
 show rdAt (s ++ linL (stmp st (wrd e)) e) [] 0 0 = _
 rw [h0]
 have hst : stepL es st ((s ++ linL (stmp st (wrd e)) e).drop s.length) = some (e, stmp st (wrd e), (linL (stmp st (wrd e)) e).length) := by
   rw [List.drop_left]
   have := stepL_mk (es := es) (st := st) hv hd []
   rwa [List.append_nil] at this
 rw [rdAt_step hst]
 rw [rdAt_stop, List.length_append]
 refine step_none ?_
 rw [List.drop_of_length_le (by simp)]
 simp
theorem lgC_read {s : ByteArray} (h : lgC s = 0) : s.size ≤ 4000 ∧ rdLog s.data.toList = (lgE s, lgS s, s.data.toList.length) := by
 have h1 := lg_yes h
 have h4 : ¬ 4000 < s.size := fun h4 => by
   unfold lgC at h
   rw [if_pos h4] at h
   exact absurd h (by decide)
 unfold lgC at h
 rw [if_neg h4] at h
 split at h
 · rename_i hq
   refine ⟨by omega, ?_⟩
   rw [h1.1, h1.2.1, size_toList, ← hq]
 · cases h
theorem add_ok {s : ByteArray} {o : EN} (h : (mAddEntry s o).2 = 0) : lgC s = 0 ∧ vEn o = true ∧ lday (lgE s) ≤ o.day ∧ (mAddEntry s o).1 = s ++ lnb (stpb (lgS s) (wrb o)) o ∧ (mAddEntry s o).1.size ≤ 4000 := by
 unfold mAddEntry at h ⊢
 split at h
 · rename_i h0
   rw [if_pos h0]
   unfold mAdded at h ⊢
   cases hv : vEn o with
   | false => rw [hv] at h; cases h
   | true =>
     rw [hv, cond_true] at h
     rw [cond_true]
     split at h
     · cases h
     · rename_i hd
       rw [if_neg hd]
       split at h
       · cases h
       · rename_i hz
         rw [if_neg hz]
         exact ⟨h0, rfl, by omega, rfl, by show (s ++ lnb (stpb (lgS s) (wrb o)) o).size ≤ 4000; rw [ByteArray.size_append]; omega⟩
 · rename_i h0
   exact absurd h h0
theorem add_log {s : ByteArray} {o : EN} (h : (mAddEntry s o).2 = 0) : lgC (mAddEntry s o).1 = 0 ∧ lgE (mAddEntry s o).1 = lgE s ++ [o] ∧ isN o.what = true := by
 obtain ⟨h0, hv, hd, he, hz⟩ := add_ok h
 obtain ⟨h4, hr⟩ := lgC_read h0
 have hl : (mAddEntry s o).1.data.toList = s.data.toList ++ linL (stmp (lgS s) (wrd o)) o := by
   rw [he]
   unfold lnb stpb wrb
   simp [ByteArray.data_append, bsq]
 have hq := rdLog_snoc hr hv hd
 rw [← hl] at hq
 have hc : lgC (mAddEntry s o).1 = 0 := by
   unfold lgC
   rw [if_neg (by omega), hq, if_pos (size_toList _)]
 refine ⟨hc, ?_, (vEn_iff.1 hv).2.1⟩
 rw [(lg_yes hc).1, hq]
theorem add_vals {s : ByteArray} {o : EN} (h : (mAddEntry s o).2 = 0) : (mValuesOf (mAddEntry s o).1 o.what).2 = 0 := by
 obtain ⟨h1, _, h3⟩ := add_log h
 have : lwC (mAddEntry s o).1 o.what = 0 := by rw [lwC_yes h1, h3]; rfl
 unfold mValuesOf
 rw [if_pos this]
/-! ### Valid states -/
theorem bnF_ok {t : ByteArray} (h : bnR t = 0) : vB (bnN t) (bnC t) = true := by
 unfold bnR bnN bnC at *
 cases hb : bnF t with
 | none => rw [hb] at h; cases h
 | some p =>
   unfold bnF at hb
   have k0 : vB nL0 cL0 = true := by decide +kernel
   have k1 : vB nL1 cL1 = true := by decide +kernel
   have k2 : vB nL2 cL2 = true := by decide +kernel
   have k3 : vB nL3 cL3 = true := by decide +kernel
   have k4 : vB nL4 cL4 = true := by decide +kernel
   repeat (split at hb <;> first | (injection hb with hb; subst hb; assumption) | skip)
   cases hb
theorem vDK_parts {d : DK} (h : vDK d = true) : vF d.f = true ∧ vB d.nm d.cs = true ∧ (d.wall.length = 0 ∨ vW d.wall = true) ∧ lgC d.log = 0 := by
 unfold vDK at h
 simp only [Bool.and_eq_true, Bool.or_eq_true, decide_eq_true_eq] at h
 exact ⟨h.1.1.1, h.1.1.2, h.1.2, h.2⟩
theorem vDK_of {d : DK} (h1 : vF d.f = true) (h2 : vB d.nm d.cs = true) (h3 : d.wall.length = 0 ∨ vW d.wall = true) (h4 : lgC d.log = 0) : vDK d = true := by
 unfold vDK
 simp only [Bool.and_eq_true, Bool.or_eq_true, decide_eq_true_eq]
 exact ⟨⟨⟨h1, h2⟩, h3⟩, h4⟩
/-! ### What is said is short -/
def Say (l : List ByteArray) : Prop := 1 ≤ l.length ∧ l.length ≤ 4001 ∧ ∀ t ∈ l, t.size ≤ 4000
theorem say_one {t : ByteArray} (h : t.size ≤ 4000) : Say [t] := ⟨Nat.le_refl _, by simp, fun x hx => by simp only [List.mem_singleton] at hx; rw [hx]; exact h⟩
theorem dkT_size {d : DK} (h1 : d.nm.size ≤ 12) (h2 : d.wall.length ≤ 40) : (dkT d).size ≤ 60 := by
 have hz := itb_size d.wall.length (by omega) (by omega)
 unfold dkT
 rw [ByteArray.size_append, ByteArray.size_append, ByteArray.size_append]
 have e1 : (⟨#[32]⟩ : ByteArray).size = 1 := rfl
 have e2 : (⟨#[32, 99, 111, 117, 114, 115, 101, 115]⟩ : ByteArray).size = 8 := rfl
 omega
theorem fmT_size {f : FM} (h : vF f = true) : (fmT f).size ≤ 100 := by
 have hb := vF_bd h
 have z1 := itb_size f.l (by omega) (by omega)
 have z2 := itb_size f.w (by omega) (by omega)
 have z3 := itb_size f.h (by omega) (by omega)
 have z4 := itb_size f.j (by omega) (by omega)
 unfold fmT
 simp only [ByteArray.size_append]
 have e1 : (⟨#[120]⟩ : ByteArray).size = 1 := rfl
 have e2 : (⟨#[43]⟩ : ByteArray).size = 1 := rfl
 omega
theorem okT_size {n : Nat} (h : n ≤ 4000) : (okT n).size ≤ 23 := by
 have z1 := itb_size n (by omega) (by omega)
 unfold okT
 rw [ByteArray.size_append]
 have e1 : (⟨#[111, 107, 32]⟩ : ByteArray).size = 3 := rfl
 omega
theorem nmT_size {xs : List Int} (h : ∀ x ∈ xs, -9223372036854775808 ≤ x ∧ x ≤ 9223372036854775807) : (nmT xs).size ≤ 21 * xs.length := by
 unfold nmT
 rw [bsq_size]
 have := jnb_len 32 (xs.map Lib.itoa) (fun x hx => by
   obtain ⟨y, hy, rfl⟩ := List.mem_map.1 hx
   have := h y hy
   have h2 := itb_size y this.1 this.2
   rw [← size_toList, itb_list] at h2
   exact h2)
 rwa [List.length_map] at this
theorem rnF_len (s : ByteArray) : ∀ (f i : Nat), (rnF s f i).length ≤ f
 | 0, _ => Nat.le_refl _
 | f + 1, i => by
   rw [rnF]
   split
   · have := rnF_len s f (rE s i)
     simp only [List.length_cons]; omega
   · exact Nat.zero_le _
theorem runT_size {s : ByteArray} {i : Nat} (hs : s.size ≤ 60) (hi : i ≤ s.size) : (runT s i).size ≤ 21 := by
 have h := rE_le hi
 have z1 := itb_size ((rE s i - i : Nat) : Int) (by omega) (by omega)
 unfold runT
 rw [ByteArray.size_append, ByteArray.size_extract]
 omega
theorem rnF_size {s : ByteArray} (hs : s.size ≤ 60) : ∀ (f i : Nat), ∀ t ∈ rnF s f i, t.size ≤ 21
 | 0, _, t, h => by simp [rnF] at h
 | f + 1, i, t, h => by
   rw [rnF] at h
   split at h
   · rename_i hi
     rcases List.mem_cons.1 h with rfl | h
     · exact runT_size hs (by omega)
     · exact rnF_size hs f _ t h
   · simp at h
theorem jnb_len2 (b : UInt8) (q : Nat) : ∀ (p : List (List UInt8)), (∀ x ∈ p, x.length ≤ q) → (jnL b p).length ≤ (q + 1) * p.length
 | [], _ => by simp [jnL]
 | [l], h => by have := h l (by simp); simp [jnL]; omega
 | l :: m :: t, h => by
   have ih := jnb_len2 b q (m :: t) (fun x hx => h x (List.mem_cons_of_mem _ hx))
   have := h l (by simp)
   rw [jnL_cons _ _ (by simp), List.length_append, List.length_cons]
   simp only [List.length_cons, Nat.mul_add, Nat.mul_one] at ih ⊢
   omega
theorem rnT_size {s : ByteArray} (hs : s.size ≤ 60) : (rnT s).size ≤ 1320 := by
 unfold rnT
 rw [bsq_size]
 have h1 := jnb_len2 32 21 ((rnL s).map (·.data.toList)) (fun x hx => by
   obtain ⟨y, hy, rfl⟩ := List.mem_map.1 hx
   rw [size_toList]
   exact rnF_size hs _ _ y hy)
 have h2 := rnF_len s s.size 0
 rw [List.length_map] at h1
 have h3 : (rnL s).length ≤ 60 := by unfold rnL; omega
 have : (21 + 1) * (rnL s).length ≤ (21 + 1) * 60 := Nat.mul_le_mul_left _ h3
 omega
theorem pre_len (n a b : Nat) (c d : Bool) (v : PV) : (pre n a b c d v).lo.length ≤ v.lo.length + 1 ∧ (pre n a b c d v).hi.length ≤ v.hi.length + 1 := by
 unfold pre
 cases c <;> cases d <;> simp [preLo, preHi]
theorem pick_cases (a x : Option PV) : pick a x = a ∨ (pick a x = x ∧ x.isSome = true) := by
 cases x with
 | none => exact .inl rfl
 | some v => cases a with
   | none => exact .inr ⟨rfl, rfl⟩
   | some u =>
     show (if plt v u then some v else some u) = some u ∨ _
     by_cases h : plt v u
     · rw [if_pos h]; exact .inr ⟨by show (if plt v u then some v else some u) = some v; rw [if_pos h], rfl⟩
     · rw [if_neg h]; exact .inl rfl
def PLen (n : Nat) (o : Option PV) : Prop := ∀ v, o = some v → v.lo.length ≤ n ∧ v.hi.length ≤ n ∧ v.c ≤ 2 * n ∧ v.p ≤ 2 * n
theorem pLen_pick {n : Nat} {a x : Option PV} (h : PLen n a) (k : PLen n x) : PLen n (pick a x) := by
 rcases pick_cases a x with e | ⟨e, _⟩ <;> rw [e] <;> assumption
theorem pre_cost (n a b : Nat) (c d : Bool) (v : PV) : (pre n a b c d v).c ≤ v.c + 2 ∧ (pre n a b c d v).p ≤ v.p + 2 := by
 unfold pre
 cases c <;> cases d <;> simp only [preLo, preHi, if_true, if_false, Bool.false_eq_true] <;> (try unfold cut8) <;> (repeat' split) <;> omega
theorem pB_len (L P : Nat) : ∀ (n t a b : Nat), PLen n (pB L P n t a b)
 | 0, t, a, b => fun v h => by
   injection h with h
   subst h
   exact ⟨Nat.le_refl _, Nat.le_refl _, Nat.le_refl _, Nat.le_refl _⟩
 | n + 1, t, a, b => by
   have one : ∀ c d, PLen (n + 1) (if may L P t a b c d = true then (pB L P n (t + 1) (if c then t + 1 else a) (if d then t + 1 else b)).map (pre (t + 1) a b c d) else none) := fun c d v h => by
     split at h
     · obtain ⟨u, hu, rfl⟩ := Option.map_eq_some_iff.1 h
       have ih := pB_len L P n (t + 1) _ _ u hu
       have := pre_len (t + 1) a b c d u
       have := pre_cost (t + 1) a b c d u
       omega
     · cases h
   have h0 : PLen (n + 1) none := fun v h => by cases h
   unfold pB
   show PLen (n + 1) (pick (pick (pick (pick none _) _) _) _)
   exact pLen_pick (pLen_pick (pLen_pick (pLen_pick h0 (one _ _)) (one _ _)) (one _ _)) (one _ _)
theorem mPair_size (L P : Int) : (mPair L P).1.size ≤ 80 ∧ (mPair L P).2.1.size ≤ 80 := by
 unfold mPair
 split
 · rename_i h
   simp only [Bool.and_eq_true] at h
   have hL := inB_iff.1 h.1
   have := pB_len L.toNat P.toNat L.toNat 0 0 0
   split
   · rename_i v hv
     have h3 := this v hv
     show (bsq v.lo).size ≤ 80 ∧ (bsq v.hi).size ≤ 80
     rw [bsq_size, bsq_size]; omega
   · exact ⟨Nat.zero_le _, Nat.zero_le _⟩
 · exact ⟨Nat.zero_le _, Nat.zero_le _⟩
/-! ### Commands -/
theorem int_bd_nm3 {a b c : Int} (h1 : 0 ≤ a ∧ a ≤ 1000) (h2 : 0 ≤ b ∧ b ≤ 1000) (h3 : 0 ≤ c ∧ c ≤ 1000) : (nmT [a, b, c]).size ≤ 4000 := by
 have := nmT_size (xs := [a, b, c]) (fun x hx => by
   simp only [List.mem_cons, List.not_mem_nil, or_false] at hx
   rcases hx with rfl | rfl | rfl <;> omega)
 simp only [List.length_cons, List.length_nil] at this
 omega
theorem clB_mem {lap x y : Int} {ys : List Int} (h : clB lap x ys = some y) : y ∈ ys := by
 unfold clB at h
 obtain ⟨z, hz, h2⟩ := List.exists_of_findSome?_eq_some h
 split at h2
 · injection h2 with h2; subst h2; exact hz
 · cases h2
theorem perp_mem {s : ByteArray} (hs : s.size ≤ 60) {x : Int} (h : x ∈ perp s) : 0 ≤ x ∧ x ≤ 240 := by
 unfold perp at h
 obtain ⟨i, hi, rfl⟩ := List.mem_map.1 h
 have hi := List.mem_range.1 hi
 have := lenQ_bd s (i + 1)
 omega
theorem clW_bd {lap : Int} {l : List ByteArray} (hv : vW l = true) {k x y : Int} (h : clW lap l = some (k, x, y)) : (0 ≤ k ∧ k ≤ 1000) ∧ (0 ≤ x ∧ x ≤ 1000) ∧ (0 ≤ y ∧ y ≤ 1000) := by
 obtain ⟨h1, h2, h3⟩ := vW_parts hv
 unfold clW at h
 obtain ⟨i, hi, h4⟩ := List.exists_of_findSome?_eq_some h
 have hi := List.mem_range.1 hi
 unfold clK at h4
 obtain ⟨p, hp, h5⟩ := Option.map_eq_some_iff.1 h4
 injection h5 with e1 e2
 injection e2 with e2 e3
 subst e1 e2 e3
 unfold clA at hp
 obtain ⟨u, hu, h6⟩ := List.exists_of_findSome?_eq_some hp
 obtain ⟨y, hy, h7⟩ := Option.map_eq_some_iff.1 h6
 subst h7
 have a1 := perp_mem (vCo_parts (h3 i (by omega))).2.1 hu
 have a2 := perp_mem (vCo_parts (h3 (i + 1) (by omega))).2.1 (clB_mem hy)
 refine ⟨⟨by omega, by omega⟩, ⟨by omega, by show u ≤ 1000; omega⟩, ⟨by omega, by show y ≤ 1000; omega⟩⟩
theorem cntL_bd {l : List ByteArray} (hv : vW l = true) : (nmT (cntL l)).size ≤ 4000 := by
 obtain ⟨h1, h2, h3⟩ := vW_parts hv
 have := nmT_size (xs := cntL l) (fun x hx => by
   unfold cntL at hx
   obtain ⟨y, _, rfl⟩ := List.mem_map.1 hx
   have := ctW_bd l (fun k hk => (vCo_parts (h3 k hk)).2.1) y l.length (Nat.le_refl _)
   omega)
 have hl : (cntL l).length = 5 := rfl
 omega
theorem mLen_bd (f : FM) (n : Int) : (0 ≤ (mLen f n).1 ∧ (mLen f n).1 ≤ 1000000) ∧ (0 ≤ (mLen f n).2.1 ∧ (mLen f n).2.1 ≤ 1000000) := by
 unfold mLen
 split
 · rename_i h
   obtain ⟨h1, h2, h3⟩ := fmC_ok h
   obtain ⟨b1, b2, _, _, _, _, b3, b4, _⟩ := vF_bd h1
   have hp : 0 ≤ mNum f n ∧ mNum f n ≤ 1000000 := by
     have k1 : 1 * (f.l + f.j) ≤ n * (f.l + f.j) := Int.mul_le_mul_of_nonneg_right (by omega) (by omega)
     have k2 : n * (f.l + f.j) ≤ 200 * 520 := Int.mul_le_mul (by omega) (by omega) (by omega) (by omega)
     unfold mNum
     omega
   have hg := g4_cases (mNum f n)
   exact ⟨tdiv_bd hp.1 hp.2 (by omega), tdiv_bd (by omega) (by omega) (by omega)⟩
 · exact ⟨⟨Int.le_refl _, (by decide : (0 : Int) ≤ 1000000)⟩, Int.le_refl _, (by decide : (0 : Int) ≤ 1000000)⟩
theorem mHeight_bd (f : FM) (n : Int) : 0 ≤ (mHeight f n).1 + 20 ∧ (mHeight f n).1 ≤ 1000000 := by
 unfold mHeight
 split
 · rename_i h
   obtain ⟨h1, h2, h3⟩ := fmC_ok h
   obtain ⟨_, _, _, _, b1, b2, b3, b4, _⟩ := vF_bd h1
   have k1 : 0 ≤ n * (f.h + f.j) := Int.mul_nonneg (by omega) (by omega)
   have k2 : n * (f.h + f.j) ≤ 200 * 170 := Int.mul_le_mul (by omega) (by omega) (by omega) (by omega)
   show 0 ≤ n * (f.h + f.j) - f.j + 20 ∧ n * (f.h + f.j) - f.j ≤ 1000000
   omega
 · exact ⟨(by decide : (0 : Int) ≤ 0 + 20), (by decide : (0 : Int) ≤ 1000000)⟩
theorem itb_short {n : Int} (h0 : -9223372036854775808 ≤ n) (h1 : n ≤ 9223372036854775807) : (itb n).size ≤ 4000 := by have := itb_size n h0 h1; omega
theorem sumI_bd : ∀ {xs : List Int} {B : Nat}, (∀ x ∈ xs, -(B : Int) ≤ x ∧ x ≤ B) → -((B : Int) * xs.length) ≤ sumI xs ∧ sumI xs ≤ (B : Int) * xs.length
 | [], B, _ => by simp [sumI]
 | x :: r, B, h => by
   have ih := sumI_bd (xs := r) (B := B) (fun y hy => h y (List.mem_cons_of_mem _ hy))
   have := h x (by simp)
   unfold sumI at *
   simp only [List.sum_cons, List.length_cons]
   rw [show (B : Int) * ((r.length + 1 : Nat) : Int) = B * r.length + B by rw [Int.natCast_add, Int.mul_add]; simp]
   omega
theorem vals_bd (s what : ByteArray) : (mValuesOf s what).1.length ≤ 4000 ∧ ∀ x ∈ (mValuesOf s what).1, -1000000 ≤ x ∧ x ≤ 1000000 := by
 unfold mValuesOf
 split
 · refine ⟨Nat.le_trans (valK_len _ _ _) (lgE_len s), fun x hx => ?_⟩
   have hx : x ∈ valK (lgE s) what (lgE s).length := hx
   unfold valK at hx
   obtain ⟨e, he, rfl⟩ := List.mem_map.1 hx
   have he := (List.mem_filter.1 he).1
   rw [List.take_length] at he
   exact (vEn_iff.1 (lgE_ok s e he)).2.2
 · exact ⟨Nat.zero_le _, fun x hx => by simp at hx⟩
theorem sum_vals (s what : ByteArray) : -4000000000 ≤ sumI (mValuesOf s what).1 ∧ sumI (mValuesOf s what).1 ≤ 4000000000 := by
 obtain ⟨h1, h2⟩ := vals_bd s what
 have := sumI_bd (xs := (mValuesOf s what).1) (B := 1000000) (fun x hx => by have := h2 x hx; omega)
 have hm : ((1000000 : Nat) : Int) * ((mValuesOf s what).1.length : Int) ≤ 4000000000 := by
   have : ((1000000 : Nat) : Int) * ((mValuesOf s what).1.length : Int) ≤ 1000000 * 4000 := Int.mul_le_mul_of_nonneg_left (by omega) (by decide)
   omega
 omega
theorem wrb_size40 {e : EN} (h : vEn e = true) : (wrb e).size ≤ 40 := by
 unfold wrb
 rw [bsq_size]
 have := wrd_len h
 omega
theorem pair_size (L P : Int) : (pairT (mPair L P).1 (mPair L P).2.1).size ≤ 4000 := by
 have := mPair_size L P
 unfold pairT
 rw [ByteArray.size_append, ByteArray.size_append]
 have e1 : (⟨#[32]⟩ : ByteArray).size = 1 := rfl
 omega
theorem frac_size (f : FM) (n : Int) : (fracT (mLen f n).1 (mLen f n).2.1).size ≤ 4000 := by
 have h := mLen_bd f n
 have z1 := itb_size (mLen f n).1 (by omega) (by omega)
 have z2 := itb_size (mLen f n).2.1 (by omega) (by omega)
 unfold fracT
 rw [ByteArray.size_append, ByteArray.size_append]
 have e1 : (⟨#[47]⟩ : ByteArray).size = 1 := rfl
 omega
theorem mCount_wall {l : List ByteArray} (h : (mCount l).2 = 0) : vW l = true ∧ (mCount l).1 = cntL l := by
 unfold mCount at *
 split at h
 · rename_i hv; rw [if_pos hv]; exact ⟨hv, rfl⟩
 · cases h
theorem mClash_ok {l : List ByteArray} {lap : Int} (h : (mClash l lap).2.2.2 = 0) : (0 ≤ (mClash l lap).1 ∧ (mClash l lap).1 ≤ 1000) ∧ (0 ≤ (mClash l lap).2.1 ∧ (mClash l lap).2.1 ≤ 1000) ∧ (0 ≤ (mClash l lap).2.2.1 ∧ (mClash l lap).2.2.1 ≤ 1000) := by
 unfold mClash at *
 split at h
 · rename_i h0
   rw [if_pos h0]
   have hv := (wlC_ok h0).1
   cases hc : clW lap l with
   | none => rw [hc] at h; cases h
   | some p =>
     obtain ⟨k, x, y⟩ := p
     exact clW_bd hv hc
 · rename_i h0
   exact absurd h h0
theorem exec_ok {d : DK} (hd : vDK d = true) (c : CM) (l : List ByteArray) (h : (mExec d c l).2.2 = 0) : vDK (mExec d c l).1 = true ∧ Say (mExec d c l).2.1 := by
 obtain ⟨d1, d2, d3, d4⟩ := vDK_parts hd
 obtain ⟨s1, s2, s3, s4⟩ := vDK_sizes hd
 cases c <;> simp only [mExec] at h ⊢
 · -- bond
   unfold exBond at h ⊢
   split at h
   · rename_i h0
     rw [if_pos h0]
     have hb := bnF_ok h0
     refine ⟨vDK_of d1 hb d3 d4, say_one ?_⟩
     have := dkT_size (d := { d with nm := bnN (gd l 1), cs := bnC (gd l 1) }) (vBa hb).2.2.1 s2
     omega
   · rename_i h0; exact absurd h h0
 · -- check
   unfold exCheck at h ⊢
   split
   · exact ⟨hd, say_one (by decide)⟩
   · rename_i h3
     rw [if_neg h3] at h
     split at h
     · rename_i h0
       rw [if_pos h0]
       obtain ⟨b1, b2, b3⟩ := mClash_ok h0
       exact ⟨hd, say_one (int_bd_nm3 b1 b2 b3)⟩
     · rename_i h0; exact absurd h h0
 · -- count
   unfold exCount at h ⊢
   split at h
   · rename_i h0
     rw [if_pos h0]
     obtain ⟨b1, b2⟩ := mCount_wall h0
     refine ⟨hd, say_one ?_⟩
     rw [b2]
     exact cntL_bd b1
   · rename_i h0; exact absurd h h0
 · -- enter
   unfold exEnter at h ⊢
   split at h
   · rename_i h0
     rw [if_pos h0]
     refine ⟨vDK_of d1 d2 d3 (add_log h0).1, say_one ?_⟩
     have hs := sum_vals (mAddEntry d.log ⟨num1 l 1, gd l 2, num1 l 3⟩).1 (⟨num1 l 1, gd l 2, num1 l 3⟩ : EN).what
     exact itb_short (by omega) (by omega)
   · rename_i h0; exact absurd h h0
 · -- format
   unfold exFormat at h ⊢
   split at h
   · rename_i h0
     rw [if_pos h0]
     have hv : vF (rfV (gd l 1)) = true := by
       unfold rfB at h0
       cases hm : mRF (gd l 1) with
       | none => rw [hm] at h0; cases h0
       | some f => rw [(rf_some hm).1]; exact (mRF_some hm).1
     refine ⟨vDK_of hv d2 d3 d4, say_one ?_⟩
     have := fmT_size hv
     omega
   · cases h
 · -- height
   unfold exHeight at h ⊢
   split at h
   · rename_i h0
     rw [if_pos h0]
     have := mHeight_bd d.f (num1 l 1)
     exact ⟨hd, say_one (itb_short (by omega) (by omega))⟩
   · rename_i h0; exact absurd h h0
 · -- length
   unfold exLength at h ⊢
   split at h
   · rename_i h0
     rw [if_pos h0]
     exact ⟨hd, say_one (frac_size _ _)⟩
   · rename_i h0; exact absurd h h0
 · -- log
   refine ⟨hd, ?_⟩
   unfold exLog
   have hl := lgE_len d.log
   refine ⟨?_, ?_, ?_⟩
   · rw [List.length_append]; simp
   · rw [List.length_append, List.length_map]; simp; omega
   · intro t ht
     rcases List.mem_append.1 ht with h | h
     · obtain ⟨e, he, rfl⟩ := List.mem_map.1 h
       have := wrb_size40 (lgE_ok d.log e he)
       omega
     · simp only [List.mem_singleton] at h
       rw [h]
       have := okT_size hl
       omega
 · -- pair
   unfold exPair at h ⊢
   split at h
   · rename_i h0
     rw [if_pos h0]
     exact ⟨hd, say_one (pair_size _ _)⟩
   · rename_i h0; exact absurd h h0
 · -- show
   refine ⟨hd, ?_⟩
   unfold exShow
   refine ⟨?_, ?_, ?_⟩
   · rw [List.length_append]; simp
   · rw [List.length_append, List.length_map]; simp; omega
   · intro t ht
     rcases List.mem_append.1 ht with h | h
     · obtain ⟨e, he, rfl⟩ := List.mem_map.1 h
       rcases d3 with d3 | d3
       · exact absurd (List.length_pos_of_mem he) (by omega)
       · obtain ⟨k, hk, rfl⟩ := List.mem_iff_getElem.1 he
         have h1 := (vW_parts d3).2.2 k hk
         rw [gd_eq hk] at h1
         have := rnT_size (vCo_parts h1).2.1
         omega
     · simp only [List.mem_singleton] at h
       rw [h]
       have := okT_size (n := d.wall.length) (by omega)
       omega
 · -- wall
   unfold exWall at h ⊢
   split at h
   · rename_i h0
     rw [if_pos h0]
     have hw := vW_laid h0
     refine ⟨vDK_of d1 d2 (.inr hw) d4, say_one ?_⟩
     have := dkT_size (d := { d with wall := (mLayWall d.nm d.cs (num1 l 1) (num1 l 2)).1 }) s1 (vW_parts hw).2.1
     omega
   · rename_i h0; exact absurd h h0
theorem go_ok {d : DK} (hd : vDK d = true) (c : CM) (l : List ByteArray) : vDK (mGo d c l).1 = true ∧ Say (mGo d c l).2 := by
 unfold mGo
 split
 · split
   · rename_i h; exact exec_ok hd c l h
   · exact ⟨hd, say_one (by have := erT_size (mExec d c l).2.2; omega)⟩
 · exact ⟨hd, say_one (by have := erT_size 7; omega)⟩
theorem do_ok {d : DK} (hd : vDK d = true) {line : ByteArray} {p : DK × List ByteArray} (h : mDo d line = some p) : vDK p.1 = true ∧ Say p.2 := by
 unfold mDo at h
 split at h
 · cases h
 · split at h
   · injection h with h; subst h; exact go_ok hd _ _
   · cases h
theorem vDK_sm {d : DK} (h : vDK d = true) : SmDK d := by
 obtain ⟨s1, s2, s3, s4⟩ := vDK_sizes h
 obtain ⟨_, d2, d3, _⟩ := vDK_parts h
 have hc : totCO d.cs ≤ 14 * d.cs.length := by
   have hall := (vBa d2).2.2.2
   have : ∀ k, k ≤ d.cs.length → totCO (d.cs.take k) ≤ 14 * k := by
     intro k
     induction k with
     | zero => intro _; simp [totCO]
     | succ k ih =>
       intro hk
       have h1 := ih (by omega)
       have h2 := vC_parts (hall k (by omega))
       rw [totCO_succ (by omega)]
       omega
   have := this d.cs.length (Nat.le_refl _)
   rwa [List.take_length] at this
 have hw : totStr d.wall ≤ 60 * d.wall.length := by
   rcases d3 with d3 | d3
   · have : d.wall = [] := List.eq_nil_of_length_eq_zero d3
     rw [this]; simp [totStr]
   · have hall := (vW_parts d3).2.2
     have : ∀ k, k ≤ d.wall.length → totStr (d.wall.take k) ≤ 60 * k := by
       intro k
       induction k with
       | zero => intro _; simp [totStr]
       | succ k ih =>
         intro hk
         have h1 := ih (by omega)
         have h2 := vCo_parts (hall k (by omega))
         rw [totStr_succ (by omega)]
         omega
     have := this d.wall.length (Nat.le_refl _)
     rwa [List.take_length] at this
 unfold SmDK totDK
 omega
end Go.Proofs.YtfgopboddkhckaaGreatDoor
