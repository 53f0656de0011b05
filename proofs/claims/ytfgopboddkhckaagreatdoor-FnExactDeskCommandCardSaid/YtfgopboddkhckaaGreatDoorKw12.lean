/-
  Parts of the proof: LogQ, Log4, Log5.
-/
import Derived.Test.YtfgopboddkhckaaGreatDoorKw8
import Derived.Test.YtfgopboddkhckaaGreatDoorKw11
import Derived.Deep.RegionLaw
namespace Go.Proofs.YtfgopboddkhckaaGreatDoor
open Go.ChangeShapes Go.WideShapes Go.ChangeAt Go.RowKit Go.Sort
set_option linter.unusedVariables false
def enW (l : List ByteArray) : EN := ⟨rdv (gd l 0), gd l 1, rdv (gd l 2)⟩
theorem spb_bsq (b : UInt8) (l : List UInt8) : spb b (bsq l) = (splL b l).map bsq := by unfold spb; rw [bsq_list]
theorem ln_short {line : List UInt8} (h : (spb 32 (bsq line)).length ≠ 4) : rdLn line = none := by
 rw [spb_bsq, List.length_map] at h
 unfold rdLn
 split
 · rename_i a b c d hs
   rw [hs] at h
   exact absurd rfl h
 · rfl
theorem ln_four {line : List UInt8} {l : List ByteArray} (hl : spb 32 (bsq line) = l) (h : l.length = 4) :
   rdLn line = if (rdb (gd l 0) && rdb (gd l 2) && vEn (enW l)) = true then some (enW l, (gd l 3).data.toList) else none := by
 subst hl
 rw [spb_bsq] at h ⊢
 rw [List.length_map] at h
 match hs : splL 32 line, h with
 | [a, b, c, d], _ =>
   unfold rdLn enW
   rw [hs]
   have e0 : gd (List.map bsq [a, b, c, d]) 0 = bsq a := rfl
   have e1 : gd (List.map bsq [a, b, c, d]) 1 = bsq b := rfl
   have e2 : gd (List.map bsq [a, b, c, d]) 2 = bsq c := rfl
   have e3 : gd (List.map bsq [a, b, c, d]) 3 = bsq d := rfl
   simp only [e0, e1, e2, e3]
   unfold rdv rdb
   simp only [bsq_list]
   obtain ⟨o1, h1⟩ : ∃ o1, rdec a = o1 := ⟨_, rfl⟩
   obtain ⟨o2, h2⟩ : ∃ o2, rdec c = o2 := ⟨_, rfl⟩
   simp only [h1, h2]
   cases o1 with
   | none => simp
   | some x =>
     cases o2 with
     | none => simp
     | some y => simp [bsq]
theorem step_none {es : List EN} {st : Int} {r : List UInt8} (h : (10 : UInt8) ∉ r) : stepL es st r = none := by
 unfold stepL
 rw [idxOf_none h]
theorem step_line {es : List EN} {st : Int} {r : List UInt8} {k : Nat} (h2 : (10 : UInt8) ∉ r.take k) (h3 : r[k]? = some 10) :
   stepL es st r = (match rdLn (r.take k) with
     | none => none
     | some (e, d) => if lday es ≤ e.day ∧ d = Lib.itoa (stmp st (wrd e)) then some (e, stmp st (wrd e), k + 1) else none) := by
 unfold stepL
 rw [idxOf_some h2 h3]
 rfl
theorem lnb_iff {line : List UInt8} {e : EN} {d : List UInt8} {st : Int} (h : rdLn line = some (e, d)) : lnb st e = bsq (line ++ [10]) ↔ d = Lib.itoa st := by
 have h2 := (rdLn_some h).2.1
 constructor
 · intro h3
   have h4 := bsq_inj h3
   rw [h2] at h4
   unfold linL at h4
   rw [List.append_assoc] at h4
   have h5 := List.append_cancel_left h4
   simp only [List.cons_append, List.cons.injEq, true_and] at h5
   exact (List.append_cancel_right h5).symm
 · rintro rfl
   unfold lnb linL
   rw [h2]
   simp
theorem rd_iff {d : ByteArray} {st : Int} (h0 : 0 ≤ st) (h1 : st ≤ 65518) : (rdb d = true ∧ st = rdv d) ↔ d.data.toList = Lib.itoa st := by
 unfold rdb rdv
 constructor
 · rintro ⟨h, h2⟩
   cases hd : rdec d.data.toList with
   | none => rw [hd] at h; simp at h
   | some v =>
     rw [hd] at h2
     simp at h2
     rw [h2]; exact rdec_itoa_eq hd
 · intro h
   rw [h, rdec_itoa st (by omega) (by omega)]
   simp
theorem lday_get {es : List EN} (h : 0 < es.length) : lday es = (gd es (es.length - 1)).day := by
 unfold lday
 rw [List.getLast?_eq_getElem?, List.getElem?_eq_getElem (by omega), gd_eq (by omega)]
theorem ext_line (s : ByteArray) {p q : Nat} (h : p ≤ q) (hq : q < s.size) (h10 : s.data.toList[q]? = some 10) : s.extract p (q + 1) = bsq ((s.data.toList.drop p).take (q - p) ++ [10]) := by
 rw [ext_bsq s (by omega), show q + 1 - p = (q - p) + 1 by omega, List.take_add_one, List.getElem?_drop, show p + (q - p) = q by omega, h10]
 rfl
def stepEs (es : List EN) : Option (EN × Int × Nat) → List EN | some (e, _, _) => es ++ [e] | none => es
def stepSt (st : Int) : Option (EN × Int × Nat) → Int | some (_, st', _) => st' | none => st
def stepAt (n : Nat) : Option (EN × Int × Nat) → Nat | some (_, _, k) => n + k | none => n
end Go.Proofs.YtfgopboddkhckaaGreatDoor
namespace Go.Proofs.YtfgopboddkhckaaGreatDoor
open Go.ChangeShapes Go.WideShapes Go.ChangeAt Go.RowKit Go.Sort
set_option linter.unusedVariables false
set_option maxRecDepth 100000
attribute [local go_sem ↓] Go.wp_at_zero Go.wp_at_succ
structure RR (w : World) (B g : Nat) (s : ByteArray) (es : List EN) (st : Int) (n : Nat) (A : Option Addr) (c : Nat) : Prop where
 h0 : w.cell? ⟨g, 0, none⟩ = some (.string s)
 h1 : w.cell? ⟨g, 1, none⟩ = some (.int .i64 (n : Int))
 h2 : w.cell? ⟨g, 2, none⟩ = some (.int .i64 st)
 h3 : w.cell? ⟨g, 3, none⟩ = some (.slice A es.length c)
 fz : ∀ j, w.frozen? ⟨g, j, none⟩ = false
 own : OENS w B (.slice A es.length c) es
 far : ∀ k, BI (.slice A es.length c) k → k ≠ g
 ge : B ≤ g
theorem RR.lt {w : World} {B g : Nat} {s : ByteArray} {es : List EN} {st : Int} {n : Nat} {A : Option Addr} {c : Nat} (h : RR w B g s es st n A c) : g < w.heap.size := block_lt_of_cell h.h0
theorem RR.ext {w w' : World} {B g : Nat} {s : ByteArray} {es : List EN} {st : Int} {n : Nat} {A : Option Addr} {c : Nat} (h : RR w B g s es st n A c) (hb : Below w.heap.size w w') : RR w' B g s es st n A c :=
 ⟨cell_keep h.h0 hb, cell_keep h.h1 hb, cell_keep h.h2 hb, cell_keep h.h3 hb, fun j => by rw [hb.frozen (p := ⟨g, j, none⟩) h.lt]; exact h.fz j, h.own.ext hb, h.far, h.ge⟩
set_option maxHeartbeats 800000 in
theorem spec_rday (B g : Nat) (s : ByteArray) (es : List EN) (st : Int) (n : Nat) (A : Option Addr) (c : Nat) (w : World) (h : RR w B g s es st n A c) :
   Calls Tryz.prog 179 #[.pointer (some ⟨g, 0, none⟩)] w (Ret (.int .i64 (lday es)) w) := by
 have h3 := h.h3
 obtain ⟨_, _, hv, hc1, hc2⟩ := h.own.rd.open_
 injection hv with q1 q2 q3
 subst q1 q3
 unfold maxLen at hc2
 have HR := Lib.hid h.own.rd
 clear h
 by_cases h0 : es.length = 0
 · have hes : es = [] := List.eq_nil_of_length_eq_zero h0
   subst hes
   go_enter Tryz.func179, Tryz.ntmps179
   go_wp2_with fail
   go_ret
   exact ⟨rfl, ext_refl _⟩
 · have HD := Lib.hid (lday_get (es := es) (by omega))
   obtain ⟨k, hk⟩ : ∃ k, es.length = k + 1 := ⟨es.length - 1, by omega⟩
   obtain ⟨ad, rfl, _, hc⟩ := HR.out.at (show k < es.length by omega)
   obtain ⟨g0, _, _⟩ := hc k (by omega)
   clear hc
   have HD2 : Hid (lday es = (gd es k).day) := Lib.hid (by rw [HD.out, hk]; rfl)
   rw [hk] at h3 hc1
   clear h0 hk HD HR
   have e0 : (((k + 1 : Nat) : Int) == 0) = false := by rw [beq_eq_false_iff_ne]; omega
   have e1 : ((k + 1 : Nat) : Int) - 1 = k := by omega
   have e3 : (0 : Int) ≤ k := by omega
   have e4 : (k : Int) < ((k + 1 : Nat) : Int) := by omega
   have e5 : (k : Int).toNat = k := by omega
   have e2 : IntKind.i64.wrap (k : Int) = k := IntWalk.i64_in _ (by omega)
   go_enter Tryz.func179, Tryz.ntmps179
   go_wp2_with fail
   go_quiet (fail)
   go_wp2_with fail
   go_ret
   rw [HD2.out]
   exact ⟨rfl, ext_drewN (ext_refl _) _⟩
end Go.Proofs.YtfgopboddkhckaaGreatDoor
namespace Go.Proofs.YtfgopboddkhckaaGreatDoor
open Go.ChangeShapes Go.WideShapes Go.ChangeAt Go.RowKit Go.Sort
set_option linter.unusedVariables false
set_option maxRecDepth 100000
attribute [local go_sem ↓] Go.wp_at_zero Go.wp_at_succ
def LineP (B g : Nat) (s : ByteArray) (es : List EN) (st : Int) (n : Nat) (r : Option (EN × Int × Nat)) (w : World) : Ending → World → Prop := fun e w' =>
  ∃ A c, e = .returned (.bool r.isSome) ∧ RR w' B g s (stepEs es r) (stepSt st r) (stepAt n r) A c ∧ Below B w w'
theorem LineP.no {B g : Nat} {s : ByteArray} {es : List EN} {st : Int} {n : Nat} {r : Option (EN × Int × Nat)} {A : Option Addr} {c : Nat} {w w' : World} (hr : r = none) (h : RR w B g s es st n A c) (hB : B ≤ w.heap.size) (hb : Below w.heap.size w w') :
   LineP B g s es st n r w (.returned (.bool false)) w' := by
 subst hr
 exact ⟨A, c, rfl, h.ext hb, hb.mono hB⟩
theorem OStr.cells4 {w : World} {base : Nat} {A : Option Addr} {n c : Nat} {l : List ByteArray} (h : OStr w base (.slice A n c) l) (h4 : l.length = 4) :
   ∃ g1, A = some ⟨g1, 0, none⟩ ∧ base ≤ g1 ∧ w.cell? ⟨g1, 0, none⟩ = some (.string (gd l 0)) ∧ w.cell? ⟨g1, 1, none⟩ = some (.string (gd l 1)) ∧ w.cell? ⟨g1, 2, none⟩ = some (.string (gd l 2)) ∧ w.cell? ⟨g1, 3, none⟩ = some (.string (gd l 3)) := by
 have hge := h.ge
 obtain ⟨ad, hA, hlt, hc⟩ := h.rd.at (show 0 < l.length by omega)
 rcases h.2 with ⟨hv, h1⟩ | ⟨g, cap, cur, hv, hg, _⟩
 · omega
 · injection hv with q1 q2 q3
   subst q1
   injection hA with hA
   subst hA
   have k0 := hc 0 (by omega)
   have k1 := hc 1 (by omega)
   have k2 := hc 2 (by omega)
   have k3 := hc 3 (by omega)
   refine ⟨g, rfl, hg, ?_, ?_, ?_, ?_⟩
   · simpa [Addr.add] using k0
   · simpa [Addr.add] using k1
   · simpa [Addr.add] using k2
   · simpa [Addr.add] using k3
theorem RR.step {w w7 w8 : World} {B g : Nat} {s : ByteArray} {es : List EN} {st : Int} {n : Nat} {A : Option Addr} {c : Nat} (h : RR w B g s es st n A c) (hb : Below w.heap.size w w7) {o : Obj} {gg cap : Nat} {en : EN}
   (hgrow : (w7.alloc o).drew.grownBy w8 (Value.slice A es.length c).ownBlock) (hat : (Value.slice A es.length c).ownBlock = some gg ∨ gg = w7.heap.size + 1)
   (hown : w8.ownsRow B 130 3 (.slice (some ⟨gg, 0, none⟩) (es.length + 1) cap) (es.length + 1) (es.flatMap cEN ++ [.int .i64 en.day, .string en.what, .int .i64 en.val])) (st2 : Int) (m : Nat) :
   RR (((w8.setCell ⟨g, 3, none⟩ (.slice (some ⟨gg, 0, none⟩) (es.length + 1) cap)).setCell ⟨g, 2, none⟩ (.int .i64 st2)).setCell ⟨g, 1, none⟩ (.int .i64 (m : Int))) B g s (es ++ [en]) st2 m (some ⟨gg, 0, none⟩) cap ∧
     Below B w (((w8.setCell ⟨g, 3, none⟩ (.slice (some ⟨gg, 0, none⟩) (es.length + 1) cap)).setCell ⟨g, 2, none⟩ (.int .i64 st2)).setCell ⟨g, 1, none⟩ (.int .i64 (m : Int))) := by
 have hB : B ≤ w.heap.size := Nat.le_of_lt (Nat.lt_of_le_of_lt h.ge h.lt)
 have hlt7 : g < w7.heap.size := Nat.lt_of_lt_of_le h.lt hb.size
 have hne : (Value.slice A es.length c).ownBlock ≠ some g := fun e => h.far g e rfl
 have hbb : Below w.heap.size w (w7.alloc o).drew := ext_trans hb (ext_drew (ext_alloc1 w7 _))
 have hltb : g < (w7.alloc o).drew.heap.size := by simp; omega
 have cl : ∀ j v, w.cell? ⟨g, j, none⟩ = some v → w8.cell? ⟨g, j, none⟩ = some v := fun j v hv => (hgrow.cell_far ⟨g, j, none⟩ hltb (Ne.symm hne)).trans (cell_keep hv hbb)
 have fl : ∀ j, w8.frozen? ⟨g, j, none⟩ = false := fun j => (hgrow.frozen_far ⟨g, j, none⟩ hltb (Ne.symm hne)).trans ((hbb.frozen (p := ⟨g, j, none⟩) h.lt).trans (h.fz j))
 have k0 := cl 0 _ h.h0
 have k1 := cl 1 _ h.h1
 have k2 := cl 2 _ h.h2
 have k3 := cl 3 _ h.h3
 have hgg : gg ≠ g := by
   rcases hat with e | e
   · exact h.far gg e
   · omega
 have hl : (es ++ [en]).length = es.length + 1 := by simp
 have hO : OENS w8 B (.slice (some ⟨gg, 0, none⟩) (es ++ [en]).length cap) (es ++ [en]) := by
   unfold OENS
   rw [hl, List.flatMap_append]
   exact hown
 have hCh : Chg (fun k => k = g) w8 (((w8.setCell ⟨g, 3, none⟩ (.slice (some ⟨gg, 0, none⟩) (es.length + 1) cap)).setCell ⟨g, 2, none⟩ (.int .i64 st2)).setCell ⟨g, 1, none⟩ (.int .i64 (m : Int))) :=
   ((Chg.setCell (S := fun k => k = g) w8 (p := ⟨g, 3, none⟩) rfl _).trans (Chg.setCell (S := fun k => k = g) _ (p := ⟨g, 2, none⟩) rfl _)).trans (Chg.setCell (S := fun k => k = g) _ (p := ⟨g, 1, none⟩) rfl _)
 refine ⟨⟨?_, ?_, ?_, ?_, fun j => ?_, ?_, ?_, h.ge⟩, ?_⟩
 · rw [World.cell?_setCell_other _ _ _ _ (by simp), World.cell?_setCell_other _ _ _ _ (by simp), World.cell?_setCell_other _ _ _ _ (by simp)]; exact k0
 · exact World.cell?_setCell_same _ _ _ (u := .int .i64 (n : Int)) (by rw [World.cell?_setCell_other _ _ _ _ (by simp), World.cell?_setCell_other _ _ _ _ (by simp)]; exact k1)
 · rw [World.cell?_setCell_other _ _ _ _ (by simp)]
   exact World.cell?_setCell_same _ _ _ (u := .int .i64 st) (by rw [World.cell?_setCell_other _ _ _ _ (by simp)]; exact k2)
 · rw [World.cell?_setCell_other _ _ _ _ (by simp), World.cell?_setCell_other _ _ _ _ (by simp), hl]
   exact World.cell?_setCell_same _ _ _ k3
 · simpa using fl j
 · exact hO.chg hCh (fun k hk e => by
     subst e
     have : k = gg := by simpa [Value.ownBlock] using hk.symm
     exact hgg this.symm)
 · intro k hk
   have : gg = k := by simpa [BI, Value.ownBlock] using hk
   omega
 · have c1 : Chg (fun k => k = g ∨ (Value.slice A es.length c).ownBlock = some k) w w8 := (Chg.of_below hbb _).trans ((Chg.of_grown hgrow).mono fun k hk => Or.inr hk)
   have c2 := c1.trans (hCh.mono fun k hk => Or.inl hk)
   exact c2.below hB (fun k hk => by
     rcases hk with rfl | hk
     · exact h.ge
     · exact (h.own.ge k hk).1)
set_option maxHeartbeats 6400000 in
theorem spec_rline (B g : Nat) (s : ByteArray) (es : List EN) (st : Int) (n : Nat) (A : Option Addr) (c : Nat) (w : World) (h : RR w B g s es st n A c) (hn : n ≤ s.size) (hs : s.size ≤ 1048576) (hes : es.length ≤ n) (hst0 : 0 ≤ st) (hst1 : st ≤ 65518) :
   Calls Tryz.prog 193 #[.pointer (some ⟨g, 0, none⟩)] w (LineP B g s es st n (stepL es st (s.data.toList.drop n)) w) := by
 have HR := Lib.hid h
 have hc0 := h.h0
 have hc1 := h.h1
 have hB : B ≤ w.heap.size := Nat.le_of_lt (Nat.lt_of_le_of_lt h.ge h.lt)
 have hgB := h.ge
 clear h
 go_enter Tryz.func193, Tryz.ntmps193
 go_wp2_with fail
 go_loop [3] (fun i => ∃ q : Nat, n ≤ q ∧ q ≤ s.size ∧ i = .int .i64 q ∧ Hid ((10 : UInt8) ∉ (s.data.toList.drop n).take (q - n))) (fun i => s.size - (intOf i).toNat)
 case atStart => exact ⟨n, Nat.le_refl _, hn, rfl, Lib.hid (by simp)⟩
 case round =>
   obtain ⟨q, hnq, hq, rfl, HN⟩ := hrel
   have e1 : (0:Int) ≤ q := by omega
   have e2 : (0:Int) ≤ n := by omega
   have e3 : (n:Int) ≤ q := by omega
   have e4 : (q:Int) ≤ s.size := by omega
   by_cases hlt : q < s.size
   · have e5 : (q:Int) < s.size := by omega
     have hy := byt_eq s q hlt
     obtain ⟨y, hyy⟩ : ∃ y, byt s q = y := ⟨_, rfl⟩
     rw [hyy] at hy
     have HG : Hid (s.data.toList[q]? = some s[q]) := Lib.hid (Lib.data_getElem? s q hlt)
     have HGD : Hid ((s.data.toList.drop n)[q - n]? = some s[q]) := Lib.hid (by rw [List.getElem?_drop, show n + (q - n) = q by omega]; exact HG.out)
     by_cases hb : s[q] = 10
     · have e6 : (y != 10) = false := by rw [← hy, hb]; rfl
       have H10 : Hid (s.data.toList[q]? = some 10) := Lib.hid (by rw [HG.out, hb])
       have HL : Hid (stepL es st (s.data.toList.drop n) = (match rdLn ((s.data.toList.drop n).take (q - n)) with
         | none => none
         | some (e, d) => if lday es ≤ e.day ∧ d = Lib.itoa (stmp st (wrd e)) then some (e, stmp st (wrd e), q - n + 1) else none)) := Lib.hid (step_line HN.out (by rw [HGD.out, hb]))
       have HX : Hid (s.extract n q = bsq ((s.data.toList.drop n).take (q - n))) := Lib.hid (ext_bsq s hnq)
       have HX1 : Hid (s.extract n (q + 1) = bsq ((s.data.toList.drop n).take (q - n) ++ [10])) := Lib.hid (ext_line s hnq hlt H10.out)
       obtain ⟨line, hline⟩ : ∃ line, (s.data.toList.drop n).take (q - n) = line := ⟨_, rfl⟩
       rw [hline] at HL HX HX1
       obtain ⟨x, hx⟩ : ∃ x, s.extract n q = x := ⟨_, rfl⟩
       have HSX : Hid (x = bsq line) := Lib.hid (by rw [← hx]; exact HX.out)
       have hxs : x.size ≤ 1048576 := by rw [HSX.out, bsq_size, ← hline, List.length_take, List.length_drop, size_toList]; omega
       obtain ⟨l, hl⟩ : ∃ l, spb 32 x = l := ⟨_, rfl⟩
       have HSL : Hid (spb 32 (bsq line) = l) := Lib.hid (by rw [← HSX.out]; exact hl)
       have HSP : Hid (∀ w, Calls Tryz.prog 24 #[.string x, .int .u8 32] w fun e w' => ∃ A cp, e = .returned (.slice A l.length cp) ∧ OStr w' w.heap.size (.slice A l.length cp) l ∧ Below w.heap.size w w') := Lib.hid fun w => by
         have := spec_Split x hxs 32 32 rfl w
         rw [hl] at this; exact this
       have HXS := Lib.hid hxs
       clear hline hb hyy HG HGD HX hl hxs HN H10
       go_wp2_with fail
       go_region_held3 (fun w' => w'.cell? ⟨g, 0, none⟩ = some (.string s) ∧ w'.cell? ⟨g, 1, none⟩ = some (.int .i64 (n : Int))) (first | exact ⟨hc0, hc1⟩ | exact ⟨hd0, hd1⟩)
         ((go_at_call 24; (have ht := HSP.out w.drew); (with_reducible refine ht.mono ?_); clear ht; rintro e w1 ⟨A1, c1, rfl, hO1, hb1⟩; (have hd0 := cell_keep (w := w) hc0 (ext_trans (ext_drew (ext_refl _)) hb1)); (have hd1 := cell_keep (w := w) hc1 (ext_trans (ext_drew (ext_refl _)) hb1))))
       have HW1 : Hid (Below w.heap.size w w1) := Lib.hid (ext_trans (ext_drew (ext_refl _)) hb1)
       have HO1 := Lib.hid hO1
       clear hb1 hO1 hc0 hc1 hx
       by_cases hl4 : l.length = 4
       · have HLN : Hid (rdLn line = if (rdb (gd l 0) && rdb (gd l 2) && vEn (enW l)) = true then some (enW l, (gd l 3).data.toList) else none) := Lib.hid (ln_four HSL.out hl4)
         obtain ⟨g1, rfl, _, k0, k1, k2, _⟩ := HO1.out.cells4 hl4
         have hsz : ∀ k, k < 4 → (gd l k).size ≤ maxLen := by
           intro k hk
           have hm : gd l k ∈ spb 32 (bsq line) := by rw [HSL.out]; exact gd_mem (by omega)
           rw [spb_bsq] at hm
           obtain ⟨u, hu, he⟩ := List.mem_map.1 hm
           rw [← he, bsq_size]
           have := splL_part hu
           have h2 : line.length = x.size := by rw [HSX.out, bsq_size]
           have h3 : x.size ≤ 1048576 := HXS.out
           unfold maxLen; omega
         have HC0 := Lib.hid (fun w => spec_Number (gd l 0) (hsz 0 (by omega)) w)
         have HC2 := Lib.hid (fun w => spec_Number (gd l 2) (hsz 2 (by omega)) w)
         have HSW : Hid ((gd l 1).size ≤ maxLen) := Lib.hid (hsz 1 (by omega))
         clear hsz
         have hrv := rdv_range (gd l 0)
         have hrv2 := rdv_range (gd l 2)
         go_wp2_with fail
         refine (show Calls _ _ _ _ _ from HC0.out _).mono ?_
         rintro e w2 ⟨rfl, hb2⟩
         have HW2 : Hid (Below w.heap.size w w2) := Lib.hid (ext_trans HW1.out hb2)
         replace k1 := cell_keep k1 hb2
         replace k2 := cell_keep k2 hb2
         clear hb2 k0 hd0 hd1 HC0
         go_wp2_with fail
         refine (show Calls _ _ _ _ _ from HC2.out _).mono ?_
         rintro e w3 ⟨rfl, hb3⟩
         have HW3 : Hid (Below w.heap.size w w3) := Lib.hid (ext_trans HW2.out hb3)
         replace k1 := cell_keep k1 hb3
         clear hb3 k2 HC2
         go_wp2_with fail
         clear k1
         obtain ⟨en, hen⟩ : ∃ en, enW l = en := ⟨_, rfl⟩
         have HEN := Lib.hid hen
         have q0 : rdv (gd l 0) = en.day := by rw [← hen]; rfl
         have q1 : gd l 1 = en.what := by rw [← hen]; rfl
         have q2 : rdv (gd l 2) = en.val := by rw [← hen]; rfl
         rw [q0, q1, q2]
         rw [q0] at hrv
         rw [q2] at hrv2
         rw [q1] at HSW
         rw [hen] at HLN
         obtain ⟨b1, hb1⟩ : ∃ b, rdb (gd l 0) = b := ⟨_, rfl⟩
         obtain ⟨b2, hb2⟩ : ∃ b, rdb (gd l 2) = b := ⟨_, rfl⟩
         rw [hb1, hb2] at HLN ⊢
         clear hb1 hb2 q0 q1 q2 hen
         have HW4 : Hid (∀ T, Below w.heap.size w (w3.alloc (.cells #[.int .i64 en.day, .string en.what, .int .i64 en.val] T))) := Lib.hid fun T => ext_trans HW3.out (ext_alloc1 _ _)
         have HP4 : Hid (∀ T, PEN (w3.alloc (.cells #[.int .i64 en.day, .string en.what, .int .i64 en.val] T)) ⟨w3.heap.size, 0, none⟩ en) := Lib.hid fun T => pEN_box w3 en T
         have HLT : Hid (w.heap.size ≤ w3.heap.size) := Lib.hid HW3.out.size
         generalize hg4 : w3.heap.size = g4 at *
         generalize hw4 : w3.alloc _ = w4 at *
         replace HW4 := Lib.hid (HW4.out 130)
         replace HP4 := Lib.hid (HP4.out 130)
         rw [hw4] at HW4 HP4
         clear hw4 hg4
         have HOK : Hid (∀ d os, Calls Tryz.prog 178 #[.pointer (some ⟨g4, 0, none⟩)] (grow (redrawn w4 d) os) (RetP (.bool (vEn en)) (grow (redrawn w4 d) os))) := Lib.hid fun d os => spec_okEn ⟨g4, 0, none⟩ en _ HSW.out (HP4.out.ext (below_regrown _ _ _))
         have HDY : Hid (∀ d os, Calls Tryz.prog 179 #[.pointer (some ⟨g, 0, none⟩)] (grow (redrawn w4 d) os) (Ret (.int .i64 (lday es)) (grow (redrawn w4 d) os))) := Lib.hid fun d os => spec_rday B g s es st n A c _ (HR.out.ext (ext_trans HW4.out (below_regrown _ _ _)))
         have h0 : ∀ d os, (grow (redrawn w4 d) os).cell? ⟨g4, 0, none⟩ = some (.int .i64 en.day) := fun d os => cell_regrown HP4.out.1 d os
         cases b1 with
         | false =>
           have HF : Hid (stepL es st (s.data.toList.drop n) = none) := Lib.hid (by rw [HL.out, HLN.out]; simp)
           refine wp_region_quiet_below (by kernel_rfl) (by kernel_rfl) ?_
           repeat (go_big_quiet_step ((first | (go_at_call 178; exact regrown_p (HOK.out _ _)) | (go_at_call 179; exact regrown_r (HDY.out _ _)))))
           refine wpQuiet_nil ?_
           intro w' hw'
           obtain ⟨p, rfl⟩ := hw'
           go_wp2_with fail
           go_ret
           exact LineP.no HF.out HR.out hB (ext_trans HW4.out (below_regrown _ _ _))
         | true =>
         cases b2 with
         | false =>
           have HF : Hid (stepL es st (s.data.toList.drop n) = none) := Lib.hid (by rw [HL.out, HLN.out]; simp)
           refine wp_region_quiet_below (by kernel_rfl) (by kernel_rfl) ?_
           repeat (go_big_quiet_step ((first | (go_at_call 178; exact regrown_p (HOK.out _ _)) | (go_at_call 179; exact regrown_r (HDY.out _ _)))))
           refine wpQuiet_nil ?_
           intro w' hw'
           obtain ⟨p, rfl⟩ := hw'
           go_wp2_with fail
           go_ret
           exact LineP.no HF.out HR.out hB (ext_trans HW4.out (below_regrown _ _ _))
         | true =>
         cases hv : vEn en with
         | false =>
           have HF : Hid (stepL es st (s.data.toList.drop n) = none) := Lib.hid (by rw [HL.out, HLN.out, hv]; simp)
           rw [hv] at HOK
           clear hv
           refine wp_region_quiet_below (by kernel_rfl) (by kernel_rfl) ?_
           repeat (go_big_quiet_step ((first | (go_at_call 178; exact regrown_p (HOK.out _ _)) | (go_at_call 179; exact regrown_r (HDY.out _ _)))))
           refine wpQuiet_nil ?_
           intro w' hw'
           obtain ⟨p, rfl⟩ := hw'
           go_wp2_with fail
           go_ret
           exact LineP.no HF.out HR.out hB (ext_trans HW4.out (below_regrown _ _ _))
         | true =>
         have HV := Lib.hid hv
         rw [hv] at HOK HLN
         clear hv
         have HRL : Hid (rdLn line = some (en, (gd l 3).data.toList)) := Lib.hid (by rw [HLN.out]; simp)
         by_cases hd : en.day < lday es
         · have e8 : decide (en.day < lday es) = true := decide_eq_true hd
           have HF : Hid (stepL es st (s.data.toList.drop n) = none) := Lib.hid (by rw [HL.out, HRL.out]; simp; omega)
           clear hd
           refine wp_region_quiet_below (by kernel_rfl) (by kernel_rfl) ?_
           repeat (go_big_quiet_step ((first | (go_at_call 178; exact regrown_p (HOK.out _ _)) | (go_at_call 179; exact regrown_r (HDY.out _ _)))))
           refine wpQuiet_nil ?_
           intro w' hw'
           obtain ⟨p, rfl⟩ := hw'
           go_wp2_with fail
           go_ret
           exact LineP.no HF.out HR.out hB (ext_trans HW4.out (below_regrown _ _ _))
         have e8 : decide (en.day < lday es) = false := decide_eq_false hd
         have HDD : Hid (lday es ≤ en.day) := Lib.hid (by omega)
         clear hd
         refine wp_region_quiet_below (by kernel_rfl) (by kernel_rfl) ?_
         repeat (go_big_quiet_step ((first | (go_at_call 178; exact regrown_p (HOK.out _ _)) | (go_at_call 179; exact regrown_r (HDY.out _ _)))))
         refine wpQuiet_nil ?_
         intro w' hw'
         obtain ⟨p, rfl⟩ := hw'
         have HW5 : Hid (Below w.heap.size w (grow (redrawn w4 p.d) p.os)) := Lib.hid (ext_trans HW4.out (below_regrown _ _ _))
         have HP5 : Hid (PEN (grow (redrawn w4 p.d) p.os) ⟨g4, 0, none⟩ en) := Lib.hid (HP4.out.ext (below_regrown _ _ _))
         generalize grow (redrawn w4 p.d) p.os = w5 at *
         clear h0 e8 HOK HDY HP4
         have HWD : Hid (∀ d os, Calls Tryz.prog 126 #[.pointer (some ⟨g4, 0, none⟩)] (grow (redrawn w5 d) os) (Ret (.string (wrb en)) (grow (redrawn w5 d) os))) := Lib.hid fun d os => spec_words ⟨g4, 0, none⟩ en _ HV.out (HP5.out.ext (below_regrown _ _ _))
         have HST : Hid (∀ w, Calls Tryz.prog 181 #[.int .i64 st, .string (wrb en)] w (RetP (.int .i64 (stpb st (wrb en))) w)) := Lib.hid fun w => spec_stamp st (wrb en) hst0 hst1 (by have := wrb_size HV.out; unfold maxLen; omega) w
         have x2 := fun d os => cell_regrown (d := d) (os := os) (cell_keep HR.out.h2 HW5.out)
         go_wp2_with fail
         refine wp_region_quiet_below (by kernel_rfl) (by kernel_rfl) ?_
         repeat (go_big_quiet_step ((first | (go_at_call 126; exact regrown_r (HWD.out _ _)) | (go_at_call 181; exact regrown_p (HST.out _)))))
         refine wpQuiet_nil ?_
         intro w' hw'
         obtain ⟨p, rfl⟩ := hw'
         have HW6 : Hid (Below w.heap.size w (grow (redrawn w5 p.d) p.os)) := Lib.hid (ext_trans HW5.out (below_regrown _ _ _))
         have HP6 : Hid (PEN (grow (redrawn w5 p.d) p.os) ⟨g4, 0, none⟩ en) := Lib.hid (HP5.out.ext (below_regrown _ _ _))
         generalize grow (redrawn w5 p.d) p.os = w6 at *
         clear x2 HWD HST HP5
         have hs2 := stpb_bd st (wrb en)
         have HTS : Hid (stpb st (wrb en) = stmp st (wrd en)) := Lib.hid rfl
         obtain ⟨st2, hst2⟩ : ∃ st2, stpb st (wrb en) = st2 := ⟨_, rfl⟩
         rw [hst2] at hs2 HTS ⊢
         clear hst2
         have HLI : Hid (∀ d os, Calls Tryz.prog 180 #[.int .i64 st2, .pointer (some ⟨g4, 0, none⟩)] (grow (redrawn w6 d) os) (Ret (.string (lnb st2 en)) (grow (redrawn w6 d) os))) := Lib.hid fun d os => spec_line st2 ⟨g4, 0, none⟩ en _ hs2.1 hs2.2 HV.out (HP6.out.ext (below_regrown _ _ _))
         have x0 := fun d os => cell_regrown (d := d) (os := os) (cell_keep HR.out.h0 HW6.out)
         have x1 := fun d os => cell_regrown (d := d) (os := os) (cell_keep HR.out.h1 HW6.out)
         have f1 : (0 : Int) ≤ (q : Int) + 1 := by omega
         have f2 : (n : Int) ≤ (q : Int) + 1 := by omega
         have f3 : (q : Int) + 1 ≤ s.size := by omega
         have f4 : ((q : Int) + 1).toNat = q + 1 := by omega
         have f5 : IntKind.i64.wrap ((q : Int) + 1) = (q : Int) + 1 := IntWalk.i64_in _ (by omega)
         obtain ⟨d3, hd3⟩ : ∃ d3, (gd l 3).data.toList = d3 := ⟨_, rfl⟩
         rw [hd3] at HRL HLN
         clear hd3
         have HQ := Lib.hid (lnb_iff (st := st2) HRL.out)
         obtain ⟨y1, hy1⟩ : ∃ y1, s.extract n (q + 1) = y1 := ⟨_, rfl⟩
         rw [hy1] at HX1
         by_cases hq : d3 = Lib.itoa st2
         · have he : lnb st2 en = y1 := by rw [HX1.out]; exact HQ.out.2 hq
           have HF : Hid (stepL es st (s.data.toList.drop n) = some (en, st2, q - n + 1)) := Lib.hid (by rw [HL.out, HRL.out]; simp only []; rw [← HTS.out, if_pos ⟨HDD.out, hq⟩])
           clear hq
           go_wp2_with fail
           refine wp_region_quiet_below (by kernel_rfl) (by kernel_rfl) ?_
           repeat (go_big_quiet_step ((go_at_call 180; exact regrown_r (HLI.out _ _))))
           refine wpQuiet_nil ?_
           intro w' hw'
           obtain ⟨p, rfl⟩ := hw'
           have HW7 : Hid (Below w.heap.size w (grow (redrawn w6 p.d) p.os)) := Lib.hid (ext_trans HW6.out (below_regrown _ _ _))
           have HP7 : Hid (PEN (grow (redrawn w6 p.d) p.os) ⟨g4, 0, none⟩ en) := Lib.hid (HP6.out.ext (below_regrown _ _ _))
           generalize grow (redrawn w6 p.d) p.os = w7 at *
           clear x0 x1 HLI HP6
           clear he hy1 hs2
           have d1 := cell_keep HR.out.h1 HW7.out
           have d2 := cell_keep HR.out.h2 HW7.out
           have d3 := cell_keep HR.out.h3 HW7.out
           have p0 := HP7.out.1
           have p1 := HP7.out.2.1
           have p2 := HP7.out.2.2
           have z3 : w7.frozen? ⟨g, 3, none⟩ = false := by rw [HW7.out.frozen (p := ⟨g, 3, none⟩) HR.out.lt]; exact HR.out.fz 3
           have HOW := Lib.hid (HR.out.own.ext HW7.out)
           obtain ⟨i0, hi, hz0, hz1, hz2⟩ := info_parts info_EN
           have hlt7 : g < w7.heap.size := Nat.lt_of_lt_of_le HR.out.lt HW7.out.size
           have hg47 : g4 < w7.heap.size := block_lt_of_cell p0
           have hne : (Value.slice A es.length c).ownBlock ≠ some g := fun h => HR.out.far g h rfl
           have hne4 : (Value.slice A es.length c).ownBlock ≠ some g4 := fun h => by
             have h1 := (HR.out.own.ge g4 h).2
             have h2 := HLT.out
             omega
           have hm1 : es.length + 1 ≤ maxLen := by unfold maxLen; omega
           have hm2 : (es.length + 1) * 32 ≤ 140737488355328 := by omega
           have hm3 : B ≤ w7.heap.size := by have := HW7.out.size; omega
           have zF : ∀ o, (w7.alloc o).drew.frozen? ⟨g, 3, none⟩ = false := fun o => by rw [(ext_drew (ext_alloc1 w7 o)).frozen (p := ⟨g, 3, none⟩) hlt7]; exact z3
           go_wp2_with fail
           go_region_law ((refine step_append_lies _ (by rfl) _ _ _ (by rfl) B 130 i0 _ 3 32 Tryz.underlying133 hi hz0 hz1 hz2 rfl (by omega) (.slice A es.length c) es.length (es.flatMap cEN) (by rfl) ((World.ownsRow.alloc HOW.out _).drew) ⟨w7.heap.size, 0, none⟩ 1 1 [.int .i64 en.day, .string en.what, .int .i64 en.val] (by rfl) (by rfl) (World.news_of_block (cs := #[.int .i64 en.day, .string en.what, .int .i64 en.val]) (t := 130) (fr := (0, 0)) (heap_alloc_new w7 _)) (by simp [Value.oneCell']) (by omega) hm1 hm2 (by simp; omega) (w7.heap.size + 1) (by simp) ?_; intro gg cap w8 hown8 hgrow hat hlt8; have y3 : w8.cell? ⟨g, 3, none⟩ = some (.slice A es.length c) := (hgrow.cell_far _ (by simp; omega) (Ne.symm hne)).trans ((ext_drew (ext_alloc1 w7 _)).cell (p := ⟨g, 3, none⟩) hlt7 |>.trans d3); have yz : w8.frozen? ⟨g, 3, none⟩ = false := (hgrow.frozen_far _ (by simp; omega) (Ne.symm hne)).trans (zF _)))
           all_goals
             have HST8 := Lib.hid (RR.step HR.out HW7.out hgrow hat hown8 st2 (q + 1))
             have y1 : w8.cell? ⟨g, 1, none⟩ = some (.int .i64 (n : Int)) := (hgrow.cell_far _ (by simp; omega) (Ne.symm hne)).trans ((ext_drew (ext_alloc1 w7 _)).cell (p := ⟨g, 1, none⟩) hlt7 |>.trans d1)
             have y2 : w8.cell? ⟨g, 2, none⟩ = some (.int .i64 st) := (hgrow.cell_far _ (by simp; omega) (Ne.symm hne)).trans ((ext_drew (ext_alloc1 w7 _)).cell (p := ⟨g, 2, none⟩) hlt7 |>.trans d2)
             have v1 : w8.frozen? ⟨g, 1, none⟩ = false := (hgrow.frozen_far _ (by simp; omega) (Ne.symm hne)).trans ((ext_drew (ext_alloc1 w7 _)).frozen (p := ⟨g, 1, none⟩) hlt7 |>.trans (by rw [HW7.out.frozen (p := ⟨g, 1, none⟩) HR.out.lt]; exact HR.out.fz 1))
             have v2 : w8.frozen? ⟨g, 2, none⟩ = false := (hgrow.frozen_far _ (by simp; omega) (Ne.symm hne)).trans ((ext_drew (ext_alloc1 w7 _)).frozen (p := ⟨g, 2, none⟩) hlt7 |>.trans (by rw [HW7.out.frozen (p := ⟨g, 2, none⟩) HR.out.lt]; exact HR.out.fz 2))
             clear hgrow hat hown8 hlt8 hne hne4 zF d1 d2 d3 p0 p1 p2 z3 hi hz0 hz1 hz2
             go_wp2_with fail
             go_ret
             unfold LineP
             rw [HF.out]
             refine ⟨some ⟨gg, 0, none⟩, cap, rfl, ?_, HST8.out.2⟩
             have h9 := HST8.out.1
             have e9 : stepAt n (some (en, st2, q - n + 1)) = q + 1 := by show n + (q - n + 1) = q + 1; omega
             rw [e9]
             exact h9
         · have he : lnb st2 en ≠ y1 := fun h => hq (HQ.out.1 (by rw [← HX1.out]; exact h))
           have hst := str_ne he
           have HF : Hid (stepL es st (s.data.toList.drop n) = none) := Lib.hid (by rw [HL.out, HRL.out]; simp only []; rw [← HTS.out, if_neg (fun h => hq h.2)])
           clear hq he
           go_wp2_with fail
           refine wp_region_quiet_below (by kernel_rfl) (by kernel_rfl) ?_
           repeat (go_big_quiet_step ((go_at_call 180; exact regrown_r (HLI.out _ _))))
           refine wpQuiet_nil ?_
           intro w' hw'
           obtain ⟨p, rfl⟩ := hw'
           have HW7 : Hid (Below w.heap.size w (grow (redrawn w6 p.d) p.os)) := Lib.hid (ext_trans HW6.out (below_regrown _ _ _))
           have HP7 : Hid (PEN (grow (redrawn w6 p.d) p.os) ⟨g4, 0, none⟩ en) := Lib.hid (HP6.out.ext (below_regrown _ _ _))
           generalize grow (redrawn w6 p.d) p.os = w7 at *
           clear x0 x1 HLI HP6
           go_wp2_with fail
           go_ret
           exact LineP.no HF.out HR.out hB HW7.out
       · have e7 : ((l.length : Int) != 4) = true := by simp; omega
         have HF : Hid (stepL es st (s.data.toList.drop n) = none) := Lib.hid (by rw [HL.out, ln_short (by rw [HSL.out]; exact hl4)])
         clear hl4
         go_wp2_with fail
         go_ret
         exact LineP.no HF.out HR.out hB HW1.out
     · have e6 : (y != 10) = true := by
         rw [← hy, bne_iff_ne]
         intro h0
         have h : s[q].toNat = 10 := by omega
         exact hb (by rw [← UInt8.toNat_inj]; exact h)
       have HN2 : Hid ((10 : UInt8) ∉ (s.data.toList.drop n).take (q + 1 - n)) := Lib.hid (by
         rw [show q + 1 - n = (q - n) + 1 by omega, List.take_add_one, HGD.out]
         simp only [List.mem_append, not_or]
         refine ⟨HN.out, ?_⟩
         simp only [Option.toList, List.mem_singleton]
         exact fun h => hb h.symm)
       clear hb hyy
       go_wp2_with fail
       go_round
       case rel => exact ⟨q + 1, by omega, hlt, by go_num, HN2.out⟩
       case measure => simp [intOf]; omega
   · obtain rfl : q = s.size := by omega
     have HF : Hid (stepL es st (s.data.toList.drop n) = none) := Lib.hid (step_none (by
       have := HN.out
       rwa [List.take_of_length_le (by rw [List.length_drop, size_toList]; omega)] at this))
     go_wp2_with fail
     go_ret
     exact LineP.no HF.out HR.out hB (ext_refl _)
end Go.Proofs.YtfgopboddkhckaaGreatDoor
