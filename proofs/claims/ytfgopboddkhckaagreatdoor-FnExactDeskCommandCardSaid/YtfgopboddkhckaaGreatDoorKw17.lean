/-
  Parts of the proof: Bnd3, Bnd4, DoorN.
-/
import Derived.Test.YtfgopboddkhckaaGreatDoorKw16
import Derived.ChangeBears2
import Derived.ChangeVars
namespace Go.Proofs.YtfgopboddkhckaaGreatDoor
open Go.ChangeShapes Go.WideShapes Go.ChangeAt Go.RowKit Go.Sort Go.Joins
set_option linter.unusedVariables false
set_option maxRecDepth 100000
structure BR (w W : World) (q : Nat) (nm : ByteArray) (A : Option Addr) (c : Nat) (cs : List CO) : Prop where
 b : Below w.heap.size w W
 ge : w.heap.size ≤ q
 lt : q < W.heap.size
 h0 : W.cell? ⟨q, 0, none⟩ = some (.string nm)
 h1 : W.cell? ⟨q, 1, none⟩ = some (.slice A cs.length c)
 fz : ∀ j, W.frozen? ⟨q, j, none⟩ = false
 own : OCOS W (q + 1) (.slice A cs.length c) cs
theorem BR.far {w W : World} {q : Nat} {nm : ByteArray} {A : Option Addr} {c : Nat} {cs : List CO} (h : BR w W q nm A c cs) : ∀ k, (Value.slice A cs.length c).ownBlock = some k → k ≠ q := fun k hk => by
  have := (h.own.ge k hk).1; omega
theorem BR.ext {w W W' : World} {q : Nat} {nm : ByteArray} {A : Option Addr} {c : Nat} {cs : List CO} (h : BR w W q nm A c cs) (hb : Below W.heap.size W W') : BR w W' q nm A c cs :=
 ⟨ext_trans h.b hb, h.ge, Nat.lt_of_lt_of_le h.lt hb.size, cell_keep h.h0 hb, cell_keep h.h1 hb, fun j => by rw [(bcell hb).2 q j h.lt]; exact h.fz j, h.own.ext hb⟩
theorem BR.step {w W w7 w8 : World} {q : Nat} {nm : ByteArray} {A : Option Addr} {c : Nat} {cs : List CO} (h : BR w W q nm A c cs) (hb : Below W.heap.size W w7) {gg cap : Nat} {co : CO}
   (hgrow : w7.grownBy w8 (Value.slice A cs.length c).ownBlock) (hat : (Value.slice A cs.length c).ownBlock = some gg ∨ gg = w7.heap.size)
   (hown : w8.ownsRow (q + 1) 102 2 (.slice (some ⟨gg, 0, none⟩) (cs.length + 1) cap) (cs.length + 1) (cs.flatMap cCO ++ [.string co.lead, .string co.cyc])) :
   BR w (w8.setCell ⟨q, 1, none⟩ (.slice (some ⟨gg, 0, none⟩) (cs.length + 1) cap)) q nm (some ⟨gg, 0, none⟩) cap (cs ++ [co]) := by
 have hlt7 : q < w7.heap.size := Nat.lt_of_lt_of_le h.lt hb.size
 have hne : (Value.slice A cs.length c).ownBlock ≠ some q := fun e => h.far q e rfl
 have cl : ∀ j v, W.cell? ⟨q, j, none⟩ = some v → w8.cell? ⟨q, j, none⟩ = some v := fun j v hv => (hgrow.cell_far ⟨q, j, none⟩ hlt7 (Ne.symm hne)).trans (cell_keep hv hb)
 have fl : ∀ j, w8.frozen? ⟨q, j, none⟩ = false := fun j => (hgrow.frozen_far ⟨q, j, none⟩ hlt7 (Ne.symm hne)).trans ((hb.frozen (p := ⟨q, j, none⟩) h.lt).trans (h.fz j))
 have hgg : gg ≠ q := by
   rcases hat with e | e
   · exact h.far gg e
   · omega
 have hl : (cs ++ [co]).length = cs.length + 1 := by simp
 have hO : OCOS w8 (q + 1) (.slice (some ⟨gg, 0, none⟩) (cs ++ [co]).length cap) (cs ++ [co]) := by
   unfold OCOS
   rw [hl, List.flatMap_append]
   exact hown
 have c1 : Chg (fun k => (Value.slice A cs.length c).ownBlock = some k) W w8 := (Chg.of_below hb _).trans (Chg.of_grown hgrow)
 have c3 : Below w.heap.size w w8 := Chg.ext h.b c1 (fun k hk => by have := (h.own.ge k hk).1; have := h.ge; omega)
 refine ⟨ext_set c3 h.ge _, h.ge, by have := hgrow.size; simp; omega, ?_, ?_, fun j => by simpa using fl j, ?_⟩
 · rw [World.cell?_setCell_other _ _ _ _ (by simp)]; exact cl 0 _ h.h0
 · rw [hl]; exact World.cell?_setCell_same _ _ _ (cl 1 _ h.h1)
 · exact hO.put (by omega) 1 _
theorem BR.new (w : World) (W : World) (hb : Below w.heap.size w W) (nm : ByteArray) : BR w (W.alloc (.cells #[.string nm, .slice none 0 0] 36)) W.heap.size nm none 0 [] :=
 ⟨ext_trans hb (ext_alloc1 _ _), hb.size, by simp, by simp [go_sem], by simp [go_sem], fun j => by simp [go_sem], ⟨rfl, .inl ⟨rfl, rfl⟩⟩⟩
def wI (s : ByteArray) : List ByteArray := Lib.splitB ⟨#[32]⟩ 0 (min 10 (s.size + 1) - 1) s
def nI (s : ByteArray) : ByteArray := gd (wI s) 0
def cI (s : ByteArray) : List CO := ((wI s).drop 1).map cof
def gI (s : ByteArray) : Bool := decide (s.size ≠ 0) && decide (1 ≤ (wI s).length) && decide ((wI s).length ≤ min 10 (s.size + 1)) && (wI s).all (fun x => decide (x.size ≤ 1000)) && (cI s).all (fun o => decide (o.lead.size ≤ 1000) && decide (o.cyc.size ≤ 1000)) && decide (s.size ≤ 1000) && vB (nI s) (cI s) && decide (btK (nI s) (cI s) (cI s).length = s)
theorem impl_words4 (s : ByteArray) (hs : gI s = true) (w : World) (hsh : w.ShapedOpen Tryz.prog) :
   Calls Tryz.prog 170 #[.string s, .string ⟨#[32]⟩, .int .i64 10] w fun e w' => ∃ g cp, e = .returned (.slice (some ⟨g, 0, none⟩) (wI s).length cp) ∧ (wI s).length ≤ cp ∧ cp ≤ 10 ∧ (∀ k, k < (wI s).length → w'.cell? ⟨g, k, none⟩ = some (.string (gd (wI s) k))) ∧ Below w.heap.size w w' := by
 unfold gI at hs
 simp only [Bool.and_eq_true, decide_eq_true_eq] at hs
 obtain ⟨⟨⟨⟨⟨⟨⟨g1, g2⟩, g3⟩, g4⟩, g5⟩, g6⟩, g7⟩, g8⟩ := hs
 have hq := Tryz.strings_SplitN_shaped s ⟨#[32]⟩ 10 w hsh (by omega) (by show 1 ≤ 1; omega) (by omega) (by omega)
 refine hq.mono fun e w' ⟨h1, h2⟩ => ?_
 have e0 : Lib.splitB ⟨#[32]⟩ 0 (min 10 (s.size + 1) - 1) s = wI s := rfl
 rw [e0] at h1 h2
 subst h1 h2
 refine ⟨_, _, rfl, g3, by omega, fun k hk => ?_, ext_alloc1 _ _⟩
 rw [World.cell?_alloc_at _ _ _ _ rfl]
 unfold Lib.cellsOf
 rw [List.getElem?_toArray, List.getElem?_append_left (by simpa using hk), List.getElem?_map, List.getElem?_eq_getElem hk, gd_eq hk]
 rfl
set_option maxHeartbeats 3200000 in
theorem impl_ReadBond (s : ByteArray) (hg : gI s = true) (w : World) (hsh : w.ShapedOpen Tryz.prog) :
   Calls Tryz.prog 108 #[.string s] w fun e w' => ∃ A c, e = .returned (.tuple #[.agg #[.string (nI s), .slice A (cI s).length c], .bool true]) ∧ OCOS w' w.heap.size (.slice A (cI s).length c) (cI s) ∧ Below w.heap.size w w' := by
 have HSH : Hid (∀ W', Below w.heap.size w W' → W'.ShapedOpen Tryz.prog) := Lib.hid fun W' h => shaped_ext hsh h
 have HW := Lib.hid (fun w h => impl_words4 s hg w h)
 have HG := Lib.hid hg
 unfold gI at hg
 simp only [Bool.and_eq_true, decide_eq_true_eq] at hg
 obtain ⟨⟨⟨⟨⟨⟨⟨g1, g2⟩, g3⟩, g4⟩, g5⟩, g6⟩, g7⟩, g8⟩ := hg
 have HX : Hid (∀ k, k < (wI s).length → (gd (wI s) k).size ≤ 1000) := Lib.hid fun k hk => by simpa using List.all_eq_true.1 g4 _ (gd_mem hk)
 have HN : Hid (gd (wI s) 0 = nI s) := Lib.hid rfl
 have HCI : Hid (cI s = ((wI s).drop 1).map cof) := Lib.hid rfl
 have hwl : (wI s).length ≤ 10 := by omega
 have HV := Lib.hid g7
 have HT := Lib.hid g8
 have hs0 : ¬ s.size = 0 := g1
 have hem : s.toList.isEmpty = false := by rw [emptS, decide_eq_false hs0]
 have HLC : Hid (LenCOS (cI s)) := Lib.hid ⟨by have := (vB_all g7).2.2.1; unfold maxLen; omega, fun o ho => by
   have := List.all_eq_true.1 g5 o ho
   simp only [Bool.and_eq_true, decide_eq_true_eq] at this
   exact ⟨by unfold maxLen; omega, by unfold maxLen; omega⟩⟩
 have h2l : 2 ≤ (wI s).length := by have := (vB_all g7).2.1; unfold cI at this; rw [List.length_map, List.length_drop] at this; omega
 have hcl : (cI s).length + 1 = (wI s).length := by unfold cI; rw [List.length_map, List.length_drop]; omega
 have HCL := Lib.hid hcl
 clear hcl
 have HLN : Hid ((nI s).size ≤ maxLen) := Lib.hid (by have := isN_size (vB_all g7).1; unfold maxLen; omega)
 clear hsh g1 g3 g4 g5 g6 g7 g8 hs0
 go_enter Tryz.func108, Tryz.ntmps108
 go_wp2_with fail
 refine (show Calls _ _ _ _ _ from HW.out _ (HSH.out _ (ext_alloc1 _ _))).mono ?_
 rintro e w1 ⟨g, cp, rfl, hcp, hcp2, hR, hb⟩
 have HR := Lib.hid hR
 have z0 := cell_keep (p := ⟨w.heap.size, 0, none⟩) (v := .string ⟨#[]⟩) (by simp [go_sem]) hb
 have z1 := cell_keep (p := ⟨w.heap.size, 1, none⟩) (v := .slice none 0 0) (by simp [go_sem]) hb
 have hz0 : ∀ j, w1.frozen? ⟨w.heap.size, j, none⟩ = false := fun j => by rw [(bcell hb).2 _ _ (by simp)]; simp [go_sem]
 have HB := Lib.hid (ext_trans (ext_alloc1 _ _) hb)
 have hsz := hb.size
 have hc0 := hR 0 (by omega)
 rw [HN.out] at hc0
 have hl1 : ((wI s).length : Int) ≥ 1 := by omega
 have hcp1 : ¬ cp = 1 := by omega
 clear hb hR
 go_wp2_with fail
 have HBR := Lib.hid (BR.new w1 w1 (ext_refl _) (nI s))
 generalize w1.alloc (.cells #[.string (nI s), .slice none 0 0] 36) = wb at *
 obtain ⟨q, hq⟩ : ∃ q, w1.heap.size = q := ⟨_, rfl⟩
 rw [hq] at HBR
 have HQ := Lib.hid hq
 simp only [hq]
 clear hq hc0
 obtain ⟨m, hm⟩ : ∃ m, (wI s).length - 1 = m := ⟨_, rfl⟩
 have HM : Hid ((cI s).length = m) := Lib.hid (by have := HCL.out; omega)
 have hm1 : ((wI s).length : Int) - 1 = m := by omega
 rw [hm]
 go_loopw [17] (fun i wr => ∃ (k : Nat) (A : Option Addr) (c : Nat), k ≤ m ∧ i = .int .i64 k ∧ Hid (BR w1 wr q (nI s) A c ((cI s).take k))) (fun i _ => m - (intOf i).toNat)
 case atStart => exact ⟨0, none, 0, Nat.zero_le _, rfl, HBR⟩
 case round =>
   obtain ⟨k, A, c, hk, rfl, HR2⟩ := hrel
   have e1 : (0 : Int) ≤ k := by omega
   by_cases hlt : k < m
   · have e2 : (k : Int) < m := by omega
     have HTK : Hid ((cI s).take (k + 1) = (cI s).take k ++ [cof (gd (wI s) (k + 1))]) := Lib.hid (by
       rw [take_gd (by have := HM.out; omega)]
       congr 2
       rw [gd_eq (by have := HM.out; omega), gd_eq (by omega)]
       simp only [HCI.out, List.getElem_map, List.getElem_drop]
       congr 2
       omega)
     have hkl : ((cI s).take k).length = k := by rw [List.length_take]; have := HM.out; omega
     have hwd := cell_keep (HR.out (k + 1) (by omega)) HR2.out.b
     have hws := HX.out (k + 1) (by omega)
     obtain ⟨wd, hwd2⟩ : ∃ x, gd (wI s) (k + 1) = x := ⟨_, rfl⟩
     rw [hwd2] at hwd hws HTK
     obtain ⟨l, hl⟩ : ∃ l, (cI s).take k = l := ⟨_, rfl⟩
     rw [hl] at HR2 HTK hkl
     have HKL := Lib.hid hkl
     have hl9 : l.length ≤ 9 := by omega
     have HCO := Lib.hid (fun w h => impl_courseOf wd (by omega) w h)
     obtain ⟨co, hco⟩ : ∃ o, cof wd = o := ⟨_, rfl⟩
     rw [hco] at HCO HTK
     clear hwd2 hl hco hkl
     have hwd' : wr.cell? ⟨g, 1 + k, none⟩ = some (.string wd) := by rw [Nat.add_comm]; exact hwd
     have b1 := HR2.out.h1
     have HSW := Lib.hid (HSH.out wr.drew (ext_drew (ext_trans HB.out HR2.out.b)))
     have hf1 := HR2.out.fz 1
     obtain ⟨i0, hi, hz0', hz1', hz2'⟩ := info_parts info_CO
     have hm1' : l.length + 1 ≤ maxLen := by unfold maxLen; omega
     have hm2' : (l.length + 1) * 32 ≤ 140737488355328 := by omega
     have hlt9 := HR2.out.lt
     go_wp2_with fail
     go_region_law (first
       | (go_simp; refine (show Calls _ _ _ _ _ from HCO.out _ HSW.out).mono ?_; rintro e w3 ⟨rfl, hb3⟩; (have HR3 := Lib.hid (HR2.out.ext (ext_trans (ext_drew (ext_refl _)) hb3))); (have HB3 := Lib.hid hb3); (have y1 := HR3.out.h1); (have yf := HR3.out.fz 1); (have hlt3 := HR3.out.lt); clear hb3; dsimp only)
       | (refine step_append_lies _ (by rfl) _ _ _ (by rfl) (q + 1) 102 i0 _ 2 32 Tryz.underlying34 hi hz0' hz1' hz2' rfl (by omega) (.slice A l.length c) l.length (l.flatMap cCO) (by rfl) (World.ownsRow.alloc HR3.out.own _) ⟨w3.heap.size, 0, none⟩ 1 1 [.string co.lead, .string co.cyc] (by rfl) (by rfl) (World.news_of_block (cs := #[.string co.lead, .string co.cyc]) (t := 102) (fr := (0, 0)) (heap_alloc_new w3 _)) (by simp [Value.oneCell']) (by omega) hm1' hm2' (by simp; omega) (w3.heap.size + 1) (by simp) ?_; intro gg cap w8 hown8 hgrow hat hlt8; (have y3 := (hgrow.cell_far ⟨q, 1, none⟩ (by simp; omega) (fun e => HR3.out.far q e.symm rfl)).trans (cell_keep y1 (ext_alloc1 w3 _))); (have y4 := (hgrow.frozen_far ⟨q, 1, none⟩ (by simp; omega) (fun e => HR3.out.far q e.symm rfl)).trans (((ext_alloc1 w3 _).frozen (p := ⟨q, 1, none⟩) hlt3).trans yf))))
     all_goals
       have HBS := Lib.hid (HR2.out.step (w7 := w3.alloc (.cells #[.string co.lead, .string co.cyc] 102)) (ext_trans (ext_trans (ext_drew (ext_refl _)) HB3.out) (ext_alloc1 w3 _)) (co := co) hgrow (by simpa using hat) hown8)
       clear hgrow hat hown8 hlt8 y1 yf y3 y4 hlt3
       generalize w8.setCell ⟨q, 1, none⟩ (.slice (some ⟨gg, 0, none⟩) (l.length + 1) cap) = w9 at *
       go_wp2_with fail
       go_roundw
       case rel => exact ⟨k + 1, some ⟨gg, 0, none⟩, cap, by omega, by go_num, by rw [HTK.out]; exact HBS⟩
       case measure => simp [intOf]; omega
   · obtain rfl : k = m := by omega
     have e2 : ¬ (k : Int) < k := by omega
     have htk : (cI s).take k = cI s := by rw [List.take_of_length_le (by have := HM.out; omega)]
     rw [htk] at HR2
     clear htk
     have HBT := Lib.hid (fun w h => impl_BondText_ok A c (nI s) (cI s) w HLN.out HLC.out h HV.out)
     rw [HT.out] at HBT
     have b0 := HR2.out.h0
     have b1 := HR2.out.h1
     have r0 := cell_keep z0 HR2.out.b
     have r1 := cell_keep z1 HR2.out.b
     have rf : ∀ j, wr.frozen? ⟨w.heap.size, j, none⟩ = false := fun j => by
       rw [(bcell HR2.out.b).2 _ _ (by simp at hsz; omega)]; exact hz0 j
     clear HX HN HCI HM HG HV HT HCL
     have hlw : w.heap.size < wr.heap.size := by have := HR2.out.b.size; simp at hsz; omega
     go_wp2_with fail
     refine (show Calls _ _ _ _ _ from HBT.out _ HR2.out.own.rd).mono ?_
     rintro e w4 ⟨rfl, hb4⟩
     have HR4 := Lib.hid (HR2.out.ext hb4)
     replace b0 := cell_keep b0 hb4
     replace b1 := cell_keep b1 hb4
     replace r0 := cell_keep r0 hb4
     replace r1 := cell_keep r1 hb4
     have rf4 : ∀ j, w4.frozen? ⟨w.heap.size, j, none⟩ = false := fun j => by
       rw [(bcell hb4).2 _ _ hlw]; exact rf j
     clear hb4 rf
     have hqw : w.heap.size < q := by have := HQ.out; simp at hsz; omega
     go_wp2_with fail
     refine bodyPost_ret (v := .tuple #[.agg #[.string (nI s), .slice A (cI s).length c], .bool true]) (by simp [results, Tryz.results108, go_sem, r0, r1]) rfl ⟨A, c, rfl, ?_, ?_⟩
     · exact ((HR4.out.own.put (show w.heap.size < q + 1 by omega) 0 _).put (show w.heap.size < q + 1 by omega) 1 _).mono (by omega)
     · repeat (refine ext_set ?_ (by simp; try omega) _)
       exact ext_trans HB.out HR4.out.b
def tL0 : ByteArray := ⟨#[115, 116, 114, 101, 116, 99, 104, 101, 114, 32, 83, 32, 66, 43, 83]⟩
def nL0 : ByteArray := ⟨#[115, 116, 114, 101, 116, 99, 104, 101, 114]⟩
def cL0 : List CO := [⟨⟨#[]⟩, ⟨#[83]⟩⟩, ⟨⟨#[66]⟩, ⟨#[83]⟩⟩]
theorem lib0 : gI tL0 = true ∧ nI tL0 = nL0 ∧ cI tL0 = cL0 := by decide +kernel
def tL1 : ByteArray := ⟨#[104, 101, 97, 100, 101, 114, 32, 72, 32, 67, 43, 72]⟩
def nL1 : ByteArray := ⟨#[104, 101, 97, 100, 101, 114]⟩
def cL1 : List CO := [⟨⟨#[]⟩, ⟨#[72]⟩⟩, ⟨⟨#[67]⟩, ⟨#[72]⟩⟩]
theorem lib1 : gI tL1 = true ∧ nI tL1 = nL1 ∧ cI tL1 = cL1 := by decide +kernel
def tL2 : ByteArray := ⟨#[101, 110, 103, 108, 105, 115, 104, 32, 83, 32, 72, 67, 43, 72]⟩
def nL2 : ByteArray := ⟨#[101, 110, 103, 108, 105, 115, 104]⟩
def cL2 : List CO := [⟨⟨#[]⟩, ⟨#[83]⟩⟩, ⟨⟨#[72, 67]⟩, ⟨#[72]⟩⟩]
theorem lib2 : gI tL2 = true ∧ nI tL2 = nL2 ∧ cI tL2 = cL2 := by decide +kernel
def tL3 : ByteArray := ⟨#[102, 108, 101, 109, 105, 115, 104, 32, 83, 72, 32, 72, 67, 43, 83, 72]⟩
def nL3 : ByteArray := ⟨#[102, 108, 101, 109, 105, 115, 104]⟩
def cL3 : List CO := [⟨⟨#[]⟩, ⟨#[83, 72]⟩⟩, ⟨⟨#[72, 67]⟩, ⟨#[83, 72]⟩⟩]
theorem lib3 : gI tL3 = true ∧ nI tL3 = nL3 ∧ cI tL3 = cL3 := by decide +kernel
def tL4 : ByteArray := ⟨#[103, 97, 114, 100, 101, 110, 32, 83, 32, 66, 43, 83, 32, 83, 32, 72, 67, 43, 72]⟩
def nL4 : ByteArray := ⟨#[103, 97, 114, 100, 101, 110]⟩
def cL4 : List CO := [⟨⟨#[]⟩, ⟨#[83]⟩⟩, ⟨⟨#[66]⟩, ⟨#[83]⟩⟩, ⟨⟨#[]⟩, ⟨#[83]⟩⟩, ⟨⟨#[72, 67]⟩, ⟨#[72]⟩⟩]
theorem lib4 : gI tL4 = true ∧ nI tL4 = nL4 ∧ cI tL4 = cL4 := by decide +kernel
def LibT (w : World) : Prop := w.var? Tryz.prog "loop.example/g01042/impl.libraryTexts" = some #[.string tL0, .string tL1, .string tL2, .string tL3, .string tL4]
theorem LibT.ext {w w' : World} (h : LibT w) (hb : Below w.heap.size w w') : LibT w' := var_ext hb h
def bnF (s : ByteArray) : Option (ByteArray × List CO) := if s = nL0 then some (nL0, cL0) else if s = nL1 then some (nL1, cL1) else if s = nL2 then some (nL2, cL2) else if s = nL3 then some (nL3, cL3) else if s = nL4 then some (nL4, cL4) else none
def bnN (s : ByteArray) : ByteArray := match bnF s with | some p => p.1 | none => ⟨#[]⟩
def bnC (s : ByteArray) : List CO := match bnF s with | some p => p.2 | none => []
def bnR (s : ByteArray) : Int := match bnF s with | some p => 0 | none => 3
theorem impl_ReadL (t n : ByteArray) (cs : List CO) (h : gI t = true ∧ nI t = n ∧ cI t = cs) (w : World) (hsh : w.ShapedOpen Tryz.prog) :
   Calls Tryz.prog 108 #[.string t] w fun e w' => ∃ A c, e = .returned (.tuple #[.agg #[.string n, .slice A cs.length c], .bool true]) ∧ OCOS w' w.heap.size (.slice A cs.length c) cs ∧ Below w.heap.size w w' := by
 obtain ⟨h1, rfl, rfl⟩ := h
 exact impl_ReadBond t h1 w hsh
structure RE (w W : World) (q : Nat) : Prop where
 b : Below w.heap.size w W
 ge : w.heap.size ≤ q
 lt : q < W.heap.size
 h0 : W.cell? ⟨q, 0, none⟩ = some (.string ⟨#[]⟩)
 h1 : W.cell? ⟨q, 1, none⟩ = some (.slice none 0 0)
 fz : ∀ j, W.frozen? ⟨q, j, none⟩ = false
theorem RE.ext {w W W' : World} {q : Nat} (h : RE w W q) (hb : Below W.heap.size W W') : RE w W' q :=
 ⟨ext_trans h.b hb, h.ge, Nat.lt_of_lt_of_le h.lt hb.size, cell_keep h.h0 hb, cell_keep h.h1 hb, fun j => by rw [(bcell hb).2 q j h.lt]; exact h.fz j⟩
theorem run_idx5 (v0 v1 v2 v3 v4 v : Value) (i : Int) (w : World) (h : (i = 0 ∧ v = v0) ∨ (i = 1 ∧ v = v1) ∨ (i = 2 ∧ v = v2) ∨ (i = 3 ∧ v = v3) ∨ (i = 4 ∧ v = v4)) : (Instr.index 144 (.agg #[v0, v1, v2, v3, v4]) (.int .i64 i)).run Tryz.prog w = .ok v w := by
 have hu := Tryz.underlying144
 rcases h with ⟨rfl, rfl⟩ | ⟨rfl, rfl⟩ | ⟨rfl, rfl⟩ | ⟨rfl, rfl⟩ | ⟨rfl, rfl⟩ <;> simp [Instr.index, run_underlying hu, asIntOf, go_sem]
theorem ne_list {s t : ByteArray} (h : s ≠ t) : ¬ s.toList = t.toList := fun e => by
  have h2 := str_ne h
  rw [e] at h2
  simp at h2
set_option maxHeartbeats 3200000 in
theorem impl_BondNamed (s : ByteArray) (w : World) (hsh : w.ShapedOpen Tryz.prog) (hT : LibT w) :
   Calls Tryz.prog 53 #[.string s] w fun e w' => ∃ A c, e = .returned (.tuple #[.agg #[.string (bnN s), .slice A (bnC s).length c], .int .i64 (bnR s)]) ∧ OCOS w' w.heap.size (.slice A (bnC s).length c) (bnC s) ∧ Below w.heap.size w w' := by
 have HS : Hid (∀ W', Below w.heap.size w W' → W'.ShapedOpen Tryz.prog) := Lib.hid fun W' h => shaped_ext hsh h
 have hT2 := hT.ext (ext_alloc1 w (.cells #[.string ⟨#[]⟩, .slice none 0 0] 36))
 have g0 := var?_cell (g := 1) (by kernel_rfl) hT2 0
 have g1 := var?_cell (g := 1) (by kernel_rfl) hT2 1
 have g2 := var?_cell (g := 1) (by kernel_rfl) hT2 2
 have g3 := var?_cell (g := 1) (by kernel_rfl) hT2 3
 have g4 := var?_cell (g := 1) (by kernel_rfl) hT2 4
 simp only [List.getElem?_toArray, List.getElem?_cons_zero, List.getElem?_cons_succ] at g0 g1 g2 g3 g4
 clear hT hT2 hsh
 have HE : Hid (RE w (w.alloc (.cells #[.string ⟨#[]⟩, .slice none 0 0] 36)) w.heap.size) := Lib.hid ⟨ext_alloc1 _ _, Nat.le_refl _, by simp, by simp [go_sem], by simp [go_sem], fun j => by simp [go_sem]⟩
 go_enter Tryz.func53, Tryz.ntmps53
 go_wp2_with fail
 clear g0 g1 g2 g3 g4
 refine wp_loop_rounds 6 ?_
 rw [rounds_succ]
 have HL := Lib.hid (fun w h => impl_ReadL tL0 nL0 cL0 lib0 w h)
 have HSW := Lib.hid (HS.out _ HE.out.b)
 have hix := fun w => run_idx5 (.string tL0) (.string tL1) (.string tL2) (.string tL3) (.string tL4) (.string tL0) 0 w (by simp)
 go_wp2_with fail
 refine (show Calls _ _ _ _ _ from HL.out _ HSW.out).mono ?_
 rintro e w1 ⟨A, c, rfl, hO, hb⟩
 have HO := Lib.hid (hO.mono (show w.heap.size + 1 ≤ _ from HE.out.lt))
 replace HE := Lib.hid (HE.out.ext hb)
 clear hb hO HL HSW hix
 by_cases hs : s = nL0
 · have HF : Hid (bnN nL0 = nL0 ∧ bnC nL0 = cL0 ∧ bnR nL0 = 0) := Lib.hid (by decide +kernel)
   subst hs
   have h0 := HE.out.h0
   have h1 := HE.out.h1
   have fz := HE.out.fz
   have hlt := HE.out.lt
   have HB := Lib.hid HE.out.b
   have HQ := Lib.hid HE.out.ge
   clear HE
   go_wp2_with fail
   have u0 : (((w1.setCell ⟨w.heap.size, 0, none⟩ (.string nL0)).setCell ⟨w.heap.size, 1, none⟩ (.slice A (cL0).length c)).alloc (.cells #[.string nL0, .slice A (cL0).length c] 36)).cell? ⟨w.heap.size, 0, none⟩ = some (.string nL0) := cell_keep (by simp [go_sem, h0]) (ext_alloc1 _ _)
   have u1 : (((w1.setCell ⟨w.heap.size, 0, none⟩ (.string nL0)).setCell ⟨w.heap.size, 1, none⟩ (.slice A (cL0).length c)).alloc (.cells #[.string nL0, .slice A (cL0).length c] 36)).cell? ⟨w.heap.size, 1, none⟩ = some (.slice A (cL0).length c) := cell_keep (by simp [go_sem, h1]) (ext_alloc1 _ _)
   refine bodyPost_ret (v := .tuple #[.agg #[.string nL0, .slice A (cL0).length c], .int .i64 0]) (by simp [results, Tryz.results53, go_sem, u0, u1]) rfl ⟨A, c, by rw [HF.out.1, HF.out.2.1, HF.out.2.2], ?_, ?_⟩
   · rw [HF.out.2.1]
     exact (((HO.out.put (Nat.lt_succ_self _) 0 _).put (Nat.lt_succ_self _) 1 _).ext (ext_alloc1 _ _)).mono (Nat.le_succ _)
   · exact ext_alloc (ext_set (ext_set HB.out (Nat.le_refl _) _) (Nat.le_refl _) _) _
 have hst := str_ne hs
 have hst2 := ne_list hs
 have hst3 := str_ne (Ne.symm hs)
 have hst4 := ne_list (Ne.symm hs)
 go_wp2_with fail
 clear hst hst2 hst3 hst4 HO
 replace HE := Lib.hid (HE.out.ext (ext_alloc1 w1 (.cells #[.string nL0, .slice A (cL0).length c] 36)))
 generalize w1.alloc (.cells #[.string nL0, .slice A (cL0).length c] 36) = wx0 at *
 have HN0 := Lib.hid hs
 clear hs
 rw [rounds_succ]
 have HL := Lib.hid (fun w h => impl_ReadL tL1 nL1 cL1 lib1 w h)
 have HSW := Lib.hid (HS.out _ HE.out.b)
 have hix := fun w => run_idx5 (.string tL0) (.string tL1) (.string tL2) (.string tL3) (.string tL4) (.string tL1) 1 w (by simp)
 go_wp2_with fail
 refine (show Calls _ _ _ _ _ from HL.out _ HSW.out).mono ?_
 rintro e w1 ⟨A, c, rfl, hO, hb⟩
 have HO := Lib.hid (hO.mono (show w.heap.size + 1 ≤ _ from HE.out.lt))
 replace HE := Lib.hid (HE.out.ext hb)
 clear hb hO HL HSW hix
 by_cases hs : s = nL1
 · have HF : Hid (bnN nL1 = nL1 ∧ bnC nL1 = cL1 ∧ bnR nL1 = 0) := Lib.hid (by decide +kernel)
   subst hs
   have h0 := HE.out.h0
   have h1 := HE.out.h1
   have fz := HE.out.fz
   have hlt := HE.out.lt
   have HB := Lib.hid HE.out.b
   have HQ := Lib.hid HE.out.ge
   clear HE
   go_wp2_with fail
   have u0 : (((w1.setCell ⟨w.heap.size, 0, none⟩ (.string nL1)).setCell ⟨w.heap.size, 1, none⟩ (.slice A (cL1).length c)).alloc (.cells #[.string nL1, .slice A (cL1).length c] 36)).cell? ⟨w.heap.size, 0, none⟩ = some (.string nL1) := cell_keep (by simp [go_sem, h0]) (ext_alloc1 _ _)
   have u1 : (((w1.setCell ⟨w.heap.size, 0, none⟩ (.string nL1)).setCell ⟨w.heap.size, 1, none⟩ (.slice A (cL1).length c)).alloc (.cells #[.string nL1, .slice A (cL1).length c] 36)).cell? ⟨w.heap.size, 1, none⟩ = some (.slice A (cL1).length c) := cell_keep (by simp [go_sem, h1]) (ext_alloc1 _ _)
   refine bodyPost_ret (v := .tuple #[.agg #[.string nL1, .slice A (cL1).length c], .int .i64 0]) (by simp [results, Tryz.results53, go_sem, u0, u1]) rfl ⟨A, c, by rw [HF.out.1, HF.out.2.1, HF.out.2.2], ?_, ?_⟩
   · rw [HF.out.2.1]
     exact (((HO.out.put (Nat.lt_succ_self _) 0 _).put (Nat.lt_succ_self _) 1 _).ext (ext_alloc1 _ _)).mono (Nat.le_succ _)
   · exact ext_alloc (ext_set (ext_set HB.out (Nat.le_refl _) _) (Nat.le_refl _) _) _
 have hst := str_ne hs
 have hst2 := ne_list hs
 have hst3 := str_ne (Ne.symm hs)
 have hst4 := ne_list (Ne.symm hs)
 go_wp2_with fail
 clear hst hst2 hst3 hst4 HO
 replace HE := Lib.hid (HE.out.ext (ext_alloc1 w1 (.cells #[.string nL1, .slice A (cL1).length c] 36)))
 generalize w1.alloc (.cells #[.string nL1, .slice A (cL1).length c] 36) = wx1 at *
 have HN1 := Lib.hid hs
 clear hs
 rw [rounds_succ]
 have HL := Lib.hid (fun w h => impl_ReadL tL2 nL2 cL2 lib2 w h)
 have HSW := Lib.hid (HS.out _ HE.out.b)
 have hix := fun w => run_idx5 (.string tL0) (.string tL1) (.string tL2) (.string tL3) (.string tL4) (.string tL2) 2 w (by simp)
 go_wp2_with fail
 refine (show Calls _ _ _ _ _ from HL.out _ HSW.out).mono ?_
 rintro e w1 ⟨A, c, rfl, hO, hb⟩
 have HO := Lib.hid (hO.mono (show w.heap.size + 1 ≤ _ from HE.out.lt))
 replace HE := Lib.hid (HE.out.ext hb)
 clear hb hO HL HSW hix
 by_cases hs : s = nL2
 · have HF : Hid (bnN nL2 = nL2 ∧ bnC nL2 = cL2 ∧ bnR nL2 = 0) := Lib.hid (by decide +kernel)
   subst hs
   have h0 := HE.out.h0
   have h1 := HE.out.h1
   have fz := HE.out.fz
   have hlt := HE.out.lt
   have HB := Lib.hid HE.out.b
   have HQ := Lib.hid HE.out.ge
   clear HE
   go_wp2_with fail
   have u0 : (((w1.setCell ⟨w.heap.size, 0, none⟩ (.string nL2)).setCell ⟨w.heap.size, 1, none⟩ (.slice A (cL2).length c)).alloc (.cells #[.string nL2, .slice A (cL2).length c] 36)).cell? ⟨w.heap.size, 0, none⟩ = some (.string nL2) := cell_keep (by simp [go_sem, h0]) (ext_alloc1 _ _)
   have u1 : (((w1.setCell ⟨w.heap.size, 0, none⟩ (.string nL2)).setCell ⟨w.heap.size, 1, none⟩ (.slice A (cL2).length c)).alloc (.cells #[.string nL2, .slice A (cL2).length c] 36)).cell? ⟨w.heap.size, 1, none⟩ = some (.slice A (cL2).length c) := cell_keep (by simp [go_sem, h1]) (ext_alloc1 _ _)
   refine bodyPost_ret (v := .tuple #[.agg #[.string nL2, .slice A (cL2).length c], .int .i64 0]) (by simp [results, Tryz.results53, go_sem, u0, u1]) rfl ⟨A, c, by rw [HF.out.1, HF.out.2.1, HF.out.2.2], ?_, ?_⟩
   · rw [HF.out.2.1]
     exact (((HO.out.put (Nat.lt_succ_self _) 0 _).put (Nat.lt_succ_self _) 1 _).ext (ext_alloc1 _ _)).mono (Nat.le_succ _)
   · exact ext_alloc (ext_set (ext_set HB.out (Nat.le_refl _) _) (Nat.le_refl _) _) _
 have hst := str_ne hs
 have hst2 := ne_list hs
 have hst3 := str_ne (Ne.symm hs)
 have hst4 := ne_list (Ne.symm hs)
 go_wp2_with fail
 clear hst hst2 hst3 hst4 HO
 replace HE := Lib.hid (HE.out.ext (ext_alloc1 w1 (.cells #[.string nL2, .slice A (cL2).length c] 36)))
 generalize w1.alloc (.cells #[.string nL2, .slice A (cL2).length c] 36) = wx2 at *
 have HN2 := Lib.hid hs
 clear hs
 rw [rounds_succ]
 have HL := Lib.hid (fun w h => impl_ReadL tL3 nL3 cL3 lib3 w h)
 have HSW := Lib.hid (HS.out _ HE.out.b)
 have hix := fun w => run_idx5 (.string tL0) (.string tL1) (.string tL2) (.string tL3) (.string tL4) (.string tL3) 3 w (by simp)
 go_wp2_with fail
 refine (show Calls _ _ _ _ _ from HL.out _ HSW.out).mono ?_
 rintro e w1 ⟨A, c, rfl, hO, hb⟩
 have HO := Lib.hid (hO.mono (show w.heap.size + 1 ≤ _ from HE.out.lt))
 replace HE := Lib.hid (HE.out.ext hb)
 clear hb hO HL HSW hix
 by_cases hs : s = nL3
 · have HF : Hid (bnN nL3 = nL3 ∧ bnC nL3 = cL3 ∧ bnR nL3 = 0) := Lib.hid (by decide +kernel)
   subst hs
   have h0 := HE.out.h0
   have h1 := HE.out.h1
   have fz := HE.out.fz
   have hlt := HE.out.lt
   have HB := Lib.hid HE.out.b
   have HQ := Lib.hid HE.out.ge
   clear HE
   go_wp2_with fail
   have u0 : (((w1.setCell ⟨w.heap.size, 0, none⟩ (.string nL3)).setCell ⟨w.heap.size, 1, none⟩ (.slice A (cL3).length c)).alloc (.cells #[.string nL3, .slice A (cL3).length c] 36)).cell? ⟨w.heap.size, 0, none⟩ = some (.string nL3) := cell_keep (by simp [go_sem, h0]) (ext_alloc1 _ _)
   have u1 : (((w1.setCell ⟨w.heap.size, 0, none⟩ (.string nL3)).setCell ⟨w.heap.size, 1, none⟩ (.slice A (cL3).length c)).alloc (.cells #[.string nL3, .slice A (cL3).length c] 36)).cell? ⟨w.heap.size, 1, none⟩ = some (.slice A (cL3).length c) := cell_keep (by simp [go_sem, h1]) (ext_alloc1 _ _)
   refine bodyPost_ret (v := .tuple #[.agg #[.string nL3, .slice A (cL3).length c], .int .i64 0]) (by simp [results, Tryz.results53, go_sem, u0, u1]) rfl ⟨A, c, by rw [HF.out.1, HF.out.2.1, HF.out.2.2], ?_, ?_⟩
   · rw [HF.out.2.1]
     exact (((HO.out.put (Nat.lt_succ_self _) 0 _).put (Nat.lt_succ_self _) 1 _).ext (ext_alloc1 _ _)).mono (Nat.le_succ _)
   · exact ext_alloc (ext_set (ext_set HB.out (Nat.le_refl _) _) (Nat.le_refl _) _) _
 have hst := str_ne hs
 have hst2 := ne_list hs
 have hst3 := str_ne (Ne.symm hs)
 have hst4 := ne_list (Ne.symm hs)
 go_wp2_with fail
 clear hst hst2 hst3 hst4 HO
 replace HE := Lib.hid (HE.out.ext (ext_alloc1 w1 (.cells #[.string nL3, .slice A (cL3).length c] 36)))
 generalize w1.alloc (.cells #[.string nL3, .slice A (cL3).length c] 36) = wx3 at *
 have HN3 := Lib.hid hs
 clear hs
 rw [rounds_succ]
 have HL := Lib.hid (fun w h => impl_ReadL tL4 nL4 cL4 lib4 w h)
 have HSW := Lib.hid (HS.out _ HE.out.b)
 have hix := fun w => run_idx5 (.string tL0) (.string tL1) (.string tL2) (.string tL3) (.string tL4) (.string tL4) 4 w (by simp)
 go_wp2_with fail
 refine (show Calls _ _ _ _ _ from HL.out _ HSW.out).mono ?_
 rintro e w1 ⟨A, c, rfl, hO, hb⟩
 have HO := Lib.hid (hO.mono (show w.heap.size + 1 ≤ _ from HE.out.lt))
 replace HE := Lib.hid (HE.out.ext hb)
 clear hb hO HL HSW hix
 by_cases hs : s = nL4
 · have HF : Hid (bnN nL4 = nL4 ∧ bnC nL4 = cL4 ∧ bnR nL4 = 0) := Lib.hid (by decide +kernel)
   subst hs
   have h0 := HE.out.h0
   have h1 := HE.out.h1
   have fz := HE.out.fz
   have hlt := HE.out.lt
   have HB := Lib.hid HE.out.b
   have HQ := Lib.hid HE.out.ge
   clear HE
   go_wp2_with fail
   have u0 : (((w1.setCell ⟨w.heap.size, 0, none⟩ (.string nL4)).setCell ⟨w.heap.size, 1, none⟩ (.slice A (cL4).length c)).alloc (.cells #[.string nL4, .slice A (cL4).length c] 36)).cell? ⟨w.heap.size, 0, none⟩ = some (.string nL4) := cell_keep (by simp [go_sem, h0]) (ext_alloc1 _ _)
   have u1 : (((w1.setCell ⟨w.heap.size, 0, none⟩ (.string nL4)).setCell ⟨w.heap.size, 1, none⟩ (.slice A (cL4).length c)).alloc (.cells #[.string nL4, .slice A (cL4).length c] 36)).cell? ⟨w.heap.size, 1, none⟩ = some (.slice A (cL4).length c) := cell_keep (by simp [go_sem, h1]) (ext_alloc1 _ _)
   refine bodyPost_ret (v := .tuple #[.agg #[.string nL4, .slice A (cL4).length c], .int .i64 0]) (by simp [results, Tryz.results53, go_sem, u0, u1]) rfl ⟨A, c, by rw [HF.out.1, HF.out.2.1, HF.out.2.2], ?_, ?_⟩
   · rw [HF.out.2.1]
     exact (((HO.out.put (Nat.lt_succ_self _) 0 _).put (Nat.lt_succ_self _) 1 _).ext (ext_alloc1 _ _)).mono (Nat.le_succ _)
   · exact ext_alloc (ext_set (ext_set HB.out (Nat.le_refl _) _) (Nat.le_refl _) _) _
 have hst := str_ne hs
 have hst2 := ne_list hs
 have hst3 := str_ne (Ne.symm hs)
 have hst4 := ne_list (Ne.symm hs)
 go_wp2_with fail
 clear hst hst2 hst3 hst4 HO
 replace HE := Lib.hid (HE.out.ext (ext_alloc1 w1 (.cells #[.string nL4, .slice A (cL4).length c] 36)))
 generalize w1.alloc (.cells #[.string nL4, .slice A (cL4).length c] 36) = wx4 at *
 have HN4 := Lib.hid hs
 clear hs
 rw [rounds_succ]
 have HF : Hid (bnN s = ⟨#[]⟩ ∧ bnC s = [] ∧ bnR s = 3) := Lib.hid (by unfold bnN bnC bnR bnF; rw [if_neg HN0.out, if_neg HN1.out, if_neg HN2.out, if_neg HN3.out, if_neg HN4.out]; exact ⟨rfl, rfl, rfl⟩)
 have h0 := HE.out.h0
 have h1 := HE.out.h1
 have fz := HE.out.fz
 have hlt := HE.out.lt
 have HB := Lib.hid HE.out.b
 clear HE
 go_wp2_with fail
 refine bodyPost_ret (v := .tuple #[.agg #[.string ⟨#[]⟩, .slice none 0 0], .int .i64 3]) (by simp [results, Tryz.results53, go_sem, h0, h1]) rfl ⟨none, 0, by rw [HF.out.1, HF.out.2.1, HF.out.2.2]; rfl, ?_, ?_⟩
 · rw [HF.out.2.1]
   exact ⟨rfl, .inl ⟨rfl, rfl⟩⟩
 · exact ext_set (ext_set HB.out (Nat.le_refl _) _) (Nat.le_refl _) _
end Go.Proofs.YtfgopboddkhckaaGreatDoor
namespace Go.Proofs.YtfgopboddkhckaaGreatDoor
open Go.ChangeShapes Go.WideShapes Go.ChangeAt Go.RowKit Go.Sort Go.Joins
set_option maxRecDepth 100000
theorem g_lib : (Tryz.prog.globals[1]?).map (·.type) = some 144 := by kernel_rfl
theorem n_lib : Tryz.prog.globalNamed "loop.example/g01042/impl.libraryTexts" = some 1 := by kernel_rfl
theorem lib_of {laid : List (String × DataW Unit)} {W : World} (h : laidMet Tryz.prog laid W) (hm : ("loop.example/g01042/impl.libraryTexts", Rows.laid_loop_example_g01042_impl_libraryTexts) ∈ laid) : LibT W := by
 obtain ⟨ps, hv, _⟩ := h
 obtain ⟨g, t, cs, fuel, p, h1, h2, h3, h4⟩ := var_reads hv _ _ hm
 obtain rfl := Option.some.inj (n_lib.symm.trans h1)
 obtain rfl := Option.some.inj (g_lib.symm.trans h2)
 obtain ⟨xs, m, _, hx, hl, hxl, hf⟩ := DataW.trod_array Tryz.underlying144 h4
 have c5 : Tryz.prog.cellsOf 144 = 5 := by kernel_rfl
 have c1 : Tryz.prog.cellsOf 9 = 1 := by kernel_rfl
 rw [c5] at hl
 rw [c1] at hf
 have hx1 := congrArg Prod.fst hx
 have e : (Rows.laid_loop_example_g01042_impl_libraryTexts : DataW Unit) = .agg [.lit (.string tL0.data.toList), .lit (.string tL1.data.toList), .lit (.string tL2.data.toList), .lit (.string tL3.data.toList), .lit (.string tL4.data.toList)] := by rfl
 rw [e] at hx1
 injection hx1 with hx1
 obtain ⟨ls⟩ := cs
 match ls, hl, xs, hxl with
 | [d0, d1, d2, d3, d4], _, [x0, x1, x2, x3, x4], _ =>
   simp only [List.map_cons, List.map_nil, List.cons.injEq, and_true] at hx1
   obtain ⟨q0, q1, q2, q3, q4⟩ := hx1
   have k : ∀ (i : Nat) (d : Value) (x : DataW Unit × List MemPlace) (t : ByteArray), i < 5 → ([d0, d1, d2, d3, d4].drop (i * 1)).take 1 = [d] → [x0, x1, x2, x3, x4][i]? = some x → DataW.lit (.string t.data.toList) = x.1 → d = .string t := by
     intro i d x t hi hd hx hq
     have h := hf i hi
     rw [show (Array.mk [d0, d1, d2, d3, d4]).toList = [d0, d1, d2, d3, d4] from rfl, hd, hx] at h
     obtain ⟨s, hs, hx2, _⟩ := DataW.trod_string Tryz.underlying9 h
     injection hs with hs
     rw [hx2] at hq
     injection hq with hq
     injection hq with hq
     rw [hs, ba_ext hq]
   obtain rfl := k 0 d0 x0 tL0 (by omega) rfl rfl q0
   obtain rfl := k 1 d1 x1 tL1 (by omega) rfl rfl q1
   obtain rfl := k 2 d2 x2 tL2 (by omega) rfl rfl q2
   obtain rfl := k 3 d3 x3 tL3 (by omega) rfl rfl q3
   obtain rfl := k 4 d4 x4 tL4 (by omega) rfl rfl q4
   exact h3
structure EnvN (w : World) : Prop where
 shp : w.ShapedOpen Tryz.prog
 lib : LibT w
theorem EnvN.ext {w w' : World} (h : EnvN w) (hb : Below w.heap.size w w') : EnvN w' := ⟨shaped_ext h.shp hb, h.lib.ext hb⟩
end Go.Proofs.YtfgopboddkhckaaGreatDoor
