/-
  Bonds read, the program's side: ReadBond at texts of bonds, BondNamed.
-/
import Derived.Test.YtpoalklakhegoaaDoorBnd2
import Derived.Test.YtpoalklakhegoaaDoorDk
import Derived.Test.YtpoalklakhegoaaDoorSplit
import Derived.Deep.RegionHeld3
import Derived.BigQuiet
import Derived.Deep.AppendLies
namespace Go.Proofs.YtpoalklakhegoaaDoor
open Go.ChangeShapes Go.WideShapes Go.ChangeAt Go.RowKit Go.Sort Go.Joins
set_option linter.unusedVariables false
set_option maxRecDepth 100000

/-- A bond's box at q, its courses the call's own, behind q. -/
structure BR (w W : World) (q : Nat) (nm : ByteArray) (A : Option Addr) (c : Nat) (cs : List CO) : Prop where
  b : Below w.heap.size w W
  ge : w.heap.size ≤ q
  lt : q < W.heap.size
  h0 : W.cell? ⟨q, 0, none⟩ = some (.string nm)
  h1 : W.cell? ⟨q, 1, none⟩ = some (.slice A cs.length c)
  fz : ∀ j, W.frozen? ⟨q, j, none⟩ = false
  own : OCOS W (q + 1) (.slice A cs.length c) cs
theorem BR.far {w W : World} {q : Nat} {nm : ByteArray} {A : Option Addr} {c : Nat} {cs : List CO} (h : BR w W q nm A c cs) : ∀ k, (Value.slice A cs.length c).ownBlock = some k → k ≠ q := fun k hk => by
  have := (h.own.ge k hk).1; omega
theorem BR.ext {w W W' : World} {q : Nat} {nm : ByteArray} {A : Option Addr} {c : Nat} {cs : List CO} (h : BR w W q nm A c cs) (hb : Below W.heap.size W W') : BR w W' q nm A c cs :=
  ⟨ext_trans h.b hb, h.ge, Nat.lt_of_lt_of_le h.lt hb.size, cell_keep h.h0 hb, cell_keep h.h1 hb, fun j => by rw [(bcell hb).2 q j h.lt]; exact h.fz j, h.own.ext hb⟩
theorem BR.step {w W w7 w8 : World} {q : Nat} {nm : ByteArray} {A : Option Addr} {c : Nat} {cs : List CO} (h : BR w W q nm A c cs) (hb : Below W.heap.size W w7) {gg cap : Nat} {co : CO}
    (hgrow : w7.grownBy w8 (Value.slice A cs.length c).ownBlock) (hat : (Value.slice A cs.length c).ownBlock = some gg ∨ gg = w7.heap.size)
    (hown : w8.ownsRow (q + 1) 50 2 (.slice (some ⟨gg, 0, none⟩) (cs.length + 1) cap) (cs.length + 1) (cs.flatMap cCO ++ [.string co.lead, .string co.cyc])) :
    BR w (w8.setCell ⟨q, 1, none⟩ (.slice (some ⟨gg, 0, none⟩) (cs.length + 1) cap)) q nm (some ⟨gg, 0, none⟩) cap (cs ++ [co]) := by
  have hlt7 : q < w7.heap.size := Nat.lt_of_lt_of_le h.lt hb.size
  have hne : (Value.slice A cs.length c).ownBlock ≠ some q := fun e => h.far q e rfl
  have cl : ∀ j v, W.cell? ⟨q, j, none⟩ = some v → w8.cell? ⟨q, j, none⟩ = some v := fun j v hv => (hgrow.cell_far ⟨q, j, none⟩ hlt7 (Ne.symm hne)).trans (cell_keep hv hb)
  have fl : ∀ j, w8.frozen? ⟨q, j, none⟩ = false := fun j => (hgrow.frozen_far ⟨q, j, none⟩ hlt7 (Ne.symm hne)).trans ((hb.frozen (p := ⟨q, j, none⟩) h.lt).trans (h.fz j))
  have hgg : gg ≠ q := by
    rcases hat with e | e
    · exact h.far gg e
    · omega
  have hl : (cs ++ [co]).length = cs.length + 1 := by simp
  have hO : OCOS w8 (q + 1) (.slice (some ⟨gg, 0, none⟩) (cs ++ [co]).length cap) (cs ++ [co]) := by
    unfold OCOS
    rw [hl, List.flatMap_append]
    exact hown
  have c1 : Chg (fun k => (Value.slice A cs.length c).ownBlock = some k) W w8 := (Chg.of_below hb _).trans (Chg.of_grown hgrow)
  have c3 : Below w.heap.size w w8 := Chg.ext h.b c1 (fun k hk => by have := (h.own.ge k hk).1; have := h.ge; omega)
  refine ⟨ext_set c3 h.ge _, h.ge, by have := hgrow.size; simp; omega, ?_, ?_, fun j => by simpa using fl j, ?_⟩
  · rw [World.cell?_setCell_other _ _ _ _ (by simp)]; exact cl 0 _ h.h0
  · rw [hl]; exact World.cell?_setCell_same _ _ _ (cl 1 _ h.h1)
  · exact hO.put (by omega) 1 _
theorem BR.new (w : World) (W : World) (hb : Below w.heap.size w W) (nm : ByteArray) : BR w (W.alloc (.cells #[.string nm, .slice none 0 0] 26)) W.heap.size nm none 0 [] :=
  ⟨ext_trans hb (ext_alloc1 _ _), hb.size, by simp, by simp [go_sem], by simp [go_sem], fun j => by simp [go_sem], ⟨rfl, .inl ⟨rfl, rfl⟩⟩⟩

/-- The words of a text, at most ten; the bond that they tell. -/
def wI (s : ByteArray) : List ByteArray := Lib.splitB ⟨#[32]⟩ 0 (min 10 (s.size + 1) - 1) s
def nI (s : ByteArray) : ByteArray := gd (wI s) 0
def cI (s : ByteArray) : List CO := ((wI s).drop 1).map cof
/-- s is a bond's own text. -/
def gI (s : ByteArray) : Bool := decide (s.size ≠ 0) && decide (1 ≤ (wI s).length) && decide ((wI s).length ≤ min 10 (s.size + 1)) && (wI s).all (fun x => decide (x.size ≤ 1000)) && (cI s).all (fun o => decide (o.lead.size ≤ 1000) && decide (o.cyc.size ≤ 1000)) && decide (s.size ≤ 1000) && vB (nI s) (cI s) && decide (btK (nI s) (cI s) (cI s).length = s)
theorem impl_words (s : ByteArray) (hs : gI s = true) (w : World) (hsh : w.ShapedOpen Tryd.prog) :
    Calls Tryd.prog 26 #[.string s, .string ⟨#[32]⟩, .int .i64 10] w fun e w' => ∃ g cp, e = .returned (.slice (some ⟨g, 0, none⟩) (wI s).length cp) ∧ (wI s).length ≤ cp ∧ cp ≤ 10 ∧ (∀ k, k < (wI s).length → w'.cell? ⟨g, k, none⟩ = some (.string (gd (wI s) k))) ∧ Below w.heap.size w w' := by
  unfold gI at hs
  simp only [Bool.and_eq_true, decide_eq_true_eq] at hs
  obtain ⟨⟨⟨⟨⟨⟨⟨g1, g2⟩, g3⟩, g4⟩, g5⟩, g6⟩, g7⟩, g8⟩ := hs
  have hq := Tryd.strings_SplitN_shaped s ⟨#[32]⟩ 10 w hsh (by omega) (by show 1 ≤ 1; omega) (by omega) (by omega)
  refine hq.mono fun e w' ⟨h1, h2⟩ => ?_
  have e0 : Lib.splitB ⟨#[32]⟩ 0 (min 10 (s.size + 1) - 1) s = wI s := rfl
  rw [e0] at h1 h2
  subst h1 h2
  refine ⟨_, _, rfl, g3, by omega, fun k hk => ?_, ext_alloc1 _ _⟩
  rw [World.cell?_alloc_at _ _ _ _ rfl]
  unfold Lib.cellsOf
  rw [List.getElem?_toArray, List.getElem?_append_left (by simpa using hk), List.getElem?_map, List.getElem?_eq_getElem hk, gd_eq hk]
  rfl
set_option maxHeartbeats 3200000 in
theorem impl_ReadBond (s : ByteArray) (hg : gI s = true) (w : World) (hsh : w.ShapedOpen Tryd.prog) :
    Calls Tryd.prog 19 #[.string s] w fun e w' => ∃ A c, e = .returned (.tuple #[.agg #[.string (nI s), .slice A (cI s).length c], .bool true]) ∧ OCOS w' w.heap.size (.slice A (cI s).length c) (cI s) ∧ Below w.heap.size w w' := by
  have HSH : Hid (∀ W', Below w.heap.size w W' → W'.ShapedOpen Tryd.prog) := Lib.hid fun W' h => shaped_ext hsh h
  have HW := Lib.hid (fun w h => impl_words s hg w h)
  have HG := Lib.hid hg
  unfold gI at hg
  simp only [Bool.and_eq_true, decide_eq_true_eq] at hg
  obtain ⟨⟨⟨⟨⟨⟨⟨g1, g2⟩, g3⟩, g4⟩, g5⟩, g6⟩, g7⟩, g8⟩ := hg
  have HX : Hid (∀ k, k < (wI s).length → (gd (wI s) k).size ≤ 1000) := Lib.hid fun k hk => by simpa using List.all_eq_true.1 g4 _ (gd_mem hk)
  have HN : Hid (gd (wI s) 0 = nI s) := Lib.hid rfl
  have HCI : Hid (cI s = ((wI s).drop 1).map cof) := Lib.hid rfl
  have hwl : (wI s).length ≤ 10 := by omega
  have HV := Lib.hid g7
  have HT := Lib.hid g8
  have hs0 : ¬ s.size = 0 := g1
  have hem : s.toList.isEmpty = false := by rw [emptS, decide_eq_false hs0]
  have HLC : Hid (LenCOS (cI s)) := Lib.hid ⟨by have := (vB_all g7).2.2.1; unfold maxLen; omega, fun o ho => by
    have := List.all_eq_true.1 g5 o ho
    simp only [Bool.and_eq_true, decide_eq_true_eq] at this
    exact ⟨by unfold maxLen; omega, by unfold maxLen; omega⟩⟩
  have h2l : 2 ≤ (wI s).length := by have := (vB_all g7).2.1; unfold cI at this; rw [List.length_map, List.length_drop] at this; omega
  have hcl : (cI s).length + 1 = (wI s).length := by unfold cI; rw [List.length_map, List.length_drop]; omega
  have HCL := Lib.hid hcl
  clear hcl
  have HLN : Hid ((nI s).size ≤ maxLen) := Lib.hid (by have := isN_size (vB_all g7).1; unfold maxLen; omega)
  clear hsh g1 g3 g4 g5 g6 g7 g8 hs0
  go_enter Tryd.func19, Tryd.ntmps19
  go_wp2_with fail
  refine (show Calls _ _ _ _ _ from HW.out _ (HSH.out _ (ext_alloc1 _ _))).mono ?_
  rintro e w1 ⟨g, cp, rfl, hcp, hcp2, hR, hb⟩
  have HR := Lib.hid hR
  have z0 := cell_keep (p := ⟨w.heap.size, 0, none⟩) (v := .string ⟨#[]⟩) (by simp [go_sem]) hb
  have z1 := cell_keep (p := ⟨w.heap.size, 1, none⟩) (v := .slice none 0 0) (by simp [go_sem]) hb
  have hz0 : ∀ j, w1.frozen? ⟨w.heap.size, j, none⟩ = false := fun j => by rw [(bcell hb).2 _ _ (by simp)]; simp [go_sem]
  have HB := Lib.hid (ext_trans (ext_alloc1 _ _) hb)
  have hsz := hb.size
  have hc0 := hR 0 (by omega)
  rw [HN.out] at hc0
  have hl1 : ((wI s).length : Int) ≥ 1 := by omega
  have hcp1 : ¬ cp = 1 := by omega
  clear hb hR
  go_wp2_with fail
  have HBR := Lib.hid (BR.new w1 w1 (ext_refl _) (nI s))
  generalize w1.alloc (.cells #[.string (nI s), .slice none 0 0] 26) = wb at *
  obtain ⟨q, hq⟩ : ∃ q, w1.heap.size = q := ⟨_, rfl⟩
  rw [hq] at HBR
  have HQ := Lib.hid hq
  simp only [hq]
  clear hq hc0
  obtain ⟨m, hm⟩ : ∃ m, (wI s).length - 1 = m := ⟨_, rfl⟩
  have HM : Hid ((cI s).length = m) := Lib.hid (by have := HCL.out; omega)
  have hm1 : ((wI s).length : Int) - 1 = m := by omega
  rw [hm]
  go_loopw [17] (fun i wr => ∃ (k : Nat) (A : Option Addr) (c : Nat), k ≤ m ∧ i = .int .i64 k ∧ Hid (BR w1 wr q (nI s) A c ((cI s).take k))) (fun i _ => m - (intOf i).toNat)
  case atStart => exact ⟨0, none, 0, Nat.zero_le _, rfl, HBR⟩
  case round =>
    obtain ⟨k, A, c, hk, rfl, HR2⟩ := hrel
    have e1 : (0 : Int) ≤ k := by omega
    by_cases hlt : k < m
    · have e2 : (k : Int) < m := by omega
      have HTK : Hid ((cI s).take (k + 1) = (cI s).take k ++ [cof (gd (wI s) (k + 1))]) := Lib.hid (by
        rw [take_gd (by have := HM.out; omega)]
        congr 2
        rw [gd_eq (by have := HM.out; omega), gd_eq (by omega)]
        simp only [HCI.out, List.getElem_map, List.getElem_drop]
        congr 2
        omega)
      have hkl : ((cI s).take k).length = k := by rw [List.length_take]; have := HM.out; omega
      have hwd := cell_keep (HR.out (k + 1) (by omega)) HR2.out.b
      have hws := HX.out (k + 1) (by omega)
      obtain ⟨wd, hwd2⟩ : ∃ x, gd (wI s) (k + 1) = x := ⟨_, rfl⟩
      rw [hwd2] at hwd hws HTK
      obtain ⟨l, hl⟩ : ∃ l, (cI s).take k = l := ⟨_, rfl⟩
      rw [hl] at HR2 HTK hkl
      have HKL := Lib.hid hkl
      have hl9 : l.length ≤ 9 := by omega
      have HCO := Lib.hid (fun w h => impl_courseOf wd (by omega) w h)
      obtain ⟨co, hco⟩ : ∃ o, cof wd = o := ⟨_, rfl⟩
      rw [hco] at HCO HTK
      clear hwd2 hl hco hkl
      have hwd' : wr.cell? ⟨g, 1 + k, none⟩ = some (.string wd) := by rw [Nat.add_comm]; exact hwd
      have b1 := HR2.out.h1
      have HSW := Lib.hid (HSH.out wr.drew (ext_drew (ext_trans HB.out HR2.out.b)))
      have hf1 := HR2.out.fz 1
      obtain ⟨i0, hi, hz0', hz1', hz2'⟩ := info_parts info_CO
      have hm1' : l.length + 1 ≤ maxLen := by unfold maxLen; omega
      have hm2' : (l.length + 1) * 32 ≤ 140737488355328 := by omega
      have hlt9 := HR2.out.lt
      go_wp2_with fail
      go_region_law (first
        | (go_simp; refine (show Calls _ _ _ _ _ from HCO.out _ HSW.out).mono ?_; rintro e w3 ⟨rfl, hb3⟩; (have HR3 := Lib.hid (HR2.out.ext (ext_trans (ext_drew (ext_refl _)) hb3))); (have HB3 := Lib.hid hb3); (have y1 := HR3.out.h1); (have yf := HR3.out.fz 1); (have hlt3 := HR3.out.lt); clear hb3; dsimp only)
        | (refine step_append_lies _ (by rfl) _ _ _ (by rfl) (q + 1) 50 i0 _ 2 32 Tryd.underlying24 hi hz0' hz1' hz2' rfl (by omega) (.slice A l.length c) l.length (l.flatMap cCO) (by rfl) (World.ownsRow.alloc HR3.out.own _) ⟨w3.heap.size, 0, none⟩ 1 1 [.string co.lead, .string co.cyc] (by rfl) (by rfl) (World.news_of_block (cs := #[.string co.lead, .string co.cyc]) (t := 50) (fr := (0, 0)) (heap_alloc_new w3 _)) (by simp [Value.oneCell']) (by omega) hm1' hm2' (by simp; omega) (w3.heap.size + 1) (by simp) ?_; intro gg cap w8 hown8 hgrow hat hlt8; (have y3 := (hgrow.cell_far ⟨q, 1, none⟩ (by simp; omega) (fun e => HR3.out.far q e.symm rfl)).trans (cell_keep y1 (ext_alloc1 w3 _))); (have y4 := (hgrow.frozen_far ⟨q, 1, none⟩ (by simp; omega) (fun e => HR3.out.far q e.symm rfl)).trans (((ext_alloc1 w3 _).frozen (p := ⟨q, 1, none⟩) hlt3).trans yf))))
      all_goals
        have HBS := Lib.hid (HR2.out.step (w7 := w3.alloc (.cells #[.string co.lead, .string co.cyc] 50)) (ext_trans (ext_trans (ext_drew (ext_refl _)) HB3.out) (ext_alloc1 w3 _)) (co := co) hgrow (by simpa using hat) hown8)
        clear hgrow hat hown8 hlt8 y1 yf y3 y4 hlt3
        generalize w8.setCell ⟨q, 1, none⟩ (.slice (some ⟨gg, 0, none⟩) (l.length + 1) cap) = w9 at *
        go_wp2_with fail
        go_roundw
        case rel => exact ⟨k + 1, some ⟨gg, 0, none⟩, cap, by omega, by go_num, by rw [HTK.out]; exact HBS⟩
        case measure => simp [intOf]; omega
    · obtain rfl : k = m := by omega
      have e2 : ¬ (k : Int) < k := by omega
      have htk : (cI s).take k = cI s := by rw [List.take_of_length_le (by have := HM.out; omega)]
      rw [htk] at HR2
      clear htk
      have HBT := Lib.hid (fun w h => impl_BondText_ok A c (nI s) (cI s) w HLN.out HLC.out h HV.out)
      rw [HT.out] at HBT
      have b0 := HR2.out.h0
      have b1 := HR2.out.h1
      have r0 := cell_keep z0 HR2.out.b
      have r1 := cell_keep z1 HR2.out.b
      have rf : ∀ j, wr.frozen? ⟨w.heap.size, j, none⟩ = false := fun j => by
        rw [(bcell HR2.out.b).2 _ _ (by simp at hsz; omega)]; exact hz0 j
      clear HX HN HCI HM HG HV HT HCL
      have hlw : w.heap.size < wr.heap.size := by have := HR2.out.b.size; simp at hsz; omega
      go_wp2_with fail
      refine (show Calls _ _ _ _ _ from HBT.out _ HR2.out.own.rd).mono ?_
      rintro e w4 ⟨rfl, hb4⟩
      have HR4 := Lib.hid (HR2.out.ext hb4)
      replace b0 := cell_keep b0 hb4
      replace b1 := cell_keep b1 hb4
      replace r0 := cell_keep r0 hb4
      replace r1 := cell_keep r1 hb4
      have rf4 : ∀ j, w4.frozen? ⟨w.heap.size, j, none⟩ = false := fun j => by
        rw [(bcell hb4).2 _ _ hlw]; exact rf j
      clear hb4 rf
      have hqw : w.heap.size < q := by have := HQ.out; simp at hsz; omega
      go_wp2_with fail
      refine bodyPost_ret (v := .tuple #[.agg #[.string (nI s), .slice A (cI s).length c], .bool true]) (by simp [results, Tryd.results19, go_sem, r0, r1]) rfl ⟨A, c, rfl, ?_, ?_⟩
      · exact ((HR4.out.own.put (show w.heap.size < q + 1 by omega) 0 _).put (show w.heap.size < q + 1 by omega) 1 _).mono (by omega)
      · repeat (refine ext_set ?_ (by simp; try omega) _)
        exact ext_trans HB.out HR4.out.b
end Go.Proofs.YtpoalklakhegoaaDoor
