/-
  Parts of the proof: Door, Bnd2, Bnd3.
-/
import Derived.Test.YtfgopboddkhckaaGreatDoorKa1
import Derived.Test.YtfgopboddkhckaaGreatDoorKa3
import Derived.Test.YtfgopboddkhckaaGreatDoorKa4
import Derived.Test.YtfgopboddkhckaaGreatDoorKa5
import Derived.Test.YtfgopboddkhckaaGreatDoorKa6
import Derived.Test.YtfgopboddkhckaaGreatDoorCards
import Derived.Test.YtfgopboddkhckaaGreatDoorTie
import Derived.Lay
import Derived.Lib.LaidTab
import Derived.HandedShaped
import Derived.LaidMore
import Derived.LaidLaws
import Derived.SevenTiedAt
import Derived.Stop.Joined
import Derived.Deep.RegionHeld3
import Derived.BigQuiet
import Derived.Deep.AppendLies
namespace Go.Proofs.YtfgopboddkhckaaGreatDoor
open Go.ChangeShapes Go.WideShapes Go.ChangeAt Go.RowKit Go.Sort Go.Joins
set_option maxRecDepth 100000

/-- How a listed variable reads. -/
theorem var_reads {P : Program} {w : World} : ∀ {l : List (String × DataW Unit)} {ps : List MemPlace}, DataW.LaidVars P w l ps → ∀ n d, (n, d) ∈ l →
    ∃ g t cs fuel p, P.globalNamed n = some g ∧ (P.globals[g]?).map (·.type) = some t ∧ w.var? P n = some cs ∧ DataW.trod (fun _ => ()) P w 0 (fun _ => true) false fuel t cs.toList = some (d, p)
  | [], _, _, _, _, hm => by cases hm
  | (n', d') :: r, ps, h, n, d, hm => by
    obtain ⟨g, t, cs, fuel, p, q, h1, h2, h3, h4, h5, _⟩ := h
    rcases List.mem_cons.1 hm with e | e
    · cases e
      exact ⟨g, t, cs, fuel, p, h1, h2, h3, h4⟩
    · exact var_reads h5 n d e
theorem g_pow : (Tryz.prog.globals[5]?).map (·.type) = some 269 := by kernel_rfl
theorem n_pow : Tryz.prog.globalNamed "internal/strconv.uint64pow10" = some 5 := by kernel_rfl
theorem layF_of {laid : List (String × DataW Unit)} {W : World} (h : laidMet Tryz.prog laid W) (hm : ("internal/strconv.uint64pow10", Rows.laid_internal_strconv_uint64pow10) ∈ laid) : LayF W := by
  obtain ⟨ps, hv, _⟩ := h
  obtain ⟨g, t, cs, fuel, p, h1, h2, h3, h4⟩ := var_reads hv _ _ hm
  obtain rfl := Option.some.inj (n_pow.symm.trans h1)
  obtain rfl := Option.some.inj (g_pow.symm.trans h2)
  have e : (Rows.laid_internal_strconv_uint64pow10 : DataW Unit) = Lib.tabData .u64 Lib.pow10Tab := by rfl
  rw [e] at h4
  have h5 := Lib.cells_of_tab Tryz.underlying269 Tryz.underlying140 (by kernel_rfl) (by kernel_rfl) h4
  unfold LayF Lib.TabIs
  rw [h3]
  exact congrArg some (Array.ext' (by rw [h5]))
theorem iface_of {laid : List (String × DataW Unit)} {W : World} (h : laidMet Tryz.prog laid W) {nm en : String} {d : DataW Unit} {g : Nat} (hn : Tryz.prog.globalNamed nm = some g) (hg : (Tryz.prog.globals[g]?).map (·.type) = some 105) (hm : (nm, .iface en d) ∈ laid) : ∃ tp p, W.var? Tryz.prog nm = some #[.iface tp p] := by
  obtain ⟨ps, hv, _⟩ := h
  obtain ⟨g', t, cs, fuel, p, h1, h2, h3, h4⟩ := var_reads hv _ _ hm
  obtain rfl := Option.some.inj (hn.symm.trans h1)
  obtain rfl := Option.some.inj (hg.symm.trans h2)
  obtain ⟨f1, u, v, he, _, _⟩ := iface_of_trod Tryz.underlying105 h4
  refine ⟨u, v, ?_⟩
  rw [h3]
  exact congrArg some (Array.ext' (by rw [he]))
theorem env_of {laid : List (String × DataW Unit)} {W : World} (h : laidMet Tryz.prog laid W) (hsh : W.ShapedOpen Tryz.prog) (hm : ("internal/strconv.uint64pow10", Rows.laid_internal_strconv_uint64pow10) ∈ laid)
    (h1 : ("strconv.ErrSyntax", Rows.laid_strconv_ErrSyntax) ∈ laid) (h2 : ("strconv.ErrRange", Rows.laid_strconv_ErrRange) ∈ laid) : Env W :=
  ⟨layF_of h hm, hsh, iface_of h (g := 3) (by kernel_rfl) (by kernel_rfl) h1, iface_of h (g := 4) (by kernel_rfl) (by kernel_rfl) h2⟩

/-- The frame: what is listed, and the world's shape. -/
theorem returns_door {H : Type} {enc : TypeId × Value → H} {a : Assume} {C : Checked} {os : Os} {f : FuncId} {fn : Func} {s : ChangeSpec} {conds : List PathCond} {apart fresh handsOn again : Bool} {X : World → Array Value → Prop}
    (hX : ∀ (w w' : World) (args : Array Value), w.heap = w'.heap → X w args → X w' args)
    (own : ownKnob C.prog.godebug = none) (started : os.Started) (noInit : C.prog.inits.idxOf? f = none) (hfn : C.prog.funcs[f]? = some fn)
    (witness : ∃ (w : World) (tape : Tape) (i : Input), w.os = os ∧ (w.forCall tape i).Shaped C.prog ∧ i.vars = [] ∧ Input.okWide C.prog (w.forCall tape i) .any w.heap.size f i ∧
      ((s.pre enc C.prog fn conds apart (w.forCall tape i).memory i.args ∧ X (w.forCall tape i).memory i.args) ∧ sizedMet enc C.prog fn (OpenSpec.ofChange s) apart (w.forCall tape i).memory i.args) ∧ a.holds C.prog (lone (Frame.enter C.prog f i.args .normal) [] (w.forCall tape i)))
    (contract : ∀ (W : World) (base : Nat) (args : Array Value) (ds gs : List (DataW H)) (before : List MemPlace),
      (∀ (j : Nat) t v, fn.params[j]? = some t → args[j]? = some v → Value.okWide C.prog W .any base t v) →
      DataW.Whole enc C.prog fn.params.toList s.vars apart W args.toList ds gs before → X W args → W.ShapedOpen C.prog →
      Calls C.prog f args W fun e W' => ∃ v, e = .returned v ∧ s.post enc C.prog fn apart fresh handsOn again W args v W') :
    ReturnsInHanded a C os f .any (fun w args => (s.pre enc C.prog fn conds apart w args ∧ X w args) ∧ sizedMet enc C.prog fn (OpenSpec.ofChange s) apart w args) (s.post enc C.prog fn apart fresh handsOn again) := by
  refine returnsInHanded_of_calls own started noInit witness ?_
  intro w tape i _ hsh _ hok hpre _
  obtain ⟨_, _, _, fn', hfn', _, _, _, _, hval⟩ := hok
  have e : fn' = fn := Option.some.inj (hfn'.symm.trans hfn)
  subst e
  obtain ⟨⟨⟨ds, gs, before, hw, hc⟩, hx⟩, hz⟩ := hpre
  have hw' := DataW.Whole.of_heap (w' := w.forCall tape i) (by rfl) hw
  refine (contract (w.forCall tape i) w.heap.size i.args ds gs before hval hw' (hX _ _ _ (by rfl) hx) hsh).mono fun e W' ⟨v, he, hp⟩ => ?_
  subst he
  exact ChangeSpec.post_blind hp
end Go.Proofs.YtfgopboddkhckaaGreatDoor
namespace Go.Proofs.YtfgopboddkhckaaGreatDoor
open Go.ChangeShapes Go.WideShapes Go.ChangeAt Go.RowKit Go.Sort Go.Joins
set_option linter.unusedVariables false
set_option maxRecDepth 100000

/-- The course of a word. -/
def cof (s : ByteArray) : CO := if (Lib.cut s.data.toList [43]).2.2 then ⟨⟨(Lib.cut s.data.toList [43]).1.toArray⟩, ⟨(Lib.cut s.data.toList [43]).2.1.toArray⟩⟩ else ⟨⟨#[]⟩, s⟩
theorem impl_courseOf (s : ByteArray) (hs : s.size ≤ 1048576) (w : World) (hsh : w.ShapedOpen Tryz.prog) :
    Calls Tryz.prog 171 #[.string s] w (Ret (.agg #[.string (cof s).lead, .string (cof s).cyc]) w) := by
  have HC := Lib.hid (fun w h => Tryz.strings_Cut_shaped s (ByteArray.mk #[43]) w h (by omega))
  have HS := Lib.hid hsh
  have HE : Hid (cof s = if (Lib.cut s.data.toList (ByteArray.mk #[43]).data.toList).2.2 then ⟨⟨(Lib.cut s.data.toList (ByteArray.mk #[43]).data.toList).1.toArray⟩, ⟨(Lib.cut s.data.toList (ByteArray.mk #[43]).data.toList).2.1.toArray⟩⟩ else ⟨⟨#[]⟩, s⟩) := Lib.hid rfl
  clear hsh
  generalize Lib.cut s.data.toList (ByteArray.mk #[43]).data.toList = q at *
  obtain ⟨a, b, c⟩ := q
  dsimp only at *
  generalize (ByteArray.mk a.toArray) = aa at *
  generalize (ByteArray.mk b.toArray) = bb at *
  go_enter Tryz.func171, Tryz.ntmps171
  go_wp2_with fail
  refine (show Calls _ _ _ _ _ from HC.out _ (shaped_ext HS.out (ext_alloc1 _ _))).mono ?_
  rintro e w1 ⟨rfl, n, rfl⟩
  cases c
  · have HE2 : Hid (cof s = ⟨⟨#[]⟩, s⟩) := Lib.hid HE.out
    go_wp2_with fail
    refine bodyPost_ret (v := .agg #[.string ⟨#[]⟩, .string s]) (by simp [results, Tryz.results171, go_sem]) rfl ⟨by rw [HE2.out], ?_⟩
    repeat (refine ext_set ?_ (by simp; try omega) _)
    exact ext_drewN (ext_alloc1 w _) _
  · have HE2 : Hid (cof s = ⟨aa, bb⟩) := Lib.hid HE.out
    go_wp2_with fail
    refine bodyPost_ret (v := .agg #[.string aa, .string bb]) (by simp [results, Tryz.results171, go_sem]) rfl ⟨by rw [HE2.out], ?_⟩
    repeat (refine ext_set ?_ (by simp; try omega) _)
    exact ext_drewN (ext_alloc1 w _) _
/-- A course more behind a text. -/
def btS (o : ByteArray) (c : CO) : ByteArray := (if c.lead.size = 0 then o ++ ⟨#[32]⟩ else (o ++ ⟨#[32]⟩) ++ (c.lead ++ ⟨#[43]⟩)) ++ c.cyc
def btK (nm : ByteArray) (cs : List CO) (k : Nat) : ByteArray := (cs.take k).foldl btS nm
theorem btK_succ (nm : ByteArray) {cs : List CO} {k : Nat} (hk : k < cs.length) : btK nm cs (k + 1) = btS (btK nm cs k) (gd cs k) := by
  unfold btK; rw [take_gd hk, List.foldl_append]; rfl
theorem vC_sizes {o : CO} (h : vC o = true) : o.lead.size ≤ 6 ∧ 1 ≤ o.cyc.size ∧ o.cyc.size ≤ 8 := by
  unfold vC at h
  simp only [Bool.and_eq_true, decide_eq_true_eq] at h
  have h2 := inB_iff.1 h.1.2
  omega
theorem btS_size {o : ByteArray} {c : CO} (h : vC c = true) : (btS o c).size ≤ o.size + 16 := by
  have h1 := vC_sizes h
  unfold btS
  have e1 : (⟨#[32]⟩ : ByteArray).size = 1 := rfl
  have e2 : (⟨#[43]⟩ : ByteArray).size = 1 := rfl
  split <;> simp only [ByteArray.size_append] <;> omega
theorem vB_all {nm : ByteArray} {cs : List CO} (h : vB nm cs = true) : isN nm = true ∧ 1 ≤ cs.length ∧ cs.length ≤ 8 ∧ ∀ k, k < cs.length → vC (gd cs k) = true := by
  unfold vB at h
  simp only [Bool.and_eq_true] at h
  have h2 := inB_iff.1 h.1.2
  exact ⟨h.1.1, by omega, by omega, fun k hk => List.all_eq_true.1 h.2 _ (gd_mem hk)⟩
theorem btK_size {nm : ByteArray} {cs : List CO} (h : vB nm cs = true) : ∀ k, k ≤ cs.length → (btK nm cs k).size ≤ 12 + 16 * k
  | 0, _ => by have := (isN_size (vB_all h).1).2; unfold btK; simpa using this
  | k + 1, hk => by
    have ih := btK_size h k (by omega)
    rw [btK_succ nm (by omega)]
    have := btS_size (o := btK nm cs k) ((vB_all h).2.2.2 k (by omega))
    omega
theorem emptS (t : ByteArray) : t.toList.isEmpty = decide (t.size = 0) := by
  rw [ByteArray.toList_eq]
  cases h : t.data.toList with
  | nil =>
    have : t.size = 0 := by rw [← size_toList, h]; rfl
    simp [this]
  | cons x y =>
    have : t.size ≠ 0 := by rw [← size_toList, h]; simp
    simp [this]
set_option maxHeartbeats 1600000 in
theorem impl_BondText_ok (A : Option Addr) (c : Nat) (nm : ByteArray) (cs : List CO) (w : World) (hn : nm.size ≤ maxLen) (hl : LenCOS cs) (ha : RCOS w (.slice A cs.length c) cs) (hv : vB nm cs = true) :
    Calls Tryz.prog 172 #[.agg #[.string nm, .slice A cs.length c]] w (Ret (.string (btK nm cs cs.length)) w) := by
  have HA := Lib.hid ha; clear ha
  have HV := Lib.hid hv
  have HVB := Lib.hid (fun w h => impl_ValidBond A c nm cs w hn hl h)
  have hcl := (vB_all hv).2.2.1
  rw [hv] at HVB
  clear hn hl hv
  go_enter Tryz.func172, Tryz.ntmps172
  go_wp2_with fail
  refine (show Calls _ _ _ _ _ from HVB.out _ (HA.out.alloc _)).mono ?_
  rintro e w1 ⟨rfl, hb⟩
  have k0 := cell_keep (p := ⟨w.heap.size, 0, none⟩) (v := .string nm) (by simp [go_sem]) hb
  have k1 := cell_keep (p := ⟨w.heap.size, 1, none⟩) (v := .slice A cs.length c) (by simp [go_sem]) hb
  have HB := Lib.hid (ext_trans (ext_alloc1 _ _) hb)
  clear hb
  go_wp2_with fail
  clear k0 k1
  go_loopw [3, 14] (fun u i wr => ∃ k : Nat, k ≤ cs.length ∧ i = .int .i64 k ∧ u = .string (btK nm cs k) ∧ Hid (Below w.heap.size w wr)) (fun _ i _ => cs.length - (intOf i).toNat)
  case atStart => exact ⟨0, Nat.zero_le _, rfl, rfl, HB⟩
  case round =>
    obtain ⟨k, hk, rfl, rfl, HBw⟩ := hrel
    have e1 : (0 : Int) ≤ k := by omega
    by_cases hlt : k < cs.length
    · have e2 : (k : Int) < cs.length := by omega
      obtain ⟨ad, rfl, _, hc⟩ := (HA.out.ext HBw.out).at hlt
      obtain ⟨p0, p1⟩ := hc k hlt
      clear hc
      have HS := Lib.hid (btK_succ nm hlt)
      have hz1 := btK_size HV.out k hk
      have hz2 := vC_sizes ((vB_all HV.out).2.2.2 k hlt)
      obtain ⟨t, ht⟩ : ∃ t, btK nm cs k = t := ⟨_, rfl⟩
      obtain ⟨o, ho⟩ : ∃ o, gd cs k = o := ⟨_, rfl⟩
      rw [ht] at HS hz1
      rw [ho] at HS hz2 p0 p1
      rw [ht]
      clear ht ho
      obtain ⟨a, b⟩ := o
      dsimp only at *
      have c1 : ¬ 9223372036854775807 < t.size + 1 := by omega
      have c2 : ¬ 9223372036854775807 < a.size + 1 := by omega
      have c3 : ¬ 9223372036854775807 < t.size + 1 + (a.size + 1) := by omega
      have c4 : ¬ 9223372036854775807 < t.size + 1 + (a.size + 1) + b.size := by omega
      have c5 : ¬ 9223372036854775807 < t.size + 1 + b.size := by omega
      clear hz1 hz2
      have hem := emptS a
      by_cases hz : a.size = 0
      · rw [decide_eq_true hz] at hem
        have HS2 : Hid (btK nm (cs) (k + 1) = (t ++ ⟨#[32]⟩) ++ b) := Lib.hid (by rw [HS.out]; unfold btS; rw [if_pos hz])
        clear hz
        go_wp2_with fail
        go_roundw
        case rel => exact ⟨k + 1, by omega, by go_num, by rw [HS2.out], Lib.hid (ext_trans HBw.out (ext_alloc1 _ _))⟩
        case measure => simp [intOf]; omega
      · rw [decide_eq_false hz] at hem
        have HS2 : Hid (btK nm (cs) (k + 1) = ((t ++ ⟨#[32]⟩) ++ (a ++ ⟨#[43]⟩)) ++ b) := Lib.hid (by rw [HS.out]; unfold btS; rw [if_neg hz])
        clear hz
        go_wp2_with fail
        go_roundw
        case rel => exact ⟨k + 1, by omega, by go_num, by rw [HS2.out], Lib.hid (ext_trans HBw.out (ext_alloc1 _ _))⟩
        case measure => simp [intOf]; omega
    · obtain rfl : k = cs.length := by omega
      have e2 : ¬ (cs.length : Int) < cs.length := by omega
      go_wp2_with fail
      go_ret
      exact ⟨rfl, HBw.out⟩
end Go.Proofs.YtfgopboddkhckaaGreatDoor
namespace Go.Proofs.YtfgopboddkhckaaGreatDoor
open Go.ChangeShapes Go.WideShapes Go.ChangeAt Go.RowKit Go.Sort Go.Joins
set_option linter.unusedVariables false
set_option maxRecDepth 100000

/-- A bond's box at q, its courses the call's own, behind q. -/
structure BR (w W : World) (q : Nat) (nm : ByteArray) (A : Option Addr) (c : Nat) (cs : List CO) : Prop where
  b : Below w.heap.size w W
  ge : w.heap.size ≤ q
  lt : q < W.heap.size
  h0 : W.cell? ⟨q, 0, none⟩ = some (.string nm)
  h1 : W.cell? ⟨q, 1, none⟩ = some (.slice A cs.length c)
  fz : ∀ j, W.frozen? ⟨q, j, none⟩ = false
  own : OCOS W (q + 1) (.slice A cs.length c) cs
theorem BR.far {w W : World} {q : Nat} {nm : ByteArray} {A : Option Addr} {c : Nat} {cs : List CO} (h : BR w W q nm A c cs) : ∀ k, (Value.slice A cs.length c).ownBlock = some k → k ≠ q := fun k hk => by
  have := (h.own.ge k hk).1; omega
theorem BR.ext {w W W' : World} {q : Nat} {nm : ByteArray} {A : Option Addr} {c : Nat} {cs : List CO} (h : BR w W q nm A c cs) (hb : Below W.heap.size W W') : BR w W' q nm A c cs :=
  ⟨ext_trans h.b hb, h.ge, Nat.lt_of_lt_of_le h.lt hb.size, cell_keep h.h0 hb, cell_keep h.h1 hb, fun j => by rw [(bcell hb).2 q j h.lt]; exact h.fz j, h.own.ext hb⟩
theorem BR.step {w W w7 w8 : World} {q : Nat} {nm : ByteArray} {A : Option Addr} {c : Nat} {cs : List CO} (h : BR w W q nm A c cs) (hb : Below W.heap.size W w7) {gg cap : Nat} {co : CO}
    (hgrow : w7.grownBy w8 (Value.slice A cs.length c).ownBlock) (hat : (Value.slice A cs.length c).ownBlock = some gg ∨ gg = w7.heap.size)
    (hown : w8.ownsRow (q + 1) 102 2 (.slice (some ⟨gg, 0, none⟩) (cs.length + 1) cap) (cs.length + 1) (cs.flatMap cCO ++ [.string co.lead, .string co.cyc])) :
    BR w (w8.setCell ⟨q, 1, none⟩ (.slice (some ⟨gg, 0, none⟩) (cs.length + 1) cap)) q nm (some ⟨gg, 0, none⟩) cap (cs ++ [co]) := by
  have hlt7 : q < w7.heap.size := Nat.lt_of_lt_of_le h.lt hb.size
  have hne : (Value.slice A cs.length c).ownBlock ≠ some q := fun e => h.far q e rfl
  have cl : ∀ j v, W.cell? ⟨q, j, none⟩ = some v → w8.cell? ⟨q, j, none⟩ = some v := fun j v hv => (hgrow.cell_far ⟨q, j, none⟩ hlt7 (Ne.symm hne)).trans (cell_keep hv hb)
  have fl : ∀ j, w8.frozen? ⟨q, j, none⟩ = false := fun j => (hgrow.frozen_far ⟨q, j, none⟩ hlt7 (Ne.symm hne)).trans ((hb.frozen (p := ⟨q, j, none⟩) h.lt).trans (h.fz j))
  have hgg : gg ≠ q := by
    rcases hat with e | e
    · exact h.far gg e
    · omega
  have hl : (cs ++ [co]).length = cs.length + 1 := by simp
  have hO : OCOS w8 (q + 1) (.slice (some ⟨gg, 0, none⟩) (cs ++ [co]).length cap) (cs ++ [co]) := by
    unfold OCOS
    rw [hl, List.flatMap_append]
    exact hown
  have c1 : Chg (fun k => (Value.slice A cs.length c).ownBlock = some k) W w8 := (Chg.of_below hb _).trans (Chg.of_grown hgrow)
  have c3 : Below w.heap.size w w8 := Chg.ext h.b c1 (fun k hk => by have := (h.own.ge k hk).1; have := h.ge; omega)
  refine ⟨ext_set c3 h.ge _, h.ge, by have := hgrow.size; simp; omega, ?_, ?_, fun j => by simpa using fl j, ?_⟩
  · rw [World.cell?_setCell_other _ _ _ _ (by simp)]; exact cl 0 _ h.h0
  · rw [hl]; exact World.cell?_setCell_same _ _ _ (cl 1 _ h.h1)
  · exact hO.put (by omega) 1 _
theorem BR.new (w : World) (W : World) (hb : Below w.heap.size w W) (nm : ByteArray) : BR w (W.alloc (.cells #[.string nm, .slice none 0 0] 36)) W.heap.size nm none 0 [] :=
  ⟨ext_trans hb (ext_alloc1 _ _), hb.size, by simp, by simp [go_sem], by simp [go_sem], fun j => by simp [go_sem], ⟨rfl, .inl ⟨rfl, rfl⟩⟩⟩

/-- The words of a text, at most ten; the bond that they tell. -/
def wI (s : ByteArray) : List ByteArray := Lib.splitB ⟨#[32]⟩ 0 (min 10 (s.size + 1) - 1) s
def nI (s : ByteArray) : ByteArray := gd (wI s) 0
def cI (s : ByteArray) : List CO := ((wI s).drop 1).map cof
/-- s is a bond's own text. -/
def gI (s : ByteArray) : Bool := decide (s.size ≠ 0) && decide (1 ≤ (wI s).length) && decide ((wI s).length ≤ min 10 (s.size + 1)) && (wI s).all (fun x => decide (x.size ≤ 1000)) && (cI s).all (fun o => decide (o.lead.size ≤ 1000) && decide (o.cyc.size ≤ 1000)) && decide (s.size ≤ 1000) && vB (nI s) (cI s) && decide (btK (nI s) (cI s) (cI s).length = s)
theorem impl_words4 (s : ByteArray) (hs : gI s = true) (w : World) (hsh : w.ShapedOpen Tryz.prog) :
    Calls Tryz.prog 170 #[.string s, .string ⟨#[32]⟩, .int .i64 10] w fun e w' => ∃ g cp, e = .returned (.slice (some ⟨g, 0, none⟩) (wI s).length cp) ∧ (wI s).length ≤ cp ∧ cp ≤ 10 ∧ (∀ k, k < (wI s).length → w'.cell? ⟨g, k, none⟩ = some (.string (gd (wI s) k))) ∧ Below w.heap.size w w' := by
  unfold gI at hs
  simp only [Bool.and_eq_true, decide_eq_true_eq] at hs
  obtain ⟨⟨⟨⟨⟨⟨⟨g1, g2⟩, g3⟩, g4⟩, g5⟩, g6⟩, g7⟩, g8⟩ := hs
  have hq := Tryz.strings_SplitN_shaped s ⟨#[32]⟩ 10 w hsh (by omega) (by show 1 ≤ 1; omega) (by omega) (by omega)
  refine hq.mono fun e w' ⟨h1, h2⟩ => ?_
  have e0 : Lib.splitB ⟨#[32]⟩ 0 (min 10 (s.size + 1) - 1) s = wI s := rfl
  rw [e0] at h1 h2
  subst h1 h2
  refine ⟨_, _, rfl, g3, by omega, fun k hk => ?_, ext_alloc1 _ _⟩
  rw [World.cell?_alloc_at _ _ _ _ rfl]
  unfold Lib.cellsOf
  rw [List.getElem?_toArray, List.getElem?_append_left (by simpa using hk), List.getElem?_map, List.getElem?_eq_getElem hk, gd_eq hk]
  rfl
set_option maxHeartbeats 3200000 in
theorem impl_ReadBond (s : ByteArray) (hg : gI s = true) (w : World) (hsh : w.ShapedOpen Tryz.prog) :
    Calls Tryz.prog 108 #[.string s] w fun e w' => ∃ A c, e = .returned (.tuple #[.agg #[.string (nI s), .slice A (cI s).length c], .bool true]) ∧ OCOS w' w.heap.size (.slice A (cI s).length c) (cI s) ∧ Below w.heap.size w w' := by
  have HSH : Hid (∀ W', Below w.heap.size w W' → W'.ShapedOpen Tryz.prog) := Lib.hid fun W' h => shaped_ext hsh h
  have HW := Lib.hid (fun w h => impl_words4 s hg w h)
  have HG := Lib.hid hg
  unfold gI at hg
  simp only [Bool.and_eq_true, decide_eq_true_eq] at hg
  obtain ⟨⟨⟨⟨⟨⟨⟨g1, g2⟩, g3⟩, g4⟩, g5⟩, g6⟩, g7⟩, g8⟩ := hg
  have HX : Hid (∀ k, k < (wI s).length → (gd (wI s) k).size ≤ 1000) := Lib.hid fun k hk => by simpa using List.all_eq_true.1 g4 _ (gd_mem hk)
  have HN : Hid (gd (wI s) 0 = nI s) := Lib.hid rfl
  have HCI : Hid (cI s = ((wI s).drop 1).map cof) := Lib.hid rfl
  have hwl : (wI s).length ≤ 10 := by omega
  have HV := Lib.hid g7
  have HT := Lib.hid g8
  have hs0 : ¬ s.size = 0 := g1
  have hem : s.toList.isEmpty = false := by rw [emptS, decide_eq_false hs0]
  have HLC : Hid (LenCOS (cI s)) := Lib.hid ⟨by have := (vB_all g7).2.2.1; unfold maxLen; omega, fun o ho => by
    have := List.all_eq_true.1 g5 o ho
    simp only [Bool.and_eq_true, decide_eq_true_eq] at this
    exact ⟨by unfold maxLen; omega, by unfold maxLen; omega⟩⟩
  have h2l : 2 ≤ (wI s).length := by have := (vB_all g7).2.1; unfold cI at this; rw [List.length_map, List.length_drop] at this; omega
  have hcl : (cI s).length + 1 = (wI s).length := by unfold cI; rw [List.length_map, List.length_drop]; omega
  have HCL := Lib.hid hcl
  clear hcl
  have HLN : Hid ((nI s).size ≤ maxLen) := Lib.hid (by have := isN_size (vB_all g7).1; unfold maxLen; omega)
  clear hsh g1 g3 g4 g5 g6 g7 g8 hs0
  go_enter Tryz.func108, Tryz.ntmps108
  go_wp2_with fail
  refine (show Calls _ _ _ _ _ from HW.out _ (HSH.out _ (ext_alloc1 _ _))).mono ?_
  rintro e w1 ⟨g, cp, rfl, hcp, hcp2, hR, hb⟩
  have HR := Lib.hid hR
  have z0 := cell_keep (p := ⟨w.heap.size, 0, none⟩) (v := .string ⟨#[]⟩) (by simp [go_sem]) hb
  have z1 := cell_keep (p := ⟨w.heap.size, 1, none⟩) (v := .slice none 0 0) (by simp [go_sem]) hb
  have hz0 : ∀ j, w1.frozen? ⟨w.heap.size, j, none⟩ = false := fun j => by rw [(bcell hb).2 _ _ (by simp)]; simp [go_sem]
  have HB := Lib.hid (ext_trans (ext_alloc1 _ _) hb)
  have hsz := hb.size
  have hc0 := hR 0 (by omega)
  rw [HN.out] at hc0
  have hl1 : ((wI s).length : Int) ≥ 1 := by omega
  have hcp1 : ¬ cp = 1 := by omega
  clear hb hR
  go_wp2_with fail
  have HBR := Lib.hid (BR.new w1 w1 (ext_refl _) (nI s))
  generalize w1.alloc (.cells #[.string (nI s), .slice none 0 0] 36) = wb at *
  obtain ⟨q, hq⟩ : ∃ q, w1.heap.size = q := ⟨_, rfl⟩
  rw [hq] at HBR
  have HQ := Lib.hid hq
  simp only [hq]
  clear hq hc0
  obtain ⟨m, hm⟩ : ∃ m, (wI s).length - 1 = m := ⟨_, rfl⟩
  have HM : Hid ((cI s).length = m) := Lib.hid (by have := HCL.out; omega)
  have hm1 : ((wI s).length : Int) - 1 = m := by omega
  rw [hm]
  go_loopw [17] (fun i wr => ∃ (k : Nat) (A : Option Addr) (c : Nat), k ≤ m ∧ i = .int .i64 k ∧ Hid (BR w1 wr q (nI s) A c ((cI s).take k))) (fun i _ => m - (intOf i).toNat)
  case atStart => exact ⟨0, none, 0, Nat.zero_le _, rfl, HBR⟩
  case round =>
    obtain ⟨k, A, c, hk, rfl, HR2⟩ := hrel
    have e1 : (0 : Int) ≤ k := by omega
    by_cases hlt : k < m
    · have e2 : (k : Int) < m := by omega
      have HTK : Hid ((cI s).take (k + 1) = (cI s).take k ++ [cof (gd (wI s) (k + 1))]) := Lib.hid (by
        rw [take_gd (by have := HM.out; omega)]
        congr 2
        rw [gd_eq (by have := HM.out; omega), gd_eq (by omega)]
        simp only [HCI.out, List.getElem_map, List.getElem_drop]
        congr 2
        omega)
      have hkl : ((cI s).take k).length = k := by rw [List.length_take]; have := HM.out; omega
      have hwd := cell_keep (HR.out (k + 1) (by omega)) HR2.out.b
      have hws := HX.out (k + 1) (by omega)
      obtain ⟨wd, hwd2⟩ : ∃ x, gd (wI s) (k + 1) = x := ⟨_, rfl⟩
      rw [hwd2] at hwd hws HTK
      obtain ⟨l, hl⟩ : ∃ l, (cI s).take k = l := ⟨_, rfl⟩
      rw [hl] at HR2 HTK hkl
      have HKL := Lib.hid hkl
      have hl9 : l.length ≤ 9 := by omega
      have HCO := Lib.hid (fun w h => impl_courseOf wd (by omega) w h)
      obtain ⟨co, hco⟩ : ∃ o, cof wd = o := ⟨_, rfl⟩
      rw [hco] at HCO HTK
      clear hwd2 hl hco hkl
      have hwd' : wr.cell? ⟨g, 1 + k, none⟩ = some (.string wd) := by rw [Nat.add_comm]; exact hwd
      have b1 := HR2.out.h1
      have HSW := Lib.hid (HSH.out wr.drew (ext_drew (ext_trans HB.out HR2.out.b)))
      have hf1 := HR2.out.fz 1
      obtain ⟨i0, hi, hz0', hz1', hz2'⟩ := info_parts info_CO
      have hm1' : l.length + 1 ≤ maxLen := by unfold maxLen; omega
      have hm2' : (l.length + 1) * 32 ≤ 140737488355328 := by omega
      have hlt9 := HR2.out.lt
      go_wp2_with fail
      go_region_law (first
        | (go_simp; refine (show Calls _ _ _ _ _ from HCO.out _ HSW.out).mono ?_; rintro e w3 ⟨rfl, hb3⟩; (have HR3 := Lib.hid (HR2.out.ext (ext_trans (ext_drew (ext_refl _)) hb3))); (have HB3 := Lib.hid hb3); (have y1 := HR3.out.h1); (have yf := HR3.out.fz 1); (have hlt3 := HR3.out.lt); clear hb3; dsimp only)
        | (refine step_append_lies _ (by rfl) _ _ _ (by rfl) (q + 1) 102 i0 _ 2 32 Tryz.underlying34 hi hz0' hz1' hz2' rfl (by omega) (.slice A l.length c) l.length (l.flatMap cCO) (by rfl) (World.ownsRow.alloc HR3.out.own _) ⟨w3.heap.size, 0, none⟩ 1 1 [.string co.lead, .string co.cyc] (by rfl) (by rfl) (World.news_of_block (cs := #[.string co.lead, .string co.cyc]) (t := 102) (fr := (0, 0)) (heap_alloc_new w3 _)) (by simp [Value.oneCell']) (by omega) hm1' hm2' (by simp; omega) (w3.heap.size + 1) (by simp) ?_; intro gg cap w8 hown8 hgrow hat hlt8; (have y3 := (hgrow.cell_far ⟨q, 1, none⟩ (by simp; omega) (fun e => HR3.out.far q e.symm rfl)).trans (cell_keep y1 (ext_alloc1 w3 _))); (have y4 := (hgrow.frozen_far ⟨q, 1, none⟩ (by simp; omega) (fun e => HR3.out.far q e.symm rfl)).trans (((ext_alloc1 w3 _).frozen (p := ⟨q, 1, none⟩) hlt3).trans yf))))
      all_goals
        have HBS := Lib.hid (HR2.out.step (w7 := w3.alloc (.cells #[.string co.lead, .string co.cyc] 102)) (ext_trans (ext_trans (ext_drew (ext_refl _)) HB3.out) (ext_alloc1 w3 _)) (co := co) hgrow (by simpa using hat) hown8)
        clear hgrow hat hown8 hlt8 y1 yf y3 y4 hlt3
        generalize w8.setCell ⟨q, 1, none⟩ (.slice (some ⟨gg, 0, none⟩) (l.length + 1) cap) = w9 at *
        go_wp2_with fail
        go_roundw
        case rel => exact ⟨k + 1, some ⟨gg, 0, none⟩, cap, by omega, by go_num, by rw [HTK.out]; exact HBS⟩
        case measure => simp [intOf]; omega
    · obtain rfl : k = m := by omega
      have e2 : ¬ (k : Int) < k := by omega
      have htk : (cI s).take k = cI s := by rw [List.take_of_length_le (by have := HM.out; omega)]
      rw [htk] at HR2
      clear htk
      have HBT := Lib.hid (fun w h => impl_BondText_ok A c (nI s) (cI s) w HLN.out HLC.out h HV.out)
      rw [HT.out] at HBT
      have b0 := HR2.out.h0
      have b1 := HR2.out.h1
      have r0 := cell_keep z0 HR2.out.b
      have r1 := cell_keep z1 HR2.out.b
      have rf : ∀ j, wr.frozen? ⟨w.heap.size, j, none⟩ = false := fun j => by
        rw [(bcell HR2.out.b).2 _ _ (by simp at hsz; omega)]; exact hz0 j
      clear HX HN HCI HM HG HV HT HCL
      have hlw : w.heap.size < wr.heap.size := by have := HR2.out.b.size; simp at hsz; omega
      go_wp2_with fail
      refine (show Calls _ _ _ _ _ from HBT.out _ HR2.out.own.rd).mono ?_
      rintro e w4 ⟨rfl, hb4⟩
      have HR4 := Lib.hid (HR2.out.ext hb4)
      replace b0 := cell_keep b0 hb4
      replace b1 := cell_keep b1 hb4
      replace r0 := cell_keep r0 hb4
      replace r1 := cell_keep r1 hb4
      have rf4 : ∀ j, w4.frozen? ⟨w.heap.size, j, none⟩ = false := fun j => by
        rw [(bcell hb4).2 _ _ hlw]; exact rf j
      clear hb4 rf
      have hqw : w.heap.size < q := by have := HQ.out; simp at hsz; omega
      go_wp2_with fail
      refine bodyPost_ret (v := .tuple #[.agg #[.string (nI s), .slice A (cI s).length c], .bool true]) (by simp [results, Tryz.results108, go_sem, r0, r1]) rfl ⟨A, c, rfl, ?_, ?_⟩
      · exact ((HR4.out.own.put (show w.heap.size < q + 1 by omega) 0 _).put (show w.heap.size < q + 1 by omega) 1 _).mono (by omega)
      · repeat (refine ext_set ?_ (by simp; try omega) _)
        exact ext_trans HB.out HR4.out.b
end Go.Proofs.YtfgopboddkhckaaGreatDoor
