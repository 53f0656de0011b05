/-
  Parts of the proof: Byt, Dec, Env, WlP, ImpDec, NumT, Fmt, Fmt3.
-/
import Derived.Test.YtfgopboddkhckaaGreatDoorKw6
import Derived.Lib.AppendStr
import Derived.Laws.BytesArg
import Derived.ChangeMaps5
import Derived.Lib.LaidTab
import Derived.ShapedOpen
import Derived.ChangeAgain
import Derived.Lib.AppendIntMem
import Derived.Lib.Join
import Derived.LoopN
namespace Go.Proofs.YtfgopboddkhckaaGreatDoor
open Go.ChangeShapes Go.WideShapes Go.ChangeAt Go.RowKit Go.Sort Go.Lib
set_option maxRecDepth 8000
set_option linter.unusedVariables false
def RB (w : World) (v : Value) (bs : List UInt8) : Prop := Rd w 1 v bs.length (bs.map fun b => Value.int .u8 (b.toNat : Int))
theorem RB.ext {w w' : World} {v : Value} {bs : List UInt8} (h : RB w v bs) (hb : Below w.heap.size w w') : RB w' v bs := Rd.ext h hb
def OB (w : World) (base : Nat) (v : Value) (bs : List UInt8) : Prop := w.ownsRow base 5 1 v bs.length (bs.map fun b => Value.int .u8 (b.toNat : Int))
theorem OB.rd {w : World} {base : Nat} {v : Value} {bs : List UInt8} (h : OB w base v bs) : RB w v bs := by
 obtain ⟨h1, h2⟩ := h
 refine ⟨by simp, ?_⟩
 rcases h2 with ⟨rfl, h0⟩ | ⟨g, cap, cur, rfl, hg, hh, hn, hm, hs, ht⟩
 · exact ⟨none, 0, by rw [h0], by omega, by simp [maxLen], fun h => by omega⟩
 · refine ⟨some ⟨g, 0, none⟩, cap, rfl, hn, hm, fun h0 => ⟨_, rfl, ?_, fun j u hu => ?_⟩⟩
   · rcases Nat.lt_or_ge g w.heap.size with hlt | hge
     · exact hlt
     · rw [Array.getElem?_eq_none hge] at hh; cases hh
   · have := World.ownsRow.cells (w := w) (base := base) (e := 5) (size := 1) (v := .slice (some ⟨g, 0, none⟩) bs.length cap) (n := bs.length) ⟨h1, .inr ⟨g, cap, cur, rfl, hg, hh, hn, hm, hs, ht⟩⟩ (g := g) rfl
     exact this j u hu
theorem OB.ext {w w' : World} {base : Nat} {v : Value} {bs : List UInt8} (h : OB w base v bs) (hb : Below w.heap.size w w') : OB w' base v bs := own_ext h hb
theorem OB.mono {w : World} {base base' : Nat} {v : Value} {bs : List UInt8} (h : OB w base v bs) (hb : base' ≤ base) : OB w base' v bs := own_mono h hb
theorem OB.ge {w : World} {base : Nat} {v : Value} {bs : List UInt8} (h : OB w base v bs) : ∀ k, v.ownBlock = some k → base ≤ k ∧ k < w.heap.size := World.ownsRow.lt h
theorem ob_lit (w : World) (base : Nat) (h : base ≤ w.heap.size) : OB (w.alloc (.cells #[] 5)) base (.slice (some ⟨w.heap.size, 0, none⟩) 0 0) [] :=
 World.ownsRow_lit _ #[] 0 h (by simp [maxLen]) (by simp)
theorem ob_one (w : World) (base : Nat) (h : base ≤ w.heap.size) (b : UInt8) : OB (w.alloc (.cells #[.int .u8 (b.toNat : Int)] 5)) base (.slice (some ⟨w.heap.size, 0, none⟩) 1 1) [b] :=
 World.ownsRow_lit _ #[.int .u8 (b.toNat : Int)] 1 h (by simp [maxLen]) (by simp)
def BY (v : Value) : Nat → Prop := fun k => v.ownBlock = some k
theorem info_u8 : (Tryz.prog.info? 5).map (fun i => (i.zero, i.size, i.bytes)) = some (some (.int .u8 0), 1, 1) := by kernel_rfl
theorem wpList_append_rb {w : World} {ops : Array Oper} {rest : List Oper} {o : Oper} {a : Act} {Q : Exit → Act → World → Prop} (hgd : o.guard = none) (s x : Operand)
   (ho : o.op = .call { callee := .builtin .append, args := #[s, x], argTypes := #[47, 47] })
   (base : Nat) (v v2 : Value) (xs ys : List UInt8) (hs : a.eval s = v) (hx : a.eval x = v2) (hO : OB w base v xs) (hR : RB w v2 ys)
   (hl : xs.length ≤ 1099511627776) (hl2 : ys.length ≤ 1099511627776) (hbase : base ≤ w.heap.size)
   (h : ∀ A c w', OB w' base (.slice A (xs.length + ys.length) c) (xs ++ ys) → Chg (BY v) w w' → wpList Tryz.prog ops Q rest (a.put o.dst (.slice A (xs.length + ys.length) c)) w') : wpList Tryz.prog ops Q (o :: rest) a w := by
 obtain ⟨i0, hi, hz0, hz1, hz2⟩ := info_parts info_u8
 have hR' := hR
 obtain ⟨_, A, c, rfl, _⟩ := hR'
 refine wpList_append_rd hgd s x _ ho base 5 i0 (.int .u8 0) 1 1 Tryz.underlying47 hi hz0 hz1 hz2 rfl (by omega) v xs.length _ hs hO A ys.length c _ hx hR (by simp [Value.oneCell']) (by unfold maxLen; omega) (by omega) hbase ?_
 intro v' w' hown hgrow _
 have hO' : OB w' base v' (xs ++ ys) := by unfold OB; simpa using hown
 have hO2 := hO'
 obtain ⟨_, A', c', rfl, _⟩ := hO2.rd
 simp only [List.length_append] at hO' ⊢
 exact h A' c' w' hO' (Chg.of_grown hgrow)
theorem conv_rb {w : World} {A : Option Addr} {n c : Nat} {bs : List UInt8} (h : RB w (.slice A n c) bs) :
   (convert 47 9 (.slice A n c)).run Tryz.prog w = .ok (.string ⟨bs.toArray⟩) w := by
 obtain ⟨hl, A', c', hv, h1, h2, h3⟩ := h
 injection hv with e1 e2 e3
 subst e1 e2 e3
 by_cases h0 : 0 < bs.length
 · obtain ⟨ad, rfl, hlt, hc⟩ := h3 h0
   refine run_convert_bytes_back _ _ _ _ ad c bs Tryz.underlying47 Tryz.underlying5 Tryz.underlying9 (fun j hj => ?_)
   rw [hc j (.int .u8 (bs[j].toNat : Int)) (by simp [List.getElem?_eq_getElem hj])]
 · have hn : bs = [] := List.eq_nil_of_length_eq_zero (by omega)
   subst hn
   cases A with
   | none => exact run_convert_bytes_nil w _ _ Tryz.underlying47 Tryz.underlying5 _ _ _ Tryz.underlying9
   | some ad => exact run_convert_bytes_back _ _ _ _ ad c [] Tryz.underlying47 Tryz.underlying5 Tryz.underlying9 (fun j hj => by simp at hj)
end Go.Proofs.YtfgopboddkhckaaGreatDoor
namespace Go.Proofs.YtfgopboddkhckaaGreatDoor
open Go.ChangeShapes Go.WideShapes Go.ChangeAt Go.RowKit Go.Sort
set_option linter.unusedVariables false
set_option maxRecDepth 8000
attribute [local go_sem ↓] Go.wp_at_zero Go.wp_at_succ
def itb (n : Int) : ByteArray := ⟨(Lib.itoa n).toArray⟩
set_option maxHeartbeats 1600000 in
theorem spec_Dec (n : Int) (h0 : -9223372036854775808 ≤ n) (h1 : n ≤ 9223372036854775807) (w : World) :
   Calls Tryz.prog 114 #[.int .i64 n] w (Ret (.string (itb n)) w) := by
 go_enter Tryz.func114, Tryz.ntmps114
 go_wp2_with fail
 go_loopw [3, 4] (fun o k wr => ∃ (k' : Int) (l : List UInt8) (A : Option Addr) (c : Nat), k = .int .i64 k' ∧ o = .slice A l.length c ∧ -9223372036854775808 ≤ k' ∧ k' ≤ 9223372036854775807 ∧ Hid (ddg n.natAbs = ddg k'.natAbs ++ l) ∧ Hid (OB wr w.heap.size (.slice A l.length c) l) ∧ Below w.heap.size w wr) (fun _ k _ => (intOf k).natAbs)
 case atStart => exact ⟨n, [], some ⟨w.heap.size, 0, none⟩, 0, rfl, rfl, h0, h1, Lib.hid (by simp), Lib.hid (ob_lit _ _ (Nat.le_refl _)), ext_alloc1 _ _⟩
 case round =>
   obtain ⟨k, l, A, c, rfl, rfl, hk0, hk1, HD, HO, hbw⟩ := hrel
   have hll : l.length ≤ 20 := by
     have h2 := congrArg List.length HD.out
     have h3 := ddg_length_le 19 n.natAbs (by omega)
     rw [List.length_append] at h2
     omega
   have HW := Lib.hid hbw; clear hbw
   have hsz := HW.out.size
   by_cases hz : k = 0
   · subst hz
     have HL : Hid (ddg n.natAbs = l) := Lib.hid (by rw [HD.out]; rfl)
     have hcv := conv_rb HO.out.rd
     by_cases hn : n = 0
     · have hl : l = [] := by rw [← HL.out, hn]; rfl
       have HI : Hid (itb n = ⟨#[48]⟩) := Lib.hid (by unfold itb; rw [hn, itoa_zero])
       have hl2 : ((l.length : Int) == 0) = true := by rw [hl]; rfl
       clear hl hcv hn
       go_wp2_with fail
       all_goals (go_ret; rw [HI.out]; exact ⟨rfl, HW.out⟩)
     · have hl : l ≠ [] := by rw [← HL.out]; exact ddg_ne _ (by omega)
       have hl2 : ((l.length : Int) == 0) = false := by
         have := List.length_pos_iff.2 hl
         simp; exact hl
       by_cases hneg : n < 0
       · have HI : Hid (itb n = ⟨#[45]⟩ ++ ⟨l.toArray⟩) := Lib.hid (by unfold itb; rw [itoa_neg n hneg, HL.out]; apply ByteArray.ext; simp [ByteArray.data_append])
         clear hl hn
         have hcat : ¬ 9223372036854775807 < (⟨#[45]⟩ : ByteArray).size + (⟨l.toArray⟩ : ByteArray).size := by show ¬ _ < 1 + l.toArray.size; simp; omega
         go_wp2_with fail
         all_goals (go_ret; rw [HI.out]; exact ⟨rfl, HW.out⟩)
       · have HI : Hid (itb n = ⟨l.toArray⟩) := Lib.hid (by unfold itb; rw [itoa_pos n (by omega), HL.out])
         clear hl hn
         go_wp2_with fail
         all_goals (go_ret; rw [HI.out]; exact ⟨rfl, HW.out⟩)
   · have e0 : (k == 0) = false := by simpa using hz
     obtain ⟨m, hm⟩ : ∃ m, k.natAbs / 10 = m := ⟨_, rfl⟩
     obtain ⟨q, hq⟩ : ∃ q, k.natAbs % 10 = q := ⟨_, rfl⟩
     have hq10 : q < 10 := by omega
     obtain ⟨x, hxx⟩ : ∃ x, UInt8.ofNat (48 + k.natAbs % 10) = x := ⟨_, rfl⟩
     have hx : (x.toNat : Int) = 48 + (q : Int) := by
       rw [← hxx, hq, UInt8.toNat_ofNat_of_lt' (by show 48 + q < 256; omega)]
       omega
     have hm10 : m < k.natAbs := by omega
     by_cases hp : 0 < k
     · have h1m : Int.tmod k 10 = (q : Int) := by rw [Int.tmod_eq_emod_of_nonneg (by omega)]; omega
       have h1q : Int.tdiv k 10 = (m : Int) := by rw [Int.tdiv_eq_ediv_of_nonneg (by omega)]; omega
       have e2 : ¬ (q : Int) < 0 := by omega
       have hkm : (m : Int).natAbs = m := by omega
       have HM := Lib.hid hm; clear hm
       clear hq
       have hb : OB (wr.alloc (.cells #[.int .u8 (48 + (q : Int))] 5)) w.heap.size (.slice (some ⟨wr.heap.size, 0, none⟩) 1 1) [x] := by rw [← hx]; exact ob_one wr _ hsz x
       have hsz1 : w.heap.size ≤ (wr.alloc (.cells #[.int .u8 (48 + (q : Int))] 5)).heap.size := by simp; omega
       have HD2 : Hid (ddg n.natAbs = ddg ((m : Int) : Int).natAbs ++ ([x] ++ l)) := Lib.hid (by rw [HD.out, ddg_step k.natAbs (by omega), hxx, (show k.natAbs / 10 = (m : Int).natAbs by rw [HM.out, hkm])]; simp)
       go_wp2_with (at_builtin; refine wpList_append_rb rfl _ _ rfl w.heap.size (.slice (some ⟨wr.heap.size, 0, none⟩) 1 1) (.slice A l.length c) [x] l rfl rfl hb ((HO.out.rd).ext (ext_alloc1 _ _)) (by simp) (by omega) hsz1 ?_; intro A2 c2 w2 hO2 hg2)
       go_roundw
       case rel => exact ⟨(m : Int), [x] ++ l, A2, c2, by go_num, by rw [List.length_append]; rfl, by omega, by omega, HD2.out, Lib.hid (by rw [List.length_append]; exact hO2), Chg.ext (ext_alloc HW.out _) hg2 (fun j hj => (hb.ge j hj).1)⟩
       case measure => simp [intOf]; omega
     have e3 : k = -(k.natAbs : Int) := by omega
     have h1m : Int.tmod k 10 = -(q : Int) := by
       rw [e3, Int.neg_tmod, Int.tmod_eq_emod_of_nonneg (by omega)]; omega
     have h1q : Int.tdiv k 10 = -(m : Int) := by
       rw [e3, Int.neg_tdiv, Int.tdiv_eq_ediv_of_nonneg (by omega)]; omega
     have hkm : (-(m : Int)).natAbs = m := by omega
     have HM := Lib.hid hm; clear hm
     clear hq e3
     by_cases hq0 : q = 0
     · subst hq0
       have h2m : Int.tmod k 10 = 0 := by omega
       have hx : (x.toNat : Int) = 48 := hx
       clear h1m
       have hb : OB (wr.alloc (.cells #[.int .u8 (48)] 5)) w.heap.size (.slice (some ⟨wr.heap.size, 0, none⟩) 1 1) [x] := by rw [← hx]; exact ob_one wr _ hsz x
       have hsz1 : w.heap.size ≤ (wr.alloc (.cells #[.int .u8 (48)] 5)).heap.size := by simp; omega
       have HD2 : Hid (ddg n.natAbs = ddg ((-(m : Int)) : Int).natAbs ++ ([x] ++ l)) := Lib.hid (by rw [HD.out, ddg_step k.natAbs (by omega), hxx, (show k.natAbs / 10 = (-(m : Int)).natAbs by rw [HM.out, hkm])]; simp)
       go_wp2_with (at_builtin; refine wpList_append_rb rfl _ _ rfl w.heap.size (.slice (some ⟨wr.heap.size, 0, none⟩) 1 1) (.slice A l.length c) [x] l rfl rfl hb ((HO.out.rd).ext (ext_alloc1 _ _)) (by simp) (by omega) hsz1 ?_; intro A2 c2 w2 hO2 hg2)
       go_roundw
       case rel => exact ⟨(-(m : Int)), [x] ++ l, A2, c2, by go_num, by rw [List.length_append]; rfl, by omega, by omega, HD2.out, Lib.hid (by rw [List.length_append]; exact hO2), Chg.ext (ext_alloc HW.out _) hg2 (fun j hj => (hb.ge j hj).1)⟩
       case measure => simp [intOf]; omega
     · have e2 : -(q : Int) < 0 := by omega
       have hb : OB (wr.alloc (.cells #[.int .u8 (48 + (q : Int))] 5)) w.heap.size (.slice (some ⟨wr.heap.size, 0, none⟩) 1 1) [x] := by rw [← hx]; exact ob_one wr _ hsz x
       have hsz1 : w.heap.size ≤ (wr.alloc (.cells #[.int .u8 (48 + (q : Int))] 5)).heap.size := by simp; omega
       have HD2 : Hid (ddg n.natAbs = ddg ((-(m : Int)) : Int).natAbs ++ ([x] ++ l)) := Lib.hid (by rw [HD.out, ddg_step k.natAbs (by omega), hxx, (show k.natAbs / 10 = (-(m : Int)).natAbs by rw [HM.out, hkm])]; simp)
       go_wp2_with (at_builtin; refine wpList_append_rb rfl _ _ rfl w.heap.size (.slice (some ⟨wr.heap.size, 0, none⟩) 1 1) (.slice A l.length c) [x] l rfl rfl hb ((HO.out.rd).ext (ext_alloc1 _ _)) (by simp) (by omega) hsz1 ?_; intro A2 c2 w2 hO2 hg2)
       go_roundw
       case rel => exact ⟨(-(m : Int)), [x] ++ l, A2, c2, by go_num, by rw [List.length_append]; rfl, by omega, by omega, HD2.out, Lib.hid (by rw [List.length_append]; exact hO2), Chg.ext (ext_alloc HW.out _) hg2 (fun j hj => (hb.ge j hj).1)⟩
       case measure => simp [intOf]; omega
end Go.Proofs.YtfgopboddkhckaaGreatDoor
namespace Go.Proofs.YtfgopboddkhckaaGreatDoor
open Go.ChangeShapes Go.WideShapes Go.ChangeAt Go.RowKit Go.Sort
set_option linter.unusedVariables false
set_option maxRecDepth 8000
def LayF (w : World) : Prop := Lib.TabIs Tryz.prog w "internal/strconv.uint64pow10" .u64 Lib.pow10Tab
theorem lt_of_heap {w : World} {g : Nat} {o : Obj} (h : w.heap[g]? = some o) : g < w.heap.size := by
 rcases Nat.lt_or_ge g w.heap.size with h1 | h1
 · exact h1
 · rw [Array.getElem?_eq_none h1] at h; cases h
theorem var_ext {w w' : World} (hb : Below w.heap.size w w') {nm : String} {cs : Array Value} (h : w.var? Tryz.prog nm = some cs) : w'.var? Tryz.prog nm = some cs := by
 unfold World.var? at *
 cases hg : Tryz.prog.globalNamed nm with
 | none => rw [hg] at h; cases h
 | some g =>
   rw [hg] at h
   simp only [Option.bind_some] at h ⊢
   have hlt : g < w.heap.size := by
     rcases Nat.lt_or_ge g w.heap.size with h1 | h1
     · exact h1
     · rw [Array.getElem?_eq_none h1] at h; cases h
   rw [hb.block g hlt]
   exact h
theorem LayF.ext {w w' : World} (h : LayF w) (hb : Below w.heap.size w w') : LayF w' := by
 unfold LayF Lib.TabIs at *
 exact var_ext hb h
theorem shaped_ext {w w' : World} (h : w.ShapedOpen Tryz.prog) (hb : Below w.heap.size w w') : w'.ShapedOpen Tryz.prog := by
 have same : ∀ {i : Nat} {o : Obj}, w.heap[i]? = some o → w'.heap[i]? = some o := fun {i o} ho => by rw [hb.block i (lt_of_heap ho)]; exact ho
 refine ⟨fun g zero t hg hz => ?_, fun k hk1 hk2 => ?_⟩
 · obtain ⟨cs, h1, h2, h3⟩ := h.1 g zero t hg hz
   refine ⟨cs, same h1, h2, fun hbd => Row.ok_of_shape (fun b x hx => ?_) (h3 hbd)⟩
   unfold World.shape? at hx ⊢
   cases hh : w.heap[b]? with
   | none => rw [hh] at hx; simp at hx
   | some o => rw [same hh, ← hh]; exact hx
 · obtain ⟨o, o₀, h1, h2, h3⟩ := h.2 k hk1 hk2
   exact ⟨o, o₀, same h1, h2, h3⟩
structure Env (w : World) : Prop where
 lay : LayF w
 shp : w.ShapedOpen Tryz.prog
 syn : ∃ tp p, w.var? Tryz.prog "strconv.ErrSyntax" = some #[.iface tp p]
 rng : ∃ tp p, w.var? Tryz.prog "strconv.ErrRange" = some #[.iface tp p]
theorem Env.ext {w w' : World} (h : Env w) (hb : Below w.heap.size w w') : Env w' := by
 obtain ⟨h1, h2, ⟨a, b, h3⟩, ⟨c, d, h4⟩⟩ := h
 exact ⟨h1.ext hb, shaped_ext h2 hb, ⟨a, b, var_ext hb h3⟩, ⟨c, d, var_ext hb h4⟩⟩
theorem size_toList (s : ByteArray) : s.data.toList.length = s.size := by rw [Array.length_toList]; rfl
theorem ba_ext {s t : ByteArray} (h : s.data.toList = t.data.toList) : s = t := by
 apply ByteArray.ext; apply Array.ext'; exact h
theorem itb_list (n : Int) : (itb n).data.toList = Lib.itoa n := rfl
theorem itb_eq {n : Int} {s : ByteArray} : itb n = s ↔ Lib.itoa n = s.data.toList := ⟨fun h => by rw [← h]; rfl, fun h => ba_ext h⟩
theorem itb_size (n : Int) (h0 : -9223372036854775808 ≤ n) (h1 : n ≤ 9223372036854775807) : (itb n).size ≤ 20 := by
 rw [← size_toList, itb_list]; exact itoa_length_le n h0 h1
def bsq (l : List UInt8) : ByteArray := ⟨l.toArray⟩
theorem bsq_list (l : List UInt8) : (bsq l).data.toList = l := rfl
theorem bsq_size (l : List UInt8) : (bsq l).size = l.length := by rw [← size_toList]; rfl
theorem bsq_of (s : ByteArray) : bsq s.data.toList = s := ba_ext rfl
theorem bsq_inj {l m : List UInt8} (h : bsq l = bsq m) : l = m := by rw [← bsq_list l, h]; rfl
theorem bsq_app (l m : List UInt8) : bsq l ++ bsq m = bsq (l ++ m) := by apply ba_ext; simp [ByteArray.data_append, bsq]
end Go.Proofs.YtfgopboddkhckaaGreatDoor
namespace Go.Proofs.YtfgopboddkhckaaGreatDoor
open Go.ChangeShapes Go.WideShapes Go.ChangeAt Go.RowKit Go.Sort Go.Joins
set_option linter.unusedVariables false
/-! ### Searches in lists -/
theorem fs_next {α β : Type} [Inhabited α] {f : α → Option β} {l : List α} {k : Nat} (hk : k < l.length) (h : (l.take k).findSome? f = none) (h2 : f (gd l k) = none) : (l.take (k + 1)).findSome? f = none := by
 rw [take_gd hk, List.findSome?_append, h]
 simp [h2]
theorem fs_hit {α β : Type} [Inhabited α] {f : α → Option β} {l : List α} {k : Nat} {r : β} (hk : k < l.length) (h : (l.take k).findSome? f = none) (h2 : f (gd l k) = some r) : l.findSome? f = some r := by
 have e : l = (l.take k ++ [gd l k]) ++ l.drop (k + 1) := by rw [← take_gd hk, List.take_append_drop]
 rw [e, List.findSome?_append, List.findSome?_append, h]
 simp [h2]
theorem fs_end {α β : Type} {f : α → Option β} {l : List α} (h : (l.take l.length).findSome? f = none) : l.findSome? f = none := by rwa [List.take_length] at h
/-! ### Perpends and clashes -/
def perp (s : ByteArray) : List Int := (List.range (s.size - 1)).map fun i => lenQ s (i + 1)
theorem perp_len (s : ByteArray) : (perp s).length = s.size - 1 := by simp [perp]
theorem perp_take {s : ByteArray} {k : Nat} (hk : k < s.size - 1) : (perp s).take (k + 1) = (perp s).take k ++ [lenQ s (k + 1)] := by
 rw [List.take_succ_eq_append_getElem (by rw [perp_len]; exact hk)]
 simp [perp]
theorem perp_gd {s : ByteArray} {k : Nat} (hk : k < s.size - 1) : gi (perp s) k = lenQ s (k + 1) := by
 unfold gi
 rw [List.getD_eq_getElem?_getD, List.getElem?_eq_getElem (by rw [perp_len]; exact hk)]
 simp [perp]
theorem perp_bd {s : ByteArray} (hs : s.size ≤ 60) {k : Nat} (hk : k < s.size - 1) : 0 ≤ gi (perp s) k ∧ gi (perp s) k ≤ 240 := by
 rw [perp_gd hk]
 have := lenQ_bd s (k + 1)
 omega
theorem gd_gi (xs : List Int) (k : Nat) : gd xs k = gi xs k := rfl
def apt (a b : Int) : Int := if b - a < a - b then a - b else b - a
def clB (lap x : Int) (ys : List Int) : Option Int := ys.findSome? fun y => if apt x y < lap then some y else none
def clA (lap : Int) (xs ys : List Int) : Option (Int × Int) := xs.findSome? fun x => (clB lap x ys).map fun y => (x, y)
def clK (lap : Int) (l : List ByteArray) (k : Nat) : Option (Int × Int × Int) := (clA lap (perp (gd l k)) (perp (gd l (k + 1)))).map fun p => ((k : Int), p.1, p.2)
def clW (lap : Int) (l : List ByteArray) : Option (Int × Int × Int) := (List.range (l.length - 1)).findSome? (clK lap l)
theorem range_gd {n k : Nat} (h : k < n) : gd (List.range n) k = k := by rw [gd_eq (by simpa using h)]; simp
def wlC (l : List ByteArray) (lap : Int) : Int := if vW l then (if inB lap 1 4 then 0 else 2) else 1
def mClash (l : List ByteArray) (lap : Int) : Int × Int × Int × Int :=
 if wlC l lap = 0 then (match clW lap l with | some (k, x, y) => (k, x, y, 0) | none => (0, 0, 0, 3)) else (0, 0, 0, wlC l lap)
theorem wlC_ok {l : List ByteArray} {lap : Int} (h : wlC l lap = 0) : vW l = true ∧ 1 ≤ lap ∧ lap ≤ 4 := by
 unfold wlC at h
 split at h
 · rename_i h1
   split at h
   · rename_i h2
     have := inB_iff.1 h2
     exact ⟨h1, this.1, this.2⟩
   · cases h
 · cases h
theorem vW_parts {l : List ByteArray} (h : vW l = true) : 1 ≤ l.length ∧ l.length ≤ 40 ∧ ∀ k, k < l.length → vCo (gd l k) = true := by
 unfold vW at h
 simp only [Bool.and_eq_true] at h
 have h1 := inB_iff.1 h.1
 refine ⟨by omega, by omega, fun k hk => ?_⟩
 have h2 := List.all_eq_true.1 h.2 _ (gd_mem hk)
 unfold vCw at h2
 simp only [Bool.and_eq_true] at h2
 exact h2.1
theorem vCo_parts {s : ByteArray} (h : vCo s = true) : 1 ≤ s.size ∧ s.size ≤ 60 ∧ onl pcC s s.size = true ∧ lenC s ≤ 200 := by
 unfold vCo at h
 simp only [Bool.and_eq_true, decide_eq_true_eq] at h
 have h1 := inB_iff.1 h.1.1
 exact ⟨by omega, by omega, h.1.2, h.2⟩
/-! ### Runs -/
def runE (s : ByteArray) (i : Nat) : Nat → Nat → Nat
 | 0, k => k
 | f + 1, k => if k < s.size ∧ byt s k = byt s i then runE s i f (k + 1) else k
def rE (s : ByteArray) (i : Nat) : Nat := runE s i (s.size - i) i
def RunAt (s : ByteArray) (i k : Nat) : Prop := i ≤ k ∧ k ≤ s.size ∧ runE s i (s.size - k) k = rE s i
theorem RunAt.zero {s : ByteArray} {i : Nat} (h : i ≤ s.size) : RunAt s i i := ⟨Nat.le_refl _, h, rfl⟩
theorem RunAt.next {s : ByteArray} {i k : Nat} (h : RunAt s i k) (hk : k < s.size) (he : byt s k = byt s i) : RunAt s i (k + 1) := by
 obtain ⟨h1, h2, h3⟩ := h
 refine ⟨by omega, hk, ?_⟩
 rw [← h3, show s.size - k = (s.size - (k + 1)) + 1 by omega, runE, if_pos ⟨hk, he⟩]
theorem RunAt.stop {s : ByteArray} {i k : Nat} (h : RunAt s i k) (hk : ¬ (k < s.size ∧ byt s k = byt s i)) : rE s i = k := by
 obtain ⟨h1, h2, h3⟩ := h
 rw [← h3]
 cases hf : s.size - k with
 | zero => rfl
 | succ f => rw [runE, if_neg hk]
theorem runE_ge (s : ByteArray) (i : Nat) : ∀ (f k : Nat), k ≤ runE s i f k
 | 0, k => Nat.le_refl _
 | f + 1, k => by
   rw [runE]
   split
   · exact Nat.le_trans (Nat.le_succ k) (runE_ge s i f (k + 1))
   · exact Nat.le_refl _
theorem runE_le (s : ByteArray) (i : Nat) : ∀ (f k : Nat), k ≤ s.size → runE s i f k ≤ s.size
 | 0, k, h => h
 | f + 1, k, h => by
   rw [runE]
   split
   · rename_i hh; exact runE_le s i f (k + 1) hh.1
   · exact h
theorem rE_gt {s : ByteArray} {i : Nat} (h : i < s.size) : i < rE s i := by
 unfold rE
 rw [show s.size - i = (s.size - (i + 1)) + 1 by omega, runE, if_pos ⟨h, rfl⟩]
 exact runE_ge s i _ (i + 1)
theorem rE_le {s : ByteArray} {i : Nat} (h : i ≤ s.size) : rE s i ≤ s.size := runE_le s i _ i h
def runT (s : ByteArray) (i : Nat) : ByteArray := itb ((rE s i - i : Nat) : Int) ++ s.extract i (i + 1)
def rnF (s : ByteArray) : Nat → Nat → List ByteArray
 | 0, _ => []
 | f + 1, i => if i < s.size then runT s i :: rnF s f (rE s i) else []
def rnL (s : ByteArray) : List ByteArray := rnF s s.size 0
def RnAt (s : ByteArray) (i : Nat) (out : List ByteArray) : Prop := i ≤ s.size ∧ out.length ≤ i ∧ ∃ f, s.size - i ≤ f ∧ rnL s = out ++ rnF s f i
theorem RnAt.zero (s : ByteArray) : RnAt s 0 [] := ⟨Nat.zero_le _, Nat.le_refl _, s.size, by omega, rfl⟩
theorem RnAt.next {s : ByteArray} {i : Nat} {out : List ByteArray} (h : RnAt s i out) (hi : i < s.size) : RnAt s (rE s i) (out ++ [runT s i]) := by
 obtain ⟨h1, h2, f, hf, h3⟩ := h
 have hg := rE_gt hi
 refine ⟨rE_le h1, by rw [List.length_append]; simp; omega, f - 1, by omega, ?_⟩
 rw [h3, show f = (f - 1) + 1 by omega, rnF, if_pos hi]
 simp
theorem RnAt.done {s : ByteArray} {out : List ByteArray} (h : RnAt s s.size out) : rnL s = out := by
 obtain ⟨h1, h2, f, hf, h3⟩ := h
 rw [h3]
 cases f with
 | zero => simp [rnF]
 | succ f => rw [rnF, if_neg (by omega)]; simp
def rnT (s : ByteArray) : ByteArray := bsq (jnL 32 ((rnL s).map (·.data.toList)))
theorem jnL_snoc (b : UInt8) : ∀ (l : List (List UInt8)) (x : List UInt8), l ≠ [] → jnL b (l ++ [x]) = jnL b l ++ b :: x
 | [], _, h => absurd rfl h
 | [a], x, _ => by
   show jnL b (a :: [x]) = a ++ b :: x
   rw [jnL_cons _ _ (by simp)]
   rfl
 | a :: m :: t, x, _ => by
   have ih := jnL_snoc b (m :: t) x (by simp)
   rw [List.cons_append, jnL_cons b a (t := m :: t ++ [x]) (by simp), ih, jnL_cons b a (t := m :: t) (by simp)]
   simp
/-! ### Counts -/
def ctS (s : ByteArray) (y : Int) : Nat → Int
 | 0 => 0
 | i + 1 => ctS s y i + (if byt s i = y then 1 else 0)
def ctW (l : List ByteArray) (y : Int) : Nat → Int
 | 0 => 0
 | k + 1 => ctW l y k + ctS (gd l k) y (gd l k).size
theorem ctS_bd (s : ByteArray) (y : Int) (i : Nat) : 0 ≤ ctS s y i ∧ ctS s y i ≤ i := by
 induction i with
 | zero => exact ⟨Int.le_refl _, Int.le_refl _⟩
 | succ i ih => unfold ctS; split <;> omega
theorem ctW_bd (l : List ByteArray) (h : ∀ k, k < l.length → (gd l k).size ≤ 60) (y : Int) (k : Nat) (hk : k ≤ l.length) : 0 ≤ ctW l y k ∧ ctW l y k ≤ 60 * k := by
 induction k with
 | zero => exact ⟨Int.le_refl _, Int.le_refl _⟩
 | succ k ih =>
   have h1 := ctS_bd (gd l k) y (gd l k).size
   have h2 := h k (by omega)
   have := ih (by omega)
   unfold ctW; omega
def cntAt (l : List ByteArray) (k i : Nat) : List Int := [83, 72, 84, 66, 67].map fun y => ctW l y k + ctS (gd l k) y i
def cntL (l : List ByteArray) : List Int := [83, 72, 84, 66, 67].map fun y => ctW l y l.length
theorem cntAt_next (l : List ByteArray) (k : Nat) : cntAt l k (gd l k).size = cntAt l (k + 1) 0 := by
 unfold cntAt
 simp [ctW, ctS]
def mCount (l : List ByteArray) : List Int × Int := if vW l then (cntL l, 0) else ([], 1)
end Go.Proofs.YtfgopboddkhckaaGreatDoor
namespace Go.Proofs.YtfgopboddkhckaaGreatDoor
open Go.ChangeShapes Go.WideShapes Go.ChangeAt Go.RowKit Go.Sort
set_option linter.unusedVariables false
set_option maxRecDepth 8000
set_option maxHeartbeats 800000 in
theorem impl_Dec (n : Int) (h0 : -9223372036854775808 ≤ n) (h1 : n ≤ 9223372036854775807) (w : World) (hL : LayF w) :
   Calls Tryz.prog 54 #[.int .i64 n] w (Ret (.string (itb n)) w) := by
 have hc := Tryz.strconv_FormatInt_10 n h0 h1 w hL
 go_enter Tryz.func54, Tryz.ntmps54
 go_wp2_with fail
 refine hc.mono ?_
 rintro e w' ⟨rfl, k, os, rfl⟩
 go_wp2_with fail
 go_ret
 exact ⟨rfl, Lib.below_grow _ _ (Nat.le_refl _) _ _⟩
end Go.Proofs.YtfgopboddkhckaaGreatDoor
namespace Go.Proofs.YtfgopboddkhckaaGreatDoor
open Go.ChangeShapes Go.WideShapes Go.ChangeAt Go.RowKit Go.Sort
set_option linter.unusedVariables false
set_option maxRecDepth 100000
attribute [local go_sem ↓] Go.wp_at_zero Go.wp_at_succ
theorem join_jnb (b : UInt8) : ∀ (p : List (List UInt8)), Lib.join p [b] = jnL b p
 | [] => rfl
 | [l] => Lib.join_one l _
 | l :: m :: t => by
   rw [jnL_cons _ _ (by simp), ← join_jnb b (m :: t), Lib.join_cons, Lib.join_cons]
   simp [Lib.joinTail]
theorem jnb_len (b : UInt8) : ∀ (p : List (List UInt8)), (∀ x ∈ p, x.length ≤ 20) → (jnL b p).length ≤ 21 * p.length
 | [], _ => by simp [jnL]
 | [l], h => by have := h l (by simp); simp [jnL]; omega
 | l :: m :: t, h => by
   have ih := jnb_len b (m :: t) (fun x hx => h x (List.mem_cons_of_mem _ hx))
   have := h l (by simp)
   rw [jnL_cons _ _ (by simp), List.length_append, List.length_cons]
   simp only [List.length_cons] at ih ⊢
   omega
theorem itb_mapb (xs : List Int) : (xs.map itb).map (·.data.toList) = xs.map Lib.itoa := by rw [List.map_map]; rfl
theorem impl_numsText (b : UInt8) (v : Value) (xs : List Int) (w : World) (hR : RI w v xs) (hn : xs.length ≤ 1048576) (hx : ∀ k, k < xs.length → -9223372036854775808 ≤ gi xs k ∧ gi xs k ≤ 9223372036854775807) (hL : LayF w) :
   Calls Tryz.prog 93 #[.string ⟨#[b]⟩, v] w (Ret (.string (bsq (jnL b (xs.map Lib.itoa)))) w) := by
 obtain ⟨A, c, rfl, hc1, hc2, HA'⟩ := hR.open_
 have HR := Lib.hid hR
 have HLF : Hid (∀ W', Below w.heap.size w W' → LayF W') := Lib.hid fun W' h => hL.ext h
 have HX := Lib.hid hx
 unfold maxLen at hc2
 clear HA' hR hL hx
 obtain ⟨n, hln⟩ : ∃ n, xs.length = n := ⟨_, rfl⟩
 have HN := Lib.hid hln
 rw [hln] at hn hc1 ⊢
 clear hln
 go_enter Tryz.func93, Tryz.ntmps93
 go_wp2_with fail
 go_loopw [5, 11] (fun u i wr => ∃ (k g cq : Nat), k ≤ n ∧ i = .int .i64 k ∧ u = .slice (some ⟨g, 0, none⟩) k cq ∧ Hid (OStr wr w.heap.size (.slice (some ⟨g, 0, none⟩) k cq) ((xs.take k).map itb)) ∧ Hid (Below w.heap.size w wr)) (fun _ i _ => n - (intOf i).toNat)
 case atStart => exact ⟨0, w.heap.size, 0, Nat.zero_le _, rfl, rfl, Lib.hid (ostr_lit _ _ (Nat.le_refl _)), Lib.hid (ext_alloc1 _ _)⟩
 case round =>
   obtain ⟨k, g, cq, hk, rfl, rfl, HO, HB⟩ := hrel
   have e1 : (0 : Int) ≤ k := by omega
   have hsz := HB.out.size
   by_cases hlt : k < n
   · have e2 : (k : Int) < n := by omega
     have hlt2 : k < xs.length := by rw [HN.out]; exact hlt
     obtain ⟨ad, rfl, _, hc⟩ := (HR.out.ext HB.out).at2 hlt2
     have hca := hc k hlt2
     have hxk := HX.out k hlt2
     have HS : Hid ((xs.take (k + 1)).map itb = (xs.take k).map itb ++ [itb (gi xs k)]) := Lib.hid (by rw [take_succ_getD hlt2, List.map_append]; rfl)
     have HKL : Hid (((xs.take k).map itb).length = k) := Lib.hid (by rw [List.length_map, List.length_take, HN.out]; omega)
     have HC : Hid (∀ W, Below w.heap.size w W → Calls Tryz.prog 54 #[.int .i64 (gi xs k)] W (Ret (.string (itb (gi xs k))) W)) := Lib.hid fun W h => impl_Dec _ hxk.1 hxk.2 W (HLF.out _ h)
     obtain ⟨t, ht⟩ : ∃ t, itb (gi xs k) = t := ⟨_, rfl⟩
     rw [ht] at HS HC
     clear ht hc hxk hlt2
     go_wp2_with fail
     refine (show Calls _ _ _ _ _ from HC.out _ HB.out).mono ?_
     rintro e w3 ⟨rfl, hb3⟩
     have HB3 := Lib.hid (ext_trans HB.out hb3)
     have HO3 := Lib.hid (HO.out.ext hb3)
     have hsz3 := HB3.out.size
     clear hb3 hca
     obtain ⟨ls, hls⟩ : ∃ ls, (xs.take k).map itb = ls := ⟨_, rfl⟩
     rw [hls] at HO3 HS HKL
     clear hls HO
     go_wp2_with (at_builtin; refine wpList_append_str rfl _ _ rfl w.heap.size (.slice (some ⟨g, 0, none⟩) k cq) ls t rfl rfl HO3.out (by rw [HKL.out]; omega) hsz3 ?_; intro g2 cap w4 hO4 hg4 hlt4)
     go_roundw
     case rel =>
       refine ⟨k + 1, g2, cap, by omega, by go_num, by rw [HKL.out], Lib.hid ?_, Lib.hid (Chg.ext HB3.out hg4 (fun j hj => (HO3.out.ge j hj).1))⟩
       rw [HS.out]
       rw [HKL.out] at hO4
       exact hO4
     case measure => simp [intOf]; omega
   · obtain rfl : k = n := by omega
     have HO2 : Hid (OStr wr w.heap.size (.slice (some ⟨g, 0, none⟩) k cq) (xs.map itb)) := Lib.hid (by
       have h := HO.out
       rwa [List.take_of_length_le (by rw [HN.out]; exact Nat.le_refl _)] at h)
     have hl : (xs.map itb).length = k := by rw [List.length_map, HN.out]
     have HJ : Hid (Calls Tryz.prog 156 #[.slice (some ⟨g, 0, none⟩) k cq, .string ⟨#[b]⟩] wr (Ret (.string (bsq (jnL b (xs.map Lib.itoa)))) wr)) := Lib.hid (by
       have h := HO2.out.rd
       obtain ⟨A2, c2, hv, h2, h3⟩ := h.open_
       injection hv with q1 q2 q3
       have hcell : ∀ (j : Nat) x, (xs.map itb)[j]? = some x → wr.cell? ⟨g, 0 + j, none⟩ = some (.string x) := fun j x hx => by
         have hj : j < (xs.map itb).length := (List.getElem?_eq_some_iff.1 hx).1
         obtain ⟨ad, hA, _, hc⟩ := h.at hj
         injection hA with hA
         have := hc j hj
         rw [← hA, gd_eq hj] at this
         rw [List.getElem?_eq_getElem hj] at hx
         injection hx with hx
         rw [hx] at this
         have e1 : (⟨g, 0, none⟩ : Addr).add j = ⟨g, 0 + j, none⟩ := by unfold Addr.add; split <;> simp <;> omega
         rwa [e1] at this
       have hbk : g < wr.heap.size := (HO2.out.ge g rfl).2
       have hjl : (Lib.join ((xs.map itb).map (·.data.toList)) [b]).length ≤ 140737488355328 := by
         rw [itb_mapb, join_jnb]
         have := jnb_len b (xs.map Lib.itoa) (fun x hx => by
           obtain ⟨y, hy, rfl⟩ := List.mem_map.1 hx
           obtain ⟨i, hi, rfl⟩ := List.getElem_of_mem hy
           have := HX.out i hi
           unfold gi at this
           rw [List.getD_eq_getElem?_getD, List.getElem?_eq_getElem hi] at this
           exact itoa_length_le _ this.1 this.2)
         rw [List.length_map, HN.out] at this
         omega
       have hj := Tryz.strings_Join g 0 cq (xs.map itb) ⟨#[b]⟩ wr hcell hbk (by rw [hl]; omega) (by rw [hl]; omega) hjl
       rw [hl] at hj
       refine hj.mono fun e w' ⟨h1, h2⟩ => ⟨?_, h2⟩
       rw [h1]
       show Ending.returned (.string (bsq (Lib.join ((xs.map itb).map (·.data.toList)) [b]))) = _
       rw [itb_mapb, join_jnb])
     clear hl
     go_wp2_with fail
     refine (show Calls _ _ _ _ _ from HJ.out).mono ?_
     rintro e w3 ⟨rfl, hb3⟩
     go_wp2_with fail
     go_ret
     exact ⟨rfl, ext_trans HB.out hb3⟩
end Go.Proofs.YtfgopboddkhckaaGreatDoor
namespace Go.Proofs.YtfgopboddkhckaaGreatDoor
open Go.ChangeShapes Go.WideShapes Go.ChangeAt Go.RowKit Go.Sort Go.Joins
set_option linter.unusedVariables false
set_option maxRecDepth 100000
def fmC (f : FM) (n lo hi : Int) : Int := if vF f then (if inB n lo hi then 0 else 2) else 1
theorem vF_bd {f : FM} (h : vF f = true) : 100 ≤ f.l ∧ f.l ≤ 500 ∧ 50 ≤ f.w ∧ f.w ≤ 250 ∧ 30 ≤ f.h ∧ f.h ≤ 150 ∧ 0 ≤ f.j ∧ f.j ≤ 20 ∧ f.w < f.l := by
 unfold vF at h
 simp only [Bool.and_eq_true, decide_eq_true_eq] at h
 obtain ⟨⟨⟨⟨h1, h2⟩, h3⟩, h4⟩, h5⟩ := h
 have h1 := inB_iff.1 h1
 have h2 := inB_iff.1 h2
 have h3 := inB_iff.1 h3
 have h4 := inB_iff.1 h4
 omega
set_option maxHeartbeats 800000 in
theorem impl_fmC (f : FM) (n lo hi : Int) (w : World) :
   Calls Tryz.prog 164 #[.agg #[.int .i64 f.l, .int .i64 f.w, .int .i64 f.h, .int .i64 f.j], .int .i64 n, .int .i64 lo, .int .i64 hi] w (Ret (.int .i64 (fmC f n lo hi)) w) := by
 have HV : Hid (fmC f n lo hi = if vF f then (if inB n lo hi then 0 else 2) else 1) := Lib.hid rfl
 have HF := Lib.hid (fun w => impl_okF f w)
 obtain ⟨x, hx⟩ : ∃ x, vF f = x := ⟨_, rfl⟩
 obtain ⟨y, hy⟩ : ∃ y, inB n lo hi = y := ⟨_, rfl⟩
 have HI := Lib.hid (fun w => RetP.bool (impl_within n lo hi w) hy)
 rw [hx, hy] at HV
 rw [hx] at HF
 clear hx hy
 go_enter Tryz.func164, Tryz.ntmps164
 go_wp2_with fail
 refine (show Calls _ _ _ _ _ from HF.out _).mono ?_
 rintro e w1 ⟨rfl, hb⟩
 have HB := Lib.hid (ext_trans (ext_alloc1 _ _) hb)
 clear hb
 cases x
 · go_wp2_with fail
   go_ret
   exact ⟨ret_int (by rw [HV.out]; rfl), HB.out⟩
 go_wp2_with fail
 refine (show Calls _ _ _ _ _ from HI.out _).mono ?_
 rintro e w2 ⟨rfl, rfl⟩
 cases y
 · go_wp2_with fail
   go_ret
   exact ⟨ret_int (by rw [HV.out]; rfl), HB.out⟩
 go_wp2_with fail
 go_ret
 exact ⟨ret_int (by rw [HV.out]; rfl), HB.out⟩
set_option maxHeartbeats 800000 in
theorem spec_fmC (f : FM) (n lo hi : Int) (w : World) :
   Calls Tryz.prog 183 #[.agg #[.int .i64 f.l, .int .i64 f.w, .int .i64 f.h, .int .i64 f.j], .int .i64 n, .int .i64 lo, .int .i64 hi] w (Ret (.int .i64 (fmC f n lo hi)) w) := by
 have HV : Hid (fmC f n lo hi = if vF f then (if inB n lo hi then 0 else 2) else 1) := Lib.hid rfl
 have HF := Lib.hid (fun w => spec_okF f w)
 obtain ⟨x, hx⟩ : ∃ x, vF f = x := ⟨_, rfl⟩
 obtain ⟨y, hy⟩ : ∃ y, inB n lo hi = y := ⟨_, rfl⟩
 have HI := Lib.hid (fun w => RetP.bool (spec_in n lo hi w) hy)
 rw [hx, hy] at HV
 rw [hx] at HF
 clear hx hy
 go_enter Tryz.func183, Tryz.ntmps183
 go_wp2_with fail
 refine (show Calls _ _ _ _ _ from HF.out _).mono ?_
 rintro e w1 ⟨rfl, hb⟩
 have HB := Lib.hid (ext_trans (ext_alloc1 _ _) hb)
 clear hb
 cases x
 · go_wp2_with fail
   go_ret
   exact ⟨ret_int (by rw [HV.out]; rfl), HB.out⟩
 go_wp2_with fail
 refine (show Calls _ _ _ _ _ from HI.out _).mono ?_
 rintro e w2 ⟨rfl, rfl⟩
 cases y
 · go_wp2_with fail
   go_ret
   exact ⟨ret_int (by rw [HV.out]; rfl), HB.out⟩
 go_wp2_with fail
 go_ret
 exact ⟨ret_int (by rw [HV.out]; rfl), HB.out⟩
theorem fmC_ok {f : FM} {n lo hi : Int} (h : fmC f n lo hi = 0) : vF f = true ∧ lo ≤ n ∧ n ≤ hi := by
 unfold fmC at h
 split at h
 · rename_i h1
   split at h
   · rename_i h2
     have := inB_iff.1 h2
     exact ⟨h1, this.1, this.2⟩
   · cases h
 · cases h
def mHeight (f : FM) (n : Int) : Int × Int := if fmC f n 1 200 = 0 then (n * (f.h + f.j) - f.j, 0) else (0, fmC f n 1 200)
set_option maxHeartbeats 800000 in
theorem impl_HeightOf (f : FM) (n : Int) (w : World) :
   Calls Tryz.prog 97 #[.agg #[.int .i64 f.l, .int .i64 f.w, .int .i64 f.h, .int .i64 f.j], .int .i64 n] w (Ret (.tuple #[.int .i64 (mHeight f n).1, .int .i64 (mHeight f n).2]) w) := by
 have HM : Hid (mHeight f n = if fmC f n 1 200 = 0 then (n * (f.h + f.j) - f.j, 0) else (0, fmC f n 1 200)) := Lib.hid rfl
 have HC := Lib.hid (fun w => impl_fmC f n 1 200 w)
 obtain ⟨z, hz⟩ : ∃ z, fmC f n 1 200 = z := ⟨_, rfl⟩
 by_cases hz0 : z = 0
 · rw [hz0] at hz
   obtain ⟨h1, h2, h3⟩ := fmC_ok hz
   obtain ⟨_, _, _, _, b1, b2, b3, b4, _⟩ := vF_bd h1
   rw [hz, if_pos rfl] at HM
   rw [hz] at HC
   clear hz hz0 h1
   obtain ⟨a, hw, h, j⟩ := f
   dsimp only at *
   have hp : 0 ≤ n * (h + j) ∧ n * (h + j) ≤ 34000 := by
     have k1 : 0 ≤ n * (h + j) := Int.mul_nonneg (by omega) (by omega)
     have k2 : n * (h + j) ≤ 200 * 170 := Int.mul_le_mul (by omega) (by omega) (by omega) (by omega)
     omega
   go_enter Tryz.func97, Tryz.ntmps97
   go_wp2_with fail
   refine (show Calls _ _ _ _ _ from HC.out _).mono ?_
   rintro e w1 ⟨rfl, hb⟩
   have k2 := cell_keep (p := ⟨w.heap.size, 2, none⟩) (v := .int .i64 h) (by simp [go_sem]) hb
   have k3 := cell_keep (p := ⟨w.heap.size, 3, none⟩) (v := .int .i64 j) (by simp [go_sem]) hb
   have HB := Lib.hid (ext_trans (ext_alloc1 _ _) hb)
   clear hb
   go_wp2_with fail
   go_ret2
   exact ⟨by rw [HM.out]; rfl, HB.out⟩
 · rw [hz, if_neg hz0] at HM
   rw [hz] at HC
   have e1 : (z == 0) = false := beq_eq_false_iff_ne.2 hz0
   have e2 : (z != 0) = true := bne_iff_ne.2 hz0
   clear hz
   go_enter Tryz.func97, Tryz.ntmps97
   go_wp2_with fail
   refine (show Calls _ _ _ _ _ from HC.out _).mono ?_
   rintro e w1 ⟨rfl, hb⟩
   have HB := Lib.hid (ext_trans (ext_alloc1 _ _) hb)
   clear hb
   go_wp2_with fail
   go_ret2
   exact ⟨by rw [HM.out]; rfl, HB.out⟩
set_option maxHeartbeats 800000 in
theorem spec_HeightOf (f : FM) (n : Int) (w : World) :
   Calls Tryz.prog 124 #[.agg #[.int .i64 f.l, .int .i64 f.w, .int .i64 f.h, .int .i64 f.j], .int .i64 n] w (Ret (.tuple #[.int .i64 (mHeight f n).1, .int .i64 (mHeight f n).2]) w) := by
 have HM : Hid (mHeight f n = if fmC f n 1 200 = 0 then (n * (f.h + f.j) - f.j, 0) else (0, fmC f n 1 200)) := Lib.hid rfl
 have HC := Lib.hid (fun w => spec_fmC f n 1 200 w)
 obtain ⟨z, hz⟩ : ∃ z, fmC f n 1 200 = z := ⟨_, rfl⟩
 by_cases hz0 : z = 0
 · rw [hz0] at hz
   obtain ⟨h1, h2, h3⟩ := fmC_ok hz
   obtain ⟨_, _, _, _, b1, b2, b3, b4, _⟩ := vF_bd h1
   rw [hz, if_pos rfl] at HM
   rw [hz] at HC
   clear hz hz0 h1
   obtain ⟨a, hw, h, j⟩ := f
   dsimp only at *
   have hp : 0 ≤ n * (h + j) ∧ n * (h + j) ≤ 34000 := by
     have k1 : 0 ≤ n * (h + j) := Int.mul_nonneg (by omega) (by omega)
     have k2 : n * (h + j) ≤ 200 * 170 := Int.mul_le_mul (by omega) (by omega) (by omega) (by omega)
     omega
   go_enter Tryz.func124, Tryz.ntmps124
   go_wp2_with fail
   refine (show Calls _ _ _ _ _ from HC.out _).mono ?_
   rintro e w1 ⟨rfl, hb⟩
   have k2 := cell_keep (p := ⟨w.heap.size, 2, none⟩) (v := .int .i64 h) (by simp [go_sem]) hb
   have k3 := cell_keep (p := ⟨w.heap.size, 3, none⟩) (v := .int .i64 j) (by simp [go_sem]) hb
   have HB := Lib.hid (ext_trans (ext_alloc1 _ _) hb)
   clear hb
   go_wp2_with fail
   go_ret2
   exact ⟨by rw [HM.out]; rfl, HB.out⟩
 · rw [hz, if_neg hz0] at HM
   rw [hz] at HC
   have e1 : (z == 0) = false := beq_eq_false_iff_ne.2 hz0
   have e2 : (z != 0) = true := bne_iff_ne.2 hz0
   clear hz
   go_enter Tryz.func124, Tryz.ntmps124
   go_wp2_with fail
   refine (show Calls _ _ _ _ _ from HC.out _).mono ?_
   rintro e w1 ⟨rfl, hb⟩
   have HB := Lib.hid (ext_trans (ext_alloc1 _ _) hb)
   clear hb
   go_wp2_with fail
   go_ret2
   exact ⟨by rw [HM.out]; rfl, HB.out⟩
def fmT (f : FM) : ByteArray := itb f.l ++ ⟨#[120]⟩ ++ itb f.w ++ ⟨#[120]⟩ ++ itb f.h ++ ⟨#[43]⟩ ++ itb f.j
set_option maxHeartbeats 3200000 in
theorem spec_fmT (f : FM) (hv : vF f = true) (w : World) :
   Calls Tryz.prog 123 #[.agg #[.int .i64 f.l, .int .i64 f.w, .int .i64 f.h, .int .i64 f.j]] w (Ret (.string (fmT f)) w) := by
 obtain ⟨b1, b2, b3, b4, b5, b6, b7, b8, _⟩ := vF_bd hv
 have hz1 := itb_size f.l (by omega) (by omega)
 have hz2 := itb_size f.w (by omega) (by omega)
 have hz3 := itb_size f.h (by omega) (by omega)
 have hz4 := itb_size f.j (by omega) (by omega)
 have HT : Hid (fmT f = itb f.l ++ ⟨#[120]⟩ ++ itb f.w ++ ⟨#[120]⟩ ++ itb f.h ++ ⟨#[43]⟩ ++ itb f.j) := Lib.hid rfl
 have HD : Hid (∀ n w, (n = f.l ∨ n = f.w ∨ n = f.h ∨ n = f.j) → Calls Tryz.prog 114 #[.int .i64 n] w (Ret (.string (itb n)) w)) := Lib.hid fun n w hn => spec_Dec n (by rcases hn with rfl | rfl | rfl | rfl <;> omega) (by rcases hn with rfl | rfl | rfl | rfl <;> omega) w
 have c1 : ¬ 9223372036854775807 < (itb f.l).size + 1 := by omega
 have c2 : ¬ 9223372036854775807 < (itb f.l).size + 1 + (itb f.w).size := by omega
 have c3 : ¬ 9223372036854775807 < (itb f.l).size + 1 + (itb f.w).size + 1 := by omega
 have c4 : ¬ 9223372036854775807 < (itb f.l).size + 1 + (itb f.w).size + 1 + (itb f.h).size := by omega
 have c5 : ¬ 9223372036854775807 < (itb f.l).size + 1 + (itb f.w).size + 1 + (itb f.h).size + 1 := by omega
 have c6 : ¬ 9223372036854775807 < (itb f.l).size + 1 + (itb f.w).size + 1 + (itb f.h).size + 1 + (itb f.j).size := by omega
 have g0 : ∀ d os, (grow (redrawn (w.alloc (.cells #[.int .i64 f.l, .int .i64 f.w, .int .i64 f.h, .int .i64 f.j] 33)) d) os).cell? ⟨w.heap.size, 0, none⟩ = some (.int .i64 f.l) := fun d os => cell_regrown (by simp [go_sem]) d os
 have g1 : ∀ d os, (grow (redrawn (w.alloc (.cells #[.int .i64 f.l, .int .i64 f.w, .int .i64 f.h, .int .i64 f.j] 33)) d) os).cell? ⟨w.heap.size, 1, none⟩ = some (.int .i64 f.w) := fun d os => cell_regrown (by simp [go_sem]) d os
 have g2 : ∀ d os, (grow (redrawn (w.alloc (.cells #[.int .i64 f.l, .int .i64 f.w, .int .i64 f.h, .int .i64 f.j] 33)) d) os).cell? ⟨w.heap.size, 2, none⟩ = some (.int .i64 f.h) := fun d os => cell_regrown (by simp [go_sem]) d os
 have g3 : ∀ d os, (grow (redrawn (w.alloc (.cells #[.int .i64 f.l, .int .i64 f.w, .int .i64 f.h, .int .i64 f.j] 33)) d) os).cell? ⟨w.heap.size, 3, none⟩ = some (.int .i64 f.j) := fun d os => cell_regrown (by simp [go_sem]) d os
 clear hv hz1 hz2 hz3 hz4 b1 b2 b3 b4 b5 b6 b7 b8
 go_enter Tryz.func123, Tryz.ntmps123
 go_wp2_with fail
 refine wp_region_quiet_below (by kernel_rfl) (by kernel_rfl) ?_
 repeat (go_big_quiet_step ((go_at_call 114; exact regrown_r (HD.out _ _ (by simp)))))
 refine wpQuiet_nil ?_
 intro w' hw'
 obtain ⟨q, rfl⟩ := hw'
 go_wp2_with fail
 go_ret
 exact ⟨by rw [HT.out]; rfl, ext_trans (ext_alloc1 _ _) (below_regrown _ q.d q.os)⟩
end Go.Proofs.YtfgopboddkhckaaGreatDoor
