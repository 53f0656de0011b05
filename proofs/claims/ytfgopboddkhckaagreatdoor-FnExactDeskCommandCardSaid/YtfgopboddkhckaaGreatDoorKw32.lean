/-
  Parts of the proof: Ss7.
-/
import Derived.Test.YtfgopboddkhckaaGreatDoorKw31
namespace Go.Proofs.YtfgopboddkhckaaGreatDoor
open Go.ChangeShapes Go.WideShapes Go.ChangeAt Go.RowKit Go.Sort Go.Joins
set_option linter.unusedVariables false
set_option maxRecDepth 100000
def frW (l : List Bool) : List UInt8 := l.map fun b => if b then 110 else 120
def fmW (x : ByteArray) : ByteArray := match cmOf x with | some c => ⟨(frW (cmF c)).toArray⟩ | none => ⟨#[45]⟩
theorem fmW_some {x : ByteArray} {c : CM} (h : cmOf x = some c) : fmW x = ⟨(frW (cmF c)).toArray⟩ := by unfold fmW; rw [h]
theorem fmW_none {x : ByteArray} (h : cmOf x = none) : fmW x = ⟨#[45]⟩ := by unfold fmW; rw [h]
theorem fmW_size (c : CM) : (⟨(frW (cmF c)).toArray⟩ : ByteArray).size = (cmF c).length ∧ (cmF c).length ≤ 3 := by cases c <;> decide
theorem fmW_byte (c : CM) : ∀ k, k < (cmF c).length → byt ⟨(frW (cmF c)).toArray⟩ k = if gd (cmF c) k = true then 110 else 120 := by cases c <;> decide
theorem fmW_ne (c : CM) : (⟨(frW (cmF c)).toArray⟩ : ByteArray) ≠ ⟨#[45]⟩ := by cases c <;> decide
def txL (c : CM) (l : List ByteArray) : Nat → List ByteArray
 | 0 => []
 | k + 1 => if gd (cmF c) k = true then txL c l k else txL c l k ++ [gd l (k + 1)]
theorem txL_len (c : CM) (l : List ByteArray) : ∀ k, (txL c l k).length ≤ k
 | 0 => Nat.le_refl _
 | k + 1 => by
   have := txL_len c l k
   unfold txL
   split
   · omega
   · simp; omega
theorem txL_no {c : CM} {l : List ByteArray} {k : Nat} (h : gd (cmF c) k = false) : txL c l (k + 1) = txL c l k ++ [gd l (k + 1)] := if_neg (by rw [h]; decide)
theorem txL_sz {c : CM} {l : List ByteArray} {M : Nat} (h : ∀ k, k < l.length → (gd l k).size ≤ M) : ∀ k, k < l.length → ∀ t ∈ txL c l k, t.size ≤ M
 | 0, _, t, ht => by cases ht
 | k + 1, hk, t, ht => by
   have ih := txL_sz (c := c) h k (by omega)
   unfold txL at ht
   split at ht
   · exact ih t ht
   · rcases List.mem_append.1 ht with ht | ht
     · exact ih t ht
     · obtain rfl := List.mem_singleton.1 ht
       exact h _ hk
set_option maxHeartbeats 3200000 in
theorem spec_Form (x : ByteArray) (w : World) : Calls Tryz.prog 57 #[.string x] w (RetP (.string (fmW x)) w) := by
 by_cases h0 : x = ⟨#[98, 111, 110, 100]⟩
 · have he : x.toList = [98, 111, 110, 100] := by rw [h0, ByteArray.toList_eq]
   have hs : fmW x = ⟨#[120]⟩ := by rw [h0]; decide
   rw [hs]
   clear hs h0
   go_enter Tryz.func57, Tryz.ntmps57
   go_wp2_with fail
   go_ret
   exact ⟨rfl, rfl⟩
 obtain ⟨p0, q0⟩ := lit_neC (x := x) (l := [98, 111, 110, 100]) h0
 by_cases h1 : x = ⟨#[102, 111, 114, 109, 97, 116]⟩
 · have he : x.toList = [102, 111, 114, 109, 97, 116] := by rw [h1, ByteArray.toList_eq]
   have hs : fmW x = ⟨#[120]⟩ := by rw [h1]; decide
   rw [hs]
   clear hs h1
   go_enter Tryz.func57, Tryz.ntmps57
   go_wp2_with fail
   go_ret
   exact ⟨rfl, rfl⟩
 obtain ⟨p1, q1⟩ := lit_neC (x := x) (l := [102, 111, 114, 109, 97, 116]) h1
 by_cases h2 : x = ⟨#[112, 97, 105, 114]⟩
 · have he : x.toList = [112, 97, 105, 114] := by rw [h2, ByteArray.toList_eq]
   have hs : fmW x = ⟨#[110, 110]⟩ := by rw [h2]; decide
   rw [hs]
   clear hs h2
   go_enter Tryz.func57, Tryz.ntmps57
   go_wp2_with fail
   go_ret
   exact ⟨rfl, rfl⟩
 obtain ⟨p2, q2⟩ := lit_neC (x := x) (l := [112, 97, 105, 114]) h2
 by_cases h3 : x = ⟨#[119, 97, 108, 108]⟩
 · have he : x.toList = [119, 97, 108, 108] := by rw [h3, ByteArray.toList_eq]
   have hs : fmW x = ⟨#[110, 110]⟩ := by rw [h3]; decide
   rw [hs]
   clear hs h3
   go_enter Tryz.func57, Tryz.ntmps57
   go_wp2_with fail
   go_ret
   exact ⟨rfl, rfl⟩
 obtain ⟨p3, q3⟩ := lit_neC (x := x) (l := [119, 97, 108, 108]) h3
 by_cases h4 : x = ⟨#[99, 104, 101, 99, 107]⟩
 · have he : x.toList = [99, 104, 101, 99, 107] := by rw [h4, ByteArray.toList_eq]
   have hs : fmW x = ⟨#[110]⟩ := by rw [h4]; decide
   rw [hs]
   clear hs h4
   go_enter Tryz.func57, Tryz.ntmps57
   go_wp2_with fail
   go_ret
   exact ⟨rfl, rfl⟩
 obtain ⟨p4, q4⟩ := lit_neC (x := x) (l := [99, 104, 101, 99, 107]) h4
 by_cases h5 : x = ⟨#[104, 101, 105, 103, 104, 116]⟩
 · have he : x.toList = [104, 101, 105, 103, 104, 116] := by rw [h5, ByteArray.toList_eq]
   have hs : fmW x = ⟨#[110]⟩ := by rw [h5]; decide
   rw [hs]
   clear hs h5
   go_enter Tryz.func57, Tryz.ntmps57
   go_wp2_with fail
   go_ret
   exact ⟨rfl, rfl⟩
 obtain ⟨p5, q5⟩ := lit_neC (x := x) (l := [104, 101, 105, 103, 104, 116]) h5
 by_cases h6 : x = ⟨#[108, 101, 110, 103, 116, 104]⟩
 · have he : x.toList = [108, 101, 110, 103, 116, 104] := by rw [h6, ByteArray.toList_eq]
   have hs : fmW x = ⟨#[110]⟩ := by rw [h6]; decide
   rw [hs]
   clear hs h6
   go_enter Tryz.func57, Tryz.ntmps57
   go_wp2_with fail
   go_ret
   exact ⟨rfl, rfl⟩
 obtain ⟨p6, q6⟩ := lit_neC (x := x) (l := [108, 101, 110, 103, 116, 104]) h6
 by_cases h7 : x = ⟨#[101, 110, 116, 101, 114]⟩
 · have he : x.toList = [101, 110, 116, 101, 114] := by rw [h7, ByteArray.toList_eq]
   have hs : fmW x = ⟨#[110, 120, 110]⟩ := by rw [h7]; decide
   rw [hs]
   clear hs h7
   go_enter Tryz.func57, Tryz.ntmps57
   go_wp2_with fail
   go_ret
   exact ⟨rfl, rfl⟩
 obtain ⟨p7, q7⟩ := lit_neC (x := x) (l := [101, 110, 116, 101, 114]) h7
 by_cases h8 : x = ⟨#[99, 111, 117, 110, 116]⟩
 · have he : x.toList = [99, 111, 117, 110, 116] := by rw [h8, ByteArray.toList_eq]
   have hs : fmW x = ⟨#[]⟩ := by rw [h8]; decide
   rw [hs]
   clear hs h8
   go_enter Tryz.func57, Tryz.ntmps57
   go_wp2_with fail
   go_ret
   exact ⟨rfl, rfl⟩
 obtain ⟨p8, q8⟩ := lit_neC (x := x) (l := [99, 111, 117, 110, 116]) h8
 by_cases h9 : x = ⟨#[108, 111, 103]⟩
 · have he : x.toList = [108, 111, 103] := by rw [h9, ByteArray.toList_eq]
   have hs : fmW x = ⟨#[]⟩ := by rw [h9]; decide
   rw [hs]
   clear hs h9
   go_enter Tryz.func57, Tryz.ntmps57
   go_wp2_with fail
   go_ret
   exact ⟨rfl, rfl⟩
 obtain ⟨p9, q9⟩ := lit_neC (x := x) (l := [108, 111, 103]) h9
 by_cases h10 : x = ⟨#[115, 104, 111, 119]⟩
 · have he : x.toList = [115, 104, 111, 119] := by rw [h10, ByteArray.toList_eq]
   have hs : fmW x = ⟨#[]⟩ := by rw [h10]; decide
   rw [hs]
   clear hs h10
   go_enter Tryz.func57, Tryz.ntmps57
   go_wp2_with fail
   go_ret
   exact ⟨rfl, rfl⟩
 obtain ⟨p10, q10⟩ := lit_neC (x := x) (l := [115, 104, 111, 119]) h10
 have hs : fmW x = ⟨#[45]⟩ := by
   unfold fmW
   cases hc : cmOf x with
   | none => rfl
   | some c =>
     have hx := cmOf_some hc
     cases c
     · exact absurd hx h0
     · exact absurd hx h4
     · exact absurd hx h8
     · exact absurd hx h7
     · exact absurd hx h1
     · exact absurd hx h5
     · exact absurd hx h6
     · exact absurd hx h9
     · exact absurd hx h2
     · exact absurd hx h10
     · exact absurd hx h3
 rw [hs]
 clear hs h0 h1 h2 h3 h4 h5 h6 h7 h8 h9 h10
 go_enter Tryz.func57, Tryz.ntmps57
 go_wp2_with fail
 go_ret
 exact ⟨rfl, rfl⟩
theorem step_append_rt {w : World} {ops : Array Oper} {o : Oper} {a : Act} {K : Act → World → Prop} {Q : Exit → Act → World → Prop} {E : Prop} (hgd : o.guard = none) (s x : Operand)
   (ho : o.op = .call { callee := .builtin .append, args := #[s, x], argTypes := #[29, 29] })
   (base : Nat) (v : Value) (xs : List ByteArray) (y : ByteArray) (H : Nat) (hs : a.eval s = v) (hx : a.eval x = .slice (some ⟨H, 0, none⟩) 1 1) (hO : OStr w base v xs) (hR : w.cell? ⟨H, 0, none⟩ = some (.string y))
   (hl : xs.length ≤ 1099511627776) (hbase : base ≤ w.heap.size)
   (h : ∀ g cap w', OStr w' base (.slice (some ⟨g, 0, none⟩) (xs.length + 1) cap) (xs ++ [y]) → Chg (BI v) w w' → (BI v g ∨ g = w.heap.size) → g < w'.heap.size → K (a.put o.dst (.slice (some ⟨g, 0, none⟩) (xs.length + 1) cap)) w') :
   if Region.wanted o (yielded ops a.tmps) = true then Oper.wp Tryz.prog o a w K Q else E := by
 obtain ⟨i0, hi, hz0, hz1, hz2⟩ := info_parts info_str
 refine step_append_lies w hgd s x _ ho base 9 i0 (.string ⟨#[]⟩) 1 16 Tryz.underlying29 hi hz0 hz1 hz2 rfl (by omega) v xs.length (xs.map Value.string) hs hO
   ⟨H, 0, none⟩ 1 1 [.string y] hx rfl (by intro j u hu; rcases j with _ | j; (obtain rfl := Option.some.inj hu; exact hR); (simp at hu)) (by simp [Value.oneCell']) (by omega) (by unfold maxLen; omega) (by omega) hbase w.heap.size rfl ?_
 intro g cap w1 hown hgrow hat hlt
 refine h g cap w1 ?_ (Chg.of_grown hgrow) (hat.elim (fun h => .inl h) fun h => .inr h) hlt
 unfold OStr
 rw [List.length_append, List.map_append]
 exact hown
/-! ### The box while a line is read -/
theorem SX.chg {S : Nat → Prop} {W W' : World} {B0 q : Nat} {d : DK} {A : Option Addr} {c : Nat} {B : Option Addr} {e : Nat} {O : Option Addr} {co : Nat} {out : List ByteArray} {N T : Value} (h : SX W B0 q d A c B e O co out N T) (hc : Chg S W W') (h0 : ¬ S q) (h1 : ∀ k, BI (.slice A d.cs.length c) k → ¬ S k) (h2 : ∀ k, BI (.slice B d.wall.length e) k → ¬ S k) (h3 : ∀ k, BI (.slice O out.length co) k → ¬ S k) : SX W' B0 q d A c B e O co out N T :=
 ⟨h.bx.chg hc h0 h1 h2, hc.cell h.k8 h0, hc.cell h.k9 h0, hc.cell h.k10 h0, h.own.chg hc h3, h.ap⟩
theorem SX.put9 {W : World} {B0 q : Nat} {d : DK} {A : Option Addr} {c : Nat} {B : Option Addr} {e : Nat} {O : Option Addr} {co : Nat} {out : List ByteArray} {N T : Value} (h : SX W B0 q d A c B e O co out N T) (u : Value) : SX (W.setCell ⟨q, 9, none⟩ u) B0 q d A c B e O co out u T := by
 have hs : Chg (fun k => k = q) W (W.setCell ⟨q, 9, none⟩ u) := Chg.setCell (S := fun k => k = q) _ (p := ⟨q, 9, none⟩) rfl _
 have hne : ∀ j, j ≠ 9 → (W.setCell ⟨q, 9, none⟩ u).cell? ⟨q, j, none⟩ = W.cell? ⟨q, j, none⟩ := fun j hj => World.cell?_setCell_other _ _ _ _ (fun e => by injection e with _ e2; omega)
 have hP : PDK (W.setCell ⟨q, 9, none⟩ u) q d A c B e := h.bx.cells.to fun j v hj hv => (hne j (by omega)).trans hv
 have hD : DB (W.setCell ⟨q, 9, none⟩ u) B0 q d A c B e := ⟨hP, ⟨h.bx.own.1.chg hs (fun k hk => h.bx.fa k hk), h.bx.own.2.1.chg hs (fun k hk => h.bx.fb k hk), h.bx.own.2.2⟩, h.bx.fa, h.bx.fb, fun j => by rw [World.frozen?_setCell]; exact h.bx.fz j, h.bx.ge⟩
 have h9 : (W.setCell ⟨q, 9, none⟩ u).cell? ⟨q, 9, none⟩ = some u := World.cell?_setCell_same _ _ _ h.k9
 exact ⟨hD, (hne 8 (by omega)).trans h.k8, h9, (hne 10 (by omega)).trans h.k10, h.own.chg hs (fun k hk e => (h.ap k hk).1 e), h.ap⟩
theorem SX.put10 {W : World} {B0 q : Nat} {d : DK} {A : Option Addr} {c : Nat} {B : Option Addr} {e : Nat} {O : Option Addr} {co : Nat} {out : List ByteArray} {N T : Value} (h : SX W B0 q d A c B e O co out N T) (u : Value) : SX (W.setCell ⟨q, 10, none⟩ u) B0 q d A c B e O co out N u := by
 have hs : Chg (fun k => k = q) W (W.setCell ⟨q, 10, none⟩ u) := Chg.setCell (S := fun k => k = q) _ (p := ⟨q, 10, none⟩) rfl _
 have hne : ∀ j, j ≠ 10 → (W.setCell ⟨q, 10, none⟩ u).cell? ⟨q, j, none⟩ = W.cell? ⟨q, j, none⟩ := fun j hj => World.cell?_setCell_other _ _ _ _ (fun e => by injection e with _ e2; omega)
 have hP : PDK (W.setCell ⟨q, 10, none⟩ u) q d A c B e := h.bx.cells.to fun j v hj hv => (hne j (by omega)).trans hv
 have hD : DB (W.setCell ⟨q, 10, none⟩ u) B0 q d A c B e := ⟨hP, ⟨h.bx.own.1.chg hs (fun k hk => h.bx.fa k hk), h.bx.own.2.1.chg hs (fun k hk => h.bx.fb k hk), h.bx.own.2.2⟩, h.bx.fa, h.bx.fb, fun j => by rw [World.frozen?_setCell]; exact h.bx.fz j, h.bx.ge⟩
 have h9 : (W.setCell ⟨q, 10, none⟩ u).cell? ⟨q, 10, none⟩ = some u := World.cell?_setCell_same _ _ _ h.k10
 exact ⟨hD, (hne 8 (by omega)).trans h.k8, (hne 9 (by omega)).trans h.k9, h9, h.own.chg hs (fun k hk e => (h.ap k hk).1 e), h.ap⟩
structure SL (w1 W : World) (B0 q : Nat) (d : DK) (A : Option Addr) (c : Nat) (B : Option Addr) (e : Nat) (O : Option Addr) (co : Nat) (out : List ByteArray) (gn cn gt ct : Nat) (xs : List Int) (tl : List ByteArray) : Prop where
 sx : SX W B0 q d A c B e O co out (.slice (some ⟨gn, 0, none⟩) xs.length cn) (.slice (some ⟨gt, 0, none⟩) tl.length ct)
 on : OI W w1.heap.size (.slice (some ⟨gn, 0, none⟩) xs.length cn) xs
 ot : OStr W w1.heap.size (.slice (some ⟨gt, 0, none⟩) tl.length ct) tl
 ne : gn ≠ gt
 chg : Chg (fun j => j = q) w1 W
 lq : q < w1.heap.size
 lA : ∀ k, BI (.slice A d.cs.length c) k → k < w1.heap.size
 lB : ∀ k, BI (.slice B d.wall.length e) k → k < w1.heap.size
 lO : ∀ k, BI (.slice O out.length co) k → k < w1.heap.size
section
variable {w1 W W' : World} {B0 q : Nat} {d : DK} {A : Option Addr} {c : Nat} {B : Option Addr} {e : Nat} {O : Option Addr} {co : Nat} {out : List ByteArray} {gn cn gt ct : Nat} {xs : List Int} {tl : List ByteArray}
theorem SL.gn_ge (h : SL w1 W B0 q d A c B e O co out gn cn gt ct xs tl) : w1.heap.size ≤ gn ∧ gn < W.heap.size := h.on.ge gn rfl
theorem SL.gt_ge (h : SL w1 W B0 q d A c B e O co out gn cn gt ct xs tl) : w1.heap.size ≤ gt ∧ gt < W.heap.size := h.ot.ge gt rfl
theorem SL.ext (h : SL w1 W B0 q d A c B e O co out gn cn gt ct xs tl) (hb : Below W.heap.size W W') : SL w1 W' B0 q d A c B e O co out gn cn gt ct xs tl :=
 ⟨h.sx.ext hb, h.on.ext hb, h.ot.ext hb, h.ne, h.chg.trans (Chg.of_below hb _), h.lq, h.lA, h.lB, h.lO⟩
theorem SL.num (h : SL w1 W B0 q d A c B e O co out gn cn gt ct xs tl) {x : Int} {g cap : Nat} (hO : OI W' w1.heap.size (.slice (some ⟨g, 0, none⟩) (xs.length + 1) cap) (xs ++ [x])) (hc : Chg (BI (.slice (some ⟨gn, 0, none⟩) xs.length cn)) W W') (hg : BI (.slice (some ⟨gn, 0, none⟩) xs.length cn) g ∨ W.heap.size ≤ g) :
   SL w1 (W'.setCell ⟨q, 9, none⟩ (.slice (some ⟨g, 0, none⟩) (xs.length + 1) cap)) B0 q d A c B e O co out g cap gt ct (xs ++ [x]) tl := by
 have hgn := h.gn_ge
 have hgt := h.gt_ge
 have hlq := h.lq
 have hBI : ∀ j, BI (.slice (some ⟨gn, 0, none⟩) xs.length cn) j → gn = j := fun j hj => Option.some.inj hj
 have hge : w1.heap.size ≤ g := by rcases hg with hg | hg; (have := hBI g hg; omega); (omega)
 have hgne : g ≠ gt := by rcases hg with hg | hg; (have := hBI g hg; have := h.ne; omega); (omega)
 have h1 := h.sx.chg hc (fun hh => by have := hBI _ hh; omega) (fun k hk hh => by have := hBI _ hh; have := h.lA k hk; omega) (fun k hk hh => by have := hBI _ hh; have := h.lB k hk; omega) (fun k hk hh => by have := hBI _ hh; have := h.lO k hk; omega)
 have hs : Chg (fun k => k = q) W' (W'.setCell ⟨q, 9, none⟩ (.slice (some ⟨g, 0, none⟩) (xs.length + 1) cap)) := Chg.setCell (S := fun k => k = q) _ (p := ⟨q, 9, none⟩) rfl _
 have hlen : (xs ++ [x]).length = xs.length + 1 := by simp
 refine ⟨by rw [hlen]; exact h1.put9 _, by rw [hlen]; exact own_chg hO hs (fun k hk e2 => by obtain rfl : g = k := Option.some.inj hk; omega), (h.ot.chg hc (fun k hk hh => by obtain rfl : gt = k := Option.some.inj hk; have := hBI _ hh; have := h.ne; omega)).chg hs (fun k hk e2 => by obtain rfl : gt = k := Option.some.inj hk; omega), hgne, chg_more (chg_more h.chg hc (fun j hj => .inr (by have := hBI j hj; omega))) hs (fun j hj => .inl hj), h.lq, h.lA, h.lB, h.lO⟩
theorem SL.txt (h : SL w1 W B0 q d A c B e O co out gn cn gt ct xs tl) {x : ByteArray} {g cap : Nat} (hO : OStr W' w1.heap.size (.slice (some ⟨g, 0, none⟩) (tl.length + 1) cap) (tl ++ [x])) (hc : Chg (BI (.slice (some ⟨gt, 0, none⟩) tl.length ct)) W W') (hg : BI (.slice (some ⟨gt, 0, none⟩) tl.length ct) g ∨ W.heap.size ≤ g) :
   SL w1 (W'.setCell ⟨q, 10, none⟩ (.slice (some ⟨g, 0, none⟩) (tl.length + 1) cap)) B0 q d A c B e O co out gn cn g cap xs (tl ++ [x]) := by
 have hgn := h.gn_ge
 have hgt := h.gt_ge
 have hlq := h.lq
 have hBI : ∀ j, BI (.slice (some ⟨gt, 0, none⟩) tl.length ct) j → gt = j := fun j hj => Option.some.inj hj
 have hge : w1.heap.size ≤ g := by rcases hg with hg | hg; (have := hBI g hg; omega); (omega)
 have hgne : gn ≠ g := by rcases hg with hg | hg; (have := hBI g hg; have := h.ne; omega); (omega)
 have h1 := h.sx.chg hc (fun hh => by have := hBI _ hh; omega) (fun k hk hh => by have := hBI _ hh; have := h.lA k hk; omega) (fun k hk hh => by have := hBI _ hh; have := h.lB k hk; omega) (fun k hk hh => by have := hBI _ hh; have := h.lO k hk; omega)
 have hs : Chg (fun k => k = q) W' (W'.setCell ⟨q, 10, none⟩ (.slice (some ⟨g, 0, none⟩) (tl.length + 1) cap)) := Chg.setCell (S := fun k => k = q) _ (p := ⟨q, 10, none⟩) rfl _
 have hlen : (tl ++ [x]).length = tl.length + 1 := by simp
 refine ⟨by rw [hlen]; exact h1.put10 _, (own_chg h.on hc (fun k hk hh => by obtain rfl : gn = k := Option.some.inj hk; have := hBI _ hh; have := h.ne; omega) |> fun h2 => own_chg h2 hs (fun k hk e2 => by obtain rfl : gn = k := Option.some.inj hk; omega)), by rw [hlen]; exact hO.chg hs (fun k hk e2 => by obtain rfl : g = k := Option.some.inj hk; omega), hgne, chg_more (chg_more h.chg hc (fun j hj => .inr (by have := hBI j hj; omega))) hs (fun j hj => .inl hj), h.lq, h.lA, h.lB, h.lO⟩
end
def dS (D : Option (DK × List ByteArray)) (d : DK) : DK := match D with | some p => p.1 | none => d
def oS (D : Option (DK × List ByteArray)) : List ByteArray := match D with | some p => p.2 | none => []
def DoQ (W : World) (B0 q : Nat) (O : Option Addr) (n co : Nat) (d : DK) (out : List ByteArray) (D : Option (DK × List ByteArray)) : Ending → World → Prop := fun e' W' => ∃ N T, e' = .returned (.bool D.isSome) ∧ SP W B0 q O n co (dS D d) (out ++ oS D) N T W'
theorem go_dS {d : DK} {c : CM} {ws : List ByteArray} (h : okN c ws (cmF c).length = true) : (if (mExec d c ws).2.2 = 0 then (mExec d c ws).1 else d) = (mGo d c ws).1 ∧ (if (mExec d c ws).2.2 = 0 then (mExec d c ws).2.1 else [erT (mExec d c ws).2.2]) = (mGo d c ws).2 := by
 by_cases hx : (mExec d c ws).2.2 = 0
 · rw [mGo_ok h hx, if_pos hx, if_pos hx]; exact ⟨rfl, rfl⟩
 · rw [mGo_er h hx, if_neg hx, if_neg hx]; exact ⟨rfl, rfl⟩
set_option maxHeartbeats 6400000 in
theorem spec_do (w00 W : World) (hb0 : Below w00.heap.size w00 W) (hE : Env w00) (B0 q : Nat) (hq0 : w00.heap.size ≤ q) (d : DK) (A : Option Addr) (c : Nat) (B : Option Addr) (e : Nat) (O : Option Addr) (co : Nat) (out : List ByteArray) (N T : Value) (h : SX W B0 q d A c B e O co out N T) (line : ByteArray) (hs : line.size ≤ 1048576) (hl : out.length ≤ 1000000000) (hV : vDK d = true)
   (hBP : ∀ (a b : Int) (w : World), Calls Tryz.prog 128 #[.int .i64 a, .int .i64 b] w (Ret (.tuple #[.string (mPair a b).1, .string (mPair a b).2.1, .int .i64 (mPair a b).2.2]) w)) :
   Calls Tryz.prog 26 #[.pointer (some ⟨q, 0, none⟩), .string line] W (DoQ W B0 q O out.length co d out (mDo d line)) := by
 have HX := Lib.hid h
 have HV := Lib.hid hV
 have HBP := Lib.hid hBP
 have HB00 := Lib.hid hb0
 have HE := Lib.hid hE
 have HQ0 := Lib.hid hq0
 have HSP := Lib.hid (fun W => spec_Split line hs 32 32 rfl W)
 have HSZ := Lib.hid (fun (k : Nat) (hk : k < (spb 32 line).length) => Nat.le_trans (spb_sz hk) hs)
 have HPOS := Lib.hid (spb_pos 32 line)
 have HD1 := Lib.hid (fun h => mDo_none (d := d) (line := line) h)
 have HD2 := Lib.hid (fun c h h2 => mDo_len (d := d) (line := line) (c := c) h h2)
 have HD3 := Lib.hid (fun c h h2 => mDo_some (d := d) (line := line) (c := c) h h2)
 have hwz : (spb 32 line).length ≤ 1048577 := by have := spb_len 32 line; omega
 obtain ⟨ws, hws⟩ : ∃ x, spb 32 line = x := ⟨_, rfl⟩
 obtain ⟨D, hDD⟩ : ∃ x, mDo d line = x := ⟨_, rfl⟩
 rw [hws] at HSP HSZ HPOS HD1 HD2 HD3 hwz
 rw [hDD] at HD1 HD2 HD3
 rw [hDD]
 have hq := h.lt
 clear hws hDD h hs hV hBP hb0 hE hq0
 go_enter Tryz.func26, Tryz.ntmps26
 go_wp2_with fail
 refine (show Calls _ _ _ _ _ from HSP.out _).mono ?_
 rintro e' w1 ⟨Aw, cw, rfl, hO, hb⟩
 have HO := Lib.hid hO
 have HB1 := Lib.hid hb
 clear hO hb HSP
 obtain ⟨ad, rfl, hadlt, hc⟩ := HO.out.rd.at (k := 0) (by have := HPOS.out; omega)
 have w0 := hc 0 (by have := HPOS.out; omega)
 rw [Addr.add_zero'] at w0
 obtain ⟨x0, hx0⟩ : ∃ x, gd ws 0 = x := ⟨_, rfl⟩
 rw [hx0] at w0 HD1 HD2 HD3
 have HFM := Lib.hid (fun w => spec_Form x0 w)
 have i0n : 0 < ws.length := HPOS.out
 have i0 : (0 : Int) < ws.length := by omega
 clear hc hx0
 obtain ⟨fm, hfm⟩ : ∃ x, fmW x0 = x := ⟨_, rfl⟩
 rw [hfm] at HFM
 go_wp2_with fail
 refine (show Calls _ _ _ _ _ from HFM.out _).mono ?_
 rintro e' w1 ⟨rfl, rfl⟩
 have HX1 := Lib.hid (HX.out.ext HB1.out)
 clear HFM
 have hsz1 := HB1.out.size
 have hq1 : q < w1.heap.size := by omega
 have HADQ : Hid (ad.block ≠ q) := Lib.hid (by
   have := (HO.out.ge ad.block rfl).1
   omega)
 cases hcm : cmOf x0 with
 | none =>
   have hD := HD1.out hcm
   rw [fmW_none hcm] at hfm
   subst hD hfm
   clear hcm
   go_wp2_with fail
   go_ret
   exact ⟨N, T, rfl, by
     show SP W B0 q O out.length co d (out ++ []) N T w1
     rw [List.append_nil]
     exact ⟨A, c, B, e, O, co, HX1.out, Chg.of_below HB1.out _, fun j hj => .inl hj⟩⟩
 | some cm =>
   have hne : fm ≠ ⟨#[45]⟩ := by rw [← hfm, fmW_some hcm]; exact fmW_ne cm
   obtain ⟨pf, qf⟩ := lit_neC (x := fm) (l := [45]) hne
   obtain ⟨hz1, hz2⟩ := fmW_size cm
   rw [← fmW_some hcm, hfm] at hz1
   have HFB := Lib.hid (fmW_byte cm)
   rw [← fmW_some hcm, hfm] at HFB
   by_cases hl2 : ws.length = (cmF cm).length + 1
   · have hD := HD3.out cm hcm hl2
     have g1 : ((fm.size : Int) != (ws.length : Int) - 1) = false := by rw [hz1, hl2]; simp
     have HCM := Lib.hid (cmOf_some hcm)
     subst hD
     have HLEN := Lib.hid hl2
     obtain ⟨n, hn⟩ : ∃ x, (cmF cm).length = x := ⟨_, rfl⟩
     have HN := Lib.hid hn
     rw [hn] at hz1 hz2 HFB
     have HWL : Hid (ws.length = n + 1) := Lib.hid (by rw [HLEN.out, hn])
     have HFZ := Lib.hid hz1
     have k9 := HX1.out.k9
     have k10 := HX1.out.k10
     have kf := HX1.out.bx.fz
     have hqn : q ≠ w1.heap.size := by omega
     have hqm := hqn.symm
     clear hcm hl2 hne hfm hn HD1 HD2 HD3 hz1
     have HW0 := Lib.hid (fun W' (h : Chg (fun j => j = q) w1 W') => h.cell w0 HADQ.out)
     have HOW := Lib.hid (fun W' (h : Chg (fun j => j = q) w1 W') => (HO.out.chg h (fun k hk e2 => HADQ.out (by obtain rfl := Option.some.inj hk; exact e2))).rd)
     have HSL0 : Hid (SL w1 ((((w1.setCell ⟨q, 9, none⟩ (.slice (some ⟨w1.heap.size, 0, none⟩) 0 0)).setCell ⟨q, 10, none⟩ (.slice (some ⟨w1.heap.size + 1, 0, none⟩) 0 0)).alloc (.cells #[] 2)).alloc (.cells #[] 9)) B0 q d A c B e O co out w1.heap.size 0 (w1.heap.size + 1) 0 [] []) := Lib.hid (by
       have hcc : Chg (fun j => j = q) w1 ((w1.setCell ⟨q, 9, none⟩ (.slice (some ⟨w1.heap.size, 0, none⟩) 0 0)).setCell ⟨q, 10, none⟩ (.slice (some ⟨w1.heap.size + 1, 0, none⟩) 0 0)) := (Chg.setCell (S := fun j => j = q) _ (p := ⟨q, 9, none⟩) rfl _).trans (Chg.setCell (S := fun j => j = q) _ (p := ⟨q, 10, none⟩) rfl _)
       have hx2 := (HX1.out.put9 (.slice (some ⟨w1.heap.size, 0, none⟩) 0 0)).put10 (.slice (some ⟨w1.heap.size + 1, 0, none⟩) 0 0)
       obtain ⟨w2, hw2⟩ : ∃ x, (w1.setCell ⟨q, 9, none⟩ (.slice (some ⟨w1.heap.size, 0, none⟩) 0 0)).setCell ⟨q, 10, none⟩ (.slice (some ⟨w1.heap.size + 1, 0, none⟩) 0 0) = x := ⟨_, rfl⟩
       have hs2 : w2.heap.size = w1.heap.size := by rw [← hw2]; simp
       rw [hw2] at hcc hx2 ⊢
       have on := (oi_lit w2 w1.heap.size (by omega)).ext (ext_alloc1 (w2.alloc (.cells #[] 2)) (.cells #[] 9))
       have ot := ostr_lit (w2.alloc (.cells #[] 2)) w1.heap.size (by simp; omega)
       rw [hs2] at on
       rw [World.size_alloc, hs2] at ot
       exact ⟨hx2.ext (ext_alloc (ext_alloc1 _ _) _), on, ot, by omega, hcc.trans (Chg.of_below (ext_alloc (ext_alloc1 _ _) _) _), hq1, fun k hk => (HX1.out.bx.own.1.ge k hk).2, fun k hk => (HX1.out.bx.own.2.1.ge k hk).2, fun k hk => (HX1.out.own.ge k hk).2⟩)
     go_wp2_with fail
     obtain ⟨w3, hw3⟩ : ∃ x, (((w1.setCell ⟨q, 9, none⟩ (.slice (some ⟨w1.heap.size, 0, none⟩) 0 0)).setCell ⟨q, 10, none⟩ (.slice (some ⟨w1.heap.size + 1, 0, none⟩) 0 0)).alloc (.cells #[] 2)).alloc (.cells #[] 9) = x := ⟨_, rfl⟩
     rw [hw3] at HSL0
     rw [hw3]
     clear hw3 k9 k10 kf
     go_loopw [7, 8, 9] (fun i _ _ wr => ∃ (k gn cn gt ct : Nat) (xs : List Int) (tl : List ByteArray), k ≤ n ∧ i = .int .i64 k ∧ Hid (SL w1 wr B0 q d A c B e O co out gn cn gt ct xs tl) ∧ Hid (xs = nmL cm ws k) ∧ Hid (tl = txL cm ws k) ∧ Hid (okN cm ws k = true)) (fun i _ _ _ => n - (intOf i).toNat)
     case atStart => exact ⟨0, _, 0, _, 0, [], [], Nat.zero_le _, rfl, HSL0, Lib.hid rfl, Lib.hid rfl, Lib.hid rfl⟩
     case round =>
       obtain ⟨k, gn, cn, gt, ct, xs, tl, hk, rfl, HSL, HXS, HTS, HOK⟩ := hrel
       have e1 : (0 : Int) ≤ k := by omega
       have hqr : q < wr.heap.size := HSL.out.sx.lt
       have hqn : q ≠ wr.heap.size := by omega
       have hqm := hqn.symm
       have hgn := HSL.out.gn_ge
       have hgt := HSL.out.gt_ge
       have k9 := HSL.out.sx.k9
       have k10 := HSL.out.sx.k10
       have kf := HSL.out.sx.bx.fz
       have hxl := nmL_len cm ws k
       rw [← HXS.out] at hxl
       have htl := txL_len cm ws k
       rw [← HTS.out] at htl
       by_cases hlt : k < n
       · have hbk := HFB.out k hlt
         have e2 : (k : Int) < fm.size := by have := HFZ.out; omega
         have hks : k < fm.size := by have := HFZ.out; omega
         have hy := byt_eq fm k hks
         rw [hbk] at hy
         obtain ⟨ad2, hA, had, hd⟩ := (HOW.out wr HSL.out.chg).at (k := k + 1) (by have := HWL.out; omega)
         obtain rfl : ad = ad2 := Option.some.inj hA
         have hw := hd (k + 1) (by have := HWL.out; omega)
         rw [addr_succ] at hw
         have e3 : (0 : Int) ≤ (k : Int) + 1 := by omega
         have e14 : (k : Int) + 1 < ws.length := by have := HWL.out; omega
         have hsd := HSZ.out (k + 1) (by have := HWL.out; omega)
         obtain ⟨wd, hwd⟩ : ∃ x, gd ws (k + 1) = x := ⟨_, rfl⟩
         have HWD := Lib.hid hwd
         rw [hwd] at hw hsd
         have hadn : ad.block ≠ wr.heap.size := by omega
         have hadm := hadn.symm
         clear hwd hd hA
         cases hg : gd (cmF cm) k with
         | false =>
           rw [hg] at hy
           have hy2 : fm[k] = 120 := by
             have : fm[k].toNat = 120 := by have : (fm[k].toNat : Int) = 120 := hy; omega
             exact UInt8.toNat_inj.1 this
           have HXS2 : Hid (xs = nmL cm ws (k + 1)) := Lib.hid (by unfold nmL; rw [hg]; exact HXS.out)
           have HTS2 : Hid (tl ++ [wd] = txL cm ws (k + 1)) := Lib.hid (by rw [txL_no hg, HTS.out, ← HWD.out])
           have HOK2 : Hid (okN cm ws (k + 1) = true) := Lib.hid (by rw [okN_succ, HOK.out, hg]; rfl)
           have HNQ : Hid (¬ BI (.slice (some ⟨gt, 0, none⟩) tl.length ct) q) := Lib.hid (fun h => by have : gt = q := Option.some.inj h; have := HSL.out.lq; omega)
           have e5 : IntKind.i64.wrap ((k:Int) + 1) = (k:Int) + 1 := IntWalk.i64_in _ (by omega)
           have ka := fun o => cell_keep k10 (ext_alloc1 wr o)
           have wa := fun o => cell_keep hw (ext_alloc1 wr o)
           clear hg hbk
           go_wp2_with fail
           go_region_law ((refine step_append_rt (by rfl) _ _ (by rfl) w1.heap.size (.slice (some ⟨gt, 0, none⟩) tl.length ct) tl wd wr.heap.size (by rfl) (by rfl) (HSL.out.ot.ext (ext_drew (ext_alloc1 wr (.cells #[.string wd] 9)))) (by simp [go_sem]) (by omega) (by simp; omega) ?_; intro g cap w8 hO8 hc8 hg8 hlt8); (have q10 := hc8.cell (cell_keep k10 (ext_drew (ext_alloc1 wr (.cells #[.string wd] 9)))) HNQ.out); (have qf : ∀ j, w8.frozen? ⟨q, j, none⟩ = false := fun j => by rw [World.frozen?_of_block (hc8.block q (by simp; omega) HNQ.out)]; exact ((bcell (ext_drew (ext_alloc1 wr (.cells #[.string wd] 9)))).2 q j hqr).trans (kf j)); (have HO8 := Lib.hid hO8); (have HC8 := Lib.hid hc8); (have HG8 := Lib.hid (hg8.imp (fun h => h) (fun h => Nat.le_of_eq h.symm))); clear hO8 hc8 hg8 hlt8)
           all_goals
             go_wp2_with fail
             go_roundw
             case rel =>
               exact ⟨k + 1, gn, cn, g, cap, xs, tl ++ [wd], by omega, by go_num, Lib.hid ((HSL.out.ext (ext_drew (ext_alloc1 wr (.cells #[.string wd] 9)))).txt HO8.out HC8.out HG8.out), HXS2, HTS2, HOK2⟩
             case measure => simp [intOf]; omega
         | true =>
           rw [hg] at hy
           have hy2 : fm[k] ≠ 120 := fun e => by rw [e] at hy; exact absurd hy (by decide)
           have HNB := Lib.hid (fun w => spec_Number wd (by unfold maxLen; omega) w)
           have HXS2 : Hid (xs ++ [rdv wd] = nmL cm ws (k + 1)) := Lib.hid (by rw [nmL_yes hg, ← HXS.out, ← HWD.out]; rfl)
           have HTS2 : Hid (tl = txL cm ws (k + 1)) := Lib.hid (by unfold txL; rw [hg]; exact HTS.out)
           have HOK2 : Hid (okN cm ws (k + 1) = rdb wd) := Lib.hid (by rw [okN_succ, HOK.out, hg, HWD.out]; simp)
           have HNO : Hid (rdb wd = false → okN cm ws (cmF cm).length = false) := Lib.hid (fun h => okN_no (by rw [HN.out]; exact hlt) (by rw [hg, HWD.out, h]; rfl))
           clear hg hbk
           go_wp2_with fail
           refine (show Calls _ _ _ _ _ from HNB.out _).mono ?_
           rintro e' w6 ⟨rfl, hb6⟩
           obtain ⟨rv, hrv⟩ : ∃ x, rdv wd = x := ⟨_, rfl⟩
           obtain ⟨rb, hrb⟩ : ∃ x, rdb wd = x := ⟨_, rfl⟩
           rw [hrv] at HXS2
           rw [hrb] at HOK2 HNO
           rw [hrv, hrb]
           have HSL6 := Lib.hid (HSL.out.ext hb6)
           have HB6 := Lib.hid hb6
           clear hrv hrb hb6 hw k9 k10 kf hqr hqn hqm
           have hqr : q < w6.heap.size := HSL6.out.sx.lt
           have hqn : q ≠ w6.heap.size := by omega
           have hqm := hqn.symm
           have h6w : w1.heap.size ≤ w6.heap.size := HSL6.out.chg.size
           cases rb with
           | true =>
             have k9 := HSL6.out.sx.k9
             have kf := HSL6.out.sx.bx.fz 9
             have HNQ : Hid (¬ BI (.slice (some ⟨gn, 0, none⟩) xs.length cn) q) := Lib.hid (fun h => by have : gn = q := Option.some.inj h; have := HSL6.out.lq; omega)
             go_wp2_with (at_builtin; refine wpList_append_i3 rfl _ _ rfl w1.heap.size (.slice (some ⟨gn, 0, none⟩) xs.length cn) xs rv rfl rfl HSL6.out.on (by omega) h6w ?_; intro g2 cap w7 hO7 hg7 hlt7 hat7; (have q9 := hg7.cell k9 HNQ.out); (have qf : w7.frozen? ⟨q, 9, none⟩ = false := by rw [World.frozen?_of_block (hg7.block q hqr HNQ.out)]; exact kf))
             go_roundw
             case rel =>
               exact ⟨k + 1, g2, cap, gt, ct, xs ++ [rv], tl, by omega, by go_num, Lib.hid (HSL6.out.num hO7 hg7 hat7), HXS2, HTS2, HOK2⟩
             case measure => simp [intOf]; omega
           | false =>
             have HGO := Lib.hid (@mGo_no d cm ws (HNO.out rfl))
             have HRP := Lib.hid (spec_report1 w6 B0 q d A c B e O co out _ _ HSL6.out.sx 7 (by decide) (by decide) (by decide) (by omega))
             go_wp2_with fail
             refine (show Calls _ _ _ _ _ from HRP.out).mono ?_
             rintro e' w9 ⟨rfl, hp⟩
             have HP := Lib.hid (hp.of ((Chg.of_below HB1.out _).trans (HSL6.out.chg.mono fun k hk => Or.inl hk)) (fun j hj => Or.inl hj))
             clear hp
             go_wp2_with fail
             go_ret
             have hfin : SP W B0 q O out.length co (dS (some (mGo d cm ws)) d) (out ++ oS (some (mGo d cm ws))) (.slice (some ⟨gn, 0, none⟩) xs.length cn) (.slice (some ⟨gt, 0, none⟩) tl.length ct) w9 := by rw [HGO.out]; exact HP.out
             exact ⟨_, _, rfl, hfin⟩
       · obtain rfl : k = n := by omega
         have HOKn : Hid (okN cm ws (cmF cm).length = true) := Lib.hid (by rw [HN.out]; exact HOK.out)
         have HXSn : Hid (xs = nmL cm ws (cmF cm).length) := Lib.hid (by rw [HN.out]; exact HXS.out)
         have HTSn : Hid (tl = txL cm ws (cmF cm).length) := Lib.hid (by rw [HN.out]; exact HTS.out)
         have e2 : ¬ (k : Int) < fm.size := by have := HFZ.out; omega
         have w0r := HW0.out wr HSL.out.chg
         have HSX := Lib.hid HSL.out.sx
         have HNL := Lib.hid HSL.out.on
         have HTL := Lib.hid HSL.out.ot
         have HGT : Hid (gt ≠ q) := Lib.hid (by have := HSL.out.lq; omega)
         have HTZ : Hid (∀ j, j < tl.length → (gd tl j).size ≤ 1048576) := Lib.hid (fun j hj => by
           rw [HTSn.out] at hj ⊢
           exact txL_sz (HSZ.out) _ (by rw [HLEN.out]; omega) _ (gd_mem hj))
         have HBWR : Hid (Below w00.heap.size w00 wr) := Lib.hid (Chg.ext (Chg.ext HB00.out (Chg.of_below HB1.out (fun _ => False)) (fun _ h => h.elim)) HSL.out.chg (fun k hk => by subst hk; exact HQ0.out))
         have HDO : Hid (∀ N' T' W9, SP wr B0 q O out.length co (if (mExec d cm ws).2.2 = 0 then (mExec d cm ws).1 else d) (out ++ if (mExec d cm ws).2.2 = 0 then (mExec d cm ws).2.1 else [erT (mExec d cm ws).2.2]) N' T' W9 → SP W B0 q O out.length co (dS (some (mGo d cm ws)) d) (out ++ oS (some (mGo d cm ws))) N' T' W9) := Lib.hid (fun N' T' W9 hp => by
           obtain ⟨h1, h2⟩ := go_dS (d := d) HOKn.out
           rw [h1, h2] at hp
           exact hp.of ((Chg.of_below HB1.out _).trans (HSL.out.chg.mono fun k hk => Or.inl hk)) (fun j hj => Or.inl hj))
         clear HFB HFZ HLEN HN HWL hz2 HOK HXS HTS HSZ HOW HW0 HSL0 k9 k10 kf hxl htl HSL w0
         cases cm with
         | bond =>
           have HX0 : Hid (x0 = ⟨#[98, 111, 110, 100]⟩) := Lib.hid HCM.out
           have he : x0.toList = [98, 111, 110, 100] := by rw [HX0.out, ByteArray.toList_eq]
           have HNE : Hid (xs = nmL .bond ws 1) := Lib.hid HXSn.out
           have HTE : Hid (tl = txL .bond ws 1) := Lib.hid HTSn.out
           have HCALL : Hid (Calls Tryz.prog 59 #[.pointer (some ⟨q, 0, none⟩)] wr (SQ wr B0 q O out.length co d out (mExec d .bond ws) (.slice (some ⟨gn, 0, none⟩) xs.length cn) (.slice (some ⟨gt, 0, none⟩) tl.length ct))) := Lib.hid (by
             have h := spec_ex_bond wr B0 q d A c B e O co out _ _ ct tl HSX.out HTL.out.rd (by rw [HTE.out]; exact (by decide : 0 < 1)) hl HV.out
             rw [show gd tl 0 = gd ws 1 from by rw [HTE.out]; rfl] at h
             exact h)
           clear HXSn HTSn HCM
           go_wp2_with fail
           refine (show Calls _ _ _ _ _ from HCALL.out).mono ?_
           rintro e' w9 ⟨rfl, hp⟩
           have HP := Lib.hid (HDO.out _ _ _ hp)
           clear hp HCALL
           go_wp2_with fail
           go_ret
           exact ⟨_, _, rfl, HP.out⟩
         | check =>
           have HX0 : Hid (x0 = ⟨#[99, 104, 101, 99, 107]⟩) := Lib.hid HCM.out
           obtain ⟨p0, q0⟩ := lit_neC (x := x0) (l := [98, 111, 110, 100]) (by rw [HX0.out]; decide)
           have he : x0.toList = [99, 104, 101, 99, 107] := by rw [HX0.out, ByteArray.toList_eq]
           have HNE : Hid (xs = nmL .check ws 1) := Lib.hid HXSn.out
           have HTE : Hid (tl = txL .check ws 1) := Lib.hid HTSn.out
           have HCALL : Hid (Calls Tryz.prog 60 #[.pointer (some ⟨q, 0, none⟩)] wr (SQ wr B0 q O out.length co d out (mExec d .check ws) (.slice (some ⟨gn, 0, none⟩) xs.length cn) (.slice (some ⟨gt, 0, none⟩) tl.length ct))) := Lib.hid (by
             have h := spec_ex_check wr B0 q d A c B e O co out _ _ cn xs HSX.out HNL.out.rd (by rw [HNE.out]; exact (by decide : 0 < 1)) hl HV.out
             rw [show gi xs 0 = num1 ws 1 from by rw [HNE.out]; rfl] at h
             exact h)
           clear HXSn HTSn HCM
           go_wp2_with fail
           refine (show Calls _ _ _ _ _ from HCALL.out).mono ?_
           rintro e' w9 ⟨rfl, hp⟩
           have HP := Lib.hid (HDO.out _ _ _ hp)
           clear hp HCALL
           go_wp2_with fail
           go_ret
           exact ⟨_, _, rfl, HP.out⟩
         | count =>
           have HX0 : Hid (x0 = ⟨#[99, 111, 117, 110, 116]⟩) := Lib.hid HCM.out
           obtain ⟨p0, q0⟩ := lit_neC (x := x0) (l := [98, 111, 110, 100]) (by rw [HX0.out]; decide)
           obtain ⟨p1, q1⟩ := lit_neC (x := x0) (l := [99, 104, 101, 99, 107]) (by rw [HX0.out]; decide)
           have he : x0.toList = [99, 111, 117, 110, 116] := by rw [HX0.out, ByteArray.toList_eq]
           have HNE : Hid (xs = nmL .count ws 0) := Lib.hid HXSn.out
           have HTE : Hid (tl = txL .count ws 0) := Lib.hid HTSn.out
           have HCALL : Hid (Calls Tryz.prog 61 #[.pointer (some ⟨q, 0, none⟩)] wr (SQ wr B0 q O out.length co d out (mExec d .count ws) (.slice (some ⟨gn, 0, none⟩) xs.length cn) (.slice (some ⟨gt, 0, none⟩) tl.length ct))) := Lib.hid (by
             have h := spec_ex_count wr B0 q d A c B e O co out _ _ HSX.out hl HV.out
             exact h)
           clear HXSn HTSn HCM
           go_wp2_with fail
           refine (show Calls _ _ _ _ _ from HCALL.out).mono ?_
           rintro e' w9 ⟨rfl, hp⟩
           have HP := Lib.hid (HDO.out _ _ _ hp)
           clear hp HCALL
           go_wp2_with fail
           go_ret
           exact ⟨_, _, rfl, HP.out⟩
         | enter =>
           have HX0 : Hid (x0 = ⟨#[101, 110, 116, 101, 114]⟩) := Lib.hid HCM.out
           obtain ⟨p0, q0⟩ := lit_neC (x := x0) (l := [98, 111, 110, 100]) (by rw [HX0.out]; decide)
           obtain ⟨p1, q1⟩ := lit_neC (x := x0) (l := [99, 104, 101, 99, 107]) (by rw [HX0.out]; decide)
           obtain ⟨p2, q2⟩ := lit_neC (x := x0) (l := [99, 111, 117, 110, 116]) (by rw [HX0.out]; decide)
           have he : x0.toList = [101, 110, 116, 101, 114] := by rw [HX0.out, ByteArray.toList_eq]
           have HNE : Hid (xs = nmL .enter ws 3) := Lib.hid HXSn.out
           have HTE : Hid (tl = txL .enter ws 3) := Lib.hid HTSn.out
           have HCALL : Hid (Calls Tryz.prog 62 #[.pointer (some ⟨q, 0, none⟩)] wr (SQ wr B0 q O out.length co d out (mExec d .enter ws) (.slice (some ⟨gn, 0, none⟩) xs.length cn) (.slice (some ⟨gt, 0, none⟩) tl.length ct))) := Lib.hid (by
             have h := spec_ex_enter w00 wr HBWR.out HE.out B0 q HQ0.out d A c B e O co out _ cn xs _ ct tl HSX.out HNL.out.rd (by rw [HNE.out]; exact (by decide : 1 < 2)) HTL.out.rd (by rw [HTE.out]; exact (by decide : 0 < 1)) (fun ad h e => HGT.out (by obtain rfl := Option.some.inj h; exact e)) (HTZ.out 0 (by rw [HTE.out]; exact (by decide : 0 < 1))) hl HV.out
             rw [show gi xs 0 = num1 ws 1 from by rw [HNE.out]; rfl] at h
             rw [show gi xs 1 = num1 ws 3 from by rw [HNE.out]; rfl] at h
             rw [show gd tl 0 = gd ws 2 from by rw [HTE.out]; rfl] at h
             exact h)
           clear HXSn HTSn HCM
           go_wp2_with fail
           refine (show Calls _ _ _ _ _ from HCALL.out).mono ?_
           rintro e' w9 ⟨rfl, hp⟩
           have HP := Lib.hid (HDO.out _ _ _ hp)
           clear hp HCALL
           go_wp2_with fail
           go_ret
           exact ⟨_, _, rfl, HP.out⟩
         | format =>
           have HX0 : Hid (x0 = ⟨#[102, 111, 114, 109, 97, 116]⟩) := Lib.hid HCM.out
           obtain ⟨p0, q0⟩ := lit_neC (x := x0) (l := [98, 111, 110, 100]) (by rw [HX0.out]; decide)
           obtain ⟨p1, q1⟩ := lit_neC (x := x0) (l := [99, 104, 101, 99, 107]) (by rw [HX0.out]; decide)
           obtain ⟨p2, q2⟩ := lit_neC (x := x0) (l := [99, 111, 117, 110, 116]) (by rw [HX0.out]; decide)
           obtain ⟨p3, q3⟩ := lit_neC (x := x0) (l := [101, 110, 116, 101, 114]) (by rw [HX0.out]; decide)
           have he : x0.toList = [102, 111, 114, 109, 97, 116] := by rw [HX0.out, ByteArray.toList_eq]
           have HNE : Hid (xs = nmL .format ws 1) := Lib.hid HXSn.out
           have HTE : Hid (tl = txL .format ws 1) := Lib.hid HTSn.out
           have HCALL : Hid (Calls Tryz.prog 63 #[.pointer (some ⟨q, 0, none⟩)] wr (SQ wr B0 q O out.length co d out (mExec d .format ws) (.slice (some ⟨gn, 0, none⟩) xs.length cn) (.slice (some ⟨gt, 0, none⟩) tl.length ct))) := Lib.hid (by
             have h := spec_ex_format wr B0 q d A c B e O co out _ _ ct tl HSX.out HTL.out.rd (by rw [HTE.out]; exact (by decide : 0 < 1)) (HTZ.out 0 (by rw [HTE.out]; exact (by decide : 0 < 1))) hl
             rw [show gd tl 0 = gd ws 1 from by rw [HTE.out]; rfl] at h
             exact h)
           clear HXSn HTSn HCM
           go_wp2_with fail
           refine (show Calls _ _ _ _ _ from HCALL.out).mono ?_
           rintro e' w9 ⟨rfl, hp⟩
           have HP := Lib.hid (HDO.out _ _ _ hp)
           clear hp HCALL
           go_wp2_with fail
           go_ret
           exact ⟨_, _, rfl, HP.out⟩
         | height =>
           have HX0 : Hid (x0 = ⟨#[104, 101, 105, 103, 104, 116]⟩) := Lib.hid HCM.out
           obtain ⟨p0, q0⟩ := lit_neC (x := x0) (l := [98, 111, 110, 100]) (by rw [HX0.out]; decide)
           obtain ⟨p1, q1⟩ := lit_neC (x := x0) (l := [99, 104, 101, 99, 107]) (by rw [HX0.out]; decide)
           obtain ⟨p2, q2⟩ := lit_neC (x := x0) (l := [99, 111, 117, 110, 116]) (by rw [HX0.out]; decide)
           obtain ⟨p3, q3⟩ := lit_neC (x := x0) (l := [101, 110, 116, 101, 114]) (by rw [HX0.out]; decide)
           obtain ⟨p4, q4⟩ := lit_neC (x := x0) (l := [102, 111, 114, 109, 97, 116]) (by rw [HX0.out]; decide)
           have he : x0.toList = [104, 101, 105, 103, 104, 116] := by rw [HX0.out, ByteArray.toList_eq]
           have HNE : Hid (xs = nmL .height ws 1) := Lib.hid HXSn.out
           have HTE : Hid (tl = txL .height ws 1) := Lib.hid HTSn.out
           have HCALL : Hid (Calls Tryz.prog 64 #[.pointer (some ⟨q, 0, none⟩)] wr (SQ wr B0 q O out.length co d out (mExec d .height ws) (.slice (some ⟨gn, 0, none⟩) xs.length cn) (.slice (some ⟨gt, 0, none⟩) tl.length ct))) := Lib.hid (by
             have h := spec_ex_height wr B0 q d A c B e O co out _ _ cn xs HSX.out HNL.out.rd (by rw [HNE.out]; exact (by decide : 0 < 1)) hl
             rw [show gi xs 0 = num1 ws 1 from by rw [HNE.out]; rfl] at h
             exact h)
           clear HXSn HTSn HCM
           go_wp2_with fail
           refine (show Calls _ _ _ _ _ from HCALL.out).mono ?_
           rintro e' w9 ⟨rfl, hp⟩
           have HP := Lib.hid (HDO.out _ _ _ hp)
           clear hp HCALL
           go_wp2_with fail
           go_ret
           exact ⟨_, _, rfl, HP.out⟩
         | length =>
           have HX0 : Hid (x0 = ⟨#[108, 101, 110, 103, 116, 104]⟩) := Lib.hid HCM.out
           obtain ⟨p0, q0⟩ := lit_neC (x := x0) (l := [98, 111, 110, 100]) (by rw [HX0.out]; decide)
           obtain ⟨p1, q1⟩ := lit_neC (x := x0) (l := [99, 104, 101, 99, 107]) (by rw [HX0.out]; decide)
           obtain ⟨p2, q2⟩ := lit_neC (x := x0) (l := [99, 111, 117, 110, 116]) (by rw [HX0.out]; decide)
           obtain ⟨p3, q3⟩ := lit_neC (x := x0) (l := [101, 110, 116, 101, 114]) (by rw [HX0.out]; decide)
           obtain ⟨p4, q4⟩ := lit_neC (x := x0) (l := [102, 111, 114, 109, 97, 116]) (by rw [HX0.out]; decide)
           obtain ⟨p5, q5⟩ := lit_neC (x := x0) (l := [104, 101, 105, 103, 104, 116]) (by rw [HX0.out]; decide)
           have he : x0.toList = [108, 101, 110, 103, 116, 104] := by rw [HX0.out, ByteArray.toList_eq]
           have HNE : Hid (xs = nmL .length ws 1) := Lib.hid HXSn.out
           have HTE : Hid (tl = txL .length ws 1) := Lib.hid HTSn.out
           have HCALL : Hid (Calls Tryz.prog 65 #[.pointer (some ⟨q, 0, none⟩)] wr (SQ wr B0 q O out.length co d out (mExec d .length ws) (.slice (some ⟨gn, 0, none⟩) xs.length cn) (.slice (some ⟨gt, 0, none⟩) tl.length ct))) := Lib.hid (by
             have h := spec_ex_length wr B0 q d A c B e O co out _ _ cn xs HSX.out HNL.out.rd (by rw [HNE.out]; exact (by decide : 0 < 1)) hl
             rw [show gi xs 0 = num1 ws 1 from by rw [HNE.out]; rfl] at h
             exact h)
           clear HXSn HTSn HCM
           go_wp2_with fail
           refine (show Calls _ _ _ _ _ from HCALL.out).mono ?_
           rintro e' w9 ⟨rfl, hp⟩
           have HP := Lib.hid (HDO.out _ _ _ hp)
           clear hp HCALL
           go_wp2_with fail
           go_ret
           exact ⟨_, _, rfl, HP.out⟩
         | log =>
           have HX0 : Hid (x0 = ⟨#[108, 111, 103]⟩) := Lib.hid HCM.out
           obtain ⟨p0, q0⟩ := lit_neC (x := x0) (l := [98, 111, 110, 100]) (by rw [HX0.out]; decide)
           obtain ⟨p1, q1⟩ := lit_neC (x := x0) (l := [99, 104, 101, 99, 107]) (by rw [HX0.out]; decide)
           obtain ⟨p2, q2⟩ := lit_neC (x := x0) (l := [99, 111, 117, 110, 116]) (by rw [HX0.out]; decide)
           obtain ⟨p3, q3⟩ := lit_neC (x := x0) (l := [101, 110, 116, 101, 114]) (by rw [HX0.out]; decide)
           obtain ⟨p4, q4⟩ := lit_neC (x := x0) (l := [102, 111, 114, 109, 97, 116]) (by rw [HX0.out]; decide)
           obtain ⟨p5, q5⟩ := lit_neC (x := x0) (l := [104, 101, 105, 103, 104, 116]) (by rw [HX0.out]; decide)
           obtain ⟨p6, q6⟩ := lit_neC (x := x0) (l := [108, 101, 110, 103, 116, 104]) (by rw [HX0.out]; decide)
           have he : x0.toList = [108, 111, 103] := by rw [HX0.out, ByteArray.toList_eq]
           have HNE : Hid (xs = nmL .log ws 0) := Lib.hid HXSn.out
           have HTE : Hid (tl = txL .log ws 0) := Lib.hid HTSn.out
           have HCALL : Hid (Calls Tryz.prog 66 #[.pointer (some ⟨q, 0, none⟩)] wr (SQ wr B0 q O out.length co d out (mExec d .log ws) (.slice (some ⟨gn, 0, none⟩) xs.length cn) (.slice (some ⟨gt, 0, none⟩) tl.length ct))) := Lib.hid (by
             have h := spec_ex_log wr B0 q d A c B e O co out _ _ HSX.out hl HV.out
             exact h)
           clear HXSn HTSn HCM
           go_wp2_with fail
           refine (show Calls _ _ _ _ _ from HCALL.out).mono ?_
           rintro e' w9 ⟨rfl, hp⟩
           have HP := Lib.hid (HDO.out _ _ _ hp)
           clear hp HCALL
           go_wp2_with fail
           go_ret
           exact ⟨_, _, rfl, HP.out⟩
         | pair =>
           have HX0 : Hid (x0 = ⟨#[112, 97, 105, 114]⟩) := Lib.hid HCM.out
           obtain ⟨p0, q0⟩ := lit_neC (x := x0) (l := [98, 111, 110, 100]) (by rw [HX0.out]; decide)
           obtain ⟨p1, q1⟩ := lit_neC (x := x0) (l := [99, 104, 101, 99, 107]) (by rw [HX0.out]; decide)
           obtain ⟨p2, q2⟩ := lit_neC (x := x0) (l := [99, 111, 117, 110, 116]) (by rw [HX0.out]; decide)
           obtain ⟨p3, q3⟩ := lit_neC (x := x0) (l := [101, 110, 116, 101, 114]) (by rw [HX0.out]; decide)
           obtain ⟨p4, q4⟩ := lit_neC (x := x0) (l := [102, 111, 114, 109, 97, 116]) (by rw [HX0.out]; decide)
           obtain ⟨p5, q5⟩ := lit_neC (x := x0) (l := [104, 101, 105, 103, 104, 116]) (by rw [HX0.out]; decide)
           obtain ⟨p6, q6⟩ := lit_neC (x := x0) (l := [108, 101, 110, 103, 116, 104]) (by rw [HX0.out]; decide)
           obtain ⟨p7, q7⟩ := lit_neC (x := x0) (l := [108, 111, 103]) (by rw [HX0.out]; decide)
           have he : x0.toList = [112, 97, 105, 114] := by rw [HX0.out, ByteArray.toList_eq]
           have HNE : Hid (xs = nmL .pair ws 2) := Lib.hid HXSn.out
           have HTE : Hid (tl = txL .pair ws 2) := Lib.hid HTSn.out
           have HCALL : Hid (Calls Tryz.prog 67 #[.pointer (some ⟨q, 0, none⟩)] wr (SQ wr B0 q O out.length co d out (mExec d .pair ws) (.slice (some ⟨gn, 0, none⟩) xs.length cn) (.slice (some ⟨gt, 0, none⟩) tl.length ct))) := Lib.hid (by
             have h := spec_ex_pair wr B0 q d A c B e O co out _ _ cn xs HSX.out HNL.out.rd (by rw [HNE.out]; exact (by decide : 1 < 2)) hl HBP.out
             rw [show gi xs 0 = num1 ws 1 from by rw [HNE.out]; rfl] at h
             rw [show gi xs 1 = num1 ws 2 from by rw [HNE.out]; rfl] at h
             exact h)
           clear HXSn HTSn HCM
           go_wp2_with fail
           refine (show Calls _ _ _ _ _ from HCALL.out).mono ?_
           rintro e' w9 ⟨rfl, hp⟩
           have HP := Lib.hid (HDO.out _ _ _ hp)
           clear hp HCALL
           go_wp2_with fail
           go_ret
           exact ⟨_, _, rfl, HP.out⟩
         | show_ =>
           have HX0 : Hid (x0 = ⟨#[115, 104, 111, 119]⟩) := Lib.hid HCM.out
           obtain ⟨p0, q0⟩ := lit_neC (x := x0) (l := [98, 111, 110, 100]) (by rw [HX0.out]; decide)
           obtain ⟨p1, q1⟩ := lit_neC (x := x0) (l := [99, 104, 101, 99, 107]) (by rw [HX0.out]; decide)
           obtain ⟨p2, q2⟩ := lit_neC (x := x0) (l := [99, 111, 117, 110, 116]) (by rw [HX0.out]; decide)
           obtain ⟨p3, q3⟩ := lit_neC (x := x0) (l := [101, 110, 116, 101, 114]) (by rw [HX0.out]; decide)
           obtain ⟨p4, q4⟩ := lit_neC (x := x0) (l := [102, 111, 114, 109, 97, 116]) (by rw [HX0.out]; decide)
           obtain ⟨p5, q5⟩ := lit_neC (x := x0) (l := [104, 101, 105, 103, 104, 116]) (by rw [HX0.out]; decide)
           obtain ⟨p6, q6⟩ := lit_neC (x := x0) (l := [108, 101, 110, 103, 116, 104]) (by rw [HX0.out]; decide)
           obtain ⟨p7, q7⟩ := lit_neC (x := x0) (l := [108, 111, 103]) (by rw [HX0.out]; decide)
           obtain ⟨p8, q8⟩ := lit_neC (x := x0) (l := [112, 97, 105, 114]) (by rw [HX0.out]; decide)
           have he : x0.toList = [115, 104, 111, 119] := by rw [HX0.out, ByteArray.toList_eq]
           have HNE : Hid (xs = nmL .show_ ws 0) := Lib.hid HXSn.out
           have HTE : Hid (tl = txL .show_ ws 0) := Lib.hid HTSn.out
           have HCALL : Hid (Calls Tryz.prog 68 #[.pointer (some ⟨q, 0, none⟩)] wr (SQ wr B0 q O out.length co d out (mExec d .show_ ws) (.slice (some ⟨gn, 0, none⟩) xs.length cn) (.slice (some ⟨gt, 0, none⟩) tl.length ct))) := Lib.hid (by
             have h := spec_ex_show wr B0 q d A c B e O co out _ _ HSX.out hl HV.out
             exact h)
           clear HXSn HTSn HCM
           go_wp2_with fail
           refine (show Calls _ _ _ _ _ from HCALL.out).mono ?_
           rintro e' w9 ⟨rfl, hp⟩
           have HP := Lib.hid (HDO.out _ _ _ hp)
           clear hp HCALL
           go_wp2_with fail
           go_ret
           exact ⟨_, _, rfl, HP.out⟩
         | wall =>
           have HX0 : Hid (x0 = ⟨#[119, 97, 108, 108]⟩) := Lib.hid HCM.out
           obtain ⟨p0, q0⟩ := lit_neC (x := x0) (l := [98, 111, 110, 100]) (by rw [HX0.out]; decide)
           obtain ⟨p1, q1⟩ := lit_neC (x := x0) (l := [99, 104, 101, 99, 107]) (by rw [HX0.out]; decide)
           obtain ⟨p2, q2⟩ := lit_neC (x := x0) (l := [99, 111, 117, 110, 116]) (by rw [HX0.out]; decide)
           obtain ⟨p3, q3⟩ := lit_neC (x := x0) (l := [101, 110, 116, 101, 114]) (by rw [HX0.out]; decide)
           obtain ⟨p4, q4⟩ := lit_neC (x := x0) (l := [102, 111, 114, 109, 97, 116]) (by rw [HX0.out]; decide)
           obtain ⟨p5, q5⟩ := lit_neC (x := x0) (l := [104, 101, 105, 103, 104, 116]) (by rw [HX0.out]; decide)
           obtain ⟨p6, q6⟩ := lit_neC (x := x0) (l := [108, 101, 110, 103, 116, 104]) (by rw [HX0.out]; decide)
           obtain ⟨p7, q7⟩ := lit_neC (x := x0) (l := [108, 111, 103]) (by rw [HX0.out]; decide)
           obtain ⟨p8, q8⟩ := lit_neC (x := x0) (l := [112, 97, 105, 114]) (by rw [HX0.out]; decide)
           obtain ⟨p9, q9⟩ := lit_neC (x := x0) (l := [115, 104, 111, 119]) (by rw [HX0.out]; decide)
           have HNE : Hid (xs = nmL .wall ws 2) := Lib.hid HXSn.out
           have HTE : Hid (tl = txL .wall ws 2) := Lib.hid HTSn.out
           have HCALL : Hid (Calls Tryz.prog 69 #[.pointer (some ⟨q, 0, none⟩)] wr (SQ wr B0 q O out.length co d out (mExec d .wall ws) (.slice (some ⟨gn, 0, none⟩) xs.length cn) (.slice (some ⟨gt, 0, none⟩) tl.length ct))) := Lib.hid (by
             have h := spec_ex_wall wr B0 q d A c B e O co out _ _ cn xs HSX.out HNL.out.rd (by rw [HNE.out]; exact (by decide : 1 < 2)) hl HV.out
             rw [show gi xs 0 = num1 ws 1 from by rw [HNE.out]; rfl] at h
             rw [show gi xs 1 = num1 ws 2 from by rw [HNE.out]; rfl] at h
             exact h)
           clear HXSn HTSn HCM
           go_wp2_with fail
           refine (show Calls _ _ _ _ _ from HCALL.out).mono ?_
           rintro e' w9 ⟨rfl, hp⟩
           have HP := Lib.hid (HDO.out _ _ _ hp)
           clear hp HCALL
           go_wp2_with fail
           go_ret
           exact ⟨_, _, rfl, HP.out⟩
   · have hD := HD2.out cm hcm hl2
     have g1 : ((fm.size : Int) != (ws.length : Int) - 1) = true := by rw [hz1]; simp; omega
     subst hD
     clear hcm hl2 hne hfm hz1 hz2 HFB
     go_wp2_with fail
     go_ret
     exact ⟨N, T, rfl, by
       show SP W B0 q O out.length co d (out ++ []) N T w1
       rw [List.append_nil]
       exact ⟨A, c, B, e, O, co, HX1.out, Chg.of_below HB1.out _, fun j hj => .inl hj⟩⟩
end Go.Proofs.YtfgopboddkhckaaGreatDoor
