/-
  Parts of the proof: Base, Ints, Flat, Mtx, Regrown, Row.
-/
import Derived.Test.YtfgopboddkhckaaGreatDoorRows
import Derived.WalkKit
import Derived.WalkSpells
import Derived.WalkLawsBesides
import Derived.ProofKit
import Derived.OpenShut
import Derived.Below
import Derived.Laws.OwnMore
import Derived.Deep.AppendLies
import Derived.Deep.Draws
import Derived.Deep.QuietTactic
import Derived.BigQuiet
import Derived.Outline
import Derived.Lib.Hide
import Derived.LoopTactic
import Derived.Lib.QuietBelow
import Derived.Deep.Slices
import Derived.Deep.Fields
import Derived.Carry
import Derived.Laws.IdiomStrings
import Derived.Lib.SmallJoins
import Derived.WideKeyArgs
import Derived.Handed
import Derived.ChangeAt
namespace Go.Proofs.YtfgopboddkhckaaGreatDoor
open Go.ChangeShapes Go.WideShapes Go.ChangeAt Go.RowKit Go.Sort
def Ret (v : Value) (w : World) : Ending → World → Prop := fun e w' => e = .returned v ∧ Below w.heap.size w w'
def RetP (v : Value) (w : World) : Ending → World → Prop := fun e w' => e = .returned v ∧ w = w'
theorem ext_trans {w w1 w2 : World} (h : Below w.heap.size w w1) (k : Below w1.heap.size w1 w2) : Below w.heap.size w w2 := h.trans (k.mono h.size)
theorem ext_drewN {w w1 : World} (h : Below w.heap.size w w1) (n : Nat) : Below w.heap.size w (w1.drewN n) := ⟨h.os, h.tape, h.output, h.size, h.block⟩
theorem ext_drew {w w1 : World} (h : Below w.heap.size w w1) : Below w.heap.size w w1.drew := ⟨h.os, h.tape, h.output, h.size, h.block⟩
theorem ext_refl (w : World) : Below w.heap.size w w := Below.refl _ _
theorem ext_alloc {w w1 : World} (h : Below w.heap.size w w1) (o : Obj) : Below w.heap.size w (w1.alloc o) := h.alloc h.size o
theorem ext_set {w w1 : World} (h : Below w.heap.size w w1) {p : Addr} (hp : w.heap.size ≤ p.block) (u : Value) : Below w.heap.size w (w1.setCell p u) := h.setCell hp u
theorem ext_alloc1 (w : World) (o : Obj) : Below w.heap.size w (w.alloc o) := ext_alloc (ext_refl w) o
theorem block_of_add (a : Addr) (n : Nat) : (a.add n).block = a.block := by unfold Addr.add; split <;> rfl
theorem add_of_add (a : Addr) (i j : Nat) : (a.add i).add j = a.add (i + j) := by
 unfold Addr.add
 by_cases hi : i = 0 <;> by_cases hj : j = 0 <;> simp [hi, hj, Nat.add_assoc]
def Rd (w : World) (size : Nat) (v : Value) (n : Nat) (xs : List Value) : Prop :=
 xs.length = n * size ∧ ∃ A c, v = .slice A n c ∧ n ≤ c ∧ c ≤ maxLen ∧ (0 < n → ∃ ad, A = some ad ∧ ad.block < w.heap.size ∧ ∀ j u, xs[j]? = some u → w.cell? (ad.add j) = some u)
theorem Rd.ext {w w' : World} {size n : Nat} {v : Value} {xs : List Value} (h : Rd w size v n xs) (hb : Below w.heap.size w w') : Rd w' size v n xs := by
 obtain ⟨h1, A, c, rfl, h2, h3, h4⟩ := h
 refine ⟨h1, A, c, rfl, h2, h3, fun hn => ?_⟩
 obtain ⟨ad, rfl, hlt, hc⟩ := h4 hn
 exact ⟨ad, rfl, Nat.lt_of_lt_of_le hlt hb.size, fun j u hu => by rw [hb.cell (by rw [block_of_add]; exact hlt)]; exact hc j u hu⟩
theorem Rd.drewN {w : World} {size n : Nat} {v : Value} {xs : List Value} (h : Rd w size v n xs) (k : Nat) : Rd (w.drewN k) size v n xs := h.ext (ext_drewN (ext_refl w) k)
theorem Rd.alloc {w : World} {size n : Nat} {v : Value} {xs : List Value} (h : Rd w size v n xs) (o : Obj) : Rd (w.alloc o) size v n xs := h.ext (ext_alloc1 w o)
def RI (w : World) (v : Value) (xs : List Int) : Prop := Rd w 1 v xs.length (xs.map (Value.int .i64))
theorem RI.ext {w w' : World} {v : Value} {xs : List Int} (h : RI w v xs) (hb : Below w.heap.size w w') : RI w' v xs := Rd.ext h hb
theorem RI.drewN {w : World} {v : Value} {xs : List Int} (h : RI w v xs) (k : Nat) : RI (w.drewN k) v xs := Rd.drewN h k
theorem RI.alloc {w : World} {v : Value} {xs : List Int} (h : RI w v xs) (o : Obj) : RI (w.alloc o) v xs := Rd.alloc h o
theorem RI.open_ {w : World} {v : Value} {xs : List Int} (h : RI w v xs) : ∃ A c, v = .slice A xs.length c ∧ xs.length ≤ c ∧ c ≤ maxLen ∧
   ∀ k, k < xs.length → ∃ ad, A = some ad ∧ ad.block < w.heap.size ∧ ∀ j, j < xs.length → w.cell? (ad.add j) = some (.int .i64 (xs.getD j 0)) := by
 obtain ⟨_, A, c, rfl, h2, h3, h4⟩ := h
 refine ⟨A, c, rfl, h2, h3, fun k hk => ?_⟩
 obtain ⟨ad, rfl, hlt, hc⟩ := h4 (by omega)
 exact ⟨ad, rfl, hlt, fun j hj => hc j _ (by simp [List.getD_eq_getElem?_getD, List.getElem?_eq_getElem hj])⟩
def OI (w : World) (base : Nat) (v : Value) (xs : List Int) : Prop := w.ownsRow base 2 1 v xs.length (xs.map (Value.int .i64))
theorem OI.rd {w : World} {base : Nat} {v : Value} {xs : List Int} (h : OI w base v xs) : RI w v xs := by
 obtain ⟨h1, h2⟩ := h
 refine ⟨h1, ?_⟩
 rcases h2 with ⟨rfl, h0⟩ | ⟨g, cap, cur, rfl, hg, hh, hn, hm, hs, ht⟩
 · exact ⟨none, 0, by rw [h0], by omega, by simp [maxLen], fun h => by omega⟩
 · refine ⟨some ⟨g, 0, none⟩, cap, rfl, hn, hm, fun h0 => ⟨_, rfl, ?_, fun j u hu => ?_⟩⟩
   · rcases Nat.lt_or_ge g w.heap.size with hlt | hge
     · exact hlt
     · rw [Array.getElem?_eq_none hge] at hh; cases hh
   · have := World.ownsRow.cells (w := w) (base := base) (e := 2) (size := 1) (v := .slice (some ⟨g, 0, none⟩) xs.length cap) (n := xs.length) ⟨h1, .inr ⟨g, cap, cur, rfl, hg, hh, hn, hm, hs, ht⟩⟩ (g := g) rfl
     exact this j u hu
theorem own_ext {w w' : World} {base : Nat} {e : TypeId} {size : Nat} {v : Value} {n : Nat} {xs : List Value} (h : w.ownsRow base e size v n xs) (hb : Below w.heap.size w w') : w'.ownsRow base e size v n xs :=
 ⟨h.1, h.2.imp id fun ⟨g, cap, cur, hv, hg, hh, r⟩ => ⟨g, cap, cur, hv, hg, by
   rw [hb.block g (by rcases Nat.lt_or_ge g w.heap.size with hlt | hge; exact hlt; rw [Array.getElem?_eq_none hge] at hh; cases hh)]; exact hh, r⟩⟩
theorem OI.ext {w w' : World} {base : Nat} {v : Value} {xs : List Int} (h : OI w base v xs) (hb : Below w.heap.size w w') : OI w' base v xs := own_ext h hb
theorem own_mono {w : World} {base base' : Nat} {e : TypeId} {size : Nat} {v : Value} {n : Nat} {xs : List Value} (h : w.ownsRow base e size v n xs) (hb : base' ≤ base) : w.ownsRow base' e size v n xs :=
 ⟨h.1, h.2.imp id fun ⟨g, cap, cur, hv, hg, r⟩ => ⟨g, cap, cur, hv, by omega, r⟩⟩
theorem OI.mono {w : World} {base base' : Nat} {v : Value} {xs : List Int} (h : OI w base v xs) (hb : base' ≤ base) : OI w base' v xs := own_mono h hb
theorem ret_int {k : IntKind} {a b : Int} (h : a = b) : Ending.returned (.int k a) = .returned (.int k b) := by rw [h]
theorem ret_bool {a b : Bool} (h : a = b) : Ending.returned (.bool a) = .returned (.bool b) := by rw [h]
theorem take_succ_getD {xs : List Int} {k : Nat} (hk : k < xs.length) : xs.take (k + 1) = xs.take k ++ [xs.getD k 0] := by
 rw [List.take_succ_eq_append_getElem hk, List.getD_eq_getElem?_getD, List.getElem?_eq_getElem hk]; rfl
theorem str_ne {s t : ByteArray} (h : s ≠ t) : (s.toList == t.toList) = false := by
 rw [ByteArray.toList_eq, ByteArray.toList_eq, beq_eq_false_iff_ne]
 exact fun e => h (WideShapes.bytes_inj e)
theorem bcell {W w1 : World} (hb : Below W.heap.size W w1) : (∀ b o, b < W.heap.size → w1.cell? ⟨b, o, none⟩ = W.cell? ⟨b, o, none⟩) ∧ (∀ b o, b < W.heap.size → w1.frozen? ⟨b, o, none⟩ = W.frozen? ⟨b, o, none⟩) :=
 ⟨fun b o h => hb.cell (p := ⟨b, o, none⟩) h, fun b o h => hb.frozen (p := ⟨b, o, none⟩) h⟩
theorem cell_keep {w w' : World} {p : Addr} {v : Value} (h : w.cell? p = some v) (hb : Below w.heap.size w w') : w'.cell? p = some v := by
 rw [hb.cell (block_lt_of_cell h)]; exact h
structure Chg (S : Nat → Prop) (w w' : World) : Prop where
 os : w'.os = w.os
 tape : w'.tape = w.tape
 output : w'.output = w.output
 size : w.heap.size ≤ w'.heap.size
 block : ∀ k, k < w.heap.size → ¬ S k → w'.heap[k]? = w.heap[k]?
theorem Chg.below {S : Nat → Prop} {w w' : World} (h : Chg S w w') {B : Nat} (hB : B ≤ w.heap.size) (hS : ∀ k, S k → B ≤ k) : Below B w w' :=
 ⟨h.os, h.tape, h.output, h.size, fun k hk => h.block k (by omega) (fun hs => by have := hS k hs; omega)⟩
theorem Chg.ext {S : Nat → Prop} {w0 w w' : World} (h0 : Below w0.heap.size w0 w) (h : Chg S w w') (hS : ∀ k, S k → w0.heap.size ≤ k) : Below w0.heap.size w0 w' :=
 h0.trans (h.below h0.size hS)
theorem Chg.cell {S : Nat → Prop} {w w' : World} (h : Chg S w w') {p : Addr} {v : Value} (hc : w.cell? p = some v) (hp : ¬ S p.block) : w'.cell? p = some v := by
 rw [World.cell?_of_block (w := w) (h.block p.block (block_lt_of_cell hc) hp)]; exact hc
theorem Chg.of_grown {w w' : World} {row : Option Nat} (h : w.grownBy w' row) : Chg (fun k => row = some k) w w' :=
 ⟨h.os, h.tape, h.output, h.size, fun k hk hn => h.block k hk (fun e => hn e.symm)⟩
theorem Chg.of_below {w w' : World} (h : Below w.heap.size w w') (S : Nat → Prop) : Chg S w w' := ⟨h.os, h.tape, h.output, h.size, fun k hk _ => h.block k hk⟩
theorem Chg.trans {S : Nat → Prop} {a b c : World} (h : Chg S a b) (k : Chg S b c) : Chg S a c :=
 ⟨k.os.trans h.os, k.tape.trans h.tape, k.output.trans h.output, Nat.le_trans h.size k.size, fun i hi hn => (k.block i (Nat.lt_of_lt_of_le hi h.size) hn).trans (h.block i hi hn)⟩
theorem Chg.mono {S S' : Nat → Prop} {a b : World} (h : Chg S a b) (hs : ∀ k, S k → S' k) : Chg S' a b := ⟨h.os, h.tape, h.output, h.size, fun i hi hn => h.block i hi (fun x => hn (hs i x))⟩
theorem own_chg {S : Nat → Prop} {w w' : World} {base : Nat} {e : TypeId} {size : Nat} {v : Value} {n : Nat} {xs : List Value} (h : w.ownsRow base e size v n xs) (hb : Chg S w w') (hS : ∀ k, v.ownBlock = some k → ¬ S k) : w'.ownsRow base e size v n xs :=
 ⟨h.1, h.2.imp id fun ⟨g, cap, cur, hv, hg, hh, r⟩ => ⟨g, cap, cur, hv, hg, by
   rw [hb.block g (by rcases Nat.lt_or_ge g w.heap.size with hlt | hge; exact hlt; rw [Array.getElem?_eq_none hge] at hh; cases hh) (hS g (by rw [hv]; rfl))]; exact hh, r⟩⟩
theorem OI.chg {S : Nat → Prop} {w w' : World} {base : Nat} {v : Value} {xs : List Int} (h : OI w base v xs) (hb : Chg S w w') (hS : ∀ k, v.ownBlock = some k → ¬ S k) : OI w' base v xs := own_chg h hb hS
theorem OI.ge {w : World} {base : Nat} {v : Value} {xs : List Int} (h : OI w base v xs) : ∀ k, v.ownBlock = some k → base ≤ k ∧ k < w.heap.size := World.ownsRow.lt h
theorem RetP.ret {v : Value} {w : World} {f : FuncId} {args : Array Value} {P : Program} (h : Calls P f args w (RetP v w)) : Calls P f args w (Ret v w) :=
 h.mono fun _ _ ⟨h1, h2⟩ => ⟨h1, by subst h2; exact ext_refl _⟩
def gi (xs : List Int) (k : Nat) : Int := xs.getD k 0
theorem RI.open2 {w : World} {v : Value} {xs : List Int} (h : RI w v xs) : ∃ A c, v = .slice A xs.length c ∧ xs.length ≤ c ∧ c ≤ maxLen ∧
   ∀ k, k < xs.length → ∃ ad, A = some ad ∧ ad.block < w.heap.size ∧ ∀ j, j < xs.length → w.cell? (ad.add j) = some (.int .i64 (gi xs j)) := h.open_
theorem RI.at2 {w : World} {A : Option Addr} {n c : Nat} {xs : List Int} (h : RI w (.slice A n c) xs) {k : Nat} (hk : k < xs.length) : ∃ ad, A = some ad ∧ ad.block < w.heap.size ∧ ∀ j, j < xs.length → w.cell? (ad.add j) = some (.int .i64 (gi xs j)) := by
 obtain ⟨A', c', hv, _, _, h'⟩ := h.open2
 injection hv with h1 h2 h3
 subst h1
 exact h' k hk
def szN (left : Int) (n : Nat) : Int := if left < n then -1 else left - n
theorem szN_le (left : Int) (n : Nat) (h : left ≤ 1048576) : szN left n ≤ 1048576 ∧ -1 ≤ szN left n := by unfold szN; split <;> omega
theorem info_int : (Tryz.prog.info? 2).map (fun i => (i.zero, i.size, i.bytes)) = some (some (.int .i64 0), 1, 8) := by kernel_rfl
def BI (v : Value) : Nat → Prop := fun k => v.ownBlock = some k
theorem szN_ok {l : Int} {n : Nat} (h : 0 ≤ szN l n) : (n : Int) ≤ l ∧ szN l n = l - n := by
 unfold szN at h ⊢
 split at h
 · omega
 · rename_i hh; rw [if_neg hh]; omega
theorem szN_pos {l : Int} {n : Nat} (h : 0 ≤ szN l n) : 0 ≤ l := by have := szN_ok h; omega
def SmI (xs : List Int) : Prop := xs.length ≤ 1048576
section
variable {α : Type} [Inhabited α]
def gd (l : List α) (k : Nat) : α := l.getD k default
theorem gd_eq {l : List α} {k : Nat} (h : k < l.length) : gd l k = l[k] := by unfold gd; rw [List.getD_eq_getElem?_getD, List.getElem?_eq_getElem h]; rfl
theorem take_gd {l : List α} {k : Nat} (hk : k < l.length) : l.take (k + 1) = l.take k ++ [gd l k] := by
 rw [List.take_succ_eq_append_getElem hk, gd_eq hk]
theorem gd_mem {l : List α} {k : Nat} (h : k < l.length) : gd l k ∈ l := by rw [gd_eq h]; exact List.getElem_mem h
variable (c : α → List Value) (s : Nat) (hs : ∀ a, (c a).length = s)
include hs
omit [Inhabited α] in
theorem flat_len (l : List α) : (l.flatMap c).length = l.length * s := by
 induction l with
 | nil => simp
 | cons a t ih => rw [List.flatMap_cons, List.length_append, hs, ih, List.length_cons, Nat.succ_mul]; omega
theorem flat_get (l : List α) : ∀ {k j : Nat}, k < l.length → j < s → (l.flatMap c)[k * s + j]? = (c (gd l k))[j]? := by
 induction l with
 | nil => intro k j hk; simp at hk
 | cons a t ih =>
   intro k j hk hj
   rw [List.flatMap_cons]
   cases k with
   | zero => rw [Nat.zero_mul, Nat.zero_add, List.getElem?_append_left (by rw [hs]; exact hj)]; rfl
   | succ k =>
     rw [List.length_cons] at hk
     rw [List.getElem?_append_right (by rw [hs, Nat.succ_mul]; omega), hs, show (k + 1) * s + j - s = k * s + j from by rw [Nat.succ_mul]; omega, ih (by omega) hj]
     rfl
omit hs in
def cf (l : List α) (j : Nat) : Value := (c (gd l (j / s))).getD (j % s) undef
theorem flat_idx (h0 : 0 < s) (l : List α) : l.flatMap c = (List.range (l.length * s)).map (cf c s l) := by
 apply List.ext_getElem?
 intro j
 by_cases hj : j < l.length * s
 · have h1 : j / s < l.length := (Nat.div_lt_iff_lt_mul h0).2 hj
   have h2 : j % s < s := Nat.mod_lt _ h0
   have h3 : j / s * s + j % s = j := by rw [Nat.mul_comm]; exact Nat.div_add_mod j s
   have h4 := flat_get c s hs l h1 h2
   rw [h3] at h4
   rw [h4, List.getElem?_eq_getElem (by rw [hs]; exact h2)]
   simp only [List.getElem?_map, List.getElem?_range hj, Option.map_some, cf]
   rw [List.getD_eq_getElem?_getD, List.getElem?_eq_getElem (by rw [hs]; exact h2)]
   rfl
 · rw [List.getElem?_eq_none (by rw [flat_len c s hs]; omega), List.getElem?_eq_none (by simp; omega)]
omit hs in
theorem cf_at {l : List α} {k i : Nat} (hi : i < s) : cf c s l (k * s + i) = (c (gd l k)).getD i undef := by
 unfold cf
 rw [show (k * s + i) / s = k from by rw [Nat.add_comm, Nat.add_mul_div_right _ _ (by omega), Nat.div_eq_of_lt hi, Nat.zero_add], show (k * s + i) % s = i from by rw [Nat.add_comm, Nat.add_mul_mod_self_right, Nat.mod_eq_of_lt hi]]
end
theorem addr_succ (a : Addr) (n : Nat) : a.add (n + 1) = ⟨a.block, a.off + (n + 1), none⟩ := by simp [Addr.add]
def ORow (w : World) (base : Nat) (e : TypeId) (size : Nat) (v : Value) (n : Nat) (F : Nat → Value) : Prop := w.ownsRow base e size v n ((List.range (n * size)).map F)
section
variable {w : World} {base : Nat} {e : TypeId} {size : Nat} {v : Value} {n : Nat} {F G : Nat → Value} {g cap : Nat}
theorem ORow.congr (h : ORow w base e size v n F) (he : ∀ j, j < n * size → F j = G j) : ORow w base e size v n G := by
 unfold ORow at h ⊢
 rw [show (List.range (n * size)).map G = (List.range (n * size)).map F from List.map_congr_left fun j hj => (he j (by simpa using hj)).symm]
 exact h
theorem set_range (N j : Nat) (u : Value) : ((List.range N).map F).set j u = (List.range N).map (fun i => if i = j then u else F i) := by
 apply List.ext_getElem?
 intro i
 rw [List.getElem?_set]
 by_cases hij : j = i
 · subst hij
   by_cases hj : j < N <;> simp [hj]
 · rw [if_neg hij]
   by_cases hi : i < N
   · simp [List.getElem?_range hi, show ¬ i = j from fun h => hij h.symm]
   · rw [List.getElem?_eq_none (by simp; omega), List.getElem?_eq_none (by simp; omega)]
theorem ORow.set (h : ORow w base e size (.slice (some ⟨g, 0, none⟩) n cap) n F) (j : Nat) (u : Value) : ORow (w.setCell ⟨g, j, none⟩ u) base e size (.slice (some ⟨g, 0, none⟩) n cap) n (fun i => if i = j then u else F i) := by
 have := (World.ownsRow.stored h j u).1
 rw [set_range] at this
 exact this
theorem ORow.cell (h : ORow w base e size (.slice (some ⟨g, 0, none⟩) n cap) n F) {j : Nat} (hj : j < n * size) : w.cell? ⟨g, j, none⟩ = some (F j) := by
 rw [World.ownsRow.cellAt h j hj]; simp [hj]
theorem ORow.frozen (h : ORow w base e size (.slice (some ⟨g, 0, none⟩) n cap) n F) (j : Nat) : w.frozen? ⟨g, j, none⟩ = false := World.ownsRow.frozenAt h j
theorem ORow.ext {w' : World} (h : ORow w base e size v n F) (hb : Below w.heap.size w w') : ORow w' base e size v n F := own_ext h hb
end
theorem Rd.at {α : Type} [Inhabited α] {c : α → List Value} {s : Nat} (hs : ∀ a, (c a).length = s) {w : World} {A : Option Addr} {n cp : Nat} {l : List α} (h : Rd w s (.slice A n cp) l.length (l.flatMap c)) {k : Nat} (hk : k < l.length) :
   ∃ ad, A = some ad ∧ ad.block < w.heap.size ∧ ∀ k, k < l.length → ∀ j, j < s → w.cell? (ad.add (k * s + j)) = (c (gd l k))[j]? := by
 obtain ⟨h1, A', c', hv, h2, h3, h4⟩ := h
 injection hv with e1 e2 e3
 subst e1
 obtain ⟨ad, hA, hlt, hc⟩ := h4 (by omega)
 refine ⟨ad, hA, hlt, fun k hk j hj => ?_⟩
 have h5 := flat_get c s hs l hk hj
 have h6 : j < (c (gd l k)).length := by rw [hs]; exact hj
 rw [List.getElem?_eq_getElem h6] at h5 ⊢
 exact hc _ _ h5
theorem own_rd {w : World} {base : Nat} {e : TypeId} {s : Nat} {v : Value} {n : Nat} {xs : List Value} (h : w.ownsRow base e s v n xs) : Rd w s v n xs := by
 obtain ⟨h1, h2⟩ := h
 refine ⟨h1, ?_⟩
 rcases h2 with ⟨rfl, h0⟩ | ⟨g, cap, cur, rfl, hg, hh, hn, hm, hsz, ht⟩
 · exact ⟨none, 0, by rw [h0], by omega, by simp [maxLen], fun h => by omega⟩
 · refine ⟨some ⟨g, 0, none⟩, cap, rfl, hn, hm, fun h0 => ⟨_, rfl, ?_, fun j u hu => ?_⟩⟩
   · rcases Nat.lt_or_ge g w.heap.size with hlt | hge
     · exact hlt
     · rw [Array.getElem?_eq_none hge] at hh; cases hh
   · exact World.ownsRow.cells (w := w) (base := base) (e := e) (size := s) (v := .slice (some ⟨g, 0, none⟩) n cap) (n := n) ⟨h1, .inr ⟨g, cap, cur, rfl, hg, hh, hn, hm, hsz, ht⟩⟩ (g := g) rfl j u hu
theorem ORow.of {w : World} {base : Nat} {e : TypeId} {size : Nat} {v : Value} {n : Nat} {xs : List Value} (h : w.ownsRow base e size v n xs) : ORow w base e size v n (fun j => xs.getD j undef) := by
 unfold ORow
 have hl := h.1
 rw [show (List.range (n * size)).map (fun j => xs.getD j undef) = xs from ?_]
 · exact h
 · apply List.ext_getElem?
   intro i
   by_cases hi : i < n * size
   · simp only [List.getElem?_map, List.getElem?_range hi, Option.map_some, List.getD_eq_getElem?_getD]
     rw [List.getElem?_eq_getElem (by omega)]
     rfl
   · rw [List.getElem?_eq_none (by simp; omega), List.getElem?_eq_none (by omega)]
theorem ORow.flat {α : Type} [Inhabited α] {c : α → List Value} {s : Nat} (hs : ∀ a, (c a).length = s) (h0 : 0 < s) {w : World} {base : Nat} {e : TypeId} {v : Value} {l : List α} {F : Nat → Value} (h : ORow w base e s v l.length F)
   (hF : ∀ j, j < l.length * s → F j = cf c s l j) : w.ownsRow base e s v l.length (l.flatMap c) := by
 rw [flat_idx c s hs h0]
 exact ORow.congr h hF
theorem Chg.setCell {S : Nat → Prop} (w : World) {p : Addr} (h : S p.block) (u : Value) : Chg S w (w.setCell p u) :=
 ⟨rfl, rfl, rfl, by simp, fun k _ hn => heap_setCell_other _ _ _ _ (fun e => hn (e ▸ h))⟩
theorem rd_open {α : Type} [Inhabited α] {c : α → List Value} {s : Nat} (hs : ∀ a, (c a).length = s) (h0 : 0 < s) {w : World} {a : Addr} {len cap : Nat} (hl : len ≤ cap) (hm : cap ≤ maxLen) (f : Nat → α)
   (h : ∀ i, i < len → ∀ j, j < s → w.cell? ((a.add (i * s)).add j) = (c (f i))[j]?) : Rd w s (.slice (some a) len cap) ((List.range len).map f).length (((List.range len).map f).flatMap c) := by
 have hL : ((List.range len).map f).length = len := by simp
 refine ⟨flat_len c s hs _, some a, cap, by rw [hL], by rw [hL]; exact hl, hm, fun hn => ⟨a, rfl, ?_, fun j u hu => ?_⟩⟩
 · rw [hL] at hn
   have h1 := h 0 hn 0 h0
   rw [List.getElem?_eq_getElem (by rw [hs]; exact h0)] at h1
   have := block_lt_of_cell h1
   rwa [block_of_add, block_of_add] at this
 · have hj : j < len * s := by
     rcases Nat.lt_or_ge j (len * s) with h1 | h1
     · exact h1
     · rw [List.getElem?_eq_none (by rw [flat_len c s hs, hL]; exact h1)] at hu; cases hu
   have h1 : j / s < len := (Nat.div_lt_iff_lt_mul h0).2 hj
   have h2 : j % s < s := Nat.mod_lt _ h0
   have h3 : j / s * s + j % s = j := by rw [Nat.mul_comm]; exact Nat.div_add_mod j s
   have h4 := flat_get c s hs ((List.range len).map f) (k := j / s) (j := j % s) (by rw [hL]; exact h1) h2
   rw [h3, hu, gd_eq (by rw [hL]; exact h1)] at h4
   have h5 := h (j / s) h1 (j % s) h2
   rw [add_of_add, h3] at h5
   rw [h5, h4]
   simp
end Go.Proofs.YtfgopboddkhckaaGreatDoor
namespace Go.Proofs.YtfgopboddkhckaaGreatDoor
open Go.ChangeShapes Go.WideShapes Go.ChangeAt Go.RowKit Go.Sort
set_option linter.unusedVariables false
set_option maxRecDepth 8000
def mdig : Nat → Nat → List UInt8 → List UInt8
 | 0, _, out => out
 | f + 1, k, out => if k = 0 then out else mdig f (k / 10) (UInt8.ofNat (48 + k % 10) :: out)
def mtx (k : Int) : ByteArray := if k ≤ 0 then ⟨#[109, 48]⟩ else ⟨#[109]⟩ ++ ⟨(mdig 20 k.toNat []).toArray⟩
theorem conv_lit (w : World) (x : UInt8) : (convert 47 9 (.slice (some ⟨w.heap.size, 0, none⟩) 1 1)).run Tryz.prog (w.alloc (.cells #[.int .u8 (x.toNat : Int)] 5)) = .ok (.string ⟨#[x]⟩) (w.alloc (.cells #[.int .u8 (x.toNat : Int)] 5)) :=
 run_convert_bytes_back _ _ _ _ ⟨w.heap.size, 0, none⟩ 1 [x] Tryz.underlying47 Tryz.underlying5 Tryz.underlying9 (fun j hj => by
   have : j = 0 := by simp at hj; omega
   subst this
   simp [Addr.add, go_sem])
theorem cat_one (x : UInt8) (l : List UInt8) : (⟨#[x]⟩ : ByteArray) ++ ⟨l.toArray⟩ = ⟨(x :: l).toArray⟩ := by
 apply ByteArray.ext
 simp [ByteArray.data_append]
set_option maxHeartbeats 800000 in
theorem mark_text (j : Int) (hj0 : 0 ≤ j) (hj : j ≤ 1099511627776 * 16) (w : World) :
   Calls Tryz.prog 48 #[.int .i64 j] w (Ret (.string (mtx j)) w) := by
 obtain ⟨n, rfl⟩ := Int.eq_ofNat_of_zero_le hj0
 by_cases h0 : n = 0
 · subst h0
   go_enter Tryz.func48, Tryz.ntmps48
   go_wp2_with fail
   go_ret
   exact ⟨rfl, ext_refl _⟩
 · have e0 : ¬ (n : Int) ≤ 0 := by omega
   have HM : Hid (mtx n = ⟨#[109]⟩ ++ ⟨(mdig 20 n []).toArray⟩) := Lib.hid (by unfold mtx; rw [if_neg e0]; rfl)
   go_enter Tryz.func48, Tryz.ntmps48
   go_wp2_with fail
   go_loopw [0, 3] (fun i o wr => ∃ (f k : Nat) (l : List UInt8), i = .int .i64 k ∧ o = .string ⟨l.toArray⟩ ∧ l.length + f = 20 ∧ k ≤ n ∧ k < 10 ^ f ∧ Hid (mdig f k l = mdig 20 n []) ∧ Below w.heap.size w wr) (fun i _ _ => (intOf i).toNat)
   case atStart => exact ⟨20, n, [], rfl, rfl, rfl, Nat.le_refl _, by omega, rfl, ext_refl _⟩
   case round =>
     obtain ⟨f, k, l, rfl, rfl, hlf, hkn, hkf, HD, hbw⟩ := hrel
     have hsz : (⟨l.toArray⟩ : ByteArray).size = l.length := by simp [ByteArray.size]
     have hsz1 : (⟨#[109]⟩ : ByteArray).size = 1 := rfl
     by_cases hk : k = 0
     · subst hk
       have e1 : ¬ (0:Int) < ((0:Nat):Int) := by omega
       have HX : Hid (mdig 20 n [] = l) := Lib.hid (by rw [← HD.out]; cases f <;> rfl)
       have hcat : ¬ 9223372036854775807 < (⟨#[109]⟩ : ByteArray).size + (⟨l.toArray⟩ : ByteArray).size := by rw [hsz, hsz1]; omega
       clear hsz hsz1
       go_wp2_with fail
       go_ret
       exact ⟨by rw [HM.out, HX.out]; rfl, hbw⟩
     · have e1 : (0:Int) < k := by omega
       obtain ⟨g, rfl⟩ : ∃ g, f = g + 1 := ⟨f - 1, by
         rcases Nat.eq_zero_or_pos f with h | h
         · subst h; simp at hkf; omega
         · omega⟩
       have HD1 : Hid (mdig g (k / 10) (UInt8.ofNat (48 + k % 10) :: l) = mdig 20 n []) := Lib.hid (by have := HD.out; rwa [mdig, if_neg hk] at this)
       have hkg : k / 10 < 10 ^ g := by rw [Nat.pow_succ] at hkf; omega
       have hx : ((UInt8.ofNat (48 + k % 10)).toNat : Int) = 48 + (k:Int) % 10 := by
         have : k % 10 < 10 := Nat.mod_lt _ (by omega)
         rw [UInt8.toNat_ofNat_of_lt' (by show 48 + k % 10 < 256; omega)]
         omega
       obtain ⟨x, hxx⟩ : ∃ x, UInt8.ofNat (48 + k % 10) = x := ⟨_, rfl⟩
       rw [hxx] at hx HD1
       clear hxx
       have hcv := conv_lit wr x
       rw [hx] at hcv
       have hcat : ¬ 9223372036854775807 < (⟨#[x]⟩ : ByteArray).size + (⟨l.toArray⟩ : ByteArray).size := by rw [hsz]; show ¬ 9223372036854775807 < 1 + l.length; omega
       have hw : wrap64 ((k:Int) / 10) = (k:Int) / 10 := by unfold wrap64; omega
       have HC := Lib.hid (cat_one (x) l)
       clear hsz hsz1 hx
       go_wp2_with fail
       go_roundw
       case rel => exact ⟨g, k / 10, x :: l, by go_num, by rw [HC.out], by rw [List.length_cons]; omega, by omega, hkg, HD1.out, ext_alloc hbw _⟩
       case measure => simp [intOf]; omega
end Go.Proofs.YtfgopboddkhckaaGreatDoor
namespace Go.Proofs.YtfgopboddkhckaaGreatDoor
open Go.ChangeShapes Go.WideShapes Go.ChangeAt Go.RowKit Go.Sort
theorem regrown_p {P : Program} {f : FuncId} {args : Array Value} {w : World} {d : Nat} {os : Array Obj} {v : Value} (h : Calls P f args (grow (redrawn w d) os) (RetP v (grow (redrawn w d) os))) :
   Calls P f args (grow (redrawn w d) os) fun e w'' => e = .returned v ∧ ∃ p : Regrown, w'' = grow (redrawn w p.d) p.os := Calls.regrown_of (RetP.ret h)
theorem regrown_r {P : Program} {f : FuncId} {args : Array Value} {w : World} {d : Nat} {os : Array Obj} {v : Value} (h : Calls P f args (grow (redrawn w d) os) (Ret v (grow (redrawn w d) os))) :
   Calls P f args (grow (redrawn w d) os) fun e w'' => e = .returned v ∧ ∃ p : Regrown, w'' = grow (redrawn w p.d) p.os := Calls.regrown_of h
theorem Ret.bool {P : Program} {f : FuncId} {args : Array Value} {w : World} {b c : Bool} (h : Calls P f args w (Ret (.bool b) w)) (e : b = c) : Calls P f args w (Ret (.bool c) w) := e ▸ h
end Go.Proofs.YtfgopboddkhckaaGreatDoor
namespace Go.Proofs.YtfgopboddkhckaaGreatDoor
open Go.ChangeShapes Go.WideShapes Go.ChangeAt Go.RowKit Go.Sort Go.Joins
theorem own_knob : ownKnob Tryz.prog.godebug = none := by kernel_rfl
theorem laid_out : laidOutB Tryz.prog = true := by kernel_rfl
theorem trodAll_stays {H : Type} {enc : TypeId × Value → H} {W W' : World} {sp : Nat → Bool} (hb : Below W.heap.size W W') :
   ∀ (ts : List TypeId) (vs : List Value) (ds : List (DataW H)) (ps : List MemPlace), (∀ t ∈ ts, Tryz.prog.readableRec t = true ∧ t < Tryz.prog.types.size) →
     DataW.TrodAll enc Tryz.prog W 0 (fun _ => true) true ts vs ds ps → (∀ p ∈ ps, p.block < W.heap.size) → (∀ p ∈ ps, sp p.block = true) →
     DataW.TrodAll enc Tryz.prog W' 0 sp true ts vs ds ps
 | [], [], [], _, _, h, _, _ => h
 | t :: ts, v :: vs, d :: ds, ps, hr, h, hlt, hsp => by
   obtain ⟨p, q, h1, h2, rfl⟩ := h
   have hp := hr t (by simp)
   exact ⟨p, q, WideElems.Trod_stays laid_out hp.1 hp.2 h1 (fun x hx => hb.same (hlt x (by simp [hx]))) (fun x hx => hsp x (by simp [hx])),
     trodAll_stays hb ts vs ds q (fun t ht => hr t (by simp [ht])) h2 (fun x hx => hlt x (by simp [hx])) (fun x hx => hsp x (by simp [hx])), rfl⟩
 | [], _ :: _, _, _, _, h, _, _ => h.elim
 | [], [], _ :: _, _, _, h, _, _ => h.elim
 | _ :: _, [], _, _, _, h, _, _ => h.elim
 | _ :: _, _ :: _, [], _, _, h, _, _ => h.elim
section
variable {H : Type} {enc : TypeId × Value → H} {P : Program}
theorem post_of_below {f : Func} {s : ChangeSpec} {apart fresh handsOn again : Bool} {W W' : World} {args : Array Value} {v : Value} {ds gs : List (DataW H)} {before pa pv : List MemPlace}
   (hW : DataW.Whole enc P f.params.toList s.vars apart W args.toList ds gs before)
   (hres : ∀ (b : Nat) (sp : Nat → Bool) (hd : Bool), DataW.TrodAll enc P W' b sp hd f.resultTypes.toList (v.resultList f.resultTypes.size) (s.fn H (ds ++ gs)).results [])
   (hargs : ∀ sp : Nat → Bool, (∀ p ∈ before, sp p.block = true) → DataW.TrodAll enc P W' 0 sp true f.params.toList args.toList (s.fn H (ds ++ gs)).args pa)
   (hvars : ∀ sp : Nat → Bool, (∀ p ∈ before, sp p.block = true) → DataW.TrodVars enc P W' sp s.vars (s.fn H (ds ++ gs)).vars pv)
   (hps : before = pa ++ pv) (hb : Below W.heap.size W W')
   (hok : ∀ (j : Nat) (t : TypeId) (r : Value), f.resultTypes[j]? = some t → (v.resultList f.resultTypes.size)[j]? = some r → Value.okWide P W' .any 0 t r) :
   s.post enc P f apart fresh handsOn again W args v W' := by
 have hlt : ∀ p ∈ before, p.block < W.heap.size := fun p hp => hW.lt p hp
 have hold : ∀ p ∈ before, (fun b => decide (b < W.heap.size)) p.block = true := fun p hp => by simpa using hlt p hp
 refine ⟨ds, gs, before, [], pa, pv, hW, hres _ _ _, hargs _ hold, hvars _ hold, World.keptBut_mono (fun p hp => ⟨hp, ?_⟩) (hb.frame (· ∈ before)), fun _ => ?_⟩
 · rw [hps, List.mem_append] at hp
   exact Or.inr hp
 · obtain ⟨_, _, _, _, _, hz, hn⟩ := hW
   refine ⟨hok, _, _, ([] ++ pa) ++ pv, ⟨[] ++ pa, pv, trodAll_append (hargs _ (fun _ _ => rfl)) (hres _ _ _), hvars _ (fun _ _ => rfl), rfl, ?_, ?_⟩, ?_⟩
   · intro b off hp
     have hin : MemPlace.cell b off ∈ before := by rw [hps]; simpa using hp
     rw [hb.frozen (hlt _ hin)]
     exact hz b off hin
   · intro ha
     have := hn ha
     rw [hps] at this
     simpa using this
   · intro p hp _
     rw [hps]
     simpa using hp
end
end Go.Proofs.YtfgopboddkhckaaGreatDoor
