/-
  Orders, eleventh part: CancelOrder.
-/
import Derived.Test.YtohdkniajacohaaOrders10
import Derived.Deep.RegionLaw
import Derived.Lib.SliceRun
namespace Go.Proofs.Ytohdkniajacohaa
open Go.ChangeShapes Go.WideShapes Go.ChangeAt Go.RowKit Go.Sort
set_option linter.unusedVariables false
set_option maxRecDepth 100000

theorem flat_pre (l : List OD) (p : Nat) : l.flatMap cOD = (l.take p).flatMap cOD ++ (l.drop p).flatMap cOD := by
  rw [← List.flatMap_append, List.take_append_drop]
theorem ood_pre {w : World} {ad : Addr} {n c : Nat} {l : List OD} (h : RODS w (.slice (some ad) n c) l) {p : Nat} (hp : p ≤ l.length) : RODS w (.slice (some ad) p c) (l.take p) := by
  obtain ⟨hl, A', c', hv, h2, h3, h4⟩ := h
  injection hv with e1 e2 e3
  subst e1 e2 e3
  have hlen : (l.take p).length = p := by simp; omega
  refine ⟨flat_len cOD 5 cOD_len _, some ad, c, by rw [hlen], by rw [hlen]; omega, h3, fun h0 => ?_⟩
  rw [hlen] at h0
  obtain ⟨ad', he, hlt, hc⟩ := h4 (by omega)
  refine ⟨ad', he, hlt, fun j u hu => hc j u ?_⟩
  have hj : j < ((l.take p).flatMap cOD).length := by
    rcases Nat.lt_or_ge j ((l.take p).flatMap cOD).length with h | h
    · exact h
    · rw [List.getElem?_eq_none h] at hu; cases hu
  rw [flat_pre l p, List.getElem?_append_left hj]; exact hu
theorem ood_suf {w : World} {ad : Addr} {n c : Nat} {l : List OD} (h : RODS w (.slice (some ad) n c) l) {p : Nat} (hp : p ≤ l.length) : RODS w (.slice (if c = p then some ad else some (ad.add (p * 5))) (l.length - p) (c - p)) (l.drop p) := by
  obtain ⟨hl, A', c', hv, h2, h3, h4⟩ := h
  injection hv with e1 e2 e3
  subst e1 e2 e3
  have hlen : (l.drop p).length = l.length - p := by simp
  by_cases hpn : p = l.length
  · refine ⟨flat_len cOD 5 cOD_len _, _, c - p, by rw [hlen], by rw [hlen]; omega, by omega, fun h0 => by rw [hlen] at h0; omega⟩
  · rw [if_neg (by omega)]
    obtain ⟨ad', he, hlt, hc⟩ := h4 (by omega)
    injection he with he
    subst he
    refine ⟨flat_len cOD 5 cOD_len _, some (ad.add (p * 5)), c - p, by rw [hlen], by rw [hlen]; omega, by omega, fun _ => ⟨_, rfl, by rw [block_of_add]; exact hlt, fun j u hu => ?_⟩⟩
    rw [add_of_add]
    refine hc (p * 5 + j) u ?_
    have ht : ((l.take p).flatMap cOD).length = p * 5 := by rw [flat_len cOD 5 cOD_len]; simp; omega
    rw [flat_pre l p, List.getElem?_append_right (by rw [ht]; omega), ht, Nat.add_sub_cancel_left]; exact hu
def mCancelOrder (l : List OD) (id : Int) : List OD × Int :=
  bif vOrders l then (bif known l id then (bif decide (0 < (gd l (lb l id)).sent) then ([], 6) else (l.take (lb l id) ++ l.drop (lb l id + 1), 0)) else ([], 3)) else ([], 1)
theorem sm_cut {l : List OD} (k : Nat) (hs : SmODS l) : SmODS (l.take k ++ l.drop (k + 1)) := by
  unfold SmODS totOD at *
  have h1 : (l.map fun o => o.cu.size).sum = ((l.take k).map fun o => o.cu.size).sum + ((l.drop k).map fun o => o.cu.size).sum := by rw [← List.sum_append, ← List.map_append, List.take_append_drop]
  have h2 : (l.drop k).length = (l.drop (k + 1)).length + (l.length - k - (l.length - (k + 1))) := by simp; omega
  have h3 : ((l.drop (k + 1)).map fun o => o.cu.size).sum ≤ ((l.drop k).map fun o => o.cu.size).sum := by
    by_cases hk : k < l.length
    · rw [show l.drop k = l[k] :: l.drop (k + 1) from List.drop_eq_getElem_cons hk, List.map_cons, List.sum_cons]; exact Nat.le_add_left _ _
    · rw [List.drop_of_length_le (by omega), List.drop_of_length_le (by omega)]; exact Nat.le_refl _
  rw [List.length_append, List.map_append, List.sum_append]
  have h4 : (l.take k).length + (l.drop (k + 1)).length ≤ l.length := by simp; omega
  omega

theorem ORow.setCells {base g n cap : Nat} {e : TypeId} {size : Nat} : ∀ (news : List Value) (o : Nat) (w : World) (F : Nat → Value), ORow w base e size (.slice (some ⟨g, 0, none⟩) n cap) n F →
    ORow (w.setCells g o news) base e size (.slice (some ⟨g, 0, none⟩) n cap) n (fun j => if o ≤ j ∧ j < o + news.length then news.getD (j - o) undef else F j) := by
  intro news
  induction news with
  | nil => intro o w F h; exact h.congr fun j _ => by rw [if_neg (by simp)]
  | cons v r ih =>
    intro o w F h
    refine (ih (o + 1) _ _ (h.set o v)).congr fun j _ => ?_
    rw [List.length_cons]
    by_cases h1 : j = o
    · subst h1
      rw [if_neg (by omega), if_pos rfl, if_pos (by omega), Nat.sub_self]; rfl
    · by_cases h2 : o + 1 ≤ j ∧ j < o + 1 + r.length
      · rw [if_pos h2, if_pos (by omega), show j - o = (j - (o + 1)) + 1 from by omega]; rfl
      · rw [if_neg h2, if_neg h1, if_neg (by omega)]
theorem Chg.setCells {S : Nat → Prop} {g : Nat} (hg : S g) : ∀ (news : List Value) (o : Nat) (w : World), Chg S w (w.setCells g o news) := by
  intro news
  induction news with
  | nil => intro o w; exact Chg.of_below (ext_refl _) _
  | cons v r ih => intro o w; exact (Chg.setCell w (p := ⟨g, o, none⟩) hg v).trans (ih _ _)
theorem ORow.pre {w : World} {base g n m cap : Nat} {e : TypeId} {size : Nat} {F : Nat → Value} (h : ORow w base e size (.slice (some ⟨g, 0, none⟩) n cap) n F) (hm : m ≤ n) : ORow w base e size (.slice (some ⟨g, 0, none⟩) m cap) m F := by
  have hmn : m * size ≤ n * size := Nat.mul_le_mul_right _ hm
  refine ⟨by simp, .inr ?_⟩
  rcases h.2 with ⟨h1, _⟩ | ⟨g', cap', cur, hv, hg, hh, hn, hc, hs, ht⟩
  · cases h1
  · injection hv with q1 q2 q3
    injection q1 with q1
    injection q1 with q1
    subst q1 q3
    refine ⟨g, cap, cur, rfl, hg, hh, by omega, hc, hs, ?_⟩
    have h2 := congrArg (List.take (m * size)) ht
    rw [List.take_take, Nat.min_eq_left hmn, ← List.map_take, List.take_range, Nat.min_eq_left hmn] at h2
    exact h2
theorem run_clear_od (w : World) (ty : TypeId) (b o c : Nat) (hc : ∀ j, j < 5 → (w.cell? ⟨b, o + j, none⟩).isSome = true) (hf : ∀ j, j < 5 → w.frozen? ⟨b, o + j, none⟩ = false) :
    (Builtin.clear_ #[27] ty #[.slice (some ⟨b, o, none⟩) 1 c]).run Try.prog w = .ok (.tuple #[]) (w.setCells b o [.int .i64 0, .string ⟨#[]⟩, .int .i64 0, .int .i64 0, .int .i64 0]) := by
  have hst := run_storeCells_cells (P := Try.prog) b o [.int .i64 0, .string ⟨#[]⟩, .int .i64 0, .int .i64 0, .int .i64 0] 0 w (by simpa using hc) (by simpa using hf) (by intro v hv; simp at hv; rcases hv with rfl | rfl | rfl | rfl | rfl <;> rfl)
  simp only [Nat.add_zero] at hst
  have hzc : (Builtin.zeroCells #[Value.int .i64 0, .string ⟨#[]⟩, .int .i64 0, .int .i64 0, .int .i64 0] 1).toList = [.int .i64 0, .string ⟨#[]⟩, .int .i64 0, .int .i64 0, .int .i64 0] := by
    simp [Builtin.zeroCells, List.range_succ]
  simp [Builtin.clear_, run_underlying Try.underlying27, Value.cells, hzc, hst]

end Go.Proofs.Ytohdkniajacohaa
