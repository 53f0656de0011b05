/-
  Orders, plain: what is read of the text of an order. No program's step in this text.
-/
import Derived.Test.YtbggggaoljpfnaaGreatDoorSplit
import Derived.Test.YtbggggaoljpfnaaGreatDoorNum
import Derived.Test.YtbggggaoljpfnaaGreatDoorNumP
import Derived.Test.YtbggggaoljpfnaaGreatDoorOrdT
namespace Go.Proofs.YtbggggaoljpfnaaGreatDoor
open Go.Lib
set_option linter.unusedVariables false

/-- The bytes of an order's text. -/
def odL (o : OD) : List UInt8 := 35 :: (itoa o.id ++ 32 :: (o.cu.data.toList ++ 32 :: (itoa o.sent ++ 47 :: (itoa o.br ++ 32 :: (100 :: 117 :: 101 :: 32 :: itoa o.due)))))
theorem odb_list (o : OD) : (odb o).data.toList = odL o := by
  unfold odb odL
  simp only [ByteArray.data_append, Array.toList_append, itb_list, List.append_assoc]
  rfl
theorem odb_words (o : OD) (h : oneO o = true) : splL 32 (odL o) = [35 :: itoa o.id, o.cu.data.toList, itoa o.sent ++ 47 :: itoa o.br, [100, 117, 101], itoa o.due] := by
  have h1 := oneO_iff.1 h
  have := spl_jn 32 [35 :: itoa o.id, o.cu.data.toList, itoa o.sent ++ 47 :: itoa o.br, [100, 117, 101], itoa o.due] (by simp) (by
    intro x hx
    simp only [List.mem_cons, List.not_mem_nil, or_false] at hx
    rcases hx with rfl | rfl | rfl | rfl | rfl
    · simp only [List.mem_cons, not_or]; exact ⟨by decide, itoa_no32 _⟩
    · exact isN_no32 h1.2.1
    · simp only [List.mem_append, List.mem_cons, not_or]; exact ⟨itoa_no32 _, by decide, itoa_no32 _⟩
    · decide
    · exact itoa_no32 _)
  rw [← this]
  simp [jnL, odL]
theorem itoa_split47 (a b : Int) : splL 47 (itoa a ++ 47 :: itoa b) = [itoa a, itoa b] := by
  have := spl_jn 47 [itoa a, itoa b] (by simp) (by
    intro x hx
    simp only [List.mem_cons, List.not_mem_nil, or_false] at hx
    rcases hx with rfl | rfl
    · exact itoa_no47 _
    · exact itoa_no47 _)
  rw [← this]
  simp [jnL]

/-- The order that the words and the numbers of the third one name. -/
def oW (l v : List ByteArray) : OD := ⟨rdv ((gd l 0).extract 1 (gd l 0).size), gd l 1, rdv (gd v 1), rdv (gd l 4), rdv (gd v 0)⟩
def dueB : ByteArray := ⟨#[100, 117, 101]⟩
def okW (l v : List ByteArray) : Bool := decide (v.length = 2) && rdb ((gd l 0).extract 1 (gd l 0).size) && rdb (gd v 0) && rdb (gd v 1) && rdb (gd l 4) && oneO (oW l v)
/-- The order of a text. -/
def rdO (s : ByteArray) : Option OD :=
  if (spb 32 s).length = 5 ∧ gd (spb 32 s) 3 = dueB ∧ 2 ≤ (gd (spb 32 s) 0).size ∧ byt (gd (spb 32 s) 0) 0 = 35 ∧ okW (spb 32 s) (spb 47 (gd (spb 32 s) 2)) = true then some (oW (spb 32 s) (spb 47 (gd (spb 32 s) 2))) else none
theorem rdO_len {s : ByteArray} (h : (spb 32 s).length ≠ 5) : rdO s = none := by unfold rdO; rw [if_neg (fun e => h e.1)]
theorem rdO_due {s : ByteArray} (h : gd (spb 32 s) 3 ≠ dueB) : rdO s = none := by unfold rdO; rw [if_neg (fun e => h e.2.1)]
theorem rdO_short {s : ByteArray} (h : ¬ 2 ≤ (gd (spb 32 s) 0).size) : rdO s = none := by unfold rdO; rw [if_neg (fun e => h e.2.2.1)]
theorem rdO_sign {s : ByteArray} (h : byt (gd (spb 32 s) 0) 0 ≠ 35) : rdO s = none := by unfold rdO; rw [if_neg (fun e => h e.2.2.2.1)]
theorem rdO_ok {s : ByteArray} (h : okW (spb 32 s) (spb 47 (gd (spb 32 s) 2)) = false) : rdO s = none := by unfold rdO; rw [if_neg (fun e => by rw [h] at e; exact absurd e.2.2.2.2 (by decide))]
theorem rdO_yes {s : ByteArray} (h1 : (spb 32 s).length = 5) (h2 : gd (spb 32 s) 3 = dueB) (h3 : 2 ≤ (gd (spb 32 s) 0).size) (h4 : byt (gd (spb 32 s) 0) 0 = 35) (h5 : okW (spb 32 s) (spb 47 (gd (spb 32 s) 2)) = true) :
    rdO s = some (oW (spb 32 s) (spb 47 (gd (spb 32 s) 2))) := by unfold rdO; rw [if_pos ⟨h1, h2, h3, h4, h5⟩]
def rdOv (s : ByteArray) : OD := (rdO s).getD ⟨0, ⟨#[]⟩, 0, 0, 0⟩
def rdOb (s : ByteArray) : Bool := (rdO s).isSome
theorem rdO_no {s : ByteArray} (h : rdO s = none) : rdOv s = ⟨0, ⟨#[]⟩, 0, 0, 0⟩ ∧ rdOb s = false := by unfold rdOv rdOb; rw [h]; exact ⟨rfl, rfl⟩
theorem rdO_is {s : ByteArray} {o : OD} (h : rdO s = some o) : rdOv s = o ∧ rdOb s = true := by unfold rdOv rdOb; rw [h]; exact ⟨rfl, rfl⟩

/-! ### The program's way -/
/-- The text behind a '#'. -/
def tr35 (s : ByteArray) : ByteArray := bsq (Lib.trimPrefix s.data.toList [35])
theorem tr35_at {s : ByteArray} (h : byt s 0 = 35) (h2 : 1 ≤ s.size) : tr35 s = s.extract 1 s.size := by
  unfold tr35
  rw [ext_end]
  congr 1
  cases hl : s.data.toList with
  | nil =>
    have := size_toList s
    rw [hl] at this; simp at this; omega
  | cons c r =>
    have hc : c = 35 := by
      unfold byt at h
      rw [hl] at h
      simp only [List.getD_cons_zero] at h
      exact UInt8.toNat_inj.1 (by show c.toNat = 35; omega)
    subst hc
    rfl
/-- The order that the program makes of the words. -/
def oP (l v : List ByteArray) : OD := ⟨rdv (tr35 (gd l 0)), gd l 1, rdv (gd v 1), rdv (gd l 4), rdv (gd v 0)⟩
theorem five {α : Type} (l : List α) (h : l.length = 5) : ∃ a b c d e, l = [a, b, c, d, e] := by
  match l, h with
  | [a, b, c, d, e], _ => exact ⟨a, b, c, d, e, rfl⟩
theorem two {α : Type} (l : List α) (h : l.length = 2) : ∃ a b, l = [a, b] := by
  match l, h with
  | [a, b], _ => exact ⟨a, b, rfl⟩
theorem oP_oW {s : ByteArray} (h3 : 2 ≤ (gd (spb 32 s) 0).size) (h4 : byt (gd (spb 32 s) 0) 0 = 35) : oP (spb 32 s) (spb 47 (gd (spb 32 s) 2)) = oW (spb 32 s) (spb 47 (gd (spb 32 s) 2)) := by
  unfold oP oW
  rw [tr35_at h4 (by omega)]
theorem rdO_num {s : ByteArray} (h : rdb (tr35 (gd (spb 32 s) 0)) = false) : rdO s = none := by
  by_cases h3 : 2 ≤ (gd (spb 32 s) 0).size
  · by_cases h4 : byt (gd (spb 32 s) 0) 0 = 35
    · rw [tr35_at h4 (by omega)] at h
      exact rdO_ok (by unfold okW; rw [h]; simp)
    · exact rdO_sign h4
  · exact rdO_short h3
theorem rdO_two {s : ByteArray} (h : ¬ ((spb 47 (gd (spb 32 s) 2)).length = 2 ∧ rdb (gd (spb 47 (gd (spb 32 s) 2)) 0) = true ∧ rdb (gd (spb 47 (gd (spb 32 s) 2)) 1) = true)) : rdO s = none :=
  rdO_ok (by
    cases he : okW (spb 32 s) (spb 47 (gd (spb 32 s) 2)) with
    | false => rfl
    | true =>
      unfold okW at he
      simp only [Bool.and_eq_true, decide_eq_true_eq] at he
      exact absurd ⟨he.1.1.1.1.1, he.1.1.1.2, he.1.1.2⟩ h)
theorem rdO_three {s : ByteArray} (h : rdb (gd (spb 32 s) 4) = false) : rdO s = none := rdO_ok (by unfold okW; rw [h]; simp)
theorem bsq_gd {b : UInt8} {s : ByteArray} {k : Nat} {x : List UInt8} (h : (splL b s.data.toList)[k]? = some x) : gd (spb b s) k = bsq x := by
  unfold spb gd
  rw [List.getD_eq_getElem?_getD, List.getElem?_map, h]; rfl
/-- Of five words the program's last test decides. -/
theorem rdO_last {s : ByteArray} (h1 : (spb 32 s).length = 5) (h2 : (spb 47 (gd (spb 32 s) 2)).length = 2) (ha : rdb (tr35 (gd (spb 32 s) 0)) = true) (hb : rdb (gd (spb 47 (gd (spb 32 s) 2)) 0) = true) (hc : rdb (gd (spb 47 (gd (spb 32 s) 2)) 1) = true) (hd : rdb (gd (spb 32 s) 4) = true) :
    rdO s = if mOrderText (oP (spb 32 s) (spb 47 (gd (spb 32 s) 2))) = s then some (oP (spb 32 s) (spb 47 (gd (spb 32 s) 2))) else none := by
  split
  · rename_i h
    have hone : oneO (oP (spb 32 s) (spb 47 (gd (spb 32 s) 2))) = true := by
      cases hv : oneO (oP (spb 32 s) (spb 47 (gd (spb 32 s) 2))) with
      | true => rfl
      | false =>
        unfold mOrderText at h
        rw [hv] at h
        have e : s = ⟨#[]⟩ := h.symm
        rw [e] at h1
        exact absurd h1 (by decide)
    have hs : odb (oP (spb 32 s) (spb 47 (gd (spb 32 s) 2))) = s := by
      unfold mOrderText at h
      rw [hone] at h; exact h
    obtain ⟨x, hx⟩ : ∃ x, oP (spb 32 s) (spb 47 (gd (spb 32 s) 2)) = x := ⟨_, rfl⟩
    rw [hx] at hone hs
    have hw : splL 32 s.data.toList = [35 :: itoa x.id, x.cu.data.toList, itoa x.sent ++ 47 :: itoa x.br, [100, 117, 101], itoa x.due] := by rw [← hs, odb_list]; exact odb_words x hone
    have h0 : gd (spb 32 s) 0 = bsq (35 :: itoa x.id) := bsq_gd (by rw [hw]; rfl)
    have h3 : gd (spb 32 s) 3 = dueB := bsq_gd (by rw [hw]; rfl)
    have hsz : 2 ≤ (gd (spb 32 s) 0).size := by
      rw [h0, bsq_size]
      have : 0 < (itoa x.id).length := by
        have hr := rdec_itoa x.id (by have := oneO_iff.1 hone; omega) (by have := oneO_iff.1 hone; omega)
        rcases Nat.eq_zero_or_pos (itoa x.id).length with h | h
        · rw [List.length_eq_zero_iff.1 h] at hr; cases hr
        · exact h
      simp only [List.length_cons]; omega
    have hby : byt (gd (spb 32 s) 0) 0 = 35 := by rw [h0]; rfl
    have hq := oP_oW hsz hby
    refine (rdO_yes h1 h3 hsz hby ?_).trans (by rw [← hq])
    unfold okW
    rw [← hq, hx, hone, h2, hb, hc, hd, ← tr35_at hby (by omega), ha]; rfl
  · rename_i h
    cases hr : rdO s with
    | none => rfl
    | some o =>
      exfalso
      apply h
      unfold rdO at hr
      split at hr
      · rename_i hc
        obtain ⟨_, g3, gs, gb, gk⟩ := hc
        have hq := oP_oW gs gb
        rw [hq]
        have hone : oneO (oW (spb 32 s) (spb 47 (gd (spb 32 s) 2))) = true := by
          unfold okW at gk
          simp only [Bool.and_eq_true] at gk
          exact gk.2
        unfold mOrderText
        rw [hone]
        show odb _ = s
        apply ba_ext
        rw [odb_list, ← hq]
        have hjn := jn_spl 32 s.data.toList
        have h5 : (splL 32 s.data.toList).length = 5 := by rw [← h1]; unfold spb; rw [List.length_map]
        obtain ⟨a, b, c, d, e, hw⟩ := five _ h5
        have k0 : gd (spb 32 s) 0 = bsq a := bsq_gd (by rw [hw]; rfl)
        have k1 : gd (spb 32 s) 1 = bsq b := bsq_gd (by rw [hw]; rfl)
        have k2 : gd (spb 32 s) 2 = bsq c := bsq_gd (by rw [hw]; rfl)
        have k3 : gd (spb 32 s) 3 = bsq d := bsq_gd (by rw [hw]; rfl)
        have k4 : gd (spb 32 s) 4 = bsq e := bsq_gd (by rw [hw]; rfl)
        rw [hw] at hjn
        have hd3 : d = [100, 117, 101] := by rw [k3] at g3; exact bsq_inj g3
        have h47 : (splL 47 c).length = 2 := by rw [← h2, k2]; unfold spb; rw [List.length_map]; rfl
        obtain ⟨p, q, hv⟩ := two _ h47
        have hjv := jn_spl 47 c
        rw [hv] at hjv
        have m0 : gd (spb 47 (gd (spb 32 s) 2)) 0 = bsq p := bsq_gd (by rw [k2]; show (splL 47 c)[0]? = _; rw [hv]; rfl)
        have m1 : gd (spb 47 (gd (spb 32 s) 2)) 1 = bsq q := bsq_gd (by rw [k2]; show (splL 47 c)[1]? = _; rw [hv]; rfl)
        have rd : ∀ x : ByteArray, rdb x = true → x.data.toList = itoa (rdv x) := fun x hx => by
          cases hr : rdec x.data.toList with
          | none => rw [(rd_none hr).2] at hx; cases hx
          | some v => rw [(rd_some hr).1]; exact rdec_itoa_eq hr
        have ra := rd _ ha
        have rb := rd _ hb
        have rc := rd _ hc
        have re := rd _ hd
        rw [tr35_at gb (by omega), ext_end, k0, bsq_list] at ra
        rw [m0] at rb
        rw [m1] at rc
        rw [k4] at re
        have haa : a = 35 :: a.drop 1 := by
          rw [k0] at gb gs
          cases a with
          | nil => rw [bsq_size] at gs; simp at gs
          | cons c0 r =>
            have : c0 = 35 := by
              unfold byt at gb
              rw [bsq_list] at gb
              simp only [List.getD_cons_zero] at gb
              exact UInt8.toNat_inj.1 (by show c0.toNat = 35; omega)
            rw [this]; rfl
        have e0 : (oP (spb 32 s) (spb 47 (gd (spb 32 s) 2))).id = rdv (bsq (a.drop 1)) := by unfold oP; rw [tr35_at gb (by omega), ext_end, k0, bsq_list]
        have e1 : (oP (spb 32 s) (spb 47 (gd (spb 32 s) 2))).cu = bsq b := by unfold oP; exact k1
        have e2 : (oP (spb 32 s) (spb 47 (gd (spb 32 s) 2))).br = rdv (bsq q) := by unfold oP; rw [m1]
        have e3 : (oP (spb 32 s) (spb 47 (gd (spb 32 s) 2))).due = rdv (bsq e) := by unfold oP; rw [k4]
        have e4 : (oP (spb 32 s) (spb 47 (gd (spb 32 s) 2))).sent = rdv (bsq p) := by unfold oP; rw [m0]
        unfold odL
        rw [e0, e1, e2, e3, e4]
        simp only [bsq_list] at ra rb rc re ⊢
        rw [← ra, ← rb, ← rc, ← re, ← hjn]
        simp only [jnL]
        rw [← hjv, hd3]
        simp only [jnL]
        conv => rhs; rw [haa]
        simp
      · cases hr
end Go.Proofs.YtbggggaoljpfnaaGreatDoor
