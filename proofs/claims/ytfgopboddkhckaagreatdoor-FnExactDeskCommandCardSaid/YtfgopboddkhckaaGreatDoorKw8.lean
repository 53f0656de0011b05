/-
  Parts of the proof: Num, Split, ReadDec, App, RdN.
-/
import Derived.Test.YtfgopboddkhckaaGreatDoorKw7
import Derived.Lib.IndexBytes
import Derived.Lib.AtoiErrMem
import Derived.Lib.ParseIntBTie
namespace Go.Proofs.YtfgopboddkhckaaGreatDoor
open Go.ChangeShapes Go.WideShapes Go.ChangeAt Go.RowKit Go.Sort
set_option linter.unusedVariables false
set_option maxRecDepth 8000
def rdv (s : ByteArray) : Int := (rdec s.data.toList).getD 0
def rdb (s : ByteArray) : Bool := (rdec s.data.toList).isSome
theorem rdv_range (s : ByteArray) : -1000000000000000000 < rdv s ∧ rdv s < 1000000000000000000 := by
 unfold rdv
 cases h : rdec s.data.toList with
 | none => decide
 | some v => exact rdec_range h
theorem rd_none {s : ByteArray} (h : rdec s.data.toList = none) : rdv s = 0 ∧ rdb s = false := by unfold rdv rdb; rw [h]; exact ⟨rfl, rfl⟩
theorem rd_some {s : ByteArray} {v : Int} (h : rdec s.data.toList = some v) : rdv s = v ∧ rdb s = true := by unfold rdv rdb; rw [h]; exact ⟨rfl, rfl⟩
theorem dgC_val {b : UInt8} : dgC (b.toNat : Int) = true ↔ ∃ d, Lib.digitVal b = some d := by
 unfold dgC Lib.digitVal
 constructor
 · intro h
   simp at h
   exact ⟨_, if_pos (by omega)⟩
 · rintro ⟨d, h⟩
   split at h
   · simp; omega
   · cases h
theorem dec_none {l : List UInt8} {k : Nat} {b : UInt8} (hb : l[k]? = some b) (h : dgC (b.toNat : Int) = false) : Lib.decFrom 0 l = none := by
 cases he : Lib.decFrom 0 l with
 | none => rfl
 | some n =>
   have := dgC_val.2 (Lib.digit_of_decFrom l 0 n he k b hb)
   rw [h] at this; cases this
theorem list_cons {s : ByteArray} (h : 0 < s.size) : ∃ c r, s.data.toList = c :: r ∧ (s[0]'h) = c := by
 have h' : 0 < s.data.toList.length := by rw [size_toList]; exact h
 cases he : s.data.toList with
 | nil => rw [he] at h'; simp at h'
 | cons c r =>
   refine ⟨c, r, rfl, ?_⟩
   have : (s.data.toList)[0]'h' = c := by simp [he]
   rw [← this]; rfl
theorem dec_step {l : List UInt8} {k m : Nat} {b : UInt8} (h : Lib.decFrom 0 (l.take k) = some m) (hb : l[k]? = some b) (h1 : 48 ≤ b.toNat) (h2 : b.toNat ≤ 57) : Lib.decFrom 0 (l.take (k + 1)) = some (10 * m + (b.toNat - 48)) := by
 rw [List.take_add_one, hb]
 show Lib.decFrom 0 (l.take k ++ [b]) = _
 rw [decFrom_append, h, Option.bind_some]
 unfold Lib.digitVal
 rw [if_pos (by omega)]
 simp only [Option.map_some, Option.some.injEq]
 omega
theorem lt_pow18 {l : List UInt8} {m : Nat} (h : Lib.decFrom 0 l = some m) (hl : l.length ≤ 18) : m < 1000000000000000000 := Lib.decFrom_lt18 h hl
theorem num_empty (w : World) : Calls Tryz.prog 58 #[.string ⟨#[]⟩] w (Ret (.tuple #[.int .i64 0, .bool false]) w) := by
 go_enter Tryz.func58, Tryz.ntmps58
 go_wp2_with fail
 go_ret2
 exact ⟨rfl, ext_refl _⟩
theorem str_some {s : ByteArray} (h : 0 < s.size) : ¬ s.toList = [] ∧ s.toList.isEmpty = false := by
 have hne : s ≠ ⟨#[]⟩ := by rintro rfl; exact absurd h (by decide)
 have hem2 : ¬ s.toList = [] := by
   have h := str_ne hne
   intro h2
   rw [h2] at h
   simp at h
 refine ⟨hem2, ?_⟩
 cases h : s.toList with
 | nil => exact absurd h hem2
 | cons a l => rfl
set_option maxHeartbeats 3200000 in
theorem num_minus (s : ByteArray) (hs : s.size ≤ maxLen) (r : List UInt8) (hl : s.data.toList = 45 :: r) (w : World) :
   Calls Tryz.prog 58 #[.string s] w (Ret (.tuple #[.int .i64 (rdv s), .bool (rdb s)]) w) := by
 unfold maxLen at hs
 have hz : 0 < s.size := by rw [← size_toList, hl]; simp
 obtain ⟨hem2, hem⟩ := str_some hz
 obtain ⟨c, r', hl', hc⟩ := list_cons (s := s) hz
 have hc45 : c = 45 := by rw [hl] at hl'; injection hl' with h1 h2; exact h1.symm
 have hc2 : (s[0].toNat : Int) = 45 := by rw [hc, hc45]; rfl
 clear hc hl' r'
 have e1 : (0 : Int) < s.size := by omega
 have e2 : (1 : Int) ≤ s.size := by omega
 have HRL : Hid (r.length + 1 = s.size) := Lib.hid (by rw [← size_toList, hl]; rfl)
 obtain ⟨t, ht⟩ : ∃ t, s.extract 1 s.size = t := ⟨_, rfl⟩
 have HT : Hid (trm s.data.toList = t.data.toList) := Lib.hid (by rw [← ht, Lib.extract_to_end, hl]; rfl)
 have htz : t.size + 1 = s.size := by
   rw [← size_toList t, ← HT.out, hl]; exact HRL.out
 have HSG : Hid (sgn s.data.toList = true) := Lib.hid (by rw [hl]; rfl)
 clear hl hc45
 by_cases hbad : t.size < 1 ∨ 18 < t.size
 · have HR : Hid (rdec s.data.toList = none) := Lib.hid (by unfold rdec; rw [HT.out, size_toList, if_pos hbad])
   have HTZ := Lib.hid htz
   by_cases h1 : t.size < 1
   · have hq2 : (t.size : Int) < 1 := by omega
     clear htz hbad h1
     go_enter Tryz.func58, Tryz.ntmps58
     go_wp2_with fail
     go_ret2
     rw [(rd_none HR.out).1, (rd_none HR.out).2]
     exact ⟨rfl, ext_refl _⟩
   · have hq2 : ¬ (t.size : Int) < 1 := by omega
     have hq4 : (18 : Int) < (t.size : Int) := by omega
     clear htz hbad h1
     go_enter Tryz.func58, Tryz.ntmps58
     go_wp2_with fail
     go_ret2
     rw [(rd_none HR.out).1, (rd_none HR.out).2]
     exact ⟨rfl, ext_refl _⟩
 · have hq2 : ¬ (t.size : Int) < 1 := by omega
   have hq4 : ¬ (18 : Int) < (t.size : Int) := by omega
   have HTZ := Lib.hid htz
   clear htz hbad
   go_enter Tryz.func58, Tryz.ntmps58
   go_wp2_with fail
   have htl : (t.size : Int) < s.size := by have := HTZ.out; omega
   have htl2 : t.size ≤ 18 := by omega
   have htl3 : 1 ≤ t.size := by omega
   clear ht hq2 hq4 hem hem2 hc2 e2
   go_loop [5, 6] (fun n i => ∃ (k m : Nat), k ≤ t.size ∧ i = .int .i64 k ∧ n = .int .i64 m ∧ m < 1000000000000000000 ∧ Hid (Lib.decFrom 0 (t.data.toList.take k) = some m)) (fun _ i => t.size - (intOf i).toNat)
   case atStart => exact ⟨0, 0, Nat.zero_le _, rfl, rfl, by decide, Lib.hid rfl⟩
   case round =>
     obtain ⟨k, m, hk, rfl, rfl, hm, HD⟩ := hrel
     by_cases hlt : k < t.size
     · have e5 : (k:Int) < t.size := by omega
       have e6 : (0:Int) ≤ k := by omega
       have hy := byt_eq t k hlt
       have hyb := byt_bd t k
       have HGK : Hid (t.data.toList[k]? = some t[k]) := Lib.hid (Lib.data_getElem? t k hlt)
       obtain ⟨y, hyy⟩ : ∃ y, byt t k = y := ⟨_, rfl⟩
       rw [hyy] at hy hyb
       clear hyy
       have HY := Lib.hid hy
       have HC1 := Lib.hid (fun w => spec_digit y hyb.1 hyb.2 w)
       cases hd : dgC y with
       | false =>
         have HR : Hid (rdec s.data.toList = none) := Lib.hid (by
           unfold rdec
           rw [HT.out]
           split
           · rfl
           · rw [dec_none HGK.out (by rw [HY.out]; exact hd)])
         rw [hd] at HC1
         clear hd
         go_wp2_with fail
         refine (show Calls _ _ _ _ _ from HC1.out _).mono ?_
         rintro e w' ⟨rfl, rfl⟩
         go_wp2_with fail
         go_ret2
         rw [(rd_none HR.out).1, (rd_none HR.out).2]
         exact ⟨rfl, ext_refl _⟩
       | true =>
         rw [hd] at HC1
         have hd2 : 48 ≤ y ∧ y ≤ 57 := by simpa [dgC] using hd
         have HS : Hid (Lib.decFrom 0 (t.data.toList.take (k + 1)) = some (10 * m + (t[k].toNat - 48))) := Lib.hid (dec_step HD.out HGK.out (by have := HY.out; omega) (by have := HY.out; omega))
         have hm2 : 10 * m + (t[k].toNat - 48) < 1000000000000000000 := lt_pow18 HS.out (by rw [List.length_take]; omega)
         have hm3 : 10 * (m : Int) + (y - 48) < 1000000000000000000 := by have := HY.out; omega
         have hm4 : (((10 * m + (t[k].toNat - 48) : Nat)) : Int) = 10 * (m : Int) + (y - 48) := by have := HY.out; omega
         have HM4 := Lib.hid hm4
         have HM2 := Lib.hid hm2
         clear hd hm4 hm2
         go_wp2_with fail
         refine (show Calls _ _ _ _ _ from HC1.out _).mono ?_
         rintro e w' ⟨rfl, rfl⟩
         go_wp2_with fail
         go_round
         case rel => exact ⟨k + 1, _, by omega, by go_num, by rw [HM4.out], HM2.out, HS.out⟩
         case measure => simp [intOf]; omega
     · obtain rfl : k = t.size := by omega
       have HDF : Hid (Lib.decFrom 0 t.data.toList = some m) := Lib.hid (by
         have h := HD.out
         rwa [List.take_of_length_le (by rw [size_toList]; exact Nat.le_refl _)] at h)
       by_cases he : Lib.itoa (-(m : Int)) = s.data.toList
       · have HR : Hid (rdec s.data.toList = some (-(m : Int))) := Lib.hid (by
           unfold rdec sv
           rw [HT.out, HSG.out, if_neg (by rw [size_toList]; omega), HDF.out]
           simpa using he)
         have hit : itb (-(m : Int)) = s := itb_eq.2 he
         have HC := Lib.hid (spec_Dec (-(m : Int)) (by omega) (by omega) w)
         rw [hit] at HC
         clear hit he
         go_wp2_with fail
         refine (show Calls _ _ _ _ _ from HC.out).mono ?_
         rintro e w' ⟨rfl, hb⟩
         go_wp2_with fail
         go_ret2
         rw [(rd_some HR.out).1, (rd_some HR.out).2]
         exact ⟨rfl, hb⟩
       · have HR : Hid (rdec s.data.toList = none) := Lib.hid (by
           unfold rdec sv
           rw [HT.out, HSG.out, if_neg (by rw [size_toList]; omega), HDF.out]
           simpa using he)
         have hne : itb (-(m : Int)) ≠ s := fun h => he (itb_eq.1 h)
         have hst := str_ne hne
         have HC := Lib.hid (spec_Dec (-(m : Int)) (by omega) (by omega) w)
         clear hne he
         go_wp2_with fail
         refine (show Calls _ _ _ _ _ from HC.out).mono ?_
         rintro e w' ⟨rfl, hb⟩
         go_wp2_with fail
         go_ret2
         rw [(rd_none HR.out).1, (rd_none HR.out).2]
         exact ⟨rfl, hb⟩
set_option maxHeartbeats 3200000 in
theorem num_plain (s : ByteArray) (hs : s.size ≤ maxLen) (c : UInt8) (r : List UInt8) (hl : s.data.toList = c :: r) (h45 : c ≠ 45) (w : World) :
   Calls Tryz.prog 58 #[.string s] w (Ret (.tuple #[.int .i64 (rdv s), .bool (rdb s)]) w) := by
 unfold maxLen at hs
 have hz : 0 < s.size := by rw [← size_toList, hl]; simp
 obtain ⟨hem2, hem⟩ := str_some hz
 obtain ⟨c', r', hl', hc⟩ := list_cons (s := s) hz
 have hcc : c' = c := by rw [hl] at hl'; injection hl' with h1 h2; exact h1.symm
 have hc2 : ((s[0].toNat : Int) == 45) = false := by
   rw [hc, hcc, beq_eq_false_iff_ne]
   intro h
   exact u8_ne45 h45 (by omega)
 clear hc hl' r' hcc
 have e1 : (0 : Int) < s.size := by omega
 have HT : Hid (trm s.data.toList = s.data.toList) := Lib.hid (by rw [hl, trm_other _ _ h45])
 have HSG : Hid (sgn s.data.toList = false) := Lib.hid (by rw [hl, sgn_other _ _ h45])
 clear hl
 by_cases hbad : 18 < s.size
 · have HR : Hid (rdec s.data.toList = none) := Lib.hid (by unfold rdec; rw [HT.out, size_toList, if_pos (Or.inr hbad)])
   have hq2 : ¬ (s.size : Int) < 1 := by omega
   have hq4 : (18 : Int) < (s.size : Int) := by omega
   clear hbad
   go_enter Tryz.func58, Tryz.ntmps58
   go_wp2_with fail
   go_ret2
   rw [(rd_none HR.out).1, (rd_none HR.out).2]
   exact ⟨rfl, ext_refl _⟩
 · have hq2 : ¬ (s.size : Int) < 1 := by omega
   have hq4 : ¬ (18 : Int) < (s.size : Int) := by omega
   have htl2 : s.size ≤ 18 := by omega
   have htl3 : 1 ≤ s.size := by omega
   clear hbad
   go_enter Tryz.func58, Tryz.ntmps58
   go_wp2_with fail
   clear hq2 hq4 hem hem2 hc2
   go_loop [5, 6] (fun n i => ∃ (k m : Nat), k ≤ s.size ∧ i = .int .i64 k ∧ n = .int .i64 m ∧ m < 1000000000000000000 ∧ Hid (Lib.decFrom 0 (s.data.toList.take k) = some m)) (fun _ i => s.size - (intOf i).toNat)
   case atStart => exact ⟨0, 0, Nat.zero_le _, rfl, rfl, by decide, Lib.hid rfl⟩
   case round =>
     obtain ⟨k, m, hk, rfl, rfl, hm, HD⟩ := hrel
     by_cases hlt : k < s.size
     · have e5 : (k:Int) < s.size := by omega
       have e6 : (0:Int) ≤ k := by omega
       have hy := byt_eq s k hlt
       have hyb := byt_bd s k
       have HGK : Hid (s.data.toList[k]? = some s[k]) := Lib.hid (Lib.data_getElem? s k hlt)
       obtain ⟨y, hyy⟩ : ∃ y, byt s k = y := ⟨_, rfl⟩
       rw [hyy] at hy hyb
       clear hyy
       have HY := Lib.hid hy
       have HC1 := Lib.hid (fun w => spec_digit y hyb.1 hyb.2 w)
       cases hd : dgC y with
       | false =>
         have HR : Hid (rdec s.data.toList = none) := Lib.hid (by
           unfold rdec
           rw [HT.out]
           split
           · rfl
           · rw [dec_none HGK.out (by rw [HY.out]; exact hd)])
         rw [hd] at HC1
         clear hd
         go_wp2_with fail
         refine (show Calls _ _ _ _ _ from HC1.out _).mono ?_
         rintro e w' ⟨rfl, rfl⟩
         go_wp2_with fail
         go_ret2
         rw [(rd_none HR.out).1, (rd_none HR.out).2]
         exact ⟨rfl, ext_refl _⟩
       | true =>
         rw [hd] at HC1
         have hd2 : 48 ≤ y ∧ y ≤ 57 := by simpa [dgC] using hd
         have HS : Hid (Lib.decFrom 0 (s.data.toList.take (k + 1)) = some (10 * m + (s[k].toNat - 48))) := Lib.hid (dec_step HD.out HGK.out (by have := HY.out; omega) (by have := HY.out; omega))
         have hm2 : 10 * m + (s[k].toNat - 48) < 1000000000000000000 := lt_pow18 HS.out (by rw [List.length_take]; omega)
         have hm3 : 10 * (m : Int) + (y - 48) < 1000000000000000000 := by have := HY.out; omega
         have hm4 : (((10 * m + (s[k].toNat - 48) : Nat)) : Int) = 10 * (m : Int) + (y - 48) := by have := HY.out; omega
         have HM4 := Lib.hid hm4
         have HM2 := Lib.hid hm2
         clear hd hm4 hm2
         go_wp2_with fail
         refine (show Calls _ _ _ _ _ from HC1.out _).mono ?_
         rintro e w' ⟨rfl, rfl⟩
         go_wp2_with fail
         go_round
         case rel => exact ⟨k + 1, _, by omega, by go_num, by rw [HM4.out], HM2.out, HS.out⟩
         case measure => simp [intOf]; omega
     · obtain rfl : k = s.size := by omega
       have HDF : Hid (Lib.decFrom 0 s.data.toList = some m) := Lib.hid (by
         have h := HD.out
         rwa [List.take_of_length_le (by rw [size_toList]; exact Nat.le_refl _)] at h)
       by_cases he : Lib.itoa ((m : Int)) = s.data.toList
       · have HR : Hid (rdec s.data.toList = some ((m : Int))) := Lib.hid (by
           unfold rdec sv
           rw [HT.out, HSG.out, if_neg (by rw [size_toList]; omega), HDF.out]
           simpa using he)
         have hit : itb ((m : Int)) = s := itb_eq.2 he
         have HC := Lib.hid (spec_Dec ((m : Int)) (by omega) (by omega) w)
         rw [hit] at HC
         clear hit he
         go_wp2_with fail
         refine (show Calls _ _ _ _ _ from HC.out).mono ?_
         rintro e w' ⟨rfl, hb⟩
         go_wp2_with fail
         go_ret2
         rw [(rd_some HR.out).1, (rd_some HR.out).2]
         exact ⟨rfl, hb⟩
       · have HR : Hid (rdec s.data.toList = none) := Lib.hid (by
           unfold rdec sv
           rw [HT.out, HSG.out, if_neg (by rw [size_toList]; omega), HDF.out]
           simpa using he)
         have hne : itb ((m : Int)) ≠ s := fun h => he (itb_eq.1 h)
         have hst := str_ne hne
         have HC := Lib.hid (spec_Dec ((m : Int)) (by omega) (by omega) w)
         clear hne he
         go_wp2_with fail
         refine (show Calls _ _ _ _ _ from HC.out).mono ?_
         rintro e w' ⟨rfl, hb⟩
         go_wp2_with fail
         go_ret2
         rw [(rd_none HR.out).1, (rd_none HR.out).2]
         exact ⟨rfl, hb⟩
theorem spec_Number (s : ByteArray) (hs : s.size ≤ maxLen) (w : World) :
   Calls Tryz.prog 58 #[.string s] w (Ret (.tuple #[.int .i64 (rdv s), .bool (rdb s)]) w) := by
 cases h : s.data.toList with
 | nil =>
   obtain rfl : s = ⟨#[]⟩ := ba_ext h
   exact num_empty w
 | cons c r =>
   by_cases h45 : c = 45
   · subst h45; exact num_minus s hs r h w
   · exact num_plain s hs c r h h45 w
def spb (b : UInt8) (s : ByteArray) : List ByteArray := (splL b s.data.toList).map bsq
theorem spb_len (b : UInt8) (s : ByteArray) : (spb b s).length ≤ s.size + 1 := by
 unfold spb; rw [List.length_map, ← size_toList]; exact splL_len b _
theorem ext_bsq (s : ByteArray) {p q : Nat} (h : p ≤ q) : s.extract p q = bsq ((s.data.toList.drop p).take (q - p)) := by
 apply ba_ext
 rw [Lib.extract_data, bsq_list]
theorem ext_end (s : ByteArray) (p : Nat) : s.extract p s.size = bsq (s.data.toList.drop p) := by
 apply ba_ext
 rw [Lib.extract_to_end, bsq_list]
set_option maxHeartbeats 1600000 in
theorem spec_Split (s : ByteArray) (hs : s.size ≤ 1048576) (b : UInt8) (c : Int) (hc : (b.toNat : Int) = c) (w : World) :
   Calls Tryz.prog 24 #[.string s, .int .u8 c] w fun e w' => ∃ A cp, e = .returned (.slice A (spb b s).length cp) ∧ OStr w' w.heap.size (.slice A (spb b s).length cp) (spb b s) ∧ Below w.heap.size w w' := by
 have HC := Lib.hid hc; clear hc
 go_enter Tryz.func24, Tryz.ntmps24
 go_wp2_with fail
 go_loopw [5, 6, 7] (fun o f i wr => ∃ (p q : Nat) (l : List ByteArray) (A : Option Addr) (cp : Nat), i = .int .i64 q ∧ f = .int .i64 p ∧ o = .slice A l.length cp ∧ p ≤ q ∧ q ≤ s.size ∧ l.length ≤ q ∧ Hid (spb b s = l ++ (splL b (s.data.toList.drop p)).map bsq) ∧ Hid (b ∉ (s.data.toList.drop p).take (q - p)) ∧ Hid (OStr wr w.heap.size (.slice A l.length cp) l) ∧ Below w.heap.size w wr) (fun _ _ i _ => s.size - (intOf i).toNat)
 case atStart => exact ⟨0, 0, [], some ⟨w.heap.size, 0, none⟩, 0, rfl, rfl, rfl, Nat.le_refl _, Nat.zero_le _, Nat.le_refl _, Lib.hid rfl, Lib.hid (by simp), Lib.hid (ostr_lit _ _ (Nat.le_refl _)), ext_alloc1 _ _⟩
 case round =>
   obtain ⟨p, q, l, A, cp, rfl, rfl, rfl, hpq, hq, hlq, HP, HN, HO, hbw⟩ := hrel
   have HW := Lib.hid hbw; clear hbw
   have hsz := HW.out.size
   have e1 : (0:Int) ≤ q := by omega
   have e0 : (0:Int) ≤ p := by omega
   have e2 : (p:Int) ≤ q := by omega
   have e3 : (q:Int) ≤ s.size := by omega
   by_cases hlt : q < s.size
   · have e4 : (q:Int) < s.size := by omega
     have hy := byt_eq s q hlt
     obtain ⟨y, hyy⟩ : ∃ y, byt s q = y := ⟨_, rfl⟩
     rw [hyy] at hy
     have hget : s.data.toList[q]? = some s[q] := Lib.data_getElem? s q hlt
     have HG := Lib.hid hget; clear hget
     have hgd : (s.data.toList.drop p)[q - p]? = some s[q] := by
       rw [List.getElem?_drop, show p + (q - p) = q by omega]; exact HG.out
     have HGD := Lib.hid hgd; clear hgd
     by_cases hb : s[q] = b
     · have e5 : (y == c) = true := by rw [← HC.out, ← hb, ← hy]; simp
       have HS : Hid (spb b s = (l ++ [s.extract p q]) ++ (splL b (s.data.toList.drop (q + 1))).map bsq) := Lib.hid (by
         rw [HP.out, splL_hit HN.out (by rw [HGD.out, hb]), List.drop_drop, show p + (q - p + 1) = q + 1 by omega, ext_bsq s hpq]
         simp)
       clear hb hyy
       go_wp2_with (at_builtin; refine wpList_append_str rfl _ _ rfl w.heap.size (.slice A l.length cp) l (s.extract p q) rfl rfl HO.out (by omega) hsz ?_; intro g cap w2 hO2 hg2 hlt2)
       go_roundw
       case rel => exact ⟨q + 1, q + 1, l ++ [s.extract p q], some ⟨g, 0, none⟩, cap, by go_num, by go_num, by rw [List.length_append]; rfl, Nat.le_refl _, hlt, by rw [List.length_append]; simp; omega, HS.out, Lib.hid (by simp), Lib.hid (by rw [List.length_append]; exact hO2), Chg.ext HW.out hg2 (fun j hj => (HO.out.ge j hj).1)⟩
       case measure => simp [intOf]; omega
     · have e5 : (y == c) = false := by
         rw [← HC.out, ← hy, beq_eq_false_iff_ne]
         intro h
         exact hb (Lib.byte_eq_of_toNat h)
       have HN2 : Hid (b ∉ (s.data.toList.drop p).take (q + 1 - p)) := Lib.hid (by
         rw [show q + 1 - p = (q - p) + 1 by omega, List.take_add_one, HGD.out]
         simp only [List.mem_append, not_or]
         refine ⟨HN.out, ?_⟩
         simp only [Option.toList, List.mem_singleton]
         exact fun h => hb h.symm)
       clear hb hyy
       go_wp2_with fail
       go_roundw
       case rel => exact ⟨p, q + 1, l, A, cp, by go_num, rfl, rfl, by omega, hlt, by omega, HP.out, HN2.out, HO.out, HW.out⟩
       case measure => simp [intOf]; omega
   · obtain rfl : q = s.size := by omega
     have HS : Hid (spb b s = l ++ [s.extract p s.size]) := Lib.hid (by
       have h := HN.out
       rw [List.take_of_length_le (by rw [List.length_drop, size_toList]; omega)] at h
       rw [HP.out, splL_none h, ext_end]; rfl)
     go_wp2_with (at_builtin; refine wpList_append_str rfl _ _ rfl w.heap.size (.slice A l.length cp) l (s.extract p s.size) rfl rfl HO.out (by omega) hsz ?_; intro g cap w2 hO2 hg2 hlt2)
     go_ret
     rw [HS.out, List.length_append]
     exact ⟨_, cap, rfl, hO2, Chg.ext HW.out hg2 (fun j hj => (HO.out.ge j hj).1)⟩
attribute [local go_sem ↓] Go.wp_at_zero Go.wp_at_succ
theorem trim_minus (l : List UInt8) : Lib.trimPrefix l [45] = trm l := by
 unfold Lib.trimPrefix
 cases l with
 | nil => rfl
 | cons c r =>
   by_cases h : c = 45
   · subst h; rfl
   · rw [trm_other _ _ h]
     have : Lib.hasPrefix (c :: r) [45] = false := by
       unfold Lib.hasPrefix
       simp [List.isPrefixOf]
       exact fun e => h e.symm
     rw [this]; rfl
theorem trm_bds (l : List UInt8) : (trm l).length ≤ l.length ∧ l.length ≤ (trm l).length + 1 := by
 unfold trm
 split <;> simp
theorem impl_Parse_no (s : ByteArray) (hs : s.size ≤ 1048576) (h : ∀ v, Lib.parseIntB 64 s.data.toList ≠ .ok v) (w : World) (hE : Env w) :
   Calls Tryz.prog 85 #[.string s, .int .i64 10, .int .i64 64] w fun e w' => ∃ (x : Int) (t : TypeId) (p : Value), e = .returned (.tuple #[.int .i64 x, .iface t p]) ∧ Below w.heap.size w w' := by
 obtain ⟨_, _, ⟨a, b, h3⟩, ⟨c, d, h4⟩⟩ := hE
 cases hp : Lib.parseIntB 64 s.data.toList with
 | ok v => exact absurd hp (h v)
 | range => exact (Any.strconv_ParseInt_10_at64_range_var Tryz.laysC174 s (by omega) hp c d w h4).mono fun e w' ⟨N, h1, _, _, h2⟩ => ⟨_, _, _, h1, h2⟩
 | _ => exact (Any.strconv_ParseInt_10_at64_syntax_var Tryz.laysC174 s (by omega) hp a b w h3).mono fun e w' ⟨N, h1, _, _, h2⟩ => ⟨_, _, _, h1, h2⟩
set_option maxHeartbeats 1600000 in
theorem impl_ReadDecimal (s : ByteArray) (hs : s.size ≤ 1048576) (w : World) (hE : Env w) :
   Calls Tryz.prog 42 #[.string s] w (Ret (.tuple #[.int .i64 (rdv s), .bool (rdb s)]) w) := by
 have HTP : Hid (∀ w, Calls Tryz.prog 84 #[.string s, .string ⟨#[45]⟩] w (RetP (.string (bsq (trm s.data.toList))) w)) := Lib.hid fun w => (Tryz.strings_TrimPrefix s ⟨#[45]⟩ w).mono fun e w' ⟨h1, h2⟩ => ⟨by rw [h1]; show Ending.returned (.string ⟨(Lib.trimPrefix s.data.toList [45]).toArray⟩) = _; rw [trim_minus]; rfl, h2.symm⟩
 have hb := trm_bds s.data.toList
 rw [size_toList] at hb
 by_cases h19 : 19 < s.size
 · have HR : Hid (rdec s.data.toList = none) := Lib.hid (rdec_long (by omega))
   have e1 : (19 : Int) < s.size := by omega
   clear hb hE
   go_enter Tryz.func42, Tryz.ntmps42
   go_wp2_with fail
   go_ret2
   rw [(rd_none HR.out).1, (rd_none HR.out).2]
   exact ⟨rfl, ext_refl _⟩
 have e1 : ¬ (19 : Int) < s.size := by omega
 by_cases h18 : 18 < (trm s.data.toList).length
 · have HR : Hid (rdec s.data.toList = none) := Lib.hid (rdec_long h18)
   have e2 : (18 : Int) < (bsq (trm s.data.toList)).size := by rw [bsq_size]; omega
   clear hb hE h18 h19
   go_enter Tryz.func42, Tryz.ntmps42
   go_wp2_with fail
   refine (show Calls _ _ _ _ _ from HTP.out _).mono ?_
   rintro e w1 ⟨rfl, rfl⟩
   go_wp2_with fail
   go_ret2
   rw [(rd_none HR.out).1, (rd_none HR.out).2]
   exact ⟨rfl, ext_refl _⟩
 have e2 : ¬ (18 : Int) < (bsq (trm s.data.toList)).size := by rw [bsq_size]; omega
 have HP := Lib.hid (rdec_parse s.data.toList (by omega))
 have HEE := Lib.hid hE
 clear hb h18
 by_cases hok : ∃ v, Lib.parseIntB 64 s.data.toList = .ok v
 · obtain ⟨v, hv⟩ := hok
   have HPC : Hid (∀ w, Calls Tryz.prog 85 #[.string s, .int .i64 10, .int .i64 64] w fun e w' => e = .returned (.tuple #[.int .i64 v, .nilIface]) ∧ (w' = w ∨ ∃ t, w' = Lib.bytesWorld w 5 t)) := Lib.hid fun w => Tryz.strconv_ParseInt_10_at64_ok s (by omega) v hv w
   have hvr : -9223372036854775808 ≤ v ∧ v ≤ 9223372036854775807 := by
     have h := Lib.parseIntB_bounds hv
     have e : (2 : Nat) ^ (64 - 1) = 9223372036854775808 := by decide
     rw [e] at h
     omega
   have HDC : Hid (∀ w, LayF w → Calls Tryz.prog 54 #[.int .i64 v] w (Ret (.string (itb v)) w)) := Lib.hid fun w h => impl_Dec v hvr.1 hvr.2 w h
   have HV := Lib.hid hv
   by_cases he : Lib.itoa v = s.data.toList
   · have hi : itb v = s := itb_eq.2 he
     have HR : Hid (rdec s.data.toList = some v) := Lib.hid (by rw [HP.out, HV.out]; simp only []; rw [if_pos he])
     clear hv hE h19 he
     go_enter Tryz.func42, Tryz.ntmps42
     go_wp2_with fail
     refine (show Calls _ _ _ _ _ from HTP.out _).mono ?_
     rintro e w1 ⟨rfl, rfl⟩
     go_wp2_with fail
     refine (show Calls _ _ _ _ _ from HPC.out _).mono ?_
     rintro e w2 ⟨rfl, hb2⟩
     have HW2 : Hid (Below w.heap.size w w2) := Lib.hid (by
       rcases hb2 with rfl | ⟨t, rfl⟩
       · exact ext_refl _
       · exact Lib.bytesWorld_below _ _ _)
     clear hb2
     go_wp2_with fail
     refine (show Calls _ _ _ _ _ from HDC.out _ (HEE.out.ext HW2.out).lay).mono ?_
     rintro e w3 ⟨rfl, hb3⟩
     go_wp2_with fail
     go_ret2
     rw [(rd_some HR.out).1, (rd_some HR.out).2]
     exact ⟨rfl, ext_trans HW2.out hb3⟩
   · have hi : itb v ≠ s := fun h => he (itb_eq.1 h)
     have hst := str_ne hi
     have HR : Hid (rdec s.data.toList = none) := Lib.hid (by rw [HP.out, HV.out]; simp only []; rw [if_neg he])
     clear hv hE h19 he hi
     go_enter Tryz.func42, Tryz.ntmps42
     go_wp2_with fail
     refine (show Calls _ _ _ _ _ from HTP.out _).mono ?_
     rintro e w1 ⟨rfl, rfl⟩
     go_wp2_with fail
     refine (show Calls _ _ _ _ _ from HPC.out _).mono ?_
     rintro e w2 ⟨rfl, hb2⟩
     have HW2 : Hid (Below w.heap.size w w2) := Lib.hid (by
       rcases hb2 with rfl | ⟨t, rfl⟩
       · exact ext_refl _
       · exact Lib.bytesWorld_below _ _ _)
     clear hb2
     go_wp2_with fail
     refine (show Calls _ _ _ _ _ from HDC.out _ (HEE.out.ext HW2.out).lay).mono ?_
     rintro e w3 ⟨rfl, hb3⟩
     go_wp2_with fail
     go_ret2
     rw [(rd_none HR.out).1, (rd_none HR.out).2]
     exact ⟨rfl, ext_trans HW2.out hb3⟩
 · have HR : Hid (rdec s.data.toList = none) := Lib.hid (by
     rw [HP.out]
     split
     · rename_i v hv; exact absurd ⟨v, hv⟩ hok
     · rfl)
   have HPC : Hid (∀ w, Env w → Calls Tryz.prog 85 #[.string s, .int .i64 10, .int .i64 64] w fun e w' => ∃ (x : Int) (t : TypeId) (p : Value), e = .returned (.tuple #[.int .i64 x, .iface t p]) ∧ Below w.heap.size w w') := Lib.hid fun w h => impl_Parse_no s hs (fun v hv => hok ⟨v, hv⟩) w h
   clear hok hE h19
   go_enter Tryz.func42, Tryz.ntmps42
   go_wp2_with fail
   refine (show Calls _ _ _ _ _ from HTP.out _).mono ?_
   rintro e w1 ⟨rfl, rfl⟩
   go_wp2_with fail
   refine (show Calls _ _ _ _ _ from HPC.out _ HEE.out).mono ?_
   rintro e w2 ⟨x, t, p, rfl, hb2⟩
   go_wp2_with fail
   go_ret2
   rw [(rd_none HR.out).1, (rd_none HR.out).2]
   exact ⟨rfl, hb2⟩
theorem mapBsq : ∀ (l : List ByteArray) (m : List (List UInt8)), l.map (·.data.toList) = m → l = m.map bsq := by
 intro l m h
 subst h
 rw [List.map_map]
 conv => lhs; rw [← List.map_id l]
 refine List.map_congr_left fun x _ => ?_
 exact (bsq_of x).symm
theorem impl_Split (s : ByteArray) (hs : s.size ≤ 1048576) (b : UInt8) (w : World) (hE : Env w) :
   Calls Tryz.prog 29 #[.string s, .string ⟨#[b]⟩] w fun e w' => ∃ A cp, e = .returned (.slice A (spb b s).length cp) ∧ OStr w' w.heap.size (.slice A (spb b s).length cp) (spb b s) ∧ Below w.heap.size w w' := by
 have hc : Lib.countB s ⟨#[b]⟩ + 1 = (spb b s).length := by
   unfold spb
   rw [List.length_map]
   exact count_spl b s.data.toList
 have hl : Lib.splitB ⟨#[b]⟩ 0 (Lib.countB s ⟨#[b]⟩) s = spb b s := mapBsq _ _ ((Lib.splitB_data _ _ _ _).trans (split_spl b s.data.toList))
 refine (Tryz.strings_Split_shaped s ⟨#[b]⟩ w hE.shp (by omega) (by show 1 ≤ 1; omega)).mono fun e w' ⟨h1, h2⟩ => ?_
 subst h1 h2
 have hlen := spb_len b s
 refine ⟨some ⟨w.heap.size, 0, none⟩, Lib.countB s ⟨#[b]⟩ + 1, by rw [hc], ?_, ext_alloc1 _ _⟩
 rw [hc, hl]
 have h := World.ownsRow_lit (base := w.heap.size) (e := 9) (size := 1) w ((spb b s).map Value.string).toArray (spb b s).length (Nat.le_refl _) (by unfold maxLen; omega) (by simp)
 unfold OStr
 simpa using h
theorem impl_Cut (s : ByteArray) (hs : s.size ≤ 1048576) (b : UInt8) (w : World) (hE : Env w) :
   Calls Tryz.prog 153 #[.string s, .string ⟨#[b]⟩] w (Ret (.tuple #[.string (bsq (Lib.cut s.data.toList [b]).1), .string (bsq (Lib.cut s.data.toList [b]).2.1), .bool (Lib.cut s.data.toList [b]).2.2]) w) := by
 refine (Tryz.strings_Cut_shaped s ⟨#[b]⟩ w hE.shp (by omega)).mono fun e w' ⟨h1, n, h2⟩ => ?_
 subst h1 h2
 exact ⟨rfl, ext_drewN (ext_refl _) _⟩
end Go.Proofs.YtfgopboddkhckaaGreatDoor
namespace Go.Proofs.YtfgopboddkhckaaGreatDoor
open Go.ChangeShapes Go.WideShapes Go.ChangeAt Go.RowKit Go.Sort
theorem wpList_append_i {w0 : World} {ops : Array Oper} {rest : List Oper} {o : Oper} {a : Act} {Q : Exit → Act → World → Prop} (hgd : o.guard = none) (s x : Operand)
   (ho : o.op = .call { callee := .builtin .append, args := #[s, x], argTypes := #[55, 55] })
   (base : Nat) (v : Value) (xs : List Int) (n : Int) (hs : a.eval s = v) (hx : a.eval x = .slice (some ⟨w0.heap.size, 0, none⟩) 1 1) (hO : OI w0 base v xs)
   (hl : xs.length ≤ 1099511627776) (hbase : base ≤ w0.heap.size)
   (h : ∀ g cap w', OI w' base (.slice (some ⟨g, 0, none⟩) (xs.length + 1) cap) (xs ++ [n]) → Chg (BI v) w0 w' → w0.heap.size < w'.heap.size → wpList Tryz.prog ops Q rest (a.put o.dst (.slice (some ⟨g, 0, none⟩) (xs.length + 1) cap)) w') :
   wpList Tryz.prog ops Q (o :: rest) a (w0.alloc (.cells #[.int .i64 n] 2)) := by
 obtain ⟨i0, hi, hz0, hz1, hz2⟩ := info_parts info_int
 refine wpList_append_lies _ hgd s x _ ho base 2 i0 (.int .i64 0) 1 8 Tryz.underlying55 hi hz0 hz1 hz2 rfl (by omega) v xs.length (xs.map (Value.int .i64)) hs (World.ownsRow.alloc hO _)
   ⟨w0.heap.size, 0, none⟩ 1 1 [.int .i64 n] hx rfl (cell_one_new _ _ _) (by simp [Value.oneCell']) (by omega) (by unfold maxLen; omega) (by omega) (by simp; omega) (w0.heap.size + 1) (by simp) ?_
 intro g cap w1 hown hgrow hat hlt
 refine h g cap w1 ?_ ((Chg.of_below (ext_alloc1 _ _) _).trans (Chg.of_grown hgrow)) (by have := hgrow.size; simp at this; omega)
 unfold OI
 simpa using hown
end Go.Proofs.YtfgopboddkhckaaGreatDoor
namespace Go.Proofs.YtfgopboddkhckaaGreatDoor
open Go.ChangeShapes Go.WideShapes Go.ChangeAt Go.RowKit Go.Sort
set_option linter.unusedVariables false
set_option maxRecDepth 100000
attribute [local go_sem ↓] Go.wp_at_zero Go.wp_at_succ
theorem splitN_len (b : UInt8) (l : List UInt8) (n : Nat) (hn : 1 ≤ n) : ((Lib.splitK [b] 0 (min n l.length) l).length = n ∧ Lib.splitK [b] 0 (min n l.length) l = splL b l ∧ (splL b l).length = n) ∨ ((Lib.splitK [b] 0 (min n l.length) l).length ≠ n ∧ (splL b l).length ≠ n) := by
 have h1 := splL_len b l
 by_cases h : (splL b l).length ≤ min n l.length + 1
 · have e := splitK_spl b _ l h
   by_cases h2 : (splL b l).length = n
   · exact Or.inl ⟨by rw [e]; exact h2, e, h2⟩
   · exact Or.inr ⟨by rw [e]; exact h2, h2⟩
 · have e := splitK_many b (min n l.length) l (by omega)
   exact Or.inr ⟨by omega, by omega⟩
theorem impl_SplitN (s : ByteArray) (hs : s.size ≤ 1048576) (b : UInt8) (n : Nat) (hn : 1 ≤ n) (hn2 : n ≤ 1048577) (w : World) (hE : Env w) :
   Calls Tryz.prog 170 #[.string s, .string ⟨#[b]⟩, .int .i64 ((n : Int) + 1)] w fun e w' => ∃ ad m cp, e = .returned (.slice (some ad) m cp) ∧ m ≤ 1048577 ∧ cp ≤ 1048577 ∧ m ≤ cp ∧ Below w.heap.size w w' ∧
     ((m = n ∧ (spb b s).length = n ∧ RStr w' (.slice (some ad) m cp) (spb b s)) ∨ (m ≠ n ∧ (spb b s).length ≠ n)) := by
 have hq := Tryz.strings_SplitN_shaped s ⟨#[b]⟩ (n + 1) w hE.shp (by omega) (by show 1 ≤ 1; omega) (by omega) (by omega)
 rw [show (((n + 1 : Nat)) : Int) = (n : Int) + 1 by omega] at hq
 refine hq.mono fun e w' ⟨h1, h2⟩ => ?_
 have hk : min (n + 1) (s.size + 1) - 1 = min n s.data.toList.length := by rw [size_toList]; omega
 rw [hk] at h1 h2
 obtain ⟨P, hP⟩ : ∃ P, Lib.splitB ⟨#[b]⟩ 0 (min n s.data.toList.length) s = P := ⟨_, rfl⟩
 have hPd : P = (Lib.splitK [b] 0 (min n s.data.toList.length) s.data.toList).map bsq := mapBsq _ _ (by rw [← hP]; exact Lib.splitB_data _ _ _ _)
 rw [hP] at h1 h2
 have hPl : P.length = (Lib.splitK [b] 0 (min n s.data.toList.length) s.data.toList).length := by rw [hPd, List.length_map]
 have hub : P.length ≤ min (n + 1) (s.size + 1) := by
   rw [hPl]
   have h1 := splL_len b s.data.toList
   by_cases h : (splL b s.data.toList).length ≤ min n s.data.toList.length + 1
   · rw [splitK_spl b _ _ h]; have e := size_toList s; omega
   · rw [splitK_many b (min n s.data.toList.length) _ (by omega)]; have e := size_toList s; omega
 subst h1 h2
 refine ⟨_, P.length, _, rfl, by omega, by omega, hub, ext_alloc1 _ _, ?_⟩
 rcases splitN_len b s.data.toList n hn with ⟨a1, a2, a3⟩ | ⟨a1, a2⟩
 · left
   have hPs : P = spb b s := by rw [hPd, a2]; rfl
   refine ⟨by rw [hPl, a1], by unfold spb; rw [List.length_map]; exact a3, ?_⟩
   rw [← hPs]
   refine ⟨by simp, _, _, rfl, hub, by unfold maxLen; omega, fun _ => ⟨_, rfl, by simp, fun j u hu => ?_⟩⟩
   have hj : j < P.length := by
     have := (List.getElem?_eq_some_iff.1 hu).1
     simpa using this
   have e1 : (⟨w.heap.size, 0, none⟩ : Addr).add j = ⟨w.heap.size, j, none⟩ := by simp [Addr.add]; try omega
   rw [e1, World.cell?_alloc_at _ _ _ _ rfl]
   unfold Lib.cellsOf
   rw [List.getElem?_toArray, List.getElem?_append_left (by simpa using hj)]
   exact hu
 · right
   exact ⟨by rw [hPl]; exact a1, by unfold spb; rw [List.length_map]; exact a2⟩
def rdNs (b : UInt8) (s : ByteArray) (n : Nat) : Bool := decide ((spb b s).length = n) && (spb b s).all rdb
theorem rdNs_len {b : UInt8} {s : ByteArray} {n : Nat} (h : (spb b s).length ≠ n) : rdNs b s n = false := by unfold rdNs; rw [decide_eq_false h]; rfl
theorem all_take_gd (p : ByteArray → Bool) {l : List ByteArray} {k : Nat} (hk : k < l.length) : (l.take (k + 1)).all p = ((l.take k).all p && p (gd l k)) := by rw [take_gd hk]; simp
theorem map_take_gd (f : ByteArray → Int) {l : List ByteArray} {k : Nat} (hk : k < l.length) : (l.take (k + 1)).map f = (l.take k).map f ++ [f (gd l k)] := by rw [take_gd hk]; simp
theorem all_gd_no {p : ByteArray → Bool} {l : List ByteArray} {k : Nat} (hk : k < l.length) (h : p (gd l k) = false) : l.all p = false := by
 rw [List.all_eq_false]; exact ⟨_, gd_mem hk, by simp [h]⟩
def RetN (b : UInt8) (s : ByteArray) (n : Nat) (w : World) : Ending → World → Prop := fun e w' => ∃ v, e = .returned (.tuple #[v, .bool (rdNs b s n)]) ∧ Below w.heap.size w w' ∧
  (rdNs b s n = true → (spb b s).length = n ∧ (∃ A c, v = .slice A n c) ∧ OI w' w.heap.size v ((spb b s).map rdv))
set_option maxHeartbeats 3200000 in
theorem impl_readNumbers (s : ByteArray) (hs : s.size ≤ 1048576) (b : UInt8) (n : Nat) (hn : 1 ≤ n) (hn2 : n ≤ 1048577) (w : World) (hE : Env w) :
   Calls Tryz.prog 154 #[.string s, .string ⟨#[b]⟩, .int .i64 (n : Int)] w (RetN b s n w) := by
 have HS := Lib.hid (impl_SplitN s hs b n hn hn2 w hE)
 have HEV : Hid (∀ W', Below w.heap.size w W' → Env W') := Lib.hid fun W' h => hE.ext h
 have HRD : Hid (∀ x : ByteArray, x ∈ spb b s → x.size ≤ 1048576) := Lib.hid fun x hx => by
   unfold spb at hx
   obtain ⟨u, hu, rfl⟩ := List.mem_map.1 hx
   rw [bsq_size]
   have := splL_part hu
   rw [size_toList] at this
   omega
 clear hE
 go_enter Tryz.func154, Tryz.ntmps154
 go_wp2_with fail
 refine (show Calls _ _ _ _ _ from HS.out).mono ?_
 rintro e w1 ⟨ad, m, cp, rfl, hm, hcp, hmc, hb1, hc⟩
 have HW1 := Lib.hid hb1
 clear hb1 HS
 rcases hc with ⟨rfl, hl, hR⟩ | ⟨hne, hl⟩
 · obtain ⟨l, hll⟩ : ∃ l, spb b s = l := ⟨_, rfl⟩
   have HRN : Hid (rdNs b s m = l.all rdb) := Lib.hid (by unfold rdNs; rw [decide_eq_true hl, hll]; rfl)
   have HLL := Lib.hid hll
   rw [hll] at hl hR HRD
   have HLN := Lib.hid hl
   have HA := Lib.hid hR
   clear hll hR hl
   go_wp2_with fail
   go_loopw [9, 26] (fun u i wr => ∃ (k : Nat) (B : Option Addr) (cq : Nat), k ≤ m ∧ i = .int .i64 k ∧ u = .slice B k cq ∧ Hid ((l.take k).all rdb = true) ∧ Hid (OI wr w1.heap.size (.slice B k cq) ((l.take k).map rdv)) ∧ Hid (Below w1.heap.size w1 wr)) (fun _ i _ => m - (intOf i).toNat)
   case atStart => exact ⟨0, some ⟨w1.heap.size, 0, none⟩, 0, Nat.zero_le _, rfl, rfl, Lib.hid rfl, Lib.hid (World.ownsRow_lit _ #[] 0 (Nat.le_refl _) (by simp [maxLen]) (by simp)), Lib.hid (ext_alloc1 _ _)⟩
   case round =>
     obtain ⟨k, B, cq, hk, rfl, rfl, HT, HO, HB⟩ := hrel
     have e1 : (0 : Int) ≤ k := by omega
     have hsz := HB.out.size
     by_cases hlt : k < m
     · have e2 : (k : Int) < m := by omega
       obtain ⟨ad', hA, _, hc⟩ := (HA.out.ext HB.out).at (k := k) (by rw [HLN.out]; exact hlt)
       injection hA with hA
       subst hA
       have hc0 := hc k (by rw [HLN.out]; exact hlt)
       clear hc
       obtain ⟨x, hx⟩ : ∃ x, gd l k = x := ⟨_, rfl⟩
       rw [hx] at hc0
       have HC : Hid (∀ w, Env w → Calls Tryz.prog 42 #[.string x] w (Ret (.tuple #[.int .i64 (rdv x), .bool (rdb x)]) w)) := Lib.hid fun w h => impl_ReadDecimal x (HRD.out x (by rw [← hx]; exact gd_mem (by rw [HLN.out]; exact hlt))) w h
       have HN : Hid (rdb x = false → rdNs b s m = false) := Lib.hid fun h => by rw [HRN.out]; exact all_gd_no (by rw [HLN.out]; exact hlt) (by rw [hx]; exact h)
       have HTA : Hid ((l.take (k + 1)).all rdb = rdb x) := Lib.hid (by rw [all_take_gd rdb (by rw [HLN.out]; exact hlt), HT.out, hx]; rfl)
       have HMA : Hid ((l.take (k + 1)).map rdv = (l.take k).map rdv ++ [rdv x]) := Lib.hid (by rw [map_take_gd rdv (by rw [HLN.out]; exact hlt), hx])
       have HKL : Hid (((l.take k).map rdv).length = k) := Lib.hid (by rw [List.length_map, List.length_take, HLN.out]; omega)
       clear hx
       obtain ⟨v, hv⟩ : ∃ v, rdv x = v := ⟨_, rfl⟩
       obtain ⟨ok, hok⟩ : ∃ ok, rdb x = ok := ⟨_, rfl⟩
       rw [hv, hok] at HC
       rw [hok] at HN HTA
       rw [hv] at HMA
       clear hv hok
       go_wp2_with fail
       refine (show Calls _ _ _ _ _ from HC.out _ (HEV.out _ (ext_trans HW1.out HB.out))).mono ?_
       rintro e w2 ⟨rfl, hb2⟩
       have HB2 := Lib.hid (ext_trans HB.out hb2)
       have HO2 := Lib.hid (HO.out.ext hb2)
       have hsz2 := HB2.out.size
       clear hb2 hc0
       cases ok with
       | false =>
         have HF := Lib.hid (HN.out rfl)
         go_wp2_with fail
         go_ret2
         exact ⟨.slice none 0 0, (by rw [HF.out]; exact rfl), ext_trans HW1.out HB2.out, fun h => by rw [HF.out] at h; cases h⟩
       | true =>
         obtain ⟨xs, hxs⟩ : ∃ xs, (l.take k).map rdv = xs := ⟨_, rfl⟩
         rw [hxs] at HO2 HMA HKL
         clear HO hxs
         have hxl := HKL.out
         have HO3 : Hid (OI w2 w1.heap.size (.slice B xs.length cq) xs) := Lib.hid (by rw [hxl]; exact HO2.out)
         clear hxl
         go_wp2_with (at_builtin; refine wpList_append_i rfl _ _ rfl w1.heap.size (.slice B k cq) xs v rfl rfl HO2.out (by rw [HKL.out]; omega) hsz2 ?_; intro g2 cap w4 hO4 hg4 hlt4)
         go_roundw
         case rel =>
           refine ⟨k + 1, some ⟨g2, 0, none⟩, cap, by omega, by go_num, by rw [HKL.out], Lib.hid HTA.out, Lib.hid ?_, Lib.hid (Chg.ext HB2.out hg4 (fun j hj => (HO2.out.ge j hj).1))⟩
           rw [HMA.out]
           rw [HKL.out] at hO4
           exact hO4
         case measure => simp [intOf]; omega
     · obtain rfl : k = m := by omega
       have HF : Hid (rdNs b s k = true) := Lib.hid (by
         have h := HT.out
         rw [List.take_of_length_le (by rw [HLN.out]; exact Nat.le_refl _)] at h
         rw [HRN.out, h])
       have HO2 : Hid (OI wr w1.heap.size (.slice B k cq) (l.map rdv)) := Lib.hid (by
         have h := HO.out
         rwa [List.take_of_length_le (by rw [HLN.out]; exact Nat.le_refl _)] at h)
       go_wp2_with fail
       go_ret2
       exact ⟨.slice B k cq, (by rw [HF.out]; exact rfl), ext_trans HW1.out HB.out, fun _ => ⟨by rw [HLL.out]; exact HLN.out, ⟨B, cq, rfl⟩, by rw [HLL.out]; exact HO2.out.mono HW1.out.size⟩⟩
 · have HF := Lib.hid (rdNs_len hl)
   have e1 : ((m : Int) != (n : Int)) = true := by simp; omega
   clear hl hne
   go_wp2_with fail
   go_ret2
   exact ⟨.slice none 0 0, (by rw [HF.out]; exact rfl), HW1.out, fun h => by rw [HF.out] at h; cases h⟩
end Go.Proofs.YtfgopboddkhckaaGreatDoor
