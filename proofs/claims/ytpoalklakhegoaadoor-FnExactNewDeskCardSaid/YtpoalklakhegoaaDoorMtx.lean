/-
  The marks' texts (markText): m and a number in decimal.
-/
import Derived.Test.YtpoalklakhegoaaDoorBase
import Derived.Laws.IdiomStrings
namespace Go.Proofs.YtpoalklakhegoaaDoor
open Go.ChangeShapes Go.WideShapes Go.ChangeAt Go.RowKit Go.Sort
set_option linter.unusedVariables false
set_option maxRecDepth 8000

def mdig : Nat → Nat → List UInt8 → List UInt8
  | 0, _, out => out
  | f + 1, k, out => if k = 0 then out else mdig f (k / 10) (UInt8.ofNat (48 + k % 10) :: out)
def mtx (k : Int) : ByteArray := if k ≤ 0 then ⟨#[109, 48]⟩ else ⟨#[109]⟩ ++ ⟨(mdig 20 k.toNat []).toArray⟩
theorem conv_lit (w : World) (x : UInt8) : (convert 54 9 (.slice (some ⟨w.heap.size, 0, none⟩) 1 1)).run Tryd.prog (w.alloc (.cells #[.int .u8 (x.toNat : Int)] 5)) = .ok (.string ⟨#[x]⟩) (w.alloc (.cells #[.int .u8 (x.toNat : Int)] 5)) :=
  run_convert_bytes_back _ _ _ _ ⟨w.heap.size, 0, none⟩ 1 [x] Tryd.underlying54 Tryd.underlying5 Tryd.underlying9 (fun j hj => by
    have : j = 0 := by simp at hj; omega
    subst this
    simp [Addr.add, go_sem])
theorem cat_one (x : UInt8) (l : List UInt8) : (⟨#[x]⟩ : ByteArray) ++ ⟨l.toArray⟩ = ⟨(x :: l).toArray⟩ := by
  apply ByteArray.ext
  simp [ByteArray.data_append]

set_option maxHeartbeats 800000 in
theorem mark_text (j : Int) (hj0 : 0 ≤ j) (hj : j ≤ 1099511627776 * 16) (w : World) :
    Calls Tryd.prog 22 #[.int .i64 j] w (Ret (.string (mtx j)) w) := by
  obtain ⟨n, rfl⟩ := Int.eq_ofNat_of_zero_le hj0
  by_cases h0 : n = 0
  · subst h0
    go_enter Tryd.func22, Tryd.ntmps22
    go_wp2_with fail
    go_ret
    exact ⟨rfl, ext_refl _⟩
  · have e0 : ¬ (n : Int) ≤ 0 := by omega
    have HM : Hid (mtx n = ⟨#[109]⟩ ++ ⟨(mdig 20 n []).toArray⟩) := Lib.hid (by unfold mtx; rw [if_neg e0]; rfl)
    go_enter Tryd.func22, Tryd.ntmps22
    go_wp2_with fail
    go_loopw [0, 3] (fun i o wr => ∃ (f k : Nat) (l : List UInt8), i = .int .i64 k ∧ o = .string ⟨l.toArray⟩ ∧ l.length + f = 20 ∧ k ≤ n ∧ k < 10 ^ f ∧ Hid (mdig f k l = mdig 20 n []) ∧ Below w.heap.size w wr) (fun i _ _ => (intOf i).toNat)
    case atStart => exact ⟨20, n, [], rfl, rfl, rfl, Nat.le_refl _, by omega, rfl, ext_refl _⟩
    case round =>
      obtain ⟨f, k, l, rfl, rfl, hlf, hkn, hkf, HD, hbw⟩ := hrel
      have hsz : (⟨l.toArray⟩ : ByteArray).size = l.length := by simp [ByteArray.size]
      have hsz1 : (⟨#[109]⟩ : ByteArray).size = 1 := rfl
      by_cases hk : k = 0
      · subst hk
        have e1 : ¬ (0:Int) < ((0:Nat):Int) := by omega
        have HX : Hid (mdig 20 n [] = l) := Lib.hid (by rw [← HD.out]; cases f <;> rfl)
        have hcat : ¬ 9223372036854775807 < (⟨#[109]⟩ : ByteArray).size + (⟨l.toArray⟩ : ByteArray).size := by rw [hsz, hsz1]; omega
        clear hsz hsz1
        go_wp2_with fail
        go_ret
        exact ⟨by rw [HM.out, HX.out]; rfl, hbw⟩
      · have e1 : (0:Int) < k := by omega
        obtain ⟨g, rfl⟩ : ∃ g, f = g + 1 := ⟨f - 1, by
          rcases Nat.eq_zero_or_pos f with h | h
          · subst h; simp at hkf; omega
          · omega⟩
        have HD1 : Hid (mdig g (k / 10) (UInt8.ofNat (48 + k % 10) :: l) = mdig 20 n []) := Lib.hid (by have := HD.out; rwa [mdig, if_neg hk] at this)
        have hkg : k / 10 < 10 ^ g := by rw [Nat.pow_succ] at hkf; omega
        have hx : ((UInt8.ofNat (48 + k % 10)).toNat : Int) = 48 + (k:Int) % 10 := by
          have : k % 10 < 10 := Nat.mod_lt _ (by omega)
          rw [UInt8.toNat_ofNat_of_lt' (by show 48 + k % 10 < 256; omega)]
          omega
        obtain ⟨x, hxx⟩ : ∃ x, UInt8.ofNat (48 + k % 10) = x := ⟨_, rfl⟩
        rw [hxx] at hx HD1
        clear hxx
        have hcv := conv_lit wr x
        rw [hx] at hcv
        have hcat : ¬ 9223372036854775807 < (⟨#[x]⟩ : ByteArray).size + (⟨l.toArray⟩ : ByteArray).size := by rw [hsz]; show ¬ 9223372036854775807 < 1 + l.length; omega
        have hw : wrap64 ((k:Int) / 10) = (k:Int) / 10 := by unfold wrap64; omega
        have HC := Lib.hid (cat_one (x) l)
        clear hsz hsz1 hx
        go_wp2_with fail
        go_roundw
        case rel => exact ⟨g, k / 10, x :: l, by go_num, by rw [HC.out], by rw [List.length_cons]; omega, by omega, hkg, HD1.out, ext_alloc hbw _⟩
        case measure => simp [intOf]; omega

end Go.Proofs.YtpoalklakhegoaaDoor
