/-
  Sorting in a stable way, plain: what a swap of ranges, a rotation, an insertion and a merge in place make of a row. No program in this text.
-/
import Derived.Sort.WalkA
import Derived.Sort.Row
namespace Go.Proofs.Ythcckonkhbmcmaa
open Go.Sort
set_option linter.unusedVariables false
section
variable {α : Type} [Inhabited α]

theorem swp_get (d : Array α) (i j p : Nat) (hi : i < d.size) (hj : j < d.size) : (swp d i j)[p]! = if p = j then d[i]! else if p = i then d[j]! else d[p]! := by
  unfold swp
  by_cases h1 : p = j
  · subst h1
    rw [if_pos rfl, getElem!_set_same _ _ _ (by simpa using hj)]
  · rw [if_neg h1, getElem!_set_other _ _ _ _ h1]
    by_cases h2 : p = i
    · subst h2
      rw [if_pos rfl, getElem!_set_same _ _ _ hi]
    · rw [if_neg h2, getElem!_set_other _ _ _ _ h2]
theorem swp_size (d : Array α) (i j : Nat) : (swp d i j).size = d.size := by unfold swp; simp
theorem ati {X : Array α} {p q : Nat} (h : p = q) : X[p]! = X[q]! := by rw [h]

/-! ### A swap of two ranges -/
def swF (X : Array α) (a b k p : Nat) : α := if a ≤ p ∧ p < a + k then X[p - a + b]! else if b ≤ p ∧ p < b + k then X[p - b + a]! else X[p]!
structure SwR (X Y : Array α) (a b k : Nat) : Prop where
  size : Y.size = X.size
  at_ : ∀ p, Y[p]! = swF X a b k p
theorem SwR.zero (X : Array α) (a b : Nat) : SwR X X a b 0 := ⟨rfl, fun p => by unfold swF; rw [if_neg (by omega), if_neg (by omega)]⟩
theorem SwR.next {X Y : Array α} {a b i k : Nat} (h : SwR X Y a b i) (hi : i < k) (hab : a + k ≤ b) (hb : b + k ≤ X.size) : SwR X (swp Y (a + i) (b + i)) a b (i + 1) := by
  refine ⟨by rw [swp_size, h.size], fun p => ?_⟩
  rw [swp_get _ _ _ _ (by rw [h.size]; omega) (by rw [h.size]; omega), h.at_, h.at_, h.at_]
  unfold swF
  repeat' split
  all_goals first | (exfalso; omega) | exact ati (by omega)

/-! ### A rotation -/
def rotF (X : Array α) (a m b p : Nat) : α := if a ≤ p ∧ p < a + (b - m) then X[p - a + m]! else if a + (b - m) ≤ p ∧ p < b then X[p - (b - m)]! else X[p]!
theorem rot_left {Z Z' : Array α} {m i j : Nat} (h : SwR Z Z' (m - i) m j) (hi : i ≤ m) (hj : 1 ≤ j) (hji : j < i) (p : Nat) : rotF Z' (m - (i - j)) m (m + j) p = rotF Z (m - i) m (m + j) p := by
  unfold rotF
  rw [h.at_, h.at_, h.at_]
  unfold swF
  repeat' split
  all_goals first | (exfalso; omega) | exact ati (by omega)
theorem rot_right {Z Z' : Array α} {m i j : Nat} (h : SwR Z Z' (m - i) (m + j - i) i) (hi : i ≤ m) (h1 : 1 ≤ i) (hij : i < j) (p : Nat) : rotF Z' (m - i) m (m + (j - i)) p = rotF Z (m - i) m (m + j) p := by
  unfold rotF
  rw [h.at_, h.at_, h.at_]
  unfold swF
  repeat' split
  all_goals first | (exfalso; omega) | exact ati (by omega)
theorem rot_last {Z Z' : Array α} {m i : Nat} (h : SwR Z Z' (m - i) m i) (hi : i ≤ m) (p : Nat) : Z'[p]! = rotF Z (m - i) m (m + i) p := by
  unfold rotF
  rw [h.at_]
  unfold swF
  repeat' split
  all_goals first | (exfalso; omega) | exact ati (by omega)
structure RotR (X Y : Array α) (a m b : Nat) : Prop where
  size : Y.size = X.size
  at_ : ∀ p, Y[p]! = rotF X a m b p
theorem RotR.none {X : Array α} {a m b : Nat} (h : a = m ∨ m = b) (ha : a ≤ m) (hb : m ≤ b) : RotR X X a m b := by
  refine ⟨rfl, fun p => ?_⟩
  unfold rotF
  repeat' split
  all_goals first | (exfalso; omega) | exact ati (by omega)

/-! ### The order -/
variable (kd : α → Int) (ki : α → Nat)
/-- By the day, then by the index. -/
def ltK (x y : α) : Prop := kd x < kd y ∨ (kd x = kd y ∧ ki x < ki y)
omit [Inhabited α] in
theorem ltK.trans {kd : α → Int} {ki : α → Nat} {x y z : α} (h : ltK kd ki x y) (k : ltK kd ki y z) : ltK kd ki x z := by unfold ltK at *; omega
omit [Inhabited α] in
theorem ltK.irr {kd : α → Int} {ki : α → Nat} {x y : α} (h : ltK kd ki x y) (k : ltK kd ki y x) : False := by unfold ltK at *; omega
omit [Inhabited α] in
theorem ltK_yes {kd : α → Int} (ki : α → Nat) {x y : α} (h : kd x < kd y) : ltK kd ki x y := Or.inl h
omit [Inhabited α] in
theorem ltK_no {kd : α → Int} {ki : α → Nat} {x y : α} (h : ¬ kd y < kd x) (hk : ki x < ki y) : ltK kd ki x y := by unfold ltK; omega
def SrtK (X : Array α) (a b : Nat) : Prop := ∀ p q, a ≤ p → p < q → q < b → ltK kd ki X[p]! X[q]!
def CrsK (X : Array α) (a m b : Nat) : Prop := ∀ p q, a ≤ p → p < m → m ≤ q → q < b → ki X[p]! < ki X[q]!
/-- Y is X with the part from a to b sorted. -/
structure MgK (X Y : Array α) (a b : Nat) : Prop where
  size : Y.size = X.size
  out : ∀ p, p < a ∨ b ≤ p → Y[p]! = X[p]!
  srt : SrtK kd ki Y a b
  mem : ∀ p, a ≤ p → p < b → ∃ q, a ≤ q ∧ q < b ∧ Y[p]! = X[q]!
variable {kd ki}
theorem MgK.same {X : Array α} {a b : Nat} (h : SrtK kd ki X a b) : MgK kd ki X X a b := ⟨rfl, fun _ _ => rfl, h, fun p h1 h2 => ⟨p, h1, h2, rfl⟩⟩

/-! ### One element into the part behind it -/
def upF (X : Array α) (a k p : Nat) : α := if a ≤ p ∧ p < k then X[p + 1]! else if p = k then X[a]! else X[p]!
structure UpR (X Y : Array α) (a k : Nat) : Prop where
  size : Y.size = X.size
  at_ : ∀ p, Y[p]! = upF X a k p
theorem UpR.zero (X : Array α) (a : Nat) : UpR X X a a := ⟨rfl, fun p => by unfold upF; rw [if_neg (by omega)]; (split; · exact ati (by omega)); rfl⟩
theorem UpR.next {X Y : Array α} {a k : Nat} (h : UpR X Y a k) (ha : a ≤ k) (hk : k + 1 < X.size) : UpR X (swp Y k (k + 1)) a (k + 1) := by
  refine ⟨by rw [swp_size, h.size], fun p => ?_⟩
  rw [swp_get _ _ _ _ (by rw [h.size]; omega) (by rw [h.size]; omega), h.at_, h.at_, h.at_]
  unfold upF
  repeat' split
  all_goals first | (exfalso; omega) | exact ati (by omega)
theorem UpR.mg {X Y : Array α} {a i b : Nat} (h : UpR X Y a (i - 1)) (hs : SrtK kd ki X (a + 1) b) (hi : a + 1 ≤ i) (hib : i ≤ b) (h1 : ∀ p, a + 1 ≤ p → p < i → ltK kd ki X[p]! X[a]!) (h2 : ∀ p, i ≤ p → p < b → ltK kd ki X[a]! X[p]!) : MgK kd ki X Y a b := by
  refine ⟨h.size, fun p hp => ?_, fun p q hp hpq hq => ?_, fun p hp hpb => ?_⟩
  · rw [h.at_]; unfold upF; rw [if_neg (by omega), if_neg (by omega)]
  · rw [h.at_, h.at_]
    unfold upF
    repeat' split
    all_goals first | (exfalso; omega) | exact hs _ _ (by omega) (by omega) (by omega) | exact h1 _ (by omega) (by omega) | exact h2 _ (by omega) (by omega)
  · rw [h.at_]
    unfold upF
    repeat' split
    · exact ⟨p + 1, by omega, by omega, rfl⟩
    · exact ⟨a, by omega, by omega, rfl⟩
    · exact ⟨p, by omega, by omega, rfl⟩
/-! ### One element into the part ahead of it -/
def dnF (X : Array α) (m k p : Nat) : α := if k < p ∧ p ≤ m then X[p - 1]! else if p = k then X[m]! else X[p]!
structure DnR (X Y : Array α) (m k : Nat) : Prop where
  size : Y.size = X.size
  at_ : ∀ p, Y[p]! = dnF X m k p
theorem DnR.zero (X : Array α) (m : Nat) : DnR X X m m := ⟨rfl, fun p => by unfold dnF; rw [if_neg (by omega)]; (split; · exact ati (by omega)); rfl⟩
theorem DnR.next {X Y : Array α} {m k : Nat} (h : DnR X Y m (k + 1)) (hk : k + 1 ≤ m) (hm : m < X.size) : DnR X (swp Y (k + 1) k) m k := by
  refine ⟨by rw [swp_size, h.size], fun p => ?_⟩
  rw [swp_get _ _ _ _ (by rw [h.size]; omega) (by rw [h.size]; omega), h.at_, h.at_, h.at_]
  unfold dnF
  repeat' split
  all_goals first | (exfalso; omega) | exact ati (by omega)
theorem DnR.mg {X Y : Array α} {a m i : Nat} (h : DnR X Y m i) (hs : SrtK kd ki X a m) (hi : a ≤ i) (him : i ≤ m) (h1 : ∀ p, a ≤ p → p < i → ltK kd ki X[p]! X[m]!) (h2 : ∀ p, i ≤ p → p < m → ltK kd ki X[m]! X[p]!) : MgK kd ki X Y a (m + 1) := by
  refine ⟨h.size, fun p hp => ?_, fun p q hp hpq hq => ?_, fun p hp hpb => ?_⟩
  · rw [h.at_]; unfold dnF; rw [if_neg (by omega), if_neg (by omega)]
  · rw [h.at_, h.at_]
    unfold dnF
    repeat' split
    all_goals first | (exfalso; omega) | exact hs _ _ (by omega) (by omega) (by omega) | exact h1 _ (by omega) (by omega) | exact h2 _ (by omega) (by omega)
  · rw [h.at_]
    unfold dnF
    repeat' split
    · exact ⟨p - 1, by omega, by omega, rfl⟩
    · exact ⟨m, by omega, by omega, rfl⟩
    · exact ⟨p, by omega, by omega, rfl⟩

/-! ### The merge in place -/
/-- What the rotation leaves: both halves are merges to be made, and the first is below the second. -/
theorem rot_parts {X Y : Array α} {a m b s md e : Nat} (h : RotR X Y s m e) (ham : a < m) (hmb : m < b) (has : a ≤ s) (hsm : s ≤ m) (hme : m ≤ e) (heb : e ≤ b) (hmd : s + (e - m) = md)
    (h1 : SrtK kd ki X a m) (h2 : SrtK kd ki X m b) (hc : CrsK ki X a m b)
    (hl : ∀ p q, a ≤ p → p < s → e ≤ q → q < b → ltK kd ki X[p]! X[q]!) (hr : ∀ p q, m ≤ p → p < e → s ≤ q → q < m → ltK kd ki X[p]! X[q]!) :
    SrtK kd ki Y a s ∧ SrtK kd ki Y s md ∧ CrsK ki Y a s md ∧ SrtK kd ki Y md e ∧ SrtK kd ki Y e b ∧ CrsK ki Y md e b ∧ (∀ p q, a ≤ p → p < md → md ≤ q → q < b → ltK kd ki Y[p]! Y[q]!) ∧
    (∀ p, p < a ∨ b ≤ p → Y[p]! = X[p]!) ∧ (∀ p, a ≤ p → p < b → ∃ q, a ≤ q ∧ q < b ∧ Y[p]! = X[q]!) := by
  refine ⟨fun p q _ _ _ => ?_, fun p q _ _ _ => ?_, fun p q _ _ _ _ => ?_, fun p q _ _ _ => ?_, fun p q _ _ _ => ?_, fun p q _ _ _ _ => ?_, fun p q _ _ _ _ => ?_, fun p hp => ?_, fun p _ _ => ?_⟩
  · rw [h.at_, h.at_]; unfold rotF; repeat' split
    all_goals first | (exfalso; omega) | exact h1 _ _ (by omega) (by omega) (by omega)
  · rw [h.at_, h.at_]; unfold rotF; repeat' split
    all_goals first | (exfalso; omega) | exact h2 _ _ (by omega) (by omega) (by omega)
  · rw [h.at_, h.at_]; unfold rotF; repeat' split
    all_goals first | (exfalso; omega) | exact hc _ _ (by omega) (by omega) (by omega) (by omega)
  · rw [h.at_, h.at_]; unfold rotF; repeat' split
    all_goals first | (exfalso; omega) | exact h1 _ _ (by omega) (by omega) (by omega)
  · rw [h.at_, h.at_]; unfold rotF; repeat' split
    all_goals first | (exfalso; omega) | exact h2 _ _ (by omega) (by omega) (by omega)
  · rw [h.at_, h.at_]; unfold rotF; repeat' split
    all_goals first | (exfalso; omega) | exact hc _ _ (by omega) (by omega) (by omega) (by omega)
  · rw [h.at_, h.at_]; unfold rotF; repeat' split
    all_goals first | (exfalso; omega) | exact h1 _ _ (by omega) (by omega) (by omega) | exact h2 _ _ (by omega) (by omega) (by omega) | exact hl _ _ (by omega) (by omega) (by omega) (by omega) | exact hr _ _ (by omega) (by omega) (by omega) (by omega)
  · rw [h.at_]; unfold rotF; rw [if_neg (by omega), if_neg (by omega)]
  · rw [h.at_]; unfold rotF; repeat' split
    · exact ⟨_, by omega, by omega, rfl⟩
    · exact ⟨_, by omega, by omega, rfl⟩
    · exact ⟨p, by omega, by omega, rfl⟩
/-- Two halves sorted, the first below the second: the whole is. -/
theorem MgK.join {X Y Z W : Array α} {a md b : Nat} (hY : Y.size = X.size) (ho : ∀ p, p < a ∨ b ≤ p → Y[p]! = X[p]!) (hm : ∀ p, a ≤ p → p < b → ∃ q, a ≤ q ∧ q < b ∧ Y[p]! = X[q]!)
    (hx : ∀ p q, a ≤ p → p < md → md ≤ q → q < b → ltK kd ki Y[p]! Y[q]!) (hamd : a ≤ md) (hmdb : md ≤ b) (h1 : MgK kd ki Y Z a md) (h2 : MgK kd ki Z W md b) : MgK kd ki X W a b := by
  have low : ∀ p, p < md → W[p]! = Z[p]! := fun p hp => h2.out p (Or.inl hp)
  have zhi : ∀ p, md ≤ p → Z[p]! = Y[p]! := fun p hp => h1.out p (Or.inr hp)
  refine ⟨by rw [h2.size, h1.size, hY], fun p hp => ?_, fun p q hp hpq hq => ?_, fun p hp hpb => ?_⟩
  · rcases hp with hp | hp
    · rw [low p (by omega), h1.out p (Or.inl hp), ho p (Or.inl hp)]
    · rw [h2.out p (Or.inr hp), zhi p (by omega), ho p (Or.inr hp)]
  · by_cases hq2 : q < md
    · rw [low p (by omega), low q hq2]; exact h1.srt p q hp hpq hq2
    · by_cases hp2 : p < md
      · rw [low p hp2]
        obtain ⟨p', a1, a2, a3⟩ := h1.mem p hp hp2
        obtain ⟨q', b1, b2, b3⟩ := h2.mem q (by omega) hq
        rw [a3, b3, zhi q' b1]
        exact hx p' q' a1 a2 b1 b2
      · exact h2.srt p q (by omega) hpq hq
  · by_cases hp2 : p < md
    · rw [low p hp2]
      obtain ⟨p', a1, a2, a3⟩ := h1.mem p hp hp2
      obtain ⟨q, c1, c2, c3⟩ := hm p' a1 (by omega)
      exact ⟨q, c1, c2, by rw [a3, c3]⟩
    · obtain ⟨p', a1, a2, a3⟩ := h2.mem p (by omega) hpb
      obtain ⟨q, c1, c2, c3⟩ := hm p' (by omega) a2
      exact ⟨q, c1, c2, by rw [a3, zhi p' a1, c3]⟩

/-! ### Insertion -/
theorem ins_inner {d : Array α} (i a : Nat) (lt : α → α → Bool) (hlt : ∀ x y, lt x y = true ↔ kd x < kd y) : ∀ (j : Nat) (d : Array α), a ≤ j → j ≤ i → i < d.size →
    (∀ p q, a ≤ p → p < q → q ≤ i → p ≠ j → q ≠ j → ltK kd ki d[p]! d[q]!) → (∀ q, j < q → q ≤ i → ltK kd ki d[j]! d[q]!) → (∀ p, a ≤ p → p < j → ki d[p]! < ki d[j]!) → MgK kd ki d (insInner lt a j d) a (i + 1)
  | 0, d, haj, hji, hsz, h1, h2, h3 => by
    rw [insInner]
    refine MgK.same fun p q hp hpq hq => ?_
    by_cases hp0 : p = 0
    · subst hp0; exact h2 q hpq (by omega)
    · exact h1 p q hp hpq (by omega) hp0 (by omega)
  | j + 1, d, haj, hji, hsz, h1, h2, h3 => by
    by_cases hc : j + 1 > a ∧ lt d[j + 1]! d[j]! = true
    · have hr : insInner lt a (j + 1) d = insInner lt a j (swp d (j + 1) j) := by
        rw [insInner, if_pos (by simp [hc.1, hc.2])]
      rw [hr]
      have hkd := (hlt _ _).1 hc.2
      have g := fun p => swp_get d (j + 1) j p (by omega) (by omega)
      have ih := ins_inner (d := d) i a lt hlt j (swp d (j + 1) j) (by omega) (by omega) (by rw [swp_size]; exact hsz) (fun p q hp hpq hq hpj hqj => by
        rw [g, g, if_neg hpj, if_neg hqj]
        by_cases e1 : p = j + 1
        · rw [if_pos e1, if_neg (by omega)]; exact h1 j q (by omega) (by omega) hq (by omega) (by omega)
        · rw [if_neg e1]
          by_cases e2 : q = j + 1
          · rw [if_pos e2]; exact h1 p j hp (by omega) (by omega) e1 (by omega)
          · rw [if_neg e2]; exact h1 p q hp hpq hq e1 e2) (fun q hq hqi => by
        rw [g, g, if_pos rfl, if_neg (by omega)]
        by_cases e2 : q = j + 1
        · rw [if_pos e2]; exact ltK_yes ki hkd
        · rw [if_neg e2]; exact h2 q (by omega) hqi) (fun p hp hpj => by
        rw [g, g, if_pos rfl, if_neg (by omega), if_neg (by omega)]
        exact h3 p hp (by omega))
      refine ⟨by rw [ih.size, swp_size], fun p hp => ?_, ih.srt, fun p hp hpb => ?_⟩
      · rw [ih.out p hp, g, if_neg (by omega), if_neg (by omega)]
      · obtain ⟨q, q1, q2, q3⟩ := ih.mem p hp hpb
        rw [g] at q3
        by_cases e1 : q = j
        · rw [if_pos e1] at q3; exact ⟨j + 1, by omega, by omega, q3⟩
        · rw [if_neg e1] at q3
          by_cases e2 : q = j + 1
          · rw [if_pos e2] at q3; exact ⟨j, by omega, by omega, q3⟩
          · rw [if_neg e2] at q3; exact ⟨q, q1, q2, q3⟩
    · have hr : insInner lt a (j + 1) d = d := by
        rw [insInner, if_neg]
        intro h
        simp only [Bool.and_eq_true, decide_eq_true_eq] at h
        exact hc h
      rw [hr]
      refine MgK.same fun p q hp hpq hq => ?_
      by_cases e1 : p = j + 1
      · subst e1; exact h2 q hpq (by omega)
      · by_cases e2 : q = j + 1
        · subst e2
          have hnl : ¬ kd d[j + 1]! < kd d[j]! := fun h => hc ⟨by omega, (hlt _ _).2 h⟩
          have h4 : ltK kd ki d[j]! d[j + 1]! := ltK_no hnl (h3 j (by omega) (by omega))
          by_cases e3 : p = j
          · subst e3; exact h4
          · exact (h1 p j hp (by omega) (by omega) e1 (by omega)).trans h4
        · exact h1 p q hp hpq (by omega) e1 e2
theorem ins_outer (a b : Nat) (lt : α → α → Bool) (hlt : ∀ x y, lt x y = true ↔ kd x < kd y) : ∀ (n i : Nat) (d : Array α), b - i ≤ n → a ≤ i → i ≤ b → b ≤ d.size →
    SrtK kd ki d a i → (∀ p q, a ≤ p → p < q → i ≤ q → q < b → ki d[p]! < ki d[q]!) → MgK kd ki d (insOuter lt a b i d) a b
  | n, i, d, hn, hai, hib, hb, hs, hk => by
    by_cases hlb : i < b
    · rw [insOuter_go lt a b i d hlb]
      have h1 := ins_inner (kd := kd) (ki := ki) (d := d) i a lt hlt i d hai (Nat.le_refl _) (by omega) (fun p q hp hpq hq hpi hqi => hs p q hp hpq (by omega)) (fun q hq hqi => by omega) (fun p hp hpi => hk p i hp hpi (Nat.le_refl _) hlb)
      match n with
      | 0 => omega
      | n + 1 =>
        have ih := ins_outer a b lt hlt n (i + 1) (insInner lt a i d) (by omega) (by omega) (by omega) (by rw [h1.size]; exact hb) h1.srt (fun p q hp hpq hiq hqb => by
          rw [h1.out q (Or.inr hiq)]
          by_cases hpi : p < i + 1
          · obtain ⟨p', a1, a2, a3⟩ := h1.mem p hp hpi
            rw [a3]
            exact hk p' q a1 (by omega) (by omega) hqb
          · rw [h1.out p (Or.inr (by omega))]
            exact hk p q hp hpq (by omega) hqb)
        refine ⟨by rw [ih.size, h1.size], fun p hp => ?_, ih.srt, fun p hp hpb => ?_⟩
        · rw [ih.out p hp, h1.out p (by omega)]
        · obtain ⟨q, q1, q2, q3⟩ := ih.mem p hp hpb
          by_cases hqi : q < i + 1
          · obtain ⟨q', b1, b2, b3⟩ := h1.mem q q1 hqi
            exact ⟨q', b1, by omega, by rw [q3, b3]⟩
          · exact ⟨q, q1, q2, by rw [q3, h1.out q (Or.inr (by omega))]⟩
    · rw [insOuter_stop lt a b i d hlb]
      have : i = b := by omega
      subst this
      exact MgK.same hs
theorem ins_mg {a b : Nat} {lt : α → α → Bool} (hlt : ∀ x y, lt x y = true ↔ kd x < kd y) {d : Array α} (hab : a ≤ b) (hb : b ≤ d.size) (hk : ∀ p q, a ≤ p → p < q → q < b → ki d[p]! < ki d[q]!) : MgK kd ki d (insertionSort lt d a b) a b := by
  unfold insertionSort
  by_cases h : a + 1 ≤ b
  · exact ins_outer a b lt hlt (b - (a + 1)) (a + 1) d (Nat.le_refl _) (by omega) h hb (fun p q hp hpq hq => by omega) (fun p q hp hpq _ hq => hk p q hp hpq hq)
  · rw [insOuter_stop lt a b (a + 1) d (by omega)]
    exact MgK.same fun p q hp hpq hq => by omega
end

/-! ### Sorted rows of the same elements are one -/
theorem srt_len {β : Type} {R : β → β → Prop} (tr : ∀ x y z, R x y → R y z → R x z) (ir : ∀ x, ¬ R x x) : ∀ (D Y : List β), D.Pairwise R → Y.Pairwise R → (∀ y ∈ Y, y ∈ D) → Y.length ≤ D.length
  | [], Y, _, _, hm => by
    cases Y with
    | nil => exact Nat.le_refl _
    | cons y t => exact absurd (hm y (by simp)) (by simp)
  | d :: D, [], _, _, _ => by simp
  | d :: D, y :: Y, hD, hY, hm => by
    rw [List.pairwise_cons] at hD hY
    have hrest : ∀ z ∈ Y, z ∈ D := fun z hz => by
      rcases List.mem_cons.1 (hm z (List.mem_cons_of_mem _ hz)) with e | e
      · subst e
        rcases List.mem_cons.1 (hm y (by simp)) with e2 | e2
        · subst e2; exact absurd (hY.1 _ hz) (ir _)
        · exact absurd (tr _ _ _ (hD.1 y e2) (hY.1 _ hz)) (ir _)
      · exact e
    have := srt_len tr ir D Y hD.2 hY.2 hrest
    simpa using this
theorem srt_one {β : Type} {R : β → β → Prop} (tr : ∀ x y z, R x y → R y z → R x z) (ir : ∀ x, ¬ R x x) : ∀ (D Y : List β), D.Pairwise R → Y.Pairwise R → (∀ y ∈ Y, y ∈ D) → Y.length = D.length → Y = D
  | [], Y, _, _, _, hl => List.length_eq_zero_iff.1 hl
  | d :: D, [], _, _, _, hl => by simp at hl
  | d :: D, y :: Y, hD, hY, hm, hl => by
    have hD0 := hD
    have hY0 := hY
    rw [List.pairwise_cons] at hD hY
    rcases List.mem_cons.1 (hm y (by simp)) with e | e
    · subst e
      have hrest : ∀ z ∈ Y, z ∈ D := fun z hz => by
        rcases List.mem_cons.1 (hm z (List.mem_cons_of_mem _ hz)) with e | e
        · subst e; exact absurd (hY.1 _ hz) (ir _)
        · exact e
      rw [srt_one tr ir D Y hD.2 hY.2 hrest (by simpa using hl)]
    · have hall : ∀ z ∈ y :: Y, z ∈ D := fun z hz => by
        rcases List.mem_cons.1 hz with e2 | e2
        · subst e2; exact e
        · rcases List.mem_cons.1 (hm z hz) with e3 | e3
          · subst e3; exact absurd (tr _ _ _ (hD.1 y e) (hY.1 _ e2)) (ir _)
          · exact e3
      have := srt_len tr ir D (y :: Y) hD.2 hY0 hall
      simp at this hl
      omega
end Go.Proofs.Ythcckonkhbmcmaa
