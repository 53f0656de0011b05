/-
  Parts of the proof: Rd1, Ss8, SsL, SbP.
-/
import Derived.Test.YtfgopboddkhckaaGreatDoorKw32
import Derived.Deep.DeepCutAuto
import Derived.Deep.CutBlock
namespace Go.Proofs.YtfgopboddkhckaaGreatDoor
open Go.ChangeShapes Go.WideShapes Go.ChangeAt Go.RowKit Go.Sort Go.Joins
set_option linter.unusedVariables false
set_option maxRecDepth 100000
theorem dr_put (W : World) (r : Nat) {y0 y1 y2 y3 y4 y5 y6 y7 : Value} (z0 : W.cell? ⟨r, 0, none⟩ = some y0) (z1 : W.cell? ⟨r, 1, none⟩ = some y1) (z2 : W.cell? ⟨r, 2, none⟩ = some y2) (z3 : W.cell? ⟨r, 3, none⟩ = some y3) (z4 : W.cell? ⟨r, 4, none⟩ = some y4) (z5 : W.cell? ⟨r, 5, none⟩ = some y5) (z6 : W.cell? ⟨r, 6, none⟩ = some y6) (z7 : W.cell? ⟨r, 7, none⟩ = some y7) (x0 x1 x2 x3 x4 x5 x6 x7 : Value) : DR W (P8 W r x0 x1 x2 x3 x4 x5 x6 x7) r x0 x1 x2 x3 x4 x5 x6 x7 :=
 ⟨chg8 _ _ _ _ _ _ _ _ _ _, by simp, by simp [go_sem, z0], by simp [go_sem, z1], by simp [go_sem, z2], by simp [go_sem, z3], by simp [go_sem, z4], by simp [go_sem, z5], by simp [go_sem, z6], by simp [go_sem, z7]⟩
theorem step_append_rd {P : Program} {w : World} {ops : Array Oper} {o : Oper} {a : Act} {K : Act → World → Prop} {Q : Exit → Act → World → Prop} {E : Prop} (hgd : o.guard = none) (s x : Operand) (t : TypeId)
   (ho : o.op = .call { callee := .builtin .append, args := #[s, x], argTypes := #[t, t] })
   (base : Nat) (e : TypeId) (i : TypeInfo) (z : Value) (size bytes : Nat) (ht : P.underlying t = some (.slice e)) (hi : P.info? e = some i) (hz : i.zero = some z)
   (hsize : i.size = size) (hby : i.bytes = bytes) (hzs : z.cells.size = size) (hsz : 0 < size)
   (v : Value) (n : Nat) (xs : List Value) (hs : a.eval s = v) (hown : w.ownsRow base e size v n xs)
   (A : Option Addr) (m c : Nat) (news : List Value) (hx : a.eval x = .slice A m c) (hr : Rd w size (.slice A m c) m news) (h1 : ∀ u ∈ news, u.oneCell' = true)
   (h63 : n + m ≤ maxLen) (hbytes : (n + m) * bytes ≤ 140737488355328) (hbase : base ≤ w.heap.size)
   (h : ∀ v' w', w'.ownsRow base e size v' (n + m) (xs ++ news) → w.grownBy w' v.ownBlock → (v'.ownBlock = v.ownBlock ∨ v'.ownBlock = some w.heap.size) → K (a.put o.dst v') w') :
   if Region.wanted o (yielded ops a.tmps) = true then Oper.wp P o a w K Q else E := by
 obtain ⟨v', w', hrun, h2, h3, h4⟩ := run_append_rd (P := P) w base t o.type e i z size bytes ht hi hz hsize hby hzs hsz v n xs hown A m c news hr h1 h63 hbytes hbase
 have hw : Region.wanted o (yielded ops a.tmps) = true := by simp [Region.wanted, hgd]
 rw [if_pos hw]
 unfold Oper.wp execOp
 simp only [ho, resolve, invoke, builtin, Sem.run_bind, Sem.run_pure, Result.andThen_ok, List.map_toArray, List.map_cons, List.map_nil, hs, hx, hrun]
 exact h v' w' h2 h3 h4
theorem step_copy_s {w : World} {ops : Array Oper} {o : Oper} {a : Act} {K : Act → World → Prop} {Q : Exit → Act → World → Prop} {E : Prop} (hgd : o.guard = none) (s x : Operand)
   (ho : o.op = .call { callee := .builtin .append, args := #[s, x], argTypes := #[29, 29] })
   (base : Nat) (H : Nat) (B : Option Addr) (e : Nat) (ys : List ByteArray) (hs : a.eval s = .slice (some ⟨H, 0, none⟩) 0 0) (hx : a.eval x = .slice B ys.length e) (hO : OStr w base (.slice (some ⟨H, 0, none⟩) 0 0) []) (hR : RStr w (.slice B ys.length e) ys)
   (hl2 : ys.length ≤ 1099511627776) (hbase : base ≤ w.heap.size)
   (h : ∀ A c w', OStr w' base (.slice A ys.length c) ys → Chg (fun k => k = H) w w' → (∀ j, BI (.slice A ys.length c) j → j = H ∨ j = w.heap.size) → K (a.put o.dst (.slice A ys.length c)) w') : if Region.wanted o (yielded ops a.tmps) = true then Oper.wp Tryz.prog o a w K Q else E := by
 obtain ⟨i0, hi, hz0, hz1, hz2⟩ := info_parts info_str
 refine step_append_rd hgd s x _ ho base 9 i0 (.string ⟨#[]⟩) 1 16 Tryz.underlying29 hi hz0 hz1 hz2 rfl (by omega) _ 0 [] hs hO B ys.length e (ys.map Value.string) hx hR (by simp [Value.oneCell']) (by unfold maxLen; omega) (by omega) hbase ?_
 intro v' w' hown hgrow hat
 rw [Nat.zero_add, List.nil_append] at hown
 have hO' : OStr w' base v' ys := hown
 have hO2 := hO'
 obtain ⟨_, A', c', rfl, _⟩ := hO2.rd
 refine h A' c' w' hO' ((Chg.of_grown hgrow).mono fun k hk => (Option.some.inj hk).symm) fun j hj => ?_
 unfold BI at hj
 rcases hat with hat | hat
 · rw [hat] at hj; exact .inl (Option.some.inj hj).symm
 · rw [hat] at hj; exact .inr (Option.some.inj hj).symm
theorem step_copy_c {w : World} {ops : Array Oper} {o : Oper} {a : Act} {K : Act → World → Prop} {Q : Exit → Act → World → Prop} {E : Prop} (hgd : o.guard = none) (s x : Operand)
   (ho : o.op = .call { callee := .builtin .append, args := #[s, x], argTypes := #[34, 34] })
   (base : Nat) (H : Nat) (B : Option Addr) (e : Nat) (ys : List CO) (hs : a.eval s = .slice (some ⟨H, 0, none⟩) 0 0) (hx : a.eval x = .slice B ys.length e) (hO : OCOS w base (.slice (some ⟨H, 0, none⟩) 0 0) []) (hR : RCOS w (.slice B ys.length e) ys)
   (hl2 : ys.length ≤ 1099511627) (hbase : base ≤ w.heap.size)
   (h : ∀ A c w', OCOS w' base (.slice A ys.length c) ys → Chg (fun k => k = H) w w' → (∀ j, BI (.slice A ys.length c) j → j = H ∨ j = w.heap.size) → K (a.put o.dst (.slice A ys.length c)) w') : if Region.wanted o (yielded ops a.tmps) = true then Oper.wp Tryz.prog o a w K Q else E := by
 obtain ⟨i0, hi, hz0, hz1, hz2⟩ := info_parts info_CO
 refine step_append_rd hgd s x _ ho base 102 i0 _ 2 32 Tryz.underlying34 hi hz0 hz1 hz2 rfl (by omega) _ 0 [] hs hO B ys.length e (ys.flatMap cCO) hx hR (by intro u hu; obtain ⟨o, _, hu⟩ := List.mem_flatMap.1 hu; simp [cCO] at hu; rcases hu with rfl | rfl <;> rfl) (by unfold maxLen; omega) (by omega) hbase ?_
 intro v' w' hown hgrow hat
 rw [Nat.zero_add, List.nil_append] at hown
 have hO' : OCOS w' base v' ys := hown
 have hO2 := hO'
 obtain ⟨_, A', c', rfl, _⟩ := hO2.rd
 refine h A' c' w' hO' ((Chg.of_grown hgrow).mono fun k hk => (Option.some.inj hk).symm) fun j hj => ?_
 unfold BI at hj
 rcases hat with hat | hat
 · rw [hat] at hj; exact .inl (Option.some.inj hj).symm
 · rw [hat] at hj; exact .inr (Option.some.inj hj).symm
theorem ocos_lit (w : World) (base : Nat) (h : base ≤ w.heap.size) : OCOS (w.alloc (.cells #[] 102)) base (.slice (some ⟨w.heap.size, 0, none⟩) 0 0) [] := World.ownsRow_lit _ #[] 0 h (by simp [maxLen]) (by simp)
set_option maxHeartbeats 6400000 in
theorem spec_Copy (p : Nat) (d : DK) (A : Option Addr) (c : Nat) (B : Option Addr) (e : Nat) (w : World) (hP : PDK w p d A c B e) (hcs : RCOS w (.slice A d.cs.length c) d.cs) (hwl : RStr w (.slice B d.wall.length e) d.wall) (hsm : SmDK d) :
   Calls Tryz.prog 33 #[.pointer (some ⟨p, 0, none⟩)] w (fun e' w' => ∃ v, e' = .returned v ∧ ODK w' w.heap.size v d ∧ Below w.heap.size w w') := by
 have HCS := Lib.hid (fun W (h : Below w.heap.size w W) => hcs.ext h)
 have HWL := Lib.hid (fun W (h : Below w.heap.size w W) => hwl.ext h)
 have hl1 : d.cs.length ≤ 1048576 := by unfold SmDK totDK at hsm; omega
 have hl2 : d.wall.length ≤ 1048576 := by unfold SmDK totDK at hsm; omega
 obtain ⟨k0, k1, k2, k3, k4, k5, k6, k7⟩ := hP
 have hp : p < w.heap.size := block_lt_of_cell k0
 have hpn : p ≠ w.heap.size := by omega
 clear hcs hwl hsm
 have HB1 : Below w.heap.size w (w.alloc (.cells #[.int .i64 0, .int .i64 0, .int .i64 0, .int .i64 0, .string ⟨#[]⟩, .slice none 0 0, .slice none 0 0, .string ⟨#[]⟩] 38)) := ext_alloc1 _ _
 have z0 : (w.alloc (.cells #[.int .i64 0, .int .i64 0, .int .i64 0, .int .i64 0, .string ⟨#[]⟩, .slice none 0 0, .slice none 0 0, .string ⟨#[]⟩] 38)).cell? ⟨w.heap.size, 0, none⟩ = some (.int .i64 0) := by simp [go_sem]
 have z1 : (w.alloc (.cells #[.int .i64 0, .int .i64 0, .int .i64 0, .int .i64 0, .string ⟨#[]⟩, .slice none 0 0, .slice none 0 0, .string ⟨#[]⟩] 38)).cell? ⟨w.heap.size, 1, none⟩ = some (.int .i64 0) := by simp [go_sem]
 have z2 : (w.alloc (.cells #[.int .i64 0, .int .i64 0, .int .i64 0, .int .i64 0, .string ⟨#[]⟩, .slice none 0 0, .slice none 0 0, .string ⟨#[]⟩] 38)).cell? ⟨w.heap.size, 2, none⟩ = some (.int .i64 0) := by simp [go_sem]
 have z3 : (w.alloc (.cells #[.int .i64 0, .int .i64 0, .int .i64 0, .int .i64 0, .string ⟨#[]⟩, .slice none 0 0, .slice none 0 0, .string ⟨#[]⟩] 38)).cell? ⟨w.heap.size, 3, none⟩ = some (.int .i64 0) := by simp [go_sem]
 have z4 : (w.alloc (.cells #[.int .i64 0, .int .i64 0, .int .i64 0, .int .i64 0, .string ⟨#[]⟩, .slice none 0 0, .slice none 0 0, .string ⟨#[]⟩] 38)).cell? ⟨w.heap.size, 4, none⟩ = some (.string ⟨#[]⟩) := by simp [go_sem]
 have z5 : (w.alloc (.cells #[.int .i64 0, .int .i64 0, .int .i64 0, .int .i64 0, .string ⟨#[]⟩, .slice none 0 0, .slice none 0 0, .string ⟨#[]⟩] 38)).cell? ⟨w.heap.size, 5, none⟩ = some (.slice none 0 0) := by simp [go_sem]
 have z6 : (w.alloc (.cells #[.int .i64 0, .int .i64 0, .int .i64 0, .int .i64 0, .string ⟨#[]⟩, .slice none 0 0, .slice none 0 0, .string ⟨#[]⟩] 38)).cell? ⟨w.heap.size, 6, none⟩ = some (.slice none 0 0) := by simp [go_sem]
 have z7 : (w.alloc (.cells #[.int .i64 0, .int .i64 0, .int .i64 0, .int .i64 0, .string ⟨#[]⟩, .slice none 0 0, .slice none 0 0, .string ⟨#[]⟩] 38)).cell? ⟨w.heap.size, 7, none⟩ = some (.string ⟨#[]⟩) := by simp [go_sem]
 have zf : ∀ j, (w.alloc (.cells #[.int .i64 0, .int .i64 0, .int .i64 0, .int .i64 0, .string ⟨#[]⟩, .slice none 0 0, .slice none 0 0, .string ⟨#[]⟩] 38)).frozen? ⟨w.heap.size, j, none⟩ = false := fun j => by simp [go_sem]
 have hs1 : (w.alloc (.cells #[.int .i64 0, .int .i64 0, .int .i64 0, .int .i64 0, .string ⟨#[]⟩, .slice none 0 0, .slice none 0 0, .string ⟨#[]⟩] 38)).heap.size = w.heap.size + 1 := by simp
 go_enter Tryz.func33, Tryz.ntmps33
 go_upto_region 1 with fail
 obtain ⟨w1, hw1⟩ : ∃ x, w.alloc (.cells #[.int .i64 0, .int .i64 0, .int .i64 0, .int .i64 0, .string ⟨#[]⟩, .slice none 0 0, .slice none 0 0, .string ⟨#[]⟩] 38) = x := ⟨_, rfl⟩
 rw [hw1] at HB1 z0 z1 z2 z3 z4 z5 z6 z7 zf hs1
 rw [hw1]
 clear hw1
 obtain ⟨r, hr⟩ : ∃ r, w.heap.size = r := ⟨_, rfl⟩
 have HBW := Lib.hid HB1
 replace k0 := cell_keep k0 HB1
 replace k1 := cell_keep k1 HB1
 replace k2 := cell_keep k2 HB1
 replace k3 := cell_keep k3 HB1
 replace k4 := cell_keep k4 HB1
 replace k5 := cell_keep k5 HB1
 replace k6 := cell_keep k6 HB1
 replace k7 := cell_keep k7 HB1
 rw [hr] at z0 z1 z2 z3 z4 z5 z6 z7 zf hs1 hp hpn
 simp only [hr]
 obtain ⟨n, hn⟩ : ∃ n, w1.heap.size = n := ⟨_, rfl⟩
 have hrn : r < n := by omega
 have hpw : p < n := by omega
 clear hs1
 have kd0 := cell_keep k0 (ext_drew (w := w1) (ext_refl _))
 have ka0 := fun o => cell_keep k0 (ext_drew (ext_alloc1 w1 o))
 have kb0 := fun o o2 => cell_keep k0 (ext_drew (ext_alloc (ext_alloc1 w1 o) o2))
 have kd1 := cell_keep k1 (ext_drew (w := w1) (ext_refl _))
 have ka1 := fun o => cell_keep k1 (ext_drew (ext_alloc1 w1 o))
 have kb1 := fun o o2 => cell_keep k1 (ext_drew (ext_alloc (ext_alloc1 w1 o) o2))
 have kd2 := cell_keep k2 (ext_drew (w := w1) (ext_refl _))
 have ka2 := fun o => cell_keep k2 (ext_drew (ext_alloc1 w1 o))
 have kb2 := fun o o2 => cell_keep k2 (ext_drew (ext_alloc (ext_alloc1 w1 o) o2))
 have kd3 := cell_keep k3 (ext_drew (w := w1) (ext_refl _))
 have ka3 := fun o => cell_keep k3 (ext_drew (ext_alloc1 w1 o))
 have kb3 := fun o o2 => cell_keep k3 (ext_drew (ext_alloc (ext_alloc1 w1 o) o2))
 have kd4 := cell_keep k4 (ext_drew (w := w1) (ext_refl _))
 have ka4 := fun o => cell_keep k4 (ext_drew (ext_alloc1 w1 o))
 have kb4 := fun o o2 => cell_keep k4 (ext_drew (ext_alloc (ext_alloc1 w1 o) o2))
 have kd5 := cell_keep k5 (ext_drew (w := w1) (ext_refl _))
 have ka5 := fun o => cell_keep k5 (ext_drew (ext_alloc1 w1 o))
 have kb5 := fun o o2 => cell_keep k5 (ext_drew (ext_alloc (ext_alloc1 w1 o) o2))
 have kd6 := cell_keep k6 (ext_drew (w := w1) (ext_refl _))
 have ka6 := fun o => cell_keep k6 (ext_drew (ext_alloc1 w1 o))
 have kb6 := fun o o2 => cell_keep k6 (ext_drew (ext_alloc (ext_alloc1 w1 o) o2))
 have kd7 := cell_keep k7 (ext_drew (w := w1) (ext_refl _))
 have ka7 := fun o => cell_keep k7 (ext_drew (ext_alloc1 w1 o))
 have kb7 := fun o o2 => cell_keep k7 (ext_drew (ext_alloc (ext_alloc1 w1 o) o2))
 have La : OCOS (w1.alloc (.cells #[] 102)).drew n (.slice (some ⟨n, 0, none⟩) 0 0) [] := by rw [← hn]; exact (ocos_lit w1 w1.heap.size (Nat.le_refl _)).ext (ext_drew (ext_refl _))
 have Lb : OCOS ((w1.alloc (.cells #[] 102)).alloc (.cells #[] 9)).drew n (.slice (some ⟨n, 0, none⟩) 0 0) [] := by rw [← hn]; exact (ocos_lit w1 w1.heap.size (Nat.le_refl _)).ext (ext_drew (ext_alloc1 _ _))
 have Lc : OCOS ((w1.alloc (.cells #[] 9)).alloc (.cells #[] 102)).drew n (.slice (some ⟨n + 1, 0, none⟩) 0 0) [] := by have h := ocos_lit (w1.alloc (.cells #[] 9)) n (by simp; omega); rw [World.size_alloc, hn] at h; exact h.ext (ext_drew (ext_refl _))
 have Sa : OStr (w1.alloc (.cells #[] 9)).drew n (.slice (some ⟨n, 0, none⟩) 0 0) [] := by rw [← hn]; exact (ostr_lit w1 w1.heap.size (Nat.le_refl _)).ext (ext_drew (ext_refl _))
 have Sb : OStr ((w1.alloc (.cells #[] 9)).alloc (.cells #[] 102)).drew n (.slice (some ⟨n, 0, none⟩) 0 0) [] := by rw [← hn]; exact (ostr_lit w1 w1.heap.size (Nat.le_refl _)).ext (ext_drew (ext_alloc1 _ _))
 have Sc : OStr ((w1.alloc (.cells #[] 102)).alloc (.cells #[] 9)).drew n (.slice (some ⟨n + 1, 0, none⟩) 0 0) [] := by have h := ostr_lit (w1.alloc (.cells #[] 102)) n (by simp; omega); rw [World.size_alloc, hn] at h; exact h.ext (ext_drew (ext_refl _))
 have hpr : p ≠ r := by omega
 first
   | go_region_held3 (fun w' => w'.cell? ⟨p, 0, none⟩ = some (.int .i64 d.f.l) ∧ w'.cell? ⟨p, 1, none⟩ = some (.int .i64 d.f.w) ∧ w'.cell? ⟨p, 2, none⟩ = some (.int .i64 d.f.h) ∧ w'.cell? ⟨p, 3, none⟩ = some (.int .i64 d.f.j) ∧ w'.cell? ⟨p, 4, none⟩ = some (.string d.nm) ∧ w'.cell? ⟨p, 5, none⟩ = some (.slice A d.cs.length c) ∧ w'.cell? ⟨p, 6, none⟩ = some (.slice B d.wall.length e) ∧ w'.cell? ⟨p, 7, none⟩ = some (.string d.log)) (first | with_reducible exact ⟨kd0, kd1, kd2, kd3, kd4, kd5, kd6, kd7⟩ | with_reducible exact ⟨ka0 _, ka1 _, ka2 _, ka3 _, ka4 _, ka5 _, ka6 _, ka7 _⟩ | with_reducible exact ⟨kb0 _ _, kb1 _ _, kb2 _ _, kb3 _ _, kb4 _ _, kb5 _ _, kb6 _ _, kb7 _ _⟩ | with_reducible exact ⟨m0, m1, m2, m3, m4, m5, m6, m7⟩ | with_reducible exact ⟨n0, n1, n2, n3, n4, n5, n6, n7⟩ | with_reducible exact ⟨(chg8 w5 r _ _ _ _ _ _ _ _).cell n0 hpr, (chg8 w5 r _ _ _ _ _ _ _ _).cell n1 hpr, (chg8 w5 r _ _ _ _ _ _ _ _).cell n2 hpr, (chg8 w5 r _ _ _ _ _ _ _ _).cell n3 hpr, (chg8 w5 r _ _ _ _ _ _ _ _).cell n4 hpr, (chg8 w5 r _ _ _ _ _ _ _ _).cell n5 hpr, (chg8 w5 r _ _ _ _ _ _ _ _).cell n6 hpr, (chg8 w5 r _ _ _ _ _ _ _ _).cell n7 hpr⟩ | with_reducible exact ⟨cell_keep m0 (ext_alloc1 _ _), cell_keep m1 (ext_alloc1 _ _), cell_keep m2 (ext_alloc1 _ _), cell_keep m3 (ext_alloc1 _ _), cell_keep m4 (ext_alloc1 _ _), cell_keep m5 (ext_alloc1 _ _), cell_keep m6 (ext_alloc1 _ _), cell_keep m7 (ext_alloc1 _ _)⟩) (first
     | ((with_reducible change (if Region.wanted _ (yielded _ _) = true then Oper.wp Tryz.prog _ _ (World.drew (w1.alloc (.cells #[] 102))) _ _ else _)); refine step_copy_c (by rfl) _ _ (by rfl) n n A c d.cs (by rfl) (by rfl) La (HCS.out _ (ext_trans HBW.out (ext_drew (ext_alloc1 w1 _)))) (by omega) (by simp; omega) ?_; intro A4 c4 w4 hO4 hc4 hat4; (have HX4 := Lib.hid (Chg.trans (Chg.of_below (ext_drew (ext_alloc1 w1 _)) (fun k => n ≤ k)) (hc4.mono (fun k (hk : k = n) => by omega)))); (have HF4 := Lib.hid hO4); (have hT4 : ∀ j, BI (.slice A4 d.cs.length c4) j → j = n ∨ j = n + 1 := fun j hj => by have h := hat4 j hj; have e : ((w1.alloc (.cells #[] 102)).drew).heap.size = n + 1 := (by simp [hn]); omega); (have hn4 : n ≤ w4.heap.size := by have := HX4.out.size; omega); (have m0 := HX4.out.cell k0 (by show ¬ n ≤ p; omega)); (have m1 := HX4.out.cell k1 (by show ¬ n ≤ p; omega)); (have m2 := HX4.out.cell k2 (by show ¬ n ≤ p; omega)); (have m3 := HX4.out.cell k3 (by show ¬ n ≤ p; omega)); (have m4 := HX4.out.cell k4 (by show ¬ n ≤ p; omega)); (have m5 := HX4.out.cell k5 (by show ¬ n ≤ p; omega)); (have m6 := HX4.out.cell k6 (by show ¬ n ≤ p; omega)); (have m7 := HX4.out.cell k7 (by show ¬ n ≤ p; omega)); clear hO4 hat4)
     | ((with_reducible change (if Region.wanted _ (yielded _ _) = true then Oper.wp Tryz.prog _ _ (World.drew ((w1.alloc (.cells #[] 102)).alloc (.cells #[] 9))) _ _ else _)); refine step_copy_c (by rfl) _ _ (by rfl) n n A c d.cs (by rfl) (by rfl) Lb (HCS.out _ (ext_trans HBW.out (ext_drew (ext_alloc (ext_alloc1 w1 _) _)))) (by omega) (by simp; omega) ?_; intro A4 c4 w4 hO4 hc4 hat4; (have HX4 := Lib.hid (Chg.trans (Chg.of_below (ext_drew (ext_alloc (ext_alloc1 w1 _) _)) (fun k => n ≤ k)) (hc4.mono (fun k (hk : k = n) => by omega)))); (have HF4 := Lib.hid hO4); (have hT4 : ∀ j, BI (.slice A4 d.cs.length c4) j → j = n ∨ j = n + 2 := fun j hj => by have h := hat4 j hj; have e : (((w1.alloc (.cells #[] 102)).alloc (.cells #[] 9)).drew).heap.size = n + 2 := (by simp [hn]); omega); (have hn4 : n ≤ w4.heap.size := by have := HX4.out.size; omega); (have m0 := HX4.out.cell k0 (by show ¬ n ≤ p; omega)); (have m1 := HX4.out.cell k1 (by show ¬ n ≤ p; omega)); (have m2 := HX4.out.cell k2 (by show ¬ n ≤ p; omega)); (have m3 := HX4.out.cell k3 (by show ¬ n ≤ p; omega)); (have m4 := HX4.out.cell k4 (by show ¬ n ≤ p; omega)); (have m5 := HX4.out.cell k5 (by show ¬ n ≤ p; omega)); (have m6 := HX4.out.cell k6 (by show ¬ n ≤ p; omega)); (have m7 := HX4.out.cell k7 (by show ¬ n ≤ p; omega)); (have X4 := (Sc).chg hc4 (fun k hk (e2 : k = n) => by have e3 : n + 1 = k := Option.some.inj hk; omega)); clear hO4 hat4)
     | ((with_reducible change (if Region.wanted _ (yielded _ _) = true then Oper.wp Tryz.prog _ _ (World.drew ((w1.alloc (.cells #[] 9)).alloc (.cells #[] 102))) _ _ else _)); refine step_copy_c (by rfl) _ _ (by rfl) n (n + 1) A c d.cs (by rfl) (by rfl) Lc (HCS.out _ (ext_trans HBW.out (ext_drew (ext_alloc (ext_alloc1 w1 _) _)))) (by omega) (by simp; omega) ?_; intro A4 c4 w4 hO4 hc4 hat4; (have HX4 := Lib.hid (Chg.trans (Chg.of_below (ext_drew (ext_alloc (ext_alloc1 w1 _) _)) (fun k => n ≤ k)) (hc4.mono (fun k (hk : k = (n + 1)) => by omega)))); (have HF4 := Lib.hid hO4); (have hT4 : ∀ j, BI (.slice A4 d.cs.length c4) j → j = (n + 1) ∨ j = n + 2 := fun j hj => by have h := hat4 j hj; have e : (((w1.alloc (.cells #[] 9)).alloc (.cells #[] 102)).drew).heap.size = n + 2 := (by simp [hn]); omega); (have hn4 : n ≤ w4.heap.size := by have := HX4.out.size; omega); (have m0 := HX4.out.cell k0 (by show ¬ n ≤ p; omega)); (have m1 := HX4.out.cell k1 (by show ¬ n ≤ p; omega)); (have m2 := HX4.out.cell k2 (by show ¬ n ≤ p; omega)); (have m3 := HX4.out.cell k3 (by show ¬ n ≤ p; omega)); (have m4 := HX4.out.cell k4 (by show ¬ n ≤ p; omega)); (have m5 := HX4.out.cell k5 (by show ¬ n ≤ p; omega)); (have m6 := HX4.out.cell k6 (by show ¬ n ≤ p; omega)); (have m7 := HX4.out.cell k7 (by show ¬ n ≤ p; omega)); (have X4 := (Sb).chg hc4 (fun k hk (e2 : k = (n + 1)) => by have e3 : n = k := Option.some.inj hk; omega)); clear hO4 hat4)
     | ((with_reducible change (if Region.wanted _ (yielded _ _) = true then Oper.wp Tryz.prog _ _ w4 _ _ else _)); refine step_copy_s (by rfl) _ _ (by rfl) n n B e d.wall (by rfl) (by rfl) X4 (HWL.out _ (Chg.ext HBW.out (HX4.out.trans (Chg.of_below (ext_refl w4) _)) (fun k (hk : n ≤ k) => by omega))) (by omega) (by first | omega | (simp; omega)) ?_; intro B4 e4 w5 hO5 hc5 hat5; (have HX5 := Lib.hid ((HX4.out.trans (Chg.of_below (ext_refl w4) _)).trans (hc5.mono (fun k (hk : k = n) => by show n ≤ k; omega)))); (have HF5 := Lib.hid hO5); (have HG5 := Lib.hid ((HF4.out.ext (ext_refl w4)).chg hc5 (fun k hk (e2 : k = n) => by have := hT4 k hk; have := (HF4.out.ge k hk).2; omega))); (have HAP : ∀ k, BI (.slice A4 d.cs.length c4) k → ¬ BI (.slice B4 d.wall.length e4) k := fun k h1 h2 => by have := hT4 k h1; have := (HF4.out.ge k h1).2; have h3 := hat5 k h2; (try simp only [World.size_alloc] at h3); omega); (have n0 := HX5.out.cell k0 (by show ¬ n ≤ p; omega)); (have n1 := HX5.out.cell k1 (by show ¬ n ≤ p; omega)); (have n2 := HX5.out.cell k2 (by show ¬ n ≤ p; omega)); (have n3 := HX5.out.cell k3 (by show ¬ n ≤ p; omega)); (have n4 := HX5.out.cell k4 (by show ¬ n ≤ p; omega)); (have n5 := HX5.out.cell k5 (by show ¬ n ≤ p; omega)); (have n6 := HX5.out.cell k6 (by show ¬ n ≤ p; omega)); (have n7 := HX5.out.cell k7 (by show ¬ n ≤ p; omega)); (have y0 := HX5.out.cell z0 (by show ¬ n ≤ r; omega)); (have y1 := HX5.out.cell z1 (by show ¬ n ≤ r; omega)); (have y2 := HX5.out.cell z2 (by show ¬ n ≤ r; omega)); (have y3 := HX5.out.cell z3 (by show ¬ n ≤ r; omega)); (have y4 := HX5.out.cell z4 (by show ¬ n ≤ r; omega)); (have y5 := HX5.out.cell z5 (by show ¬ n ≤ r; omega)); (have y6 := HX5.out.cell z6 (by show ¬ n ≤ r; omega)); (have y7 := HX5.out.cell z7 (by show ¬ n ≤ r; omega)); (have yf : ∀ j, w5.frozen? ⟨r, j, none⟩ = false := fun j => by rw [World.frozen?_of_block (HX5.out.block r (by omega) (by show ¬ n ≤ r; omega))]; exact zf j); clear hO5 hat5)
     | ((with_reducible change (if Region.wanted _ (yielded _ _) = true then Oper.wp Tryz.prog _ _ w4 _ _ else _)); refine step_copy_s (by rfl) _ _ (by rfl) n (n + 1) B e d.wall (by rfl) (by rfl) X4 (HWL.out _ (Chg.ext HBW.out (HX4.out.trans (Chg.of_below (ext_refl w4) _)) (fun k (hk : n ≤ k) => by omega))) (by omega) (by first | omega | (simp; omega)) ?_; intro B4 e4 w5 hO5 hc5 hat5; (have HX5 := Lib.hid ((HX4.out.trans (Chg.of_below (ext_refl w4) _)).trans (hc5.mono (fun k (hk : k = (n + 1)) => by show n ≤ k; omega)))); (have HF5 := Lib.hid hO5); (have HG5 := Lib.hid ((HF4.out.ext (ext_refl w4)).chg hc5 (fun k hk (e2 : k = (n + 1)) => by have := hT4 k hk; have := (HF4.out.ge k hk).2; omega))); (have HAP : ∀ k, BI (.slice A4 d.cs.length c4) k → ¬ BI (.slice B4 d.wall.length e4) k := fun k h1 h2 => by have := hT4 k h1; have := (HF4.out.ge k h1).2; have h3 := hat5 k h2; (try simp only [World.size_alloc] at h3); omega); (have n0 := HX5.out.cell k0 (by show ¬ n ≤ p; omega)); (have n1 := HX5.out.cell k1 (by show ¬ n ≤ p; omega)); (have n2 := HX5.out.cell k2 (by show ¬ n ≤ p; omega)); (have n3 := HX5.out.cell k3 (by show ¬ n ≤ p; omega)); (have n4 := HX5.out.cell k4 (by show ¬ n ≤ p; omega)); (have n5 := HX5.out.cell k5 (by show ¬ n ≤ p; omega)); (have n6 := HX5.out.cell k6 (by show ¬ n ≤ p; omega)); (have n7 := HX5.out.cell k7 (by show ¬ n ≤ p; omega)); (have y0 := HX5.out.cell z0 (by show ¬ n ≤ r; omega)); (have y1 := HX5.out.cell z1 (by show ¬ n ≤ r; omega)); (have y2 := HX5.out.cell z2 (by show ¬ n ≤ r; omega)); (have y3 := HX5.out.cell z3 (by show ¬ n ≤ r; omega)); (have y4 := HX5.out.cell z4 (by show ¬ n ≤ r; omega)); (have y5 := HX5.out.cell z5 (by show ¬ n ≤ r; omega)); (have y6 := HX5.out.cell z6 (by show ¬ n ≤ r; omega)); (have y7 := HX5.out.cell z7 (by show ¬ n ≤ r; omega)); (have yf : ∀ j, w5.frozen? ⟨r, j, none⟩ = false := fun j => by rw [World.frozen?_of_block (HX5.out.block r (by omega) (by show ¬ n ≤ r; omega))]; exact zf j); clear hO5 hat5)
     | ((with_reducible change (if Region.wanted _ (yielded _ _) = true then Oper.wp Tryz.prog _ _ (World.alloc w4 _) _ _ else _)); refine step_copy_s (by rfl) _ _ (by rfl) n w4.heap.size B e d.wall (by rfl) (by rfl) (ostr_lit w4 n hn4) (HWL.out _ (Chg.ext HBW.out (HX4.out.trans (Chg.of_below (ext_alloc1 w4 _) _)) (fun k (hk : n ≤ k) => by omega))) (by omega) (by first | omega | (simp; omega)) ?_; intro B4 e4 w5 hO5 hc5 hat5; (have HX5 := Lib.hid ((HX4.out.trans (Chg.of_below (ext_alloc1 w4 _) _)).trans (hc5.mono (fun k (hk : k = w4.heap.size) => by show n ≤ k; omega)))); (have HF5 := Lib.hid hO5); (have HG5 := Lib.hid ((HF4.out.ext (ext_alloc1 w4 _)).chg hc5 (fun k hk (e2 : k = w4.heap.size) => by have := hT4 k hk; have := (HF4.out.ge k hk).2; omega))); (have HAP : ∀ k, BI (.slice A4 d.cs.length c4) k → ¬ BI (.slice B4 d.wall.length e4) k := fun k h1 h2 => by have := hT4 k h1; have := (HF4.out.ge k h1).2; have h3 := hat5 k h2; (try simp only [World.size_alloc] at h3); omega); (have n0 := HX5.out.cell k0 (by show ¬ n ≤ p; omega)); (have n1 := HX5.out.cell k1 (by show ¬ n ≤ p; omega)); (have n2 := HX5.out.cell k2 (by show ¬ n ≤ p; omega)); (have n3 := HX5.out.cell k3 (by show ¬ n ≤ p; omega)); (have n4 := HX5.out.cell k4 (by show ¬ n ≤ p; omega)); (have n5 := HX5.out.cell k5 (by show ¬ n ≤ p; omega)); (have n6 := HX5.out.cell k6 (by show ¬ n ≤ p; omega)); (have n7 := HX5.out.cell k7 (by show ¬ n ≤ p; omega)); (have y0 := HX5.out.cell z0 (by show ¬ n ≤ r; omega)); (have y1 := HX5.out.cell z1 (by show ¬ n ≤ r; omega)); (have y2 := HX5.out.cell z2 (by show ¬ n ≤ r; omega)); (have y3 := HX5.out.cell z3 (by show ¬ n ≤ r; omega)); (have y4 := HX5.out.cell z4 (by show ¬ n ≤ r; omega)); (have y5 := HX5.out.cell z5 (by show ¬ n ≤ r; omega)); (have y6 := HX5.out.cell z6 (by show ¬ n ≤ r; omega)); (have y7 := HX5.out.cell z7 (by show ¬ n ≤ r; omega)); (have yf : ∀ j, w5.frozen? ⟨r, j, none⟩ = false := fun j => by rw [World.frozen?_of_block (HX5.out.block r (by omega) (by show ¬ n ≤ r; omega))]; exact zf j); clear hO5 hat5))
   | fail
 all_goals
   have hd := dr_put w5 r y0 y1 y2 y3 y4 y5 y6 y7 (.int .i64 d.f.l) (.int .i64 d.f.w) (.int .i64 d.f.h) (.int .i64 d.f.j) (.string d.nm) (.slice A4 d.cs.length c4) (.slice B4 d.wall.length e4) (.string d.log)
   have hbel := Chg.ext (Chg.ext HBW.out HX5.out (fun k (hk : n ≤ k) => by omega)) hd.c (fun k (hk : k = r) => by omega)
   go_wp2_with fail
   obtain ⟨w9, hw9⟩ : ∃ x, P8 w5 r (.int .i64 d.f.l) (.int .i64 d.f.w) (.int .i64 d.f.h) (.int .i64 d.f.j) (.string d.nm) (.slice A4 d.cs.length c4) (.slice B4 d.wall.length e4) (.string d.log) = x := ⟨_, rfl⟩
   rw [hw9] at hd hbel
   unfold P8 at hw9
   rw [hw9]
   clear hw9
   obtain ⟨hdc, _, r0, r1, r2, r3, r4, r5, r6, r7⟩ := hd
   have hG := HG5.out.chg hdc (fun k hk (e2 : k = r) => by have := (HG5.out.ge k hk).1; omega)
   have hF := HF5.out.chg hdc (fun k hk (e2 : k = r) => by have := (HF5.out.ge k hk).1; omega)
   refine bodyPost_ret (v := .agg #[.int .i64 d.f.l, .int .i64 d.f.w, .int .i64 d.f.h, .int .i64 d.f.j, .string d.nm, .slice A4 d.cs.length c4, .slice B4 d.wall.length e4, .string d.log]) (by simp [results, Tryz.results33, go_sem, r0, r1, r2, r3, r4, r5, r6, r7]) rfl ?_
   exact ⟨_, rfl, ⟨A4, c4, B4, e4, rfl, hG.mono (by omega), hF.mono (by omega), HAP⟩, hbel⟩
theorem SX.new (w W : World) (d : DK) (A : Option Addr) (c : Nat) (B : Option Addr) (e : Nat) (hod : ODKp W w.heap.size (.slice A d.cs.length c) (.slice B d.wall.length e) d) (hw : w.heap.size ≤ W.heap.size) :
   SX (W.alloc (.cells #[.int .i64 d.f.l, .int .i64 d.f.w, .int .i64 d.f.h, .int .i64 d.f.j, .string d.nm, .slice A d.cs.length c, .slice B d.wall.length e, .string d.log, .slice none 0 0, .slice none 0 0, .slice none 0 0] 57)) w.heap.size W.heap.size d A c B e none 0 [] (.slice none 0 0) (.slice none 0 0) :=
 ⟨⟨⟨by simp [go_sem], by simp [go_sem], by simp [go_sem], by simp [go_sem], by simp [go_sem], by simp [go_sem], by simp [go_sem], by simp [go_sem]⟩, hod.ext (ext_alloc1 _ _), fun k hk e => by have := (hod.1.ge k hk).2; omega, fun k hk e => by have := (hod.2.1.ge k hk).2; omega, fun j => by simp [go_sem], hw⟩, by simp [go_sem], by simp [go_sem], by simp [go_sem], ostr_nil _ _, fun j hj => by cases hj⟩
end Go.Proofs.YtfgopboddkhckaaGreatDoor
namespace Go.Proofs.YtfgopboddkhckaaGreatDoor
set_option linter.unusedVariables false
def pcs : List UInt8 := [83, 72, 84, 66, 67]
def qL (x : UInt8) : Nat := if x = 83 then 4 else if x = 72 then 2 else if x = 84 then 3 else if x = 66 then 2 else 1
def cL (x : UInt8) : Nat := if x = 83 then 0 else if x = 72 then 0 else 1
def adLo (x : UInt8) (v : PV) : PV := ⟨v.c + cL x, v.p + 1, x :: v.lo, v.hi⟩
def adHi (x : UInt8) (v : PV) : PV := ⟨v.c + cL x, v.p + 1, v.lo, x :: v.hi⟩
theorem cL_le (x : UInt8) : cL x ≤ 1 := by unfold cL; split <;> (try split) <;> omega
theorem qL_ge (x : UInt8) : 1 ≤ qL x ∧ qL x ≤ 4 := by unfold qL; split <;> (try split) <;> (try split) <;> (try split) <;> omega
theorem sB_fuel {L P : Nat} : ∀ (n m a b : Nat), a ≤ L → b ≤ L → (L - a) + (L - b) < n → (L - a) + (L - b) < m → sB L P n a b = sB L P m a b
 | 0, _, _, _, _, _, h, _ => by omega
 | _ + 1, 0, _, _, _, _, _, h => by omega
 | n + 1, m + 1, a, b, ha, hb, hn, hm => by
   unfold sB
   by_cases he : a = L ∧ b = L
   · rw [if_pos he, if_pos he]
   · rw [if_neg he, if_neg he]
     by_cases hab : a ≤ b
     · rw [if_pos hab, if_pos hab]
       have key : ∀ q, 1 ≤ q → (if a + q ≤ L ∧ far L P (a + q) b then (sB L P n (a + q) b).map (preLo q) else none) = (if a + q ≤ L ∧ far L P (a + q) b then (sB L P m (a + q) b).map (preLo q) else none) := by
         intro q hq
         by_cases hc : a + q ≤ L ∧ far L P (a + q) b
         · rw [if_pos hc, if_pos hc, sB_fuel n m (a + q) b hc.1 hb (by omega) (by omega)]
         · rw [if_neg hc, if_neg hc]
       simp only [List.foldl]
       rw [key 4 (by omega), key 2 (by omega), key 3 (by omega), key 1 (by omega)]
     · rw [if_neg hab, if_neg hab]
       have key : ∀ q, 1 ≤ q → (if b + q ≤ L ∧ far L P (b + q) a then (sB L P n a (b + q)).map (preHi q) else none) = (if b + q ≤ L ∧ far L P (b + q) a then (sB L P m a (b + q)).map (preHi q) else none) := by
         intro q hq
         by_cases hc : b + q ≤ L ∧ far L P (b + q) a
         · rw [if_pos hc, if_pos hc, sB_fuel n m a (b + q) ha hc.1 (by omega) (by omega)]
         · rw [if_neg hc, if_neg hc]
       simp only [List.foldl]
       rw [key 4 (by omega), key 2 (by omega), key 3 (by omega), key 1 (by omega)]
def sR (L P a b : Nat) : Option PV := sB L P (2 * L + 1) a b
theorem sR_end (L P : Nat) : sR L P L L = some PV.zero := by unfold sR sB; rw [if_pos ⟨rfl, rfl⟩]
def cand (L P a b : Nat) (x : UInt8) : Option PV :=
 if a ≤ b then (if a + qL x ≤ L ∧ far L P (a + qL x) b then (sR L P (a + qL x) b).map (adLo x) else none)
 else (if b + qL x ≤ L ∧ far L P (b + qL x) a then (sR L P a (b + qL x)).map (adHi x) else none)
def accS (L P a b : Nat) : Nat → Option PV
 | 0 => none
 | k + 1 => pick (accS L P a b k) (cand L P a b (pcs.getD k 0))
theorem cand_lo {L P a b : Nat} {x : UInt8} (h : a ≤ b) (hc : a + qL x ≤ L ∧ far L P (a + qL x) b) : cand L P a b x = (sR L P (a + qL x) b).map (adLo x) := by unfold cand; rw [if_pos h, if_pos hc]
theorem cand_hi {L P a b : Nat} {x : UInt8} (h : ¬ a ≤ b) (hc : b + qL x ≤ L ∧ far L P (b + qL x) a) : cand L P a b x = (sR L P a (b + qL x)).map (adHi x) := by unfold cand; rw [if_neg h, if_pos hc]
theorem cand_lo_no {L P a b : Nat} {x : UInt8} (h : a ≤ b) (hc : ¬ (a + qL x ≤ L ∧ far L P (a + qL x) b)) : cand L P a b x = none := by unfold cand; rw [if_pos h, if_neg hc]
theorem cand_hi_no {L P a b : Nat} {x : UInt8} (h : ¬ a ≤ b) (hc : ¬ (b + qL x ≤ L ∧ far L P (b + qL x) a)) : cand L P a b x = none := by unfold cand; rw [if_neg h, if_neg hc]
theorem pick_ge_right (acc : Option PV) (v : PV) : ∃ u, pick acc (some v) = some u ∧ ¬ plt v u := by
 cases acc with
 | none => exact ⟨v, rfl, plt_irrefl v⟩
 | some a =>
   by_cases h : plt v a
   · exact ⟨v, by show (if plt v a then some v else some a) = _; rw [if_pos h], plt_irrefl v⟩
   · exact ⟨a, by show (if plt v a then some v else some a) = _; rw [if_neg h], h⟩
theorem pick_ge_left {u v : PV} (x : Option PV) (h : ¬ plt v u) : ∃ u', pick (some u) x = some u' ∧ ¬ plt v u' := by
 cases x with
 | none => exact ⟨u, rfl, h⟩
 | some y =>
   by_cases hy : plt y u
   · exact ⟨y, by show (if plt y u then some y else some u) = _; rw [if_pos hy], fun e => h (plt_trans e hy)⟩
   · exact ⟨u, by show (if plt y u then some y else some u) = _; rw [if_neg hy], h⟩
theorem pick_worse (X x y : Option PV) (z : Option PV) (hz : (x = none ∧ z = none) ∨ ∃ v w, x = some v ∧ z = some w ∧ plt v w) : pick (pick (pick X x) y) z = pick (pick X x) y := by
 rcases hz with ⟨_, rfl⟩ | ⟨v, w, rfl, rfl, hlt⟩
 · rfl
 · obtain ⟨u, hu, h1⟩ := pick_ge_right X v
   rw [hu]
   obtain ⟨u', hu', h2⟩ := pick_ge_left y h1
   rw [hu']
   show (if plt w u' then some w else some u') = _
   rw [if_neg (fun e => h2 (plt_trans hlt e))]
theorem map_worse (o : Option PV) (f g : PV → PV) (h : ∀ v, plt (f v) (g v)) : (o.map f = none ∧ o.map g = none) ∨ ∃ v w, o.map f = some v ∧ o.map g = some w ∧ plt v w := by
 cases o with
 | none => exact .inl ⟨rfl, rfl⟩
 | some v => exact .inr ⟨_, _, rfl, rfl, h v⟩
theorem accS_5 {L P a b : Nat} (ha : a ≤ L) (hb : b ≤ L) (he : ¬ (a = L ∧ b = L)) : accS L P a b 5 = sR L P a b := by
 have e5 : accS L P a b 5 = pick (pick (pick (pick (pick none (cand L P a b 83)) (cand L P a b 72)) (cand L P a b 84)) (cand L P a b 66)) (cand L P a b 67) := rfl
 have hw : (cand L P a b 72 = none ∧ cand L P a b 66 = none) ∨ ∃ v w, cand L P a b 72 = some v ∧ cand L P a b 66 = some w ∧ plt v w := by
   have q1 : qL 72 = 2 := rfl
   have q2 : qL 66 = 2 := rfl
   unfold cand
   rw [q1, q2]
   by_cases hab : a ≤ b
   · rw [if_pos hab, if_pos hab]
     by_cases hc : a + 2 ≤ L ∧ far L P (a + 2) b
     · rw [if_pos hc, if_pos hc]
       exact map_worse _ _ _ fun v => .inl (by show v.c + 0 < v.c + 1; omega)
     · rw [if_neg hc, if_neg hc]; exact .inl ⟨rfl, rfl⟩
   · rw [if_neg hab, if_neg hab]
     by_cases hc : b + 2 ≤ L ∧ far L P (b + 2) a
     · rw [if_pos hc, if_pos hc]
       exact map_worse _ _ _ fun v => .inl (by show v.c + 0 < v.c + 1; omega)
     · rw [if_neg hc, if_neg hc]; exact .inl ⟨rfl, rfl⟩
 rw [e5, pick_worse _ _ _ _ hw]
 have h1 : sR L P a b = if a ≤ b then [4, 2, 3, 1].foldl (fun acc q => pick acc (if a + q ≤ L ∧ far L P (a + q) b then (sB L P (2 * L) (a + q) b).map (preLo q) else none)) none
     else [4, 2, 3, 1].foldl (fun acc q => pick acc (if b + q ≤ L ∧ far L P (b + q) a then (sB L P (2 * L) a (b + q)).map (preHi q) else none)) none := by
   unfold sR
   rw [sB, if_neg he]
 rw [h1]
 unfold cand
 by_cases hab : a ≤ b
 · simp only [if_pos hab]
   have key : ∀ (x : UInt8) (q : Nat) (f : PV → PV), qL x = q → 1 ≤ q → (if a + qL x ≤ L ∧ far L P (a + qL x) b then (sR L P (a + qL x) b).map f else none) = (if a + q ≤ L ∧ far L P (a + q) b then (sB L P (2 * L) (a + q) b).map f else none) := by
     intro x q f hx hq
     rw [hx]
     by_cases hc : a + q ≤ L ∧ far L P (a + q) b
     · rw [if_pos hc, if_pos hc]
       unfold sR
       rw [sB_fuel (2 * L + 1) (2 * L) (a + q) b hc.1 hb (by omega) (by omega)]
     · rw [if_neg hc, if_neg hc]
   rw [key 83 4 _ rfl (by omega), key 72 2 _ rfl (by omega), key 84 3 _ rfl (by omega), key 67 1 _ rfl (by omega)]
   rfl
 · simp only [if_neg hab]
   have key : ∀ (x : UInt8) (q : Nat) (f : PV → PV), qL x = q → 1 ≤ q → (if b + qL x ≤ L ∧ far L P (b + qL x) a then (sR L P a (b + qL x)).map f else none) = (if b + q ≤ L ∧ far L P (b + q) a then (sB L P (2 * L) a (b + q)).map f else none) := by
     intro x q f hx hq
     rw [hx]
     by_cases hc : b + q ≤ L ∧ far L P (b + q) a
     · rw [if_pos hc, if_pos hc]
       unfold sR
       rw [sB_fuel (2 * L + 1) (2 * L) a (b + q) ha hc.1 (by omega) (by omega)]
     · rw [if_neg hc, if_neg hc]
   rw [key 83 4 _ rfl (by omega), key 72 2 _ rfl (by omega), key 84 3 _ rfl (by omega), key 67 1 _ rfl (by omega)]
   rfl
theorem pair_sR {L P : Nat} (hP : 1 ≤ P) (hL : 1 ≤ L) : pB L P L 0 0 0 = sR L P 0 0 := pair_same hP hL (by omega)
structure PVok (v : PV) : Prop where
 c : v.c ≤ 1000
 p : v.p ≤ 1000
 l : v.lo.length ≤ 1000
 h : v.hi.length ≤ 1000
theorem sB_len {L P : Nat} : ∀ (n a b : Nat) (v : PV), sB L P n a b = some v → v.c ≤ n ∧ v.p ≤ n ∧ v.lo.length ≤ n ∧ v.hi.length ≤ n
 | 0, _, _, _, h => by cases h
 | n + 1, a, b, v, h => by
   have hc8 : ∀ q, cut8 q ≤ 1 := fun q => by unfold cut8; split <;> (try split) <;> omega
   have fold : ∀ (l : List Nat) (f : Nat → Option PV) (acc : Option PV), (∀ u, acc = some u → u.c ≤ n + 1 ∧ u.p ≤ n + 1 ∧ u.lo.length ≤ n + 1 ∧ u.hi.length ≤ n + 1) →
       (∀ q u, f q = some u → u.c ≤ n + 1 ∧ u.p ≤ n + 1 ∧ u.lo.length ≤ n + 1 ∧ u.hi.length ≤ n + 1) → ∀ u, l.foldl (fun acc q => pick acc (f q)) acc = some u → u.c ≤ n + 1 ∧ u.p ≤ n + 1 ∧ u.lo.length ≤ n + 1 ∧ u.hi.length ≤ n + 1 := by
     intro l f
     induction l with
     | nil => intro acc ha _ u hu; exact ha u hu
     | cons q l ih =>
       intro acc ha hf u hu
       refine ih (pick acc (f q)) (fun u2 h2 => ?_) hf u hu
       cases hq : f q with
       | none => rw [hq] at h2; exact ha u2 h2
       | some y =>
         rw [hq] at h2
         cases acc with
         | none => exact hf q u2 (by rw [hq]; exact h2)
         | some z =>
           have h3 : (if plt y z then some y else some z) = some u2 := h2
           split at h3
           · exact hf q u2 (by rw [hq]; exact h3)
           · exact ha u2 h3
   unfold sB at h
   split at h
   · obtain rfl := Option.some.inj h
     simp [PV.zero]
   · split at h
     · refine fold _ (fun q => if a + q ≤ L ∧ far L P (a + q) b then (sB L P n (a + q) b).map (preLo q) else none) none (fun u hu => by cases hu) (fun q u hu => ?_) v h
       split at hu
       · obtain ⟨y, hy, rfl⟩ := Option.map_eq_some_iff.1 hu
         obtain ⟨h1, h2, h3, h4⟩ := sB_len n _ _ y hy
         have := hc8 q
         exact ⟨by show y.c + cut8 q ≤ _; omega, by show y.p + 1 ≤ _; omega, by show (let8 q :: y.lo).length ≤ _; simp only [List.length_cons]; omega, by show y.hi.length ≤ _; omega⟩
       · cases hu
     · refine fold _ (fun q => if b + q ≤ L ∧ far L P (b + q) a then (sB L P n a (b + q)).map (preHi q) else none) none (fun u hu => by cases hu) (fun q u hu => ?_) v h
       split at hu
       · obtain ⟨y, hy, rfl⟩ := Option.map_eq_some_iff.1 hu
         obtain ⟨h1, h2, h3, h4⟩ := sB_len n _ _ y hy
         have := hc8 q
         exact ⟨by show y.c + cut8 q ≤ _; omega, by show y.p + 1 ≤ _; omega, by show y.lo.length ≤ _; omega, by show (let8 q :: y.hi).length ≤ _; simp only [List.length_cons]; omega⟩
       · cases hu
theorem sR_ok {L P a b : Nat} (hL : L ≤ 80) {v : PV} (h : sR L P a b = some v) : PVok v := by
 obtain ⟨h1, h2, h3, h4⟩ := sB_len _ _ _ v h
 exact ⟨by omega, by omega, by omega, by omega⟩
end Go.Proofs.YtfgopboddkhckaaGreatDoor
