/-
  Parts of the proof: RowConsole, Dx, Run, Ex10, Ex12.
-/
import Derived.Test.YtfgopboddkhckaaGreatDoorKa5
import Derived.Test.YtfgopboddkhckaaGreatDoorKa6
import Derived.Test.YtfgopboddkhckaaGreatDoorKa8
import Derived.Test.YtfgopboddkhckaaGreatDoorKa18
import Derived.Test.YtfgopboddkhckaaGreatDoorKa22
import Derived.ChangeMaps5
import Derived.Deep.DrawnRows
import Derived.BigQuiet
import Derived.IntWalk
import Derived.Lib.QuietBelow
namespace Go.Proofs.YtfgopboddkhckaaGreatDoor
open Go.ChangeShapes Go.WideShapes Go.ChangeAt Go.RowKit Go.Sort Go.Joins
set_option linter.unusedVariables false

theorem rd_FnConsole : ∀ t ∈ Tryz.f5.params.toList, Tryz.prog.readableRec t = true ∧ t < Tryz.prog.types.size := by
  have h : Tryz.f5.params.toList.all (fun t => Tryz.prog.readableRec t && decide (t < Tryz.prog.types.size)) = true := by kernel_rfl
  intro t ht
  have := List.all_eq_true.1 h t ht
  simpa using this

set_option maxRecDepth 100000 in
theorem lifted_FnConsole (hlaw : ∀ (v : Value) (x : List UInt8) (w : World), EnvK w → RB w v x → Calls Tryz.prog 5 #[v] w (Ret (.bool true) w)) (os : Os) (started : os.Started) (H : Type) (enc : TypeId × Value → H) :
    ReturnsInHanded {} Tryz.checked os 5 .any (fun w args => (Rows.fnConsoleSpec.pre enc Tryz.prog Tryz.f5 [] false w args ∧ laidMetH Tryz.prog Rows.fnConsoleRow.laid w) ∧ sizedMet enc Tryz.prog Tryz.f5 (OpenSpec.ofChange Rows.fnConsoleSpec) false w args)
      (Rows.fnConsoleSpec.post enc Tryz.prog Tryz.f5 false true false false) := by
  have plain : ∀ w, laidMetH Tryz.prog Rows.fnConsoleRow.laid w = laidMet Tryz.prog Rows.fnConsoleRow.laid w := fun w => MakeChecks.laidMetH_plain _ _ _ (by kernel_rfl)
  refine returns_door (C := Tryz.checked) (X := fun w _ => laidMetH Tryz.prog Rows.fnConsoleRow.laid w) (fun _ _ _ hh h => h.of_heap hh) own_knob started (by kernel_rfl) Tryz.func5
    (ChangeSpec.witness_shaped (enc := enc) (C := Tryz.checked) (os := os) (X := fun w _ => laidMetH Tryz.prog Rows.fnConsoleRow.laid w) false (World.laidAll Tryz.prog os Rows.fnConsoleRow.laid) #[.slice none 0 0] 8 (World.laidAll_os _ _ _)
      (World.shaped_of_ZipB (by kernel_rfl) (by kernel_rfl)) (by kernel_rfl) (by kernel_rfl) (by kernel_rfl)
      (by rw [plain]; exact laidMet_laidAll _ (by kernel_rfl) (by kernel_rfl))) ?_
  intro W base args ds gs before hval0 hW hL hsh
  rw [plain] at hL
  have hEnv : EnvK W := ⟨env_of hL hsh (by simp [Rows.fnConsoleRow]) (by simp [Rows.fnConsoleRow, Rows.laid_strconv_ErrSyntax]) (by simp [Rows.fnConsoleRow, Rows.laid_strconv_ErrRange]), lib_of hL (by simp [Rows.fnConsoleRow]), cod_of hL (by simp [Rows.fnConsoleRow])⟩
  have hval : ∀ (j : Nat) t v, Tryz.f5.params[j]? = some t → args[j]? = some v → Value.okWide Tryz.prog W .any base t v := hval0
  have hW' : DataW.Whole enc Tryz.prog Tryz.f5.params.toList (Rows.fnConsoleSpec).vars false W args.toList ds gs before := hW
  obtain ⟨p, q, hA0, hV, _, hfz, hnd⟩ := hW
  have hA : DataW.TrodAll enc Tryz.prog W 0 (fun _ => true) true Tryz.f5.params.toList args.toList ds p := hA0
  rw [Tryz.params5] at hA hval
  obtain ⟨v0, vs0, d0, ds0, p0, q0, ha0, hd0, hp0, h0, rr0⟩ := trodAll_cons hA
  subst hd0 hp0
  obtain ⟨e1, e2, e3⟩ := trodAll_nil rr0
  subst e1 e2 e3
  obtain rfl : args = #[v0] := by cases args; simp_all
  obtain ⟨dg1, dg2, rfl⟩ := gs_two _ _ hV
  obtain ⟨x0, hR0⟩ := open_bytes_arg (hval 0 47 v0 rfl rfl) h0
  clear hA0 hval0
  refine (hlaw v0 x0 W hEnv hR0).mono fun e W' ⟨he, hb⟩ => ?_
  subst he
  exact ⟨_, rfl, law_postVs rd_FnConsole rfl (fun n hn => vK n (by simpa [Rows.fnConsoleSpec] using hn)) hW' rfl hb⟩

theorem bare_FnConsole (hlaw : ∀ (v : Value) (x : List UInt8) (w : World), EnvK w → RB w v x → Calls Tryz.prog 5 #[v] w (Ret (.bool true) w)) : Rows.FnConsoleSaid :=
  OpenClaim.holds_of_wide 5 Tryz.f5 rfl rfl rfl rfl rfl rfl rfl ⟨rfl, rfl, rfl, rfl, rfl⟩ rfl rfl rfl rfl rfl (by kernel_rfl) Tryz.func5 (by kernel_rfl)
    (of_decide_eq_true (by kernel_rfl)) (by unfold Func.isWrapper; first | (rw [if_pos (by decide +kernel)]; kernel_rfl) | (rw [if_neg (by decide +kernel)]; exact ⟨rfl, rfl⟩))
    (fun os started H enc _ => lifted_FnConsole hlaw os started H enc)

theorem wants_FnConsole : Tryz.f5.params.toList.all (fun u => !Tryz.prog.wantsStandIn u) = true := by kernel_rfl
theorem named_FnConsole : Tryz.prog.funcNamed "loop.example/g01042/laws.FnConsole" = some 5 := by kernel_rfl
theorem holdsC_FnConsole (hlaw : ∀ (v : Value) (x : List UInt8) (w : World), EnvK w → RB w v x → Calls Tryz.prog 5 #[v] w (Ret (.bool true) w)) : Rows.FnConsoleCardSaid :=
  Claim7.holds_tied_plain_at .later [] Rows.fnConsoleCard.laidKinds true Rows.fnConsoleCard.stood.harness Rows.fnConsoleCard.stood.looks
    (bare_FnConsole hlaw) (fun _ h => by cases h) (by kernel_rfl) (fun _ h => by cases h) fnConsole_row_tie rfl ⟨rfl, rfl⟩ (by kernel_rfl) rfl
    (fun f fn hf hfn => by
      obtain rfl : f = 5 := (Option.some.inj (named_FnConsole.symm.trans hf)).symm
      obtain rfl : fn = Tryz.f5 := (Option.some.inj (Tryz.func5.symm.trans hfn)).symm
      exact ⟨by kernel_rfl, fun j t ht => by
        have hm : t ∈ Tryz.f5.params.toList := by simpa using Array.mem_of_getElem? ht
        exact (show Tryz.prog.wantsStandIn t = false by simpa using List.all_eq_true.1 wants_FnConsole t hm)⟩)
    (by kernel_rfl)


end Go.Proofs.YtfgopboddkhckaaGreatDoor
namespace Go.Proofs.YtfgopboddkhckaaGreatDoor
open Go.ChangeShapes Go.WideShapes Go.ChangeAt Go.RowKit Go.Sort Go.Joins
set_option linter.unusedVariables false
set_option maxRecDepth 100000
def ExecC : Prop := ∀ (c : CM) (w00 W : World) (q : Nat) (d : DK) (A : Option Addr) (cc : Nat) (B : Option Addr) (e : Nat) (hD : DB W w00.heap.size q d A cc B e) (hb0 : Below w00.heap.size w00 W) (Aw : Option Addr) (cw : Nat) (l : List ByteArray) (hw : RStr W (.slice Aw l.length cw) l) (hl : l.length = (cmF c).length + 1) (hx : gd l 0 = cmW c) (hwq : ∀ ad, Aw = some ad → ad.block ≠ q) (hsz : ∀ k, k < l.length → (gd l k).size ≤ 1048576)
    (An : Option Addr) (cn : Nat) (xs : List Int) (hn : RI W (.slice An xs.length cn) xs) (hxs : xs = nmL c l (cmF c).length) (hE : Env w00) (hT : LibT w00) (hV : vDK d = true),
    Calls Tryz.prog 44 #[.pointer (some ⟨q, 0, none⟩), .slice Aw l.length cw, .slice An xs.length cn] W (ExP (mExec d c l) W w00.heap.size q)
end Go.Proofs.YtfgopboddkhckaaGreatDoor
namespace Go.Proofs.YtfgopboddkhckaaGreatDoor
open Go.ChangeShapes Go.WideShapes Go.ChangeAt Go.RowKit Go.Sort Go.Joins
set_option linter.unusedVariables false
set_option maxRecDepth 100000

theorem step_append_s3 {w0 : World} {ops : Array Oper} {o : Oper} {a : Act} {K : Act → World → Prop} {Q : Exit → Act → World → Prop} {E : Prop} (hgd : o.guard = none) (s x : Operand)
    (ho : o.op = .call { callee := .builtin .append, args := #[s, x], argTypes := #[29, 29] })
    (base : Nat) (v : Value) (xs : List ByteArray) (n : ByteArray) (hs : a.eval s = v) (hx : a.eval x = .slice (some ⟨w0.heap.size, 0, none⟩) 1 1) (hO : OStr w0 base v xs)
    (hl : xs.length ≤ 1099511627776) (hbase : base ≤ w0.heap.size)
    (h : ∀ g cap w', OStr w' base (.slice (some ⟨g, 0, none⟩) (xs.length + 1) cap) (xs ++ [n]) → Chg (BI v) w0 w' → K (a.put o.dst (.slice (some ⟨g, 0, none⟩) (xs.length + 1) cap)) w') :
    if Region.wanted o (yielded ops a.tmps) = true then Oper.wp Tryz.prog o a (w0.alloc (.cells #[.string n] 9)) K Q else E := by
  obtain ⟨i0, hi, hz0, hz1, hz2⟩ := info_parts info_str
  refine step_append_lies _ hgd s x _ ho base 9 i0 (.string ⟨#[]⟩) 1 16 Tryz.underlying29 hi hz0 hz1 hz2 rfl (by omega) v xs.length (xs.map Value.string) hs (World.ownsRow.alloc hO _)
    ⟨w0.heap.size, 0, none⟩ 1 1 [.string n] hx rfl (cell_one_new _ _ _) (by simp [Value.oneCell']) (by omega) (by unfold maxLen; omega) (by omega) (by simp; omega) (w0.heap.size + 1) (by simp) ?_
  intro g cap w1 hown hgrow hat hlt
  refine h g cap w1 ?_ ((Chg.of_below (ext_alloc1 _ _) _).trans (Chg.of_grown hgrow))
  unfold OStr
  simpa using hown
/-- strings.Join of texts in memory of the call's own. -/
theorem impl_Join (b : UInt8) (g c base : Nat) (ls : List ByteArray) (w : World) (hO : OStr w base (.slice (some ⟨g, 0, none⟩) ls.length c) ls) (hl : ls.length ≤ 1048576) (hs : ∀ t ∈ ls, t.size ≤ 100000) :
    Calls Tryz.prog 156 #[.slice (some ⟨g, 0, none⟩) ls.length c, .string ⟨#[b]⟩] w (Ret (.string (bsq (jnL b (ls.map (·.data.toList))))) w) := by
  have h := hO.rd
  have hcell : ∀ (j : Nat) x, ls[j]? = some x → w.cell? ⟨g, 0 + j, none⟩ = some (.string x) := fun j x hx => by
    have hj : j < ls.length := (List.getElem?_eq_some_iff.1 hx).1
    obtain ⟨ad, hA, _, hc⟩ := h.at hj
    injection hA with hA
    have := hc j hj
    rw [← hA, gd_eq hj] at this
    rw [List.getElem?_eq_getElem hj] at hx
    injection hx with hx
    rw [hx] at this
    have e1 : (⟨g, 0, none⟩ : Addr).add j = ⟨g, 0 + j, none⟩ := by unfold Addr.add; split <;> simp <;> omega
    rwa [e1] at this
  have hbk : g < w.heap.size := (hO.ge g rfl).2
  have hlc : ls.length ≤ c := by
    obtain ⟨A2, c2, hv, h2, h3⟩ := h.open_
    injection hv with q1 q2 q3
    omega
  have hq : (jnL b (ls.map (·.data.toList))).length ≤ 100001 * ls.length := by
    have : ∀ (p : List (List UInt8)), (∀ x ∈ p, x.length ≤ 100000) → (jnL b p).length ≤ 100001 * p.length := by
      intro p
      induction p with
      | nil => intro _; simp [jnL]
      | cons l t ih =>
        intro hh
        have h0 := hh l (by simp)
        cases t with
        | nil => simp [jnL]; omega
        | cons m t =>
          have ih := ih (fun x hx => hh x (List.mem_cons_of_mem _ hx))
          rw [jnL_cons _ _ (by simp), List.length_append, List.length_cons]
          simp only [List.length_cons] at ih ⊢
          omega
    have h2 := this (ls.map (·.data.toList)) (fun x hx => by
      obtain ⟨y, hy, rfl⟩ := List.mem_map.1 hx
      rw [size_toList]; exact hs y hy)
    rwa [List.length_map] at h2
  have hj := Tryz.strings_Join g 0 c ls ⟨#[b]⟩ w hcell hbk (by omega) (by omega) (by
    show (Lib.join (ls.map (·.data.toList)) [b]).length ≤ 140737488355328
    rw [join_jnb]; omega)
  refine hj.mono fun e w' ⟨h1, h2⟩ => ⟨?_, h2⟩
  rw [h1]
  show Ending.returned (.string (bsq (Lib.join (ls.map (·.data.toList)) [b]))) = _
  rw [join_jnb]
theorem rnL_sz {s : ByteArray} (hs : s.size ≤ 60) : (rnL s).length ≤ 60 ∧ ∀ t ∈ rnL s, t.size ≤ 21 := by
  have key : ∀ (f i : Nat), (rnF s f i).length ≤ f ∧ ∀ t ∈ rnF s f i, t.size ≤ 21 := by
    intro f
    induction f with
    | zero => intro i; exact ⟨Nat.le_refl _, fun t h => by simp [rnF] at h⟩
    | succ f ih =>
      intro i
      rw [rnF]
      split
      · rename_i hi
        obtain ⟨h1, h2⟩ := ih (rE s i)
        refine ⟨by simp only [List.length_cons]; omega, fun t h => ?_⟩
        rcases List.mem_cons.1 h with rfl | h
        · have h3 := rE_le (s := s) (i := i) (by omega)
          have z1 := itb_size ((rE s i - i : Nat) : Int) (by omega) (by omega)
          unfold runT
          rw [ByteArray.size_append, ByteArray.size_extract]
          omega
        · exact h2 t h
      · exact ⟨Nat.zero_le _, fun t h => by simp at h⟩
  have := key s.size 0
  exact ⟨by unfold rnL; omega, this.2⟩
set_option maxHeartbeats 6400000 in
theorem impl_CourseRuns (s : ByteArray) (hv : vCo s = true) (w : World) (hL : LayF w) :
    Calls Tryz.prog 90 #[.string s] w (Ret (.string (rnT s)) w) := by
  obtain ⟨hs1, hs, _, _⟩ := vCo_parts hv
  have HLF : Hid (∀ W', Below w.heap.size w W' → LayF W') := Lib.hid fun W' h => hL.ext h
  have HOK := Lib.hid (fun w => RetP.bool (impl_okC s (by omega) w) hv)
  have HRS := Lib.hid (rnL_sz hs)
  clear hv hL hs1
  go_enter Tryz.func90, Tryz.ntmps90
  go_wp2_with fail
  refine (show Calls _ _ _ _ _ from HOK.out _).mono ?_
  rintro e w0 ⟨rfl, rfl⟩
  go_wp2_with fail
  go_loopw [3, 4] (fun u i wr => ∃ (k g cq : Nat) (ls : List ByteArray), k ≤ s.size ∧ i = .int .i64 k ∧ u = .slice (some ⟨g, 0, none⟩) ls.length cq ∧ Hid (RnAt s k ls) ∧ Hid (OStr wr w.heap.size (.slice (some ⟨g, 0, none⟩) ls.length cq) ls) ∧ Hid (Below w.heap.size w wr)) (fun _ i _ => s.size - (intOf i).toNat)
  case atStart => exact ⟨0, w.heap.size, 0, [], Nat.zero_le _, rfl, rfl, Lib.hid (RnAt.zero s), Lib.hid (ostr_lit _ _ (Nat.le_refl _)), Lib.hid (ext_alloc1 _ _)⟩
  case round =>
    obtain ⟨i, g, cq, ls, hi, rfl, rfl, HT, HO, HB⟩ := hrel
    have e0 : (0 : Int) ≤ i := by omega
    have hsz := HB.out.size
    by_cases hlt : i < s.size
    · have e1 : (i : Int) < s.size := by omega
      have HNX := Lib.hid (HT.out.next hlt)
      have hls : ls.length ≤ 60 := by have := HT.out.2.1; omega
      have hyi := byt_eq s i hlt
      go_wp2_with fail
      go_loopw [5] (fun k wr2 => ∃ (j : Nat), j ≤ s.size ∧ k = .int .i64 j ∧ Hid (RunAt s i j) ∧ Hid (Below wr.heap.size wr wr2)) (fun k _ => s.size - (intOf k).toNat)
      case atStart => exact ⟨i, by omega, rfl, Lib.hid (RunAt.zero hi), Lib.hid (ext_refl _)⟩
      case round =>
        obtain ⟨j, hj, rfl, HR, HBB⟩ := hrel
        have f0 : (0 : Int) ≤ j := by omega
        by_cases hjl : j < s.size
        · have f1 : (j : Int) < s.size := by omega
          have f2 : decide ((j : Int) < s.size) = true := decide_eq_true f1
          have f3 : decide (j < s.size) = true := decide_eq_true hjl
          have hyj := byt_eq s j hjl
          by_cases hq : byt s j = byt s i
          · have HR2 := Lib.hid (HR.out.next hjl hq)
            rw [hq] at hyj
            go_wp2_with fail
            refine wp_region_quiet_below (by kernel_rfl) (by kernel_rfl) ?_
            repeat (go_big_quiet_step (fail))
            refine wpQuiet_nil ?_
            intro w' hw'
            obtain ⟨p, rfl⟩ := hw'
            have HB5 := Lib.hid (ext_trans HBB.out (below_regrown _ p.d p.os))
            go_wp2_with fail
            go_roundw
            case rel => exact ⟨j + 1, by omega, by go_num, HR2, HB5⟩
            case measure => simp [intOf]; omega
          · have HE := Lib.hid (HR.out.stop (fun h => hq h.2))
            have hq2 : (byt s j == byt s i) = false := beq_eq_false_iff_ne.2 hq
            go_wp2_with fail
            refine wp_region_quiet_below (by kernel_rfl) (by kernel_rfl) ?_
            repeat (go_big_quiet_step (fail))
            refine wpQuiet_nil ?_
            intro w' hw'
            obtain ⟨p, rfl⟩ := hw'
            have HB5 := Lib.hid (ext_trans HBB.out (below_regrown _ p.d p.os))
            clear hyi hyj hq hq2 f2 f3
            have HNX2 := HNX.out
            have hkj := HE.out
            rw [hkj] at HNX2
            have hgt : i < j := by rw [← hkj]; exact rE_gt hlt
            have HTX : Hid (runT s i = itb ((j : Int) - (i : Int)) ++ s.extract i (i + 1)) := Lib.hid (by unfold runT; rw [hkj, Int.natCast_sub (by omega)])
            rw [HTX.out] at HNX2
            have HNX3 := Lib.hid HNX2
            clear HNX2 hkj HNX
            have HZ : Hid (∀ ls', rnL s = ls' → ls'.length ≤ 60) := Lib.hid fun ls' h => by rw [← h]; exact HRS.out.1
            have hz1 := itb_size ((j : Int) - (i : Int)) (by omega) (by omega)
            have g2 : (0 : Int) ≤ (i : Int) + 1 := by omega
            have g3 : (i : Int) + 1 ≤ s.size := by omega
            have g4 : (i : Int) ≤ (i : Int) + 1 := by omega
            have g5 : ((i : Int) + 1).toNat = i + 1 := by omega
            have g6 : IntKind.i64.wrap ((j : Int) - (i : Int)) = (j : Int) - i := IntWalk.i64_in _ (by omega)
            have g7 : IntKind.i64.wrap ((i : Int) + 1) = (i : Int) + 1 := IntWalk.i64_in _ (by omega)
            have c1 : ¬ 9223372036854775807 < (itb ((j : Int) - (i : Int))).size + (min (i + 1) s.size - i) := by omega
            have HO5 := Lib.hid (HO.out.ext HB5.out)
            have HB6 := Lib.hid (ext_trans HB.out HB5.out)
            have hsz5 := HB6.out.size
            have HDC := Lib.hid (fun w h => impl_Dec ((j : Int) - (i : Int)) (by omega) (by omega) w h)
            have hml : ls.length + 1 ≤ maxLen := by unfold maxLen; omega
            clear hz1
            generalize grow (redrawn wr p.d) p.os = w5 at *
            have HLW := Lib.hid (HLF.out w5.drew (ext_drew HB6.out))
            go_wp2_with fail
            go_region_law (first
              | (go_simp; refine (show Calls _ _ _ _ _ from HDC.out _ HLW.out).mono ?_; rintro e w6 ⟨rfl, hb6⟩; (have HB7 := Lib.hid (ext_trans (ext_drew HB6.out) hb6)); (have HO7 := Lib.hid ((HO5.out.ext (ext_drew (ext_refl _))).ext hb6)); (have hsz7 := HB7.out.size); clear hb6; dsimp only)
              | (refine step_append_s3 (by rfl) _ _ (by rfl) w.heap.size (.slice (some ⟨g, 0, none⟩) ls.length cq) ls (itb ((j : Int) - (i : Int)) ++ s.extract i (i + 1)) (by rfl) (by rfl) HO7.out (by omega) hsz7 ?_; intro g2 cap w8 hO8 hg8; (have HO8 := Lib.hid hO8); (have HB8 := Lib.hid (Chg.ext HB7.out hg8 (fun j hj => (HO7.out.ge j hj).1))); clear hO8 hg8))
            all_goals
              go_wp2_with fail
              go_roundw
              case rel => exact ⟨j, g2, cap, ls ++ [itb ((j : Int) - (i : Int)) ++ s.extract i (i + 1)], hj, rfl, by rw [List.length_append]; rfl, HNX3, Lib.hid (by rw [List.length_append]; exact HO8.out), HB8⟩
              case measure => simp [intOf]; omega
        · have hjs : j = s.size := by omega
          have f1 : ¬ (j : Int) < s.size := by omega
          have f2 : decide ((j : Int) < s.size) = false := decide_eq_false f1
          have f3 : decide (j < s.size) = false := decide_eq_false hjl
          have HE := Lib.hid (HR.out.stop (fun h => hjl h.1))
          clear hjs
          · go_wp2_with fail
            refine wp_region_quiet_below (by kernel_rfl) (by kernel_rfl) ?_
            repeat (go_big_quiet_step (fail))
            refine wpQuiet_nil ?_
            intro w' hw'
            obtain ⟨p, rfl⟩ := hw'
            have HB5 := Lib.hid (ext_trans HBB.out (below_regrown _ p.d p.os))
            clear hyi f2 f3
            have HNX2 := HNX.out
            have hkj := HE.out
            rw [hkj] at HNX2
            have hgt : i < j := by rw [← hkj]; exact rE_gt hlt
            have HTX : Hid (runT s i = itb ((j : Int) - (i : Int)) ++ s.extract i (i + 1)) := Lib.hid (by unfold runT; rw [hkj, Int.natCast_sub (by omega)])
            rw [HTX.out] at HNX2
            have HNX3 := Lib.hid HNX2
            clear HNX2 hkj HNX
            have HZ : Hid (∀ ls', rnL s = ls' → ls'.length ≤ 60) := Lib.hid fun ls' h => by rw [← h]; exact HRS.out.1
            have hz1 := itb_size ((j : Int) - (i : Int)) (by omega) (by omega)
            have g2 : (0 : Int) ≤ (i : Int) + 1 := by omega
            have g3 : (i : Int) + 1 ≤ s.size := by omega
            have g4 : (i : Int) ≤ (i : Int) + 1 := by omega
            have g5 : ((i : Int) + 1).toNat = i + 1 := by omega
            have g6 : IntKind.i64.wrap ((j : Int) - (i : Int)) = (j : Int) - i := IntWalk.i64_in _ (by omega)
            have g7 : IntKind.i64.wrap ((i : Int) + 1) = (i : Int) + 1 := IntWalk.i64_in _ (by omega)
            have c1 : ¬ 9223372036854775807 < (itb ((j : Int) - (i : Int))).size + (min (i + 1) s.size - i) := by omega
            have HO5 := Lib.hid (HO.out.ext HB5.out)
            have HB6 := Lib.hid (ext_trans HB.out HB5.out)
            have hsz5 := HB6.out.size
            have HDC := Lib.hid (fun w h => impl_Dec ((j : Int) - (i : Int)) (by omega) (by omega) w h)
            have hml : ls.length + 1 ≤ maxLen := by unfold maxLen; omega
            clear hz1
            generalize grow (redrawn wr p.d) p.os = w5 at *
            have HLW := Lib.hid (HLF.out w5.drew (ext_drew HB6.out))
            go_wp2_with fail
            go_region_law (first
              | (go_simp; refine (show Calls _ _ _ _ _ from HDC.out _ HLW.out).mono ?_; rintro e w6 ⟨rfl, hb6⟩; (have HB7 := Lib.hid (ext_trans (ext_drew HB6.out) hb6)); (have HO7 := Lib.hid ((HO5.out.ext (ext_drew (ext_refl _))).ext hb6)); (have hsz7 := HB7.out.size); clear hb6; dsimp only)
              | (refine step_append_s3 (by rfl) _ _ (by rfl) w.heap.size (.slice (some ⟨g, 0, none⟩) ls.length cq) ls (itb ((j : Int) - (i : Int)) ++ s.extract i (i + 1)) (by rfl) (by rfl) HO7.out (by omega) hsz7 ?_; intro g2 cap w8 hO8 hg8; (have HO8 := Lib.hid hO8); (have HB8 := Lib.hid (Chg.ext HB7.out hg8 (fun j hj => (HO7.out.ge j hj).1))); clear hO8 hg8))
            all_goals
              go_wp2_with fail
              go_roundw
              case rel => exact ⟨j, g2, cap, ls ++ [itb ((j : Int) - (i : Int)) ++ s.extract i (i + 1)], hj, rfl, by rw [List.length_append]; rfl, HNX3, Lib.hid (by rw [List.length_append]; exact HO8.out), HB8⟩
              case measure => simp [intOf]; omega
    · obtain rfl : i = s.size := by omega
      have HD := Lib.hid HT.out.done
      have e1 : ¬ (s.size : Int) < s.size := by omega
      have HJ := Lib.hid (impl_Join 32 g cq w.heap.size ls wr HO.out (by have := HRS.out.1; rw [HD.out] at this; omega) (fun t ht => by have := HRS.out.2 t (by rw [HD.out]; exact ht); omega))
      have HRT : Hid (rnT s = bsq (jnL 32 (ls.map (·.data.toList)))) := Lib.hid (by unfold rnT; rw [HD.out])
      go_wp2_with fail
      refine (show Calls _ _ _ _ _ from HJ.out).mono ?_
      rintro e w3 ⟨rfl, hb3⟩
      go_wp2_with fail
      go_ret
      exact ⟨by rw [HRT.out]; rfl, ext_trans HB.out hb3⟩
end Go.Proofs.YtfgopboddkhckaaGreatDoor
namespace Go.Proofs.YtfgopboddkhckaaGreatDoor
open Go.ChangeShapes Go.WideShapes Go.ChangeAt Go.RowKit Go.Sort Go.Joins
set_option linter.unusedVariables false
set_option maxRecDepth 100000
theorem ExP.rows {r : DK × List ByteArray × Int} {W W2 : World} {B0 q : Nat} {d : DK} {ls : List ByteArray} {u : Value} {A : Option Addr} {c : Nat} {B : Option Addr} {e : Nat} (hr : r = (d, ls, 0)) (hD : DB W B0 q d A c B e) (hB : B0 ≤ W.heap.size) (hb : Below W.heap.size W W2) (hO : OStr W2 W.heap.size u ls) :
    ExP r W B0 q (.returned (.tuple #[u, .int .i64 0])) W2 := by
  subst hr
  have hl := hD.lt
  refine ⟨_, rfl, Chg.of_below hb _, fun _ => ⟨A, c, B, e, hD.ext hb, hO.mono hB, fun k hk => ?_⟩⟩
  have h0 := (hO.ge k hk).1
  refine ⟨by omega, fun h => ?_, fun h => ?_⟩
  · have := (hD.own.1.ge _ h).2; omega
  · have := (hD.own.2.1.ge _ h).2; omega
set_option maxHeartbeats 1600000 in
theorem impl_okLine (A : Option Addr) (c : Nat) (ls : List ByteArray) (base : Nat) (w : World) (hO : OStr w base (.slice A ls.length c) ls) (hl : ls.length ≤ 4000) (hb : base ≤ w.heap.size) (hL : LayF w) :
    Calls Tryz.prog 91 #[.slice A ls.length c] w (fun e w' => ∃ A2 c2, e = .returned (.slice A2 (ls.length + 1) c2) ∧ OStr w' base (.slice A2 (ls.length + 1) c2) (ls ++ [okT ls.length]) ∧ Chg (BI (.slice A ls.length c)) w w') := by
  have HO := Lib.hid hO
  have HDE := Lib.hid (impl_Dec (ls.length : Int) (by omega) (by omega) w hL)
  have hz := itb_size (ls.length : Int) (by omega) (by omega)
  have c1 : ¬ 9223372036854775807 < 3 + (itb (ls.length : Int)).size := by omega
  obtain ⟨t, ht⟩ : ∃ t, itb (ls.length : Int) = t := ⟨_, rfl⟩
  have HT : Hid (okT ls.length = ⟨#[111, 107, 32]⟩ ++ t) := Lib.hid (by rw [← ht]; rfl)
  rw [ht] at HDE c1
  clear ht hz hL hO
  have HLN := Lib.hid hl
  have HBA := Lib.hid hb
  clear hl hb
  go_enter Tryz.func91, Tryz.ntmps91
  go_wp2_with fail
  refine (show Calls _ _ _ _ _ from HDE.out).mono ?_
  rintro e w1 ⟨rfl, hb⟩
  have HB := Lib.hid hb
  have HO1 := Lib.hid (HO.out.ext hb)
  have hb1 : base ≤ w1.heap.size := Nat.le_trans HBA.out hb.size
  clear hb
  go_wp2_with (at_builtin; refine wpList_append_str rfl _ _ rfl base (.slice A ls.length c) ls _ rfl rfl HO1.out (by have := HLN.out; omega) hb1 ?_; intro g2 cap w4 hO4 hg4 hlt4)
  go_ret
  refine ⟨some ⟨g2, 0, none⟩, cap, rfl, ?_, (Chg.of_below HB.out _).trans hg4⟩
  rw [HT.out]
  exact hO4
set_option maxHeartbeats 3200000 in
theorem impl_ex_show (w00 W : World) (q : Nat) (d : DK) (A : Option Addr) (c : Nat) (B : Option Addr) (e : Nat) (hD : DB W w00.heap.size q d A c B e) (hb0 : Below w00.heap.size w00 W) (Aw : Option Addr) (cw : Nat) (l : List ByteArray) (hw : RStr W (.slice Aw l.length cw) l) (hl : l.length = 1) (hx : gd l 0 = cmW .show_) (nv : Value) (hE : Env w00) (hV : vDK d = true) :
    Calls Tryz.prog 44 #[.pointer (some ⟨q, 0, none⟩), .slice Aw l.length cw, nv] W (ExP (exShow d) W w00.heap.size q) := by
  have HD := Lib.hid hD
  have HB0 := Lib.hid hb0
  obtain ⟨ad, rfl, _, hc⟩ := hw.at (k := 0) (by omega)
  have w0 := hc 0 (by omega)
  rw [Addr.add_zero'] at w0
  obtain ⟨x0, hx0⟩ : ∃ x, gd l 0 = x := ⟨_, rfl⟩
  rw [hx0] at w0 hx
  have hx0 := hx
  obtain ⟨p0, q0⟩ := lit_neC (x := x0) (l := [102, 111, 114, 109, 97, 116]) (by rw [hx0]; decide)
  obtain ⟨p1, q1⟩ := lit_neC (x := x0) (l := [98, 111, 110, 100]) (by rw [hx0]; decide)
  obtain ⟨p2, q2⟩ := lit_neC (x := x0) (l := [119, 97, 108, 108]) (by rw [hx0]; decide)
  have he : x0.toList = [115, 104, 111, 119] := by rw [hx0, ByteArray.toList_eq]; rfl
  have i0 : (0 : Int) < l.length := by omega
  have HLF : Hid (∀ W', Below W.heap.size W W' → LayF W') := Lib.hid fun W' h => (hE.ext (ext_trans hb0 h)).lay
  have hwl := (vDK_sizes hV).2.1
  have HVC : Hid (∀ k, k < d.wall.length → vCo (gd d.wall k) = true) := Lib.hid (fun k hk => by
    rcases (vDK_parts hV).2.2.1 with h | h
    · omega
    · exact (vW_parts h).2.2 k hk)
  have HRW := Lib.hid hD.own.2.1.rd
  have HEX : Hid (exShow d = (d, d.wall.map rnT ++ [okT d.wall.length], 0)) := Lib.hid rfl
  obtain ⟨wl, hwl2⟩ : ∃ x, d.wall = x := ⟨_, rfl⟩
  have k6 := HD.out.cells.k6
  rw [hwl2] at hwl HVC HRW HEX k6
  obtain ⟨_, _, _, r1, r2⟩ := HRW.out.open_
  unfold maxLen at r2
  replace k6 := fun o => cell_keep k6 (ext_alloc1 W o)
  clear hwl2 hV hE hD hw hx hx0 hc hl hb0
  go_enter Tryz.func44, Tryz.ntmps44
  go_wp2_with fail
  go_loopw [14, 114] (fun u i wr => ∃ (k g cq : Nat), k ≤ wl.length ∧ i = .int .i64 k ∧ u = .slice (some ⟨g, 0, none⟩) k cq ∧ Hid (OStr wr W.heap.size (.slice (some ⟨g, 0, none⟩) k cq) ((wl.take k).map rnT)) ∧ Hid (Below W.heap.size W wr)) (fun _ i _ => wl.length - (intOf i).toNat)
  case atStart => exact ⟨0, W.heap.size, 0, Nat.zero_le _, rfl, rfl, Lib.hid (ostr_lit _ _ (Nat.le_refl _)), Lib.hid (ext_alloc1 _ _)⟩
  case round =>
    obtain ⟨k, g, cq, hk, rfl, rfl, HO, HB⟩ := hrel
    have e1 : (0 : Int) ≤ k := by omega
    have hsz := HB.out.size
    by_cases hlt : k < wl.length
    · have e2 : (k : Int) < wl.length := by omega
      obtain ⟨bd, rfl, _, hd⟩ := (HRW.out.ext HB.out).at hlt
      have hdk := hd k hlt
      have HCR := Lib.hid (fun W' h => impl_CourseRuns (gd wl k) (HVC.out k hlt) W' (HLF.out W' h))
      have HS : Hid ((wl.take (k + 1)).map rnT = (wl.take k).map rnT ++ [rnT (gd wl k)]) := Lib.hid (by rw [take_gd hlt, List.map_append]; rfl)
      have HKL : Hid (((wl.take k).map rnT).length = k) := Lib.hid (by rw [List.length_map, List.length_take]; omega)
      obtain ⟨s, hs⟩ : ∃ s, gd wl k = s := ⟨_, rfl⟩
      rw [hs] at hdk HCR HS
      obtain ⟨t, ht⟩ : ∃ t, rnT s = t := ⟨_, rfl⟩
      rw [ht] at HCR HS
      clear hd hs ht
      obtain ⟨ls, hls⟩ : ∃ ls, (wl.take k).map rnT = ls := ⟨_, rfl⟩
      rw [hls] at HO HS HKL
      clear hls
      go_wp2_with fail
      refine (show Calls _ _ _ _ _ from HCR.out _ HB.out).mono ?_
      rintro e' w3 ⟨rfl, hb3⟩
      have HB3 := Lib.hid (ext_trans HB.out hb3)
      have HO3 := Lib.hid (HO.out.ext hb3)
      have hsz3 := HB3.out.size
      clear hb3 hdk
      go_wp2_with (at_builtin; refine wpList_append_str rfl _ _ rfl W.heap.size (.slice (some ⟨g, 0, none⟩) k cq) ls t rfl rfl HO3.out (by rw [HKL.out]; omega) hsz3 ?_; intro g2 cap w4 hO4 hg4 hlt4)
      go_roundw
      case rel =>
        refine ⟨k + 1, g2, cap, by omega, by go_num, by rw [HKL.out], Lib.hid ?_, Lib.hid (Chg.ext HB3.out hg4 (fun j hj => (HO3.out.ge j hj).1))⟩
        rw [HS.out]
        rw [HKL.out] at hO4
        exact hO4
      case measure => simp [intOf]; omega
    · obtain rfl : k = wl.length := by omega
      rw [List.take_length] at HO
      have HKL : Hid ((wl.map rnT).length = wl.length) := Lib.hid (List.length_map ..)
      have HOK := Lib.hid (impl_okLine (some ⟨g, 0, none⟩) cq (wl.map rnT) W.heap.size wr (by rw [HKL.out]; exact HO.out) (by rw [HKL.out]; omega) hsz (HLF.out _ HB.out))
      rw [HKL.out] at HOK
      go_wp2_with fail
      refine (show Calls _ _ _ _ _ from HOK.out).mono ?_
      rintro e' w4 ⟨A2, c2, rfl, hO4, hg4⟩
      have HO4 := Lib.hid hO4
      have HB4 := Lib.hid (Chg.ext HB.out hg4 (fun j hj => (HO.out.ge j hj).1))
      clear hO4 hg4 HOK
      go_wp2_with fail
      go_ret2
      exact ExP.rows HEX.out HD.out HB0.out.size HB4.out HO4.out
end Go.Proofs.YtfgopboddkhckaaGreatDoor
namespace Go.Proofs.YtfgopboddkhckaaGreatDoor
open Go.ChangeShapes Go.WideShapes Go.ChangeAt Go.RowKit Go.Sort Go.Joins
set_option linter.unusedVariables false
set_option maxRecDepth 100000
theorem Chg.more2 {S S' : Nat → Prop} {w a b : World} (h : Chg S w a) (k : Chg S' a b) (hS : ∀ j, S' j → S j ∨ w.heap.size ≤ j) : Chg S w b :=
  ⟨k.os.trans h.os, k.tape.trans h.tape, k.output.trans h.output, Nat.le_trans h.size k.size, fun i hi hn => (k.block i (Nat.lt_of_lt_of_le hi h.size) (fun hs => (hS i hs).elim hn (fun h2 => by omega))).trans (h.block i hi hn)⟩
theorem wpList_append_str3 {w0 : World} {ops : Array Oper} {rest : List Oper} {o : Oper} {a : Act} {Q : Exit → Act → World → Prop} (hgd : o.guard = none) (s x : Operand)
    (ho : o.op = .call { callee := .builtin .append, args := #[s, x], argTypes := #[29, 29] })
    (base : Nat) (v : Value) (l : List ByteArray) (n : ByteArray) (hs : a.eval s = v) (hx : a.eval x = .slice (some ⟨w0.heap.size, 0, none⟩) 1 1) (hO : OStr w0 base v l)
    (hl : l.length ≤ 1099511627776) (hbase : base ≤ w0.heap.size)
    (h : ∀ g cap w', OStr w' base (.slice (some ⟨g, 0, none⟩) (l.length + 1) cap) (l ++ [n]) → Chg (BI v) w0 w' → w0.heap.size < w'.heap.size → (BI v g ∨ w0.heap.size ≤ g) → wpList Tryz.prog ops Q rest (a.put o.dst (.slice (some ⟨g, 0, none⟩) (l.length + 1) cap)) w') :
    wpList Tryz.prog ops Q (o :: rest) a (w0.alloc (.cells #[.string n] 9)) := by
  obtain ⟨i0, hi, hz0, hz1, hz2⟩ := info_parts info_str
  refine wpList_append_lies _ hgd s x _ ho base 9 i0 (.string ⟨#[]⟩) 1 16 Tryz.underlying29 hi hz0 hz1 hz2 rfl (by omega) v l.length (l.map Value.string) hs (World.ownsRow.alloc hO _)
    ⟨w0.heap.size, 0, none⟩ 1 1 [.string n] hx rfl (cell_one_new _ _ _) (by simp [Value.oneCell']) (by omega) (by unfold maxLen; omega) (by omega) (by simp; omega) (w0.heap.size + 1) (by simp) ?_
  intro g cap w1 hown hgrow hat hlt
  refine h g cap w1 ?_ ((Chg.of_below (ext_alloc1 _ _) _).trans (Chg.of_grown hgrow)) (by have := hgrow.size; simp at this; omega) (hat.elim (fun h => .inl h) fun h => .inr (by omega))
  unfold OStr
  simpa using hown
theorem field_rd0 (A : Option Addr) (n c : Nat) (a b : Int) (w : World) : (Instr.field 135 (.agg #[.slice A n c, .int .i64 a, .int .i64 b]) 0).run Tryz.prog w = .ok (.slice A n c) w := by
  kernel_rfl
set_option maxHeartbeats 3200000 in
theorem impl_ex_log (w00 W : World) (q : Nat) (d : DK) (A : Option Addr) (c : Nat) (B : Option Addr) (e : Nat) (hD : DB W w00.heap.size q d A c B e) (hb0 : Below w00.heap.size w00 W) (Aw : Option Addr) (cw : Nat) (l : List ByteArray) (hw : RStr W (.slice Aw l.length cw) l) (hl : l.length = 1) (hx : gd l 0 = cmW .log) (nv : Value) (hE : Env w00) (hV : vDK d = true) :
    Calls Tryz.prog 44 #[.pointer (some ⟨q, 0, none⟩), .slice Aw l.length cw, nv] W (ExP (exLog d) W w00.heap.size q) := by
  have HD := Lib.hid hD
  have HB0 := Lib.hid hb0
  obtain ⟨ad, rfl, _, hc⟩ := hw.at (k := 0) (by omega)
  have w0 := hc 0 (by omega)
  rw [Addr.add_zero'] at w0
  obtain ⟨x0, hx0⟩ : ∃ x, gd l 0 = x := ⟨_, rfl⟩
  rw [hx0] at w0 hx
  have hx0 := hx
  obtain ⟨p0, q0⟩ := lit_neC (x := x0) (l := [102, 111, 114, 109, 97, 116]) (by rw [hx0]; decide)
  obtain ⟨p1, q1⟩ := lit_neC (x := x0) (l := [98, 111, 110, 100]) (by rw [hx0]; decide)
  obtain ⟨p2, q2⟩ := lit_neC (x := x0) (l := [119, 97, 108, 108]) (by rw [hx0]; decide)
  obtain ⟨p3, q3⟩ := lit_neC (x := x0) (l := [115, 104, 111, 119]) (by rw [hx0]; decide)
  obtain ⟨p4, q4⟩ := lit_neC (x := x0) (l := [99, 104, 101, 99, 107]) (by rw [hx0]; decide)
  obtain ⟨p5, q5⟩ := lit_neC (x := x0) (l := [99, 111, 117, 110, 116]) (by rw [hx0]; decide)
  obtain ⟨p6, q6⟩ := lit_neC (x := x0) (l := [112, 97, 105, 114]) (by rw [hx0]; decide)
  obtain ⟨p7, q7⟩ := lit_neC (x := x0) (l := [108, 101, 110, 103, 116, 104]) (by rw [hx0]; decide)
  obtain ⟨p8, q8⟩ := lit_neC (x := x0) (l := [104, 101, 105, 103, 104, 116]) (by rw [hx0]; decide)
  obtain ⟨p9, q9⟩ := lit_neC (x := x0) (l := [101, 110, 116, 101, 114]) (by rw [hx0]; decide)
  have i0 : (0 : Int) < l.length := by omega
  have HLF : Hid (∀ W', Below W.heap.size W W' → LayF W') := Lib.hid fun W' h => (hE.ext (ext_trans hb0 h)).lay
  have HE := Lib.hid (fun W' (h : Below w00.heap.size w00 W') => hE.ext h)
  have hls := (vDK_sizes hV).2.2.2
  have hg := (vDK_parts hV).2.2.2
  have hlen := lgE_len d.log
  have HVE := Lib.hid (lgE_ok d.log)
  have HRL : Hid (∀ W', Env W' → Calls Tryz.prog 101 #[.string d.log] W' (fun e w' => ∃ A c, ∃ x y : Int, e = .returned (.agg #[.slice A (lgE d.log).length c, .int .i64 x, .int .i64 y]) ∧ OENS w' W'.heap.size (.slice A (lgE d.log).length c) (lgE d.log) ∧ Below W'.heap.size W' w')) := Lib.hid fun W' hE => (impl_readLog d.log (by omega) W' hE).mono (by
    rintro e' w' ⟨A, c, rfl, hO, hb⟩
    rw [(lg_yes hg).1]
    exact ⟨A, c, _, _, rfl, hO, hb⟩)
  have HEX : Hid (exLog d = (d, (lgE d.log).map wrb ++ [okT (lgE d.log).length], 0)) := Lib.hid rfl
  obtain ⟨es, hes⟩ : ∃ x, lgE d.log = x := ⟨_, rfl⟩
  have k7 := HD.out.cells.k7
  rw [hes] at hlen HVE HRL HEX
  replace k7 := fun o => cell_keep k7 (ext_alloc1 W o)
  clear hes hg hls hV hE hD hw hx hx0 hc hl hb0
  go_enter Tryz.func44, Tryz.ntmps44
  go_wp2_with fail
  refine (show Calls _ _ _ _ _ from HRL.out _ (HE.out _ (ext_alloc HB0.out _))).mono ?_
  rintro e' W1 ⟨A1, c1, x1, y1, rfl, hO1, hb⟩
  have HRW := Lib.hid (fun W' (h : Chg (fun j => j = W.heap.size) W1 W') => (hO1.chg h (fun j hj e => by have := (hO1.ge j hj).1; simp at this; omega)).rd)
  have HB1 := Lib.hid (ext_trans (ext_alloc1 _ _) hb)
  have HL0 := Lib.hid ((ostr_lit W W.heap.size (Nat.le_refl _)).ext hb)
  obtain ⟨_, _, _, r1, r2⟩ := hO1.rd.open_
  unfold maxLen at r2
  clear hO1 hb k7
  have hfr := field_rd0 A1 es.length c1 x1 y1
  go_wp2_with fail
  clear hfr
  go_loopw [33, 273] (fun u i wr => ∃ (k g cq : Nat), k ≤ es.length ∧ i = .int .i64 k ∧ u = .slice (some ⟨g, 0, none⟩) k cq ∧ Hid (OStr wr W.heap.size (.slice (some ⟨g, 0, none⟩) k cq) ((es.take k).map wrb)) ∧ (g = W.heap.size ∨ W1.heap.size ≤ g) ∧ Hid (Chg (fun j => j = W.heap.size) W1 wr)) (fun _ i _ => es.length - (intOf i).toNat)
  case atStart => exact ⟨0, W.heap.size, 0, Nat.zero_le _, rfl, rfl, Lib.hid HL0.out, .inl rfl, Lib.hid (Chg.of_below (ext_refl _) _)⟩
  case round =>
    obtain ⟨k, g, cq, hk, rfl, rfl, HO, hgg, HB⟩ := hrel
    have e1 : (0 : Int) ≤ k := by omega
    have HBW := Lib.hid (Chg.ext HB1.out HB.out (fun j hj => by subst hj; exact Nat.le_refl _))
    have hsz := HBW.out.size
    by_cases hlt : k < es.length
    · have e2 : (k : Int) < es.length := by omega
      obtain ⟨bd, rfl, _, hd⟩ := (HRW.out wr HB.out).at hlt
      obtain ⟨p0, p1, p2⟩ := hd k hlt
      have HWO := Lib.hid (fun W' h => impl_words (.agg #[.int .i64 (gd es k).day, .string (gd es k).what, .int .i64 (gd es k).val]) (gd es k) W' (HVE.out _ (gd_mem hlt)) rfl (HLF.out W' h))
      have HS : Hid ((es.take (k + 1)).map wrb = (es.take k).map wrb ++ [wrb (gd es k)]) := Lib.hid (by rw [take_gd hlt, List.map_append]; rfl)
      have HKL : Hid (((es.take k).map wrb).length = k) := Lib.hid (by rw [List.length_map, List.length_take]; omega)
      obtain ⟨t, ht⟩ : ∃ t, wrb (gd es k) = t := ⟨_, rfl⟩
      rw [ht] at HWO HS
      clear hd ht
      obtain ⟨ls, hls⟩ : ∃ ls, (es.take k).map wrb = ls := ⟨_, rfl⟩
      rw [hls] at HO HS HKL
      clear hls
      go_wp2_with fail
      refine (show Calls _ _ _ _ _ from HWO.out _ (ext_alloc HBW.out _)).mono ?_
      rintro e' w3 ⟨rfl, hb3⟩
      have HB3 := Lib.hid (HB.out.trans (Chg.of_below (ext_trans (ext_alloc1 _ _) hb3) _))
      have HBW3 := Lib.hid (ext_trans (ext_alloc HBW.out _) hb3)
      have hsw := HB.out.size
      have HO3 := Lib.hid (HO.out.ext (ext_trans (ext_alloc1 _ _) hb3))
      have hsz3 := HBW3.out.size
      have hs13 := HB3.out.size
      clear hb3 p0 p1 p2
      go_wp2_with (at_builtin; refine wpList_append_str3 rfl _ _ rfl W.heap.size (.slice (some ⟨g, 0, none⟩) k cq) ls t rfl rfl HO3.out (by rw [HKL.out]; omega) hsz3 ?_; intro g2 cap w4 hO4 hg4 hlt4 hat4)
      go_roundw
      case rel =>
        refine ⟨k + 1, g2, cap, by omega, by go_num, by rw [HKL.out], Lib.hid ?_, ?_, Lib.hid (HB3.out.more2 hg4 (fun j hj => by obtain rfl : g = j := Option.some.inj hj; exact hgg))⟩
        · rw [HS.out]
          rw [HKL.out] at hO4
          exact hO4
        · rcases hat4 with h | h
          · obtain rfl : g = g2 := Option.some.inj h
            exact hgg
          · exact .inr (by omega)
      case measure => simp [intOf]; omega
    · obtain rfl : k = es.length := by omega
      rw [List.take_length] at HO
      have HKL : Hid ((es.map wrb).length = es.length) := Lib.hid (List.length_map ..)
      have HOK := Lib.hid (impl_okLine (some ⟨g, 0, none⟩) cq (es.map wrb) W.heap.size wr (by rw [HKL.out]; exact HO.out) (by rw [HKL.out]; omega) hsz (HLF.out _ HBW.out))
      rw [HKL.out] at HOK
      go_wp2_with fail
      refine (show Calls _ _ _ _ _ from HOK.out).mono ?_
      rintro e' w4 ⟨A2, c2, rfl, hO4, hg4⟩
      have HO4 := Lib.hid hO4
      have HB4 := Lib.hid (Chg.ext HBW.out hg4 (fun j hj => (HO.out.ge j hj).1))
      clear hO4 hg4 HOK
      go_wp2_with fail
      go_ret2
      exact ExP.rows HEX.out HD.out HB0.out.size HB4.out HO4.out
end Go.Proofs.YtfgopboddkhckaaGreatDoor
