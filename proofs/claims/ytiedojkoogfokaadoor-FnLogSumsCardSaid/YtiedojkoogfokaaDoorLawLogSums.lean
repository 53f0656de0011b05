/-
  The law FnLogSums: sums over all names are the sum of all numbers, for all arguments; no condition. The row; the walk lies in Sums.
-/
import Derived.Test.YtiedojkoogfokaaDoorSums
import Derived.Test.YtiedojkoogfokaaDoorRowB
import Derived.Test.YtiedojkoogfokaaDoorDoor
import Derived.ChangeMaps5
import Derived.Deep.DrawnRows
namespace Go.Proofs.YtiedojkoogfokaaDoor
open Go.ChangeShapes Go.WideShapes Go.ChangeAt Go.RowKit Go.Sort
set_option linter.unusedVariables false

theorem rd_FnLogSums : ∀ t ∈ Tryd.f3.params.toList, Tryd.prog.readableRec t = true ∧ t < Tryd.prog.types.size := by
  have h : Tryd.f3.params.toList.all (fun t => Tryd.prog.readableRec t && decide (t < Tryd.prog.types.size)) = true := by kernel_rfl
  intro t ht
  have := List.all_eq_true.1 h t ht
  simpa using this

set_option maxRecDepth 100000 in
theorem lifted_FnLogSums (os : Os) (started : os.Started) (H : Type) (enc : TypeId × Value → H) :
    ReturnsInHanded {} Tryd.checked os 3 .any (fun w args => (Rows.fnLogSumsSpec.pre enc Tryd.prog Tryd.f3 [] false w args ∧ laidMetH Tryd.prog Rows.fnLogSumsRow.laid w) ∧ sizedMet enc Tryd.prog Tryd.f3 (OpenSpec.ofChange Rows.fnLogSumsSpec) false w args)
      (Rows.fnLogSumsSpec.post enc Tryd.prog Tryd.f3 false true false false) := by
  have plain : ∀ w, laidMetH Tryd.prog Rows.fnLogSumsRow.laid w = laidMet Tryd.prog Rows.fnLogSumsRow.laid w := fun w => MakeChecks.laidMetH_plain _ _ _ (by kernel_rfl)
  refine returns_door (C := Tryd.checked) (X := fun w _ => laidMetH Tryd.prog Rows.fnLogSumsRow.laid w) (fun _ _ _ hh h => h.of_heap hh) own_knob started (by kernel_rfl) Tryd.func3
    (ChangeSpec.witness_shaped (enc := enc) (C := Tryd.checked) (os := os) (X := fun w _ => laidMetH Tryd.prog Rows.fnLogSumsRow.laid w) false (World.laidAll Tryd.prog os Rows.fnLogSumsRow.laid) #[.slice none 0 0] 8 (World.laidAll_os _ _ _)
      (World.shaped_of_ZipB (by kernel_rfl) (by kernel_rfl)) (by kernel_rfl) (by kernel_rfl) (by kernel_rfl)
      (by rw [plain]; exact laidMet_laidAll _ (by kernel_rfl) (by kernel_rfl))) ?_
  intro W base args ds gs before hval0 hW hL hsh
  rw [plain] at hL
  have hEnv : Env W := env_of hL hsh (by simp [Rows.fnLogSumsRow]) (by simp [Rows.fnLogSumsRow, Rows.laid_strconv_ErrSyntax]) (by simp [Rows.fnLogSumsRow, Rows.laid_strconv_ErrRange])
  have hval : ∀ (j : Nat) t v, Tryd.f3.params[j]? = some t → args[j]? = some v → Value.okWide Tryd.prog W .any base t v := hval0
  have hW' : DataW.Whole enc Tryd.prog Tryd.f3.params.toList (Rows.fnLogSumsSpec).vars false W args.toList ds gs before := hW
  obtain ⟨p, q, hA0, hV, _, hfz, hnd⟩ := hW
  have hA : DataW.TrodAll enc Tryd.prog W 0 (fun _ => true) true Tryd.f3.params.toList args.toList ds p := hA0
  rw [Tryd.params3] at hA hval
  obtain ⟨v0, vs0, d0, ds0, p0, q0, ha0, hd0, hp0, h0, rr0⟩ := trodAll_cons hA
  subst hd0 hp0
  obtain ⟨e1, e2, e3⟩ := trodAll_nil rr0
  subst e1 e2 e3
  obtain rfl : args = #[v0] := by cases args; simp_all
  obtain ⟨rfl, rfl⟩ := trodVars_none hV
  obtain ⟨x0, hR0⟩ := open_bytes_arg (hval 0 22 v0 rfl rfl) h0
  clear hA0 hval0
  refine (law_FnLogSums v0 x0 W hEnv hR0).mono fun e W' ⟨he, hb⟩ => ?_
  subst he
  exact ⟨_, rfl, law_post rd_FnLogSums rfl rfl hW' rfl hb⟩

theorem bare_FnLogSums : Rows.FnLogSumsSaid :=
  OpenClaim.holds_of_wide 3 Tryd.f3 rfl rfl rfl rfl rfl rfl rfl ⟨rfl, rfl, rfl, rfl, rfl⟩ rfl rfl rfl rfl rfl (by kernel_rfl) Tryd.func3 (by kernel_rfl)
    (of_decide_eq_true (by kernel_rfl)) (by unfold Func.isWrapper; first | (rw [if_pos (by decide +kernel)]; kernel_rfl) | (rw [if_neg (by decide +kernel)]; exact ⟨rfl, rfl⟩))
    (fun os started H enc _ => lifted_FnLogSums os started H enc)

theorem wants_FnLogSums : Tryd.f3.params.toList.all (fun u => !Tryd.prog.wantsStandIn u) = true := by kernel_rfl
theorem named_FnLogSums : Tryd.prog.funcNamed "loop.example/g01042/laws.FnLogSums" = some 3 := by kernel_rfl
theorem holds_FnLogSums : Rows.FnLogSumsCardSaid :=
  Claim7.holds_tied_plain_at .later [] Rows.fnLogSumsCard.laidKinds true Rows.fnLogSumsCard.stood.harness Rows.fnLogSumsCard.stood.looks
    bare_FnLogSums (fun _ h => by cases h) (by kernel_rfl) (fun _ h => by cases h) fnLogSums_row_tie rfl ⟨rfl, rfl⟩ (by kernel_rfl) rfl
    (fun f fn hf hfn => by
      obtain rfl : f = 3 := (Option.some.inj (named_FnLogSums.symm.trans hf)).symm
      obtain rfl : fn = Tryd.f3 := (Option.some.inj (Tryd.func3.symm.trans hfn)).symm
      exact ⟨by kernel_rfl, fun j t ht => by
        have hm : t ∈ Tryd.f3.params.toList := by simpa using Array.mem_of_getElem? ht
        exact (show Tryd.prog.wantsStandIn t = false by simpa using List.all_eq_true.1 wants_FnLogSums t hm)⟩)
    (by kernel_rfl)


end Go.Proofs.YtiedojkoogfokaaDoor
