/-
  The law FnOrders: An order that is taken is there and can be cancelled again, deliveries lessen the open bricks, and orders are read back from their texts (P26), for all arguments; no condition. The row; the walk lies in Orl.
-/
import Derived.Test.YtbggggaoljpfnaaGreatDoorOrl
import Derived.Test.YtbggggaoljpfnaaGreatDoorRowB
import Derived.Test.YtbggggaoljpfnaaGreatDoorDoor
import Derived.ChangeMaps5
import Derived.Deep.DrawnRows
namespace Go.Proofs.YtbggggaoljpfnaaGreatDoor
open Go.ChangeShapes Go.WideShapes Go.ChangeAt Go.RowKit Go.Sort
set_option linter.unusedVariables false

theorem rd_FnOrders : ∀ t ∈ Tryz.f3.params.toList, Tryz.prog.readableRec t = true ∧ t < Tryz.prog.types.size := by
  have h : Tryz.f3.params.toList.all (fun t => Tryz.prog.readableRec t && decide (t < Tryz.prog.types.size)) = true := by kernel_rfl
  intro t ht
  have := List.all_eq_true.1 h t ht
  simpa using this

set_option maxRecDepth 100000 in
theorem lifted_FnOrders (os : Os) (started : os.Started) (H : Type) (enc : TypeId × Value → H) :
    ReturnsInHanded {} Tryz.checked os 3 .any (fun w args => (Rows.fnOrdersSpec.pre enc Tryz.prog Tryz.f3 [] false w args ∧ laidMetH Tryz.prog Rows.fnOrdersRow.laid w) ∧ sizedMet enc Tryz.prog Tryz.f3 (OpenSpec.ofChange Rows.fnOrdersSpec) false w args)
      (Rows.fnOrdersSpec.post enc Tryz.prog Tryz.f3 false true false false) := by
  have plain : ∀ w, laidMetH Tryz.prog Rows.fnOrdersRow.laid w = laidMet Tryz.prog Rows.fnOrdersRow.laid w := fun w => MakeChecks.laidMetH_plain _ _ _ (by kernel_rfl)
  refine returns_door (C := Tryz.checked) (X := fun w _ => laidMetH Tryz.prog Rows.fnOrdersRow.laid w) (fun _ _ _ hh h => h.of_heap hh) own_knob started (by kernel_rfl) Tryz.func3
    (ChangeSpec.witness_shaped (enc := enc) (C := Tryz.checked) (os := os) (X := fun w _ => laidMetH Tryz.prog Rows.fnOrdersRow.laid w) false (World.laidAll Tryz.prog os Rows.fnOrdersRow.laid) #[.slice none 0 0] 8 (World.laidAll_os _ _ _)
      (World.shaped_of_ZipB (by kernel_rfl) (by kernel_rfl)) (by kernel_rfl) (by kernel_rfl) (by kernel_rfl)
      (by rw [plain]; exact laidMet_laidAll _ (by kernel_rfl) (by kernel_rfl))) ?_
  intro W base args ds gs before hval0 hW hL hsh
  rw [plain] at hL
  have hEnv : Env W := env_of hL hsh (by simp [Rows.fnOrdersRow]) (by simp [Rows.fnOrdersRow, Rows.laid_strconv_ErrSyntax]) (by simp [Rows.fnOrdersRow, Rows.laid_strconv_ErrRange])
  have hval : ∀ (j : Nat) t v, Tryz.f3.params[j]? = some t → args[j]? = some v → Value.okWide Tryz.prog W .any base t v := hval0
  have hW' : DataW.Whole enc Tryz.prog Tryz.f3.params.toList (Rows.fnOrdersSpec).vars false W args.toList ds gs before := hW
  obtain ⟨p, q, hA0, hV, _, hfz, hnd⟩ := hW
  have hA : DataW.TrodAll enc Tryz.prog W 0 (fun _ => true) true Tryz.f3.params.toList args.toList ds p := hA0
  rw [Tryz.params3] at hA hval
  obtain ⟨v0, vs0, d0, ds0, p0, q0, ha0, hd0, hp0, h0, rr0⟩ := trodAll_cons hA
  subst hd0 hp0
  obtain ⟨e1, e2, e3⟩ := trodAll_nil rr0
  subst e1 e2 e3
  obtain rfl : args = #[v0] := by cases args; simp_all
  obtain ⟨rfl, rfl⟩ := trodVars_none hV
  obtain ⟨x0, hR0⟩ := open_bytes_arg (hval 0 22 v0 rfl rfl) h0
  clear hA0 hval0
  refine (law_FnOrders v0 x0 W hEnv hR0).mono fun e W' ⟨he, hb⟩ => ?_
  subst he
  exact ⟨_, rfl, law_post rd_FnOrders rfl rfl hW' rfl hb⟩

theorem bare_FnOrders : Rows.FnOrdersSaid :=
  OpenClaim.holds_of_wide 3 Tryz.f3 rfl rfl rfl rfl rfl rfl rfl ⟨rfl, rfl, rfl, rfl, rfl⟩ rfl rfl rfl rfl rfl (by kernel_rfl) Tryz.func3 (by kernel_rfl)
    (of_decide_eq_true (by kernel_rfl)) (by unfold Func.isWrapper; first | (rw [if_pos (by decide +kernel)]; kernel_rfl) | (rw [if_neg (by decide +kernel)]; exact ⟨rfl, rfl⟩))
    (fun os started H enc _ => lifted_FnOrders os started H enc)

theorem wants_FnOrders : Tryz.f3.params.toList.all (fun u => !Tryz.prog.wantsStandIn u) = true := by kernel_rfl
theorem named_FnOrders : Tryz.prog.funcNamed "loop.example/g01042/laws.FnOrders" = some 3 := by kernel_rfl
theorem holds_FnOrders : Rows.FnOrdersCardSaid :=
  Claim7.holds_tied_plain_at .later [] Rows.fnOrdersCard.laidKinds true Rows.fnOrdersCard.stood.harness Rows.fnOrdersCard.stood.looks
    bare_FnOrders (fun _ h => by cases h) (by kernel_rfl) (fun _ h => by cases h) fnOrders_row_tie rfl ⟨rfl, rfl⟩ (by kernel_rfl) rfl
    (fun f fn hf hfn => by
      obtain rfl : f = 3 := (Option.some.inj (named_FnOrders.symm.trans hf)).symm
      obtain rfl : fn = Tryz.f3 := (Option.some.inj (Tryz.func3.symm.trans hfn)).symm
      exact ⟨by kernel_rfl, fun j t ht => by
        have hm : t ∈ Tryz.f3.params.toList := by simpa using Array.mem_of_getElem? ht
        exact (show Tryz.prog.wantsStandIn t = false by simpa using List.all_eq_true.1 wants_FnOrders t hm)⟩)
    (by kernel_rfl)


end Go.Proofs.YtbggggaoljpfnaaGreatDoor
