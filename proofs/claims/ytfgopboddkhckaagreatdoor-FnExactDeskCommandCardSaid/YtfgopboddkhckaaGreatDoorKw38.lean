/-
  Parts of the proof: DoorK.
-/
import Derived.Test.YtfgopboddkhckaaGreatDoorKw37
namespace Go.Proofs.YtfgopboddkhckaaGreatDoor
open Go.ChangeShapes Go.WideShapes Go.ChangeAt Go.RowKit Go.Sort Go.Joins
set_option maxRecDepth 100000
theorem g_cod : (Tryz.prog.globals[0]?).map (·.type) = some 109 := by kernel_rfl
theorem n_cod : Tryz.prog.globalNamed "loop.example/g01042/impl.codeNames" = some 0 := by kernel_rfl
theorem cod_of {laid : List (String × DataW Unit)} {W : World} (h : laidMet Tryz.prog laid W) (hm : ("loop.example/g01042/impl.codeNames", Rows.laid_loop_example_g01042_impl_codeNames) ∈ laid) : CodeT W := by
 obtain ⟨ps, hv, _⟩ := h
 obtain ⟨g, t, cs, fuel, p, h1, h2, h3, h4⟩ := var_reads hv _ _ hm
 obtain rfl := Option.some.inj (n_cod.symm.trans h1)
 obtain rfl := Option.some.inj (g_cod.symm.trans h2)
 obtain ⟨xs, m, _, hx, hl, hxl, hf⟩ := DataW.trod_array Tryz.underlying109 h4
 have c5 : Tryz.prog.cellsOf 109 = 11 := by kernel_rfl
 have c1 : Tryz.prog.cellsOf 9 = 1 := by kernel_rfl
 rw [c5] at hl
 rw [c1] at hf
 have hx1 := congrArg Prod.fst hx
 have e : (Rows.laid_loop_example_g01042_impl_codeNames : DataW Unit) = .agg [.lit (.string (⟨#[111, 107]⟩ : ByteArray).data.toList), .lit (.string (⟨#[105, 110, 118, 97, 108, 105, 100]⟩ : ByteArray).data.toList), .lit (.string (⟨#[114, 97, 110, 103, 101]⟩ : ByteArray).data.toList), .lit (.string (⟨#[110, 111, 116, 45, 102, 111, 117, 110, 100]⟩ : ByteArray).data.toList), .lit (.string (⟨#[101, 120, 105, 115, 116, 115]⟩ : ByteArray).data.toList), .lit (.string (⟨#[102, 117, 108, 108]⟩ : ByteArray).data.toList), .lit (.string (⟨#[115, 116, 97, 116, 101]⟩ : ByteArray).data.toList), .lit (.string (⟨#[115, 121, 110, 116, 97, 120]⟩ : ByteArray).data.toList), .lit (.string (⟨#[102, 111, 114, 109, 97, 116]⟩ : ByteArray).data.toList), .lit (.string (⟨#[99, 108, 97, 115, 104]⟩ : ByteArray).data.toList), .lit (.string (⟨#[99, 114, 97, 99, 107, 101, 100]⟩ : ByteArray).data.toList)] := by rfl
 rw [e] at hx1
 injection hx1 with hx1
 obtain ⟨ls⟩ := cs
 match ls, hl, xs, hxl with
 | [d0, d1, d2, d3, d4, d5, d6, d7, d8, d9, d10], _, [x0, x1, x2, x3, x4, x5, x6, x7, x8, x9, x10], _ =>
   simp only [List.map_cons, List.map_nil, List.cons.injEq, and_true] at hx1
   obtain ⟨q0, q1, q2, q3, q4, q5, q6, q7, q8, q9, q10⟩ := hx1
   have k : ∀ (i : Nat) (d : Value) (x : DataW Unit × List MemPlace) (t : ByteArray), i < 11 → ([d0, d1, d2, d3, d4, d5, d6, d7, d8, d9, d10].drop (i * 1)).take 1 = [d] → [x0, x1, x2, x3, x4, x5, x6, x7, x8, x9, x10][i]? = some x → DataW.lit (.string t.data.toList) = x.1 → d = .string t := by
     intro i d x t hi hd hx hq
     have h := hf i hi
     rw [show (Array.mk [d0, d1, d2, d3, d4, d5, d6, d7, d8, d9, d10]).toList = [d0, d1, d2, d3, d4, d5, d6, d7, d8, d9, d10] from rfl, hd, hx] at h
     obtain ⟨s, hs, hx2, _⟩ := DataW.trod_string Tryz.underlying9 h
     injection hs with hs
     rw [hx2] at hq
     injection hq with hq
     injection hq with hq
     rw [hs, ba_ext hq]
   obtain rfl := k 0 d0 x0 ⟨#[111, 107]⟩ (by omega) rfl rfl q0
   obtain rfl := k 1 d1 x1 ⟨#[105, 110, 118, 97, 108, 105, 100]⟩ (by omega) rfl rfl q1
   obtain rfl := k 2 d2 x2 ⟨#[114, 97, 110, 103, 101]⟩ (by omega) rfl rfl q2
   obtain rfl := k 3 d3 x3 ⟨#[110, 111, 116, 45, 102, 111, 117, 110, 100]⟩ (by omega) rfl rfl q3
   obtain rfl := k 4 d4 x4 ⟨#[101, 120, 105, 115, 116, 115]⟩ (by omega) rfl rfl q4
   obtain rfl := k 5 d5 x5 ⟨#[102, 117, 108, 108]⟩ (by omega) rfl rfl q5
   obtain rfl := k 6 d6 x6 ⟨#[115, 116, 97, 116, 101]⟩ (by omega) rfl rfl q6
   obtain rfl := k 7 d7 x7 ⟨#[115, 121, 110, 116, 97, 120]⟩ (by omega) rfl rfl q7
   obtain rfl := k 8 d8 x8 ⟨#[102, 111, 114, 109, 97, 116]⟩ (by omega) rfl rfl q8
   obtain rfl := k 9 d9 x9 ⟨#[99, 108, 97, 115, 104]⟩ (by omega) rfl rfl q9
   obtain rfl := k 10 d10 x10 ⟨#[99, 114, 97, 99, 107, 101, 100]⟩ (by omega) rfl rfl q10
   exact h3
theorem vK (n : String) (h : n = "loop.example/g01042/impl.libraryTexts" ∨ n = "loop.example/g01042/impl.codeNames") : ∃ g t, Tryz.prog.globalNamed n = some g ∧ (Tryz.prog.globals[g]?).map (·.type) = some t ∧ Tryz.prog.readableRec t = true ∧ t < Tryz.prog.types.size := by
 rcases h with rfl | rfl
 · exact ⟨_, _, n_lib, g_lib, by kernel_rfl, of_decide_eq_true (by kernel_rfl)⟩
 · exact ⟨_, _, n_cod, g_cod, by kernel_rfl, of_decide_eq_true (by kernel_rfl)⟩
theorem gs_two {H : Type} {enc : TypeId × Value → H} {P : Program} {W : World} {sp : Nat → Bool} {a b : String} : ∀ (gs : List (DataW H)) (ps : List MemPlace), DataW.TrodVars enc P W sp [a, b] gs ps → ∃ d1 d2, gs = [d1, d2]
 | [], _, h => h.elim
 | [_], _, h => by
   obtain ⟨_, _, _, _, _, _, _, _, _, _, h5, _⟩ := h
   exact h5.elim
 | [d1, d2], _, _ => ⟨d1, d2, rfl⟩
 | _ :: _ :: _ :: _, _, h => by
   obtain ⟨_, _, _, _, _, _, _, _, _, _, h5, _⟩ := h
   obtain ⟨_, _, _, _, _, _, _, _, _, _, h6, _⟩ := h5
   exact h6.elim
end Go.Proofs.YtfgopboddkhckaaGreatDoor
