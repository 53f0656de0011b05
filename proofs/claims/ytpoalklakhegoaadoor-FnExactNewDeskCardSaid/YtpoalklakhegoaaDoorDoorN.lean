/-
  From a row that lists the library's bonds to the walk, and back: the variable reads behind the call as it did.
-/
import Derived.Test.YtpoalklakhegoaaDoorDoor
import Derived.Test.YtpoalklakhegoaaDoorBnd4
import Derived.ChangeVars
import Derived.OpenShut
namespace Go.Proofs.YtpoalklakhegoaaDoor
open Go.ChangeShapes Go.WideShapes Go.ChangeAt Go.RowKit Go.Sort Go.Joins
set_option maxRecDepth 100000

theorem g_lib : (Tryd.prog.globals[0]?).map (·.type) = some 41 := by kernel_rfl
theorem n_lib : Tryd.prog.globalNamed "loop.example/g01042/impl.libraryTexts" = some 0 := by kernel_rfl
theorem lib_of {laid : List (String × DataW Unit)} {W : World} (h : laidMet Tryd.prog laid W) (hm : ("loop.example/g01042/impl.libraryTexts", Rows.laid_loop_example_g01042_impl_libraryTexts) ∈ laid) : LibT W := by
  obtain ⟨ps, hv, _⟩ := h
  obtain ⟨g, t, cs, fuel, p, h1, h2, h3, h4⟩ := var_reads hv _ _ hm
  obtain rfl := Option.some.inj (n_lib.symm.trans h1)
  obtain rfl := Option.some.inj (g_lib.symm.trans h2)
  obtain ⟨xs, m, _, hx, hl, hxl, hf⟩ := DataW.trod_array Tryd.underlying41 h4
  have c5 : Tryd.prog.cellsOf 41 = 5 := by kernel_rfl
  have c1 : Tryd.prog.cellsOf 9 = 1 := by kernel_rfl
  rw [c5] at hl
  rw [c1] at hf
  have hx1 := congrArg Prod.fst hx
  have e : (Rows.laid_loop_example_g01042_impl_libraryTexts : DataW Unit) = .agg [.lit (.string tL0.data.toList), .lit (.string tL1.data.toList), .lit (.string tL2.data.toList), .lit (.string tL3.data.toList), .lit (.string tL4.data.toList)] := by rfl
  rw [e] at hx1
  injection hx1 with hx1
  obtain ⟨ls⟩ := cs
  match ls, hl, xs, hxl with
  | [d0, d1, d2, d3, d4], _, [x0, x1, x2, x3, x4], _ =>
    simp only [List.map_cons, List.map_nil, List.cons.injEq, and_true] at hx1
    obtain ⟨q0, q1, q2, q3, q4⟩ := hx1
    have k : ∀ (i : Nat) (d : Value) (x : DataW Unit × List MemPlace) (t : ByteArray), i < 5 → ([d0, d1, d2, d3, d4].drop (i * 1)).take 1 = [d] → [x0, x1, x2, x3, x4][i]? = some x → DataW.lit (.string t.data.toList) = x.1 → d = .string t := by
      intro i d x t hi hd hx hq
      have h := hf i hi
      rw [show (Array.mk [d0, d1, d2, d3, d4]).toList = [d0, d1, d2, d3, d4] from rfl, hd, hx] at h
      obtain ⟨s, hs, hx2, _⟩ := DataW.trod_string Tryd.underlying9 h
      injection hs with hs
      rw [hx2] at hq
      injection hq with hq
      injection hq with hq
      rw [hs, ba_ext hq]
    obtain rfl := k 0 d0 x0 tL0 (by omega) rfl rfl q0
    obtain rfl := k 1 d1 x1 tL1 (by omega) rfl rfl q1
    obtain rfl := k 2 d2 x2 tL2 (by omega) rfl rfl q2
    obtain rfl := k 3 d3 x3 tL3 (by omega) rfl rfl q3
    obtain rfl := k 4 d4 x4 tL4 (by omega) rfl rfl q4
    exact h3
theorem lib_stays {H : Type} {enc : TypeId × Value → H} {W W' : World} {sp : Nat → Bool} {gs : List (DataW H)} {ps : List MemPlace} (hb : Below W.heap.size W W')
    (h : DataW.TrodVars enc Tryd.prog W (fun _ => true) ["loop.example/g01042/impl.libraryTexts"] gs ps) (hlt : ∀ p ∈ ps, p.block < W.heap.size) (hsp : ∀ p ∈ ps, sp p.block = true) :
    DataW.TrodVars enc Tryd.prog W' sp ["loop.example/g01042/impl.libraryTexts"] gs ps := by
  obtain ⟨g, t, cs, fuel, d, p, rfl, h1, h2, h3, h4, rfl⟩ := trodVars_one h
  obtain rfl := Option.some.inj (n_lib.symm.trans h1)
  obtain rfl := Option.some.inj (g_lib.symm.trans h2)
  have hr : Tryd.prog.readableRec 41 = true := by kernel_rfl
  exact trodVars_mk1 h1 h2 (var_ext hb h3) (DataW.trod_stays (kids_book laid_out hr) (book_sized hr) (fun h => by cases h) ⟨(of_decide_eq_true (by kernel_rfl)), book_self 41⟩ h4
    (fun x hx => hb.same (hlt x (by simp [hx]))) (fun x hx => hsp x (by simp [hx])))
theorem law_postV {H : Type} {enc : TypeId × Value → H} {f : Func} {s : ChangeSpec} {W W' : World} {args : Array Value} {ds gs : List (DataW H)} {before : List MemPlace}
    (hr : ∀ t ∈ f.params.toList, Tryd.prog.readableRec t = true ∧ t < Tryd.prog.types.size) (hres : f.resultTypes = #[4]) (hvars : s.vars = ["loop.example/g01042/impl.libraryTexts"])
    (hW : DataW.Whole enc Tryd.prog f.params.toList s.vars false W args.toList ds gs before)
    (hspec : s.fn H (ds ++ gs) = { results := [.lit (.bool true)], args := ds, vars := gs }) (hb : Below W.heap.size W W') :
    s.post enc Tryd.prog f false true false false W args (.bool true) W' := by
  have hW' := hW
  obtain ⟨p, q, hA, hV, rfl, hfz, hnd⟩ := hW
  have hlt : ∀ x ∈ p, x.block < W.heap.size := fun x hx => hW'.lt x (by simp [hx])
  have hltq : ∀ x ∈ q, x.block < W.heap.size := fun x hx => hW'.lt x (by simp [hx])
  rw [hvars] at hV
  have hokb := okWide_bool_mk (P := Tryd.prog) (W' := W') Tryd.underlying4 true
  have hshut := fun (b : Nat) (sp : Nat → Bool) (hd : Bool) => shut_bool (H := H) (enc := enc) (P := Tryd.prog) (w := W') (base := b) (spare := sp) (held := hd) Tryd.underlying4 true
  refine post_of_below (pa := p) (pv := q) hW' (fun b sp hd => ?_) (fun sp hsp => ?_) (fun sp hsp => ?_) rfl hb ?_
  · rw [hspec, hres]
    exact trodAll_mk1 (hshut b sp hd)
  · rw [hspec]
    exact trodAll_stays hb _ _ _ _ hr hA hlt (fun x hx => hsp x (by simp [hx]))
  · rw [hspec, hvars]
    exact lib_stays hb hV hltq (fun x hx => hsp x (by simp [hx]))
  · exact ok_one hres rfl hokb
/-- What NewDesk asks of the world. -/
structure EnvN (w : World) : Prop where
  shp : w.ShapedOpen Tryd.prog
  lib : LibT w
theorem EnvN.ext {w w' : World} (h : EnvN w) (hb : Below w.heap.size w w') : EnvN w' := ⟨shaped_ext h.shp hb, h.lib.ext hb⟩
end Go.Proofs.YtpoalklakhegoaaDoor
