/- ModelNames: for every input the law returns true. The row and its tied card. -/
import Derived.Test.YtohhlnkdgfgjgaaDoorRowOf
import Derived.Deep.DeepWitnessRowRef
import Derived.Test.YtohhlnkdgfgjgaaDoorTw
namespace Go.Proofs.YtohhlnkdgfgjgaaDoor.modelNames
open Go.ChangeShapes Go.WideShapes Go.ChangeAt Go.RowKit
open Go.ChangeMaps (open_string shut_string)
open Go.Proofs.YtohhlnkdgfgjgaaDoorW.PrintWords Go.Proofs.YtohhlnkdgfgjgaaDoor.RowOf
theorem names_lie {W : World} (h0 : laidMetH Tryd.prog Rows.modelNamesRow.laid W) : P.NamesLie W := by
  have h : laidMet Tryd.prog Rows.modelNamesRow.laid W := h0
  obtain ⟨ps, ⟨_, _, _, _, _, _, _, _, _, _, ⟨g, t, cs, fuel, p, q, hg, ht, hvar, hd, _, _⟩, _⟩, _⟩ := h
  obtain rfl := Option.some.inj ((show Tryd.prog.globalNamed "cantle/model.names" = some 0 by kernel_rfl).symm.trans hg)
  obtain rfl := Option.some.inj ((show (Tryd.prog.globals[0]?).map (·.type) = some 38 by kernel_rfl).symm.trans ht)
  have hcell : ∀ i, W.cell? ⟨0, i, none⟩ = cs[i]? := by
    intro i
    unfold World.var? at hvar
    rw [hg] at hvar
    simp only [Option.bind_some] at hvar
    split at hvar
    · rename_i cs' t' fr' hh
      cases hvar
      exact cell_of_row W 0 i cs t' fr' hh
    · cases hvar
  rcases open_strings Tryd.underlying38 Tryd.underlying9 (by kernel_rfl) hd with ⟨_, hx⟩ | ⟨x, l, c, ss, hcs, _, hl, _, hz, hx, hc, _⟩
  · exact absurd (congrArg Prod.fst hx) (by intro e; cases e)
  · have hx1 := congrArg Prod.fst hx
    simp only [Rows.laid_cantle_model_names, DataW.slice.injEq] at hx1
    obtain ⟨hx1, _⟩ := hx1
    have hlen := congrArg List.length hx1
    have hcl : l ≤ ss.length := by rw [hz]; simpa using hl
    simp only [Go.ChangeShapes.strs, List.length_map, List.length_cons, List.length_nil, List.length_take] at hlen
    have hl8 : l = 8 := by omega
    subst hl8
    have hcs0 : cs[0]? = some (.slice (some x) 8 c) := by
      rw [← Array.getElem?_toList, hcs]
      rfl
    refine ⟨x, c, (hcell 0).trans hcs0, hl, fun j hj => ?_⟩
    rw [hc j (by omega)]
    congr 2
    have hj2 : (Go.ChangeShapes.strs (H := Unit) (ss.take 8))[j]? = some (.lit (.string (ss.getD j ByteArray.empty).data.toList)) := by
      unfold Go.ChangeShapes.strs
      rw [List.getElem?_map, List.getElem?_take, if_pos hj, List.getElem?_eq_getElem (by omega), List.getD_eq_getElem?_getD, List.getElem?_eq_getElem (by omega)]
      rfl
    rw [← hx1] at hj2
    generalize ss.getD j ByteArray.empty = s0 at hj2 ⊢
    have hb : ∀ {a b : ByteArray}, a.data.toList = b.data.toList → a = b := fun h => P.ba_ext h
    apply hb
    have : j = 0 ∨ j = 1 ∨ j = 2 ∨ j = 3 ∨ j = 4 ∨ j = 5 ∨ j = 6 ∨ j = 7 := by omega
    rcases this with rfl | rfl | rfl | rfl | rfl | rfl | rfl | rfl <;> (simp at hj2; rw [← hj2]; rfl)
set_option maxRecDepth 100000 in
theorem contract (H : Type) (enc : TypeId × Value → H) (W : World) (base : Nat) (args : Array Value) (ds gs : List (DataW H)) (before : List MemPlace)
    (hval0 : ∀ (j : Nat) t v, Tryd.f4.params[j]? = some t → args[j]? = some v → Value.okWide Tryd.prog W .any base t v)
    (hW : DataW.Whole enc Tryd.prog Tryd.f4.params.toList Rows.modelNamesSpec.vars false W args.toList ds gs before) (hN : P.NamesLie W) :
    Calls Tryd.prog 4 args W fun e W' => ∃ v, e = .returned v ∧ Rows.modelNamesSpec.post enc Tryd.prog Tryd.f4 false true false false W args v W' := by
  have hval := hval0
  have hW' := hW
  obtain ⟨p, q, hA0, hV, rfl, hfz, hnd⟩ := hW
  have hA : DataW.TrodAll enc Tryd.prog W 0 (fun _ => true) true Tryd.f4.params.toList args.toList ds p := hA0
  rw [Tryd.params4] at hA hval
  obtain ⟨v0, vs0, d0, ds0, p0, q0, hargs, rfl, rfl, h0, r0⟩ := trodAll_cons hA
  obtain ⟨rfl, rfl, rfl⟩ := trodAll_nil r0
  obtain rfl : args = #[v0] := by cases args; simp_all
  obtain ⟨rfl, rfl⟩ := trodVars_none hV
  obtain ⟨a0, rfl, rfl, rfl, w0⟩ := open_int Tryd.underlying3 (hval 0 3 v0 rfl rfl) h0
  clear hA0 hval0
  refine (P.modelNames_all hN a0).mono fun e W' ⟨he, bel⟩ => ?_
  subst he
  exact ⟨_, rfl, _, _, _, [], _, [], hW', trodAll_mk1 (shut_bool Tryd.underlying4 _), (trodAll_cons_mk (shut_int Tryd.underlying3 w0) trodAll_mk0), rfl, bel.frame _, fun h => by cases h⟩
theorem laid_met (os : Os) : laidMet Tryd.prog Rows.modelNamesRow.laid ((laidNames os).forCall (fun _ _ => 0) ⟨#[], #[.int .i64 0], []⟩).memory :=
  laidMet_of_run' 8 (by kernel_rfl) (by kernel_rfl)
theorem reads (os : Os) {H : Type} (enc : TypeId × Value → H) : ∃ places, DataW.whole enc Tryd.prog ((laidNames os).forCall (fun _ _ => 0) ⟨#[], #[.int .i64 0], []⟩).memory Tryd.f4.params.toList Rows.modelNamesSpec.vars false (#[.int .i64 0] : Array Value).toList 8 = some ([.lit (.int .i64 0)], [], places) :=
  ⟨[], by kernel_rfl⟩
set_option maxRecDepth 100000 in
theorem lifted (os : Os) (started : os.Started) (H : Type) (enc : TypeId × Value → H) (F : Stop.Interp) :
    ReturnsInHanded {} Tryd.checked os 4 .any ((OpenSpec.ofChange Rows.modelNamesSpec).preRow enc Tryd.prog Tryd.f4 Rows.modelNamesRow.domain false Rows.modelNamesRow.laid) (((OpenSpec.ofChange Rows.modelNamesSpec).at F).post enc Tryd.prog Tryd.f4 false true false false) := by
  obtain ⟨places, hx⟩ := reads os enc
  refine returnsInHanded_of_row (C := Tryd.checked) (s := OpenSpec.ofChange Rows.modelNamesSpec) own started (by kernel_rfl) Tryd.func4
    (witness_row_atRef (enc := enc) (C := Tryd.checked) false (laidNames os) #[.int .i64 0] rfl (by kernel_rfl) (by kernel_rfl) (by kernel_rfl)
      (OpenSpec.preRow_of_cond 8 hx (by kernel_rfl) (fun k hk => by cases hk) (by kernel_rfl) (laid_met os))) ?_
  intro W base args ds gs before hval hW _ _ hsz hl _ _
  exact contract H enc W base args ds gs before hval hW (names_lie hl)
theorem said : Rows.ModelNamesSaid :=
  OpenClaim.holds_of_cond 4 Tryd.f4 rfl rfl rfl rfl rfl rfl rfl ⟨rfl, rfl, rfl, rfl, rfl⟩ rfl rfl rfl rfl rfl (by kernel_rfl) Tryd.func4 (by kernel_rfl)
    (of_decide_eq_true (by kernel_rfl)) (by unfold Func.isWrapper; first | (rw [if_pos (by decide +kernel)]; kernel_rfl) | (rw [if_neg (by decide +kernel)]; exact ⟨rfl, rfl⟩))
    (fun os started H enc _ F => by rw [OpenClaim.pre_eq_preRow]; exact lifted os started H enc F)
theorem plain (f : FuncId) (fn : Func) (hf : Tryd.pinned.checked.prog.funcNamed "cantle/cantlelaw14.ModelNames" = some f) (hfn : Tryd.pinned.checked.prog.funcs[f]? = some fn) :
    false = Tryd.pinned.checked.prog.looks [] ∧ ∀ (j : Nat) t, fn.params[j]? = some t → Tryd.pinned.checked.prog.wantsStandIn t = false := by
  obtain rfl : f = 4 := Option.some.inj ((show Tryd.prog.funcNamed "cantle/cantlelaw14.ModelNames" = some 4 by kernel_rfl).symm.trans hf) |>.symm
  obtain rfl : fn = Tryd.f4 := (Option.some.inj (Tryd.func4.symm.trans hfn)).symm
  refine ⟨by kernel_rfl, fun j t ht => ?_⟩
  rw [Tryd.params4] at ht
  have ht' := Array.mem_of_getElem? ht
  simp only [List.mem_toArray, List.mem_cons, List.not_mem_nil, or_false] at ht'
  rcases ht' with rfl
  · exact (show Tryd.prog.wantsStandIn 3 = false by kernel_rfl)
theorem card : Rows.ModelNamesCardSaid :=
  Claim7.holds_tied_plain_at .later [] _ _ _ _ said (fun _ h => by cases h) (by kernel_rfl) (fun _ h => by cases h) modelNames_row_tie rfl ⟨rfl, rfl⟩ (by kernel_rfl) rfl plain (by kernel_rfl)
#print axioms card
end Go.Proofs.YtohhlnkdgfgjgaaDoor.modelNames
namespace Go.Proofs.YtohhlnkdgfgjgaaDoor
/-- The card, under a short name, for the claim. -/
theorem modelNames_card : Rows.ModelNamesCardSaid := modelNames.card
end Go.Proofs.YtohhlnkdgfgjgaaDoor
