/- Proved: SchemaRouteMatchesSpecUptoCardSaid, under that statement's own conditions alone. -/
import Derived.Test.YtggknbaoaidkiaaGreatDoorF5
set_option linter.all false
set_option maxHeartbeats 8000000
set_option maxRecDepth 100000
open Go.Proofs
namespace Go.Proofs.YtggknbaoaidkiaaGreatDoor.routeLaw
open Go.ChangeShapes Go.WideShapes Go.ChangeAt Go.RowKit Go.Proofs.YtggknbaoaidkiaaGreatDoor
theorem own : ownKnob Tryz.prog.godebug = none := by kernel_rfl
mutual
def cellsD : DataW Unit → List Value
  | .lit (.int k n) => [.int k n]
  | .agg ps => cellsDs ps
  | _ => []
def cellsDs : List (DataW Unit) → List Value
  | [] => []
  | d :: ds => cellsD d ++ cellsDs ds
end
def lay (cs : Array Value) : Obj → Obj
  | .cells _ t frozen => .cells cs t frozen
  | o => o
def a0 : Value := .agg #[.slice none 0 0, .int .i64 0, .slice none 0 0]
def a1 : Value := .string ⟨#[]⟩
def a2 : Value := .slice none 0 0
noncomputable def laidWorld (os : Os) : World :=
  { World.holding Tryz.prog os ⟨#[], #[], []⟩ with heap := Rows.schemaRouteMatchesSpecUptoRow.laid.foldl (fun h x => h.modify ((Tryz.prog.globalNamed x.1).getD 0) (lay (cellsD x.2).toArray)) (World.holding Tryz.prog os ⟨#[], #[], []⟩).heap }
theorem laid_met (os : Os) : laidMet Tryz.prog Rows.schemaRouteMatchesSpecUptoRow.laid ((laidWorld os).forCall (fun _ _ => 0) ⟨#[], #[a0, a1, a2], []⟩).memory :=
  laidMet_of_run' 8 (by kernel_rfl) (by kernel_rfl)
theorem reads (os : Os) {H : Type} (enc : TypeId × Value → H) : ∃ places, DataW.whole enc Tryz.prog ((laidWorld os).forCall (fun _ _ => 0) ⟨#[], #[a0, a1, a2], []⟩).memory Tryz.f3.params.toList Rows.schemaRouteMatchesSpecSpec.vars false #[a0, a1, a2].toList 8 = some ([.agg [.agg [.nil, .lit (.int .i64 0)], .nil], .lit (.string []), .nil], [], places) :=
  ⟨[], by kernel_rfl⟩
theorem lifted (os : Os) (started : os.Started) (H : Type) (enc : TypeId × Value → H) (F : Stop.Interp) :
    ReturnsInHanded {} Tryz.checked os 3 .any ((Rows.OpenSpec.upto Rows.schemaRouteMatchesSpecSpec).preRow enc Tryz.prog Tryz.f3 Rows.schemaRouteMatchesSpecUptoRow.domain false Rows.schemaRouteMatchesSpecUptoRow.laid) (((Rows.OpenSpec.upto Rows.schemaRouteMatchesSpecSpec).at F).post enc Tryz.prog Tryz.f3 false true false false) := by
  obtain ⟨places, hx⟩ := reads os enc
  refine returnsInHanded_of_row (C := Tryz.checked) (s := Rows.OpenSpec.upto Rows.schemaRouteMatchesSpecSpec) own started (by kernel_rfl) Tryz.func3
    (witness_row_at (enc := enc) (C := Tryz.checked) false (laidWorld os) #[a0, a1, a2] rfl (by kernel_rfl) (by kernel_rfl) (by kernel_rfl)
      (OpenSpec.preRow_of_cond 8 hx (by kernel_rfl) (fun k hk => by cases hk; kernel_rfl) (by kernel_rfl) (laid_met os))) ?_
  intro W base args ds gs before hval hW _ hk _ hL hs _
  exact Go.ey.afX H enc W args ds gs before hval hW (hk _ rfl) hL hs
theorem bt {a b : Bool} (h : a = true) (k : b = true) : (a && b) = true := by rw [h, k]; rfl
theorem jf : joinedFacts Tryz.prog 3 Tryz.f3 (Rows.OpenSpec.upto Rows.schemaRouteMatchesSpecSpec).bare Rows.schemaRouteMatchesSpecUptoRow = true := by
  unfold joinedFacts
  iterate 31 refine bt ?_ ?_
  all_goals as_aux_lemma => kernel_rfl
theorem said : Rows.SchemaRouteMatchesSpecUptoSaid :=
  OpenClaim.holds_of_cond 3 Tryz.f3 rfl rfl rfl rfl rfl rfl rfl ⟨rfl, rfl, rfl, rfl, rfl⟩ rfl rfl rfl rfl rfl (by kernel_rfl) Tryz.func3 jf
    (of_decide_eq_true (by kernel_rfl)) (by unfold Func.isWrapper; first | (rw [if_pos (by decide +kernel)]; kernel_rfl) | (rw [if_neg (by decide +kernel)]; exact ⟨rfl, rfl⟩))
    (fun os started H enc _ F => by rw [OpenClaim.pre_eq_preRow]; exact lifted os started H enc F)
theorem plain (f : FuncId) (fn : Func) (hf : Tryz.pinned.checked.prog.funcNamed "dynamometer/dynamometerlaw4.SchemaRouteMatchesSpec" = some f) (hfn : Tryz.pinned.checked.prog.funcs[f]? = some fn) :
    false = Tryz.pinned.checked.prog.looks [] ∧ ∀ (j : Nat) t, fn.params[j]? = some t → Tryz.pinned.checked.prog.wantsStandIn t = false := by
  obtain rfl : f = 3 := Option.some.inj ((show Tryz.prog.funcNamed "dynamometer/dynamometerlaw4.SchemaRouteMatchesSpec" = some 3 by kernel_rfl).symm.trans hf) |>.symm
  obtain rfl : fn = Tryz.f3 := (Option.some.inj (Tryz.func3.symm.trans hfn)).symm
  refine ⟨by kernel_rfl, fun j t ht => ?_⟩
  rw [Tryz.params3] at ht
  have : t = 27 ∨ t = 9 ∨ t = 28 := by simpa using Array.mem_of_getElem? ht
  rcases this with rfl | rfl | rfl
  · exact (show Tryz.prog.wantsStandIn 27 = false by kernel_rfl)
  · exact (show Tryz.prog.wantsStandIn 9 = false by kernel_rfl)
  · exact (show Tryz.prog.wantsStandIn 28 = false by kernel_rfl)
theorem wf : Rows.schemaRouteMatchesSpecUptoRow.wfByText (Rows.OpenSpec.upto Rows.schemaRouteMatchesSpecSpec) = true := by kernel_rfl
theorem main : Tryz.pinned.checked.prog.mainIs = some (true, "400784b166f575392f7564cc582abe53c3ddd0a80d642f6bd8617b1ac7f70bb9".toList) := by kernel_rfl
theorem goes : false = Rows.schemaRouteMatchesSpecUptoRow.goesBy Tryz.pinned.checked.prog := by kernel_rfl
theorem card : Rows.SchemaRouteMatchesSpecUptoCardSaid :=
  Claim7.holds_tied_plain_at .later [] _ _ _ _ said (fun _ h => by cases h) wf (fun _ h => by cases h) schemaRouteMatchesSpecUpto_row_tie rfl ⟨rfl, rfl⟩ main rfl plain goes
end Go.Proofs.YtggknbaoaidkiaaGreatDoor.routeLaw
