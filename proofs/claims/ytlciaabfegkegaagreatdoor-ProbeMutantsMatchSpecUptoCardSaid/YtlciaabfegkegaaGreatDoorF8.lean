/- Proved: ProbeMutantsMatchSpecUptoCardSaid, under that statement's own conditions alone. -/
import Derived.Test.YtlciaabfegkegaaGreatDoorF7
set_option linter.all false
set_option maxHeartbeats 8000000
set_option maxRecDepth 100000
open Go.Proofs
namespace Go.Proofs.YtlciaabfegkegaaGreatDoor.mutantsLaw
open Go.ChangeShapes Go.WideShapes Go.ChangeAt Go.RowKit Go.Proofs.YtlciaabfegkegaaGreatDoor
theorem own : ownKnob Tryz.prog.godebug = none := by kernel_rfl
mutual
def gcell : DataW Unit → List Value
  | .lit (.int k n) => [.int k n]
  | .agg ps => gcells0 ps
  | .slice ps _ => gcells0 ps
  | _ => []
def gcells0 : List (DataW Unit) → List Value
  | [] => []
  | d :: ds => gcell d ++ gcells0 ds
end
abbrev gcells := gcell
noncomputable def laidWorld (os : Os) : World :=
  let N := (World.settled Tryz.prog os).heap.size
  let T := Lib.goPrintTabs
  let w0 := World.holding Tryz.prog os ⟨#[.cells (Lib.intCellsOf .u16 T.p16) 229, .cells (Lib.intCellsOf .u16 T.n16) 229, .cells (Lib.intCellsOf .u32 T.p32) 154, .cells (Lib.intCellsOf .u16 T.n32) 229, .cells (gcells Pinned.isGraphic).toArray 229], #[], []⟩
  let put (h : Array Obj) (g : Nat) (cs : Array Value) : Array Obj := h.modify g fun
    | .cells _ t frozen => .cells cs t frozen
    | o => o
  let h1 := put w0.heap 2 (Lib.firstTab.map fun z => Value.int .u8 z).toArray
  let h2 := put h1 3 ((List.range 16).flatMap fun i => [Value.int .u8 (Lib.accLo i), Value.int .u8 (Lib.accHi i)]).toArray
  let h3 := put h2 4 #[.slice (some ⟨N, 0, none⟩) T.p16.length T.p16.length]
  let h4 := put h3 5 #[.slice (some ⟨N + 1, 0, none⟩) T.n16.length T.n16.length]
  let h5 := put h4 6 #[.slice (some ⟨N + 2, 0, none⟩) T.p32.length T.p32.length]
  let h6 := put h5 7 #[.slice (some ⟨N + 3, 0, none⟩) T.n32.length T.n32.length]
  let h7 := put h6 8 #[.slice (some ⟨N + 4, 0, none⟩) (gcells Pinned.isGraphic).length (gcells Pinned.isGraphic).length]
  let h8 := put h7 0 (gcells Rows.laid_math_bits_deBruijn32tab).toArray
  let h9 := put h8 1 (gcells Rows.laid_math_bits_deBruijn64tab).toArray
  let hA := put h9 9 (gcells Rows.laid_internal_strconv_uint64pow10).toArray
  { w0 with heap := hA }
noncomputable abbrev N0 : Nat := (World.settled Tryz.prog default).heap.size
def a0 : Value := .agg #[.string ⟨#[]⟩, .slice none 0 0]
noncomputable abbrev wM (os : Os) : World := ((laidWorld os).forCall (fun _ _ => 0) ⟨#[], #[a0], []⟩).memory
theorem p0 (os : Os) : LaidIn Tryz.prog (wM os) [("math/bits.deBruijn32tab", Rows.laid_math_bits_deBruijn32tab), ("math/bits.deBruijn64tab", Rows.laid_math_bits_deBruijn64tab), ("internal/strconv.uint64pow10", Rows.laid_internal_strconv_uint64pow10), ("unicode/utf8.acceptRanges", Rows.laid_unicode_utf8_acceptRanges)] [0, 1, 9, 3] :=
  LaidIn.of_run _ 8 (by kernel_rfl) (by kernel_rfl) (by kernel_rfl) (by kernel_rfl)
theorem p1 (os : Os) : LaidIn Tryz.prog (wM os) [("strconv.isGraphic", Pinned.isGraphic)] [8, N0 + 4] :=
  LaidIn.of_run _ 8 (by kernel_rfl) (by kernel_rfl) (by kernel_rfl) (by kernel_rfl)
theorem p2 (os : Os) : LaidIn Tryz.prog (wM os) [("strconv.isNotPrint16", Lib.sliceData .u16 Lib.goPrintTabs.n16)] [5, N0 + 1] :=
  Lib.laidIn_slice (t := 230) (e := 229) (te := 229) Lib.goPrintTabs.n16 (N0 + 1) (by kernel_rfl) (by kernel_rfl) (by kernel_rfl) (by kernel_rfl) (by kernel_rfl) (by kernel_rfl) (by kernel_rfl) (by kernel_rfl) (of_decide_eq_true (by kernel_rfl)) (of_decide_eq_true (by kernel_rfl))
theorem p3 (os : Os) : LaidIn Tryz.prog (wM os) [("strconv.isNotPrint32", Lib.sliceData .u16 Lib.goPrintTabs.n32)] [7, N0 + 3] :=
  Lib.laidIn_slice (t := 230) (e := 229) (te := 229) Lib.goPrintTabs.n32 (N0 + 3) (by kernel_rfl) (by kernel_rfl) (by kernel_rfl) (by kernel_rfl) (by kernel_rfl) (by kernel_rfl) (by kernel_rfl) (by kernel_rfl) (of_decide_eq_true (by kernel_rfl)) (of_decide_eq_true (by kernel_rfl))
theorem p4 (os : Os) : LaidIn Tryz.prog (wM os) [("strconv.isPrint16", Lib.sliceData .u16 Lib.goPrintTabs.p16)] [4, N0] :=
  Lib.laidIn_slice (t := 230) (e := 229) (te := 229) Lib.goPrintTabs.p16 N0 (by kernel_rfl) (by kernel_rfl) (by kernel_rfl) (by kernel_rfl) (by kernel_rfl) (by kernel_rfl) (by kernel_rfl) (by kernel_rfl) (of_decide_eq_true (by kernel_rfl)) (of_decide_eq_true (by kernel_rfl))
theorem p5 (os : Os) : LaidIn Tryz.prog (wM os) [("strconv.isPrint32", Lib.sliceData .u32 Lib.goPrintTabs.p32)] [6, N0 + 2] :=
  Lib.laidIn_slice (t := 233) (e := 154) (te := 154) Lib.goPrintTabs.p32 (N0 + 2) (by kernel_rfl) (by kernel_rfl) (by kernel_rfl) (by kernel_rfl) (by kernel_rfl) (by kernel_rfl) (by kernel_rfl) (by kernel_rfl) (of_decide_eq_true (by kernel_rfl)) (of_decide_eq_true (by kernel_rfl))
theorem p6 (os : Os) : LaidIn Tryz.prog (wM os) [("unicode/utf8.first", Lib.firstData)] [2] :=
  LaidIn.of_run _ 8 (by kernel_rfl) (by kernel_rfl) (by kernel_rfl) (by kernel_rfl)
theorem laid_met (os : Os) : laidMet Tryz.prog Rows.probeMutantsMatchSpecUptoRow.laid (wM os) := by
  have h2 := p2 os
  have h3 := p3 os
  have h4 := p4 os
  have h5 := p5 os
  have h6 := p6 os
  rw [← Pinned.isNotPrint16_eq] at h2
  rw [← Pinned.isNotPrint32_eq] at h3
  rw [← Pinned.isPrint16_eq] at h4
  rw [← Pinned.isPrint32_eq] at h5
  rw [← Pinned.utf8First_eq] at h6
  exact (((((((p0 os).append (p1 os) (by kernel_rfl)).append h2 (by kernel_rfl)).append h3 (by kernel_rfl)).append h4 (by kernel_rfl)).append h5 (by kernel_rfl)).append h6 (by kernel_rfl)).met
theorem reads (os : Os) {H : Type} (enc : TypeId × Value → H) : ∃ places, DataW.whole enc Tryz.prog (wM os) Tryz.f3.params.toList Rows.probeMutantsMatchSpecSpec.vars false #[a0].toList 8 = some ([.agg [.lit (.string []), .nil]], [], places) :=
  ⟨[], by kernel_rfl⟩
theorem lifted (os : Os) (started : os.Started) (H : Type) (enc : TypeId × Value → H) (F : Stop.Interp) :
    ReturnsInHanded {} Tryz.checked os 3 .any ((Rows.OpenSpec.upto Rows.probeMutantsMatchSpecSpec).preRow enc Tryz.prog Tryz.f3 Rows.probeMutantsMatchSpecUptoRow.domain false Rows.probeMutantsMatchSpecUptoRow.laid) (((Rows.OpenSpec.upto Rows.probeMutantsMatchSpecSpec).at F).post enc Tryz.prog Tryz.f3 false true false false) := by
  obtain ⟨places, hx⟩ := reads os enc
  refine returnsInHanded_of_row (C := Tryz.checked) (s := Rows.OpenSpec.upto Rows.probeMutantsMatchSpecSpec) own started (by kernel_rfl) Tryz.func3
    (witness_row_atRef (enc := enc) (C := Tryz.checked) false (laidWorld os) #[a0] rfl (by kernel_rfl) (by kernel_rfl) (by kernel_rfl)
      (OpenSpec.preRow_of_cond 8 hx (by kernel_rfl) (fun k hk => by cases hk; kernel_rfl) (by kernel_rfl) (laid_met os))) ?_
  intro W base args ds gs before hval hW _ hk _ hL hs _
  exact Go.fe.alp H enc W args ds gs before hval hW (hk _ rfl) hL hs
theorem bt {a b : Bool} (h : a = true) (k : b = true) : (a && b) = true := by rw [h, k]; rfl
theorem jf : joinedFacts Tryz.prog 3 Tryz.f3 (Rows.OpenSpec.upto Rows.probeMutantsMatchSpecSpec).bare Rows.probeMutantsMatchSpecUptoRow = true := by
  unfold joinedFacts
  iterate 31 refine bt ?_ ?_
  all_goals as_aux_lemma => kernel_rfl
theorem said : Rows.ProbeMutantsMatchSpecUptoSaid :=
  OpenClaim.holds_of_cond 3 Tryz.f3 rfl rfl rfl rfl rfl rfl rfl ⟨rfl, rfl, rfl, rfl, rfl⟩ rfl rfl rfl rfl rfl (by kernel_rfl) Tryz.func3 jf
    (of_decide_eq_true (by kernel_rfl)) (by unfold Func.isWrapper; first | (rw [if_pos (by decide +kernel)]; kernel_rfl) | (rw [if_neg (by decide +kernel)]; exact ⟨rfl, rfl⟩))
    (fun os started H enc _ F => by rw [OpenClaim.pre_eq_preRow]; exact lifted os started H enc F)
theorem plain (f : FuncId) (fn : Func) (hf : Tryz.pinned.checked.prog.funcNamed "dynamometer/dynamometerlaw12.ProbeMutantsMatchSpec" = some f) (hfn : Tryz.pinned.checked.prog.funcs[f]? = some fn) :
    false = Tryz.pinned.checked.prog.looks [] ∧ ∀ (j : Nat) t, fn.params[j]? = some t → Tryz.pinned.checked.prog.wantsStandIn t = false := by
  obtain rfl : f = 3 := Option.some.inj ((show Tryz.prog.funcNamed "dynamometer/dynamometerlaw12.ProbeMutantsMatchSpec" = some 3 by kernel_rfl).symm.trans hf) |>.symm
  obtain rfl : fn = Tryz.f3 := (Option.some.inj (Tryz.func3.symm.trans hfn)).symm
  refine ⟨by kernel_rfl, fun j t ht => ?_⟩
  rw [Tryz.params3] at ht
  obtain rfl : t = 24 := by simpa using Array.mem_of_getElem? ht
  exact (show Tryz.prog.wantsStandIn 24 = false by kernel_rfl)
theorem wf : Rows.probeMutantsMatchSpecUptoRow.wfByText (Rows.OpenSpec.upto Rows.probeMutantsMatchSpecSpec) = true := by kernel_rfl
theorem main : Tryz.pinned.checked.prog.mainIs = some (true, "3b1a4b673166403e6a5f82fa7e9811f41e43be530bd0e75675637d4e022d58ee".toList) := by kernel_rfl
theorem goesF : Tryz.prog.funcs.toList.any Func.goes = false := by kernel_rfl
theorem goesN {P : Program} (h : P.funcs.toList.any Func.goes = false) (f : FuncId) : P.goes f = false := by
  have hg : ∀ g : FuncId, (P.funcs[g]?).any Func.goes = false := fun g => by
    cases e : P.funcs[g]? with
    | none => rfl
    | some fn =>
      have := List.any_eq_false.1 h fn (by rw [Array.mem_toList_iff]; exact Array.mem_of_getElem? e)
      simpa using this
  unfold Program.goes
  rw [← Array.any_toList, h, Bool.and_false, Bool.or_false, List.any_eq_false]
  exact fun g _ => by rw [hg g]; simp
theorem goesS {P : Program} (h : P.funcs.toList.any Func.goes = false) (c : OpenClaim) (hs : c.start = .entering) : false = c.goesBy P := by
  unfold OpenClaim.goesBy Program.goesAt Program.goesFrom
  rw [hs]
  cases P.funcNamed c.func with
  | none => rfl
  | some f => simp [goesN h f]
theorem goes : false = Rows.probeMutantsMatchSpecUptoRow.goesBy Tryz.pinned.checked.prog := goesS (P := Tryz.prog) goesF _ rfl
theorem card : Rows.ProbeMutantsMatchSpecUptoCardSaid :=
  Claim7.holds_tied_plain_at .later [] _ _ _ _ said (fun _ h => by cases h) wf (fun _ h => by cases h) probeMutantsMatchSpecUpto_row_tie rfl ⟨rfl, rfl⟩ main rfl plain goes
end Go.Proofs.YtlciaabfegkegaaGreatDoor.mutantsLaw
