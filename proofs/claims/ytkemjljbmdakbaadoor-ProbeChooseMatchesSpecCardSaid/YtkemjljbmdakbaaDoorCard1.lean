/-
  Proved: at every matrix the law ProbeChooseMatchesSpec returns true and the matrix reads as it did; the package tables hold what their initialisers lay. No further condition.
-/
import Derived.Test.YtkemjljbmdakbaaDoorCards
import Derived.Test.YtkemjljbmdakbaaDoorTie
import Derived.WalkKit
import Derived.ProofKit
import Derived.OpenShut
import Derived.Deep.DeepHandedRow
import Derived.Lib.LaidTab
import Derived.Test.YtkemjljbmdakbaaDoorVcRead
import Derived.Test.YtkemjljbmdakbaaDoorDevLaw12a
namespace Go.Proofs.YtkemjljbmdakbaaDoor.probeChooseMatchesSpec
open Go.ChangeShapes Go.WideShapes Go.ChangeAt Go.RowKit Go.Vc Go.Proofs.YtkemjljbmdakbaaDoor

theorem own : ownKnob Tryd.prog.godebug = none := by kernel_rfl
theorem g0 : Tryd.prog.globalNamed "math/bits.deBruijn64tab" = some 1 := by kernel_rfl
theorem g0t : (Tryd.prog.globals[1]?).map (·.type) = some 57 := by kernel_rfl
theorem c57 : Tryd.prog.cellsOf 57 = 64 := by kernel_rfl
theorem c5 : Tryd.prog.cellsOf 5 = 1 := by kernel_rfl
theorem u57 : Tryd.prog.underlying 57 = some (.array 64 5) := by kernel_rfl
theorem u5 : Tryd.prog.underlying 5 = some (.int .u8) := by kernel_rfl
theorem g2 : Tryd.prog.globalNamed "internal/strconv.uint64pow10" = some 2 := by kernel_rfl
theorem g2t : (Tryd.prog.globals[2]?).map (·.type) = some 66 := by kernel_rfl
theorem c66 : Tryd.prog.cellsOf 66 = 20 := by kernel_rfl
theorem c52 : Tryd.prog.cellsOf 52 = 1 := by kernel_rfl
theorem u66 : Tryd.prog.underlying 66 = some (.array 20 52) := by kernel_rfl
theorem u52 : Tryd.prog.underlying 52 = some (.int .u64) := by kernel_rfl

def zs64 : List Int := Go.Lib.deBruijn64tab.map fun (n : Nat) => (n : Int)

theorem tabs {W : World} (h : laidMetH Tryd.prog Rows.probeChooseMatchesSpecRow.laid W) : Lib.TabIs Tryd.prog W "math/bits.deBruijn64tab" .u8 zs64 ∧ Lib.TabIs Tryd.prog W "internal/strconv.uint64pow10" .u64 Lib.pow10Tab := by
  have h1 : laidMet Tryd.prog Rows.probeChooseMatchesSpecRow.laid W := h
  have h2 := laidMet_tail h1
  have h3 := laidMet_tail h2
  exact ⟨Lib.tabIs_of_head (rest := [("internal/strconv.uint64pow10", Rows.laid_internal_strconv_uint64pow10)]) g0 g0t u57 u5 c5 c57 h2, Lib.tabIs_of_head (rest := []) g2 g2t u66 u52 c52 c66 h3⟩

def GG : List (Nat × V) := [(1, gD64), (2, gP10)]

theorem globs {W : World} (h : laidMetH Tryd.prog Rows.probeChooseMatchesSpecRow.laid W) : ∀ g x, (g, x) ∈ GG → Rep (Env.start W) x (.pointer (some ⟨g, 0, none⟩)) := by
  obtain ⟨h1, h2⟩ := tabs h
  intro g x hm
  simp only [GG, List.mem_cons, Prod.mk.injEq, List.not_mem_nil, or_false] at hm
  rcases hm with ⟨rfl, rfl⟩ | ⟨rfl, rfl⟩
  · have := rep_tab (W := W) (g := 1) (n := 64) (k := .u8) (zs := zs64) (by decide) (fun i hi => h1.cell g0 i hi)
    rw [zs64, List.map_map] at this
    exact this
  · exact rep_tab (W := W) (g := 2) (n := 20) (k := .u64) (zs := Lib.pow10Tab) Lib.pow10Tab_length (fun i hi => h2.cell g2 i hi)

theorem u4 : Tryd.prog.underlying 4 = some .bool := by kernel_rfl
theorem u31 : Tryd.prog.underlying 31 = some (.slice 4) := by kernel_rfl
theorem u22 : Tryd.prog.underlying 22 = some (.slice 31) := by kernel_rfl
theorem c4 : Tryd.prog.cellsOf 4 = 1 := by kernel_rfl
theorem c31 : Tryd.prog.cellsOf 31 = 1 := by kernel_rfl
theorem laidOut : laidOutB Tryd.prog = true := by kernel_rfl
theorem rr22 : Tryd.prog.readableRec 22 = true := by kernel_rfl
theorem lt22 : 22 < Tryd.prog.types.size := of_decide_eq_true (by kernel_rfl)

/-- What a matrix reads as. -/
theorem matrix {H : Type} {enc : TypeId × Value → H} {W : World} {v : Value} {d : DataW H} {p : List MemPlace} (hk : Value.okWide Tryd.prog W .any 0 22 v) (h : DataW.Trod enc Tryd.prog W 0 (fun _ => true) true 22 v d p) :
    ∃ m : List (List Bool), m.length ≤ 9223372036854775807 ∧ (∀ r ∈ m, r.length ≤ 9223372036854775807) ∧ Rep (Env.start W) (eM m) v := by
  obtain ⟨a, len, cap, rfl⟩ := okWide_slice (e := 31) u22 hk
  have hr := reads_slice (enc := enc) (w := W) (t := 22) u22 c31 (by decide) (reads_slice (t := 31) u31 c4 (by decide) (reads_bool u4))
  obtain ⟨m, ⟨h1, h2⟩, h3⟩ := hr.value (fun x => rfl) rfl h
  exact ⟨m, h1, fun r hm => (h2 r hm).1, h3⟩

theorem contract (H : Type) (enc : TypeId × Value → H) (W : World) (args : Array Value) (ds gs : List (DataW H)) (before : List MemPlace)
    (hval : ∀ (j : Nat) t v, Tryd.f3.params[j]? = some t → args[j]? = some v → Value.okWide Tryd.prog W .any 0 t v)
    (hW : DataW.Whole enc Tryd.prog Tryd.f3.params.toList Rows.probeChooseMatchesSpecSpec.vars false W args.toList ds gs before) (hL : laidMetH Tryd.prog Rows.probeChooseMatchesSpecRow.laid W) :
    Calls Tryd.prog 3 args W fun e W' => ∃ v, e = .returned v ∧ Rows.probeChooseMatchesSpecSpec.post enc Tryd.prog Tryd.f3 false true false false W args v W' := by
  have hW' := hW
  obtain ⟨p, q, hA0, hV, rfl, hfz, hnd⟩ := hW
  have hA : DataW.TrodAll enc Tryd.prog W 0 (fun _ => true) true Tryd.f3.params.toList args.toList ds p := hA0
  rw [Tryd.params3] at hA hval
  obtain ⟨v0, vs0, d0, ds0, p0, q0, hargs, rfl, rfl, h0, r0⟩ := trodAll_cons hA
  obtain ⟨rfl, rfl, rfl⟩ := trodAll_nil r0
  obtain rfl : args = #[v0] := by cases args; simp_all
  obtain ⟨m, h1, h2, h3⟩ := matrix (hval 0 22 v0 rfl rfl) h0
  refine ((law_ok GG rfl rfl m h1 h2).calls (W := W) (vs := [v0]) rfl (fun i x v hx hv => ?_) (globs hL)).mono ?_
  · cases i with
    | zero => simp at hx hv; subst hx; subst hv; exact h3
    | succ i => simp at hx
  · rintro e W' ⟨v, E', rfl, hrep, hfr⟩
    cases hrep
    exact ⟨_, rfl, law_post (tb := 4) laidOut (fun t ht => by rw [Tryd.params3] at ht; simp at ht; subst ht; exact ⟨rr22, lt22⟩) rfl (by kernel_rfl) u4 ⟨rfl, rfl, rfl⟩ hW' hfr⟩

def lay (cs : Array Value) : Obj → Obj
  | .cells _ t frozen => .cells cs t frozen
  | o => o

/-- A world for the witness: the settled one, with the tables that the initialisers lay. -/
noncomputable def laidWorld (os : Os) : World :=
  { World.holding Tryd.prog os ⟨#[], #[], []⟩ with heap := (((World.holding Tryd.prog os ⟨#[], #[], []⟩).heap.modify 0 (lay (Go.Lib.deBruijn32tab.map fun (n : Nat) => Value.int .u8 (n : Int)).toArray)).modify 1
      (lay (Go.Lib.deBruijn64tab.map fun (n : Nat) => Value.int .u8 (n : Int)).toArray)).modify 2 (lay (Go.Lib.pow10Tab.map fun n => Value.int .u64 n).toArray) }
theorem laid_met (os : Os) : laidMet Tryd.prog Rows.probeChooseMatchesSpecRow.laid ((laidWorld os).forCall (fun _ _ => 0) ⟨#[], #[.slice none 0 0], []⟩).memory :=
  laidMet_of_run' 8 (by kernel_rfl) (by kernel_rfl)
theorem reads (os : Os) {H : Type} (enc : TypeId × Value → H) : ∃ places, DataW.whole enc Tryd.prog ((laidWorld os).forCall (fun _ _ => 0) ⟨#[], #[.slice none 0 0], []⟩).memory Tryd.f3.params.toList Rows.probeChooseMatchesSpecSpec.vars false #[Value.slice none 0 0].toList 8 = some ([.nil], [], places) :=
  ⟨[], by kernel_rfl⟩

set_option maxRecDepth 100000 in
theorem lifted (os : Os) (started : os.Started) (H : Type) (enc : TypeId × Value → H) (F : Stop.Interp) :
    ReturnsInHanded {} Tryd.checked os 3 .any ((OpenSpec.ofChange Rows.probeChooseMatchesSpecSpec).preRow enc Tryd.prog Tryd.f3 Rows.probeChooseMatchesSpecRow.domain false Rows.probeChooseMatchesSpecRow.laid) (((OpenSpec.ofChange Rows.probeChooseMatchesSpecSpec).at F).post enc Tryd.prog Tryd.f3 false true false false) := by
  obtain ⟨places, hx⟩ := reads os enc
  refine returnsInHanded_of_row (C := Tryd.checked) (s := OpenSpec.ofChange Rows.probeChooseMatchesSpecSpec) own started (by kernel_rfl) Tryd.func3
    (witness_row_at (enc := enc) (C := Tryd.checked) false (laidWorld os) #[.slice none 0 0] rfl (by kernel_rfl) (by kernel_rfl) (by kernel_rfl)
      (OpenSpec.preRow_of_cond 8 hx (by kernel_rfl) (fun k hk => by cases hk) (by kernel_rfl) (laid_met os))) ?_
  intro W base args ds gs before hval hW _ _ _ hL _ _
  exact contract H enc W args ds gs before hval hW hL

theorem said : Rows.ProbeChooseMatchesSpecSaid :=
  OpenClaim.holds_of_cond 3 Tryd.f3 rfl rfl rfl rfl rfl rfl rfl ⟨rfl, rfl, rfl, rfl, rfl⟩ rfl rfl rfl rfl rfl (by kernel_rfl) Tryd.func3 (by kernel_rfl)
    (of_decide_eq_true (by kernel_rfl)) (by unfold Func.isWrapper; first | (rw [if_pos (by decide +kernel)]; kernel_rfl) | (rw [if_neg (by decide +kernel)]; exact ⟨rfl, rfl⟩))
    (fun os started H enc _ F => by rw [OpenClaim.pre_eq_preRow]; exact lifted os started H enc F)

theorem plain (f : FuncId) (fn : Func) (hf : Tryd.pinned.checked.prog.funcNamed "dynamometer/dynamometerlaw12.ProbeChooseMatchesSpec" = some f) (hfn : Tryd.pinned.checked.prog.funcs[f]? = some fn) :
    false = Tryd.pinned.checked.prog.looks [] ∧ ∀ (j : Nat) t, fn.params[j]? = some t → Tryd.pinned.checked.prog.wantsStandIn t = false := by
  obtain rfl : f = 3 := Option.some.inj ((show Tryd.prog.funcNamed "dynamometer/dynamometerlaw12.ProbeChooseMatchesSpec" = some 3 by kernel_rfl).symm.trans hf) |>.symm
  obtain rfl : fn = Tryd.f3 := (Option.some.inj (Tryd.func3.symm.trans hfn)).symm
  refine ⟨by kernel_rfl, fun j t ht => ?_⟩
  rw [Tryd.params3] at ht
  obtain rfl : t = 22 := by simpa using Array.mem_of_getElem? ht
  exact (show Tryd.prog.wantsStandIn 22 = false by kernel_rfl)

theorem card : Rows.ProbeChooseMatchesSpecCardSaid :=
  Claim7.holds_tied_plain_at .later [] _ _ _ _ said (fun _ h => by cases h) (by kernel_rfl) (fun _ h => by cases h) probeChooseMatchesSpec_row_tie rfl ⟨rfl, rfl⟩ (by kernel_rfl) rfl plain (by kernel_rfl)
#print axioms card

end Go.Proofs.YtkemjljbmdakbaaDoor.probeChooseMatchesSpec
