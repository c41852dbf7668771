import Derived.Test.YtkemjljbmdakbaaDoorFacts
import Derived.Test.YtkemjljbmdakbaaDoorDevChoose3
namespace Go.Proofs.YtkemjljbmdakbaaDoor
open Go Go.Vc
/-- The first that is found, from c on. -/
def loopC (f : Nat → List Nat × Bool) : Nat → Nat → List Nat × Bool
  | _, 0 => ([], false)
  | c, n + 1 => if (f c).2 then ((f c).1, true) else loopC f (c + 1) n

/-- The search for k more columns behind s, from column `from` on. -/
def chosenR (m : List (List Bool)) (w : Nat) : Nat → List Nat → Nat → List Nat × Bool
  | 0, s, _ => (s, enough m s)
  | k + 1, s, from_ => loopC (fun c => chosenR m w k (s ++ [c]) (c + 1)) from_ (w - from_)

theorem eNat_cells (s : List Nat) : ∀ d ∈ s.map eNat, d.cells.length = 1 := by
  intro d hd
  obtain ⟨x, _, rfl⟩ := List.mem_map.1 hd
  rfl

def eRes (x : List Nat × Bool) : V := .tuple [eNats x.1, .bool x.2]
-- f15 dynamometer/dynamometerref12.chosen
theorem chosen_step (G : List (Nat × V)) (m : List (List Bool)) (w : Nat) (hm : m.length ≤ 9223372036854775807) (hw : w ≤ 1000) (hr : ∀ r ∈ m, r.length = w) (k : Nat) (hk : k ≤ 1000) (s : List Nat) (hs : ∀ c ∈ s, c < w) (hsl : s.length ≤ 1000) (from_ : Nat) (hf : from_ ≤ w)
(ih : ∀ k' s' f', k = k' + 1 → (∀ c ∈ s', c < w) → s'.length = s.length + 1 → f' ≤ w → OkP Tryd.prog G 15 [eM m, eNats s', .int .i64 (f' : Nat), .int .i64 (k' : Nat), .int .i64 (w : Nat)] (eRes (chosenR m w k' s' f'))) :
OkP Tryd.prog G 15 [eM m, eNats s, .int .i64 (from_ : Nat), .int .i64 (k : Nat), .int .i64 (w : Nat)] (eRes (chosenR m w k s from_)) := by
  refine Ok.of_sat (c := _) ⟨Tryd.func15, by kernel_rfl, rfl⟩ (n := 44) rfl (by simp) rfl fun C hG hn => ?_
  subst hG
  refine Sat.seq ?_
  refine rg hn ?_   -- region 0 runs.go:428
  refine Sp pa ?_   -- 10 := assign(c[null, 0, 0])
  refine Sp pa ?_   -- 11 := assign(c[false])
  refine OpsS.nil (?_ : Sat _ _ _ _ _)
  refine Sat.seq ?_
  refine Sat.seq ?_
  refine rg hn ?_   -- region 1 runs.go:429
  refine Sp pm ?_   -- 15 := move(t3)
  refine Sp (pb (h := BinR.eql)) ?_   -- 16 := binOp(eql, 3, t15, c[["Go.IntKind.i64"], 0], 3)
  refine OpsS.nil (?_ : Sat _ _ _ _ _)
  refine cD (fun hc16 => ?_) (fun hc16 => ?_)
  ·
    obtain rfl : k = 0 := by omega
    refine Sat.seq ?_
    refine rg hn ?_   -- region 2 runs.go:430
    refine Sp pm ?_   -- 17 := move(t1)
    refine Sp pm ?_   -- 18 := move(t0)
    refine Sp pm ?_   -- 19 := move(t1)
    refine Sp (pc fb8 (hok := enough_ok _ m s hm (by omega) (fun r hr' => ⟨by rw [hr r hr']; omega, fun c hc => by rw [hr r hr']; exact hs c hc⟩))) ?_   -- 20 := call(mk(value(f8), [t18, t19], [22, 23]))
    refine Sp pa ?_   -- 10 := assign(t17)
    refine Sp pa ?_   -- 11 := assign(t20)
    refine OpsS.nil (?_ : Sat _ _ _ _ _)
    refine Sat.ret (?_ : Vc.Fin _ _ _ _)
    exact fi (hq := ⟨rfl, rfl⟩)   -- fin 0
  ·
    obtain ⟨k', rfl⟩ : ∃ k', k = k' + 1 := ⟨k - 1, by omega⟩
    refine Sat.skip (?_ : Sat _ _ _ _ _)
    refine Sat.seq ?_
    refine Sat.seq ?_
    refine rg hn ?_   -- region 3 runs.go:432
    refine Sp pm ?_   -- 21 := move(t2)
    refine Sp pa ?_   -- 12 := assign(t21)
    refine OpsS.nil (?_ : Sat _ _ _ _ _)
    refine Sat.block ?_
    refine Sat.loop (α := Nat) (fun c => ⟨[(0, eM m), (1, eNats s), (3, .int .i64 ((k' + 1 : Nat) : Int)), (4, .int .i64 (w : Nat)), (12, .int .i64 (c : Nat))], []⟩) (fun c => c ≤ w ∧ chosenR m w (k' + 1) s from_ = loopC (fun c => chosenR m w k' (s ++ [c]) (c + 1)) c (w - c)) (fun c => w - c) (from_) (⟨hf, rfl⟩) (by repeat (first | exact trivial | refine And.intro (by rfl) ?_)) (rfl) (fun c hc => ?_)   -- loop 0
    refine Sat.seq ?_
    refine Sat.seq ?_
    refine rg hn ?_   -- region 4 runs.go:432
    refine Sp pm ?_   -- 22 := move(t12)
    refine Sp pm ?_   -- 23 := move(t4)
    refine Sp (pb (h := BinR.lss)) ?_   -- 24 := binOp(lss, 3, t22, t23, 3)
    refine OpsS.nil (?_ : Sat _ _ _ _ _)
    refine cD (fun hc24 => ?_) (fun hc24 => ?_)
    ·
      have hcw : c < w := by omega
      refine Sat.skip (?_ : Sat _ _ _ _ _)
      refine Sat.seq ?_
      refine Sat.block ?_
      refine Sat.seq ?_
      refine Sat.reserve 1 fun q => ?_
      refine rg hn ?_   -- region 6 runs.go:433
      refine Sp pm ?_   -- 28 := move(t0)
      refine Sp pm ?_   -- 29 := move(t1)
      refine Se (ean 0 ty23 sz3 ze3 (hsrc := srcS ty23 (hc := eNat_cells s))) ?_   -- 30 := call(mk(builtin(append), [c[null, 0, 0], t29], [23, 23]))
      refine Sp pm ?_   -- 31 := move(t12)
      refine Sp (pS ty23 sz3 ze3) ?_   -- 32 := buildSlice(23, 1, [[0, t31]])
      refine Se (eap 0 ty23 sz3 ze3 (hsrc := srcS ty23)) ?_   -- 33 := call(mk(builtin(append), [t30, t32], [23, 23]))
      refine Sp pm ?_   -- 34 := move(t12)
      refine Sp (pb (h := (BinR.add (inI (by omega) (by omega))))) ?_   -- 35 := binOp(add, 3, t34, c[["Go.IntKind.i64"], 1], 3)
      refine Sp pm ?_   -- 36 := move(t3)
      refine Sp (pb (h := (BinR.sub (inI (by omega) (by omega))))) ?_   -- 37 := binOp(sub, 3, t36, c[["Go.IntKind.i64"], 1], 3)
      refine Sp pm ?_   -- 38 := move(t4)
      refine OpsS.freeze (k := 0) (e := 3) (loc' := [(0, eM m), (1, eNats s), (3, .int .i64 ((k' + 1 : Nat) : Int)), (4, .int .i64 (w : Nat)), (12, .int .i64 (c : Nat)), (28, eM m), (33, eNats (s ++ [c])), (35, .int .i64 ((c + 1 : Nat) : Int)), (37, .int .i64 (k' : Nat)), (38, .int .i64 (w : Nat))]) (obj' := []) (elems := (s ++ [c]).map eNat) (by show some (q, AObj.row _ _ _ _) = some (q, AObj.row _ _ _ _); simp [eNat, List.take_of_length_le]) ⟨⟨_, rfl, .refl _⟩, ⟨_, rfl, .refl _⟩, ⟨_, rfl, .refl _⟩, ⟨_, rfl, .refl _⟩, ⟨_, rfl, .refl _⟩, ⟨_, rfl, .refl _⟩, ⟨_, rfl, Frz.all (by simp)⟩, ⟨_, rfl, .refl _⟩, ⟨_, by rw [show (k' : Int) = ((k' + 1 : Nat) : Int) - 1 by omega]; rfl, .refl _⟩, ⟨_, rfl, .refl _⟩, trivial⟩ .nil ?_
      refine Sp (pc fb15 (hok := ih k' (s ++ [c]) (c + 1) rfl (by simp; rintro x (hx | rfl); exact hs x hx; exact hcw) (by simp) (by omega))) ?_   -- 39 := call(mk(value(f15), [t28, t33, t35, t37, t38], [22, 23, 3, 3, 3]))
      refine Sp pm ?_   -- 27 := move(t39)
      refine Sp px ?_   -- 40 := extract(t27, 0)
      refine Sp px ?_   -- 41 := extract(t27, 1)
      refine Sp pa ?_   -- 13 := assign(t40)
      refine Sp pa ?_   -- 14 := assign(t41)
      refine OpsS.nil (?_ : Sat _ _ _ _ _)
      refine Sat.seq ?_
      refine rg hn ?_   -- region 7 runs.go:433
      refine Sp pm ?_   -- 42 := move(t14)
      refine OpsS.nil (?_ : Sat _ _ _ _ _)
      refine cB (fun hc42 => ?_) (fun hc42 => ?_)
      ·
        have hres : chosenR m w (k' + 1) s from_ = ((chosenR m w k' (s ++ [c]) (c + 1)).1, true) := by
          rw [hc.2, show w - c = (w - (c + 1)) + 1 by omega, loopC, hc42]; rfl
        refine Sat.seq ?_
        refine rg hn ?_   -- region 8 runs.go:434
        refine Sp pm ?_   -- 43 := move(t13)
        refine Sp pa ?_   -- 10 := assign(t43)
        refine Sp pa ?_   -- 11 := assign(c[true])
        refine OpsS.nil (?_ : Sat _ _ _ _ _)
        refine Sat.ret (?_ : Vc.Fin _ _ _ _)
        exact fi (hq := ⟨by rw [hres]; rfl, rfl⟩)   -- fin 1
      ·
        refine Sat.skip (?_ : Sat _ _ _ _ _)
        refine rg hn ?_   -- region 5 runs.go:432
        refine Sp pm ?_   -- 25 := move(t12)
        refine Sp (pb (h := (BinR.add (inI (by omega) (by omega))))) ?_   -- 26 := binOp(add, 3, t25, c[["Go.IntKind.i64"], 1], 3)
        refine Sp pa ?_   -- 12 := assign(t26)
        refine OpsS.nil (?_ : ∃ _, _)
        refine ⟨c + 1, ⟨by omega, by
          rw [hc.2, show w - c = (w - (c + 1)) + 1 by omega, loopC, hc42]; rfl⟩, by omega, by repeat (first | exact trivial | refine And.intro (by rfl) ?_), rfl⟩
    ·
      refine Sat.exit (?_ : Sat _ _ _ _ _)
      refine Sat.seq ?_
      refine rg hn ?_   -- region 9 runs.go:437
      refine Sp pa ?_   -- 10 := assign(c[null, 0, 0])
      refine Sp pa ?_   -- 11 := assign(c[false])
      refine OpsS.emp 10 1 rfl ?_
      refine OpsS.nil (?_ : Sat _ _ _ _ _)
      refine Sat.ret (?_ : Vc.Fin _ _ _ _)
      exact fi (hq := ⟨by rw [hc.2, show w - c = 0 by omega]; rfl, rfl⟩)   -- fin 2
theorem chosen_ok (G : List (Nat × V)) (m : List (List Bool)) (w : Nat) (hm : m.length ≤ 9223372036854775807) (hw : w ≤ 16) (hr : ∀ r ∈ m, r.length = w) : ∀ (k : Nat) (s : List Nat) (from_ : Nat), k + s.length ≤ 100 → (∀ c ∈ s, c < w) → from_ ≤ w →
    OkP Tryd.prog G 15 [eM m, eNats s, .int .i64 (from_ : Nat), .int .i64 (k : Nat), .int .i64 (w : Nat)] (eRes (chosenR m w k s from_)) := by
  intro k
  induction k with
  | zero => exact fun s f h1 h2 h3 => chosen_step G m w hm (by omega) hr 0 (by omega) s h2 (by omega) f h3 (fun k' s' f' h => by omega)
  | succ k ih => exact fun s f h1 h2 h3 => chosen_step G m w hm (by omega) hr (k + 1) (by omega) s h2 (by omega) f h3 (fun k' s' f' h4 h5 h6 h7 => by
      obtain rfl : k' = k := by omega
      exact ih s' f' (by omega) h5 h7)

/-- The sizes one behind the other. -/
def sizesR (m : List (List Bool)) (w : Nat) : Nat → Nat → List Nat
  | _, 0 => []
  | k, n + 1 => if (chosenR m w k [] 0).2 then (chosenR m w k [] 0).1 else sizesR m w (k + 1) n
def chR (m : List (List Bool)) : List Nat := if chE m ≠ 0 then [] else sizesR m (wid m) 0 (wid m + 1)

theorem unif_tail {m : List (List Bool)} (h : ∀ j, (hj : j < m.length) → 0 < j → m[j].length = wid m) : unif m = true := by
  rw [unif, List.all_eq_true]
  intro r hr
  obtain ⟨j, hj, rfl⟩ := List.mem_iff_getElem.1 hr
  cases j with
  | zero => simpa using wid_get hj
  | succ j => simpa using h (j + 1) hj (by omega)
-- f6 dynamometer/dynamometerref12.Choose
theorem chooseR_ok (G : List (Nat × V)) (m : List (List Bool)) (hm : m.length ≤ 9223372036854775807) (hr : ∀ r ∈ m, r.length ≤ 9223372036854775807) : OkP Tryd.prog G 6 [eM m] (.tuple [eNats (chR m), .int .i64 (chE m : Nat)]) := by
  refine Ok.of_sat (c := _) ⟨Tryd.func6, by kernel_rfl, rfl⟩ (n := 61) rfl (by simp) rfl fun C hG hn => ?_
  subst hG
  refine Sat.seq ?_
  refine rg hn ?_   -- region 0 runs.go:441
  refine Sp pa ?_   -- 2 := assign(c[null, 0, 0])
  refine Sp pa ?_   -- 3 := assign(c[["Go.IntKind.i64"], 0])
  refine OpsS.nil (?_ : Sat _ _ _ _ _)
  refine Sat.seq ?_
  refine Sat.seq ?_
  refine rg hn ?_   -- region 1 runs.go:442
  refine Sp pa ?_   -- 4 := assign(c[["Go.IntKind.i64"], 1])
  refine OpsS.nil (?_ : Sat _ _ _ _ _)
  refine Sat.block ?_
  refine Sat.loop (α := Nat) (fun i => ⟨[(0, eM m), (4, .int .i64 (i : Nat))], []⟩) (fun i => 1 ≤ i ∧ (i = 1 ∨ i ≤ m.length) ∧ ∀ j, (hj : j < m.length) → 0 < j → j < i → m[j].length = wid m) (fun i => m.length - i) (1) (⟨Nat.le_refl _, .inl rfl, fun j hj h1 h2 => by omega⟩) (by repeat (first | exact trivial | refine And.intro (by rfl) ?_)) (rfl) (fun i hi => ?_)   -- loop 0
  refine Sat.seq ?_
  refine Sat.seq ?_
  refine rg hn ?_   -- region 2 runs.go:442
  refine Sp pm ?_   -- 9 := move(t4)
  refine Sp pm ?_   -- 10 := move(t0)
  refine Sp (pL ty22) ?_   -- 11 := call(mk(builtin(len), [t10], [22]))
  refine Sp (pb (h := BinR.lss)) ?_   -- 12 := binOp(lss, 3, t9, t11, 3)
  refine OpsS.nil (?_ : Sat _ _ _ _ _)
  refine cD (fun hc12 => ?_) (fun hc12 => ?_)
  ·
    simp only [List.length_map] at hc12
    have him : i < m.length := by omega
    have hw0 := wid_get (m := m) (by omega)
    refine Sat.skip (?_ : Sat _ _ _ _ _)
    refine Sat.seq ?_
    refine Sat.block ?_
    refine Sat.seq ?_
    refine dr [0, 0, 0, 0, 0, 0, 0, 0, 0, 0] mixed hn ?_   -- region 4 runs.go:443
    refine Df (fun _ => pm) ?_   -- 15 := move(t0)
    refine Df (fun _ => pm) ?_   -- 16 := move(t4)
    refine Df (fun _ => (piS ty22 sz31)) ?_   -- 17 := indexAddr(22, t15, t16)
    refine Df (fun _ => (plR ty31)) ?_   -- 18 := load(31, t17)
    refine Df (fun _ => (pL ty31)) ?_   -- 19 := call(mk(builtin(len), [t18], [31]))
    refine Df (fun _ => pm) ?_   -- 20 := move(t0)
    refine Df (fun _ => (piS ty22 sz31)) ?_   -- 21 := indexAddr(22, t20, c[["Go.IntKind.i64"], 0])
    refine Df (fun _ => (plR ty31 (hi := map_get (i := 0) (l := m) (f := eRow) (by omega)))) ?_   -- 22 := load(31, t21)
    refine Df (fun _ => (pL ty31)) ?_   -- 23 := call(mk(builtin(len), [t22], [31]))
    refine Df (fun _ => (pb (h := BinR.neq))) ?_   -- 24 := binOp(neq, 3, t19, t23, 3)
    refine OpsD.nil (?_ : Sat _ _ _ _ _)
    refine cD (fun hc24 => ?_) (fun hc24 => ?_)
    ·
      simp only [List.length_map] at hc24
      have hun : unif m = false := by
        rw [unif, List.all_eq_false]
        exact ⟨m[i], List.getElem_mem him, by simp; omega⟩
      refine Sat.seq ?_
      refine rg hn ?_   -- region 5 runs.go:444
      refine Sp pa ?_   -- 2 := assign(c[null, 0, 0])
      refine Sp pa ?_   -- 3 := assign(c[["Go.IntKind.i64"], 2])
      refine OpsS.emp 2 1 rfl ?_
      refine OpsS.nil (?_ : Sat _ _ _ _ _)
      refine Sat.ret (?_ : Vc.Fin _ _ _ _)
      exact fi (hq := ⟨by simp [chR, chE, hun]; rfl, rfl⟩)   -- fin 0
    ·
      simp only [List.length_map] at hc24
      refine Sat.skip (?_ : Sat _ _ _ _ _)
      refine rg hn ?_   -- region 3 runs.go:442
      refine Sp pm ?_   -- 13 := move(t4)
      refine Sp (pb (h := (BinR.add (inI (by omega) (by omega))))) ?_   -- 14 := binOp(add, 3, t13, c[["Go.IntKind.i64"], 1], 3)
      refine Sp pa ?_   -- 4 := assign(t14)
      refine OpsS.nil (?_ : ∃ _, _)
      refine ⟨i + 1, ⟨by omega, .inr (by omega), fun j hj h1 h2 => by
        by_cases h : j = i
        · subst h; omega
        · exact hi.2.2 j hj h1 (by omega)⟩, by omega, by repeat (first | exact trivial | refine And.intro (by rfl) ?_), rfl⟩
  ·
    simp only [List.length_map] at hc12
    have hun := unif_tail (m := m) (fun j hj h1 => hi.2.2 j hj h1 (by omega))
    refine Sat.exit (?_ : Sat _ _ _ _ _)
    refine Sat.seq ?_
    refine Sat.seq ?_
    refine Sat.to (α := Bool) (fun b => ⟨[(0, eM m), (39, .bool b)], []⟩) (fun b => b = big m) ?_ (fun b hb => (?_ : Sat _ _ _ _ _))
    ·
      rcases hb31 : decide ((2000 : Int) < ((m.map eRow).length : Nat)) with _ | _
      all_goals rcases hb35 : decide ((0 : Int) < ((m.map eRow).length : Nat)) with _ | _
      all_goals try have h35 := of_decide_eq_true hb35
      all_goals try have h35' : 0 < m.length := by simp only [List.length_map] at h35; omega
      all_goals try have hw0 := wid_get h35'
      all_goals (
        refine rg hn ?_   -- region 6 runs.go:447
        refine Sp pm ?_   -- 25 := move(t0)
        refine Sp (pL ty22) ?_   -- 26 := call(mk(builtin(len), [t25], [22]))
        refine Sp (pb (h := BinR.to BinR.gtr (congrArg V.bool hb31))) ?_   -- 27 := binOp(gtr, 3, t26, c[["Go.IntKind.i64"], 2000], 3)
        refine Sp pm ?_   -- 28 := move(t27)
        first | refine Sk ?_ | refine Sp pm ?_   -- 29 := move(t0)  [guard [3, False]]
        first | refine Sk ?_ | refine Sp (pL ty22) ?_   -- 30 := call(mk(builtin(len), [t29], [22]))  [guard [3, False]]
        first | refine Sk ?_ | refine Sp (pb (h := BinR.to BinR.gtr (congrArg V.bool hb35))) ?_   -- 31 := binOp(gtr, 3, t30, c[["Go.IntKind.i64"], 0], 3)  [guard [3, False]]
        first | refine Sk ?_ | refine Sp pm ?_   -- 32 := move(t31)  [guard [3, False]]
        first | refine Sk ?_ | refine Sp pm ?_   -- 33 := move(t0)  [guard [7, True]]
        first | refine Sk ?_ | refine Sp (piS ty22 sz31) ?_   -- 34 := indexAddr(22, t33, c[["Go.IntKind.i64"], 0])  [guard [7, True]]
        first | refine Sk ?_ | refine Sp (plR ty31 (hi := map_get (i := 0) (l := m) (f := eRow) (by omega))) ?_   -- 35 := load(31, t34)  [guard [7, True]]
        first | refine Sk ?_ | refine Sp (pL ty31) ?_   -- 36 := call(mk(builtin(len), [t35], [31]))  [guard [7, True]]
        first | refine Sk ?_ | refine Sp (pb (h := BinR.gtr)) ?_   -- 37 := binOp(gtr, 3, t36, c[["Go.IntKind.i64"], 16], 3)  [guard [7, True]]
        first | refine Sk ?_ | refine Sp pk ?_   -- 38 := pick(t32, t37, c[false])  [guard [3, False]]
        refine Sp pk ?_   -- 39 := pick(t28, c[true], t38)
        refine OpsS.nil (?_ : ∃ _, _)
        refine ⟨_, (by rw [big, eq_comm, Bool.eq_iff_iff]; simp only [decide_eq_true_eq, decide_eq_false_iff_not, List.length_map, iff_true, iff_false, Bool.false_eq_true] at *; omega), ⟨rfl, rfl, trivial⟩, rfl⟩
      )
    ·
      refine cB (fun hc39 => ?_) (fun hc39 => ?_)
      ·
        subst hb
        refine Sat.seq ?_
        refine rg hn ?_   -- region 7 runs.go:448
        refine Sp pa ?_   -- 2 := assign(c[null, 0, 0])
        refine Sp pa ?_   -- 3 := assign(c[["Go.IntKind.i64"], 3])
        refine OpsS.emp 2 1 rfl ?_
        refine OpsS.nil (?_ : Sat _ _ _ _ _)
        refine Sat.ret (?_ : Vc.Fin _ _ _ _)
        exact fi (hq := ⟨by simp [chR, chE, hun, hc39]; rfl, rfl⟩)   -- fin 1
      ·
        subst hb
        have hbig : ¬ (2000 < m.length ∨ (0 < m.length ∧ 16 < wid m)) := by simpa [big] using hc39
        have hw16 : wid m ≤ 16 := by
          by_cases h : 0 < m.length
          · omega
          · have : m = [] := List.eq_nil_of_length_eq_zero (by omega)
            subst this; simp [wid]
        have hrw : ∀ r ∈ m, r.length = wid m := by
          intro r hr'
          rw [unif, List.all_eq_true] at hun
          simpa using hun r hr'
        have h0 : chE m = 0 := by rw [chE, hun, hc39]; rfl
        have hcr : chR m = sizesR m (wid m) 0 (wid m + 1) := by rw [chR, if_neg (by rw [h0]; simp)]
        refine Sat.skip (?_ : Sat _ _ _ _ _)
        refine Sat.seq ?_
        refine rg hn ?_   -- region 8 runs.go:450
        refine Sp pa ?_   -- 5 := assign(c[["Go.IntKind.i64"], 0])
        refine OpsS.nil (?_ : Sat _ _ _ _ _)
        refine Sat.seq ?_
        refine Sat.seq ?_
        refine rg hn ?_   -- region 9 runs.go:451
        refine Sp pm ?_   -- 40 := move(t0)
        refine Sp (pL ty22) ?_   -- 41 := call(mk(builtin(len), [t40], [22]))
        refine Sp (pb (h := BinR.gtr)) ?_   -- 42 := binOp(gtr, 3, t41, c[["Go.IntKind.i64"], 0], 3)
        refine OpsS.nil (?_ : Sat _ _ _ _ _)
        refine Sat.to (α := Unit) (fun _ => ⟨[(0, eM m), (5, .int .i64 (wid m : Nat))], []⟩) (fun _ => True) ?_ (fun x hx => (?_ : Sat _ _ _ _ _))
        ·
          refine cD (fun hc42 => ?_) (fun hc42 => ?_)
          ·
            simp only [List.length_map] at hc42
            have hm0 : 0 < m.length := by omega
            have hw0 := wid_get hm0
            refine rg hn ?_   -- region 10 runs.go:452
            refine Sp pm ?_   -- 43 := move(t0)
            refine Sp (piS ty22 sz31) ?_   -- 44 := indexAddr(22, t43, c[["Go.IntKind.i64"], 0])
            refine Sp (plR ty31 (hi := map_get (i := 0) (l := m) (f := eRow) (by omega))) ?_   -- 45 := load(31, t44)
            refine Sp (PureOp.to (pL ty31) (show V.int .i64 _ = V.int .i64 (wid m : Nat) from congrArg _ (by rw [List.length_map, hw0]))) ?_   -- 46 := call(mk(builtin(len), [t45], [31]))
            refine Sp pa ?_   -- 5 := assign(t46)
            refine OpsS.nil (?_ : ∃ _, _)
            refine ⟨(), trivial, by repeat (first | exact trivial | refine And.intro (by rfl) ?_), rfl⟩
          ·
            simp only [List.length_map] at hc42
            have hm0 : m = [] := List.eq_nil_of_length_eq_zero (by omega)
            have hw0 : wid m = 0 := by rw [hm0]; rfl
            rw [hw0]
            refine Sat.skip (?_ : ∃ _, _)
            refine ⟨(), trivial, by repeat (first | exact trivial | refine And.intro (by rfl) ?_), rfl⟩
        ·
          refine Sat.seq ?_
          refine Sat.seq ?_
          refine rg hn ?_   -- region 11 runs.go:454
          refine Sp pa ?_   -- 6 := assign(c[["Go.IntKind.i64"], 0])
          refine OpsS.nil (?_ : Sat _ _ _ _ _)
          refine Sat.block ?_
          refine Sat.loop (α := Nat) (fun k => ⟨[(0, eM m), (5, .int .i64 (wid m : Nat)), (6, .int .i64 (k : Nat))], []⟩) (fun k => k ≤ wid m + 1 ∧ chR m = sizesR m (wid m) k (wid m + 1 - k)) (fun k => wid m + 1 - k) (0) (⟨Nat.zero_le _, hcr⟩) (by repeat (first | exact trivial | refine And.intro (by rfl) ?_)) (rfl) (fun k hk => ?_)   -- loop 1
          refine Sat.seq ?_
          refine Sat.seq ?_
          refine rg hn ?_   -- region 12 runs.go:454
          refine Sp pm ?_   -- 47 := move(t6)
          refine Sp pm ?_   -- 48 := move(t5)
          refine Sp (pb (h := BinR.leq)) ?_   -- 49 := binOp(leq, 3, t47, t48, 3)
          refine OpsS.nil (?_ : Sat _ _ _ _ _)
          refine cD (fun hc49 => ?_) (fun hc49 => ?_)
          ·
            have hkw : k ≤ wid m := by omega
            refine Sat.skip (?_ : Sat _ _ _ _ _)
            refine Sat.seq ?_
            refine Sat.block ?_
            refine Sat.seq ?_
            refine rg hn ?_   -- region 14 runs.go:455
            refine Sp pm ?_   -- 53 := move(t0)
            refine Sp pm ?_   -- 54 := move(t6)
            refine Sp pm ?_   -- 55 := move(t5)
            refine Sp (pc (r := eRes (chosenR m (wid m) k [] 0)) (ds := [eM m, .nilsl, .int .i64 ((0 : Nat) : Int), .int .i64 (k : Nat), .int .i64 (wid m : Nat)]) fb15 (first := []) (caps := []) (hok := Ok.cast (EmpB 1) EmpB.rep (xs := [eM m, .nilsl, .int .i64 ((0 : Nat) : Int), .int .i64 (k : Nat), .int .i64 (wid m : Nat)]) (ys := [eM m, eNats [], .int .i64 ((0 : Nat) : Int), .int .i64 (k : Nat), .int .i64 (wid m : Nat)]) ⟨.refl _, .base _ _ .mk, .refl _, .refl _, .refl _, rfl⟩ (chosen_ok _ m (wid m) hm hw16 hrw k [] 0 (by simp; omega) (by simp) (by omega)))) ?_   -- 56 := call(mk(value(f15), [t53, c[null, 0, 0], c[["Go.IntKind.i64"], 0], t54, t55], [22, 23, 3, 3, 3]))
            refine Sp pm ?_   -- 52 := move(t56)
            refine Sp px ?_   -- 57 := extract(t52, 0)
            refine Sp px ?_   -- 58 := extract(t52, 1)
            refine Sp pa ?_   -- 7 := assign(t57)
            refine Sp pa ?_   -- 8 := assign(t58)
            refine OpsS.nil (?_ : Sat _ _ _ _ _)
            refine Sat.seq ?_
            refine rg hn ?_   -- region 15 runs.go:455
            refine Sp pm ?_   -- 59 := move(t8)
            refine OpsS.nil (?_ : Sat _ _ _ _ _)
            refine cB (fun hc59 => ?_) (fun hc59 => ?_)
            ·
              have hres : chR m = (chosenR m (wid m) k [] 0).1 := by
                rw [hk.2, show wid m + 1 - k = (wid m + 1 - (k + 1)) + 1 by omega, sizesR, hc59]; rfl
              refine Sat.seq ?_
              refine rg hn ?_   -- region 16 runs.go:456
              refine Sp pm ?_   -- 60 := move(t7)
              refine Sp pa ?_   -- 2 := assign(t60)
              refine Sp pa ?_   -- 3 := assign(c[["Go.IntKind.i64"], 0])
              refine OpsS.nil (?_ : Sat _ _ _ _ _)
              refine Sat.ret (?_ : Vc.Fin _ _ _ _)
              exact fi (hq := ⟨by rw [hres, h0]; rfl, rfl⟩)   -- fin 2
            ·
              refine Sat.skip (?_ : Sat _ _ _ _ _)
              refine rg hn ?_   -- region 13 runs.go:454
              refine Sp pm ?_   -- 50 := move(t6)
              refine Sp (pb (h := (BinR.add (inI (by omega) (by omega))))) ?_   -- 51 := binOp(add, 3, t50, c[["Go.IntKind.i64"], 1], 3)
              refine Sp pa ?_   -- 6 := assign(t51)
              refine OpsS.nil (?_ : ∃ _, _)
              refine ⟨k + 1, ⟨by omega, by
                rw [hk.2, show wid m + 1 - k = (wid m + 1 - (k + 1)) + 1 by omega, sizesR, hc59]; rfl⟩, by omega, by repeat (first | exact trivial | refine And.intro (by rfl) ?_), rfl⟩
          ·
            refine Sat.exit (?_ : Sat _ _ _ _ _)
            refine Sat.seq ?_
            refine rg hn ?_   -- region 17 runs.go:459
            refine Sp pa ?_   -- 2 := assign(c[null, 0, 0])
            refine Sp pa ?_   -- 3 := assign(c[["Go.IntKind.i64"], 0])
            refine OpsS.emp 2 1 rfl ?_
            refine OpsS.nil (?_ : Sat _ _ _ _ _)
            refine Sat.ret (?_ : Vc.Fin _ _ _ _)
            exact fi (hq := ⟨by rw [hk.2, show wid m + 1 - k = 0 by omega, h0]; rfl, rfl⟩)   -- fin 3
end Go.Proofs.YtkemjljbmdakbaaDoor
