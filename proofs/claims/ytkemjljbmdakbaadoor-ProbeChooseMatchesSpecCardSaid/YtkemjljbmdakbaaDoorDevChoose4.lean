import Derived.Test.YtkemjljbmdakbaaDoorFacts
import Derived.Test.YtkemjljbmdakbaaDoorDevChoose3
namespace Go.Proofs.YtkemjljbmdakbaaDoor
open Go Go.Vc
/-- The first that is found, from c on. -/
def loopC (f : Nat → List Nat × Bool) : Nat → Nat → List Nat × Bool
  | _, 0 => ([], false)
  | c, n + 1 => if (f c).2 then ((f c).1, true) else loopC f (c + 1) n

/-- The search for k more columns behind s, from column `from` on. -/
def chosenR (m : List (List Bool)) (w : Nat) : Nat → List Nat → Nat → List Nat × Bool
  | 0, s, _ => (s, enough m s)
  | k + 1, s, from_ => loopC (fun c => chosenR m w k (s ++ [c]) (c + 1)) from_ (w - from_)

theorem eNat_cells (s : List Nat) : ∀ d ∈ s.map eNat, d.cells.length = 1 := by
  intro d hd
  obtain ⟨x, _, rfl⟩ := List.mem_map.1 hd
  rfl

def eRes (x : List Nat × Bool) : V := .tuple [eNats x.1, .bool x.2]

theorem chosen_step (G : List (Nat × V)) (m : List (List Bool)) (w : Nat) (hm : m.length ≤ 9223372036854775807) (hw : w ≤ 1000) (hr : ∀ r ∈ m, r.length = w) (k : Nat) (hk : k ≤ 1000) (s : List Nat) (hs : ∀ c ∈ s, c < w) (hsl : s.length ≤ 1000) (from_ : Nat) (hf : from_ ≤ w)
(ih : ∀ k' s' f', k = k' + 1 → (∀ c ∈ s', c < w) → s'.length = s.length + 1 → f' ≤ w → OkP Tryd.prog G 15 [eM m, eNats s', .int .i64 (f' : Nat), .int .i64 (k' : Nat), .int .i64 (w : Nat)] (eRes (chosenR m w k' s' f'))) :
OkP Tryd.prog G 15 [eM m, eNats s, .int .i64 (from_ : Nat), .int .i64 (k : Nat), .int .i64 (w : Nat)] (eRes (chosenR m w k s from_)) := by
  refine Ok.of_sat (c := _) ⟨Tryd.func15, by kernel_rfl, rfl⟩ (n := 44) rfl (by simp) rfl fun C hG hn => ?_
  subst hG
  refine Sat.seq ?_
  refine rg hn ?_
  refine Sp pa ?_
  refine Sp pa ?_
  refine OpsS.nil (?_ : Sat _ _ _ _ _)
  refine Sat.seq ?_
  refine Sat.seq ?_
  refine rg hn ?_
  refine Sp pm ?_
  refine Sp (pb (h := BinR.eql)) ?_
  refine OpsS.nil (?_ : Sat _ _ _ _ _)
  refine cD (fun hc16 => ?_) (fun hc16 => ?_)
  ·
    obtain rfl : k = 0 := by omega
    refine Sat.seq ?_
    refine rg hn ?_
    refine Sp pm ?_
    refine Sp pm ?_
    refine Sp pm ?_
    refine Sp (pc fb8 (hok := enough_ok _ m s hm (by omega) (fun r hr' => ⟨by rw [hr r hr']; omega, fun c hc => by rw [hr r hr']; exact hs c hc⟩))) ?_
    refine Sp pa ?_
    refine Sp pa ?_
    refine OpsS.nil (?_ : Sat _ _ _ _ _)
    refine Sat.ret (?_ : Vc.Fin _ _ _ _)
    exact fi (hq := ⟨rfl, rfl⟩)
  ·
    obtain ⟨k', rfl⟩ : ∃ k', k = k' + 1 := ⟨k - 1, by omega⟩
    refine Sat.skip (?_ : Sat _ _ _ _ _)
    refine Sat.seq ?_
    refine Sat.seq ?_
    refine rg hn ?_
    refine Sp pm ?_
    refine Sp pa ?_
    refine OpsS.nil (?_ : Sat _ _ _ _ _)
    refine Sat.block ?_
    refine Sat.loop (α := Nat) (fun c => ⟨[(0, eM m), (1, eNats s), (3, .int .i64 ((k' + 1 : Nat) : Int)), (4, .int .i64 (w : Nat)), (12, .int .i64 (c : Nat))], []⟩) (fun c => c ≤ w ∧ chosenR m w (k' + 1) s from_ = loopC (fun c => chosenR m w k' (s ++ [c]) (c + 1)) c (w - c)) (fun c => w - c) (from_) (⟨hf, rfl⟩) (by repeat (first | exact trivial | refine And.intro (by rfl) ?_)) (rfl) (fun c hc => ?_)
    refine Sat.seq ?_
    refine Sat.seq ?_
    refine rg hn ?_
    refine Sp pm ?_
    refine Sp pm ?_
    refine Sp (pb (h := BinR.lss)) ?_
    refine OpsS.nil (?_ : Sat _ _ _ _ _)
    refine cD (fun hc24 => ?_) (fun hc24 => ?_)
    ·
      have hcw : c < w := by omega
      refine Sat.skip (?_ : Sat _ _ _ _ _)
      refine Sat.seq ?_
      refine Sat.block ?_
      refine Sat.seq ?_
      refine Sat.reserve 1 fun q => ?_
      refine rg hn ?_
      refine Sp pm ?_
      refine Sp pm ?_
      refine Se (ean 0 ty23 sz3 ze3 (hsrc := srcS ty23 (hc := eNat_cells s))) ?_
      refine Sp pm ?_
      refine Sp (pS ty23 sz3 ze3) ?_
      refine Se (eap 0 ty23 sz3 ze3 (hsrc := srcS ty23)) ?_
      refine Sp pm ?_
      refine Sp (pb (h := (BinR.add (inI (by omega) (by omega))))) ?_
      refine Sp pm ?_
      refine Sp (pb (h := (BinR.sub (inI (by omega) (by omega))))) ?_
      refine Sp pm ?_
      refine OpsS.freeze (k := 0) (e := 3) (loc' := [(0, eM m), (1, eNats s), (3, .int .i64 ((k' + 1 : Nat) : Int)), (4, .int .i64 (w : Nat)), (12, .int .i64 (c : Nat)), (28, eM m), (33, eNats (s ++ [c])), (35, .int .i64 ((c + 1 : Nat) : Int)), (37, .int .i64 (k' : Nat)), (38, .int .i64 (w : Nat))]) (obj' := []) (elems := (s ++ [c]).map eNat) (by show some (q, AObj.row _ _ _ _) = some (q, AObj.row _ _ _ _); simp [eNat, List.take_of_length_le]) ⟨⟨_, rfl, .refl _⟩, ⟨_, rfl, .refl _⟩, ⟨_, rfl, .refl _⟩, ⟨_, rfl, .refl _⟩, ⟨_, rfl, .refl _⟩, ⟨_, rfl, .refl _⟩, ⟨_, rfl, Frz.all (by simp)⟩, ⟨_, rfl, .refl _⟩, ⟨_, by rw [show (k' : Int) = ((k' + 1 : Nat) : Int) - 1 by omega]; rfl, .refl _⟩, ⟨_, rfl, .refl _⟩, trivial⟩ .nil ?_
      refine Sp (pc fb15 (hok := ih k' (s ++ [c]) (c + 1) rfl (by simp; rintro x (hx | rfl); exact hs x hx; exact hcw) (by simp) (by omega))) ?_
      refine Sp pm ?_
      refine Sp px ?_
      refine Sp px ?_
      refine Sp pa ?_
      refine Sp pa ?_
      refine OpsS.nil (?_ : Sat _ _ _ _ _)
      refine Sat.seq ?_
      refine rg hn ?_
      refine Sp pm ?_
      refine OpsS.nil (?_ : Sat _ _ _ _ _)
      refine cB (fun hc42 => ?_) (fun hc42 => ?_)
      ·
        have hres : chosenR m w (k' + 1) s from_ = ((chosenR m w k' (s ++ [c]) (c + 1)).1, true) := by
          rw [hc.2, show w - c = (w - (c + 1)) + 1 by omega, loopC, hc42]; rfl
        refine Sat.seq ?_
        refine rg hn ?_
        refine Sp pm ?_
        refine Sp pa ?_
        refine Sp pa ?_
        refine OpsS.nil (?_ : Sat _ _ _ _ _)
        refine Sat.ret (?_ : Vc.Fin _ _ _ _)
        exact fi (hq := ⟨by rw [hres]; rfl, rfl⟩)
      ·
        refine Sat.skip (?_ : Sat _ _ _ _ _)
        refine rg hn ?_
        refine Sp pm ?_
        refine Sp (pb (h := (BinR.add (inI (by omega) (by omega))))) ?_
        refine Sp pa ?_
        refine OpsS.nil (?_ : ∃ _, _)
        refine ⟨c + 1, ⟨by omega, by
          rw [hc.2, show w - c = (w - (c + 1)) + 1 by omega, loopC, hc42]; rfl⟩, by omega, by repeat (first | exact trivial | refine And.intro (by rfl) ?_), rfl⟩
    ·
      refine Sat.exit (?_ : Sat _ _ _ _ _)
      refine Sat.seq ?_
      refine rg hn ?_
      refine Sp pa ?_
      refine Sp pa ?_
      refine OpsS.emp 10 1 rfl ?_
      refine OpsS.nil (?_ : Sat _ _ _ _ _)
      refine Sat.ret (?_ : Vc.Fin _ _ _ _)
      exact fi (hq := ⟨by rw [hc.2, show w - c = 0 by omega]; rfl, rfl⟩)
theorem chosen_ok (G : List (Nat × V)) (m : List (List Bool)) (w : Nat) (hm : m.length ≤ 9223372036854775807) (hw : w ≤ 16) (hr : ∀ r ∈ m, r.length = w) : ∀ (k : Nat) (s : List Nat) (from_ : Nat), k + s.length ≤ 100 → (∀ c ∈ s, c < w) → from_ ≤ w →
    OkP Tryd.prog G 15 [eM m, eNats s, .int .i64 (from_ : Nat), .int .i64 (k : Nat), .int .i64 (w : Nat)] (eRes (chosenR m w k s from_)) := by
  intro k
  induction k with
  | zero => exact fun s f h1 h2 h3 => chosen_step G m w hm (by omega) hr 0 (by omega) s h2 (by omega) f h3 (fun k' s' f' h => by omega)
  | succ k ih => exact fun s f h1 h2 h3 => chosen_step G m w hm (by omega) hr (k + 1) (by omega) s h2 (by omega) f h3 (fun k' s' f' h4 h5 h6 h7 => by
      obtain rfl : k' = k := by omega
      exact ih s' f' (by omega) h5 h7)

/-- The sizes one behind the other. -/
def sizesR (m : List (List Bool)) (w : Nat) : Nat → Nat → List Nat
  | _, 0 => []
  | k, n + 1 => if (chosenR m w k [] 0).2 then (chosenR m w k [] 0).1 else sizesR m w (k + 1) n
def chR (m : List (List Bool)) : List Nat := if chE m ≠ 0 then [] else sizesR m (wid m) 0 (wid m + 1)

theorem unif_tail {m : List (List Bool)} (h : ∀ j, (hj : j < m.length) → 0 < j → m[j].length = wid m) : unif m = true := by
  rw [unif, List.all_eq_true]
  intro r hr
  obtain ⟨j, hj, rfl⟩ := List.mem_iff_getElem.1 hr
  cases j with
  | zero => simpa using wid_get hj
  | succ j => simpa using h (j + 1) hj (by omega)

theorem chooseR_ok (G : List (Nat × V)) (m : List (List Bool)) (hm : m.length ≤ 9223372036854775807) (hr : ∀ r ∈ m, r.length ≤ 9223372036854775807) : OkP Tryd.prog G 6 [eM m] (.tuple [eNats (chR m), .int .i64 (chE m : Nat)]) := by
  refine Ok.of_sat (c := _) ⟨Tryd.func6, by kernel_rfl, rfl⟩ (n := 61) rfl (by simp) rfl fun C hG hn => ?_
  subst hG
  refine Sat.seq ?_
  refine rg hn ?_
  refine Sp pa ?_
  refine Sp pa ?_
  refine OpsS.nil (?_ : Sat _ _ _ _ _)
  refine Sat.seq ?_
  refine Sat.seq ?_
  refine rg hn ?_
  refine Sp pa ?_
  refine OpsS.nil (?_ : Sat _ _ _ _ _)
  refine Sat.block ?_
  refine Sat.loop (α := Nat) (fun i => ⟨[(0, eM m), (4, .int .i64 (i : Nat))], []⟩) (fun i => 1 ≤ i ∧ (i = 1 ∨ i ≤ m.length) ∧ ∀ j, (hj : j < m.length) → 0 < j → j < i → m[j].length = wid m) (fun i => m.length - i) (1) (⟨Nat.le_refl _, .inl rfl, fun j hj h1 h2 => by omega⟩) (by repeat (first | exact trivial | refine And.intro (by rfl) ?_)) (rfl) (fun i hi => ?_)
  refine Sat.seq ?_
  refine Sat.seq ?_
  refine rg hn ?_
  refine Sp pm ?_
  refine Sp pm ?_
  refine Sp (pL ty22) ?_
  refine Sp (pb (h := BinR.lss)) ?_
  refine OpsS.nil (?_ : Sat _ _ _ _ _)
  refine cD (fun hc12 => ?_) (fun hc12 => ?_)
  ·
    simp only [List.length_map] at hc12
    have him : i < m.length := by omega
    have hw0 := wid_get (m := m) (by omega)
    refine Sat.skip (?_ : Sat _ _ _ _ _)
    refine Sat.seq ?_
    refine Sat.block ?_
    refine Sat.seq ?_
    refine dr [0, 0, 0, 0, 0, 0, 0, 0, 0, 0] mixed hn ?_
    refine Df (fun _ => pm) ?_
    refine Df (fun _ => pm) ?_
    refine Df (fun _ => (piS ty22 sz31)) ?_
    refine Df (fun _ => (plR ty31)) ?_
    refine Df (fun _ => (pL ty31)) ?_
    refine Df (fun _ => pm) ?_
    refine Df (fun _ => (piS ty22 sz31)) ?_
    refine Df (fun _ => (plR ty31 (hi := map_get (i := 0) (l := m) (f := eRow) (by omega)))) ?_
    refine Df (fun _ => (pL ty31)) ?_
    refine Df (fun _ => (pb (h := BinR.neq))) ?_
    refine OpsD.nil (?_ : Sat _ _ _ _ _)
    refine cD (fun hc24 => ?_) (fun hc24 => ?_)
    ·
      simp only [List.length_map] at hc24
      have hun : unif m = false := by
        rw [unif, List.all_eq_false]
        exact ⟨m[i], List.getElem_mem him, by simp; omega⟩
      refine Sat.seq ?_
      refine rg hn ?_
      refine Sp pa ?_
      refine Sp pa ?_
      refine OpsS.emp 2 1 rfl ?_
      refine OpsS.nil (?_ : Sat _ _ _ _ _)
      refine Sat.ret (?_ : Vc.Fin _ _ _ _)
      exact fi (hq := ⟨by simp [chR, chE, hun]; rfl, rfl⟩)
    ·
      simp only [List.length_map] at hc24
      refine Sat.skip (?_ : Sat _ _ _ _ _)
      refine rg hn ?_
      refine Sp pm ?_
      refine Sp (pb (h := (BinR.add (inI (by omega) (by omega))))) ?_
      refine Sp pa ?_
      refine OpsS.nil (?_ : ∃ _, _)
      refine ⟨i + 1, ⟨by omega, .inr (by omega), fun j hj h1 h2 => by
        by_cases h : j = i
        · subst h; omega
        · exact hi.2.2 j hj h1 (by omega)⟩, by omega, by repeat (first | exact trivial | refine And.intro (by rfl) ?_), rfl⟩
  ·
    simp only [List.length_map] at hc12
    have hun := unif_tail (m := m) (fun j hj h1 => hi.2.2 j hj h1 (by omega))
    refine Sat.exit (?_ : Sat _ _ _ _ _)
    refine Sat.seq ?_
    refine Sat.seq ?_
    refine Sat.to (α := Bool) (fun b => ⟨[(0, eM m), (39, .bool b)], []⟩) (fun b => b = big m) ?_ (fun b hb => (?_ : Sat _ _ _ _ _))
    ·
      rcases hb31 : decide ((2000 : Int) < ((m.map eRow).length : Nat)) with _ | _
      all_goals rcases hb35 : decide ((0 : Int) < ((m.map eRow).length : Nat)) with _ | _
      all_goals try have h35 := of_decide_eq_true hb35
      all_goals try have h35' : 0 < m.length := by simp only [List.length_map] at h35; omega
      all_goals try have hw0 := wid_get h35'
      all_goals (
        refine rg hn ?_
        refine Sp pm ?_
        refine Sp (pL ty22) ?_
        refine Sp (pb (h := BinR.to BinR.gtr (congrArg V.bool hb31))) ?_
        refine Sp pm ?_
        first | refine Sk ?_ | refine Sp pm ?_
        first | refine Sk ?_ | refine Sp (pL ty22) ?_
        first | refine Sk ?_ | refine Sp (pb (h := BinR.to BinR.gtr (congrArg V.bool hb35))) ?_
        first | refine Sk ?_ | refine Sp pm ?_
        first | refine Sk ?_ | refine Sp pm ?_
        first | refine Sk ?_ | refine Sp (piS ty22 sz31) ?_
        first | refine Sk ?_ | refine Sp (plR ty31 (hi := map_get (i := 0) (l := m) (f := eRow) (by omega))) ?_
        first | refine Sk ?_ | refine Sp (pL ty31) ?_
        first | refine Sk ?_ | refine Sp (pb (h := BinR.gtr)) ?_
        first | refine Sk ?_ | refine Sp pk ?_
        refine Sp pk ?_
        refine OpsS.nil (?_ : ∃ _, _)
        refine ⟨_, (by rw [big, eq_comm, Bool.eq_iff_iff]; simp only [decide_eq_true_eq, decide_eq_false_iff_not, List.length_map, iff_true, iff_false, Bool.false_eq_true] at *; omega), ⟨rfl, rfl, trivial⟩, rfl⟩
      )
    ·
      refine cB (fun hc39 => ?_) (fun hc39 => ?_)
      ·
        subst hb
        refine Sat.seq ?_
        refine rg hn ?_
        refine Sp pa ?_
        refine Sp pa ?_
        refine OpsS.emp 2 1 rfl ?_
        refine OpsS.nil (?_ : Sat _ _ _ _ _)
        refine Sat.ret (?_ : Vc.Fin _ _ _ _)
        exact fi (hq := ⟨by simp [chR, chE, hun, hc39]; rfl, rfl⟩)
      ·
        subst hb
        have hbig : ¬ (2000 < m.length ∨ (0 < m.length ∧ 16 < wid m)) := by simpa [big] using hc39
        have hw16 : wid m ≤ 16 := by
          by_cases h : 0 < m.length
          · omega
          · have : m = [] := List.eq_nil_of_length_eq_zero (by omega)
            subst this; simp [wid]
        have hrw : ∀ r ∈ m, r.length = wid m := by
          intro r hr'
          rw [unif, List.all_eq_true] at hun
          simpa using hun r hr'
        have h0 : chE m = 0 := by rw [chE, hun, hc39]; rfl
        have hcr : chR m = sizesR m (wid m) 0 (wid m + 1) := by rw [chR, if_neg (by rw [h0]; simp)]
        refine Sat.skip (?_ : Sat _ _ _ _ _)
        refine Sat.seq ?_
        refine rg hn ?_
        refine Sp pa ?_
        refine OpsS.nil (?_ : Sat _ _ _ _ _)
        refine Sat.seq ?_
        refine Sat.seq ?_
        refine rg hn ?_
        refine Sp pm ?_
        refine Sp (pL ty22) ?_
        refine Sp (pb (h := BinR.gtr)) ?_
        refine OpsS.nil (?_ : Sat _ _ _ _ _)
        refine Sat.to (α := Unit) (fun _ => ⟨[(0, eM m), (5, .int .i64 (wid m : Nat))], []⟩) (fun _ => True) ?_ (fun x hx => (?_ : Sat _ _ _ _ _))
        ·
          refine cD (fun hc42 => ?_) (fun hc42 => ?_)
          ·
            simp only [List.length_map] at hc42
            have hm0 : 0 < m.length := by omega
            have hw0 := wid_get hm0
            refine rg hn ?_
            refine Sp pm ?_
            refine Sp (piS ty22 sz31) ?_
            refine Sp (plR ty31 (hi := map_get (i := 0) (l := m) (f := eRow) (by omega))) ?_
            refine Sp (PureOp.to (pL ty31) (show V.int .i64 _ = V.int .i64 (wid m : Nat) from congrArg _ (by rw [List.length_map, hw0]))) ?_
            refine Sp pa ?_
            refine OpsS.nil (?_ : ∃ _, _)
            refine ⟨(), trivial, by repeat (first | exact trivial | refine And.intro (by rfl) ?_), rfl⟩
          ·
            simp only [List.length_map] at hc42
            have hm0 : m = [] := List.eq_nil_of_length_eq_zero (by omega)
            have hw0 : wid m = 0 := by rw [hm0]; rfl
            rw [hw0]
            refine Sat.skip (?_ : ∃ _, _)
            refine ⟨(), trivial, by repeat (first | exact trivial | refine And.intro (by rfl) ?_), rfl⟩
        ·
          refine Sat.seq ?_
          refine Sat.seq ?_
          refine rg hn ?_
          refine Sp pa ?_
          refine OpsS.nil (?_ : Sat _ _ _ _ _)
          refine Sat.block ?_
          refine Sat.loop (α := Nat) (fun k => ⟨[(0, eM m), (5, .int .i64 (wid m : Nat)), (6, .int .i64 (k : Nat))], []⟩) (fun k => k ≤ wid m + 1 ∧ chR m = sizesR m (wid m) k (wid m + 1 - k)) (fun k => wid m + 1 - k) (0) (⟨Nat.zero_le _, hcr⟩) (by repeat (first | exact trivial | refine And.intro (by rfl) ?_)) (rfl) (fun k hk => ?_)
          refine Sat.seq ?_
          refine Sat.seq ?_
          refine rg hn ?_
          refine Sp pm ?_
          refine Sp pm ?_
          refine Sp (pb (h := BinR.leq)) ?_
          refine OpsS.nil (?_ : Sat _ _ _ _ _)
          refine cD (fun hc49 => ?_) (fun hc49 => ?_)
          ·
            have hkw : k ≤ wid m := by omega
            refine Sat.skip (?_ : Sat _ _ _ _ _)
            refine Sat.seq ?_
            refine Sat.block ?_
            refine Sat.seq ?_
            refine rg hn ?_
            refine Sp pm ?_
            refine Sp pm ?_
            refine Sp pm ?_
            refine Sp (pc (r := eRes (chosenR m (wid m) k [] 0)) (ds := [eM m, .nilsl, .int .i64 ((0 : Nat) : Int), .int .i64 (k : Nat), .int .i64 (wid m : Nat)]) fb15 (first := []) (caps := []) (hok := Ok.cast (EmpB 1) EmpB.rep (xs := [eM m, .nilsl, .int .i64 ((0 : Nat) : Int), .int .i64 (k : Nat), .int .i64 (wid m : Nat)]) (ys := [eM m, eNats [], .int .i64 ((0 : Nat) : Int), .int .i64 (k : Nat), .int .i64 (wid m : Nat)]) ⟨.refl _, .base _ _ .mk, .refl _, .refl _, .refl _, rfl⟩ (chosen_ok _ m (wid m) hm hw16 hrw k [] 0 (by simp; omega) (by simp) (by omega)))) ?_
            refine Sp pm ?_
            refine Sp px ?_
            refine Sp px ?_
            refine Sp pa ?_
            refine Sp pa ?_
            refine OpsS.nil (?_ : Sat _ _ _ _ _)
            refine Sat.seq ?_
            refine rg hn ?_
            refine Sp pm ?_
            refine OpsS.nil (?_ : Sat _ _ _ _ _)
            refine cB (fun hc59 => ?_) (fun hc59 => ?_)
            ·
              have hres : chR m = (chosenR m (wid m) k [] 0).1 := by
                rw [hk.2, show wid m + 1 - k = (wid m + 1 - (k + 1)) + 1 by omega, sizesR, hc59]; rfl
              refine Sat.seq ?_
              refine rg hn ?_
              refine Sp pm ?_
              refine Sp pa ?_
              refine Sp pa ?_
              refine OpsS.nil (?_ : Sat _ _ _ _ _)
              refine Sat.ret (?_ : Vc.Fin _ _ _ _)
              exact fi (hq := ⟨by rw [hres, h0]; rfl, rfl⟩)
            ·
              refine Sat.skip (?_ : Sat _ _ _ _ _)
              refine rg hn ?_
              refine Sp pm ?_
              refine Sp (pb (h := (BinR.add (inI (by omega) (by omega))))) ?_
              refine Sp pa ?_
              refine OpsS.nil (?_ : ∃ _, _)
              refine ⟨k + 1, ⟨by omega, by
                rw [hk.2, show wid m + 1 - k = (wid m + 1 - (k + 1)) + 1 by omega, sizesR, hc59]; rfl⟩, by omega, by repeat (first | exact trivial | refine And.intro (by rfl) ?_), rfl⟩
          ·
            refine Sat.exit (?_ : Sat _ _ _ _ _)
            refine Sat.seq ?_
            refine rg hn ?_
            refine Sp pa ?_
            refine Sp pa ?_
            refine OpsS.emp 2 1 rfl ?_
            refine OpsS.nil (?_ : Sat _ _ _ _ _)
            refine Sat.ret (?_ : Vc.Fin _ _ _ _)
            exact fi (hq := ⟨by rw [hk.2, show wid m + 1 - k = 0 by omega, h0]; rfl, rfl⟩)
end Go.Proofs.YtkemjljbmdakbaaDoor
