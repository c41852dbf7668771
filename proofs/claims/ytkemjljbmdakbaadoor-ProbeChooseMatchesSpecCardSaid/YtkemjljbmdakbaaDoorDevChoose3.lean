import Derived.Test.YtkemjljbmdakbaaDoorFacts
import Derived.Test.YtkemjljbmdakbaaDoorDevChoose2
namespace Go.Proofs.YtkemjljbmdakbaaDoor
open Go Go.Vc
/-- The columns of a row's first k places, as a set. -/
def maskT (r : List Bool) : Nat → Nat
  | 0 => 0
  | k + 1 => if r.getD k false then maskT r k ||| 2 ^ k else maskT r k
def maskN (r : List Bool) : Nat := maskT r r.length
theorem maskT_lt (r : List Bool) : ∀ k, maskT r k < 2 ^ k
  | 0 => by simp [maskT]
  | k + 1 => by
    have h := maskT_lt r k
    have h2 : 2 ^ k < 2 ^ (k + 1) := Nat.pow_lt_pow_right (by decide) (by omega)
    unfold maskT
    split
    · exact Nat.or_lt_two_pow (by omega) h2
    · omega

/-- The number of columns. -/
def wid (m : List (List Bool)) : Nat := (m.headD []).length
def unif (m : List (List Bool)) : Bool := m.all fun r => decide (r.length = wid m)
def big (m : List (List Bool)) : Bool := decide (2000 < m.length ∨ (0 < m.length ∧ 16 < wid m))
def chE (m : List (List Bool)) : Nat := if unif m = false then 2 else if big m = true then 3 else 0
def covM (m : List (List Bool)) (s : Nat) : Bool := m.all fun r => decide (maskN r = 0 ∨ maskN r &&& s ≠ 0)
def stepB (m : List (List Bool)) (b i : Nat) : Nat := if bef i b && covM m i then i else b
def bestM (m : List (List Bool)) : Nat := (List.range (2 ^ wid m - 1)).foldl (stepB m) (2 ^ wid m - 1)
def chI (m : List (List Bool)) : List Nat := if chE m ≠ 0 ∨ m = [] then [] else bl (bestM m)

theorem mfind_enc : ∀ (l : List (Nat × Nat)) (k i : Nat), (k ∉ l.map (·.1) ∧ mfind (l.map enc) (.int .u64 (k : Int)) i = none) ∨ ∃ j x, l[j]? = some x ∧ x.1 = k ∧ mfind (l.map enc) (.int .u64 (k : Int)) i = some (i + j, .bool true)
  | [], k, i => .inl ⟨by simp, rfl⟩
  | y :: l, k, i => by
    by_cases h : k = y.1
    · refine .inr ⟨0, y, rfl, h.symm, ?_⟩
      simp [mfind, enc, V.keq, h]
    · have hne : ((k : Int) == (y.1 : Int)) = false := by simp; omega
      rcases mfind_enc l k (i + 1) with ⟨h1, h2⟩ | ⟨j, x, h1, h2, h3⟩
      · exact .inl ⟨by simp only [List.map_cons, List.mem_cons, not_or]; exact ⟨h, h1⟩, by simp only [List.map_cons, mfind, enc, V.keq, hne]; simpa using h2⟩
      · refine .inr ⟨j + 1, x, by simpa using h1, h2, ?_⟩
        simp only [List.map_cons, mfind, enc, V.keq, hne]
        rw [show i + (j + 1) = i + 1 + j by omega]
        simpa using h3

theorem mupd_enc (l : List (Nat × Nat)) (clock k : Nat) (hn : (l.map (·.1)).Nodup) : ∃ (l' : List (Nat × Nat)) (clock' : Nat), mupd (l.map enc) clock (.int .u64 (k : Int)) (.bool true) = (l'.map enc, clock') ∧ (l'.map (·.1)).Nodup ∧ ∀ j, j ∈ l'.map (·.1) ↔ j ∈ l.map (·.1) ∨ j = k := by
  rcases mfind_enc l k 0 with ⟨h1, h2⟩ | ⟨j, x, h1, h2, h3⟩
  · refine ⟨l ++ [(k, clock)], clock + 1, by simp [mupd, h2, enc], ?_, fun j => by simp⟩
    rw [List.map_append, List.nodup_append]
    refine ⟨hn, by simp, fun a ha b hb => ?_⟩
    simp only [List.map_cons, List.map_nil, List.mem_singleton] at hb
    subst hb
    intro e; subst e; exact h1 ha
  · refine ⟨l, clock, ?_, hn, fun i => ⟨.inl, fun h => h.elim id (fun h => ?_)⟩⟩
    · simp only [mupd, h3, Nat.zero_add]
      congr 1
      apply List.ext_getElem?
      intro i
      rw [List.getElem?_modify]
      by_cases hij : j = i
      · subst hij
        simp only [List.getElem?_map, h1, Option.map_some, if_true]
        simp [enc, h2]
      · simp only [hij, if_false]
        cases (l.map enc)[i]? <;> rfl
    · subst h
      exact List.mem_map.2 ⟨x, List.mem_of_getElem? h1, h2⟩

theorem mdel_enc (l : List (Nat × Nat)) (k : Nat) (hn : (l.map (·.1)).Nodup) : ∃ l' : List (Nat × Nat), mdel (l.map enc) (.int .u64 (k : Int)) = l'.map enc ∧ ∀ j, j ∈ l'.map (·.1) ↔ j ∈ l.map (·.1) ∧ j ≠ k := by
  rcases mfind_enc l k 0 with ⟨h1, h2⟩ | ⟨j, x, h1, h2, h3⟩
  · exact ⟨l, by simp [mdel, h2], fun j => ⟨fun h => ⟨h, fun e => h1 (e ▸ h)⟩, fun h => h.1⟩⟩
  · have he : ∀ (f : Nat × Nat → V × V × Nat), (l.map f).eraseIdx j = (l.eraseIdx j).map f := fun f => by
      apply List.ext_getElem?
      intro i
      rw [List.getElem?_eraseIdx, List.getElem?_map, List.getElem?_map, List.getElem?_map, List.getElem?_eraseIdx]
      split <;> rfl
    refine ⟨l.eraseIdx j, by simp only [mdel, h3, Nat.zero_add]; exact he enc, fun i => ?_⟩
    have hm : ∀ y, y ∈ l.eraseIdx j ↔ ∃ q, q ≠ j ∧ l[q]? = some y := fun y => List.mem_eraseIdx_iff_getElem?
    constructor
    · intro h
      obtain ⟨y, hy, rfl⟩ := List.mem_map.1 h
      obtain ⟨q, hq, hq2⟩ := (hm y).1 hy
      refine ⟨List.mem_map.2 ⟨y, List.mem_of_getElem? hq2, rfl⟩, fun e => hq ?_⟩
      have h4 : (l.map (·.1))[q]? = some k := by rw [List.getElem?_map, hq2]; simp [e]
      have h5 : (l.map (·.1))[j]? = some k := by rw [List.getElem?_map, h1]; simp [h2]
      obtain ⟨h6, h7⟩ := List.getElem?_eq_some_iff.1 h4
      obtain ⟨h8, h9⟩ := List.getElem?_eq_some_iff.1 h5
      exact (List.getElem_inj hn).1 (h7.trans h9.symm)
    · rintro ⟨h, hne⟩
      obtain ⟨y, hy, rfl⟩ := List.mem_map.1 h
      obtain ⟨q, hq⟩ := List.mem_iff_getElem?.1 hy
      refine List.mem_map.2 ⟨y, (hm y).2 ⟨q, fun e => hne ?_, hq⟩, rfl⟩
      subst e
      rw [h1] at hq; cases hq; exact h2

theorem cov_eq {m : List (List Bool)} {l : List (Nat × Nat)} (h : ∀ j, j ∈ l.map (·.1) ↔ (∃ r ∈ m, maskN r = j) ∧ j ≠ 0) (s : Nat) : cov l s = covM m s := by
  rw [Bool.eq_iff_iff, cov, covM, List.all_eq_true, List.all_eq_true]
  constructor
  · intro h1 r hr
    by_cases h0 : maskN r = 0
    · simp [h0]
    · obtain ⟨x, hx, hx2⟩ := List.mem_map.1 ((h (maskN r)).2 ⟨⟨r, hr, rfl⟩, h0⟩)
      have := h1 x hx
      rw [hx2] at this
      simp at this ⊢; exact .inr this
  · intro h1 x hx
    obtain ⟨⟨r, hr, hr2⟩, h0⟩ := (h x.1).1 (List.mem_map.2 ⟨x, hx, rfl⟩)
    have := h1 r hr
    rw [hr2] at this
    simp [h0] at this ⊢; exact this

theorem wid_get {m : List (List Bool)} (h : 0 < m.length) : m[0].length = wid m := by
  cases m with
  | nil => simp at h
  | cons r m => rfl

theorem shl1 {w : Nat} (h : w ≤ 16) : IntKind.u64.wrap (1 * 2 ^ (min (w : Int).toNat IntKind.u64.bits)) = ((2 ^ w : Nat) : Int) := by
  have h1 : 2 ^ w ≤ 2 ^ 16 := Nat.pow_le_pow_right (by decide) h
  have e : ((2 : Int) ^ w) = ((2 ^ w : Nat) : Int) := by push_cast; rfl
  rw [show (w : Int).toNat = w by simp, show IntKind.u64.bits = 64 from rfl, Nat.min_eq_left (by omega), Int.one_mul, e]
  generalize 2 ^ w = z at h1
  exact wrap_in (inU (by omega) (by omega))

theorem unif_of {m : List (List Bool)} (h : ∀ r ∈ m.take m.length, r.length = wid m) : unif m = true := by
  rw [List.take_length] at h
  rw [unif, List.all_eq_true]
  intro r hr; simpa using h r hr

theorem mem_take_succ {α : Type} {l : List α} {i : Nat} (h : i < l.length) (x : α) : x ∈ l.take (i + 1) ↔ x ∈ l.take i ∨ x = l[i] := by
  rw [List.take_succ_eq_append_getElem h, List.mem_append, List.mem_singleton]

theorem foldl_succ {α : Type} (f : α → Nat → α) (a : α) (n : Nat) : (List.range (n + 1)).foldl f a = f ((List.range n).foldl f a) n := by
  rw [List.range_succ, List.foldl_append]; rfl

theorem choose_ok (G : List (Nat × V)) (hG : G.lookup 1 = some gD64) (m : List (List Bool)) (hm : m.length ≤ 9223372036854775807) (hr : ∀ r ∈ m, r.length ≤ 9223372036854775807) : OkP Tryd.prog G 4 [eM m] (.tuple [eNats (chI m), .int .i64 (chE m : Nat)]) := by
  refine Ok.of_sat (c := _) ⟨Tryd.func4, by kernel_rfl, rfl⟩ (n := 94) rfl (by simp) rfl fun C hG hn => ?_
  subst hG
  refine Sat.seq ?_
  refine rg hn ?_
  refine Sp pa ?_
  refine Sp pa ?_
  refine OpsS.nil (?_ : Sat _ _ _ _ _)
  refine Sat.seq ?_
  refine Sat.seq ?_
  refine rg hn ?_
  refine Sp pm ?_
  first | refine Sp (pL ty22) ?_ | refine Sp (pLO 0 ty22) ?_ | refine Sp (pLO 1 ty22) ?_
  refine Sp pm ?_
  refine OpsS.nil (?_ : Sat _ _ _ _ _)
  refine Sat.block ?_
  refine Sat.loop (α := Nat) (fun i => ⟨[(0, eM m), (15, eM m), (16, .int .i64 ((m.map eRow).length : Nat)), (17, .int .i64 (i : Nat))], []⟩) (fun i => i ≤ m.length ∧ ∀ r ∈ m.take i, r.length = wid m) (fun i => m.length - i) (0) (⟨Nat.zero_le _, by simp⟩) (by repeat (first | exact trivial | refine And.intro (by rfl) ?_)) (rfl) (fun i hi => ?_)
  refine Sat.seq ?_
  refine rg hn ?_
  refine Sp (pb (h := BinR.lss)) ?_
  refine OpsS.nil (?_ : Sat _ _ _ _ _)
  refine Sat.seq ?_
  refine cD (fun hc18 => ?_) (fun hc18 => ?_)
  ·
    simp only [List.length_map] at hc18
    have him : i < m.length := by omega
    have hw0 := wid_get (m := m) (by omega)
    refine Sat.skip (?_ : Sat _ _ _ _ _)
    refine Sat.seq ?_
    refine Sat.block ?_
    refine Sat.seq ?_
    refine rg hn ?_
    first | refine Sp (piS ty22 sz31) ?_ | refine Sp (piO 0 ty22 sz31) ?_ | refine Sp (piO 1 ty22 sz31) ?_
    first | refine Sp (plR ty31) ?_ | refine Sp (plO 0 ty31) ?_ | refine Sp (plO 1 ty31) ?_
    refine Sp pa ?_
    refine OpsS.nil (?_ : Sat _ _ _ _ _)
    refine Sat.seq ?_
    refine rg hn ?_
    refine Sp pm ?_
    first | refine Sp (pL ty31) ?_ | refine Sp (pLO 0 ty31) ?_ | refine Sp (pLO 1 ty31) ?_
    refine Sp pm ?_
    first | refine Sp (piS ty22 sz31) ?_ | refine Sp (piO 0 ty22 sz31) ?_ | refine Sp (piO 1 ty22 sz31) ?_
    refine Sp (plR ty31 (hi := map_get (i := 0) (l := m) (f := eRow) (by omega))) ?_
    first | refine Sp (pL ty31) ?_ | refine Sp (pLO 0 ty31) ?_ | refine Sp (pLO 1 ty31) ?_
    refine Sp (pb (h := BinR.neq)) ?_
    refine OpsS.nil (?_ : Sat _ _ _ _ _)
    refine cD (fun hc27 => ?_) (fun hc27 => ?_)
    ·
      simp only [List.length_map] at hc27
      have hun : unif m = false := by
        rw [unif, List.all_eq_false]
        exact ⟨m[i], List.getElem_mem him, by simp; omega⟩
      refine Sat.seq ?_
      refine rg hn ?_
      refine Sp pa ?_
      refine Sp pa ?_
      refine OpsS.emp 2 1 rfl ?_
      refine OpsS.nil (?_ : Sat _ _ _ _ _)
      refine Sat.ret (?_ : Vc.Fin _ _ _ _)
      exact fi (hq := ⟨by simp [chI, chE, hun]; rfl, rfl⟩)
    ·
      simp only [List.length_map] at hc27
      refine Sat.skip (?_ : Sat _ _ _ _ _)
      refine rg hn ?_
      refine Sp (pb (h := (BinR.add (inI (by omega) (by omega))))) ?_
      refine Sp pm ?_
      refine OpsS.nil (?_ : ∃ _, _)
      refine ⟨i + 1, ⟨by omega, fun r hr' => by
        rcases (mem_take_succ him r).1 hr' with h1 | h1
        · exact hi.2 r h1
        · rw [h1]; omega⟩, by omega, by repeat (first | exact trivial | refine And.intro (by rfl) ?_), rfl⟩
  ·
    simp only [List.length_map] at hc18
    obtain rfl : i = m.length := by omega
    have hun := unif_of hi.2
    have hw : 0 < m.length → m[0]!.length = wid m := fun h => by rw [getElem!_pos m 0 h]; exact wid_get h
    refine Sat.exit (?_ : Sat _ _ _ _ _)
    refine Sat.seq ?_
    refine Sat.seq ?_
    refine Sat.to (α := Bool) (fun b => ⟨[(0, eM m), (43, .bool b)], []⟩) (fun b => b = big m) ?_ (fun b hb => (?_ : Sat _ _ _ _ _))
    ·
      rcases hb31 : decide ((2000 : Int) < ((m.map eRow).length : Nat)) with _ | _
      all_goals rcases hb35 : decide ((0 : Int) < ((m.map eRow).length : Nat)) with _ | _
      all_goals try have h35 := of_decide_eq_true hb35
      all_goals try have h35' : 0 < m.length := by simp only [List.length_map] at h35; omega
      all_goals try have hw0 := wid_get h35'
      all_goals (
        refine rg hn ?_
        refine Sp pm ?_
        first | refine Sp (pL ty22) ?_ | refine Sp (pLO 0 ty22) ?_ | refine Sp (pLO 1 ty22) ?_
        refine Sp (pb (h := BinR.to BinR.gtr (congrArg V.bool hb31))) ?_
        refine Sp pm ?_
        first | refine Sk ?_ | refine Sp pm ?_
        first | refine Sk ?_ | refine Sp (pL ty22) ?_ | refine Sp (pLO 0 ty22) ?_ | refine Sp (pLO 1 ty22) ?_
        first | refine Sk ?_ | refine Sp (pb (h := BinR.to BinR.gtr (congrArg V.bool hb35))) ?_
        first | refine Sk ?_ | refine Sp pm ?_
        first | refine Sk ?_ | refine Sp pm ?_
        first | refine Sk ?_ | refine Sp (piS ty22 sz31) ?_ | refine Sp (piO 0 ty22 sz31) ?_ | refine Sp (piO 1 ty22 sz31) ?_
        first | refine Sk ?_ | refine Sp (plR ty31) ?_ | refine Sp (plO 0 ty31) ?_ | refine Sp (plO 1 ty31) ?_
        first | refine Sk ?_ | refine Sp (pL ty31) ?_ | refine Sp (pLO 0 ty31) ?_ | refine Sp (pLO 1 ty31) ?_
        first | refine Sk ?_ | refine Sp (pb (h := BinR.gtr)) ?_
        first | refine Sk ?_ | refine Sp pk ?_
        refine Sp pk ?_
        refine OpsS.nil (?_ : ∃ _, _)
        refine ⟨_, (by rw [big, eq_comm, Bool.eq_iff_iff]; simp only [decide_eq_true_eq, decide_eq_false_iff_not, List.length_map, iff_true, iff_false, Bool.false_eq_true] at *; omega), ⟨rfl, rfl, trivial⟩, rfl⟩
      )
    ·
      refine cB (fun hc43 => ?_) (fun hc43 => ?_)
      ·
        subst hb
        refine Sat.seq ?_
        refine rg hn ?_
        refine Sp pa ?_
        refine Sp pa ?_
        refine OpsS.emp 2 1 rfl ?_
        refine OpsS.nil (?_ : Sat _ _ _ _ _)
        refine Sat.ret (?_ : Vc.Fin _ _ _ _)
        exact fi (hq := ⟨by simp [chI, chE, hun, hc43]; rfl, rfl⟩)
      ·
        subst hb
        refine Sat.skip (?_ : Sat _ _ _ _ _)
        refine Sat.seq ?_
        refine Sat.seq ?_
        refine rg hn ?_
        refine Sp pm ?_
        first | refine Sp (pL ty22) ?_ | refine Sp (pLO 0 ty22) ?_ | refine Sp (pLO 1 ty22) ?_
        refine Sp (pb (h := BinR.eql)) ?_
        refine OpsS.nil (?_ : Sat _ _ _ _ _)
        refine cD (fun hc46 => ?_) (fun hc46 => ?_)
        ·
          simp only [List.length_map] at hc46
          have hm0 : m = [] := List.eq_nil_of_length_eq_zero (by omega)
          refine Sat.seq ?_
          refine rg hn ?_
          refine Sp pa ?_
          refine Sp pa ?_
          refine OpsS.emp 2 1 rfl ?_
          refine OpsS.nil (?_ : Sat _ _ _ _ _)
          refine Sat.ret (?_ : Vc.Fin _ _ _ _)
          exact fi (hq := ⟨by subst hm0; simp [chI, chE, hun, hc43]; rfl, rfl⟩)
        ·
          simp only [List.length_map] at hc46
          have hm0 : 0 < m.length := by omega
          have hw0 := wid_get hm0
          have hmne : m ≠ [] := fun e => by rw [e] at hm0; simp at hm0
          have hbig : ¬ (2000 < m.length ∨ (0 < m.length ∧ 16 < wid m)) := by simpa [big] using hc43
          have hw16 : wid m ≤ 16 := by omega
          have hrw : ∀ r ∈ m, r.length = wid m := by
            intro r hr'
            rw [unif, List.all_eq_true] at hun
            simpa using hun r hr'
          refine Sat.skip (?_ : Sat _ _ _ _ _)
          refine Sat.seq ?_
          refine rg hn ?_
          refine Smm (fun q1 => ?_)
          refine Sal ze32 (fun q2 => ?_)
          first | refine Se (est 0 ty32) ?_ | refine Se (est 1 ty32) ?_
          refine OpsS.nil (?_ : Sat _ _ _ _ _)
          refine Sat.seq ?_
          refine Sat.seq ?_
          refine rg hn ?_
          refine Sp pm ?_
          first | refine Sp (pL ty22) ?_ | refine Sp (pLO 0 ty22) ?_ | refine Sp (pLO 1 ty22) ?_
          refine Sp pm ?_
          refine OpsS.nil (?_ : Sat _ _ _ _ _)
          refine Sat.block ?_
          refine Sat.loop (α := Nat × List (Nat × Nat) × Nat) (fun p => ⟨[(0, eM m), (6, .own q2 0 0 0), (48, eM m), (49, .int .i64 ((m.map eRow).length : Nat)), (50, .int .i64 (p.1 : Nat))], [(q1, .map 0 (p.2.1.map enc) p.2.2), (q2, .row 0 1 32 [.omap q1 0])]⟩) (fun p => p.1 ≤ m.length ∧ (p.2.1.map (·.1)).Nodup ∧ ∀ j, j ∈ p.2.1.map (·.1) ↔ ∃ r ∈ m.take p.1, maskN r = j) (fun p => m.length - p.1) ((0, [], 0)) (⟨Nat.zero_le _, by simp, by simp⟩) (by repeat (first | exact trivial | refine And.intro (by rfl) ?_)) (rfl) (fun p hp => ?_)
          obtain ⟨i, l, clock⟩ := p
          obtain ⟨hp1, hp2, hp3⟩ := hp
          dsimp only at hp1 hp2 hp3 ⊢
          refine Sat.seq ?_
          refine rg hn ?_
          refine Sp (pb (h := BinR.lss)) ?_
          refine OpsS.nil (?_ : Sat _ _ _ _ _)
          refine Sat.seq ?_
          refine cD (fun hc51 => ?_) (fun hc51 => ?_)
          ·
            simp only [List.length_map] at hc51
            have him : i < m.length := by omega
            have hri := hrw m[i] (List.getElem_mem him)
            refine Sat.skip (?_ : Sat _ _ _ _ _)
            refine Sat.seq ?_
            refine Sat.block ?_
            refine Sat.seq ?_
            refine rg hn ?_
            first | refine Sp (piS ty22 sz31) ?_ | refine Sp (piO 0 ty22 sz31) ?_ | refine Sp (piO 1 ty22 sz31) ?_
            first | refine Sp (plR ty31) ?_ | refine Sp (plO 0 ty31) ?_ | refine Sp (plO 1 ty31) ?_
            refine Sp pa ?_
            refine OpsS.nil (?_ : Sat _ _ _ _ _)
            refine Sat.seq ?_
            refine rg hn ?_
            refine Sp pa ?_
            refine OpsS.nil (?_ : Sat _ _ _ _ _)
            refine Sat.seq ?_
            refine Sat.seq ?_
            refine rg hn ?_
            refine Sp pm ?_
            first | refine Sp (pL ty31) ?_ | refine Sp (pLO 0 ty31) ?_ | refine Sp (pLO 1 ty31) ?_
            refine Sp pm ?_
            refine OpsS.nil (?_ : Sat _ _ _ _ _)
            refine Sat.block ?_
            refine Sat.loop (α := Nat) (fun j => ⟨[(0, eM m), (6, .own q2 0 0 0), (48, eM m), (49, .int .i64 ((m.map eRow).length : Nat)), (50, .int .i64 (i : Nat)), (9, .int .u64 (maskT m[i] j : Nat)), (54, eRow m[i]), (55, .int .i64 ((m[i].map V.bool).length : Nat)), (56, .int .i64 (j : Nat))], [(q1, .map 0 (l.map enc) clock), (q2, .row 0 1 32 [.omap q1 0])]⟩) (fun j => j ≤ m[i].length) (fun j => m[i].length - j) (0) (by first | trivial | omega | (simp; done)) (by repeat (first | exact trivial | refine And.intro (by rfl) ?_)) (rfl) (fun j hj => ?_)
            refine Sat.seq ?_
            refine rg hn ?_
            refine Sp (pb (h := BinR.lss)) ?_
            refine OpsS.nil (?_ : Sat _ _ _ _ _)
            refine Sat.seq ?_
            refine cD (fun hc57 => ?_) (fun hc57 => ?_)
            ·
              simp only [List.length_map] at hc57
              have hjm : j < m[i].length := by omega
              have hgd : m[i].getD j false = m[i][j] := by simp [hjm]
              have hlt := maskT_lt m[i] j
              have hp64 : 2 ^ j < 2 ^ 64 := Nat.pow_lt_pow_right (by decide) (by omega)
              refine Sat.skip (?_ : Sat _ _ _ _ _)
              refine Sat.seq ?_
              refine Sat.block ?_
              refine Sat.seq ?_
              refine rg hn ?_
              refine Sp pm ?_
              first | refine Sp (piS ty31 sz4) ?_ | refine Sp (piO 0 ty31 sz4) ?_ | refine Sp (piO 1 ty31 sz4) ?_
              first | refine Sp (plR ty4) ?_ | refine Sp (plO 0 ty4) ?_ | refine Sp (plO 1 ty4) ?_
              refine Sp pa ?_
              refine Sp pa ?_
              refine OpsS.nil (?_ : Sat _ _ _ _ _)
              refine Sat.seq ?_
              refine rg hn ?_
              refine Sp pm ?_
              refine OpsS.nil (?_ : Sat _ _ _ _ _)
              refine Sat.to (α := Unit) (fun _ => ⟨[(0, eM m), (6, .own q2 0 0 0), (48, eM m), (49, .int .i64 ((m.map eRow).length : Nat)), (50, .int .i64 (i : Nat)), (9, .int .u64 (maskT m[i] (j + 1) : Nat)), (54, eRow m[i]), (55, .int .i64 ((m[i].map V.bool).length : Nat)), (56, .int .i64 (j : Nat))], [(q1, .map 0 (l.map enc) clock), (q2, .row 0 1 32 [.omap q1 0])]⟩) (fun _ => True) ?_ (fun x hx => (?_ : Sat _ _ _ _ _))
              ·
                refine cB (fun hc61 => ?_) (fun hc61 => ?_)
                ·
                  have hmt : maskT m[i] j ||| 2 ^ j = maskT m[i] (j + 1) := by rw [maskT, hgd, hc61]; rfl
                  refine rg hn ?_
                  refine Sp pm ?_
                  refine Sp pm ?_
                  refine Sp (pb (h := BinR.to (BinR.shl (by omega)) (congrArg _ (shl1 (w := j) (by omega))))) ?_
                  refine Sp (pb (h := BinR.to (nOr64 (a := maskT m[i] j) (b := 2 ^ j) (by omega) hp64) (congrArg (fun n : Nat => V.int .u64 (n : Int)) hmt))) ?_
                  refine Sp pa ?_
                  refine OpsS.nil (?_ : ∃ _, _)
                  refine ⟨(), trivial, by repeat (first | exact trivial | refine And.intro (by rfl) ?_), rfl⟩
                ·
                  have hmt : maskT m[i] j = maskT m[i] (j + 1) := by rw [maskT, hgd, hc61]; rfl
                  rw [hmt]
                  refine Sat.skip (?_ : ∃ _, _)
                  refine ⟨(), trivial, by repeat (first | exact trivial | refine And.intro (by rfl) ?_), rfl⟩
              ·
                refine rg hn ?_
                refine Sp (pb (h := (BinR.add (inI (by omega) (by omega))))) ?_
                refine Sp pm ?_
                refine OpsS.nil (?_ : ∃ _, _)
                refine ⟨j + 1, by omega, by omega, by repeat (first | exact trivial | refine And.intro (by rfl) ?_), rfl⟩
            ·
              simp only [List.length_map] at hc57
              obtain rfl : j = m[i].length := by omega
              obtain ⟨l', clock', hmu1, hmu2, hmu3⟩ := mupd_enc l clock (maskN m[i]) hp2
              refine Sat.exit (?_ : Sat _ _ _ _ _)
              refine rg hn ?_
              first | refine Sp (plR ty32) ?_ | refine Sp (plO 0 ty32) ?_ | refine Sp (plO 1 ty32) ?_
              refine Sp pm ?_
              refine Se (emu 0 ty32 ty33 (dk := .int .u64 (maskN m[i] : Nat)) (dv := .bool true) (enc_keys l)) ?_
              refine OpsS.nil (?_ : Sat _ _ _ _ _)
              refine rg hn ?_
              refine Sp (pb (h := (BinR.add (inI (by omega) (by omega))))) ?_
              refine Sp pm ?_
              refine OpsS.nil (?_ : ∃ _, _)
              refine ⟨(i + 1, l', clock'), ⟨by omega, hmu2, fun j => by
                dsimp only
                rw [hmu3, hp3]
                constructor
                · rintro (⟨r, h1, h2⟩ | h1)
                  · exact ⟨r, (mem_take_succ him r).2 (.inl h1), h2⟩
                  · exact ⟨m[i], (mem_take_succ him _).2 (.inr rfl), h1.symm⟩
                · rintro ⟨r, h1, h2⟩
                  rcases (mem_take_succ him r).1 h1 with h3 | h3
                  · exact .inl ⟨r, h3, h2⟩
                  · exact .inr (by rw [← h2, h3])⟩, by omega, by repeat (first | exact trivial | refine And.intro (by rfl) ?_), (by show [(q1, AObj.map 0 _ _), _] = [(q1, AObj.map 0 _ _), _]; rw [hmu1])⟩
          ·
            simp only [List.length_map] at hc51
            obtain rfl : i = m.length := by omega
            rw [List.take_length] at hp3
            obtain ⟨l', hd1, hd2⟩ := mdel_enc l 0 hp2
            refine Sat.exit (?_ : Sat _ _ _ _ _)
            refine Sat.seq ?_
            refine rg hn ?_
            first | refine Sp (plR ty32) ?_ | refine Sp (plO 0 ty32) ?_ | refine Sp (plO 1 ty32) ?_
            refine Se (emd 0 ty32 ty33 (dk := .int .u64 ((0 : Nat) : Int)) (enc_keys l)) ?_
            refine OpsS.nil (?_ : Sat _ _ _ _ _)
            refine Sat.seq ?_
            refine Sat.mapNodup (k := 0) (id := q1) (ver := 0) (clock := clock) (ents := l'.map enc) (by rw [← hd1]; rfl) fun hbn => ?_
            refine Sat.freezeMap (k := 0) (id := q1) (ver := 0) (ents := l'.map enc) (clock := clock) (loc' := [(0, eM m), (6, .own q2 0 0 0)]) (obj' := [(q2, .row 0 1 32 [.imap (l'.map enc) clock])]) (by rw [← hd1]; rfl) ⟨⟨_, rfl, .refl _⟩, ⟨_, rfl, .refl _⟩, trivial⟩ (.row1 Frz.omap .nil) ?_
            refine Sat.freeze (k := 0) (loc' := [(0, eM m), (6, .ref 1 [.imap (l'.map enc) clock] 0 0)]) (obj' := []) rfl ⟨⟨_, rfl, .refl _⟩, ⟨_, rfl, Frz.own 0 0 (by simp)⟩, trivial⟩ .nil ?_
            have hbn' : (l'.map (·.2)).Nodup := by
              have he : (l'.map enc).map (·.2.2) = l'.map (·.2) := by rw [List.map_map]; rfl
              rw [← he]; exact hbn
            have hkeys : ∀ j, j ∈ l'.map (·.1) ↔ (∃ r ∈ m, maskN r = j) ∧ j ≠ 0 := fun j => by rw [hd2, hp3]
            have hkl : ∀ x ∈ l', x.1 < 65536 := by
              intro x hx
              obtain ⟨⟨r, hr1, hr2⟩, _⟩ := (hkeys x.1).1 (List.mem_map.2 ⟨x, hx, rfl⟩)
              have h1 := maskT_lt r r.length
              have h2 : 2 ^ r.length ≤ 2 ^ 16 := Nat.pow_le_pow_right (by decide) (by rw [hrw r hr1]; exact hw16)
              rw [← hr2]
              show maskT r r.length < 65536
              omega
            have hp16 : 2 ^ wid m ≤ 2 ^ 16 := Nat.pow_le_pow_right (by decide) hw16
            have hp1' : 0 < 2 ^ wid m := Nat.two_pow_pos _
            refine rg hn ?_
            refine Sp pmf ?_
            refine Sp pa ?_
            refine OpsS.nil (?_ : Sat _ _ _ _ _)
            refine Sat.seq ?_
            refine rg hn ?_
            refine Sp pm ?_
            first | refine Sp (piS ty22 sz31) ?_ | refine Sp (piO 0 ty22 sz31) ?_ | refine Sp (piO 1 ty22 sz31) ?_
            first | refine Sp (plR ty31) ?_ | refine Sp (plO 0 ty31) ?_ | refine Sp (plO 1 ty31) ?_
            first | refine Sp (pL ty31) ?_ | refine Sp (pLO 0 ty31) ?_ | refine Sp (pLO 1 ty31) ?_
            refine Sp (pb (h := BinR.to (BinR.shl (by omega)) (show V.int .u64 _ = V.int .u64 ((2 ^ wid m : Nat) : Int) from congrArg _ (by rw [List.length_map, hw0]; exact shl1 hw16)))) ?_
            refine Sp (pb (h := BinR.to (BinR.sub (inU (by omega) (by omega))) (congrArg (V.int .u64) (show ((2 ^ wid m : Nat) : Int) - 1 = ((2 ^ wid m - 1 : Nat) : Int) by omega)))) ?_
            refine Sp pa ?_
            refine OpsS.nil (?_ : Sat _ _ _ _ _)
            refine Sat.seq ?_
            refine Sat.seq ?_
            refine rg hn ?_
            refine Sp pm ?_
            refine Sp pm ?_
            refine OpsS.nil (?_ : Sat _ _ _ _ _)
            refine Sat.block ?_
            refine Sat.loop (α := Nat × Nat) (fun p => ⟨[(0, eM m), (12, .func (.func 9) [] [.ref 1 [.imap (l'.map enc) clock] 0 0]), (13, .int .u64 (p.2 : Nat)), (78, .int .u64 ((2 ^ wid m - 1 : Nat) : Int)), (79, .int .u64 (p.1 : Nat))], []⟩) (fun p => p.1 ≤ 2 ^ wid m - 1 ∧ p.2 < 65536 ∧ p.2 = (List.range p.1).foldl (stepB m) (2 ^ wid m - 1)) (fun p => 2 ^ wid m - 1 - p.1) ((0, 2 ^ wid m - 1)) (⟨Nat.zero_le _, by omega, rfl⟩) (by repeat (first | exact trivial | refine And.intro (by rfl) ?_)) (rfl) (fun p hp => ?_)
            obtain ⟨i, b⟩ := p
            obtain ⟨hp1, hp2, hpf⟩ := hp
            dsimp only at hp1 hp2 hpf ⊢
            refine Sat.seq ?_
            refine rg hn ?_
            refine Sp (pb (h := BinR.lss)) ?_
            refine OpsS.nil (?_ : Sat _ _ _ _ _)
            refine Sat.seq ?_
            refine cD (fun hc80 => ?_) (fun hc80 => ?_)
            ·
              have hi80 : i < 2 ^ wid m - 1 := by omega
              refine Sat.skip (?_ : Sat _ _ _ _ _)
              refine Sat.seq ?_
              refine Sat.block ?_
              refine Sat.seq ?_
              refine rg hn ?_
              refine Sp pm ?_
              refine Sp pa ?_
              refine OpsS.nil (?_ : Sat _ _ _ _ _)
              refine Sat.seq ?_
              refine Sat.to (α := Unit) (fun _ => ⟨[(0, eM m), (12, .func (.func 9) [] [.ref 1 [.imap (l'.map enc) clock] 0 0]), (13, .int .u64 (b : Nat)), (78, .int .u64 ((2 ^ wid m - 1 : Nat) : Int)), (79, .int .u64 (i : Nat)), (14, .int .u64 (i : Nat)), (89, .bool (bef i b && covM m i))], []⟩) (fun _ => True) ?_ (fun x hx => (?_ : Sat _ _ _ _ _))
              ·
                rcases hbb : bef i b with _ | _
                all_goals have hbo : OkP Tryd.prog C.G 10 [.int .u64 (i : Int), .int .u64 (b : Int)] (.bool _) := hbb ▸ before_ok _ hG i b (by omega) hp2
                all_goals have hco : OkP Tryd.prog C.G 9 [.int .u64 (i : Int), .ref 1 [.imap (l'.map enc) clock] 0 0] (.bool (covM m i)) := cov_eq hkeys i ▸ covers_ok _ l' clock i hkl (by omega) hbn'
                all_goals (
                  refine rg hn ?_
                  refine Sp pm ?_
                  refine Sp pm ?_
                  refine Sp (pc fb10 (hok := hbo)) ?_
                  refine Sp pm ?_
                  first | refine Sk ?_ | refine Sp pm ?_
                  first | refine Sk ?_ | refine Sp pm ?_
                  first | refine Sk ?_ | refine Sp (pc fb9 (hok := hco)) ?_
                  refine Sp pk ?_
                  refine OpsS.nil (?_ : ∃ _, _)
                  refine ⟨(), trivial, by repeat (first | exact trivial | refine And.intro (by rfl) ?_), rfl⟩
                )
              ·
                refine Sat.to (α := Unit) (fun _ => ⟨[(0, eM m), (12, .func (.func 9) [] [.ref 1 [.imap (l'.map enc) clock] 0 0]), (13, .int .u64 (stepB m b i : Nat)), (78, .int .u64 ((2 ^ wid m - 1 : Nat) : Int)), (79, .int .u64 (i : Nat))], []⟩) (fun _ => True) ?_ (fun x hx => (?_ : Sat _ _ _ _ _))
                ·
                  refine cB (fun hc89 => ?_) (fun hc89 => ?_)
                  ·
                    have hst : stepB m b i = i := by rw [stepB, hc89]; rfl
                    rw [hst]
                    refine rg hn ?_
                    refine Sp pm ?_
                    refine Sp pa ?_
                    refine OpsS.nil (?_ : ∃ _, _)
                    refine ⟨(), trivial, by repeat (first | exact trivial | refine And.intro (by rfl) ?_), rfl⟩
                  ·
                    have hst : stepB m b i = b := by rw [stepB, hc89]; rfl
                    rw [hst]
                    refine Sat.skip (?_ : ∃ _, _)
                    refine ⟨(), trivial, by repeat (first | exact trivial | refine And.intro (by rfl) ?_), rfl⟩
                ·
                  refine rg hn ?_
                  refine Sp (pb (h := BinR.add (inU (by omega) (by omega)))) ?_
                  refine Sp pm ?_
                  refine OpsS.nil (?_ : ∃ _, _)
                  refine ⟨(i + 1, stepB m b i), ⟨by omega, by rw [stepB]; split <;> omega, by show stepB m b i = _; rw [foldl_succ, ← hpf]⟩, by omega, by repeat (first | exact trivial | refine And.intro (by rfl) ?_), rfl⟩
            ·
              obtain rfl : i = 2 ^ wid m - 1 := by omega
              refine Sat.exit (?_ : Sat _ _ _ _ _)
              refine Sat.seq ?_
              refine rg hn ?_
              refine Sp pm ?_
              refine Sp (pc fb11 (hok := list_ok _ hG b hp2)) ?_
              refine Sp pa ?_
              refine Sp pa ?_
              refine OpsS.nil (?_ : Sat _ _ _ _ _)
              refine Sat.ret (?_ : Vc.Fin _ _ _ _)
              exact fi (hq := ⟨by
                have h0 : chE m = 0 := by rw [chE, hun, hc43]; rfl
                rw [h0, show chI m = bl b by rw [chI, if_neg (by rw [h0]; simp [hmne]), bestM, ← hpf]]
                rfl, rfl⟩)
end Go.Proofs.YtkemjljbmdakbaaDoor
