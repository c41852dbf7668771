import Derived.Test.YtkemjljbmdakbaaDoorFacts
import Derived.Test.YtkemjljbmdakbaaDoorDevChoose4
namespace Go.Proofs.YtkemjljbmdakbaaDoor
open Go Go.Vc
/-! ### The plain law: both choices are the least list -/

theorem cmpL_refl : ∀ l : List Nat, cmpL l l = 0
  | [] => rfl
  | a :: l => by simp [cmpL, cmpL_refl l]

theorem cmpL_cons (a b : Nat) (l m : List Nat) : cmpL (a :: l) (b :: m) = if a < b then -1 else if b < a then 1 else cmpL l m := rfl

theorem cmpL_antisymm : ∀ (l m : List Nat), l.length = m.length → cmpL l m ≤ 0 → cmpL m l ≤ 0 → l = m
  | [], [], _, _, _ => rfl
  | [], _ :: _, h, _, _ => by simp at h
  | _ :: _, [], h, _, _ => by simp at h
  | a :: l, b :: m, h, h1, h2 => by
    rw [cmpL_cons] at h1 h2
    have hab : a = b := by
      split at h1
      · rename_i hab
        rw [if_neg (by omega), if_pos hab] at h2
        omega
      · split at h1
        · omega
        · omega
    subst hab
    simp only [Nat.lt_irrefl, if_false] at h1 h2
    rw [cmpL_antisymm l m (by simpa using h) h1 h2]

theorem cmpL_trans : ∀ (l m n : List Nat), l.length = m.length → m.length = n.length → cmpL l m ≤ 0 → cmpL m n ≤ 0 → cmpL l n ≤ 0
  | [], [], [], _, _, _, _ => by decide
  | [], _ :: _, _, h, _, _, _ => by simp at h
  | _ :: _, [], _, h, _, _, _ => by simp at h
  | _, [], _ :: _, _, h, _, _ => by simp at h
  | _, _ :: _, [], _, h, _, _ => by simp at h
  | a :: l, b :: m, c :: n, h, h', h1, h2 => by
    rw [cmpL_cons] at h1 h2 ⊢
    by_cases hab : a < b
    · by_cases hbc : b < c
      · rw [if_pos (by omega)]; decide
      · rw [if_neg hbc] at h2
        split at h2
        · omega
        · rw [if_pos (by omega)]; decide
    · rw [if_neg hab] at h1
      split at h1
      · omega
      · by_cases hbc : b < c
        · rw [if_pos (by omega)]; decide
        · rw [if_neg hbc] at h2
          split at h2
          · omega
          · rw [if_neg (by omega), if_neg (by omega)]
            exact cmpL_trans l m n (by simpa using h) (by simpa using h') h1 h2

theorem cmpL_total : ∀ (l m : List Nat), l.length = m.length → ¬ cmpL l m < 0 → cmpL m l ≤ 0
  | [], [], _, _ => by decide
  | [], _ :: _, h, _ => by simp at h
  | _ :: _, [], h, _ => by simp at h
  | a :: l, b :: m, h, h1 => by
    rw [cmpL_cons] at h1 ⊢
    by_cases hab : a < b
    · rw [if_pos hab] at h1; omega
    · rw [if_neg hab] at h1
      by_cases hba : b < a
      · rw [if_pos hba]; decide
      · rw [if_neg hba] at h1
        rw [if_neg hba, if_neg hab]
        exact cmpL_total l m (by simpa using h) h1

/-- Shorter, or as long and not behind. -/
def leL (l m : List Nat) : Prop := l.length < m.length ∨ (l.length = m.length ∧ cmpL l m ≤ 0)
theorem leL_trans {l m n : List Nat} (h1 : leL l m) (h2 : leL m n) : leL l n := by
  rcases h1 with h1 | ⟨h1, h1'⟩ <;> rcases h2 with h2 | ⟨h2, h2'⟩
  · exact .inl (by omega)
  · exact .inl (by omega)
  · exact .inl (by omega)
  · exact .inr ⟨by omega, cmpL_trans l m n h1 h2 h1' h2'⟩
theorem leL_antisymm {l m : List Nat} (h1 : leL l m) (h2 : leL m l) : l = m := by
  rcases h1 with h1 | ⟨h1, h1'⟩ <;> rcases h2 with h2 | ⟨h2, h2'⟩
  · omega
  · omega
  · omega
  · exact cmpL_antisymm l m h1 h1' h2'
theorem leL_refl (l : List Nat) : leL l l := .inr ⟨rfl, by rw [cmpL_refl]; decide⟩
theorem bef_true {x y : Nat} (h : bef x y = true) : leL (bl x) (bl y) := by
  unfold bef at h
  split at h
  · exact .inl (by simpa using h)
  · rename_i hne
    have := of_decide_eq_true h
    exact .inr ⟨by omega, by omega⟩
theorem bef_false {x y : Nat} (h : bef x y = false) : leL (bl y) (bl x) := by
  unfold bef at h
  split at h
  · rename_i hne
    have := of_decide_eq_false h
    exact .inl (by omega)
  · rename_i hne
    have := of_decide_eq_false h
    exact .inr ⟨by omega, cmpL_total _ _ (by omega) this⟩

/-- Ascending columns below w. -/
def asc (w : Nat) (l : List Nat) : Prop := l.Pairwise (· < ·) ∧ ∀ c ∈ l, c < w

structure Least (m : List (List Bool)) (w : Nat) (l : List Nat) : Prop where
  up : asc w l
  en : enough m l = true
  le : ∀ l', asc w l' → enough m l' = true → leL l l'

theorem Least.uniq {m : List (List Bool)} {w : Nat} {l l' : List Nat} (h : Least m w l) (h' : Least m w l') : l = l' := leL_antisymm (h.le l' h'.up h'.en) (h'.le l h.up h.en)

theorem sorted_ext : ∀ (l m : List Nat), l.Pairwise (· < ·) → m.Pairwise (· < ·) → (∀ x, x ∈ l ↔ x ∈ m) → l = m
  | [], [], _, _, _ => rfl
  | [], b :: m, _, _, h => by have := (h b).2 (by simp); simp at this
  | a :: l, [], _, _, h => by have := (h a).1 (by simp); simp at this
  | a :: l, b :: m, h1, h2, h => by
    rw [List.pairwise_cons] at h1 h2
    have hab : a = b := by
      rcases List.mem_cons.1 ((h a).1 (by simp)) with h3 | h3
      · exact h3
      · rcases List.mem_cons.1 ((h b).2 (by simp)) with h4 | h4
        · exact h4.symm
        · have := h2.1 a h3; have := h1.1 b h4; omega
    subst hab
    rw [sorted_ext l m h1.2 h2.2 fun x => ⟨fun hx => ?_, fun hx => ?_⟩]
    · rcases List.mem_cons.1 ((h x).1 (by simp [hx])) with h3 | h3
      · have := h1.1 x hx; omega
      · exact h3
    · rcases List.mem_cons.1 ((h x).2 (by simp [hx])) with h3 | h3
      · have := h2.1 x hx; omega
      · exact h3

theorem mem_bl (x c : Nat) : c ∈ bl x ↔ c < 16 ∧ x.testBit c = true := by simp [bl]
theorem bl_sorted (x : Nat) : (bl x).Pairwise (· < ·) := List.Pairwise.filter _ List.pairwise_lt_range

/-- The set of a list. -/
def msk : List Nat → Nat
  | [] => 0
  | c :: l => msk l ||| 2 ^ c
theorem msk_bit : ∀ (l : List Nat) (j : Nat), (msk l).testBit j = decide (j ∈ l)
  | [], j => by simp [msk]
  | c :: l, j => by
    have h3 : (j = c) = (c = j) := propext eq_comm
    rw [msk, Nat.testBit_or, msk_bit l j, Nat.testBit_two_pow]
    by_cases h1 : j ∈ l <;> by_cases h2 : c = j <;> simp [List.mem_cons, h3, h1, h2]
theorem msk_bl {w : Nat} {l : List Nat} (hw : w ≤ 16) (h : asc w l) : bl (msk l) = l ∧ msk l < 2 ^ w := by
  refine ⟨sorted_ext _ _ (bl_sorted _) h.1 fun x => ?_, Nat.lt_pow_two_of_testBit _ fun i hi => ?_⟩
  · rw [mem_bl, msk_bit]
    simp
    intro hx; have := h.2 x hx; omega
  · rw [msk_bit]
    simp
    intro hx; have := h.2 i hx; omega

theorem maskT_bit (r : List Bool) : ∀ k j, (maskT r k).testBit j = (decide (j < k) && r.getD j false)
  | 0, j => by simp [maskT]
  | k + 1, j => by
    have ih := maskT_bit r k j
    unfold maskT
    split
    · rename_i hb
      rw [Nat.testBit_or, ih, Nat.testBit_two_pow, Bool.eq_iff_iff]
      simp only [Bool.or_eq_true, Bool.and_eq_true, decide_eq_true_eq]
      constructor
      · rintro (⟨h1, h2⟩ | h1)
        · exact ⟨by omega, h2⟩
        · subst h1; exact ⟨by omega, hb⟩
      · rintro ⟨h1, h2⟩
        by_cases hjk : k = j
        · exact .inr hjk
        · exact .inl ⟨by omega, h2⟩
    · rename_i hb
      rw [ih, Bool.eq_iff_iff]
      simp only [Bool.and_eq_true, decide_eq_true_eq]
      constructor
      · rintro ⟨h1, h2⟩; exact ⟨by omega, h2⟩
      · rintro ⟨h1, h2⟩
        by_cases hjk : j = k
        · subst hjk; exact absurd h2 hb
        · exact ⟨by omega, h2⟩

theorem ne_zero_bit {x : Nat} : x ≠ 0 ↔ ∃ j, x.testBit j = true := by
  constructor
  · intro h
    apply Classical.byContradiction
    intro hn
    apply h
    apply Nat.eq_of_testBit_eq
    intro j
    rw [Nat.zero_testBit]
    cases hj : x.testBit j with
    | false => rfl
    | true => exact absurd ⟨j, hj⟩ hn
  · rintro ⟨j, hj⟩ h
    subst h
    simp at hj

theorem maskN_bit (r : List Bool) (j : Nat) : (maskN r).testBit j = r.getD j false := by
  rw [maskN, maskT_bit, Bool.eq_iff_iff]
  simp only [Bool.and_eq_true, decide_eq_true_eq]
  constructor
  · exact fun h => h.2
  · intro h
    refine ⟨?_, h⟩
    apply Classical.byContradiction
    intro hn
    simp [List.getElem?_eq_none (show r.length ≤ j by omega)] at h

theorem any_bit (r : List Bool) : r.any id = true ↔ ∃ j, r.getD j false = true := by
  rw [List.any_eq_true]
  constructor
  · rintro ⟨b, hb, hb'⟩
    obtain ⟨j, hj⟩ := List.mem_iff_getElem?.1 hb
    exact ⟨j, by simp [hj]; simpa using hb'⟩
  · rintro ⟨j, hj⟩
    cases h : r[j]? with
    | none => simp [h] at hj
    | some b => exact ⟨b, List.mem_of_getElem? h, by simpa [h] using hj⟩

theorem enough_cov {m : List (List Bool)} (hr : ∀ r ∈ m, r.length ≤ 16) (i : Nat) : enough m (bl i) = covM m i := by
  rw [Bool.eq_iff_iff, enough, covM, List.all_eq_true, List.all_eq_true]
  have key : ∀ r ∈ m, ((!(r.any id) || (bl i).any fun k => r.getD k false) = true ↔ decide (maskN r = 0 ∨ maskN r &&& i ≠ 0) = true) := by
    intro r hrm
    have hne : maskN r ≠ 0 ↔ r.any id = true := (ne_zero_bit.trans ⟨fun ⟨j, hj⟩ => ⟨j, by rw [← maskN_bit]; exact hj⟩, fun ⟨j, hj⟩ => ⟨j, by rw [maskN_bit]; exact hj⟩⟩).trans (any_bit r).symm
    have h0 : maskN r = 0 ↔ ¬ r.any id = true := ⟨fun h g => hne.2 g h, fun h => Classical.byContradiction fun g => h (hne.1 g)⟩
    have h1 : maskN r &&& i ≠ 0 ↔ (bl i).any (fun k => r.getD k false) = true := by
      rw [ne_zero_bit, List.any_eq_true]
      constructor
      · rintro ⟨j, hj⟩
        rw [Nat.testBit_and, maskN_bit, Bool.and_eq_true] at hj
        refine ⟨j, (mem_bl i j).2 ⟨?_, hj.2⟩, hj.1⟩
        apply Classical.byContradiction
        intro hn
        have := hr r hrm
        simp [List.getElem?_eq_none (show r.length ≤ j by omega)] at hj
      · rintro ⟨j, hj, hj2⟩
        exact ⟨j, by rw [Nat.testBit_and, maskN_bit, hj2, ((mem_bl i j).1 hj).2]; rfl⟩
    rw [Bool.or_eq_true, decide_eq_true_eq, h0, h1]
    simp
  exact ⟨fun h r hrm => (key r hrm).1 (h r hrm), fun h r hrm => (key r hrm).2 (h r hrm)⟩

theorem least_impl {m : List (List Bool)} (hw : wid m ≤ 16) (hr : ∀ r ∈ m, r.length = wid m) : Least m (wid m) (bl (bestM m)) := by
  have hp : 0 < 2 ^ wid m := Nat.two_pow_pos _
  have hfull : covM m (2 ^ wid m - 1) = true := by
    rw [covM, List.all_eq_true]
    intro r hrm
    have : maskN r &&& (2 ^ wid m - 1) = maskN r := by
      rw [Nat.and_two_pow_sub_one_eq_mod, Nat.mod_eq_of_lt]
      have := maskT_lt r r.length
      rw [hr r hrm] at this
      rw [maskN, hr r hrm]; exact this
    rw [this, decide_eq_true_eq]
    exact Classical.em _
  have inv : ∀ n, n ≤ 2 ^ wid m - 1 → (fun b => covM m b = true ∧ b < 2 ^ wid m ∧ leL (bl b) (bl (2 ^ wid m - 1)) ∧ ∀ i, i < n → covM m i = true → leL (bl b) (bl i)) ((List.range n).foldl (stepB m) (2 ^ wid m - 1)) := by
    intro n
    induction n with
    | zero => exact fun _ => ⟨hfull, by simp; omega, leL_refl _, fun i hi => by omega⟩
    | succ n ih =>
      intro hn
      obtain ⟨h1, h2, h3, h4⟩ := ih (by omega)
      rw [foldl_succ]
      generalize (List.range n).foldl (stepB m) (2 ^ wid m - 1) = b at h1 h2 h3 h4
      unfold stepB
      split
      · rename_i hc
        rw [Bool.and_eq_true] at hc
        have hle := bef_true hc.1
        refine ⟨hc.2, by omega, leL_trans hle h3, fun i hi hci => ?_⟩
        by_cases hin : i = n
        · subst hin; exact leL_refl _
        · exact leL_trans hle (h4 i (by omega) hci)
      · rename_i hc
        refine ⟨h1, h2, h3, fun i hi hci => ?_⟩
        by_cases hin : i = n
        · subst hin
          have : bef i b = false := by
            cases hb : bef i b with
            | false => rfl
            | true => rw [hb, hci] at hc; simp at hc
          exact bef_false this
        · exact h4 i (by omega) hci
  obtain ⟨h1, h2, h3, h4⟩ := inv _ (Nat.le_refl _)
  rw [show (List.range (2 ^ wid m - 1)).foldl (stepB m) (2 ^ wid m - 1) = bestM m from rfl] at h1 h2 h3
  have h4 : ∀ i, i < 2 ^ wid m - 1 → covM m i = true → leL (bl (bestM m)) (bl i) := h4
  have hr16 : ∀ r ∈ m, r.length ≤ 16 := fun r h => by rw [hr r h]; exact hw
  refine ⟨⟨bl_sorted _, fun c hc => ?_⟩, ?_, fun l' ha he => ?_⟩
  · apply Classical.byContradiction
    intro hn
    have h5 := ((mem_bl _ _).1 hc).2
    rw [Nat.testBit_lt_two_pow (Nat.lt_of_lt_of_le h2 (Nat.pow_le_pow_right (by decide) (by omega)))] at h5
    cases h5
  · rw [enough_cov hr16]; exact h1
  · obtain ⟨h5, h6⟩ := msk_bl hw ha
    rw [← h5, enough_cov hr16] at he
    rw [← h5]
    by_cases h7 : msk l' < 2 ^ wid m - 1
    · exact h4 _ h7 he
    · have : msk l' = 2 ^ wid m - 1 := by omega
      rw [this]; exact h3

/-! ### The reference's search -/

/-- The ascending lists from a column on. -/
def ascF (w from_ : Nat) (l : List Nat) : Prop := l.Pairwise (· < ·) ∧ ∀ c ∈ l, from_ ≤ c ∧ c < w

def Found (m : List (List Bool)) (w : Nat) (s : List Nat) (k : Nat) (A : List Nat → Prop) (res : List Nat × Bool) : Prop :=
  (res.2 = true ∧ ∃ e, res.1 = s ++ e ∧ e.length = k ∧ A e ∧ enough m (s ++ e) = true ∧ ∀ e', A e' → e'.length = k → enough m (s ++ e') = true → cmpL e e' ≤ 0) ∨
  (res.2 = false ∧ ∀ e', A e' → e'.length = k → enough m (s ++ e') = false)

theorem chosenR_found (m : List (List Bool)) (w : Nat) : ∀ (k : Nat) (s : List Nat) (from_ : Nat), Found m w s k (ascF w from_) (chosenR m w k s from_) := by
  intro k
  induction k with
  | zero =>
    intro s from_
    rw [chosenR]
    cases h : enough m s with
    | true => exact .inl ⟨rfl, [], by simp, rfl, ⟨List.Pairwise.nil, by simp⟩, by simpa using h, fun e' _ he' _ => by rw [List.eq_nil_of_length_eq_zero he']; decide⟩
    | false => exact .inr ⟨rfl, fun e' _ he' => by rw [List.eq_nil_of_length_eq_zero he']; simpa using h⟩
  | succ k ih =>
    intro s from_
    rw [chosenR]
    have key : ∀ n c, c + n = max c w → Found m w s (k + 1) (ascF w c) (loopC (fun c => chosenR m w k (s ++ [c]) (c + 1)) c n) := by
      intro n
      induction n with
      | zero =>
        intro c hc
        refine .inr ⟨rfl, fun e' ha he' => ?_⟩
        cases e' with
        | nil => simp at he'
        | cons x e' => have := ha.2 x (by simp); omega
      | succ n ihn =>
        intro c hc
        rw [loopC]
        have hcw : c < w := by omega
        rcases ih (s ++ [c]) (c + 1) with ⟨h1, e, h2, h3, h4, h5, h6⟩ | ⟨h1, h2⟩
        · rw [if_pos h1]
          refine .inl ⟨rfl, c :: e, by rw [h2]; simp, by simp [h3], ⟨List.pairwise_cons.2 ⟨fun x hx => by have := h4.2 x hx; omega, h4.1⟩, fun x hx => by
            rcases List.mem_cons.1 hx with rfl | hx
            · exact ⟨Nat.le_refl _, hcw⟩
            · have := h4.2 x hx; omega⟩, by simpa using h5, fun e' ha he' hen => ?_⟩
          cases e' with
          | nil => simp at he'
          | cons x e' =>
            rw [cmpL_cons]
            have hx := ha.2 x (by simp)
            by_cases hxc : c < x
            · rw [if_pos hxc]; decide
            · have : x = c := by omega
              subst this
              simp only [Nat.lt_irrefl, if_false]
              have hp := List.pairwise_cons.1 ha.1
              exact h6 e' ⟨hp.2, fun y hy => ⟨hp.1 y hy, (ha.2 y (by simp [hy])).2⟩⟩ (by simpa using he') (by simpa using hen)
        · rw [if_neg (by rw [h1]; simp)]
          have hno : ∀ e', ascF w c e' → e'.length = k + 1 → enough m (s ++ e') = true → ascF w (c + 1) e' := by
            intro e' ha he' hen
            cases e' with
            | nil => simp at he'
            | cons x e' =>
              have hp := List.pairwise_cons.1 ha.1
              have hx := ha.2 x (by simp)
              by_cases hxc : x = c
              · subst hxc
                have := h2 e' ⟨hp.2, fun y hy => ⟨hp.1 y hy, (ha.2 y (by simp [hy])).2⟩⟩ (by simpa using he')
                rw [List.append_assoc] at this
                simp only [List.singleton_append] at this
                rw [this] at hen; cases hen
              · refine ⟨ha.1, fun y hy => ?_⟩
                rcases List.mem_cons.1 hy with rfl | hy'
                · omega
                · have := hp.1 y hy'; have := ha.2 y hy; omega
          rcases ihn (c + 1) (by omega) with ⟨g1, e, g2, g3, g4, g5, g6⟩ | ⟨g1, g2⟩
          · exact .inl ⟨g1, e, g2, g3, ⟨g4.1, fun y hy => by have := g4.2 y hy; omega⟩, g5, fun e' ha he' hen => g6 e' (hno e' ha he' hen) he' hen⟩
          · refine .inr ⟨g1, fun e' ha he' => ?_⟩
            cases hen : enough m (s ++ e') with
            | false => rfl
            | true => rw [g2 e' (hno e' ha he' hen) he'] at hen; cases hen
    by_cases hfw : from_ ≤ w
    · exact key _ _ (by omega)
    · have := key 0 from_ (by omega)
      rw [show w - from_ = 0 by omega]; exact this

theorem asc_iff {w : Nat} {l : List Nat} : asc w l ↔ ascF w 0 l := ⟨fun h => ⟨h.1, fun c hc => ⟨Nat.zero_le _, h.2 c hc⟩⟩, fun h => ⟨h.1, fun c hc => (h.2 c hc).2⟩⟩

theorem least_ref {m : List (List Bool)} (hr : ∀ r ∈ m, r.length = wid m) : Least m (wid m) (sizesR m (wid m) 0 (wid m + 1)) := by
  have hall : enough m (List.range (wid m)) = true := by
    rw [enough, List.all_eq_true]
    intro r hrm
    rw [Bool.or_eq_true]
    by_cases h : r.any id = true
    · right
      obtain ⟨j, hj⟩ := (any_bit r).1 h
      rw [List.any_eq_true]
      refine ⟨j, ?_, hj⟩
      rw [List.mem_range]
      apply Classical.byContradiction
      intro hn
      rw [← hr r hrm] at hn
      simp [List.getElem?_eq_none (show r.length ≤ j by omega)] at hj
    · left; simpa using h
  have key : ∀ n k, k + n = wid m + 1 → (∀ l', asc (wid m) l' → enough m l' = true → k ≤ l'.length) → Least m (wid m) (sizesR m (wid m) k n) := by
    intro n
    induction n with
    | zero =>
      intro k hk hno
      have := hno (List.range (wid m)) ⟨List.pairwise_lt_range, fun c hc => by simpa using hc⟩ hall
      simp at this; omega
    | succ n ih =>
      intro k hk hno
      rw [sizesR]
      rcases chosenR_found m (wid m) k [] 0 with ⟨h1, e, h2, h3, h4, h5, h6⟩ | ⟨h1, h2⟩
      · rw [if_pos h1, h2]
        simp only [List.nil_append] at h5 h6 ⊢
        refine ⟨asc_iff.2 h4, h5, fun l' ha he => ?_⟩
        have := hno l' ha he
        by_cases hl : l'.length = k
        · exact .inr ⟨by omega, h6 l' (asc_iff.1 ha) hl he⟩
        · exact .inl (by omega)
      · rw [if_neg (by rw [h1]; simp)]
        refine ih (k + 1) (by omega) fun l' ha he => ?_
        have h7 := hno l' ha he
        by_cases hl : l'.length = k
        · have := h2 l' (asc_iff.1 ha) hl
          simp only [List.nil_append] at this
          rw [this] at he; cases he
        · omega
  exact key _ _ (by omega) (fun _ _ _ => Nat.zero_le _)

theorem chE_zero {m : List (List Bool)} (h : chE m = 0) : unif m = true ∧ big m = false := by
  unfold chE at h
  split at h
  · cases h
  · split at h
    · cases h
    · rename_i h1 h2
      exact ⟨by simpa using h1, by simpa using h2⟩

theorem chE_facts {m : List (List Bool)} (h : chE m = 0) : wid m ≤ 16 ∧ ∀ r ∈ m, r.length = wid m := by
  obtain ⟨h1, h2⟩ := chE_zero h
  constructor
  · by_cases hm : 0 < m.length
    · have : ¬ (2000 < m.length ∨ (0 < m.length ∧ 16 < wid m)) := by simpa [big] using h2
      omega
    · have : m = [] := List.eq_nil_of_length_eq_zero (by omega)
      subst this; simp [wid]
  · intro r hr
    rw [unif, List.all_eq_true] at h1
    simpa using h1 r hr

/-- Both choose the same. -/
theorem choice_eq (m : List (List Bool)) : chI m = chR m ∧ (chE m = 0 → Least m (wid m) (chI m)) := by
  by_cases h : chE m = 0
  · obtain ⟨hw, hr⟩ := chE_facts h
    have hR := least_ref hr
    have e2 : chR m = sizesR m (wid m) 0 (wid m + 1) := by rw [chR, if_neg (by rw [h]; simp)]
    by_cases hm : m = []
    · have e1 : chI m = [] := by rw [chI, if_pos (.inr hm)]
      have hl : Least m (wid m) [] := ⟨⟨List.Pairwise.nil, by simp⟩, by rw [hm]; rfl, fun l' _ _ => by
        cases l' with
        | nil => exact leL_refl _
        | cons x l' => exact .inl (by simp)⟩
      rw [e1, e2]
      exact ⟨hl.uniq hR, fun _ => hl⟩
    · have e1 : chI m = bl (bestM m) := by rw [chI, if_neg (by rw [h]; simp [hm])]
      have hI := least_impl hw hr
      rw [e1, e2]
      exact ⟨hI.uniq hR, fun _ => hI⟩
  · exact ⟨by rw [chI, chR, if_pos (.inl h), if_pos h], fun h' => absurd h' h⟩

/-- None of them can be left out. -/
theorem choice_min {m : List (List Bool)} {w : Nat} {l : List Nat} (h : Least m w l) (k : Nat) (hk : k < l.length) : enough m (l.take k ++ l.drop (k + 1)) = false := by
  cases he : enough m (l.take k ++ l.drop (k + 1)) with
  | false => rfl
  | true =>
    exfalso
    have hsub : (l.take k ++ l.drop (k + 1)).Sublist l := by
      rw [← List.eraseIdx_eq_take_drop_succ]; exact List.eraseIdx_sublist _ _
    have hle := h.le _ ⟨h.up.1.sublist hsub, fun c hc => h.up.2 c (hsub.subset hc)⟩ he
    have hlen : (l.take k ++ l.drop (k + 1)).length = l.length - 1 := by simp; omega
    rcases hle with hle | ⟨hle, _⟩
    · omega
    · omega

theorem chooses_law : chI [[true, false, true], [false, true, true]] = [2] ∧ chE [[true, false, true], [false, true, true]] = 0 := by decide +kernel
end Go.Proofs.YtkemjljbmdakbaaDoor
