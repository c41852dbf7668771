import Derived.Test.YtkemjljbmdakbaaDoorFacts
import Derived.Test.YtkemjljbmdakbaaDoorDevChoose1
namespace Go.Proofs.YtkemjljbmdakbaaDoor
open Go Go.Vc
def enc (x : Nat × Nat) : V × V × Nat := (.int .u64 (x.1 : Int), .bool true, x.2)

theorem enc_keys (l : List (Nat × Nat)) : keysOk (.int .u64) (l.map enc) := by
  intro x hx
  obtain ⟨y, _, rfl⟩ := List.mem_map.1 hx
  rfl

theorem filter_lt (l : List (Nat × Nat)) (seen : List Nat) (x : Nat × Nat) (hx : x ∈ l) (hn : x.2 ∉ seen) : (l.filter fun y => decide (y.2 ∉ seen ++ [x.2])).length < (l.filter fun y => decide (y.2 ∉ seen)).length := by
  have hle : ∀ l : List (Nat × Nat), (l.filter fun y => decide (y.2 ∉ seen ++ [x.2])).length ≤ (l.filter fun y => decide (y.2 ∉ seen)).length := by
    intro l
    induction l with
    | nil => simp
    | cons y l ih =>
      simp only [List.filter_cons]
      by_cases h1 : y.2 ∈ seen
      · simp [h1]; simpa using ih
      · by_cases h2 : y.2 = x.2
        · simp [h2, hn]; have := ih; simp at this; omega
        · simp [h1, h2]; simpa using ih
  induction l with
  | nil => cases hx
  | cons y l ih =>
    simp only [List.filter_cons]
    rcases List.mem_cons.1 hx with rfl | hx
    · have := hle l
      simp [hn] at this ⊢
      omega
    · have h3 := ih hx
      by_cases h1 : y.2 ∈ seen
      · simp [h1]; simpa using h3
      · by_cases h2 : y.2 = x.2
        · simp [h2, hn]; have := h3; simp at this; omega
        · simp [h1, h2]; simpa using h3

/-- Each set has a column in common with each of these. -/
def cov (l : List (Nat × Nat)) (s : Nat) : Bool := l.all fun x => decide (x.1 &&& s ≠ 0)

theorem map_inj {α β : Type} {f : α → β} : ∀ {l : List α}, (l.map f).Nodup → ∀ {x y : α}, x ∈ l → y ∈ l → f x = f y → x = y
  | [], _, _, _, hx, _, _ => by cases hx
  | z :: l, h, x, y, hx, hy, he => by
    rw [List.map_cons, List.nodup_cons] at h
    rcases List.mem_cons.1 hx with h1 | h1 <;> rcases List.mem_cons.1 hy with h2 | h2
    · rw [h1, h2]
    · exact absurd (List.mem_map.2 ⟨y, h2, by rw [← he, h1]⟩) h.1
    · exact absurd (List.mem_map.2 ⟨x, h1, by rw [he, h2]⟩) h.1
    · exact map_inj h.2 h1 h2 he

theorem covers_ok (G : List (Nat × V)) (l : List (Nat × Nat)) (clock s : Nat) (hl : ∀ x ∈ l, x.1 < 65536) (hs : s < 65536) (hn2 : (l.map (·.2)).Nodup) : OkP Tryd.prog G 9 [.int .u64 (s : Int), .ref 1 [.imap (l.map enc) clock] 0 0] (.bool (cov l s)) := by
  refine Ok.of_sat (c := _) ⟨Tryd.func9, by kernel_rfl, rfl⟩ (n := 15) rfl (by simp) rfl fun C hG hn => ?_
  subst hG
  refine Sat.seq ?_
  refine rg hn ?_
  refine Sp pa ?_
  refine OpsS.nil (?_ : Sat _ _ _ _ _)
  refine Sat.seq ?_
  refine Sat.seq ?_
  refine rg hn ?_
  first | refine Sp (plR ty32) ?_ | refine Sp (plO 0 ty32) ?_
  refine Srm ty32 (fun q1 => ?_)
  refine OpsS.nil (?_ : Sat _ _ _ _ _)
  refine Sat.block ?_
  refine Sat.loop (α := List Nat) (fun sn => ⟨[(0, .int .u64 (s : Int)), (6, .own q1 0 0 0)], [(q1, .iter (l.map enc) clock sn)]⟩) (fun sn => ∀ x ∈ l, x.2 ∈ sn → x.1 &&& s ≠ 0) (fun sn => (l.filter fun y => decide (y.2 ∉ sn)).length) ([]) ((by simp)) (by repeat (first | exact trivial | refine And.intro (by rfl) ?_)) (rfl) (fun sn hsn => ?_)
  refine Sat.seq ?_
  refine rg hn ?_
  first | refine Snx 0 (fun nb ns hns => ?_)
  refine Sp px ?_
  refine OpsS.nil (?_ : Sat _ _ _ _ _)
  refine Sat.seq ?_
  refine cB (fun hc8 => ?_) (fun hc8 => ?_)
  ·
    subst hc8
    obtain ⟨h0, _⟩ | ⟨_, x, hx, hxs, rfl⟩ := hns
    · cases h0
    obtain ⟨y, hy, rfl⟩ := List.mem_map.1 hx
    have hy1 := hl y hy
    refine Sat.skip (?_ : Sat _ _ _ _ _)
    refine Sat.block ?_
    refine Sat.seq ?_
    refine rg hn ?_
    refine Sp (pen 0 (x := enc y) hx) ?_
    refine Sp px ?_
    refine Sp pa ?_
    refine OpsS.nil (?_ : Sat _ _ _ _ _)
    refine Sat.seq ?_
    refine rg hn ?_
    refine Sp pm ?_
    refine Sp pm ?_
    refine Sp (pb (h := nAnd (a := y.1) (b := s) (by rw [u64max]; omega) (by rw [u64max]; omega))) ?_
    refine Sp (pb (h := BinR.eql)) ?_
    refine OpsS.nil (?_ : Sat _ _ _ _ _)
    refine cD (fun hc14 => ?_) (fun hc14 => ?_)
    ·
      have hf : cov l s = false := by
        rw [cov, List.all_eq_false]
        exact ⟨y, hy, by simp; omega⟩
      refine Sat.seq ?_
      refine Sat.letgo [] (List.nil_sublist _) ?_
      refine rg hn ?_
      refine Sp pa ?_
      refine OpsS.nil (?_ : Sat _ _ _ _ _)
      refine Sat.ret (?_ : Vc.Fin _ _ _ _)
      exact fi (hq := ⟨by rw [hf]; rfl, rfl⟩)
    ·
      refine Sat.skip (?_ : ∃ _, _)
      refine ⟨sn ++ [y.2], (fun x hx hxm => by
        rcases List.mem_append.1 hxm with h1 | h1
        · exact hsn x hx h1
        · have := map_inj hn2 hx hy (by simpa using h1)
          subst this; omega), filter_lt l sn y hy hxs, by repeat (first | exact trivial | refine And.intro (by rfl) ?_), rfl⟩
  ·
    subst hc8
    obtain ⟨_, rfl, hall⟩ := hns.resolve_right (fun h => by cases h.1)
    refine Sat.exit (?_ : Sat _ _ _ _ _)
    refine Sat.seq ?_
    refine Sat.letgo [] (List.nil_sublist _) ?_
    refine rg hn ?_
    refine Sp pa ?_
    refine OpsS.nil (?_ : Sat _ _ _ _ _)
    refine Sat.ret (?_ : Vc.Fin _ _ _ _)
    exact fi (hq := ⟨by
      have ht : cov l s = true := by
        rw [cov, List.all_eq_true]
        intro x hx
        have := hsn x hx (hall _ (List.mem_map.2 ⟨x, hx, rfl⟩))
        simpa using this
      rw [ht]; rfl, rfl⟩)
end Go.Proofs.YtkemjljbmdakbaaDoor
