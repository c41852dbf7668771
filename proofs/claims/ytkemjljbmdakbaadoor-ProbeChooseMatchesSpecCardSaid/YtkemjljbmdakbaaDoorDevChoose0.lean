import Derived.Test.YtkemjljbmdakbaaDoorFacts
import Derived.Test.YtkemjljbmdakbaaDoorVcArith
namespace Go.Proofs.YtkemjljbmdakbaaDoor
open Go Go.Vc
def eRow (r : List Bool) : V := .sl 1 (r.map V.bool)
def eM (m : List (List Bool)) : V := .sl 1 (m.map eRow)
def eNat (k : Nat) : V := .int .i64 (k : Int)
def eNats (l : List Nat) : V := .sl 1 (l.map eNat)

/-- Each row that is true somewhere is true in one of the columns. -/
def enough (m : List (List Bool)) (l : List Nat) : Bool := m.all fun r => !(r.any id) || l.any fun k => r.getD k false

theorem any_succ {α : Type} (f : α → Bool) (l : List α) (k : Nat) (h : k < l.length) : (l.take (k + 1)).any f = ((l.take k).any f || f l[k]) := by
  rw [List.take_succ_eq_append_getElem h, List.any_append]; simp
theorem all_succ {α : Type} (f : α → Bool) (l : List α) (k : Nat) (h : k < l.length) : (l.take (k + 1)).all f = ((l.take k).all f && f l[k]) := by
  rw [List.take_succ_eq_append_getElem h, List.all_append]; simp
theorem all_false {α : Type} (f : α → Bool) (l : List α) (k : Nat) (h : k < l.length) (hf : f l[k] = false) : l.all f = false := by
  rw [List.all_eq_false]; exact ⟨l[k], List.getElem_mem h, by simp [hf]⟩

theorem enough_ok (G : List (Nat × V)) (m : List (List Bool)) (l : List Nat) (hm : m.length ≤ 9223372036854775807) (hl : l.length ≤ 9223372036854775807) (hr : ∀ r ∈ m, r.length ≤ 9223372036854775807 ∧ ∀ k ∈ l, k < r.length) : OkP Tryd.prog G 8 [eM m, eNats l] (.bool (enough m l)) := by
  refine Ok.of_sat (c := _) ⟨Tryd.func8, by kernel_rfl, rfl⟩ (n := 59) rfl (by simp) rfl fun C hG hn => ?_
  subst hG
  refine Sat.seq ?_
  refine rg hn ?_
  refine Sp pa ?_
  refine OpsS.nil (?_ : Sat _ _ _ _ _)
  refine Sat.seq ?_
  refine Sat.seq ?_
  refine rg hn ?_
  refine Sp pa ?_
  refine OpsS.nil (?_ : Sat _ _ _ _ _)
  refine Sat.block ?_
  refine Sat.loop (α := Nat) (fun i => ⟨[(0, eM m), (1, eNats l), (5, .int .i64 i)], []⟩) (fun i => i ≤ m.length ∧ enough (m.take i) l = true) (fun i => m.length - i) (0) (⟨Nat.zero_le _, rfl⟩) (by repeat (first | exact trivial | refine And.intro (by rfl) ?_)) (rfl) (fun i hi => ?_)
  refine Sat.seq ?_
  refine Sat.seq ?_
  refine rg hn ?_
  refine Sp pm ?_
  refine Sp pm ?_
  refine Sp (pL ty22) ?_
  refine Sp (pb (h := BinR.lss)) ?_
  refine OpsS.nil (?_ : Sat _ _ _ _ _)
  refine cD (fun hc13 => ?_) (fun hc13 => ?_)
  ·
    simp only [List.length_map] at hc13
    have him : i < m.length := by omega
    have hri := hr m[i] (List.getElem_mem him)
    refine Sat.skip (?_ : Sat _ _ _ _ _)
    refine Sat.seq ?_
    refine Sat.block ?_
    refine Sat.seq ?_
    refine rg hn ?_
    refine Sp pa ?_
    refine Sp pa ?_
    refine OpsS.nil (?_ : Sat _ _ _ _ _)
    refine Sat.seq ?_
    refine Sat.seq ?_
    refine rg hn ?_
    refine Sp pa ?_
    refine OpsS.nil (?_ : Sat _ _ _ _ _)
    refine Sat.block ?_
    refine Sat.loop (α := Nat) (fun j => ⟨[(0, eM m), (1, eNats l), (5, .int .i64 i), (6, .bool ((m[i].take j).any id)), (7, .bool false), (8, .int .i64 j)], []⟩) (fun j => j ≤ m[i].length) (fun j => m[i].length - j) (0) (by first | trivial | omega | (simp; done)) (by repeat (first | exact trivial | refine And.intro (by rfl) ?_)) (rfl) (fun j hj => ?_)
    refine Sat.seq ?_
    refine Sat.seq ?_
    refine rg hn ?_
    refine Sp pm ?_
    refine Sp pm ?_
    refine Sp pm ?_
    refine Sp (piS ty22 sz31) ?_
    refine Sp (plR ty31) ?_
    refine Sp (pL ty31) ?_
    refine Sp (pb (h := BinR.lss)) ?_
    refine OpsS.nil (?_ : Sat _ _ _ _ _)
    refine cD (fun hc22 => ?_) (fun hc22 => ?_)
    ·
      simp only [List.length_map] at hc22
      have hjm : j < m[i].length := by omega
      refine Sat.skip (?_ : Sat _ _ _ _ _)
      refine Sat.seq ?_
      refine Sat.block ?_
      refine Sat.to (α := Unit) (fun _ => ⟨[(0, eM m), (1, eNats l), (5, .int .i64 i), (6, .bool ((m[i].take (j + 1)).any id)), (7, .bool false), (8, .int .i64 j)], []⟩) (fun _ => True) ?_ (fun x hx => (?_ : Sat _ _ _ _ _))
      ·
        rw [any_succ _ _ _ hjm]
        generalize (m[i].take j).any id = b
        cases b
        all_goals (
          refine rg hn ?_
          refine Sp pm ?_
          refine Sp pm ?_
          first | refine Sk ?_ | refine Sp pm ?_
          first | refine Sk ?_ | refine Sp pm ?_
          first | refine Sk ?_ | refine Sp (piS ty22 sz31) ?_
          first | refine Sk ?_ | refine Sp (plR ty31) ?_
          first | refine Sk ?_ | refine Sp pm ?_
          first | refine Sk ?_ | refine Sp (piS ty31 sz4) ?_
          first | refine Sk ?_ | refine Sp (plR ty4) ?_
          refine Sp pk ?_
          refine Sp pa ?_
          refine OpsS.nil (?_ : ∃ _, _)
          refine ⟨(), trivial, by repeat (first | exact trivial | refine And.intro (by rfl) ?_), rfl⟩
        )
      ·
        refine rg hn ?_
        refine Sp pm ?_
        refine Sp (pb (h := (BinR.add (inI (by omega) (by omega))))) ?_
        refine Sp pa ?_
        refine OpsS.nil (?_ : ∃ _, _)
        refine ⟨j + 1, by omega, by omega, by repeat (first | exact trivial | refine And.intro (by rfl) ?_), rfl⟩
    ·
      simp only [List.length_map] at hc22
      obtain rfl : j = m[i].length := by omega
      rw [List.take_length]
      refine Sat.exit (?_ : Sat _ _ _ _ _)
      refine Sat.seq ?_
      refine Sat.seq ?_
      refine rg hn ?_
      refine Sp pa ?_
      refine OpsS.nil (?_ : Sat _ _ _ _ _)
      refine Sat.block ?_
      refine Sat.loop (α := Nat) (fun k => ⟨[(0, eM m), (1, eNats l), (5, .int .i64 i), (6, .bool (m[i].any id)), (7, .bool ((l.take k).any fun c => m[i].getD c false)), (9, .int .i64 k)], []⟩) (fun k => k ≤ l.length) (fun k => l.length - k) (0) (by first | trivial | omega | (simp; done)) (by repeat (first | exact trivial | refine And.intro (by rfl) ?_)) (rfl) (fun k hk => ?_)
      refine Sat.seq ?_
      refine Sat.seq ?_
      refine rg hn ?_
      refine Sp pm ?_
      refine Sp pm ?_
      refine Sp (pL ty23) ?_
      refine Sp (pb (h := BinR.lss)) ?_
      refine OpsS.nil (?_ : Sat _ _ _ _ _)
      refine cD (fun hc38 => ?_) (fun hc38 => ?_)
      ·
        simp only [List.length_map] at hc38
        have hkl : k < l.length := by omega
        have hkr := hri.2 l[k] (List.getElem_mem hkl)
        refine Sat.skip (?_ : Sat _ _ _ _ _)
        refine Sat.seq ?_
        refine Sat.block ?_
        refine Sat.to (α := Unit) (fun _ => ⟨[(0, eM m), (1, eNats l), (5, .int .i64 i), (6, .bool (m[i].any id)), (7, .bool ((l.take (k + 1)).any fun c => m[i].getD c false)), (9, .int .i64 k)], []⟩) (fun _ => True) ?_ (fun x hx => (?_ : Sat _ _ _ _ _))
        ·
          rw [any_succ _ _ _ hkl, show m[i].getD l[k] false = m[i][l[k]] by simp [hkr]]
          generalize (l.take k).any (fun c => m[i].getD c false) = b
          cases b
          all_goals (
            refine dr [0, 0, 0, 0, 0, 0, 0, 0, 0, 0, 0, 0, 0, 0] mixed hn ?_
            refine Df (fun _ => pm) ?_
            refine Df (fun _ => pm) ?_
            first | refine Dk ?_ | refine Df (fun _ => pm) ?_
            first | refine Dk ?_ | refine Df (fun _ => pm) ?_
            first | refine Dk ?_ | refine Df (fun _ => (piS ty22 sz31)) ?_
            first | refine Dk ?_ | refine Df (fun _ => (plR ty31)) ?_
            first | refine Dk ?_ | refine Df (fun _ => pm) ?_
            first | refine Dk ?_ | refine Df (fun _ => pm) ?_
            first | refine Dk ?_ | refine Df (fun _ => (piS ty23 sz3)) ?_
            first | refine Dk ?_ | refine Df (fun _ => (plR ty3)) ?_
            first | refine Dk ?_ | refine Df (fun _ => (piS ty31 sz4)) ?_
            first | refine Dk ?_ | refine Df (fun _ => (plR ty4)) ?_
            refine Df (fun _ => pk) ?_
            refine Df (fun _ => pa) ?_
            refine OpsD.nil (?_ : ∃ _, _)
            refine ⟨(), trivial, by repeat (first | exact trivial | refine And.intro (by rfl) ?_), rfl⟩
          )
        ·
          refine rg hn ?_
          refine Sp pm ?_
          refine Sp (pb (h := (BinR.add (inI (by omega) (by omega))))) ?_
          refine Sp pa ?_
          refine OpsS.nil (?_ : ∃ _, _)
          refine ⟨k + 1, by omega, by omega, by repeat (first | exact trivial | refine And.intro (by rfl) ?_), rfl⟩
      ·
        simp only [List.length_map] at hc38
        obtain rfl : k = l.length := by omega
        rw [List.take_length]
        refine Sat.exit (?_ : Sat _ _ _ _ _)
        refine Sat.seq ?_
        refine Sat.to (α := Unit) (fun _ => ⟨[(0, eM m), (1, eNats l), (5, .int .i64 i), (58, .bool (m[i].any id && !(l.any fun c => m[i].getD c false)))], []⟩) (fun _ => True) ?_ (fun x hx => (?_ : Sat _ _ _ _ _))
        ·
          generalize hb1 : m[i].any id = b1
          cases b1
          all_goals (
            refine rg hn ?_
            refine Sp pm ?_
            refine Sp pm ?_
            first | refine Sk ?_ | refine Sp pm ?_
            first | refine Sk ?_ | refine Sp pnot ?_
            refine Sp pk ?_
            refine OpsS.nil (?_ : ∃ _, _)
            refine ⟨(), trivial, by repeat (first | exact trivial | refine And.intro (by rfl) ?_), rfl⟩
          )
        ·
          refine cB (fun hc58 => ?_) (fun hc58 => ?_)
          ·
            have hf : enough m l = false := all_false _ m i him (by revert hc58; cases (m[i].any id) <;> cases (l.any fun c => m[i].getD c false) <;> simp)
            refine Sat.seq ?_
            refine rg hn ?_
            refine Sp pa ?_
            refine OpsS.nil (?_ : Sat _ _ _ _ _)
            refine Sat.ret (?_ : Vc.Fin _ _ _ _)
            exact fi (hq := ⟨by rw [hf]; rfl, rfl⟩)
          ·
            refine Sat.skip (?_ : Sat _ _ _ _ _)
            refine rg hn ?_
            refine Sp pm ?_
            refine Sp (pb (h := (BinR.add (inI (by omega) (by omega))))) ?_
            refine Sp pa ?_
            refine OpsS.nil (?_ : ∃ _, _)
            refine ⟨i + 1, ⟨by omega, by unfold enough at hi ⊢; rw [all_succ _ _ _ him, hi.2]; simp only [Bool.true_and]; revert hc58; cases (m[i].any id) <;> cases (l.any fun c => m[i].getD c false) <;> simp⟩, by omega, by repeat (first | exact trivial | refine And.intro (by rfl) ?_), rfl⟩
  ·
    refine Sat.exit (?_ : Sat _ _ _ _ _)
    refine Sat.seq ?_
    refine rg hn ?_
    refine Sp pa ?_
    refine OpsS.nil (?_ : Sat _ _ _ _ _)
    refine Sat.ret (?_ : Vc.Fin _ _ _ _)
    exact fi (hq := ⟨by rw [← hi.2, show i = m.length by (simp only [List.length_map] at hc13; omega), List.take_length]; rfl, rfl⟩)
end Go.Proofs.YtkemjljbmdakbaaDoor
