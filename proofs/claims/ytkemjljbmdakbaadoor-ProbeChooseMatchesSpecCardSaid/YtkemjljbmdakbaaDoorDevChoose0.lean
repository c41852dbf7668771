import Derived.Test.YtkemjljbmdakbaaDoorFacts
import Derived.Test.YtkemjljbmdakbaaDoorVcArith
namespace Go.Proofs.YtkemjljbmdakbaaDoor
open Go Go.Vc
def eRow (r : List Bool) : V := .sl 1 (r.map V.bool)
def eM (m : List (List Bool)) : V := .sl 1 (m.map eRow)
def eNat (k : Nat) : V := .int .i64 (k : Int)
def eNats (l : List Nat) : V := .sl 1 (l.map eNat)

/-- Each row that is true somewhere is true in one of the columns. -/
def enough (m : List (List Bool)) (l : List Nat) : Bool := m.all fun r => !(r.any id) || l.any fun k => r.getD k false

theorem any_succ {α : Type} (f : α → Bool) (l : List α) (k : Nat) (h : k < l.length) : (l.take (k + 1)).any f = ((l.take k).any f || f l[k]) := by
  rw [List.take_succ_eq_append_getElem h, List.any_append]; simp
theorem all_succ {α : Type} (f : α → Bool) (l : List α) (k : Nat) (h : k < l.length) : (l.take (k + 1)).all f = ((l.take k).all f && f l[k]) := by
  rw [List.take_succ_eq_append_getElem h, List.all_append]; simp
theorem all_false {α : Type} (f : α → Bool) (l : List α) (k : Nat) (h : k < l.length) (hf : f l[k] = false) : l.all f = false := by
  rw [List.all_eq_false]; exact ⟨l[k], List.getElem_mem h, by simp [hf]⟩
-- f8 dynamometer/dynamometerref12.Enough
theorem enough_ok (G : List (Nat × V)) (m : List (List Bool)) (l : List Nat) (hm : m.length ≤ 9223372036854775807) (hl : l.length ≤ 9223372036854775807) (hr : ∀ r ∈ m, r.length ≤ 9223372036854775807 ∧ ∀ k ∈ l, k < r.length) : OkP Tryd.prog G 8 [eM m, eNats l] (.bool (enough m l)) := by
  refine Ok.of_sat (c := _) ⟨Tryd.func8, by kernel_rfl, rfl⟩ (n := 59) rfl (by simp) rfl fun C hG hn => ?_
  subst hG
  refine Sat.seq ?_
  refine rg hn ?_   -- region 0 runs.go:411
  refine Sp pa ?_   -- 4 := assign(c[false])
  refine OpsS.nil (?_ : Sat _ _ _ _ _)
  refine Sat.seq ?_
  refine Sat.seq ?_
  refine rg hn ?_   -- region 1 runs.go:412
  refine Sp pa ?_   -- 5 := assign(c[["Go.IntKind.i64"], 0])
  refine OpsS.nil (?_ : Sat _ _ _ _ _)
  refine Sat.block ?_
  refine Sat.loop (α := Nat) (fun i => ⟨[(0, eM m), (1, eNats l), (5, .int .i64 i)], []⟩) (fun i => i ≤ m.length ∧ enough (m.take i) l = true) (fun i => m.length - i) (0) (⟨Nat.zero_le _, rfl⟩) (by repeat (first | exact trivial | refine And.intro (by rfl) ?_)) (rfl) (fun i hi => ?_)   -- loop 0
  refine Sat.seq ?_
  refine Sat.seq ?_
  refine rg hn ?_   -- region 2 runs.go:412
  refine Sp pm ?_   -- 10 := move(t5)
  refine Sp pm ?_   -- 11 := move(t0)
  refine Sp (pL ty22) ?_   -- 12 := call(mk(builtin(len), [t11], [22]))
  refine Sp (pb (h := BinR.lss)) ?_   -- 13 := binOp(lss, 3, t10, t12, 3)
  refine OpsS.nil (?_ : Sat _ _ _ _ _)
  refine cD (fun hc13 => ?_) (fun hc13 => ?_)
  ·
    simp only [List.length_map] at hc13
    have him : i < m.length := by omega
    have hri := hr m[i] (List.getElem_mem him)
    refine Sat.skip (?_ : Sat _ _ _ _ _)
    refine Sat.seq ?_
    refine Sat.block ?_
    refine Sat.seq ?_
    refine rg hn ?_   -- region 4 runs.go:413
    refine Sp pa ?_   -- 6 := assign(c[false])
    refine Sp pa ?_   -- 7 := assign(c[false])
    refine OpsS.nil (?_ : Sat _ _ _ _ _)
    refine Sat.seq ?_
    refine Sat.seq ?_
    refine rg hn ?_   -- region 5 runs.go:414
    refine Sp pa ?_   -- 8 := assign(c[["Go.IntKind.i64"], 0])
    refine OpsS.nil (?_ : Sat _ _ _ _ _)
    refine Sat.block ?_
    refine Sat.loop (α := Nat) (fun j => ⟨[(0, eM m), (1, eNats l), (5, .int .i64 i), (6, .bool ((m[i].take j).any id)), (7, .bool false), (8, .int .i64 j)], []⟩) (fun j => j ≤ m[i].length) (fun j => m[i].length - j) (0) (by first | trivial | omega | (simp; done)) (by repeat (first | exact trivial | refine And.intro (by rfl) ?_)) (rfl) (fun j hj => ?_)   -- loop 1
    refine Sat.seq ?_
    refine Sat.seq ?_
    refine rg hn ?_   -- region 6 runs.go:414
    refine Sp pm ?_   -- 16 := move(t8)
    refine Sp pm ?_   -- 17 := move(t0)
    refine Sp pm ?_   -- 18 := move(t5)
    refine Sp (piS ty22 sz31) ?_   -- 19 := indexAddr(22, t17, t18)
    refine Sp (plR ty31) ?_   -- 20 := load(31, t19)
    refine Sp (pL ty31) ?_   -- 21 := call(mk(builtin(len), [t20], [31]))
    refine Sp (pb (h := BinR.lss)) ?_   -- 22 := binOp(lss, 3, t16, t21, 3)
    refine OpsS.nil (?_ : Sat _ _ _ _ _)
    refine cD (fun hc22 => ?_) (fun hc22 => ?_)
    ·
      simp only [List.length_map] at hc22
      have hjm : j < m[i].length := by omega
      refine Sat.skip (?_ : Sat _ _ _ _ _)
      refine Sat.seq ?_
      refine Sat.block ?_
      refine Sat.to (α := Unit) (fun _ => ⟨[(0, eM m), (1, eNats l), (5, .int .i64 i), (6, .bool ((m[i].take (j + 1)).any id)), (7, .bool false), (8, .int .i64 j)], []⟩) (fun _ => True) ?_ (fun x hx => (?_ : Sat _ _ _ _ _))
      ·
        rw [any_succ _ _ _ hjm]
        generalize (m[i].take j).any id = b
        cases b
        all_goals (
          refine rg hn ?_   -- region 8 runs.go:415
          refine Sp pm ?_   -- 25 := move(t6)
          refine Sp pm ?_   -- 26 := move(t25)
          first | refine Sk ?_ | refine Sp pm ?_   -- 27 := move(t0)  [guard [1, False]]
          first | refine Sk ?_ | refine Sp pm ?_   -- 28 := move(t5)  [guard [1, False]]
          first | refine Sk ?_ | refine Sp (piS ty22 sz31) ?_   -- 29 := indexAddr(22, t27, t28)  [guard [1, False]]
          first | refine Sk ?_ | refine Sp (plR ty31) ?_   -- 30 := load(31, t29)  [guard [1, False]]
          first | refine Sk ?_ | refine Sp pm ?_   -- 31 := move(t8)  [guard [1, False]]
          first | refine Sk ?_ | refine Sp (piS ty31 sz4) ?_   -- 32 := indexAddr(31, t30, t31)  [guard [1, False]]
          first | refine Sk ?_ | refine Sp (plR ty4) ?_   -- 33 := load(4, t32)  [guard [1, False]]
          refine Sp pk ?_   -- 34 := pick(t26, c[true], t33)
          refine Sp pa ?_   -- 6 := assign(t34)
          refine OpsS.nil (?_ : ∃ _, _)
          refine ⟨(), trivial, by repeat (first | exact trivial | refine And.intro (by rfl) ?_), rfl⟩
        )
      ·
        refine rg hn ?_   -- region 7 runs.go:414
        refine Sp pm ?_   -- 23 := move(t8)
        refine Sp (pb (h := (BinR.add (inI (by omega) (by omega))))) ?_   -- 24 := binOp(add, 3, t23, c[["Go.IntKind.i64"], 1], 3)
        refine Sp pa ?_   -- 8 := assign(t24)
        refine OpsS.nil (?_ : ∃ _, _)
        refine ⟨j + 1, by omega, by omega, by repeat (first | exact trivial | refine And.intro (by rfl) ?_), rfl⟩
    ·
      simp only [List.length_map] at hc22
      obtain rfl : j = m[i].length := by omega
      rw [List.take_length]
      refine Sat.exit (?_ : Sat _ _ _ _ _)
      refine Sat.seq ?_
      refine Sat.seq ?_
      refine rg hn ?_   -- region 9 runs.go:417
      refine Sp pa ?_   -- 9 := assign(c[["Go.IntKind.i64"], 0])
      refine OpsS.nil (?_ : Sat _ _ _ _ _)
      refine Sat.block ?_
      refine Sat.loop (α := Nat) (fun k => ⟨[(0, eM m), (1, eNats l), (5, .int .i64 i), (6, .bool (m[i].any id)), (7, .bool ((l.take k).any fun c => m[i].getD c false)), (9, .int .i64 k)], []⟩) (fun k => k ≤ l.length) (fun k => l.length - k) (0) (by first | trivial | omega | (simp; done)) (by repeat (first | exact trivial | refine And.intro (by rfl) ?_)) (rfl) (fun k hk => ?_)   -- loop 2
      refine Sat.seq ?_
      refine Sat.seq ?_
      refine rg hn ?_   -- region 10 runs.go:417
      refine Sp pm ?_   -- 35 := move(t9)
      refine Sp pm ?_   -- 36 := move(t1)
      refine Sp (pL ty23) ?_   -- 37 := call(mk(builtin(len), [t36], [23]))
      refine Sp (pb (h := BinR.lss)) ?_   -- 38 := binOp(lss, 3, t35, t37, 3)
      refine OpsS.nil (?_ : Sat _ _ _ _ _)
      refine cD (fun hc38 => ?_) (fun hc38 => ?_)
      ·
        simp only [List.length_map] at hc38
        have hkl : k < l.length := by omega
        have hkr := hri.2 l[k] (List.getElem_mem hkl)
        refine Sat.skip (?_ : Sat _ _ _ _ _)
        refine Sat.seq ?_
        refine Sat.block ?_
        refine Sat.to (α := Unit) (fun _ => ⟨[(0, eM m), (1, eNats l), (5, .int .i64 i), (6, .bool (m[i].any id)), (7, .bool ((l.take (k + 1)).any fun c => m[i].getD c false)), (9, .int .i64 k)], []⟩) (fun _ => True) ?_ (fun x hx => (?_ : Sat _ _ _ _ _))
        ·
          rw [any_succ _ _ _ hkl, show m[i].getD l[k] false = m[i][l[k]] by simp [hkr]]
          generalize (l.take k).any (fun c => m[i].getD c false) = b
          cases b
          all_goals (
            refine dr [0, 0, 0, 0, 0, 0, 0, 0, 0, 0, 0, 0, 0, 0] mixed hn ?_   -- region 12 runs.go:418
            refine Df (fun _ => pm) ?_   -- 41 := move(t7)
            refine Df (fun _ => pm) ?_   -- 42 := move(t41)
            first | refine Dk ?_ | refine Df (fun _ => pm) ?_   -- 43 := move(t0)  [guard [1, False]]
            first | refine Dk ?_ | refine Df (fun _ => pm) ?_   -- 44 := move(t5)  [guard [1, False]]
            first | refine Dk ?_ | refine Df (fun _ => (piS ty22 sz31)) ?_   -- 45 := indexAddr(22, t43, t44)  [guard [1, False]]
            first | refine Dk ?_ | refine Df (fun _ => (plR ty31)) ?_   -- 46 := load(31, t45)  [guard [1, False]]
            first | refine Dk ?_ | refine Df (fun _ => pm) ?_   -- 47 := move(t1)  [guard [1, False]]
            first | refine Dk ?_ | refine Df (fun _ => pm) ?_   -- 48 := move(t9)  [guard [1, False]]
            first | refine Dk ?_ | refine Df (fun _ => (piS ty23 sz3)) ?_   -- 49 := indexAddr(23, t47, t48)  [guard [1, False]]
            first | refine Dk ?_ | refine Df (fun _ => (plR ty3)) ?_   -- 50 := load(3, t49)  [guard [1, False]]
            first | refine Dk ?_ | refine Df (fun _ => (piS ty31 sz4)) ?_   -- 51 := indexAddr(31, t46, t50)  [guard [1, False]]
            first | refine Dk ?_ | refine Df (fun _ => (plR ty4)) ?_   -- 52 := load(4, t51)  [guard [1, False]]
            refine Df (fun _ => pk) ?_   -- 53 := pick(t42, c[true], t52)
            refine Df (fun _ => pa) ?_   -- 7 := assign(t53)
            refine OpsD.nil (?_ : ∃ _, _)
            refine ⟨(), trivial, by repeat (first | exact trivial | refine And.intro (by rfl) ?_), rfl⟩
          )
        ·
          refine rg hn ?_   -- region 11 runs.go:417
          refine Sp pm ?_   -- 39 := move(t9)
          refine Sp (pb (h := (BinR.add (inI (by omega) (by omega))))) ?_   -- 40 := binOp(add, 3, t39, c[["Go.IntKind.i64"], 1], 3)
          refine Sp pa ?_   -- 9 := assign(t40)
          refine OpsS.nil (?_ : ∃ _, _)
          refine ⟨k + 1, by omega, by omega, by repeat (first | exact trivial | refine And.intro (by rfl) ?_), rfl⟩
      ·
        simp only [List.length_map] at hc38
        obtain rfl : k = l.length := by omega
        rw [List.take_length]
        refine Sat.exit (?_ : Sat _ _ _ _ _)
        refine Sat.seq ?_
        refine Sat.to (α := Unit) (fun _ => ⟨[(0, eM m), (1, eNats l), (5, .int .i64 i), (58, .bool (m[i].any id && !(l.any fun c => m[i].getD c false)))], []⟩) (fun _ => True) ?_ (fun x hx => (?_ : Sat _ _ _ _ _))
        ·
          generalize hb1 : m[i].any id = b1
          cases b1
          all_goals (
            refine rg hn ?_   -- region 13 runs.go:420
            refine Sp pm ?_   -- 54 := move(t6)
            refine Sp pm ?_   -- 55 := move(t54)
            first | refine Sk ?_ | refine Sp pm ?_   -- 56 := move(t7)  [guard [1, True]]
            first | refine Sk ?_ | refine Sp pnot ?_   -- 57 := unOp(not, 4, t56)  [guard [1, True]]
            refine Sp pk ?_   -- 58 := pick(t55, t57, c[false])
            refine OpsS.nil (?_ : ∃ _, _)
            refine ⟨(), trivial, by repeat (first | exact trivial | refine And.intro (by rfl) ?_), rfl⟩
          )
        ·
          refine cB (fun hc58 => ?_) (fun hc58 => ?_)
          ·
            have hf : enough m l = false := all_false _ m i him (by revert hc58; cases (m[i].any id) <;> cases (l.any fun c => m[i].getD c false) <;> simp)
            refine Sat.seq ?_
            refine rg hn ?_   -- region 14 runs.go:421
            refine Sp pa ?_   -- 4 := assign(c[false])
            refine OpsS.nil (?_ : Sat _ _ _ _ _)
            refine Sat.ret (?_ : Vc.Fin _ _ _ _)
            exact fi (hq := ⟨by rw [hf]; rfl, rfl⟩)   -- fin 0
          ·
            refine Sat.skip (?_ : Sat _ _ _ _ _)
            refine rg hn ?_   -- region 3 runs.go:412
            refine Sp pm ?_   -- 14 := move(t5)
            refine Sp (pb (h := (BinR.add (inI (by omega) (by omega))))) ?_   -- 15 := binOp(add, 3, t14, c[["Go.IntKind.i64"], 1], 3)
            refine Sp pa ?_   -- 5 := assign(t15)
            refine OpsS.nil (?_ : ∃ _, _)
            refine ⟨i + 1, ⟨by omega, by unfold enough at hi ⊢; rw [all_succ _ _ _ him, hi.2]; simp only [Bool.true_and]; revert hc58; cases (m[i].any id) <;> cases (l.any fun c => m[i].getD c false) <;> simp⟩, by omega, by repeat (first | exact trivial | refine And.intro (by rfl) ?_), rfl⟩
  ·
    refine Sat.exit (?_ : Sat _ _ _ _ _)
    refine Sat.seq ?_
    refine rg hn ?_   -- region 15 runs.go:424
    refine Sp pa ?_   -- 4 := assign(c[true])
    refine OpsS.nil (?_ : Sat _ _ _ _ _)
    refine Sat.ret (?_ : Vc.Fin _ _ _ _)
    exact fi (hq := ⟨by rw [← hi.2, show i = m.length by (simp only [List.length_map] at hc13; omega), List.take_length]; rfl, rfl⟩)   -- fin 1
end Go.Proofs.YtkemjljbmdakbaaDoor
