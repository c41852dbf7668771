import Derived.Test.YtkemjljbmdakbaaDoorFacts
import Derived.Test.YtkemjljbmdakbaaDoorDevBits
import Derived.Test.YtkemjljbmdakbaaDoorDevChoose0
namespace Go.Proofs.YtkemjljbmdakbaaDoor
open Go Go.Vc
theorem keep_nat (n : Nat) : (n : Int) = ((n : Nat) : Int) := rfl

theorem and_pred_lt {x : Nat} (h : x ≠ 0) (h' : x < 65536) : x &&& (x - 1) < x := (bl_step h h').2.2
-- f11 dynamometer/probe.list
theorem list_ok (G : List (Nat × V)) (hG : G.lookup 1 = some gD64) (x : Nat) (hx : x < 65536) : OkP Tryd.prog G 11 [.int .u64 (x : Int)] (eNats (bl x)) := by
  refine Ok.of_sat (c := _) ⟨Tryd.func11, by kernel_rfl, rfl⟩ (n := 16) rfl (by simp) rfl fun C hG hn => ?_
  subst hG
  refine Sat.seq ?_
  refine rg hn ?_   -- region 0 compare.go:294
  refine Sp pa ?_   -- 2 := assign(c[null, 0, 0])
  refine OpsS.nil (?_ : Sat _ _ _ _ _)
  refine Sat.seq ?_
  refine rg hn ?_   -- region 1 compare.go:295
  refine Sp pa ?_   -- 3 := assign(c[null, 0, 0])
  refine OpsS.nil (?_ : Sat _ _ _ _ _)
  refine Sat.seq ?_
  refine Sat.block ?_
  refine Sat.adoptC 1 3 (fun q => [(0, .int .u64 (x : Int)), (3, .osl q 0 0 0)]) (fun q => []) (fun q => ⟨⟨_, rfl, .refl _⟩, ⟨_, rfl, NilB.cl⟩, trivial⟩) (fun q => .nil) fun q => ?_
  refine Sat.loop (α := List Nat × Nat × Nat) (fun p => ⟨[(0, .int .u64 (p.2.1 : Int)), (3, .osl q p.2.2 0 p.1.length)], [(q, .row p.2.2 1 3 (p.1.map eNat))]⟩) (fun p => bl x = p.1 ++ bl p.2.1 ∧ p.2.1 < 65536) (fun p => p.2.1) (([], x, 0)) (⟨rfl, hx⟩) (by repeat (first | exact trivial | refine And.intro (by rfl) ?_)) (rfl) (fun p hp => ?_)   -- loop 0
  obtain ⟨out, y, ver⟩ := p
  obtain ⟨hp1, hp2⟩ := hp
  dsimp only at hp1 hp2 ⊢
  have hlen : out.length ≤ 16 := by
    have h1 : (bl x).length ≤ 16 := Nat.le_trans (List.length_filter_le _ _) (by simp)
    rw [hp1] at h1; simp at h1; omega
  refine Sat.seq ?_
  refine Sat.seq ?_
  refine rg hn ?_   -- region 2 compare.go:296
  refine Sp pm ?_   -- 4 := move(t0)
  refine Sp (pb (h := BinR.neq)) ?_   -- 5 := binOp(neq, 33, t4, c[["Go.IntKind.u64"], 0], 33)
  refine OpsS.nil (?_ : Sat _ _ _ _ _)
  refine cD (fun hc5 => ?_) (fun hc5 => ?_)
  ·
    have hy0 : y ≠ 0 := by omega
    obtain ⟨hb1, hb2, hb3⟩ := bl_step hy0 hp2
    refine Sat.skip (?_ : Sat _ _ _ _ _)
    refine Sat.seq ?_
    refine Sat.block ?_
    refine rg hn ?_   -- region 4 compare.go:297
    refine Sp pm ?_   -- 10 := move(t3)
    refine Sp pm ?_   -- 11 := move(t0)
    refine Sp (pc fb18 (hok := tz_ok _ hG y (by omega))) ?_   -- 12 := call(mk(value(f18), [t11], [33]))
    refine Sp (pS ty23 sz3 ze3) ?_   -- 13 := buildSlice(23, 1, [[0, t12]])
    refine Se (eap 0 ty23 sz3 ze3 (hsrc := srcS ty23)) ?_   -- 14 := call(mk(builtin(append), [t10, t13], [23, 23]))
    refine Sp pa ?_   -- 3 := assign(t14)
    refine OpsS.nil (?_ : Sat _ _ _ _ _)
    refine rg hn ?_   -- region 3 compare.go:296
    refine Sp pm ?_   -- 6 := move(t0)
    refine Sp pm ?_   -- 7 := move(t0)
    refine Sp (pb (h := BinR.to (BinR.sub (inU (by omega) (by omega))) (congrArg (V.int .u64) (show (y : Int) - 1 = ((y - 1 : Nat) : Int) by omega)))) ?_   -- 8 := binOp(sub, 33, t7, c[["Go.IntKind.u64"], 1], 33)
    refine Sp (pb (h := nAnd (a := y) (b := y - 1) (by rw [u64max]; omega) (by rw [u64max]; omega))) ?_   -- 9 := binOp(and, 33, t6, t8, 33)
    refine Sp pa ?_   -- 0 := assign(t9)
    refine OpsS.nil (?_ : ∃ _, _)
    refine ⟨(out ++ [Go.Lib.ctz 64 y], y &&& (y - 1), ver + 1), ⟨by rw [hp1, hb1]; simp, Nat.lt_trans hb3 hp2⟩, hb3, ⟨rfl, (by show some (V.osl q (ver + 1) 0 (out.length + 1)) = some (V.osl q (ver + 1) 0 (out ++ [Go.Lib.ctz 64 y]).length); simp), trivial⟩, (by show [(q, AObj.row (ver + 1) 1 _ _)] = [(q, AObj.row (ver + 1) 1 _ _)]; simp [eNat, List.take_of_length_le])⟩
  ·
    refine Sat.exit (?_ : Sat _ _ _ _ _)
    refine Sat.seq ?_
    obtain rfl : y = 0 := by omega
    rw [bl_zero, List.append_nil] at hp1
    refine Sat.freeze (k := 0) (loc' := [(3, eNats out)]) (obj' := []) rfl ⟨⟨_, rfl, Frz.all (by simp)⟩, trivial⟩ .nil ?_
    refine rg hn ?_   -- region 5 compare.go:299
    refine Sp pm ?_   -- 15 := move(t3)
    refine Sp pa ?_   -- 2 := assign(t15)
    refine OpsS.nil (?_ : Sat _ _ _ _ _)
    refine Sat.ret (?_ : Vc.Fin _ _ _ _)
    exact fi (hq := ⟨by rw [hp1]; rfl, rfl⟩)   -- fin 0
-- f26 cmp.isNaN[int]
theorem isNaN_ok (G : List (Nat × V)) (x : Int) : OkP Tryd.prog G 26 [.int .i64 x] (.bool false) := by
  refine Ok.of_sat (c := _) ⟨Tryd.func26, by kernel_rfl, rfl⟩ (n := 6) rfl (by simp) rfl fun C hG hn => ?_
  subst hG
  refine Sat.seq ?_
  refine rg hn ?_   -- region 0 cmp.go:63
  refine Sp pa ?_   -- 2 := assign(c[false])
  refine OpsS.nil (?_ : Sat _ _ _ _ _)
  refine Sat.seq ?_
  refine rg hn ?_   -- region 1 cmp.go:64
  refine Sp pm ?_   -- 3 := move(t0)
  refine Sp pm ?_   -- 4 := move(t0)
  refine Sp (pb (h := BinR.neq)) ?_   -- 5 := binOp(neq, 3, t3, t4, 3)
  refine Sp pa ?_   -- 2 := assign(t5)
  refine OpsS.nil (?_ : Sat _ _ _ _ _)
  refine Sat.ret (?_ : Vc.Fin _ _ _ _)
  exact fi (hq := ⟨by simp [packR], rfl⟩)   -- fin 0
def cmpI (x y : Int) : Int := if x < y then -1 else if y < x then 1 else 0
-- f22 cmp.Compare[int]
theorem cmp_ok (G : List (Nat × V)) (x y : Int) : OkP Tryd.prog G 22 [.int .i64 x, .int .i64 y] (.int .i64 (cmpI x y)) := by
  refine Ok.of_sat (c := _) ⟨Tryd.func22, by kernel_rfl, rfl⟩ (n := 20) rfl (by simp) rfl fun C hG hn => ?_
  subst hG
  refine Sat.seq ?_
  refine rg hn ?_   -- region 0 cmp.go:40
  refine Sp pa ?_   -- 4 := assign(c[["Go.IntKind.i64"], 0])
  refine OpsS.nil (?_ : Sat _ _ _ _ _)
  refine Sat.seq ?_
  refine rg hn ?_   -- region 1 cmp.go:41
  refine Sp pm ?_   -- 7 := move(t0)
  refine Sp (pc fb26 (hok := isNaN_ok _ _)) ?_   -- 8 := call(mk(value(f26), [t7], [3]))
  refine Sp pa ?_   -- 5 := assign(t8)
  refine OpsS.nil (?_ : Sat _ _ _ _ _)
  refine Sat.seq ?_
  refine rg hn ?_   -- region 2 cmp.go:42
  refine Sp pm ?_   -- 9 := move(t1)
  refine Sp (pc fb26 (hok := isNaN_ok _ _)) ?_   -- 10 := call(mk(value(f26), [t9], [3]))
  refine Sp pa ?_   -- 6 := assign(t10)
  refine OpsS.nil (?_ : Sat _ _ _ _ _)
  refine Sat.seq ?_
  refine Sat.seq ?_
  refine rg hn ?_   -- region 3 cmp.go:43
  refine Sp pm ?_   -- 11 := move(t5)
  refine OpsS.nil (?_ : Sat _ _ _ _ _)
  refine cF ?_
  refine Sat.skip (?_ : Sat _ _ _ _ _)
  refine Sat.seq ?_
  refine Sat.seq ?_
  refine rg hn ?_   -- region 7 cmp.go:49
  refine Sp pm ?_   -- 13 := move(t6)
  refine OpsS.nil (?_ : Sat _ _ _ _ _)
  refine cF ?_
  refine Sat.skip (?_ : Sat _ _ _ _ _)
  refine Sat.seq ?_
  refine Sat.seq ?_
  refine rg hn ?_   -- region 9 cmp.go:52
  refine Sp pm ?_   -- 14 := move(t0)
  refine Sp pm ?_   -- 15 := move(t1)
  refine Sp (pb (h := BinR.lss)) ?_   -- 16 := binOp(lss, 3, t14, t15, 3)
  refine OpsS.nil (?_ : Sat _ _ _ _ _)
  refine cD (fun hc16 => ?_) (fun hc16 => ?_)
  ·
    refine Sat.seq ?_
    refine rg hn ?_   -- region 10 cmp.go:53
    refine Sp pa ?_   -- 4 := assign(c[["Go.IntKind.i64"], -1])
    refine OpsS.nil (?_ : Sat _ _ _ _ _)
    refine Sat.ret (?_ : Vc.Fin _ _ _ _)
    exact fi (hq := ⟨by simp [packR, cmpI, hc16]; rfl, rfl⟩)   -- fin 0
  ·
    refine Sat.skip (?_ : Sat _ _ _ _ _)
    refine Sat.seq ?_
    refine Sat.seq ?_
    refine rg hn ?_   -- region 11 cmp.go:55
    refine Sp pm ?_   -- 17 := move(t0)
    refine Sp pm ?_   -- 18 := move(t1)
    refine Sp (pb (h := BinR.gtr)) ?_   -- 19 := binOp(gtr, 3, t17, t18, 3)
    refine OpsS.nil (?_ : Sat _ _ _ _ _)
    refine cD (fun hc19 => ?_) (fun hc19 => ?_)
    ·
      refine Sat.seq ?_
      refine rg hn ?_   -- region 12 cmp.go:56
      refine Sp pa ?_   -- 4 := assign(c[["Go.IntKind.i64"], 1])
      refine OpsS.nil (?_ : Sat _ _ _ _ _)
      refine Sat.ret (?_ : Vc.Fin _ _ _ _)
      exact fi (hq := ⟨by simp [packR, cmpI, hc16, hc19]; rfl, rfl⟩)   -- fin 1
    ·
      refine Sat.skip (?_ : Sat _ _ _ _ _)
      refine Sat.seq ?_
      refine rg hn ?_   -- region 13 cmp.go:58
      refine Sp pa ?_   -- 4 := assign(c[["Go.IntKind.i64"], 0])
      refine OpsS.nil (?_ : Sat _ _ _ _ _)
      refine Sat.ret (?_ : Vc.Fin _ _ _ _)
      exact fi (hq := ⟨by simp [packR, cmpI, hc16, hc19]; rfl, rfl⟩)   -- fin 2
/-- Lists of integers in order. -/
def cmpL : List Nat → List Nat → Int
  | [], [] => 0
  | [], _ :: _ => -1
  | _ :: _, [] => 1
  | a :: l, b :: m => if a < b then -1 else if b < a then 1 else cmpL l m

theorem cmpL_step (l m : List Nat) (i : Nat) (h1 : i < l.length) (h2 : i < m.length) : cmpL (l.drop i) (m.drop i) = if l[i] < m[i] then -1 else if m[i] < l[i] then 1 else cmpL (l.drop (i + 1)) (m.drop (i + 1)) := by
  rw [List.drop_eq_getElem_cons h1, List.drop_eq_getElem_cons h2]; rfl
theorem cmpL_end2 (l m : List Nat) (i : Nat) (h1 : i < l.length) (h2 : m.length ≤ i) : cmpL (l.drop i) (m.drop i) = 1 := by
  rw [List.drop_eq_getElem_cons h1, List.drop_eq_nil_of_le h2]; rfl
theorem cmpL_end1 (l m : List Nat) (h2 : l.length < m.length) : cmpL (l.drop l.length) (m.drop l.length) = -1 := by
  rw [List.drop_eq_getElem_cons h2, List.drop_eq_nil_of_le (Nat.le_refl _)]; rfl
theorem cmpL_end0 (l m : List Nat) (h2 : m.length ≤ l.length) : cmpL (l.drop l.length) (m.drop l.length) = 0 := by
  rw [List.drop_eq_nil_of_le h2, List.drop_eq_nil_of_le (Nat.le_refl _)]; rfl
-- f17 slices.Compare[[]int,int]
theorem scmp_ok (G : List (Nat × V)) (l m : List Nat) (hl : l.length ≤ 9223372036854775807) (hm : m.length ≤ 9223372036854775807) : OkP Tryd.prog G 17 [eNats l, eNats m] (.int .i64 (cmpL l m)) := by
  refine Ok.of_sat (c := _) ⟨Tryd.func17, by kernel_rfl, rfl⟩ (n := 36) rfl (by simp) rfl fun C hG hn => ?_
  subst hG
  refine Sat.seq ?_
  refine rg hn ?_   -- region 0 slices.go:57
  refine Sp pa ?_   -- 4 := assign(c[["Go.IntKind.i64"], 0])
  refine OpsS.nil (?_ : Sat _ _ _ _ _)
  refine Sat.seq ?_
  refine Sat.seq ?_
  refine rg hn ?_   -- region 1 slices.go:58
  refine Sp pm ?_   -- 9 := move(t0)
  refine Sp (pL ty23) ?_   -- 10 := call(mk(builtin(len), [t9], [23]))
  refine Sp pm ?_   -- 11 := move(c[["Go.IntKind.i64"], 0])
  refine OpsS.nil (?_ : Sat _ _ _ _ _)
  refine Sat.block ?_
  refine Sat.loop (α := Nat) (fun i => ⟨[(0, eNats l), (1, eNats m), (9, eNats l), (10, .int .i64 (l.map eNat).length), (11, .int .i64 (i : Nat))], []⟩) (fun i => i ≤ l.length ∧ i ≤ m.length ∧ cmpL l m = cmpL (l.drop i) (m.drop i)) (fun i => l.length - i) (0) (⟨Nat.zero_le _, Nat.zero_le _, rfl⟩) (by repeat (first | exact trivial | refine And.intro (by rfl) ?_)) (rfl) (fun i hi => ?_)   -- loop 0
  refine Sat.seq ?_
  refine rg hn ?_   -- region 2 slices.go:58
  refine Sp (pb (h := BinR.lss)) ?_   -- 12 := binOp(lss, 3, t11, t10, 3)
  refine OpsS.nil (?_ : Sat _ _ _ _ _)
  refine Sat.seq ?_
  refine cD (fun hc12 => ?_) (fun hc12 => ?_)
  ·
    simp only [List.length_map] at hc12
    have hil : i < l.length := by omega
    refine Sat.skip (?_ : Sat _ _ _ _ _)
    refine Sat.seq ?_
    refine Sat.block ?_
    refine Sat.seq ?_
    refine rg hn ?_   -- region 3 slices.go:58
    refine Sp pm ?_   -- 13 := move(t11)
    refine Sp (piS ty23 sz3) ?_   -- 14 := indexAddr(23, t9, t11)
    refine Sp (plR ty3) ?_   -- 15 := load(3, t14)
    refine Sp pa ?_   -- 5 := assign(t13)
    refine Sp pa ?_   -- 6 := assign(t15)
    refine OpsS.nil (?_ : Sat _ _ _ _ _)
    refine Sat.seq ?_
    refine Sat.seq ?_
    refine rg hn ?_   -- region 4 slices.go:59
    refine Sp pm ?_   -- 16 := move(t5)
    refine Sp pm ?_   -- 17 := move(t1)
    refine Sp (pL ty23) ?_   -- 18 := call(mk(builtin(len), [t17], [23]))
    refine Sp (pb (h := BinR.geq)) ?_   -- 19 := binOp(geq, 3, t16, t18, 3)
    refine OpsS.nil (?_ : Sat _ _ _ _ _)
    refine cD (fun hc19 => ?_) (fun hc19 => ?_)
    ·
      simp only [List.length_map] at hc19
      have hend := cmpL_end2 l m i hil (by omega)
      refine Sat.seq ?_
      refine rg hn ?_   -- region 5 slices.go:60
      refine Sp pa ?_   -- 4 := assign(c[["Go.IntKind.i64"], 1])
      refine OpsS.nil (?_ : Sat _ _ _ _ _)
      refine Sat.ret (?_ : Vc.Fin _ _ _ _)
      exact fi (hq := ⟨by rw [hi.2.2, hend]; rfl, rfl⟩)   -- fin 0
    ·
      simp only [List.length_map] at hc19
      have him : i < m.length := by omega
      have hst := cmpL_step l m i hil him
      refine Sat.skip (?_ : Sat _ _ _ _ _)
      refine Sat.seq ?_
      refine rg hn ?_   -- region 6 slices.go:62
      refine Sp pm ?_   -- 20 := move(t1)
      refine Sp pm ?_   -- 21 := move(t5)
      refine Sp (piS ty23 sz3) ?_   -- 22 := indexAddr(23, t20, t21)
      refine Sp (plR ty3) ?_   -- 23 := load(3, t22)
      refine Sp pa ?_   -- 7 := assign(t23)
      refine OpsS.nil (?_ : Sat _ _ _ _ _)
      refine Sat.seq ?_
      refine rg hn ?_   -- region 7 slices.go:63
      refine Sp pm ?_   -- 24 := move(t6)
      refine Sp pm ?_   -- 25 := move(t7)
      refine Sp (pc fb22 (hok := cmp_ok _ _ _)) ?_   -- 26 := call(mk(value(f22), [t24, t25], [3, 3]))
      refine Sp pa ?_   -- 8 := assign(t26)
      refine OpsS.nil (?_ : Sat _ _ _ _ _)
      refine Sat.seq ?_
      refine rg hn ?_   -- region 8 slices.go:63
      refine Sp pm ?_   -- 27 := move(t8)
      refine Sp (pb (h := BinR.neq)) ?_   -- 28 := binOp(neq, 3, t27, c[["Go.IntKind.i64"], 0], 3)
      refine OpsS.nil (?_ : Sat _ _ _ _ _)
      refine cD (fun hc28 => ?_) (fun hc28 => ?_)
      ·
        have hcm : cmpI (l[i] : Nat) (m[i] : Nat) = cmpL l m := by
          rw [hi.2.2, hst]
          simp only [cmpI] at hc28 ⊢
          split <;> (try split) <;> simp_all <;> omega
        refine Sat.seq ?_
        refine rg hn ?_   -- region 9 slices.go:64
        refine Sp pm ?_   -- 29 := move(t8)
        refine Sp pa ?_   -- 4 := assign(t29)
        refine OpsS.nil (?_ : Sat _ _ _ _ _)
        refine Sat.ret (?_ : Vc.Fin _ _ _ _)
        exact fi (hq := ⟨congrArg _ hcm, rfl⟩)   -- fin 1
      ·
        have h28 : ¬ l[i] < m[i] ∧ ¬ m[i] < l[i] := by
          simp only [cmpI] at hc28
          constructor <;> intro hx <;> apply hc28 <;> (try split) <;> (try split) <;> simp <;> omega
        have hlt1 := h28.1
        have hlt2 := h28.2
        refine Sat.skip (?_ : Sat _ _ _ _ _)
        refine rg hn ?_   -- region 10 slices.go:58
        refine Sp (pb (h := (BinR.add (inI (by omega) (by omega))))) ?_   -- 30 := binOp(add, 3, t11, c[["Go.IntKind.i64"], 1], 3)
        refine Sp pm ?_   -- 11 := move(t30)
        refine OpsS.nil (?_ : ∃ _, _)
        refine ⟨i + 1, ⟨by omega, by omega, by rw [hi.2.2, cmpL_step l m i hil him, if_neg hlt1, if_neg hlt2]⟩, by omega, by repeat (first | exact trivial | refine And.intro (by rfl) ?_), rfl⟩
  ·
    refine Sat.exit (?_ : Sat _ _ _ _ _)
    refine Sat.seq ?_
    refine Sat.seq ?_
    refine rg hn ?_   -- region 11 slices.go:67
    refine Sp pm ?_   -- 31 := move(t0)
    refine Sp (pL ty23) ?_   -- 32 := call(mk(builtin(len), [t31], [23]))
    refine Sp pm ?_   -- 33 := move(t1)
    refine Sp (pL ty23) ?_   -- 34 := call(mk(builtin(len), [t33], [23]))
    refine Sp (pb (h := BinR.lss)) ?_   -- 35 := binOp(lss, 3, t32, t34, 3)
    refine OpsS.nil (?_ : Sat _ _ _ _ _)
    refine cD (fun hc35 => ?_) (fun hc35 => ?_)
    ·
      simp only [List.length_map] at hc12 hc35
      obtain rfl : i = l.length := by omega
      have hend := cmpL_end1 l m (by omega)
      refine Sat.seq ?_
      refine rg hn ?_   -- region 12 slices.go:68
      refine Sp pa ?_   -- 4 := assign(c[["Go.IntKind.i64"], -1])
      refine OpsS.nil (?_ : Sat _ _ _ _ _)
      refine Sat.ret (?_ : Vc.Fin _ _ _ _)
      exact fi (hq := ⟨by rw [hi.2.2, hend]; rfl, rfl⟩)   -- fin 2
    ·
      simp only [List.length_map] at hc12 hc35
      obtain rfl : i = l.length := by omega
      have hend := cmpL_end0 l m (by omega)
      refine Sat.skip (?_ : Sat _ _ _ _ _)
      refine Sat.seq ?_
      refine rg hn ?_   -- region 13 slices.go:70
      refine Sp pa ?_   -- 4 := assign(c[["Go.IntKind.i64"], 0])
      refine OpsS.nil (?_ : Sat _ _ _ _ _)
      refine Sat.ret (?_ : Vc.Fin _ _ _ _)
      exact fi (hq := ⟨by rw [hi.2.2, hend]; rfl, rfl⟩)   -- fin 3
/-- The order of sets of columns. -/
def bef (x y : Nat) : Bool := if (bl x).length ≠ (bl y).length then decide ((bl x).length < (bl y).length) else decide (cmpL (bl x) (bl y) < 0)

theorem bl_len (x : Nat) : (bl x).length ≤ 16 := Nat.le_trans (List.length_filter_le _ _) (by simp)
-- f10 dynamometer/probe.before
theorem before_ok (G : List (Nat × V)) (hG : G.lookup 1 = some gD64) (x y : Nat) (hx : x < 65536) (hy : y < 65536) : OkP Tryd.prog G 10 [.int .u64 (x : Int), .int .u64 (y : Int)] (.bool (bef x y)) := by
  refine Ok.of_sat (c := _) ⟨Tryd.func10, by kernel_rfl, rfl⟩ (n := 23) rfl (by simp) rfl fun C hG hn => ?_
  subst hG
  refine Sat.seq ?_
  refine rg hn ?_   -- region 0 compare.go:303
  refine Sp pa ?_   -- 4 := assign(c[false])
  refine OpsS.nil (?_ : Sat _ _ _ _ _)
  refine Sat.seq ?_
  refine Sat.seq ?_
  refine rg hn ?_   -- region 1 compare.go:304
  refine Sp pm ?_   -- 7 := move(t0)
  refine Sp (pc fb16 (hok := pop_ok _ x (by omega))) ?_   -- 8 := call(mk(value(f16), [t7], [33]))
  refine Sp pm ?_   -- 9 := move(t1)
  refine Sp (pc fb16 (hok := pop_ok _ y (by omega))) ?_   -- 10 := call(mk(value(f16), [t9], [33]))
  refine Sp pa ?_   -- 5 := assign(t8)
  refine Sp pa ?_   -- 6 := assign(t10)
  refine OpsS.nil (?_ : Sat _ _ _ _ _)
  refine Sat.seq ?_
  refine rg hn ?_   -- region 2 compare.go:304
  refine Sp pm ?_   -- 11 := move(t5)
  refine Sp pm ?_   -- 12 := move(t6)
  refine Sp (pb (h := BinR.neq)) ?_   -- 13 := binOp(neq, 3, t11, t12, 3)
  refine OpsS.nil (?_ : Sat _ _ _ _ _)
  refine cD (fun hc13 => ?_) (fun hc13 => ?_)
  ·
    rw [swar_eq hx, swar_eq hy] at hc13
    refine Sat.seq ?_
    refine rg hn ?_   -- region 3 compare.go:305
    refine Sp pm ?_   -- 14 := move(t5)
    refine Sp pm ?_   -- 15 := move(t6)
    refine Sp (pb (h := BinR.lss)) ?_   -- 16 := binOp(lss, 3, t14, t15, 3)
    refine Sp pa ?_   -- 4 := assign(t16)
    refine OpsS.nil (?_ : Sat _ _ _ _ _)
    refine Sat.ret (?_ : Vc.Fin _ _ _ _)
    exact fi (hq := ⟨by rw [swar_eq hx, swar_eq hy, bef, if_pos (by omega)]; simp [packR], rfl⟩)   -- fin 0
  ·
    rw [swar_eq hx, swar_eq hy] at hc13
    refine Sat.skip (?_ : Sat _ _ _ _ _)
    refine Sat.seq ?_
    refine rg hn ?_   -- region 4 compare.go:307
    refine Sp pm ?_   -- 17 := move(t0)
    refine Sp (pc fb11 (hok := list_ok _ hG x hx)) ?_   -- 18 := call(mk(value(f11), [t17], [33]))
    refine Sp pm ?_   -- 19 := move(t1)
    refine Sp (pc fb11 (hok := list_ok _ hG y hy)) ?_   -- 20 := call(mk(value(f11), [t19], [33]))
    refine Sp (pc fb17 (hok := scmp_ok _ _ _ (Nat.le_trans (bl_len x) (by decide)) (Nat.le_trans (bl_len y) (by decide)))) ?_   -- 21 := call(mk(value(f17), [t18, t20], [23, 23]))
    refine Sp (pb (h := BinR.lss)) ?_   -- 22 := binOp(lss, 3, t21, c[["Go.IntKind.i64"], 0], 3)
    refine Sp pa ?_   -- 4 := assign(t22)
    refine OpsS.nil (?_ : Sat _ _ _ _ _)
    refine Sat.ret (?_ : Vc.Fin _ _ _ _)
    exact fi (hq := ⟨by rw [bef, if_neg (by omega)]; rfl, rfl⟩)   -- fin 1
end Go.Proofs.YtkemjljbmdakbaaDoor
