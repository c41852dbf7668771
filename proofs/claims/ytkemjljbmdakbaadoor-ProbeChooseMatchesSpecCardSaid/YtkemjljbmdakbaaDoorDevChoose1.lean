import Derived.Test.YtkemjljbmdakbaaDoorFacts
import Derived.Test.YtkemjljbmdakbaaDoorDevBits
import Derived.Test.YtkemjljbmdakbaaDoorDevChoose0
namespace Go.Proofs.YtkemjljbmdakbaaDoor
open Go Go.Vc
theorem keep_nat (n : Nat) : (n : Int) = ((n : Nat) : Int) := rfl

theorem and_pred_lt {x : Nat} (h : x ≠ 0) (h' : x < 65536) : x &&& (x - 1) < x := (bl_step h h').2.2

theorem list_ok (G : List (Nat × V)) (hG : G.lookup 1 = some gD64) (x : Nat) (hx : x < 65536) : OkP Tryd.prog G 11 [.int .u64 (x : Int)] (eNats (bl x)) := by
  refine Ok.of_sat (c := _) ⟨Tryd.func11, by kernel_rfl, rfl⟩ (n := 16) rfl (by simp) rfl fun C hG hn => ?_
  subst hG
  refine Sat.seq ?_
  refine rg hn ?_
  refine Sp pa ?_
  refine OpsS.nil (?_ : Sat _ _ _ _ _)
  refine Sat.seq ?_
  refine rg hn ?_
  refine Sp pa ?_
  refine OpsS.nil (?_ : Sat _ _ _ _ _)
  refine Sat.seq ?_
  refine Sat.block ?_
  refine Sat.adoptC 1 3 (fun q => [(0, .int .u64 (x : Int)), (3, .osl q 0 0 0)]) (fun q => []) (fun q => ⟨⟨_, rfl, .refl _⟩, ⟨_, rfl, NilB.cl⟩, trivial⟩) (fun q => .nil) fun q => ?_
  refine Sat.loop (α := List Nat × Nat × Nat) (fun p => ⟨[(0, .int .u64 (p.2.1 : Int)), (3, .osl q p.2.2 0 p.1.length)], [(q, .row p.2.2 1 3 (p.1.map eNat))]⟩) (fun p => bl x = p.1 ++ bl p.2.1 ∧ p.2.1 < 65536) (fun p => p.2.1) (([], x, 0)) (⟨rfl, hx⟩) (by repeat (first | exact trivial | refine And.intro (by rfl) ?_)) (rfl) (fun p hp => ?_)
  obtain ⟨out, y, ver⟩ := p
  obtain ⟨hp1, hp2⟩ := hp
  dsimp only at hp1 hp2 ⊢
  have hlen : out.length ≤ 16 := by
    have h1 : (bl x).length ≤ 16 := Nat.le_trans (List.length_filter_le _ _) (by simp)
    rw [hp1] at h1; simp at h1; omega
  refine Sat.seq ?_
  refine Sat.seq ?_
  refine rg hn ?_
  refine Sp pm ?_
  refine Sp (pb (h := BinR.neq)) ?_
  refine OpsS.nil (?_ : Sat _ _ _ _ _)
  refine cD (fun hc5 => ?_) (fun hc5 => ?_)
  ·
    have hy0 : y ≠ 0 := by omega
    obtain ⟨hb1, hb2, hb3⟩ := bl_step hy0 hp2
    refine Sat.skip (?_ : Sat _ _ _ _ _)
    refine Sat.seq ?_
    refine Sat.block ?_
    refine rg hn ?_
    refine Sp pm ?_
    refine Sp pm ?_
    refine Sp (pc fb18 (hok := tz_ok _ hG y (by omega))) ?_
    refine Sp (pS ty23 sz3 ze3) ?_
    refine Se (eap 0 ty23 sz3 ze3 (hsrc := srcS ty23)) ?_
    refine Sp pa ?_
    refine OpsS.nil (?_ : Sat _ _ _ _ _)
    refine rg hn ?_
    refine Sp pm ?_
    refine Sp pm ?_
    refine Sp (pb (h := BinR.to (BinR.sub (inU (by omega) (by omega))) (congrArg (V.int .u64) (show (y : Int) - 1 = ((y - 1 : Nat) : Int) by omega)))) ?_
    refine Sp (pb (h := nAnd (a := y) (b := y - 1) (by rw [u64max]; omega) (by rw [u64max]; omega))) ?_
    refine Sp pa ?_
    refine OpsS.nil (?_ : ∃ _, _)
    refine ⟨(out ++ [Go.Lib.ctz 64 y], y &&& (y - 1), ver + 1), ⟨by rw [hp1, hb1]; simp, Nat.lt_trans hb3 hp2⟩, hb3, ⟨rfl, (by show some (V.osl q (ver + 1) 0 (out.length + 1)) = some (V.osl q (ver + 1) 0 (out ++ [Go.Lib.ctz 64 y]).length); simp), trivial⟩, (by show [(q, AObj.row (ver + 1) 1 _ _)] = [(q, AObj.row (ver + 1) 1 _ _)]; simp [eNat, List.take_of_length_le])⟩
  ·
    refine Sat.exit (?_ : Sat _ _ _ _ _)
    refine Sat.seq ?_
    obtain rfl : y = 0 := by omega
    rw [bl_zero, List.append_nil] at hp1
    refine Sat.freeze (k := 0) (loc' := [(3, eNats out)]) (obj' := []) rfl ⟨⟨_, rfl, Frz.all (by simp)⟩, trivial⟩ .nil ?_
    refine rg hn ?_
    refine Sp pm ?_
    refine Sp pa ?_
    refine OpsS.nil (?_ : Sat _ _ _ _ _)
    refine Sat.ret (?_ : Vc.Fin _ _ _ _)
    exact fi (hq := ⟨by rw [hp1]; rfl, rfl⟩)

theorem isNaN_ok (G : List (Nat × V)) (x : Int) : OkP Tryd.prog G 26 [.int .i64 x] (.bool false) := by
  refine Ok.of_sat (c := _) ⟨Tryd.func26, by kernel_rfl, rfl⟩ (n := 6) rfl (by simp) rfl fun C hG hn => ?_
  subst hG
  refine Sat.seq ?_
  refine rg hn ?_
  refine Sp pa ?_
  refine OpsS.nil (?_ : Sat _ _ _ _ _)
  refine Sat.seq ?_
  refine rg hn ?_
  refine Sp pm ?_
  refine Sp pm ?_
  refine Sp (pb (h := BinR.neq)) ?_
  refine Sp pa ?_
  refine OpsS.nil (?_ : Sat _ _ _ _ _)
  refine Sat.ret (?_ : Vc.Fin _ _ _ _)
  exact fi (hq := ⟨by simp [packR], rfl⟩)
def cmpI (x y : Int) : Int := if x < y then -1 else if y < x then 1 else 0

theorem cmp_ok (G : List (Nat × V)) (x y : Int) : OkP Tryd.prog G 22 [.int .i64 x, .int .i64 y] (.int .i64 (cmpI x y)) := by
  refine Ok.of_sat (c := _) ⟨Tryd.func22, by kernel_rfl, rfl⟩ (n := 20) rfl (by simp) rfl fun C hG hn => ?_
  subst hG
  refine Sat.seq ?_
  refine rg hn ?_
  refine Sp pa ?_
  refine OpsS.nil (?_ : Sat _ _ _ _ _)
  refine Sat.seq ?_
  refine rg hn ?_
  refine Sp pm ?_
  refine Sp (pc fb26 (hok := isNaN_ok _ _)) ?_
  refine Sp pa ?_
  refine OpsS.nil (?_ : Sat _ _ _ _ _)
  refine Sat.seq ?_
  refine rg hn ?_
  refine Sp pm ?_
  refine Sp (pc fb26 (hok := isNaN_ok _ _)) ?_
  refine Sp pa ?_
  refine OpsS.nil (?_ : Sat _ _ _ _ _)
  refine Sat.seq ?_
  refine Sat.seq ?_
  refine rg hn ?_
  refine Sp pm ?_
  refine OpsS.nil (?_ : Sat _ _ _ _ _)
  refine cF ?_
  refine Sat.skip (?_ : Sat _ _ _ _ _)
  refine Sat.seq ?_
  refine Sat.seq ?_
  refine rg hn ?_
  refine Sp pm ?_
  refine OpsS.nil (?_ : Sat _ _ _ _ _)
  refine cF ?_
  refine Sat.skip (?_ : Sat _ _ _ _ _)
  refine Sat.seq ?_
  refine Sat.seq ?_
  refine rg hn ?_
  refine Sp pm ?_
  refine Sp pm ?_
  refine Sp (pb (h := BinR.lss)) ?_
  refine OpsS.nil (?_ : Sat _ _ _ _ _)
  refine cD (fun hc16 => ?_) (fun hc16 => ?_)
  ·
    refine Sat.seq ?_
    refine rg hn ?_
    refine Sp pa ?_
    refine OpsS.nil (?_ : Sat _ _ _ _ _)
    refine Sat.ret (?_ : Vc.Fin _ _ _ _)
    exact fi (hq := ⟨by simp [packR, cmpI, hc16]; rfl, rfl⟩)
  ·
    refine Sat.skip (?_ : Sat _ _ _ _ _)
    refine Sat.seq ?_
    refine Sat.seq ?_
    refine rg hn ?_
    refine Sp pm ?_
    refine Sp pm ?_
    refine Sp (pb (h := BinR.gtr)) ?_
    refine OpsS.nil (?_ : Sat _ _ _ _ _)
    refine cD (fun hc19 => ?_) (fun hc19 => ?_)
    ·
      refine Sat.seq ?_
      refine rg hn ?_
      refine Sp pa ?_
      refine OpsS.nil (?_ : Sat _ _ _ _ _)
      refine Sat.ret (?_ : Vc.Fin _ _ _ _)
      exact fi (hq := ⟨by simp [packR, cmpI, hc16, hc19]; rfl, rfl⟩)
    ·
      refine Sat.skip (?_ : Sat _ _ _ _ _)
      refine Sat.seq ?_
      refine rg hn ?_
      refine Sp pa ?_
      refine OpsS.nil (?_ : Sat _ _ _ _ _)
      refine Sat.ret (?_ : Vc.Fin _ _ _ _)
      exact fi (hq := ⟨by simp [packR, cmpI, hc16, hc19]; rfl, rfl⟩)
/-- Lists of integers in order. -/
def cmpL : List Nat → List Nat → Int
  | [], [] => 0
  | [], _ :: _ => -1
  | _ :: _, [] => 1
  | a :: l, b :: m => if a < b then -1 else if b < a then 1 else cmpL l m

theorem cmpL_step (l m : List Nat) (i : Nat) (h1 : i < l.length) (h2 : i < m.length) : cmpL (l.drop i) (m.drop i) = if l[i] < m[i] then -1 else if m[i] < l[i] then 1 else cmpL (l.drop (i + 1)) (m.drop (i + 1)) := by
  rw [List.drop_eq_getElem_cons h1, List.drop_eq_getElem_cons h2]; rfl
theorem cmpL_end2 (l m : List Nat) (i : Nat) (h1 : i < l.length) (h2 : m.length ≤ i) : cmpL (l.drop i) (m.drop i) = 1 := by
  rw [List.drop_eq_getElem_cons h1, List.drop_eq_nil_of_le h2]; rfl
theorem cmpL_end1 (l m : List Nat) (h2 : l.length < m.length) : cmpL (l.drop l.length) (m.drop l.length) = -1 := by
  rw [List.drop_eq_getElem_cons h2, List.drop_eq_nil_of_le (Nat.le_refl _)]; rfl
theorem cmpL_end0 (l m : List Nat) (h2 : m.length ≤ l.length) : cmpL (l.drop l.length) (m.drop l.length) = 0 := by
  rw [List.drop_eq_nil_of_le h2, List.drop_eq_nil_of_le (Nat.le_refl _)]; rfl

theorem scmp_ok (G : List (Nat × V)) (l m : List Nat) (hl : l.length ≤ 9223372036854775807) (hm : m.length ≤ 9223372036854775807) : OkP Tryd.prog G 17 [eNats l, eNats m] (.int .i64 (cmpL l m)) := by
  refine Ok.of_sat (c := _) ⟨Tryd.func17, by kernel_rfl, rfl⟩ (n := 36) rfl (by simp) rfl fun C hG hn => ?_
  subst hG
  refine Sat.seq ?_
  refine rg hn ?_
  refine Sp pa ?_
  refine OpsS.nil (?_ : Sat _ _ _ _ _)
  refine Sat.seq ?_
  refine Sat.seq ?_
  refine rg hn ?_
  refine Sp pm ?_
  refine Sp (pL ty23) ?_
  refine Sp pm ?_
  refine OpsS.nil (?_ : Sat _ _ _ _ _)
  refine Sat.block ?_
  refine Sat.loop (α := Nat) (fun i => ⟨[(0, eNats l), (1, eNats m), (9, eNats l), (10, .int .i64 (l.map eNat).length), (11, .int .i64 (i : Nat))], []⟩) (fun i => i ≤ l.length ∧ i ≤ m.length ∧ cmpL l m = cmpL (l.drop i) (m.drop i)) (fun i => l.length - i) (0) (⟨Nat.zero_le _, Nat.zero_le _, rfl⟩) (by repeat (first | exact trivial | refine And.intro (by rfl) ?_)) (rfl) (fun i hi => ?_)
  refine Sat.seq ?_
  refine rg hn ?_
  refine Sp (pb (h := BinR.lss)) ?_
  refine OpsS.nil (?_ : Sat _ _ _ _ _)
  refine Sat.seq ?_
  refine cD (fun hc12 => ?_) (fun hc12 => ?_)
  ·
    simp only [List.length_map] at hc12
    have hil : i < l.length := by omega
    refine Sat.skip (?_ : Sat _ _ _ _ _)
    refine Sat.seq ?_
    refine Sat.block ?_
    refine Sat.seq ?_
    refine rg hn ?_
    refine Sp pm ?_
    refine Sp (piS ty23 sz3) ?_
    refine Sp (plR ty3) ?_
    refine Sp pa ?_
    refine Sp pa ?_
    refine OpsS.nil (?_ : Sat _ _ _ _ _)
    refine Sat.seq ?_
    refine Sat.seq ?_
    refine rg hn ?_
    refine Sp pm ?_
    refine Sp pm ?_
    refine Sp (pL ty23) ?_
    refine Sp (pb (h := BinR.geq)) ?_
    refine OpsS.nil (?_ : Sat _ _ _ _ _)
    refine cD (fun hc19 => ?_) (fun hc19 => ?_)
    ·
      simp only [List.length_map] at hc19
      have hend := cmpL_end2 l m i hil (by omega)
      refine Sat.seq ?_
      refine rg hn ?_
      refine Sp pa ?_
      refine OpsS.nil (?_ : Sat _ _ _ _ _)
      refine Sat.ret (?_ : Vc.Fin _ _ _ _)
      exact fi (hq := ⟨by rw [hi.2.2, hend]; rfl, rfl⟩)
    ·
      simp only [List.length_map] at hc19
      have him : i < m.length := by omega
      have hst := cmpL_step l m i hil him
      refine Sat.skip (?_ : Sat _ _ _ _ _)
      refine Sat.seq ?_
      refine rg hn ?_
      refine Sp pm ?_
      refine Sp pm ?_
      refine Sp (piS ty23 sz3) ?_
      refine Sp (plR ty3) ?_
      refine Sp pa ?_
      refine OpsS.nil (?_ : Sat _ _ _ _ _)
      refine Sat.seq ?_
      refine rg hn ?_
      refine Sp pm ?_
      refine Sp pm ?_
      refine Sp (pc fb22 (hok := cmp_ok _ _ _)) ?_
      refine Sp pa ?_
      refine OpsS.nil (?_ : Sat _ _ _ _ _)
      refine Sat.seq ?_
      refine rg hn ?_
      refine Sp pm ?_
      refine Sp (pb (h := BinR.neq)) ?_
      refine OpsS.nil (?_ : Sat _ _ _ _ _)
      refine cD (fun hc28 => ?_) (fun hc28 => ?_)
      ·
        have hcm : cmpI (l[i] : Nat) (m[i] : Nat) = cmpL l m := by
          rw [hi.2.2, hst]
          simp only [cmpI] at hc28 ⊢
          split <;> (try split) <;> simp_all <;> omega
        refine Sat.seq ?_
        refine rg hn ?_
        refine Sp pm ?_
        refine Sp pa ?_
        refine OpsS.nil (?_ : Sat _ _ _ _ _)
        refine Sat.ret (?_ : Vc.Fin _ _ _ _)
        exact fi (hq := ⟨congrArg _ hcm, rfl⟩)
      ·
        have h28 : ¬ l[i] < m[i] ∧ ¬ m[i] < l[i] := by
          simp only [cmpI] at hc28
          constructor <;> intro hx <;> apply hc28 <;> (try split) <;> (try split) <;> simp <;> omega
        have hlt1 := h28.1
        have hlt2 := h28.2
        refine Sat.skip (?_ : Sat _ _ _ _ _)
        refine rg hn ?_
        refine Sp (pb (h := (BinR.add (inI (by omega) (by omega))))) ?_
        refine Sp pm ?_
        refine OpsS.nil (?_ : ∃ _, _)
        refine ⟨i + 1, ⟨by omega, by omega, by rw [hi.2.2, cmpL_step l m i hil him, if_neg hlt1, if_neg hlt2]⟩, by omega, by repeat (first | exact trivial | refine And.intro (by rfl) ?_), rfl⟩
  ·
    refine Sat.exit (?_ : Sat _ _ _ _ _)
    refine Sat.seq ?_
    refine Sat.seq ?_
    refine rg hn ?_
    refine Sp pm ?_
    refine Sp (pL ty23) ?_
    refine Sp pm ?_
    refine Sp (pL ty23) ?_
    refine Sp (pb (h := BinR.lss)) ?_
    refine OpsS.nil (?_ : Sat _ _ _ _ _)
    refine cD (fun hc35 => ?_) (fun hc35 => ?_)
    ·
      simp only [List.length_map] at hc12 hc35
      obtain rfl : i = l.length := by omega
      have hend := cmpL_end1 l m (by omega)
      refine Sat.seq ?_
      refine rg hn ?_
      refine Sp pa ?_
      refine OpsS.nil (?_ : Sat _ _ _ _ _)
      refine Sat.ret (?_ : Vc.Fin _ _ _ _)
      exact fi (hq := ⟨by rw [hi.2.2, hend]; rfl, rfl⟩)
    ·
      simp only [List.length_map] at hc12 hc35
      obtain rfl : i = l.length := by omega
      have hend := cmpL_end0 l m (by omega)
      refine Sat.skip (?_ : Sat _ _ _ _ _)
      refine Sat.seq ?_
      refine rg hn ?_
      refine Sp pa ?_
      refine OpsS.nil (?_ : Sat _ _ _ _ _)
      refine Sat.ret (?_ : Vc.Fin _ _ _ _)
      exact fi (hq := ⟨by rw [hi.2.2, hend]; rfl, rfl⟩)
/-- The order of sets of columns. -/
def bef (x y : Nat) : Bool := if (bl x).length ≠ (bl y).length then decide ((bl x).length < (bl y).length) else decide (cmpL (bl x) (bl y) < 0)

theorem bl_len (x : Nat) : (bl x).length ≤ 16 := Nat.le_trans (List.length_filter_le _ _) (by simp)

theorem before_ok (G : List (Nat × V)) (hG : G.lookup 1 = some gD64) (x y : Nat) (hx : x < 65536) (hy : y < 65536) : OkP Tryd.prog G 10 [.int .u64 (x : Int), .int .u64 (y : Int)] (.bool (bef x y)) := by
  refine Ok.of_sat (c := _) ⟨Tryd.func10, by kernel_rfl, rfl⟩ (n := 23) rfl (by simp) rfl fun C hG hn => ?_
  subst hG
  refine Sat.seq ?_
  refine rg hn ?_
  refine Sp pa ?_
  refine OpsS.nil (?_ : Sat _ _ _ _ _)
  refine Sat.seq ?_
  refine Sat.seq ?_
  refine rg hn ?_
  refine Sp pm ?_
  refine Sp (pc fb16 (hok := pop_ok _ x (by omega))) ?_
  refine Sp pm ?_
  refine Sp (pc fb16 (hok := pop_ok _ y (by omega))) ?_
  refine Sp pa ?_
  refine Sp pa ?_
  refine OpsS.nil (?_ : Sat _ _ _ _ _)
  refine Sat.seq ?_
  refine rg hn ?_
  refine Sp pm ?_
  refine Sp pm ?_
  refine Sp (pb (h := BinR.neq)) ?_
  refine OpsS.nil (?_ : Sat _ _ _ _ _)
  refine cD (fun hc13 => ?_) (fun hc13 => ?_)
  ·
    rw [swar_eq hx, swar_eq hy] at hc13
    refine Sat.seq ?_
    refine rg hn ?_
    refine Sp pm ?_
    refine Sp pm ?_
    refine Sp (pb (h := BinR.lss)) ?_
    refine Sp pa ?_
    refine OpsS.nil (?_ : Sat _ _ _ _ _)
    refine Sat.ret (?_ : Vc.Fin _ _ _ _)
    exact fi (hq := ⟨by rw [swar_eq hx, swar_eq hy, bef, if_pos (by omega)]; simp [packR], rfl⟩)
  ·
    rw [swar_eq hx, swar_eq hy] at hc13
    refine Sat.skip (?_ : Sat _ _ _ _ _)
    refine Sat.seq ?_
    refine rg hn ?_
    refine Sp pm ?_
    refine Sp (pc fb11 (hok := list_ok _ hG x hx)) ?_
    refine Sp pm ?_
    refine Sp (pc fb11 (hok := list_ok _ hG y hy)) ?_
    refine Sp (pc fb17 (hok := scmp_ok _ _ _ (Nat.le_trans (bl_len x) (by decide)) (Nat.le_trans (bl_len y) (by decide)))) ?_
    refine Sp (pb (h := BinR.lss)) ?_
    refine Sp pa ?_
    refine OpsS.nil (?_ : Sat _ _ _ _ _)
    refine Sat.ret (?_ : Vc.Fin _ _ _ _)
    exact fi (hq := ⟨by rw [bef, if_neg (by omega)]; rfl, rfl⟩)
end Go.Proofs.YtkemjljbmdakbaaDoor
