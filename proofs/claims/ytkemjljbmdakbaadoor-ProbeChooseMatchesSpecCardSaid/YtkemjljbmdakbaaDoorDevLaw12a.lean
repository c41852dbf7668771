import Derived.Test.YtkemjljbmdakbaaDoorFacts
import Derived.Test.YtkemjljbmdakbaaDoorDevChooseLaw
import Derived.Test.YtkemjljbmdakbaaDoorDevInk
namespace Go.Proofs.YtkemjljbmdakbaaDoor
open Go Go.Vc
theorem inkNil (q : Nat) : Clo (NilB q) (.agg [.nilsl]) (.agg [.osl q 0 0 0]) := .agg _ _ rfl (fun i x y h1 h2 => by cases i <;> simp at h1 h2; subst h1; subst h2; exact NilB.cl)

def toldT (l : List Nat) (e : Nat) : List UInt8 := tInt (l.length : Nat) ++ tInts l ++ tInt (e : Int)
-- f5 dynamometer/dynamometerlaw12.toldInts
theorem toldInts_ok (G : List (Nat × V)) (hG2 : G.lookup 2 = some gP10) (l : List Nat) (hl : l.length ≤ 1000000000) (hx : ∀ x ∈ l, x ≤ 9223372036854775807) (e : Nat) (he : e ≤ 1000) : OkP Tryd.prog G 5 [eNats l, .int .i64 (e : Nat)] (.str (toldT l e)) := by
  refine Ok.of_sat (c := _) ⟨Tryd.func5, by kernel_rfl, rfl⟩ (n := 16) rfl (by simp) rfl fun C hG hn => ?_
  subst hG
  refine Sat.seq ?_
  refine rg hn ?_   -- region 0 law.go:33
  refine Sp pa ?_   -- 4 := assign(c[["ByteArray.mk", []]])
  refine OpsS.nil (?_ : Sat _ _ _ _ _)
  refine Sat.seq ?_
  refine rg hn ?_   -- region 1 law.go:34
  refine Sp (pbu pl40 ze40) ?_   -- 6 := build(40, [])
  refine Sbx (fun q1 => ?_)   -- 7 := box(40, t6)
  refine Sp pa ?_   -- 5 := assign(t7)
  refine OpsS.nil (?_ : Sat _ _ _ _ _)
  refine Sat.seq ?_
  refine Sat.adoptC 1 5 (fun q => [(0, eNats l), (1, .int .i64 (e : Nat)), (5, .own q1 0 0 0)]) (fun q => [(q1, .row 0 1 40 [.agg [.osl q 0 0 0]])]) (fun q => ⟨⟨_, rfl, .refl _⟩, ⟨_, rfl, .refl _⟩, ⟨_, rfl, .refl _⟩, trivial⟩) (fun q => .row1 (inkNil q) .nil) fun q => ?_
  refine Sat.perm (inkO q1 q 0 []) (List.Perm.swap _ _ _) ?_
  refine rg hn ?_   -- region 2 law.go:35
  refine Sp pm ?_   -- 8 := move(t5)
  refine Sp pm ?_   -- 9 := move(t0)
  refine Sc (inkO q1 q 0 []) [] fb12 (hok := inkInts_ok _ hG2 q1 q 0 [] (by simp) l hl hx) (h := fun r obj' hQ => ?_)
  obtain ⟨ver1, rfl, rfl⟩ := hQ
  have h1 := tInt_len (i := (l.length : Nat)) (by omega) (by omega)
  have h2 := tInts_len l hx
  have hbl : ([] ++ tInt (l.length : Nat) ++ tInts l).length ≤ 900000000000 := by simp at h1 h2 ⊢; omega   -- 10 := call(mk(value(f12), [t8, t9], [37, 23]))
  refine OpsS.nil (?_ : Sat _ _ _ _ _)
  refine Sat.seq ?_
  refine rg hn ?_   -- region 3 law.go:36
  refine Sp pm ?_   -- 11 := move(t5)
  refine Sp pm ?_   -- 12 := move(t1)
  refine Sc (inkO q1 q ver1 _) [] fb13 (hok := inkErrno_ok _ hG2 q1 q ver1 _ hbl (e : Nat) (by omega) (by omega)) (h := fun r obj' hQ => ?_)
  obtain ⟨ver2, rfl, rfl⟩ := hQ   -- 13 := call(mk(value(f13), [t11, t12], [37, 24]))
  refine OpsS.nil (?_ : Sat _ _ _ _ _)
  refine Sat.seq ?_
  refine rg hn ?_   -- region 4 law.go:37
  refine Sp pm ?_   -- 14 := move(t5)
  refine Sc (inkO q1 q ver2 _) [] fb14 (hok := inkTold_ok _ q1 q ver2 _) (h := fun r obj' hQ => ?_)
  obtain ⟨rfl, rfl⟩ := hQ   -- 15 := call(mk(value(f14), [t14], [37]))
  refine Sp pa ?_   -- 4 := assign(t15)
  refine OpsS.letgo [] (List.nil_sublist _) ?_
  refine OpsS.nil (?_ : Sat _ _ _ _ _)
  refine Sat.ret (?_ : Vc.Fin _ _ _ _)
  exact fi (hq := ⟨by simp [packR, toldT], rfl⟩)   -- fin 0
-- f7 dynamometer/dynamometerlaw12.chooses
theorem chooses_ok (G : List (Nat × V)) (hG : G.lookup 1 = some gD64) : OkP Tryd.prog G 7 [] (.bool true) := by
  refine Ok.of_sat (c := _) ⟨Tryd.func7, by kernel_rfl, rfl⟩ (n := 23) rfl (by simp) rfl fun C hG hn => ?_
  subst hG
  refine Sat.seq ?_
  refine rg hn ?_   -- region 0 law.go:14
  refine Sp pa ?_   -- 0 := assign(c[false])
  refine OpsS.nil (?_ : Sat _ _ _ _ _)
  refine Sat.seq ?_
  refine rg hn ?_   -- region 1 law.go:15
  refine Sp (pS ty31 sz4 ze4) ?_   -- 4 := buildSlice(31, 3, [[0, c[true]], [1, c[false]], [2, c[true]]])
  refine Sp (pS ty31 sz4 ze4) ?_   -- 5 := buildSlice(31, 3, [[0, c[false]], [1, c[true]], [2, c[true]]])
  refine Sp (pS ty22 sz31 ze31) ?_   -- 6 := buildSlice(22, 2, [[0, t4], [1, t5]])
  refine Sp (pc (r := .tuple [eNats [2], .int .i64 ((0 : Nat) : Int)]) fb4 (hok := by
    have h := choose_ok _ hG [[true, false, true], [false, true, true]] (by decide) (by decide)
    rwa [chooses_law.1, chooses_law.2] at h)) ?_   -- 7 := call(mk(value(f4), [t6], [22]))
  refine Sp pm ?_   -- 3 := move(t7)
  refine Sp px ?_   -- 8 := extract(t3, 0)
  refine Sp px ?_   -- 9 := extract(t3, 1)
  refine Sp pa ?_   -- 1 := assign(t8)
  refine Sp pa ?_   -- 2 := assign(t9)
  refine OpsS.nil (?_ : Sat _ _ _ _ _)
  refine Sat.seq ?_
  refine rg hn ?_   -- region 2 law.go:16
  refine Sp pm ?_   -- 10 := move(t2)
  refine Sp (pb (h := BinR.eql)) ?_   -- 11 := binOp(eql, 24, t10, c[["Go.IntKind.i64"], 0], 24)
  refine Sp pm ?_   -- 12 := move(t11)
  first | refine Sk ?_ | refine Sp pm ?_   -- 13 := move(t1)  [guard [2, True]]
  first | refine Sk ?_ | refine Sp (pL ty23) ?_   -- 14 := call(mk(builtin(len), [t13], [23]))  [guard [2, True]]
  first | refine Sk ?_ | refine Sp (pb (h := BinR.eql)) ?_   -- 15 := binOp(eql, 3, t14, c[["Go.IntKind.i64"], 1], 3)  [guard [2, True]]
  refine Sp pk ?_   -- 16 := pick(t12, t15, c[false])
  refine Sp pm ?_   -- 17 := move(t16)
  first | refine Sk ?_ | refine Sp pm ?_   -- 18 := move(t1)  [guard [7, True]]
  first | refine Sk ?_ | refine Sp (piS ty23 sz3) ?_   -- 19 := indexAddr(23, t18, c[["Go.IntKind.i64"], 0])  [guard [7, True]]
  first | refine Sk ?_ | refine Sp (plR ty3 (hi := rfl)) ?_   -- 20 := load(3, t19)  [guard [7, True]]
  first | refine Sk ?_ | refine Sp (pb (h := BinR.eql)) ?_   -- 21 := binOp(eql, 3, t20, c[["Go.IntKind.i64"], 2], 3)  [guard [7, True]]
  refine Sp pk ?_   -- 22 := pick(t17, t21, c[false])
  refine Sp pa ?_   -- 0 := assign(t22)
  refine OpsS.nil (?_ : Sat _ _ _ _ _)
  refine Sat.ret (?_ : Vc.Fin _ _ _ _)
  exact fi (hq := ⟨rfl, rfl⟩)   -- fin 0
-- f3 dynamometer/dynamometerlaw12.ProbeChooseMatchesSpec
theorem law_ok (G : List (Nat × V)) (hG : G.lookup 1 = some gD64) (hG2 : G.lookup 2 = some gP10) (m : List (List Bool)) (hm : m.length ≤ 9223372036854775807) (hr : ∀ r ∈ m, r.length ≤ 9223372036854775807) : OkP Tryd.prog G 3 [eM m] (.bool true) := by
  refine Ok.of_sat (c := _) ⟨Tryd.func3, by kernel_rfl, rfl⟩ (n := 45) rfl (by simp) rfl fun C hG hn => ?_
  subst hG
  obtain ⟨hch, hlst⟩ := choice_eq m
  have hbl16 : (chI m).length ≤ 16 := by
    rw [chI]; split
    · simp
    · exact bl_len _
  have hb16 : ∀ x ∈ chI m, x ≤ 9223372036854775807 := by
    intro x hx
    rw [chI] at hx; split at hx
    · simp at hx
    · have := ((mem_bl _ _).1 hx).1; omega
  have hcE : chE m ≤ 3 := by rw [chE]; split <;> (try split) <;> omega
  refine Sat.seq ?_
  refine rg hn ?_   -- region 0 law.go:289
  refine Sp pa ?_   -- 2 := assign(c[false])
  refine OpsS.nil (?_ : Sat _ _ _ _ _)
  refine Sat.seq ?_
  refine rg hn ?_   -- region 1 law.go:290
  refine Sp pm ?_   -- 7 := move(t0)
  refine Sp (pc fb4 (hok := choose_ok _ hG m hm hr)) ?_   -- 8 := call(mk(value(f4), [t7], [22]))
  refine Sp pm ?_   -- 6 := move(t8)
  refine Sp px ?_   -- 9 := extract(t6, 0)
  refine Sp px ?_   -- 10 := extract(t6, 1)
  refine Sp pa ?_   -- 3 := assign(t9)
  refine Sp pa ?_   -- 4 := assign(t10)
  refine OpsS.nil (?_ : Sat _ _ _ _ _)
  refine Sat.seq ?_
  refine Sat.seq ?_
  refine rg hn ?_   -- region 2 law.go:291
  refine Sp pm ?_   -- 11 := move(t3)
  refine Sp pm ?_   -- 12 := move(t4)
  refine Sp (pc fb5 (hok := toldInts_ok _ hG2 (chI m) (by omega) hb16 (chE m) (by omega))) ?_   -- 13 := call(mk(value(f5), [t11, t12], [23, 24]))
  refine Sp pm ?_   -- 14 := move(t0)
  refine Sp (pc fb6 (hok := hch ▸ chooseR_ok _ m hm hr)) ?_   -- 15 := call(mk(value(f6), [t14], [22]))
  refine Sp px ?_   -- 16 := extract(t15, 0)
  refine Sp px ?_   -- 17 := extract(t15, 1)
  refine Sp (pc fb5 (hok := toldInts_ok _ hG2 (chI m) (by omega) hb16 (chE m) (by omega))) ?_   -- 18 := call(mk(value(f5), [t16, t17], [23, 24]))
  refine Sp (pb (h := BinR.sneq)) ?_   -- 19 := binOp(neq, 9, t13, t18, 9)
  refine OpsS.nil (?_ : Sat _ _ _ _ _)
  refine cB (fun hc19 => ?_) (fun hc19 => ?_)
  ·
    simp at hc19
  ·
    refine Sat.skip (?_ : Sat _ _ _ _ _)
    refine Sat.seq ?_
    refine Sat.seq ?_
    refine rg hn ?_   -- region 4 law.go:294
    refine Sp pm ?_   -- 20 := move(t4)
    refine Sp (pb (h := BinR.neq)) ?_   -- 21 := binOp(neq, 24, t20, c[["Go.IntKind.i64"], 0], 24)
    refine OpsS.nil (?_ : Sat _ _ _ _ _)
    refine cD (fun hc21 => ?_) (fun hc21 => ?_)
    ·
      refine Sat.seq ?_
      refine rg hn ?_   -- region 5 law.go:295
      refine Sp (pc fb7 (hok := chooses_ok _ hG)) ?_   -- 22 := call(mk(value(f7), [], []))
      refine Sp pa ?_   -- 2 := assign(t22)
      refine OpsS.nil (?_ : Sat _ _ _ _ _)
      refine Sat.ret (?_ : Vc.Fin _ _ _ _)
      exact fi (hq := ⟨rfl, rfl⟩)   -- fin 0
    ·
      have h0 : chE m = 0 := by omega
      have hls := hlst h0
      obtain ⟨hw16, hrw⟩ := chE_facts h0
      have henr : ∀ r ∈ m, r.length ≤ 9223372036854775807 ∧ ∀ k ∈ chI m, k < r.length := fun r hr' => ⟨hr r hr', fun k hk => by rw [hrw r hr']; exact hls.up.2 k hk⟩
      refine Sat.skip (?_ : Sat _ _ _ _ _)
      refine Sat.seq ?_
      refine Sat.seq ?_
      refine rg hn ?_   -- region 6 law.go:297
      refine Sp pm ?_   -- 23 := move(t0)
      refine Sp pm ?_   -- 24 := move(t3)
      refine Sp (pc fb8 (hok := hls.en ▸ enough_ok _ m (chI m) hm (by omega) henr)) ?_   -- 25 := call(mk(value(f8), [t23, t24], [22, 23]))
      refine Sp pnot ?_   -- 26 := unOp(not, 4, t25)
      refine OpsS.nil (?_ : Sat _ _ _ _ _)
      refine cF ?_
      refine Sat.skip (?_ : Sat _ _ _ _ _)
      refine Sat.seq ?_
      refine Sat.seq ?_
      refine rg hn ?_   -- region 8 law.go:300
      refine Sp pa ?_   -- 5 := assign(c[["Go.IntKind.i64"], 0])
      refine OpsS.nil (?_ : Sat _ _ _ _ _)
      refine Sat.block ?_
      refine Sat.loop (α := Nat) (fun k => ⟨[(0, eM m), (3, eNats (chI m)), (5, .int .i64 (k : Nat))], []⟩) (fun k => k ≤ (chI m).length) (fun k => (chI m).length - k) (0) (by first | trivial | omega | (simp; done)) (by repeat (first | exact trivial | refine And.intro (by rfl) ?_)) (rfl) (fun i hi => ?_)   -- loop 0
      refine Sat.seq ?_
      refine Sat.seq ?_
      refine rg hn ?_   -- region 9 law.go:300
      refine Sp pm ?_   -- 27 := move(t5)
      refine Sp pm ?_   -- 28 := move(t3)
      first | refine Sp (pL ty23) ?_ | refine Sp (pLO 0 ty23) ?_   -- 29 := call(mk(builtin(len), [t28], [23]))
      refine Sp (pb (h := BinR.lss)) ?_   -- 30 := binOp(lss, 3, t27, t29, 3)
      refine OpsS.nil (?_ : Sat _ _ _ _ _)
      refine cD (fun hc30 => ?_) (fun hc30 => ?_)
      ·
        simp only [List.length_map] at hc30
        have hil : i < (chI m).length := by omega
        have hno := choice_min hls i hil
        refine Sat.skip (?_ : Sat _ _ _ _ _)
        refine Sat.seq ?_
        refine Sat.block ?_
        refine Sat.seq ?_
        refine Sat.reserve 1 fun q => ?_
        refine dr [0, 0, 0, 0, 2, 0, 0, 0, 0, 2, 1] mixed hn ?_   -- region 11 law.go:301
        refine Df (fun _ => pm) ?_   -- 33 := move(t0)
        refine Df (fun _ => pm) ?_   -- 34 := move(t3)
        refine Df (fun _ => pm) ?_   -- 35 := move(t5)
        refine Df (fun _ => (pslS 0 i ty23 sz3 (hl := bnd0) (hh := bndI))) ?_   -- 36 := slice(23, t34, None, t35, None)
        refine De (ean 0 ty23 sz3 ze3 (hsrc := srcS ty23 (hc := fun d hd => eNat_cells _ d (List.mem_of_mem_drop (List.mem_of_mem_take hd))))) ?_   -- 37 := call(mk(builtin(append), [c[null, 0, 0], t36], [23, 23]))
        refine Df (fun _ => pm) ?_   -- 38 := move(t3)
        refine Df (fun _ => pm) ?_   -- 39 := move(t5)
        refine Df (fun _ => (pb (h := (BinR.add (inI (by omega) (by omega)))))) ?_   -- 40 := binOp(add, 3, t39, c[["Go.IntKind.i64"], 1], 3)
        refine Df (fun _ => (pslS (i + 1) (chI m).length ty23 sz3 (hl := bndI) (hh := by simp [bndV]))) ?_   -- 41 := slice(23, t38, t40, None, None)
        refine De (eap 0 ty23 sz3 ze3 (hsrc := srcS ty23 (hc := fun d hd => eNat_cells _ d (List.mem_of_mem_drop (List.mem_of_mem_take hd))))) ?_   -- 42 := call(mk(builtin(append), [t37, t41], [23, 23]))
        refine Dp (pcv fb8 (r := .bool false) (ds' := [eM m, eNats ((chI m).take i ++ (chI m).drop (i + 1))]) (hok := hno ▸ enough_ok _ m _ hm (by simp; omega) (fun r hr' => ⟨hr r hr', fun k hk => (henr r hr').2 k (by
          rcases List.mem_append.1 hk with h | h
          · exact List.mem_of_mem_take h
          · exact List.mem_of_mem_drop h)⟩)) (hcl := by exact ⟨.refl _, ViewB.all (e := 3) (elems := ((chI m).take i ++ (chI m).drop (i + 1)).map eNat) 0 (by show some (q, AObj.row _ _ _ _) = some (q, AObj.row _ _ _ _); simp [List.map_take, List.map_drop, List.take_of_length_le]) (by first | (simp; done) | (simp; omega)), rfl⟩)) ?_   -- 43 := call(mk(value(f8), [t33, t42], [22, 23]))
        refine OpsD.nil (?_ : Sat _ _ _ _ _)
        refine cF ?_
        refine Sat.skip (?_ : Sat _ _ _ _ _)
        refine Sat.letgo [] (List.nil_sublist _) ?_
        refine rg hn ?_   -- region 10 law.go:300
        refine Sp pm ?_   -- 31 := move(t5)
        refine Sp (pb (h := (BinR.add (inI (by omega) (by omega))))) ?_   -- 32 := binOp(add, 3, t31, c[["Go.IntKind.i64"], 1], 3)
        refine Sp pa ?_   -- 5 := assign(t32)
        refine OpsS.nil (?_ : ∃ _, _)
        refine ⟨i + 1, by omega, by omega, by repeat (first | exact trivial | refine And.intro (by rfl) ?_), rfl⟩
      ·
        refine Sat.exit (?_ : Sat _ _ _ _ _)
        refine Sat.seq ?_
        refine rg hn ?_   -- region 13 law.go:305
        refine Sp (pc fb7 (hok := chooses_ok _ hG)) ?_   -- 44 := call(mk(value(f7), [], []))
        refine Sp pa ?_   -- 2 := assign(t44)
        refine OpsS.nil (?_ : Sat _ _ _ _ _)
        refine Sat.ret (?_ : Vc.Fin _ _ _ _)
        exact fi (hq := ⟨rfl, rfl⟩)   -- fin 1
end Go.Proofs.YtkemjljbmdakbaaDoor
