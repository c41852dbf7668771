import Derived.Test.YtkemjljbmdakbaaDoorFacts
import Derived.Test.YtkemjljbmdakbaaDoorVcFmt
import Derived.Lib.ItoaLen
import Derived.Test.YtkemjljbmdakbaaDoorShelf
import Derived.Test.YtkemjljbmdakbaaDoorDevChoose0
namespace Go.Proofs.YtkemjljbmdakbaaDoor
open Go Go.Vc
open Go.Lib

theorem len64_ok (G : List (Nat × V)) (u : Nat) (h : u < 18446744073709551616) : OkP Tryd.prog G 34 [.int .u64 (u : Int)] (.int .i64 (Go.Lib.bitLen u : Nat)) :=
  .ofInt (fun E => .int _ _) fun w => by
    have := Tryd.bits_Len64 (u : Int) w (by omega) (by omega)
    rwa [show ((u : Int)).toNat = u by omega] at this
theorem log10_ok (G : List (Nat × V)) (x : Nat) (h : x ≤ 64) : OkP Tryd.prog G 33 [.int .i64 (x : Int)] (.int .i64 (l10 x : Nat)) := .ofInt (fun E => .int _ _) fun w => Tryd.internal_strconv_log10Pow2 x h w
theorem bool2_ok (G : List (Nat × V)) (b : Bool) : OkP Tryd.prog G 35 [.bool b] (.int .i64 (if b then 1 else 0)) := .ofBool (fun E => .int _ _) fun w => Tryd.internal_strconv_bool2_int b w
theorem small_ok (G : List (Nat × V)) (i : Nat) (h : i < 100) : OkP Tryd.prog G 29 [.int .i64 (i : Int)] (.str (decDigits i)) := .ofInt (fun E => .str _) fun w => Tryd.internal_strconv_small i h w

def gP10 : V := .ref 20 [.agg (pow10Tab.map fun n => V.int .u64 n)] 0 0
theorem p10_get {i : Nat} (h : i < 20) : (V.agg (pow10Tab.map fun n => V.int .u64 n)).cells[0 + 0 + i * 1]? = some (.int .u64 ((10 ^ i : Nat) : Int)) := by
  have h1 := pow10Tab_at i h
  rw [List.getD_eq_getElem?_getD, List.getElem?_eq_getElem (by rw [pow10Tab_length]; exact h)] at h1
  simp only [Option.getD_some] at h1
  simp only [V.cells]
  rw [show 0 + 0 + i * 1 = i by omega, List.getElem?_map, List.getElem?_eq_getElem (by rw [pow10Tab_length]; exact h), h1]
  rfl
-- f30 internal/strconv.numDigits
theorem numDigits_ok (G : List (Nat × V)) (hG : G.lookup 2 = some gP10) (u : Nat) (h1 : 1 ≤ u) (h2 : u < 18446744073709551616) : OkP Tryd.prog G 30 [.int .u64 (u : Int)] (.int .i64 (nDigits u : Nat)) := by
  refine Ok.of_sat (c := _) ⟨Tryd.func30, by kernel_rfl, rfl⟩ (n := 15) rfl (by simp) rfl fun C hG hn => ?_
  subst hG
  obtain ⟨hnd, h19⟩ := numDigits_eq u h1 h2
  have hL : Go.Lib.bitLen u ≤ 64 := bitLen_le u 64 (Nat.le_refl _) h2
  refine Sat.seq ?_
  refine rg hn ?_   -- region 0 uscale.go:287
  refine Sp pa ?_   -- 2 := assign(c[["Go.IntKind.i64"], 0])
  refine OpsS.nil (?_ : Sat _ _ _ _ _)
  refine Sat.seq ?_
  refine rg hn ?_   -- region 1 uscale.go:288
  refine Sp pm ?_   -- 4 := move(t0)
  refine Sp (pc fb34 (hok := len64_ok _ u h2)) ?_   -- 5 := call(mk(value(f34), [t4], [52]))
  refine Sp (pc fb33 (hok := log10_ok _ _ hL)) ?_   -- 6 := call(mk(value(f33), [t5], [3]))
  refine Sp pa ?_   -- 3 := assign(t6)
  refine OpsS.nil (?_ : Sat _ _ _ _ _)
  refine Sat.seq ?_
  refine rg hn ?_   -- region 2 uscale.go:289
  refine Sp pm ?_   -- 7 := move(t3)
  refine Sp pm ?_   -- 8 := move(t0)
  refine Sp pm ?_   -- 9 := move(t3)
  refine Sp (piA (l10 (Go.Lib.bitLen u)) ty66 sz52 (ho := rfl) (hx := hG)) ?_   -- 10 := indexAddr(66, g2, t9)
  refine Sp (plR (e := .agg (pow10Tab.map fun n => V.int .u64 n)) ty52 (hi := rfl) (hc := p10_get (by omega))) ?_   -- 11 := load(52, t10)
  refine Sp (pb (h := BinR.geq)) ?_   -- 12 := binOp(geq, 52, t8, t11, 52)
  refine Sp (pc fb35 (hok := bool2_ok _ _)) ?_   -- 13 := call(mk(value(f35), [t12], [4]))
  refine Sp (pb (h := BinR.to (BinR.add (by split <;> exact inI (by omega) (by omega))) (show V.int .i64 _ = V.int .i64 (nDigits u : Nat) from congrArg _ (by
    rw [← hnd]
    simp only [decide_eq_true_eq]
    by_cases hq : 10 ^ l10 (Go.Lib.bitLen u) ≤ u
    · rw [if_pos hq, if_pos (by exact_mod_cast hq)]; rfl
    · rw [if_neg hq, if_neg (by exact_mod_cast hq)]; rfl)))) ?_   -- 14 := binOp(add, 3, t7, t13, 3)
  refine Sp pa ?_   -- 2 := assign(t14)
  refine OpsS.nil (?_ : Sat _ _ _ _ _)
  refine Sat.ret (?_ : Vc.Fin _ _ _ _)
  exact fi (hq := ⟨rfl, rfl⟩)   -- fin 0
theorem byteV_cells (bs : List UInt8) : ∀ d ∈ bs.map byteV, d.cells.length = 1 := by
  intro d hd
  obtain ⟨x, _, rfl⟩ := List.mem_map.1 hd
  rfl

/-- What an append of bytes leaves. -/
def AppQ (q : Nat) (bs : List UInt8) (r : V) (o : Objs) : Prop := ∃ ver, r = .osl q ver 0 bs.length ∧ o = [(q, .row ver 1 5 (bs.map byteV))]
-- f28 internal/strconv.AppendUint
theorem appendUint_ok (G : List (Nat × V)) (hG : G.lookup 2 = some gP10) (q ver : Nat) (bs : List UInt8) (hb : bs.length ≤ 1099511627776) (u : Nat) (h2 : u < 18446744073709551616) : Ok Tryd.prog G 28 [.osl q ver 0 bs.length, .int .u64 (u : Int), .int .i64 10] [(q, .row ver 1 5 (bs.map byteV))] (AppQ q (bs ++ decDigits u)) := by
  refine Ok.of_sat (c := _) ⟨Tryd.func28, by kernel_rfl, rfl⟩ (n := 36) rfl (by simp) rfl fun C hG hn => ?_
  subst hG
  refine Sat.seq ?_
  refine rg hn ?_   -- region 0 itoa.go:69
  refine Sp pa ?_   -- 6 := assign(c[null, 0, 0])
  refine OpsS.nil (?_ : Sat _ _ _ _ _)
  refine Sat.seq ?_
  refine Sat.seq ?_
  refine rg hn ?_   -- region 1 itoa.go:70
  refine Sp pm ?_   -- 9 := move(t2)
  refine Sp (pb (h := BinR.eql)) ?_   -- 10 := binOp(eql, 3, t9, c[["Go.IntKind.i64"], 10], 3)
  refine OpsS.nil (?_ : Sat _ _ _ _ _)
  refine cD (fun hc10 => ?_) (fun hc10 => ?_)
  ·
    refine Sat.seq ?_
    refine Sat.seq ?_
    refine rg hn ?_   -- region 2 itoa.go:71
    refine Sp pm ?_   -- 11 := move(t1)
    refine Sp (pb (h := BinR.lss)) ?_   -- 12 := binOp(lss, 52, t11, c[["Go.IntKind.u64"], 100], 52)
    refine OpsS.nil (?_ : Sat _ _ _ _ _)
    refine cD (fun hc12 => ?_) (fun hc12 => ?_)
    ·
      have hu : u < 100 := by omega
      have hd20 : (decDigits u).length ≤ 20 := by rw [decDigits_length]; exact nDigits_le20 u h2
      refine Sat.seq ?_
      refine rg hn ?_   -- region 3 itoa.go:72
      refine Sp pm ?_   -- 13 := move(t0)
      refine Sp pm ?_   -- 14 := move(t1)
      refine Sp (pci ty52 ty3 (hin := inI (by omega) (by omega))) ?_   -- 15 := convert(52, 3, t14)
      refine Sp (pc fb29 (hok := small_ok _ u hu)) ?_   -- 16 := call(mk(value(f29), [t15], [3]))
      refine Se (eap 0 ty38 sz5 ze5 (hsrc := srcT ty9)) ?_   -- 17 := call(mk(builtin(append), [t13, t16], [38, 9]))
      refine Sp pa ?_   -- 6 := assign(t17)
      refine OpsS.nil (?_ : Sat _ _ _ _ _)
      refine Sat.ret (?_ : Vc.Fin _ _ _ _)
      exact fi (hq := ⟨ver + 1, by simp [packR], by show [(q, AObj.row _ _ _ _)] = [(q, AObj.row _ _ _ _)]; simp [List.take_of_length_le]⟩)   -- fin 0
    ·
      have hn20 := nDigits_le20 u h2
      have hn1 := nDigits_pos u
      have hdl : (decDigits u).length = nDigits u := decDigits_length u
      refine Sat.skip (?_ : Sat _ _ _ _ _)
      refine Sat.seq ?_
      refine rg hn ?_   -- region 4 itoa.go:74
      refine Sar (e := 5) za60 (fun q1 => ?_)   -- 7 := alloc(60)
      refine OpsS.nil (?_ : Sat _ _ _ _ _)
      refine Sat.seq ?_
      refine rg hn ?_   -- region 5 itoa.go:75
      refine Sp pm ?_   -- 18 := move(t1)
      refine Sp (pc fb30 (hok := numDigits_ok _ hG u (by omega) h2)) ?_   -- 19 := call(mk(value(f30), [t18], [52]))
      refine Sp pa ?_   -- 8 := assign(t19)
      refine OpsS.nil (?_ : Sat _ _ _ _ _)
      refine Sat.seq ?_
      refine rg hn ?_   -- region 6 itoa.go:76
      refine Sp pm ?_   -- 20 := move(t8)
      refine Sp (pslA 1 0 (nDigits u) ty60 sz5 (hl := bnd0) (hh := bndI) (hfit := by simp)) ?_   -- 21 := slice(60, t7, None, t20, None)
      refine Sp pm ?_   -- 22 := move(t1)
      refine Sc [(q1, .row 0 1 60 (List.replicate 24 zeroB))] [(q, .row ver 1 5 (bs.map byteV))] fb31 (hok := fmt_ok (T := 60) rfl (by omega) (fun blk off cap d w hsz hH => Tryd.internal_strconv_formatBase10 blk off cap u d w hH (by rw [hsz]; exact lt_pow_nDigits u) h2 (by omega)) hn1 q1) (hs := List.Perm.swap _ _ _) (h := fun r obj' hQ => ?_)
      obtain ⟨rfl, rfl⟩ := hQ   -- 23 := call(mk(value(f31), [t21, t22], [38, 52]))
      refine OpsS.nil (?_ : Sat _ _ _ _ _)
      refine Sat.seq ?_
      refine rg hn ?_   -- region 7 itoa.go:77
      refine Sp pm ?_   -- 24 := move(t0)
      refine Sp pm ?_   -- 25 := move(t8)
      refine Sp (pslA 0 0 (nDigits u) ty60 sz5 (hl := bnd0) (hh := bndI) (hfit := by first | (simp [hdl]; done) | (simp [hdl]; omega))) ?_   -- 26 := slice(60, t7, None, t25, None)
      refine Se (eap 1 ty38 sz5 ze5 (hsrc := srcO 0 ty38 (hfit := by first | (simp [hdl]; done) | (simp [hdl]; omega)) (hall := fun d hd => by
        rcases List.mem_append.1 hd with hd | hd
        · exact byteV_cells _ d hd
        · rw [List.eq_of_mem_replicate hd]; rfl))) ?_   -- 27 := call(mk(builtin(append), [t24, t26], [38, 38]))
      refine Sp pa ?_   -- 6 := assign(t27)
      refine OpsS.letgo [(q, .row (ver + 1) 1 5 (((bs.map byteV).drop 0).take bs.length ++ ((((decDigits u).map byteV ++ List.replicate (24 - nDigits u) zeroB).drop 0).take (nDigits u))))] (List.sublist_cons_self _ _) ?_
      refine OpsS.nil (?_ : Sat _ _ _ _ _)
      refine Sat.ret (?_ : Vc.Fin _ _ _ _)
      exact fi (hq := ⟨ver + 1, by simp [packR, hdl], by show [(q, AObj.row _ _ _ _)] = [(q, AObj.row _ _ _ _)]; simp [List.take_of_length_le, ← hdl]⟩)   -- fin 1
  ·
    exact absurd rfl hc10
theorem wrapNeg {i : Int} (h0 : -9223372036854775808 ≤ i) (h1 : i < 0) : IntKind.u64.wrap (-(IntKind.u64.wrap i)) = ((i.natAbs : Nat) : Int) := by
  rw [wrapU, wrapU]; omega
-- f27 internal/strconv.AppendInt
theorem appendInt0_ok (G : List (Nat × V)) (hG : G.lookup 2 = some gP10) (q ver : Nat) (bs : List UInt8) (hb : bs.length ≤ 1000000000000) (i : Int) (h0 : -9223372036854775808 ≤ i) (h1 : i ≤ 9223372036854775807) : Ok Tryd.prog G 27 [.osl q ver 0 bs.length, .int .i64 i, .int .i64 10] [(q, .row ver 1 5 (bs.map byteV))] (AppQ q (bs ++ itoa i)) := by
  refine Ok.of_sat (c := _) ⟨Tryd.func27, by kernel_rfl, rfl⟩ (n := 21) rfl (by simp) rfl fun C hG hn => ?_
  subst hG
  refine Sat.seq ?_
  refine rg hn ?_   -- region 0 itoa.go:58
  refine Sp pa ?_   -- 6 := assign(c[null, 0, 0])
  refine OpsS.nil (?_ : Sat _ _ _ _ _)
  refine Sat.seq ?_
  refine rg hn ?_   -- region 1 itoa.go:59
  refine Sp pm ?_   -- 8 := move(t1)
  refine Sp (pciW ty2 ty52) ?_   -- 9 := convert(2, 52, t8)
  refine Sp pa ?_   -- 7 := assign(t9)
  refine OpsS.nil (?_ : Sat _ _ _ _ _)
  refine Sat.seq ?_
  refine Sat.seq ?_
  refine rg hn ?_   -- region 2 itoa.go:60
  refine Sp pm ?_   -- 10 := move(t1)
  refine Sp (pb (h := BinR.lss)) ?_   -- 11 := binOp(lss, 2, t10, c[["Go.IntKind.i64"], 0], 2)
  refine OpsS.nil (?_ : Sat _ _ _ _ _)
  refine Sat.to (α := Nat × List UInt8 × Nat) (fun z => ⟨[(0, .osl q z.1 0 z.2.1.length), (7, .int .u64 (z.2.2 : Nat)), (2, .int .i64 10)], [(q, .row z.1 1 5 (z.2.1.map byteV))]⟩) (fun z => z.2.2 < 18446744073709551616 ∧ z.2.1.length ≤ 1000000000001 ∧ bs ++ itoa i = z.2.1 ++ decDigits z.2.2) ?_ (fun z hz => (?_ : Sat _ _ _ _ _))
  ·
    refine cD (fun hc11 => ?_) (fun hc11 => ?_)
    ·
      have hit : itoa i = 45 :: decDigits i.natAbs := by unfold itoa; rw [if_pos hc11]
      refine Sat.seq ?_
      refine rg hn ?_   -- region 3 itoa.go:61
      refine Sp pm ?_   -- 12 := move(t0)
      refine Sp (pS ty38 sz5 ze5) ?_   -- 13 := buildSlice(38, 1, [[0, c[["Go.IntKind.u8"], 45]]])
      first | refine Se (eap 0 ty38 sz5 ze5 (hsrc := (srcS ty38))) ?_ | refine Se (eap 0 ty38 sz5 ze5 (hsrc := (srcO 0 ty38))) ?_   -- 14 := call(mk(builtin(append), [t12, t13], [38, 38]))
      refine Sp pa ?_   -- 0 := assign(t14)
      refine OpsS.nil (?_ : Sat _ _ _ _ _)
      refine rg hn ?_   -- region 4 itoa.go:62
      refine Sp pm ?_   -- 15 := move(t7)
      refine Sp (PureOp.to pnegW (congrArg (V.int .u64) (wrapNeg h0 hc11))) ?_   -- 16 := unOp(neg, 52, t15)
      refine Sp pa ?_   -- 7 := assign(t16)
      refine OpsS.nil (?_ : ∃ _, _)
      refine ⟨(ver + 1, bs ++ [45], i.natAbs), ⟨(by omega : i.natAbs < 18446744073709551616), (by simp; omega : (bs ++ [45]).length ≤ 1000000000001), by rw [hit]; simp⟩, ⟨(by show some (V.osl q (ver + 1) 0 (bs.length + 1)) = some (V.osl q (ver + 1) 0 (bs ++ [45]).length); simp), rfl, rfl, trivial⟩, (by show [(q, AObj.row _ _ _ _)] = [(q, AObj.row _ _ _ _)]; simp [List.take_of_length_le, byteV, V.const, V.leaf])⟩
    ·
      refine Sat.skip (?_ : ∃ _, _)
      refine ⟨(ver, bs, i.toNat), ⟨(by omega : i.toNat < 18446744073709551616), (by omega : bs.length ≤ 1000000000001), by rw [show itoa i = decDigits i.toNat by unfold itoa; rw [if_neg hc11]]⟩, ⟨rfl, (by show some (V.int .u64 (IntKind.u64.wrap i)) = some (V.int .u64 (i.toNat : Nat)); rw [wrapU]; congr 2; omega), rfl, trivial⟩, rfl⟩
  ·
    obtain ⟨ver1, bs1, u⟩ := z
    obtain ⟨hz1, hz2, hz3⟩ := hz
    dsimp only at hz1 hz2 hz3 ⊢
    refine Sat.seq ?_
    refine rg hn ?_   -- region 5 itoa.go:64
    refine Sp pm ?_   -- 17 := move(t0)
    refine Sp pm ?_   -- 18 := move(t7)
    refine Sp pm ?_   -- 19 := move(t2)
    refine Sc [(q, .row ver1 1 5 (bs1.map byteV))] [] fb28 (hok := appendUint_ok _ hG q ver1 bs1 (by omega) u hz1) (h := fun r obj' hQ => ?_)
    obtain ⟨ver', rfl, rfl⟩ := hQ   -- 20 := call(mk(value(f28), [t17, t18, t19], [38, 52, 3]))
    refine Sp pa ?_   -- 6 := assign(t20)
    refine OpsS.nil (?_ : Sat _ _ _ _ _)
    refine Sat.ret (?_ : Vc.Fin _ _ _ _)
    exact fi (hq := ⟨ver', by rw [hz3]; rfl, by rw [hz3]; rfl⟩)   -- fin 0
-- f25 strconv.AppendInt
theorem appendInt_ok (G : List (Nat × V)) (hG : G.lookup 2 = some gP10) (q ver : Nat) (bs : List UInt8) (hb : bs.length ≤ 1000000000000) (i : Int) (h0 : -9223372036854775808 ≤ i) (h1 : i ≤ 9223372036854775807) : Ok Tryd.prog G 25 [.osl q ver 0 bs.length, .int .i64 i, .int .i64 10] [(q, .row ver 1 5 (bs.map byteV))] (AppQ q (bs ++ itoa i)) := by
  refine Ok.of_sat (c := _) ⟨Tryd.func25, by kernel_rfl, rfl⟩ (n := 11) rfl (by simp) rfl fun C hG hn => ?_
  subst hG
  refine Sat.seq ?_
  refine rg hn ?_   -- region 0 number.go:220
  refine Sp pa ?_   -- 6 := assign(c[null, 0, 0])
  refine OpsS.nil (?_ : Sat _ _ _ _ _)
  refine Sat.seq ?_
  refine rg hn ?_   -- region 1 number.go:221
  refine Sp pm ?_   -- 7 := move(t0)
  refine Sp pm ?_   -- 8 := move(t1)
  refine Sp pm ?_   -- 9 := move(t2)
  refine Sc [(q, .row ver 1 5 (bs.map byteV))] [] fb27 (hok := appendInt0_ok _ hG q ver bs hb i h0 h1) (h := fun r obj' hQ => ?_)
  obtain ⟨ver', rfl, rfl⟩ := hQ   -- 10 := call(mk(value(f27), [t7, t8, t9], [38, 2, 3]))
  refine Sp pa ?_   -- 6 := assign(t10)
  refine OpsS.nil (?_ : Sat _ _ _ _ _)
  refine Sat.ret (?_ : Vc.Fin _ _ _ _)
  exact fi (hq := ⟨ver', rfl, rfl⟩)   -- fin 0
/-- An ink with these bytes. -/
def inkO (p q ver : Nat) (bs : List UInt8) : Objs := [(q, .row ver 1 5 (bs.map byteV)), (p, .row 0 1 40 [.agg [.osl q ver 0 bs.length]])]
def InkQ (p q : Nat) (bs : List UInt8) (r : V) (o : Objs) : Prop := ∃ ver, r = .tuple [] ∧ o = inkO p q ver bs
def tInt (i : Int) : List UInt8 := itoa i ++ [32]
theorem tInt_len {i : Int} (h0 : -9223372036854775808 ≤ i) (h1 : i ≤ 9223372036854775807) : (tInt i).length ≤ 22 := by
  have := itoa_length_le i h0 h1
  simp [tInt]; omega
-- f19 (*dynamometer/dynamometerref0.Ink).Int
theorem inkInt_ok (G : List (Nat × V)) (hG : G.lookup 2 = some gP10) (p q ver : Nat) (bs : List UInt8) (hb : bs.length ≤ 900000000000) (i : Int) (h0 : -9223372036854775808 ≤ i) (h1 : i ≤ 9223372036854775807) : Ok Tryd.prog G 19 [.own p 0 0 0, .int .i64 i] (inkO p q ver bs) (InkQ p q (bs ++ tInt i)) := by
  refine Ok.of_sat (c := _) ⟨Tryd.func19, by kernel_rfl, rfl⟩ (n := 22) rfl (by simp) rfl fun C hG hn => ?_
  subst hG
  have hil := itoa_length_le i h0 h1
  refine Sat.seq ?_
  refine rg hn ?_   -- region 0 ink.go:17
  refine Sp pm ?_   -- 4 := move(t0)
  refine Sp pm ?_   -- 5 := move(t0)
  first | refine Sp pnR ?_ | refine Sp (pnO 0) ?_ | refine Sp (pnO 1) ?_   -- 6 := nilCheck(t5)
  first | refine Sp (pfR fd40_0) ?_ | refine Sp (pfO 0 fd40_0) ?_ | refine Sp (pfO 1 fd40_0) ?_   -- 7 := fieldAddr(40, t6, 0)
  first | refine Sp (plR ty38) ?_ | refine Sp (plO 0 ty38) ?_ | refine Sp (plO 1 ty38) ?_   -- 8 := load(38, t7)
  refine Sp pm ?_   -- 9 := move(t1)
  refine Sc [(q, .row ver 1 5 (bs.map byteV))] [(p, .row 0 1 40 [.agg [.osl q ver 0 bs.length]])] fb25 (hok := appendInt_ok _ hG q ver bs (by omega) i h0 h1) (h := fun r obj' hQ => ?_)
  obtain ⟨ver', rfl, rfl⟩ := hQ
  have hbl : (bs ++ itoa i).length ≤ 900000000021 := by simp; omega
  have hbe : bs ++ tInt i = (bs ++ itoa i) ++ [32] := by simp [tInt]
  generalize bs ++ itoa i = bs1 at hbl hbe   -- 10 := call(mk(value(f25), [t8, t9, c[["Go.IntKind.i64"], 10]], [38, 2, 3]))
  first | refine Sp pnR ?_ | refine Sp (pnO 0) ?_ | refine Sp (pnO 1) ?_   -- 11 := nilCheck(t4)
  first | refine Sp (pfR fd40_0) ?_ | refine Sp (pfO 0 fd40_0) ?_ | refine Sp (pfO 1 fd40_0) ?_   -- 12 := fieldAddr(40, t11, 0)
  first | refine Se (est 0 ty38) ?_ | refine Se (est 1 ty38) ?_   -- _ := store(38, t12, t10)
  refine OpsS.nil (?_ : Sat _ _ _ _ _)
  refine rg hn ?_   -- region 1 ink.go:18
  refine Sp pm ?_   -- 13 := move(t0)
  refine Sp pm ?_   -- 14 := move(t0)
  first | refine Sp pnR ?_ | refine Sp (pnO 0) ?_ | refine Sp (pnO 1) ?_   -- 15 := nilCheck(t14)
  first | refine Sp (pfR fd40_0) ?_ | refine Sp (pfO 0 fd40_0) ?_ | refine Sp (pfO 1 fd40_0) ?_   -- 16 := fieldAddr(40, t15, 0)
  first | refine Sp (plR ty38) ?_ | refine Sp (plO 0 ty38) ?_ | refine Sp (plO 1 ty38) ?_   -- 17 := load(38, t16)
  refine Sp (pS ty38 sz5 ze5) ?_   -- 18 := buildSlice(38, 1, [[0, c[["Go.IntKind.u8"], 32]]])
  first | refine Se (eap 0 ty38 sz5 ze5 (hsrc := (srcS ty38))) ?_ | refine Se (eap 0 ty38 sz5 ze5 (hsrc := (srcO 0 ty38))) ?_ | refine Se (eap 0 ty38 sz5 ze5 (hsrc := (srcO 1 ty38))) ?_ | refine Se (eap 1 ty38 sz5 ze5 (hsrc := (srcS ty38))) ?_ | refine Se (eap 1 ty38 sz5 ze5 (hsrc := (srcO 0 ty38))) ?_ | refine Se (eap 1 ty38 sz5 ze5 (hsrc := (srcO 1 ty38))) ?_   -- 19 := call(mk(builtin(append), [t17, t18], [38, 38]))
  first | refine Sp pnR ?_ | refine Sp (pnO 0) ?_ | refine Sp (pnO 1) ?_   -- 20 := nilCheck(t13)
  first | refine Sp (pfR fd40_0) ?_ | refine Sp (pfO 0 fd40_0) ?_ | refine Sp (pfO 1 fd40_0) ?_   -- 21 := fieldAddr(40, t20, 0)
  first | refine Se (est 0 ty38) ?_ | refine Se (est 1 ty38) ?_   -- _ := store(38, t21, t19)
  refine OpsS.nil (?_ : Vc.Fin _ _ _ _)
  exact fiN (hq := ⟨ver' + 1, rfl, by
    rw [hbe]
    show [(q, AObj.row _ _ _ _), (p, AObj.row _ _ _ _)] = [(q, AObj.row _ _ _ _), (p, AObj.row _ _ _ _)]
    simp [List.take_of_length_le, byteV, V.const, V.leaf, V.splice, V.cells]⟩)   -- fin 0
-- f13 (*dynamometer/dynamometerref0.Ink).Errno
theorem inkErrno_ok (G : List (Nat × V)) (hG : G.lookup 2 = some gP10) (p q ver : Nat) (bs : List UInt8) (hb : bs.length ≤ 900000000000) (i : Int) (h0 : -9223372036854775808 ≤ i) (h1 : i ≤ 9223372036854775807) : Ok Tryd.prog G 13 [.own p 0 0 0, .int .i64 i] (inkO p q ver bs) (InkQ p q (bs ++ tInt i)) := by
  refine Ok.of_sat (c := _) ⟨Tryd.func13, by kernel_rfl, rfl⟩ (n := 7) rfl (by simp) rfl fun C hG hn => ?_
  subst hG
  refine rg hn ?_   -- region 0 ink.go:22
  refine Sp pm ?_   -- 4 := move(t0)
  refine Sp pm ?_   -- 5 := move(t1)
  refine Sc (inkO p q ver bs) [] fb19 (hok := inkInt_ok _ hG p q ver bs hb i h0 h1) (h := fun r obj' hQ => ?_)
  obtain ⟨ver', rfl, rfl⟩ := hQ   -- 6 := call(mk(value(f19), [t4, t5], [37, 3]))
  refine OpsS.nil (?_ : Vc.Fin _ _ _ _)
  exact fiN (hq := ⟨ver', rfl, rfl⟩)   -- fin 0
def tInts (l : List Nat) : List UInt8 := l.flatMap fun (x : Nat) => tInt (x : Int)
theorem tInts_len : ∀ (l : List Nat), (∀ x ∈ l, x ≤ 9223372036854775807) → (tInts l).length ≤ 22 * l.length
  | [], _ => by simp [tInts]
  | x :: l, h => by
    have h1 := tInts_len l (fun y hy => h y (by simp [hy]))
    have h2 := tInt_len (i := (x : Int)) (by omega) (by have := h x (by simp); omega)
    simp only [tInts, List.flatMap_cons, List.length_append, List.length_cons] at h1 ⊢
    omega
theorem tInts_succ (l : List Nat) (i : Nat) (h : i < l.length) : tInts (l.take (i + 1)) = tInts (l.take i) ++ tInt (l[i] : Int) := by
  rw [List.take_succ_eq_append_getElem h, tInts, List.flatMap_append]; simp [tInts]
-- f12 (*dynamometer/dynamometerref0.Ink).Ints
theorem inkInts_ok (G : List (Nat × V)) (hG : G.lookup 2 = some gP10) (p q ver : Nat) (bs : List UInt8) (hb : bs.length ≤ 100000000000) (l : List Nat) (hl : l.length ≤ 1000000000) (hx : ∀ x ∈ l, x ≤ 9223372036854775807) : Ok Tryd.prog G 12 [.own p 0 0 0, eNats l] (inkO p q ver bs) (InkQ p q (bs ++ tInt (l.length : Nat) ++ tInts l)) := by
  refine Ok.of_sat (c := _) ⟨Tryd.func12, by kernel_rfl, rfl⟩ (n := 21) rfl (by simp) rfl fun C hG hn => ?_
  subst hG
  refine Sat.seq ?_
  refine rg hn ?_   -- region 0 ink.go:35
  refine Sp pm ?_   -- 5 := move(t0)
  refine Sp pm ?_   -- 6 := move(t1)
  first | refine Sp (pL ty23) ?_ | refine Sp (pLO 0 ty23) ?_ | refine Sp (pLO 1 ty23) ?_   -- 7 := call(mk(builtin(len), [t6], [23]))
  refine Sc (inkO p q ver bs) [] fb19 (hok := inkInt_ok _ hG p q ver bs (by omega) ((l.map eNat).length : Nat) (by omega) (by rw [List.length_map]; omega)) (h := fun r obj' hQ => ?_)
  obtain ⟨ver', rfl, rfl⟩ := hQ
  have hl1 := tInt_len (i := ((l.map eNat).length : Nat)) (by omega) (by rw [List.length_map]; omega)
  rw [show bs ++ tInt (l.length : Nat) ++ tInts l = (bs ++ tInt ((l.map eNat).length : Nat)) ++ tInts l by rw [List.length_map]]
  have hbl : (bs ++ tInt ((l.map eNat).length : Nat)).length ≤ 100000000022 := by simp at hl1 ⊢; omega
  generalize bs ++ tInt ((l.map eNat).length : Nat) = bs1 at hbl   -- 8 := call(mk(value(f19), [t5, t7], [37, 3]))
  refine OpsS.nil (?_ : Sat _ _ _ _ _)
  refine Sat.seq ?_
  refine rg hn ?_   -- region 1 ink.go:36
  refine Sp pa ?_   -- 4 := assign(c[["Go.IntKind.i64"], 0])
  refine OpsS.nil (?_ : Sat _ _ _ _ _)
  refine Sat.block ?_
  refine Sat.loop (α := Nat × Nat) (fun z => ⟨[(0, .own p 0 0 0), (1, eNats l), (4, .int .i64 (z.1 : Nat))], inkO p q z.2 (bs1 ++ tInts (l.take z.1))⟩) (fun z => z.1 ≤ l.length) (fun z => l.length - z.1) ((0, ver')) (Nat.zero_le _) (by repeat (first | exact trivial | refine And.intro (by rfl) ?_)) ((by simp [tInts]; rfl)) (fun z hz => ?_)   -- loop 0
  obtain ⟨i, ver2⟩ := z
  dsimp only at hz ⊢
  refine Sat.seq ?_
  refine Sat.seq ?_
  refine rg hn ?_   -- region 2 ink.go:36
  refine Sp pm ?_   -- 9 := move(t4)
  refine Sp pm ?_   -- 10 := move(t1)
  first | refine Sp (pL ty23) ?_ | refine Sp (pLO 0 ty23) ?_ | refine Sp (pLO 1 ty23) ?_   -- 11 := call(mk(builtin(len), [t10], [23]))
  refine Sp (pb (h := BinR.lss)) ?_   -- 12 := binOp(lss, 3, t9, t11, 3)
  refine OpsS.nil (?_ : Sat _ _ _ _ _)
  refine cD (fun hc12 => ?_) (fun hc12 => ?_)
  ·
    simp only [List.length_map] at hc12
    have hil : i < l.length := by omega
    have hxi := hx l[i] (List.getElem_mem hil)
    have htl := tInts_len (l.take i) (fun y hy => hx y (List.mem_of_mem_take hy))
    have hbl2 : (bs1 ++ tInts (l.take i)).length ≤ 900000000000 := by simp at htl ⊢; omega
    refine Sat.skip (?_ : Sat _ _ _ _ _)
    refine Sat.seq ?_
    refine Sat.block ?_
    refine rg hn ?_   -- region 4 ink.go:37
    refine Sp pm ?_   -- 15 := move(t0)
    refine Sp pm ?_   -- 16 := move(t1)
    refine Sp pm ?_   -- 17 := move(t4)
    first | refine Sp (piS ty23 sz3) ?_ | refine Sp (piO 0 ty23 sz3) ?_ | refine Sp (piO 1 ty23 sz3) ?_   -- 18 := indexAddr(23, t16, t17)
    first | refine Sp (plR ty3) ?_ | refine Sp (plO 0 ty3) ?_ | refine Sp (plO 1 ty3) ?_   -- 19 := load(3, t18)
    refine Sc (inkO p q ver2 (bs1 ++ tInts (l.take i))) [] fb19 (hok := inkInt_ok _ hG p q ver2 _ hbl2 (l[i] : Int) (by omega) (by omega)) (h := fun r obj' hQ => ?_)
    obtain ⟨ver3, rfl, rfl⟩ := hQ   -- 20 := call(mk(value(f19), [t15, t19], [37, 3]))
    refine OpsS.nil (?_ : Sat _ _ _ _ _)
    refine rg hn ?_   -- region 3 ink.go:36
    refine Sp pm ?_   -- 13 := move(t4)
    refine Sp (pb (h := (BinR.add (inI (by omega) (by omega))))) ?_   -- 14 := binOp(add, 3, t13, c[["Go.IntKind.i64"], 1], 3)
    refine Sp pa ?_   -- 4 := assign(t14)
    refine OpsS.nil (?_ : ∃ _, _)
    refine ⟨(i + 1, ver3), (by omega : i + 1 ≤ l.length), (by dsimp only; omega), by repeat (first | exact trivial | refine And.intro (by rfl) ?_), (by rw [tInts_succ l i hil, ← List.append_assoc]; rfl)⟩
  ·
    simp only [List.length_map] at hc12
    obtain rfl : i = l.length := by omega
    rw [List.take_length]
    refine Sat.exit (?_ : Vc.Fin _ _ _ _)
    exact fiN (hq := ⟨ver2, rfl, rfl⟩)   -- fin 0
-- f14 (*dynamometer/dynamometerref0.Ink).Told
theorem inkTold_ok (G : List (Nat × V)) (p q ver : Nat) (bs : List UInt8) : Ok Tryd.prog G 14 [.own p 0 0 0] (inkO p q ver bs) (fun r o => r = .str bs ∧ o = inkO p q ver bs) := by
  refine Ok.of_sat (c := _) ⟨Tryd.func14, by kernel_rfl, rfl⟩ (n := 8) rfl (by simp) rfl fun C hG hn => ?_
  subst hG
  refine Sat.seq ?_
  refine rg hn ?_   -- region 0 ink.go:13
  refine Sp pa ?_   -- 2 := assign(c[["ByteArray.mk", []]])
  refine OpsS.nil (?_ : Sat _ _ _ _ _)
  refine Sat.seq ?_
  refine rg hn ?_   -- region 1 ink.go:13
  refine Sp pm ?_   -- 3 := move(t0)
  first | refine Sp pnR ?_ | refine Sp (pnO 0) ?_ | refine Sp (pnO 1) ?_   -- 4 := nilCheck(t3)
  first | refine Sp (pfR fd40_0) ?_ | refine Sp (pfO 0 fd40_0) ?_ | refine Sp (pfO 1 fd40_0) ?_   -- 5 := fieldAddr(40, t4, 0)
  refine Sp (plO 1 ty38) ?_   -- 6 := load(38, t5)
  refine Sp (pcbO 0 bs ty38 ty5 ty9 (hb := by simp [List.take_of_length_le])) ?_   -- 7 := convert(38, 9, t6)
  refine Sp pa ?_   -- 2 := assign(t7)
  refine OpsS.nil (?_ : Sat _ _ _ _ _)
  refine Sat.ret (?_ : Vc.Fin _ _ _ _)
  exact fi (hq := ⟨rfl, rfl⟩)   -- fin 0
end Go.Proofs.YtkemjljbmdakbaaDoor
