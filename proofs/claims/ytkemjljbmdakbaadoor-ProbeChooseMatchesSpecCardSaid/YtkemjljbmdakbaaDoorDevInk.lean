import Derived.Test.YtkemjljbmdakbaaDoorFacts
import Derived.Test.YtkemjljbmdakbaaDoorVcFmt
import Derived.Lib.ItoaLen
import Derived.Test.YtkemjljbmdakbaaDoorShelf
import Derived.Test.YtkemjljbmdakbaaDoorDevChoose0
namespace Go.Proofs.YtkemjljbmdakbaaDoor
open Go Go.Vc
open Go.Lib

theorem len64_ok (G : List (Nat × V)) (u : Nat) (h : u < 18446744073709551616) : OkP Tryd.prog G 34 [.int .u64 (u : Int)] (.int .i64 (Go.Lib.bitLen u : Nat)) :=
  .ofInt (fun E => .int _ _) fun w => by
    have := Tryd.bits_Len64 (u : Int) w (by omega) (by omega)
    rwa [show ((u : Int)).toNat = u by omega] at this
theorem log10_ok (G : List (Nat × V)) (x : Nat) (h : x ≤ 64) : OkP Tryd.prog G 33 [.int .i64 (x : Int)] (.int .i64 (l10 x : Nat)) := .ofInt (fun E => .int _ _) fun w => Tryd.internal_strconv_log10Pow2 x h w
theorem bool2_ok (G : List (Nat × V)) (b : Bool) : OkP Tryd.prog G 35 [.bool b] (.int .i64 (if b then 1 else 0)) := .ofBool (fun E => .int _ _) fun w => Tryd.internal_strconv_bool2_int b w
theorem small_ok (G : List (Nat × V)) (i : Nat) (h : i < 100) : OkP Tryd.prog G 29 [.int .i64 (i : Int)] (.str (decDigits i)) := .ofInt (fun E => .str _) fun w => Tryd.internal_strconv_small i h w

def gP10 : V := .ref 20 [.agg (pow10Tab.map fun n => V.int .u64 n)] 0 0
theorem p10_get {i : Nat} (h : i < 20) : (V.agg (pow10Tab.map fun n => V.int .u64 n)).cells[0 + 0 + i * 1]? = some (.int .u64 ((10 ^ i : Nat) : Int)) := by
  have h1 := pow10Tab_at i h
  rw [List.getD_eq_getElem?_getD, List.getElem?_eq_getElem (by rw [pow10Tab_length]; exact h)] at h1
  simp only [Option.getD_some] at h1
  simp only [V.cells]
  rw [show 0 + 0 + i * 1 = i by omega, List.getElem?_map, List.getElem?_eq_getElem (by rw [pow10Tab_length]; exact h), h1]
  rfl

theorem numDigits_ok (G : List (Nat × V)) (hG : G.lookup 2 = some gP10) (u : Nat) (h1 : 1 ≤ u) (h2 : u < 18446744073709551616) : OkP Tryd.prog G 30 [.int .u64 (u : Int)] (.int .i64 (nDigits u : Nat)) := by
  refine Ok.of_sat (c := _) ⟨Tryd.func30, by kernel_rfl, rfl⟩ (n := 15) rfl (by simp) rfl fun C hG hn => ?_
  subst hG
  obtain ⟨hnd, h19⟩ := numDigits_eq u h1 h2
  have hL : Go.Lib.bitLen u ≤ 64 := bitLen_le u 64 (Nat.le_refl _) h2
  refine Sat.seq ?_
  refine rg hn ?_
  refine Sp pa ?_
  refine OpsS.nil (?_ : Sat _ _ _ _ _)
  refine Sat.seq ?_
  refine rg hn ?_
  refine Sp pm ?_
  refine Sp (pc fb34 (hok := len64_ok _ u h2)) ?_
  refine Sp (pc fb33 (hok := log10_ok _ _ hL)) ?_
  refine Sp pa ?_
  refine OpsS.nil (?_ : Sat _ _ _ _ _)
  refine Sat.seq ?_
  refine rg hn ?_
  refine Sp pm ?_
  refine Sp pm ?_
  refine Sp pm ?_
  refine Sp (piA (l10 (Go.Lib.bitLen u)) ty66 sz52 (ho := rfl) (hx := hG)) ?_
  refine Sp (plR (e := .agg (pow10Tab.map fun n => V.int .u64 n)) ty52 (hi := rfl) (hc := p10_get (by omega))) ?_
  refine Sp (pb (h := BinR.geq)) ?_
  refine Sp (pc fb35 (hok := bool2_ok _ _)) ?_
  refine Sp (pb (h := BinR.to (BinR.add (by split <;> exact inI (by omega) (by omega))) (show V.int .i64 _ = V.int .i64 (nDigits u : Nat) from congrArg _ (by
    rw [← hnd]
    simp only [decide_eq_true_eq]
    by_cases hq : 10 ^ l10 (Go.Lib.bitLen u) ≤ u
    · rw [if_pos hq, if_pos (by exact_mod_cast hq)]; rfl
    · rw [if_neg hq, if_neg (by exact_mod_cast hq)]; rfl)))) ?_
  refine Sp pa ?_
  refine OpsS.nil (?_ : Sat _ _ _ _ _)
  refine Sat.ret (?_ : Vc.Fin _ _ _ _)
  exact fi (hq := ⟨rfl, rfl⟩)
theorem byteV_cells (bs : List UInt8) : ∀ d ∈ bs.map byteV, d.cells.length = 1 := by
  intro d hd
  obtain ⟨x, _, rfl⟩ := List.mem_map.1 hd
  rfl

/-- What an append of bytes leaves. -/
def AppQ (q : Nat) (bs : List UInt8) (r : V) (o : Objs) : Prop := ∃ ver, r = .osl q ver 0 bs.length ∧ o = [(q, .row ver 1 5 (bs.map byteV))]

theorem appendUint_ok (G : List (Nat × V)) (hG : G.lookup 2 = some gP10) (q ver : Nat) (bs : List UInt8) (hb : bs.length ≤ 1099511627776) (u : Nat) (h2 : u < 18446744073709551616) : Ok Tryd.prog G 28 [.osl q ver 0 bs.length, .int .u64 (u : Int), .int .i64 10] [(q, .row ver 1 5 (bs.map byteV))] (AppQ q (bs ++ decDigits u)) := by
  refine Ok.of_sat (c := _) ⟨Tryd.func28, by kernel_rfl, rfl⟩ (n := 36) rfl (by simp) rfl fun C hG hn => ?_
  subst hG
  refine Sat.seq ?_
  refine rg hn ?_
  refine Sp pa ?_
  refine OpsS.nil (?_ : Sat _ _ _ _ _)
  refine Sat.seq ?_
  refine Sat.seq ?_
  refine rg hn ?_
  refine Sp pm ?_
  refine Sp (pb (h := BinR.eql)) ?_
  refine OpsS.nil (?_ : Sat _ _ _ _ _)
  refine cD (fun hc10 => ?_) (fun hc10 => ?_)
  ·
    refine Sat.seq ?_
    refine Sat.seq ?_
    refine rg hn ?_
    refine Sp pm ?_
    refine Sp (pb (h := BinR.lss)) ?_
    refine OpsS.nil (?_ : Sat _ _ _ _ _)
    refine cD (fun hc12 => ?_) (fun hc12 => ?_)
    ·
      have hu : u < 100 := by omega
      have hd20 : (decDigits u).length ≤ 20 := by rw [decDigits_length]; exact nDigits_le20 u h2
      refine Sat.seq ?_
      refine rg hn ?_
      refine Sp pm ?_
      refine Sp pm ?_
      refine Sp (pci ty52 ty3 (hin := inI (by omega) (by omega))) ?_
      refine Sp (pc fb29 (hok := small_ok _ u hu)) ?_
      refine Se (eap 0 ty38 sz5 ze5 (hsrc := srcT ty9)) ?_
      refine Sp pa ?_
      refine OpsS.nil (?_ : Sat _ _ _ _ _)
      refine Sat.ret (?_ : Vc.Fin _ _ _ _)
      exact fi (hq := ⟨ver + 1, by simp [packR], by show [(q, AObj.row _ _ _ _)] = [(q, AObj.row _ _ _ _)]; simp [List.take_of_length_le]⟩)
    ·
      have hn20 := nDigits_le20 u h2
      have hn1 := nDigits_pos u
      have hdl : (decDigits u).length = nDigits u := decDigits_length u
      refine Sat.skip (?_ : Sat _ _ _ _ _)
      refine Sat.seq ?_
      refine rg hn ?_
      refine Sar (e := 5) za60 (fun q1 => ?_)
      refine OpsS.nil (?_ : Sat _ _ _ _ _)
      refine Sat.seq ?_
      refine rg hn ?_
      refine Sp pm ?_
      refine Sp (pc fb30 (hok := numDigits_ok _ hG u (by omega) h2)) ?_
      refine Sp pa ?_
      refine OpsS.nil (?_ : Sat _ _ _ _ _)
      refine Sat.seq ?_
      refine rg hn ?_
      refine Sp pm ?_
      refine Sp (pslA 1 0 (nDigits u) ty60 sz5 (hl := bnd0) (hh := bndI) (hfit := by simp)) ?_
      refine Sp pm ?_
      refine Sc [(q1, .row 0 1 60 (List.replicate 24 zeroB))] [(q, .row ver 1 5 (bs.map byteV))] fb31 (hok := fmt_ok (T := 60) rfl (by omega) (fun blk off cap d w hsz hH => Tryd.internal_strconv_formatBase10 blk off cap u d w hH (by rw [hsz]; exact lt_pow_nDigits u) h2 (by omega)) hn1 q1) (hs := List.Perm.swap _ _ _) (h := fun r obj' hQ => ?_)
      obtain ⟨rfl, rfl⟩ := hQ
      refine OpsS.nil (?_ : Sat _ _ _ _ _)
      refine Sat.seq ?_
      refine rg hn ?_
      refine Sp pm ?_
      refine Sp pm ?_
      refine Sp (pslA 0 0 (nDigits u) ty60 sz5 (hl := bnd0) (hh := bndI) (hfit := by first | (simp [hdl]; done) | (simp [hdl]; omega))) ?_
      refine Se (eap 1 ty38 sz5 ze5 (hsrc := srcO 0 ty38 (hfit := by first | (simp [hdl]; done) | (simp [hdl]; omega)) (hall := fun d hd => by
        rcases List.mem_append.1 hd with hd | hd
        · exact byteV_cells _ d hd
        · rw [List.eq_of_mem_replicate hd]; rfl))) ?_
      refine Sp pa ?_
      refine OpsS.letgo [(q, .row (ver + 1) 1 5 (((bs.map byteV).drop 0).take bs.length ++ ((((decDigits u).map byteV ++ List.replicate (24 - nDigits u) zeroB).drop 0).take (nDigits u))))] (List.sublist_cons_self _ _) ?_
      refine OpsS.nil (?_ : Sat _ _ _ _ _)
      refine Sat.ret (?_ : Vc.Fin _ _ _ _)
      exact fi (hq := ⟨ver + 1, by simp [packR, hdl], by show [(q, AObj.row _ _ _ _)] = [(q, AObj.row _ _ _ _)]; simp [List.take_of_length_le, ← hdl]⟩)
  ·
    exact absurd rfl hc10
theorem wrapNeg {i : Int} (h0 : -9223372036854775808 ≤ i) (h1 : i < 0) : IntKind.u64.wrap (-(IntKind.u64.wrap i)) = ((i.natAbs : Nat) : Int) := by
  rw [wrapU, wrapU]; omega

theorem appendInt0_ok (G : List (Nat × V)) (hG : G.lookup 2 = some gP10) (q ver : Nat) (bs : List UInt8) (hb : bs.length ≤ 1000000000000) (i : Int) (h0 : -9223372036854775808 ≤ i) (h1 : i ≤ 9223372036854775807) : Ok Tryd.prog G 27 [.osl q ver 0 bs.length, .int .i64 i, .int .i64 10] [(q, .row ver 1 5 (bs.map byteV))] (AppQ q (bs ++ itoa i)) := by
  refine Ok.of_sat (c := _) ⟨Tryd.func27, by kernel_rfl, rfl⟩ (n := 21) rfl (by simp) rfl fun C hG hn => ?_
  subst hG
  refine Sat.seq ?_
  refine rg hn ?_
  refine Sp pa ?_
  refine OpsS.nil (?_ : Sat _ _ _ _ _)
  refine Sat.seq ?_
  refine rg hn ?_
  refine Sp pm ?_
  refine Sp (pciW ty2 ty52) ?_
  refine Sp pa ?_
  refine OpsS.nil (?_ : Sat _ _ _ _ _)
  refine Sat.seq ?_
  refine Sat.seq ?_
  refine rg hn ?_
  refine Sp pm ?_
  refine Sp (pb (h := BinR.lss)) ?_
  refine OpsS.nil (?_ : Sat _ _ _ _ _)
  refine Sat.to (α := Nat × List UInt8 × Nat) (fun z => ⟨[(0, .osl q z.1 0 z.2.1.length), (7, .int .u64 (z.2.2 : Nat)), (2, .int .i64 10)], [(q, .row z.1 1 5 (z.2.1.map byteV))]⟩) (fun z => z.2.2 < 18446744073709551616 ∧ z.2.1.length ≤ 1000000000001 ∧ bs ++ itoa i = z.2.1 ++ decDigits z.2.2) ?_ (fun z hz => (?_ : Sat _ _ _ _ _))
  ·
    refine cD (fun hc11 => ?_) (fun hc11 => ?_)
    ·
      have hit : itoa i = 45 :: decDigits i.natAbs := by unfold itoa; rw [if_pos hc11]
      refine Sat.seq ?_
      refine rg hn ?_
      refine Sp pm ?_
      refine Sp (pS ty38 sz5 ze5) ?_
      first | refine Se (eap 0 ty38 sz5 ze5 (hsrc := (srcS ty38))) ?_ | refine Se (eap 0 ty38 sz5 ze5 (hsrc := (srcO 0 ty38))) ?_
      refine Sp pa ?_
      refine OpsS.nil (?_ : Sat _ _ _ _ _)
      refine rg hn ?_
      refine Sp pm ?_
      refine Sp (PureOp.to pnegW (congrArg (V.int .u64) (wrapNeg h0 hc11))) ?_
      refine Sp pa ?_
      refine OpsS.nil (?_ : ∃ _, _)
      refine ⟨(ver + 1, bs ++ [45], i.natAbs), ⟨(by omega : i.natAbs < 18446744073709551616), (by simp; omega : (bs ++ [45]).length ≤ 1000000000001), by rw [hit]; simp⟩, ⟨(by show some (V.osl q (ver + 1) 0 (bs.length + 1)) = some (V.osl q (ver + 1) 0 (bs ++ [45]).length); simp), rfl, rfl, trivial⟩, (by show [(q, AObj.row _ _ _ _)] = [(q, AObj.row _ _ _ _)]; simp [List.take_of_length_le, byteV, V.const, V.leaf])⟩
    ·
      refine Sat.skip (?_ : ∃ _, _)
      refine ⟨(ver, bs, i.toNat), ⟨(by omega : i.toNat < 18446744073709551616), (by omega : bs.length ≤ 1000000000001), by rw [show itoa i = decDigits i.toNat by unfold itoa; rw [if_neg hc11]]⟩, ⟨rfl, (by show some (V.int .u64 (IntKind.u64.wrap i)) = some (V.int .u64 (i.toNat : Nat)); rw [wrapU]; congr 2; omega), rfl, trivial⟩, rfl⟩
  ·
    obtain ⟨ver1, bs1, u⟩ := z
    obtain ⟨hz1, hz2, hz3⟩ := hz
    dsimp only at hz1 hz2 hz3 ⊢
    refine Sat.seq ?_
    refine rg hn ?_
    refine Sp pm ?_
    refine Sp pm ?_
    refine Sp pm ?_
    refine Sc [(q, .row ver1 1 5 (bs1.map byteV))] [] fb28 (hok := appendUint_ok _ hG q ver1 bs1 (by omega) u hz1) (h := fun r obj' hQ => ?_)
    obtain ⟨ver', rfl, rfl⟩ := hQ
    refine Sp pa ?_
    refine OpsS.nil (?_ : Sat _ _ _ _ _)
    refine Sat.ret (?_ : Vc.Fin _ _ _ _)
    exact fi (hq := ⟨ver', by rw [hz3]; rfl, by rw [hz3]; rfl⟩)

theorem appendInt_ok (G : List (Nat × V)) (hG : G.lookup 2 = some gP10) (q ver : Nat) (bs : List UInt8) (hb : bs.length ≤ 1000000000000) (i : Int) (h0 : -9223372036854775808 ≤ i) (h1 : i ≤ 9223372036854775807) : Ok Tryd.prog G 25 [.osl q ver 0 bs.length, .int .i64 i, .int .i64 10] [(q, .row ver 1 5 (bs.map byteV))] (AppQ q (bs ++ itoa i)) := by
  refine Ok.of_sat (c := _) ⟨Tryd.func25, by kernel_rfl, rfl⟩ (n := 11) rfl (by simp) rfl fun C hG hn => ?_
  subst hG
  refine Sat.seq ?_
  refine rg hn ?_
  refine Sp pa ?_
  refine OpsS.nil (?_ : Sat _ _ _ _ _)
  refine Sat.seq ?_
  refine rg hn ?_
  refine Sp pm ?_
  refine Sp pm ?_
  refine Sp pm ?_
  refine Sc [(q, .row ver 1 5 (bs.map byteV))] [] fb27 (hok := appendInt0_ok _ hG q ver bs hb i h0 h1) (h := fun r obj' hQ => ?_)
  obtain ⟨ver', rfl, rfl⟩ := hQ
  refine Sp pa ?_
  refine OpsS.nil (?_ : Sat _ _ _ _ _)
  refine Sat.ret (?_ : Vc.Fin _ _ _ _)
  exact fi (hq := ⟨ver', rfl, rfl⟩)
/-- An ink with these bytes. -/
def inkO (p q ver : Nat) (bs : List UInt8) : Objs := [(q, .row ver 1 5 (bs.map byteV)), (p, .row 0 1 40 [.agg [.osl q ver 0 bs.length]])]
def InkQ (p q : Nat) (bs : List UInt8) (r : V) (o : Objs) : Prop := ∃ ver, r = .tuple [] ∧ o = inkO p q ver bs
def tInt (i : Int) : List UInt8 := itoa i ++ [32]
theorem tInt_len {i : Int} (h0 : -9223372036854775808 ≤ i) (h1 : i ≤ 9223372036854775807) : (tInt i).length ≤ 22 := by
  have := itoa_length_le i h0 h1
  simp [tInt]; omega

theorem inkInt_ok (G : List (Nat × V)) (hG : G.lookup 2 = some gP10) (p q ver : Nat) (bs : List UInt8) (hb : bs.length ≤ 900000000000) (i : Int) (h0 : -9223372036854775808 ≤ i) (h1 : i ≤ 9223372036854775807) : Ok Tryd.prog G 19 [.own p 0 0 0, .int .i64 i] (inkO p q ver bs) (InkQ p q (bs ++ tInt i)) := by
  refine Ok.of_sat (c := _) ⟨Tryd.func19, by kernel_rfl, rfl⟩ (n := 22) rfl (by simp) rfl fun C hG hn => ?_
  subst hG
  have hil := itoa_length_le i h0 h1
  refine Sat.seq ?_
  refine rg hn ?_
  refine Sp pm ?_
  refine Sp pm ?_
  first | refine Sp pnR ?_ | refine Sp (pnO 0) ?_ | refine Sp (pnO 1) ?_
  first | refine Sp (pfR fd40_0) ?_ | refine Sp (pfO 0 fd40_0) ?_ | refine Sp (pfO 1 fd40_0) ?_
  first | refine Sp (plR ty38) ?_ | refine Sp (plO 0 ty38) ?_ | refine Sp (plO 1 ty38) ?_
  refine Sp pm ?_
  refine Sc [(q, .row ver 1 5 (bs.map byteV))] [(p, .row 0 1 40 [.agg [.osl q ver 0 bs.length]])] fb25 (hok := appendInt_ok _ hG q ver bs (by omega) i h0 h1) (h := fun r obj' hQ => ?_)
  obtain ⟨ver', rfl, rfl⟩ := hQ
  have hbl : (bs ++ itoa i).length ≤ 900000000021 := by simp; omega
  have hbe : bs ++ tInt i = (bs ++ itoa i) ++ [32] := by simp [tInt]
  generalize bs ++ itoa i = bs1 at hbl hbe
  first | refine Sp pnR ?_ | refine Sp (pnO 0) ?_ | refine Sp (pnO 1) ?_
  first | refine Sp (pfR fd40_0) ?_ | refine Sp (pfO 0 fd40_0) ?_ | refine Sp (pfO 1 fd40_0) ?_
  first | refine Se (est 0 ty38) ?_ | refine Se (est 1 ty38) ?_
  refine OpsS.nil (?_ : Sat _ _ _ _ _)
  refine rg hn ?_
  refine Sp pm ?_
  refine Sp pm ?_
  first | refine Sp pnR ?_ | refine Sp (pnO 0) ?_ | refine Sp (pnO 1) ?_
  first | refine Sp (pfR fd40_0) ?_ | refine Sp (pfO 0 fd40_0) ?_ | refine Sp (pfO 1 fd40_0) ?_
  first | refine Sp (plR ty38) ?_ | refine Sp (plO 0 ty38) ?_ | refine Sp (plO 1 ty38) ?_
  refine Sp (pS ty38 sz5 ze5) ?_
  first | refine Se (eap 0 ty38 sz5 ze5 (hsrc := (srcS ty38))) ?_ | refine Se (eap 0 ty38 sz5 ze5 (hsrc := (srcO 0 ty38))) ?_ | refine Se (eap 0 ty38 sz5 ze5 (hsrc := (srcO 1 ty38))) ?_ | refine Se (eap 1 ty38 sz5 ze5 (hsrc := (srcS ty38))) ?_ | refine Se (eap 1 ty38 sz5 ze5 (hsrc := (srcO 0 ty38))) ?_ | refine Se (eap 1 ty38 sz5 ze5 (hsrc := (srcO 1 ty38))) ?_
  first | refine Sp pnR ?_ | refine Sp (pnO 0) ?_ | refine Sp (pnO 1) ?_
  first | refine Sp (pfR fd40_0) ?_ | refine Sp (pfO 0 fd40_0) ?_ | refine Sp (pfO 1 fd40_0) ?_
  first | refine Se (est 0 ty38) ?_ | refine Se (est 1 ty38) ?_
  refine OpsS.nil (?_ : Vc.Fin _ _ _ _)
  exact fiN (hq := ⟨ver' + 1, rfl, by
    rw [hbe]
    show [(q, AObj.row _ _ _ _), (p, AObj.row _ _ _ _)] = [(q, AObj.row _ _ _ _), (p, AObj.row _ _ _ _)]
    simp [List.take_of_length_le, byteV, V.const, V.leaf, V.splice, V.cells]⟩)

theorem inkErrno_ok (G : List (Nat × V)) (hG : G.lookup 2 = some gP10) (p q ver : Nat) (bs : List UInt8) (hb : bs.length ≤ 900000000000) (i : Int) (h0 : -9223372036854775808 ≤ i) (h1 : i ≤ 9223372036854775807) : Ok Tryd.prog G 13 [.own p 0 0 0, .int .i64 i] (inkO p q ver bs) (InkQ p q (bs ++ tInt i)) := by
  refine Ok.of_sat (c := _) ⟨Tryd.func13, by kernel_rfl, rfl⟩ (n := 7) rfl (by simp) rfl fun C hG hn => ?_
  subst hG
  refine rg hn ?_
  refine Sp pm ?_
  refine Sp pm ?_
  refine Sc (inkO p q ver bs) [] fb19 (hok := inkInt_ok _ hG p q ver bs hb i h0 h1) (h := fun r obj' hQ => ?_)
  obtain ⟨ver', rfl, rfl⟩ := hQ
  refine OpsS.nil (?_ : Vc.Fin _ _ _ _)
  exact fiN (hq := ⟨ver', rfl, rfl⟩)
def tInts (l : List Nat) : List UInt8 := l.flatMap fun (x : Nat) => tInt (x : Int)
theorem tInts_len : ∀ (l : List Nat), (∀ x ∈ l, x ≤ 9223372036854775807) → (tInts l).length ≤ 22 * l.length
  | [], _ => by simp [tInts]
  | x :: l, h => by
    have h1 := tInts_len l (fun y hy => h y (by simp [hy]))
    have h2 := tInt_len (i := (x : Int)) (by omega) (by have := h x (by simp); omega)
    simp only [tInts, List.flatMap_cons, List.length_append, List.length_cons] at h1 ⊢
    omega
theorem tInts_succ (l : List Nat) (i : Nat) (h : i < l.length) : tInts (l.take (i + 1)) = tInts (l.take i) ++ tInt (l[i] : Int) := by
  rw [List.take_succ_eq_append_getElem h, tInts, List.flatMap_append]; simp [tInts]

theorem inkInts_ok (G : List (Nat × V)) (hG : G.lookup 2 = some gP10) (p q ver : Nat) (bs : List UInt8) (hb : bs.length ≤ 100000000000) (l : List Nat) (hl : l.length ≤ 1000000000) (hx : ∀ x ∈ l, x ≤ 9223372036854775807) : Ok Tryd.prog G 12 [.own p 0 0 0, eNats l] (inkO p q ver bs) (InkQ p q (bs ++ tInt (l.length : Nat) ++ tInts l)) := by
  refine Ok.of_sat (c := _) ⟨Tryd.func12, by kernel_rfl, rfl⟩ (n := 21) rfl (by simp) rfl fun C hG hn => ?_
  subst hG
  refine Sat.seq ?_
  refine rg hn ?_
  refine Sp pm ?_
  refine Sp pm ?_
  first | refine Sp (pL ty23) ?_ | refine Sp (pLO 0 ty23) ?_ | refine Sp (pLO 1 ty23) ?_
  refine Sc (inkO p q ver bs) [] fb19 (hok := inkInt_ok _ hG p q ver bs (by omega) ((l.map eNat).length : Nat) (by omega) (by rw [List.length_map]; omega)) (h := fun r obj' hQ => ?_)
  obtain ⟨ver', rfl, rfl⟩ := hQ
  have hl1 := tInt_len (i := ((l.map eNat).length : Nat)) (by omega) (by rw [List.length_map]; omega)
  rw [show bs ++ tInt (l.length : Nat) ++ tInts l = (bs ++ tInt ((l.map eNat).length : Nat)) ++ tInts l by rw [List.length_map]]
  have hbl : (bs ++ tInt ((l.map eNat).length : Nat)).length ≤ 100000000022 := by simp at hl1 ⊢; omega
  generalize bs ++ tInt ((l.map eNat).length : Nat) = bs1 at hbl
  refine OpsS.nil (?_ : Sat _ _ _ _ _)
  refine Sat.seq ?_
  refine rg hn ?_
  refine Sp pa ?_
  refine OpsS.nil (?_ : Sat _ _ _ _ _)
  refine Sat.block ?_
  refine Sat.loop (α := Nat × Nat) (fun z => ⟨[(0, .own p 0 0 0), (1, eNats l), (4, .int .i64 (z.1 : Nat))], inkO p q z.2 (bs1 ++ tInts (l.take z.1))⟩) (fun z => z.1 ≤ l.length) (fun z => l.length - z.1) ((0, ver')) (Nat.zero_le _) (by repeat (first | exact trivial | refine And.intro (by rfl) ?_)) ((by simp [tInts]; rfl)) (fun z hz => ?_)
  obtain ⟨i, ver2⟩ := z
  dsimp only at hz ⊢
  refine Sat.seq ?_
  refine Sat.seq ?_
  refine rg hn ?_
  refine Sp pm ?_
  refine Sp pm ?_
  first | refine Sp (pL ty23) ?_ | refine Sp (pLO 0 ty23) ?_ | refine Sp (pLO 1 ty23) ?_
  refine Sp (pb (h := BinR.lss)) ?_
  refine OpsS.nil (?_ : Sat _ _ _ _ _)
  refine cD (fun hc12 => ?_) (fun hc12 => ?_)
  ·
    simp only [List.length_map] at hc12
    have hil : i < l.length := by omega
    have hxi := hx l[i] (List.getElem_mem hil)
    have htl := tInts_len (l.take i) (fun y hy => hx y (List.mem_of_mem_take hy))
    have hbl2 : (bs1 ++ tInts (l.take i)).length ≤ 900000000000 := by simp at htl ⊢; omega
    refine Sat.skip (?_ : Sat _ _ _ _ _)
    refine Sat.seq ?_
    refine Sat.block ?_
    refine rg hn ?_
    refine Sp pm ?_
    refine Sp pm ?_
    refine Sp pm ?_
    first | refine Sp (piS ty23 sz3) ?_ | refine Sp (piO 0 ty23 sz3) ?_ | refine Sp (piO 1 ty23 sz3) ?_
    first | refine Sp (plR ty3) ?_ | refine Sp (plO 0 ty3) ?_ | refine Sp (plO 1 ty3) ?_
    refine Sc (inkO p q ver2 (bs1 ++ tInts (l.take i))) [] fb19 (hok := inkInt_ok _ hG p q ver2 _ hbl2 (l[i] : Int) (by omega) (by omega)) (h := fun r obj' hQ => ?_)
    obtain ⟨ver3, rfl, rfl⟩ := hQ
    refine OpsS.nil (?_ : Sat _ _ _ _ _)
    refine rg hn ?_
    refine Sp pm ?_
    refine Sp (pb (h := (BinR.add (inI (by omega) (by omega))))) ?_
    refine Sp pa ?_
    refine OpsS.nil (?_ : ∃ _, _)
    refine ⟨(i + 1, ver3), (by omega : i + 1 ≤ l.length), (by dsimp only; omega), by repeat (first | exact trivial | refine And.intro (by rfl) ?_), (by rw [tInts_succ l i hil, ← List.append_assoc]; rfl)⟩
  ·
    simp only [List.length_map] at hc12
    obtain rfl : i = l.length := by omega
    rw [List.take_length]
    refine Sat.exit (?_ : Vc.Fin _ _ _ _)
    exact fiN (hq := ⟨ver2, rfl, rfl⟩)

theorem inkTold_ok (G : List (Nat × V)) (p q ver : Nat) (bs : List UInt8) : Ok Tryd.prog G 14 [.own p 0 0 0] (inkO p q ver bs) (fun r o => r = .str bs ∧ o = inkO p q ver bs) := by
  refine Ok.of_sat (c := _) ⟨Tryd.func14, by kernel_rfl, rfl⟩ (n := 8) rfl (by simp) rfl fun C hG hn => ?_
  subst hG
  refine Sat.seq ?_
  refine rg hn ?_
  refine Sp pa ?_
  refine OpsS.nil (?_ : Sat _ _ _ _ _)
  refine Sat.seq ?_
  refine rg hn ?_
  refine Sp pm ?_
  first | refine Sp pnR ?_ | refine Sp (pnO 0) ?_ | refine Sp (pnO 1) ?_
  first | refine Sp (pfR fd40_0) ?_ | refine Sp (pfO 0 fd40_0) ?_ | refine Sp (pfO 1 fd40_0) ?_
  refine Sp (plO 1 ty38) ?_
  refine Sp (pcbO 0 bs ty38 ty5 ty9 (hb := by simp [List.take_of_length_le])) ?_
  refine Sp pa ?_
  refine OpsS.nil (?_ : Sat _ _ _ _ _)
  refine Sat.ret (?_ : Vc.Fin _ _ _ _)
  exact fi (hq := ⟨rfl, rfl⟩)
end Go.Proofs.YtkemjljbmdakbaaDoor
