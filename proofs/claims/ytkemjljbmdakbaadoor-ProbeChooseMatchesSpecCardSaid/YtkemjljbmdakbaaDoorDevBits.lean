import Derived.Test.YtkemjljbmdakbaaDoorFacts
import Derived.Test.YtkemjljbmdakbaaDoorVcArith
import Derived.Lib.TrailingZeros
namespace Go.Proofs.YtkemjljbmdakbaaDoor
open Go Go.Vc
/-- The positions of the bits of a number below 2^16. -/
def bl (x : Nat) : List Nat := (List.range 16).filter x.testBit

theorem filter_step (p q : Nat → Bool) (k : Nat) (h1 : ∀ j, j < k → p j = false) (h2 : p k = true) (h3 : ∀ j, k < j → p j = q j) (h4 : ∀ j, j ≤ k → q j = false) : ∀ n, k < n → (List.range n).filter p = k :: (List.range n).filter q := by
  intro n
  induction n with
  | zero => intro h; omega
  | succ n ih =>
    intro h
    rw [List.range_succ, List.filter_append, List.filter_append]
    by_cases hk : k < n
    · rw [ih hk]
      have := h3 n hk
      simp [List.filter_cons, this]
    · have hkn : k = n := by omega
      subst hkn
      have e1 : (List.range k).filter p = [] := by rw [List.filter_eq_nil_iff]; intro j hj; simp at hj; simp [h1 j hj]
      have e2 : (List.range k).filter q = [] := by rw [List.filter_eq_nil_iff]; intro j hj; simp at hj; simp [h4 j (by omega)]
      rw [e1, e2]
      simp [h2, h4 k (Nat.le_refl k)]

theorem clear_low {x k m : Nat} (h : x = 2 ^ k * (2 * m + 1)) : x &&& (x - 1) = 2 ^ k * (2 * m) := by
  have hx1 : x - 1 = 2 ^ k * (2 * m) + (2 ^ k - 1) := by
    have : 0 < 2 ^ k := Nat.two_pow_pos k
    rw [h, Nat.mul_add]; omega
  have hlt : 2 ^ k - 1 < 2 ^ k := by have : 0 < 2 ^ k := Nat.two_pow_pos k; omega
  apply Nat.eq_of_testBit_eq
  intro i
  rw [Nat.testBit_and, hx1, Nat.testBit_two_pow_mul_add _ hlt, h, Nat.mul_comm (2 ^ k), Nat.mul_comm (2 ^ k) (2 * m), Nat.testBit_mul_two_pow, Nat.testBit_mul_two_pow]
  by_cases hik : k ≤ i
  · simp only [hik, decide_true, Bool.true_and, show ¬ i < k by omega, if_false]
    cases hj : i - k with
    | zero => simp [Nat.testBit_zero]
    | succ j =>
      rw [Nat.testBit_succ, Nat.testBit_succ]
      rw [show (2 * m + 1) / 2 = m by omega, show 2 * m / 2 = m by omega]; simp
  · simp [hik]

theorem ctz_form {x : Nat} (h0 : x ≠ 0) (h : x < 2 ^ 64) : ∃ m, x = 2 ^ Go.Lib.ctz 64 x * (2 * m + 1) := by
  obtain ⟨m, hm, _⟩ := Go.Lib.ctzFrom_spec 64 x (by omega) h
  exact ⟨m, by simpa [Go.Lib.ctz, h0] using hm⟩

theorem bl_step {x : Nat} (h0 : x ≠ 0) (h : x < 65536) : bl x = Go.Lib.ctz 64 x :: bl (x &&& (x - 1)) ∧ Go.Lib.ctz 64 x < 16 ∧ x &&& (x - 1) < x := by
  obtain ⟨m, hm⟩ := ctz_form h0 (by omega)
  generalize Go.Lib.ctz 64 x = k at hm
  have hk : k < 16 := by
    apply Nat.lt_of_not_le
    intro hle
    have h1 : 2 ^ 16 ≤ 2 ^ k := Nat.pow_le_pow_right (by decide) hle
    have h2 : 2 ^ k ≤ 2 ^ k * (2 * m + 1) := Nat.le_mul_of_pos_right _ (by omega)
    omega
  have hc := clear_low hm
  have hb : ∀ i, x.testBit i = (decide (k ≤ i) && (2 * m + 1).testBit (i - k)) := fun i => by rw [hm, Nat.mul_comm, Nat.testBit_mul_two_pow]
  have hb' : ∀ i, (x &&& (x - 1)).testBit i = (decide (k ≤ i) && (2 * m).testBit (i - k)) := fun i => by rw [hc, Nat.mul_comm, Nat.testBit_mul_two_pow]
  refine ⟨?_, hk, ?_⟩
  · refine filter_step _ _ k (fun j hj => ?_) ?_ (fun j hj => ?_) (fun j hj => ?_) 16 hk
    · rw [hb]; simp [show ¬ k ≤ j by omega]
    · rw [hb]; simp [Nat.testBit_zero]
    · rw [hb, hb']
      congr 1
      obtain ⟨d, hd⟩ : ∃ d, j - k = d + 1 := ⟨j - k - 1, by omega⟩
      rw [hd, Nat.testBit_succ, Nat.testBit_succ, show (2 * m + 1) / 2 = m by omega, show 2 * m / 2 = m by omega]
    · rw [hb']
      by_cases hkj : k ≤ j
      · rw [show j - k = 0 by omega]; simp [Nat.testBit_zero]
      · simp [hkj]
  · rw [hc]
    have : 0 < 2 ^ k := Nat.two_pow_pos k
    rw [hm, Nat.mul_add]
    omega

theorem bl_zero : bl 0 = [] := by simp [bl]

/-- The tables. -/
def gD64 : V := .ref 64 [.agg (Go.Lib.deBruijn64tab.map fun (n : Nat) => V.int .u8 (n : Int))] 0 0

theorem neg64 {x : Nat} (h0 : x ≠ 0) (h : x < 18446744073709551616) : IntKind.u64.wrap (-(x : Int)) = ((2 ^ 64 - x : Nat) : Int) := by
  rw [wrapU]; omega

theorem mulmod (p c m : Nat) : ((p : Int) * (c : Int)) % (m : Int) = ((p * c % m : Nat) : Int) := by push_cast; rfl

theorem db64_get {idx k : Nat} (hi : idx < 64) (h : Go.Lib.deBruijn64tab.getD idx 0 = k) : (V.agg (Go.Lib.deBruijn64tab.map fun (n : Nat) => V.int .u8 (n : Int))).cells[0 + 0 + idx * 1]? = some (.int .u8 (k : Int)) := by
  have hlen : Go.Lib.deBruijn64tab.length = 64 := by decide
  rw [List.getD_eq_getElem?_getD, List.getElem?_eq_getElem (by omega)] at h
  simp only [Option.getD_some] at h
  simp only [V.cells]
  rw [show 0 + 0 + idx * 1 = idx by omega, List.getElem?_map, List.getElem?_eq_getElem (by omega), h]
  rfl

theorem tz64_ok (G : List (Nat × V)) (hG : G.lookup 1 = some gD64) (x : Nat) (hx : x < 18446744073709551616) : OkP Tryd.prog G 24 [.int .u64 x] (.int .i64 (Go.Lib.ctz 64 x : Nat)) := by
  refine Ok.of_sat (c := _) ⟨Tryd.func24, by kernel_rfl, rfl⟩ (n := 14) rfl (by simp) rfl fun C hG hn => ?_
  subst hG
  refine Sat.seq ?_
  refine rg hn ?_
  refine Sp pa ?_
  refine OpsS.nil (?_ : Sat _ _ _ _ _)
  refine Sat.seq ?_
  refine Sat.seq ?_
  refine rg hn ?_
  refine Sp pm ?_
  refine Sp (pb (h := BinR.eql)) ?_
  refine OpsS.nil (?_ : Sat _ _ _ _ _)
  refine cD (fun hc4 => ?_) (fun hc4 => ?_)
  ·
    have hx0 : x = 0 := by omega
    subst hx0
    refine Sat.seq ?_
    refine rg hn ?_
    refine Sp pa ?_
    refine OpsS.nil (?_ : Sat _ _ _ _ _)
    refine Sat.ret (?_ : Vc.Fin _ _ _ _)
    exact fi (hq := ⟨rfl, rfl⟩)
  ·
    have hx0 : x ≠ 0 := by omega
    obtain ⟨hlow, hk⟩ := Go.Lib.lowest_bit 64 x hx0 hx
    obtain ⟨hi, htab⟩ := Go.Lib.deBruijn64_at _ hk
    have hand : bitsInt .and .u64 (x : Int) (IntKind.u64.wrap (-(x : Int))) = ((2 ^ Go.Lib.ctz 64 x : Nat) : Int) := by
      rw [neg64 hx0 hx, bAnd (by rw [u64max]; omega) (by rw [u64max]; omega), hlow]
    have hmul : IntKind.u64.wrap (((2 ^ Go.Lib.ctz 64 x : Nat) : Int) * 285870213051353865) = ((2 ^ Go.Lib.ctz 64 x * 285870213051353865 % 18446744073709551616 : Nat) : Int) := by
      rw [wrapU]; exact mulmod _ 285870213051353865 18446744073709551616
    generalize hidx : 2 ^ Go.Lib.ctz 64 x * 285870213051353865 % 18446744073709551616 / 288230376151711744 = idx at hi htab
    have hshr : ((2 ^ Go.Lib.ctz 64 x * 285870213051353865 % 18446744073709551616 : Nat) : Int).fdiv (2 ^ (min (58 : Int).toNat IntKind.u64.bits)) = (idx : Int) := by
      have := shr_nat (a := 2 ^ Go.Lib.ctz 64 x * 285870213051353865 % 18446744073709551616) (c := 58) (by decide)
      rw [← hidx]
      simp only [IntKind.bits]
      rw [show ((58 : Nat) : Int) = (58 : Int) from rfl] at this
      rw [this, Nat.shiftRight_eq_div_pow]
    have htab' := db64_get hi htab
    have hct : Go.Lib.ctz 64 x ≤ 63 := by omega
    generalize hn1 : IntKind.u64.wrap (-(x : Int)) = n1 at hand
    generalize hp1 : ((2 ^ Go.Lib.ctz 64 x : Nat) : Int) = p1 at hand hmul
    generalize hq1 : ((2 ^ Go.Lib.ctz 64 x * 285870213051353865 % 18446744073709551616 : Nat) : Int) = q1 at hmul hshr
    generalize hc1 : Go.Lib.ctz 64 x = c at *
    clear hlow hq1 hp1 hidx htab
    refine Sat.skip (?_ : Sat _ _ _ _ _)
    refine Sat.seq ?_
    refine rg hn ?_
    refine Sp pm ?_
    refine Sp pm ?_
    refine Sp (PureOp.to pnegW (congrArg _ hn1)) ?_
    refine Sp (pb (h := BinR.to (BinR.bits rfl) (congrArg _ hand))) ?_
    refine Sp (pb (h := BinR.to BinR.mulW (congrArg _ hmul))) ?_
    refine Sp (pb (h := BinR.to (BinR.shr (by omega)) (congrArg _ hshr))) ?_
    refine Sp (piA idx ty57 sz5 (ho := rfl) (hx := hG)) ?_
    refine Sp (plR (e := .agg (Go.Lib.deBruijn64tab.map fun (n : Nat) => V.int .u8 (n : Int))) ty5 (hi := rfl) (hc := htab')) ?_
    refine Sp (pci ty5 ty3 (hin := inI (by omega) (by omega))) ?_
    refine Sp pa ?_
    refine OpsS.nil (?_ : Sat _ _ _ _ _)
    refine Sat.ret (?_ : Vc.Fin _ _ _ _)
    exact fi (hq := ⟨rfl, rfl⟩)

theorem tz_ok (G : List (Nat × V)) (hG : G.lookup 1 = some gD64) (x : Nat) (hx : x < 18446744073709551616) : OkP Tryd.prog G 18 [.int .u64 x] (.int .i64 (Go.Lib.ctz 64 x : Nat)) := by
  refine Ok.of_sat (c := _) ⟨Tryd.func18, by kernel_rfl, rfl⟩ (n := 8) rfl (by simp) rfl fun C hG hn => ?_
  subst hG
  refine Sat.seq ?_
  refine rg hn ?_
  refine Sp pa ?_
  refine OpsS.nil (?_ : Sat _ _ _ _ _)
  refine Sat.seq ?_
  refine cF ?_
  refine Sat.skip (?_ : Sat _ _ _ _ _)
  refine Sat.seq ?_
  refine rg hn ?_
  refine Sp pm ?_
  refine Sp (pc fb24 (hok := tz64_ok _ hG x hx)) ?_
  refine Sp pa ?_
  refine OpsS.nil (?_ : Sat _ _ _ _ _)
  refine Sat.ret (?_ : Vc.Fin _ _ _ _)
  exact fi (hq := ⟨rfl, rfl⟩)
/-- The sum of the bits, the way that the program takes. -/
def swar (x : Nat) : Nat :=
  (fun a => (fun b => (fun c => (fun d => (fun e => (fun f => Nat.land f 127) (Nat.mod (Nat.add e (Nat.shiftRight e 32)) 18446744073709551616)) (Nat.mod (Nat.add d (Nat.shiftRight d 16)) 18446744073709551616))
    (Nat.mod (Nat.add c (Nat.shiftRight c 8)) 18446744073709551616)) (Nat.land (Nat.mod (Nat.add (Nat.shiftRight b 4) b) 18446744073709551616) 1085102592571150095))
    (Nat.mod (Nat.add (Nat.land (Nat.shiftRight a 2) 3689348814741910323) (Nat.land a 3689348814741910323)) 18446744073709551616))
    (Nat.mod (Nat.add (Nat.land (Nat.shiftRight x 1) 6148914691236517205) (Nat.land x 6148914691236517205)) 18446744073709551616)

def chk : Nat → Nat → Nat → Bool
  | 0, y, c => Nat.beq (swar y) c
  | n + 1, y, c => match chk n (Nat.mul 2 y) c with
    | true => chk n (Nat.add (Nat.mul 2 y) 1) (Nat.add c 1)
    | false => false

theorem chk_ok : chk 16 0 0 = true := by decide +kernel

theorem bl_bit (y : Nat) (hy : y < 32768) : (bl (2 * y)).length = (bl y).length ∧ (bl (2 * y + 1)).length = (bl y).length + 1 := by
  have h15 : y.testBit 15 = false := Nat.testBit_lt_two_pow (by omega)
  have e : (bl y).length = ((List.range 15).filter y.testBit).length := by
    rw [bl, show (16 : Nat) = 15 + 1 from rfl, List.range_succ, List.filter_append]
    simp [h15]
  have key : ∀ x, x / 2 = y → (bl x).length = (if x.testBit 0 then 1 else 0) + (bl y).length := by
    intro x hx
    rw [e, bl, show (16 : Nat) = 15 + 1 from rfl, List.range_succ_eq_map, List.filter_cons, List.filter_map]
    have : (x.testBit ∘ Nat.succ) = y.testBit := by funext j; simp only [Function.comp]; rw [Nat.testBit_succ, hx]
    rw [this]
    split <;> simp <;> omega
  constructor
  · rw [key (2 * y) (by omega)]; simp [Nat.testBit_zero]
  · rw [key (2 * y + 1) (by omega)]; simp [Nat.testBit_zero]; omega

theorem chk_all : ∀ (n y c : Nat), y * 2 ^ n + 2 ^ n ≤ 65536 → chk n y c = true → c = (bl y).length → ∀ z, z < 2 ^ n → swar (y * 2 ^ n + z) = (bl (y * 2 ^ n + z)).length
  | 0, y, c, _, h, hc, z, hz => by
    have : z = 0 := by simp at hz; omega
    subst this
    simp only [chk] at h
    simp only [Nat.pow_zero, Nat.mul_one, Nat.add_zero]
    rw [Nat.eq_of_beq_eq_true h, hc]
  | n + 1, y, c, hle, h, hc, z, hz => by
    rw [Nat.pow_succ] at hle hz
    have hp : 0 < 2 ^ n := Nat.two_pow_pos n
    have hy : y < 32768 := by
      have h1 : (y + 1) * (2 ^ n * 2) ≤ 65536 := by rw [Nat.add_mul]; omega
      have h2 : (y + 1) * 2 ≤ (y + 1) * (2 ^ n * 2) := Nat.mul_le_mul_left _ (by omega)
      omega
    obtain ⟨b0, b1⟩ := bl_bit y hy
    simp only [chk] at h
    split at h
    · rename_i h0
      have e1 : y * (2 ^ n * 2) = 2 * y * 2 ^ n := by rw [Nat.mul_comm (2 ^ n) 2, ← Nat.mul_assoc, Nat.mul_comm y 2]
      have e2 : (2 * y + 1) * 2 ^ n = 2 * y * 2 ^ n + 2 ^ n := by rw [Nat.add_mul]; omega
      rw [Nat.pow_succ]
      rcases Nat.lt_or_ge z (2 ^ n) with h3 | h3
      · have := chk_all n (2 * y) c (by omega) h0 (by rw [b0]; exact hc) z h3
        rw [e1]; exact this
      · have := chk_all n (2 * y + 1) (c + 1) (by omega) h (by rw [b1, hc]) (z - 2 ^ n) (by omega)
        rw [e1]
        rw [show 2 * y * 2 ^ n + z = (2 * y + 1) * 2 ^ n + (z - 2 ^ n) by omega]
        exact this
    · cases h

theorem swar_eq {x : Nat} (hx : x < 65536) : swar x = (bl x).length := by
  have := chk_all 16 0 0 (by decide) chk_ok (by rw [bl_zero]; rfl) x (by simpa using hx)
  simpa using this

/-- The lowest seven bits are the same after the turn into an int. -/
theorem and127 {n : Nat} (h : n < 18446744073709551616) : bitsInt .and .i64 (IntKind.i64.wrap (n : Int)) 127 = ((Nat.land n 127 : Nat) : Int) := by
  have hl : n &&& 127 ≤ 127 := Nat.and_le_right
  have e : BitVec.ofInt 64 (IntKind.i64.wrap (n : Int)) = BitVec.ofNat 64 n := by
    apply BitVec.eq_of_toNat_eq
    simp only [BitVec.toNat_ofInt, BitVec.toNat_ofNat, IntKind.wrap, IntKind.signed, IntKind.bits]
    simp
    split <;> omega
  have e2 : (BitVec.ofInt 64 (127 : Int)) = BitVec.ofNat 64 127 := rfl
  show IntKind.i64.wrap ((BitVec.ofInt 64 (IntKind.i64.wrap (n : Int)) &&& BitVec.ofInt 64 (127 : Int)).toNat : Int) = _
  rw [e, e2, BitVec.toNat_and, BitVec.toNat_ofNat, BitVec.toNat_ofNat, Nat.mod_eq_of_lt (by omega), Nat.mod_eq_of_lt (by decide)]
  rw [wrap_in (inI (by omega) (by omega))]
  rfl

theorem pop64_ok (G : List (Nat × V)) (x : Nat) (hx : x < 18446744073709551616) : OkP Tryd.prog G 21 [.int .u64 x] (.int .i64 (swar x : Nat)) := by
  refine Ok.of_sat (c := _) ⟨Tryd.func21, by kernel_rfl, rfl⟩ (n := 35) rfl (by simp) rfl fun C hG hn => ?_
  subst hG
  refine Sat.seq ?_
  refine rg hn ?_
  refine Sp pa ?_
  refine OpsS.nil (?_ : Sat _ _ _ _ _)
  refine Sat.seq ?_
  generalize hs1 : (Nat.mod (Nat.add (Nat.land (Nat.shiftRight x 1) 6148914691236517205) (Nat.land x 6148914691236517205)) 18446744073709551616) = s1
  have hle1 : s1 < 18446744073709551616 := by rw [← hs1]; exact Nat.mod_lt _ (by decide)
  have hsh1 : x >>> 1 ≤ x := Nat.shiftRight_le x 1
  refine rg hn ?_
  refine Sp pm ?_
  refine Sp (pb (h := nShr64 1 (by omega))) ?_
  refine Sp (pb (h := nAnd (b := 6148914691236517205) (by rw [u64max]; omega) (by rw [u64max]; omega))) ?_
  refine Sp pm ?_
  refine Sp (pb (h := nAnd (b := 6148914691236517205) (by rw [u64max]; omega) (by rw [u64max]; omega))) ?_
  refine Sp (pb (h := BinR.to nAdd64 (congrArg (fun n : Nat => V.int .u64 (n : Int)) hs1))) ?_
  refine Sp pa ?_
  refine OpsS.nil (?_ : Sat _ _ _ _ _)
  refine Sat.seq ?_
  generalize hs2 : (Nat.mod (Nat.add (Nat.land (Nat.shiftRight s1 2) 3689348814741910323) (Nat.land s1 3689348814741910323)) 18446744073709551616) = s2
  have hle2 : s2 < 18446744073709551616 := by rw [← hs2]; exact Nat.mod_lt _ (by decide)
  have hsh2 : s1 >>> 2 ≤ s1 := Nat.shiftRight_le s1 2
  refine rg hn ?_
  refine Sp pm ?_
  refine Sp (pb (h := nShr64 2 (by omega))) ?_
  refine Sp (pb (h := nAnd (b := 3689348814741910323) (by rw [u64max]; omega) (by rw [u64max]; omega))) ?_
  refine Sp pm ?_
  refine Sp (pb (h := nAnd (b := 3689348814741910323) (by rw [u64max]; omega) (by rw [u64max]; omega))) ?_
  refine Sp (pb (h := BinR.to nAdd64 (congrArg (fun n : Nat => V.int .u64 (n : Int)) hs2))) ?_
  refine Sp pa ?_
  refine OpsS.nil (?_ : Sat _ _ _ _ _)
  refine Sat.seq ?_
  generalize hs3 : (Nat.land (Nat.mod (Nat.add (Nat.shiftRight s2 4) s2) 18446744073709551616) 1085102592571150095) = s3
  have hm3 : (s2 >>> 4 + s2) % 18446744073709551616 < 18446744073709551616 := Nat.mod_lt _ (by decide)
  have hle3 : s3 < 18446744073709551616 := by rw [← hs3]; exact Nat.lt_of_le_of_lt Nat.and_le_left hm3
  refine rg hn ?_
  refine Sp pm ?_
  refine Sp (pb (h := nShr64 4 (by omega))) ?_
  refine Sp pm ?_
  refine Sp (pb (h := nAdd64)) ?_
  refine Sp (pb (h := BinR.to (nAnd (a := (s2 >>> 4 + s2) % 18446744073709551616) (b := 1085102592571150095) (by rw [u64max]; omega) (by rw [u64max]; omega)) (congrArg (fun n : Nat => V.int .u64 (n : Int)) hs3))) ?_
  refine Sp pa ?_
  refine OpsS.nil (?_ : Sat _ _ _ _ _)
  refine Sat.seq ?_
  generalize hs4 : (Nat.mod (Nat.add s3 (Nat.shiftRight s3 8)) 18446744073709551616) = s4
  refine rg hn ?_
  refine Sp pm ?_
  refine Sp pm ?_
  refine Sp (pb (h := nShr64 8 (by omega))) ?_
  refine Sp (pb (h := BinR.to nAdd64 (congrArg (fun n : Nat => V.int .u64 (n : Int)) hs4))) ?_
  refine Sp pa ?_
  refine OpsS.nil (?_ : Sat _ _ _ _ _)
  refine Sat.seq ?_
  generalize hs5 : (Nat.mod (Nat.add s4 (Nat.shiftRight s4 16)) 18446744073709551616) = s5
  refine rg hn ?_
  refine Sp pm ?_
  refine Sp pm ?_
  refine Sp (pb (h := nShr64 16 (by omega))) ?_
  refine Sp (pb (h := BinR.to nAdd64 (congrArg (fun n : Nat => V.int .u64 (n : Int)) hs5))) ?_
  refine Sp pa ?_
  refine OpsS.nil (?_ : Sat _ _ _ _ _)
  refine Sat.seq ?_
  generalize hs6 : (Nat.mod (Nat.add s5 (Nat.shiftRight s5 32)) 18446744073709551616) = s6
  have hle6 : s6 < 18446744073709551616 := by rw [← hs6]; exact Nat.mod_lt _ (by decide)
  refine rg hn ?_
  refine Sp pm ?_
  refine Sp pm ?_
  refine Sp (pb (h := nShr64 32 (by omega))) ?_
  refine Sp (pb (h := BinR.to nAdd64 (congrArg (fun n : Nat => V.int .u64 (n : Int)) hs6))) ?_
  refine Sp pa ?_
  refine OpsS.nil (?_ : Sat _ _ _ _ _)
  refine Sat.seq ?_
  have hl7 : s6 &&& 127 ≤ 127 := Nat.and_le_right
  have h34 : V.int .i64 (bitsInt .and .i64 (IntKind.i64.wrap (s6 : Int)) 127) = V.int .i64 ((Nat.land s6 127 : Nat) : Int) := congrArg _ (and127 hle6)
  refine rg hn ?_
  refine Sp pm ?_
  refine Sp (pciW ty52 ty3) ?_
  refine Sp (pb (h := BinR.to (BinR.bits rfl) h34)) ?_
  refine Sp pa ?_
  refine OpsS.nil (?_ : Sat _ _ _ _ _)
  refine Sat.ret (?_ : Vc.Fin _ _ _ _)
  exact fi (hq := ⟨by rw [swar]; simp only [hs1, hs2, hs3, hs4, hs5, hs6]; rfl, rfl⟩)

theorem pop_ok (G : List (Nat × V)) (x : Nat) (hx : x < 18446744073709551616) : OkP Tryd.prog G 16 [.int .u64 x] (.int .i64 (swar x : Nat)) := by
  refine Ok.of_sat (c := _) ⟨Tryd.func16, by kernel_rfl, rfl⟩ (n := 8) rfl (by simp) rfl fun C hG hn => ?_
  subst hG
  refine Sat.seq ?_
  refine rg hn ?_
  refine Sp pa ?_
  refine OpsS.nil (?_ : Sat _ _ _ _ _)
  refine Sat.seq ?_
  refine cF ?_
  refine Sat.skip (?_ : Sat _ _ _ _ _)
  refine Sat.seq ?_
  refine rg hn ?_
  refine Sp pm ?_
  refine Sp (pc fb21 (hok := pop64_ok _ x hx)) ?_
  refine Sp pa ?_
  refine OpsS.nil (?_ : Sat _ _ _ _ _)
  refine Sat.ret (?_ : Vc.Fin _ _ _ _)
  exact fi (hq := ⟨rfl, rfl⟩)
end Go.Proofs.YtkemjljbmdakbaaDoor
