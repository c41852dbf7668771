/-
  Arithmetic of the machine's numbers as arithmetic of natural numbers.
-/
import Derived.Test.YtkemjljbmdakbaaDoorVcShort
namespace Go.Vc

theorem max_lt (k : IntKind) : k.max < ((2 ^ k.bits : Nat) : Int) := by cases k <;> simp [IntKind.max, IntKind.signed, IntKind.bits]
theorem inK_nat {k : IntKind} {n : Nat} (h : (n : Int) ≤ k.max) : inK k n := ⟨by cases k <;> simp only [IntKind.min, IntKind.signed, IntKind.bits] <;> simp <;> omega, h⟩

theorem bAnd {k : IntKind} {a b : Nat} (ha : (a : Int) ≤ k.max) (hb : (b : Int) ≤ k.max) : bitsInt .and k a b = ((a &&& b : Nat) : Int) := by
  have h1 := max_lt k
  have e : bitsInt .and k a b = k.wrap ((a &&& b : Nat) : Int) := by
    simp only [bitsInt, bitsOf, BitVec.ofInt_natCast, BitVec.toNat_and, BitVec.toNat_ofNat]
    rw [Nat.mod_eq_of_lt (by omega), Nat.mod_eq_of_lt (by omega)]
  rw [e, wrap_in (inK_nat (by have := Nat.and_le_left (n := a) (m := b); omega))]

theorem or_le {a b n : Nat} (ha : a < 2 ^ n) (hb : b < 2 ^ n) : a ||| b < 2 ^ n := Nat.or_lt_two_pow ha hb

theorem bOr64 {a b : Nat} (ha : a < 2 ^ 64) (hb : b < 2 ^ 64) : bitsInt .or .u64 a b = ((a ||| b : Nat) : Int) := by
  have e : bitsInt .or .u64 a b = IntKind.u64.wrap ((a ||| b : Nat) : Int) := by
    simp only [bitsInt, bitsOf, BitVec.ofInt_natCast, BitVec.toNat_or, BitVec.toNat_ofNat]
    simp only [IntKind.bits]
    rw [Nat.mod_eq_of_lt ha, Nat.mod_eq_of_lt hb]
  rw [e, wrap_in (inK_nat (by have := or_le ha hb; simp [IntKind.max, IntKind.signed, IntKind.bits]; omega))]

theorem u64max : IntKind.u64.max = 18446744073709551615 := by simp [IntKind.max, IntKind.signed, IntKind.bits]
theorem i64max : IntKind.i64.max = 9223372036854775807 := by simp [IntKind.max, IntKind.signed, IntKind.bits]
theorem u32max : IntKind.u32.max = 4294967295 := by simp [IntKind.max, IntKind.signed, IntKind.bits]

/-- A wrapped number of 64 bits without sign. -/
theorem wrapU (n : Int) : IntKind.u64.wrap n = n % 18446744073709551616 := by simp [IntKind.wrap, IntKind.signed, IntKind.bits]
theorem wrapU32 (n : Int) : IntKind.u32.wrap n = n % 4294967296 := by simp [IntKind.wrap, IntKind.signed, IntKind.bits]
theorem wrapB (n : Int) : IntKind.u8.wrap n = n % 256 := by simp [IntKind.wrap, IntKind.signed, IntKind.bits]

theorem shr_nat {a c : Nat} (h : c ≤ 64) : ((a : Int).fdiv (2 ^ (min (c : Int).toNat 64)) : Int) = ((a >>> c : Nat) : Int) := by
  rw [show (c : Int).toNat = c by simp, Nat.min_eq_left h, Nat.shiftRight_eq_div_pow, Int.fdiv_eq_ediv_of_nonneg _ (by exact_mod_cast Nat.zero_le _)]
  push_cast
  rfl

theorem BinR.to {P : Program} {op : BinOp} {t : TypeId} {x y : Operand} {dx dy r r' : V} (h : BinR P op t x y dx dy r) (e : r = r') : BinR P op t x y dx dy r' := e ▸ h
theorem PureOp.to {P : Program} {C : Ctx} {o : Oper} {st : St} {r r' : V} (h : PureOp P C o st r) (e : r = r') : PureOp P C o st r' := e ▸ h

end Go.Vc
namespace Go.Vc
section
variable {P : Program} {t : TypeId} {x y : Operand}
theorem nAnd {k : IntKind} {a b : Nat} (ha : (a : Int) ≤ k.max) (hb : (b : Int) ≤ k.max) : BinR P .and t x y (.int k (a : Int)) (.int k (b : Int)) (.int k ((a &&& b : Nat) : Int)) := BinR.to (BinR.bits rfl) (congrArg _ (bAnd ha hb))
theorem nOr64 {a b : Nat} (ha : a < 2 ^ 64) (hb : b < 2 ^ 64) : BinR P .or t x y (.int .u64 (a : Int)) (.int .u64 (b : Int)) (.int .u64 ((a ||| b : Nat) : Int)) := BinR.to (BinR.bits rfl) (congrArg _ (bOr64 ha hb))
theorem nShr64 {k' : IntKind} {a : Nat} (c : Nat) (hc : c ≤ 64) : BinR P .shr t x y (.int .u64 (a : Int)) (.int k' (c : Int)) (.int .u64 ((a >>> c : Nat) : Int)) := BinR.to (BinR.shr (by omega)) (congrArg _ (shr_nat hc))
theorem nAdd64 {a b : Nat} : BinR P .add t x y (.int .u64 (a : Int)) (.int .u64 (b : Int)) (.int .u64 (((a + b) % 18446744073709551616 : Nat) : Int)) := BinR.to BinR.addW (congrArg _ (by rw [wrapU, Int.natCast_emod, Int.natCast_add]; rfl))
end
end Go.Vc
