/-
  Single operations that leave the owned objects alone.
-/
import Derived.Test.YtkemjljbmdakbaaDoorVcBase
import Derived.Lib.Strings
namespace Go.Vc

/-- What is known of a type of the program. -/
structure TyF (P : Program) (t : TypeId) (d : TypeDesc) (size bytes : Nat) : Prop where
  u : P.underlying t = some d
  i : (P.info? t).map (fun i => (i.size, i.bytes)) = some (size, bytes)

theorem TyF.info {P : Program} {t : TypeId} {d : TypeDesc} {size bytes : Nat} (h : TyF P t d size bytes) : ∃ i, P.info? t = some i ∧ i.size = size ∧ i.bytes = bytes := by
  have := h.i
  cases hi : P.info? t with
  | none => simp [hi] at this
  | some i => simp [hi] at this; exact ⟨i, rfl, this.1, this.2⟩

theorem TyF.run_size {P : Program} {t : TypeId} {d : TypeDesc} {size bytes : Nat} (h : TyF P t d size bytes) (w : World) : (sizeOf t).run P w = .ok size w := by
  obtain ⟨i, h1, h2, _⟩ := h.info
  simp [sizeOf, typeInfo, h1, h2]

/-- A type's size in cells and in bytes. -/
structure SizeF (P : Program) (t : TypeId) (size bytes : Nat) : Prop where
  i : (P.info? t).map (fun i => (i.size, i.bytes)) = some (size, bytes)
theorem SizeF.info {P : Program} {t : TypeId} {size bytes : Nat} (h : SizeF P t size bytes) : ∃ i, P.info? t = some i ∧ i.size = size ∧ i.bytes = bytes := by
  have := h.i
  cases hi : P.info? t with
  | none => simp [hi] at this
  | some i => simp [hi] at this; exact ⟨i, rfl, this.1, this.2⟩
theorem SizeF.run_size {P : Program} {t : TypeId} {size bytes : Nat} (h : SizeF P t size bytes) (w : World) : (sizeOf t).run P w = .ok size w := by
  obtain ⟨i, h1, h2, _⟩ := h.info
  simp [sizeOf, typeInfo, h1, h2]
theorem TyF.sz {P : Program} {t : TypeId} {d : TypeDesc} {size bytes : Nat} (h : TyF P t d size bytes) : SizeF P t size bytes := ⟨h.i⟩

def isAggD : TypeDesc → Bool
  | .struct _ | .array _ _ => true
  | _ => false

theorem TyF.run_isAgg {P : Program} {t : TypeId} {d : TypeDesc} {size bytes : Nat} (h : TyF P t d size bytes) (w : World) : (isAgg t).run P w = .ok (isAggD d) w := by
  unfold isAgg
  rw [Sem.run_bind, run_underlying h.u, Result.andThen_ok]
  cases d <;> rfl

section
variable {P : Program} {C : Ctx} {o : Oper} {st : St}

theorem PureOp.same {r : V} (h : ∀ a w E, R C st a w E → ∃ v, Rep E r v ∧ (execOp a.eval o).run P w = .ok (.value v) w) : PureOp P C o st r := by
  intro a w E hR K Qx hK
  obtain ⟨v, hv, hrun⟩ := h a w E hR
  unfold Oper.wp
  rw [hrun]
  exact hK v w E (Env.le.refl E) hv hR.holds

/-- An operation that yields a value in a world of its own. -/
theorem PureOp.run {r : V} (h : ∀ a w E, R C st a w E → ∃ v w' E', E.le E' ∧ Rep E' r v ∧ Holds C E' st.obj w' ∧ (execOp a.eval o).run P w = .ok (.value v) w') : PureOp P C o st r := by
  intro a w E hR K Qx hK
  obtain ⟨v, w', E', hE, hv, hh, hrun⟩ := h a w E hR
  unfold Oper.wp
  rw [hrun]
  exact hK v w' E' hE hv hh

theorem pure_move {x : Operand} {r : V} (ho : o.op = .move x) (hx : st.val C x = some r) : PureOp P C o st r :=
  .same fun a w E hR => ⟨_, hR.val hx, by simp [execOp, ho]⟩

theorem pure_assign {x : Operand} {r : V} (ho : o.op = .assign x) (hx : st.val C x = some r) : PureOp P C o st r :=
  .same fun a w E hR => ⟨_, hR.val hx, by simp [execOp, ho]⟩

theorem pure_pick {c x y : Operand} {t : Bool} {r : V} (ho : o.op = .pick c x y) (hc : st.val C c = some (.bool t)) (hx : st.val C (if t then x else y) = some r) : PureOp P C o st r :=
  .same fun a w E hR => by
    have h1 := hR.val hc
    have h2 := hR.val hx
    generalize hv : a.eval c = v at h1
    cases h1
    refine ⟨_, h2, ?_⟩
    cases t <;> simp [execOp, ho, hv, asBool]

/-! ### Binary operations -/

def BinR (P : Program) (op : BinOp) (t : TypeId) (x y : Operand) (dx dy r : V) : Prop :=
  ∀ E v v' w, Rep E dx v → Rep E dy v' → ∃ u, Rep E r u ∧ (do eqGuard op t x y v v'; binOp op t v v' : Sem Value).run P w = .ok u w

theorem pure_bin {op : BinOp} {t t' : TypeId} {x y : Operand} {dx dy r : V} (ho : o.op = .binOp op t x y t') (hx : st.val C x = some dx) (hy : st.val C y = some dy)
    (h : BinR P op t x y dx dy r) : PureOp P C o st r :=
  .same fun a w E hR => by
    obtain ⟨u, hu, hr⟩ := h E _ _ w (hR.val hx) (hR.val hy)
    refine ⟨u, hu, ?_⟩
    simp only [execOp, ho]
    rw [Sem.run_bind, hr]
    rfl

section bin
variable {t : TypeId} {x y : Operand} {k : IntKind} {a b : Int}

def inK (k : IntKind) (n : Int) : Prop := k.min ≤ n ∧ n ≤ k.max

theorem wrap_in {k : IntKind} {n : Int} (h : inK k n) : k.wrap n = n := by
  obtain ⟨h1, h2⟩ := h
  cases k <;> simp only [IntKind.min, IntKind.max, IntKind.signed, IntKind.bits, IntKind.wrap] at * <;> simp at * <;> (try split) <;> omega

theorem BinR.mkInt {op : BinOp} {r : V} (h : ∀ E w, ∃ u, Rep E r u ∧ (binOp op t (.int k a) (.int k b)).run P w = .ok u w) : BinR P op t x y (.int k a) (.int k b) r := by
  intro E v v' w h1 h2
  cases h1; cases h2
  obtain ⟨u, hu, hr⟩ := h E w
  exact ⟨u, hu, by simp [eqGuard_at_int, hr]⟩

theorem BinR.lss : BinR P .lss t x y (.int k a) (.int k b) (.bool (decide (a < b))) := .mkInt fun E w => ⟨_, .bool _, by simp [binOp_lss]⟩
theorem BinR.leq : BinR P .leq t x y (.int k a) (.int k b) (.bool (decide (a ≤ b))) := .mkInt fun E w => ⟨_, .bool _, by simp [binOp_leq]⟩
theorem BinR.gtr : BinR P .gtr t x y (.int k a) (.int k b) (.bool (decide (b < a))) := .mkInt fun E w => ⟨_, .bool _, by simp [binOp_gtr]⟩
theorem BinR.geq : BinR P .geq t x y (.int k a) (.int k b) (.bool (decide (b ≤ a))) := .mkInt fun E w => ⟨_, .bool _, by simp [binOp_geq]⟩
theorem BinR.eql : BinR P .eql t x y (.int k a) (.int k b) (.bool (decide (a = b))) := .mkInt fun E w => ⟨_, .bool _, by rw [binOp_eql]; rfl⟩
theorem BinR.neq : BinR P .neq t x y (.int k a) (.int k b) (.bool (decide (¬ a = b))) := .mkInt fun E w => ⟨_, .bool _, by
  rw [binOp_neq]; simp only [Sem.run_pure, Result.ok.injEq, Value.bool.injEq, and_true]
  rw [bne, Bool.eq_iff_iff]; simp⟩
theorem BinR.add (h : inK k (a + b)) : BinR P .add t x y (.int k a) (.int k b) (.int k (a + b)) := .mkInt fun E w => ⟨_, .int _ _, by simp [binOp_add, Op.intArith, wrap_in h]⟩
theorem BinR.sub (h : inK k (a - b)) : BinR P .sub t x y (.int k a) (.int k b) (.int k (a - b)) := .mkInt fun E w => ⟨_, .int _ _, by simp [binOp_sub, Op.intArith, wrap_in h]⟩
theorem BinR.mul (h : inK k (a * b)) : BinR P .mul t x y (.int k a) (.int k b) (.int k (a * b)) := .mkInt fun E w => ⟨_, .int _ _, by simp [binOp_mul, Op.intArith, wrap_in h]⟩
theorem BinR.addW : BinR P .add t x y (.int k a) (.int k b) (.int k (k.wrap (a + b))) := .mkInt fun E w => ⟨_, .int _ _, by simp [binOp_add, Op.intArith]⟩
theorem BinR.subW : BinR P .sub t x y (.int k a) (.int k b) (.int k (k.wrap (a - b))) := .mkInt fun E w => ⟨_, .int _ _, by simp [binOp_sub, Op.intArith]⟩
theorem BinR.mulW : BinR P .mul t x y (.int k a) (.int k b) (.int k (k.wrap (a * b))) := .mkInt fun E w => ⟨_, .int _ _, by simp [binOp_mul, Op.intArith]⟩
theorem BinR.quo (h0 : b ≠ 0) (h : inK k (a.tdiv b)) : BinR P .quo t x y (.int k a) (.int k b) (.int k (a.tdiv b)) := .mkInt fun E w => ⟨_, .int _ _, by simp [binOp_quo, Op.intDiv, h0, wrap_in h]⟩
theorem BinR.rem (h0 : b ≠ 0) : BinR P .rem t x y (.int k a) (.int k b) (.int k (a.tmod b)) := .mkInt fun E w => ⟨_, .int _ _, by simp [binOp_rem, Op.intDiv, h0]⟩

def bitsOf (op : BinOp) (n : Nat) (a b : BitVec n) : BitVec n :=
  match op with
  | .and => a &&& b
  | .or => a ||| b
  | .xor => a ^^^ b
  | _ => a &&& ~~~b
def isBits : BinOp → Bool
  | .and | .or | .xor | .andNot => true
  | _ => false
def bitsInt (op : BinOp) (k : IntKind) (a b : Int) : Int := k.wrap (bitsOf op k.bits (BitVec.ofInt k.bits a) (BitVec.ofInt k.bits b)).toNat
theorem BinR.bits {op : BinOp} (h : isBits op = true) : BinR P op t x y (.int k a) (.int k b) (.int k (bitsInt op k a b)) := .mkInt fun E w => ⟨_, .int _ _, by
  cases op <;> simp [isBits] at h <;> simp [binOp_and, binOp_or, binOp_xor, binOp_andNot, Op.intBits, bitsInt, bitsOf]⟩

theorem BinR.shl {k' : IntKind} (h : 0 ≤ b) : BinR P .shl t x y (.int k a) (.int k' b) (.int k (k.wrap (a * 2 ^ (min b.toNat k.bits)))) := by
  intro E v v' w h1 h2
  cases h1; cases h2
  exact ⟨_, .int _ _, by simp [eqGuard_at_int, binOp_shl, Op.shift, show ¬ b < 0 by omega]⟩
theorem BinR.shr {k' : IntKind} (h : 0 ≤ b) : BinR P .shr t x y (.int k a) (.int k' b) (.int k (a.fdiv (2 ^ (min b.toNat k.bits)))) := by
  intro E v v' w h1 h2
  cases h1; cases h2
  exact ⟨_, .int _ _, by simp [eqGuard_at_int, binOp_shr, Op.shift, show ¬ b < 0 by omega]⟩


theorem ba_toList (l : List UInt8) : (⟨l.toArray⟩ : ByteArray).toList = l := by
  rw [Lib.toList_data]
theorem ba_app (l m : List UInt8) : (⟨l.toArray⟩ : ByteArray) ++ ⟨m.toArray⟩ = ⟨(l ++ m).toArray⟩ := by
  apply ByteArray.ext
  simp
theorem ba_size (l : List UInt8) : (⟨l.toArray⟩ : ByteArray).size = l.length := by simp [ByteArray.size]

theorem BinR.mkStr {op : BinOp} {s u : List UInt8} {r : V} (h : ∀ E w, ∃ v, Rep E r v ∧ (binOp op t (.string ⟨s.toArray⟩) (.string ⟨u.toArray⟩)).run P w = .ok v w) : BinR P op t x y (.str s) (.str u) r := by
  intro E v v' w h1 h2
  cases h1; cases h2
  obtain ⟨v, hv, hr⟩ := h E w
  exact ⟨v, hv, by simp [eqGuard_at_string, hr]⟩
variable {s u : List UInt8}
theorem binOp_str (op : BinOp) : binOp op t (.string ⟨s.toArray⟩) (.string ⟨u.toArray⟩) = Op.stringOp op ⟨s.toArray⟩ ⟨u.toArray⟩ := by
  cases op <;> rfl
theorem BinR.seql : BinR P .eql t x y (.str s) (.str u) (.bool (decide (s = u))) := .mkStr fun E w => ⟨_, .bool _, by rw [binOp_str]; simp [Op.stringOp]; rw [Bool.eq_iff_iff]; simp⟩
theorem BinR.sneq : BinR P .neq t x y (.str s) (.str u) (.bool (decide (¬ s = u))) := .mkStr fun E w => ⟨_, .bool _, by rw [binOp_str]; simp [Op.stringOp]; rw [Bool.eq_iff_iff]; simp⟩
theorem BinR.slss : BinR P .lss t x y (.str s) (.str u) (.bool (Op.bytesLess s u)) := .mkStr fun E w => ⟨_, .bool _, by rw [binOp_str]; simp [Op.stringOp]⟩
theorem BinR.sgtr : BinR P .gtr t x y (.str s) (.str u) (.bool !(Op.bytesLess s u || decide (s = u))) := .mkStr fun E w => ⟨_, .bool _, by
  rw [binOp_str]; simp [Op.stringOp, -Bool.not_or]; congr 2; rw [Bool.eq_iff_iff]; simp⟩
theorem BinR.sgeq : BinR P .geq t x y (.str s) (.str u) (.bool !(Op.bytesLess s u)) := .mkStr fun E w => ⟨_, .bool _, by rw [binOp_str]; simp [Op.stringOp]⟩
theorem BinR.sleq : BinR P .leq t x y (.str s) (.str u) (.bool (Op.bytesLess s u || decide (s = u))) := .mkStr fun E w => ⟨_, .bool _, by
  rw [binOp_str]; simp [Op.stringOp]; congr 2; rw [Bool.eq_iff_iff]; simp⟩
theorem BinR.sadd (h : s.length + u.length ≤ 9223372036854775807) : BinR P .add t x y (.str s) (.str u) (.str (s ++ u)) := .mkStr fun E w => ⟨_, .str _, by
  rw [binOp_str]
  simp [Op.stringOp, ba_size, ba_app, IntKind.max, IntKind.signed, IntKind.bits]; omega⟩
end bin

theorem pure_not {t : TypeId} {x : Operand} {b : Bool} (ho : o.op = .unOp .not t x) (hx : st.val C x = some (.bool b)) : PureOp P C o st (.bool (!b)) :=
  .same fun a w E hR => by
    have h1 := hR.val hx
    generalize hv : a.eval x = v at h1
    cases h1
    exact ⟨_, .bool _, by simp [execOp, ho, hv, Op.unary]⟩

theorem pure_neg {t : TypeId} {x : Operand} {k : IntKind} {n : Int} (ho : o.op = .unOp .neg t x) (hx : st.val C x = some (.int k n)) (h : inK k (0 - n)) : PureOp P C o st (.int k (-n)) :=
  .same fun a w E hR => by
    have h1 := hR.val hx
    generalize hv : a.eval x = v at h1
    cases h1
    refine ⟨_, .int _ _, ?_⟩
    have := wrap_in h
    simp [execOp, ho, hv, Op.unary, Op.intArith] at this ⊢
    exact this

theorem pure_negW {t : TypeId} {x : Operand} {k : IntKind} {n : Int} (ho : o.op = .unOp .neg t x) (hx : st.val C x = some (.int k n)) : PureOp P C o st (.int k (k.wrap (-n))) :=
  .same fun a w E hR => by
    have h1 := hR.val hx
    generalize hv : a.eval x = v at h1
    cases h1
    exact ⟨_, .int _ _, by simp [execOp, ho, hv, Op.unary, Op.intArith]⟩

/-- nilCheck at what is not nil. -/
def V.notNil : V → Bool
  | .ref .. | .own .. => true
  | _ => false
theorem pure_nilCheck_ref {x : Operand} {s i c : Nat} {row : List V} (ho : o.op = .nilCheck x) (hx : st.val C x = some (.ref s row i c)) : PureOp P C o st (.ref s row i c) :=
  .same fun a w E hR => by
    have h1 := hR.val hx
    refine ⟨_, h1, ?_⟩
    generalize hv : a.eval x = v at h1
    cases h1
    simp [execOp, ho, hv]

theorem pure_extract {x : Operand} {l : List V} {i : Nat} {r : V} (ho : o.op = .extract x i) (hx : st.val C x = some (.tuple l)) (hi : l[i]? = some r) : PureOp P C o st r :=
  .same fun a w E hR => by
    have h1 := hR.val hx
    generalize hv : a.eval x = v at h1
    cases h1 with
    | tuple _ vs hl h =>
      have hlt : i < vs.length := by rw [← hl]; exact (List.getElem?_eq_some_iff.1 hi).1
      refine ⟨vs[i], h i _ _ hi (List.getElem?_eq_getElem hlt), ?_⟩
      simp [execOp, ho, hv, Instr.extract, List.getElem?_eq_getElem hlt]

/-! ### Lengths -/
def V.len? : V → Option Nat
  | .nilsl => some 0
  | .sl _ row => some row.length
  | _ => none

theorem Rep.slice_len {E : Env} {x : V} {v : Value} {n : Nat} (h : Rep E x v) (hl : x.len? = some n) : ∃ a c, v = .slice a n c := by
  cases h <;> simp [V.len?] at hl <;> (subst hl; exact ⟨_, _, rfl⟩)

theorem pure_len_slice {t e : TypeId} {sz by_ n : Nat} {x : Operand} {dx : V} (ht : TyF P t (.slice e) sz by_)
    (ho : o.op = .call { callee := .builtin .len, args := #[x], argTypes := #[t] }) (hx : st.val C x = some dx) (hl : dx.len? = some n) : PureOp P C o st (.int .i64 n) :=
  .same fun a w E hR => by
    obtain ⟨b, c, hv⟩ := (hR.val hx).slice_len hl
    refine ⟨_, .int _ _, ?_⟩
    simp [execOp, ho, hv, resolve, invoke, builtin, Builtin.len_, run_underlying ht.u, goInt]

theorem R.osl {a : Act} {w : World} {E : Env} (h : R C st a w E) {x : Operand} {id ver off n k s : Nat} {e : TypeId} {elems : List V} (hx : st.val C x = some (.osl id ver off n))
    (hk : st.obj[k]? = some (id, .row ver s e elems)) : ∃ l, E.m id = some l ∧ ObjRel E w l (.row ver s e elems) ∧
      ((l.blk = none ∧ n = 0 ∧ a.eval x = .slice none 0 0) ∨
        ∃ b o cap, l.blk = some b ∧ a.eval x = .slice (some ⟨b, o, none⟩) n cap ∧ n ≤ cap ∧ cap ≤ maxLen ∧ (cap = 0 ∨ (o = l.base + off * l.s ∧ l.base + (off + cap) * l.s ≤ l.size))) := by
  obtain ⟨l, hl, hrel⟩ := h.holds.objs _ _ (List.mem_of_getElem? hk)
  refine ⟨l, hl, hrel, ?_⟩
  have h1 := h.val hx
  generalize a.eval x = v at h1
  cases h1 with
  | osl _ _ _ _ l' v hm hvv h1 h =>
    obtain rfl : l = l' := by simpa [hl] using hm
    exact h hrel.1.symm

theorem pure_len_osl {t e e' : TypeId} {sz by_ : Nat} {x : Operand} {id ver off n k s : Nat} {elems : List V} (ht : TyF P t (.slice e) sz by_)
    (ho : o.op = .call { callee := .builtin .len, args := #[x], argTypes := #[t] }) (hx : st.val C x = some (.osl id ver off n))
    (hk : st.obj[k]? = some (id, .row ver s e' elems)) : PureOp P C o st (.int .i64 n) :=
  .same fun a w E hR => by
    obtain ⟨l, hl, hrel, h⟩ := hR.osl hx hk
    rcases h with ⟨_, rfl, hv⟩ | ⟨b, o', cap, _, hv, _⟩ <;>
      exact ⟨_, .int _ _, by simp [execOp, ho, resolve, invoke, builtin, Builtin.len_, run_underlying ht.u, goInt, hv]⟩

theorem pure_len_str {t : TypeId} {sz by_ : Nat} {x : Operand} {l : List UInt8} (ht : TyF P t .string sz by_)
    (ho : o.op = .call { callee := .builtin .len, args := #[x], argTypes := #[t] }) (hx : st.val C x = some (.str l)) : PureOp P C o st (.int .i64 l.length) :=
  .same fun a w E hR => by
    have h1 := hR.val hx
    generalize hv : a.eval x = v at h1
    cases h1
    refine ⟨_, .int _ _, ?_⟩
    simp [execOp, ho, hv, resolve, invoke, builtin, Builtin.len_, run_underlying ht.u, goInt, ba_size]

/-! ### Addresses in rows that stay -/

theorem pure_index_sl {t e : TypeId} {sz by_ by' : Nat} {x ix : Operand} {row : List V} {s i : Nat} {k : IntKind} {n : Int} (ht : TyF P t (.slice e) sz by_) (he : SizeF P e s by')
    (ho : o.op = .indexAddr t x ix) (hx : st.val C x = some (.sl s row)) (hix : st.val C ix = some (.int k n)) (hn : n = (i : Int)) (hi : i < row.length) : PureOp P C o st (.ref s row i 0) :=
  .same fun a w E hR => by
    have h1 := hR.val hx
    have h2 := hR.val hix
    generalize hv : a.eval x = v at h1
    generalize hu : a.eval ix = u at h2
    cases h2
    cases h1 with
    | slnil => simp at hi
    | slemp => simp at hi
    | sl _ _ b base cap val hcap hmax hs hI hr =>
      refine ⟨_, .ref s row i 0 b base val hs hI hr, ?_⟩
      subst hn
      simp [execOp, ho, hv, hu, Instr.indexAt, asIntOf, run_underlying ht.u, he.run_size, hi, Addr.add_lit]

theorem pure_field_ref {t : TypeId} {fs : Array Field} {sz by_ : Nat} {x : Operand} {row : List V} {s i c j : Nat} {f : Field} {fd : TypeDesc} {fsz fby : Nat} (ht : TyF P t (.struct fs) sz by_)
    (hf : fs[j]? = some f) (hft : TyF P f.type fd fsz fby) (hfz : fsz ≠ 0)
    (ho : o.op = .fieldAddr t x j) (hx : st.val C x = some (.ref s row i c)) : PureOp P C o st (.ref s row i (c + f.offset)) :=
  .same fun a w E hR => by
    have h1 := hR.val hx
    generalize hv : a.eval x = v at h1
    cases h1 with
    | ref _ _ _ _ b base val hs hI hr =>
      have := Rep.ref (E := E) s row i (c + f.offset) b base val hs hI hr
      refine ⟨_, this, ?_⟩
      simp [execOp, ho, hv, Instr.fieldAt, Instr.sureAddr, run_underlying ht.u, hf, fieldPlace, hft.run_size, hfz, Addr.add_lit, Nat.add_assoc]

/-- A load of one cell. -/
theorem pure_load_ref {t : TypeId} {d : TypeDesc} {sz by_ : Nat} {x : Operand} {row : List V} {s i c : Nat} {e r : V} (ht : TyF P t d sz by_) (hd : isAggD d = false)
    (ho : o.op = .load t x) (hx : st.val C x = some (.ref s row i c)) (hi : row[i]? = some e) (hc : e.cells[c]? = some r) : PureOp P C o st r :=
  .same fun a w E hR => by
    have h1 := hR.val hx
    generalize hv : a.eval x = v at h1
    cases h1 with
    | ref _ _ _ _ b base val hs hI hr =>
      refine ⟨_, hr i c e r hi hc, ?_⟩
      have := hR.holds.imm _ _ _ (hI i c e r hi hc)
      simp [execOp, ho, hv, Instr.loadAt, Instr.sureAddr, loadVar, ht.run_isAgg, hd, this]

/-- A load of several cells. -/
theorem pure_load_ref_agg {t : TypeId} {d : TypeDesc} {n by_ : Nat} {x : Operand} {row : List V} {s i c : Nat} {e : V} {l : List V} (ht : TyF P t d n by_) (hd : isAggD d = true)
    (ho : o.op = .load t x) (hx : st.val C x = some (.ref s row i c)) (hi : row[i]? = some e) (hl : (e.cells.drop c).take n = l) (hn : l.length = n) : PureOp P C o st (.agg l) :=
  .same fun a w E hR => by
    have h1 := hR.val hx
    generalize hv : a.eval x = v at h1
    cases h1 with
    | ref _ _ _ _ b base val hs hI hr =>
      have hcell : ∀ j, j < n → ∃ x, e.cells[c + j]? = some x ∧ l[j]? = some x := by
        intro j hj
        have hlt : j < l.length := by omega
        refine ⟨l[j], ?_, List.getElem?_eq_getElem hlt⟩
        have h3 : ((e.cells.drop c).take n)[j]? = some l[j] := by rw [hl]; exact List.getElem?_eq_getElem hlt
        rw [List.getElem?_take, if_pos hj, List.getElem?_drop] at h3
        exact h3
      have hload : ∀ j, j < n → w.cell? ((⟨b, base + i * s + c, none⟩ : Addr).add j) = some (val i (c + j)) := by
        intro j hj
        obtain ⟨x, hx1, _⟩ := hcell j hj
        have := hR.holds.imm _ _ _ (hI i (c + j) e x hi hx1)
        rw [Addr.add_lit]
        simpa [Nat.add_assoc] using this
      have hrun := run_loadCells (P := P) (w := w) ⟨b, base + i * s + c, none⟩ n (fun j => val i (c + j)) hload
      refine ⟨.agg ((List.range n).map fun j => val i (c + j)).toArray, ?_, ?_⟩
      · refine .agg l _ (by simp [hn]) ?_ ?_
        · intro v hv
          simp only [List.mem_map, List.mem_range] at hv
          obtain ⟨j, hj, rfl⟩ := hv
          obtain ⟨x, hx1, _⟩ := hcell j hj
          exact E.one _ _ _ (hI i (c + j) e x hi hx1)
        · intro j x v hx' hv
          have hj : j < n := by rw [← hn]; exact (List.getElem?_eq_some_iff.1 hx').1
          obtain ⟨y, hy1, hy2⟩ := hcell j hj
          have : y = x := by rw [hy2] at hx'; simpa using hx'
          subst this
          simp [hj] at hv
          subst hv
          exact hr i (c + j) e y hi hy1
      · simp [execOp, ho, hv, Instr.loadAt, Instr.sureAddr, loadVar, ht.run_isAgg, hd, ht.run_size, hrun]

end
end Go.Vc
