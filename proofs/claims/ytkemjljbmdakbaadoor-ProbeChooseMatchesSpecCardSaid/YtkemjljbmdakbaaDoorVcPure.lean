/-
  More operations that leave the owned objects alone, and the facts that they ask in handy forms.
-/
import Derived.Test.YtkemjljbmdakbaaDoorVcDraw
namespace Go.Vc

def fieldB (P : Program) (t : TypeId) (j : Nat) : Option (Nat × TypeId × Nat) :=
  match P.underlying t with
  | some (.struct fs) => (fs[j]?).map fun f => (f.offset, f.type, P.cellsOf f.type)
  | _ => none

/-- Field j of the struct type t begins at cell off, has the type ft and takes n cells. -/
structure FieldF (P : Program) (t : TypeId) (j off : Nat) (ft : TypeId) (n : Nat) : Prop where
  h : fieldB P t j = some (off, ft, n)

theorem FieldF.get {P : Program} {t : TypeId} {j off : Nat} {ft : TypeId} {n : Nat} (h : FieldF P t j off ft n) (hn : n ≠ 0) :
    ∃ fs f, P.underlying t = some (.struct fs) ∧ fs[j]? = some f ∧ f.offset = off ∧ f.type = ft ∧ ∀ w, (sizeOf f.type).run P w = .ok n w := by
  have h := h.h
  unfold fieldB at h
  split at h
  · rename_i fs hu
    cases hf : fs[j]? with
    | none => simp [hf] at h
    | some f =>
      simp only [hf, Option.map_some, Option.some.injEq, Prod.mk.injEq] at h
      refine ⟨fs, f, hu, hf, h.1, h.2.1, fun w => ?_⟩
      have h3 := h.2.2
      unfold Program.cellsOf at h3
      cases hi : P.info? f.type with
      | none => rw [hi] at h3; simp at h3; exact absurd h3.symm hn
      | some i => rw [hi] at h3; simp at h3; simp [sizeOf, typeInfo, hi, h3]
  · cases h

/-- A struct or array type of n cells. -/
structure AggF (P : Program) (t : TypeId) (n : Nat) : Prop where
  a : (P.underlying t).map isAggD = some true
  i : (P.info? t).map (·.size) = some n

theorem AggF.run_size {P : Program} {t : TypeId} {n : Nat} (h : AggF P t n) (w : World) : (sizeOf t).run P w = .ok n w := by
  have := h.i
  cases hi : P.info? t with
  | none => simp [hi] at this
  | some i => simp [hi] at this; simp [sizeOf, typeInfo, hi, this]

theorem AggF.ty {P : Program} {t : TypeId} {n : Nat} (h : AggF P t n) : ∃ d b, TyF P t d n b ∧ isAggD d = true := by
  have h1 := h.a
  have h2 := h.i
  cases hu : P.underlying t with
  | none => simp [hu] at h1
  | some d =>
    cases hi : P.info? t with
    | none => simp [hi] at h2
    | some i =>
      simp [hu] at h1; simp [hi] at h2
      exact ⟨d, i.bytes, ⟨hu, by simp [hi, h2]⟩, h1⟩

section
variable {P : Program} {C : Ctx} {o : Oper} {st : St}

theorem p_field_ref {t ft : TypeId} {x : Operand} {row : List V} {s i c j off n : Nat} (hf : FieldF P t j off ft n) (hn : n ≠ 0)
    (ho : o.op = .fieldAddr t x j) (hx : st.val C x = some (.ref s row i c)) : PureOp P C o st (.ref s row i (c + off)) :=
  .same fun a w E hR => by
    have h1 := hR.val hx
    generalize hv : a.eval x = v at h1
    obtain ⟨fs, f, hu, hj, rfl, rfl, hsz⟩ := hf.get hn
    cases h1 with
    | ref _ _ _ _ b base val hs hI hr =>
      have := Rep.ref (E := E) s row i (c + f.offset) b base val hs hI hr
      refine ⟨_, this, ?_⟩
      simp [execOp, ho, hv, Instr.fieldAt, Instr.sureAddr, run_underlying hu, hj, fieldPlace, hsz, hn, Addr.add_lit, Nat.add_assoc]

theorem p_field_own {t ft : TypeId} {x : Operand} {id ver i c k s j off n : Nat} {e : TypeId} {elems : List V} (hf : FieldF P t j off ft n) (hn : n ≠ 0)
    (ho : o.op = .fieldAddr t x j) (hx : st.val C x = some (.own id ver i c)) (hk : st.obj[k]? = some (id, .row ver s e elems)) : PureOp P C o st (.own id ver i (c + off)) :=
  .same fun a w E hR => by
    obtain ⟨l, b, hl, hrel, hb, hs, hv⟩ := hR.own hx hk
    obtain ⟨fs, f, hu, hj, rfl, rfl, hsz⟩ := hf.get hn
    refine ⟨.pointer (some ⟨b, l.base + i * s + (c + f.offset), none⟩), .own _ _ _ _ l _ hl (by rw [hrel.1]; exact Nat.le_refl _) rfl fun _ => ⟨b, hb, by rw [hs]⟩, ?_⟩
    simp [execOp, ho, hv, Instr.fieldAt, Instr.sureAddr, run_underlying hu, hj, fieldPlace, hsz, hn, Addr.add_lit, Nat.add_assoc]

theorem p_load_ref {t : TypeId} {d : TypeDesc} {sz by_ : Nat} {x : Operand} {row : List V} {s i c : Nat} {e r : V} (ht : TyF P t d sz by_) (hd : isAggD d = false)
    (ho : o.op = .load t x) (hx : st.val C x = some (.ref s row i c)) (hi : row[i]? = some e) (hc : e.cells[c]? = some r) : PureOp P C o st r := pure_load_ref ht hd ho hx hi hc

theorem p_load_ref_agg {t : TypeId} {n : Nat} {x : Operand} {row : List V} {s i c : Nat} {e : V} {l : List V} (ht : AggF P t n)
    (ho : o.op = .load t x) (hx : st.val C x = some (.ref s row i c)) (hi : row[i]? = some e) (hl : (e.cells.drop c).take n = l) (hn : l.length = n) : PureOp P C o st (.agg l) := by
  obtain ⟨d, b, h1, h2⟩ := ht.ty
  exact pure_load_ref_agg h1 h2 ho hx hi hl hn

theorem p_load_own_agg {t : TypeId} {n : Nat} {x : Operand} {id ver i c k s : Nat} {e : TypeId} {elems : List V} {el : V} {lv : List V} (ht : AggF P t n)
    (ho : o.op = .load t x) (hx : st.val C x = some (.own id ver i c)) (hk : st.obj[k]? = some (id, .row ver s e elems)) (hi : elems[i]? = some el) (hl : (el.cells.drop c).take n = lv) (hn : lv.length = n) : PureOp P C o st (.agg lv) := by
  obtain ⟨d, b, h1, h2⟩ := ht.ty
  exact pure_load_own_agg h1 h2 ho hx hk hi hl hn

/-- A part of a struct value. -/
theorem p_field {t ft : TypeId} {d : TypeDesc} {sz by_ : Nat} {x : Operand} {j off n : Nat} {cs : List V} {r : V} (hf : FieldF P t j off ft n) (hn : n ≠ 0) (ht : TyF P ft d sz by_) (hd : isAggD d = false)
    (ho : o.op = .field t x j) (hx : st.val C x = some (.agg cs)) (hc : cs[off]? = some r) : PureOp P C o st r :=
  .same fun a w E hR => by
    have h1 := hR.val hx
    generalize hv : a.eval x = v at h1
    obtain ⟨fs, f, hu, hj, rfl, rfl, hsz⟩ := hf.get hn
    cases h1 with
    | agg _ vs hl _ hr =>
      have hlt : f.offset < vs.length := by rw [← hl]; exact (List.getElem?_eq_some_iff.1 hc).1
      refine ⟨vs[f.offset], hr _ _ _ hc (List.getElem?_eq_getElem hlt), ?_⟩
      simp [execOp, ho, hv, Instr.field, run_underlying hu, hj, asAgg, part, ht.run_isAgg, hd, hlt]

theorem p_field_agg {t ft : TypeId} {x : Operand} {j off n : Nat} {cs l : List V} (hf : FieldF P t j off ft n) (hn : n ≠ 0) (ht : AggF P ft n)
    (ho : o.op = .field t x j) (hx : st.val C x = some (.agg cs)) (hl : (cs.drop off).take n = l) : PureOp P C o st (.agg l) :=
  .same fun a w E hR => by
    have h1 := hR.val hx
    generalize hv : a.eval x = v at h1
    obtain ⟨fs, f, hu, hj, rfl, rfl, hsz⟩ := hf.get hn
    obtain ⟨d, b, ht1, ht2⟩ := ht.ty
    cases h1 with
    | agg _ vs hvl h1 hr =>
      refine ⟨.agg ((vs.drop f.offset).take n).toArray, .agg l _ ?_ (fun v hv => h1 v (List.mem_of_mem_drop (List.mem_of_mem_take hv))) ?_, ?_⟩
      · rw [← hl]; simp [hvl]
      · intro i y u hy hu
        rw [← hl, List.getElem?_take] at hy
        rw [List.getElem?_take] at hu
        split at hy
        · rename_i hi
          rw [if_pos hi] at hu
          rw [List.getElem?_drop] at hy hu
          exact hr _ y u hy hu
        · cases hy
      · have : vs.toArray.extract f.offset (f.offset + n) = ((vs.drop f.offset).take n).toArray := by
          simp [List.extract_toArray, List.extract_eq_take_drop]
        simp [execOp, ho, hv, Instr.field, run_underlying hu, hj, asAgg, part, ht1.run_isAgg, ht2, hsz, List.extract_eq_take_drop]

/-- A byte of a string. -/
theorem p_index_str {t : TypeId} {sz by_ : Nat} {x ix : Operand} {l : List UInt8} {k : IntKind} {n : Int} {i : Nat} {b : UInt8} (ht : TyF P t .string sz by_)
    (ho : o.op = .index t x ix) (hx : st.val C x = some (.str l)) (hix : st.val C ix = some (.int k n)) (hn : n = (i : Int)) (hb : l[i]? = some b) : PureOp P C o st (byteV b) :=
  .same fun a w E hR => by
    have h1 := hR.val hx
    have h2 := hR.val hix
    generalize hv : a.eval x = v at h1
    generalize hu : a.eval ix = u at h2
    cases h1; cases h2
    subst hn
    refine ⟨.int .u8 b.toNat, .int _ _, ?_⟩
    have hg : (⟨l.toArray⟩ : ByteArray)[i]? = some b := by
      obtain ⟨h3, h4⟩ := List.getElem?_eq_some_iff.1 hb
      have hlt : i < (⟨l.toArray⟩ : ByteArray).size := by rw [ba_size]; exact h3
      rw [getElem?_pos (⟨l.toArray⟩ : ByteArray) i hlt, ← h4]
      rfl
    simp [execOp, ho, hv, hu, Instr.index, asIntOf, run_underlying ht.u, hg]

/-! ### Slices of slices and of strings -/

/-- A bound that is there, or none: what it is. -/
def bndV (C : Ctx) (st : St) (b : Option Operand) (dflt : Nat) (n : Nat) : Prop :=
  match b with
  | none => n = dflt
  | some p => ∃ k m, st.val C p = some (.int k m) ∧ m = (n : Int)

theorem sliceBound_run {w : World} {k : IntKind} {n y : Nat} {c : BoundsCode} (h : n ≤ y) : (Instr.sliceBound (.int k n) y c).run P w = .ok n w := by
  simp [Instr.sliceBound, asIntOf, h]

theorem sliceBounds_run {w : World} {a : Act} {E : Env} (hR : R C st a w E) {b : Bool} {len cap lo hi : Nat} {plo phi : Option Operand} (hl : bndV C st plo 0 lo) (hh : bndV C st phi len hi) (h1 : lo ≤ hi) (h2 : hi ≤ cap) :
    (Instr.sliceBounds b len cap (plo.map a.eval) (phi.map a.eval) none).run P w = .ok (lo, hi, cap) w := by
  have bound : ∀ (p : Operand) (m : Int) (k : IntKind) (n : Nat), st.val C p = some (.int k m) → m = (n : Int) → a.eval p = .int k n := by
    intro p m k n hp hm
    have h3 := hR.val hp
    generalize a.eval p = v at h3
    cases h3
    rw [hm]
  have h1' : (Instr.sliceBounds b len cap (plo.map a.eval) (phi.map a.eval) none).run P w = ((do
      let h ← match phi.map a.eval with
        | some v => Instr.sliceBound v cap (if b then .sliceAcap else .sliceAlen)
        | none => Pure.pure len
      let l ← match plo.map a.eval with
        | some v => Instr.sliceBound v h .sliceB
        | none => Pure.pure 0
      Pure.pure (l, h, cap)) : Sem (Nat × Nat × Nat)).run P w := by
    cases phi <;> cases plo <;> rfl
  rw [h1']
  cases phi with
  | none =>
    simp only [bndV] at hh
    subst hh
    cases plo with
    | none => simp only [bndV] at hl; subst hl; simp
    | some p =>
      obtain ⟨k, m, hp, hm⟩ := hl
      simp [bound p m k lo hp hm, sliceBound_run h1]
  | some q =>
    obtain ⟨k', m', hq, hm'⟩ := hh
    cases plo with
    | none => simp only [bndV] at hl; subst hl; simp [bound q m' k' hi hq hm', sliceBound_run h2]
    | some p =>
      obtain ⟨k, m, hp, hm⟩ := hl
      simp [bound p m k lo hp hm, bound q m' k' hi hq hm', sliceBound_run h1, sliceBound_run h2]

theorem p_slice_str {t : TypeId} {sz by_ : Nat} {x : Operand} {plo phi : Option Operand} {l : List UInt8} {lo hi : Nat} (ht : TyF P t .string sz by_)
    (ho : o.op = .slice t x plo phi none) (hx : st.val C x = some (.str l)) (hl : bndV C st plo 0 lo) (hh : bndV C st phi l.length hi) (h1 : lo ≤ hi) (h2 : hi ≤ l.length) : PureOp P C o st (.str ((l.drop lo).take (hi - lo))) :=
  .same fun a w E hR => by
    have h3 := hR.val hx
    generalize hv : a.eval x = v at h3
    cases h3
    have hb := sliceBounds_run (P := P) hR (b := false) (len := l.length) (cap := l.length) hl hh h1 h2
    refine ⟨_, .str _, ?_⟩
    have he : (⟨l.toArray⟩ : ByteArray).extract lo hi = ⟨((l.drop lo).take (hi - lo)).toArray⟩ := by rw [Lib.extract_eq]
    simp only [execOp, ho, Instr.sliceAt, hv, Option.map_none, Sem.run_bind, run_underlying ht.u, Result.andThen_ok, Instr.slice]
    simp only [Option.isSome_none, Bool.false_eq_true, if_false, ba_size, Sem.run_bind, hb, Result.andThen_ok, Sem.run_pure, he]

theorem p_slice_sl {t e : TypeId} {sz by_ by' s : Nat} {x : Operand} {plo phi : Option Operand} {row : List V} {lo hi : Nat} (ht : TyF P t (.slice e) sz by_) (he : SizeF P e s by')
    (ho : o.op = .slice t x plo phi none) (hx : st.val C x = some (.sl s row)) (hl : bndV C st plo 0 lo) (hh : bndV C st phi row.length hi) (h1 : lo ≤ hi) (h2 : hi ≤ row.length) : PureOp P C o st (.sl s ((row.drop lo).take (hi - lo))) :=
  .same fun a w E hR => by
    have h3 := hR.val hx
    generalize hv : a.eval x = v at h3
    have hlen : ((row.drop lo).take (hi - lo)).length = hi - lo := by simp; omega
    have run : ∀ (base : Option Addr) (cap : Nat), v = .slice base row.length cap → row.length ≤ cap → (execOp a.eval o).run P w = .ok (.value (.slice (if cap = lo then base else base.map (·.add (lo * s))) (hi - lo) (cap - lo))) w := by
      intro base cap hv' hcap
      have hb := sliceBounds_run (P := P) hR (b := true) (len := row.length) (cap := cap) hl hh h1 (by omega)
      simp only [execOp, ho, Instr.sliceAt, hv, hv', Option.map_none, Sem.run_bind, run_underlying ht.u, Result.andThen_ok, Instr.slice, hb, he.run_size, Sem.run_pure]
    cases h3 with
    | slnil =>
      have : lo = 0 ∧ hi = 0 := by simp at h2; omega
      obtain ⟨rfl, rfl⟩ := this
      refine ⟨_, ?_, run none 0 rfl (Nat.le_refl _)⟩
      simpa using Rep.slnil (E := E) s
    | slemp _ ad =>
      have : lo = 0 ∧ hi = 0 := by simp at h2; omega
      obtain ⟨rfl, rfl⟩ := this
      refine ⟨_, ?_, run (some ad) 0 rfl (Nat.le_refl _)⟩
      simpa using Rep.slemp (E := E) s ad
    | sl _ _ b base cap val hcap hmax hs hI hr =>
      refine ⟨_, ?_, run _ cap rfl hcap⟩
      have key : ∀ base', (hi - lo = 0 ∨ base' = base + lo * s) → Rep E (.sl s ((row.drop lo).take (hi - lo))) (.slice (some ⟨b, base', none⟩) ((row.drop lo).take (hi - lo)).length (cap - lo)) := by
        intro base' hb'
        refine .sl s _ b base' (cap - lo) (fun j c => val (lo + j) c) (by omega) (by omega) ?_ ?_ ?_
        · intro j d hj
          exact hs (lo + j) d (by rw [List.getElem?_take] at hj; split at hj <;> simp at hj; exact hj)
        · intro j c d y hj hy
          have hjl : j < hi - lo := by rw [List.getElem?_take] at hj; split at hj <;> simp_all
          rw [List.getElem?_take, if_pos hjl, List.getElem?_drop] at hj
          rcases hb' with hb0 | rfl
          · omega
          · have := hI (lo + j) c d y hj hy
            rw [← this]; congr 1; rw [Nat.add_mul]; omega
        · intro j c d y hj hy
          have hjl : j < hi - lo := by rw [List.getElem?_take] at hj; split at hj <;> simp_all
          rw [List.getElem?_take, if_pos hjl, List.getElem?_drop] at hj
          exact hr (lo + j) c d y hj hy
      by_cases hc : cap = lo
      · rw [if_pos hc]
        have := key base (.inl (by omega))
        rwa [hlen] at this
      · rw [if_neg hc]
        simp only [Option.map_some, Addr.add_lit]
        have := key (base + lo * s) (.inr rfl)
        rwa [hlen] at this

theorem p_slice_osl {t e : TypeId} {sz by_ by' s : Nat} {x : Operand} {plo phi : Option Operand} {id ver off len k : Nat} {e' : TypeId} {elems : List V} {lo hi : Nat} (ht : TyF P t (.slice e) sz by_) (he : SizeF P e s by')
    (ho : o.op = .slice t x plo phi none) (hx : st.val C x = some (.osl id ver off len)) (hk : st.obj[k]? = some (id, .row ver s e' elems)) (hl : bndV C st plo 0 lo) (hh : bndV C st phi len hi) (h1 : lo ≤ hi) (h2 : hi ≤ len) : PureOp P C o st (.osl id ver (off + lo) (hi - lo)) :=
  .same fun a w E hR => by
    obtain ⟨l, hlo, hrel, hcase⟩ := hR.osl hx hk
    have hs : l.s = s := hrel.2.1
    have run : ∀ (base : Option Addr) (cap : Nat), a.eval x = .slice base len cap → len ≤ cap → (execOp a.eval o).run P w = .ok (.value (.slice (if cap = lo then base else base.map (·.add (lo * s))) (hi - lo) (cap - lo))) w := by
      intro base cap hv' hcap
      have hb := sliceBounds_run (P := P) hR (b := true) (len := len) (cap := cap) hl hh h1 (by omega)
      simp only [execOp, ho, Instr.sliceAt, hv', Option.map_none, Sem.run_bind, run_underlying ht.u, Result.andThen_ok, Instr.slice, hb, he.run_size, Sem.run_pure]
    rcases hcase with ⟨hb, rfl, hv⟩ | ⟨b, o', cap, hb, hv, hlc, hcm, hc⟩
    · have : lo = 0 ∧ hi = 0 := by omega
      obtain ⟨rfl, rfl⟩ := this
      refine ⟨_, .osl _ _ _ _ l _ hlo (by rw [hrel.1]; exact Nat.le_refl _) rfl fun _ => .inl ⟨hb, rfl, rfl⟩, run none 0 hv (Nat.le_refl _)⟩
    · refine ⟨_, .osl _ _ _ _ l _ hlo (by rw [hrel.1]; exact Nat.le_refl _) ?_ fun _ => .inr ⟨b, if cap = lo then o' else o' + lo * s, cap - lo, hb, ?_, by omega, by omega, ?_⟩, run _ cap hv hlc⟩
      · split <;> rfl
      · split
        · rfl
        · simp only [Option.map_some, Addr.add_lit]
      · by_cases hcl : cap = lo
        · left; omega
        · rw [if_neg hcl]
          rcases hc with hc | ⟨hc1, hc2⟩
          · left; omega
          · right
            rw [hs] at hc1 hc2 ⊢
            refine ⟨by rw [hc1, Nat.add_mul]; omega, ?_⟩
            have : off + lo + (cap - lo) = off + cap := by omega
            rw [this]; exact hc2

/-! ### Struct values, functions, interfaces, conversions -/

theorem p_makeFunc {fn : Fn} {first caps : Array Operand} {xs ys : List V} (ho : o.op = .makeFunc fn first caps) (hx : argsV C st first.toList xs) (hy : argsV C st caps.toList ys) : PureOp P C o st (.func fn xs ys) :=
  .same fun a w E hR => by
    obtain ⟨l1, g1⟩ := hx.get
    obtain ⟨l2, g2⟩ := hy.get
    refine ⟨.func fn (first.map a.eval) (caps.map a.eval), ?_, by simp [execOp, ho, Instr.makeFunc]⟩
    have key : ∀ (A : Array Operand) (zs : List V), (∀ (i : Nat) (x : V), zs[i]? = some x → ∃ p, A.toList[i]? = some p ∧ st.val C p = some x) → ∀ (i : Nat) (x : V) (v : Value), zs[i]? = some x → (A.toList.map a.eval)[i]? = some v → Rep E x v := by
      intro A zs hg i x v hzx hv
      obtain ⟨p, hp, hpv⟩ := hg i x hzx
      rw [List.getElem?_map, hp] at hv
      simp at hv; subst hv
      exact hR.val hpv
    have := Rep.func (E := E) fn xs ys (first.toList.map a.eval) (caps.toList.map a.eval) (by simp [← l1]) (by simp [← l2]) (key _ _ g1) (key _ _ g2)
    have e1 : (first.toList.map a.eval).toArray = first.map a.eval := by apply Array.ext'; simp
    have e2 : (caps.toList.map a.eval).toArray = caps.map a.eval := by apply Array.ext'; simp
    rw [e1, e2] at this
    exact this

theorem p_makeIface {t : TypeId} {x : Operand} {dx : V} (hu : ∃ d, P.underlying t = some d ∧ (∀ ms, d ≠ .interface ms)) (ho : o.op = .makeInterface t x) (hx : st.val C x = some dx) : PureOp P C o st (.iface t dx) :=
  .same fun a w E hR => by
    obtain ⟨d, hd, hne⟩ := hu
    refine ⟨_, .iface t dx _ (hR.val hx), ?_⟩
    simp only [execOp, ho, Instr.makeInterface, Sem.run_bind, run_underlying hd, Result.andThen_ok]
    cases d <;> first | rfl | exact absurd rfl (hne _)

theorem p_conv_int {src dst : TypeId} {ds : TypeDesc} {s1 b1 s2 b2 : Nat} {k k' : IntKind} {n : Int} {x : Operand} (hs : TyF P src ds s1 b1) (ht : TyF P dst (.int k') s2 b2) (ho : o.op = .convert src dst x) (hx : st.val C x = some (.int k n)) (hin : inK k' n) : PureOp P C o st (.int k' n) :=
  .same fun a w E hR => by
    have h1 := hR.val hx
    generalize hv : a.eval x = v at h1
    cases h1
    refine ⟨.int k' n, .int _ _, ?_⟩
    simp only [execOp, ho, hv, convert, Sem.run_bind, run_underlying hs.u, run_underlying ht.u, Result.andThen_ok]
    cases ds <;> simp [Conv.intToInt, wrap_in hin]

theorem p_conv_intW {src dst : TypeId} {ds : TypeDesc} {s1 b1 s2 b2 : Nat} {k k' : IntKind} {n : Int} {x : Operand} (hs : TyF P src ds s1 b1) (ht : TyF P dst (.int k') s2 b2) (ho : o.op = .convert src dst x) (hx : st.val C x = some (.int k n)) : PureOp P C o st (.int k' (k'.wrap n)) :=
  .same fun a w E hR => by
    have h1 := hR.val hx
    generalize hv : a.eval x = v at h1
    cases h1
    refine ⟨.int k' (k'.wrap n), .int _ _, ?_⟩
    simp only [execOp, ho, hv, convert, Sem.run_bind, run_underlying hs.u, run_underlying ht.u, Result.andThen_ok]
    cases ds <;> simp [Conv.intToInt]

theorem p_conv_str {src dst : TypeId} {s1 b1 s2 b2 : Nat} {l : List UInt8} {x : Operand} (hs : TyF P src .string s1 b1) (ht : TyF P dst .string s2 b2) (ho : o.op = .convert src dst x) (hx : st.val C x = some (.str l)) : PureOp P C o st (.str l) :=
  .same fun a w E hR => by
    have h1 := hR.val hx
    generalize hv : a.eval x = v at h1
    cases h1
    refine ⟨_, .str l, ?_⟩
    simp [execOp, ho, hv, convert, run_underlying hs.u, run_underlying ht.u]

end
end Go.Vc
