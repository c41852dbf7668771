/-
  Operations that make or change owned objects.
-/
import Derived.Test.YtkemjljbmdakbaaDoorVcObj
namespace Go.Vc

structure ZeroF (P : Program) (t : TypeId) (z : Value) : Prop where
  hz : (P.info? t).bind (·.zero) = some z
  one : z.cells.toList.all (fun v => v.oneCell') = true

theorem ZeroF.run {P : Program} {t : TypeId} {z : Value} (h : ZeroF P t z) (w : World) : (zeroValue t).run P w = .ok z w := by
  have := h.hz
  cases hi : P.info? t with
  | none => simp [hi] at this
  | some i => simp [hi] at this; simp [zeroValue, typeInfo, hi, this]

/-- The abstract zero value. -/
def V.zero : Value → V
  | .agg cs => .agg (cs.toList.map V.leaf)
  | v => V.leaf v

/-- What lies in memory for an abstract value. -/
def Lies (E : Env) (x : V) (cs : List Value) : Prop :=
  cs.length = x.cells.length ∧ (∀ v ∈ cs, v.oneCell' = true) ∧ ∀ (c : Nat) (y : V) (v : Value), x.cells[c]? = some y → cs[c]? = some v → Rep E y v

theorem Lies.zero {P : Program} {t : TypeId} {z : Value} (h : ZeroF P t z) (E : Env) : Lies E (V.zero z) z.cells.toList := by
  have h1 := h.one
  unfold Lies
  refine ⟨?_, fun v hv => List.all_eq_true.1 h1 v hv, ?_⟩
  · unfold V.zero
    split
    · simp [V.cells, Value.cells]
    · rename_i hne
      have : (V.leaf z).cells = [V.leaf z] := by
        unfold V.leaf; split <;> rfl
      rw [this]
      cases z <;> simp_all [Value.cells]
  · intro c y v hy hv
    unfold V.zero at hy
    split at hy
    · simp only [V.cells, List.getElem?_map] at hy
      simp only [Value.cells] at hv
      rw [hv] at hy
      simp only [Option.map_some, Option.some.injEq] at hy
      subst hy
      exact Rep.leaf E v
    · rename_i hne
      have h2 : (V.leaf z).cells = [V.leaf z] := by
        unfold V.leaf; split <;> rfl
      rw [h2] at hy
      have h3 : z.cells = #[z] := by cases z <;> simp_all [Value.cells]
      rw [h3] at hv
      cases c with
      | zero => simp at hy hv; subst hy; subst hv; exact Rep.leaf E z
      | succ c => simp at hy

/-- The value can be laid into memory. -/
def V.fits : V → Bool
  | .agg _ => true
  | x => x.one

theorem Rep.lies {E : Env} {x : V} {v : Value} (h : Rep E x v) (hf : x.fits = true) : Lies E x v.cells.toList := by
  by_cases h1 : x.one = true
  · have hone := h.oneCell h1
    have hx : x.cells = [x] := by cases x <;> simp_all [V.cells, V.one]
    have hv : v.cells = #[v] := by cases v <;> simp_all [Value.cells, Value.oneCell']
    refine ⟨by simp [hx, hv], by simp [hv, hone], fun c y u hy hu => ?_⟩
    rw [hx] at hy; rw [hv] at hu
    cases c with
    | zero => simp at hy hu; subst hy; subst hu; exact h
    | succ c => simp at hy
  · cases h with
    | agg xs vs hl h2 hr => exact ⟨by simp [Value.cells, V.cells, hl], fun v hv => h2 v (by simpa [Value.cells] using hv), fun c y u hy hu => hr c y u (by simpa [V.cells] using hy) (by simpa [Value.cells] using hu)⟩
    | _ => simp_all [V.fits, V.one]

theorem Lies.mono {E E' : Env} (hE : E.le E') {x : V} {cs : List Value} (h : Lies E x cs) : Lies E' x cs := ⟨h.1, h.2.1, fun c y v hy hv => (h.2.2 c y v hy hv).mono hE⟩

section
variable {P : Program} {C : Ctx} {ops : Array Oper} {o : Oper} {l : List Oper} {st : St} {Q : Exit → St → Prop}

/-- The general form of an effect. -/
theorem OpsS.eff (hg : st.guard ops o = some true)
    (h : ∀ a w E, R C st a w E → ∃ v w' E' r obj', E.le E' ∧ Rep E' r v ∧ Holds C E' obj' w' ∧ ((execOp a.eval o).run P w = .ok (.value v) w' ∨ (v = undef ∧ (execOp a.eval o).run P w = .ok .skip w')) ∧
      OpsS P C ops l (({ st with obj := obj' } : St).put o.dst r) Q) : OpsS P C ops (o :: l) st Q := by
  intro hd a w E hR
  obtain ⟨hd1, hd2⟩ := dstOk_cons hd
  unfold wpList
  rw [if_pos (hR.wanted hg)]
  obtain ⟨v, w', E', r, obj', hE, hr, hh, hrun, hnext⟩ := h a w E hR
  refine .inl ?_
  unfold Oper.wp
  rcases hrun with hrun | ⟨rfl, hrun⟩ <;> rw [hrun]
  · exact hnext hd2 _ _ E' (hR.put hE hh hr hd1)
  · exact hnext hd2 _ _ E' (hR.put hE hh hr hd1)

/-- An operation with its abstract result and the objects behind it. -/
def EffOp (P : Program) (C : Ctx) (o : Oper) (st : St) (r : V) (obj' : Objs) : Prop :=
  ∀ a w E, R C st a w E → ∀ (K : Act → World → Prop) (Qx : Exit → Act → World → Prop),
    (∀ v w' E', E.le E' → Rep E' r v → Holds C E' obj' w' → K (a.put o.dst v) w') → o.wp P a w K Qx

theorem EffOp.of {r : V} {obj' : Objs} (h : ∀ a w E, R C st a w E → ∃ v w' E' r' obj'', E.le E' ∧ Rep E' r' v ∧ Holds C E' obj'' w' ∧ ((execOp a.eval o).run P w = .ok (.value v) w' ∨ (v = undef ∧ (execOp a.eval o).run P w = .ok .skip w')) ∧
    (r' = r ∧ obj'' = obj')) : EffOp P C o st r obj' := by
  intro a w E hR K Qx hK
  obtain ⟨v, w', E', r', obj'', hE, hr, hh, hrun, rfl, rfl⟩ := h a w E hR
  unfold Oper.wp
  rcases hrun with hrun | ⟨rfl, hrun⟩ <;> rw [hrun]
  · exact hK _ _ E' hE hr hh
  · exact hK _ _ E' hE hr hh

theorem OpsS.effop {r : V} {obj' : Objs} (hg : st.guard ops o = some true) (ho : EffOp P C o st r obj') (h : OpsS P C ops l (({ st with obj := obj' } : St).put o.dst r) Q) : OpsS P C ops (o :: l) st Q := by
  intro hd a w E hR
  obtain ⟨hd1, hd2⟩ := dstOk_cons hd
  unfold wpList
  rw [if_pos (hR.wanted hg)]
  refine .inl (ho a w E hR _ _ fun v w' E' hE hr hh => ?_)
  exact h hd2 _ _ E' (hR.put hE hh hr hd1)

/-- A new row with one element. -/
theorem Holds.newRow {E : Env} {obj : Objs} {w : World} (h : Holds C E obj w) {e : TypeId} {x : V} {cs : List Value} (hl : Lies E x cs) :
    Holds C (E.setm E.n ⟨some w.heap.size, 0, 0, cs.length, cs.length⟩) (obj ++ [(E.n, .row 0 cs.length e [x])]) (w.alloc (.cells cs.toArray e)) := by
  refine h.new (.inr ⟨w.heap.size, rfl, Nat.le_refl _⟩) (World.grownBy_alloc w _ none) ?_
  have hle : E.le (E.setm E.n ⟨some w.heap.size, 0, 0, cs.length, cs.length⟩) := Env.le_setm fun l1 h1 => by rw [E.fresh _ (Nat.le_refl _)] at h1; cases h1
  refine ⟨rfl, rfl, .inr ⟨w.heap.size, cs.toArray, rfl, ?_, by simp, by simp, ?_, ?_, ?_⟩⟩
  · exact heap_alloc_new w _
  · intro j v hv; exact hl.2.1 v (List.mem_of_getElem? (by simpa using hv))
  · intro j d hd
    cases j with
    | zero => simp at hd; subst hd; exact hl.1.symm
    | succ j => simp at hd
  · intro j c d y hd hy
    cases j with
    | zero =>
      simp only [List.getElem?_cons_zero, Option.some.injEq] at hd; subst hd
      have hc : c < cs.length := by rw [hl.1]; exact (List.getElem?_eq_some_iff.1 hy).1
      refine ⟨cs[c], by simp [hc], (hl.2.2 c y _ hy (List.getElem?_eq_getElem hc)).mono hle⟩
    | succ j => simp at hd

theorem Rep.own_new {E : Env} {b n : Nat} {c : Nat} : Rep (E.setm E.n ⟨some b, 0, 0, n, n⟩) (.own E.n 0 0 c) (.pointer (some ⟨b, c, none⟩)) :=
  .own _ _ _ _ _ _ (E.setm_same _ _) (Nat.le_refl _) rfl fun _ => ⟨b, rfl, by simp⟩

theorem OpsS.alloc {t : TypeId} {z : Value} {s : Nat} (hg : st.guard ops o = some true) (ho : o.op = .alloc t) (hz : ZeroF P t z) (hs : z.cells.size = s)
    (h : ∀ q, OpsS P C ops l (({ st with obj := st.obj ++ [(q, .row 0 s t [V.zero z])] } : St).put o.dst (.own q 0 0 0)) Q) : OpsS P C ops (o :: l) st Q :=
  .eff hg fun a w E hR => by
    have hl := Lies.zero hz E
    have hh := hR.holds.newRow (e := t) hl
    have hsz : z.cells.toList.length = s := by simpa using hs
    rw [hsz] at hh
    refine ⟨_, _, _, .own E.n 0 0 0, _, Env.le_setm fun l1 h1 => (by rw [E.fresh _ (Nat.le_refl _)] at h1; cases h1), Rep.own_new, hh, .inl ?_, h E.n⟩
    simp [execOp, ho, Instr.alloc, hz.run, newVar, newRow]

theorem OpsS.box {t : TypeId} {x : Operand} {dx : V} {s : Nat} (hg : st.guard ops o = some true) (ho : o.op = .box t x) (hx : st.val C x = some dx) (hf : dx.fits = true) (hs : dx.cells.length = s)
    (h : ∀ q, OpsS P C ops l (({ st with obj := st.obj ++ [(q, .row 0 s t [dx])] } : St).put o.dst (.own q 0 0 0)) Q) : OpsS P C ops (o :: l) st Q :=
  .eff hg fun a w E hR => by
    have hl := (hR.val hx).lies hf
    have hh := hR.holds.newRow (e := t) hl
    have hsz : (a.eval x).cells.toList.length = s := by rw [hl.1, hs]
    rw [hsz] at hh
    refine ⟨_, _, _, .own E.n 0 0 0, _, Env.le_setm fun l1 h1 => (by rw [E.fresh _ (Nat.le_refl _)] at h1; cases h1), Rep.own_new, hh, .inl ?_, h E.n⟩
    simp [execOp, ho, Instr.box, newVar, newRow]

/-! ### Reading owned objects -/

theorem R.own {a : Act} {w : World} {E : Env} (h : R C st a w E) {x : Operand} {id ver i c k s : Nat} {e : TypeId} {elems : List V} (hx : st.val C x = some (.own id ver i c))
    (hk : st.obj[k]? = some (id, .row ver s e elems)) : ∃ l b, E.m id = some l ∧ ObjRel E w l (.row ver s e elems) ∧ l.blk = some b ∧ l.s = s ∧ a.eval x = .pointer (some ⟨b, l.base + i * s + c, none⟩) := by
  obtain ⟨l, hl, hrel⟩ := h.holds.objs _ _ (List.mem_of_getElem? hk)
  have h1 := h.val hx
  generalize a.eval x = v at h1
  cases h1 with
  | own _ _ _ _ l' v hm hvv h1 h =>
    obtain rfl : l = l' := by simpa [hl] using hm
    obtain ⟨b, hb, hv⟩ := h hrel.1.symm
    exact ⟨l, b, hl, hrel, hb, hrel.2.1, by rw [hv, hrel.2.1]⟩

theorem pure_nilCheck_own {x : Operand} {id ver i c k s : Nat} {e : TypeId} {elems : List V} (ho : o.op = .nilCheck x) (hx : st.val C x = some (.own id ver i c))
    (hk : st.obj[k]? = some (id, .row ver s e elems)) : PureOp P C o st (.own id ver i c) :=
  .same fun a w E hR => by
    obtain ⟨l, b, hl, hrel, hb, hs, hv⟩ := hR.own hx hk
    exact ⟨_, hR.val hx, by simp [execOp, ho, hv]⟩

theorem pure_field_own {t : TypeId} {fs : Array Field} {sz by_ : Nat} {x : Operand} {id ver i c j k s : Nat} {e : TypeId} {elems : List V} {f : Field} {fd : TypeDesc} {fsz fby : Nat} (ht : TyF P t (.struct fs) sz by_)
    (hf : fs[j]? = some f) (hft : TyF P f.type fd fsz fby) (hfz : fsz ≠ 0)
    (ho : o.op = .fieldAddr t x j) (hx : st.val C x = some (.own id ver i c)) (hk : st.obj[k]? = some (id, .row ver s e elems)) : PureOp P C o st (.own id ver i (c + f.offset)) :=
  .same fun a w E hR => by
    obtain ⟨l, b, hl, hrel, hb, hs, hv⟩ := hR.own hx hk
    refine ⟨.pointer (some ⟨b, l.base + i * s + (c + f.offset), none⟩), .own _ _ _ _ l _ hl (by rw [hrel.1]; exact Nat.le_refl _) rfl fun _ => ⟨b, hb, by rw [hs]⟩, ?_⟩
    simp [execOp, ho, hv, Instr.fieldAt, Instr.sureAddr, run_underlying ht.u, hf, fieldPlace, hft.run_size, hfz, Addr.add_lit, Nat.add_assoc]

theorem pure_load_own {t : TypeId} {d : TypeDesc} {sz by_ : Nat} {x : Operand} {id ver i c k s : Nat} {e : TypeId} {elems : List V} {el r : V} (ht : TyF P t d sz by_) (hd : isAggD d = false)
    (ho : o.op = .load t x) (hx : st.val C x = some (.own id ver i c)) (hk : st.obj[k]? = some (id, .row ver s e elems)) (hi : elems[i]? = some el) (hc : el.cells[c]? = some r) : PureOp P C o st r :=
  .same fun a w E hR => by
    obtain ⟨l, b, hl, hrel, hb, hs, hv⟩ := hR.own hx hk
    obtain ⟨_, _, ⟨h3, _⟩ | ⟨b', cur, hb', hcur, hz, hf, h1, hde, hr⟩⟩ := hrel
    · rw [hb] at h3; cases h3
    · rw [hb] at hb'; cases hb'
      obtain ⟨u, hu, hru⟩ := hr i c el r hi hc
      rw [hs] at hu
      have hcell : w.cell? ⟨b, l.base + i * s + c, none⟩ = some u := by simp [World.cell?, hcur, hu]
      exact ⟨u, hru, by simp [execOp, ho, hv, Instr.loadAt, Instr.sureAddr, loadVar, ht.run_isAgg, hd, hcell]⟩

theorem pure_load_own_agg {t : TypeId} {d : TypeDesc} {n by_ : Nat} {x : Operand} {id ver i c k s : Nat} {e : TypeId} {elems : List V} {el : V} {lv : List V} (ht : TyF P t d n by_) (hd : isAggD d = true)
    (ho : o.op = .load t x) (hx : st.val C x = some (.own id ver i c)) (hk : st.obj[k]? = some (id, .row ver s e elems)) (hi : elems[i]? = some el) (hl : (el.cells.drop c).take n = lv) (hn : lv.length = n) : PureOp P C o st (.agg lv) :=
  .same fun a w E hR => by
    obtain ⟨l, b, hl', hrel, hb, hs, hv⟩ := hR.own hx hk
    obtain ⟨_, _, ⟨h3, _⟩ | ⟨b', cur, hb', hcur, hz, hf, h1, hde, hr⟩⟩ := hrel
    · rw [hb] at h3; cases h3
    · rw [hb] at hb'; cases hb'
      have hcell : ∀ j, j < n → ∃ x, el.cells[c + j]? = some x ∧ lv[j]? = some x := by
        intro j hj
        have hlt : j < lv.length := by omega
        refine ⟨lv[j], ?_, List.getElem?_eq_getElem hlt⟩
        have h3 : ((el.cells.drop c).take n)[j]? = some lv[j] := by rw [hl]; exact List.getElem?_eq_getElem hlt
        rw [List.getElem?_take, if_pos hj, List.getElem?_drop] at h3
        exact h3
      have hval : ∀ j, j < n → ∃ u, cur[l.base + i * s + c + j]? = some u ∧ ∀ x, lv[j]? = some x → Rep E x u := by
        intro j hj
        obtain ⟨x, hx1, hx2⟩ := hcell j hj
        obtain ⟨u, hu, hru⟩ := hr i (c + j) el x hi hx1
        rw [hs] at hu
        refine ⟨u, by rw [← hu]; congr 1; omega, fun y hy => by rw [hx2] at hy; cases hy; exact hru⟩
      have hload : ∀ j, j < n → w.cell? ((⟨b, l.base + i * s + c, none⟩ : Addr).add j) = some ((fun j => (cur[l.base + i * s + c + j]?).getD undef) j) := by
        intro j hj
        obtain ⟨u, hu, _⟩ := hval j hj
        rw [Addr.add_lit]
        simp [World.cell?, hcur, hu]
      have hrun := run_loadCells (P := P) (w := w) ⟨b, l.base + i * s + c, none⟩ n _ hload
      refine ⟨.agg ((List.range n).map fun j => (cur[l.base + i * s + c + j]?).getD undef).toArray, .agg lv _ (by simp [hn]) ?_ ?_, ?_⟩
      · intro v hv
        simp only [List.mem_map, List.mem_range] at hv
        obtain ⟨j, hj, rfl⟩ := hv
        obtain ⟨u, hu, _⟩ := hval j hj
        rw [hu]; exact h1 _ _ hu
      · intro j x v hx' hv
        have hj : j < n := by rw [← hn]; exact (List.getElem?_eq_some_iff.1 hx').1
        obtain ⟨u, hu, hru⟩ := hval j hj
        simp [hj, hu] at hv
        subst hv
        exact hru x hx'
      · simp [execOp, ho, hv, Instr.loadAt, Instr.sureAddr, loadVar, ht.run_isAgg, hd, ht.run_size, hrun]

theorem pure_index_osl {t e : TypeId} {sz by_ by' : Nat} {x ix : Operand} {id ver off len k s : Nat} {e' : TypeId} {elems : List V} {i : Nat} {kk : IntKind} {n : Int} (ht : TyF P t (.slice e) sz by_) (he : SizeF P e s by')
    (ho : o.op = .indexAddr t x ix) (hx : st.val C x = some (.osl id ver off len)) (hk : st.obj[k]? = some (id, .row ver s e' elems)) (hix : st.val C ix = some (.int kk n)) (hn : n = (i : Int)) (hi : i < len) :
    PureOp P C o st (.own id ver (off + i) 0) :=
  .same fun a w E hR => by
    obtain ⟨l, hl, hrel, h⟩ := hR.osl hx hk
    have h2 := hR.val hix
    generalize hu : a.eval ix = u at h2
    cases h2
    subst hn
    rcases h with ⟨_, rfl, hv⟩ | ⟨b, o', cap, hb, hv, hlc, hcm, hc⟩
    · omega
    · have hs : l.s = s := hrel.2.1
      rcases hc with hc | ⟨rfl, hc⟩
      · omega
      refine ⟨.pointer (some ⟨b, l.base + (off + i) * l.s + 0, none⟩), .own _ _ _ _ l _ hl (by rw [hrel.1]; exact Nat.le_refl _) rfl fun _ => ⟨b, hb, rfl⟩, ?_⟩
      simp [execOp, ho, hv, hu, Instr.indexAt, asIntOf, run_underlying ht.u, he.run_size, hi, Addr.add_lit, hs, Nat.add_mul, Nat.add_assoc]

/-! ### A store -/

/-- The value with some cells put in. -/
def V.splice (d : V) (c : Nat) (xs : List V) : V :=
  match d with
  | .agg l => .agg (l.take c ++ xs ++ l.drop (c + xs.length))
  | _ => match xs with
    | [x] => x
    | _ => .agg xs

theorem eff_store {t : TypeId} {d : TypeDesc} {sz by_ : Nat} {p x : Operand} {id ver i c k s : Nat} {e : TypeId} {elems : List V} {el dx : V} (ht : TyF P t d sz by_)
    (ho : o.op = .store t p x) (hp : st.val C p = some (.own id ver i c)) (hk : st.obj[k]? = some (id, .row ver s e elems)) (hi : elems[i]? = some el) (hx : st.val C x = some dx) (hf : dx.fits = true)
    (hsz : dx.cells.length = sz) (hc : c + sz ≤ el.cells.length) (hsp : (el.splice c dx.cells).cells = el.cells.take c ++ dx.cells ++ el.cells.drop (c + sz)) :
    EffOp P C o st (.undef) (st.obj.set k (id, .row ver s e (elems.set i (el.splice c dx.cells)))) :=
  .of fun a w E hR => by
    obtain ⟨lo, b, hl, hrel, hb, hs, hv⟩ := hR.own hp hk
    have hlies := (hR.val hx).lies hf
    have hrel' := hrel
    obtain ⟨hver, _, ⟨h3, _⟩ | ⟨b', cur, hb', hcur, hz, hfit, h1, hde, hr⟩⟩ := hrel
    · rw [hb] at h3; cases h3
    · rw [hb] at hb'; cases hb'
      have hel : el.cells.length = s := by rw [← hs]; exact hde i el hi
      have hilt : i < elems.length := (List.getElem?_eq_some_iff.1 hi).1
      have hroom : lo.base + i * s + s ≤ cur.size := by
        rw [hz]
        refine Nat.le_trans ?_ hfit
        rw [hs, Nat.add_assoc, ← Nat.succ_mul]
        exact Nat.add_le_add_left (Nat.mul_le_mul_right _ hilt) _
      have hvl : (a.eval x).cells.toList.length = sz := by rw [hlies.1, hsz]
      have hst := run_storeCells_at P b (lo.base + i * s + c) e (a.eval x).cells.toList 0 cur w hcur (by rw [hvl]; omega) hlies.2.1
      simp only [Nat.add_zero] at hst
      refine ⟨undef, _, E.setm id lo, .undef, _, Env.le_setm fun l1 h1 => (by rw [hl] at h1; cases h1; exact ⟨rfl, Nat.le_refl _, fun _ => rfl⟩), .undef _,
        hR.holds.upd hk hl rfl (Nat.le_refl _) (fun _ => rfl) (.inl rfl) (w' := w.setRow b (cur.toList.take (lo.base + i * s + c) ++ (a.eval x).cells.toList ++ cur.toList.drop (lo.base + i * s + c + sz)).toArray)
          ⟨rfl, rfl, rfl, by simp, fun kk hkk hne => setRow_other w b kk _ (fun e => hne (by rw [hb, e]))⟩ ?_, .inr ⟨rfl, ?_⟩, rfl, rfl⟩
      · have hle : E.le (E.setm id lo) := Env.le_setm fun l1 h1 => by rw [hl] at h1; cases h1; exact ⟨rfl, Nat.le_refl _, fun _ => rfl⟩
        refine ⟨hver, hs, .inr ⟨b, _, hb, setRow_heap w b cur _ e _ hcur, ?_, by simpa using hfit, ?_, ?_, ?_⟩⟩
        · simp only [List.size_toArray, List.length_append, List.length_take, List.length_drop, Array.length_toList]
          rw [show (a.eval x).cells.size = sz by simpa using hvl, hz]
          omega
        · intro j v hv'
          have hm : v ∈ (cur.toList.take (lo.base + i * s + c) ++ (a.eval x).cells.toList ++ cur.toList.drop (lo.base + i * s + c + sz)) := List.mem_of_getElem? (by simpa using hv')
          rcases List.mem_append.1 hm with hm | hm
          · rcases List.mem_append.1 hm with hm | hm
            · obtain ⟨j', hj'⟩ := List.mem_iff_getElem?.1 (List.mem_of_mem_take hm)
              exact h1 j' v (by simpa using hj')
            · exact hlies.2.1 v hm
          · obtain ⟨j', hj'⟩ := List.mem_iff_getElem?.1 (List.mem_of_mem_drop hm)
            exact h1 j' v (by simpa using hj')
        · intro j d' hd'
          rw [List.getElem?_set] at hd'
          split at hd'
          · simp only [Option.some.injEq] at hd'
            subst hd'
            rw [hsp]
            simp only [List.length_append, List.length_take, List.length_drop, hsz, hs]
            omega
          · exact hde j d' hd'
        · intro j c' d' y hd' hy
          have hget : ∀ q, (cur.toList.take (lo.base + i * s + c) ++ (a.eval x).cells.toList ++ cur.toList.drop (lo.base + i * s + c + sz)).toArray[q]? =
              if q < lo.base + i * s + c then cur[q]? else if q < lo.base + i * s + c + sz then (a.eval x).cells.toList[q - (lo.base + i * s + c)]? else cur[q]? := by
            intro q
            have hlt : (cur.toList.take (lo.base + i * s + c)).length = lo.base + i * s + c := by simp; omega
            simp only [List.getElem?_toArray, List.append_assoc]
            rw [List.getElem?_append, hlt]
            split
            · rw [List.getElem?_take, if_pos (by assumption)]; simp
            · rw [List.getElem?_append, hvl]
              split
              · rw [if_pos (by omega)]
              · rw [if_neg (by omega), List.getElem?_drop]
                simp only [Array.getElem?_toList]
                congr 1; omega
          rw [hget]
          rw [List.getElem?_set] at hd'
          split at hd'
          · rename_i hij
            subst hij
            · simp only [Option.some.injEq] at hd'
              subst hd'
              rw [hsp] at hy
              rw [hs]
              rw [List.append_assoc, List.getElem?_append, List.length_take, Nat.min_eq_left (by omega)] at hy
              split at hy
              · rename_i hlt
                rw [if_pos (by omega)]
                rw [List.getElem?_take, if_pos hlt] at hy
                obtain ⟨u, hu, hru⟩ := hr i c' el y hi hy
                exact ⟨u, by rw [← hu, hs], hru.mono hle⟩
              · rename_i hge
                rw [List.getElem?_append] at hy
                split at hy
                · rename_i hlt
                  rw [hsz] at hlt
                  rw [if_neg (by omega), if_pos (by omega)]
                  have : lo.base + i * s + c' - (lo.base + i * s + c) = c' - c := by omega
                  rw [this]
                  have hlt2 : c' - c < (a.eval x).cells.toList.length := by omega
                  exact ⟨_, List.getElem?_eq_getElem hlt2, (hlies.2.2 _ _ _ hy (List.getElem?_eq_getElem hlt2)).mono hle⟩
                · rename_i hge2
                  rw [hsz] at hge2
                  rw [if_neg (by omega), if_neg (by omega)]
                  rw [List.getElem?_drop, hsz] at hy
                  have : c + sz + (c' - c - sz) = c' := by omega
                  rw [this] at hy
                  obtain ⟨u, hu, hru⟩ := hr i c' el y hi hy
                  exact ⟨u, by rw [← hu, hs], hru.mono hle⟩
          · rename_i hij
            obtain ⟨u, hu, hru⟩ := hr j c' d' y hd' hy
            have hcl : c' < s := by rw [← hs, ← hde j d' hd']; exact (List.getElem?_eq_some_iff.1 hy).1
            rw [hs] at hu ⊢
            refine ⟨u, ?_, hru.mono hle⟩
            rcases Nat.lt_or_gt_of_ne hij with hlt | hgt
            · have : (i + 1) * s ≤ j * s := Nat.mul_le_mul_right _ hlt
              rw [Nat.succ_mul] at this
              rw [if_neg (by omega), if_neg (by omega)]; exact hu
            · have : (j + 1) * s ≤ i * s := Nat.mul_le_mul_right _ hgt
              rw [Nat.succ_mul] at this
              rw [if_pos (by omega)]; exact hu
      · simp only [execOp, ho, Instr.storeAt, Instr.sureAddr, hv, storeVar]
        have hsz2 : (a.eval x).cells.size = sz := by simpa using hvl
        simp [ht.run_size, hsz2, hst, hvl]

end
end Go.Vc
