/-
  Semantic triples over abstract states: rules for code, and the frame for single operations.
-/
import Derived.Test.YtkemjljbmdakbaaDoorVcVal
namespace Go.Vc

/-- What a step's end must be. -/
def Post (C : Ctx) (Q : Exit → St → Prop) : Exit → Act → World → Prop := fun e a w => ∃ st E, Q e st ∧ R C st a w E

def Sat (P : Program) (C : Ctx) (c : Code) (st : St) (Q : Exit → St → Prop) : Prop :=
  ∀ a w E, R C st a w E → c.wp P (Post C Q) a w

def dstOk (n : Nat) (l : List Oper) : Bool := l.all fun o => match o.dst with | some d => d < n | none => true

def OpsS (P : Program) (C : Ctx) (ops : Array Oper) (l : List Oper) (st : St) (Q : Exit → St → Prop) : Prop :=
  dstOk C.n l = true → ∀ a w E, R C st a w E → wpList P ops (Post C Q) l a w

/-! ### Operands -/

def V.leaf : Value → V
  | .bool b => .bool b
  | .int k n => .int k n
  | .string s => .str s.data.toList
  | .pointer none => .nilp
  | .slice none 0 0 => .nilsl
  | .map none => .nilmap
  | .nilFunc => .nilf
  | .nilIface => .nili
  | _ => .undef

def V.const : Value → V
  | .agg cs => if cs.toList.all (fun v => v.oneCell') then .agg (cs.toList.map V.leaf) else .undef
  | .tuple vs => if vs.toList.isEmpty then .tuple [] else .undef
  | v => V.leaf v

theorem Rep.leaf (E : Env) (v : Value) : Rep E (V.leaf v) v := by
  unfold V.leaf
  split <;> first | exact .bool _ | exact .int _ _ | exact .nilp | exact .nilsl | exact .nilmap | exact .nilf | exact .nili | exact .undef _ | skip
  rename_i s
  have := Rep.str (E := E) s.data.toList
  simpa using this

theorem Rep.const (E : Env) (v : Value) : Rep E (V.const v) v := by
  unfold V.const
  split
  · rename_i cs
    split
    · rename_i h
      have := Rep.agg (E := E) (cs.toList.map V.leaf) cs.toList (by simp) (fun v hv => List.all_eq_true.1 h v hv) (by
        intro i x v hx hv
        simp only [List.getElem?_map, hv, Option.map_some, Option.some.injEq] at hx
        subst hx
        exact Rep.leaf E v)
      simpa using this
    · exact .undef _
  · rename_i vs
    split
    · rename_i h
      have hv : vs = #[] := by simpa using h
      subst hv
      exact Rep.tuple [] [] rfl (by simp)
    · exact .undef _
  · exact Rep.leaf E _

def St.val (C : Ctx) (st : St) : Operand → Option V
  | .tmp t => st.loc.lookup t
  | .const v => some (V.const v)
  | .global g => C.G.lookup g
  | .func f => some (.func (.func f) [] [])

theorem mem_of_lookup {α : Type} {l : List (Nat × α)} {t : Nat} {x : α} (h : l.lookup t = some x) : (t, x) ∈ l := by
  induction l with
  | nil => simp at h
  | cons p l ih =>
    obtain ⟨k, y⟩ := p
    rw [List.lookup_cons] at h
    split at h
    · rename_i he
      have : t = k := by simpa using he
      subst this
      simp at h; subst h; simp
    · exact List.mem_cons_of_mem _ (ih h)

theorem R.val {C : Ctx} {st : St} {a : Act} {w : World} {E : Env} (h : R C st a w E) {o : Operand} {x : V} (ho : st.val C o = some x) : Rep E x (a.eval o) := by
  cases o with
  | tmp t =>
    obtain ⟨v, hv, hr⟩ := h.loc t x ho
    simpa [Act.eval, hv] using hr
  | const v => simp only [St.val, Option.some.injEq] at ho; subst ho; exact Rep.const E v
  | global g => exact h.glob g x (mem_of_lookup ho)
  | func f => simp only [St.val, Option.some.injEq] at ho; subst ho; exact Rep.func _ [] [] [] [] rfl rfl (by simp) (by simp)

/-! ### Guards -/

def St.guard (st : St) (ops : Array Oper) (o : Oper) : Option Bool :=
  match o.guard with
  | none => some true
  | some (j, want) =>
    match (ops[j]?).bind (·.dst) with
    | some d => match st.loc.lookup d with
      | some (.bool b) => some (b == want)
      | some (.tuple []) => some false
      | _ => none
    | none => none

theorem R.wanted {C : Ctx} {st : St} {a : Act} {w : World} {E : Env} (h : R C st a w E) {ops : Array Oper} {o : Oper} {b : Bool} (hg : st.guard ops o = some b) :
    Region.wanted o (yielded ops a.tmps) = b := by
  unfold St.guard at hg
  unfold Region.wanted
  split at hg
  · rename_i h0; simp [h0] at hg ⊢; exact hg
  · rename_i j want h0
    rw [h0]
    dsimp only
    split at hg
    · rename_i d hd
      split at hg
      · rename_i b' hb'
        obtain ⟨v, hv, hr⟩ := h.loc d _ hb'
        cases hr
        simp only [Option.some.injEq] at hg
        subst hg
        simp [yielded, hd, hv]
      · rename_i hb'
        obtain ⟨v, hv, hr⟩ := h.loc d _ hb'
        cases hr with
        | tuple _ vs hl _ =>
          have : vs = [] := List.eq_nil_of_length_eq_zero (by simpa using hl.symm)
          subst this
          simp only [Option.some.injEq] at hg
          subst hg
          simp [yielded, hd, hv]
      · simp at hg
    · simp at hg

/-! ### Putting a result -/

theorem lookup_put (st : St) (t : Nat) (x : V) (t' : Nat) : (st.put (some t) x).loc.lookup t' = if t' = t then some x else st.loc.lookup t' := by
  simp only [St.put, List.lookup_cons]
  by_cases h : t' = t
  · subst h; simp
  · have : (t' == t) = false := by simpa using h
    simp [this, h]

theorem R.put {C : Ctx} {st : St} {a : Act} {w w' : World} {E E' : Env} (h : R C st a w E) (hE : E.le E') {o : Objs} (hh : Holds C E' o w') {d : Option Nat} {x : V} {v : Value} (hx : Rep E' x v)
    (hd : ∀ t, d = some t → t < C.n) : R C (({ st with obj := o } : St).put d x) (a.put d v) w' E' := by
  cases d with
  | none => exact ⟨hh, fun t y hy => by obtain ⟨v, h1, h2⟩ := h.loc t y hy; exact ⟨v, h1, h2.mono hE⟩, fun g y hy => (h.glob g y hy).mono hE, h.size, h.defers⟩
  | some t =>
    refine ⟨hh, fun t' y hy => ?_, fun g y hy => (h.glob g y hy).mono hE, by simpa [Act.put] using h.size, by simpa [Act.put] using h.defers⟩
    rw [lookup_put] at hy
    simp only [Act.put]
    split at hy
    · rename_i he
      subst he
      simp only [Option.some.injEq] at hy; subst hy
      refine ⟨v, ?_, hx⟩
      rw [Array.getElem?_setIfInBounds]
      simp [h.size, hd t' rfl]
    · rename_i he
      obtain ⟨u, h1, h2⟩ := h.loc t' y hy
      refine ⟨u, ?_, h2.mono hE⟩
      rw [Array.getElem?_setIfInBounds]
      rw [if_neg (fun e => he e.symm)]
      exact h1

theorem St.put_obj (st : St) (d : Option Nat) (x : V) : ({ st with obj := st.obj } : St).put d x = st.put d x := rfl

/-! ### Operations -/

/-- An operation that leaves the owned objects alone and yields a known abstract value. -/
def PureOp (P : Program) (C : Ctx) (o : Oper) (st : St) (r : V) : Prop :=
  ∀ a w E, R C st a w E → ∀ (K : Act → World → Prop) (Qx : Exit → Act → World → Prop),
    (∀ v w' E', E.le E' → Rep E' r v → Holds C E' st.obj w' → K (a.put o.dst v) w') → o.wp P a w K Qx

theorem dstOk_cons {n : Nat} {o : Oper} {l : List Oper} (h : dstOk n (o :: l) = true) : (∀ t, o.dst = some t → t < n) ∧ dstOk n l = true := by
  simp only [dstOk, List.all_cons, Bool.and_eq_true] at h ⊢
  refine ⟨fun t ht => ?_, h.2⟩
  have := h.1
  rw [ht] at this
  simpa using this

theorem OpsS.nil {P : Program} {C : Ctx} {ops : Array Oper} {st : St} {Q : Exit → St → Prop} (h : Q .normal st) : OpsS P C ops [] st Q :=
  fun _ _ _ E hR => ⟨st, E, h, hR⟩

theorem OpsS.pure {P : Program} {C : Ctx} {ops : Array Oper} {o : Oper} {l : List Oper} {st : St} {Q : Exit → St → Prop} {r : V}
    (hg : st.guard ops o = some true) (ho : PureOp P C o st r) (h : OpsS P C ops l (st.put o.dst r) Q) : OpsS P C ops (o :: l) st Q := by
  intro hd a w E hR
  obtain ⟨hd1, hd2⟩ := dstOk_cons hd
  unfold wpList
  rw [if_pos (hR.wanted hg)]
  refine .inl (ho a w E hR _ _ fun v w' E' hE hr hh => ?_)
  exact h hd2 _ _ E' (hR.put hE hh hr hd1)

theorem OpsS.skip {P : Program} {C : Ctx} {ops : Array Oper} {o : Oper} {l : List Oper} {st : St} {Q : Exit → St → Prop}
    (hg : st.guard ops o = some false) (h : OpsS P C ops l (st.put o.dst (.tuple [])) Q) : OpsS P C ops (o :: l) st Q := by
  intro hd a w E hR
  obtain ⟨hd1, hd2⟩ := dstOk_cons hd
  unfold wpList
  rw [if_neg (by rw [hR.wanted hg]; simp)]
  exact h hd2 _ _ E (hR.put (Env.le.refl E) hR.holds (Rep.tuple [] [] rfl (by simp)) hd1)

/-! ### Code -/

section
variable {P : Program} {C : Ctx} {st : St} {Q : Exit → St → Prop}

theorem Sat.region {id : Nat} {l : List Oper} (hd : dstOk C.n l = true) (h : OpsS P C l.toArray l st Q) : Sat P C (.region id l.toArray false) st Q :=
  fun a w E hR => wp_region_lit (h hd a w E hR)

@[reducible] def thenS (next : St → Prop) (Q : Exit → St → Prop) : Exit → St → Prop
  | .normal, st => next st
  | e, st => Q e st

theorem Sat.seq {x y : Code} (h : Sat P C x st (thenS (fun st' => Sat P C y st' Q) Q)) : Sat P C (.seq x y) st Q := by
  intro a w E hR
  refine wp_seq (Code.wp_mono ?_ (h a w E hR))
  rintro e a' w' ⟨st', E', hq, hR'⟩
  cases e with
  | normal => exact hq a' w' E' hR'
  | _ => exact ⟨st', E', hq, hR'⟩

theorem Sat.mono {c : Code} {Q' : Exit → St → Prop} (h : Sat P C c st Q) (hq : ∀ e st, Q e st → Q' e st) : Sat P C c st Q' := by
  intro a w E hR
  refine Code.wp_mono ?_ (h a w E hR)
  rintro e a' w' ⟨st', E', h1, h2⟩
  exact ⟨st', E', hq _ _ h1, h2⟩

theorem Sat.skip (h : Q .normal st) : Sat P C .skip st Q := fun _ _ E hR => wp_skip ⟨st, E, h, hR⟩
theorem Sat.ret (h : Q .ret st) : Sat P C .ret st Q := fun _ _ E hR => wp_ret ⟨st, E, h, hR⟩
theorem Sat.exit {id : Nat} (h : Q (.exit id) st) : Sat P C (.exit id) st Q := fun _ _ E hR => wp_exit ⟨st, E, h, hR⟩
theorem Sat.label {n : Nat} (h : Q .normal st) : Sat P C (.label n) st Q := fun _ _ E hR => wp_label ⟨st, E, h, hR⟩

theorem Sat.cond {c : Operand} {x y : Code} {b : Bool} (hc : st.val C c = some (.bool b)) (ht : b = true → Sat P C x st Q) (hf : b = false → Sat P C y st Q) : Sat P C (.cond c x y) st Q := by
  intro a w E hR
  have hv := hR.val hc
  have he : a.eval c = .bool b := by
    generalize a.eval c = v at hv
    cases hv; rfl
  cases b with
  | true => exact wp_cond_true he (ht rfl a w E hR)
  | false => exact wp_cond_false he (hf rfl a w E hR)

@[reducible] def blockS (id : Nat) (Q : Exit → St → Prop) : Exit → St → Prop
  | .exit id', st => if id' = id then Q .normal st else Q (.exit id') st
  | e, st => Q e st

theorem Sat.block {id : Nat} {c : Code} (h : Sat P C c st (blockS id Q)) : Sat P C (.block id c) st Q := by
  intro a w E hR
  refine wp_block (Code.wp_mono ?_ (h a w E hR))
  rintro e a' w' ⟨st', E', hq, hR'⟩
  cases e with
  | exit id' =>
    simp only [blockS] at hq
    simp only [Exit.inBlock]
    split
    · rename_i he; rw [if_pos he] at hq; exact ⟨st', E', hq, hR'⟩
    · rename_i he; rw [if_neg he] at hq; exact ⟨st', E', hq, hR'⟩
  | _ => exact ⟨st', E', hq, hR'⟩

/-! ### Weakening -/

def Sub : List (Nat × V) → List (Nat × V) → Prop
  | [], _ => True
  | (t, x) :: r, l => l.lookup t = some x ∧ Sub r l

theorem Sub.lookup {l' l : List (Nat × V)} (h : Sub l' l) {t : Nat} {x : V} (hx : l'.lookup t = some x) : l.lookup t = some x := by
  induction l' with
  | nil => simp at hx
  | cons p r ih =>
    obtain ⟨k, y⟩ := p
    rw [List.lookup_cons] at hx
    split at hx
    · rename_i he
      have : t = k := by simpa using he
      subst this
      simp only [Option.some.injEq] at hx
      subst hx
      exact h.1
    · exact ih h.2 hx

theorem R.sub {a : Act} {w : World} {E : Env} (h : R C st a w E) {l : List (Nat × V)} (hs : Sub l st.loc) : R C ⟨l, st.obj⟩ a w E :=
  ⟨h.holds, fun t x hx => h.loc t x (hs.lookup hx), h.glob, h.size, h.defers⟩

theorem Sat.weak {c : Code} (l : List (Nat × V)) (hs : Sub l st.loc) (h : Sat P C c ⟨l, st.obj⟩ Q) : Sat P C c st Q :=
  fun a w E hR => h a w E (hR.sub hs)

/-- A loop whose head's state is S x, for some x with p x; a measure falls. -/
theorem Sat.loop {α : Type} {c : Code} (S : α → St) (p : α → Prop) (μ : α → Nat) (x0 : α) (h0 : p x0) (hs : Sub (S x0).loc st.loc) (ho : (S x0).obj = st.obj)
    (round : ∀ x, p x → Sat P C c (S x) (thenS (fun st' => ∃ x', p x' ∧ μ x' < μ x ∧ Sub (S x').loc st'.loc ∧ (S x').obj = st'.obj) Q)) : Sat P C (.loop c) st Q := by
  intro a w E hR
  have hstart : ∃ x E, p x ∧ μ x ≤ μ x0 ∧ R C (S x) a w E := ⟨x0, E, h0, Nat.le_refl _, by have := hR.sub hs; rw [← ho] at this; exact this⟩
  clear hR hs ho
  obtain ⟨x, E', hp, _, hR⟩ := hstart

  have key : ∀ n x a w E, μ x = n → p x → R C (S x) a w E → ∀ (b : Frame) (k : List Item) (cs : List Frame),
      ∃ e a' w', Post C Q e a' w' ∧ Arrives P (lone (b.at a (.code c :: .inLoop c :: k)) cs w) b k cs e a' w' := by
    intro n
    induction n using Nat.strongRecOn with
    | _ n ih =>
      intro x a w E hn hp hR b k cs
      obtain ⟨e, a₁, w₁, hq, harr⟩ := round x hp a w E hR b (.inLoop c :: k) cs
      obtain ⟨st', E', hq, hR'⟩ := hq
      cases e with
      | normal =>
        obtain ⟨x', hp', hlt, hs', ho'⟩ := hq
        have hR2 : R C (S x') a₁ w₁ E' := by have := hR'.sub hs'; rw [← ho'] at this; exact this
        obtain ⟨e₂, a₂, w₂, hq₂, harr₂⟩ := ih (μ x') (hn ▸ hlt) x' a₁ w₁ E' rfl hp' hR2 b k cs
        exact ⟨e₂, a₂, w₂, hq₂, .of_steps (Steps.trans harr (.one step_inLoop)) harr₂⟩
      | exit id => exact ⟨_, a₁, w₁, ⟨st', E', hq, hR'⟩, .pass (x := .inLoop c) rfl (fun _ _ => .inl (by simp)) harr⟩
      | goto l => exact ⟨_, a₁, w₁, ⟨st', E', hq, hR'⟩, .pass (x := .inLoop c) rfl (fun _ _ => .inl (by simp)) harr⟩
      | ret => exact ⟨_, a₁, w₁, ⟨st', E', hq, hR'⟩, .pass (x := .inLoop c) rfl (fun _ _ => .inl (by simp)) harr⟩
      | panic ch => exact ⟨_, a₁, w₁, ⟨st', E', hq, hR'⟩, .pass (x := .inLoop c) rfl (fun _ _ => .inl (by simp)) harr⟩
      | outgrown => exact ⟨_, a₁, w₁, ⟨st', E', hq, hR'⟩, .pass (x := .inLoop c) rfl (fun _ _ => .inl (by simp)) harr⟩
  intro b k cs
  obtain ⟨e, a', w', hq, harr⟩ := key _ x a w E' rfl hp hR b k cs
  exact ⟨e, a', w', hq, .of_steps (.one step_loop) harr⟩

end
end Go.Vc
