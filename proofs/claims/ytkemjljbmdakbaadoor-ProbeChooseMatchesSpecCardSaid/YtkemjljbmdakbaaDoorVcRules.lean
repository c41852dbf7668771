/-
  More rules: objects kept ready, calls that only look at owned objects, struct literals, bytes as texts, arrays, contracts of the shelf.
-/
import Derived.Test.YtkemjljbmdakbaaDoorVcMap
namespace Go.Vc

section
variable {P : Program} {C : Ctx} {ops : Array Oper} {o : Oper} {l : List Oper} {st st' : St} {Q : Exit → St → Prop} {r : V} {ob : Objs}

/-! ### Objects kept ready -/

theorem R.reserve {a : Act} {w : World} {E : Env} (h : R C st a w E) (s : Nat) : R C ⟨st.loc, st.obj ++ [(E.n, .res s)]⟩ a w (E.setm E.n ⟨none, 0, 0, 0, s⟩) := by
  have hle : E.le (E.setm E.n ⟨none, 0, 0, 0, s⟩) := Env.le_setm fun l1 h1 => by rw [E.fresh _ (Nat.le_refl _)] at h1; cases h1
  have hh := h.holds.new (o' := .res s) (l' := ⟨none, 0, 0, 0, s⟩) (w' := w) (.inl rfl) ⟨rfl, rfl, rfl, Nat.le_refl _, fun _ _ _ => rfl⟩ ⟨rfl, rfl, rfl⟩
  exact ⟨hh, fun t x hx => by obtain ⟨v, h1, h2⟩ := h.loc t x hx; exact ⟨v, h1, h2.mono hle⟩, fun g x hx => (h.glob g x hx).mono hle, h.size, h.defers⟩

theorem Sat.reserve {c : Code} (s : Nat) (h : ∀ q, Sat P C c ⟨st.loc, st.obj ++ [(q, .res s)]⟩ Q) : Sat P C c st Q :=
  fun a w E hR => h E.n a w _ (hR.reserve s)

theorem OpsS.reserve (s : Nat) (h : ∀ q, OpsS P C ops l ⟨st.loc, st.obj ++ [(q, .res s)]⟩ Q) : OpsS P C ops l st Q :=
  fun hd a w E hR => h E.n hd a w _ (hR.reserve s)

theorem OpsS.letgo (obj' : Objs) (hs : obj'.Sublist st.obj) (h : OpsS P C ops l ⟨st.loc, obj'⟩ Q) : OpsS P C ops l st Q :=
  fun hd a w E hR => h hd a w E ⟨hR.holds.drop hs, hR.loc, hR.glob, hR.size, hR.defers⟩

theorem Holds.setObj {E : Env} {obj : Objs} {w : World} (h : Holds C E obj w) {k id : Nat} {o1 o2 : AObj} (hk : obj[k]? = some (id, o1)) (ho : ∀ l, ObjRel E w l o1 → ObjRel E w l o2) : Holds C E (obj.set k (id, o2)) w := by
  have hmem : ∀ i o, (i, o) ∈ obj.set k (id, o2) → ∃ o', (i, o') ∈ obj ∧ ∀ l, ObjRel E w l o' → ObjRel E w l o := by
    intro i o h1
    rcases mem_set h1 with h1 | ⟨j, hj, h1⟩
    · cases h1; exact ⟨o1, List.mem_of_getElem? hk, ho⟩
    · exact ⟨o, List.mem_of_getElem? h1, fun _ h => h⟩
  have hmap : (obj.set k (id, o2)).map (·.1) = obj.map (·.1) := by
    rw [List.map_set]
    apply List.ext_getElem?
    intro j
    rw [List.getElem?_set]
    split
    · rename_i e
      subst e
      simp only [List.length_map, List.getElem?_map, hk, Option.map_some]
      rw [if_pos (List.getElem?_eq_some_iff.1 hk).1]
    · rfl
  refine ⟨h.le, h.fr, h.keep, h.newI, h.newJ, fun i o h1 => ?_, h.imm, h.imj, fun i o h1 => ?_, by rw [hmap]; exact h.nod, fun i o l b h1 => ?_, fun i o i' o' l l' b h1 h2 => ?_⟩
  · obtain ⟨o', h2, _⟩ := hmem i o h1; exact h.own i o' h2
  · obtain ⟨o', h2, h3⟩ := hmem i o h1
    obtain ⟨l, h4, h5⟩ := h.objs i o' h2
    exact ⟨l, h4, h3 l h5⟩
  · obtain ⟨o', h2, _⟩ := hmem i o h1; exact h.mine i o' l b h2
  · obtain ⟨p, h3, _⟩ := hmem i o h1
    obtain ⟨p', h4, _⟩ := hmem i' o' h2
    exact h.inj i p i' p' l l' b h3 h4

/-- An append to nil. -/
theorem eff_append_nil {t xt e : TypeId} {sz by_ s by' : Nat} {z : Value} {x y : Operand} {id k m : Nat} {ds : List V} (ht : TyF P t (.slice e) sz by_) (he : SizeF P e s by') (hz : ZeroF P e z) (hzs : z.cells.size = s)
    (ho : o.op = .call { callee := .builtin .append, args := #[x, y], argTypes := #[t, xt] }) (hx : st.val C x = some .nilsl) (hk : st.obj[k]? = some (id, .res s)) (hsrc : Src P C ⟨st.loc, st.obj.set k (id, .row 0 s e [])⟩ y xt s m ds)
    (h63 : m ≤ maxLen) (hbytes : m * by' ≤ 140737488355328) : EffOp P C o st (.osl id 1 0 m) (st.obj.set k (id, .row 1 s e ds)) := by
  have hklt := (List.getElem?_eq_some_iff.1 hk).1
  have hkey : ∀ a w E, R C st a w E → R C ⟨st.loc, st.obj.set k (id, .row 0 s e [])⟩ a w E := fun a w E hR =>
    ⟨hR.holds.setObj hk fun l h => ⟨h.1, h.2.1, .inl ⟨h.2.2, rfl⟩⟩, hR.loc, hR.glob, hR.size, hR.defers⟩
  intro a w E hR K Qx hK
  have hR' := hkey a w E hR
  obtain ⟨l, hl, hrel⟩ := hR.holds.objs id (.res s) (List.mem_of_getElem? hk)
  have h1 := hR.val hx
  have hxv : a.eval x = .slice none 0 0 := by
    generalize a.eval x = v at h1
    cases h1; rfl
  have key := eff_append_core (C := C) (st := ⟨st.loc, st.obj.set k (id, .row 0 s e [])⟩) (off := 0) (len := 0) (k := k) (elems := []) (ver := 0) (id := id) ht he hz hzs ho (by simp [hklt]) (by simp) hsrc (by simpa using h63) (by simpa using hbytes)
    a w E hR' ⟨l, hl, ⟨hrel.1, hrel.2.1, .inl ⟨hrel.2.2, rfl⟩⟩, .inl ⟨hrel.2.2, rfl, hxv⟩⟩
  obtain ⟨v, w', E', r', obj'', hE, hr, hh, hrun, rfl, rfl⟩ := key
  have hh' : Holds C E' (st.obj.set k (id, .row 1 s e ds)) w' := by simpa using hh
  have hr' : Rep E' (.osl id 1 0 m) v := by simpa using hr
  unfold Oper.wp
  rcases hrun with hrun | ⟨rfl, hrun⟩ <;> rw [hrun]
  · exact hK _ _ E' hE hr' hh'
  · exact hK _ _ E' hE hr' hh'

/-! ### nil slices as rows of the call's own -/

inductive NilB (q : Nat) : V → V → Prop
  | mk : NilB q .nilsl (.osl q 0 0 0)
theorem NilB.one {q : Nat} : OneB (NilB q) := fun x y h => by cases h; exact ⟨rfl, rfl⟩
theorem NilB.cl {q : Nat} : Clo (NilB q) .nilsl (.osl q 0 0 0) := .base _ _ .mk

theorem R.adopt {a : Act} {w : World} {E : Env} (h : R C st a w E) (s : Nat) (e : TypeId) {loc' : List (Nat × V)} {obj' : Objs} (hl : CloL (NilB E.n) loc' st.loc) (ho : CloO (NilB E.n) st.obj obj') :
    R C ⟨loc', obj' ++ [(E.n, .row 0 s e [])]⟩ a w (E.setm E.n ⟨none, 0, 0, 0, s⟩) := by
  have hle : E.le (E.setm E.n ⟨none, 0, 0, 0, s⟩) := Env.le_setm fun l1 h1 => by rw [E.fresh _ (Nat.le_refl _)] at h1; cases h1
  have hh := h.holds.new (o' := .row 0 s e []) (l' := ⟨none, 0, 0, 0, s⟩) (w' := w) (.inl rfl) ⟨rfl, rfl, rfl, Nat.le_refl _, fun _ _ _ => rfl⟩ ⟨rfl, rfl, .inl ⟨rfl, rfl⟩⟩
  have hR' : R C ⟨st.loc, st.obj ++ [(E.n, .row 0 s e [])]⟩ a w (E.setm E.n ⟨none, 0, 0, 0, s⟩) :=
    ⟨hh, fun t x hx => by obtain ⟨v, h1, h2⟩ := h.loc t x hx; exact ⟨v, h1, h2.mono hle⟩, fun g x hx => (h.glob g x hx).mono hle, h.size, h.defers⟩
  have app : ∀ {l l' : Objs} (m : Objs), CloO (NilB E.n) l l' → CloO (NilB E.n) (l ++ m) (l' ++ m) := by
    intro l l' m h
    induction h with
    | nil => induction m with
      | nil => exact .nil
      | cons p m ih => exact .same p ih
    | same p _ ih => exact .same p ih
    | row i v z e xs ys hl h _ ih => exact .row i v z e xs ys hl h ih
    | map i v c xs ys hl h _ ih => exact .map i v c xs ys hl h ih
  refine hR'.clo (Env.le.refl _) hh (fun x y hb v hv => ?_) NilB.one hl (app _ ho)
  cases hb
  cases hv
  exact .osl _ _ _ _ _ _ (E.setm_same _ _) (Nat.le_refl _) rfl fun _ => .inl ⟨rfl, rfl, rfl⟩

theorem Sat.adoptC {c : Code} (s : Nat) (e : TypeId) (loc' : Nat → List (Nat × V)) (obj' : Nat → Objs) (hl : ∀ q, CloL (NilB q) (loc' q) st.loc) (ho : ∀ q, CloO (NilB q) st.obj (obj' q)) (h : ∀ q, Sat P C c ⟨loc' q, obj' q ++ [(q, .row 0 s e [])]⟩ Q) : Sat P C c st Q :=
  fun a w E hR => h E.n a w _ (hR.adopt s e (hl E.n) (ho E.n))

theorem OpsS.adoptC (s : Nat) (e : TypeId) (loc' : Nat → List (Nat × V)) (obj' : Nat → Objs) (hl : ∀ q, CloL (NilB q) (loc' q) st.loc) (ho : ∀ q, CloO (NilB q) st.obj (obj' q)) (h : ∀ q, OpsS P C ops l ⟨loc' q, obj' q ++ [(q, .row 0 s e [])]⟩ Q) : OpsS P C ops l st Q :=
  fun hd a w E hR => h E.n hd a w _ (hR.adopt s e (hl E.n) (ho E.n))

/-! ### Calls that only look -/

/-- A view of owned objects as lists. -/
inductive ViewB (obj : Objs) : V → V → Prop
  | row (id ver s : Nat) (e : TypeId) (elems : List V) (x y : V) (hm : (id, AObj.row ver s e elems) ∈ obj) (h : FrzB id ver s elems x y) : ViewB obj x y
  | map (id ver clock : Nat) (ents : List (V × V × Nat)) (hm : (id, AObj.map ver ents clock) ∈ obj) : ViewB obj (.omap id ver) (.imap ents clock)

theorem ViewB.one {obj : Objs} : OneB (ViewB obj) := fun x y h => by
  cases h with
  | row _ _ _ _ _ _ _ _ h => exact FrzB.one _ _ h
  | map => exact ⟨rfl, rfl⟩

theorem ViewB.osl {obj : Objs} (k off len : Nat) {id ver s : Nat} {e : TypeId} {elems : List V} (hk : obj[k]? = some (id, .row ver s e elems)) (h : off + len ≤ elems.length) : Clo (ViewB obj) (.osl id ver off len) (.sl s ((elems.drop off).take len)) :=
  .base _ _ (.row id ver s e elems _ _ (List.mem_of_getElem? hk) (.osl off len h))
theorem ViewB.all {obj : Objs} (k : Nat) {id ver s len : Nat} {e : TypeId} {elems : List V} (hk : obj[k]? = some (id, .row ver s e elems)) (h : len = elems.length) : Clo (ViewB obj) (.osl id ver 0 len) (.sl s elems) := by
  subst h
  have := FrzB.osl (id := id) (ver := ver) (s := s) (elems := elems) 0 elems.length (by omega)
  simp only [List.drop_zero, List.take_length] at this
  exact .base _ _ (.row id ver s e elems _ _ (List.mem_of_getElem? hk) this)
theorem ViewB.own {obj : Objs} (k i c : Nat) {id ver s : Nat} {e : TypeId} {elems : List V} (hk : obj[k]? = some (id, .row ver s e elems)) (h : i < elems.length) : Clo (ViewB obj) (.own id ver i c) (.ref s elems i c) :=
  .base _ _ (.row id ver s e elems _ _ (List.mem_of_getElem? hk) (.own i c h))
theorem ViewB.omap {obj : Objs} (k : Nat) {id ver clock : Nat} {ents : List (V × V × Nat)} (hk : obj[k]? = some (id, .map ver ents clock)) : Clo (ViewB obj) (.omap id ver) (.imap ents clock) :=
  .base _ _ (.map id ver clock ents (List.mem_of_getElem? hk))

theorem Holds.view {w : World} : ∀ (obj : Objs) (E : Env), Holds C E obj w → ∃ E', E.le E' ∧ E'.m = E.m ∧ (∀ b o v, E'.I b o = some v → w.cell? ⟨b, o, none⟩ = some v) ∧ (∀ b es clock, E'.J b = some (es, clock) → w.heap[b]? = some (.map es clock)) ∧
    ∀ x y, ViewB obj x y → ∀ v, Rep E' x v → Rep E' y v
  | [], E, h => ⟨E, Env.le.refl E, rfl, h.imm, h.imj, fun x y hb => by
      cases hb with
      | row _ _ _ _ _ _ _ hm _ => simp at hm
      | map _ _ _ _ hm => simp at hm⟩
  | (id, .row ver s e elems) :: rest, E, h => by
    obtain ⟨E1, hle, hm, hh, l, hl0, hver, hs, hcase⟩ := h.freeze (k := 0) rfl
    obtain ⟨E2, hle2, hm2, hI, hJ, hv⟩ := Holds.view rest E1 hh
    have hcase' : FrzK E1 l s elems := hcase
    refine ⟨E2, hle.trans hle2, hm2.trans hm, hI, hJ, fun x y hb => ?_⟩
    cases hb with
    | row id' ver' s' e' elems' _ _ hmem hf =>
      rcases List.mem_cons.1 hmem with hmem | hmem
      · cases hmem
        exact FrzB.key (by rw [hm2, hm]; exact hl0) hver hs (hcase'.mono hle2) _ _ hf
      · exact hv _ _ (.row id' ver' s' e' elems' _ _ hmem hf)
    | map id' ver' clock' ents' hmem =>
      rcases List.mem_cons.1 hmem with hmem | hmem
      · cases hmem
      · exact hv _ _ (.map id' ver' clock' ents' hmem)
  | (id, .map ver ents clock) :: rest, E, h => by
    obtain ⟨E1, l, b, es, hle, hm, hh, hl0, hver, hb, hJ1, hr, hs, hn⟩ := h.freezeMap (k := 0) rfl
    obtain ⟨E2, hle2, hm2, hI, hJ, hv⟩ := Holds.view rest E1 hh
    refine ⟨E2, hle.trans hle2, hm2.trans hm, hI, hJ, fun x y hb' => ?_⟩
    cases hb' with
    | row id' ver' s' e' elems' _ _ hmem hf =>
      rcases List.mem_cons.1 hmem with hmem | hmem
      · cases hmem
      · exact hv _ _ (.row id' ver' s' e' elems' _ _ hmem hf)
    | map id' ver' clock' ents' hmem =>
      rcases List.mem_cons.1 hmem with hmem | hmem
      · cases hmem
        intro v hv'
        cases hv' with
        | omap _ _ l' v hm' hv'' h1 h' =>
          rw [hm2, hm, hl0] at hm'; cases hm'
          obtain ⟨b', hb', rfl⟩ := h' hver.symm
          rw [hb] at hb'; cases hb'
          have hr2 := hr.mono hle2
          exact .imap ents clock b es (hle2.J _ _ hJ1) hr2.len hr2.key hr2.val hr2.born hs hn
      · exact hv _ _ (.map id' ver' clock' ents' hmem)
  | (id, .iter ents clock seen) :: rest, E, h => by
    obtain ⟨E2, hle2, hm2, hI, hJ, hv⟩ := Holds.view rest E (h.drop (List.sublist_cons_self _ _))
    refine ⟨E2, hle2, hm2, hI, hJ, fun x y hb' => ?_⟩
    cases hb' with
    | row id' ver' s' e' elems' _ _ hmem hf =>
      rcases List.mem_cons.1 hmem with hmem | hmem
      · cases hmem
      · exact hv _ _ (.row id' ver' s' e' elems' _ _ hmem hf)
    | map id' ver' clock' ents' hmem =>
      rcases List.mem_cons.1 hmem with hmem | hmem
      · cases hmem
      · exact hv _ _ (.map id' ver' clock' ents' hmem)
  | (id, .res s) :: rest, E, h => by
    obtain ⟨E2, hle2, hm2, hI, hJ, hv⟩ := Holds.view rest E (h.drop (List.sublist_cons_self _ _))
    refine ⟨E2, hle2, hm2, hI, hJ, fun x y hb' => ?_⟩
    cases hb' with
    | row id' ver' s' e' elems' _ _ hmem hf =>
      rcases List.mem_cons.1 hmem with hmem | hmem
      · cases hmem
      · exact hv _ _ (.row id' ver' s' e' elems' _ _ hmem hf)
    | map id' ver' clock' ents' hmem =>
      rcases List.mem_cons.1 hmem with hmem | hmem
      · cases hmem
      · exact hv _ _ (.map id' ver' clock' ents' hmem)

def CloArgs (B : V → V → Prop) : List V → List V → Prop
  | [], ys => ys = []
  | x :: xs, y :: ys => Clo B x y ∧ CloArgs B xs ys
  | _ :: _, [] => False

theorem CloArgs.get {B : V → V → Prop} : ∀ {xs ys : List V}, CloArgs B xs ys → xs.length = ys.length ∧ ∀ (i : Nat) (y : V), ys[i]? = some y → ∃ x, xs[i]? = some x ∧ Clo B x y
  | [], ys, h => by simp [CloArgs] at h; subst h; simp
  | x :: xs, [], h => h.elim
  | x :: xs, y :: ys, h => by
    obtain ⟨h1, h2⟩ := CloArgs.get h.2
    refine ⟨by simp [h1], fun i z hz => ?_⟩
    cases i with
    | zero => simp at hz; subst hz; exact ⟨x, rfl, h.1⟩
    | succ i => exact h2 i z (by simpa using hz)

/-- Values that say nothing of memory. -/
def V.flat : V → Bool
  | .bool _ | .int _ _ | .str _ | .nilp | .nilsl | .nilmap | .nilf | .nili => true
  | .tuple l => l.all fun | .bool _ | .int _ _ | .str _ | .nilp | .nilsl | .nilmap | .nilf | .nili => true | _ => false
  | _ => false

theorem Rep.flat {E E' : Env} {x : V} {v : Value} (h : Rep E x v) (hf : x.flat = true) : Rep E' x v := by
  cases h with
  | bool b => exact .bool b
  | int k n => exact .int k n
  | str l => exact .str l
  | nilp => exact .nilp
  | nilsl => exact .nilsl
  | nilmap => exact .nilmap
  | nilf => exact .nilf
  | nili => exact .nili
  | tuple xs vs hl h =>
    refine .tuple xs vs hl fun i y u hy hu => ?_
    have h1 := h i y u hy hu
    simp only [V.flat, List.all_eq_true] at hf
    have h2 := hf y (List.mem_of_getElem? hy)
    cases h1 <;> first | (simp at h2; done) | exact .bool _ | exact .int _ _ | exact .str _ | exact .nilp | exact .nilsl | exact .nilmap | exact .nilf | exact .nili
  | _ => simp [V.flat] at hf

theorem pure_call_view {f : FuncId} {cv : Operand} {args : Array Operand} {ats : Array TypeId} {first caps ds ds' : List V}
    (ho : o.op = .call { callee := .value cv, args := args, argTypes := ats }) (hb : FnB P f) (hf : st.val C cv = some (.func (.func f) first caps)) (ha : argsV C st args.toList ds)
    (hcl : CloArgs (ViewB st.obj) (first ++ ds ++ caps) ds') (hok : OkP P C.G f ds' r) (hr : r.flat = true) : PureOp P C o st r := by
  intro a w E hR K Qx hK
  have hfv := hR.val hf
  generalize hcv : a.eval cv = v at hfv
  cases hfv with
  | func _ _ _ us vs hl1 hl2 hr1 hr2 =>
    obtain ⟨halen, haget⟩ := ha.get
    obtain ⟨E', hle, hm, hI, hJ, hv⟩ := Holds.view st.obj E hR.holds
    obtain ⟨hclen, hcget⟩ := hcl.get
    have hen : Holds ⟨w, fun _ => False, E', [], C.G, 0⟩ E' [] w :=
      ⟨Env.le.refl _, ⟨rfl, rfl, rfl, Nat.le_refl _, fun _ _ _ => rfl⟩, fun _ _ h _ => h, fun _ _ _ h => .inl h, fun _ _ h => .inl h, fun _ _ h => by simp at h, hI, hJ, fun _ _ h => by simp at h, by simp, fun _ _ _ _ h => by simp at h, fun _ _ _ _ _ _ _ h => by simp at h⟩
    unfold Oper.wp
    have hexec : (execOp a.eval o).run P w = .ok (.enter f (us ++ args.toList.map a.eval ++ vs).toArray) w := by
      simp only [execOp, ho, Sem.run_bind, resolve, Deferred.ofValue, hcv, Sem.run_pure, Result.andThen_ok, invoke, hb.run]
      congr 2
      apply Array.ext'
      simp
    rw [hexec]
    show Calls P f _ w _
    have hrep : ∀ (i : Nat) (x : V) (v : Value), (first ++ ds ++ caps)[i]? = some x → (us ++ args.toList.map a.eval ++ vs)[i]? = some v → Rep E x v := by
      intro i x v hx hv
      rw [List.getElem?_append, List.getElem?_append] at hx hv
      simp only [List.length_append, List.length_map, ← hl1, halen] at hx hv
      split at hx
      · rename_i h1
        rw [if_pos h1] at hv
        split at hx
        · rename_i h2; rw [if_pos h2] at hv; exact hr1 i x v hx hv
        · rename_i h2
          rw [if_neg h2] at hv
          obtain ⟨p, hp, hpv⟩ := haget _ x hx
          rw [List.getElem?_map, hp] at hv
          simp at hv; subst hv
          exact hR.val hpv
      · rename_i h1
        rw [if_neg h1] at hv
        exact hr2 _ x v hx hv
    refine (hok E' (us ++ args.toList.map a.eval ++ vs) w _ (by rw [← hclen]; simp [hl1, hl2, ← halen]) ?_ hen (fun g x hx => (hR.glob g x hx).mono hle)).mono ?_
    · intro i y v hy hv'
      obtain ⟨x, hx, hc⟩ := hcget i y hy
      exact hc.rep hv v ((hrep i x v hx hv').mono hle)
    · rintro e w' ⟨v, r', obj', E2, rfl, ⟨rfl, rfl⟩, hrep', hh'⟩
      have hfr := hh'.fr
      refine hK v w' E (Env.le.refl E) (hrep'.flat hr) (hR.holds.grown ⟨hfr.os, hfr.tape, hfr.output, hfr.size, fun i hi _ => hfr.block i hi (fun h => h)⟩)

/-- A contract out of a kit's one, of a function that leaves the world as it is. -/
theorem OkP.of_calls {G : List (Nat × V)} {f : FuncId} {xs : List V} (h : ∀ (E : Env) (vs : List Value) (w : World), vs.length = xs.length → (∀ (i : Nat) (x : V) (v : Value), xs[i]? = some x → vs[i]? = some v → Rep E x v) →
    ∃ v, Rep E r v ∧ Calls P f vs.toArray w (fun e w' => e = .returned v ∧ w' = w)) : OkP P G f xs r := by
  intro E vs w pb h1 h2 h3 h4
  obtain ⟨v, hv, hc⟩ := h E vs w h1 h2
  refine hc.mono ?_
  rintro e w' ⟨rfl, rfl⟩
  exact ⟨v, r, [], E, rfl, ⟨rfl, rfl⟩, hv, h3⟩

theorem OkP.of_callsG {G : List (Nat × V)} {f : FuncId} {xs : List V} (h : ∀ (E : Env) (vs : List Value) (w : World), vs.length = xs.length → (∀ (i : Nat) (x : V) (v : Value), xs[i]? = some x → vs[i]? = some v → Rep E x v) →
    (∀ g x, (g, x) ∈ G → Rep E x (.pointer (some ⟨g, 0, none⟩))) → (∀ b o v, E.I b o = some v → w.cell? ⟨b, o, none⟩ = some v) → ∃ v, Rep E r v ∧ Calls P f vs.toArray w (fun e w' => e = .returned v ∧ w' = w)) : OkP P G f xs r := by
  intro E vs w pb h1 h2 h3 h4
  obtain ⟨v, hv, hc⟩ := h E vs w h1 h2 h4 h3.imm
  refine hc.mono ?_
  rintro e w' ⟨rfl, rfl⟩
  exact ⟨v, r, [], E, rfl, ⟨rfl, rfl⟩, hv, h3⟩

/-- A call of no objects may be made with objects at hand: they stay. -/
theorem OkP.ok {G : List (Nat × V)} {f : FuncId} {xs : List V} {r : V} (h : OkP P G f xs r) : Ok P G f xs [] (fun r' o' => r' = r ∧ o' = []) := h

/-! ### Casts -/

theorem Sat.cast {c : Code} (B : V → V → Prop) (hB : ∀ E x y, B x y → ∀ v, Rep E x v → Rep E y v) (hone : OneB B) (loc' : List (Nat × V)) (obj' : Objs) (hl : CloL B loc' st.loc) (ho : CloO B st.obj obj') (h : Sat P C c ⟨loc', obj'⟩ Q) : Sat P C c st Q :=
  fun a w E hR => h a w E (hR.clo (Env.le.refl E) hR.holds (hB E) hone hl ho)

theorem OpsS.cast (B : V → V → Prop) (hB : ∀ E x y, B x y → ∀ v, Rep E x v → Rep E y v) (hone : OneB B) (loc' : List (Nat × V)) (obj' : Objs) (hl : CloL B loc' st.loc) (ho : CloO B st.obj obj') (h : OpsS P C ops l ⟨loc', obj'⟩ Q) : OpsS P C ops l st Q :=
  fun hd a w E hR => h hd a w E (hR.clo (Env.le.refl E) hR.holds (hB E) hone hl ho)

/-- nil is an empty slice. -/
inductive EmpB (s : Nat) : V → V → Prop
  | mk : EmpB s .nilsl (.sl s [])
theorem EmpB.rep {s : Nat} : ∀ E x y, EmpB s x y → ∀ v, Rep E x v → Rep E y v := fun E x y h v hv => by cases h; cases hv; exact .slnil s
theorem EmpB.one {s : Nat} : OneB (EmpB s) := fun x y h => by cases h; exact ⟨rfl, rfl⟩

theorem CloO.refl {B : V → V → Prop} : ∀ (l : Objs), CloO B l l
  | [] => .nil
  | p :: l => .same p (CloO.refl l)

/-- The slot's nil seen as an empty slice. -/
theorem Sat.emp {c : Code} (t s : Nat) (ht : st.loc.lookup t = some .nilsl) (h : Sat P C c ⟨(t, .sl s []) :: st.loc, st.obj⟩ Q) : Sat P C c st Q := by
  intro a w E hR
  refine h a w E ⟨hR.holds, fun t' x hx => ?_, hR.glob, hR.size, hR.defers⟩
  rw [List.lookup_cons] at hx
  split at hx
  · rename_i he
    have : t' = t := by simpa using he
    subst this
    simp only [Option.some.injEq] at hx
    subst hx
    obtain ⟨v, h1, h2⟩ := hR.loc t' _ ht
    cases h2
    exact ⟨_, h1, .slnil s⟩
  · exact hR.loc t' x hx

theorem Sat.perm {c : Code} (obj' : Objs) (hp : obj'.Perm st.obj) (h : Sat P C c ⟨st.loc, obj'⟩ Q) : Sat P C c st Q :=
  fun a w E hR => h a w E ⟨hR.holds.perm hp, hR.loc, hR.glob, hR.size, hR.defers⟩
theorem OpsS.perm (obj' : Objs) (hp : obj'.Perm st.obj) (h : OpsS P C ops l ⟨st.loc, obj'⟩ Q) : OpsS P C ops l st Q :=
  fun hd a w E hR => h hd a w E ⟨hR.holds.perm hp, hR.loc, hR.glob, hR.size, hR.defers⟩

theorem OkP.ofInt {G : List (Nat × V)} {f : FuncId} {k : IntKind} {n : Int} {v : Value} (hv : ∀ E, Rep E r v) (h : ∀ w, Calls P f #[.int k n] w (fun e w' => e = .returned v ∧ w' = w)) : OkP P G f [.int k n] r := by
  intro E vs w pb h1 h2 h3 h4
  match vs, h1 with
  | [a], _ =>
    have := h2 0 _ _ rfl rfl
    cases this
    refine (h w).mono ?_
    rintro e w' ⟨rfl, rfl⟩
    exact ⟨v, r, [], E, rfl, ⟨rfl, rfl⟩, hv E, h3⟩
theorem OkP.ofBool {G : List (Nat × V)} {f : FuncId} {b : Bool} {v : Value} (hv : ∀ E, Rep E r v) (h : ∀ w, Calls P f #[.bool b] w (fun e w' => e = .returned v ∧ w' = w)) : OkP P G f [.bool b] r := by
  intro E vs w pb h1 h2 h3 h4
  match vs, h1 with
  | [a], _ =>
    have := h2 0 _ _ rfl rfl
    cases this
    refine (h w).mono ?_
    rintro e w' ⟨rfl, rfl⟩
    exact ⟨v, r, [], E, rfl, ⟨rfl, rfl⟩, hv E, h3⟩

theorem Ok.cast {G : List (Nat × V)} {f : FuncId} {xs ys : List V} {obj : Objs} {Qf : V → Objs → Prop} (B : V → V → Prop) (hB : ∀ E x y, B x y → ∀ v, Rep E x v → Rep E y v) (h : CloArgs B xs ys) (hok : Ok P G f ys obj Qf) : Ok P G f xs obj Qf := by
  intro E vs w pb h1 h2 h3 h4
  obtain ⟨h5, h6⟩ := h.get
  refine hok E vs w pb (by rw [h1, h5]) (fun i y v hy hv => ?_) h3 h4
  obtain ⟨x, hx, hc⟩ := h6 i y hy
  exact hc.rep (hB E) v (h2 i x v hx hv)

theorem OpsS.emp (t s : Nat) (ht : st.loc.lookup t = some .nilsl) (h : OpsS P C ops l ⟨(t, .sl s []) :: st.loc, st.obj⟩ Q) : OpsS P C ops l st Q := by
  intro hd a w E hR
  refine h hd a w E ⟨hR.holds, fun t' x hx => ?_, hR.glob, hR.size, hR.defers⟩
  rw [List.lookup_cons] at hx
  split at hx
  · rename_i he
    have : t' = t := by simpa using he
    subst this
    simp only [Option.some.injEq] at hx
    subst hx
    obtain ⟨v, h1, h2⟩ := hR.loc t' _ ht
    cases h2
    exact ⟨_, h1, .slnil s⟩
  · exact hR.loc t' x hx

theorem EntRel.nodup {E : Env} {ents : List (V × V × Nat)} {es : Array MapEntry} (h : EntRel E ents es) : ents.map (·.2.2) = es.toList.map (·.born) := by
  apply List.ext_getElem?
  intro i
  rw [List.getElem?_map, List.getElem?_map]
  cases h1 : ents[i]? with
  | none =>
    have : es.toList[i]? = none := by
      rw [List.getElem?_eq_none_iff] at h1 ⊢
      simpa [← h.len] using h1
    rw [this]; rfl
  | some x =>
    have hlt : i < es.size := by rw [← h.len]; exact (List.getElem?_eq_some_iff.1 h1).1
    have h2 : es[i]? = some es[i] := Array.getElem?_eq_getElem hlt
    have h3 := h.born i x _ h1 h2
    rw [Array.getElem?_toList, h2]
    simp [h3]

/-- The births of an owned map's entries differ. -/
theorem Sat.mapNodup {c : Code} {k id ver clock : Nat} {ents : List (V × V × Nat)} (hk : st.obj[k]? = some (id, .map ver ents clock)) (h : (ents.map (·.2.2)).Nodup → Sat P C c st Q) : Sat P C c st Q := by
  intro a w E hR
  obtain ⟨lo, hl, hver, b, es, hb, hc, hr, hs, hn⟩ := hR.holds.objs _ _ (List.mem_of_getElem? hk)
  exact h (by rw [hr.nodup]; exact hn) a w E hR

/-! ### Bytes as texts -/

theorem bytes_fold : ∀ (bs : List UInt8) (s : ByteArray), (bs.map fun b => (b.toNat : Int)).foldl (fun r n => r.push (UInt8.ofNat n.toNat)) s = s ++ ⟨bs.toArray⟩
  | [], s => by apply ByteArray.ext; simp
  | b :: bs, s => by
    have h := bytes_fold bs (s.push (UInt8.ofNat ((b.toNat : Int).toNat)))
    simp only [List.map_cons, List.foldl_cons]
    rw [h]
    apply ByteArray.ext
    simp

theorem conv_bytes_run {w : World} {src dst e : TypeId} {s1 b1 s2 b2 s3 b3 : Nat} {bs : List UInt8} {a : Addr} {c : Nat} (hs : TyF P src (.slice e) s1 b1) (he : TyF P e (.int .u8) s3 b3) (ht : TyF P dst .string s2 b2)
    (h : ∀ (j : Nat) (b : UInt8), bs[j]? = some b → w.cell? (a.add j) = some (.int .u8 (b.toNat : Int))) : (convert src dst (.slice (some a) bs.length c)).run P w = .ok (.string ⟨bs.toArray⟩) w := by
  rw [run_convert_bytes_string w src dst e _ _ _ hs.u he.u ht.u]
  have hl := run_loadCells (P := P) (w := w) a bs.length (fun j => Value.int .u8 (((bs[j]?).getD 0).toNat : Int)) (fun j hj => by
    rw [h j bs[j] (List.getElem?_eq_getElem hj), List.getElem?_eq_getElem hj]; rfl)
  have he : ((List.range bs.length).map fun j => Value.int .u8 (((bs[j]?).getD 0).toNat : Int)) = (bs.map fun b => (b.toNat : Int)).map (Value.int .u8) := by
    apply List.ext_getElem
    · simp
    · intro i h1 h2
      simp at h1
      simp [List.getElem?_eq_getElem h1]
  rw [he] at hl
  rw [run_bytesToString w a bs.length c _ hl, bytes_fold]
  congr 2

theorem p_conv_bytes_sl {src dst e : TypeId} {s1 b1 s2 b2 s3 b3 : Nat} {x : Operand} {bs : List UInt8} (hs : TyF P src (.slice e) s1 b1) (he : TyF P e (.int .u8) s3 b3) (ht : TyF P dst .string s2 b2)
    (ho : o.op = .convert src dst x) (hx : st.val C x = some (.sl 1 (bs.map byteV))) : PureOp P C o st (.str bs) :=
  .same fun a w E hR => by
    have h1 := hR.val hx
    generalize hv : a.eval x = v at h1
    generalize hrow : bs.map byteV = row at h1
    refine ⟨_, .str bs, ?_⟩
    have key : (convert src dst v).run P w = .ok (.string ⟨bs.toArray⟩) w := by
      cases h1 with
      | slnil =>
        have : bs = [] := by simpa using hrow
        subst this
        rw [run_convert_bytes_string w src dst e _ _ _ hs.u he.u ht.u]
        rfl
      | slemp _ ad =>
        have : bs = [] := by simpa using hrow
        subst this
        exact conv_bytes_run (bs := []) (a := ad) (c := 0) hs he ht (by simp)
      | sl _ _ b base cap val hcap hmax hsz hI hr =>
        have hlen : row.length = bs.length := by rw [← hrow]; simp
        rw [hlen]
        refine conv_bytes_run hs he ht fun j bb hj => ?_
        have hrj : row[j]? = some (byteV bb) := by rw [← hrow, List.getElem?_map, hj]; rfl
        have h2 := hR.holds.imm _ _ _ (hI j 0 (byteV bb) (byteV bb) hrj rfl)
        have h3 := hr j 0 (byteV bb) (byteV bb) hrj rfl
        rw [Addr.add_lit]
        simp only [Nat.mul_one, Nat.add_zero] at h2
        rw [h2]
        generalize val j 0 = u at h3
        cases h3; rfl
    simp only [execOp, ho, hv, Sem.run_bind, key, Result.andThen_ok]; rfl

theorem p_conv_bytes_osl {src dst e : TypeId} {s1 b1 s2 b2 s3 b3 : Nat} {x : Operand} {bs : List UInt8} {id ver off len k : Nat} {e' : TypeId} {elems : List V} (hs : TyF P src (.slice e) s1 b1) (he : TyF P e (.int .u8) s3 b3) (ht : TyF P dst .string s2 b2)
    (ho : o.op = .convert src dst x) (hx : st.val C x = some (.osl id ver off len)) (hk : st.obj[k]? = some (id, .row ver 1 e' elems)) (hlen : len = bs.length) (hb : (elems.drop off).take len = bs.map byteV) : PureOp P C o st (.str bs) :=
  .same fun a w E hR => by
    obtain ⟨l, hl, hrel, hcase⟩ := hR.osl hx hk
    subst hlen
    refine ⟨_, .str bs, ?_⟩
    have key : (convert src dst (a.eval x)).run P w = .ok (.string ⟨bs.toArray⟩) w := by
      rcases hcase with ⟨_, h0, hv⟩ | ⟨b, o', cap, hb', hv, hlc, hcm, hc⟩
      · rw [hv]
        have : bs = [] := List.eq_nil_of_length_eq_zero h0
        subst this
        rw [run_convert_bytes_string w src dst e _ _ _ hs.u he.u ht.u]
        rfl
      · rw [hv]
        refine conv_bytes_run hs he ht fun j bb hj => ?_
        have hjl : j < bs.length := (List.getElem?_eq_some_iff.1 hj).1
        have hrj : elems[off + j]? = some (byteV bb) := by
          have : ((elems.drop off).take bs.length)[j]? = some (byteV bb) := by rw [hb, List.getElem?_map, hj]; rfl
          rw [List.getElem?_take, if_pos hjl, List.getElem?_drop] at this
          exact this
        obtain ⟨_, hsz, ⟨h3, _⟩ | ⟨b2, cur, hb2, hcur, hz, hf, h1, hde, hr⟩⟩ := hrel
        · rw [hb'] at h3; cases h3
        · rw [hb'] at hb2; cases hb2
          obtain ⟨u, hu, hru⟩ := hr (off + j) 0 (byteV bb) (byteV bb) hrj rfl
          rcases hc with hc | ⟨hc, _⟩
          · omega
          · rw [Addr.add_lit]
            have : o' + j = l.base + (off + j) * l.s + 0 := by rw [hc, hsz]; omega
            simp only [World.cell?, hcur]
            rw [this]
            show cur[_]? = _
            rw [hu]
            cases hru; rfl
    simp only [execOp, ho, Sem.run_bind, key, Result.andThen_ok]; rfl

/-! ### Struct literals -/

/-- The cells with the parts laid in. -/
def bfill (place : Nat → Option (Nat × Nat)) : List V → List (Nat × V) → Option (List V)
  | cs, [] => some cs
  | cs, (i, d) :: rest =>
    match place i with
    | some (off, size) => if d.cells.length = size ∧ off + size ≤ cs.length then bfill place (cs.take off ++ d.cells ++ cs.drop (off + size)) rest else none
    | none => none

theorem fold_set (off : Nat) : ∀ (xs : List Value) (k : Nat) (cs : List Value), off + k + xs.length ≤ cs.length →
    ((xs.zipIdx k).foldl (fun (cs : Array Value) x => cs.setIfInBounds (off + x.2) x.1) cs.toArray) = (cs.take (off + k) ++ xs ++ cs.drop (off + k + xs.length)).toArray
  | [], k, cs, _ => by simp
  | x :: xs, k, cs, h => by
    simp only [List.length_cons] at h
    simp only [List.zipIdx_cons, List.foldl_cons, List.setIfInBounds_toArray]
    rw [fold_set off xs (k + 1) (cs.set (off + k) x) (by simp; omega)]
    congr 1
    have h1 : (cs.set (off + k) x).take (off + (k + 1)) = cs.take (off + k) ++ [x] := by
      have h3 : (cs.set (off + k) x).take (off + k) = cs.take (off + k) := by
        apply List.ext_getElem?
        intro j
        rw [List.getElem?_take, List.getElem?_take]
        split
        · rw [List.getElem?_set, if_neg (by omega)]
        · rfl
      rw [← Nat.add_assoc, List.take_succ_eq_append_getElem (by simp; omega), h3]
      simp
    have h2 : (cs.set (off + k) x).drop (off + (k + 1) + xs.length) = cs.drop (off + k + (xs.length + 1)) := by
      rw [List.drop_set_of_lt (by omega)]
      congr 1
      omega
    rw [h1, h2]
    simp

theorem fill_rep {E : Env} {place : Nat → Option (Nat × Nat)} : ∀ (ps : List (Nat × V)) (vs : List (Nat × Value)) (cs : List V) (us : List Value) (cs' : List V), ps.length = vs.length →
    (∀ (j : Nat) (p : Nat × V) (q : Nat × Value), ps[j]? = some p → vs[j]? = some q → p.1 = q.1 ∧ Lies E p.2 q.2.cells.toList) → Lies E (.agg cs) us → bfill place cs ps = some cs' →
    ∃ us', Instr.fill place us.toArray vs = some us'.toArray ∧ Lies E (.agg cs') us'
  | [], [], cs, us, cs', _, _, hl, h => by simp [bfill] at h; subst h; exact ⟨us, rfl, hl⟩
  | [], _ :: _, _, _, _, h, _, _, _ => by simp at h
  | _ :: _, [], _, _, _, h, _, _, _ => by simp at h
  | (i, d) :: ps, (i', v) :: vs, cs, us, cs', hlen, hp, hl, h => by
    obtain ⟨h1, h2⟩ := hp 0 _ _ rfl rfl
    dsimp only at h1 h2
    subst h1
    unfold bfill at h
    unfold Instr.fill
    cases hpl : place i with
    | none => rw [hpl] at h; cases h
    | some q =>
      obtain ⟨off, size⟩ := q
      rw [hpl] at h
      dsimp only at h ⊢
      split at h
      · rename_i hc
        obtain ⟨hc1, hc2⟩ := hc
        have hu : us.length = cs.length := hl.1
        have hv : v.cells.size = size := by rw [← Array.length_toList, h2.1, hc1]
        have hcond : ¬ (v.cells.size ≠ size || decide (off + v.cells.size > us.toArray.size)) = true := by
          simp [hv]; omega
        rw [if_neg hcond]
        have hfold : (v.cells.zipIdx.foldl (fun (cs : Array Value) x => cs.setIfInBounds (off + x.2) x.1) us.toArray) = (us.take off ++ v.cells.toList ++ us.drop (off + size)).toArray := by
          have := fold_set off v.cells.toList 0 us (by simp [hv]; omega)
          simp only [Nat.add_zero, Array.length_toList, hv] at this
          rw [← this, ← Array.foldl_toList, Array.toList_zipIdx]
        rw [hfold]
        refine fill_rep ps vs _ _ cs' (by simpa using hlen) (fun j p q h3 h4 => hp (j + 1) p q (by simpa using h3) (by simpa using h4)) ?_ h
        have hdl : d.cells.length = size := hc1
        have hvl : v.cells.toList.length = size := by simpa using hv
        refine ⟨?_, ?_, ?_⟩
        · show _ = (cs.take off ++ d.cells ++ cs.drop (off + size)).length
          simp only [List.length_append, List.length_take, List.length_drop, hu, hdl, hvl]
        · intro x hx
          rcases List.mem_append.1 hx with hx | hx
          · rcases List.mem_append.1 hx with hx | hx
            · exact hl.2.1 x (List.mem_of_mem_take hx)
            · exact h2.2.1 x hx
          · exact hl.2.1 x (List.mem_of_mem_drop hx)
        · intro c y x hy hx
          have hy : (cs.take off ++ d.cells ++ cs.drop (off + size))[c]? = some y := hy
          rw [List.append_assoc] at hx hy
          rw [List.getElem?_append] at hy hx
          simp only [List.length_take, hu, Nat.min_eq_left (show off ≤ cs.length by omega)] at hy hx
          split at hy
          · rename_i hlt
            rw [if_pos hlt] at hx
            rw [List.getElem?_take, if_pos hlt] at hy hx
            exact hl.2.2 c y x hy hx
          · rename_i hge
            rw [if_neg hge] at hx
            rw [List.getElem?_append] at hy hx
            simp only [hdl, hvl] at hy hx
            split at hy
            · rename_i hlt
              rw [if_pos hlt] at hx
              exact h2.2.2 _ y x hy hx
            · rename_i hge2
              rw [if_neg hge2] at hx
              rw [List.getElem?_drop] at hy hx
              exact hl.2.2 _ y x hy hx
      · cases h

/-- The parts of a literal: places and operands. -/
def partsV (C : Ctx) (st : St) : List (Nat × Operand) → Option (List (Nat × V))
  | [] => some []
  | (i, x) :: r => match st.val C x, partsV C st r with
    | some d, some ds => if d.fits = true then some ((i, d) :: ds) else none
    | _, _ => none

theorem partsV.get : ∀ {ps : List (Nat × Operand)} {ds : List (Nat × V)}, partsV C st ps = some ds → ps.length = ds.length ∧ ∀ (j : Nat) (p : Nat × V), ds[j]? = some p → ∃ x, ps[j]? = some (p.1, x) ∧ st.val C x = some p.2 ∧ p.2.fits = true
  | [], ds, h => by simp [partsV] at h; subst h; simp
  | (i, x) :: r, ds, h => by
    unfold partsV at h
    split at h
    · rename_i d ds' h1 h2
      split at h
      · rename_i hc
        simp only [Option.some.injEq] at h
        subst h
        obtain ⟨h3, h4⟩ := partsV.get h2
        refine ⟨by simp [h3], fun j p hp => ?_⟩
        cases j with
        | zero => simp at hp; subst hp; exact ⟨x, rfl, h1, hc⟩
        | succ j => exact h4 j p (by simpa using hp)
      · cases h
    · cases h

/-- Where a struct's fields lie. -/
structure PlacesF (P : Program) (t : TypeId) (pl : List (Nat × Nat)) : Prop where
  h : (match P.underlying t with
    | some (.struct fs) => fs.toList.mapM fun f => (P.info? f.type).map fun i => (f.offset, i.size)
    | _ => none) = some pl

theorem PlacesF.run {t : TypeId} {pl : List (Nat × Nat)} (h : PlacesF P t pl) : ∃ fs, P.underlying t = some (.struct fs) ∧ ∀ w, (fs.mapM fun f => (do Pure.pure (f.offset, ← sizeOf f.type) : Sem (Nat × Nat))).run P w = .ok pl.toArray w := by
  have h := h.h
  split at h
  · rename_i fs hu
    refine ⟨fs, hu, fun w => ?_⟩
    obtain ⟨l⟩ := fs
    simp only at h
    have key : ∀ (l : List Field) (pl : List (Nat × Nat)), (l.mapM fun f => (P.info? f.type).map fun i => (f.offset, i.size)) = some pl → (l.mapM fun f => (do Pure.pure (f.offset, ← sizeOf f.type) : Sem (Nat × Nat))).run P w = .ok pl w := by
      intro l
      induction l with
      | nil => intro pl h; simp at h; subst h; simp
      | cons f l ih =>
        intro pl h
        simp only [List.mapM_cons, Option.bind_eq_bind, Option.bind_eq_some_iff, Option.map_eq_some_iff, Option.pure_def, Option.some.injEq] at h
        obtain ⟨p, ⟨i, hi, rfl⟩, r, hr, rfl⟩ := h
        have h1 : (sizeOf f.type).run P w = .ok i.size w := by simp [sizeOf, typeInfo, hi]
        have h2 := ih r hr
        simp only [List.mapM_cons, Sem.run_bind, h1, Result.andThen_ok, Sem.run_pure, h2]
    have h3 := key l pl h
    have hm : ∀ (F : Field → Sem (Nat × Nat)), l.toArray.mapM F = List.toArray <$> l.mapM F := fun F => by simp
    rw [hm]
    simp only [Sem.run_map, h3, Result.andThen_ok, Sem.run_pure]
  · cases h

theorem p_build {t : TypeId} {z : Value} {parts : Array (Nat × Operand)} {pl : List (Nat × Nat)} {ds : List (Nat × V)} {cs' : List V} (hp : PlacesF P t pl) (hz : ZeroF P t z) (ho : o.op = .build t parts) (hps : partsV C st parts.toList = some ds)
    (hb : bfill (pl[·]?) (V.zero z).cells ds = some cs') : PureOp P C o st (.agg cs') :=
  .same fun a w E hR => by
    obtain ⟨fs, hu, hfs⟩ := hp.run
    obtain ⟨hlen, hget⟩ := partsV.get hps
    have hzl : Lies E (.agg (V.zero z).cells) z.cells.toList := Lies.zero hz E
    obtain ⟨us', h1, h2⟩ := fill_rep (E := E) (place := (pl[·]?)) ds (parts.toList.map fun p => (p.1, a.eval p.2)) (V.zero z).cells z.cells.toList cs' (by simp [← hlen]) (fun j p q h3 h4 => by
      obtain ⟨x, hx1, hx2, hx3⟩ := hget j p h3
      rw [List.getElem?_map, hx1] at h4
      simp at h4
      subst h4
      exact ⟨rfl, (hR.val hx2).lies hx3⟩) hzl hb
    refine ⟨.agg us'.toArray, .agg cs' us' h2.1.symm h2.2.1 h2.2.2, ?_⟩
    have hpl : (fun x : Nat => pl.toArray[x]?) = (fun x : Nat => pl[x]?) := by funext x; simp
    simp only [execOp, ho, Instr.build, Sem.run_bind, hz.run, Result.andThen_ok, run_underlying hu, hfs, hpl]
    simp only [Array.toArray_toList] at h1
    have hmap : (parts.map fun p => (p.1, a.eval p.2)).toList = parts.toList.map fun p => (p.1, a.eval p.2) := by simp
    first
      | rw [hmap, h1]; simp
      | simp [h1]

/-! ### Arrays -/

theorem p_index_arr_ref {t e : TypeId} {sz by_ by' es len : Nat} {x ix : Operand} {row : List V} {s i c j : Nat} {k : IntKind} {n : Int} (ht : TyF P t (.array len e) sz by_) (he : SizeF P e es by')
    (ho : o.op = .indexAddr t x ix) (hx : st.val C x = some (.ref s row i c)) (hix : st.val C ix = some (.int k n)) (hn : n = (j : Int)) (hj : j < len) : PureOp P C o st (.ref s row i (c + j * es)) :=
  .same fun a w E hR => by
    have h1 := hR.val hx
    have h2 := hR.val hix
    generalize hv : a.eval x = v at h1
    generalize hu : a.eval ix = u at h2
    cases h2
    subst hn
    cases h1 with
    | ref _ _ _ _ b base val hs hI hr =>
      have := Rep.ref (E := E) s row i (c + j * es) b base val hs hI hr
      refine ⟨_, this, ?_⟩
      simp [execOp, ho, hv, hu, Instr.indexAt, Instr.sureAddr, asIntOf, run_underlying ht.u, he.run_size, hj, Addr.add_lit, Nat.add_assoc]

theorem p_index_arr_own {t e : TypeId} {sz by_ by' es len : Nat} {x ix : Operand} {id ver i c q s j : Nat} {e' : TypeId} {elems : List V} {k : IntKind} {n : Int} (ht : TyF P t (.array len e) sz by_) (he : SizeF P e es by')
    (ho : o.op = .indexAddr t x ix) (hx : st.val C x = some (.own id ver i c)) (hk : st.obj[q]? = some (id, .row ver s e' elems)) (hix : st.val C ix = some (.int k n)) (hn : n = (j : Int)) (hj : j < len) : PureOp P C o st (.own id ver i (c + j * es)) :=
  .same fun a w E hR => by
    obtain ⟨l, b, hl, hrel, hb, hs, hv⟩ := hR.own hx hk
    have h2 := hR.val hix
    generalize hu : a.eval ix = u at h2
    cases h2
    subst hn
    refine ⟨.pointer (some ⟨b, l.base + i * s + (c + j * es), none⟩), .own _ _ _ _ l _ hl (by rw [hrel.1]; exact Nat.le_refl _) rfl fun _ => ⟨b, hb, by rw [hs]⟩, ?_⟩
    simp [execOp, ho, hv, hu, Instr.indexAt, Instr.sureAddr, asIntOf, run_underlying ht.u, he.run_size, hj, Addr.add_lit, Nat.add_assoc]

/-- An array that is an object of its own: a row of its elements. -/
theorem p_index_arr_row {t e : TypeId} {sz by_ by' len : Nat} {x ix : Operand} {id ver i q s j : Nat} {e' : TypeId} {elems : List V} {k : IntKind} {n : Int} (ht : TyF P t (.array len e) sz by_) (he : SizeF P e s by')
    (ho : o.op = .indexAddr t x ix) (hx : st.val C x = some (.own id ver i 0)) (hk : st.obj[q]? = some (id, .row ver s e' elems)) (hix : st.val C ix = some (.int k n)) (hn : n = (j : Int)) (hj : j < len) : PureOp P C o st (.own id ver (i + j) 0) :=
  .same fun a w E hR => by
    obtain ⟨l, b, hl, hrel, hb, hs, hv⟩ := hR.own hx hk
    have h2 := hR.val hix
    generalize hu : a.eval ix = u at h2
    cases h2
    subst hn
    refine ⟨.pointer (some ⟨b, l.base + (i + j) * s + 0, none⟩), .own _ _ _ _ l _ hl (by rw [hrel.1]; exact Nat.le_refl _) rfl fun _ => ⟨b, hb, by rw [hs]⟩, ?_⟩
    simp [execOp, ho, hv, hu, Instr.indexAt, Instr.sureAddr, asIntOf, run_underlying ht.u, he.run_size, hj, Addr.add_lit, Nat.add_assoc, Nat.add_mul]

theorem p_slice_arr {t e : TypeId} {sz by_ by' s len : Nat} {x : Operand} {plo phi : Option Operand} {id ver i k : Nat} {e' : TypeId} {elems : List V} {lo hi : Nat} (ht : TyF P t (.array len e) sz by_) (he : SizeF P e s by')
    (ho : o.op = .slice t x plo phi none) (hx : st.val C x = some (.own id ver i 0)) (hk : st.obj[k]? = some (id, .row ver s e' elems)) (hl : bndV C st plo 0 lo) (hh : bndV C st phi len hi) (h1 : lo ≤ hi) (h2 : hi ≤ len) (hfit : i + len ≤ elems.length) (hmax : len ≤ maxLen) : PureOp P C o st (.osl id ver (i + lo) (hi - lo)) :=
  .same fun a w E hR => by
    obtain ⟨l, b, hlo, hrel, hb, hs, hv⟩ := hR.own hx hk
    have hbd := sliceBounds_run (P := P) hR (b := false) (len := len) (cap := len) hl hh h1 h2
    have hsize : l.base + elems.length * l.s ≤ l.size := by
      obtain ⟨_, _, ⟨h3, _⟩ | ⟨b', cur, _, _, _, hf, _⟩⟩ := hrel
      · rw [hb] at h3; cases h3
      · exact hf
    refine ⟨.slice (some (if len = lo then (⟨b, l.base + i * s, none⟩ : Addr) else ⟨b, l.base + i * s + lo * s, none⟩)) (hi - lo) (len - lo), ?_, ?_⟩
    · refine .osl _ _ _ _ l _ hlo (by rw [hrel.1]; exact Nat.le_refl _) rfl fun _ => .inr ⟨b, if len = lo then l.base + i * s else l.base + i * s + lo * s, len - lo, hb, ?_, by omega, by omega, ?_⟩
      · split <;> rfl
      · by_cases hcl : len = lo
        · left; omega
        · right
          rw [if_neg hcl, hs]
          refine ⟨by rw [Nat.add_mul]; omega, ?_⟩
          rw [hs] at hsize
          have : (i + lo + (len - lo)) * s ≤ elems.length * s := Nat.mul_le_mul_right _ (by omega)
          omega
    · simp only [execOp, ho, Instr.sliceAt, hv, Option.map_none, Sem.run_bind, run_underlying ht.u, Result.andThen_ok, Instr.sureAddr, Sem.run_pure, hbd, he.run_size, Addr.add_lit, Nat.add_zero]

/-- A new array of elements of one cell. -/
theorem OpsS.allocArr {t e : TypeId} {n : Nat} {u : Value} (hg : st.guard ops o = some true) (ho : o.op = .alloc t) (hz : (P.info? t).bind (·.zero) = some (.agg (Array.replicate n u))) (hu : u.oneCell' = true)
    (h : ∀ q, OpsS P C ops l (({ st with obj := st.obj ++ [(q, .row 0 1 t (List.replicate n (V.leaf u)))] } : St).put o.dst (.own q 0 0 0)) Q) : OpsS P C ops (o :: l) st Q :=
  .eff hg fun a w E hR => by
    have hle : E.le (E.setm E.n ⟨some w.heap.size, 0, 0, n, 1⟩) := Env.le_setm fun l1 h1 => by rw [E.fresh _ (Nat.le_refl _)] at h1; cases h1
    have hone : (V.leaf u).cells = [V.leaf u] := by unfold V.leaf; split <;> rfl
    have hh := hR.holds.new (o' := .row 0 1 t (List.replicate n (V.leaf u))) (l' := ⟨some w.heap.size, 0, 0, n, 1⟩) (w' := w.alloc (.cells (Array.replicate n u) t)) (.inr ⟨w.heap.size, rfl, Nat.le_refl _⟩) (World.grownBy_alloc w _ none)
      ⟨rfl, rfl, .inr ⟨w.heap.size, Array.replicate n u, rfl, heap_alloc_new w _, by simp, by simp, fun j v hv => by
        rw [Array.getElem?_replicate] at hv; split at hv <;> simp at hv; subst hv; exact hu, fun j d hd => by
        rw [List.getElem?_replicate] at hd; split at hd <;> simp at hd; subst hd; rw [hone]; rfl, fun j c d x hd hx => by
        rw [List.getElem?_replicate] at hd
        split at hd
        · rename_i hj
          simp at hd; subst hd
          rw [hone] at hx
          cases c with
          | zero => simp at hx; subst hx; exact ⟨u, by simp [hj], Rep.leaf _ u⟩
          | succ c => simp at hx
        · simp at hd⟩⟩
    refine ⟨.pointer (some ⟨w.heap.size, 0, none⟩), _, _, .own E.n 0 0 0, _, hle, .own _ _ _ _ _ _ (E.setm_same _ _) (Nat.le_refl _) rfl fun _ => ⟨w.heap.size, rfl, by simp⟩, hh, .inl ?_, h E.n⟩
    have hzr : (zeroValue t).run P w = .ok (.agg (Array.replicate n u)) w := by
      cases hi : P.info? t with
      | none => simp [hi] at hz
      | some i => simp [hi] at hz; simp [zeroValue, typeInfo, hi, hz]
    simp [execOp, ho, Instr.alloc, hzr, newVar, newRow, Value.cells]

end
end Go.Vc
