/-
  Regions that draw their order: one evaluation in the order of the text serves every order, where each operation leaves the owned objects alone.
-/
import Derived.Test.YtkemjljbmdakbaaDoorVcFn
namespace Go.Vc

section
variable {P : Program} {C : Ctx}

def tmpsOf (o : Oper) : List Nat := o.op.operands.toList.filterMap fun | .tmp t => some t | _ => none

/-- The slots that an operation reads, as they stand. -/
def restr (o : Oper) (loc : List (Nat × V)) : List (Nat × V) := (tmpsOf o).filterMap fun t => (loc.lookup t).map fun x => (t, x)

theorem restr_lookup {o : Oper} {loc : List (Nat × V)} {t : Nat} {x : V} (h : (restr o loc).lookup t = some x) : t ∈ tmpsOf o ∧ loc.lookup t = some x := by
  unfold restr at h
  generalize tmpsOf o = ts at h ⊢
  induction ts with
  | nil => simp at h
  | cons u r ih =>
    rw [List.filterMap_cons] at h
    cases hu : loc.lookup u with
    | none =>
      simp only [hu, Option.map_none] at h
      obtain ⟨h1, h2⟩ := ih h
      exact ⟨List.mem_cons_of_mem _ h1, h2⟩
    | some y =>
      simp only [hu, Option.map_some, List.lookup_cons] at h
      split at h
      · rename_i he
        have : t = u := by simpa using he
        subst this
        simp only [Option.some.injEq] at h
        subst h
        exact ⟨by simp, hu⟩
      · obtain ⟨h1, h2⟩ := ih h
        exact ⟨List.mem_cons_of_mem _ h1, h2⟩

abbrev DS := V × Option Objs

/-- What is known of an operation: left out, or run, with its result; flag 0: whatever the objects; 1: it reads them; 2: it changes them. -/
def StepD (P : Program) (C : Ctx) (ops : Array Oper) (o : Oper) (fl : Nat) (st : St) (d : DS) : Prop :=
  (st.guard ops o = some false ∧ d = (.tuple [], none)) ∨ (st.guard ops o = some true ∧
    ((d.2 = none ∧ ∀ obj, PureOp P C o ⟨restr o st.loc, obj⟩ d.1) ∨ (fl = 1 ∧ d.2 = none ∧ PureOp P C o ⟨restr o st.loc, st.obj⟩ d.1) ∨
      (fl = 2 ∧ ∃ ob, d.2 = some ob ∧ EffOp P C o ⟨restr o st.loc, st.obj⟩ d.1 ob)))

def St.putD (st : St) (t : Option Nat) (d : DS) : St := ({ st with obj := d.2.getD st.obj } : St).put t d.1

theorem St.putD_loc (st : St) (t : Option Nat) (d : DS) : (st.putD t d).loc = (st.put t d.1).loc := by cases t <;> rfl
theorem St.putD_obj (st : St) (t : Option Nat) (d : DS) : (st.putD t d).obj = d.2.getD st.obj := by cases t <;> rfl

/-- The operations' results, in the order of the text. -/
def RunD (P : Program) (C : Ctx) (ops : Array Oper) : List Oper → List Nat → St → List DS → Prop
  | [], _, _, rs => rs = []
  | o :: l, f :: fs, st, r :: rs => StepD P C ops o f st r ∧ RunD P C ops l fs (st.putD o.dst r) rs
  | _, _, _, _ => False

def putAll : List Oper → List DS → (Nat → Bool) → Nat → St → St
  | o :: l, r :: rs, m, i, st => putAll l rs m (i + 1) (if m i then st.putD o.dst r else st)
  | _, _, _, _, st => st

/-- Two masks that agree on the operations that change the objects. -/
theorem putAll_obj_congr : ∀ (l : List Oper) (rs : List DS) (m m' : Nat → Bool) (i : Nat) (st st' : St), (∀ j d, rs[j]? = some d → d.2 ≠ none → j < l.length → m (i + j) = m' (i + j)) → st.obj = st'.obj →
    (putAll l rs m i st).obj = (putAll l rs m' i st').obj
  | [], _, _, _, _, _, _, _, h => h
  | _ :: _, [], _, _, _, _, _, _, h => h
  | o :: l, r :: rs, m, m', i, st, st', h, hst => by
    rw [putAll, putAll]
    refine putAll_obj_congr l rs m m' (i + 1) _ _ (fun j d hd hne hj => by have := h (j + 1) d (by simpa using hd) hne (by simp; omega); rw [show i + 1 + j = i + (j + 1) by omega]; exact this) ?_
    by_cases hr : r.2 = none
    · have keep : ∀ (b : Bool) (s : St), (if b = true then s.putD o.dst r else s).obj = s.obj := by
        intro b s
        split
        · rw [St.putD_obj, hr]; rfl
        · rfl
      rw [keep, keep]; exact hst
    · have h0 := h 0 r rfl hr (by simp)
      simp only [Nat.add_zero] at h0
      rw [h0]
      split
      · rw [St.putD_obj, St.putD_obj]
        cases hr2 : r.2 with
        | none => exact absurd hr2 hr
        | some ob => rfl
      · exact hst

/-- The last operation of the mask that changes the objects. -/
theorem putAll_obj_last : ∀ (l : List Oper) (rs : List DS) (m : Nat → Bool) (k : Nat) (st : St) (i : Nat) (d : DS) (ob : Objs), i < l.length → rs[i]? = some d → d.2 = some ob → m (k + i) = true →
    (∀ j d', i < j → rs[j]? = some d' → d'.2 ≠ none → j < l.length → m (k + j) = false) → (putAll l rs m k st).obj = ob
  | [], _, _, _, _, _, _, _, h, _, _, _, _ => by simp at h
  | _ :: _, [], _, _, _, _, _, _, _, h, _, _, _ => by simp at h
  | p :: l, q :: rs, m, k, st, 0, d, ob, _, h2, hd, hm, hl => by
    simp at h2; subst h2
    rw [putAll, putAll_obj_congr l rs m (fun _ => false) (k + 1) _ _ (fun j d' hd' hne hj => by
      have := hl (j + 1) d' (by omega) (by simpa using hd') hne (by simp; omega)
      rw [show k + (j + 1) = k + 1 + j by omega] at this; exact this) rfl]
    have none : ∀ (l : List Oper) (rs : List DS) (i : Nat) (s : St), putAll l rs (fun _ => false) i s = s := by
      intro l
      induction l with
      | nil => intro rs i s; rfl
      | cons o l ih =>
        intro rs i s
        cases rs with
        | nil => rfl
        | cons r rs => rw [putAll, if_neg (by simp)]; exact ih rs (i + 1) s
    rw [none, if_pos (by simpa using hm), St.putD_obj, hd]; rfl
  | p :: l, q :: rs, m, k, st, i + 1, d, ob, h1, h2, hd, hm, hl => by
    rw [putAll]
    exact putAll_obj_last l rs m (k + 1) _ i d ob (by simpa using h1) (by simpa using h2) hd (by rw [← hm]; congr 1; omega) (fun j d' hj hd' hne hjl => by
      have := hl (j + 1) d' (by omega) (by simpa using hd') hne (by simp; omega)
      rw [← this]; congr 1; omega)

theorem lookup_putD (st : St) (t : Nat) (d : DS) (t' : Nat) : (st.putD (some t) d).loc.lookup t' = if t' = t then some d.1 else st.loc.lookup t' := by
  rw [St.putD_loc, lookup_put]

/-- A slot that no operation of the mask writes. -/
theorem putAll_keep : ∀ (l : List Oper) (rs : List DS) (m : Nat → Bool) (i : Nat) (st : St) (t : Nat), (∀ j o, l[j]? = some o → m (i + j) = true → o.dst ≠ some t) → (putAll l rs m i st).loc.lookup t = st.loc.lookup t
  | [], _, _, _, _, _, _ => rfl
  | _ :: _, [], _, _, _, _, _ => rfl
  | o :: l, r :: rs, m, i, st, t, h => by
    rw [putAll, putAll_keep l rs m (i + 1) _ t (fun j p hp hm => h (j + 1) p (by simpa using hp) (by rw [← hm]; congr 1; omega))]
    split
    · rename_i hm
      have h0 := h 0 o rfl (by simpa using hm)
      cases hd : o.dst with
      | none => rfl
      | some u =>
        rw [lookup_putD, if_neg (fun e => h0 (by rw [hd, e]))]
    · rfl

/-- Two masks that agree on the operations that write a slot. -/
theorem putAll_congr : ∀ (l : List Oper) (rs : List DS) (m m' : Nat → Bool) (i : Nat) (st st' : St) (t : Nat), (∀ j o, l[j]? = some o → o.dst = some t → m (i + j) = m' (i + j)) → st.loc.lookup t = st'.loc.lookup t →
    (putAll l rs m i st).loc.lookup t = (putAll l rs m' i st').loc.lookup t
  | [], _, _, _, _, _, _, _, _, h => h
  | _ :: _, [], _, _, _, _, _, _, _, h => h
  | o :: l, r :: rs, m, m', i, st, st', t, h, hst => by
    rw [putAll, putAll]
    refine putAll_congr l rs m m' (i + 1) _ _ t (fun j p hp hd => by have := h (j + 1) p (by simpa using hp) hd; rw [show i + 1 + j = i + (j + 1) by omega]; exact this) ?_
    by_cases hd : o.dst = some t
    · have h0 := h 0 o rfl hd
      simp only [Nat.add_zero] at h0
      rw [h0]
      split
      · rw [hd, lookup_putD, lookup_putD]; simp
      · exact hst
    · have keep : ∀ (b : Bool) (s : St), (if b = true then s.putD o.dst r else s).loc.lookup t = s.loc.lookup t := by
        intro b s
        split
        · cases hd' : o.dst with
          | none => rfl
          | some u => rw [lookup_putD, if_neg (fun e => hd (by rw [hd', e]))]
        · rfl
      rw [keep, keep]; exact hst

/-- All that an operation's edges lead to. -/
inductive Reach (ops : Array Oper) : Nat → Nat → Prop
  | edge (i : Nat) (o : Oper) (e : Edge) (ho : ops[i]? = some o) (he : e ∈ o.after.toList) (hb : Region.binds .any e = true) : Reach ops i e.on
  | trans {i j k : Nat} : Reach ops i j → Reach ops j k → Reach ops i k

def Closed (ops : Array Oper) (m : Nat → Bool) : Prop := ∀ i o, m i = true → ops[i]? = some o → ∀ e ∈ o.after.toList, Region.binds .any e = true → m e.on = true

theorem Closed.reach {ops : Array Oper} {m : Nat → Bool} (h : Closed ops m) {i j : Nat} (hr : Reach ops i j) (hi : m i = true) : m j = true := by
  induction hr with
  | edge i o e ho he hb => exact h i o hi ho e he hb
  | trans _ _ ih1 ih2 => exact ih2 (ih1 hi)

def looks (ops : Array Oper) (o : Oper) : List Nat := tmpsOf o ++ (match o.guard with | some (g, _) => ((ops[g]?).bind (·.dst)).toList | none => [])

/-- Operations that meet at a slot lie in one line. -/
def Lined (ops : Array Oper) : Prop := ∀ i j oi oj t, ops[i]? = some oi → ops[j]? = some oj → j < i → ((oj.dst = some t ∧ (t ∈ looks ops oi ∨ oi.dst = some t)) ∨ (oi.dst = some t ∧ t ∈ looks ops oj)) → Reach ops i j
def Down (ops : Array Oper) : Prop := ∀ i o, ops[i]? = some o → ∀ e ∈ o.after.toList, Region.binds .any e = true → e.on < i


theorem RunD.get {ops : Array Oper} : ∀ {l : List Oper} {fs : List Nat} {st : St} {rs : List DS} (k : Nat), RunD P C ops l fs st rs → ∀ (i : Nat) (o : Oper), l[i]? = some o →
    ∃ r f, rs[i]? = some r ∧ fs[i]? = some f ∧ StepD P C ops o f (putAll l rs (fun j => decide (j < k + i)) k st) r
  | [], _, _, _, _, _, i, o, h => by simp at h
  | p :: l, f :: fs, st, r :: rs, k, hr, 0, o, h => by
    simp at h; subst h
    refine ⟨r, f, rfl, rfl, ?_⟩
    have : putAll (p :: l) (r :: rs) (fun j => decide (j < k + 0)) k st = st := by
      have none : ∀ (l : List Oper) (rs : List DS) (i : Nat) (s : St), k ≤ i → putAll l rs (fun j => decide (j < k + 0)) i s = s := by
        intro l
        induction l with
        | nil => intro rs i s _; rfl
        | cons o l ih =>
          intro rs i s hi
          cases rs with
          | nil => rfl
          | cons r rs =>
            rw [putAll, if_neg (by simp; omega)]
            exact ih rs (i + 1) s (by omega)
      exact none _ _ k st (Nat.le_refl _)
    rw [this]
    exact hr.1
  | p :: l, f :: fs, st, r :: rs, k, hr, i + 1, o, h => by
    obtain ⟨r', f', h1, h2, h3⟩ := hr.2.get (k + 1) i o (by simpa using h)
    refine ⟨r', f', by simpa using h1, by simpa using h2, ?_⟩
    rw [putAll, if_pos (by simp)]
    rw [show k + (i + 1) = k + 1 + i by omega]
    exact h3
  | _ :: _, [], _, [], _, hr, _, _, _ => hr.elim
  | _ :: _, [], _, _ :: _, _, hr, _, _, _ => hr.elim
  | _ :: _, _ :: _, _, [], _, hr, _, _, _ => hr.elim

theorem RunD.eff {ops : Array Oper} : ∀ {l : List Oper} {fs : List Nat} {st : St} {rs : List DS}, RunD P C ops l fs st rs → ∀ (i : Nat) (d : DS), rs[i]? = some d → d.2 ≠ none → fs[i]? = some 2
  | [], _, _, rs, hr, i, d, h, _ => by simp [RunD] at hr; subst hr; simp at h
  | p :: l, f :: fs, st, r :: rs, hr, 0, d, h, hne => by
    simp at h; subst h
    rcases hr.1 with ⟨_, h2⟩ | ⟨_, h2 | h2 | h2⟩
    · rw [h2] at hne; exact absurd rfl hne
    · exact absurd h2.1 hne
    · exact absurd h2.2.1 hne
    · simp [h2.1]
  | p :: l, f :: fs, st, r :: rs, hr, i + 1, d, h, hne => by
    simpa using hr.2.eff i d (by simpa using h) hne
  | _ :: _, [], _, [], hr, _, _, _, _ => hr.elim
  | _ :: _, [], _, _ :: _, hr, _, _, _, _ => hr.elim
  | _ :: _, _ :: _, _, [], hr, _, _, _, _ => hr.elim

/-- The last operation of the mask that writes a slot. -/
theorem putAll_last : ∀ (l : List Oper) (rs : List DS) (m : Nat → Bool) (k : Nat) (st : St) (i t : Nat) (o : Oper) (r : DS), l[i]? = some o → rs[i]? = some r → o.dst = some t → m (k + i) = true →
    (∀ j p, i < j → l[j]? = some p → p.dst = some t → m (k + j) = false) → (putAll l rs m k st).loc.lookup t = some r.1
  | [], _, _, _, _, _, _, _, _, h, _, _, _, _ => by simp at h
  | _ :: _, [], _, _, _, _, _, _, _, _, h, _, _, _ => by simp at h
  | p :: l, q :: rs, m, k, st, 0, t, o, r, h1, h2, hd, hm, hl => by
    simp at h1 h2; subst h1; subst h2
    rw [putAll, putAll_keep l rs m (k + 1) _ t (fun j u hu hmu hdu => by
      have := hl (j + 1) u (by omega) (by simpa using hu) hdu
      rw [show k + (j + 1) = k + 1 + j by omega, hmu] at this; cases this)]
    rw [if_pos (by simpa using hm), hd, lookup_putD]; simp
  | p :: l, q :: rs, m, k, st, i + 1, t, o, r, h1, h2, hd, hm, hl => by
    rw [putAll]
    exact putAll_last l rs m (k + 1) _ i t o r (by simpa using h1) (by simpa using h2) hd (by rw [← hm]; congr 1; omega) (fun j u hj hu hdu => by
      have := hl (j + 1) u (by omega) (by simpa using hu) hdu
      rw [← this]; congr 1; omega)

theorem dstOk_get {n : Nat} {l : List Oper} (h : dstOk n l = true) (i : Nat) (o : Oper) (hi : l[i]? = some o) (t : Nat) (ht : o.dst = some t) : t < n := by
  have h1 := List.all_eq_true.1 h o (List.mem_of_getElem? hi)
  rw [ht] at h1
  simpa using h1

def maskOf (listed : Array Bool) : Nat → Bool := fun j => listed.getD j false

theorem maskOf_set (listed : Array Bool) (i : Nat) (hi : i < listed.size) (j : Nat) : maskOf (listed.setIfInBounds i true) j = if j = i then true else maskOf listed j := by
  simp only [maskOf, Array.getD_eq_getD_getElem?, Array.getElem?_setIfInBounds]
  by_cases hji : i = j
  · subst hji; simp [hi]
  · rw [if_neg hji, if_neg (fun e => hji e.symm)]

/-- What changes the objects lies in one line with all that reads or changes them. -/
def LinedE (ops : Array Oper) (fs : List Nat) : Prop := ∀ i j fi fj, j < i → i < ops.size → fs[i]? = some fi → fs[j]? = some fj → ((fi = 2 ∧ fj ≠ 0) ∨ (fj = 2 ∧ fi ≠ 0)) → Reach ops i j

/-- One operation that is ready. -/
theorem regionD_step {l : List Oper} {fs : List Nat} {st : St} {rs : List DS} {Qx : Exit → Act → World → Prop} (hdst : dstOk C.n l = true) (hline : Lined l.toArray) (hlinE : LinedE l.toArray fs)
    (hrun : RunD P C l.toArray l fs st rs) (m m' : Nat → Bool) (i : Nat) (hil : i < l.length) (him : m i = false) (hm' : ∀ j, m' j = if j = i then true else m j)
    (hcl : Closed l.toArray m) (hcl' : Closed l.toArray m') {a : Act} {w : World} {E : Env} (hR : R C (putAll l rs m 0 st) a w E) (K : Act → World → Prop)
    (hK : ∀ a' w' E', R C (putAll l rs m' 0 st) a' w' E' → K a' w') : wpOp P l.toArray Qx i K a w := by
  have hli : l[i]? = some l[i] := List.getElem?_eq_getElem hil
  obtain ⟨r, f, hrr, hff, hstep⟩ := hrun.get 0 i l[i] hli
  have ho : l.toArray[i]? = some l[i] := by simp [hil]
  generalize l[i] = oi at *
  simp only [Nat.zero_add] at hstep
  have before : ∀ j, Reach l.toArray i j → j < i → m j = true := by
    intro j hr hj
    have := hcl'.reach hr (by rw [hm']; simp)
    rw [hm', if_neg (by omega)] at this
    exact this
  have after : ∀ j, Reach l.toArray j i → m j = false := by
    intro j hr
    cases hmj : m j with
    | false => rfl
    | true => have := hcl.reach hr hmj; rw [him] at this; cases this
  have hlook : ∀ t, t ∈ looks l.toArray oi → (putAll l rs m 0 st).loc.lookup t = (putAll l rs (fun j => decide (j < i)) 0 st).loc.lookup t := by
    intro t ht
    refine putAll_congr l rs _ _ 0 st st t (fun j o hj hd => ?_) rfl
    rw [Nat.zero_add]
    have hjl : l.toArray[j]? = some o := by simpa using hj
    rcases Nat.lt_trichotomy j i with hlt | rfl | hgt
    · rw [before j (hline i j _ _ t ho hjl hlt (.inl ⟨hd, .inl ht⟩)) hlt]; simp [hlt]
    · rw [him]; simp
    · rw [after j (hline j i _ _ t hjl ho hgt (.inr ⟨hd, ht⟩))]; simp; omega
  have hobj : f ≠ 0 → (putAll l rs m 0 st).obj = (putAll l rs (fun j => decide (j < i)) 0 st).obj := by
    intro hf
    refine putAll_obj_congr l rs _ _ 0 st st (fun j d hd hne hjl => ?_) rfl
    rw [Nat.zero_add]
    have hj2 := hrun.eff j d hd hne
    rcases Nat.lt_trichotomy j i with hlt | rfl | hgt
    · rw [before j (hlinE i j f 2 hlt (by simpa using hil) hff hj2 (.inr ⟨rfl, hf⟩)) hlt]; simp [hlt]
    · rw [him]; simp
    · rw [after j (hlinE j i 2 f hgt (by simpa using hjl) hj2 hff (.inl ⟨rfl, hf⟩))]; simp; omega
  have hguard : ∀ b, (putAll l rs (fun j => decide (j < i)) 0 st).guard l.toArray oi = some b → St.guard (putAll l rs m 0 st) l.toArray oi = some b := by
    intro b hb
    unfold St.guard at hb ⊢
    split at hb
    · simp at hb ⊢; exact hb
    · rename_i g want h0
      split at hb
      · rename_i d hd
        rw [hlook d (by unfold looks; rw [h0]; dsimp only; rw [hd]; simp)]
        exact hb
      · cases hb
  have hobj' : (putAll l rs m' 0 st).obj = r.2.getD (putAll l rs m 0 st).obj := by
    cases hr2 : r.2 with
    | none =>
      refine putAll_obj_congr l rs _ _ 0 st st (fun j d hd hne hjl => ?_) rfl
      rw [Nat.zero_add, hm']
      split
      · rename_i hji; subst hji; rw [hrr] at hd; cases hd; exact absurd hr2 hne
      · rfl
    | some ob =>
      have hf2 := hrun.eff i r hrr (by rw [hr2]; simp)
      refine putAll_obj_last l rs _ 0 st i r ob hil hrr hr2 (by rw [Nat.zero_add, hm']; simp) (fun j d hj hd hne hjl => ?_)
      rw [Nat.zero_add, hm', if_neg (by omega)]
      exact after j (hlinE j i 2 2 hj (by simpa using hjl) (hrun.eff j d hd hne) hf2 (.inl ⟨rfl, by simp⟩))
  have hput : ∀ v w' E', E.le E' → Rep E' r.1 v → Holds C E' (putAll l rs m' 0 st).obj w' → R C (putAll l rs m' 0 st) (a.put oi.dst v) w' E' := by
    intro v w' E' hE hrep hh
    have h0 := hR.put (o := (putAll l rs m' 0 st).obj) hE hh hrep (dstOk_get hdst i _ hli)
    refine ⟨hh, fun t x hx => h0.loc t x ?_, h0.glob, h0.size, h0.defers⟩
    cases hd : oi.dst with
    | none =>
      rw [← hx]
      refine putAll_congr l rs _ _ 0 st st t (fun j o hj hdj => ?_) rfl
      rw [Nat.zero_add, hm']
      split
      · rename_i hji; subst hji; rw [hli] at hj; cases hj; rw [hd] at hdj; cases hdj
      · rfl
    | some u =>
      rw [lookup_put]
      by_cases htu : t = u
      · subst htu
        rw [if_pos rfl, ← hx]
        symm
        refine putAll_last l rs _ 0 st i t oi r hli hrr hd (by rw [Nat.zero_add, hm']; simp) (fun j p hj hp hdp => ?_)
        rw [Nat.zero_add, hm', if_neg (by omega)]
        exact after j (hline j i p _ t (by simpa using hp) ho hj (.inl ⟨hd, .inr hdp⟩))
      · rw [if_neg htu, ← hx]
        refine putAll_congr l rs _ _ 0 st st t (fun j o hj hdj => ?_) rfl
        rw [Nat.zero_add, hm']
        split
        · rename_i hji; subst hji; rw [hli] at hj; cases hj; rw [hd] at hdj; cases hdj; exact absurd rfl htu
        · rfl
  unfold wpOp
  rw [ho]
  dsimp only
  rcases hstep with ⟨hg, rfl⟩ | ⟨hg, hop⟩
  · rw [if_neg (by rw [hR.wanted (hguard _ hg)]; simp)]
    exact hK _ _ E (hput _ w E (Env.le.refl E) (Rep.tuple [] [] rfl (by simp)) (by rw [hobj']; exact hR.holds))
  · rw [if_pos (hR.wanted (hguard _ hg))]
    left
    have hRr : R C ⟨restr oi (putAll l rs (fun j => decide (j < i)) 0 st).loc, (putAll l rs m 0 st).obj⟩ a w E := by
      refine ⟨hR.holds, fun t x hx => ?_, hR.glob, hR.size, hR.defers⟩
      obtain ⟨h1, h2⟩ := restr_lookup hx
      exact hR.loc t x (by rw [hlook t (by simp [looks, h1])]; exact h2)
    rcases hop with ⟨hn, hop⟩ | ⟨hf, hn, hop⟩ | ⟨hf, ob, hn, hop⟩
    · refine hop _ a w E hRr _ _ fun v w' E' hE hrep hh => ?_
      exact hK _ _ E' (hput v w' E' hE hrep (by rw [hobj', hn]; exact hh))
    · rw [hobj (by omega)] at hRr
      refine hop a w E hRr _ _ fun v w' E' hE hrep hh => ?_
      exact hK _ _ E' (hput v w' E' hE hrep (by rw [hobj', hn, hobj (by omega)]; exact hh))
    · rw [hobj (by omega)] at hRr
      refine hop a w E hRr _ _ fun v w' E' hE hrep hh => ?_
      exact hK _ _ E' (hput v w' E' hE hrep (by rw [hobj', hn]; exact hh))

def unlisted (n : Nat) (listed : Array Bool) : List Nat := (List.range n).filter fun j => !maskOf listed j

theorem regionD_inv {l : List Oper} {fs : List Nat} {st : St} {rs : List DS} {Q : Exit → St → Prop} (hdst : dstOk C.n l = true) (hline : Lined l.toArray) (hlinE : LinedE l.toArray fs) (hdown : Down l.toArray)
    (hrun : RunD P C l.toArray l fs st rs) (h : Q .normal (putAll l rs (fun _ => true) 0 st)) : ∀ (fuel : Nat) (listed : Array Bool) (a : Act) (w : World) (E : Env), listed.size = l.length → (unlisted l.length listed).length = fuel → Closed l.toArray (maskOf listed) →
      R C (putAll l rs (maskOf listed) 0 st) a w E → wpAny P .any l.toArray (Post C Q) fuel listed a w := by
  intro fuel
  induction fuel with
  | zero =>
    intro listed a w E hsz hcnt hcl hR
    have hall : ∀ j, j < l.length → maskOf listed j = true := by
      intro j hj
      have : unlisted l.length listed = [] := List.eq_nil_of_length_eq_zero hcnt
      rw [unlisted, List.filter_eq_nil_iff] at this
      have := this j (by simpa using hj)
      simpa using this
    have hready : Region.ready .any l.toArray listed = [] := by
      rw [Region.ready, List.filter_eq_nil_iff]
      intro i hi
      have hi' : i < l.length := by simpa using hi
      have h1 := hall i hi'
      simp only [maskOf, Array.getD_eq_getD_getElem?] at h1
      have h2 : i < listed.size := by omega
      simp [h2] at h1 ⊢
      intro h3; rw [h1] at h3; cases h3
    refine ⟨hready, _, E, h, ?_⟩
    have he : (putAll l rs (fun _ => true) 0 st).obj = (putAll l rs (maskOf listed) 0 st).obj := putAll_obj_congr l rs _ _ 0 st st (fun j d _ _ hj => by rw [Nat.zero_add, hall j hj]) rfl
    refine ⟨by rw [he]; exact hR.holds, fun t x hx => hR.loc t x ?_, hR.glob, hR.size, hR.defers⟩
    rw [← hx]
    exact putAll_congr l rs _ _ 0 st st t (fun j o ho _ => by
      rw [Nat.zero_add]; exact hall j (List.getElem?_eq_some_iff.1 ho).1) rfl
  | succ fuel ih =>
    intro listed a w E hsz hcnt hcl hR
    refine ⟨fun hready => ?_, fun i hi => ?_⟩
    · exfalso
      have hex : ∃ j, j < l.length ∧ maskOf listed j = false := by
        cases hf : unlisted l.length listed with
        | nil => rw [hf] at hcnt; simp at hcnt
        | cons x xs =>
          have : x ∈ unlisted l.length listed := by rw [hf]; simp
          rw [unlisted, List.mem_filter] at this
          exact ⟨x, by simpa using this.1, by simpa using this.2⟩
      obtain ⟨j, hj, hjm⟩ := hex
      have key : ∀ n j, j < n → j < l.length → maskOf listed j = false → False := by
        intro n
        induction n with
        | zero => intro j h; omega
        | succ n ihn =>
          intro j hjn hj hjm
          have hnr : j ∉ Region.ready .any l.toArray listed := by rw [hready]; simp
          rw [Region.ready, List.mem_filter] at hnr
          apply hnr
          refine ⟨by simpa using hj, ?_⟩
          have h2 : j < listed.size := by omega
          have hl : listed.getD j true = false := by
            simp only [maskOf, Array.getD_eq_getD_getElem?] at hjm ⊢
            simp [h2] at hjm ⊢; exact hjm
          rw [hl]
          simp only [Bool.not_false, Bool.true_and]
          have ho : l.toArray[j]? = some l[j] := by simp [hj]
          rw [ho]
          simp only [Option.map_some, Option.getD_some, Array.all_eq_true]
          intro q hq
          by_cases hb : Region.binds .any ((l[j]).after[q]) = true
          · rw [hb]
            simp only [Bool.not_true, Bool.false_or]
            have hon := hdown j _ ho _ (Array.getElem_mem_toList hq) hb
            cases hmm : maskOf listed (l[j]).after[q].on with
            | true => exact hmm
            | false => exact (ihn _ (by omega) (by omega) hmm).elim
          · simp [hb]
      exact key (j + 1) j (by omega) hj hjm
    · rw [Region.ready, List.mem_filter] at hi
      obtain ⟨hi1, hi2⟩ := hi
      have hil : i < l.length := by simpa using hi1
      have hisz : i < listed.size := by omega
      have ho : l.toArray[i]? = some l[i] := by simp [hil]
      rw [ho] at hi2
      simp only [Option.map_some, Option.getD_some, Bool.and_eq_true, Bool.not_eq_true', Array.all_eq_true] at hi2
      obtain ⟨hun, hedge⟩ := hi2
      have him : maskOf listed i = false := by
        simp only [maskOf, Array.getD_eq_getD_getElem?] at hun ⊢
        simp [hisz] at hun ⊢; exact hun
      have hedge' : ∀ e ∈ (l[i]).after.toList, Region.binds .any e = true → maskOf listed e.on = true := by
        intro e he hb
        obtain ⟨q, hq, rfl⟩ := List.mem_iff_getElem.1 he
        have := hedge q (by simpa using hq)
        simp only [Array.getElem_toList] at hb ⊢
        rw [hb] at this
        simpa [maskOf] using this
      have hm' := maskOf_set listed i hisz
      have hcl' : Closed l.toArray (maskOf (listed.setIfInBounds i true)) := by
        intro j o hj ho' e he hb
        rw [hm'] at hj ⊢
        split at hj
        · rename_i hji
          subst hji
          rw [ho] at ho'; cases ho'
          split
          · rfl
          · exact hedge' e he hb
        · split
          · rfl
          · exact hcl j o hj ho' e he hb
      have hcnt' : (unlisted l.length (listed.setIfInBounds i true)).length = fuel := by
        have h1 : unlisted l.length (listed.setIfInBounds i true) = (unlisted l.length listed).filter fun j => j != i := by
          rw [unlisted, unlisted, List.filter_filter]
          apply List.filter_congr
          intro j _
          rw [hm']
          by_cases hji : j = i <;> simp [hji]
        rw [h1]
        have hnd : (unlisted l.length listed).Nodup := List.nodup_range.filter _
        have hmem : i ∈ unlisted l.length listed := by
          rw [unlisted, List.mem_filter]; exact ⟨by simpa using hil, by simp [him]⟩
        rw [← hnd.erase_eq_filter, List.length_erase_of_mem hmem, hcnt]
        omega
      exact regionD_step hdst hline hlinE hrun _ _ i hil him hm' hcl hcl' hR _ fun a' w' E' hR' => ih _ a' w' E' (by simpa using hsz) hcnt' hcl' hR'

theorem Sat.regionD {id : Nat} {l : List Oper} {fs : List Nat} {st : St} {rs : List DS} {Q : Exit → St → Prop} (hm : P.follows .mixedOrders = true) (hdst : dstOk C.n l = true) (hline : Lined l.toArray) (hlinE : LinedE l.toArray fs) (hdown : Down l.toArray)
    (hrun : RunD P C l.toArray l fs st rs) (h : Q .normal (putAll l rs (fun _ => true) 0 st)) : Sat P C (.region id l.toArray true) st Q := by
  intro a w E hR
  refine wp_region_any hm ?_
  have hno : ∀ j, maskOf (Array.replicate l.toArray.size false) j = false := by
    intro j
    simp only [maskOf, Array.getD_eq_getD_getElem?, Array.getElem?_replicate]
    split <;> rfl
  have hstart : R C (putAll l rs (maskOf (Array.replicate l.toArray.size false)) 0 st) a { w with drawn := w.drawn + 1 } E := by
    have hh : Holds C E st.obj { w with drawn := w.drawn + 1 } := hR.holds.grown ⟨rfl, rfl, rfl, Nat.le_refl _, fun _ _ _ => rfl⟩
    have none : ∀ (l : List Oper) (rs : List DS) (i : Nat) (s : St) (m : Nat → Bool), (∀ j, m j = false) → putAll l rs m i s = s := by
      intro l
      induction l with
      | nil => intro rs i s m _; rfl
      | cons o l ih =>
        intro rs i s m hm
        cases rs with
        | nil => rfl
        | cons r rs => rw [putAll, if_neg (by rw [hm]; simp)]; exact ih rs (i + 1) s m hm
    rw [none _ _ _ _ _ hno]
    exact ⟨hh, hR.loc, hR.glob, hR.size, hR.defers⟩
  refine regionD_inv hdst hline hlinE hdown hrun h l.toArray.size _ a _ E (by simp) ?_ ?_ hstart
  · have : unlisted l.length (Array.replicate l.toArray.size false) = List.range l.length := by
      rw [unlisted, List.filter_eq_self]
      intro j hj
      rw [hno]; rfl
    rw [this]; simp
  · intro i o hi
    rw [hno] at hi; cases hi

/-! ### The checks, by computation -/

/-- For each operation all those that its edges lead to; acc: those of the operations ahead. -/
def predsGo : List Oper → List (List Nat) → List (List Nat)
  | [], acc => acc
  | o :: l, acc => predsGo l (acc ++ [(o.after.toList.filter (Region.binds .any)).flatMap fun e => e.on :: acc.getD e.on []])

def linedB (l : List Oper) : Bool :=
  let ps := predsGo l []
  l.zipIdx.all fun (oi, i) => (oi.after.toList.all fun e => !Region.binds .any e || e.on < i) &&
    (l.take i).zipIdx.all fun (oj, j) =>
      ((match oj.dst with | some t => !((looks l.toArray oi).contains t || oi.dst == some t) | none => true) && (match oi.dst with | some t => !(looks l.toArray oj).contains t | none => true)) || (ps.getD i []).contains j

def linedE (l : List Oper) (fs : List Nat) : Bool :=
  let ps := predsGo l []
  fs.zipIdx.all fun (fi, i) => i ≥ l.length || (fs.take i).zipIdx.all fun (fj, j) => !((fi == 2 && fj != 0) || (fj == 2 && fi != 0)) || (ps.getD i []).contains j

theorem predsGo_ok {ops : Array Oper} : ∀ (l : List Oper) (acc : List (List Nat)), (∀ (j : Nat) (o : Oper), l[j]? = some o → ops[acc.length + j]? = some o) → (∀ i j, j ∈ acc.getD i [] → Reach ops i j) → ∀ i j, j ∈ (predsGo l acc).getD i [] → Reach ops i j
  | [], acc, _, h => h
  | o :: l, acc, hl, h => by
    rw [predsGo]
    refine predsGo_ok l _ (fun j p hp => ?_) fun i j hj => ?_
    · have := hl (j + 1) p (by simpa using hp)
      rw [← this]; congr 1; simp; omega
    · rw [List.getD_eq_getElem?_getD, List.getElem?_append] at hj
      split at hj
      · exact h i j (by rw [List.getD_eq_getElem?_getD]; exact hj)
      · rename_i hge
        have hi : i = acc.length := by
          rcases Nat.lt_or_ge acc.length i with h1 | h1
          · rw [List.getElem?_eq_none (by simp; omega)] at hj; simp at hj
          · omega
        subst hi
        simp only [Nat.sub_self, List.getElem?_cons_zero, Option.getD_some, List.mem_flatMap, List.mem_filter] at hj
        obtain ⟨e, ⟨he, hb⟩, hj⟩ := hj
        have h0 := hl 0 o rfl
        have hedge : Reach ops acc.length e.on := .edge _ o e (by simpa using h0) he hb
        rcases List.mem_cons.1 hj with rfl | hj
        · exact hedge
        · exact hedge.trans (h _ _ hj)

theorem lined_of {l : List Oper} (h : linedB l = true) : Lined l.toArray ∧ Down l.toArray := by
  have hp := predsGo_ok (ops := l.toArray) l [] (fun j o hj => by simpa using hj) (by simp)
  have h1 := List.all_eq_true.1 h
  constructor
  · intro i j oi oj t hi hj hlt hc
    have hi' : l[i]? = some oi := by simpa using hi
    have hj' : l[j]? = some oj := by simpa using hj
    have hmem : (oi, i) ∈ l.zipIdx := by rw [List.mem_zipIdx_iff_getElem?]; exact hi'
    have h2 := h1 _ hmem
    simp only [Bool.and_eq_true] at h2
    have h3 := List.all_eq_true.1 h2.2 (oj, j) (by
      rw [List.mem_zipIdx_iff_getElem?]
      simp only []
      rw [List.getElem?_take, if_pos hlt]; exact hj')
    simp only [Bool.or_eq_true, Bool.and_eq_true] at h3
    rcases h3 with ⟨h3, h4⟩ | h3
    · exfalso
      rcases hc with ⟨hd, hc⟩ | ⟨hd, hc⟩
      · rw [hd] at h3
        rcases hc with hc | hc
        · simp [hc] at h3
        · simp [hc] at h3
      · rw [hd] at h4
        simp [hc] at h4
    · exact hp i j (by simpa using h3)
  · intro i o hi e he hb
    have hi' : l[i]? = some o := by simpa using hi
    have h2 := h1 (o, i) (by rw [List.mem_zipIdx_iff_getElem?]; exact hi')
    simp only [Bool.and_eq_true] at h2
    have := List.all_eq_true.1 h2.1 e he
    rw [hb] at this
    simpa using this

theorem linedE_of {l : List Oper} {fs : List Nat} (h : linedE l fs = true) : LinedE l.toArray fs := by
  have hp := predsGo_ok (ops := l.toArray) l [] (fun j o hj => by simpa using hj) (by simp)
  have h1 := List.all_eq_true.1 h
  intro i j fi fj hlt hi hfi hfj hc
  have h2 := h1 (fi, i) (by rw [List.mem_zipIdx_iff_getElem?]; exact hfi)
  have hil : i < l.length := by simpa using hi
  simp only [Bool.or_eq_true] at h2
  rcases h2 with h2 | h2
  · simp at h2; omega
  · have h3 := List.all_eq_true.1 h2 (fj, j) (by
      rw [List.mem_zipIdx_iff_getElem?]
      simp only []
      rw [List.getElem?_take, if_pos hlt]; exact hfj)
    simp only [Bool.or_eq_true] at h3
    rcases h3 with h3 | h3
    · exfalso
      rcases hc with ⟨rfl, hc⟩ | ⟨rfl, hc⟩ <;> simp [hc] at h3
    · exact hp i j (by simpa using h3)

/-! ### As steps -/

/-- The steps of a region that draws. -/
def OpsD (P : Program) (C : Ctx) (ops : Array Oper) (l : List Oper) (fs : List Nat) (st : St) (Q : Exit → St → Prop) : Prop :=
  ∃ rs, RunD P C ops l fs st rs ∧ Q .normal (putAll l rs (fun _ => true) 0 st)

theorem putAll_true : ∀ (l : List Oper) (rs : List DS) (i j : Nat) (st : St), putAll l rs (fun _ => true) i st = putAll l rs (fun _ => true) j st
  | [], _, _, _, _ => rfl
  | _ :: _, [], _, _, _ => rfl
  | o :: l, r :: rs, i, j, st => by rw [putAll, putAll]; exact putAll_true l rs _ _ _

theorem OpsD.nil {ops : Array Oper} {fs : List Nat} {st : St} {Q : Exit → St → Prop} (h : Q .normal st) : OpsD P C ops [] fs st Q := ⟨[], rfl, h⟩

/-- An operation that does not look at the objects. -/
theorem OpsD.free {ops : Array Oper} {o : Oper} {l : List Oper} {f : Nat} {fs : List Nat} {st : St} {Q : Exit → St → Prop} {r : V}
    (hg : st.guard ops o = some true) (ho : ∀ obj, PureOp P C o ⟨restr o st.loc, obj⟩ r) (h : OpsD P C ops l fs (st.put o.dst r) Q) : OpsD P C ops (o :: l) (f :: fs) st Q := by
  obtain ⟨rs, h1, h2⟩ := h
  have he : st.putD o.dst (r, none) = st.put o.dst r := by cases o.dst <;> rfl
  exact ⟨(r, none) :: rs, ⟨.inr ⟨hg, .inl ⟨rfl, ho⟩⟩, by rw [he]; exact h1⟩, by rw [putAll, putAll_true _ _ _ 0, if_pos rfl, he]; exact h2⟩

/-- An operation that reads the objects. -/
theorem OpsD.pure {ops : Array Oper} {o : Oper} {l : List Oper} {fs : List Nat} {st : St} {Q : Exit → St → Prop} {r : V}
    (hg : st.guard ops o = some true) (ho : PureOp P C o ⟨restr o st.loc, st.obj⟩ r) (h : OpsD P C ops l fs (st.put o.dst r) Q) : OpsD P C ops (o :: l) (1 :: fs) st Q := by
  obtain ⟨rs, h1, h2⟩ := h
  have he : st.putD o.dst (r, none) = st.put o.dst r := by cases o.dst <;> rfl
  exact ⟨(r, none) :: rs, ⟨.inr ⟨hg, .inr (.inl ⟨rfl, rfl, ho⟩)⟩, by rw [he]; exact h1⟩, by rw [putAll, putAll_true _ _ _ 0, if_pos rfl, he]; exact h2⟩

/-- An operation that changes the objects. -/
theorem OpsD.eff {ops : Array Oper} {o : Oper} {l : List Oper} {fs : List Nat} {st : St} {Q : Exit → St → Prop} {r : V} {ob : Objs}
    (hg : st.guard ops o = some true) (ho : EffOp P C o ⟨restr o st.loc, st.obj⟩ r ob) (h : OpsD P C ops l fs (({ st with obj := ob } : St).put o.dst r) Q) : OpsD P C ops (o :: l) (2 :: fs) st Q := by
  obtain ⟨rs, h1, h2⟩ := h
  have he : st.putD o.dst (r, some ob) = ({ st with obj := ob } : St).put o.dst r := by cases o.dst <;> rfl
  exact ⟨(r, some ob) :: rs, ⟨.inr ⟨hg, .inr (.inr ⟨rfl, ob, rfl, ho⟩)⟩, by rw [he]; exact h1⟩, by rw [putAll, putAll_true _ _ _ 0, if_pos rfl, he]; exact h2⟩

theorem OpsD.skip {ops : Array Oper} {o : Oper} {l : List Oper} {f : Nat} {fs : List Nat} {st : St} {Q : Exit → St → Prop}
    (hg : st.guard ops o = some false) (h : OpsD P C ops l fs (st.put o.dst (.tuple [])) Q) : OpsD P C ops (o :: l) (f :: fs) st Q := by
  obtain ⟨rs, h1, h2⟩ := h
  have he : st.putD o.dst (.tuple [], none) = st.put o.dst (.tuple []) := by cases o.dst <;> rfl
  exact ⟨(.tuple [], none) :: rs, ⟨.inl ⟨hg, rfl⟩, by rw [he]; exact h1⟩, by rw [putAll, putAll_true _ _ _ 0, if_pos rfl, he]; exact h2⟩

theorem Sat.draw {id : Nat} {l : List Oper} (fs : List Nat) {st : St} {Q : Exit → St → Prop} (hm : P.follows .mixedOrders = true) (hdst : dstOk C.n l = true) (hline : linedB l = true) (hE : linedE l fs = true)
    (h : OpsD P C l.toArray l fs st Q) : Sat P C (.region id l.toArray true) st Q := by
  obtain ⟨rs, h1, h2⟩ := h
  exact Sat.regionD hm hdst (lined_of hline).1 (linedE_of hE) (lined_of hline).2 h1 h2

end
end Go.Vc
