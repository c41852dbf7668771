/-
  Functions: contracts, calls, freezing, slices of slices.
-/
import Derived.Test.YtkemjljbmdakbaaDoorVcApp
namespace Go.Vc

/-- The contract of a function at given abstract arguments, with the objects that it is handed. -/
def Ok (P : Program) (G : List (Nat × V)) (f : FuncId) (xs : List V) (obj : Objs) (Q : V → Objs → Prop) : Prop :=
  ∀ (E : Env) (vs : List Value) (w : World) (pb : Nat → Prop), vs.length = xs.length → (∀ (i : Nat) (x : V) (v : Value), xs[i]? = some x → vs[i]? = some v → Rep E x v) →
    Holds ⟨w, pb, E, obj.map (·.1), G, 0⟩ E obj w → (∀ g x, (g, x) ∈ G → Rep E x (.pointer (some ⟨g, 0, none⟩))) →
    Calls P f vs.toArray w (fun e w' => ∃ v r obj' E', e = .returned v ∧ Q r obj' ∧ Rep E' r v ∧ Holds ⟨w, pb, E, obj.map (·.1), G, 0⟩ E' obj' w')

/-- A function that is handed no objects, leaves none and yields r. -/
def OkP (P : Program) (G : List (Nat × V)) (f : FuncId) (xs : List V) (r : V) : Prop := Ok P G f xs [] (fun r' o' => r' = r ∧ o' = [])

theorem Ok.mono {P : Program} {G : List (Nat × V)} {f : FuncId} {xs : List V} {obj : Objs} {Q Q' : V → Objs → Prop} (h : Ok P G f xs obj Q) (hq : ∀ r o, Q r o → Q' r o) : Ok P G f xs obj Q' := by
  intro E vs w pb h1 h2 h3 h4
  refine (h E vs w pb h1 h2 h3 h4).mono ?_
  rintro e w' ⟨v, r, o, E', he, hQ, hr, hh⟩
  exact ⟨v, r, o, E', he, hq _ _ hQ, hr, hh⟩

structure FnF (P : Program) (f : FuncId) (fn : Func) (c : Code) : Prop where
  get : P.funcs[f]? = some fn
  name : (fn.name == "runtime.NumGoroutine") = false
  body : fn.body = some c

structure FnB (P : Program) (f : FuncId) : Prop where
  h : (P.funcs[f]?).map (fun fn => (fn.name == "runtime.NumGoroutine", fn.body.isNone)) = some (false, false)

theorem FnB.run {P : Program} {f : FuncId} (h : FnB P f) (args : Array Value) (w : World) : (callFunc f args).run P w = .ok (.enter f args) w := by
  have := h.h
  cases hf : P.funcs[f]? with
  | none => simp [hf] at this
  | some fn =>
    simp only [hf, Option.map_some, Option.some.injEq, Prod.mk.injEq] at this
    simp only [callFunc, Sem.run_bind, run_program, Result.andThen_ok, hf]
    rw [if_neg (by rw [this.1]; simp), if_neg (by rw [this.2]; simp)]
    rfl

/-! ### A call -/

/-- What is left when the objects at some places are handed over. -/
structure Split (obj pass rest : Objs) : Prop where
  perm : (pass ++ rest).Perm obj

section
variable {P : Program} {C : Ctx} {ops : Array Oper} {o : Oper} {l : List Oper} {st : St} {Q : Exit → St → Prop}

theorem Holds.perm {E : Env} {obj obj' : Objs} {w : World} (h : Holds C E obj w) (hp : obj'.Perm obj) : Holds C E obj' w :=
  ⟨h.le, h.fr, h.keep, h.newI, h.newJ, fun i o1 h1 => h.own i o1 (hp.mem_iff.1 h1), h.imm, h.imj, fun i o1 h1 => h.objs i o1 (hp.mem_iff.1 h1), ((hp.map _).nodup_iff).2 h.nod,
    fun i o1 l1 b h1 => h.mine i o1 l1 b (hp.mem_iff.1 h1), fun i o1 i' o2 l1 l2 b h1 h2 => h.inj i o1 i' o2 l1 l2 b (hp.mem_iff.1 h1) (hp.mem_iff.1 h2)⟩

/-- Some objects are let go. -/
theorem Holds.drop {E : Env} {obj obj' : Objs} {w : World} (h : Holds C E obj w) (hp : obj'.Sublist obj) : Holds C E obj' w :=
  ⟨h.le, h.fr, h.keep, h.newI, h.newJ, fun i o1 h1 => h.own i o1 (hp.subset h1), h.imm, h.imj, fun i o1 h1 => h.objs i o1 (hp.subset h1), (hp.map _).nodup h.nod,
    fun i o1 l1 b h1 => h.mine i o1 l1 b (hp.subset h1), fun i o1 i' o2 l1 l2 b h1 h2 => h.inj i o1 i' o2 l1 l2 b (hp.subset h1) (hp.subset h2)⟩

/-- The callee's side of a call. -/
theorem Holds.enter {E : Env} {pass rest : Objs} {w : World} (h : Holds C E (pass ++ rest) w) (G : List (Nat × V)) (n : Nat) :
    Holds ⟨w, fun b => ∃ id o l, (id, o) ∈ pass ∧ E.m id = some l ∧ l.blk = some b, E, pass.map (·.1), G, n⟩ E pass w := by
  have hsub : ∀ p, p ∈ pass → p ∈ pass ++ rest := fun p hp => List.mem_append_left _ hp
  refine ⟨Env.le.refl E, ⟨rfl, rfl, rfl, Nat.le_refl _, fun _ _ _ => rfl⟩, fun _ _ h _ => h, fun _ _ _ h => .inl h, fun _ _ h => .inl h, fun i o1 h1 => .inl (List.mem_map.2 ⟨_, h1, rfl⟩), h.imm, h.imj,
    fun i o1 h1 => h.objs i o1 (hsub _ h1), ?_, fun i o1 l1 b h1 h2 h3 => ⟨.inr ⟨i, o1, l1, h1, h2, h3⟩, (h.mine i o1 l1 b (hsub _ h1) h2 h3).2⟩,
    fun i o1 i' o2 l1 l2 b h1 h2 => h.inj i o1 i' o2 l1 l2 b (hsub _ h1) (hsub _ h2)⟩
  have := h.nod
  rw [List.map_append, List.nodup_append] at this
  exact this.1

/-- Back from a call. -/
theorem Holds.leave {E E' : Env} {pass rest obj' : Objs} {w w' : World} {G : List (Nat × V)} {n : Nat} (h : Holds C E (pass ++ rest) w)
    (h' : Holds ⟨w, fun b => ∃ id o l, (id, o) ∈ pass ∧ E.m id = some l ∧ l.blk = some b, E, pass.map (·.1), G, n⟩ E' obj' w') : Holds C E' (obj' ++ rest) w' := by
  have hrest : ∀ p, p ∈ rest → p ∈ pass ++ rest := fun p hp => List.mem_append_right _ hp
  have hpass : ∀ p, p ∈ pass → p ∈ pass ++ rest := fun p hp => List.mem_append_left _ hp
  have hnod := h.nod
  rw [List.map_append, List.nodup_append] at hnod
  have hnp : ∀ id o, (id, o) ∈ rest → id ∉ pass.map (·.1) := fun id o h1 h2 => hnod.2.2 id h2 id (List.mem_map.2 ⟨_, h1, rfl⟩) rfl
  have hm : ∀ id o l, (id, o) ∈ rest → E.m id = some l → E'.m id = some l := fun id o l h1 h2 => h'.keep id l h2 (hnp id o h1)
  have hpb : ∀ id o l b, (id, o) ∈ rest → E.m id = some l → l.blk = some b → ¬ ∃ id o l, (id, o) ∈ pass ∧ E.m id = some l ∧ l.blk = some b := by
    rintro id o l b h1 h2 h3 ⟨id', o', l', h4, h5, h6⟩
    have := h.inj id o id' o' l l' b (hrest _ h1) (hpass _ h4) h2 h5 h3 h6
    subst this
    exact hnp _ _ h1 (List.mem_map.2 ⟨_, h4, rfl⟩)
  have hblk : ∀ id o l b, (id, o) ∈ rest → E.m id = some l → l.blk = some b → b < w.heap.size := by
    intro id o l b h1 h2 h3
    obtain ⟨l1, h4, h5⟩ := h.objs id o (hrest _ h1)
    rw [h2] at h4; cases h4
    exact h5.blk_lt h3
  have hoid : ∀ id o, (id, o) ∈ obj' → id ∈ pass.map (·.1) ∨ E.m id = none := fun id o h1 => h'.own id o h1
  have hpown : ∀ id, id ∈ pass.map (·.1) → id ∈ C.ids ∨ C.E0.m id = none := by
    intro id h1
    obtain ⟨p, hp, rfl⟩ := List.mem_map.1 h1
    exact h.own p.1 p.2 (hpass _ hp)
  have hpblk : ∀ b, (∃ id o l, (id, o) ∈ pass ∧ E.m id = some l ∧ l.blk = some b) → C.w0.heap.size ≤ b ∨ C.pb b := by
    rintro b ⟨id, o, l, h1, h2, h3⟩
    exact (h.mine id o l b (hpass _ h1) h2 h3).1
  refine ⟨h.le.trans h'.le, ?_, ?_, ?_, ?_, ?_, h'.imm, h'.imj, ?_, ?_, ?_, ?_⟩
  · refine ⟨h'.fr.os.trans h.fr.os, h'.fr.tape.trans h.fr.tape, h'.fr.output.trans h.fr.output, Nat.le_trans h.fr.size h'.fr.size, fun k hk hp => ?_⟩
    rw [h'.fr.block k (Nat.lt_of_lt_of_le hk h.fr.size) (fun hx => by
      rcases hpblk k hx with h1 | h1
      · omega
      · exact hp h1)]
    exact h.fr.block k hk hp
  · intro id l h1 h2
    have h3 := h.keep id l h1 h2
    exact h'.keep id l h3 (fun hx => by
      rcases hpown id hx with h4 | h4
      · exact h2 h4
      · rw [h1] at h4; cases h4)
  · intro b o1 v h1
    rcases h'.newI b o1 v h1 with h2 | h2 | h2
    · exact h.newI b o1 v h2
    · exact .inr (.inl (Nat.le_trans h.fr.size h2))
    · exact .inr (hpblk b h2)
  · intro b x h1
    rcases h'.newJ b x h1 with h2 | h2 | h2
    · exact h.newJ b x h2
    · exact .inr (.inl (Nat.le_trans h.fr.size h2))
    · exact .inr (hpblk b h2)
  · intro id o1 h1
    rcases List.mem_append.1 h1 with h1 | h1
    · rcases hoid id o1 h1 with h2 | h2
      · exact hpown id h2
      · cases h0 : C.E0.m id with
        | none => exact .inr rfl
        | some l0 =>
          obtain ⟨l1, h3, _⟩ := h.le.m _ _ h0
          rw [h2] at h3; cases h3
    · exact h.own id o1 (hrest _ h1)
  · intro id o1 h1
    rcases List.mem_append.1 h1 with h1 | h1
    · exact h'.objs id o1 h1
    · obtain ⟨l1, h2, h3⟩ := h.objs id o1 (hrest _ h1)
      exact ⟨l1, hm id o1 l1 h1 h2, h3.mono h'.le fun b hb => h'.fr.block b (hblk id o1 l1 b h1 h2 hb) (hpb id o1 l1 b h1 h2 hb)⟩
  · rw [List.map_append, List.nodup_append]
    refine ⟨h'.nod, hnod.2.1, fun a ha b hb e => ?_⟩
    subst e
    obtain ⟨p, hp, rfl⟩ := List.mem_map.1 ha
    obtain ⟨q, hq, hqe⟩ := List.mem_map.1 hb
    rcases hoid p.1 p.2 hp with h2 | h2
    · exact hnp q.1 q.2 hq (by rw [hqe]; exact h2)
    · obtain ⟨l1, h3, _⟩ := h.objs q.1 q.2 (hrest _ hq)
      rw [hqe, h2] at h3; cases h3
  · intro id o1 l1 b h1 h2 h3
    rcases List.mem_append.1 h1 with h1 | h1
    · obtain ⟨h4, h5⟩ := h'.mine id o1 l1 b h1 h2 h3
      refine ⟨?_, h5⟩
      rcases h4 with h4 | h4
      · exact .inl (Nat.le_trans h.fr.size h4)
      · exact hpblk b h4
    · obtain ⟨l2, h4, _⟩ := h.objs id o1 (hrest _ h1)
      have h5 := hm id o1 l2 h1 h4
      rw [h2] at h5; cases h5
      obtain ⟨h6, h7, h8⟩ := h.mine id o1 l1 b (hrest _ h1) h4 h3
      have hlt := hblk id o1 l1 b h1 h4 h3
      have hnb := hpb id o1 l1 b h1 h4 h3
      refine ⟨h6, fun k => ?_, ?_⟩
      · cases hI : E'.I b k with
        | none => rfl
        | some v =>
          rcases h'.newI b k v hI with h9 | h9 | h9
          · change E.I b k = some v at h9; rw [h7 k] at h9; cases h9
          · change w.heap.size ≤ b at h9; omega
          · exact absurd h9 hnb
      · cases hJ : E'.J b with
        | none => rfl
        | some v =>
          rcases h'.newJ b v hJ with h9 | h9 | h9
          · change E.J b = some v at h9; rw [h8] at h9; cases h9
          · change w.heap.size ≤ b at h9; omega
          · exact absurd h9 hnb
  · have cross : ∀ i o1 i' o2 l1 l2 b, (i, o1) ∈ obj' → (i', o2) ∈ rest → E'.m i = some l1 → E'.m i' = some l2 → l1.blk = some b → l2.blk = some b → False := by
      intro i o1 i' o2 l1 l2 b h1 h2 h3 h4 h5 h6
      obtain ⟨l3, h7, _⟩ := h.objs i' o2 (hrest _ h2)
      have h8 := hm i' o2 l3 h2 h7
      rw [h4] at h8; cases h8
      rcases (h'.mine i o1 l1 b h1 h3 h5).1 with h9 | h9
      · have := hblk i' o2 l2 b h2 h7 h6
        change w.heap.size ≤ b at h9; omega
      · exact hpb i' o2 l2 b h2 h7 h6 h9
    intro i o1 i' o2 l1 l2 b h1 h2 h3 h4 h5 h6
    rcases List.mem_append.1 h1 with g1 | g1 <;> rcases List.mem_append.1 h2 with g2 | g2
    · exact h'.inj i o1 i' o2 l1 l2 b g1 g2 h3 h4 h5 h6
    · exact (cross i o1 i' o2 l1 l2 b g1 g2 h3 h4 h5 h6).elim
    · exact (cross i' o2 i o1 l2 l1 b g2 g1 h4 h3 h6 h5).elim
    · obtain ⟨l3, h7, _⟩ := h.objs i o1 (hrest _ g1)
      obtain ⟨l4, h8, _⟩ := h.objs i' o2 (hrest _ g2)
      have h9 := hm i o1 l3 g1 h7
      have h10 := hm i' o2 l4 g2 h8
      rw [h3] at h9; cases h9
      rw [h4] at h10; cases h10
      exact h.inj i o1 i' o2 l1 l2 b (hrest _ g1) (hrest _ g2) h7 h8 h5 h6

/-- The arguments of a call. -/
def argsV (C : Ctx) (st : St) : List Operand → List V → Prop
  | [], xs => xs = []
  | x :: r, d :: ds => st.val C x = some d ∧ argsV C st r ds
  | _ :: _, [] => False

theorem argsV.get {as : List Operand} {ds : List V} (h : argsV C st as ds) : as.length = ds.length ∧ ∀ (i : Nat) (x : V), ds[i]? = some x → ∃ p, as[i]? = some p ∧ st.val C p = some x := by
  induction as generalizing ds with
  | nil => simp [argsV] at h; subst h; simp
  | cons p r ih =>
    cases ds with
    | nil => exact h.elim
    | cons d ds =>
      obtain ⟨h1, h2⟩ := h
      obtain ⟨h3, h4⟩ := ih h2
      refine ⟨by simp [h3], fun i x hx => ?_⟩
      cases i with
      | zero => simp at hx; subst hx; exact ⟨p, rfl, h1⟩
      | succ i => exact h4 i x (by simpa using hx)

/-- A call, with the objects that are handed over ahead of the rest. -/
theorem OpsS.call {f : FuncId} {cv : Operand} {args : Array Operand} {ats : Array TypeId} {first caps ds : List V} {pass rest : Objs} {Qf : V → Objs → Prop} (hg : st.guard ops o = some true)
    (ho : o.op = .call { callee := .value cv, args := args, argTypes := ats }) (hb : FnB P f) (hf : st.val C cv = some (.func (.func f) first caps)) (ha : argsV C st args.toList ds)
    (hs : (pass ++ rest).Perm st.obj) (hok : Ok P C.G f (first ++ ds ++ caps) pass Qf)
    (h : ∀ r obj', Qf r obj' → OpsS P C ops l (({ st with obj := obj' ++ rest } : St).put o.dst r) Q) : OpsS P C ops (o :: l) st Q := by
  intro hd a w E hR
  obtain ⟨hd1, hd2⟩ := dstOk_cons hd
  unfold wpList
  rw [if_pos (hR.wanted hg)]
  refine .inl ?_
  have hfv := hR.val hf
  generalize hcv : a.eval cv = v at hfv
  cases hfv with
  | func _ _ _ us vs hl1 hl2 hr1 hr2 =>
    obtain ⟨halen, haget⟩ := ha.get
    have hh := hR.holds.perm hs
    have hen := hh.enter C.G 0
    unfold Oper.wp
    have hexec : (execOp a.eval o).run P w = .ok (.enter f (us ++ args.toList.map a.eval ++ vs).toArray) w := by
      simp only [execOp, ho, Sem.run_bind, resolve, Deferred.ofValue, hcv, Sem.run_pure, Result.andThen_ok, invoke, hb.run]
      congr 2
      apply Array.ext'
      simp
    rw [hexec]
    show Calls P f _ w _
    refine (hok E (us ++ args.toList.map a.eval ++ vs) w _ (by simp [hl1, hl2, ← halen]) ?_ hen hR.glob).mono ?_
    · intro i x v hx hv
      rw [List.getElem?_append, List.getElem?_append] at hx hv
      simp only [List.length_append, List.length_map, ← hl1, halen] at hx hv
      split at hx
      · rename_i h1
        rw [if_pos h1] at hv
        split at hx
        · rename_i h2; rw [if_pos h2] at hv; exact hr1 i x v hx hv
        · rename_i h2
          rw [if_neg h2] at hv
          obtain ⟨p, hp, hpv⟩ := haget _ x hx
          rw [List.getElem?_map, hp] at hv
          simp at hv; subst hv
          exact hR.val hpv
      · rename_i h1
        rw [if_neg h1] at hv
        exact hr2 _ x v hx hv
    · rintro e w' ⟨v, r, obj', E', rfl, hq, hrep, hh'⟩
      have hl := hh.leave hh'
      exact h r obj' hq hd2 _ _ E' (hR.put hh'.le hl hrep hd1)

/-- A call of a function that is handed no objects. -/
theorem pure_call {f : FuncId} {cv : Operand} {args : Array Operand} {ats : Array TypeId} {first caps ds : List V} {r : V}
    (ho : o.op = .call { callee := .value cv, args := args, argTypes := ats }) (hb : FnB P f) (hf : st.val C cv = some (.func (.func f) first caps)) (ha : argsV C st args.toList ds)
    (hok : OkP P C.G f (first ++ ds ++ caps) r) : PureOp P C o st r := by
  intro a w E hR K Qx hK
  have hfv := hR.val hf
  generalize hcv : a.eval cv = v at hfv
  cases hfv with
  | func _ _ _ us vs hl1 hl2 hr1 hr2 =>
    obtain ⟨halen, haget⟩ := ha.get
    have hh : Holds C E ([] ++ st.obj) w := hR.holds
    have hen := hh.enter C.G 0
    unfold Oper.wp
    have hexec : (execOp a.eval o).run P w = .ok (.enter f (us ++ args.toList.map a.eval ++ vs).toArray) w := by
      simp only [execOp, ho, Sem.run_bind, resolve, Deferred.ofValue, hcv, Sem.run_pure, Result.andThen_ok, invoke, hb.run]
      congr 2
      apply Array.ext'
      simp
    rw [hexec]
    show Calls P f _ w _
    refine (hok E (us ++ args.toList.map a.eval ++ vs) w _ (by simp [hl1, hl2, ← halen]) ?_ hen hR.glob).mono ?_
    · intro i x v hx hv
      rw [List.getElem?_append, List.getElem?_append] at hx hv
      simp only [List.length_append, List.length_map, ← hl1, halen] at hx hv
      split at hx
      · rename_i h1
        rw [if_pos h1] at hv
        split at hx
        · rename_i h2; rw [if_pos h2] at hv; exact hr1 i x v hx hv
        · rename_i h2
          rw [if_neg h2] at hv
          obtain ⟨p, hp, hpv⟩ := haget _ x hx
          rw [List.getElem?_map, hp] at hv
          simp at hv; subst hv
          exact hR.val hpv
      · rename_i h1
        rw [if_neg h1] at hv
        exact hr2 _ x v hx hv
    · rintro e w' ⟨v, r', obj', E', rfl, ⟨rfl, rfl⟩, hrep, hh'⟩
      have hl := hh.leave hh'
      exact hK v w' E' hh'.le hrep hl

/-! ### A function's body -/

def argsLoc : Nat → List V → List (Nat × V)
  | _, [] => []
  | i, x :: r => (i, x) :: argsLoc (i + 1) r

theorem argsLoc_lookup : ∀ (xs : List V) (i t : Nat) (x : V), (argsLoc i xs).lookup t = some x → i ≤ t ∧ xs[t - i]? = some x
  | [], _, _, _, h => by simp [argsLoc] at h
  | y :: r, i, t, x, h => by
    simp only [argsLoc, List.lookup_cons] at h
    split at h
    · rename_i he
      have : t = i := by simpa using he
      subst this
      simp only [Option.some.injEq] at h; subst h
      simp
    · rename_i he
      obtain ⟨h1, h2⟩ := argsLoc_lookup r (i + 1) t x h
      refine ⟨by omega, ?_⟩
      rw [show t - i = (t - (i + 1)) + 1 by omega]
      simpa using h2

/-- What the result variables hold. -/
def resV (st : St) : List ResultVar → List V → Prop
  | [], rs => rs = []
  | .tmp t :: r, x :: xs => st.loc.lookup t = some x ∧ resV st r xs
  | _, _ => False

def packR : List V → V
  | [x] => x
  | l => .tuple l

def Fin (res : List ResultVar) (Qf : V → Objs → Prop) : Exit → St → Prop := fun e st => (e = .ret ∨ e = .normal) ∧ ∃ rs, resV st res rs ∧ Qf (packR rs) st.obj

def resF (tmps : Array Value) : ResultVar → Sem Value
  | .tmp t => Pure.pure (tmps.getD t undef)
  | .cell b t => do loadVar t (← asAddr (tmps.getD b undef))

theorem results_eq (fn : Func) (tmps : Array Value) : results fn tmps = (do
    let vs ← fn.results.mapM (resF tmps)
    Pure.pure (if h : vs.size = 1 then vs[0] else .tuple vs)) := by
  have : (fun | .tmp t => Pure.pure (tmps.getD t undef) | .cell a t => do loadVar t (← asAddr (tmps.getD a undef)) : ResultVar → Sem Value) = resF tmps := by
    funext x; cases x <;> rfl
  unfold results
  rw [← this]
  rfl

theorem resV.run {st : St} {a : Act} {w : World} {E : Env} (h : R C st a w E) : ∀ {res : List ResultVar} {rs : List V}, resV st res rs →
    ∃ vs : List Value, vs.length = rs.length ∧ (res.mapM (resF a.tmps)).run P w = .ok vs w ∧
      ∀ (i : Nat) (x : V) (v : Value), rs[i]? = some x → vs[i]? = some v → Rep E x v
  | [], rs, hr => by simp [resV] at hr; subst hr; exact ⟨[], rfl, by simp, by simp⟩
  | .tmp t :: r, x :: xs, hr => by
    obtain ⟨vs, h1, h2, h3⟩ := resV.run h hr.2
    obtain ⟨v, hv, hrep⟩ := h.loc t x hr.1
    refine ⟨v :: vs, by simp [h1], ?_, fun i y u hy hu => ?_⟩
    · simp only [List.mapM_cons, Sem.run_bind]
      simp [resF, Array.getD_eq_getD_getElem?, hv, h2]
    · cases i with
      | zero => simp at hy hu; subst hy; subst hu; exact hrep
      | succ i => exact h3 i y u (by simpa using hy) (by simpa using hu)
  | .tmp t :: r, [], hr => by simp [resV] at hr
  | .cell _ _ :: r, _, hr => by simp [resV] at hr

def packVal : List Value → Value
  | [u] => u
  | us => .tuple us.toArray

theorem Ok.of_sat {G : List (Nat × V)} {f : FuncId} {fn : Func} {c : Code} {res : List ResultVar} {xs : List V} {obj : Objs} {Qf : V → Objs → Prop} {n : Nat} (hf : FnF P f fn c) (hn : fn.ntmps = n) (hx : xs.length ≤ n) (hres : fn.results.toList = res)
    (h : ∀ C : Ctx, C.G = G → C.n = n → Sat P C c ⟨argsLoc 0 xs, obj⟩ (Fin res Qf)) : Ok P G f xs obj Qf := by
  intro E vs w pb hl hr hh hglob
  refine calls_of_wp hf.get hf.body ?_
  subst hn
  have hR : R ⟨w, pb, E, obj.map (·.1), G, fn.ntmps⟩ ⟨argsLoc 0 xs, obj⟩ { tmps := vs.toArray ++ Array.replicate (fn.ntmps - vs.toArray.size) undef, defers := [] } w E := by
    refine ⟨⟨hh.le, ⟨hh.fr.os, hh.fr.tape, hh.fr.output, hh.fr.size, hh.fr.block⟩, hh.keep, hh.newI, hh.newJ, hh.own, hh.imm, hh.imj, hh.objs, hh.nod, hh.mine, hh.inj⟩, fun t x hx' => ?_, hglob, by simp; omega, rfl⟩
    obtain ⟨_, h1⟩ := argsLoc_lookup xs 0 t x hx'
    simp only [Nat.sub_zero] at h1
    have hlt : t < vs.length := by rw [hl]; exact (List.getElem?_eq_some_iff.1 h1).1
    refine ⟨vs[t], ?_, hr t x _ h1 (List.getElem?_eq_getElem hlt)⟩
    rw [Array.getElem?_append_left (by simpa using hlt)]
    simp [hlt]
  refine Code.wp_mono ?_ (h _ rfl rfl _ w E hR)
  rintro e a' w' ⟨st', E', ⟨he, rs, hrs, hq⟩, hR'⟩
  obtain ⟨us, h1, h2, h3⟩ := resV.run (P := P) hR' hrs
  have hrun : (results fn a'.tmps).run P w' = .ok (packVal us) w' := by
    rw [results_eq, ← Array.toArray_toList (xs := fn.results), hres]
    have hm : ∀ (F : ResultVar → Sem Value), res.toArray.mapM F = List.toArray <$> res.mapM F := fun F => by simp
    simp only [Sem.run_bind]
    rw [hm]
    simp only [Sem.run_map, h2, Result.andThen_ok, Sem.run_pure]
    match us with
    | [] => rfl
    | [u] => rfl
    | u :: v :: r => simp [packVal]
  have hrep : Rep E' (packR rs) (packVal us) := by
    match us, rs, h1 with
    | [], [], _ => exact .tuple [] [] rfl (by simp)
    | [u], [x], _ => exact h3 0 x u rfl rfl
    | u :: v :: r, x :: y :: s, h1 => exact .tuple _ _ (by simpa using h1.symm) h3
  have hh' : Holds ⟨w, pb, E, obj.map (·.1), G, 0⟩ E' st'.obj w' := by
    have k := hR'.holds
    exact ⟨k.le, ⟨k.fr.os, k.fr.tape, k.fr.output, k.fr.size, k.fr.block⟩, k.keep, k.newI, k.newJ, k.own, k.imm, k.imj, k.objs, k.nod, k.mine, k.inj⟩
  rcases he with rfl | rfl <;> exact ⟨hR'.defers, _, hrun, _, _, _, E', rfl, hq, hrep, hh'⟩

/-! ### Freezing -/

/-- A relation of values, carried through structs and tuples. -/
inductive Clo (B : V → V → Prop) : V → V → Prop
  | refl (x : V) : Clo B x x
  | base (x y : V) (h : B x y) : Clo B x y
  | agg (xs ys : List V) (hl : xs.length = ys.length) (h : ∀ (i : Nat) (x y : V), xs[i]? = some x → ys[i]? = some y → Clo B x y) : Clo B (.agg xs) (.agg ys)
  | tuple (xs ys : List V) (hl : xs.length = ys.length) (h : ∀ (i : Nat) (x y : V), xs[i]? = some x → ys[i]? = some y → Clo B x y) : Clo B (.tuple xs) (.tuple ys)

inductive FrzB (id ver s : Nat) (elems : List V) : V → V → Prop
  | osl (off len : Nat) (h : off + len ≤ elems.length) : FrzB id ver s elems (.osl id ver off len) (.sl s ((elems.drop off).take len))
  | own (i c : Nat) : i < elems.length → FrzB id ver s elems (.own id ver i c) (.ref s elems i c)
inductive FrzM (id ver : Nat) (ents : List (V × V × Nat)) (clock : Nat) : V → V → Prop
  | omap : FrzM id ver ents clock (.omap id ver) (.imap ents clock)

theorem Frz.all {id ver s n : Nat} {elems : List V} (h : n = elems.length) : Clo (FrzB id ver s elems) (.osl id ver 0 n) (.sl s elems) := by
  subst h
  have := FrzB.osl (id := id) (ver := ver) (s := s) (elems := elems) 0 elems.length (by omega)
  simp only [List.drop_zero, List.take_length] at this
  exact .base _ _ this
theorem Frz.osl {id ver s : Nat} {elems : List V} (off len : Nat) (h : off + len ≤ elems.length) : Clo (FrzB id ver s elems) (.osl id ver off len) (.sl s ((elems.drop off).take len)) := .base _ _ (.osl off len h)
theorem Frz.own {id ver s : Nat} {elems : List V} (i c : Nat) (h : i < elems.length) : Clo (FrzB id ver s elems) (.own id ver i c) (.ref s elems i c) := .base _ _ (.own i c h)
theorem Frz.omap {id ver clock : Nat} {ents : List (V × V × Nat)} : Clo (FrzM id ver ents clock) (.omap id ver) (.imap ents clock) := .base _ _ .omap

def OneB (B : V → V → Prop) : Prop := ∀ x y, B x y → x.cells = [x] ∧ y.cells = [y]
theorem FrzB.one {id ver s : Nat} {elems : List V} : OneB (FrzB id ver s elems) := fun x y h => by cases h <;> exact ⟨rfl, rfl⟩
theorem FrzM.one {id ver clock : Nat} {ents : List (V × V × Nat)} : OneB (FrzM id ver ents clock) := fun x y h => by cases h; exact ⟨rfl, rfl⟩

theorem Clo.cells {B : V → V → Prop} (hB : OneB B) {x y : V} (h : Clo B x y) : x.cells.length = y.cells.length ∧ ∀ (c : Nat) (a b : V), x.cells[c]? = some a → y.cells[c]? = some b → Clo B a b := by
  cases h with
  | refl x => exact ⟨rfl, fun c a b h1 h2 => by rw [h1] at h2; cases h2; exact .refl _⟩
  | base x y h =>
    obtain ⟨h1, h2⟩ := hB _ _ h
    exact ⟨by rw [h1, h2]; rfl, fun c a b h3 h4 => by rw [h1] at h3; rw [h2] at h4; cases c <;> simp at h3 h4; subst h3; subst h4; exact .base _ _ h⟩
  | agg xs ys hl h => exact ⟨hl, h⟩
  | tuple xs ys hl h => exact ⟨rfl, fun c' a b h1 h2 => by cases c' <;> simp [V.cells] at h1 h2; subst h1; subst h2; exact .tuple xs ys hl h⟩

def CloL (B : V → V → Prop) : List (Nat × V) → List (Nat × V) → Prop
  | [], _ => True
  | (t, y) :: r, l => (∃ x, l.lookup t = some x ∧ Clo B x y) ∧ CloL B r l

theorem CloL.lookup {B : V → V → Prop} {l' l : List (Nat × V)} (h : CloL B l' l) {t : Nat} {y : V} (hy : l'.lookup t = some y) : ∃ x, l.lookup t = some x ∧ Clo B x y := by
  induction l' with
  | nil => simp at hy
  | cons p r ih =>
    obtain ⟨k, z⟩ := p
    rw [List.lookup_cons] at hy
    split at hy
    · rename_i he
      have : t = k := by simpa using he
      subst this
      simp only [Option.some.injEq] at hy
      subst hy
      exact h.1
    · exact ih h.2 hy

inductive CloO (B : V → V → Prop) : Objs → Objs → Prop
  | nil : CloO B [] []
  | same {l l' : Objs} (p : Nat × AObj) : CloO B l l' → CloO B (p :: l) (p :: l')
  | row {l l' : Objs} (i v z : Nat) (e : TypeId) (xs ys : List V) (hl : xs.length = ys.length) (h : ∀ (j : Nat) (x y : V), xs[j]? = some x → ys[j]? = some y → Clo B x y) :
      CloO B l l' → CloO B ((i, .row v z e xs) :: l) ((i, .row v z e ys) :: l')
  | map {l l' : Objs} (i v clock : Nat) (xs ys : List (V × V × Nat)) (hl : xs.length = ys.length) (h : ∀ (j : Nat) (x y : V × V × Nat), xs[j]? = some x → ys[j]? = some y → x.1 = y.1 ∧ x.2.2 = y.2.2 ∧ Clo B x.2.1 y.2.1) :
      CloO B l l' → CloO B ((i, .map v xs clock) :: l) ((i, .map v ys clock) :: l')

/-- A row of one element that changes. -/
theorem CloO.row1 {B : V → V → Prop} {l l' : Objs} {i v z : Nat} {e : TypeId} {x y : V} (h : Clo B x y) (hr : CloO B l l') : CloO B ((i, .row v z e [x]) :: l) ((i, .row v z e [y]) :: l') :=
  .row i v z e _ _ rfl (fun j a b h1 h2 => by cases j <;> simp at h1 h2; subst h1; subst h2; exact h) hr

theorem CloO.names {B : V → V → Prop} {l l' : Objs} (h : CloO B l l') : l'.map (·.1) = l.map (·.1) := by
  induction h with
  | nil => rfl
  | same p _ ih => simp [ih]
  | row i v z e xs ys _ _ _ ih => simp [ih]
  | map i v clock xs ys _ _ _ ih => simp [ih]

theorem Clo.rep {B : V → V → Prop} {E : Env} (hB : ∀ x y, B x y → ∀ v, Rep E x v → Rep E y v) {x y : V} (h : Clo B x y) : ∀ v, Rep E x v → Rep E y v := by
  induction h with
  | refl x => exact fun v hv => hv
  | base x y h => exact hB x y h
  | agg xs ys hl _ ih =>
    intro v hv
    cases hv with
    | agg _ vs hl' h1 hr =>
      refine .agg ys vs (by omega) h1 fun i y u hy hu => ?_
      have hlt : i < xs.length := by rw [hl]; exact (List.getElem?_eq_some_iff.1 hy).1
      exact ih i _ y (List.getElem?_eq_getElem hlt) hy u (hr i _ u (List.getElem?_eq_getElem hlt) hu)
  | tuple xs ys hl _ ih =>
    intro v hv
    cases hv with
    | tuple _ vs hl' hr =>
      refine .tuple ys vs (by omega) fun i y u hy hu => ?_
      have hlt : i < xs.length := by rw [hl]; exact (List.getElem?_eq_some_iff.1 hy).1
      exact ih i _ y (List.getElem?_eq_getElem hlt) hy u (hr i _ u (List.getElem?_eq_getElem hlt) hu)

theorem CloO.objs {B : V → V → Prop} {E : Env} {w : World} (hB : ∀ x y, B x y → ∀ v, Rep E x v → Rep E y v) (hone : OneB B) {l l' : Objs} (h : CloO B l l') {i : Nat} {o' : AObj} (hm : (i, o') ∈ l') :
    ∃ o, (i, o) ∈ l ∧ ∀ lo, ObjRel E w lo o → ObjRel E w lo o' := by
  induction h with
  | nil => cases hm
  | same p _ ih =>
    rcases List.mem_cons.1 hm with rfl | hm
    · exact ⟨o', by simp, fun _ h => h⟩
    · obtain ⟨o, h1, h2⟩ := ih hm; exact ⟨o, List.mem_cons_of_mem _ h1, h2⟩
  | row i' v z e xs ys hl hf _ ih =>
    rcases List.mem_cons.1 hm with hm | hm
    · cases hm
      refine ⟨_, List.mem_cons_self, fun lo h => ?_⟩
      obtain ⟨g1, g2, g3⟩ := h
      refine ⟨g1, g2, ?_⟩
      rcases g3 with ⟨g3, g4⟩ | ⟨b, cur, g4, g5, g6, g7, g8, g9, g10⟩
      · subst g4; exact .inl ⟨g3, List.eq_nil_of_length_eq_zero (by simpa using hl.symm)⟩
      · refine .inr ⟨b, cur, g4, g5, g6, by rw [← hl]; exact g7, g8, fun j d hj => ?_, fun j c d x hj hx => ?_⟩
        · have hlt : j < xs.length := by rw [hl]; exact (List.getElem?_eq_some_iff.1 hj).1
          rw [← ((hf j _ d (List.getElem?_eq_getElem hlt) hj).cells hone).1]
          exact g9 j _ (List.getElem?_eq_getElem hlt)
        · have hlt : j < xs.length := by rw [hl]; exact (List.getElem?_eq_some_iff.1 hj).1
          obtain ⟨hc1, hc2⟩ := (hf j _ d (List.getElem?_eq_getElem hlt) hj).cells hone
          have hcl : c < xs[j].cells.length := by rw [hc1]; exact (List.getElem?_eq_some_iff.1 hx).1
          obtain ⟨v, hv1, hv2⟩ := g10 j c _ _ (List.getElem?_eq_getElem hlt) (List.getElem?_eq_getElem hcl)
          exact ⟨v, hv1, (hc2 c _ x (List.getElem?_eq_getElem hcl) hx).rep hB v hv2⟩
    · obtain ⟨o, h1, h2⟩ := ih hm; exact ⟨o, List.mem_cons_of_mem _ h1, h2⟩
  | map i' v clock xs ys hl hf _ ih =>
    rcases List.mem_cons.1 hm with hm | hm
    · cases hm
      refine ⟨_, List.mem_cons_self, fun lo h => ?_⟩
      obtain ⟨g1, b, es, g2, g3, g4, g5⟩ := h
      have get : ∀ (j : Nat) (y : V × V × Nat), ys[j]? = some y → ∃ x, xs[j]? = some x ∧ x.1 = y.1 ∧ x.2.2 = y.2.2 ∧ Clo B x.2.1 y.2.1 := fun j y hy => by
        have hlt : j < xs.length := by rw [hl]; exact (List.getElem?_eq_some_iff.1 hy).1
        exact ⟨xs[j], List.getElem?_eq_getElem hlt, hf j _ y (List.getElem?_eq_getElem hlt) hy⟩
      refine ⟨g1, b, es, g2, g3, ⟨by rw [← hl]; exact g4.len, fun j y e hy he => ?_, fun j y e hy he => ?_, fun j y e hy he => ?_⟩, g5⟩
      · obtain ⟨x, hx, h1, _, _⟩ := get j y hy; rw [← h1]; exact g4.key j x e hx he
      · obtain ⟨x, hx, _, _, h3⟩ := get j y hy; exact h3.rep hB _ (g4.val j x e hx he)
      · obtain ⟨x, hx, _, h2, _⟩ := get j y hy; rw [← h2]; exact g4.born j x e hx he
    · obtain ⟨o, h1, h2⟩ := ih hm; exact ⟨o, List.mem_cons_of_mem _ h1, h2⟩

theorem R.clo {a : Act} {w : World} {E E' : Env} (h : R C st a w E) {B : V → V → Prop} {ob obj' : Objs} {loc' : List (Nat × V)} (hle : E.le E') (hh : Holds C E' ob w) (hB : ∀ x y, B x y → ∀ v, Rep E' x v → Rep E' y v) (hone : OneB B)
    (hl : CloL B loc' st.loc) (ho : CloO B ob obj') : R C ⟨loc', obj'⟩ a w E' := by
  refine ⟨⟨hh.le, hh.fr, hh.keep, hh.newI, hh.newJ, ?_, hh.imm, hh.imj, ?_, ?_, ?_, ?_⟩, ?_, fun g x hx => (h.glob g x hx).mono hle, h.size, h.defers⟩
  · intro i o1 h1
    obtain ⟨o, h2, _⟩ := ho.objs (w := w) hB hone h1
    exact hh.own i o h2
  · intro i o1 h1
    obtain ⟨o, h2, h3⟩ := ho.objs (w := w) hB hone h1
    obtain ⟨l1, h4, h5⟩ := hh.objs i o h2
    exact ⟨l1, h4, h3 _ h5⟩
  · show (obj'.map (·.1)).Nodup
    rw [ho.names]; exact hh.nod
  · intro i o1 l1 b h1
    obtain ⟨o, h2, _⟩ := ho.objs (w := w) hB hone h1
    exact hh.mine i o l1 b h2
  · intro i o1 i' o2 l1 l2 b h1 h2
    obtain ⟨o, h3, _⟩ := ho.objs (w := w) hB hone h1
    obtain ⟨o', h4, _⟩ := ho.objs (w := w) hB hone h2
    exact hh.inj i o i' o' l1 l2 b h3 h4
  · intro t y hy
    obtain ⟨x, hx, hf⟩ := hl.lookup hy
    obtain ⟨v, h1, h2⟩ := h.loc t x hx
    exact ⟨v, h1, hf.rep hB v (h2.mono hle)⟩

/-- What is known of a frozen row's memory. -/
def FrzK (E' : Env) (l : Loc) (s : Nat) (elems : List V) : Prop :=
  (l.blk = none ∧ elems = []) ∨ ∃ (b : Nat) (val : Nat → Nat → Value), l.blk = some b ∧ (∀ (j : Nat) (d : V), elems[j]? = some d → d.cells.length = s) ∧
        (∀ (j c : Nat) (d x : V), elems[j]? = some d → d.cells[c]? = some x → E'.I b (l.base + j * s + c) = some (val j c)) ∧
        (∀ (j c : Nat) (d x : V), elems[j]? = some d → d.cells[c]? = some x → Rep E' x (val j c))

theorem FrzK.mono {E E' : Env} (hE : E.le E') {l : Loc} {s : Nat} {elems : List V} (h : FrzK E l s elems) : FrzK E' l s elems := by
  rcases h with h | ⟨b, val, h1, h2, h3, h4⟩
  · exact .inl h
  · exact .inr ⟨b, val, h1, h2, fun j c d x hd hx => hE.I _ _ _ (h3 j c d x hd hx), fun j c d x hd hx => (h4 j c d x hd hx).mono hE⟩

theorem FrzB.key {E' : Env} {id ver s : Nat} {elems : List V} {l : Loc} (hl0 : E'.m id = some l) (hver : l.ver = ver) (hs : l.s = s) (hcase : FrzK E' l s elems) : ∀ x y, FrzB id ver s elems x y → ∀ v, Rep E' x v → Rep E' y v := by
  intro x y hf v hv
  cases hf with
  | osl off len hfit =>
    cases hv with
    | osl _ _ _ _ l' v hm' hv' h1 h =>
      rw [hl0] at hm'; cases hm'
      rcases h hver.symm with ⟨_, rfl, rfl⟩ | ⟨b, o, cap, hb, rfl, hlc, hcm, hc⟩
      · simpa using Rep.slnil (E := E') s
      · have hlen : ((elems.drop off).take len).length = len := by simp; omega
        rcases hcase with ⟨hn, _⟩ | ⟨b', val, hb', hd, hI, hr⟩
        · rw [hb] at hn; cases hn
        rw [hb] at hb'; cases hb'
        have hgen : ∀ base, (len = 0 ∨ base = l.base + off * s) → Rep E' (.sl s ((elems.drop off).take len)) (.slice (some ⟨b, base, none⟩) ((elems.drop off).take len).length cap) := by
          intro base hbase
          refine .sl s _ b base cap (fun j c => val (off + j) c) (by rw [hlen]; exact hlc) hcm ?_ ?_ ?_
          · intro j d hj
            exact hd _ d (by rw [List.getElem?_take] at hj; split at hj <;> simp at hj; exact hj)
          · intro j c d x hj hx
            have hjl : j < len := by rw [List.getElem?_take] at hj; split at hj <;> simp_all
            rw [List.getElem?_take, if_pos hjl, List.getElem?_drop] at hj
            rcases hbase with hb0 | rfl
            · omega
            · have := hI (off + j) c d x hj hx
              rw [← this]; congr 1; rw [Nat.add_mul]; omega
          · intro j c d x hj hx
            have hjl : j < len := by rw [List.getElem?_take] at hj; split at hj <;> simp_all
            rw [List.getElem?_take, if_pos hjl, List.getElem?_drop] at hj
            exact hr (off + j) c d x hj hx
        have := hgen o (by
          rcases hc with hc | ⟨hc, _⟩
          · left; omega
          · right; rw [hc, hs])
        rwa [hlen] at this
  | own i c hi =>
    cases hv with
    | own _ _ _ _ l' v hm' hv' h1 h =>
      rw [hl0] at hm'; cases hm'
      obtain ⟨b, hb, rfl⟩ := h hver.symm
      rcases hcase with ⟨hn, _⟩ | ⟨b', val, hb', hd, hI, hr⟩
      · rw [hb] at hn; cases hn
      rw [hb] at hb'; cases hb'
      rw [hs]
      exact .ref s elems i c b l.base val hd hI hr

/-- An owned row is frozen: it is read as a list from here on. -/
theorem R.freeze {a : Act} {w : World} {E : Env} (h : R C st a w E) {k id ver s : Nat} {e : TypeId} {elems : List V} {loc' : List (Nat × V)} {obj' : Objs} (hk : st.obj[k]? = some (id, .row ver s e elems))
    (hl : CloL (FrzB id ver s elems) loc' st.loc) (ho : CloO (FrzB id ver s elems) (st.obj.eraseIdx k) obj') : ∃ E', R C ⟨loc', obj'⟩ a w E' := by
  obtain ⟨E', hle, hm, hh, l, hl0, hver, hs, hcase⟩ := h.holds.freeze hk
  exact ⟨E', h.clo hle hh (FrzB.key (by rw [hm]; exact hl0) hver hs hcase) FrzB.one hl ho⟩

/-- An owned map is frozen. -/
theorem R.freezeMap {a : Act} {w : World} {E : Env} (h : R C st a w E) {k id ver clock : Nat} {ents : List (V × V × Nat)} {loc' : List (Nat × V)} {obj' : Objs} (hk : st.obj[k]? = some (id, .map ver ents clock))
    (hl : CloL (FrzM id ver ents clock) loc' st.loc) (ho : CloO (FrzM id ver ents clock) (st.obj.eraseIdx k) obj') : ∃ E', R C ⟨loc', obj'⟩ a w E' := by
  obtain ⟨E', l, b, es, hle, hm, hh, hl0, hver, hb, hJ, hr, hs, hn⟩ := h.holds.freezeMap hk
  refine ⟨E', h.clo hle hh ?_ FrzM.one hl ho⟩
  intro x y hf v hv
  cases hf
  cases hv with
  | omap _ _ l' v hm' hv' h1 h =>
    rw [hm, hl0] at hm'; cases hm'
    obtain ⟨b', hb', rfl⟩ := h hver.symm
    rw [hb] at hb'; cases hb'
    exact .imap ents clock b es hJ hr.len hr.key hr.val hr.born hs hn

theorem Sat.freezeMap {c : Code} {k id ver clock : Nat} {ents : List (V × V × Nat)} {loc' : List (Nat × V)} {obj' : Objs} (hk : st.obj[k]? = some (id, .map ver ents clock))
    (hl : CloL (FrzM id ver ents clock) loc' st.loc) (ho : CloO (FrzM id ver ents clock) (st.obj.eraseIdx k) obj') (h : Sat P C c ⟨loc', obj'⟩ Q) : Sat P C c st Q := by
  intro a w E hR
  obtain ⟨E', hR'⟩ := hR.freezeMap hk hl ho
  exact h a w E' hR'

theorem Sat.freeze {c : Code} {k id ver s : Nat} {e : TypeId} {elems : List V} {loc' : List (Nat × V)} {obj' : Objs} (hk : st.obj[k]? = some (id, .row ver s e elems))
    (hl : CloL (FrzB id ver s elems) loc' st.loc) (ho : CloO (FrzB id ver s elems) (st.obj.eraseIdx k) obj') (h : Sat P C c ⟨loc', obj'⟩ Q) : Sat P C c st Q := by
  intro a w E hR
  obtain ⟨E', hR'⟩ := hR.freeze hk hl ho
  exact h a w E' hR'

theorem OpsS.freeze {k id ver s : Nat} {e : TypeId} {elems : List V} {loc' : List (Nat × V)} {obj' : Objs} (hk : st.obj[k]? = some (id, .row ver s e elems))
    (hl : CloL (FrzB id ver s elems) loc' st.loc) (ho : CloO (FrzB id ver s elems) (st.obj.eraseIdx k) obj') (h : OpsS P C ops l ⟨loc', obj'⟩ Q) : OpsS P C ops l st Q := by
  intro hd a w E hR
  obtain ⟨E', hR'⟩ := hR.freeze hk hl ho
  exact h hd a w E' hR'

theorem OpsS.weak (loc' : List (Nat × V)) (hs : Sub loc' st.loc) (h : OpsS P C ops l ⟨loc', st.obj⟩ Q) : OpsS P C ops l st Q :=
  fun hd a w E hR => h hd a w E (hR.sub hs)

/-- Objects are let go. -/
theorem Sat.letgo {c : Code} (obj' : Objs) (hs : obj'.Sublist st.obj) (h : Sat P C c ⟨st.loc, obj'⟩ Q) : Sat P C c st Q :=
  fun a w E hR => h a w E ⟨hR.holds.drop hs, hR.loc, hR.glob, hR.size, hR.defers⟩

/-- A nil slice becomes an empty row of the call's own. -/
theorem Sat.adopt {c : Code} (t s : Nat) (e : TypeId) (ht : st.loc.lookup t = some .nilsl) (h : ∀ q, Sat P C c ⟨(t, .osl q 0 0 0) :: st.loc, st.obj ++ [(q, .row 0 s e [])]⟩ Q) : Sat P C c st Q := by
  intro a w E hR
  have hle : E.le (E.setm E.n ⟨none, 0, 0, 0, s⟩) := Env.le_setm fun l1 h1 => by rw [E.fresh _ (Nat.le_refl _)] at h1; cases h1
  have hh := hR.holds.new (o' := .row 0 s e []) (l' := ⟨none, 0, 0, 0, s⟩) (w' := w) (.inl rfl) ⟨rfl, rfl, rfl, Nat.le_refl _, fun _ _ _ => rfl⟩ ⟨rfl, rfl, .inl ⟨rfl, rfl⟩⟩
  refine h E.n a w _ ⟨hh, fun t' x hx => ?_, fun g x hx => (hR.glob g x hx).mono hle, hR.size, hR.defers⟩
  rw [List.lookup_cons] at hx
  split at hx
  · rename_i he
    have : t' = t := by simpa using he
    subst this
    simp only [Option.some.injEq] at hx
    subst hx
    obtain ⟨v, h1, h2⟩ := hR.loc t' _ ht
    cases h2
    exact ⟨_, h1, .osl _ _ _ _ _ _ (E.setm_same _ _) (Nat.le_refl _) rfl fun _ => .inl ⟨rfl, rfl, rfl⟩⟩
  · obtain ⟨v, h1, h2⟩ := hR.loc t' x hx
    exact ⟨v, h1, h2.mono hle⟩

end
end Go.Vc
