/-
  Objects that are owned: what a step does to them.
-/
import Derived.Test.YtkemjljbmdakbaaDoorVcOps
namespace Go.Vc

theorem ObjRel.mono {E E' : Env} {w w' : World} {l : Loc} {o : AObj} (h : ObjRel E w l o) (hE : E.le E') (hw : ∀ b, l.blk = some b → w'.heap[b]? = w.heap[b]?) : ObjRel E' w' l o := by
  cases o with
  | row ver s e elems =>
    obtain ⟨h1, h2, h3⟩ := h
    refine ⟨h1, h2, ?_⟩
    rcases h3 with h3 | ⟨b, cur, hb, hc, hz, hf, h1c, hd, hr⟩
    · exact .inl h3
    · refine .inr ⟨b, cur, hb, (hw b hb).trans hc, hz, hf, h1c, hd, fun j c d x hj hx => ?_⟩
      obtain ⟨v, hv, hrv⟩ := hr j c d x hj hx
      exact ⟨v, hv, hrv.mono hE⟩
  | map ver ents clock =>
    obtain ⟨h1, b, es, hb, hc, hr, hs⟩ := h
    exact ⟨h1, b, es, hb, (hw b hb).trans hc, hr.mono hE, hs⟩
  | iter ents clock seen =>
    obtain ⟨h1, b, r, es, hb, hc, hJ, hr, hs⟩ := h
    exact ⟨h1, b, r, es, hb, (hw b hb).trans hc, hE.J _ _ hJ, hr.mono hE, hs⟩
  | res s => exact h

def Env.setm (E : Env) (id : Nat) (l : Loc) : Env :=
  { E with
    m := fun i => if i = id then some l else E.m i
    n := max E.n (id + 1)
    fresh := fun i hi => by
      rw [if_neg (by omega)]
      exact E.fresh i (by omega) }

theorem Env.setm_same (E : Env) (id : Nat) (l : Loc) : (E.setm id l).m id = some l := by simp [Env.setm]
theorem Env.setm_other (E : Env) {id i : Nat} (l : Loc) (h : i ≠ id) : (E.setm id l).m i = E.m i := by simp [Env.setm, h]

theorem Env.le_setm {E : Env} {id : Nat} {l' : Loc} (h : ∀ l, E.m id = some l → l.s = l'.s ∧ l.ver ≤ l'.ver ∧ (l.ver = l'.ver → l = l')) : E.le (E.setm id l') := by
  refine ⟨fun _ _ _ h => h, fun _ _ h => h, fun i l hi => ?_⟩
  by_cases he : i = id
  · subst he
    exact ⟨l', E.setm_same _ _, h l hi⟩
  · exact ⟨l, (E.setm_other l' he).trans hi, rfl, Nat.le_refl _, fun _ => rfl⟩

section
variable {C : Ctx} {E : Env} {obj : Objs} {w w' : World}

theorem Holds.imm_lt (h : Holds C E obj w) {b o : Nat} {v : Value} (hi : E.I b o = some v) : b < w.heap.size := World.block_lt_of_cell? w _ (h.imm b o v hi)

theorem ObjRel.blk_lt {l : Loc} {o : AObj} (h : ObjRel E w l o) {b : Nat} (hb : l.blk = some b) : b < w.heap.size := by
  cases o with
  | row ver s e elems =>
    obtain ⟨_, _, h3⟩ := h
    rcases h3 with ⟨h3, _⟩ | ⟨b', cur, hb', hc, _⟩
    · rw [hb] at h3; cases h3
    · rw [hb] at hb'; cases hb'
      exact (Array.getElem?_eq_some_iff.1 hc).1
  | map ver ents clock =>
    obtain ⟨_, b', es, hb', hc, _⟩ := h
    rw [hb] at hb'; cases hb'
    exact (Array.getElem?_eq_some_iff.1 hc).1
  | iter ents clock seen =>
    obtain ⟨_, b', r, es, hb', hc, _⟩ := h
    rw [hb] at hb'; cases hb'
    exact (Array.getElem?_eq_some_iff.1 hc).1
  | res s =>
    obtain ⟨_, _, h3⟩ := h
    rw [hb] at h3; cases h3

theorem mem_set {α : Type} {l : List α} {k : Nat} {x y : α} (h : y ∈ l.set k x) : y = x ∨ ∃ j, j ≠ k ∧ l[j]? = some y := by
  obtain ⟨j, hj⟩ := List.mem_iff_getElem?.1 h
  rw [List.getElem?_set] at hj
  split at hj
  · split at hj
    · left; simpa using hj.symm
    · simp at hj
  · rename_i hne
    exact .inr ⟨j, fun e => hne e.symm, hj⟩

theorem nodup_idx {l : Objs} (h : (l.map (·.1)).Nodup) {i j : Nat} {p q : Nat × AObj} (hi : l[i]? = some p) (hj : l[j]? = some q) (he : p.1 = q.1) : i = j := by
  have hi' : (l.map (·.1))[i]? = some p.1 := by simp [hi]
  have hj' : (l.map (·.1))[j]? = some p.1 := by simp [hj, he]
  have h1 := (List.getElem?_eq_some_iff.1 hi').1
  exact (List.getElem?_inj h1 h).1 (hi'.trans hj'.symm)

/-- One owned object is changed; it may have moved to a new block. -/
theorem Holds.upd (h : Holds C E obj w) {k id : Nat} {o o' : AObj} {l l' : Loc} (hk : obj[k]? = some (id, o)) (hl : E.m id = some l)
    (hs : l.s = l'.s) (hv : l.ver ≤ l'.ver) (he : l.ver = l'.ver → l = l') (hb : l'.blk = l.blk ∨ ∃ b, l'.blk = some b ∧ w.heap.size ≤ b)
    (hg : w.grownBy w' l.blk) (ho : ObjRel (E.setm id l') w' l' o') : Holds C (E.setm id l') (obj.set k (id, o')) w' := by
  have hmem := List.mem_of_getElem? hk
  have hle : E.le (E.setm id l') := Env.le_setm fun l1 h1 => by rw [hl] at h1; cases h1; exact ⟨hs, hv, he⟩
  have hmine : ∀ b, l.blk = some b → (C.w0.heap.size ≤ b ∨ C.pb b) ∧ (∀ k, E.I b k = none) ∧ E.J b = none := fun b hb => h.mine id o l b hmem hl hb

  have hoth : ∀ j p, j ≠ k → obj[j]? = some p → p.1 ≠ id := fun j p hj hp e => hj (nodup_idx h.nod hp hk e)
  have hblk : ∀ j p l1 b, j ≠ k → obj[j]? = some p → E.m p.1 = some l1 → l1.blk = some b → some b ≠ l.blk := by
    intro j p l1 b hj hp hm hb1 e
    exact hoth j p hj hp (h.inj p.1 p.2 id o l1 l b (List.mem_of_getElem? hp) hmem hm hl hb1 e.symm)
  refine ⟨h.le.trans hle, ?_, ?_, h.newI, h.newJ, ?_, ?_, ?_, ?_, ?_, ?_, ?_⟩
  · refine ⟨hg.os.trans h.fr.os, hg.tape.trans h.fr.tape, hg.output.trans h.fr.output, Nat.le_trans h.fr.size hg.size, fun i hi hp => ?_⟩
    rw [hg.block i (Nat.lt_of_lt_of_le hi h.fr.size) (fun e => by
      rcases (hmine i e.symm).1 with h1 | h1
      · omega
      · exact hp h1)]
    exact h.fr.block i hi hp
  · intro i l1 h1 h2
    rw [E.setm_other l' (fun e => by
      subst e
      rcases h.own _ _ hmem with h3 | h3
      · exact h2 h3
      · rw [h1] at h3; cases h3)]
    exact h.keep i l1 h1 h2
  · intro i o1 h1
    rcases mem_set h1 with h1 | ⟨j, hj, h1⟩
    · cases h1; exact h.own id o hmem
    · exact h.own i o1 (List.mem_of_getElem? h1)
  · intro b o1 v h1
    rw [World.cell?_of_block (w := w) (hg.block b (h.imm_lt h1) (fun e => by have := (hmine b e.symm).2.1 o1; change E.I b o1 = some v at h1; rw [h1] at this; cases this))]
    exact h.imm b o1 v h1
  · intro b es clock h1
    have h2 := h.imj b es clock h1
    rw [hg.block b (Array.getElem?_eq_some_iff.1 h2).1 (fun e => by have := (hmine b e.symm).2.2; change E.J b = _ at h1; rw [h1] at this; cases this)]
    exact h2
  · intro i o1 h1
    rcases mem_set h1 with h1 | ⟨j, hj, h1⟩
    · cases h1; exact ⟨l', E.setm_same _ _, ho⟩
    · obtain ⟨l1, hl1, hr1⟩ := h.objs i o1 (List.mem_of_getElem? h1)
      refine ⟨l1, (E.setm_other l' (hoth j _ hj h1)).trans hl1, hr1.mono hle fun b hb1 => hg.block b (hr1.blk_lt hb1) (hblk j _ l1 b hj h1 hl1 hb1)⟩
  · have : (obj.set k (id, o')).map (·.1) = obj.map (·.1) := by
      rw [List.map_set]
      apply List.ext_getElem?
      intro j
      rw [List.getElem?_set]
      split
      · rename_i e
        subst e
        simp only [List.length_map, List.getElem?_map, hk, Option.map_some]
        rw [if_pos (List.getElem?_eq_some_iff.1 hk).1]
      · rfl
    rw [this]; exact h.nod
  · intro i o1 l1 b h1 h2 h3
    rcases mem_set h1 with h1 | ⟨j, hj, h1⟩
    · cases h1
      rw [E.setm_same] at h2; cases h2
      rcases hb with hb | ⟨b1, hb, hb1⟩
      · exact hmine b (hb ▸ h3)
      · rw [h3] at hb; cases hb
        refine ⟨.inl (Nat.le_trans h.fr.size hb1), fun k1 => ?_, ?_⟩
        · cases hI : E.I b k1 with
          | none => exact hI
          | some v => have := h.imm_lt hI; omega
        · cases hJ : E.J b with
          | none => exact hJ
          | some v => obtain ⟨es, clock⟩ := v; have := (Array.getElem?_eq_some_iff.1 (h.imj b es clock hJ)).1; omega
    · rw [E.setm_other l' (hoth j _ hj h1)] at h2
      exact h.mine i o1 l1 b (List.mem_of_getElem? h1) h2 h3
  · intro i o1 i' o2 l1 l2 b h1 h2 h3 h4 h5 h6
    rcases mem_set h1 with h1 | ⟨j, hj, h1⟩ <;> rcases mem_set h2 with h2 | ⟨j', hj', h2⟩
    · cases h1; cases h2; rfl
    · cases h1
      exfalso
      rw [E.setm_same] at h3; cases h3
      rw [E.setm_other l' (hoth j' _ hj' h2)] at h4
      rcases hb with hb | ⟨b1, hb, hb1⟩
      · exact hblk j' _ l2 b hj' h2 h4 h6 (by rw [← hb, h5])
      · rw [h5] at hb; cases hb
        obtain ⟨l3, hl3, hr3⟩ := h.objs i' o2 (List.mem_of_getElem? h2)
        rw [h4] at hl3; cases hl3
        have := hr3.blk_lt h6; omega
    · cases h2
      exfalso
      rw [E.setm_same] at h4; cases h4
      rw [E.setm_other l' (hoth j _ hj h1)] at h3
      rcases hb with hb | ⟨b1, hb, hb1⟩
      · exact hblk j _ l1 b hj h1 h3 h5 (by rw [← hb, h6])
      · rw [h6] at hb; cases hb
        obtain ⟨l3, hl3, hr3⟩ := h.objs i o1 (List.mem_of_getElem? h1)
        rw [h3] at hl3; cases hl3
        have := hr3.blk_lt h5; omega
    · rw [E.setm_other l' (hoth j _ hj h1)] at h3
      rw [E.setm_other l' (hoth j' _ hj' h2)] at h4
      exact h.inj i o1 i' o2 l1 l2 b (List.mem_of_getElem? h1) (List.mem_of_getElem? h2) h3 h4 h5 h6

/-- A new object. -/
theorem Holds.new (h : Holds C E obj w) {o' : AObj} {l' : Loc} (hb : l'.blk = none ∨ ∃ b, l'.blk = some b ∧ w.heap.size ≤ b)
    (hg : w.grownBy w' none) (ho : ObjRel (E.setm E.n l') w' l' o') : Holds C (E.setm E.n l') (obj ++ [(E.n, o')]) w' := by
  have hf : E.m E.n = none := E.fresh _ (Nat.le_refl _)
  have hle : E.le (E.setm E.n l') := Env.le_setm fun l1 h1 => by rw [hf] at h1; cases h1
  have hne : ∀ i o1, (i, o1) ∈ obj → i ≠ E.n := fun i o1 h1 e => by
    obtain ⟨l1, h2, _⟩ := h.objs i o1 h1
    rw [e, hf] at h2; cases h2
  refine ⟨h.le.trans hle, ?_, ?_, h.newI, h.newJ, ?_, ?_, ?_, ?_, ?_, ?_, ?_⟩
  · exact ⟨hg.os.trans h.fr.os, hg.tape.trans h.fr.tape, hg.output.trans h.fr.output, Nat.le_trans h.fr.size hg.size, fun i hi hp => by
      rw [hg.block i (Nat.lt_of_lt_of_le hi h.fr.size) (by simp)]; exact h.fr.block i hi hp⟩
  · intro i l1 h1 h2
    have h3 := h.keep i l1 h1 h2
    rw [E.setm_other l' (fun e => by rw [e, hf] at h3; cases h3)]
    exact h3
  · intro i o1 h1
    rcases List.mem_append.1 h1 with h1 | h1
    · exact h.own i o1 h1
    · simp only [List.mem_singleton, Prod.mk.injEq] at h1
      obtain ⟨rfl, rfl⟩ := h1
      cases h0 : C.E0.m E.n with
      | none => exact .inr rfl
      | some l0 =>
        obtain ⟨l1, h1, _⟩ := h.le.m _ _ h0
        rw [hf] at h1; cases h1
  · intro b o1 v h1
    rw [World.cell?_of_block (w := w) (hg.block b (h.imm_lt h1) (by simp))]
    exact h.imm b o1 v h1
  · intro b es clock h1
    have h2 := h.imj b es clock h1
    rw [hg.block b (Array.getElem?_eq_some_iff.1 h2).1 (by simp)]
    exact h2
  · intro i o1 h1
    rcases List.mem_append.1 h1 with h1 | h1
    · obtain ⟨l1, hl1, hr1⟩ := h.objs i o1 h1
      exact ⟨l1, (E.setm_other l' (hne i o1 h1)).trans hl1, hr1.mono hle fun b hb1 => hg.block b (hr1.blk_lt hb1) (by simp)⟩
    · simp only [List.mem_singleton, Prod.mk.injEq] at h1
      obtain ⟨rfl, rfl⟩ := h1
      exact ⟨l', E.setm_same _ _, ho⟩
  · rw [List.map_append, List.nodup_append]
    refine ⟨h.nod, by simp, fun a ha b hb e => ?_⟩
    simp only [List.map_cons, List.map_nil, List.mem_singleton] at hb
    simp only [List.mem_map] at ha
    obtain ⟨p, hp, hpa⟩ := ha
    exact hne p.1 p.2 hp (by rw [hpa, e, hb])
  · intro i o1 l1 b h1 h2 h3
    rcases List.mem_append.1 h1 with h1 | h1
    · rw [E.setm_other l' (hne i o1 h1)] at h2
      exact h.mine i o1 l1 b h1 h2 h3
    · simp only [List.mem_singleton, Prod.mk.injEq] at h1
      obtain ⟨rfl, rfl⟩ := h1
      rw [E.setm_same] at h2; cases h2
      rcases hb with hb | ⟨b1, hb, hb1⟩
      · rw [h3] at hb; cases hb
      · rw [h3] at hb; cases hb
        refine ⟨.inl (Nat.le_trans h.fr.size hb1), fun k1 => ?_, ?_⟩
        · cases hI : E.I b k1 with
          | none => exact hI
          | some v => have := h.imm_lt hI; omega
        · cases hJ : E.J b with
          | none => exact hJ
          | some v => obtain ⟨es, clock⟩ := v; have := (Array.getElem?_eq_some_iff.1 (h.imj b es clock hJ)).1; omega
  · intro i o1 i' o2 l1 l2 b h1 h2 h3 h4 h5 h6
    rcases List.mem_append.1 h1 with g1 | g1 <;> rcases List.mem_append.1 h2 with g2 | g2 <;> clear h1 h2
    · rw [E.setm_other l' (hne i o1 g1)] at h3
      rw [E.setm_other l' (hne i' o2 g2)] at h4
      exact h.inj i o1 i' o2 l1 l2 b g1 g2 h3 h4 h5 h6
    · simp only [List.mem_singleton, Prod.mk.injEq] at g2
      obtain ⟨rfl, rfl⟩ := g2
      exfalso
      rw [E.setm_other l' (hne i o1 g1)] at h3
      rw [E.setm_same] at h4; cases h4
      obtain ⟨l3, hl3, hr3⟩ := h.objs i o1 g1
      rw [h3] at hl3; cases hl3
      have := hr3.blk_lt h5
      rcases hb with hb | ⟨b1, hb, hb1⟩ <;> rw [h6] at hb <;> cases hb
      omega
    · simp only [List.mem_singleton, Prod.mk.injEq] at g1
      obtain ⟨rfl, rfl⟩ := g1
      exfalso
      rw [E.setm_other l' (hne i' o2 g2)] at h4
      rw [E.setm_same] at h3; cases h3
      obtain ⟨l3, hl3, hr3⟩ := h.objs i' o2 g2
      rw [h4] at hl3; cases hl3
      have := hr3.blk_lt h6
      rcases hb with hb | ⟨b1, hb, hb1⟩ <;> rw [h5] at hb <;> cases hb
      omega
    · simp only [List.mem_singleton, Prod.mk.injEq] at g1 g2
      rw [g1.1, g2.1]

/-- New memory that no object holds; nothing is known of it. -/
theorem Holds.grown (h : Holds C E obj w) (hg : w.grownBy w' none) : Holds C E obj w' := by
  refine ⟨h.le, ?_, h.keep, h.newI, h.newJ, h.own, ?_, ?_, ?_, h.nod, h.mine, h.inj⟩
  · exact ⟨hg.os.trans h.fr.os, hg.tape.trans h.fr.tape, hg.output.trans h.fr.output, Nat.le_trans h.fr.size hg.size, fun i hi hp => by
      rw [hg.block i (Nat.lt_of_lt_of_le hi h.fr.size) (by simp)]; exact h.fr.block i hi hp⟩
  · intro b o1 v h1
    rw [World.cell?_of_block (w := w) (hg.block b (h.imm_lt h1) (by simp))]
    exact h.imm b o1 v h1
  · intro b es clock h1
    have h2 := h.imj b es clock h1
    rw [hg.block b (Array.getElem?_eq_some_iff.1 h2).1 (by simp)]
    exact h2
  · intro i o1 h1
    obtain ⟨l1, hl1, hr1⟩ := h.objs i o1 h1
    exact ⟨l1, hl1, hr1.mono (Env.le.refl E) fun b hb1 => hg.block b (hr1.blk_lt hb1) (by simp)⟩

/-- A block is said to stay as it is. -/
def Env.addI (E : Env) (b : Nat) (cur : Array Value) (h1 : ∀ (j : Nat) (v : Value), cur[j]? = some v → v.oneCell' = true) : Env :=
  { E with
    I := fun b' o => if b' = b then cur[o]? else E.I b' o
    one := fun b' o v hv => by
      split at hv
      · exact h1 o v hv
      · exact E.one b' o v hv }

/-- New memory of known cells that will never be written. -/
theorem Holds.newImm (h : Holds C E obj w) {b : Nat} {cur : Array Value} {e : TypeId} {f : Nat × Nat} (h1 : ∀ (j : Nat) (v : Value), cur[j]? = some v → v.oneCell' = true)
    (hg : w.grownBy w' none) (hb : w.heap.size ≤ b) (hc : w'.heap[b]? = some (.cells cur e f)) : Holds C (E.addI b cur h1) obj w' ∧ E.le (E.addI b cur h1) := by
  have hg' := h.grown hg
  have hno : ∀ k, E.I b k = none := fun k => by
    cases hI : E.I b k with
    | none => rfl
    | some v => have := h.imm_lt hI; omega
  have hle : E.le (E.addI b cur h1) := by
    refine ⟨fun b' o v hv => ?_, fun _ _ h => h, fun i l hi => ⟨l, hi, rfl, Nat.le_refl _, fun _ => rfl⟩⟩
    simp only [Env.addI]
    rw [if_neg (fun e => by rw [e, hno] at hv; cases hv)]
    exact hv
  refine ⟨⟨h.le.trans hle, hg'.fr, hg'.keep, ?_, hg'.newJ, hg'.own, ?_, hg'.imj, ?_, hg'.nod, ?_, hg'.inj⟩, hle⟩
  · intro b' o v hv
    simp only [Env.addI] at hv
    split at hv
    · rename_i he; subst he; exact .inr (.inl (Nat.le_trans h.fr.size hb))
    · exact hg'.newI b' o v hv
  · intro b' o v hv
    simp only [Env.addI] at hv
    split at hv
    · rename_i he
      subst he
      simp [World.cell?, hc, hv]
    · exact hg'.imm b' o v hv
  · intro i o1 h2
    obtain ⟨l1, hl1, hr1⟩ := hg'.objs i o1 h2
    exact ⟨l1, hl1, hr1.mono hle fun _ _ => rfl⟩
  · intro i o1 l1 b' h2 h3 h4
    obtain ⟨m1, m2, m3⟩ := h.mine i o1 l1 b' h2 h3 h4
    refine ⟨m1, fun k => ?_, m3⟩
    simp only [Env.addI]
    rw [if_neg]
    · exact m2 k
    · intro e
      subst e
      obtain ⟨l3, hl3, hr3⟩ := h.objs i o1 h2
      rw [show E.m i = some l1 from h3] at hl3; cases hl3
      have := hr3.blk_lt h4; omega

/-- An owned row becomes memory that stays. -/
theorem Holds.freeze (h : Holds C E obj w) {k id ver s : Nat} {e : TypeId} {elems : List V} (hk : obj[k]? = some (id, .row ver s e elems)) :
    ∃ E', E.le E' ∧ E'.m = E.m ∧ Holds C E' (obj.eraseIdx k) w ∧ ∃ l, E.m id = some l ∧ l.ver = ver ∧ l.s = s ∧
      ((l.blk = none ∧ elems = []) ∨ ∃ (b : Nat) (val : Nat → Nat → Value), l.blk = some b ∧ (∀ (j : Nat) (d : V), elems[j]? = some d → d.cells.length = s) ∧
        (∀ (j c : Nat) (d x : V), elems[j]? = some d → d.cells[c]? = some x → E'.I b (l.base + j * s + c) = some (val j c)) ∧
        (∀ (j c : Nat) (d x : V), elems[j]? = some d → d.cells[c]? = some x → Rep E' x (val j c))) := by
  have hmem := List.mem_of_getElem? hk
  obtain ⟨l, hl, hv, hs, hrel⟩ := h.objs _ _ hmem
  have herase : ∀ p, p ∈ obj.eraseIdx k → ∃ j, j ≠ k ∧ obj[j]? = some p := fun p hp => by
    obtain ⟨j, hj⟩ := List.mem_iff_getElem?.1 hp
    rw [List.getElem?_eraseIdx] at hj
    split at hj
    · exact ⟨j, by omega, hj⟩
    · exact ⟨j + 1, by omega, hj⟩
  have hmem' : ∀ p, p ∈ obj.eraseIdx k → p ∈ obj := fun p hp => by obtain ⟨j, _, hj⟩ := herase p hp; exact List.mem_of_getElem? hj
  have hnod : ((obj.eraseIdx k).map (·.1)).Nodup := by
    have : ((obj.eraseIdx k).map (·.1)).Sublist (obj.map (·.1)) := (List.eraseIdx_sublist obj k).map _
    exact this.nodup h.nod
  rcases hrel with ⟨hb, he⟩ | ⟨b, cur, hb, hc, hz, hf, h1, hd, hr⟩
  · exact ⟨E, Env.le.refl E, rfl, ⟨h.le, h.fr, h.keep, h.newI, h.newJ, fun i o1 h1 => h.own i o1 (hmem' _ h1), h.imm, h.imj, fun i o1 h1 => h.objs i o1 (hmem' _ h1), hnod,
      fun i o1 l1 b h1 => h.mine i o1 l1 b (hmem' _ h1), fun i o1 i' o2 l1 l2 b h1 h2 => h.inj i o1 i' o2 l1 l2 b (hmem' _ h1) (hmem' _ h2)⟩, l, hl, hv, hs, .inl ⟨hb, he⟩⟩
  · obtain ⟨hm1, hm2, hm3⟩ := h.mine id _ l b hmem hl hb
    have hle : E.le (E.addI b cur h1) := by
      refine ⟨fun b' o v hv => ?_, fun _ _ h => h, fun i l hi => ⟨l, hi, rfl, Nat.le_refl _, fun _ => rfl⟩⟩
      simp only [Env.addI]
      rw [if_neg (fun e => by rw [e, hm2] at hv; cases hv)]
      exact hv
    refine ⟨E.addI b cur h1, hle, rfl, ⟨h.le.trans hle, h.fr, h.keep, ?_, h.newJ, fun i o1 h1 => h.own i o1 (hmem' _ h1), ?_, h.imj, ?_, hnod, ?_,
      fun i o1 i' o2 l1 l2 b h1 h2 => h.inj i o1 i' o2 l1 l2 b (hmem' _ h1) (hmem' _ h2)⟩, l, hl, hv, hs, .inr ⟨b, fun j c => (cur[l.base + j * s + c]?).getD undef, hb, fun j d hj => by rw [← hs]; exact hd j d hj, ?_, ?_⟩⟩
    · intro b' o v hv
      simp only [Env.addI] at hv
      split at hv
      · rename_i he; subst he; exact .inr hm1
      · exact h.newI b' o v hv
    · intro b' o v hv
      simp only [Env.addI] at hv
      split at hv
      · rename_i he; subst he; simp [World.cell?, hc, hv]
      · exact h.imm b' o v hv
    · intro i o1 h2
      obtain ⟨l1, hl1, hr1⟩ := h.objs i o1 (hmem' _ h2)
      exact ⟨l1, hl1, hr1.mono hle fun _ _ => rfl⟩
    · intro i o1 l1 b' h2 h3 h4
      obtain ⟨m1, m2, m3⟩ := h.mine i o1 l1 b' (hmem' _ h2) h3 h4
      refine ⟨m1, fun k1 => ?_, m3⟩
      simp only [Env.addI]
      rw [if_neg]
      · exact m2 k1
      · intro e
        subst e
        obtain ⟨j, hj, hj2⟩ := herase _ h2
        have := h.inj i o1 id _ l1 l b' (hmem' _ h2) hmem h3 hl h4 hb
        exact hj (nodup_idx h.nod hj2 hk this)
    · intro j c d x hj hx
      obtain ⟨v, hv1, hv2⟩ := hr j c d x hj hx
      simp only [Env.addI, if_true, ← hs, hv1, Option.getD_some]
    · intro j c d x hj hx
      obtain ⟨v, hv1, hv2⟩ := hr j c d x hj hx
      dsimp only
      rw [← hs, hv1]
      exact hv2.mono hle

/-- The map's block is said to stay as it is. -/
def Env.addJ (E : Env) (b : Nat) (x : Array MapEntry × Nat) : Env := { E with J := fun b' => if b' = b then some x else E.J b' }

theorem Holds.freezeMap (h : Holds C E obj w) {k id ver clock : Nat} {ents : List (V × V × Nat)} (hk : obj[k]? = some (id, .map ver ents clock)) :
    ∃ E' l b es, E.le E' ∧ E'.m = E.m ∧ Holds C E' (obj.eraseIdx k) w ∧ E.m id = some l ∧ l.ver = ver ∧ l.blk = some b ∧ E'.J b = some (es, clock) ∧ EntRel E' ents es ∧ (∀ e ∈ es.toList, e.born < clock) ∧ (es.toList.map (·.born)).Nodup := by
  have hmem := List.mem_of_getElem? hk
  obtain ⟨l, hl, hv, b, es, hb, hc, hr, hst, hnb⟩ := h.objs _ _ hmem
  have herase : ∀ p, p ∈ obj.eraseIdx k → ∃ j, j ≠ k ∧ obj[j]? = some p := fun p hp => by
    obtain ⟨j, hj⟩ := List.mem_iff_getElem?.1 hp
    rw [List.getElem?_eraseIdx] at hj
    split at hj
    · exact ⟨j, by omega, hj⟩
    · exact ⟨j + 1, by omega, hj⟩
  have hmem' : ∀ p, p ∈ obj.eraseIdx k → p ∈ obj := fun p hp => by obtain ⟨j, _, hj⟩ := herase p hp; exact List.mem_of_getElem? hj
  have hnod : ((obj.eraseIdx k).map (·.1)).Nodup := by
    have : ((obj.eraseIdx k).map (·.1)).Sublist (obj.map (·.1)) := (List.eraseIdx_sublist obj k).map _
    exact this.nodup h.nod
  obtain ⟨hm1, hm2, hm3⟩ := h.mine id _ l b hmem hl hb
  have hle : E.le (E.addJ b (es, clock)) := by
    refine ⟨fun _ _ _ h => h, fun b' x hx => ?_, fun i l hi => ⟨l, hi, rfl, Nat.le_refl _, fun _ => rfl⟩⟩
    simp only [Env.addJ]
    rw [if_neg (fun e => by rw [e, hm3] at hx; cases hx)]
    exact hx
  refine ⟨E.addJ b (es, clock), l, b, es, hle, rfl, ⟨h.le.trans hle, h.fr, h.keep, h.newI, ?_, fun i o1 h1 => h.own i o1 (hmem' _ h1), h.imm, ?_, ?_, hnod, ?_,
      fun i o1 i' o2 l1 l2 b h1 h2 => h.inj i o1 i' o2 l1 l2 b (hmem' _ h1) (hmem' _ h2)⟩, hl, hv, hb, by simp [Env.addJ], hr.mono hle, hst, hnb⟩
  · intro b' x hx
    simp only [Env.addJ] at hx
    split at hx
    · rename_i he; subst he; exact .inr hm1
    · exact h.newJ b' x hx
  · intro b' es' clock' hx
    simp only [Env.addJ] at hx
    split at hx
    · rename_i he; subst he; cases hx; exact hc
    · exact h.imj b' es' clock' hx
  · intro i o1 h2
    obtain ⟨l1, hl1, hr1⟩ := h.objs i o1 (hmem' _ h2)
    exact ⟨l1, hl1, hr1.mono hle fun _ _ => rfl⟩
  · intro i o1 l1 b' h2 h3 h4
    obtain ⟨m1, m2, m3⟩ := h.mine i o1 l1 b' (hmem' _ h2) h3 h4
    refine ⟨m1, m2, ?_⟩
    simp only [Env.addJ]
    rw [if_neg]
    · exact m3
    · intro e
      subst e
      obtain ⟨j, hj, hj2⟩ := herase _ h2
      have := h.inj i o1 id _ l1 l b' (hmem' _ h2) hmem h3 hl h4 hb
      exact hj (nodup_idx h.nod hj2 hk this)

end
end Go.Vc
