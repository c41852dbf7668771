/-
  Abstract values, environments, the representation relation, states of a frame with the objects that it owns.
-/
import Derived.WalkKit
namespace Go.Vc

/-- Abstract values. Memory that is never written again is seen as lists; memory that may be written lies in named objects. -/
inductive V where
  | undef
  | bool (b : Bool)
  | int (k : IntKind) (n : Int)
  | str (l : List UInt8)
  | nilp | nilsl | nilmap | nilf | nili
  | ref (s : Nat) (row : List V) (i c : Nat)
  | sl (s : Nat) (row : List V)
  | own (id ver i c : Nat)
  | osl (id ver off len : Nat)
  | omap (id ver : Nat)
  | imap (ents : List (V × V × Nat)) (clock : Nat)
  | func (fn : Fn) (first caps : List V)
  | iface (t : TypeId) (v : V)
  | agg (cells : List V)
  | tuple (l : List V)
  deriving Inhabited

def V.cells : V → List V
  | .agg l => l
  | x => [x]

/-- The value takes one cell. -/
def V.one : V → Bool
  | .agg _ | .tuple _ | .undef => false
  | _ => true

structure Loc where
  blk : Option Nat
  base : Nat
  ver : Nat
  size : Nat
  s : Nat

structure Env where
  I : Nat → Nat → Option Value
  J : Nat → Option (Array MapEntry × Nat)
  m : Nat → Option Loc
  n : Nat
  fresh : ∀ id, n ≤ id → m id = none
  one : ∀ b o v, I b o = some v → v.oneCell' = true

/-- E' knows all that E knows; objects may have moved, with a new version. -/
structure Env.le (E E' : Env) : Prop where
  I : ∀ b o v, E.I b o = some v → E'.I b o = some v
  J : ∀ b x, E.J b = some x → E'.J b = some x
  m : ∀ id l, E.m id = some l → ∃ l', E'.m id = some l' ∧ l.s = l'.s ∧ l.ver ≤ l'.ver ∧ (l.ver = l'.ver → l = l')

theorem Env.le.refl (E : Env) : E.le E := ⟨fun _ _ _ h => h, fun _ _ h => h, fun _ l h => ⟨l, h, rfl, Nat.le_refl _, fun _ => rfl⟩⟩
theorem Env.le.trans {A B D : Env} (h : A.le B) (k : B.le D) : A.le D :=
  ⟨fun b o v x => k.I b o v (h.I b o v x), fun b x y => k.J b x (h.J b x y), fun id l hl => by
    obtain ⟨l1, h1, hs1, hv1, he1⟩ := h.m id l hl
    obtain ⟨l2, h2, hs2, hv2, he2⟩ := k.m id l1 h1
    refine ⟨l2, h2, hs1.trans hs2, Nat.le_trans hv1 hv2, fun e => ?_⟩
    have e1 : l.ver = l1.ver := by omega
    have := he1 e1; subst this
    exact he2 e⟩

/-- How values stand for abstract values. -/
inductive Rep (E : Env) : V → Value → Prop
  | undef (v : Value) : Rep E .undef v
  | bool (b : Bool) : Rep E (.bool b) (.bool b)
  | int (k : IntKind) (n : Int) : Rep E (.int k n) (.int k n)
  | str (l : List UInt8) : Rep E (.str l) (.string ⟨l.toArray⟩)
  | nilp : Rep E .nilp (.pointer none)
  | nilsl : Rep E .nilsl (.slice none 0 0)
  | nilmap : Rep E .nilmap (.map none)
  | nilf : Rep E .nilf .nilFunc
  | nili : Rep E .nili .nilIface
  | ref (s : Nat) (row : List V) (i c b base : Nat) (val : Nat → Nat → Value)
      (hs : ∀ (j : Nat) (d : V), row[j]? = some d → d.cells.length = s)
      (hI : ∀ (j c : Nat) (d x : V), row[j]? = some d → d.cells[c]? = some x → E.I b (base + j * s + c) = some (val j c))
      (hr : ∀ (j c : Nat) (d x : V), row[j]? = some d → d.cells[c]? = some x → Rep E x (val j c)) :
      Rep E (.ref s row i c) (.pointer (some ⟨b, base + i * s + c, none⟩))
  | slnil (s : Nat) : Rep E (.sl s []) (.slice none 0 0)
  | slemp (s : Nat) (a : Addr) : Rep E (.sl s []) (.slice (some a) 0 0)
  | sl (s : Nat) (row : List V) (b base cap : Nat) (val : Nat → Nat → Value) (hcap : row.length ≤ cap) (hmax : cap ≤ maxLen)
      (hs : ∀ (j : Nat) (d : V), row[j]? = some d → d.cells.length = s)
      (hI : ∀ (j c : Nat) (d x : V), row[j]? = some d → d.cells[c]? = some x → E.I b (base + j * s + c) = some (val j c))
      (hr : ∀ (j c : Nat) (d x : V), row[j]? = some d → d.cells[c]? = some x → Rep E x (val j c)) :
      Rep E (.sl s row) (.slice (some ⟨b, base, none⟩) row.length cap)
  | own (id ver i c : Nat) (l : Loc) (v : Value) (hm : E.m id = some l) (hv : ver ≤ l.ver) (h1 : v.oneCell' = true)
      (h : ver = l.ver → ∃ b, l.blk = some b ∧ v = .pointer (some ⟨b, l.base + i * l.s + c, none⟩)) : Rep E (.own id ver i c) v
  | osl (id ver off len : Nat) (l : Loc) (v : Value) (hm : E.m id = some l) (hv : ver ≤ l.ver) (h1 : v.oneCell' = true)
      (h : ver = l.ver → (l.blk = none ∧ len = 0 ∧ v = .slice none 0 0) ∨
        ∃ b o cap, l.blk = some b ∧ v = .slice (some ⟨b, o, none⟩) len cap ∧ len ≤ cap ∧ cap ≤ maxLen ∧ (cap = 0 ∨ (o = l.base + off * l.s ∧ l.base + (off + cap) * l.s ≤ l.size))) :
      Rep E (.osl id ver off len) v
  | omap (id ver : Nat) (l : Loc) (v : Value) (hm : E.m id = some l) (hv : ver ≤ l.ver) (h1 : v.oneCell' = true)
      (h : ver = l.ver → ∃ b, l.blk = some b ∧ v = .map (some b)) : Rep E (.omap id ver) v
  | imap (ents : List (V × V × Nat)) (clock b : Nat) (es : Array MapEntry) (hJ : E.J b = some (es, clock)) (hl : ents.length = es.size)
      (hk : ∀ (i : Nat) (x : V × V × Nat) (e : MapEntry), ents[i]? = some x → es[i]? = some e → Rep E x.1 e.key)
      (hv : ∀ (i : Nat) (x : V × V × Nat) (e : MapEntry), ents[i]? = some x → es[i]? = some e → Rep E x.2.1 e.val)
      (hb : ∀ (i : Nat) (x : V × V × Nat) (e : MapEntry), ents[i]? = some x → es[i]? = some e → x.2.2 = e.born)
      (hs : ∀ e ∈ es.toList, e.born < clock) (hn : (es.toList.map (·.born)).Nodup) : Rep E (.imap ents clock) (.map (some b))
  | func (fn : Fn) (xs ys : List V) (us vs : List Value) (hl : xs.length = us.length) (hl' : ys.length = vs.length)
      (h : ∀ (i : Nat) (x : V) (v : Value), xs[i]? = some x → us[i]? = some v → Rep E x v)
      (h' : ∀ (i : Nat) (x : V) (v : Value), ys[i]? = some x → vs[i]? = some v → Rep E x v) : Rep E (.func fn xs ys) (.func fn us.toArray vs.toArray)
  | iface (t : TypeId) (x : V) (v : Value) (h : Rep E x v) : Rep E (.iface t x) (.iface t v)
  | agg (xs : List V) (vs : List Value) (hl : xs.length = vs.length) (h1 : ∀ v ∈ vs, v.oneCell' = true)
      (h : ∀ (i : Nat) (x : V) (v : Value), xs[i]? = some x → vs[i]? = some v → Rep E x v) : Rep E (.agg xs) (.agg vs.toArray)
  | tuple (xs : List V) (vs : List Value) (hl : xs.length = vs.length)
      (h : ∀ (i : Nat) (x : V) (v : Value), xs[i]? = some x → vs[i]? = some v → Rep E x v) : Rep E (.tuple xs) (.tuple vs.toArray)

theorem Rep.mono {E E' : Env} (hE : E.le E') {x : V} {v : Value} (h : Rep E x v) : Rep E' x v := by
  induction h with
  | undef v => exact .undef v
  | bool b => exact .bool b
  | int k n => exact .int k n
  | str l => exact .str l
  | nilp => exact .nilp
  | nilsl => exact .nilsl
  | nilmap => exact .nilmap
  | nilf => exact .nilf
  | nili => exact .nili
  | ref s row i c b base val hs hI _ ih => exact .ref s row i c b base val hs (fun j c d x h1 h2 => hE.I _ _ _ (hI j c d x h1 h2)) ih
  | slnil s => exact .slnil s
  | slemp s a => exact .slemp s a
  | sl s row b base cap val hcap hmax hs hI _ ih => exact .sl s row b base cap val hcap hmax hs (fun j c d x h1 h2 => hE.I _ _ _ (hI j c d x h1 h2)) ih
  | own id ver i c l v hm hv h1 h =>
    obtain ⟨l', hl', _, hv', he⟩ := hE.m id l hm
    refine .own id ver i c l' v hl' (Nat.le_trans hv hv') h1 fun e => ?_
    have e1 : l.ver = l'.ver := by omega
    have := he e1; subst this
    exact h e
  | osl id ver off len l v hm hv h1 h =>
    obtain ⟨l', hl', _, hv', he⟩ := hE.m id l hm
    refine .osl id ver off len l' v hl' (Nat.le_trans hv hv') h1 fun e => ?_
    have e1 : l.ver = l'.ver := by omega
    have := he e1; subst this
    exact h e
  | omap id ver l v hm hv h1 h =>
    obtain ⟨l', hl', _, hv', he⟩ := hE.m id l hm
    refine .omap id ver l' v hl' (Nat.le_trans hv hv') h1 fun e => ?_
    have e1 : l.ver = l'.ver := by omega
    have := he e1; subst this
    exact h e
  | imap ents clock b es hJ hl _ _ hb hs hn ihk ihv => exact .imap ents clock b es (hE.J _ _ hJ) hl ihk ihv hb hs hn
  | func fn xs ys us vs hl hl' _ _ ih ih' => exact .func fn xs ys us vs hl hl' ih ih'
  | iface t x v _ ih => exact .iface t x v ih
  | agg xs vs hl h1 _ ih => exact .agg xs vs hl h1 ih
  | tuple xs vs hl _ ih => exact .tuple xs vs hl ih

theorem Rep.oneCell {E : Env} {x : V} {v : Value} (h : Rep E x v) (h1 : x.one = true) : v.oneCell' = true := by
  cases h <;> first | rfl | assumption | simp [V.one] at h1

/-! ### What a step leaves -/

/-- Objects that are owned: rows of elements. -/
inductive AObj where
  | row (ver s : Nat) (e : TypeId) (elems : List V)
  | map (ver : Nat) (ents : List (V × V × Nat)) (clock : Nat)
  | iter (ents : List (V × V × Nat)) (clock : Nat) (seen : List Nat)
  | res (s : Nat)

/-- Entries of a map and their abstract ones. -/
structure EntRel (E : Env) (ents : List (V × V × Nat)) (es : Array MapEntry) : Prop where
  len : ents.length = es.size
  key : ∀ (i : Nat) (x : V × V × Nat) (e : MapEntry), ents[i]? = some x → es[i]? = some e → Rep E x.1 e.key
  val : ∀ (i : Nat) (x : V × V × Nat) (e : MapEntry), ents[i]? = some x → es[i]? = some e → Rep E x.2.1 e.val
  born : ∀ (i : Nat) (x : V × V × Nat) (e : MapEntry), ents[i]? = some x → es[i]? = some e → x.2.2 = e.born

theorem EntRel.mono {E E' : Env} (hE : E.le E') {ents : List (V × V × Nat)} {es : Array MapEntry} (h : EntRel E ents es) : EntRel E' ents es :=
  ⟨h.len, fun i x e h1 h2 => (h.key i x e h1 h2).mono hE, fun i x e h1 h2 => (h.val i x e h1 h2).mono hE, h.born⟩

def ObjRel (E : Env) (w : World) (l : Loc) : AObj → Prop
  | .row ver s e elems => l.ver = ver ∧ l.s = s ∧ ((l.blk = none ∧ elems = []) ∨ ∃ b cur, l.blk = some b ∧ w.heap[b]? = some (.cells cur e (0, 0)) ∧ cur.size = l.size ∧
      l.base + elems.length * l.s ≤ l.size ∧ (∀ (j : Nat) (v : Value), cur[j]? = some v → v.oneCell' = true) ∧
      (∀ (j : Nat) (d : V), elems[j]? = some d → d.cells.length = l.s) ∧
      (∀ (j c : Nat) (d x : V), elems[j]? = some d → d.cells[c]? = some x → ∃ v, cur[l.base + j * l.s + c]? = some v ∧ Rep E x v))
  | .map ver ents clock => l.ver = ver ∧ ∃ b es, l.blk = some b ∧ w.heap[b]? = some (.map es clock) ∧ EntRel E ents es ∧ (∀ e ∈ es.toList, e.born < clock) ∧ (es.toList.map (·.born)).Nodup
  | .iter ents clock seen => (l.ver = 0 ∧ l.base = 0) ∧ ∃ b r es, l.blk = some b ∧ w.heap[b]? = some (.mapIter (some r) clock seen.toArray clock) ∧ E.J r = some (es, clock) ∧ EntRel E ents es ∧
      (∀ e ∈ es.toList, e.born < clock) ∧ (es.toList.map (·.born)).Nodup
  | .res s => l.ver = 0 ∧ l.s = s ∧ l.blk = none

/-- The call's fixed side: the world in which it began, the blocks that it was handed for writing, what was known. -/
structure Ctx where
  w0 : World
  pb : Nat → Prop
  E0 : Env
  ids : List Nat
  G : List (Nat × V)
  n : Nat

structure Fr (C : Ctx) (w : World) : Prop where
  os : w.os = C.w0.os
  tape : w.tape = C.w0.tape
  output : w.output = C.w0.output
  size : C.w0.heap.size ≤ w.heap.size
  block : ∀ k, k < C.w0.heap.size → ¬ C.pb k → w.heap[k]? = C.w0.heap[k]?

abbrev Objs := List (Nat × AObj)

structure Holds (C : Ctx) (E : Env) (obj : Objs) (w : World) : Prop where
  le : C.E0.le E
  fr : Fr C w
  keep : ∀ id l, C.E0.m id = some l → id ∉ C.ids → E.m id = some l
  newI : ∀ b o v, E.I b o = some v → C.E0.I b o = some v ∨ C.w0.heap.size ≤ b ∨ C.pb b
  newJ : ∀ b x, E.J b = some x → C.E0.J b = some x ∨ C.w0.heap.size ≤ b ∨ C.pb b
  own : ∀ id o, (id, o) ∈ obj → id ∈ C.ids ∨ C.E0.m id = none
  imm : ∀ b o v, E.I b o = some v → w.cell? ⟨b, o, none⟩ = some v
  imj : ∀ b es clock, E.J b = some (es, clock) → w.heap[b]? = some (.map es clock)
  objs : ∀ id o, (id, o) ∈ obj → ∃ l, E.m id = some l ∧ ObjRel E w l o
  nod : (obj.map (·.1)).Nodup
  mine : ∀ id o l b, (id, o) ∈ obj → E.m id = some l → l.blk = some b → (C.w0.heap.size ≤ b ∨ C.pb b) ∧ (∀ k, E.I b k = none) ∧ E.J b = none
  inj : ∀ id o id' o' l l' b, (id, o) ∈ obj → (id', o') ∈ obj → E.m id = some l → E.m id' = some l' → l.blk = some b → l'.blk = some b → id = id'

/-- The frame's slots: the first entry for a slot counts. -/
def LocRel (E : Env) (loc : List (Nat × V)) (a : Act) : Prop := ∀ t x, loc.lookup t = some x → ∃ v, a.tmps[t]? = some v ∧ Rep E x v

structure St where
  loc : List (Nat × V)
  obj : Objs

def St.put (st : St) (t : Option Nat) (x : V) : St :=
  match t with
  | some t => { st with loc := (t, x) :: st.loc }
  | none => st

structure R (C : Ctx) (st : St) (a : Act) (w : World) (E : Env) : Prop where
  holds : Holds C E st.obj w
  loc : LocRel E st.loc a
  glob : ∀ g x, (g, x) ∈ C.G → Rep E x (.pointer (some ⟨g, 0, none⟩))
  size : a.tmps.size = C.n
  defers : a.defers = []

end Go.Vc
