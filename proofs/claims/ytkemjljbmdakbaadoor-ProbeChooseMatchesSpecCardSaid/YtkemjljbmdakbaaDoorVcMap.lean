/-
  Maps with keys that are integers, texts or truth values.
-/
import Derived.Test.YtkemjljbmdakbaaDoorVcPure
import Derived.MapKept
import Derived.Maps.RangeRun
namespace Go.Vc
open Go.MapKept

theorem getMap_run {P : Program} {w : World} {r : Nat} {es : Array MapEntry} {clock : Nat} (hb : w.heap[r]? = some (.map es clock)) : (getObj r).run P w = .ok (.map es clock) w := by
  simp [getObj, Sem.run, hb]

def V.isKey : TypeDesc → V → Bool
  | .bool, .bool _ => true
  | .int k, .int k' _ => k' == k
  | .string, .str _ => true
  | _, _ => false

/-- Keys alike. -/
def V.keq : V → V → Bool
  | .bool a, .bool b => a == b
  | .int _ a, .int _ b => a == b
  | .str a, .str b => a == b
  | _, _ => false

theorem V.isKey_rep {E : Env} {d : TypeDesc} {x : V} {v : Value} (h : Rep E x v) (hk : x.isKey d = true) : IsKey d v := by
  cases d <;> cases h <;> simp_all [V.isKey, IsKey]

theorem V.keq_rep {E : Env} {d : TypeDesc} {x y : V} {v u : Value} (h : Rep E x v) (h' : Rep E y u) (hk : x.isKey d = true) (hk' : y.isKey d = true) : Instr.sameNow d v u = some (x.keq y) := by
  cases d <;> cases h <;> simp [V.isKey] at hk <;> cases h' <;> simp [V.isKey] at hk'
  · simp [Instr.sameNow, V.keq]
  · subst hk; subst hk'; simp [Instr.sameNow, V.keq]
  · rename_i a b
    simp only [Instr.sameNow, V.keq, Option.some.injEq]
    rw [Bool.eq_iff_iff, bytes_beq]
    simp

/-- The first entry of that key: its place, its value. -/
def mfind : List (V × V × Nat) → V → Nat → Option (Nat × V)
  | [], _, _ => none
  | x :: r, k, i => if k.keq x.1 then some (i, x.2.1) else mfind r k (i + 1)

def keysOk (d : TypeDesc) (ents : List (V × V × Nat)) : Prop := ∀ x ∈ ents, x.1.isKey d = true

theorem findNow_mfind {E : Env} {d : TypeDesc} {k : V} {kv : Value} (hk : Rep E k kv) (hkk : k.isKey d = true) : ∀ (ents : List (V × V × Nat)) (l : List MapEntry) (i : Nat), ents.length = l.length → keysOk d ents →
    (∀ (j : Nat) (x : V × V × Nat) (e : MapEntry), ents[j]? = some x → l[j]? = some e → Rep E x.1 e.key) →
    (mfind ents k i = none ∧ Instr.findNow d kv l i = some none) ∨ ∃ j x e, i ≤ j ∧ mfind ents k i = some (j, x.2.1) ∧ Instr.findNow d kv l i = some (some (j, e.val)) ∧ ents[j - i]? = some x ∧ l[j - i]? = some e ∧ k.keq x.1 = true
  | [], [], i, _, _, _ => .inl ⟨rfl, rfl⟩
  | [], _ :: _, _, h, _, _ => by simp at h
  | _ :: _, [], _, h, _, _ => by simp at h
  | x :: r, e :: es, i, hl, hks, hr => by
    have h0 := V.keq_rep hk (hr 0 x e rfl rfl) hkk (hks x (by simp))
    cases hq : k.keq x.1 with
    | true =>
      rw [hq] at h0
      exact .inr ⟨i, x, e, Nat.le_refl _, by simp [mfind, hq], by simp [Instr.findNow, h0], by simp, by simp, hq⟩
    | false =>
      rw [hq] at h0
      rcases findNow_mfind hk hkk r es (i + 1) (by simpa using hl) (fun y hy => hks y (by simp [hy])) (fun j y f h1 h2 => hr (j + 1) y f (by simpa using h1) (by simpa using h2)) with ⟨h1, h2⟩ | ⟨j, y, f, h1, h2, h3, h4, h5, h6⟩
      · exact .inl ⟨by simp [mfind, hq, h1], by simp [Instr.findNow, h0, h2]⟩
      · refine .inr ⟨j, y, f, by omega, by simp [mfind, hq, h2], by simp [Instr.findNow, h0, h3], ?_, ?_, h6⟩
        · rw [show j - i = (j - (i + 1)) + 1 by omega]; simpa using h4
        · rw [show j - i = (j - (i + 1)) + 1 by omega]; simpa using h5

def mupd (ents : List (V × V × Nat)) (clock : Nat) (k v : V) : List (V × V × Nat) × Nat :=
  match mfind ents k 0 with
  | some (i, _) => (ents.modify i fun x => (k, v, x.2.2), clock)
  | none => (ents ++ [(k, v, clock)], clock + 1)

def mdel (ents : List (V × V × Nat)) (k : V) : List (V × V × Nat) :=
  match mfind ents k 0 with
  | some (i, _) => ents.eraseIdx i
  | none => ents

def mget (ents : List (V × V × Nat)) (k : V) : Option V := (mfind ents k 0).map (·.2)

section
variable {P : Program} {C : Ctx} {ops : Array Oper} {o : Oper} {l : List Oper} {st : St} {Q : Exit → St → Prop}

theorem OpsS.makeMap {t : TypeId} (hg : st.guard ops o = some true) (ho : o.op = .makeMap t none)
    (h : ∀ q, OpsS P C ops l (({ st with obj := st.obj ++ [(q, .map 0 [] 0)] } : St).put o.dst (.omap q 0)) Q) : OpsS P C ops (o :: l) st Q :=
  .eff hg fun a w E hR => by
    have hle : E.le (E.setm E.n ⟨some w.heap.size, 0, 0, 0, 0⟩) := Env.le_setm fun l1 h1 => by rw [E.fresh _ (Nat.le_refl _)] at h1; cases h1
    have hh := hR.holds.new (o' := .map 0 [] 0) (l' := ⟨some w.heap.size, 0, 0, 0, 0⟩) (w' := w.alloc (.map #[] 0)) (.inr ⟨w.heap.size, rfl, Nat.le_refl _⟩) (World.grownBy_alloc w _ none)
      ⟨rfl, w.heap.size, #[], rfl, heap_alloc_new w _, ⟨rfl, by simp, by simp, by simp⟩, by simp, by simp⟩
    exact ⟨.map (some w.heap.size), _, _, .omap E.n 0, _, hle, .omap _ _ _ _ (E.setm_same _ _) (Nat.le_refl _) rfl fun _ => ⟨_, rfl, rfl⟩, hh, .inl (by simp [execOp, ho, Instr.makeMap]), h E.n⟩

theorem R.omap {a : Act} {w : World} {E : Env} (h : R C st a w E) {x : Operand} {id ver k clock : Nat} {ents : List (V × V × Nat)} (hx : st.val C x = some (.omap id ver))
    (hk : st.obj[k]? = some (id, .map ver ents clock)) : ∃ l b es, E.m id = some l ∧ l.ver = ver ∧ l.blk = some b ∧ a.eval x = .map (some b) ∧ w.heap[b]? = some (.map es clock) ∧ EntRel E ents es ∧ (∀ e ∈ es.toList, e.born < clock) ∧ (es.toList.map (·.born)).Nodup := by
  obtain ⟨l, hl, hver, b, es, hb, hc, hr, hs⟩ := h.holds.objs _ _ (List.mem_of_getElem? hk)
  have h1 := h.val hx
  generalize a.eval x = v at h1
  cases h1 with
  | omap _ _ l' v hm hvv h1 h =>
    obtain rfl : l = l' := by simpa [hl] using hm
    obtain ⟨b', hb', hv⟩ := h hver.symm
    rw [hb] at hb'; cases hb'
    exact ⟨l, b, es, hl, hver, hb, hv, hc, hr, hs⟩

theorem EntRel.find {E : Env} {d : TypeDesc} {k : V} {kv : Value} {ents : List (V × V × Nat)} {es : Array MapEntry} (h : EntRel E ents es) (hk : Rep E k kv) (hkk : k.isKey d = true) (hks : keysOk d ents) :
    (mfind ents k 0 = none ∧ Instr.findNow d kv es.toList 0 = some none) ∨ ∃ (j : Nat) (x : V × V × Nat) (e : MapEntry), mfind ents k 0 = some (j, x.2.1) ∧ Instr.findNow d kv es.toList 0 = some (some (j, e.val)) ∧ ents[j]? = some x ∧ es[j]? = some e ∧ k.keq x.1 = true := by
  rcases findNow_mfind hk hkk ents es.toList 0 (by simpa using h.len) hks (fun j x e h1 h2 => h.key j x e h1 (by simpa using h2)) with h1 | ⟨j, x, e, _, h1, h2, h3, h4, h5⟩
  · exact .inl h1
  · exact .inr ⟨j, x, e, h1, h2, by simpa using h3, by simpa using h4, h5⟩

theorem keq_eq {E : Env} {d : TypeDesc} {x y : V} {v u : Value} (h : Rep E x v) (h' : Rep E y u) (hk : x.isKey d = true) (hk' : y.isKey d = true) (hq : x.keq y = true) : v = u := by
  have h1 := V.keq_rep h h' hk hk'
  obtain ⟨r, h2, h3⟩ := sameNow_of_keys (V.isKey_rep h hk) (V.isKey_rep h' hk')
  rw [h2] at h1
  simp only [Option.some.injEq] at h1
  exact h3.1 (by rw [h1, hq])

/-- The world with the map's block changed. -/
theorem setMap_run {w : World} {b : Nat} {es : Array MapEntry} {clock : Nat} (o' : Obj) (hb : w.heap[b]? = some (.map es clock)) : (setObj b o').run P w = .ok () { w with heap := w.heap.setIfInBounds b o' } := run_setObj_map o' hb

theorem setMap_grown {w : World} {b : Nat} (o' : Obj) : w.grownBy { w with heap := w.heap.setIfInBounds b o' } (some b) :=
  ⟨rfl, rfl, rfl, by simp, fun i hi hne => by
    show (w.heap.setIfInBounds b o')[i]? = _
    rw [Array.getElem?_setIfInBounds, if_neg (fun e => hne (by rw [e]))]⟩

theorem eff_mapUpdate {mt kt et : TypeId} {d : TypeDesc} {s1 b1 s2 b2 : Nat} {p x y : Operand} {id ver k clock : Nat} {ents : List (V × V × Nat)} {dk dv : V} (hm : TyF P mt (.map kt et) s1 b1) (hd : TyF P kt d s2 b2)
    (ho : o.op = .mapUpdate mt p x y) (hp : st.val C p = some (.omap id ver)) (hk : st.obj[k]? = some (id, .map ver ents clock)) (hx : st.val C x = some dk) (hy : st.val C y = some dv) (hkk : dk.isKey d = true) (hks : keysOk d ents) :
    EffOp P C o st .undef (st.obj.set k (id, .map ver (mupd ents clock dk dv).1 (mupd ents clock dk dv).2)) := by
  refine .of fun a w E hR => ?_
  obtain ⟨lo, b, es, hl, hver, hb, hv, hc, hr, hs, hn⟩ := hR.omap hp hk
  have hrx := hR.val hx
  have hry := hR.val hy
  have hkey := V.isKey_rep hrx hkk
  have fin : ∀ (es' : Array MapEntry) (clock' : Nat), (mupd ents clock dk dv).2 = clock' → EntRel E (mupd ents clock dk dv).1 es' → (∀ e ∈ es'.toList, e.born < clock') → (es'.toList.map (·.born)).Nodup →
      (execOp a.eval o).run P w = .ok .skip { w with heap := w.heap.setIfInBounds b (.map es' clock') } →
      ∃ v w' E' r' obj'', E.le E' ∧ Rep E' r' v ∧ Holds C E' obj'' w' ∧ ((execOp a.eval o).run P w = .ok (.value v) w' ∨ (v = undef ∧ (execOp a.eval o).run P w = .ok .skip w')) ∧
        (r' = .undef ∧ obj'' = st.obj.set k (id, .map ver (mupd ents clock dk dv).1 (mupd ents clock dk dv).2)) := by
    intro es' clock' hcl hr' hs' hn' hrun
    have hle : E.le (E.setm id lo) := Env.le_setm fun l1 h1 => by rw [hl] at h1; cases h1; exact ⟨rfl, Nat.le_refl _, fun _ => rfl⟩
    refine ⟨undef, _, E.setm id lo, .undef, _, hle, .undef _, hR.holds.upd hk hl rfl (Nat.le_refl _) (fun _ => rfl) (.inl rfl) (by rw [hb]; exact setMap_grown _) ?_, .inr ⟨rfl, hrun⟩, rfl, rfl⟩
    exact ⟨hver, b, es', hb, by rw [hcl]; exact (heap_set hc).1, hr'.mono hle, by rw [hcl]; exact hs', hn'⟩
  have hborn : ∀ (i : Nat) (f : MapEntry → MapEntry), (∀ e, (f e).born = e.born) → (es.modify i f).toList.map (·.born) = es.toList.map (·.born) := by
    intro i f hf
    apply List.ext_getElem?
    intro j
    simp only [List.getElem?_map, Array.getElem?_toList, Array.getElem?_modify]
    split
    · cases es[j]? <;> simp [hf]
    · rfl
  rcases hr.find hrx hkk hks with ⟨h1, h2⟩ | ⟨j, z0, e0, h1, h2, h3, h4, h5⟩
  · have hu : mupd ents clock dk dv = (ents ++ [(dk, dv, clock)], clock + 1) := by simp [mupd, h1]
    refine fin (es.push { key := a.eval x, val := a.eval y, born := clock }) (clock + 1) (by rw [hu]) ?_ ?_ ?_ ?_
    · rw [hu]
      have get : ∀ (i : Nat) (z : V × V × Nat) (e : MapEntry), (ents ++ [(dk, dv, clock)])[i]? = some z → (es.push { key := a.eval x, val := a.eval y, born := clock })[i]? = some e →
          (ents[i]? = some z ∧ es[i]? = some e) ∨ (z = (dk, dv, clock) ∧ e = { key := a.eval x, val := a.eval y, born := clock }) := by
        intro i z e hz he
        rw [List.getElem?_append] at hz
        rw [Array.getElem?_push] at he
        split at hz
        · rename_i hi
          rw [if_neg (by rw [← hr.len]; omega)] at he
          exact .inl ⟨hz, he⟩
        · rename_i hi
          have hi' : i = ents.length := by
            have := (List.getElem?_eq_some_iff.1 hz).1
            simp at this; omega
          subst hi'
          rw [if_pos hr.len] at he
          simp at hz he
          exact .inr ⟨hz.symm, he.symm⟩
      refine ⟨by simp [hr.len], fun i z e hz he => ?_, fun i z e hz he => ?_, fun i z e hz he => ?_⟩ <;> rcases get i z e hz he with ⟨g1, g2⟩ | ⟨rfl, rfl⟩
      · exact hr.key i z e g1 g2
      · exact hrx
      · exact hr.val i z e g1 g2
      · exact hry
      · exact hr.born i z e g1 g2
      · rfl
    · intro e he
      simp only [Array.toList_push, List.mem_append, List.mem_singleton] at he
      rcases he with he | rfl
      · exact Nat.lt_succ_of_lt (hs e he)
      · exact Nat.lt_succ_self _
    · simp only [Array.toList_push, List.map_append, List.map_cons, List.map_nil]
      refine List.nodup_append.2 ⟨hn, by simp, fun p hp q hq => ?_⟩
      simp only [List.mem_singleton] at hq
      subst hq
      obtain ⟨e, he, rfl⟩ := List.mem_map.1 hp
      exact Nat.ne_of_lt (hs e he)
    · simp [execOp, ho, hv, Instr.mapUpdate, run_underlying hm.u, getMap_run hc, run_checkKey hd.u hkey, run_findKey hd.u h2, setMap_run _ hc]
  · have hu : mupd ents clock dk dv = (ents.modify j fun z => (dk, dv, z.2.2), clock) := by simp [mupd, h1]
    have hsame : a.eval x = e0.key := keq_eq hrx (hr.key j z0 e0 h3 h4) hkk (hks z0 (List.mem_of_getElem? h3)) h5
    refine fin (es.modify j fun e => { e with key := a.eval x, val := a.eval y }) clock (by rw [hu]) ?_ ?_ ?_ ?_
    · rw [hu]
      have get : ∀ (i : Nat) (z : V × V × Nat) (e : MapEntry), (ents.modify j fun z => (dk, dv, z.2.2))[i]? = some z → (es.modify j fun e => { e with key := a.eval x, val := a.eval y })[i]? = some e →
          (ents[i]? = some z ∧ es[i]? = some e) ∨ ∃ z' e', ents[i]? = some z' ∧ es[i]? = some e' ∧ z = (dk, dv, z'.2.2) ∧ e = { e' with key := a.eval x, val := a.eval y } := by
        intro i z e hz he
        rw [List.getElem?_modify] at hz
        rw [Array.getElem?_modify] at he
        by_cases hij : j = i
        · subst hij
          rw [h3] at hz
          rw [h4] at he
          simp only [if_true, Option.map_some, Option.some.injEq, Option.map_eq_map] at hz he
          exact .inr ⟨z0, e0, h3, h4, hz.symm, he.symm⟩
        · simp only [hij, if_false] at hz he
          exact .inl ⟨by simpa using hz, he⟩
      refine ⟨by simp [hr.len], fun i z e hz he => ?_, fun i z e hz he => ?_, fun i z e hz he => ?_⟩ <;> rcases get i z e hz he with ⟨g1, g2⟩ | ⟨z', e', g1, g2, rfl, rfl⟩
      · exact hr.key i z e g1 g2
      · exact hrx
      · exact hr.val i z e g1 g2
      · exact hry
      · exact hr.born i z e g1 g2
      · exact hr.born i z' e' g1 g2
    · intro e' he'
      have : e'.born ∈ (es.modify j fun e => { e with key := a.eval x, val := a.eval y }).toList.map (·.born) := List.mem_map.2 ⟨e', he', rfl⟩
      rw [hborn j (fun e => { e with key := a.eval x, val := a.eval y }) (fun _ => rfl)] at this
      obtain ⟨e'', he'', hq⟩ := List.mem_map.1 this
      rw [← hq]; exact hs e'' he''
    · rw [hborn j (fun e => { e with key := a.eval x, val := a.eval y }) (fun _ => rfl)]; exact hn
    · simp [execOp, ho, hv, Instr.mapUpdate, run_underlying hm.u, getMap_run hc, run_checkKey hd.u hkey, run_findKey hd.u h2, setMap_run _ hc, h4, ← hsame, run_keyThatStays hkey]

theorem eff_delete {mt kt et kt' : TypeId} {d : TypeDesc} {s1 b1 s2 b2 : Nat} {p x : Operand} {id ver k clock : Nat} {ents : List (V × V × Nat)} {dk : V} (hm : TyF P mt (.map kt et) s1 b1) (hd : TyF P kt d s2 b2)
    (ho : o.op = .call { callee := .builtin .delete, args := #[p, x], argTypes := #[mt, kt'] }) (hp : st.val C p = some (.omap id ver)) (hk : st.obj[k]? = some (id, .map ver ents clock)) (hx : st.val C x = some dk) (hkk : dk.isKey d = true) (hks : keysOk d ents) :
    EffOp P C o st (.tuple []) (st.obj.set k (id, .map ver (mdel ents dk) clock)) := by
  refine .of fun a w E hR => ?_
  obtain ⟨lo, b, es, hl, hver, hb, hv, hc, hr, hs, hn⟩ := hR.omap hp hk
  have hrx := hR.val hx
  have hkey := V.isKey_rep hrx hkk
  have fin : ∀ (es' : Array MapEntry), EntRel E (mdel ents dk) es' → (∀ e ∈ es'.toList, e.born < clock) → (es'.toList.map (·.born)).Nodup →
      (execOp a.eval o).run P w = .ok (.value (.tuple #[])) { w with heap := w.heap.setIfInBounds b (.map es' clock) } →
      ∃ v w' E' r' obj'', E.le E' ∧ Rep E' r' v ∧ Holds C E' obj'' w' ∧ ((execOp a.eval o).run P w = .ok (.value v) w' ∨ (v = undef ∧ (execOp a.eval o).run P w = .ok .skip w')) ∧
        (r' = .tuple [] ∧ obj'' = st.obj.set k (id, .map ver (mdel ents dk) clock)) := by
    intro es' hr' hs' hn' hrun
    have hle : E.le (E.setm id lo) := Env.le_setm fun l1 h1 => by rw [hl] at h1; cases h1; exact ⟨rfl, Nat.le_refl _, fun _ => rfl⟩
    refine ⟨_, _, E.setm id lo, .tuple [], _, hle, .tuple [] [] rfl (by simp), hR.holds.upd hk hl rfl (Nat.le_refl _) (fun _ => rfl) (.inl rfl) (by rw [hb]; exact setMap_grown _) ?_, .inl hrun, rfl, rfl⟩
    exact ⟨hver, b, es', hb, (heap_set hc).1, hr'.mono hle, hs', hn'⟩
  rcases hr.find hrx hkk hks with ⟨h1, h2⟩ | ⟨j, z, e, h1, h2, h3, h4, h5⟩
  · have hu : mdel ents dk = ents := by simp [mdel, h1]
    refine fin es (by rw [hu]; exact hr) hs hn ?_
    simp [execOp, ho, hv, resolve, invoke, builtin, Builtin.delete_, run_underlying hm.u, getMap_run hc, run_checkKey hd.u hkey, run_findKey hd.u h2, setMap_run _ hc]
  · have hu : mdel ents dk = ents.eraseIdx j := by simp [mdel, h1]
    have hjlt : j < es.size := (Array.getElem?_eq_some_iff.1 h4).1
    have he : (es.eraseIdxIfInBounds j).toList = es.toList.eraseIdx j := by
      unfold Array.eraseIdxIfInBounds
      rw [dif_pos hjlt, Array.toList_eraseIdx]
    have hsub : (es.eraseIdxIfInBounds j).toList.Sublist es.toList := by rw [he]; exact List.eraseIdx_sublist _ _
    refine fin (es.eraseIdxIfInBounds j) ?_ (fun e' h' => hs e' (hsub.subset h')) ((hsub.map _).nodup hn) ?_
    · rw [hu]
      have get : ∀ (i : Nat) (z : V × V × Nat) (e : MapEntry), (ents.eraseIdx j)[i]? = some z → (es.eraseIdxIfInBounds j)[i]? = some e → ∃ i' : Nat, ents[i']? = some z ∧ es[i']? = some e := by
        intro i z e hz he'
        rw [← Array.getElem?_toList, he, List.getElem?_eraseIdx] at he'
        rw [List.getElem?_eraseIdx] at hz
        split at hz
        · rename_i hi; rw [if_pos hi] at he'; exact ⟨i, hz, by simpa using he'⟩
        · rename_i hi; rw [if_neg hi] at he'; exact ⟨i + 1, hz, by simpa using he'⟩
      refine ⟨?_, fun i z e hz he => ?_, fun i z e hz he => ?_, fun i z e hz he => ?_⟩
      · rw [← Array.length_toList, he, List.length_eraseIdx, List.length_eraseIdx]; simp [hr.len]
      · obtain ⟨i', g1, g2⟩ := get i z e hz he; exact hr.key i' z e g1 g2
      · obtain ⟨i', g1, g2⟩ := get i z e hz he; exact hr.val i' z e g1 g2
      · obtain ⟨i', g1, g2⟩ := get i z e hz he; exact hr.born i' z e g1 g2
    · simp [execOp, ho, hv, resolve, invoke, builtin, Builtin.delete_, run_underlying hm.u, getMap_run hc, run_checkKey hd.u hkey, run_findKey hd.u h2, setMap_run _ hc]

/-! ### Reading -/

theorem lookup_run {w : World} {mt kt et : TypeId} {d : TypeDesc} {s1 b1 s2 b2 b clock : Nat} {E : Env} {ents : List (V × V × Nat)} {es : Array MapEntry} {dk : V} {kv z : Value} (hm : TyF P mt (.map kt et) s1 b1) (hd : TyF P kt d s2 b2) (hz : ZeroF P et z)
    (hc : w.heap[b]? = some (.map es clock)) (hr : EntRel E ents es) (hrx : Rep E dk kv) (hkk : dk.isKey d = true) (hks : keysOk d ents) (commaOk : Bool) :
    ∃ v, Rep E ((mget ents dk).getD (V.const z)) v ∧ (Instr.lookup mt (.map (some b)) kv commaOk).run P w = .ok (if commaOk then .tuple #[v, .bool (mget ents dk).isSome] else v) w := by
  have hkey := V.isKey_rep hrx hkk
  rcases hr.find hrx hkk hks with ⟨h1, h2⟩ | ⟨j, y, e, h1, h2, h3, h4, h5⟩
  · refine ⟨z, by simp only [mget, h1]; exact Rep.const E z, ?_⟩
    simp [Instr.lookup, run_underlying hm.u, getMap_run hc, run_checkKey hd.u hkey, run_findKey hd.u h2, hz.run, mget, h1]
  · refine ⟨e.val, by simp only [mget, h1]; exact hr.val j y e h3 h4, ?_⟩
    simp [Instr.lookup, run_underlying hm.u, getMap_run hc, run_checkKey hd.u hkey, run_findKey hd.u h2, mget, h1]

def lookRes (ents : List (V × V × Nat)) (dk : V) (z : Value) (commaOk : Bool) : V :=
  if commaOk then .tuple [(mget ents dk).getD (V.const z), .bool (mget ents dk).isSome] else (mget ents dk).getD (V.const z)

theorem lookRes_rep {E : Env} {ents : List (V × V × Nat)} {dk : V} {z v : Value} {commaOk : Bool} (h : Rep E ((mget ents dk).getD (V.const z)) v) : Rep E (lookRes ents dk z commaOk) (if commaOk then .tuple #[v, .bool (mget ents dk).isSome] else v) := by
  unfold lookRes
  cases commaOk with
  | false => exact h
  | true =>
    refine .tuple _ [v, .bool (mget ents dk).isSome] rfl fun i x u hx hu => ?_
    match i with
    | 0 => simp at hx hu; subst hx; subst hu; exact h
    | 1 => simp at hx hu; subst hx; subst hu; exact .bool _
    | i + 2 => simp at hx

theorem pure_lookup_omap {mt kt et : TypeId} {d : TypeDesc} {s1 b1 s2 b2 : Nat} {p x : Operand} {id ver k clock : Nat} {ents : List (V × V × Nat)} {dk : V} {z : Value} {c : Bool} (hm : TyF P mt (.map kt et) s1 b1) (hd : TyF P kt d s2 b2) (hz : ZeroF P et z)
    (ho : o.op = .lookup mt p x c) (hp : st.val C p = some (.omap id ver)) (hk : st.obj[k]? = some (id, .map ver ents clock)) (hx : st.val C x = some dk) (hkk : dk.isKey d = true) (hks : keysOk d ents) :
    PureOp P C o st (lookRes ents dk z c) :=
  .same fun a w E hR => by
    obtain ⟨lo, b, es, hl, hver, hb, hv, hc, hr, hs, hn⟩ := hR.omap hp hk
    obtain ⟨v, h1, h2⟩ := lookup_run hm hd hz hc hr (hR.val hx) hkk hks c
    exact ⟨_, lookRes_rep h1, by simp only [execOp, ho, hv, Sem.run_bind, h2, Result.andThen_ok]; rfl⟩

theorem R.imap {a : Act} {w : World} {E : Env} (h : R C st a w E) {x : Operand} {clock : Nat} {ents : List (V × V × Nat)} (hx : st.val C x = some (.imap ents clock)) :
    ∃ b es, a.eval x = .map (some b) ∧ E.J b = some (es, clock) ∧ w.heap[b]? = some (.map es clock) ∧ EntRel E ents es ∧ (∀ e ∈ es.toList, e.born < clock) ∧ (es.toList.map (·.born)).Nodup := by
  have h1 := h.val hx
  generalize a.eval x = v at h1
  cases h1 with
  | imap _ _ b es hJ hl hk hv hb hs hn => exact ⟨b, es, rfl, hJ, h.holds.imj _ _ _ hJ, ⟨hl, hk, hv, hb⟩, hs, hn⟩

theorem pure_lookup_imap {mt kt et : TypeId} {d : TypeDesc} {s1 b1 s2 b2 : Nat} {p x : Operand} {clock : Nat} {ents : List (V × V × Nat)} {dk : V} {z : Value} {c : Bool} (hm : TyF P mt (.map kt et) s1 b1) (hd : TyF P kt d s2 b2) (hz : ZeroF P et z)
    (ho : o.op = .lookup mt p x c) (hp : st.val C p = some (.imap ents clock)) (hx : st.val C x = some dk) (hkk : dk.isKey d = true) (hks : keysOk d ents) :
    PureOp P C o st (lookRes ents dk z c) :=
  .same fun a w E hR => by
    obtain ⟨b, es, hv, _, hc, hr, hs, hn⟩ := hR.imap hp
    obtain ⟨v, h1, h2⟩ := lookup_run hm hd hz hc hr (hR.val hx) hkk hks c
    exact ⟨_, lookRes_rep h1, by simp only [execOp, ho, hv, Sem.run_bind, h2, Result.andThen_ok]; rfl⟩

theorem pure_len_omap {mt kt et : TypeId} {s1 b1 : Nat} {p : Operand} {id ver k clock : Nat} {ents : List (V × V × Nat)} (hm : TyF P mt (.map kt et) s1 b1)
    (ho : o.op = .call { callee := .builtin .len, args := #[p], argTypes := #[mt] }) (hp : st.val C p = some (.omap id ver)) (hk : st.obj[k]? = some (id, .map ver ents clock)) : PureOp P C o st (.int .i64 ents.length) :=
  .same fun a w E hR => by
    obtain ⟨lo, b, es, hl, hver, hb, hv, hc, hr, hs, hn⟩ := hR.omap hp hk
    refine ⟨.int .i64 ents.length, .int _ _, ?_⟩
    simp [execOp, ho, hv, resolve, invoke, builtin, Builtin.len_, run_underlying hm.u, getMap_run hc, goInt, hr.len]

/-! ### Ranging over a map that stays -/

theorem OpsS.range_imap {mt kt et : TypeId} {s1 b1 : Nat} {p : Operand} {clock : Nat} {ents : List (V × V × Nat)} (hm : TyF P mt (.map kt et) s1 b1) (hg : st.guard ops o = some true) (ho : o.op = .range mt p) (hp : st.val C p = some (.imap ents clock))
    (h : ∀ q, OpsS P C ops l (({ st with obj := st.obj ++ [(q, .iter ents clock [])] } : St).put o.dst (.own q 0 0 0)) Q) : OpsS P C ops (o :: l) st Q :=
  .eff hg fun a w E hR => by
    obtain ⟨b, es, hv, hJ, hc, hr, hs, hn⟩ := hR.imap hp
    have hle : E.le (E.setm E.n ⟨some w.heap.size, 0, 0, 0, 0⟩) := Env.le_setm fun l1 h1 => by rw [E.fresh _ (Nat.le_refl _)] at h1; cases h1
    have hh := hR.holds.new (o' := .iter ents clock []) (l' := ⟨some w.heap.size, 0, 0, 0, 0⟩) (w' := w.alloc (.mapIter (some b) clock #[] clock)) (.inr ⟨w.heap.size, rfl, Nat.le_refl _⟩) (World.grownBy_alloc w _ none)
      ⟨⟨rfl, rfl⟩, w.heap.size, b, es, rfl, heap_alloc_new w _, hle.J _ _ hJ, hr.mono hle, hs, hn⟩
    refine ⟨.pointer (some ⟨w.heap.size, 0, none⟩), _, _, .own E.n 0 0 0, _, hle, .own _ _ _ _ _ _ (E.setm_same _ _) (Nat.le_refl _) rfl fun _ => ⟨_, rfl, by simp⟩, hh, .inl ?_, h E.n⟩
    simp [execOp, ho, hv, Instr.range, run_underlying hm.u, getMap_run hc]

/-- What a step of the loop may be: at its end, with every entry seen; or one that was not seen. -/
def NextM (ents : List (V × V × Nat)) (seen : List Nat) (b : Bool) (seen' : List Nat) : Prop :=
  (b = false ∧ seen' = seen ∧ ∀ x ∈ ents, x.2.2 ∈ seen) ∨ (b = true ∧ ∃ x ∈ ents, x.2.2 ∉ seen ∧ seen' = seen ++ [x.2.2])

theorem R.iter {a : Act} {w : World} {E : Env} (h : R C st a w E) {x : Operand} {id k clock : Nat} {ents : List (V × V × Nat)} {seen : List Nat} (hx : st.val C x = some (.own id 0 0 0))
    (hk : st.obj[k]? = some (id, .iter ents clock seen)) : ∃ l b r es, E.m id = some l ∧ (l.ver = 0 ∧ l.base = 0) ∧ l.blk = some b ∧ a.eval x = .pointer (some ⟨b, 0, none⟩) ∧ w.heap[b]? = some (.mapIter (some r) clock seen.toArray clock) ∧ E.J r = some (es, clock) ∧ w.heap[r]? = some (.map es clock) ∧
      EntRel E ents es ∧ (∀ e ∈ es.toList, e.born < clock) ∧ (es.toList.map (·.born)).Nodup := by
  obtain ⟨l, hl, hver, b, r, es, hb, hc, hJ, hr, hs, hn⟩ := h.holds.objs _ _ (List.mem_of_getElem? hk)
  have h1 := h.val hx
  generalize a.eval x = v at h1
  cases h1 with
  | own _ _ _ _ l' v hm hvv h1 h' =>
    obtain rfl : l = l' := by simpa [hl] using hm
    obtain ⟨b', hb', hv⟩ := h' hver.1.symm
    rw [hb] at hb'; cases hb'
    rw [hver.2] at hv
    exact ⟨l, b, r, es, hl, hver, hb, by simpa using hv, hc, hJ, h.holds.imj _ _ _ hJ, hr, hs, hn⟩

theorem OpsS.next {p : Operand} {id k clock : Nat} {ents : List (V × V × Nat)} {seen : List Nat} (hg : st.guard ops o = some true) (ho : o.op = .next p false) (hp : st.val C p = some (.own id 0 0 0))
    (hk : st.obj[k]? = some (id, .iter ents clock seen)) (h : ∀ b seen', NextM ents seen b seen' → OpsS P C ops l (({ st with obj := st.obj.set k (id, .iter ents clock seen') } : St).put o.dst (.tuple (.bool b :: if b then [.undef, .undef] else []))) Q) : OpsS P C ops (o :: l) st Q := by
  refine .eff hg fun a w E hR => ?_
  obtain ⟨lo, b, r, es, hl, hver, hb, hv, hc, hJ, hcr, hr, hs, hn⟩ := hR.iter hp hk
  have hle : E.le (E.setm id lo) := Env.le_setm fun l1 h1 => by rw [hl] at h1; cases h1; exact ⟨rfl, Nat.le_refl _, fun _ => rfl⟩
  have upd : ∀ w1 : World, (w1 = w ∨ w1 = w.drew) → ∀ (seen' : List Nat), Holds C (E.setm id lo) (st.obj.set k (id, .iter ents clock seen')) (Go.ChangeMaps.setBlock w1 b (.mapIter (some r) clock seen'.toArray clock)) := by
    intro w1 hw1 seen'
    have hg : w.grownBy (Go.ChangeMaps.setBlock w1 b (.mapIter (some r) clock seen'.toArray clock)) (some b) := by
      rcases hw1 with rfl | rfl
      · exact setMap_grown _
      · refine ⟨rfl, rfl, rfl, ?_, fun i hi hne => ?_⟩
        · show w.heap.size ≤ (w.heap.setIfInBounds b _).size
          rw [Array.size_setIfInBounds]; exact Nat.le_refl _
        show (w.heap.setIfInBounds b _)[i]? = _
        rw [Array.getElem?_setIfInBounds, if_neg (fun e => hne (by rw [e]))]
    refine hR.holds.upd hk hl rfl (Nat.le_refl _) (fun _ => rfl) (.inl rfl) (by rw [hb]; exact hg) ?_
    refine ⟨hver, b, r, es, hb, ?_, hle.J _ _ hJ, hr.mono hle, hs, hn⟩
    have : (Go.ChangeMaps.setBlock w1 b (.mapIter (some r) clock seen'.toArray clock)).heap[b]? = some (.mapIter (some r) clock seen'.toArray clock) := by
      rcases hw1 with rfl | rfl <;> exact (heap_set hc).1
    exact this
  have left : ∀ e, e ∈ (leftOf es seen.toArray).toList ↔ e ∈ es.toList ∧ e.born ∉ seen := by
    intro e
    unfold leftOf
    simp
  rcases run_next_at (P := P) w o.type b r clock clock seen.toArray es clock hc hcr hs (Nat.le_refl _) with ⟨h0, hrun⟩ | ⟨e, he, w1, hw1, hrun⟩
  · have hnone : ∀ x ∈ ents, x.2.2 ∈ seen := by
      intro x hx
      obtain ⟨i, hi⟩ := List.mem_iff_getElem?.1 hx
      have hlt : i < es.size := by rw [← hr.len]; exact (List.getElem?_eq_some_iff.1 hi).1
      have hb' := hr.born i x es[i] hi (Array.getElem?_eq_getElem hlt)
      have : es[i] ∉ (leftOf es seen.toArray).toList := by
        rw [Array.eq_empty_of_size_eq_zero h0]; simp
      rw [left] at this
      rw [hb']
      by_cases hm : es[i].born ∈ seen
      · exact hm
      · exact absurd ⟨by simp, hm⟩ this
    have hsame : st.obj.set k (id, .iter ents clock seen) = st.obj := by
      apply List.ext_getElem?
      intro j
      rw [List.getElem?_set]
      split
      · rename_i e; subst e; rw [if_pos (List.getElem?_eq_some_iff.1 hk).1, hk]
      · rfl
    refine ⟨_, w, E, .tuple [.bool false], _, Env.le.refl E, .tuple [.bool false] [.bool false] rfl fun i x u hx hu => ?_, (by rw [hsame]; exact hR.holds), .inl ?_, h false seen (.inl ⟨rfl, rfl, hnone⟩)⟩
    · match i with
      | 0 => simp at hx hu; subst hx; subst hu; exact .bool _
      | i + 1 => simp at hx
    · simp only [execOp, ho, hv, Sem.run_bind, hrun, Result.andThen_ok]; rfl
  · obtain ⟨he1, he2⟩ := (left e).1 he
    obtain ⟨i, hi⟩ := List.mem_iff_getElem?.1 he1
    have hi' : es[i]? = some e := by simpa using hi
    have hlt : i < ents.length := by rw [hr.len]; exact (Array.getElem?_eq_some_iff.1 hi').1
    have hb' := hr.born i ents[i] e (List.getElem?_eq_getElem hlt) hi'
    refine ⟨_, _, E.setm id lo, .tuple [.bool true, .undef, .undef], _, hle, .tuple [.bool true, .undef, .undef] [.bool true, e.key, e.val] rfl fun i x u hx hu => ?_, upd w1 hw1 (seen ++ [e.born]), .inl ?_, h true (seen ++ [e.born]) (.inr ⟨rfl, ents[i], List.getElem_mem hlt, by rw [hb']; exact he2, by rw [hb']⟩)⟩
    · match i with
      | 0 => simp at hx hu; subst hx; subst hu; exact .bool _
      | 1 => simp at hx hu; subst hx; exact .undef _
      | 2 => simp at hx hu; subst hx; exact .undef _
      | i + 3 => simp at hx
    · have : (seen ++ [e.born]).toArray = seen.toArray.push e.born := by simp
      simp only [execOp, ho, hv, Sem.run_bind, hrun, Result.andThen_ok, this]; rfl

theorem pure_entry {p : Operand} {id k clock : Nat} {ents : List (V × V × Nat)} {seen : List Nat} {x : V × V × Nat} (ho : o.op = .entry p) (hp : st.val C p = some (.own id 0 0 0))
    (hk : st.obj[k]? = some (id, .iter ents clock (seen ++ [x.2.2]))) (hx : x ∈ ents) : PureOp P C o st (.tuple [x.1, x.2.1]) :=
  .same fun a w E hR => by
    obtain ⟨lo, b, r, es, hl, hver, hb, hv, hc, hJ, hcr, hr, hs, hn⟩ := hR.iter hp hk
    obtain ⟨i, hi⟩ := List.mem_iff_getElem?.1 hx
    have hlt : i < es.size := by rw [← hr.len]; exact (List.getElem?_eq_some_iff.1 hi).1
    have hi' : es[i]? = some es[i] := Array.getElem?_eq_getElem hlt
    have hb' := hr.born i x es[i] hi hi'
    rw [hb'] at hc
    have hc' : w.heap[b]? = some (.mapIter (some r) clock (seen.toArray.push es[i].born) clock) := by rw [hc]; simp
    have hrun := run_entry_at (P := P) w b r clock seen.toArray es clock es[i] hc' hcr (by simp) hn
    refine ⟨.tuple #[es[i].key, es[i].val], .tuple [x.1, x.2.1] [es[i].key, es[i].val] rfl fun j y u hy hu => ?_, ?_⟩
    · match j with
      | 0 => simp at hy hu; subst hy; subst hu; exact hr.key i x _ hi hi'
      | 1 => simp at hy hu; subst hy; subst hu; exact hr.val i x _ hi hi'
      | j + 2 => simp at hy
    · simp only [execOp, ho, hv, Sem.run_bind, hrun, Result.andThen_ok]; rfl

end
end Go.Vc
