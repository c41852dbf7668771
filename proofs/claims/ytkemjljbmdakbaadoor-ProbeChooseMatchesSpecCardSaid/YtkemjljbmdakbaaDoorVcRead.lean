/-
  What a caller hands over, read as plain data, as abstract values.
-/
import Derived.Test.YtkemjljbmdakbaaDoorVcFmt
import Derived.ChangeSame
import Derived.WideKeyArgs
import Derived.Deep.Slices
import Derived.OpenShut
import Derived.Deep.DeepHandedRow
import Derived.Below
namespace Go.Vc

/-- The environment in which a call begins: every cell of the world stands, none is owned. -/
def Env.start (w : World) : Env :=
  ⟨fun b o => match w.cell? ⟨b, o, none⟩ with
    | some v => if v.oneCell' then some v else none
    | none => none, fun _ => none, fun _ => none, 0, fun _ _ => rfl, fun b o v h => by
    split at h
    · split at h
      · rename_i h1; simp only [Option.some.injEq] at h; subst h; exact h1
      · cases h
    · cases h⟩

theorem Env.start_I {w : World} {b o : Nat} {v : Value} (h : w.cell? ⟨b, o, none⟩ = some v) (h1 : v.oneCell' = true) : (Env.start w).I b o = some v := by
  simp [Env.start, h, h1]

theorem Env.start_imm {w : World} {b o : Nat} {v : Value} (h : (Env.start w).I b o = some v) : w.cell? ⟨b, o, none⟩ = some v := by
  simp only [Env.start] at h
  split at h
  · rename_i u hu
    split at h
    · cases h; exact hu
    · cases h
  · cases h

theorem Holds.start (w : World) (G : List (Nat × V)) (n : Nat) : Holds ⟨w, fun _ => False, Env.start w, [], G, n⟩ (Env.start w) [] w :=
  ⟨Env.le.refl _, ⟨rfl, rfl, rfl, Nat.le_refl _, fun _ _ _ => rfl⟩, fun _ _ h _ => h, fun _ _ _ h => .inl h, fun _ _ h => .inl h, (fun _ _ h => by cases h), fun _ _ _ h => Env.start_imm h, (fun _ _ _ h => by cases h), (fun _ _ h => by cases h), (by simp), (fun _ _ _ _ h => by cases h), (fun _ _ _ _ _ _ _ h => by cases h)⟩

/-- An element by its cells. -/
def toV : List V → V
  | [.agg m] => .agg [.agg m]
  | [x] => x
  | l => .agg l
theorem toV_cells (l : List V) : (toV l).cells = l := by
  unfold toV
  split
  · rfl
  · rename_i x hx
    cases x <;> first | rfl | exact absurd rfl (hx _)
  · rfl

theorem mapM_len {α β : Type} {f : α → Option β} : ∀ {l : List α} {r : List β}, l.mapM f = some r → r.length = l.length
  | [], r, h => by simp at h; subst h; rfl
  | x :: l, r, h => by
    simp only [List.mapM_cons, Option.bind_eq_bind, Option.bind_eq_some_iff, Option.pure_def, Option.some.injEq] at h
    obtain ⟨b, _, r', hr, rfl⟩ := h
    simp [mapM_len hr]

section
variable {H : Type} {enc : TypeId × Value → H} {P : Program} {w : World} {held : Bool}

/-- What is read of some cells stands for them. -/
def ReadC (w : World) (xs : List V) (cs : List Value) : Prop :=
  xs.length = cs.length ∧ (∀ v ∈ cs, v.oneCell' = true) ∧ ∀ (i : Nat) (x : V) (v : Value), xs[i]? = some x → cs[i]? = some v → Rep (Env.start w) x v

theorem ReadC.one {x : V} {v : Value} (h : Rep (Env.start w) x v) (h1 : v.oneCell' = true) : ReadC w [x] [v] :=
  ⟨rfl, by simp [h1], fun i y u hy hu => by
    cases i with
    | zero => simp at hy hu; subst hy; subst hu; exact h
    | succ i => simp at hy⟩

theorem cells?_get {a : Addr} {n : Nat} {cs : List Value} (h : w.cells? 0 a n = some cs) : cs.length = n ∧ ∀ i, i < n → ∃ v, cs[i]? = some v ∧ w.cell? (a.add i) = some v := by
  unfold World.cells? at h
  rw [if_pos (Nat.zero_le _)] at h
  refine ⟨by rw [mapM_len h]; simp, fun i hi => ?_⟩
  obtain ⟨b, h1, h2⟩ := Go.Lib.mapM_at h i i (by simp [hi])
  exact ⟨b, h1, h2⟩

/-- Whatever is read at this type stands for en of something that is ok. -/
def Reads {α : Type} (enc : TypeId × Value → H) (P : Program) (w : World) (t : TypeId) (ok : α → Prop) (en : α → V) : Prop :=
  ∀ (fuel : Nat) (cs : List Value) (d : DataW H) (ps : List MemPlace), DataW.trod enc P w 0 (fun _ => true) true fuel t cs = some (d, ps) → ∃ x, ok x ∧ ReadC w (en x).cells cs

theorem reads_bool {t : TypeId} (hu : P.underlying t = some .bool) : Reads enc P w t (fun _ => True) V.bool := by
  intro fuel cs d ps hr
  cases fuel with
  | zero => simp [DataW.trod] at hr
  | succ fuel =>
    unfold DataW.trod at hr
    rw [hu] at hr
    split at hr
    all_goals first
      | (rename_i b _; exact ⟨b, trivial, .one (.bool b) rfl⟩)
      | (rename_i b; exact ⟨b, trivial, .one (.bool b) rfl⟩)
      | (exfalso; simp_all; done)

theorem reads_int {t : TypeId} {k : IntKind} (hu : P.underlying t = some (.int k)) : Reads enc P w t (inK k) (V.int k) := by
  intro fuel cs d ps hr
  cases fuel with
  | zero => simp [DataW.trod] at hr
  | succ fuel =>
    unfold DataW.trod at hr
    rw [hu] at hr
    split at hr <;> simp_all
    rename_i n _
    refine ⟨n, ?_, .one (.int _ _) rfl⟩
    have := hr.1.2
    simp only [Lit.wf, Bool.and_eq_true, decide_eq_true_eq] at this
    exact this

theorem reads_str {t : TypeId} (hu : P.underlying t = some .string) : Reads enc P w t (fun l : List UInt8 => l.length ≤ maxLen) V.str := by
  intro fuel cs d ps hr
  cases fuel with
  | zero => simp [DataW.trod] at hr
  | succ fuel =>
    unfold DataW.trod at hr
    rw [hu] at hr
    have fin : ∀ (s : ByteArray), s.size ≤ maxLen → ∃ x : List UInt8, x.length ≤ maxLen ∧ ReadC w (V.str x).cells [Value.string s] := fun s hs => by
      refine ⟨s.data.toList, by rw [Array.length_toList]; exact hs, .one ?_ rfl⟩
      have := Rep.str (E := Env.start w) s.data.toList
      simpa using this
    split at hr
    all_goals first
      | (rename_i s _; split at hr; (exact fin s (by assumption)); (cases hr))
      | (rename_i s; split at hr; (exact fin s (by assumption)); (cases hr))
      | (clear fin; exfalso; simp_all; done)

theorem reads_slice {α : Type} [Inhabited α] {t e : TypeId} {ok : α → Prop} {en : α → V} {s : Nat} (hu : P.underlying t = some (.slice e)) (hs : P.cellsOf e = s) (he0 : s ≠ 0) (he : Reads enc P w e ok en) :
    Reads enc P w t (fun l : List α => l.length ≤ maxLen ∧ ∀ x ∈ l, ok x) (fun l => .sl s (l.map en)) := by
  intro fuel cs d ps hr
  subst hs
  rcases Go.Deep.open_slice hu hr with ⟨rfl, hx⟩ | ⟨a, len, cap, m, n, D, Pl, rfl, _, hlc, hcm, hm, hx, hel⟩
  · exact ⟨[], ⟨by simp, by simp⟩, .one (.slnil _) rfl⟩
  · simp only [if_true] at hm
    subst hm
    have hel' : ∀ i, i < m → ∃ x cs', ok x ∧ w.cells? 0 (a.add (i * P.cellsOf e)) (P.cellsOf e) = some cs' ∧ ReadC w (en x).cells cs' := fun i hi => by
      obtain ⟨cs', h1, h2⟩ := hel i hi
      obtain ⟨x, h3, h4⟩ := he n cs' (D i) (Pl i) h2
      exact ⟨x, cs', h3, h1, h4⟩
    let F : Nat → α := fun i => if h : i < m then Classical.choose (hel' i h) else default
    have hF : ∀ i, i < m → ∃ cs', ok (F i) ∧ w.cells? 0 (a.add (i * P.cellsOf e)) (P.cellsOf e) = some cs' ∧ ReadC w (en (F i)).cells cs' := fun i hi => by
      have := Classical.choose_spec (hel' i hi)
      simp only [F, dif_pos hi]
      exact this
    refine ⟨(List.range len).map F, ⟨by simp; omega, fun x hx => ?_⟩, ?_⟩
    · simp only [List.mem_map, List.mem_range] at hx
      obtain ⟨i, hi, rfl⟩ := hx
      obtain ⟨_, h1, _⟩ := hF i (by omega)
      exact h1
    refine .one ?_ rfl
    by_cases hcap : m = 0
    · subst hcap
      have : len = 0 := by omega
      subst this
      exact .slemp _ a
    · obtain ⟨b, o, sp⟩ := a
      have hspot : sp = none := by
        obtain ⟨cs', _, h1, _⟩ := hF 0 (by omega)
        obtain ⟨_, h2⟩ := cells?_get h1
        obtain ⟨v, _, h3⟩ := h2 0 (by omega)
        simp only [Nat.zero_mul, Addr.add, if_true] at h3
        unfold World.cell? at h3
        split at h3
        · split at h3
          · cases h3
          · rename_i h4; simpa using h4
        · cases h3
      subst hspot
      have hlen : (((List.range len).map F).map en).length = len := by simp
      have key : Rep (Env.start w) (.sl (P.cellsOf e) (((List.range len).map F).map en)) (.slice (some ⟨b, o, none⟩) (((List.range len).map F).map en).length m) := by
        have get : ∀ (j : Nat) (d : V), (((List.range len).map F).map en)[j]? = some d → j < len ∧ d = en (F j) := by
          intro j d hd
          have hj : j < len := by have := (List.getElem?_eq_some_iff.1 hd).1; simpa using this
          refine ⟨hj, ?_⟩
          simp [hj] at hd
          exact hd.symm
        have cell : ∀ (j c : Nat) (x : V), j < len → (en (F j)).cells[c]? = some x → ∃ v, w.cell? ⟨b, o + j * P.cellsOf e + c, none⟩ = some v ∧ v.oneCell' = true ∧ Rep (Env.start w) x v := by
          intro j c x hj hx
          obtain ⟨cs', _, h1, h4⟩ := hF j (by omega)
          obtain ⟨h2, h3⟩ := cells?_get h1
          have hcc : c < P.cellsOf e := by rw [← h2, ← h4.1]; exact (List.getElem?_eq_some_iff.1 hx).1
          obtain ⟨v, h5, h6⟩ := h3 c hcc
          rw [Addr.add_lit, Addr.add_lit] at h6
          exact ⟨v, h6, h4.2.1 v (List.mem_of_getElem? h5), h4.2.2 c x v hx h5⟩
        refine .sl _ _ b o m (fun j c => (w.cell? ⟨b, o + j * P.cellsOf e + c, none⟩).getD undef) (by rw [hlen]; exact hlc) hcm ?_ ?_ ?_
        · intro j d hd
          obtain ⟨hj, rfl⟩ := get j d hd
          obtain ⟨cs', _, h1, h4⟩ := hF j (by omega)
          rw [h4.1, (cells?_get h1).1]
        · intro j c d x hd hx
          obtain ⟨hj, rfl⟩ := get j d hd
          obtain ⟨v, h1, h2, h3⟩ := cell j c x hj hx
          rw [h1]
          exact Env.start_I h1 h2
        · intro j c d x hd hx
          obtain ⟨hj, rfl⟩ := get j d hd
          obtain ⟨v, h1, h2, h3⟩ := cell j c x hj hx
          rw [h1]
          exact h3
      rw [hlen] at key
      exact key

/-- A value by its one cell. -/
theorem Reads.value {α : Type} {t : TypeId} {ok : α → Prop} {en : α → V} (h : Reads enc P w t ok en) (hone : ∀ x, (en x).cells = [en x]) {v : Value} (hv : v.cells = #[v]) {d : DataW H} {ps : List MemPlace} (hr : DataW.Trod enc P w 0 (fun _ => true) true t v d ps) :
    ∃ x, ok x ∧ Rep (Env.start w) (en x) v := by
  obtain ⟨fuel, hr⟩ := hr
  rw [hv] at hr
  obtain ⟨x, h1, h2⟩ := h fuel _ d ps hr
  rw [hone x] at h2
  exact ⟨x, h1, h2.2.2 0 _ _ rfl rfl⟩

/-! ### Behind the call -/

structure Frame (W W' : World) : Prop where
  os : W'.os = W.os
  output : W'.output = W.output
  size : W.heap.size ≤ W'.heap.size
  block : ∀ k, k < W.heap.size → W'.heap[k]? = W.heap[k]?

theorem Frame.same {W W' : World} (h : Frame W W') {p : MemPlace} (hp : p.block < W.heap.size) : W.sameAt W' p := by
  cases p with
  | cell b o => exact World.cell?_of_block (w := W) (h.block b hp)
  | map b => exact h.block b hp

theorem Frame.kept {W W' : World} (h : Frame W W') (may : MemPlace → Prop) : W.keptBut W' may := by
  refine ⟨h.os, h.output, fun i hi => ?_⟩
  rw [h.block i hi]
  exact (World.keptBut_refl W may).2.2 i hi

theorem Frame.frozen {W W' : World} (h : Frame W W') {b o : Nat} (hb : b < W.heap.size) : W'.frozen? ⟨b, o, none⟩ = W.frozen? ⟨b, o, none⟩ := by
  simp only [World.frozen?]
  rw [h.block b hb]

theorem trodAll_stays (hl : laidOutB P = true) {W W' : World} (hf : Frame W W') {sp : Nat → Bool} : ∀ {ts : List TypeId} {vs : List Value} {ds : List (DataW H)} {ps : List MemPlace}, (∀ t ∈ ts, P.readableRec t = true ∧ t < P.types.size) →
    DataW.TrodAll enc P W 0 (fun _ => true) true ts vs ds ps → (∀ p ∈ ps, p.block < W.heap.size) → (∀ p ∈ ps, sp p.block = true) → DataW.TrodAll enc P W' 0 sp true ts vs ds ps
  | [], [], [], ps, _, h, _, _ => h
  | t :: ts, v :: vs, d :: ds, ps, ht, h, hlt, hsp => by
    obtain ⟨p, q, h1, h2, rfl⟩ := h
    refine ⟨p, q, ?_, trodAll_stays hl hf (fun t' h' => ht t' (by simp [h'])) h2 (fun x hx => hlt x (by simp [hx])) (fun x hx => hsp x (by simp [hx])), rfl⟩
    obtain ⟨h3, h4⟩ := ht t (by simp)
    exact Go.WideElems.Trod_stays hl h3 h4 h1 (fun x hx => hf.same (hlt x (by simp [hx]))) (fun x hx => hsp x (by simp [hx]))

/-- A law's end: true, and all stands as it stood. -/
theorem law_post {f : Func} {s : ChangeSpec} {apart fresh handsOn again : Bool} {W W' : World} {args : Array Value} {ds gs : List (DataW H)} {before : List MemPlace} {tb : TypeId}
    (hl : laidOutB P = true) (hts : ∀ t ∈ f.params.toList, P.readableRec t = true ∧ t < P.types.size) (hv : s.vars = []) (hres : f.resultTypes = #[tb]) (hb : P.underlying tb = some .bool)
    (hfn : (s.fn H ds).results = [.lit (.bool true)] ∧ (s.fn H ds).args = ds ∧ (s.fn H ds).vars = [])
    (hW : DataW.Whole enc P f.params.toList s.vars apart W args.toList ds gs before) (hf : Frame W W') : s.post enc P f apart fresh handsOn again W args (.bool true) W' := by
  have hlt := hW.lt
  have hW0 := hW
  obtain ⟨p, q, hA, hV, rfl, hz, hn⟩ := hW
  rw [hv] at hV
  obtain ⟨rfl, rfl⟩ : gs = [] ∧ q = [] := by
    cases gs <;> simp_all [DataW.TrodVars]
  simp only [List.append_nil] at hlt hz hn hW0
  have hargs : ∀ sp : Nat → Bool, (∀ x ∈ p, sp x.block = true) → DataW.TrodAll enc P W' 0 sp true f.params.toList args.toList (s.fn H (ds ++ [])).args p := fun sp hsp => by
    rw [List.append_nil, hfn.2.1]; exact trodAll_stays hl hf hts hA hlt hsp
  have hrs : ∀ (b : Nat) (sp : Nat → Bool) (hd : Bool), DataW.TrodAll enc P W' b sp hd f.resultTypes.toList ((Value.bool true).resultList f.resultTypes.size) (s.fn H (ds ++ [])).results [] := fun b sp hd => by
    rw [List.append_nil, hfn.1, hres]
    exact ⟨[], [], Go.RowKit.shut_bool hb _, rfl, rfl⟩
  have hvs : ∀ sp : Nat → Bool, DataW.TrodVars enc P W' sp s.vars (s.fn H (ds ++ [])).vars [] := fun sp => by
    rw [List.append_nil, hv, hfn.2.2]; exact rfl
  have hold : ∀ x ∈ p, (fun b => decide (b < W.heap.size)) x.block = true := fun x hx => by simpa using hlt x hx
  refine ⟨ds, [], p, [], p, [], ?_, hrs _ _ _, hargs _ hold, hvs _, World.keptBut_mono (fun x hx => ⟨hx, .inr (.inl hx)⟩) (hf.kept _), fun _ => ?_⟩
  · simpa using hW0
  · refine ⟨Go.RowKit.ok_one hres rfl (Go.RowKit.okWide_bool_mk hb _), _, _, ([] ++ p) ++ [], ⟨[] ++ p, [], Go.ChangeShapes.trodAll_append (hargs _ (fun _ _ => rfl)) (hrs _ _ _), hvs _, rfl, ?_, ?_⟩, ?_⟩
    · intro b o hp
      simp only [List.nil_append, List.append_nil] at hp
      rw [hf.frozen (b := b) (hlt _ hp)]
      exact hz b o hp
    · intro ha
      simpa using hn ha
    · intro x hx _
      simpa using hx

/-- A table of a package. -/
theorem rep_tab {W : World} {g n : Nat} {k : IntKind} {zs : List Int} (hn : zs.length = n) (h : ∀ i, i < zs.length → W.cell? ⟨g, i, none⟩ = some (.int k (zs.getD i 0))) :
    Rep (Env.start W) (.ref n [.agg (zs.map (V.int k))] 0 0) (.pointer (some ⟨g, 0, none⟩)) := by
  have key : Rep (Env.start W) (.ref n [.agg (zs.map (V.int k))] 0 0) (.pointer (some ⟨g, 0 + 0 * n + 0, none⟩)) := by
    refine .ref n _ 0 0 g 0 (fun _ c => .int k (zs.getD c 0)) ?_ ?_ ?_
    · intro j d hj
      cases j with
      | zero => simp at hj; subst hj; simp [V.cells, hn]
      | succ j => simp at hj
    · intro j c d x hj hx
      cases j with
      | zero =>
        simp at hj; subst hj
        have hc : c < zs.length := by have := (List.getElem?_eq_some_iff.1 hx).1; simpa [V.cells] using this
        have := h c hc
        rw [show 0 + 0 * n + c = c by omega]
        exact Env.start_I this rfl
      | succ j => simp at hj
    · intro j c d x hj hx
      cases j with
      | zero =>
        simp at hj; subst hj
        have hc : c < zs.length := by have := (List.getElem?_eq_some_iff.1 hx).1; simpa [V.cells] using this
        simp only [V.cells, List.getElem?_map, List.getElem?_eq_getElem hc, Option.map_some, Option.some.injEq] at hx
        subst hx
        rw [List.getD_eq_getElem?_getD, List.getElem?_eq_getElem hc]
        exact .int _ _
      | succ j => simp at hj
  simpa using key

/-- A law's contract as a call from outside. -/
theorem OkP.calls {G : List (Nat × V)} {f : FuncId} {xs : List V} {r : V} (h : OkP P G f xs r) {W : World} {vs : List Value} (hl : vs.length = xs.length) (hr : ∀ (i : Nat) (x : V) (v : Value), xs[i]? = some x → vs[i]? = some v → Rep (Env.start W) x v)
    (hG : ∀ g x, (g, x) ∈ G → Rep (Env.start W) x (.pointer (some ⟨g, 0, none⟩))) : Calls P f vs.toArray W fun e W' => ∃ v E', e = .returned v ∧ Rep E' r v ∧ Frame W W' := by
  refine (h (Env.start W) vs W (fun _ => False) hl hr (Holds.start W G 0) hG).mono ?_
  rintro e W' ⟨v, r', o', E', rfl, ⟨rfl, rfl⟩, hrep, hh⟩
  exact ⟨v, E', rfl, hrep, hh.fr.os, hh.fr.output, hh.fr.size, fun k hk => hh.fr.block k hk (fun h => h)⟩

theorem laidMet_tail {x : String × DataW Unit} {rest : List (String × DataW Unit)} (h : laidMet P (x :: rest) w) : laidMet P rest w := by
  obtain ⟨ps, ⟨g', t', cs, fuel, p, q, _, _, _, _, hrest, rfl⟩, hnd, hc⟩ := h
  exact ⟨q, hrest, (List.nodup_append.1 hnd).2.1, fun b off hm => hc b off (List.mem_append_right _ hm)⟩

end
end Go.Vc
