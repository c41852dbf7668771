/-
  Slices of the call's own: make, literals, append; slices of slices.
-/
import Derived.Test.YtkemjljbmdakbaaDoorVcEff
namespace Go.Vc

section
variable {P : Program} {C : Ctx} {ops : Array Oper} {o : Oper} {l : List Oper} {st : St} {Q : Exit → St → Prop}

/-! ### Literals -/

/-- The cells that 'fill' makes when the parts fill all places in order. -/
theorem fill_all (s : Nat) : ∀ (vs : List (List Value)) (i : Nat) (pre : List Value) (post : List Value) (parts : List (Nat × Value)) (N : Nat),
    pre.length = i * s → post.length = vs.length * s → (∀ v ∈ vs, v.length = s) → pre.length + post.length = N → parts.length = vs.length → (∀ j p, parts[j]? = some p → p.1 = i + j ∧ some p.2.cells.toList = vs[j]?) →
    Instr.fill (fun i => some (i * s, s)) (pre ++ post).toArray parts = some (pre ++ vs.flatten).toArray
  | [], i, pre, post, parts, N, h1, h2, _, _, hl, _ => by
    have hp : parts = [] := List.eq_nil_of_length_eq_zero (by simpa using hl)
    have hpost : post = [] := List.eq_nil_of_length_eq_zero (by simpa using h2)
    subst hp; subst hpost
    simp [Instr.fill]
  | v :: vs, i, pre, post, parts, N, h1, h2, h3, h4, hl, hp => by
    cases parts with
    | nil => simp at hl
    | cons p ps =>
      obtain ⟨pi, pv⟩ := p
      obtain ⟨e1, e2⟩ := hp 0 _ (by rfl)
      simp only [Nat.add_zero] at e1
      simp only [List.getElem?_cons_zero, Option.some.injEq] at e2
      subst e1
      have hv : v.length = s := h3 v (by simp)
      have hsz : pv.cells.size = s := by rw [← Array.length_toList, e2, hv]
      simp only [Instr.fill]
      rw [if_neg (by
        simp only [List.size_toArray, List.length_append, hsz, ne_eq, not_true_eq_false, false_or, gt_iff_lt, Nat.not_lt, Bool.or_eq_true, decide_eq_true_eq]
        simp only [List.length_cons, Nat.succ_mul] at h2
        omega)]
      have hpost : s ≤ post.length := by rw [h2]; simp [Nat.succ_mul]
      have hfold : (pv.cells.zipIdx.foldl (fun cs x => cs.setIfInBounds (pi * s + x.2) x.1) (pre ++ post).toArray) = ((pre ++ v) ++ post.drop s).toArray := by
        have key : ∀ (xs : List Value) (k : Nat) (m rest : List Value), m.length = k → xs.length ≤ rest.length →
            ((xs.zipIdx k).foldl (fun (cs : Array Value) x => cs.setIfInBounds (pi * s + x.2) x.1) (pre ++ m ++ rest).toArray) = (pre ++ m ++ xs ++ rest.drop xs.length).toArray := by
          intro xs
          induction xs with
          | nil => intro k m rest _ _; simp
          | cons x xs ih =>
            intro k m rest hm hx
            cases rest with
            | nil => simp at hx
            | cons r rest =>
              simp only [List.zipIdx_cons, List.foldl_cons]
              have : (pre ++ m ++ r :: rest).toArray.setIfInBounds (pi * s + k) x = (pre ++ (m ++ [x]) ++ rest).toArray := by
                rw [List.setIfInBounds_toArray]
                congr 1
                rw [List.set_append_right _ _ (by simp [h1, hm])]
                simp [h1, hm]
              rw [this, ih (k + 1) (m ++ [x]) rest (by simp [hm]) (by simp at hx; omega)]
              simp
        have h5 := key v 0 [] post rfl (by rw [hv]; exact hpost)
        rw [hv] at h5
        simp only [List.append_nil] at h5
        rw [← h5, ← Array.foldl_toList, Array.toList_zipIdx, e2]
      rw [hfold]
      have ih := fill_all s vs (pi + 1) (pre ++ v) (post.drop s) ps (N) (by simp [h1, hv, Nat.succ_mul]) (by simp [h2, Nat.succ_mul]) (fun u hu => h3 u (by simp [hu])) (by simp [hv]; simp [Nat.succ_mul] at h2; omega) (by simpa using hl)
        (fun j q hq => by
          have := hp (j + 1) q (by simpa using hq)
          refine ⟨by omega, by simpa using this.2⟩)
      rw [ih]
      simp

/-- What a literal slice's parts are. -/
def partsOk (C : Ctx) (st : St) : List (Nat × Operand) → Nat → List V → Prop
  | [], _, ds => ds = []
  | (i, x) :: r, n, d :: ds => i = n ∧ st.val C x = some d ∧ d.fits = true ∧ partsOk C st r (n + 1) ds
  | _ :: _, _, [] => False

theorem partsOk.len {C : Ctx} {st : St} : ∀ {ps : List (Nat × Operand)} {n : Nat} {ds : List V}, partsOk C st ps n ds → ps.length = ds.length
  | [], _, ds, h => by simp [partsOk] at h; simp [h]
  | _ :: r, n, d :: ds, h => by simp [h.2.2.2.len]
  | _ :: _, _, [], h => h.elim

theorem partsOk.get {C : Ctx} {st : St} : ∀ {ps : List (Nat × Operand)} {n : Nat} {ds : List V}, partsOk C st ps n ds → ∀ j p, ps[j]? = some p → p.1 = n + j ∧ ∃ d, ds[j]? = some d ∧ st.val C p.2 = some d ∧ d.fits = true
  | [], _, ds, _, j, p, hp => by simp at hp
  | (i, x) :: r, n, d :: ds, h, 0, p, hp => by
    simp at hp; subst hp
    exact ⟨h.1, d, rfl, h.2.1, h.2.2.1⟩
  | (i, x) :: r, n, d :: ds, h, j + 1, p, hp => by
    obtain ⟨h1, d', h2, h3⟩ := h.2.2.2.get j p (by simpa using hp)
    exact ⟨by omega, d', by simpa using h2, h3⟩
  | _ :: _, _, [], h, _, _, _ => h.elim

theorem flatten_get {s : Nat} : ∀ (ls : List (List Value)), (∀ v ∈ ls, v.length = s) → ∀ (j c : Nat) (v : List Value), ls[j]? = some v → c < s → ls.flatten[j * s + c]? = v[c]?
  | [], _, j, c, v, h, _ => by simp at h
  | u :: ls, hs, 0, c, v, h, hc => by
    simp at h; subst h
    have := hs u (by simp)
    simp only [Nat.zero_mul, Nat.zero_add, List.flatten_cons]
    rw [List.getElem?_append_left (by omega)]
  | u :: ls, hs, j + 1, c, v, h, hc => by
    have hu := hs u (by simp)
    have := flatten_get ls (fun v hv => hs v (by simp [hv])) j c v (by simpa using h) hc
    simp only [List.flatten_cons]
    rw [List.getElem?_append_right (by rw [hu, Nat.succ_mul]; omega), ← this]
    congr 1
    rw [hu, Nat.succ_mul]; omega

theorem flatten_len {s : Nat} : ∀ (ls : List (List Value)), (∀ v ∈ ls, v.length = s) → ls.flatten.length = ls.length * s
  | [], _ => by simp
  | u :: ls, hs => by
    rw [List.flatten_cons, List.length_append, hs u (by simp), flatten_len ls (fun v hv => hs v (by simp [hv])), List.length_cons, Nat.succ_mul, Nat.add_comm]

/-- A literal's run. -/
theorem run_buildSlice {t e : TypeId} {sz by_ s by' n : Nat} {z : Value} {parts : Array (Nat × Operand)} {ds : List V} (ht : TyF P t (.slice e) sz by_) (he : SizeF P e s by') (hz : ZeroF P e z)
    (hparts : partsOk C st parts.toList 0 ds) (hn : n = ds.length) (hlen : ∀ d ∈ ds, d.cells.length = s) (hbig : n * s ≤ 2 ^ 24) {a : Act} {w : World} {E : Env} (hR : R C st a w E) :
    ∃ cs : List Value, cs.length = n * s ∧ (Instr.buildSlice t n (parts.map fun x => (x.1, a.eval x.2))).run P w = .ok (.slice (some ⟨w.heap.size, 0, none⟩) n n) (w.alloc (.cells cs.toArray e)) ∧
      (∀ v ∈ cs, v.oneCell' = true) ∧ ∀ (j c : Nat) (d x : V), ds[j]? = some d → d.cells[c]? = some x → ∃ v, cs[j * s + c]? = some v ∧ Rep E x v := by
  let vs : List (List Value) := parts.toList.map fun p => (a.eval p.2).cells.toList
  have hvs : ∀ (j : Nat) (d : V), ds[j]? = some d → ∃ v, vs[j]? = some v ∧ Lies E d v := by
    intro j d hd
    have hj : j < parts.toList.length := by rw [hparts.len]; exact (List.getElem?_eq_some_iff.1 hd).1
    obtain ⟨_, d', hd', hval, hfit⟩ := hparts.get j _ (List.getElem?_eq_getElem hj)
    rw [hd] at hd'; cases hd'
    refine ⟨_, by simp only [vs, List.getElem?_map, List.getElem?_eq_getElem hj, Option.map_some], (hR.val hval).lies hfit⟩
  have hvl : ∀ v ∈ vs, v.length = s := by
    intro v hv
    obtain ⟨j, hj⟩ := List.mem_iff_getElem?.1 hv
    have hj2 : j < ds.length := by rw [← hparts.len]; have := (List.getElem?_eq_some_iff.1 hj).1; simpa [vs] using this
    obtain ⟨v', h1, h2⟩ := hvs j _ (List.getElem?_eq_getElem hj2)
    rw [hj] at h1; cases h1
    rw [h2.1]; exact hlen _ (List.getElem_mem hj2)
  have hvlen : vs.length = n := by simp only [vs, List.length_map]; rw [hparts.len, hn]
  refine ⟨vs.flatten, by rw [flatten_len vs hvl, hvlen], ?_, ?_, ?_⟩
  · have hfill := fill_all s vs 0 [] ((List.range (n * s)).map fun i => z.cells[i % z.cells.size]!) (parts.toList.map fun x => (x.1, a.eval x.2)) (n * s) (by simp) (by simp [hvlen]) hvl (by simp)
      (by simp [vs]) (fun j p hp => by
        simp only [List.getElem?_map, Option.map_eq_some_iff] at hp
        obtain ⟨q, hq, rfl⟩ := hp
        refine ⟨(hparts.get j q hq).1, ?_⟩
        simp only [vs, List.getElem?_map, hq, Option.map_some])
    simp only [List.nil_append] at hfill
    simp only [Instr.buildSlice, Sem.run_bind, run_underlying ht.u, Result.andThen_ok, he.run_size]
    rw [if_neg (by simpa using hbig)]
    by_cases h0 : n * s = 0
    · rw [if_pos h0]
      have hfl : vs.flatten = [] := List.eq_nil_of_length_eq_zero (by rw [flatten_len vs hvl, hvlen, h0])
      rw [h0, hfl] at hfill
      have hn0 : ∀ zz : Array Value, (Array.map (fun x => zz[x % zz.size]!) (Array.range 0)) = #[] := fun _ => by simp [Array.range]
      simp only [h0, hn0, Array.toList_map]
      simp only [List.range_zero, List.map_nil] at hfill
      rw [hfill, hfl]
      simp [newRow]
    · rw [if_neg h0]
      simp only [Sem.run_bind, hz.run, Result.andThen_ok, Sem.run_pure]
      have harr : (Array.map (fun x => z.cells[x % z.cells.size]!) (Array.range (n * s))) = ((List.range (n * s)).map fun i => z.cells[i % z.cells.size]!).toArray := by
        apply Array.ext'
        simp
      rw [harr, Array.toList_map, hfill]
      simp [newRow]
  · intro v hv
    simp only [List.mem_flatten] at hv
    obtain ⟨u, hu, hvu⟩ := hv
    obtain ⟨j, hj⟩ := List.mem_iff_getElem?.1 hu
    have hj2 : j < ds.length := by rw [← hn, ← hvlen]; exact (List.getElem?_eq_some_iff.1 hj).1
    obtain ⟨v', h1, h2⟩ := hvs j _ (List.getElem?_eq_getElem hj2)
    rw [hj] at h1; cases h1
    exact h2.2.1 v hvu
  · intro j c d x hd hx
    obtain ⟨v, h1, h2⟩ := hvs j d hd
    have hcs : c < s := by rw [← hlen d (List.mem_of_getElem? hd)]; exact (List.getElem?_eq_some_iff.1 hx).1
    rw [flatten_get vs hvl j c v h1 hcs]
    have hlt : c < v.length := by rw [hvl v (List.mem_of_getElem? h1)]; exact hcs
    exact ⟨_, List.getElem?_eq_getElem hlt, h2.2.2 c x _ hx (List.getElem?_eq_getElem hlt)⟩

/-- A literal slice that is never written. -/
theorem pure_buildSlice {t e : TypeId} {sz by_ s by' n : Nat} {z : Value} {parts : Array (Nat × Operand)} {ds : List V} (ht : TyF P t (.slice e) sz by_) (he : SizeF P e s by') (hz : ZeroF P e z)
    (ho : o.op = .buildSlice t n parts) (hparts : partsOk C st parts.toList 0 ds) (hn : n = ds.length) (hlen : ∀ d ∈ ds, d.cells.length = s) (hbig : n * s ≤ 2 ^ 24) (hs0 : 0 < s) : PureOp P C o st (.sl s ds) :=
  .run fun a w E hR => by
    obtain ⟨cs, hcl, hrun, h1, hr⟩ := run_buildSlice ht he hz hparts hn hlen hbig hR
    have h1' : ∀ (j : Nat) (v : Value), cs.toArray[j]? = some v → v.oneCell' = true := fun j v hv => h1 v (List.mem_of_getElem? (by simpa using hv))
    obtain ⟨hh, hle⟩ := hR.holds.newImm (b := w.heap.size) (cur := cs.toArray) (e := e) (f := (0, 0)) h1' (World.grownBy_alloc w _ none) (Nat.le_refl _) (heap_alloc_new w _)
    refine ⟨.slice (some ⟨w.heap.size, 0, none⟩) n n, _, _, hle, ?_, hh, by simp only [execOp, ho, Sem.run_bind, hrun, Result.andThen_ok, Sem.run_pure]⟩
    subst hn
    refine .sl s ds w.heap.size 0 ds.length (fun j c => (cs[j * s + c]?).getD undef) (Nat.le_refl _) ?_ (fun j d hd => hlen d (List.mem_of_getElem? hd)) ?_ ?_
    · have : ds.length ≤ ds.length * s := Nat.le_mul_of_pos_right _ hs0
      simp only [maxLen]; omega
    · intro j c d x hd hx
      obtain ⟨v, hv, _⟩ := hr j c d x hd hx
      simp [Env.addI, hv]
    · intro j c d x hd hx
      obtain ⟨v, hv, hrv⟩ := hr j c d x hd hx
      simp only [hv, Option.getD_some]
      exact hrv.mono hle


/-- A literal slice of the call's own. -/
theorem OpsS.buildSlice {t e : TypeId} {sz by_ s by' n : Nat} {z : Value} {parts : Array (Nat × Operand)} {ds : List V} (hg : st.guard ops o = some true) (ht : TyF P t (.slice e) sz by_) (he : SizeF P e s by') (hz : ZeroF P e z)
    (ho : o.op = .buildSlice t n parts) (hparts : partsOk C st parts.toList 0 ds) (hn : n = ds.length) (hlen : ∀ d ∈ ds, d.cells.length = s) (hbig : n * s ≤ 2 ^ 24) (hs0 : 0 < s)
    (h : ∀ q, OpsS P C ops l (({ st with obj := st.obj ++ [(q, .row 0 s e ds)] } : St).put o.dst (.osl q 0 0 n)) Q) : OpsS P C ops (o :: l) st Q :=
  .eff hg fun a w E hR => by
    obtain ⟨cs, hcl, hrun, h1, hr⟩ := run_buildSlice ht he hz hparts hn hlen hbig hR
    have hle : E.le (E.setm E.n ⟨some w.heap.size, 0, 0, cs.length, s⟩) := Env.le_setm fun l1 h1 => by rw [E.fresh _ (Nat.le_refl _)] at h1; cases h1
    have hh := hR.holds.new (o' := .row 0 s e ds) (l' := ⟨some w.heap.size, 0, 0, cs.length, s⟩) (w' := w.alloc (.cells cs.toArray e)) (.inr ⟨w.heap.size, rfl, Nat.le_refl _⟩) (World.grownBy_alloc w _ none)
      ⟨rfl, rfl, .inr ⟨w.heap.size, cs.toArray, rfl, heap_alloc_new w _, by simp, by simp [hcl, hn], fun j v hv => h1 v (List.mem_of_getElem? (by simpa using hv)), fun j d hd => hlen d (List.mem_of_getElem? hd), fun j c d x hd hx => by
        obtain ⟨v, hv, hrv⟩ := hr j c d x hd hx
        exact ⟨v, by simpa using hv, hrv.mono hle⟩⟩⟩
    refine ⟨.slice (some ⟨w.heap.size, 0, none⟩) n n, _, _, .osl E.n 0 0 n, _, hle, ?_, hh, .inl (by simp only [execOp, ho, Sem.run_bind, hrun, Result.andThen_ok, Sem.run_pure]), h E.n⟩
    have hm : n ≤ maxLen := by
      have : n ≤ n * s := Nat.le_mul_of_pos_right _ hs0
      simp only [maxLen]; omega
    exact .osl _ _ _ _ _ _ (E.setm_same _ _) (Nat.le_refl _) rfl fun _ => .inr ⟨w.heap.size, 0, n, rfl, rfl, Nat.le_refl _, hm, .inr ⟨by simp, by simp [hcl]⟩⟩

/-- 'make' of a slice: n zero elements, the call's own. -/
theorem OpsS.makeSlice {t e : TypeId} {sz by_ s by' : Nat} {z : Value} {x y : Operand} {k k' : IntKind} {n m : Nat} {i j : Int} (hg : st.guard ops o = some true) (ht : TyF P t (.slice e) sz by_) (he : SizeF P e s by') (hz : ZeroF P e z) (hzs : z.cells.size = s)
    (ho : o.op = .makeSlice t x y) (hx : st.val C x = some (.int k i)) (hi : i = (n : Int)) (hy : st.val C y = some (.int k' j)) (hj : j = (m : Int)) (hnm : n ≤ m) (hm : m ≤ maxLen) (hbig : m * by' ≤ 2 ^ 48) (hs0 : 0 < s)
    (h : ∀ q, OpsS P C ops l (({ st with obj := st.obj ++ [(q, .row 0 s e (List.replicate n (V.zero z)))] } : St).put o.dst (.osl q 0 0 n)) Q) : OpsS P C ops (o :: l) st Q :=
  .eff hg fun a w E hR => by
    subst hi; subst hj
    have h1 := hR.val hx
    have h2 := hR.val hy
    generalize hu : a.eval x = u at h1
    generalize hv : a.eval y = v at h2
    cases h1; cases h2
    have hl := Lies.zero hz E
    obtain ⟨ti, hti, hts, htb⟩ := he.info
    have hzl : z.cells.toList.length = s := by simpa using hzs
    let cs : List Value := (List.replicate m z.cells.toList).flatten
    have hcsl : cs.length = m * s := by
      rw [flatten_len (s := s) _ (fun v hv => by rw [List.eq_of_mem_replicate hv, hzl])]; simp
    have hget : ∀ (jj c : Nat), jj < m → c < s → cs[jj * s + c]? = z.cells.toList[c]? := fun jj c hj hc =>
      flatten_get (s := s) _ (fun v hv => by rw [List.eq_of_mem_replicate hv, hzl]) jj c _ (by rw [List.getElem?_replicate, if_pos hj]) hc
    have hone : ∀ v ∈ cs, v.oneCell' = true := by
      intro v hv
      simp only [cs, List.mem_flatten] at hv
      obtain ⟨u, hu, hvu⟩ := hv
      rw [List.eq_of_mem_replicate hu] at hvu
      exact hl.2.1 v hvu
    have hrun : (Instr.makeSlice t (.int k n) (.int k' m)).run P w = .ok (.slice (some ⟨w.heap.size, 0, none⟩) n m) (w.alloc (.cells cs.toArray e)) := by
      have hw1 : IntKind.i64.wrap (n : Int) = n := wrap_in (by simp only [maxLen] at hm; simp [inK, IntKind.min, IntKind.max, IntKind.signed, IntKind.bits]; omega)
      have hw2 : IntKind.i64.wrap (m : Int) = m := wrap_in (by simp only [maxLen] at hm; simp [inK, IntKind.min, IntKind.max, IntKind.signed, IntKind.bits]; omega)
      have hbig' : ¬ ((by' : Int) * (m : Int) > 2 ^ 48) := by
        have : ((m * by' : Nat) : Int) ≤ 2 ^ 48 := by exact_mod_cast hbig
        rw [Nat.mul_comm] at this
        push_cast at this; omega
      simp only [Instr.makeSlice, Sem.run_bind, run_underlying ht.u, Result.andThen_ok, asInt, asIntOf, Sem.run_pure, typeInfo, run_program, hti, htb, hw1, hw2]
      have hc1 : (decide ((m : Int) < 0) || decide ((by' : Int) * (m : Int) > 2 ^ 48) || decide ((n : Int) < 0) || decide ((n : Int) > (m : Int))) = false := by
        simp only [Bool.or_eq_false_iff, decide_eq_false_iff_not]
        refine ⟨⟨⟨by omega, hbig'⟩, by omega⟩, by omega⟩
      rw [if_neg (by rw [hc1]; simp)]
      simp only [Sem.run_bind, run_askRoom, Result.andThen_ok, he.run_size, Int.toNat_natCast]
      have harr : ∀ zz : Array Value, zz = z.cells → (Array.map (fun x => zz[x % zz.size]!) (Array.range (m * s))) = cs.toArray := by
        intro zz hzz
        subst hzz
        apply Array.ext'
        simp only [Array.toList_map, Array.toList_range]
        apply List.ext_getElem?
        intro q
        simp only [List.getElem?_map]
        by_cases hq : q < m * s
        · have hqd : q = q / s * s + q % s := by rw [Nat.mul_comm]; exact (Nat.div_add_mod q s).symm
          have hjm : q / s < m := (Nat.div_lt_iff_lt_mul hs0).2 hq
          have hcm : q % s < s := Nat.mod_lt _ hs0
          rw [List.getElem?_range hq]
          conv => rhs; rw [hqd]
          rw [hget _ _ hjm hcm, hzs]
          simp only [Option.map_some]
          rw [getElem!_pos z.cells (q % s) (by rw [hzs]; exact hcm)]
          rw [Array.getElem?_toList, Array.getElem?_eq_getElem (by rw [hzs]; exact hcm)]
        · rw [List.getElem?_eq_none (by simp; omega), List.getElem?_eq_none (by omega)]; rfl
      by_cases h0 : m * s = 0
      · rw [if_pos h0]
        have hcs0 : cs = [] := List.eq_nil_of_length_eq_zero (by rw [hcsl, h0])
        simp only [h0, hcs0]
        simp [newRow, Array.range]
      · rw [if_neg h0]
        simp only [Sem.run_bind, hz.run, Result.andThen_ok, Sem.run_pure, harr z.cells rfl]
        simp [newRow]
    have hle : E.le (E.setm E.n ⟨some w.heap.size, 0, 0, cs.length, s⟩) := Env.le_setm fun l1 h1 => by rw [E.fresh _ (Nat.le_refl _)] at h1; cases h1
    have hzc : (V.zero z).cells.length = s := by rw [← hl.1, hzl]
    have hh := hR.holds.new (o' := .row 0 s e (List.replicate n (V.zero z))) (l' := ⟨some w.heap.size, 0, 0, cs.length, s⟩) (w' := w.alloc (.cells cs.toArray e)) (.inr ⟨w.heap.size, rfl, Nat.le_refl _⟩) (World.grownBy_alloc w _ none)
      ⟨rfl, rfl, .inr ⟨w.heap.size, cs.toArray, rfl, heap_alloc_new w _, by simp, by simp [hcsl]; exact Nat.mul_le_mul_right _ hnm, fun j v hv => hone v (List.mem_of_getElem? (by simpa using hv)),
        fun j d hd => by rw [List.getElem?_replicate] at hd; split at hd <;> simp at hd; subst hd; exact hzc,
        fun j c d x hd hx => by
          rw [List.getElem?_replicate] at hd
          split at hd <;> simp at hd
          rename_i hj
          subst hd
          have hc : c < s := by rw [← hzc]; exact (List.getElem?_eq_some_iff.1 hx).1
          have hlt : c < z.cells.toList.length := by rw [hzl]; exact hc
          refine ⟨z.cells.toList[c], ?_, (hl.2.2 c x _ hx (List.getElem?_eq_getElem hlt)).mono hle⟩
          simp only [Nat.zero_add, List.getElem?_toArray]
          rw [hget j c (by omega) hc, List.getElem?_eq_getElem hlt]⟩⟩
    refine ⟨.slice (some ⟨w.heap.size, 0, none⟩) n m, _, _, .osl E.n 0 0 n, _, hle, ?_, hh, .inl (by simp only [execOp, ho, hu, hv, Sem.run_bind, hrun, Result.andThen_ok, Sem.run_pure]), h E.n⟩
    exact .osl _ _ _ _ _ _ (E.setm_same _ _) (Nat.le_refl _) rfl fun _ => .inr ⟨w.heap.size, 0, m, rfl, rfl, hnm, hm, .inr ⟨by simp, by simp [hcsl]⟩⟩

/-! ### append -/

/-- What is appended: m elements, as lists of cells; the run that reads them. -/
structure Src (P : Program) (C : Ctx) (st : St) (x : Operand) (xt : TypeId) (s m : Nat) (ds : List V) : Prop where
  len : ds.length = m
  cells : ∀ d ∈ ds, d.cells.length = s
  notint : P.underlying xt = some .string ∨ ∃ e, P.underlying xt = some (.slice e)
  run : ∀ a w E, R C st a w E → ∃ cs : List Value, cs.length = m * s ∧ (∀ v ∈ cs, v.oneCell' = true) ∧
    (Builtin.lenOf (a.eval x)).run P w = .ok m w ∧ (∀ w', w'.heap = w.heap → (Builtin.firstCells s m (a.eval x)).run P w' = .ok cs.toArray w') ∧
    ∀ (j c : Nat) (d y : V), ds[j]? = some d → d.cells[c]? = some y → ∃ v, cs[j * s + c]? = some v ∧ Rep E y v

theorem cell?_of_heap {w w' : World} (h : w'.heap = w.heap) (a : Addr) : w'.cell? a = w.cell? a := by simp [World.cell?, h]

theorem Src.sl {x : Operand} {xt e : TypeId} {sz by_ s : Nat} {row : List V} (ht : TyF P xt (.slice e) sz by_) (hx : st.val C x = some (.sl s row)) (hc : ∀ d ∈ row, d.cells.length = s) : Src P C st x xt s row.length row := by
  refine ⟨rfl, hc, .inr ⟨_, ht.u⟩, fun a w E hR => ?_⟩
  have h1 := hR.val hx
  generalize a.eval x = v at h1
  cases h1 with
  | slnil => exact ⟨[], by simp, by simp, by simp [Builtin.lenOf], fun w' _ => by simp [Builtin.firstCells], by simp⟩
  | slemp s ad => exact ⟨[], by simp, by simp, by simp [Builtin.lenOf], fun w' _ => by
      have := run_firstCells_some (P := P) w' s 0 ad 0 0 [] (by simp) (by simp)
      simpa using this, by simp⟩
  | sl _ _ b base cap val hcap hmax hs hI hr =>
    let cs : List Value := (row.zipIdx.map fun p => (List.range s).map fun c => val p.2 c).flatten
    have hvl : ∀ v ∈ (row.zipIdx.map fun p => (List.range s).map fun c => val p.2 c), v.length = s := by
      intro v hv
      simp only [List.mem_map] at hv
      obtain ⟨p, _, rfl⟩ := hv
      simp
    have hcsl : cs.length = row.length * s := by rw [flatten_len _ hvl]; simp
    have hget : ∀ j c, j < row.length → c < s → cs[j * s + c]? = some (val j c) := fun j c hj hc => by
      rw [flatten_get _ hvl j c ((List.range s).map fun c => val j c) (by simp [hj]) hc]
      simp [hc]
    have hI' : ∀ j c, j < row.length → c < s → E.I b (base + j * s + c) = some (val j c) := fun j c hj hc => by
      have hd := hs j _ (List.getElem?_eq_getElem hj)
      exact hI j c _ _ (List.getElem?_eq_getElem hj) (List.getElem?_eq_getElem (by omega))
    have hall : ∀ (q : Nat) (v : Value), cs[q]? = some v → E.I b (base + q) = some v := by
      intro q v hq
      have hqlt : q < row.length * s := by rw [← hcsl]; exact (List.getElem?_eq_some_iff.1 hq).1
      have hs0 : 0 < s := by rcases Nat.eq_zero_or_pos s with h | h; · rw [h] at hqlt; omega
                             · exact h
      have hqd : q = q / s * s + q % s := by rw [Nat.mul_comm]; exact (Nat.div_add_mod q s).symm
      have hj : q / s < row.length := (Nat.div_lt_iff_lt_mul hs0).2 hqlt
      have hc' : q % s < s := Nat.mod_lt _ hs0
      have h1 := hget _ _ hj hc'
      rw [← hqd, hq] at h1
      cases h1
      have h2 := hI' _ _ hj hc'
      rw [Nat.add_assoc, ← hqd] at h2
      exact h2
    refine ⟨cs, hcsl, fun v hv => ?_, by simp [Builtin.lenOf], fun w' hw' => ?_, fun j c d y hd hy => ?_⟩
    · obtain ⟨q, hq⟩ := List.mem_iff_getElem?.1 hv
      exact E.one _ _ _ (hall q v hq)
    · refine run_firstCells_some (P := P) w' s row.length ⟨b, base, none⟩ row.length cap cs hcsl fun j v hj => ?_
      rw [Addr.add_lit, cell?_of_heap hw']
      exact hR.holds.imm _ _ _ (hall j v hj)
    · have hj : j < row.length := (List.getElem?_eq_some_iff.1 hd).1
      have hc' : c < s := by rw [← hc d (List.mem_of_getElem? hd)]; exact (List.getElem?_eq_some_iff.1 hy).1
      exact ⟨_, hget j c hj hc', hr j c d y hd hy⟩

theorem Src.nil {x : Operand} {xt e : TypeId} {sz by_ s : Nat} (ht : TyF P xt (.slice e) sz by_) (hx : st.val C x = some .nilsl) : Src P C st x xt s 0 [] := by
  refine ⟨rfl, by simp, .inr ⟨_, ht.u⟩, fun a w E hR => ?_⟩
  have h1 := hR.val hx
  generalize a.eval x = v at h1
  cases h1
  exact ⟨[], by simp, by simp, by simp [Builtin.lenOf], fun w' _ => by simp [Builtin.firstCells], by simp⟩

def byteV (b : UInt8) : V := .int .u8 b.toNat

theorem Src.str {x : Operand} {xt : TypeId} {sz by_ : Nat} {bs : List UInt8} (ht : TyF P xt .string sz by_) (hx : st.val C x = some (.str bs)) : Src P C st x xt 1 bs.length (bs.map byteV) := by
  refine ⟨by simp, by simp [byteV, V.cells], .inl ht.u, fun a w E hR => ?_⟩
  have h1 := hR.val hx
  generalize a.eval x = v at h1
  cases h1
  refine ⟨bs.map fun b => .int .u8 b.toNat, by simp, by simp [Value.oneCell'], by simp [Builtin.lenOf, ba_size], fun w' _ => ?_, fun j c d y hd hy => ?_⟩
  · simp only [Builtin.firstCells, Sem.run_pure]
    congr 1
    have : (⟨bs.toArray⟩ : ByteArray).extract 0 bs.length = ⟨bs.toArray⟩ := by
      rw [Lib.extract_eq]; simp
    rw [this]
    simp
  · simp only [List.getElem?_map, Option.map_eq_some_iff] at hd
    obtain ⟨b, hb, rfl⟩ := hd
    simp only [byteV, V.cells] at hy
    cases c with
    | zero => simp at hy; subst hy; exact ⟨.int .u8 b.toNat, by simp [hb], .int _ _⟩
    | succ c => simp at hy

theorem Src.osl {x : Operand} {xt e : TypeId} {sz by_ : Nat} {id ver off len k s : Nat} {e' : TypeId} {elems : List V} (ht : TyF P xt (.slice e) sz by_) (hx : st.val C x = some (.osl id ver off len))
    (hk : st.obj[k]? = some (id, .row ver s e' elems)) (hfit : off + len ≤ elems.length) (hall : ∀ d ∈ elems, d.cells.length = s) : Src P C st x xt s len ((elems.drop off).take len) := by
  refine ⟨by simp; omega, fun d hd => hall d (List.mem_of_mem_drop (List.mem_of_mem_take hd)), .inr ⟨_, ht.u⟩, fun a w E hR => ?_⟩
  obtain ⟨lo, hl, hrel, h⟩ := hR.osl hx hk
  rcases h with ⟨_, rfl, hv⟩ | ⟨b, o', cap, hb, hv, hlc, hcm, hc⟩
  · exact ⟨[], by simp, by simp, by simp [hv, Builtin.lenOf], fun w' _ => by simp [hv, Builtin.firstCells], by simp⟩
  · obtain ⟨_, hs, ⟨h3, _⟩ | ⟨b', cur, hb', hcur, hz, hf, h1, hde, hr⟩⟩ := hrel
    · rw [hb] at h3; cases h3
    rw [hb] at hb'; cases hb'
    by_cases h0 : len = 0
    · subst h0
      exact ⟨[], by simp, by simp, by simp [hv, Builtin.lenOf], fun w' _ => by simp [hv, Builtin.firstCells, loadCells, loadCellsFrom], by simp⟩
    have hc' : o' = lo.base + off * lo.s ∧ lo.base + (off + cap) * lo.s ≤ lo.size := by
      rcases hc with hc | hc
      · omega
      · exact hc
    obtain ⟨rfl, hcap⟩ := hc'
    rw [hs] at hf hcap
    have hle : (off + len) * s ≤ elems.length * s := Nat.mul_le_mul_right _ hfit
    rw [Nat.add_mul] at hle
    let cs : List Value := (cur.toList.drop (lo.base + off * s)).take (len * s)
    have hcsl : cs.length = len * s := by simp only [cs, List.length_take, List.length_drop, Array.length_toList, hz]; omega
    have hget : ∀ q, q < len * s → cs[q]? = cur[lo.base + off * s + q]? := fun q hq => by
      simp only [cs, List.getElem?_take, if_pos hq, List.getElem?_drop, Array.getElem?_toList]
    refine ⟨cs, hcsl, fun v hv => ?_, by simp [hv, Builtin.lenOf], fun w' hw' => ?_, fun j c d y hd hy => ?_⟩
    · obtain ⟨q, hq⟩ := List.mem_iff_getElem?.1 hv
      have hql : q < len * s := by rw [← hcsl]; exact (List.getElem?_eq_some_iff.1 hq).1
      rw [hget q hql] at hq
      exact h1 _ _ hq
    · rw [hv]
      refine run_firstCells_some (P := P) w' s len ⟨b, lo.base + off * lo.s, none⟩ len cap cs hcsl fun j v hj => ?_
      have hql : j < len * s := by rw [← hcsl]; exact (List.getElem?_eq_some_iff.1 hj).1
      rw [hget j hql] at hj
      rw [Addr.add_lit, cell?_of_heap hw', hs]
      simp [World.cell?, hcur, hj]
    · have hj : j < len := by have := (List.getElem?_eq_some_iff.1 hd).1; simp at this; omega
      rw [List.getElem?_take, if_pos hj, List.getElem?_drop] at hd
      have hcs : c < s := by rw [← hall d (List.mem_of_getElem? hd)]; exact (List.getElem?_eq_some_iff.1 hy).1
      obtain ⟨v, hv1, hv2⟩ := hr (off + j) c d y hd hy
      have hlt : j * s + c < len * s := by
        have : (j + 1) * s ≤ len * s := Nat.mul_le_mul_right _ hj
        rw [Nat.succ_mul] at this; omega
      refine ⟨v, ?_, hv2⟩
      rw [hget _ hlt, ← hv1, hs, Nat.add_mul]
      congr 1; omega

section gen
variable {t xt ty e : TypeId} {sz by_ s by' : Nat} {z : Value} (ht : TyF P t (.slice e) sz by_) (he : SizeF P e s by') (hz : ZeroF P e z) (hzs : z.cells.size = s)
  {w : World} {y : Value} {m : Nat} {news : List Value} (hnl : news.length = m * s) (hxt : P.underlying xt = some .string ∨ ∃ e, P.underlying xt = some (.slice e))
  (hlen : (Builtin.lenOf y).run P w = .ok m w) (hnews : ∀ w', w'.heap = w.heap → (Builtin.firstCells s m y).run P w' = .ok news.toArray w')
include ht he hxt hlen

theorem run_append_gen_nil0 (hm : m = 0) (hnews : (Builtin.firstCells s m y).run P w = .ok #[] w) : (Builtin.append_ #[t, xt] ty #[.slice none 0 0, y]).run P w = .ok (.slice none 0 0) w := by
  subst hm
  rcases hxt with hx | ⟨e', hx⟩ <;> simp [Builtin.append_, run_underlying ht.u, he.run_size, run_underlying hx, hlen, hnews]

theorem run_append_gen_room (g oo n cap : Nat) (cur : Array Value) (hg : w.heap[g]? = some (.cells cur e (0, 0))) (hone : ∀ v ∈ news, v.oneCell' = true) (hnews : (Builtin.firstCells s m y).run P w = .ok news.toArray w)
    (hroom : n + m ≤ cap) (hfit : news = [] ∨ oo + n * s + news.length ≤ cur.size) :
    (Builtin.append_ #[t, xt] ty #[.slice (some ⟨g, oo, none⟩) n cap, y]).run P w =
      .ok (.slice (some ⟨g, oo, none⟩) (n + m) cap) (if news = [] then w else w.setRow g (cur.toList.take (oo + n * s) ++ news ++ cur.toList.drop (oo + n * s + news.length)).toArray) := by
  by_cases h0 : news = []
  · subst h0
    rcases hxt with hx | ⟨e', hx⟩ <;> simp [Builtin.append_, run_underlying ht.u, he.run_size, run_underlying hx, hlen, hnews, hroom, storeCells]
  · have hst := run_storeCells_at P g (oo + n * s) e news 0 cur w hg (by simpa using hfit.resolve_left h0) hone
    simp only [Nat.add_zero] at hst
    rcases hxt with hx | ⟨e', hx⟩ <;> simp [Builtin.append_, run_underlying ht.u, he.run_size, run_underlying hx, hlen, hnews, hroom, h0, Addr.add_lit, hst]

include hz hnews in
omit hzs hnl in
theorem run_append_gen_grow (x : Value) (base : Option Addr) (n cap : Nat) (hx : x = .slice base n cap) (olds : List Value) (holds : (Builtin.firstCells s n x).run P w.drew = .ok olds.toArray w.drew)
    (hg : cap < n + m) (h63 : n + m ≤ maxLen) (hfit : (n + m) * by' ≤ 140737488355328) :
    (Builtin.append_ #[t, xt] ty #[x, y]).run P w =
      .ok (.slice (some ⟨w.heap.size, 0, none⟩) (n + m) (grownCap w (n + m) cap e))
        (w.drew.alloc (.cells (olds.toArray ++ news.toArray ++ Builtin.zeroCells z.cells (grownCap w (n + m) cap e - (n + m))) e)) := by
  obtain ⟨i, hi, _, hbi⟩ := he.info
  subst hx
  have hn : ¬ (n + m ≤ cap) := by omega
  have h63' : ¬ ((9223372036854775807 : Int) < (n : Int) + (m : Int)) := by simp only [maxLen] at h63; omega
  have h48' : ¬ (281474976710656 < Builtin.nextslicecap (n + m) cap * by') := by have := growslice_fits hg hfit; omega
  have hf := hnews w.drew rfl
  have hzz := hz.run w.drew
  rcases hxt with hx | ⟨e', hx⟩ <;> simp [Builtin.append_, run_underlying ht.u, he.run_size, run_underlying hx, hlen, typeInfo, hi, hbi, hn, h63', h48', Question.forced, newRow, hzz, hf, holds, grownCap] <;> (congr 2; apply Array.ext'; simp [List.append_assoc])
end gen

theorem eff_append_core {t xt e : TypeId} {sz by_ s by' : Nat} {z : Value} {x y : Operand} {id ver off len k m : Nat} {elems ds : List V} (ht : TyF P t (.slice e) sz by_) (he : SizeF P e s by') (hz : ZeroF P e z) (hzs : z.cells.size = s)
    (ho : o.op = .call { callee := .builtin .append, args := #[x, y], argTypes := #[t, xt] }) (hk : st.obj[k]? = some (id, .row ver s e elems)) (hfit : off + len ≤ elems.length)
    (hsrc : Src P C st y xt s m ds) (h63 : len + m ≤ maxLen) (hbytes : (len + m) * by' ≤ 140737488355328) :
    ∀ a w E, R C st a w E → (∃ l, E.m id = some l ∧ ObjRel E w l (.row ver s e elems) ∧ ((l.blk = none ∧ len = 0 ∧ a.eval x = .slice none 0 0) ∨
        ∃ b o cap, l.blk = some b ∧ a.eval x = .slice (some ⟨b, o, none⟩) len cap ∧ len ≤ cap ∧ cap ≤ maxLen ∧ (cap = 0 ∨ (o = l.base + off * l.s ∧ l.base + (off + cap) * l.s ≤ l.size)))) → ∃ v w' E' r' obj'', E.le E' ∧ Rep E' r' v ∧ Holds C E' obj'' w' ∧ ((execOp a.eval o).run P w = .ok (.value v) w' ∨ (v = undef ∧ (execOp a.eval o).run P w = .ok .skip w')) ∧
      (r' = .osl id (ver + 1) 0 (len + m) ∧ obj'' = st.obj.set k (id, .row (ver + 1) s e ((elems.drop off).take len ++ ds))) :=
  fun a w E hR hxv => by
    obtain ⟨lo, hl, hrel, hval⟩ := hxv
    obtain ⟨news, hnl, hone, hlen, hnews, hnr⟩ := hsrc.run a w E hR
    obtain ⟨hver, hs, hcase⟩ := hrel
    have hexec : ∀ v w', (Builtin.append_ #[t, xt] o.type #[a.eval x, a.eval y]).run P w = .ok v w' → (execOp a.eval o).run P w = .ok (.value v) w' := by
      intro v w' hr
      simp only [execOp, ho, Sem.run_bind, resolve, List.map_toArray, List.map_cons, List.map_nil, Sem.run_pure, Result.andThen_ok, invoke, builtin, hr]
    have hlen' : ((elems.drop off).take len).length = len := by simp; omega

    have mk : ∀ (l' : Loc) (w' : World) (b' : Nat) (cur' : Array Value), l'.s = lo.s → l'.ver = ver + 1 → (l'.blk = lo.blk ∨ ∃ b, l'.blk = some b ∧ w.heap.size ≤ b) → l'.blk = some b' → w'.heap[b']? = some (.cells cur' e (0, 0)) → cur'.size = l'.size →
        l'.base + (len + m) * s ≤ l'.size → (∀ (j : Nat) (v : Value), cur'[j]? = some v → v.oneCell' = true) →
        (∀ (j c : Nat) (d x : V), elems[off + j]? = some d → j < len → d.cells[c]? = some x → ∃ v, cur'[l'.base + j * s + c]? = some v ∧ Rep E x v) →
        (∀ (j c : Nat), j < m → c < s → cur'[l'.base + (len + j) * s + c]? = news[j * s + c]?) → (∀ d ∈ elems, d.cells.length = s) →
        w.grownBy w' lo.blk → Holds C (E.setm id l') (st.obj.set k (id, .row (ver + 1) s e ((elems.drop off).take len ++ ds))) w' := by
      intro l' w' b' cur' hs' hv' hb' hbb hc' hz' hf' h1' hold hnew hall hgr
      refine hR.holds.upd hk hl hs'.symm (by omega) (fun e => by omega) hb' hgr ⟨hv', by rw [hs', hs], .inr ⟨b', cur', hbb, hc', hz', ?_, h1', ?_, ?_⟩⟩
      · rw [List.length_append, hlen', hsrc.len, hs', hs]; exact hf'
      · intro j dd hd
        rw [hs', hs]
        rcases List.mem_append.1 (List.mem_of_getElem? hd) with hm | hm
        · exact hall dd (List.mem_of_mem_drop (List.mem_of_mem_take hm))
        · exact hsrc.cells dd hm
      · intro j c dd yy hd hy
        have hle : E.le (E.setm id l') := Env.le_setm fun l1 h1 => by rw [hl] at h1; cases h1; exact ⟨hs'.symm, by omega, fun e => by omega⟩
        rw [hs', hs]
        rw [List.getElem?_append, hlen'] at hd
        split at hd
        · rename_i hj
          rw [List.getElem?_take, if_pos hj, List.getElem?_drop] at hd
          obtain ⟨v, hv1, hv2⟩ := hold j c dd yy hd hj hy
          exact ⟨v, hv1, hv2.mono hle⟩
        · rename_i hj
          have hjm : j - len < m := by rw [← hsrc.len]; exact (List.getElem?_eq_some_iff.1 hd).1
          have hcs : c < s := by rw [← hsrc.cells dd (List.mem_of_getElem? hd)]; exact (List.getElem?_eq_some_iff.1 hy).1
          obtain ⟨v, hv1, hv2⟩ := hnr (j - len) c dd yy hd hy
          refine ⟨v, ?_, hv2.mono hle⟩
          have h9 := hnew (j - len) c hjm hcs
          rw [show len + (j - len) = j by omega] at h9
          rw [h9]; exact hv1

    have grow : ∀ (base : Option Addr) (cap : Nat) (olds : List Value), a.eval x = .slice base len cap → cap < len + m → olds.length = len * s → (Builtin.firstCells s len (a.eval x)).run P w.drew = .ok olds.toArray w.drew →
        (∀ v ∈ olds, v.oneCell' = true) → (∀ (j c : Nat) (d x : V), elems[off + j]? = some d → j < len → d.cells[c]? = some x → ∃ v, olds[j * s + c]? = some v ∧ Rep E x v) → (∀ d ∈ elems, d.cells.length = s) →
        ∃ v w' E' r obj', E.le E' ∧ Rep E' r v ∧ Holds C E' obj' w' ∧ ((execOp a.eval o).run P w = .ok (.value v) w' ∨ (v = undef ∧ (execOp a.eval o).run P w = .ok .skip w')) ∧
          (r = .osl id (ver + 1) 0 (len + m) ∧ obj' = st.obj.set k (id, .row (ver + 1) s e ((elems.drop off).take len ++ ds))) := by
      intro base cap olds hv hcap hol hfo hone' hold hall
      have hrun := run_append_gen_grow (ty := o.type) ht he hz hsrc.notint hlen hnews (a.eval x) base len cap hv olds hfo hcap h63 hbytes
      have hge := grownCap_ge w (len + m) cap e
      have hcm := grownCap_le_maxLen w (len + m) cap e h63
      generalize grownCap w (len + m) cap e = nc at hrun hge hcm
      have hzc : (Builtin.zeroCells z.cells (nc - (len + m))).size = (nc - (len + m)) * s := by rw [size_zeroCells, hzs]
      have hone2 : ∀ v ∈ Builtin.zeroCells z.cells (nc - (len + m)), v.oneCell' = true := by
        intro v hv
        simp only [Builtin.zeroCells, Array.mem_map] at hv
        obtain ⟨q, hq, rfl⟩ := hv
        have hq' : q < (nc - (len + m)) * z.cells.size := by simpa using hq
        have hs0 : 0 < z.cells.size := by rcases Nat.eq_zero_or_pos z.cells.size with h | h; · rw [h] at hq'; omega
                                          · exact h
        rw [getElem!_pos z.cells _ (Nat.mod_lt _ hs0)]
        exact List.all_eq_true.1 hz.one _ (Array.getElem_mem_toList _)
      let cur' : Array Value := olds.toArray ++ news.toArray ++ Builtin.zeroCells z.cells (nc - (len + m))
      have hcs : cur'.size = nc * s := by
        simp only [cur', Array.size_append, List.size_toArray, hol, hnl, hzc, ← Nat.add_mul]
        congr 1; omega
      have hget : ∀ q, cur'[q]? = if q < len * s then olds[q]? else if q < len * s + m * s then news[q - len * s]? else (Builtin.zeroCells z.cells (nc - (len + m)))[q - (len * s + m * s)]? := by
        intro q
        simp only [cur', Array.getElem?_append, List.size_toArray, hol, hnl, Array.size_append, List.getElem?_toArray]
        split
        · split
          · rfl
          · rfl
        · rw [if_neg (by omega)]
      refine ⟨_, _, _, .osl id (ver + 1) 0 (len + m), _, Env.le_setm fun l1 h1 => (by rw [hl] at h1; cases h1; exact ⟨hs, by show lo.ver ≤ ver + 1; omega, fun e => by exfalso; have : lo.ver = ver + 1 := e; omega⟩), ?_,
        mk ⟨some w.heap.size, 0, ver + 1, nc * s, s⟩ (w.drew.alloc (.cells cur' e)) w.heap.size cur' hs.symm rfl (.inr ⟨_, rfl, Nat.le_refl _⟩) rfl (heap_alloc_new w.drew _) hcs (by simp; exact Nat.mul_le_mul_right _ hge) ?_ ?_ ?_ hall
          ⟨rfl, rfl, rfl, by simp, fun kk hkk _ => by rw [heap_alloc_old w.drew _ hkk]; rfl⟩, .inl (hexec _ _ hrun), rfl, rfl⟩
      · exact .osl _ _ _ _ _ _ (E.setm_same _ _) (Nat.le_refl _) rfl fun _ => .inr ⟨w.heap.size, 0, nc, rfl, rfl, hge, hcm, .inr ⟨by simp, by simp⟩⟩
      · intro j v hv
        rw [hget] at hv
        split at hv
        · exact hone' v (List.mem_of_getElem? hv)
        · split at hv
          · exact hone v (List.mem_of_getElem? hv)
          · exact hone2 v (Array.mem_of_getElem? hv)
      · intro j c dd yy hd hj hy
        obtain ⟨v, hv1, hv2⟩ := hold j c dd yy hd hj hy
        have hlt : j * s + c < len * s := by rw [← hol]; exact (List.getElem?_eq_some_iff.1 hv1).1
        refine ⟨v, ?_, hv2⟩
        simp only [Nat.zero_add]
        rw [hget, if_pos hlt, hv1]
      · intro j c hj hc
        simp only [Nat.zero_add]
        have h1 : (j + 1) * s ≤ m * s := Nat.mul_le_mul_right _ hj
        rw [Nat.succ_mul] at h1
        rw [hget, Nat.add_mul, if_neg (by omega), if_pos (by omega)]
        congr 1; omega
    rcases hval with ⟨hb, rfl, hv⟩ | ⟨b, o', cap, hb, hv, hlc, hcm, hc⟩
    ·
      have he0 : elems = [] := by
        rcases hcase with ⟨_, h⟩ | ⟨b, _, hb', _⟩
        · exact h
        · rw [hb] at hb'; cases hb'
      subst he0
      by_cases hm : m = 0
      · subst hm
        have hds : ds = [] := List.eq_nil_of_length_eq_zero hsrc.len
        subst hds
        have hn0 : news = [] := List.eq_nil_of_length_eq_zero (by simpa using hnl)
        subst hn0
        have hrun := run_append_gen_nil0 (ty := o.type) ht he hsrc.notint hlen rfl (hnews w rfl)
        rw [← hv] at hrun
        refine ⟨_, _, _, .osl id (ver + 1) 0 0, _, Env.le_setm (l' := { lo with ver := ver + 1 }) fun l1 h1 => (by rw [hl] at h1; cases h1; exact ⟨rfl, by show lo.ver ≤ ver + 1; omega, fun e => by exfalso; have : lo.ver = ver + 1 := e; omega⟩), ?_,
          hR.holds.upd (o' := .row (ver + 1) s e ((([] : List V).drop off).take 0 ++ [])) (l' := { lo with ver := ver + 1 }) hk hl rfl (by show lo.ver ≤ ver + 1; omega) (fun e => by exfalso; have : lo.ver = ver + 1 := e; omega) (.inl rfl) ⟨rfl, rfl, rfl, Nat.le_refl _, fun _ _ _ => rfl⟩ ⟨rfl, hs, .inl ⟨hb, by simp⟩⟩, .inl (hexec _ _ hrun), rfl, rfl⟩
        rw [hv]
        exact .osl _ _ _ _ _ _ (E.setm_same _ _) (Nat.le_refl _) rfl fun _ => .inl ⟨hb, rfl, rfl⟩
      · exact grow none 0 [] hv (by omega) (by simp) (by rw [hv]; simp [Builtin.firstCells]) (by simp) (by simp) (by simp)
    · rcases hcase with ⟨h3, _⟩ | ⟨b', cur, hb', hcur, hzc, hf, h1, hde, hr⟩
      · rw [hb] at h3; cases h3
      rw [hb] at hb'; cases hb'
      rw [hs] at hf hc hde hr
      have hall : ∀ d ∈ elems, d.cells.length = s := fun d hd => by obtain ⟨j, hj⟩ := List.mem_iff_getElem?.1 hd; exact hde j d hj
      have hle2 : (off + len) * s ≤ elems.length * s := Nat.mul_le_mul_right _ hfit
      rw [Nat.add_mul] at hle2
      by_cases hroom : len + m ≤ cap
      · have hfits : news = [] ∨ o' + len * s + news.length ≤ cur.size := by
          rcases hc with hc | ⟨rfl, hc⟩
          · left; exact List.eq_nil_of_length_eq_zero (by rw [hnl, show m = 0 by omega]; simp)
          · right
            rw [hnl, hzc]
            have : (len + m) * s ≤ cap * s := Nat.mul_le_mul_right _ hroom
            rw [Nat.add_mul] at this hc; omega
        have hrun := run_append_gen_room (ty := o.type) ht he hsrc.notint hlen b o' len cap cur hcur hone (hnews w rfl) hroom hfits
        rw [← hv] at hrun
        have hrep : ∀ l' : Loc, l'.blk = some b → l'.base = lo.base + off * s → l'.ver = ver + 1 → l'.size = lo.size → l'.s = s → Rep (E.setm id l') (.osl id (ver + 1) 0 (len + m)) (.slice (some ⟨b, o', none⟩) (len + m) cap) := by
          intro l' h1 h2 h3 h4 h5
          refine .osl _ _ _ _ _ _ (E.setm_same _ _) (by omega) rfl fun _ => .inr ⟨b, o', cap, h1, rfl, hroom, hcm, ?_⟩
          rcases hc with hc | ⟨hc1, hc2⟩
          · exact .inl hc
          · right
            rw [h2, h4, h5]
            refine ⟨by rw [hc1]; simp, ?_⟩
            rw [Nat.add_mul] at hc2
            simp; omega
        by_cases hn0 : news = []
        · rw [if_pos hn0] at hrun
          have hm0 : m * s = 0 := by rw [← hnl, hn0]; rfl
          refine ⟨_, _, _, .osl id (ver + 1) 0 (len + m), _, Env.le_setm fun l1 h1 => (by rw [hl] at h1; cases h1; exact ⟨hs, by show lo.ver ≤ ver + 1; omega, fun e => by exfalso; have : lo.ver = ver + 1 := e; omega⟩), hrep ⟨some b, lo.base + off * s, ver + 1, lo.size, s⟩ rfl rfl rfl rfl rfl,
            mk ⟨some b, lo.base + off * s, ver + 1, lo.size, s⟩ w b cur hs.symm rfl (.inl hb.symm) rfl hcur hzc (by dsimp only; rw [Nat.add_mul]; omega) h1 ?_ ?_ hall ⟨rfl, rfl, rfl, Nat.le_refl _, fun _ _ _ => rfl⟩, .inl (hexec _ _ hrun), rfl, rfl⟩
          · intro j c dd yy hd hj hy
            obtain ⟨v, hv1, hv2⟩ := hr (off + j) c dd yy hd hy
            refine ⟨v, ?_, hv2⟩
            rw [← hv1, Nat.add_mul]; congr 1; dsimp only; omega
          · intro j c hj hc'
            have : (j + 1) * s ≤ m * s := Nat.mul_le_mul_right _ hj
            rw [Nat.succ_mul] at this; omega
        · rw [if_neg hn0] at hrun
          have hcc : o' = lo.base + off * s ∧ lo.base + (off + cap) * s ≤ lo.size := by
            rcases hc with hc | hc
            · exact absurd (List.eq_nil_of_length_eq_zero (by rw [hnl, show m = 0 by omega]; simp)) hn0
            · exact hc
          obtain ⟨rfl, hcap⟩ := hcc
          have hroom2 : (len + m) * s ≤ cap * s := Nat.mul_le_mul_right _ hroom
          rw [Nat.add_mul] at hroom2 hcap
          have hget : ∀ q, (cur.toList.take (lo.base + off * s + len * s) ++ news ++ cur.toList.drop (lo.base + off * s + len * s + news.length)).toArray[q]? =
              if q < lo.base + off * s + len * s then cur[q]? else if q < lo.base + off * s + len * s + m * s then news[q - (lo.base + off * s + len * s)]? else cur[q]? := by
            intro q
            have hlt : (cur.toList.take (lo.base + off * s + len * s)).length = lo.base + off * s + len * s := by simp; omega
            simp only [List.getElem?_toArray, List.append_assoc]
            rw [List.getElem?_append, hlt]
            split
            · rw [List.getElem?_take, if_pos (by assumption)]; simp
            · rw [List.getElem?_append, hnl]
              split
              · rw [if_pos (by omega)]
              · rw [if_neg (by omega), List.getElem?_drop]
                simp only [Array.getElem?_toList]
                congr 1; omega
          refine ⟨_, _, _, .osl id (ver + 1) 0 (len + m), _, Env.le_setm fun l1 h1 => (by rw [hl] at h1; cases h1; exact ⟨hs, by show lo.ver ≤ ver + 1; omega, fun e => by exfalso; have : lo.ver = ver + 1 := e; omega⟩), hrep ⟨some b, lo.base + off * s, ver + 1, lo.size, s⟩ rfl rfl rfl rfl rfl,
            mk ⟨some b, lo.base + off * s, ver + 1, lo.size, s⟩ _ b _ hs.symm rfl (.inl hb.symm) rfl (setRow_heap w b cur _ e _ hcur) ?_ (by dsimp only; rw [Nat.add_mul]; omega) ?_ ?_ ?_ hall
              ⟨rfl, rfl, rfl, by simp, fun kk hkk hne => setRow_other w b kk _ (fun e => hne (by rw [hb, e]))⟩, .inl (hexec _ _ hrun), rfl, rfl⟩
          · simp only [List.size_toArray, List.length_append, List.length_take, List.length_drop, Array.length_toList]
            rw [hnl, hzc]; omega
          · intro j v hv'
            rw [hget] at hv'
            split at hv'
            · exact h1 _ _ hv'
            · split at hv'
              · exact hone v (List.mem_of_getElem? hv')
              · exact h1 _ _ hv'
          · intro j c dd yy hd hj hy
            obtain ⟨v, hv1, hv2⟩ := hr (off + j) c dd yy hd hy
            have hcs : c < s := by rw [← hall dd (List.mem_of_getElem? hd)]; exact (List.getElem?_eq_some_iff.1 hy).1
            have : (j + 1) * s ≤ len * s := Nat.mul_le_mul_right _ hj
            rw [Nat.succ_mul] at this
            refine ⟨v, ?_, hv2⟩
            dsimp only
            rw [hget, if_pos (by omega), ← hv1, Nat.add_mul]; congr 1; omega
          · intro j c hj hc'
            have : (j + 1) * s ≤ m * s := Nat.mul_le_mul_right _ hj
            rw [Nat.succ_mul] at this
            dsimp only
            rw [Nat.add_mul, hget, if_neg (by omega), if_pos (by omega)]
            congr 1; omega
      · by_cases h0 : len = 0
        · subst h0
          refine grow _ cap [] hv (by omega) (by simp) (by rw [hv]; simp [Builtin.firstCells, loadCells, loadCellsFrom]) (by simp) (fun j c d x _ hj => by omega) hall
        · have hcc : o' = lo.base + off * s ∧ lo.base + (off + cap) * s ≤ lo.size := by
            rcases hc with hc | hc
            · omega
            · exact hc
          obtain ⟨rfl, hcap⟩ := hcc
          have hcl : len * s ≤ cap * s := Nat.mul_le_mul_right _ hlc
          rw [Nat.add_mul] at hcap
          let olds : List Value := (cur.toList.drop (lo.base + off * s)).take (len * s)
          have hol : olds.length = len * s := by simp only [olds, List.length_take, List.length_drop, Array.length_toList, hzc]; omega
          have hget : ∀ q, q < len * s → olds[q]? = cur[lo.base + off * s + q]? := fun q hq => by
            simp only [olds, List.getElem?_take, if_pos hq, List.getElem?_drop, Array.getElem?_toList]
          refine grow _ cap olds hv (by omega) hol ?_ ?_ ?_ hall
          · rw [hv]
            refine run_firstCells_some (P := P) w.drew s len ⟨b, lo.base + off * s, none⟩ len cap olds hol fun j v hj => ?_
            have hql : j < len * s := by rw [← hol]; exact (List.getElem?_eq_some_iff.1 hj).1
            rw [hget j hql] at hj
            rw [Addr.add_lit, cell?_of_heap (w := w) (w' := w.drew) rfl]
            simp [World.cell?, hcur, hj]
          · intro v hv'
            obtain ⟨q, hq⟩ := List.mem_iff_getElem?.1 hv'
            have hql : q < len * s := by rw [← hol]; exact (List.getElem?_eq_some_iff.1 hq).1
            rw [hget q hql] at hq
            exact h1 _ _ hq
          · intro j c dd yy hd hj hy
            obtain ⟨v, hv1, hv2⟩ := hr (off + j) c dd yy hd hy
            have hcs : c < s := by rw [← hall dd (List.mem_of_getElem? hd)]; exact (List.getElem?_eq_some_iff.1 hy).1
            have : (j + 1) * s ≤ len * s := Nat.mul_le_mul_right _ hj
            rw [Nat.succ_mul] at this
            refine ⟨v, ?_, hv2⟩
            rw [hget _ (by omega), ← hv1, Nat.add_mul]; congr 1; omega

theorem eff_append {t xt e : TypeId} {sz by_ s by' : Nat} {z : Value} {x y : Operand} {id ver off len k m : Nat} {elems ds : List V} (ht : TyF P t (.slice e) sz by_) (he : SizeF P e s by') (hz : ZeroF P e z) (hzs : z.cells.size = s)
    (ho : o.op = .call { callee := .builtin .append, args := #[x, y], argTypes := #[t, xt] }) (hx : st.val C x = some (.osl id ver off len)) (hk : st.obj[k]? = some (id, .row ver s e elems)) (hfit : off + len ≤ elems.length)
    (hsrc : Src P C st y xt s m ds) (h63 : len + m ≤ maxLen) (hbytes : (len + m) * by' ≤ 140737488355328) :
    EffOp P C o st ((.osl id (ver + 1) 0 (len + m))) (st.obj.set k (id, .row (ver + 1) s e ((elems.drop off).take len ++ ds))) :=
  .of fun a w E hR => eff_append_core ht he hz hzs ho hk hfit hsrc h63 hbytes a w E hR (hR.osl hx hk)

end
end Go.Vc
