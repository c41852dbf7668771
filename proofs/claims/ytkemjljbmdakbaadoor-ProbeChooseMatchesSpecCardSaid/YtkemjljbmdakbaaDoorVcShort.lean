/-
  The rules by short names, their plain premises filled in by tactics.
-/
import Derived.Test.YtkemjljbmdakbaaDoorVcRules
namespace Go.Vc

theorem inI {n : Int} (h : -9223372036854775808 ≤ n) (h' : n ≤ 9223372036854775807) : inK .i64 n := by
  simp only [inK, IntKind.min, IntKind.max, IntKind.signed, IntKind.bits]; simp; omega
theorem inU {n : Int} (h : 0 ≤ n) (h' : n ≤ 18446744073709551615) : inK .u64 n := by
  simp only [inK, IntKind.min, IntKind.max, IntKind.signed, IntKind.bits]; simp; omega
theorem inB {n : Int} (h : 0 ≤ n) (h' : n ≤ 255) : inK .u8 n := by
  simp only [inK, IntKind.min, IntKind.max, IntKind.signed, IntKind.bits]; simp; omega
theorem inI32 {n : Int} (h : -2147483648 ≤ n) (h' : n ≤ 2147483647) : inK .i32 n := by
  simp only [inK, IntKind.min, IntKind.max, IntKind.signed, IntKind.bits]; simp; omega
theorem inU32 {n : Int} (h : 0 ≤ n) (h' : n ≤ 4294967295) : inK .u32 n := by
  simp only [inK, IntKind.min, IntKind.max, IntKind.signed, IntKind.bits]; simp; omega
theorem inU16 {n : Int} (h : 0 ≤ n) (h' : n ≤ 65535) : inK .u16 n := by
  simp only [inK, IntKind.min, IntKind.max, IntKind.signed, IntKind.bits]; simp; omega

/-- The element of a mapped row. -/
theorem map_get {α β : Type} {l : List α} {f : α → β} {i : Nat} (h : i < l.length) : (l.map f)[i]? = some (f l[i]) := by
  rw [List.getElem?_map, List.getElem?_eq_getElem h]; rfl

/-- The values of some operands. -/
def vals (C : Ctx) (st : St) : List Operand → Option (List V)
  | [] => some []
  | x :: r => match st.val C x, vals C st r with
    | some d, some ds => some (d :: ds)
    | _, _ => none

theorem argsV_of {C : Ctx} {st : St} : ∀ {as : List Operand} {ds : List V}, vals C st as = some ds → argsV C st as ds
  | [], ds, h => by simp [vals] at h; subst h; rfl
  | x :: r, ds, h => by
    unfold vals at h
    split at h
    · rename_i d ds' h1 h2
      simp only [Option.some.injEq] at h
      subst h
      exact ⟨h1, argsV_of h2⟩
    · cases h

def valsP (C : Ctx) (st : St) : List (Nat × Operand) → Nat → Option (List V)
  | [], _ => some []
  | (i, x) :: r, n => match st.val C x, valsP C st r (n + 1) with
    | some d, some ds => if i = n ∧ d.fits = true then some (d :: ds) else none
    | _, _ => none

theorem partsOk_of {C : Ctx} {st : St} : ∀ {ps : List (Nat × Operand)} {n : Nat} {ds : List V}, valsP C st ps n = some ds → partsOk C st ps n ds
  | [], _, ds, h => by simp [valsP] at h; subst h; rfl
  | (i, x) :: r, n, ds, h => by
    unfold valsP at h
    split at h
    · rename_i d ds' h1 h2
      split at h
      · rename_i hc
        simp only [Option.some.injEq] at h
        subst h
        exact ⟨hc.1, h1, hc.2, partsOk_of h2⟩
      · cases h
    · cases h

def resVals (st : St) : List ResultVar → Option (List V)
  | [] => some []
  | .tmp t :: r => match st.loc.lookup t, resVals st r with
    | some x, some xs => some (x :: xs)
    | _, _ => none
  | .cell _ _ :: _ => none

theorem resV_of {st : St} : ∀ {res : List ResultVar} {rs : List V}, resVals st res = some rs → resV st res rs
  | [], rs, h => by simp [resVals] at h; subst h; rfl
  | .tmp t :: r, rs, h => by
    unfold resVals at h
    split at h
    · rename_i x xs h1 h2
      simp only [Option.some.injEq] at h
      subst h
      exact ⟨h1, resV_of h2⟩
    · cases h
  | .cell _ _ :: _, rs, h => by simp [resVals] at h

/-- The end. -/
theorem fi {res : List ResultVar} {Qf : V → Objs → Prop} {st : St} {rs : List V} (hr : resVals st res = some rs := by rfl) (hq : Qf (packR rs) st.obj) : Vc.Fin res Qf .ret st := ⟨.inl rfl, rs, resV_of hr, hq⟩
theorem fiN {res : List ResultVar} {Qf : V → Objs → Prop} {st : St} {rs : List V} (hr : resVals st res = some rs := by rfl) (hq : Qf (packR rs) st.obj) : Vc.Fin res Qf .normal st := ⟨.inr rfl, rs, resV_of hr, hq⟩

section
variable {P : Program} {C : Ctx} {ops : Array Oper} {o : Oper} {l : List Oper} {f : Nat} {fs : List Nat} {st : St} {Q : Exit → St → Prop} {r : V} {ob : Objs}

theorem Sp (ho : PureOp P C o st r) (h : OpsS P C ops l (st.put o.dst r) Q) (hg : st.guard ops o = some true := by rfl) : OpsS P C ops (o :: l) st Q := .pure hg ho h
theorem Se (ho : EffOp P C o st r ob) (h : OpsS P C ops l (({ st with obj := ob } : St).put o.dst r) Q) (hg : st.guard ops o = some true := by rfl) : OpsS P C ops (o :: l) st Q := .effop hg ho h
theorem Sk (h : OpsS P C ops l (st.put o.dst (.tuple [])) Q) (hg : st.guard ops o = some false := by rfl) : OpsS P C ops (o :: l) st Q := .skip hg h
theorem Df (ho : ∀ obj, PureOp P C o ⟨restr o st.loc, obj⟩ r) (h : OpsD P C ops l fs (st.put o.dst r) Q) (hg : st.guard ops o = some true := by rfl) : OpsD P C ops (o :: l) (f :: fs) st Q := .free hg ho h
theorem Dp (ho : PureOp P C o ⟨restr o st.loc, st.obj⟩ r) (h : OpsD P C ops l fs (st.put o.dst r) Q) (hg : st.guard ops o = some true := by rfl) : OpsD P C ops (o :: l) (1 :: fs) st Q := .pure hg ho h
theorem De (ho : EffOp P C o ⟨restr o st.loc, st.obj⟩ r ob) (h : OpsD P C ops l fs (({ st with obj := ob } : St).put o.dst r) Q) (hg : st.guard ops o = some true := by rfl) : OpsD P C ops (o :: l) (2 :: fs) st Q := .eff hg ho h
theorem Dk (h : OpsD P C ops l fs (st.put o.dst (.tuple [])) Q) (hg : st.guard ops o = some false := by rfl) : OpsD P C ops (o :: l) (f :: fs) st Q := .skip hg h

theorem rg {id : Nat} {l : List Oper} {n : Nat} (hn : C.n = n) (h : OpsS P C l.toArray l st Q) (hd : dstOk n l = true := by rfl) : Sat P C (.region id l.toArray false) st Q := Sat.region (by rw [hn]; exact hd) h
theorem dr {id : Nat} {l : List Oper} {n : Nat} (fs : List Nat) (hm : P.follows .mixedOrders = true) (hn : C.n = n) (h : OpsD P C l.toArray l fs st Q) (hd : dstOk n l = true := by rfl) (h1 : linedB l = true := by decide) (h2 : linedE l fs = true := by decide) :
    Sat P C (.region id l.toArray true) st Q := Sat.draw fs hm (by rw [hn]; exact hd) h1 h2 h

theorem cT {c : Operand} {x y : Code} (h : Sat P C x st Q) (hc : st.val C c = some (.bool true) := by rfl) : Sat P C (.cond c x y) st Q := .cond hc (fun _ => h) (fun h => by cases h)
theorem cF {c : Operand} {x y : Code} (h : Sat P C y st Q) (hc : st.val C c = some (.bool false) := by rfl) : Sat P C (.cond c x y) st Q := .cond hc (fun h => by cases h) (fun _ => h)
theorem cB {c : Operand} {x y : Code} {b : Bool} (ht : b = true → Sat P C x st Q) (hf : b = false → Sat P C y st Q) (hc : st.val C c = some (.bool b) := by rfl) : Sat P C (.cond c x y) st Q := .cond hc ht hf
theorem cD {c : Operand} {x y : Code} {p : Prop} [Decidable p] (ht : p → Sat P C x st Q) (hf : ¬ p → Sat P C y st Q) (hc : st.val C c = some (.bool (decide p)) := by rfl) : Sat P C (.cond c x y) st Q :=
  .cond hc (fun h => ht (of_decide_eq_true h)) (fun h => hf (of_decide_eq_false h))

/-- A piece of code that ends in one of some states. -/
theorem Sat.to {c : Code} {α : Type} (S : α → St) (p : α → Prop) (h : Sat P C c st (thenS (fun st' => ∃ x, p x ∧ Sub (S x).loc st'.loc ∧ (S x).obj = st'.obj) Q)) (k : ∀ x, p x → Q .normal (S x)) : Sat P C c st Q := by
  intro a w E hR
  refine Code.wp_mono ?_ (h a w E hR)
  rintro e a' w' ⟨st', E', hq, hR'⟩
  cases e with
  | normal =>
    obtain ⟨x, hp, hs, ho⟩ := hq
    refine ⟨S x, E', k x hp, ?_⟩
    have := hR'.sub hs
    rw [← ho] at this
    exact this
  | _ => exact ⟨st', E', hq, hR'⟩

/-! ### Operations -/
theorem pm {x : Operand} (ho : o.op = .move x := by rfl) (hx : st.val C x = some r := by rfl) : PureOp P C o st r := pure_move ho hx
theorem pa {x : Operand} (ho : o.op = .assign x := by rfl) (hx : st.val C x = some r := by rfl) : PureOp P C o st r := pure_assign ho hx
theorem pk {c x y : Operand} {t : Bool} (ho : o.op = .pick c x y := by rfl) (hc : st.val C c = some (.bool t) := by rfl) (hx : st.val C (if t then x else y) = some r := by rfl) : PureOp P C o st r := pure_pick ho hc hx
theorem pb {op : BinOp} {t t' : TypeId} {x y : Operand} {dx dy : V} (ho : o.op = .binOp op t x y t' := by rfl) (hx : st.val C x = some dx := by rfl) (hy : st.val C y = some dy := by rfl) (h : BinR P op t x y dx dy r) : PureOp P C o st r := pure_bin ho hx hy h
theorem pnot {t : TypeId} {x : Operand} {b : Bool} (ho : o.op = .unOp .not t x := by rfl) (hx : st.val C x = some (.bool b) := by rfl) : PureOp P C o st (.bool (!b)) := pure_not ho hx
theorem pneg {t : TypeId} {x : Operand} {k : IntKind} {n : Int} (ho : o.op = .unOp .neg t x := by rfl) (hx : st.val C x = some (.int k n) := by rfl) (h : inK k (0 - n)) : PureOp P C o st (.int k (-n)) := pure_neg ho hx h
theorem pnegW {t : TypeId} {x : Operand} {k : IntKind} {n : Int} (ho : o.op = .unOp .neg t x := by rfl) (hx : st.val C x = some (.int k n) := by rfl) : PureOp P C o st (.int k (k.wrap (-n))) := pure_negW ho hx
theorem px {x : Operand} {l : List V} {i : Nat} (ho : o.op = .extract x i := by rfl) (hx : st.val C x = some (.tuple l) := by rfl) (hi : l[i]? = some r := by rfl) : PureOp P C o st r := pure_extract ho hx hi
theorem pnR {x : Operand} {s i c : Nat} {row : List V} (ho : o.op = .nilCheck x := by rfl) (hx : st.val C x = some (.ref s row i c) := by rfl) : PureOp P C o st (.ref s row i c) := pure_nilCheck_ref ho hx
theorem pnO (k : Nat) {x : Operand} {id ver i c s : Nat} {e : TypeId} {elems : List V} (ho : o.op = .nilCheck x := by rfl) (hx : st.val C x = some (.own id ver i c) := by rfl) (hk : st.obj[k]? = some (id, .row ver s e elems) := by rfl) : PureOp P C o st (.own id ver i c) := pure_nilCheck_own ho hx hk
theorem pfR {t ft : TypeId} {x : Operand} {row : List V} {s i c j off n : Nat} (hf : FieldF P t j off ft n) (hn : n ≠ 0 := by decide) (ho : o.op = .fieldAddr t x j := by rfl) (hx : st.val C x = some (.ref s row i c) := by rfl) : PureOp P C o st (.ref s row i (c + off)) := p_field_ref hf hn ho hx
theorem pfO (k : Nat) {t ft : TypeId} {x : Operand} {id ver i c s j off n : Nat} {e : TypeId} {elems : List V} (hf : FieldF P t j off ft n) (hn : n ≠ 0 := by decide)
    (ho : o.op = .fieldAddr t x j := by rfl) (hx : st.val C x = some (.own id ver i c) := by rfl) (hk : st.obj[k]? = some (id, .row ver s e elems) := by rfl) : PureOp P C o st (.own id ver i (c + off)) := p_field_own hf hn ho hx hk
theorem pF {t ft : TypeId} {d : TypeDesc} {sz by_ : Nat} {x : Operand} {j off n : Nat} {cs : List V} (hf : FieldF P t j off ft n) (ht : TyF P ft d sz by_) (hn : n ≠ 0 := by decide) (hd : isAggD d = false := by rfl)
    (ho : o.op = .field t x j := by rfl) (hx : st.val C x = some (.agg cs) := by rfl) (hc : cs[off]? = some r := by rfl) : PureOp P C o st r := p_field hf hn ht hd ho hx hc
/-- A load of one cell that stays: the row's element, its cell. -/
theorem plR {t : TypeId} {d : TypeDesc} {sz by_ : Nat} {x : Operand} {row : List V} {s i c : Nat} {e : V} (ht : TyF P t d sz by_) (hd : isAggD d = false := by rfl)
    (ho : o.op = .load t x := by rfl) (hx : st.val C x = some (.ref s row i c) := by rfl)
    (hi : row[i]? = some e := by first | rfl | exact map_get (by first | assumption | omega | (show 0 < _; omega)) | exact List.getElem?_eq_getElem (by first | assumption | omega | (show 0 < _; omega) | (simp; done) | (simp; omega))) (hc : e.cells[c]? = some r := by rfl) : PureOp P C o st r := pure_load_ref ht hd ho hx hi hc
theorem plRa {t : TypeId} {n : Nat} {x : Operand} {row : List V} {s i c : Nat} {e : V} {l : List V} (ht : AggF P t n)
    (ho : o.op = .load t x := by rfl) (hx : st.val C x = some (.ref s row i c) := by rfl)
    (hi : row[i]? = some e := by first | rfl | exact map_get (by first | assumption | omega | (show 0 < _; omega)) | exact List.getElem?_eq_getElem (by first | assumption | omega | (show 0 < _; omega) | (simp; done) | (simp; omega))) (hl : (e.cells.drop c).take n = l := by rfl) (hn : l.length = n := by rfl) : PureOp P C o st (.agg l) := p_load_ref_agg ht ho hx hi hl hn
theorem plO (k : Nat) {t : TypeId} {d : TypeDesc} {sz by_ : Nat} {x : Operand} {id ver i c s : Nat} {e : TypeId} {elems : List V} {el : V} (ht : TyF P t d sz by_) (hd : isAggD d = false := by rfl)
    (ho : o.op = .load t x := by rfl) (hx : st.val C x = some (.own id ver i c) := by rfl) (hk : st.obj[k]? = some (id, .row ver s e elems) := by rfl)
    (hi : elems[i]? = some el := by first | rfl | exact map_get (by first | assumption | omega | (show 0 < _; omega)) | exact List.getElem?_eq_getElem (by first | assumption | omega | (show 0 < _; omega) | (simp; done) | (simp; omega))) (hc : el.cells[c]? = some r := by rfl) : PureOp P C o st r := pure_load_own ht hd ho hx hk hi hc
theorem plOa (k : Nat) {t : TypeId} {n : Nat} {x : Operand} {id ver i c s : Nat} {e : TypeId} {elems : List V} {el : V} {lv : List V} (ht : AggF P t n)
    (ho : o.op = .load t x := by rfl) (hx : st.val C x = some (.own id ver i c) := by rfl) (hk : st.obj[k]? = some (id, .row ver s e elems) := by rfl)
    (hi : elems[i]? = some el := by first | rfl | exact map_get (by first | assumption | omega | (show 0 < _; omega)) | exact List.getElem?_eq_getElem (by first | assumption | omega | (show 0 < _; omega) | (simp; done) | (simp; omega))) (hl : (el.cells.drop c).take n = lv := by rfl) (hn : lv.length = n := by rfl) : PureOp P C o st (.agg lv) := p_load_own_agg ht ho hx hk hi hl hn
theorem piS {t e : TypeId} {sz by_ by' : Nat} {x ix : Operand} {row : List V} {s i : Nat} {k : IntKind} {n : Int} (ht : TyF P t (.slice e) sz by_) (he : SizeF P e s by')
    (ho : o.op = .indexAddr t x ix := by rfl) (hx : st.val C x = some (.sl s row) := by rfl) (hix : st.val C ix = some (.int k n) := by rfl) (hn : n = (i : Int) := by rfl) (hi : i < row.length := by first | assumption | omega | (simp; done) | (simp; omega)) : PureOp P C o st (.ref s row i 0) := pure_index_sl ht he ho hx hix hn hi
theorem piO (q : Nat) {t e : TypeId} {sz by_ by' : Nat} {x ix : Operand} {id ver off len s : Nat} {e' : TypeId} {elems : List V} {i : Nat} {kk : IntKind} {n : Int} (ht : TyF P t (.slice e) sz by_) (he : SizeF P e s by')
    (ho : o.op = .indexAddr t x ix := by rfl) (hx : st.val C x = some (.osl id ver off len) := by rfl) (hk : st.obj[q]? = some (id, .row ver s e' elems) := by rfl) (hix : st.val C ix = some (.int kk n) := by rfl) (hn : n = (i : Int) := by rfl) (hi : i < len := by first | assumption | omega | (simp; done) | (simp; omega)) :
    PureOp P C o st (.own id ver (off + i) 0) := pure_index_osl ht he ho hx hk hix hn hi
theorem pcat {t : TypeId} {sz by_ : Nat} {x ix : Operand} {l : List UInt8} {k : IntKind} {n : Int} {i : Nat} {b : UInt8} (ht : TyF P t .string sz by_)
    (ho : o.op = .index t x ix := by rfl) (hx : st.val C x = some (.str l) := by rfl) (hix : st.val C ix = some (.int k n) := by rfl) (hn : n = (i : Int) := by rfl) (hb : l[i]? = some b := by first | rfl | exact List.getElem?_eq_getElem (by first | assumption | omega | (show 0 < _; omega) | (simp; done) | (simp; omega))) : PureOp P C o st (byteV b) := p_index_str ht ho hx hix hn hb
theorem pL {t e : TypeId} {sz by_ n : Nat} {x : Operand} {dx : V} (ht : TyF P t (.slice e) sz by_) (ho : o.op = .call { callee := .builtin .len, args := #[x], argTypes := #[t] } := by rfl) (hx : st.val C x = some dx := by rfl) (hl : dx.len? = some n := by rfl) : PureOp P C o st (.int .i64 n) := pure_len_slice ht ho hx hl
theorem pLO (q : Nat) {t e e' : TypeId} {sz by_ : Nat} {x : Operand} {id ver off n s : Nat} {elems : List V} (ht : TyF P t (.slice e) sz by_)
    (ho : o.op = .call { callee := .builtin .len, args := #[x], argTypes := #[t] } := by rfl) (hx : st.val C x = some (.osl id ver off n) := by rfl) (hk : st.obj[q]? = some (id, .row ver s e' elems) := by rfl) : PureOp P C o st (.int .i64 n) := pure_len_osl ht ho hx hk
theorem pLs {t : TypeId} {sz by_ : Nat} {x : Operand} {l : List UInt8} (ht : TyF P t .string sz by_) (ho : o.op = .call { callee := .builtin .len, args := #[x], argTypes := #[t] } := by rfl) (hx : st.val C x = some (.str l) := by rfl) : PureOp P C o st (.int .i64 l.length) := pure_len_str ht ho hx
theorem pc {g : FuncId} {cv : Operand} {args : Array Operand} {ats : Array TypeId} {first caps ds : List V} (hb : FnB P g) (ho : o.op = .call { callee := .value cv, args := args, argTypes := ats } := by rfl) (hf : st.val C cv = some (.func (.func g) first caps) := by rfl)
    (ha : vals C st args.toList = some ds := by rfl) (hok : OkP P C.G g (first ++ ds ++ caps) r) : PureOp P C o st r := pure_call ho hb hf (argsV_of ha) hok
theorem pci {src dst : TypeId} {ds : TypeDesc} {s1 b1 s2 b2 : Nat} {k k' : IntKind} {n : Int} {x : Operand} (hs : TyF P src ds s1 b1) (ht : TyF P dst (.int k') s2 b2) (ho : o.op = .convert src dst x := by rfl) (hx : st.val C x = some (.int k n) := by rfl) (hin : inK k' n) : PureOp P C o st (.int k' n) := p_conv_int hs ht ho hx hin
theorem pciW {src dst : TypeId} {ds : TypeDesc} {s1 b1 s2 b2 : Nat} {k k' : IntKind} {n : Int} {x : Operand} (hs : TyF P src ds s1 b1) (ht : TyF P dst (.int k') s2 b2) (ho : o.op = .convert src dst x := by rfl) (hx : st.val C x = some (.int k n) := by rfl) : PureOp P C o st (.int k' (k'.wrap n)) := p_conv_intW hs ht ho hx
theorem pcs {src dst : TypeId} {s1 b1 s2 b2 : Nat} {l : List UInt8} {x : Operand} (hs : TyF P src .string s1 b1) (ht : TyF P dst .string s2 b2) (ho : o.op = .convert src dst x := by rfl) (hx : st.val C x = some (.str l) := by rfl) : PureOp P C o st (.str l) := p_conv_str hs ht ho hx
theorem pS {t e : TypeId} {sz by_ s by' n : Nat} {z : Value} {parts : Array (Nat × Operand)} {ds : List V} (ht : TyF P t (.slice e) sz by_) (he : SizeF P e s by') (hz : ZeroF P e z)
    (ho : o.op = .buildSlice t n parts := by rfl) (hparts : valsP C st parts.toList 0 = some ds := by rfl) (hn : n = ds.length := by rfl) (hlen : ∀ d ∈ ds, d.cells.length = s := by simp [V.cells, byteV, V.const, V.leaf]) (hbig : n * s ≤ 2 ^ 24 := by decide) (hs0 : 0 < s := by decide) : PureOp P C o st (.sl s ds) := pure_buildSlice ht he hz ho (partsOk_of hparts) hn hlen hbig hs0
theorem pmf {fn : Fn} {first caps : Array Operand} {xs ys : List V} (ho : o.op = .makeFunc fn first caps := by rfl) (hx : vals C st first.toList = some xs := by rfl) (hy : vals C st caps.toList = some ys := by rfl) : PureOp P C o st (.func fn xs ys) := p_makeFunc ho (argsV_of hx) (argsV_of hy)
theorem est (q : Nat) {t : TypeId} {d : TypeDesc} {sz by_ : Nat} {p x : Operand} {id ver i c s : Nat} {e : TypeId} {elems : List V} {el dx : V} (ht : TyF P t d sz by_)
    (ho : o.op = .store t p x := by rfl) (hp : st.val C p = some (.own id ver i c) := by rfl) (hk : st.obj[q]? = some (id, .row ver s e elems) := by rfl)
    (hi : elems[i]? = some el := by first | rfl | exact map_get (by first | assumption | omega | (show 0 < _; omega)) | exact List.getElem?_eq_getElem (by first | assumption | omega | (show 0 < _; omega) | (simp; done) | (simp; omega))) (hx : st.val C x = some dx := by rfl) (hf : dx.fits = true := by rfl)
    (hsz : dx.cells.length = sz := by rfl) (hc : c + sz ≤ el.cells.length := by first | exact Nat.le_of_ble_eq_true rfl | decide | (simp [V.cells]; done) | omega) (hsp : (el.splice c dx.cells).cells = el.cells.take c ++ dx.cells ++ el.cells.drop (c + sz) := by rfl) :
    EffOp P C o st (.undef) (st.obj.set q (id, .row ver s e (elems.set i (el.splice c dx.cells)))) := eff_store ht ho hp hk hi hx hf hsz hc hsp
theorem eap (q : Nat) {t xt e : TypeId} {sz by_ s by' : Nat} {z : Value} {x y : Operand} {id ver off len m : Nat} {elems ds : List V} (ht : TyF P t (.slice e) sz by_) (he : SizeF P e s by') (hz : ZeroF P e z) (hzs : z.cells.size = s := by rfl) (ho : o.op = .call { callee := .builtin .append, args := #[x, y], argTypes := #[t, xt] } := by rfl) (hx : st.val C x = some (.osl id ver off len) := by rfl) (hk : st.obj[q]? = some (id, .row ver s e elems) := by rfl) (hfit : off + len ≤ elems.length := by first | omega | (simp; done) | (simp; omega)) (hsrc : Src P C st y xt s m ds) (h63 : len + m ≤ maxLen := by simp only [maxLen]; first | omega | (simp; done) | (simp; omega)) (hbytes : (len + m) * by' ≤ 140737488355328 := by first | omega | (simp; done) | (simp; omega)) :
    EffOp P C o st ((.osl id (ver + 1) 0 (len + m))) (st.obj.set q (id, .row (ver + 1) s e ((elems.drop off).take len ++ ds))) := eff_append ht he hz hzs ho hx hk hfit hsrc h63 hbytes
theorem srcS {x : Operand} {xt e : TypeId} {sz by_ s : Nat} {row : List V} (ht : TyF P xt (.slice e) sz by_) (hx : st.val C x = some (.sl s row) := by rfl) (hc : ∀ d ∈ row, d.cells.length = s := by simp [V.cells, byteV, V.const, V.leaf]) : Src P C st x xt s row.length row := Src.sl ht hx hc
theorem srcT {x : Operand} {xt : TypeId} {sz by_ : Nat} {bs : List UInt8} (ht : TyF P xt .string sz by_) (hx : st.val C x = some (.str bs) := by rfl) : Src P C st x xt 1 bs.length (bs.map byteV) := Src.str ht hx
theorem srcO (q : Nat) {x : Operand} {xt e : TypeId} {sz by_ : Nat} {id ver off len s : Nat} {e' : TypeId} {elems : List V} (ht : TyF P xt (.slice e) sz by_) (hx : st.val C x = some (.osl id ver off len) := by rfl)
    (hk : st.obj[q]? = some (id, .row ver s e' elems) := by rfl) (hfit : off + len ≤ elems.length := by first | omega | (simp; done) | (simp; omega)) (hall : ∀ d ∈ elems, d.cells.length = s := by simp [V.cells, byteV, V.const, V.leaf]) : Src P C st x xt s len ((elems.drop off).take len) := Src.osl ht hx hk hfit hall
/-! ### Objects -/
theorem Sal {t : TypeId} {z : Value} {s : Nat} (hz : ZeroF P t z) (h : ∀ q, OpsS P C ops l (({ st with obj := st.obj ++ [(q, .row 0 s t [V.zero z])] } : St).put o.dst (.own q 0 0 0)) Q) (hg : st.guard ops o = some true := by rfl) (ho : o.op = .alloc t := by rfl) (hs : z.cells.size = s := by rfl) : OpsS P C ops (o :: l) st Q := .alloc hg ho hz hs h
theorem Sbx {t : TypeId} {x : Operand} {dx : V} {s : Nat} (h : ∀ q, OpsS P C ops l (({ st with obj := st.obj ++ [(q, .row 0 s t [dx])] } : St).put o.dst (.own q 0 0 0)) Q) (hg : st.guard ops o = some true := by rfl) (ho : o.op = .box t x := by rfl) (hx : st.val C x = some dx := by rfl) (hf : dx.fits = true := by rfl) (hs : dx.cells.length = s := by rfl) : OpsS P C ops (o :: l) st Q := .box hg ho hx hf hs h
theorem Sar {t e : TypeId} {n : Nat} {u : Value} (hz : (P.info? t).bind (·.zero) = some (.agg (Array.replicate n u))) (h : ∀ q, OpsS P C ops l (({ st with obj := st.obj ++ [(q, .row 0 1 t (List.replicate n (V.leaf u)))] } : St).put o.dst (.own q 0 0 0)) Q) (hg : st.guard ops o = some true := by rfl) (ho : o.op = .alloc t := by rfl) (hu : u.oneCell' = true := by rfl) : OpsS P C ops (o :: l) st Q := .allocArr (e := e) hg ho hz hu h
theorem Smm {t : TypeId} (h : ∀ q, OpsS P C ops l (({ st with obj := st.obj ++ [(q, .map 0 [] 0)] } : St).put o.dst (.omap q 0)) Q) (hg : st.guard ops o = some true := by rfl) (ho : o.op = .makeMap t none := by rfl) : OpsS P C ops (o :: l) st Q := .makeMap hg ho h
theorem Sms {t e : TypeId} {sz by_ s by' n : Nat} {z : Value} {parts : Array (Nat × Operand)} {ds : List V} (ht : TyF P t (.slice e) sz by_) (he : SizeF P e s by') (hz : ZeroF P e z) (h : ∀ q, OpsS P C ops l (({ st with obj := st.obj ++ [(q, .row 0 s e ds)] } : St).put o.dst (.osl q 0 0 n)) Q)
    (hg : st.guard ops o = some true := by rfl) (ho : o.op = .buildSlice t n parts := by rfl) (hparts : valsP C st parts.toList 0 = some ds := by rfl) (hn : n = ds.length := by rfl) (hlen : ∀ d ∈ ds, d.cells.length = s := by simp [V.cells, byteV, V.const, V.leaf]) (hbig : n * s ≤ 2 ^ 24 := by decide) (hs0 : 0 < s := by decide) : OpsS P C ops (o :: l) st Q := OpsS.buildSlice hg ht he hz ho (partsOk_of hparts) hn hlen hbig hs0 h
theorem Srm {mt kt et : TypeId} {s1 b1 : Nat} {p : Operand} {clock : Nat} {ents : List (V × V × Nat)} (hm : TyF P mt (.map kt et) s1 b1) (h : ∀ q, OpsS P C ops l (({ st with obj := st.obj ++ [(q, .iter ents clock [])] } : St).put o.dst (.own q 0 0 0)) Q)
    (hg : st.guard ops o = some true := by rfl) (ho : o.op = .range mt p := by rfl) (hp : st.val C p = some (.imap ents clock) := by rfl) : OpsS P C ops (o :: l) st Q := .range_imap hm hg ho hp h
theorem Snx (k : Nat) {p : Operand} {id clock : Nat} {ents : List (V × V × Nat)} {seen : List Nat} (h : ∀ b seen', NextM ents seen b seen' → OpsS P C ops l (({ st with obj := st.obj.set k (id, .iter ents clock seen') } : St).put o.dst (.tuple (.bool b :: if b then [.undef, .undef] else []))) Q)
    (hg : st.guard ops o = some true := by rfl) (ho : o.op = .next p false := by rfl) (hp : st.val C p = some (.own id 0 0 0) := by rfl) (hk : st.obj[k]? = some (id, .iter ents clock seen) := by rfl) : OpsS P C ops (o :: l) st Q := .next hg ho hp hk h
theorem pen (k : Nat) {p : Operand} {id clock : Nat} {ents : List (V × V × Nat)} {seen : List Nat} {x : V × V × Nat} (hx : x ∈ ents) (ho : o.op = .entry p := by rfl) (hp : st.val C p = some (.own id 0 0 0) := by rfl) (hk : st.obj[k]? = some (id, .iter ents clock (seen ++ [x.2.2])) := by rfl) : PureOp P C o st (.tuple [x.1, x.2.1]) := pure_entry ho hp hk hx
theorem emu (q : Nat) {mt kt et : TypeId} {d : TypeDesc} {s1 b1 s2 b2 : Nat} {p x y : Operand} {id ver clock : Nat} {ents : List (V × V × Nat)} {dk dv : V} (hm : TyF P mt (.map kt et) s1 b1) (hd : TyF P kt d s2 b2) (hks : keysOk d ents)
    (ho : o.op = .mapUpdate mt p x y := by rfl) (hp : st.val C p = some (.omap id ver) := by rfl) (hk : st.obj[q]? = some (id, .map ver ents clock) := by rfl) (hx : st.val C x = some dk := by rfl) (hy : st.val C y = some dv := by rfl) (hkk : dk.isKey d = true := by rfl) :
    EffOp P C o st .undef (st.obj.set q (id, .map ver (mupd ents clock dk dv).1 (mupd ents clock dk dv).2)) := eff_mapUpdate hm hd ho hp hk hx hy hkk hks
theorem emd (q : Nat) {mt kt et kt' : TypeId} {d : TypeDesc} {s1 b1 s2 b2 : Nat} {p x : Operand} {id ver clock : Nat} {ents : List (V × V × Nat)} {dk : V} (hm : TyF P mt (.map kt et) s1 b1) (hd : TyF P kt d s2 b2) (hks : keysOk d ents)
    (ho : o.op = .call { callee := .builtin .delete, args := #[p, x], argTypes := #[mt, kt'] } := by rfl) (hp : st.val C p = some (.omap id ver) := by rfl) (hk : st.obj[q]? = some (id, .map ver ents clock) := by rfl) (hx : st.val C x = some dk := by rfl) (hkk : dk.isKey d = true := by rfl) :
    EffOp P C o st (.tuple []) (st.obj.set q (id, .map ver (mdel ents dk) clock)) := eff_delete hm hd ho hp hk hx hkk hks
theorem ean (q : Nat) {t xt e : TypeId} {sz by_ s by' : Nat} {z : Value} {x y : Operand} {id m : Nat} {ds : List V} (ht : TyF P t (.slice e) sz by_) (he : SizeF P e s by') (hz : ZeroF P e z) (hzs : z.cells.size = s := by rfl) (ho : o.op = .call { callee := .builtin .append, args := #[x, y], argTypes := #[t, xt] } := by rfl) (hx : st.val C x = some .nilsl := by rfl) (hk : st.obj[q]? = some (id, .res s) := by rfl) (hsrc : Src P C ⟨st.loc, st.obj.set q (id, .row 0 s e [])⟩ y xt s m ds) (h63 : m ≤ maxLen := by simp only [maxLen]; first | omega | (simp; done) | (simp; omega)) (hbytes : m * by' ≤ 140737488355328 := by first | omega | (simp; done) | (simp; omega)) : EffOp P C o st (.osl id 1 0 m) (st.obj.set q (id, .row 1 s e ds)) := eff_append_nil ht he hz hzs ho hx hk hsrc h63 hbytes
/-- A call that only looks at owned objects. -/
theorem pcv {g : FuncId} {cv : Operand} {args : Array Operand} {ats : Array TypeId} {first caps ds ds' : List V} (hb : FnB P g) (ho : o.op = .call { callee := .value cv, args := args, argTypes := ats } := by rfl) (hf : st.val C cv = some (.func (.func g) first caps) := by rfl) (ha : vals C st args.toList = some ds := by rfl) (hr : r.flat = true := by rfl) (hok : OkP P C.G g ds' r) (hcl : CloArgs (ViewB st.obj) (first ++ ds ++ caps) ds') : PureOp P C o st r := pure_call_view ho hb hf (argsV_of ha) hcl hok hr
/-- A call with objects handed over. -/
theorem Sc (pass rest : Objs) {g : FuncId} {cv : Operand} {args : Array Operand} {ats : Array TypeId} {first caps ds : List V} {Qf : V → Objs → Prop} (hb : FnB P g) (hok : Ok P C.G g (first ++ ds ++ caps) pass Qf) (h : ∀ r obj', Qf r obj' → OpsS P C ops l (({ st with obj := obj' ++ rest } : St).put o.dst r) Q)
    (hs : (pass ++ rest).Perm st.obj := by first | exact .refl _ | exact List.perm_append_comm | decide) (hg : st.guard ops o = some true := by rfl) (ho : o.op = .call { callee := .value cv, args := args, argTypes := ats } := by rfl) (hf : st.val C cv = some (.func (.func g) first caps) := by rfl) (ha : vals C st args.toList = some ds := by rfl) : OpsS P C ops (o :: l) st Q := .call hg ho hb hf (argsV_of ha) hs hok h
theorem pbu {t : TypeId} {z : Value} {parts : Array (Nat × Operand)} {pl : List (Nat × Nat)} {ds : List (Nat × V)} {cs' : List V} (hp : PlacesF P t pl) (hz : ZeroF P t z) (ho : o.op = .build t parts := by rfl) (hps : partsV C st parts.toList = some ds := by rfl)
    (hb : bfill (pl[·]?) (V.zero z).cells ds = some cs' := by rfl) : PureOp P C o st (.agg cs') := p_build hp hz ho hps hb
theorem pcbS (bs : List UInt8) {src dst e : TypeId} {s1 b1 s2 b2 s3 b3 : Nat} {x : Operand} (hs : TyF P src (.slice e) s1 b1) (he : TyF P e (.int .u8) s3 b3) (ht : TyF P dst .string s2 b2) (ho : o.op = .convert src dst x := by rfl) (hx : st.val C x = some (.sl 1 (bs.map byteV)) := by rfl) : PureOp P C o st (.str bs) := p_conv_bytes_sl hs he ht ho hx
theorem pcbO (k : Nat) (bs : List UInt8) {src dst e : TypeId} {s1 b1 s2 b2 s3 b3 : Nat} {x : Operand} {id ver off len : Nat} {e' : TypeId} {elems : List V} (hs : TyF P src (.slice e) s1 b1) (he : TyF P e (.int .u8) s3 b3) (ht : TyF P dst .string s2 b2)
    (ho : o.op = .convert src dst x := by rfl) (hx : st.val C x = some (.osl id ver off len) := by rfl) (hk : st.obj[k]? = some (id, .row ver 1 e' elems) := by rfl) (hlen : len = bs.length := by first | rfl | simp) (hb : (elems.drop off).take len = bs.map byteV := by first | rfl | simp) : PureOp P C o st (.str bs) := p_conv_bytes_osl hs he ht ho hx hk hlen hb
theorem bnd0 {n : Nat} : bndV C st none n n := rfl
theorem bndI {x : Operand} {n m : Nat} {k : IntKind} {z : Int} (hx : st.val C x = some (.int k z) := by rfl) (hz : z = (n : Int) := by first | rfl | omega | (simp; done) | (simp; omega)) : bndV C st (some x) m n := ⟨k, z, hx, hz⟩
theorem pslS {t e : TypeId} {sz by_ by' s : Nat} {x : Operand} {plo phi : Option Operand} {row : List V} (lo hi : Nat) (ht : TyF P t (.slice e) sz by_) (he : SizeF P e s by') (ho : o.op = .slice t x plo phi none := by rfl) (hx : st.val C x = some (.sl s row) := by rfl) (hl : bndV C st plo 0 lo) (hh : bndV C st phi row.length hi) (h1 : lo ≤ hi := by first | omega | (simp; done) | (simp; omega)) (h2 : hi ≤ row.length := by first | omega | (simp; done) | (simp; omega)) : PureOp P C o st (.sl s ((row.drop lo).take (hi - lo))) := p_slice_sl ht he ho hx hl hh h1 h2
theorem pslO (k : Nat) {t e : TypeId} {sz by_ by' s : Nat} {x : Operand} {plo phi : Option Operand} {id ver off len : Nat} {e' : TypeId} {elems : List V} (lo hi : Nat) (ht : TyF P t (.slice e) sz by_) (he : SizeF P e s by') (ho : o.op = .slice t x plo phi none := by rfl) (hx : st.val C x = some (.osl id ver off len) := by rfl) (hk : st.obj[k]? = some (id, .row ver s e' elems) := by rfl) (hl : bndV C st plo 0 lo) (hh : bndV C st phi len hi) (h1 : lo ≤ hi := by first | omega | (simp; done) | (simp; omega)) (h2 : hi ≤ len := by first | omega | (simp; done) | (simp; omega)) : PureOp P C o st (.osl id ver (off + lo) (hi - lo)) := p_slice_osl ht he ho hx hk hl hh h1 h2
theorem pslT {t : TypeId} {sz by_ : Nat} {x : Operand} {plo phi : Option Operand} {row : List UInt8} (lo hi : Nat) (ht : TyF P t .string sz by_) (ho : o.op = .slice t x plo phi none := by rfl) (hx : st.val C x = some (.str row) := by rfl) (hl : bndV C st plo 0 lo) (hh : bndV C st phi row.length hi) (h1 : lo ≤ hi := by first | omega | (simp; done) | (simp; omega)) (h2 : hi ≤ row.length := by first | omega | (simp; done) | (simp; omega)) : PureOp P C o st (.str ((row.drop lo).take (hi - lo))) := p_slice_str ht ho hx hl hh h1 h2
theorem pslA (k : Nat) {t e : TypeId} {sz by_ by' s len : Nat} {x : Operand} {plo phi : Option Operand} {id ver i : Nat} {e' : TypeId} {elems : List V} (lo hi : Nat) (ht : TyF P t (.array len e) sz by_) (he : SizeF P e s by') (ho : o.op = .slice t x plo phi none := by rfl) (hx : st.val C x = some (.own id ver i 0) := by rfl) (hk : st.obj[k]? = some (id, .row ver s e' elems) := by rfl) (hfit : i + len ≤ elems.length := by first | omega | (simp; done) | (simp; omega)) (hmax : len ≤ maxLen := by simp [maxLen]) (hl : bndV C st plo 0 lo) (hh : bndV C st phi len hi) (h1 : lo ≤ hi := by first | omega | (simp; done) | (simp; omega)) (h2 : hi ≤ len := by first | omega | (simp; done) | (simp; omega)) : PureOp P C o st (.osl id ver (i + lo) (hi - lo)) := p_slice_arr ht he ho hx hk hl hh h1 h2 hfit hmax
theorem piA {t e : TypeId} {sz by_ by' es len : Nat} {x ix : Operand} {row : List V} {s i c : Nat} {k : IntKind} {n : Int} (j : Nat) (ht : TyF P t (.array len e) sz by_) (he : SizeF P e es by') (ho : o.op = .indexAddr t x ix := by rfl) (hx : st.val C x = some (.ref s row i c) := by rfl) (hix : st.val C ix = some (.int k n) := by rfl) (hn : n = (j : Int) := by first | rfl | omega | (simp; done) | (simp; omega)) (hj : j < len := by first | assumption | omega | (simp; done) | (simp; omega)) : PureOp P C o st (.ref s row i (c + j * es)) := p_index_arr_ref ht he ho hx hix hn hj
theorem piAo (q : Nat) {t e : TypeId} {sz by_ by' s len : Nat} {x ix : Operand} {id ver i : Nat} {e' : TypeId} {elems : List V} {k : IntKind} {n : Int} (j : Nat) (ht : TyF P t (.array len e) sz by_) (he : SizeF P e s by') (ho : o.op = .indexAddr t x ix := by rfl) (hx : st.val C x = some (.own id ver i 0) := by rfl) (hk : st.obj[q]? = some (id, .row ver s e' elems) := by rfl) (hix : st.val C ix = some (.int k n) := by rfl) (hn : n = (j : Int) := by first | rfl | omega | (simp; done) | (simp; omega)) (hj : j < len := by first | assumption | omega | (simp; done) | (simp; omega)) : PureOp P C o st (.own id ver (i + j) 0) := p_index_arr_row ht he ho hx hk hix hn hj

end
end Go.Vc
