import Derived.Test.YtggknbaoaidkiaaGreatDoorA0
set_option linter.all false
set_option maxHeartbeats 8000000
set_option maxRecDepth 100000
open Go.Proofs Go.Proofs.Tryz
open Go.Proofs.Tryz renaming prog->a4
namespace Go.ey
inductive eu where|gW (N:List Bool)|ints (F:IntKind) (N:List Int)
 deriving Inhabited
inductive V where|undef|bool (W:Bool)|int (F:IntKind) (Y:Int)|str (N:List UInt8)|gv|aQ|t_|tY|tZ|ref (O:Nat) (n:List V) (H t:Nat)|f (O:Nat) (n:List V)|own (id al H t:Nat)|a7 (id al off len:Nat)|hF (id al:Nat)|Dr (iB:List (V×V×Nat)) (clock:Nat)|func (fn:Fn) (first asW:List V)|iface (X:TypeId) (U:V)|agg (cells:List V)|vec (Y:Nat) (E:eu) (tail:List V)|tuple (N:List V)|cU (X H t:Nat)|d (X off len:Nat)|dj (X:Nat)|nt (X:Nat)|jP (X H t:Nat)
 deriving Inhabited
def eu.cells:eu->List V|.gW N=>N.map .bool|.ints F N=>N.map<|.int F
def V.cells:V->List V|.agg N=>N|.vec _ E N=>E.cells++N|Z=>[Z]
def V.one:V->Bool|.agg _|.vec .. |.tuple _|.undef=>false|_=>true
structure Loc where
 a8:Option Nat
 base:Nat
 al:Nat
 size:Nat
 s:Nat
structure aF where
 I:Nat->Nat->Option Value
 J:Nat->Option (Array MapEntry×Nat)
 m:Nat->Option Loc
 n:Nat
 fresh:∀id,n<=id->m id=none
 one:∀W P U,I W P=some U->U.oneCell'
structure aF.le(S Ah:aF):Prop where
 I:∀W P U,S.I W P=some U->Ah.I W P=some U
 J:∀W Z,S.J W=some Z->Ah.J W=some Z
 m:∀id N,S.m id=some N->∃ck,Ah.m id=some ck/\N.s=ck.s/\N.al<=ck.al/\(N.al=ck.al->N=ck)
theorem aF.le.refl(S:aF):S.le S:=⟨λ_ _ _ w=>w,λ_ _ w=>w,λ_ N w=>⟨N,w,rfl,a1 _,λ_=>rfl⟩⟩
theorem aF.le.trans{a ct b:aF}(w:a.le ct)(F:ct.le b):a.le b:=⟨λW P c Z=>F.I W P c<|w.I W P c Z,λW Z B=>F.J W Z<|w.J W Z B,λid N g=>by let⟨h,e,j,k,i⟩:=w.m id N g;cases F.m id h e;grind⟩
inductive aE(S:aF):V->Value->Prop
|undef (U:Value):aE S .undef U|bool (W:Bool):aE S (.bool W) (.bool W)|int (F:IntKind) (Y:Int):aE S (.int F Y) (.int F Y)|str (N:List UInt8):aE S (.str N) (.string ⟨N.toArray⟩)|gv:aE S .gv (.pointer none)|aQ:aE S .aQ (.slice none 0 0)|t_:aE S .t_ (.map none)|tY:aE S .tY .nilFunc|tZ:aE S .tZ .nilIface|ref (O:Nat) (n:List V) (H t W base:Nat) (val:Nat->Nat->Value)
 (bo:∀(bJ:Nat)(M:V),n[bJ]?=some M->M.cells.length=O)
 (ah7:∀(bJ t:Nat)(M Z:V),n[bJ]?=some M->M.cells[t]?=some Z->S.I W (base+bJ*O+t)=some (val bJ t))
 (dc:∀(bJ t:Nat)(M Z:V),n[bJ]?=some M->M.cells[t]?=some Z->aE S Z (val bJ t)):
 aE S (.ref O n H t) (.pointer (some ⟨W,base+H*O+t,none⟩))|slnil (O:Nat):aE S (.f O []) (.slice none 0 0)|sT (O:Nat) (E:Addr):aE S (.f O []) (.slice (some E) 0 0)|f (O:Nat) (n:List V) (W base cap:Nat) (val:Nat->Nat->Value) (as3:n.length<=cap) (as8:cap<=maxLen)
 (bo:∀(bJ:Nat)(M:V),n[bJ]?=some M->M.cells.length=O)
 (ah7:∀(bJ t:Nat)(M Z:V),n[bJ]?=some M->M.cells[t]?=some Z->S.I W (base+bJ*O+t)=some (val bJ t))
 (dc:∀(bJ t:Nat)(M Z:V),n[bJ]?=some M->M.cells[t]?=some Z->aE S Z (val bJ t)):
 aE S (.f O n) (.slice (some ⟨W,base,none⟩) n.length cap)|own (id al H t:Nat) (N:Loc) (U:Value) (hm:S.m id=some N) (tN:al<=N.al) (h1:U.oneCell')
 (w:al=N.al->∃W,N.a8=some W/\U=.pointer (some ⟨W,N.base+H*N.s+t,none⟩)):aE S (.own id al H t) U|a7 (id al off len:Nat) (N:Loc) (U:Value) (hm:S.m id=some N) (tN:al<=N.al) (h1:U.oneCell')
 (w:al=N.al->N.a8=none/\len=0/\U=.slice none 0 0\/∃W P cap,N.a8=some W/\U=.slice (some ⟨W,P,none⟩) len cap/\len<=cap/\cap<=maxLen/\(cap=0\/P=N.base+off*N.s/\N.base+(off+cap)*N.s<=N.size)):
 aE S (.a7 id al off len) U|hF (id al:Nat) (N:Loc) (U:Value) (hm:S.m id=some N) (tN:al<=N.al) (h1:U.oneCell')
 (w:al=N.al->∃W,N.a8=some W/\U=.map (some W)):aE S (.hF id al) U|Dr (iB:List (V×V×Nat)) (clock W:Nat) (es:Array MapEntry) (asZ:S.J W=some (es,clock)) (bq:iB.length=es.size)
 (hk:∀(H:Nat)(Z:V×V×Nat)(J:MapEntry),iB[H]?=some Z->es[H]?=some J->aE S Z.1 J.key)
 (tN:∀(H:Nat)(Z:V×V×Nat)(J:MapEntry),iB[H]?=some Z->es[H]?=some J->aE S Z.2.1 J.val)
 (a0:∀(H:Nat)(Z:V×V×Nat)(J:MapEntry),iB[H]?=some Z->es[H]?=some J->Z.2.2=J.born)
 (bo:∀J∈es.toList,J.born<clock) (av:(es.toList.map (·.born)).Nodup):aE S (.Dr iB clock) (.map (some W))|func (fn:Fn) (xs ak:List V) (ph hz:List Value) (bq:xs.length=ph.length) (ain:ak.length=hz.length)
 (w:∀(H:Nat)(Z:V)(U:Value),xs[H]?=some Z->ph[H]?=some U->aE S Z U)
 (fL:∀(H:Nat)(Z:V)(U:Value),ak[H]?=some Z->hz[H]?=some U->aE S Z U):aE S (.func fn xs ak) (.func fn ph.toArray hz.toArray)|iface (X:TypeId) (Z:V) (U:Value) (w:aE S Z U):aE S (.iface X Z) (.iface X U)|agg (xs:List V) (hz:List Value) (bq:xs.length=hz.length) (h1:∀U∈hz,U.oneCell')
 (w:∀(H:Nat)(Z:V)(U:Value),xs[H]?=some Z->hz[H]?=some U->aE S Z U):aE S (.agg xs) (.agg hz.toArray)|vec (Y:Nat) (E:eu) (xs:List V) (hz:List Value) (av:E.cells.length=Y) (bq:(E.cells++xs).length=hz.length) (h1:∀U∈hz,U.oneCell')
 (w:∀(H:Nat)(Z:V)(U:Value),(E.cells++xs)[H]?=some Z->hz[H]?=some U->aE S Z U):aE S (.vec Y E xs) (.agg hz.toArray)|tuple (xs:List V) (hz:List Value) (bq:xs.length=hz.length)
 (w:∀(H:Nat)(Z:V)(U:Value),xs[H]?=some Z->hz[H]?=some U->aE S Z U):aE S (.tuple xs) (.tuple hz.toArray)
def aE.mono{S y:aF}(k:S.le y){Z:V}{c:Value}(w:aE S Z c):aE y Z c:=by
 induction w
 next c=>exact .undef c
 next W=>exact .bool W
 next F Y=>exact .int F Y
 next N=>exact .str N
 exact .gv;exact .aQ;exact .t_;exact .tY;exact .tZ
 next O n u g W base val l t _ b=>exact .ref O n u g W _ val l (λx g M Z a s=>k.I _ _ _<|t x g M Z a s) b
 next O=>exact .slnil O
 next O E=>exact .sT O E
 next O n W base cap val C D l t _ b=>exact .f O n W _ cap val C D l (λx g M Z a s=>k.I _ _ _<|t x g M Z a s) b
 next id r u g N c hm o a w=>let⟨q,h,_,p,he⟩:=k.m id N hm;refine .own id r u g q c h (cA o p) a λJ=>?_;grind
 next id r L len N c hm o a w=>let⟨q,h,_,p,he⟩:=k.m id N hm;refine .a7 id r L len q c h (cA o p) a λJ=>?_;grind
 next id r N c hm o a w=>let⟨q,h,_,p,he⟩:=k.m id N hm;refine .hF id r q c h (cA o p) a λJ=>?_;grind
 next R clock W z A e _ _ B l av H K=>exact .Dr _ _ W z (k.J _ _ A) e H K B l av
 next fn j Q P i e h _ _ b G=>exact .func fn j Q P i e h b G
 next X Z c _ b=>exact .iface X Z c b
 next j i e a _ b=>exact .agg j i e a b
 next Y E j i av e a _ b=>exact .vec Y E j i av e a b
 next j i e _ b=>exact .tuple j i e b
def aE.al9{S:aF}{Z:V}{a:Value}(w:aE S Z a)(b:Z.one):a.oneCell':=by cases w<;>first|rfl|trivial|trivial
inductive bM where|n (al O:Nat) (J:TypeId) (fV:List V)|map (al:Nat) (iB:List (V×V×Nat)) (clock:Nat)|iter (iB:List (V×V×Nat)) (clock:Nat) (seen:List Nat)|hY (O:Nat)
structure kl(S:aF)(iB:List (V×V×Nat))(es:Array MapEntry):Prop where
 len:iB.length=es.size
 key:∀(H:Nat)(Z:V×V×Nat)(J:MapEntry),iB[H]?=some Z->es[H]?=some J->aE S Z.1 J.key
 val:∀(H:Nat)(Z:V×V×Nat)(J:MapEntry),iB[H]?=some Z->es[H]?=some J->aE S Z.2.1 J.val
 born:∀(H:Nat)(Z:V×V×Nat)(J:MapEntry),iB[H]?=some Z->es[H]?=some J->Z.2.2=J.born
def kl.mono{S e:aF}(i:S.le e){g:List (V×V×Nat)}{h:Array MapEntry}(w:kl S g h):kl e g h:=⟨w.len,λc Z J a b=>(w.key c Z J a b).mono i,λc Z J a b=>(w.val c Z J a b).mono i,w.born⟩
def iV(S:aF)(I:World)(N:Loc):bM->Prop|.n i O J g=>N.al=i/\N.s=O/\(N.a8=none/\g=[]\/∃W e,N.a8=some W/\I.heap[W]?=some (.cells e J (0,0))/\e.size=N.size/\N.base+g.length*N.s<=N.size/\(∀(b:Nat)(c:Value),e[b]?=some c->c.oneCell')/\(∀(b:Nat)(M:V),g[b]?=some M->M.cells.length=N.s)/\∀(b j:Nat)(M Z:V),g[b]?=some M->M.cells[j]?=some Z->∃c,e[N.base+b*N.s+j]?=some c/\aE S Z c)|.map i h clock=>N.al=i/\∃W a,N.a8=some W/\I.heap[W]?=some (.map a clock)/\kl S h a/\(∀J∈a.toList,J.born<clock)/\(a.toList.map (·.born)).Nodup|.iter h clock seen=>(N.al=0/\N.base=0)/\∃W D a,N.a8=some W/\I.heap[W]?=some (.mapIter (some D) clock seen.toArray clock)/\S.J D=some (a,clock)/\kl S h a/\(∀J∈a.toList,J.born<clock)/\(a.toList.map (·.born)).Nodup|.hY O=>N.al=0/\N.s=O/\N.a8=none
structure a2 where
 s0:World
 BB:Nat->Prop
 wC:aF
 ids:List Nat
 G:List (Nat×V)
 n:Nat
structure lP(s:a2)(I:World):Prop where
 os:I.os=s.s0.os
 tape:I.tape=s.s0.tape
 output:I.output=s.s0.output
 size:s.s0.heap.size<=I.heap.size
 block:∀F<s.s0.heap.size,¬s.BB F->I.heap[F]?=s.s0.heap[F]?
abbrev bd:=List<|Nat×bM
structure Holds(s:a2)(S:aF)(l:bd)(I:World):Prop where
 le:s.wC.le S
 G:lP s I
 k0:∀id N,s.wC.m id=some N->id∉s.ids->S.m id=some N
 k6:∀W P U,S.I W P=some U->s.wC.I W P=some U\/s.s0.heap.size<=W\/s.BB W
 k7:∀W Z,S.J W=some Z->s.wC.J W=some Z\/s.s0.heap.size<=W\/s.BB W
 own:∀id P,(id,P)∈l->id∈s.ids\/s.wC.m id=none
 i4:∀W P U,S.I W P=some U->I.cell? ⟨W,P,none⟩=some U
 kb:∀W es clock,S.J W=some (es,clock)->I.heap[W]?=some (.map es clock)
 eO:∀id P,(id,P)∈l->∃N,S.m id=some N/\iV S I N P
 jw:(l.map (·.1)).Nodup
 i9:∀id P N W,(id,P)∈l->S.m id=some N->N.a8=some W->(s.s0.heap.size<=W\/s.BB W)/\(∀F,S.I W F=none)/\S.J W=none
 inj:∀id P MW ke N ck W,(id,P)∈l->(MW,ke)∈l->S.m id=some N->S.m MW=some ck->N.a8=some W->ck.a8=some W->id=MW
def acJ(S:aF)(b:List (Nat×V))(E:Act):Prop:=∀X Z,b.lookup X=some Z->∃a,E.tmps[X]?=some a/\aE S Z a
structure aw where
 h:List (Nat×V)
 l:bd
def aw.put(R:aw)(X:Option Nat)(Z:V):aw:=match X with|some X=>{R with h:=(X,Z)::R.h}|none=>R
structure aH(s:a2)(R:aw)(E:Act)(I:World)(S:aF):Prop where
 ci:Holds s S R.l I
 h:acJ S R.h E
 fk:∀y Z,(y,Z)∈s.G->aE S Z (.pointer (some ⟨y,0,none⟩))
 size:E.tmps.size=s.n
 defers:E.defers=[]
def F1(s:a2)(e:Exit->aw->Prop):Exit->Act->World->Prop:=λJ E I=>∃R S,e J R/\aH s R E I S
def dE(T:Program)(s:a2)(a:Code)(R:aw)(e:Exit->aw->Prop):Prop:=∀E I S,aH s R E I S->a.wp T (F1 s e) E I
def mD(Y:Nat)(N:List Oper):Bool:=N.all λP=>match P.dst with|some M=>M<Y|none=>true
def bS(T:Program)(s:a2)(ops:Array Oper)(N:List Oper)(R:aw)(e:Exit->aw->Prop):Prop:=mD s.n N=true->∀E I S,aH s R E I S->wpList T ops (F1 s e) N E I
def V.leaf:Value->V|.bool W=>.bool W|.int F Y=>.int F Y|.string O=>.str O.data.toList|.pointer none=>.gv|.slice none 0 0=>.aQ|.map none=>.t_|.nilFunc=>.tY|.nilIface=>.tZ|_=>.undef
def V.const:Value->V|.agg b=>if b.toList.all (λa=>a.oneCell') then .agg (b.toList.map V.leaf) else .undef|.tuple c=>if c.toList.isEmpty then .tuple [] else .undef|a=>V.leaf a
theorem aE.leaf S a:aE S (V.leaf a) a:=by
 unfold V.leaf;split<;>first|exact .bool _|exact .int _ _|exact .gv|exact .aQ|exact .t_|exact .tY|exact .tZ|exact .undef _|skip
 rename_i O;have:=aE.str (S:=S) O.data.toList;omega
theorem aE.const S a:aE S (V.const a) a:=by
 unfold V.const;split;rename_i b;split;rename_i w;have:=aE.agg (S:=S) (b.toList.map V.leaf) _ af (kM.1 w · ·) (by grind[aE.leaf]);omega;exact .undef _;split;rename_i w;have c:=by simpa using w
 subst c;exact aE.tuple [] [] rfl af;exact .undef _;simp[aE.leaf]
def aw.val(s:a2)(R:aw):Operand->Option V|.tmp X=>R.h.lookup X|.const a=>some (V.const a)|.global y=>s.G.lookup y|.func x=>some<|.func (.func x) [] []
def NU{a:Type}{N:List (Nat×a)}{X:Nat}{Z:a}(w:N.lookup X=some Z):(X,Z)∈N:=by
 induction N
 trivial
 next c N b=>grind
theorem aH.val{s:a2}{R:aw}{E:Act}{I:World}{S:aF}(w:aH s R E I S){P:Operand}{Z:V}(a:R.val s P=some Z):aE S Z (E.eval P):=by
 cases P
 next X=>let⟨b,e,c⟩:=w.h X Z a;simp_all[Act.eval]
 next b=>simp[aw.val,fc] at a;subst a;exact aE.const S b
 next y=>exact w.fk y Z (NU a)
 next x=>simp[aw.val,fc] at a;subst a;exact aE.func _ [] [] [] [] rfl rfl af af
def aw.guard(R:aw)(ops:Array Oper)(P:Oper):Option Bool:=match P.guard with
|none=>some true|some (a,b)=>
 match(ops[a]?).bind (·.dst) with
 |some M=>match R.h.lookup M with|some (.bool W)=>some (W==b)|some (.tuple [])=>some false|_=>none
 |none=>none
def aH.wanted{s:a2}{R:aw}{E:Act}{I:World}{S:aF}(w:aH s R E I S){ops:Array Oper}{P:Oper}{W:Bool}(a:R.guard ops P=some W):Region.wanted P (yielded ops E.tmps)=W:=by
 unfold aw.guard at a;unfold Region.wanted;split at a;simp_all;split at a;rename_i M j;split at a;rename_i i b;let⟨g,e,c⟩:=w.h M _ b;cases c;simp_all[yielded];rename_i b;let⟨g,e,c⟩:=w.h M _ b;cases c
 next _ l k _=>grind[yielded]
 trivial;trivial
def H0(R:aw)X Z dq:(R.put (some X) Z).h.lookup dq=if dq=X then some Z else R.h.lookup dq:=by grind[aw.put]
theorem aH.put{s:a2}{R:aw}{E:Act}{I aT:World}{S c:aF}(w:aH s R E I S)(e:S.le c){P:bd}(j:Holds s c P aT){M:Option Nat}{Z:V}{b:Value}(m:aE c Z b)(k:∀X,M=some X->X<s.n):aH s (({R with l:=P}).put M Z) (E.put M b) aT c:=by
 cases M;exact⟨j,λX B a=>by let⟨b,i,g⟩:=w.h X B a;exact⟨b,i,g.mono e⟩,λy B a=>(w.fk y B a).mono e,w.size,w.defers⟩
 next X=>refine⟨j,λdq B a=>?_,λy B a=>(w.fk y B a).mono e,by simpa[Act.put] using w.size,by simpa[Act.put] using w.defers⟩;rw[H0] at a;simp[Act.put];split at a;rename_i he;subst he;simp at a;subst a;refine⟨b,?_,m⟩;simp[w.size,k dq rfl];let⟨aP,i,g⟩:=w.h dq B a;refine⟨aP,?_,g.mono e⟩;grind
def cb(T:Program)(s:a2)(P:Oper)(R:aw)(D:V):Prop:=∀E I S,aH s R E I S->∀(b:Act->World->Prop)(e:Exit->Act->World->Prop),(∀c aT a,S.le a->aE a D c->Holds s a R.l aT->b (E.put P.dst c) aT)->P.wp T E I b e
def CW{Y:Nat}{P:Oper}{N:List Oper}(w:mD Y (P::N)):(∀X,P.dst=some X->X<Y)/\mD Y N:=by simp[mD,Kj] at w⊢;grind
theorem bS.nil{T:Program}{s:a2}{ops:Array Oper}{R:aw}{e:Exit->aw->Prop}(w:e .normal R):bS T s ops [] R e:=λ_ _ _ S a=>⟨R,S,w,a⟩
def bS.pure{T:Program}{s:a2}{ops:Array Oper}{P:Oper}{N:List Oper}{R:aw}{e:Exit->aw->Prop}{D:V}(j:R.guard ops P=some true)(l:cb T s P R D)(w:bS T s ops N (R.put P.dst D) e):bS T s ops (P::N) R e:=by intro g E I S a;let⟨h,i⟩:=CW g;unfold wpList;rw[ab<|a.wanted j];refine .inl<|l E I S a _ _ λo aT b c m k=>?_;exact w i _ _ b<|a.put c k m h
def bS.skip{T:Program}{s:a2}{ops:Array Oper}{P:Oper}{N:List Oper}{R:aw}{e:Exit->aw->Prop}(h:R.guard ops P=some false)(w:bS T s ops N (R.put P.dst (.tuple [])) e):bS T s ops (P::N) R e:=by intro b E I S a;let⟨c,g⟩:=CW b;unfold wpList;rw[aa (by rw[a.wanted h];simp)];exact w g _ _ S<|a.put (aF.le.refl S) a.ci (aE.tuple [] [] rfl af) c
section
variable{T:Program}{s:a2}{R:aw}{e:Exit->aw->Prop}
theorem dE.region{c:Nat}{N:List Oper}(b:mD s.n N)(w:bS T s N.toArray N R e):dE T s (.region c N.toArray false) R e:=λE I S a=>wp_region_lit<|w b E I S a
@[reducible] def arD(next:aw->Prop)(e:Exit->aw->Prop):Exit->aw->Prop|.normal,R=>next R|J,R=>e J R
def dE.seq{Z B:Code}(w:dE T s Z R (arD (dE T s B · e) e)):dE T s (.seq Z B) R e:=by intro E I S g;refine wp_seq<|Code.wp_mono ?_<|w E I S g;rintro J c aT ⟨dd,a,b,h⟩;cases J with|normal=>exact b c aT a h|_=>exists dd,a,b
theorem dE.skip(w:e .normal R):dE T s .skip R e:=λ_ _ S a=>wp_skip ⟨R,S,w,a⟩
theorem dE.ret(w:e .ret R):dE T s .ret R e:=λ_ _ S a=>wp_ret ⟨R,S,w,a⟩
theorem dE.exit{a:Nat}(w:e (.exit a) R):dE T s (.exit a) R e:=λ_ _ S b=>wp_exit ⟨R,S,w,b⟩
def dE.label{Y:Nat}(w:e .normal R):dE T s (.label Y) R e:=λ_ _ S a=>wp_label ⟨R,S,w,a⟩
def dE.cond{a:Operand}{Z B:Code}{W:Bool}(g:R.val s a=some (.bool W))(aU:W->dE T s Z R e)(h:W=false->dE T s B R e):dE T s (.cond a Z B) R e:=by
 intro E I S b;have c:=b.val g;have he:E.eval a=.bool W:=by generalize E.eval a=i at c;cases c;rfl
 cases W with|true=>exact wp_cond_true he (aU rfl E I S b)|false=>exact wp_cond_false he<|h rfl E I S b
@[reducible] def LF(b:Nat)(e:Exit->aw->Prop):Exit->aw->Prop|.exit a,R=>if a=b then e .normal R else e (.exit a) R|J,R=>e J R
theorem dE.block{g:Nat}{c:Code}(w:dE T s c R (LF g e)):dE T s (.block g c) R e:=by intro E I S h;refine wp_block<|Code.wp_mono ?_<|w E I S h;rintro J i aT ⟨dd,b,a,j⟩;cases J with|exit k=>simp[LF] at a;simp[Exit.inBlock];split;rename_i he;rw[ab he] at a;exists dd,b,a;rename_i he;rw[aa he] at a;exists dd,b,a|_=>exists dd,b,a
end
structure bG(T:Program)(X:TypeId)(M:TypeDesc)(size bytes:Nat):Prop where
 u:T.underlying X=some M
 i:(T.info? X).map (λi=>(i.size,i.bytes))=some (size,bytes)
def bG.zf{T:Program}{X:TypeId}{M:TypeDesc}{c b:Nat}(w:bG T X M c b):∃a,T.info? X=some a/\a.size=c/\a.bytes=b:=by have:=w.i;simp_all
def bG.io{T:Program}{X:TypeId}{M:TypeDesc}{a b:Nat}(w:bG T X M a b)I:(sizeOf X).run T I=.ok a I:=by cases w.zf;simp_all[sizeOf,typeInfo]
structure fi(T:Program)(X:TypeId)(size bytes:Nat):Prop where
 i:(T.info? X).map (λi=>(i.size,i.bytes))=some (size,bytes)
def fi.zf{T:Program}{X:TypeId}{c b:Nat}(w:fi T X c b):∃a,T.info? X=some a/\a.size=c/\a.bytes=b:=by have:=w.i;simp_all
def fi.io{T:Program}{X:TypeId}{a b:Nat}(w:fi T X a b)I:(sizeOf X).run T I=.ok a I:=by cases w.zf;simp_all[sizeOf,typeInfo]
theorem bG.K{T:Program}{X:TypeId}{M:TypeDesc}{b a:Nat}(w:bG T X M b a):fi T X b a:=⟨w.i⟩
def lv:TypeDesc->Bool|.struct _|.array _ _=>true|_=>false
def bG.pV{T:Program}{X:TypeId}{M:TypeDesc}{size bytes:Nat}(w:bG T X M size bytes)I:(isAgg X).run T I=.ok (lv M) I:=by unfold isAgg;rw[Sem.run_bind,run_underlying w.u,Result.andThen_ok];cases M<;>rfl
variable{j:List V}
section
variable{T:Program}{s:a2}{P:Oper}{R:aw}
def cb.same{D:V}(w:∀E I S,aH s R E I S->∃a,aE S D a/\(execOp E.eval P).run T I=.ok (.value a) I):cb T s P R D:=by intro E I S b h i c;let⟨a,g,e⟩:=w E I S b;unfold Oper.wp;rw[e];exact c a I S (aF.le.refl S) g b.ci
theorem cb.run{D:V}(w:∀E I S,aH s R E I S->∃b aT a,S.le a/\aE a D b/\Holds s a R.l aT/\(execOp E.eval P).run T I=.ok (.value b) aT):cb T s P R D:=by intro E I S g k m e;let⟨b,aT,a,c,j,h,i⟩:=w E I S g;unfold Oper.wp;rw[i];exact e b aT a c j h
theorem YQ{Z:Operand}{D:V}(b:P.op=.move Z)(c:R.val s Z=some D):cb T s P R D:=.same λE I S a=>⟨_,a.val c,by simp[execOp,b]⟩
theorem anV{Z:Operand}{D:V}(b:P.op=.assign Z)(c:R.val s Z=some D):cb T s P R D:=.same λE I S a=>⟨_,a.val c,by simp[execOp,b]⟩
def O2{a Z B:Operand}{X:Bool}{D:V}(g:P.op=.pick a Z B)(e:R.val s a=some (.bool X))(i:R.val s (if X then Z else B)=some D):cb T s P R D:=.same λE I S c=>by have b:=c.val e;generalize h:E.eval a=j at b;cases b;exists _,c.val i;cases X<;>simp[execOp,g,h,asBool]
def bR(T:Program)(c:BinOp)(X:TypeId)(Z B:Operand)(e g D:V):Prop:=∀S b a I,aE S e b->aE S g a->∃aP,aE S D aP/\(do eqGuard c X Z B b a;binOp c X b a:Sem Value).run T I=.ok aP I
def ul{e:BinOp}{X dq:TypeId}{Z B:Operand}{a b D:V}(g:P.op=.binOp e X Z B dq)(j:R.val s Z=some a)(k:R.val s B=some b)(w:bR T e X Z B a b D):cb T s P R D:=.same λE I S c=>by let⟨aP,i,h⟩:=w S _ _ I (c.val j)<|c.val k;exists aP,i;simp only[execOp,g];rw[Sem.run_bind,h];rfl
section bin
variable{X:TypeId}{Z B:Operand}{F:IntKind}{E W:Int}
def kZ(F:IntKind)(Y:Int):Prop:=F.min<=Y/\Y<=F.max
theorem rS{F:IntKind}{Y:Int}(w:kZ F Y):F.wrap Y=Y:=by cases w;cases F<;>simp only[IntKind.min,IntKind.max,IntKind.signed,IntKind.bits,IntKind.wrap] at*<;>simp at*<;>(omega)<;>omega
def bR.o0{a:BinOp}{D:V}(w:∀S I,∃aP,aE S D aP/\(binOp a X (.int F E) (.int F W)).run T I=.ok aP I):bR T a X Z B (.int F E) (.int F W) D:=by intro S g e I b c;cases b;cases c;simp_all[eqGuard_at_int]
def bR.lss:bR T .lss X Z B (.int F E) (.int F W) (.bool (decide (E<W))):=.o0 λS I=>⟨_,.bool _,by simp[binOp_lss]⟩
def bR.leq:bR T .leq X Z B (.int F E) (.int F W) (.bool (decide (E<=W))):=.o0 λS I=>⟨_,.bool _,by simp[binOp_leq]⟩
def bR.gtr:bR T .gtr X Z B (.int F E) (.int F W) (.bool (decide (W<E))):=.o0 λS I=>⟨_,.bool _,by simp[binOp_gtr]⟩
def bR.geq:bR T .geq X Z B (.int F E) (.int F W) (.bool (decide (W<=E))):=.o0 λS I=>⟨_,.bool _,by simp[binOp_geq]⟩
def bR.eql:bR T .eql X Z B (.int F E) (.int F W) (.bool (decide (E=W))):=.o0 λS I=>⟨_,.bool _,by rw[binOp_eql];rfl⟩
def bR.neq:bR T .neq X Z B (.int F E) (.int F W) (.bool (decide ¬E=W)):=.o0 λS I=>⟨_,.bool _,by rw[binOp_neq];simp;grind⟩
theorem bR.add(w:kZ F (E+W)):bR T .add X Z B (.int F E) (.int F W) (.int F (E+W)):=.o0 λS I=>⟨_,.int _ _,by simp[binOp_add,Op.intArith,rS w]⟩
theorem bR.sub(w:kZ F (E-W)):bR T .sub X Z B (.int F E) (.int F W) (.int F (E-W)):=.o0 λS I=>⟨_,.int _ _,by simp[binOp_sub,Op.intArith,rS w]⟩
theorem bR.mul(w:kZ F (E*W)):bR T .mul X Z B (.int F E) (.int F W) (.int F (E*W)):=.o0 λS I=>⟨_,.int _ _,by simp[binOp_mul,Op.intArith,rS w]⟩
def bR.adg:bR T .add X Z B (.int F E) (.int F W) (.int F (F.wrap (E+W))):=.o0 λS I=>⟨_,.int _ _,by simp[binOp_add,Op.intArith]⟩
def bR.zJ:bR T .sub X Z B (.int F E) (.int F W) (.int F (F.wrap (E-W))):=.o0 λS I=>⟨_,.int _ _,by simp[binOp_sub,Op.intArith]⟩
def bR.akX:bR T .mul X Z B (.int F E) (.int F W) (.int F (F.wrap (E*W))):=.o0 λS I=>⟨_,.int _ _,by simp[binOp_mul,Op.intArith]⟩
def bR.quo(a:W≠0)(w:kZ F (E.tdiv W)):bR T .quo X Z B (.int F E) (.int F W) (.int F (E.tdiv W)):=.o0 λS I=>⟨_,.int _ _,by simp_all[binOp_quo,Op.intDiv,rS]⟩
def bR.rem(a:W≠0):bR T .rem X Z B (.int F E) (.int F W) (.int F (E.tmod W)):=.o0 λS I=>⟨_,.int _ _,by simp[binOp_rem,Op.intDiv,a]⟩
def Gn(a:BinOp)(Y:Nat)(E W:BitVec Y):BitVec Y:=match a with
|.and=>E&&&W|.or=>E|||W
|.xor=>E^^^W|_=>E&&&~~~W
def Vi:BinOp->Bool|.and|.or|.xor|.andNot=>true|_=>false
def lV(a:BinOp)(F:IntKind)(E W:Int):Int:=F.wrap (Gn a F.bits (BitVec.ofInt F.bits E)<|BitVec.ofInt F.bits W).toNat
theorem bR.bits{a:BinOp}(w:Vi a):bR T a X Z B (.int F E) (.int F W) (.int F (lV a F E W)):=.o0 λS I=>⟨_,.int _ _,by cases a<;>simp[Vi] at w<;>simp[binOp_and,binOp_or,binOp_xor,binOp_andNot,Op.intBits,lV,Gn]⟩
def bR.shl{c:IntKind}(w:0<=W):bR T .shl X Z B (.int F E) (.int c W) (.int F (F.wrap (E*2^min W.toNat F.bits))):=by intro S g e I a b;cases a;cases b;exact⟨_,.int _ _,by(simp[eqGuard_at_int,binOp_shl,Op.shift];omega)⟩
def bR.shr{c:IntKind}(w:0<=W):bR T .shr X Z B (.int F E) (.int c W) (.int F (E.fdiv (2^min W.toNat F.bits))):=by intro S g e I a b;cases a;cases b;exact⟨_,.int _ _,by(simp[eqGuard_at_int,binOp_shr,Op.shift];omega)⟩
def ad6(N o:List UInt8):(⟨N.toArray⟩:ByteArray)++⟨o.toArray⟩=⟨(N++o).toArray⟩:=by rfl
def Lu(N:List UInt8):(⟨N.toArray⟩:ByteArray).size=N.length:=ax
def bR.mkStr{b:BinOp}{O aP:List UInt8}{D:V}(w:∀S I,∃a,aE S D a/\(binOp b X (.string ⟨O.toArray⟩) (.string ⟨aP.toArray⟩)).run T I=.ok a I):bR T b X Z B (.str O) (.str aP) D:=by intro S a g I c e;cases c;cases e;simp_all[eqGuard_at_string]
variable{O aP:List UInt8}
def yJ a:binOp a X (.string ⟨O.toArray⟩) (.string ⟨aP.toArray⟩)=Op.stringOp a ⟨O.toArray⟩ ⟨aP.toArray⟩:=by cases a<;>rfl
def bR.ap0:bR T .eql X Z B (.str O) (.str aP) (.bool (decide (O=aP))):=.mkStr λS I=>⟨_,.bool _,by rw[yJ];simp[Op.stringOp];grind⟩
def bR.aqw:bR T .neq X Z B (.str O) (.str aP) (.bool (decide ¬O=aP)):=.mkStr λS I=>⟨_,.bool _,by rw[yJ];simp[Op.stringOp];grind⟩
def bR.aqv:bR T .lss X Z B (.str O) (.str aP) (.bool (Op.bytesLess O aP)):=.mkStr λS I=>⟨_,.bool _,by simp[yJ,Op.stringOp]⟩
def bR.aqh:bR T .gtr X Z B (.str O) (.str aP) (.bool !(Op.bytesLess O aP||decide (O=aP))):=.mkStr λS I=>⟨_,.bool _,by rw[yJ];simp[Op.stringOp];grind⟩
def bR.aqe:bR T .geq X Z B (.str O) (.str aP) (.bool ! Op.bytesLess O aP):=.mkStr λS I=>⟨_,.bool _,by simp[yJ,Op.stringOp]⟩
def bR.aqs:bR T .leq X Z B (.str O) (.str aP) (.bool (Op.bytesLess O aP||decide (O=aP))):=.mkStr λS I=>⟨_,.bool _,by rw[yJ];simp[Op.stringOp];grind⟩
theorem bR.apS(w:O.length+aP.length<=9223372036854775807):bR T .add X Z B (.str O) (.str aP) (.str (O++aP)):=.mkStr λS I=>⟨_,.str _,by rw[yJ];simp[Op.stringOp,Lu,ad6,IntKind.bits];omega⟩
end bin
def an_{X:TypeId}{Z:Operand}{W:Bool}(e:P.op=.unOp .not X Z)(c:R.val s Z=some (.bool W)):cb T s P R (.bool !W):=.same λE I S b=>by have a:=b.val c;generalize g:E.eval Z=h at a;cases a;exact⟨_,.bool _,by simp_all[execOp,Op.unary]⟩
def an7{X:TypeId}{Z:Operand}{F:IntKind}{Y:Int}(e:P.op=.unOp .neg X Z)(c:R.val s Z=some (.int F Y))(w:kZ F (0-Y)):cb T s P R (.int F (-Y)):=.same λE I S b=>by have a:=b.val c;generalize g:E.eval Z=h at a;cases a;exists _,.int _ _;simp_all[rS,execOp,Op.unary,Op.intArith]
def an8{X:TypeId}{Z:Operand}{F:IntKind}{Y:Int}(e:P.op=.unOp .neg X Z)(c:R.val s Z=some (.int F Y)):cb T s P R (.int F (F.wrap (-Y))):=.same λE I S b=>by have a:=b.val c;generalize g:E.eval Z=h at a;cases a;exact⟨_,.int _ _,by simp_all[execOp,Op.unary,Op.intArith]⟩
def an9{Z:Operand}{O c b:Nat}(h:P.op=.nilCheck Z)(g:R.val s Z=some (.ref O j c b)):cb T s P R (.ref O j c b):=.same λE I S e=>by have a:=e.val g;exists _,a;generalize i:E.eval Z=k at a;cases a;simp_all[execOp]
def an0{Z:Operand}{N:List V}{a:Nat}{D:V}(k:P.op=.extract Z a)(j:R.val s Z=some (.tuple N))(c:N[a]?=some D):cb T s P R D:=.same λE I S g=>by
 have b:=g.val j;generalize l:E.eval Z=m at b;cases b with
 |tuple _ e h w=>
  have i:a<e.length:=by rw[<-h];exact(dm.1 c).1
  exists e[a],w a _ _ c<|bw i;simp_all[execOp,Instr.extract,bw]
def V.Nw:V->Option Nat|.aQ=>some 0|.f _ n=>some n.length|_=>none
def aE.aqu{S:aF}{Z:V}{a:Value}{Y:Nat}(w:aE S Z a)(c:Z.Nw=some Y):∃E b,a=.slice E Y b:=by cases w<;>simp[V.Nw] at c<;>((simp;omega))
def O0{X J:TypeId}{K bs Y:Nat}{Z:Operand}{a:V}(aU:bG T X (.slice J) K bs)(e:P.op=.call {callee:=.builtin .len,args:=#[Z],argTypes:=#[X]})(h:R.val s Z=some a)(c:a.Nw=some Y):cb T s P R (.int .i64 Y):=.same λE I S b=>by let⟨W,i,g⟩:=(b.val h).aqu c;exists _,.int _ _;simp[execOp,e,g,resolve,invoke,builtin,Builtin.len_,run_underlying aU.u,goInt]
def aH.a7{E:Act}{I:World}{S:aF}(w:aH s R E I S){Z:Operand}{id al a Y F O:Nat}{J:TypeId}{fV:List V}(i:R.val s Z=some (.a7 id al a Y))(g:R.l[F]?=some (id,.n al O J fV)):∃N,S.m id=some N/\iV S I N (.n al O J fV)/\(N.a8=none/\Y=0/\E.eval Z=.slice none 0 0\/∃W P cap,N.a8=some W/\E.eval Z=.slice (some ⟨W,P,none⟩) Y cap/\Y<=cap/\cap<=maxLen/\(cap=0\/P=N.base+a*N.s/\N.base+(a+cap)*N.s<=N.size)):=by let⟨N,h,e⟩:=w.ci.eO _ _<|dh g;exists N,h,e;let c:=w.val i;cases c with|a7 _ _ _ _ j o hm k c w=>obtain rfl:N=j:=b;exact w e.1.symm
def OZ{X J e:TypeId}{K bs:Nat}{Z:Operand}{b c m Y F O:Nat}(aU:bG T X (.slice J) K bs)(i:P.op=.call {callee:=.builtin .len,args:=#[Z],argTypes:=#[X]})(k:R.val s Z=some (.a7 b c m Y))(h:R.l[F]?=some (b,.n c O e j)):cb T s P R (.int .i64 Y):=.same λE I S g=>by
 let⟨N,o,p,w⟩:=g.a7 k h;rcases w with⟨_,rfl,a⟩|⟨W,q,cap,_,a,_⟩<;>
  exact⟨_,.int _ _,by simp[execOp,i,resolve,invoke,builtin,Builtin.len_,run_underlying aU.u,goInt,a]⟩
def an2{X:TypeId}{K bs:Nat}{Z:Operand}{N:List UInt8}(aU:bG T X .string K bs)(c:P.op=.call {callee:=.builtin .len,args:=#[Z],argTypes:=#[X]})(g:R.val s Z=some (.str N)):cb T s P R (.int .i64 N.length):=.same λE I S b=>by have a:=b.val g;generalize e:E.eval Z=h at a;cases a;exists _,.int _ _;simp[execOp,c,e,resolve,invoke,builtin,Builtin.len_,run_underlying aU.u,goInt,Lu]
def YN{X J:TypeId}{K bs cL:Nat}{Z b:Operand}{O a:Nat}{F:IntKind}{Y:Int}(aU:bG T X (.slice J) K bs)(he:fi T J O cL)(l:P.op=.indexAddr X Z b)(r:R.val s Z=some (.f O j))(k:R.val s b=some (.int F Y))(av:Y=(a:Int))(i:a<j.length):cb T s P R (.ref O j a 0):=.same λE I S g=>by have c:=g.val r;have e:=g.val k;generalize q:E.eval Z=x at c;generalize p:E.eval b=aP at e;cases e;cases c with|slnil=>trivial|sT=>trivial|f _ _ W base cap val t w o h m=>refine⟨_,.ref O j a 0 W _ val o h m,?_⟩;subst av;simp[execOp,l,q,p,Instr.indexAt,asIntOf,run_underlying aU.u,he.io,i,Addr.add_lit]
def YO{X:TypeId}{M:TypeDesc}{K bs:Nat}{Z:Operand}{O b a:Nat}{J D:V}(aU:bG T X M K bs)(k:lv M=false)(l:P.op=.load X Z)(p:R.val s Z=some (.ref O j b a))(h:j[b]?=some J)(g:J.cells[a]?=some D):cb T s P R D:=.same λE I S e=>by have c:=e.val p;generalize o:E.eval Z=r at c;cases c with|ref _ _ _ _ W base val q i m=>exists _,m b a J D h g;have:=e.ci.i4 _ _ _<|i b a J D h g;simp[execOp,l,o,Instr.loadAt,Instr.sureAddr,loadVar,aU.pV,k,this]
theorem an4{X:TypeId}{M:TypeDesc}{Y bs:Nat}{Z:Operand}{O c b:Nat}{J:V}{N:List V}(aU:bG T X M Y bs)(r:lv M)(x:P.op=.load X Z)(y:R.val s Z=some (.ref O j c b))(p:j[c]?=some J)(t:(J.cells.drop b).take Y=N)(av:N.length=Y):cb T s P R (.agg N):=.same λE I S m=>by
 have i:=m.val y;generalize g:E.eval Z=z at i;cases i with
 |ref _ _ _ _ W base val B l A=>
  have o:∀a<Y,∃Z,J.cells[b+a]?=some Z/\N[a]?=some Z:=by
   intro a e;have q:a<N.length:=v;refine⟨N[a],?_,bw q⟩;have k:((J.cells.drop b).take Y)[a]?=some N[a]:=by rw[t];exact bw q
   rw[lf,ab e,pZ] at k;exact k
  have u:∀a<Y,I.cell? ((⟨W,base+c*O+b,none⟩:Addr).add a)=some (val c (b+a)):=by intro a e;let⟨Z,h,_⟩:=o a e;have:=m.ci.i4 _ _ _<|l c _ J Z p h;rw[Addr.add_lit];simpa[ye] using this
  refine⟨.agg ((List.range Y).map λa=>val c<|b+a).toArray,?_,?_⟩;refine .agg N _ aM ?_ ?_;intro z g;simp at g;obtain⟨a,e,rfl⟩:=g;let⟨Z,h,_⟩:=o a e;exact S.one _ _ _<|l c _ J Z p h;grind;simp[execOp,x,g,Instr.loadAt,Instr.sureAddr,loadVar,aU.pV,r,aU.io,run_loadCells (P:=T) (w:=I) ⟨W,base+c*O+b,none⟩ Y (λa=>val c<|b+a) u]
end
def iV.mono{S j:aF}{I aT:World}{N:Loc}{P:bM}(w:iV S I N P)(g:S.le j)(i:∀W,N.a8=some W->aT.heap[W]?=I.heap[W]?):iV j aT N P:=by
 cases P
 next C O J F=>let⟨b,q,k⟩:=w;exists b,q;rcases k with k|⟨W,l,a,c,ap,t,p,s,e⟩;simp_all;refine .inr ⟨W,l,a,(i W a).trans c,ap,t,p,s,λB m M Z u A=>?_⟩;let⟨E,z,x⟩:=e B m M Z u A;exact⟨E,z,x.mono g⟩
 next C o clock=>let⟨b,W,h,a,c,e,y⟩:=w;exists b,W,h,a,(i W a).trans c,e.mono g
 next o clock seen=>let⟨b,W,D,h,a,c,r,e,y⟩:=w;exists b,W,D,h,a,(i W a).trans c,g.J _ _ r,e.mono g
 next O=>exact w
def aF.fo(S:aF)(b:Nat)(N:Loc):aF:={S with
 m:=λa=>if a=b then some N else S.m a
 n:=max S.n (b+1)
 fresh:=λa p=>by rw[aa v];exact S.fresh a v}
def aF.kJ(S:aF)a N:(S.fo a N).m a=some N:=by simp[aF.fo]
def aF.o_(S:aF){b a:Nat}N:a≠b->(S.fo b N).m a=S.m a:=by grind[aF.fo]
def aF.i7{S:aF}{a:Nat}{ck:Loc}(w:∀N,S.m a=some N->N.s=ck.s/\N.al<=ck.al/\(N.al=ck.al->N=ck)):S.le (S.fo a ck):=by refine⟨λ_ _ _ w=>w,λ_ _ w=>w,λb N p=>?_⟩;by_cases he:b=a;subst he;exact⟨ck,S.kJ _ _,w N p⟩;exact⟨N,(S.o_ ck he).trans p,rfl,a1 _,λ_=>rfl⟩
section
variable{s:a2}{S:aF}{l:bd}{I aT:World}
theorem Holds.A0(w:Holds s S l I){W P:Nat}{a:Value}(b:S.I W P=some a):W<I.heap.size:=World.block_lt_of_cell? I _<|w.i4 W P a b
def iV.u_{N:Loc}{P:bM}(w:iV S I N P){W:Nat}:N.a8=some W->W<I.heap.size:=by
 cases P
 next b O J e=>let⟨_,_,h⟩:=w;grind
 next b a clock=>let⟨_,c,g,i,j,_⟩:=w;grind
 next a clock seen=>cases w;grind
 next O=>cases w;simp_all
def Bi{a:Type}{N:List a}{F:Nat}{Z B:a}:B∈N.set F Z->B=Z\/∃b≠F,N[b]?=some B:=by grind[List.mem_iff_getElem?]
def zp{N:bd}(w:(N.map (·.1)).Nodup){b c:Nat}{a e:Nat×bM}(g:N[b]?=some a)(h:N[c]?=some e)(he:a.1=e.1):b=c:=by
 let i:(N.map (·.1))[b]?=some a.1:=by simp[g]
 let j:(N.map (·.1))[c]?=some a.1:=by simp[h,he]
 grind[List.getElem?_inj]
theorem Holds.sY(w:Holds s S l I){F q:Nat}{P ke:bM}{N ck:Loc}(E:l[F]?=some (q,P))(Y:S.m q=some N)(an:N.s=ck.s)(ao:N.al<=ck.al)(he:N.al=ck.al->N=ck)(e:ck.a8=N.a8\/∃W,ck.a8=some W/\I.heap.size<=W)(u:I.grownBy aT N.a8)(am:iV (S.fo q ck) aT ck ke):Holds s (S.fo q ck) (l.set F (q,ke)) aT:=by
 have H:=dh E;have ad:S.le (S.fo q ck):=aF.i7 λh a=>b;have O:∀W,N.a8=some W->(s.s0.heap.size<=W\/s.BB W)/\(∀F,S.I W F=none)/\S.J W=none:=λW e=>w.i9 q P N W H Y e;have y:∀g r,g≠F->l[g]?=some r->r.1≠q:=λg r j z J=>j<|zp w.jw z E J;have L:∀g r h W,g≠F->l[g]?=some r->S.m r.1=some h->h.a8=some W->some W≠N.a8:=by intro g r h W j z hm t J;exact y g r j z<|w.inj r.1 r.2 q P h N W (dh z) H hm Y t J.symm
 refine⟨w.le.trans ad,?_,?_,w.k6,w.k7,?_,?_,?_,?_,?_,?_,?_⟩;refine⟨u.os.trans w.G.os,u.tape.trans w.G.tape,u.output.trans w.G.output,cA w.G.size u.size,λk p z=>?_⟩;rw[u.block k (h3 p w.G.size) (λJ=>by grind)];exact w.G.block k p z;intro k h a c;rw[S.o_ ck (λJ=>by subst J;rcases w.own _ _ H with i|i;trivial;simp_all)];exact w.k0 k h a c;intro k o a;rcases Bi a with a|⟨g,j,a⟩;cases a;exact w.own q P H;exact w.own k o<|dh a;intro W o D a;rw[World.cell?_of_block (w:=I)<|u.block W (w.A0 a) (λJ=>by have:=(O W J.symm).2.1 o;change S.I W o=some D at a;simp_all)];exact w.i4 W o D a;intro W K clock a;have c:=w.kb W K clock a;rw[u.block W (rW.1 c).1 (λJ=>by have:=(O W J.symm).2.2;change S.J W=_ at a;simp_all)];exact c;intro k o a;rcases Bi a with a|⟨g,j,a⟩;cases a;exists ck,S.kJ _ _;let⟨h,Z,ae⟩:=w.eO k o<|dh a;refine⟨h,(S.o_ ck<|y g _ j a).trans Z,ae.mono ad λW t=>u.block W (ae.u_ t)<|L g _ h W j a Z t⟩;have:(l.set F (q,ke)).map (·.1)=l.map (·.1):=by rw[gN];apply ho;intro g;rw[oA];split;rename_i J;subst J;simp only[aS,ch,E,iP];rw[ab (dm.1 E).1];rfl
 rw[this];exact w.jw;intro k o h W a c i;rcases Bi a with a|⟨g,j,a⟩;cases a;rw[S.kJ] at c;cases c;rcases e with e|⟨T,e,t⟩;exact O W<|e▸i;rw[i] at e;cases e;refine⟨.inl<|cA w.G.size t,λaj=>?_,?_⟩;cases U:S.I W aj;exact U
 next D=>have:=w.A0 U;omega
 cases X:S.J W;exact X
 next D=>let⟨K,clock⟩:=D;have:=(rW.1<|w.kb W K clock X).1;omega
 rw[S.o_ ck<|y g _ j a] at c;exact w.i9 k o h W (dh a) c i;intro k o ag ai h ah W a c i x A B;rcases Bi a with a|⟨g,j,a⟩<;>rcases Bi c with c|⟨Q,M,c⟩;cases a;cases c;rfl;cases a;exfalso;rw[S.kJ] at i;cases i;rw[S.o_ ck<|y Q _ M c] at x;rcases e with e|⟨T,e,t⟩;exact L Q _ ah W M c x B (by rw[<-e,A]);rw[A] at e;cases e;let⟨ak,C,R⟩:=w.eO ag ai<|dh c;rw[x] at C;cases C;have:=R.u_ B;omega;cases c;exfalso;rw[S.kJ] at x;cases x;rw[S.o_ ck<|y g _ j a] at i;rcases e with e|⟨T,e,t⟩;exact L g _ h W j a i A (by rw[<-e,B]);rw[B] at e;cases e;let⟨ak,C,R⟩:=w.eO k o<|dh a;rw[i] at C;cases C;have:=R.u_ A;omega;rw[S.o_ ck<|y g _ j a] at i;rw[S.o_ ck<|y Q _ M c] at x;exact w.inj k o ag ai h ah W (dh a) (dh c) i x A B
theorem Holds.new(w:Holds s S l I){ke:bM}{ck:Loc}(r:ck.a8=none\/∃W,ck.a8=some W/\I.heap.size<=W)(j:I.grownBy aT none)(Y:iV (S.fo S.n ck) aT ck ke):Holds s (S.fo S.n ck) (l++[(S.n,ke)]) aT:=by
 have:S.m S.n=none:=S.fresh _<|a1 _;have L:S.le (S.fo S.n ck):=aF.i7 λi a=>b;have t:∀c e,(c,e)∈l->c≠S.n:=λc e a J=>by let⟨i,g,_⟩:=w.eO c e a;simp_all
 refine⟨w.le.trans L,?_,?_,w.k6,w.k7,?_,?_,?_,?_,?_,?_,?_⟩;exact⟨j.os.trans w.G.os,j.tape.trans w.G.tape,j.output.trans w.G.output,cA w.G.size j.size,λc p P=>by rw[j.block c (h3 p w.G.size) af];exact w.G.block c p P⟩;intro c i a g;have h:=w.k0 c i a g;rw[S.o_ ck λJ=>b];exact h;intro c e a;rcases ee.1 a with a|a;exact w.own c e a;simp[cV,Cm] at a;obtain⟨rfl,rfl⟩:=a;cases N:s.wC.m S.n;simp
 next Z=>let⟨i,a,_⟩:=w.le.m _ _ N;simp_all
 intro W e z a;rw[World.cell?_of_block (w:=I)<|j.block W (w.A0 a) af];exact w.i4 W e z a;intro W A clock a;have g:=w.kb W A clock a;rw[j.block W (rW.1 g).1 af];exact g;intro c e a;rcases ee.1 a with a|a;let⟨i,O,M⟩:=w.eO c e a;exact⟨i,(S.o_ ck<|t c e a).trans O,M.mono L λW B=>j.block W (M.u_ B) af⟩;simp[cV,Cm] at a;obtain⟨rfl,rfl⟩:=a;exists ck,S.kJ _ _;rw[cD,pm];refine⟨w.jw,af,λE X W r J=>?_⟩;grind;intro c e i W a g h;rcases ee.1 a with a|a;rw[S.o_ ck<|t c e a] at g;exact w.i9 c e i W a g h;simp[cV,Cm] at a;obtain⟨rfl,rfl⟩:=a;rw[S.kJ] at g;cases g;rcases r with r|⟨U,r,B⟩;simp_all;rw[h] at r;cases r;refine⟨.inl<|cA w.G.size B,λQ=>?_,?_⟩;cases H:S.I W Q;exact H
 next z=>have:=w.A0 H;omega
 cases K:S.J W;exact K
 next z=>let⟨A,clock⟩:=z;have:=(rW.1<|w.kb W A clock K).1;omega
 intro c e x y i R W a g h q D F;rcases ee.1 a with k|k<;>rcases ee.1 g with o|o<;>clear a g;rw[S.o_ ck<|t c e k] at h;rw[S.o_ ck<|t x y o] at q;exact w.inj c e x y i R W k o h q D F;simp[cV,Cm] at o;obtain⟨rfl,rfl⟩:=o;exfalso;rw[S.o_ ck<|t c e k] at h;rw[S.kJ] at q;cases q;let⟨T,u,C⟩:=w.eO c e k;rw[h] at u;cases u;have:=C.u_ D
 (simp_all;omega)
 simp[cV,Cm] at k;obtain⟨rfl,rfl⟩:=k;exfalso;rw[S.o_ ck<|t x y o] at q;rw[S.kJ] at h;cases h;let⟨T,u,C⟩:=w.eO x y o;rw[q] at u;cases u;have:=C.u_ F
 (simp_all;omega)
 simp_all
theorem Holds.grown(w:Holds s S l I)(a:I.grownBy aT none):Holds s S l aT:=by refine⟨w.le,?_,w.k0,w.k6,w.k7,w.own,?_,?_,?_,w.jw,w.i9,w.inj⟩;exact⟨a.os.trans w.G.os,a.tape.trans w.G.tape,a.output.trans w.G.output,cA w.G.size a.size,λc p m=>by rw[a.block c (h3 p w.G.size) af];exact w.G.block c p m⟩;intro W e q b;rw[World.cell?_of_block<|a.block W (w.A0 b) af];exact w.i4 W e q b;intro W i clock b;let g:=w.kb W i _ b;rw[a.block W (rW.1 g).1 af];exact g;intro c e b;let⟨o,k,h⟩:=w.eO c e b;exact⟨o,k,h.mono (aF.le.refl S) λW j=>a.block W (h.u_ j) af⟩
def aF.oL(S:aF)(W:Nat)(e:Array Value)(g:∀(h:Nat)(a:Value),e[h]?=some a->a.oneCell'):aF:={S with
 I:=λb P=>if b=W then e[P]? else S.I b P
 one:=λb P a c=>by split at c;exact g P a c;exact S.one b P a c}
theorem Holds.alv(w:Holds s S l I){W:Nat}{tB:Array Value}{J:TypeId}{x:Nat×Nat}(o:∀E(e:Value),tB[E]?=some e->e.oneCell')(A:I.grownBy aT none)(z:I.heap.size<=W)(L:aT.heap[W]?=some (.cells tB J x)):Holds s (S.oL W tB o) l aT/\S.le (S.oL W tB o):=by
 let a:=w.grown A;let M:∀F,S.I W F=none:=λF=>by
  cases y:S.I W F;rfl
  next e=>have:=w.A0 y;omega
 let q:S.le (S.oL W tB o):=by refine⟨λg P e c=>?_,λ_ _ w=>w,λh N p=>⟨N,p,rfl,a1 _,λ_=>rfl⟩⟩;simp[aF.oL];rw[aa λJ=>b];exact c
 refine⟨⟨w.le.trans q,a.G,a.k0,?_,a.k7,a.own,?_,a.kb,?_,a.jw,?_,a.inj⟩,q⟩;intro g P e c;simp[aF.oL] at c;split at c;rename_i he;subst he;exact .inr<|.inl<|cA w.G.size z;exact a.k6 g P e c;intro g P e c;simp[aF.oL] at c;split at c;grind[World.cell?];exact a.i4 g P e c;intro h k i;let⟨j,B,C⟩:=a.eO h k i;exact⟨j,B,C.mono q λ_ _=>rfl⟩;intro h k j g i r t;let⟨H,Q,K⟩:=w.i9 h k j g i r t;refine⟨H,λF=>?_,K⟩;simp[aF.oL];rw[aa];simp_all;intro J;let⟨O,u,D⟩:=w.eO h k i;rw[show S.m h=some j from r] at u;cases u;have:=D.u_ t;omega
theorem Holds.freeze(w:Holds s S l I){F C ag O:Nat}{J:TypeId}(X:l[F]?=some (C,.n ag O J j)):∃u,S.le u/\u.m=S.m/\Holds s u (l.eraseIdx F) I/\∃N,S.m C=some N/\N.al=ag/\N.s=O/\(N.a8=none/\j=[]\/∃(W:Nat)(val:Nat->Nat->Value),N.a8=some W/\(∀(a:Nat) M,j[a]?=some M->M.cells.length=O)/\(∀a h M Z,j[a]?=some M->M.cells[h]?=some Z->u.I W (N.base+a*O+h)=some (val a h))/\∀a h M Z,j[a]?=some M->M.cells[h]?=some Z->aE u Z (val a h)):=by
 let E:=dh X;let⟨N,A,e,y,aw⟩:=w.eO _ _ E;let aj:∀z∈l.eraseIdx F,∃a≠F,l[a]?=some z:=λz aq=>by grind[List.mem_iff_getElem?]
 let i:∀z∈l.eraseIdx F,z∈l:=λz aq=>aM;let Y:((l.eraseIdx F).map (·.1)).Nodup:=by have:((l.eraseIdx F).map (·.1)).Sublist (l.map (·.1)):=(Qb l F).map _;exact this.nodup w.jw
 rcases aw with⟨x,he⟩|⟨W,D,x,ah,ap,aB,g,ai,ad⟩;exact⟨S,aF.le.refl S,rfl,⟨w.le,w.G,w.k0,w.k6,w.k7,λb c g=>w.own b c<|i _ g,w.i4,w.kb,λb c g=>w.eO b c<|i _ g,Y,λb c k W g=>w.i9 b c k W<|i _ g,λb c L R k Q W g o=>w.inj b c L R k Q W (i _ g)<|i _ o⟩,N,A,e,y,.inl ⟨x,he⟩⟩;let⟨an,ao,aC⟩:=w.i9 C _ N W E A x;let B:S.le (S.oL W D g):=by refine⟨λq P t e=>?_,λ_ _ w=>w,λb N p=>⟨N,p,rfl,a1 _,λ_=>rfl⟩⟩;simp[aF.oL];rw[aa λJ=>by rw[J,ao] at e;cases e];exact e
 refine⟨S.oL W D g,B,rfl,⟨w.le.trans B,w.G,w.k0,?_,w.k7,λb c g=>w.own b c<|i _ g,?_,w.kb,?_,Y,?_,λb c L R k Q W g o=>w.inj b c L R k Q W (i _ g)<|i _ o⟩,N,A,e,y,.inr ⟨W,λa h=>(D[N.base+a*O+h]?).getD undef,x,λa M r=>by rw[<-y];exact ai a M r,?_,?_⟩⟩;intro q P t e;simp[aF.oL] at e;split at e;rename_i he;subst he;exact .inr an;exact w.k6 q P t e;intro q P t e;simp[aF.oL] at e;split at e;rename_i he;subst he;simp[World.cell?,ah,e];exact w.i4 q P t e;intro b c o;let⟨k,am,av⟩:=w.eO b c<|i _ o;exact⟨k,am,av.mono B λ_ _=>rfl⟩;intro b c k q o T U;let⟨ay,az,aA⟩:=w.i9 b c k q (i _ o) T U;refine⟨ay,λax=>?_,aA⟩;simp[aF.oL];rw[aa];exact az ax;rintro rfl;let⟨a,r,ak⟩:=aj _ o;have:=w.inj b c C _ k N q (i _ o) E T A U x;exact r<|zp w.jw ak X this;intro a h M Z r K;let⟨t,H,ae⟩:=ad a h M Z r K;simp[aF.oL,FL,<-y,H,te];intro a h M Z r K;let⟨t,H,ae⟩:=ad a h M Z r K;dsimp;rw[<-y,H];exact ae.mono B
def aF.yy(S:aF)(W:Nat)(Z:Array MapEntry×Nat):aF:={S with J:=λa=>if a=W then some Z else S.J a}
theorem Holds.ahI(w:Holds s S l I){F u K q:Nat}{B:List (V×V×Nat)}(E:l[F]?=some (u,.map K B q)):∃o N W e,S.le o/\o.m=S.m/\Holds s o (l.eraseIdx F) I/\S.m u=some N/\N.al=K/\N.a8=some W/\o.J W=some (e,q)/\kl o B e/\(∀J∈e.toList,J.born<q)/\(e.toList.map (·.born)).Nodup:=by
 let A:=dh E;let⟨N,z,ag,W,e,y,ao,Y,ae,T⟩:=w.eO _ _ A;let O:∀r∈l.eraseIdx F,∃H≠F,l[H]?=some r:=λr X=>by grind[List.mem_iff_getElem?]
 let j:∀r∈l.eraseIdx F,r∈l:=λr X=>aM;let U:((l.eraseIdx F).map (·.1)).Nodup:=by have:((l.eraseIdx F).map (·.1)).Sublist (l.map (·.1)):=(Qb l F).map _;exact this.nodup w.jw
 cases w.i9 u _ N W A z y;let t:S.le (S.yy W (e,q)):=by refine⟨λ_ _ _ w=>w,λh Z a=>?_,λc N p=>⟨N,p,rfl,a1 _,λ_=>rfl⟩⟩;simp[aF.yy];rw[aa λJ=>b];exact a
 refine⟨S.yy W (e,q),N,W,e,t,rfl,⟨w.le.trans t,w.G,w.k0,w.k6,?_,λc g x=>w.own c g<|j _ x,w.i4,?_,?_,U,?_,λc g ah an k ai W x i=>w.inj c g ah an k ai W (j _ x)<|j _ i⟩,z,ag,y,by simp[aF.yy],Y.mono t,ae,T⟩;intro h Z a;simp[aF.yy] at a;split at a;simp_all;exact w.k7 h Z a;intro h M L a;simp[aF.yy] at a;split at a;simp_all;exact w.kb h M L a;intro c g i;let⟨k,R,ad⟩:=w.eO c g<|j _ i;exact⟨k,R,ad.mono t λ_ _=>rfl⟩;intro c g k h i C D;let⟨aj,ak,am⟩:=w.i9 c g k h (j _ i) C D;exists aj,ak;simp[aF.yy];rw[aa];exact am;rintro rfl;let⟨H,P,Q⟩:=O _ i;have:=w.inj c g u _ k N h (j _ i) A C z D y;exact P<|zp w.jw Q E this
end
structure h4(T:Program)(X:TypeId)(k:Value):Prop where
 ap:(T.info? X).bind (·.zero)=some k
 one:k.cells.toList.all (λU=>U.oneCell')
theorem h4.run{T:Program}{X:TypeId}{k:Value}(w:h4 T X k)I:(zeroValue X).run T I=.ok k I:=by
 have:=w.ap;cases p:T.info? X;simp_all
 next a=>simp_all[zeroValue,typeInfo]
def V.zero:Value->V|.agg a=>.agg (a.toList.map V.leaf)|b=>V.leaf b
def nb(S:aF)(Z:V)(b:List Value):Prop:=b.length=Z.cells.length/\(∀a∈b,a.oneCell')/\∀(c:Nat)(B:V)(a:Value),Z.cells[c]?=some B->b[c]?=some a->aE S B a
def nb.zero{T:Program}{X:TypeId}{k:Value}(w:h4 T X k)S:nb S (V.zero k) k.cells.toList:=by
 refine⟨?_,(kM.1 w.one),?_⟩;unfold V.zero;split;simp[V.cells,Value.cells];have:(V.leaf k).cells=[V.leaf k]:=by unfold V.leaf;split<;>rfl
 grind[Value.cells];intro b B g a e;unfold V.zero at a;split at a;simp[V.cells] at a;grind[Value.cells,Option.some.injEq,aE.leaf];let c:(V.leaf k).cells=[V.leaf k]:=by unfold V.leaf;split<;>rfl
 grind[Value.cells,aE.leaf]
def V.fits:V->Bool|.agg _|.vec .. =>true|Z=>Z.one
def aE.DD{S:aF}{Z:V}{a:Value}(w:aE S Z a)(p:Z.fits):nb S Z a.cells.toList:=by
 by_cases m:Z.one;have:=w.al9 m;have:Z.cells=[Z]:=by cases Z<;>simp_all[V.cells,V.one]
 have j:a.cells=#[a]:=by cases a<;>simp_all[Value.cells,Value.oneCell']
 refine⟨b,b,λc B aP h i=>?_⟩;grind;cases w with|agg l k o e g=>exact⟨by grind[Value.cells,V.cells],λa j=>e a bB,λc B aP h i=>g c B aP bB bB⟩|vec Y E l k av o e g=>exact⟨by show k.length=(E.cells++l).length;omega,λa j=>e a bB,λc B aP h i=>g c B aP h bB⟩|_=>trivial
section
variable{T:Program}{s:a2}{ops:Array Oper}{P:Oper}{N:List Oper}{R:aw}{e:Exit->aw->Prop}
def bS.lq(r:R.guard ops P=some true)(w:∀E I S,aH s R E I S->∃g aT a D h,S.le a/\aE a D g/\Holds s a h aT/\((execOp E.eval P).run T I=.ok (.value g) aT\/g=undef/\(execOp E.eval P).run T I=.ok .skip aT)/\bS T s ops N (({R with l:=h}:aw).put P.dst D) e):bS T s ops (P::N) R e:=by intro q E I S b;let⟨j,k⟩:=CW q;unfold wpList;rw[ab<|b.wanted r];let⟨g,aT,a,D,h,i,p,m,c,o⟩:=w E I S b;refine .inl ?_;unfold Oper.wp;rcases c with c|⟨rfl,c⟩<;>rw[c];exact o k _ _ a<|b.put i m p j;exact o k _ _ a<|b.put i m p j
def dP(T:Program)(s:a2)(P:Oper)(R:aw)(D:V)(g:bd):Prop:=∀E I S,aH s R E I S->∀(b:Act->World->Prop)(e:Exit->Act->World->Prop),(∀c aT a,S.le a->aE a D c->Holds s a g aT->b (E.put P.dst c) aT)->P.wp T E I b e
theorem dP.of{D:V}{l:bd}(w:∀E I S,aH s R E I S->∃c aT a g e,S.le a/\aE a g c/\Holds s a e aT/\((execOp E.eval P).run T I=.ok (.value c) aT\/c=undef/\(execOp E.eval P).run T I=.ok .skip aT)/\g=D/\e=l):dP T s P R D l:=by intro E I S m o p i;obtain⟨c,aT,a,g,e,h,k,j,b,rfl,rfl⟩:=w E I S m;unfold Oper.wp;rcases b with b|⟨rfl,b⟩<;>rw[b];exact i _ _ a h k j;exact i _ _ a h k j
def bS.n5{D:V}{b:bd}(k:R.guard ops P=some true)(o:dP T s P R D b)(w:bS T s ops N (({R with l:=b}:aw).put P.dst D) e):bS T s ops (P::N) R e:=by intro h E I S a;let⟨i,j⟩:=CW h;unfold wpList;rw[ab<|a.wanted k];refine .inl<|o E I S a _ _ λq aT c g p m=>?_;exact w j _ _ c<|a.put g m p i
def Holds.newRow{S:aF}{l:bd}{I:World}(w:Holds s S l I){J:TypeId}{Z:V}{a:List Value}(e:nb S Z a):Holds s (S.fo S.n ⟨some I.heap.size,0,0,a.length,a.length⟩) (l++[(S.n,.n 0 a.length J [Z])]) (I.alloc (.cells a.toArray J)):=by
 apply w.new (.inr ⟨I.heap.size,rfl,a1 _⟩)<|World.grownBy_alloc I _ _;refine⟨rfl,rfl,.inr ⟨I.heap.size,a.toArray,rfl,?_,af,af,?_,?_,?_⟩⟩;grind[heap_alloc_new];intro b m k;exact e.2.1 m<|dh (by simpa using k);intro b M c;cases b;simp at c;subst c;exact e.1.symm
 next b=>trivial
 intro b g M B c i;cases b;simp at c;subst c;let j:g<a.length:=by rw[e.1];exact(dm.1 i).1
 refine⟨a[g],af,(e.2.2 g B _ i<|bw j).mono<|aF.i7 λo h=>by rw[S.fresh _<|a1 _] at h;cases h⟩
 next b=>trivial
def aE.X5{S:aF}{W Y:Nat}{a:Nat}:aE (S.fo S.n ⟨some W,0,0,Y,Y⟩) (.own S.n 0 0 a) (.pointer (some ⟨W,a,none⟩)):=.own _ _ _ _ _ _ (S.kJ _ _) (a1 _) rfl λ_=>⟨W,rfl,af⟩
def bS.alloc{X:TypeId}{k:Value}{O:Nat}(h:R.guard ops P=some true)(i:P.op=.alloc X)(ap:h4 T X k)(j:k.cells.size=O)(w:∀c,bS T s ops N (({R with l:=R.l++[(c,.n 0 O X [V.zero k])]}:aw).put P.dst (.own c 0 0 0)) e):bS T s ops (P::N) R e:=.lq h λE I S g=>by
 let b:=g.ci.newRow (J:=X)<|nb.zero ap S;let m:k.cells.toList.length=O:=by simpa using j
 rw[m] at b;refine⟨_,_,_,.own S.n 0 0 0,_,aF.i7 λo a=>(by rw[S.fresh _<|a1 _] at a;cases a),aE.X5,b,.inl ?_,w S.n⟩;simp[execOp,i,Instr.alloc,ap.run,newVar,newRow]
def bS.box{X:TypeId}{Z:Operand}{a:V}{O:Nat}(k:R.guard ops P=some true)(m:P.op=.box X Z)(q:R.val s Z=some a)(j:a.fits)(o:a.cells.length=O)(w:∀i,bS T s ops N (({R with l:=R.l++[(i,.n 0 O X [a])]}:aw).put P.dst (.own i 0 0 0)) e):bS T s ops (P::N) R e:=.lq k λE I S c=>by
 let h:=(c.val q).DD j;let g:=c.ci.newRow (J:=X) h;let p:(E.eval Z).cells.toList.length=O:=by rw[h.1,o]
 rw[p] at g;refine⟨_,_,_,.own S.n 0 0 0,_,aF.i7 λr b=>(by rw[S.fresh _<|a1 _] at b;cases b),aE.X5,g,.inl ?_,w S.n⟩;simp[execOp,m,Instr.box,newVar,newRow]
def aH.own{E:Act}{I:World}{S:aF}(w:aH s R E I S){Z:Operand}{c e j g F O:Nat}{J:TypeId}{h:List V}(r:R.val s Z=some (.own c e j g))(o:R.l[F]?=some (c,.n e O J h)):∃N W,S.m c=some N/\iV S I N (.n e O J h)/\N.a8=some W/\N.s=O/\E.eval Z=.pointer (some ⟨W,N.base+j*O+g,none⟩):=by let⟨N,p,a⟩:=w.ci.eO _ _<|dh o;let i:=w.val r;cases i with|own _ _ _ _ t x hm u i w=>obtain rfl:N=t:=b;let⟨W,k,q⟩:=w a.1.symm;exact⟨N,W,p,a,k,a.2.1,by rw[q,a.2.1]⟩
def O1{Z:Operand}{a b h c F O:Nat}{J:TypeId}(o:P.op=.nilCheck Z)(g:R.val s Z=some (.own a b h c))(i:R.l[F]?=some (a,.n b O J j)):cb T s P R (.own a b h c):=.same λE I S e=>by let⟨N,W,m,p,k,q,r⟩:=e.own g i;exact⟨_,e.val g,by simp_all[execOp]⟩
def Ei{X:TypeId}{M:TypeDesc}{K bs:Nat}{Z:Operand}{h i b a F O:Nat}{J:TypeId}{c D:V}(aU:bG T X M K bs)(r:lv M=false)(w:P.op=.load X Z)(C:R.val s Z=some (.own h i b a))(u:R.l[F]?=some (h,.n i O J j))(t:j[b]?=some c)(o:c.cells[a]?=some D):cb T s P R D:=.same λE I S k=>by
 let⟨N,W,ad,y,m,A,B⟩:=k.own C u;obtain⟨_,_,⟨Q,_⟩|⟨G,H,e,q,ap,Y,L,U,x⟩⟩:=y;simp_all;rw[m] at e;cases e;let⟨aP,g,z⟩:=x b a c D t o;rw[A] at g;let p:I.cell? ⟨W,N.base+b*O+a,none⟩=some aP:=by simp[World.cell?,q,g]
 exact⟨aP,z,by simp[execOp,w,B,Instr.loadAt,Instr.sureAddr,loadVar,aU.pV,r,p]⟩
theorem an3{X:TypeId}{M:TypeDesc}{Y bs:Nat}{Z:Operand}{r t e b F O:Nat}{J:TypeId}{g:V}{c:List V}(aU:bG T X M Y bs)(A:lv M)(K:P.op=.load X Z)(ai:R.val s Z=some (.own r t e b))(D:R.l[F]?=some (r,.n t O J j))(C:j[e]?=some g)(G:(g.cells.drop b).take Y=c)(av:c.length=Y):cb T s P R (.agg c):=.same λE I S u=>by
 let⟨N,W,aq,Q,x,ae,ag⟩:=u.own ai D;obtain⟨_,_,⟨k,_⟩|⟨al,i,o,z,ap,ao,am,an,L⟩⟩:=Q;simp_all;rw[x] at o;cases o;let y:∀a<Y,∃Z,g.cells[b+a]?=some Z/\c[a]?=some Z:=by
  intro a h;let p:a<c.length:=v;refine⟨c[a],?_,bw p⟩;let k:((g.cells.drop b).take Y)[a]?=some c[a]:=by rw[G];exact bw p
  rw[lf,ab h,pZ] at k;exact k
 let ah:∀a<Y,∃aP,i[N.base+e*O+b+a]?=some aP/\∀Z,c[a]?=some Z->aE S Z aP:=by intro a h;let⟨Z,aj,ak⟩:=y a h;let⟨aP,m,U⟩:=L e (b+a) g Z C aj;rw[ae] at m;refine⟨aP,aM,λB q=>by rw[ak] at q;cases q;exact U⟩
 let H:∀a<Y,I.cell? ((⟨W,N.base+e*O+b,none⟩:Addr).add a)=some ((λa=>(i[N.base+e*O+b+a]?).getD undef) a):=by intro a h;let⟨aP,m,_⟩:=ah a h;rw[Addr.add_lit];simp[World.cell?,z,m]
 let ad:=run_loadCells (P:=T) (w:=I) ⟨W,N.base+e*O+b,none⟩ Y _ H;refine⟨.agg ((List.range Y).map λa=>(i[N.base+e*O+b+a]?).getD undef).toArray,.agg c _ (by simp[av]) ?_ ?_,?_⟩;grind;grind;simp[execOp,K,ag,Instr.loadAt,Instr.sureAddr,loadVar,aU.pV,A,aU.io,ad]
def Jc{X J:TypeId}{K bs cL:Nat}{Z e:Operand}{b g p o F O:Nat}{q:TypeId}{c:Nat}{D:IntKind}{Y:Int}(aU:bG T X (.slice J) K bs)(he:fi T J O cL)(A:P.op=.indexAddr X Z e)(C:R.val s Z=some (.a7 b g p o))(y:R.l[F]?=some (b,.n g O q j))(x:R.val s e=some (.int D Y))(av:Y=(c:Int))(t:c<o):cb T s P R (.own b g (p+c) 0):=.same λE I S i=>by let⟨N,z,k,w⟩:=i.a7 C y;have h:=i.val x;generalize B:E.eval e=aP at h;cases h;subst av;rcases w with⟨_,rfl,m⟩|⟨W,L,cap,r,m,H,G,a⟩;omega;rcases a with a|⟨rfl,a⟩;omega;refine⟨.pointer _,.own _ _ _ _ N _ z (by rw[k.1];omega) rfl λ_=>⟨W,r,rfl⟩,?_⟩;simp[execOp,A,m,B,Instr.indexAt,asIntOf,run_underlying aU.u,he.io,t,Addr.add_lit,k.2.1,gg]
def V.nJ(M:V)(b:Nat)(a:List V):V:=match M with|.agg N=>.agg (N.take b++a++N.drop (b+a.length))|_=>match a with|[Z]=>Z|_=>.agg a
def C2{X:TypeId}{K bs:Nat}{am Z:Operand}{u N a c F O:Nat}{J:TypeId}{k x:V}{Y:V}(aU:fi T X K bs)(aB:P.op=.store X am Z)(aC:R.val s am=some (.own u N a c))(ai:R.l[F]?=some (u,.n N O J j))(y:j[a]?=some k)(aJ:R.val s Z=some x)(an:x.fits)(C:x.cells.length=K)(aS:c+K<=k.cells.length)(aD:Y.cells=k.cells.take c++x.cells++k.cells.drop (c+K)):dP T s P R .undef (R.l.set F (u,.n N O J (j.set a Y))):=.of λE I S G=>by
 let⟨e,W,az,ak,ad,m,aG⟩:=G.own aC ai;let A:=(G.val aJ).DD an;let aY:=ak;obtain⟨aI,_,⟨aR,_⟩|⟨aO,h,ae,ag,ap,ao,D,ah,L⟩⟩:=ak;simp_all;rw[ad] at ae;cases ae;let aW:k.cells.length=O:=by rw[<-m];exact ah a k y
 let ax:a<j.length:=(dm.1 y).1;let aZ:e.base+a*O+O<=h.size:=by rw[ap];refine cA ?_ ao;rw[m,ye,<-nP];exact Ky (hA _ ax) _
 let M:(E.eval Z).cells.toList.length=K:=by rw[A.1,C]
 let al:=run_storeCells_at T W (e.base+a*O+c) J (E.eval Z).cells.toList 0 h I ag v A.2.1;simp[q2] at al;refine⟨undef,_,S.fo u e,.undef,_,aF.i7 λaN D=>b,.undef _,G.ci.sY ai az rfl (a1 _) (λ_=>rfl) (.inl rfl) (aT:=I.setRow W (h.toList.take (e.base+a*O+c)++(E.eval Z).cells.toList++h.toList.drop (e.base+a*O+c+K)).toArray)
   ⟨rfl,rfl,rfl,af,λaM aX aA=>setRow_other I W aM _ λJ=>aA b⟩ ?_,.inr ⟨rfl,?_⟩,rfl,rfl⟩
 let z:S.le (S.fo u e):=aF.i7 λaN D=>b;refine⟨aI,m,.inr ⟨W,_,ad,setRow_heap I W h _ J _ ag,?_,aK,?_,?_,?_⟩⟩
 (simp_all;omega)
 intro w Q aH;let hm:Q∈h.toList.take (e.base+a*O+c)++(E.eval Z).cells.toList++h.toList.drop (e.base+a*O+c+K):=dh (by simpa using aH);rcases ee.1 hm with hm|hm;rcases ee.1 hm with hm|hm;let⟨aL,ay⟩:=lg.1<|p0 hm;exact D aL Q (by simpa using ay);exact A.2.1 Q hm;grind[List.mem_iff_getElem?,List.mem_of_mem_drop];grind;intro w i U B r g;let av:∀q,(h.toList.take (e.base+a*O+c)++(E.eval Z).cells.toList++h.toList.drop (e.base+a*O+c+K)).toArray[q]?=if q<e.base+a*O+c then h[q]? else if q<e.base+a*O+c+K then(E.eval Z).cells.toList[q-(e.base+a*O+c)]? else h[q]?:=by
  intro q;let o:(h.toList.take<|e.base+a*O+c).length=e.base+a*O+c:=aK;simp[x_,ge];rw[lK,o];split;rw[lf,ab (by assumption)];simp;rw[lK,M];split
  (simp;omega)
  rw[aa v,pZ];simp[zX];congr 1;omega
 rw[av];rw[oA] at r;split at r;rename_i H;subst H;simp[fc] at r;subst r;rw[aD] at g;rw[m];rw[ge,lK,m7,Qu v] at g;split at g;rename_i o;rw[ab v];rw[lf,ab o] at g;let⟨aP,p,t⟩:=L a i k B y g;exact⟨aP,by rw[<-p,m],t.mono z⟩;rw[lK] at g;split at g;rename_i o;rw[C] at o;rw[aa v,ab v];have:e.base+a*O+i-(e.base+a*O+c)=i-c:=v;rw[this];let aj:i-c<(E.eval Z).cells.toList.length:=v;exact⟨_,bw aj,(A.2.2 _ _ _ g<|bw aj).mono z⟩;rename_i aq;rw[C] at aq;rw[aa v,aa v];rw[pZ,C] at g;have:c+K+(i-c-K)=i:=v;rw[this] at g;let⟨aP,p,t⟩:=L a i k B y g;exact⟨aP,by rw[<-p,m],t.mono z⟩;rename_i H;let⟨aP,p,t⟩:=L w i U B r g;let aV:i<O:=by rw[<-m,<-ah w U r];exact(dm.1 g).1
 rw[m] at p⊢;refine⟨aP,?_,t.mono z⟩;rcases Nat.lt_or_gt_of_ne H with o|aw;have:(a+1)*O<=w*O:=hA _ o;rw[nP] at this;rw[aa v,aa v];exact p;have:(w+1)*O<=a*O:=hA _ aw;rw[nP] at this;rw[ab v];exact p;simp[execOp,aB,Instr.storeAt,Instr.sureAddr,aG,storeVar];let aE:(E.eval Z).cells.size=K:=by simpa using M
 simp[aU.io,aE,al,M]
def yZ{X:TypeId}{K bs:Nat}{h Z:Operand}{c g e a F O:Nat}{J:TypeId}{el b:V}(aU:fi T X K bs)(p:P.op=.store X h Z)(q:R.val s h=some (.own c g e a))(o:R.l[F]?=some (c,.n g O J j))(m:j[e]?=some el)(u:R.val s Z=some b)(k:b.fits)(t:b.cells.length=K)(i:a+K<=el.cells.length)(r:(el.nJ a b.cells).cells=el.cells.take a++b.cells++el.cells.drop (a+K)):dP T s P R .undef (R.l.set F (c,.n g O J (j.set e (el.nJ a b.cells)))):=C2 aU p q o m u k t i r
end
section
variable{T:Program}{s:a2}{ops:Array Oper}{P:Oper}{N:List Oper}{R:aw}{e:Exit->aw->Prop}
def T1 O:∀(b:List (List Value)) e pre post parts i,pre.length=e*O->post.length=b.length*O->(∀U∈b,U.length=O)->pre.length+post.length=i->parts.length=b.length->(∀g h,parts[g]?=some h->h.1=e+g/\some h.2.cells.toList=b[g]?)->Instr.fill (λe=>some (e*O,O)) (pre++post).toArray parts=some (pre++b.flatten).toArray
|[],e,pre,post,parts,i,q,r,_,_,t,_=>by simp_all[lJ,Instr.fill]|U::b,e,pre,post,parts,i,q,r,s,H,t,u=>by
 cases parts;simp_all
 next h E=>
  obtain⟨j,x⟩:=h;obtain⟨p,l⟩:=u 0 _ ax;simp[q2] at p;simp[Ko,fc] at l;subst p;have w:U.length=O:=s U af;have:x.cells.size=O:=by rw[<-uG,l,w]
  simp only[Instr.fill];rw[aa (by grind[List.length_cons,Nat.succ_mul])];have:O<=post.length:=by rw[r];simp[nP]
  have y:x.cells.zipIdx.foldl (λk Z=>k.setIfInBounds (j*O+Z.2) Z.1) (pre++post).toArray=(pre++U++post.drop O).toArray:=by
   have C:∀c F o a,o.length=F->c.length<=a.length->(c.zipIdx F).foldl (λk Z=>k.setIfInBounds (j*O+Z.2) Z.1) (pre++o++a).toArray=(pre++o++c++a.drop c.length).toArray:=by
    intro c
    induction c
    simp
    next Z c B=>
     intro F o a hm I;cases a;grind
     next D a=>
      simp only[List.zipIdx_cons,Kn];have:(pre++o++D::a).toArray.setIfInBounds (j*O+F) Z=(pre++(o++[Z])++a).toArray:=by rw[List.setIfInBounds_toArray];congr 1;rw[yc _ _ aM];simp[q,hm]
      rw[this,B (F+1) (o++[Z]) a (by simp[hm]) aM];simp
   have m:=C U 0 [] post rfl v;rw[w] at m;simp only[gf] at m;rw[<-m,<-abF,abN,l]
  rw[y];have:=T1 O b (j+1) (pre++U) (post.drop O) E i aM (by grind[Nat.succ_mul]) (λaP A=>s aP (by simp[A])) aM (by simpa using t)
   (λg G z=>by have:=u (g+1) G (by simpa using z);grind)
  simp_all
def sL(s:a2)(R:aw):List (Nat×Operand)->Nat->List V->Prop|[],_,a=>a=[]|(b,Z)::D,Y,M::a=>b=Y/\R.val s Z=some M/\M.fits/\sL s R D (Y+1) a|_::_,_,[]=>False
def sL.len{s:a2}{R:aw}:∀{b:List (Nat×Operand)}{Y:Nat}{a:List V},sL s R b Y a->b.length=a.length|[],_,a,w=>by grind[sL]|_::D,Y,M::a,w=>by simp[w.2.2.2.len]|_::_,_,[],w=>w.elim
def sL.get{s:a2}{R:aw}:∀{h:List (Nat×Operand)}{Y:Nat}{e:List V},sL s R h Y e->∀c a,h[c]?=some a->a.1=Y+c/\∃M,e[c]?=some M/\R.val s a.2=some M/\M.fits|[],_,e,_,c,a,g=>b|(i,Z)::D,Y,M::e,w,0,a,g=>by simp at g;subst g;exact⟨w.1,M,rfl,w.2.1,w.2.2.1⟩|(i,Z)::D,Y,M::e,w,c+1,a,g=>by cases w.2.2.2.get c a b;grind|_::_,_,[],w,_,_,_=>w.elim
def C_{O:Nat}:∀(d:List (List Value)),(∀a∈d,a.length=O)->∀e c a,d[e]?=some a->c<O->d.flatten[e*O+c]?=a[c]?|[],_,e,c,a,w,_=>aM|aP::d,h,0,c,a,w,g=>by grind|aP::d,h,e+1,c,a,w,g=>by have:=C_ d (λa i=>h a aM) e c a b g;grind
theorem AU{O:Nat}:∀(d:List (List Value)),(∀a∈d,a.length=O)->d.flatten.length=d.length*O|[],_=>af|aP::d,b=>by rw[List.flatten_cons,c_,b aP af,AU d λa c=>b a aM,kh,nP,s_]
def ZE{X J:TypeId}{K bs O cL Y:Nat}{k:Value}{p:Array (Nat×Operand)}(aU:bG T X (.slice J) K bs)(he:fi T J O cL)(ap:h4 T J k)(o:sL s R p.toList 0 j)(av:Y=j.length)(hlen:∀M∈j,M.cells.length=O)(al:Y*O<=2^24){E:Act}{I:World}{S:aF}(P:aH s R E I S):∃q:List Value,q.length=Y*O/\(Instr.buildSlice X Y (p.map λZ=>(Z.1,E.eval Z.2))).run T I=.ok (.slice (some ⟨I.heap.size,0,none⟩) Y Y) (I.alloc (.cells q.toArray J))/\(∀c∈q,c.oneCell')/\∀a h M Z,j[a]?=some M->M.cells[h]?=some Z->∃c,q[a*O+h]?=some c/\aE S Z c:=by
 let e:List (List Value):=p.toList.map λL=>(E.eval L.2).cells.toList;have z:∀(a:Nat) M,j[a]?=some M->∃c,e[a]?=some c/\nb S M c:=by
  intro a M m;have i:a<p.toList.length:=by rw[o.len];exact(dm.1 m).1
  let⟨_,ak,C,ae,Q⟩:=o.get a _<|bw i;rw[m] at C;cases C;refine⟨_,aM,(P.val ae).DD Q⟩
 have y:∀c∈e,c.length=O:=by
  intro c x;let⟨a,i⟩:=lg.1 x;have w:a<j.length:=by rw[<-o.len];have:=(dm.1 i).1;simpa[e] using this
  let⟨aj,g,l⟩:=z a _<|bw w;rw[i] at g;cases g;rw[l.1];exact hlen _<|fG w
 have ag:e.length=Y:=by simp only[e,aS];rw[o.len,av]
 refine⟨e.flatten,by grind[AU],?_,?_,?_⟩;have t:=T1 O e 0 [] ((List.range<|Y*O).map λA=>k.cells[A%k.cells.size]!) (p.toList.map λZ=>(Z.1,E.eval Z.2)) (Y*O) af b y af
  aM (λa L G=>by simp only[ch,z_] at G;obtain⟨ai,W,rfl⟩:=G;exists (o.get a ai W).1;grind)
 simp[s8] at t;simp only[Instr.buildSlice,Sem.run_bind,run_underlying aU.u,Result.andThen_ok,he.io];rw[aa v];by_cases r:Y*O=0;rw[ab r];have D:e.flatten=[]:=lJ (by grind[AU]);rw[r,D] at t;have U:∀N:Array Value,Array.map (N[·%N.size]!) (Array.range 0)=#[]:=λ_=>af;simp[r,U,P4];simp[List.range_zero,rY] at t;rw[t,D];rfl;rw[aa r];simp[Sem.run_bind,ap.run,Result.andThen_ok,Sem.run_pure];have:Array.map (k.cells[·%k.cells.size]!) (Array.range (Y*O))=((List.range (Y*O)).map λA=>k.cells[A%k.cells.size]!).toArray:=by apply Fj;simp
 simp_all[P4,newRow];intro c x;simp[Qm] at x;let⟨aP,ad,ah⟩:=x;let⟨a,i⟩:=lg.1 ad;have w:a<j.length:=by rw[<-av,<-ag];exact(dm.1 i).1
 let⟨aj,g,l⟩:=z a _<|bw w;rw[i] at g;cases g;exact l.2.1 c ah;intro a h M Z m H;let⟨c,g,l⟩:=z a M m;have B:h<O:=by rw[<-hlen M (dh m)];exact(dm.1 H).1
 rw[C_ e y a h c g B];have F:h<c.length:=by rw[y c<|dh g];exact B
 exact⟨_,bw F,l.2.2 h Z _ H<|bw F⟩
def OX{X J:TypeId}{K bs O cL Y:Nat}{k:Value}{m:Array (Nat×Operand)}(aU:bG T X (.slice J) K bs)(he:fi T J O cL)(ap:h4 T J k)(B:P.op=.buildSlice X Y m)(t:sL s R m.toList 0 j)(av:Y=j.length)(hlen:∀M∈j,M.cells.length=O)(q:Y*O<=2^24)(y:0<O):cb T s P R (.f O j):=.run λE I S i=>by let⟨h,A,C,o,u⟩:=ZE aU he ap t av hlen q i;let p:∀(a:Nat) b,h.toArray[a]?=some b->b.oneCell':=λa b g=>o b<|dh (by simpa using g);let⟨r,l⟩:=i.ci.alv (tB:=_) (J:=J) (x:=(0,0)) p (World.grownBy_alloc I _ none) (a1 _)<|heap_alloc_new I _;refine⟨.slice (some ⟨I.heap.size,0,none⟩) Y Y,_,_,l,?_,r,by grind[execOp,Sem.run_bind,Result.andThen_ok,Sem.run_pure]⟩;subst av;refine .f O j _ 0 _ (λa c=>(h[a*O+c]?).getD undef) (a1 _) ?_ (λa M e=>hlen M<|dh e) ?_ ?_;have:j.length<=j.length*O:=KF _ y;grind[maxLen];grind[aF.oL];intro a c M Z e z;let⟨b,g,w⟩:=u a c M Z e z;simp[g];exact w.mono l
def bS.buildSlice{X J:TypeId}{K bs O cL Y:Nat}{k:Value}{q:Array (Nat×Operand)}(x:R.guard ops P=some true)(aU:bG T X (.slice J) K bs)(he:fi T J O cL)(ap:h4 T J k)(G:P.op=.buildSlice X Y q)(z:sL s R q.toList 0 j)(av:Y=j.length)(hlen:∀M∈j,M.cells.length=O)(u:Y*O<=2^24)(C:0<O)(w:∀r,bS T s ops N (({R with l:=R.l++[(r,.n 0 O J j)]}:aw).put P.dst (.a7 r 0 0 Y)) e):bS T s ops (P::N) R e:=.lq x λE I S m=>by
 let⟨c,F,H,a,A⟩:=ZE aU he ap z av hlen u m;let o:S.le (S.fo S.n ⟨some I.heap.size,0,0,c.length,O⟩):=aF.i7 λL a=>by rw[S.fresh _<|a1 _] at a;cases a
 let y:=m.ci.new (ke:=.n 0 O J j) (ck:=⟨some _,0,0,c.length,O⟩) (.inr ⟨I.heap.size,rfl,a1 _⟩) (World.grownBy_alloc I _ _)
  ⟨rfl,rfl,.inr ⟨I.heap.size,c.toArray,rfl,heap_alloc_new I _,af,b,λh i p=>a i<|dh (by simpa using p),λh M g=>hlen M<|dh g,λh t M Z g D=>by let⟨i,p,B⟩:=A h t M Z g D;exact⟨i,b,B.mono o⟩⟩⟩
 refine⟨.slice (some ⟨I.heap.size,0,none⟩) Y Y,_,_,.a7 S.n 0 0 Y,_,o,?_,y,.inl (by grind[execOp,Sem.run_bind,Result.andThen_ok,Sem.run_pure]),w S.n⟩;let hm:Y<=maxLen:=by have:Y<=Y*O:=KF _ C;simp[maxLen];omega
 exact .a7 _ _ _ _ _ _ (S.kJ _ _) (a1 _) rfl λ_=>.inr ⟨I.heap.size,0,Y,rfl,rfl,a1 _,hm,.inr ⟨af,aM⟩⟩
def bS.makeSlice{X J:TypeId}{K bs O cL:Nat}{k:Value}{Z B:Operand}{F ae:IntKind}{Y o:Nat}{ad m:Int}(aj:R.guard ops P=some true)(aU:bG T X (.slice J) K bs)(he:fi T J O cL)(ap:h4 T J k)(qB:k.cells.size=O)(aJ:P.op=.makeSlice X Z B)(p:R.val s Z=some (.int F ad))(al:ad=(Y:Int))(aA:R.val s B=some (.int ae m))(z:m=(o:Int))(an:Y<=o)(C:o<=maxLen)(ah:o*cL<=2^48)(H:0<O)(w:∀g,bS T s ops N (({R with l:=R.l++[(g,.n 0 O J<|List.replicate Y<|V.zero k)]}:aw).put P.dst (.a7 g 0 0 Y)) e):bS T s ops (P::N) R e:=.lq aj λE I S x=>by
 subst al;subst z;have i:=x.val p;have D:=x.val aA;generalize L:E.eval Z=aP at i;generalize h:E.eval B=U at D;cases i;cases D;have A:=nb.zero ap S;let⟨aR,ax,aN,av⟩:=he.zf;have W:k.cells.toList.length=O:=by simpa using qB
 let a:List Value:=(List.replicate o k.cells.toList).flatten;have aG:a.length=o*O:=by rw[AU (O:=O) _ λU h=>b];simp
 have aH:∀(q c:Nat),q<o->c<O->a[q*O+c]?=k.cells.toList[c]?:=λq c z y=>
  C_ (O:=O) _ (λU h=>b) q c _ b y
 have ao:∀U∈a,U.oneCell':=by intro U h;simp only[a,Qm] at h;let⟨aP,L,Q⟩:=h;rw[uJ L] at Q;exact A.2.1 U Q
 have aL:(Instr.makeSlice X (.int F Y) (.int ae o)).run T I=.ok (.slice (some ⟨I.heap.size,0,none⟩) Y o) (I.alloc (.cells a.toArray J)):=by
  have ay:IntKind.i64.wrap (Y:Int)=Y:=rS (by simp only[maxLen] at C;grind[kZ,IntKind.min,IntKind.max,IntKind.signed,IntKind.bits]);have az:IntKind.i64.wrap (o:Int)=o:=rS (by simp only[maxLen] at C;grind[kZ,IntKind.min,IntKind.max,IntKind.signed,IntKind.bits]);have aD:¬(cL:Int)*(o:Int)>2^48:=by
   have:((o*cL:Nat):Int)<=2^48:=by exact_mod_cast ah
   rw[jk] at this
   push_cast at this;omega
  simp only[Instr.makeSlice,Sem.run_bind,run_underlying aU.u,Result.andThen_ok,asInt,asIntOf,Sem.run_pure,typeInfo,run_program,ax,av,ay,az];rw[aa b];simp only[Sem.run_bind,run_askRoom,Result.andThen_ok,he.io,Fr];have ag:∀r:Array Value,r=k.cells->Array.map (λZ=>r[Z%r.size]!) (Array.range<|o*O)=a.toArray:=by
   intro r aC;subst aC;apply Fj;simp only[P4,Array.toList_range];apply ho;intro g;simp only[ch];by_cases aq:g<o*O;have aK:g=g/O*O+g%O:=by rw[jk];exact(ta g O).symm
   have aI:g/O<o:=(Fw H).2 aq;have aE:g%O<O:=pn _ H;grind;simp_all
  by_cases t:o*O=0;rw[ab t];have ai:a=[]:=lJ v;simp only[t,ai];simp[newRow,Array.range];rw[aa t];simp only[Sem.run_bind,ap.run,Result.andThen_ok,Sem.run_pure,ag k.cells rfl];rfl
 have G:S.le (S.fo S.n ⟨some I.heap.size,0,0,a.length,O⟩):=aF.i7 λaO i=>by rw[S.fresh _<|a1 _] at i;cases i
 have aB:(V.zero k).cells.length=O:=by rw[<-A.1,W]
 have ak:=x.ci.new (ke:=.n 0 O J<|List.replicate Y<|V.zero k) (ck:=⟨some I.heap.size,0,0,a.length,O⟩) (aT:=I.alloc<|.cells a.toArray J) (.inr ⟨I.heap.size,rfl,a1 _⟩) (World.grownBy_alloc I _ none)
  ⟨rfl,rfl,.inr ⟨I.heap.size,a.toArray,rfl,heap_alloc_new I _,af,by simp_all[hA],λm U h=>ao U<|dh (by simpa using h),λm M j=>aM,λm c M Z j p=>by
    rw[wq] at j;split at j<;>simp at j;rename_i z;subst j;have y:c<O:=by rw[<-aB];exact(dm.1 p).1
    have am:c<k.cells.toList.length:=by rw[W];exact y
    refine⟨k.cells.toList[c],?_,(A.2.2 c Z _ p<|bw am).mono G⟩;grind⟩⟩
 refine⟨.slice (some ⟨I.heap.size,0,none⟩) Y o,_,_,.a7 S.n 0 0 Y,_,G,?_,ak,.inl (by grind[execOp,Sem.run_bind,Result.andThen_ok,Sem.run_pure]),w S.n⟩;exact .a7 _ _ _ _ _ _ (S.kJ _ _) (a1 _) rfl λ_=>.inr ⟨I.heap.size,0,o,rfl,rfl,an,C,.inr ⟨af,aM⟩⟩
structure iW(T:Program)(s:a2)(R:aw)(Z:Operand)(b3:TypeId)(O o:Nat)(j9:List V):Prop where
 len:j9.length=o
 cells:∀M∈j9,M.cells.length=O
 D0:T.underlying b3=some .string\/∃J,T.underlying b3=some (.slice J)
 run:∀E I S,aH s R E I S->∃pB:List Value,pB.length=o*O/\(∀U∈pB,U.oneCell')/\(Builtin.lenOf (E.eval Z)).run T I=.ok o I/\(∀aT,aT.heap=I.heap->(Builtin.firstCells O o (E.eval Z)).run T aT=.ok pB.toArray aT)/\∀(bJ t:Nat)(M B:V),j9[bJ]?=some M->M.cells[t]?=some B->∃U,pB[bJ*O+t]?=some U/\aE S B U
theorem LM{I aT:World}(w:aT.heap=I.heap)E:aT.cell? E=I.cell? E:=by grind[World.cell?]
def iW.f{Z:Operand}{b3 J:TypeId}{K bs O:Nat}{b:List V}(aU:bG T b3 (.slice J) K bs)(N:R.val s Z=some (.f O b))(k:∀M∈b,M.cells.length=O):iW T s R Z b3 O b.length b:=by
 refine⟨rfl,k,.inr ⟨_,aU.u⟩,λE I S r=>?_⟩;have j:=r.val N;generalize E.eval Z=g at j;cases j with
 |slnil=>simp[Builtin.lenOf,Builtin.firstCells]|sT O Q=>simp[Builtin.lenOf,run_firstCells_some]|f _ _ W base cap val X Y H U ad=>
  let i:List Value:=(b.zipIdx.map λo=>(List.range O).map<|val o.2).flatten;have A:∀g∈b.zipIdx.map λo=>(List.range O).map<|val o.2,g.length=O:=by intro g m;simp only[b4] at m;obtain⟨o,_,rfl⟩:=m;simp
  have p:i.length=b.length*O:=by rw[AU _ A];simp
  have F:∀a e,a<b.length->e<O->i[a*O+e]?=some (val a e):=λa e h k=>by rw[C_ _ A a e ((List.range O).map<|val a) aM k];grind
  have C:∀a e,a<b.length->e<O->S.I W (base+a*O+e)=some (val a e):=λa e h k=>by have D:=H a _<|bw h;grind
  have t:∀c g,i[c]?=some g->S.I W (base+c)=some g:=by
   intro c g l;have G:c<b.length*O:=by rw[<-p];exact(dm.1 l).1
   have z:0<O:=by rcases lM O with w|w;simp_all;exact w
   have y:c=c/O*O+c%O:=by rw[jk];exact(ta c O).symm
   have h:c/O<b.length:=(Fw z).2 G;have x:c%O<O:=pn _ z;have j:=F _ _ h x;rw[<-y,l] at j;cases j;have q:=C _ _ h x;rw[ye,<-y] at q;exact q
  refine⟨i,p,λg m=>?_,ax,λaT L=>?_,λa e M B D ae=>?_⟩;let⟨c,l⟩:=lg.1 m;exact S.one _ _ _<|t c g l;refine run_firstCells_some (P:=T) aT O b.length ⟨W,base,none⟩ b.length cap i p λa g h=>?_;rw[Addr.add_lit,LM L];exact r.ci.i4 _ _ _<|t a g h;grind
theorem iW.nil{Z:Operand}{b3 J:TypeId}{K bs O:Nat}(aU:bG T b3 (.slice J) K bs)(c:R.val s Z=some .aQ):iW T s R Z b3 O 0 []:=by refine⟨rfl,af,.inr ⟨_,aU.u⟩,λE I S b=>?_⟩;have a:=b.val c;generalize E.eval Z=e at a;cases a;simp[Builtin.lenOf,Builtin.firstCells]
def bh(W:UInt8):V:=.int .u8 W.toNat
def iW.str{Z:Operand}{b3:TypeId}{K bs:Nat}{a:List UInt8}(aU:bG T b3 .string K bs)(i:R.val s Z=some (.str a)):iW T s R Z b3 1 a.length (a.map bh):=by
 refine⟨af,by simp[bh,V.cells],.inl aU.u,λE I S h=>?_⟩;have e:=h.val i;generalize E.eval Z=l at e;cases e;refine⟨a.map λW=>.int .u8 W.toNat,af,by simp[Value.oneCell'],ax,λaT _=>?_,λk c M B g b=>?_⟩;simp[Builtin.firstCells,Sem.run_pure,Lib.extract_eq];simp at g;obtain⟨W,j,rfl⟩:=g;simp[bh,V.cells] at b;cases c;simp at b;subst b;exact⟨.int .u8 _,aM,.int _ _⟩
 next c=>simp_all
def iW.a7{Z:Operand}{b3 J:TypeId}{K bs:Nat}{id al b a F O:Nat}{z:TypeId}{fV:List V}(aU:bG T b3 (.slice J) K bs)(aj:R.val s Z=some (.a7 id al b a))(U:R.l[F]?=some (id,.n al O z fV))(P:b+a<=fV.length)(p:∀M∈fV,M.cells.length=O):iW T s R Z b3 O a ((fV.drop b).take a):=by
 refine⟨aM,λM e=>p M<|Kv<|p0 e,.inr ⟨_,aU.u⟩,λE I S C=>?_⟩;let⟨c,ay,ag,w⟩:=C.a7 aj U;rcases w with⟨_,rfl,h⟩|⟨W,ak,cap,D,h,az,aq,i⟩;simp_all[Builtin.lenOf,Builtin.firstCells];obtain⟨_,t,⟨ao,_⟩|⟨am,o,q,aw,ap,N,an,ax,ae⟩⟩:=ag;simp_all;rw[D] at q;cases q;by_cases A:a=0;subst A;exact⟨[],af,af,by simp[h,Builtin.lenOf],λaT _=>by simp[h,Builtin.firstCells,loadCells,loadCellsFrom],af⟩;let G:ak=c.base+b*c.s/\c.base+(b+cap)*c.s<=c.size:=by rcases i with i|i;omega;exact i
 obtain⟨rfl,H⟩:=G;rw[t] at N H;let X:(b+a)*O<=fV.length*O:=hA _ P;rw[gg] at X;let g:List Value:=(o.toList.drop<|c.base+b*O).take<|a*O;let L:g.length=a*O:=by simp[g,m7,z2,uG,ap];omega
 let Q:∀m<a*O,g[m]?=o[c.base+b*O+m]?:=λm ad=>by simp[g,lf,ab ad,pZ,zX]
 refine⟨g,L,λy h=>?_,by simp[h,Builtin.lenOf],λaT aA=>?_,λj k M B e x=>?_⟩;grind[List.mem_iff_getElem?,List.getElem?_eq_some_iff];grind[run_firstCells_some,List.getElem?_eq_some_iff,Addr.add_lit,LM,World.cell?];let r:j<a:=by have:=(dm.1 e).1;simp at this;omega
 rw[lf,ab r,pZ] at e;let av:k<O:=by rw[<-p M (dh e)];exact(dm.1 x).1
 let⟨y,ah,ai⟩:=ae (b+j) k M B e x;let Y:j*O+k<a*O:=by have:(j+1)*O<=a*O:=hA _ r;rw[nP] at this;omega
 refine⟨y,?_,ai⟩;rw[Q _ Y,<-ah,t,gg];congr 1;omega
section gen
variable{X b3 dO J:TypeId}{K bs O cL:Nat}{k:Value}(aU:bG T X (.slice J) K bs)(he:fi T J O cL)(ap:h4 T J k)(qB:k.cells.size=O)
 {I:World} {B:Value} {o:Nat} {news:List Value} (lu:news.length=o*O) (Dn:T.underlying b3=some .string\/∃J,T.underlying b3=some (.slice J))
 (hlen:(Builtin.lenOf B).run T I=.ok o I) (sy:∀aT,aT.heap=I.heap->(Builtin.firstCells O o B).run T aT=.ok news.toArray aT)
include aU he Dn hlen
theorem ZD(b:o=0)(sy:(Builtin.firstCells O o B).run T I=.ok #[] I):(Builtin.append_ #[X,b3] dO #[.slice none 0 0,B]).run T I=.ok (.slice none 0 0) I:=by subst b;rcases Dn with a|⟨c,a⟩<;>simp[Builtin.append_,run_underlying aU.u,he.io,run_underlying a,hlen,sy]
theorem apz y a Y g c(k:I.heap[y]?=some (.cells c J (0,0)))(l:∀p∈news,p.oneCell')(sy:(Builtin.firstCells O o B).run T I=.ok news.toArray I)(i:Y+o<=g)(q:news=[]\/a+Y*O+news.length<=c.size):(Builtin.append_ #[X,b3] dO #[.slice (some ⟨y,a,none⟩) Y g,B]).run T I=.ok (.slice (some ⟨y,a,none⟩) (Y+o) g) (if news=[] then I else I.setRow y (c.toList.take (a+Y*O)++news++c.toList.drop (a+Y*O+news.length)).toArray):=by by_cases h:news=[];subst h;rcases Dn with e|⟨j,e⟩<;>simp[Builtin.append_,run_underlying aU.u,he.io,run_underlying e,hlen,sy,i,storeCells];let m:=run_storeCells_at T y (a+Y*O) J news 0 c I k b l;rcases Dn with e|⟨j,e⟩<;>simp[Builtin.append_,run_underlying aU.u,he.io,run_underlying e,hlen,sy,i,h,Addr.add_lit,m]
include ap sy in
omit qB lu in
theorem apy(Z:Value)(e:Option Addr)(Y a:Nat)(b:Z=.slice e Y a)(c:List Value)(r:(Builtin.firstCells O Y Z).run T I.drew=.ok c.toArray I.drew)(q:a<Y+o)(h:Y+o<=maxLen)(m:(Y+o)*cL<=140737488355328):(Builtin.append_ #[X,b3] dO #[Z,B]).run T I=.ok (.slice (some ⟨I.heap.size,0,none⟩) (Y+o) (grownCap I (Y+o) a J)) (I.drew.alloc (.cells (c.toArray++news.toArray++Builtin.zeroCells k.cells (grownCap I (Y+o) a J-(Y+o))) J)):=by
 let⟨w,p,_,j⟩:=he.zf;subst b;let av:=v;let i:¬(9223372036854775807:Int)<(Y:Int)+(o:Int):=by simp only[maxLen] at h;omega
 let g:=by have:=growslice_fits q m;omega
 let l:=sy I.drew rfl;let s:=ap.run I.drew;rcases Dn with b|⟨t,b⟩<;>simp[Builtin.append_,run_underlying aU.u,he.io,run_underlying b,hlen,typeInfo,p,j,av,i,g,Question.forced,newRow,s,l,r,grownCap]<;>(grind)
end gen
def TD{X b3 J:TypeId}{K bs O cL:Nat}{k:Value}{Z B:Operand}{u al off a F o:Nat}{ax:List V}(aU:bG T X (.slice J) K bs)(he:fi T J O cL)(ap:h4 T J k)(qB:k.cells.size=O)(bD:P.op=.call {callee:=.builtin .append,args:=#[Z,B],argTypes:=#[X,b3]})(aX:R.l[F]?=some (u,.n al O J j))(bp:off+a<=j.length)(ad:iW T s R B b3 O o ax)(aS:a+o<=maxLen)(bi:(a+o)*cL<=140737488355328):∀E I S,aH s R E I S->(∃N,S.m u=some N/\iV S I N (.n al O J j)/\(N.a8=none/\a=0/\E.eval Z=.slice none 0 0\/∃W P cap,N.a8=some W/\E.eval Z=.slice (some ⟨W,P,none⟩) a cap/\a<=cap/\cap<=maxLen/\(cap=0\/P=N.base+off*N.s/\N.base+(off+cap)*N.s<=N.size)))->∃U aT aj a_ a9,S.le aj/\aE aj a_ U/\Holds s aj a9 aT/\((execOp E.eval P).run T I=.ok (.value U) aT\/U=undef/\(execOp E.eval P).run T I=.ok .skip aT)/\a_=.a7 u (al+1) 0 (a+o)/\a9=R.l.set F (u,.n (al+1) O J ((j.drop off).take a++ax)):=λE I S aN bJ=>by
 let⟨e,aG,bE,bI⟩:=bJ;let⟨news,lu,a3,hlen,sy,bC⟩:=ad.run E I S aN;let⟨bP,L,aV⟩:=bE;have aD:∀U aT,(Builtin.append_ #[X,b3] P.type #[E.eval Z,E.eval B]).run T I=.ok U aT->(execOp E.eval P).run T I=.ok (.value U) aT:=by intro U aT aq;simp[execOp,bD,Sem.run_bind,resolve,Ku,gU,rY,Sem.run_pure,Result.andThen_ok,invoke,builtin,aq]
 have a0:((j.drop off).take a).length=a:=aK;have mk:∀ck aT aw y,ck.s=e.s->ck.al=al+1->(ck.a8=e.a8\/∃W,ck.a8=some W/\I.heap.size<=W)->ck.a8=some aw->aT.heap[aw]?=some (.cells y J (0,0))->y.size=ck.size->ck.base+(a+o)*O<=ck.size->(∀(c:Nat) U,y[c]?=some U->U.oneCell')->(∀c g M Z,j[off+c]?=some M->c<a->M.cells[g]?=some Z->∃U,y[ck.base+c*O+g]?=some U/\aE S Z U)->(∀c g,c<o->g<O->y[ck.base+(a+c)*O+g]?=news[c*O+g]?)->(∀M∈j,M.cells.length=O)->I.grownBy aT e.a8->Holds s (S.fo u ck) (R.l.set F (u,.n (al+1) O J ((j.drop off).take a++ax))) aT:=by
  intro ck aT aw y aJ Q ay bg aO bK bM bb a2 bB Y bt;refine aN.ci.sY aX aG aJ.symm v (λJ=>v) ay bt ⟨Q,v,.inr ⟨aw,y,bg,aO,bK,?_,bb,?_,?_⟩⟩;rw[c_,a0,ad.len,aJ,L];omega;intro c z p;rw[aJ,L];rcases ee.1 (dh p) with hm|hm;grind;exact ad.cells z hm;intro c g z ai p G;have aZ:S.le (S.fo u ck):=aF.i7 λaL q=>aM;rw[aJ,L];rw[lK,a0] at p;split at p;rename_i i;rw[lf,ab i,pZ] at p;let⟨U,ah,ae⟩:=a2 c g z ai p i G;exact⟨U,ah,ae.mono aZ⟩;rename_i i;have bu:c-a<o:=by rw[<-ad.len];exact(dm.1 p).1
  have aB:g<O:=by rw[<-ad.cells z (dh p)];exact(dm.1 G).1
  let⟨U,ah,ae⟩:=bC (c-a) g z ai p G;refine⟨U,?_,ae.mono aZ⟩;have:=bB (c-a) g bu aB;simp_all
 have grow:∀base cap(x:List Value),E.eval Z=.slice base a cap->cap<a+o->x.length=a*O->(Builtin.firstCells O a (E.eval Z)).run T I.drew=.ok x.toArray I.drew->(∀U∈x,U.oneCell')->(∀c g M Z,j[off+c]?=some M->c<a->M.cells[g]?=some Z->∃U,x[c*O+g]?=some U/\aE S Z U)->(∀M∈j,M.cells.length=O)->∃U aT aj D a6,S.le aj/\aE aj D U/\Holds s aj a6 aT/\((execOp E.eval P).run T I=.ok (.value U) aT\/U=undef/\(execOp E.eval P).run T I=.ok .skip aT)/\D=.a7 u (al+1) 0 (a+o)/\a6=R.l.set F (u,.n (al+1) O J ((j.drop off).take a++ax)):=by
  intro base cap x t az am br bO a2 Y;have C:=apy (dO:=P.type) aU he ap ad.D0 hlen sy (E.eval Z) base a cap t x br az aS bi;have aW:=grownCap_ge I (a+o) cap J;have aA:=grownCap_le_maxLen I (a+o) cap J aS;generalize grownCap I (a+o) cap J=ag at C aW aA;have av:(Builtin.zeroCells k.cells (ag-(a+o))).size=(ag-(a+o))*O:=by rw[size_zeroCells,qB]
  have:∀U∈Builtin.zeroCells k.cells (ag-(a+o)),U.oneCell':=by
   intro U t;simp[Builtin.zeroCells,Array.mem_map] at t;obtain⟨h,an,rfl⟩:=t;have:h<(ag-(a+o))*k.cells.size:=by simpa using an
   have bH:0<k.cells.size:=by rcases lM k.cells.size with w|w;grind;exact w
   rw[uS k.cells _<|pn _ bH];exact kM.1 ap.one _<|abI _
  let y:Array Value:=x.toArray++news.toArray++Builtin.zeroCells k.cells (ag-(a+o));have aB:y.size=ag*O:=by simp[y,P3,z8,am,lu,av,<-gg];congr 1;omega
  have H:∀h,y[h]?=if h<a*O then x[h]? else if h<a*O+o*O then news[h-a*O]? else(Builtin.zeroCells k.cells (ag-(a+o)))[h-(a*O+o*O)]?:=by intro h;simp[y,Array.getElem?_append,z8,am,lu,P3,x_];split;rfl;grind
  refine⟨_,_,_,.a7 u (al+1) 0<|a+o,_,aF.i7 λaL q=>aM,?_,mk ⟨some I.heap.size,0,al+1,ag*O,O⟩ (I.drew.alloc<|.cells y J) I.heap.size y L.symm rfl (.inr ⟨_,rfl,a1 _⟩) rfl (heap_alloc_new I.drew _) aB aM ?_ ?_ ?_ Y
    ⟨rfl,rfl,rfl,af,λa5 aY _=>by rw[heap_alloc_old I.drew _ aY];rfl⟩,.inl<|aD _ _ C,rfl,rfl⟩
  exact .a7 _ _ _ _ _ _ (S.kJ _ _) (a1 _) rfl λ_=>.inr ⟨I.heap.size,0,ag,rfl,rfl,aW,aA,.inr ⟨af,af⟩⟩;intro c U t;rw[H] at t;grind;grind;intro c g i r;simp[kk];have q:(c+1)*O<=o*O:=hA _ i;rw[nP] at q;rw[H,gg,aa v,ab v];congr 1;omega
 rcases bI with⟨ak,rfl,t⟩|⟨W,ke,cap,ak,t,bv,aA,r⟩
 .have bn:j=[]:=by rcases aV with⟨_,w⟩|⟨W,_,ay,_⟩;exact w;grind
  subst bn;by_cases hm:o=0;subst hm;have bm:ax=[]:=lJ ad.len;subst bm;have ao:news=[]:=lJ v;subst ao;have C:=ZD (dO:=P.type) aU he ad.D0 hlen rfl<|sy I rfl;rw[<-t] at C;refine⟨_,_,_,.a7 u (al+1) 0 0,_,aF.i7 (ck:={e with al:=al+1}) λaL q=>aM,?_,aN.ci.sY (ke:=.n (al+1) O J<|([].drop off).take 0++[]) (ck:={e with al:=al+1}) aX aG rfl aM (λJ=>b) (.inl rfl) ⟨rfl,rfl,rfl,a1 _,λ_ _ _=>rfl⟩ ⟨rfl,L,.inl ⟨ak,af⟩⟩,.inl (aD _ _ C),rfl,rfl⟩;rw[t];exact .a7 _ _ _ _ _ _ (S.kJ _ _) (a1 _) rfl λ_=>.inl ⟨ak,rfl,rfl⟩;exact grow none 0 [] t v af (by rw[t];rfl) af af af
 rcases aV with⟨bd,_⟩|⟨aw,A,ay,aC,av,bo,q,bl,aq⟩;grind;rw[ak] at ay;cases ay;rw[L] at bo r bl aq;have Y:∀M∈j,M.cells.length=O:=λM p=>by grind[List.mem_iff_getElem?]
 have bx:(off+a)*O<=j.length*O:=hA _ bp;rw[gg] at bx;by_cases aI:a+o<=cap;have bq:news=[]\/ke+a*O+news.length<=A.size:=by rcases r with r|⟨rfl,r⟩;left;exact lJ (by rw[lu,show o=0 by omega];simp);right;rw[lu,av];have:(a+o)*O<=cap*O:=hA _ aI;rw[gg] at this r;omega
 have C:=apz (dO:=P.type) aU he ad.D0 hlen W ke a cap A aC a3 (sy I rfl) aI bq;rw[<-t] at C;have a4:∀ck,ck.a8=some W->ck.base=e.base+off*O->ck.al=al+1->ck.size=e.size->ck.s=O->aE (S.fo u ck) (.a7 u (al+1) 0 (a+o)) (.slice (some ⟨W,ke,none⟩) (a+o) cap):=by intro ck q bc bd be bf;refine .a7 _ _ _ _ _ _ (S.kJ _ _) v rfl λ_=>.inr ⟨W,ke,cap,q,rfl,aI,aA,?_⟩;rcases r with r|⟨bj,bk⟩;exact .inl r;right;rw[bc,be,bf];refine⟨by rw[bj];simp,?_⟩;rw[gg] at bk;simp;omega
 by_cases ao:news=[];rw[ab ao] at C;have bN:o*O=0:=by rw[<-lu,ao];rfl
 refine⟨_,_,_,.a7 u (al+1) 0<|a+o,_,aF.i7 λaL q=>(by rw[aG] at q;cases q;exact⟨L,by show e.al<=al+1;omega,λJ=>by exfalso;have:e.al=al+1:=J;omega⟩),a4 ⟨some W,e.base+off*O,al+1,e.size,O⟩ rfl rfl rfl rfl rfl,mk ⟨some W,e.base+off*O,al+1,e.size,O⟩ I W A L.symm rfl (.inl ak.symm) rfl aC av (by dsimp;rw[gg];omega) q ?_ ?_ Y ⟨rfl,rfl,rfl,a1 _,λ_ _ _=>rfl⟩,.inl<|aD _ _ C,rfl,rfl⟩;intro c g z ai p i G;let⟨U,ah,ae⟩:=aq (off+c) g z ai p G;refine⟨U,?_,ae⟩;rw[<-ah,gg];congr 1;dsimp only;omega;intro c g i aO;have:(c+1)*O<=o*O:=hA _ i;rw[nP] at this;omega;rw[aa ao] at C;have aP:ke=e.base+off*O/\e.base+(off+cap)*O<=e.size:=by rcases r with r|r;exact absurd (lJ (by rw[lu,show o=0 by omega];simp)) ao;exact r
 obtain⟨rfl,az⟩:=aP;have bF:(a+o)*O<=cap*O:=hA _ aI;rw[gg] at bF az;have H:∀h,(A.toList.take (e.base+off*O+a*O)++news++A.toList.drop (e.base+off*O+a*O+news.length)).toArray[h]?=if h<e.base+off*O+a*O then A[h]? else if h<e.base+off*O+a*O+o*O then news[h-(e.base+off*O+a*O)]? else A[h]?:=by intro h;have bz:(A.toList.take (e.base+off*O+a*O)).length=e.base+off*O+a*O:=aK;simp[x_,ge];rw[lK,bz];split;rw[lf,ab (by assumption)];simp;rw[lK,lu];split;rw[ab v];rw[aa v,pZ];simp[zX];congr 1;omega
 refine⟨_,_,_,.a7 u (al+1) 0<|a+o,_,aF.i7 λaL q=>(by rw[aG] at q;cases q;exact⟨L,by show e.al<=al+1;omega,λJ=>by exfalso;have:e.al=al+1:=J;omega⟩),a4 ⟨some W,e.base+off*O,al+1,e.size,O⟩ rfl rfl rfl rfl rfl,mk ⟨some W,e.base+off*O,al+1,e.size,O⟩ _ W _ L.symm rfl (.inl ak.symm) rfl (setRow_heap I W A _ J _ aC) ?_ (by dsimp;rw[gg];omega) ?_ ?_ ?_ Y
   ⟨rfl,rfl,rfl,af,λa5 aY bA=>setRow_other I W a5 _ λJ=>bA (by rw[ak,J])⟩,.inl<|aD _ _ C,rfl,rfl⟩
 simp[z8,c_,m7,z2,uG];rw[lu,av];omega;intro c U Q;rw[H] at Q;split at Q;exact q _ _ Q;split at Q;exact a3 U<|dh Q;exact q _ _ Q;intro c g z ai p i G;let⟨U,ah,ae⟩:=aq (off+c) g z ai p G;have aB:g<O:=by rw[<-Y z (dh p)];exact(dm.1 G).1
 have:(c+1)*O<=a*O:=hA _ i;rw[nP] at this;refine⟨U,?_,ae⟩;dsimp;rw[H,ab v,<-ah,gg];congr 1;omega;intro c g i aO;have:(c+1)*O<=o*O:=hA _ i;rw[nP] at this;dsimp;rw[gg,H,aa v,ab v];congr 1;omega;by_cases ba:a=0;subst ba;refine grow _ cap [] t v af (by rw[t];simp[Builtin.firstCells,loadCells,loadCellsFrom]) af (λc g M Z _ i=>v) Y;have aP:ke=e.base+off*O/\e.base+(off+cap)*O<=e.size:=by rcases r with r|r;omega;exact r
 obtain⟨rfl,az⟩:=aP;have:a*O<=cap*O:=hA _ bv;rw[gg] at az;let x:List Value:=(A.toList.drop<|e.base+off*O).take<|a*O;have am:x.length=a*O:=by simp[x,m7,z2,uG,av];omega
 have H:∀h<a*O,x[h]?=A[e.base+off*O+h]?:=λh an=>by simp[x,lf,ab an,pZ,zX]
 refine grow _ cap x t v am ?_ ?_ ?_ Y;rw[t];refine run_firstCells_some (P:=T) I.drew O a ⟨W,e.base+off*O,none⟩ a cap x am λc U i=>?_;have aR:c<a*O:=by rw[<-am];exact(dm.1 i).1
 rw[H c aR] at i;rw[Addr.add_lit,LM (I:=I) (aT:=I.drew) rfl];simp[World.cell?,aC,i];intro U Q;let⟨h,an⟩:=lg.1 Q;have aR:h<a*O:=by rw[<-am];exact(dm.1 an).1
 rw[H h aR] at an;exact q _ _ an;intro c g z ai p i G;let⟨U,ah,ae⟩:=aq (off+c) g z ai p G;have:g<O:=by rw[<-Y z (dh p)];exact(dm.1 G).1
 have:(c+1)*O<=a*O:=hA _ i;rw[nP] at this;refine⟨U,?_,ae⟩;rw[H _ v,<-ah,gg];congr 1;omega
def C1{X b3 J:TypeId}{K bs O cL:Nat}{k:Value}{Z B:Operand}{b c e a F o:Nat}{g:List V}(aU:bG T X (.slice J) K bs)(he:fi T J O cL)(ap:h4 T J k)(qB:k.cells.size=O)(r:P.op=.call {callee:=.builtin .append,args:=#[Z,B],argTypes:=#[X,b3]})(u:R.val s Z=some (.a7 b c e a))(i:R.l[F]?=some (b,.n c O J j))(q:e+a<=j.length)(t:iW T s R B b3 O o g)(m:a+o<=maxLen)(p:(a+o)*cL<=140737488355328):dP T s P R (.a7 b (c+1) 0 (a+o)) (R.l.set F (b,.n (c+1) O J<|(j.drop e).take a++g)):=.of λE I S h=>TD aU he ap qB r i q t m p E I S h<|h.a7 u i
end
def ff(T:Program)(m:List (Nat×V))(x:FuncId)(j:List V)(l:bd)(e:V->bd->Prop):Prop:=∀(S:aF)(b:List Value)(I:World)(i:Nat->Prop),b.length=j.length->(∀(g:Nat)(Z:V)(a:Value),j[g]?=some Z->b[g]?=some a->aE S Z a)->Holds ⟨I,i,S,l.map (·.1),m,0⟩ S l I->(∀y Z,(y,Z)∈m->aE S Z (.pointer<|some ⟨y,0,none⟩))->Calls T x b.toArray I (λJ aT=>∃a D h c,J=.returned a/\e D h/\aE c D a/\Holds ⟨I,i,S,l.map (·.1),m,0⟩ c h aT)
def fg(T:Program)(m:List (Nat×V))(x:FuncId)(a:List V)(D:V):Prop:=ff T m x a [] (·=D/\·=[])
def ff.mono{T:Program}{m:List (Nat×V)}{x:FuncId}{b:List V}{l:bd}{e a:V->bd->Prop}(w:ff T m x b l e)(o:∀D P,e D P->a D P):ff T m x b l a:=by intro S k I j c g h i;apply (w S k I j c g h i).mono;grind
structure FY(T:Program)(x:FuncId)(fn:Func)(t:Code):Prop where
 get:T.funcs[x]?=some fn
 name:(fn.name== "runtime.NumGoroutine")=false
 body:fn.body=some t
structure iR(T:Program)(x:FuncId):Prop where
 h:(T.funcs[x]?).map (λfn=>(fn.name== "runtime.NumGoroutine",fn.body.isNone))=some (false,false)
theorem iR.run{T:Program}{x:FuncId}(w:iR T x)args I:(callFunc x args).run T I=.ok (.enter x args) I:=by
 have:=w.h;cases a:T.funcs[x]?;simp_all
 next fn=>simp only[callFunc,Sem.run_bind,run_program,Result.andThen_ok,a];rw[aa b,aa aM];rfl
section
variable{T:Program}{s:a2}{ops:Array Oper}{P:Oper}{N:List Oper}{R:aw}{e:Exit->aw->Prop}
def Holds.perm{S:aF}{l h:bd}{I:World}(w:Holds s S l I)(e:h.Perm l):Holds s S h I:=⟨w.le,w.G,w.k0,w.k6,w.k7,λb c a=>w.own b c<|e.mem_iff.1 a,w.i4,w.kb,λb c a=>w.eO b c<|e.mem_iff.1 a,((e.map _).nodup_iff).2 w.jw,λb c g W a=>w.i9 b c g W<|e.mem_iff.1 a,λb c j m g k W a i=>w.inj b c j m g k W (e.mem_iff.1 a)<|e.mem_iff.1 i⟩
def Holds.drop{S:aF}{l h:bd}{I:World}(w:Holds s S l I)(e:h.Sublist l):Holds s S h I:=⟨w.le,w.G,w.k0,w.k6,w.k7,λb c a=>w.own b c<|e.subset a,w.i4,w.kb,λb c a=>w.eO b c<|e.subset a,(e.map _).nodup w.jw,λb c g W a=>w.i9 b c g W<|e.subset a,λb c j m g k W a i=>w.inj b c j m g k W (e.subset a)<|e.subset i⟩
def Holds.enter{S:aF}{e l:bd}{I:World}(w:Holds s S (e++l) I)m Y:Holds ⟨I,λW=>∃id P N,(id,P)∈e/\S.m id=some N/\N.a8=some W,S,e.map (·.1),m,Y⟩ S e I:=by let h:∀k∈e,k∈e++l:=λk o=>uK _ o;refine⟨aF.le.refl S,⟨rfl,rfl,rfl,a1 _,λ_ _ _=>rfl⟩,λ_ _ w _=>w,λ_ _ _ w=>.inl w,λ_ _ w=>.inl w,λb c a=>.inl<|b4.2 ⟨_,a,rfl⟩,w.i4,w.kb,λb c a=>w.eO b c<|h _ a,?_,λb c i W a g j=>⟨.inr ⟨b,c,i,a,g,j⟩,(w.i9 b c i W (h _ a) g j).2⟩,λb c p r i q W a g=>w.inj b c p r i q W (h _ a)<|h _ g⟩;have:=w.jw;grind
def Holds.leave{S C:aF}{u y M:bd}{I aT:World}{m:List (Nat×V)}{Y:Nat}(w:Holds s S (u++y) I)(h:Holds ⟨I,λW=>∃id P N,(id,P)∈u/\S.m id=some N/\N.a8=some W,S,u.map (·.1),m,Y⟩ C M aT):Holds s C (M++y) aT:=by
 let p:∀x∈y,x∈u++y:=λx z=>uL _ z;let U:∀x∈u,x∈u++y:=λx z=>uK _ z;let R:=w.jw;rw[cD,pm] at R;let T:∀id P,(id,P)∈y->id∉u.map (·.1):=λid P a b=>R.2.2 id b id (b4.2 ⟨_,a,rfl⟩) rfl;let hm:∀id P N,(id,P)∈y->S.m id=some N->C.m id=some N:=λid P N a b=>h.k0 id N b<|T id P a;let X:∀id P N W,(id,P)∈y->S.m id=some N->N.a8=some W->¬∃id P N,(id,P)∈u/\S.m id=some N/\N.a8=some W:=by rintro id P N W a b e ⟨ax,aA,ay,g,k,r⟩;have:=w.inj id P ax aA N ay W (p _ a) (U _ g) b k e r;subst this;exact T _ _ a<|b4.2 ⟨_,g,rfl⟩
 let Q:∀id P N W,(id,P)∈y->S.m id=some N->N.a8=some W->W<I.heap.size:=by intro id P N W a b e;let⟨j,g,k⟩:=w.eO id P<|p _ a;rw[b] at g;cases g;exact k.u_ e
 let aj:∀id P,(id,P)∈M->id∈u.map (·.1)\/S.m id=none:=h.own;let av:∀id∈u.map (·.1),id∈s.ids\/s.wC.m id=none:=by intro id a;obtain⟨x,z,rfl⟩:=b4.1 a;exact w.own x.1 x.2<|U _ z
 let aq:∀W,(∃id P N,(id,P)∈u/\S.m id=some N/\N.a8=some W)->s.s0.heap.size<=W\/s.BB W:=by rintro W ⟨id,P,N,a,b,e⟩;exact(w.i9 id P N W (U _ a) b e).1
 refine⟨w.le.trans h.le,?_,?_,?_,?_,?_,h.i4,h.kb,?_,?_,?_,?_⟩;refine⟨h.G.os.trans w.G.os,h.G.tape.trans w.G.tape,h.G.output.trans w.G.output,cA w.G.size h.G.size,λF ah z=>?_⟩;rw[h.G.block F (h3 ah w.G.size) (λaw=>by grind)];exact w.G.block F ah z;intro id N a b;let e:=w.k0 id N a b;exact h.k0 id N e (λaw=>by grind);intro W c B a;rcases h.k6 W c B a with b|b|b;exact w.k6 W c B b;exact .inr<|.inl<|cA w.G.size b;grind;intro W Z a;rcases h.k7 W Z a with b|b|b;exact w.k7 W Z b;exact .inr<|.inl<|cA w.G.size b;grind;intro id c a;rcases ee.1 a with a|a;rcases aj id c a with b|b;exact av id b;cases am:s.wC.m id;exact .inr rfl
 next aC=>let⟨j,e,_⟩:=w.le.m _ _ am;rw[b] at e;cases e
 exact w.own id c<|p _ a;intro id c a;rcases ee.1 a with a|a;exact h.eO id c a;let⟨j,b,e⟩:=w.eO id c<|p _ a;exact⟨j,hm id c j a b,e.mono h.le λW L=>h.G.block W (Q id c j W a b L)<|X id c j W a b L⟩;rw[cD,pm];refine⟨h.jw,R.2.1,λE ap W L J=>?_⟩;subst J;obtain⟨x,z,rfl⟩:=b4.1 ap;let⟨O,ak,al⟩:=b4.1 L;rcases aj x.1 x.2 z with b|b;exact T O.1 O.2 ak (by rw[al];exact b);let⟨j,e,_⟩:=w.eO O.1 O.2<|p _ ak;rw[al,b] at e;cases e;intro id c j W a b e;rcases ee.1 a with a|a;let⟨g,k⟩:=h.i9 id c j W a b e;refine⟨?_,k⟩;rcases g with g|g;exact .inl<|cA w.G.size g;exact aq W g;let⟨q,g,_⟩:=w.eO id c<|p _ a;let k:=hm id c q a g;rw[b] at k;cases k;let⟨r,A,K⟩:=w.i9 id c j W (p _ a) g e;let aB:=Q id c j W a g e;let ai:=X id c j W a g e;refine⟨r,λF=>?_,?_⟩;cases an:C.I W F;rfl
 next B=>rcases h.k6 W F B an with i|i|i;change S.I W F=some B at i;rw[A F] at i;cases i;change I.heap.size<=W at i;omega;exact absurd i ai
 cases ao:C.J W;rfl
 next B=>rcases h.k7 W B ao with i|i|i;change S.J W=some B at i;rw[K] at i;cases i;change I.heap.size<=W at i;omega;exact absurd i ai
 let ae:∀t c l o j q W,(t,c)∈M->(l,o)∈y->C.m t=some j->C.m l=some q->j.a8=some W->q.a8=some W->False:=by intro t c l o j q W a b e g k r;let⟨ad,A,_⟩:=w.eO l o<|p _ b;let K:=hm l o ad b A;rw[g] at K;cases K;rcases(h.i9 t c j W a e k).1 with i|i;have:=Q l o q W b A r;change I.heap.size<=W at i;omega;exact X l o q W b A r i
 intro t c l o j q W a b e g k r;rcases ee.1 a with D|D<;>rcases ee.1 b with H|H;exact h.inj t c l o j q W D H e g k r;exact(ae t c l o j q W D H e g k r).elim;exact(ae l o t c q j W H D g e r k).elim;let⟨ad,A,_⟩:=w.eO t c<|p _ D;let⟨az,K,_⟩:=w.eO l o<|p _ H;let i:=hm t c ad D A;let ag:=hm l o az H K;rw[e] at i;cases i;rw[g] at ag;cases ag;exact w.inj t c l o j q W (p _ D) (p _ H) A K k r
def mB(s:a2)(R:aw):List Operand->List V->Prop|[],b=>b=[]|Z::D,M::a=>R.val s Z=some M/\mB s R D a|_::_,[]=>False
def mB.get{a:List Operand}(w:mB s R a j):a.length=j.length/\∀(c:Nat)(Z:V),j[c]?=some Z->∃b,a[c]?=some b/\R.val s b=some Z:=by
 induction a generalizing j with
 |nil=>grind[mB]|cons b D h=>cases j with|nil=>trivial|cons M j=>let⟨e,g⟩:=w;grind
def p7(T:Program)(s:a2)(P:Oper)(R:aw)(e:V->bd->Prop):Prop:=∀E I S,aH s R E I S->∀(b:Act->World->Prop)(g:Exit->Act->World->Prop),(∀D ad c aT a,e D ad->S.le a->aE a D c->Holds s a ad aT->b (E.put P.dst c) aT)->P.wp T E I b g
def Sc{x:FuncId}{h:Operand}{args:Array Operand}{r:Array TypeId}{first i:List V}(H:P.op=.call {callee:=.value h,args:=args,argTypes:=r})(B:iR T x)(F:R.val s h=some (.func (.func x) first j))(y:mB s R args.toList i){E:Act}{I:World}{S:aF}(m:aH s R E I S){l:Act->World->Prop}{q:Exit->Act->World->Prop}(w:∀e:List Value,e.length=(first++i++j).length->(∀(k:Nat) Z a,(first++i++j)[k]?=some Z->e[k]?=some a->aE S Z a)->Calls T x e.toArray I (λJ aT=>∃a,J=.returned a/\l (E.put P.dst a) aT)):P.wp T E I l q:=by
 have o:=m.val F;generalize C:E.eval h=a at o;cases o with
 |func _ _ _ e p G M N O=>
  let⟨A,z⟩:=y.get;unfold Oper.wp;have D:(execOp E.eval P).run T I=.ok (.enter x (e++args.toList.map E.eval++p).toArray) I:=by simp only[execOp,H,Sem.run_bind,resolve,Deferred.ofValue,C,Sem.run_pure,Result.andThen_ok,invoke,B.run];simp
  rw[D];refine(w (e++args.toList.map E.eval++p) b ?_).mono ?_;intro k Z a g c;rw[lK,lK] at g c;simp only[c_,aS,<-G,A] at g c;split at g;rename_i t;rw[ab t] at c;split at g;grind;rename_i u;rw[aa u] at c;let⟨Q,K,L⟩:=z _ Z g;rw[ch,K] at c;simp at c;subst c;exact m.val L;grind;rintro J aT ⟨a,rfl,w⟩;exact w
def p7.call{x:FuncId}{e:Operand}{args:Array Operand}{o:Array TypeId}{first g:List V}{pass rest:bd}{c:V->bd->Prop}{q6:V->bd->Prop}(z:P.op=.call {callee:=.value e,args:=args,argTypes:=o})(t:iR T x)(w:R.val s e=some (.func (.func x) first j))(r:mB s R args.toList g)(i:(pass++rest).Perm R.l)(A:ff T s.G x (first++g++j) pass c)(p:∀D b,c D b->∃ad,ad.Perm (b++rest)/\q6 D ad):p7 T s P R q6:=λE I S a L M q=>Sc z t w r a λK y F=>(A S K I _ y F ((a.ci.perm i).enter s.G 0) a.fk).mono λJ aT ⟨k,D,b,m,he,C,H,h⟩=>
 let⟨ad,B,u⟩:=p D b C
 ⟨k,he,q D ad k aT m u h.le H<|((a.ci.perm i).leave h).perm B⟩
def bS.call{x:FuncId}{i:Operand}{args:Array Operand}{o:Array TypeId}{first h j:List V}{pass rest:bd}{b:V->bd->Prop}(z:R.guard ops P=some true)(C:P.op=.call {callee:=.value i,args:=args,argTypes:=o})(q:iR T x)(y:R.val s i=some (.func (.func x) first h))(p:mB s R args.toList j)(J:(pass++rest).Perm R.l)(F:ff T s.G x (first++j++h) pass b)(w:∀D k,b D k->bS T s ops N (({R with l:=k++rest}:aw).put P.dst D) e):bS T s ops (P::N) R e:=by intro r E I S c;let⟨t,u⟩:=CW r;unfold wpList;rw[ab<|c.wanted z];refine .inl<|p7.call (q6:=λD ad=>∃a,b D a/\ad=a++rest) C q y p J F (λD a g=>⟨_,.refl _,a,g,rfl⟩) E I S c _ _ ?_;rintro D _ K aT m ⟨a,g,rfl⟩ B H A;exact w D a g u _ _ m<|c.put B A H t
def anW{x:FuncId}{a:Operand}{args:Array Operand}{i:Array TypeId}{first b:List V}{D:V}(w:P.op=.call {callee:=.value a,args:=args,argTypes:=i})(t:iR T x)(u:R.val s a=some (.func (.func x) first j))(r:mB s R args.toList b)(y:fg T s.G x (first++b++j) D):cb T s P R D:=λE I S q g h p=>
 p7.call (pass:=[]) (rest:=R.l) (q6:=λc ad=>c=D/\ad=R.l) w t u r (.refl _) y (by rintro D P ⟨rfl,rfl⟩;exists _,.refl _,rfl) E I S q g h (by rintro c ad z aT e ⟨rfl,rfl⟩ k m o;exact p z aT e k m o)
def ng:Nat->List V->List (Nat×V)|_,[]=>[]|a,Z::D=>(a,Z)::ng (a+1) D
def Lm:∀b a X Z,(ng a b).lookup X=some Z->a<=X/\b[X-a]?=some Z|[],_,_,_,w=>bB|B::D,a,X,Z,w=>by simp[ng,oB] at w;split at w;simp_all;cases Lm D _ X Z w;grind
def uw(R:aw):List ResultVar->List V->Prop|[],a=>a=[]|.tmp X::D,Z::b=>R.h.lookup X=some Z/\uw R D b|_,_=>False
def cO:List V->V|[Z]=>Z|N=>.tuple N
def FX(c:List ResultVar)(b:V->bd->Prop):Exit->aw->Prop:=λJ R=>(J=.ret\/J=.normal)/\∃a,uw R c a/\b (cO a) R.l
def rI(a:Array Value):ResultVar->Sem Value|.tmp X=>Pure.pure (a.getD X undef)|.cell W X=>do loadVar X (<-asAddr (a.getD W undef))
def Zp b c:results b c=(do
  let a<-b.results.mapM (rI c)
  Pure.pure (if w:a.size=1 then a[0] else .tuple a)):=by rfl
theorem uw.run{R:aw}{E:Act}{I:World}{S:aF}(w:aH s R E I S):∀{hY:List ResultVar}{c:List V},uw R hY c->∃b,b.length=c.length/\(hY.mapM (rI E.tmps)).run T I=.ok b I/\∀(g:Nat) Z e,c[g]?=some Z->b[g]?=some e->aE S Z e|[],c,a=>by simp[uw] at a;simp_all|.tmp X::D,Z::q,a=>by let⟨b,i,j,k⟩:=uw.run w a.2;let⟨e,o,l⟩:=w.h X Z a.1;refine⟨e::b,aM,?_,λg B aP p m=>?_⟩;simp_all[rI,x8];grind|.tmp X::D,[],a=>bB|.cell _ _::D,_,a=>bB
def IS:List Value->Value|[aP]=>aP|a=>.tuple a.toArray
def ff.XH{m:List (Nat×V)}{x:FuncId}{c:Func}{t:Code}{g:List ResultVar}{xs:List V}{l:bd}{p:V->bd->Prop}{Y:Nat}(r:FY T x c t)(av:c.ntmps=Y)(ae:xs.length<=Y)(Q:c.results.toList=g)(w:∀s,s.G=m->s.n=Y->dE T s t ⟨ng 0 xs,l⟩ (FX g p)):ff T m x xs l p:=by
 intro S i I u K N a E;refine calls_of_wp r.get r.body ?_;subst av;let C:aH ⟨I,u,S,l.map (·.1),m,c.ntmps⟩ ⟨ng 0 xs,l⟩ {tmps:=i.toArray++Array.replicate (c.ntmps-i.toArray.size) undef,defers:=[]} I S:=by
  refine⟨⟨a.le,⟨a.G.os,a.G.tape,a.G.output,a.G.size,a.G.block⟩,a.k0,a.k6,a.k7,a.own,a.i4,a.kb,a.eO,a.jw,a.i9,a.inj⟩,λX Z W=>?_,E,b,rfl⟩;let⟨_,e⟩:=Lm xs 0 X Z W;let L:X<i.length:=by rw[K];exact(dm.1 e).1
  refine⟨i[X],?_,N X Z _ e<|bw L⟩;rw[abG v];simp
 refine Code.wp_mono ?_<|w _ rfl rfl _ I S C;rintro J z aT ⟨dd,j,⟨he,y,R,M⟩,o⟩;let⟨h,e,A,q⟩:=uw.run (T:=T) o R;let U:(results c z.tmps).run T aT=.ok (IS h) aT:=by
  rw[Zp,<-abM (xs:=c.results),Q];let hm:∀(k:ResultVar->Sem Value),g.toArray.mapM k=Functor.map List.toArray (g.mapM k):=λk=>af;simp only[Sem.run_bind];rw[hm];simp[Sem.run_map,A,Sem.run_pure]
  match h with|[]=>rfl|[aP]=>rfl|aP::ad::D=>rfl
 let P:aE j (cO y) (IS h):=by
  match h,y,e with|[],[],_=>exact .tuple [] [] rfl af|[aP],[Z],_=>exact q 0 Z aP rfl rfl|aP::ad::D,Z::B::O,e=>exact .tuple _ _ v q
 let H:Holds ⟨I,u,S,l.map (·.1),m,0⟩ j dd.l aT:=by let F:=o.ci;exact⟨F.le,⟨F.G.os,F.G.tape,F.G.output,F.G.size,F.G.block⟩,F.k0,F.k6,F.k7,F.own,F.i4,F.kb,F.eO,F.jw,F.i9,F.inj⟩
 rcases he with rfl|rfl<;>exact⟨o.defers,_,U,_,_,_,j,rfl,M,P,H⟩
inductive eA(ct:V->V->Prop):V->V->Prop
|refl (Z:V):eA ct Z Z|base (Z B:V) (w:ct Z B):eA ct Z B|agg (xs ak:List V) (bq:xs.length=ak.length) (w:∀(H:Nat)(Z B:V),xs[H]?=some Z->ak[H]?=some B->eA ct Z B):eA ct (.agg xs) (.agg ak)|vec (Y:Nat) (E:eu) (xs ak:List V) (bq:xs.length=ak.length) (w:∀(H:Nat)(Z B:V),xs[H]?=some Z->ak[H]?=some B->eA ct Z B):eA ct (.vec Y E xs) (.vec Y E ak)|tuple (xs ak:List V) (bq:xs.length=ak.length) (w:∀(H:Nat)(Z B:V),xs[H]?=some Z->ak[H]?=some B->eA ct Z B):eA ct (.tuple xs) (.tuple ak)|func (fn:Fn) (xs ak pj wh:List V) (bq:xs.length=ak.length) (w:∀(H:Nat)(Z B:V),xs[H]?=some Z->ak[H]?=some B->eA ct Z B) (ain:pj.length=wh.length) (fL:∀(H:Nat)(Z B:V),pj[H]?=some Z->wh[H]?=some B->eA ct Z B):
 eA ct (.func fn xs pj) (.func fn ak wh)
inductive p8(id al O:Nat)(fV:List V):V->V->Prop|a7 (off len:Nat) (w:off+len<=fV.length):p8 id al O fV (.a7 id al off len) (.f O ((fV.drop off).take len))|own (H t:Nat):H<fV.length->p8 id al O fV (.own id al H t) (.ref O fV H t)
def uX(ct:V->V->Prop):Prop:=∀Z B,ct Z B->Z.cells=[Z]/\B.cells=[B]
theorem eA.cells{ct:V->V->Prop}(o:uX ct){Z B:V}(w:eA ct Z B):Z.cells.length=B.cells.length/\∀(e:Nat) E W,Z.cells[e]?=some E->B.cells[e]?=some W->eA ct E W:=by cases w with|refl Z=>exact⟨rfl,λe E W c a=>by rw[c] at a;cases a;exact .refl _⟩|base Z B w=>let⟨c,a⟩:=o _ _ w;exact⟨b,λe E W k l=>by rw[c] at k;rw[a] at l;cases e<;>simp at k l;subst k;subst l;exact .base _ _ w⟩|agg g h i w=>trivial|vec Y E g h i w=>refine⟨by show(E.cells++g).length=(E.cells++h).length;grind,λe Z B c a=>?_⟩;change (E.cells++g)[e]?=some Z at c;change (E.cells++h)[e]?=some B at a;by_cases p:e<E.cells.length;rw[q0 p] at c a;rw[c] at a;cases a;exact .refl _;grind|tuple g h i w=>exact⟨rfl,λj E W c a=>by cases j<;>simp[V.cells] at c a;subst c;subst a;exact .tuple g h i w⟩|func fn g h r s i w q m=>exact⟨rfl,λj E W c a=>by cases j<;>simp[V.cells] at c a;subst c;subst a;exact .func fn g h r s i w q m⟩
inductive bW(ct:V->V->Prop):bd->bd->Prop
|nil:bW ct [] []|same {N ck:bd} (L:Nat×bM):bW ct N ck->bW ct (L::N) (L::ck)|n {N ck:bd} (H U k:Nat) (J:TypeId) (xs ak:List V) (bq:xs.length=ak.length) (w:∀(bJ:Nat)(Z B:V),xs[bJ]?=some Z->ak[bJ]?=some B->eA ct Z B):
 bW ct N ck->bW ct ((H,.n U k J xs)::N) ((H,.n U k J ak)::ck)|map {N ck:bd} (H U clock:Nat) (xs ak:List (V×V×Nat)) (bq:xs.length=ak.length) (w:∀(bJ:Nat)(Z B:V×V×Nat),xs[bJ]?=some Z->ak[bJ]?=some B->Z.1=B.1/\Z.2.2=B.2.2/\eA ct Z.2.1 B.2.1):
 bW ct N ck->bW ct ((H,.map U xs clock)::N) ((H,.map U ak clock)::ck)
def bW.BP{ct:V->V->Prop}{N c:bd}{a b k:Nat}{J:TypeId}{Z B:V}(w:eA ct Z B)(e:bW ct N c):bW ct ((a,.n b k J [Z])::N) ((a,.n b k J [B])::c):=.n a b k J _ _ rfl (λi E W g h=>aM) e
def bW.names{ct:V->V->Prop}{N b:bd}(w:bW ct N b):b.map (·.1)=N.map (·.1):=by
 induction w
 rfl
 next i _ a=>grind
 next c e k J g h _ _ _ a=>grind
 next c e clock g h _ _ _ a=>grind
theorem eA.eZ{ct:V->V->Prop}{S:aF}(t:∀Z B,ct Z B->∀a,aE S Z a->aE S B a){Z B:V}(w:eA ct Z B):∀a,aE S Z a->aE S B a:=by
 induction w
 next Z=>simp
 next Z B w=>grind
 next p g l _ o=>intro a c;cases c with|agg _ e m k q=>refine .agg g e v k λj B aP i h=>?_;grind
 next Y E p g l _ o=>intro a c;cases c with|vec _ _ _ e av m k q=>refine .vec Y E g e av b k λj B aP i h=>?_;grind
 next p g l _ o=>
  intro a c;cases c
  next _ e m q=>refine .tuple g e v λj B aP i h=>?_;grind
 next fn p g C s l _ m _ o A=>intro a c;cases c with|func _ _ _ r e u x y z=>refine .func fn g s r e v v (λj B aP i h=>?_) λj B aP i h=>?_;grind;grind
def bW.eO{ct:V->V->Prop}{S:aF}{I:World}(y:∀Z B,ct Z B->∀h,aE S Z h->aE S B h)(A:uX ct){N E:bd}(w:bW ct N E){D:Nat}{F:bM}(c:(D,F)∈E):∃P,(D,P)∈N/\∀q,iV S I q P->iV S I q F:=by
 induction w
 cases c
 next aj _ C=>grind
 next ah h k J m G p x _ C=>
  rcases eT.1 c with c|c;cases c;refine⟨_,ji,λq w=>?_⟩;let⟨s,t,o⟩:=w;exists s,t;rcases o with⟨o,g⟩|⟨W,H,g,u,O,ai,Q,R,L⟩;grind;refine .inr ⟨W,H,g,u,O,b,Q,λa M j=>?_,λa r M Z j e=>?_⟩;let l:a<m.length:=by rw[p];exact(dm.1 j).1
  rw[<-((x a _ M (bw l) j).cells A).1];exact R a _<|bw l;let l:a<m.length:=by rw[p];exact(dm.1 j).1
  let⟨Y,ad⟩:=(x a _ M (bw l) j).cells A;let z:r<m[a].cells.length:=by rw[Y];exact(dm.1 e).1
  let⟨h,ae,ag⟩:=L a r _ _ (bw l)<|bw z;exact⟨h,ae,(ad r _ Z (bw z) e).eZ y h ag⟩;grind
 next ah h clock m G p x _ C=>
  rcases eT.1 c with c|c;cases c;refine⟨_,ji,λq w=>?_⟩;let⟨s,W,K,t,o,g,u⟩:=w;let get:∀(a:Nat) B,G[a]?=some B->∃Z,m[a]?=some Z/\Z.1=B.1/\Z.2.2=B.2.2/\eA ct Z.2.1 B.2.1:=λa B i=>by grind
  refine⟨s,W,K,t,o,⟨by rw[<-p];exact g.len,λa B J i he=>?_,λa B J i he=>?_,λa B J i he=>?_⟩,u⟩;let⟨Z,e,T,_,_⟩:=get a B i;rw[<-T];exact g.key a Z J e he;let⟨Z,e,_,_,X⟩:=get a B i;exact X.eZ y _<|g.val a Z J e he;let⟨Z,e,_,U,_⟩:=get a B i;rw[<-U];exact g.born a Z J e he;grind
def aH.n2{E:Act}{I:World}{S j:aF}(w:aH s R E I S){ct:V->V->Prop}{ad Oq:bd}{u:List (Nat×V)}(t:S.le j)(a:Holds s j ad I)(g:∀Z B,ct Z B->∀l,aE j Z l->aE j B l)(k:uX ct)(z:∀X B,u.lookup X=some B->∃Z,R.h.lookup X=some Z/\eA ct Z B)(i:bW ct ad Oq):aH s ⟨u,Oq⟩ E I j:=by refine⟨⟨a.le,a.G,a.k0,a.k6,a.k7,?_,a.i4,a.kb,?_,?_,?_,?_⟩,?_,λy Z o=>(w.fk y Z o).mono t,w.size,w.defers⟩;intro e p b;let⟨P,c,_⟩:=i.eO (I:=I) g k b;exact a.own e P c;intro e p b;let⟨P,c,q⟩:=i.eO (I:=I) g k b;let⟨m,r,H⟩:=a.eO e P c;simp_all;rw[i.names];exact a.jw;intro e p m W b;let⟨P,c,_⟩:=i.eO (I:=I) g k b;exact a.i9 e P m W c;intro e p C J m D W b c;let⟨P,q,_⟩:=i.eO (I:=I) g k b;let⟨F,r,_⟩:=i.eO (I:=I) g k c;exact a.inj e P C F m D W q r;intro X B A;let⟨Z,o,x⟩:=z X B A;let⟨l,b,c⟩:=w.h X Z o;exact⟨l,b,x.eZ g l<|c.mono t⟩
def Cu(e:aF)(N:Loc)(O:Nat)(c:List V):Prop:=N.a8=none/\c=[]\/∃(W:Nat)(val:Nat->Nat->Value),N.a8=some W/\(∀(a:Nat)(M:V),c[a]?=some M->M.cells.length=O)/\(∀(a b:Nat)(M Z:V),c[a]?=some M->M.cells[b]?=some Z->e.I W (N.base+a*O+b)=some (val a b))/\∀(a b:Nat)(M Z:V),c[a]?=some M->M.cells[b]?=some Z->aE e Z (val a b)
def Cu.mono{S g:aF}(i:S.le g){N:Loc}{O:Nat}{h:List V}(w:Cu S N O h):Cu g N O h:=by rcases w with w|⟨W,val,j,k,l,m⟩;exact .inl w;exact .inr ⟨W,val,j,k,λe a M Z b c=>i.I _ _ _<|l e a M Z b c,λe a M Z b c=>(m e a M Z b c).mono i⟩
def p8.key{a:aF}{x y O:Nat}{N:Loc}(q:a.m x=some N)(u:N.al=y)(E:N.s=O)(l:Cu a N O j):∀Z B,p8 x y O j Z B->∀e,aE a Z e->aE a B e:=by
 intro Z B D e t;cases D
 next c len L=>
  cases t with
  |a7 _ _ _ _ I e b F A w=>
   rw[q] at b;cases b;rcases w u.symm with⟨_,rfl,rfl⟩|⟨W,P,cap,k,rfl,Q,C,K⟩;simpa using aE.slnil O;let hlen:((j.drop c).take len).length=len:=aK;rcases l with⟨av,_⟩|⟨z,val,h,o,i,r⟩;simp_all;let M:∀base,len=0\/base=N.base+c*O->aE a (.f O<|(j.drop c).take len) (.slice (some ⟨W,base,none⟩) ((j.drop c).take len).length cap):=by intro base J;refine .f O _ W _ cap (λH g=>val (c+H) g) v C ?_ ?_ ?_;grind;grind;grind
   grind
 next G g p=>cases t with|own _ _ _ _ I e b F A w=>rw[q] at b;cases b;obtain⟨W,k,rfl⟩:=w u.symm;rcases l with⟨av,_⟩|⟨z,val,h,o,i,r⟩;simp_all;rw[k] at h;cases h;rw[E];exact .ref O _ G g W _ val o i r
end
section
variable{T:Program}{s:a2}
def x0(P:Oper):List Nat:=P.op.operands.toList.filterMap λ|.tmp X=>some X|_=>none
def cR(P:Oper)(a:List (Nat×V)):List (Nat×V):=(x0 P).filterMap λX=>(a.lookup X).map λZ=>(X,Z)
def Eu{P:Oper}{a:List (Nat×V)}{X:Nat}{Z:V}(w:(cR P a).lookup X=some Z):X∈x0 P/\a.lookup X=some Z:=by
 unfold cR at w;generalize x0 P=b at w⊢
 induction b
 trivial
 next aP D e=>
  cases c:a.lookup aP;simp_all
  next B=>grind
inductive Reach(ops:Array Oper):Nat->Nat->Prop|agM (H:Nat) (P:Oper) (J:Edge) (as9:ops[H]?=some P) (he:J∈P.after.toList) (a0:Region.binds .any J):Reach ops H J.on|trans {H bJ F:Nat}:Reach ops H bJ->Reach ops bJ F->Reach ops H F
def q5(ops:Array Oper)(o:Nat->Bool):Prop:=∀a P,o a->ops[a]?=some P->∀J∈P.after.toList,Region.binds .any J->o J.on
def q5.reach{ops:Array Oper}{o:Nat->Bool}(w:q5 ops o){a b:Nat}(h:Reach ops a b)(e:o a):o b:=by
 induction h
 next a P J g he c=>exact w a P e g J he c
 next _ _ i j=>simp_all
def looks(ops:Array Oper)(P:Oper):List Nat:=x0 P++(match P.guard with|some (y,_)=>((ops[y]?).bind (·.dst)).toList|none=>[])
def Am(ops:Array Oper):Prop:=∀b c a e X,ops[b]?=some a->ops[c]?=some e->c<b->e.dst=some X/\(X∈looks ops a\/a.dst=some X)\/a.dst=some X/\X∈looks ops e->Reach ops b c
def Down(ops:Array Oper):Prop:=∀a P,ops[a]?=some P->∀J∈P.after.toList,Region.binds .any J->J.on<a
def agz{Y:Nat}{N:List Oper}(w:mD Y N){b:Nat}{P:Oper}(a:N[b]?=some P)(X:Nat)(aU:P.dst=some X):X<Y:=by have:=kM.1 w P<|dh a;simp_all
def f_(b:Array Bool):Nat->Bool:=λa=>b.getD a false
def NS(b:Array Bool){H:Nat}(c:H<b.size)a:f_ (b.setIfInBounds H true) a=if a=H then true else f_ b a:=by simp[f_,x8];grind
def m2(Y:Nat)(b:Array Bool):List Nat:=(List.range Y).filter λa=>!f_ b a
def zw:List Oper->List (List Nat)->List (List Nat)|[],a=>a|P::N,a=>zw N<|a++[(P.after.toList.filter<|Region.binds .any).flatMap λJ=>J.on::a.getD J.on []]
def pK(N:List Oper):Bool:=let g:=zw N []
 N.zipIdx.all λ(a,b)=>(a.after.toList.all λJ=>!Region.binds .any J||J.on<b)&&
  (N.take b).zipIdx.all λ(c,e)=>(match c.dst with|some X=>!((looks N.toArray a).contains X||a.dst==some X)|none=>true)&&(match a.dst with|some X=>!(looks N.toArray c).contains X|none=>true)||(g.getD b []).contains e
def Ja{ops:Array Oper}:∀N e,(∀a P,N[a]?=some P->ops[e.length+a]?=some P)->(∀c a,a∈e.getD c []->Reach ops c a)->∀c a,a∈(zw N e).getD c []->Reach ops c a
|[],e,_,w=>w|P::N,e,g,w=>by
 refine Ja N _ (λa k l=>?_) λc a b=>?_;have:=g (a+1) k bB;grind;rw[cg,lK] at b;split at b;simp_all;have p:c=e.length:=by rcases gh e.length c with h|h;grind;omega
 subst p;simp only[ms,Ko,te,Ql,j1] at b;let⟨J,⟨he,i⟩,b⟩:=b;have:=g 0 P rfl;have j:Reach ops _ _:=.agM _ P J v he i;rcases eT.1 b with rfl|b;omega;exact j.trans<|w _ _ b
def HY{N:List Oper}(w:pK N):Am N.toArray/\Down N.toArray:=by
 let s:=Ja (ops:=N.toArray) N [] (λg P m=>b) af;let j:=kM.1 w;constructor;intro e g o q X p m x a;let l:N[e]?=some o:=by simpa using p
 let u:N[g]?=some q:=by simpa using m
 let r:(o,e)∈N.zipIdx:=by rw[List.mem_zipIdx_iff_getElem?];exact l
 let h:=j _ r;simp only[jD] at h;let c:=kM.1 h.2 (q,g) (by grind);simp[m5,jD] at c;rcases c with⟨c,k⟩|c;exfalso;rcases a with⟨i,a⟩|⟨i,a⟩;rw[i] at c;rcases a with a|a;simp[a] at c;simp[a] at c;rw[i] at k;simp[a] at k;exact s e g (by simpa using c);intro e P p J he t;let l:N[e]?=some P:=by simpa using p
 let h:=j (P,e) aM;grind
end
abbrev qd:=List<|Nat×Nat×bM
def eI:bd->qd->bd|ad,[]=>ad|ad,a::aH=>eI (ad.set a.1 a.2) aH
theorem zP:∀aH ad,(eI ad aH).length=ad.length|[],_=>ax|a::aH,ad=>by rw[eI,zP aH];simp
theorem zO{F:Nat}:∀{aH:qd}{ad:bd},F∉aH.map (·.1)->(eI ad aH)[F]?=ad[F]?|[],_,_=>ax|c::aH,ad,w=>by rw[eI,zO λa=>w b,oA,aa λJ=>w (by simp[J])]
theorem JZ{F:Nat}:∀{aH:qd}{ad a:bd},ad[F]?=a[F]?->ad.length=a.length->(eI ad aH)[F]?=(eI a aH)[F]?|[],_,_,w,_=>bB|e::aH,ad,a,w,c=>by rw[eI,eI];refine JZ ?_ b;grind
def E6:∀{aH:qd}{ad:bd}{F:Nat}{Z:Nat×bM},(eI ad aH)[F]?=some Z->F∉aH.map (·.1)/\ad[F]?=some Z\/(F,Z)∈aH|[],ad,F,Z,w=>.inl ⟨af,bB⟩|c::aH,ad,F,Z,w=>by rw[eI] at w;rcases E6 w with⟨a,b⟩|a;grind;simp_all
section
variable{T:Program}{s:a2}
def Holds.sub{S:aF}{l h:bd}{I:World}(w:Holds s S l I)(e:∀o∈h,o∈l)(av:(h.map (·.1)).Nodup):Holds s S h I:=⟨w.le,w.G,w.k0,w.k6,w.k7,λb c a=>w.own b c<|e _ a,w.i4,w.kb,λb c a=>w.eO b c<|e _ a,av,λb c g W a=>w.i9 b c g W<|e _ a,λb c j m g k W a i=>w.inj b c j m g k W (e _ a)<|e _ i⟩
def dP.C{P:Oper}{z:List (Nat×V)}{D:V}{l:bd}(m:qd)(b:List (Nat×(Nat×bM)×Nat×bM))(ai:(m.map (·.1)++b.map (·.1)).Nodup)(aj:∀a∈m,l[a.1]?=some a.2)(G:∀a∈b,l[a.1]?=some a.2.1)(ad:∀a∈b,a.2.2.1=a.2.1.1)(w:∀j,dP T s P ⟨z,j++(m.map (·.2)++b.map (·.2.1))⟩ D (j++(m.map (·.2)++b.map (·.2.2)))):dP T s P ⟨z,l⟩ D (eI l (b.map λa=>(a.1,a.2.2))):=by
 intro E I S p K L R;have av:=p.ci.jw;let i:=m.map (·.2)++b.map (·.2.1);let j:=l.filter λc=>!(i.map (·.1)).contains c.1;have A:∀c∈i,∃F∈m.map (·.1)++b.map (·.1),l[F]?=some c:=by intro c aR;rcases ee.1 aR with aR|aR;grind;obtain⟨a,e,rfl⟩:=b4.1 aR;exact⟨a.1,ee.2<|.inr<|b4.2 ⟨a,e,rfl⟩,G a e⟩
 have O:(i.map (·.1)).Nodup:=by
  have ao:∀(o:List (Nat×Nat×bM)),(o.map (·.1)).Nodup->(∀a∈o,l[a.1]?=some a.2)->((o.map (·.2)).map (·.1)).Nodup:=by
   intro o
   induction o
   simp
   next a o an=>intro h1 g;simp only[gU,s9] at h1⊢;refine⟨λX=>?_,an h1.2 λZ x=>g Z (by simp[x])⟩;let⟨B,r,y⟩:=b4.1 X;obtain⟨k,ap,rfl⟩:=b4.1 r;have:=zp av (g k (by simp[ap])) (g a af) y;grind
  have:=ao (m++b.map λa=>(a.1,a.2.1)) (by simpa[cD,ez,ig] using ai) (by grind);simpa[i,cD,ez,ig] using this
 have al:(j.map (·.1)).Nodup:=av.sublist<|List.filter_sublist.map _;have W:((j++i).map (·.1)).Nodup:=by rw[cD,pm];refine⟨al,O,λZ x B r J=>?_⟩;obtain⟨c,aR,rfl⟩:=b4.1 x;have:=(j1.1 aR).2;rw[J] at this;simp only[Fm,List.contains_eq_mem,r3] at this;exact this r
 have ah:∀c∈j++i,c∈l:=by intro c aR;rcases ee.1 aR with aR|aR;exact(j1.1 aR).1;let⟨F,_,q⟩:=A c aR;exact dh q
 have U:aH s ⟨z,j++i⟩ E I S:=⟨p.ci.sub ah W,p.h,p.fk,p.size,p.defers⟩;refine w j E I S U K L λaq aT H Q ak Y=>R aq aT H Q ak<|Y.sub ?_ ?_;intro c aR;let⟨F,q⟩:=lg.1 aR;rcases E6 q with⟨h1,g⟩|h1;by_cases ae:c.1∈i.map (·.1);let⟨B,r,y⟩:=b4.1 ae;let⟨aw,sx,u⟩:=A B r;have ag:=zp av u g y;subst ag;have am:B=c:=by rw[u] at g;exact lN g
 subst am;rcases ee.1 sx with sx|sx;refine ee.2<|.inr<|ee.2<|.inl ?_;obtain⟨a,e,rfl⟩:=b4.1 sx;have:=aj a e;rw[u] at this;exact b4.2 ⟨a,e,(lN this).symm⟩;exact absurd (by simpa[ez,ig] using sx) h1;grind;let⟨a,e,t⟩:=b4.1 h1;refine ee.2<|.inr<|ee.2<|.inr<|b4.2 ⟨a,e,?_⟩;exact cW Prod.snd t;have:(eI l (b.map λa=>(a.1,a.2.2))).map (·.1)=l.map (·.1):=by
  refine ho λF=>?_;rw[ch,ch];have:=zP (b.map λa=>(a.1,a.2.2)) l;cases q:(eI l<|b.map λa=>(a.1,a.2.2))[F]?;have:=Qh.1 q;rw[s6 v]
  next Z=>rcases E6 q with⟨_,g⟩|h1;rw[g];let⟨a,e,t⟩:=b4.1 h1;have M:a.1=F:=cW Prod.fst t;have N:a.2.2=Z:=cW Prod.snd t;rw[<-M,G a e];simp[<-N,ad a e]
 rw[this];exact av
abbrev hf:=V×qd
abbrev c5:=List Nat×List Nat
def u2(T:Program)(s:a2)(ops:Array Oper)(P:Oper)(a:c5)(R:aw)(M:hf):Prop:=R.guard ops P=some false/\M=(.tuple [],[])\/R.guard ops P=some true/\(∀b∈M.2,b.1∈a.2)/\∀l,l.length=R.l.length->(∀F,F∈a.1\/F∈a.2->l[F]?=R.l[F]?)->dP T s P ⟨cR P R.h,l⟩ M.1 (eI l M.2)
def aw.pU(R:aw)(X:Option Nat)(M:hf):aw:=({R with l:=eI R.l M.2}:aw).put X M.1
def aw.aoa(R:aw)X M:(R.pU X M).h=(R.put X M.1).h:=by cases X<;>rfl
theorem aw.um(R:aw)X M:(R.pU X M).l=eI R.l M.2:=by cases X<;>rfl
theorem H1(R:aw)X M dq:(R.pU (some X) M).h.lookup dq=if dq=X then some M.1 else R.h.lookup dq:=by rw[aw.aoa,H0]
def pt(T:Program)(s:a2)(ops:Array Oper):List Oper->List c5->aw->List hf->Prop|[],[],_,a=>a=[]|P::N,x::aN,R,D::a=>u2 T s ops P x R D/\pt T s ops N aN (R.pU P.dst D) a|_,_,_,_=>False
def bQ:List Oper->List hf->(Nat->Bool)->Nat->aw->aw|P::N,D::b,o,a,R=>bQ N b o (a+1) (if o a then R.pU P.dst D else R)|_,_,_,_,R=>R
def Ej:∀N a(o:Nat->Bool) b R,(bQ N a o b R).l.length=R.l.length|[],_,_,_,_=>rfl|_::_,[],_,_,_=>rfl|P::N,D::a,o,b,R=>by rw[bQ,Ej N a];grind[aw.um,zP]
def O4{F:Nat}:∀N e(o g:Nat->Bool) c R dd,(∀a M,e[a]?=some M->F∈M.2.map (·.1)->a<N.length->o (c+a)=g (c+a))->R.l[F]?=dd.l[F]?->R.l.length=dd.l.length->(bQ N e o c R).l[F]?=(bQ N e g c dd).l[F]?|[],_,_,_,_,_,_,_,w,_=>w|_::_,[],_,_,_,_,_,_,w,_=>w|P::N,D::e,o,g,c,R,dd,w,q,p=>by apply O4 N e o g _ _ _ (λa M k h m=>by have:=w (a+1) M bB h b;grind);by_cases i:F∈D.2.map (·.1);let j:=w 0 D rfl i af;grind[aw.um,JZ];grind[aw.um,zO];grind[aw.um,zP]
def O3{F:Nat}:∀N b(o:Nat->Bool) e R,(∀a M,b[a]?=some M->F∈M.2.map (·.1)->o (e+a)=false)->(bQ N b o e R).l[F]?=R.l[F]?|[],_,_,_,_,_=>rfl|_::_,[],_,_,_,_=>rfl|P::N,D::b,o,e,R,w=>by rw[bQ,O3 N b o _ _ (λa M g c=>by have:=w (a+1) M bB c;grind)];split;rw[aw.um,zO];intro c;have:=w 0 D rfl c;simp_all;rfl
def YS{F:Nat}:∀N b(o g:Nat->Bool) W R dd e M,e<N.length->b[e]?=some M->o (W+e)=false->(∀a,g a=if a=W+e then true else o a)->(∀a c,e<a->b[a]?=some c->F∈M.2.map (·.1)->F∈c.2.map (·.1)->o (W+a)=false)->R.l[F]?=dd.l[F]?->R.l.length=dd.l.length->(bQ N b g W R).l[F]?=(eI (bQ N b o W dd).l M.2)[F]?
|[],_,_,_,_,_,_,_,_,w,_,_,_,_,_,_=>bB|_::_,[],_,_,_,_,_,_,_,_,w,_,_,_,_,_=>bB|P::N,D::b,o,g,W,R,dd,0,M,_,k,hm,p,j,t,hlen=>by
 simp at k;subst k;rw[bQ,bQ,q2] at*;rw[p W,ab rfl,hm];simp[FL,abQ,if_false];by_cases i:F∈D.2.map (·.1);rw[O3 N b g (W+1) _ (λa c m h=>by have:=j (a+1) c v bB i h;grind),aw.um];apply JZ;rw[O3 N b o (W+1) _ (λa c m h=>by have:=j (a+1) c v bB i h;grind)];omega
 (simp[Ej];omega)
 rw[zO i];apply O4 N b _ _ _ _ _ λa c m h s=>p2;grind[aw.um,zO]
 (simp[aw.um,zP];omega)|P::N,D::b,o,g,W,R,dd,e+1,M,q,k,hm,p,j,t,hlen=>by
 rw[bQ,bQ];let r:g W=o W:=by rw[p,aa v]
 rw[r];apply YS N b o g (W+1) _ _ e M (by simpa using q) bB aM (λa=>aM) (λa c s m i h=>by have:=j (a+1) c v bB i h;grind);grind[aw.um,JZ];grind[aw.um,zP]
def YT:∀N e(o:Nat->Bool) c R X,(∀a P,N[a]?=some P->o (c+a)->P.dst≠some X)->(bQ N e o c R).h.lookup X=R.h.lookup X
|[],_,_,_,_,_,_=>rfl|_::_,[],_,_,_,_,_=>rfl|P::N,D::e,o,c,R,X,w=>by
 rw[bQ,YT N e o _ _ X λa i k hm=>w (a+1) i bB aM];split;let g:=w 0 P rfl v;cases j:P.dst;rfl
 next aP=>rw[H1,aa λJ=>g b]
 rfl
def Je:∀N i(o g:Nat->Bool) a R dd X,(∀c P,N[c]?=some P->P.dst=some X->o (a+c)=g (a+c))->R.h.lookup X=dd.h.lookup X->(bQ N i o a R).h.lookup X=(bQ N i g a dd).h.lookup X
|[],_,_,_,_,_,_,_,_,w=>w|_::_,[],_,_,_,_,_,_,_,w=>w|P::N,D::i,o,g,a,R,dd,X,w,q=>by
 apply Je N i o g _ _ _ X (λc k p e=>by have:=w (c+1) k bB e;grind);by_cases e:P.dst=some X;let l:=w 0 P rfl e;grind[H1];let j:∀(W:Bool)(O:aw),(if W then O.pU P.dst D else O).h.lookup X=O.h.lookup X:=by
  intro W O;split;cases m:P.dst;rfl
  next aP=>rw[H1,aa λJ=>e b]
  rfl
 rw[j,j];omega
def YU:∀(N:List Oper) c(o:Nat->Bool) F R(b X:Nat) P D,N[b]?=some P->c[b]?=some D->P.dst=some X->o (F+b)->(∀a e,b<a->N[a]?=some e->e.dst=some X->o (F+a)=false)->(bQ N c o F R).h.lookup X=some D.1
|[],_,_,_,_,_,_,_,_,w,_,_,_,_=>bB|_::_,[],_,_,_,_,_,_,_,_,w,_,_,_=>bB|e::N,p::c,o,F,R,0,X,P,D,j,k,l,hm,i=>by
 simp at j k;rw[bQ,YT N c o _ _ X (λa aP m r g=>by have:=i (a+1) aP v bB g;grind)];simp_all[ab,H1]|e::N,p::c,o,F,R,b+1,X,P,D,j,k,l,hm,i=>by exact YU N c o _ _ b X P D bB bB l aM (λa aP q m g=>by have:=i (a+1) aP v bB g;grind)
def r8(ops:Array Oper)(aN:List c5):Prop:=∀c e(a b:c5) F,e<c->c<ops.size->aN[c]?=some a->aN[e]?=some b->F∈a.2/\(F∈b.1\/F∈b.2)\/F∈b.2/\(F∈a.1\/F∈a.2)->Reach ops c e
def H5(E W:List Nat):Bool:=E.any λZ=>W.contains Z
def qE(N:List Oper)(aN:List c5):Bool:=let g:=zw N []
 aN.zipIdx.all λ(a,c)=>c>=N.length||(aN.take c).zipIdx.all λ(b,e)=>!(H5 a.2 b.1||H5 a.2 b.2||H5 b.2 a.1)||(g.getD c []).contains e
def NC{N:List Oper}{aN:List c5}(w:qE N aN):r8 N.toArray aN:=by
 intro e c g h F q p k l j;let m:=Ja (ops:=N.toArray) N [] (λc P r=>b) λe c w=>bB;let a:=kM.1 w (g,e) (by grind);let o:=by simpa using p
 simp only[m5,uR] at a;rcases a with a|a;omega;let i:=kM.1 a (h,c) (by grind);simp at i;grind[H5,List.any_eq_true]
def bp(T:Program)(s:a2)(ops:Array Oper)(N:List Oper)(aN:List c5)(R:aw)(e:Exit->aw->Prop):Prop:=∃a,pt T s ops N aN R a/\e .normal (bQ N a (λ_=>true) 0 R)
theorem BL:∀N a b c R,bQ N a (λ_=>true) b R=bQ N a (λ_=>true) c R|[],_,_,_,_=>rfl|_::_,[],_,_,_=>rfl|P::N,D::a,b,c,R=>by exact BL N a _ _ _
theorem bp.nil{ops:Array Oper}{R:aw}{e:Exit->aw->Prop}(w:e .normal R):bp T s ops [] [] R e:=⟨[],rfl,w⟩
def bp.lq{ops:Array Oper}{P:Oper}{N:List Oper}{cI:c5}{aN:List c5}{R:aw}{e:Exit->aw->Prop}{D:V}aP(c:R.guard ops P=some true)(i:∀j∈aP,j.1∈cI.2)(g:∀l,l.length=R.l.length->(∀F,F∈cI.1\/F∈cI.2->l[F]?=R.l[F]?)->dP T s P ⟨cR P R.h,l⟩ D (eI l aP))(w:bp T s ops N aN (({R with l:=eI R.l aP}:aw).put P.dst D) e):bp T s ops (P::N) (cI::aN) R e:=by let⟨k,a,b⟩:=w;exact⟨(D,aP)::k,⟨.inr ⟨c,i,g⟩,a⟩,by rw[bQ,BL _ _ _ 0,ab rfl];exact b⟩
def bp.skip{ops:Array Oper}{P:Oper}{N:List Oper}{a:c5}{aN:List c5}{R:aw}{e:Exit->aw->Prop}(c:R.guard ops P=some false)(w:bp T s ops N aN (R.put P.dst (.tuple [])) e):bp T s ops (P::N) (a::aN) R e:=by
 let⟨g,h,b⟩:=w;let he:R.pU P.dst (.tuple [],[])=R.put P.dst (.tuple []):=by cases P.dst<;>rfl
 exact⟨(.tuple [],[])::g,⟨.inl ⟨c,rfl⟩,bB⟩,by rw[bQ,BL _ _ _ 0,ab rfl,he];exact b⟩
end
section
variable{T:Program}{s:a2}
structure Cy(T:Program)(s:a2)(N:List Oper)(aN:List c5)(R:aw)(b9:List hf)(skip:Nat->Bool):Prop where
 len:b9.length<=N.length
 step:∀H P D,N[H]?=some P->b9[H]?=some D->skip H=false->∃x,aN[H]?=some x/\u2 T s N.toArray P x (bQ N b9 (λbJ=>decide (bJ<H)) 0 R) D
 lq:∀(H:Nat)(M:hf),b9[H]?=some M->∀F∈M.2.map (·.1),∃x:c5,aN[H]?=some x/\F∈x.2
def YR{N:List Oper}{aN:List c5}{R:aw}{e:List hf}(W:mD s.n N)(ak:Am N.toArray)(aj:r8 N.toArray aN)(y:∀(a:Nat) M,e[a]?=some M->∀F∈M.2.map (·.1),∃x,aN[a]?=some x/\F∈x.2)(hlen:e.length<=N.length){o i:Nat->Bool}{a:Nat}(p:a<N.length)(ax:o a=false)(A:∀c,i c=if c=a then true else o c)(T:q5 N.toArray o){D:hf}(q:e[a]?=some D){E:Act}{I:World}{S:aF}(O:aH s (bQ N e o 0 R) E I S){G:Value}{aT:World}{j:aF}(L:S.le j)(aq:aE j D.1 G)(m:Holds s j (eI (bQ N e o 0 R).l D.2) aT):aH s (bQ N e i 0 R) (E.put N[a].dst G) aT j:=by
 have z:N[a]?=some N[a]:=bw p;have am:N.toArray[a]?=some N[a]:=by simp[p]
 generalize N[a]=C at*;have t:∀c,Reach N.toArray c a->o c=false:=by intro c ap;cases al:o c;rfl;have:=T.reach ap al;simp_all
 have an:(bQ N e i 0 R).l=eI (bQ N e o 0 R).l D.2:=by
  refine ho λF=>?_;refine YS N e o i 0 R R a D p q aK (λc=>b) (λc H g w ah ai=>?_) rfl rfl;rw[kk];let⟨K,ae,ag⟩:=y c H w F ai;let⟨J,Y,ad⟩:=y a D q F ah;have:c<N.length:=by have:=(dm.1 w).1;omega
  exact t c<|aj c a K J F g v ae Y<|.inl ⟨ag,.inr ad⟩
 rw[<-an] at m;have k:=O.put (P:=(bQ N e i 0 R).l) L m aq<|agz W z;refine⟨m,λX Z r=>k.h X Z ?_,k.fk,k.size,k.defers⟩;cases u:C.dst;rw[<-r];refine Je N e _ _ 0 R R X (λc P g Q=>?_) rfl;grind
 next aP=>rw[H0];by_cases B:X=aP;subst B;rw[ab rfl,<-r];symm;refine YU N e _ 0 R a X C D z q u (by rw[kk,A];simp) λc av g ao U=>?_;rw[kk,A,aa v];exact t c<|ak c a av _ X (by simpa using ao) am g<|.inl ⟨u,.inr U⟩;rw[aa B,<-r];refine Je N e _ _ 0 R R X (λc P g Q=>?_) rfl;grind
def YV{N:List Oper}{aN:List c5}{R:aw}{b9:List hf}(z:Am N.toArray)(y:r8 N.toArray aN)(E:∀(c:Nat) M,b9[c]?=some M->∀F∈M.2.map (·.1),∃x,aN[c]?=some x/\F∈x.2){o B:Nat->Bool}{c:Nat}(G:c<N.length)(H:o c=false)(I:∀a,B a=if a=c then true else o a)(C:q5 N.toArray o)(D:q5 N.toArray B){x:c5}(r:aN[c]?=some x):(∀X∈looks N.toArray N[c],(bQ N b9 o 0 R).h.lookup X=(bQ N b9 (λa=>decide (a<c)) 0 R).h.lookup X)/\∀F,F∈x.1\/F∈x.2->(bQ N b9 o 0 R).l[F]?=(bQ N b9 (λa=>decide (a<c)) 0 R).l[F]?:=by
 let A:N.toArray[c]?=some N[c]:=by simp[G]
 let p:∀a,Reach N.toArray c a->a<c->o a:=by intro a k u;have:=D.reach k b;rw[I,aa v] at this;exact this
 let m:∀a,Reach N.toArray a c->o a=false:=by intro a k;cases J:o a;rfl;have:=C.reach k J;simp_all
 constructor;intro X aU;refine Je N b9 _ _ 0 R R X (λa P u g=>?_) rfl;rw[kk];let j:N.toArray[a]?=some P:=by simpa using u
 rcases Cj a c with e|rfl|i;rw[p a (z c a _ _ X A j e<|.inl ⟨g,.inl aU⟩) e];simp[e];rw[H];simp;rw[m a<|z a c _ _ X j A i<|.inr ⟨g,aU⟩];simp;omega;intro F w;refine O4 N b9 _ _ 0 R R (λa M g K j=>?_) rfl rfl;rw[kk];let⟨q,s,t⟩:=E a M g F K;rcases Cj a c with e|rfl|i;rw[p a (y c a x q F e v r s<|.inr ⟨t,w⟩) e];simp[e];simp_all;rw[m a<|y a c q x F i v s r<|.inl ⟨t,w⟩];simp;omega
def MD{ops:Array Oper}{a:Oper}{O b:aw}{W:Bool}(c:∀X∈looks ops a,b.h.lookup X=O.h.lookup X):O.guard ops a=some W->b.guard ops a=some W:=by grind[aw.guard,looks]
def Zb{N:List Oper}{aN:List c5}{R:aw}{e:List hf}{skip:Nat->Bool}{C:Exit->Act->World->Prop}(M:mD s.n N)(y:Am N.toArray)(w:r8 N.toArray aN)(i:Cy T s N aN R e skip){o m:Nat->Bool}{a:Nat}(k:a<N.length)(P:a<e.length)(Y:skip a=false)(u:o a=false)(A:∀g,m g=if g=a then true else o g)(t:q5 N.toArray o)(L:q5 N.toArray m){E:Act}{I:World}{S:aF}(b:aH s (bQ N e o 0 R) E I S){q:Act->World->Prop}(J:∀r aT c,aH s (bQ N e m 0 R) r aT c->q r aT):wpOp T N.toArray C a q E I:=by
 have B:=bw P;let⟨x,O,ad⟩:=i.step a _ _ (bw k) B Y;have Q:N.toArray[a]?=some N[a]:=af;let⟨z,U⟩:=YV (R:=R) y w i.lq k u A t L O;have W:∀p aT c,S.le c->aE c _ p->Holds s c _ aT->aH s _ _ aT c:=λp aT c F G H=>YR M y w i.lq i.len k u A t B b F G H;generalize e[a]=D at*;generalize N[a]=ag at*;unfold wpOp;rw[Q];dsimp;rcases ad with⟨j,rfl⟩|⟨j,_,nq⟩;rw[aa (by rw[b.wanted<|MD z j];simp)];exact J _ _ S<|W _ I S (aF.le.refl S) (aE.tuple [] [] rfl af) b.ci;rw[ab<|b.wanted<|MD z j];left;have K:aH s ⟨cR ag (bQ N e (λg=>decide (g<a)) 0 R).h,(bQ N e o 0 R).l⟩ E I S:=by refine⟨b.ci,λX Z ae=>?_,b.fk,b.size,b.defers⟩;cases Eu ae;exact b.h X Z (by grind[looks])
 refine nq _ (by simp[Ej]) U E I S K _ _ λp aT c ah aj ai=>?_;grind
def ao1{N:List Oper}{aN:List c5}{R:aw}{b9:List hf}{ag:Exit->Act->World->Prop}(ap:mD s.n N)(K:Am N.toArray){x:c5}(J:r8 N.toArray (aN++[x]))(aD:∀(i:Nat) M,b9[i]?=some M->∀F∈M.2.map (·.1),∃x,aN[i]?=some x/\F∈x.2){o c:Nat->Bool}{P:Oper}(hlen:aN.length=b9.length)(t:b9.length<N.length)(ax:N[b9.length]?=some P)(j:∀a,b9.length<=a->o a=false)(L:∀a,c a=if a=b9.length then true else o a)(G:q5 N.toArray o)(ao:q5 N.toArray c){p:hf->Prop}(ak:∀M,p M->∀A∈M.2,A.1∈x.2)(aq:(bQ N b9 (λ_=>true) 0 R).guard N.toArray P=some true)(az:∀l,l.length=(bQ N b9 (λ_=>true) 0 R).l.length->(∀F,F∈x.1\/F∈x.2->l[F]?=(bQ N b9 (λ_=>true) 0 R).l[F]?)->p7 T s P ⟨cR P (bQ N b9 (λ_=>true) 0 R).h,l⟩ (λD ad=>∃M,p M/\D=M.1/\ad=eI l M.2)){E:Act}{I:World}{S:aF}(e:aH s (bQ N b9 o 0 R) E I S){B:Act->World->Prop}(am:∀M C aT b,p M->aH s (bQ N (b9++[M]) c 0 R) C aT b->B C aT):wpOp T N.toArray ag b9.length B E I:=by
 let Q:N.toArray[b9.length]?=some N[b9.length]:=by simp[t]
 let ay:N[b9.length]=P:=lN<|(bw t).symm.trans ax;let H:∀z,(∀A∈z.2,A.1∈x.2)->∀(i:Nat) M,(b9++[z])[i]?=some M->∀F∈M.2.map (·.1),∃y,(aN++[x])[i]?=some y/\F∈y.2:=λz aC i M g F aG=>by grind
 let short:∀N b9 Z(o:Nat->Bool) W O,(∀a,W+b9.length<=a->o a=false)->bQ N (b9++Z) o W O=bQ N b9 o W O:=by
  intro N
  induction N
  intros;rfl
  next ae N w=>
   intro b9 Z o W O hm;cases b9;let none:∀N Z W O,(∀a,W<=a->o a=false)->bQ N Z o W O=O:=by
    intro N
    induction N
    intros;rfl
    next ae N w=>
     intro Z W O hm;cases Z;rfl
     next D Z=>rw[bQ,hm W<|a1 _,aa af];exact w Z (W+1) O λa k=>hm a v
   grind
   next D b9=>grind[bQ,List.length_cons]
 let ah:∀Z,bQ N (b9++Z) (λa=>decide (a<b9.length)) 0 R=bQ N b9 (λ_=>true) 0 R:=λZ=>by
  rw[short N b9 Z _ 0 R λa k=>aK];let ai:∀N b9(o c:Nat->Bool) W O,(∀a,W<=a->a<W+b9.length->o a=c a)->bQ N b9 o W O=bQ N b9 c W O:=by
   intro N
   induction N
   intros;rfl
   next ae N w=>
    intro b9 o c W O hm;cases b9;rfl
    next D b9=>rw[bQ,bQ,hm W (a1 _) (by rw[kh];omega)];exact w b9 o c (W+1) _ λa q r=>hm a v (by rw[kh];omega)
  exact ai N b9 _ _ 0 R λa _ k=>aK
 let⟨u,U⟩:=YV (b9:=b9++[(.tuple [],[])]) (R:=R) K J (H _ af) t (j _<|a1 _) L G ao (x:=x) (by rw[<-hlen,s5<|a1 _,ms];rfl);rw[ah,short N b9 _ o 0 R λa k=>j a v] at u U;let Y:∀M,p M->∀m aT b,S.le b->aE b M.1 m->Holds s b (eI (bQ N b9 o 0 R).l M.2) aT->aH s (bQ N (b9++[M]) c 0 R) (E.put N[b9.length].dst m) aT b:=λM g m aT b q r aj=>
  YR ap K J (H M<|ak M g) (by rw[c_,pk];omega) t (j _<|a1 _) L G (D:=M) (by rw[s5<|a1 _,ms];rfl) (by rw[short N b9 _ o 0 R λa k=>j a v];exact e) q r (by rw[short N b9 _ o 0 R λa k=>j a v];exact aj)
 rw[ay] at Q u Y;unfold wpOp;rw[Q];dsimp;rw[ab<|e.wanted<|MD u aq];left;let an:aH s ⟨cR P (bQ N b9 (λ_=>true) 0 R).h,(bQ N b9 o 0 R).l⟩ E I S:=by refine⟨e.ci,λX Z aB=>?_,e.fk,e.size,e.defers⟩;let⟨q,r⟩:=Eu aB;exact e.h X Z (by rw[u X (by simp[looks,q])];exact r)
 refine az (bQ N b9 o 0 R).l (by rw[Ej,Ej]) U E I S an _ _ λD ad m aT b g al aA av=>?_;obtain⟨M,g,rfl,rfl⟩:=g;exact am M _ _ b g<|Y M g m aT b al aA av
inductive lR(T:Program)(s:a2)(N:List Oper)(R:aw)(e:aw->Prop):List hf->List c5->Prop|leaf {b9:List hf} {aN:List c5}:b9.length=N.length->r8 N.toArray aN->e (bQ N b9 (λ_=>true) 0 R)->lR T s N R e b9 aN|step {b9:List hf} {aN:List c5} {P:Oper} {x:c5} {D:hf}:N[b9.length]?=some P->u2 T s N.toArray P x (bQ N b9 (λ_=>true) 0 R) D->lR T s N R e (b9++[D]) (aN++[x])->lR T s N R e b9 aN|many {b9:List hf} {aN:List c5} {P:Oper} {x:c5} {q6:hf->Prop}:N[b9.length]?=some P->r8 N.toArray (aN++[x])->(∀bJ,b9.length<bJ->bJ<N.length->Reach N.toArray bJ b9.length)->(∀M,q6 M->∀A∈M.2,A.1∈x.2)->(bQ N b9 (λ_=>true) 0 R).guard N.toArray P=some true->(∀l,l.length=(bQ N b9 (λ_=>true) 0 R).l.length->(∀F,F∈x.1\/F∈x.2->l[F]?=(bQ N b9 (λ_=>true) 0 R).l[F]?)->p7 T s P ⟨cR P (bQ N b9 (λ_=>true) 0 R).h,l⟩ (λD ad=>∃M,q6 M/\D=M.1/\ad=eI l M.2))->(∀M,q6 M->lR T s N R e (b9++[M]) (aN++[x]))->lR T s N R e b9 aN
def Rz{N:List Oper}(C:Down N.toArray){k:Exit->Act->World->Prop}{h:Nat}{a:Array Bool}{E:Act}{I:World}(X:a.size=N.length)(B:(m2 N.length a).length=h+1)(x:∀c<N.length,f_ a c=false->(∀b,f_ (a.setIfInBounds c true) b=if b=c then true else f_ a b)->(q5 N.toArray (f_ a)->q5 N.toArray (f_ (a.setIfInBounds c true)))->(m2 N.length (a.setIfInBounds c true)).length=h->wpOp T N.toArray k c (wpAny T .any N.toArray k h (a.setIfInBounds c true)) E I):wpAny T .any N.toArray k (h+1) a E I:=by
 refine⟨λR=>?_,λc p=>?_⟩;exfalso;let F:∃b<N.length,f_ a b=false:=by
  cases G:m2 N.length a;simp_all
  next Z ag=>
   have:Z∈m2 N.length a:=by rw[G];simp
   grind[m2]
 let⟨b,g,i⟩:=F;let ae:∀Y b,b<Y->b<N.length->f_ a b=false->False:=by
  intro Y
  induction Y
  omega
  next Y ad=>
   intro b U g i;let u:b∉Region.ready .any N.toArray a:=by rw[R];simp
   rw[Region.ready,j1] at u;apply u;exists by simp_all
   let z:b<a.size:=v;let L:a.getD b true=false:=by simp[f_,x8] at i⊢;simp[z] at i⊢;exact i
   rw[L];simp only[Bool.not_false,s2];let j:N.toArray[b]?=some N[b]:=by simp[g]
   rw[j];simp only[iP,te,abD];intro q w;by_cases e:Region.binds .any (N[b]).after[q];rw[e];simp only[Bool.not_true,P6];let W:=C b _ j _ (abI w) e;grind[f_];simp_all
 grind;rw[Region.ready,j1] at p;let⟨H,l⟩:=p;let r:c<N.length:=by simpa using H
 let t:c<a.size:=v;let j:N.toArray[c]?=some N[c]:=by simp[r]
 rw[j] at l;simp[iP,te,jD,Fm,abD] at l;let⟨o,D⟩:=l;let s:f_ a c=false:=by simp[f_,x8] at o⊢;simp[t] at o⊢;exact o
 let S:∀J∈(N[c]).after.toList,Region.binds .any J->f_ a J.on:=by intro J he e;obtain⟨q,w,rfl⟩:=kj.1 he;have:=D q v;simp[abJ] at e⊢;rw[e] at this;simpa[f_] using this
 let m:=NS a t;refine x c r s m (λA=>?_) ?_;intro b P g Q J he e;rw[m] at g⊢;split at g;simp_all;split;rfl;exact A b P g Q J he e;let y:m2 N.length (a.setIfInBounds c true)=(m2 N.length a).filter λb=>b !=c:=by rw[m2,m2,List.filter_filter];apply Qe;intro b _;rw[m];by_cases K:b=c<;>simp[K]
 rw[y];let O:(m2 N.length a).Nodup:=List.nodup_range.filter _;let M:c∈m2 N.length a:=by rw[m2,j1];exact⟨v,by simp[s]⟩
 rw[<-O.erase_eq_filter,List.length_erase_of_mem M,B];omega
def Xq{N:List Oper}{c:Array Bool}(i:c.size=N.length)(e:(m2 N.length c).length=0):(∀a<N.length,f_ c a)/\Region.ready .any N.toArray c=[]:=by
 let g:∀a<N.length,f_ c a:=by intro a h;have:=lJ e;rw[m2,List.filter_eq_nil_iff] at this;have:=this a b;simpa using this
 grind[Region.ready,List.filter_eq_nil_iff,f_,Array.getD_eq_getD_getElem?]
theorem Jf{o:Nat->Bool}:∀N Z W O,(∀a,W<=a->o a=false)->bQ N Z o W O=O|[],_,_,_,_=>rfl|_::_,[],_,_,_=>rfl|c::N,D::Z,W,O,hm=>by rw[bQ,hm W<|a1 _,aa af];exact Jf N Z _ O λa b=>hm a v
theorem Jg{o:Nat->Bool}:∀N a Z W O,(∀b,W+a.length<=b->o b=false)->bQ N (a++Z) o W O=bQ N a o W O|[],_,_,_,_,_=>rfl|c::N,[],Z,W,O,hm=>by grind[Jf]|c::N,D::a,Z,W,O,hm=>by exact Jg N a Z _ _ λb e=>hm b aK
theorem O5:∀N b(o c:Nat->Bool) W O,(∀a,W<=a->a<W+b.length->o a=c a)->bQ N b o W O=bQ N b c W O|[],_,_,_,_,_,_=>rfl|_::_,[],_,_,_,_,_=>rfl|h::N,D::b,o,c,W,O,hm=>by rw[bQ,bQ,hm W (a1 _) af];exact O5 N b o c _ _ λa e g=>hm a v aK
theorem aob N a Z R:bQ N (a++Z) (λb=>decide (b<a.length)) 0 R=bQ N a (λ_=>true) 0 R:=by grind[Jg,O5]
def Uw{c:Type}{b:List c}{Z B:c}{a:Nat}:(b++[Z])[a]?=some B->a<b.length/\b[a]?=some B\/a=b.length/\B=Z:=by grind
theorem aqx{b:Type}a(Z:b):(a++[Z])[a.length]?=some Z:=af
def JI{a:Type}{c:List a}{Z:a}{b:Nat}{B:a}:c[b]?=some B->(c++[Z])[b]?=some B:=by grind
def Cy.snoc{N:List Oper}{aN:List c5}{R:aw}{a:List hf}{skip h:Nat->Bool}(w:Cy T s N aN R a skip)(u:aN.length=a.length)(z:a.length<N.length){x:c5}{D:hf}(o:∀b≠a.length,h b=false->skip b=false)(A:∀q∈D.2,q.1∈x.2)(B:h a.length=false->∀P,N[a.length]?=some P->u2 T s N.toArray P x (bQ N a (λ_=>true) 0 R) D):Cy T s N (aN++[x]) R (a++[D]) h:=by refine⟨aK,λb P r l m p=>?_,λb M j F k=>?_⟩;rcases Uw m with⟨e,c⟩|⟨e,c⟩;let⟨y,g,i⟩:=w.step b P r l c<|o b v p;exists y,JI g;rw[Jg N a [D] 0 R λC t=>aK];exact i;grind[aqx,aob];rcases Uw j with⟨e,c⟩|⟨e,c⟩;let⟨y,g,i⟩:=w.lq b M c F k;exists y,JI g;grind
def u2.lq{ops:Array Oper}{P:Oper}{x:c5}{R:aw}{D:hf}(w:u2 T s ops P x R D):∀a∈D.2,a.1∈x.2:=by rcases w with⟨_,rfl⟩|⟨_,w,_⟩;simp;omega
def r8.pre{ops:Array Oper}{aN:List c5}{x:c5}(w:r8 ops (aN++[x])):r8 ops aN:=λi j a b F h p e g c=>w i j a b F h p (JI e) (JI g) c
def lR.any{N:List Oper}{R:aw}{e:Exit->aw->Prop}(J:mD s.n N)(K:Am N.toArray)(W:Down N.toArray){h:List hf}{aN:List c5}(w:lR T s N R (e .normal) h aN):aN.length=h.length->∀i(listed:Array Bool) E I S,listed.size=N.length->(m2 N.length listed).length=i->q5 N.toArray (f_ listed)->(∀a,h.length<=a->f_ listed a=false)->Cy T s N aN R h (f_ listed)->aH s (bQ N h (f_ listed) 0 R) E I S->wpAny T .any N.toArray (F1 s e) i listed E I:=by
 induction w
 next h aN hlen ah ai=>
  intro A i
  induction i
  intro listed E I S m k b _ _ q;let⟨am,aj⟩:=Xq m k;exists aj,_,S,ai;grind[O5,f_]
  next i C=>intro listed E I S m k b p c q;refine Rz W m k λH G z j o F=>?_;refine Zb J K ah c G v z z j b (o b) q λu aT t y=>C _ u aT t aK F (o b) (λa r=>?_) ⟨c.len,λa P D l L g=>c.step a P D l L ?_,c.lq⟩ y;rw[j,aa v];exact p a r;simp_all
 next h aN P x D l ad _ C=>intro A i listed E I S m k b p c q;let B:h.length<N.length:=(dm.1 l).1;refine C aK i listed E I S m k b (λa r=>p a (by rw[c_] at r;omega)) (c.snoc A B (λ_ _ w=>w) ad.lq λ_ an Y=>?_) ?_;rw[l] at Y;cases Y;exact ad;grind[Jg]
 next h aN P x al l X ae Q ag nq _ C=>
  intro A i;let B:h.length<N.length:=(dm.1 l).1
  induction i
  intro listed E I S m k b p _ q;have:=(Xq m k).1 h.length B;simp_all
  next i ak=>
   intro listed E I S m k b p c q;refine Rz W m k λH G z j o F=>?_;let Z:∀a,f_ (listed.setIfInBounds H true) a=false->f_ listed a=false:=λa g=>by rw[j] at g;split at g;cases g;exact g
   rcases Cj H h.length with w|w|w;refine Zb J K X.pre c G w z z j b (o b) q λu aT t y=>ak _ u aT t aK F (o b) (λa r=>?_) ⟨c.len,λa P D l L g=>c.step a P D l L<|Z a g,c.lq⟩ y;rw[j,aa v];exact p a r;subst w;refine ao1 J K X c.lq A B l p j b (o b) Q ag nq q λM u aT t U y=>C M U aK i _ u aT t aK F (o b) (λa r=>?_) (c.snoc A B (λa _ g=>Z a g) (Q M U) λg=>?_) y;grind;rw[j,ab rfl] at g;cases g;exfalso;let O:=(o b).reach (ae H w G) (by rw[j,ab rfl]);rw[j,aa v,p _<|a1 _] at O;cases O
theorem dE.Zc{id:Nat}{N:List Oper}{R:aw}{e:Exit->aw->Prop}(k:T.follows .mixedOrders)(j:mD s.n N)(c:pK N)(w:lR T s N R (e .normal) [] []):dE T s (.region id N.toArray true) R e:=by
 intro E I S b;apply wp_region_any k;have g:∀a,f_ (Array.replicate N.toArray.size false) a=false:=by intro a;simp[f_,x8,abH];split<;>rfl
 refine w.any j (HY c).1 (HY c).2 rfl _ _ E _ S af ?_ ?_ (λa _=>g a) ⟨c1 _,λi P D _ w=>bB,λi M w=>bB⟩ ?_;grind[m2,Array.replicate,List.range,List.filter_eq_self];intro i P p;simp_all;rw[Jf _ _ _ _ λa _=>g a];exact⟨b.ci.grown ⟨rfl,rfl,rfl,a1 _,λ_ _ _=>rfl⟩,b.h,b.fk,b.size,b.defers⟩
theorem Jh{P:Oper}{D:hf}:∀{N:List Oper}{a:List hf}{W:Nat}{R:aw},N[a.length]?=some P->bQ N (a++[D]) (λ_=>true) W R=(bQ N a (λ_=>true) W R).pU P.dst D|[],_,_,_,w=>bB|b::N,[],W,R,w=>by simp at w;subst w;show bQ N [] _ _ _=(bQ _ [] _ W R).pU _ D;cases N<;>rfl|b::N,Z::a,W,R,w=>by rw[wm,bQ,bQ];exact Jh bB
theorem lR.run{N:List Oper}{R:aw}{e:aw->Prop}:∀{ru hr:List Oper}{a mf:List hf}{aN y8:List c5}{bj:List Oper},N=bj++(ru++hr)->bj.length=a.length->y8.length=ru.length->pt T s N.toArray ru y8 (bQ N a (λ_=>true) 0 R) mf->(mf.length=ru.length->lR T s N R e (a++mf) (aN++y8))->lR T s N R e a aN
|[],hr,a,mf,aN,[],bj,_,_,_,b,w=>by have:mf=[]:=b;simp_all|[],hr,a,mf,aN,x::y8,bj,_,_,c,_,w=>bB|P::ru,hr,a,[],aN,[],bj,_,_,_,b,_=>b.elim|P::ru,hr,a,[],aN,_::_,bj,_,_,_,b,_=>b.elim|P::ru,hr,a,_::_,aN,[],bj,_,_,_,b,_=>b.elim|P::ru,hr,a,D::mf,aN,x::y8,bj,g,h,c,b,w=>by
 let i:N[a.length]?=some P:=by rw[g,s5 v,<-h,ms];rfl
 refine lR.step i b.1<|lR.run (ru:=ru) (hr:=hr) (bj:=bj++[P]) (by rw[g];simp) (by simp[h]) (by simpa using c) (by rw[Jh i];exact b.2) λj=>?_;have:=w (by simp[j]);simpa using this
theorem pt.bQ{ops:Array Oper}{N:List Oper}:∀{e hr bj:List Oper}{b9 g:List hf}{h:List c5}{R c:aw},N=bj++(e++hr)->bj.length=b9.length->pt T s ops e h c g->c=ey.bQ N b9 (λ_=>true) 0 R->ey.bQ N (b9++g) (λ_=>true) 0 R=ey.bQ e g (λ_=>true) 0 c|[],hr,bj,b9,g,[],R,c,_,_,a,w=>by have:g=[]:=a;rw[this,gf,w];rfl|P::e,hr,bj,b9,[],[],R,c,_,_,a,_=>a.elim|P::e,hr,bj,b9,[],_::_,R,c,_,_,a,_=>a.elim|P::e,hr,bj,b9,_::_,[],R,c,_,_,a,_=>a.elim|P::e,hr,bj,b9,D::g,x::h,R,c,i,j,a,w=>by have:=pt.bQ (N:=N) (hr:=hr) (bj:=bj++[P]) (b9:=b9++[D]) (R:=R) b b a.2 (by grind[Jh]);rw[ge,List.singleton_append] at this;rw[this,ey.bQ,ab rfl];grind[BL]
def pt.len{ops:Array Oper}:∀{N:List Oper}{aN:List c5}{R:aw}{a:List hf},pt T s ops N aN R a->aN.length=N.length/\a.length=N.length|[],[],_,a,w=>by simp[show a=[] from w]|_::_,_::_,_,_::_,w=>by simp[pt.len w.2]
theorem dE.Ti{id:Nat}{N:List Oper}{aN:List c5}{R:aw}{e:Exit->aw->Prop}(i:T.follows .mixedOrders)(g:mD s.n N)(h:pK N)(c:r8 N.toArray aN)(w:bp T s N.toArray N aN R e):dE T s (.region id N.toArray true) R e:=by let⟨j,a,b⟩:=w;exact dE.Zc i g h<|lR.run (hr:=[]) (bj:=[]) af rfl a.len.1 (by cases N<;>exact a) λw=>.leaf w c b
theorem dE.Th{id:Nat}{N:List Oper}{aN:List c5}{R:aw}{e:Exit->aw->Prop}(g:T.follows .mixedOrders)(b:mD s.n N)(c:pK N)(a:qE N aN)(w:bp T s N.toArray N aN R e):dE T s (.region id N.toArray true) R e:=.Ti g b c (NC a) w
end
def TZ(T:Program)(X:TypeId)(a:Nat):Option (Nat×TypeId×Nat):=match T.underlying X with|some (.struct aN)=>(aN[a]?).map λx=>(x.offset,x.type,T.cellsOf x.type)|_=>none
structure q8(T:Program)(X:TypeId)(bJ off:Nat)(Hl:TypeId)(Y:Nat):Prop where
 h:TZ T X bJ=some (off,Hl,Y)
def q8.get{T:Program}{X:TypeId}{a c:Nat}{b:TypeId}{Y:Nat}(w:q8 T X a c b Y):Y≠0->∃aN x,T.underlying X=some (.struct aN)/\aN[a]?=some x/\x.offset=c/\x.type=b/\∀I,(sizeOf x.type).run T I=.ok Y I:=by
 have w:=w.h;unfold TZ at w;split at w;rename_i aN i;cases g:aN[a]?;simp_all
 next x=>
  simp[g,iP,fc,Cm] at w;have e:=w.2.2;unfold Program.cellsOf at e;cases p:T.info? x.type;simp_all
  next j=>simp_all[sizeOf,typeInfo]
 trivial
structure yn(T:Program)(X:TypeId)(Y:Nat):Prop where
 a:(T.underlying X).map lv=some true
 i:(T.info? X).map (·.size)=some Y
def yn.dO{T:Program}{X:TypeId}{Y:Nat}(w:yn T X Y):∃M W,bG T X M Y W/\lv M:=by
 have e:=w.a;have:=w.i;cases c:T.underlying X;simp_all
 next M=>
  cases p:T.info? X;simp_all
  next g=>simp[c] at e;exists M,g.bytes,⟨c,b⟩
section
variable{T:Program}{s:a2}{P:Oper}{R:aw}
def amT{X h:TypeId}{Z:Operand}{O b a e g Y:Nat}(l:q8 T X e g h Y)(av:Y≠0)(o:P.op=.fieldAddr X Z e)(w:R.val s Z=some (.ref O j b a)):cb T s P R (.ref O j b (a+g)):=.same λE I S k=>by have c:=k.val w;generalize u:E.eval Z=y at c;obtain⟨aN,x,t,m,rfl,rfl,r⟩:=l.get av;cases c with|ref _ _ _ _ W base val q i p=>have:=aE.ref O j b (a+x.offset) W _ val q i p;exists _,this;simp[execOp,o,u,Instr.fieldAt,Instr.sureAddr,run_underlying t,m,fieldPlace,r,av,Addr.add_lit]
def OD{X i:TypeId}{Z:Operand}{a b e c F O g h Y:Nat}{J:TypeId}(o:q8 T X g h i Y)(av:Y≠0)(t:P.op=.fieldAddr X Z g)(B:R.val s Z=some (.own a b e c))(q:R.l[F]?=some (a,.n b O J j)):cb T s P R (.own a b e (c+h)):=.same λE I S k=>by let⟨N,W,r,u,m,w,A⟩:=k.own B q;obtain⟨aN,x,z,p,rfl,rfl,y⟩:=o.get av;exists .pointer _,.own _ _ _ _ N _ r (by rw[u.1];omega) rfl λ_=>⟨W,m,by rw[w]⟩;simp[execOp,t,A,Instr.fieldAt,Instr.sureAddr,run_underlying z,p,fieldPlace,y,av,Addr.add_lit]
def X_{X:TypeId}{M:TypeDesc}{K bs:Nat}{Z:Operand}{O b a:Nat}{J D:V}(aU:bG T X M K bs)(e:lv M=false)(h:P.op=.load X Z)(i:R.val s Z=some (.ref O j b a))(g:j[b]?=some J)(c:J.cells[a]?=some D):cb T s P R D:=YO aU e h i g c
def OE{X:TypeId}{Y:Nat}{Z:Operand}{e h g b F O:Nat}{J:TypeId}{c:V}{a:List V}(aU:yn T X Y):P.op=.load X Z->R.val s Z=some (.own e h g b)->R.l[F]?=some (e,.n h O J j)->j[g]?=some c->(c.cells.drop b).take Y=a->a.length=Y->cb T s P R (.agg a):=by cases aU.dO;grind[an3]
def amR{X a:TypeId}{M:TypeDesc}{K bs:Nat}{Z:Operand}{g h Y:Nat}{D:V}(m:q8 T X g h a Y)(av:Y≠0)(aU:bG T a M K bs)(l:lv M=false)(q:P.op=.field X Z g)(w:R.val s Z=some (.agg j))(c:j[h]?=some D):cb T s P R D:=.same λE I S k=>by
 have b:=k.val w;generalize u:E.eval Z=z at b;obtain⟨aN,x,t,o,rfl,rfl,y⟩:=m.get av;cases b with
 |agg _ i p _ r=>
  have e:x.offset<i.length:=by rw[<-p];exact(dm.1 c).1
  exists i[x.offset],r _ _ _ c<|bw e;simp[execOp,q,u,Instr.field,run_underlying t,o,asAgg,part,aU.pV,l,e]
def amS{X c:TypeId}{Z:Operand}{e g Y:Nat}{N:List V}(k:q8 T X e g c Y)(av:Y≠0)(aU:yn T c Y)(m:P.op=.field X Z e)(t:R.val s Z=some (.agg j))(w:(j.drop g).take Y=N):cb T s P R (.agg N):=.same λE I S i=>by have a:=i.val t;generalize b:E.eval Z=h at a;obtain⟨aN,x,r,l,rfl,rfl,o⟩:=k.get av;let⟨M,W,p,q⟩:=aU.dO;cases a with|agg _ u z a y=>refine⟨.agg ((u.drop x.offset).take Y).toArray,.agg N _ ?_ (λh b=>a h<|Kv<|p0 b) ?_,?_⟩;grind;grind;simp[execOp,m,b,Instr.field,run_underlying r,l,asAgg,part,p.pV,q,o]
def amX{X:TypeId}{K bs:Nat}{Z b:Operand}{N:List UInt8}{F:IntKind}{Y:Int}{a:Nat}{W:UInt8}(aU:bG T X .string K bs)(o:P.op=.index X Z b)(r:R.val s Z=some (.str N))(l:R.val s b=some (.int F Y))(av:Y=(a:Int))(j:N[a]?=some W):cb T s P R (bh W):=.same λE I S g=>by
 have c:=g.val r;have e:=g.val l;generalize q:E.eval Z=t at c;generalize p:E.eval b=aP at e;cases c;cases e;subst av;refine⟨.int .u8 _,.int _ _,?_⟩;have k:(⟨N.toArray⟩:ByteArray)[a]?=some W:=by
  let⟨h,i⟩:=dm.1 j;have m:=by exact h
  rw[getElem?_pos _ a m,<-i];rfl
 simp[execOp,o,q,p,Instr.index,asIntOf,run_underlying aU.u,k]
def ni(s:a2)(R:aw)(W:Option Operand)(a:Nat)(Y:Nat):Prop:=match W with|none=>Y=a|some b=>∃F o,R.val s b=some (.int F o)/\o=(Y:Int)
def xV{I:World}{F:IntKind}{Y B:Nat}{a:BoundsCode}(w:Y<=B):(Instr.sliceBound (.int F Y) B a).run T I=.ok Y I:=by simp[Instr.sliceBound,asIntOf,w]
def EK{I:World}{E:Act}{S:aF}(A:aH s R E I S){W:Bool}{len cap h c:Nat}{b e:Option Operand}(k:ni s R b 0 h)(q:ni s R e len c)(l:h<=c)(m:c<=cap):(Instr.sliceBounds W len cap (b.map E.eval) (e.map E.eval) none).run T I=.ok (h,c,cap) I:=by
 have i:∀a o F Y,R.val s a=some (.int F o)->o=Y->E.eval a=.int F Y:=by intro a o F Y g hm;have p:=A.val g;generalize E.eval a=j at p;cases p;rw[hm]
 have z:(Instr.sliceBounds W len cap (b.map E.eval) (e.map E.eval) none).run T I=((do
   let w<-match e.map E.eval with|some j=>Instr.sliceBound j cap (if W then .sliceAcap else .sliceAlen)|none=>Pure.pure len
   let N<-match b.map E.eval with|some j=>Instr.sliceBound j w .sliceB|none=>Pure.pure 0
   Pure.pure (N,w,cap))).run T I:=by cases e<;>cases b<;>rfl
 rw[z];cases e;subst q;cases b;simp_all[ni]
 next a=>let⟨F,o,g,hm⟩:=k;simp[i a o F h g hm,xV l]
 next y=>
  let⟨u,x,t,r⟩:=q;cases b;subst k;simp[i y x u c t r,xV m]
  next a=>let⟨F,o,g,hm⟩:=k;simp[i a o F h g hm,i y x u c t r,xV l,xV m]
def am4{X:TypeId}{K bs:Nat}{Z:Operand}{h g:Option Operand}{N:List UInt8}{a b:Nat}(aU:bG T X .string K bs)(m:P.op=.slice X Z h g none)(p:R.val s Z=some (.str N))(l:ni s R h 0 a)(k:ni s R g N.length b)(i:a<=b)(j:b<=N.length):cb T s P R (.str ((N.drop a).take (b-a))):=.same λE I S e=>by
 have c:=e.val p;generalize o:E.eval Z=q at c;cases c;exists _,.str _;have he:(⟨N.toArray⟩:ByteArray).extract a b=⟨((N.drop a).take (b-a)).toArray⟩:=by rw[Lib.extract_eq]
 simp[execOp,m,Instr.sliceAt,o,FB,Sem.run_bind,run_underlying aU.u,Result.andThen_ok,Instr.slice];simp[Option.isSome_none,abQ,if_false,Lu,Sem.run_bind,EK (T:=T) e (W:=false) (len:=N.length) (cap:=N.length) l k i j,Result.andThen_ok,Sem.run_pure,he]
def am2{X J:TypeId}{K bs cL O:Nat}{Z:Operand}{t r:Option Operand}{i k q e F:Nat}{w:TypeId}{a b:Nat}(aU:bG T X (.slice J) K bs)(he:fi T J O cL)(D:P.op=.slice X Z t r none)(H:R.val s Z=some (.a7 i k q e))(A:R.l[F]?=some (i,.n k O w j))(B:ni s R t 0 a)(z:ni s R r e b)(x:a<=b)(L:b<=e):cb T s P R (.a7 i k (q+a) (b-a)):=.same λE I S m=>by
 let⟨N,o,g,y⟩:=m.a7 H A;let Y:=g.2.1;let run:∀base cap,E.eval Z=.slice base e cap->e<=cap->(execOp E.eval P).run T I=.ok (.value<|.slice (if cap=a then base else base.map (·.add (a*O))) (b-a)<|cap-a) I:=by intro base cap G Q;let c:=EK (T:=T) m (W:=true) (cap:=cap) B z x v;simp[execOp,D,Instr.sliceAt,G,FB,Sem.run_bind,run_underlying aU.u,Result.andThen_ok,Instr.slice,c,he.io,Sem.run_pure]
 rcases y with⟨c,rfl,h⟩|⟨W,p,cap,c,h,C,U,M⟩;have:a=0/\b=0:=v;obtain⟨rfl,rfl⟩:=this;refine⟨_,.a7 _ _ _ _ N _ o (by rw[g.1];omega) rfl λ_=>.inl ⟨c,rfl,rfl⟩,run _ 0 h<|a1 _⟩;refine⟨_,.a7 _ _ _ _ N _ o (by rw[g.1];omega) ?_ λ_=>.inr ⟨W,if cap=a then p else p+a*O,cap-a,c,?_,v,v,?_⟩,run _ cap h C⟩;rfl;grind[Addr.add_lit];grind
def Ya{c:Fn}{first b:Array Operand}{k:List V}(t:P.op=.makeFunc c first b)(x:mB s R first.toList j)(y:mB s R b.toList k):cb T s P R (.func c j k):=.same λE I S q=>by
 let⟨A,o⟩:=x.get;let⟨B,p⟩:=y.get;refine⟨.func c (first.map E.eval)<|b.map E.eval,?_,by simp[execOp,t,Instr.makeFunc]⟩;let m:∀(e:Array _)(l:List V),(∀(a:Nat) Z,l[a]?=some Z->∃h,e.toList[a]?=some h/\R.val s h=some Z)->∀a Z i,l[a]?=some Z->(e.toList.map E.eval)[a]?=some i->aE S Z i:=by intro e l r a Z i z g;let⟨h,u,w⟩:=r a Z z;rw[ch,u] at g;simp at g;subst g;exact q.val w
 have:=aE.func c j k _ _ (by simp[<-A]) (by simp[<-B]) (m _ _ o)<|m _ _ p;let C:(first.toList.map E.eval).toArray=first.map E.eval:=by apply Fj;simp
 let D:(b.toList.map E.eval).toArray=b.map E.eval:=by apply Fj;simp
 simp_all
def amO{e b:TypeId}{i:TypeDesc}{o g p h:Nat}{F a:IntKind}{Y:Int}{Z:Operand}(l:bG T e i o g)(aU:bG T b (.int a) p h)(k:P.op=.convert e b Z)(m:R.val s Z=some (.int F Y))(q:kZ a Y):cb T s P R (.int a Y):=.same λE I S j=>by have c:=j.val m;generalize r:E.eval Z=t at c;cases c;exists .int a Y,.int _ _;simp[execOp,k,convert,Sem.run_bind,run_underlying l.u,run_underlying aU.u];simp_all[Conv.intToInt,rS]
def amP{e b:TypeId}{i:TypeDesc}{p g q h:Nat}{F a:IntKind}{Y:Int}{Z:Operand}(l:bG T e i p g)(aU:bG T b (.int a) q h)(k:P.op=.convert e b Z)(o:R.val s Z=some (.int F Y)):cb T s P R (.int a (a.wrap Y)):=.same λE I S j=>by have c:=j.val o;generalize m:E.eval Z=r at c;cases c;exists .int a _,.int _ _;simp[execOp,k,m,convert,Sem.run_bind,run_underlying l.u,run_underlying aU.u];rfl
def amQ{c a:TypeId}{m e o g:Nat}{N:List UInt8}{Z:Operand}(j:bG T c .string m e)(aU:bG T a .string o g)(i:P.op=.convert c a Z)(l:R.val s Z=some (.str N)):cb T s P R (.str N):=.same λE I S h=>by have b:=h.val l;generalize k:E.eval Z=p at b;cases b;exists _,.str N;simp[execOp,i,k,convert,run_underlying j.u,run_underlying aU.u]
end
section
open Go.MapKept
def y9{T:Program}{I:World}{D:Nat}{b:Array MapEntry}{a:Nat}:I.heap[D]?=some (.map b a)->(getObj D).run T I=.ok (.map b a) I:=by grind[getObj,Sem.run]
def V.isKey:TypeDesc->V->Bool|.bool,.bool _=>true|.int F,.int a _=>a==F|.string,.str _=>true|_,_=>false
def V.oV:V->V->Bool|.bool E,.bool W=>E==W|.int _ E,.int _ W=>E==W|.str E,.str W=>E==W|_,_=>false
def V.HH{S:aF}{M:TypeDesc}{Z:V}{a:Value}(w:aE S Z a):Z.isKey M->IsKey M a:=by cases M<;>cases w<;>simp_all[V.isKey,IsKey]
def V.VD{S:aF}{M:TypeDesc}{Z B:V}{a aP:Value}(w:aE S Z a)(b:aE S B aP)(c:Z.isKey M)(e:B.isKey M):Instr.sameNow M a aP=some (Z.oV B):=by cases M<;>cases w<;>simp[V.isKey] at c<;>cases b<;>simp[V.isKey] at e;rfl;grind[Instr.sameNow,V.oV];simp[Instr.sameNow,V.oV,fc];rw[m4,bytes_beq];simp
def kC:List (V×V×Nat)->V->Nat->Option (Nat×V)|[],_,_=>none|Z::D,F,a=>if F.oV Z.1 then some (a,Z.2.1) else kC D F (a+1)
def k1(M:TypeDesc)(a:List (V×V×Nat)):Prop:=∀Z∈a,Z.1.isKey M
def T4{S:aF}{M:TypeDesc}{F:V}{g:Value}(j:aE S F g)(k:F.isKey M):∀e N a,e.length=N.length->k1 M e->(∀(c:Nat) Z J,e[c]?=some Z->N[c]?=some J->aE S Z.1 J.key)->kC e F a=none/\Instr.findNow M g N a=some none\/∃c Z J,a<=c/\kC e F a=some (c,Z.2.1)/\Instr.findNow M g N a=some (some (c,J.val))/\e[c-a]?=some Z/\N[c-a]?=some J/\F.oV Z.1
|[],[],a,_,_,_=>.inl ⟨rfl,rfl⟩|[],_::_,_,w,_,_=>bB|_::_,[],_,w,_,_=>bB|Z::D,J::o,a,y,l,m=>by let q:=V.VD j (m 0 Z J rfl rfl) k<|l Z af;cases p:F.oV Z.1 with|true=>exact .inr ⟨a,Z,J,a1 _,by grind[kC],by grind[Instr.findNow],af,af,p⟩|false=>rcases T4 j k D o (a+1) b (λB z=>l B aM) (λc B x h i=>m (c+1) B x bB bB) with⟨h,i⟩|⟨c,B,x,h,i,r,s,t,u⟩;grind[kC,Instr.findNow];grind[kC,Instr.findNow]
def i_(b:List (V×V×Nat))(a:Nat)(F c:V):List (V×V×Nat)×Nat:=match kC b F 0 with|some (e,_)=>(b.modify e λZ=>(F,c,Z.2.2),a)|none=>(b++[(F,c,a)],a+1)
def nu(a:List (V×V×Nat))(F:V):List (V×V×Nat):=match kC a F 0 with|some (b,_)=>a.eraseIdx b|none=>a
def zl(a:List (V×V×Nat))(F:V):Option V:=(kC a F 0).map (·.2)
section
variable{T:Program}{s:a2}{ops:Array Oper}{P:Oper}{N:List Oper}{R:aw}{e:Exit->aw->Prop}
def bS.makeMap{X:TypeId}(g:R.guard ops P=some true)(i:P.op=.makeMap X none)(w:∀b,bS T s ops N (({R with l:=R.l++[(b,.map 0 [] 0)]}:aw).put P.dst (.hF b 0)) e):bS T s ops (P::N) R e:=.lq g λE I S c=>by
 let h:=c.ci.new (ke:=.map 0 [] 0) (ck:=⟨some _,0,0,0,0⟩) (.inr ⟨I.heap.size,rfl,a1 _⟩) (World.grownBy_alloc I _ _)
  ⟨rfl,I.heap.size,#[],rfl,heap_alloc_new I _,⟨rfl,af,af,af⟩,af,af⟩
 exact⟨.map _,_,_,.hF S.n 0,_,(aF.i7 λj a=>by rw[S.fresh _<|a1 _] at a;cases a),.hF _ _ _ _ (S.kJ _ _) (a1 _) rfl λ_=>⟨_,rfl,rfl⟩,h,.inl (by simp[execOp,i,Instr.makeMap]),w S.n⟩
def aH.hF{E:Act}{I:World}{S:aF}(w:aH s R E I S){Z:Operand}{c e F b:Nat}{g:List (V×V×Nat)}(j:R.val s Z=some (.hF c e))(i:R.l[F]?=some (c,.map e g b)):∃N W a,S.m c=some N/\N.al=e/\N.a8=some W/\E.eval Z=.map (some W)/\I.heap[W]?=some (.map a b)/\kl S g a/\(∀J∈a.toList,J.born<b)/\(a.toList.map (·.born)).Nodup:=by let⟨N,p,t,W,a,k,o,q,r⟩:=w.ci.eO _ _<|dh i;let h:=w.val j;cases h with|hF _ _ x y hm u h w=>simp_all
theorem kl.find{S:aF}{M:TypeDesc}{F:V}{h:Value}{c:List (V×V×Nat)}{e:Array MapEntry}(w:kl S c e)(j:aE S F h)(k:F.isKey M)(l:k1 M c):kC c F 0=none/\Instr.findNow M h e.toList 0=some none\/∃(a:Nat)(Z:V×V×Nat)(J:MapEntry),kC c F 0=some (a,Z.2.1)/\Instr.findNow M h e.toList 0=some (some (a,J.val))/\c[a]?=some Z/\e[a]?=some J/\F.oV Z.1:=by rcases T4 j k _ e.toList 0 (by simpa using w.len) l (λa Z J g i=>w.key a Z J g b) with g|⟨a,Z,J,_,g,i,m,o,p⟩;simp_all;grind
def JB{I:World}{W:Nat}{c:Array MapEntry}{b:Nat}{a:Obj}(e:I.heap[W]?=some (.map c b)):(setObj W a).run T I=.ok () {I with heap:=I.heap.setIfInBounds W a}:=run_setObj_map a e
theorem ZS{I:World}{W:Nat}{a:Obj}:I.grownBy {I with heap:=I.heap.setIfInBounds W a} (some W):=⟨rfl,rfl,rfl,af,λc p b=>by grind⟩
def rA(e:Option (Nat×V))(b:List (V×V×Nat))(a:Nat)(F c:V):List (V×V×Nat)×Nat:=match e with|some (g,_)=>(b.modify g λZ=>(F,c,Z.2.2),a)|none=>(b++[(F,c,a)],a+1)
structure r7(T:Program)(er:TypeId)(I:World)(zg:Value)(iB:List (V×V×Nat))(es:Array MapEntry)(fd:Option (Nat×V)):Prop where
 kV:∀em,(Instr.checkKey em 10000 er zg).run T I=.ok () I
 stay:(Instr.keyThatStays zg zg).run T I=.ok zg I
 find:fd=none/\(Instr.findKey er zg es.toList).run T I=.ok none I\/∃(bJ:Nat)(k:V×V×Nat)(J:MapEntry),fd=some (bJ,k.2.1)/\(Instr.findKey er zg es.toList).run T I=.ok (some (bJ,J.val)) I/\iB[bJ]?=some k/\es[bJ]?=some J/\zg=J.key
theorem r7.of{w:TypeId}{M:TypeDesc}{z y:Nat}{I:World}{S:aF}{e:V}{x:Value}{a:List (V×V×Nat)}{l:Array MapEntry}(j:bG T w M z y)(b:e.isKey M)(r:k1 M a)(s:kl S a l)(c:aE S e x):r7 T w I x a l (kC a e 0):=by let q:=V.HH c b;exists λem=>run_checkKey j.u q em _,run_keyThatStays q;rcases s.find c b r with⟨g,h⟩|⟨t,k,J,g,h,i,o,E⟩;exact .inl ⟨g,run_findKey j.u h⟩;exact .inr ⟨t,k,J,g,run_findKey j.u h,i,o,(by let m:=s.key t k J i o;let p:=r k<|dh i;let A:=V.VD c m b p;let⟨D,B,C⟩:=sameNow_of_keys (V.HH c b)<|V.HH m p;simp_all)⟩
def TF{an ak aA:TypeId}{aX ay:Nat}{aq Z B:Operand}{y K F c:Nat}{e:List (V×V×Nat)}{g h:V}{o:Option (Nat×V)}(ag:bG T an (.map ak aA) aX ay)(ah:P.op=.mapUpdate an aq Z B)(aL:R.val s aq=some (.hF y K))(ad:R.l[F]?=some (y,.map K e c))(aV:R.val s Z=some g)(aW:R.val s B=some h)(ax:∀{I S al i},kl S e i->aE S g al->r7 T ak I al e i o):dP T s P R .undef (R.l.set F (y,.map K (rA o e c g h).1 (rA o e c g h).2)):=by
 refine .of λE I S H=>?_;obtain⟨am,W,i,aK,aU,U,aj,z,j,aR,av⟩:=H.hF aL ad;have ai:=H.val aV;have aP:=H.val aW;have G:=@ax I _ _ _ j ai;have Q:∀w C,(rA o e c g h).2=C->kl S (rA o e c g h).1 w->(∀J∈w.toList,J.born<C)->(w.toList.map (·.born)).Nodup->(execOp E.eval P).run T I=.ok .skip {I with heap:=I.heap.setIfInBounds W (.map w C)}->∃O aT M aw ao,S.le M/\aE M aw O/\Holds s M ao aT/\((execOp E.eval P).run T I=.ok (.value O) aT\/O=undef/\(execOp E.eval P).run T I=.ok .skip aT)/\aw=.undef/\ao=R.l.set F (y,.map K (rA o e c g h).1 (rA o e c g h).2):=by intro w C Y aN aS a0 aO;have ae:S.le (S.fo y am):=aF.i7 λa2 D=>b;refine⟨undef,_,S.fo y am,.undef,_,ae,.undef _,H.ci.sY ad aK rfl (a1 _) (λ_=>rfl) (.inl rfl) (by rw[U];exact ZS) ?_,.inr ⟨rfl,aO⟩,rfl,rfl⟩;exists aU,W,w,U,by rw[Y];exact(heap_set z).1,aN.mono ae,by rw[Y];exact aS
 have X:∀a x,(∀J,(x J).born=J.born)->(i.modify a x).toList.map (·.born)=i.toList.map (·.born):=by intro a x aH;apply ho;intro m;simp only[ch,zX,Fl];split;cases i[m]?<;>simp[aH];rfl
 rcases G.find with⟨D,N⟩|⟨m,a3,aY,D,N,aZ,aB,aC⟩;have A:rA o e c g h=(e++[(g,h,c)],c+1):=by simp[rA,D]
 apply Q (i.push {key:=E.eval Z,val:=E.eval B,born:=c}) (c+1) (by rw[A]);rw[A];have get:∀(a:Nat) k J,(e++[(g,h,c)])[a]?=some k->(i.push {key:=E.eval Z,val:=E.eval B,born:=c})[a]?=some J->e[a]?=some k/\i[a]?=some J\/k=(g,h,c)/\J={key:=E.eval Z,val:=E.eval B,born:=c}:=by
  intro a k J ap he;rw[lK] at ap;rw[Array.getElem?_push] at he;split at ap;rename_i p;rw[aa (by rw[<-j.len];omega)] at he;exact .inl ⟨ap,he⟩;have aI:a=e.length:=by have:=(dm.1 ap).1;simp at this;omega
  subst aI;rw[ab j.len] at he;simp_all
 refine⟨by simp[j.len],λa k J ap he=>?_,λa k J ap he=>?_,λa k J ap he=>?_⟩<;>rcases get a k J ap he with⟨q,r⟩|⟨rfl,rfl⟩
 exact j.key a k J q r;omega;exact j.val a k J q r;omega;exact j.born a k J q r;rfl;grind;grind;simp[execOp,ah,aj,Instr.mapUpdate,run_underlying ag.u,y9 z,G.kV,N,JB z];have A:rA o e c g h=(e.modify m λk=>(g,h,k.2.2),c):=by simp[rA,D]
 apply Q (i.modify m λJ=>{J with key:=E.eval Z,val:=E.eval B}) c (by rw[A]);rw[A];have get:∀(a:Nat) k J,(e.modify m λk=>(g,h,k.2.2))[a]?=some k->(i.modify m λJ=>{J with key:=E.eval Z,val:=E.eval B})[a]?=some J->e[a]?=some k/\i[a]?=some J\/∃L t,e[a]?=some L/\i[a]?=some t/\k=(g,h,L.2.2)/\J={t with key:=E.eval Z,val:=E.eval B}:=by intro a k J ap he;rw[List.getElem?_modify] at ap;rw[Fl] at he;by_cases aJ:m=a;simp_all;simp[aJ,if_false] at ap he;exact .inl ⟨by simpa using ap,he⟩
 refine⟨by simp[j.len],λa k J ap he=>?_,λa k J ap he=>?_,λa k J ap he=>?_⟩<;>rcases get a k J ap he with⟨q,r⟩|⟨L,t,q,r,rfl,rfl⟩
 exact j.key a k J q r;exact ai;exact j.val a k J q r;exact aP;exact j.born a k J q r;exact j.born a L t q r;intro t aD;have:t.born∈(i.modify m λJ=>{J with key:=E.eval Z,val:=E.eval B}).toList.map (·.born):=b4.2 ⟨t,aD,rfl⟩;rw[X m (λJ=>{J with key:=E.eval Z,val:=E.eval B}) λ_=>rfl] at this;obtain⟨az,aG,aM⟩:=b4.1 this;rw[<-aM];exact aR az aG;rw[X m (λJ=>{J with key:=E.eval Z,val:=E.eval B}) λ_=>rfl];exact av;simp[execOp,ah,aj,Instr.mapUpdate,run_underlying ag.u,y9 z,G.kV,N,JB z,aB,<-aC,G.stay]
def TG{j i p:TypeId}{M:TypeDesc}{C m D o:Nat}{k Z B:Operand}{g h F c:Nat}{b:List (V×V×Nat)}{a e:V}(w:bG T j (.map i p) C m)(q:bG T i M D o)(x:P.op=.mapUpdate j k Z B)(y:R.val s k=some (.hF g h))(r:R.l[F]?=some (g,.map h b c))(z:R.val s Z=some a)(A:R.val s B=some e)(t:a.isKey M)(u:k1 M b):dP T s P R .undef (R.l.set F (g,.map h (i_ b c a e).1 (i_ b c a e).2)):=TF w x y r z A<|r7.of q t u
def agR{ah ae ao aJ:TypeId}{M:TypeDesc}{aK al aL am:Nat}{aj Z:Operand}{m y F o:Nat}{a:List (V×V×Nat)}{i:V}(N:bG T ah (.map ae ao) aK al)(x:bG T ae M aL am)(O:P.op=.call {callee:=.builtin .delete,args:=#[aj,Z],argTypes:=#[ah,aJ]})(aB:R.val s aj=some (.hF m y))(G:R.l[F]?=some (m,.map y a o))(aI:R.val s Z=some i)(K:i.isKey M)(az:k1 M a):dP T s P R (.tuple []) (R.l.set F (m,.map y (nu a i) o)):=by
 refine .of λE I S B=>?_;let⟨ag,W,c,aA,aH,ax,ad,r,t,U,av⟩:=B.hF aB G;let Q:=B.val aI;let H:=V.HH Q K;let D:∀j,kl S (nu a i) j->(∀J∈j.toList,J.born<o)->(j.toList.map (·.born)).Nodup->(execOp E.eval P).run T I=.ok (.value<|.tuple #[]) {I with heap:=I.heap.setIfInBounds W (.map j o)}->∃C aT z ak ai,S.le z/\aE z ak C/\Holds s z ai aT/\((execOp E.eval P).run T I=.ok (.value C) aT\/C=undef/\(execOp E.eval P).run T I=.ok .skip aT)/\ak=.tuple []/\ai=R.l.set F (m,.map y (nu a i) o):=by intro j aD aG aP aC;let L:S.le (S.fo m ag):=aF.i7 λaR w=>b;refine⟨_,_,S.fo m ag,.tuple [],_,L,.tuple [] [] rfl af,B.ci.sY G aA rfl (a1 _) (λ_=>rfl) (.inl rfl) (by grind[ZS]) ?_,.inl aC,rfl,rfl⟩;exists aH,W,j,ax,(heap_set r).1,aD.mono L,aG
 rcases t.find Q K az with⟨w,A⟩|⟨h,k,J,w,A,aM,aw,aN⟩;let Y:nu a i=a:=by simp[nu,w]
 apply D c b U av;simp[execOp,O,ad,resolve,invoke,builtin,Builtin.delete_,run_underlying N.u,y9 r,run_checkKey x.u H,run_findKey x.u A,JB r];let Y:nu a i=a.eraseIdx h:=by simp[nu,w]
 let ay:h<c.size:=(rW.1 aw).1;let he:(c.eraseIdxIfInBounds h).toList=c.toList.eraseIdx h:=by unfold Array.eraseIdxIfInBounds;rw[Ab ay,Array.toList_eraseIdx]
 let X:(c.eraseIdxIfInBounds h).toList.Sublist c.toList:=by rw[he];exact Qb _ _
 refine D (c.eraseIdxIfInBounds h) ?_ (λan aq=>U an<|X.subset aq) ((X.map _).nodup av) ?_;rw[Y];let get:∀(e:Nat) k J,(a.eraseIdx h)[e]?=some k->(c.eraseIdxIfInBounds h)[e]?=some J->∃g:Nat,a[g]?=some k/\c[g]?=some J:=by intro e k J ap aO;rw[List.getElem?_eraseIdx] at ap;split at ap;grind;grind
 refine⟨?_,λe k J ap he=>?_,λe k J ap he=>?_,λe k J ap he=>?_⟩;rw[<-uG,he,ab2,ab2];simp[t.len];let⟨g,p,q⟩:=get e k J ap he;exact t.key g k J p q;let⟨g,p,q⟩:=get e k J ap he;exact t.val g k J p q;let⟨g,p,q⟩:=get e k J ap he;exact t.born g k J p q;simp[execOp,O,ad,resolve,invoke,builtin,Builtin.delete_,run_underlying N.u,y9 r,run_checkKey x.u H,run_findKey x.u A,JB r]
def aki{I:World}{r p l:TypeId}{A s W t:Nat}{S:aF}{j:List (V×V×Nat)}{b:Array MapEntry}{q k:Value}{c:Option (Nat×V)}(o:bG T r (.map p l) A s)(ap:h4 T l k)(m:I.heap[W]?=some (.map b t))(y:kl S j b)(g:r7 T p I q j b c)(i:Bool):∃h,aE S ((c.map (·.2)).getD (V.const k)) h/\(Instr.lookup r (.map (some W)) q i).run T I=.ok (if i then .tuple #[h,.bool (c.map (·.2)).isSome] else h) I:=by
 rcases g.find with⟨a,e⟩|⟨z,B,J,a,e,w,x,C⟩;exists k,by grind[aE.const]
 simp[Instr.lookup,run_underlying o.u,y9 m,g.kV,e,ap.run,a];exists J.val,by simp[a];exact y.val z B J w x
 simp[Instr.lookup,run_underlying o.u,y9 m,g.kV,e,a]
def Ws(y:Option V)(k:Value)(a:Bool):V:=if a then .tuple [y.getD (V.const k),.bool y.isSome] else y.getD (V.const k)
def pM(b:List (V×V×Nat))(a:V)(k:Value)(c:Bool):V:=if c then .tuple [(zl b a).getD (V.const k),.bool (zl b a).isSome] else(zl b a).getD (V.const k)
def akh{S:aF}{y:Option V}{k b:Value}{a:Bool}(w:aE S (y.getD (V.const k)) b):aE S (Ws y k a) (if a then .tuple #[b,.bool y.isSome] else b):=by
 cases a;exact w;refine .tuple _ _ rfl λg Z aP e c=>?_
 match g with|0=>simp_all|1=>simp at e c;subst e;subst c;exact .bool _|g+2=>trivial
def YP{q o g:TypeId}{K w:Nat}{r Z:Operand}{m t F x:Nat}{b:List (V×V×Nat)}{e:V}{k:Value}{a:Bool}{h:Option (Nat×V)}(C:bG T q (.map o g) K w)(ap:h4 T g k)(D:P.op=.lookup q r Z a)(G:R.val s r=some (.hF m t))(B:R.l[F]?=some (m,.map t b x))(J:R.val s Z=some e)(u:∀{I S p c},kl S b c->aE S e p->r7 T o I p b c h):cb T s P R (Ws (h.map (·.2)) k a):=.same λE I S i=>by let⟨Q,W,c,M,O,L,H,A,j,N,av⟩:=i.hF G B;let⟨U,y,z⟩:=aki C ap A j (u j<|i.val J) a;exact⟨_,akh y,by simp[execOp,D,H,Sem.run_bind,z,Result.andThen_ok]⟩
def an5{i h e:TypeId}{M:TypeDesc}{B o C p:Nat}{j Z:Operand}{g m F q:Nat}{b:List (V×V×Nat)}{a:V}{k:Value}{c:Bool}(x:bG T i (.map h e) B o)(r:bG T h M C p)(ap:h4 T e k)(y:P.op=.lookup i j Z c)(z:R.val s j=some (.hF g m))(t:R.l[F]?=some (g,.map m b q))(A:R.val s Z=some a)(u:a.isKey M)(w:k1 M b):cb T s P R (pM b a k c):=YP x ap y z t A<|r7.of r u w
def an1{c x j:TypeId}{y h:Nat}{e:Operand}{b g F i:Nat}{a:List (V×V×Nat)}(p:bG T c (.map x j) y h)(q:P.op=.call {callee:=.builtin .len,args:=#[e],argTypes:=#[c]})(r:R.val s e=some (.hF b g))(o:R.l[F]?=some (b,.map g a i)):cb T s P R (.int .i64 a.length):=.same λE I S k=>by let⟨G,W,z,B,D,A,w,m,t,C,av⟩:=k.hF r o;exists .int _ _,.int _ _;simp[execOp,q,w,resolve,invoke,builtin,Builtin.len_,run_underlying p.u,y9 m,goInt,t.len]
end
end
section
variable{T:Program}{s:a2}{ops:Array Oper}{P:Oper}{N:List Oper}{R dd:aw}{e:Exit->aw->Prop}{D:V}{ad:bd}
def aH.vY{E:Act}{I:World}{S:aF}(w:aH s R E I S)O:aH s ⟨R.h,R.l++[(S.n,.hY O)]⟩ E I (S.fo S.n ⟨none,0,0,0,O⟩):=by
 let c:S.le (S.fo S.n ⟨none,0,0,0,O⟩):=aF.i7 λi a=>by rw[S.fresh _<|a1 _] at a;cases a
 exact⟨w.ci.new (ke:=.hY O) (ck:=⟨none,0,0,0,O⟩) (aT:=I) (.inl rfl) ⟨rfl,rfl,rfl,a1 _,λ_ _ _=>rfl⟩ ⟨rfl,rfl,rfl⟩,λX Z b=>by let⟨g,a,e⟩:=w.h X Z b;exact⟨g,a,e.mono c⟩,λy Z b=>(w.fk y Z b).mono c,w.size,w.defers⟩
def dE.vY{a:Code}O(w:∀c,dE T s a ⟨R.h,R.l++[(c,.hY O)]⟩ e):dE T s a R e:=λE I S b=>w S.n E I _<|b.vY O
def bS.vY O(w:∀c,bS T s ops N ⟨R.h,R.l++[(c,.hY O)]⟩ e):bS T s ops N R e:=λb E I S a=>w S.n b E I _<|a.vY O
def Holds.setObj{S:aF}{l:bd}{I:World}(w:Holds s S l I){F h:Nat}{o i:bM}(z:l[F]?=some (h,o))(A:∀N,iV S I N o->iV S I N i):Holds s S (l.set F (h,i)) I:=by
 let g:∀a P,(a,P)∈l.set F (h,i)->∃c,(a,c)∈l/\∀N,iV S I N c->iV S I N P:=by intro a P b;rcases Bi b with b|⟨q,y,b⟩;grind;grind
 let p:(l.set F (h,i)).map (·.1)=l.map (·.1):=by rw[gN];apply ho;intro q;rw[oA];split;grind;rfl
 refine⟨w.le,w.G,w.k0,w.k6,w.k7,λa P b=>?_,w.i4,w.kb,λa P b=>?_,by rw[p];exact w.jw,λa P N W b=>?_,λa P m c N r W b e=>?_⟩;let⟨c,e,_⟩:=g a P b;exact w.own a c e;let⟨c,e,j⟩:=g a P b;let⟨N,k,x⟩:=w.eO a c e;simp_all;let⟨c,e,_⟩:=g a P b;exact w.i9 a c N W e;let⟨u,j,_⟩:=g a P b;let⟨t,k,_⟩:=g m c e;exact w.inj a u m t N r W j k
def TE{X b3 J:TypeId}{K bs O cL:Nat}{k:Value}{Z B:Operand}{c F o:Nat}(aU:bG T X (.slice J) K bs)(he:fi T J O cL)(ap:h4 T J k)(qB:k.cells.size=O)(z:P.op=.call {callee:=.builtin .append,args:=#[Z,B],argTypes:=#[X,b3]})(G:R.val s Z=some .aQ)(i:R.l[F]?=some (c,.hY O))(D:iW T s ⟨R.h,R.l.set F (c,.n 0 O J [])⟩ B b3 O o j)(W:o<=maxLen)(Y:o*cL<=140737488355328):dP T s P R (.a7 c 1 0 o) (R.l.set F (c,.n 1 O J j)):=by
 have:=(dm.1 i).1;have x:∀E I S,aH s R E I S->aH s ⟨R.h,R.l.set F (c,.n 0 O J [])⟩ E I S:=λE I S a=>
  ⟨a.ci.setObj i λN w=>⟨w.1,w.2.1,.inl ⟨w.2.2,rfl⟩⟩,a.h,a.fk,a.size,a.defers⟩
 intro E I S a Q U r;let⟨N,y,e⟩:=a.ci.eO c _<|dh i;have m:=a.val G;have H:E.eval Z=.slice none 0 0:=by generalize E.eval Z=M at m;cases m;rfl
 have L:=TD (off:=0) (F:=F) aU he ap qB z b af D v aK
  E I S (x E I S a) ⟨N,y,⟨e.1,e.2.1,.inl ⟨e.2.2,rfl⟩⟩,.inl ⟨e.2.2,rfl,H⟩⟩
 obtain⟨M,aT,p,ae,ad,q,A,t,g,rfl,rfl⟩:=L;have u:=by simpa using t
 have C:=by simpa using A
 unfold Oper.wp;rcases g with g|⟨rfl,g⟩<;>rw[g];exact r _ _ p q C u;trivial
inductive oI(l:bd):V->V->Prop|n (id al O:Nat) (J:TypeId) (fV:List V) (Z B:V) (hm:(id,bM.n al O J fV)∈l) (w:p8 id al O fV Z B):oI l Z B|map (id al clock:Nat) (iB:List (V×V×Nat)) (hm:(id,bM.map al iB clock)∈l):oI l (.hF id al) (.Dr iB clock)
def oI.all{l:bd}(F:Nat){id al O a:Nat}{J:TypeId}{fV:List V}(b:l[F]?=some (id,.n al O J fV))(w:a=fV.length):eA (oI l) (.a7 id al 0 a) (.f O fV):=by subst w;have:=p8.a7 (id:=id) (al:=al) (O:=O) (fV:=fV) 0 fV.length v;simp at this;exact .base _ _<|.n id al O J _ _ _ (dh b) this
def oI.own{l:bd}(F a b:Nat){e g O:Nat}{J:TypeId}{c:List V}(h:l[F]?=some (e,.n g O J c))(w:a<c.length):eA (oI l) (.own e g a b) (.ref O c a b):=.base _ _<|.n e g O J _ _ _ (dh h)<|.own a b w
def Holds.view{I:World}:∀l S,Holds s S l I->∃C,S.le C/\C.m=S.m/\(∀W P A,C.I W P=some A->I.cell? ⟨W,P,none⟩=some A)/\(∀W E clock,C.J W=some (E,clock)->I.heap[W]?=some (.map E clock))/\∀Z B,oI l Z B->∀A,aE C Z A->aE C B A
|[],S,w=>⟨S,aF.le.refl S,rfl,w.i4,w.kb,λZ B G=>by trivial⟩|(id,.n aj O J X)::y,S,w=>by
 let⟨D,L,hm,K,N,T,R,M,ae⟩:=w.freeze (F:=0) rfl;let⟨o,h,k,u,x,g⟩:=Holds.view y D K;let ag:Cu D N O X:=ae;refine⟨o,L.trans h,k.trans hm,u,x,λZ B G=>?_⟩;cases G with
 |n c e z q r _ _ a j=>rcases eT.1 a with a|a;cases a;exact p8.key b R M (ag.mono h) _ _ j;exact g _ _ (.n c e z q r _ _ a j)|map c e p t a=>rcases eT.1 a with a|a;simp_all;exact g _ _ (.map c e p t a)
|(id,.map aj Q clock)::y,S,w=>by
 let⟨D,N,W,E,L,hm,K,T,R,G,ad,ah,M,av⟩:=w.ahI (F:=0) rfl;let⟨o,h,k,u,x,g⟩:=Holds.view y D K;refine⟨o,L.trans h,k.trans hm,u,x,λZ B i=>?_⟩;cases i with
 |n c e z q r _ _ a j=>rcases eT.1 a with a|a;simp_all;exact g _ _ (.n c e z q r _ _ a j)|map c e p t a=>
  rcases eT.1 a with a|a;cases a;intro A ai;cases ai with|hF _ _ an A U am al Y=>rw[k,hm,T] at U;cases U;obtain⟨ak,i,rfl⟩:=Y R.symm;rw[G] at i;cases i;let H:=ah.mono h;exact .Dr Q clock W E (h.J _ _ ad) H.len H.key H.val H.born M av
  exact g _ _ (.map c e p t a)
|(id,.iter Q clock seen)::y,S,w=>by
 let⟨o,h,k,u,x,g⟩:=Holds.view y S<|w.drop<|ab7 _ _;refine⟨o,h,k,u,x,λZ B i=>?_⟩;cases i with
 |n c e z q r _ _ a j=>rcases eT.1 a with a|a;cases a;exact g _ _ (.n c e z q r _ _ a j)|map c e p t a=>rcases eT.1 a with a|a;cases a;exact g _ _ (.map c e p t a)
|(id,.hY O)::y,S,w=>by let⟨o,h,k,u,x,g⟩:=Holds.view y S<|w.drop<|ab7 _ _;refine⟨o,h,k,u,x,λZ B i=>?_⟩;cases i with|n c e z q r _ _ a j=>rcases eT.1 a with a|a;cases a;exact g _ _ (.n c e z q r _ _ a j)|map c e p t a=>rcases eT.1 a with a|a;cases a;exact g _ _<|.map c e p t a
def p5(ct:V->V->Prop):List V->List V->Prop|[],a=>a=[]|Z::b,B::a=>eA ct Z B/\p5 ct b a|_::_,[]=>False
def p5.get{ct:V->V->Prop}:∀{b c:List V},p5 ct b c->b.length=c.length/\∀(a:Nat) B,c[a]?=some B->∃Z,b[a]?=some Z/\eA ct Z B
|[],c,w=>by grind[p5]|Z::b,[],w=>w.elim|Z::b,B::c,w=>by
 cases p5.get w.2;refine⟨aM,λa k ap=>?_⟩;cases a;simp at ap;subst ap;exact⟨Z,rfl,w.1⟩
 next a=>simp_all
def V.flat:V->Bool
|.bool _|.int _ _|.str _|.gv|.aQ|.t_|.tY|.tZ=>true|.tuple N=>N.all λ|.bool _|.int _ _|.str _|.gv|.aQ|.t_|.tY|.tZ=>true|_=>false
|_=>false
def aE.flat{S e:aF}{Z:V}{c:Value}(w:aE S Z c)(a:Z.flat):aE e Z c:=by
 cases w with
 |bool W=>exact .bool W|int F Y=>exact .int F Y|str N=>exact .str N|gv=>exact .gv|aQ=>exact .aQ|t_=>exact .t_|tY=>exact .tY|tZ=>exact .tZ|tuple k j g w=>refine .tuple k j g λi B aP b h=>?_;simp[V.flat,kM] at a;let l:=a B<|dh b;cases w i B aP b h<;>first|trivial|exact .bool _|exact .int _ _|exact .str _|exact .gv|exact .aQ|exact .t_|exact .tY|exact .tZ
 |_=>trivial
def fg.al7{m:List (Nat×V)}{x:FuncId}(w:∀S(b:List Value) I,b.length=j.length->(∀(c:Nat) Z a,j[c]?=some Z->b[c]?=some a->aE S Z a)->∃a,aE S D a/\Calls T x b.toArray I (·=.returned a/\·=I)):fg T m x j D:=by intro S b I o e g i k;let⟨a,l,h⟩:=w S b I e g;apply h.mono;grind
theorem bW.refl{ct:V->V->Prop}:∀N,bW ct N N|[]=>.nil|a::N=>.same a<|bW.refl N
def dE.perm{b:Code}c(g:c.Perm R.l)(w:dE T s b ⟨R.h,c⟩ e):dE T s b R e:=λE I S a=>w E I S ⟨a.ci.perm g,a.h,a.fk,a.size,a.defers⟩
def fg.ofInt{m:List (Nat×V)}{x:FuncId}{F:IntKind}{Y:Int}{a:Value}(i:∀S,aE S D a)(w:∀I,Calls T x #[.int F Y] I (·=.returned a/\·=I)):fg T m x [.int F Y] D:=by
 intro S e I j b c g h
 match e,b with|[E],_=>have:=c 0 _ _ rfl rfl;cases this;apply (w I).mono;rintro J aT ⟨rfl,rfl⟩;grind
def fg.ofBool{m:List (Nat×V)}{x:FuncId}{W:Bool}{a:Value}(i:∀S,aE S D a)(w:∀I,Calls T x #[.bool W] I (·=.returned a/\·=I)):fg T m x [.bool W] D:=by
 intro S e I j b c g h
 match e,b with|[E],_=>have:=c 0 _ _ rfl rfl;cases this;apply (w I).mono;rintro J aT ⟨rfl,rfl⟩;grind
def R3:∀(a:List UInt8)(O:ByteArray),(a.map λW=>(W.toNat:Int)).foldl (λD Y=>D.push<|UInt8.ofNat Y.toNat) O=O++⟨a.toArray⟩|[],O=>by apply ByteArray.ext;simp|W::a,O=>by simp only[gU,Kn];rw[R3 a<|O.push<|UInt8.ofNat (W.toNat:Int).toNat];apply ByteArray.ext;simp
def LY{I:World}{c b J:TypeId}{l h m i o j:Nat}{kr:List UInt8}{E:Addr}{e:Nat}(k:bG T c (.slice J) l h)(he:bG T J (.int .u8) o j)(aU:bG T b .string m i)(w:∀a W,kr[a]?=some W->I.cell? (E.add a)=some (.int .u8 (W.toNat:Int))):(convert c b (.slice (some E) kr.length e)).run T I=.ok (.string ⟨kr.toArray⟩) I:=by
 rw[run_convert_bytes_string I c b J _ _ _ k.u he.u aU.u];let g:=run_loadCells (P:=T) (w:=I) E kr.length (λa=>Value.int .u8 ((kr[a]?).getD 0).toNat) (λa p=>by simp_all);let he:((List.range kr.length).map λa=>Value.int .u8 ((kr[a]?).getD 0).toNat)=(kr.map λW=>W.toNat).map (Value.int .u8):=by apply oz;simp;grind
 rw[he] at g;rw[run_bytesToString I E _ e _ g,R3];congr 2
def amN{e a J:TypeId}{y m z o A p:Nat}{Z:Operand}{kr:List UInt8}(h:bG T e (.slice J) y m)(he:bG T J (.int .u8) A p)(aU:bG T a .string z o)(G:P.op=.convert e a Z)(x:R.val s Z=some (.f 1 (kr.map bh))):cb T s P R (.str kr):=.same λE I S k=>by
 have g:=k.val x;generalize K:E.eval Z=B at g;generalize b:kr.map _=n at g;exists _,.str kr;have:(convert e a B).run T I=.ok (.string ⟨kr.toArray⟩) I:=by
  cases g with
  |slnil=>
   have:=by simpa using b
   subst this;rw[run_convert_bytes_string I e a J _ _ _ h.u he.u aU.u];rfl|sT _ C=>
   have:=by simpa using b
   subst this;exact LY (kr:=[]) h he aU af|f _ _ W base cap val D F H r w=>
   have hlen:n.length=kr.length:=by rw[<-b];simp
   rw[hlen];refine LY h he aU λc q t=>?_;have l:n[c]?=some (bh q):=by rw[<-b,ch,t];rfl
   have i:=k.ci.i4 _ _ _<|r c 0 _ _ l rfl;have j:=w c 0 _ _ l rfl;rw[Addr.add_lit];simp at i;rw[i];generalize val c 0=aP at j;cases j;rfl
 simp_all[execOp,Sem.run_bind,Result.andThen_ok]
def amM{g b J:TypeId}{ag w ah m ai x:Nat}{Z:Operand}{a:List UInt8}{r t e k F:Nat}{z:TypeId}(q:bG T g (.slice J) ag w)(he:bG T J (.int .u8) ai x)(aU:bG T b .string ah m)(aw:P.op=.convert g b Z)(ad:R.val s Z=some (.a7 r t e k))(L:R.l[F]?=some (r,.n t 1 z j))(hlen:k=a.length)(C:(j.drop e).take k=a.map bh):cb T s P R (.str a):=.same λE I S B=>by
 let⟨N,aq,O,G⟩:=B.a7 ad L;subst hlen;refine⟨_,.str a,?_⟩;let ax:(convert g b<|E.eval Z).run T I=.ok (.string ⟨a.toArray⟩) I:=by
  rcases G with⟨_,A,h⟩|⟨W,ae,cap,D,h,av,am,c⟩;rw[h];have:=lJ A;subst this;rw[run_convert_bytes_string I g b J _ _ _ q.u he.u aU.u];rfl;rw[h];refine LY q he aU λi y p=>?_;let K:=(dm.1 p).1;let Q:=by
   have:((j.drop e).take a.length)[i]?=some (bh y):=by rw[C,ch,p];rfl
   rw[lf,ab K,pZ] at this;exact this
  obtain⟨_,X,⟨al,_⟩|⟨m,aj,o,H,ap,ao,ak,an,M⟩⟩:=O;simp_all;rw[D] at o;cases o;let⟨aP,Y,U⟩:=M _ 0 _ _ Q rfl;rcases c with c|⟨c,_⟩;omega;rw[Addr.add_lit];have:ae+i=N.base+(e+i)*N.s+0:=by rw[c,X];omega
  simp[World.cell?,H];rw[this];rw[Y];cases U;rfl
 simp_all[execOp,Sem.run_bind,Result.andThen_ok]
def oM(c:Nat->Option (Nat×Nat)):List V->List (Nat×V)->Option (List V)
|a,[]=>some a|a,(e,M)::g=>
 match c e with|some (b,size)=>if M.cells.length=size/\b+size<=a.length then oM c (a.take b++M.cells++a.drop (b+size)) g else none|none=>none
def Uf{off:Nat}:∀b F(a:List Value),off+F+b.length<=a.length->(b.zipIdx F).foldl (λa Z=>a.setIfInBounds (off+Z.2) Z.1) a.toArray=(a.take (off+F)++b++a.drop (off+F+b.length)).toArray
|[],F,a,_=>af|Z::b,F,a,w=>by
 simp;rw[Uf b _ _ aM];let e:(a.set (off+F) Z).take (off+(F+1))=a.take (off+F)++[Z]:=by
  let c:(a.set (off+F) Z).take (off+F)=a.take (off+F):=by apply ho;intro h;rw[lf,lf];split;grind;rfl
  rw[<-ye,z9 aM,c];simp
 let g:(a.set (off+F) Z).drop (off+(F+1)+b.length)=a.drop (off+F+(b.length+1)):=by rw[List.drop_set_of_lt v];congr 1;omega
 simp_all
def Mn{S:aF}{s:Nat->Option (Nat×Nat)}:∀k m c e j,k.length=m.length->(∀(q:Nat) l g,k[q]?=some l->m[q]?=some g->l.1=g.1/\nb S l.2 g.2.cells.toList)->nb S (.agg c) e->oM s c k=some j->∃z,Instr.fill s e.toArray m=some z.toArray/\nb S (.agg j) z
|[],[],c,e,j,_,_,i,w=>by simp[oM] at w;subst w;exists e,rfl|[],_::_,_,_,_,w,_,_,_=>bB|_::_,[],_,_,_,w,_,_,_=>bB|(K,M)::k,(P,h)::m,c,e,j,hlen,y,i,w=>by
 let⟨u,o⟩:=y 0 _ _ rfl rfl;dsimp at u o;subst u;unfold oM at w;unfold Instr.fill;cases H:s K;simp_all
 next g=>
  let⟨off,size⟩:=g;rw[H] at w;dsimp at w⊢;split at w;rename_i A;let⟨x,O⟩:=A;let I:e.length=c.length:=i.1;let r:h.cells.size=size:=by rw[<-uG,o.1,x]
  let C:¬(h.cells.size≠size||decide (off+h.cells.size>e.toArray.size)):=by simp[r];omega
  rw[aa C];let E:h.cells.zipIdx.foldl (λc Z=>c.setIfInBounds (off+Z.2) Z.1) e.toArray=(e.take off++h.cells.toList++e.drop (off+size)).toArray:=by have:=Uf (off:=off) h.cells.toList 0 e aK;simp only[q2,uG,r] at this;rw[<-this,<-abF,abN]
  rw[E];refine Mn k m _ _ j aM (λq l g L N=>y (q+1) l g bB bB) ?_ w;let D:M.cells.length=size:=x;let J:h.cells.toList.length=size:=by simpa using r
  refine⟨?_,?_,?_⟩;show _=(c.take off++M.cells++c.drop (off+size)).length
  (simp;omega)
  intro Z a;rcases ee.1 a with a|a;rcases ee.1 a with a|a;exact i.2.1 Z<|p0 a;exact o.2.1 Z a;exact i.2.1 Z<|Kv a;intro t B Z b a;let b:(c.take off++M.cells++c.drop (off+size))[t]?=some B:=b;rw[ge] at a b;rw[lK] at b a;simp[m7,I,Qu<|show off<=c.length by omega] at b a;split at b;rename_i p;rw[ab p] at a;rw[lf,ab p] at b a;exact i.2.2 t B Z b a;rename_i F;rw[aa F] at a;rw[lK] at b a;simp only[D,J] at b a;split at b;rename_i p;rw[ab p] at a;exact o.2.2 _ B Z b a;rename_i G;rw[aa G] at a;rw[pZ] at b a;exact i.2.2 _ B Z b a;trivial
def rF(s:a2)(R:aw):List (Nat×Operand)->Option (List (Nat×V))|[]=>some []|(b,Z)::D=>match R.val s Z,rF s R D with|some M,some a=>if M.fits then some ((b,M)::a) else none|_,_=>none
def rF.get:∀{c:List (Nat×Operand)}{a:List (Nat×V)},rF s R c=some a->c.length=a.length/\∀(e:Nat) b,a[e]?=some b->∃Z,c[e]?=some (b.1,Z)/\R.val s Z=some b.2/\b.2.fits|[],a,w=>by grind[rF]|(j,Z)::D,a,w=>by unfold rF at w;split at w;rename_i M h i g;split at w;simp at w;cases rF.get g;grind;trivial;trivial
structure Cw(T:Program)(X:TypeId)(pl:List (Nat×Nat)):Prop where
 h:(match T.underlying X with|some (.struct aN)=>aN.toList.mapM λx=>(T.info? x.type).map λH=>(x.offset,H.size)|_=>none)=some pl
theorem Cw.run{X:TypeId}{a:List (Nat×Nat)}(w:Cw T X a):∃aN,T.underlying X=some (.struct aN)/\∀I,(aN.mapM λx=>(do Pure.pure (x.offset,<-sizeOf x.type):Sem (Nat×Nat))).run T I=.ok a.toArray I:=by
 have w:=w.h;split at w;rename_i aN c;refine⟨aN,c,λI=>?_⟩;let⟨N⟩:=aN;have:∀(N:List Field) a,(N.mapM λx=>(T.info? x.type).map λb=>(x.offset,b.size))=some a->(N.mapM λx=>(do Pure.pure (x.offset,<-sizeOf x.type):Sem _)).run T I=.ok a I:=by
  intro N
  induction N
  simp_all
  next x N g=>
   intro a w;simp only[z3,acw,acx,z_,Option.pure_def,fc] at w;obtain⟨i,⟨b,p,rfl⟩,D,e,rfl⟩:=w;have:(sizeOf x.type).run T I=.ok b.size I:=by simp[sizeOf,typeInfo,p]
   simp_all
 simp_all;trivial
def amL{X:TypeId}{k:Value}{i:Array (Nat×Operand)}{a:List (Nat×Nat)}{e:List (Nat×V)}(t:Cw T X a)(ap:h4 T X k)(r:P.op=.build X i)(u:rF s R i.toList=some e)(o:oM (a[·]?) (V.zero k).cells e=some j):cb T s P R (.agg j):=.same λE I S m=>by let⟨aN,w,p⟩:=t.run;let⟨hlen,q⟩:=rF.get u;let⟨B,C,g⟩:=Mn e (i.toList.map λc=>(c.1,E.eval c.2)) _ _ j b (λA c F l h=>by let⟨Z,x,y,z⟩:=q A c l;rw[ch,x] at h;simp at h;subst h;exact⟨rfl,(m.val y).DD z⟩) (nb.zero ap S) o;exists .agg _,.agg j B g.1.symm g.2.1 g.2.2;let D:(a.toArray[·]?)=(λZ:Nat=>a[Z]?):=af;simp[execOp,r,Instr.build,Sem.run_bind,ap.run,run_underlying w,p];simp_all
def amU{X J:TypeId}{K bs cL c l:Nat}{Z g:Operand}{O e b a:Nat}{F:IntKind}{Y:Int}(aU:bG T X (.array l J) K bs)(he:fi T J c cL)(q:P.op=.indexAddr X Z g)(y:R.val s Z=some (.ref O j e b))(o:R.val s g=some (.int F Y))(av:Y=(a:Int))(p:a<l):cb T s P R (.ref O j e (b+a*c)):=.same λE I S k=>by have h:=k.val y;have i:=k.val o;generalize x:E.eval Z=z at h;generalize w:E.eval g=aP at i;cases i;subst av;cases h with|ref _ _ _ _ W base val t m r=>have:=aE.ref O j e (b+a*c) W _ val t m r;refine⟨_,this,?_⟩;simp[execOp,q,x,w,Instr.indexAt,Instr.sureAddr,asIntOf,run_underlying aU.u,he.io,p,Addr.add_lit]
def amV{X J:TypeId}{K bs cL k:Nat}{Z b:Operand}{a e i C O c:Nat}{m:TypeId}{F:IntKind}{Y:Int}(aU:bG T X (.array k J) K bs)(he:fi T J O cL)(w:P.op=.indexAddr X Z b)(B:R.val s Z=some (.own a e i 0))(r:R.l[C]?=some (a,.n e O m j))(p:R.val s b=some (.int F Y))(av:Y=(c:Int))(q:c<k):cb T s P R (.own a e (i+c) 0):=.same λE I S h=>by let⟨N,W,t,x,o,y,A⟩:=h.own B r;have g:=h.val p;generalize z:E.eval b=aP at g;cases g;subst av;refine⟨.pointer _,.own _ _ _ _ N _ t (by rw[x.1];omega) rfl λ_=>⟨W,o,by rw[y]⟩,?_⟩;simp[execOp,w,A,z,Instr.indexAt,Instr.sureAddr,asIntOf,run_underlying aU.u,he.io,q,Addr.add_lit,gg]
def am0{X J:TypeId}{K bs cL O len:Nat}{Z:Operand}{o m:Option Operand}{e g b F:Nat}{p:TypeId}{a c:Nat}(aU:bG T X (.array len J) K bs)(he:fi T J O cL)(C:P.op=.slice X Z o m none)(H:R.val s Z=some (.own e g b 0))(z:R.l[F]?=some (e,.n g O p j))(A:ni s R o 0 a)(y:ni s R m len c)(q:a<=c)(r:c<=len)(U:b+len<=j.length)(Y:len<=maxLen):cb T s P R (.a7 e g (b+a) (c-a)):=.same λE I S h=>by
 let⟨N,W,B,i,t,k,G⟩:=h.own H z;let D:N.base+j.length*N.s<=N.size:=by obtain⟨_,_,⟨Q,_⟩|⟨L,M,_,_,_,x,_⟩⟩:=i;simp_all;exact x
 refine⟨.slice (some<|if len=a then⟨W,N.base+b*O,none⟩ else⟨W,N.base+b*O+a*O,none⟩) (c-a)<|len-a,?_,?_⟩;refine .a7 _ _ _ _ N _ B (by rw[i.1];omega) rfl λ_=>.inr ⟨W,if len=a then N.base+b*O else N.base+b*O+a*O,len-a,t,?_,v,v,?_⟩;grind;by_cases w:len=a;omega;right;rw[aa w,k];exists by grind
 rw[k] at D;have:(b+a+(len-a))*O<=j.length*O:=hA _ v;omega;simp[execOp,C,Instr.sliceAt,G,FB,Sem.run_bind,run_underlying aU.u,Result.andThen_ok,Instr.sureAddr,Sem.run_pure,EK (T:=T) h (W:=false) (len:=len) (cap:=len) A y q r,he.io,Addr.add_lit,q2]
def bS.adA{X J:TypeId}{Y:Nat}{aP:Value}(i:R.guard ops P=some true)(m:P.op=.alloc X)(ap:(T.info? X).bind (·.zero)=some (.agg (Array.replicate Y aP)))(o:aP.oneCell')(w:∀c,bS T s ops N (({R with l:=R.l++[(c,.n 0 1 X<|List.replicate Y<|V.leaf aP)]}:aw).put P.dst (.own c 0 0 0)) e):bS T s ops (P::N) R e:=.lq i λE I S g=>by
 have:(V.leaf aP).cells=[V.leaf aP]:=by unfold V.leaf;split<;>rfl
 have j:=g.ci.new (ke:=.n 0 1 X<|List.replicate Y<|V.leaf aP) (ck:=⟨some _,0,0,Y,1⟩) (.inr ⟨I.heap.size,rfl,a1 _⟩) (World.grownBy_alloc I _ _)
  ⟨rfl,rfl,.inr ⟨I.heap.size,Array.replicate Y aP,rfl,heap_alloc_new I _,af,af,λb x q=>by
   grind,λb M h=>by grind,λb k M Z h r=>by grind[aE.leaf]⟩⟩
 refine⟨.pointer<|some ⟨I.heap.size,0,none⟩,_,_,.own S.n 0 0 0,_,(aF.i7 λu a=>by rw[S.fresh _<|a1 _] at a;cases a),.own _ _ _ _ _ _ (S.kJ _ _) (a1 _) rfl λ_=>⟨I.heap.size,rfl,af⟩,j,.inl ?_,w S.n⟩;have:(zeroValue X).run T I=.ok (.agg (Array.replicate Y aP)) I:=by
  cases p:T.info? X;simp_all
  next t=>simp_all[zeroValue,typeInfo]
 simp_all[execOp,Instr.alloc,newVar,newRow,Value.cells]
end
def tP{Y:Int}:-9223372036854775808<=Y->Y<=9223372036854775807->kZ .i64 Y:=by trivial
def Va{Y:Int}:0<=Y->Y<=18446744073709551615->kZ .u64 Y:=by trivial
theorem A1{Y:Int}:0<=Y->Y<=255->kZ .u8 Y:=by trivial
def kB{b u:Type}{N:List b}{x:b->u}{a:Nat}(w:a<N.length):(N.map x)[a]?=some (x N[a]):=by simp_all
def J2(s:a2)(R:aw):List Operand->Option (List V)|[]=>some []|Z::D=>match R.val s Z,J2 s R D with|some M,some a=>some (M::a)|_,_=>none
def Ge{s:a2}{R:aw}:∀{b:List Operand}{a:List V},J2 s R b=some a->mB s R b a|[],a,w=>by simp[J2] at w;trivial|Z::D,a,w=>by unfold J2 at w;split at w;rename_i M g c e;simp at w;subst w;exact⟨c,Ge e⟩;trivial
def E8(s:a2)(R:aw):List (Nat×Operand)->Nat->Option (List V)|[],_=>some []|(b,Z)::D,Y=>match R.val s Z,E8 s R D (Y+1) with|some M,some a=>if b=Y/\M.fits then some (M::a) else none|_,_=>none
def Yd{s:a2}{R:aw}:∀{c:List (Nat×Operand)}{Y:Nat}{a:List V},E8 s R c Y=some a->sL s R c Y a|[],_,a,w=>by simp[E8] at w;trivial|(i,Z)::D,Y,a,w=>by unfold E8 at w;split at w;rename_i M h e g;split at w;rename_i b;simp at w;subst w;exact⟨b.1,e,b.2,Yd g⟩;trivial;trivial
def Es(R:aw):List ResultVar->Option (List V)
|[]=>some []|.tmp X::D=>match R.h.lookup X,Es R D with
 |some Z,some a=>some (Z::a)|_,_=>none
|.cell _ _::_=>none
def Zl{R:aw}:∀{hY:List ResultVar}{a:List V},Es R hY=some a->uw R hY a|[],a,w=>by simp[Es] at w;trivial|.tmp X::D,a,w=>by unfold Es at w;split at w;rename_i Z e b c;simp at w;subst w;exact⟨b,Zl c⟩;trivial|.cell _ _::_,a,w=>bB
def TY{b:List ResultVar}{a:V->bd->Prop}{R:aw}(c:Es R b=some j:=by rfl)(aI:a (cO j) R.l):ey.FX b a .normal R:=⟨.inr rfl,j,Zl c,aI⟩
section
variable{T:Program}{s:a2}{ops:Array Oper}{P:Oper}{N:List Oper}{x:Nat}{aN:List Nat}{R:aw}{e:Exit->aw->Prop}{D:V}{ad:bd}
def hX{Z:Operand}(a:P.op=.move Z:=by rfl)(b:R.val s Z=some D:=by rfl):cb T s P R D:=YQ a b
def BI{F:Nat}{Z:Operand}{a b e c O:Nat}{J:TypeId}(g:P.op=.nilCheck Z:=by rfl)(h:R.val s Z=some (.own a b e c):=by rfl)(hk:R.l[F]?=some (a,.n b O J j):=by rfl):cb T s P R (.own a b e c):=O1 g h hk
def BD{F:Nat}{X i:TypeId}{Z:Operand}{a b e c O g h Y:Nat}{J:TypeId}(k:q8 T X g h i Y)(av:Y≠0:=by decide)(m:P.op=.fieldAddr X Z g:=by rfl)(o:R.val s Z=some (.own a b e c):=by rfl)(hk:R.l[F]?=some (a,.n b O J j):=by rfl):cb T s P R (.own a b e<|c+h):=OD k av m o hk
def I5{X:TypeId}{M:TypeDesc}{K bs:Nat}{Z:Operand}{O b a:Nat}{J:V}(aU:bG T X M K bs)(g:j[b]?=some J:=by exact QG)(e:lv M=false:=by rfl)(h:P.op=.load X Z:=by rfl)(i:R.val s Z=some (.ref O j b a):=by rfl)(c:J.cells[a]?=some D:=by rfl):cb T s P R D:=YO aU e h i g c
def nz(F:Nat){X:TypeId}{M:TypeDesc}{K bs:Nat}{Z:Operand}{b e c a O:Nat}{J:TypeId}{el:V}(aU:bG T X M K bs)(h:lv M=false:=by rfl)(i:P.op=.load X Z:=by rfl)(k:R.val s Z=some (.own b e c a):=by rfl)(hk:R.l[F]?=some (b,.n e O J j):=by rfl)(p:j[c]?=some el:=by exact QG)(g:el.cells[a]?=some D:=by rfl):cb T s P R D:=Ei aU h i k hk p g
def I1{X J:TypeId}{K bs cL:Nat}{Z a:Operand}{O H:Nat}{F:IntKind}{Y:Int}(aU:bG T X (.slice J) K bs)(he:fi T J O cL)(c:P.op=.indexAddr X Z a:=by rfl)(e:R.val s Z=some (.f O j):=by rfl)(b:R.val s a=some (.int F Y):=by rfl)(av:Y=(H:Int):=by rfl)(p:H<j.length:=by first|assumption|omega|(simp;done)|(simp;omega)):cb T s P R (.ref O j H 0):=YN aU he c e b av p
def pT(q:Nat){X J:TypeId}{K bs cL:Nat}{Z c:Operand}{a b g e O:Nat}{h:TypeId}{H:Nat}{o:IntKind}{Y:Int}(aU:bG T X (.slice J) K bs)(he:fi T J O cL)(k:P.op=.indexAddr X Z c:=by rfl)(m:R.val s Z=some (.a7 a b g e):=by rfl)(hk:R.l[q]?=some (a,.n b O h j):=by rfl)(i:R.val s c=some (.int o Y):=by rfl)(av:Y=(H:Int):=by rfl)(p:H<e:=by first|assumption|omega|(simp;done)|(simp;omega)):cb T s P R (.own a b (g+H) 0):=Jc aU he k m hk i av p
def IR{X J:TypeId}{K bs O cL Y:Nat}{k:Value}{a:Array (Nat×Operand)}(aU:bG T X (.slice J) K bs)(he:fi T J O cL)(ap:h4 T J k)(c:P.op=.buildSlice X Y a:=by rfl)(e:E8 s R a.toList 0=some j:=by rfl)(av:Y=j.length:=by rfl)(hlen:∀M∈j,M.cells.length=O:=by simp[V.cells,bh,V.const,V.leaf])(b:Y*O<=2^24:=by decide)(g:0<O:=by decide):cb T s P R (.f O j):=OX aU he ap c (Yd e) av hlen b g
def C4 g{X:TypeId}{M:TypeDesc}{K bs:Nat}{e Z:Operand}{b c H t O:Nat}{J:TypeId}{fV:List V}{el a:V}(aU:bG T X M K bs)(j:P.op=.store X e Z:=by rfl)(k:R.val s e=some (.own b c H t):=by rfl)(hk:R.l[g]?=some (b,.n c O J fV):=by rfl)(p:fV[H]?=some el:=by exact QG)(q:R.val s Z=some a:=by rfl)(i:a.fits:=by rfl)(o:a.cells.length=K:=by rfl)(h:t+K<=el.cells.length:=by exact QH)(m:(el.nJ t a.cells).cells=el.cells.take t++a.cells++el.cells.drop (t+K):=by rfl):dP T s P R .undef (R.l.set g (b,.n c O J<|fV.set H<|el.nJ t a.cells)):=yZ aU.K j k hk p q i o h m
def TC{A:Nat}{X b3 J:TypeId}{K bs O cL:Nat}{k:Value}{Z B:Operand}{a b off len o:Nat}{fV j9:List V}(aU:bG T X (.slice J) K bs)(he:fi T J O cL)(ap:h4 T J k)(qB:k.cells.size=O:=by rfl)(g:P.op=.call {callee:=.builtin .append,args:=#[Z,B],argTypes:=#[X,b3]}:=by rfl)(h:R.val s Z=some (.a7 a b off len):=by rfl)(hk:R.l[A]?=some (a,.n b O J fV):=by rfl)(e:off+len<=fV.length:=by exact KT)(fC:iW T s R B b3 O o j9)(c:len+o<=maxLen:=by exact acz)(zb:(len+o)*cL<=140737488355328:=by exact KT):dP T s P R (.a7 a (b+1) 0<|len+o) (R.l.set A (a,.n (b+1) O J<|(fV.drop off).take len++j9)):=C1 aU he ap qB g h hk e fC c zb
def JK{Z:Operand}{b3 J:TypeId}{K bs O:Nat}{n:List V}(aU:bG T b3 (.slice J) K bs)(a:R.val s Z=some (.f O n):=by rfl)(h9:∀M∈n,M.cells.length=O:=by simp[V.cells,bh,V.const,V.leaf]):iW T s R Z b3 O n.length n:=iW.f aU a h9
def TB{A:Nat}{X b3 J:TypeId}{K bs O cL:Nat}{k:Value}{Z B:Operand}{a o:Nat}{j9:List V}(aU:bG T X (.slice J) K bs)(he:fi T J O cL)(ap:h4 T J k)(qB:k.cells.size=O:=by rfl)(c:P.op=.call {callee:=.builtin .append,args:=#[Z,B],argTypes:=#[X,b3]}:=by rfl)(e:R.val s Z=some .aQ:=by rfl)(hk:R.l[A]?=some (a,.hY O):=by rfl)(fC:iW T s ⟨R.h,R.l.set A (a,.n 0 O J [])⟩ B b3 O o j9)(b:o<=maxLen:=by exact acz)(zb:o*cL<=140737488355328:=by exact KT):dP T s P R (.a7 a 1 0 o) (R.l.set A (a,.n 1 O J j9)):=TE aU he ap qB c e hk fC b zb
end
def akA(F:IntKind):F.max<((2^F.bits:Nat)):=by cases F<;>simp[IntKind.max,IntKind.signed,IntKind.bits]
theorem U_{F:IntKind}{Y:Nat}(w:(Y:Int)<=F.max):kZ F Y:=⟨by grind[IntKind.min,IntKind.signed,IntKind.bits],w⟩
theorem Lt{F:IntKind}{E W:Nat}(b:(E:Int)<=F.max)(c:(W:Int)<=F.max):lV .and F E W=((E&&&W:Nat)):=by
 let a:=akA F;let J:lV .and F E W=F.wrap (E&&&W):=by simp[lV,Gn,abO,BitVec.toNat_and,abP];rw[uN v,uN v]
 grind[rS,U_,Nat.and_le_left]
def RK{E W:Nat}(a:E<2^64)(b:W<2^64):lV .or .u64 E W=((E|||W:Nat)):=by
 let J:lV .or .u64 E W=IntKind.u64.wrap (E|||W):=by simp[lV,Gn,abO,BitVec.toNat_or,abP];simp[IntKind.bits];rw[uN a,uN b]
 rw[J,rS<|U_ (by have:=Nat.or_lt_two_pow a b;grind[IntKind.max,IntKind.signed,IntKind.bits])]
theorem E1:IntKind.u64.max=18446744073709551615:=ax
theorem J9 Y:IntKind.u64.wrap Y=Y%18446744073709551616:=ax
theorem J8 Y:IntKind.u8.wrap Y=Y%256:=ax
def aqo{E t:Nat}(w:t<=64):((E:Int).fdiv (2^(min (t:Int).toNat 64)))=((E>>>t:Nat)):=by rw[show(t:Int).toNat=t by simp,Qu w,acq,Int.fdiv_eq_ediv_of_nonneg _ aM];rfl
section
variable{T:Program}{X:TypeId}{Z B:Operand}
end
def eM:List (Nat×V)->Nat->Option V|[],_=>none|(F,Z)::D,X=>match Nat.beq X F with|true=>some Z|false=>eM D X
theorem pL:∀N X,eM N X=N.lookup X
|[],_=>rfl|(F,Z)::D,X=>by
 rw[eM,oB];let w:(X==F)=Nat.beq X F:=by rw[m4];simp
 rw[w];cases Nat.beq X F;exact pL D X;rfl
abbrev bn:=Nat->Nat×Nat
def V.ew(u:bn):V->V|.cU X b a=>.own (u X).1 (u X).2 b a|.d X c len=>.a7 (u X).1 (u X).2 c len|.dj X=>.hF (u X).1 (u X).2|.nt X=>.own (u X).1 0 0 0|.jP X b a=>.own (u X).1 (u X).2 b a|Z=>Z
def V.dZ(u:bn):V->V|.func x a b=>.func x (a.map<|V.ew u) (b.map<|V.ew u)|Z=>Z.ew u
def V.jb(u:bn):V->V|.agg a=>.agg (a.map<|V.dZ u)|.vec Y E a=>.vec Y E (a.map<|V.dZ u)|Z=>Z.dZ u
def V.a(u:bn):V->V|.tuple N=>.tuple (N.map<|V.jb u)|Z=>Z.jb u
def V.xO:V->Bool|.cU .. |.d .. |.dj _|.nt _|.jP .. =>false|_=>true
def ds(a:V->Bool):List V->Bool|[]=>true|Z::N=>match a Z with|true=>ds a N|false=>false
def V.uj:V->Bool
|.func _ a b=>match ds V.xO a with
 |true=>ds V.xO b|false=>false
|Z=>Z.xO
def V.Eh:V->Bool|.agg a=>ds V.uj a|.vec _ _ a=>ds V.uj a|Z=>Z.uj
def V.plain:V->Bool|.tuple N=>ds V.Eh N|Z=>Z.Eh
theorem u4{b:V->Bool}{x:V->V}(w:∀Z,b Z->x Z=Z):∀{N:List V},ds b N->N.map x=N|[],_=>rfl|Z::N,a=>by rw[ds] at a;split at a;rename_i c;rw[gU,w Z c,u4 w a];simp_all
theorem nd{a:V->Bool}:∀{N:List V},ds a N↔∀Z∈N,a Z|[]=>by simp[ds]|Z::N=>by rw[ds];split;rename_i w;rw[nd];simp[w];simp_all
def V.Xk{u:bn}{Z:V}(w:Z.xO):Z.ew u=Z:=by cases Z<;>first|rfl|grind[V.xO]
def V.DW{u:bn}{Z:V}(w:Z.uj):Z.dZ u=Z:=by cases Z with|func x b c=>rw[V.uj] at w;split at w;rename_i a;simp only[V.dZ];rw[u4 (λ_=>V.Xk) a,u4 (λ_=>V.Xk) w];simp_all|_=>first|rfl|simp[V.uj,V.xO] at w
def V.Oh{u:bn}{Z:V}(w:Z.Eh):Z.jb u=Z:=by cases Z with|agg a=>simp[V.jb];rw[u4 (λ_=>V.DW) w]|vec Y E a=>simp[V.jb];rw[u4 (λ_=>V.DW) w]|func x b c=>exact V.DW (Z:=.func x b c) w|_=>first|rfl|simp[V.Eh,V.uj,V.xO] at w
theorem V.eC{u:bn}{Z:V}(w:Z.plain):Z.a u=Z:=by cases Z with|tuple N=>simp[V.a];rw[u4 (λ_=>V.Oh) w]|func x b c=>exact V.DW (Z:=.func x b c) w|agg N=>exact V.Oh (Z:=.agg N) w|vec Y E N=>exact V.Oh (Z:=.vec Y E N) w|_=>first|rfl|simp[V.plain,V.Eh,V.uj,V.xO] at w
def V.Bp{u:bn}{Z:V}(w:Z.one):Z.a u=Z.dZ u:=by cases Z<;>first|rfl|grind[V.one]
def V.Iy{u:bn}{Z:V}(w:Z.one):(Z.a u).one:=by cases Z<;>first|rfl|grind[V.one]
theorem V.ub{u:bn}{Z:V}(w:Z.fits):(Z.a u).fits:=by cases Z<;>first|rfl|grind[V.fits,V.one]
def eu.dZ{u:bn}(E:eu):E.cells.map (V.dZ u)=E.cells:=by cases E<;>simp[eu.cells,V.dZ,V.ew]
theorem V.oh{u:bn}{Z:V}(w:Z.fits):(Z.a u).cells=Z.cells.map (V.dZ u):=by
 cases Z<;>first|(show eu.cells _++_=(eu.cells _++_).map _;rw[cD,eu.dZ];done)|skip
 all_goals first|rfl|simp[V.fits,V.one] at w
theorem V.ua{u:bn}(Z:V):(Z.a u).cells.length=Z.cells.length:=by cases Z<;>first|rfl|simp[V.a,V.jb,V.cells]
inductive bt where|cell (J:TypeId) (Z:V)|n (O:Nat) (J:TypeId) (xs:List V)|map (iB:List (V×V×Nat)) (clock:Nat)|iter (iB:List (V×V×Nat)) (clock:Nat) (seen:List Nat)
def bt.ad(u:bn)(c:Nat):bt->bM|.cell J Z=>.n c Z.cells.length J [Z.a u]|.n O J e=>.n c O J e|.map b clock=>.map c b clock|.iter b clock seen=>.iter b clock seen
abbrev bb:=List<|Nat×bt
def bI:bb->Nat->Option bt|[],_=>none|(F,Z)::D,X=>match Nat.beq X F with|true=>some Z|false=>bI D X
structure am where
 h:List (Nat×V)
 c:bb
 l:bd
def b7(u:bn)(a:Nat×bt):Nat×bM:=((u a.1).1,a.2.ad u (u a.1).2)
def ar(u:bn)(N:bb):bd:=N.map<|b7 u
def cj(u:bn)(N:List (Nat×V)):List (Nat×V):=N.map λb=>(b.1,b.2.a u)
def am.a(u:bn)(O:am):aw:=⟨cj u O.h,O.l++ar u O.c⟩
theorem jQ u:∀N X,(cj u N).lookup X=(N.lookup X).map (V.a u)|[],_=>rfl|(F,Z)::D,X=>by rw[cj,gU,oB,oB];cases w:X==F;exact jQ u D X;rfl
def am.put(O:am)(X:Option Nat)(Z:V):am:=match X with|some X=>{O with h:=(X,Z)::O.h}|none=>O
theorem am.kG u(O:am)X Z:(O.put X Z).a u=(O.a u).put X (Z.a u):=by cases X<;>rfl
def dp(m:List (Nat×V)):Bool:=m.all λa=>a.2.plain
def val(m:List (Nat×V))(a:List (Nat×V)):Operand->Option V|.tmp X=>eM a X|.const b=>some (V.const b)|.global y=>eM m y|.func x=>some<|.func (.func x) [] []
theorem V.Nv a:(V.leaf a).uj:=by unfold V.leaf;split<;>rfl
theorem V.V5 a:(V.leaf a).plain:=by unfold V.leaf;split<;>rfl
theorem V.V6(N:List Value):(V.agg (N.map V.leaf)).plain:=nd.2 λZ a=>by obtain⟨b,_,rfl⟩:=b4.1 a;exact V.Nv b
theorem V.afT a:(V.const a).plain:=by unfold V.const;split;split;exact V.V6 _;rfl;split<;>rfl;simp[V.V5]
theorem uB{s:a2}(e:dp s.G){u:bn}{h:List (Nat×V)}{ad:bd}{P:Operand}{Z:V}(w:val s.G h P=some Z):(⟨cj u h,ad⟩:aw).val s P=some (Z.a u):=by
 cases P
 next X=>grind[val,pL,aw.val,jQ]
 next g=>grind[val,Option.some.injEq,aw.val,V.eC,V.afT]
 next y=>rw[val,pL] at w;simp[aw.val];rw[w];let b:=NU w;let c:=kM.1 e _ b;rw[V.eC c]
 next x=>simp[val,fc] at w;subst w;rfl
structure b0 where
 d:TypeDesc
 size:Nat
 bytes:Nat
 agg:Bool
 R:Bool
 z:Value
 aN:List (Nat×TypeId×Nat)
inductive bV where|nil|node (N:bV) (F:Nat) (H:b0) (D:bV)
def bV.find:bV->Nat->Option b0|.nil,_=>none|.node N F a D,X=>match Nat.beq X F with|true=>some a|false=>match Nat.blt X F with|true=>N.find X|false=>D.find X
structure nU(T:Program)(X:TypeId)(H:b0):Prop where
 apW:H.R\/bG T X H.d H.size H.bytes
 apR:H.R->H.agg
 hs:H.agg\/lv H.d=false
 adq:H.agg=false\/yn T X H.size
 fd:∀bJ off Hl Y,H.aN[bJ]?=some (off,Hl,Y)->Y≠0->q8 T X bJ off Hl Y
 ld:h4 T X H.z
 K:fi T X H.size H.bytes
 pl:H.aN=[]\/Cw T X (H.aN.map λL=>(L.1,L.2.2))
def e2(T:Program):bV->Prop|.nil=>True|.node N F a D=>e2 T N/\nU T F a/\e2 T D
theorem e2.find{T:Program}:∀{z:bV},e2 T z->∀{X:Nat}{a:b0},z.find X=some a->nU T X a|.nil,_,_,_,w=>by grind[bV.find]|.node N F a D,⟨b,e,c⟩,X,g,w=>by rw[bV.find] at w;split at w;simp_all;split at w;exact b.find w;exact c.find w
def nU.pb{T:Program}{X:TypeId}{a:b0}(w:nU T X a)(c:a.agg=false):a.R=false:=by cases b:a.R;rfl;have:=w.apR b;simp_all
def nU.e6{T:Program}{X:TypeId}{a:b0}(w:nU T X a)(b:a.R=false):bG T X a.d a.size a.bytes:=w.apW.resolve_left aM
def nU.yA{T:Program}{X:TypeId}{a:b0}(w:nU T X a)(b:a.agg):yn T X a.size:=w.adq.resolve_left aM
structure eU(z:bV)(X:TypeId)(M:TypeDesc):Prop where
 h:∃iN,z.find X=some iN/\iN.d=M/\iN.R=false
def eU.dO{T:Program}{z:bV}{X:TypeId}{M:TypeDesc}(w:eU z X M)(c:e2 T z):∃K bs,bG T X M K bs:=by obtain⟨e,a,rfl,b⟩:=w.h;exact⟨_,_,(c.find a).e6 b⟩
def Nj:IntKind->IntKind->Bool|.i8,.i8|.i16,.i16|.i32,.i32|.i64,.i64|.u8,.u8|.u16,.u16|.u32,.u32|.u64,.u64=>true|_,_=>false
def ai_{F a:IntKind}:Nj F a->F=a:=by cases F<;>cases a<;>first|rfl|grind[Nj]
def Lz(a:BinOp)(F:IntKind)(E W:Int):Option V:=match a with
|.lss=>some (.bool<|decide (E<W))|.leq=>some (.bool<|decide (E<=W))|.gtr=>some (.bool<|decide (W<E))|.geq=>some (.bool<|decide (W<=E))|.eql=>some (.bool<|decide (E=W))|.neq=>some (.bool<|decide ¬E=W)|.and=>some (.int F<|lV .and F E W)|.or=>some (.int F<|lV .or F E W)|.xor=>some (.int F<|lV .xor F E W)|.andNot=>some (.int F<|lV .andNot F E W)|.add=>match F with
 |.i64=>none|F=>some (.int F<|F.wrap<|E+W)
|.sub=>match F with
 |.i64=>none|F=>some (.int F<|F.wrap<|E-W)
|.mul=>match F with
 |.i64=>none|F=>some (.int F<|F.wrap<|E*W)
|_=>none
def LA(a:BinOp)(E W:List UInt8):Option V:=match a with|.eql=>some (.bool<|decide (E=W))|.neq=>some (.bool<|decide ¬E=W)|.lss=>some (.bool<|Op.bytesLess E W)|.gtr=>some (.bool !(Op.bytesLess E W||decide (E=W)))|.geq=>some (.bool ! Op.bytesLess E W)|.leq=>some (.bool<|Op.bytesLess E W||decide (E=W))|_=>none
def jY(m:List (Nat×V))(a:List (Nat×V)):List Operand->Option (List V)
|[]=>some []|Z::D=>match val m a Z with
 |some M=>match jY m a D with|some b=>some (M::b)|none=>none
 |none=>none
def oo(a:List V)(b Y:Nat)(c:Bool):Option V:=match c with
|true=>match Nat.beq ((a.drop b).take Y).length Y with
 |true=>some (.agg<|(a.drop b).take Y)|false=>none
|false=>match a[b]? with
 |some D=>match D.one with|true=>some D|false=>none
 |none=>none
def pR(m:List (Nat×V))(a:List (Nat×V)):List (Nat×Operand)->Option (List (Nat×V))
|[]=>some []|(c,Z)::D=>match val m a Z with
 |some M=>match M.fits with
  |true=>match pR m a D with|some b=>some ((c,M)::b)|none=>none
  |false=>none
 |none=>none
def V.jX:V->Bool|.cU .. |.d .. |.dj _|.nt _|.jP .. =>true|Z=>Z.plain
def V.BY{u:bn}{Z:V}(w:Z.jX):Z.ew u=Z.a u:=by cases Z with|cU|d|dj|nt|jP=>rfl|vec Y E N=>let b:(V.vec Y E N).plain:=w;rw[V.eC b];rfl|tuple N=>let b:(V.tuple N).plain:=w;rw[V.eC b];rfl|agg N=>let b:(V.agg N).plain:=w;rw[V.eC b];rfl|func x c e=>let b:(V.func x c e).plain:=w;rw[V.eC b];rfl|_=>rfl
def RR(z:bV)(J:TypeId):Bool:=match z.find J with|some a=>Nat.blt 30 a.size|none=>false
def qX(z:bV)(m:List (Nat×V))(b:List (Nat×V))(h:bb)(P:Oper):Option V:=match P.op with
|.move Z=>val m b Z|.assign Z=>val m b Z|.pick a Z B=>match val m b a with
 |some (.bool true)=>val m b Z|some (.bool false)=>val m b B|_=>none
|.extract Z e=>match val m b Z with
 |some (.tuple N)=>match N[e]? with
  |some D=>match D with|.tuple _=>none|D=>some D
  |none=>none
 |_=>none
|.unOp .not _ Z=>match val m b Z with
 |some (.bool W)=>some (.bool !W)|_=>none
|.binOp op _ Z B _=>match val m b Z,val m b B with
 |some (.int F E),some (.int x W)=>match Nj F x with|true=>Lz op F E W|false=>none
 |some (.str E),some (.str W)=>LA op E W|_,_=>none
|.nilCheck Z=>match val m b Z with
 |some (.ref O D e a)=>some (.ref O D e a)|some (.cU X e a)=>match bI h X with|some (.cell ..)=>some (.cU X e a)|some (.n ..)=>some (.cU X e a)|_=>none
 |_=>none
|.fieldAddr X Z j=>match z.find X with
 |some c=>match c.aN[j]? with
  |some (g,_,Y)=>match Y with
   |0=>none|_+1=>match val m b Z with
    |some (.ref O D e a)=>some (.ref O D e<|a+g)|some (.cU X e a)=>match bI h X with|some (.cell ..)=>some (.cU X e<|a+g)|some (.n ..)=>some (.cU X e<|a+g)|_=>none
    |_=>none
  |none=>none
 |none=>none
|.load X Z=>match z.find X with
 |some c=>match val m b Z with
  |some (.ref K D e a)=>match Nat.blt 30 K with
   |true=>none|false=>match D[e]? with
    |some J=>match oo J.cells a c.size c.agg with
     |some D=>match D.plain with|true=>some D|false=>none
     |none=>none
    |none=>none
  |some (.cU X e a)=>match bI h X with
   |some (.cell A J)=>match RR z A with
    |true=>none|false=>match e with
     |0=>match J.fits with|true=>oo J.cells a c.size c.agg|false=>none
     |_+1=>none
   |_=>none
  |_=>none
 |none=>none
|.field X Z j=>match z.find X with
 |some c=>match c.aN[j]? with
  |some (g,w,Y)=>match Y with
   |0=>none|_+1=>match z.find w with
    |some l=>match val m b Z with
     |some (.agg i)=>match Nat.beq l.size Y with|true=>oo i g Y l.agg|false=>none
     |_=>none
    |none=>none
  |none=>none
 |none=>none
|.call a=>match a.callee,a.args.toList,a.argTypes.toList with
 |.builtin .len,[Z],[X]=>match z.find X with
  |some c=>match c.agg,c.d,val m b Z with
   |false,.slice _,some (.f _ n)=>some (.int .i64 n.length)|false,.slice _,some .aQ=>some (.int .i64 0)|false,.slice _,some (.d X g Y)=>match bI h X with|some (.n ..)=>some (.int .i64 Y)|_=>none
   |false,.string,some (.str N)=>some (.int .i64 N.length)|_,_,_=>none
  |none=>none
 |_,_,_=>none
|.convert y u Z=>match z.find y,z.find u with
 |some p,some k=>match p.agg,p.d,k.agg,k.d,val m b Z with|false,.string,false,.string,some (.str N)=>some (.str N)|_,_,_,_,_=>none
 |_,_=>none
|.makeFunc fn first s=>match jY m b first.toList,jY m b s.toList with
 |some q,some r=>match ds V.jX q,ds V.jX r with|true,true=>some (.func fn q r)|_,_=>none
 |_,_=>none
|.build X parts=>match z.find X with
 |some c=>match c.agg,c.aN with
  |true,_::_=>match pR m b parts.toList with
   |some t=>match oM ((c.aN.map λo=>(o.1,o.2.2))[·]?) (V.zero c.z).cells t with|some i=>some (.agg i)|none=>none
   |none=>none
  |_,_=>none
 |none=>none
|_=>none
section
variable{T:Program}{s:a2}{P:Oper}{u:bn}
def V.asT k:∀Z∈(V.zero k).cells,Z.uj:=by
 intro Z a;unfold V.zero at a;split at a;obtain⟨b,_,rfl⟩:=b4.1 a;exact V.Nv b;have:(V.leaf k).cells=[V.leaf k]:=by unfold V.leaf;split<;>rfl
 grind[V.Nv]
theorem zQ(c:dp s.G){h:List (Nat×V)}{ad:bd}:∀{N:List Operand}{b:List V},jY s.G h N=some b->mB s ⟨cj u h,ad⟩ N (b.map (V.a u))|[],b,w=>by simp[jY] at w;subst w;rfl|Z::D,b,w=>by unfold jY at w;split at w;rename_i M g;split at w;rename_i i e;simp at w;subst w;exact⟨uB c g,zQ c e⟩;simp_all;simp_all
theorem ash(b:dp s.G){a:List (Nat×V)}{ad:bd}{N:List Operand}(w:jY s.G a N=some j):ds V.plain j->mB s ⟨cj u a,ad⟩ N j:=by have:=zQ b (u:=u) (ad:=ad) w;grind[u4,V.eC]
def IT(e:dp s.G){g:List (Nat×V)}{ad:bd}:∀{N:List (Nat×Operand)}{b:List (Nat×V)},pR s.G g N=some b->rF s ⟨cj u g,ad⟩ N=some (b.map λc=>(c.1,c.2.a u))/\∀c∈b,c.2.fits
|[],b,w=>by simp[pR] at w;subst w;exists rfl|(l,Z)::D,b,w=>by
 unfold pR at w;split at w;rename_i M i;split at w;split at w;rename_i j h;simp at w;cases IT e (ad:=ad) h;let k:=uB e (u:=u) (ad:=ad) i;exists by grind[rF,V.ub]
 grind;simp_all;simp_all;simp_all
def RO{i:Nat->Option (Nat×Nat)}:∀{g:List (Nat×V)}{c e:List V},(∀b∈g,b.2.fits)->oM i c g=some e->oM i (c.map (V.dZ u)) (g.map λb=>(b.1,b.2.a u))=some (e.map<|V.dZ u)|[],c,e,_,w=>by grind[oM,Option.some.injEq]|(j,M)::D,c,e,h,w=>by unfold oM at w;split at w;split at w;have:=V.oh (u:=u)<|h (j,M) af;have:=RO (λb k=>h b aM) w;simp_all[gU,oM,ab,V.ua,aS];simp_all;simp_all
theorem iw ad:∀{N:bb}{X:Nat}{Z:bt},bI N X=some Z->∃F:Nat,(ad++ar u N)[F]?=some ((u X).1,Z.ad u (u X).2):=by
 have:∀{N:bb}{X:Nat}{Z:bt},bI N X=some Z->∃F:Nat,(ar u N)[F]?=some ((u X).1,Z.ad u (u X).2):=by
  intro N
  induction N
  grind[bI]
  next c D a=>intro X Z w;let⟨F,B⟩:=c;unfold bI at w;split at w;rename_i he;have:=mo he;subst this;simp at w;subst w;exists 0;let⟨b,e⟩:=a w;exists b+1
 intro N X Z w;let⟨F,g⟩:=this w;exact⟨ad.length+F,aM⟩
def BF{a Y:Nat}{D:V}:oo j a Y false=some D->j[a]?=some D/\D.one:=by grind[oo]
def BE{a Y:Nat}{D:V}:oo j a Y true=some D->D=.agg ((j.drop a).take Y)/\((j.drop a).take Y).length=Y:=by grind[oo,Option.some.injEq,Nat.eq_of_beq_eq_true]
def aec{a:BinOp}{F:IntKind}{E W:Int}{D:V}{X:TypeId}{Z B:Operand}(w:Lz a F E W=some D):bR T a X Z B (.int F E) (.int F W) D/\D.plain:=by
 cases a<;>simp only[Lz,fc,reduceCtorEq] at w
 case lss=>subst w;exists bR.lss
 case leq=>subst w;exists bR.leq
 case gtr=>subst w;exists bR.gtr
 case geq=>subst w;exists bR.geq
 case eql=>subst w;exists bR.eql
 case neq=>subst w;exists bR.neq
 case and=>subst w;exists bR.bits rfl
 case or=>subst w;exists bR.bits rfl
 case xor=>subst w;exists bR.bits rfl
 case andNot=>subst w;exists bR.bits rfl
 case add=>split at w<;>simp at w;subst w;exists bR.adg
 case sub=>split at w<;>simp at w;subst w;exists bR.zJ
 case mul=>split at w<;>simp at w;subst w;exists bR.akX
def aed{a:BinOp}{E W:List UInt8}{D:V}{X:TypeId}{Z B:Operand}(w:LA a E W=some D):bR T a X Z B (.str E) (.str W) D/\D.plain:=by
 cases a<;>simp only[LA,fc,reduceCtorEq] at w
 case lss=>subst w;exists bR.aqv
 case leq=>subst w;exists bR.aqs
 case gtr=>subst w;exists bR.aqh
 case geq=>subst w;exists bR.aqe
 case eql=>subst w;exists bR.ap0
 case neq=>subst w;exists bR.aqw
def akc{z:bV}(h:e2 T z){R:aw}{X:TypeId}{c:b0}{Z:Operand}{O g e:Nat}{J D:V}(l:z.find X=some c)(k:P.op=.load X Z)(m:R.val s Z=some (.ref O j g e))(i:j[g]?=some J)(w:oo J.cells e c.size c.agg=some D):cb T s P R D:=by let b:=h.find l;cases a:c.agg with|true=>rw[a] at w;obtain⟨rfl,o⟩:=BE w;cases(b.yA a).dO;grind[an4]|false=>rw[a] at w;exact X_ (b.e6<|b.pb a) (b.hs.resolve_left aM) k m i (BF w).1
def akd{z:bV}(y:e2 T z){R:aw}{X:TypeId}{g:b0}{Z:Operand}{r x t i F O:Nat}{J:TypeId}{h D:V}(B:z.find X=some g)(p:P.op=.load X Z)(q:R.val s Z=some (.own r x t i))(o:R.l[F]?=some (r,.n x O J j))(m:j[t]?=some (h.a u))(A:h.fits)(w:oo h.cells i g.size g.agg=some D):cb T s P R (D.a u):=by let e:=y.find B;let E:=V.oh (u:=u) A;cases c:g.agg with|true=>rw[c] at w;obtain⟨rfl,k⟩:=BE w;refine OE (e.yA c) p q o m ?_ b;simp_all|false=>rw[c] at w;let⟨C,k⟩:=BF w;rw[V.Bp k];exact Ei (e.e6<|e.pb c) (e.hs.resolve_left aM) p q o m b
def Jd{R:aw}{a Z B:Operand}{D:V}{X:Bool}(c:P.op=.pick a Z B)(b:R.val s a=some (.bool X))(e:R.val s (if X then Z else B)=some D):cb T s P R D:=O2 c b e
theorem aa1{z:bV}(m:e2 T z)(I:dp s.G){L:List (Nat×V)}{y:bb}{ad:bd}{D:V}(w:qX z s.G L y P=some D):cb T s P ⟨cj u L,ad++ar u y⟩ (D.a u):=by
 let h:∀{Z:Operand}{M:V},val s.G L Z=some M->(⟨cj u L,ad++ar u y⟩:aw).val s Z=some (M.a u):=(uB I);unfold qX at w;split at w
 case h_1 Z e=>grind[YQ]
 case h_2 Z e=>grind[anV]
 case h_3 A Z B e=>split at w;rename_i r;exact O2 (X:=true) e (h r)<|h w;rename_i r;exact O2 (X:=false) e (h r)<|h w;simp_all
 case h_4 Z K e=>
  split at w;rename_i N c;split at w;rename_i aj p;split at w;cases w;simp[fc] at w;subst w;apply an0 e<|h c;rw[ch,p,iP];congr 1;cases aj with|tuple aF=>simp_all|_=>rfl
  simp_all;simp_all
 case h_5 X Z e=>split at w;rename_i W c;simp[fc] at w;subst w;exact an_ e<|h c;simp_all
 case h_6 op X Z B dq e=>split at w;rename_i F E aE W c C;split at w;rename_i g;obtain rfl:=ai_ g;let⟨i,j⟩:=aec (T:=T) (X:=X) (Z:=Z) (B:=B) w;rw[V.eC j];exact ul e (h c) (h C) i;simp_all;rename_i E W c C;let⟨i,j⟩:=aed (T:=T) (X:=X) (Z:=Z) (B:=B) w;rw[V.eC j];exact ul e (h c) (h C) i;simp_all
 case h_7 Z e=>split at w;rename_i c;simp[fc] at w;subst w;exact an9 e<|h c;rename_i X K A c;split at w;rename_i l;simp[fc] at w;subst w;let⟨F,g⟩:=iw (u:=u) ad l;exact O1 e (h c) g;rename_i l;simp[fc] at w;subst w;let⟨F,g⟩:=iw (u:=u) ad l;exact O1 e (h c) g;simp_all;simp_all
 case h_8 X Z U e=>split at w;rename_i x o;split at w;rename_i Q R Y S;split at w;cases w;rename_i aG;let t:=(m.find o).fd U Q R _ S v;split at w;rename_i c;simp[fc] at w;subst w;exact amT t v e<|h c;rename_i dq K A c;split at w;rename_i l;simp[fc] at w;subst w;let⟨F,g⟩:=iw (u:=u) ad l;exact OD t v e (h c) g;rename_i l;simp[fc] at w;subst w;let⟨F,g⟩:=iw (u:=u) ad l;exact OD t v e (h c) g;simp_all;simp_all;simp_all;simp_all
 case h_9 X Z e=>split at w;rename_i x o;split at w;rename_i O aj K A c;split at w;cases w;split at w;rename_i J he;split at w;rename_i aH i;split at w;rename_i l;simp[fc] at w;subst w;rw[V.eC l];exact akc m o e (h c) he i;simp_all;simp_all;simp_all;rename_i dq K A c;split at w;rename_i J B l;split at w;cases w;split at w;split at w;rename_i t;let⟨F,g⟩:=iw (u:=u) ad l;exact akd m o e (h c) g rfl t w;simp_all;simp_all;simp_all;simp_all;simp_all
 case h_10 X Z U e=>
  split at w;rename_i x o;split at w;rename_i Q R Y S;split at w;cases w;let t:=(m.find o).fd U Q R _ S v;split at w;rename_i al aq;split at w;rename_i ak c;split at w;rename_i av;let av:=mo av;let g:=m.find aq;let ai:=h c;cases k:al.agg with|true=>rw[k] at w;obtain⟨rfl,j⟩:=BE w;let ag:=g.yA k;rw[av] at ag;exact amS t v ag e ai af|false=>rw[k] at w;let⟨i,j⟩:=BF w;rw[V.Bp j];exact amR t v (g.e6<|g.pb k) (g.hs.resolve_left aM) e ai b
  simp_all;simp_all;simp_all;simp_all;simp_all
 case h_11 A e=>
  split at w;rename_i Z X i j H;let r:P.op=.call {callee:=.builtin .len,args:=#[Z],argTypes:=#[X]}:=by rw[e];cases A;simp at i j H;subst i;congr 2;grind;grind
  split at w;rename_i x o;let g:=m.find o;split at w;rename_i J O n k q c;simp[fc] at w;subst w;let aU:=g.e6<|g.pb k;rw[q] at aU;exact O0 aU r (h c) rfl;rename_i J k q c;simp[fc] at w;subst w;let aU:=g.e6<|g.pb k;rw[q] at aU;exact O0 aU r (h c) rfl;rename_i J dq Q Y k q c;split at w;rename_i l;simp[fc] at w;subst w;let aU:=g.e6<|g.pb k;rw[q] at aU;let⟨F,g⟩:=iw (u:=u) ad l;exact OZ aU r (h c) g;simp_all;rename_i N k q c;simp[fc] at w;subst w;let aU:=g.e6<|g.pb k;rw[q] at aU;exact an2 aU r<|h c;simp_all;simp_all;simp_all
 case h_12 aJ aD Z e=>split at w;rename_i aI aB ah ae;split at w;rename_i N k q am ao c;simp[fc] at w;subst w;let i:=(m.find ah).e6<|(m.find ah).pb k;let j:=(m.find ae).e6<|(m.find ae).pb am;rw[q] at i;rw[ao] at j;exact amQ i j e<|h c;simp_all;simp_all
 case h_13 fn first aA e=>split at w;rename_i aK aL c C;split at w;rename_i i j;simp[fc] at w;subst w;let J:∀{N:List V},ds V.jX N->N.map (V.a u)=N.map (V.ew u):=λ{N} ax=>gp λZ c=>(V.BY<|nd.1 ax Z c).symm;have:=Ya (T:=T) e (zQ I (u:=u) (ad:=ad++ar u y) c)<|zQ I (u:=u) (ad:=ad++ar u y) C;rw[J i,J j] at this;exact this;simp_all;simp_all
 case h_14 X parts e=>
  split at w;rename_i x o;split at w;split at w;rename_i aC az;split at w;rename_i ak an;simp[fc] at w;subst w;let g:=m.find o;let ay:=g.pl.resolve_left b;let⟨i,j⟩:=IT I (u:=u) (ad:=ad++ar u y) az;let H:=RO (u:=u) j an;let ap:(V.zero x.z).cells.map (V.dZ u)=(V.zero x.z).cells:=by refine(gp λZ c=>?_).trans<|Cf _;exact V.DW<|V.asT x.z Z c
  rw[ap] at H;exact amL ay g.ld e i H;simp_all;simp_all;simp_all;simp_all
 simp_all
def wR{X M:Nat}(w:Nat.beq X M=false):X≠M:=λJ=>b
def rv(x:V->V):V->V|.func y a b=>.func y (a.map x) (b.map x)|Z=>x Z
def pJ(x:V->V):V->V|.agg a=>.agg (a.map<|rv x)|.vec Y E a=>.vec Y E (a.map<|rv x)|Z=>rv x Z
def sB(x:V->V):V->V|.tuple N=>.tuple (N.map<|pJ x)|Z=>pJ x Z
def vG(x:V->V)(Z:V):V:=match Z.plain with|true=>Z|false=>sB x Z
def Xl{u:bn}:V.dZ u=rv (V.ew u):=funext λZ=>by cases Z<;>rfl
def alx{u:bn}:V.jb u=pJ (V.ew u):=funext λZ=>by cases Z<;>first|rfl|simp[V.jb,pJ,Xl]
def Iv{u:bn}:V.a u=sB (V.ew u):=funext λZ=>by cases Z<;>first|rfl|simp[V.a,V.jb,sB,pJ,alx,Xl]
def V.sC:V->Bool|.func .. |.agg _|.vec .. |.tuple _=>false|_=>true
def yr(x:V->V):Prop:=∀Z,x Z=Z\/Z.sC/\(x Z).sC
def tU{y:V->V}{B:V}(w:B.sC):rv y B=y B/\pJ y B=y B/\sB y B=y B:=by cases B<;>first|exists rfl,rfl|cases w
section
variable{x y:V->V}(w:yr x)
include w
theorem HP{Z:V}(a:Z.sC):(x Z).sC:=by rcases w Z with J|⟨_,J⟩;rw[J];exact a;exact J
theorem VL{Z:V}(a:Z.sC=false):x Z=Z:=by rcases w Z with J|⟨J,_⟩;exact J;rw[a] at J;cases J
theorem Wa Z:rv y (rv x Z)=rv (λZ=>y<|x Z) Z:=by
 cases a:Z.sC
 .cases Z<;>first|(cases a;done)|(simp[rv];done)|(show rv y (x _)=y (x _);rw[VL w a];rfl)
 rw[(tU a).1,(tU a).1,(tU<|HP w a).1]
theorem HW Z:pJ y (pJ x Z)=pJ (λZ=>y<|x Z) Z:=by
 cases a:Z.sC
 .cases Z<;>first|(cases a;done)|exact Wa w (.func ..)|(simp[pJ,Wa w];done)|(show pJ y (x _)=y (x _);rw[VL w a];rfl)
 rw[(tU a).2.1,(tU a).2.1,(tU<|HP w a).2.1]
theorem aj3 Z:sB y (sB x Z)=sB (λZ=>y<|x Z) Z:=by
 cases a:Z.sC
 .cases Z<;>first|(cases a;done)|exact HW w (.func ..)|exact HW w (.agg _)|exact HW w (.vec ..)|(simp[sB,HW w];done)
 rw[(tU a).2.2,(tU a).2.2,(tU<|HP w a).2.2]
theorem DC Z:(vG x Z).cells.length=Z.cells.length:=by
 let b:∀{B:V},B.sC->B.cells.length=1:=λ{B} w=>by cases B<;>first|rfl|cases w
 unfold vG;split;rfl
 .cases a:Z.sC
  .cases Z<;>first|(cases a;done)|(simp[sB,pJ,V.cells];done)|rfl
  rw[(tU a).2.2,b a,b<|HP w a]
end
def u5(a:V->Prop):List V->Prop|[]=>True|Z::N=>a Z/\u5 a N
def pw{a:V->Prop}:∀{N:List V},u5 a N↔∀Z∈N,a Z|[]=>by simp[u5]|Z::N=>by simp[u5,pw]
def BC(a:V->Prop):V->Prop|.func _ b c=>u5 a b/\u5 a c|Z=>a Z
def Ef(b:V->Prop):V->Prop|.agg a=>u5 (BC b) a|.vec _ _ a=>u5 (BC b) a|Z=>BC b Z
def Eg(a:V->Prop):V->Prop|.tuple N=>u5 (Ef a) N|Z=>Ef a Z
def ON{a:V->Prop}(w:∀Z,a Z)Z:Eg a Z:=by
 let b:∀Z,BC a Z:=λZ=>by have:=w Z;cases Z<;>first|exact this|exact⟨pw.2 λZ _=>w Z,pw.2 λZ _=>w Z⟩
 let c:∀Z,Ef a Z:=λZ=>by have:=b Z;cases Z<;>first|exact this|exact pw.2 λZ _=>b Z
 have:=c Z;cases Z<;>first|exact this|exact pw.2 λZ _=>c Z
def wF(c:V->V->Prop)(N b:List V):Prop:=N.length=b.length/\∀(a:Nat)(Z B:V),N[a]?=some Z->b[a]?=some B->c Z B
structure Ag(aH:V->V->Prop):Prop where
 func:∀{x xs ak pj wh},wF aH xs pj->wF aH ak wh->aH (.func x xs ak) (.func x pj wh)
 agg:∀{xs pj},wF aH xs pj->aH (.agg xs) (.agg pj)
 vec:∀{Y E xs pj},wF aH xs pj->aH (.vec Y E xs) (.vec Y E pj)
 tuple:∀{xs pj},wF aH xs pj->aH (.tuple xs) (.tuple pj)
 refl:∀Z,aH Z Z
def DJ{a:V->V->Prop}{x y:V->V}{N:List V}(w:∀Z∈N,a (x Z) (y Z)):wF a (N.map x) (N.map y):=⟨af,λh Z B c e=>by simp[ch,z_] at c e;obtain⟨E,b,rfl⟩:=c;obtain⟨W,g,rfl⟩:=e;cases b.symm.trans g;exact w E<|dh b⟩
def Wb{c:V->V->Prop}{x y:V->V}{g:V->Prop}(e:Ag c)(w:∀Z,g Z->c (x Z) (y Z)){Z:V}(a:Eg g Z):c (sB x Z) (sB y Z):=by
 let h:∀Z,BC g Z->c (rv x Z) (rv y Z):=λZ a=>by have:=w Z;cases Z<;>first|exact this a|exact e.func (DJ λZ b=>w Z<|pw.1 a.1 Z b)<|DJ λZ b=>w Z<|pw.1 a.2 Z b
 let i:∀Z,Ef g Z->c (pJ x Z) (pJ y Z):=λZ a=>by have:=h Z;cases Z<;>first|exact this a|exact e.agg (DJ λZ b=>h Z<|pw.1 a Z b)|exact e.vec<|DJ λZ b=>h Z<|pw.1 a Z b
 have:=i Z;cases Z<;>first|exact this a|exact e.tuple<|DJ λZ b=>i Z<|pw.1 a Z b
def DB{b:V->V->Prop}{x:V->V}{L:V->Prop}{u an:bn}(F:yr x)(c:Ag b)(w:∀Z,L Z->b (Z.ew u) ((x Z).ew an)){Z:V}(e:Z.plain=false->Eg L Z):b (Z.a u) ((vG x Z).a an):=by unfold vG;split;rename_i J;rw[V.eC J,V.eC J];exact c.refl _;rename_i J;rw[Iv,Iv,aj3 F];exact Wb c w<|e J
def Ag.n1{ct:V->V->Prop}:Ag (eA ct):=⟨λw F=>.func _ _ _ _ _ w.1 w.2 F.1 F.2,λw=>.agg _ _ w.1 w.2,λw=>.vec _ _ _ _ w.1 w.2,λw=>.tuple _ _ w.1 w.2,.refl⟩
def wF.eq{N:List V}(w:wF (·=·) N j):N=j:=ho λa=>by have:=w.1;cases b:N[a]?<;>cases c:j[a]?<;>grind[w.2 a]
def Ag.eq:Ag (·=·):=⟨λw F=>by rw[w.eq,F.eq],λw=>by rw[w.eq],λw=>by rw[w.eq],λw=>by rw[w.eq],λ_=>rfl⟩
def bt.mp(y:V->V):bt->bt|.cell J Z=>.cell J (y Z)|Z=>Z
def xx(y:V->V):List (Nat×V)->List (Nat×V)|[]=>[]|(X,Z)::D=>(X,y Z)::xx y D
def o3(M:Nat)(y:V->V):bb->bb|[]=>[]|(F,a)::D=>match Nat.beq M F with|true=>o3 M y D|false=>(F,a.mp y)::o3 M y D
def H_{y:V->V}:∀N X,(xx y N).lookup X=(N.lookup X).map y|[],_=>rfl|(F,Z)::D,X=>by rw[xx,oB,oB];cases w:X==F;exact H_ D X;rfl
def N2{ct:V->V->Prop}{y:V->V}{u an:bn}{N:List (Nat×V)}(w:∀X Z,N.lookup X=some Z->eA ct (Z.a u) ((y Z).a an)):∀X B,(cj an (xx y N)).lookup X=some B->∃Z,(cj u N).lookup X=some Z/\eA ct Z B:=by
 intro X B b;rw[jQ,H_] at b;rw[jQ];cases c:N.lookup X;simp_all
 next Z=>rw[c] at b;simp at b;subst b;exact⟨_,rfl,w X Z c⟩
section
variable{ct:V->V->Prop}{y:V->V}{u an:bn}{M:Nat}(av:∀Z,(y Z).cells.length=Z.cells.length)(ev:∀X,X≠M->an X=u X)
include av ev
theorem N4{F:Nat}(g:F≠M){b:bt}(w:∀J Z,b=.cell J Z->eA ct (Z.a u) ((y Z).a an)){N e:bd}(c:bW ct N e):bW ct (b7 u (F,b)::N) (b7 an (F,b.mp y)::e):=by unfold b7;simp[ev F g];cases b with|cell J Z=>simp[bt.mp,bt.ad,av];exact .BP (w J Z rfl) c|_=>exact .same _ c
theorem N3:∀N,(∀F J Z,(F,bt.cell J Z)∈N->F≠M->eA ct (Z.a u) ((y Z).a an))->∃b,b.Sublist (ar u N)/\bW ct b (ar an (o3 M y N))|[],_=>⟨[],.slnil,.nil⟩|(F,j)::D,w=>by let⟨b,e,g⟩:=N3 D λF J Z i=>w F J Z<|ki _ i;rw[o3];split;exists b,.cons _ e;rename_i c;let c:=(wR c).symm;exact⟨_::b,.cons_cons _ e,N4 av ev c (λJ Z h=>w F J Z (by simp[h]) c) g⟩
theorem WX:∀{N:bb}{c:bt},bI N M=some c->(∀F J Z,(F,bt.cell J Z)∈N->F≠M->eA ct (Z.a u) ((y Z).a an))->∃F,(ar u N)[F]?=some ((u M).1,c.ad u (u M).2)/\∃b,b.Sublist ((ar u N).eraseIdx F)/\bW ct b (ar an (o3 M y N)):=by
 intro N
 induction N
 grind[bI]
 next r D p=>
  intro c w g;let⟨F,k⟩:=r;let h:=λF J Z o=>g F J Z<|ki _ o;unfold bI at w;rw[o3];split at w;rename_i he;simp at w;subst w;let⟨b,e,j⟩:=N3 av ev D h;exists 0,by rw[mo he];rfl,b,e
  rename_i he;let⟨q,e,b,j,l⟩:=p w h;let i:=(wR he).symm;exact⟨q+1,FH,b7 u (F,k)::b,FH,N4 av ev i (λJ Z m=>g F J Z (by simp[m]) i) l⟩
end
def v0(M:Nat):V->V
|.cU X b a=>match Nat.beq X M with
 |true=>.undef|false=>.cU X b a
|.d X c len=>match Nat.beq X M with
 |true=>.undef|false=>.d X c len
|.dj X=>match Nat.beq X M with
 |true=>.undef|false=>.dj X
|.nt X=>match Nat.beq X M with
 |true=>.undef|false=>.nt X
|.jP X b a=>match Nat.beq X M with
 |true=>.undef|false=>.jP X b a
|Z=>Z
abbrev v1(M:Nat):V->V:=vG<|v0 M
abbrev bt.zz(M:Nat):bt->bt:=bt.mp<|v1 M
abbrev xu(M:Nat):List (Nat×V)->List (Nat×V):=xx<|v1 M
abbrev nC(M:Nat):bb->bb:=o3 M<|v1 M
def CO:bb->Nat->bt->bb|[],_,_=>[]|(F,a)::D,M,B=>match Nat.beq M F with|true=>(F,B)::nC M D|false=>(F,a.zz M)::CO D M B
def fJ:bb->Nat->bt->bb|[],_,_=>[]|(F,Z)::D,X,B=>match Nat.beq X F with|true=>(F,B)::D|false=>(F,Z)::fJ D X B
def am.fresh(O:am)(M:Nat)(B:bt)(U:V):am:=⟨(M,U)::xu M O.h,nC M O.c++[(M,B.zz M)],O.l⟩
def am.H9(O:am)(X:Nat)(B:bt):am:=⟨xu X O.h,CO O.c X B,O.l⟩
inductive fS:V->V->Prop|own (E W H t:Nat):fS (.own E W H t) .undef|a7 (E W H t:Nat):fS (.a7 E W H t) .undef|hF (E W:Nat):fS (.hF E W) .undef
theorem fS.one:uX fS:=λZ B w=>by cases w<;>exists rfl
theorem fS.eZ{S:aF}:∀Z B,fS Z B->∀a,aE S Z a->aE S B a:=λZ B w a _=>by cases w<;>exact .undef a
section
variable{an:bn}{M:Nat}(ev:∀X,X≠M->an X=u X)
include ev
omit ev in
theorem Zr:yr (v0 M):=λZ=>by cases Z<;>first|exact .inl rfl|(simp only[v0];split<;>first|exact .inl rfl|exact .inr ⟨rfl,rfl⟩)
theorem aph Z:eA fS (Z.ew u) ((v0 M Z).ew an):=by cases Z with|cU X b a=>simp[v0];split;exact .base _ _<|.own ..;rename_i w;simp[V.ew,ev X<|wR w];exact .refl _|d X b a=>simp[v0];split;exact .base _ _<|.a7 ..;rename_i w;simp[V.ew,ev X<|wR w];exact .refl _|dj X=>simp[v0];split;exact .base _ _<|.hF ..;rename_i w;simp[V.ew,ev X<|wR w];exact .refl _|nt X=>simp[v0];split;exact .base _ _<|.own ..;rename_i w;simp[V.ew,ev X<|wR w];exact .refl _|jP X b a=>simp[v0];split;exact .base _ _<|.own ..;rename_i w;simp[V.ew,ev X<|wR w];exact .refl _|_=>exact .refl _
theorem Jq Z:eA fS (Z.a u) ((v1 M Z).a an):=DB Zr .n1 (L:=λ_=>True) (λZ _=>aph ev Z) λ_=>ON (λ_=>trivial) Z
omit ev in
theorem Pd(Z:V):(v1 M Z).cells.length=Z.cells.length:=DC Zr Z
theorem bt.api{F:Nat}(c:F≠M)b{N a:bd}(w:bW fS N a):bW fS (b7 u (F,b)::N) (b7 an (F,b.zz M)::a):=N4 Pd ev c (λ_ Z _=>Jq ev Z) w
theorem Ew N:∃a,a.Sublist (ar u N)/\bW fS a (ar an (nC M N)):=N3 Pd ev N λ_ _ Z _ _=>Jq ev Z
theorem af1(i:(an M).1=(u M).1)B:∀{N:bb}{b:bt},bI N M=some b->∃F,(ar u N)[F]?=some ((u M).1,b.ad u (u M).2)/\∃a,a.Sublist ((ar u N).set F ((u M).1,B.ad an (an M).2))/\bW fS a (ar an (CO N M B)):=by
 intro N
 induction N
 grind[bI]
 next m D j=>
  intro b w;let⟨F,k⟩:=m;unfold bI at w;split at w;rename_i he;let g:=mo he;simp at w;subst w;let⟨a,c,e⟩:=Ew ev D;exists 0,by rw[g];rfl,_::a,.cons_cons _ c
  rw[CO,he];show bW _ _ (b7 an _::ar an _);have:b7 an (F,B)=((u M).1,B.ad an (an M).2):=by rw[b7,<-g,i]
  rw[this];exact .same _ e;rename_i he;let⟨l,c,a,e,h⟩:=j w;refine⟨l+1,FH,b7 u (F,k)::a,?_,?_⟩;grind[ar];rw[CO,he];exact bt.api ev (wR he).symm k h
omit ev in
theorem bW.nf{ct:V->V->Prop}{o j:bd}(m:bW ct o j):∀{N e:bd},bW ct N e->bW ct (N++o) (e++j):=by
 intro N e w
 induction w with|nil=>exact m|same p _ a=>exact .same p a|n c g k J h i b w _ a=>exact .n c g k J h i b w a|map c g l h i b w _ a=>exact .map c g l h i b w a
theorem Bg N:∀X B,(cj an (xu M N)).lookup X=some B->∃Z,(cj u N).lookup X=some Z/\eA fS Z B:=N2 λ_ Z _=>Jq ev Z
theorem aH.fresh{O:am}{B:bt}{U oQ:V}{c:Nat}{b:bM}{E:Act}{I:World}{S:aF}(m:eA fS U (oQ.a an))(av:bW fS [(c,b)] [b7 an (M,B.zz M)])(w:aH s (({O.a u with l:=(O.a u).l++[(c,b)]}:aw).put (some M) U) E I S):aH s ((O.fresh M B oQ).a an) E I S:=by
 obtain⟨i,g,j⟩:=Ew ev _;let e:aH s ⟨(M,U)::cj u _,O.l++i++[(c,b)]⟩ E I S:=⟨w.ci.drop<|s3 (s3 (s4 _) g)<|s4 _,w.h,w.fk,w.size,w.defers⟩;refine e.n2 (aF.le.refl S) e.ci fS.eZ fS.one (λX k ap=>?_) ?_;simp[am.fresh,cj,gU,oB] at ap⊢;cases aU:X==M with|true=>simp_all|false=>rw[aU] at ap;exact Bg ev _ X k ap
 show bW _ _ (O.l++ar an (nC M _++[(M,B.zz M)]));grind[ar,o3,bW.nf,bW.refl]
end
theorem se ad u:∀{N:bb}{X:Nat}{Z:bt},bI N X=some Z->∃F,(ad++ar u N)[F]?=some ((u X).1,Z.ad u (u X).2)/\∀B,(ad++ar u N).set F ((u X).1,B.ad u (u X).2)=ad++ar u (fJ N X B):=by
 let e:∀{N:bb}{X:Nat}{Z:bt},bI N X=some Z->∃F,(ar u N)[F]?=some ((u X).1,Z.ad u (u X).2)/\∀B,(ar u N).set F ((u X).1,B.ad u (u X).2)=ar u (fJ N X B):=by
  intro N
  induction N
  grind[bI]
  next g D b=>intro X Z w;let⟨F,k⟩:=g;unfold bI at w;split at w;rename_i he;have:=mo he;subst this;simp at w;subst w;refine⟨0,rfl,λB=>?_⟩;simp[fJ,ar,gU,Fv,b7];let⟨c,h,a⟩:=b w;refine⟨c+1,FH,λB=>?_⟩;grind[fJ,ar]
 intro N X Z w;let⟨F,i,a⟩:=e w;refine⟨ad.length+F,aM,λB=>?_⟩;simp_all
def eD(u:bn)(M:Nat)(a:Nat×Nat):bn:=λX=>if X=M then a else u X
theorem iu u M a:eD u M a M=a:=by simp[eD]
theorem hd{u:bn}{M:Nat}{a:Nat×Nat}{X:Nat}:X≠M->eD u M a X=u X:=by grind[eD]
theorem bS.qW{ops:Array Oper}{N:List Oper}{R dd:aw}{e:Exit->aw->Prop}(c:∀E I S,aH s R E I S->aH s dd E I S)(w:bS T s ops N dd e):bS T s ops N R e:=λb E I S a=>w b E I S<|c E I S a
def Mb(z:bV)(m:List (Nat×V))(o:Nat)(c4:List Nat)(O:am)(P:Oper):Option am:=match P.op with
|.store X k Z=>match z.find X with
 |some b=>match val m O.h k,val m O.h Z with
  |some (.cU dq j e),some a=>match a.fits,bI O.c dq with
   |true,some (.cell J i)=>match RR z J with
    |true=>none|false=>match j with
     |_+1=>none|0=>match i with
      |.agg g=>match Nat.beq a.cells.length b.size,Nat.ble (e+b.size) g.length with|true,true=>some ({O with c:=fJ O.c dq (.cell J<|.agg<|g.take e++a.cells++g.drop (e+a.cells.length))}.put P.dst .undef)|_,_=>none
      |i=>match i.cells,a.one,e,Nat.beq b.size 1 with|[_],true,0,true=>some ({O with c:=fJ O.c dq (.cell J a)}.put P.dst .undef)|_,_,_,_=>none
   |_,_=>none
  |_,_=>none
 |none=>none
|.box X Z=>match P.dst,val m O.h Z with
 |some M,some a=>match a.fits,Nat.blt M o with|true,true=>some (O.fresh M (.cell X a)<|.cU M 0 0)|_,_=>none
 |_,_=>none
|.alloc X=>match P.dst,z.find X with
 |some M,some b=>match b.agg&&!b.R,Nat.blt M o with|false,true=>some (O.fresh M (.cell X<|V.zero b.z)<|.cU M 0 0)|_,_=>none
 |_,_=>none
|.makeMap X none=>match P.dst with
 |some M=>match Nat.blt M o with|true=>some (O.fresh M (.map [] 0)<|.dj M)|false=>none
 |none=>none
|_=>none
def V.asU k:(V.zero k).plain:=by unfold V.zero;grind[V.V6,V.V5]
def V.abz k:(V.zero k).cells.length=k.cells.size:=by
 unfold V.zero;split;simp[V.cells,Value.cells];let a:(V.leaf k).cells=[V.leaf k]:=by unfold V.leaf;split<;>rfl
 grind[Value.cells]
def Bw{Z:V}:Z.one->Z.cells=[Z]:=by cases Z<;>simp_all[V.cells,V.one]
def LN{u:bn}{M b:Nat}{X:TypeId}{Z:V}:bW fS [(b,.n 0 Z.cells.length X [Z.a u])] [b7 (eD u M (b,0)) (M,(bt.cell X Z).zz M)]:=by simp[b7,bt.mp,bt.ad,iu,Pd];exact .BP (Jq (λX aU=>hd aU) Z) .nil
def agO{z:bV}(Y:e2 T z)(ax:dp s.G){o:Nat}{c4:List Nat}{O al:am}{ops:Array Oper}{N:List Oper}{e:Exit->aw->Prop}(w:Mb z s.G o c4 O P=some al)(A:(O.a u).guard ops P=some true)(ae:∀an,(∀X,o<=X->an X=u X)->bS T s ops N (al.a an) e):bS T s ops (P::N) (O.a u) e:=by
 let D:∀{Z:Operand}{M:V},val s.G O.h Z=some M->(O.a u).val s Z=some (M.a u):=(uB ax);let H:∀{E W:Nat},Nat.blt E W->E<W:=λ{E W} w=>mq (show Nat.ble (E+1) W=true from w);unfold Mb at w;split at w;rename_i X aF Z m;split at w;rename_i C Q;let aj:=(Y.find Q).K;split at w;rename_i dq aE j g ai R;split at w;rename_i J el y ay;split at w;cases w;split at w;cases w;let⟨F,ag,ah⟩:=se O.l u ay;let ak:=D R;split at w;rename_i i;split at w;rename_i r q;simp only[fc] at w;subst w;let r:=mo r;let q:j+C.size<=i.length:=mq q;let L:=ah<|.cell J<|.agg<|i.take j++g.cells++i.drop (j+g.cells.length);let hlen:(i.take j++g.cells++i.drop (j+g.cells.length)).length=i.length:=by simp[c_,m7,z2];omega
 let az:=V.oh (u:=u) y;apply bS.n5 A (yZ aj m (D ai) ag (el:=(V.agg i).a u) rfl ak (V.ub y) b (by rw[V.ua];exact q)
  (show(i.map (V.dZ u)).take j++(g.a u).cells++(i.map (V.dZ u)).drop (j+(g.a u).cells.length)=(i.map (V.dZ u)).take j++(g.a u).cells++(i.map (V.dZ u)).drop (j+C.size) by simp_all))
 have:({(O.a u) with l:=(O.a u).l.set F ((u dq).1,.n (u dq).2 (V.agg i).cells.length J<|[(V.agg i).a u].set 0<|((V.agg i).a u).nJ j (g.a u).cells)})=({O with c:=fJ O.c dq (.cell J<|.agg<|i.take j++g.cells++i.drop (j+g.cells.length))}).a u:=by
  let aq:((V.agg i).a u).nJ j (g.a u).cells=(V.agg<|i.take j++g.cells++i.drop (j+g.cells.length)).a u:=by show V.agg ((i.map (V.dZ u)).take j++(g.a u).cells++(i.map (V.dZ u)).drop (j+(g.a u).cells.length))=V.agg ((i.take j++g.cells++i.drop (j+g.cells.length)).map (V.dZ u));rw[az,aS,cD,cD,z4,Ks]
  let av:(V.agg<|i.take j++g.cells++i.drop (j+g.cells.length)).cells.length=(V.agg i).cells.length:=hlen;show(⟨_,_⟩:aw)=⟨_,_⟩;congr 1;rw[<-L,aq];simp only[bt.ad,av,Fv];rfl
 rw[this];let k:=ae u λ_ _=>rfl;rw[am.kG] at k;exact k;simp_all;rename_i aB;split at w;rename_i B r q k;simp[fc] at w;subst w;let k:=mo k;let ao:=Bw q;let ap:(g.a u).cells=[g.a u]:=Bw<|V.Iy q;let L:=ah<|.cell J g;let aC:(el.a u).nJ 0 (g.a u).cells=g.a u:=by
  rw[ap];unfold V.nJ;split;rename_i N aA;cases el<;>first|exact absurd rfl (aB _)|cases aA
  rfl
 let aD:(el.a u).cells.length=1:=by rw[V.ua,r];rfl
 apply bS.n5 A<|yZ aj m (D ai) ag (el:=el.a u) rfl ak (V.ub y) b v aM;have:({(O.a u) with l:=(O.a u).l.set F ((u dq).1,.n (u dq).2 el.cells.length J<|[el.a u].set 0<|(el.a u).nJ 0 (g.a u).cells)})=({O with c:=fJ O.c dq (.cell J g)}).a u:=by rw[aC];show(⟨_,_⟩:aw)=⟨_,_⟩;congr 1;rw[<-L];simp[bt.ad,r,ao];rfl
 rw[this];let k:=ae u λ_ _=>rfl;rw[am.kG] at k;exact k;simp_all;simp_all;simp_all;simp_all;rename_i X Z m;split at w;rename_i M g x R;split at w;rename_i y hm;simp[fc] at w;subst w;let hm:=H hm;refine bS.box A m (D R) (V.ub y) rfl λp=>?_;rw[x,V.ua];apply bS.qW λE I S t=>aH.fresh (an:=eD u M (p,0)) (λX aU=>hd aU) (U:=.own p 0 0 0) (oQ:=.cU M 0 0) (B:=.cell X g) (by simp[V.a,V.jb,V.dZ,V.ew,iu];exact .refl _) LN t;grind[hd];simp_all;simp_all;rename_i X m;split at w;rename_i M C x Q;split at w;rename_i _ hm;simp[fc] at w;subst w;let hm:=H hm;refine bS.alloc A m (Y.find Q).ld rfl λp=>?_;rw[x,<-V.abz,<-V.eC (u:=u) (V.asU C.z),V.ua];apply bS.qW λE I S t=>aH.fresh (an:=eD u M (p,0)) (λX aU=>hd aU) (U:=.own p 0 0 0) (oQ:=.cU M 0 0) (B:=.cell X<|V.zero C.z) (by simp[V.a,V.jb,V.dZ,V.ew,iu];exact .refl _) LN t;grind[hd];simp_all;simp_all;rename_i X m;split at w;rename_i M x;split at w;rename_i hm;simp[fc] at w;subst w;let hm:=H hm;refine bS.makeMap A m λp=>?_;rw[x];apply bS.qW λE I S t=>aH.fresh (an:=eD u M (p,0)) (λX aU=>hd aU) (U:=.hF p 0) (oQ:=.dj M) (B:=.map [] 0) (by simp[V.a,V.jb,V.dZ,V.ew,iu];exact .refl _) (by simp[b7,bt.zz,bt.ad,iu];exact .same _ .nil) t;grind[hd];simp_all;simp_all;simp_all
def Zo{P:Oper}{a:List (Nat×V)}{X:Nat}(w:X∈x0 P):(cR P a).lookup X=a.lookup X:=by
 unfold cR;generalize x0 P=N at w
 induction N
 grind
 next F N h=>
  rw[Qc];by_cases c:X=F;subst c;cases e:a.lookup X;simp only[FB];by_cases hm:X∈N;grind;cases g:(N.filterMap _).lookup X;rfl
  next Z=>have:=NU g;simp_all
  next Z=>simp
  let hm:X∈N:=by rcases eT.1 w with b|b;omega;exact b
  cases e:a.lookup F;simp_all
  next Z=>grind
theorem vZ P b:cR P (cj u b)=cj u (cR P b):=by
 unfold cR;generalize x0 P=N
 induction N
 rfl
 next F N a=>
  rw[Qc,Qc,jQ];cases b.lookup F;simpa using a
  next Z=>simp[iP,cj,gU] at a⊢;rw[a]
theorem wc m{P:Oper}{a:List (Nat×V)}{Z:Operand}(w:Z∈P.op.operands.toList):val m (cR P a) Z=val m a Z:=by cases Z with|tmp X=>simp[val,pL];apply Zo;unfold x0;grind|_=>rfl
theorem J3 m{a b:List (Nat×V)}:∀{N:List Operand},(∀Z∈N,val m b Z=val m a Z)->jY m b N=jY m a N|[],_=>rfl|Z::D,w=>by unfold jY;rw[w Z af,J3 m λB c=>w B aM]
theorem OH m{a b:List (Nat×V)}:∀{N:List (Nat×Operand)},(∀Z∈N,val m b Z.2=val m a Z.2)->pR m b N=pR m a N|[],_=>rfl|(c,Z)::D,w=>by unfold pR;rw[w (c,Z) af,OH m λB e=>w B aM]
theorem arP{z:bV}{m:List (Nat×V)}{a:List (Nat×V)}{c:bb}{P:Oper}:qX z m (cR P a) c P=qX z m a c P:=by
 let b:∀Z∈P.op.operands.toList,val m (cR P a) Z=val m a Z:=λZ h=>wc m h;unfold qX;cases g:P.op<;>rw[g] at b<;>simp only[Op.operands] at b<;>try rfl
 case call e=>grind[Call.operands]
 case unOp aP X Z=>cases aP<;>first|rfl|(dsimp;rw[b Z af])
 case makeFunc fn E W=>grind[J3]
 case build X i=>grind[OH]
 case pick e Z B=>simp_all
 case binOp op X Z B dq=>simp_all
 all_goals simp_all
def cb.full{R:aw}{P:Oper}{D:V}(w:cb T s P ⟨cR P R.h,R.l⟩ D):cb T s P R D:=λE I S a b c g=>w E I S ⟨a.ci,λX Z i=>a.h X Z (by let⟨j,e⟩:=Eu i;exact e),a.fk,a.size,a.defers⟩ b c g
def aa2{z:bV}(g:e2 T z)(e:dp s.G){c:List (Nat×V)}{b:bb}{ad:bd}{D:V}:qX z s.G c b P=some D->cb T s P ⟨cR P (cj u c),ad++ar u b⟩ (D.a u):=by grind[vZ,aa1,arP]
end
def ud:List Oper->Nat->Option Oper|[],_=>none|P::_,0=>some P|_::N,Y+1=>ud N Y
def Xs:∀N Y,ud N Y=N.toArray[Y]?|[],Y=>ax|P::N,0=>ax|P::N,Y+1=>by rw[ud,Xs N Y];simp
structure cd(o:Nat)(u an:bn):Prop where
 id:∀X,o<=X->(an X).1=(u X).1
 eq:∀X,o+1000<=X->an X=u X
theorem cd.refl o u:cd o u u:=⟨λ_ _=>rfl,λ_ _=>rfl⟩
theorem cd.trans{o:Nat}{E W a:bn}(w:cd o E W)(F:cd o W a):cd o E a:=⟨λX aU=>(F.id X aU).trans<|w.id X aU,λX aU=>(F.eq X aU).trans<|w.eq X aU⟩
theorem cd.of{o:Nat}{E W:bn}(w:∀X,o<=X->W X=E X):cd o E W:=⟨λX aU=>b,λX aU=>w X v⟩
def kx(e:List Oper)(b:List (Nat×V))(P:Oper):Option Bool:=match P.guard with
|none=>some true|some (a,I)=>match ud e a with
 |some c=>match c.dst with
  |some M=>match eM b M with
   |some (.bool W)=>match I with|true=>some W|false=>some !W
   |some (.tuple [])=>some false|_=>none
  |none=>none
 |none=>none
def rr{e:List Oper}{O:am}{P:Oper}{W:Bool}u(w:kx e O.h P=some W):(O.a u).guard e.toArray P=some W:=by
 unfold kx at w;unfold aw.guard;split at w;simp_all;rename_i l I i
 try (rw[i];dsimp)
 split at w;rename_i m c;rw[Xs] at c;rw[c];split at w;rename_i M k;simp[Option.bind_some,k];rw[pL] at w;let b:=jQ u O.h M;split at w;rename_i g j;rw[j] at b;simp[am.a,b,V.a];rw[<-w];cases I<;>cases g<;>rfl;grind[am.a,V.a];trivial;trivial;trivial
def xe:Option (Nat×Bool)->Option (Nat×Bool)->Bool
|none,none=>true|some (E,Z),some (W,B)=>match Nat.beq E W with
 |true=>match Z,B with|true,true=>true|false,false=>true|_,_=>false
 |false=>false
|_,_=>false
def ahL{E W:Option (Nat×Bool)}(w:xe E W):E=W:=by unfold xe at w;grind[Nat.eq_of_beq_eq_true]
def EM(y:Option (Nat×Bool)):List Oper->List Oper×List Oper|[]=>([],[])|P::N=>match xe y P.guard with|true=>([],P::N)|false=>match EM y N with|(E,W)=>(P::E,W)
def Px(y:Option (Nat×Bool)):∀N,(EM y N).1++(EM y N).2=N|[]=>rfl|P::N=>by rw[EM];split;rfl;simp[Px y N]
def gI(X:Nat):List Nat->Bool|[]=>false|F::N=>match Nat.beq X F with|true=>true|false=>gI X N
theorem oe{X:Nat}:∀{N:List Nat},gI X N↔X∈N|[]=>by simp[gI]|F::N=>by rw[gI];split;simp_all;rename_i w;rw[oe,eT];constructor;simp_all;rintro(rfl|a);simp at w;omega
def hS:List Oper->List Nat|[]=>[]|P::N=>match P.dst with|some M=>M::hS N|none=>hS N
def vi(a:List Nat):List (Nat×V)->List (Nat×V)|[]=>[]|(X,Z)::D=>match gI X a with|true=>vi a D|false=>(X,Z)::vi a D
def NG{a:List Nat}:∀{N:List (Nat×V)}{X:Nat}{Z:V},eM (vi a N) X=some Z->X∉a/\eM N X=some Z|[],X,Z,w=>bB|(F,B)::D,X,Z,w=>by rw[vi] at w;rw[eM];split at w;cases NG w;grind[Nat.eq_of_beq_eq_true,absurd,oe];rw[eM] at w;split at w;grind[Nat.eq_of_beq_eq_true,oe];exact NG w
theorem L8{a:List Nat}:∀{N:List (Nat×V)}{X:Nat}{Z:V},X∉a->eM N X=some Z->eM (vi a N) X=some Z|[],X,Z,_,w=>bB|(F,B)::D,X,Z,b,w=>by rw[vi];rw[eM] at w;split;split at w;grind[Nat.eq_of_beq_eq_true,absurd,oe];exact L8 b w;rw[eM];split at w;exact w;exact L8 b w
def zG(c:List Oper)(b:Nat)(I:Bool):List Nat->List Oper->Bool
|_,[]=>true|a,P::N=>match P.guard with
 |none=>false|some (e,aT)=>match xe (some (b,I)) (some (e,aT)) with
  |true=>zG c b I (match P.dst with|some M=>M::a|none=>a) N|false=>match ud c e with
   |some g=>match g.dst with
    |some M=>match gI M a with|true=>zG c b I (match P.dst with|some M=>M::a|none=>a) N|false=>false
    |none=>false
   |none=>false
def I2(M:Nat)(I:Bool):Op->Option Nat
|.pick (.tmp a) Z B=>match Nat.beq a M with
 |true=>match I,Z,B with|true,.tmp X,.const (.bool false)=>some X|false,.const (.bool true),.tmp X=>some X|_,_,_=>none
 |false=>none
|_=>none
def anT:Op->Bool
|.binOp .. |.unOp .. |.indexAddr .. |.index .. |.slice .. |.convert .. |.load .. |.fieldAddr .. |.nilCheck .. |.field .. |.lookup .. |.pick .. |.extract .. |.makeInterface .. =>true|.call a=>match a.callee with
 |.builtin .len|.builtin .cap|.builtin .min|.builtin .max=>true|_=>false
|_=>false
def MC(e:List Oper)(a:List Nat)(P:Oper):Bool:=match P.guard with
|none=>true|some (b,_)=>match ud e b with
 |some c=>match c.dst with|some M=>!gI M a|none=>false
 |none=>false
section
variable(T:Program)(z:bV)(s:a2)(m:List (Nat×V))(o:Nat)(c4:List Nat)
def QN(ops:Array Oper)(N:List Oper)(O:am)(F:am->Prop):Prop:=∀(u:bn)(e:Exit->aw->Prop),(∀an b,cd o u an->F b->e .normal (b.a an))->bS T s ops N (O.a u) e
structure fR(ops:Array Oper)(P:Oper)(O:am)(F:am->Prop):Prop where
 run:e2 T z->s.G=m->dp m->∀(u:bn)(N:List Oper)(e:Exit->aw->Prop),(O.a u).guard ops P=some true->(∀an dF,cd o u an->F dF->bS T s ops N (dF.a an) e)->bS T s ops (P::N) (O.a u) e
inductive c2(G:Bool)(P:Oper)(O:am)(F:V->Prop):Prop|mk (D:V):(e2 T z->s.G=m->dp m->∀u ad,G\/ad=(O.a u).l->cb T s P ⟨cR P (cj u O.h),ad⟩ (D.a u))->F D->c2 G P O F
structure ay(t:Code)(O:am)(e:Exit->am->Prop):Prop where
 run:∀(u:bn)(QR:Exit->aw->Prop),(∀an J dF,cd o u an->e J dF->QR J (dF.a an))->dE T s t (O.a u) QR
inductive kN(W:Bool)(mw ct:Prop):Prop|mk:(W=true->mw)->(W=false->ct)->kN W mw ct
inductive Aj(W I:Bool)(mw:Bool->Prop)(ct:Bool->Prop):Prop|mk (B:Bool):(W=I->mw B)->ct B->Aj W I mw ct
def qh(I W B:Bool):Bool:=match I with|true=>W&&B|false=>W||B
def xc{a:Type}:List (Nat×a)->(List (Nat×a)->Prop)->Prop|[],F=>F []|(X,Z)::D,F=>xc D λb=>F<|(X,Z)::b
theorem AV{a:Type}:∀N(F:List (Nat×a)->Prop),xc N F↔F N|[],F=>lI|(X,Z)::D,F=>by rw[xc,AV D]
def Hd:List V->(List V->Prop)->Prop|[],F=>F []|Z::D,F=>Hd D λa=>F<|Z::a
theorem Uj:∀N F,Hd N F↔F N|[],F=>lI|Z::D,F=>by rw[Hd,Uj D]
def Mv:V->(V->Prop)->Prop|.agg N,F=>Hd N (λa=>F<|.agg a)|Z,F=>F Z
theorem Uh a F:Mv a F↔F a:=by cases a<;>first|rfl|exact Uj _ _
def He(W:Bool)(D:V)(F:V->Prop):Prop:=match W with|true=>Mv D F|false=>F D
theorem Dc(W:Bool)D F:He W D F↔F D:=by cases W;rfl;exact Uh D F
def Ld(z:bV):Op->Bool
|.load X _=>match z.find X with
 |some a=>a.agg|none=>false
|.field X _ e=>match z.find X with
 |some a=>match a.aN[e]? with
  |some (_,c,_)=>match z.find c with|some b=>b.agg|none=>false
  |none=>false
 |none=>false
|.build .. =>true|_=>false
def Hc(X:Nat):bb->(bb->Prop)->Prop
|[],F=>F []|(Y,Z)::D,F=>match Nat.beq X Y with
 |true=>match Z with|.cell J c=>Mv c (λb=>F<|(Y,.cell J b)::D)|Z=>F ((Y,Z)::D)
 |false=>Hc X D λa=>F<|(Y,Z)::a
theorem Ui X:∀N F,Hc X N F↔F N
|[],F=>lI|(Y,Z)::D,F=>by
 let b:=Ui X D λa=>F<|(Y,Z)::a;unfold Hc;split;cases Z<;>first|exact lI|simp[Uh]
 omega
def aqV(m:List (Nat×V))(a:List (Nat×V)):Op->Option Nat
|.store _ b _=>match val m a b with
 |some (.cU X _ _)=>some X|_=>none
|_=>none
def Uk(X:Option Nat)(N:bb)(F:bb->Prop):Prop:=match X with|some X=>Hc X N F|none=>F N
theorem ahx X N F:Uk X N F↔F N:=by cases X;rfl;exact Ui _ N F
def eg(I W B:Bool):V:=match I with|true=>.bool (W&&B)|false=>.bool<|W||B
def ml(J:Bool)(a:List Oper):Nat->Option (Nat×Bool)->List Oper->am->(am->Prop)->Prop
|0,_,_,_,_=>False|_+1,_,[],O,F=>F O|Y+1,y,P::N,O,F=>match xe y P.guard with
 |true=>match kx a O.h P with
  |some true=>match qX z m O.h O.c P with
   |some D=>He (Ld z P.op) D (λD=>ml J a Y y N (O.put P.dst D) F)|none=>match y,J with
    |none,true=>match Mb z m o c4 O P with|some g=>xc g.h (λj=>xc g.c λkt=>Uk (aqV m O.h P.op) kt (ml J a Y none N ⟨j,·,g.l⟩ F))|none=>match anT P.op with|false=>fR T z s m o a.toArray P O (ml J a Y none N · F)|true=>c2 T z s m false P O (λD=>ml J a Y none N (O.put P.dst D) F)
    |p,_=>c2 T z s m false P O (λD=>ml J a Y p N (O.put P.dst D) F)
  |_=>False
 |false=>match P.guard with
  |none=>False|some (i,I)=>match ud a i with
   |none=>False|some r=>match r.dst with
    |none=>False|some M=>match eM O.h M with
     |some (.bool W)=>match EM y (P::N) with
      |(b,e::q)=>match xe y e.guard,kx a O.h e,e.dst,I2 M I e.op,zG a i I [] b,gI M (hS b),MC a (hS b) e with
       |true,some true,some k,some t,true,false,true=>
        Aj W I (λB=>ml J a Y (some (i,I)) b {O with h:=(M,.bool I)::O.h} (λg=>eM g.h t=some (.bool B)))
         (λB=>xc (vi (hS b) O.h) λj=>ml J a Y y q {O with h:=(k,eg I W B)::j} F)|_,_,_,_,_,_,_=>False
      |_=>False
     |_=>False
end
section
variable{T:Program}{z:bV}{s:a2}{m:List (Nat×V)}{o:Nat}{c4:List Nat}
def aH.wd{R:aw}{E:Act}{I:World}{S:aF}(w:aH s R E I S){N:List (Nat×V)}(a:∀X Z,N.lookup X=some Z->R.h.lookup X=some Z):aH s ⟨N,R.l⟩ E I S:=⟨w.ci,λX Z b=>w.h X Z<|a X Z b,w.fk,w.size,w.defers⟩
def bS.wd{ops:Array Oper}{N:List Oper}{R:aw}{e:Exit->aw->Prop}a(g:∀X Z,a.lookup X=some Z->R.h.lookup X=some Z)(w:bS T s ops N ⟨a,R.l⟩ e):bS T s ops N R e:=λc E I S b=>w c E I S<|b.wd g
theorem HZ(O:am)M Z X:eM (O.put (some M) Z).h X=if X=M then some Z else eM O.h X:=by simp[am.put,eM];cases w:Nat.beq X M with|true=>simp_all|false=>rw[aa];intro J;simp_all
structure mx(O dF:am)(q6:List Nat):Prop where
 c:dF.c=O.c
 l:dF.l=O.l
 h:∀X∉q6,∀Z,eM O.h X=some Z->eM dF.h X=some Z
theorem mx.refl O a:mx O O a:=⟨rfl,rfl,λ_ _ _ w=>w⟩
theorem mx.put{O e:am}{b:List Nat}{P:Oper}{D:V}{N:List Oper}(w:mx (O.put P.dst D) e (hS N))(g:b=hS (P::N)):mx O e b:=by subst g;cases a:P.dst with|none=>rw[a] at w;simp[hS,a];exact w|some M=>rw[a] at w;simp[hS];refine⟨w.c,w.l,λX aU Z j=>w.h X (λi=>aU aM) Z ?_⟩;simp_all[HZ,aa]
theorem GS:∀E W,hS (E++W)=hS E++hS W|[],W=>rfl|P::E,W=>by rw[wm,hS,hS];cases P.dst<;>simp[GS E W]
def UG{c:List Oper}{O g:am}{b:List Nat}{P:Oper}(a:MC c b P)(w:mx O g b)(e:kx c O.h P=some true):kx c g.h P=some true:=by
 unfold MC at a;unfold kx at e⊢;split at a;rfl
 try simp at e⊢
 split at a;split at a;rename_i M l;let j:M∉b:=λk=>by grind[oe]
 cases i:eM O.h M;simp_all
 next Z=>rw[w.h M j Z i];simp_all
 trivial;trivial
structure yu(T:Program)(s:a2)(ops:Array Oper)(iS:List Oper->aw->Prop):Prop where
 pure:∀P N R D,R.guard ops P=some true->cb T s P ⟨cR P R.h,R.l⟩ D->iS N (R.put P.dst D)->iS (P::N) R
 skip:∀P N R,R.guard ops P=some false->iS N (R.put P.dst (.tuple []))->iS (P::N) R
 zT:∀N R DE,(∀X Z,DE.lookup X=some Z->R.h.lookup X=some Z)->iS N ⟨DE,R.l⟩->iS N R
def bS.rules ops e:yu T s ops (bS T s ops · · e):=⟨λ_ _ _ _ a b w=>bS.pure a b.full w,λ_ _ _ a w=>bS.skip a w,λ_ _ g c w=>bS.wd _ c w⟩
def yu.abp{ops:Array Oper}{b:List Oper->aw->Prop}(e:yu T s ops b){N:List Oper}{O dF:am}{u:bn}(j:dF.c=O.c)(k:dF.l=O.l)(m:∀X Z,eM dF.h X=some Z->eM O.h X=some Z)(w:b N (dF.a u)):b N (O.a u):=by
 refine e.zT N _ (cj u dF.h) (λX Z g=>?_) ?_;rw[jQ] at g;show(cj u _).lookup X=some Z;rw[jQ];cases i:dF.h.lookup X;simp_all
 next B=>simp_all[pL]
 grind[am.a]
def Be(b:dp s.G){P:Oper}{O:am}{u:bn}{ad:bd}{Z:Operand}{M:V}(w:val s.G O.h Z=some M)(e:Z∈P.op.operands.toList)(c:M.plain):(⟨cR P (O.a u).h,ad⟩:aw).val s Z=some M:=by have:=uB b (u:=u) (h:=cR P O.h) (ad:=ad) (P:=Z) (Z:=M) (by grind[wc]);rwa [V.eC c,<-vZ] at this
def Pu{k:List Oper}{r:Nat}{I W:Bool}{B:Oper}{M:Nat}{u:bn}(z:ud k r=some B)(y:B.dst=some M)(x:W≠I){l:List Oper->aw->Prop}(m:yu T s k.toArray l){A:List Oper}:∀e c O,zG k r I c e->gI M (hS e)=false->M∉c->eM O.h M=some (.bool W)->(∀X∈c,eM O.h X=some (.tuple []))->(∀g,mx O g (hS e)->eM g.h M=some (.bool W)->l A (g.a u))->l (e++A) (O.a u)
|[],c,O,_,_,_,o,_,w=>w O (mx.refl O _) o|P::e,c,O,q,hm,E,o,C,w=>by
 let j:kx k O.h P=some false/\zG k r I (match P.dst with|some M=>M::c|none=>c) e=true:=by unfold zG at q;unfold kx;split at q;trivial;split at q;rename_i he;let he:=ahL he;grind;grind[oe]
 apply m.skip _ _ _<|rr u j.1;let J:=am.kG u O P.dst<|.tuple [];rw[show(V.tuple []).a u=.tuple [] from rfl] at J;cases i:P.dst;rw[i] at j;refine Pu z y x m e c O j.2 (by simpa[hS,i] using hm) E o C λg he p=>w g ?_ p;exact mx.put (D:=.tuple []) (by rw[i];exact he) rfl
 next t=>simp[hS,i,gI] at hm;split at hm;cases hm;let F:M≠t:=λJ=>b;rw[i] at j;refine Pu z y x m e _ (O.put (some t)<|.tuple []) j.2 hm b (by simp_all[HZ,aa]) ?_ λg he p=>w g ?_ p;grind[HZ,absurd];exact mx.put (D:=.tuple []) b rfl
def Yr{M b:Nat}{I:Bool}{a:Op}(w:I2 M I a=some b):I/\a=.pick (.tmp M) (.tmp b) (.const (.bool false))\/I=false/\a=.pick (.tmp M) (.const (.bool true)) (.tmp b):=by unfold I2 at w;split at w;split at w;rename_i he;have:=mo he;grind;trivial;trivial
def UE(k:dp s.G){q:List Oper}{K:Nat}{I W B:Bool}{L g:Oper}{M r x:Nat}{u:bn}{O:am}{e m:List Oper}{j:List Oper->aw->Prop}(o:yu T s q.toArray j)(ag:ud q K=some L)(S:L.dst=some M)(R:eM O.h M=some (.bool W))(aj:kx q O.h g=some true)(ak:g.guard=none\/True)(A:g.dst=some r)(E:I2 M I g.op=some x)(ah:zG q K I [] e)(Y:gI M (hS e)=false)(D:∀dF,mx O dF (hS e)->kx q dF.h g=some true)(U:W=I->∀m,(∀dF,eM dF.h x=some (.bool B)->mx {O with h:=(M,.bool I)::O.h} dF (hS e)->j m (dF.a u))->j (e++m) (({O with h:=(M,.bool I)::O.h}:am).a u))(w:j m (({O with h:=(r,.bool<|qh I W B)::vi (hS e) O.h}:am).a u)):j (e++g::m) (O.a u):=by
 let ae:M∉hS e:=λai=>by grind[oe]
 let y:∀dF,mx O dF (hS e)->j m ((dF.put (some r)<|.bool<|qh I W B).a u):=by intro dF he;refine o.abp (dF:={O with h:=(r,.bool<|qh I W B)::vi (hS e) O.h}) he.c.symm he.l.symm (λX Z p=>?_) w;rw[HZ];simp[eM] at p;split at p;simp_all;rw[aa λJ=>b];let⟨N,Q⟩:=NG p;exact he.h X N Z Q
 by_cases t:W=I;refine o.abp (dF:={O with h:=(M,.bool I)::O.h}) rfl rfl (λX Z p=>?_)<|U t _ λdF H he=>?_;grind[eM,Nat.eq_of_beq_eq_true];let C:mx O dF (hS e):=⟨he.c,he.l,λX aU Z p=>he.h X aU Z (by grind[eM,Nat.eq_of_beq_eq_true])⟩;let z:eM dF.h M=some (.bool I):=he.h M ae _ (by simp[eM]);apply o.pure _ _ _ (.bool<|qh I W B)<|rr u<|D dF C;rcases Yr E with⟨rfl,i⟩|⟨rfl,i⟩;apply Jd (X:=true) i<|Be k (P:=g) (O:=dF) (Z:=.tmp M) z (by grind[Op.operands]) rfl;have:=Be k (P:=g) (O:=dF) (u:=u) (ad:=(dF.a u).l) (Z:=.tmp x) H (by grind[Op.operands]) rfl;grind[qh];apply Jd (X:=false) i<|Be k (P:=g) (O:=dF) (Z:=.tmp M) z (by grind[Op.operands]) rfl;have:=Be k (P:=g) (O:=dF) (u:=u) (ad:=(dF.a u).l) (Z:=.tmp x) H (by grind[Op.operands]) rfl;grind[qh];rw[A];exact y dF C;refine Pu ag S t o e [] O ah Y af R af λdF he F=>?_;apply o.pure _ _ _ (.bool<|qh I W B)<|rr u<|D dF he;rcases Yr E with⟨rfl,i⟩|⟨rfl,i⟩;have:W=false:=by cases W;rfl;exact absurd rfl t
 subst this;exact Jd (X:=false) i (Be k (P:=g) (O:=dF) (Z:=.tmp M) F (by grind[Op.operands]) rfl) ax;have:W:=by cases W;exact absurd rfl t;rfl
 subst this;exact Jd (X:=true) i (Be k (P:=g) (O:=dF) (Z:=.tmp M) F (by grind[Op.operands]) rfl) ax;rw[A];exact y dF he
def Rv(I W B:Bool):eg I W B=.bool (qh I W B):=by cases I<;>rfl
def abt(C:e2 T z)(i:s.G=m)(q:dp m){J:Bool}{L:List Oper}{k:List Oper->aw->Prop}(p:yu T s L.toArray k):∀Y(y:Option (Nat×Bool)) N O F,J=false\/y≠none->ml T z s m o c4 J L Y y N O F->∀u e,(∀b,F b->mx O b (hS N)->k e (b.a u))->k (N++e) (O.a u):=by
 intro Y
 induction Y
 intro y N O F _ w;trivial
 next Y x=>
  intro y N O F r w u e j;cases N;exact j O w (mx.refl O _)
  next P N=>
   unfold ml at w;split at w;split at w;rename_i H;split at w;rename_i D t;rw[Dc] at w;apply p.pure _ _ _ _ (rr u H)<|aa2 C (i▸q)<|i.symm▸t;rw[<-am.kG];exact x y N _ F r w u e λb g he=>j b g<|mx.put he rfl;split at w;trivial;obtain @⟨D,t,w⟩:=w;apply p.pure _ _ _ _ (rr u H)<|t C i q u _<|.inr rfl;rw[<-am.kG];exact x y N _ F r w u e λb g he=>j b g<|mx.put he rfl;trivial;split at w;trivial;split at w;trivial;rename_i az ag;split at w;trivial;rename_i M U;split at w;rename_i W S;split at w;rename_i R aA ak aj;split at w;rename_i Q aB al A ad ah ai hm ae;cases w
   next B ap K=>rw[AV,Rv] at K;let I:=Px y<|P::N;rw[aj] at I;rw[<-I,ge,wm];refine UE (B:=B) (i▸q) p ag U S A (.inr trivial) ad ah ai hm (λb he=>UG ae he A) (λao ay an=>?_) ?_;grind;refine x y ak _ F r K u e λb g he=>j b g ⟨he.c,he.l,λX aU Z ax=>he.h X (λE=>aU ?_) Z ?_⟩;grind[GS,hS];let aq:X∉hS R:=λE=>aU (by grind[GS]);let av:X≠Q:=λE=>aU (by grind[GS,hS]);grind[eM,Nat.beq,absurd,Nat.eq_of_beq_eq_true,L8]
   trivial;trivial;trivial
theorem asL(g:e2 T z)(a:s.G=m)(b:dp m){C:List Oper}:∀Y N O F,ml T z s m o c4 true C Y none N O F->QN T s o C.toArray N O F:=by
 intro Y
 induction Y
 intro N O F w;trivial
 next Y h=>
  intro N O F w u e c;cases N;exact bS.nil (c u O (cd.refl o u) w)
  next P N=>
   unfold ml at w;split at w;split at w;rename_i i;split at w;rename_i D q;rw[Dc] at w;apply bS.pure (rr u i)<|aa1 g (a▸b)<|a.symm▸q;rw[<-am.kG];exact h N _ F w u e c;dsimp at w;split at w;rename_i j r;rw[AV,AV,ahx] at w;exact agO g (a▸b) (a.symm▸r) (rr u i) λan k=>h N j F w an e λag t l p=>c _ t (cd.trans (cd.of k) l) p;split at w;exact w.run g a b u N e (rr u i) λan j k r=>h N j F r an e λag t l p=>c _ t (k.trans l) p;obtain @⟨D,q,w⟩:=w;apply bS.pure (rr u i)<|cb.full<|q g a b u _<|.inr rfl;rw[<-am.kG];exact h N _ F w u e c;trivial;split at w;trivial;split at w;trivial;rename_i aj S;split at w;trivial;rename_i M K;split at w;rename_i W I;split at w;rename_i E ak ad Z;split at w;rename_i ah al ai x L U X hm Q;cases w
   next B R A=>rw[AV,Rv] at A;let y:=Px none<|P::N;rw[Z] at y;rw[<-y];refine UE (B:=B) (a▸b) (bS.rules _ _) S K I x (.inr trivial) L U X hm (λj he=>UG Q he x) (λJ ae H=>?_) ?_;exact abt g a b (bS.rules _ _) Y _ E _ _ (.inr af) (R J) u ae H;exact h ad _ F A u e c
   trivial;trivial;trivial
end
def rM(next:am->Prop)(e:Exit->am->Prop):Exit->am->Prop|.normal,O=>next O|J,O=>e J O
def R1(b:Nat)(e:Exit->am->Prop):Exit->am->Prop
|.exit a,O=>match Nat.beq a b with
 |true=>e .normal O|false=>e (.exit a) O
|J,O=>e J O
def qo(Y:Nat):List Oper->Bool
|[]=>true|P::N=>match P.dst with
 |some M=>match Nat.blt M Y with|true=>qo Y N|false=>false
 |none=>qo Y N
theorem yU{Y:Nat}:∀{N:List Oper},qo Y N->mD Y N|[],_=>rfl|P::N,w=>by rw[qo] at w;rw[mD,Kj,jD];split at w;split at w;exact⟨b,yU w⟩;trivial;exact⟨aM,yU w⟩
def agN:Op->Bool
|.store .. |.alloc .. |.box .. |.makeMap .. |.makeSlice .. |.mapUpdate .. |.insert .. |.mapEntry .. |.entryStore .. |.range .. |.next .. =>true|.call a=>match a.callee with
 |.builtin .len|.builtin .cap|.builtin .min|.builtin .max|.value _=>false|_=>true
|_=>false
def OW:List Oper->Bool|[]=>true|P::N=>match agN P.op with|true=>false|false=>OW N
inductive FR(bK:List Oper)(mw:Prop):Prop|mk:pK bK->mw->FR bK mw
def WH(c4:List Nat):Code->Bool|.cond (.tmp X) _ _=>gI X c4|.block id _=>gI (id+1000) c4|.region id _ _=>gI (id+2000) c4|.seq _ W=>WH c4 W|_=>false
section
variable(T:Program)(z:bV)(s:a2)(m:List (Nat×V))(o Y:Nat)(c4:List Nat)
def jg:Code->am->(Exit->am->Prop)->Prop
|.skip,O,e=>e .normal O|.ret,O,e=>e .ret O|.exit id,O,e=>e (.exit id) O|.label _,O,e=>e .normal O|.seq E W,O,e=>match WH c4 E with
 |true=>ay T s o (.seq E W) O e|false=>jg E O (rM (jg W · e) e)
|.cond a E W,O,e=>match val m O.h a with
 |some (.bool Z)=>kN Z (jg E O e) (jg W O e)|_=>False
|.block id a,O,e=>jg a O (R1 id e)|.region id ops b,O,e=>match b with
 |false=>match qo Y ops.toList with|true=>ml T z s m o c4 true ops.toList 4000 none ops.toList O (e .normal ·)|false=>False
 |true=>match OW ops.toList,qo Y ops.toList with
  |true,true=>FR ops.toList (ml T z s m o c4 false ops.toList 4000 none ops.toList O (e .normal ·))|_,_=>ay T s o (.region id ops true) O e
|a,O,e=>ay T s o a O e
end
section
variable{T:Program}{z:bV}{s:a2}{m:List (Nat×V)}{o Y:Nat}{c4:List Nat}
theorem ay.region{h:Nat}{ops:Array Oper}{O:am}{e:Exit->am->Prop}(av:s.n=Y)(j:qo Y ops.toList)(w:QN T s o ops.toList.toArray ops.toList O (e .normal ·)):ay T s o (.region h ops false) O e:=by refine⟨λu a b=>?_⟩;let J:ops=ops.toList.toArray:=af;apply dE.region (by grind[yU]);exact w u a λan i c g=>b an _ i c g
inductive p_(T:Program)(s:a2)(ops:Array Oper)(e:aw->Prop):List Oper->aw->Prop|nil (R:aw):e R->p_ T s ops e [] R|pure (P:Oper) (N:List Oper) (R:aw) (D:V):R.guard ops P=some true->cb T s P ⟨cR P R.h,R.l⟩ D->p_ T s ops e N (R.put P.dst D)->p_ T s ops e (P::N) R|skip (P:Oper) (N:List Oper) (R:aw):R.guard ops P=some false->p_ T s ops e N (R.put P.dst (.tuple []))->p_ T s ops e (P::N) R|zT (N:List Oper) (R:aw) (DE:List (Nat×V)):(∀X Z,DE.lookup X=some Z->R.h.lookup X=some Z)->p_ T s ops e N ⟨DE,R.l⟩->p_ T s ops e N R
def p_.rules ops e:yu T s ops (p_ T s ops e):=⟨.pure,.skip,.zT⟩
structure gQ(dd R:aw):Prop where
 h:∀X Z,dd.h.lookup X=some Z->R.h.lookup X=some Z
 l:dd.l=R.l
theorem gQ.put{dd R:aw}(w:gQ dd R)M Z:gQ (dd.put M Z) (R.put M Z):=by
 cases M;exact w
 next M=>refine⟨λX B a=>?_,w.l⟩;rw[H0] at a⊢;split;simp_all;rename_i J;rw[aa J] at a;exact w.h X B a
theorem gQ.guard{dd R:aw}(w:gQ dd R){ops:Array Oper}{P:Oper}{W:Bool}(a:dd.guard ops P=some W):R.guard ops P=some W:=by unfold aw.guard at a⊢;split at a;exact a;split at a;split at a;rename_i c b;rw[w.h _ _ b];exact a;rename_i b;rw[w.h _ _ b];exact a;trivial;omega
theorem gQ.cR{dd R:aw}(w:gQ dd R)P:∀X Z,(ey.cR P dd.h).lookup X=some Z->(ey.cR P R.h).lookup X=some Z:=by intro X Z c;let⟨a,b⟩:=Eu c;rw[Zo a];exact w.h X Z b
def gQ.pU{dd R:aw}(w:gQ dd R)M D:gQ (dd.pU M D) (R.pU M D):=gQ.put (dd:=⟨dd.h,eI dd.l D.2⟩) (R:=⟨R.h,eI R.l D.2⟩) ⟨w.h,cW (eI · D.2) w.l⟩ M D.1
def dP.pi{b c:List (Nat×V)}{ad e:bd}{P:Oper}{D:V}(k:∀X Z,c.lookup X=some Z->b.lookup X=some Z)(w:dP T s P ⟨c,ad⟩ D e):dP T s P ⟨b,ad⟩ D e:=λE I S a g i j=>w E I S ⟨a.ci,λX Z l=>a.h X Z<|k X Z l,a.fk,a.size,a.defers⟩ g i j
def u2.pi{ops:Array Oper}{P:Oper}{x:c5}{dd R:aw}{M:hf}(a:gQ dd R)(w:u2 T s ops P x dd M):u2 T s ops P x R M:=by rcases w with⟨b,c⟩|⟨b,c,e⟩;exact .inl ⟨a.guard b,c⟩;exact .inr ⟨a.guard b,c,λad h g=>(e ad (by rw[h,a.l]) (by rw[a.l];exact g)).pi<|a.cR P⟩
def QT.pi{ops:Array Oper}:∀{N:List Oper}{aN:List c5}{dd R:aw}{a:List hf},gQ dd R->pt T s ops N aN dd a->pt T s ops N aN R a|[],[],_,_,_,_,w=>w|P::N,x::aN,dd,R,D::a,b,w=>⟨w.1.pi b,QT.pi (b.pU _ D) w.2⟩
def YW:∀{N:List Oper}{b:List hf}{dd R:aw} a,gQ dd R->gQ (bQ N b (λ_=>true) a dd) (bQ N b (λ_=>true) a R)|[],_,_,_,_,w=>bB|P::N,[],_,_,_,w=>bB|P::N,D::b,dd,R,a,w=>YW (a+1)<|w.pU _ D
theorem gQ.refl R:gQ R R:=⟨λ_ _ w=>w,rfl⟩
theorem gQ.trans{E W a:aw}(w:gQ E W)(F:gQ W a):gQ E a:=⟨λX Z b=>F.h X Z<|w.h X Z b,w.l.trans F.l⟩
theorem p_.run{ops:Array Oper}{e:aw->Prop}{N:List Oper}{R:aw}(w:p_ T s ops e N R):∀Y,R.l.length=Y->∃(a:List hf)(b:aw),pt T s ops N (N.map λ_=>(List.range Y,[])) R a/\gQ b (bQ N a (λ_=>true) 0 R)/\e b:=by
 induction w
 next R p=>exactλY _=>⟨[],R,rfl,gQ.refl R,p⟩
 next P N R D j o _ h=>
  intro Y av;let⟨a,b,c,g,i⟩:=h Y (by cases P.dst<;>exact av);refine⟨(D,[])::a,b,⟨.inr ⟨j,af,λad t m=>?_⟩,c⟩,?_,i⟩;obtain rfl:ad=R.l:=ho λF=>by by_cases w:F<Y;exact m F<|.inl<|fq.2 w;rw[s6 v,s6 v]
  exact o;rw[bQ,BL N a _ 0];exact g
 next P N R j _ h=>intro Y av;let⟨a,b,c,g,i⟩:=h Y (by cases P.dst<;>exact av);refine⟨(.tuple [],[])::a,b,⟨.inl ⟨j,rfl⟩,c⟩,?_,i⟩;rw[bQ,BL N a _ 0];exact g
 next N R r q _ h=>intro Y av;let⟨a,b,c,g,i⟩:=h Y av;let k:gQ ⟨r,R.l⟩ R:=⟨q,rfl⟩;exists a,b,QT.pi k c,g.trans<|YW 0 k
theorem dE.agw{id:Nat}{N:List Oper}{R:aw}{e:Exit->aw->Prop}(x:T.follows .mixedOrders)(q:mD s.n N)(u:pK N)(w:p_ T s N.toArray (e .normal) N R):dE T s (.region id N.toArray true) R e:=by let⟨g,y,j,b,k⟩:=w.run _ rfl;intro E I S m;refine Code.wp_mono ?_<|dE.Ti (e:=λJ dd=>J=.normal/\dd=bQ N g (λ_=>true) 0 R) x q u (λC D A B F _ _ r t p=>?_) ⟨g,j,rfl,rfl⟩ (id:=id) E I S m;rintro J z aT ⟨dd,i,⟨rfl,rfl⟩,o⟩;exact⟨y,i,k,by have:=o.wd b.h;rw[<-b.l] at this;exact this⟩;let a:=dh r;let c:=dh t;simp[b4] at a c;obtain⟨_,_,rfl⟩:=a;obtain⟨_,_,rfl⟩:=c;simp at p
def ay.seq{E W:Code}{O:am}{e:Exit->am->Prop}(w:ay T s o E O (rM (ay T s o W · e) e)):ay T s o (.seq E W) O e:=by refine⟨λu g a=>?_⟩;refine dE.seq<|w.run u _ λan J k b c=>?_;cases J with|normal=>exact c.run an g λm h l i j=>a _ h l (b.trans i) j|_=>exact a an _ k b c
def ay.mono{b:Code}{O:am}{e a:Exit->am->Prop}(w:ay T s o b O e)(k:∀J O,e J O->a J O):ay T s o b O a:=⟨λu g i=>w.run u g λan J c j h=>i an J c j<|k J c h⟩
def rQ(p:T.follows .mixedOrders)(k:e2 T z)(h:s.G=m)(j:dp m)(av:s.n=Y):∀i O e,jg T z s m o Y c4 i O e->ay T s o i O e
|.skip,O,e,w=>⟨λu g a=>dE.skip<|a u _ O (cd.refl o u) w⟩|.ret,O,e,w=>⟨λu g a=>dE.ret<|a u _ O (cd.refl o u) w⟩|.exit id,O,e,w=>⟨λu g a=>dE.exit<|a u _ O (cd.refl o u) w⟩|.label N,O,e,w=>⟨λu g a=>dE.label<|a u _ O (cd.refl o u) w⟩|.seq E W,O,e,w=>by
 rw[jg] at w;split at w;exact w;refine ay.seq<|(rQ p k h j av E O _ w).mono λJ r q=>?_;cases J with
 |normal=>exact rQ p k h j av W r e q|_=>exact q
|.cond i E W,O,e,w=>by
 rw[jg] at w;split at w;rename_i Z H;refine⟨λu g a=>?_⟩;cases w
 next aU B=>let F:=uB (h▸j) (u:=u) (ad:=O.l++ar u O.c)<|h.symm▸H;exact dE.cond F (λt=>(rQ p k h j av E O e<|aU t).run u g a) λt=>(rQ p k h j av W O e<|B t).run u g a
 trivial|.block id i,O,e,w=>by
 refine⟨λu g a=>?_⟩;refine dE.block<|(rQ p k h j av i O _ w).run u _ λan J r A q=>?_;cases J with
 |exit K=>simp[R1] at q;simp[LF];split at q;simp_all;rw[aa λJ=>b];simp_all|_=>exact a an _ r A q
|.region id ops y,O,e,w=>by
 cases y;let w:(match qo Y _ with|true=>ml T z s m o c4 _ _ _ _ _ O _|false=>False):=w;grind[ay.region,asL];let w:(match OW _,qo Y _ with|true,true=>FR _ _|_,_=>ay T s o _ O e):=w;split at w;cases w
 next C w=>refine⟨λu g a=>?_⟩;let J:ops=ops.toList.toArray:=af;apply dE.agw p (by grind[yU]) C;have:=abt k h j (p_.rules _ _) _ _ _ O _ (.inl rfl) w u [] (λr D _=>.nil _<|a u _ r (cd.refl o u) D);grind
 omega|.loop i,O,e,w=>w|.rangeFunc x L E W,O,e,w=>w|.scope i,O,e,w=>w|.goto N,O,e,w=>w|.refuse I,O,e,w=>w
def lx:bb->Bool|[]=>true|(X,_)::N=>!gI X (N.map (·.1))&&lx N
def Ap:List (Nat×V)->List (Nat×V)->Prop|[],_=>True|(X,Z)::D,N=>eM N X=some Z/\Ap D N
def qb:bb->bb->Prop|[],_=>True|(X,Z)::D,N=>bI N X=some Z/\qb D N
structure kR(dF O:am):Prop where
 h:Ap dF.h O.h
 c:qb dF.c O.c
 alq:lx dF.c
 l:dF.l=O.l
theorem Ap.eM:∀{a N:List (Nat×V)},Ap a N->∀X Z,eM a X=some Z->eM N X=some Z|[],_,_,X,Z,w=>bB|(F,B)::D,N,⟨c,b⟩,X,Z,w=>by rw[ey.eM] at w;split at w;simp_all;exact b.eM X Z w
def Sq:∀{N:bb}{X:Nat}{Z:bt},bI N X=some Z->(X,Z)∈N|[],X,Z,w=>bB|(F,B)::D,X,Z,w=>by rw[bI] at w;split at w;simp_all;exact ki _<|Sq w
def qb.mem:∀{b N:bb},qb b N->∀a∈b,a∈N|[],_,_,a,w=>bB|(F,B)::D,N,⟨c,e⟩,a,w=>by rcases eT.1 w with rfl|w;exact Sq c;exact e.mem a w
def ae3{u:bn}:∀{a N:bb},(∀b∈a,b∈N)->lx a->((ar u N).map (·.1)).Nodup->((ar u a).map (·.1)).Nodup:=by
 intro a
 induction a
 simp[ar]
 next b D p=>
  intro N k av o;let⟨X,Z⟩:=b;simp[lx,jD] at av;let e:=p (λb s=>k b aM) av.2 o;simp only[ar,gU,s9] at e⊢;refine⟨λi=>?_,e⟩;simp only[ez,b4] at i;let⟨c,t,w⟩:=i;let x:c.1≠X:=λJ=>by grind[gI,oe]
  let r:=k c aM;let y:∀N,((ar u N).map (·.1)).Nodup->(X,Z)∈N->c∈N->False:=by
   intro N
   induction N
   simp
   next B N q=>intro j l m;simp only[ar,gU,s9] at j;rcases eT.1 l with g|g<;>rcases eT.1 m with h|h;grind;simp_all;grind;exact q j.2 g h
  grind
def aH.zJ{O dF:am}{u:bn}{E:Act}{I:World}{S:aF}(b:kR dF O)(w:aH s (O.a u) E I S):aH s (dF.a u) E I S:=by
 refine⟨w.ci.sub ?_ ?_,λX Z p=>w.h X Z ?_,w.fk,w.size,w.defers⟩;intro r e;rcases ee.1 e with e|e;rw[b.l] at e;exact uK _ e;obtain⟨j,i,rfl⟩:=b4.1 e;exact uL _<|b4.2 ⟨j,b.c.mem j i,rfl⟩;let g:=w.ci.jw;simp only[am.a,cD,pm] at g⊢;refine⟨by rw[b.l];simp_all,ae3 b.c.mem b.alq g.2.1,λE k W m=>?_⟩;rw[b.l] at k;apply g.2.2 E k W;obtain⟨j,i,rfl⟩:=b4.1 m;obtain⟨D,o,rfl⟩:=b4.1 i;exact b4.2 ⟨_,b4.2 ⟨D,b.c.mem D o,rfl⟩,rfl⟩;simp[am.a,jQ] at p⊢;cases q:dF.h.lookup X;simp_all
 next B=>have:=b.h.eM X B (by grind[pL]);grind[pL]
def ay.zT{a:Code}{O b:am}{e:Exit->am->Prop}(i:kR b O)(w:ay T s o a b e):ay T s o a O e:=⟨λu c g E I S h=>w.run u c g E I S<|h.zJ i⟩
def ay.cut{bm:Type}{E W:Code}{O:am}{e:Exit->am->Prop}(a:bm->am)(c:bm->Prop)(w:ay T s o E O (rM (λg=>∃Z,c Z/\kR (a Z) g) e))(F:∀Z,c Z->ay T s o W (a Z) e):ay T s o (.seq E W) O e:=ay.seq (w.mono λJ g b=>by cases J with|normal=>let⟨Z,h,i⟩:=b;exact(F Z h).zT i|_=>exact b)
def ay.loop{G:Type}{y:Code}{O:am}{e:Exit->am->Prop}(m:G->am)(q:G->Prop)(t:G->Nat)D(L:q D)(ag:kR (m D) O)(ak:∀Z,q Z->ay T s o y (m Z) (rM (λc=>∃g,q g/\t g<t Z/\kR (m g) c) e)):ay T s o (.loop y) O e:=by
 apply ay.zT ag;refine⟨λu A z=>?_⟩;let aj:∀F Z u,t Z=F->q Z->(∀an J c,cd o u an->e J c->A J (c.a an))->∀E I S,aH s ((m Z).a u) E I S->∀(W:Frame) l i,∃J x aT,F1 s A J x aT/\Arrives T (lone (W.at E<|.code y::.inLoop y::l) i I) W l i J x aT:=by
  intro F
  induction F using Nat.strongRecOn
  next F ai=>
   intro Z u Q X z E I S B W l i;let ae:=(ak Z X).run u (λJ R=>match J with
    |.normal=>∃an g,cd o u an/\q g/\t g<t Z/\∃c,kR (m g) c/\R=c.a an|J=>A J R) (λan J c C b=>by cases J with|normal=>obtain⟨g,aq,av,aw⟩:=b;grind|_=>exact z an _ c C b)
   obtain⟨J,p,r,⟨dd,j,b,k⟩,h⟩:=ae E I S B W _ i;cases J;obtain⟨an,g,C,Y,U,c,ah,rfl⟩:=b;obtain⟨K,H,ao,ad,P⟩:=ai _ (Q▸U) g an rfl Y (λax J al M w=>z _ J al (C.trans M) w) _ _ j (k.zJ ah) W l i;exact⟨K,H,ao,ad,.of_steps (Steps.trans h<|.one step_inLoop) P⟩
   next id=>exact⟨_,p,r,⟨dd,j,b,k⟩,.pass rfl (λ_ _=>.inl af) h⟩
   next N=>exact⟨_,p,r,⟨dd,j,b,k⟩,.pass rfl (λ_ _=>.inl af) h⟩
   exact⟨_,p,r,⟨dd,j,b,k⟩,.pass rfl (λ_ _=>.inl af) h⟩
   next ap=>exact⟨_,p,r,⟨dd,j,b,k⟩,.pass rfl (λ_ _=>.inl af) h⟩
   exact⟨_,p,r,⟨dd,j,b,k⟩,.pass rfl (λ_ _=>.inl af) h⟩
 intro E I S B W l i;obtain⟨J,x,aT,b,h⟩:=aj _ D u rfl L z E I S B W l i;exact⟨J,x,aT,b,.of_steps (.one step_loop) h⟩
structure g4(T:Program)(s:a2)(o:Nat)(asV:bn)(hY:List ResultVar)(acM:V->bd->Prop)(J:Exit)(O:am):Prop where
 he:J=.ret\/J=.normal
 run:∀u,cd o asV u->∀(E:Act)(I:World)(S:aF),aH s (O.a u) E I S->∃(hz:List Value)(b9:List V)(l:bd)(Ah:aF),hz.length=b9.length/\(hY.mapM (rI E.tmps)).run T I=.ok hz I/\(∀(H:Nat)(Z:V)(U:Value),b9[H]?=some Z->hz[H]?=some U->aE Ah Z U)/\Holds s Ah l I/\acM (cO b9) l
def ff.of_wp{m:List (Nat×V)}{x:FuncId}{e:Func}{E:Code}{h:List ResultVar}{xs:List V}{l:bd}{t:V->bd->Prop}{Y o:Nat}c4 j O(al:T.follows .mixedOrders)(ae:e2 T z)(W:dp m)(M:FY T x e E)(av:e.ntmps=Y)(az:Nat.ble xs.length Y)(ap:e.results.toList=h)(aw:O.a j=⟨ng 0 xs,l⟩)(w:∀s,s.G=m->s.n=Y->jg T z s m o Y c4 E O (g4 T s o j h t)):ff T m x xs l t:=by
 intro S p I A aj am c ah;refine calls_of_wp M.get M.body ?_;subst av;let K:aH ⟨I,A,S,l.map (·.1),m,e.ntmps⟩ ⟨ng 0 xs,l⟩ {tmps:=p.toArray++Array.replicate (e.ntmps-p.toArray.size) undef,defers:=[]} I S:=by
  refine⟨⟨c.le,⟨c.G.os,c.G.tape,c.G.output,c.G.size,c.G.block⟩,c.k0,c.k6,c.k7,c.own,c.i4,c.kb,c.eO,c.jw,c.i9,c.inj⟩,λX Z ax=>?_,ah,b,rfl⟩;let⟨_,g⟩:=Lm xs 0 X Z ax;let ak:X<p.length:=by rw[aj];exact(dm.1 g).1
  refine⟨p[X],?_,am X Z _ g<|bw ak⟩;rw[abG v];simp
 rw[<-aw] at K;refine Code.wp_mono ?_<|(rQ al ae rfl W rfl _ _ _<|w ⟨I,A,S,l.map (·.1),m,e.ntmps⟩ rfl rfl).run j (λJ R=>∃an i,cd o j an/\g4 T _ o j h t J i/\R=i.a an) (λan J i u y=>⟨an,i,u,y,rfl⟩) _ I S K;rintro J C aT ⟨dd,P,⟨an,i,u,⟨he,ag⟩,rfl⟩,L⟩;let⟨k,N,ad,q,g,Q,H,U,y⟩:=ag an u C aT P L;let aq:(results e C.tmps).run T aT=.ok (IS k) aT:=by
  rw[Zp,<-abM (xs:=e.results),ap];let hm:∀(r:ResultVar->Sem Value),h.toArray.mapM r=Functor.map List.toArray (h.mapM r):=λr=>af;simp only[Sem.run_bind];rw[hm];simp[Sem.run_map,Q,Sem.run_pure]
  match k with|[]=>rfl|[aP]=>rfl|aP::ay::D=>rfl
 let ao:aE q (cO N) (IS k):=by
  match k,N,g with|[],[],_=>exact .tuple [] [] rfl af|[aP],[Z],_=>exact H 0 Z aP rfl rfl|aP::ay::D,Z::B::O,g=>exact .tuple _ _ v H
 let ai:Holds ⟨I,A,S,l.map (·.1),m,0⟩ q ad aT:=by let F:=U;exact⟨F.le,⟨F.G.os,F.G.tape,F.G.output,F.G.size,F.G.block⟩,F.k0,F.k6,F.k7,F.own,F.i4,F.kb,F.eO,F.jw,F.i9,F.inj⟩
 rcases he with rfl|rfl<;>exact⟨L.defers,_,aq,_,_,_,q,rfl,y,ao,ai⟩
def xT(a:List (Nat×V)):List ResultVar->Option (List V)
|[]=>some []|.tmp X::D=>match eM a X with
 |some Z=>match xT a D with|some b=>some (Z::b)|none=>none
 |none=>none
|.cell _ _::_=>none
def Zm{c:List (Nat×V)}{u:bn}{ad:bd}:∀{hY:List ResultVar}{b:List V},xT c hY=some b->uw ⟨cj u c,ad⟩ hY (b.map (V.a u))|[],b,w=>by simp[xT] at w;subst w;rfl|.tmp X::D,b,w=>by unfold xT at w;split at w;split at w;rename_i g e;simp at w;subst w;exact⟨by grind[pL,jQ],Zm e⟩;trivial;trivial|.cell _ _::_,b,w=>bB
def Mi{k:bn}{i:List ResultVar}{e:V->bd->Prop}{J:Exit}{O:am}b(x:∀u,cd o k u->e (cO (j.map (V.a u))) (O.l++ar u b))(y:xT O.h i=some j:=by rfl)(t:qb b O.c:=by repeat (first|exact trivial|refine And.intro rfl ?_))(av:lx b:=by rfl)(he:J=.ret\/J=.normal:=by exact q3):g4 T s o k i e J O:=by refine⟨he,λu r E I S g=>?_⟩;obtain⟨z,m,p,q⟩:=uw.run g<|Zm y;refine⟨z,_,O.l++ar u _,S,m,p,q,?_,x u r⟩;have:=aH.zJ (O:=⟨[],O.c,O.l⟩) (dF:=⟨[],b,O.l⟩) ⟨trivial,t,av,rfl⟩<|aH.wd g λX Z w=>bB;exact this.ci
end
def cv{b u:Type} [Inhabited b]{N:List b}{x:b->u}{a:Nat}:a<N.length->(N.map x)[a]?=some (x (N.getD a default)):=by simp_all
def vx{b:Type}{N:List b}{a:Nat}{M:b}:a<N.length->N[a]?=some (N.getD a M):=by simp_all
def akz{b u:Type}{N:List b}{x:b->u}{a:Nat}{M:b}(w:a<N.length):(N.map x)[a]?=some (x (N.getD a M)):=by rw[ch,vx (M:=M) w];rfl
def EW{a:Prop}(w:a:=by first|omega|assumption|(simp;omega)):a:=w
def Da{b:Type}{N:List b}{a:Nat}{M:b}(w:N[a]?=some M:=by first|rfl|assumption|exact kB EW|exact bw EW|exact cv EW|exact akz EW|exact vx EW):N[a]?=some M:=w
def Lk{a:Type}{N o F:List a}(w:N++o=F:=by first|rfl|(simp;done)|(rw[cD];rfl)|(simp;rfl)):N++o=F:=w
def XR{b:Type}{a:b->Prop}{E:b}(w:a E):∀Z∈[E],a Z:=λ_ c=>cV.1 c▸w
def aar{b:Type}{N F:List b}{a:Nat}{E:b}(w:N.set a E=F:=by first|rfl|exact List.map_set.symm|(rw[gN];done)|(rw[gN];rfl)|(rw[<-gN];rfl)):N.set a E=F:=w
section
variable{T:Program}{s:a2}{P:Oper}
def amW{R:aw}{X J:TypeId}{K bs cL:Nat}{Z m:Operand}{O a:Nat}{F:IntKind}{Y:Int}{M:V}(aU:bG T X (.slice J) K bs)(he:fi T J O cL)(x:P.op=.indexAddr X Z m)(e:R.val s Z=some (.f O j))(u:R.val s m=some (.int F Y))(av:Y=(a:Int))(l:j[a]?=some M):cb T s P R (.ref O [M] 0 0):=by
 intro E I S r o p q;refine YN aU he x e u av (dm.1 l).1 E I S r o p λy aT i w g t=>q y aT i w ?_ t;cases g with
 |ref _ _ _ _ W base val A z g=>
  have:=aE.ref (S:=i) O [M] 0 0 W (base+a*O) (λ_ b=>val a b)
   (λh k c=>aM)
   (λh b k Z c e=>by grind)
   (λh b k Z c e=>by cases h<;>simp at c;subst c;exact g a b M Z l e)
  simp_all
end
section
variable{T:Program}{z:bV}{s:a2}{m:List (Nat×V)}{o:Nat}{P:Oper}{O:am}{F:V->Prop}{D:V}
def fp(a:s.G=m)(b:dp m){Z:Operand}{M:V}(w:val m O.h Z=some M)(e:Z∈P.op.operands.toList)(c:M.plain:=by rfl){u:bn}{ad:bd}:(⟨cR P<|cj u O.h,ad⟩:aw).val s Z=some M:=by have:=uB (a▸b) (u:=u) (h:=cR P O.h) (ad:=ad) (P:=Z) (Z:=M) (by grind[wc]);grind[V.eC,vZ]
variable{G:Bool}
theorem c2.of(g:D.plain)(w:e2 T z->s.G=m->dp m->∀u ad,cb T s P ⟨cR P (cj u O.h),ad⟩ D)(a:F D):c2 T z s m G P O F:=⟨D,λe b c u ad _=>by grind[V.eC],a⟩
def xA{g:BinOp}{X dq:TypeId}{Z B:Operand}{a b:V}(o:D.plain)(w:bR T g X Z B a b D)(k:F D)(l:P.op=.binOp g X Z B dq)(p:val m O.h Z=some a)(q:val m O.h B=some b)(i:a.plain)(j:b.plain):c2 T z s m G P O F:=.of o (λ_ c e u ad=>ul l (fp c e p (by grind[Op.operands]) i) (fp c e q (by grind[Op.operands]) j) w) k
section arith
variable{X dq:TypeId}{Z B:Operand}{E W:Int}
theorem aL(b:F (.int .i64 (E+W)))(c:P.op=.binOp .add X Z B dq:=by rfl)(e:val m O.h Z=some (.int .i64 E):=by rfl)(g:val m O.h B=some (.int .i64 W):=by rfl)(w:-9223372036854775808<=E+W:=by omega)(a:E+W<=9223372036854775807:=by omega):c2 T z s m G P O F:=xA rfl (bR.add<|tP w a) b c e g rfl rfl
theorem g1(b:F (.int .i64 (E-W)))(c:P.op=.binOp .sub X Z B dq:=by rfl)(e:val m O.h Z=some (.int .i64 E):=by rfl)(g:val m O.h B=some (.int .i64 W):=by rfl)(w:-9223372036854775808<=E-W:=by omega)(a:E-W<=9223372036854775807:=by omega):c2 T z s m G P O F:=xA rfl (bR.sub<|tP w a) b c e g rfl rfl
theorem DQ(a:F (.int .i64 (E*W)))(b:P.op=.binOp .mul X Z B dq:=by rfl)(c:val m O.h Z=some (.int .i64 E):=by rfl)(e:val m O.h B=some (.int .i64 W):=by rfl)(w:-9223372036854775808<=E*W:=by omega)(fL:E*W<=9223372036854775807:=by omega):c2 T z s m G P O F:=xA rfl (bR.mul<|tP w fL) a b c e rfl rfl
def dK Y(a:F (.int .i64 Y))(b:P.op=.binOp .add X Z B dq:=by rfl)(c:val m O.h Z=some (.int .i64 E):=by rfl)(e:val m O.h B=some (.int .i64 W):=by rfl)(w:E+W=Y:=by omega)(h1:-9223372036854775808<=Y:=by omega)(fL:Y<=9223372036854775807:=by omega):c2 T z s m G P O F:=by grind[aL]
def ia Y(c:F (.int .i64 Y))(e:P.op=.binOp .sub X Z B dq:=by rfl)(g:val m O.h Z=some (.int .i64 E):=by rfl)(i:val m O.h B=some (.int .i64 W):=by rfl)(w:E-W=Y:=by omega)(b:-9223372036854775808<=Y:=by omega)(a:Y<=9223372036854775807:=by omega):c2 T z s m G P O F:=by subst w;grind[g1]
def xC Y(c:F (.int .i64 Y))(e:P.op=.binOp .mul X Z B dq:=by rfl)(g:val m O.h Z=some (.int .i64 E):=by rfl)(i:val m O.h B=some (.int .i64 W):=by rfl)(w:E*W=Y:=by first|omega|(push_cast;rfl))(b:-9223372036854775808<=Y:=by omega)(a:Y<=9223372036854775807:=by omega):c2 T z s m G P O F:=by grind[DQ]
def DS{a:IntKind}Y(c:F (.int a Y))(e:P.op=.binOp .quo X Z B dq:=by rfl)(g:val m O.h Z=some (.int a E):=by rfl)(i:val m O.h B=some (.int a W):=by rfl)(w:E.tdiv W=Y:=by first|rfl|omega)(b:W≠0:=by omega)(h1:kZ a Y:=by first|exact tP v v|exact Va v v|exact A1 v v):c2 T z s m G P O F:=by subst w;exact xA rfl (bR.quo b h1) c e g i rfl rfl
def Ik{a:IntKind}Y(c:F (.int a Y))(e:P.op=.binOp .rem X Z B dq:=by rfl)(g:val m O.h Z=some (.int a E):=by rfl)(i:val m O.h B=some (.int a W):=by rfl)(w:E.tmod W=Y:=by first|rfl|omega)(b:W≠0:=by omega):c2 T z s m G P O F:=by subst w;exact xA rfl (bR.rem b) c e g i rfl rfl
def alj{a j:IntKind}{Y:Int}(c:F (.int a Y))(e:P.op=.binOp .shl X Z B dq:=by rfl)(g:val m O.h Z=some (.int a E):=by rfl)(i:val m O.h B=some (.int j W):=by rfl)(w:a.wrap (E*2^min W.toNat a.bits)=Y:=by rfl)(b:0<=W:=by omega):c2 T z s m G P O F:=by subst w;exact xA rfl (bR.shl b) c e g i rfl rfl
def Ob{a j:IntKind}Y(c:F (.int a Y))(e:P.op=.binOp .shr X Z B dq:=by rfl)(g:val m O.h Z=some (.int a E):=by rfl)(i:val m O.h B=some (.int j W):=by rfl)(w:E.fdiv (2^min W.toNat a.bits)=Y:=by rfl)(b:0<=W:=by omega):c2 T z s m G P O F:=by subst w;exact xA rfl (bR.shr b) c e g i rfl rfl
def W9 Y(c:F (.int .i64 Y))(e:P.op=.unOp .neg X Z:=by rfl)(g:val m O.h Z=some (.int .i64 E):=by rfl)(w:-E=Y:=by first|rfl|omega)(j:-9223372036854775808<=Y:=by omega)(i:Y<=9223372036854775807:=by omega):c2 T z s m G P O F:=by subst w;exact .of rfl (λ_ a b u ad=>an7 e (fp a b g (by grind[Op.operands]) rfl (u:=u) (ad:=ad))<|tP v v) c
def Od{N aP:List UInt8}(a:F (.str (N++aP)))(b:P.op=.binOp .add X Z B dq:=by rfl)(c:val m O.h Z=some (.str N):=by rfl)(e:val m O.h B=some (.str aP):=by rfl)(w:N.length+aP.length<=9223372036854775807:=by exact r1):c2 T z s m G P O F:=xA rfl (bR.apS w) a b c e rfl rfl
end arith
def aJ{X J:TypeId}{a:b0}{Z i:Operand}{t:IntKind}{Y:Int}(g:Nat)M(o:F (.ref a.size [M] 0 0))(q:P.op=.indexAddr X Z i:=by rfl)(aU:eU z X (.slice J):=by exact fe)(he:z.find J=some a:=by rfl)(r:val m O.h Z=some (.f a.size j):=by rfl)(l:val m O.h i=some (.int t Y):=by rfl)(av:Y=(g:Int):=by first|rfl|omega)(p:j[g]?=some M:=by exact Da):c2 T z s m G P O F:=.of rfl (λe b c u ad=>by obtain⟨_,_,k⟩:=aU.dO e;exact amW k (e.find he).K q (fp b c r (by grind[Op.operands]) rfl) (fp b c l (by grind[Op.operands]) rfl) av p) o
def lw{X:TypeId}{Z e:Operand}{N:List UInt8}{q:IntKind}{Y:Int}(c:Nat)W(k:F (bh W))(l:P.op=.index X Z e:=by rfl)(o:val m O.h Z=some (.str N):=by rfl)(j:val m O.h e=some (.int q Y):=by rfl)(aU:eU z X .string:=by exact fe)(av:Y=(c:Int):=by first|rfl|omega)(p:N[c]?=some W:=by first|exact bw v|rfl|assumption):c2 T z s m G P O F:=.of rfl (λi a b u ad=>by obtain⟨_,_,g⟩:=aU.dO i;exact amX g l (fp a b o (by grind[Op.operands]) rfl) (fp a b j (by grind[Op.operands]) rfl) av p) k
def k4{j e:TypeId}{i a:b0}{A b:IntKind}{Y:Int}{Z:Operand}c(t:F (.int b c))(w:P.op=.convert j e Z:=by rfl)(y:val m O.h Z=some (.int A Y):=by rfl)(x:z.find j=some i:=by rfl)(r:z.find e=some a:=by rfl)(q:a.d=.int b:=by rfl)(k:i.R=false:=by rfl)(l:a.R=false:=by rfl)(av:Y=c:=by first|rfl|omega)(qA:kZ b c:=by first|exact tP v v|exact Va v v|exact A1 v v|exact B v v|exact C v v):c2 T z s m G P O F:=by subst av;exact .of rfl (λg o p u ad=>by let cG:=(g.find r).e6 l;rw[q] at cG;exact amO ((g.find x).e6 k) cG w (fp o p y (by grind[Op.operands]) rfl (u:=u) (ad:=ad)) qA) t
def W4{j c:TypeId}{i a:b0}{A b:IntKind}{Y:Int}{Z:Operand}g(t:F (.int b g))(w:P.op=.convert j c Z:=by rfl)(y:val m O.h Z=some (.int A Y):=by rfl)(x:z.find j=some i:=by rfl)(r:z.find c=some a:=by rfl)(q:a.d=.int b:=by rfl)(k:i.R=false:=by rfl)(l:a.R=false:=by rfl)(av:b.wrap Y=g:=by rfl):c2 T z s m G P O F:=by subst av;exact .of rfl (λe o p u ad=>by let cG:=(e.find r).e6 l;rw[q] at cG;exact amP ((e.find x).e6 k) cG w<|fp o p y (by grind[Op.operands]) rfl (u:=u) (ad:=ad)) t
def pz(m:List (Nat×V))(a:List (Nat×V)):Option Operand->Nat->Option Int|none,Y=>some Y|some Z,_=>match val m a Z with|some (.int _ k)=>some k|_=>none
def sd(b:s.G=m)(c:dp m){W:Option Operand}{a Y:Nat}{k:Int}(w:pz m O.h W a=some k)(ap:k=(Y:Int))(e:∀Z,W=some Z->Z∈P.op.operands.toList){u:bn}{ad:bd}:ni s ⟨cR P (cj u O.h),ad⟩ W a Y:=by
 cases W;simp[pz,fc] at w;have:Y=a:=v;trivial
 next Z=>simp[pz] at w;split at w;rename_i i j g;simp at w;subst w;exists i,_,fp b c g (e Z rfl) rfl;trivial
def alo{X:TypeId}{Z:Operand}{k j:Option Operand}{c:List UInt8}{o l:Int}b a(w:F (.str ((c.drop b).take (a-b))))(y:P.op=.slice X Z k j none:=by rfl)(i:val m O.h Z=some (.str c):=by rfl)(aU:eU z X .string:=by exact fe)(x:pz m O.h k 0=some o:=by rfl)(t:pz m O.h j c.length=some l:=by rfl)(B:o=(b:Int):=by first|rfl|omega)(A:l=(a:Int):=by first|rfl|omega)(p:b<=a:=by omega)(q:a<=c.length:=by omega):c2 T z s m G P O F:=.of rfl (λr e g u ad=>by obtain⟨_,_,bu⟩:=aU.dO r;exact am4 bu y (fp e g i (by grind[Op.operands]) rfl) (sd e g x B λZ i=>by grind[Op.operands]) (sd e g t A λZ i=>by grind[Op.operands]) p q) w
def asg(a:s.G=m)(b:dp m){N:List Operand}(w:jY m O.h N=some j)(e:ds V.plain j)(c:∀Z∈N,Z∈P.op.operands.toList){u:bn}{ad:bd}:mB s ⟨cR P (cj u O.h),ad⟩ N j:=by grind[ash,cR,J3,wc,vZ]
def X9{x:FuncId}{c:Operand}{args:Array Operand}{g:Array TypeId}{first a:List V}(l:iR T x)(r:fg T m x (first++a++j) D)(q:P.op=.call {callee:=.value c,args:=args,argTypes:=g})(o:val m O.h c=some (.func (.func x) first j))(i:jY m O.h args.toList=some a)(p:(V.func (.func x) first j).plain)(k:ds V.plain a)(b:s.G=m)(e:dp m){u:bn}{ad:bd}:cb T s P ⟨cR P (cj u O.h),ad⟩ D:=anW q l (fp b e o (by grind[Op.operands,Call.operands]) p) (asg b e i k λZ t=>by grind[Op.operands,Call.operands])<|b.symm▸r
def bT{x:FuncId}{b:Operand}{args:Array Operand}{c:Array TypeId}{first a:List V}(q:F D)(r:P.op=.call {callee:=.value b,args:=args,argTypes:=c}:=by rfl)(o:val m O.h b=some (.func (.func x) first j):=by rfl)(k:jY m O.h args.toList=some a:=by rfl)(i:fg T m x (first++a++j) D)(t:D.plain:=by rfl)(p:(V.func (.func x) first j).plain:=by rfl)(l:ds V.plain a:=by rfl)(a0:iR T x:=by exact r2):c2 T z s m G P O F:=.of t (λ_ e g u ad=>X9 a0 i r o k p l e g) q
end
section
variable{T:Program}{z:bV}{s:a2}{m:List (Nat×V)}{o:Nat}{P:Oper}{O:am}{F:am->Prop}{D:V}{ops:Array Oper}
def fR.pure(k:D.plain)(w:e2 T z->s.G=m->dp m->∀u,cb T s P (O.a u) D)(j:F (O.put P.dst D)):fR T z s m o ops P O F:=⟨λg b c u N e h i=>bS.pure h (w g b c u) (by grind[cd.refl,am.kG,V.eC])⟩
def az{x:FuncId}{b:Operand}{args:Array Operand}{c:Array TypeId}{first a:List V}(r:F (O.put P.dst D))(t:P.op=.call {callee:=.value b,args:=args,argTypes:=c}:=by rfl)(p:val m O.h b=some (.func (.func x) first j):=by rfl)(k:jY m O.h args.toList=some a:=by rfl)(i:fg T m x (first++a++j) D)(w:D.plain:=by rfl)(q:(V.func (.func x) first j).plain:=by rfl)(l:ds V.plain a:=by rfl)(a0:iR T x:=by exact r2):fR T z s m o ops P O F:=.pure w (λ_ e g u=>cb.full<|X9 a0 i t p k q l e g) r
def rO(m:List (Nat×V))(a:List (Nat×V)):List (Nat×Operand)->Nat->Option (List V)
|[],_=>some []|(c,Z)::D,Y=>match Nat.beq c Y,val m a Z with
 |true,some M=>match M.plain,M.fits,rO m a D (Y+1) with|true,true,some b=>some (M::b)|_,_,_=>none
 |_,_=>none
def J4(e:s.G=m)(g:dp m){u:bn}:∀{N:List (Nat×Operand)}{Y:Nat}{b:List V},rO m O.h N Y=some b->sL s (O.a u) N Y b
|[],Y,b,w=>by simp[rO] at w;trivial|(r,Z)::D,Y,b,w=>by unfold rO at w;split at w;rename_i M p o;split at w;rename_i q j i k;simp at w;subst w;have:=mo p;subst this;exact⟨rfl,(by have:=uB (e▸g) (u:=u) (ad:=O.l++ar u O.c)<|e.symm▸o;rwa [V.eC j] at this),i,J4 e g k⟩;trivial;trivial
def dv{X J:TypeId}{a:b0}{Y:Nat}{c:Array (Nat×Operand)}(k:F (O.put P.dst (.f a.size j)))(l:P.op=.buildSlice X Y c:=by rfl)(aU:eU z X (.slice J):=by exact fe)(he:z.find J=some a:=by rfl)(p:rO m O.h c.toList 0=some j:=by rfl)(av:Y=j.length:=by rfl)(hlen:∀M∈j,M.cells.length=a.size:=by first|(simp[V.cells,bh,V.const,V.leaf];done)|(simp[V.cells,bh,V.const,V.leaf];rfl))(i:Y*a.size<=2^24:=by decide)(q:0<a.size:=by decide):fR T z s m o ops P O F:=by refine .pure rfl (λb e g u=>?_) k;obtain⟨_,_,bu⟩:=aU.dO b;have cG:=b.find he;exact OX bu cG.K cG.ld l (J4 e g p) av hlen i q
end
section
variable{T:Program}{z:bV}{s:a2}{m:List (Nat×V)}{o Y:Nat}{c4:List Nat}
def ag_(h:T.follows .mixedOrders)(g:e2 T z)(b:s.G=m)(c:dp m)(av:s.n=Y){a:Code}{O:am}{e:Exit->am->Prop}(w:match a with|.seq E W=>jg T z s m o Y c4 E O (rM (jg T z s m o Y c4 W · e) e)|_=>False):ay T s o a O e:=by
 split at w;rename_i E W;refine ay.seq<|(rQ h g b c av E O _ w).mono λJ j i=>?_;cases J with|normal=>exact rQ h g b c av W j e i|_=>exact i
 trivial
def asu(i:T.follows .mixedOrders)(h:e2 T z)(c:s.G=m)(g:dp m)(av:s.n=Y){j:Type}{E W:Code}{O:am}{e:Exit->am->Prop}{a:j->am}{b:j->Prop}(w:jg T z s m o Y c4 E O (rM (λl=>∃Z,b Z/\kR (a Z) l) e))(F:∀Z,b Z->jg T z s m o Y c4 W (a Z) e):ay T s o (.seq E W) O e:=ay.cut a b (rQ i h c g av E O _ w) λZ k=>rQ i h c g av W _ e<|F Z k
def asI(r:T.follows .mixedOrders)(q:e2 T z)(l:s.G=m)(p:dp m)(av:s.n=Y){c:Type}{g:Code}{O:am}{e:Exit->am->Prop}{a:c->am}{b:c->Prop}{j:c->Nat}{i:c}(k:b i)(t:kR (a i) O)(w:∀Z,b Z->jg T z s m o Y c4 g (a Z) (rM (λx=>∃h,b h/\j h<j Z/\kR (a h) x) e)):ay T s o (.loop g) O e:=ay.loop a b j i k t λZ u=>rQ r q l p av g _ _<|w Z u
end
def uk:List V->Bool|[]=>true|Z::N=>match Z.plain with|true=>uk N|false=>false
theorem OO{u:bn}:∀{N:List V},uk N->N.map (V.a u)=N|[],_=>rfl|Z::N,w=>by rw[uk] at w;split at w;rename_i b;rw[gU,V.eC b,OO w];trivial
def ae{T:Program}{s:a2}{o:Nat}{e:bn}{a:List ResultVar}{J:Exit}{O:am}{D:V}(c:xT O.h a=some j:=by rfl)(g:uk j:=by rfl)(b:O.l=[]:=by rfl)(he:J=.ret\/J=.normal:=by exact q3)(w:cO j=D:=by rfl):g4 T s o e a (·=D/\·=[]) J O:=Mi [] (λu _=>⟨by grind[OO],by rw[b];rfl⟩) c trivial rfl he
def FW(T:Program)(X:TypeId):Nat->List (Nat×TypeId×Nat)->Prop|_,[]=>True|a,(c,b,Y)::D=>(Y=0\/q8 T X a c b Y)/\FW T X (a+1) D
def FW.get{T:Program}{X:TypeId}:∀{N:List (Nat×TypeId×Nat)}{b:Nat},FW T X b N->∀a h c Y,N[a]?=some (h,c,Y)->Y≠0->q8 T X (b+a) h c Y|[],_,_,a,_,_,_,w,_=>by simp at w|(_,_,_)::_,b,⟨e,g⟩,0,_,_,_,w,av=>by cases w;exact e.resolve_left av|(_,_,_)::_,b,⟨e,g⟩,a+1,_,_,_,w,av=>by have:=g.get a _ _ _ w av;rwa [ye,s_ 1] at this
def xZ{X:TypeId}{a:b0}(k:a.R\/bG a4 X a.d a.size a.bytes:=by exact acA)(j:a.R->a.agg:=by intro w;first|rfl|cases w)(h:a.agg\/lv a.d=false:=by first|exact .inl rfl|exact .inr bL)(e:a.agg=false\/yn a4 X a.size:=by exact acA)(g:FW a4 X 0 a.aN:=by repeat (first|exact trivial|refine⟨by first|exact .inl rfl|exact .inr ⟨bL⟩,?_⟩))(l:h4 a4 X a.z:=by exact⟨bL,by decide+kernel⟩)(K:fi a4 X a.size a.bytes:=by exact r2)(i:a.aN=[]\/Cw a4 X (a.aN.map λc=>(c.1,c.2.2)):=by first|exact .inl rfl|exact .inr ⟨bL⟩):nU a4 X a:=⟨k,j,h,e,λb _ _ _ w av=>(kk b▸g.get b _ _ _ w av),l,K,i⟩
def et:Value:=.slice none 0 0
def fN:Value:=.int .i64 0
def fw:Value:=.bool false
def mZ:Value:=.string ⟨#[]⟩
def Jj:Value:=.pointer none
def il(J:TypeId):b0:=⟨.slice J,1,24,false,false,et,[]⟩
def mY(J:TypeId):b0:=⟨.pointer J,1,8,false,false,Jj,[]⟩
def zx(F J:TypeId):b0:=⟨.map F J,1,8,false,false,.map none,[]⟩
def uo(F:IntKind)(W:Nat):b0:=⟨.int F,1,W,false,false,.int F 0,[]⟩
def qP(Y:Nat)(J:TypeId)(O W:Nat)(k:Value):b0:=⟨.array Y J,O,W,true,false,.agg<|Array.replicate O k,[]⟩
def gL(W:Nat)(k:List Value)(aN:List (Nat×TypeId×Nat)):b0:=⟨.invalid,k.length,W,true,true,.agg k.toArray,aN⟩
noncomputable def mX(X:TypeId):b0:=⟨(Tryz.prog.underlying X).getD .invalid,1,8,false,false,.nilFunc,[]⟩
abbrev de:=bV.node
abbrev dy(X:TypeId)(a:b0):bV:=.node .nil X a .nil
def jN:b0:=gL 72 [fN,et,fN,fN,et] [(0,3,1),(1,123,1),(2,3,1),(3,3,1),(4,124,1)]
def nr:b0:=gL 56 [fN,et,et] [(0,3,1),(1,93,1),(2,129,1)]
def xk:b0:=gL 72 [et,et,et] [(0,92,1),(1,93,1),(2,94,1)]
def Do:b0:=gL 56 [et,et,fw,fw] [(0,64,1),(1,64,1),(2,4,1),(3,4,1)]
def Dq:b0:=mY 78
def MS:b0:=qP 32 178 32 256<|.int .u64 0
def U0:b0:=gL 136 [fw,fw,fw,et,et,fw,fw,fw,et,et,fw] [(0,119,5),(5,119,5),(10,4,1)]
def MR:b0:=gL 2 [fw,fw] [(0,4,1),(1,4,1)]
def MV:b0:=gL 192 [fw,fN,et,et,et,Jj,fw,et,fN,fN,fN,fw,et,fN] [(0,4,1),(1,3,1),(2,96,3),(5,97,1),(6,4,1),(7,64,1),(8,3,1),(9,3,1),(10,3,1),(11,4,1),(12,98,1),(13,3,1)]
def MT:b0:=gL 32 [fw,mZ,fN] [(0,4,1),(1,9,1),(2,3,1)]
def U1:b0:=qP 256 4 256 256 fw
def Dp:b0:=⟨.bool,1,1,false,false,.bool false,[]⟩
def U2:b0:=⟨.string,1,16,false,false,.string ⟨#[]⟩,[]⟩
def oT:b0:=uo .i64 8
def MU:b0:=uo .i64 8
noncomputable def gT:bV:=(de (de (de (de (de (de (de (dy 2 oT) 3 MU .nil) 4 Dp<|dy 5<|uo .u8 1) 9 U2<|de (dy 21<|uo .i32 4) 22 (il 66)<|dy 24<|gL 32 [et,fN] [(0,22,1),(1,3,1)]) 25 (il 53)<|de (de (dy 27<|gL 56 [et,fN,et] [(0,24,2),(2,25,1)]) 28 (il 9)<|dy 29<|uo .i64 8) 31 (mY 34)<|de (dy 32<|il 5) 34 (gL 24 [et] [(0,32,1)])<|dy 35<|il 59) 42 Dq<|de (de (de (de (dy 47<|mX 47) 49 (il 57) .nil) 50 (il 136)<|dy 51<|il 83) 53 (gL 112 [mZ,mZ,et,et,fN,et] [(0,9,1),(1,9,1),(2,49,1),(3,50,1),(4,3,1),(5,51,1)])<|de (dy 57<|gL 32 [mZ,fw,fN] [(0,9,1),(1,4,1),(2,3,1)]) 59 (gL 32 [mZ,mZ] [(0,9,1),(1,9,1)])<|dy 61<|mX 61) 63 (il 113)<|de (de (dy 64<|il 3) 66 (gL 160 [fw,fN,et,fw,mZ,fw,et,fN,fN,fN,fw,et,fN] [(0,4,1),(1,3,1),(2,63,1),(3,4,1),(4,9,1),(5,4,1),(6,64,1),(7,3,1),(8,3,1),(9,3,1),(10,4,1),(11,50,1),(12,3,1)])<|dy 70 MT) 71 (il 73)<|de (dy 73<|gL 112 [fN,fw,fw,mZ,fN,mZ,et,et] [(0,3,1),(1,4,1),(2,70,3),(5,9,1),(6,71,1),(7,28,1)]) 76 (il 100)<|dy 78<|gL 32 [et,fN] [(0,76,1),(1,3,1)]) 83 (gL 16 [fN,fN] [(0,3,1),(1,3,1)])<|de (de (de (de (de (dy 87<|mX 87) 92 (il 70) .nil) 93 (il 4)<|dy 94<|il 232) 96 xk<|de (dy 97<|mY 175) 98 (il 152)<|dy 100 MV) 105 (mX 105)<|de (de (dy 111<|gL 40 [fw,fw,fw,mZ,fN] [(0,4,1),(1,4,1),(2,70,3)]) 113 (gL 88 [fw,fw,fw,mZ,fN,fw,fw,fw,mZ,fN,fw] [(0,111,5),(5,111,5),(10,4,1)])<|dy 115<|il 3) 117 (gL 56 [fw,et,et] [(0,4,1),(1,115,1),(2,115,1)])<|de (dy 119<|gL 64 [fw,fw,fw,et,et] [(0,4,1),(1,4,1),(2,117,3)]) 121 U0<|dy 123<|il 283) 124 (il 126)<|de (de (de (de (dy 126 jN) 129 (il 64) .nil) 131 nr<|dy 136<|gL 32 [mZ,fN,fw] [(0,9,1),(1,3,1),(2,4,1)]) 139 (mY 144)<|de (dy 140<|zx 3 182) 142 (il 293)<|dy 144<|gL 48 [Jj,.map none,et,fw] [(0,42,1),(1,140,1),(2,142,1),(3,4,1)]) 152 (gL 32 [mZ,fN,fw] [(0,9,1),(1,3,1),(2,4,1)])<|de (de (dy 153<|mY 100) 156 (mX 156)<|dy 159<|mX 159) 164 (mY 166)<|de (dy 166<|gL 40 [mZ,fN,fN,fN] [(0,9,1),(1,3,1),(2,3,1),(3,29,1)]) 175 (gL 80 [fN,et,et,mZ,fw] [(0,131,3),(3,9,1),(4,4,1)])<|dy 178<|uo .u64 8) 182 (mX 182)<|de (de (de (de (de (de (dy 184<|il 111) 188 (mX 188) .nil) 190 (mX 190)<|dy 193<|mX 193) 205 (mY 208)<|de (dy 206<|il 123) 208 (gL 56 [et,et,fw] [(0,206,1),(1,129,1),(2,4,1)])<|dy 210 Do) 212 (zx 9 3)<|de (de (dy 219<|mX 219) 220 (qP 24 5 24 24<|.int .u8 0)<|dy 232 MR) 234 (mX 234)<|de (dy 240<|mY 242) 242 (gL 40 [mZ,fN,fN,fN] [(0,9,1),(1,3,1),(2,3,1),(3,29,1)])<|dy 243<|mY 246) 244 (il 262)<|de (de (de (de (dy 246<|gL 96 [et,et,et,et] [(0,129,1),(1,64,1),(2,64,1),(3,244,1)]) 248 (mY 251) .nil) 249 (il 253)<|dy 251<|gL 72 [et,et,et] [(0,249,1),(1,93,1),(2,249,1)]) 253 MS<|de (dy 256<|mY 259) 257 (qP 256 3 256 2048 fN)<|dy 259<|gL 2120 (List.replicate 256 fN++[et,et,et]) [(0,257,256),(256,64,1),(257,93,1),(258,129,1)]) 261 (qP 256 4 256 256 fw)<|de (de (dy 262 U1) 283 (gL 16 [fN,fN] [(0,3,1),(1,3,1)])<|dy 287<|qP 20 178 20 160<|.int .u64 0) 288 (uo .u32 4)<|de (dy 289<|qP 65 5 65 65<|.int .u8 0) 290 (uo .u64 8)<|dy 293<|gL 24 [mZ,fN] [(0,9,1),(1,3,1)]) 299 (mX 299)<|de (de (de (de (de (dy 302<|il 92) 307 (mX 307) .nil) 308 (mX 308)<|dy 309<|mY 253) 310 (zx 253 3)<|de (dy 314<|mY 317) 317 (gL 48 [et,et] [(0,64,1),(1,129,1)])<|dy 318<|zx 3 3) 320 (mX 320)<|de (de (dy 322<|qP 2 3 2 16 fN) 323 (mX 323)<|dy 325<|mX 325) 331 (qP 256 4 256 256 fw)<|de (dy 335<|mY 331) 345 (uo .i64 8)<|dy 352<|mY 262) 355 (zx 3 4)<|de (de (de (dy 357<|il 129) 360 (zx 322 3)<|dy 361<|il 322) 366 (qP 32 5 32 32<|.int .u8 0)<|de (dy 367<|qP 64 5 64 64<|.int .u8 0) 376 (uo .u64 8)<|dy 380<|mY 3) 382 (zx 3 64)<|de (de (dy 394<|qP 256 5 256 256<|.int .u8 0) 396 (gL 2 [.int .u8 0,.int .u8 0] [(0,5,1),(1,5,1)])<|dy 397<|qP 16 396 32 32<|.int .u8 0) 403 (mY 405)<|de (dy 405<|gL 32 [Jj,et] [(0,403,1),(1,32,1)]) 418 (mY 5)<|dy 420 ⟨.unsafePointer,1,8,false,false,.pointer none,[]⟩)
def aZ:e2 a4 gT:=by repeat (first|exact trivial|refine⟨?_,xZ,?_⟩)
def eW:Tryz.prog.follows .mixedOrders:=bL
section
open Go.Sort Go.Lib
def qt(W:UInt8):Value:=Value.int .u8 (W.toNat:Int)
def mm:V:=.int .u8 0
end
section
variable{T:Program}{z:bV}{s:a2}{m:List (Nat×V)}{o:Nat}{P:Oper}{O:am}{F:V->Prop}{D:V}{G:Bool}
def Yb{R:aw}{Z B:Operand}{a:IntKind}{E W:Int}{o:Array TypeId}(b:Bool)(i:P.op=.call {callee:=.builtin<|if b then .max else .min,args:=#[Z,B],argTypes:=o})(l:R.val s Z=some (.int a E))(m:R.val s B=some (.int a W)):cb T s P R (.int a (if b then max E W else min E W)):=.same λc I S h=>by have e:=h.val l;have g:=h.val m;generalize j:c.eval Z=aP at e;generalize k:c.eval B=p at g;cases e;cases g;cases b with|true=>exists _,.int _ _;simp[execOp,i,j,k,resolve,invoke,builtin,Builtin.max_,Builtin.max2];omega|false=>exists _,.int _ _;simp[execOp,i,j,k,resolve,invoke,builtin,Builtin.min_,Builtin.min2];omega
theorem alf{Z B:Operand}{a:IntKind}{E W:Int}{k:Array TypeId}(e:F (.int a (max E W)))(g:P.op=.call {callee:=.builtin .max,args:=#[Z,B],argTypes:=k}:=by rfl)(i:val m O.h Z=some (.int a E):=by rfl)(j:val m O.h B=some (.int a W):=by rfl):c2 T z s m G P O F:=.of rfl (λ_ b c u ad=>Yb true g (fp b c i (by grind[Op.operands,Call.operands]) rfl)<|fp b c j (by grind[Op.operands,Call.operands]) rfl) e
theorem alh{Z B:Operand}{a:IntKind}{E W:Int}{k:Array TypeId}(e:F (.int a (min E W)))(g:P.op=.call {callee:=.builtin .min,args:=#[Z,B],argTypes:=k}:=by rfl)(i:val m O.h Z=some (.int a E):=by rfl)(j:val m O.h B=some (.int a W):=by rfl):c2 T z s m G P O F:=.of rfl (λ_ b c u ad=>Yb false g (fp b c i (by grind[Op.operands,Call.operands]) rfl)<|fp b c j (by grind[Op.operands,Call.operands]) rfl) e
def DP{Z B:Operand}{a:IntKind}{E W:Int}{b:Array TypeId}Y(c:F (.int a Y))(e:P.op=.call {callee:=.builtin .max,args:=#[Z,B],argTypes:=b}:=by rfl)(g:val m O.h Z=some (.int a E):=by rfl)(i:val m O.h B=some (.int a W):=by rfl)(w:max E W=Y:=by omega):c2 T z s m G P O F:=by grind[alf]
def zn{Z B:Operand}{a:IntKind}{E W:Int}{b:Array TypeId}Y(c:F (.int a Y))(e:P.op=.call {callee:=.builtin .min,args:=#[Z,B],argTypes:=b}:=by rfl)(g:val m O.h Z=some (.int a E):=by rfl)(i:val m O.h B=some (.int a W):=by rfl)(w:min E W=Y:=by omega):c2 T z s m G P O F:=by grind[alh]
def gZ{X J:TypeId}{b:b0}{Z c:Operand}{l:IntKind}{Y:Int}(a:Nat)M(g:F (.ref b.size [M] 0 0))(i:P.op=.indexAddr X Z c:=by rfl)(aU:eU z X (.slice J):=by exact fe)(he:z.find J=some b:=by rfl)(k:val m O.h Z=some (.f b.size j):=by rfl)(e:val m O.h c=some (.int l Y):=by rfl)(av:Y=(a:Int):=by first|rfl|omega)(p:j[a]?=some M:=by first|exact cv v|exact vx v):c2 T z s m G P O F:=aJ a M g i aU he k e av p
def mQ{X:TypeId}{Z b:Operand}{N:List UInt8}{j:IntKind}{Y:Int}a(e:F (bh (N.getD a 0)))(g:P.op=.index X Z b:=by rfl)(i:val m O.h Z=some (.str N):=by rfl)(c:val m O.h b=some (.int j Y):=by rfl)(aU:eU z X .string:=by exact fe)(av:Y=(a:Int):=by first|rfl|omega)(p:a<N.length:=by omega):c2 T z s m G P O F:=lw a _ e g i c aU av<|vx p
def ag8 X Z B:Op.equal X Z B=Op.equalIn (9999+1) X Z B:=rfl
def Jw{M:Nat}{X:TypeId}{I:World}{E W:Bool}(a:T.underlying X=some .bool):(Op.equalIn (M+1) X (.bool E) (.bool W)).run T I=.ok (E==W) I:=by simp[Op.equalIn,run_underlying a]
def Jx{M:Nat}{X J:TypeId}{I:World}{E:Option Addr}(a:T.underlying X=some (.pointer J)):(Op.equalIn (M+1) X (.pointer E) (.pointer none)).run T I=.ok E.isNone I:=by cases E<;>simp[Op.equalIn,run_underlying a]
def tL{b:BinOp}{X:TypeId}{Z B:Operand}{c aP:Value}{I:World}{a:Sem Value}{D:Value}:(eqGuard b X Z B c aP).run T I=.ok () I->a.run T I=.ok D I->(do eqGuard b X Z B c aP;a:Sem Value).run T I=.ok D I:=by simp_all
def TT{a:BinOp}{X:TypeId}{Z B:Operand}{E W:Bool}{I:World}:(eqGuard a X Z B (.bool E) (.bool W)).run T I=.ok () I:=by cases a<;>rfl
def G5{a:BinOp}{X:TypeId}{Z B:Operand}{E W:Option Addr}{I:World}:(eqGuard a X Z B (.pointer E) (.pointer W)).run T I=.ok () I:=by cases a<;>rfl
def AP{X:TypeId}{E W:Value}{I:World}{D:Bool}(a:binOp .eql X E W=(do pure (.bool (<-Op.equal X E W))):=by rfl)(w:(Op.equal X E W).run T I=.ok D I):(binOp .eql X E W).run T I=.ok (.bool D) I:=by simp_all
def It{X:TypeId}{E W:Value}{I:World}{D:Bool}(a:binOp .neq X E W=(do pure (.bool !(<-Op.equal X E W))):=by rfl)(w:(Op.equal X E W).run T I=.ok D I):(binOp .neq X E W).run T I=.ok (.bool !D) I:=by simp_all
theorem bR.beq{X:TypeId}{Z B:Operand}{E W:Bool}{K bs:Nat}(aU:bG T X .bool K bs):bR T .eql X Z B (.bool E) (.bool W) (.bool (decide (E=W))):=by intro S e c I a b;cases a;cases b;refine⟨_,.bool _,tL TT ?_⟩;rw[AP (w:=Jw aU.u)];rfl
def bR.bne{X:TypeId}{Z B:Operand}{E W:Bool}{K bs:Nat}(aU:bG T X .bool K bs):bR T .neq X Z B (.bool E) (.bool W) (.bool (decide ¬E=W)):=by intro S e c I a b;cases a;cases b;refine⟨_,.bool _,tL TT ?_⟩;rw[It (w:=Jw aU.u)];grind
def If{X dq:TypeId}{Z B:Operand}{E W:Bool}(g:F (.bool (decide (E=W))))(i:P.op=.binOp .eql X Z B dq:=by rfl)(j:val m O.h Z=some (.bool E):=by rfl)(k:val m O.h B=some (.bool W):=by rfl)(aU:eU z X .bool:=by exact fe):c2 T z s m G P O F:=.of rfl (λe a b u ad=>by obtain⟨_,_,c⟩:=aU.dO e;exact ul i (fp a b j (by grind[Op.operands]) rfl) (fp a b k (by grind[Op.operands]) rfl)<|bR.beq c) g
def N7{X dq:TypeId}{Z B:Operand}{E W:Bool}(g:F (.bool (decide ¬E=W)))(i:P.op=.binOp .neq X Z B dq:=by rfl)(j:val m O.h Z=some (.bool E):=by rfl)(k:val m O.h B=some (.bool W):=by rfl)(aU:eU z X .bool:=by exact fe):c2 T z s m G P O F:=.of rfl (λe a b u ad=>by obtain⟨_,_,c⟩:=aU.dO e;exact ul i (fp a b j (by grind[Op.operands]) rfl) (fp a b k (by grind[Op.operands]) rfl)<|bR.bne c) g
def A2:V->Option Bool|.gv=>some true|.ref .. =>some false|_=>none
def Vj{S:aF}{Z:V}{a:Value}{W:Bool}(w:aE S Z a)(av:A2 Z=some W):W/\a=.pointer none\/W=false/\∃E,a=.pointer (some E):=by cases w<;>simp[A2] at av<;>subst av;simp;simp
def bR.peq{X J:TypeId}{Z B:Operand}{a:V}{W:Bool}{K bs:Nat}(aU:bG T X (.pointer J) K bs)(av:A2 a=some W):bR T .eql X Z B a .gv (.bool W):=by intro S g e I b c;cases c;rcases Vj b av with⟨rfl,rfl⟩|⟨rfl,E,rfl⟩;exact⟨_,.bool _,tL G5<|AP (w:=Jx aU.u)⟩;exact⟨_,.bool _,tL G5<|AP (w:=Jx aU.u)⟩
def bR.anA{X J:TypeId}{Z B:Operand}{a:V}{W:Bool}{K bs:Nat}(aU:bG T X (.pointer J) K bs)(av:A2 a=some W):bR T .neq X Z B a .gv (.bool !W):=by intro S g e I b c;cases c;rcases Vj b av with⟨rfl,rfl⟩|⟨rfl,E,rfl⟩;exact⟨_,.bool _,tL G5<|It (w:=Jx aU.u)⟩;exact⟨_,.bool _,tL G5<|It (w:=Jx aU.u)⟩
def Xb{X J dq:TypeId}{Z B:Operand}{a:V}{W:Bool}(i:F (.bool W))(j:P.op=.binOp .eql X Z B dq:=by rfl)(l:val m O.h Z=some a:=by rfl)(o:val m O.h B=some .gv:=by rfl)(av:A2 a=some W:=by rfl)(aU:eU z X (.pointer J):=by exact fe)(k:a.plain:=by rfl):c2 T z s m G P O F:=.of rfl (λg b c u ad=>by obtain⟨_,_,e⟩:=aU.dO g;exact ul j (fp b c l (by grind[Op.operands]) k) (fp b c o (by grind[Op.operands]) rfl)<|bR.peq e av) i
def Ij{X J dq:TypeId}{Z B:Operand}{a:V}{W:Bool}(i:F (.bool !W))(j:P.op=.binOp .neq X Z B dq:=by rfl)(l:val m O.h Z=some a:=by rfl)(o:val m O.h B=some .gv:=by rfl)(av:A2 a=some W:=by rfl)(aU:eU z X (.pointer J):=by exact fe)(k:a.plain:=by rfl):c2 T z s m G P O F:=.of rfl (λg b c u ad=>by obtain⟨_,_,e⟩:=aU.dO g;exact ul j (fp b c l (by grind[Op.operands]) k) (fp b c o (by grind[Op.operands]) rfl)<|bR.anA e av) i
structure uT(T:Program)(X:TypeId)(xs ak:List V)(W:Bool):Prop where
 h:∀(S:aF)(ph hz:List Value)(I:World),ph.length=xs.length->hz.length=ak.length->(∀(H:Nat)(Z:V)(U:Value),xs[H]?=some Z->ph[H]?=some U->aE S Z U)->(∀(H:Nat)(Z:V)(U:Value),ak[H]?=some Z->hz[H]?=some U->aE S Z U)->(Op.equal X (.agg ph.toArray) (.agg hz.toArray)).run T I=.ok W I
 g:T.eqGuardType T.depth X=false
def bR.Rg{X:TypeId}{Z B:Operand}{a:List V}{W:Bool}(w:uT T X j a W):bR T .eql X Z B (.agg j) (.agg a) (.bool W):=by
 intro S q p I b c;cases b with
 |agg _ m e _ k=>cases c with|agg _ o i _ l=>refine⟨_,.bool W,tL ?_<|AP (w:=w.h S m o I e.symm i.symm k l)⟩;simp[eqGuard,w.g]
def bR.adE{X:TypeId}{Z B:Operand}{a:List V}{W:Bool}(w:uT T X j a W):bR T .neq X Z B (.agg j) (.agg a) (.bool !W):=by
 intro S q p I b c;cases b with
 |agg _ m e _ k=>cases c with|agg _ o i _ l=>refine⟨_,.bool _,tL ?_<|It (w:=w.h S m o I e.symm i.symm k l)⟩;simp[eqGuard,w.g]
def Ic{X dq:TypeId}{Z B:Operand}{a:List V}{W:Bool}(w:uT T X j a W)(e:F (.bool W))(g:P.op=.binOp .eql X Z B dq:=by rfl)(l:val m O.h Z=some (.agg j):=by rfl)(o:val m O.h B=some (.agg a):=by rfl)(i:(V.agg j).plain:=by rfl)(k:(V.agg a).plain:=by rfl):c2 T z s m G P O F:=.of rfl (λp b c u ad=>ul g (fp b c l (by grind[Op.operands]) i) (fp b c o (by grind[Op.operands]) k)<|bR.Rg w) e
def N6{X dq:TypeId}{Z B:Operand}{a:List V}{W:Bool}(w:uT T X j a W)(e:F (.bool !W))(g:P.op=.binOp .neq X Z B dq:=by rfl)(l:val m O.h Z=some (.agg j):=by rfl)(o:val m O.h B=some (.agg a):=by rfl)(i:(V.agg j).plain:=by rfl)(k:(V.agg a).plain:=by rfl):c2 T z s m G P O F:=.of rfl (λp b c u ad=>ul g (fp b c l (by grind[Op.operands]) i) (fp b c o (by grind[Op.operands]) k)<|bR.adE w) e
end
section
open Go.RowKit
def fg.al6{T:Program}{D:V}{m:List (Nat×V)}{x:FuncId}(w:∀S(c:List Value) I,c.length=j.length->(∀(e:Nat) Z a,j[e]?=some Z->c[e]?=some a->aE S Z a)->∃a,aE S D a/\Calls T x c.toArray I (·=.returned a/\Below I.heap.size I ·)):fg T m x j D:=by intro S c I q g h i o;let⟨a,l,k⟩:=w S c I g h;apply k.mono;rintro J aT ⟨rfl,b⟩;exact⟨a,D,[],S,rfl,⟨rfl,rfl⟩,l,i.grown ⟨b.os,b.tape,b.output,b.size,λe p _=>b.block e p⟩⟩
inductive oE:List V->List Value->Prop|nil:oE [] []|int {F:IntKind} {Y:Int} {N:List V} {o:List Value}:oE N o->oE (.int F Y::N) (.int F Y::o)|bool {W:Bool} {N:List V} {o:List Value}:oE N o->oE (.bool W::N) (.bool W::o)|str {O:List UInt8} {N:List V} {o:List Value}:oE N o->oE (.str O::N) (.string ⟨O.toArray⟩::o)
def oE.eq{i:List V}{k:List Value}(w:oE i k)S:∀c,c.length=i.length->(∀(e:Nat) Z a,i[e]?=some Z->c[e]?=some a->aE S Z a)->c=k:=by
 induction w
 simp_all
 next F Y N o _ g=>exact oE.step S g λa h=>by cases h;rfl
 next W N o _ g=>exact oE.step S g λa h=>by cases h;rfl
 next O N o _ g=>exact oE.step S g λa h=>by cases h;rfl
 where
 oE.step (S) {Z:V} {aP:Value} {N:List V} {o:List _} (g:∀c,c.length=N.length->(∀e Z a,N[e]?=some Z->c[e]?=some a->aE S Z a)->c=o)
   (m:∀a,aE S Z a->a=aP):∀c,c.length=(Z::N).length->(∀e B a,(Z::N)[e]?=some B->c[e]?=some a->aE S B a)->c=aP::o:=by
  intro c l j;cases c;cases l
  next E c=>rw[m E<|j 0 Z E rfl rfl,g c b λe B a p h=>j (e+1) B a bB bB]
def fg.fixed{T:Program}{D:V}{m:List (Nat×V)}{x:FuncId}{a:List Value}{aP:Value}(g:oE j a)(e:∀S,aE S D aP)(w:∀I,Calls T x a.toArray I (·=.returned aP/\Below I.heap.size I ·)):fg T m x j D:=.al6 λS h I b c=>⟨aP,e S,by rw[g.eq S h b c];grind⟩
def fg.Ha{T:Program}{D:V}{m:List (Nat×V)}{x:FuncId}{a:List Value}{aP:Value}(g:oE j a)(e:∀S,aE S D aP)(w:∀I,Calls T x a.toArray I (·=.returned aP/\·=I)):fg T m x j D:=.fixed g e λI=>(w I).mono λJ aT ⟨b,c⟩=>⟨b,c▸.refl _ _⟩
end
