import Derived.Test.YtpilnblkknjliaaGreatDoorF2
import Derived.Test.YtpilnblkknjliaaGreatDoorSh
set_option linter.all false
set_option maxHeartbeats 8000000
set_option maxRecDepth 100000
open Array renaming size->bB,toList->bo
open Bool renaming false->ad,true->af
open Classical renaming choose->GX
open Decidable renaming decide->aL
open Eq renaming symm->bG,trans->bC
open Go renaming Code->hG,FuncId->gP,IntKind->dw,Oper->a4,Operand->aM,Program->ct,TypeId->aw,Value->bt,World->bZ
open Go.Builtin renaming append->rT
open Go.Callee renaming builtin->hX
open Go.IntKind renaming bits->mN,i64->aj,u64->hf,wrap->k0
open Go.Op renaming call->gi,equalIn->pA,indexAddr->qd
open Go.Program renaming underlying->ij
open Go.Proofs.Tryz renaming prog->b5
open Go.TypeDesc renaming slice->dP,string->ml
open Go.Value renaming bool->iv,cells->dU,int->ek,string->mO
open Go.ga.V renaming agg->bH,bool->a6,cells->kb,int->an,ref->fy,str->bV,tuple->cs
open Go.ga.cj renaming cell->ag,map->h8
open Iff renaming rfl->na
open Inhabited renaming default->ai
open Int renaming natAbs->g6,toNat->aB
open List renaming Nodup->eb,Perm->hI,drop->aU,filter->v3,getD->z,idxOf->iw,length->Q,map->aa,range->bJ,replicate->cM,set->aK,take->ak,toArray->aT
open List.Pairwise renaming nil->Cp
open Nat renaming beq->eU,ble->iQ,blt->ja,gcd->jk,min->nL
open Option renaming none->ah,some->W
open Or renaming inl->bl,inr->bp
open UInt8 renaming ofNat->gk,toNat->aG,toNat_lt->nc
open _root_ renaming Array->b4,Bool->Y,DecidableEq->iu,False->h7,Inhabited->xv,Int->J,List->X,Nat->Z,True->dW,UInt8->v,absurd->b9,rfl->p,trivial->c1
open Go.Proofs Go.Proofs.Tryz
namespace Go.ga
variable{K:a4}{P:ct}{d:X (Z×V)}{i T:Z}{m:db}{M:aI}{t:ix}{bf p8:Type}
section
variable{ops:b4 a4}{A:aI->Prop}
def al4{T b:Z}(c:T<=10000000000000)(d:iQ b 8):T*b<=140737488355328:=by
 calc T*b<=10000000000000*8:=Ci c (oS d)
  _<=140737488355328:=aR
def Nl{j B g:aw}{f:cP}{D C:aM}{c q:Z}{r k:X V}(e:X V)(L:A ((M.Nc c (.h f.size g e)).put K.dst (.aq c 0 (Q e))))(N:K.op=gi {callee:=hX rT,args:=#[D,C],argTypes:=#[j,B]}:=by rfl)(l:gS t j (dP g):=by exact hd)(H:t.find g=W f:=by rfl)(R:val d M.b D=W (.aq c 0 q):=by rfl)(F:cx M.au c=W (.h f.size g r):=by rfl)(hl:nj t d M C B f.size k:=by exact Eh)(x:q=Q r:=by exact Kw)(S:bB (dU f.z)=f.size:=by rfl)(U:iQ f.bytes 8:=by rfl)(aW:r++k=e:=by exact Qu)(bQ:Q e<=10000000000000:=by exact uO)(y:ja c (i+1000):=by rfl):hY P t m d i ops K M A:=⟨λs v w n am al J E=>by
 obtain⟨_,_,ch⟩:=l.fo s;have u:=s.find H;have aW:ak q (aU 0 r)++k=e:=by rw[sG,x,g5];exact aW
 have x:q+Q k=Q e:=by rw[<-aW];simp;omega
 have y:c<i+1000:=oS (show iQ (c+1) (i+1000)=af from y);let aQ:=gr n c ((n c).1,(n c).2+1);obtain⟨ao,O,Y⟩:=bm.ad6 (m:=m) (M:=M) (n:=n) (aQ:=aQ) (I:=c) (IV:=K.dst) (rf:=.aq c 0<|Q e) (ax:=.bO (n c).1 ((n c).2+1) 0<|Q e) (λj l=>i9 l) (C:=.h f.size g e) (by grind[kt]) F (by simp only[V.ay,V.li,V.fI,V.ge,aQ,kt];exact .refl _);refine cK.qp J (HL ch u.G u.nH S N (iq v w R n) O o (hl.src s v w n) At (by simp_all[al4])) ?_;have T:=E aQ _ ⟨λj _=>by grind[gr],λj l=>i9 o⟩ L;grind[kt,cj.az,cK.tn]⟩
inductive uX:V->V->Prop|mk (y R l I:Z):uX (.bO y R l I) .undef
theorem uX.g2{e:bh}:∀c d,uX c d->∀b,bj e c b->bj e d b:=λc d q b _=>by cases q;exact .undef b
theorem uX.one:y1 uX:=λb c q=>by cases q;trivial
def HU:V->V|.aq _ _ _=>.undef|b=>b
def Bb(e:X Z):V->V|.agg f=>.agg (Ba f 0)|b=>HU b
 where
 Ba:X V->Z->X V
 |[],_=>[]|b::d,c=>match iY c e with|af=>HU b::Ba d (c+1)|ad=>b::Ba d (c+1)
def RW(c:X Z):cj->cj|.cell d b=>.cell d (Bb c b)|b=>b
def xX(e:Z)(b:X Z):bU->bU|[]=>[]|(A,c)::d=>match eU e A with|af=>(A,RW b c)::d|ad=>(A,c)::xX e b d
def aI.xX(M:aI)(c:Z)(b:X Z):aI:={M with au:=ga.xX c b M.au}
section
variable{n:ce}
def apN{b:V}:gv uX (b.ay n) ((HU b).ay n):=by cases b<;>first|exact .refl _|exact .base _ _<|.mk _ _ _ _
def apM(b:V):gv uX (b.fI n) ((HU b).fI n):=by cases b<;>first|exact .refl _|exact .base _ _<|.mk _ _ _ _
def aak{sZ:X Z}:∀(e:X V)(b c:Z),(Bb.Ba sZ e b)[c]?=(e[c]?).map λd=>match iY (b+c) sZ with|af=>HU d|ad=>d
|[],b,c=>a3|d::f,b,0=>by grind[Bb.Ba]|d::f,b,c+1=>by have:=aak (sZ:=sZ) f (b+1) c;grind[Bb.Ba,List.getElem?_cons_succ]
def RV{d:X Z}:∀(c:X V)(b:Z),Q (Bb.Ba d c b)=Q c|[],b=>a3|f::e,b=>by rw[Bb.Ba];split<;>simp[RV e]
def apP{c:X Z}(b:V):(Bb c b).cells.length=Q b.cells:=by cases b<;>first|rfl|simp[Bb,V.cells,RV]
def apO{i:X Z}(A:Z)(e:cj){d f:b0}(q:cW uX d f):cW uX (c6 n (A,e)::d) (c6 n (A,RW i e)::f):=by
 cases e with
 |cell m g=>simp[RW,c6,cj.az,apP];exact .Gb (by
  cases g with
  |agg d=>refine .agg _ _ (by simp[RV]) λk g r c b=>?_;rw[c4] at c b;rw[aak] at b;cases j:d[k]? with|none=>simp_all|some l=>rw[j] at c b;simp at c b;subst c;subst b;split;exact apM l;exact .refl _
  |_=>exact apN) q|_=>exact .same _ q
def aal{c:X Z}{f:Z}:∀(b:bU),cW uX (aX n b) (aX n (xX f c b))|[]=>.nil|(A,d)::e=>by rw[xX];split;exact apO A d<|cW.refl _;exact .same _<|aal e
def bm.xX{m:db}{M:aI}{c:Act}{e:bZ}{b:bh}(d:Z)(f:X Z)(q:bm m (M.ay n) c e b):bm m ((M.xX d f).ay n) c e b:=q.ra (bh.le.refl b) q.dt uX.g2 uX.one (λd i g=>⟨i,g,.refl _⟩)<|cW.qi (aal _)<|cW.refl _
end
def auY{ops:b4 a4}{K:a4}{A:aI->Prop}(e:Z)(c:X Z)(q:hY P t m d i ops K (M.xX e c) A)(w:l8 (bo ops) (M.xX e c).b K=W af:=by rfl):hY P t m d i ops K M A:=⟨λs j k n u al _ l=>λbA g v f r=>q.run s j k n u al cc l bA g v f<|bm.xX e c r⟩
end
structure k1(P:ct)(t:ix)(m:db)(d:X (Z×V))(T:Z)(dQ:X Z):Prop where
 hm:P.follows .mixedOrders
 Mn:gV P t
 uf:m.G=d
 Mm:e5 d
 a7:m.n=T
section
variable{dQ:X Z}{al:Exit->aI->Prop}
def nO.Fu{c M:aI}(d:Ey c.b M.b:=by repeat (first|exact trivial|refine⟨cR,?_⟩))(e:tJ c.au M.au:=by repeat (first|exact trivial|refine⟨cR,?_⟩))(f:oE c.au:=by rfl)(i:c.g=M.g:=by rfl):nO c M:=⟨d,e,f,i⟩
def nO.r{c M:aI}(d:Ey c.b M.b:=by repeat (first|exact trivial|refine⟨rfl,?_⟩))(e:tJ c.au M.au:=by repeat (first|exact trivial|refine⟨rfl,?_⟩))(f:oE c.au:=by rfl)(i:c.g=M.g:=by rfl):nO c M:=⟨d,e,f,i⟩
def KD{b:Type}(e:b->aI)(f:b->Prop)(d:b->Z)(g:b)(M:aI):Prop:=∃c,f c/\d c<d g/\nO (e c) M
def WW{c:Type}(d:c->aI)(e:c->Prop)(M:aI):Prop:=∃b,e b/\nO (d b) M
def a0{c:Type}{e:c->aI}{f:c->Prop}{d:c->Z}{g:c}{M:aI}b(j:f b:=by first|omega|trivial|(dsimp only;omega))(i:d b<d g:=by first|omega|(dsimp only;omega))(cq:nO (e b) M:=by exact .Fu):KD e f d g M:=⟨b,j,i,cq⟩
def cA{c:Type}{iI:c->aI}{H:c->Prop}{M:aI}b(d:H b:=by trivial)(e:nO (iI b) M:=by exact .Fu):WW iI H M:=⟨b,d,e⟩
def dM{c:hG}(q:match c with|.seq e f=>ls P t m d i T dQ e M (uH (ls P t m d i T dQ f · al) al)|_=>h7)(b:k1 P t m d T dQ:=by assumption):aZ P m i c M al:=apC b.hm b.Mn b.uf b.Mm b.a7 q
def dv l{f:hG}c e n(g:l)(k:∀b,e b->ls P t m d i T dQ f (c b) (uH (KD c e n b ·) al))(j:e g:=by first|trivial|omega|(simp;done))(cq:nO (c g) M:=by exact .Fu)(b:k1 P t m d T dQ:=by assumption):aZ P m i (.loop f) M al:=aA9 b.hm b.Mn b.uf b.Mm b.a7 j cq k
def i0{g:hG}e(f:Z->Prop)c(k:∀b,b<=e/\f b->ls P t m d i T dQ g (c b) (uH (KD c (λb=>b<=e/\f b) (λb=>e-b) b ·) al))(j:f 0:=by first|trivial|omega|(simp;done))(cq:nO (c 0) M:=by exact .Fu)(b:k1 P t m d T dQ:=by assumption):aZ P m i (.loop g) M al:=dv _ c _ _ 0 k ⟨dO _,j⟩ cq b
def eC{f:hG}e c(j:∀b≤e,ls P t m d i T dQ f (c b) (uH (KD c (λb=>b<=e) (λb=>e-b) b ·) al))(g:nO (c 0) M:=by exact .Fu)(b:k1 P t m d T dQ:=by assumption):aZ P m i (.loop f) M al:=dv _ c _ _ 0 j (dO _) g b
def gf j{e f:hG}c(g:j->Prop)(q:ls P t m d i T dQ e M (uH (WW c g ·) al))(A:∀b,g b->ls P t m d i T dQ f (c b) al)(b:k1 P t m d T dQ:=by assumption):aZ P m i (.seq e f) M al:=aAR b.hm b.Mn b.uf b.Mm b.a7 q A
def n7{b:hG}c(q:aZ P m i b c al)(d:nO c M:=by exact .Fu):aZ P m i b M al:=q.D3 d
class oe(R:Y)(H:outParam Prop):Prop where
 iff:R↔H
instance{b:Y}:oe b (b=af):=⟨na⟩
instance{b:Prop}{c:Decidable b}:oe (@aL b c) b:=⟨ir⟩
class qg{cb:Type}(y:cb)(R:outParam cb):Prop where
 h:y=R
instance{c:Type}{b:c}:qg b b:=⟨p⟩
instance{c n:Type}{b:X c}{d:c->n}:qg ((Q (aa d b):Z):J) (Q b:J):=⟨by rw[bg]⟩
instance{c:Type}{b:X c}:qg (bo (aT b)) b:=⟨p⟩
instance{c e b d:J} [q:qg c b] [A:qg e d]:qg (c+e) (b+d):=⟨by rw[q.h,A.h]⟩
instance{c e b d:J} [q:qg c b] [A:qg e d]:qg (c-e) (b-d):=⟨by rw[q.h,A.h]⟩
instance{b c d e:J} [q:qg b d] [A:qg c e]{f:Decidable (b<c)}:oe (@aL (b<c) f) (d<e):=⟨by rw[ir,q.h,A.h]⟩
instance{b c d e:J} [q:qg b d] [A:qg c e]{f:Decidable (b<=c)}:oe (@aL (b<=c) f) (d<=e):=⟨by rw[ir,q.h,A.h]⟩
instance{g:Type}{b c d e:g} [q:qg b d] [A:qg c e]{f:Decidable (b=c)}:oe (@aL (b=c) f) (d=e):=⟨by rw[ir,q.h,A.h]⟩
instance{g:Type}{b c d e:g} [q:qg b d] [A:qg c e]{f:Decidable ¬b=c}:oe (@aL (¬b=c) f) ¬d=e:=⟨by rw[ir,q.h,A.h]⟩
instance{b c:Y}{d e:Prop} [q:oe b d] [A:oe c e]:oe (b&&c) (d/\e):=⟨by rw[j_,q.iff,A.iff]⟩
instance{b c:Y}{d e:Prop} [q:oe b d] [A:oe c e]:oe (b||c) (d\/e):=⟨by rw[p9,q.iff,A.iff]⟩
instance{b:Y}{c:Prop} [q:oe b c]:oe (!b) ¬c:=⟨by rw[<-q.iff];simp⟩
def e{f:Y}{c d b:Prop} [g:oe f b](k:b->c)(i:¬b->d):ly f c d:=.mk (λq=>k<|g.iff.1 q) (λq=>i λj=>by rw[g.iff.2 j] at q;cases q)
def c9{e:Y}{c:Y->Prop}{d:Y->Prop}{f:Prop}{b:Y} [i:oe e f](q:f->c b)(A:d b):Et e af c d:=.mk b (λg=>q<|i.iff.1 g) A
def ev{e:Y}{c:Y->Prop}{d:Y->Prop}{g:Prop}{b:Y} [i:oe e g](q:¬g->c b)(A:d b):Et e ad c d:=.mk b (λf=>q λj=>by rw[i.iff.2 j] at f;cases f) A
def fk{d:Y}{b:Y->Prop}{c:Y->Prop}{e:Prop}{f:Y} [oe d e](A:c f)(q:e->b f:=by exactλ_=>rfl):Et d af b c:=c9 q A
def eA{d:Y}{b:Y->Prop}{c:Y->Prop}{e:Prop}{f:Y} [oe d e](A:c f)(q:¬e->b f:=by exactλ_=>rfl):Et d ad b c:=ev q A
def Ol{f:Y}{d e c:Prop} [g:oe f c](q:c->d)(A:¬c->e):P9 f d e:=.mk (λb=>q<|g.iff.1 b) (λb=>A λi=>by rw[g.iff.2 i] at b;cases b)
theorem eS{e:Z}{ops:b4 a4}(q:qS P t m d i (bo ops) 4000 (bo ops) [] [] M (Ay i (bo ops) · M · (al .normal)))(b:k1 P t m d T dQ:=by assumption)(c:tb (bo ops):=by decide+kernel)(bA:tW T (bo ops):=by rfl):aZ P m i (.region e ops af) M al:=aZ.ao3 b.hm b.Mn b.uf b.Mm b.a7 bA c q
def kU{d:X a4}{c:X eD}{e:aI}{al:aI->Prop}b(q:al (M.zZ b))(f:uj d c:=by kernel_rfl)(g:zY 5000 6000 e.au M.au b M:=by kernel_rfl):Ay 5000 d c e M al:=⟨b,6000,f,g,p,q⟩
def fZ{c:X a4}{b:X eD}{d:aI}{al:aI->Prop}(q:al (M.zZ []))(e:uj c b:=by kernel_rfl)(f:zY 5000 6000 d.au M.au [] M:=by kernel_rfl):Ay 5000 c b d M al:=kU [] q e f
def eg{c:X a4}{b:Prop}(q:b)(d:tb c:=by decide+kernel):KG c b:=.mk d q
def br{K:a4}{c:X Z}{A:eD->aI->Prop}{ops:b4 a4}{e:V}(q:∀k,ez P t m d ad K ⟨M.b,(nq M.au c).getD [],k⟩ (·=e))(f:A (c,[]) (M.put K.dst e))(j:nq M.au c=W ((nq M.au c).getD []):=by rfl)(g:ry c:=by rfl):oh P t m d i ops K M c A:=ajo ⟨e,q,f⟩ j g
end
abbrev c(b:Z):V:=.en b 0 0
def k(T:Z):V:=an aj T
def bx{g:gP}{b:Func}{d:X (Z×V)}{c:X V}{k:V}{i:hG}(l:Tryz.prog.funcs[g]?=W b)dQ(q:∀m,k1 b5 hV m d b.ntmps dQ->ls b5 hV m d 5000 b.ntmps dQ i ⟨qj 0 c,[],[]⟩ (jl b5 m 5000 (λ_=>(0,0)) (bo b.results) λt s=>t=k/\s=[]))(e:(b.name== "runtime.NumGoroutine")=ad:=by kernel_rfl)(f:b.body=W i:=by rfl)(j:e5 d:=by rfl)(r:iQ (Q c) b.ntmps:=by rfl)(n:(⟨qj 0 c,[],[]⟩:aI).ay (λ_=>(0,0))=⟨qj 0 c,[]⟩:=by rfl):fA b5 d g c k:=gJ.of_wp dQ _ ⟨qj 0 c,[],[]⟩ e1 bq j ⟨l,e,f⟩ p r p n λm e f=>q m ⟨e1,bq,e,j,f⟩
def dN{i:gP}{b:Func}{d:X (Z×V)}{f:X V}{l r:bU}{s:V}{j:hG}(t:Tryz.prog.funcs[i]?=W b)dQ(q:∀n m,k1 b5 hV m d b.ntmps dQ->ls b5 hV m d 5000 b.ntmps dQ j ⟨qj 0 f,l,[]⟩ (jl b5 m 5000 n (bo b.results) (λw v=>∃g,dg 5000 n g/\w=s.ay g/\v=aX g r)))(c:(b.name== "runtime.NumGoroutine")=ad:=by kernel_rfl)(e:b.body=W j:=by rfl)(k:e5 d:=by rfl)(u:iQ (Q f) b.ntmps:=by rfl):og b5 d i f l s r:=og.of_wp dQ e1 bq k ⟨t,c,e⟩ p u p λn m c e=>q n m ⟨e1,bq,c,k,e⟩
def bD(T:Z):X Z:=if q:T=0 then[] else T%10000::bD (T/10000)
 termination_by T
 decreasing_by omega
theorem qn:bD 0=[]:=by simp[bD]
theorem xT{T:Z}(q:0<T):bD T=T%10000::bD (T/10000):=by rw[bD,Ky o]
theorem CP{T:Z}:bD T=[]↔T=0:=by constructor;grind[xT];rintro rfl;exact qn
def Zl{b:Z->Prop}(c:b 0)(q:∀T,0<T->b (T/10000)->b T):∀T,b T:=by
 intro T
 induction T using Nat.strongRecOn
 next T d=>rcases oR T with rfl|bw;exact c;grind
def aoY:∀T,∀I∈bD T,I<10000:=Zl (by simp[qn]) λT b c I bA=>by rw[xT b] at bA;grind
def h6:X Z->Z|[]=>0|I::b=>I+10000*h6 b
theorem aAK:∀T,h6 (bD T)=T:=Zl (by simp[qn,h6]) λT b c=>by grind[xT,h6]
def aAJ b c:h6 (b++c)=h6 b+10000^Q b*h6 c:=by
 induction b
 simp[h6]
 next I b d=>simp[yM,h6,rR];grind
def aAL{b:X Z}(q:∀I∈b,I<10000):h6 b<10000^Q b:=by
 induction b
 trivial
 next I b d=>let c:=q I av;grind[h6,List.length_cons,Nat.pow_succ]
def Ac:X Z->X Z|[]=>[]|I::b=>match Ac b with|[]=>if I=0 then[] else[I]|i=>I::i
def aiP:∀b,(∀I∈b,I<10000)->Ac b=bD (h6 b)
|[],_=>by simp[Ac,h6,qn]|I::b,q=>by
 have:=q I av;have e:=aiP b λf g=>q f aY;rw[Ac,e];split;rename_i c;have c:=CP.1 c;rw[h6,c];split;simp_all;rw[xT o,show(I+10000*0)/10000=0 by omega,qn];grind;rename_i i c;rw[h6];have:0<h6 b:=by rcases oR _ with d|d;exact b9 (CP.2 d) (by simpa using c);exact d
 rw[xT (T:=I+10000*h6 b) o,show(I+10000*h6 b)/10000=h6 b by omega,show(I+10000*h6 b)%10000=I by omega]
theorem VW:∀b T,T<=Q b->(∀c,T<=c->c<Q b->b[c]?=W 0)->(T=0\/∃I≠0,b[T-1]?=W I)->Ac b=ak T b
|[],T,_,_,_=>by simp[Ac]|I::b,0,_,q,_=>by let d:=q 0 (bz _) av;let i:=VW b 0 (dO _) (λc _ j=>by have:=q (c+1) (dO _) ap;trivial)<|bl p;grind[Ac]|I::b,T+1,e,q,g=>by
 simp at e;rw[Ac,VW b T o (λc d j=>by have:=q (c+1) o ap;trivial) (by grind)];cases T;simp_all
 next T=>
  cases b;trivial
  next f b=>simp
theorem Zk T b:(bD T)[b]?=if 0<T/10000^b then W (T/10000^b%10000) else ah:=by
 revert T
 induction b
 intro T;rcases oR T with rfl|c;simp[qn];grind[xT]
 next b d=>intro T;rcases oR T with rfl|c;simp[qn];rw[xT c,List.getElem?_cons_succ,d,PM,rR,lV]
theorem HB{T b:Z}:b<Q (bD T)↔0<T/10000^b:=by let q:=Zk T b;grind
theorem aoX T b:z (bD T) b 0=T/10000^b%10000:=by rw[dm,Zk];grind
theorem zm{T E:Z}(q:E<Q (bD T)):(bD T)[E]=T/10000^E%10000:=by have:=aoX T E;simp_all
theorem A3 T b:T/10000^(b+1)=T/10000^b/10000:=by rw[rR,PM]
def ov{T A:Z}:T<10000^A->Q (bD T)<=A:=by grind[Nat.lt_or_ge,bD,HB,Nat.div_eq_of_lt]
theorem A0 T:T<10000^Q (bD T):=by let q:¬Q (bD T)<Q (bD T):=xo _;rw[HB] at q;rcases fF T _ with b|b;exact b;simp_all
theorem vf{c b:Z}(q:c<=b):Q (bD c)<=Q (bD b):=ov<|Ko q<|A0 b
def adA{y R:Z}:Q (bD y)<Q (bD R)->y<R:=by grind[Nat.lt_or_ge,vf]
def JR:∀c b d e,c[b]?=W e->h6 (aK c b d)+e*10000^b=h6 c+d*10000^b|[],b,d,e,q=>cc|I::c,0,d,e,q=>by grind[h6]|I::c,b+1,d,e,q=>by let f:=JR c b d e cc;grind[h6,Nat.pow_succ,Nat.mul_assoc,Nat.mul_comm]
def V2 T:h6 (cM T 0)=0:=by
 induction T
 rfl
 next T b=>grind[h6]
def Na{b:X Z}{d c:Z}(q:∀I∈b,I<10000):c<10000->∀I∈aK b d c,I<10000:=by grind
def bP:Z:=10^30
theorem qZ:0<bP:=aR
structure qe where
 neg:Y
 num:Z
 dx:Z
 deriving iu
def m1(c:Y)(num b:Z):qe:=if num=0 then⟨ad,0,1⟩ else⟨c,num/jk num b,b/jk num b⟩
def cw(b:J):qe:=m1 (aL<|b<0) (g6 b) bP
theorem atk{c b d I:Z}(v:0<b)(bA:0<I)(q:c*I=d*b):c/jk c b=d/jk d I/\b/jk c b=I/jk d I:=by
 let j:0<jk c b:=Kl _ v;let k:0<jk d I:=Kl _ bA;let⟨g,u⟩:=WB c b;let⟨e,w⟩:=GN c b;let⟨i,x⟩:=WB d I;let⟨f,y⟩:=GN d I;let m:c/jk c b=g:=by rw[PN j u]
 let n:b/jk c b=e:=by rw[PN j w]
 let r:d/jk d I=i:=by rw[PN k x]
 let s:I/jk d I=f:=by rw[PN k y]
 let z:Nat.Coprime g e:=by rw[<-m,<-n];exact aj5 j
 let A:Nat.Coprime i f:=by rw[<-r,<-s];exact aj5 k
 let E:=by
  let t:jk c b*jk d I*(g*f)=jk c b*jk d I*(i*e):=by
   calc jk c b*jk d I*(g*f)=jk c b*g*(jk d I*f):=by ac_rfl
    _=c*I:=aY
    _=d*b:=q
    _=jk d I*i*(jk c b*e):=aY
    _=_:=by ac_rfl
  exact aj7 (Ar j k) t
 let B:0<e:=by rcases oR e with l|l;grind;exact l
 let C:e ∣ f:=(aj2 z).dvd_of_dvd_mul_left (by grind[Nat.dvd_mul_left]);let D:f ∣ e:=(aj2 A).dvd_of_dvd_mul_left (by grind[Nat.dvd_mul_left]);grind[Nat.dvd_antisymm,Nat.eq_of_mul_eq_mul_right]
def Fy{d:Y}{num c:Z}{b:J}(bA:0<c)(q:num*bP=g6 b*c)(f:num≠0->d=aL (b<0)):m1 d num c=cw b:=by
 unfold cw m1;let aH:g6 b=0↔num=0:=by constructor;grind[Nat.mul_eq_zero,b9,qZ];grind[Nat.mul_eq_zero]
 by_cases e:num=0;grind;grind[atk,qZ]
theorem xV b:0<(cw b).dx:=by unfold cw m1;split;trivial;simp[Nat.div_pos,Nat.le_of_dvd,qZ,GN,Kl]
def HH b:(cw b).num*bP=g6 b*(cw b).dx:=by
 unfold cw m1;split
 (simp;omega)
 cases WB (g6 b) bP;cases GN (g6 b) bP;grind[bP,jk,Nat.div_eq_of_eq_mul_right]
def LN{b:J}:(cw b).neg=aL (b<0):=by grind[cw,m1]
def ZK{b:J}:(cw b).num=0↔b=0:=by let q:=HH b;let bA:=xV b;constructor;grind[Nat.mul_eq_zero];rintro rfl;rfl
def ZI b:(cw b).dx<=bP:=by unfold cw m1;split;trivial;simp[PO]
def ao_ b:(cw b).num/(cw b).dx=g6 b/bP:=by rw[<-akc _ _ qZ,HH b,lV _ bP,akc _ _<|xV b]
def ZJ{b:J}:(cw b).num%(cw b).dx=0↔g6 b%bP=0:=by
 let q:=HH b;let bA:=xV b;rw[<-aj6,<-aj6];constructor;rintro⟨c,d⟩;exists c;have:g6 b*(cw b).dx=bP*c*(cw b).dx:=by rw[<-q,d];ac_rfl
 grind[Nat.eq_of_mul_eq_mul_right];rintro⟨c,d⟩;exists c;grind[cw,bP,Nat.eq_of_mul_eq_mul_right,qZ]
theorem ao9 b:(cw b).dx=1↔g6 b%bP=0:=by
 unfold cw m1;split;simp_all;have:0<jk (g6 b) bP:=Kl _ qZ;simp;constructor;intro q;have c:=by have:=Nat.div_mul_cancel<|GN (g6 b) bP;rw[q,vZ] at this;exact this
 grind[Nat.gcd_dvd_left,bP,Nat.mod_eq_zero_of_dvd];intro q;have:jk (g6 b) bP=bP:=by rw[Nat.gcd_comm];exact Nat.gcd_eq_left<|Nat.dvd_of_mod_eq_zero q
 simp_all
def F3(b c:qe):qe:=if b.neg=c.neg then m1 b.neg (b.num*c.dx+c.num*b.dx) (b.dx*c.dx)
 else if c.num*b.dx<=b.num*c.dx then m1 b.neg (b.num*c.dx-c.num*b.dx) (b.dx*c.dx)
 else m1 c.neg (c.num*b.dx-b.num*c.dx) (b.dx*c.dx)
theorem afZ b c:F3 (cw b) (cw c)=cw (b+c):=by
 let l:=HH b;let m:=HH c;let bA:=Ar (xV b)<|xV c;let d:(cw b).num*(cw c).dx*bP=g6 b*((cw b).dx*(cw c).dx):=by
  calc (cw b).num*(cw c).dx*bP=(cw b).num*bP*(cw c).dx:=by ac_rfl
   _=_:=aY
 let e:(cw c).num*(cw b).dx*bP=g6 c*((cw b).dx*(cw c).dx):=by
  calc (cw c).num*(cw b).dx*bP=(cw c).num*bP*(cw b).dx:=by ac_rfl
   _=_:=aY
 let j:(cw c).num*(cw b).dx<=(cw b).num*(cw c).dx↔g6 c<=g6 b:=by rw[<-akd (w:=qZ),d,e,akd (w:=bA)]
 unfold F3;rw[LN,LN];by_cases i:aL (b<0)=aL (c<0);rw[ae i];refine Fy bA ?_ λf=>?_;rw[iG,d,e,<-iG];grind
 (simp_all;omega)
 rw[ab i];by_cases g:(cw c).num*(cw b).dx<=(cw b).num*(cw c).dx;rw[ae g];refine Fy bA ?_ λf=>?_;rw[PU,d,e,<-PU];grind;let k:g6 b≠g6 c:=λq=>by grind[Nat.eq_of_mul_eq_mul_right,qZ]
 (simp;omega)
 rw[ab g];refine Fy bA ?_ λf=>?_;rw[PU,d,e,<-PU];grind
 (simp;omega)
def Iz(b:qe):qe:=if b.num=0 then b else{b with neg:=!b.neg}
def TS b:Iz (cw b)=cw (-b):=by unfold Iz;by_cases q:b=0;subst q;rfl;rw[ab λc=>q<|ZK.1 c];unfold cw m1;grind
def fm(b:J):J:=if b=0 then 0 else if b<0 then-1 else 1
def Gi(b:qe):J:=if b.num=0 then 0 else if b.neg then-1 else 1
def ayT b:Gi (cw b)=fm b:=by unfold Gi fm;simp[LN,ae,ZK,ab]
def atl(b:Y)T:m1 b T 1=cw (if b then-(T*bP:Z) else(T*bP:Z)):=by refine Fy Nat.one_pos ?_ λc=>?_;omega;grind[bP,Nat.mul_pos,qZ]
def LJ(b:qe):qe:=m1 b.neg (if b.neg/\b.num%b.dx≠0 then b.num/b.dx+1 else b.num/b.dx) 1
def ao1 b:LJ (cw b)=cw (b/bP*bP):=by
 unfold LJ;rw[atl,ao_,LN];congr 1;by_cases aH:b<0;simp only[aH,decide_true,true_and,KA];by_cases hm:(cw b).num%(cw b).dx=0;rw[ab o];let c:=ZJ.1 hm;grind[bP,Int.neg_mul,Int.mul_comm,Int.mul_ediv_cancel];rw[ae hm];let c:g6 b%bP≠0:=λq=>hm<|ZJ.2 q;let f:=sJ (g6 b) qZ;have:b/bP=-((g6 b/bP)+1):=by
  let d:b=-((g6 b/bP:Z)+1)*bP+(bP-g6 b%bP):=by
   let e:=by exact_mod_cast xm (g6 b) bP
   rw[Int.neg_mul,Int.add_mul,Int.one_mul,Pt _];omega
  apply bC<|ep (·/(bP:J)) d;rw[Int.add_comm,Int.add_mul_ediv_right _ _ o,Int.ediv_eq_zero_of_lt o o];omega
 grind;grind
def arA b:(cw b).dx=1↔(bP:J) ∣ b:=by grind[ao9,Nat.dvd_iff_mod_eq_zero,Int.natCast_dvd_natCast,Int.dvd_natAbs]
abbrev jV(b:X Z):Prop:=b.Pairwise (·<·)
def ey:X Z->X Z->X Z|[],c=>c|d::b,[]=>d::b|d::b,e::c=>if d<e then d::ey b (e::c) else if e<d then e::ey (d::b) c else d::ey b c
 termination_by b c=>Q b+Q c
theorem O9 b:ey [] b=b:=by rw[ey]
theorem aAx b:ey b []=b:=by cases b<;>rw[ey]
theorem pV:∀c d b,b∈ey c d↔b∈c\/b∈d|[],d,b=>by simp[ey]|e::c,[],b=>by simp[ey]|e::c,f::d,b=>by rw[ey];split;rw[fR,pV c _ b];grind;split;rw[fR,pV _ d b];grind;have:=o;rw[fR,pV c d b];grind
 termination_by c d=>Q c+Q d
theorem x8:∀b c,jV b->jV c->jV (ey b c)|[],c,_,f=>by grind[ey]|k::b,[],e,_=>by grind[ey]|k::b,l::c,e,f=>by let g:=mi.1 e;let i:=mi.1 f;rw[ey];split;refine mi.2 ⟨λj aH=>?_,x8 b _ g.2 f⟩;rcases(pV _ _ _).1 aH with d|d;simp_all;grind;split;refine mi.2 ⟨λj aH=>?_,x8 _ c e i.2⟩;rcases(pV _ _ _).1 aH with d|d;grind;simp_all;have:=o;refine mi.2 ⟨λj aH=>?_,x8 b c g.2 i.2⟩;grind[pV]
 termination_by b c=>Q b+Q c
def SJ:∀{b c:X Z},jV b->jV c->(∀g,g∈b↔g∈c)->b=c
|[],[],_,_,_=>p|[],e::c,_,_,q=>b9 ((q e).2<|kO ..) ka|d::b,[],_,_,q=>b9 ((q d).1<|kO ..) ka|d::b,e::c,i,k,q=>by
 have j:=mi.1 i;have l:=mi.1 k;have m:d=e:=by rcases fR.1 ((q d).1 (kO ..)) with f|f;exact f;grind[List.mem_cons_self]
 subst m;rw[SJ j.2 l.2 _];grind
def Mw{b:X Z}(q:jV b){c:Z->Y}:jV (v3 c b):=List.Pairwise.filter c q
def abQ:∀{b:X Z}{pS T:Z},jV b->(∀c∈b,pS<=c/\c<T)->Q b<=T-pS
|[],_,_,_,_=>dO _|c::b,pS,T,q,e=>by
 let d:=mi.1 q;let i:=e c<|kO ..;have:=abQ d.2 λg f=>⟨d.1 g f,(e g<|ku _ f).2⟩
 (simp;omega)
def ei:X Z->Z->Z|[],_=>0|c::b,A=>if c/64=A then ei b A|||2^(c%64) else ei b A
theorem oN:∀c A b,(ei c A).testBit b=aL (b<64/\64*A+b∈c)|[],A,b=>by simp[ei]|d::c,A,b=>by rw[ei];split;rw[WF,oN c A b,WG,lT];grind;rw[oN c A b,lT];grind
theorem D2{iI:X Z}{A:Z}:ei iI A<2^64:=by refine Nat.lt_pow_two_of_testBit _ λb c=>?_;grind[oN,decide_eq_false_iff_not]
def ajb{c t:X Z}{A:Z}(q:∀b,b/64=A->(b∈c↔b∈t)):ei c A=ei t A:=by refine Cf λd=>?_;rw[oN,oN,lT];grind
def aAW{d t:X Z}{b:Z}(q:∀c,c∈t↔c∈d\/c=b):ei t (b/64)=ei d (b/64)|||2^(b%64):=by refine Cf λe=>?_;rw[WF,oN,oN,WG,lT];grind
def aA1{c d m:X Z}(q:∀b,b∈m↔b∈c\/b∈d)A:ei m A=ei c A|||ei d A:=by refine Cf λe=>?_;rw[WF,oN,oN,oN,lT];grind
def aAX{c d m:X Z}(q:∀b,b∈m↔b∈c/\b∈d)A:ei m A=ei c A&&&ei d A:=by refine Cf λe=>?_;rw[WE,oN,oN,oN,lT];grind
def aA0{c d:X Z}{T:Z}(f:jV c)(g:jV d)(i:∀b∈c,b<64*T)(j:∀b∈d,b<64*T)(q:∀A<T,ei c A=ei d A):c=d:=by
 refine SJ f g λb=>?_;let key:∀{e:X Z},b∈e↔(ei e _).testBit _:=λ{e}=>by
  rw[oN,yS,show 64*(b/64)+b%64=b by omega]
  (simp;omega)
 grind
structure sR(D S:Z):Prop where
 one:D.testBit S
 zero:∀R<S,D.testBit R=ad
def sR.eq{c b:Z}(q:sR c b):c=2^b*(2*(c/2^(b+1))+1):=by
 let f:c%2^b=0:=by
  refine Cf λd=>?_;rw[Nat.testBit_mod_two_pow,Nat.zero_testBit];by_cases e:d<b;rw[q.zero d e,Bool.and_false]
  (simp;omega)
 let g:=by have:=q.one;rw[Nat.testBit_eq_decide_div_mod_eq,yS] at this;exact this
 let i:c/2^(b+1)=c/2^b/2:=by rw[rR,PM]
 let j:=xm c<|2^b;grind
def sR.pos{b c:Z}(q:sR b c):0<b:=by rw[q.eq];grind
def sR.pred{d b:Z}(q:sR d b)c:(d-1).testBit c=if c<b then af else if c=b then ad else d.testBit c:=by
 have g:=Nat.two_pow_pos b;have j:d-1=2^b*(2*(d/2^(b+1)))+(2^b-1):=by have:=q.eq;rw[Ap,Aq] at this;omega
 have k:d=2^b*(2*(d/2^(b+1))+1)+0:=q.eq;rw[j,akl _ o];by_cases f:c<b;grind;generalize d/2^(b+1)=i at*;by_cases I:c=b;simp_all;have:d.testBit c=(2*i+1).testBit (c-b):=by
  conv=>lhs;rw[k]
  rw[akl _ g,ab f]
 obtain⟨e,l⟩:∃e,c-b=e+1:=⟨c-b-1,o⟩;grind
def sR.clear{b d:Z}(q:sR b d)c:(b&&&b-1).testBit c=(b.testBit c&&!aL (c=d)):=by rw[WE,q.pred];grind
def sR.only{b c:Z}(q:sR b c)(f:b<2^64):b&&&2^64-b=2^c:=by
 let j:=q.pos;refine Cf λd=>?_;rw[WE,WG,show 2^64-b=2^64-(b-1+1) by omega,Nat.testBit_two_pow_sub_succ o,q.pred];by_cases e:d<c
 (simp_all;omega)
 rw[ab e];by_cases I:d=c;rw[ae I,I,q.one,sL p,sL];rfl;refine oP λg=>?_;have:=akk (i:=c)<|kv f<|qb o o;rw[q.one] at this;trivial;grind
theorem ajc{b:Z}{c:X Z}(q:jV (b::c)):sR (ei (b::c) (b/64)) (b%64):=by
 cases mi.1 q;refine⟨?_,λd e=>?_⟩
 (simp[oN,yS,kO];omega)
 grind[oN,decide_eq_false_iff_not]
theorem aAY{b:Z}{c:X Z}(q:jV (b::c)):ei (b::c) (b/64)&&&ei (b::c) (b/64)-1=ei c (b/64):=by cases mi.1 q;refine Cf λd=>?_;rw[(ajc q).clear,oN,oN,lT];grind
theorem V5{b:X Z}{A:Z}:ei b A=0↔∀c∈b,c/64≠A:=by constructor;intro q c f e;have:=oN b A<|c%64;grind;intro q;refine Cf λd=>?_;grind[oN,decide_eq_false_iff_not]
theorem aAZ{b:Z}{c:X Z}{A:Z}(q:jV (b::c))(i:∀d∈b::c,64*A<=d)(e:ei (b::c) A≠0):b/64=A:=by refine oP λf=>e<|V5.2 λd j g=>?_;grind[List.pairwise_cons,List.mem_cons_self]
def aA2{c:X Z}{A:Z}(d:∀b∈c,64*A<=b):ei c A=0->∀b∈c,64*(A+1)<=b:=λb e=>by grind[V5]
def NQ:X J:=[1,10,100,1000,10000,100000,1000000,10000000,100000000,1000000000,10000000000,100000000000,1000000000000,10000000000000,100000000000000,1000000000000000,10000000000000000,100000000000000000,1000000000000000000,10000000000000000000]
def EO:X J:=[0,1,56,2,57,49,28,3,61,58,42,50,38,29,17,4,62,47,59,36,45,43,51,22,53,39,33,30,24,18,12,5,63,55,48,27,60,41,37,16,46,35,44,21,52,32,23,11,54,26,40,15,34,20,31,10,25,14,19,9,13,8,7,6]
def aa6:V:=fy 20 [bH (aa (V.int hf) NQ)] 0 0
def aa5:V:=fy 64 [bH (aa (V.int .u8) EO)] 0 0
def hB:X (Z×V):=[(0,aa6),(1,aa5)]
def gw:e5 hB:=p
abbrev bb:=fA b5 hB
abbrev dF:=og b5 hB
structure bT where
 neg:Y
 bM:X v
 exp:J
 deriving iu,xv
def aAn:ij eG 26=W (.struct #[⟨ "Neg",4,0,ad, "", "",0⟩,⟨ "Digits",9,1,ad, "", "",8⟩,⟨ "Exp",3,2,ad, "", "",24⟩]):=av
def aB0:Tryz.prog.stoodInHeld 26=ad:=av
def Gc{P:ct}{d:aw}{I:TypeDesc}{k g:Z}(i:cz P d I k g)(bA:oz I=ad){b:b4 bt}{c:Z}{e:bt}(j:b[c]?=W e)f:(part d b c).run P f=.ok e f:=by unfold part;simp[Sem.run_bind,i.sv,bA];simp[j]
def aya{P:ct}{I:Z}{d:aw}{e:bZ}{b c:ByteArray}(f:ij P d=W ml):(pA (I+1) d (mO b) (mO c)).run P e=.ok (b==c) e:=by simp[pA,run_underlying f]
def ax8{P:ct}{I:Z}{d:aw}{e:bZ}{A:dw}{b c:J}(f:ij P d=W (.int A)):(pA (I+1) d (ek A b) (ek A c)).run P e=.ok (b==c) e:=by simp[pA,run_underlying f]
def alZ(b c:ByteArray):(b==c)=aL (b=c):=by let⟨b⟩:=b;let⟨c⟩:=c;rw[lT];constructor;intro q;have q:(b==c):=q;simp_all;intro q;simp at q;subst q;show(b==b);simp
def apx I(e g d f:_)j i l:(pA (I+1+1) 26 (.agg #[iv e,mO g,ek aj j]) (.agg #[iv d,mO f,ek aj i])).run b5 l=.ok (aL (e=d/\g=f/\j=i)) l:=by let b:=(BY:q3 b5 4 Ib).hb p;let c:=(BY:q3 b5 9 abH).hb p;let k:=(BY:q3 b5 3 SD).hb p;rw[pA];simp[Gc b p _,Gc b p _,Gc c p _,Gc c p _,Gc k p _,Gc k p _,OE b.u,aya c.u,ax8 _,alZ];grind
def Jb{d:bh}{b:Y}{c:bt}(q:bj d (a6 b) c):c=iv b:=by cases q;rfl
def U6{c:bh}{A:dw}{T:J}{b:bt}(q:bj c (an A T) b):b=ek A T:=by cases q;rfl
def U7{d:bh}{b:X v}{c:bt}(q:bj d (bV b) c):c=mO ⟨aT b⟩:=by cases q;rfl
def agn(e g d f:_){l tR:J}:yY b5 26 [a6 e,bV g,an aj l] [a6 d,bV f,an aj tR] (aL (e=d/\g=f/\l=tR)):=by
 refine⟨λv q u A i j b c=>?_,av⟩
 match q,u,i,j with|[k,m,n],[r,s,t],_,_=>let fG:=Jb<|b 0 _ k p p;let ch:=U7<|b 1 _ m p p;let w:=U6<|b 2 _ n p p;let x:=Jb<|c 0 _ r p p;let y:=U7<|c 1 _ s p p;let z:=U6<|c 2 _ t p p;simp_all[apy,apx]
def cn(T:bT):V:=bH [a6 T.neg,bV T.bM,an aj T.exp]
inductive aN where|mk (bL:J) (bool:Y) (num:bT) (text:X v) (list:X aN) (keys:X (X v))
namespace aN
def bL:aN->J|.mk b _ _ _ _ _=>b
def bool:aN->Y|.mk _ b _ _ _ _=>b
def num:aN->bT|.mk _ _ b _ _ _=>b
def text:aN->X v|.mk _ _ _ b _ _=>b
def list:aN->X aN|.mk _ _ _ _ b _=>b
def keys:aN->X (X v)|.mk _ _ _ _ _ b=>b
end aN
mutual
def s3:aN->V|.mk A b T e d c=>bH [an aj A,a6 b,a6 T.neg,bV T.bM,an aj T.exp,bV e,.a 8<|LQ d,.a 1<|aa V.str c]
def LQ:X aN->X V|[]=>[]|c::b=>s3 c::LQ b
end
def ZN:∀b,LQ b=aa s3 b|[]=>p|c::b=>by rw[LQ,iO,ZN b]
def eV(b:aN):V:=bH [an aj b.bL,a6 b.bool,a6 b.num.neg,bV b.num.bM,an aj b.num.exp,bV b.text,.a 8<|aa s3 b.list,.a 1<|aa V.str b.keys]
def ZM b:s3 b=eV b:=by cases b;rw[s3,ZN];rfl
def wH{c:X aN}{b:Z}(q:b<Q c):(aa s3 c)[b]?=W (eV c[b]):=by rw[hR q,ZM]
def aN.G:aN->Z|.mk _ _ T d b c=>1+Q T.bM+Q d+vK b+(c.map λA=>Q A+1).sum
 where vK:X aN->Z|[]=>0|e::b=>e.G+vK b
def aN.azO{b:X aN}{c:aN}(q:c∈b):c.G<=aN.G.vK b:=by
 induction b
 trivial
 next d b e=>rw[aN.G.vK];grind
def aN.azN b:Q b<=aN.G.vK b:=by
 induction b
 simp
 next c b d=>
  rw[aN.G.vK,kN];have:1<=c.G:=by cases c;rw[aN.G];omega
  omega
def aN.aiB(b:aN):b.G=1+Q b.num.bM+Q b.text+aN.G.vK b.list+(b.keys.map λA=>Q A+1).sum:=by cases b;rfl
def azI{L:X (X v)}:Q L<=(L.map λA=>Q A+1).sum:=by
 induction L
 simp
 next b L c=>(simp;omega)
def azJ{b:X (X v)}{A:X v}(q:A∈b):Q A<(b.map λA=>Q A+1).sum:=by
 induction b
 trivial
 next c b d=>grind
def aN.pp{b:aN}{T:Z}(q:b.G<=T):Q b.num.bM<T/\Q b.text<T/\Q b.list<T/\Q b.keys<T/\(∀c∈b.list,c.G<T)/\(∀A∈b.keys,Q A<T)/\aN.G.vK b.list<T:=by rw[b.aiB] at q;let f:=aN.azN b.list;let g:=azI (L:=b.keys);exact⟨o,o,o,o,λc e=>by have:=aN.azO e;omega,λA d=>by have:=azJ d;omega,o⟩
abbrev a1:=X Y
def cL:a1:=cM 256 ad
def a1.add(M:a1)(d c:Z):a1:=M.mapIdx λb e=>e||aL (d<=b)&&aL (b<=c)
def a1.join(M b:a1):a1:=List.zipWith (·||·) M b
def a1.others(M:a1):a1:=M.map λb=>!b
structure ar where
 w:Z
 bad:J
 no:J
def dr(c:X v)(b:ar):V:=bH [bV c,k b.w,an aj b.bad,an aj b.no]
def cy(c:X v)(b:ar):v:=if b.no=0/\b.w<Q c then z c b.w 0 else 0
def cv(b:ar)(c:J)(d:J):ar:=if b.no=0 then⟨b.w,c,d⟩ else b
def fw(c:X v)(b:ar)(d:v):Y:=if(aG (cy c b)≠aG d\/b.no≠0)\/b.w=Q c then ad else af
def ar.step(b:ar):ar:=⟨b.w+1,b.bad,b.no⟩
def aF(d:X v)(b:ar)(c:v):ar:=if fw d b c then b.step else b
def hx(d:X v)(b:ar)(c:v):ar:=if fw d b c then b.step else cv b b.w 6
def ar.ok(b:X v)(c:ar):Prop:=c.w<=Q b/\Q b<=2000
def w2 c b(q:b.ok c):bb 262 [fy 4 [dr c b] 0 0] (bR (cy c b)):=by
 refine bx func262 [] λm d=>?_;cases q;refine eg ?_;refine fk ?_;apply e<;>intro f
 .refine eg ?_;refine rt b.w (z c b.w 0) ?_ (j:=wG o);exact aA (q:=by rw[cy,ae o];rfl)
 exact aA (q:=by rw[cy,ab o];rfl)
def sA d b g(q:b.ok d):dF 192 [c 6000,bR g] [(6000,ag 211 (dr d b))] (a6 (fw d b g)) [(6000,ag 211 (dr d (aF d b g)))]:=by
 refine dN func192 [] λl m j=>?_;cases id q;refine eg ?_;refine kz ?_ (f:=w2 d b q);refine eA ?_;refine eA ?_;apply e<;>intro k
 .let i:fw d b g=ad:=by rw[fw,ae o]
  rw[aF,i,ab av];exact cE
 let i:fw d b g:=by rw[fw,ab o]
 rw[aF,ae i,i];apply e6<|(b.w+1:Z);exact cE
def zs i g b f:dF 139 [c 6000,an aj b,an aj f] [(6000,ag 211 (dr i g))] (cs []) [(6000,ag 211 (dr i (cv g b f)))]:=by
 refine dN func139 [] λk m j=>?_;apply e<;>intro d
 .rw[cv,ae d];exact cE
 rw[cv,ab d];exact cE
def Ub d b g(q:b.ok d):dF 317 [c 6000,bR g] [(6000,ag 211 (dr d b))] (cs []) [(6000,ag 211 (dr d (hx d b g)))]:=by
 refine dN func317 [] λl m k=>?_;refine bI [(6000,6000)] ?_ (f:=sA d b g q);apply e<;>intro j
 .let i:fw d b g=ad:=by simpa using j
  rw[hx,ab (by simp[i])];rw[aF,ab (by simp[i])];refine bI [(6000,6000)] ?_ (f:=zs d b b.w 6);exact cE
 let i:fw d b g:=by simpa using j
 rw[hx,ae i,aF,ae i];exact cE
def a_(b:Y):V:=a6 b
def c7(b:J):V:=an aj b
inductive aO where|mk (bL:J) (set:X (J×J)) (min max:J) (aD:X aO)
def hP(b:J×J):V:=bH [an aj b.1,an aj b.2]
mutual
def vg:aO->V|.mk A M b c d=>bH [an aj A,.a 2<|aa hP M,an aj b,an aj c,.a 5<|hN d]
def hN:X aO->X V|[]=>[]|b::c=>vg b::hN c
end
namespace aO
def bL:aO->J|.mk b _ _ _ _=>b
def set:aO->X (J×J)|.mk _ b _ _ _=>b
def min:aO->J|.mk _ _ b _ _=>b
def max:aO->J|.mk _ _ _ b _=>b
def aD:aO->X aO|.mk _ _ _ _ b=>b
end aO
def c0(b:aO):V:=bH [an aj b.bL,.a 2<|aa hP b.set,an aj b.min,an aj b.max,.a 5<|hN b.aD]
def xU b:vg b=c0 b:=by cases b;rfl
structure bF where
 start:Z
 acc:X Y
 next:X (X Z)
def b6(b:X Z):V:=.a 1<|b.map λT=>V.int aj (T:Z)
def fp(b:bF):V:=bH [k b.start,.a 1<|aa a_ b.acc,.a 1<|aa b6 b.next]
theorem CV:∀b,hN b=aa vg b|[]=>p|c::b=>by rw[hN,iO,CV b]
theorem iS b:Q (hN b)=Q b:=by rw[CV,bg]
instance:xv aO:=⟨.mk 0 [] 0 0 []⟩
def ao8{c:X aO}{b:Z}:b<Q c->(hN c)[b]?=W (vg (z c b ai)):=by grind[CV,List.getElem?_eq_getElem]
section
variable[iu bf]
def note(b:X bf)(T:bf):X bf:=if T∈b then b else b++[T]
def jp(b c:X bf):X bf:=c.foldl note b
def Zn(b:X bf):jp b []=b:=p
def LF b T(c:X bf):jp b (T::c)=jp (note b T) c:=p
theorem LD(d b c:X bf):jp d (b++c)=jp (jp d b) c:=Pz
theorem A2{c b:X bf}{T:bf}:jp c (b++[T])=note (jp c b) T:=by rw[LD];rfl
theorem Ui{b:X bf}{T:bf}:b<+:note b T:=by grind[note,List.prefix_refl,List.prefix_append]
theorem CQ:∀(c b:X bf),b<+:jp b c|[],b=>Eb b|T::c,b=>(Ui).trans<|CQ c _
theorem IM c(T b:bf):b∈note c T↔b∈c\/b=T:=by grind[note,id]
theorem zn:∀d c(b:bf),b∈jp c d↔b∈c\/b∈d|[],c,b=>by simp[Zn]|T::d,c,b=>by rw[LF,zn d,IM,fR,or_assoc]
def A1:∀b{c:X bf},eb c->eb (jp c b)|[],_,q=>q|T::b,_,q=>A1 b (by grind[note,List.nodup_append])
def cB(succ:bf->X bf)(b7:X bf):Z->X bf|0=>b7|b+1=>match(cB succ b7 b)[b]? with|W c=>jp (cB succ b7 b) (succ c)|ah=>cB succ b7 b
variable{succ:bf->X bf}{b7:X bf}
theorem za{b:Z}{c:bf}(q:(cB succ b7 b)[b]?=W c):cB succ b7 (b+1)=jp (cB succ b7 b) (succ c):=by rw[cB,q]
theorem K8{b:Z}(q:Q (cB succ b7 b)<=b):cB succ b7 (b+1)=cB succ b7 b:=by rw[cB,yO q]
theorem QL b:cB succ b7 b<+:cB succ b7 (b+1):=by grind[cB,CQ,List.prefix_refl]
theorem o4{c b:Z}:c<=b->cB succ b7 c<+:cB succ b7 b:=by
 induction b
 simp_all
 next b d=>grind[trans,QL]
theorem sX{E cr:Z}:Q (cB succ b7 E)<=E->E<=cr->cB succ b7 cr=cB succ b7 E:=by
 induction cr
 simp_all
 next cr b=>grind[K8]
theorem AR(q:eb b7):∀b,eb (cB succ b7 b)|0=>q|b+1=>by rw[cB];split;exact A1 _<|AR q b;exact AR q b
def zX{c i:X bf}(q:c<+:i){b:Z}{d:bf}:c[b]?=W d->i[b]?=W d:=by obtain⟨e,rfl⟩:=q;grind
theorem X0{c A:Z}{d:bf}(f:A<c)(b:(cB succ b7 c)[A]?=W d):∀e∈succ d,e∈cB succ b7 c:=by
 let g:A<Q (cB succ b7 A):=by refine Ch λq=>?_;rw[sX q o] at b;have:=(e3.1 b).1;omega
 let i:(cB succ b7 A)[A]?=W d:=by have:=zX (o4<|xn f)<|cm g;rw[cm g,<-this];exact b
 intro e j;have:e∈cB succ b7 (A+1):=by rw[za i,zn];exact bp j
 exact(o4 f).subset this
theorem EC{b:Z}(q:Q (cB succ b7 b)<=b){d:bf}(e:d∈cB succ b7 b):∀f∈succ d,f∈cB succ b7 b:=by let⟨A,c⟩:=ob.1 e;exact X0 (kv (e3.1 c).1 q) c
def tP{H:bf->Prop}(d:∀b∈b7,H b)(e:∀b,H b->∀g∈succ b,H g):∀c,∀b∈cB succ b7 c,H b|0=>d|c+1=>by intro b f;rw[cB] at f;split at f;rename_i g i;rcases(zn _ _ _).1 f with q|q;exact tP d e c b q;exact e g (tP d e c g<|eY i) b q;exact tP d e c b f
def awp{b i:X bf}(q:b<+:i){c:bf}:c∈b->iw c i=iw c b:=by obtain⟨d,rfl⟩:=q;grind
end
section
variable[iu bf] [iu p8]
def auI{d:bf->Prop}{c:bf->p8}(i:∀b f,d b->d f->c b=c f->b=f){e:X bf}{T:bf}(g:∀b∈e,d b):d T->note (aa c e) (c T)=aa c (note e T):=by unfold note;grind
def Zm{f:bf->Prop}{d:bf->p8}(j:∀b g,f b->f g->d b=d g->b=g):∀c e,(∀b∈e,f b)->(∀b∈c,f b)->jp (aa d e) (aa d c)=aa d (jp e c)|[],_,_,_=>p|T::c,e,k,i=>by rw[iO,LF,LF,auI j k<|i T av];refine Zm j c _ (λb l=>?_) λb l=>i b aY;grind[IM]
def QK{d:bf->Prop}{e:bf->p8}(k:∀b f,d b->d f->e b=e f->b=f){succ:bf->X bf}{DU:p8->X p8}{b7:X bf}(i:∀b∈b7,d b)(g:∀b,d b->∀f∈succ b,d f)(j:∀b,d b->DU (e b)=aa e (succ b)):∀c,cB DU (aa e b7) c=aa e (cB succ b7 c)
|0=>p|c+1=>by
 rw[cB,cB,QK k i g j c,c4];cases m:(cB _ b7 c)[c]?;rfl
 next b=>let l:=tP i g c b<|eY m;simp;rw[j b l];exact Zm k _ _ (tP i g c)<|g b l
def SH{f:bf->Prop}{c:bf->p8}(k:∀b g,f b->f g->c b=c g->b=g):∀{e:X bf}{T:bf},(∀b∈e,f b)->f T->iw (c T) (aa c e)=iw T e
|[],_,_,_=>p|d::e,T,i,j=>by
 rw[iO,List.idxOf_cons,List.idxOf_cons];have:(c d==c T)=(d==T):=by rw[lT,PY,PY];exact⟨(k d T (i d av) j),λl=>by rw[l]⟩
 rw[this,SH k (λb m=>i b aY) j]
end
structure WV where
 next:X (X Z)
 acc:X Y
 deriving iu
section
variable[iu bf] [iu p8]
def hc(ck:bf->v->bf)(c:bf):X bf:=(bJ 256).map λb=>ck c<|gk b
def CH(ck:bf->v->bf)(c:bf->Y)(b:X bf):WV:=⟨b.map λd=>aa b.idxOf<|hc ck d,aa c b⟩
def alV{c:bf->Prop}{d:bf->p8}(q:∀b i,c b->c i->d b=d i->b=i){ck:bf->v->bf}{m:p8->v->p8}{j:bf->Y}{k:p8->Y}{g:X bf}(f:∀b∈g,c b)(n:∀b e,c b->c (ck b e))(bA:∀b e,c b->m (d b) e=d (ck b e))(r:∀b,c b->k (d b)=j b):CH m k (aa d g)=CH ck j g:=by unfold CH hc;congr 1;rw[gh];refine iF λb l=>?_;simp only[gh];refine iF λe _=>?_;simp;rw[bA b _<|f b l,SH q f<|n b _<|f b l];simp_all
def azG{e:bf->Prop}{c:bf->p8}{ck:bf->v->bf}{f:p8->v->p8}(bA:∀b d,e b->f (c b) d=c (ck b d)){b:bf}:e b->hc f (c b)=aa c (hc ck b):=by grind[hc,List.map_map,List.map_congr_left]
def JD{H:bf->Prop}{ck:bf->v->bf}(f:∀b d,H b->H (ck b d)){b:bf}(g:H b):∀c∈hc ck b,H c:=by intro c e;unfold hc at e;grind
end
abbrev u1:=X v->Y
def qM{bf:Type}(ck:bf->v->bf)(c:bf)(b:X v):bf:=b.foldl ck c
def iX{bf:Type}(ck:bf->v->bf)(b:bf->Y)(d:bf):u1:=λc=>b<|qM ck d c
def xR(b:u1)(c:v):u1:=λd=>b<|c::d
def IP(b:u1):Y:=b []
def Im{bf:Type}{ck:bf->v->bf}{b:bf->Y}{d:bf}{c:v}:xR (iX ck b d) c=iX ck b (ck d c):=p
open Classical in
noncomputable def wP(b:u1)(c:Z):X u1:=cB (hc xR) [b] c
open Classical in
noncomputable def xJ(b:u1)(c:Z):WV:=CH xR IP<|wP b c
def Yo{bf:Type} [iu bf]{c:bf->Prop}{ck:bf->v->bf}{e:bf->Y}(k:∀b i,c b->c (ck b i))(j:∀b d,c b->c d->iX ck e b=iX ck e d->b=d){b:bf}(l:c b){g:Z}:wP (iX ck e b) g=aa (iX ck e) (cB (hc ck) [b] g):=by
 classical
 have:=QK j (b7:=[b]) ap (λd f=>JD k f) (λd f=>azG (λm i _=>Im) f) g;trivial
def am5{bf:Type} [iu bf]{c:bf->Prop}{ck:bf->v->bf}{d:bf->Y}(f:∀b i,c b->c (ck b i))(j:∀b e,c b->c e->iX ck d b=iX ck d e->b=e){b:bf}(k:c b){g:Z}:xJ (iX ck d b) g=CH ck d (cB (hc ck) [b] g):=by
 classical
 unfold xJ;rw[Yo f j k];exact alV j (tP ap (λe l=>JD f l) g) f (λm i _=>Im) λm _=>p
structure y3{bf:Type}(H:bf->Prop)(ck:bf->v->bf)(acc:bf->Y)(cl:bf->Z):Prop where
 step:∀U R,H U->H (ck U R)
 iff:∀U C,H U->H C->(cl U=cl C↔iX ck acc U=iX ck acc C)
theorem y3.of{bf:Type}{e:bf->Prop}{ck:bf->v->bf}{g:bf->Y}{d:bf->Z}(k:∀b f,e b->e (ck b f))(m:∀b c,e b->e c->iX ck g b=iX ck g c->d b=d c)(n:∀b c,e b->e c->d b=d c->g b=g c)(r:∀b c f,e b->e c->d b=d c->d (ck b f)=d (ck c f)):y3 e ck g d:=by
 refine⟨k,λb c i j=>⟨λq=>?_,m b c i j⟩⟩;funext l
 induction l generalizing b c
 exact n b c i j q
 next f l s=>exact s _ _ (k b f i) (k c f j)<|r b c f i j q
def y3.xJ{bf:Type}{j:bf->Prop}{ck:bf->v->bf}{i:bf->Y}{d:bf->Z}(q:y3 j ck i d){g2:Z->bf}(k:∀f,j f->j (g2 (d f))/\d (g2 (d f))=d f){f:bf}(s:j f)m:ga.xJ (iX ck i f) m=CH (λc e=>d<|ck (g2 c) e) (λc=>i<|g2 c) (cB (hc λc e=>d<|ck (g2 c) e) [d f] m)/\Q (wP (iX ck i f) m)=Q (cB (hc λc e=>d<|ck (g2 c) e) [d f] m):=by
 let r:∀b,j b->iX (λc e=>d<|ck (g2 c) e) (λc=>i<|g2 c) (d b)=iX ck i b:=by
  intro b g;funext n
  induction n generalizing b
  have:=(q.iff _ b (k b g).1 g).1 (k b g).2;exact P5 this []
  next e n x=>let l:=(q.iff _ b (k b g).1 g).1 (k b g).2;change iX _ (λc=>i _) _ n=iX ck i b _;rw[x (ck (g2<|d b) e)<|q.step _ _ (k b g).1];exact P5 l<|e::n
 let u:∀c e,(∃b,j b/\c=d b)->∃b,j b/\d (ck (g2 c) e)=d b:=by rintro c e ⟨b,g,rfl⟩;exists _,q.step _ e (k b g).1
 let t:∀c I,(∃b,j b/\c=d b)->(∃b,j b/\I=d b)->iX (λc e=>d<|ck (g2 c) e) (λc=>i<|g2 c) c=iX (λc e=>d<|ck (g2 c) e) (λc=>i<|g2 c) I->c=I:=by rintro c I ⟨b,g,rfl⟩ ⟨w,aH,rfl⟩ l;rw[r b g,r w aH] at l;exact(q.iff b w g aH).2 l
 rw[<-r f s];exact⟨am5 u t ⟨f,s,p⟩,(by rw[Yo u t ⟨f,s,p⟩,bg])⟩
def Xz{d:Type} [iu d]:∀{y R:X d},eb y->(∀b∈y,b∈R)->Q R<=Q y->∀b∈R,b∈y|[],R,_,_,g,b,c=>by simp_all|j::y,R,i,l,g,b,c=>by let⟨k,f⟩:=xj.1 i;by_cases e:b=j;simp_all;refine ku _<|Xz f (λm aH=>?_) ?_ b<|(Wt e).2 c;grind;simp_all
def ayr{bf:Type}{H:bf->Prop}{l I:bf->Z}{T:Z}(bA:∀b,H b->I b<T)(s:∀A<T,∃b,H b/\l b=A)(g:∀b,H b->l b<T)(k:∀b c,H b->H c->I b=I c->l b=l c):∀b c,H b->H c->l b=l c->I b=I c:=by
 let i:∀A:Fin T,∃b,H b/\l b=A.1:=λA=>s A.1 A.2;let e:=λA:Fin T=>J9<|i A;let t:eb ((List.finRange T).map λA=>I<|GX<|i A):=by refine PI.2<|(Wv T).imp λ{y R} n he=>n ?_;have:=k _ _ (e y).1 (e R).1 he;rw[(e y).2,(e R).2] at this;exact J_ this
 let r:=Xz (y:=(List.finRange T).map λA=>I<|GX<|i A) (R:=bJ T) t
  (λb d=>by obtain⟨A,_,rfl⟩:=cV.1 d;exact g4.2<|bA _ (e A).1) av
 let key:∀b,H b->∀(q:l b<T),I b=I (GX<|i ⟨l b,q⟩):=by intro b d q;let⟨A,_,m⟩:=cV.1<|r (I b)<|g4.2<|bA b d;let f:=k _ _ (e A).1 d m;rw[(e A).2] at f;have:A=⟨l b,q⟩:=J_ f;rw[<-m,this]
 intro b c d j q;rw[key b d<|g b d,key c j<|g c j];let f:(⟨l b,g b d⟩:Fin T)=⟨l c,g c j⟩:=J_ q;rw[f]
section
inductive Way(N:Z->Z->Prop):Z->Z->Prop|refl (U:Z):Way N U U|tail {U C am:Z}:Way N U C->N C am->Way N U am
def Way.mono{e d:Z->Z->Prop}(q:∀b c,e b c->d b c){b c:Z}(i:Way e b c):Way d b c:=by
 induction i
 exact .refl _
 next _ f g=>exact g.tail<|q _ _ f
theorem Way.trans{b:Z->Z->Prop}{c d e:Z}(f:Way b c d)(g:Way b d e):Way b c e:=by
 induction g
 exact f
 next _ i j=>exact j.tail i
theorem Way.one{c:Z->Z->Prop}{b d:Z}(e:c b d):Way c b d:=(Way.refl b).tail e
def Way.head{b:Z->Z->Prop}{c d e:Z}(f:b c d)(g:Way b d e):Way b c e:=(Way.one f).trans g
structure ng(w fX:Z->Z)(N:Z->Z->Prop)(B hU pS j yn w0:Z)(first last:Z->Prop)(cp:Z->Z->Prop)(tZ:Prop):Prop where
 Ma:B<pS
 Gt:pS<=hU/\hU<j
 src:∀U C,N U C->(U=B\/pS<=U/\U<j)/\pS<=C/\C<j/\U≠hU
 pl:∀H,yn<=H->H<w0->pS<=w H/\w H<j/\w H≠hU/\pS<=fX H/\fX H<j
 wf:∀u,yn<=u->u<w0->(Way N B (w u)↔first u)
 wt:Way N B hU↔tZ
 vN:∀H u,yn<=H->H<w0->yn<=u->u<w0->(Way N (fX H) (w u)↔cp H u)
 wl:∀H,yn<=H->H<w0->(Way N (fX H) hU↔last H)
 le:yn<=w0
 uc:∀u,first u->yn<=u/\u<w0
 si:∀u,last u->yn<=u/\u<w0
 pO:∀H u,cp H u->(yn<=H/\H<w0)/\yn<=u/\u<w0
variable{w fX:Z->Z}
def ng.congr{f e:Z->Z->Prop}{B x n l t u:Z}{k r j m:Z->Prop}{K s:Z->Z->Prop}{i g:Prop}(q:ng w fX f B x n l t u k r K i)(y:∀b d,e b d↔f b d)(z:∀c,j c↔k c)(A:∀c,m c↔r c)(C:∀v c,s v c↔K v c)(D:g↔i):ng w fX e B x n l t u j m s g:=by have:=funext λb=>funext λd=>propext<|y b d;have:=funext λb=>propext<|z b;have:=funext λb=>propext<|A b;have:=funext λb=>funext λd=>propext<|C b d;simp_all
def ng.ayx{v x:Z->Z->Prop}{B i al F mid T Q J R:Z}{S P O X:Z->Prop}{Y ak:Z->Z->Prop}{M N:Prop}(f:ng w fX v B i F mid Q J S P Y M)(j:ng w fX x i al mid T J R O X ak N):ng w fX (λd e=>v d e\/x d e) B al F T Q R (λc=>S c\/M/\O c) (λc=>X c\/N/\P c) (λg c=>Y g c\/ak g c\/P g/\O c) (M/\N):=by
 let hm:=f.Gt;let ao:=f.Ma;let U:=j.Gt;let K:∀d e,d=B\/F<=d/\d<mid->e=B\/F<=e/\e<mid->Way (λd e=>v d e\/x d e) d e->Way v d e:=by
  intro d e H am b
  induction b
  exact .refl _
  next b l D=>rcases l with l|l;exact(D (f.src _ _ l).1).tail l;have:=(j.src _ _ l).2.1;omega
 let G:∀d e,d=B\/F<=d/\d<mid->mid<=e->Way (λd e=>v d e\/x d e) d e->Way v d i/\Way x i e:=by
  intro d e H am b
  induction b
  omega
  next b l D=>rcases l with l|l;have:=(f.src _ _ l).2.2.1;omega;rcases(j.src _ _ l).1 with q|q;subst q;exact⟨K _ _ H (bp hm) b,.one l⟩;let⟨k,r⟩:=D q.1;exact⟨k,r.tail l⟩
 let m:∀d e,d=i\/mid<=d->Way (λd e=>v d e\/x d e) d e->(e=i\/mid<=e)/\Way x d e:=by
  intro d e H b
  induction b
  exact⟨H,.refl _⟩
  next b l D=>let⟨k,r⟩:=D;rcases l with l|l;cases f.src _ _ l;omega;exact⟨bp (j.src _ _ l).2.1,r.tail l⟩
 let A:∀{d e},Way v d e->Way (λd e=>v d e\/x d e) d e:=λb=>b.mono λ_ _=>bl;let C:∀{d e},Way x d e->Way (λd e=>v d e\/x d e) d e:=λb=>b.mono λ_ _=>bp;let split:∀c,Q<=c->c<R->c<J\/J<=c:=λc _ _=>o;refine⟨f.Ma,o,?_,?_,?_,?_,?_,?_,dK f.le j.le,?_,?_,?_⟩;rintro d e (l|l);let⟨k,r,L,I⟩:=f.src _ _ l;omega;let⟨k,r,L,I⟩:=j.src _ _ l;omega;intro g n s;rcases split g n s with q|q;let⟨k,r,L,I⟩:=f.pl g n q;omega;let⟨k,r,L,I⟩:=j.pl g q s;omega;intro c z t;rcases split c z t with q|q;let n:=f.pl c z q;constructor;intro b;exact bl<|(f.wf c z q).1<|K _ _ (bl p) (bp ⟨n.1,n.2.1⟩) b;rintro(b|⟨_,b⟩);exact A<|(f.wf c z q).2 b;have:=j.uc c b;omega;let n:=j.pl c q t;constructor;intro b;let⟨k,r⟩:=G _ _ (bl p) n.1 b;exact bp ⟨f.wt.1 k,(j.wf c q t).1 r⟩;rintro(b|⟨k,b⟩);have:=f.uc c b;omega;exact(A<|f.wt.2 k).trans<|C<|(j.wf c q t).2 b;constructor;intro b;let⟨k,r⟩:=G _ _ (bl p) U.1 b;exact⟨f.wt.1 k,j.wt.1 r⟩;rintro⟨k,r⟩;exact(A<|f.wt.2 k).trans<|C<|j.wt.2 r;intro g c n s z t;rcases split g n s with q|q<;>rcases split c z t with y|y;let u:=f.pl g n q;let E:=f.pl c z y;constructor;intro b;exact bl<|(f.vN g c n q z y).1<|K _ _ (bp u.2.2.2) (bp ⟨E.1,E.2.1⟩) b;rintro(b|b|⟨_,b⟩);exact A<|(f.vN g c n q z y).2 b;have:=j.pO g c b;omega;have:=j.uc c b;omega;let u:=f.pl g n q;let E:=j.pl c y t;constructor;intro b;let⟨k,r⟩:=G _ _ (bp u.2.2.2) E.1 b;exact bp<|bp ⟨(f.wl g n q).1 k,(j.wf c y t).1 r⟩;rintro(b|b|⟨k,b⟩);have:=f.pO g c b;omega;have:=j.pO g c b;omega;exact(A<|(f.wl g n q).2 k).trans<|C<|(j.wf c y t).2 b;let u:=j.pl g q s;let E:=f.pl c z y;constructor;intro b;have:=(m _ _ (bp u.2.2.2.1) b).1;omega;rintro(b|b|⟨k,b⟩);have:=f.pO g c b;omega;have:=j.pO g c b;omega;have:=f.si g k;omega;let u:=j.pl g q s;constructor;intro b;exact bp<|bl<|(j.vN g c q s y t).1 (m _ _ (bp u.2.2.2.1) b).2;rintro(b|b|⟨k,b⟩);have:=f.pO g c b;omega;exact C<|(j.vN g c q s y t).2 b;have:=f.si g k;omega;intro g n s;rcases split g n s with q|q;let u:=f.pl g n q;constructor;intro b;let⟨k,r⟩:=G _ _ (bp u.2.2.2) U.1 b;exact bp ⟨j.wt.1 r,(f.wl g n q).1 k⟩;rintro(b|⟨k,b⟩);have:=j.si g b;omega;exact(A<|(f.wl g n q).2 b).trans<|C<|j.wt.2 k;let u:=j.pl g q s;constructor;intro b;exact bl<|(j.wl g q s).1 (m _ _ (bp u.2.2.2.1) b).2;rintro(b|⟨k,b⟩);exact C<|(j.wl g q s).2 b;have:=f.si g b;omega;rintro c (b|⟨_,b⟩);have:=f.uc c b;have:=j.le;omega;have:=j.uc c b;have:=f.le;omega;rintro c (b|⟨_,b⟩);have:=j.si c b;have:=f.le;omega;have:=f.si c b;have:=j.le;omega;have:=f.le;have:=j.le;rintro g c (b|b|⟨k,b⟩);have:=f.pO g c b;omega;have:=j.pO g c b;omega;have:=f.si g k;have:=j.uc c b;omega
def ng.u9{x l:Z->Z->Prop}{B C u F mid D ak z al:Z}{T X S U:Z->Prop}{K Y:Z->Z->Prop}{R Q:Prop}(q:ng w fX x B u F mid ak z T X K R)(A:ng w fX l B C mid D z al S U Y Q):ng w fX (λf d=>x f d\/l f d\/f=C/\d=u) B u F D ak al (λe=>T e\/S e) (λe=>X e\/U e) (λg e=>K g e\/Y g e) (R\/Q):=by
 let au:=q.Gt;let ar:=A.Gt;let ap:=q.Ma;generalize ao:(λf d=>x f d\/l f d\/f=C/\d=u)=v;let k:∀f d,v f d↔x f d\/l f d\/f=C/\d=u:=λf d=>aY;let N:∀f d,F<=f/\f<mid->Way v f d->(F<=d/\d<mid)/\Way x f d:=by
  intro f d M c
  induction c
  exact⟨M,.refl _⟩
  next c b E=>let⟨i,j⟩:=E;rcases(k _ _).1 b with b|b|b;have:=q.src _ _ b;exact⟨⟨this.2.1,this.2.2.1⟩,j.tail b⟩;have:=A.src _ _ b;omega;omega
 let O:∀f d,mid<=f/\f<D->Way v f d->(mid<=d/\d<D)/\Way l f d\/d=u/\Way l f C:=by
  intro f d M c
  induction c
  exact bl ⟨M,.refl _⟩
  next c b E=>rcases E with⟨i,j⟩|⟨i,j⟩;rcases(k _ _).1 b with b|b|b;have:=q.src _ _ b;omega;have:=A.src _ _ b;exact bl ⟨⟨this.2.1,this.2.2.1⟩,j.tail b⟩;simp_all;subst i;rcases(k _ _).1 b with b|b|b;have:=q.src _ _ b;omega;have:=A.src _ _ b;omega;omega
 let J:∀d,Way v B d->d=B\/(F<=d/\d<mid)/\Way x B d\/(mid<=d/\d<D)/\Way l B d\/d=u/\Way l B C:=by
  intro d c
  induction c
  omega
  next c b E=>rcases E with i|⟨i,j⟩|⟨i,j⟩|⟨i,j⟩;subst i;rcases(k _ _).1 b with b|b|b;have:=q.src _ _ b;exact bp<|bl ⟨⟨this.2.1,this.2.2.1⟩,.one b⟩;have:=A.src _ _ b;exact bp<|bp<|bl ⟨⟨this.2.1,this.2.2.1⟩,.one b⟩;omega;rcases(k _ _).1 b with b|b|b;have:=q.src _ _ b;exact bp<|bl ⟨⟨this.2.1,this.2.2.1⟩,j.tail b⟩;have:=A.src _ _ b;omega;omega;rcases(k _ _).1 b with b|b|b;have:=q.src _ _ b;omega;have:=A.src _ _ b;exact bp<|bp<|bl ⟨⟨this.2.1,this.2.2.1⟩,j.tail b⟩;simp_all;subst i;rcases(k _ _).1 b with b|b|b;have:=q.src _ _ b;omega;have:=A.src _ _ b;omega;omega
 let G:∀{f d},Way x f d->Way v f d:=λc=>c.mono λ_ _ i=>(k _ _).2<|bl i;let L:∀{f d},Way l f d->Way v f d:=λc=>c.mono λ_ _ i=>(k _ _).2<|bp<|bl i;let P:∀{f},Way l f C->Way v f u:=λc=>(L c).tail<|(k _ _).2<|bp<|bp ⟨p,p⟩;refine⟨q.Ma,o,?_,?_,?_,?_,?_,?_,dK q.le A.le,?_,?_,?_⟩;intro f d b;rcases(k _ _).1 b with b|b|b;have:=q.src _ _ b;omega;have:=A.src _ _ b;omega;omega;intro g m n;rcases fF g z with b|b;let⟨i,j,am,I⟩:=q.pl g m b;omega;let⟨i,j,am,I⟩:=A.pl g b n;omega;intro e y s;rcases fF e z with b|b;let H:=q.pl e y b;constructor;intro c;rcases J _ c with i|⟨_,j⟩|⟨i,_⟩|⟨i,_⟩;omega;exact bl<|(q.wf e y b).1 j;omega;omega;rintro(c|c);exact G<|(q.wf e y b).2 c;have:=A.uc e c;omega;let H:=A.pl e b s;constructor;intro c;rcases J _ c with i|⟨i,_⟩|⟨_,j⟩|⟨i,_⟩;omega;omega;exact bp<|(A.wf e b s).1 j;omega;rintro(c|c);have:=q.uc e c;omega;exact L<|(A.wf e b s).2 c;constructor;intro c;rcases J _ c with i|⟨_,j⟩|⟨i,_⟩|⟨_,j⟩;omega;exact bl<|q.wt.1 j;omega;exact bp<|A.wt.1 j;rintro(c|c);exact G<|q.wt.2 c;exact P<|A.wt.2 c;intro g e m n y s;rcases fF g z with b|b<;>rcases fF e z with t|t;let r:=q.pl g m b;constructor;intro c;exact bl<|(q.vN g e m b y t).1 (N _ _ r.2.2.2 c).2;rintro(c|c);exact G<|(q.vN g e m b y t).2 c;have:=A.pO g e c;omega;let r:=q.pl g m b;let H:=A.pl e t s;constructor;grind;rintro(c|c);have:=q.pO g e c;omega;have:=A.pO g e c;omega;let r:=A.pl g b n;let H:=q.pl e y t;constructor;grind;rintro(c|c);have:=q.pO g e c;omega;have:=A.pO g e c;omega;let r:=A.pl g b n;let H:=A.pl e t s;constructor;intro c;rcases O _ _ r.2.2.2 c with⟨_,j⟩|⟨i,_⟩;exact bp<|(A.vN g e b n t s).1 j;omega;rintro(c|c);have:=q.pO g e c;omega;exact L<|(A.vN g e b n t s).2 c;intro g m n;rcases fF g z with b|b;let r:=q.pl g m b;constructor;intro c;exact bl<|(q.wl g m b).1 (N _ _ r.2.2.2 c).2;rintro(c|c);exact G<|(q.wl g m b).2 c;have:=A.si g c;omega;let r:=A.pl g b n;constructor;intro c;rcases O _ _ r.2.2.2 c with⟨i,_⟩|⟨_,j⟩;omega;exact bp<|(A.wl g b n).1 j;rintro(c|c);have:=q.si g c;omega;exact P<|(A.wl g b n).2 c;have:=q.le;have:=A.le;rintro e (c|c);have:=q.uc e c;omega;have:=A.uc e c;omega;have:=q.le;have:=A.le;rintro e (c|c);have:=q.si e c;omega;have:=A.si e c;omega;have:=q.le;have:=A.le;rintro g e (c|c);have:=q.pO g e c;omega;have:=A.pO g e c;omega
def ng.blank{B b d:Z}(q:B<b)c:ng w fX (c/\·=B/\·=b) B b b (b+1) d d (λ_=>h7) (λ_=>h7) (λ_ _=>h7) c:=by
 refine⟨q,o,?_,?_,?_,?_,?_,?_,bz _,?_,?_,?_⟩;omega;omega;omega;constructor;intro f;cases f;omega
 next _ g=>grind
 intro e;exact .one ⟨e,p,p⟩;omega;omega;simp;simp;simp
def ng.dd{B b c:Z}(q:B<b)(j:w c=b)(k:fX c=b+1):ng w fX (·=B/\·=b) B (b+1) b (b+2) c (c+1) (·=c) (·=c) (λ_ _=>h7) h7:=by
 let n:∀e,Way (·=B/\·=b) B e->e=B\/e=b:=by
  intro e g;cases g;omega
  next _ i=>omega
 let d:∀e,Way (·=B/\·=b) (b+1) e->e=b+1:=by
  intro e g
  induction g
  rfl
  next _ i r=>omega
 refine⟨q,o,?_,?_,?_,?_,?_,?_,pv _,?_,?_,?_⟩;omega;grind;intro f l m;obtain rfl:f=c:=o;exact⟨λ_=>p,λ_=>.one ⟨p,j⟩⟩;grind;grind;intro f l m;obtain rfl:f=c:=o;rw[k];exact⟨λ_=>p,λ_=>.refl _⟩;omega;omega;simp
def ng.star{s:Z->Z->Prop}{B v e y K L:Z}{D G:Z->Prop}{J:Z->Z->Prop}{Q:Prop}(R:B<e)(A:ng w fX s e v (e+2) y K L D G J Q):ng w fX (λd b=>d=B/\b=e\/d=e/\b=e+1\/s d b\/d=v/\b=e) B (e+1) e y K L D G (λj k=>J j k\/G j/\D k) dW:=by
 let U:=A.Gt;generalize T:(λd b=>d=B/\b=e\/d=e/\b=e+1\/s d b\/d=v/\b=e)=t;let u:∀d b,t d b↔d=B/\b=e\/d=e/\b=e+1\/s d b\/d=v/\b=e:=λd b=>aY;let C:∀d b,d=e\/e+2<=d/\d<y->Way t d b->(e+2<=b/\b<y)/\(Way s d b\/Way s d v/\Way s e b)\/(b=e\/b=e+1)/\(d=e\/Way s d v):=by
  intro d b z f
  induction f
  rcases z with z|z;omega;exact bl ⟨z,bl<|.refl _⟩
  next f g E=>rcases(u _ _).1 g with g|g|g|g;omega;grind;let H:=A.src _ _ g;refine bl ⟨⟨H.2.1,H.2.2.1⟩,?_⟩;rcases E with⟨_,c⟩|⟨i,c⟩;rcases c with c|⟨c,x⟩;exact bl<|c.tail g;exact bp ⟨c,x.tail g⟩;rcases i with i|i;subst i;rcases c with c|c;subst c;exact bl<|.one g;exact bp ⟨c,.one g⟩;omega;grind
 let P:∀b,Way t B b->b=B\/Way t e b:=by
  intro b f
  induction f
  omega
  next f g E=>rcases E with i|i;subst i;rcases(u _ _).1 g with q|q|q|q;obtain⟨_,rfl⟩:=q;exact bp<|.refl _;omega;have:=A.src _ _ q;omega;omega;exact bp<|i.tail g
 let dQ:∀{d b},Way s d b->Way t d b:=λf=>f.mono λ_ _ i=>(u _ _).2<|bp<|bp<|bl i;let M:t B e:=(u _ _).2<|bl ⟨p,p⟩;let N:t e (e+1):=(u _ _).2<|bp<|bl ⟨p,p⟩;let O:t v e:=(u _ _).2<|bp<|bp<|bp ⟨p,p⟩;refine⟨R,o,?_,?_,?_,?_,?_,?_,A.le,A.uc,A.si,?_⟩;intro d b g;rcases(u _ _).1 g with g|g|g|g;omega;omega;have:=A.src _ _ g;omega;omega;intro j l m;let⟨i,c,x,I⟩:=A.pl j l m;omega;intro k n r;let S:=A.pl k n r;constructor;intro f;rcases P _ f with i|i;omega;rcases C _ _ (bl p) i with⟨_,c|⟨_,c⟩⟩|⟨c,_⟩;exact(A.wf k n r).1 c;exact(A.wf k n r).1 c;omega;intro f;exact .head M<|dQ<|(A.wf k n r).2 f;exact⟨λ_=>c1,λ_=>.head M<|.one N⟩;intro j k l m n r;let F:=A.pl j l m;let S:=A.pl k n r;constructor;intro f;rcases C _ _ (bp F.2.2.2) f with⟨_,c|⟨c,x⟩⟩|⟨c,_⟩;exact bl<|(A.vN j k l m n r).1 c;exact bp ⟨(A.wl j l m).1 c,(A.wf k n r).1 x⟩;omega;rintro(f|⟨i,c⟩);exact dQ<|(A.vN j k l m n r).2 f;exact(dQ<|(A.wl j l m).2 i).trans<|.head O<|dQ<|(A.wf k n r).2 c;intro j l m;let F:=A.pl j l m;constructor;intro f;rcases C _ _ (bp F.2.2.2) f with⟨c,_⟩|⟨_,c⟩;omega;rcases c with c|c;omega;exact(A.wl j l m).1 c;intro f;exact(dQ<|(A.wl j l m).2 f).trans<|.head O<|.one N;rintro j k (f|⟨i,c⟩);exact A.pO j k f;exact⟨A.si j i,A.uc k c⟩
end
def aO.ind{P:aO->Prop}(q:∀b,(∀c∈b.aD,P c)->P b):∀b,P b:=by
 let key:∀T,∀b,SizeOf.sizeOf b<T->P b:=by
  intro T
  induction T
  omega
  next T e=>
   refineλb he=>q b λc d=>e c ?_
   have:SizeOf.sizeOf c<SizeOf.sizeOf b:=by cases b;have:=List.sizeOf_lt_of_mem d;simp[aO.aD] at this;simp;omega
   omega
 exactλb=>key _ b<|xp _
def l5{c:X aO}{b:Z}(q:b<Q c):(hN c)[b]?=W (c0 (z c b ai)):=by rw[ao8 q,xU]
theorem cT{d:Type}{b:X d}{c:Z}{I:d}:c<Q b->z b c I∈b:=by simp_all
def pi(b:aO):Prop:=(1<=b.bL/\b.bL<=6)/\(b.bL<4->b.aD=[])/\(b.bL=6->Q b.aD=1/\0<=b.min/\b.min<=50/\(b.max=-1\/b.min<=b.max/\b.max<=50))/\Q b.aD<=3000/\(∀d∈b.set,0<=d.1/\d.1<=d.2/\d.2<=255)/\Q b.set<=256/\(∀c,0<c->c<Q b.set->(z b.set (c-1) ai).2+2<=(z b.set c ai).1)/\(b.bL≠3->b.set=[])/\(b.bL=3->b.set≠[])/\(b.bL≠6->b.min=0/\b.max=0)/\(b.bL=4\/b.bL=5->2<=Q b.aD)
mutual
def e_:aO->Prop|.mk A M c d b=>pi (.mk A M c d b)/\IW b
def IW:X aO->Prop|[]=>dW|b::c=>e_ b/\IW c
end
def afa:∀{b:X aO},IW b↔∀c∈b,e_ c|[]=>by simp[IW]|c::b=>by rw[IW,afa];simp
def p0{b:aO}:e_ b↔pi b/\∀c∈b.aD,e_ c:=by cases b;rw[e_,afa];rfl
mutual
def dG:aO->Z|.mk A _ d b c=>if A=3 then 1 else if A=6 then nL (e0 c*(if b=-1 then aB (d+1) else aB b)) 2001 else nL (e0 c) 2001
def e0:X aO->Z|[]=>0|b::c=>dG b+e0 c
end
mutual
def o5:aO->Y|.mk A _ c _ b=>if A=2 then af else if A=4 then wg b else if A=5 then qk b else if A=6 then aL (c=0)||qk b else ad
def wg:X aO->Y|[]=>af|b::c=>o5 b&&wg c
def qk:X aO->Y|[]=>ad|b::c=>o5 b||qk c
end
structure bs where
 aC:X (X Z)
 dd:X J
 g7:X Z
 aE:X a1
 dC:X Z
def ko(M:X (J×J)):a1:=M.foldl (λc b=>c.add (aB b.1)<|aB b.2) cL
def bs.bY(T:bs):bs:={T with aC:=T.aC++[[]],dd:=T.dd++[-1]}
def bs.dS(T:bs)(B b:Z):bs:={T with aC:=aK T.aC B (z T.aC B []++[b])}
def bs.w4(T:bs)(w b:Z)(M:a1):bs:={T with dd:=aK T.dd w (Q T.aE:Z),g7:=T.g7++[b],aE:=T.aE++[M],dC:=T.dC++[w]}
def iD(b:bs->Z->bs×Z):Z->bs->Z->bs×Z|0,T,B=>(T,B)|A+1,T,B=>iD b A (b T B).1 (b T B).2
def ym(b:bs->Z->bs×Z)(T:bs)(B:Z):bs:=(b (T.bY.dS B<|Q T.aC) B).1.dS (b (T.bY.dS B<|Q T.aC) B).2<|Q T.aC
def e2(b:bs->Z->bs×Z):Z->bs->Z->bs×Z|0,T,B=>(T,B)|A+1,T,B=>e2 b A (ym b T B)<|Q T.aC
def mc(T:bs)(B:Z):bs:=(T.bY.bY.dS B<|Q T.aC).dS (Q T.aC)<|Q T.aC+1
def JA(b:bs->Z->bs×Z)(T:bs)(B:Z):bs:=(b (mc T B)<|Q T.aC).1.dS (b (mc T B)<|Q T.aC).2<|Q T.aC
def qI(b:bs->Z->bs×Z)(c d:J)(T:bs)(B:Z):bs×Z:=if d=-1 then(JA b (iD b (aB c) T B).1 (iD b (aB c) T B).2,(iD b (aB c) T B).1.aC.length+1)
 else e2 b (aB<|d-c) (iD b (aB c) T B).1 (iD b (aB c) T B).2
mutual
def hh:aO->bs->Z->bs×Z
|.mk A M c d b,T,B=>
 if dG (.mk A M c d b)=0 then((if o5 (.mk A M c d b) then T.bY.dS B (Q T.aC) else T.bY),Q T.aC)
 else if A=3 then((T.bY.bY.dS B<|Q T.aC).w4 (Q T.aC) (Q T.aC+1)<|ko M,Q T.aC+1)
 else if A=4 then ms b T B
 else if A=5 then(mT b T.bY B<|Q T.aC,Q T.aC)
 else if A=6 then zc b c d T B
 else(T.bY.dS B<|Q T.aC,Q T.aC)
def ms:X aO->bs->Z->bs×Z|[],T,B=>(T,B)|b::c,T,B=>ms c (hh b T B).1 (hh b T B).2
def mT:X aO->bs->Z->Z->bs|[],T,_,_=>T|b::d,T,B,c=>mT d ((hh b T B).1.dS (hh b T B).2 c) B c
def zc:X aO->J->J->bs->Z->bs×Z|[],_,_,T,B=>(T,B)|d::_,b,c,T,B=>qI (hh d) b c T B
end
structure b1 where
 first:X Z
 last:X Z
 empty:Y
 none:Y
structure bd where
 aE:X (X (J×J))
 cp:X (X Z)
def lc(d:X (X Z))(B e:X Z):X (X Z):=B.foldl (λb c=>aK b c<|ey (z b c []) e) d
def rk(b c:b1):b1:=⟨if b.empty then ey b.first c.first else b.first,if c.empty then ey b.last c.last else c.last,b.empty&&c.empty,b.none||c.none⟩
def qx(b:bd)(c d:b1):bd:=⟨b.aE,lc b.cp c.last d.first⟩
def b1.mD(M:b1):b1:={M with empty:=af}
def la(c:bd->bd×b1):Z->bd->b1->bd×b1|0,b,K=>(b,K)|A+1,b,K=>la c A (qx (c b).1 K (c b).2)<|rk K (c b).2
def p2(c:bd->bd×b1):Z->bd->b1->bd×b1|0,b,K=>(b,K)|A+1,b,K=>p2 c A (qx (c b).1 K (c b).2.mD)<|rk K (c b).2.mD
def ac8(b:bd)(M:b1):bd:=⟨b.aE,lc b.cp M.last M.first⟩
def qH(b:bd->bd×b1)(c e:J)(d:bd):bd×b1:=if e=-1 then(qx (ac8 (b (la b (aB c) d ⟨[],[],af,ad⟩).1).1 (b (la b (aB c) d ⟨[],[],af,ad⟩).1).2) (la b (aB c) d ⟨[],[],af,ad⟩).2 (b (la b (aB c) d ⟨[],[],af,ad⟩).1).2.mD,rk (la b (aB c) d ⟨[],[],af,ad⟩).2 (b (la b (aB c) d ⟨[],[],af,ad⟩).1).2.mD)
 else p2 b (aB<|e-c) (la b (aB c) d ⟨[],[],af,ad⟩).1 (la b (aB c) d ⟨[],[],af,ad⟩).2
mutual
def dY:aO->bd->bd×b1
|.mk A M d e c,b=>
 if dG (.mk A M d e c)=0 then(b,⟨[],[],o5<|.mk A M d e c,ad⟩)
 else if A=3 then(⟨b.aE++[M],b.cp++[[]]⟩,⟨[Q b.aE],[Q b.aE],ad,ad⟩)
 else if A=4 then pG c b ⟨[],[],af,ad⟩
 else if A=5 then q4 c b ⟨[],[],ad,ad⟩
 else if A=6 then xE c d e b
 else(b,⟨[],[],af,ad⟩)
def pG:X aO->bd->b1->bd×b1|[],b,K=>(b,K)|c::d,b,K=>pG d (qx (dY c b).1 K (dY c b).2)<|rk K (dY c b).2
def q4:X aO->bd->b1->bd×b1|[],b,K=>(b,K)|c::d,b,K=>q4 d (dY c b).1 ⟨ey K.first (dY c b).2.first,ey K.last (dY c b).2.last,K.empty||(dY c b).2.empty,ad⟩
def xE:X aO->J->J->bd->bd×b1|[],_,_,b=>(b,⟨[],[],af,ad⟩)|e::_,c,d,b=>qH (dY e) c d b
end
def ot(b:aO):Z:=if b.bL=3 then 1 else if b.bL=6 then nL (e0 b.aD*(if b.max=-1 then aB (b.min+1) else aB b.max)) 2001 else nL (e0 b.aD) 2001
theorem wm b:dG b=ot b:=by cases b;rfl
theorem Rg b:dG b<=2001:=by grind[wm,ot,Nat.min_le_right]
def YP{c:X aO}{b:Z}(q:b<Q c):e0 (ak (b+1) c)=e0 (ak b c)+dG (z c b ai):=by
 induction c generalizing b
 trivial
 next d c e=>
  cases b;simp[e0,xk,dG]
  next b=>grind[e0,dG,ai]
def Ri b:e0 b<=2001*Q b:=by
 induction b
 trivial
 next c b d=>grind[e0,List.length_cons,Rg]
def r7(b:aO):Y:=if b.bL=2 then af else if b.bL=4 then wg b.aD else if b.bL=5 then qk b.aD else if b.bL=6 then aL (b.min=0)||qk b.aD else ad
def X8 b:o5 b=r7 b:=by cases b;rfl
theorem ww{c:X aO}{b:Z}:b<Q c->aU b c=z c b ai::aU (b+1) c:=by simp_all
def Fp{b:X aO}(q:Q b=1):b=[z b 0 ai]:=by obtain⟨c,rfl⟩:=GK.1 q;rfl
def aBt T A:nL (nL T 2001*A) 2001=nL (T*A) 2001:=by
 rcases Nat.le_total T 2001 with q|q;simp_all;cases A;rfl
 next A=>grind
def Vh:∀b,e_ b->bb 233 [c0 b] (k (dG b)):=by
 refine aO.ind λb E he=>?_;let⟨⟨⟨J,K⟩,L,v,M,N,O⟩,A⟩:=p0.1 he;let I:=Ri b.aD;rw[wm];refine gJ.of_wp (t:=hV) (i:=5000) [] (λ_=>(0,0)) ⟨[(0,c0 b)],[],[]⟩ e1 bq gw ⟨func233,a3,p⟩ p p p p λm x D=>?_;let H:k1 b5 hV m hB _ []:=⟨e1,bq,x,gw,D⟩;refine eC (Q b.aD) (λd=>⟨[(1,c 1),(3,k<|nL (e0<|ak d b.aD) 2001),(4,k d)],[(1,_)],[]⟩) (λd j=>?_) .r;apply e<;>intro y
 .let s:d<Q b.aD:=by rw[iS] at y;omega
  let F:=YP s;let G:=Rg<|z b.aD d ai;let u:nL (e0<|ak d b.aD) 2001<=2001:=aj_ _ _;refine bi d (c0<|z b.aD d ai) ?_ (j:=l5 s);refine aS ?_ (f:=E _ (cT s)<|A _<|cT s);refine bc ?_;refine pY ((nL (e0<|ak (d+1) b.aD) 2001:Z)) ?_ (q:=aY);refine bc ?_;exact a0 (d+1) (cq:=.r)
 obtain rfl:d=Q b.aD:=by grind[iS]
 rw[g5];let u:nL (e0 b.aD) 2001<=2001:=aj_ _ _;apply e<;>intro g
 .exact aA (q:=by rw[ot,ae g];rfl)
 refine fk ?_;apply e<;>intro l
 .let⟨P,R,S,T⟩:=v l.1;let B:nL (e0 b.aD) 2001*aB (b.min+1)<=2001*51:=Ci u o;refine bc ?_;refine BC ((nL (e0 b.aD) 2001*aB (b.min+1):Z)) ?_ (q:=aY);refine pY ((nL (e0 b.aD*aB (b.min+1)) 2001:Z)) ?_ (q:=aY);exact aA (q:=by rw[ot,ab g,ae l.1,ae l.2];rfl)
 apply e<;>intro n
 .cases v n;let C:¬b.max=-1:=λw=>l ⟨n,w⟩;let B:nL (e0 b.aD) 2001*aB b.max<=2001*50:=Ci u o;refine BC ((nL (e0 b.aD) 2001*aB b.max:Z)) ?_ (q:=aY);refine pY ((nL (e0 b.aD*aB b.max) 2001:Z)) ?_ (q:=aY);exact aA (q:=by rw[ot,ab g,ae n,ab C];rfl)
 exact aA (q:=by rw[ot,ab g,ab n];rfl)
def aw7:∀b,e_ b->bb 279 [c0 b] (a6 (o5 b)):=by
 refine aO.ind λb x he=>?_;let⟨⟨⟨H,I⟩,J,B,K,L,M⟩,v⟩:=p0.1 he;rw[X8];refine gJ.of_wp (t:=hV) (i:=5000) [] (λ_=>(0,0)) ⟨[(0,c0 b)],[],[]⟩ e1 bq gw ⟨func279,a3,p⟩ p p p p λm C a7=>?_;let D:k1 b5 hV m hB _ []:=⟨e1,bq,C,gw,a7⟩;apply e<;>intro l
 .exact aA (q:=by rw[r7,ae l];rfl)
 apply e<;>intro n
 .refine i0 (Q b.aD) (λd=>wg b.aD=wg (aU d b.aD)) (λd=>⟨[(1,c 1),(3,k d)],[(1,_)],[]⟩) (λd j=>?_) p .r;apply e<;>intro y
  .let g:d<Q b.aD:=by rw[iS] at y;omega
   refine bi d (c0<|z b.aD d ai) ?_ (j:=l5 g);refine aS ?_ (f:=x _ (cT g)<|v _<|cT g);apply e<;>intro E
   .exact aA (q:=by rw[r7,ab l,ae n,j.2,ww g,wg,show o5 (z b.aD d ai)=ad by simp_all];rfl)
   refine bc ?_;exact a0 (d+1) ⟨o,by grind[ww,wg,o5,ai]⟩ (cq:=.r)
  exact aA (q:=by rw[iS] at y;rw[r7,ab l,ae n,j.2,kM o];rfl)
 apply e<;>intro s
 .refine i0 (Q b.aD) (λd=>qk b.aD=qk (aU d b.aD)) (λd=>⟨[(1,c 1),(4,k d)],[(1,_)],[]⟩) (λd j=>?_) p .r;apply e<;>intro A
  .let g:d<Q b.aD:=by rw[iS] at A;omega
   refine bi d (c0<|z b.aD d ai) ?_ (j:=l5 g);refine aS ?_ (f:=x _ (cT g)<|v _<|cT g);apply e<;>intro F
   .exact aA (q:=by rw[r7,ab l,ab n,ae s,j.2,ww g,qk,show o5 (z b.aD d ai)=af by omega];rfl)
   refine bc ?_;exact a0 (d+1) ⟨o,by grind[ww,qk,o5,ai]⟩ (cq:=.r)
  exact aA (q:=by rw[iS] at A;rw[r7,ab l,ab n,ae s,j.2,kM o];rfl)
 apply e<;>intro u
 .let w:0<Q b.aD:=by have:=(B u).1;omega
  apply ev;intro G;refine gx 0 (c0<|z b.aD 0 ai) ?_ (j:=l5 w) (a7:=a3);refine cf ?_ (f:=x _ (cT w)<|v _<|cT w);exact p;exact aA (q:=by rw[r7,ab l,ab n,ab s,ae u,Fp (B u).1,qk,qk,Bool.or_false];rfl)
 exact aA (q:=by rw[r7,ab l,ab n,ab s,ab u];rfl)
def eN{c:X Z}{b:Z}:b<Q c->(aa k c)[b]?=W (k (z c b 0)):=by simp_all
theorem JF{c:X Z}{b:Z}:b<Q c->ak (b+1) c=ak b c++[z c b 0]:=by simp_all
theorem CR{c:X Z}{b:Z}:b<Q c->aU b c=z c b 0::aU (b+1) c:=by simp_all
theorem aAz{d e:X Z}{b c:Z}(q:b<c):ey (b::d) (c::e)=b::ey d (c::e):=by rw[ey,ae q]
theorem aAA{d e:X Z}{b c:Z}(q:¬b<c)(f:c<b):ey (b::d) (c::e)=c::ey (b::d) e:=by rw[ey,ab q,ae f]
def aAy{d e:X Z}{b c:Z}:¬b<c->¬c<b->ey (b::d) (c::e)=b::ey d e:=by simp_all[ey,ab]
def Gy c d(E:Q c<=1000000)(F:Q d<=1000000):bb 237 [.a 1 (aa k c),.a 1 (aa k d)] (.a 1 (aa k (ey c d))):=by
 refine bx func237 [] λm D=>?_;apply aZ.eQ 5 1 3 [5] ah;refine dv (X Z×Z×Z) (λf=>⟨[(0,_),(1,_),(6,k f.2.1),(7,k f.2.2),(5,.aq 5 0<|Q<|aa k f.1)],[(5,.h 1 3<|aa k f.1)],[]⟩) (λf=>f.2.1<=Q c/\f.2.2<=Q d/\Q f.1<=f.2.1+f.2.2/\ey c d=f.1++ey (aU f.2.1 c) (aU f.2.2 d)) (λf=>Q c-f.2.1+(Q d-f.2.2)) ([],0,0) (λ⟨K,b,A⟩ ⟨q,s,C,g⟩=>?_) ⟨dO _,dO _,bz _,p⟩ .r;dsimp at q s C g⊢;refine eA ?_;apply e<;>intro G
 .refine eg ?_;apply ev;intro J;apply c9;intro L;refine gx b (k<|z c b 0) ?_ (j:=eN o);refine gx A (k<|z d A 0) ?_ (j:=eN o);exact p;exact p;apply e<;>intro H
  .let i:b<Q c:=o;let x:Q (K++[z c b 0])<=b+1+A:=by rw[cX,p_];omega
   let j:b+1<=Q c:=i;let t:ey c d=K++[z c b 0]++ey (aU (b+1) c) (aU A d):=by rw[g,CR i,fJ];rcases fF A (Q d) with l|l;grind[CR,aAz];grind[List.drop_eq_nil_of_le,aAx]
   refine bi b (k<|z c b 0) ?_ (j:=eN o);refine er ?_;refine e7 (aa k<|K++[z c b 0]) ?_ (aW:=av) (bQ:=a2);apply e6<|(b+1:Z);exact a0 (K++[z c b 0],b+1,A) ⟨j,s,x,t⟩ a2 .r
  let n:A<Q d:=o;let l:A+1<=Q d:=n;refine eg ?_;apply ev;intro M;refine gx A (k<|z d A 0) ?_ (j:=eN o);refine gx b (k<|z c b 0) ?_ (j:=eN o);exact p;apply e<;>intro I
  .let y:Q (K++[z d A 0])<=b+(A+1):=by rw[cX,p_];omega
   let u:ey c d=K++[z d A 0]++ey (aU b c) (aU (A+1) d):=by rw[g,CR n,fJ];rcases fF b (Q c) with w|w;grind[CR,aAA];grind[List.drop_eq_nil_of_le,O9]
   refine bi A (k<|z d A 0) ?_ (j:=eN o);refine er ?_;refine e7 (aa k<|K++[z d A 0]) ?_ (aW:=av) (bQ:=a2);apply e6<|(A+1:Z);exact a0 (K++[z d A 0],b,A+1) ⟨q,l,y,u⟩ a2 .r
  let i:b<Q c:=o;let j:b+1<=Q c:=i;let B:Q (K++[z c b 0])<=b+1+(A+1):=by rw[cX,p_];omega
  let v:ey c d=K++[z c b 0]++ey (aU (b+1) c) (aU (A+1) d):=by rw[g,CR i,CR n,fJ,aAy o o];rfl
  refine bi b (k<|z c b 0) ?_ (j:=eN o);refine er ?_;refine e7 (aa k<|K++[z c b 0]) ?_ (aW:=av) (bQ:=a2);apply e6<|(b+1:Z);apply e6<|(A+1:Z);exact a0 (K++[z c b 0],b+1,A+1) ⟨j,l,B,v⟩ a2 .r
 rw[kM o,kM o,O9,ff] at g;rw[g];exact ib 5 aA
def k7(M:X (J×J)):V:=.a 2<|aa hP M
def qs(T:Z):V:=bH [.aq 5000 0 T,.aq 5001 0 T,a6 ad]
def Be{c:X (X Z)}{b:Z}(q:b<Q c):(aa b6 c)[b]?=W (b6 (z c b [])):=by rw[c4,dm,cm q];rfl
def fT(b:X Z):Prop:=jV b/\∀c∈b,c<2000
def fT.len{b:X Z}(q:fT b):Q b<=2000:=by have:=abQ (pS:=0) (T:=2000) q.1 λd c=>⟨dO _,q.2 d c⟩;omega
theorem fT.nil:fT []:=⟨Cp,λ_ q=>b9 q ka⟩
def fT.un{b c:X Z}(d:fT b)(e:fT c):fT (ey b c):=⟨x8 _ _ d.1 e.1,λf g=>((pV _ _ _).1 g).elim (d.2 f)<|e.2 f⟩
theorem fT.one{T:Z}(q:T<2000):fT [T]:=⟨Am _ _,λc b=>by rw[ea] at b;omega⟩
def pF(b:X (X Z)):Prop:=∀c,fT<|z b c []
theorem vm{i:Type}{e:X i}{d b:Z}{g I:i}:z (aK e d g) b I=if d=b/\b<Q e then g else z e b I:=by rw[dm,dm,rO];by_cases q:d=b;subst q;by_cases c:d<Q e;rw[ae p,ae c,ae ⟨p,c⟩];rfl;rw[ae p,ab c,ab λf=>c f.2];rw[yO o];rw[ab q,ab λf=>q f.1]
theorem pF.set{b:X (X Z)}(q:pF b){c:X Z}(d:fT c)e:pF (aK b e c):=by intro f;rw[vm];split;exact d;exact q f
def pF.link{e:X Z}(c:fT e):∀B{b:X (X Z)},pF b->pF (lc b B e)|[],_,q=>q|d::B,_,q=>pF.link c B<|q.set ((q d).un c) d
def ac7{c:X Z}:∀B b,Q (lc b B c)=Q b|[],b=>p|d::B,b=>by show Q (lc (aK b d _) B c)=_;rw[ac7 B];simp
def ac9{OX:X V}{cp:X (X Z)}{B hU:X Z}{T:Z}(t:T=Q cp)(v:∀A∈B,A<Q cp)(C:Q cp<=2000)(w:pF cp)(q:fT hU)(x:fT B):dF 281 [c 6000,.a 1 (aa k B),.a 1 (aa k hU)] [(6000,ag 314 (qs T)),(5000,.h 1 161 OX),(5001,.h 1 64 (aa b6 cp))] (cs []) [(6000,ag 314 (qs T)),(5000,.h 1 161 OX),(5001,.h 1 64 (aa b6 (lc cp B hU)))]:=by
 refine dN func281 [] λH m D=>?_;let F:=x.len;refine dv (Z×X (X Z)) (λd=>⟨[(0,_),(1,_),(2,_),(6,k d.1)],[(5000,.h 1 161 OX),(5001,.h 1 64<|aa b6 d.2),(6000,ag 314<|qs T)],[]⟩) (λd=>d.1<=Q B/\Q d.2=T/\pF d.2/\lc cp B hU=lc d.2 (aU d.1 B) hU) (λd=>Q B-d.1) (0,cp) (λ⟨b,g⟩ ⟨y,s,l,n⟩=>?_) ⟨dO _,bG t,w,p⟩ .r;dsimp at y s l n⊢;apply e<;>intro E
 .let i:b<Q B:=o;let u:z B b 0<Q g:=by rw[s,t];exact v _<|cT i
  let G:=((l<|z B b 0).un q).len;refine eS ?_;apply br λ_=>gx b (k<|z B b 0) p (j:=eN i);apply br λ_=>gx b (k<|z B b 0) p (j:=eN i);apply br λ_=>cC (z B b 0) p (j:=o);apply br λ_=>e9 (b6<|z g (z B b 0) []) p (j:=Be u);apply br λ_=>cf p (f:=Gy (z g (z B b 0) []) hU (by have:=(l<|z B b 0).len;omega) (by have:=q.len;omega));apply br λ_=>cC (z B b 0) p (j:=o);refine uJ (aa b6<|aK g (z B b 0)<|ey (z g (z B b 0) []) hU) (b6<|z g (z B b 0) []) (b6<|ey (z g (z B b 0) []) hU) ?_ (j:=Be u) (aW:=by rw[hW]);apply kU [];refine bc ?_;exact a0 (b+1,aK g (z B b 0)<|ey (z g (z B b 0) []) hU) ⟨i,by rw[nJ];exact s,l.set ((l _).un q) _,by rw[n,CR i];rfl⟩ (by dsimp;omega) .r
 rw[kM o] at n;rw[n];exact cE
def wz(M:b1):V:=bH [b6 M.first,b6 M.last,a6 M.empty,a6 M.none]
def KU(M:b1):Prop:=fT M.first/\fT M.last
def MM k g b d T(s:T=Q g)(l:∀t∈b.last,t<Q g)(n:Q g<=2000)(r:pF g)(i:KU b)(j:KU d):dF 280 [c 6000,wz b,wz d] [(6000,ag 314 (qs T)),(5000,.h 1 161 k),(5001,.h 1 64 (aa b6 g))] (wz (rk b d)) [(6000,ag 314 (qs T)),(5000,.h 1 161 k),(5001,.h 1 64 (aa b6 (lc g b.last d.first)))]:=by
 refine dN func280 [] λB m u=>?_;let x:=i.1.len;let y:=i.2.len;let z:=j.1.len;let A:=j.2.len;refine bI [(6000,6000),(5000,5000),(5001,5001)] ?_ (f:=ac9 s l n r j.1 i.2);refine fk ?_;refine eA ?_;apply e<;>intro v
 focus refine aS ?_ (f:=Gy b.first d.first o o)
 all_goals
  apply e<;>intro w
  focus refine aS ?_ (f:=Gy b.last d.last o o)
  all_goals exact jd bq (q:=by simp[rk, *];cases b.empty<;>cases b.none<;>rfl)
def lZ(T:bs)(b c:Z):Prop:=c∈z T.aC b []
structure r0(T:bs):Prop where
 pl:Q T.dd=Q T.aC
 fX:Q T.g7=Q T.aE
 dC:Q T.dC=Q T.aE
 JG:∀U C,lZ T U C->C<Q T.aC
 K2:∀u<Q T.dC,z T.dC u 0<Q T.aC
 K6:∀u<Q T.g7,z T.g7 u 0<Q T.aC
 F2:∀U u:Z,z T.dd U (-1)=(u:J)↔u<Q T.dC/\z T.dC u 0=U
 neg:∀U, -1<=z T.dd U (-1)
structure AF(T Du:bs):Prop where
 aC:Q T.aC<=Q Du.aC
 dC:T.dC<+:Du.dC
 fX:T.g7<+:Du.g7
def KB(w fX:Z->Z)(T:bs):Prop:=(∀b<Q T.dC,w b=z T.dC b 0)/\∀b<Q T.g7,fX b=z T.g7 b 0
def af5{d:Type}{b i:X d}(q:b<+:i){I:d}{c:Z}:c<Q b->z i c I=z b c I:=by obtain⟨e,rfl⟩:=q;grind
theorem AF.trans{b c d:bs}(q:AF b c)(A:AF c d):AF b d:=⟨dK q.aC A.aC,q.dC.trans A.dC,q.fX.trans A.fX⟩
def KB.mono{w fX:Z->Z}{T d:bs}(q:AF T d)(A:KB w fX d):KB w fX T:=⟨λc b=>bC (A.1 c<|kv b q.dC.length_le)<|af5 q.dC b,λc b=>bC (A.2 c<|kv b q.fX.length_le)<|af5 q.fX b⟩
theorem H5{f:Type}{c:X f}{d b:Z}{e I:f}:z (aK c d e) b I=if d=b/\b<Q c then e else z c b I:=by grind
def zx{d:Type}{c i:X d}{b:Z}{I:d}:z (c++i) b I=if b<Q c then z c b I else z i (b-Q c) I:=by grind
def aBE{d:Type}{c:X d}{b:Z}{I:d}:Q c<=b->z c b I=I:=by simp_all
theorem HJ{T:bs}{b c:Z}:lZ T.bY b c↔lZ T b c:=by unfold lZ bs.bY;grind
theorem CW{T:bs}{B d:Z}(q:B<Q T.aC)b c:lZ (T.dS B d) b c↔lZ T b c\/b=B/\c=d:=by unfold lZ bs.dS;grind
def sj{T:bs}:Q T.bY.aC=Q T.aC+1:=by simp[bs.bY]
theorem sk{T:bs}{B b:Z}:(T.dS B b).aC.length=Q T.aC:=by simp[bs.dS]
def DA{T:bs}(q:r0 T):r0 T.bY:=by refine⟨by simp[bs.bY,q.pl],q.fX,q.dC,λb f e=>?_,λc d=>?_,λc d=>?_,λb c=>?_,λb=>?_⟩;rw[sj];exact Ao<|q.JG b f<|HJ.1 e;rw[sj];exact Ao<|q.K2 c d;rw[sj];exact Ao<|q.K6 c d;show z (T.dd++[-1]) b _=_↔c<Q T.dC/\z T.dC c 0=b;rw[<-q.F2 b c,zx];grind;show-1<=z (T.dd++[-1]) b _;rw[zx];split;exact q.neg b;grind
def BK{T:bs}(q:r0 T){B e:Z}(j:B<Q T.aC)(k:e<Q T.aC):r0 (T.dS B e):=by refine⟨by rw[sk];exact q.pl,q.fX,q.dC,λf g i=>?_,λc b=>?_,λc b=>?_,q.F2,q.neg⟩;rw[sk];rcases(CW j f g).1 i with d|d;exact q.JG f g d;omega;rw[sk];exact q.K2 c b;rw[sk];exact q.K6 c b
def HQ{T:bs}:AF T T.bY:=⟨by simp[sj,pv],Eb _,Eb _⟩
def A_{T:bs}{B b:Z}:AF T (T.dS B b):=⟨by simp[sk,bz],Eb _,Eb _⟩
def Tx{c:X Z}:∀B b,Q (lc b B c)=Q b|[],b=>p|d::B,b=>by show Q (lc _ B c)=_;rw[Tx B];simp
def Ty{d:X Z}:∀B c b,b∉B->z (lc c B d) b []=z c b []
|[],c,b,_=>p|f::B,c,b,q=>by
 show z (lc _ B d) b []=_;rw[Ty B _ b λe=>q<|ku _ e,H5,ab]
 (simp_all;omega)
theorem Bs{e:X Z}:∀B d b c,b<Q d->(c∈z (lc d B e) b []↔c∈z d b []\/b∈B/\c∈e)|[],d,b,c,_=>by simp[lc]|f::B,d,b,c,q=>by show c∈z (lc _ B e) b []↔_;rw[Bs B _ b c ap,H5,fR];by_cases rfl:f=b;rw[ae ⟨rfl,q⟩,pV];simp_all;grind
def Tw{d:X Z}(e:jV d):∀B c,(∀b,jV (z c b []))->∀b,jV (z (lc c B d) b [])|[],c,q,b=>q b|f::B,c,q,b=>by refine Tw e B _ (λb=>?_) b;grind[H5,x8]
structure jy(nw T:bs)(B hU:Z)(g0 s:bd)(hp:b1):Prop where
 ok:r0 T
 ext:AF nw T
 gs:Q s.aE=Q T.aE
 k_:Q s.cp=Q T.aE
 z6:∃new,s.aE=g0.aE++new/\T.aE=nw.aE++aa ko new
 wC:∀H<Q g0.cp,z s.cp H []=z g0.cp H []
 inc:∀H,jV (z s.cp H [])
 x9:jV hp.first
 Bp:jV hp.last
 B:∀w fX,KB w fX T->∃N:Z->Z->Prop,(∀U C,lZ T U C↔lZ nw U C\/N U C)/\ng w fX N B hU (Q nw.aC) (Q T.aC) (Q nw.aE) (Q T.aE) (·∈hp.first) (·∈hp.last) (λH u=>Q nw.aE<=H/\H<Q T.aE/\u∈z s.cp H []) (hp.empty=af)
structure oi(T:bs)(s:bd)(B:Z):Prop where
 ok:r0 T
 B:B<Q T.aC
 gs:Q s.aE=Q T.aE
 k_:Q s.cp=Q T.aE
 inc:∀H,jV (z s.cp H [])
def jy.Gs{f T:bs}{B b:Z}{c d:bd}{g:b1}(q:jy f T B b c d g):b<Q T.aC:=by let⟨i,_,e⟩:=q.B _ _ ⟨λ_ _=>p,λ_ _=>p⟩;exact e.Gt.2
def jy.pre{e T:bs}{B c:Z}{d b:bd}{f:b1}(q:jy e T B c d b f):oi T b c:=⟨q.ok,q.Gs,q.gs,q.k_,q.inc⟩
def jy.OP{b T:bs}{B f:Z}{c d:bd}{e:b1}(q:jy b T B f c d e):Q b.aE<=Q T.aE:=by cases q.z6;simp_all
theorem jy.join{l g r:bs}{B i D:Z}{n v m:bd}{c d:b1}(x:oi l n B)(q:jy l g B i n v c)(A:jy g r i D v m d):jy l r B D n (qx m c d) (rk c d):=by
 let C:∀b∈c.last,Q l.aE<=b/\b<Q g.aE:=by intro b k;let⟨N,_,K⟩:=q.B (z g.dC · 0) (z g.g7 · 0) ⟨λ_ _=>p,λ_ _=>p⟩;exact K.si b k
 let X:=q.OP;let Y:=A.OP;refine⟨A.ok,q.ext.trans A.ext,A.gs,?_,?_,?_,?_,?_,?_,?_⟩;show Q (lc _ _ _)=_;rw[Tx];exact A.k_;let⟨L,O,P⟩:=q.z6;let⟨M,R,S⟩:=A.z6;exact⟨L++M,by show m.aE=_;simp_all,ap⟩;intro b k;show z (lc _ _ _) b []=_;rw[Ty _ _ _ (λJ=>by have:=C b J;rw[x.k_] at k;omega),A.wC b (by rw[q.k_];rw[x.k_] at k;omega),q.wC b k];exact Tw A.x9 _ _ A.inc;show jV (if c.empty then ey c.first d.first else c.first);split;exact x8 _ _ q.x9 A.x9;exact q.x9;show jV (if d.empty then ey c.last d.last else d.last);split;exact x8 _ _ q.Bp A.Bp;exact A.Bp;intro w fX y;let⟨E,T,G⟩:=q.B w fX<|y.mono A.ext;let⟨F,U,H⟩:=A.B w fX y;refine⟨λs t=>E s t\/F s t,λs t=>aY,(G.ayx H).congr (λ_ _=>na) ?_ ?_ ?_ ?_⟩;intro e;show e∈(if c.empty then ey c.first d.first else c.first)↔_;grind[pV];intro e;show e∈(if d.empty then ey c.last d.last else d.last)↔_;split;simp_all[pV,or_comm];simp_all;intro b e;show Q l.aE<=b/\b<Q r.aE/\e∈z (lc m.cp c.last d.first) b []↔_;constructor;rintro⟨f,j,h_⟩;rcases(Bs _ _ b e (by rw[A.k_];exact j)).1 h_ with u|u;rcases fF b (Q g.aE) with I|I;rw[A.wC b (by rw[q.k_];exact I)] at u;simp_all;simp_all;simp_all;rintro(⟨f,j,h_⟩|⟨f,j,h_⟩|⟨f,j⟩);refine⟨f,o,(Bs _ _ b e (by rw[A.k_];omega)).2<|bl ?_⟩;rw[A.wC b aY];exact h_;grind[Bs];have:=C b f;exact⟨o,o,(Bs _ _ b e (by rw[A.k_];omega)).2<|bp ⟨f,j⟩⟩;show(c.empty&&d.empty)↔_;simp
def Acc(e T:bs)(B f:Z)(c d:bd)(b:b1):Prop:=T=e/\f=B/\d=c/\b.first=[]/\b.last=[]/\b.empty\/jy e T B f c d b
def jy.none{j T:bs}{B k:Z}{e f d:bd}{b c:b1}(q:jy j T B k e f b)(m:d=f)(g:c.first=b.first)(i:c.last=b.last)(l:c.empty=b.empty):jy j T B k e d c:=by subst m;exact⟨q.ok,q.ext,q.gs,q.k_,q.z6,q.wC,q.inc,by rw[g];exact q.x9,by rw[i];exact q.Bp,by rw[g,i,l];exact q.B⟩
theorem Acc.join{e j k:bs}{B i l:Z}{d f g:bd}{b c:b1}(n:oi e d B)(q:Acc e j B i d f b)(A:jy j k i l f g c):jy e k B l d (qx g b c) (rk b c):=by rcases q with⟨rfl,rfl,rfl,r,m,s⟩|q;apply A.none (by unfold qx;rw[m];rfl);grind[rk,O9];grind[rk,ey,O9];simp_all[rk,xf];exact q.join n A
def Acc.pre{d T:bs}{B e:Z}{b c:bd}{g:b1}(f:oi d b B)(q:Acc d T B e b c g):oi T c e:=by rcases q with⟨rfl,rfl,rfl,_⟩|q;exact f;exact q.pre
def Aw(d:bs->Z->bs×Z)(c:bd->bd×b1):Prop:=∀T B b,oi T b B->jy T (d T B).1 B (d T B).2 b (c b).1 (c b).2
def abY{e:bs->Z->bs×Z}{d:bd->bd×b1}(j:Aw e d){i:bs}{B:Z}{f:bd}(g:oi i f B):∀A T b c K,Acc i T B b f c K->Acc i (iD e A T b).1 B (iD e A T b).2 f (la d A c K).1 (la d A c K).2|0,_,_,_,_,q=>q|A+1,T,b,c,K,q=>abY j g A _ _ _ _<|bp<|q.join g<|j T b c<|q.pre g
def Ut{d:bs->Z->bs×Z}{c:bd->bd×b1}(n:Aw d c){T:bs}{B:Z}{b:bd}(q:oi T b B):jy T (ym d T B) B (Q T.aC) b (c b).1 (c b).2.mD:=by
 let g:B<Q T.bY.aC:=by rw[sj];exact Ao q.B
 let i:(T.bY.dS B<|Q T.aC).aC.length=Q T.aC+1:=by rw[sk,sj]
 let r:r0 (T.bY.dS B<|Q T.aC):=BK (DA q.ok) g (by simp[sj,xp]);let A:=n _ B b ⟨r,by rw[i];exact Ao q.B,q.gs,q.k_,q.inc⟩;let j:=A.Gs;let t:=A.ext.aC;exists BK A.ok j o,((HQ).trans A_).trans<|A.ext.trans A_,A.gs,A.k_,A.z6,A.wC,A.inc,A.x9,A.Bp;intro w fX m;let⟨s,l,f⟩:=A.B w fX m;rw[i] at f;let k:(ym d T B).aC.length=(d _ B).1.aC.length:=sk;rw[k];refine⟨_,λv x=>?_,((ng.blank q.B dW).u9 f).congr (λ_ _=>na) ?_ ?_ ?_ ?_⟩;unfold ym;rw[CW j,l,CW g,HJ];grind;intro e;show e∈(c b).2.first↔_;simp
 intro e;show e∈(c b).2.last↔_;simp;intro u e;rw[GW];rfl;show af↔_;simp
def azq{e:bs->Z->bs×Z}{d:bd->bd×b1}(s:Aw e d){T:bs}{B:Z}{c:bd}(q:oi T c B):jy T (JA e T B) B (Q T.aC+1) c (ac8 (d c).1 (d c).2) (d c).2.mD:=by
 let x:Q T.bY.bY.aC=Q T.aC+2:=by rw[sj,sj]
 let u:B<Q T.bY.bY.aC:=by have:=q.B;omega
 let C:Q T.aC<(T.bY.bY.dS B<|Q T.aC).aC.length:=by rw[sk];omega
 let v:(mc T B).aC.length=Q T.aC+2:=by unfold mc;rw[sk,sk,x]
 let D:r0 (mc T B):=BK (BK (DA<|DA q.ok) u o) C (by grind[sk]);let A:=s (mc T B) (Q T.aC) c ⟨D,o,q.gs,q.k_,q.inc⟩;let y:=A.Gs;let K:=A.ext.aC;let E:r0 (JA e T B):=BK A.ok y o;let m:∀b∈(d c).2.last,Q T.aE<=b/\b<(e (mc T B)<|Q T.aC).1.aE.length:=by intro b i;let⟨I,_,t⟩:=A.B _ _ ⟨λ_ _=>p,λ_ _=>p⟩;exact t.si b i
 refine⟨E,(((HQ).trans HQ).trans<|(A_).trans A_).trans<|A.ext.trans A_,A.gs,?_,A.z6,?_,Tw A.x9 _ _ A.inc,A.x9,A.Bp,?_⟩;show Q (lc _ _ _)=_;rw[Tx];exact A.k_;intro b i;show z (lc _ _ _) b []=_;rw[Ty _ _ _ (λj=>by have:=m b j;rw[q.k_] at i;omega)];exact A.wC b i;intro w fX r;let⟨H,J,l⟩:=A.B w fX r;rw[v] at l;let n:(JA e T B).aC.length=(e (mc T B)<|Q T.aC).1.aC.length:=sk;rw[n];refine⟨_,λF G=>?_,(l.star q.B).congr (λ_ _=>na) (λ_=>na) (λ_=>na) ?_ ?_⟩;show lZ (bs.dS _ _ _) F G↔_;grind[mc,CW,HJ];intro b k;show Q T.aE<=b/\b<(e (mc T B) (Q T.aC)).1.aE.length/\k∈z (lc (d c).1.cp (d c).2.last (d c).2.first) b []↔Q T.aE<=b/\b<(e (mc T B) (Q T.aC)).1.aE.length/\_\/_;constructor;rintro⟨f,g,h_⟩;rcases(Bs _ _ b k (by rw[A.k_];exact g)).1 h_ with j|j;simp_all;simp_all;rintro(⟨f,g,h_⟩|⟨f,g⟩);grind[Bs];have:=m b f;exact⟨this.1,this.2,(Bs _ _ b k (by rw[A.k_];omega)).2<|bp ⟨f,g⟩⟩;show af↔_;simp
def arD{f:bs->Z->bs×Z}{e:bd->bd×b1}(j:Aw f e){i:bs}{B:Z}{g:bd}(d:oi i g B){A:Z}T b c K(q:Acc i T B b g c K):jy i (iD f (A+1) T b).1 B (iD f (A+1) T b).2 g (la e (A+1) c K).1 (la e (A+1) c K).2:=by
 induction A generalizing T b c K
 exact q.join d (j T b c<|q.pre d)
 next A k=>exact k _ _ _ _<|bp<|q.join d<|j T b c<|q.pre d
theorem au7{f:bs->Z->bs×Z}{e:bd->bd×b1}(j:Aw f e){i:bs}{B:Z}{g:bd}(d:oi i g B)A T b c K(q:Acc i T B b g c K):jy i (e2 f (A+1) T b).1 B (e2 f (A+1) T b).2 g (p2 e (A+1) c K).1 (p2 e (A+1) c K).2:=by
 induction A generalizing T b c K
 exact q.join d (Ut j<|q.pre d)
 next A k=>exact k _ _ _ _<|bp<|q.join d<|Ut j<|q.pre d
def afo{e:bs->Z->bs×Z}{d:bd->bd×b1}(j:Aw e d){g:bs}{B:Z}{f:bd}(i:oi g f B):∀A T b c K,jy g T B b f c K->jy g (e2 e A T b).1 B (e2 e A T b).2 f (p2 d A c K).1 (p2 d A c K).2|0,_,_,_,_,q=>q|A+1,T,b,c,K,q=>afo j i A _ _ _ _<|q.join i<|Ut j q.pre
def axA{g:bs->Z->bs×Z}{f:bd->bd×b1}(e:Aw g f){b c:J}{T:bs}{B:Z}{d:bd}(q:oi T d B)(l:c=-1\/0<c):jy T (qI g b c T B).1 B (qI g b c T B).2 d (qH f b c d).1 (qH f b c d).2:=by let i:=abY e q (aB b) T B d ⟨[],[],af,ad⟩<|bl ⟨p,p,p,p,p,p⟩;unfold qI qH;split;exact i.join q<|azq e<|i.pre q;by_cases k:0<b;obtain⟨A,j⟩:∃A,aB b=A+1:=⟨aB b-1,o⟩;rw[j];exact afo e q _ _ _ _ _<|arD e q T B d _<|bl ⟨p,p,p,p,p,p⟩;obtain⟨A,j⟩:∃A,aB (c-b)=A+1:=⟨aB (c-b)-1,o⟩;grind[au7]
def aBZ(T:bs)(b:bd):∃new,b.aE=b.aE++new/\T.aE=T.aE++aa ko new:=⟨[],av,av⟩
def QQ{T:bs}{B:Z}{c:bd}(q:oi T c B)(b:Y):jy T (if b then T.bY.dS B (Q T.aC) else T.bY) B (Q T.aC) c c ⟨[],[],b,ad⟩:=by
 let e:B<Q T.bY.aC:=by rw[sj];exact Ao q.B
 let f:(if b then T.bY.dS B (Q T.aC) else T.bY).aC.length=Q T.aC+1:=by split;rw[sk,sj];exact sj
 let d:(if b then T.bY.dS B (Q T.aC) else T.bY).aE=T.aE:=by split<;>rfl
 refine⟨?_,?_,by rw[d];exact q.gs,by rw[d];exact q.k_,a2,λ_ _=>p,q.inc,Cp,Cp,?_⟩;split;exact BK (DA q.ok) e (by simp[sj,xp]);exact DA q.ok;split;exact(HQ).trans A_;simp[HQ];intro w fX _;rw[f,d];refine⟨_,λg i=>?_,(ng.blank q.B<|b=af).congr (λ_ _=>na) ?_ ?_ ?_ ?_⟩;grind[CW,HJ];simp;simp
 (simp;omega)
 rfl
def av8{T:bs}{B:Z}{c:bd}(q:oi T c B){M:X (J×J)}:jy T ((T.bY.bY.dS B (Q T.aC)).w4 (Q T.aC) (Q T.aC+1) (ko M)) B (Q T.aC+1) c ⟨c.aE++[M],c.cp++[[]]⟩ ⟨[Q c.aE],[Q c.aE],ad,ad⟩:=by
 let s:Q T.bY.bY.aC=Q T.aC+2:=by rw[sj,sj]
 let r:B<Q T.bY.bY.aC:=by have:=q.B;omega
 let f:r0 (T.bY.bY.dS B<|Q T.aC):=BK (DA<|DA q.ok) r o;let i:(T.bY.bY.dS B<|Q T.aC).aC.length=Q T.aC+2:=by rw[sk,s]
 let t:(T.bY.bY.dS B<|Q T.aC).dd.length=Q T.aC+2:=bC f.pl i;let C:∀d b:Z,(T.bY.bY.dS B<|Q T.aC).dd.getD d (-1)=b↔b<Q T.dC/\z T.dC b 0=d:=f.F2;refine⟨⟨?_,?_,?_,?_,?_,?_,?_,?_⟩,?_,?_,?_,?_,?_,?_,Am _ _,Am _ _,?_⟩;show Q (aK _ _ _)=_;rw[nJ];exact f.pl;show Q (T.g7++[_])=Q (T.aE++[_]);simp[q.ok.fX];show Q (T.dC++[_])=Q (T.aE++[_]);simp[q.ok.dC];exact f.JG;intro b u;show z (T.dC++[Q T.aC]) b 0<(T.bY.bY.dS B (Q T.aC)).aC.length;rw[zx,i];split;rename_i e;have:=q.ok.K2 b e;omega;grind;intro b u;show z (T.g7++[Q T.aC+1]) b 0<(T.bY.bY.dS B (Q T.aC)).aC.length;rw[zx,i];split;rename_i e;have:=q.ok.K6 b e;omega;grind;intro d b;show z ((T.bY.bY.dS B (Q T.aC)).dd.set (Q T.aC) (Q T.aE)) d (-1)=b↔b<Q (T.dC++[Q T.aC])/\z (T.dC++[Q T.aC]) b 0=d;rw[H5,zx,t,cX,p_];let A:=q.ok.dC;split;rename_i e;obtain⟨rfl,_⟩:=e;constructor;grind;rintro⟨k,j⟩;split at j;rename_i e;have:=q.ok.K2 b e;omega;omega;grind;intro d;show-1<=z ((T.bY.bY.dS B (Q T.aC)).dd.set (Q T.aC) (Q T.aE)) d (-1);rw[H5];split;omega;exact f.neg d;refine⟨?_,Ww _ _,Ww _ _⟩;show Q T.aC<=(T.bY.bY.dS B (Q T.aC)).aC.length;omega;show Q (c.aE++[M])=Q (T.aE++[_]);simp[q.gs];show Q (c.cp++[[]])=Q (T.aE++[_]);simp[q.k_];exists [M],p;grind;intro g;show jV (z (c.cp++[[]]) g []);rw[zx];split;exact q.inc g;cases g-Q c.cp<;>exact Cp;intro w fX l;let k:w (Q T.aE)=Q T.aC:=by have:=l.1 (Q T.aE) (by show _<Q (T.dC++[_]);simp[q.ok.dC]);rw[this];show z (T.dC++[_]) _ 0=_;rw[zx,ab (by rw[q.ok.dC];omega),q.ok.dC,oT];rfl
 let j:fX (Q T.aE)=Q T.aC+1:=by have:=l.2 (Q T.aE) (by show _<Q (T.g7++[_]);simp[q.ok.fX]);rw[this];show z (T.g7++[_]) _ 0=_;rw[zx,ab (by rw[q.ok.fX];omega),q.ok.fX,oT];rfl
 let m:((T.bY.bY.dS B<|Q T.aC).w4 (Q T.aC) (Q T.aC+1)<|ko M).aE.length=Q T.aE+1:=by show Q (T.aE++[_])=_;simp
 let n:((T.bY.bY.dS B<|Q T.aC).w4 (Q T.aC) (Q T.aC+1)<|ko M).aC.length=Q T.aC+2:=i;rw[m,n];refine⟨_,λd v=>?_,(ng.dd (w:=w) (fX:=fX) q.B k j).congr (λ_ _=>na) ?_ ?_ ?_ ?_⟩;show lZ (T.bY.bY.dS B (Q T.aC)) d v↔_;grind[CW,HJ];intro b;rw[ea,q.gs];intro b;rw[ea,q.gs];intro g b;constructor;rintro⟨x,y,h_⟩;have:g=Q T.aE:=o;subst this;let l1:b∈z (c.cp++[[]]) (Q T.aE) []:=h_;rw[zx,ab (by rw[q.k_];omega),q.k_,oT] at l1;trivial;simp;simp
def alx{c T d:bs}{B r:Z}{g l i:bd}{K e:b1}(u:oi c g B)(q:jy c T B (Q c.aC) g l K)(A:jy T d B r l i e):jy c (d.dS r (Q c.aC)) B (Q c.aC) g i ⟨ey K.first e.first,ey K.last e.last,K.empty||e.empty,ad⟩:=by
 let v:=A.Gs;let P:=q.Gs;let O:=A.ext.aC;let R:=q.OP;let S:=A.OP;refine⟨BK A.ok v o,(q.ext.trans A.ext).trans A_,A.gs,A.k_,?_,?_,A.inc,x8 _ _ q.x9 A.x9,x8 _ _ q.Bp A.Bp,?_⟩;let⟨x,G,H⟩:=q.z6;let⟨y,J,L⟩:=A.z6;exact⟨x++y,ap,by show d.aE=_;simp_all⟩;intro b n;rw[A.wC b (by rw[q.k_];rw[u.k_] at n;omega),q.wC b n];intro w fX m;let⟨C,M,s⟩:=q.B w fX<|m.mono<|A.ext.trans A_;let⟨D,N,t⟩:=A.B w fX m;rw[sk];refine⟨_,λE F=>?_,(s.u9 t).congr (λ_ _=>na) (λj=>pV _ _ _) (λj=>pV _ _ _) ?_ ?_⟩;grind[CW];intro b j;show Q c.aE<=b/\b<Q d.aE/\j∈z i.cp b []↔_;constructor;rintro⟨f,k,h_⟩;rcases fF b _ with I|I;rw[A.wC b (by rw[q.k_];exact I)] at h_;simp_all;simp_all;rintro(⟨f,k,h_⟩|⟨f,k,h_⟩);exists f,o;rw[A.wC b aY];exact h_
 (simp_all;omega)
 simp
mutual
def La:∀b:aO,Aw (hh b) (dY b)|.mk A M i d f=>by intro T B l q;rw[hh,dY];split;exact QQ q _;rename_i c;split;exact av8 q;rename_i g;split;rename_i j;refine X4 f q (bl ⟨p,p,p,p,p,p⟩)|>.2 ?_;rintro rfl;rw[dG,ab g,ab o] at c;exact c p;rename_i j;split;have:=QQ q ad;rw[ab av] at this;exact X5 f q this;rename_i m;split;rename_i k;rw[dG,ab g,ae k] at c;refine amb f i d q (λb=>c (by rw[b,e0,As];rfl)) ?_;rcases yL (d=-1) with b|b;exact bl b;rw[ab b] at c;refine bp ?_;rcases Int.lt_or_le 0 d with e|e;exact e;exact b9 (by rw[Int.toNat_of_nonpos e,Nat.mul_zero];rfl) c;have:=QQ q af;rw[ae p] at this;exact this
def X4:∀(b:X aO){f:bs}{B:Z}{e:bd}(g:oi f e B){T:bs}{d:Z}{c:bd}{K:b1},Acc f T B d e c K->Acc f (ms b T d).1 B (ms b T d).2 e (pG b c K).1 (pG b c K).2/\(b≠[]->jy f (ms b T d).1 B (ms b T d).2 e (pG b c K).1 (pG b c K).2)|[],_,_,_,_,_,_,_,_,q=>⟨q,λc=>b9 p c⟩|l::b,f,B,e,g,T,d,c,K,q=>by have i:=q.join g<|La l T d c<|q.pre g;have j:=X4 b g<|bp i;rw[ms,pG];refine⟨j.1,λ_=>?_⟩;by_cases k:b=[];subst k;exact i;exact j.2 k
def X5:∀(d:X aO){b:bs}{B:Z}{e:bd}(f:oi b e B){T:bs}{c:bd}{K:b1},jy b T B (Q b.aC) e c K->jy b (mT d T B (Q b.aC)) B (Q b.aC) e (q4 d c K).1 (q4 d c K).2|[],_,_,_,_,_,_,_,q=>q|g::d,b,B,e,f,T,c,K,q=>by rw[mT,q4];exact X5 d f<|alx f q<|La g T B c ⟨q.ok,kv f.B q.ext.aC,q.gs,q.k_,q.inc⟩
def amb:∀(c:X aO)(d b:J){T:bs}{B:Z}{e:bd},oi T e B->c≠[]->b=-1\/0<b->jy T (zc c d b T B).1 B (zc c d b T B).2 e (xE c d b e).1 (xE c d b e).2|[],_,_,_,_,_,_,q,_=>b9 p q|f::c,d,b,T,B,e,q,_,g=>by rw[zc,xE];exact axA (La f) q g
end
structure jx(s:bd):Prop where
 len:Q s.cp=Q s.aE
 j:Q s.aE<=2000
 cp:pF s.cp
structure fB(M:b1)(T:Z):Prop where
 ok:KU M
 f:∀H∈M.first,H<T
 l:∀H∈M.last,H<T
def fB.mono{M:b1}{T e:Z}(q:fB M T)(d:T<=e):fB M e:=⟨q.ok,λc b=>kv (q.f c b) d,λc b=>kv (q.l c b) d⟩
theorem fB.nil T(b c:Y):fB ⟨[],[],b,c⟩ T:=⟨⟨fT.nil,fT.nil⟩,λ_ q=>b9 q ka,λ_ q=>b9 q ka⟩
def fB.mD{M:b1}{T:Z}(q:fB M T):fB M.mD T:=⟨q.ok,q.f,q.l⟩
theorem JN{c d:X Z}{T:Z}(e:∀b∈c,b<T)(f:∀b∈d,b<T):∀b∈ey c d,b<T:=λb g=>((pV _ _ _).1 g).elim (e b)<|f b
theorem fB.join{e b:b1}{T:Z}(c:fB e T)(d:fB b T):fB (rk e b) T:=by unfold rk;refine⟨⟨?_,?_⟩,?_,?_⟩;split;exact c.ok.1.un d.ok.1;exact c.ok.1;show fT (if b.empty then ey _ _ else b.last);split;exact c.ok.2.un d.ok.2;exact d.ok.2;split;exact JN c.f d.f;exact c.f;show∀g∈(if b.empty then ey _ _ else b.last),g<T;split;exact JN c.l d.l;exact d.l
def jx.zJ{b:bd}(c:jx b){B d:X Z}(e:fT d):jx ⟨b.aE,lc b.cp B d⟩:=⟨bC (ac7 B _) c.len,c.j,pF.link e B c.cp⟩
theorem jx.join{c:bd}(f:jx c)d{b:b1}{T:Z}(e:fB b T):jx (qx c d b):=f.zJ e.ok.1
def tB(d:bd->bd×b1)(c:Z):Prop:=∀b,jx b->Q b.aE+c<=2000->jx (d b).1/\(d b).1.aE.length=Q b.aE+c/\fB (d b).2 (Q b.aE+c)
def If{d:bd->bd×b1}{c:Z}(i:tB d c):∀A{b:bd}{K:b1},jx b->Q b.aE+A*c<=2000->fB K (Q b.aE)->jx (la d A b K).1/\(la d A b K).1.aE.length=Q b.aE+A*c/\fB (la d A b K).2 (Q b.aE+A*c)|0,b,K,e,_,f=>⟨e,by rw[As];rfl,by rw[As];exact f⟩|A+1,b,K,e,m,f=>by rw[iG,vZ] at m⊢;let⟨k,l,g⟩:=i b e o;let j:(qx _ K (d b).2).aE.length=Q b.aE+c:=l;let n:=If i A (k.join K g) o (by rw[j];exact(f.mono o).join g);grind[la]
theorem afl{d:bd->bd×b1}{c:Z}(i:tB d c):∀A{b:bd}{K:b1},jx b->Q b.aE+A*c<=2000->fB K (Q b.aE)->jx (p2 d A b K).1/\(p2 d A b K).1.aE.length=Q b.aE+A*c/\fB (p2 d A b K).2 (Q b.aE+A*c)|0,b,K,e,_,f=>⟨e,by rw[As];rfl,by rw[As];exact f⟩|A+1,b,K,e,m,f=>by rw[iG,vZ] at m⊢;let⟨k,l,g⟩:=i b e o;let j:(qx _ K (d b).2.mD).aE.length=Q b.aE+c:=l;let n:=afl i A (k.join K g.mD) o (by rw[j];exact(f.mono o).join g.mD);grind[p2]
def axx{e:bd->bd×b1}{f:Z}(l:tB e f){b c:J}{d:bd}(w:0<=b)(x:c=-1\/b<=c)(n:jx d)(i:Q d.aE+f*(if c=-1 then aB (b+1) else aB c)<=2000):jx (qH e b c d).1/\(qH e b c d).1.aE.length=Q d.aE+f*(if c=-1 then aB (b+1) else aB c)/\fB (qH e b c d).2 (Q d.aE+f*(if c=-1 then aB (b+1) else aB c)):=by unfold qH;by_cases g:c=-1;rw[ae g] at i⊢;rw[ae g];have j:aB (b+1)=aB b+1:=o;rw[j,Ap,Aq,lV] at i⊢;have m:=If l (aB b) (K:=⟨[],[],af,ad⟩) n o<|fB.nil _ _ _;generalize la e _ d _=q at m⊢;let⟨r,u,s⟩:=m;let⟨t,v,k⟩:=l q.1 r o;refine⟨(t.zJ k.ok.1).join _ k.mD,?_,?_⟩;show(e q.1).1.aE.length=_;omega;exact(s.mono o).join (k.mono o).mD;rw[ab g] at i⊢;rw[ab g];have j:aB c=aB b+aB (c-b):=o;rw[j,Ap,lV,lV f] at i⊢;have:=If l (aB b) (K:=⟨[],[],af,ad⟩) n o<|fB.nil _ _ _;grind[afl]
def Xj:∀{c:X aO}{b:bd}{K:b1},(∀d∈c,tB (dY d) (dG d))->jx b->Q b.aE+e0 c<=2000->fB K (Q b.aE)->jx (pG c b K).1/\(pG c b K).1.aE.length=Q b.aE+e0 c/\fB (pG c b K).2 (Q b.aE+e0 c)|[],b,K,_,g,_,i=>cc|d::c,b,K,f,g,m,i=>by rw[e0] at m⊢;let⟨k,l,e⟩:=f d (kO ..) b g o;let j:(qx _ K (dY d b).2).aE.length=Q b.aE+dG d:=l;let r:=Xj (λq n=>f q<|ku _ n) (k.join K e) o (by rw[j];exact(i.mono o).join e);grind[pG]
def fB.u9{d e:b1}{T:Z}(b:fB d T)(c:fB e T)(g i:Y):fB ⟨ey d.first e.first,ey d.last e.last,g,i⟩ T:=⟨⟨b.ok.1.un c.ok.1,b.ok.2.un c.ok.2⟩,JN b.f c.f,JN b.l c.l⟩
def Xo:∀{c:X aO}{b:bd}{K:b1},(∀d∈c,tB (dY d) (dG d))->jx b->Q b.aE+e0 c<=2000->fB K (Q b.aE)->jx (q4 c b K).1/\(q4 c b K).1.aE.length=Q b.aE+e0 c/\fB (q4 c b K).2 (Q b.aE+e0 c)|[],b,K,_,f,_,g=>cc|d::c,b,K,e,f,l,g=>by rw[e0] at l⊢;let⟨i,j,k⟩:=e d (kO ..) b f o;let q:=Xo (K:=⟨ey _ _,ey _ _,K.empty||(dY d b).2.empty,ad⟩) (λn m=>e n<|ku _ m) i o (by rw[j];exact(g.mono o).u9 k _ _);grind[q4]
def CD:∀b,e_ b->tB (dY b) (dG b):=aO.ind λb B he m i f=>by
 let⟨⟨⟨F,J⟩,C,D,K,L,N,O,P,G,H,I⟩,w⟩:=p0.1 he;let⟨A,M,g,e,d⟩:=b;dsimp[aO.bL,aO.aD,aO.min,aO.max,aO.set] at F J C D K L N O P G H I w B;have c:dG (.mk A M g e d)=if A=3 then 1 else if A=6 then nL (e0 d*(if e=-1 then aB (g+1) else aB e)) 2001 else nL (e0 d) 2001:=wm<|.mk A M g e d
 rw[dY];by_cases l:dG (.mk A M g e d)=0;rw[ae l,l];exact⟨i,p,fB.nil _ _ _⟩;rw[ab l];have q:∀k,dG (.mk A M g e d)=nL k 2001->k=dG (.mk A M g e d):=λk U=>by grind
 have r:∀b∈d,tB (dY b) (dG b):=λb v=>B b v<|w b v;by_cases s:A=3;rw[ae s] at c⊢;rw[c] at f⊢;have x:Q m.aE<2000:=o;refine⟨⟨by rw[cX,cX,i.len];rfl,a2,λj=>?_⟩,av,⟨⟨fT.one x,fT.one x⟩,λj y=>?_,λj y=>?_⟩⟩;show fT (z (m.cp++[[]]) j []);rw[dm,oQ];split;rw[<-dm];exact i.cp j;cases j-Q m.cp;exact fT.nil
 next X=>exact fT.nil
 rw[ea.1 y];omega;grind;rw[ab s] at c⊢;by_cases t:A=4;rw[ae t,ab o] at*;have:=q _ c;rw[<-this] at f⊢;exact Xj r i f<|fB.nil _ _ _;rw[ab t];by_cases u:A=5;rw[ae u];rw[ab o] at c;have:=q _ c;rw[<-this] at f⊢;exact Xo r i f<|fB.nil _ _ _;rw[ab u];by_cases n:A=6;rw[ae n] at c⊢;let⟨R,S,Y,T⟩:=D n;obtain⟨k,rfl⟩:=GK.1 R;have:=q _ c;rw[e0,e0,uM] at this;rw[<-this] at f⊢;rw[xE];exact axx (r k<|ea.2 p) S (T.imp id (·.1)) i f;rw[ab n] at c⊢;have E:=C o;subst E;exfalso;rw[e0] at c;exact l<|bC c aR
def WT(d:aO):Prop:=e_ d->∀b:bd,jx b->Q b.aE+dG d<=2000->∀T e:Z,T=Q b.aE->e=(dY d b).1.aE.length->dF 234 [c 6000,c0 d] [(6000,ag 314<|qs T),(5000,.h 1 161<|aa k7 b.aE),(5001,.h 1 64<|aa b6 b.cp)]
 (wz (dY d b).2) [(6000,ag 314<|qs e),(5000,.h 1 161<|(dY d b).1.aE.map k7),(5001,.h 1 64<|(dY d b).1.cp.map b6)]
def apo b:G1 1 (aa b6 b++[.ba]) (aa b6 (b++[[]])):=by refine⟨av,λe f g c d=>?_⟩;grind[List.getElem?_append_right,b6,Option.some.inj]
def Qj b c:dY b c=if dG b=0 then(c,⟨[],[],o5 b,ad⟩) else if b.bL=3 then(⟨c.aE++[b.set],c.cp++[[]]⟩,⟨[Q c.aE],[Q c.aE],ad,ad⟩) else if b.bL=4 then pG b.aD c ⟨[],[],af,ad⟩ else if b.bL=5 then q4 b.aD c ⟨[],[],ad,ad⟩ else if b.bL=6 then xE b.aD b.min b.max c else(c,⟨[],[],af,ad⟩):=by cases b;rfl
def aBu{b:aO}(c:e_ b)(q:b.bL<3):dG b=0:=by rw[wm,ot,ab o,ab o,(p0.1 c).1.2.1 o,e0];rfl
theorem Ls{b:aO}(c:b.bL≠3)(d:b.bL≠6):dG b<=2000->e0 b.aD=dG b:=by have:=wm b;rw[ot,ab c,ab d] at this<;>grind
def YQ{b:aO}(c:b.bL=6):dG b<=2000->e0 b.aD*(if b.max=-1 then aB (b.min+1) else aB b.max)=dG b:=by have:=wm b;rw[ot,ab o,ae c] at this<;>grind
def alg{d:aO}(bn:∀aN∈d.aD,e_ aN->WT aN)(aR:e_ d){i:bd}(aJ:jx i)(bW:Q i.aE+dG d<=2000){T ak:Z}(aK:T=Q i.aE)(ay:ak=(dY d i).1.aE.length):dF 234 [c 6000,c0 d] [(6000,ag 314 (qs T)),(5000,.h 1 161 (aa k7 i.aE)),(5001,.h 1 64 (aa b6 i.cp))] (wz (dY d i).2) [(6000,ag 314 (qs ak)),(5000,.h 1 161 ((dY d i).1.aE.map k7)),(5001,.h 1 64 ((dY d i).1.cp.map b6))]:=by
 refine dN func234 [2020,2027,2034] λcr m bt=>?_;have bs:=bt.uf;have a7:=bt.a7;have bT:=CD d aR i aJ bW;have n:=Qj d i;obtain⟨⟨⟨cd,ce⟩,cg,b2,ch,ci⟩,bk⟩:=p0.1 aR;have ca:=aJ.len;have be:dG d<=2000:=o;generalize dY d i=aN at bT n ay⊢;refine ly.mk nofun λ_=>?_;refine aS ?_ (f:=Vh d aR);apply e<;>intro b5
 .rw[ae o] at n;subst n;obtain rfl:T=ak:=bC aK<|bG ay;refine aS ?_ (f:=aw7 d aR);exact hQ 1 4 [0,1] (jd bq)
 rw[ab o] at n;apply e<;>intro b7
 .simp_all
 apply e<;>intro b8
 .simp_all
 apply e<;>intro bx
 .rw[ae bx] at n;subst n;rw[cX] at ay;have b_:dG d=1:=by rw[wm,ot,ae bx]
  subst aK;have bM:V.agg [.aq 5000 0 (Q (aa k7 (i.aE++[d.set]))),.aq 5001 0 (Q (aa b6 i.cp++[V.ba])),a6 ad]=qs ak:=by rw[qs,show Q (aa k7 (i.aE++[d.set]))=ak by simp_all,show Q (aa b6 i.cp++[V.ba])=ak by simp_all]
  apply e<;>intro b9
  .omega
  refine eS ?_;refine br (λ_=>lf p) ?_;refine lS 56 (aa k7<|i.aE++[d.set]) ?_ (aW:=tw) (hlen:=av) (bQ:=aY) (mX:=a3) (vq:=a3);refine fx ?_;refine kU [(56,5000)] ?_;refine er ?_;refine e7 (aa b6 i.cp++[.ba]) ?_ (hlen:=ap) (bQ:=aY);refine er ?_;refine er ?_;exact apu 1 5001 (aa b6<|i.cp++[[]]) (apo i.cp)<|jd bq (kC:=⟨ep W<|ep (cj.cell 314) bM,p,p,c1⟩)
 apply e<;>intro bA
 .rw[ab o,ae bA] at n;have bg:=Ls o o be;refine aZ.lF 1 6 [0,1] ?_;refine dM ?_;refine dv (Z×bd×b1×Z) (λb=>⟨[(0,c 6000),(3,c 3),(4,c 4),(6,c 6),(7,k b.1)],[(3,ag 164<|c0 d),(4,ag 316<|V.zero Ia.z),(6,ag 316<|wz b.2.2.1),(5000,.h 1 161<|b.2.1.aE.map k7),(5001,.h 1 64<|b.2.1.cp.map b6),(6000,ag 314<|qs b.2.2.2)],[]⟩) (λb=>b.1<=Q d.aD/\jx b.2.1/\b.2.1.aE.length+e0 (aU b.1 d.aD)<=2000/\fB b.2.2.1 b.2.1.aE.length/\aN=pG (aU b.1 d.aD) b.2.1 b.2.2.1/\b.2.2.2=b.2.1.aE.length) (λb=>Q d.aD-b.1) (0,i,⟨[],[],af,ad⟩,T) (λb aH=>?_) ⟨dO _,aJ,a2,fB.nil _ _ _,n,aK⟩;obtain⟨q,g,u,U⟩:=b;obtain⟨aM,G,R,y,r,S⟩:=aH;dsimp only at aM G R y r S⊢;apply e<;>intro bB
  .have C:q<Q d.aD:=by rw[iS] at bB;omega
   have bh:=ww C;rw[bh] at R r;rw[e0] at R;rw[pG] at r;have P:=bk _<|cT (I:=ai) C;have L:=CD (z d.aD q ai) P g G o;obtain⟨s,w⟩:∃s,s=(dY (z d.aD q ai) g).1.aE.length:=⟨_,p⟩;have N:=bn _ (cT C) P P g G o U s S w;generalize dY (z d.aD q ai) g=au at r L w N;obtain⟨t,v⟩:=au;dsimp only at r L w N;obtain⟨D,aF,M⟩:=L;have az:fB v (Q t.aE):=by rw[aF];exact M
   refine aZ.A4 [8,0] e1 bq bs gw a7 p a3 ?_;refine br (λ_=>bi q (c0<|z d.aD q ai) p (j:=l5 C)) ?_;refine Ah [(6000,6000),(5000,5000),(5001,5001)] [] ?_ (f:=N);refine Ah [(6000,6000),(5000,5000),(5001,5001)] [] ?_ (f:=MM (aa k7 t.aE) t.cp u v s (bC w<|bG D.len) (λar ao=>by have:=y.l ar ao;rw[D.len];omega) (by rw[D.len]<;>omega) D.cp y.ok M.ok);refine fx ?_;refine fZ ?_;refine bc ?_;exact a0 (q+1,qx t u v,rk u v,s) ⟨C,D.join u M,by show Q t.aE+e0 (aU (q+1) d.aD)<=2000;omega,(y.mono (show Q g.aE<=Q t.aE by omega)).join az,r,w⟩ o
  rw[iS] at bB;rw[kM o,pG] at r;subst r;obtain rfl:U=ak:=bC S<|bG ay;exact jd bq
 rw[ab o,ab bA] at n;apply e<;>intro bD
 .rw[ae bD] at n;have bg:=Ls o o be;refine aZ.lF 1 8 [0,1] ?_;refine dM ?_;refine dv (Z×bd×b1×Z) (λb=>⟨[(0,c 6000),(3,c 3),(4,c 4),(8,c 8),(9,k b.1)],[(3,ag 164<|c0 d),(4,ag 316<|V.zero Ia.z),(8,ag 316<|wz b.2.2.1),(5000,.h 1 161<|b.2.1.aE.map k7),(5001,.h 1 64<|b.2.1.cp.map b6),(6000,ag 314<|qs b.2.2.2)],[]⟩) (λb=>b.1<=Q d.aD/\jx b.2.1/\b.2.1.aE.length+e0 (aU b.1 d.aD)<=2000/\fB b.2.2.1 b.2.1.aE.length/\aN=q4 (aU b.1 d.aD) b.2.1 b.2.2.1/\b.2.2.2=b.2.1.aE.length) (λb=>Q d.aD-b.1) (0,i,⟨[],[],ad,ad⟩,T) (λb aH=>?_) ⟨dO _,aJ,a2,fB.nil _ _ _,n,aK⟩;obtain⟨q,g,u,U⟩:=b;obtain⟨aM,G,R,y,r,S⟩:=aH;dsimp only at aM G R y r S⊢;apply e<;>intro bu
  .have C:q<Q d.aD:=by rw[iS] at bu;omega
   have bh:=ww C;rw[bh] at R r;rw[e0] at R;rw[q4] at r;have P:=bk _<|cT (I:=ai) C;have L:=CD (z d.aD q ai) P g G o;obtain⟨s,w⟩:∃s,s=(dY (z d.aD q ai) g).1.aE.length:=⟨_,p⟩;have N:=bn _ (cT C) P P g G o U s S w;generalize dY (z d.aD q ai) g=au at r L w N;obtain⟨t,v⟩:=au;dsimp only at r L w N;obtain⟨D,aF,M⟩:=L;have az:fB v (Q t.aE):=by rw[aF];exact M
   have co:=y.ok.1.len;have cq:=y.ok.2.len;have sC:=M.ok.1.len;have tp:=M.ok.2.len;refine bi q (c0<|z d.aD q ai) ?_ (j:=l5 C);refine bI [(6000,6000),(5000,5000),(5001,5001)] ?_ (f:=N);refine eS ?_;refine br (λ_=>cf p (f:=Gy u.first v.first o o)) ?_;refine br (λ_=>cf p (f:=Gy u.last v.last o o)) ?_;refine Ol (λbN=>?_) λbN=>?_
   .refine fx ?_;refine fZ ?_;refine bc ?_;exact a0 (q+1,t,⟨ey u.first v.first,ey u.last v.last,af,ad⟩,s) ⟨C,D,a2,(y.mono<|show Q g.aE<=Q t.aE by omega).u9 az _ _,ap,w⟩ o
   refine fx ?_;refine fZ ?_;refine bc ?_;exact a0 (q+1,t,⟨ey u.first v.first,ey u.last v.last,v.empty,ad⟩,s) ⟨C,D,a2,(y.mono<|show Q g.aE<=Q t.aE by omega).u9 az _ _,ap,w⟩ o
  rw[iS] at bu;rw[kM o,q4] at r;subst r;obtain rfl:U=ak:=bC S<|bG ay;exact jd bq
 rw[ab bD] at n;have a5:d.bL=6:=o;rw[ae a5] at n;obtain⟨b4,ck,cl,cn⟩:=b2 a5;have aV:=Fp b4;have aI:0<Q d.aD:=o;have P:=bk _<|cT (I:=ai) aI;have bS:=bn _ (cT (I:=ai) aI) P P;have bE:=YQ a5 be;have bX:xE d.aD d.min d.max i=qH (dY (z d.aD 0 ai)) d.min d.max i:=by generalize z d.aD 0 ai=b3 at aV⊢;rw[aV];rfl
 have bg:e0 d.aD=dG (z d.aD 0 ai):=by generalize z d.aD 0 ai=b3 at aV⊢;rw[aV,e0,e0];rfl
 rw[bg] at bE;rw[bX] at n;have aP:=CD (z d.aD 0 ai) P;have bP:∃x al,x=dY (z d.aD 0 ai)/\al=dG (z d.aD 0 ai):=⟨_,_,p,p⟩;obtain⟨x,al,bj,bf⟩:=bP;rw[<-bj,<-bf] at aP;rw[<-bj] at n;rw[<-bf] at bE;have bm:∀g:bd,jx g->Q g.aE+al<=2000->∀U s:Z,U=Q g.aE->s=(x g).1.aE.length->dF 234 [c 6000,c0 (z d.aD 0 ai)] [(6000,ag 314 (qs U)),(5000,.h 1 161 (aa k7 g.aE)),(5001,.h 1 64 (aa b6 g.cp))] (wz (x g).2) [(6000,ag 314 (qs s)),(5000,.h 1 161 ((x g).1.aE.map k7)),(5001,.h 1 64 ((x g).1.cp.map b6))]:=by rw[bj,bf];exact bS
 have a9:∀A:Z,A<=(if d.max=-1 then aB (d.min+1) else aB d.max)->Q i.aE+A*al<=2000:=λA bU=>by have:=GP al bU;grind
 refine aZ.lF 1 11 [0,1] ?_;refine dM ?_;refine dv (Z×bd×b1×Z) (λb=>⟨[(0,c 6000),(3,c 3),(4,c 4),(11,c 11),(12,k b.1)],[(3,ag 164<|c0 d),(4,ag 316<|V.zero Ia.z),(11,ag 316<|wz b.2.2.1),(5000,.h 1 161<|b.2.1.aE.map k7),(5001,.h 1 64<|b.2.1.cp.map b6),(6000,ag 314<|qs b.2.2.2)],[]⟩) (λb=>b.1<=aB d.min/\jx b.2.1/\b.2.1.aE.length=Q i.aE+b.1*al/\fB b.2.2.1 b.2.1.aE.length/\la x (aB d.min) i ⟨[],[],af,ad⟩=la x (aB d.min-b.1) b.2.1 b.2.2.1/\b.2.2.2=b.2.1.aE.length) (λb=>aB d.min-b.1) (0,i,⟨[],[],af,ad⟩,T) (λb aH=>?_) ⟨dO _,aJ,av,fB.nil _ _ _,p,aK⟩;obtain⟨q,g,u,U⟩:=b;obtain⟨aM,G,R,y,r,S⟩:=aH;dsimp only at aM G R y r S⊢;refine fk ?_;apply e<;>intro bv
 .have C:q<aB d.min:=by simp[gL] at bv;omega
  have aG:=a9 (q+1) (by split<;>omega);rw[qV] at aG;rw[show aB d.min-q=aB d.min-(q+1)+1 by omega,la] at r;have L:=aP g G o;obtain⟨s,w⟩:∃s,s=(x g).1.aE.length:=⟨_,p⟩;have N:=bm g G o U s S w;generalize x g=au at r L w N;obtain⟨t,v⟩:=au;dsimp only at r L w N;obtain⟨D,aF,M⟩:=L;have az:fB v (Q t.aE):=by rw[aF];exact M
  refine aZ.A4 [7,0] e1 bq bs gw a7 p a3 ?_;refine br (λ_=>bi 0 (c0<|z d.aD 0 ai) p (a7:=a3) (j:=l5 aI)) ?_;refine Ah [(6000,6000),(5000,5000),(5001,5001)] [] ?_ (f:=N);refine Ah [(6000,6000),(5000,5000),(5001,5001)] [] ?_ (f:=MM (aa k7 t.aE) t.cp u v s (bC w<|bG D.len) (λar ao=>by have:=y.l ar ao;rw[D.len];omega) (by rw[D.len]<;>omega) D.cp y.ok M.ok);refine fx ?_;refine fZ ?_;refine bc ?_;exact a0 (q+1,qx t u v,rk u v,s) ⟨C,D.join u M,by show Q t.aE=Q i.aE+(q+1)*al;grind,(y.mono<|show Q g.aE<=Q t.aE by omega).join az,r,w⟩ o
 have bF:q=aB d.min:=by simp[gL] at bv;omega
 rw[bF,oT,la] at r;rw[qH,r] at n;dsimp only at n;rw[bF] at R;refine dv (J×bd×b1×Z) (λb=>⟨[(0,c 6000),(3,c 3),(4,c 4),(11,c 11),(13,an aj b.1)],[(3,ag 164<|c0 d),(4,ag 316<|V.zero Ia.z),(11,ag 316<|wz b.2.2.1),(5000,.h 1 161<|b.2.1.aE.map k7),(5001,.h 1 64<|b.2.1.cp.map b6),(6000,ag 314<|qs b.2.2.2)],[]⟩) (λb=>(d.min<=b.1/\(b.1<=d.max\/b.1=d.min))/\jx b.2.1/\b.2.1.aE.length=Q i.aE+aB b.1*al/\fB b.2.2.1 b.2.1.aE.length/\p2 x (aB<|d.max-d.min) g u=p2 x (aB<|d.max-b.1) b.2.1 b.2.2.1/\b.2.2.2=b.2.1.aE.length) (λb=>aB<|d.max-b.1) (d.min,g,u,U) (λb aH=>?_) ⟨⟨uK _,bp p⟩,G,R,y,p,S⟩;obtain⟨qv,X,aC,bo⟩:=b;obtain⟨⟨bZ,bY⟩,aL,b0,aA,Y,a4⟩:=aH;dsimp only at bY bZ aL b0 aA Y a4⊢;refine fk ?_;apply e<;>intro bw
 .have C:qv<d.max:=by simp[gL] at bw;omega
  have aG:=a9 (aB qv+1) (by rw[ab o];omega);rw[qV] at aG;rw[show aB (d.max-qv)=aB (d.max-(qv+1))+1 by omega,p2] at Y;have aw:=aP X aL o;obtain⟨H,F⟩:∃H,H=(x X).1.aE.length:=⟨_,p⟩;have ax:=bm X aL o bo H a4 F;generalize x X=au at Y aw F ax;obtain⟨E,K⟩:=au;dsimp only at Y aw F ax;obtain⟨O,a8,am⟩:=aw;have a_:fB K (Q E.aE):=by rw[a8];exact am
  refine bi 0 (c0<|z d.aD 0 ai) ?_ (a7:=a3) (j:=l5 aI);refine bI [(6000,6000),(5000,5000),(5001,5001)] ?_ (f:=ax);refine bI [(6000,6000),(5000,5000),(5001,5001)] ?_ (f:=MM (aa k7 E.aE) E.cp aC K.mD H (bC F<|bG O.len) (λar ao=>by have:=aA.l ar ao;rw[O.len];omega) (by rw[O.len]<;>omega) O.cp aA.ok am.mD.ok);refine bc ?_;exact a0 (qv+1,qx E aC K.mD,rk aC K.mD,H) ⟨⟨o,bl<|show qv+1<=d.max by omega⟩,O.join aC am.mD,by show Q E.aE=Q i.aE+aB (qv+1)*al;rw[show aB (qv+1)=aB qv+1 by omega,qV];omega,(aA.mono (show Q X.aE<=Q E.aE by omega)).join a_.mD,Y,F⟩ o
 have cc:d.max<=qv:=by simp[gL] at bw;omega
 rw[show aB (d.max-qv)=0 by omega,p2] at Y;apply e<;>intro bb
 .rw[ae bb] at n;have cb:qv=d.min:=o;rw[show aB (d.max-d.min)=0 by omega,p2] at Y;have bJ:g=X:=ep Prod.fst Y;have bK:u=aC:=ep Prod.snd Y;rw[bJ,bK] at n;have aG:=a9 (aB qv+1) (by rw[ae bb];omega);rw[qV] at aG;have aw:=aP X aL o;obtain⟨H,F⟩:∃H,H=(x X).1.aE.length:=⟨_,p⟩;have ax:=bm X aL o bo H a4 F;generalize x X=au at n aw F ax;obtain⟨E,K⟩:=au;dsimp only at n aw F ax;obtain⟨O,a8,am⟩:=aw;have a_:fB K (Q E.aE):=by rw[a8];exact am
  have aQ:=O.zJ (B:=K.last) am.ok.1;subst n;obtain rfl:H=ak:=bC F<|bG ay;refine bi 0 (c0<|z d.aD 0 ai) ?_ (a7:=a3) (j:=l5 aI);refine bI [(6000,6000),(5000,5000),(5001,5001)] ?_ (f:=ax);refine bI [(6000,6000),(5000,5000),(5001,5001)] ?_ (f:=ac9 (OX:=(aa k7 E.aE)) (cp:=E.cp) (B:=K.last) (hU:=K.first) (T:=H) (bC F<|bG O.len) (λar ao=>by rw[O.len];exact a_.l ar ao) (by rw[O.len]<;>omega) O.cp am.ok.1 am.ok.2);refine bI [(6000,6000),(5000,5000),(5001,5001)] ?_ (f:=MM (aa k7 E.aE) (lc E.cp K.last K.first) aC K.mD H (bC F<|bG aQ.len) (λar ao=>by have:=aA.l ar ao;rw[aQ.len]<;>grind) (by rw[aQ.len]<;>grind) aQ.cp aA.ok am.mD.ok);exact jd bq
 rw[ab bb] at n;rw[Y] at n;subst n;obtain rfl:bo=ak:=bC a4<|bG ay;exact jd bq
def ald:∀b,e_ b->WT b:=aO.ind λb g he=>λ_ i e f T j c d=>alg g he e f c d
def jN(M:X (J×J))(b:J):Y:=M.any λc=>aL (c.1<=b)&&aL (b<=c.2)
theorem ZB{c:X (J×J)}{b:Z}:b<Q c->aU b c=z c b ai::aU (b+1) c:=by simp_all
def arp M c(cq:Q M<=1000000):bb 235 [.a 2 (aa hP M),an aj c] (a6 (jN M c)):=by
 refine bx func235 [] λm i=>?_;refine i0 (Q M) (λb=>jN M c=jN (aU b M) c) (λb=>⟨[(0,_),(1,_),(5,k b)],[],[]⟩) (λb j=>?_) p .r;apply e<;>intro l
 .let d:b<Q M:=o;refine bi b (hP<|z M b ai) ?_ (j:=gD d);apply c9;refineλn=>gx b (hP<|z M b ai) ?_ (j:=gD d);exact p;apply e<;>intro f
  .let g:(aL ((z M b ai).1<=c)&&aL (c<=(z M b ai).2)):=by simpa[gL] using f
   exact aA (q:=by rw[j.2,ZB d,jN,B7,g];rfl)
  refine bc ?_;exact a0 (b+1) ⟨o,by grind[ZB,jN]⟩ (cq:=.r)
 exact aA (q:=by rw[j.2,kM o];rfl)
section qu
structure eI where
 of:X Z
 mem:X (X Z)
 eF:X Z
def bK(q:eI)(b:Z):Z:=z q.of b 0
def j0(c:X Z)(d:X Z)(b:Z):X Z:=d.filter λM=>aL<|z c M 0=b
def eo(b:X Z)(c:X Z):X Z:=jp [] (c.map λM=>z b M 0)
def qN(b:X Z)(c:X Z)(d:Z):X Z:=c.foldl (λK M=>aK K M d) b
def ws(e:X Z)(d:X (X Z))(c b:Z):Z:=if b∉e/\Q (z d b [])<Q (z d c []) then b else c
def yC(q:eI)(b:Z)(c:X Z):eI:=if Q c=Q (z q.mem b []) then q
 else
  ⟨qN q.of c<|Q q.mem,aK (q.mem++[c]) b<|(z q.mem b []).filter λM=>!aL (z (qN q.of c<|Q q.mem) M 0=Q q.mem),q.eF++[ws q.eF (aK (q.mem++[c]) b<|(z q.mem b []).filter λM=>!aL (z (qN q.of c<|Q q.mem) M 0=Q q.mem)) (Q q.mem) b]⟩
def OV(d:X Z)(e:X Z)(q:eI)(c:X Z):eI:=c.foldl (λq b=>yC q b<|j0 d e b) q
def sy(q:eI)(b:X Z):eI:=OV q.of b q<|eo q.of b
theorem OH{b:Z}:∀part of,Q (qN of part b)=Q of|[],of=>p|M::part,of=>by show Q (qN _ part b)=_;rw[OH _];simp
def ahp{c:Z}:∀part of b,b<Q of->z (qN of part c) b 0=if b∈part then c else z of b 0|[],of,b,_=>a3|M::part,of,b,d=>by show z (qN _ part c) b 0=_;rw[ahp _ _ b ap];grind
structure lx(T:Z)(q:eI):Prop where
 len:Q q.of=T
 lt:∀U<T,bK q U<Q q.mem
 mem:∀R U,U∈z q.mem R []↔U<T/\bK q U=R/\R<Q q.mem
 jQ:∀R,eb (z q.mem R [])
 ne:∀R<Q q.mem,z q.mem R []≠[]
 sE:∀R∈q.eF,R<Q q.mem
 wn:eb q.eF
def Ax(T:Z)(f:X (X Z))(q:eI):Prop:=∀b c,b<T->c<T->(∀d∈f,b∈d↔c∈d)->(∀e∈q.eF,bK q b=e↔bK q c=e)->bK q b=bK q c
def xx(T:Z)(d q:eI):Prop:=∀b c,b<T->c<T->bK d b=bK d c->bK q b=bK q c
theorem xx.refl T q:xx T q q:=λ_ _ _ _ b=>b
theorem xx.trans{T:Z}{b c d:eI}(q:xx T b c)(A:xx T c d):xx T b d:=λg i e f j=>A g i e f<|q g i e f j
def qQ:∀{y R:X Z},eb y->(∀b∈y,b∈R)->Q y<=Q R|[],_,_,_=>dO _|b::y,R,e,f=>by let⟨c,d⟩:=xj.1 e;have:=qQ (R:=R.erase b) d λi g=>(Wt λj=>c ap).2<|f i<|ku _ g;grind
def azD{b c:X Z}(e:eb b)(g:∀d∈b,d∈c)(k:Q b≠Q c)(f:eb c):∃d∈c,d∉b:=by rcases Classical.em (∀d∈c,d∈b) with q|q;let i:=qQ e g;let j:=qQ f q;omega;simp_all
structure akI(T:Z)(q h0:eI)(R:Z)(part:X Z):Prop where
 ok:lx T h0
 ub:xx T h0 q
 CO:∀AK,Ax T AK q->Ax T AK h0
 sep:∀U C,U<T->C<T->bK h0 U=bK h0 C->bK q U=R->(U∈part↔C∈part)
 hj:Q h0.eF+Q q.mem=Q q.eF+Q h0.mem
 grow:Q q.mem<=Q h0.mem
 j6:∀QF≠R,QF<Q q.mem->∀U<T,(bK h0 U=QF↔bK q U=QF)
 val:∀U C,U<T->C<T->bK q U=bK q C->(bK q U=R->(U∈part↔C∈part))->bK h0 U=bK h0 C
def azg{T:Z}{q:eI}(k:lx T q){R:Z}{f:X Z}(L:R<Q q.mem)(v:∀b∈f,b<T/\bK q b=R)(G:eb f)(ak:f≠[]):akI T q (yC q R f) R f:=by
 have P:∀b∈f,b∈z q.mem R []:=λb c=>(k.mem R b).2 ⟨(v b c).1,(v b c).2,L⟩;unfold yC;split;have K:∀b<T,bK q b=R->b∈f:=by intro b c D;rcases Classical.em (b∈f) with g|g;exact g;have:=qQ (xj.2 ⟨g,G⟩) (R:=z q.mem R []) (λe i=>by rcases fR.1 i with rfl|i;exact(k.mem R _).2 ⟨c,D,L⟩;exact P e i);rw[kN] at this;omega
 refine⟨k,.refl T q,λS F=>F,λb e c i j D=>?_,p,bz _,λ_ _ _ _ _=>na,λb e _ _ j _=>j⟩;exact⟨λ_=>K e i<|j▸D,λ_=>K b c D⟩;rename_i Y;have N:∀b<T,z (qN q.of f (Q q.mem)) b 0=if b∈f then Q q.mem else bK q b:=λb c=>ahp f q.of b (by rw[k.len];exact c)
 generalize ao:qN q.of f (Q q.mem)=I at N;have ap:Q I=T:=by rw[<-ao,OH,k.len]
 generalize O:v3 (λM=>!aL (z I M 0=Q q.mem)) (z q.mem R [])=y;have:∀b,b∈y↔b<T/\bK q b=R/\b∉f:=by intro b;rw[<-O,mL,k.mem];constructor;simp_all;grind
 have B:∀d,z (aK (q.mem++[f]) R y) d []=if d=R then y else if d=Q q.mem then f else z q.mem d []:=by intro d;rw[dm,rO];by_cases j:R=d;subst j;rw[ae p,ae a2,ae p];rfl;grind
 have x:Q (aK (q.mem++[f]) R y)=Q q.mem+1:=av;generalize au:aK (q.mem++[f]) R y=s at B x;generalize al:ws q.eF s (Q q.mem) R=w;have H:w=R/\R∉q.eF\/w=Q q.mem:=by rw[<-al];unfold ws;split;rename_i g;exact bl ⟨p,g.1⟩;exact bp p
 have n:∀b<T,bK ⟨I,s,q.eF++[w]⟩ b=if b∈f then Q q.mem else bK q b:=N
 have u:=k.lt;refine⟨⟨ap,?_,?_,?_,?_,?_,?_⟩,?_,?_,?_,?_,?_,?_,?_⟩;intro b c;rw[n b c];show _<Q s;rw[x];split;omega;have:=u b c;omega;intro d b;show b∈z s d []↔b<T/\_/\d<Q s;rw[B,x];split;grind;rename_i j;split;grind;rw[k.mem];grind;intro d;show eb (z s d []);rw[B];split;rw[<-O];exact(k.jQ R).filter _;split;exact G;exact k.jQ d;intro d t;show z s d []≠[];rw[B];split;let⟨b,aw,ax⟩:=azD G P Y<|k.jQ R;grind;split;exact ak;apply k.ne d;have:d<Q s:=t;omega;intro d t;show d<Q s;rw[x];rcases eX.1 t with g|g;have:=k.sE d g;omega;rw[ea] at g;omega;show eb (q.eF++[w]);refine sI.2 ⟨k.wn,av,λb c e i=>?_⟩;rw[ea] at i;subst i;intro j;subst j;rcases H with⟨rfl,g⟩|rfl;exact g c;have:=k.sE _ c;omega;intro b e c i j;rw[n b c,n e i] at j;split at j<;>split at j;rename_i m l;rw[(v b m).2,(v e l).2];have:=u e i;omega;have:=u b c;omega;exact j;intro S F b e c i dI C;have ar:∀d∈q.eF,bK q b=d↔bK q e=d:=by
  intro d t;have:=k.sE d t;by_cases j:d=R;subst j;have am:w=Q q.mem:=by rcases H with⟨rfl,g⟩|g;exact b9 t g;exact g
  have E:=C d<|yQ _ t;have r:=C w<|yR _<|ea.2 p;rw[n b c,n e i] at E r;rw[am] at r;by_cases m:b∈f<;>by_cases l:e∈f;rw[(v b m).2,(v e l).2];rw[ae m,ab l] at r;have:=r.1 p;have:=u e i;omega;rw[ab m,ae l] at r;have:=r.2 p;have:=u b c;omega;rw[ab m,ab l] at E;exact E;have:=C d<|yQ _ t;grind
 have J:=F b e c i dI ar;rw[n b c,n e i];have r:=C w<|yR _<|ea.2 p;rw[n b c,n e i] at r;have:=u b c;have:=u e i;by_cases m:b∈f<;>by_cases l:e∈f;rw[ae m,ae l];grind;rw[ab m,ae l] at r;have:=(v e l).2;rcases H with⟨rfl,_⟩|rfl;have:=r.1<|bC J this;omega;have:=r.2 p;omega;rw[ab m,ab l];exact J;intro b e c i j _;rw[n b c,n e i] at j;have:=u b c;have:=u e i;split at j<;>split at j;rename_i m l;exact⟨λ_=>l,λ_=>m⟩;omega;omega;rename_i m l;exact⟨λg=>b9 g m,λg=>b9 g l⟩;show Q (q.eF++[w])+Q q.mem=Q q.eF+Q s;rw[x,cX,p_];omega;show Q q.mem<=Q s;omega;intro d U t b c;rw[n b c];split;rename_i g;rw[(v b g).2];constructor;intro A;omega;intro A;exact b9 (bG A) U;exact na;grind
theorem FD{b c:X Z}:eb (eo b c):=A1 _ PH
theorem Ds{c d:X Z}{b:Z}:b∈eo c d↔∃M∈d,z c M 0=b:=by simp[eo,zn]
structure akJ(T:Z)(q h0:eI)(rH:X Z):Prop where
 ok:lx T h0
 ub:xx T h0 q
 CO:∀AK,Ax T AK q->Ax T AK h0
 sep:∀U C,U<T->C<T->bK h0 U=bK h0 C->(U∈rH↔C∈rH)
 hj:Q h0.eF+Q q.mem=Q q.eF+Q h0.mem
 grow:Q q.mem<=Q h0.mem
 val:∀U C,U<T->C<T->bK q U=bK q C->(U∈rH↔C∈rH)->bK h0 U=bK h0 C
structure AI(T:Z)(q h0:eI)(rH nl:X Z):Prop where
 ok:lx T h0
 ub:xx T h0 q
 CO:∀AK,Ax T AK q->Ax T AK h0
 sep:∀U C,U<T->C<T->bK h0 U=bK h0 C->bK q U∈nl->(U∈rH↔C∈rH)
 hj:Q h0.eF+Q q.mem=Q q.eF+Q h0.mem
 grow:Q q.mem<=Q h0.mem
 j6:∀R∉nl,R<Q q.mem->∀U<T,(bK h0 U=R↔bK q U=R)
 val:∀U C,U<T->C<T->bK q U=bK q C->(U∈rH↔C∈rH)->bK h0 U=bK h0 C
theorem AI.nil{T:Z}{q:eI}(d:lx T q)e:AI T q q e []:=⟨d,.refl T q,λ_ A=>A,λ_ _ _ _ _ c=>b9 c ka,p,bz _,λ_ _ _ _ _=>na,λ_ _ _ _ b _=>b⟩
def AI.snoc{T:Z}{g q:eI}(z:lx T g){i m:X Z}(s:∀M∈i,M<T)(D:eb i)(A:AI T g q i m){d:Z}(w:d∉m)(C:d∈eo g.of i):AI T g (yC q d (j0 g.of i d)) i (m++[d]):=by
 let⟨y,E,F⟩:=Ds.1 C;let n:d<Q g.mem:=by rw[<-F];exact z.lt y<|s y E
 let hit:∀b,b∈j0 g.of i d↔b∈i/\bK g b=d:=by intro b;unfold j0;rw[mL,ir];rfl
 let e:=azg A.ok (kv n A.grow)
  (λb c=>⟨s b ((hit b).1 c).1,(A.j6 d w n b<|s b ((hit b).1 c).1).2 ((hit b).1 c).2⟩) (D.filter _) (λl=>by grind[j0])
 refine⟨e.ok,e.ub.trans A.ub,λt B=>e.CO t<|A.CO t B,?_,?_,dK A.grow e.grow,?_,?_⟩;intro b k c j l H;let v:=e.ub b k c j l;rcases eX.1 H with f|f;exact A.sep b k c j v f;rw[ea] at f;let I:=A.ub b k c j v;have:=e.sep b k c j l<|(A.j6 d w n b c).2 f;simp_all;have:=e.hj;have:=A.hj;omega;intro u r x b c;rw[eX,ea] at r;rw[e.j6 u (λf=>r<|bp f) (kv x A.grow) b c];exact A.j6 u (λf=>r<|bl f) x b c;intro b k c j l G;refine e.val b k c j (A.val b k c j l G) λ_=>?_;simp_all
def Vz{T:Z}{e:eI}(g:lx T e){c:X Z}(l:∀M∈c,M<T)(k:eb c):∀b d q,AI T e q c d->(∀f∈b,f∈eo e.of c/\f∉d)->eb b->AI T e (OV e.of c q b) c (d++b)
|[],d,q,A,_,_=>by rw[ff];exact A|f::b,d,q,A,j,r=>by let⟨u,s⟩:=xj.1 r;let i:=j f<|kO ..;have:=Vz g l k b _ _ (A.snoc g l k i.2 i.1) (λm n=>⟨(j m<|ku _ n).1,λt=>by simp_all⟩) s;rw[fJ] at this;trivial
def Vy{T:Z}{q:eI}(k:lx T q){rH:X Z}(n:∀M∈rH,M<T)(m:eb rH):akJ T q (sy q rH) rH:=by let A:=Vz k n m _ [] q (.nil k _) (λr l=>⟨l,ka⟩) FD;refine⟨A.ok,A.ub,A.CO,λc d f g e=>?_,A.hj,A.grow,A.val⟩;let i:∀j∈rH,bK q j∈eo _ _:=λj aH=>Ds.2 ⟨j,aH,p⟩;constructor;intro b;exact(A.sep c d f g e<|i c b).1 b;intro b;exact(A.sep c d f g e<|A.ub c d f g e▸i d b).2 b
def lx.count{T:Z}{q:eI}(c:lx T q):Q q.mem<=T:=by
 let d:∀b:Fin _,∃f,f∈z q.mem b.1 []:=λb=>List.exists_mem_of_ne_nil _<|c.ne b.1 b.2;let j:eb ((List.finRange _).map λb=>GX<|d b):=by refine PI.2<|(Wv _).imp λ{g b} i he=>i ?_;let e:=((c.mem _ _).1<|J9<|d g).2.1;rw[he,((c.mem _ _).1<|J9<|d b).2.1] at e;exact J_<|bG e
 have:=qQ j (λf k=>by obtain⟨b,_,rfl⟩:=cV.1 k;exact g4.2 ((c.mem _ _).1<|J9 _).1);simp_all
variable{ck:Z->Z->Z}
def G7(ck:Z->Z->Z)(T i:Z)(f:X (X Z))(q:eI):Prop:=∀d∈f,∀e<i,∀b c,b<T->c<T->bK q b=bK q c->(ck b e∈d↔ck c e∈d)
def G7.ub{b:X (X Z)}{q c:eI}(A:G7 ck T i b q)(m:xx T c q):G7 ck T i b c:=λj dI k n f g d e l=>A j dI k n f g d e<|m f g d e l
structure uZ(ck:Z->Z->Z)(T i:Z)(acc:Z->Y)(eqv:Z->Z->Prop)(q:eI):Prop where
 ok:lx T q
 acc:∀U C,U<T->C<T->bK q U=bK q C->acc U=acc C
 eq:∀U C,U<T->C<T->eqv U C->bK q U=bK q C
 HS:∃lw,Ax T lw q/\G7 ck T i lw q
structure AB(ck:Z->Z->Z)(T i:Z)(acc:Z->Y)(eqv:Z->Z->Prop)(own:X Z)(l:Z)(q:eI):Prop where
 ok:lx T q
 acc:∀U C,U<T->C<T->bK q U=bK q C->acc U=acc C
 eq:∀U C,U<T->C<T->eqv U C->bK q U=bK q C
 abC:∀U C,U<T->C<T->eqv U C->(U∈own↔C∈own)
 lt:∀U∈own,U<T
 jQ:eb own
 HS:∃lw,Ax T (own::lw) q/\G7 ck T i lw q
 part:∀I<l,∀U C,U<T->C<T->bK q U=bK q C->(ck U I∈own↔ck C I∈own)
def UM(q:eI):eI:=⟨q.of,q.mem,q.eF.dropLast⟩
theorem lx.pop{q:eI}(b:lx T q):lx T (UM q):=⟨b.len,b.lt,b.mem,b.jQ,b.ne,λc d=>b.sE c<|List.dropLast_subset _ d,b.wn.sublist<|List.dropLast_sublist _⟩
def uZ.pop{j:Z->Y}{k:Z->Z->Prop}{q:eI}(A:uZ ck T i j k q){d:Z}{y:X Z}(x:q.eF=y++[d]):AB ck T i j k (z q.mem d []) 0 (UM q):=by refine⟨A.ok.pop,A.acc,A.eq,λc g b f r=>?_,λc b=>((A.ok.mem d c).1 b).1,A.ok.jQ d,?_,λI bA=>b9 bA<|vY I⟩;have:=A.eq c g b f r;rw[A.ok.mem,A.ok.mem,this];omega;let⟨m,t,u⟩:=A.HS;refine⟨m,λc g b f dI w=>?_,u⟩;refine t c g b f (λn v=>dI n<|ku _ v) λe l=>?_;rw[x,eX,ea] at l;rcases l with s|s;exact w e (by show e∈q.eF.dropLast;simp_all);let B:=A.ok.sE e ap;have:=dI _<|kO ..;rw[A.ok.mem,A.ok.mem] at this;omega
theorem AB.step{n:Z->Y}{j:Z->Z->Prop}(y:∀b d c,c<i->b<T->d<T->j b d->j (ck b c) (ck d c))(s:∀b c,b<T->c<i->ck b c<T){m:X Z}{c:Z}{q:eI}(A:AB ck T i n j m c q)(l:c<i){k:X Z}(w:∀b,b∈k↔b<T/\ck b c∈m)(x:eb k):AB ck T i n j m (c+1) (sy q k):=by let M:=Vy A.ok (λb e=>((w b).1 e).1) x;refine⟨M.ok,λb d e f g=>A.acc b d e f<|M.ub b d e f g,λb d e f g=>?_,A.abC,A.lt,A.jQ,?_,?_⟩;apply M.val b d e f<|A.eq b d e f g;have:=A.abC _ _ (s b c e l) (s d c f l)<|y b d c l e f g;simp_all;let⟨t,u,v⟩:=A.HS;exact⟨t,M.CO _ u,v.ub M.ub⟩;intro I bA b d e f g;rcases fF I c with r|r;exact A.part I r b d e f<|M.ub b d e f g;obtain rfl:I=c:=o;have:=M.sep b d e f g;simp_all
def AB.fin{c:Z->Y}{e:Z->Z->Prop}{l:X Z}{q:eI}(A:AB ck T i c e l i q):uZ ck T i c e q:=by let⟨r,t,u⟩:=A.HS;refine⟨A.ok,A.acc,A.eq,l::r,t,λs dI d g m n j k f=>?_⟩;rcases fR.1 dI with b|b;subst b;exact A.part d g m n j k f;exact u s b d g m n j k f
def uZ.done{k:Z->Y}{l:Z->Z->Prop}(j:∀c b,c<T->b<i->ck c b<T){q:eI}(A:uZ ck T i k l q)(v:q.eF=[]){b:Z}(e:b<i){c d:Z}(f:c<T)(g:d<T)(m:bK q c=bK q d):bK q (ck c b)=bK q (ck d b):=by let⟨s,n,r⟩:=A.HS;refine n _ _ (j c b f e) (j d b g e) (r · · b e c d f g m) λt u=>?_;simp_all
theorem uZ.start{d:Z->Y}{j:Z->Z->Prop}(s:∀b c,b<T->c<T->j b c->d b=d c)(r:0<T):uZ ck T i d j (sy ⟨cM T 0,[bJ T],[0]⟩ (v3 d (bJ T))):=by
 let aH:∀b,bK ⟨cM T 0,[bJ T],[0]⟩ b=0:=by intro b;unfold bK;by_cases q:b<T;simp_all;simp_all
 let m:lx T ⟨cM T 0,[bJ T],[0]⟩:=by
  refine⟨av,λb _=>ap,λf b=>?_,λf=>?_,λf l=>?_,λf l=>?_,av⟩;grind;grind
  (simp_all;omega)
  simp_all
 let M:=Vy m (rH:=v3 d<|bJ T) (λb e=>g4.1 (mL.1 e).1)<|List.nodup_range.filter _;let hm:∀b<T,(b∈v3 d (bJ T)↔d b):=λb e=>a2;refine⟨M.ok,λb c e g k=>?_,λb c e g k=>?_,[],M.CO [] ?_,λn dI=>b9 dI ka⟩;have:=M.sep b c e g k;simp_all;apply M.val b c e g ap;grind;intro b c _ _ _ _;simp_all
def zA(T:Z)(q:eI):Z:=Q q.eF+(T-Q q.mem)
theorem azh{q:eI}(c:lx T q){b:X Z}(e:∀M∈b,M<T)(d:eb b):zA T (sy q b)=zA T q:=by let M:=Vy c e d;let f:=M.ok.count;let g:=c.count;let i:=M.hj;grind[zA]
end qu
structure hJ(y:bF):Prop where
 len:Q y.next<=100000
 acc:Q y.acc=Q y.next
 h:∀E<Q y.next,Q (z y.next E [])=256
 start:y.start<Q y.next
 dst:∀E R,E<Q y.next->R<256->z (z y.next E []) R 0<Q y.next
def dV(b:bF)(c:Z):X Z:=z b.next c []
def ca(b:bF)(c:Z):X Z:=cB (dV b) [b.start] c
def ig(b:bF)(c d:Z):X Z:=jp (ca b c)<|ak d<|dV b<|z (ca b c) c 0
def iC(T:Z)(b:X Z):X Y:=(bJ T).map λc=>aL<|c∈b
theorem Mo T b:Q (iC T b)=T:=by simp[iC,bg,i1]
theorem Fe{T:Z}{c:X Z}{b:Z}:b<T->(iC T c)[b]?=W (aL (b∈c)):=by grind[iC,List.getElem?_range]
def Ff{T:Z}{L:X Z}{b:Z}(q:b∉L):aK (iC T L) b af=iC T (note L b):=by refine jI λe=>?_;rw[rO,Mo];by_cases c:e<T;rw[Fe c,Fe c];by_cases d:b=e;subst d;rw[ae p,ae c];congr 1;symm;rw[ir,IM]<;>simp_all;rw[ab d];congr 1;rw[lT,ir,ir,IM]<;>grind;simp_all[iC,yO,Mo,note,ab]
def aqQ T:iC T []=cM T ad:=by refine jI λb=>?_;grind[Fe,List.getElem?_eq_none,Mo]
def VK{b:bF}(q:hJ b){c:Z}(e:c<Q b.next):∀f∈dV b c,f<Q b.next:=λf i=>by obtain⟨d,g,rfl⟩:=lU.1 i;have:z (dV b c) d 0<Q b.next:=q.dst c d e (by rw[<-q.h c e];exact g);simp_all
def oD{b:bF}(q:hJ b)e:∀d∈ca b e,d<Q b.next:=tP (λd c=>by rw[ea.1 c];exact q.start) (λd c=>VK q c) e
def wU c b:eb (ca c b):=AR av b
def qz{b:X Z}{T:Z}(q:eb b)(d:∀c∈b,c<T):Q b<=T:=by have:=qQ (R:=bJ T) q λc e=>g4.2 ap;simp_all
def FC{c:bF}(q:hJ c){b:Z}(i:b<Q (ca c b))f:(∀d∈ig c b f,d<Q c.next)/\eb (ig c b f):=by refine⟨λd g=>?_,A1 _<|wU c b⟩;rcases(zn _ _ _).1 g with e|e;exact oD q b d e;exact VK q (oD q b _ ap) d<|tu e
def adX{c:bF}(q:hJ c){b:Z}(d:b<Q (ca c b)):ig c b 256=ca c (b+1):=by unfold ig;rw[rQ (by rw[dV,q.h _<|oD q b _ ap];omega)];grind[za,ca,List.getElem?_eq_getElem]
def adY{c:bF}(q:hJ c){b d:Z}(f:b<Q (ca c b))(e:d<256):ig c b (d+1)=note (ig c b d) (z (dV c (z (ca c b) b 0)) d 0):=by unfold ig;let g:Q (dV c<|z (ca c b) b 0)=256:=q.h _<|oD q b _ ap;grind[List.take_add_one,List.getElem?_eq_getElem,jp,A2]
def adW{c:bF}{b:Z}(e:b<Q (ca c b))d:(ig c b d)[b]?=W (z (ca c b) b 0):=by apply zX<|CQ _ _;simp_all
def ad0 d(q:hJ d)g(A:g=Q d.next):bb 282 [fp d] (.a 1 (aa k (ca d g))):=by
 refine bx func282 [] λm B=>?_;have:=q.start;have:=q.len;refine kF g g (aa a_<|iC g []) ?_ (j:=ap) (j1:=ap) (aW:=WM);refine pW ?_;refine cC d.start ?_ (j:=o);refine gN (aa a_<|iC g [d.start]) (a_ ad) (a_ af) ?_ (j:=GS) (aW:=by rw[<-hW,Ff (L:=[]) ka];rfl);refine eC g (λb=>⟨[(1,c 1),(5,k b),(3,.aq 11 0 g),(4,.aq 14 0<|Q<|aa k<|ca d b)],[(1,ag 89<|fp d),(11,.h 1 4<|aa a_<|iC g<|ca d b),(14,.h 1 3<|aa k<|ca d b)],[]⟩) λb j=>?_;apply e<;>intro C
 .have i:b<Q (ca d b):=o;have:=qz (wU d b)<|oD q b;have r:z (ca d b) b 0<Q d.next:=oD q b _<|cT i;have:=q.h _ r;refine eC 256 (λf=>⟨[(1,c 1),(5,k b),(6,k f),(3,.aq 11 0 g),(4,.aq 14 0<|Q<|aa k<|ig d b f)],[(1,ag 89<|fp d),(11,.h 1 4<|aa a_<|iC g<|ig d b f),(14,.h 1 3<|aa k<|ig d b f)],[]⟩) λf n=>?_;apply e<;>intro D
  .have n:f<256:=o;let⟨u,v⟩:=FC q i f;have l:=adY q i n;have w:=adW i f;have:z (dV d (z (ca d b) b 0)) f 0<Q d.next:=q.dst _ f r n;have:=qz v u;have:b<Q (ig d b f):=(e3.1 w).1;refine eg ?_;refine cC b ?_ (j:=a2);refine e9 (k<|z (ca d b) b 0) ?_ (j:=ap);refine bi (z (ca d b) b 0) (b6<|dV d<|z (ca d b) b 0) ?_ (j:=Be r);refine bi f (k<|z (dV d<|z (ca d b) b 0) f 0) ?_ (j:=eN (by grind[dV]));refine cC (z (dV d<|z (ca d b) b 0) f 0) ?_ (j:=o);refine e9 (a_<|aL<|z (dV d<|z (ca d b) b 0) f 0∈ig d b f) ?_ (j:=GS);apply e<;>intro s
   .have t:z (dV d (z (ca d b) b 0)) f 0∉ig d b f:=by simpa using s
    have:ig d b (f+1)=ig d b f++[z (dV d (z (ca d b) b 0)) f 0]:=by rw[l,note,ab t]
    have:Q (ig d b (f+1))<=Q d.next:=qz (FC q i<|f+1).2 (FC q i<|f+1).1;refine cC (z (dV d<|z (ca d b) b 0) f 0) ?_ (j:=o);refine gN (aa a_<|iC g<|ig d b<|f+1) (a_ ad) (a_ af) ?_ (j:=by grind[Fe,decide_eq_false]) (aW:=by rw[<-hW,Ff t,l]);refine er ?_;refine e7 (aa k<|ig d b<|f+1) ?_ (aW:=aY) (bQ:=a2);refine bc ?_;exact a0<|f+1
   have y:z (dV d (z (ca d b) b 0)) f 0∈ig d b f:=by simpa using s
   rw[show ig d b f=ig d b (f+1) by rw[l,note,ae y]];refine bc ?_;exact a0<|f+1
  obtain rfl:f=256:=o;rw[adX q i];refine bc ?_;exact a0<|b+1
 have x:ca d g=ca d b:=sX (show Q (ca d b)<=b by omega) j;rw[x];exact ib 14 aA
def nE(d b:X Z)(T:Z):Z->X Z|0=>cM T 0|c+1=>aK (nE d b T c) (z d (z b (Q b-1-c) 0) 0)<|z b (Q b-1-c) 0
theorem OR{cl L:X Z}{T:Z}:∀b,Q (nE cl L T b)=T|0=>sH ..|b+1=>by rw[nE,nJ,OR b]
def ahP{cl d:X Z}{T i:Z}(f:0<i)(e:∀g∈d,g<i):∀c≤Q d,∀b,z (nE cl d T c) b 0<i|0,_,b=>by grind[nE]|c+1,j,b=>by rw[nE,vm];split;grind[cT];exact ahP f e c o b
def xC(b:bF)(d:X Z)(c:Z):Y:=z b.acc (z d c 0) ad
def xB(c:bF)(K:X Z)(b:Z):Y:=z c.acc (z K b 0) ad
def uB(b:bF)(d f:X Z)(e:Z):X Z:=(bJ 256).map λc=>z d (z (dV b<|z f e 0) c 0) 0
def fv(b:bF)(c d:X Z)(T:Z):bF:=⟨z c b.start 0,aa (xC b d)<|bJ T,aa (uB b c d)<|bJ T⟩
def q6(K:X Z)(T:Z):Z->X Z|0=>cM T 0|b+1=>aK (q6 K T b) (z K b 0) b
def uA(d:bF)(K w:X Z)(c:Z):X Z:=(bJ 256).map λb=>z w (z (dV d<|z K c 0) b 0) 0
def Uu(b:bF)(K w:X Z):bF:=⟨0,aa (xB b K)<|bJ<|Q K,aa (uA b K w)<|bJ<|Q K⟩
def IQ(d:bF)(c b:X Z)(T:Z):bF:=Uu (fv d b (nE b c T<|Q c) T) (ca (fv d b (nE b c T<|Q c) T) T)<|q6 (ca (fv d b (nE b c T<|Q c) T) T) T<|Q<|ca (fv d b (nE b c T<|Q c) T) T
def jR(d:Z->Z)(c:Z):X Z:=(bJ 256).map λb=>if b<c then d b else 0
theorem Vf{c:Z->Z}{b:Z}:Q (jR c b)=256:=a3
def Ve{b:Z->Z}:jR b 256=aa b (bJ 256):=iF λc j=>ae<|g4.1 j
def aBY b:jR b 0=cM 256 0:=by rfl
theorem Vg{c:Z->Z}{b:Z}(q:b<256):aK (jR c b) b (c b)=jR c (b+1):=by refine jI λd=>?_;rw[rO,Vf];unfold jR;grind
def I8{e n:Type}c(d:e->n)b:aa d (aa c (bJ b))++[d (c b)]=aa d (aa c (bJ (b+1))):=by simp[vX,dn]
def zr(b:bF)(d f:X Z)(e:Z):Z->Z:=λc=>z d (z (dV b<|z f e 0) c 0) 0
def ED{c:X Y}{b:Z}:b<Q c->(aa a_ c)[b]?=W (a_ (z c b ad)):=by simp_all
def Nu T:cM T (V.zero SD.z)=aa k (cM T 0):=xt
def Gn{b:bF}{d c:Z}(q:c<Q (dV b d)):(aa k (dV b d))[c]?=W (k (z (dV b d) c 0)):=eN q
def JC{b:bF}(q:hJ b){c R:Z}(e:c<Q b.next)(d:R<256):R<Q (dV b c)/\z (dV b c) R 0<Q b.next:=⟨by rw[show Q (dV b c)=256 from q.h c e];exact d,q.dst c R e d⟩
def Gm{b:bF}{c:Z}(q:c<Q b.next):(aa b6 b.next)[c]?=W (b6 (dV b c)):=Be q
def aqb{b:bF}{d f:X Z}{e c:Z}(q:z (dV b (z f e 0)) c 0<Q d):(aa k d)[z (dV b (z f e 0)) c 0]?=W (k (zr b d f e c)):=eN q
def akS{b:bF}{d:X Z}{c:Z}(q:z d c 0<Q b.acc):(aa a_ b.acc)[z d c 0]?=W (a_ (xC b d c)):=ED q
def axX b c e d:jR (zr b c e d) 256=uB b c e d:=Ve
theorem ag_ b c e d:Q (uB b c e d)=256:=a3
theorem agp{c:bF}{d e:X Z}{T b:Z}:b<T->(fv c d e T).next.getD b []=uB c d e b:=by grind[fv,List.getElem?_range]
def awW{y:bF}{b sm:X Z}{T:Z}(c:∀f,z b f 0<T)(k:T<=100000):hJ (fv y b sm T):=by
 let d:(fv y b sm T).next.length=T:=by unfold fv;rw[bg,i1]
 refine⟨o,by simp[fv,bg,i1],λe j=>?_,by rw[d];exact c _,λe g j i=>?_⟩;grind[agp,ag_];grind[agp,uB,List.getElem?_range]
def zw(d:bF)(K w:X Z)(c:Z):Z->Z:=λb=>z w (z (dV d<|z K c 0) b 0) 0
def aqC{d:bF}{K w:X Z}{c b:Z}(q:z (dV d (z K c 0)) b 0<Q w):(aa k w)[z (dV d (z K c 0)) b 0]?=W (k (zw d K w c b)):=eN q
def alC{c:bF}{K:X Z}{b:Z}(q:z K b 0<Q c.acc):(aa a_ c.acc)[z K b 0]?=W (a_ (xB c K b)):=ED q
def axV c K w b:jR (zw c K w b) 256=uA c K w b:=Ve
def axW c K w b:Q (uA c K w b)=256:=a3
theorem K1{K:X Z}{T:Z}:∀b,Q (q6 K T b)=T|0=>sH ..|b+1=>by rw[q6,nJ,K1 b]
def iz(b:bF)(d:Z)(c:v):Z:=z (dV b d) (aG c) 0
def hg(b:bF)(c:Z):Y:=z b.acc c ad
def iW(b:bF):u1:=iX (iz b) (hg b) b.start
def ql:Z:=100000
theorem QZ:ql=100000:=p
attribute [irreducible] ql
noncomputable def lC(b:u1):bF:=⟨0,(xJ b ql).acc,(xJ b ql).next⟩
theorem tq{b:Z}(q:b<256):aG (gk b)=b:=a2
def On{e n:Type}(b:X e)I(c:e->n):((bJ (Q b)).map λd=>c<|z b d I)=aa c b:=by refine jI λd=>?_;grind
def XZ{succ DU:Z->X Z}{H:Z->Prop}{b7:X Z}(f:∀b∈b7,H b)(g:∀b,H b->∀d∈succ b,H d)(q:∀b,H b->DU b=succ b){c:Z}:cB DU b7 c=cB succ b7 c:=by have:=QK (λb d _ _ e=>e) (DU:=DU) f g (λb i=>ap) c;simp_all
def aw5(c:X Z):Q c=256->((bJ 256).map λb=>z c (aG<|gk b) 0)=c:=by
 let f:((bJ 256).map λb=>z c (aG<|gk b) 0)=(bJ 256).map λb=>z c b 0:=iF λb g=>by grind[tq]
 let e:=On c 0 λd=>d;grind[List.map_id']
theorem adZ{b:bF}(q:hJ b){c:Z}(e:c∈ca b (Q b.next)){d:v}:iz b c d∈ca b (Q b.next):=by
 apply EC (qz (wU b<|Q b.next)<|oD q<|Q b.next) e _;let f:Q (dV b c)=256:=by have:=q.h c<|oD q _ c e;exact this
 exact cT (by rw[f];exact nc d)
def TQ{y:bF}{E:Z}:y.start∈ca y E:=(o4<|dO E).subset (by simp[cB])
def ahQ{c b:X Z}{T:Z}(k:∀l∈b,z c l 0<T):∀e≤Q b,∀d,Q b-e<=d->d<Q b->z (nE c b T e) (z c (z b d 0) 0) 0∈b/\z c (z (nE c b T e) (z c (z b d 0) 0) 0) 0=z c (z b d 0) 0|0,_,d,j,f=>o|e+1,m,d,j,f=>by have:z b (Q b-1-e) 0∈b:=cT o;rw[nE,vm];by_cases i:z c (z b (Q b-1-e) 0) 0=z c (z b d 0) 0;simp_all[ae,OR,cT];rw[ab λg=>i g.1];refine ahQ k e o d ?_ f;grind
theorem arn{K:X Z}(q:eb K){b:Z}:b<Q K->iw (z K b 0) K=b:=by simp_all
def XO{K:X Z}{T:Z}(f:eb K)(e:∀g∈K,g<T):∀c≤Q K,∀b<c,z (q6 K T c) (z K b 0) 0=b|0,_,b,q=>o|c+1,i,b,q=>by rw[q6,vm];by_cases d:b=c;subst d;rw[ae ⟨p,by grind[K1,cT]⟩];rw[ab];exact XO f e c o b o;grind[arn]
def alH{K:X Z}{T:Z}(e:eb K)(d:∀b∈K,b<T){b:Z}(f:b∈K):z (q6 K T (Q K)) b 0=iw b K:=by let c:=vU f;have:=XO e d _ (bz _) _ c;simp_all
def auL{y:bF}(q:hJ y){cl:X Z}{T:Z}(g:∀b∈ca y (Q y.next),z cl b 0<T)(x:∀A<T,∃b∈ca y (Q y.next),z cl b 0=A)(M:T<=100000)(G:y3 (·∈ca y (Q y.next)) (iz y) (hg y) (z cl · 0)):IQ y (ca y (Q y.next)) cl T=lC (iW y):=by
 generalize D:ca y (Q y.next)=f at g x G;have u:y.start∈f:=D▸TQ;have t:∀b∈f,z (nE cl f T (Q f)) (z cl b 0) 0∈f/\z cl (z (nE cl f T (Q f)) (z cl b 0) 0) 0=z cl b 0:=λb e=>by have j:=vU e;have:=ahQ g (Q f) (bz _) (iw b f) o j;simp_all
 have k:=(G.xJ (g2:=λc=>z (nE cl f T<|Q f) c 0) t u ql).1;unfold IQ;generalize R:nE cl f T (Q f)=sm at t k;have:∀b∈f,b<Q y.next:=D▸oD q _;have L:∀b∈f,∀d,iz y b d∈f:=λb e d=>by grind[adZ]
 have bA:∀c<T,∀d,z cl (iz y (z sm c 0) d) 0<T:=λc n d=>by obtain⟨b,e,rfl⟩:=x c n;exact g _<|L _ (t b e).1 d
 have I:∀c<T,dV (fv y cl sm T) c=hc (λc d=>z cl (iz y (z sm c 0) d) 0) c:=λc n=>by rw[dV,fv,dm,c4,Aj n];rfl
 have m:∀E,ca (fv y cl sm T) E=cB (hc λc d=>z cl (iz y (z sm c 0) d) 0) [z cl y.start 0] E:=λE=>
  XZ (H:=λc=>c<T) (λb e=>by rw[ea.1 e];exact g _ u) (λb e=>JD (H:=λc=>c<T) (λw d aH=>bA w aH d) e) I
 have r:eb (ca (fv y cl sm T) T):=wU _ T;have i:∀b∈ca (fv y cl sm T) T,b<T:=by rw[m T];exact tP (H:=λc=>c<T) (λb e=>by rw[ea.1 e];exact g _ u) (λb e=>JD (H:=λc=>c<T) (λw d aH=>bA w aH d) e) T
 have F:=qz r i;have P:cB (hc λc d=>z cl (iz y (z sm c 0) d) 0) [z cl y.start 0] ql=ca (fv y cl sm T) T:=by rw[m T];exact sX (E:=T) (cr:=ql) (by rw[<-m T];exact F) (by rw[QZ];exact M)
 rw[P] at k;have B:∀b∈ca (fv y cl sm T) T,∀J∈hc (λc d=>z cl (iz y (z sm c 0) d) 0) b,J∈ca (fv y cl sm T) T:=λb e J S=>by grind[EC]
 generalize ca (fv y cl sm T) T=K at r i F k B;unfold lC;rw[show xJ (iW y) ql=_ from k];unfold Uu CH;congr 1;show aa (λE=>(fv y cl sm T).acc.getD (z K E 0) ad) (bJ<|Q K)=_;rw[On K 0 ((fv y cl sm T).acc.getD · ad)];refine iF λb e=>?_;rw[fv,dm,c4,Aj<|i b e];rfl;show aa (uA (fv y cl sm T) K (q6 K T (Q K)) ·) (bJ (Q K))=_;unfold uA;rw[On K 0 λb=>(bJ 256).map λd=>z (q6 K T<|Q K) (z (dV (fv y cl sm T) b) d 0) 0];refine iF λb e=>?_;have s:=aw5 (hc (λc d=>z cl (iz y (z sm c 0) d) 0) b) (by rw[hc,bg,i1]);rw[I b<|i b e];have C:=B b e;generalize hc (λc d=>z cl (iz y (z sm c 0) d) 0) b=v at s C⊢;have N:((bJ 256).map λd=>z v d 0)=v:=(iF λd l=>by rw[tq<|g4.1 l]).symm.trans s;have O:Q v=256:=by rw[<-s,bg,i1]
 conv=>rhs;rw[<-N]
 rw[gh];refine iF λd l=>?_;exact alH r i<|C _<|cT (by rw[O];exact g4.1 l)
def LG{bf:Type} [iu bf]:∀(c b:X bf),Q (jp b c)<=Q b+Q c
|[],b=>by simp[Zn,Cg]|T::c,b=>by
 rw[LF];let d:=LG c<|note b T;let e:Q (note b T)<=Q b+1:=by unfold note;split;omega;simp
 (simp;omega)
def qL(c:Z->Z):Z->X (Z×Z)|0=>[]|b+1=>qL c b++(if b=0\/c b≠c (b-1) then[(b,c b)] else[])
def oy(c:X (Z×Z)):X Z:=c.flatMap λb=>[b.1,b.2]
def aaC:∀{b i:X (Z×Z)},oy b=oy i->b=i|[],[],_=>p|[],c::i,q=>cc|c::b,[],q=>cc|c::b,d::i,q=>by simp[oy,ts,yM,List.cons.injEq] at q;rw[aaC q.2.2,Prod.ext q.1 q.2.1]
def Vd c:∀A,∀b∈qL c A,b.1<A|0,b,q=>b9 q ka|A+1,b,q=>by rcases eX.1 q with q|q;exact Ao<|Vd c A b q;simp_all
def Vc{d b:Z->Z}:∀A,qL d A=qL b A->∀c<A,d c=b c|0,_,c,j=>o|A+1,q,c,j=>by rw[qL,qL] at q;by_cases g:A=0\/d A≠d (A-1);by_cases e:A=0\/b A≠b (A-1);rw[ae g,ae e] at q;let⟨i,k⟩:=Wh q p;rcases fF c A with f|f;exact Vc A i c f;grind;have:=Vd b A (A,d A) aY;omega;by_cases e:A=0\/b A≠b (A-1);have:=Vd d A (A,b A) ap;omega;rw[ab g,ab e,ff,ff] at q;let l:=Vc A q;grind
def ag8{c d:Z->Z}:∀A,(∀b<A,c b=d b)->qL c A=qL d A|0,_=>p|A+1,q=>by rw[qL,qL,ag8 A λb e=>q b o,q A o,q _ o]
def oK(d:bF)(b:X Z)(c:Z):X Z:=z b c 0::oy (qL (λe=>z b (z (dV d c) e 0) 0) 256)
theorem Jl{d:bF}{c:X Z}{e f:Z}:oK d c e=oK d c f↔z c e 0=z c f 0/\∀b,z c (iz d e b) 0=z c (iz d f b) 0:=by unfold oK;rw[List.cons.injEq];refine WH na ⟨λq b=>?_,λq=>?_⟩;exact Vc 256 (aaC q) _<|nc b;rw[ag8 256 λb g=>?_];have:=q<|gk b;grind[iz,tq]
def hn{bf:Type} [iu bf](b:X bf)(c:bf):Z:=iw c b
def Bm{bf:Type} [iu bf]{b:X bf}{c:bf}(q:c∈b):hn b c<Q b:=vU q
theorem SG{bf:Type} [iu bf]{b:X bf}{c:bf}(q:hn b c<Q b):b[hn b c]=c:=PC q
theorem zE{bf:Type} [iu bf]{b i:X bf}(q:b<+:i){c:bf}(d:c∈b):hn i c=hn b c:=awp q d
theorem Dh{bf:Type} [iu bf]{L:X bf}(q:eb L){A:Z}(b:A<Q L):hn L L[A]=A:=List.Nodup.idxOf_getElem q A b
def fV(b:bF)(c e:X Z)(d:Z):X (X Z):=jp [] (aa (oK b c)<|ak d e)
def iM(b:bF)(e d:X Z):Z->X Z|0=>cM (Q b.next) 0|c+1=>aK (iM b e d c) (z d c 0)<|hn (fV b e d<|c+1)<|oK b e<|z d c 0
theorem FN{y:bF}{cl L:X Z}:∀b,Q (iM y cl L b)=Q y.next|0=>sH ..|b+1=>by rw[iM,nJ,FN b]
theorem pq{d:Type}{c:X d}{I:d}{b:Z}:b<Q c->ak (b+1) c=ak b c++[z c b I]:=by simp_all
def acC{y:bF}{cl:X Z}{c:X Z}{b:Z}:b<Q c->fV y cl c (b+1)=note (fV y cl c b) (oK y cl (z c b 0)):=by grind[fV,pq,A2]
theorem asi b c e d:eb (fV b c e d):=A1 _ PH
def Ij{b:bF}{c e:X Z}{d:Z}{f:X Z}:f∈fV b c e d↔∃g∈ak d e,oK b c g=f:=by unfold fV;rw[zn,cV];simp
def aeT{f:bF}{g e:X Z}(l:∀b∈e,b<Q f.next):∀d≤Q e,∀b∈ak d e,z (iM f g e d) b 0=hn (fV f g e d) (oK f g b)|0,_,b,c=>cc|d+1,j,b,c=>by rw[iM,vm];by_cases i:z e d 0=b;rw[ae ⟨i,by grind[FN,cT]⟩,i];rw[ab λk=>i k.1];rw[pq (I:=0) o] at c;rcases eX.1 c with c|c;rw[aeT l d o b c,acC o];exact bG<|zE Ui<|Ij.2 ⟨b,c,p⟩;simp_all
def auS{y:bF}{cl b:X Z}(c:∀U∈b,U<Q y.next){U:Z}(d:U∈b):z (iM y cl b (Q b)) U 0=hn (fV y cl b (Q b)) (oK y cl U):=aeT c _ (bz _) U a2
def aeU{d:bF}{e b:X Z}{i:Z}(l:Q b<=i)(g:0<i):∀c≤Q b,∀f,z (iM d e b c) f 0<i
|0,_,f=>by grind[iM]|c+1,j,f=>by
 rw[iM,vm];split;let k:oK d e (z b c 0)∈fV d e b (c+1):=Ij.2 ⟨_,by grind[pq],p⟩;let m:=Bm k;let n:=by have:=LG (ak (c+1) b|>.map (oK d e)) [];rw[bg,mK] at this;let q:Q (fV d e b _)<=0+min _ _:=this;omega
 omega;exact aeU l g c o f
structure AE(y:bF)(L cl:X Z)(T:Z):Prop where
 len:Q cl=Q y.next
 acc:∀U C,U∈L->C∈L->z cl U 0=z cl C 0->hg y U=hg y C
 acN:∀U C,U∈L->C∈L->iX (iz y) (hg y) U=iX (iz y) (hg y) C->z cl U 0=z cl C 0
 hj:T=0\/(∀U∈L,z cl U 0<T)/\∀A<T,∃U∈L,z cl U 0=A
 lt:∀U,z cl U 0<200000
def mu(b:bF)(d:X Z):Z->X Z|0=>cM (Q b.next) 0|c+1=>if hg b (z d c 0) then aK (mu b d c) (z d c 0) 1 else mu b d c
theorem EH{c:bF}{d:X Z}:∀b,Q (mu c d b)=Q c.next|0=>sH ..|b+1=>by rw[mu];split;rw[nJ,EH b];exact EH b
def Q_{d:bF}{e:X Z}:∀c b,z (mu d e c) b 0<200000|0,b=>by rw[mu,dm,yP];grind|c+1,b=>by rw[mu];split;rw[vm];split;omega;exact Q_ c b;exact Q_ c b
def YE{e:bF}{d:X Z}(i:∀b∈d,b<Q e.next):∀c≤Q d,∀b,z (mu e d c) b 0=if b∈ak c d/\hg e b then 1 else 0
|0,_,b=>by rw[mu,dm,yP];grind|c+1,j,b=>by
 let l:=YE i c o b;let k:b∈ak (c+1) d↔b∈ak c d\/b=z d c 0:=by rw[pq (I:=0) o];simp
 rw[mu];split;rename_i g;rw[vm];by_cases f:z d c 0=b;rw[ae ⟨f,by grind[EH,cT]⟩,ae ⟨k.2<|bp<|bG f,f▸g⟩];grind;grind
theorem AE.start{c:bF}{d:X Z}(g:∀b∈d,b<Q c.next):AE c d (mu c d (Q d)) 0:=by
 let j:∀b∈d,z (mu c d _) b 0=if hg c b then 1 else 0:=λb e=>by rw[YE g _ (bz _) b,g5];simp_all
 refine⟨EH _,λb f e i q=>?_,λb f e i q=>?_,bl p,Q_ _⟩;grind;have:=P5 q [];have:hg c b=hg c f:=this;grind
theorem AE.step{y:bF}(q:hJ y){cl:X Z}{T:Z}{b:X Z}(k:b=ca y (Q y.next))(A:AE y b cl T):AE y b (iM y cl b (Q b)) (Q (fV y cl b (Q b)))/\T<=Q (fV y cl b (Q b))/\0<Q (fV y cl b (Q b))/\Q (fV y cl b (Q b))<=Q b/\(Q (fV y cl b (Q b))=T->y3 (·∈b) (iz y) (hg y) (z (iM y cl b (Q b)) · 0)/\(∀U∈b,z (iM y cl b (Q b)) U 0<T)/\∀A<T,∃U∈b,z (iM y cl b (Q b)) U 0=A):=by
 let K:∀U∈b,U<Q y.next:=k▸oD q _;let s:∀U∈b,∀R,iz y U R∈b:=λU c R=>by rw[k] at c⊢;exact adZ q c
 let N:y.start∈b:=k▸TQ;let al:Q b<=Q y.next:=k▸qz (wU y<|Q y.next) (oD q<|Q y.next);let t:=λU c=>auS (y:=y) (cl:=cl) K (U:=U) c;let u:∀U∈b,oK y cl U∈fV y cl b (Q b):=λU c=>Ij.2 ⟨U,a2,p⟩;let j:∀U d,U∈b->d∈b->(z (iM y cl b<|Q b) U 0=z (iM y cl b<|Q b) d 0↔oK y cl U=oK y cl d):=λU d c f=>by rw[t U c,t d f];refine⟨λe=>?_,λe=>by rw[e]⟩;let E:=Bm<|u U c;let S:=Bm<|u d f;let P:(fV y cl b<|Q b)[hn (fV y cl b<|Q b) (oK y cl U)]=oK y cl U:=SG E;grind[fV,hn,oK,SG]
 let m:∀U∈b,z (iM y cl b<|Q b) U 0<Q (fV y cl b<|Q b):=λU c=>by rw[t U c];exact Bm<|u U c
 let x:∀A<Q (fV y cl b<|Q b),∃U∈b,z (iM y cl b<|Q b) U 0=A:=λA G=>by let⟨U,c,e⟩:=Ij.1<|fK G;grind[Dh,asi]
 let L:T<=Q (fV y cl b<|Q b):=by
  rcases A.hj with e|⟨v,r⟩;omega;let B:∀g:Fin T,∃U∈b,z cl U 0=g.1:=λg=>r g.1 g.2;let n:=λg:Fin T=>J9<|B g;let M:eb ((List.finRange T).map λg=>z (iM y cl b<|Q b) (GX<|B g) 0):=by refine PI.2<|(Wv T).imp λ{D g} F he=>F ?_;have:=(Jl.1<|(j _ _ (n D).1 (n g).1).1 he).1;rw[(n D).2,(n g).2] at this;exact J_ this
  have:=qQ (R:=bJ<|Q<|fV y cl b<|Q b) M λao aH=>by grind
  simpa using this
 let w:∀U d,U∈b->d∈b->z (iM y cl b<|Q b) U 0=z (iM y cl b<|Q b) d 0->hg y U=hg y d:=λU d c f e=>A.acc U d c f (Jl.1<|(j U d c f).1 e).1;let C:∀U d,U∈b->d∈b->iX (iz y) (hg y) U=iX (iz y) (hg y) d->z (iM y cl b<|Q b) U 0=z (iM y cl b<|Q b) d 0:=λU d c f e=>by refine(j U d c f).2<|Jl.2 ⟨A.acN U d c f e,λR=>A.acN _ _ (s U c R) (s d f R) ?_⟩;have:=ep (xR · R) e;trivial
 let J:Q (fV y cl b<|Q b)<=Q b:=by have:=LG (aa (oK y cl)<|ak (Q b) b) [];rw[bg,mK] at this;let Y:Q (fV y cl b<|Q b)<=0+min (Q b) (Q b):=this;omega
 refine⟨⟨FN _,w,C,bp ⟨m,x⟩,(aeU (i:=200000) (by have:=q.len;omega) o _<|bz _)⟩,L,?_,J,λe=>⟨?_,e▸m,e▸x⟩⟩;grind;refine y3.of (λU R c=>s U c R) (C · · · ·) (w · · · ·) λU d R c f he=>?_;rcases A.hj with O|⟨v,r⟩;have:=m _ N;omega;let am:=ayr (H:=λU=>U∈b) (l:=λU=>z cl U 0) (I:=λU=>z (iM y cl b<|Q b) U 0) (T:=T) (e▸m · ·) r v λU d c f e=>(Jl.1<|(j U d c f).1 e).1;grind[Jl]
section
variable[iu bf]
def nR(ck:bf->v->bf)(c:bf->Y)(b:X bf):bF:=⟨0,aa c b,b.map λd=>aa b.idxOf<|hc ck d⟩
def QD{ck:bf->v->bf}{acc:bf->Y}{b:X bf}{c:Z}(d:c<Q b):dV (nR ck acc b) c=aa b.idxOf (hc ck b[c]):=by grind[dV,nR,List.getElem?_eq_getElem]
theorem aiv ck(b:bf):Q (hc ck b)=256:=a3
def O1 ck(c:bf){b:Z}:b<256->(hc ck c)[b]?=W (ck c (gk b)):=by grind[hc,List.getElem?_range]
def XS{ck:bf->v->bf}{acc:bf->Y}{b:X bf}(l:∀f∈b,∀g∈hc ck f,g∈b)(m:Q b<=100000)(d:0<Q b):hJ (nR ck acc b):=by let c:(nR ck acc b).next.length=Q b:=bg ..;refine⟨o,by rw[c];exact bg ..,λe j=>?_,by rw[c];exact d,λe i j k=>?_⟩;rw[c] at j;have:=QD (ck:=ck) (acc:=acc) j;grind[dV,List.length_map,aiv];rw[c] at j⊢;have:=QD (ck:=ck) (acc:=acc) j;rw[dV] at this;grind
theorem alS{ck:bf->v->bf}{e:bf->Y}{b:X bf}{d:bf}(f:d∈b)c:iz (nR ck e b) (iw d b) c=iw (ck d c) b:=by let j:=vU f;rw[iz,QD j,dm,c4,O1 ck _<|nc c];simp
def QC{ck:bf->v->bf}{acc:bf->Y}{c:X bf}(g:∀b∈c,∀j∈hc ck b,j∈c):∀d{b:bf},b∈c->qM (iz (nR ck acc c)) (iw b c) d=iw (qM ck b d) c/\qM ck b d∈c
|[],b,e=>⟨p,e⟩|f::d,b,e=>by let i:ck b f∈c:=g b e _ (by have:=eY<|O1 ck b<|nc f;simp_all);let k:=QC (acc:=acc) g d i;grind[qM,iz,nR,alS]
theorem alR{ck:bf->v->bf}{d:bf->Y}{b:X bf}{c:bf}(e:c∈b):hg (nR ck d b) (iw c b)=d c:=by let j:=vU e;rw[hg,nR,dm,c4,cm j];simp
def XR{ck:bf->v->bf}{acc:bf->Y}{c:X bf}(i:∀d∈c,∀b∈hc ck d,b∈c){d:bf}(f:c[0]?=W d):iW (nR ck acc c)=iX ck acc d:=by
 obtain⟨b,e,rfl⟩:∃b e,c=b::e:=by
  cases c;cases f
  next b e=>simp
 obtain rfl:b=d:=ap;let j:iw b (b::e)=0:=av;funext g;cases QC (acc:=acc) i g (eY f);show hg _ (qM _ 0 g)=acc _;grind[alR]
end
def qD(e:X (X (J×J)))(b:X Z)(c:Z):X Z:=b.filter λd=>jN (z e d []) (c:J)
def nQ(c:X (X Z))(d:X Z):X Z:=d.foldl (λb e=>ey b<|z c e []) []
abbrev iR:=Option<|X Z
def oM(b:bd)(M:b1):iR->X Z|ah=>M.first|W c=>nQ b.cp c
def kA(b:bd)(M:b1)(d:iR)(c:v):iR:=W<|qD b.aE (oM b M d)<|aG c
def r3(M:b1):iR->Y|ah=>M.empty|W b=>b.any λc=>aL<|c∈M.last
def c8(b:bd)(M:b1)(c:Z):X iR:=cB (hc<|kA b M) [ah] c
def fe(b:bd)(M:b1)(c d:Z):X iR:=jp (c8 b M c)<|ak d<|hc (kA b M)<|z (c8 b M c) c ah
def iE(al:X iR):X (X Z):=al.filterMap id
def ni(al:X iR):Prop:=al=ah::aa W (iE al)
theorem ni.one:ni [ah]:=p
def ni.mem{al:X iR}(q:ni al)b:W b∈al↔b∈iE al:=by simp[iE]
theorem ni.note{al:X iR}(q:ni al)b:ni (note al (W b))/\iE (note al (W b))=ga.note (iE al) b:=by unfold ga.note;by_cases c:W b∈al;rw[ae c,ae<|(q.mem b).1 c];trivial;grind[iE,ni]
theorem ni.jp:∀(b:X iR){al:X iR},ni al->(∀d∈b,d≠ah)->ni (ga.jp al b)|[],_,q,_=>q|ah::b,_,_,c=>b9 p (c _ av)|W d::b,_,q,c=>by exact ni.jp b (q.note d).1 λf e=>c f (by simp[e])
def aiw{c:bd}{M:b1}{e:iR}:∀b∈hc (kA c M) e,b≠ah:=λb d=>by obtain⟨f,_,rfl⟩:=cV.1 d;exact nofun
def DR{c:bd}{M:b1}:∀b,ni (c8 c M b)|0=>ni.one|b+1=>by unfold c8;rw[cB];split;exact ni.jp _ (DR b) aiw;exact DR b
def VB d M b c:ni (fe d M b c):=ni.jp _ (DR b) λf e=>aiw f<|tu e
def aib{c:bd}{M:b1}{b:Z}:eb (c8 c M b):=AR av b
theorem azj c M d b:eb (fe c M d b):=A1 _ aib
theorem ah9 b M c:fe b M c 0=c8 b M c:=a3
def VA{c:bd}{M:b1}{b:Z}:b<Q (c8 c M b)->fe c M b 256=c8 c M (b+1):=by unfold fe;rw[rQ (by simp[aiv])];grind[za,c8,List.getElem?_eq_getElem]
def ah8{s:bd}{M:b1}{E b:Z}(c:b<256):fe s M E (b+1)=note (fe s M E b) (W (qD s.aE (oM s M (z (c8 s M E) E ah)) b)):=by unfold fe;rw[Wz,O1 _ _ c];grind[jp,A2,kA,tq]
def VC{s:bd}{M:b1}{b c:Z}(e:b<Q (c8 s M b)):c<=256->fe s M b c<+:c8 s M (b+1):=by
 rw[<-VA e];unfold fe;have:=by let d:=bG<|Ed c<|ak 256<|hc (kA s M)<|z (c8 s M b) b ah;exact d
 grind[LD,CQ]
def aia{c:bd}{M:b1}{b d:Z}(f:b<Q (c8 c M b))(e:b<=d):(c8 c M d)[b]?=W (z (c8 c M b) b ah):=by apply zX<|o4 e;grind[c8,List.getElem?_eq_getElem]
def Ul{aE:X (X (J×J))}{b:X Z}(q:fT b){R:Z}:fT (qD aE b R):=⟨Mw q.1,λd c=>q.2 d (mL.1 c).1⟩
def Qm{d:X (X Z)}(f:pF d){fY:X Z}:fT (nQ d fY):=by
 have:∀(c:X Z) b,fT b->fT (c.foldl (λb e=>ey b<|z d e []) b):=by
  intro c
  induction c
  simp
  next e c g=>exactλb q=>g _<|q.un<|f e
 exact this fY [] .nil
def aie{b:bd}{M:b1}(c:pF b.cp)(d:KU M){u:iR}:fT (oM b M u):=by
 cases u;exact d.1
 next e=>exact Qm c
def y_(b:bd)(M:b1):bF:=nR (kA b M) (r3 M)<|c8 b M 3000
def Jz{s:bd}{M:b1}(q:Q (c8 s M 3000)<=3000):∀b∈c8 s M 3000,∀d∈hc (kA s M) b,d∈c8 s M 3000:=λb c=>EC q c
def aic{c:bd}{M:b1}{b:Z}:0<Q (c8 c M b):=by rw[DR b];simp
def XT{b:bd}{M:b1}(q:Q (c8 b M 3000)<=3000):hJ (y_ b M):=XS (Jz q) o aic
def QE{b:bd}{M:b1}(q:Q (c8 b M 3000)<=3000):iW (y_ b M)=iX (kA b M) (r3 M) ah:=XR (Jz q) (by rw[DR _];rfl)
def sh(b:aO):u1:=iX (kA (dY b ⟨[],[]⟩).1 (dY b ⟨[],[]⟩).2) (r3 (dY b ⟨[],[]⟩).2) ah
def A9:bF:=⟨0,[],[]⟩
noncomputable def i6(b:aO):bF×J:=if 2000<dG b\/3000<Q (c8 (dY b ⟨[],[]⟩).1 (dY b ⟨[],[]⟩).2 3000)\/300<(lC<|sh b).next.length then(A9,3) else(lC<|sh b,0)
def Rw:X v:=[48,49,50,51,52,53,54,55,56,57,97,98,99,100,101,102,103,104,105,106,107,108,109,110,111,112,113,114,115,116,117,118,119,120,121,122]
def r_(T:Z):v:=z Rw T 0
theorem Ze:∀b<36,∀c<36,r_ b=r_ c->b=c:=cc
theorem aoU:∀b<36,r_ b≠32:=cc
def jY(b:Z):X v:=if q:b<36 then[r_ b] else jY (b/36)++[r_ (b%36)]
 termination_by b
 decreasing_by omega
theorem EN{b:Z}(q:b<36):jY b=[r_ b]:=by rw[jY,Ck q]
theorem CL{b:Z}(q:¬b<36):jY b=jY (b/36)++[r_ (b%36)]:=by rw[jY,Ky q]
def aoD b:0<Q (jY b):=by by_cases q:b<36;simp_all[EN,Nat.succ_pos];simp_all[CL,cX,Nat.succ_pos]
def Rr{bn:Z}(q:bn<1679616):Q (jY bn)<=4:=by
 let c:∀bn<36,Q (jY bn)<=1:=λbn q=>by simp_all[EN,bz]
 let step:∀A,(∀bn<36^A,Q (jY bn)<=A)->1<=A->∀bn<36^(A+1),Q (jY bn)<=A+1:=λA f e bn d=>by by_cases b:bn<36;grind;rw[CL b,cX]<;>grind
 have:=step 3 (step 2 (step 1 (λbn d=>c bn o) o) o) o bn o;omega
def Y7:∀b,∀c∈jY b,c≠32:=by
 intro b
 induction b using Nat.strongRecOn
 next b d=>grind[EN,List.mem_singleton,aoU,CL]
def aoC:∀b c,jY b=jY c->b=c:=by
 intro b
 induction b using Nat.strongRecOn
 next b i=>intro c q;by_cases e:b<36;by_cases d:c<36;grind[EN,Ze,List.cons.inj];have:=aoD<|c/36;rw[EN e,CL d] at q;have:=ep Q q;grind;by_cases d:c<36;grind;rw[CL e,CL d] at q;let⟨f,g⟩:=Wh q p;let j:=i _ o _ f;let k:=Ze _ o _ o (List.cons.inj g).1;omega
def nt(b:X Z):X v:=b.flatMap λT=>jY T++[32]
def azc{c b:X v}(i:∀d∈c,d≠32)(j:∀d∈b,d≠32){e f:X v}(q:c++32::e=b++32::f):c=b/\e=f:=by
 induction c generalizing b
 cases b;simp_all
 next g b=>simp_all
 next l c k=>
  cases b;simp_all
  next g b=>grind
def acv:∀{b i:X Z},nt b=nt i->b=i
|[],[],_=>p|[],T::i,q=>by simp[nt] at q|T::b,[],q=>by simp[nt] at q|T::b,A::i,q=>by
 let c:∀T b,nt (T::b)=jY T++32::nt b:=λT b=>by simp[nt]
 rw[c,c] at q;let⟨d,e⟩:=azc (Y7 T) (Y7 A) q;rw[aoC T A d,acv e]
def acw:∀{L:X Z},(∀b∈L,b<1679616)->Q (nt L)<=5*Q L|[],_=>bz _|T::L,q=>by let c:=Rr<|q T av;let d:=acw (L:=L) λb e=>q b aY;grind[nt,List.length_append,List.length_cons,List.length_nil]
def xe:V:=an .u8 0
theorem XN b d c:aK (cM (b+1) xe++aa bR d) b (bR c)=cM b xe++aa bR (c::d):=by rw[Wx,fJ,An _ _ av,sH,oT];rfl
theorem aBm b(c:X v):(cM (b+1) xe++aa bR c)[b]?=W xe:=by grind
theorem alF{c:Z}{b:X v}{T:Z}:T=Q b->ak T (aU c (cM c xe++aa bR b))=aa bR b:=by simp_all[List.drop_left',sH,rQ,bg,bz]
def Zd{T:Z}(q:T<36):Rw[T]?=W (r_ T):=by rw[r_,dm,cm<|show T<Q Rw from q];rfl
def arC:bb 286 [an aj 36] (a6 ad):=by refine bx func286 [] λm b=>?_;refine jf ?_;exact aA (q:=a3)
def apL{k:X v}{i:Z}(u:i<1679616)(A:Q k<=16000000):dF 245 [.aq 5000 0 (Q (aa bR k)),an hf (i:Z),an aj 36,a6 ad,a6 af] [(5000,.h 1 5 (aa bR k))] (cs [.aq 5000 0 (Q (aa bR (k++jY i))),bV []]) [(5000,.h 1 5 (aa bR (k++jY i)))]:=by
 refine dN func245 [] λE m z=>?_;let s:=Rr u;refine ev (λ_=>p)<|ev (λ_=>p)<|ly.mk nofun λ_=>?_;refine T0 ?_ (aW:=a3);refine ly.mk nofun λ_=>?_;refine aS ?_ (f:=arC);refine ly.mk nofun λ_=>?_;refine lg _ ?_;refine dv (Z×X v×Z) (λd=>⟨[(0,_),(1,an hf (d.1:Z)),(3,_),(4,_),(10,_),(11,_),(12,c 12),(13,an aj ((d.2.2:Z):J)),(17,_)],[(12,.h 1 361<|cM d.2.2 xe++aa bR d.2.1),(5000,.h 1 5<|aa bR k)],[]⟩) (λd=>jY i=jY d.1++d.2.1/\d.1<1679616/\d.2.2+Q d.2.1=65) (λd=>d.1) (i,[],65) (λ⟨b,l,w⟩ ⟨n,x,y⟩=>?_) ⟨bG<|ff _,u,p⟩ .r;dsimp only at n x y⊢;let C:Q (jY b)+Q l<=4:=by rw[n,cX] at s;exact s
 obtain⟨g,rfl⟩:∃g,w=g+1:=⟨w-1,o⟩;apply e<;>intro B
 .refine jg ((g:Z):J) ?_;refine IG ((b/36:Z):J) ?_ (q:=a3);refine rt (b%36) (r_<|b%36) ?_ (a7:=by grind[Pl]) (j:=Zd o);refine aem ?_;refine gN (cM g xe++aa bR (r_ (b%36)::l)) xe (bR<|r_<|b%36) ?_ (j:=aY) (aW:=by grind[XN]);exact a0 (b/36,r_ (b%36)::l,g) ⟨by grind[CL,List.append_assoc],o,a2⟩ o .r
 let t:b<36:=o;rw[EN t] at n;refine jg ((g:Z):J) ?_;refine rt b (r_ b) ?_ (j:=Zd t);refine aem ?_;refine gN (cM g xe++aa bR (jY i)) xe (bR<|r_ b) ?_ (j:=aY) (aW:=by grind[XN]);refine ly.mk nofun λ_=>?_;refine ly.mk (λ_=>?_) nofun;refine II g 65 (Q l+1) ?_ (x5:=oU);refine e7 (aa bR<|k++jY i) ?_ (hl:=.aq (yk:=12) (CT:=361) (xs:=cM g xe++aa bR (jY i)) p p p p p ap (by intro I bA;rcases eX.1 bA with bA|bA;rw[yN bA];rfl;obtain⟨D,_,rfl⟩:=cV.1 bA;rfl)) (aW:=by rw[kZ,alF ap,dn]) (bQ:=a2);exact cE
def akN{b:X v}{c:Z}(e:c<1679616)(d:Q b<=16000000):dF 183 [.aq 5000 0 (Q (aa bR b)),an hf (c:Z),an aj 36] [(5000,.h 1 5 (aa bR b))] (.aq 5000 0 (Q (aa bR (b++jY c)))) [(5000,.h 1 5 (aa bR (b++jY c)))]:=by refine dN func183 [] λi m g=>?_;refine ly.mk nofun λ_=>?_;refine bI [(5000,5000)] ?_ (f:=apL e d);exact cE
def akM{b:X v}{c:Z}(g:c<1679616)(d:Q b<=16000000):dF 128 [.aq 5000 0 (Q (aa bR b)),k c,an aj 36] [(5000,.h 1 5 (aa bR b))] (.aq 5000 0 (Q (aa bR (b++jY c)))) [(5000,.h 1 5 (aa bR (b++jY c)))]:=by
 refine dN func128 [] λl m i=>?_;apply lg _;apply e<;>intro j
 .omega
 refine bI [(5000,5000)] ?_ (f:=akN g d);exact cE
def alD b c(e:c<1679616)(d:Q b<=16000000):dF 79 [.aq 5000 0 (Q (aa bR b)),k c,an aj 36] [(5000,.h 1 5 (aa bR b))] (.aq 5000 0 (Q (aa bR (b++jY c)))) [(5000,.h 1 5 (aa bR (b++jY c)))]:=by refine dN func79 [] λi m g=>?_;refine bI [(5000,5000)] ?_ (f:=akM e d);exact cE
theorem acx{c:X Z}{b:Z}:b<Q c->nt (ak (b+1) c)=nt (ak b c)++jY (z c b 0)++[32]:=by grind[JF,nt]
def Tb L(bQ:∀c∈L,c<1000000)(q:Q L<=3000):bb 236 [.a 1 (aa k L)] (bV (nt L)):=by
 refine bx func236 [] λm l=>?_;refine aZ.eQ 3 1 5 [3] ah<|eC (Q L) (λb=>⟨[(0,_),(4,k b),(3,.aq 3 0<|Q<|aa bR<|nt<|ak b L)],[(3,.h 1 5<|aa bR<|nt<|ak b L)],[]⟩) (λb j=>?_) .r;apply e<;>intro n
 .let d:b<Q L:=o;let i:=acw (L:=ak b L) λc g=>kv (bQ c<|tu g) aR;rw[mK] at i;let g:=bQ _<|cT (I:=0) d;let bA:=Rr (bn:=z L b 0) o;refine bi b (k<|z L b 0) ?_ (j:=eN d);refine bI [(5000,3)] (f:=alD (nt<|ak b L) (z L b 0) o o)<|er ?_;refine e7 (aa bR<|nt<|ak (b+1) L) (aW:=by grind[acx,bR,V.const,V.leaf]) (bQ:=by grind[List.length_map,acx,List.length_append,List.length_cons,List.length_nil])<|bc ?_;exact a0 (b+1) (cq:=.r)
 obtain rfl:b=Q L:=o;exact zP (nt L) (hlen:=av) (bS:=aY)<|aA
section
attribute [local irreducible] jR uB zr xC dV uA zw xB
def auN(y:bF)(L cl:X Z)(T:Z)(q:hJ y)(bQ:∀A∈L,A<Q y.next)(az:Q L<=100000)(ar:Q cl=Q y.next)(B:∀A,z cl A 0<T)(aA:0<T)(I:T<=100000):bb 283 [fp y,.a 1 (aa k L),.a 1 (aa k cl),k T] (fp (IQ y L cl T)):=by
 refine bx func283 [2007,2017,2024] λm R=>?_;have P:=q.start;have ay:=q.len;refine kF T T (aa k<|cM T 0) ?_ (aW:=Nu T);refine jg ((Q L:J)-1-((0:Z):J)) ?_ (q:=av);refine eC (Q L) (λi=>⟨[(1,.a 1<|aa k L),(2,.a 1<|aa k cl),(3,k T),(4,c 4),(8,c 8),(10,an aj<|(Q L:J)-1-(i:Z)),(9,.aq 23 0 T)],[(4,ag 89<|fp y),(8,ag 89<|V.zero qw.z),(23,.h 1 3<|aa k<|nE cl L T i)],[]⟩) λi aw=>?_;apply e<;>intro am
 .have ax:i<Q L:=o;have aC:z L (Q L-1-i) 0<Q y.next:=bQ _<|cT o;refine eS ?_;refine br (λ_=>bi (Q L-1-i) (k<|z L (Q L-1-i) 0) p (a7:=o) (j:=eN o)) ?_;refine br (λ_=>bi (z L (Q L-1-i) 0) (k<|z cl (z L (Q L-1-i) 0) 0) p (j:=eN o)) ?_;refine br (λ_=>bi (Q L-1-i) (k<|z L (Q L-1-i) 0) p (a7:=o) (j:=eN o)) ?_;refine br (λ_=>cC (z cl (z L (Q L-1-i) 0) 0) p (j:=B _)) ?_;refine uJ (aa k<|nE cl L T<|i+1) (k<|z (nE cl L T i) (z cl (z L (Q L-1-i) 0) 0) 0) (k<|z L (Q L-1-i) 0) ?_ (j:=eN (by grind[OR])) (aW:=by rw[nE,hW]);refine fZ ?_;refine jg ((Q L:J)-1-((i+1:Z):J)) ?_ (q:=o);exact a0<|i+1
 obtain rfl:i=Q L:=o;have O:=OR (cl:=cl) (L:=L) (T:=T)<|Q L;have G:=ahP (T:=T) (cl:=cl) (Ko (dO _) P) bQ (Q L)<|bz _;generalize N:nE cl L T (Q L)=sm at O G;refine bi y.start (k<|z cl y.start 0) ?_ (j:=eN o);refine aZ.eQ 1100 1 64 [] (W (11,2)) ?_;refine aZ.eQ 1101 1 4 [] (W (11,1)) ?_;refine dM ?_;refine eC T (λb=>⟨[(2,.a 1<|aa k cl),(3,k T),(4,c 4),(8,c 8),(11,c 11),(12,k b),(9,.aq 23 0 T)],[(4,ag 89<|fp y),(8,ag 89<|V.zero qw.z),(11,ag 89<|bH [k (z cl y.start 0),.aq 1101 0<|Q<|aa a_<|aa (xC y sm)<|bJ b,.aq 1100 0<|Q<|aa b6<|aa (uB y cl sm)<|bJ b]),(23,.h 1 3<|aa k sm),(1100,.h 1 64<|aa b6<|aa (uB y cl sm)<|bJ b),(1101,.h 1 4<|aa a_<|aa (xC y sm)<|bJ b)],[]⟩) λb U=>?_;apply e<;>intro ao
 .have au:b<T:=o;have x:z sm b 0<Q y.next:=G b;have aB:=q.h _ x;refine kF 256 256 (aa k<|jR (zr y cl sm b) 0) ?_ (aW:=WI);refine eC 256 (λg=>⟨[(2,.a 1<|aa k cl),(3,k T),(4,c 4),(8,c 8),(11,c 11),(12,k b),(14,k g),(9,.aq 23 0 T),(13,.aq 55 0 256)],[(4,ag 89<|fp y),(8,ag 89<|V.zero qw.z),(11,ag 89<|bH [k (z cl y.start 0),.aq 1101 0<|Q<|aa a_<|aa (xC y sm)<|bJ b,.aq 1100 0<|Q<|aa b6<|aa (uB y cl sm)<|bJ b]),(23,.h 1 3<|aa k sm),(55,.h 1 3<|aa k<|jR (zr y cl sm b) g),(1100,.h 1 64<|aa b6<|aa (uB y cl sm)<|bJ b),(1101,.h 1 4<|aa a_<|aa (xC y sm)<|bJ b)],[]⟩) λg n=>?_;apply e<;>intro ap
  .have n:g<256:=o;have bA:=JC q x n;refine eS ?_;refine br (λ_=>cC b p (j:=o)) ?_;refine br (λ_=>e9 (k<|z sm b 0) p (j:=eN o)) ?_;refine br (λ_=>bi (z sm b 0) (b6<|dV y<|z sm b 0) p (j:=Gm x)) ?_;refine br (λ_=>bi g (k<|z (dV y<|z sm b 0) g 0) p (j:=Gn bA.1)) ?_;refine br (λ_=>bi (z (dV y<|z sm b 0) g 0) (k<|zr y cl sm b g) p (j:=aqb o)) ?_;refine br (λ_=>cC g p (j:=o)) ?_;refine uJ (aa k<|jR (zr y cl sm b)<|g+1) (k<|z (jR (zr y cl sm b) g) g 0) (k<|zr y cl sm b g) ?_ (j:=eN Kt) (aW:=WN);refine fZ ?_;refine bc ?_;exact a0<|g+1
  obtain rfl:g=256:=o;rw[axX];refine FO 55 256 (aJ:=aa k<|uB y cl sm b) (by simp[ag_]) ?_;refine er ?_;refine e7 (aa b6<|aa (uB y cl sm)<|bJ<|b+1) ?_ (aW:=I8 (uB y cl sm) b6 b) (bQ:=aY);refine eS ?_;refine br (λ_=>cC b p (j:=o)) ?_;refine br (λ_=>e9 (k<|z sm b 0) p (j:=eN o)) ?_;refine br (λ_=>bi (z sm b 0) (a_<|xC y sm b) p (j:=akS (by rw[q.acc]<;>omega))) ?_;refine br (λ_=>lf p) ?_;refine lS 94 (aa a_<|aa (xC y sm)<|bJ<|b+1) ?_ (aW:=I8 (xC y sm) a_ b) (bQ:=aY) (mX:=a3) (vq:=a3);refine fx ?_;refine kU [(94,1101)] ?_;refine bc ?_;exact a0<|b+1
 obtain rfl:b=T:=o;have t:=awW (y:=y) (sm:=sm) B I;have u:(fv y cl sm b).next.length=b:=by unfold fv;rw[bg,i1]
 have C:=ad0 (fv y cl sm b) t b<|bG u;have E:eb (ca (fv y cl sm b) b):=wU _ b;have s:=oD t b;have D:=qz E s;rw[u] at s D;have M:IQ y L cl b=Uu (fv y cl sm b) (ca (fv y cl sm b) b) (q6 (ca (fv y cl sm b) b) b (Q (ca (fv y cl sm b) b))):=by unfold IQ;rw[N]
 rw[M];generalize ca (fv y cl sm b) b=K at C E s D⊢;refine aZ.iK 1100 ?_;refine aZ.iK 1101 ?_;refine dM ?_;refine aS ?_ (f:=C);refine kF b b (aa k<|q6 K b 0) ?_ (aW:=Nu b);refine eC (Q K) (λd=>⟨[(8,c 8),(11,c 11),(15,.a 1<|aa k K),(17,k d),(16,.aq 99 0 b)],[(8,ag 89<|V.zero qw.z),(11,ag 89<|fp<|fv y cl sm b),(99,.h 1 3<|aa k<|q6 K b d)],[]⟩) λd j=>?_;apply e<;>intro Y
 .have l:d<Q K:=o;have v:z K d 0<b:=s _<|cT l;refine bi d (k<|z K d 0) ?_ (j:=eN l);refine cC (z K d 0) ?_ (j:=v);refine gN (aa k<|q6 K b<|d+1) (k<|z (q6 K b d) (z K d 0) 0) (k d) ?_ (j:=eN (by grind[K1])) (aW:=by rw[q6,hW]);refine bc ?_;exact a0<|d+1
 obtain rfl:d=Q K:=o;have H:=K1 (K:=K) (T:=b)<|Q K;generalize S:q6 K b (Q K)=w at H;refine aZ.eQ 1200 1 64 [] (W (18,2)) ?_;refine aZ.eQ 1201 1 4 [] (W (18,1)) ?_;refine dM ?_;refine eC (Q K) (λd=>⟨[(8,c 8),(11,c 11),(15,.a 1<|aa k K),(18,c 18),(19,k d),(16,.aq 99 0 b)],[(8,ag 89<|V.zero qw.z),(11,ag 89<|fp<|fv y cl sm b),(18,ag 89<|bH [an aj 0,.aq 1201 0<|Q<|aa a_<|aa (xB (fv y cl sm b) K)<|bJ d,.aq 1200 0<|Q<|aa b6<|aa (uA (fv y cl sm b) K w)<|bJ d]),(99,.h 1 3<|aa k w),(1200,.h 1 64<|aa b6<|aa (uA (fv y cl sm b) K w)<|bJ d),(1201,.h 1 4<|aa a_<|aa (xB (fv y cl sm b) K)<|bJ d)],[]⟩) (λd j=>?_) .r;apply e<;>intro ak
 .have l:d<Q K:=o;have v:z K d 0<b:=s _<|cT l;have F:z K d 0<(fv y cl sm b).next.length:=by rw[u];exact v
  refine kF 256 256 (aa k<|jR (zw (fv y cl sm b) K w d) 0) ?_ (aW:=WI);refine eC 256 (λg=>⟨[(8,c 8),(11,c 11),(15,.a 1<|aa k K),(18,c 18),(19,k d),(21,k g),(16,.aq 99 0 b),(20,.aq 120 0 256)],[(8,ag 89<|V.zero qw.z),(11,ag 89<|fp<|fv y cl sm b),(18,ag 89<|bH [an aj 0,.aq 1201 0<|Q<|aa a_<|aa (xB (fv y cl sm b) K)<|bJ d,.aq 1200 0<|Q<|aa b6<|aa (uA (fv y cl sm b) K w)<|bJ d]),(99,.h 1 3<|aa k w),(120,.h 1 3<|aa k<|jR (zw (fv y cl sm b) K w d) g),(1200,.h 1 64<|aa b6<|aa (uA (fv y cl sm b) K w)<|bJ d),(1201,.h 1 4<|aa a_<|aa (xB (fv y cl sm b) K)<|bJ d)],[]⟩) (λg n=>?_) .r;apply e<;>intro al
  .have n:g<256:=o;have bA:=JC t F n;rw[u] at bA;refine eS ?_;refine br (λ_=>bi d (k<|z K d 0) p (j:=eN l)) ?_;refine br (λ_=>bi (z K d 0) (b6<|dV (fv y cl sm b)<|z K d 0) p (j:=Gm F)) ?_;refine br (λ_=>bi g (k<|z (dV (fv y cl sm b)<|z K d 0) g 0) p (j:=Gn bA.1)) ?_;refine br (λ_=>cC (z (dV (fv y cl sm b)<|z K d 0) g 0) p (j:=bA.2)) ?_;refine br (λ_=>e9 (k<|zw (fv y cl sm b) K w d g) p (j:=aqC o)) ?_;refine br (λ_=>cC g p (j:=o)) ?_;refine uJ (aa k<|jR (zw (fv y cl sm b) K w d)<|g+1) (k<|z (jR (zw (fv y cl sm b) K w d) g) g 0) (k<|zw (fv y cl sm b) K w d g) ?_ (j:=eN Kt) (aW:=WN);refine fZ ?_;refine bc ?_;exact a0 (g+1) (cq:=.r)
  obtain rfl:g=256:=o;rw[axV];refine FO 120 256 (aJ:=aa k<|uA (fv y cl sm b) K w d) (by simp[axW,fv]) ?_;refine er ?_;refine e7 (aa b6<|aa (uA (fv y cl sm b) K w)<|bJ<|d+1) ?_ (aW:=I8 (uA (fv y cl sm b) K w) b6 d) (bQ:=aY);refine eS ?_;refine br (λ_=>bi d (k<|z K d 0) p (j:=eN l)) ?_;refine br (λ_=>bi (z K d 0) (a_<|xB (fv y cl sm b) K d) p (j:=alC (by rw[t.acc]<;>omega))) ?_;refine br (λ_=>lf p) ?_;refine lS 159 (aa a_<|aa (xB (fv y cl sm b) K)<|bJ<|d+1) ?_ (aW:=I8 (xB (fv y cl sm b) K) a_ d) (bQ:=aY) (mX:=a3) (vq:=a3);refine fx ?_;refine kU [(159,1201)] ?_;refine bc ?_;exact a0 (d+1) (cq:=.r)
 obtain rfl:d=Q K:=o;exact ib 1200<|ib 1201<|dB bq
end
section
def uh(b:X Z):V:=bV<|nt b
def Ik:q0 (λ_=>dW) uh:=q0.str λ_ _ _ _ q=>acv q
def mY{bf:Type} [iu bf](d:Z->Z)(b:X bf)(c:bf):Z:=if c∈b then d (hn b c) else 0
def Fo{bf:Type} [iu bf]{d:Z->Z}{b:X bf}{c:bf}(q:c∈b):mY d b c=d (hn b c):=ae q
def wT{bf:Type} [iu bf](b:X bf)(c:bf):Y:=aL<|c∈b
theorem te{bf:Type} [iu bf]{b:X bf}{c:bf}:wT b c↔c∈b:=ir
def Ir{bf:Type} [iu bf]{H:bf->Prop}{c:bf->V}{s:Z->Z}{d:bt}(e:q0 H c){U:bf}{nh:X bf}(f:H U)(q:∀j∈nh,H j)(g:V.const d=k 0):td (fO c (λi=>k<|s i) nh) (c U) d af=cs [k (mY s nh U),a6 (wT nh U)]:=by rw[ar7 e f q];unfold mY;by_cases b:U∈nh;rw[ae b,ae b];rfl;rw[ab b,ab b,g];rfl
def atd{bf:Type} [iu bf]{H:bf->Prop}{b:bf->V}{s:Z->Z}{i:bt}(c:q0 H b){U:bf}{nh:X bf}(e:H U)(q:∀g∈nh,H g)(d:U∈nh):td (fO b (λf=>k<|s f) nh) (b U) i ad=k (s (hn nh U)):=by unfold td;rw[ab av,aci c e q,ae d];rfl
def MR{c:Z->V}{b:X (X Z)}:n1 ml (fO uh c b):=S8 λ_ _=>p
def o_(b:bF)(d:X Z)(e c:Z):Z:=z d (z (dV b e) c 0) 0
def Sb{b:bF}{d:X Z}{e c:Z}(q:z (dV b e) c 0<Q d):(aa k d)[z (dV b e) c 0]?=W (k (o_ b d e c)):=eN q
def lO(d:bF)(b:X Z)(c e:Z):X Z:=z b c 0::oy (qL (o_ d b c) e)
def Vi b c d:lO b c d 256=oK b c d:=p
def ahk{c:bF}{d:X Z}{e b:Z}:b=0\/o_ c d e b≠o_ c d e (b-1)->lO c d e (b+1)=lO c d e b++[b,o_ c d e b]:=by simp_all[lO,qL,ae,oy,Py]
def ahm{c:bF}{d:X Z}{e b:Z}:¬(b=0\/o_ c d e b≠o_ c d e (b-1))->lO c d e (b+1)=lO c d e b:=by simp_all[lO,qL,ab,ff]
theorem ag9 b:∀A,Q (qL b A)<=A|0=>bz _|A+1=>by rw[qL,cX];have:=ag9 b A;grind
theorem apY b:Q (oy b)=2*Q b:=by
 induction b
 rfl
 next d b c=>grind[oy,List.length_append,List.length_cons,List.length_nil]
theorem ahl c d e{b:Z}:b<=256->Q (lO c d e b)<=513:=by grind[lO,List.length_cons,apY,ag9,o_]
def Vj{f:bF}{e:X Z}{g:Z}(q:∀d,z e d 0<200000):∀c≤256,∀d∈lO f e g c,d<1000000|0,_,d,b=>by grind[lO,qL,oy]|c+1,j,d,b=>by by_cases i:c=0\/o_ f e g c≠o_ f e g (c-1);rw[ahk i] at b;rcases eX.1 b with b|b;exact Vj q c o d b;grind[dV,o_];rw[ahm i] at b;exact Vj q c o d b
def aeV{d:bF}{e b:X Z}{i:Z}(m:Q (fV d e b (Q b))<=i)(k:0<i):∀c≤Q b,∀f,z (iM d e b c) f 0<i
|0,_,f=>by grind[iM]|c+1,j,f=>by
 rw[iM,vm];split;let l:oK d e (z b c 0)∈fV d e b (c+1):=Ij.2 ⟨_,by grind[pq],p⟩;let n:=Bm l;let q:Q (fV d e b<|c+1)<=Q (fV d e b<|Q b):=by
  let g:ak (Q b) b=ak (c+1) b++aU (c+1) b:=by rw[g5,Ed]
  unfold fV;rw[g,dn,LD];exact(CQ _ _).length_le
 omega;exact aeV m k c o f
attribute [local irreducible] o_ lO dV nt fV iM mu mY ca
def axJ(y:bF)(q:hJ y):bb 238 [fp y] (fp (lC (iW y))):=by
 refine bx func238 [2008,2020,2025] λm aw=>?_;have aG:=q.start;have aF:=q.len;have n:=oD q<|Q y.next;have S:=qz (wU y<|Q y.next) n;have C:=ad0 y q (Q y.next) p;have w:=λcl T=>auL (y:=y) (cl:=cl) (T:=T) q;have G:=λcl T (A:AE y (ca y<|Q y.next) cl T)=>A.step q p;have F:=AE.start n;have Y:0<Q (ca y (Q y.next)):=PD<|TQ (y:=y) (E:=Q y.next);generalize ca y (Q y.next)=L at n S C w G F Y;refine aS ?_ (f:=C);refine kF (Q y.next) (Q y.next) (aa k<|mu y L 0) ?_ (j:=av) (j1:=av) (aW:=by simp[mu,Nu]);refine eC (Q L) (λE=>⟨[(1,c 1),(2,c 2),(3,.a 1<|aa k L),(5,k E),(4,.aq 20 0<|Q y.next)],[(1,ag 89<|fp y),(2,ag 89<|V.zero qw.z),(20,.h 1 3<|aa k<|mu y L E)],[]⟩) λE j=>?_;apply e<;>intro az
 .have b:E<Q L:=o;have d:z L E 0<Q y.next:=n _<|cT b;refine eg ?_;refine bi E (k<|z L E 0) ?_ (j:=eN b);refine bi (z L E 0) (a_<|hg y<|z L E 0) ?_ (j:=ED (by rw[q.acc]<;>omega));apply e<;>intro v
  .refine bi E (k<|z L E 0) ?_ (j:=eN b);refine cC (z L E 0) ?_ (j:=d);refine gN (aa k<|mu y L<|E+1) (k<|z (mu y L E) (z L E 0) 0) (k 1) ?_ (j:=eN (by grind[EH])) (aW:=by rw[mu,ae v,hW]);refine bc ?_;exact a0<|E+1
  rw[show mu y L E=mu y L (E+1) by rw[mu,ab v]];refine bc ?_;exact a0<|E+1
 obtain rfl:E=Q L:=o;refine aZ.x3 20 (Q y.next) (aJ:=aa k<|mu y L<|Q L) (by simp[EH]) ?_;refine dM ?_;refine dv (X Z×Z) (λl=>⟨[(1,c 1),(2,c 2),(3,.a 1<|aa k L),(4,.a 1<|aa k l.1),(6,k l.2)],[(1,ag 89<|fp y),(2,ag 89<|V.zero qw.z)],[]⟩) (λl=>AE y L l.1 l.2) (λl=>Q y.next+1-l.2) (mu y L<|Q L,0) (λ⟨cl,T⟩ aH=>?_) F;dsimp only at aH⊢;let⟨al,aK,aL,aM,am⟩:=G cl T aH;have aD:=aH.len;have M:=aH.lt;refine kF (Q y.next) (Q y.next) (aa k<|iM y cl L 0) ?_ (j:=av) (j1:=av) (aW:=by simp[iM,Nu]);refine eC (Q L) (λE=>⟨[(1,c 1),(2,c 2),(3,.a 1<|aa k L),(4,.a 1<|aa k cl),(6,k T),(8,.eW 45),(9,k E),(7,.aq 44 0<|Q y.next)],[(1,ag 89<|fp y),(2,ag 89<|V.zero qw.z),(44,.h 1 3<|aa k<|iM y cl L E),(45,h8 (fO uh (λg=>k<|id g)<|fV y cl L E)<|Q<|fV y cl L E)],[]⟩) λE j=>?_;apply e<;>intro aA
 .have b:E<Q L:=o;have d:z L E 0<Q y.next:=n _<|cT b;have B:=acC (y:=y) (cl:=cl) b;refine bi E (k<|z L E 0) ?_ (j:=eN b);refine bi (z L E 0) (k<|z cl (z L E 0) 0) ?_ (j:=eN o);refine pW ?_;refine eC 256 (λR=>⟨[(1,c 1),(2,c 2),(3,.a 1<|aa k L),(4,.a 1<|aa k cl),(6,k T),(8,.eW 45),(9,k E),(11,k R),(7,.aq 44 0<|Q y.next),(10,.aq 59 0<|Q<|aa k<|lO y cl (z L E 0) R)],[(1,ag 89<|fp y),(2,ag 89<|V.zero qw.z),(44,.h 1 3<|aa k<|iM y cl L E),(59,.h 1 3<|aa k<|lO y cl (z L E 0) R),(45,h8 (fO uh (λg=>k<|id g)<|fV y cl L E)<|Q<|fV y cl L E)],[]⟩) λR u=>?_;apply e<;>intro aB
  .have u:R<256:=o;have bA:=JC q d u;refine eg ?_;apply ev;intro aE;have O:=JC q d (R:=R-1) o;refine bi E (k<|z L E 0) ?_ (j:=eN b);refine bi (z L E 0) (b6<|dV y<|z L E 0) ?_ (j:=Gm d);refine bi R (k<|z (dV y<|z L E 0) R 0) ?_ (j:=Gn bA.1);refine bi (z (dV y<|z L E 0) R 0) (k<|o_ y cl (z L E 0) R) ?_ (j:=Sb o);refine bi E (k<|z L E 0) ?_ (j:=eN b);refine bi (z L E 0) (b6<|dV y<|z L E 0) ?_ (j:=Gm d);refine jg ((R-1:Z):J) ?_ (q:=o);refine bi (R-1) (k<|z (dV y<|z L E 0) (R-1) 0) ?_ (j:=Gn O.1);refine bi (z (dV y<|z L E 0) (R-1) 0) (k<|o_ y cl (z L E 0)<|R-1) ?_ (j:=Sb o);exact p;apply e<;>intro aC
   .have ax:R=0\/o_ y cl (z L E 0) R≠o_ y cl (z L E 0) (R-1):=o;refine eS ?_;refine br (λ_=>bi E (k<|z L E 0) p (j:=eN b)) ?_;refine br (λ_=>bi (z L E 0) (b6<|dV y<|z L E 0) p (j:=Gm d)) ?_;refine br (λ_=>bi R (k<|z (dV y<|z L E 0) R 0) p (j:=Gn bA.1)) ?_;refine br (λ_=>bi (z (dV y<|z L E 0) R 0) (k<|o_ y cl (z L E 0) R) p (j:=Sb o)) ?_;refine br (λ_=>lf p) ?_;refine lS 115 (aa k<|lO y cl (z L E 0)<|R+1) ?_ (hl:=.a p p p p (by simp[k,V.cells];rfl)) (aW:=by simp_all[ahk,dn]) (bQ:=by grind[ahl]) (mX:=a3) (vq:=a3);refine kU [(115,59)] ?_;refine bc ?_;exact a0<|R+1
   have ak:¬(R=0\/o_ y cl (z L E 0) R≠o_ y cl (z L E 0) (R-1)):=o;rw[<-ahm ak];refine bc ?_;exact a0<|R+1
  obtain rfl:R=256:=o;refine aZ.iK 59 ?_;refine dM ?_;refine aS ?_ (f:=Tb (lO y cl (z L E 0) 256) (Vj M 256<|bz _) (by have:=ahl y cl (z L E 0)<|bz 256;omega));refine ul (cs [k (mY id (fV y cl L E)<|lO y cl (z L E 0) 256),a6<|wT (fV y cl L E)<|lO y cl (z L E 0) 256]) ?_ MR (eM:=Ir (H:=λ_=>dW) (s:=id) (nh:=fV y cl L E) (U:=lO y cl (z L E 0) 256) Ik c1 (λ_ _=>c1) p);apply e<;>intro K
  focus
   have D:lO y cl (z L E 0) 256∉fV y cl L E:=λI=>K<|te.2 I;have r:fV y cl L (E+1)=fV y cl L E++[lO y cl (z L E 0) 256]:=by rw[B,<-Vi,note,ab D]
   have x:lO y cl (z L E 0) 256∈fV y cl L (E+1):=by rw[r];simp
   refine T7 (Q<|fV y cl L E) ?_ (a7:=S9);refine zQ (fO uh (λg=>k<|id g)<|fV y cl L<|E+1) (Q<|fV y cl L<|E+1) ?_ MR (hu:=by rw[r];exact Ih (H:=λ_=>dW) (vM:=λg=>k<|id g) Ik c1 (λ_ _=>c1) D)
  rotate_left
  focus
   have t:lO y cl (z L E 0) 256∈fV y cl L E:=te.1 ap;have r:fV y cl L (E+1)=fV y cl L E:=by rw[B,<-Vi,note,ae t]
   rw[<-r] at t⊢;have x:=t
  all_goals refine eS ?_;refine br (λ_=>bi E (k<|z L E 0) p (j:=eN b)) ?_;refine Pp [45] ?_;apply AG.mk;intro aI;refine ul (k<|hn (fV y cl L<|E+1)<|lO y cl (z L E 0) 256) ?_ MR (eM:=atd (H:=λ_=>dW) (s:=id) (nh:=fV y cl L<|E+1) (U:=lO y cl (z L E 0) 256) Ik c1 (λ_ _=>c1) x);exact p;refine br (λ_=>cC (z L E 0) p (j:=d)) ?_;refine uJ (aa k<|iM y cl L<|E+1) (k<|z (iM y cl L E) (z L E 0) 0) (k<|hn (fV y cl L<|E+1)<|lO y cl (z L E 0) 256) ?_ (j:=eN (by grind[FN])) (aW:=by rw[iM,hW,Vi]);refine fZ ?_;refine bc ?_;exact a0<|E+1
 obtain rfl:E=Q L:=o;refine aZ.x3 44 (Q y.next) (aJ:=aa k<|iM y cl L<|Q L) (by simp[FN]) ?_;refine dM ?_;refine T7 (Q<|fV y cl L<|Q L) ?_ (a7:=S9);apply e<;>intro ay
 .have N:Q (fV y cl L (Q L))=T:=o;let⟨ao,ar,au⟩:=am N;have P:=w (iM y cl L<|Q L) T ar au o ao;rw[<-P];refine aS ?_ (f:=auN y L (iM y cl L<|Q L) T q n o (FN (y:=y) (cl:=cl) (L:=L)<|Q L) (aeV (i:=T) o o (Q L)<|bz _) o o);exact dB bq
 refine T7 (Q<|fV y cl L<|Q L) ?_ (a7:=S9);exact a0 (iM y cl L<|Q L,Q<|fV y cl L<|Q L) al o
end
def W8(M:X (J×J)):Prop:=Q M<=256/\∀b∈M,0<=b.1/\b.1<=b.2/\b.2<=255
def wd(b:bd):Prop:=∀M∈b.aE,W8 M
def y5(c:bd->bd×b1):Prop:=∀b,wd b->wd (c b).1
theorem SP{c:bd->bd×b1}(d:y5 c):∀A{b:bd}{K:b1},wd b->wd (la c A b K).1|0,b,K,q=>q|A+1,b,K,q=>by exact SP d A<|d b q
theorem afn{c:bd->bd×b1}(d:y5 c):∀A{b:bd}{K:b1},wd b->wd (p2 c A b K).1|0,b,K,q=>q|A+1,b,K,q=>by exact afn d A<|d b q
def axz{b:bd->bd×b1}(c:y5 b){d e:J}:y5 (qH b d e):=λf q=>by unfold qH;split;exact c _<|SP c _ q;grind[afn,SP]
theorem Xl:∀{L:X aO}{b:bd}{K:b1},(∀c∈L,y5 (dY c))->wd b->wd (pG L b K).1|[],b,K,_,q=>cc|c::L,b,K,d,q=>by exact Xl (L:=L) (λf e=>d f<|ku _ e)<|d c (kO ..) b q
theorem Xq:∀{L:X aO}{b:bd}{K:b1},(∀c∈L,y5 (dY c))->wd b->wd (q4 L b K).1|[],b,K,_,q=>cc|c::L,b,K,d,q=>by exact Xq (L:=L) (λf e=>d f<|ku _ e)<|d c (kO ..) b q
def ak7{b:X aO}{d e:J}(g:∀c∈b,y5 (dY c)):y5 (xE b d e):=λf q=>by
 cases b;trivial
 next c b=>exact axz (g c<|kO ..) f q
def alf:∀c,e_ c->y5 (dY c):=aO.ind λc i he f q=>by let⟨⟨⟨k,r⟩,s,t,u,v,w,x,y,l,m,n⟩,g⟩:=p0.1 he;let j:=λe d=>i e d<|g e d;rw[Qj];split;exact q;split;intro M b;rcases eX.1 b with b|b;exact q M b;rw[ea.1 b];trivial;split;grind[Xl];split;grind[Xq];split;exact ak7 j f q;omega
def azd{b:bd}(q:wd b)c:W8 (z b.aE c []):=by
 rw[dm];cases d:b.aE[c]?;trivial
 next M=>exact q M<|eY d
def oG(b:bd)(M:b1)(c d:Z):Z:=hn (c8 b M<|c+1)<|kA b M (z (c8 b M c) c ah)<|gk d
def rF(b:bd)(M:b1)(c:Z):X Z:=jR (oG b M c) 256
def ayg b M c:Q (rF b M c)=256:=Vf
def auP{c:bd}{M:b1}{b:Z}(e:b<Q (c8 c M b)){d:Z}:kA c M (z (c8 c M b) b ah) (gk d)∈c8 c M (b+1):=by apply X0 (xp b) (aia e<|pv b) _;have:=eY<|O1 (kA c M) (z (c8 c M b) b ah)<|nc<|gk d;grind[UInt8.ofNat_toNat]
def ax0{b:bd}{M:b1}{c:Z}(q:Q (c8 b M c)<=c)(m:c<=Q (c8 b M c))(n:c<=3000):c8 b M 3000=c8 b M c/\aa (rF b M) (bJ c)=(y_ b M).next:=by
 let g:c8 b M _=c8 b M c:=sX q n;let j:=Km q m;refine⟨g,?_⟩;unfold y_ nR;rw[g];have:=On (c8 b M c) ah λf=>aa (hn<|c8 b M c)<|hc (kA b M) f;rw[j] at this;show aa _ (bJ c)=(c8 b M c).map λf=>aa (hn _)<|hc _ f;rw[<-this];refine iF λd e=>?_;let e:=g4.1 e;let i:d<Q (c8 b M d):=by refine Ch λk=>?_;have:c8 b M c=c8 b M d:=sX k<|xn e;rw[this] at j;omega
 let l:z (c8 b M c) d ah=z (c8 b M d) d ah:=by rw[dm,aia i<|xn e];rfl
 rw[l,rF,Ve,hc,gh];refine iF λr s=>?_;exact bG<|zE (o4<|show d+1<=c from e)<|auP i
def ari{bf:Type} [iu bf]{c b:bf}d:c≠b->hn (c::d) b=hn d b+1:=by grind[hn,beq_eq_false_iff_ne]
def arj{bf p8:Type} [iu bf] [iu p8]{d:bf->p8}(q:∀b c,d b=d c->b=c)e b:hn (aa d e) (d b)=hn e b:=SH (λb c _ _ f=>q b c f) (λ_ _=>c1) c1
theorem abK{d:Type} [iu d]b(c:d):hn (ah::aa W b) (W c)=hn b c+1:=by simp[ari,arj,oc]
def auQ{s:bd}{M:b1}{E R:Z}(j:E<Q (c8 s M E))(e:R<256){fY:X Z}(f:fY=qD s.aE (oM s M (z (c8 s M E) E ah)) R)(g:fY∉iE (fe s M E R)):fe s M E (R+1)=fe s M E R++[W fY]/\iE (fe s M E (R+1))=iE (fe s M E R)++[fY]/\Q (fe s M E R)=oG s M E R:=by
 let c:=ah8 (s:=s) (M:=M) (E:=E) e;let d:=VB s M E R;rw[<-f] at c;let b:fe s M E (R+1)=fe s M E R++[W fY]:=by rw[c,note,ab λi=>g<|(d.mem fY).1 i]
 refine⟨b,?_,?_⟩;rw[c,(d.note fY).2,note,ab g];let bA:kA s M (z (c8 s M E) E ah) (gk R)=W fY:=by rw[kA,tq e,f]
 rw[oG,bA,zE (VC j<|show R+1<=256 by omega) (by rw[b];simp),b];have:=Dh (L:=fe s M E R++[W fY]) (A:=Q<|fe s M E R) (by grind[azj]) av;grind
def auR{s:bd}{M:b1}{E R:Z}(i:E<Q (c8 s M E))(d:R<256){fY:X Z}(e:fY=qD s.aE (oM s M (z (c8 s M E) E ah)) R)(f:fY∈iE (fe s M E R)):fe s M E (R+1)=fe s M E R/\mY (·+1) (iE (fe s M E R)) fY=oG s M E R:=by
 let g:=ah8 (s:=s) (M:=M) (E:=E) d;let c:=VB s M E R;rw[<-e] at g;let b:=(c.mem fY).2 f;exists by rw[g,note,ae b]
 let bA:kA s M (z (c8 s M E) E ah) (gk R)=W fY:=by rw[kA,tq d,e]
 rw[Fo f,oG,bA,zE (VC i<|show R<=256 by omega) b];let j:hn (fe s M E R) (W fY)=hn (ah::aa W (iE (fe s M E R))) (W fY):=by rw[<-c]
 grind[abK,iE,fe]
def K3:V:=bH [an aj 0,.ba,.ba]
def VI(b:aO):V:=if 3000<Q (c8 (dY b ⟨[],[]⟩).1 (dY b ⟨[],[]⟩).2 3000) then cs [K3,a6 ad] else cs [fp (y_ (dY b ⟨[],[]⟩).1 (dY b ⟨[],[]⟩).2),a6 af]
def abR{c:X Z}(q:jV c){b:Z}(e:b<Q c):z c b 0∉ak b c:=λd=>by let⟨g,f,i⟩:=lU.1 d;rw[mK] at f;have:=Cc.1 q g b o e o;simp_all
def aas{b:X Z}{c:Z->Y}{A:Z}:A<Q b->v3 c (ak (A+1) b)=v3 c (ak A b)++(if c (z b A 0) then[z b A 0] else[]):=by grind[JF]
def Xv{c:X (X Z)}{b:X Z}{A:Z}:A<Q b->nQ c (ak (A+1) b)=ey (nQ c (ak A b)) (z c (z b A 0) []):=by grind[nQ,JF]
def XM{b:X Z}{c:Z->Y}{A:Z}:A<Q b->(ak (A+1) b).any c=((ak A b).any c||c (z b A 0)):=by grind[JF]
def Xu{f:X (X Z)}{T:Z}(i:∀e,∀b∈z f e [],b<T){g:X Z}:∀b∈nQ f g,b<T:=by
 have:∀(d c:X Z),(∀b∈c,b<T)->∀b∈d.foldl (λc e=>ey c<|z f e []) c,b<T:=by
  intro d
  induction d
  simp
  next e d j=>grind[JN]
 exact this g [] λ_ q=>b9 q ka
def nf(b:bd):Prop:=∀c,∀d∈z b.cp c [],d<Q b.aE
def Cr(d:bd->bd×b1)(c:Z):Prop:=∀b,jx b->nf b->Q b.aE+c<=2000->nf (d b).1
def ac6{e:X Z}{T:Z}(f:∀b∈e,b<T):∀B{d:X (X Z)},(∀c,∀b∈z d c [],b<T)->∀c,∀b∈z (lc d B e) c [],b<T|[],_,q=>q|i::B,d,q=>by refine ac6 f B λc b g=>?_;grind[vm,pV]
def nf.zJ{b:bd}(q:nf b){B c:X Z}(d:∀e∈c,e<Q b.aE):nf ⟨b.aE,lc b.cp B c⟩:=ac6 d B q
theorem SO{d:bd->bd×b1}{c:Z}(i:tB d c)(k:Cr d c):∀A{b:bd}{K:b1},jx b->nf b->Q b.aE+A*c<=2000->fB K (Q b.aE)->nf (la d A b K).1|0,b,K,_,q,_,_=>q|A+1,b,K,j,q,n,r=>by rw[iG,vZ] at n;let⟨m,g,e⟩:=i b j o;let l:(qx _ K (d b).2).aE.length=Q b.aE+c:=g;exact SO i k A (m.join K e) ((k b j q o).zJ λt s=>by rw[g];exact e.f t s) o (by rw[l];exact(r.mono o).join e)
theorem afk{d:bd->bd×b1}{c:Z}(i:tB d c)(k:Cr d c):∀A{b:bd}{K:b1},jx b->nf b->Q b.aE+A*c<=2000->fB K (Q b.aE)->nf (p2 d A b K).1|0,b,K,_,q,_,_=>q|A+1,b,K,j,q,n,r=>by rw[iG,vZ] at n;let⟨m,g,e⟩:=i b j o;let l:(qx _ K (d b).2.mD).aE.length=Q b.aE+c:=g;exact afk i k A (m.join K e.mD) ((k b j q o).zJ λt s=>by rw[g];exact e.f t s) o (by rw[l];exact(r.mono o).join e.mD)
theorem axw{d:bd->bd×b1}{g:Z}(i:tB d g)(w:Cr d g){b c:J}{e:bd}(D:0<=b)(E:c=-1\/b<=c)(n:jx e)(q:nf e)(j:Q e.aE+g*(if c=-1 then aB (b+1) else aB c)<=2000):nf (qH d b c e).1:=by
 unfold qH;by_cases m:c=-1;rw[ae m] at j;rw[ae m];have l:aB (b+1)=aB b+1:=o;rw[l,Ap,Aq,lV] at j;have t:=If i (aB b) (K:=⟨[],[],af,ad⟩) n o<|fB.nil _ _ _;have s:=SO i w (aB b) (K:=⟨[],[],af,ad⟩) n q o<|fB.nil _ _ _;generalize la d _ e _=k at t s⊢;let⟨u,A,B⟩:=t;let⟨C,x,y⟩:=i k.1 u o;have v:∀r∈(d k.1).2.first,r<(d k.1).1.aE.length:=λr z=>by rw[x];exact y.f r z
 exact((w k.1 u s o).zJ v).zJ v;rw[ab m] at j;have l:aB c=aB b+aB (c-b):=o;rw[l,Ap,lV,lV g] at j;have:=If i (aB b) (K:=⟨[],[],af,ad⟩) n o<|fB.nil _ _ _;grind[SO,fB.nil,la,afk]
theorem Xi:∀{L:X aO}{b:bd}{K:b1},(∀c∈L,tB (dY c) (dG c))->(∀c∈L,Cr (dY c) (dG c))->jx b->nf b->Q b.aE+e0 L<=2000->fB K (Q b.aE)->nf (pG L b K).1|[],b,K,_,_,e,q,_,m=>cc|c::L,b,K,k,l,e,q,s,m=>by rw[e0] at s;let⟨r,j,d⟩:=k c (kO ..) b e o;let n:(qx _ K (dY c b).2).aE.length=Q b.aE+dG c:=j;exact Xi (L:=L) (λi g=>k i<|ku _ g) (λi g=>l i<|ku _ g) (r.join K d) ((l c (kO ..) b e q o).zJ λu t=>by rw[j];exact d.f u t) o (by rw[n];exact(m.mono o).join d)
def Xn:∀{L:X aO}{b:bd}{K:b1},(∀c∈L,tB (dY c) (dG c))->(∀c∈L,Cr (dY c) (dG c))->jx b->nf b->Q b.aE+e0 L<=2000->fB K (Q b.aE)->nf (q4 L b K).1|[],b,K,_,_,d,q,_,j=>cc|c::L,b,K,g,i,d,q,n,j=>by rw[e0] at n;let⟨k,l,m⟩:=g c (kO ..) b d o;exact Xn (L:=L) (λf e=>g f<|ku _ e) (λf e=>i f<|ku _ e) k (i c (kO ..) b d q o) o (by rw[l];exact(j.mono o).u9 m _ _)
def Xr:∀b,e_ b->Cr (dY b) (dG b):=aO.ind λb t he f r q A=>by
 let⟨⟨⟨C,G⟩,H,w,I,J,K,L,M,D,E,F⟩,m⟩:=p0.1 he;have u:∀c∈b.aD,Cr (dY c) (dG c):=λc e=>t c e<|m c e;have v:∀c∈b.aD,tB (dY c) (dG c):=λc e=>CD c<|m c e;have k:dG b<=2000:=o;rw[Qj];split;exact q;split;intro g i d;have d:i∈z (f.cp++[[]]) g []:=d;show i<Q (f.aE++[b.set]);rw[cX];rw[dm,oQ] at d;split at d;rw[<-dm] at d;have:=q g i d;omega;exfalso;cases l:g-Q f.cp;rw[l] at d;simp at d
 next B=>rw[l] at d;simp at d
 split;grind[Ls,Xi,fB.nil];split;have:=Ls o o k;exact Xn v u r q o<|fB.nil _ _ _;split;rename_i j;have:=YQ j k;let⟨y,N,O,P⟩:=w j;have n:=Fp y;have s:0<Q b.aD:=o;have hm:z b.aD 0 ai∈b.aD:=cT s;generalize z b.aD 0 ai=x at n hm;have:e0 b.aD=dG x:=by rw[n,e0,e0];rfl
 grind[xE,qH,dY,axw,id];omega
section
def ayJ{c:X (X (J×J))}{b:Z}:b<Q c->(aa k7 c)[b]?=W (k7 (z c b [])):=by simp_all
def rG(b:bd)(M:b1)(c:iR):V:=b6<|oM b M c
def vJ(M:b1)(b:iR):V:=a_<|r3 M b
theorem azn{b:bd}{M:b1}{al:X iR}{c:Z}{d:iR}(q:al[c]?=W d):(aa (rG b M) al)[c]?=W (b6 (oM b M d)):=by rw[c4,q];rfl
def lK:Z->Z:=λb=>b+1
def VD{c:bd}{M:b1}{al:X iR}{d:Z}{e:iR}{b:X Z}:al[d]?=W e->oM c M e=b->(aa (rG c M) al)[d]?=W (b6 b):=by grind[azn]
def asj{d:iR->V}{al:X iR}(e:ni al){b:X Z}(g:b∉iE al):lM (fO uh (λc=>k<|lK c) (iE al)) (Q (iE al)) (bV (nt b)) (k (Q<|aa d al))=(fO uh (λc=>k<|lK c) (iE al++[b]),Q (iE al++[b])):=by
 let f:=by have:=ep Q e;rw[kN,bg] at this;exact this
 rw[bg,f];exact Ih Ik c1 (λ_ _=>c1) g
def acA{b:X (X Z)}:n1 ml (fO uh (λc=>k<|lK c) b):=MR
def H6:jx ⟨[],[]⟩:=⟨p,dO _,λb=>by simp[fT.nil]⟩
def apQ:nf ⟨[],[]⟩:=λc d b=>cc
def aqR T{b:X Z}(q:jV b){c:Z}(d:c<Q b):aK (iC T (ak c b)) (z b c 0) af=iC T (ak (c+1) b):=by rw[Ff<|abR q d,note,ab<|abR q d,<-JF d]
theorem aip{F:aO}(q:3000<Q (c8 (dY F ⟨[],[]⟩).1 (dY F ⟨[],[]⟩).2 3000)):VI F=cs [K3,a6 ad]:=ae q
def aiq{F:aO}(q:Q (c8 (dY F ⟨[],[]⟩).1 (dY F ⟨[],[]⟩).2 3000)<=3000):VI F=cs [fp (y_ (dY F ⟨[],[]⟩).1 (dY F ⟨[],[]⟩).2),a6 af]:=ab o
def azm{s:bd}{M:b1}{b R:Z}(c:b<Q (c8 s M b)):(fe s M b R)[b]?=W (z (c8 s M b) b ah):=by apply zX<|CQ _ _;simp_all
def aid{c:bd}{M:b1}{b:Z}(g:Q c.aE=b)(e:nf c)(i:fB M b)d:∀j∈oM c M d,j<b:=by
 cases d;exact i.f
 next k=>exact Xu (g▸e · · ·)
def azl b M c:rG b M (W c)=b6 (nQ b.cp c):=p
def azi M b:vJ M (W b)=a_ (b.any λc=>aL<|c∈M.last):=p
def ayf b M c:jR (oG b M c) 256=rF b M c:=p
def aeW d b c:(b.filter λe=>jN (z d e []) c)=qD d b c:=p
def alT{bf:Type} [iu bf]{ck:bf->v->bf}{b:bf->Y}{c:X bf}:fp (nR ck b c)=bH [an aj 0,.a 1 (c.map λd=>a_<|b d),.a 1 ((nR ck b c).next.map b6)]:=by simp[nR,fp,k]
def alU b M:fp (y_ b M)=bH [an aj 0,.a 1 (aa (vJ M) (c8 b M 3000)),.a 1 ((y_ b M).next.map b6)]:=by exact alT
attribute [local irreducible] c8 fe iE jR oG rF qD oM nQ nt mY wT iC jN rG vJ r3
theorem ahd(F:aO)(u:e_ F)(a9:dG F<=2000):bb 168 [c0 F] (VI F):=by
 refine bx func168 [2004,2007,2012,2015,2028,2036] λm a5=>?_;obtain⟨t,D,dI⟩:=CD F u ⟨[],[]⟩ H6 a2;have I:=alf F u ⟨[],[]⟩ λM q=>b9 q ka;have C:=Xr F u ⟨[],[]⟩ H6 apQ a2;have w:=ald F u u ⟨[],[]⟩ H6 a2 0 (dY F ⟨[],[]⟩).1.aE.length p p;have O:=aip (F:=F);have S:=aiq (F:=F);generalize dY F ⟨[],[]⟩=aA at t D dI I C w O S;obtain⟨s,M⟩:=aA;dsimp only at t D dI I C w O S;have aM:0+dG F=Q s.aE:=bG D;rw[show(⟨[],[]⟩:bd).aE.length+dG F=Q s.aE from aM] at dI;generalize G:Q s.aE=d at dI w;have br:Q s.cp=d:=bC t.len G;have bu:=dI.ok.2.len;have a4:d<=2000:=by rw[<-G];exact t.j
 refine aS ?_ (f:=Vh F u);apply e<;>intro bh
 .omega
 refine n7 ⟨[(1,c 1),(2,c 2),(4,c 26)],[(1,ag 164<|c0 F),(2,ag 89<|V.zero qw.z),(26,ag 314<|bH [.ba,.ba,a6 ad])],[]⟩ ?_;refine aZ.eQ 1300 1 161 [] (W (26,0)) ?_;refine aZ.eQ 1301 1 64 [] (W (26,1)) ?_;refine dM ?_;refine bI [(6000,26),(5000,1300),(5001,1301)] ?_ (f:=w);refine ly.mk nofun λ_=>?_;refine aZ.x3 1300 d (aJ:=aa k7 s.aE) a2 ?_;refine aZ.x3 1301 d (aJ:=aa b6 s.cp) a2 ?_;refine dM ?_;refine kF d d (aa a_<|iC d []) ?_ (j:=a2) (j1:=a2) (aW:=WM);refine eC (Q M.last) (λE=>⟨[(2,c 2),(4,c 26),(5,c 5),(7,k E),(6,.aq 40 0 d)],[(2,ag 89<|V.zero qw.z),(5,ag 316<|wz M),(26,ag 314<|bH [.a 1 (aa k7 s.aE),.a 1<|aa b6 s.cp,a6 ad]),(40,.h 1 4<|aa a_<|iC d<|ak E M.last)],[]⟩) λE j=>?_;apply e<;>intro bj
 .have n:E<Q M.last:=o;have y:z M.last E 0<d:=dI.l _<|cT n;refine bi E (k<|z M.last E 0) ?_ (j:=eN n);refine cC (z M.last E 0) ?_ (j:=y);refine gN (aa a_<|iC d<|ak (E+1) M.last) (a_<|aL<|z M.last E 0∈ak E M.last) (a_ af) ?_ (j:=GS) (aW:=by rw[<-aqR d dI.ok.2.1 n,hW]);refine bc ?_;exact a0<|E+1
 obtain rfl:E=Q M.last:=o;rw[g5];refine aZ.x3 40 d (aJ:=aa a_<|iC d M.last) (by simp[Mo]) ?_;refine dM ?_;refine pW ?_;refine pW ?_;refine aZ.eQ 1302 1 64 [] (W (8,2)) ?_;refine dM ?_;refine dv Z (λE=>⟨[(2,c 2),(4,c 26),(6,.a 1<|aa a_<|iC d M.last),(8,c 8),(10,.eW 62),(11,k E),(9,.aq 61 0<|Q<|aa (rG s M)<|c8 s M E)],[(2,ag 89<|V.zero qw.z),(8,ag 89<|bH [an aj 0,.aq 57 0<|Q<|aa (vJ M)<|c8 s M E,.aq 1302 0<|Q<|aa b6<|aa (rF s M)<|bJ E]),(26,ag 314<|bH [.a 1 (aa k7 s.aE),.a 1<|aa b6 s.cp,a6 ad]),(61,.h 1 64<|aa (rG s M)<|c8 s M E),(57,.h 1 4<|aa (vJ M)<|c8 s M E),(1302,.h 1 64<|aa b6<|aa (rF s M)<|bJ E),(62,h8 (fO uh (λr=>k<|lK r)<|iE<|c8 s M E)<|Q<|iE<|c8 s M E)],[]⟩) (λE=>E<=Q (c8 s M E)/\Q (c8 s M E)<=3000) (λE=>3001-E) 0 (λE j=>?_) ⟨dO _,by simp[c8,cB]⟩;apply e<;>intro bk
 .obtain⟨Y,aH⟩:=j;have n:E<Q (c8 s M E):=o;have L:fT (oM s M (z (c8 s M E) E ah)):=aie t.cp dI.ok;have K:=aid G C dI<|z (c8 s M E) E ah;have aB:=L.len;have aG:=λR=>azm (s:=s) (M:=M) (R:=R) n;have am:=λ(R:Z) (g:R<256) (fY:X Z)=>auQ (s:=s) (M:=M) (E:=E) (R:=R) n g (fY:=fY);have ax:=λ(R:Z) (g:R<256) (fY:X Z)=>auR (s:=s) (M:=M) (E:=E) (R:=R) n g (fY:=fY);rw[<-ah9 s M E];generalize P:oM s M (z (c8 s M E) E ah)=b at L K aB am ax;refine kF 256 256 (aa k<|jR (oG s M E) 0) ?_ (aW:=WI);refine i0 256 (λR=>Q (fe s M E R)<=3000) (λR=>⟨[(2,c 2),(4,c 26),(6,.a 1<|aa a_<|iC d M.last),(8,c 8),(10,.eW 62),(11,k E),(13,k R),(9,.aq 61 0<|Q<|aa (rG s M)<|fe s M E R),(12,.aq 69 0 256)],[(2,ag 89<|V.zero qw.z),(8,ag 89<|bH [an aj 0,.aq 57 0<|Q<|aa (vJ M)<|fe s M E R,.aq 1302 0<|Q<|aa b6<|aa (rF s M)<|bJ E]),(26,ag 314<|bH [.a 1 (aa k7 s.aE),.a 1<|aa b6 s.cp,a6 ad]),(61,.h 1 64<|aa (rG s M)<|fe s M E R),(69,.h 1 3<|aa k<|jR (oG s M E) R),(57,.h 1 4<|aa (vJ M)<|fe s M E R),(1302,.h 1 64<|aa b6<|aa (rF s M)<|bJ E),(62,h8 (fO uh (λr=>k<|lK r)<|iE<|fe s M E R)<|Q<|iE<|fe s M E R)],[]⟩) (λR g=>?_) (by grind[ah9]);apply e<;>intro bm
  .obtain⟨aC,N⟩:=g;have g:R<256:=o;have x:=aG R;have bt:E<Q (fe s M E R):=(e3.1 x).1;refine aZ.eQ 14 1 3 [14] ah ?_;refine eC (Q b) (λA=>⟨[(2,c 2),(4,c 26),(6,.a 1<|aa a_<|iC d M.last),(8,c 8),(10,.eW 62),(11,k E),(13,k R),(15,k A),(9,.aq 61 0<|Q<|aa (rG s M)<|fe s M E R),(12,.aq 69 0 256),(14,.aq 14 0<|Q<|aa k<|v3 (λH=>jN (z s.aE H []) (R:J))<|ak A b)],[(2,ag 89<|V.zero qw.z),(8,ag 89<|bH [an aj 0,.aq 57 0<|Q<|aa (vJ M)<|fe s M E R,.aq 1302 0<|Q<|aa b6<|aa (rF s M)<|bJ E]),(26,ag 314<|bH [.a 1 (aa k7 s.aE),.a 1<|aa b6 s.cp,a6 ad]),(61,.h 1 64<|aa (rG s M)<|fe s M E R),(69,.h 1 3<|aa k<|jR (oG s M E) R),(14,.h 1 3<|aa k<|v3 (λH=>jN (z s.aE H []) (R:J))<|ak A b),(57,.h 1 4<|aa (vJ M)<|fe s M E R),(1302,.h 1 64<|aa b6<|aa (rF s M)<|bJ E),(62,h8 (fO uh (λr=>k<|lK r)<|iE<|fe s M E R)<|Q<|iE<|fe s M E R)],[]⟩) λA i=>?_;refine cC E ?_ (j:=a2);refine e9 (b6 b) ?_ (j:=VD x P);apply e<;>intro bn
   .have i:A<Q b:=o;have aQ:z b A 0<d:=K _<|cT i;refine eg ?_;refine cC E ?_ (j:=a2);refine e9 (b6 b) ?_ (j:=VD x P);refine bi A (k<|z b A 0) ?_ (j:=eN i);refine bi (z b A 0) (k7<|z s.aE (z b A 0) []) ?_ (j:=ayJ o);refine cf ?_ (f:=arp (z s.aE (z b A 0) []) (R:J) (by have:=(azd I<|z b A 0).1;omega));apply e<;>intro bo
    .refine cC E ?_ (j:=a2);refine e9 (b6 b) ?_ (j:=VD x P);refine bi A (k<|z b A 0) ?_ (j:=eN i);refine er ?_;refine e7 (aa k<|v3 (λH=>jN (z s.aE H []) (R:J))<|ak (A+1) b) ?_ (hl:=.a p p p p (by simp[k,V.cells];rfl)) (aW:=by simp_all[aas,ae,dn]) (bQ:=aY);refine bc ?_;exact a0<|A+1
    rw[show v3 (λH=>jN (z s.aE H []) (R:J)) (ak A b)=v3 (λH=>jN (z s.aE H []) (R:J)) (ak (A+1) b) by simp_all[aas,ab,ff]];refine bc ?_;exact a0<|A+1
   obtain rfl:A=Q b:=o;rw[g5];have au:=Ul (aE:=s.aE) L (R:=R);rw[aeW];have ar:∀H∈qD s.aE b R,H<d:=λH y=>K H (mL.1 (by rw[<-aeW] at y;exact y)).1;have al:=am R g (qD s.aE b R) p;have aw:=ax R g (qD s.aE b R) p;generalize qD s.aE b R=fY at au ar al aw;have bv:=au.len;refine aZ.iK 14 ?_;refine dM ?_;refine aS ?_ (f:=Tb fY (λU aR=>aY) o);refine ul (cs [k (mY lK (iE<|fe s M E R) fY),a6<|wT (iE<|fe s M E R) fY]) ?_ acA (eM:=Ir (H:=λ_=>dW) (s:=lK) (nh:=iE<|fe s M E R) (U:=fY) Ik c1 (λ_ _=>c1) p);apply e<;>intro aF
   .have ao:fY∉iE (fe s M E R):=λay=>aF<|te.2 ay;obtain⟨v,B,az⟩:=al ao;apply e<;>intro be
    .have aD:3000<Q (c8 s M 3000):=by
      have aN:=(VC (s:=s) (M:=M) n<|show R+1<=256 by omega).length_le;have aP:=(o4 (succ:=hc<|kA s M) (b7:=[ah])<|show E+1<=3000 by omega).length_le;have bw:Q (c8 s M (E+1))<=Q (c8 s M 3000):=by unfold c8;exact aP
      rw[v,cX,p_] at aN;omega
     rw[O aD];exact dB bq
    refine aS ?_ (f:=Tb fY (λU aR=>aY) o);refine zQ (fO uh (λr=>k<|lK r)<|iE<|fe s M E<|R+1) (Q<|iE<|fe s M E<|R+1) ?_ acA (hu:=by rw[B];exact asj (VB s M E R) ao);refine aZ.tZ 1 [18] ?_;refine dM ?_;refine eC (Q fY) (λA=>⟨[(2,c 2),(4,c 26),(6,.a 1<|aa a_<|iC d M.last),(8,c 8),(10,.eW 62),(11,k E),(13,k R),(14,.a 1<|aa k fY),(16,k<|Q<|aa (rG s M)<|fe s M E R),(18,b6<|nQ s.cp<|ak A fY),(19,a_<|(ak A fY).any λH=>aL<|H∈M.last),(20,k A),(9,.aq 61 0<|Q<|aa (rG s M)<|fe s M E R),(12,.aq 69 0 256)],[(2,ag 89<|V.zero qw.z),(8,ag 89<|bH [an aj 0,.aq 57 0<|Q<|aa (vJ M)<|fe s M E R,.aq 1302 0<|Q<|aa b6<|aa (rF s M)<|bJ E]),(26,ag 314<|bH [.a 1 (aa k7 s.aE),.a 1<|aa b6 s.cp,a6 ad]),(61,.h 1 64<|aa (rG s M)<|fe s M E R),(69,.h 1 3<|aa k<|jR (oG s M E) R),(57,.h 1 4<|aa (vJ M)<|fe s M E R),(1302,.h 1 64<|aa b6<|aa (rF s M)<|bJ E),(62,h8 (fO uh (λr=>k<|lK r)<|iE<|fe s M E<|R+1)<|Q<|iE<|fe s M E<|R+1)],[]⟩) λA i=>?_;apply e<;>intro bf
    .have i:A<Q fY:=o;have aQ:z fY A 0<d:=ar _<|cT i;have a7:=(Qm t.cp (fY:=(ak A fY))).len;have a8:=(t.cp<|z fY A 0).len;refine eg ?_;refine bi A (k<|z fY A 0) ?_ (j:=eN i);refine bi (z fY A 0) (b6<|z s.cp (z fY A 0) []) ?_ (j:=Be o);refine cf ?_ (f:=Gy (nQ s.cp<|ak A fY) (z s.cp (z fY A 0) []) o o);apply ev;intro bs;refine gx A (k<|z fY A 0) ?_ (j:=eN i);refine gx (z fY A 0) (a_<|aL<|z fY A 0∈M.last) ?_ (j:=GS);exact p;refine bc ?_;exact a0 (A+1) (cq:=⟨⟨a3,a3,a3,a3,a3,a3,a3,a3,a3,(by rw[Xv i];rfl),(by rw[XM i];rfl),a3,a3,a3,c1⟩,⟨a3,a3,a3,a3,a3,a3,a3,a3,c1⟩,p,p⟩)
    obtain rfl:A=Q fY:=o;rw[g5];refine er ?_;refine e7 (aa (rG s M)<|fe s M E<|R+1) ?_ (aW:=by rw[v,dn,Ke,azl]) (bQ:=oU);refine er ?_;refine e7 (aa (vJ M)<|fe s M E<|R+1) ?_ (aW:=by rw[v,dn,Ke,azi];rfl) (bQ:=oU);refine cC R ?_ (j:=o)
    first|refine gN (aa k<|jR (oG s M E)<|R+1) (k<|z (jR (oG s M E) R) R 0) (k<|Q<|aa (rG s M)<|fe s M E R) ?_ (j:=eN Kt) (aW:=by grind[List.length_map,List.map_set,Vg])|refine gN ((jR (oG s M E)<|R+1).map k) (k<|(jR (oG s M E) R).getD R 0) (k<|mY lK (iE<|fe s M E<|R+1) fY) ?_ (j:=eN (by rw[Vf];exact g)) (aW:=by rw[T,<-hW,Vg g])
    refine bc ?_;exact a0 (R+1) ⟨o,oU⟩
   have aK:fY∈iE (fe s M E R):=te.1 ap;obtain⟨v,B⟩:=aw aK;have T:mY lK (iE (fe s M E R)) fY=oG s M E R:=B;rw[<-v] at T⊢;refine cC R ?_ (j:=o)
   first|refine gN (aa k<|jR (oG s M E)<|R+1) (k<|z (jR (oG s M E) R) R 0) (k<|Q<|aa (rG s M)<|fe s M E R) ?_ (j:=eN Kt) (aW:=by rw[bg,az,<-hW,Vg g])|refine gN (aa k<|jR (oG s M E)<|R+1) (k<|z (jR (oG s M E) R) R 0) (k<|mY lK (iE<|fe s M E<|R+1) fY) ?_ (j:=eN Kt) (aW:=WN)
   refine bc ?_;exact a0 (R+1) ⟨o,ap⟩
  obtain⟨aC,N⟩:=g;obtain rfl:R=256:=o;rw[VA n,ayf];rw[VA n] at N;refine FO 69 256 (aJ:=aa k<|rF s M E) (by simp[ayg]) ?_;refine er ?_;refine e7 (aa b6<|aa (rF s M)<|bJ<|E+1) ?_ (aW:=I8 (rF s M) b6 E) (bQ:=aY);refine bc ?_;exact a0 (E+1) ⟨by grind[QL,hc,kA,c8],N⟩
 obtain⟨Y,aH⟩:=j;have aI:Q (c8 s M E)<=E:=o;obtain⟨aU,aV⟩:=ax0 aI Y o;rw[S ap,alU,aU,<-aV];exact ib 57<|ib 1302<|dB bq
end
section
section
variable{B:Y}{A:V->Prop}
def auf{r:aw}{f:aM}{c:dw}{e:J}{T:J}(j:A (an c T))(k:K.op=.unOp .neg r f:=by rfl)(l:val d M.b f=W (an c e):=by rfl)(q:k0 c (-e)=T:=by rfl):ez P t m d B K M A:=by subst q;exact .of p (λ_ g i n az=>awO k<|hq g i l ej p (n:=n) (az:=az)) j
def at4{w j z:aw}{f v:cP}{x s:aM}{e u r i T:Z}{U:X V}{S:dw}{y:J}{c g:Z}(F:A (.en e r g))(H:K.op=qd w x s:=by rfl)(N:t.find w=W f:=by rfl)(bA:f.d=.array u j:=by rfl)(L:f.O=ad:=by rfl)(C:t.find j=W v:=by rfl)(Q:val d M.b x=W (.en e r i):=by rfl)(B:cx M.au e=W (.h T z U):=by rfl)(D:val d M.b s=W (an S y):=by rfl)(R:y=(c:J):=by first|rfl|omega)(E:c<u:=by exact GV)(jr:g=i+c*v.size:=by first|rfl|(show _=0+_*1;omega)):ez P t m d ad K M A:=.oJ (λq k l n=>by subst jr;let ch:=(q.find N).hb L;rw[bA] at ch;obtain⟨Y,I⟩:=k5 _ B;exact agb ch (q.find C).G H (ji k l Q ej n) I (ji k l D ej n) R E) F
end
def mw(b:Z->Z):V:=.vec 32 (.ints hf<|(bJ 32).map λA=>((b A:Z):J)) []
def c3(b:X Z):V:=mw<|ei b
theorem apb b:kb (mw b)=(bJ 32).map λA=>V.int hf ((b A:Z)):=by rfl
def RH{b:Z->Z}:(mw b).cells.length=32:=a3
theorem rg{b:X Z}:(c3 b).cells.length=32:=RH
def HI{b:Z->Z}{A:Z}:A<32->(kb (mw b))[A]?=W (an hf ((b A:Z))):=by grind[apb,List.getElem?_range]
def RI{ao s:Z->Z}{A c:Z}(e:A<32)(g:s A=c)(f:∀b≠A,s b=ao b):(mw ao).cells.set A (an hf ((c:Z)))=kb (mw s):=by refine jI λd=>?_;rw[rO];by_cases j:d<32;rw[HI j,HI j,RH]<;>grind;simp_all[yO,RH,ab]
def tY{b:Z->Z}:(mw b).oa:=a3
def aAj:∀b:Z,b<64->2^b*285870213051353865%18446744073709551616/288230376151711744<64/\z EO (2^b*285870213051353865%18446744073709551616/288230376151711744) 0=b:=cc
def aA_{c b:Z}(d:c<18446744073709551616)(q:sR c b):b<64:=by refine oP λe=>?_;have:=akk (i:=b)<|kv d (by rw[show 18446744073709551616=2^64 from p];exact qb o o);rw[q.one] at this<;>grind
def atT{c b i:Z}:c*b%i=((c*b%i:Z):J):=a3
def aAk{b:Z}:b<64->(aa (V.int .u8) EO)[b]?=W (V.int .u8 (z EO b 0)):=by let c:Q EO=64:=p;simp_all
def aAi{b l:Z}(r:b<18446744073709551616)(c:sR b l):bb 301 [an hf b] (k l):=by
 refine bx func301 [] λm w=>?_;apply e<;>intro x
 .have:=c.pos;omega
 have t:=aA_ r c;let⟨j,i⟩:=aAj l t;have f:k0 IntKind.u64 (-b)=((2^64-b:Z)):=by rw[Pl];omega
 have s:nS .and hf b ((2^64-b:Z))=((2^l:Z)):=by rw[QG (by grind[JI]) (by grind[JI]),c.only r]
 have v:k0 IntKind.u64 (((2^l:Z))*285870213051353865)=((2^l*285870213051353865%18446744073709551616:Z)):=by exact atT
 generalize u:2^l*285870213051353865%18446744073709551616/288230376151711744=d at j i;have g:(k0 IntKind.u64 (nS .and hf b ((2^64-b:Z))*285870213051353865)).fdiv (2^min (aB (58:J)) (mN IntKind.u64))=d:=by rw[s,v];have:=ayS (y:=2^l*285870213051353865%18446744073709551616) (l:=58) aR;rw[<-u];simp only[mN];rw[show((58:Z))=(58:J) from p] at this;rw[this,akh]
 have n:=aAk j;rw[i] at n;generalize z:((2^64-b:Z))=A at f g;refine auf ?_ (q:=f);refine IH d (q:=g)<|FE (tR:=d) ?_;refine IC (an .u8 l) (eM:=n)<|lg l<|aA
theorem ayQ{E:Z}(q:E<64):k0 IntKind.u64 (1*2^min (aB (E:J)) (mN IntKind.u64))=((2^E:Z)):=by
 let b:min (aB (E:J)) (mN IntKind.u64)=E:=by simp[mN];omega
 rw[b,Int.one_mul,Pl];let c:2^E<18446744073709551616:=by exact akg o q
 grind
theorem aAg{b:Z}(q:b<64):2^b<2^64:=akg o q
def adQ{c:X Z}{d b:Z}:b∈ey c [d]↔b∈c\/b=d:=by rw[pV,ea]
def aA3{c:X Z}{d b:Z}(q:b≠d/64):ei (ey c [d]) b=ei c b:=ajb λf e=>by(simp[adQ,b9];omega)
def wL(b t:X Z)(c A:Z):Z:=if A<c then ei b A|||ei t A else ei b A
def aBQ b t:mw (wL b t 0)=c3 b:=by rfl
def arP b t:mw (wL b t 32)=c3 (ey b t):=by unfold c3 mw;congr 2;refine iF λA c=>?_;rw[wL,ae ap,aA1 (pV b t ·)]
def arR c t{b:Z}(d:b<32):(mw (wL c t b)).cells.set b (an hf ((ei c b|||ei t b:Z)))=kb (mw (wL c t (b+1))):=RI d (by simp[wL,ae,xp]) λf e=>by unfold wL<;>grind
def arQ c t{b:Z}:b<32->(kb (mw (wL c t b)))[b]?=W (an hf ((ei c b:Z))):=by simp_all[HI,wL,ab,xo]
def wh(b t:X Z)(c A:Z):Z:=if A<c then ei b A&&&ei t A else ei b A
def EF(b t:X Z):X Z:=b.filter λc=>aL<|c∈t
def adS{c t:X Z}{b:Z}:b∈EF c t↔b∈c/\b∈t:=by simp[EF,mL,yS]
def aBo b t:mw (wh b t 0)=c3 b:=by rfl
def amq b t:mw (wh b t 32)=c3 (EF b t):=by unfold c3 mw;congr 2;refine iF λA c=>?_;rw[wh,ae ap,aAX λd=>adS]
def ams c t{b:Z}(d:b<32):(mw (wh c t b)).cells.set b (an hf ((ei c b&&&ei t b:Z)))=kb (mw (wh c t (b+1))):=RI d (by simp[wh,ae,xp]) λf e=>by unfold wh<;>grind
def amr c t{b:Z}:b<32->(kb (mw (wh c t b)))[b]?=W (an hf ((ei c b:Z))):=by simp_all[HI,wh,ab,xo]
def LR b{E:Z}(c:E<32):(kb (c3 b))[E]?=W (an hf ((ei b E:Z))):=HI c
attribute [local irreducible] ei
def afC{iI:X Z}{E:Z}(l:E<2000):dF 147 [c 6000,k E] [(6000,ag 228 (c3 iI))] (cs []) [(6000,ag 228 (c3 (ey iI [E])))]:=by refine dN func147 [] λr m j=>?_;let i:=D2 (iI:=iI) (A:=(E/64));let f:nS .or hf ((ei iI (E/64):Z)) ((2^(E%64):Z))=((ei iI (E/64)|||2^(E%64):Z)):=XV i<|aAg o;let b:=RI (ao:=ei iI) (s:=ei<|ey iI [E]) (A:=E/64) o (aAW λ_=>adQ) λn e=>aA3 e;rw[<-f] at b;let g:=ayQ (E:=E%64) o;let d:=LR iI (E:=E/64) o;refine eS<|br (λ_=>FF E 64 p) ?_;apply br λ_=>hE (E/64) (E/64) p (jr:=by show E/64=0+E/64*1;omega);refine br (λ_=>io (an hf<|(ei iI (E/64):Z)) p (eM:=d))<|br (λ_=>Nr E 64 p)<|br (λ_=>lg ((E%64:Z)) p) ?_;refine br (λ_=>aug p (q:=g))<|br (λ_=>hE (E/64) (E/64) p (jr:=by show E/64=0+E/64*1;omega)) ?_;refine Af (c3<|ey iI [E]) (lI:=by grind[c3,rg]) (aW:=b)<|fZ ?_;exact cE
end
section
attribute [local irreducible] ei
def av5{d t:X Z}:dF 267 [c 6000,fy 32 [c3 t] 0 0] [(6000,ag 228 (c3 d))] (cs []) [(6000,ag 228 (c3 (ey d t)))]:=by
 refine dN func267 [] λr m n=>?_;refine eC 32 (λb=>⟨[(0,c 6000),(1,fy 32 [c3 t] 0 0),(5,k b)],[(6000,ag 228<|mw<|wL d t b)],[]⟩) λb j=>?_;apply e<;>intro q
 .let f:b<32:=o;let g:=arR d t f;rw[<-XV D2 D2] at g;let i:=arQ d t f;let l:=LR t f;refine eS ?_;apply br λ_=>hE b b p (jr:=by show b=0+b*1;omega);refine br (λ_=>io (an hf<|(ei d b:Z)) p (eM:=i))<|br (λ_=>FE (tR:=b) p (kC:=by show 0+b*1=b;omega)) ?_;refine br (λ_=>IC (an hf<|(ei t b:Z)) p l)<|br (λ_=>hE b b p (jr:=by show b=0+b*1;omega)) ?_;refine Af (mw<|wL d t<|b+1) (lI:=cc) (aW:=g)<|kU []<|bc<|a0<|b+1
 obtain rfl:b=32:=o;rw[arP];exact cE
def avX d t:bb 202 [c3 d,fy 32 [c3 t] 0 0] (c3 (EF d t)):=by
 refine bx func202 [] λm n=>?_;refine mC (c3 []) (fj:=cR)<|eC 32 (λb=>⟨[(1,fy 32 [c3 t] 0 0),(2,c 2),(4,c 4),(6,k b)],[(2,ag 228<|mw<|wh d t b),(4,ag 228<|c3 [])],[]⟩) λb j=>?_;apply e<;>intro q
 .let f:b<32:=o;let g:=ams d t f;rw[<-QG (by rw[JI];grind[D2]) (by grind[JI,D2])] at g;let i:=amr d t f;let l:=LR t f;refine eS ?_;apply br λ_=>hE b b p (jr:=by show b=0+b*1;omega);refine br (λ_=>io (an hf<|(ei d b:Z)) p (eM:=i))<|br (λ_=>FE (tR:=b) p (kC:=by show 0+b*1=b;omega)) ?_;refine br (λ_=>IC (an hf<|(ei t b:Z)) p l)<|br (λ_=>hE b b p (jr:=by show b=0+b*1;omega)) ?_;refine Af (mw<|wh d t<|b+1) (lI:=cc) (aW:=g)<|kU []<|bc<|a0<|b+1
 obtain rfl:b=32:=o;rw[amq];refine ho (a7:=tY)<|lh (c3<|EF d t) (h1:=rg) (fN:=rg)<|EZ bq<|.oq p p p p p tY rg .nil
end
structure nN(T:bs)(ab1 F:Z)(seen:X Y)(O iI:X Z)(R:Y)(cr E:Z):Prop where
 len:Q seen=Q T.aC
 src:z seen ab1 ad=af
 dS:∀U,z seen U ad=af->ga.Way (lZ T) ab1 U
 yD:∀U∈O,z seen U ad/\U≠cr
 jQ:eb O
 cl:∀U,z seen U ad=af->U∉O->U≠cr->∀C∈z T.aC U [],z seen C ad=af
 xO:∀C,C∈ak E (z T.aC cr [])->z seen C ad=af
 inc:fT iI
 mem:∀u,u∈iI↔u<Q T.dC/\z seen (z T.dC u 0) ad/\z T.dC u 0∉O
 fin:R↔z seen F ad/\F∉O
def u5(b:X Z)(c:J):X Z:=if 0<=c then ey b [aB c] else b
def adR{c:X Z}{d:J}{b:Z}:b∈u5 c d↔b∈c\/d=b:=by grind[u5,pV,List.mem_singleton]
def arq{b:X Z}(q:jV b)c:jV (u5 b c):=by grind[u5,x8]
def aBF T b:z (cM T ad) b ad=ad:=by grind
def H4{b:X Y}{c:Z}:z b c ad=af->c<Q b:=by grind
theorem nN.start{T:bs}(i:r0 T){b F:Z}(f:b<Q T.aC):nN T b F (aK (cM (Q T.aC) ad) b af) [b] [] ad (Q T.aC) 0:=by
 have e:∀c,z (aK (cM (Q T.aC) ad) b af) c ad↔c=b:=λc=>by grind
 refine⟨av,(e b).2 p,λc d=>?_,λc d=>?_,av,λc d g=>?_,λl j=>?_,.nil,λk=>?_,?_⟩;rw[(e c).1 d];exact .refl _
 (simp_all;omega)
 simp_all;trivial;simp_all;simp_all
def nN.pop{T:bs}(l:r0 T)(x:Q T.dC<=2000){n e b:Z}{r:X Y}{s j:X Z}{k:Y}(q:nN T n e r (s++[b]) j k (Q T.aC) 0):nN T n e r s (u5 j (z T.dd b (-1))) (k||aL (b=e)) b 0:=by let y:=q.yD b av;let m:=sI.1 q.jQ;let t:=λc=>m.2.2 b c b (ea.2 p) p;refine⟨q.len,q.src,q.dS,λi d=>⟨(q.yD i aY).1,λc=>t<|c▸d⟩,m.1,λi d v w=>?_,λB A=>?_,⟨arq q.inc.1 _,λg u=>?_⟩,λg=>?_,?_⟩;refine q.cl i d (λc=>?_) λc=>?_;simp_all;have:=H4 d;have:=q.len;omega;trivial;rcases adR.1 u with f|f;exact q.inc.2 g f;have:=((l.F2 b g).1 f).1;omega;rw[adR,q.mem,l.F2];grind;rw[p9,q.fin,yS];grind
def aiF{c:X Z}{b d:Z}:b<Q c->d∈ak (b+1) c->d∈ak b c\/d=z c b 0:=by grind[pq,List.mem_singleton]
def nN.old{T:bs}{i g c b:Z}{d:X Y}{j e:X Z}{f:Y}(q:nN T i g d j e f c b)(k:b<Q (z T.aC c []))(l:z d (z (z T.aC c []) b 0) ad=af):nN T i g d j e f c (b+1):=⟨q.len,q.src,q.dS,q.yD,q.jQ,q.cl,λn m=>(aiF k m).elim (q.xO n) (·▸l),q.inc,q.mem,q.fin⟩
def nN.new{T:bs}(G:r0 T){A u c e:Z}{f:X Y}{m s:X Z}{t:Y}(q:nN T A u f m s t c e)(w:z f c ad=af)(n:e<Q (z T.aC c []))(x:¬z f (z (z T.aC c []) e 0) ad):nN T A u (aK f (z (z T.aC c []) e 0) af) (m++[z (z T.aC c []) e 0]) s t c (e+1):=by
 have v:lZ T c (z (z T.aC c []) e 0):=by rw[dm,cm n];exact fK n
 generalize H:z (z T.aC c []) e 0=i at*;have:i<Q f:=by rw[q.len];exact G.JG _ _ v
 have g:∀b,z (aK f i af) b ad↔z f b ad\/b=i:=λb=>by grind
 have y:∀b,b∈m++[i]↔b∈m\/b=i:=λb=>av;have:i≠c:=λl=>x<|l▸w;refine⟨by rw[nJ];exact q.len,(g _).2<|bl q.src,λb j=>?_,λb j=>?_,?_,λb j C D k r=>?_,λk r=>?_,q.inc,λI=>?_,?_⟩;rcases(g b).1 j with d|rfl;exact q.dS b d;exact(q.dS c w).tail v;rcases(y b).1 j with d|rfl;exact⟨(g b).2<|bl (q.yD b d).1,(q.yD b d).2⟩;simp_all;exact sI.2 ⟨q.jQ,av,λB E l F=>by rw[ea.1 F];exactλd=>x<|d▸(q.yD B E).1⟩;rcases(g b).1 j with d|rfl;exact(g k).2<|bl<|q.cl b d (λl=>C<|(y b).2<|bl l) D k r;simp_all;rcases aiF n r with d|d;exact(g k).2<|bl<|q.xO k d;simp_all;rw[q.mem];grind;rw[q.fin];grind
def nN.done{T:bs}{j i d:Z}{k:X Y}{l e:X Z}{f:Y}(q:nN T j i k l e f d (Q (z T.aC d []))):nN T j i k l e f (Q T.aC) 0:=by refine⟨q.len,q.src,q.dS,λb c=>⟨(q.yD b c).1,λg=>?_⟩,q.jQ,λb c m _=>?_,λr n=>?_,q.inc,q.mem,q.fin⟩;have:=H4 (q.yD b c).1;have:=q.len;omega;by_cases g:b=d;have:=q.xO;simp_all;exact q.cl b c m g;trivial
def nN.all{T:bs}{d j:Z}{e:X Y}{f:X Z}{g:Y}(q:nN T d j e [] f g (Q T.aC) 0)b:z e b ad↔ga.Way (lZ T) d b:=by
 refine⟨q.dS b,λk=>?_⟩
 induction k
 exact q.src
 next _ i c=>refine q.cl _ c ka (λl=>?_) _ i;have:=H4 c;have:=q.len;omega
def nN.end_{T:bs}{c f:Z}{g:X Y}{d:X Z}{e:Y}(q:nN T c f g [] d e (Q T.aC) 0):(∀b,b∈d↔b<Q T.dC/\ga.Way (lZ T) c (z T.dC b 0))/\(e=af↔ga.Way (lZ T) c f):=⟨λb=>by rw[q.mem,q.all];simp,by rw[q.fin,q.all];simp⟩
def Gz(b:X Y):Z:=b.count ad
def aAB{b:X Y}{c:Z}:c<Q b->¬z b c ad->Gz (aK b c af)+1=Gz b:=by grind[Gz]
section
variable[iu bf](succ:bf->X bf)(b7:X bf)(I:bf)
def hM(b:Z):bf:=z (cB succ b7 b) b I
def lB(b c:Z):X bf:=jp (cB succ b7 b)<|ak c<|succ<|hM succ b7 I b
def n3(b c:Z):Z:=hn (cB succ b7<|b+1)<|z (succ<|hM succ b7 I b) c I
variable{succ b7 I}
theorem xH b:lB succ b7 I b 0=cB succ b7 b:=a3
theorem zj{b:Z}:b<Q (cB succ b7 b)->(cB succ b7 b)[b]?=W (hM succ b7 I b):=by grind[hM,List.getElem?_eq_getElem]
theorem K7{b c:Z}:b<Q (cB succ b7 b)->Q (succ (hM succ b7 I b))<=c->lB succ b7 I b c=cB succ b7 (b+1):=by grind[lB,List.take_of_length_le,za,zj]
theorem QJ{c b:Z}:b<Q (succ (hM succ b7 I c))->lB succ b7 I c (b+1)=note (lB succ b7 I c b) (z (succ (hM succ b7 I c)) b I):=by grind[lB,pq,A2]
theorem EB{b:Z}(d:b<Q (cB succ b7 b))c:lB succ b7 I b c<+:cB succ b7 (b+1):=by rw[za<|zj (I:=I) d];grind[lB,List.take_append_drop,hM,LD,CQ]
theorem al3(q:eb b7)b c:eb (lB succ b7 I b c):=A1 _<|AR q b
theorem NI{b c:Z}(f:b<Q (cB succ b7 b))(d:c<Q (succ (hM succ b7 I b)))(e:z (succ (hM succ b7 I b)) c I∈lB succ b7 I b c):lB succ b7 I b (c+1)=lB succ b7 I b c/\hn (lB succ b7 I b c) (z (succ (hM succ b7 I b)) c I)=n3 succ b7 I b c:=by
 exists by rw[QJ d,note,ae e]
 grind[n3,zE,EB]
theorem NH{b c:Z}(f:eb b7)(i:b<Q (cB succ b7 b))(g:c<Q (succ (hM succ b7 I b)))(k:z (succ (hM succ b7 I b)) c I∉lB succ b7 I b c):lB succ b7 I b (c+1)=lB succ b7 I b c++[z (succ (hM succ b7 I b)) c I]/\Q (lB succ b7 I b c)=n3 succ b7 I b c:=by
 let e:lB succ b7 I b (c+1)=lB succ b7 I b c++[z (succ<|hM succ b7 I b) c I]:=by rw[QJ g,note,ab k]
 let d:=al3 (succ:=succ) (I:=I) f b<|c+1;unfold n3;rw[zE (EB (I:=I) i<|c+1) ap];rw[e] at d⊢;let j:Q (lB succ b7 I b c)<Q (lB succ b7 I b c++[z (succ<|hM succ b7 I b) c I]):=av;have:=Dh d j;simp_all
theorem auT{b c:Z}(e:b<Q (cB succ b7 b))(d:c<Q (succ (hM succ b7 I b))):z (succ (hM succ b7 I b)) c I∈cB succ b7 (b+1):=by apply (EB (I:=I) e<|c+1).subset;rw[QJ d,IM];simp
def ii(d:Z->Z)(i c:Z):X Z:=(bJ i).map λb=>if b<c then d b else 0
theorem OD c i b:Q (ii c i b)=i:=by simp[ii,bg,i1]
theorem axU b i:ii b i 0=cM i 0:=by refine jI λc=>?_;unfold ii;grind
theorem OC b i:ii b i i=aa b (bJ i):=iF λc j=>ae<|g4.1 j
theorem Jk c{i b:Z}(q:b<i):aK (ii c i b) b (c b)=ii c i (b+1):=by refine jI λd=>?_;unfold ii;grind
theorem aha(m:eb b7){i E:Z}(l:∀d,Q (succ d)=i)(k:E<=Q (cB succ b7 E))(j:Q (cB succ b7 E)<=E):((bJ E).map λcr=>ii (n3 succ b7 I cr) i i)=(cB succ b7 E).map λd=>aa (hn<|cB succ b7 E) (succ d):=by
 let he:=Km j k;refine jI λcr=>?_;rw[c4,c4];by_cases g:cr<E;rw[Aj g];let e:cr<Q (cB succ b7 cr):=by refine Ch λb=>?_;have:=sX (cr:=E) b o;rw[this] at he;omega
 rw[zX (o4 o)<|zj e];show W _=W _;congr 1;show ii _ i i=_;rw[OC];refine jI λb=>?_;rw[c4,c4];by_cases A:b<i;let c:b<Q (succ<|hM succ b7 I cr):=by rw[l];exact A
 rw[Aj A,cm c];show W _=W _;let f:(succ _)[b]=z (succ (hM succ b7 I cr)) b I:=by rw[dm,cm c];rfl
 rw[f,zE (o4<|show cr+1<=E by omega)<|auT e c];rfl;simp_all;simp_all
end
section
variable{GD:Type} [iu GD](key:Z->GD)
def gU(b:Z):X GD:=jp [] (aa key<|bJ b)
def gY:Z->X Z|0=>[]|b+1=>if key b∈gU key b then gY b else gY b++[b]
def k6(b:Z):Z:=hn (gU key 256)<|key b
theorem MU b:gU key (b+1)=note (gU key b) (key b):=by simp[gU,vX,dn,A2]
theorem Fv:∀b,gU key b=aa key (gY key b)|0=>p|b+1=>by rw[MU,note,gY];split;exact Fv b;rw[dn,<-Fv b];rfl
theorem H3:∀b,∀c∈gY key b,c<b|0,c,q=>b9 q ka|b+1,c,q=>by rw[gY] at q;split at q;exact Ao<|H3 b c q;rcases eX.1 q with d|d;exact Ao<|H3 b c d;simp_all
theorem E_:∀b,Q (gY key b)<=b|0=>bz _|b+1=>by have:=E_ b;grind[gY,List.length_append,List.length_singleton]
theorem Tj{b c:Z}:b<c->key b∈gU key c:=by grind[gU,zn,List.mem_map_of_mem]
theorem acK b:eb (gU key b):=A1 _ PH
theorem acL{c b:Z}:c<=b->gU key c<+:gU key b:=by
 induction b
 simp_all
 next b d=>grind[MU,trans,Ui]
theorem Il b:Q (gU key b)=Q (gY key b):=by rw[Fv,bg]
attribute [irreducible] gY gU
theorem anW{b:Z}:b<256->k6 key b<Q (gY key 256):=by unfold k6;rw[<-Il];simp_all[Bm,Tj]
theorem anY{b:Z}(q:b<256):key (z (gY key 256) (k6 key b) 0)=key b:=by let c:=Bm<|Tj key q;let d:=SG c;grind[gY,hn,k6,Fv,List.getElem?_eq_getElem]
theorem anX{b:Z}(q:b<Q (gY key 256)):k6 key (z (gY key 256) b 0)=b:=by
 let c:b<Q (gU key 256):=by rw[Il];exact q
 let d:=Dh (acK key 256) c;let e:=by
  have:(gU key 256)[b]?=W (key (z (gY key 256) b 0)):=by rw[Fv,c4,cm q,dm,cm q];rfl
  rw[cm c] at this;exact oc this
 grind[k6]
theorem Ry{bf:Type} [iu bf]{c:Z->bf}(f:∀e b,key e=key b->c e=c b)d:∀b,jp d (aa c (bJ b))=jp d (aa c (gY key b))|0=>by simp[gY]|b+1=>by rw[vX,dn,Ke,A2,Ry f d b,gY];split;rw[note,ae];grind[Fv,zn];rw[dn,Ke,A2]
end
structure fa where
 wk:X Z
 fst:X Z
 acc:X Y
 b3:X (X Z)
def jo(I:fa):bF:=⟨0,I.acc,I.b3.map λc=>(bJ 256).map λb=>z c (z I.wk b 0) 0⟩
structure fa.ok(I:fa):Prop where
 cl:Q I.wk=256
 lt:∀l<256,z I.wk l 0<Q I.fst
 bv:∀E<Q I.fst,z I.fst E 0<256/\z I.wk (z I.fst E 0) 0=E
 f2:Q I.fst<=256
 ac:Q I.acc=Q I.b3
 nw:0<Q I.b3
 IB:Q I.b3<=100000
 rw:∀E<Q I.b3,Q (z I.b3 E [])=Q I.fst
 aiK:∀E l,E<Q I.b3->l<Q I.fst->z (z I.b3 E []) l 0<Q I.b3
def lE(I:fa)(c b:Z):Z:=z (z I.b3 c []) b 0
def alQ{I:fa}{b:Z}(d:b<Q I.b3):dV (jo I) b=(bJ 256).map λc=>lE I b (z I.wk c 0):=by rw[dV,jo,dm,c4,cm d];grind[lE,List.getElem?_eq_getElem]
theorem CG{I:fa}{c:Z}(d:c<Q I.b3)b:iz (jo I) c b=lE I c (z I.wk (aG b) 0):=by rw[iz,alQ d,dm,c4,Aj<|nc b];rfl
def fa.ok.HC{I:fa}(q:I.ok){c b:Z}(e:c<Q I.b3)(d:b<Q I.fst):lE I c b<Q I.b3:=q.aiK c b e d
def HN(I:fa)(b c:Z):Prop:=iX (iz<|jo I) (hg<|jo I) b=iX (iz<|jo I) (hg<|jo I) c
theorem fa.ok.step{I:fa}(q:I.ok)c d b(i:b<Q I.fst)(j:c<Q I.b3)(k:d<Q I.b3)(g:HN I c d):HN I (lE I c b) (lE I d b):=by
 let l:=q.bv b i;let f:∀e<Q I.b3,iz (jo I) e (gk<|z I.fst b 0)=lE I e b:=λe aH=>by grind[CG,tq]
 unfold HN at*;rw[<-f c j,<-f d k,<-Im,<-Im,g]
abbrev Eu(I:fa)(q:eI):Prop:=uZ (lE I) (Q I.b3) (Q I.fst) (hg<|jo I) (HN I) q
abbrev G3(I:fa)(c:X Z)(b:Z)(q:eI):Prop:=AB (lE I) (Q I.b3) (Q I.fst) (hg<|jo I) (HN I) c b q
def JV(I:fa):X Z:=(bJ<|Q I.b3).filter λb=>z I.acc b ad
theorem fa.ok.start{I:fa}(q:I.ok):Eu I (sy ⟨cM (Q I.b3) 0,[bJ (Q I.b3)],[0]⟩ (JV I)):=uZ.start (λc d _ _ b=>P5 b []) q.nw
def ri(I:fa)(c:X Z)(b:Z):X Z:=c.flatMap λM=>(bJ<|Q I.b3).filter λd=>aL<|lE I d b=M
theorem L9{I:fa}{d:X Z}{c b:Z}:b∈ri I d c↔b<Q I.b3/\lE I b c∈d:=by unfold ri;grind
def L_{I:fa}{b:Z}:∀{own:X Z},eb own->eb (ri I own b)|[],_=>PH|M::own,q=>by let⟨e,c⟩:=xj.1 q;refine sI.2 ⟨List.nodup_range.filter _,L_ c,λi f j g d=>?_⟩;grind[L9]
def aqd{I:fa}{c:X Z}{d b:Z}(e:b<Q c):ri I (ak (b+1) c) d=ri I (ak b c) d++(bJ (Q I.b3)).filter λf=>aL (lE I f d=z c b 0):=by unfold ri;rw[pq e,Py,ts,Wo,ff]
def G3.next{I:fa}(bA:I.ok){d:X Z}{b:Z}{q:eI}(A:G3 I d b q)(c:b<Q I.fst):G3 I d (b+1) (sy q (ri I d b)):=AB.step bA.step (λ_ _ e c=>bA.HC e c) A c (λ_=>L9)<|L_ A.jQ
def lo(q:eI)(b:Z):Z:=z (z q.mem b []) 0 0
def mg(I:fa)(q:eI)(b:Z):X Z:=(bJ 256).map λc=>bK q<|lE I (lo q b)<|z I.wk c 0
def i7(I:fa)(q:eI)(b:Z):X Z:=cB (mg I q) [bK q 0] b
theorem lx.g2{T:Z}{q:eI}(A:lx T q){b:Z}(d:b<T):lo q (bK q b)<T/\bK q (lo q (bK q b))=bK q b:=by
 let c:=PD<|(A.mem _ _).2 ⟨d,p,A.lt b d⟩;let e:lo q (bK q b)∈z q.mem (bK q b) []:=by unfold lo;rw[dm (l:=z q.mem _ []),cm c];exact fK c
 have:=(A.mem _ _).1 e;omega
def lx.I_{T:Z}{q:eI}(A:lx T q){b:Z}(d:b<Q q.mem):lo q b<T/\bK q (lo q b)=b/\0<Q (z q.mem b []):=by
 let c:=Ca.2<|A.ne b d;let e:lo q b∈z q.mem b []:=by unfold lo;rw[dm (l:=z q.mem b []),cm c];exact fK c
 have:=(A.mem _ _).1 e;omega
def ait I q b:Q (mg I q b)=256:=a3
def azE{I:fa}{q:eI}{c b:Z}(e:b<256)d:z (mg I q c) b d=bK q (lE I (lo q c) (z I.wk b 0)):=by grind[mg,List.getElem?_range]
section
variable{I:fa}(bA:I.ok){q:eI}(A:Eu I q)
include bA A
theorem aiu{b:Z}(e:b<Q q.mem):∀c∈mg I q b,c<Q q.mem:=λc g=>by obtain⟨d,f,rfl⟩:=cV.1 g;exact A.ok.lt _<|bA.HC (A.ok.I_ e).1<|bA.lt d<|g4.1 f
theorem Uv d:∀c∈i7 I q d,c<Q q.mem:=tP (λc b=>by rw[ea.1 b];exact A.ok.lt 0 bA.nw) (λc b=>aiu bA A b) d
omit bA A in
theorem ava(b:Z):eb (i7 I q b):=AR av b
theorem IY b:Q (i7 I q b)<=Q q.mem:=qz (ava b)<|Uv bA A b
theorem ago(i:q.eF=[]):y3 (·<Q I.b3) (iz (jo I)) (hg (jo I)) (bK q):=by
 refine y3.of (λe c b=>?_) (A.eq · · · · ·) (A.acc · · · · ·) λe k c b d f=>?_;rw[CG b];exact bA.HC b<|bA.lt _<|nc c
 .rw[CG b,CG d];exact A.done (λe j b g=>bA.HC b g) i (bA.lt _<|nc c) b d f
theorem acZ(r:q.eF=[]){d:Z}(m:Q (i7 I q d)<=d)(s:d<=100000):lC (iW (jo I))=⟨0,(i7 I q d).map λb=>hg (jo I)<|lo q b,(i7 I q d).map λb=>aa (hn<|i7 I q d)<|mg I q b⟩:=by
 let j:=((ago bA A r).xJ (λe c=>A.ok.g2 c) bA.nw ql).1;let n:∀g,cB (hc λi b=>bK q<|iz _ _ b) _ g=i7 I q g:=λg=>by refine XZ (λe c=>by rw[ea.1 c];exact A.ok.lt 0 bA.nw) (λe c=>aiu bA A c) λe c=>?_;refine iF λb f=>?_;show bK q _=_;rw[CG (A.ok.I_ c).1,tq<|g4.1 f]
 let l:i7 I q ql=i7 I q d:=sX m (by grind[QZ]);rw[n,l] at j;unfold lC;rw[show xJ (iW _) _=_ from j];congr 1;refine iF λe c=>?_;let k:hc (λi b=>bK q<|iz (jo I) (lo q i) b) e=mg I q e:=by refine iF λb f=>?_;show bK q _=_;rw[CG (A.ok.I_<|Uv bA A d e c).1,tq<|g4.1 f]
 rw[k];rfl
theorem au_(t:q.eF=[]){c:Z}(r:Q (i7 I q c)<=c)(s:∀e<Q I.b3,∃d,qM (iz (jo I)) 0 d=e):Q (i7 I q c)=Q q.mem:=by
 apply Km<|IY bA A c;let f:=ago bA A t;let key:∀d e,e<Q I.b3->bK q e∈i7 I q c->bK q (qM (iz<|jo I) e d)∈i7 I q c:=by
  intro d
  induction d
  exactλe _ hm=>hm
  next b d u=>intro e i hm;let j:=f.step e b i;apply u _ j;let g:=A.ok.g2 i;let k:=(f.iff _ _ (f.step _ b g.1) j).2<|ep (xR · b)<|(f.iff _ _ g.1 i).1 g.2;rw[<-k,CG g.1];apply EC r hm _;exact cV.2 ⟨aG b,g4.2<|nc b,p⟩
 let m:∀b∈bJ _,b∈i7 I q c:=λb n=>by let l:=A.ok.I_<|g4.1 n;let⟨d,v⟩:=s _ l.1;have:=key d 0 bA.nw<|(o4<|dO c).subset (by simp[cB]);simp_all
 have:=qQ List.nodup_range m;simp_all
end
def yd:bs:=⟨[[]],[-1],[],[],[]⟩
def aey b c:¬lZ yd b c:=by grind[lZ,yd]
def aun:oi yd ⟨[],[]⟩ 0:=by
 refine⟨⟨p,p,p,λb d q=>b9 q<|aey b d,λc q=>b9 q<|vY c,λc q=>b9 q<|vY c,λb c=>?_,λb=>?_⟩,GQ,p,p,λe=>?_⟩;constructor;intro q;cases b;trivial
 next b=>trivial
 rintro⟨q,_⟩;trivial;cases b;trivial
 next b=>exact uK _
 simp
abbrev iy(b:aO):bs:=(hh b yd 0).1
abbrev zq(b:aO):Z:=(hh b yd 0).2
abbrev eu(b:aO):bd:=(dY b ⟨[],[]⟩).1
abbrev kX(b:aO):b1:=(dY b ⟨[],[]⟩).2
structure akE(F:aO)(T:bs)(RO:Z)(s:bd)(M:b1):Prop where
 ok:r0 T
 aBy:RO<Q T.aC
 aqc:0<Q T.aC
 k:Q T.aE=Q s.aE
 aE:T.aE=aa ko s.aE
 first:∀u,u∈M.first↔u<Q T.dC/\ga.Way (lZ T) 0 (z T.dC u 0)
 tZ:M.empty↔ga.Way (lZ T) 0 RO
 cp:∀H<Q T.g7,∀u,u∈z s.cp H []↔u<Q T.dC/\ga.Way (lZ T) (z T.g7 H 0) (z T.dC u 0)
 last:∀H<Q T.g7,(H∈M.last↔ga.Way (lZ T) (z T.g7 H 0) RO)
def auo f:akE f (iy f) (zq f) (eu f) (kX f):=by
 have d:=La f _ 0 _ aun;let⟨u,r,b⟩:=d.B _ _ ⟨λ_ _=>p,λ_ _=>p⟩;have s:=by funext l m;exact propext<|(r l m).trans ⟨λg=>g.elim (b9 · (aey l m)) id,bp⟩
 cases d.z6;have t:Q yd.aE=0:=p;rw[<-s,t] at b;have k:=d.ok.fX;have:=d.ok.dC;refine⟨d.ok,d.Gs,kv GQ d.ext.aC,bG d.gs,?_,λe=>?_,b.wt.symm,λi c e=>?_,λi c=>?_⟩;simp_all;constructor;intro g;have:=(b.uc e g).2;exact⟨ap,(b.wf e (dO _) this).2 g⟩;rintro⟨q,j⟩;exact(b.wf e (dO _) ap).1 j;rw[k] at c;constructor;intro g;by_cases n:e<(iy f).aE.length;exact⟨ap,(b.vN i e (dO _) c (dO _) n).2 ⟨dO _,c,g⟩⟩;have:=(b.pO i e ⟨dO _,c,g⟩).2.2;trivial;rintro⟨q,j⟩;exact((b.vN i e (dO _) c (dO _) ap).1 j).2.2;rw[k] at c;exact(b.wl i (dO _) c).symm
def SK{b t:X Z}(d:jV b)(e:jV t)(q:∀c,c∈b↔c∈t):b=t:=SJ d e q
def ayA:∀d,(∀b∈d,0<=b.1/\b.1<=b.2/\b.2<=255)->∀c<256,z (ko d) c ad=jN d c:=by
 intro d i c g;have:∀d(M:a1),(∀b∈d,0<=b.1/\b.1<=b.2/\b.2<=255)->Q M=256->z (d.foldl (λ(e:a1) b=>e.add (aB b.1)<|aB b.2) M) c ad=(z M c ad||jN d c):=by
  intro d
  induction d
  simp[jN]
  next b d k=>
   intro M q j;cases q b av;rw[PA,k _ (λb l=>q b aY) (by show Q (List.mapIdx _ M)=256;rw[List.length_mapIdx];exact j)];let f:z (M.add (aB b.1)<|aB b.2) c ad=(z M c ad||aL (b.1<=c)&&aL (c<=b.2)):=by
    rw[dm,dm];show(List.mapIdx _ M)[c]?.getD _=_;rw[Wq,cm _];show(M[c]||_)=(M[c]||_);congr 2;simp
    (simp;omega)
   rw[f,show jN (b::d) c=(aL _&&aL _||jN d c) from p,Bool.or_assoc]
 rw[ko,this d _ i a3];have:z cL c ad=ad:=by unfold cL;rw[dm,yP,ae g];rfl
 simp_all
def gC(c:bd)(b:Z):X v:=c.aE.map λM=>if jN M (b:J) then 1 else 0
def asg{b:bd}{d e:Z}(q:gC b d=gC b e)c:jN (z b.aE c []) d=jN (z b.aE c []) e:=by
 unfold gC at q;rw[dm];cases g:b.aE[c]?;rfl
 next M=>
  let f:(b.aE.map λM=>if jN M d then(1:v) else 0)[c]?=(b.aE.map λM=>if jN M e then 1 else 0)[c]?:=by rw[q]
  grind
def acy{b:bd}{d e:Z}(q:gC b d=gC b e)c:qD b.aE c d=qD b.aE c e:=Wm λf _=>asg q f
def ds(b:bd):X Z:=gY (gC b) 256
def l2(b:bd):X Z:=aa (k6<|gC b)<|bJ 256
theorem Q9{c:bd}{b:Z}:b<256->z (l2 c) b 0=k6 (gC c) b:=by grind[l2,List.getElem?_range]
def H2 b:Q (ds b)<=256:=by simp[ds,E_]
theorem E9{c:bd}{b:Z}(d:b∈ds c):b<256:=by exact H3 _ 256 b d
def YD{c:bd}{b:Z}(d:b<256):z (l2 c) b 0<Q (ds c):=by rw[Q9 d,ds];exact anW _ d
def anB{b:bd}{c:Z}:c<Q (ds b)->z (l2 b) (z (ds b) c 0) 0=c:=by grind[Q9,E9,cT,ds,anX]
def Ll b:Q (l2 b)=256:=a3
def D1(b:bd)(c:Z):X Z:=(bJ<|Q b.aE).filter λd=>jN (z b.aE d []) (c:J)
def auU{c:bd}{b:X Z}(g:∀f∈b,f<Q c.aE)e d:d∈qD c.aE b e↔d∈b/\d∈D1 c e:=by grind[qD,D1]
def fu(b:bd)(M:b1)(d:iR):X iR:=(ds b).map λc=>kA b M d<|gk c
def Hx c M d{b:Z}(e:b<256):kA c M d (gk b)=W (qD c.aE (oM c M d) b):=by rw[kA,tq e]
theorem DS b M:∀c,cB (fu b M) [ah] c=c8 b M c
|0=>p|c+1=>by
 cases g:(c8 b M c)[c]?;let i:=Wp.1 g;rw[K8 (by rw[DS b M c];exact i),DS b M c];exact bG (K8 i)
 next d=>rw[za (by rw[DS b M c];exact g),DS b M c];let l:c8 b M _=jp _ _:=za g;rw[l];let j:hc _ d=aa _ (bJ 256):=iF λe f=>Hx b M d<|g4.1 f;let k:fu b M d=aa _ (gY _ 256):=iF λe f=>Hx b M d<|H3 _ 256 e f;rw[j,k];exact bG<|Ry _ (λe m q=>ep _<|acy q _) _ 256
def asf{b:bd}{c:Z}:c<256->gC b (z (ds b) (z (l2 b) c 0) 0)=gC b c:=by grind[Q9,ds,anY]
def VH b M c:Q (fu b M c)=Q (ds b):=by rw[fu,bg]
theorem ail{b:bd}{M:b1}{c:iR}{A:Z}:A<Q (ds b)->(fu b M c)[A]?=W (kA b M c (gk (z (ds b) A 0))):=by grind[fu,List.getElem?_eq_getElem]
def ain{b:bd}{M:b1}{c:iR}al{A:Z}:A<Q (ds b)->z (aa (hn al) (fu b M c)) A 0=hn al (kA b M c (gk (z (ds b) A 0))):=by grind[ail]
def s1(b:bd)(M:b1)(al:X iR):fa:=⟨l2 b,ds b,aa (r3 M) al,al.map λc=>aa (hn al)<|fu b M c⟩
def Zb b M al:jo (s1 b M al)=nR (kA b M) (r3 M) al:=by unfold jo s1 nR;rw[gh];congr 1;refine iF λd _=>?_;show aa (λe=>z (aa _<|fu b M d) (z (l2 b) e 0) 0) (bJ 256)=aa (hn al) (hc _ d);unfold hc;rw[gh];refine iF λe c=>?_;let c:=g4.1 c;let f:z (l2 b) e 0<Q (ds b):=YD c;rw[ain al f,Function.comp_apply,Hx b M d c,Hx b M d<|E9<|cT f,acy<|asf c]
def Zc{c:bd}{M:b1}{al:X iR}{b:Z}(d:b<Q al):(s1 c M al).b3.getD b []=aa (hn al) (fu c M al[b]):=by grind[s1,List.getElem?_eq_getElem]
def aoS{b:bd}{M:b1}{al:X iR}(q:Q al<=3000)(i:∀k∈al,∀l∈hc (kA b M) k,l∈al)(m:0<Q al):(s1 b M al).ok:=by let d:(s1 b M al).b3.length=Q al:=bg ..;refine⟨Ll b,λg c=>YD c,λf j=>⟨E9<|cT j,anB j⟩,H2 b,by rw[d];exact bg ..,o,o,λf j=>?_,λf g j c=>?_⟩;rw[d] at j;rw[Zc j,bg,VH];rfl;rw[d] at j⊢;let e:=c;rw[Zc j,ain al e];refine Bm<|i _ (fK j) _ ?_;exact cV.2 ⟨_,g4.2<|E9<|cT e,p⟩
def aoT{c:bd}{M:b1}{al:X iR}(k:∀r∈al,∃b,qM (kA c M) ah b=r)(l:∀d∈al,∀s∈hc (kA c M) d,s∈al)(g:ni al)(n:eb al):∀d<(s1 c M al).b3.length,∃b,qM (iz (jo (s1 c M al))) 0 b=d:=by
 intro d j;let m:(s1 c M al).b3.length=Q al:=bg ..;rw[m] at j;rw[Zb];let⟨b,q⟩:=k _<|fK j;have:=(QC (acc:=r3 M) l b (by rw[g];exact kO ..)).1;rw[q] at this;change qM _ (hn al _) b=hn al _ at this;let t:=by
  let i:0<Q al:=o;let e:al[0]?=W ah:=by rw[g];rfl
  rw[cm i] at e;let f:=Dh n i;rw[oc e] at f;exact f
 grind[Dh]
def azo d M e:∀b∈c8 d M e,∃c,qM (kA d M) ah c=b:=tP (λb g=>⟨[],bG<|ea.1 g⟩) (λb ⟨c,j⟩ k i=>by obtain⟨f,_,rfl⟩:=cV.1 i;exact⟨c++[gk f],by grind[qM]⟩) e
section
attribute [local irreducible] ei
def ox(c:X (X Z))(b:X Y)(d:X (X Z)):V:=bH [.a 32 (aa c3 c),.a 1<|aa a_ b,.a 32<|aa c3 d]
def apc{c:X (X Z)}{b:Z}:b<Q c->(aa c3 c)[b]?=W (c3 (z c b [])):=by simp_all
def alX{c:X Y}{b:Z}:b<Q c->(aa a_ c)[b]?=W (a_ (z c b ad)):=by simp_all
def av0 b{A:Z}(q:A<32):p3 (kb (c3 b)) A 1 ad=W (an hf ((ei b A:Z))):=by unfold p3;rw[LR b q];rfl
def azx{e:X (X Z)}{d:X Y}{l:X (X Z)}{g:X Z}{i:Y}{b:Z}(n:b<Q e)(q:b<Q d):dF 266 [k b,c 6000,c 6001,c 6002] [(6000,ag 228 (c3 g)),(6001,ag 222 (c 6003)),(6002,ag 4 (a_ i)),(6003,ag 225 (ox e d l))] (cs []) [(6000,ag 228 (c3 (ey g (z e b [])))),(6001,ag 222 (c 6003)),(6002,ag 4 (a_ (i||z d b ad))),(6003,ag 225 (ox e d l))]:=by refine dN func266 [] λt m r=>?_;refine bi b (c3<|z e b []) ?_ (j:=ap);refine bI [(6000,6000)] ?_ (f:=av5);apply ev;refineλs=>gx b (a_<|z d b ad) ?_ (j:=ap);exact p;exact cE
end
section
attribute [local irreducible] ei
def alh{d:X (X Z)}{b:X Z}{c:Z}(q:c<Q b):nQ d (ak (c+1) b)=ey (nQ d (ak c b)) (z d (z b c 0) []):=Xv q
def alA{b:X Z}{d:Z->Y}{c:Z}(q:c<Q b):(ak (c+1) b).any d=((ak c b).any d||d (z b c 0)):=XM q
structure mn(iI:X Z)(A E:Z):Prop where
 j:E<=Q iI
 pS:∀u∈aU E iI,64*A<=u
 up:∀u∈ak E iI,u<64*(A+1)
theorem mn.start b:mn b 0 0:=⟨dO _,λc _=>o,λc q=>cc⟩
theorem LK{b:X Z}{c:Z}:c<Q b->aU c b=z b c 0::aU (c+1) b:=by simp_all
theorem mn.inc{b:X Z}(c:fT b)d:jV (aU d b):=c.1.sublist aY
def mn.ne{b:X Z}{A c:Z}:mn b A c->ei (aU c b) A≠0->c<Q b:=by grind[List.drop_eq_nil_of_le,V5,b9]
def mn.first{b:X Z}{A c:Z}(d:fT b)(q:mn b A c)(e:ei (aU c b) A≠0):z b c 0/64=A:=by let f:=LK<|q.ne e;let g:=mn.inc d c;let i:=q.pS;grind[aAZ]
theorem mn.low{b:X Z}{A c:Z}(e:fT b)(q:mn b A c)(d:ei (aU c b) A≠0):sR (ei (aU c b) A) (z b c 0%64)/\ei (aU c b) A&&&ei (aU c b) A-1=ei (aU (c+1) b) A:=by let g:=q.first e d;let f:=LK<|q.ne d;grind[mn.inc,ajc,aAY]
theorem mn.one{b:X Z}{A d:Z}(j:fT b)(q:mn b A d)(i:ei (aU d b) A≠0):mn b A (d+1):=by
 have g:=q.ne i;have:=q.first j i;refine⟨g,λe c=>q.pS e ?_,λe c=>?_⟩;grind[LK,List.mem_cons_of_mem];rw[pq (I:=0) g] at c;rcases eX.1 c with f|f;exact q.up e f
 (simp_all;omega)
def mn.next{b:X Z}{A c:Z}(q:mn b A c)(d:ei (aU c b) A=0):mn b (A+1) c:=⟨q.j,aA2 q.pS d,λf e=>by have:=q.up f e;omega⟩
def mn.head{c:X Z}{A d:Z}(q:mn c A d)(f:∀e∈ak d c,e<64*A):ei c A=ei (aU d c) A:=ajb λe g=>by constructor;intro b;rw[<-Ed d c] at b;rcases eX.1 b with b|b;have:=f e b;omega;exact b;exactλb=>(List.drop_sublist d c).subset b
def mn.fin{b:X Z}{c:Z}(d:fT b)(q:mn b 32 c):c=Q b:=by refine Km q.j<|Kn λe=>?_;let f:=q.pS (z b c 0) (by grind[LK,List.mem_cons_self]);let g:=d.2 (z b c 0) ap;omega
def anV{b c:Z}(f:0<b)(q:b<2^64)(e:b&&&b-1=c):nS .and hf b (k0 IntKind.u64 (b-1))=c:=by
 let d:k0 IntKind.u64 (b-1)=(b-1):=by rw[Pl];omega
 grind[QG,JI]
def GB(b:J):Z->J|0=>b|T+1=>nS .and hf (GB b T)<|k0 IntKind.u64<|GB b T-1
def apd{n:X (X Z)}{l:X Y}{w:X (X Z)}{b:X Z}(u:fT b){t:X V}{v:Z}(L:t[v]?=W (c3 b))(H:∀g∈b,g<Q n)(I:∀g∈b,g<Q l):dF 265 [.en 6004 v 0,.func (.func 266) [] [c 6000,c 6001,c 6002]] [(6004,.h 32 228 t),(6000,ag 228 (c3 [])),(6001,ag 222 (c 6003)),(6002,ag 4 (a_ ad)),(6003,ag 225 (ox n l w))] (cs []) [(6004,.h 32 228 t),(6000,ag 228 (c3 (nQ n b))),(6001,ag 222 (c 6003)),(6002,ag 4 (a_ (b.any λg=>z l g ad))),(6003,ag 225 (ox n l w))]:=by
 refine dN func265 [] λal m P=>?_;refine dv (Z×Z) (λi=>⟨[(1,.func (.func 266) [] [c 6000,c 6001,c 6002]),(6,.en 6004 v 0),(7,k i.1)],[(6004,.h 32 228 t),(6000,ag 228<|c3<|nQ n<|ak i.2 b),(6001,ag 222<|c 6003),(6002,ag 4<|a_<|(ak i.2 b).any λg=>z l g ad),(6003,ag 225<|ox n l w)],[]⟩) (λi=>i.1<=32/\mn b i.1 i.2/\∀g∈ak i.2 b,g<64*i.1) (λi=>32-i.1) (0,0) (λ⟨A,d⟩ ⟨S,y,M⟩=>?_) ⟨o,mn.start b,λg q=>cc⟩;apply e<;>intro R
 .let K:A<32:=o;let D:=av0 b K;rw[y.head M] at D;refine eg<|at4 ?_ (jr:=by show A=0+A*1;omega);refine e9 (x:=an hf<|(ei (aU d b) A:Z)) (c3 b) ?_ (j:=L) (bw:=D);refine dv Z (λT=>⟨[(1,.func (.func 266) [] [c 6000,c 6001,c 6002]),(4,k A),(5,an hf<|GB ((ei (aU d b) A:Z)) T),(6,.en 6004 v 0),(7,k A)],[(6004,.h 32 228 t),(6000,ag 228<|c3<|nQ n<|ak (d+T) b),(6001,ag 222<|c 6003),(6002,ag 4<|a_<|(ak (d+T) b).any λg=>z l g ad),(6003,ag 225<|ox n l w)],[]⟩) (λT=>mn b A (d+T)/\GB ((ei (aU d b) A:Z)) T=((ei (aU (d+T) b) A:Z))) (λT=>Q b-(d+T)) 0 (λT ⟨s,F⟩=>?_) ⟨y,p⟩;apply e<;>intro J
  .let r:ei (aU (d+T) b) A≠0:=λO=>J o;let B:=s.ne r;let C:=s.low u r;let U:=s.first u r;let G:z b (d+T) 0∈b:=cT B;let N:GB ((ei (aU d b) A:Z)) (T+1)=((ei (aU (d+(T+1)) b) A:Z)):=by rw[GB,F];exact anV (WD r) D2 C.2
   let E:=aAi D2 C.1;rw[<-F] at E;apply BC<|(64*A:Z);refine aS ?_ (f:=E);apply e6<|(z b (d+T) 0:Z);refine bI [(6000,6000),(6001,6001),(6002,6002),(6003,6003)] ?_ (f:=azx (H _ G)<|I _ G);rw[<-alh B,<-alA B];exact a0 (T+1) ⟨s.one u r,N⟩ o
  let r:ei (aU (d+T) b) A=0:=o;refine bc ?_;exact a0 (A+1,d+T) ⟨o,s.next r,s.up⟩ o
 obtain rfl:A=32:=o;obtain rfl:=y.fin u;rw[g5];exact cE
end
section
attribute [local irreducible] ei
def aBe d(g:X Y)k b(n:fT b)i j(q:i[j]?=W (c3 b))(l:∀e∈b,e<Q d)(fN:∀e∈b,e<Q g):dF 203 [c 6003,.en 6004 j 0] [(6004,.h 32 228 i),(6003,ag 225 (ox d g k))] (cs [c3 (nQ d b),a_ (b.any λe=>z g e ad)]) [(6004,.h 32 228 i),(6003,ag 225 (ox d g k))]:=by refine dN func203 [] λs m r=>?_;refine mC (c3 []) ?_ (fj:=cR);refine bI [(6004,6004),(6000,4),(6001,2),(6002,5),(6003,6003)] (f:=apd n q l fN)<|eS ?_;refine br (λ_=>ho p (a7:=tY))<|D6 (c3<|nQ d b) ?_ rg (fN:=rg);refine aBg<|fZ ?_;exact s4 bq<|.oq p p p p p tY rg<|.cell p p p p p .nil
end
def Pn:cz b5 3 (.int aj) 1 8:=⟨av,cR⟩
def B5:ky b5 3 (ek aj 0):=⟨cR,aR⟩
def vP:hs b5 3 1 8:=⟨cR⟩
def lR:cz b5 64 (dP 3) 1 24:=⟨av,cR⟩
def yH:hs b5 64 1 24:=⟨cR⟩
def oO:cz b5 87 (dP 64) 1 24:=⟨av,cR⟩
def Ph:uY b5 219 0 0 87 1:=⟨cR⟩
def fz.hU{P:ct}{m:db}{K:a4}{f:a9}{e d:V}{b c:b0}(q:fz P m K f e b)(g:e=d)(i:b=c):fz P m K f d c:=g▸i▸q
def aAQ(t u n r d c E e s:Z)(v l I:V)(f:X V)(b:X Z)(C:s=Q f)(j:f[E]?=W (.bO d c 0 (Q b)))(B:Q b<=10000000):gJ b5 hB 198 [.own t u 0 0,an aj (E:Z),an aj (e:Z)] [(t,.h u 4 219 [bH [.bO n r 0 s,v,l,I]]),(n,.h r 1 64 f),(d,.h c 1 3 (aa k b))] (λx K=>x=cs []/\K=[(t,.h u 4 219 [bH [.bO n r 0 s,v,l,I]]),(n,.h r 1 64<|aK f E<|.bO d (c+1) 0<|Q<|b++[e]),(d,.h (c+1) 1 3<|aa k<|b++[e])]):=by let A:E<Q f:=(e3.1 j).1;refine gJ.ae_ (l:=_) ⟨func198,a3,p⟩ (T:=22) p av p λm z w=>?_;refine HE [([],[]),([0],[]),([0],[]),([0],[]),([],[]),([],[]),([0],[]),([0],[]),([0],[]),([],[]),([1],[]),([1],[]),([],[]),([],[]),([],[2]),([1],[]),([],[1])] e1 w ?_;refine cg.dR [] (λg q=>kn) ?_;refine cg.dR [0] (λg q=>F4 (hk:=bC (q 0 aR) p)) ?_;refine cg.dR [0] (λg q=>FY Ph (hk:=bC (q 0 aR) p)) ?_;refine cg.dR [0] (λg q=>qG 0 oO (hk:=bC (q 0 aR) p)) ?_;refine cg.dR [] (λg q=>kn) ?_;refine cg.dR [] (λg q=>kn) ?_;refine cg.dR [0] (λg q=>F4 (hk:=bC (q 0 aR) p)) ?_;refine cg.dR [0] (λg q=>FY Ph (hk:=bC (q 0 aR) p)) ?_;refine cg.dR [0] (λg q=>qG 0 oO (hk:=bC (q 0 aR) p)) ?_;refine cg.dR [] (λg q=>kn) ?_;refine cg.dR [1] (λg q=>tk 1 (E:=E) oO yH (hk:=bC (q 1 aR) p)) ?_;refine cg.dR [1] (λg q=>qG 1 (el:=.bO d c 0<|Q b) lR (hk:=bC (q 1 aR) p) (j:=a2)) ?_;refine cg.dR [] (λg q=>kn) ?_;refine cg.dR [] (λg q=>NR lR vP B5) ?_;refine cg.up [] 2 (d,.h (c+1) 1 3<|aa k<|b++[e]) (x:=.bO d (c+1) 0<|Q<|b++[e]) (λg q=>?_) ?_;refine fz.hU (ZQ (len:=Q b) (off:=0) (ia:=aa k b) (mV:=[k e]) (i:=1) lR vP B5 (hk:=bC (q 2 aR) p) (hl:=OW (h:=[k e]) lR (kC:=λI bA=>by rw[ea.1 bA];rfl)) (Df:=o)) ?_ ?_;simp;simp[sG,rQ,bg,bz,dn];refine cg.dR [1] (λg q=>tk 1 (E:=E) oO yH (hk:=bC (q 1 aR) p)) ?_;refine cg.up [] 1 (n,.h r 1 64<|aK f E<|.bO d (c+1) 0<|Q<|b++[e]) (x:=.undef) (λg q=>?_) ?_;refine fz.hU (HO 1 (E:=0+E) (l:=0) (ia:=f) (el:=.bO d c 0<|Q b) lR (hk:=bC (q 1 aR) p) (j:=a2)) p ?_;exact ep (λy=>aK g 1 (n,cD.h r 1 64<|aK f y<|.bO d (c+1) 0<|Q<|b++[e]))<|kZ E;refine cg.nil (?_:ga.KL _ _ _ _);exact aam (bk:=⟨p,p⟩)
def aAO(r s d e E f n:Z)(t l I:V)(b:X V)(z:n=Q b)(j:b[E]?=W .ba):gJ b5 hB 198 [.own r s 0 0,an aj (E:Z),an aj (f:Z)] [(r,.h s 4 219 [bH [.bO d e 0 n,t,l,I]]),(d,.h e 1 64 b)] (λx K=>x=cs []/\∃c,K=[(r,.h s 4 219 [bH [.bO d e 0 n,t,l,I]]),(d,.h e 1 64<|aK b E<|.bO c 1 0 1),(c,.h 1 1 3 [k f])]):=by let y:E<Q b:=(e3.1 j).1;refine gJ.ae_ (l:=_) ⟨func198,a3,p⟩ (T:=22) p av p λm w u=>?_;refine fh.yA 1 λc=>?_;refine HE [([],[]),([0],[]),([0],[]),([0],[]),([],[]),([],[]),([0],[]),([0],[]),([0],[]),([],[]),([1],[]),([1],[]),([],[]),([],[]),([],[2]),([1],[]),([],[1])] e1 u ?_;refine cg.dR [] (λg q=>kn) ?_;refine cg.dR [0] (λg q=>F4 (hk:=bC (q 0 aR) p)) ?_;refine cg.dR [0] (λg q=>FY Ph (hk:=bC (q 0 aR) p)) ?_;refine cg.dR [0] (λg q=>qG 0 oO (hk:=bC (q 0 aR) p)) ?_;refine cg.dR [] (λg q=>kn) ?_;refine cg.dR [] (λg q=>kn) ?_;refine cg.dR [0] (λg q=>F4 (hk:=bC (q 0 aR) p)) ?_;refine cg.dR [0] (λg q=>FY Ph (hk:=bC (q 0 aR) p)) ?_;refine cg.dR [0] (λg q=>qG 0 oO (hk:=bC (q 0 aR) p)) ?_;refine cg.dR [] (λg q=>kn) ?_;refine cg.dR [1] (λg q=>tk 1 (E:=E) oO yH (hk:=bC (q 1 aR) p)) ?_;refine cg.dR [1] (λg q=>qG 1 (el:=.ba) lR (hk:=bC (q 1 aR) p) (j:=a2)) ?_;refine cg.dR [] (λg q=>kn) ?_;refine cg.dR [] (λg q=>NR lR vP B5) ?_;refine cg.up [] 2 (c,.h 1 1 3 [k f]) (x:=.bO c 1 0 1) (λg q=>?_) ?_;exact fz.hU (ZP (mV:=[k f]) (i:=1) lR vP B5 (hk:=bC (q 2 aR) p) (hl:=OW (h:=[k f]) lR (kC:=λI bA=>by rw[ea.1 bA];rfl)) (Df:=o)) p p;refine cg.dR [1] (λg q=>tk 1 (E:=E) oO yH (hk:=bC (q 1 aR) p)) ?_;refine cg.up [] 1 (d,.h e 1 64<|aK b E<|.bO c 1 0 1) (x:=.undef) (λg q=>?_) ?_;refine fz.hU (HO 1 (E:=0+E) (l:=0) (ia:=b) (el:=.ba) lR (hk:=bC (q 1 aR) p) (j:=a2)) p ?_;exact ep (λv=>aK g 1 (d,cD.h e 1 64<|aK b v<|.bO c 1 0 1))<|kZ E;refine cg.nil (?_:ga.KL _ _ _ _);exact aam (bk:=⟨p,c,p⟩)
def kH(n:ce)(b M:Z)(c:aw)(d:X V):Z×cD:=((n b).1,.h (n b).2 M c d)
def afw(n:ce)(b:Z)(d:X (V×V×Z))(c:Z):Z×cD:=((n b).1,.map (n b).2 d c)
def NK(n:ce)(b:Z):V:=.own (n b).1 (n b).2 0 0
def Dz(n:ce)(b T:Z):V:=.bO (n b).1 (n b).2 0 T
structure dT where
 id:Z
 aP:Z
 l:X Z
instance:xv dT:=⟨⟨0,0,[]⟩⟩
def gc(b:dT):V:=if b.l=[] then .ba else .bO b.id b.aP 0 (Q b.l)
def rz(b:dT):b0:=if b.l=[] then[] else[(b.id,.h b.aP 1 3<|aa k b.l)]
def cQ(b:X dT):b0:=b.flatMap rz
def ew(b:X dT):X (X Z):=aa dT.l b
theorem IF b c:cQ (b++c)=cQ b++cQ c:=Py
theorem Nq c b:cQ (c::b)=rz c++cQ b:=ts
theorem VS{d:Type}{b:X d}{c:Z}(q:c<Q b):b=ak c b++b[c]::aU (c+1) b:=by simp
def Vo{e:Type}{c:X e}{b:Z}(q:b<Q c)d:aK c b d=ak b c++d::aU (b+1) c:=by rw[ajZ,ae q]
def IJ(b c d e:Z):V:=bH [.aq 5000 0 b,.aq 5001 0 c,.aq 5002 0 d,.aq 5003 0 e]
def BE(b:X dT)(d c:X V)(e:X V):bU:=[(6000,ag 219<|IJ (Q b) (Q d) (Q c)<|Q e),(5000,.h 1 64<|aa gc b),(5001,.h 1 3 d),(5002,.h 1 3 c),(5003,.h 256 237 e)]
def aAP b i g j d e(u:d<Q b)(G:∀f∈b,Q f.l<=10000000):nM b5 hB 198 [c 6000,k d,k e] (cQ b) (BE b i g j) (ew ·=aK (ew b) d (z (ew b) d []++[e])) (λ_=>cs []) cQ (BE · i g j):=by
 intro n;let J:∀{m:X dT},ew m=aK (ew b) d (z (ew b) d []++[e])->Q m=Q b:=λ{m} q=>by grind[List.length_set,ew,List.length_map]
 let I:z (ew b) d []=b[d].l:=by rw[dm,ew,c4,cm u];rfl
 let D:∀r,r.l=b[d].l++[e]->ew (aK b d r)=aK (ew b) d (z (ew b) d []++[e]):=λr w=>by grind[ew,List.map_set]
 let L:(aa gc b)[d]?=W (gc b[d]):=by rw[c4,cm u];rfl
 let F:cQ b=cQ (ak d b)++(rz b[d]++cQ (aU (d+1) b)):=by rw[<-Nq,<-IF,<-VS u]
 let B:∀r,cQ (aK b d r)=cQ (ak d b)++(rz r++cQ (aU (d+1) b)):=λr=>by rw[Vo u,IF,Nq]
 let bm:b0:=[((n 5001).1,.h (n 5001).2 1 3 i),((n 5002).1,.h (n 5002).2 1 3 g),((n 5003).1,.h (n 5003).2 256 237 j)];let s:=cQ<|ak d b;let t:=cQ<|aU (d+1) b;let x:∀m,aX n (BE m i g j)=[((n 6000).1,.h (n 6000).2 4 219 [bH [.bO (n 5000).1 (n 5000).2 0 (Q m),.bO (n 5001).1 (n 5001).2 0<|Q i,.bO (n 5002).1 (n 5002).2 0<|Q g,.bO (n 5003).1 (n 5003).2 0<|Q j]]),((n 5000).1,.h (n 5000).2 1 64<|aa gc m)]++bm:=λm=>p;by_cases v:b[d].l=[];let E:gc b[d]=.ba:=ae v;let A:rz b[d]=[]:=ae v;apply gJ.frame (aAO (n 6000).1 (n 6000).2 (n 5000).1 (n 5000).2 d e (Q b) (.bO (n 5001).1 (n 5001).2 0<|Q i) (.bO (n 5002).1 (n 5002).2 0<|Q g) (.bO (n 5003).1 (n 5003).2 0<|Q j) (aa gc b) av ap)<|s++(t++bm);rw[x,F,A];refine tj λy=>?_;simp[GI,Kd,Px,s,t];omega;rintro H K ⟨rfl,f,rfl⟩;let w:ew (aK b d ⟨f,1,[e]⟩)=_:=D ⟨f,1,[e]⟩ ap;refine⟨cQ (aK b d ⟨f,1,[e]⟩)++aX n (BE (aK b d ⟨f,1,[e]⟩) i g j),?_,_,n,w,dg.refl _ n,p,p⟩;rw[x,B,nJ,hW,show rz ⟨f,1,[e]⟩=[(f,.h 1 1 3 [k e])] from p,show gc ⟨f,1,[e]⟩=.bO f 1 0 1 from p];refine tj λy=>?_;simp[GI,Kd,Px,s,t];omega;let E:gc b[d]=.bO b[d].id b[d].aP 0 b[d].l.length:=ab v;let A:rz b[d]=[(b[d].id,.h b[d].aP 1 3<|b[d].l.map k)]:=ab v;apply gJ.frame (aAQ (n 6000).1 (n 6000).2 (n 5000).1 (n 5000).2 b[d].id b[d].aP d e (Q b) (.bO (n 5001).1 (n 5001).2 0<|Q i) (.bO (n 5002).1 (n 5002).2 0<|Q g) (.bO (n 5003).1 (n 5003).2 0<|Q j) (aa gc b) b[d].l av ap<|G _<|fK u)<|s++(t++bm);grind[tj];rintro H K ⟨rfl,rfl⟩;let w:ew (aK b d ⟨b[d].id,b[d].aP+1,b[d].l++[e]⟩)=_:=D ⟨b[d].id,b[d].aP+1,b[d].l++[e]⟩ p;let C:¬b[d].l++[e]=[]:=av;refine⟨cQ (aK b d ⟨b[d].id,b[d].aP+1,b[d].l++[e]⟩)++aX n (BE (aK b d ⟨b[d].id,b[d].aP+1,b[d].l++[e]⟩) i g j),?_,_,n,w,dg.refl _ n,p,p⟩;rw[x,B,nJ,hW,show rz ⟨b[d].id,b[d].aP+1,b[d].l++[e]⟩=[(b[d].id,.h (b[d].aP+1) 1 3 (aa k (b[d].l++[e])))] from ab C,show gc ⟨b[d].id,b[d].aP+1,b[d].l++[e]⟩=.bO b[d].id (b[d].aP+1) 0 (Q (b[d].l++[e])) from ab C];refine tj λy=>?_;simp[GI,Kd,Px,s,t];omega
def ar0 b d e f(bQ:Q b<=10000000)(i:Q d<=10000000):dF 142 [c 6000] [(6000,ag 219 (IJ (Q b) (Q d) (Q e) (Q f))),(5000,.h 1 64 b),(5001,.h 1 3 d),(5002,.h 1 3 e),(5003,.h 256 237 f)] (k (Q b)) [(6000,ag 219 (IJ (Q (b++[V.ba])) (Q (d++[V.int aj (-1)])) (Q e) (Q f))),(5000,.h 1 64 (b++[V.ba])),(5001,.h 1 3 (d++[V.int aj (-1)])),(5002,.h 1 3 e),(5003,.h 256 237 f)]:=by refine dN func142 [] λj m g=>?_;refine er ?_;refine e7 _ ?_ (bQ:=a2);refine er ?_;refine e7 _ ?_ (bQ:=a2);exact jg _ (q:=av)<|cE
def afM:∀b,e_ b->bb 141 [c0 b] (k (dG b)):=by
 refine aO.ind λb y he=>?_;let⟨⟨⟨O,P⟩,R,H,S,T,U⟩,x⟩:=p0.1 he;let M:=Ri b.aD;rw[wm];refine gJ.of_wp (t:=hV) (i:=5000) [29] (λ_=>(0,0)) ⟨[(0,c0 b)],[],[]⟩ e1 bq gw ⟨func141,a3,p⟩ p p p p λm C a7=>?_;let L:k1 b5 hV m hB _ [29]:=⟨e1,bq,C,gw,a7⟩;apply e<;>intro r
 .exact aA (q:=by rw[ot,ae r];rfl)
 apply e<;>intro s
 .let⟨I,X,Y,al⟩:=H s;let v:0<Q b.aD:=o;let A:=Rg<|z b.aD 0 ai;let G:e0 b.aD=dG (z b.aD 0 ai):=by rw[Fp I,e0,e0];rfl
  refine gf J (λg=>⟨[(1,c 1),(4,an aj g)],[(1,ag 164<|c0 b)],[]⟩) (·=(if b.max=-1 then b.min+1 else b.max)) ?_ λg E=>?_
  .apply e<;>intro w
   .refine bc ?_;exact cA (b.min+1)<|bG<|ae w
   exact cA b.max<|bG<|ab w
  let F:aB g=(if b.max=-1 then aB (b.min+1) else aB b.max):=by rw[E];split<;>rfl
  let N:dG (z b.aD 0 ai)*aB g<=2001*51:=Ci A o;let u:min ((dG (z b.aD 0 ai)*aB g):J) 2001=((ot b:Z)):=by rw[ot,ab r,ae s,G,<-F];exact(show∀l:Z,min (l:J) 2001=((min l 2001:Z)) by omega) _
  refine bi 0 (c0<|z b.aD 0 ai) ?_ (j:=l5 v) (a7:=a3);refine aS ?_ (f:=y _ (cT v)<|x _<|cT v);refine BC ((dG (z b.aD 0 ai)*aB g:Z)) ?_ (q:=aY);refine pY ((ot b:Z)) ?_ (q:=u);exact aA
 refine eC (Q b.aD) (λd=>⟨[(3,k<|e0<|ak d b.aD),(10,.a 5<|hN b.aD),(11,k<|Q<|hN b.aD),(12,k d)],[],[]⟩) λd j=>?_;apply e<;>intro D
 .let n:d<Q b.aD:=by rw[iS] at D;omega
  let K:=YP n;let B:=Ri<|ak (d+1) b.aD;rw[mK] at B;refine bi d (c0<|z b.aD d ai) ?_ (j:=l5 n);refine aS ?_ (f:=y _ (cT n)<|x _<|cT n);refine e6 ((e0 (ak (d+1) b.aD):Z)) ?_ (q:=o);refine bc ?_;exact a0<|d+1
 obtain rfl:d=Q b.aD:=by grind[iS]
 rw[g5];let u:min ((e0 b.aD):J) 2001=((ot b:Z)):=by rw[ot,ab r,ab s];exact(show∀l:Z,min (l:J) 2001=((min l 2001:Z)) by omega) _
 refine pY ((ot b:Z)) ?_ (q:=u);exact aA
def avW:∀b,e_ b->bb 197 [c0 b] (a6 (o5 b)):=by
 refine aO.ind λb v he=>?_;let⟨⟨⟨F,G⟩,H,y,I,J,K⟩,s⟩:=p0.1 he;rw[X8];refine gJ.of_wp (t:=hV) (i:=5000) [] (λ_=>(0,0)) ⟨[(0,c0 b)],[],[]⟩ e1 bq gw ⟨func197,a3,p⟩ p p p p λm A a7=>?_;let B:k1 b5 hV m hB _ []:=⟨e1,bq,A,gw,a7⟩;apply e<;>intro g
 .exact aA (q:=by rw[r7,ae g];rfl)
 apply e<;>intro l
 .refine i0 (Q b.aD) (λc=>wg b.aD=wg (aU c b.aD)) (λc=>⟨[(14,.a 5<|hN b.aD),(15,k<|Q<|hN b.aD),(16,k c)],[],[]⟩) (λc j=>?_) p;apply e<;>intro w
  .let d:c<Q b.aD:=by rw[iS] at w;omega
   refine bi c (c0<|z b.aD c ai) ?_ (j:=l5 d);refine aS ?_ (f:=v _ (cT d)<|s _<|cT d);apply e<;>intro C
   .exact aA (q:=by rw[r7,ab g,ae l,j.2,ww d,wg,show o5 (z b.aD c ai)=ad by simp_all];rfl)
   refine bc ?_;exact a0 (c+1) ⟨o,by grind[ww,wg,o5,ai]⟩
  exact aA (q:=by rw[iS] at w;rw[r7,ab g,ae l,j.2,kM o];rfl)
 apply e<;>intro n
 .refine i0 (Q b.aD) (λc=>qk b.aD=qk (aU c b.aD)) (λc=>⟨[(27,.a 5<|hN b.aD),(28,k<|Q<|hN b.aD),(29,k c)],[],[]⟩) (λc j=>?_) p;apply e<;>intro x
  .let d:c<Q b.aD:=by rw[iS] at x;omega
   refine bi c (c0<|z b.aD c ai) ?_ (j:=l5 d);refine aS ?_ (f:=v _ (cT d)<|s _<|cT d);apply e<;>intro D
   .exact aA (q:=by rw[r7,ab g,ab l,ae n,j.2,ww d,qk,show o5 (z b.aD c ai)=af by omega];rfl)
   refine bc ?_;exact a0 (c+1) ⟨o,by grind[ww,qk,o5,ai]⟩
  exact aA (q:=by rw[iS] at x;rw[r7,ab g,ab l,ae n,j.2,kM o];rfl)
 apply e<;>intro r
 .let u:0<Q b.aD:=by have:=(y r).1;omega
  apply ev;intro E;refine gx 0 (c0<|z b.aD 0 ai) ?_ (j:=l5 u) (a7:=a3);refine cf ?_ (f:=v _ (cT u)<|s _<|cT u);exact p;exact aA (q:=by rw[r7,ab g,ab l,ab n,ae r,Fp (y r).1,qk,qk,Bool.or_false];rfl)
 exact aA (q:=by rw[r7,ab g,ab l,ab n,ab r];rfl)
def bs.dc(T:bs):Z:=Q T.aC+(aa Q T.aC).sum+Q T.aE+Q T.g7
def wa(T:bs):Prop:=Q T.dd=Q T.aC
theorem By(T:bs):T.bY.dc=T.dc+1:=by
 unfold bs.dc bs.bY
 (simp;omega)
theorem aiy:∀(b:X (X Z)) c d,(aa Q b).sum<=(aa Q (aK b c (z b c []++[d]))).sum|[],_,_=>bz _|e::b,0,d=>by simp|e::b,c+1,d=>by have:=aiy b c d;simp_all
theorem Nh{T:bs}{y R:Z}:T.dc<=(T.dS y R).dc:=by grind[bs.dc,bs.dS,aiy,List.length_set]
def adT{T:bs}{c:X Z}(q:c∈T.aC):Q c<=T.dc:=by
 have:∀{b:X _},c∈b->Q c<=(aa Q b).sum:=λ{b} q=>by
  induction b
  cases q
  next d b e=>grind
 grind[bs.dc]
def ac1{T:bs}:Q T.aC<=T.dc:=by grind[bs.dc]
def ayK(T:bs):Q T.aE<=T.dc:=by grind[bs.dc]
def al2{T:bs}:Q T.g7<=T.dc:=by simp[bs.dc]
structure oY(T Du:bs):Prop where
 dc:T.dc<=Du.dc
 pg:wa T->wa Du
 len:Q T.aC<=Q Du.aC
theorem oY.refl T:oY T T:=⟨bz _,id,bz _⟩
theorem oY.trans{b c d:bs}(q:oY b c)(A:oY c d):oY b d:=⟨dK q.dc A.dc,λe=>A.pg<|q.pg e,dK q.len A.len⟩
def pb T:oY T T.bY:=⟨by simp[By],λq=>by grind[wa,bs.bY,List.length_append],by simp[bs.bY,cX]⟩
def qt T b c:oY T (T.dS b c):=⟨Nh,λq=>by grind[wa,bs.dS,List.length_set],by simp[bs.dS,nJ,bz]⟩
def abm{T:bs}{y R:Z}{M:a1}:oY T (T.w4 y R M):=⟨(by(simp[bs.dc,bs.w4,cX];omega)),λq=>by grind[wa,bs.w4,List.length_set],bz _⟩
theorem wM(T:bs):Q T.bY.aC=Q T.aC+1:=by simp[bs.bY,cX]
theorem B4(T:bs)b c:(T.dS b c).aC.length=Q T.aC:=by simp[bs.dS,nJ]
def rX(b:bs->Z->bs×Z):Prop:=∀T B,oY T (b T B).1/\(B<Q T.aC->(b T B).2<(b T B).1.aC.length)
def Mg{b:bs->Z->bs×Z}(q:rX b):∀A,rX (iD b A)|0,T,B=>⟨oY.refl T,id⟩|A+1,T,B=>by obtain⟨d,e⟩:=q T B;obtain⟨f,g⟩:=Mg q A _ _;exact⟨d.trans f,λc=>g<|e c⟩
def abl{b:bs->Z->bs×Z}(q:rX b){T:bs}{B:Z}:oY T (ym b T B)/\Q T.aC<(ym b T B).aC.length:=by obtain⟨c,_⟩:=q _ B;exists (((pb T).trans<|qt T.bY B<|Q T.aC).trans c).trans<|qt _ _ _;unfold ym;have:=c.len;grind[B4,wM]
def Mh{b:bs->Z->bs×Z}(q:rX b):∀A,rX (e2 b A)|0,T,B=>⟨oY.refl T,id⟩|A+1,T,B=>by obtain⟨c,d⟩:=abl q;obtain⟨e,f⟩:=Mh q A _ _;exact⟨c.trans e,λ_=>f d⟩
def Sp{T:bs}{B:Z}:oY T (mc T B)/\(mc T B).aC.length=Q T.aC+2:=by exists (((pb T).trans<|pb _).trans<|qt _ _ _).trans (qt _ _ _);simp[mc,B4,wM]
def aqy{c:bs->Z->bs×Z}(q:rX c){g i:J}:rX (qI c g i):=λT B=>by obtain⟨d,k⟩:=Mg q _ T B;unfold qI;split;obtain⟨b,e⟩:=Sp;obtain⟨f,_⟩:=q _ _;refine⟨((d.trans b).trans f).trans<|qt _ _ _,λ_=>?_⟩;unfold JA;rw[B4];have:=f.len;omega;obtain⟨b,e⟩:=Mh q _ _ _;exact⟨d.trans b,λj=>e<|k j⟩
def Sl:∀b,(∀c∈b,rX (hh c))->rX (ms b)|[],_,T,B=>by simp[ms,oY.refl,id]|d::b,q,T,B=>by obtain⟨f,g⟩:=q d av T B;obtain⟨i,j⟩:=Sl b (λc k=>q c aY) _ _;exact⟨f.trans i,λe=>j<|g e⟩
def Mk:∀c,(∀e∈c,rX (hh e))->∀T B b,oY T (mT c T B b)|[],_,T,B,b=>by simp[mT,oY.refl]|d::c,q,T,B,b=>by let⟨f,i⟩:=q d av T B;let g:=Mk c (λe j=>q e aY) ((hh d T B).1.dS (hh d T B).2 b) B b;exact(f.trans<|qt _ _ _).trans g
def Lb(b:aO)(T:bs)(B:Z):bs×Z:=if dG b=0 then((if o5 b then T.bY.dS B (Q T.aC) else T.bY),Q T.aC)
 else if b.bL=3 then((T.bY.bY.dS B<|Q T.aC).w4 (Q T.aC) (Q T.aC+1)<|ko b.set,Q T.aC+1)
 else if b.bL=4 then ms b.aD T B
 else if b.bL=5 then(mT b.aD T.bY B<|Q T.aC,Q T.aC)
 else if b.bL=6 then zc b.aD b.min b.max T B
 else(T.bY.dS B<|Q T.aC,Q T.aC)
def QR b T B:hh b T B=Lb b T B:=by cases b;rfl
def Bi:∀b,rX (hh b):=aO.ind λb c T B=>by
 let e:oY T (T.bY.dS B<|Q T.aC)/\Q T.aC<(T.bY.dS B<|Q T.aC).aC.length:=⟨(pb T).trans<|qt _ _ _,by simp[B4,wM]⟩;rw[QR,Lb];split;split;simp_all;simp[pb,wM,xp];split;refine⟨(((pb T).trans<|pb _).trans<|qt _ _ _).trans abm,λ_=>?_⟩;show Q T.aC+1<(T.bY.bY.dS _ _).aC.length;simp[B4,wM];split;exact Sl _ c T B;split;have:=Mk _ c T.bY B<|Q T.aC;exact⟨(pb T).trans this,λ_=>by have:=this.len;grind[wM]⟩;split
 match f:b.aD with|[]=>simp[zc,oY.refl,id]|d::g=>exact aqy (c d ap) T B
 simp_all
section
open Go.Shelf
end
def b2(M:a1):V:=.vec 256 (.eR M) []
theorem ht{M:a1}:(b2 M).cells.length=Q M:=by show Q (aa _ M++[])=_;simp
theorem LM M{b:Z}(q:b<Q M){c:Y}:(b2 M).cells.set b (a6 c)=kb (b2 (aK M b c)):=gl.ayC q
theorem CU M{b:Z}(q:b<Q M):(kb (b2 M))[b]?=W (a6 (z M b ad)):=gl.Dc q
def iJ{M:a1}(q:Q M=256):(gl.eR M).cells.length=256:=bC (gl.Ts) q
def qo{M:a1}(q:Q M=256):(b2 M).oa:=iJ q
theorem gO:Q cL=256:=sH ..
def jE:(b2 cL).cells.length=256:=bC (ht) gO
def a1.o2(M:a1)(d c:Z):a1:=M.mapIdx λb e=>e||aL (d<=b)&&aL (b<c)
def apE{f n:Type}{d e:Z->f->n}{c:X f}(q:∀b(j:b<Q c),d b c[b]=e b c[b]):c.mapIdx d=c.mapIdx e:=by refine rN av λb g i=>?_;simp_all
theorem a1.Ql(M:a1)c b:Q (M.o2 c b)=Q M:=by simp[a1.o2]
theorem a1.Ez(M:a1)b:M.o2 b b=M:=by unfold a1.o2;refine rN av λe c d=>?_;grind
theorem a1.ak_(M:a1){c b:Z}(q:c<=b):aK (M.o2 c b) b af=M.o2 c (b+1):=by unfold a1.o2;refine rN av λf d e=>?_;grind
theorem a1.Qk(M:a1)c b:M.o2 c (b+1)=M.add c b:=by unfold a1.o2 a1.add<;>grind
theorem a1.alc(M:a1){b c:Z}(q:c<b):M.add b c=M:=by
 rw[<-a1.Qk];have:M.o2 b (c+1)=M.o2 b b:=by refine apE λd _=>?_;congr 1;rw[lT];simp;omega
 grind[a1.Ez]
def a1.j6(M:a1)(T:Z):a1:=M.mapIdx λc b=>if c<T then !b else b
theorem a1.IZ(M:a1):M.j6 0=M:=by unfold a1.j6;refine rN av λd b c=>?_;simp
def a1.afp{M:a1}{T:Z}(q:Q M<=T):M.j6 T=M.others:=by unfold a1.j6 a1.others;refine rN av λd b c=>?_;grind
theorem a1.zT(M:a1)T:Q (M.j6 T)=Q M:=by simp[a1.j6]
theorem a1.avg(M:a1){T:Z}(q:T<Q M):aK (M.j6 T) T (!z M T ad)=M.j6 (T+1):=by unfold a1.j6;refine rN av λd b c=>?_;grind
def a1.nr(M d:a1)(T:Z):a1:=M.mapIdx λb c=>if b<T then c||z d b ad else c
def a1.S1(M b:a1):M.nr b 0=M:=by unfold a1.nr;refine rN av λe c d=>?_;simp
theorem a1.Fm(M b:a1)T:Q (M.nr b T)=Q M:=by simp[a1.nr]
def a1.SZ(M:a1){b:a1}{T:Z}(q:Q M<=T)(d:Q b=Q M):M.nr b T=M.join b:=by unfold a1.nr a1.join;refine rN ap λf c e=>?_;grind
theorem a1.S0(M b:a1){T:Z}:T<Q M->z (M.nr b T) T ad=z M T ad:=by simp[a1.nr,dm,Wq]
theorem a1.arS(M b:a1){T:Z}(q:T<Q M){c:Y}(f:c=(z M T ad||z b T ad)):aK (M.nr b T) T c=M.nr b (T+1):=by unfold a1.nr;refine rN av λg d e=>?_;grind
def ZD{M:a1}{c b:Z}:c<=b->b<Q M->(b2 (M.o2 c b)).cells.set b (a6 af)=kb (b2 (M.o2 c (b+1))):=by grind[LM,a1.Ql,a1.ak_]
def ZE{M:a1}{T:Z}(q:T<Q M){b:Y}:b=z M T ad->(b2 (M.j6 T)).cells.set T (a6 !b)=kb (b2 (M.j6 (T+1))):=by grind[LM,a1.zT,a1.avg]
theorem RF{M b:a1}{T:Z}(q:T<Q M){c:Y}:c=(z M T ad||z b T ad)->(b2 (M.nr b T)).cells.set T (a6 c)=kb (b2 (M.nr b (T+1))):=by grind[LM,a1.Fm,a1.arS]
theorem a1.xF(M:a1)c b:Q (M.add c b)=Q M:=by simp[a1.add]
theorem a1.zU(M:a1):Q M.others=Q M:=by simp[a1.others]
theorem a1.arX(M b:a1):Q b=Q M->Q (M.join b)=Q M:=by grind[a1.join]
open Go.Shelf Go.Proofs in
def Mx(M:X v)(b:v):bb 324 [bV M,bR b] (an aj (Go.Lib.indexByte M b)):=.L1 (.str<|.int .nil) (λd=>.int ..) λc=>by have:=Tryz.strings_IndexByte ⟨M.toArray⟩ (aG b) c;simp_all
def u_(M:a1)d f(cq:Q M=256)(n:f<256):dF 199 [c 6000,k d,k f] [(6000,ag 237 (b2 M))] (cs []) [(6000,ag 237 (b2 (M.add d f)))]:=by
 refine dN func199 [] λt m j=>?_
 conv in b2 M=>rw[<-a1.Ez M d]
 refine dv Z (λb=>⟨[(0,_),(2,_),(6,k b)],[(6000,ag 237<|b2 _)],[]⟩) (λb=>d<=b/\(b<=f+1\/b=d)) (f+1-·) d (λb i=>?_) (cq:=.r);apply e<;>intro l
 .let s:=a1.Ql M d b;apply hE b b;refine tf _ (lI:=P3) (aW:=ZD o o)<|bc ?_;exact a0 (b+1) ⟨o,o⟩ (cq:=.r)
 let g:M.o2 d b=M.add d f:=by rcases i.2 with q|q;have:b=f+1:=o;grind[a1.Qk];grind[a1.Ez,a1.alc]
 rw[g];exact cE
def Ux(M:a1)(cq:Q M=256):bb 319 [b2 M] (b2 M.others):=by
 refine bx func319 [] λm d=>?_
 conv in b2 M=>rw[<-a1.IZ M]
 refine mC (b2 cL) ?_ (fj:=a3);refine ho (a7:=iJ (by grind[a1.IZ]))<|eC 256 (λb=>⟨[(1,c 1),(2,c 2),(5,_),(6,k b)],[(1,ag 237<|b2<|M.j6 b),(2,_)],[]⟩) (λb j=>?_) .r;apply e<;>intro f
 .refine T5 (x:=a6<|z M b ad) (bQ:=by grind[a1.IZ,gl.Dc])<|hE b b ?_ (jr:=by show b=0+b*1;omega);refine tf (b2<|M.j6<|b+1) (lI:=by grind[ht,a1.zT]) (aW:=ZE o p)<|bc ?_;exact a0 (b+1) (cq:=.r)
 refine ho (a7:=iJ (by grind[a1.zT]))<|lh (b2<|M.j6 b) ?_ (h1:=by show(b2 (M.j6 b)).cells.length=256;grind[ht,a1.zT]) (fN:=a3);exact EZ bq (.oq p p p p p (qo (by grind[a1.zT])) (by rw[ht,a1.zT];exact cq) .nil) (q:=by rw[a1.afp o];rfl)
def al7(M d:a1)(cq:Q M=256)(i:Q d=256):dF 356 [c 6000,b2 d] [(6000,ag 237 (b2 M))] (cs []) [(6000,ag 237 (b2 (M.join d)))]:=by
 refine dN func356 [] λs m l=>?_
 conv in b2 M=>rw[<-a1.S1 M d]
 refine ho (a7:=iJ i)<|eC 256 (λb=>⟨[(0,_),(6,_),(7,k b)],[(6000,ag 237<|b2<|M.nr d b)],[]⟩) (λb j=>?_) .r;apply e<;>intro n
 .let q:=a1.Fm M d b;refine T5 (x:=a6<|z d b ad) (bQ:=gl.Dc o)<|eS ?_;apply br λ_=>hE b b p (jr:=by show b=0+b*1;omega);refine br (λ_=>io (a6<|z M b ad) p (eM:=by grind[a1.S0,CU]))<|Ol (λg=>?_) λg=>?_
  all_goals apply br λ_=>hE b b p (jr:=by show b=0+b*1;omega);refine Af (b2<|M.nr d<|b+1) (lI:=P3) (aW:=RF o ap)<|kU []<|bc ?_;exact a0 (b+1) (cq:=.r)
 let f:M.nr d b=M.join d:=a1.SZ M o o;rw[f];exact cE
def JW:dT:=⟨0,0,[]⟩
def nx(b:X dT)(T:bs):bU:=BE b (aa c7 T.dd) (aa k T.g7)<|aa b2 T.aE
def B3{d:X dT}{T:bs}(f:ew d=T.aC)(g:T.dc<=10000000)b e(j:b<Q T.aC):nM b5 hB 198 [c 6000,k b,k e] (cQ d) (nx d T) (ew ·=(T.dS b e).aC) (λ_=>cs []) cQ (nx · (T.dS b e)):=by let q:=aAP d (aa c7 T.dd) (aa k T.g7) (aa b2 T.aE) b e (by grind[ew,List.length_map]) λl i=>dK (adT (by rw[<-f];exact List.mem_map_of_mem i)) g;rw[f] at q;exact q
def Bq{kd:X dT}{T:bs}(b:ew kd=T.aC)(s:T.dc<=10000000)(m:wa T):nM b5 hB 142 [c 6000] (cQ kd) (nx kd T) (ew ·=T.bY.aC) (λ_=>k<|Q T.aC) cQ (nx · T.bY):=by
 intro n;let t:Q kd=Q T.aC:=by rw[<-b,ew,bg]
 let r:=ac1 (T:=T);let q:=ar0 (aa gc kd) (aa c7 T.dd) (aa k T.g7) (aa b2 T.aE) a2 (by rw[bg,m];omega) n;let f:aa gc (kd++[JW])=aa gc kd++[V.ba]:=tw;let g:ew (kd++[JW])=T.bY.aC:=by rw[ew,dn,<-ew,b];rfl
 let i:cQ (kd++[JW])=cQ kd:=by rw[IF];exact ff _
 let j:aa c7 T.bY.dd=aa c7 T.dd++[V.int aj (-1)]:=by show aa c7 (T.dd++[-1])=_;rw[dn];rfl
 apply gJ.frame q<|cQ kd;refine tj λe=>?_
 (simp[nx,BE,bg,GI];omega)
 rintro u K ⟨d,l,rfl,rfl⟩;refine⟨cQ _++aX d (nx _ _),?_,kd++[JW],d,g,l,?_,p⟩;rw[i];refine tj λe=>?_;unfold nx BE;rw[f,j,show Q (kd++[JW])=Q (aa gc kd++[V.ba]) by simp];simp;exact xl _ _;simp_all
section
attribute [local irreducible] ei
def ue(T:bs):V:=bH [.a 1 (aa b6 T.aC),.a 1<|aa c7 T.dd,.a 1<|aa k T.g7,.a 256<|aa b2 T.aE]
def ay5{c:Type}{b:X c}(q:0<Q b):∃(i:X c)(d:c),b=i++[d]:=by exists b.dropLast,b.getLast aY;rw[ajL]
structure akH where
 seen:X Y
 O:X Z
 S:X Z
 b:Y
 SX:X Z
def abI{c:X J}{b:Z}(q:b<Q c){d:J}:z c b (-1)=d->(aa c7 c)[b]?=W (c7 d):=by simp_all
def axZ{d b:X Z}{c:Z}(q:d++[c]<+:b):(aa k b)[(Q d)]?=W (k c):=by obtain⟨e,rfl⟩:=q<;>simp_all
def axY{b c:X Z}(q:b<+:c){d:Z}:ak (Q (aa k b)) (aU 0 (aa k c))++[k d]=aa k (b++[d]):=by obtain⟨e,rfl⟩:=q<;>simp_all
def ak8{b:X Z}{c:Z}:u5 b ((c:Z))=ey b [c]:=a3
theorem ak9 b{c:J}(q:¬0<=c):u5 b c=b:=ab q
def Wa(T:bs)(b:Z)(d:X (Z×V))(e:bU):aI:=⟨(0,c 6000)::(2,k b)::(6,c 6)::(8,.aq 18 0<|Q T.aC)::d,(6000,ag 219<|ue T)::e,[]⟩
def agD T(s:r0 T)(ar:Q T.dC<=2000)(aM:Q T.aC<=10000000)(ax:∀d,Q (z T.aC d [])<=10000000)n F(L:n<Q T.aC)A(G:Y)(au:fT A)(aQ:∀q,q∈A↔q<Q T.dC/\ga.Way (lZ T) n (z T.dC q 0))(aw:G↔ga.Way (lZ T) n F):dF 144 [c 6000,k n,k F] [(6000,ag 219 (ue T))] (cs [c3 A,a_ G]) [(6000,ag 219 (ue T))]:=by
 refine dN func144 [51] λaS m aJ=>?_;have:Q (aa b6 T.aC)=Q T.aC:=bg ..;have aF:=nN.start s (F:=F) L;refine mC (c3 []) ?_ (fj:=cR);refine kF (Q T.aC) (Q T.aC) (aa a_<|cM (Q T.aC) ad) ?_ (j:=o) (j1:=o) (aW:=xt);refine cC n ?_ (j:=L);refine gN (aa a_<|aK (cM (Q T.aC) ad) n af) (a_ ad) (a_ af) ?_ (j:=ap) (aW:=av);refine pW ?_;refine dv akH (λl=>Wa T F [(7,a_ l.b),(9,.aq 23 0<|Q<|aa k l.O)] [(6,ag 228<|c3 l.S),(18,.h 1 4<|aa a_ l.seen),(23,.h 1 3<|aa k l.SX)]) (λl=>nN T n F l.seen l.O l.S l.b (Q T.aC) 0/\l.O<+:l.SX/\Q l.SX<=10000000) (λl=>2*Gz l.seen+Q l.O) ⟨aK (cM (Q T.aC) ad) n af,[n],[],ad,[n]⟩ (λ⟨seen,O,r,w,al⟩ ⟨v,C,N⟩=>?_) ⟨aF,Eb _,av⟩;dsimp at v C N⊢;have:=v.len;apply e<;>intro aN
 .obtain⟨O,d,rfl⟩:=ay5 (show 0<Q O by omega);have R:=v.pop s ar;rw[show aL (d=F)=aL (d=(F:J)) from qW.2 o] at R;have P:=v.yD d av;have az:d<Q T.aC:=by have:=H4 P.1;omega
  have:Q T.dd=Q T.aC:=s.pl;have:=s.neg d;have:=ax d;have aD:=C.length_le;rw[cX,p_] at aD;have:Q (aa k (O++[d]))=Q O+1:=by rw[bg,cX];rfl
  apply jg<|Q O;refine cC (Q O) ?_ (j:=o);refine e9 (k d) ?_ (j:=axZ C);apply jg<|Q O;refine BD 0 (Q O) 0 (Q<|aa k O) ?_ (bQ:=p) (Sw:=av);refine eA ?_;refine gf Unit (λaG=>Wa T F [(7,a6<|w||aL (d=(F:J))),(10,k d),(9,.aq 23 0<|Q<|aa k O)] [(6,ag 228<|c3<|u5 r<|z T.dd d<|-1),(18,.h 1 4<|aa a_ seen),(23,.h 1 3<|aa k al)]) (λ_=>dW) ?_ λaG aR=>?_
  .refine bi d (c7<|z T.dd d<|-1) ?_ (j:=abI o p);apply e<;>intro aO
   .obtain⟨q,K⟩:∃q,z T.dd d (-1)=(q:Z):=⟨aB<|z T.dd d<|-1,o⟩;have aE:q<2000:=by have:=((s.F2 d q).1 K).1;omega
    refine bi d (c7<|(q:Z)) ?_ (j:=abI o K);refine bI [(6000,6)] ?_ (f:=afC aE);rw[<-ak8,<-K];exact cA ()
   rw[show c3 r=c3 (u5 r (z T.dd d (-1))) by grind[ak9]];exact cA ()
  refine bi d (b6<|z T.aC d []) ?_ (j:=Be az);refine dv (X Y×X Z×X Z×Z) (λg=>Wa T F [(7,a6<|w||aL (d=(F:J))),(66,.a 1<|aa k<|z T.aC d []),(67,k<|Q<|aa k<|z T.aC d []),(68,k g.2.2.2),(9,.aq 23 0<|Q<|aa k g.2.1)] [(6,ag 228<|c3<|u5 r<|z T.dd d<|-1),(18,.h 1 4<|aa a_ g.1),(23,.h 1 3<|aa k g.2.2.1)]) (λg=>nN T n F g.1 g.2.1 (u5 r<|z T.dd d<|-1) (w||aL (d=(F:J))) d g.2.2.2/\g.2.1<+:g.2.2.1/\Q g.2.2.1<=10000000/\2*Gz g.1+Q g.2.1<=2*Gz seen+Q O/\z g.1 d ad/\g.2.2.2<=Q (z T.aC d [])) (λg=>Q (z T.aC d [])-g.2.2.2) (seen,O,al,0) (λ⟨t,y,am,i⟩ ⟨x,D,H,ak,I,ay⟩=>?_) ⟨R,(Ww O [d]).trans C,N,bz _,P.1,dO _⟩;dsimp at x D H ak I ay⊢;have:=x.len;apply e<;>intro aP
  .have u:i<Q (z T.aC d []):=o;have U:z (z T.aC d []) i 0<Q T.aC:=s.JG d _<|cT u;refine bi i (k<|z (z T.aC d []) i 0) ?_ (j:=eN u);refine cC (z (z T.aC d []) i 0) ?_ (j:=U);refine e9 (a_<|z t (z (z T.aC d []) i 0) ad) ?_ (j:=alX o);apply e<;>intro M
   .have E:¬z t (z (z T.aC d []) i 0) ad:=by simpa using M
    have B:=x.new s I u E;have:=aAB o E;have:Q y<Q T.aC:=by
     have h1:=qz B.jQ (T:=Q T.aC) λaH fj=>by rw[<-B.len];exact H4 (B.yD aH fj).1
     rw[cX,p_] at h1;omega
    refine cC (z (z T.aC d []) i 0) ?_ (j:=U);refine gN (aa a_<|aK t (z (z T.aC d []) i 0) af) (a_ ad) (a_ af) ?_ (j:=ap) (aW:=av);refine er ?_;refine aeg ?_ (x5:=aY) (aW:=axY D) (bQ:=a2);refine bc ?_;exact a0 (aK t (z (z T.aC d []) i 0) af,y++[z (z T.aC d []) i 0],y++[z (z T.aC d []) i 0],i+1) ⟨B,Eb _,a2,oU,aY,u⟩ aY
   have E:z t (z (z T.aC d []) i 0) ad=af:=by simpa using M
   have aA:=x.old u E;refine bc ?_;exact a0 (t,y,am,i+1) ⟨aA,D,H,ak,I,u⟩ aY
  obtain rfl:i=Q (z T.aC d []):=o;exact a0 ⟨t,y,u5 r<|z T.dd d<|-1,w||aL (d=(F:J)),am⟩ ⟨x.done,D,H⟩ a2
 obtain rfl:O=[]:=m_ o;let⟨aI,ao⟩:=v.end_;obtain rfl:r=A:=SK v.inc.1 au.1 λq=>ap;obtain rfl:w=G:=lT.2<|ao.trans aw.symm;refine ho ?_ (a7:=tY);refine lh (c3 r) ?_ (h1:=rg) (fN:=rg);exact s4 bq<|.oq p p p p p tY rg<|.tmp p .nil
end
def KF(b:aO):Prop:=∀(T:bs)(d:X dT)(B:Z),ew d=T.aC->wa T->B<Q T.aC->(hh b T B).1.dc<=10000000->nM b5 hB 143 [c 6000,c0 b,k B] (cQ d) (nx d T) (ew ·=(hh b T B).1.aC) (λ_=>k (hh b T B).2) cQ (nx · (hh b T B).1)
def DD{b:X dT}:hI (cQ b++[]) (cQ b):=av
def MA{ao:bs->Z->bs×Z}:∀A T B,iD ao (A+1) T B=ao (iD ao A T B).1 (iD ao A T B).2|0,_,_=>p|A+1,T,B=>by rw[iD,MA A];rfl
def NO{b:bs->Z->bs×Z}:∀A T B,e2 b (A+1) T B=(ym b (e2 b A T B).1 (e2 b A T B).2,(e2 b A T B).1.aC.length)|0,_,_=>p|A+1,T,B=>by rw[e2,NO A];rfl
def arE{b:bs->Z->bs×Z}(q:rX b){c A:Z}(f:c<=A)T B:(iD b c T B).1.dc<=(iD b A T B).1.dc:=by
 induction A
 simp_all
 next A e=>rcases fF A c with d|d;grind;rw[MA];exact dK (e d) (q _ _).1.dc
def au8{b:bs->Z->bs×Z}(q:rX b){c A:Z}(f:c<=A)T B:(e2 b c T B).1.dc<=(e2 b A T B).1.dc:=by
 induction A
 simp_all
 next A e=>rcases fF A c with d|d;grind;rw[NO];exact dK (e d) (abl q).1.dc
