import Derived.Test.YtpilnblkknjliaaGreatDoorA0
set_option linter.all false
set_option maxHeartbeats 8000000
set_option maxRecDepth 100000
open Array renaming replicate->ty,setIfInBounds->qX,size->bB,toList->bo
open Bool renaming false->ad,true->af
open Decidable renaming decide->aL
open Eq renaming symm->bG,trans->bC
open Go renaming Act->fS,Calls->px,Code->hG,Exit->c_,FuncId->gP,IntKind->dw,MapEntry->lX,Oper->a4,Operand->aM,Program->ct,ResultVar->ik,TypeDesc->i_,TypeId->aw,Value->bt,World->bZ,execOp->dE,maxLen->mm,resolve->rV
open Go.Act renaming eval->b8
open Go.Builtin renaming append->rT,append_->yV,firstCells->uP,lenOf->Cl,zeroCells->tz
open Go.Callee renaming builtin->hX,value->qc
open Go.Code renaming region->sM
open Go.Departure renaming mixedOrders->py
open Go.Ending renaming returned->mM
open Go.Exit renaming normal->gA
open Go.Fn renaming func->dp
open Go.Instr renaming findNow->Ei,sureAddr->yW
open Go.IntKind renaming bits->mN,i64->aj,max->uQ,min->Ej,signed->Cn,u64->hf,wrap->k0
open Go.Obj renaming cells->pz
open Go.Op renaming binOp->mj,bytesLess->gR,call->gi,indexAddr->qd,operands->kw
open Go.Program renaming underlying->ij
open Go.Region renaming binds->v2,ready->tA
open Go.Result renaming ok->cS
open Go.Sem renaming run->cI
open Go.TypeDesc renaming array->oV,slice->dP,string->ml
open Go.Value renaming agg->iH,bool->iv,cells->dU,int->ek,oneCell'->jv,pointer->lu,slice->gj,string->mO,tuple->rU
open Go.World renaming cell?->hA
open Iff renaming rfl->na
open Int renaming toNat->aB
open List renaming Nodup->eb,Perm->hI,contains->nb,drop->aU,eraseIdx->pB,flatten->jj,getD->z,length->Q,lookup->cY,map->aa,range->bJ,replicate->cM,set->aK,take->ak,toArray->aT
open List.Perm renaming refl->uS
open Nat renaming beq->eU,ble->iQ,blt->ja
open Option renaming none->ah,some->W
open Or renaming inl->bl,inr->bp,resolve_left->kx
open Prod renaming snd->yX
open UInt8 renaming ofNat->gk,toNat->aG
open _root_ renaming Array->b4,Bool->Y,ByteArray->v1,False->h7,Int->J,List->X,Nat->Z,Option->da,True->dW,UInt8->v,absurd->b9,rfl->p,trivial->c1
open Go.Proofs Go.Proofs.Tryz
namespace Go.ga
inductive gl where|eR (L:X Y)|ints (A:dw) (L:X J)
 deriving Inhabited
inductive V where|undef|bool (R:Y)|int (A:dw) (T:J)|str (L:X v)|jD|ba|yh|yf|yg|ref (M:Z) (h:X V) (E l:Z)|a (M:Z) (h:X V)|own (id aP E l:Z)|bO (id aP off len:Z)|j5 (id aP:Z)|Ie (k9:X (V×V×Z)) (clock:Z)|func (fn:Fn) (first aBp:X V)|iface (S:aw) (ax:V)|agg (cells:X V)|vec (T:Z) (y:gl) (tail:X V)|tuple (L:X V)|en (S E l:Z)|aq (S off len:Z)|eW (S:Z)|qA (S:Z)|mA (S E l:Z)
 deriving Inhabited
def gl.cells:gl->X V|.eR L=>aa .bool L|.ints A L=>aa (.int A) L
def V.cells:V->X V|.agg L=>L|.vec _ y L=>y.cells++L|U=>[U]
def V.one:V->Y|.agg _|.vec .. |.tuple _|.undef=>ad|_=>af
structure Loc where
 bK:da Z
 base:Z
 aP:Z
 size:Z
 s:Z
structure bh where
 I:Z->Z->da bt
 J:Z->da (b4 lX×Z)
 m:Z->da Loc
 n:Z
 fresh:∀id,n<=id->m id=ah
 one:∀R K ax,I R K=W ax->jv ax
structure bh.le(N Ep:bh):Prop where
 I:∀R K ax,N.I R K=W ax->Ep.I R K=W ax
 J:∀R U,N.J R=W U->Ep.J R=W U
 m:∀id L,N.m id=W L->∃dD,Ep.m id=W dD/\L.s=dD.s/\L.aP<=dD.aP/\(L.aP=dD.aP->L=dD)
theorem bh.le.refl(N:bh):N.le N:=⟨λ_ _ _ q=>q,λ_ _ q=>q,λ_ L q=>⟨L,q,p,bz _,λ_=>p⟩⟩
theorem bh.le.trans{b dA c:bh}(q:b.le dA)(A:dA.le c):b.le c:=⟨λR K d U=>A.I R K d<|q.I R K d U,λR U C=>A.J R U<|q.J R U C,λid L f=>by let⟨g,e,j,k,i⟩:=q.m id L f;cases A.m id g e;grind⟩
inductive bj(N:bh):V->bt->Prop
|undef (ax:bt):bj N .undef ax|bool (R:Y):bj N (.bool R) (iv R)|int (A:dw) (T:J):bj N (.int A T) (ek A T)|str (L:X v):bj N (.str L) (mO ⟨aT L⟩)|jD:bj N .jD (lu ah)|ba:bj N .ba (gj ah 0 0)|yh:bj N .yh (.map ah)|yf:bj N .yf .nilFunc|yg:bj N .yg .nilIface|ref (M:Z) (h:X V) (E l R base:Z) (val:Z->Z->bt)
 (cq:∀(cr:Z)(I:V),h[cr]?=W I->Q I.cells=M)
 (aqL:∀(cr l:Z)(I U:V),h[cr]?=W I->I.cells[l]?=W U->N.I R (base+cr*M+l)=W (val cr l))
 (eM:∀(cr l:Z)(I U:V),h[cr]?=W I->I.cells[l]?=W U->bj N U (val cr l)):
 bj N (.ref M h E l) (lu (W ⟨R,base+E*M+l,ah⟩))|slnil (M:Z):bj N (.a M []) (gj ah 0 0)|z_ (M:Z) (y:Addr):bj N (.a M []) (gj (W y) 0 0)|a (M:Z) (h:X V) (R base cap:Z) (val:Z->Z->bt) (aBL:Q h<=cap) (aBO:cap<=mm)
 (cq:∀(cr:Z)(I:V),h[cr]?=W I->Q I.cells=M)
 (aqL:∀(cr l:Z)(I U:V),h[cr]?=W I->I.cells[l]?=W U->N.I R (base+cr*M+l)=W (val cr l))
 (eM:∀(cr l:Z)(I U:V),h[cr]?=W I->I.cells[l]?=W U->bj N U (val cr l)):
 bj N (.a M h) (gj (W ⟨R,base,ah⟩) (Q h) cap)|own (id aP E l:Z) (L:Loc) (ax:bt) (hm:N.m id=W L) (wK:aP<=L.aP) (h1:jv ax)
 (q:aP=L.aP->∃R,L.bK=W R/\ax=lu (W ⟨R,L.base+E*L.s+l,ah⟩)):bj N (.own id aP E l) ax|bO (id aP off len:Z) (L:Loc) (ax:bt) (hm:N.m id=W L) (wK:aP<=L.aP) (h1:jv ax)
 (q:aP=L.aP->L.bK=ah/\len=0/\ax=gj ah 0 0\/∃R K cap,L.bK=W R/\ax=gj (W ⟨R,K,ah⟩) len cap/\len<=cap/\cap<=mm/\(cap=0\/K=L.base+off*L.s/\L.base+(off+cap)*L.s<=L.size)):
 bj N (.bO id aP off len) ax|j5 (id aP:Z) (L:Loc) (ax:bt) (hm:N.m id=W L) (wK:aP<=L.aP) (h1:jv ax)
 (q:aP=L.aP->∃R,L.bK=W R/\ax=.map (W R)):bj N (.j5 id aP) ax|Ie (k9:X (V×V×Z)) (clock R:Z) (es:b4 lX) (aBH:N.J R=W (es,clock)) (bQ:Q k9=bB es)
 (hk:∀(E:Z)(U:V×V×Z)(F:lX),k9[E]?=W U->es[E]?=W F->bj N U.1 F.key)
 (wK:∀(E:Z)(U:V×V×Z)(F:lX),k9[E]?=W U->es[E]?=W F->bj N U.2.1 F.val)
 (bS:∀(E:Z)(U:V×V×Z)(F:lX),k9[E]?=W U->es[E]?=W F->U.2.2=F.born)
 (cq:∀F∈bo es,F.born<clock) (a7:eb (aa (·.born) (bo es))):bj N (.Ie k9 clock) (.map (W R))|func (fn:Fn) (xs aJ:X V) (sD jT:X bt) (bQ:Q xs=Q sD) (aq_:Q aJ=Q jT)
 (q:∀(E:Z)(U:V)(ax:bt),xs[E]?=W U->sD[E]?=W ax->bj N U ax)
 (h0:∀(E:Z)(U:V)(ax:bt),aJ[E]?=W U->jT[E]?=W ax->bj N U ax):bj N (.func fn xs aJ) (.func fn (aT sD) (aT jT))|iface (S:aw) (U:V) (ax:bt) (q:bj N U ax):bj N (.iface S U) (.iface S ax)|agg (xs:X V) (jT:X bt) (bQ:Q xs=Q jT) (h1:∀ax∈jT,jv ax)
 (q:∀(E:Z)(U:V)(ax:bt),xs[E]?=W U->jT[E]?=W ax->bj N U ax):bj N (.agg xs) (iH (aT jT))|vec (T:Z) (y:gl) (xs:X V) (jT:X bt) (a7:Q y.cells=T) (bQ:Q (y.cells++xs)=Q jT) (h1:∀ax∈jT,jv ax)
 (q:∀(E:Z)(U:V)(ax:bt),(y.cells++xs)[E]?=W U->jT[E]?=W ax->bj N U ax):bj N (.vec T y xs) (iH (aT jT))|tuple (xs:X V) (jT:X bt) (bQ:Q xs=Q jT)
 (q:∀(E:Z)(U:V)(ax:bt),xs[E]?=W U->jT[E]?=W ax->bj N U ax):bj N (.tuple xs) (rU (aT jT))
def bj.mono{N z:bh}(k:N.le z){U:V}{d:bt}(q:bj N U d):bj z U d:=by
 induction q
 next d=>exact .undef d
 next R=>exact .bool R
 next A T=>exact .int A T
 next L=>exact .str L
 exact .jD;exact .ba;exact .yh;exact .yf;exact .yg
 next M h w f R base val l v _ c=>exact .ref M h w f R _ val l (λx f I U b u=>k.I _ _ _<|v x f I U b u) c
 next M=>exact .slnil M
 next M y=>exact .z_ M y
 next M h R base cap val E G l v _ c=>exact .a M h R _ cap val E G l (λx f I U b u=>k.I _ _ _<|v x f I U b u) c
 next id t w f L d hm n b q=>let⟨s,g,_,r,he⟩:=k.m id L hm;refine .own id t w f s d g (dK n r) b λF=>?_;grind
 next id t P len L d hm n b q=>let⟨s,g,_,r,he⟩:=k.m id L hm;refine .bO id t P len s d g (dK n r) b λF=>?_;grind
 next id t L d hm n b q=>let⟨s,g,_,r,he⟩:=k.m id L hm;refine .j5 id t s d g (dK n r) b λF=>?_;grind
 next Y clock R B C e _ _ D l a7 K O=>exact .Ie _ _ R B (k.J _ _ C) e K O D l a7
 next fn j X Q i e g _ _ c H=>exact .func fn j X Q i e g c H
 next S U d _ c=>exact .iface S U d c
 next j i e b _ c=>exact .agg j i e b c
 next T y j i a7 e b _ c=>exact .vec T y j i a7 e b c
 next j i e _ c=>exact .tuple j i e c
def bj.au3{N:bh}{U:V}{b:bt}(q:bj N U b)(c:U.one):jv b:=by cases q<;>first|rfl|trivial|trivial
inductive cD where|h (aP M:Z) (F:aw) (ia:X V)|map (aP:Z) (k9:X (V×V×Z)) (clock:Z)|iter (k9:X (V×V×Z)) (clock:Z) (seen:X Z)|jH (M:Z)
structure nd(N:bh)(k9:X (V×V×Z))(es:b4 lX):Prop where
 len:Q k9=bB es
 key:∀(E:Z)(U:V×V×Z)(F:lX),k9[E]?=W U->es[E]?=W F->bj N U.1 F.key
 val:∀(E:Z)(U:V×V×Z)(F:lX),k9[E]?=W U->es[E]?=W F->bj N U.2.1 F.val
 born:∀(E:Z)(U:V×V×Z)(F:lX),k9[E]?=W U->es[E]?=W F->U.2.2=F.born
def nd.mono{N e:bh}(i:N.le e){f:X (V×V×Z)}{g:b4 lX}(q:nd N f g):nd e f g:=⟨q.len,λd U F b c=>(q.key d U F b c).mono i,λd U F b c=>(q.val d U F b c).mono i,q.born⟩
def lz(N:bh)(D:bZ)(L:Loc):cD->Prop|.h i M F f=>L.aP=i/\L.s=M/\(L.bK=ah/\f=[]\/∃R e,L.bK=W R/\D.heap[R]?=W (pz e F (0,0))/\bB e=L.size/\L.base+Q f*L.s<=L.size/\(∀(c:Z)(d:bt),e[c]?=W d->jv d)/\(∀(c:Z)(I:V),f[c]?=W I->Q I.cells=L.s)/\∀(c j:Z)(I U:V),f[c]?=W I->I.cells[j]?=W U->∃d,e[L.base+c*L.s+j]?=W d/\bj N U d)|.map i g clock=>L.aP=i/\∃R b,L.bK=W R/\D.heap[R]?=W (.map b clock)/\nd N g b/\(∀F∈bo b,F.born<clock)/\eb (aa (·.born)<|bo b)|.iter g clock seen=>(L.aP=0/\L.base=0)/\∃R x b,L.bK=W R/\D.heap[R]?=W (.mapIter (W x) clock (aT seen) clock)/\N.J x=W (b,clock)/\nd N g b/\(∀F∈bo b,F.born<clock)/\eb (aa (·.born)<|bo b)|.jH M=>L.aP=0/\L.s=M/\L.bK=ah
structure db where
 xd:bZ
 FW:Z->Prop
 Az:bh
 ids:X Z
 G:X (Z×V)
 n:Z
structure oX(m:db)(D:bZ):Prop where
 os:D.os=m.xd.os
 tape:D.tape=m.xd.tape
 output:D.output=m.xd.output
 size:bB m.xd.heap<=bB D.heap
 block:∀A<bB m.xd.heap,¬m.FW A->D.heap[A]?=m.xd.heap[A]?
abbrev b0:=X<|Z×cD
structure Holds(m:db)(N:bh)(g:b0)(D:bZ):Prop where
 le:m.Az.le N
 B:oX m D
 m0:∀id L,m.Az.m id=W L->id∉m.ids->N.m id=W L
 m4:∀R K ax,N.I R K=W ax->m.Az.I R K=W ax\/bB m.xd.heap<=R\/m.FW R
 m5:∀R U,N.J R=W U->m.Az.J R=W U\/bB m.xd.heap<=R\/m.FW R
 own:∀id K,(id,K)∈g->id∈m.ids\/m.Az.m id=ah
 kD:∀R K ax,N.I R K=W ax->hA D ⟨R,K,ah⟩=W ax
 ma:∀R es clock,N.J R=W (es,clock)->D.heap[R]?=W (.map es clock)
 gy:∀id K,(id,K)∈g->∃L,N.m id=W L/\lz N D L K
 lj:eb (aa (·.1) g)
 kS:∀id K L R,(id,K)∈g->N.m id=W L->L.bK=W R->(bB m.xd.heap<=R\/m.FW R)/\(∀A,N.I R A=ah)/\N.J R=ah
 inj:∀id K SF m7 L dD R,(id,K)∈g->(SF,m7)∈g->N.m id=W L->N.m SF=W dD->L.bK=W R->dD.bK=W R->id=SF
def akC(N:bh)(c:X (Z×V))(y:fS):Prop:=∀S U,cY S c=W U->∃b,y.tmps[S]?=W b/\bj N U b
structure a9 where
 b:X (Z×V)
 g:b0
def a9.put(O:a9)(S:da Z)(U:V):a9:=match S with|W S=>{O with b:=(S,U)::O.b}|ah=>O
structure bm(m:db)(O:a9)(y:fS)(D:bZ)(N:bh):Prop where
 dt:Holds m N O.g D
 b:akC N O.b y
 hv:∀s U,(s,U)∈m.G->bj N U (lu (W ⟨s,0,ah⟩))
 size:bB y.tmps=m.n
 defers:y.defers=[]
def KQ(m:db)(al:c_->a9->Prop):c_->fS->bZ->Prop:=λF y D=>∃O N,al F O/\bm m O y D N
def fh(P:ct)(m:db)(b:hG)(O:a9)(al:c_->a9->Prop):Prop:=∀y D N,bm m O y D N->b.wp P (KQ m al) y D
def pL(T:Z)(L:X a4):Y:=L.all λK=>match K.dst with|W I=>I<T|ah=>af
def cK(P:ct)(m:db)(ops:b4 a4)(L:X a4)(O:a9)(al:c_->a9->Prop):Prop:=pL m.n L=af->∀y D N,bm m O y D N->wpList P ops (KQ m al) L y D
def V.leaf:bt->V|iv R=>.bool R|ek A T=>.int A T|mO M=>.str (bo M.data)|lu ah=>.jD|gj ah 0 0=>.ba|.map ah=>.yh|.nilFunc=>.yf|.nilIface=>.yg|_=>.undef
def V.const:bt->V|iH c=>if(bo c).all (λb=>jv b) then .agg (aa V.leaf<|bo c) else .undef|rU d=>if(bo d).isEmpty then .tuple [] else .undef|b=>V.leaf b
theorem bj.leaf N b:bj N (V.leaf b) b:=by
 unfold V.leaf;split<;>first|exact .bool _|exact .int _ _|exact .jD|exact .ba|exact .yh|exact .yf|exact .yg|exact .undef _|skip
 rename_i M;have:=bj.str (N:=N)<|bo M.data;omega
theorem bj.const N b:bj N (V.const b) b:=by
 unfold V.const;split;rename_i c;split;rename_i q;have:=bj.agg (N:=N) (aa V.leaf<|bo c) _ av (m9.1 q · ·) (by grind[bj.leaf]);omega;exact .undef _;split;rename_i q;have d:=by simpa using q
 subst d;exact bj.tuple [] [] p av;exact .undef _;simp[bj.leaf]
def a9.val(m:db)(O:a9):aM->da V|.tmp S=>cY S O.b|.const c=>W (V.const c)|.global s=>cY s m.G|.func ao=>W<|.func (dp ao) [] []
def TN{b:Type}{L:X (Z×b)}{S:Z}{U:b}(q:cY S L=W U):(S,U)∈L:=by
 induction L
 trivial
 next d L c=>grind
theorem bm.val{m:db}{O:a9}{y:fS}{D:bZ}{N:bh}(q:bm m O y D N){K:aM}{U:V}(c:O.val m K=W U):bj N U (b8 y K):=by
 cases K
 next S=>let⟨d,f,e⟩:=q.b S U c;simp_all[b8]
 next d=>simp[a9.val,hr] at c;subst c;exact bj.const N d
 next s=>exact q.hv s U (TN c)
 next ao=>simp[a9.val,hr] at c;subst c;exact bj.func _ [] [] [] [] p p av av
def a9.guard(O:a9)(ops:b4 a4)(K:a4):da Y:=match K.guard with
|ah=>W af|W (c,d)=>
 match(ops[c]?).bind (·.dst) with
 |W I=>match cY I O.b with|W (.bool R)=>W (R==d)|W (.tuple [])=>W ad|_=>ah
 |ah=>ah
def bm.wanted{m:db}{O:a9}{y:fS}{D:bZ}{N:bh}(q:bm m O y D N){ops:b4 a4}{K:a4}{R:Y}(c:O.guard ops K=W R):Region.wanted K (yielded ops y.tmps)=R:=by
 unfold a9.guard at c;unfold Region.wanted;split at c;simp_all;split at c;rename_i I j;split at c;rename_i i d;let⟨g,f,e⟩:=q.b I _ d;cases e;simp_all[yielded];rename_i d;let⟨g,f,e⟩:=q.b I _ d;cases e
 next _ l k _=>grind[yielded]
 trivial;trivial
def M2(O:a9)S U c:(O.put (W S) U).b.lookup c=if c=S then W U else cY c O.b:=by grind[a9.put]
theorem bm.put{m:db}{O:a9}{y:fS}{D bE:bZ}{N e:bh}(q:bm m O y D N)(f:N.le e){K:b0}(k:Holds m e K bE){I:da Z}{U:V}{d:bt}(t:bj e U d)(r:∀S,I=W S->S<m.n):bm m (({O with g:=K}).put I U) (y.put I d) bE e:=by
 cases I;exact⟨k,λS C c=>by let⟨d,j,i⟩:=q.b S C c;exact⟨d,j,i.mono f⟩,λs C c=>(q.hv s C c).mono f,q.size,q.defers⟩
 next S=>refine⟨k,λl C c=>?_,λs C c=>(q.hv s C c).mono f,by simpa[Act.put] using q.size,by simpa[Act.put] using q.defers⟩;rw[M2] at c;simp[Act.put];split at c;rename_i he;subst he;simp at c;subst c;refine⟨d,?_,t⟩;simp[q.size,r l p];let⟨bn,j,i⟩:=q.b l C c;refine⟨bn,?_,i.mono f⟩;grind
def dh(P:ct)(m:db)(K:a4)(O:a9)(x:V):Prop:=∀y D N,bm m O y D N->∀(c:fS->bZ->Prop)(e:c_->fS->bZ->Prop),(∀d bE b,N.le b->bj b x d->Holds m b O.g bE->c (y.put K.dst d) bE)->K.wp P y D c e
def HF{T:Z}{K:a4}{L:X a4}(q:pL T (K::L)):(∀S,K.dst=W S->S<T)/\pL T L:=by simp[pL,Pu] at q⊢;grind
theorem cK.nil{P:ct}{m:db}{ops:b4 a4}{O:a9}{al:c_->a9->Prop}(q:al gA O):cK P m ops [] O al:=λ_ _ _ N b=>⟨O,N,q,b⟩
def cK.pure{P:ct}{m:db}{ops:b4 a4}{K:a4}{L:X a4}{O:a9}{al:c_->a9->Prop}{x:V}(i:O.guard ops K=W af)(k:dh P m K O x)(q:cK P m ops L (O.put K.dst x) al):cK P m ops (K::L) O al:=by intro e y D N b;let⟨f,g⟩:=HF e;unfold wpList;rw[ae<|b.wanted i];refine bl<|k y D N b _ _ λn bE c d l j=>?_;exact q g _ _ c<|b.put d j l f
def cK.skip{P:ct}{m:db}{ops:b4 a4}{K:a4}{L:X a4}{O:a9}{al:c_->a9->Prop}(f:O.guard ops K=W ad)(q:cK P m ops L (O.put K.dst (.tuple [])) al):cK P m ops (K::L) O al:=by intro c y D N b;let⟨d,e⟩:=HF c;unfold wpList;rw[ab (by rw[b.wanted f];simp)];exact q e _ _ N<|b.put (bh.le.refl N) b.dt (bj.tuple [] [] p av) d
section
variable{P:ct}{m:db}{O:a9}{al:c_->a9->Prop}
theorem fh.region{d:Z}{L:X a4}(c:pL m.n L)(q:cK P m (aT L) L O al):fh P m (sM d (aT L) ad) O al:=λy D N b=>wp_region_lit<|q c y D N b
@[reducible] def az2(next:a9->Prop)(al:c_->a9->Prop):c_->a9->Prop|gA,O=>next O|F,O=>al F O
def fh.seq{U C:hG}(q:fh P m U O (az2 (fh P m C · al) al)):fh P m (.seq U C) O al:=by intro y D N e;refine wp_seq<|Code.wp_mono ?_<|q y D N e;rintro F d bE ⟨eO,b,c,f⟩;cases F with|normal=>exact c d bE b f|_=>exists eO,b,c
theorem fh.skip(q:al gA O):fh P m .skip O al:=λ_ _ N b=>wp_skip ⟨O,N,q,b⟩
theorem fh.ret(q:al .ret O):fh P m .ret O al:=λ_ _ N b=>wp_ret ⟨O,N,q,b⟩
theorem fh.exit{b:Z}(q:al (.exit b) O):fh P m (.exit b) O al:=λ_ _ N c=>wp_exit ⟨O,N,q,c⟩
def fh.label{T:Z}(q:al gA O):fh P m (.label T) O al:=λ_ _ N b=>wp_label ⟨O,N,q,b⟩
def fh.cond{b:aM}{U C:hG}{R:Y}(e:O.val m b=W (.bool R))(bW:R->fh P m U O al)(f:R=ad->fh P m C O al):fh P m (.cond b U C) O al:=by
 intro y D N c;have d:=c.val e;have he:b8 y b=iv R:=by generalize b8 y b=g at d;cases d;rfl
 cases R with|true=>exact wp_cond_true he (bW p y D N c)|false=>exact wp_cond_false he<|f p y D N c
@[reducible] def QS(c:Z)(al:c_->a9->Prop):c_->a9->Prop|.exit b,O=>if b=c then al gA O else al (.exit b) O|F,O=>al F O
theorem fh.block{e:Z}{d:hG}(q:fh P m d O (QS e al)):fh P m (.block e d) O al:=by intro y D N f;refine wp_block<|Code.wp_mono ?_<|q y D N f;rintro F g bE ⟨eO,c,b,i⟩;cases F with|exit j=>simp[QS] at b;simp[Exit.inBlock];split;rename_i he;rw[ae he] at b;exists eO,c,b;rename_i he;rw[ab he] at b;exists eO,c,b|_=>exists eO,c,b
end
structure cz(P:ct)(S:aw)(I:i_)(size bytes:Z):Prop where
 u:ij P S=W I
 i:(P.info? S).map (λi=>(i.size,i.bytes))=W (size,bytes)
def cz.Dk{P:ct}{S:aw}{I:i_}{d c:Z}(q:cz P S I d c):∃b,P.info? S=W b/\b.size=d/\b.bytes=c:=by have:=q.i;simp_all
def cz.kW{P:ct}{S:aw}{I:i_}{b c:Z}(q:cz P S I b c)D:cI P (sizeOf S) D=cS b D:=by cases q.Dk;simp_all[sizeOf,typeInfo]
structure hs(P:ct)(S:aw)(size bytes:Z):Prop where
 i:(P.info? S).map (λi=>(i.size,i.bytes))=W (size,bytes)
def hs.Dk{P:ct}{S:aw}{d c:Z}(q:hs P S d c):∃b,P.info? S=W b/\b.size=d/\b.bytes=c:=by have:=q.i;simp_all
def hs.kW{P:ct}{S:aw}{b c:Z}(q:hs P S b c)D:cI P (sizeOf S) D=cS b D:=by cases q.Dk;simp_all[sizeOf,typeInfo]
theorem cz.G{P:ct}{S:aw}{I:i_}{c b:Z}(q:cz P S I c b):hs P S c b:=⟨q.i⟩
def oz:i_->Y|.struct _|oV _ _=>af|_=>ad
def cz.sv{P:ct}{S:aw}{I:i_}{size bytes:Z}(q:cz P S I size bytes)D:cI P (isAgg S) D=cS (oz I) D:=by unfold isAgg;rw[Sem.run_bind,run_underlying q.u,Result.andThen_ok];cases I<;>rfl
section
variable{P:ct}{m:db}{K:a4}{O:a9}
def dh.same{x:V}(q:∀y D N,bm m O y D N->∃b,bj N x b/\cI P (dE (b8 y) K) D=cS (.value b) D):dh P m K O x:=by intro y D N c g i d;let⟨b,f,e⟩:=q y D N c;unfold Oper.wp;rw[e];exact d b D N (bh.le.refl N) f c.dt
def dh.run{x:V}(q:∀y D N,bm m O y D N->∃c bE b,N.le b/\bj b x c/\Holds m b O.g bE/\cI P (dE (b8 y) K) D=cS (.value c) bE):dh P m K O x:=by intro y D N f l n e;let⟨c,bE,b,d,k,i,j⟩:=q y D N f;unfold Oper.wp;rw[j];exact e c bE b d k i
theorem agf{U:aM}{x:V}(c:K.op=.move U)(d:O.val m U=W x):dh P m K O x:=.same λy D N b=>⟨_,b.val d,by simp[dE,c]⟩
theorem awB{U:aM}{x:V}(c:K.op=.assign U)(d:O.val m U=W x):dh P m K O x:=.same λy D N b=>⟨_,b.val d,by simp[dE,c]⟩
def UY{b U C:aM}{S:Y}{x:V}(f:K.op=.pick b U C)(e:O.val m b=W (.bool S))(i:O.val m (if S then U else C)=W x):dh P m K O x:=.same λy D N d=>by have c:=d.val e;generalize g:b8 y b=j at c;cases c;exists _,d.val i;cases S<;>simp[dE,f,g,asBool]
def cO(P:ct)(d:BinOp)(S:aw)(U C:aM)(e f x:V):Prop:=∀N c b D,bj N e c->bj N f b->∃bn,bj N x bn/\cI P (do eqGuard d S U C c b;binOp d S c b:Sem bt) D=cS bn D
def yq{e:BinOp}{S l:aw}{U C:aM}{b c x:V}(f:K.op=mj e S U C l)(j:O.val m U=W b)(k:O.val m C=W c)(q:cO P e S U C b c x):dh P m K O x:=.same λy D N d=>by let⟨bn,i,g⟩:=q N _ _ D (d.val j)<|d.val k;exists bn,i;simp only[dE,f];rw[Sem.run_bind,g];rfl
section bin
variable{S:aw}{U C:aM}{A:dw}{y R:J}
def nZ(A:dw)(T:J):Prop:=Ej A<=T/\T<=uQ A
theorem vO{A:dw}{T:J}(q:nZ A T):k0 A T=T:=by cases q;cases A<;>simp only[Ej,uQ,Cn,mN,k0] at*<;>simp at*<;>(omega)<;>omega
def cO.sl{b:BinOp}{x:V}(q:∀N D,∃bn,bj N x bn/\cI P (binOp b S (ek A y) (ek A R)) D=cS bn D):cO P b S U C (.int A y) (.int A R) x:=by intro N f e D c d;cases c;cases d;simp_all[eqGuard_at_int]
def cO.lss:cO P .lss S U C (.int A y) (.int A R) (.bool (aL (y<R))):=.sl λN D=>⟨_,.bool _,by simp[binOp_lss]⟩
def cO.leq:cO P .leq S U C (.int A y) (.int A R) (.bool (aL (y<=R))):=.sl λN D=>⟨_,.bool _,by simp[binOp_leq]⟩
def cO.gtr:cO P .gtr S U C (.int A y) (.int A R) (.bool (aL (R<y))):=.sl λN D=>⟨_,.bool _,by simp[binOp_gtr]⟩
def cO.geq:cO P .geq S U C (.int A y) (.int A R) (.bool (aL (R<=y))):=.sl λN D=>⟨_,.bool _,by simp[binOp_geq]⟩
def cO.eql:cO P .eql S U C (.int A y) (.int A R) (.bool (aL (y=R))):=.sl λN D=>⟨_,.bool _,by rw[binOp_eql];rfl⟩
def cO.neq:cO P .neq S U C (.int A y) (.int A R) (.bool (aL ¬y=R)):=.sl λN D=>⟨_,.bool _,by rw[binOp_neq];simp;grind⟩
theorem cO.add(q:nZ A (y+R)):cO P .add S U C (.int A y) (.int A R) (.int A (y+R)):=.sl λN D=>⟨_,.int _ _,by simp[binOp_add,Op.intArith,vO q]⟩
theorem cO.sub(q:nZ A (y-R)):cO P .sub S U C (.int A y) (.int A R) (.int A (y-R)):=.sl λN D=>⟨_,.int _ _,by simp[binOp_sub,Op.intArith,vO q]⟩
theorem cO.mul(q:nZ A (y*R)):cO P .mul S U C (.int A y) (.int A R) (.int A (y*R)):=.sl λN D=>⟨_,.int _ _,by simp[binOp_mul,Op.intArith,vO q]⟩
def cO.ala:cO P .add S U C (.int A y) (.int A R) (.int A (k0 A (y+R))):=.sl λN D=>⟨_,.int _ _,by simp[binOp_add,Op.intArith]⟩
def cO.DT:cO P .sub S U C (.int A y) (.int A R) (.int A (k0 A (y-R))):=.sl λN D=>⟨_,.int _ _,by simp[binOp_sub,Op.intArith]⟩
def cO.atQ:cO P .mul S U C (.int A y) (.int A R) (.int A (k0 A (y*R))):=.sl λN D=>⟨_,.int _ _,by simp[binOp_mul,Op.intArith]⟩
def cO.quo(b:R≠0)(q:nZ A (y.tdiv R)):cO P .quo S U C (.int A y) (.int A R) (.int A (y.tdiv R)):=.sl λN D=>⟨_,.int _ _,by simp_all[binOp_quo,Op.intDiv,vO]⟩
def cO.rem(b:R≠0):cO P .rem S U C (.int A y) (.int A R) (.int A (y.tmod R)):=.sl λN D=>⟨_,.int _ _,by simp[binOp_rem,Op.intDiv,b]⟩
def K_(b:BinOp)(T:Z)(y R:BitVec T):BitVec T:=match b with
|.and=>y&&&R|.or=>y|||R
|.xor=>y^^^R|_=>y&&&~~~R
def abU:BinOp->Y|.and|.or|.xor|.andNot=>af|_=>ad
def nS(b:BinOp)(A:dw)(y R:J):J:=k0 A (K_ b (mN A) (BitVec.ofInt (mN A) y)<|BitVec.ofInt (mN A) R).toNat
def cO.bits{b:BinOp}(q:abU b):cO P b S U C (.int A y) (.int A R) (.int A (nS b A y R)):=.sl λN D=>⟨_,.int _ _,by cases b<;>simp[abU] at q<;>simp[binOp_and,binOp_or,binOp_xor,binOp_andNot,Op.intBits,nS,K_]⟩
def cO.shl{d:dw}(q:0<=R):cO P .shl S U C (.int A y) (.int d R) (.int A (k0 A (y*2^min (aB R) (mN A)))):=by intro N f e D b c;cases b;cases c;exact⟨_,.int _ _,by(simp[eqGuard_at_int,binOp_shl,Op.shift];omega)⟩
def cO.shr{d:dw}(q:0<=R):cO P .shr S U C (.int A y) (.int d R) (.int A (y.fdiv (2^min (aB R) (mN A)))):=by intro N f e D b c;cases b;cases c;exact⟨_,.int _ _,by(simp[eqGuard_at_int,binOp_shr,Op.shift];omega)⟩
def alY(L i:X v):(⟨aT L⟩:v1)++⟨aT i⟩=⟨aT (L++i)⟩:=by rfl
def QH(L:X v):(⟨aT L⟩:v1).size=Q L:=a3
def cO.mkStr{c:BinOp}{M bn:X v}{x:V}(q:∀N D,∃b,bj N x b/\cI P (binOp c S (mO ⟨aT M⟩) (mO ⟨aT bn⟩)) D=cS b D):cO P c S U C (.str M) (.str bn) x:=by intro N b f D d e;cases d;cases e;simp_all[eqGuard_at_string]
variable{M bn:X v}
def CJ b:binOp b S (mO ⟨aT M⟩) (mO ⟨aT bn⟩)=Op.stringOp b ⟨aT M⟩ ⟨aT bn⟩:=by cases b<;>rfl
def cO.ayw:cO P .eql S U C (.str M) (.str bn) (.bool (aL (M=bn))):=.mkStr λN D=>⟨_,.bool _,by rw[CJ];simp[Op.stringOp];grind⟩
def cO.ay3:cO P .neq S U C (.str M) (.str bn) (.bool (aL ¬M=bn)):=.mkStr λN D=>⟨_,.bool _,by rw[CJ];simp[Op.stringOp];grind⟩
def cO.ay2:cO P .lss S U C (.str M) (.str bn) (.bool (gR M bn)):=.mkStr λN D=>⟨_,.bool _,by simp[CJ,Op.stringOp]⟩
def cO.ayN:cO P .gtr S U C (.str M) (.str bn) (.bool !(gR M bn||aL (M=bn))):=.mkStr λN D=>⟨_,.bool _,by rw[CJ];simp[Op.stringOp];grind⟩
def cO.ayL:cO P .geq S U C (.str M) (.str bn) (.bool ! gR M bn):=.mkStr λN D=>⟨_,.bool _,by simp[CJ,Op.stringOp]⟩
def cO.ayY:cO P .leq S U C (.str M) (.str bn) (.bool (gR M bn||aL (M=bn))):=.mkStr λN D=>⟨_,.bool _,by rw[CJ];simp[Op.stringOp];grind⟩
theorem cO.ayp(q:Q M+Q bn<=9223372036854775807):cO P .add S U C (.str M) (.str bn) (.str (M++bn)):=.mkStr λN D=>⟨_,.str _,by rw[CJ];simp[Op.stringOp,QH,alY,mN];omega⟩
end bin
def awQ{S:aw}{U:aM}{R:Y}(e:K.op=.unOp .not S U)(d:O.val m U=W (.bool R)):dh P m K O (.bool !R):=.same λy D N c=>by have b:=c.val d;generalize f:b8 y U=g at b;cases b;exact⟨_,.bool _,by simp_all[dE,Op.unary]⟩
def awN{S:aw}{U:aM}{A:dw}{T:J}(e:K.op=.unOp .neg S U)(d:O.val m U=W (.int A T))(q:nZ A (0-T)):dh P m K O (.int A (-T)):=.same λy D N c=>by have b:=c.val d;generalize f:b8 y U=g at b;cases b;exists _,.int _ _;simp_all[vO,dE,Op.unary,Op.intArith]
def awO{S:aw}{U:aM}{A:dw}{T:J}(e:K.op=.unOp .neg S U)(d:O.val m U=W (.int A T)):dh P m K O (.int A (k0 A (-T))):=.same λy D N c=>by have b:=c.val d;generalize f:b8 y U=g at b;cases b;exact⟨_,.int _ _,by simp_all[dE,Op.unary,Op.intArith]⟩
def awP{U:aM}{M d c:Z}{e:X V}(i:K.op=.nilCheck U)(g:O.val m U=W (.ref M e d c)):dh P m K O (.ref M e d c):=.same λy D N f=>by have b:=f.val g;exists _,b;generalize j:b8 y U=k at b;cases b;simp_all[dE]
def awG{U:aM}{L:X V}{b:Z}{x:V}(k:K.op=.extract U b)(j:O.val m U=W (.tuple L))(d:L[b]?=W x):dh P m K O x:=.same λy D N f=>by
 have c:=f.val j;generalize l:b8 y U=n at c;cases c with
 |tuple _ e g q=>
  have i:b<Q e:=by rw[<-g];exact(e3.1 d).1
  exists e[b],q b _ _ d<|cm i;simp_all[dE,Instr.extract,cm]
def V.Tp:V->da Z|.ba=>W 0|.a _ h=>W (Q h)|_=>ah
def bj.ay1{N:bh}{U:V}{b:bt}{T:Z}(q:bj N U b)(d:U.Tp=W T):∃y c,b=gj y T c:=by cases q<;>simp[V.Tp] at d<;>((simp;omega))
def UW{S F:aw}{G ci T:Z}{U:aM}{b:V}(bW:cz P S (dP F) G ci)(e:K.op=gi {callee:=hX .len,args:=#[U],argTypes:=#[S]})(g:O.val m U=W b)(d:b.Tp=W T):dh P m K O (.int aj T):=.same λy D N c=>by let⟨R,i,f⟩:=(c.val g).ay1 d;exists _,.int _ _;simp[dE,e,f,rV,invoke,builtin,Builtin.len_,run_underlying bW.u,goInt]
def bm.bO{y:fS}{D:bZ}{N:bh}(q:bm m O y D N){U:aM}{id aP b T A M:Z}{F:aw}{ia:X V}(i:O.val m U=W (.bO id aP b T))(e:O.g[A]?=W (id,.h aP M F ia)):∃L,N.m id=W L/\lz N D L (.h aP M F ia)/\(L.bK=ah/\T=0/\b8 y U=gj ah 0 0\/∃R K cap,L.bK=W R/\b8 y U=gj (W ⟨R,K,ah⟩) T cap/\T<=cap/\cap<=mm/\(cap=0\/K=L.base+b*L.s/\L.base+(b+cap)*L.s<=L.size)):=by let⟨L,f,d⟩:=q.dt.gy _ _<|eY e;exists L,f,d;let c:=q.val i;cases c with|bO _ _ _ _ j l hm k c q=>obtain rfl:L=j:=ap;exact q<|bG d.1
def UV{S F e:aw}{G ci:Z}{U:aM}{c d n T A M:Z}{f:X V}(bW:cz P S (dP F) G ci)(k:K.op=gi {callee:=hX .len,args:=#[U],argTypes:=#[S]})(l:O.val m U=W (.bO c d n T))(j:O.g[A]?=W (c,.h d M e f)):dh P m K O (.int aj T):=.same λy D N i=>by
 let⟨L,r,s,q⟩:=i.bO l j;rcases q with⟨_,rfl,b⟩|⟨R,t,cap,_,b,_⟩<;>
  exact⟨_,.int _ _,by simp[dE,k,rV,invoke,builtin,Builtin.len_,run_underlying bW.u,goInt,b]⟩
def awI{S:aw}{G ci:Z}{U:aM}{L:X v}(bW:cz P S ml G ci)(d:K.op=gi {callee:=hX .len,args:=#[U],argTypes:=#[S]})(f:O.val m U=W (.str L)):dh P m K O (.int aj (Q L)):=.same λy D N c=>by have b:=c.val f;generalize e:b8 y U=g at b;cases b;exists _,.int _ _;simp[dE,d,e,rV,invoke,builtin,Builtin.len_,run_underlying bW.u,goInt,QH]
def agc{S F:aw}{G ci ec:Z}{U d:aM}{c:X V}{M b:Z}{A:dw}{T:J}(bW:cz P S (dP F) G ci)(he:hs P F M ec)(l:K.op=qd S U d)(t:O.val m U=W (.a M c))(k:O.val m d=W (.int A T))(a7:T=(b:J))(j:b<Q c):dh P m K O (.ref M c b 0):=.same λy D N g=>by have e:=g.val t;have f:=g.val k;generalize s:b8 y U=x at e;generalize r:b8 y d=bn at f;cases f;cases e with|slnil=>trivial|z_=>trivial|a _ _ R base cap val v w q i n=>refine⟨_,.ref M c b 0 R _ val q i n,?_⟩;subst a7;simp[dE,l,s,r,Instr.indexAt,asIntOf,run_underlying bW.u,he.kW,j,Addr.add_lit]
def agd{S:aw}{I:i_}{G ci:Z}{U:aM}{i:X V}{M c b:Z}{F x:V}(bW:cz P S I G ci)(k:oz I=ad)(l:K.op=.load S U)(r:O.val m U=W (.ref M i c b))(g:i[c]?=W F)(f:F.cells[b]?=W x):dh P m K O x:=.same λy D N e=>by have d:=e.val r;generalize q:b8 y U=t at d;cases d with|ref _ _ _ _ R base val s j n=>exists _,n c b F x g f;have:=e.dt.kD _ _ _<|j c b F x g f;simp[dE,l,q,Instr.loadAt,yW,loadVar,bW.sv,k,this]
theorem awK{S:aw}{I:i_}{T ci:Z}{U:aM}{s:X V}{M d c:Z}{F:V}{L:X V}(bW:cz P S I T ci)(t:oz I)(x:K.op=.load S U)(z:O.val m U=W (.ref M s d c))(q:s[d]?=W F)(u:ak T (aU c F.cells)=L)(a7:Q L=T):dh P m K O (.agg L):=.same λy D N l=>by
 have i:=l.val z;generalize f:b8 y U=A at i;cases i with
 |ref _ _ _ _ R base val C k B=>
  have n:∀b<T,∃U,F.cells[c+b]?=W U/\L[b]?=W U:=by
   intro b e;have r:b<Q L:=o;refine⟨L[b],?_,cm r⟩;have j:(ak T (aU c F.cells))[b]?=W L[b]:=by rw[u];exact cm r
   rw[rP,ae e,vT] at j;exact j
  have v:∀b<T,hA D ((⟨R,base+d*M+c,ah⟩:Addr).add b)=W (val d (c+b)):=by intro b e;let⟨U,g,_⟩:=n b e;have:=l.dt.kD _ _ _<|k d _ F U q g;rw[Addr.add_lit];simpa[Ce] using this
  refine⟨iH<|aT<|(bJ T).map λb=>val d<|c+b,?_,?_⟩;refine .agg L _ aY ?_ ?_;intro A f;simp at f;obtain⟨b,e,rfl⟩:=f;let⟨U,g,_⟩:=n b e;exact N.one _ _ _<|k d _ F U q g;grind;simp[dE,x,f,Instr.loadAt,yW,loadVar,bW.sv,t,bW.kW,run_loadCells (P:=P) (w:=D) ⟨R,base+d*M+c,ah⟩ T (λb=>val d<|c+b) v]
end
def lz.mono{N j:bh}{D bE:bZ}{L:Loc}{K:cD}(q:lz N D L K)(f:N.le j)(i:∀R,L.bK=W R->bE.heap[R]?=D.heap[R]?):lz j bE L K:=by
 cases K
 next E M F H=>let⟨c,s,k⟩:=q;exists c,s;rcases k with k|⟨R,l,b,d,aH,v,r,u,e⟩;simp_all;refine bp ⟨R,l,b,bC (i R b) d,aH,v,r,u,λC m I U w B=>?_⟩;let⟨G,A,y⟩:=e C m I U w B;exact⟨G,A,y.mono f⟩
 next E n clock=>let⟨c,R,g,b,d,e,z⟩:=q;exists c,R,g,b,bC (i R b) d,e.mono f
 next n clock seen=>let⟨c,R,x,g,b,d,t,e,z⟩:=q;exists c,R,x,g,b,bC (i R b) d,f.J _ _ t,e.mono f
 next M=>exact q
def bh.hz(N:bh)(c:Z)(L:Loc):bh:={N with
 m:=λb=>if b=c then W L else N.m b
 n:=max N.n (c+1)
 fresh:=λb j=>by rw[ab o];exact N.fresh b o}
def bh.nC(N:bh)b L:(N.hz b L).m b=W L:=by simp[bh.hz]
def bh.sx(N:bh){c b:Z}L:b≠c->(N.hz c L).m b=N.m b:=by grind[bh.hz]
def bh.lL{N:bh}{b:Z}{dD:Loc}(q:∀L,N.m b=W L->L.s=dD.s/\L.aP<=dD.aP/\(L.aP=dD.aP->L=dD)):N.le (N.hz b dD):=by refine⟨λ_ _ _ q=>q,λ_ _ q=>q,λc L j=>?_⟩;by_cases he:c=b;subst he;exact⟨dD,N.nC _ _,q L j⟩;exact⟨L,bC (N.sx dD he) j,p,bz _,λ_=>p⟩
section
variable{m:db}{N:bh}{g:b0}{D bE:bZ}
theorem Holds.Fg(q:Holds m N g D){R K:Z}{b:bt}(c:N.I R K=W b):R<bB D.heap:=World.block_lt_of_cell? D _<|q.kD R K b c
def lz.zd{L:Loc}{K:cD}(q:lz N D L K){R:Z}:L.bK=W R->R<bB D.heap:=by
 cases K
 next c M F e=>let⟨_,_,g⟩:=q;grind
 next c b clock=>let⟨_,d,f,i,j,_⟩:=q;grind
 next b clock seen=>cases q;grind
 next M=>cases q;simp_all
def FB{b:Type}{L:X b}{A:Z}{U C:b}:C∈aK L A U->C=U\/∃c≠A,L[c]?=W C:=by grind[List.mem_iff_getElem?]
def Dx{L:b0}(q:eb (aa (·.1) L)){c d:Z}{b e:Z×cD}(f:L[c]?=W b)(g:L[d]?=W e)(he:b.1=e.1):c=d:=by
 let i:(aa (·.1) L)[c]?=W b.1:=by simp[f]
 let j:(aa (·.1) L)[d]?=W b.1:=by simp[g,he]
 grind[List.getElem?_inj]
theorem Holds.xa(q:Holds m N g D){A r:Z}{K m7:cD}{L dD:Loc}(M:g[A]?=W (r,K))(am:N.m r=W L)(aC:L.s=dD.s)(aD:L.aP<=dD.aP)(he:L.aP=dD.aP->L=dD)(d:dD.bK=L.bK\/∃R,dD.bK=W R/\bB D.heap<=R)(v:D.grownBy bE L.bK)(aB:lz (N.hz r dD) bE dD m7):Holds m (N.hz r dD) (aK g A (r,m7)) bE:=by
 have O:=eY M;have ar:N.le (N.hz r dD):=bh.lL λf b=>ap;have T:∀R,L.bK=W R->(bB m.xd.heap<=R\/m.FW R)/\(∀A,N.I R A=ah)/\N.J R=ah:=λR d=>q.kS r K L R O am d;have y:∀e t,e≠A->g[e]?=W t->t.1≠r:=λe t k z F=>k<|Dx q.lj z M F;have Q:∀e t f R,e≠A->g[e]?=W t->N.m t.1=W f->f.bK=W R->W R≠L.bK:=by intro e t f R k z hm u F;exact y e t k z<|q.inj t.1 t.2 r K f L R (eY z) O hm am u<|bG F
 refine⟨q.le.trans ar,?_,?_,q.m4,q.m5,?_,?_,?_,?_,?_,?_,?_⟩;refine⟨bC v.os q.B.os,bC v.tape q.B.tape,bC v.output q.B.output,dK q.B.size v.size,λl j z=>?_⟩;rw[v.block l (kv j q.B.size) (λF=>by grind)];exact q.B.block l j z;intro l f b c;rw[N.sx dD (λF=>by subst F;rcases q.own _ _ O with i|i;trivial;simp_all)];exact q.m0 l f b c;intro l n b;rcases FB b with b|⟨e,k,b⟩;cases b;exact q.own r K O;exact q.own l n<|eY b;intro R n H b;rw[World.cell?_of_block (w:=D)<|v.block R (q.Fg b) (λF=>by have:=(T R<|bG F).2.1 n;change N.I R n=W H at b;simp_all)];exact q.kD R n H b;intro R P clock b;have c:=q.ma R P clock b;rw[v.block R (vS.1 c).1 (λF=>by have:=(T R<|bG F).2.2;change N.J R=_ at b;simp_all)];exact c;intro l n b;rcases FB b with b|⟨e,k,b⟩;cases b;exists dD,N.nC _ _;let⟨f,ao,au⟩:=q.gy l n<|eY b;refine⟨f,bC (N.sx dD<|y e _ k b) ao,au.mono ar λR u=>v.block R (au.zd u)<|Q e _ f R k b ao u⟩;have:aa (·.1) (aK g A (r,m7))=aa (·.1) g:=by rw[hW];apply jI;intro e;rw[rO];split;rename_i F;subst F;simp only[bg,c4,M,lW];rw[ae (e3.1 M).1];rfl
 rw[this];exact q.lj;intro l n f R b c i;rcases FB b with b|⟨e,k,b⟩;cases b;rw[N.nC] at c;cases c;rcases d with d|⟨Y,d,u⟩;exact T R<|d▸i;rw[i] at d;cases d;refine⟨bl<|dK q.B.size u,λaz=>?_,?_⟩;cases ak:N.I R az;exact ak
 next H=>have:=q.Fg ak;omega
 cases al:N.J R;exact al
 next H=>let⟨P,clock⟩:=H;have:=(vS.1<|q.ma R P clock al).1;omega
 rw[N.sx dD<|y e _ k b] at c;exact q.kS l n f R (eY b) c i;intro l n aw ay f ax R b c i x C E;rcases FB b with b|⟨e,k,b⟩<;>rcases FB c with c|⟨X,S,c⟩;cases b;cases c;rfl;cases b;exfalso;rw[N.nC] at i;cases i;rw[N.sx dD<|y X _ S c] at x;rcases d with d|⟨Y,d,u⟩;exact Q X _ ax R S c x E (by rw[<-d,C]);rw[C] at d;cases d;let⟨aA,G,U⟩:=q.gy aw ay<|eY c;rw[x] at G;cases G;have:=U.zd E;omega;cases c;exfalso;rw[N.nC] at x;cases x;rw[N.sx dD<|y e _ k b] at i;rcases d with d|⟨Y,d,u⟩;exact Q e _ f R k b i C (by rw[<-d,E]);rw[E] at d;cases d;let⟨aA,G,U⟩:=q.gy l n<|eY b;rw[i] at G;cases G;have:=U.zd C;omega;rw[N.sx dD<|y e _ k b] at i;rw[N.sx dD<|y X _ S c] at x;exact q.inj l n aw ay f ax R (eY b) (eY c) i x C E
theorem Holds.new(q:Holds m N g D){m7:cD}{dD:Loc}(t:dD.bK=ah\/∃R,dD.bK=W R/\bB D.heap<=R)(k:D.grownBy bE ah)(al:lz (N.hz N.n dD) bE dD m7):Holds m (N.hz N.n dD) (g++[(N.n,m7)]) bE:=by
 have:N.m N.n=ah:=N.fresh _<|bz _;have O:N.le (N.hz N.n dD):=bh.lL λi b=>ap;have u:∀c d,(c,d)∈g->c≠N.n:=λc d b F=>by let⟨i,e,_⟩:=q.gy c d b;simp_all
 refine⟨q.le.trans O,?_,?_,q.m4,q.m5,?_,?_,?_,?_,?_,?_,?_⟩;exact⟨bC k.os q.B.os,bC k.tape q.B.tape,bC k.output q.B.output,dK q.B.size k.size,λc j T=>by rw[k.block c (kv j q.B.size) av];exact q.B.block c j T⟩;intro c i b e;have f:=q.m0 c i b e;rw[N.sx dD λF=>ap];exact f;intro c d b;rcases eX.1 b with b|b;exact q.own c d b;simp[ea,GR] at b;obtain⟨rfl,rfl⟩:=b;cases Q:m.Az.m N.n;simp
 next am=>let⟨i,b,_⟩:=q.le.m _ _ Q;simp_all
 intro R d A b;rw[World.cell?_of_block (w:=D)<|k.block R (q.Fg b) av];exact q.kD R d A b;intro R C clock b;have e:=q.ma R C clock b;rw[k.block R (vS.1 e).1 av];exact e;intro c d b;rcases eX.1 b with b|b;let⟨i,S,P⟩:=q.gy c d b;exact⟨i,bC (N.sx dD<|u c d b) S,P.mono O λR E=>k.block R (P.zd E) av⟩;simp[ea,GR] at b;obtain⟨rfl,rfl⟩:=b;exists dD,N.nC _ _;rw[dn,sI];refine⟨q.lj,av,λy ak R t F=>?_⟩;grind;intro c d i R b e f;rcases eX.1 b with b|b;rw[N.sx dD<|u c d b] at e;exact q.kS c d i R b e f;simp[ea,GR] at b;obtain⟨rfl,rfl⟩:=b;rw[N.nC] at e;cases e;rcases t with t|⟨Z,t,E⟩;simp_all;rw[f] at t;cases t;refine⟨bl<|dK q.B.size E,λU=>?_,?_⟩;cases L:N.I R U;exact L
 next A=>have:=q.Fg L;omega
 cases M:N.J R;exact M
 next A=>let⟨C,clock⟩:=A;have:=(vS.1<|q.ma R C clock M).1;omega
 intro c d x z i X R b e f s H K;rcases eX.1 b with l|l<;>rcases eX.1 e with r|r<;>clear b e;rw[N.sx dD<|u c d l] at f;rw[N.sx dD<|u x z r] at s;exact q.inj c d x z i X R l r f s H K;simp[ea,GR] at r;obtain⟨rfl,rfl⟩:=r;exfalso;rw[N.sx dD<|u c d l] at f;rw[N.nC] at s;cases s;let⟨Y,v,G⟩:=q.gy c d l;rw[f] at v;cases v;have:=G.zd H
 (simp_all;omega)
 simp[ea,GR] at l;obtain⟨rfl,rfl⟩:=l;exfalso;rw[N.sx dD<|u x z r] at s;rw[N.nC] at f;cases f;let⟨Y,v,G⟩:=q.gy x z r;rw[s] at v;cases v;have:=G.zd K
 (simp_all;omega)
 simp_all
theorem Holds.grown(q:Holds m N g D)(b:D.grownBy bE ah):Holds m N g bE:=by refine⟨q.le,?_,q.m0,q.m4,q.m5,q.own,?_,?_,?_,q.lj,q.kS,q.inj⟩;exact⟨bC b.os q.B.os,bC b.tape q.B.tape,bC b.output q.B.output,dK q.B.size b.size,λd j r=>by rw[b.block d (kv j q.B.size) av];exact q.B.block d j r⟩;intro R e t c;rw[World.cell?_of_block<|b.block R (q.Fg c) av];exact q.kD R e t c;intro R k clock c;let f:=q.ma R k _ c;rw[b.block R (vS.1 f).1 av];exact f;intro d e c;let⟨s,n,i⟩:=q.gy d e c;exact⟨s,n,i.mono (bh.le.refl N) λR l=>b.block R (i.zd l) av⟩
def bh.r5(N:bh)(R:Z)(e:b4 bt)(f:∀(g:Z)(b:bt),e[g]?=W b->jv b):bh:={N with
 I:=λc K=>if c=R then e[K]? else N.I c K
 one:=λc K b d=>by split at d;exact f K b d;exact N.one c K b d}
theorem Holds.auq(q:Holds m N g D){R:Z}{xO:b4 bt}{F:aw}{ao:Z×Z}(n:∀E(d:bt),xO[E]?=W d->jv d)(x:D.grownBy bE ah)(w:bB D.heap<=R)(J:bE.heap[R]?=W (pz xO F ao)):Holds m (N.r5 R xO n) g bE/\N.le (N.r5 R xO n):=by
 let b:=q.grown x;let M:∀A,N.I R A=ah:=λA=>by
  cases v:N.I R A;rfl
  next d=>have:=q.Fg v;omega
 let r:N.le (N.r5 R xO n):=by refine⟨λe K d c=>?_,λ_ _ q=>q,λf L j=>⟨L,j,p,bz _,λ_=>p⟩⟩;simp[bh.r5];rw[ab λF=>ap];exact c
 refine⟨⟨q.le.trans r,b.B,b.m0,?_,b.m5,b.own,?_,b.ma,?_,b.lj,?_,b.inj⟩,r⟩;intro e K d c;simp[bh.r5] at c;split at c;rename_i he;subst he;exact bp<|bl<|dK q.B.size w;exact b.m4 e K d c;intro e K d c;simp[bh.r5] at c;split at c;grind[hA];exact b.kD e K d c;intro f l i;let⟨k,y,z⟩:=b.gy f l i;exact⟨k,y,z.mono r λ_ _=>p⟩;intro f l k e i s t;let⟨G,P,H⟩:=q.kS f l k e i s t;refine⟨G,λA=>?_,H⟩;simp[bh.r5];rw[ab];simp_all;intro F;let⟨O,u,C⟩:=q.gy f l i;rw[show N.m f=W k from s] at u;cases u;have:=C.zd t;omega
theorem Holds.freeze(q:Holds m N g D){A G ar M:Z}{F:aw}{w:X V}(am:g[A]?=W (G,.h ar M F w)):∃v,N.le v/\v.m=N.m/\Holds m v (pB g A) D/\∃L,N.m G=W L/\L.aP=ar/\L.s=M/\(L.bK=ah/\w=[]\/∃(R:Z)(val:Z->Z->bt),L.bK=W R/\(∀(b:Z) I,w[b]?=W I->Q I.cells=M)/\(∀b i I U,w[b]?=W I->I.cells[i]?=W U->v.I R (L.base+b*M+i)=W (val b i))/\∀b i I U,w[b]?=W I->I.cells[i]?=W U->bj v U (val b i)):=by
 let J:=eY am;let⟨L,C,e,y,aG⟩:=q.gy _ _ J;let az:∀z∈pB g A,∃b≠A,g[b]?=W z:=λz aE=>by grind[List.mem_iff_getElem?]
 let k:∀z∈pB g A,z∈g:=λz aE=>aY;let ao:eb (aa (·.1)<|pB g A):=by have:(aa (·.1) (pB g A)).Sublist (aa (·.1) g):=(Wj g A).map _;exact this.nodup q.lj
 rcases aG with⟨x,he⟩|⟨R,H,x,ax,aH,aM,f,ay,ap⟩;exact⟨N,bh.le.refl N,p,⟨q.le,q.B,q.m0,q.m4,q.m5,λc d f=>q.own c d<|k _ f,q.kD,q.ma,λc d f=>q.gy c d<|k _ f,ao,λc d l R f=>q.kS c d l R<|k _ f,λc d S Y l T R f n=>q.inj c d S Y l T R (k _ f)<|k _ n⟩,L,C,e,y,bl ⟨x,he⟩⟩;let⟨aC,aD,aN⟩:=q.kS G _ L R J C x;let E:N.le (N.r5 R H f):=by refine⟨λr K u e=>?_,λ_ _ q=>q,λc L j=>⟨L,j,p,bz _,λ_=>p⟩⟩;simp[bh.r5];rw[ab λF=>by rw[F,aD] at e;cases e];exact e
 refine⟨N.r5 R H f,E,p,⟨q.le.trans E,q.B,q.m0,?_,q.m5,λc d f=>q.own c d<|k _ f,?_,q.ma,?_,ao,?_,λc d S Y l T R f n=>q.inj c d S Y l T R (k _ f)<|k _ n⟩,L,C,e,y,bp ⟨R,λb i=>(H[L.base+b*M+i]?).getD undef,x,λb I t=>by rw[<-y];exact ay b I t,?_,?_⟩⟩;intro r K u e;simp[bh.r5] at e;split at e;rename_i he;subst he;exact bp aC;exact q.m4 r K u e;intro r K u e;simp[bh.r5] at e;split at e;rename_i he;subst he;simp[hA,ax,e];exact q.kD r K u e;intro c d n;let⟨l,aB,aF⟩:=q.gy c d<|k _ n;exact⟨l,aB,aF.mono E λ_ _=>p⟩;intro c d l r n ak al;let⟨aJ,aK,aL⟩:=q.kS c d l r (k _ n) ak al;refine⟨aJ,λaI=>?_,aL⟩;simp[bh.r5];rw[ab];exact aK aI;rintro rfl;let⟨b,t,aA⟩:=az _ n;have:=q.inj c d G _ l L r (k _ n) J ak C al x;exact t<|Dx q.lj aA am this;intro b i I U t P;let⟨u,O,au⟩:=ap b i I U t P;simp[bh.r5,KA,<-y,O,xr];intro b i I U t P;let⟨u,O,au⟩:=ap b i I U t P;dsimp;rw[<-y,O];exact au.mono E
def bh.CC(N:bh)(R:Z)(U:b4 lX×Z):bh:={N with J:=λb=>if b=R then W U else N.J b}
theorem Holds.aqh(q:Holds m N g D){A u I r:Z}{z:X (V×V×Z)}(G:g[A]?=W (u,.map I z r)):∃n L R d,N.le n/\n.m=N.m/\Holds m n (pB g A) D/\N.m u=W L/\L.aP=I/\L.bK=W R/\n.J R=W (d,r)/\nd n z d/\(∀F∈bo d,F.born<r)/\eb (aa (·.born) (bo d)):=by
 let y:=eY G;let⟨L,x,ar,R,d,w,aB,al,ao,T⟩:=q.gy _ _ y;let O:∀s∈pB g A,∃H≠A,g[H]?=W s:=λs ak=>by grind[List.mem_iff_getElem?]
 let k:∀s∈pB g A,s∈g:=λs ak=>aY;let Y:eb (aa (·.1)<|pB g A):=by have:(aa (·.1) (pB g A)).Sublist (aa (·.1) g):=(Wj g A).map _;exact this.nodup q.lj
 cases q.kS u _ L R y x w;let t:N.le (N.CC R (d,r)):=by refine⟨λ_ _ _ q=>q,λf U b=>?_,λc L j=>⟨L,j,p,bz _,λ_=>p⟩⟩;simp[bh.CC];rw[ab λF=>ap];exact b
 refine⟨N.CC R (d,r),L,R,d,t,p,⟨q.le.trans t,q.B,q.m0,q.m4,?_,λc e v=>q.own c e<|k _ v,q.kD,?_,?_,Y,?_,λc e au aA l aw R v i=>q.inj c e au aA l aw R (k _ v)<|k _ i⟩,x,ar,w,by simp[bh.CC],al.mono t,ao,T⟩;intro f U b;simp[bh.CC] at b;split at b;simp_all;exact q.m5 f U b;intro f M K b;simp[bh.CC] at b;split at b;simp_all;exact q.ma f M K b;intro c e i;let⟨l,S,am⟩:=q.gy c e<|k _ i;exact⟨l,S,am.mono t λ_ _=>p⟩;intro c e l f i C E;let⟨ax,ay,az⟩:=q.kS c e l f (k _ i) C E;exists ax,ay;simp[bh.CC];rw[ab];exact az;rintro rfl;let⟨H,P,Q⟩:=O _ i;have:=q.inj c e u _ l L f (k _ i) y C x E w;exact P<|Dx q.lj Q G this
end
structure ky(P:ct)(S:aw)(am:bt):Prop where
 aH:(P.info? S).bind (·.zero)=W am
 one:(bo (dU am)).all (λax=>jv ax)
def ky.run{P:ct}{S:aw}{am:bt}(q:ky P S am)D:cI P (zeroValue S) D=cS am D:=by
 have:=q.aH;cases j:P.info? S;simp_all
 next b=>simp_all[zeroValue,typeInfo]
def V.zero:bt->V|iH b=>.agg (aa V.leaf<|bo b)|c=>V.leaf c
def qf(N:bh)(U:V)(c:X bt):Prop:=Q c=Q U.cells/\(∀b∈c,jv b)/\∀(d:Z)(C:V)(b:bt),U.cells[d]?=W C->c[d]?=W b->bj N C b
def qf.zero{P:ct}{S:aw}{am:bt}(q:ky P S am)N:qf N (V.zero am) (bo (dU am)):=by
 refine⟨?_,(m9.1 q.one),?_⟩;unfold V.zero;split;simp[V.cells,dU];have:(V.leaf am).cells=[V.leaf am]:=by unfold V.leaf;split<;>rfl
 grind[dU];intro c C f b e;unfold V.zero at b;split at b;simp[V.cells] at b;grind[dU,Option.some.injEq,bj.leaf];let d:(V.leaf am).cells=[V.leaf am]:=by unfold V.leaf;split<;>rfl
 grind[dU,bj.leaf]
def V.fits:V->Y|.agg _|.vec .. =>af|U=>U.one
def bj.Ip{N:bh}{U:V}{b:bt}(q:bj N U b)(n:U.fits):qf N U (bo (dU b)):=by
 by_cases l:U.one;have:=q.au3 l;have:U.cells=[U]:=by cases U<;>simp_all[V.cells,V.one]
 have i:dU b=#[b]:=by cases b<;>simp_all[dU,jv]
 refine⟨ap,ap,λc C bn f g=>?_⟩;grind;cases q with|agg k j m d e=>exact⟨by grind[dU,V.cells],λb i=>d b cc,λc C bn f g=>e c C bn cc cc⟩|vec T y k j a7 m d e=>exact⟨by show Q j=Q (y.cells++k);omega,λb i=>d b cc,λc C bn f g=>e c C bn f cc⟩|_=>trivial
section
variable{P:ct}{m:db}{ops:b4 a4}{K:a4}{L:X a4}{O:a9}{al:c_->a9->Prop}
def cK.ow(t:O.guard ops K=W af)(q:∀y D N,bm m O y D N->∃e bE b x f,N.le b/\bj b x e/\Holds m b f bE/\(cI P (dE (b8 y) K) D=cS (.value e) bE\/e=undef/\cI P (dE (b8 y) K) D=cS .skip bE)/\cK P m ops L (({O with g:=f}:a9).put K.dst x) al):cK P m ops (K::L) O al:=by intro s y D N c;let⟨j,k⟩:=HF s;unfold wpList;rw[ae<|c.wanted t];let⟨e,bE,b,x,f,i,r,l,d,n⟩:=q y D N c;refine bl ?_;unfold Oper.wp;rcases d with d|⟨rfl,d⟩<;>rw[d];exact n k _ _ b<|c.put i l r j;exact n k _ _ b<|c.put i l r j
def fz(P:ct)(m:db)(K:a4)(O:a9)(x:V)(f:b0):Prop:=∀y D N,bm m O y D N->∀(c:fS->bZ->Prop)(e:c_->fS->bZ->Prop),(∀d bE b,N.le b->bj b x d->Holds m b f bE->c (y.put K.dst d) bE)->K.wp P y D c e
theorem fz.of{x:V}{l:b0}(q:∀y D N,bm m O y D N->∃d bE b f e,N.le b/\bj b f d/\Holds m b e bE/\(cI P (dE (b8 y) K) D=cS (.value d) bE\/d=undef/\cI P (dE (b8 y) K) D=cS .skip bE)/\f=x/\e=l):fz P m K O x l:=by intro y D N n r s i;obtain⟨d,bE,b,f,e,g,k,j,c,rfl,rfl⟩:=q y D N n;unfold Oper.wp;rcases c with c|⟨rfl,c⟩<;>rw[c];exact i _ _ b g k j;exact i _ _ b g k j
def cK.qp{x:V}{c:b0}(k:O.guard ops K=W af)(n:fz P m K O x c)(q:cK P m ops L (({O with g:=c}:a9).put K.dst x) al):cK P m ops (K::L) O al:=by intro f y D N b;let⟨i,j⟩:=HF f;unfold wpList;rw[ae<|b.wanted k];refine bl<|n y D N b _ _ λs bE d e r l=>?_;exact q j _ _ d<|b.put e l r i
def Holds.newRow{N:bh}{g:b0}{D:bZ}(q:Holds m N g D){F:aw}{U:V}{b:X bt}(e:qf N U b):Holds m (N.hz N.n ⟨W (bB D.heap),0,0,Q b,Q b⟩) (g++[(N.n,.h 0 (Q b) F [U])]) (D.alloc (pz (aT b) F)):=by
 apply q.new (bp ⟨bB D.heap,p,bz _⟩)<|World.grownBy_alloc D _ _;refine⟨p,p,bp ⟨bB D.heap,aT b,p,?_,av,av,?_,?_,?_⟩⟩;grind[heap_alloc_new];intro c r l;exact e.2.1 r<|eY (by simpa using l);intro c I d;cases c;simp at d;subst d;exact bG e.1
 next c=>trivial
 intro c f I C d j;cases c;simp at d;subst d;let k:f<Q b:=by rw[e.1];exact(e3.1 j).1
 refine⟨b[f],av,(e.2.2 f C _ j<|cm k).mono<|bh.lL λs i=>by rw[N.fresh _<|bz _] at i;cases i⟩
 next c=>trivial
def bj.afv{N:bh}{R T:Z}{b:Z}:bj (N.hz N.n ⟨W R,0,0,T,T⟩) (.own N.n 0 0 b) (lu (W ⟨R,b,ah⟩)):=.own _ _ _ _ _ _ (N.nC _ _) (bz _) p λ_=>⟨R,p,av⟩
def cK.alloc{S:aw}{am:bt}{M:Z}(f:O.guard ops K=W af)(i:K.op=.alloc S)(aH:ky P S am)(j:bB (dU am)=M)(q:∀d,cK P m ops L (({O with g:=O.g++[(d,.h 0 M S [V.zero am])]}:a9).put K.dst (.own d 0 0 0)) al):cK P m ops (K::L) O al:=.ow f λy D N e=>by
 let c:=e.dt.newRow (F:=S)<|qf.zero aH N;let k:Q (bo<|dU am)=M:=by simpa using j
 rw[k] at c;refine⟨_,_,_,.own N.n 0 0 0,_,bh.lL λl b=>(by rw[N.fresh _<|bz _] at b;cases b),bj.afv,c,bl ?_,q N.n⟩;simp[dE,i,Instr.alloc,aH.run,newVar,newRow]
def cK.box{S:aw}{U:aM}{b:V}{M:Z}(k:O.guard ops K=W af)(l:K.op=.box S U)(t:O.val m U=W b)(j:b.fits)(r:Q b.cells=M)(q:∀i,cK P m ops L (({O with g:=O.g++[(i,.h 0 M S [b])]}:a9).put K.dst (.own i 0 0 0)) al):cK P m ops (K::L) O al:=.ow k λy D N d=>by
 let f:=(d.val t).Ip j;let e:=d.dt.newRow (F:=S) f;let s:(b8 y U).cells.toList.length=M:=by rw[f.1,r]
 rw[s] at e;refine⟨_,_,_,.own N.n 0 0 0,_,bh.lL λu c=>(by rw[N.fresh _<|bz _] at c;cases c),bj.afv,e,bl ?_,q N.n⟩;simp[dE,l,Instr.box,newVar,newRow]
def bm.own{y:fS}{D:bZ}{N:bh}(q:bm m O y D N){U:aM}{c d j e A M:Z}{F:aw}{f:X V}(t:O.val m U=W (.own c d j e))(l:O.g[A]?=W (c,.h d M F f)):∃L R,N.m c=W L/\lz N D L (.h d M F f)/\L.bK=W R/\L.s=M/\b8 y U=lu (W ⟨R,L.base+j*M+e,ah⟩):=by let⟨L,n,b⟩:=q.dt.gy _ _<|eY l;let i:=q.val t;cases i with|own _ _ _ _ u w hm v i q=>obtain rfl:L=u:=ap;let⟨R,k,r⟩:=q<|bG b.1;exact⟨L,R,n,b,k,b.2.1,by rw[r,b.2.1]⟩
def UX{U:aM}{b c i d A M:Z}{F:aw}{j:X V}(q:K.op=.nilCheck U)(f:O.val m U=W (.own b c i d))(k:O.g[A]?=W (b,.h c M F j)):dh P m K O (.own b c i d):=.same λy D N e=>by let⟨L,R,n,r,l,s,t⟩:=e.own f k;exact⟨_,e.val f,by simp_all[dE]⟩
def I5{S:aw}{I:i_}{G ci:Z}{U:aM}{j k c b A M:Z}{F:aw}{e:X V}{d x:V}(bW:cz P S I G ci)(t:oz I=ad)(w:K.op=.load S U)(J:O.val m U=W (.own j k c b))(v:O.g[A]?=W (j,.h k M F e))(u:e[c]?=W d)(q:d.cells[b]?=W x):dh P m K O x:=.same λy D N l=>by
 let⟨L,R,ao,B,n,E,H⟩:=l.own J v;obtain⟨_,_,⟨ak,_⟩|⟨Q,T,f,s,aH,am,Y,al,z⟩⟩:=B;simp_all;rw[n] at f;cases f;let⟨bn,i,C⟩:=z c b d x u q;rw[E] at i;let r:hA D ⟨R,L.base+c*M+b,ah⟩=W bn:=by simp[hA,s,i]
 exact⟨bn,C,by simp[dE,w,H,Instr.loadAt,yW,loadVar,bW.sv,t,r]⟩
theorem awJ{S:aw}{I:i_}{T ci:Z}{U:aM}{t u e c A M:Z}{F:aw}{n:X V}{f:V}{d:X V}(bW:cz P S I T ci)(E:oz I)(al:K.op=.load S U)(az:O.val m U=W (.own t u e c))(H:O.g[A]?=W (t,.h u M F n))(G:n[e]?=W f)(J:ak T (aU c f.cells)=d)(a7:Q d=T):dh P m K O (.agg d):=.same λy D N v=>by
 let⟨L,R,aG,ao,x,au,ax⟩:=v.own az H;obtain⟨_,_,⟨k,_⟩|⟨aC,j,q,B,aH,aF,aD,aE,am⟩⟩:=ao;simp_all;rw[x] at q;cases q;let z:∀b<T,∃U,f.cells[c+b]?=W U/\d[b]?=W U:=by
  intro b i;let r:b<Q d:=o;refine⟨d[b],?_,cm r⟩;let k:(ak T<|aU c f.cells)[b]?=W d[b]:=by rw[J];exact cm r
  rw[rP,ae i,vT] at k;exact k
 let ay:∀b<T,∃bn,j[L.base+e*M+c+b]?=W bn/\∀U,d[b]?=W U->bj N U bn:=by intro b i;let⟨U,aA,aB⟩:=z b i;let⟨bn,l,ap⟩:=am e (c+b) f U G aA;rw[au] at l;refine⟨bn,aY,λC s=>by rw[aB] at s;cases s;exact ap⟩
 let Y:∀b<T,hA D ((⟨R,L.base+e*M+c,ah⟩:Addr).add b)=W ((λb=>(j[L.base+e*M+c+b]?).getD undef) b):=by intro b i;let⟨bn,l,_⟩:=ay b i;rw[Addr.add_lit];simp[hA,B,l]
 let ar:=run_loadCells (P:=P) (w:=D) ⟨R,L.base+e*M+c,ah⟩ T _ Y;refine⟨iH<|aT<|(bJ T).map λb=>(j[L.base+e*M+c+b]?).getD undef,.agg d _ (by simp[a7]) ?_ ?_,?_⟩;grind;grind;simp[dE,al,ax,Instr.loadAt,yW,loadVar,bW.sv,E,bW.kW,ar]
def Of{S F:aw}{G ci ec:Z}{U e:aM}{c f r n A M:Z}{s:aw}{t:X V}{d:Z}{I:dw}{T:J}(bW:cz P S (dP F) G ci)(he:hs P F M ec)(C:K.op=qd S U e)(H:O.val m U=W (.bO c f r n))(z:O.g[A]?=W (c,.h f M s t))(x:O.val m e=W (.int I T))(a7:T=(d:J))(w:d<n):dh P m K O (.own c f (r+d) 0):=.same λy D N j=>by let⟨L,B,k,q⟩:=j.bO H z;have i:=j.val x;generalize E:b8 y e=bn at i;cases i;subst a7;rcases q with⟨_,rfl,l⟩|⟨R,ak,cap,v,l,Y,Q,b⟩;omega;rcases b with b|⟨rfl,b⟩;omega;refine⟨lu _,.own _ _ _ _ L _ B (by rw[k.1];omega) p λ_=>⟨R,v,p⟩,?_⟩;simp[dE,C,l,E,Instr.indexAt,asIntOf,run_underlying bW.u,he.kW,w,Addr.add_lit,k.2.1,iG]
def V.qP(I:V)(c:Z)(b:X V):V:=match I with|.agg L=>.agg (ak c L++b++aU (c+Q b) L)|_=>match b with|[U]=>U|_=>.agg b
def HM{S:aw}{G ci:Z}{aD U:aM}{t Y b c A M:Z}{F:aw}{w:X V}{j v:V}{ao:V}(bW:hs P S G ci)(aQ:K.op=.store S aD U)(aR:O.val m aD=W (.own t Y b c))(az:O.g[A]?=W (t,.h Y M F w))(x:w[b]?=W j)(a0:O.val m U=W v)(aE:v.fits)(E:Q v.cells=G)(a9:c+G<=Q j.cells)(aS:ao.cells=ak c j.cells++v.cells++aU (c+G) j.cells):fz P m K O .undef (aK O.g A (t,.h Y M F (aK w b ao))):=.of λy D N I=>by
 let⟨d,R,aO,aB,ar,k,aW⟩:=I.own aR az;let B:=(I.val a0).Ip aE;let bd:=aB;obtain⟨aZ,_,⟨a8,_⟩|⟨a7,f,au,ax,aH,aF,H,ay,L⟩⟩:=aB;simp_all;rw[ar] at au;cases au;let bb:Q j.cells=M:=by rw[<-k];exact ay b j x
 let aL:b<Q w:=(e3.1 x).1;let be:d.base+b*M+M<=bB f:=by rw[aH];refine dK ?_ aF;rw[k,Ce,<-qV];exact PJ (jU _ aL) _
 let T:(b8 y U).cells.toList.length=G:=by rw[B.1,E]
 let aC:=run_storeCells_at P R (d.base+b*M+c) F (b8 y U).cells.toList 0 f D ax o B.2.1;simp[uM] at aC;refine⟨undef,_,N.hz t d,.undef,_,bh.lL λa5 H=>ap,.undef _,I.dt.xa az aO p (bz _) (λ_=>p) (bl p) (bE:=D.setRow R<|aT<|ak (d.base+b*M+c) (bo f)++(b8 y U).cells.toList++aU (d.base+b*M+c+G) (bo f))
   ⟨p,p,p,av,λa4 bc aP=>setRow_other D R a4 _ λF=>aP ap⟩ ?_,bp ⟨p,?_⟩,p,p⟩
 let z:N.le (N.hz t d):=bh.lL λa5 H=>ap;refine⟨aZ,k,bp ⟨R,_,ar,setRow_heap D R f _ F _ ax,?_,a2,?_,?_,?_⟩⟩
 (simp_all;omega)
 intro u al aY;let hm:al∈ak (d.base+b*M+c) (bo f)++(b8 y U).cells.toList++aU (d.base+b*M+c+G) (bo f):=eY (by simpa using aY);rcases eX.1 hm with hm|hm;rcases eX.1 hm with hm|hm;let⟨a3,aN⟩:=ob.1<|tu hm;exact H a3 al (by simpa using aN);exact B.2.1 al hm;grind[List.mem_iff_getElem?,List.mem_of_mem_drop];grind;intro u i am C r e;let aI:∀q,(aT<|ak (d.base+b*M+c) (bo f)++(b8 y U).cells.toList++aU (d.base+b*M+c+G) (bo f))[q]?=if q<d.base+b*M+c then f[q]? else if q<d.base+b*M+c+G then(b8 y U).cells.toList[q-(d.base+b*M+c)]? else f[q]?:=by
  intro q;let l:Q (ak (d.base+b*M+c)<|bo f)=d.base+b*M+c:=a2;simp[B9,fJ];rw[oQ,l];split;rw[rP,ae (by assumption)];simp;rw[oQ,T];split
  (simp;omega)
  rw[ab o,vT];simp[D7];congr 1;omega
 rw[aI];rw[rO] at r;split at r;rename_i J;subst J;simp[hr] at r;subst r;rw[aS] at e;rw[k];rw[fJ,oQ,mK,PR o] at e;split at e;rename_i l;rw[ae o];rw[rP,ae l] at e;let⟨bn,n,s⟩:=L b i j C x e;exact⟨bn,by rw[<-n,k],s.mono z⟩;rw[oQ] at e;split at e;rename_i l;rw[E] at l;rw[ab o,ae o];have:d.base+b*M+i-(d.base+b*M+c)=i-c:=o;rw[this];let aA:i-c<(b8 y U).cells.toList.length:=o;exact⟨_,cm aA,(B.2.2 _ _ _ e<|cm aA).mono z⟩;rename_i aG;rw[E] at aG;rw[ab o,ab o];rw[vT,E] at e;have:c+G+(i-c-G)=i:=o;rw[this] at e;let⟨bn,n,s⟩:=L b i j C x e;exact⟨bn,by rw[<-n,k],s.mono z⟩;rename_i J;let⟨bn,n,s⟩:=L u i am C r e;let a_:i<M:=by rw[<-k,<-ay u am r];exact(e3.1 e).1
 rw[k] at n⊢;refine⟨bn,?_,s.mono z⟩;rcases Nat.lt_or_gt_of_ne J with l|aJ;have:(b+1)*M<=u*M:=jU _ l;rw[qV] at this;rw[ab o,ab o];exact n;have:(u+1)*M<=b*M:=jU _ aJ;rw[qV] at this;rw[ae o];exact n;simp[dE,aQ,Instr.storeAt,yW,aW,storeVar];let aV:(b8 y U).cells.size=G:=by simpa using T
 simp[bW.kW,aV,aC,T]
def CX{S:aw}{G ci:Z}{j U:aM}{e i f b A M:Z}{F:aw}{d:X V}{el c:V}(bW:hs P S G ci)(r:K.op=.store S j U)(s:O.val m j=W (.own e i f b))(q:O.g[A]?=W (e,.h i M F d))(n:d[f]?=W el)(v:O.val m U=W c)(l:c.fits)(u:Q c.cells=G)(k:b+G<=Q el.cells)(t:(el.qP b c.cells).cells=ak b el.cells++c.cells++aU (b+G) el.cells):fz P m K O .undef (aK O.g A (e,.h i M F (aK d f (el.qP b c.cells)))):=HM bW r s q n v l u k t
end
section
variable{P:ct}{m:db}{ops:b4 a4}{K:a4}{L:X a4}{O:a9}{al:c_->a9->Prop}
def aar M:∀(c:X (X bt)) e pre post parts j,Q pre=e*M->Q post=Q c*M->(∀ax∈c,Q ax=M)->Q pre+Q post=j->Q parts=Q c->(∀f g,parts[f]?=W g->g.1=e+f/\W g.2.cells.toList=c[f]?)->Instr.fill (λe=>W (e*M,M)) (aT<|pre++post) parts=W (aT<|pre++jj c)
|[],e,pre,post,parts,j,r,s,_,_,u,_=>by simp_all[m_,Instr.fill]|ax::c,e,pre,post,parts,j,r,s,t,H,u,v=>by
 cases parts;simp_all
 next g F=>
  obtain⟨k,y⟩:=g;obtain⟨q,m⟩:=v 0 _ a3;simp[uM] at q;simp[PB,hr] at m;subst q;have w:Q ax=M:=t ax av;have:bB (dU y)=M:=by rw[<-yJ,m,w]
  simp only[Instr.fill];rw[ab (by grind[List.length_cons,Nat.succ_mul])];have:M<=Q post:=by rw[s];simp[qV]
  have z:(dU y).zipIdx.foldl (λl U=>qX l (k*M+U.2) U.1) (aT<|pre++post)=aT (pre++ax++aU M post):=by
   have E:∀d A i b,Q i=A->Q d<=Q b->(d.zipIdx A).foldl (λl U=>qX l (k*M+U.2) U.1) (aT<|pre++i++b)=aT (pre++i++d++aU (Q d) b):=by
    intro d
    induction d
    simp
    next U d D=>
     intro A i b hm I;cases b;grind
     next x b=>
      simp only[List.zipIdx_cons,PA];have:(pre++i++x::b).toArray.setIfInBounds (k*M+A) U=aT (pre++(i++[U])++b):=by rw[List.setIfInBounds_toArray];congr 1;rw[An _ _ aY];simp[r,hm]
      rw[this,D (A+1) (i++[U]) b (by simp[hm]) aY];simp
   have n:=E ax 0 [] post p o;rw[w] at n;simp only[ff] at n;rw[<-n,<-ajx,ajF,m]
  rw[z];have:=aar M c (k+1) (pre++ax) (aU M post) F j aY (by grind[Nat.succ_mul]) (λbn C=>t bn (by simp[C])) aY (by simpa using u)
   (λf G B=>by have:=v (f+1) G (by simpa using B);grind)
  simp_all
def w1(m:db)(O:a9):X (Z×aM)->Z->X V->Prop|[],_,b=>b=[]|(c,U)::x,T,I::b=>c=T/\O.val m U=W I/\I.fits/\w1 m O x (T+1) b|_::_,_,[]=>h7
def w1.len{m:db}{O:a9}:∀{c:X (Z×aM)}{T:Z}{b:X V},w1 m O c T b->Q c=Q b|[],_,b,q=>by grind[w1]|_::x,T,I::b,q=>by simp[q.2.2.2.len]|_::_,_,[],q=>q.elim
def w1.get{m:db}{O:a9}:∀{f:X (Z×aM)}{T:Z}{d:X V},w1 m O f T d->∀c b,f[c]?=W b->b.1=T+c/\∃I,d[c]?=W I/\O.val m b.2=W I/\I.fits|[],_,d,_,c,b,e=>ap|(g,U)::x,T,I::d,q,0,b,e=>by simp at e;subst e;exact⟨q.1,I,p,q.2.1,q.2.2.1⟩|(g,U)::x,T,I::d,q,c+1,b,e=>by cases q.2.2.2.get c b ap;grind|_::_,_,[],q,_,_,_=>q.elim
def HX{M:Z}:∀(aq:X (X bt)),(∀b∈aq,Q b=M)->∀d c b,aq[d]?=W b->c<M->(jj aq)[d*M+c]?=b[c]?|[],_,d,c,b,q,_=>aY|bn::aq,f,0,c,b,q,e=>by grind|bn::aq,f,d+1,c,b,q,e=>by have:=HX aq (λb g=>f b aY) d c b ap e;grind
theorem E6{M:Z}:∀(aq:X (X bt)),(∀b∈aq,Q b=M)->Q (jj aq)=Q aq*M|[],_=>av|bn::aq,c=>by rw[List.flatten_cons,cX,c bn av,E6 aq λb d=>c b aY,kN,qV,xl]
def ahf{S F:aw}{G ci M ec T:Z}{am:bt}{n:b4 (Z×aM)}{g:X V}(bW:cz P S (dP F) G ci)(he:hs P F M ec)(aH:ky P F am)(l:w1 m O (bo n) 0 g)(a7:T=Q g)(hlen:∀I∈g,Q I.cells=M)(aB:T*M<=2^24){y:fS}{D:bZ}{N:bh}(R:bm m O y D N):∃q:X bt,Q q=T*M/\cI P (Instr.buildSlice S T (n.map λU=>(U.1,b8 y U.2))) D=cS (gj (W ⟨bB D.heap,0,ah⟩) T T) (D.alloc (pz (aT q) F))/\(∀c∈q,jv c)/\∀b f I U,g[b]?=W I->I.cells[f]?=W U->∃c,q[b*M+f]?=W c/\bj N U c:=by
 let d:X (X bt):=(bo n).map λK=>(b8 y K.2).cells.toList;have x:∀(b:Z) I,g[b]?=W I->∃c,d[b]?=W c/\qf N I c:=by
  intro b I k;have i:b<Q (bo n):=by rw[l.len];exact(e3.1 k).1
  let⟨_,aA,B,ar,Y⟩:=l.get b _<|cm i;rw[k] at B;cases B;refine⟨_,aY,(R.val ar).Ip Y⟩
 have w:∀c∈d,Q c=M:=by
  intro c v;let⟨b,i⟩:=ob.1 v;have t:b<Q g:=by rw[<-l.len];have:=(e3.1 i).1;simpa[d] using this
  let⟨az,e,j⟩:=x b _<|cm t;rw[i] at e;cases e;rw[j.1];exact hlen _<|fK t
 have au:Q d=T:=by simp only[d,bg];rw[l.len,a7]
 refine⟨jj d,by grind[E6],?_,?_,?_⟩;have s:=aar M d 0 [] ((bJ<|T*M).map λz=>(dU am)[z%bB (dU am)]!) ((bo n).map λU=>(U.1,b8 y U.2)) (T*M) av ap w av
  aY (λb K H=>by simp only[c4,Ef] at H;obtain⟨ay,al,rfl⟩:=H;exists (l.get b ay al).1;grind)
 simp[tv] at s;simp only[Instr.buildSlice,Sem.run_bind,run_underlying bW.u,Result.andThen_ok,he.kW];rw[ab o];by_cases r:T*M=0;rw[ae r];have C:jj d=[]:=m_ (by grind[E6]);rw[r,C] at s;have ak:∀L:b4 bt,Array.map (L[·%bB L]!) (Array.range 0)=#[]:=λ_=>av;simp[r,ak,We];simp[List.range_zero,vV] at s;rw[s,C];rfl;rw[ab r];simp[Sem.run_bind,aH.run,Result.andThen_ok,Sem.run_pure];have:Array.map ((dU am)[·%bB (dU am)]!) (Array.range (T*M))=aT ((bJ (T*M)).map λz=>(dU am)[z%bB (dU am)]!):=by apply J3;simp
 simp_all[We,newRow];intro c v;simp[Wu] at v;let⟨bn,ao,ax⟩:=v;let⟨b,i⟩:=ob.1 ao;have t:b<Q g:=by rw[<-a7,<-au];exact(e3.1 i).1
 let⟨az,e,j⟩:=x b _<|cm t;rw[i] at e;cases e;exact j.2.1 c ax;intro b f I U k J;let⟨c,e,j⟩:=x b I k;have A:f<M:=by rw[<-hlen I (eY k)];exact(e3.1 J).1
 rw[HX d w b f c e A];have E:f<Q c:=by rw[w c<|eY e];exact A
 exact⟨_,cm E,j.2.2 f U _ J<|cm E⟩
def UT{S F:aw}{G ci M ec T:Z}{am:bt}{l:b4 (Z×aM)}{b:X V}(bW:cz P S (dP F) G ci)(he:hs P F M ec)(aH:ky P F am)(A:K.op=.buildSlice S T l)(t:w1 m O (bo l) 0 b)(a7:T=Q b)(hlen:∀I∈b,Q I.cells=M)(r:T*M<=2^24)(w:0<M):dh P m K O (.a M b):=.run λy D N j=>by let⟨i,z,B,n,u⟩:=ahf bW he aH t a7 hlen r j;let q:∀(c:Z) d,(aT i)[c]?=W d->jv d:=λc d g=>n d<|eY (by simpa using g);let⟨s,k⟩:=j.dt.auq (xO:=_) (F:=F) (ao:=(0,0)) q (World.grownBy_alloc D _ ah) (bz _)<|heap_alloc_new D _;refine⟨gj (W ⟨bB D.heap,0,ah⟩) T T,_,_,k,?_,s,by grind[dE,Sem.run_bind,Result.andThen_ok,Sem.run_pure]⟩;subst a7;refine .a M b _ 0 _ (λc e=>(i[c*M+e]?).getD undef) (bz _) ?_ (λc I f=>hlen I<|eY f) ?_ ?_;have:Q b<=Q b*M:=PP _ w;grind[mm];grind[bh.r5];intro c e I U f x;let⟨d,g,v⟩:=u c e I U f x;simp[g];exact v.mono k
def cK.buildSlice{S F:aw}{G ci M ec T:Z}{am:bt}{r:b4 (Z×aM)}{b:X V}(v:O.guard ops K=W af)(bW:cz P S (dP F) G ci)(he:hs P F M ec)(aH:ky P F am)(H:K.op=.buildSlice S T r)(x:w1 m O (bo r) 0 b)(a7:T=Q b)(hlen:∀I∈b,Q I.cells=M)(u:T*M<=2^24)(B:0<M)(q:∀s,cK P m ops L (({O with g:=O.g++[(s,.h 0 M F b)]}:a9).put K.dst (.bO s 0 0 T)) al):cK P m ops (K::L) O al:=.ow v λy D N j=>by
 let⟨d,E,J,c,z⟩:=ahf bW he aH x a7 hlen u j;let k:N.le (N.hz N.n ⟨W<|bB D.heap,0,0,Q d,M⟩):=bh.lL λR c=>by rw[N.fresh _<|bz _] at c;cases c
 let w:=j.dt.new (m7:=.h 0 M F b) (dD:=⟨W _,0,0,Q d,M⟩) (bp ⟨bB D.heap,p,bz _⟩) (World.grownBy_alloc D _ _)
  ⟨p,p,bp ⟨bB D.heap,aT d,p,heap_alloc_new D _,av,ap,λf i l=>c i<|eY (by simpa using l),λf I e=>hlen I<|eY e,λf t I U e C=>by let⟨i,l,A⟩:=z f t I U e C;exact⟨i,ap,A.mono k⟩⟩⟩
 refine⟨gj (W ⟨bB D.heap,0,ah⟩) T T,_,_,.bO N.n 0 0 T,_,k,?_,w,bl (by grind[dE,Sem.run_bind,Result.andThen_ok,Sem.run_pure]),q N.n⟩;let hm:T<=mm:=by have:T<=T*M:=PP _ B;simp[mm];omega
 exact .bO _ _ _ _ _ _ (N.nC _ _) (bz _) p λ_=>bp ⟨bB D.heap,0,T,p,p,bz _,hm,bp ⟨av,aY⟩⟩
def cK.makeSlice{S F:aw}{G ci M ec:Z}{am:bt}{U C:aM}{A ax:dw}{T i:Z}{au l:J}(aB:O.guard ops K=W af)(bW:cz P S (dP F) G ci)(he:hs P F M ec)(aH:ky P F am)(ug:bB (dU am)=M)(aZ:K.op=.makeSlice S U C)(r:O.val m U=W (.int A au))(aD:au=(T:J))(aO:O.val m C=W (.int ax l))(z:l=(i:J))(aF:T<=i)(E:i<=mm)(az:i*ec<=2^48)(Y:0<M)(q:∀d,cK P m ops L (({O with g:=O.g++[(d,.h 0 M F<|cM T<|V.zero am)]}:a9).put K.dst (.bO d 0 0 T)) al):cK P m ops (K::L) O al:=.ow aB λy D N w=>by
 subst aD;subst z;have j:=w.val r;have H:=w.val aO;generalize ak:b8 y U=bn at j;generalize f:b8 y C=e at H;cases j;cases H;have B:=qf.zero aH N;let⟨a5,aK,a3,aJ⟩:=he.Dk;have ar:Q (bo (dU am))=M:=by simpa using ug
 let b:X bt:=jj<|cM i<|bo<|dU am;have aU:Q b=i*M:=by rw[E6 (M:=M) _ λe f=>ap];simp
 have aV:∀(s c:Z),s<i->c<M->b[s*M+c]?=(bo (dU am))[c]?:=λs c z x=>
  HX (M:=M) _ (λe f=>ap) s c _ ap x
 have aG:∀e∈b,jv e:=by intro e f;simp only[b,Wu] at f;let⟨bn,ak,ao⟩:=f;rw[yN ak] at ao;exact B.2.1 e ao
 have a2:cI P (Instr.makeSlice S (ek A T) (ek ax i)) D=cS (gj (W ⟨bB D.heap,0,ah⟩) T i) (D.alloc (pz (aT b) F)):=by
  have aL:k0 IntKind.i64 (T:J)=T:=vO (by simp only[mm] at E;grind[nZ,Ej,uQ,Cn,mN]);have aN:k0 IntKind.i64 (i:J)=i:=vO (by simp only[mm] at E;grind[nZ,Ej,uQ,Cn,mN]);have aR:¬(ec:J)*(i:J)>2^48:=by
   have:((i*ec:Z):J)<=2^48:=by exact_mod_cast az
   rw[lV] at this
   push_cast at this;omega
  simp only[Instr.makeSlice,Sem.run_bind,run_underlying bW.u,Result.andThen_ok,asInt,asIntOf,Sem.run_pure,typeInfo,run_program,aK,aJ,aL,aN];rw[ab ap];simp only[Sem.run_bind,run_askRoom,Result.andThen_ok,he.kW,Kb];have ay:∀t:b4 bt,t=dU am->Array.map (λU=>t[U%bB t]!) (Array.range<|i*M)=aT b:=by
   intro t aQ;subst aQ;apply J3;simp only[We,Array.toList_range];apply jI;intro d;simp only[c4];by_cases aI:d<i*M;have a0:d=d/M*M+d%M:=by rw[lV];exact bG<|xm d M
   have aW:d/M<i:=(Kj Y).2 aI;have aS:d%M<M:=sJ _ Y;grind;simp_all
  by_cases v:i*M=0;rw[ae v];have aA:b=[]:=m_ o;simp only[v,aA];simp[newRow,Array.range];rw[ab v];simp only[Sem.run_bind,aH.run,Result.andThen_ok,Sem.run_pure,ay (dU am) p];rfl
 have R:N.le (N.hz N.n ⟨W (bB D.heap),0,0,Q b,M⟩):=bh.lL λa4 j=>by rw[N.fresh _<|bz _] at j;cases j
 have aP:(V.zero am).cells.length=M:=by rw[<-B.1,ar]
 have aC:=w.dt.new (m7:=.h 0 M F<|cM T<|V.zero am) (dD:=⟨W<|bB D.heap,0,0,Q b,M⟩) (bE:=D.alloc<|pz (aT b) F) (bp ⟨bB D.heap,p,bz _⟩) (World.grownBy_alloc D _ ah)
  ⟨p,p,bp ⟨bB D.heap,aT b,p,heap_alloc_new D _,av,by simp_all[jU],λl e f=>aG e<|eY (by simpa using f),λl I k=>aY,λl c I U k r=>by
    rw[yP] at k;split at k<;>simp at k;rename_i z;subst k;have x:c<M:=by rw[<-aP];exact(e3.1 r).1
    have aE:c<Q (bo (dU am)):=by rw[ar];exact x
    refine⟨(bo<|dU am)[c],?_,(B.2.2 c U _ r<|cm aE).mono R⟩;grind⟩⟩
 refine⟨gj (W ⟨bB D.heap,0,ah⟩) T i,_,_,.bO N.n 0 0 T,_,R,?_,aC,bl (by grind[dE,Sem.run_bind,Result.andThen_ok,Sem.run_pure]),q N.n⟩;exact .bO _ _ _ _ _ _ (N.nC _ _) (bz _) p λ_=>bp ⟨bB D.heap,0,i,p,p,aF,E,bp ⟨av,aY⟩⟩
structure k2(P:ct)(m:db)(O:a9)(U:aM)(c5:aw)(M i:Z)(mV:X V):Prop where
 len:Q mV=i
 cells:∀I∈mV,Q I.cells=M
 IN:ij P c5=W ml\/∃F,ij P c5=W (dP F)
 run:∀y D N,bm m O y D N->∃sZ:X bt,Q sZ=i*M/\(∀ax∈sZ,jv ax)/\cI P (Cl (b8 y U)) D=cS i D/\(∀bE,bE.heap=D.heap->cI P (uP M i (b8 y U)) bE=cS (aT sZ) bE)/\∀(cr l:Z)(I C:V),mV[cr]?=W I->I.cells[l]?=W C->∃ax,sZ[cr*M+l]?=W ax/\bj N C ax
theorem Q6{D bE:bZ}(q:bE.heap=D.heap)y:hA bE y=hA D y:=by grind[hA]
def k2.a{U:aM}{c5 F:aw}{G ci M:Z}{c:X V}(bW:cz P c5 (dP F) G ci)(T:O.val m U=W (.a M c))(k:∀I∈c,Q I.cells=M):k2 P m O U c5 M (Q c) c:=by
 refine⟨p,k,bp ⟨_,bW.u⟩,λy D N v=>?_⟩;have j:=v.val T;generalize b8 y U=f at j;cases j with
 |slnil=>simp[Cl,uP]|z_ M Y=>simp[Cl,run_firstCells_some]|a _ _ R base cap val al am L ak ao=>
  let i:X bt:=jj<|c.zipIdx.map λr=>aa (val r.2)<|bJ M;have B:∀f∈c.zipIdx.map λr=>aa (val r.2)<|bJ M,Q f=M:=by intro f n;simp only[cV] at n;obtain⟨r,_,rfl⟩:=n;simp
  have s:Q i=Q c*M:=by rw[E6 _ B];simp
  have J:∀b e,b<Q c->e<M->i[b*M+e]?=W (val b e):=λb e g k=>by rw[HX _ B b e (aa (val b)<|bJ M) aY k];grind
  have E:∀b e,b<Q c->e<M->N.I R (base+b*M+e)=W (val b e):=λb e g k=>by have H:=L b _<|cm g;grind
  have w:∀d f,i[d]?=W f->N.I R (base+d)=W f:=by
   intro d f l;have K:d<Q c*M:=by rw[<-s];exact(e3.1 l).1
   have A:0<M:=by rcases oR M with q|q;simp_all;exact q
   have z:d=d/M*M+d%M:=by rw[lV];exact bG<|xm d M
   have g:d/M<Q c:=(Kj A).2 K;have x:d%M<M:=sJ _ A;have j:=J _ _ g x;rw[<-z,l] at j;cases j;have t:=E _ _ g x;rw[Ce,<-z] at t;exact t
  refine⟨i,s,λf n=>?_,a3,λbE S=>?_,λb e I C H ap=>?_⟩;let⟨d,l⟩:=ob.1 n;exact N.one _ _ _<|w d f l;refine run_firstCells_some (P:=P) bE M (Q c) ⟨R,base,ah⟩ (Q c) cap i s λb f g=>?_;rw[Addr.add_lit,Q6 S];exact v.dt.kD _ _ _<|w b f g;grind
theorem k2.nil{U:aM}{c5 F:aw}{G ci M:Z}(bW:cz P c5 (dP F) G ci)(d:O.val m U=W .ba):k2 P m O U c5 M 0 []:=by refine⟨p,av,bp ⟨_,bW.u⟩,λy D N c=>?_⟩;have b:=c.val d;generalize b8 y U=e at b;cases b;simp[Cl,uP]
def bR(R:v):V:=.int .u8<|aG R
def k2.str{U:aM}{c5:aw}{G ci:Z}{b:X v}(bW:cz P c5 ml G ci)(i:O.val m U=W (.str b)):k2 P m O U c5 1 (Q b) (aa bR b):=by
 refine⟨av,by simp[bR,V.cells],bl bW.u,λy D N g=>?_⟩;have e:=g.val i;generalize b8 y U=l at e;cases e;refine⟨b.map λR=>ek .u8<|aG R,av,by simp[jv],a3,λbE _=>?_,λk d I C f c=>?_⟩;simp[uP,Sem.run_pure,Lib.extract_eq];simp at f;obtain⟨R,j,rfl⟩:=f;simp[bR,V.cells] at c;cases d;simp at c;subst c;exact⟨ek .u8 _,aY,.int _ _⟩
 next d=>simp_all
def k2.bO{U:aM}{c5 F:aw}{G ci:Z}{id aP c b A M:Z}{E:aw}{ia:X V}(bW:cz P c5 (dP F) G ci)(aB:O.val m U=W (.bO id aP c b))(ao:O.g[A]?=W (id,.h aP M E ia))(al:c+b<=Q ia)(t:∀I∈ia,Q I.cells=M):k2 P m O U c5 M b (ak b (aU c ia)):=by
 refine⟨aY,λI e=>t I<|Kh<|tu e,bp ⟨_,bW.u⟩,λy D N J=>?_⟩;let⟨d,aL,ay,q⟩:=J.bO aB ao;rcases q with⟨_,rfl,i⟩|⟨R,aC,cap,K,i,aN,aG,j⟩;simp_all[Cl,uP];obtain⟨_,x,⟨aF,_⟩|⟨aD,r,v,aJ,aH,Y,aE,aK,ax⟩⟩:=ay;simp_all;rw[K] at v;cases v;by_cases H:b=0;subst H;exact⟨[],av,av,by simp[i,Cl],λbE _=>by simp[i,uP,loadCells,loadCellsFrom],av⟩;let L:aC=d.base+c*d.s/\d.base+(c+cap)*d.s<=d.size:=by rcases j with j|j;omega;exact j
 obtain⟨rfl,S⟩:=L;rw[x] at Y S;let ap:(c+b)*M<=Q ia*M:=jU _ al;rw[iG] at ap;let f:X bt:=ak (b*M)<|aU (d.base+c*M)<|bo r;let T:Q f=b*M:=by simp[f,mK,B_,yJ,aH];omega
 let am:∀n<b*M,f[n]?=r[d.base+c*M+n]?:=λn au=>by simp[f,rP,ae au,vT,D7]
 refine⟨f,T,λB i=>?_,by simp[i,Cl],λbE aO=>?_,λk l I C e z=>?_⟩;grind[List.mem_iff_getElem?,List.getElem?_eq_some_iff];grind[run_firstCells_some,List.getElem?_eq_some_iff,Addr.add_lit,Q6,hA];let w:k<b:=by have:=(e3.1 e).1;simp at this;omega
 rw[rP,ae w,vT] at e;let aI:l<M:=by rw[<-t I (eY e)];exact(e3.1 z).1
 let⟨B,az,aA⟩:=ax (c+k) l I C e z;let ar:k*M+l<b*M:=by have:(k+1)*M<=b*M:=jU _ w;rw[qV] at this;omega
 refine⟨B,?_,aA⟩;rw[am _ ar,<-az,x,iG];congr 1;omega
section gen
variable{S c5 fo F:aw}{G ci M ec:Z}{am:bt}(bW:cz P S (dP F) G ci)(he:hs P F M ec)(aH:ky P F am)(ug:bB (dU am)=M)
 {D:bZ} {C:bt} {i:Z} {news:X bt} (mX:Q news=i*M) (H_:ij P c5=W ml\/∃F,ij P c5=W (dP F))
 (hlen:cI P (Cl C) D=cS i D) (wJ:∀bE,bE.heap=D.heap->cI P (uP M i C) bE=cS (aT news) bE)
include bW he H_ hlen
theorem ahe(c:i=0)(wJ:cI P (uP M i C) D=cS #[] D):cI P (yV #[S,c5] fo #[gj ah 0 0,C]) D=cS (gj ah 0 0) D:=by subst c;rcases H_ with b|⟨d,b⟩<;>simp[yV,run_underlying bW.u,he.kW,run_underlying b,hlen,wJ]
theorem ax5 s b T e c(k:D.heap[s]?=W (pz c F (0,0)))(l:∀n∈news,jv n)(wJ:cI P (uP M i C) D=cS (aT news) D)(g:T+i<=e)(q:news=[]\/b+T*M+Q news<=bB c):cI P (yV #[S,c5] fo #[gj (W ⟨s,b,ah⟩) T e,C]) D=cS (gj (W ⟨s,b,ah⟩) (T+i) e) (if news=[] then D else D.setRow s (aT (ak (b+T*M) (bo c)++news++aU (b+T*M+Q news) (bo c)))):=by by_cases f:news=[];subst f;rcases H_ with d|⟨j,d⟩<;>simp[yV,run_underlying bW.u,he.kW,run_underlying d,hlen,wJ,g,storeCells];let m:=run_storeCells_at P s (b+T*M) F news 0 c D k ap l;rcases H_ with d|⟨j,d⟩<;>simp[yV,run_underlying bW.u,he.kW,run_underlying d,hlen,wJ,g,f,Addr.add_lit,m]
include aH wJ in
omit ug mX in
theorem ax4(U:bt)(e:da Addr)(T b:Z)(c:U=gj e T b)(d:X bt)(r:cI P (uP M T U) D.drew=cS (aT d) D.drew)(q:b<T+i)(g:T+i<=mm)(n:(T+i)*ec<=140737488355328):cI P (yV #[S,c5] fo #[U,C]) D=cS (gj (W ⟨bB D.heap,0,ah⟩) (T+i) (grownCap D (T+i) b F)) (D.drew.alloc (pz (aT d++aT news++tz (dU am) (grownCap D (T+i) b F-(T+i))) F)):=by
 let⟨v,j,_,l⟩:=he.Dk;subst c;let a7:=o;let k:¬(9223372036854775807:J)<(T:J)+(i:J):=by simp only[mm] at g;omega
 let f:=by have:=growslice_fits q n;omega
 let m:=wJ D.drew p;let s:=aH.run D.drew;rcases H_ with c|⟨t,c⟩<;>simp[yV,run_underlying bW.u,he.kW,run_underlying c,hlen,typeInfo,j,l,a7,k,f,Question.forced,newRow,s,m,r,grownCap]<;>(grind)
end gen
def ZR{S c5 F:aw}{G ci M ec:Z}{am:bt}{U C:aM}{u aP off b A i:Z}{z aJ:X V}(bW:cz P S (dP F) G ci)(he:hs P F M ec)(aH:ky P F am)(ug:bB (dU am)=M)(b3:K.op=gi {callee:=hX rT,args:=#[U,C],argTypes:=#[S,c5]})(bb:O.g[A]?=W (u,.h aP M F z))(bP:off+b<=Q z)(au:k2 P m O C c5 M i aJ)(a8:b+i<=mm)(bD:(b+i)*ec<=140737488355328):∀y D N,bm m O y D N->(∃L,N.m u=W L/\lz N D L (.h aP M F z)/\(L.bK=ah/\b=0/\b8 y U=gj ah 0 0\/∃R K cap,L.bK=W R/\b8 y U=gj (W ⟨R,K,ah⟩) b cap/\b<=cap/\cap<=mm/\(cap=0\/K=L.base+off*L.s/\L.base+(off+cap)*L.s<=L.size)))->∃c bE aA br bq,N.le aA/\bj aA br c/\Holds m aA bq bE/\(cI P (dE (b8 y) K) D=cS (.value c) bE\/c=undef/\cI P (dE (b8 y) K) D=cS .skip bE)/\br=.bO u (aP+1) 0 (b+i)/\bq=aK O.g A (u,.h (aP+1) M F (ak b (aU off z)++aJ)):=λy D N a3 ca=>by
 let⟨e,aV,b5,b_⟩:=ca;let⟨news,mX,bg,hlen,wJ,b2⟩:=au.run y D N a3;let⟨cf,Y,a9⟩:=b5;have aS:∀c bE,cI P (yV #[S,c5] K.type #[b8 y U,b8 y C]) D=cS c bE->cI P (dE (b8 y) K) D=cS (.value c) bE:=by intro c bE aF;simp[dE,b3,Sem.run_bind,rV,PF,iO,vV,Sem.run_pure,Result.andThen_ok,invoke,builtin,aF]
 have be:Q (ak b (aU off z))=b:=a2;have mk:∀dD bE aI w,dD.s=e.s->dD.aP=aP+1->(dD.bK=e.bK\/∃R,dD.bK=W R/\bB D.heap<=R)->dD.bK=W aI->bE.heap[aI]?=W (pz w F (0,0))->bB w=dD.size->dD.base+(b+i)*M<=dD.size->(∀(d:Z) c,w[d]?=W c->jv c)->(∀d f I U,z[off+d]?=W I->d<b->I.cells[f]?=W U->∃c,w[dD.base+d*M+f]?=W c/\bj N U c)->(∀d f,d<i->f<M->w[dD.base+(b+d)*M+f]?=news[d*M+f]?)->(∀I∈z,Q I.cells=M)->D.grownBy bE e.bK->Holds m (N.hz u dD) (aK O.g A (u,.h (aP+1) M F (ak b (aU off z)++aJ))) bE:=by
  intro dD bE aI w aZ al aL bC a4 cb cc bu bf b1 ao bT;refine a3.dt.xa bb aV (bG aZ) o (λF=>o) aL bT ⟨al,o,bp ⟨aI,w,bC,a4,cb,?_,bu,?_,?_⟩⟩;rw[cX,be,au.len,aZ,Y];omega;intro d B l;rw[aZ,Y];rcases eX.1 (eY l) with hm|hm;grind;exact au.cells B hm;intro d f B az l J;have bd:N.le (N.hz u dD):=bh.lL λa0 n=>aY;rw[aZ,Y];rw[oQ,be] at l;split at l;rename_i k;rw[rP,ae k,vT] at l;let⟨c,ay,ax⟩:=bf d f B az l k J;exact⟨c,ay,ax.mono bd⟩;rename_i k;have bU:d-b<i:=by rw[<-au.len];exact(e3.1 l).1
  have aQ:f<M:=by rw[<-au.cells B (eY l)];exact(e3.1 J).1
  let⟨c,ay,ax⟩:=b2 (d-b) f B az l J;refine⟨c,?_,ax.mono bd⟩;have:=b1 (d-b) f bU aQ;simp_all
 have grow:∀base cap(v:X bt),b8 y U=gj base b cap->cap<b+i->Q v=b*M->cI P (uP M b (b8 y U)) D.drew=cS (aT v) D.drew->(∀c∈v,jv c)->(∀d f I U,z[off+d]?=W I->d<b->I.cells[f]?=W U->∃c,v[d*M+f]?=W c/\bj N U c)->(∀I∈z,Q I.cells=M)->∃c bE aA x bn,N.le aA/\bj aA x c/\Holds m aA bn bE/\(cI P (dE (b8 y) K) D=cS (.value c) bE\/c=undef/\cI P (dE (b8 y) K) D=cS .skip bE)/\x=.bO u (aP+1) 0 (b+i)/\bn=aK O.g A (u,.h (aP+1) M F (ak b (aU off z)++aJ)):=by
  intro base cap v t aN aC bS ce bf ao;have H:=ax4 (fo:=K.type) bW he aH au.IN hlen wJ (b8 y U) base b cap t v bS aN a8 bD;have a_:=grownCap_ge D (b+i) cap F;have aO:=grownCap_le_maxLen D (b+i) cap F a8;generalize grownCap D (b+i) cap F=ar at H a_ aO;have aG:bB (tz (dU am) (ar-(b+i)))=(ar-(b+i))*M:=by rw[size_zeroCells,ug]
  have:∀c∈tz (dU am) (ar-(b+i)),jv c:=by
   intro c t;simp[tz,Array.mem_map] at t;obtain⟨j,aD,rfl⟩:=t;have:j<(ar-(b+i))*bB (dU am):=by simpa using aD
   have b7:0<bB (dU am):=by rcases oR (bB (dU am)) with q|q;grind;exact q
   rw[yT (dU am) _<|sJ _ b7];exact m9.1 aH.one _<|ajA _
  let w:b4 bt:=aT v++aT news++tz (dU am) (ar-(b+i));have aQ:bB w=ar*M:=by simp[w,Wd,Ec,aC,mX,aG,<-iG];congr 1;omega
  have T:∀j,w[j]?=if j<b*M then v[j]? else if j<b*M+i*M then news[j-b*M]? else(tz (dU am) (ar-(b+i)))[j-(b*M+i*M)]?:=by intro j;simp[w,Array.getElem?_append,Ec,aC,mX,Wd,B9];split;rfl;grind
  refine⟨_,_,_,.bO u (aP+1) 0<|b+i,_,bh.lL λa0 n=>aY,?_,mk ⟨W<|bB D.heap,0,aP+1,ar*M,M⟩ (D.drew.alloc<|pz w F) (bB D.heap) w (bG Y) p (bp ⟨_,p,bz _⟩) p (heap_alloc_new D.drew _) aQ aY ?_ ?_ ?_ ao
    ⟨p,p,p,av,λbk bc _=>by rw[heap_alloc_old D.drew _ bc];rfl⟩,bl<|aS _ _ H,p,p⟩
  exact .bO _ _ _ _ _ _ (N.nC _ _) (bz _) p λ_=>bp ⟨bB D.heap,0,ar,p,p,a_,aO,bp ⟨av,av⟩⟩;intro d c t;rw[T] at t;grind;grind;intro d f k r;simp[kZ];have n:(d+1)*M<=i*M:=jU _ k;rw[qV] at n;rw[T,iG,ab o,ae o];congr 1;omega
 rcases b_ with⟨aB,rfl,t⟩|⟨R,m7,cap,aB,t,bX,aO,r⟩
 .have bM:z=[]:=by rcases a9 with⟨_,q⟩|⟨R,_,aL,_⟩;exact q;grind
  subst bM;by_cases hm:i=0;subst hm;have bL:aJ=[]:=m_ au.len;subst bL;have aE:news=[]:=m_ o;subst aE;have H:=ahe (fo:=K.type) bW he au.IN hlen p<|wJ D p;rw[<-t] at H;refine⟨_,_,_,.bO u (aP+1) 0 0,_,bh.lL (dD:={e with aP:=aP+1}) λa0 n=>aY,?_,a3.dt.xa (m7:=.h (aP+1) M F<|ak 0 (aU off [])++[]) (dD:={e with aP:=aP+1}) bb aV p aY (λF=>ap) (bl p) ⟨p,p,p,bz _,λ_ _ _=>p⟩ ⟨p,Y,bl ⟨aB,av⟩⟩,bl (aS _ _ H),p,p⟩;rw[t];exact .bO _ _ _ _ _ _ (N.nC _ _) (bz _) p λ_=>bl ⟨aB,p,p⟩;exact grow ah 0 [] t o av (by rw[t];rfl) av av av
 rcases a9 with⟨bw,_⟩|⟨aI,E,aL,aR,aG,bN,n,bJ,aF⟩;grind;rw[aB] at aL;cases aL;rw[Y] at bN r bJ aF;have ao:∀I∈z,Q I.cells=M:=λI l=>by grind[List.mem_iff_getElem?]
 have bY:(off+b)*M<=Q z*M:=jU _ bP;rw[iG] at bY;by_cases aW:b+i<=cap;have bQ:news=[]\/m7+b*M+Q news<=bB E:=by rcases r with r|⟨rfl,r⟩;left;exact m_ (by rw[mX,show i=0 by omega];simp);right;rw[mX,aG];have:(b+i)*M<=cap*M:=jU _ aW;rw[iG] at this r;omega
 have H:=ax5 (fo:=K.type) bW he au.IN hlen R m7 b cap E aR bg (wJ D p) aW bQ;rw[<-t] at H;have bi:∀dD,dD.bK=W R->dD.base=e.base+off*M->dD.aP=aP+1->dD.size=e.size->dD.s=M->bj (N.hz u dD) (.bO u (aP+1) 0 (b+i)) (gj (W ⟨R,m7,ah⟩) (b+i) cap):=by intro dD n bv bw bx bA;refine .bO _ _ _ _ _ _ (N.nC _ _) o p λ_=>bp ⟨R,m7,cap,n,p,aW,aO,?_⟩;rcases r with r|⟨bF,bI⟩;exact bl r;right;rw[bv,bx,bA];refine⟨by rw[bF];simp,?_⟩;rw[iG] at bI;simp;omega
 by_cases aE:news=[];rw[ae aE] at H;have cd:i*M=0:=by rw[<-mX,aE];rfl
 refine⟨_,_,_,.bO u (aP+1) 0<|b+i,_,bh.lL λa0 n=>(by rw[aV] at n;cases n;exact⟨Y,by show e.aP<=aP+1;omega,λF=>by exfalso;have:e.aP=aP+1:=F;omega⟩),bi ⟨W R,e.base+off*M,aP+1,e.size,M⟩ p p p p p,mk ⟨W R,e.base+off*M,aP+1,e.size,M⟩ D R E (bG Y) p (bl (bG aB)) p aR aG (by dsimp;rw[iG];omega) n ?_ ?_ ao ⟨p,p,p,bz _,λ_ _ _=>p⟩,bl<|aS _ _ H,p,p⟩;intro d f B az l k J;let⟨c,ay,ax⟩:=aF (off+d) f B az l J;refine⟨c,?_,ax⟩;rw[<-ay,iG];congr 1;dsimp only;omega;intro d f k a4;have:(d+1)*M<=i*M:=jU _ k;rw[qV] at this;omega;rw[ab aE] at H;have a5:m7=e.base+off*M/\e.base+(off+cap)*M<=e.size:=by rcases r with r|r;exact b9 (m_ (by rw[mX,show i=0 by omega];simp)) aE;exact r
 obtain⟨rfl,aN⟩:=a5;have b6:(b+i)*M<=cap*M:=jU _ aW;rw[iG] at b6 aN;have T:∀j,(aT (ak (e.base+off*M+b*M) (bo E)++news++aU (e.base+off*M+b*M+Q news) (bo E)))[j]?=if j<e.base+off*M+b*M then E[j]? else if j<e.base+off*M+b*M+i*M then news[j-(e.base+off*M+b*M)]? else E[j]?:=by intro j;have bZ:Q (ak (e.base+off*M+b*M) (bo E))=e.base+off*M+b*M:=a2;simp[B9,fJ];rw[oQ,bZ];split;rw[rP,ae (by assumption)];simp;rw[oQ,mX];split;rw[ae o];rw[ab o,vT];simp[D7];congr 1;omega
 refine⟨_,_,_,.bO u (aP+1) 0<|b+i,_,bh.lL λa0 n=>(by rw[aV] at n;cases n;exact⟨Y,by show e.aP<=aP+1;omega,λF=>by exfalso;have:e.aP=aP+1:=F;omega⟩),bi ⟨W R,e.base+off*M,aP+1,e.size,M⟩ p p p p p,mk ⟨W R,e.base+off*M,aP+1,e.size,M⟩ _ R _ (bG Y) p (bl (bG aB)) p (setRow_heap D R E _ F _ aR) ?_ (by dsimp;rw[iG];omega) ?_ ?_ ?_ ao
   ⟨p,p,p,av,λbk bc b0=>setRow_other D R bk _ λF=>b0 (by rw[aB,F])⟩,bl<|aS _ _ H,p,p⟩
 simp[Ec,cX,mK,B_,yJ];rw[mX,aG];omega;intro d c al;rw[T] at al;split at al;exact n _ _ al;split at al;exact bg c<|eY al;exact n _ _ al;intro d f B az l k J;let⟨c,ay,ax⟩:=aF (off+d) f B az l J;have aQ:f<M:=by rw[<-ao B (eY l)];exact(e3.1 J).1
 have:(d+1)*M<=b*M:=jU _ k;rw[qV] at this;refine⟨c,?_,ax⟩;dsimp;rw[T,ae o,<-ay,iG];congr 1;omega;intro d f k a4;have:(d+1)*M<=i*M:=jU _ k;rw[qV] at this;dsimp;rw[iG,T,ab o,ae o];congr 1;omega;by_cases bs:b=0;subst bs;refine grow _ cap [] t o av (by rw[t];simp[uP,loadCells,loadCellsFrom]) av (λd f I U _ k=>o) ao;have a5:m7=e.base+off*M/\e.base+(off+cap)*M<=e.size:=by rcases r with r|r;omega;exact r
 obtain⟨rfl,aN⟩:=a5;have:b*M<=cap*M:=jU _ bX;rw[iG] at aN;let v:X bt:=ak (b*M)<|aU (e.base+off*M)<|bo E;have aC:Q v=b*M:=by simp[v,mK,B_,yJ,aG];omega
 have T:∀j<b*M,v[j]?=E[e.base+off*M+j]?:=λj aD=>by simp[v,rP,ae aD,vT,D7]
 refine grow _ cap v t o aC ?_ ?_ ?_ ao;rw[t];refine run_firstCells_some (P:=P) D.drew M b ⟨R,e.base+off*M,ah⟩ b cap v aC λd c k=>?_;have a7:d<b*M:=by rw[<-aC];exact(e3.1 k).1
 rw[T d a7] at k;rw[Addr.add_lit,Q6 (D:=D) (bE:=D.drew) p];simp[hA,aR,k];intro c al;let⟨j,aD⟩:=ob.1 al;have a7:j<b*M:=by rw[<-aC];exact(e3.1 aD).1
 rw[T j a7] at aD;exact n _ _ aD;intro d f B az l k J;let⟨c,ay,ax⟩:=aF (off+d) f B az l J;have:f<M:=by rw[<-ao B (eY l)];exact(e3.1 J).1
 have:(d+1)*M<=b*M:=jU _ k;rw[qV] at this;refine⟨c,?_,ax⟩;rw[T _ o,<-ay,iG];congr 1;omega
def HL{S c5 F:aw}{G ci M ec:Z}{am:bt}{U C:aM}{c d f b A i:Z}{e j:X V}(bW:cz P S (dP F) G ci)(he:hs P F M ec)(aH:ky P F am)(ug:bB (dU am)=M)(s:K.op=gi {callee:=hX rT,args:=#[U,C],argTypes:=#[S,c5]})(u:O.val m U=W (.bO c d f b))(l:O.g[A]?=W (c,.h d M F e))(r:f+b<=Q e)(t:k2 P m O C c5 M i j)(n:b+i<=mm)(q:(b+i)*ec<=140737488355328):fz P m K O (.bO c (d+1) 0 (b+i)) (aK O.g A (c,.h (d+1) M F<|ak b (aU f e)++j)):=.of λy D N k=>ZR bW he aH ug s l r t n q y D N k<|k.bO u l
end
def gJ(P:ct)(d:X (Z×V))(ao:gP)(k:X V)(g:b0)(al:V->b0->Prop):Prop:=∀(N:bh)(c:X bt)(D:bZ)(j:Z->Prop),Q c=Q k->(∀(f:Z)(U:V)(b:bt),k[f]?=W U->c[f]?=W b->bj N U b)->Holds ⟨D,j,N,aa (·.1) g,d,0⟩ N g D->(∀s U,(s,U)∈d->bj N U (lu<|W ⟨s,0,ah⟩))->px P ao (aT c) D (λF bE=>∃b x i e,F=mM b/\al x i/\bj e x b/\Holds ⟨D,j,N,aa (·.1) g,d,0⟩ e i bE)
def fA(P:ct)(d:X (Z×V))(ao:gP)(b:X V)(x:V):Prop:=gJ P d ao b [] (·=x/\·=[])
def gJ.mono{P:ct}{d:X (Z×V)}{ao:gP}{c:X V}{g:b0}{al b:V->b0->Prop}(q:gJ P d ao c g al)(m:∀x K,al x K->b x K):gJ P d ao c g b:=by intro N l D k e f i j;apply (q N l D k e f i j).mono;grind
structure KM(P:ct)(ao:gP)(fn:Func)(l:hG):Prop where
 get:P.funcs[ao]?=W fn
 name:(fn.name== "runtime.NumGoroutine")=ad
 body:fn.body=W l
structure mo(P:ct)(ao:gP):Prop where
 h:(P.funcs[ao]?).map (λfn=>(fn.name== "runtime.NumGoroutine",fn.body.isNone))=W (ad,ad)
def mo.run{P:ct}{ao:gP}(q:mo P ao)args D:cI P (callFunc ao args) D=cS (.enter ao args) D:=by
 have:=q.h;cases b:P.funcs[ao]?;simp_all
 next fn=>simp only[callFunc,Sem.run_bind,run_program,Result.andThen_ok,b];rw[ab ap,ab aY];rfl
section
variable{P:ct}{m:db}{ops:b4 a4}{K:a4}{L:X a4}{O:a9}{al:c_->a9->Prop}
def Holds.perm{N:bh}{g i:b0}{D:bZ}(q:Holds m N g D)(e:hI i g):Holds m N i D:=⟨q.le,q.B,q.m0,q.m4,q.m5,λc d b=>q.own c d<|e.mem_iff.1 b,q.kD,q.ma,λc d b=>q.gy c d<|e.mem_iff.1 b,((e.map _).nodup_iff).2 q.lj,λc d f R b=>q.kS c d f R<|e.mem_iff.1 b,λc d k n f l R b j=>q.inj c d k n f l R (e.mem_iff.1 b)<|e.mem_iff.1 j⟩
def Holds.drop{N:bh}{g i:b0}{D:bZ}(q:Holds m N g D)(e:i.Sublist g):Holds m N i D:=⟨q.le,q.B,q.m0,q.m4,q.m5,λc d b=>q.own c d<|e.subset b,q.kD,q.ma,λc d b=>q.gy c d<|e.subset b,(e.map _).nodup q.lj,λc d f R b=>q.kS c d f R<|e.subset b,λc d k n f l R b j=>q.inj c d k n f l R (e.subset b)<|e.subset j⟩
def Holds.enter{N:bh}{f n:b0}{D:bZ}(q:Holds m N (f++n) D)d T:Holds ⟨D,λR=>∃id K L,(id,K)∈f/\N.m id=W L/\L.bK=W R,N,aa (·.1) f,d,T⟩ N f D:=by let i:∀l∈f,l∈f++n:=λl r=>yQ _ r;refine⟨bh.le.refl N,⟨p,p,p,bz _,λ_ _ _=>p⟩,λ_ _ q _=>q,λ_ _ _ q=>bl q,λ_ _ q=>bl q,λc e b=>bl<|cV.2 ⟨_,b,p⟩,q.kD,q.ma,λc e b=>q.gy c e<|i _ b,?_,λc e j R b g k=>⟨bp ⟨c,e,j,b,g,k⟩,(q.kS c e j R (i _ b) g k).2⟩,λc e s u j t R b g=>q.inj c e s u j t R (i _ b)<|i _ g⟩;have:=q.lj;grind
def Holds.leave{N H:bh}{w z S:b0}{D bE:bZ}{d:X (Z×V)}{T:Z}(q:Holds m N (w++z) D)(i:Holds ⟨D,λR=>∃id K L,(id,K)∈w/\N.m id=W L/\L.bK=W R,N,aa (·.1) w,d,T⟩ H S bE):Holds m H (S++z) bE:=by
 let s:∀x∈z,x∈w++z:=λx C=>yR _ C;let ao:∀x∈w,x∈w++z:=λx C=>yQ _ C;let al:=q.lj;rw[dn,sI] at al;let am:∀id K,(id,K)∈z->id∉aa (·.1) w:=λid K b c=>al.2.2 id c id (cV.2 ⟨_,b,p⟩) p;let hm:∀id K L,(id,K)∈z->N.m id=W L->H.m id=W L:=λid K L b c=>i.m0 id L c<|am id K b;let ap:∀id K L R,(id,K)∈z->N.m id=W L->L.bK=W R->¬∃id K L,(id,K)∈w/\N.m id=W L/\L.bK=W R:=by rintro id K L R b c f ⟨aJ,aM,aK,g,l,u⟩;have:=q.inj id K aJ aM L aK R (s _ b) (ao _ g) c l f u;subst this;exact am _ _ b<|cV.2 ⟨_,g,p⟩
 let ak:∀id K L R,(id,K)∈z->N.m id=W L->L.bK=W R->R<bB D.heap:=by intro id K L R b c f;let⟨k,g,l⟩:=q.gy id K<|s _ b;rw[c] at g;cases g;exact l.zd f
 let az:∀id K,(id,K)∈S->id∈aa (·.1) w\/N.m id=ah:=i.own;let aH:∀id∈aa (·.1) w,id∈m.ids\/m.Az.m id=ah:=by intro id b;obtain⟨x,C,rfl⟩:=cV.1 b;exact q.own x.1 x.2<|ao _ C
 let aG:∀R,(∃id K L,(id,K)∈w/\N.m id=W L/\L.bK=W R)->bB m.xd.heap<=R\/m.FW R:=by rintro R ⟨id,K,L,b,c,f⟩;exact(q.kS id K L R (ao _ b) c f).1
 refine⟨q.le.trans i.le,?_,?_,?_,?_,?_,i.kD,i.ma,?_,?_,?_,?_⟩;refine⟨bC i.B.os q.B.os,bC i.B.tape q.B.tape,bC i.B.output q.B.output,dK q.B.size i.B.size,λA ax C=>?_⟩;rw[i.B.block A (kv ax q.B.size) (λaI=>by grind)];exact q.B.block A ax C;intro id L b c;let f:=q.m0 id L b c;exact i.m0 id L f (λaI=>by grind);intro R e G b;rcases i.m4 R e G b with c|c|c;exact q.m4 R e G c;exact bp<|bl<|dK q.B.size c;grind;intro R U b;rcases i.m5 R U b with c|c|c;exact q.m5 R U c;exact bp<|bl<|dK q.B.size c;grind;intro id e b;rcases eX.1 b with b|b;rcases az id e b with c|c;exact aH id c;cases aC:m.Az.m id;exact bp p
 next aO=>let⟨k,f,_⟩:=q.le.m _ _ aC;rw[c] at f;cases f
 exact q.own id e<|s _ b;intro id e b;rcases eX.1 b with b|b;exact i.gy id e b;let⟨k,c,f⟩:=q.gy id e<|s _ b;exact⟨k,hm id e k b c,f.mono i.le λR Q=>i.B.block R (ak id e k R b c Q)<|ap id e k R b c Q⟩;rw[dn,sI];refine⟨i.lj,al.2.1,λy aF R Q F=>?_⟩;subst F;obtain⟨x,C,rfl⟩:=cV.1 aF;let⟨Y,aA,aB⟩:=cV.1 Q;rcases az x.1 x.2 C with c|c;exact am Y.1 Y.2 aA (by rw[aB];exact c);let⟨k,f,_⟩:=q.gy Y.1 Y.2<|s _ aA;rw[aB,c] at f;cases f;intro id e k R b c f;rcases eX.1 b with b|b;let⟨g,l⟩:=i.kS id e k R b c f;refine⟨?_,l⟩;rcases g with g|g;exact bl<|dK q.B.size g;exact aG R g;let⟨t,g,_⟩:=q.gy id e<|s _ b;let l:=hm id e t b g;rw[c] at l;cases l;let⟨u,E,P⟩:=q.kS id e k R (s _ b) g f;let aN:=ak id e k R b g f;let ay:=ap id e k R b g f;refine⟨u,λA=>?_,?_⟩;cases aD:H.I R A;rfl
 next G=>rcases i.m4 R A G aD with j|j|j;change N.I R A=W G at j;rw[E A] at j;cases j;change bB D.heap<=R at j;omega;exact b9 j ay
 cases aE:H.J R;rfl
 next G=>rcases i.m5 R G aE with j|j|j;change N.J R=W G at j;rw[P] at j;cases j;change bB D.heap<=R at j;omega;exact b9 j ay
 let au:∀v e n r k t R,(v,e)∈S->(n,r)∈z->H.m v=W k->H.m n=W t->k.bK=W R->t.bK=W R->h7:=by intro v e n r k t R b c f g l u;let⟨ar,E,_⟩:=q.gy n r<|s _ c;let P:=hm n r ar c E;rw[g] at P;cases P;rcases(i.kS v e k R b f l).1 with j|j;have:=ak n r t R c E u;change bB D.heap<=R at j;omega;exact ap n r t R c E u j
 intro v e n r k t R b c f g l u;rcases eX.1 b with M|M<;>rcases eX.1 c with O|O;exact i.inj v e n r k t R M O f g l u;exact(au v e n r k t R M O f g l u).elim;exact(au n r v e t k R O M g f u l).elim;let⟨ar,E,_⟩:=q.gy v e<|s _ M;let⟨aL,P,_⟩:=q.gy n r<|s _ O;let j:=hm v e ar M E;let aw:=hm n r aL O P;rw[f] at j;cases j;rw[g] at aw;cases aw;exact q.inj v e n r k t R (s _ M) (s _ O) E P l u
def pI(m:db)(O:a9):X aM->X V->Prop|[],c=>c=[]|U::x,I::b=>O.val m U=W I/\pI m O x b|_::_,[]=>h7
def pI.get{c:X aM}{b:X V}(q:pI m O c b):Q c=Q b/\∀(e:Z)(U:V),b[e]?=W U->∃d,c[e]?=W d/\O.val m d=W U:=by
 induction c generalizing b with
 |nil=>grind[pI]|cons d x i=>cases b with|nil=>trivial|cons I b=>let⟨f,g⟩:=q;grind
def tD(P:ct)(m:db)(K:a4)(O:a9)(e:V->b0->Prop):Prop:=∀y D N,bm m O y D N->∀(c:fS->bZ->Prop)(f:c_->fS->bZ->Prop),(∀x az d bE b,e x az->N.le b->bj b x d->Holds m b az bE->c (y.put K.dst d) bE)->K.wp P y D c f
def Yn{ao:gP}{g:aM}{args:b4 aM}{t:b4 aw}{first f i:X V}(H:K.op=gi {callee:=qc g,args:=args,argTypes:=t})(A:mo P ao)(E:O.val m g=W (.func (dp ao) first f))(w:pI m O (bo args) i){y:fS}{D:bZ}{N:bh}(l:bm m O y D N){k:fS->bZ->Prop}{s:c_->fS->bZ->Prop}(q:∀d:X bt,Q d=Q (first++i++f)->(∀(j:Z) U b,(first++i++f)[j]?=W U->d[j]?=W b->bj N U b)->px P ao (aT d) D (λF bE=>∃b,F=mM b/\k (y.put K.dst b) bE)):K.wp P y D k s:=by
 have n:=l.val E;generalize B:b8 y g=b at n;cases n with
 |func _ _ _ d r G L M R=>
  let⟨z,x⟩:=w.get;unfold Oper.wp;have C:cI P (dE (b8 y) K) D=cS (.enter ao (aT (d++aa (b8 y) (bo args)++r))) D:=by simp only[dE,H,Sem.run_bind,rV,Deferred.ofValue,B,Sem.run_pure,Result.andThen_ok,invoke,A.run];simp
  rw[C];refine(q (d++aa (b8 y) (bo args)++r) ap ?_).mono ?_;intro j U b e c;rw[oQ,oQ] at e c;simp only[cX,bg,<-G,z] at e c;split at e;rename_i u;rw[ae u] at c;split at e;grind;rename_i v;rw[ab v] at c;let⟨S,I,J⟩:=x _ U e;rw[c4,I] at c;simp at c;subst c;exact l.val J;grind;rintro F bE ⟨b,rfl,q⟩;exact q
def tD.call{ao:gP}{f:aM}{args:b4 aM}{q:b4 aw}{first e i:X V}{pass rest:b0}{d:V->b0->Prop}{uW:V->b0->Prop}(A:K.op=gi {callee:=qc f,args:=args,argTypes:=q})(u:mo P ao)(w:O.val m f=W (.func (dp ao) first e))(t:pI m O (bo args) i)(k:hI (pass++rest) O.g)(B:gJ P m.G ao (first++i++e) pass d)(r:∀x c,d x c->∃az,hI az (c++rest)/\uW x az):tD P m K O uW:=λy D N b L M s=>Yn A u w t b λJ z H=>(B N J D _ z H ((b.dt.perm k).enter m.G 0) b.hv).mono λF bE ⟨l,x,c,n,he,E,I,j⟩=>
 let⟨az,C,v⟩:=r x c E
 ⟨l,he,s x az l bE n v j.le I<|((b.dt.perm k).leave j).perm C⟩
def cK.call{ao:gP}{i:aM}{args:b4 aM}{n:b4 aw}{first f j:X V}{pass rest:b0}{c:V->b0->Prop}(z:O.guard ops K=W af)(C:K.op=gi {callee:=qc i,args:=args,argTypes:=n})(s:mo P ao)(w:O.val m i=W (.func (dp ao) first f))(r:pI m O (bo args) j)(H:hI (pass++rest) O.g)(E:gJ P m.G ao (first++j++f) pass c)(q:∀x k,c x k->cK P m ops L (({O with g:=k++rest}:a9).put K.dst x) al):cK P m ops (K::L) O al:=by intro t y D N d;let⟨u,v⟩:=HF t;unfold wpList;rw[ae<|d.wanted z];refine bl<|tD.call (uW:=λx az=>∃b,c x b/\az=b++rest) C s w r H E (λx b e=>⟨_,uS _,b,e,p⟩) y D N d _ _ ?_;rintro x _ I bE l ⟨b,e,rfl⟩ B F A;exact q x b e v _ _ l<|d.put B A F u
def awC{ao:gP}{c:aM}{args:b4 aM}{k:b4 aw}{first b d:X V}{x:V}(w:K.op=gi {callee:=qc c,args:=args,argTypes:=k})(u:mo P ao)(v:O.val m c=W (.func (dp ao) first b))(t:pI m O (bo args) d)(z:fA P m.G ao (first++d++b) x):dh P m K O x:=λy D N s i j r=>
 tD.call (pass:=[]) (rest:=O.g) (uW:=λe az=>e=x/\az=O.g) w u v t (uS _) z (by rintro x K ⟨rfl,rfl⟩;exists _,uS _,p) y D N s i j (by rintro e az A bE f ⟨rfl,rfl⟩ l n q;exact r A bE f l n q)
def qj:Z->X V->X (Z×V)|_,[]=>[]|b,U::x=>(b,U)::qj (b+1) x
def Qx:∀c b S U,cY S (qj b c)=W U->b<=S/\c[S-b]?=W U|[],_,_,_,q=>cc|C::x,b,S,U,q=>by simp[qj,qT] at q;split at q;simp_all;cases Qx x _ S U q;grind
def yz(O:a9):X ik->X V->Prop|[],c=>c=[]|.tmp S::x,U::d=>cY S O.b=W U/\yz O x d|_,_=>h7
def cU:X V->V|[U]=>U|L=>.tuple L
def KL(d:X ik)(c:V->b0->Prop):c_->a9->Prop:=λF O=>(F=.ret\/F=gA)/\∃b,yz O d b/\c (cU b) O.g
def vG(b:b4 bt):ik->Sem bt|.tmp S=>Pure.pure (b.getD S undef)|.cell R S=>do loadVar S (<-asAddr (b.getD R undef))
def ag0 c d:results c d=(do
  let b<-c.results.mapM (vG d)
  Pure.pure (if q:bB b=1 then b[0] else rU b)):=by rfl
def yz.run{O:a9}{y:fS}{D:bZ}{N:bh}(q:bm m O y D N):∀{jH:X ik}{e:X V},yz O jH e->∃d,Q d=Q e/\cI P (jH.mapM (vG y.tmps)) D=cS d D/\∀(g:Z) U f,e[g]?=W U->d[g]?=W f->bj N U f|[],e,c=>by simp[yz] at c;simp_all|.tmp S::x,U::t,c=>by let⟨d,i,j,k⟩:=yz.run q c.2;let⟨f,r,l⟩:=q.b S U c.1;refine⟨f::d,aY,?_,λg C bn s n=>?_⟩;simp_all[vG,B6];grind|.tmp S::x,[],c=>cc|.cell _ _::x,_,c=>cc
def NS:X bt->bt|[bn]=>bn|b=>rU<|aT b
def gJ.ae_{d:X (Z×V)}{ao:gP}{c:Func}{l:hG}{f:X ik}{xs:X V}{g:b0}{t:V->b0->Prop}{T:Z}(v:KM P ao c l)(a7:c.ntmps=T)(aw:Q xs<=T)(ak:bo c.results=f)(q:∀m,m.G=d->m.n=T->fh P m l ⟨qj 0 xs,g⟩ (KL f t)):gJ P d ao xs g t:=by
 intro N j D w K R b I;refine calls_of_wp v.get v.body ?_;subst a7;let H:bm ⟨D,w,N,aa (·.1) g,d,c.ntmps⟩ ⟨qj 0 xs,g⟩ {tmps:=aT j++ty (c.ntmps-bB (aT j)) undef,defers:=[]} D N:=by
  refine⟨⟨b.le,⟨b.B.os,b.B.tape,b.B.output,b.B.size,b.B.block⟩,b.m0,b.m4,b.m5,b.own,b.kD,b.ma,b.gy,b.lj,b.kS,b.inj⟩,λS U ar=>?_,I,ap,p⟩;let⟨_,e⟩:=Qx xs 0 S U ar;let L:S<Q j:=by rw[K];exact(e3.1 e).1
  refine⟨j[S],?_,R S U _ e<|cm L⟩;rw[ajy o];simp
 refine Code.wp_mono ?_<|q _ p p _ D N H;rintro F z bE ⟨eO,k,⟨he,y,al,O⟩,s⟩;let⟨i,e,E,u⟩:=yz.run (P:=P) s al;let am:cI P (results c z.tmps) bE=cS (NS i) bE:=by
  rw[ag0,<-ajE (xs:=c.results),ak];let hm:∀(r:ik->Sem bt),(aT f).mapM r=Functor.map aT (f.mapM r):=λr=>av;simp only[Sem.run_bind];rw[hm];simp[Sem.run_map,E,Sem.run_pure]
  match i with|[]=>rfl|[bn]=>rfl|bn::au::x=>rfl
 let Y:bj k (cU y) (NS i):=by
  match i,y,e with|[],[],_=>exact .tuple [] [] p av|[bn],[U],_=>exact u 0 U bn p p|bn::au::x,U::C::M,e=>exact .tuple _ _ o u
 let J:Holds ⟨D,w,N,aa (·.1) g,d,0⟩ k eO.g bE:=by let A:=s.dt;exact⟨A.le,⟨A.B.os,A.B.tape,A.B.output,A.B.size,A.B.block⟩,A.m0,A.m4,A.m5,A.own,A.kD,A.ma,A.gy,A.lj,A.kS,A.inj⟩
 rcases he with rfl|rfl<;>exact⟨s.defers,_,am,_,_,_,k,p,O,Y,J⟩
inductive gv(dA:V->V->Prop):V->V->Prop
|refl (U:V):gv dA U U|base (U C:V) (q:dA U C):gv dA U C|agg (xs aJ:X V) (bQ:Q xs=Q aJ) (q:∀(E:Z)(U C:V),xs[E]?=W U->aJ[E]?=W C->gv dA U C):gv dA (.agg xs) (.agg aJ)|vec (T:Z) (y:gl) (xs aJ:X V) (bQ:Q xs=Q aJ) (q:∀(E:Z)(U C:V),xs[E]?=W U->aJ[E]?=W C->gv dA U C):gv dA (.vec T y xs) (.vec T y aJ)|tuple (xs aJ:X V) (bQ:Q xs=Q aJ) (q:∀(E:Z)(U C:V),xs[E]?=W U->aJ[E]?=W C->gv dA U C):gv dA (.tuple xs) (.tuple aJ)|func (fn:Fn) (xs aJ sF Ag:X V) (bQ:Q xs=Q aJ) (q:∀(E:Z)(U C:V),xs[E]?=W U->aJ[E]?=W C->gv dA U C) (aq_:Q sF=Q Ag) (h0:∀(E:Z)(U C:V),sF[E]?=W U->Ag[E]?=W C->gv dA U C):
 gv dA (.func fn xs sF) (.func fn aJ Ag)
inductive tE(id aP M:Z)(ia:X V):V->V->Prop|bO (off len:Z) (q:off+len<=Q ia):tE id aP M ia (.bO id aP off len) (.a M (ak len (aU off ia)))|own (E l:Z):E<Q ia->tE id aP M ia (.own id aP E l) (.ref M ia E l)
def y1(dA:V->V->Prop):Prop:=∀U C,dA U C->U.cells=[U]/\C.cells=[C]
theorem gv.cells{dA:V->V->Prop}(m:y1 dA){U C:V}(q:gv dA U C):Q U.cells=Q C.cells/\∀(d:Z) y R,U.cells[d]?=W y->C.cells[d]?=W R->gv dA y R:=by cases q with|refl U=>exact⟨p,λd y R c b=>by rw[c] at b;cases b;exact .refl _⟩|base U C q=>let⟨c,b⟩:=m _ _ q;exact⟨ap,λd y R j k=>by rw[c] at j;rw[b] at k;cases d<;>simp at j k;subst j;subst k;exact .base _ _ q⟩|agg e f g q=>trivial|vec T y e f g q=>refine⟨by show Q (y.cells++e)=Q (y.cells++f);grind,λd U C c b=>?_⟩;change (y.cells++e)[d]?=W U at c;change (y.cells++f)[d]?=W C at b;by_cases n:d<Q y.cells;rw[tt n] at c b;rw[c] at b;cases b;exact .refl _;grind|tuple e f g q=>exact⟨p,λi y R c b=>by cases i<;>simp[V.cells] at c b;subst c;subst b;exact .tuple e f g q⟩|func fn e f s t g q r l=>exact⟨p,λi y R c b=>by cases i<;>simp[V.cells] at c b;subst c;subst b;exact .func fn e f s t g q r l⟩
inductive cW(dA:V->V->Prop):b0->b0->Prop
|nil:cW dA [] []|same {L dD:b0} (H:Z×cD):cW dA L dD->cW dA (H::L) (H::dD)|h {L dD:b0} (E ax am:Z) (F:aw) (xs aJ:X V) (bQ:Q xs=Q aJ) (q:∀(cr:Z)(U C:V),xs[cr]?=W U->aJ[cr]?=W C->gv dA U C):
 cW dA L dD->cW dA ((E,.h ax am F xs)::L) ((E,.h ax am F aJ)::dD)|map {L dD:b0} (E ax clock:Z) (xs aJ:X (V×V×Z)) (bQ:Q xs=Q aJ) (q:∀(cr:Z)(U C:V×V×Z),xs[cr]?=W U->aJ[cr]?=W C->U.1=C.1/\U.2.2=C.2.2/\gv dA U.2.1 C.2.1):
 cW dA L dD->cW dA ((E,.map ax xs clock)::L) ((E,.map ax aJ clock)::dD)
def cW.Gb{dA:V->V->Prop}{L d:b0}{b c am:Z}{F:aw}{U C:V}(q:gv dA U C)(e:cW dA L d):cW dA ((b,.h c am F [U])::L) ((b,.h c am F [C])::d):=.h b c am F _ _ p (λi y R f g=>aY) e
def cW.names{dA:V->V->Prop}{L c:b0}(q:cW dA L c):aa (·.1) c=aa (·.1) L:=by
 induction q
 rfl
 next i _ b=>grind
 next d e am F f g _ _ _ b=>grind
 next d e clock f g _ _ _ b=>grind
theorem gv.g2{dA:V->V->Prop}{N:bh}(u:∀U C,dA U C->∀b,bj N U b->bj N C b){U C:V}(q:gv dA U C):∀b,bj N U b->bj N C b:=by
 induction q
 next U=>simp
 next U C q=>grind
 next n e k _ m=>intro b c;cases c with|agg _ d l j r=>refine .agg e d o j λi C bn g f=>?_;grind
 next T y n e k _ m=>intro b c;cases c with|vec _ _ _ d a7 l j r=>refine .vec T y e d a7 ap j λi C bn g f=>?_;grind
 next n e k _ m=>
  intro b c;cases c
  next _ d l r=>refine .tuple e d o λi C bn g f=>?_;grind
 next fn n e B t k _ l _ m A=>intro b c;cases c with|func _ _ _ s d v w x z=>refine .func fn e t s d o o (λi C bn g f=>?_) λi C bn g f=>?_;grind;grind
def cW.gy{dA:V->V->Prop}{N:bh}{D:bZ}(w:∀U C,dA U C->∀f,bj N U f->bj N C f)(y:y1 dA){L B:b0}(q:cW dA L B){A:Z}{E:cD}(c:(A,E)∈B):∃K,(A,K)∈L/\∀n,lz N D n K->lz N D n E:=by
 induction q
 cases c
 next ax _ z=>grind
 next au f am F k G m v _ z=>
  rcases fR.1 c with c|c;cases c;refine⟨_,kO,λn q=>?_⟩;let⟨s,t,l⟩:=q;exists s,t;rcases l with⟨l,e⟩|⟨R,H,e,u,O,aw,P,S,M⟩;grind;refine bp ⟨R,H,e,u,O,ap,P,λb I i=>?_,λb r I U i d=>?_⟩;let j:b<Q k:=by rw[m];exact(e3.1 i).1
  rw[<-((v b _ I (cm j) i).cells y).1];exact S b _<|cm j;let j:b<Q k:=by rw[m];exact(e3.1 i).1
  let⟨ak,al⟩:=(v b _ I (cm j) i).cells y;let x:r<k[b].cells.length:=by rw[ak];exact(e3.1 d).1
  let⟨f,ao,ar⟩:=M b r _ _ (cm j)<|cm x;exact⟨f,ao,(al r _ U (cm x) d).g2 w f ar⟩;grind
 next au f clock k G m v _ z=>
  rcases fR.1 c with c|c;cases c;refine⟨_,kO,λn q=>?_⟩;let⟨s,R,J,t,l,e,u⟩:=q;let get:∀(b:Z) C,G[b]?=W C->∃U,k[b]?=W U/\U.1=C.1/\U.2.2=C.2.2/\gv dA U.2.1 C.2.1:=λb C g=>by grind
  refine⟨s,R,J,t,l,⟨by rw[<-m];exact e.len,λb C F g he=>?_,λb C F g he=>?_,λb C F g he=>?_⟩,u⟩;let⟨U,d,T,_,_⟩:=get b C g;rw[<-T];exact e.key b U F d he;let⟨U,d,_,_,Y⟩:=get b C g;exact Y.g2 w _<|e.val b U F d he;let⟨U,d,_,X,_⟩:=get b C g;rw[<-X];exact e.born b U F d he;grind
def bm.ra{y:fS}{D:bZ}{N j:bh}(q:bm m O y D N){dA:V->V->Prop}{az Un:b0}{x:X (Z×V)}(w:N.le j)(c:Holds m j az D)(g:∀U C,dA U C->∀l,bj j U l->bj j C l)(k:y1 dA)(A:∀S C,cY S x=W C->∃U,cY S O.b=W U/\gv dA U C)(i:cW dA az Un):bm m ⟨x,Un⟩ y D j:=by refine⟨⟨c.le,c.B,c.m0,c.m4,c.m5,?_,c.kD,c.ma,?_,?_,?_,?_⟩,?_,λs U r=>(q.hv s U r).mono w,q.size,q.defers⟩;intro f t d;let⟨K,e,_⟩:=i.gy (D:=D) g k d;exact c.own f K e;intro f t d;let⟨K,e,u⟩:=i.gy (D:=D) g k d;let⟨n,v,I⟩:=c.gy f K e;simp_all;rw[i.names];exact c.lj;intro f t n R d;let⟨K,e,_⟩:=i.gy (D:=D) g k d;exact c.kS f K n R e;intro f t F J n G R d e;let⟨K,u,_⟩:=i.gy (D:=D) g k d;let⟨H,v,_⟩:=i.gy (D:=D) g k e;exact c.inj f K F H n G R u v;intro S C E;let⟨U,r,z⟩:=A S C E;let⟨l,d,e⟩:=q.b S U r;exact⟨l,d,z.g2 g l<|e.mono w⟩
def G2(e:bh)(L:Loc)(M:Z)(d:X V):Prop:=L.bK=ah/\d=[]\/∃(R:Z)(val:Z->Z->bt),L.bK=W R/\(∀(b:Z)(I:V),d[b]?=W I->Q I.cells=M)/\(∀(b c:Z)(I U:V),d[b]?=W I->I.cells[c]?=W U->e.I R (L.base+b*M+c)=W (val b c))/\∀(b c:Z)(I U:V),d[b]?=W I->I.cells[c]?=W U->bj e U (val b c)
def G2.mono{N f:bh}(i:N.le f){L:Loc}{M:Z}{g:X V}(q:G2 N L M g):G2 f L M g:=by rcases q with q|⟨R,val,j,k,l,m⟩;exact bl q;exact bp ⟨R,val,j,k,λe b I U c d=>i.I _ _ _<|l e b I U c d,λe b I U c d=>(m e b I U c d).mono i⟩
def tE.key{b:bh}{x y M:Z}{c:X V}{L:Loc}(t:b.m x=W L)(w:L.aP=y)(E:L.s=M)(n:G2 b L M c):∀U C,tE x y M c U C->∀f,bj b U f->bj b C f:=by
 intro U C D f v;cases D
 next e len O=>
  cases v with
  |bO _ _ _ _ I f d F A q=>
   rw[t] at d;cases d;rcases q (bG w) with⟨_,rfl,rfl⟩|⟨R,K,cap,l,rfl,S,B,N⟩;simpa using bj.slnil M;let hlen:Q (ak len<|aU e c)=len:=a2;rcases n with⟨a7,_⟩|⟨z,val,i,r,k,u⟩;simp_all;let P:∀base,len=0\/base=L.base+e*M->bj b (.a M<|ak len<|aU e c) (gj (W ⟨R,base,ah⟩) (Q<|ak len<|aU e c) cap):=by intro base J;refine .a M _ R _ cap (λH g=>val (e+H) g) o B ?_ ?_ ?_;grind;grind;grind
   grind
 next G g j=>cases v with|own _ _ _ _ I f d F A q=>rw[t] at d;cases d;obtain⟨R,l,rfl⟩:=q<|bG w;rcases n with⟨a7,_⟩|⟨z,val,i,r,k,u⟩;simp_all;rw[l] at i;cases i;rw[E];exact .ref M _ G g R _ val r k u
end
section
variable{P:ct}{m:db}
def BZ(K:a4):X Z:=(bo<|kw K.op).filterMap λ|.tmp S=>W S|_=>ah
def et(K:a4)(b:X (Z×V)):X (Z×V):=(BZ K).filterMap λS=>(cY S b).map λU=>(S,U)
def Jf{K:a4}{b:X (Z×V)}{S:Z}{U:V}(q:cY S (et K b)=W U):S∈BZ K/\cY S b=W U:=by
 unfold et at q;generalize BZ K=c at q⊢
 induction c
 trivial
 next bn x e=>
  cases d:cY bn b;simp_all
  next C=>grind
inductive Reach(ops:b4 a4):Z->Z->Prop|apf (E:Z) (K:a4) (F:Edge) (aBP:ops[E]?=W K) (he:F∈bo K.after) (bS:v2 .any F):Reach ops E F.on|trans {E cr A:Z}:Reach ops E cr->Reach ops cr A->Reach ops E A
def uU(ops:b4 a4)(i:Z->Y):Prop:=∀b K,i b->ops[b]?=W K->∀F∈bo K.after,v2 .any F->i F.on
def uU.reach{ops:b4 a4}{i:Z->Y}(q:uU ops i){b c:Z}(g:Reach ops b c)(e:i b):i c:=by
 induction g
 next b K F f he d=>exact q b K e f F he d
 next _ _ j k=>simp_all
def looks(ops:b4 a4)(K:a4):X Z:=BZ K++(match K.guard with|W (s,_)=>((ops[s]?).bind (·.dst)).toList|ah=>[])
def Ev(ops:b4 a4):Prop:=∀c d b e S,ops[c]?=W b->ops[d]?=W e->d<c->e.dst=W S/\(S∈looks ops b\/b.dst=W S)\/b.dst=W S/\S∈looks ops e->Reach ops c d
def Down(ops:b4 a4):Prop:=∀b K,ops[b]?=W K->∀F∈bo K.after,v2 .any F->F.on<b
def ao5{T:Z}{L:X a4}(q:pL T L){c:Z}{K:a4}(b:L[c]?=W K)(S:Z)(bW:K.dst=W S):S<T:=by have:=m9.1 q K<|eY b;simp_all
def im(c:b4 Y):Z->Y:=λb=>c.getD b ad
def TJ(c:b4 Y){E:Z}(d:E<bB c)b:im (qX c E af) b=if b=E then af else im c b:=by simp[im,B6];grind
def p6(T:Z)(c:b4 Y):X Z:=(bJ T).filter λb=>!im c b
def DG:X a4->X (X Z)->X (X Z)|[],b=>b|K::L,b=>DG L<|b++[((bo K.after).filter<|v2 .any).flatMap λF=>F.on::z b F.on []]
def tb(L:X a4):Y:=let f:=DG L []
 L.zipIdx.all λ(b,c)=>((bo b.after).all λF=>!v2 .any F||F.on<c)&&
  (ak c L).zipIdx.all λ(d,e)=>(match d.dst with|W S=>!(nb (looks (aT L) b) S||b.dst==W S)|ah=>af)&&(match b.dst with|W S=>!nb (looks (aT L) d) S|ah=>af)||nb (z f c []) e
def Od{ops:b4 a4}:∀L e,(∀b K,L[b]?=W K->ops[Q e+b]?=W K)->(∀d b,b∈z e d []->Reach ops d b)->∀d b,b∈z (DG L e) d []->Reach ops d b
|[],e,_,q=>q|K::L,e,f,q=>by
 refine Od L _ (λb l m=>?_) λd b c=>?_;have:=f (b+1) l cc;grind;rw[dm,oQ] at c;split at c;simp_all;have j:d=Q e:=by rcases fF (Q e) d with g|g;grind;omega
 subst j;simp only[oT,PB,xr,Cb,mL] at c;let⟨F,⟨he,i⟩,c⟩:=c;have:=f 0 K p;have k:Reach ops _ _:=.apf _ K F o he i;rcases fR.1 c with rfl|c;omega;exact k.trans<|q _ _ c
def M0{L:X a4}(q:tb L):Ev (aT L)/\Down (aT L):=by
 let t:=Od (ops:=aT L) L [] (λe K m=>ap) av;let i:=m9.1 q;constructor;intro d e n r S j m w b;let l:L[d]?=W n:=by simpa using j
 let v:L[e]?=W r:=by simpa using m
 let s:(n,d)∈L.zipIdx:=by rw[List.mem_zipIdx_iff_getElem?];exact l
 let f:=i _ s;simp only[j_] at f;let c:=m9.1 f.2 (r,e) (by grind);simp[p9,j_] at c;rcases c with⟨c,k⟩|c;exfalso;rcases b with⟨g,b⟩|⟨g,b⟩;rw[g] at c;rcases b with b|b;simp[b] at c;simp[b] at c;rw[g] at k;simp[b] at k;exact t d e (by simpa using c);intro d K j F he u;let l:L[d]?=W K:=by simpa using j
 let f:=i (K,d) aY;grind
end
abbrev tL:=X<|Z×Z×cD
def gI:b0->tL->b0|az,[]=>az|az,b::bm=>gI (aK az b.1 b.2) bm
theorem DZ:∀bm az,Q (gI az bm)=Q az|[],_=>a3|b::bm,az=>by rw[gI,DZ bm];simp
theorem DY{A:Z}:∀{bm:tL}{az:b0},A∉aa (·.1) bm->(gI az bm)[A]?=az[A]?|[],_,_=>a3|c::bm,az,q=>by rw[gI,DY λb=>q ap,rO,ab λF=>q (by simp[F])]
theorem Pa{A:Z}:∀{bm:tL}{az b:b0},az[A]?=b[A]?->Q az=Q b->(gI az bm)[A]?=(gI b bm)[A]?|[],_,_,q,_=>cc|d::bm,az,b,q,c=>by rw[gI,gI];refine Pa ?_ ap;grind
def JO:∀{bm:tL}{az:b0}{A:Z}{U:Z×cD},(gI az bm)[A]?=W U->A∉aa (·.1) bm/\az[A]?=W U\/(A,U)∈bm|[],az,A,U,q=>bl ⟨av,cc⟩|d::bm,az,A,U,q=>by rw[gI] at q;rcases JO q with⟨b,c⟩|b;grind;simp_all
section
variable{P:ct}{m:db}
def Holds.sub{N:bh}{g i:b0}{D:bZ}(q:Holds m N g D)(e:∀r∈i,r∈g)(a7:eb (aa (·.1) i)):Holds m N i D:=⟨q.le,q.B,q.m0,q.m4,q.m5,λc d b=>q.own c d<|e _ b,q.kD,q.ma,λc d b=>q.gy c d<|e _ b,a7,λc d f R b=>q.kS c d f R<|e _ b,λc d k n f l R b j=>q.inj c d k n f l R (e _ b)<|e _ j⟩
def fz.w{K:a4}{E:X (Z×V)}{x:V}{g:b0}(l:tL)(d:X (Z×(Z×cD)×Z×cD))(aw:eb (aa (·.1) l++aa (·.1) d))(ax:∀c∈l,g[c.1]?=W c.2)(H:∀c∈d,g[c.1]?=W c.2.1)(ao:∀c∈d,c.2.2.1=c.2.1.1)(q:∀k,fz P m K ⟨E,k++(aa (·.2) l++aa (·.2.1) d)⟩ x (k++(aa (·.2) l++aa (·.2.2) d))):fz P m K ⟨E,g⟩ x (gI g (d.map λc=>(c.1,c.2.2))):=by
 intro y D N r J L S;have a7:=r.dt.lj;let j:=aa (·.2) l++aa (·.2.1) d;let k:=g.filter λe=>!nb (aa (·.1) j) e.1;have G:∀e∈j,∃A∈aa (·.1) l++aa (·.1) d,g[A]?=W e:=by intro e bw;rcases eX.1 bw with bw|bw;grind;obtain⟨c,f,rfl⟩:=cV.1 bw;exact⟨c.1,eX.2<|bp<|cV.2 ⟨c,f,p⟩,H c f⟩
 have Q:eb (aa (·.1) j):=by
  have aC:∀(n:X (Z×Z×cD)),eb (aa (·.1) n)->(∀c∈n,g[c.1]?=W c.2)->eb (aa (·.1) (aa (·.2) n)):=by
   intro n
   induction n
   simp
   next c n aB=>intro h1 i;simp only[iO,xj] at h1⊢;refine⟨λak=>?_,aB h1.2 λU z=>i U (by simp[z])⟩;let⟨C,t,B⟩:=cV.1 ak;obtain⟨am,aH,rfl⟩:=cV.1 t;have:=Dx a7 (i am (by simp[aH])) (i c av) B;grind
  have:=aC (l++d.map λc=>(c.1,c.2.1)) (by simpa[dn,gh,kL] using aw) (by grind);simpa[j,dn,gh,kL] using this
 have az:eb (aa (·.1) k):=a7.sublist<|List.filter_sublist.map _;have Y:eb (aa (·.1) (k++j)):=by rw[dn,sI];refine⟨az,Q,λU z C t F=>?_⟩;obtain⟨e,bw,rfl⟩:=cV.1 z;have:=(mL.1 bw).2;rw[F] at this;simp only[Ai,List.contains_eq_mem,sK] at this;exact this t
 have au:∀e∈k++j,e∈g:=by intro e bw;rcases eX.1 bw with bw|bw;exact(mL.1 bw).1;let⟨A,_,s⟩:=G e bw;exact eY s
 have T:bm m ⟨E,k++j⟩ y D N:=⟨r.dt.sub au Y,r.b,r.hv,r.size,r.defers⟩;refine q k y D N T J L λaD bE I R ay al=>S aD bE I R ay<|al.sub ?_ ?_;intro e bw;let⟨A,s⟩:=ob.1 bw;rcases JO s with⟨h1,i⟩|h1;by_cases ap:e.1∈aa (·.1) j;let⟨C,t,B⟩:=cV.1 ap;let⟨aE,wI,v⟩:=G C t;have ar:=Dx a7 v i B;subst ar;have aA:C=e:=by rw[v] at i;exact oc i
 subst aA;rcases eX.1 wI with wI|wI;refine eX.2<|bp<|eX.2<|bl ?_;obtain⟨c,f,rfl⟩:=cV.1 wI;have:=ax c f;rw[v] at this;exact cV.2 ⟨c,f,bG<|oc this⟩;exact b9 (by simpa[gh,kL] using wI) h1;grind;let⟨c,f,u⟩:=cV.1 h1;refine eX.2<|bp<|eX.2<|bp<|cV.2 ⟨c,f,?_⟩;exact ep yX u;have:aa (·.1) (gI g (d.map λc=>(c.1,c.2.2)))=aa (·.1) g:=by
  refine jI λA=>?_;rw[c4,c4];have:=DZ (d.map λc=>(c.1,c.2.2)) g;cases s:(gI g<|d.map λc=>(c.1,c.2.2))[A]?;have:=Wp.1 s;rw[yO o]
  next U=>rcases JO s with⟨_,i⟩|h1;rw[i];let⟨c,f,u⟩:=cV.1 h1;have M:c.1=A:=ep Prod.fst u;have O:c.2.2=U:=ep yX u;rw[<-M,H c f];simp[<-O,ao c f]
 rw[this];exact a7
abbrev jw:=V×tL
abbrev eD:=X Z×X Z
def y6(P:ct)(m:db)(ops:b4 a4)(K:a4)(c:eD)(O:a9)(I:jw):Prop:=O.guard ops K=W ad/\I=(.tuple [],[])\/O.guard ops K=W af/\(∀d∈I.2,d.1∈c.2)/\∀g,Q g=Q O.g->(∀A,A∈c.1\/A∈c.2->g[A]?=O.g[A]?)->fz P m K ⟨et K O.b,g⟩ I.1 (gI g I.2)
def a9.tl(O:a9)(S:da Z)(I:jw):a9:=({O with g:=gI O.g I.2}:a9).put S I.1
def a9.awR(O:a9)S I:(O.tl S I).b=(O.put S I.1).b:=by cases S<;>rfl
theorem a9.yr(O:a9)S I:(O.tl S I).g=gI O.g I.2:=by cases S<;>rfl
theorem M3(O:a9)S I c:(O.tl (W S) I).b.lookup c=if c=S then W I.1 else cY c O.b:=by rw[a9.awR,M2]
def sT(P:ct)(m:db)(ops:b4 a4):X a4->X eD->a9->X jw->Prop|[],[],_,b=>b=[]|K::L,ao::bv,O,x::b=>y6 P m ops K ao O x/\sT P m ops L bv (O.tl K.dst x) b|_,_,_,_=>h7
def cN:X a4->X jw->(Z->Y)->Z->a9->a9|K::L,x::c,i,b,O=>cN L c i (b+1) (if i b then O.tl K.dst x else O)|_,_,_,_,O=>O
def I6:∀L b(i:Z->Y) c O,(cN L b i c O).g.length=Q O.g|[],_,_,_,_=>p|_::_,[],_,_,_=>p|K::L,x::b,i,c,O=>by rw[cN,I6 L b];grind[a9.yr,DZ]
def U0{A:Z}:∀L d(i e:Z->Y) c O eO,(∀b I,d[b]?=W I->A∈aa (·.1) I.2->b<Q L->i (c+b)=e (c+b))->O.g[A]?=eO.g[A]?->Q O.g=Q eO.g->(cN L d i c O).g[A]?=(cN L d e c eO).g[A]?|[],_,_,_,_,_,_,_,q,_=>q|_::_,[],_,_,_,_,_,_,q,_=>q|K::L,x::d,i,e,c,O,eO,q,r,n=>by apply U0 L d i e _ _ _ (λb I l f m=>by have:=q (b+1) I cc f ap;grind);by_cases j:A∈aa (·.1) x.2;let k:=q 0 x p j av;grind[a9.yr,Pa];grind[a9.yr,DY];grind[a9.yr,DZ]
def UZ{A:Z}:∀L c(i:Z->Y) e O,(∀b I,c[b]?=W I->A∈aa (·.1) I.2->i (e+b)=ad)->(cN L c i e O).g[A]?=O.g[A]?|[],_,_,_,_,_=>p|_::_,[],_,_,_,_=>p|K::L,x::c,i,e,O,q=>by rw[cN,UZ L c i _ _ (λb I f d=>by have:=q (b+1) I cc d;grind)];split;rw[a9.yr,DY];intro d;have:=q 0 x p d;simp_all;rfl
def agi{A:Z}:∀L c(i f:Z->Y) R O eO e I,e<Q L->c[e]?=W I->i (R+e)=ad->(∀b,f b=if b=R+e then af else i b)->(∀b d,e<b->c[b]?=W d->A∈aa (·.1) I.2->A∈aa (·.1) d.2->i (R+b)=ad)->O.g[A]?=eO.g[A]?->Q O.g=Q eO.g->(cN L c f R O).g[A]?=(gI (cN L c i R eO).g I.2)[A]?
|[],_,_,_,_,_,_,_,_,q,_,_,_,_,_,_=>cc|_::_,[],_,_,_,_,_,_,_,_,q,_,_,_,_,_=>cc|K::L,x::c,i,f,R,O,eO,0,I,_,m,hm,r,l,v,hlen=>by
 simp at m;subst m;rw[cN,cN,uM] at*;rw[r R,ae p,hm];simp[KA,Wf,Kz];by_cases k:A∈aa (·.1) x.2;rw[UZ L c f (R+1) _ (λb d n j=>by have:=l (b+1) d o cc k j;grind),a9.yr];apply Pa;rw[UZ L c i (R+1) _ (λb d n j=>by have:=l (b+1) d o cc k j;grind)];omega
 (simp[I6];omega)
 rw[DY k];apply U0 L c _ _ _ _ _ λb d n j u=>oU;grind[a9.yr,DY]
 (simp[a9.yr,DZ];omega)|K::L,x::c,i,f,R,O,eO,e+1,I,s,m,hm,r,l,v,hlen=>by
 rw[cN,cN];let t:f R=i R:=by rw[r,ab o]
 rw[t];apply agi L c i f (R+1) _ _ e I (by simpa using s) cc aY (λb=>aY) (λb d u n k j=>by have:=l (b+1) d o cc k j;grind);grind[a9.yr,Pa];grind[a9.yr,DZ]
def agj:∀L e(i:Z->Y) d O S,(∀c K,L[c]?=W K->i (d+c)->K.dst≠W S)->(cN L e i d O).b.lookup S=cY S O.b
|[],_,_,_,_,_,_=>p|_::_,[],_,_,_,_,_=>p|K::L,x::e,i,d,O,S,q=>by
 rw[cN,agj L e i _ _ S λc g k hm=>q (c+1) g cc aY];split;let f:=q 0 K p o;cases j:K.dst;rfl
 next bn=>rw[M3,ab λF=>f ap]
 rfl
def Oh:∀L g(i f:Z->Y) c O eO S,(∀d K,L[d]?=W K->K.dst=W S->i (c+d)=f (c+d))->cY S O.b=cY S eO.b->(cN L g i c O).b.lookup S=(cN L g f c eO).b.lookup S
|[],_,_,_,_,_,_,_,_,q=>q|_::_,[],_,_,_,_,_,_,_,q=>q|K::L,x::g,i,f,c,O,eO,S,q,r=>by
 apply Oh L g i f _ _ _ S (λd k n e=>by have:=q (d+1) k cc e;grind);by_cases e:K.dst=W S;let l:=q 0 K p e;grind[M3];let j:∀(R:Y)(M:a9),(if R then M.tl K.dst x else M).b.lookup S=cY S M.b:=by
  intro R M;split;cases m:K.dst;rfl
  next bn=>rw[M3,ab λF=>e ap]
  rfl
 rw[j,j];omega
def agk:∀(L:X a4) e(i:Z->Y) A O(d S:Z) K x,L[d]?=W K->e[d]?=W x->K.dst=W S->i (A+d)->(∀c f,d<c->L[c]?=W f->f.dst=W S->i (A+c)=ad)->(cN L e i A O).b.lookup S=W x.1
|[],_,_,_,_,_,_,_,_,q,_,_,_,_=>cc|_::_,[],_,_,_,_,_,_,_,_,q,_,_,_=>cc|f::L,r::e,i,A,O,0,S,K,x,k,l,m,hm,j=>by
 simp at k l;rw[cN,agj L e i _ _ S (λc bn n t g=>by have:=j (c+1) bn o cc g;grind)];simp_all[ae,M3]|f::L,r::e,i,A,O,d+1,S,K,x,k,l,m,hm,j=>by exact agk L e i _ _ d S K x cc cc m aY (λc bn s n g=>by have:=j (c+1) bn o cc g;grind)
def v_(ops:b4 a4)(bv:X eD):Prop:=∀d e(b c:eD) A,e<d->d<bB ops->bv[d]?=W b->bv[e]?=W c->A∈b.2/\(A∈c.1\/A∈c.2)\/A∈c.2/\(A∈b.1\/A∈b.2)->Reach ops d e
def M9(y R:X Z):Y:=y.any λU=>nb R U
def uj(L:X a4)(bv:X eD):Y:=let f:=DG L []
 bv.zipIdx.all λ(b,d)=>d>=Q L||(ak d bv).zipIdx.all λ(c,e)=>!(M9 b.2 c.1||M9 b.2 c.2||M9 c.2 b.1)||nb (z f d []) e
def Tv{L:X a4}{bv:X eD}(q:uj L bv):v_ (aT L) bv:=by
 intro d c e f A r j k l i;let m:=Od (ops:=aT L) L [] (λc K s=>ap) λd c q=>cc;let b:=m9.1 q (e,d) (by grind);let n:=by simpa using j
 simp only[p9,yS] at b;rcases b with b|b;omega;let g:=m9.1 b (f,c) (by grind);simp at g;grind[M9,List.any_eq_true]
def cg(P:ct)(m:db)(ops:b4 a4)(L:X a4)(bv:X eD)(O:a9)(al:c_->a9->Prop):Prop:=∃b,sT P m ops L bv O b/\al gA (cN L b (λ_=>af) 0 O)
theorem F7:∀L b c d O,cN L b (λ_=>af) c O=cN L b (λ_=>af) d O|[],_,_,_,_=>p|_::_,[],_,_,_=>p|K::L,x::b,c,d,O=>by exact F7 L b _ _ _
theorem cg.nil{ops:b4 a4}{O:a9}{al:c_->a9->Prop}(q:al gA O):cg P m ops [] [] O al:=⟨[],p,q⟩
def cg.ow{ops:b4 a4}{K:a4}{L:X a4}{eh:eD}{bv:X eD}{O:a9}{al:c_->a9->Prop}{x:V}bn(e:O.guard ops K=W af)(i:∀j∈bn,j.1∈eh.2)(f:∀g,Q g=Q O.g->(∀A,A∈eh.1\/A∈eh.2->g[A]?=O.g[A]?)->fz P m K ⟨et K O.b,g⟩ x (gI g bn))(q:cg P m ops L bv (({O with g:=gI O.g bn}:a9).put K.dst x) al):cg P m ops (K::L) (eh::bv) O al:=by let⟨k,c,d⟩:=q;exact⟨(x,bn)::k,⟨bp ⟨e,i,f⟩,c⟩,by rw[cN,F7 _ _ _ 0,ae p];exact d⟩
def cg.skip{ops:b4 a4}{K:a4}{L:X a4}{b:eD}{bv:X eD}{O:a9}{al:c_->a9->Prop}(d:O.guard ops K=W ad)(q:cg P m ops L bv (O.put K.dst (.tuple [])) al):cg P m ops (K::L) (b::bv) O al:=by
 let⟨e,f,c⟩:=q;let he:O.tl K.dst (.tuple [],[])=O.put K.dst (.tuple []):=by cases K.dst<;>rfl
 exact⟨(.tuple [],[])::e,⟨bl ⟨d,p⟩,cc⟩,by rw[cN,F7 _ _ _ 0,ae p,he];exact c⟩
end
section
variable{P:ct}{m:db}
structure G5(P:ct)(m:db)(L:X a4)(bv:X eD)(O:a9)(de:X jw)(skip:Z->Y):Prop where
 len:Q de<=Q L
 step:∀E K x,L[E]?=W K->de[E]?=W x->skip E=ad->∃ao,bv[E]?=W ao/\y6 P m (aT L) K ao (cN L de (λcr=>aL<|cr<E) 0 O) x
 ow:∀(E:Z)(I:jw),de[E]?=W I->∀A∈aa (·.1) I.2,∃ao:eD,bv[E]?=W ao/\A∈ao.2
def agh{L:X a4}{bv:X eD}{O:a9}{e:X jw}(am:pL m.n L)(aB:Ev (aT L))(aA:v_ (aT L) bv)(z:∀(c:Z) I,e[c]?=W I->∀A∈aa (·.1) I.2,∃ao,bv[c]?=W ao/\A∈ao.2)(hlen:Q e<=Q L){i j:Z->Y}{c:Z}(r:c<Q L)(aJ:i c=ad)(C:∀d,j d=if d=c then af else i d)(T:uU (aT L) i){x:jw}(s:e[c]?=W x){y:fS}{D:bZ}{N:bh}(R:bm m (cN L e i 0 O) y D N){G:bt}{bE:bZ}{k:bh}(P:N.le k)(aH:bj k x.1 G)(q:Holds m k (gI (cN L e i 0 O).g x.2) bE):bm m (cN L e j 0 O) (y.put L[c].dst G) bE k:=by
 have B:L[c]?=W L[c]:=cm r;have aD:(aT L)[c]?=W L[c]:=by simp[r]
 generalize L[c]=F at*;have u:∀d,Reach (aT L) d c->i d=ad:=by intro d aG;cases aC:i d;rfl;have:=T.reach aG aC;simp_all
 have aE:(cN L e j 0 O).g=gI (cN L e i 0 O).g x.2:=by
  refine jI λA=>?_;refine agi L e i j 0 O O c x r s a2 (λd=>ap) (λd H f w ay az=>?_) p p;rw[kZ];let⟨M,aw,ax⟩:=z d H w A az;let⟨J,ar,au⟩:=z c x s A ay;have:d<Q L:=by have:=(e3.1 w).1;omega
  exact u d<|aA d c M J A f o aw ar<|bl ⟨ax,bp au⟩
 rw[<-aE] at q;have l:=R.put (K:=(cN L e j 0 O).g) P q aH<|ao5 am B;refine⟨q,λS U t=>l.b S U ?_,l.hv,l.size,l.defers⟩;cases v:F.dst;rw[<-t];refine Oh L e _ _ 0 O O S (λd K f ak=>?_) p;grind
 next bn=>rw[M2];by_cases E:S=bn;subst E;rw[ae p,<-t];symm;refine agk L e _ 0 O c S F x B s v (by rw[kZ,C];simp) λd aI f aF al=>?_;rw[kZ,C,ab o];exact u d<|aB d c aI _ S (by simpa using aF) aD f<|bl ⟨v,bp al⟩;rw[ab E,<-t];refine Oh L e _ _ 0 O O S (λd K f ak=>?_) p;grind
def agl{L:X a4}{bv:X eD}{O:a9}{de:X jw}(x:Ev (aT L))(w:v_ (aT L) bv)(D:∀(d:Z) I,de[d]?=W I->∀A∈aa (·.1) I.2,∃ao,bv[d]?=W ao/\A∈ao.2){i z:Z->Y}{d:Z}(E:d<Q L)(F:i d=ad)(G:∀c,z c=if c=d then af else i c)(B:uU (aT L) i)(C:uU (aT L) z){ao:eD}(r:bv[d]?=W ao):(∀S∈looks (aT L) L[d],(cN L de i 0 O).b.lookup S=(cN L de (λc=>aL<|c<d) 0 O).b.lookup S)/\∀A,A∈ao.1\/A∈ao.2->(cN L de i 0 O).g[A]?=(cN L de (λc=>aL<|c<d) 0 O).g[A]?:=by
 let y:(aT L)[d]?=W L[d]:=by simp[E]
 let n:∀c,Reach (aT L) d c->c<d->i c:=by intro c l u;have:=C.reach l ap;rw[G,ab o] at this;exact this
 let m:∀c,Reach (aT L) c d->i c=ad:=by intro c l;cases H:i c;rfl;have:=B.reach l H;simp_all
 constructor;intro S bW;refine Oh L de _ _ 0 O O S (λc K u f=>?_) p;rw[kZ];let k:(aT L)[c]?=W K:=by simpa using u
 rcases GO c d with e|rfl|j;rw[n c (x d c _ _ S y k e<|bl ⟨f,bl bW⟩) e];simp[e];rw[F];simp;rw[m c<|x c d _ _ S k y j<|bp ⟨f,bW⟩];simp;omega;intro A v;refine U0 L de _ _ 0 O O (λc I f J k=>?_) p p;rw[kZ];let⟨q,s,t⟩:=D c I f A J;rcases GO c d with e|rfl|j;rw[n c (w d c ao q A e o r s<|bp ⟨t,v⟩) e];simp[e];simp_all;rw[m c<|w c d q ao A j o s r<|bl ⟨t,v⟩];simp;omega
def Sn{ops:b4 a4}{c:a4}{M d:a9}{R:Y}(e:∀S∈looks ops c,cY S d.b=cY S M.b):M.guard ops c=W R->d.guard ops c=W R:=by grind[a9.guard,looks]
def agK{L:X a4}{bv:X eD}{O:a9}{f:X jw}{skip:Z->Y}{F:c_->fS->bZ->Prop}(R:pL m.n L)(A:Ev (aT L))(z:v_ (aT L) bv)(k:G5 P m L bv O f skip){i r:Z->Y}{c:Z}(q:c<Q L)(ak:c<Q f)(ar:skip c=ad)(w:i c=ad)(C:∀j,r j=if j=c then af else i j)(v:uU (aT L) i)(M:uU (aT L) r){y:fS}{D:bZ}{N:bh}(d:bm m (cN L f i 0 O) y D N){t:fS->bZ->Prop}(J:∀u bE e,bm m (cN L f r 0 O) u bE e->t u bE):wpOp P (aT L) F c t y D:=by
 have E:=cm ak;let⟨ao,T,au⟩:=k.step c _ _ (cm q) E ar;have al:(aT L)[c]?=W L[c]:=av;let⟨B,am⟩:=agl (O:=O) A z k.ow q w C v M T;have ap:∀s bE e,N.le e->bj e _ s->Holds m e _ bE->bm m _ _ bE e:=λs bE e G H I=>agh R A z k.ow k.len q w C v E d G H I;generalize f[c]=x at*;generalize L[c]=ax at*;unfold wpOp;rw[al];dsimp;rcases au with⟨l,rfl⟩|⟨l,_,qu⟩;rw[ab (by rw[d.wanted<|Sn B l];simp)];exact J _ _ N<|ap _ D N (bh.le.refl N) (bj.tuple [] [] p av) d.dt;rw[ae<|d.wanted<|Sn B l];left;have K:bm m ⟨et ax (cN L f (λj=>aL<|j<c) 0 O).b,(cN L f i 0 O).g⟩ y D N:=by refine⟨d.dt,λS U aw=>?_,d.hv,d.size,d.defers⟩;cases Jf aw;exact d.b S U (by grind[looks])
 refine qu _ (by simp[I6]) am y D N K _ _ λs bE e ay aA az=>?_;grind
def axs{L:X a4}{bv:X eD}{O:a9}{de:X jw}{aw:c_->fS->bZ->Prop}(aG:pL m.n L)(ak:Ev (aT L)){ao:eD}(T:v_ (aT L) (bv++[ao]))(aQ:∀(k:Z) I,de[k]?=W I->∀A∈aa (·.1) I.2,∃ao,bv[k]?=W ao/\A∈ao.2){i e:Z->Y}{K:a4}(hlen:Q bv=Q de)(w:Q de<Q L)(aJ:L[(Q de)]?=W K)(l:∀c,Q de<=c->i c=ad)(al:∀c,e c=if c=Q de then af else i c)(H:uU (aT L) i)(aF:uU (aT L) e){t:jw->Prop}(aB:∀I,t I->∀E∈I.2,E.1∈ao.2)(aH:(cN L de (λ_=>af) 0 O).guard (aT L) K=W af)(aM:∀g,Q g=(cN L de (λ_=>af) 0 O).g.length->(∀A,A∈ao.1\/A∈ao.2->g[A]?=(cN L de (λ_=>af) 0 O).g[A]?)->tD P m K ⟨et K (cN L de (λ_=>af) 0 O).b,g⟩ (λx az=>∃I,t I/\x=I.1/\az=gI g I.2)){y:fS}{D:bZ}{N:bh}(f:bm m (cN L de i 0 O) y D N){F:fS->bZ->Prop}(aD:∀I G bE d,t I->bm m (cN L (de++[I]) e 0 O) G bE d->F G bE):wpOp P (aT L) aw (Q de) F y D:=by
 let am:(aT L)[(Q de)]?=W L[(Q de)]:=by simp[w]
 let aK:L[(Q de)]=K:=oc<|(cm w).symm.trans aJ;let J:∀C,(∀E∈C.2,E.1∈ao.2)->∀(k:Z) I,(de++[C])[k]?=W I->∀A∈aa (·.1) I.2,∃s,(bv++[ao])[k]?=W s/\A∈s.2:=λC aP k I j A aR=>by grind
 let short:∀L de U(i:Z->Y) R M,(∀c,R+Q de<=c->i c=ad)->cN L (de++U) i R M=cN L de i R M:=by
  intro L
  induction L
  intros;rfl
  next au L B=>
   intro de U i R M hm;cases de;let none:∀L U R M,(∀c,R<=c->i c=ad)->cN L U i R M=M:=by
    intro L
    induction L
    intros;rfl
    next au L B=>
     intro U R M hm;cases U;rfl
     next x U=>rw[cN,hm R<|bz _,ab av];exact B U (R+1) M λc q=>hm c o
   grind
   next x de=>grind[cN,List.length_cons]
 let ax:∀U,cN L (de++U) (λc=>aL<|c<Q de) 0 O=cN L de (λ_=>af) 0 O:=λU=>by
  rw[short L de U _ 0 O λc q=>a2];let ay:∀L de(i e:Z->Y) R M,(∀c,R<=c->c<R+Q de->i c=e c)->cN L de i R M=cN L de e R M:=by
   intro L
   induction L
   intros;rfl
   next au L B=>
    intro de i e R M hm;cases de;rfl
    next x de=>rw[cN,cN,hm R (bz _) (by rw[kN];omega)];exact B de i e (R+1) _ λc u v=>hm c o (by rw[kN];omega)
  exact ay L de _ _ 0 O λc _ q=>a2
 let⟨z,ap⟩:=agl (de:=de++[(.tuple [],[])]) (O:=O) ak T (J _ av) w (l _<|bz _) al H aF (ao:=ao) (by rw[<-hlen,xi<|bz _,oT];rfl);rw[ax,short L de _ i 0 O λc q=>l c o] at z ap;let ar:∀I,t I->∀r bE d,N.le d->bj d I.1 r->Holds m d (gI (cN L de i 0 O).g I.2) bE->bm m (cN L (de++[I]) e 0 O) (y.put L[(Q de)].dst r) bE d:=λI j r bE d u v aA=>
  agh aG ak T (J I<|aB I j) (by rw[cX,p_];omega) w (l _<|bz _) al H (x:=I) (by rw[xi<|bz _,oT];rfl) (by rw[short L de _ i 0 O λc q=>l c o];exact f) u v (by rw[short L de _ i 0 O λc q=>l c o];exact aA)
 rw[aK] at am z ar;unfold wpOp;rw[am];dsimp;rw[ae<|f.wanted<|Sn z aH];left;let aE:bm m ⟨et K (cN L de (λ_=>af) 0 O).b,(cN L de i 0 O).g⟩ y D N:=by refine⟨f.dt,λS U aO=>?_,f.hv,f.size,f.defers⟩;let⟨u,v⟩:=Jf aO;exact f.b S U (by rw[z S (by simp[looks,u])];exact v)
 refine aM (cN L de i 0 O).g (by rw[I6,I6]) ap y D N aE _ _ λx az r bE d j aC aN aI=>?_;obtain⟨I,j,rfl,rfl⟩:=j;exact aD I _ _ d j<|ar I j r bE d aC aN aI
inductive o0(P:ct)(m:db)(L:X a4)(O:a9)(al:a9->Prop):X jw->X eD->Prop|leaf {de:X jw} {bv:X eD}:Q de=Q L->v_ (aT L) bv->al (cN L de (λ_=>af) 0 O)->o0 P m L O al de bv|step {de:X jw} {bv:X eD} {K:a4} {ao:eD} {x:jw}:L[(Q de)]?=W K->y6 P m (aT L) K ao (cN L de (λ_=>af) 0 O) x->o0 P m L O al (de++[x]) (bv++[ao])->o0 P m L O al de bv|many {de:X jw} {bv:X eD} {K:a4} {ao:eD} {uW:jw->Prop}:L[(Q de)]?=W K->v_ (aT L) (bv++[ao])->(∀cr,Q de<cr->cr<Q L->Reach (aT L) cr (Q de))->(∀I,uW I->∀u∈I.2,u.1∈ao.2)->(cN L de (λ_=>af) 0 O).guard (aT L) K=W af->(∀g,Q g=(cN L de (λ_=>af) 0 O).g.length->(∀A,A∈ao.1\/A∈ao.2->g[A]?=(cN L de (λ_=>af) 0 O).g[A]?)->tD P m K ⟨et K (cN L de (λ_=>af) 0 O).b,g⟩ (λx az=>∃I,uW I/\x=I.1/\az=gI g I.2))->(∀I,uW I->o0 P m L O al (de++[I]) (bv++[ao]))->o0 P m L O al de bv
def XL{L:X a4}(E:Down (aT L)){l:c_->fS->bZ->Prop}{g:Z}{b:b4 Y}{y:fS}{D:bZ}(ap:bB b=Q L)(C:Q (p6 (Q L) b)=g+1)(x:∀d<Q L,im b d=ad->(∀c,im (qX b d af) c=if c=d then af else im b c)->(uU (aT L) (im b)->uU (aT L) (im (qX b d af)))->Q (p6 (Q L) (qX b d af))=g->wpOp P (aT L) l d (wpAny P .any (aT L) l g (qX b d af)) y D):wpAny P .any (aT L) l (g+1) b y D:=by
 refine⟨λak=>?_,λd j=>?_⟩;exfalso;let H:∃c<Q L,im b c=ad:=by
  cases I:p6 (Q L) b;simp_all
  next U aw=>
   have:U∈p6 (Q L) b:=by rw[I];simp
   grind[p6]
 let⟨c,f,i⟩:=H;let au:∀T c,c<T->c<Q L->im b c=ad->h7:=by
  intro T
  induction T
  omega
  next T ar=>
   intro c am f i;let v:c∉tA .any (aT L) b:=by rw[ak];simp
   rw[tA,mL] at v;apply v;exists by simp_all
   let A:c<bB b:=o;let N:b.getD c af=ad:=by simp[im,B6] at i⊢;simp[A] at i⊢;exact i
   rw[N];simp only[Bool.not_false,xf];let k:(aT L)[c]?=W L[c]:=by simp[f]
   rw[k];simp only[lW,xr,ajv];intro r w;by_cases e:v2 .any (L[c]).after[r];rw[e];simp only[Bool.not_true,J8];let ao:=E c _ k _ (ajA w) e;grind[im];simp_all
 grind;rw[tA,mL] at j;let⟨J,m⟩:=j;let s:d<Q L:=by simpa using J
 let u:d<bB b:=o;let k:(aT L)[d]?=W L[d]:=by simp[s]
 rw[k] at m;simp[lW,xr,j_,Ai,ajv] at m;let⟨q,G⟩:=m;let t:im b d=ad:=by simp[im,B6] at q⊢;simp[u] at q⊢;exact q
 let al:∀F∈(L[d]).after.toList,v2 .any F->im b F.on:=by intro F he e;obtain⟨r,w,rfl⟩:=lU.1 he;have:=G r o;simp[ajB] at e⊢;rw[e] at this;simpa[im] using this
 let n:=TJ b u;refine x d s t n (λB=>?_) ?_;intro c K f S F he e;rw[n] at f⊢;split at f;simp_all;split;rfl;exact B c K f S F he e;let z:p6 (Q L) (qX b d af)=(p6 (Q L) b).filter λc=>c !=d:=by rw[p6,p6,List.filter_filter];apply Wm;intro c _;rw[n];by_cases M:c=d<;>simp[M]
 rw[z];let R:eb (p6 (Q L) b):=List.nodup_range.filter _;let O:d∈p6 (Q L) b:=by rw[p6,mL];exact⟨o,by simp[t]⟩
 rw[<-R.erase_eq_filter,List.length_erase_of_mem O,C];omega
def aeI{L:X a4}{c:b4 Y}(g:bB c=Q L)(d:Q (p6 (Q L) c)=0):(∀b<Q L,im c b)/\tA .any (aT L) c=[]:=by
 let e:∀b<Q L,im c b:=by intro b f;have:=m_ d;rw[p6,List.filter_eq_nil_iff] at this;have:=this b ap;simpa using this
 grind[tA,List.filter_eq_nil_iff,im,Array.getD_eq_getD_getElem?]
theorem Oi{i:Z->Y}:∀L U R M,(∀b,R<=b->i b=ad)->cN L U i R M=M|[],_,_,_,_=>p|_::_,[],_,_,_=>p|d::L,x::U,R,M,hm=>by rw[cN,hm R<|bz _,ab av];exact Oi L U _ M λb c=>hm b o
theorem Oj{i:Z->Y}:∀L b U R M,(∀c,R+Q b<=c->i c=ad)->cN L (b++U) i R M=cN L b i R M|[],_,_,_,_,_=>p|d::L,[],U,R,M,hm=>by grind[Oi]|d::L,x::b,U,R,M,hm=>by exact Oj L b U _ _ λc e=>hm c a2
theorem U1:∀L c(i d:Z->Y) R M,(∀b,R<=b->b<R+Q c->i b=d b)->cN L c i R M=cN L c d R M|[],_,_,_,_,_,_=>p|_::_,[],_,_,_,_,_=>p|g::L,x::c,i,d,R,M,hm=>by rw[cN,cN,hm R (bz _) av];exact U1 L c i d _ _ λb e f=>hm b o a2
theorem awS L b U O:cN L (b++U) (λc=>aL<|c<Q b) 0 O=cN L b (λ_=>af) 0 O:=by grind[Oj,U1]
def abb{d:Type}{c:X d}{U C:d}{b:Z}:(c++[U])[b]?=W C->b<Q c/\c[b]?=W C\/b=Q c/\C=U:=by grind
theorem ay4{c:Type}b(U:c):(b++[U])[(Q b)]?=W U:=av
def OT{b:Type}{d:X b}{U:b}{c:Z}{C:b}:d[c]?=W C->(d++[U])[c]?=W C:=by grind
def G5.snoc{L:X a4}{bv:X eD}{O:a9}{b:X jw}{skip g:Z->Y}(q:G5 P m L bv O b skip)(y:Q bv=Q b)(z:Q b<Q L){ao:eD}{x:jw}(r:∀c≠Q b,g c=ad->skip c=ad)(B:∀u∈x.2,u.1∈ao.2)(C:g (Q b)=ad->∀K,L[(Q b)]?=W K->y6 P m (aT L) K ao (cN L b (λ_=>af) 0 O) x):G5 P m L (bv++[ao]) O (b++[x]) g:=by refine⟨a2,λc K v l n t=>?_,λc I j A k=>?_⟩;rcases abb n with⟨e,d⟩|⟨e,d⟩;let⟨s,f,i⟩:=q.step c K v l d<|r c o t;exists s,OT f;rw[Oj L b [x] 0 O λD w=>a2];exact i;grind[ay4,awS];rcases abb j with⟨e,d⟩|⟨e,d⟩;let⟨s,f,i⟩:=q.ow c I d A k;exists s,OT f;grind
def y6.ow{ops:b4 a4}{K:a4}{ao:eD}{O:a9}{x:jw}(q:y6 P m ops K ao O x):∀b∈x.2,b.1∈ao.2:=by rcases q with⟨_,rfl⟩|⟨_,q,_⟩;simp;omega
def v_.pre{ops:b4 a4}{bv:X eD}{ao:eD}(q:v_ ops (bv++[ao])):v_ ops bv:=λi k b c A g j e f d=>q i k b c A g j (OT e) (OT f) d
def o0.any{L:X a4}{O:a9}{al:c_->a9->Prop}(J:pL m.n L)(M:Ev (aT L))(Z:Down (aT L)){f:X jw}{bv:X eD}(q:o0 P m L O (al gA) f bv):Q bv=Q f->∀g(listed:b4 Y) y D N,bB listed=Q L->Q (p6 (Q L) listed)=g->uU (aT L) (im listed)->(∀b,Q f<=b->im listed b=ad)->G5 P m L bv O f (im listed)->bm m (cN L f (im listed) 0 O) y D N->wpAny P .any (aT L) (KQ m al) g listed y D:=by
 induction q
 next f bv hlen ax ay=>
  intro B g
  induction g
  intro listed y D N l j c _ _ t;let⟨aC,az⟩:=aeI l j;exists az,_,N,ay;grind[U1,im]
  next g E=>intro listed y D N l j c s d t;refine XL Z l j λH G A i r F=>?_;refine agK J M ax d G o A A i c (r c) t λw bE v z=>E _ w bE v a2 F (r c) (λb u=>?_) ⟨d.len,λb K x k R e=>d.step b K x k R ?_,d.ow⟩ z;rw[i,ab o];exact s b u;simp_all
 next f bv K ao x k au _ E=>intro B g listed y D N l j c s d t;let C:Q f<Q L:=(e3.1 k).1;refine E a2 g listed y D N l j c (λb u=>s b (by rw[cX] at u;omega)) (d.snoc B C (λ_ _ q=>q) au.ow λ_ aD am=>?_) ?_;rw[k] at am;cases am;exact au;grind[Oj]
 next f bv K ao aB k ak ar T aw qu _ E=>
  intro B g;let C:Q f<Q L:=(e3.1 k).1
  induction g
  intro listed y D N l j c s _ t;have:=(aeI l j).1 (Q f) C;simp_all
  next g aA=>
   intro listed y D N l j c s d t;refine XL Z l j λH G A i r F=>?_;let ap:∀b,im (qX listed H af) b=ad->im listed b=ad:=λb e=>by rw[i] at e;split at e;cases e;exact e
   rcases GO H (Q f) with q|q|q;refine agK J M ak.pre d G q A A i c (r c) t λw bE v z=>aA _ w bE v a2 F (r c) (λb u=>?_) ⟨d.len,λb K x k R e=>d.step b K x k R<|ap b e,d.ow⟩ z;rw[i,ab o];exact s b u;subst q;refine axs J M ak d.ow B C k s i c (r c) T aw qu t λI w bE v U z=>E I U a2 g _ w bE v a2 F (r c) (λb u=>?_) (d.snoc B C (λb _ e=>ap b e) (T I U) λe=>?_) z;grind;rw[i,ae p] at e;cases e;exfalso;let S:=(r c).reach (ar H q G) (by rw[i,ae p]);rw[i,ab o,s _<|bz _] at S;cases S
theorem fh.agL{id:Z}{L:X a4}{O:a9}{al:c_->a9->Prop}(k:P.follows py)(i:pL m.n L)(e:tb L)(q:o0 P m L O (al gA) [] []):fh P m (sM id (aT L) af) O al:=by
 intro y D N d;apply wp_region_any k;have f:∀c,im (ty (bB (aT L)) ad) c=ad:=by intro c;simp[im,B6,ajz];split<;>rfl
 refine q.any i (M0 e).1 (M0 e).2 p _ _ y _ N av ?_ ?_ (λc _=>f c) ⟨dO _,λg K x _ q=>cc,λg I q=>cc⟩ ?_;grind[p6,ty,bJ,List.filter_eq_self];intro g K j;simp_all;rw[Oi _ _ _ _ λc _=>f c];exact⟨d.dt.grown ⟨p,p,p,bz _,λ_ _ _=>p⟩,d.b,d.hv,d.size,d.defers⟩
theorem Ok{K:a4}{x:jw}:∀{L:X a4}{b:X jw}{R:Z}{O:a9},L[(Q b)]?=W K->cN L (b++[x]) (λ_=>af) R O=(cN L b (λ_=>af) R O).tl K.dst x|[],_,_,_,q=>cc|c::L,[],R,O,q=>by simp at q;subst q;show cN L [] _ _ _=(cN _ [] _ R O).tl _ x;cases L<;>rfl|c::L,U::b,R,O,q=>by rw[yM,cN,cN];exact Ok cc
def o0.run{L:X a4}{O:a9}{al:a9->Prop}:∀{vs jO:X a4}{b pk:X jw}{bv C_:X eD}{b7:X a4},L=b7++(vs++jO)->Q b7=Q b->Q C_=Q vs->sT P m (aT L) vs C_ (cN L b (λ_=>af) 0 O) pk->(Q pk=Q vs->o0 P m L O al (b++pk) (bv++C_))->o0 P m L O al b bv
|[],jO,b,pk,bv,[],b7,_,_,_,c,q=>by have:pk=[]:=c;simp_all|[],jO,b,pk,bv,ao::C_,b7,_,_,d,_,q=>cc|K::vs,jO,b,[],bv,[],b7,_,_,_,c,_=>c.elim|K::vs,jO,b,[],bv,_::_,b7,_,_,_,c,_=>c.elim|K::vs,jO,b,_::_,bv,[],b7,_,_,_,c,_=>c.elim|K::vs,jO,b,x::pk,bv,ao::C_,b7,e,f,d,c,q=>by
 let g:L[(Q b)]?=W K:=by rw[e,xi o,<-f,oT];rfl
 refine o0.step g c.1<|o0.run (vs:=vs) (jO:=jO) (b7:=b7++[K]) (by rw[e];simp) (by simp[f]) (by simpa using d) (by rw[Ok g];exact c.2) λi=>?_;have:=q (by simp[i]);simpa using this
theorem sT.cN{ops:b4 a4}{L:X a4}:∀{d jO b7:X a4}{de e:X jw}{f:X eD}{O c:a9},L=b7++(d++jO)->Q b7=Q de->sT P m ops d f c e->c=ga.cN L de (λ_=>af) 0 O->ga.cN L (de++e) (λ_=>af) 0 O=ga.cN d e (λ_=>af) 0 c|[],jO,b7,de,e,[],O,c,_,_,b,q=>by have:e=[]:=b;rw[this,ff,q];rfl|K::d,jO,b7,de,[],[],O,c,_,_,b,_=>b.elim|K::d,jO,b7,de,[],_::_,O,c,_,_,b,_=>b.elim|K::d,jO,b7,de,_::_,[],O,c,_,_,b,_=>b.elim|K::d,jO,b7,de,x::e,ao::f,O,c,g,i,b,q=>by have:=sT.cN (L:=L) (jO:=jO) (b7:=b7++[K]) (de:=de++[x]) (O:=O) ap ap b.2 (by grind[Ok]);rw[fJ,List.singleton_append] at this;rw[this,ga.cN,ae p];grind[F7]
def sT.len{ops:b4 a4}:∀{L:X a4}{bv:X eD}{O:a9}{b:X jw},sT P m ops L bv O b->Q bv=Q L/\Q b=Q L|[],[],_,b,q=>by simp[show b=[] from q]|_::_,_::_,_,_::_,q=>by simp[sT.len q.2]
theorem fh.Zy{id:Z}{L:X a4}{bv:X eD}{O:a9}{al:c_->a9->Prop}(g:P.follows py)(e:pL m.n L)(f:tb L)(d:v_ (aT L) bv)(q:cg P m (aT L) L bv O al):fh P m (sM id (aT L) af) O al:=by let⟨i,b,c⟩:=q;exact fh.agL g e f<|o0.run (jO:=[]) (b7:=[]) av p b.len.1 (by cases L<;>exact b) λq=>.leaf q d c
theorem fh.Zx{id:Z}{L:X a4}{bv:X eD}{O:a9}{al:c_->a9->Prop}(e:P.follows py)(c:pL m.n L)(d:tb L)(b:uj L bv)(q:cg P m (aT L) L bv O al):fh P m (sM id (aT L) af) O al:=.Zy e c d (Tv b) q
end
def aan(P:ct)(S:aw)(b:Z):da (Z×aw×Z):=match ij P S with|W (.struct bv)=>(bv[b]?).map λao=>(ao.offset,ao.type,P.cellsOf ao.type)|_=>ah
structure uY(P:ct)(S:aw)(cr off:Z)(Md:aw)(T:Z):Prop where
 h:aan P S cr=W (off,Md,T)
def uY.get{P:ct}{S:aw}{b d:Z}{c:aw}{T:Z}(q:uY P S b d c T):T≠0->∃bv ao,ij P S=W (.struct bv)/\bv[b]?=W ao/\ao.offset=d/\ao.type=c/\∀D,cI P (sizeOf ao.type) D=cS T D:=by
 have q:=q.h;unfold aan at q;split at q;rename_i bv g;cases f:bv[b]?;simp_all
 next ao=>
  simp[f,lW,hr,GR] at q;have e:=q.2.2;unfold Program.cellsOf at e;cases j:P.info? ao.type;simp_all
  next i=>simp_all[sizeOf,typeInfo]
 trivial
structure Av(P:ct)(S:aw)(T:Z):Prop where
 a:(ij P S).map oz=W af
 i:(P.info? S).map (·.size)=W T
def Av.fo{P:ct}{S:aw}{T:Z}(q:Av P S T):∃I R,cz P S I T R/\oz I:=by
 have c:=q.a;have:=q.i;cases b:ij P S;simp_all
 next I=>
  cases j:P.info? S;simp_all
  next d=>simp[b] at c;exists I,d.bytes,⟨b,ap⟩
section
variable{P:ct}{m:db}{K:a4}{O:a9}
def avD{S i:aw}{U:aM}{d:X V}{M c b f g T:Z}(l:uY P S f g i T)(a7:T≠0)(q:K.op=.fieldAddr S U f)(w:O.val m U=W (.ref M d c b)):dh P m K O (.ref M d c (b+g)):=.same λy D N k=>by have e:=k.val w;generalize v:b8 y U=x at e;obtain⟨bv,ao,u,n,rfl,rfl,t⟩:=l.get a7;cases e with|ref _ _ _ _ R base val s j r=>have:=bj.ref M d c (b+ao.offset) R _ val s j r;exists _,this;simp[dE,q,v,Instr.fieldAt,yW,run_underlying u,n,fieldPlace,t,a7,Addr.add_lit]
def Uz{S k:aw}{U:aM}{b c e d A M f i T:Z}{F:aw}{j:X V}(q:uY P S f i k T)(a7:T≠0)(u:K.op=.fieldAddr S U f)(C:O.val m U=W (.own b c e d))(s:O.g[A]?=W (b,.h c M F j)):dh P m K O (.own b c e (d+i)):=.same λy D N l=>by let⟨L,R,t,v,n,w,B⟩:=l.own C s;obtain⟨bv,ao,z,r,rfl,rfl,x⟩:=q.get a7;exists lu _,.own _ _ _ _ L _ t (by rw[v.1];omega) p λ_=>⟨R,n,by rw[w]⟩;simp[dE,u,B,Instr.fieldAt,yW,run_underlying z,r,fieldPlace,x,a7,Addr.add_lit]
def afz{S:aw}{I:i_}{G ci:Z}{U:aM}{d:X V}{M c b:Z}{F x:V}(bW:cz P S I G ci)(f:oz I=ad)(i:K.op=.load S U)(j:O.val m U=W (.ref M d c b))(g:d[c]?=W F)(e:F.cells[b]?=W x):dh P m K O x:=agd bW f i j g e
def UA{S:aw}{T:Z}{U:aM}{f j i c A M:Z}{F:aw}{e:X V}{d:V}{b:X V}(bW:Av P S T):K.op=.load S U->O.val m U=W (.own f j i c)->O.g[A]?=W (f,.h j M F e)->e[i]?=W d->ak T (aU c d.cells)=b->Q b=T->dh P m K O (.agg b):=by cases bW.fo;grind[awJ]
def avB{S c:aw}{I:i_}{G ci:Z}{U:aM}{g i T:Z}{b:X V}{x:V}(n:uY P S g i c T)(a7:T≠0)(bW:cz P c I G ci)(l:oz I=ad)(s:K.op=.field S U g)(w:O.val m U=W (.agg b))(e:b[i]?=W x):dh P m K O x:=.same λy D N k=>by
 have d:=k.val w;generalize v:b8 y U=A at d;obtain⟨bv,ao,u,q,rfl,rfl,z⟩:=n.get a7;cases d with
 |agg _ j r _ t=>
  have f:ao.offset<Q j:=by rw[<-r];exact(e3.1 e).1
  exists j[ao.offset],t _ _ _ e<|cm f;simp[dE,s,v,Instr.field,run_underlying u,q,asAgg,part,bW.sv,l,f]
def avC{S e:aw}{U:aM}{f g T:Z}{d L:X V}(k:uY P S f g e T)(a7:T≠0)(bW:Av P e T)(n:K.op=.field S U f)(u:O.val m U=W (.agg d))(w:ak T (aU g d)=L):dh P m K O (.agg L):=.same λy D N j=>by have b:=j.val u;generalize c:b8 y U=i at b;obtain⟨bv,ao,t,l,rfl,rfl,q⟩:=k.get a7;let⟨I,R,r,s⟩:=bW.fo;cases b with|agg _ v z b x=>refine⟨iH<|aT<|ak T<|aU ao.offset v,.agg L _ ?_ (λi c=>b i<|Kh<|tu c) ?_,?_⟩;grind;grind;simp[dE,n,c,Instr.field,run_underlying t,l,asAgg,part,r.sv,s,q]
def avI{S:aw}{G ci:Z}{U c:aM}{L:X v}{A:dw}{T:J}{b:Z}{R:v}(bW:cz P S ml G ci)(q:K.op=.index S U c)(t:O.val m U=W (.str L))(l:O.val m c=W (.int A T))(a7:T=(b:J))(j:L[b]?=W R):dh P m K O (bR R):=.same λy D N f=>by
 have d:=f.val t;have e:=f.val l;generalize s:b8 y U=w at d;generalize r:b8 y c=bn at e;cases d;cases e;subst a7;refine⟨ek .u8 _,.int _ _,?_⟩;have k:(⟨aT L⟩:v1)[b]?=W R:=by
  let⟨g,i⟩:=e3.1 j;have n:=by exact g
  rw[getElem?_pos _ b n,<-i];rfl
 simp[dE,q,s,r,Instr.index,asIntOf,run_underlying bW.u,k]
def r8(m:db)(O:a9)(R:da aM)(b:Z)(T:Z):Prop:=match R with|ah=>T=b|W c=>∃A i,O.val m c=W (.int A i)/\i=(T:J)
def BV{D:bZ}{A:dw}{T C:Z}{b:BoundsCode}(q:T<=C):cI P (Instr.sliceBound (ek A T) C b) D=cS T D:=by simp[Instr.sliceBound,asIntOf,q]
def OQ{D:bZ}{y:fS}{N:bh}(C:bm m O y D N){R:Y}{len cap g d:Z}{c e:da aM}(l:r8 m O c 0 g)(t:r8 m O e len d)(n:g<=d)(r:d<=cap):cI P (Instr.sliceBounds R len cap (c.map (b8 y)) (e.map (b8 y)) ah) D=cS (g,d,cap) D:=by
 have j:∀b i A T,O.val m b=W (.int A i)->i=T->b8 y b=ek A T:=by intro b i A T f hm;have s:=C.val f;generalize b8 y b=k at s;cases s;rw[hm]
 have B:cI P (Instr.sliceBounds R len cap (c.map (b8 y)) (e.map (b8 y)) ah) D=cI P ((do
   let q<-match e.map (b8 y) with|W k=>Instr.sliceBound k cap (if R then .sliceAcap else .sliceAlen)|ah=>Pure.pure len
   let L<-match c.map (b8 y) with|W k=>Instr.sliceBound k q .sliceB|ah=>Pure.pure 0
   Pure.pure (L,q,cap))) D:=by cases e<;>cases c<;>rfl
 rw[B];cases e;subst t;cases c;simp_all[r8]
 next b=>let⟨A,i,f,hm⟩:=l;simp[j b i A g f hm,BV n]
 next z=>
  let⟨w,x,v,u⟩:=t;cases c;subst l;simp[j z x w d v u,BV r]
  next b=>let⟨A,i,f,hm⟩:=l;simp[j b i A g f hm,j z x w d v u,BV n,BV r]
def avO{S:aw}{G ci:Z}{U:aM}{g f:da aM}{L:X v}{b c:Z}(bW:cz P S ml G ci)(n:K.op=.slice S U g f ah)(r:O.val m U=W (.str L))(l:r8 m O g 0 b)(k:r8 m O f (Q L) c)(i:b<=c)(j:c<=Q L):dh P m K O (.str (ak (c-b) (aU b L))):=.same λy D N e=>by
 have d:=e.val r;generalize q:b8 y U=s at d;cases d;exists _,.str _;have he:(⟨aT L⟩:v1).extract b c=⟨aT (ak (c-b) (aU b L))⟩:=by rw[Lib.extract_eq]
 simp[dE,n,Instr.sliceAt,q,PW,Sem.run_bind,run_underlying bW.u,Result.andThen_ok,Instr.slice];simp[Option.isSome_none,Wf,Kz,QH,Sem.run_bind,OQ (P:=P) e (R:=ad) (len:=Q L) (cap:=Q L) l k i j,Result.andThen_ok,Sem.run_pure,he]
def avN{S F:aw}{G ci ec M:Z}{U:aM}{t s:da aM}{j k r e A:Z}{v:aw}{w:X V}{b c:Z}(bW:cz P S (dP F) G ci)(he:hs P F M ec)(I:K.op=.slice S U t s ah)(Q:O.val m U=W (.bO j k r e))(C:O.g[A]?=W (j,.h k M v w))(E:r8 m O t 0 b)(B:r8 m O s e c)(x:b<=c)(T:c<=e):dh P m K O (.bO j k (r+b) (c-b)):=.same λy D N l=>by
 let⟨L,n,f,z⟩:=l.bO Q C;let am:=f.2.1;let run:∀base cap,b8 y U=gj base e cap->e<=cap->cI P (dE (b8 y) K) D=cS (.value<|gj (if cap=b then base else base.map (·.add (b*M))) (c-b)<|cap-b) D:=by intro base cap J ak;let d:=OQ (P:=P) l (R:=af) (cap:=cap) E B x o;simp[dE,I,Instr.sliceAt,J,PW,Sem.run_bind,run_underlying bW.u,Result.andThen_ok,Instr.slice,d,he.kW,Sem.run_pure]
 rcases z with⟨d,rfl,i⟩|⟨R,q,cap,d,i,H,al,Y⟩;have:b=0/\c=0:=o;obtain⟨rfl,rfl⟩:=this;refine⟨_,.bO _ _ _ _ L _ n (by rw[f.1];omega) p λ_=>bl ⟨d,p,p⟩,run _ 0 i<|bz _⟩;refine⟨_,.bO _ _ _ _ L _ n (by rw[f.1];omega) ?_ λ_=>bp ⟨R,if cap=b then q else q+b*M,cap-b,d,?_,o,o,?_⟩,run _ cap i H⟩;rfl;grind[Addr.add_lit];grind
def afA{d:Fn}{first c:b4 aM}{j k:X V}(u:K.op=.makeFunc d first c)(x:pI m O (bo first) j)(z:pI m O (bo c) k):dh P m K O (.func d j k):=.same λy D N s=>by
 let⟨B,q⟩:=x.get;let⟨C,r⟩:=z.get;refine⟨.func d (first.map<|b8 y)<|c.map<|b8 y,?_,by simp[dE,u,Instr.makeFunc]⟩;let n:∀(e:b4 _)(l:X V),(∀(b:Z) U,l[b]?=W U->∃g,(bo e)[b]?=W g/\O.val m g=W U)->∀b U i,l[b]?=W U->(aa (b8 y)<|bo e)[b]?=W i->bj N U i:=by intro e l t b U i A f;let⟨g,v,w⟩:=t b U A;rw[c4,v] at f;simp at f;subst f;exact s.val w
 have:=bj.func d j k _ _ (by simp[<-B]) (by simp[<-C]) (n _ _ q)<|n _ _ r;let E:aT (aa (b8 y)<|bo first)=first.map (b8 y):=by apply J3;simp
 let F:aT (aa (b8 y)<|bo c)=c.map (b8 y):=by apply J3;simp
 simp_all
def avy{e c:aw}{i:i_}{q f r g:Z}{A b:dw}{T:J}{U:aM}(l:cz P e i q f)(bW:cz P c (.int b) r g)(k:K.op=.convert e c U)(n:O.val m U=W (.int A T))(s:nZ b T):dh P m K O (.int b T):=.same λy D N j=>by have d:=j.val n;generalize t:b8 y U=v at d;cases d;exists ek b T,.int _ _;simp[dE,k,convert,Sem.run_bind,run_underlying l.u,run_underlying bW.u];simp_all[Conv.intToInt,vO]
def avz{e c:aw}{i:i_}{r f s g:Z}{A b:dw}{T:J}{U:aM}(l:cz P e i r f)(bW:cz P c (.int b) s g)(k:K.op=.convert e c U)(q:O.val m U=W (.int A T)):dh P m K O (.int b (k0 b T)):=.same λy D N j=>by have d:=j.val q;generalize n:b8 y U=t at d;cases d;exists ek b _,.int _ _;simp[dE,k,n,convert,Sem.run_bind,run_underlying l.u,run_underlying bW.u];rfl
def avA{d b:aw}{n e q f:Z}{L:X v}{U:aM}(j:cz P d ml n e)(bW:cz P b ml q f)(i:K.op=.convert d b U)(l:O.val m U=W (.str L)):dh P m K O (.str L):=.same λy D N g=>by have c:=g.val l;generalize k:b8 y U=r at c;cases c;exists _,.str L;simp[dE,i,k,convert,run_underlying j.u,run_underlying bW.u]
end
section
open Go.MapKept
def Db{P:ct}{D:bZ}{x:Z}{c:b4 lX}{b:Z}:D.heap[x]?=W (.map c b)->cI P (getObj x) D=cS (.map c b) D:=by grind[getObj,cI]
def V.isKey:i_->V->Y|.bool,.bool _=>af|.int A,.int b _=>b==A|ml,.str _=>af|_,_=>ad
def V.sg:V->V->Y|.bool y,.bool R=>y==R|.int _ y,.int _ R=>y==R|.str y,.str R=>y==R|_,_=>ad
def V.Mz{N:bh}{I:i_}{U:V}{b:bt}(q:bj N U b):U.isKey I->IsKey I b:=by cases I<;>cases q<;>simp_all[V.isKey,IsKey]
def V.acs{N:bh}{I:i_}{U C:V}{b bn:bt}(q:bj N U b)(c:bj N C bn)(d:U.isKey I)(e:C.isKey I):Instr.sameNow I b bn=W (U.sg C):=by cases I<;>cases q<;>simp[V.isKey] at d<;>cases c<;>simp[V.isKey] at e;rfl;grind[Instr.sameNow,V.sg];simp[Instr.sameNow,V.sg,hr];rw[lT,bytes_beq];simp
def nv:X (V×V×Z)->V->Z->da (Z×V)|[],_,_=>ah|U::x,A,b=>if A.sg U.1 then W (b,U.2.1) else nv x A (b+1)
def n1(I:i_)(b:X (V×V×Z)):Prop:=∀U∈b,U.1.isKey I
def aau{N:bh}{I:i_}{A:V}{e:bt}(i:bj N A e)(j:A.isKey I):∀d L b,Q d=Q L->n1 I d->(∀(c:Z) U F,d[c]?=W U->L[c]?=W F->bj N U.1 F.key)->nv d A b=ah/\Ei I e L b=W ah\/∃c U F,b<=c/\nv d A b=W (c,U.2.1)/\Ei I e L b=W (W (c,F.val))/\d[c-b]?=W U/\L[c-b]?=W F/\A.sg U.1
|[],[],b,_,_,_=>bl ⟨p,p⟩|[],_::_,_,q,_,_=>cc|_::_,[],_,q,_,_=>cc|U::x,F::m,b,w,k,l=>by let r:=V.acs i (l 0 U F p p) j<|k U av;cases n:A.sg U.1 with|true=>exact bp ⟨b,U,F,bz _,by grind[nv],by grind[Ei],av,av,n⟩|false=>rcases aau i j x m (b+1) ap (λC y=>k C aY) (λc C ao f g=>l (c+1) C ao cc cc) with⟨f,g⟩|⟨c,C,ao,f,g,s,t,u,v⟩;grind[nv,Ei];grind[nv,Ei]
def lM(c:X (V×V×Z))(b:Z)(A d:V):X (V×V×Z)×Z:=match nv c A 0 with|W (e,_)=>(c.modify e λU=>(A,d,U.2.2),b)|ah=>(c++[(A,d,b)],b+1)
def qB(b:X (V×V×Z))(A:V):X (V×V×Z):=match nv b A 0 with|W (c,_)=>pB b c|ah=>b
def Dt(b:X (V×V×Z))(A:V):da V:=(nv b A 0).map (·.2)
section
variable{P:ct}{m:db}{ops:b4 a4}{K:a4}{L:X a4}{O:a9}{al:c_->a9->Prop}
def cK.makeMap{S:aw}(e:O.guard ops K=W af)(i:K.op=.makeMap S ah)(q:∀c,cK P m ops L (({O with g:=O.g++[(c,.map 0 [] 0)]}:a9).put K.dst (.j5 c 0)) al):cK P m ops (K::L) O al:=.ow e λy D N d=>by
 let f:=d.dt.new (m7:=.map 0 [] 0) (dD:=⟨W _,0,0,0,0⟩) (bp ⟨bB D.heap,p,bz _⟩) (World.grownBy_alloc D _ _)
  ⟨p,bB D.heap,#[],p,heap_alloc_new D _,⟨p,av,av,av⟩,av,av⟩
 exact⟨.map _,_,_,.j5 N.n 0,_,(bh.lL λj b=>by rw[N.fresh _<|bz _] at b;cases b),.j5 _ _ _ _ (N.nC _ _) (bz _) p λ_=>⟨_,p,p⟩,f,bl (by simp[dE,i,Instr.makeMap]),q N.n⟩
def bm.j5{y:fS}{D:bZ}{N:bh}(q:bm m O y D N){U:aM}{d e A c:Z}{f:X (V×V×Z)}(k:O.val m U=W (.j5 d e))(j:O.g[A]?=W (d,.map e f c)):∃L R b,N.m d=W L/\L.aP=e/\L.bK=W R/\b8 y U=.map (W R)/\D.heap[R]?=W (.map b c)/\nd N f b/\(∀F∈bo b,F.born<c)/\eb (aa (·.born) (bo b)):=by let⟨L,r,u,R,b,l,n,s,t⟩:=q.dt.gy _ _<|eY j;let i:=q.val k;cases i with|j5 _ _ w x hm v i q=>simp_all
theorem nd.find{N:bh}{I:i_}{A:V}{f:bt}{c:X (V×V×Z)}{d:b4 lX}(q:nd N c d)(i:bj N A f)(j:A.isKey I)(k:n1 I c):nv c A 0=ah/\Ei I f (bo d) 0=W ah\/∃(b:Z)(U:V×V×Z)(F:lX),nv c A 0=W (b,U.2.1)/\Ei I f (bo d) 0=W (W (b,F.val))/\c[b]?=W U/\d[b]?=W F/\A.sg U.1:=by rcases aau i j _ (bo d) 0 (by simpa using q.len) k (λb U F e g=>q.key b U F e ap) with e|⟨b,U,F,_,e,g,l,m,n⟩;simp_all;grind
def OJ{D:bZ}{R:Z}{d:b4 lX}{c:Z}{b:Obj}(e:D.heap[R]?=W (.map d c)):cI P (setObj R b) D=cS () {D with heap:=qX D.heap R b}:=run_setObj_map b e
theorem aht{D:bZ}{R:Z}{b:Obj}:D.grownBy {D with heap:=qX D.heap R b} (W R):=⟨p,p,p,av,λd j c=>by grind⟩
def vy(e:da (Z×V))(c:X (V×V×Z))(b:Z)(A d:V):X (V×V×Z)×Z:=match e with|W (f,_)=>(c.modify f λU=>(A,d,U.2.2),b)|ah=>(c++[(A,d,b)],b+1)
structure v9(P:ct)(gd:aw)(D:bZ)(Dl:bt)(k9:X (V×V×Z))(es:b4 lX)(fd:da (Z×V)):Prop where
 gB:∀em,cI P (Instr.checkKey em 10000 gd Dl) D=cS () D
 stay:cI P (Instr.keyThatStays Dl Dl) D=cS Dl D
 find:fd=ah/\cI P (Instr.findKey gd Dl (bo es)) D=cS ah D\/∃(cr:Z)(am:V×V×Z)(F:lX),fd=W (cr,am.2.1)/\cI P (Instr.findKey gd Dl (bo es)) D=cS (W (cr,F.val)) D/\k9[cr]?=W am/\es[cr]?=W F/\Dl=F.key
theorem v9.of{v:aw}{I:i_}{z y:Z}{D:bZ}{N:bh}{e:V}{w:bt}{b:X (V×V×Z)}{k:b4 lX}(j:cz P v I z y)(c:e.isKey I)(r:n1 I b)(s:nd N b k)(d:bj N e w):v9 P v D w b k (nv b e 0):=by let q:=V.Mz d c;exists λem=>run_checkKey j.u q em _,run_keyThatStays q;rcases s.find d c r with⟨f,g⟩|⟨t,am,F,f,g,i,m,E⟩;exact bl ⟨f,run_findKey j.u g⟩;exact bp ⟨t,am,F,f,run_findKey j.u g,i,m,(by let l:=s.key t am F i m;let n:=r am<|eY i;let A:=V.acs d l c n;let⟨x,B,C⟩:=sameNow_of_keys (V.Mz d c)<|V.Mz l n;simp_all)⟩
def ZS{aD aA aN:aw}{bb aJ:Z}{aF U C:aM}{v H A c:Z}{d:X (V×V×Z)}{e f:V}{n:da (Z×V)}(au:cz P aD (.map aA aN) bb aJ)(ax:K.op=.mapUpdate aD aF U C)(aY:O.val m aF=W (.j5 v H))(al:O.g[A]?=W (v,.map H d c))(a9:O.val m U=W e)(a_:O.val m C=W f)(aI:∀{D N aB i},nd N d i->bj N e aB->v9 P aA D aB d i n):fz P m K O .undef (aK O.g A (v,.map H (vy n d c e f).1 (vy n d c e f).2)):=by
 refine .of λy D N G=>?_;obtain⟨aC,R,i,aW,a8,T,az,w,k,a4,a7⟩:=G.j5 aY al;have ay:=G.val a9;have a3:=G.val a_;have E:=@aI D _ _ _ k ay;have S:∀t z,(vy n d c e f).2=z->nd N (vy n d c e f).1 t->(∀F∈bo t,F.born<z)->eb (aa (·.born) (bo t))->cI P (dE (b8 y) K) D=cS .skip {D with heap:=qX D.heap R (.map t z)}->∃M bE J aG aE,N.le J/\bj J aG M/\Holds m J aE bE/\(cI P (dE (b8 y) K) D=cS (.value M) bE\/M=undef/\cI P (dE (b8 y) K) D=cS .skip bE)/\aG=.undef/\aE=aK O.g A (v,.map H (vy n d c e f).1 (vy n d c e f).2):=by intro t z ak a0 a5 be a2;have ar:N.le (N.hz v aC):=bh.lL λbf B=>ap;refine⟨undef,_,N.hz v aC,.undef,_,ar,.undef _,G.dt.xa al aW p (bz _) (λ_=>p) (bl p) (by rw[T];exact aht) ?_,bp ⟨p,a2⟩,p,p⟩;exists a8,R,t,T,by rw[ak];exact(heap_set w).1,a0.mono ar,by rw[ak];exact a5
 have Y:∀b ao,(∀F,(ao F).born=F.born)->(i.modify b ao).toList.map (·.born)=aa (·.born) (bo i):=by intro b ao aS;apply jI;intro l;simp only[c4,D7,J5];split;cases i[l]?<;>simp[aS];rfl
 rcases E.find with⟨B,L⟩|⟨l,bg,bc,B,L,bd,aO,aP⟩;have x:vy n d c e f=(d++[(e,f,c)],c+1):=by simp[vy,B]
 apply S (i.push {key:=b8 y U,val:=b8 y C,born:=c}) (c+1) (by rw[x]);rw[x];have get:∀(b:Z) am F,(d++[(e,f,c)])[b]?=W am->(i.push {key:=b8 y U,val:=b8 y C,born:=c})[b]?=W F->d[b]?=W am/\i[b]?=W F\/am=(e,f,c)/\F={key:=b8 y U,val:=b8 y C,born:=c}:=by
  intro b am F aH he;rw[oQ] at aH;rw[Array.getElem?_push] at he;split at aH;rename_i j;rw[ab (by rw[<-k.len];omega)] at he;exact bl ⟨aH,he⟩;have aU:b=Q d:=by have:=(e3.1 aH).1;simp at this;omega
  subst aU;rw[ae k.len] at he;simp_all
 refine⟨by simp[k.len],λb am F aH he=>?_,λb am F aH he=>?_,λb am F aH he=>?_⟩<;>rcases get b am F aH he with⟨q,r⟩|⟨rfl,rfl⟩
 exact k.key b am F q r;omega;exact k.val b am F q r;omega;exact k.born b am F q r;rfl;grind;grind;simp[dE,ax,az,Instr.mapUpdate,run_underlying au.u,Db w,E.gB,L,OJ w];have x:vy n d c e f=(d.modify l λam=>(e,f,am.2.2),c):=by simp[vy,B]
 apply S (i.modify l λF=>{F with key:=b8 y U,val:=b8 y C}) c (by rw[x]);rw[x];have get:∀(b:Z) am F,(d.modify l λam=>(e,f,am.2.2))[b]?=W am->(i.modify l λF=>{F with key:=b8 y U,val:=b8 y C})[b]?=W F->d[b]?=W am/\i[b]?=W F\/∃I s,d[b]?=W I/\i[b]?=W s/\am=(e,f,I.2.2)/\F={s with key:=b8 y U,val:=b8 y C}:=by intro b am F aH he;rw[List.getElem?_modify] at aH;rw[J5] at he;by_cases aV:l=b;simp_all;simp[aV,Kz] at aH he;exact bl ⟨by simpa using aH,he⟩
 refine⟨by simp[k.len],λb am F aH he=>?_,λb am F aH he=>?_,λb am F aH he=>?_⟩<;>rcases get b am F aH he with⟨q,r⟩|⟨I,s,q,r,rfl,rfl⟩
 exact k.key b am F q r;exact ay;exact k.val b am F q r;exact a3;exact k.born b am F q r;exact k.born b I s q r;intro s aQ;have:s.born∈(i.modify l λF=>{F with key:=b8 y U,val:=b8 y C}).toList.map (·.born):=cV.2 ⟨s,aQ,p⟩;rw[Y l (λF=>{F with key:=b8 y U,val:=b8 y C}) λ_=>p] at this;obtain⟨aL,aR,aZ⟩:=cV.1 this;rw[<-aZ];exact a4 aL aR;rw[Y l (λF=>{F with key:=b8 y U,val:=b8 y C}) λ_=>p];exact a7;simp[dE,ax,az,Instr.mapUpdate,run_underlying au.u,Db w,E.gB,L,OJ w,aO,<-aP,E.stay]
def ZT{k j r:aw}{I:i_}{D n E q:Z}{l U C:aM}{f i A d:Z}{c:X (V×V×Z)}{b e:V}(w:cz P k (.map j r) D n)(s:cz P j I E q)(x:K.op=.mapUpdate k l U C)(y:O.val m l=W (.j5 f i))(t:O.g[A]?=W (f,.map i c d))(z:O.val m U=W b)(B:O.val m C=W e)(u:b.isKey I)(v:n1 I c):fz P m K O .undef (aK O.g A (f,.map i (lM c d b e).1 (lM c d b e).2)):=ZS w x y t z B<|v9.of s u v
def apk{au ao aD aU:aw}{I:i_}{aV aA aW aB:Z}{ay U:aM}{k w A l:Z}{b:X (V×V×Z)}{i:V}(M:cz P au (.map ao aD) aV aA)(v:cz P ao I aW aB)(Q:K.op=gi {callee:=hX .delete,args:=#[ay,U],argTypes:=#[au,aU]})(aN:O.val m ay=W (.j5 k w))(G:O.g[A]?=W (k,.map w b l))(aS:O.val m U=W i)(J:i.isKey I)(aJ:n1 I b):fz P m K O (.tuple []) (aK O.g A (k,.map w (qB b i) l)):=by
 refine .of λy D N B=>?_;let⟨ar,R,c,aL,aR,aG,al,r,s,T,a7⟩:=B.j5 aN G;let S:=B.val aS;let H:=V.Mz S J;let E:∀j,nd N (qB b i) j->(∀F∈bo j,F.born<l)->eb (aa (·.born)<|bo j)->cI P (dE (b8 y) K) D=cS (.value<|rU #[]) {D with heap:=qX D.heap R (.map j l)}->∃C bE x az ax,N.le x/\bj x az C/\Holds m x ax bE/\(cI P (dE (b8 y) K) D=cS (.value C) bE\/C=undef/\cI P (dE (b8 y) K) D=cS .skip bE)/\az=.tuple []/\ax=aK O.g A (k,.map w (qB b i) l):=by intro j aP aQ a2 aO;let L:N.le (N.hz k ar):=bh.lL λa3 t=>ap;refine⟨_,_,N.hz k ar,.tuple [],_,L,.tuple [] [] p av,B.dt.xa G aL p (bz _) (λ_=>p) (bl p) (by grind[aht]) ?_,bl aO,p,p⟩;exists aR,R,j,aG,(heap_set r).1,aP.mono L,aQ
 rcases s.find S J aJ with⟨t,z⟩|⟨f,am,F,t,z,aY,aF,aZ⟩;let ak:qB b i=b:=by simp[qB,t]
 apply E c ap T a7;simp[dE,Q,al,rV,invoke,builtin,Builtin.delete_,run_underlying M.u,Db r,run_checkKey v.u H,run_findKey v.u z,OJ r];let ak:qB b i=pB b f:=by simp[qB,t]
 let aI:f<bB c:=(vS.1 aF).1;let he:bo (c.eraseIdxIfInBounds f)=pB (bo c) f:=by unfold Array.eraseIdxIfInBounds;rw[Ck aI,Array.toList_eraseIdx]
 let Y:(c.eraseIdxIfInBounds f).toList.Sublist (bo c):=by rw[he];exact Wj _ _
 refine E (c.eraseIdxIfInBounds f) ?_ (λaC aE=>T aC<|Y.subset aE) ((Y.map _).nodup a7) ?_;rw[ak];let get:∀(d:Z) am F,(pB b f)[d]?=W am->(c.eraseIdxIfInBounds f)[d]?=W F->∃e:Z,b[e]?=W am/\c[e]?=W F:=by intro d am F aH a0;rw[List.getElem?_eraseIdx] at aH;split at aH;grind;grind
 refine⟨?_,λd am F aH he=>?_,λd am F aH he=>?_,λd am F aH he=>?_⟩;rw[<-yJ,he,ajT,ajT];simp[s.len];let⟨e,n,q⟩:=get d am F aH he;exact s.key e am F n q;let⟨e,n,q⟩:=get d am F aH he;exact s.val e am F n q;let⟨e,n,q⟩:=get d am F aH he;exact s.born e am F n q;simp[dE,Q,al,rV,invoke,builtin,Builtin.delete_,run_underlying M.u,Db r,run_checkKey v.u H,run_findKey v.u z,OJ r]
def atf{D:bZ}{r n k:aw}{z s R t:Z}{N:bh}{j:X (V×V×Z)}{c:b4 lX}{q am:bt}{d:da (Z×V)}(m:cz P r (.map n k) z s)(aH:ky P k am)(l:D.heap[R]?=W (.map c t))(x:nd N j c)(f:v9 P n D q j c d)(i:Y):∃g,bj N ((d.map (·.2)).getD (V.const am)) g/\cI P (Instr.lookup r (.map (W R)) q i) D=cS (if i then rU #[g,iv (d.map (·.2)).isSome] else g) D:=by
 rcases f.find with⟨b,e⟩|⟨y,C,F,b,e,v,w,A⟩;exists am,by grind[bj.const]
 simp[Instr.lookup,run_underlying m.u,Db l,f.gB,e,aH.run,b];exists F.val,by simp[b];exact x.val y C F v w
 simp[Instr.lookup,run_underlying m.u,Db l,f.gB,e,b]
def adn(s:da V)(am:bt)(b:Y):V:=if b then .tuple [s.getD (V.const am),.bool s.isSome] else s.getD (V.const am)
def td(c:X (V×V×Z))(b:V)(am:bt)(d:Y):V:=if d then .tuple [(Dt c b).getD (V.const am),.bool (Dt c b).isSome] else(Dt c b).getD (V.const am)
def ate{N:bh}{s:da V}{am c:bt}{b:Y}(q:bj N (s.getD (V.const am)) c):bj N (adn s am b) (if b then rU #[c,iv s.isSome] else c):=by
 cases b;exact q;refine .tuple _ _ p λf U bn e d=>?_
 match f with|0=>simp_all|1=>simp at e d;subst e;subst d;exact .bool _|f+2=>trivial
def age{r n f:aw}{J v:Z}{s U:aM}{l t A w:Z}{c:X (V×V×Z)}{e:V}{am:bt}{b:Y}{i:da (Z×V)}(E:cz P r (.map n f) J v)(aH:ky P f am)(F:K.op=.lookup r s U b)(G:O.val m s=W (.j5 l t))(C:O.g[A]?=W (l,.map t c w))(I:O.val m U=W e)(u:∀{D N q d},nd N c d->bj N e q->v9 P n D q c d i):dh P m K O (adn (i.map (·.2)) am b):=.same λy D N j=>by let⟨T,R,d,M,S,L,H,B,k,Q,a7⟩:=j.j5 G C;let⟨ak,x,z⟩:=atf E aH B k (u k<|j.val I) b;exact⟨_,ate x,by simp[dE,F,H,Sem.run_bind,z,Result.andThen_ok]⟩
def awL{j i e:aw}{I:i_}{B n C q:Z}{k U:aM}{f l A r:Z}{c:X (V×V×Z)}{b:V}{am:bt}{d:Y}(w:cz P j (.map i e) B n)(s:cz P i I C q)(aH:ky P e am)(x:K.op=.lookup j k U d)(y:O.val m k=W (.j5 f l))(t:O.g[A]?=W (f,.map l c r))(z:O.val m U=W b)(u:b.isKey I)(v:n1 I c):dh P m K O (td c b am d):=age w aH x y t z<|v9.of s u v
def awH{d x k:aw}{z i:Z}{e:aM}{c f A j:Z}{b:X (V×V×Z)}(r:cz P d (.map x k) z i)(s:K.op=gi {callee:=hX .len,args:=#[e],argTypes:=#[d]})(t:O.val m e=W (.j5 c f))(q:O.g[A]?=W (c,.map f b j)):dh P m K O (.int aj (Q b)):=.same λy D N l=>by let⟨H,R,B,E,G,C,w,n,v,F,a7⟩:=l.j5 t q;exists ek _ _,.int _ _;simp[dE,s,w,rV,invoke,builtin,Builtin.len_,run_underlying r.u,Db n,goInt,v.len]
end
end
section
variable{P:ct}{m:db}{ops:b4 a4}{K:a4}{L:X a4}{O eO:a9}{al:c_->a9->Prop}{x:V}{az:b0}
def bm.yA{y:fS}{D:bZ}{N:bh}(q:bm m O y D N)M:bm m ⟨O.b,O.g++[(N.n,.jH M)]⟩ y D (N.hz N.n ⟨ah,0,0,0,M⟩):=by
 let e:N.le (N.hz N.n ⟨ah,0,0,0,M⟩):=bh.lL λj c=>by rw[N.fresh _<|bz _] at c;cases c
 exact⟨q.dt.new (m7:=.jH M) (dD:=⟨ah,0,0,0,M⟩) (bE:=D) (bl p) ⟨p,p,p,bz _,λ_ _ _=>p⟩ ⟨p,p,p⟩,λS U d=>by let⟨i,c,f⟩:=q.b S U d;exact⟨i,c,f.mono e⟩,λs U d=>(q.hv s U d).mono e,q.size,q.defers⟩
def fh.yA{c:hG}M(q:∀e,fh P m c ⟨O.b,O.g++[(e,.jH M)]⟩ al):fh P m c O al:=λy D N d=>q N.n y D _<|d.yA M
def cK.yA M(q:∀e,cK P m ops L ⟨O.b,O.g++[(e,.jH M)]⟩ al):cK P m ops L O al:=λd y D N c=>q N.n d y D _<|c.yA M
def Holds.setObj{N:bh}{g:b0}{D:bZ}(q:Holds m N g D){A i:Z}{r j:cD}(z:g[A]?=W (i,r))(C:∀L,lz N D L r->lz N D L j):Holds m N (aK g A (i,j)) D:=by
 let f:∀b K,(b,K)∈aK g A (i,j)->∃d,(b,d)∈g/\∀L,lz N D L d->lz N D L K:=by intro b K c;rcases FB c with c|⟨t,y,c⟩;grind;grind
 let s:aa (·.1) (aK g A (i,j))=aa (·.1) g:=by rw[hW];apply jI;intro t;rw[rO];split;grind;rfl
 refine⟨q.le,q.B,q.m0,q.m4,q.m5,λb K c=>?_,q.kD,q.ma,λb K c=>?_,by rw[s];exact q.lj,λb K L R c=>?_,λb K n d L u R c e=>?_⟩;let⟨d,e,_⟩:=f b K c;exact q.own b d e;let⟨d,e,k⟩:=f b K c;let⟨L,l,x⟩:=q.gy b d e;simp_all;let⟨d,e,_⟩:=f b K c;exact q.kS b d L R e;let⟨w,k,_⟩:=f b K c;let⟨v,l,_⟩:=f n d e;exact q.inj b w n v L u R k l
def RJ{S c5 F:aw}{G ci M ec:Z}{am:bt}{U C:aM}{d A i:Z}{k:X V}(bW:cz P S (dP F) G ci)(he:hs P F M ec)(aH:ky P F am)(ug:bB (dU am)=M)(x:K.op=gi {callee:=hX rT,args:=#[U,C],argTypes:=#[S,c5]})(H:O.val m U=W .ba)(j:O.g[A]?=W (d,.jH M))(E:k2 P m ⟨O.b,aK O.g A (d,.h 0 M F [])⟩ C c5 M i k)(Y:i<=mm)(ak:i*ec<=140737488355328):fz P m K O (.bO d 1 0 i) (aK O.g A (d,.h 1 M F k)):=by
 have:=(e3.1 j).1;have v:∀y D N,bm m O y D N->bm m ⟨O.b,aK O.g A (d,.h 0 M F [])⟩ y D N:=λy D N c=>
  ⟨c.dt.setObj j λL q=>⟨q.1,q.2.1,bl ⟨q.2.2,p⟩⟩,c.b,c.hv,c.size,c.defers⟩
 intro y D N c R T s;let⟨L,w,e⟩:=c.dt.gy d _<|eY j;have l:=c.val H;have I:b8 y U=gj ah 0 0:=by generalize b8 y U=Q at l;cases l;rfl
 have J:=ZR (off:=0) (A:=A) bW he aH ug x ap av E o a2
  y D N (v y D N c) ⟨L,w,⟨e.1,e.2.1,bl ⟨e.2.2,p⟩⟩,bl ⟨e.2.2,p,I⟩⟩
 obtain⟨Q,bE,n,ao,al,r,z,t,f,rfl,rfl⟩:=J;have u:=by simpa using t
 have B:=by simpa using z
 unfold Oper.wp;rcases f with f|⟨rfl,f⟩<;>rw[f];exact s _ _ n r B u;trivial
inductive r1(g:b0):V->V->Prop|h (id aP M:Z) (F:aw) (ia:X V) (U C:V) (hm:(id,cD.h aP M F ia)∈g) (q:tE id aP M ia U C):r1 g U C|map (id aP clock:Z) (k9:X (V×V×Z)) (hm:(id,cD.map aP k9 clock)∈g):r1 g (.j5 id aP) (.Ie k9 clock)
def r1.all{g:b0}(A:Z){id aP M b:Z}{F:aw}{ia:X V}(c:g[A]?=W (id,.h aP M F ia))(q:b=Q ia):gv (r1 g) (.bO id aP 0 b) (.a M ia):=by subst q;have:=tE.bO (id:=id) (aP:=aP) (M:=M) (ia:=ia) 0 (Q ia) o;simp at this;exact .base _ _<|.h id aP M F _ _ _ (eY c) this
def r1.own{g:b0}(A b c:Z){e f M:Z}{F:aw}{d:X V}(i:g[A]?=W (e,.h f M F d))(q:b<Q d):gv (r1 g) (.own e f b c) (.ref M d b c):=.base _ _<|.h e f M F _ _ _ (eY i)<|.own b c q
def Holds.view{D:bZ}:∀g N,Holds m N g D->∃z,N.le z/\z.m=N.m/\(∀R K y,z.I R K=W y->hA D ⟨R,K,ah⟩=W y)/\(∀R E clock,z.J R=W (E,clock)->D.heap[R]?=W (.map E clock))/\∀U C,r1 g U C->∀y,bj z U y->bj z C y
|[],N,q=>⟨N,bh.le.refl N,p,q.kD,q.ma,λU C G=>by trivial⟩|(id,.h aw M F Z)::w,N,q=>by
 let⟨B,P,hm,O,L,X,S,Q,am⟩:=q.freeze (A:=0) p;let⟨l,f,k,u,v,e⟩:=Holds.view w B O;let ao:G2 B L M Z:=am;refine⟨l,P.trans f,bC k hm,u,v,λU C G=>?_⟩;cases G with
 |h c d x r s _ _ b j=>rcases fR.1 b with b|b;cases b;exact tE.key ap S Q (ao.mono f) _ _ j;exact e _ _ (.h c d x r s _ _ b j)|map c d n t b=>rcases fR.1 b with b|b;simp_all;exact e _ _ (.map c d n t b)
|(id,.map aw T clock)::w,N,q=>by
 let⟨B,L,R,E,P,hm,O,X,S,G,al,au,Q,a7⟩:=q.aqh (A:=0) p;let⟨l,f,k,u,v,e⟩:=Holds.view w B O;refine⟨l,P.trans f,bC k hm,u,v,λU C i=>?_⟩;cases i with
 |h c d x r s _ _ b j=>rcases fR.1 b with b|b;simp_all;exact e _ _ (.h c d x r s _ _ b j)|map c d n t b=>
  rcases fR.1 b with b|b;cases b;intro y ar;cases ar with|j5 _ _ aA y Y az ay ak=>rw[k,hm,X] at Y;cases Y;obtain⟨ax,i,rfl⟩:=ak<|bG S;rw[G] at i;cases i;let H:=au.mono f;exact .Ie T clock R E (f.J _ _ al) H.len H.key H.val H.born Q a7
  exact e _ _ (.map c d n t b)
|(id,.iter T clock seen)::w,N,q=>by
 let⟨l,f,k,u,v,e⟩:=Holds.view w N<|q.drop<|aj0 _ _;refine⟨l,f,k,u,v,λU C i=>?_⟩;cases i with
 |h c d x r s _ _ b j=>rcases fR.1 b with b|b;cases b;exact e _ _ (.h c d x r s _ _ b j)|map c d n t b=>rcases fR.1 b with b|b;cases b;exact e _ _ (.map c d n t b)
|(id,.jH M)::w,N,q=>by let⟨l,f,k,u,v,e⟩:=Holds.view w N<|q.drop<|aj0 _ _;refine⟨l,f,k,u,v,λU C i=>?_⟩;cases i with|h c d x r s _ _ b j=>rcases fR.1 b with b|b;cases b;exact e _ _ (.h c d x r s _ _ b j)|map c d n t b=>rcases fR.1 b with b|b;cases b;exact e _ _<|.map c d n t b
def tC(dA:V->V->Prop):X V->X V->Prop|[],b=>b=[]|U::c,C::b=>gv dA U C/\tC dA c b|_::_,[]=>h7
def tC.get{dA:V->V->Prop}:∀{c d:X V},tC dA c d->Q c=Q d/\∀(b:Z) C,d[b]?=W C->∃U,c[b]?=W U/\gv dA U C
|[],d,q=>by grind[tC]|U::c,[],q=>q.elim|U::c,C::d,q=>by
 cases tC.get q.2;refine⟨aY,λb am aH=>?_⟩;cases b;simp at aH;subst aH;exact⟨U,p,q.1⟩
 next b=>simp_all
def V.flat:V->Y
|.bool _|.int _ _|.str _|.jD|.ba|.yh|.yf|.yg=>af|.tuple L=>L.all λ|.bool _|.int _ _|.str _|.jD|.ba|.yh|.yf|.yg=>af|_=>ad
|_=>ad
def bj.flat{N e:bh}{U:V}{d:bt}(q:bj N U d)(b:U.flat):bj e U d:=by
 cases q with
 |bool R=>exact .bool R|int A T=>exact .int A T|str L=>exact .str L|jD=>exact .jD|ba=>exact .ba|yh=>exact .yh|yf=>exact .yf|yg=>exact .yg|tuple k j f q=>refine .tuple k j f λi C bn c g=>?_;simp[V.flat,m9] at b;let l:=b C<|eY c;cases q i C bn c g<;>first|trivial|exact .bool _|exact .int _ _|exact .str _|exact .jD|exact .ba|exact .yh|exact .yf|exact .yg
 |_=>trivial
def fA.au1{d:X (Z×V)}{ao:gP}{e:X V}(q:∀N(c:X bt) D,Q c=Q e->(∀(f:Z) U b,e[f]?=W U->c[f]?=W b->bj N U b)->∃b,bj N x b/\px P ao (aT c) D (·=mM b/\·=D)):fA P d ao e x:=by intro N c D n g i k l;let⟨b,m,j⟩:=q N c D g i;apply j.mono;grind
theorem cW.refl{dA:V->V->Prop}:∀L,cW dA L L|[]=>.nil|b::L=>.same b<|cW.refl L
def fh.perm{d:hG}e(f:hI e O.g)(q:fh P m d ⟨O.b,e⟩ al):fh P m d O al:=λy D N c=>q y D N ⟨c.dt.perm f,c.b,c.hv,c.size,c.defers⟩
def fA.ofInt{d:X (Z×V)}{ao:gP}{A:dw}{T:J}{b:bt}(j:∀N,bj N x b)(q:∀D,px P ao #[ek A T] D (·=mM b/\·=D)):fA P d ao [.int A T] x:=by
 intro N f D k c e g i
 match f,c with|[y],_=>have:=e 0 _ _ p p;cases this;apply (q D).mono;rintro F bE ⟨rfl,rfl⟩;grind
def fA.ofBool{d:X (Z×V)}{ao:gP}{R:Y}{b:bt}(j:∀N,bj N x b)(q:∀D,px P ao #[iv R] D (·=mM b/\·=D)):fA P d ao [.bool R] x:=by
 intro N f D k c e g i
 match f,c with|[y],_=>have:=e 0 _ _ p p;cases this;apply (q D).mono;rintro F bE ⟨rfl,rfl⟩;grind
def Ye:∀(b:X v)(M:v1),(b.map λR=>(aG R:Int)).foldl (λx T=>x.push<|gk<|aB T) M=M++⟨aT b⟩|[],M=>by apply ByteArray.ext;simp|R::b,M=>by simp only[iO,PA];rw[Ye b<|M.push<|gk<|aB (aG R:J)];apply ByteArray.ext;simp
def Rn{D:bZ}{d c F:aw}{l g m i n j:Z}{nl:X v}{y:Addr}{e:Z}(k:cz P d (dP F) l g)(he:cz P F (.int .u8) n j)(bW:cz P c ml m i)(q:∀b R,nl[b]?=W R->hA D (y.add b)=W (ek .u8 (aG R:Int))):cI P (convert d c (gj (W y) (Q nl) e)) D=cS (mO ⟨aT nl⟩) D:=by
 rw[run_convert_bytes_string D d c F _ _ _ k.u he.u bW.u];let f:=run_loadCells (P:=P) (w:=D) y (Q nl) (λb=>ek .u8<|aG<|(nl[b]?).getD 0) (λb r=>by simp_all);let he:((bJ<|Q nl).map λb=>ek .u8<|aG<|(nl[b]?).getD 0)=aa (ek .u8) (nl.map λR=>aG R):=by apply rN;simp;grind
 rw[he] at f;rw[run_bytesToString D y _ e _ f,Ye];congr 2
def avx{e b F:aw}{A n B q C r:Z}{U:aM}{nl:X v}(g:cz P e (dP F) A n)(he:cz P F (.int .u8) C r)(bW:cz P b ml B q)(J:K.op=.convert e b U)(z:O.val m U=W (.a 1 (aa bR nl))):dh P m K O (.str nl):=.same λy D N k=>by
 have f:=k.val z;generalize M:b8 y U=E at f;generalize c:aa _ nl=h at f;exists _,.str nl;have:cI P (convert e b E) D=cS (mO ⟨aT nl⟩) D:=by
  cases f with
  |slnil=>
   have:=by simpa using c
   subst this;rw[run_convert_bytes_string D e b F _ _ _ g.u he.u bW.u];rfl|z_ _ G=>
   have:=by simpa using c
   subst this;exact Rn (nl:=[]) g he bW av|a _ _ R base cap val H I L t x=>
   have hlen:Q h=Q nl:=by rw[<-c];simp
   rw[hlen];refine Rn g he bW λd s w=>?_;have l:h[d]?=W (bR s):=by rw[<-c,c4,w];rfl
   have i:=k.dt.kD _ _ _<|t d 0 _ _ l p;have j:=x d 0 _ _ l p;rw[Addr.add_lit];simp at i;rw[i];generalize val d 0=bn at j;cases j;rfl
 simp_all[dE,Sem.run_bind,Result.andThen_ok]
def avw{f c F:aw}{az z aA n aB B:Z}{U:aM}{b:X v}{w x e l A:Z}{E:aw}{i:X V}(t:cz P f (dP F) az z)(he:cz P F (.int .u8) aB B)(bW:cz P c ml aA n)(aL:K.op=.convert f c U)(ax:O.val m U=W (.bO w x e l))(Y:O.g[A]?=W (w,.h x 1 E i))(hlen:l=Q b)(I:ak l (aU e i)=aa bR b):dh P m K O (.str b):=.same λy D N H=>by
 let⟨L,aJ,am,M⟩:=H.bO ax Y;subst hlen;refine⟨_,.str b,?_⟩;let aN:cI P (convert f c<|b8 y U) D=cS (mO ⟨aT b⟩) D:=by
  rcases M with⟨_,G,j⟩|⟨R,ay,cap,J,j,aK,aF,d⟩;rw[j];have:=m_ G;subst this;rw[run_convert_bytes_string D f c F _ _ _ t.u he.u bW.u];rfl;rw[j];refine Rn t he bW λk C r=>?_;let T:=(e3.1 r).1;let ao:=by
   have:(ak (Q b) (aU e i))[k]?=W (bR C):=by rw[I,c4,r];rfl
   rw[rP,ae T,vT] at this;exact this
  obtain⟨_,ar,⟨aE,_⟩|⟨n,aC,q,S,aH,aI,aD,aG,al⟩⟩:=am;simp_all;rw[J] at q;cases q;let⟨bn,au,ap⟩:=al _ 0 _ _ ao p;rcases d with d|⟨d,_⟩;omega;rw[Addr.add_lit];have:ay+k=L.base+(e+k)*L.s+0:=by rw[d,ar];omega
  simp[hA,S];rw[this];rw[au];cases ap;rfl
 simp_all[dE,Sem.run_bind,Result.andThen_ok]
def r6(d:Z->da (Z×Z)):X V->X (Z×V)->da (X V)
|b,[]=>W b|b,(e,I)::f=>
 match d e with|W (c,size)=>if Q I.cells=size/\c+size<=Q b then r6 d (ak c b++I.cells++aU (c+size) b) f else ah|ah=>ah
def aaM{off:Z}:∀c A(b:X bt),off+A+Q c<=Q b->(c.zipIdx A).foldl (λb U=>qX b (off+U.2) U.1) (aT b)=aT (ak (off+A) b++c++aU (off+A+Q c) b)
|[],A,b,_=>av|U::c,A,b,q=>by
 simp;rw[aaM c _ _ aY];let e:ak (off+(A+1)) (aK b (off+A) U)=ak (off+A) b++[U]:=by
  let d:ak (off+A) (aK b (off+A) U)=ak (off+A) b:=by apply jI;intro g;rw[rP,rP];split;grind;rfl
  rw[<-Ce,Ee aY,d];simp
 let f:aU (off+(A+1)+Q c) (aK b (off+A) U)=aU (off+A+(Q c+1)) b:=by rw[List.drop_set_of_lt o];congr 1;omega
 simp_all
def RY{N:bh}{u:Z->da (Z×Z)}:∀k m d e j,Q k=Q m->(∀(s:Z) l f,k[s]?=W l->m[s]?=W f->l.1=f.1/\qf N l.2 f.2.cells.toList)->qf N (.agg d) e->r6 u d k=W j->∃z,Instr.fill u (aT e) m=W (aT z)/\qf N (.agg j) z
|[],[],d,e,j,_,_,i,q=>by simp[r6] at q;subst q;exists e,p|[],_::_,_,_,_,q,_,_,_=>cc|_::_,[],_,_,_,q,_,_,_=>cc|(L,I)::k,(R,g)::m,d,e,j,hlen,y,i,q=>by
 let⟨w,n⟩:=y 0 _ _ p p;dsimp at w n;subst w;unfold r6 at q;unfold Instr.fill;cases H:u L;simp_all
 next f=>
  let⟨off,size⟩:=f;rw[H] at q;dsimp at q⊢;split at q;rename_i A;let⟨x,P⟩:=A;let J:Q e=Q d:=i.1;let t:bB (dU g)=size:=by rw[<-yJ,n.1,x]
  let B:¬(bB (dU g)≠size||aL (off+bB (dU g)>bB (aT e))):=by simp[t];omega
  rw[ab B];let E:(dU g).zipIdx.foldl (λd U=>qX d (off+U.2) U.1) (aT e)=aT (ak off e++bo (dU g)++aU (off+size) e):=by have:=aaM (off:=off) (bo<|dU g) 0 e a2;simp only[uM,yJ,t] at this;rw[<-this,<-ajx,ajF]
  rw[E];refine RY k m _ _ j aY (λs l f M O=>y (s+1) l f cc cc) ?_ q;let D:Q I.cells=size:=x;let K:Q (bo<|dU g)=size:=by simpa using t
  refine⟨?_,?_,?_⟩;show _=Q (ak off d++I.cells++aU (off+size) d)
  (simp;omega)
  intro U b;rcases eX.1 b with b|b;rcases eX.1 b with b|b;exact i.2.1 U<|tu b;exact n.2.1 U b;exact i.2.1 U<|Kh b;intro v C U c b;let c:(ak off d++I.cells++aU (off+size) d)[v]?=W C:=c;rw[fJ] at b c;rw[oQ] at c b;simp[mK,J,PR<|show off<=Q d by omega] at c b;split at c;rename_i r;rw[ae r] at b;rw[rP,ae r] at c b;exact i.2.2 v C U c b;rename_i F;rw[ab F] at b;rw[oQ] at c b;simp only[D,K] at c b;split at c;rename_i r;rw[ae r] at b;exact n.2.2 _ C U c b;rename_i G;rw[ab G] at b;rw[vT] at c b;exact i.2.2 _ C U c b;trivial
def vE(m:db)(O:a9):X (Z×aM)->da (X (Z×V))|[]=>W []|(c,U)::x=>match O.val m U,vE m O x with|W I,W b=>if I.fits then W ((c,I)::b) else ah|_,_=>ah
def vE.get:∀{d:X (Z×aM)}{b:X (Z×V)},vE m O d=W b->Q d=Q b/\∀(e:Z) c,b[e]?=W c->∃U,d[e]?=W (c.1,U)/\O.val m U=W c.2/\c.2.fits|[],b,q=>by grind[vE]|(j,U)::x,b,q=>by unfold vE at q;split at q;rename_i I g i f;split at q;simp at q;cases vE.get f;grind;trivial;trivial
structure G4(P:ct)(S:aw)(pl:X (Z×Z)):Prop where
 h:(match ij P S with|W (.struct bv)=>(bo bv).mapM λao=>(P.info? ao.type).map λE=>(ao.offset,E.size)|_=>ah)=W pl
def G4.run{S:aw}{b:X (Z×Z)}(q:G4 P S b):∃bv,ij P S=W (.struct bv)/\∀D,cI P (bv.mapM λao=>(do Pure.pure (ao.offset,<-sizeOf ao.type):Sem (Z×Z))) D=cS (aT b) D:=by
 have q:=q.h;split at q;rename_i bv d;refine⟨bv,d,λD=>?_⟩;let⟨L⟩:=bv;have:∀(L:X Field) b,(L.mapM λao=>(P.info? ao.type).map λc=>(ao.offset,c.size))=W b->cI P (L.mapM λao=>(do Pure.pure (ao.offset,<-sizeOf ao.type):Sem _)) D=cS b D:=by
  intro L
  induction L
  simp_all
  next ao L f=>
   intro b q;simp only[D_,akn,ako,Ef,Option.pure_def,hr] at q;obtain⟨g,⟨c,j,rfl⟩,x,e,rfl⟩:=q;have:cI P (sizeOf ao.type) D=cS c.size D:=by simp[sizeOf,typeInfo,j]
   simp_all
 simp_all;trivial
def avv{S:aw}{am:bt}{i:b4 (Z×aM)}{c:X (Z×Z)}{e:X (Z×V)}{b:X V}(s:G4 P S c)(aH:ky P S am)(r:K.op=.build S i)(t:vE m O (bo i)=W e)(l:r6 (c[·]?) (V.zero am).cells e=W b):dh P m K O (.agg b):=.same λy D N k=>by let⟨bv,u,n⟩:=s.run;let⟨hlen,q⟩:=vE.get t;let⟨A,B,f⟩:=RY e ((bo i).map λd=>(d.1,b8 y d.2)) _ _ b ap (λz d E j g=>by let⟨U,v,w,x⟩:=q z d j;rw[c4,v] at g;simp at g;subst g;exact⟨p,(k.val w).Ip x⟩) (qf.zero aH N) l;exists iH _,.agg b A (bG f.1) f.2.1 f.2.2;let C:((aT c)[·]?)=(λU:Z=>c[U]?):=av;simp[dE,r,Instr.build,Sem.run_bind,aH.run,run_underlying u,n];simp_all
def avF{S F:aw}{G ci ec d l:Z}{U f:aM}{g:X V}{M e c b:Z}{A:dw}{T:J}(bW:cz P S (oV l F) G ci)(he:hs P F d ec)(s:K.op=qd S U f)(z:O.val m U=W (.ref M g e c))(q:O.val m f=W (.int A T))(a7:T=(b:J))(r:b<l):dh P m K O (.ref M g e (c+b*d)):=.same λy D N k=>by have i:=k.val z;have j:=k.val q;generalize x:b8 y U=B at i;generalize w:b8 y f=bn at j;cases j;subst a7;cases i with|ref _ _ _ _ R base val v n t=>have:=bj.ref M g e (c+b*d) R _ val v n t;refine⟨_,this,?_⟩;simp[dE,s,x,w,Instr.indexAt,yW,asIntOf,run_underlying bW.u,he.kW,r,Addr.add_lit]
def avG{S F:aw}{G ci ec k:Z}{U c:aM}{b e j H M d:Z}{l:aw}{n:X V}{A:dw}{T:J}(bW:cz P S (oV k F) G ci)(he:hs P F M ec)(w:K.op=qd S U c)(E:O.val m U=W (.own b e j 0))(t:O.g[H]?=W (b,.h e M l n))(r:O.val m c=W (.int A T))(a7:T=(d:J))(s:d<k):dh P m K O (.own b e (j+d) 0):=.same λy D N i=>by let⟨L,R,v,x,q,z,C⟩:=i.own E t;have f:=i.val r;generalize B:b8 y c=bn at f;cases f;subst a7;refine⟨lu _,.own _ _ _ _ L _ v (by rw[x.1];omega) p λ_=>⟨R,q,by rw[z]⟩,?_⟩;simp[dE,w,C,B,Instr.indexAt,yW,asIntOf,run_underlying bW.u,he.kW,s,Addr.add_lit,iG]
def avL{S F:aw}{G ci ec M len:Z}{U:aM}{q n:da aM}{f i c A:Z}{r:aw}{e:X V}{b d:Z}(bW:cz P S (oV len F) G ci)(he:hs P F M ec)(I:K.op=.slice S U q n ah)(Y:O.val m U=W (.own f i c 0))(C:O.g[A]?=W (f,.h i M r e))(E:r8 m O q 0 b)(B:r8 m O n len d)(t:b<=d)(v:d<=len)(ao:c+len<=Q e)(ap:len<=mm):dh P m K O (.bO f i (c+b) (d-b)):=.same λy D N j=>by
 let⟨L,R,H,k,w,l,T⟩:=j.own Y C;let J:L.base+Q e*L.s<=L.size:=by obtain⟨_,_,⟨am,_⟩|⟨ak,al,_,_,_,z,_⟩⟩:=k;simp_all;exact z
 refine⟨gj (W<|if len=b then⟨R,L.base+c*M,ah⟩ else⟨R,L.base+c*M+b*M,ah⟩) (d-b)<|len-b,?_,?_⟩;refine .bO _ _ _ _ L _ H (by rw[k.1];omega) p λ_=>bp ⟨R,if len=b then L.base+c*M else L.base+c*M+b*M,len-b,w,?_,o,o,?_⟩;grind;by_cases x:len=b;omega;right;rw[ab x,l];exists by grind
 rw[l] at J;have:(c+b+(len-b))*M<=Q e*M:=jU _ o;omega;simp[dE,I,Instr.sliceAt,T,PW,Sem.run_bind,run_underlying bW.u,Result.andThen_ok,yW,Sem.run_pure,OQ (P:=P) j (R:=ad) (len:=len) (cap:=len) E B t v,he.kW,Addr.add_lit,uM]
def cK.alu{S F:aw}{T:Z}{bn:bt}(i:O.guard ops K=W af)(r:K.op=.alloc S)(aH:(P.info? S).bind (·.zero)=W (iH (ty T bn)))(s:jv bn)(q:∀d,cK P m ops L (({O with g:=O.g++[(d,.h 0 1 S<|cM T<|V.leaf bn)]}:a9).put K.dst (.own d 0 0 0)) al):cK P m ops (K::L) O al:=.ow i λy D N e=>by
 have:(V.leaf bn).cells=[V.leaf bn]:=by unfold V.leaf;split<;>rfl
 have k:=e.dt.new (m7:=.h 0 1 S<|cM T<|V.leaf bn) (dD:=⟨W _,0,0,T,1⟩) (bp ⟨bB D.heap,p,bz _⟩) (World.grownBy_alloc D _ _)
  ⟨p,p,bp ⟨bB D.heap,ty T bn,p,heap_alloc_new D _,av,av,λc x t=>by
   grind,λc I f=>by grind,λc l I U f u=>by grind[bj.leaf]⟩⟩
 refine⟨lu<|W ⟨bB D.heap,0,ah⟩,_,_,.own N.n 0 0 0,_,(bh.lL λw b=>by rw[N.fresh _<|bz _] at b;cases b),.own _ _ _ _ _ _ (N.nC _ _) (bz _) p λ_=>⟨bB D.heap,p,av⟩,k,bl ?_,q N.n⟩;have:cI P (zeroValue S) D=cS (iH (ty T bn)) D:=by
  cases j:P.info? S;simp_all
  next v=>simp_all[zeroValue,typeInfo]
 simp_all[dE,Instr.alloc,newVar,newRow,dU]
end
def x7{T:J}:-9223372036854775808<=T->T<=9223372036854775807->nZ aj T:=by trivial
def abP{T:J}:0<=T->T<=18446744073709551615->nZ hf T:=by trivial
theorem Di{T:J}:0<=T->T<=255->nZ .u8 T:=by trivial
def hR{c n:Type}{L:X c}{ao:c->n}{b:Z}(q:b<Q L):(aa ao L)[b]?=W (ao L[b]):=by simp_all
def Pd(m:db)(O:a9):X aM->da (X V)|[]=>W []|U::x=>match O.val m U,Pd m O x with|W I,W b=>W (I::b)|_,_=>ah
def K0{m:db}{O:a9}:∀{c:X aM}{b:X V},Pd m O c=W b->pI m O c b|[],b,q=>by simp[Pd] at q;trivial|U::x,b,q=>by unfold Pd at q;split at q;rename_i I f d e;simp at q;subst q;exact⟨d,K0 e⟩;trivial
def JQ(m:db)(O:a9):X (Z×aM)->Z->da (X V)|[],_=>W []|(c,U)::x,T=>match O.val m U,JQ m O x (T+1) with|W I,W b=>if c=T/\I.fits then W (I::b) else ah|_,_=>ah
def afD{m:db}{O:a9}:∀{d:X (Z×aM)}{T:Z}{b:X V},JQ m O d T=W b->w1 m O d T b|[],_,b,q=>by simp[JQ] at q;trivial|(i,U)::x,T,b,q=>by unfold JQ at q;split at q;rename_i I g e f;split at q;rename_i c;simp at q;subst q;exact⟨c.1,e,c.2,afD f⟩;trivial;trivial
def Je(O:a9):X ik->da (X V)
|[]=>W []|.tmp S::x=>match cY S O.b,Je O x with
 |W U,W c=>W (U::c)|_,_=>ah
|.cell _ _::_=>ah
def agV{O:a9}:∀{jH:X ik}{b:X V},Je O jH=W b->yz O jH b|[],b,q=>by simp[Je] at q;trivial|.tmp S::x,b,q=>by unfold Je at q;split at q;rename_i U e c d;simp at q;subst q;exact⟨c,agV d⟩;trivial|.cell _ _::_,b,q=>cc
def aam{d:X ik}{c:V->b0->Prop}{O:a9}{b:X V}(e:Je O d=W b:=by rfl)(bk:c (cU b) O.g):ga.KL d c gA O:=⟨bp p,b,agV e,bk⟩
section
variable{P:ct}{m:db}{ops:b4 a4}{K:a4}{L:X a4}{ao:Z}{bv:X Z}{O:a9}{al:c_->a9->Prop}{x:V}{az:b0}
def kn{U:aM}(b:K.op=.move U:=by rfl)(c:O.val m U=W x:=by rfl):dh P m K O x:=agf b c
def F4{A:Z}{U:aM}{b c e d M:Z}{F:aw}{f:X V}(i:K.op=.nilCheck U:=by rfl)(j:O.val m U=W (.own b c e d):=by rfl)(hk:O.g[A]?=W (b,.h c M F f):=by rfl):dh P m K O (.own b c e d):=UX i j hk
def FY{A:Z}{S k:aw}{U:aM}{b c e d M f i T:Z}{F:aw}{j:X V}(l:uY P S f i k T)(a7:T≠0:=by decide)(n:K.op=.fieldAddr S U f:=by rfl)(q:O.val m U=W (.own b c e d):=by rfl)(hk:O.g[A]?=W (b,.h c M F j):=by rfl):dh P m K O (.own b c e<|d+i):=Uz l a7 n q hk
def N5{S:aw}{I:i_}{G ci:Z}{U:aM}{d:X V}{M c b:Z}{F:V}(bW:cz P S I G ci)(g:d[c]?=W F:=by exact WP)(f:oz I=ad:=by rfl)(i:K.op=.load S U:=by rfl)(j:O.val m U=W (.ref M d c b):=by rfl)(e:F.cells[b]?=W x:=by rfl):dh P m K O x:=agd bW f i j g e
def qG(A:Z){S:aw}{I:i_}{G ci:Z}{U:aM}{d f e b M:Z}{F:aw}{c:X V}{el:V}(bW:cz P S I G ci)(k:oz I=ad:=by rfl)(l:K.op=.load S U:=by rfl)(n:O.val m U=W (.own d f e b):=by rfl)(hk:O.g[A]?=W (d,.h f M F c):=by rfl)(j:c[e]?=W el:=by exact WP)(i:el.cells[b]?=W x:=by rfl):dh P m K O x:=I5 bW k l n hk j i
def N1{S F:aw}{G ci ec:Z}{U c:aM}{b:X V}{M E:Z}{A:dw}{T:J}(bW:cz P S (dP F) G ci)(he:hs P F M ec)(e:K.op=qd S U c:=by rfl)(f:O.val m U=W (.a M b):=by rfl)(d:O.val m c=W (.int A T):=by rfl)(a7:T=(E:J):=by rfl)(j:E<Q b:=by first|assumption|omega|(simp;done)|(simp;omega)):dh P m K O (.ref M b E 0):=agc bW he e f d a7 j
def tk(s:Z){S F:aw}{G ci ec:Z}{U d:aM}{b c f e M:Z}{i:aw}{k:X V}{E:Z}{r:dw}{T:J}(bW:cz P S (dP F) G ci)(he:hs P F M ec)(n:K.op=qd S U d:=by rfl)(q:O.val m U=W (.bO b c f e):=by rfl)(hk:O.g[s]?=W (b,.h c M i k):=by rfl)(l:O.val m d=W (.int r T):=by rfl)(a7:T=(E:J):=by rfl)(j:E<e:=by first|assumption|omega|(simp;done)|(simp;omega)):dh P m K O (.own b c (f+E) 0):=Of bW he n q hk l a7 j
def NR{S F:aw}{G ci M ec T:Z}{am:bt}{c:b4 (Z×aM)}{b:X V}(bW:cz P S (dP F) G ci)(he:hs P F M ec)(aH:ky P F am)(e:K.op=.buildSlice S T c:=by rfl)(f:JQ m O (bo c) 0=W b:=by rfl)(a7:T=Q b:=by rfl)(hlen:∀I∈b,Q I.cells=M:=by simp[V.cells,bR,V.const,V.leaf])(d:T*M<=2^24:=by decide)(g:0<M:=by decide):dh P m K O (.a M b):=UT bW he aH e (afD f) a7 hlen d g
def HO f{S:aw}{I:i_}{G ci:Z}{e U:aM}{c d E l M:Z}{F:aw}{ia:X V}{el b:V}(bW:cz P S I G ci)(n:K.op=.store S e U:=by rfl)(q:O.val m e=W (.own c d E l):=by rfl)(hk:O.g[f]?=W (c,.h d M F ia):=by rfl)(j:ia[E]?=W el:=by exact WP)(t:O.val m U=W b:=by rfl)(k:b.fits:=by rfl)(s:Q b.cells=G:=by rfl)(i:l+G<=Q el.cells:=by exact WQ)(r:(el.qP l b.cells).cells=ak l el.cells++b.cells++aU (l+G) el.cells:=by rfl):fz P m K O .undef (aK O.g f (c,.h d M F<|aK ia E<|el.qP l b.cells)):=CX bW.G n q hk j t k s i r
def ZQ{u:Z}{S c5 F:aw}{G ci M ec:Z}{am:bt}{U C:aM}{b c off len i:Z}{ia mV:X V}(bW:cz P S (dP F) G ci)(he:hs P F M ec)(aH:ky P F am)(ug:bB (dU am)=M:=by rfl)(f:K.op=gi {callee:=hX rT,args:=#[U,C],argTypes:=#[S,c5]}:=by rfl)(j:O.val m U=W (.bO b c off len):=by rfl)(hk:O.g[u]?=W (b,.h c M F ia):=by rfl)(e:off+len<=Q ia:=by exact P4)(hl:k2 P m O C c5 M i mV)(d:len+i<=mm:=by exact akr)(Df:(len+i)*ec<=140737488355328:=by exact P4):fz P m K O (.bO b (c+1) 0<|len+i) (aK O.g u (b,.h (c+1) M F<|ak len (aU off ia)++mV)):=HL bW he aH ug f j hk e hl d Df
def OW{U:aM}{c5 F:aw}{G ci M:Z}{h:X V}(bW:cz P c5 (dP F) G ci)(b:O.val m U=W (.a M h):=by rfl)(kC:∀I∈h,Q I.cells=M:=by simp[V.cells,bR,V.const,V.leaf]):k2 P m O U c5 M (Q h) h:=k2.a bW b kC
def ZP{u:Z}{S c5 F:aw}{G ci M ec:Z}{am:bt}{U C:aM}{c i:Z}{mV:X V}(bW:cz P S (dP F) G ci)(he:hs P F M ec)(aH:ky P F am)(ug:bB (dU am)=M:=by rfl)(e:K.op=gi {callee:=hX rT,args:=#[U,C],argTypes:=#[S,c5]}:=by rfl)(f:O.val m U=W .ba:=by rfl)(hk:O.g[u]?=W (c,.jH M):=by rfl)(hl:k2 P m ⟨O.b,aK O.g u (c,.h 0 M F [])⟩ C c5 M i mV)(d:i<=mm:=by exact akr)(Df:i*ec<=140737488355328:=by exact P4):fz P m K O (.bO c 1 0 i) (aK O.g u (c,.h 1 M F mV)):=RJ bW he aH ug e f hk hl d Df
end
def aty(A:dw):uQ A<((2^mN A:Z)):=by cases A<;>simp[uQ,Cn,mN]
theorem abO{A:dw}{T:Z}(q:(T:J)<=uQ A):nZ A T:=⟨by grind[Ej,Cn,mN],q⟩
theorem QG{A:dw}{y R:Z}(c:(y:J)<=uQ A)(d:(R:J)<=uQ A):nS .and A y R=((y&&&R:Z)):=by
 let b:=aty A;let F:nS .and A y R=k0 A (y&&&R):=by simp[nS,K_,ajG,BitVec.toNat_and,ajH];rw[xq o,xq o]
 grind[vO,abO,Nat.and_le_left]
def XV{y R:Z}(b:y<2^64)(c:R<2^64):nS .or hf y R=((y|||R:Z)):=by
 let F:nS .or hf y R=k0 IntKind.u64 (y|||R):=by simp[nS,K_,ajG,BitVec.toNat_or,ajH];simp[mN];rw[xq b,xq c]
 rw[F,vO<|abO (by have:=Nat.or_lt_two_pow b c;grind[uQ,Cn,mN])]
theorem JI:uQ IntKind.u64=18446744073709551615:=a3
theorem Pl T:k0 IntKind.u64 T=T%18446744073709551616:=a3
theorem Pk T:k0 IntKind.u8 T=T%256:=a3
def ayS{y l:Z}(q:l<=64):((y:J).fdiv (2^(min (aB (l:J)) 64)))=((y>>>l:Z)):=by rw[show aB (l:J)=l by simp,PR q,akh,Int.fdiv_eq_ediv_of_nonneg _ aY];rfl
section
variable{P:ct}{S:aw}{U C:aM}
end
def gM:X (Z×V)->Z->da V|[],_=>ah|(A,U)::x,S=>match eU S A with|af=>W U|ad=>gM x S
theorem tc:∀L S,gM L S=cY S L
|[],_=>p|(A,U)::x,S=>by
 rw[gM,qT];let q:(S==A)=eU S A:=by rw[lT];simp
 rw[q];cases eU S A;exact tc x S;rfl
abbrev ce:=Z->Z×Z
def V.ge(n:ce):V->V|.en S c b=>.own (n S).1 (n S).2 c b|.aq S d len=>.bO (n S).1 (n S).2 d len|.eW S=>.j5 (n S).1 (n S).2|.qA S=>.own (n S).1 0 0 0|.mA S c b=>.own (n S).1 (n S).2 c b|U=>U
def V.fI(n:ce):V->V|.func ao b c=>.func ao (aa (V.ge n) b) (aa (V.ge n) c)|U=>U.ge n
def V.li(n:ce):V->V|.agg b=>.agg (aa (V.fI n) b)|.vec T y b=>.vec T y (aa (V.fI n) b)|U=>U.fI n
def V.ay(n:ce):V->V|.tuple L=>.tuple (aa (V.li n) L)|U=>U.li n
def V.BP:V->Y|.en .. |.aq .. |.eW _|.qA _|.mA .. =>ad|_=>af
def fc(b:V->Y):X V->Y|[]=>af|U::L=>match b U with|af=>fc b L|ad=>ad
def V.yp:V->Y
|.func _ b c=>match fc V.BP b with
 |af=>fc V.BP c|ad=>ad
|U=>U.BP
def V.I3:V->Y|.agg b=>fc V.yp b|.vec _ _ b=>fc V.yp b|U=>U.yp
def V.plain:V->Y|.tuple L=>fc V.I3 L|U=>U.I3
theorem y8{c:V->Y}{ao:V->V}(q:∀U,c U->ao U=U):∀{L:X V},fc c L->aa ao L=L|[],_=>p|U::L,b=>by rw[fc] at b;split at b;rename_i d;rw[iO,q U d,y8 q b];simp_all
theorem qh{b:V->Y}:∀{L:X V},fc b L↔∀U∈L,b U|[]=>by simp[fc]|U::L=>by rw[fc];split;rename_i q;rw[qh];simp[q];simp_all
def V.aeA{n:ce}{U:V}(q:U.BP):U.ge n=U:=by cases U<;>first|rfl|grind[V.BP]
def V.IL{n:ce}{U:V}(q:U.yp):U.fI n=U:=by cases U with|func ao c d=>rw[V.yp] at q;split at q;rename_i b;simp only[V.fI];rw[y8 (λ_=>V.aeA) b,y8 (λ_=>V.aeA) q];simp_all|_=>first|rfl|simp[V.yp,V.BP] at q
def V.Ud{n:ce}{U:V}(q:U.I3):U.li n=U:=by cases U with|agg b=>simp[V.li];rw[y8 (λ_=>V.IL) q]|vec T y b=>simp[V.li];rw[y8 (λ_=>V.IL) q]|func ao c d=>exact V.IL (U:=.func ao c d) q|_=>first|rfl|simp[V.I3,V.yp,V.BP] at q
theorem V.gn{n:ce}{U:V}(q:U.plain):U.ay n=U:=by cases U with|tuple L=>simp[V.ay];rw[y8 (λ_=>V.Ud) q]|func ao b c=>exact V.IL (U:=.func ao b c) q|agg L=>exact V.Ud (U:=.agg L) q|vec T y L=>exact V.Ud (U:=.vec T y L) q|_=>first|rfl|simp[V.plain,V.I3,V.yp,V.BP] at q
def V.FI{n:ce}{U:V}(q:U.one):U.ay n=U.fI n:=by cases U<;>first|rfl|grind[V.one]
def V.NB{n:ce}{U:V}(q:U.one):(U.ay n).one:=by cases U<;>first|rfl|grind[V.one]
theorem V.yj{n:ce}{U:V}(q:U.fits):(U.ay n).fits:=by cases U<;>first|rfl|grind[V.fits,V.one]
def gl.fI{n:ce}(y:gl):aa (V.fI n) y.cells=y.cells:=by cases y<;>simp[gl.cells,V.fI,V.ge]
theorem V.rv{n:ce}{U:V}(q:U.fits):(U.ay n).cells=aa (V.fI n) U.cells:=by
 cases U<;>first|(show gl.cells _++_=aa _ (gl.cells _++_);rw[dn,gl.fI];done)|skip
 all_goals first|rfl|simp[V.fits,V.one] at q
theorem V.yi{n:ce}(U:V):(U.ay n).cells.length=Q U.cells:=by cases U<;>first|rfl|simp[V.ay,V.li,V.cells]
inductive cj where|cell (F:aw) (U:V)|h (M:Z) (F:aw) (xs:X V)|map (k9:X (V×V×Z)) (clock:Z)|iter (k9:X (V×V×Z)) (clock:Z) (seen:X Z)
def cj.az(n:ce)(c:Z):cj->cD|.cell F U=>.h c (Q U.cells) F [U.ay n]|.h M F d=>.h c M F d|.map b clock=>.map c b clock|.iter b clock seen=>.iter b clock seen
abbrev bU:=X<|Z×cj
def cx:bU->Z->da cj|[],_=>ah|(A,U)::x,S=>match eU S A with|af=>W U|ad=>cx x S
structure aI where
 b:X (Z×V)
 au:bU
 g:b0
def c6(n:ce)(b:Z×cj):Z×cD:=((n b.1).1,b.2.az n (n b.1).2)
def aX(n:ce)(L:bU):b0:=aa (c6 n) L
def dy(n:ce)(L:X (Z×V)):X (Z×V):=L.map λb=>(b.1,b.2.ay n)
def aI.ay(n:ce)(M:aI):a9:=⟨dy n M.b,M.g++aX n M.au⟩
theorem mB n:∀L S,cY S (dy n L)=(cY S L).map (V.ay n)|[],_=>p|(A,U)::x,S=>by rw[dy,iO,qT,qT];cases q:S==A;exact mB n x S;rfl
def aI.put(M:aI)(S:da Z)(U:V):aI:=match S with|W S=>{M with b:=(S,U)::M.b}|ah=>M
theorem aI.nA n(M:aI)S U:(M.put S U).ay n=(M.ay n).put S (U.ay n):=by cases S<;>rfl
def e5(d:X (Z×V)):Y:=d.all λb=>b.2.plain
def val(d:X (Z×V))(b:X (Z×V)):aM->da V|.tmp S=>gM b S|.const c=>W (V.const c)|.global s=>gM d s|.func ao=>W<|.func (dp ao) [] []
theorem V.To b:(V.leaf b).yp:=by unfold V.leaf;split<;>rfl
theorem V.acX b:(V.leaf b).plain:=by unfold V.leaf;split<;>rfl
theorem V.acY(L:X bt):(V.agg (aa V.leaf L)).plain:=qh.2 λU b=>by obtain⟨c,_,rfl⟩:=cV.1 b;exact V.To c
theorem V.aoi b:(V.const b).plain:=by unfold V.const;split;split;exact V.acY _;rfl;split<;>rfl;simp[V.acX]
theorem xb{m:db}(e:e5 m.G){n:ce}{b:X (Z×V)}{az:b0}{K:aM}{U:V}(q:val m.G b K=W U):(⟨dy n b,az⟩:a9).val m K=W (U.ay n):=by
 cases K
 next S=>grind[val,tc,a9.val,mB]
 next f=>grind[val,Option.some.injEq,a9.val,V.gn,V.aoi]
 next s=>rw[val,tc] at q;simp[a9.val];rw[q];let c:=TN q;let d:=m9.1 e _ c;rw[V.gn d]
 next ao=>simp[val,hr] at q;subst q;rfl
structure cP where
 d:i_
 size:Z
 bytes:Z
 agg:Y
 O:Y
 z:bt
 bv:X (Z×aw×Z)
inductive ix where|nil|node (L:ix) (A:Z) (E:cP) (x:ix)
def ix.find:ix->Z->da cP|.nil,_=>ah|.node L A b x,S=>match eU S A with|af=>W b|ad=>match ja S A with|af=>L.find S|ad=>x.find S
structure q3(P:ct)(S:aw)(E:cP):Prop where
 ays:E.O\/cz P S E.d E.size E.bytes
 ayo:E.O->E.agg
 jQ:E.agg\/oz E.d=ad
 alk:E.agg=ad\/Av P S E.size
 fd:∀cr off Md T,E.bv[cr]?=W (off,Md,T)->T≠0->uY P S cr off Md T
 nH:ky P S E.z
 G:hs P S E.size E.bytes
 pl:E.bv=[]\/G4 P S (E.bv.map λH=>(H.1,H.2.2))
def gV(P:ct):ix->Prop|.nil=>True|.node L A b x=>gV P L/\q3 P A b/\gV P x
theorem gV.find{P:ct}:∀{t:ix},gV P t->∀{S:Z}{b:cP},t.find S=W b->q3 P S b|.nil,_,_,_,q=>by grind[ix.find]|.node L A b x,⟨c,e,d⟩,S,f,q=>by rw[ix.find] at q;split at q;simp_all;split at q;exact c.find q;exact d.find q
def q3.sz{P:ct}{S:aw}{b:cP}(q:q3 P S b)(d:b.agg=ad):b.O=ad:=by cases c:b.O;rfl;have:=q.ayo c;simp_all
def q3.hb{P:ct}{S:aw}{b:cP}(q:q3 P S b)(c:b.O=ad):cz P S b.d b.size b.bytes:=kx q.ays aY
def q3.AO{P:ct}{S:aw}{b:cP}(q:q3 P S b)(c:b.agg):Av P S b.size:=kx q.alk aY
structure gS(t:ix)(S:aw)(I:i_):Prop where
 h:∃lr,t.find S=W lr/\lr.d=I/\lr.O=ad
def gS.fo{P:ct}{t:ix}{S:aw}{I:i_}(q:gS t S I)(d:gV P t):∃G ci,cz P S I G ci:=by obtain⟨e,b,rfl,c⟩:=q.h;exact⟨_,_,(d.find b).hb c⟩
def S_:dw->dw->Y|.i8,.i8|.i16,.i16|.i32,.i32|aj,aj|.u8,.u8|.u16,.u16|.u32,.u32|hf,hf=>af|_,_=>ad
def ar6{A b:dw}:S_ A b->A=b:=by cases A<;>cases b<;>first|rfl|grind[S_]
def QM(b:BinOp)(A:dw)(y R:J):da V:=match b with
|.lss=>W (.bool<|aL<|y<R)|.leq=>W (.bool<|aL<|y<=R)|.gtr=>W (.bool<|aL<|R<y)|.geq=>W (.bool<|aL<|R<=y)|.eql=>W (.bool<|aL<|y=R)|.neq=>W (.bool<|aL ¬y=R)|.and=>W (.int A<|nS .and A y R)|.or=>W (.int A<|nS .or A y R)|.xor=>W (.int A<|nS .xor A y R)|.andNot=>W (.int A<|nS .andNot A y R)|.add=>match A with
 |aj=>ah|A=>W (.int A<|k0 A<|y+R)
|.sub=>match A with
 |aj=>ah|A=>W (.int A<|k0 A<|y-R)
|.mul=>match A with
 |aj=>ah|A=>W (.int A<|k0 A<|y*R)
|_=>ah
def QN(b:BinOp)(y R:X v):da V:=match b with|.eql=>W (.bool<|aL<|y=R)|.neq=>W (.bool<|aL ¬y=R)|.lss=>W (.bool<|gR y R)|.gtr=>W (.bool !(gR y R||aL (y=R)))|.geq=>W (.bool ! gR y R)|.leq=>W (.bool<|gR y R||aL (y=R))|_=>ah
def mI(d:X (Z×V))(b:X (Z×V)):X aM->da (X V)
|[]=>W []|U::x=>match val d b U with
 |W I=>match mI d b x with|W c=>W (I::c)|ah=>ah
 |ah=>ah
def p3(b:X V)(c T:Z)(d:Y):da V:=match d with
|af=>match eU (Q (ak T (aU c b))) T with
 |af=>W (.agg<|ak T<|aU c b)|ad=>ah
|ad=>match b[c]? with
 |W x=>match x.one with|af=>W x|ad=>ah
 |ah=>ah
def ti(d:X (Z×V))(b:X (Z×V)):X (Z×aM)->da (X (Z×V))
|[]=>W []|(e,U)::x=>match val d b U with
 |W I=>match I.fits with
  |af=>match ti d b x with|W c=>W ((e,I)::c)|ah=>ah
  |ad=>ah
 |ah=>ah
def V.mG:V->Y|.en .. |.aq .. |.eW _|.qA _|.mA .. =>af|U=>U.plain
def V.Gj{n:ce}{U:V}(q:U.mG):U.ge n=U.ay n:=by cases U with|en|aq|eW|qA|mA=>rfl|vec T y L=>let b:(V.vec T y L).plain:=q;rw[V.gn b];rfl|tuple L=>let b:(V.tuple L).plain:=q;rw[V.gn b];rfl|agg L=>let b:(V.agg L).plain:=q;rw[V.gn b];rfl|func ao c d=>let b:(V.func ao c d).plain:=q;rw[V.gn b];rfl|_=>rfl
def K9(t:ix)(F:aw):Y:=match t.find F with|W b=>ja 30 b.size|ah=>ad
def rM(t:ix)(d:X (Z×V))(c:X (Z×V))(i:bU)(K:a4):da V:=match K.op with
|.move U=>val d c U|.assign U=>val d c U|.pick b U C=>match val d c b with
 |W (.bool af)=>val d c U|W (.bool ad)=>val d c C|_=>ah
|.extract U f=>match val d c U with
 |W (.tuple L)=>match L[f]? with
  |W x=>match x with|.tuple _=>ah|x=>W x
  |ah=>ah
 |_=>ah
|.unOp .not _ U=>match val d c U with
 |W (.bool R)=>W (.bool !R)|_=>ah
|mj op _ U C _=>match val d c U,val d c C with
 |W (.int A y),W (.int D R)=>match S_ A D with|af=>QM op A y R|ad=>ah
 |W (.str y),W (.str R)=>QN op y R|_,_=>ah
|.nilCheck U=>match val d c U with
 |W (.ref M x f b)=>W (.ref M x f b)|W (.en S f b)=>match cx i S with|W (.cell ..)=>W (.en S f b)|W (.h ..)=>W (.en S f b)|_=>ah
 |_=>ah
|.fieldAddr S U k=>match t.find S with
 |W e=>match e.bv[k]? with
  |W (g,_,T)=>match T with
   |0=>ah|_+1=>match val d c U with
    |W (.ref M x f b)=>W (.ref M x f<|b+g)|W (.en S f b)=>match cx i S with|W (.cell ..)=>W (.en S f<|b+g)|W (.h ..)=>W (.en S f<|b+g)|_=>ah
    |_=>ah
  |ah=>ah
 |ah=>ah
|.load S U=>match t.find S with
 |W e=>match val d c U with
  |W (.ref G x f b)=>match ja 30 G with
   |af=>ah|ad=>match x[f]? with
    |W F=>match p3 F.cells b e.size e.agg with
     |W x=>match x.plain with|af=>W x|ad=>ah
     |ah=>ah
    |ah=>ah
  |W (.en S f b)=>match cx i S with
   |W (.cell H F)=>match K9 t H with
    |af=>ah|ad=>match f with
     |0=>match F.fits with|af=>p3 F.cells b e.size e.agg|ad=>ah
     |_+1=>ah
   |_=>ah
  |_=>ah
 |ah=>ah
|.field S U k=>match t.find S with
 |W e=>match e.bv[k]? with
  |W (g,B,T)=>match T with
   |0=>ah|_+1=>match t.find B with
    |W m=>match val d c U with
     |W (.agg j)=>match eU m.size T with|af=>p3 j g T m.agg|ad=>ah
     |_=>ah
    |ah=>ah
  |ah=>ah
 |ah=>ah
|gi b=>match b.callee,bo b.args,bo b.argTypes with
 |hX .len,[U],[S]=>match t.find S with
  |W e=>match e.agg,e.d,val d c U with
   |ad,dP _,W (.a _ h)=>W (.int aj<|Q h)|ad,dP _,W .ba=>W (.int aj 0)|ad,dP _,W (.aq S g T)=>match cx i S with|W (.h ..)=>W (.int aj T)|_=>ah
   |ad,ml,W (.str L)=>W (.int aj<|Q L)|_,_,_=>ah
  |ah=>ah
 |_,_,_=>ah
|.convert E w U=>match t.find E,t.find w with
 |W q,W l=>match q.agg,q.d,l.agg,l.d,val d c U with|ad,ml,ad,ml,W (.str L)=>W (.str L)|_,_,_,_,_=>ah
 |_,_=>ah
|.makeFunc fn first u=>match mI d c (bo first),mI d c (bo u) with
 |W r,W s=>match fc V.mG r,fc V.mG s with|af,af=>W (.func fn r s)|_,_=>ah
 |_,_=>ah
|.build S parts=>match t.find S with
 |W e=>match e.agg,e.bv with
  |af,_::_=>match ti d c (bo parts) with
   |W v=>match r6 ((e.bv.map λn=>(n.1,n.2.2))[·]?) (V.zero e.z).cells v with|W j=>W (.agg j)|ah=>ah
   |ah=>ah
  |_,_=>ah
 |ah=>ah
|_=>ah
section
variable{P:ct}{m:db}{K:a4}{n:ce}
def V.aBi am:∀U∈(V.zero am).cells,U.yp:=by
 intro U b;unfold V.zero at b;split at b;obtain⟨c,_,rfl⟩:=cV.1 b;exact V.To c;have:(V.leaf am).cells=[V.leaf am]:=by unfold V.leaf;split<;>rfl
 grind[V.To]
theorem D0(d:e5 m.G){b:X (Z×V)}{az:b0}:∀{L:X aM}{c:X V},mI m.G b L=W c->pI m ⟨dy n b,az⟩ L (aa (V.ay n) c)|[],c,q=>by simp[mI] at q;subst q;rfl|U::x,c,q=>by unfold mI at q;split at q;rename_i I f;split at q;rename_i g e;simp at q;subst q;exact⟨xb d f,D0 d e⟩;simp_all;simp_all
theorem aAF(d:e5 m.G){c:X (Z×V)}{az:b0}{L:X aM}{b:X V}(q:mI m.G c L=W b):fc V.plain b->pI m ⟨dy n c,az⟩ L b:=by have:=D0 d (n:=n) (az:=az) q;grind[y8,V.gn]
def NT(d:e5 m.G){e:X (Z×V)}{az:b0}:∀{L:X (Z×aM)}{b:X (Z×V)},ti m.G e L=W b->vE m ⟨dy n e,az⟩ L=W (b.map λc=>(c.1,c.2.ay n))/\∀c∈b,c.2.fits
|[],b,q=>by simp[ti] at q;subst q;exists p|(k,U)::x,b,q=>by
 unfold ti at q;split at q;rename_i I g;split at q;split at q;rename_i i f;simp at q;cases NT d (az:=az) f;let j:=xb d (n:=n) (az:=az) g;exists by grind[vE,V.yj]
 grind;simp_all;simp_all;simp_all
def XY{g:Z->da (Z×Z)}:∀{e:X (Z×V)}{c d:X V},(∀b∈e,b.2.fits)->r6 g c e=W d->r6 g (aa (V.fI n) c) (e.map λb=>(b.1,b.2.ay n))=W (aa (V.fI n) d)|[],c,d,_,q=>by grind[r6,Option.some.injEq]|(i,I)::x,c,d,f,q=>by unfold r6 at q;split at q;split at q;have:=V.rv (n:=n)<|f (i,I) av;have:=XY (λb j=>f b aY) q;simp_all[iO,r6,ae,V.yi,bg];simp_all;simp_all
theorem k5 az:∀{L:bU}{S:Z}{U:cj},cx L S=W U->∃A:Z,(az++aX n L)[A]?=W ((n S).1,U.az n (n S).2):=by
 have:∀{L:bU}{S:Z}{U:cj},cx L S=W U->∃A:Z,(aX n L)[A]?=W ((n S).1,U.az n (n S).2):=by
  intro L
  induction L
  grind[cx]
  next d x b=>intro S U q;let⟨A,C⟩:=d;unfold cx at q;split at q;rename_i he;have:=pu he;subst this;simp at q;subst q;exists 0;let⟨c,e⟩:=b q;exists c+1
 intro L S U q;let⟨A,f⟩:=this q;exact⟨Q az+A,aY⟩
def F0{b:X V}{c T:Z}{x:V}:p3 b c T ad=W x->b[c]?=W x/\x.one:=by grind[p3]
def FZ{b:X V}{c T:Z}{x:V}:p3 b c T af=W x->x=.agg (ak T (aU c b))/\Q (ak T (aU c b))=T:=by grind[p3,Option.some.injEq,Nat.eq_of_beq_eq_true]
def al5{b:BinOp}{A:dw}{y R:J}{x:V}{S:aw}{U C:aM}(q:QM b A y R=W x):cO P b S U C (.int A y) (.int A R) x/\x.plain:=by
 cases b<;>simp only[QM,hr,reduceCtorEq] at q
 case lss=>subst q;exists cO.lss
 case leq=>subst q;exists cO.leq
 case gtr=>subst q;exists cO.gtr
 case geq=>subst q;exists cO.geq
 case eql=>subst q;exists cO.eql
 case neq=>subst q;exists cO.neq
 case and=>subst q;exists cO.bits p
 case or=>subst q;exists cO.bits p
 case xor=>subst q;exists cO.bits p
 case andNot=>subst q;exists cO.bits p
 case add=>split at q<;>simp at q;subst q;exists cO.ala
 case sub=>split at q<;>simp at q;subst q;exists cO.DT
 case mul=>split at q<;>simp at q;subst q;exists cO.atQ
def al6{b:BinOp}{y R:X v}{x:V}{S:aw}{U C:aM}(q:QN b y R=W x):cO P b S U C (.str y) (.str R) x/\x.plain:=by
 cases b<;>simp only[QN,hr,reduceCtorEq] at q
 case lss=>subst q;exists cO.ay2
 case leq=>subst q;exists cO.ayY
 case gtr=>subst q;exists cO.ayN
 case geq=>subst q;exists cO.ayL
 case eql=>subst q;exists cO.ayw
 case neq=>subst q;exists cO.ay3
def ata{t:ix}(i:gV P t){O:a9}{S:aw}{d:cP}{U:aM}{g:X V}{M f e:Z}{F x:V}(l:t.find S=W d)(k:K.op=.load S U)(n:O.val m U=W (.ref M g f e))(j:g[f]?=W F)(q:p3 F.cells e d.size d.agg=W x):dh P m K O x:=by let c:=i.find l;cases b:d.agg with|true=>rw[b] at q;obtain⟨rfl,r⟩:=FZ q;cases(c.AO b).fo;grind[awK]|false=>rw[b] at q;exact afz (c.hb<|c.sz b) (kx c.jQ aY) k n j (F0 q).1
def atb{t:ix}(y:gV P t){O:a9}{S:aw}{d:cP}{U:aM}{u w v f A M:Z}{F:aw}{i:X V}{e x:V}(B:t.find S=W d)(r:K.op=.load S U)(s:O.val m U=W (.own u w v f))(l:O.g[A]?=W (u,.h w M F i))(k:i[v]?=W (e.ay n))(z:e.fits)(q:p3 e.cells f d.size d.agg=W x):dh P m K O (x.ay n):=by let c:=y.find B;let D:=V.rv (n:=n) z;cases b:d.agg with|true=>rw[b] at q;obtain⟨rfl,j⟩:=FZ q;refine UA (c.AO b) r s l k ?_ ap;simp_all|false=>rw[b] at q;let⟨C,j⟩:=F0 q;rw[V.FI j];exact I5 (c.hb<|c.sz b) (kx c.jQ aY) r s l k ap
def Og{O:a9}{b U C:aM}{x:V}{S:Y}(d:K.op=.pick b U C)(c:O.val m b=W (.bool S))(e:O.val m (if S then U else C)=W x):dh P m K O x:=UY d c e
theorem aiQ{t:ix}(l:gV P t)(J:e5 m.G){O:X (Z×V)}{B:bU}{az:b0}{x:V}(q:rM t m.G O B K=W x):dh P m K ⟨dy n O,az++aX n B⟩ (x.ay n):=by
 let e:∀{U:aM}{I:V},val m.G O U=W I->(⟨dy n O,az++aX n B⟩:a9).val m U=W (I.ay n):=(xb J);unfold rM at q;split at q
 case h_1 U c=>grind[agf]
 case h_2 U c=>grind[awB]
 case h_3 D U C c=>split at q;rename_i u;exact UY (S:=af) c (e u)<|e q;rename_i u;exact UY (S:=ad) c (e u)<|e q;simp_all
 case h_4 U N c=>
  split at q;rename_i L b;split at q;rename_i ax j;split at q;cases q;simp[hr] at q;subst q;apply awG c<|e b;rw[c4,j,lW];congr 1;cases ax with|tuple aQ=>simp_all|_=>rfl
  simp_all;simp_all
 case h_5 S U c=>split at q;rename_i R b;simp[hr] at q;subst q;exact awQ c<|e b;simp_all
 case h_6 op S U C am c=>split at q;rename_i A y aP R b E;split at q;rename_i d;obtain rfl:=ar6 d;let⟨f,g⟩:=al5 (P:=P) (S:=S) (U:=U) (C:=C) q;rw[V.gn g];exact yq c (e b) (e E) f;simp_all;rename_i y R b E;let⟨f,g⟩:=al6 (P:=P) (S:=S) (U:=U) (C:=C) q;rw[V.gn g];exact yq c (e b) (e E) f;simp_all
 case h_7 U c=>split at q;rename_i b;simp[hr] at q;subst q;exact awP c<|e b;rename_i S N D b;split at q;rename_i k;simp[hr] at q;subst q;let⟨A,d⟩:=k5 (n:=n) az k;exact UX c (e b) d;rename_i k;simp[hr] at q;subst q;let⟨A,d⟩:=k5 (n:=n) az k;exact UX c (e b) d;simp_all;simp_all
 case h_8 S U al c=>split at q;rename_i w r;split at q;rename_i Q Y T ak;split at q;cases q;rename_i aR;let v:=(l.find r).fd al Q Y _ ak o;split at q;rename_i b;simp[hr] at q;subst q;exact avD v o c<|e b;rename_i am N D b;split at q;rename_i k;simp[hr] at q;subst q;let⟨A,d⟩:=k5 (n:=n) az k;exact Uz v o c (e b) d;rename_i k;simp[hr] at q;subst q;let⟨A,d⟩:=k5 (n:=n) az k;exact Uz v o c (e b) d;simp_all;simp_all;simp_all;simp_all
 case h_9 S U c=>split at q;rename_i w r;split at q;rename_i M ax N D b;split at q;cases q;split at q;rename_i F he;split at q;rename_i aS f;split at q;rename_i k;simp[hr] at q;subst q;rw[V.gn k];exact ata l r c (e b) he f;simp_all;simp_all;simp_all;rename_i am N D b;split at q;rename_i F C k;split at q;cases q;split at q;split at q;rename_i v;let⟨A,d⟩:=k5 (n:=n) az k;exact atb l r c (e b) d p v q;simp_all;simp_all;simp_all;simp_all;simp_all
 case h_10 S U al c=>
  split at q;rename_i w r;split at q;rename_i Q Y T ak;split at q;cases q;let v:=(l.find r).fd al Q Y _ ak o;split at q;rename_i aB aF;split at q;rename_i aA b;split at q;rename_i a7;let a7:=pu a7;let d:=l.find aF;let aw:=e b;cases i:aB.agg with|true=>rw[i] at q;obtain⟨rfl,g⟩:=FZ q;let ar:=d.AO i;rw[a7] at ar;exact avC v o ar c aw av|false=>rw[i] at q;let⟨f,g⟩:=F0 q;rw[V.FI g];exact avB v o (d.hb<|d.sz i) (kx d.jQ aY) c aw ap
  simp_all;simp_all;simp_all;simp_all;simp_all
 case h_11 D c=>
  split at q;rename_i U S f g H;let u:K.op=gi {callee:=hX .len,args:=#[U],argTypes:=#[S]}:=by rw[c];cases D;simp at f g H;subst f;congr 2;grind;grind
  split at q;rename_i w r;let d:=l.find r;split at q;rename_i F M h i s b;simp[hr] at q;subst q;let bW:=d.hb<|d.sz i;rw[s] at bW;exact UW bW u (e b) p;rename_i F i s b;simp[hr] at q;subst q;let bW:=d.hb<|d.sz i;rw[s] at bW;exact UW bW u (e b) p;rename_i F am Q T i s b;split at q;rename_i k;simp[hr] at q;subst q;let bW:=d.hb<|d.sz i;rw[s] at bW;let⟨A,d⟩:=k5 (n:=n) az k;exact UV bW u (e b) d;simp_all;rename_i L i s b;simp[hr] at q;subst q;let bW:=d.hb<|d.sz i;rw[s] at bW;exact awI bW u<|e b;simp_all;simp_all;simp_all
 case h_12 aV aO U c=>split at q;rename_i aU aL au ao;split at q;rename_i L i s aC aE b;simp[hr] at q;subst q;let f:=(l.find au).hb<|(l.find au).sz i;let g:=(l.find ao).hb<|(l.find ao).sz aC;rw[s] at f;rw[aE] at g;exact avA f g c<|e b;simp_all;simp_all
 case h_13 fn first aK c=>split at q;rename_i aW aZ b E;split at q;rename_i f g;simp[hr] at q;subst q;let F:∀{L:X V},fc V.mG L->aa (V.ay n) L=aa (V.ge n) L:=λ{L} aG=>iF λU b=>bG<|V.Gj<|qh.1 aG U b;have:=afA (P:=P) c (D0 J (n:=n) (az:=az++aX n B) b)<|D0 J (n:=n) (az:=az++aX n B) E;rw[F f,F g] at this;exact this;simp_all;simp_all
 case h_14 S parts c=>
  split at q;rename_i w r;split at q;split at q;rename_i aN aJ;split at q;rename_i aA aD;simp[hr] at q;subst q;let d:=l.find r;let aI:=kx d.pl ap;let⟨f,g⟩:=NT J (n:=n) (az:=az++aX n B) aJ;let H:=XY (n:=n) g aD;let aH:(V.zero w.z).cells.map (V.fI n)=(V.zero w.z).cells:=by refine bC (iF λU b=>?_)<|GL _;exact V.IL<|V.aBi w.z U b
  rw[aH] at H;exact avv aI d.nH c f H;simp_all;simp_all;simp_all;simp_all
 simp_all
def AQ{S I:Z}(q:eU S I=ad):S≠I:=λF=>ap
def vu(ao:V->V):V->V|.func s b c=>.func s (aa ao b) (aa ao c)|U=>ao U
def ta(ao:V->V):V->V|.agg b=>.agg (aa (vu ao) b)|.vec T y b=>.vec T y (aa (vu ao) b)|U=>vu ao U
def wQ(ao:V->V):V->V|.tuple L=>.tuple (aa (ta ao) L)|U=>ta ao U
def zH(ao:V->V)(U:V):V:=match U.plain with|af=>U|ad=>wQ ao U
def aeB{n:ce}:V.fI n=vu (V.ge n):=funext λU=>by cases U<;>rfl
def aut{n:ce}:V.li n=ta (V.ge n):=funext λU=>by cases U<;>first|rfl|simp[V.li,ta,aeB]
def NA{n:ce}:V.ay n=wQ (V.ge n):=funext λU=>by cases U<;>first|rfl|simp[V.ay,V.li,wQ,ta,aut,aeB]
def V.wR:V->Y|.func .. |.agg _|.vec .. |.tuple _=>ad|_=>af
def Cv(ao:V->V):Prop:=∀U,ao U=U\/U.wR/\(ao U).wR
def ya{s:V->V}{C:V}(q:C.wR):vu s C=s C/\ta s C=s C/\wQ s C=s C:=by cases C<;>first|exists p,p|cases q
section
variable{ao s:V->V}(q:Cv ao)
include q
theorem MQ{U:V}(b:U.wR):(ao U).wR:=by rcases q U with F|⟨_,F⟩;rw[F];exact b;exact F
theorem acD{U:V}(b:U.wR=ad):ao U=U:=by rcases q U with F|⟨F,_⟩;exact F;rw[b] at F;cases F
theorem ac3 U:vu s (vu ao U)=vu (λU=>s<|ao U) U:=by
 cases b:U.wR
 .cases U<;>first|(cases b;done)|(simp[vu];done)|(show vu s (ao _)=s (ao _);rw[acD q b];rfl)
 rw[(ya b).1,(ya b).1,(ya<|MQ q b).1]
theorem MZ U:ta s (ta ao U)=ta (λU=>s<|ao U) U:=by
 cases b:U.wR
 .cases U<;>first|(cases b;done)|exact ac3 q (.func ..)|(simp[ta,ac3 q];done)|(show ta s (ao _)=s (ao _);rw[acD q b];rfl)
 rw[(ya b).2.1,(ya b).2.1,(ya<|MQ q b).2.1]
theorem as3 U:wQ s (wQ ao U)=wQ (λU=>s<|ao U) U:=by
 cases b:U.wR
 .cases U<;>first|(cases b;done)|exact MZ q (.func ..)|exact MZ q (.agg _)|exact MZ q (.vec ..)|(simp[wQ,MZ q];done)
 rw[(ya b).2.2,(ya b).2.2,(ya<|MQ q b).2.2]
theorem Io U:(zH ao U).cells.length=Q U.cells:=by
 let c:∀{C:V},C.wR->Q C.cells=1:=λ{C} q=>by cases C<;>first|rfl|cases q
 unfold zH;split;rfl
 .cases b:U.wR
  .cases U<;>first|(cases b;done)|(simp[wQ,ta,V.cells];done)|rfl
  rw[(ya b).2.2,c b,c<|MQ q b]
end
def y9(b:V->Prop):X V->Prop|[]=>True|U::L=>b U/\y9 b L
def sW{b:V->Prop}:∀{L:X V},y9 b L↔∀U∈L,b U|[]=>by simp[y9]|U::L=>by simp[y9,sW]
def FX(b:V->Prop):V->Prop|.func _ c d=>y9 b c/\y9 b d|U=>b U
def I1(c:V->Prop):V->Prop|.agg b=>y9 (FX c) b|.vec _ _ b=>y9 (FX c) b|U=>FX c U
def I2(b:V->Prop):V->Prop|.tuple L=>y9 (I1 b) L|U=>I1 b U
def UI{b:V->Prop}(q:∀U,b U)U:I2 b U:=by
 let c:∀U,FX b U:=λU=>by have:=q U;cases U<;>first|exact this|exact⟨sW.2 λU _=>q U,sW.2 λU _=>q U⟩
 let d:∀U,I1 b U:=λU=>by have:=c U;cases U<;>first|exact this|exact sW.2 λU _=>c U
 have:=d U;cases U<;>first|exact this|exact sW.2 λU _=>d U
def AC(d:V->V->Prop)(L c:X V):Prop:=Q L=Q c/\∀(b:Z)(U C:V),L[b]?=W U->c[b]?=W C->d U C
structure Eo(bm:V->V->Prop):Prop where
 func:∀{ao xs aJ sF Ag},AC bm xs sF->AC bm aJ Ag->bm (.func ao xs aJ) (.func ao sF Ag)
 agg:∀{xs sF},AC bm xs sF->bm (.agg xs) (.agg sF)
 vec:∀{T y xs sF},AC bm xs sF->bm (.vec T y xs) (.vec T y sF)
 tuple:∀{xs sF},AC bm xs sF->bm (.tuple xs) (.tuple sF)
 refl:∀U,bm U U
def Iv{b:V->V->Prop}{ao s:V->V}{L:X V}(q:∀U∈L,b (ao U) (s U)):AC b (aa ao L) (aa s L):=⟨av,λg U C d e=>by simp[c4,Ef] at d e;obtain⟨y,c,rfl⟩:=d;obtain⟨R,f,rfl⟩:=e;cases bC (bG c) f;exact q y<|eY c⟩
def ac4{d:V->V->Prop}{ao s:V->V}{f:V->Prop}(e:Eo d)(q:∀U,f U->d (ao U) (s U)){U:V}(b:I2 f U):d (wQ ao U) (wQ s U):=by
 let g:∀U,FX f U->d (vu ao U) (vu s U):=λU b=>by have:=q U;cases U<;>first|exact this b|exact e.func (Iv λU c=>q U<|sW.1 b.1 U c)<|Iv λU c=>q U<|sW.1 b.2 U c
 let i:∀U,I1 f U->d (ta ao U) (ta s U):=λU b=>by have:=g U;cases U<;>first|exact this b|exact e.agg (Iv λU c=>g U<|sW.1 b U c)|exact e.vec<|Iv λU c=>g U<|sW.1 b U c
 have:=i U;cases U<;>first|exact this b|exact e.tuple<|Iv λU c=>i U<|sW.1 b U c
def In{b:V->V->Prop}{ao:V->V}{H:V->Prop}{n aQ:ce}(A:Cv ao)(c:Eo b)(q:∀U,H U->b (U.ge n) ((ao U).ge aQ)){U:V}(d:U.plain=ad->I2 H U):b (U.ay n) ((zH ao U).ay aQ):=by unfold zH;split;rename_i F;rw[V.gn F,V.gn F];exact c.refl _;rename_i F;rw[NA,NA,as3 A];exact ac4 c q<|d F
def Eo.q_{dA:V->V->Prop}:Eo (gv dA):=⟨λq A=>.func _ _ _ _ _ q.1 q.2 A.1 A.2,λq=>.agg _ _ q.1 q.2,λq=>.vec _ _ _ _ q.1 q.2,λq=>.tuple _ _ q.1 q.2,.refl⟩
def AC.eq{L c:X V}(q:AC (·=·) L c):L=c:=jI λb=>by have:=q.1;cases d:L[b]?<;>cases e:c[b]?<;>grind[q.2 b]
def Eo.eq:Eo (·=·):=⟨λq A=>by rw[q.eq,A.eq],λq=>by rw[q.eq],λq=>by rw[q.eq],λq=>by rw[q.eq],λ_=>p⟩
def cj.mp(s:V->V):cj->cj|.cell F U=>.cell F (s U)|U=>U
def Bx(s:V->V):X (Z×V)->X (Z×V)|[]=>[]|(S,U)::x=>(S,s U)::Bx s x
def rr(I:Z)(s:V->V):bU->bU|[]=>[]|(A,b)::x=>match eU I A with|af=>rr I s x|ad=>(A,b.mp s)::rr I s x
def Nd{s:V->V}:∀L S,cY S (Bx s L)=(cY S L).map s|[],_=>p|(A,U)::x,S=>by rw[Bx,qT,qT];cases q:S==A;exact Nd x S;rfl
def TV{dA:V->V->Prop}{s:V->V}{n aQ:ce}{L:X (Z×V)}(q:∀S U,cY S L=W U->gv dA (U.ay n) ((s U).ay aQ)):∀S C,cY S (dy aQ (Bx s L))=W C->∃U,cY S (dy n L)=W U/\gv dA U C:=by
 intro S C b;rw[mB,Nd] at b;rw[mB];cases c:cY S L;simp_all
 next U=>rw[c] at b;simp at b;subst b;exact⟨_,p,q S U c⟩
section
variable{dA:V->V->Prop}{s:V->V}{n aQ:ce}{I:Z}(a7:∀U,(s U).cells.length=Q U.cells)(gm:∀S,S≠I->aQ S=n S)
include a7 gm
theorem TX{A:Z}(e:A≠I){b:cj}(q:∀F U,b=.cell F U->gv dA (U.ay n) ((s U).ay aQ)){L d:b0}(c:cW dA L d):cW dA (c6 n (A,b)::L) (c6 aQ (A,b.mp s)::d):=by unfold c6;simp[gm A e];cases b with|cell F U=>simp[cj.mp,cj.az,a7];exact .Gb (q F U p) c|_=>exact .same _ c
theorem TW:∀L,(∀A F U,(A,cj.cell F U)∈L->A≠I->gv dA (U.ay n) ((s U).ay aQ))->∃b,b.Sublist (aX n L)/\cW dA b (aX aQ (rr I s L))|[],_=>⟨[],.slnil,.nil⟩|(A,i)::x,q=>by let⟨b,d,e⟩:=TW x λA F U g=>q A F U<|ku _ g;rw[rr];split;exists b,.cons _ d;rename_i c;let c:=(AQ c).symm;exact⟨_::b,.cons_cons _ d,TX a7 gm c (λF U f=>q A F U (by simp[f]) c) e⟩
theorem ad7:∀{L:bU}{c:cj},cx L I=W c->(∀A F U,(A,cj.cell F U)∈L->A≠I->gv dA (U.ay n) ((s U).ay aQ))->∃A,(aX n L)[A]?=W ((n I).1,c.az n (n I).2)/\∃b,b.Sublist (pB (aX n L) A)/\cW dA b (aX aQ (rr I s L)):=by
 intro L
 induction L
 grind[cx]
 next t x m=>
  intro c q e;let⟨A,am⟩:=t;let f:=λA F U l=>e A F U<|ku _ l;unfold cx at q;rw[rr];split at q;rename_i he;simp at q;subst q;let⟨b,d,i⟩:=TW a7 gm x f;exists 0,by rw[pu he];rfl,b,d
  rename_i he;let⟨r,d,b,i,j⟩:=m q f;let g:=(AQ he).symm;exact⟨r+1,Ku,c6 n (A,am)::b,Ku,TX a7 gm g (λF U k=>e A F U (by simp[k]) g) j⟩
end
def z2(I:Z):V->V
|.en S c b=>match eU S I with
 |af=>.undef|ad=>.en S c b
|.aq S d len=>match eU S I with
 |af=>.undef|ad=>.aq S d len
|.eW S=>match eU S I with
 |af=>.undef|ad=>.eW S
|.qA S=>match eU S I with
 |af=>.undef|ad=>.qA S
|.mA S c b=>match eU S I with
 |af=>.undef|ad=>.mA S c b
|U=>U
abbrev z3(I:Z):V->V:=zH<|z2 I
abbrev cj.DL(I:Z):cj->cj:=cj.mp<|z3 I
abbrev Bu(I:Z):X (Z×V)->X (Z×V):=Bx<|z3 I
abbrev qJ(I:Z):bU->bU:=rr I<|z3 I
def Hu:bU->Z->cj->bU|[],_,_=>[]|(A,b)::x,I,C=>match eU I A with|af=>(A,C)::qJ I x|ad=>(A,b.DL I)::Hu x I C
def hL:bU->Z->cj->bU|[],_,_=>[]|(A,U)::x,S,C=>match eU S A with|af=>(A,C)::x|ad=>(A,U)::hL x S C
def aI.fresh(M:aI)(I:Z)(C:cj)(ax:V):aI:=⟨(I,ax)::Bu I M.b,qJ I M.au++[(I,C.DL I)],M.g⟩
def aI.Nc(M:aI)(S:Z)(C:cj):aI:=⟨Bu S M.b,Hu M.au S C,M.g⟩
inductive h9:V->V->Prop|own (y R E l:Z):h9 (.own y R E l) .undef|bO (y R E l:Z):h9 (.bO y R E l) .undef|j5 (y R:Z):h9 (.j5 y R) .undef
theorem h9.one:y1 h9:=λU C q=>by cases q<;>exists p
theorem h9.g2{N:bh}:∀U C,h9 U C->∀b,bj N U b->bj N C b:=λU C q b _=>by cases q<;>exact .undef b
section
variable{aQ:ce}{I:Z}(gm:∀S,S≠I->aQ S=n S)
include gm
omit gm in
theorem ag3:Cv (z2 I):=λU=>by cases U<;>first|exact bl p|(simp only[z2];split<;>first|exact bl p|exact bp ⟨p,p⟩)
theorem axL U:gv h9 (U.ge n) ((z2 I U).ge aQ):=by cases U with|en S c b=>simp[z2];split;exact .base _ _<|.own ..;rename_i q;simp[V.ge,gm S<|AQ q];exact .refl _|aq S c b=>simp[z2];split;exact .base _ _<|.bO ..;rename_i q;simp[V.ge,gm S<|AQ q];exact .refl _|eW S=>simp[z2];split;exact .base _ _<|.j5 ..;rename_i q;simp[V.ge,gm S<|AQ q];exact .refl _|qA S=>simp[z2];split;exact .base _ _<|.own ..;rename_i q;simp[V.ge,gm S<|AQ q];exact .refl _|mA S c b=>simp[z2];split;exact .base _ _<|.own ..;rename_i q;simp[V.ge,gm S<|AQ q];exact .refl _|_=>exact .refl _
theorem Oy U:gv h9 (U.ay n) ((z3 I U).ay aQ):=In ag3 .q_ (H:=λ_=>True) (λU _=>axL gm U) λ_=>UI (λ_=>c1) U
omit gm in
theorem Vb(U:V):(z3 I U).cells.length=Q U.cells:=Io ag3 U
theorem cj.axM{A:Z}(d:A≠I)c{L b:b0}(q:cW h9 L b):cW h9 (c6 n (A,c)::L) (c6 aQ (A,c.DL I)::b):=TX Vb gm d (λ_ U _=>Oy gm U) q
theorem Jh L:∃b,b.Sublist (aX n L)/\cW h9 b (aX aQ (qJ I L)):=TW Vb gm L λ_ _ U _ _=>Oy gm U
theorem aor(i:(aQ I).1=(n I).1)C:∀{L:bU}{c:cj},cx L I=W c->∃A,(aX n L)[A]?=W ((n I).1,c.az n (n I).2)/\∃b,b.Sublist (aK (aX n L) A ((n I).1,C.az aQ (aQ I).2))/\cW h9 b (aX aQ (Hu L I C)):=by
 intro L
 induction L
 grind[cx]
 next l x j=>
  intro c q;let⟨A,am⟩:=l;unfold cx at q;split at q;rename_i he;let f:=pu he;simp at q;subst q;let⟨b,d,e⟩:=Jh gm x;exists 0,by rw[f];rfl,_::b,.cons_cons _ d
  rw[Hu,he];show cW _ _ (c6 aQ _::aX aQ _);have:c6 aQ (A,C)=((n I).1,C.az aQ (aQ I).2):=by rw[c6,<-f,i]
  rw[this];exact .same _ e;rename_i he;let⟨k,d,b,e,g⟩:=j q;refine⟨k+1,Ku,c6 n (A,am)::b,?_,?_⟩;grind[aX];rw[Hu,he];exact cj.axM gm (AQ he).symm am g
omit gm in
theorem cW.qi{dA:V->V->Prop}{i k:b0}(m:cW dA i k):∀{L e:b0},cW dA L e->cW dA (L++i) (e++k):=by
 intro L e q
 induction q with|nil=>exact m|same n _ b=>exact .same n b|h d f am F g j c q _ b=>exact .h d f am F g j c q b|map d f l g j c q _ b=>exact .map d f l g j c q b
theorem Fz L:∀S C,cY S (dy aQ (Bu I L))=W C->∃U,cY S (dy n L)=W U/\gv h9 U C:=TV λ_ U _=>Oy gm U
theorem bm.fresh{M:aI}{C:cj}{ax rf:V}{d:Z}{c:cD}{y:fS}{D:bZ}{N:bh}(k:gv h9 ax (rf.ay aQ))(a7:cW h9 [(d,c)] [c6 aQ (I,C.DL I)])(q:bm m (({M.ay n with g:=(M.ay n).g++[(d,c)]}:a9).put (W I) ax) y D N):bm m ((M.fresh I C rf).ay aQ) y D N:=by
 obtain⟨i,f,j⟩:=Jh gm _;let e:bm m ⟨(I,ax)::dy n _,M.g++i++[(d,c)]⟩ y D N:=⟨q.dt.drop<|xg (xg (xh _) f)<|xh _,q.b,q.hv,q.size,q.defers⟩;refine e.ra (bh.le.refl N) e.dt h9.g2 h9.one (λS am aH=>?_) ?_;simp[aI.fresh,dy,iO,qT] at aH⊢;cases bW:S==I with|true=>simp_all|false=>rw[bW] at aH;exact Fz gm _ S am aH
 show cW _ _ (M.g++aX aQ (qJ I _++[(I,C.DL I)]));grind[aX,rr,cW.qi,cW.refl]
end
theorem wj az n:∀{L:bU}{S:Z}{U:cj},cx L S=W U->∃A,(az++aX n L)[A]?=W ((n S).1,U.az n (n S).2)/\∀C,aK (az++aX n L) A ((n S).1,C.az n (n S).2)=az++aX n (hL L S C):=by
 let e:∀{L:bU}{S:Z}{U:cj},cx L S=W U->∃A,(aX n L)[A]?=W ((n S).1,U.az n (n S).2)/\∀C,aK (aX n L) A ((n S).1,C.az n (n S).2)=aX n (hL L S C):=by
  intro L
  induction L
  grind[cx]
  next f x c=>intro S U q;let⟨A,am⟩:=f;unfold cx at q;split at q;rename_i he;have:=pu he;subst this;simp at q;subst q;refine⟨0,p,λC=>?_⟩;simp[hL,aX,iO,GM,c6];let⟨d,g,b⟩:=c q;refine⟨d+1,Ku,λC=>?_⟩;grind[hL,aX]
 intro L S U q;let⟨A,i,b⟩:=e q;refine⟨Q az+A,aY,λC=>?_⟩;simp_all
def gr(n:ce)(I:Z)(b:Z×Z):ce:=λS=>if S=I then b else n S
theorem kt n I b:gr n I b I=b:=by simp[gr]
theorem i9{n:ce}{I:Z}{b:Z×Z}{S:Z}:S≠I->gr n I b S=n S:=by grind[gr]
theorem cK.tn{ops:b4 a4}{L:X a4}{O eO:a9}{al:c_->a9->Prop}(d:∀y D N,bm m O y D N->bm m eO y D N)(q:cK P m ops L eO al):cK P m ops L O al:=λc y D N b=>q c y D N<|d y D N b
def HK(t:ix)(d:X (Z×V))(i:Z)(dQ:X Z)(M:aI)(K:a4):da aI:=match K.op with
|.store S m U=>match t.find S with
 |W e=>match val d M.b m,val d M.b U with
  |W (.en k l f),W c=>match c.fits,cx M.au k with
   |af,W (.cell F j)=>match K9 t F with
    |af=>ah|ad=>match l with
     |_+1=>ah|0=>match j with
      |.agg g=>match eU (Q c.cells) e.size,iQ (f+e.size) (Q g) with|af,af=>W ({M with au:=hL M.au k (.cell F<|.agg<|ak f g++c.cells++aU (f+Q c.cells) g)}.put K.dst .undef)|_,_=>ah
      |j=>match j.cells,c.one,f,eU e.size 1 with|[_],af,0,af=>W ({M with au:=hL M.au k (.cell F c)}.put K.dst .undef)|_,_,_,_=>ah
   |_,_=>ah
  |_,_=>ah
 |ah=>ah
|.box S U=>match K.dst,val d M.b U with
 |W I,W c=>match c.fits,ja I i with|af,af=>W (M.fresh I (.cell S c)<|.en I 0 0)|_,_=>ah
 |_,_=>ah
|.alloc S=>match K.dst,t.find S with
 |W I,W e=>match e.agg&&!e.O,ja I i with|ad,af=>W (M.fresh I (.cell S<|V.zero e.z)<|.en I 0 0)|_,_=>ah
 |_,_=>ah
|.makeMap S ah=>match K.dst with
 |W I=>match ja I i with|af=>W (M.fresh I (.map [] 0)<|.eW I)|ad=>ah
 |ah=>ah
|_=>ah
def V.aBj am:(V.zero am).plain:=by unfold V.zero;grind[V.acY,V.acX]
def V.ajr am:(V.zero am).cells.length=bB (dU am):=by
 unfold V.zero;split;simp[V.cells,dU];let b:(V.leaf am).cells=[V.leaf am]:=by unfold V.leaf;split<;>rfl
 grind[dU]
def FQ{U:V}:U.one->U.cells=[U]:=by cases U<;>simp_all[V.cells,V.one]
def Q7{n:ce}{I b:Z}{S:aw}{U:V}:cW h9 [(b,.h 0 (Q U.cells) S [U.ay n])] [c6 (gr n I (b,0)) (I,(cj.cell S U).DL I)]:=by simp[c6,cj.mp,cj.az,kt,Vb];exact .Gb (Oy (λS bW=>i9 bW) U) .nil
def aph{t:ix}(Y:gV P t)(aH:e5 m.G){i:Z}{dQ:X Z}{M aC:aI}{ops:b4 a4}{L:X a4}{al:c_->a9->Prop}(q:HK t m.G i dQ M K=W aC)(x:(M.ay n).guard ops K=W af)(am:∀aQ,(∀S,i<=S->aQ S=n S)->cK P m ops L (aC.ay aQ) al):cK P m ops (K::L) (M.ay n) al:=by
 let E:∀{U:aM}{I:V},val m.G M.b U=W I->(M.ay n).val m U=W (I.ay n):=(xb aH);let H:∀{y R:Z},ja y R->y<R:=λ{y R} q=>oS (show iQ (y+1) R=af from q);unfold HK at q;split at q;rename_i S aV U j;split at q;rename_i B O;let aA:=(Y.find O).G;split at q;rename_i r aS e c aw T;split at q;rename_i F el w aJ;split at q;cases q;split at q;cases q;let⟨A,ao,ar⟩:=wj M.g n aJ;let aB:=E T;split at q;rename_i d;split at q;rename_i s l;simp only[hr] at q;subst q;let s:=pu s;let l:e+B.size<=Q d:=oS l;let J:=ar<|.cell F<|.agg<|ak e d++c.cells++aU (e+Q c.cells) d;let hlen:Q (ak e d++c.cells++aU (e+Q c.cells) d)=Q d:=by simp[cX,mK,B_];omega
 let aL:=V.rv (n:=n) w;apply cK.qp x (CX aA j (E aw) ao (el:=(V.agg d).ay n) p aB (V.yj w) ap (by rw[V.yi];exact l)
  (show ak e (aa (V.fI n) d)++(c.ay n).cells++aU (e+(c.ay n).cells.length) (aa (V.fI n) d)=ak e (aa (V.fI n) d)++(c.ay n).cells++aU (e+B.size) (aa (V.fI n) d) by simp_all))
 have:({(M.ay n) with g:=(M.ay n).g.set A ((n r).1,.h (n r).2 (V.agg d).cells.length F<|aK [(V.agg d).ay n] 0<|((V.agg d).ay n).qP e (c.ay n).cells)})=({M with au:=hL M.au r (.cell F<|.agg<|ak e d++c.cells++aU (e+Q c.cells) d)}).ay n:=by
  let aF:((V.agg d).ay n).qP e (c.ay n).cells=(V.agg<|ak e d++c.cells++aU (e+Q c.cells) d).ay n:=by show V.agg (ak e (aa (V.fI n) d)++(c.ay n).cells++aU (e+(c.ay n).cells.length) (aa (V.fI n) d))=V.agg (aa (V.fI n) (ak e d++c.cells++aU (e+Q c.cells) d));rw[aL,bg,dn,dn,Kg,PE]
  let aG:(V.agg<|ak e d++c.cells++aU (e+Q c.cells) d).cells.length=(V.agg d).cells.length:=hlen;show(⟨_,_⟩:a9)=⟨_,_⟩;congr 1;rw[<-J,aF];simp only[cj.az,aG,GM];rfl
 rw[this];let f:=am n λ_ _=>p;rw[aI.nA] at f;exact f;simp_all;rename_i aO;split at q;rename_i C s l f;simp[hr] at q;subst q;let f:=pu f;let aD:=FQ l;let aE:(c.ay n).cells=[c.ay n]:=FQ<|V.NB l;let J:=ar<|.cell F c;let aP:(el.ay n).qP 0 (c.ay n).cells=c.ay n:=by
  rw[aE];unfold V.qP;split;rename_i L aN;cases el<;>first|exact b9 p (aO _)|cases aN
  rfl
 let aR:(el.ay n).cells.length=1:=by rw[V.yi,s];rfl
 apply cK.qp x<|CX aA j (E aw) ao (el:=el.ay n) p aB (V.yj w) ap o aY;have:({(M.ay n) with g:=(M.ay n).g.set A ((n r).1,.h (n r).2 (Q el.cells) F<|aK [el.ay n] 0<|(el.ay n).qP 0 (c.ay n).cells)})=({M with au:=hL M.au r (.cell F c)}).ay n:=by rw[aP];show(⟨_,_⟩:a9)=⟨_,_⟩;congr 1;rw[<-J];simp[cj.az,s,aD];rfl
 rw[this];let f:=am n λ_ _=>p;rw[aI.nA] at f;exact f;simp_all;simp_all;simp_all;simp_all;rename_i S U j;split at q;rename_i I c v T;split at q;rename_i w hm;simp[hr] at q;subst q;let hm:=H hm;refine cK.box x j (E T) (V.yj w) p λk=>?_;rw[v,V.yi];apply cK.tn λy D N u=>bm.fresh (aQ:=gr n I (k,0)) (λS bW=>i9 bW) (ax:=.own k 0 0 0) (rf:=.en I 0 0) (C:=.cell S c) (by simp[V.ay,V.li,V.fI,V.ge,kt];exact .refl _) Q7 u;grind[i9];simp_all;simp_all;rename_i S j;split at q;rename_i I B v O;split at q;rename_i _ hm;simp[hr] at q;subst q;let hm:=H hm;refine cK.alloc x j (Y.find O).nH p λk=>?_;rw[v,<-V.ajr,<-V.gn (n:=n) (V.aBj B.z),V.yi];apply cK.tn λy D N u=>bm.fresh (aQ:=gr n I (k,0)) (λS bW=>i9 bW) (ax:=.own k 0 0 0) (rf:=.en I 0 0) (C:=.cell S<|V.zero B.z) (by simp[V.ay,V.li,V.fI,V.ge,kt];exact .refl _) Q7 u;grind[i9];simp_all;simp_all;rename_i S j;split at q;rename_i I v;split at q;rename_i hm;simp[hr] at q;subst q;let hm:=H hm;refine cK.makeMap x j λk=>?_;rw[v];apply cK.tn λy D N u=>bm.fresh (aQ:=gr n I (k,0)) (λS bW=>i9 bW) (ax:=.j5 k 0) (rf:=.eW I) (C:=.map [] 0) (by simp[V.ay,V.li,V.fI,V.ge,kt];exact .refl _) (by simp[c6,cj.DL,cj.az,kt];exact .same _ .nil) u;grind[i9];simp_all;simp_all;simp_all
def agZ{K:a4}{b:X (Z×V)}{S:Z}(q:S∈BZ K):cY S (et K b)=cY S b:=by
 unfold et;generalize BZ K=L at q
 induction L
 grind
 next A L g=>
  rw[Wk];by_cases d:S=A;subst d;cases e:cY S b;simp only[PW];by_cases hm:S∈L;grind;cases f:cY S (L.filterMap _);rfl
  next U=>have:=TN f;simp_all
  next U=>simp
  let hm:S∈L:=by rcases fR.1 q with c|c;omega;exact c
  cases e:cY A b;simp_all
  next U=>grind
theorem z1 K c:et K (dy n c)=dy n (et K c):=by
 unfold et;generalize BZ K=L
 induction L
 rfl
 next A L b=>
  rw[Wk,Wk,mB];cases cY A c;simpa using b
  next U=>simp[lW,dy,iO] at b⊢;rw[b]
theorem Ad d{K:a4}{b:X (Z×V)}{U:aM}(q:U∈bo (kw K.op)):val d (et K b) U=val d b U:=by cases U with|tmp S=>simp[val,tc];apply agZ;unfold BZ;grind|_=>rfl
theorem Pe d{b c:X (Z×V)}:∀{L:X aM},(∀U∈L,val d c U=val d b U)->mI d c L=mI d b L|[],_=>p|U::x,q=>by unfold mI;rw[q U av,Pe d λC e=>q C aY]
theorem UD d{b c:X (Z×V)}:∀{L:X (Z×aM)},(∀U∈L,val d c U.2=val d b U.2)->ti d c L=ti d b L|[],_=>p|(e,U)::x,q=>by unfold ti;rw[q (e,U) av,UD d λC f=>q C aY]
theorem aAe{t:ix}{d:X (Z×V)}{b:X (Z×V)}{e:bU}{K:a4}:rM t d (et K b) e K=rM t d b e K:=by
 let c:∀U∈bo (kw K.op),val d (et K b) U=val d b U:=λU i=>Ad d i;unfold rM;cases g:K.op<;>rw[g] at c<;>simp only[kw] at c<;>try rfl
 case call f=>grind[Call.operands]
 case unOp bn S U=>cases bn<;>first|rfl|(dsimp;rw[c U av])
 case makeFunc fn y R=>grind[Pe]
 case build S j=>grind[UD]
 case pick f U C=>simp_all
 case binOp op S U C k=>simp_all
 all_goals simp_all
def dh.full{O:a9}{K:a4}{x:V}(q:dh P m K ⟨et K O.b,O.g⟩ x):dh P m K O x:=λy D N c d e i=>q y D N ⟨c.dt,λS U j=>c.b S U (by let⟨k,f⟩:=Jf j;exact f),c.hv,c.size,c.defers⟩ d e i
def aiR{t:ix}(e:gV P t)(d:e5 m.G){c:X (Z×V)}{b:bU}{az:b0}{x:V}:rM t m.G c b K=W x->dh P m K ⟨et K (dy n c),az++aX n b⟩ (x.ay n):=by grind[z1,aiQ,aAe]
end
def yl:X a4->Z->da a4|[],_=>ah|K::_,0=>W K|_::L,T+1=>yl L T
def aeM:∀L T,yl L T=(aT L)[T]?|[],T=>a3|K::L,0=>a3|K::L,T+1=>by rw[yl,aeM L T];simp
structure dg(i:Z)(n aQ:ce):Prop where
 id:∀S,i<=S->(aQ S).1=(n S).1
 eq:∀S,i+1000<=S->aQ S=n S
theorem dg.refl i n:dg i n n:=⟨λ_ _=>p,λ_ _=>p⟩
theorem dg.trans{i:Z}{y R b:ce}(q:dg i y R)(A:dg i R b):dg i y b:=⟨λS bW=>bC (A.id S bW)<|q.id S bW,λS bW=>bC (A.eq S bW)<|q.eq S bW⟩
theorem dg.of{i:Z}{y R:ce}(q:∀S,i<=S->R S=y S):dg i y R:=⟨λS bW=>ap,λS bW=>q S o⟩
def l8(e:X a4)(c:X (Z×V))(K:a4):da Y:=match K.guard with
|ah=>W af|W (b,D)=>match yl e b with
 |W d=>match d.dst with
  |W I=>match gM c I with
   |W (.bool R)=>match D with|af=>W R|ad=>W !R
   |W (.tuple [])=>W ad|_=>ah
  |ah=>ah
 |ah=>ah
def vn{e:X a4}{M:aI}{K:a4}{R:Y}n(q:l8 e M.b K=W R):(M.ay n).guard (aT e) K=W R:=by
 unfold l8 at q;unfold a9.guard;split at q;simp_all;rename_i k D g
 try (rw[g];dsimp)
 split at q;rename_i l d;rw[aeM] at d;rw[d];split at q;rename_i I j;simp[Option.bind_some,j];rw[tc] at q;let c:=mB n M.b I;split at q;rename_i f i;rw[i] at c;simp[aI.ay,c,V.ay];rw[<-q];cases D<;>cases f<;>rfl;grind[aI.ay,V.ay];trivial;trivial;trivial
def wE:da (Z×Y)->da (Z×Y)->Y
|ah,ah=>af|W (y,U),W (R,C)=>match eU y R with
 |af=>match U,C with|af,af=>af|ad,ad=>af|_,_=>ad
 |ad=>ad
|_,_=>ad
def aqn{y R:da (Z×Y)}(q:wE y R):y=R:=by unfold wE at q;grind[Nat.eq_of_beq_eq_true]
def Jx(s:da (Z×Y)):X a4->X a4×X a4|[]=>([],[])|K::L=>match wE s K.guard with|af=>([],K::L)|ad=>match Jx s L with|(y,R)=>(K::y,R)
def Vx(s:da (Z×Y)):∀L,(Jx s L).1++(Jx s L).2=L|[]=>p|K::L=>by rw[Jx];split;rfl;simp[Vx s L]
def iY(S:Z):X Z->Y|[]=>ad|A::L=>match eU S A with|af=>af|ad=>iY S L
theorem rq{S:Z}:∀{L:X Z},iY S L↔S∈L|[]=>by simp[iY]|A::L=>by rw[iY];split;simp_all;rename_i q;rw[rq,fR];constructor;simp_all;rintro(rfl|b);simp at q;omega
def kf:X a4->X Z|[]=>[]|K::L=>match K.dst with|W I=>I::kf L|ah=>kf L
def zo(b:X Z):X (Z×V)->X (Z×V)|[]=>[]|(S,U)::x=>match iY S b with|af=>zo b x|ad=>(S,U)::zo b x
def Tz{b:X Z}:∀{L:X (Z×V)}{S:Z}{U:V},gM (zo b L) S=W U->S∉b/\gM L S=W U|[],S,U,q=>cc|(A,C)::x,S,U,q=>by rw[zo] at q;rw[gM];split at q;cases Tz q;grind[Nat.eq_of_beq_eq_true,b9,rq];rw[gM] at q;split at q;grind[Nat.eq_of_beq_eq_true,rq];exact Tz q
theorem RC{b:X Z}:∀{L:X (Z×V)}{S:Z}{U:V},S∉b->gM L S=W U->gM (zo b L) S=W U|[],S,U,_,q=>cc|(A,C)::x,S,U,c,q=>by rw[zo];rw[gM] at q;split;split at q;grind[Nat.eq_of_beq_eq_true,b9,rq];exact RC c q;rw[gM];split at q;exact q;exact RC c q
def DQ(d:X a4)(c:Z)(D:Y):X Z->X a4->Y
|_,[]=>af|b,K::L=>match K.guard with
 |ah=>ad|W (e,bE)=>match wE (W (c,D)) (W (e,bE)) with
  |af=>DQ d c D (match K.dst with|W I=>I::b|ah=>b) L|ad=>match yl d e with
   |W f=>match f.dst with
    |W I=>match iY I b with|af=>DQ d c D (match K.dst with|W I=>I::b|ah=>b) L|ad=>ad
    |ah=>ad
   |ah=>ad
def N2(I:Z)(D:Y):Op->da Z
|.pick (.tmp b) U C=>match eU b I with
 |af=>match D,U,C with|af,.tmp S,.const (iv ad)=>W S|ad,.const (iv af),.tmp S=>W S|_,_,_=>ah
 |ad=>ah
|_=>ah
def awz:Op->Y
|mj .. |.unOp .. |qd .. |.index .. |.slice .. |.convert .. |.load .. |.fieldAddr .. |.nilCheck .. |.field .. |.lookup .. |.pick .. |.extract .. |.makeInterface .. =>af|gi b=>match b.callee with
 |hX .len|hX .cap|hX .min|hX .max=>af|_=>ad
|_=>ad
def Sm(e:X a4)(b:X Z)(K:a4):Y:=match K.guard with
|ah=>af|W (c,_)=>match yl e c with
 |W d=>match d.dst with|W I=>!iY I b|ah=>ad
 |ah=>ad
section
variable(P:ct)(t:ix)(m:db)(d:X (Z×V))(i:Z)(dQ:X Z)
def W1(ops:b4 a4)(L:X a4)(M:aI)(A:aI->Prop):Prop:=∀(n:ce)(al:c_->a9->Prop),(∀aQ b,dg i n aQ->A b->al gA (b.ay aQ))->cK P m ops L (M.ay n) al
structure hY(ops:b4 a4)(K:a4)(M:aI)(A:aI->Prop):Prop where
 run:gV P t->m.G=d->e5 d->∀(n:ce)(L:X a4)(al:c_->a9->Prop),(M.ay n).guard ops K=W af->(∀aQ ft,dg i n aQ->A ft->cK P m ops L (ft.ay aQ) al)->cK P m ops (K::L) (M.ay n) al
inductive ez(B:Y)(K:a4)(M:aI)(A:V->Prop):Prop|mk (x:V):(gV P t->m.G=d->e5 d->∀n az,B\/az=(M.ay n).g->dh P m K ⟨et K (dy n M.b),az⟩ (x.ay n))->A x->ez B K M A
structure aZ(l:hG)(M:aI)(al:c_->aI->Prop):Prop where
 run:∀(n:ce)(W5:c_->a9->Prop),(∀aQ F ft,dg i n aQ->al F ft->W5 F (ft.ay aQ))->fh P m l (M.ay n) W5
inductive ly(R:Y)(pD dA:Prop):Prop|mk:(R=af->pD)->(R=ad->dA)->ly R pD dA
inductive Et(R D:Y)(pD:Y->Prop)(dA:Y->Prop):Prop|mk (C:Y):(R=D->pD C)->dA C->Et R D pD dA
def o3(D R C:Y):Y:=match D with|af=>R&&C|ad=>R||C
def Bf{b:Type}:X (Z×b)->(X (Z×b)->Prop)->Prop|[],A=>A []|(S,U)::x,A=>Bf x λc=>A<|(S,U)::c
theorem C9{b:Type}:∀L(A:X (Z×b)->Prop),Bf L A↔A L|[],A=>na|(S,U)::x,A=>by rw[Bf,C9 x]
def L4:X V->(X V->Prop)->Prop|[],A=>A []|U::x,A=>L4 x λb=>A<|U::b
theorem aaQ:∀L A,L4 L A↔A L|[],A=>na|U::x,A=>by rw[L4,aaQ x]
def Sc:V->(V->Prop)->Prop|.agg L,A=>L4 L (λb=>A<|.agg b)|U,A=>A U
theorem aaO b A:Sc b A↔A b:=by cases b<;>first|rfl|exact aaQ _ _
def L5(R:Y)(x:V)(A:V->Prop):Prop:=match R with|af=>Sc x A|ad=>A x
theorem H0(R:Y)x A:L5 R x A↔A x:=by cases R;rfl;exact aaO x A
def Qn(t:ix):Op->Y
|.load S _=>match t.find S with
 |W b=>b.agg|ah=>ad
|.field S _ e=>match t.find S with
 |W b=>match b.bv[e]? with
  |W (_,d,_)=>match t.find d with|W c=>c.agg|ah=>ad
  |ah=>ad
 |ah=>ad
|.build .. =>af|_=>ad
def L3(S:Z):bU->(bU->Prop)->Prop
|[],A=>A []|(T,U)::x,A=>match eU S T with
 |af=>match U with|.cell F d=>Sc d (λc=>A<|(T,.cell F c)::x)|U=>A ((T,U)::x)
 |ad=>L3 S x λb=>A<|(T,U)::b
theorem aaP S:∀L A,L3 S L A↔A L
|[],A=>na|(T,U)::x,A=>by
 let c:=aaP S x λb=>A<|(T,U)::b;unfold L3;split;cases U<;>first|exact na|simp[aaO]
 omega
def azp(d:X (Z×V))(b:X (Z×V)):Op->da Z
|.store _ c _=>match val d b c with
 |W (.en S _ _)=>W S|_=>ah
|_=>ah
def aaR(S:da Z)(L:bU)(A:bU->Prop):Prop:=match S with|W S=>L3 S L A|ah=>A L
theorem aaS S L A:aaR S L A↔A L:=by cases S;rfl;exact aaP _ L A
def gL(D R C:Y):V:=match D with|af=>.bool (R&&C)|ad=>.bool<|R||C
def lQ(F:Y)(c:X a4):Z->da (Z×Y)->X a4->aI->(aI->Prop)->Prop
|0,_,_,_,_=>h7|_+1,_,[],M,A=>A M|T+1,s,K::L,M,A=>match wE s K.guard with
 |af=>match l8 c M.b K with
  |W af=>match rM t d M.b M.au K with
   |W x=>L5 (Qn t K.op) x (λx=>lQ F c T s L (M.put K.dst x) A)|ah=>match s,F with
    |ah,af=>match HK t d i dQ M K with|W j=>Bf j.b (λl=>Bf j.au λnm=>aaR (azp d M.b K.op) nm (lQ F c T ah L ⟨l,·,j.g⟩ A))|ah=>match awz K.op with|ad=>hY P t m d i (aT c) K M (lQ F c T ah L · A)|af=>ez P t m d ad K M (λx=>lQ F c T ah L (M.put K.dst x) A)
    |q,_=>ez P t m d ad K M (λx=>lQ F c T q L (M.put K.dst x) A)
  |_=>h7
 |ad=>match K.guard with
  |ah=>h7|W (k,D)=>match yl c k with
   |ah=>h7|W u=>match u.dst with
    |ah=>h7|W I=>match gM M.b I with
     |W (.bool R)=>match Jx s (K::L) with
      |(e,f::r)=>match wE s f.guard,l8 c M.b f,f.dst,N2 I D f.op,DQ c k D [] e,iY I (kf e),Sm c (kf e) f with
       |af,W af,W n,W v,af,ad,af=>
        Et R D (λC=>lQ F c T (W (k,D)) e {M with b:=(I,.bool D)::M.b} (λj=>gM j.b v=W (.bool C)))
         (λC=>Bf (zo (kf e) M.b) λl=>lQ F c T s r {M with b:=(n,gL D R C)::l} A)|_,_,_,_,_,_,_=>h7
      |_=>h7
     |_=>h7
end
section
variable{P:ct}{t:ix}{m:db}{d:X (Z×V)}{i:Z}{dQ:X Z}
def bm.Ae{O:a9}{y:fS}{D:bZ}{N:bh}(q:bm m O y D N){L:X (Z×V)}(c:∀S U,cY S L=W U->cY S O.b=W U):bm m ⟨L,O.g⟩ y D N:=⟨q.dt,λS U d=>q.b S U<|c S U d,q.hv,q.size,q.defers⟩
def cK.Ae{ops:b4 a4}{L:X a4}{O:a9}{al:c_->a9->Prop}c(f:∀S U,cY S c=W U->cY S O.b=W U)(q:cK P m ops L ⟨c,O.g⟩ al):cK P m ops L O al:=λe y D N d=>q e y D N<|d.Ae f
theorem M1(M:aI)I U S:gM (M.put (W I) U).b S=if S=I then W U else gM M.b S:=by simp[aI.put,gM];cases q:eU S I with|true=>simp_all|false=>rw[ab];intro F;simp_all
structure pE(M ft:aI)(uW:X Z):Prop where
 au:ft.au=M.au
 g:ft.g=M.g
 b:∀S∉uW,∀U,gM M.b S=W U->gM ft.b S=W U
theorem pE.refl M b:pE M M b:=⟨p,p,λ_ _ _ q=>q⟩
theorem pE.put{M e:aI}{d:X Z}{K:a4}{x:V}{L:X a4}(q:pE (M.put K.dst x) e (kf L))(f:d=kf (K::L)):pE M e d:=by subst f;cases c:K.dst with|none=>rw[c] at q;simp[kf,c];exact q|some I=>rw[c] at q;simp[kf];refine⟨q.au,q.g,λS bW U j=>q.b S (λi=>bW aY) U ?_⟩;simp_all[M1,ab]
theorem LL:∀y R,kf (y++R)=kf y++kf R|[],R=>p|K::y,R=>by rw[yM,kf,kf];cases K.dst<;>simp[LL y R]
def abk{e:X a4}{M g:aI}{d:X Z}{K:a4}(c:Sm e d K)(q:pE M g d)(f:l8 e M.b K=W af):l8 e g.b K=W af:=by
 unfold Sm at c;unfold l8 at f⊢;split at c;rfl
 try simp at f⊢
 split at c;split at c;rename_i I l;let j:I∉d:=λk=>by grind[rq]
 cases i:gM M.b I;simp_all
 next U=>rw[q.b I j U i];simp_all
 trivial;trivial
structure Cx(P:ct)(m:db)(ops:b4 a4)(lw:X a4->a9->Prop):Prop where
 pure:∀K L O x,O.guard ops K=W af->dh P m K ⟨et K O.b,O.g⟩ x->lw L (O.put K.dst x)->lw (K::L) O
 skip:∀K L O,O.guard ops K=W ad->lw L (O.put K.dst (.tuple []))->lw (K::L) O
 D3:∀L O Iq,(∀S U,cY S Iq=W U->cY S O.b=W U)->lw L ⟨Iq,O.g⟩->lw L O
def cK.rules ops al:Cx P m ops (cK P m ops · · al):=⟨λ_ _ _ _ b c q=>cK.pure b c.full q,λ_ _ _ b q=>cK.skip b q,λ_ _ e d q=>cK.Ae _ d q⟩
def Cx.ajd{ops:b4 a4}{c:X a4->a9->Prop}(d:Cx P m ops c){L:X a4}{M ft:aI}{n:ce}(i:ft.au=M.au)(j:ft.g=M.g)(k:∀S U,gM ft.b S=W U->gM M.b S=W U)(q:c L (ft.ay n)):c L (M.ay n):=by
 refine d.D3 L _ (dy n ft.b) (λS U e=>?_) ?_;rw[mB] at e;show cY S (dy n _)=W U;rw[mB];cases f:cY S ft.b;simp_all
 next C=>simp_all[tc]
 grind[aI.ay]
def Fx(c:e5 m.G){K:a4}{M:aI}{n:ce}{az:b0}{U:aM}{I:V}(q:val m.G M.b U=W I)(e:U∈bo (kw K.op))(d:I.plain):(⟨et K (M.ay n).b,az⟩:a9).val m U=W I:=by have:=xb c (n:=n) (b:=et K M.b) (az:=az) (K:=U) (U:=I) (by grind[Ad]);rwa [V.gn d,<-z1] at this
def Vr{i:X a4}{t:Z}{D R:Y}{A:a4}{I:Z}{n:ce}(y:yl i t=W A)(w:A.dst=W I)(v:R≠D){j:X a4->a9->Prop}(k:Cx P m (aT i) j){z:X a4}:∀d c M,DQ i t D c d->iY I (kf d)=ad->I∉c->gM M.b I=W (.bool R)->(∀S∈c,gM M.b S=W (.tuple []))->(∀e,pE M e (kf d)->gM e.b I=W (.bool R)->j z (e.ay n))->j (d++z) (M.ay n)
|[],c,M,_,_,_,l,_,q=>q M (pE.refl M _) l|K::d,c,M,s,hm,C,l,B,q=>by
 let g:l8 i M.b K=W ad/\DQ i t D (match K.dst with|W I=>I::c|ah=>c) d=af:=by unfold DQ at s;unfold l8;split at s;trivial;split at s;rename_i he;let he:=aqn he;grind;grind[rq]
 apply k.skip _ _ _<|vn n g.1;let F:=aI.nA n M K.dst<|.tuple [];rw[show(V.tuple []).ay n=.tuple [] from p] at F;cases f:K.dst;rw[f] at g;refine Vr y w v k d c M g.2 (by simpa[kf,f] using hm) C l B λe he r=>q e ?_ r;exact pE.put (x:=.tuple []) (by rw[f];exact he) p
 next u=>simp[kf,f,iY] at hm;split at hm;cases hm;let E:I≠u:=λF=>ap;rw[f] at g;refine Vr y w v k d _ (M.put (W u)<|.tuple []) g.2 hm ap (by simp_all[M1,ab]) ?_ λe he r=>q e ?_ r;grind[M1,b9];exact pE.put (x:=.tuple []) ap p
def afW{I c:Z}{D:Y}{b:Op}(q:N2 I D b=W c):D/\b=.pick (.tmp I) (.tmp c) (.const (iv ad))\/D=ad/\b=.pick (.tmp I) (.const (iv af)) (.tmp c):=by unfold N2 at q;split at q;split at q;rename_i he;have:=pu he;grind;trivial;trivial
def abi(i:e5 m.G){r:X a4}{H:Z}{D R C:Y}{J d:a4}{I s u:Z}{n:ce}{M:aI}{c j:X a4}{f:X a4->a9->Prop}(k:Cx P m (aT r) f)(am:yl r H=W J)(Q:J.dst=W I)(O:gM M.b I=W (.bool R))(aw:l8 r M.b d=W af)(ax:d.guard=ah\/True)(x:d.dst=W s)(A:N2 I D d.op=W u)(ao:DQ r H D [] c)(ak:iY I (kf c)=ad)(z:∀ft,pE M ft (kf c)->l8 r ft.b d=W af)(T:R=D->∀j,(∀ft,gM ft.b u=W (.bool C)->pE {M with b:=(I,.bool D)::M.b} ft (kf c)->f j (ft.ay n))->f (c++j) (({M with b:=(I,.bool D)::M.b}:aI).ay n))(q:f j (({M with b:=(s,.bool<|o3 D R C)::zo (kf c) M.b}:aI).ay n)):f (c++d::j) (M.ay n):=by
 let al:I∉kf c:=λar=>by grind[rq]
 let v:∀ft,pE M ft (kf c)->f j ((ft.put (W s)<|.bool<|o3 D R C).ay n):=by intro ft he;refine k.ajd (ft:={M with b:=(s,.bool<|o3 D R C)::zo (kf c) M.b}) (bG he.au) (bG he.g) (λS U l=>?_) q;rw[M1];simp[gM] at l;split at l;simp_all;rw[ab λF=>ap];let⟨L,N⟩:=Tz l;exact he.b S L U N
 by_cases t:R=D;refine k.ajd (ft:={M with b:=(I,.bool D)::M.b}) p p (λS U l=>?_)<|T t _ λft E he=>?_;grind[gM,Nat.eq_of_beq_eq_true];let y:pE M ft (kf c):=⟨he.au,he.g,λS bW U l=>he.b S bW U (by grind[gM,Nat.eq_of_beq_eq_true])⟩;let w:gM ft.b I=W (.bool D):=he.b I al _ (by simp[gM]);apply k.pure _ _ _ (.bool<|o3 D R C)<|vn n<|z ft y;rcases afW A with⟨rfl,e⟩|⟨rfl,e⟩;apply Og (S:=af) e<|Fx i (K:=d) (M:=ft) (U:=.tmp I) w ej p;have:=Fx i (K:=d) (M:=ft) (n:=n) (az:=(ft.ay n).g) (U:=.tmp u) E ej p;grind[o3];apply Og (S:=ad) e<|Fx i (K:=d) (M:=ft) (U:=.tmp I) w ej p;have:=Fx i (K:=d) (M:=ft) (n:=n) (az:=(ft.ay n).g) (U:=.tmp u) E ej p;grind[o3];rw[x];exact v ft y;refine Vr am Q t k c [] M ao ak av O av λft he B=>?_;apply k.pure _ _ _ (.bool<|o3 D R C)<|vn n<|z ft he;rcases afW A with⟨rfl,e⟩|⟨rfl,e⟩;have:R=ad:=by cases R;rfl;exact b9 p t
 subst this;exact Og (S:=ad) e (Fx i (K:=d) (M:=ft) (U:=.tmp I) B ej p) a3;have:R:=by cases R;exact b9 p t;rfl
 subst this;exact Og (S:=af) e (Fx i (K:=d) (M:=ft) (U:=.tmp I) B ej p) a3;rw[x];exact v ft he
def XJ(D R C:Y):gL D R C=.bool (o3 D R C):=by cases D<;>rfl
def ajj(B:gV P t)(j:m.G=d)(u:e5 d){F:Y}{N:X a4}{l:X a4->a9->Prop}(r:Cx P m (aT N) l):∀T(s:da (Z×Y)) L M A,F=ad\/s≠ah->lQ P t m d i dQ F N T s L M A->∀n e,(∀c,A c->pE M c (kf L)->l e (c.ay n))->l (L++e) (M.ay n):=by
 intro T
 induction T
 intro s L M A _ q;trivial
 next T y=>
  intro s L M A v q n e k;cases L;exact k M q (pE.refl M _)
  next K L=>
   unfold lQ at q;split at q;split at q;rename_i E;split at q;rename_i x w;rw[H0] at q;apply r.pure _ _ _ _ (vn n E)<|aiR B (j▸u)<|bG j▸w;rw[<-aI.nA];exact y s L _ A v q n e λc f he=>k c f<|pE.put he p;split at q;trivial;obtain @⟨x,w,q⟩:=q;apply r.pure _ _ _ _ (vn n E)<|w B j u n _<|bp p;rw[<-aI.nA];exact y s L _ A v q n e λc f he=>k c f<|pE.put he p;trivial;split at q;trivial;split at q;trivial;rename_i aJ ap;split at q;trivial;rename_i I al;split at q;rename_i R ak;split at q;rename_i Q aK az ax;split at q;rename_i O aL aA z am ar aw hm ao;cases q
   next C aD J=>rw[C9,XJ] at J;let H:=Vx s<|K::L;rw[ax] at H;rw[<-H,fJ,yM];refine abi (C:=C) (j▸u) r ap al ak z (bp c1) am ar aw hm (λc he=>abk ao he z) (λaC aH aB=>?_) ?_;grind;refine y s az _ A v J n e λc f he=>k c f ⟨he.au,he.g,λS bW U aG=>he.b S (λD=>bW ?_) U ?_⟩;grind[LL,kf];let aE:S∉kf Q:=λD=>bW (by grind[LL]);let aF:S≠O:=λD=>bW (by grind[LL,kf]);grind[gM,eU,b9,Nat.eq_of_beq_eq_true,RC]
   trivial;trivial;trivial
theorem aBc(f:gV P t)(b:m.G=d)(c:e5 d){D:X a4}:∀T L M A,lQ P t m d i dQ af D T ah L M A->W1 P m i (aT D) L M A:=by
 intro T
 induction T
 intro L M A q;trivial
 next T g=>
  intro L M A q n al e;cases L;exact cK.nil (e n M (dg.refl i n) q)
  next K L=>
   unfold lQ at q;split at q;split at q;rename_i j;split at q;rename_i x u;rw[H0] at q;apply cK.pure (vn n j)<|aiQ f (b▸c)<|bG b▸u;rw[<-aI.nA];exact g L _ A q n al e;dsimp at q;split at q;rename_i k v;rw[C9,C9,aaS] at q;exact aph f (b▸c) (bG b▸v) (vn n j) λaQ l=>g L k A q aQ al λap w r s=>e _ w (dg.trans (dg.of l) r) s;split at q;exact q.run f b c n L al (vn n j) λaQ k l v=>g L k A v aQ al λap w r s=>e _ w (l.trans r) s;obtain @⟨x,u,q⟩:=q;apply cK.pure (vn n j)<|dh.full<|u f b c n _<|bp p;rw[<-aI.nA];exact g L _ A q n al e;trivial;split at q;trivial;split at q;trivial;rename_i aw U;split at q;trivial;rename_i I N;split at q;rename_i R H;split at q;rename_i E ax am ak;split at q;rename_i ar ay au y O Y Z hm Q;cases q
   next C S B=>rw[C9,XJ] at B;let z:=Vx ah<|K::L;rw[ak] at z;rw[<-z];refine abi (C:=C) (b▸c) (cK.rules _ _) U N H y (bp c1) O Y Z hm (λk he=>abk Q he y) (λJ ao F=>?_) ?_;exact ajj f b c (cK.rules _ _) T _ E _ _ (bp av) (S J) n ao F;exact g am _ A B n al e
   trivial;trivial;trivial
end
def uH(next:aI->Prop)(al:c_->aI->Prop):c_->aI->Prop|gA,M=>next M|F,M=>al F M
def X9(c:Z)(al:c_->aI->Prop):c_->aI->Prop
|.exit b,M=>match eU b c with
 |af=>al gA M|ad=>al (.exit b) M
|F,M=>al F M
def tW(T:Z):X a4->Y
|[]=>af|K::L=>match K.dst with
 |W I=>match ja I T with|af=>tW T L|ad=>ad
 |ah=>tW T L
theorem CS{T:Z}:∀{L:X a4},tW T L->pL T L|[],_=>p|K::L,q=>by rw[tW] at q;rw[pL,Pu,j_];split at q;split at q;exact⟨ap,CS q⟩;trivial;exact⟨aY,CS q⟩
def apg:Op->Y
|.store .. |.alloc .. |.box .. |.makeMap .. |.makeSlice .. |.mapUpdate .. |.insert .. |.mapEntry .. |.entryStore .. |.range .. |.next .. =>af|gi b=>match b.callee with
 |hX .len|hX .cap|hX .min|hX .max|qc _=>ad|_=>af
|_=>ad
def US:X a4->Y|[]=>af|K::L=>match apg K.op with|af=>ad|ad=>US L
inductive KG(cH:X a4)(pD:Prop):Prop|mk:tb cH->pD->KG cH pD
def adL(dQ:X Z):hG->Y|.cond (.tmp S) _ _=>iY S dQ|.block id _=>iY (id+1000) dQ|sM id _ _=>iY (id+2000) dQ|.seq _ R=>adL dQ R|_=>ad
section
variable(P:ct)(t:ix)(m:db)(d:X (Z×V))(i T:Z)(dQ:X Z)
def ls:hG->aI->(c_->aI->Prop)->Prop
|.skip,M,al=>al gA M|.ret,M,al=>al .ret M|.exit id,M,al=>al (.exit id) M|.label _,M,al=>al gA M|.seq y R,M,al=>match adL dQ y with
 |af=>aZ P m i (.seq y R) M al|ad=>ls y M (uH (ls R · al) al)
|.cond c y R,M,al=>match val d M.b c with
 |W (.bool U)=>ly U (ls y M al) (ls R M al)|_=>h7
|.block id c,M,al=>ls c M (X9 id al)|sM id ops e,M,al=>match e with
 |ad=>match tW T (bo ops) with|af=>lQ P t m d i dQ af (bo ops) 4000 ah (bo ops) M (al gA ·)|ad=>h7
 |af=>match US (bo ops),tW T (bo ops) with
  |af,af=>KG (bo ops) (lQ P t m d i dQ ad (bo ops) 4000 ah (bo ops) M (al gA ·))|_,_=>aZ P m i (sM id ops af) M al
|c,M,al=>aZ P m i c M al
end
section
variable{P:ct}{t:ix}{m:db}{d:X (Z×V)}{i T:Z}{dQ:X Z}
theorem aZ.region{f:Z}{ops:b4 a4}{M:aI}{al:c_->aI->Prop}(a7:m.n=T)(j:tW T (bo ops))(q:W1 P m i (aT (bo ops)) (bo ops) M (al gA ·)):aZ P m i (sM f ops ad) M al:=by refine⟨λn b c=>?_⟩;let F:ops=aT (bo ops):=av;apply fh.region (by grind[CS]);exact q n b λaQ g d e=>c aQ _ g d e
inductive tH(P:ct)(m:db)(ops:b4 a4)(al:a9->Prop):X a4->a9->Prop|nil (O:a9):al O->tH P m ops al [] O|pure (K:a4) (L:X a4) (O:a9) (x:V):O.guard ops K=W af->dh P m K ⟨et K O.b,O.g⟩ x->tH P m ops al L (O.put K.dst x)->tH P m ops al (K::L) O|skip (K:a4) (L:X a4) (O:a9):O.guard ops K=W ad->tH P m ops al L (O.put K.dst (.tuple []))->tH P m ops al (K::L) O|D3 (L:X a4) (O:a9) (Iq:X (Z×V)):(∀S U,cY S Iq=W U->cY S O.b=W U)->tH P m ops al L ⟨Iq,O.g⟩->tH P m ops al L O
def tH.rules ops al:Cx P m ops (tH P m ops al):=⟨.pure,.skip,.D3⟩
structure i2(eO O:a9):Prop where
 b:∀S U,cY S eO.b=W U->cY S O.b=W U
 g:eO.g=O.g
theorem i2.put{eO O:a9}(q:i2 eO O)I U:i2 (eO.put I U) (O.put I U):=by
 cases I;exact q
 next I=>refine⟨λS C c=>?_,q.g⟩;rw[M2] at c⊢;split;simp_all;rename_i F;rw[ab F] at c;exact q.b S C c
theorem i2.guard{eO O:a9}(q:i2 eO O){ops:b4 a4}{K:a4}{R:Y}(c:eO.guard ops K=W R):O.guard ops K=W R:=by unfold a9.guard at c⊢;split at c;exact c;split at c;split at c;rename_i e d;rw[q.b _ _ d];exact c;rename_i d;rw[q.b _ _ d];exact c;trivial;omega
theorem i2.et{eO O:a9}(q:i2 eO O)K:∀S U,cY S (ga.et K eO.b)=W U->cY S (ga.et K O.b)=W U:=by intro S U e;let⟨c,d⟩:=Jf e;rw[agZ c];exact q.b S U d
def i2.tl{eO O:a9}(q:i2 eO O)I x:i2 (eO.tl I x) (O.tl I x):=i2.put (eO:=⟨eO.b,gI eO.g x.2⟩) (O:=⟨O.b,gI O.g x.2⟩) ⟨q.b,ep (gI · x.2) q.g⟩ I x.1
def fz.sE{d e:X (Z×V)}{az f:b0}{K:a4}{x:V}(k:∀S U,cY S e=W U->cY S d=W U)(q:fz P m K ⟨e,az⟩ x f):fz P m K ⟨d,az⟩ x f:=λy D N c g i j=>q y D N ⟨c.dt,λS U l=>c.b S U<|k S U l,c.hv,c.size,c.defers⟩ g i j
def y6.sE{ops:b4 a4}{K:a4}{ao:eD}{eO O:a9}{I:jw}(b:i2 eO O)(q:y6 P m ops K ao eO I):y6 P m ops K ao O I:=by rcases q with⟨c,d⟩|⟨c,d,e⟩;exact bl ⟨b.guard c,d⟩;exact bp ⟨b.guard c,d,λaz i f=>(e az (by rw[i,b.g]) (by rw[b.g];exact f)).sE<|b.et K⟩
def W7.sE{ops:b4 a4}:∀{L:X a4}{bv:X eD}{eO O:a9}{b:X jw},i2 eO O->sT P m ops L bv eO b->sT P m ops L bv O b|[],[],_,_,_,_,q=>q|K::L,ao::bv,eO,O,x::b,c,q=>⟨q.1.sE c,W7.sE (c.tl _ x) q.2⟩
def agm:∀{L:X a4}{c:X jw}{eO O:a9} b,i2 eO O->i2 (cN L c (λ_=>af) b eO) (cN L c (λ_=>af) b O)|[],_,_,_,_,q=>cc|K::L,[],_,_,_,q=>cc|K::L,x::c,eO,O,b,q=>agm (b+1)<|q.tl _ x
theorem i2.refl O:i2 O O:=⟨λ_ _ q=>q,p⟩
theorem i2.trans{y R c:a9}(q:i2 y R)(A:i2 R c):i2 y c:=⟨λS U d=>A.b S U<|q.b S U d,bC q.g A.g⟩
def tH.run{ops:b4 a4}{al:a9->Prop}{L:X a4}{O:a9}(q:tH P m ops al L O):∀T,Q O.g=T->∃(b:X jw)(c:a9),sT P m ops L (L.map λ_=>(bJ T,[])) O b/\i2 c (cN L b (λ_=>af) 0 O)/\al c:=by
 induction q
 next O r=>exactλT _=>⟨[],O,p,i2.refl O,r⟩
 next K L O x j n _ f=>
  intro T a7;let⟨b,c,d,e,i⟩:=f T (by cases K.dst<;>exact a7);refine⟨(x,[])::b,c,⟨bp ⟨j,av,λaz u l=>?_⟩,d⟩,?_,i⟩;obtain rfl:az=O.g:=jI λA=>by by_cases q:A<T;exact l A<|bl<|g4.2 q;rw[yO o,yO o]
  exact n;rw[cN,F7 L b _ 0];exact e
 next K L O j _ f=>intro T a7;let⟨b,c,d,e,i⟩:=f T (by cases K.dst<;>exact a7);refine⟨(.tuple [],[])::b,c,⟨bl ⟨j,p⟩,d⟩,?_,i⟩;rw[cN,F7 L b _ 0];exact e
 next L O t s _ f=>intro T a7;let⟨b,c,d,e,i⟩:=f T a7;let k:i2 ⟨t,O.g⟩ O:=⟨s,p⟩;exists b,c,W7.sE k d,e.trans<|agm 0 k
theorem fh.ao2{id:Z}{L:X a4}{O:a9}{al:c_->a9->Prop}(x:P.follows py)(t:pL m.n L)(w:tb L)(q:tH P m (aT L) (al gA) L O):fh P m (sM id (aT L) af) O al:=by let⟨f,z,j,d,k⟩:=q.run _ p;intro y D N l;refine Code.wp_mono ?_<|fh.Zy (al:=λF eO=>F=gA/\eO=cN L f (λ_=>af) 0 O) x t w (λG H C E A _ _ u v s=>?_) ⟨f,j,p,p⟩ (id:=id) y D N l;rintro F B bE ⟨eO,i,⟨rfl,rfl⟩,r⟩;exact⟨z,i,k,by have:=r.Ae d.b;rw[<-d.g] at this;exact this⟩;let c:=eY u;let e:=eY v;simp[cV] at c e;obtain⟨_,_,rfl⟩:=c;obtain⟨_,_,rfl⟩:=e;simp at s
def aZ.seq{y R:hG}{M:aI}{al:c_->aI->Prop}(q:aZ P m i y M (uH (aZ P m i R · al) al)):aZ P m i (.seq y R) M al:=by refine⟨λn e b=>?_⟩;refine fh.seq<|q.run n _ λaQ F k c d=>?_;cases F with|normal=>exact d.run aQ e λr f l g j=>b _ f l (c.trans g) j|_=>exact b aQ _ k c d
def aZ.mono{c:hG}{M:aI}{al b:c_->aI->Prop}(q:aZ P m i c M al)(k:∀F M,al F M->b F M):aZ P m i c M b:=⟨λn e g=>q.run n e λaQ F d j f=>g aQ F d j<|k F d f⟩
def uI(l:P.follows py)(k:gV P t)(e:m.G=d)(j:e5 d)(a7:m.n=T):∀f M al,ls P t m d i T dQ f M al->aZ P m i f M al
|.skip,M,al,q=>⟨λn c b=>fh.skip<|b n _ M (dg.refl i n) q⟩|.ret,M,al,q=>⟨λn c b=>fh.ret<|b n _ M (dg.refl i n) q⟩|.exit id,M,al,q=>⟨λn c b=>fh.exit<|b n _ M (dg.refl i n) q⟩|.label L,M,al,q=>⟨λn c b=>fh.label<|b n _ M (dg.refl i n) q⟩|.seq y R,M,al,q=>by
 rw[ls] at q;split at q;exact q;refine aZ.seq<|(uI l k e j a7 y M _ q).mono λF s r=>?_;cases F with
 |normal=>exact uI l k e j a7 R s al r|_=>exact r
|.cond f y R,M,al,q=>by
 rw[ls] at q;split at q;rename_i U C;refine⟨λn c b=>?_⟩;cases q
 next bW x=>let B:=xb (e▸j) (n:=n) (az:=M.g++aX n M.au)<|bG e▸C;exact fh.cond B (λu=>(uI l k e j a7 y M al<|bW u).run n c b) λu=>(uI l k e j a7 R M al<|x u).run n c b
 trivial|.block id f,M,al,q=>by
 refine⟨λn c b=>?_⟩;refine fh.block<|(uI l k e j a7 f M _ q).run n _ λaQ F s w r=>?_;cases F with
 |exit E=>simp[X9] at r;simp[QS];split at r;simp_all;rw[ab λF=>ap];simp_all|_=>exact b aQ _ s w r
|sM id ops v,M,al,q=>by
 cases v;let q:(match tW T _ with|af=>lQ P t m d i dQ _ _ _ _ _ M _|ad=>h7):=q;grind[aZ.region,aBc];let q:(match US _,tW T _ with|af,af=>KG _ _|_,_=>aZ P m i _ M al):=q;split at q;cases q
 next z q=>refine⟨λn c b=>?_⟩;let F:ops=aT (bo ops):=av;apply fh.ao2 l (by grind[CS]) z;have:=ajj k e j (tH.rules _ _) _ _ _ M _ (bl p) q n [] (λs A _=>.nil _<|b n _ s (dg.refl i n) A);grind
 omega|.loop f,M,al,q=>q|.rangeFunc ao H y R,M,al,q=>q|.scope f,M,al,q=>q|.goto L,M,al,q=>q|.refuse D,M,al,q=>q
def oE:bU->Y|[]=>af|(S,_)::L=>!iY S (aa (·.1) L)&&oE L
def Ey:X (Z×V)->X (Z×V)->Prop|[],_=>dW|(S,U)::x,L=>gM L S=W U/\Ey x L
def tJ:bU->bU->Prop|[],_=>dW|(S,U)::x,L=>cx L S=W U/\tJ x L
structure nO(ft M:aI):Prop where
 b:Ey ft.b M.b
 au:tJ ft.au M.au
 aum:oE ft.au
 g:ft.g=M.g
theorem Ey.gM:∀{b L:X (Z×V)},Ey b L->∀S U,gM b S=W U->gM L S=W U|[],_,_,S,U,q=>cc|(A,C)::x,L,⟨d,c⟩,S,U,q=>by rw[ga.gM] at q;split at q;simp_all;exact c.gM S U q
def YC:∀{L:bU}{S:Z}{U:cj},cx L S=W U->(S,U)∈L|[],S,U,q=>cc|(A,C)::x,S,U,q=>by rw[cx] at q;split at q;simp_all;exact ku _<|YC q
def tJ.mem:∀{c L:bU},tJ c L->∀b∈c,b∈L|[],_,_,b,q=>cc|(A,C)::x,L,⟨d,e⟩,b,q=>by rcases fR.1 q with rfl|q;exact YC d;exact e.mem b q
def anr{n:ce}:∀{b L:bU},(∀c∈b,c∈L)->oE b->eb (aa (·.1) (aX n L))->eb (aa (·.1) (aX n b)):=by
 intro b
 induction b
 simp[aX]
 next c x r=>
  intro L k a7 q;let⟨S,U⟩:=c;simp[oE,j_] at a7;let e:=r (λc u=>k c aY) a7.2 q;simp only[aX,iO,xj] at e⊢;refine⟨λi=>?_,e⟩;simp only[gh,cV] at i;let⟨d,v,w⟩:=i;let y:d.1≠S:=λF=>by grind[iY,rq]
  let t:=k d aY;let z:∀L,eb (aa (·.1)<|aX n L)->(S,U)∈L->d∈L->h7:=by
   intro L
   induction L
   simp
   next C L s=>intro j l m;simp only[aX,iO,xj] at j;rcases fR.1 l with f|f<;>rcases fR.1 m with g|g;grind;simp_all;grind;exact s j.2 f g
  grind
def bm.DT{M ft:aI}{n:ce}{y:fS}{D:bZ}{N:bh}(c:nO ft M)(q:bm m (M.ay n) y D N):bm m (ft.ay n) y D N:=by
 refine⟨q.dt.sub ?_ ?_,λS U r=>q.b S U ?_,q.hv,q.size,q.defers⟩;intro t d;rcases eX.1 d with d|d;rw[c.g] at d;exact yQ _ d;obtain⟨i,f,rfl⟩:=cV.1 d;exact yR _<|cV.2 ⟨i,c.au.mem i f,p⟩;let e:=q.dt.lj;simp only[aI.ay,dn,sI] at e⊢;refine⟨by rw[c.g];simp_all,anr c.au.mem c.aum e.2.1,λy j R k=>?_⟩;rw[c.g] at j;apply e.2.2 y j R;obtain⟨i,f,rfl⟩:=cV.1 k;obtain⟨x,l,rfl⟩:=cV.1 f;exact cV.2 ⟨_,cV.2 ⟨x,c.au.mem x l,p⟩,p⟩;simp[aI.ay,mB] at r⊢;cases s:cY S ft.b;simp_all
 next C=>have:=c.b.gM S C (by grind[tc]);grind[tc]
def aZ.D3{b:hG}{M c:aI}{al:c_->aI->Prop}(g:nO c M)(q:aZ P m i b c al):aZ P m i b M al:=⟨λn d e y D N f=>q.run n d e y D N<|f.DT g⟩
def aZ.cut{cb:Type}{y R:hG}{M:aI}{al:c_->aI->Prop}(b:cb->aI)(d:cb->Prop)(q:aZ P m i y M (uH (λe=>∃U,d U/\nO (b U) e) al))(A:∀U,d U->aZ P m i R (b U) al):aZ P m i (.seq y R) M al:=aZ.seq (q.mono λF e c=>by cases F with|normal=>let⟨U,f,g⟩:=c;exact(A U f).D3 g|_=>exact c)
def aZ.loop{G:Type}{w:hG}{M:aI}{al:c_->aI->Prop}(l:G->aI)(s:G->Prop)(u:G->Z)E(J:s E)(ao:nO (l E) M)(aw:∀U,s U->aZ P m i w (l U) (uH (λc=>∃d,s d/\u d<u U/\nO (l d) c) al)):aZ P m i (.loop w) M al:=by
 apply aZ.D3 ao;refine⟨λn z x=>?_⟩;let au:∀A U n,u U=A->s U->(∀aQ F c,dg i n aQ->al F c->z F (c.ay aQ))->∀y D N,bm m ((l U).ay n) y D N->∀(R:Frame) k f,∃F v bE,KQ m z F v bE/\Arrives P (lone (R.at y<|.code w::.inLoop w::k) f D) R k f F v bE:=by
  intro A
  induction A using Nat.strongRecOn
  next A ar=>
   intro U n S X x y D N B R k f;let am:=(aw U X).run n (λF O=>match F with
    |gA=>∃aQ d,dg i n aQ/\s d/\u d<u U/\∃c,nO (l d) c/\O=c.ay aQ|F=>z F O) (λaQ F c C b=>by cases F with|normal=>obtain⟨d,aB,aC,aD⟩:=b;grind|_=>exact x aQ _ c C b)
   obtain⟨F,r,t,⟨eO,g,b,j⟩,e⟩:=am y D N B R _ f;cases F;obtain⟨aQ,d,C,Y,T,c,ap,rfl⟩:=b;obtain⟨I,H,az,ak,Q⟩:=ar _ (S▸T) d aQ p Y (λaE F ax K q=>x _ F ax (C.trans K) q) _ _ g (j.DT ap) R k f;exact⟨I,H,az,ak,.of_steps (Steps.trans e<|.one step_inLoop) Q⟩
   next id=>exact⟨_,r,t,⟨eO,g,b,j⟩,.pass p (λ_ _=>bl av) e⟩
   next L=>exact⟨_,r,t,⟨eO,g,b,j⟩,.pass p (λ_ _=>bl av) e⟩
   exact⟨_,r,t,⟨eO,g,b,j⟩,.pass p (λ_ _=>bl av) e⟩
   next aA=>exact⟨_,r,t,⟨eO,g,b,j⟩,.pass p (λ_ _=>bl av) e⟩
   exact⟨_,r,t,⟨eO,g,b,j⟩,.pass p (λ_ _=>bl av) e⟩
 intro y D N B R k f;obtain⟨F,v,bE,b,e⟩:=au _ E n p J x y D N B R k f;exact⟨F,v,bE,b,.of_steps (.one step_loop) e⟩
structure jl(P:ct)(m:db)(i:Z)(aBk:ce)(jH:X ik)(akG:V->b0->Prop)(F:c_)(M:aI):Prop where
 he:F=.ret\/F=gA
 run:∀n,dg i aBk n->∀(y:fS)(D:bZ)(N:bh),bm m (M.ay n) y D N->∃(jT:X bt)(de:X V)(g:b0)(Ep:bh),Q jT=Q de/\cI P (jH.mapM (vG y.tmps)) D=cS jT D/\(∀(E:Z)(U:V)(ax:bt),de[E]?=W U->jT[E]?=W ax->bj Ep U ax)/\Holds m Ep g D/\akG (cU de) g
def gJ.of_wp{d:X (Z×V)}{ao:gP}{c:Func}{H:hG}{f:X ik}{xs:X V}{g:b0}{v:V->b0->Prop}{T i:Z}dQ k M(aC:P.follows py)(ar:gV P t)(am:e5 d)(L:KM P ao c H)(a7:c.ntmps=T)(aK:iQ (Q xs) T)(aF:bo c.results=f)(aH:M.ay k=⟨qj 0 xs,g⟩)(q:∀m,m.G=d->m.n=T->ls P t m d i T dQ H M (jl P m i k f v)):gJ P d ao xs g v:=by
 intro N r D z aA aD b aw;refine calls_of_wp L.get L.body ?_;subst a7;let J:bm ⟨D,z,N,aa (·.1) g,d,c.ntmps⟩ ⟨qj 0 xs,g⟩ {tmps:=aT r++ty (c.ntmps-bB (aT r)) undef,defers:=[]} D N:=by
  refine⟨⟨b.le,⟨b.B.os,b.B.tape,b.B.output,b.B.size,b.B.block⟩,b.m0,b.m4,b.m5,b.own,b.kD,b.ma,b.gy,b.lj,b.kS,b.inj⟩,λS U aI=>?_,aw,ap,p⟩;let⟨_,e⟩:=Qx xs 0 S U aI;let aB:S<Q r:=by rw[aA];exact(e3.1 e).1
  refine⟨r[S],?_,aD S U _ e<|cm aB⟩;rw[ajy o];simp
 rw[<-aH] at J;refine Code.wp_mono ?_<|(uI aC ar p am p _ _ _<|q ⟨D,z,N,aa (·.1) g,d,c.ntmps⟩ p p).run k (λF O=>∃aQ j,dg i k aQ/\jl P _ i k f v F j/\O=j.ay aQ) (λaQ F j w y=>⟨aQ,j,w,y,p⟩) _ D N J;rintro F E bE ⟨eO,Y,⟨aQ,j,w,⟨he,au⟩,rfl⟩,K⟩;let⟨l,R,az,s,e,ak,I,al,y⟩:=au aQ w E bE Y K;let aG:cI P (results c E.tmps) bE=cS (NS l) bE:=by
  rw[ag0,<-ajE (xs:=c.results),aF];let hm:∀(u:ik->Sem bt),(aT f).mapM u=Functor.map aT (f.mapM u):=λu=>av;simp only[Sem.run_bind];rw[hm];simp[Sem.run_map,ak,Sem.run_pure]
  match l with|[]=>rfl|[bn]=>rfl|bn::aJ::x=>rfl
 let aE:bj s (cU R) (NS l):=by
  match l,R,e with|[],[],_=>exact .tuple [] [] p av|[bn],[U],_=>exact I 0 U bn p p|bn::aJ::x,U::C::M,e=>exact .tuple _ _ o I
 let ax:Holds ⟨D,z,N,aa (·.1) g,d,0⟩ s az bE:=by let A:=al;exact⟨A.le,⟨A.B.os,A.B.tape,A.B.output,A.B.size,A.B.block⟩,A.m0,A.m4,A.m5,A.own,A.kD,A.ma,A.gy,A.lj,A.kS,A.inj⟩
 rcases he with rfl|rfl<;>exact⟨K.defers,_,aG,_,_,_,s,p,y,aE,ax⟩
def BS(b:X (Z×V)):X ik->da (X V)
|[]=>W []|.tmp S::x=>match gM b S with
 |W U=>match BS b x with|W c=>W (U::c)|ah=>ah
 |ah=>ah
|.cell _ _::_=>ah
def agW{c:X (Z×V)}{n:ce}{az:b0}:∀{jH:X ik}{b:X V},BS c jH=W b->yz ⟨dy n c,az⟩ jH (aa (V.ay n) b)|[],b,q=>by simp[BS] at q;subst q;rfl|.tmp S::x,b,q=>by unfold BS at q;split at q;split at q;rename_i e d;simp at q;subst q;exact⟨by grind[tc,mB],agW d⟩;trivial;trivial|.cell _ _::_,b,q=>cc
def RR{k:ce}{f:X ik}{d:V->b0->Prop}{F:c_}{M:aI}{j:X V}c(v:∀n,dg i k n->d (cU (aa (V.ay n) j)) (M.g++aX n c))(w:BS M.b f=W j:=by rfl)(u:tJ c M.au:=by repeat (first|exact trivial|refine And.intro rfl ?_))(a7:oE c:=by rfl)(he:F=.ret\/F=gA:=by exact uN):jl P m i k f d F M:=by refine⟨he,λn t y D N e=>?_⟩;obtain⟨x,l,r,s⟩:=yz.run e<|agW w;refine⟨x,_,M.g++aX n _,N,l,r,s,?_,v n t⟩;have:=bm.DT (M:=⟨[],M.au,M.g⟩) (ft:=⟨[],c,M.g⟩) ⟨c1,u,a7,p⟩<|bm.Ae e λS U q=>cc;exact this.dt
end
