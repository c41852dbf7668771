import Derived.Test.YtlciaabfegkegaaGreatDoorSh
set_option linter.all false
set_option maxHeartbeats 8000000
set_option maxRecDepth 100000
open Array renaming replicate->td,setIfInBounds->nG,size->a9,toList->a0
open BitVec renaming ofInt->Ed
open Bool renaming false->ae,true->ag
open ByteArray renaming size->gD
open Decidable renaming decide->aH
open Eq renaming symm->bQ,trans->b0
open Go renaming Act->fI,Calls->ln,Code->gw,Exit->cS,FuncId->fM,IntKind->dd,MapEntry->k0,Oper->a7,Operand->aP,Program->bn,ResultVar->hn,TypeDesc->iz,TypeId->aw,Value->bq,World->bI,builtin->o2,execOp->c5,invoke->oh,maxLen->ja,resolve->oi
open Go.Act renaming eval->b1
open Go.Builtin renaming append->oZ,append_->yq,firstCells->uq,lenOf->Cb,zeroCells->sk
open Go.Callee renaming builtin->gP,value->qr
open Go.Calls renaming mono->iK
open Go.Code renaming region->sl
open Go.Departure renaming mixedOrders->qs
open Go.Ending renaming returned->lo
open Go.Exit renaming normal->fY
open Go.Fn renaming func->c1
open Go.Instr renaming findNow->Ee,sureAddr->yr
open Go.IntKind renaming bits->l7,i64->aj,signed->GF,u64->ej,u8->ez,wrap->hf
open Go.Next renaming value->og
open Go.Obj renaming cells->pK
open Go.Op renaming binOp->lI,bytesLess->ut,call->ft,indexAddr->o0,operands->j0
open Go.Program renaming underlying->kD
open Go.Region renaming binds->vu,ready->tf
open Go.Result renaming ok->ct
open Go.Sem renaming run->ce
open Go.TypeDesc renaming array->pL,slice->c_,string->k1
open Go.Value renaming agg->h0,bool->hA,cells->dp,int->cN,oneCell'->gE,pointer->ib,slice->eY,string->jO,tuple->o1
open Go.World renaming cell?->ho
open Iff renaming rfl->nJ
open Int renaming toNat->aG
open List renaming Nodup->dT,Perm->g7,any->fB,contains->j1,drop->ay,eraseIdx->iB,flatten->iV,getD->y,length->U,lookup->cX,map->ab,range->bM,replicate->cM,set->aR,take->am,toArray->aO
open List.Perm renaming refl->gF
open Nat renaming beq->ef,ble->hB,blt->g8
open Option renaming none->ai,some->W
open Or renaming inl->bj,inr->bp,resolve_left->j2
open UInt8 renaming ofNat->gn,toNat->ax
open _root_ renaming Array->bU,Bool->X,ByteArray->kZ,False->hP,Int->L,List->Y,Nat->Z,Option->c6,UInt8->C,absurd->cg,rfl->aa,trivial->b5
open Go.Proofs Go.Proofs.Tryz
open Go.Proofs.Tryz renaming prog->eQ
namespace Go.fe
inductive fZ where|km (H:Y X)|ints (B:dd) (H:Y L)
 deriving Inhabited
inductive V where|undef|bool (Q:X)|int (B:dd) (R:L)|str (H:Y C)|ks|bo|xG|xE|xF|ref (J:Z) (j:Y V) (D n:Z)|al (J:Z) (j:Y V)|own (id aS D n:Z)|bH (id aS off len:Z)|jj (id aS:Z)|tJ (gb:Y (V×V×Z)) (clock:Z)|func (fn:Fn) (first azi:Y V)|iface (S:aw) (aE:V)|agg (cells:Y V)|vec (R:Z) (z:fZ) (tail:Y V)|tuple (H:Y V)|dC (S D n:Z)|a (S off len:Z)|eA (S:Z)|oG (S:Z)|lc (S D n:Z)
 deriving Inhabited
def fZ.cells:fZ->Y V|.km H=>ab .bool H|.ints B H=>ab (.int B) H
def V.cells:V->Y V|.agg H=>H|.vec _ z H=>z.cells++H|T=>[T]
def V.one:V->X|.agg _|.vec .. |.tuple _|.undef=>ae|_=>ag
structure Loc where
 bR:c6 Z
 base:Z
 aS:Z
 size:Z
 s:Z
structure bf where
 I:Z->Z->c6 bq
 J:Z->c6 (bU k0×Z)
 m:Z->c6 Loc
 n:Z
 fresh:∀id,n<=id->m id=ai
 one:∀Q M aE,I Q M=W aE->gE aE
structure bf.le(N En:bf):Prop where
 I:∀Q M aE,N.I Q M=W aE->En.I Q M=W aE
 J:∀Q T,N.J Q=W T->En.J Q=W T
 m:∀id H,N.m id=W H->∃dr,En.m id=W dr/\H.s=dr.s/\H.aS<=dr.aS/\(H.aS=dr.aS->H=dr)
theorem bf.le.refl(N:bf):N.le N:=⟨λ_ _ _ s=>s,λ_ _ s=>s,λ_ H s=>⟨H,s,aa,bv _,λ_=>aa⟩⟩
theorem bf.le.trans{b dq c:bf}(s:b.le dq)(B:dq.le c):b.le c:=⟨λQ M d T=>B.I Q M d<|s.I Q M d T,λQ T w=>B.J Q T<|s.J Q T w,λid H f=>by let⟨g,e,i,k,h⟩:=s.m id H f;cases B.m id g e;grind⟩
inductive bk(N:bf):V->bq->Prop
|undef (aE:bq):bk N .undef aE|bool (Q:X):bk N (.bool Q) (hA Q)|int (B:dd) (R:L):bk N (.int B R) (cN B R)|str (H:Y C):bk N (.str H) (jO ⟨aO H⟩)|ks:bk N .ks (ib ai)|bo:bk N .bo (eY ai 0 0)|xG:bk N .xG (.map ai)|xE:bk N .xE .nilFunc|xF:bk N .xF .nilIface|ref (J:Z) (j:Y V) (D n Q base:Z) (val:Z->Z->bq)
 (bA:∀(cs:Z)(I:V),j[cs]?=W I->U I.cells=J)
 (aof:∀(cs n:Z)(I T:V),j[cs]?=W I->I.cells[n]?=W T->N.I Q (base+cs*J+n)=W (val cs n))
 (fi:∀(cs n:Z)(I T:V),j[cs]?=W I->I.cells[n]?=W T->bk N T (val cs n)):
 bk N (.ref J j D n) (ib (W ⟨Q,base+D*J+n,ai⟩))|slnil (J:Z):bk N (.al J []) (eY ai 0 0)|zz (J:Z) (z:Addr):bk N (.al J []) (eY (W z) 0 0)|al (J:Z) (j:Y V) (Q base cap:Z) (val:Z->Z->bq) (azr:U j<=cap) (azu:cap<=ja)
 (bA:∀(cs:Z)(I:V),j[cs]?=W I->U I.cells=J)
 (aof:∀(cs n:Z)(I T:V),j[cs]?=W I->I.cells[n]?=W T->N.I Q (base+cs*J+n)=W (val cs n))
 (fi:∀(cs n:Z)(I T:V),j[cs]?=W I->I.cells[n]?=W T->bk N T (val cs n)):
 bk N (.al J j) (eY (W ⟨Q,base,ai⟩) (U j) cap)|own (id aS D n:Z) (H:Loc) (aE:bq) (hm:N.m id=W H) (xn:aS<=H.aS) (h1:gE aE)
 (s:aS=H.aS->∃Q,H.bR=W Q/\aE=ib (W ⟨Q,H.base+D*H.s+n,ai⟩)):bk N (.own id aS D n) aE|bH (id aS off len:Z) (H:Loc) (aE:bq) (hm:N.m id=W H) (xn:aS<=H.aS) (h1:gE aE)
 (s:aS=H.aS->H.bR=ai/\len=0/\aE=eY ai 0 0\/∃Q M cap,H.bR=W Q/\aE=eY (W ⟨Q,M,ai⟩) len cap/\len<=cap/\cap<=ja/\(cap=0\/M=H.base+off*H.s/\H.base+(off+cap)*H.s<=H.size)):
 bk N (.bH id aS off len) aE|jj (id aS:Z) (H:Loc) (aE:bq) (hm:N.m id=W H) (xn:aS<=H.aS) (h1:gE aE)
 (s:aS=H.aS->∃Q,H.bR=W Q/\aE=.map (W Q)):bk N (.jj id aS) aE|tJ (gb:Y (V×V×Z)) (clock Q:Z) (es:bU k0) (azn:N.J Q=W (es,clock)) (bl:U gb=a9 es)
 (hk:∀(D:Z)(T:V×V×Z)(F:k0),gb[D]?=W T->es[D]?=W F->bk N T.1 F.key)
 (xn:∀(D:Z)(T:V×V×Z)(F:k0),gb[D]?=W T->es[D]?=W F->bk N T.2.1 F.val)
 (aM:∀(D:Z)(T:V×V×Z)(F:k0),gb[D]?=W T->es[D]?=W F->T.2.2=F.born)
 (bA:∀F∈a0 es,F.born<clock) (bu:dT (ab (·.born) (a0 es))):bk N (.tJ gb clock) (.map (W Q))|func (fn:Fn) (xs aC:Y V) (sa b8:Y bq) (bl:U xs=U sa) (aow:U aC=U b8)
 (s:∀(D:Z)(T:V)(aE:bq),xs[D]?=W T->sa[D]?=W aE->bk N T aE)
 (hG:∀(D:Z)(T:V)(aE:bq),aC[D]?=W T->b8[D]?=W aE->bk N T aE):bk N (.func fn xs aC) (.func fn (aO sa) (aO b8))|iface (S:aw) (T:V) (aE:bq) (s:bk N T aE):bk N (.iface S T) (.iface S aE)|agg (xs:Y V) (b8:Y bq) (bl:U xs=U b8) (h1:∀aE∈b8,gE aE)
 (s:∀(D:Z)(T:V)(aE:bq),xs[D]?=W T->b8[D]?=W aE->bk N T aE):bk N (.agg xs) (h0 (aO b8))|vec (R:Z) (z:fZ) (xs:Y V) (b8:Y bq) (bu:U z.cells=R) (bl:U (z.cells++xs)=U b8) (h1:∀aE∈b8,gE aE)
 (s:∀(D:Z)(T:V)(aE:bq),(z.cells++xs)[D]?=W T->b8[D]?=W aE->bk N T aE):bk N (.vec R z xs) (h0 (aO b8))|tuple (xs:Y V) (b8:Y bq) (bl:U xs=U b8)
 (s:∀(D:Z)(T:V)(aE:bq),xs[D]?=W T->b8[D]?=W aE->bk N T aE):bk N (.tuple xs) (o1 (aO b8))
def bk.mono{N y:bf}(k:N.le y){T:V}{d:bq}(s:bk N T d):bk y T d:=by
 induction s
 next d=>exact .undef d
 next Q=>exact .bool Q
 next B x=>exact .int B x
 next H=>exact .str H
 exact .ks;exact .bo;exact .xG;exact .xE;exact .xF
 next J j v f Q base val l u _ c=>exact .ref J j v f Q _ val l (λw f I T b t=>k.I _ _ _<|u w f I T b t) c
 next J=>exact .slnil J
 next J z=>exact .zz J z
 next J j Q base cap val E G l u _ c=>exact .al J j Q _ cap val E G l (λw f I T b t=>k.I _ _ _<|u w f I T b t) c
 next id r v f H d hm n b s=>let⟨p,g,_,o,he⟩:=k.m id H hm;refine .own id r v f p d g (c9 n o) b λF=>?_;grind
 next id r O len H d hm n b s=>let⟨p,g,_,o,he⟩:=k.m id H hm;refine .bH id r O len p d g (c9 n o) b λF=>?_;grind
 next id r H d hm n b s=>let⟨p,g,_,o,he⟩:=k.m id H hm;refine .jj id r p d g (c9 n o) b λF=>?_;grind
 next U clock Q A C e _ _ D l bu L M=>exact .tJ _ _ Q A (k.J _ _ C) e L M D l bu
 next fn i R P h e g _ _ c K=>exact .func fn i R P h e g c K
 next S T d _ c=>exact .iface S T d c
 next i h e b _ c=>exact .agg i h e b c
 next x z i h bu e b _ c=>exact .vec x z i h bu e b c
 next i h e _ c=>exact .tuple i h e c
def bk.ar1{N:bf}{T:V}{b:bq}(s:bk N T b)(c:T.one):gE b:=by cases s<;>first|rfl|trivial|trivial
inductive cB where|j (aS J:Z) (F:aw) (hE:Y V)|map (aS:Z) (gb:Y (V×V×Z)) (clock:Z)|iter (gb:Y (V×V×Z)) (clock:Z) (seen:Y Z)|jl (J:Z)
structure mF(N:bf)(gb:Y (V×V×Z))(es:bU k0):Prop where
 len:U gb=a9 es
 key:∀(D:Z)(T:V×V×Z)(F:k0),gb[D]?=W T->es[D]?=W F->bk N T.1 F.key
 val:∀(D:Z)(T:V×V×Z)(F:k0),gb[D]?=W T->es[D]?=W F->bk N T.2.1 F.val
 born:∀(D:Z)(T:V×V×Z)(F:k0),gb[D]?=W T->es[D]?=W F->T.2.2=F.born
def mF.mono{N e:bf}(h:N.le e){f:Y (V×V×Z)}{g:bU k0}(s:mF N f g):mF e f g:=⟨s.len,λd T F b c=>(s.key d T F b c).mono h,λd T F b c=>(s.val d T F b c).mono h,s.born⟩
def kl(E:bI)(Q:Z)(b:bU bq)(F:aw):Prop:=∃ar:Z×Z,E.heap[Q]?=W (pK b F ar)/\(ar.2<=ar.1\/a9 b<=ar.1)
theorem kl.of{E:bI}{Q:Z}{b:bU bq}{F:aw}(s:E.heap[Q]?=W (pK b F (0,0))):kl E Q b F:=⟨_,s,bj<|bv _⟩
def kl.jN{E bO:bI}{Q:Z}{b:bU bq}{F:aw}(s:kl E Q b F)(c:bO.heap[Q]?=E.heap[Q]?):kl bO Q b F:=by obtain⟨ar,s,d⟩:=s;exists ar,b0 c s
def kl.lt{E:bI}{Q:Z}{b:bU bq}{F:aw}(s:kl E Q b F):Q<a9 E.heap:=by obtain⟨ar,s,c⟩:=s;exact(vp.1 s).1
def kl.cell{E:bI}{Q:Z}{b:bU bq}{F:aw}(s:kl E Q b F)M:ho E ⟨Q,M,ai⟩=b[M]?:=by obtain⟨ar,s,_⟩:=s;simp[ho,s]
def k3(N:bf)(E:bI)(H:Loc):cB->Prop|.j h J F f=>H.aS=h/\H.s=J/\(H.bR=ai/\f=[]\/∃Q e,H.bR=W Q/\kl E Q e F/\a9 e=H.size/\H.base+U f*H.s<=H.size/\(∀(c:Z)(d:bq),e[c]?=W d->gE d)/\(∀(c:Z)(I:V),f[c]?=W I->U I.cells=H.s)/\∀(c i:Z)(I T:V),f[c]?=W I->I.cells[i]?=W T->∃d,e[H.base+c*H.s+i]?=W d/\bk N T d)|.map h g clock=>H.aS=h/\∃Q b,H.bR=W Q/\E.heap[Q]?=W (.map b clock)/\mF N g b/\(∀F∈a0 b,F.born<clock)/\dT (ab (·.born)<|a0 b)|.iter g clock seen=>(H.aS=0/\H.base=0)/\∃Q A b,H.bR=W Q/\E.heap[Q]?=W (.mapIter (W A) clock (aO seen) clock)/\N.J A=W (b,clock)/\mF N g b/\(∀F∈a0 b,F.born<clock)/\dT (ab (·.born)<|a0 b)|.jl J=>H.aS=0/\H.s=J/\H.bR=ai
structure bJ where
 s7:bI
 FM:Z->Prop
 wT:bf
 ids:Y Z
 G:Y (Z×V)
 n:Z
structure ma(p:bJ)(E:bI):Prop where
 os:E.os=p.s7.os
 tape:E.tape=p.s7.tape
 output:E.output=p.s7.output
 size:a9 p.s7.heap<=a9 E.heap
 block:∀B<a9 p.s7.heap,¬p.FM B->E.heap[B]?=p.s7.heap[B]?
abbrev bV:=Y<|Z×cB
structure Holds(p:bJ)(N:bf)(d:bV)(E:bI):Prop where
 le:p.wT.le N
 t:ma p E
 nl:∀id H,p.wT.m id=W H->id∉p.ids->N.m id=W H
 nr:∀Q M aE,N.I Q M=W aE->p.wT.I Q M=W aE\/a9 p.s7.heap<=Q\/p.FM Q
 ns:∀Q T,N.J Q=W T->p.wT.J Q=W T\/a9 p.s7.heap<=Q\/p.FM Q
 own:∀id M,(id,M)∈d->id∈p.ids\/p.wT.m id=ai
 jT:∀Q M aE,N.I Q M=W aE->ho E ⟨Q,M,ai⟩=W aE
 lT:∀Q es clock,N.J Q=W (es,clock)->E.heap[Q]?=W (.map es clock)
 gd:∀id M,(id,M)∈d->∃H,N.m id=W H/\k3 N E H M
 kt:dT (ab (·.1) d)
 ld:∀id M H Q,(id,M)∈d->N.m id=W H->H.bR=W Q->(a9 p.s7.heap<=Q\/p.FM Q)/\(∀B,N.I Q B=ai)/\N.J Q=ai
 inj:∀id M Ry lf H dr Q,(id,M)∈d->(Ry,lf)∈d->N.m id=W H->N.m Ry=W dr->H.bR=W Q->dr.bR=W Q->id=Ry
def aib(N:bf)(c:Y (Z×V))(z:fI):Prop:=∀S T,cX S c=W T->∃b,z.tmps[S]?=W b/\bk N T b
structure bc where
 c:Y (Z×V)
 d:bV
def bc.put(O:bc)(S:c6 Z)(T:V):bc:=match S with|W S=>{O with c:=(S,T)::O.c}|ai=>O
structure a_(p:bJ)(O:bc)(z:fI)(E:bI)(N:bf):Prop where
 cO:Holds p N O.d E
 c:aib N O.c z
 gR:∀u T,(u,T)∈p.G->bk N T (ib (W ⟨u,0,ai⟩))
 size:a9 z.tmps=p.n
 defers:z.defers=[]
def Kx(p:bJ)(ak:cS->bc->Prop):cS->fI->bI->Prop:=λF z E=>∃O N,ak F O/\a_ p O z E N
def e3(P:bn)(p:bJ)(b:gw)(O:bc)(ak:cS->bc->Prop):Prop:=∀z E N,a_ p O z E N->b.wp P (Kx p ak) z E
def pf(b:Z)(H:Y a7):X:=H.all λM=>match M.dst with|W I=>I<b|ai=>ag
def cD(P:bn)(p:bJ)(ops:bU a7)(H:Y a7)(O:bc)(ak:cS->bc->Prop):Prop:=pf p.n H=ag->∀z E N,a_ p O z E N->wpList P ops (Kx p ak) H z E
def V.leaf:bq->V|hA Q=>.bool Q|cN B b=>.int B b|jO J=>.str (a0 J.data)|ib ai=>.ks|eY ai 0 0=>.bo|.map ai=>.xG|.nilFunc=>.xE|.nilIface=>.xF|_=>.undef
def V.const:bq->V|h0 c=>if(a0 c).all (λb=>gE b) then .agg (ab V.leaf<|a0 c) else .undef|o1 d=>if(a0 d).isEmpty then .tuple [] else .undef|b=>V.leaf b
theorem bk.leaf N b:bk N (V.leaf b) b:=by
 unfold V.leaf;split<;>first|exact .bool _|exact .int _ _|exact .ks|exact .bo|exact .xG|exact .xE|exact .xF|exact .undef _|skip
 rename_i J;have:=bk.str (N:=N)<|a0 J.data;omega
theorem bk.const N b:bk N (V.const b) b:=by
 unfold V.const;split;rename_i c;split;rename_i s;have:=bk.agg (N:=N) (ab V.leaf<|a0 c) _ ao (kY.1 s · ·) (by grind[bk.leaf]);omega;exact .undef _;split;rename_i s;have d:=by simpa using s
 subst d;exact bk.tuple [] [] aa ao;exact .undef _;simp[bk.leaf]
def bc.val(p:bJ)(O:bc):aP->c6 V|.tmp S=>cX S O.c|.const b=>W (V.const b)|.global u=>cX u p.G|.func ar=>W<|.func (c1 ar) [] []
def Sz{b:Type}{H:Y (Z×b)}{S:Z}{T:b}(s:cX S H=W T):(S,T)∈H:=by
 induction H
 trivial
 next d H c=>grind
theorem a_.val{p:bJ}{O:bc}{z:fI}{E:bI}{N:bf}(s:a_ p O z E N){M:aP}{T:V}(b:O.val p M=W T):bk N T (b1 z M):=by
 cases M
 next S=>let⟨d,f,e⟩:=s.c S T b;simp_all[b1]
 next d=>simp[bc.val,g6] at b;subst b;exact bk.const N d
 next u=>exact s.gR u T (Sz b)
 next ar=>simp[bc.val,g6] at b;subst b;exact bk.func _ [] [] [] [] aa aa ao ao
def bc.guard(O:bc)(ops:bU a7)(M:a7):c6 X:=match M.guard with
|ai=>W ag|W (b,d)=>
 match(ops[b]?).bind (·.dst) with
 |W I=>match cX I O.c with|W (.bool Q)=>W (Q==d)|W (.tuple [])=>W ae|_=>ai
 |ai=>ai
def a_.wanted{p:bJ}{O:bc}{z:fI}{E:bI}{N:bf}(s:a_ p O z E N){ops:bU a7}{M:a7}{Q:X}(b:O.guard ops M=W Q):Region.wanted M (yielded ops z.tmps)=Q:=by
 unfold bc.guard at b;unfold Region.wanted;split at b;simp_all;split at b;rename_i I i;split at b;rename_i h d;let⟨g,f,e⟩:=s.c I _ d;cases e;simp_all[yielded];rename_i d;let⟨g,f,e⟩:=s.c I _ d;cases e
 next _ l k _=>grind[yielded]
 trivial;trivial
def MA(O:bc)S T b:(O.put (W S) T).c.lookup b=if b=S then W T else cX b O.c:=by grind[bc.put]
theorem a_.put{p:bJ}{O:bc}{z:fI}{E bO:bI}{N f:bf}(s:a_ p O z E N)(g:N.le f){M:bV}(k:Holds p f M bO){I:c6 Z}{T:V}{e:bq}(o:bk f T e)(m:∀S,I=W S->S<p.n):a_ p (({O with d:=M}).put I T) (z.put I e) bO f:=by
 cases I;exact⟨k,λS w b=>by let⟨e,i,h⟩:=s.c S w b;exact⟨e,i,h.mono g⟩,λu w b=>(s.gR u w b).mono g,s.size,s.defers⟩
 next S=>refine⟨k,λl w b=>?_,λu w b=>(s.gR u w b).mono g,by simpa[Act.put] using s.size,by simpa[Act.put] using s.defers⟩;rw[MA] at b;simp[Act.put];split at b;rename_i he;subst he;simp at b;subst b;refine⟨e,?_,o⟩;simp[s.size,m l aa];let⟨cc,i,h⟩:=s.c l w b;refine⟨cc,?_,h.mono g⟩;grind
def di(P:bn)(p:bJ)(M:a7)(O:bc)(A:V):Prop:=∀z E N,a_ p O z E N->∀(c:fI->bI->Prop)(f:cS->fI->bI->Prop),(∀e bO b,N.le b->bk b A e->Holds p b O.d bO->c (z.put M.dst e) bO)->M.wp P z E c f
def EO{b:Z}{M:a7}{H:Y a7}(s:pf b (M::H)):(∀S,M.dst=W S->S<b)/\pf b H:=by simp[pf,JV] at s⊢;grind
theorem cD.nil{P:bn}{p:bJ}{ops:bU a7}{O:bc}{ak:cS->bc->Prop}(s:ak fY O):cD P p ops [] O ak:=λ_ _ _ N b=>⟨O,N,s,b⟩
def cD.pure{P:bn}{p:bJ}{ops:bU a7}{M:a7}{H:Y a7}{O:bc}{ak:cS->bc->Prop}{A:V}(h:O.guard ops M=W ag)(k:di P p M O A)(s:cD P p ops H (O.put M.dst A) ak):cD P p ops (M::H) O ak:=by intro e z E N b;let⟨f,g⟩:=EO e;unfold wpList;rw[af<|b.wanted h];refine bj<|k z E N b _ _ λm bO c d l i=>?_;exact s g _ _ c<|b.put d i l f
def cD.skip{P:bn}{p:bJ}{ops:bU a7}{M:a7}{H:Y a7}{O:bc}{ak:cS->bc->Prop}(f:O.guard ops M=W ae)(s:cD P p ops H (O.put M.dst (.tuple [])) ak):cD P p ops (M::H) O ak:=by intro c z E N b;let⟨d,e⟩:=EO c;unfold wpList;rw[ad (by rw[b.wanted f];simp)];exact s e _ _ N<|b.put (bf.le.refl N) b.cO (bk.tuple [] [] aa ao) d
section
variable{P:bn}{p:bJ}{O:bc}{ak:cS->bc->Prop}
theorem e3.region{d:Z}{H:Y a7}(c:pf p.n H)(s:cD P p (aO H) H O ak):e3 P p (sl d (aO H) ae) O ak:=λz E N b=>wp_region_lit<|s c z E N b
@[reducible] def axS(next:bc->Prop)(ak:cS->bc->Prop):cS->bc->Prop|fY,O=>next O|F,O=>ak F O
def e3.seq{T w:gw}(s:e3 P p T O (axS (e3 P p w · ak) ak)):e3 P p (.seq T w) O ak:=by intro z E N e;refine wp_seq<|Code.wp_mono ?_<|s z E N e;rintro F d bO ⟨g1,b,c,f⟩;cases F with|normal=>exact c d bO b f|_=>exists g1,b,c
theorem e3.skip(s:ak fY O):e3 P p .skip O ak:=λ_ _ N b=>wp_skip ⟨O,N,s,b⟩
theorem e3.ret(s:ak .ret O):e3 P p .ret O ak:=λ_ _ N b=>wp_ret ⟨O,N,s,b⟩
theorem e3.exit{b:Z}(s:ak (.exit b) O):e3 P p (.exit b) O ak:=λ_ _ N c=>wp_exit ⟨O,N,s,c⟩
def e3.label{c:Z}(s:ak fY O):e3 P p (.label c) O ak:=λ_ _ N b=>wp_label ⟨O,N,s,b⟩
def e3.cond{b:aP}{T w:gw}{Q:X}(e:O.val p b=W (.bool Q))(bW:Q->e3 P p T O ak)(f:Q=ae->e3 P p w O ak):e3 P p (.cond b T w) O ak:=by
 intro z E N c;have d:=c.val e;have he:b1 z b=hA Q:=by generalize b1 z b=g at d;cases d;rfl
 cases Q with|true=>exact wp_cond_true he (bW aa z E N c)|false=>exact wp_cond_false he<|f aa z E N c
@[reducible] def Qf(c:Z)(ak:cS->bc->Prop):cS->bc->Prop|.exit b,O=>if b=c then ak fY O else ak (.exit b) O|F,O=>ak F O
theorem e3.block{e:Z}{d:gw}(s:e3 P p d O (Qf e ak)):e3 P p (.block e d) O ak:=by intro z E N f;refine wp_block<|Code.wp_mono ?_<|s z E N f;rintro F g bO ⟨g1,c,b,h⟩;cases F with|exit i=>simp[Qf] at b;simp[Exit.inBlock];split;rename_i he;rw[af he] at b;exists g1,c,b;rename_i he;rw[ad he] at b;exists g1,c,b|_=>exists g1,c,b
end
structure cu(P:bn)(S:aw)(I:iz)(size bytes:Z):Prop where
 u:kD P S=W I
 i:(P.info? S).map (λi=>(i.size,i.bytes))=W (size,bytes)
def cu.Fa{P:bn}{S:aw}{I:iz}{d c:Z}(s:cu P S I d c):∃b,P.info? S=W b/\b.size=d/\b.bytes=c:=by have:=s.i;simp_all
def cu.kw{P:bn}{S:aw}{I:iz}{b c:Z}(s:cu P S I b c)E:ce P (sizeOf S) E=ct b E:=by cases s.Fa;simp_all[sizeOf,typeInfo]
structure gx(P:bn)(S:aw)(size bytes:Z):Prop where
 i:(P.info? S).map (λi=>(i.size,i.bytes))=W (size,bytes)
def gx.Fa{P:bn}{S:aw}{d c:Z}(s:gx P S d c):∃b,P.info? S=W b/\b.size=d/\b.bytes=c:=by have:=s.i;simp_all
def gx.kw{P:bn}{S:aw}{b c:Z}(s:gx P S b c)E:ce P (sizeOf S) E=ct b E:=by cases s.Fa;simp_all[sizeOf,typeInfo]
def cu.au{P:bn}{S:aw}{I:iz}{c b:Z}(s:cu P S I c b):gx P S c b:=⟨s.i⟩
def nY:iz->X|.struct _|pL _ _=>ag|_=>ae
def cu.vb{P:bn}{S:aw}{I:iz}{size bytes:Z}(s:cu P S I size bytes)E:ce P (isAgg S) E=ct (nY I) E:=by unfold isAgg;rw[Sem.run_bind,run_underlying s.u,Result.andThen_ok];cases I<;>rfl
section
variable{P:bn}{p:bJ}{M:a7}{O:bc}
def di.same{A:V}(s:∀z E N,a_ p O z E N->∃b,bk N A b/\ce P (c5 (b1 z) M) E=ct (og b) E):di P p M O A:=by intro z E N c g h d;let⟨b,f,e⟩:=s z E N c;unfold Oper.wp;rw[e];exact d b E N (bf.le.refl N) f c.cO
def di.run{A:V}(s:∀z E N,a_ p O z E N->∃c bO b,N.le b/\bk b A c/\Holds p b O.d bO/\ce P (c5 (b1 z) M) E=ct (og c) bO):di P p M O A:=by intro z E N g l m f;let⟨c,bO,b,e,k,h,i⟩:=s z E N g;unfold Oper.wp;rw[i];exact f c bO b e k h
theorem adV{T:aP}{A:V}(c:M.op=.move T)(d:O.val p T=W A):di P p M O A:=.same λz E N b=>⟨_,b.val d,by simp[c5,c]⟩
theorem at6{T:aP}{A:V}(c:M.op=.assign T)(d:O.val p T=W A):di P p M O A:=.same λz E N b=>⟨_,b.val d,by simp[c5,c]⟩
def TM{b T w:aP}{S:X}{A:V}(f:M.op=.pick b T w)(e:O.val p b=W (.bool S))(h:O.val p (if S then T else w)=W A):di P p M O A:=.same λz E N d=>by have c:=d.val e;generalize g:b1 z b=i at c;cases c;exists _,d.val h;cases S<;>simp[c5,f,g,asBool]
def cU(P:bn)(d:BinOp)(S:aw)(T w:aP)(e f A:V):Prop:=∀N c b E,bk N e c->bk N f b->∃cc,bk N A cc/\ce P (do eqGuard d S T w c b;binOp d S c b:Sem bq) E=ct cc E
def zq{e:BinOp}{S l:aw}{T w:aP}{b c A:V}(f:M.op=lI e S T w l)(i:O.val p T=W b)(k:O.val p w=W c)(s:cU P e S T w b c A):di P p M O A:=.same λz E N d=>by let⟨cc,h,g⟩:=s N _ _ E (d.val i)<|d.val k;exists cc,h;simp only[c5,f];rw[Sem.run_bind,g];rfl
section bin
variable{S:aw}{T w:aP}{B:dd}{z Q:L}
def oD(B:dd)(b:L):Prop:=B.min<=b/\b<=B.max
theorem wG{B:dd}{b:L}(s:oD B b):hf B b=b:=by cases s;cases B<;>simp only[IntKind.min,IntKind.max,GF,l7,hf] at*<;>simp at*<;>(omega)<;>omega
def cU.rR{b:BinOp}{A:V}(s:∀N E,∃cc,bk N A cc/\ce P (binOp b S (cN B z) (cN B Q)) E=ct cc E):cU P b S T w (.int B z) (.int B Q) A:=by intro N f e E c d;cases c;cases d;simp_all[eqGuard_at_int]
def cU.lss:cU P .lss S T w (.int B z) (.int B Q) (.bool (aH (z<Q))):=.rR λN E=>⟨_,.bool _,by simp[binOp_lss]⟩
def cU.leq:cU P .leq S T w (.int B z) (.int B Q) (.bool (aH (z<=Q))):=.rR λN E=>⟨_,.bool _,by simp[binOp_leq]⟩
def cU.gtr:cU P .gtr S T w (.int B z) (.int B Q) (.bool (aH (Q<z))):=.rR λN E=>⟨_,.bool _,by simp[binOp_gtr]⟩
def cU.geq:cU P .geq S T w (.int B z) (.int B Q) (.bool (aH (Q<=z))):=.rR λN E=>⟨_,.bool _,by simp[binOp_geq]⟩
def cU.eql:cU P .eql S T w (.int B z) (.int B Q) (.bool (aH (z=Q))):=.rR λN E=>⟨_,.bool _,by rw[binOp_eql];rfl⟩
def cU.neq:cU P .neq S T w (.int B z) (.int B Q) (.bool (aH ¬z=Q)):=.rR λN E=>⟨_,.bool _,by rw[binOp_neq];simp;grind⟩
theorem cU.add(s:oD B (z+Q)):cU P .add S T w (.int B z) (.int B Q) (.int B (z+Q)):=.rR λN E=>⟨_,.int _ _,by simp[binOp_add,Op.intArith,wG s]⟩
theorem cU.sub(s:oD B (z-Q)):cU P .sub S T w (.int B z) (.int B Q) (.int B (z-Q)):=.rR λN E=>⟨_,.int _ _,by simp[binOp_sub,Op.intArith,wG s]⟩
theorem cU.mul(s:oD B (z*Q)):cU P .mul S T w (.int B z) (.int B Q) (.int B (z*Q)):=.rR λN E=>⟨_,.int _ _,by simp[binOp_mul,Op.intArith,wG s]⟩
def cU.aiJ:cU P .add S T w (.int B z) (.int B Q) (.int B (hf B (z+Q))):=.rR λN E=>⟨_,.int _ _,by simp[binOp_add,Op.intArith]⟩
def cU.DL:cU P .sub S T w (.int B z) (.int B Q) (.int B (hf B (z-Q))):=.rR λN E=>⟨_,.int _ _,by simp[binOp_sub,Op.intArith]⟩
def cU.aqR:cU P .mul S T w (.int B z) (.int B Q) (.int B (hf B (z*Q))):=.rR λN E=>⟨_,.int _ _,by simp[binOp_mul,Op.intArith]⟩
def cU.quo(b:Q≠0)(s:oD B (z.tdiv Q)):cU P .quo S T w (.int B z) (.int B Q) (.int B (z.tdiv Q)):=.rR λN E=>⟨_,.int _ _,by simp_all[binOp_quo,Op.intDiv,wG]⟩
def cU.rem(b:Q≠0):cU P .rem S T w (.int B z) (.int B Q) (.int B (z.tmod Q)):=.rR λN E=>⟨_,.int _ _,by simp[binOp_rem,Op.intDiv,b]⟩
def KU(c:BinOp)(b:Z)(z Q:BitVec b):BitVec b:=match c with
|.and=>z&&&Q|.or=>z|||Q
|.xor=>z^^^Q|_=>z&&&~~~Q
def Z8:BinOp->X|.and|.or|.xor|.andNot=>ag|_=>ae
def je(b:BinOp)(B:dd)(z Q:L):L:=hf B (KU b (l7 B) (Ed (l7 B) z)<|Ed (l7 B) Q).toNat
def cU.bits{b:BinOp}(s:Z8 b):cU P b S T w (.int B z) (.int B Q) (.int B (je b B z Q)):=.rR λN E=>⟨_,.int _ _,by cases b<;>simp[Z8] at s<;>simp[binOp_and,binOp_or,binOp_xor,binOp_andNot,Op.intBits,je,KU]⟩
def cU.shl{d:dd}(s:0<=Q):cU P .shl S T w (.int B z) (.int d Q) (.int B (hf B (z*2^min (aG Q) (l7 B)))):=by intro N f e E b c;cases b;cases c;exact⟨_,.int _ _,by(simp[eqGuard_at_int,binOp_shl,Op.shift];omega)⟩
def cU.shr{d:dd}(s:0<=Q):cU P .shr S T w (.int B z) (.int d Q) (.int B (z.fdiv (2^min (aG Q) (l7 B)))):=by intro N f e E b c;cases b;cases c;exact⟨_,.int _ _,by(simp[eqGuard_at_int,binOp_shr,Op.shift];omega)⟩
def ajB(H m:Y C):(⟨aO H⟩:kZ)++⟨aO m⟩=⟨aO (H++m)⟩:=by rfl
def P7(H:Y C):gD (⟨aO H⟩:kZ)=U H:=ba
def cU.mkStr{c:BinOp}{J cc:Y C}{A:V}(s:∀N E,∃b,bk N A b/\ce P (binOp c S (jO ⟨aO J⟩) (jO ⟨aO cc⟩)) E=ct b E):cU P c S T w (.str J) (.str cc) A:=by intro N b f E d e;cases d;cases e;simp_all[eqGuard_at_string]
variable{J cc:Y C}
def CA b:binOp b S (jO ⟨aO J⟩) (jO ⟨aO cc⟩)=Op.stringOp b ⟨aO J⟩ ⟨aO cc⟩:=by cases b<;>rfl
def cU.av6:cU P .eql S T w (.str J) (.str cc) (.bool (aH (J=cc))):=.mkStr λN E=>⟨_,.bool _,by rw[CA];simp[Op.stringOp];grind⟩
def cU.awJ:cU P .neq S T w (.str J) (.str cc) (.bool (aH ¬J=cc)):=.mkStr λN E=>⟨_,.bool _,by rw[CA];simp[Op.stringOp];grind⟩
def cU.awH:cU P .lss S T w (.str J) (.str cc) (.bool (ut J cc)):=.mkStr λN E=>⟨_,.bool _,by simp[CA,Op.stringOp]⟩
def cU.awr:cU P .gtr S T w (.str J) (.str cc) (.bool !(ut J cc||aH (J=cc))):=.mkStr λN E=>⟨_,.bool _,by rw[CA];simp[Op.stringOp];grind⟩
def cU.awo:cU P .geq S T w (.str J) (.str cc) (.bool ! ut J cc):=.mkStr λN E=>⟨_,.bool _,by simp[CA,Op.stringOp]⟩
def cU.awE:cU P .leq S T w (.str J) (.str cc) (.bool (ut J cc||aH (J=cc))):=.mkStr λN E=>⟨_,.bool _,by rw[CA];simp[Op.stringOp];grind⟩
theorem cU.avX(s:U J+U cc<=9223372036854775807):cU P .add S T w (.str J) (.str cc) (.str (J++cc)):=.mkStr λN E=>⟨_,.str _,by rw[CA];simp[Op.stringOp,P7,ajB,l7];omega⟩
end bin
def aul{S:aw}{T:aP}{Q:X}(e:M.op=.unOp .not S T)(d:O.val p T=W (.bool Q)):di P p M O (.bool !Q):=.same λz E N c=>by have b:=c.val d;generalize f:b1 z T=g at b;cases b;exact⟨_,.bool _,by simp_all[c5,Op.unary]⟩
def auj{S:aw}{T:aP}{B:dd}{b:L}(f:M.op=.unOp .neg S T)(e:O.val p T=W (.int B b))(s:oD B (0-b)):di P p M O (.int B (-b)):=.same λz E N d=>by have c:=d.val e;generalize g:b1 z T=h at c;cases c;exists _,.int _ _;simp_all[wG,c5,Op.unary,Op.intArith]
def adW{S:aw}{T:aP}{B:dd}{c:L}(f:M.op=.unOp .neg S T)(e:O.val p T=W (.int B c)):di P p M O (.int B (hf B (-c))):=.same λz E N d=>by have b:=d.val e;generalize g:b1 z T=h at b;cases b;exact⟨_,.int _ _,by simp_all[c5,Op.unary,Op.intArith]⟩
def auk{T:aP}{J d c:Z}{e:Y V}(h:M.op=.nilCheck T)(g:O.val p T=W (.ref J e d c)):di P p M O (.ref J e d c):=.same λz E N f=>by have b:=f.val g;exists _,b;generalize i:b1 z T=k at b;cases b;simp_all[c5]
def auc{T:aP}{H:Y V}{b:Z}{A:V}(k:M.op=.extract T b)(i:O.val p T=W (.tuple H))(d:H[b]?=W A):di P p M O A:=.same λz E N f=>by
 have c:=f.val i;generalize l:b1 z T=m at c;cases c with
 |tuple _ e g s=>
  have h:b<U e:=by rw[<-g];exact(eX.1 d).1
  exists e[b],s b _ _ d<|cT h;simp_all[c5,Instr.extract,cT]
def V.Sa:V->c6 Z|.bo=>W 0|.al _ j=>W (U j)|_=>ai
def bk.awG{N:bf}{T:V}{c:bq}{b:Z}(s:bk N T c)(e:T.Sa=W b):∃z d,c=eY z b d:=by cases s<;>simp[V.Sa] at e<;>((simp;omega))
def TK{S F:aw}{au ck c:Z}{T:aP}{b:V}(bW:cu P S (c_ F) au ck)(f:M.op=ft {callee:=gP .len,args:=#[T],argTypes:=#[S]})(h:O.val p T=W b)(e:b.Sa=W c):di P p M O (.int aj c):=.same λz E N d=>by let⟨Q,i,g⟩:=(d.val h).awG e;exists _,.int _ _;simp[c5,f,g,oi,oh,o2,Builtin.len_,run_underlying bW.u,goInt]
def a_.bH{z:fI}{E:bI}{N:bf}(s:a_ p O z E N){T:aP}{id aS c b B J:Z}{F:aw}{hE:Y V}(i:O.val p T=W (.bH id aS c b))(g:O.d[B]?=W (id,.j aS J F hE)):∃H,N.m id=W H/\k3 N E H (.j aS J F hE)/\(H.bR=ai/\b=0/\b1 z T=eY ai 0 0\/∃Q M cap,H.bR=W Q/\b1 z T=eY (W ⟨Q,M,ai⟩) b cap/\b<=cap/\cap<=ja/\(cap=0\/M=H.base+c*H.s/\H.base+(c+cap)*H.s<=H.size)):=by let⟨H,h,f⟩:=s.cO.gd _ _<|dY g;exists H,h,f;let e:=s.val i;cases e with|bH _ _ _ _ k n hm l e s=>obtain rfl:H=k:=aq;exact s<|bQ f.1
def TJ{S F g:aw}{au ck:Z}{T:aP}{c f n e B J:Z}{h:Y V}(bW:cu P S (c_ F) au ck)(l:M.op=ft {callee:=gP .len,args:=#[T],argTypes:=#[S]})(m:O.val p T=W (.bH c f n e))(k:O.d[B]?=W (c,.j f J g h)):di P p M O (.int aj e):=.same λz E N i=>by
 let⟨H,o,r,s⟩:=i.bH m k;rcases s with⟨_,rfl,b⟩|⟨Q,t,cap,_,b,_⟩<;>
  exact⟨_,.int _ _,by simp[c5,l,oi,oh,o2,Builtin.len_,run_underlying bW.u,goInt,b]⟩
def aue{S:aw}{au ck:Z}{T:aP}{H:Y C}(bW:cu P S k1 au ck)(d:M.op=ft {callee:=gP .len,args:=#[T],argTypes:=#[S]})(f:O.val p T=W (.str H)):di P p M O (.int aj (U H)):=.same λz E N c=>by have b:=c.val f;generalize e:b1 z T=g at b;cases b;exists _,.int _ _;simp[c5,d,e,oi,oh,o2,Builtin.len_,run_underlying bW.u,goInt,P7]
def adS{S F:aw}{au ck dP:Z}{T d:aP}{c:Y V}{J b:Z}{B:dd}{h:L}(bW:cu P S (c_ F) au ck)(he:gx P F J dP)(m:M.op=o0 S T d)(t:O.val p T=W (.al J c))(l:O.val p d=W (.int B h))(bu:h=(b:L))(k:b<U c):di P p M O (.ref J c b 0):=.same λz E N g=>by have e:=g.val t;have f:=g.val l;generalize s:b1 z T=x at e;generalize r:b1 z d=cc at f;cases f;cases e with|slnil=>trivial|zz=>trivial|al _ _ Q base cap val v w o i n=>refine⟨_,.ref J c b 0 Q _ val o i n,?_⟩;subst bu;simp[c5,m,s,r,Instr.indexAt,asIntOf,run_underlying bW.u,he.kw,k,Addr.add_lit]
def adT{S:aw}{I:iz}{au ck:Z}{T:aP}{h:Y V}{J c b:Z}{F A:V}(bW:cu P S I au ck)(k:nY I=ae)(l:M.op=.load S T)(o:O.val p T=W (.ref J h c b))(g:h[c]?=W F)(f:F.cells[b]?=W A):di P p M O A:=.same λz E N e=>by have d:=e.val o;generalize n:b1 z T=s at d;cases d with|ref _ _ _ _ Q base val r i m=>exists _,m c b F A g f;have:=e.cO.jT _ _ _<|i c b F A g f;simp[c5,l,n,Instr.loadAt,yr,loadVar,bW.vb,k,this]
theorem aug{S:aw}{I:iz}{e ck:Z}{T:aP}{s:Y V}{J d c:Z}{F:V}{H:Y V}(bW:cu P S I e ck)(t:nY I)(x:M.op=.load S T)(y:O.val p T=W (.ref J s d c))(o:s[d]?=W F)(u:am e (ay c F.cells)=H)(bu:U H=e):di P p M O (.agg H):=.same λz E N m=>by
 have i:=m.val y;generalize g:b1 z T=A at i;cases i with
 |ref _ _ _ _ Q base val C l B=>
  have n:∀b<e,∃T,F.cells[c+b]?=W T/\H[b]?=W T:=by
   intro b f;have r:b<U H:=q;refine⟨H[b],?_,cT r⟩;have k:(am e (ay c F.cells))[b]?=W H[b]:=by rw[u];exact cT r
   rw[m8,af f,sg] at k;exact k
  have v:∀b<e,ho E ((⟨Q,base+d*J+c,ai⟩:Addr).add b)=W (val d (c+b)):=by intro b f;let⟨T,h,_⟩:=n b f;have:=m.cO.jT _ _ _<|l d _ F T o h;rw[Addr.add_lit];simpa[z1] using this
  refine⟨h0<|aO<|(bM e).map λb=>val d<|c+b,?_,?_⟩;refine .agg H _ aK ?_ ?_;intro A g;simp at g;obtain⟨b,f,rfl⟩:=g;let⟨T,h,_⟩:=n b f;exact N.one _ _ _<|l d _ F T o h;grind;simp[c5,x,g,Instr.loadAt,yr,loadVar,bW.vb,t,bW.kw,run_loadCells (P:=P) (w:=E) ⟨Q,base+d*J+c,ai⟩ e (λb=>val d<|c+b) v]
end
def k3.mono{N i:bf}{E bO:bI}{H:Loc}{M:cB}(s:k3 N E H M)(f:N.le i)(h:∀Q,H.bR=W Q->bO.heap[Q]?=E.heap[Q]?):k3 i bO H M:=by
 cases M
 next C J F G=>let⟨c,p,k⟩:=s;exists c,p;rcases k with k|⟨Q,l,b,d,aX,u,o,t,e⟩;simp_all;refine bp ⟨Q,l,b,d.jN<|h Q b,aX,u,o,t,λB m I T v z=>?_⟩;let⟨D,y,w⟩:=e B m I T v z;exact⟨D,y,w.mono f⟩
 next C n clock=>let⟨c,Q,g,b,d,e,x⟩:=s;exists c,Q,g,b,b0 (h Q b) d,e.mono f
 next n clock seen=>let⟨c,Q,A,g,b,d,r,e,x⟩:=s;exists c,Q,A,g,b,b0 (h Q b) d,f.J _ _ r,e.mono f
 next J=>exact s
def bf.fV(N:bf)(c:Z)(H:Loc):bf:={N with
 m:=λb=>if b=c then W H else N.m b
 n:=max N.n (c+1)
 fresh:=λb k=>by rw[ad q];exact N.fresh b q}
def bf.kg(N:bf)b H:(N.fV b H).m b=W H:=by simp[bf.fV]
def bf.n_(N:bf){c b:Z}H:b≠c->(N.fV c H).m b=N.m b:=by grind[bf.fV]
def bf.jh{N:bf}{b:Z}{dr:Loc}(s:∀H,N.m b=W H->H.s=dr.s/\H.aS<=dr.aS/\(H.aS=dr.aS->H=dr)):N.le (N.fV b dr):=by refine⟨λ_ _ _ s=>s,λ_ _ s=>s,λc H k=>?_⟩;by_cases he:c=b;subst he;exact⟨dr,N.kg _ _,s H k⟩;exact⟨H,b0 (N.n_ dr he) k,aa,bv _,λ_=>aa⟩
section
variable{p:bJ}{N:bf}{d:bV}{E bO:bI}
theorem Holds.E9(s:Holds p N d E){Q M:Z}{b:bq}(c:N.I Q M=W b):Q<a9 E.heap:=World.block_lt_of_cell? E _<|s.jT Q M b c
def k3.yJ{H:Loc}{M:cB}(s:k3 N E H M){Q:Z}:H.bR=W Q->Q<a9 E.heap:=by
 cases M
 next g J F k=>let⟨_,_,b⟩:=s;rcases b with b|⟨h,i,e,f,_⟩;simp_all;intro d;cases b0 (bQ e) d;exact f.lt
 next g c clock=>cases s;grind
 next c clock seen=>cases s;grind
 next J=>cases s;simp_all
def Fu{b:Type}{H:Y b}{B:Z}{T w:b}:w∈aR H B T->w=T\/∃c≠B,H[c]?=W w:=by grind[List.mem_iff_getElem?]
def Bw{H:bV}(s:dT (ab (·.1) H)){c d:Z}{b e:Z×cB}(f:H[c]?=W b)(g:H[d]?=W e)(he:b.1=e.1):c=d:=by
 let h:(ab (·.1) H)[c]?=W b.1:=by simp[f]
 let i:(ab (·.1) H)[d]?=W b.1:=by simp[g,he]
 grind[List.getElem?_inj]
theorem Holds.pB(s:Holds p N d E){B o:Z}{M lf:cB}{H dr:Loc}(K:d[B]?=W (o,M))(am:N.m o=W H)(aB:H.s=dr.s)(aC:H.aS<=dr.aS)(he:H.aS=dr.aS->H=dr)(e:dr.bR=H.bR\/∃Q,dr.bR=W Q/\a9 E.heap<=Q)(v:E.grownBy bO H.bR)(aA:k3 (N.fV o dr) bO dr lf):Holds p (N.fV o dr) (aR d B (o,lf)) bO:=by
 have L:=dY K;have ar:N.le (N.fV o dr):=bf.jh λg b=>aq;have S:∀Q,H.bR=W Q->(a9 p.s7.heap<=Q\/p.FM Q)/\(∀B,N.I Q B=ai)/\N.J Q=ai:=λQ e=>s.ld o M H Q L am e;have y:∀f r,f≠B->d[f]?=W r->r.1≠o:=λf r i z F=>i<|Bw s.kt z K F;have P:∀f r g Q,f≠B->d[f]?=W r->N.m r.1=W g->g.bR=W Q->W Q≠H.bR:=by intro f r g Q i z hm u F;exact y f r i z<|s.inj r.1 r.2 o M g H Q (dY z) L hm am u<|bQ F
 refine⟨s.le.trans ar,?_,?_,s.nr,s.ns,?_,?_,?_,?_,?_,?_,?_⟩;refine⟨b0 v.os s.t.os,b0 v.tape s.t.tape,b0 v.output s.t.output,c9 s.t.size v.size,λl k z=>?_⟩;rw[v.block l (jZ k s.t.size) (λF=>by grind)];exact s.t.block l k z;intro l g b c;rw[N.n_ dr (λF=>by subst F;rcases s.own _ _ L with h|h;trivial;simp_all)];exact s.nl l g b c;intro l n b;rcases Fu b with b|⟨f,i,b⟩;cases b;exact s.own o M L;exact s.own l n<|dY b;intro Q n G b;rw[World.cell?_of_block (w:=E)<|v.block Q (s.E9 b) (λF=>by have:=(S Q<|bQ F).2.1 n;change N.I Q n=W G at b;simp_all)];exact s.jT Q n G b;intro Q O clock b;have c:=s.lT Q O clock b;rw[v.block Q (vp.1 c).1 (λF=>by have:=(S Q<|bQ F).2.2;change N.J Q=_ at b;simp_all)];exact c;intro l n b;rcases Fu b with b|⟨f,i,b⟩;cases b;exists dr,N.kg _ _;let⟨g,ap,au⟩:=s.gd l n<|dY b;refine⟨g,b0 (N.n_ dr<|y f _ i b) ap,au.mono ar λQ u=>v.block Q (au.yJ u)<|P f _ g Q i b ap u⟩;have:ab (·.1) (aR d B (o,lf))=ab (·.1) d:=by rw[hl];apply jn;intro f;rw[qo];split;rename_i F;subst F;simp only[bm,db,K,lm];rw[af (eX.1 K).1];rfl
 rw[this];exact s.kt;intro l n g Q b c h;rcases Fu b with b|⟨f,i,b⟩;cases b;rw[N.kg] at c;cases c;rcases e with e|⟨X,e,u⟩;exact S Q<|e▸h;rw[h] at e;cases e;refine⟨bj<|c9 s.t.size u,λay=>?_,?_⟩;cases Y:N.I Q ay;exact Y
 next G=>have:=s.E9 Y;omega
 cases ak:N.J Q;exact ak
 next G=>let⟨O,clock⟩:=G;have:=(vp.1<|s.lT Q O clock ak).1;omega
 rw[N.n_ dr<|y f _ i b] at c;exact s.ld l n g Q (dY b) c h;intro l n av ax g aw Q b c h x A C;rcases Fu b with b|⟨f,i,b⟩<;>rcases Fu c with c|⟨U,R,c⟩;cases b;cases c;rfl;cases b;exfalso;rw[N.kg] at h;cases h;rw[N.n_ dr<|y U _ R c] at x;rcases e with e|⟨X,e,u⟩;exact P U _ aw Q R c x C (by rw[<-e,A]);rw[A] at e;cases e;let⟨az,D,T⟩:=s.gd av ax<|dY c;rw[x] at D;cases D;have:=T.yJ C;omega;cases c;exfalso;rw[N.kg] at x;cases x;rw[N.n_ dr<|y f _ i b] at h;rcases e with e|⟨X,e,u⟩;exact P f _ g Q i b h A (by rw[<-e,C]);rw[C] at e;cases e;let⟨az,D,T⟩:=s.gd l n<|dY b;rw[h] at D;cases D;have:=T.yJ A;omega;rw[N.n_ dr<|y f _ i b] at h;rw[N.n_ dr<|y U _ R c] at x;exact s.inj l n av ax g aw Q (dY b) (dY c) h x A C
theorem Holds.new(s:Holds p N d E){lf:cB}{dr:Loc}(u:dr.bR=ai\/∃Q,dr.bR=W Q/\a9 E.heap<=Q)(i:E.grownBy bO ai)(am:k3 (N.fV N.n dr) bO dr lf):Holds p (N.fV N.n dr) (d++[(N.n,lf)]) bO:=by
 have:N.m N.n=ai:=N.fresh _<|bv _;have O:N.le (N.fV N.n dr):=bf.jh λh b=>aq;have v:∀c e,(c,e)∈d->c≠N.n:=λc e b F=>by let⟨h,f,_⟩:=s.gd c e b;simp_all
 refine⟨s.le.trans O,?_,?_,s.nr,s.ns,?_,?_,?_,?_,?_,?_,?_⟩;exact⟨b0 i.os s.t.os,b0 i.tape s.t.tape,b0 i.output s.t.output,c9 s.t.size i.size,λc k T=>by rw[i.block c (jZ k s.t.size) ao];exact s.t.block c k T⟩;intro c h b f;have g:=s.nl c h b f;rw[N.n_ dr λF=>aq];exact g;intro c e b;rcases fp.1 b with b|b;exact s.own c e b;simp[eu,z8] at b;obtain⟨rfl,rfl⟩:=b;cases R:p.wT.m N.n;simp
 next ap=>let⟨h,b,_⟩:=s.le.m _ _ R;simp_all
 intro Q e B b;rw[World.cell?_of_block (w:=E)<|i.block Q (s.E9 b) ao];exact s.jT Q e B b;intro Q C clock b;have f:=s.lT Q C clock b;rw[i.block Q (vp.1 f).1 ao];exact f;intro c e b;rcases fp.1 b with b|b;let⟨h,S,P⟩:=s.gd c e b;exact⟨h,b0 (N.n_ dr<|v c e b) S,P.mono O λQ D=>i.block Q (P.yJ D) ao⟩;simp[eu,z8] at b;obtain⟨rfl,rfl⟩:=b;exists dr,N.kg _ _;rw[dc,vr];refine⟨s.kt,ao,λz ak Q u F=>?_⟩;grind;intro c e h Q b f g;rcases fp.1 b with b|b;rw[N.n_ dr<|v c e b] at f;exact s.ld c e h Q b f g;simp[eu,z8] at b;obtain⟨rfl,rfl⟩:=b;rw[N.kg] at f;cases f;rcases u with u|⟨Z,u,D⟩;simp_all;rw[g] at u;cases u;refine⟨bj<|c9 s.t.size D,λU=>?_,?_⟩;cases L:N.I Q U;exact L
 next B=>have:=s.E9 L;omega
 cases M:N.J Q;exact M
 next B=>let⟨C,clock⟩:=B;have:=(vp.1<|s.lT Q C clock M).1;omega
 intro c e y A h X Q b f g r H K;rcases fp.1 b with l|l<;>rcases fp.1 f with o|o<;>clear b f;rw[N.n_ dr<|v c e l] at g;rw[N.n_ dr<|v y A o] at r;exact s.inj c e y A h X Q l o g r H K;simp[eu,z8] at o;obtain⟨rfl,rfl⟩:=o;exfalso;rw[N.n_ dr<|v c e l] at g;rw[N.kg] at r;cases r;let⟨Y,x,G⟩:=s.gd c e l;rw[g] at x;cases x;have:=G.yJ H
 (simp_all;omega)
 simp[eu,z8] at l;obtain⟨rfl,rfl⟩:=l;exfalso;rw[N.n_ dr<|v y A o] at r;rw[N.kg] at g;cases g;let⟨Y,x,G⟩:=s.gd y A o;rw[r] at x;cases x;have:=G.yJ K
 (simp_all;omega)
 simp_all
theorem Holds.grown(s:Holds p N d E)(b:E.grownBy bO ai):Holds p N d bO:=by refine⟨s.le,?_,s.nl,s.nr,s.ns,s.own,?_,?_,?_,s.kt,s.ld,s.inj⟩;exact⟨b0 b.os s.t.os,b0 b.tape s.t.tape,b0 b.output s.t.output,c9 s.t.size b.size,λe k n=>by rw[b.block e (jZ k s.t.size) ao];exact s.t.block e k n⟩;intro Q f r c;rw[World.cell?_of_block<|b.block Q (s.E9 c) ao];exact s.jT Q f r c;intro Q i clock c;let g:=s.lT Q i _ c;rw[b.block Q (vp.1 g).1 ao];exact g;intro e f c;let⟨o,m,h⟩:=s.gd e f c;exact⟨o,m,h.mono (bf.le.refl N) λQ l=>b.block Q (h.yJ l) ao⟩
def bf.rx(N:bf)(Q:Z)(e:bU bq)(f:∀(g:Z)(b:bq),e[g]?=W b->gE b):bf:={N with
 I:=λc M=>if c=Q then e[M]? else N.I c M
 one:=λc M b d=>by split at d;exact f M b d;exact N.one c M b d}
theorem Holds.ars(s:Holds p N d E){Q:Z}{xe:bU bq}{F:aw}{ar:Z×Z}(n:∀D(e:bq),xe[D]?=W e->gE e)(y:E.grownBy bO ai)(x:a9 E.heap<=Q)(K:bO.heap[Q]?=W (pK xe F ar)):Holds p (N.rx Q xe n) d bO/\N.le (N.rx Q xe n):=by
 let b:=s.grown y;let L:∀B,N.I Q B=ai:=λB=>by
  cases w:N.I Q B;rfl
  next e=>have:=s.E9 w;omega
 let o:N.le (N.rx Q xe n):=by refine⟨λf M e c=>?_,λ_ _ s=>s,λg H k=>⟨H,k,aa,bv _,λ_=>aa⟩⟩;simp[bf.rx];rw[ad λF=>aq];exact c
 refine⟨⟨s.le.trans o,b.t,b.nl,?_,b.ns,b.own,?_,b.lT,?_,b.kt,?_,b.inj⟩,o⟩;intro f M e c;simp[bf.rx] at c;split at c;rename_i he;subst he;exact bp<|bj<|c9 s.t.size x;exact b.nr f M e c;intro f M e c;simp[bf.rx] at c;split at c;grind[ho];exact b.jT f M e c;intro g l h;let⟨i,z,A⟩:=b.gd g l h;exact⟨i,z,A.mono o λ_ _=>aa⟩;intro g l i f h r u;let⟨G,P,J⟩:=s.ld g l i f h r u;refine⟨G,λB=>?_,J⟩;simp[bf.rx];rw[ad];simp_all;intro F;let⟨O,v,C⟩:=s.gd g l h;rw[show N.m g=W i from r] at v;cases v;have:=C.yJ u;omega
theorem Holds.freeze(s:Holds p N d E){B D au J:Z}{F:aw}{w:Y V}(am:d[B]?=W (D,.j au J F w)):∃v,N.le v/\v.m=N.m/\Holds p v (iB d B) E/\∃H,N.m D=W H/\H.aS=au/\H.s=J/\(H.bR=ai/\w=[]\/∃(Q:Z)(val:Z->Z->bq),H.bR=W Q/\(∀(b:Z) I,w[b]?=W I->U I.cells=J)/\(∀b h I T,w[b]?=W I->I.cells[h]?=W T->v.I Q (H.base+b*J+h)=W (val b h))/\∀b h I T,w[b]?=W I->I.cells[h]?=W T->bk v T (val b h)):=by
 let K:=dY am;let⟨H,A,f,y,aF⟩:=s.gd _ _ K;let ay:∀z∈iB d B,∃b≠B,d[b]?=W z:=λz aD=>by grind[List.mem_iff_getElem?]
 let i:∀z∈iB d B,z∈d:=λz aD=>aK;let ap:dT (ab (·.1)<|iB d B):=by have:(ab (·.1) (iB d B)).Sublist (ab (·.1) d):=(O1 d B).map _;exact this.nodup s.kt
 rcases aF with⟨x,he⟩|⟨Q,G,x,av,aX,aL,g,ax,aq⟩;exact⟨N,bf.le.refl N,aa,⟨s.le,s.t,s.nl,s.nr,s.ns,λc e g=>s.own c e<|i _ g,s.jT,s.lT,λc e g=>s.gd c e<|i _ g,ap,λc e l Q g=>s.ld c e l Q<|i _ g,λc e P S l R Q g n=>s.inj c e P S l R Q (i _ g)<|i _ n⟩,H,A,f,y,bj ⟨x,he⟩⟩;let⟨aB,aC,aM⟩:=s.ld D _ H Q K A x;let C:N.le (N.rx Q G g):=by refine⟨λo M u f=>?_,λ_ _ s=>s,λc H k=>⟨H,k,aa,bv _,λ_=>aa⟩⟩;simp[bf.rx];rw[ad λF=>by rw[F,aC] at f;cases f];exact f
 refine⟨N.rx Q G g,C,aa,⟨s.le.trans C,s.t,s.nl,?_,s.ns,λc e g=>s.own c e<|i _ g,?_,s.lT,?_,ap,?_,λc e P S l R Q g n=>s.inj c e P S l R Q (i _ g)<|i _ n⟩,H,A,f,y,bp ⟨Q,λb h=>(G[H.base+b*J+h]?).getD undef,x,λb I r=>by rw[<-y];exact ax b I r,?_,?_⟩⟩;intro o M u f;simp[bf.rx] at f;split at f;rename_i he;subst he;exact bp aB;exact s.nr o M u f;intro o M u f;simp[bf.rx] at f;split at f;rename_i he;subst he;rw[av.cell];exact f;exact s.jT o M u f;intro c e n;let⟨l,aA,aE⟩:=s.gd c e<|i _ n;exact⟨l,aA,aE.mono C λ_ _=>aa⟩;intro c e l o n X ak;let⟨aH,aI,aJ⟩:=s.ld c e l o (i _ n) X ak;refine⟨aH,λaG=>?_,aJ⟩;simp[bf.rx];rw[ad];exact aI aG;rintro rfl;let⟨b,r,az⟩:=ay _ n;have:=s.inj c e D _ l H o (i _ n) K X A ak x;exact r<|Bw s.kt az am this;intro b h I T r O;let⟨u,L,ar⟩:=aq b h I T r O;simp[bf.rx,GD,<-y,L,z7];intro b h I T r O;let⟨u,L,ar⟩:=aq b h I T r O;dsimp;rw[<-y,L];exact ar.mono C
def bf.Cq(N:bf)(Q:Z)(T:bU k0×Z):bf:={N with J:=λb=>if b=Q then W T else N.J b}
theorem Holds.Za(s:Holds p N d E){B v K o:Z}{A:Y (V×V×Z)}(G:d[B]?=W (v,.map K A o)):∃n H Q e,N.le n/\n.m=N.m/\Holds p n (iB d B) E/\N.m v=W H/\H.aS=K/\H.bR=W Q/\n.J Q=W (e,o)/\mF n A e/\(∀F∈a0 e,F.born<o)/\dT (ab (·.born) (a0 e)):=by
 let z:=dY G;let⟨H,y,au,Q,e,x,aB,am,ar,U⟩:=s.gd _ _ z;let O:∀r∈iB d B,∃I≠B,d[I]?=W r:=λr ak=>by grind[List.mem_iff_getElem?]
 let i:∀r∈iB d B,r∈d:=λr ak=>aK;let X:dT (ab (·.1)<|iB d B):=by have:(ab (·.1) (iB d B)).Sublist (ab (·.1) d):=(O1 d B).map _;exact this.nodup s.kt
 cases s.ld v _ H Q z y x;let u:N.le (N.Cq Q (e,o)):=by refine⟨λ_ _ _ s=>s,λg T b=>?_,λc H k=>⟨H,k,aa,bv _,λ_=>aa⟩⟩;simp[bf.Cq];rw[ad λF=>aq];exact b
 refine⟨N.Cq Q (e,o),H,Q,e,u,aa,⟨s.le.trans u,s.t,s.nl,s.nr,?_,λc f w=>s.own c f<|i _ w,s.jT,?_,?_,X,?_,λc f av aA l aw Q w h=>s.inj c f av aA l aw Q (i _ w)<|i _ h⟩,y,au,x,by simp[bf.Cq],am.mono u,ar,U⟩;intro g T b;simp[bf.Cq] at b;split at b;simp_all;exact s.ns g T b;intro g M L b;simp[bf.Cq] at b;split at b;simp_all;exact s.lT g M L b;intro c f h;let⟨l,S,ap⟩:=s.gd c f<|i _ h;exact⟨l,S,ap.mono u λ_ _=>aa⟩;intro c f l g h C D;let⟨ax,ay,az⟩:=s.ld c f l g (i _ h) C D;exists ax,ay;simp[bf.Cq];rw[ad];exact az;rintro rfl;let⟨I,P,R⟩:=O _ h;have:=s.inj c f v _ l H g (i _ h) z C y D x;exact P<|Bw s.kt R G this
end
theorem kl.set{E:bI}{Q:Z}{c b:bU bq}{F:aw}(s:kl E Q c F)(e:a9 b=a9 c):kl (E.setRow Q b) Q b F:=by obtain⟨ar,s,d⟩:=s;exact⟨ar,setRow_heap E Q c b F ar s,q⟩
def DB P{u:Z}(M:Z){S:aw}:∀f b c E,kl E u c S->M+b+U f<=a9 c->(∀d∈f,gE d)->ce P (storeCells ⟨u,M,ai⟩ f b) E=ct () (E.setRow u (aO (am (M+b) (a0 c)++f++ay (M+b+U f) (a0 c))))
|[],b,c,E,⟨ar,e,_⟩,_,_=>by simp only[storeCells,gv,O7,qp,D_,ahc];rw[setRow_self E u c S ar e];rfl|d::l,b,c,E,m,g,h=>by
 have k:M+b<a9 c:=by simp at g;omega
 have n:(⟨u,M,ai⟩:Addr).add b=⟨u,M+b,ai⟩:=by unfold Addr.add;split<;>simp_all
 obtain⟨⟨t,up⟩,e,i⟩:=m;have p:ce P (store ((⟨u,M,ai⟩:Addr).add b) d) E=ct () (E.setRow u (nG c (M+b) d)):=by
  have o:E.frozen? ⟨u,M+b,ai⟩=ae:=by simp[World.frozen?,e,Gn,vt];simp at i;omega
  rw[n,run_store P E _ d _<|h d ao,show ho E ⟨u,M+b,ai⟩=W c[M+b] by simp[ho,e,k]];simp[o,setCell_eq_setRow E u (M+b) c S (t,up) d e]
 have s:=DB P M l (b+1) (nG c (M+b) d) (E.setRow u<|nG c (M+b) d) (kl.set ⟨_,e,i⟩ ao) (by simp at g⊢;omega) λT r=>h T (by simp[r]);simp only[storeCells,Sem.run_bind,p,Result.andThen_ok,s,setRow_setRow];congr 3;simpa[Array.toList_setIfInBounds,z1] using list_seg_step (a0 c) (M+b) d l (by simp at g⊢;omega)
structure jr(P:bn)(S:aw)(ap:bq):Prop where
 aX:(P.info? S).bind (·.zero)=W ap
 one:(a0 (dp ap)).all (λaE=>gE aE)
def jr.run{P:bn}{S:aw}{ap:bq}(s:jr P S ap)E:ce P (zeroValue S) E=ct ap E:=by
 have:=s.aX;cases k:P.info? S;simp_all
 next b=>simp_all[zeroValue,typeInfo]
def V.zero:bq->V|h0 b=>.agg (ab V.leaf<|a0 b)|c=>V.leaf c
def pN(N:bf)(T:V)(c:Y bq):Prop:=U c=U T.cells/\(∀b∈c,gE b)/\∀(d:Z)(w:V)(b:bq),T.cells[d]?=W w->c[d]?=W b->bk N w b
def pN.zero{P:bn}{S:aw}{ap:bq}(s:jr P S ap)N:pN N (V.zero ap) (a0 (dp ap)):=by
 refine⟨?_,kY.1 s.one,?_⟩;unfold V.zero;split;simp[V.cells,dp];have:(V.leaf ap).cells=[V.leaf ap]:=by unfold V.leaf;split<;>rfl
 grind[dp];intro c w f b e;unfold V.zero at b;split at b;simp[V.cells] at b;grind[dp,Option.some.injEq,bk.leaf];let d:(V.leaf ap).cells=[V.leaf ap]:=by unfold V.leaf;split<;>rfl
 grind[dp,bk.leaf]
def V.fits:V->X|.agg _|.vec .. =>ag|T=>T.one
def bk.H1{N:bf}{T:V}{b:bq}(s:bk N T b)(n:T.fits):pN N T (a0 (dp b)):=by
 by_cases l:T.one;have:=s.ar1 l;have:T.cells=[T]:=by cases T<;>simp_all[V.cells,V.one]
 have h:dp b=#[b]:=by cases b<;>simp_all[dp,gE]
 refine⟨aq,aq,λc w cc f g=>?_⟩;grind;cases s with|agg k i m d e=>exact⟨by grind[dp,V.cells],λb h=>d b cf,λc w cc f g=>e c w cc cf cf⟩|vec o z k i bu m d e=>exact⟨by show U i=U (z.cells++k);omega,λb h=>d b cf,λc w cc f g=>e c w cc f cf⟩|_=>trivial
section
variable{P:bn}{p:bJ}{ops:bU a7}{M:a7}{H:Y a7}{O:bc}{ak:cS->bc->Prop}
def cD.mn(r:O.guard ops M=W ag)(s:∀z E N,a_ p O z E N->∃f bO b A g,N.le b/\bk b A f/\Holds p b g bO/\(ce P (c5 (b1 z) M) E=ct (og f) bO\/f=undef/\ce P (c5 (b1 z) M) E=ct .skip bO)/\cD P p ops H (({O with d:=g}:bc).put M.dst A) ak):cD P p ops (M::H) O ak:=by intro o z E N c;let⟨i,k⟩:=EO o;unfold wpList;rw[af<|c.wanted r];let⟨f,bO,b,A,g,h,n,l,e,m⟩:=s z E N c;refine bj ?_;unfold Oper.wp;rcases e with e|⟨rfl,e⟩<;>rw[e];exact m k _ _ b<|c.put h l n i;exact m k _ _ b<|c.put h l n i
def eH(P:bn)(p:bJ)(M:a7)(O:bc)(A:V)(f:bV):Prop:=∀z E N,a_ p O z E N->∀(c:fI->bI->Prop)(e:cS->fI->bI->Prop),(∀d bO b,N.le b->bk b A d->Holds p b f bO->c (z.put M.dst d) bO)->M.wp P z E c e
theorem eH.of{A:V}{l:bV}(s:∀z E N,a_ p O z E N->∃d bO b f e,N.le b/\bk b f d/\Holds p b e bO/\(ce P (c5 (b1 z) M) E=ct (og d) bO\/d=undef/\ce P (c5 (b1 z) M) E=ct .skip bO)/\f=A/\e=l):eH P p M O A l:=by intro z E N m n o h;obtain⟨d,bO,b,f,e,g,k,i,c,rfl,rfl⟩:=s z E N m;unfold Oper.wp;rcases c with c|⟨rfl,c⟩<;>rw[c];exact h _ _ b g k i;exact h _ _ b g k i
def cD.AL{A:V}{c:bV}(k:O.guard ops M=W ag)(m:eH P p M O A c)(s:cD P p ops H (({O with d:=c}:bc).put M.dst A) ak):cD P p ops (M::H) O ak:=by intro g z E N b;let⟨h,i⟩:=EO g;unfold wpList;rw[af<|b.wanted k];refine bj<|m z E N b _ _ λo bO e f n l=>?_;exact s i _ _ e<|b.put f l n h
def Holds.newRow{N:bf}{d:bV}{E:bI}(s:Holds p N d E){F:aw}{T:V}{b:Y bq}(f:pN N T b):Holds p (N.fV N.n ⟨W (a9 E.heap),0,0,U b,U b⟩) (d++[(N.n,.j 0 (U b) F [T])]) (E.alloc (pK (aO b) F)):=by
 apply s.new (bp ⟨a9 E.heap,aa,bv _⟩)<|World.grownBy_alloc E _ _;refine⟨aa,aa,bp ⟨a9 E.heap,aO b,aa,?_,ao,ao,?_,?_,?_⟩⟩;exact .of<|heap_alloc_new E _;intro c m l;exact f.2.1 m<|dY (by simpa using l);intro c I e;cases c;simp at e;subst e;exact bQ f.1
 next c=>trivial
 intro c g I w e i;cases c;simp at e;subst e;let k:g<U b:=by rw[f.1];exact(eX.1 i).1
 refine⟨b[g],ao,(f.2.2 g w _ i<|cT k).mono<|bf.jh λo h=>by rw[N.fresh _<|bv _] at h;cases h⟩
 next c=>trivial
def bk.ac6{N:bf}{Q c:Z}{b:Z}:bk (N.fV N.n ⟨W Q,0,0,c,c⟩) (.own N.n 0 0 b) (ib (W ⟨Q,b,ai⟩)):=.own _ _ _ _ _ _ (N.kg _ _) (bv _) aa λ_=>⟨Q,aa,ao⟩
def cD.alloc{S:aw}{ap:bq}{J:Z}(g:O.guard ops M=W ag)(h:M.op=.alloc S)(aX:jr P S ap)(i:a9 (dp ap)=J)(s:∀e,cD P p ops H (({O with d:=O.d++[(e,.j 0 J S [V.zero ap])]}:bc).put M.dst (.own e 0 0 0)) ak):cD P p ops (M::H) O ak:=.mn g λz E N f=>by
 let c:=f.cO.newRow (F:=S)<|pN.zero aX N;let k:U (a0<|dp ap)=J:=by simpa using i
 rw[k] at c;refine⟨_,_,_,.own N.n 0 0 0,_,bf.jh λl b=>(by rw[N.fresh _<|bv _] at b;cases b),bk.ac6,c,bj ?_,s N.n⟩;simp[c5,h,Instr.alloc,aX.run,newVar,newRow]
def cD.box{S:aw}{T:aP}{b:V}{J:Z}(k:O.guard ops M=W ag)(l:M.op=.box S T)(r:O.val p T=W b)(i:b.fits)(m:U b.cells=J)(s:∀h,cD P p ops H (({O with d:=O.d++[(h,.j 0 J S [b])]}:bc).put M.dst (.own h 0 0 0)) ak):cD P p ops (M::H) O ak:=.mn k λz E N e=>by
 let g:=(e.val r).H1 i;let f:=e.cO.newRow (F:=S) g;let o:(b1 z T).cells.toList.length=J:=by rw[g.1,m]
 rw[o] at f;refine⟨_,_,_,.own N.n 0 0 0,_,bf.jh λt c=>(by rw[N.fresh _<|bv _] at c;cases c),bk.ac6,f,bj ?_,s N.n⟩;simp[c5,l,Instr.box,newVar,newRow]
def a_.own{z:fI}{E:bI}{N:bf}(s:a_ p O z E N){T:aP}{c e i f B J:Z}{F:aw}{g:Y V}(r:O.val p T=W (.own c e i f))(l:O.d[B]?=W (c,.j e J F g)):∃H Q,N.m c=W H/\k3 N E H (.j e J F g)/\H.bR=W Q/\H.s=J/\b1 z T=ib (W ⟨Q,H.base+i*J+f,ai⟩):=by let⟨H,n,b⟩:=s.cO.gd _ _<|dY l;let h:=s.val r;cases h with|own _ _ _ _ t v hm u h s=>obtain rfl:H=t:=aq;let⟨Q,k,o⟩:=s<|bQ b.1;exact⟨H,Q,n,b,k,b.2.1,by rw[o,b.2.1]⟩
def TL{T:aP}{b c h e B J:Z}{F:aw}{i:Y V}(n:M.op=.nilCheck T)(g:O.val p T=W (.own b c h e))(k:O.d[B]?=W (b,.j c J F i)):di P p M O (.own b c h e):=.same λz E N f=>by let⟨H,Q,m,o,l,r,s⟩:=f.own g k;exact⟨_,f.val g,by simp_all[c5]⟩
def Sl{S:aw}{I:iz}{au ck:Z}{T:aP}{i k c b B J:Z}{F:aw}{f:Y V}{e A:V}(bW:cu P S I au ck)(t:nY I=ae)(G:O.val p T=W (.own i k c b))(v:O.d[B]?=W (i,.j k J F f))(u:f[c]?=W e)(o:e.cells[b]?=W A){z:fI}{E:bI}{N:bf}(m:a_ p O z E N):∃l,bk N A l/\ce P (do loadVar S (<-asAddr (b1 z T))) E=ct l E:=by
 let⟨H,Q,ak,x,n,C,D⟩:=m.own G v;obtain⟨_,_,⟨R,_⟩|⟨K,L,g,s,aX,X,M,U,w⟩⟩:=x;simp_all;rw[n] at g;cases g;let⟨cc,h,y⟩:=w c b e A u o;rw[C] at h;let r:ho E ⟨Q,H.base+c*J+b,ai⟩=W cc:=by rw[s.cell,h]
 exact⟨cc,y,by simp[D,asAddr,loadVar,bW.vb,t,r]⟩
def Sm{S:aw}{I:iz}{e ck:Z}{T:aP}{s t f c B J:Z}{F:aw}{m:Y V}{g:V}{v7:Y V}(bW:cu P S I e ck)(C:nY I)(au:O.val p T=W (.own s t f c))(G:O.d[B]?=W (s,.j t J F m))(D:m[f]?=W g)(K:am e (ay c g.cells)=v7)(bu:U v7=e){z:fI}{E:bI}{N:bf}(v:a_ p O z E N):∃u,bk N (.agg v7) u/\ce P (do loadVar S (<-asAddr (b1 z T))) E=ct u E:=by
 let⟨H,Q,aD,R,x,ap,aq⟩:=v.own au G;obtain⟨_,_,⟨k,_⟩|⟨az,i,n,A,aX,aC,aA,aB,M⟩⟩:=R;simp_all;rw[x] at n;cases n;let y:∀b<e,∃T,g.cells[c+b]?=W T/\v7[b]?=W T:=by
  intro b h;let o:b<U v7:=q;refine⟨v7[b],?_,cT o⟩;let k:(am e<|ay c g.cells)[b]?=W v7[b]:=by rw[K];exact cT o
  rw[m8,af h,sg] at k;exact k
 let ar:∀b<e,∃cc,i[H.base+f*J+c+b]?=W cc/\∀T,v7[b]?=W T->bk N T cc:=by intro b h;let⟨T,av,ax⟩:=y b h;let⟨cc,l,X⟩:=M f (c+b) g T D av;rw[ap] at l;refine⟨cc,aK,λw r=>by rw[ax] at r;cases r;exact X⟩
 let L:∀b<e,ho E ((⟨Q,H.base+f*J+c,ai⟩:Addr).add b)=W ((λb=>(i[H.base+f*J+c+b]?).getD undef) b):=by intro b h;let⟨cc,l,_⟩:=ar b h;rw[Addr.add_lit];rw[A.cell];simp[l]
 let ak:=run_loadCells (P:=P) (w:=E) ⟨Q,H.base+f*J+c,ai⟩ e _ L;refine⟨h0<|aO<|(bM e).map λb=>(i[H.base+f*J+c+b]?).getD undef,.agg v7 _ (by simp[bu]) ?_ ?_,?_⟩;grind;grind;simp[aq,asAddr,loadVar,bW.vb,C,bW.kw,ak]
def IJ{S:aw}{I:iz}{au ck:Z}{T:aP}{l n m b B J:Z}{F:aw}{e:Y V}{c A:V}(bW:cu P S I au ck)(s:nY I=ae)(u:M.op=.load S T)(k:O.val p T=W (.own l n m b))(h:O.d[B]?=W (l,.j n J F e))(t:e[m]?=W c)(r:c.cells[b]?=W A):di P p M O A:=.same λz E N g=>by let⟨H,Q,_,_,_,_,i⟩:=g.own k h;let⟨v,o,f⟩:=Sl (P:=P) bW s k h t r g;simp[i,asAddr] at f;exact⟨v,o,by simp[c5,u,i,Instr.loadAt,yr,f]⟩
theorem auf{S:aw}{I:iz}{c ck:Z}{T:aP}{n r o e B J:Z}{F:aw}{g:Y V}{f:V}{b:Y V}(bW:cu P S I c ck)(t:nY I)(w:M.op=.load S T)(m:O.val p T=W (.own n r o e))(k:O.d[B]?=W (n,.j r J F g))(u:g[o]?=W f)(v:am c (ay e f.cells)=b)(bu:U b=c):di P p M O (.agg b):=.same λz E N i=>by let⟨H,Q,_,_,_,_,l⟩:=i.own m k;let⟨x,s,h⟩:=Sm (P:=P) bW t m k u v bu i;simp[l,asAddr] at h;exact⟨x,s,by simp[c5,w,l,Instr.loadAt,yr,h]⟩
def II{S F:aw}{au ck dP:Z}{T f:aP}{c g o m B J:Z}{r:aw}{t:Y V}{e:Z}{I:dd}{n:L}(bW:cu P S (c_ F) au ck)(he:gx P F J dP)(C:M.op=o0 S T f)(G:O.val p T=W (.bH c g o m))(y:O.d[B]?=W (c,.j g J r t))(x:O.val p f=W (.int I n))(bu:n=(e:L))(w:e<m):di P p M O (.own c g (o+e) 0):=.same λz E N i=>by let⟨H,A,k,s⟩:=i.bH G y;have h:=i.val x;generalize D:b1 z f=cc at h;cases h;subst bu;rcases s with⟨_,rfl,l⟩|⟨Q,U,cap,v,l,R,K,b⟩;omega;rcases b with b|⟨rfl,b⟩;omega;refine⟨ib _,.own _ _ _ _ H _ A (by rw[k.1];omega) aa λ_=>⟨Q,v,aa⟩,?_⟩;simp[c5,C,l,D,Instr.indexAt,asIntOf,run_underlying bW.u,he.kw,w,Addr.add_lit,k.2.1,hZ]
def V.s4(I:V)(c:Z)(b:Y V):V:=match I with|.agg H=>.agg (am c H++b++ay (c+U b) H)|_=>match b with|[T]=>T|_=>.agg b
def Hn{S:aw}{au ck:Z}{aD T:aP}{s L b c B J:Z}{F:aw}{v:Y V}{i u:V}{ak:V}(bW:gx P S au ck)(aN:M.op=.store S aD T)(aQ:O.val p aD=W (.own s L b c))(az:O.d[B]?=W (s,.j L J F v))(x:v[b]?=W i)(a1:O.val p T=W u)(aE:u.fits)(C:U u.cells=au)(a_:c+au<=U i.cells)(aS:ak.cells=am c i.cells++u.cells++ay (c+au) i.cells):eH P p M O .undef (aR O.d B (s,.j L J F (aR v b ak))):=.of λz E N G=>by
 let⟨e,Q,aL,aB,ap,k,aU⟩:=G.own aQ az;let A:=(G.val a1).H1 aE;let bd:=aB;obtain⟨aY,_,⟨a7,_⟩|⟨a5,g,ar,av,aX,aF,D,ax,I⟩⟩:=aB;simp_all;rw[ap] at ar;cases ar;let bb:U i.cells=J:=by rw[<-k];exact ax b i x
 let aJ:b<U v:=(eX.1 x).1;let be:e.base+b*J+J<=a9 g:=by rw[aX];refine c9 ?_ aF;rw[k,z1,<-pH];exact Pc (jo _ aJ) _
 let K:(b1 z T).cells.toList.length=au:=by rw[A.1,C]
 let aC:=DB P (e.base+b*J+c) (b1 z T).cells.toList 0 g E av q A.2.1;simp[qp] at aC;refine⟨undef,_,N.fV s e,.undef,_,bf.jh λa4 D=>aq,.undef _,G.cO.pB az aL aa (bv _) (λ_=>aa) (bj aa) (bO:=E.setRow Q<|aO<|am (e.base+b*J+c) (a0 g)++(b1 z T).cells.toList++ay (e.base+b*J+c+au) (a0 g))
   ⟨aa,aa,aa,ao,λa3 bc aM=>setRow_other E Q a3 _ λF=>aM aq⟩ ?_,bp ⟨aa,?_⟩,aa,aa⟩
 let y:N.le (N.fV s e):=bf.jh λa4 D=>aq;refine⟨aY,k,bp ⟨Q,_,ap,av.set kj,?_,bi,?_,?_,?_⟩⟩
 (simp_all;omega)
 intro t R aW;let hm:R∈am (e.base+b*J+c) (a0 g)++(b1 z T).cells.toList++ay (e.base+b*J+c+au) (a0 g):=dY (by simpa using aW);rcases fp.1 hm with hm|hm;rcases fp.1 hm with hm|hm;let⟨a2,aK⟩:=rl.1<|pE hm;exact D a2 R (by simpa using aK);exact A.2.1 R hm;grind[List.mem_iff_getElem?,List.mem_of_mem_drop];grind;intro t h X w o f;let aH:∀n,(aO<|am (e.base+b*J+c) (a0 g)++(b1 z T).cells.toList++ay (e.base+b*J+c+au) (a0 g))[n]?=if n<e.base+b*J+c then g[n]? else if n<e.base+b*J+c+au then(b1 z T).cells.toList[n-(e.base+b*J+c)]? else g[n]?:=by
  intro n;let l:U (am (e.base+b*J+c)<|a0 g)=e.base+b*J+c:=bi;simp[um,eS];rw[nB,l];split;rw[m8,af (by assumption)];simp;rw[nB,K];split
  (simp;omega)
  rw[ad q,sg];simp[wH];congr 1;omega
 rw[aH];rw[qo] at o;split at o;rename_i H;subst H;simp[g6] at o;subst o;rw[aS] at f;rw[k];rw[eS,nB,nD,Vx q] at f;split at f;rename_i l;rw[af q];rw[m8,af l] at f;let⟨cc,m,r⟩:=I b h i w x f;exact⟨cc,by rw[<-m,k],r.mono y⟩;rw[nB] at f;split at f;rename_i l;rw[C] at l;rw[ad q,af q];have:e.base+b*J+h-(e.base+b*J+c)=h-c:=q;rw[this];let aA:h-c<(b1 z T).cells.toList.length:=q;exact⟨_,cT aA,(A.2.2 _ _ _ f<|cT aA).mono y⟩;rename_i aG;rw[C] at aG;rw[ad q,ad q];rw[sg,C] at f;have:c+au+(h-c-au)=h:=q;rw[this] at f;let⟨cc,m,r⟩:=I b h i w x f;exact⟨cc,by rw[<-m,k],r.mono y⟩;rename_i H;let⟨cc,m,r⟩:=I t h X w o f;let ba:h<J:=by rw[<-k,<-ax t X o];exact(eX.1 f).1
 rw[k] at m⊢;refine⟨cc,?_,r.mono y⟩;rcases Nat.lt_or_gt_of_ne H with l|aI;have:(b+1)*J<=t*J:=jo _ l;rw[pH] at this;rw[ad q,ad q];exact m;have:(t+1)*J<=b*J:=jo _ aI;rw[pH] at this;rw[af q];exact m;simp[c5,aN,Instr.storeAt,yr,aU,storeVar];let aT:(b1 z T).cells.size=au:=by simpa using K
 simp[bW.kw,aT,aC,K]
def CV{S:aw}{au ck:Z}{i T:aP}{f h g b B J:Z}{F:aw}{e:Y V}{el c:V}(bW:gx P S au ck)(o:M.op=.store S i T)(r:O.val p i=W (.own f h g b))(n:O.d[B]?=W (f,.j h J F e))(m:e[g]?=W el)(u:O.val p T=W c)(l:c.fits)(t:U c.cells=au)(k:b+au<=U el.cells)(s:(el.s4 b c.cells).cells=am b el.cells++c.cells++ay (b+au) el.cells):eH P p M O .undef (aR O.d B (f,.j h J F (aR e g (el.s4 b c.cells)))):=Hn bW o r n m u l t k s
end
section
variable{P:bn}{p:bJ}{ops:bU a7}{M:a7}{H:Y a7}{O:bc}{ak:cS->bc->Prop}
def YP J:∀(c:Y (Y bq)) e pre post parts h,U pre=e*J->U post=U c*J->(∀aE∈c,U aE=J)->U pre+U post=h->U parts=U c->(∀f g,parts[f]?=W g->g.1=e+f/\W g.2.cells.toList=c[f]?)->Instr.fill (λe=>W (e*J,J)) (aO<|pre++post) parts=W (aO<|pre++iV c)
|[],e,pre,post,parts,h,p,r,_,_,t,_=>by simp_all[l4,Instr.fill]|aE::c,e,pre,post,parts,h,p,r,s,G,t,u=>by
 cases parts;simp_all
 next g E=>
  obtain⟨i,w⟩:=g;obtain⟨o,l⟩:=u 0 _ ba;simp[qp] at o;simp[O3,g6] at l;subst o;have v:U aE=J:=s aE ao;have:a9 (dp w)=J:=by rw[<-wI,l,v]
  simp only[Instr.fill];rw[ad (by grind[List.length_cons,Nat.succ_mul])];have:J<=U post:=by rw[r];simp[pH]
  have x:(dp w).zipIdx.foldl (λk T=>nG k (i*J+T.2) T.1) (aO<|pre++post)=aO (pre++aE++ay J post):=by
   have D:∀d B m b,U m=B->U d<=U b->(d.zipIdx B).foldl (λk T=>nG k (i*J+T.2) T.1) (aO<|pre++m++b)=aO (pre++m++d++ay (U d) b):=by
    intro d
    induction d
    simp
    next T d C=>
     intro B m b hm H;cases b;grind
     next A b=>
      simp only[List.zipIdx_cons,JX];have:(pre++m++A::b).toArray.setIfInBounds (i*J+B) T=aO (pre++(m++[T])++b):=by rw[List.setIfInBounds_toArray];congr 1;rw[z0 _ _ aK];simp[p,hm]
      rw[this,C (B+1) (m++[T]) b (by simp[hm]) aK];simp
   have n:=D aE 0 [] post aa q;rw[v] at n;simp only[gv] at n;rw[<-n,<-ag7,ahd,l]
  rw[x];have:=YP J c (i+1) (pre++aE) (ay J post) E h aK (by grind[Nat.succ_mul]) (λcc z=>s cc (by simp[z])) aK (by simpa using t)
   (λf F y=>by have:=u (f+1) F (by simpa using y);grind)
  simp_all
def u6(p:bJ)(O:bc):Y (Z×aP)->Z->Y V->Prop|[],_,b=>b=[]|(d,T)::A,c,I::b=>d=c/\O.val p T=W I/\I.fits/\u6 p O A (c+1) b|_::_,_,[]=>hP
def u6.len{p:bJ}{O:bc}:∀{d:Y (Z×aP)}{c:Z}{b:Y V},u6 p O d c b->U d=U b|[],_,b,s=>by grind[u6]|_::A,c,I::b,s=>by simp[s.2.2.2.len]|_::_,_,[],s=>s.elim
def u6.get{p:bJ}{O:bc}:∀{g:Y (Z×aP)}{f:Z}{d:Y V},u6 p O g f d->∀c b,g[c]?=W b->b.1=f+c/\∃I,d[c]?=W I/\O.val p b.2=W I/\I.fits|[],_,d,_,c,b,e=>aq|(h,T)::A,f,I::d,s,0,b,e=>by simp at e;subst e;exact⟨s.1,I,aa,s.2.1,s.2.2.1⟩|(h,T)::A,f,I::d,s,c+1,b,e=>by cases s.2.2.2.get c b aq;grind|_::_,_,[],s,_,_,_=>s.elim
def LH{J:Z}:∀(a:Y (Y bq)),(∀b∈a,U b=J)->∀d c b,a[d]?=W b->c<J->(iV a)[d*J+c]?=b[c]?|[],_,d,c,b,s,_=>aK|cc::a,f,0,c,b,s,e=>by grind|cc::a,f,d+1,c,b,s,e=>by have:=LH a (λb g=>f b aK) d c b aq e;grind
theorem Hw{J:Z}:∀(a:Y (Y bq)),(∀b∈a,U b=J)->U (iV a)=U a*J|[],_=>ao|cc::a,c=>by rw[List.flatten_cons,cd,c cc ao,Hw a λb d=>c b aK,l5,pH,ta]
def T6{S F:aw}{au ck J dP d:Z}{ap:bq}{n:bU (Z×aP)}{h:Y V}(bW:cu P S (c_ F) au ck)(he:gx P F J dP)(aX:jr P F ap)(m:u6 p O (a0 n) 0 h)(bu:d=U h)(hlen:∀I∈h,U I.cells=J)(aA:d*J<=2^24){z:fI}{E:bI}{N:bf}(M:a_ p O z E N):∃o:Y bq,U o=d*J/\ce P (Instr.buildSlice S d (n.map λT=>(T.1,b1 z T.2))) E=ct (eY (W ⟨a9 E.heap,0,ai⟩) d d) (E.alloc (pK (aO o) F))/\(∀c∈o,gE c)/\∀b g I T,h[b]?=W I->I.cells[g]?=W T->∃c,o[b*J+g]?=W c/\bk N T c:=by
 let e:Y (Y bq):=(a0 n).map λK=>(b1 z K.2).cells.toList;have x:∀(b:Z) I,h[b]?=W I->∃c,e[b]?=W c/\pN N I c:=by
  intro b I l;have i:b<U (a0 n):=by rw[m.len];exact(eX.1 l).1
  let⟨_,az,B,am,Q⟩:=m.get b _<|cT i;rw[l] at B;cases B;refine⟨_,aK,(M.val am).H1 Q⟩
 have w:∀c∈e,U c=J:=by
  intro c v;let⟨b,i⟩:=rl.1 v;have t:b<U h:=by rw[<-m.len];have:=(eX.1 i).1;simpa[e] using this
  let⟨ay,f,k⟩:=x b _<|cT t;rw[i] at f;cases f;rw[k.1];exact hlen _<|hL t
 have ar:U e=d:=by simp only[e,bm];rw[m.len,bu]
 refine⟨iV e,by grind[Hw],?_,?_,?_⟩;have s:=YP J e 0 [] ((bM<|d*J).map λy=>(dp ap)[y%a9 (dp ap)]!) ((a0 n).map λT=>(T.1,b1 z T.2)) (d*J) ao aq w ao
  aK (λb K G=>by simp only[db,Eb] at G;obtain⟨ax,X,rfl⟩:=G;exists (m.get b ax X).1;grind)
 simp[na] at s;simp only[Instr.buildSlice,Sem.run_bind,run_underlying bW.u,Result.andThen_ok,he.kw];rw[ad q];by_cases r:d*J=0;rw[af r];have C:iV e=[]:=l4 (by grind[Hw]);rw[r,C] at s;have R:∀L:bU bq,Array.map (L[·%a9 L]!) (Array.range 0)=#[]:=λ_=>ao;simp[r,R,UY];simp[List.range_zero,rk] at s;rw[s,C];rfl;rw[ad r];simp[Sem.run_bind,aX.run,Result.andThen_ok,Sem.run_pure];have:Array.map ((dp ap)[·%a9 (dp ap)]!) (Array.range (d*J))=aO ((bM (d*J)).map λy=>(dp ap)[y%a9 (dp ap)]!):=by apply OS;simp
 simp_all[UY,newRow];intro c v;simp[ahv] at v;let⟨cc,ak,av⟩:=v;let⟨b,i⟩:=rl.1 ak;have t:b<U h:=by rw[<-bu,<-ar];exact(eX.1 i).1
 let⟨ay,f,k⟩:=x b _<|cT t;rw[i] at f;cases f;exact k.2.1 c av;intro b g I T l H;let⟨c,f,k⟩:=x b I l;have A:g<J:=by rw[<-hlen I (dY l)];exact(eX.1 H).1
 rw[LH e w b g c f A];have D:g<U c:=by rw[w c<|dY f];exact A
 exact⟨_,cT D,k.2.2 g T _ H<|cT D⟩
def TI{S F:aw}{au ck J dP d:Z}{ap:bq}{m:bU (Z×aP)}{b:Y V}(bW:cu P S (c_ F) au ck)(he:gx P F J dP)(aX:jr P F ap)(A:M.op=.buildSlice S d m)(t:u6 p O (a0 m) 0 b)(bu:d=U b)(hlen:∀I∈b,U I.cells=J)(r:d*J<=2^24)(w:0<J):di P p M O (.al J b):=.run λz E N k=>by let⟨i,y,B,n,u⟩:=T6 bW he aX t bu hlen r k;let o:∀(c:Z) e,(aO i)[c]?=W e->gE e:=λc e h=>n e<|dY (by simpa using h);let⟨s,l⟩:=k.cO.ars (xe:=_) (F:=F) (ar:=(0,0)) o (World.grownBy_alloc E _ ai) (bv _)<|heap_alloc_new E _;refine⟨eY (W ⟨a9 E.heap,0,ai⟩) d d,_,_,l,?_,s,by grind[c5,Sem.run_bind,Result.andThen_ok,Sem.run_pure]⟩;subst bu;refine .al J b _ 0 _ (λc f=>(i[c*J+f]?).getD undef) (bv _) ?_ (λc I g=>hlen I<|dY g) ?_ ?_;have:U b<=U b*J:=J5 _ w;grind[ja];grind[bf.rx];intro c f I T g x;let⟨e,h,v⟩:=u c f I T g x;simp[h];exact v.mono l
def cD.buildSlice{S F:aw}{au ck J dP b:Z}{ap:bq}{o:bU (Z×aP)}{c:Y V}(v:O.guard ops M=W ag)(bW:cu P S (c_ F) au ck)(he:gx P F J dP)(aX:jr P F ap)(G:M.op=.buildSlice S b o)(x:u6 p O (a0 o) 0 c)(bu:b=U c)(hlen:∀I∈c,U I.cells=J)(u:b*J<=2^24)(B:0<J)(s:∀r,cD P p ops H (({O with d:=O.d++[(r,.j 0 J F c)]}:bc).put M.dst (.bH r 0 0 b)) ak):cD P p ops (M::H) O ak:=.mn v λz E N k=>by
 let⟨f,D,K,e,y⟩:=T6 bW he aX x bu hlen u k;let l:N.le (N.fV N.n ⟨W<|a9 E.heap,0,0,U f,J⟩):=bf.jh λL e=>by rw[N.fresh _<|bv _] at e;cases e
 let w:=k.cO.new (lf:=.j 0 J F c) (dr:=⟨W _,0,0,U f,J⟩) (bp ⟨a9 E.heap,aa,bv _⟩) (World.grownBy_alloc E _ _)
  ⟨aa,aa,bp ⟨a9 E.heap,aO f,aa,.of<|heap_alloc_new E _,ao,aq,λh i m=>e i<|dY (by simpa using m),λh I g=>hlen I<|dY g,λh t I T g C=>by let⟨i,m,A⟩:=y h t I T g C;exact⟨i,aq,A.mono l⟩⟩⟩
 refine⟨eY (W ⟨a9 E.heap,0,ai⟩) b b,_,_,.bH N.n 0 0 b,_,l,?_,w,bj (by grind[c5,Sem.run_bind,Result.andThen_ok,Sem.run_pure]),s N.n⟩;let hm:b<=ja:=by have:b<=b*J:=J5 _ B;simp[ja];omega
 exact .bH _ _ _ _ _ _ (N.kg _ _) (bv _) aa λ_=>bp ⟨a9 E.heap,0,b,aa,aa,bv _,hm,bp ⟨ao,aK⟩⟩
def aeZ{P:bn}{S F:aw}{au ck J dP:Z}{ap:bq}{B ju:dd}{g m:Z}{E:bI}(bW:cu P S (c_ F) au ck)(he:gx P F J dP)(aX:jr P F ap)(qM:a9 (dp ap)=J)(I:g<=m)(l:m<=ja)(r:m*dP<=2^48)(n:0<J):∃b:Y bq,U b=m*J/\(∀d c,d<m->c<J->b[d*J+c]?=(a0 (dp ap))[c]?)/\(∀f∈b,gE f)/\ce P (Instr.makeSlice S (cN B g) (cN ju m)) E=ct (eY (W ⟨a9 E.heap,0,ai⟩) g m) (E.alloc (pK (aO b) F)):=by
 let⟨M,A,K,z⟩:=he.Fa;have:U (a0 (dp ap))=J:=by simpa using qM
 let b:Y bq:=iV<|cM m<|a0<|dp ap;have v:U b=m*J:=by rw[Hw (J:=J) _ λf h=>aq];simp
 have w:∀d c,d<m->c<J->b[d*J+c]?=(a0 (dp ap))[c]?:=λd c H s=>
  LH (J:=J) _ (λf h=>aq) d c _ aq s
 have x:∀f∈b,gE f:=by intro f h;simp only[b,ahv] at h;let⟨cc,C,o⟩:=h;rw[zT C] at o;exact kY.1 aX.one f o
 exists b,v,w,x;have D:hf IntKind.i64 g=g:=wG (by simp[ja] at l;grind[oD,IntKind.min,IntKind.max,GF,l7]);have G:hf IntKind.i64 m=m:=wG (by simp[ja] at l;grind[oD,IntKind.min,IntKind.max,GF,l7]);have:¬dP*(m:L)>2^48:=by
  have:((m*dP:Z))<=2^48:=by exact_mod_cast r
  rw[l6] at this
  push_cast at this;omega
 simp[Instr.makeSlice,Sem.run_bind,run_underlying bW.u,Result.andThen_ok,asInt,asIntOf,Sem.run_pure,typeInfo,run_program,A,z,D,G];rw[ad aq];simp[Sem.run_bind,run_askRoom,Result.andThen_ok,he.kw,Gq];have p:∀i,i=dp ap->Array.map (i[·%a9 i]!) (Array.range (m*J))=aO b:=by
  rintro i rfl;apply OS;simp[UY,Array.toList_range];apply jn;intro e;simp[db];by_cases y:e<m*J;have:e=e/J*J+e%J:=by rw[l6];exact bQ<|yj e J
  have:e/J<m:=(Pg n).2 y;have:e%J<J:=rm _ n;grind;simp_all
 by_cases k:m*J=0;rw[af k];have t:b=[]:=l4 q;simp[k,t];simp[newRow,Array.range];rw[ad k];simp[Sem.run_bind,aX.run,Result.andThen_ok,Sem.run_pure,p (dp ap) aa];rfl
def cD.makeSlice{S F:aw}{au ck J dP:Z}{ap:bq}{T w:aP}{B ju:dd}{b m:Z}{A f:L}(Q:O.guard ops M=W ag)(bW:cu P S (c_ F) au ck)(he:gx P F J dP)(aX:jr P F ap)(qM:a9 (dp ap)=J)(az:M.op=.makeSlice S T w)(i:O.val p T=W (.int B A))(X:A=(b:L))(ar:O.val p w=W (.int ju f))(o:f=(m:L))(v:b<=m)(u:m<=ja)(G:m*dP<=2^48)(aq:0<J)(s:∀C,cD P p ops H (({O with d:=O.d++[(C,.j 0 J F<|cM b<|V.zero ap)]}:bc).put M.dst (.bH C 0 0 b)) ak):cD P p ops (M::H) O ak:=.mn Q λz E N k=>by
 subst X;subst o;have c:=k.val i;have l:=k.val ar;generalize aB:b1 z T=cc at c;generalize x:b1 z w=D at l;cases c;cases l;have r:=pN.zero aX N;have y:U (a0 (dp ap))=J:=by simpa using qM
 obtain⟨g,ax,ay,am,aA⟩:=aeZ (B:=B) (ju:=ju) (E:=E) bW he aX qM v u G aq;have t:N.le (N.fV N.n ⟨W (a9 E.heap),0,0,U g,J⟩):=bf.jh λaC c=>by rw[N.fresh _<|bv _] at c;cases c
 have av:(V.zero ap).cells.length=J:=by rw[<-r.1,y]
 have R:=k.cO.new (lf:=.j 0 J F<|cM b<|V.zero ap) (dr:=⟨W<|a9 E.heap,0,0,U g,J⟩) (bO:=E.alloc<|pK (aO g) F) (bp ⟨a9 E.heap,aa,bv _⟩) (World.grownBy_alloc E _ ai)
  ⟨aa,aa,bp ⟨a9 E.heap,aO g,aa,.of<|heap_alloc_new E _,ao,by simp_all[jo],λf D x=>am D<|dY (by simpa using x),λf I e=>aK,λf h I T e i=>by
   rw[zX] at e;split at e<;>simp at e;rename_i o;subst e;have K:h<J:=by rw[<-av];exact(eX.1 i).1
   have Y:h<U (a0 (dp ap)):=by rw[y];exact K
   refine⟨(a0<|dp ap)[h],?_,(r.2.2 h T _ i<|cT Y).mono t⟩;grind⟩⟩
 refine⟨eY (W ⟨a9 E.heap,0,ai⟩) b m,_,_,.bH N.n 0 0 b,_,t,?_,R,bj (by grind[c5,Sem.run_bind,Result.andThen_ok,Sem.run_pure]),s N.n⟩;exact .bH _ _ _ _ _ _ (N.kg _ _) (bv _) aa λ_=>bp ⟨a9 E.heap,0,m,aa,aa,v,u,bp ⟨ao,aK⟩⟩
structure jP(P:bn)(p:bJ)(O:bc)(T:aP)(cR:aw)(J m:Z)(mm:Y V):Prop where
 len:U mm=m
 cells:∀I∈mm,U I.cells=J
 Iq:kD P cR=W k1\/∃F,kD P cR=W (c_ F)
 run:∀z E N,a_ p O z E N->∃pU:Y bq,U pU=m*J/\(∀aE∈pU,gE aE)/\ce P (Cb (b1 z T)) E=ct m E/\(∀bO,bO.heap=E.heap->ce P (uq J m (b1 z T)) bO=ct (aO pU) bO)/\∀(cs n:Z)(I w:V),mm[cs]?=W I->I.cells[n]?=W w->∃aE,pU[cs*J+n]?=W aE/\bk N w aE
def Qk{E bO:bI}(s:bO.heap=E.heap)z:ho bO z=ho E z:=by grind[ho]
def jP.al{T:aP}{cR F:aw}{au ck J:Z}{c:Y V}(bW:cu P cR (c_ F) au ck)(M:O.val p T=W (.al J c))(k:∀I∈c,U I.cells=J):jP P p O T cR J (U c) c:=by
 refine⟨aa,k,bp ⟨_,bW.u⟩,λz E N t=>?_⟩;have i:=t.val M;generalize b1 z T=f at i;cases i with
 |slnil=>simp[Cb,uq]|zz J R=>simp[Cb,run_firstCells_some]|al _ _ Q base cap val X ak K S am=>
  let h:Y bq:=iV<|c.zipIdx.map λn=>ab (val n.2)<|bM J;have B:∀f∈c.zipIdx.map λn=>ab (val n.2)<|bM J,U f=J:=by intro f m;simp only[dI] at m;obtain⟨n,_,rfl⟩:=m;simp
  have o:U h=U c*J:=by rw[Hw _ B];simp
  have G:∀b e,b<U c->e<J->h[b*J+e]?=W (val b e):=λb e g k=>by rw[LH _ B b e (ab (val b)<|bM J) aK k];grind
  have C:∀b e,b<U c->e<J->N.I Q (base+b*J+e)=W (val b e):=λb e g k=>by have D:=K b _<|cT g;grind
  have v:∀d f,h[d]?=W f->N.I Q (base+d)=W f:=by
   intro d f l;have H:d<U c*J:=by rw[<-o];exact(eX.1 l).1
   have A:0<J:=by rcases nF J with s|s;simp_all;exact s
   have y:d=d/J*J+d%J:=by rw[l6];exact bQ<|yj d J
   have g:d/J<U c:=(Pg A).2 H;have x:d%J<J:=rm _ A;have i:=G _ _ g x;rw[<-y,l] at i;cases i;have r:=C _ _ g x;rw[z1,<-y] at r;exact r
  refine⟨h,o,λf m=>?_,ba,λbO L=>?_,λb e I w D ap=>?_⟩;let⟨d,l⟩:=rl.1 m;exact N.one _ _ _<|v d f l;refine run_firstCells_some (P:=P) bO J (U c) ⟨Q,base,ai⟩ (U c) cap h o λb f g=>?_;rw[Addr.add_lit,Qk L];exact t.cO.jT _ _ _<|v b f g;grind
theorem jP.nil{T:aP}{cR F:aw}{au ck J:Z}(bW:cu P cR (c_ F) au ck)(d:O.val p T=W .bo):jP P p O T cR J 0 []:=by refine⟨aa,ao,bp ⟨_,bW.u⟩,λz E N c=>?_⟩;have b:=c.val d;generalize b1 z T=e at b;cases b;simp[Cb,uq]
def bF(Q:C):V:=.int ez<|ax Q
def jP.str{T:aP}{cR:aw}{au ck:Z}{b:Y C}(bW:cu P cR k1 au ck)(h:O.val p T=W (.str b)):jP P p O T cR 1 (U b) (ab bF b):=by
 refine⟨ao,by simp[bF,V.cells],bj bW.u,λz E N g=>?_⟩;have e:=g.val h;generalize b1 z T=l at e;cases e;refine⟨b.map λQ=>cN ez<|ax Q,ao,by simp[gE],ba,λbO _=>?_,λk d I w f c=>?_⟩;simp[uq,Sem.run_pure,Lib.extract_eq];simp at f;obtain⟨Q,i,rfl⟩:=f;simp[bF,V.cells] at c;cases d;simp at c;subst c;exact⟨cN ez _,aK,.int _ _⟩
 next d=>simp_all
def jP.bH{T:aP}{cR F:aw}{au ck:Z}{id aS c b B J:Z}{D:aw}{hE:Y V}(bW:cu P cR (c_ F) au ck)(aD:O.val p T=W (.bH id aS c b))(ap:O.d[B]?=W (id,.j aS J D hE))(X:c+b<=U hE)(x:∀I∈hE,U I.cells=J):jP P p O T cR J b (am b (ay c hE)):=by
 refine⟨aK,λI h=>x I<|D6<|pE h,bp ⟨_,bW.u⟩,λz E N H=>?_⟩;let⟨e,aM,az,s⟩:=H.bH aD ap;rcases s with⟨_,rfl,i⟩|⟨Q,aE,cap,K,i,aN,aI,l⟩;simp_all[Cb,uq];obtain⟨_,o,⟨aH,_⟩|⟨aF,v,y,R,aX,S,aG,aL,ax⟩⟩:=az;simp_all;rw[K] at y;cases y;by_cases G:b=0;subst G;exact⟨[],ao,ao,by simp[i,Cb],λbO _=>by simp[i,uq,loadCells,loadCellsFrom],ao⟩;let L:aE=e.base+c*e.s/\e.base+(c+cap)*e.s<=e.size:=by rcases l with l|l;omega;exact l
 obtain⟨rfl,M⟩:=L;rw[o] at S M;let aq:(c+b)*J<=U hE*J:=jo _ X;rw[hZ] at aq;let g:Y bq:=am (b*J)<|ay (e.base+c*J)<|a0 v;let n:U g=b*J:=by simp[g,nD,B2,wI,aX];omega
 let A:∀r<b*J,g[r]?=v[e.base+c*J+r]?:=λr av=>by simp[g,m8,af av,sg,wH]
 refine⟨g,n,λt i=>?_,by simp[i,Cb],λbO aC=>?_,λf m I w h C=>?_⟩;grind[List.mem_iff_getElem?,List.getElem?_eq_some_iff];rw[i];refine run_firstCells_some (P:=P) bO J b ⟨Q,e.base+c*e.s,ai⟩ b cap g n λf t k=>?_;have ak:f<b*J:=by rw[<-n];exact(eX.1 k).1
 rw[Addr.add_lit,Qk aC,R.cell,o,<-A f ak];exact k;let k:f<b:=by have:=(eX.1 h).1;simp at this;omega
 rw[m8,af k,sg] at h;let aJ:m<J:=by rw[<-x I (dY h)];exact(eX.1 C).1
 let⟨t,aA,aB⟩:=ax (c+f) m I w h C;let ar:f*J+m<b*J:=by have:(f+1)*J<=b*J:=jo _ k;rw[pH] at this;omega
 refine⟨t,?_,aB⟩;rw[A _ ar,<-aA,o,hZ];congr 1;omega
section gen
variable{S cR eD F:aw}{au ck J dP:Z}{ap:bq}(bW:cu P S (c_ F) au ck)(he:gx P F J dP)(aX:jr P F ap)(qM:a9 (dp ap)=J)
 {E:bI} {w:bq} {m:Z} {news:Y bq} (k_:U news=m*J) (HO:kD P cR=W k1\/∃F,kD P cR=W (c_ F))
 (hlen:ce P (Cb w) E=ct m E) (v0:∀bO,bO.heap=E.heap->ce P (uq J m w) bO=ct (aO news) bO)
include bW he HO hlen
theorem aeT(c:m=0)(v0:ce P (uq J m w) E=ct #[] E):ce P (yq #[S,cR] eD #[eY ai 0 0,w]) E=ct (eY ai 0 0) E:=by subst c;rcases HO with b|⟨d,b⟩<;>simp[yq,run_underlying bW.u,he.kw,run_underlying b,hlen,v0]
theorem avF u c b f d(k:kl E u d F)(l:∀o∈news,gE o)(v0:ce P (uq J m w) E=ct (aO news) E)(h:b+m<=f)(p:news=[]\/c+b*J+U news<=a9 d):ce P (yq #[S,cR] eD #[eY (W ⟨u,c,ai⟩) b f,w]) E=ct (eY (W ⟨u,c,ai⟩) (b+m) f) (if news=[] then E else E.setRow u (aO (am (c+b*J) (a0 d)++news++ay (c+b*J+U news) (a0 d)))):=by by_cases g:news=[];subst g;rcases HO with e|⟨i,e⟩<;>simp[yq,run_underlying bW.u,he.kw,run_underlying e,hlen,v0,h,storeCells];let n:=DB P (c+b*J) news 0 d E k aq l;rcases HO with e|⟨i,e⟩<;>simp[yq,run_underlying bW.u,he.kw,run_underlying e,hlen,v0,h,g,Addr.add_lit,n]
include aX v0 in
omit qM k_ in
theorem avE(T:bq)(f:c6 Addr)(b c:Z)(d:T=eY f b c)(e:Y bq)(r:ce P (uq J b T) E.drew=ct (aO e) E.drew)(p:c<b+m)(h:b+m<=ja)(o:(b+m)*dP<=140737488355328):ce P (yq #[S,cR] eD #[T,w]) E=ct (eY (W ⟨a9 E.heap,0,ai⟩) (b+m) (grownCap E (b+m) c F)) (E.drew.alloc (pK (aO e++aO news++sk (dp ap) (grownCap E (b+m) c F-(b+m))) F)):=by
 let⟨v,k,_,l⟩:=he.Fa;subst d;let bu:=q;let i:¬(9223372036854775807:L)<(b:L)+(m:L):=by simp only[ja] at h;omega
 let g:=by have:=growslice_fits p o;omega
 let n:=v0 E.drew aa;let s:=aX.run E.drew;rcases HO with d|⟨t,d⟩<;>simp[yq,run_underlying bW.u,he.kw,run_underlying d,hlen,typeInfo,k,l,bu,i,g,Question.forced,newRow,s,n,r,grownCap]<;>(grind)
end gen
def QL{S cR F:aw}{au ck J dP:Z}{ap:bq}{T w:aP}{r aS off b B m:Z}{v aH:Y V}(bW:cu P S (c_ F) au ck)(he:gx P F J dP)(aX:jr P F ap)(qM:a9 (dp ap)=J)(b3:M.op=ft {callee:=gP oZ,args:=#[T,w],argTypes:=#[S,cR]})(bb:O.d[B]?=W (r,.j aS J F v))(bL:off+b<=U v)(X:jP P p O w cR J m aH)(a5:b+m<=ja)(bC:(b+m)*dP<=140737488355328):∀z E N,a_ p O z E N->(∃H,N.m r=W H/\k3 N E H (.j aS J F v)/\(H.bR=ai/\b=0/\b1 z T=eY ai 0 0\/∃Q M cap,H.bR=W Q/\b1 z T=eY (W ⟨Q,M,ai⟩) b cap/\b<=cap/\cap<=ja/\(cap=0\/M=H.base+off*H.s/\H.base+(off+cap)*H.s<=H.size)))->∃c bO az bs br,N.le az/\bk az bs c/\Holds p az br bO/\(ce P (c5 (b1 z) M) E=ct (og c) bO\/c=undef/\ce P (c5 (b1 z) M) E=ct .skip bO)/\bs=.bH r (aS+1) 0 (b+m)/\br=aR O.d B (r,.j (aS+1) J F (am b (ay off v)++aH)):=λz E N aY b8=>by
 let⟨f,aQ,b4,b7⟩:=b8;let⟨news,k_,bh,hlen,v0,b0⟩:=X.run z E N aY;let⟨cc,K,a7⟩:=b4;have aN:∀c bO,ce P (yq #[S,cR] M.type #[b1 z T,b1 z w]) E=ct c bO->ce P (c5 (b1 z) M) E=ct (og c) bO:=by intro c bO aF;simp[c5,b3,Sem.run_bind,oi,O_,ia,rk,Sem.run_pure,Result.andThen_ok,oh,o2,aF]
 have be:U (am b (ay off v))=b:=bi;have mk:∀dr bO aG u,dr.s=f.s->dr.aS=aS+1->(dr.bR=f.bR\/∃Q,dr.bR=W Q/\a9 E.heap<=Q)->dr.bR=W aG->kl bO aG u F->a9 u=dr.size->dr.base+(b+m)*J<=dr.size->(∀(e:Z) c,u[e]?=W c->gE c)->(∀e g I T,v[off+e]?=W I->e<b->I.cells[g]?=W T->∃c,u[dr.base+e*J+g]?=W c/\bk N T c)->(∀e g,e<m->g<J->u[dr.base+(b+e)*J+g]?=news[e*J+g]?)->(∀I∈v,U I.cells=J)->E.grownBy bO f.bR->Holds p (N.fV r dr) (aR O.d B (r,.j (aS+1) J F (am b (ay off v)++aH))) bO:=by
  intro dr bO aG u aU L aI bB a1 b9 b_ bu bg bZ R bP;refine aY.cO.pB bb aQ (bQ aU) q (λF=>q) aI bP ⟨L,q,bp ⟨aG,u,bB,a1,b9,?_,bu,?_,?_⟩⟩;rw[cd,be,X.len,aU,K];omega;intro e x k;rw[aU,K];rcases fp.1 (dY k) with hm|hm;grind;exact X.cells x hm;intro e g x ax k C;have bd:N.le (N.fV r dr):=bf.jh λaW l=>aK;rw[aU,K];rw[nB,be] at k;split at k;rename_i i;rw[m8,af i,sg] at k;let⟨c,av,ak⟩:=bg e g x ax k i C;exact⟨c,av,ak.mono bd⟩;rename_i i;have bS:e-b<m:=by rw[<-X.len];exact(eX.1 k).1
  have a3:g<J:=by rw[<-X.cells x (dY k)];exact(eX.1 C).1
  let⟨c,av,ak⟩:=b0 (e-b) g x ax k C;refine⟨c,?_,ak.mono bd⟩;have:=bZ (e-b) g bS a3;simp_all
 have grow:∀base cap(t:Y bq),b1 z T=eY base b cap->cap<b+m->U t=b*J->ce P (uq J b (b1 z T)) E.drew=ct (aO t) E.drew->(∀c∈t,gE c)->(∀e g I T,v[off+e]?=W I->e<b->I.cells[g]?=W T->∃c,t[e*J+g]?=W c/\bk N T c)->(∀I∈v,U I.cells=J)->∃c bO az A bn,N.le az/\bk az A c/\Holds p az bn bO/\(ce P (c5 (b1 z) M) E=ct (og c) bO\/c=undef/\ce P (c5 (b1 z) M) E=ct .skip bO)/\A=.bH r (aS+1) 0 (b+m)/\bn=aR O.d B (r,.j (aS+1) J F (am b (ay off v)++aH)):=by
  intro base cap t o aJ aB bN ca bg R;have y:=avE (eD:=M.type) bW he aX X.Iq hlen v0 (b1 z T) base b cap o t bN aJ a5 bC;have ba:=grownCap_ge E (b+m) cap F;have aL:=grownCap_le_maxLen E (b+m) cap F a5;generalize grownCap E (b+m) cap F=ar at y ba aL;have aD:a9 (sk (dp ap) (ar-(b+m)))=(ar-(b+m))*J:=by rw[size_zeroCells,qM]
  have:∀c∈sk (dp ap) (ar-(b+m)),gE c:=by
   intro c o;simp[sk,Array.mem_map] at o;obtain⟨h,aC,rfl⟩:=o;have:h<(ar-(b+m))*a9 (dp ap):=by simpa using aC
   have b6:0<a9 (dp ap):=by rcases nF (a9 (dp ap)) with s|s;grind;exact s
   rw[yp (dp ap) _<|rm _ b6];exact kY.1 aX.one _<|ag9 _
  let u:bU bq:=aO t++aO news++sk (dp ap) (ar-(b+m));have a3:a9 u=ar*J:=by simp[u,UX,D9,aB,k_,aD,<-hZ];congr 1;omega
  have G:∀h,u[h]?=if h<b*J then t[h]? else if h<b*J+m*J then news[h-b*J]? else(sk (dp ap) (ar-(b+m)))[h-(b*J+m*J)]?:=by intro h;simp[u,Array.getElem?_append,D9,aB,k_,UX,um];split;rfl;grind
  refine⟨_,_,_,.bH r (aS+1) 0<|b+m,_,bf.jh λaW l=>aK,?_,mk ⟨W<|a9 E.heap,0,aS+1,ar*J,J⟩ (E.drew.alloc<|pK u F) (a9 E.heap) u (bQ K) aa (bp ⟨_,aa,bv _⟩) aa (.of<|heap_alloc_new E.drew _) a3 aK ?_ ?_ ?_ R
    ⟨aa,aa,aa,ao,λbm bc _=>by rw[heap_alloc_old E.drew _ bc];rfl⟩,bj<|aN _ _ y,aa,aa⟩
  exact .bH _ _ _ _ _ _ (N.kg _ _) (bv _) aa λ_=>bp ⟨a9 E.heap,0,ar,aa,aa,ba,aL,bp ⟨ao,ao⟩⟩;intro e c o;rw[G] at o;grind;grind;intro e g i n;simp[mC];have l:(e+1)*J<=m*J:=jo _ i;rw[pH] at l;rw[G,hZ,ad q,af q];congr 1;omega
 rcases b7 with⟨aA,rfl,o⟩|⟨Q,lf,cap,aA,o,bT,aL,n⟩
 .have bJ:v=[]:=by rcases a7 with⟨_,s⟩|⟨Q,_,aI,_⟩;exact s;grind
  subst bJ;by_cases hm:m=0;subst hm;have bI:aH=[]:=l4 X.len;subst bI;have aE:news=[]:=l4 q;subst aE;have y:=aeT (eD:=M.type) bW he X.Iq hlen aa<|v0 E aa;rw[<-o] at y;refine⟨_,_,_,.bH r (aS+1) 0 0,_,bf.jh (dr:={f with aS:=aS+1}) λaW l=>aK,?_,aY.cO.pB (lf:=.j (aS+1) J F<|am 0 (ay off [])++[]) (dr:={f with aS:=aS+1}) bb aQ aa aK (λF=>aq) (bj aa) ⟨aa,aa,aa,bv _,λ_ _ _=>aa⟩ ⟨aa,K,bj ⟨aA,ao⟩⟩,bj (aN _ _ y),aa,aa⟩;rw[o];exact .bH _ _ _ _ _ _ (N.kg _ _) (bv _) aa λ_=>bj ⟨aA,aa,aa⟩;exact grow ai 0 [] o q ao (by rw[o];rfl) ao ao ao
 rcases a7 with⟨bx,_⟩|⟨aG,D,aI,aM,aD,bK,l,bG,aF⟩;grind;rw[aA] at aI;cases aI;rw[K] at bK n bG aF;have R:∀I∈v,U I.cells=J:=λI k=>by grind[List.mem_iff_getElem?]
 have bV:(off+b)*J<=U v*J:=jo _ bL;rw[hZ] at bV;by_cases aT:b+m<=cap;have bM:news=[]\/lf+b*J+U news<=a9 D:=by rcases n with n|⟨rfl,n⟩;left;exact l4 (by rw[k_,show m=0 by omega];simp);right;rw[k_,aD];have:(b+m)*J<=cap*J:=jo _ aT;rw[hZ] at this n;omega
 have y:=avF (eD:=M.type) bW he X.Iq hlen Q lf b cap D aM bh (v0 E aa) aT bM;rw[<-o] at y;have bl:∀dr,dr.bR=W Q->dr.base=f.base+off*J->dr.aS=aS+1->dr.size=f.size->dr.s=J->bk (N.fV r dr) (.bH r (aS+1) 0 (b+m)) (eY (W ⟨Q,lf,ai⟩) (b+m) cap):=by
  intro dr l bw bx bz bA;refine .bH _ _ _ _ _ _ (N.kg _ _) q aa λ_=>bp ⟨Q,lf,cap,l,aa,aT,aL,?_⟩;rcases n with n|⟨bD,bE⟩;exact bj n;right;rw[bw,bz,bA];exists by rw[bD];simp
  rw[hZ] at bE;simp;omega
 by_cases aE:news=[];rw[af aE] at y;have:m*J=0:=by rw[<-k_,aE];rfl
 refine⟨_,_,_,.bH r (aS+1) 0<|b+m,_,bf.jh λaW l=>(by rw[aQ] at l;cases l;exact⟨K,by show f.aS<=aS+1;omega,λF=>by exfalso;have:f.aS=aS+1:=F;omega⟩),bl ⟨W Q,f.base+off*J,aS+1,f.size,J⟩ aa aa aa aa aa,mk ⟨W Q,f.base+off*J,aS+1,f.size,J⟩ E Q D (bQ K) aa (bj (bQ aA)) aa aM aD (by dsimp;rw[hZ];omega) l ?_ ?_ R ⟨aa,aa,aa,bv _,λ_ _ _=>aa⟩,bj<|aN _ _ y,aa,aa⟩;intro e g x ax k i C;let⟨c,av,ak⟩:=aF (off+e) g x ax k C;refine⟨c,?_,ak⟩;rw[<-av,hZ];congr 1;dsimp;omega;intro e g i a1;have:(e+1)*J<=m*J:=jo _ i;rw[pH] at this;omega;rw[ad aE] at y;have a2:lf=f.base+off*J/\f.base+(off+cap)*J<=f.size:=by rcases n with n|n;exact cg (l4 (by rw[k_,show m=0 by omega];simp)) aE;exact n
 obtain⟨rfl,aJ⟩:=a2;have b5:(b+m)*J<=cap*J:=jo _ aT;rw[hZ] at b5 aJ;have G:∀h,(aO (am (f.base+off*J+b*J) (a0 D)++news++ay (f.base+off*J+b*J+U news) (a0 D)))[h]?=if h<f.base+off*J+b*J then D[h]? else if h<f.base+off*J+b*J+m*J then news[h-(f.base+off*J+b*J)]? else D[h]?:=by intro h;have bX:U (am (f.base+off*J+b*J) (a0 D))=f.base+off*J+b*J:=bi;simp[um,eS];rw[nB,bX];split;rw[m8,af (by assumption)];simp;rw[nB,k_];split;rw[af q];rw[ad q,sg];simp[wH];congr 1;omega
 refine⟨_,_,_,.bH r (aS+1) 0<|b+m,_,bf.jh λaW l=>(by rw[aQ] at l;cases l;exact⟨K,by show f.aS<=aS+1;omega,λF=>by exfalso;have:f.aS=aS+1:=F;omega⟩),bl ⟨W Q,f.base+off*J,aS+1,f.size,J⟩ aa aa aa aa aa,mk ⟨W Q,f.base+off*J,aS+1,f.size,J⟩ _ Q _ (bQ K) aa (bj (bQ aA)) aa (aM.set (by simp;rw[k_,aD];omega)) ?_ (by dsimp;rw[hZ];omega) ?_ ?_ ?_ R
   ⟨aa,aa,aa,ao,λbm bc bY=>setRow_other E Q bm _ λF=>bY (by rw[aA,F])⟩,bj<|aN _ _ y,aa,aa⟩
 simp[D9,cd,nD,B2,wI];rw[k_,aD];omega;intro e c L;rw[G] at L;split at L;exact l _ _ L;split at L;exact bh c<|dY L;exact l _ _ L;intro e g x ax k i C;let⟨c,av,ak⟩:=aF (off+e) g x ax k C;have:g<J:=by rw[<-R x (dY k)];exact(eX.1 C).1
 have:(e+1)*J<=b*J:=jo _ i;rw[pH] at this;refine⟨c,?_,ak⟩;dsimp;rw[G,af q,<-av,hZ];congr 1;omega;intro e g i a1;have:(e+1)*J<=m*J:=jo _ i;rw[pH] at this;dsimp;rw[hZ,G,ad q,af q];congr 1;omega;by_cases bt:b=0;subst bt;refine grow _ cap [] o q ao (by rw[o];simp[uq,loadCells,loadCellsFrom]) ao (λe g I T _ i=>q) R;have a2:lf=f.base+off*J/\f.base+(off+cap)*J<=f.size:=by rcases n with n|n;omega;exact n
 obtain⟨rfl,aJ⟩:=a2;have:b*J<=cap*J:=jo _ bT;rw[hZ] at aJ;let t:Y bq:=am (b*J)<|ay (f.base+off*J)<|a0 D;have aB:U t=b*J:=by simp[t,nD,B2,wI,aD];omega
 have G:∀h<b*J,t[h]?=D[f.base+off*J+h]?:=λh aC=>by simp[t,m8,af aC,sg,wH]
 refine grow _ cap t o q aB ?_ ?_ ?_ R;rw[o];refine run_firstCells_some (P:=P) E.drew J b ⟨Q,f.base+off*J,ai⟩ b cap t aB λe c i=>?_;have a4:e<b*J:=by rw[<-aB];exact(eX.1 i).1
 rw[G e a4] at i;rw[Addr.add_lit,Qk (E:=E) (bO:=E.drew) aa];rw[aM.cell];exact i;intro c L;let⟨h,aC⟩:=rl.1 L;have a4:h<b*J:=by rw[<-aB];exact(eX.1 aC).1
 rw[G h a4] at aC;exact l _ _ aC;intro e g x ax k i C;let⟨c,av,ak⟩:=aF (off+e) g x ax k C;have:g<J:=by rw[<-R x (dY k)];exact(eX.1 C).1
 have:(e+1)*J<=b*J:=jo _ i;rw[pH] at this;refine⟨c,?_,ak⟩;rw[G _ q,<-av,hZ];congr 1;omega
def Ly{S cR F:aw}{au ck J dP:Z}{ap:bq}{T w:aP}{c e g b B m:Z}{f h:Y V}(bW:cu P S (c_ F) au ck)(he:gx P F J dP)(aX:jr P F ap)(qM:a9 (dp ap)=J)(r:M.op=ft {callee:=gP oZ,args:=#[T,w],argTypes:=#[S,cR]})(t:O.val p T=W (.bH c e g b))(k:O.d[B]?=W (c,.j e J F f))(o:g+b<=U f)(s:jP P p O w cR J m h)(l:b+m<=ja)(n:(b+m)*dP<=140737488355328):eH P p M O (.bH c (e+1) 0 (b+m)) (aR O.d B (c,.j (e+1) J F<|am b (ay g f)++h)):=.of λz E N i=>QL bW he aX qM r k o s l n z E N i<|i.bH t k
end
def g3(P:bn)(i:Y (Z×V))(ar:fM)(k:Y V)(d:bV)(ak:V->bV->Prop):Prop:=∀(N:bf)(c:Y bq)(E:bI)(h:Z->Prop),U c=U k->(∀(f:Z)(T:V)(b:bq),k[f]?=W T->c[f]?=W b->bk N T b)->Holds ⟨E,h,N,ab (·.1) d,i,0⟩ N d E->(∀u T,(u,T)∈i->bk N T (ib<|W ⟨u,0,ai⟩))->ln P ar (aO c) E (λF bO=>∃b A g e,F=lo b/\ak A g/\bk e A b/\Holds ⟨E,h,N,ab (·.1) d,i,0⟩ e g bO)
def eN(P:bn)(i:Y (Z×V))(ar:fM)(b:Y V)(A:V):Prop:=g3 P i ar b [] (·=A/\·=[])
def g3.mono{P:bn}{i:Y (Z×V)}{ar:fM}{c:Y V}{d:bV}{ak b:V->bV->Prop}(s:g3 P i ar c d ak)(m:∀A M,ak A M->b A M):g3 P i ar c d b:=by intro N l E k e f g h;apply iK<|s N l E k e f g h;grind
structure GK(P:bn)(ar:fM)(fn:Func)(n:gw):Prop where
 get:P.funcs[ar]?=W fn
 name:(fn.name== "runtime.NumGoroutine")=ae
 body:fn.body=W n
structure kF(P:bn)(ar:fM):Prop where
 h:(P.funcs[ar]?).map (λfn=>(fn.name== "runtime.NumGoroutine",fn.body.isNone))=W (ae,ae)
def kF.run{P:bn}{ar:fM}(s:kF P ar)args E:ce P (callFunc ar args) E=ct (.enter ar args) E:=by
 have:=s.h;cases b:P.funcs[ar]?;simp_all
 next fn=>simp only[callFunc,Sem.run_bind,run_program,Result.andThen_ok,b];rw[ad aq,ad aK];rfl
section
variable{P:bn}{p:bJ}{ops:bU a7}{M:a7}{H:Y a7}{O:bc}{ak:cS->bc->Prop}
def Holds.perm{N:bf}{d h:bV}{E:bI}(s:Holds p N d E)(f:g7 h d):Holds p N h E:=⟨s.le,s.t,s.nl,s.nr,s.ns,λc e b=>s.own c e<|f.mem_iff.1 b,s.jT,s.lT,λc e b=>s.gd c e<|f.mem_iff.1 b,((f.map _).nodup_iff).2 s.kt,λc e g Q b=>s.ld c e g Q<|f.mem_iff.1 b,λc e k m g l Q b i=>s.inj c e k m g l Q (f.mem_iff.1 b)<|f.mem_iff.1 i⟩
def Holds.drop{N:bf}{d h:bV}{E:bI}(s:Holds p N d E)(f:h.Sublist d):Holds p N h E:=⟨s.le,s.t,s.nl,s.nr,s.ns,λc e b=>s.own c e<|f.subset b,s.jT,s.lT,λc e b=>s.gd c e<|f.subset b,(f.map _).nodup s.kt,λc e g Q b=>s.ld c e g Q<|f.subset b,λc e k m g l Q b i=>s.inj c e k m g l Q (f.subset b)<|f.subset i⟩
def Holds.enter{N:bf}{e n:bV}{E:bI}(s:Holds p N (e++n) E)i u:Holds ⟨E,λQ=>∃id M H,(id,M)∈e/\N.m id=W H/\H.bR=W Q,N,ab (·.1) e,i,u⟩ N e E:=by let g:∀l∈e,l∈e++n:=λl o=>yi _ o;refine⟨bf.le.refl N,⟨aa,aa,aa,bv _,λ_ _ _=>aa⟩,λ_ _ s _=>s,λ_ _ _ s=>bj s,λ_ _ s=>bj s,λc d b=>bj<|dI.2 ⟨_,b,aa⟩,s.jT,s.lT,λc d b=>s.gd c d<|g _ b,?_,λc d h Q b f k=>⟨bp ⟨c,d,h,b,f,k⟩,(s.ld c d h Q (g _ b) f k).2⟩,λc d r v h t Q b f=>s.inj c d r v h t Q (g _ b)<|g _ f⟩;have:=s.kt;grind
def Holds.leave{N K:bf}{x A S:bV}{E bO:bI}{i:Y (Z×V)}{aL:Z}(s:Holds p N (x++A) E)(g:Holds ⟨E,λQ=>∃id M H,(id,M)∈x/\N.m id=W H/\H.bR=W Q,N,ab (·.1) x,i,aL⟩ K S bO):Holds p K (S++A) bO:=by
 let r:∀y∈A,y∈x++A:=λy C=>zY _ C;let ap:∀y∈x,y∈x++A:=λy C=>yi _ C;let ak:=s.kt;rw[dc,vr] at ak;let am:∀id M,(id,M)∈A->id∉ab (·.1) x:=λid M b c=>ak.2.2 id c id (dI.2 ⟨_,b,aa⟩) aa;let hm:∀id M H,(id,M)∈A->N.m id=W H->K.m id=W H:=λid M H b c=>g.nl id H c<|am id M b;let aq:∀id M H Q,(id,M)∈A->N.m id=W H->H.bR=W Q->¬∃id M H,(id,M)∈x/\N.m id=W H/\H.bR=W Q:=by rintro id M H Q b c e ⟨aI,aM,aJ,f,l,v⟩;have:=s.inj id M aI aM H aJ Q (r _ b) (ap _ f) c l e v;subst this;exact am _ _ b<|dI.2 ⟨_,f,aa⟩
 let X:∀id M H Q,(id,M)∈A->N.m id=W H->H.bR=W Q->Q<a9 E.heap:=by intro id M H Q b c e;let⟨k,f,l⟩:=s.gd id M<|r _ b;rw[c] at f;cases f;exact l.yJ e
 let ay:∀id M,(id,M)∈S->id∈ab (·.1) x\/N.m id=ai:=g.own;let aG:∀id∈ab (·.1) x,id∈p.ids\/p.wT.m id=ai:=by intro id b;obtain⟨y,C,rfl⟩:=dI.1 b;exact s.own y.1 y.2<|ap _ C
 let aF:∀Q,(∃id M H,(id,M)∈x/\N.m id=W H/\H.bR=W Q)->a9 p.s7.heap<=Q\/p.FM Q:=by rintro Q ⟨id,M,H,b,c,e⟩;exact(s.ld id M H Q (ap _ b) c e).1
 refine⟨s.le.trans g.le,?_,?_,?_,?_,?_,g.jT,g.lT,?_,?_,?_,?_⟩;refine⟨b0 g.t.os s.t.os,b0 g.t.tape s.t.tape,b0 g.t.output s.t.output,c9 s.t.size g.t.size,λB aw C=>?_⟩;rw[g.t.block B (jZ aw s.t.size) (λaH=>by grind)];exact s.t.block B aw C;intro id H b c;let e:=s.nl id H b c;exact g.nl id H e (λaH=>by grind);intro Q d G b;rcases g.nr Q d G b with c|c|c;exact s.nr Q d G c;exact bp<|bj<|c9 s.t.size c;grind;intro Q T b;rcases g.ns Q T b with c|c|c;exact s.ns Q T c;exact bp<|bj<|c9 s.t.size c;grind;intro id d b;rcases fp.1 b with b|b;rcases ay id d b with c|c;exact aG id c;cases aB:p.wT.m id;exact bp aa
 next aP=>let⟨k,e,_⟩:=s.le.m _ _ aB;rw[c] at e;cases e
 exact s.own id d<|r _ b;intro id d b;rcases fp.1 b with b|b;exact g.gd id d b;let⟨k,c,e⟩:=s.gd id d<|r _ b;exact⟨k,hm id d k b c,e.mono g.le λQ R=>g.t.block Q (X id d k Q b c R)<|aq id d k Q b c R⟩;rw[dc,vr];refine⟨g.kt,ak.2.1,λz aE Q R F=>?_⟩;subst F;obtain⟨y,C,rfl⟩:=dI.1 aE;let⟨U,az,aA⟩:=dI.1 R;rcases ay y.1 y.2 C with c|c;exact am U.1 U.2 az (by rw[aA];exact c);let⟨k,e,_⟩:=s.gd U.1 U.2<|r _ az;rw[aA,c] at e;cases e;intro id d k Q b c e;rcases fp.1 b with b|b;let⟨f,l⟩:=g.ld id d k Q b c e;refine⟨?_,l⟩;rcases f with f|f;exact bj<|c9 s.t.size f;exact aF Q f;let⟨u,f,_⟩:=s.gd id d<|r _ b;let l:=hm id d u b f;rw[c] at l;cases l;let⟨v,D,P⟩:=s.ld id d k Q (r _ b) f e;let aN:=X id d k Q b f e;let ax:=aq id d k Q b f e;refine⟨v,λB=>?_,?_⟩;cases aC:K.I Q B;rfl
 next G=>rcases g.nr Q B G aC with h|h|h;change N.I Q B=W G at h;rw[D B] at h;cases h;change a9 E.heap<=Q at h;omega;exact cg h ax
 cases aD:K.J Q;rfl
 next G=>rcases g.ns Q G aD with h|h|h;change N.J Q=W G at h;rw[P] at h;cases h;change a9 E.heap<=Q at h;omega;exact cg h ax
 let au:∀w d n o k u Q,(w,d)∈S->(n,o)∈A->K.m w=W k->K.m n=W u->k.bR=W Q->u.bR=W Q->hP:=by intro w d n o k u Q b c e f l v;let⟨ar,D,_⟩:=s.gd n o<|r _ c;let P:=hm n o ar c D;rw[f] at P;cases P;rcases(g.ld w d k Q b e l).1 with h|h;have:=X n o u Q c D v;change a9 E.heap<=Q at h;omega;exact aq n o u Q c D v h
 intro w d n o k u Q b c e f l v;rcases fp.1 b with L|L<;>rcases fp.1 c with O|O;exact g.inj w d n o k u Q L O e f l v;exact(au w d n o k u Q L O e f l v).elim;exact(au n o w d u k Q O L f e v l).elim;let⟨ar,D,_⟩:=s.gd w d<|r _ L;let⟨aK,P,_⟩:=s.gd n o<|r _ O;let h:=hm w d ar L D;let av:=hm n o aK O P;rw[e] at h;cases h;rw[f] at av;cases av;exact s.inj w d n o k u Q (r _ L) (r _ O) D P l v
def pc(p:bJ)(O:bc):Y aP->Y V->Prop|[],c=>c=[]|T::A,I::b=>O.val p T=W I/\pc p O A b|_::_,[]=>hP
def pc.get{c:Y aP}{b:Y V}(s:pc p O c b):U c=U b/\∀(e:Z)(T:V),b[e]?=W T->∃d,c[e]?=W d/\O.val p d=W T:=by
 induction c generalizing b with
 |nil=>grind[pc]|cons d A h=>cases b with|nil=>trivial|cons I b=>let⟨f,g⟩:=s;grind
def tj(P:bn)(p:bJ)(M:a7)(O:bc)(e:V->bV->Prop):Prop:=∀z E N,a_ p O z E N->∀(c:fI->bI->Prop)(f:cS->fI->bI->Prop),(∀A aD d bO b,e A aD->N.le b->bk b A d->Holds p b aD bO->c (z.put M.dst d) bO)->M.wp P z E c f
def Xa{ar:fM}{g:aP}{args:bU aP}{r:bU aw}{first f h:Y V}(G:M.op=ft {callee:=qr g,args:=args,argTypes:=r})(y:kF P ar)(C:O.val p g=W (.func (c1 ar) first f))(v:pc p O (a0 args) h){z:fI}{E:bI}{N:bf}(l:a_ p O z E N){k:fI->bI->Prop}{o:cS->fI->bI->Prop}(s:∀d:Y bq,U d=U (first++h++f)->(∀(i:Z) T b,(first++h++f)[i]?=W T->d[i]?=W b->bk N T b)->ln P ar (aO d) E (λF bO=>∃b,F=lo b/\k (z.put M.dst b) bO)):M.wp P z E k o:=by
 have m:=l.val C;generalize A:b1 z g=b at m;cases m with
 |func _ _ _ d n D J K L=>
  let⟨x,w⟩:=v.get;unfold Oper.wp;have B:ce P (c5 (b1 z) M) E=ct (.enter ar (aO (d++ab (b1 z) (a0 args)++n))) E:=by simp only[c5,G,Sem.run_bind,oi,Deferred.ofValue,A,Sem.run_pure,Result.andThen_ok,oh,y.run];simp
  rw[B];refine iK (s (d++ab (b1 z) (a0 args)++n) aq ?_) ?_;intro i T b e c;rw[nB,nB] at e c;simp only[cd,bm,<-D,x] at e c;split at e;rename_i t;rw[af t] at c;split at e;grind;rename_i u;rw[ad u] at c;let⟨Q,H,I⟩:=w _ T e;rw[db,H] at c;simp at c;subst c;exact l.val I;grind;rintro F bO ⟨b,rfl,s⟩;exact s
def tj.call{ar:fM}{g:aP}{args:bU aP}{n:bU aw}{first f h:Y V}{pass rest:bV}{e:V->bV->Prop}{uv:V->bV->Prop}(x:M.op=ft {callee:=qr g,args:=args,argTypes:=n})(t:kF P ar)(v:O.val p g=W (.func (c1 ar) first f))(s:pc p O (a0 args) h)(k:g7 (pass++rest) O.d)(y:g3 P p.G ar (first++h++f) pass e)(o:∀A c,e A c->∃aD,g7 aD (c++rest)/\uv A aD):tj P p M O uv:=λz E N b J K r=>Xa x t v s b λI w D=>iK (y N I E _ w D ((b.cO.perm k).enter p.G 0) b.gR) λF bO ⟨l,A,c,m,he,C,H,i⟩=>
 let⟨aD,B,u⟩:=o A c C
 ⟨l,he,r A aD l bO m u i.le H<|((b.cO.perm k).leave i).perm B⟩
def cD.call{ar:fM}{h:aP}{args:bU aP}{m:bU aw}{first g i:Y V}{pass rest:bV}{c:V->bV->Prop}(w:O.guard ops M=W ag)(B:M.op=ft {callee:=qr h,args:=args,argTypes:=m})(o:kF P ar)(v:O.val p h=W (.func (c1 ar) first g))(n:pc p O (a0 args) i)(F:g7 (pass++rest) O.d)(C:g3 P p.G ar (first++i++g) pass c)(s:∀A k,c A k->cD P p ops H (({O with d:=k++rest}:bc).put M.dst A) ak):cD P p ops (M::H) O ak:=by intro r z E N e;let⟨t,u⟩:=EO r;unfold wpList;rw[af<|e.wanted w];refine bj<|tj.call (uv:=λA aD=>∃b,c A b/\aD=b++rest) B o v n F C (λA b f=>⟨_,gF _,b,f,aa⟩) z E N e _ _ ?_;rintro A _ I bO l ⟨b,f,rfl⟩ y D x;exact s A b f u _ _ l<|e.put y x D t
def at7{ar:fM}{c:aP}{args:bU aP}{k:bU aw}{first b e:Y V}{A:V}(v:M.op=ft {callee:=qr c,args:=args,argTypes:=k})(t:kF P ar)(u:O.val p c=W (.func (c1 ar) first b))(s:pc p O (a0 args) e)(w:eN P p.G ar (first++e++b) A):di P p M O A:=λz E N r h i o=>
 tj.call (pass:=[]) (rest:=O.d) (uv:=λf aD=>f=A/\aD=O.d) v t u s (gF _) w (by rintro A M ⟨rfl,rfl⟩;exists _,gF _,aa) z E N r h i (by rintro f aD x bO g ⟨rfl,rfl⟩ l m n;exact o x bO g l m n)
def pb:Z->Y V->Y (Z×V)|_,[]=>[]|b,T::A=>(b,T)::pb (b+1) A
def WE:∀c b S T,cX S (pb b c)=W T->b<=S/\c[S-b]?=W T|[],_,_,_,s=>cf|w::A,b,S,T,s=>by simp[pb,rj] at s;split at s;simp_all;cases WE A _ S T s;grind
def x0(O:bc):Y hn->Y V->Prop|[],b=>b=[]|.tmp S::A,T::d=>cX S O.c=W T/\x0 O A d|_,_=>hP
def eR:Y V->V|[T]=>T|H=>.tuple H
def Kv(e:Y hn)(c:V->bV->Prop):cS->bc->Prop:=λF O=>(F=.ret\/F=fY)/\∃b,x0 O e b/\c (eR b) O.d
def t_(b:bU bq):hn->Sem bq|.tmp S=>Pure.pure (b.getD S undef)|.cell Q S=>do loadVar S (<-asAddr (b.getD Q undef))
def avk c d:results c d=(do
  let b<-c.results.mapM (t_ d)
  Pure.pure (if s:a9 b=1 then b[0] else o1 b)):=by rfl
def x0.run{O:bc}{z:fI}{E:bI}{N:bf}(s:a_ p O z E N):∀{jl:Y hn}{e:Y V},x0 O jl e->∃d,U d=U e/\ce P (jl.mapM (t_ z.tmps)) E=ct d E/\∀(g:Z) T f,e[g]?=W T->d[g]?=W f->bk N T f|[],e,b=>by simp[x0] at b;simp_all|.tmp S::A,T::r,b=>by let⟨d,h,i,k⟩:=x0.run s b.2;let⟨f,n,l⟩:=s.c S T b.1;refine⟨f::d,aK,?_,λg w cc o m=>?_⟩;simp_all[t_,BZ];grind|.tmp S::A,[],b=>cf|.cell _ _::A,_,b=>cf
def adj:Y bq->bq|[cc]=>cc|b=>o1<|aO b
def g3.acC{i:Y (Z×V)}{ar:fM}{e:Func}{x:gw}{l:Y hn}{xs:Y V}{d:bV}{v:V->bV->Prop}{u:Z}(C:GK P ar e x)(bu:e.ntmps=u)(av:U xs<=u)(ak:a0 e.results=l)(s:∀p,p.G=i->p.n=u->∀z E N,a_ p ⟨pb 0 xs,d⟩ z E N->x.wp P (λF k bO=>(F=.ret\/F=fY)/\k.defers=[]/\∃(c:Y bq)(f:Y V)(aD:bV)(g:bf),U c=U f/\ce P (l.mapM<|t_ k.tmps) bO=ct c bO/\(∀(D:Z) T o,f[D]?=W T->c[D]?=W o->bk g T o)/\Holds p g aD bO/\v (eR f) aD) z E):g3 P i ar xs d v:=by
 intro N m E au M R b L;refine calls_of_wp C.get C.body ?_;subst bu;let I:a_ ⟨E,au,N,ab (·.1) d,i,e.ntmps⟩ ⟨pb 0 xs,d⟩ {tmps:=aO m++td (e.ntmps-a9 (aO m)) undef,defers:=[]} E N:=by
  refine⟨⟨b.le,⟨b.t.os,b.t.tape,b.t.output,b.t.size,b.t.block⟩,b.nl,b.nr,b.ns,b.own,b.jT,b.lT,b.gd,b.kt,b.ld,b.inj⟩,λS T ap=>?_,L,aq,aa⟩;let⟨_,h⟩:=WE xs 0 S T ap;let O:S<U m:=by rw[M];exact(eX.1 h).1
  refine⟨m[S],?_,R S T _ h<|cT O⟩;rw[Array.getElem?_append_left q];simp
 refine Code.wp_mono ?_<|s _ aa aa _ E N I;rintro F k bO ⟨he,K,c,f,aD,g,h,H,y,B,Q⟩;let am:ce P (results e k.tmps) bO=ct (adj c) bO:=by
  rw[avk,<-ahc (xs:=e.results),ak];let hm:∀(r:hn->Sem bq),(aO l).mapM r=Functor.map aO (l.mapM r):=λr=>ao;simp only[Sem.run_bind];rw[hm];simp[Sem.run_map,H,Sem.run_pure]
  match c with|[]=>rfl|[cc]=>rfl|cc::o::A=>rfl
 let X:bk g (eR f) (adj c):=by
  match c,f,h with|[],[],_=>exact .tuple [] [] aa ao|[cc],[T],_=>exact y 0 T cc aa aa|cc::o::A,T::w::J,h=>exact .tuple _ _ q y
 rcases he with rfl|rfl<;>exact⟨K,_,am,_,_,_,g,aa,Q,X,⟨B.le,⟨B.t.os,B.t.tape,B.t.output,B.t.size,B.t.block⟩,B.nl,B.nr,B.ns,B.own,B.jT,B.lT,B.gd,B.kt,B.ld,B.inj⟩⟩
def g3.acD{i:Y (Z×V)}{ar:fM}{b:Func}{n:gw}{g:Y hn}{e:Y V}{d:bV}{f:V->bV->Prop}{R:Z}(t:GK P ar b n)(bu:b.ntmps=R)(w:U e<=R)(u:a0 b.results=g)(s:∀p,p.G=i->p.n=R->e3 P p n ⟨pb 0 e,d⟩ (Kv g f)):g3 P i ar e d f:=.acC t bu w u λp o bu z E N r=>by refine Code.wp_mono ?_<|s p o bu _ E N r;rintro F A bO ⟨g1,h,⟨he,x,v,B⟩,c⟩;let⟨y,k,l,m⟩:=x0.run (P:=P) c v;exists he,c.defers,y,x,_,h,k,l,m,c.cO
inductive fS(dq:V->V->Prop):V->V->Prop
|refl (T:V):fS dq T T|base (T w:V) (s:dq T w):fS dq T w|agg (xs aC:Y V) (bl:U xs=U aC) (s:∀(D:Z)(T w:V),xs[D]?=W T->aC[D]?=W w->fS dq T w):fS dq (.agg xs) (.agg aC)|vec (R:Z) (z:fZ) (xs aC:Y V) (bl:U xs=U aC) (s:∀(D:Z)(T w:V),xs[D]?=W T->aC[D]?=W w->fS dq T w):fS dq (.vec R z xs) (.vec R z aC)|tuple (xs aC:Y V) (bl:U xs=U aC) (s:∀(D:Z)(T w:V),xs[D]?=W T->aC[D]?=W w->fS dq T w):fS dq (.tuple xs) (.tuple aC)|func (fn:Fn) (xs aC sd zN:Y V) (bl:U xs=U aC) (s:∀(D:Z)(T w:V),xs[D]?=W T->aC[D]?=W w->fS dq T w) (aow:U sd=U zN) (hG:∀(D:Z)(T w:V),sd[D]?=W T->zN[D]?=W w->fS dq T w):
 fS dq (.func fn xs sd) (.func fn aC zN)
inductive tk(id aS J:Z)(hE:Y V):V->V->Prop|bH (off len:Z) (s:off+len<=U hE):tk id aS J hE (.bH id aS off len) (.al J (am len (ay off hE)))|own (D n:Z):D<U hE->tk id aS J hE (.own id aS D n) (.ref J hE D n)
def wZ(dq:V->V->Prop):Prop:=∀T w,dq T w->T.cells=[T]/\w.cells=[w]
theorem fS.cells{dq:V->V->Prop}(m:wZ dq){T w:V}(s:fS dq T w):U T.cells=U w.cells/\∀(d:Z) z Q,T.cells[d]?=W z->w.cells[d]?=W Q->fS dq z Q:=by cases s with|refl T=>exact⟨aa,λd z Q c b=>by rw[c] at b;cases b;exact .refl _⟩|base T w s=>let⟨c,b⟩:=m _ _ s;exact⟨aq,λd z Q i k=>by rw[c] at i;rw[b] at k;cases d<;>simp at i k;subst i;subst k;exact .base _ _ s⟩|agg e f g s=>trivial|vec t z e f g s=>refine⟨by show U (z.cells++e)=U (z.cells++f);grind,λd T w c b=>?_⟩;change (z.cells++e)[d]?=W T at c;change (z.cells++f)[d]?=W w at b;by_cases n:d<U z.cells;rw[rh n] at c b;rw[c] at b;cases b;exact .refl _;grind|tuple e f g s=>exact⟨aa,λh z Q c b=>by cases h<;>simp[V.cells] at c b;subst c;subst b;exact .tuple e f g s⟩|func fn e f p r g s o l=>exact⟨aa,λh z Q c b=>by cases h<;>simp[V.cells] at c b;subst c;subst b;exact .func fn e f p r g s o l⟩
inductive cY(dq:V->V->Prop):bV->bV->Prop
|nil:cY dq [] []|same {H dr:bV} (G:Z×cB):cY dq H dr->cY dq (G::H) (G::dr)|j {H dr:bV} (D aE ap:Z) (F:aw) (xs aC:Y V) (bl:U xs=U aC) (s:∀(cs:Z)(T w:V),xs[cs]?=W T->aC[cs]?=W w->fS dq T w):
 cY dq H dr->cY dq ((D,.j aE ap F xs)::H) ((D,.j aE ap F aC)::dr)|map {H dr:bV} (D aE clock:Z) (xs aC:Y (V×V×Z)) (bl:U xs=U aC) (s:∀(cs:Z)(T w:V×V×Z),xs[cs]?=W T->aC[cs]?=W w->T.1=w.1/\T.2.2=w.2.2/\fS dq T.2.1 w.2.1):
 cY dq H dr->cY dq ((D,.map aE xs clock)::H) ((D,.map aE aC clock)::dr)
def cY.F1{dq:V->V->Prop}{H d:bV}{b c ap:Z}{F:aw}{T w:V}(s:fS dq T w)(e:cY dq H d):cY dq ((b,.j c ap F [T])::H) ((b,.j c ap F [w])::d):=.j b c ap F _ _ aa (λh z Q f g=>aK) e
def cY.names{dq:V->V->Prop}{H c:bV}(s:cY dq H c):ab (·.1) c=ab (·.1) H:=by
 induction s
 rfl
 next h _ b=>grind
 next d e ap F f g _ _ _ b=>grind
 next d e clock f g _ _ _ b=>grind
theorem fS.gU{dq:V->V->Prop}{N:bf}(u:∀T w,dq T w->∀b,bk N T b->bk N w b){T w:V}(s:fS dq T w):∀b,bk N T b->bk N w b:=by
 induction s
 next T=>simp
 next T w s=>grind
 next n e k _ m=>intro b c;cases c with|agg _ d l i o=>refine .agg e d q i λh w cc g f=>?_;grind
 next p z n e k _ m=>intro b c;cases c with|vec _ _ _ d bu l i o=>refine .vec p z e d bu aq i λh w cc g f=>?_;grind
 next n e k _ m=>
  intro b c;cases c
  next _ d l o=>refine .tuple e d q λh w cc g f=>?_;grind
 next fn n e C t k _ l _ m B=>intro b c;cases c with|func _ _ _ r d v x y A=>refine .func fn e t r d q q (λh w cc g f=>?_) λh w cc g f=>?_;grind;grind
def cY.gd{dq:V->V->Prop}{N:bf}{E:bI}(v:∀T w,dq T w->∀f,bk N T f->bk N w f)(y:wZ dq){H B:bV}(s:cY dq H B){A:Z}{C:cB}(c:(A,C)∈B):∃M,(A,M)∈H/\∀n,k3 N E n M->k3 N E n C:=by
 induction s
 cases c
 next aw _ z=>grind
 next au f ap F k D m u _ z=>
  rcases fH.1 c with c|c;cases c;refine⟨_,ki,λn s=>?_⟩;let⟨p,r,l⟩:=s;exists p,r;rcases l with⟨l,e⟩|⟨Q,G,e,t,L,av,O,P,K⟩;grind;refine bp ⟨Q,G,e,t,L,aq,O,λb I h=>?_,λb o I T h d=>?_⟩;let i:b<U k:=by rw[m];exact(eX.1 h).1
  rw[<-((u b _ I (cT i) h).cells y).1];exact P b _<|cT i;let i:b<U k:=by rw[m];exact(eX.1 h).1
  let⟨Y,ak⟩:=(u b _ I (cT i) h).cells y;let x:o<k[b].cells.length:=by rw[Y];exact(eX.1 d).1
  let⟨f,am,ar⟩:=K b o _ _ (cT i)<|cT x;exact⟨f,am,(ak o _ T (cT x) d).gU v f ar⟩;grind
 next au f clock k D m u _ z=>
  rcases fH.1 c with c|c;cases c;refine⟨_,ki,λn s=>?_⟩;let⟨p,Q,J,r,l,e,t⟩:=s;let get:∀(b:Z) w,D[b]?=W w->∃T,k[b]?=W T/\T.1=w.1/\T.2.2=w.2.2/\fS dq T.2.1 w.2.1:=λb w g=>by grind
  refine⟨p,Q,J,r,l,⟨by rw[<-m];exact e.len,λb w F g he=>?_,λb w F g he=>?_,λb w F g he=>?_⟩,t⟩;let⟨T,d,R,_,_⟩:=get b w g;rw[<-R];exact e.key b T F d he;let⟨T,d,_,_,X⟩:=get b w g;exact X.gU v _<|e.val b T F d he;let⟨T,d,_,S,_⟩:=get b w g;rw[<-S];exact e.born b T F d he;grind
def a_.rD{z:fI}{E:bI}{N i:bf}(s:a_ p O z E N){dq:V->V->Prop}{aD S_:bV}{y:Y (Z×V)}(x:N.le i)(b:Holds p i aD E)(g:∀T w,dq T w->∀l,bk i T l->bk i w l)(k:wZ dq)(B:∀S w,cX S y=W w->∃T,cX S O.c=W T/\fS dq T w)(h:cY dq aD S_):a_ p ⟨y,S_⟩ z E i:=by refine⟨⟨b.le,b.t,b.nl,b.nr,b.ns,?_,b.jT,b.lT,?_,?_,?_,?_⟩,?_,λu T n=>(s.gR u T n).mono x,s.size,s.defers⟩;intro f o d;let⟨M,e,_⟩:=h.gd (E:=E) g k d;exact b.own f M e;intro f o d;let⟨M,e,r⟩:=h.gd (E:=E) g k d;let⟨m,v,H⟩:=b.gd f M e;simp_all;rw[h.names];exact b.kt;intro f o m Q d;let⟨M,e,_⟩:=h.gd (E:=E) g k d;exact b.ld f M m Q e;intro f o D I m F Q d e;let⟨M,r,_⟩:=h.gd (E:=E) g k d;let⟨G,v,_⟩:=h.gd (E:=E) g k e;exact b.inj f M D G m F Q r v;intro S w C;let⟨T,n,A⟩:=B S w C;let⟨l,d,e⟩:=s.c S T n;exact⟨l,d,A.gU g l<|e.mono x⟩
def GL(e:bf)(H:Loc)(J:Z)(d:Y V):Prop:=H.bR=ai/\d=[]\/∃(Q:Z)(val:Z->Z->bq),H.bR=W Q/\(∀(b:Z)(I:V),d[b]?=W I->U I.cells=J)/\(∀(b c:Z)(I T:V),d[b]?=W I->I.cells[c]?=W T->e.I Q (H.base+b*J+c)=W (val b c))/\∀(b c:Z)(I T:V),d[b]?=W I->I.cells[c]?=W T->bk e T (val b c)
def GL.mono{N f:bf}(h:N.le f){H:Loc}{J:Z}{g:Y V}(s:GL N H J g):GL f H J g:=by rcases s with s|⟨Q,val,i,k,l,m⟩;exact bj s;exact bp ⟨Q,val,i,k,λe b I T c d=>h.I _ _ _<|l e b I T c d,λe b I T c d=>(m e b I T c d).mono h⟩
def tk.key{b:bf}{v x J:Z}{c:Y V}{H:Loc}(p:b.m v=W H)(u:H.aS=x)(C:H.s=J)(n:GL b H J c):∀T w,tk v x J c T w->∀f,bk b T f->bk b w f:=by
 intro T w B f t;cases B
 next e len L=>
  cases t with
  |bH _ _ _ _ G f d D z s=>
   rw[p] at d;cases d;rcases s (bQ u) with⟨_,rfl,rfl⟩|⟨Q,M,cap,l,rfl,O,A,K⟩;simpa using bk.slnil J;let hlen:U (am len<|ay e c)=len:=bi;rcases n with⟨bu,_⟩|⟨y,val,h,o,i,r⟩;simp_all;let N:∀base,len=0\/base=H.base+e*J->bk b (.al J<|am len<|ay e c) (eY (W ⟨Q,base,ai⟩) (U<|am len<|ay e c) cap):=by intro base I;refine .al J _ Q _ cap (λF g=>val (e+F) g) q A ?_ ?_ ?_;grind;grind;grind
   grind
 next E g k=>cases t with|own _ _ _ _ G f d D z s=>rw[p] at d;cases d;obtain⟨Q,l,rfl⟩:=s<|bQ u;rcases n with⟨bu,_⟩|⟨y,val,h,o,i,r⟩;simp_all;rw[l] at h;cases h;rw[C];exact .ref J _ E g Q _ val o i r
end
section
variable{P:bn}{p:bJ}
def BS(M:a7):Y Z:=(a0<|j0 M.op).filterMap λ|.tmp S=>W S|_=>ai
def dt(M:a7)(b:Y (Z×V)):Y (Z×V):=(BS M).filterMap λS=>(cX S b).map λT=>(S,T)
def IZ{M:a7}{b:Y (Z×V)}{S:Z}{T:V}(s:cX S (dt M b)=W T):S∈BS M/\cX S b=W T:=by
 unfold dt at s;generalize BS M=c at s⊢
 induction c
 trivial
 next cc A e=>
  cases d:cX cc b;simp_all
  next w=>grind
inductive Reach(ops:bU a7):Z->Z->Prop|amE (D:Z) (M:a7) (F:Edge) (azv:ops[D]?=W M) (he:F∈a0 M.after) (aM:vu .any F):Reach ops D F.on|trans {D cs B:Z}:Reach ops D cs->Reach ops cs B->Reach ops D B
def uu(ops:bU a7)(m:Z->X):Prop:=∀b M,m b->ops[b]?=W M->∀F∈a0 M.after,vu .any F->m F.on
def uu.reach{ops:bU a7}{m:Z->X}(s:uu ops m){b c:Z}(g:Reach ops b c)(e:m b):m c:=by
 induction g
 next b M F f he d=>exact s b M e f F he d
 next _ _ h i=>simp_all
def looks(ops:bU a7)(M:a7):Y Z:=BS M++(match M.guard with|W (u,_)=>((ops[u]?).bind (·.dst)).toList|ai=>[])
def Er(ops:bU a7):Prop:=∀c d b e S,ops[c]?=W b->ops[d]?=W e->d<c->e.dst=W S/\(S∈looks ops b\/b.dst=W S)\/b.dst=W S/\S∈looks ops e->Reach ops c d
def Down(ops:bU a7):Prop:=∀b M,ops[b]?=W M->∀F∈a0 M.after,vu .any F->F.on<b
def amp{b:Z}{H:Y a7}(s:pf b H){d:Z}{M:a7}(c:H[d]?=W M)(S:Z)(bW:M.dst=W S):S<b:=by have:=kY.1 s M<|dY c;simp_all
def hT(c:bU X):Z->X:=λb=>c.getD b ae
def Sx{c:bU X}{D:Z}(d:D<a9 c)b:hT (nG c D ag) b=if b=D then ag else hT c b:=by simp[hT,BZ];grind
def pA(d:Z)(c:bU X):Y Z:=(bM d).filter λb=>!hT c b
def Dy:Y a7->Y (Y Z)->Y (Y Z)|[],b=>b|M::H,b=>Dy H<|b++[((a0 M.after).filter<|vu .any).flatMap λF=>F.on::y b F.on []]
def sP(H:Y a7):X:=let f:=Dy H []
 H.zipIdx.all λ(b,c)=>((a0 b.after).all λF=>!vu .any F||F.on<c)&&
  (am c H).zipIdx.all λ(d,e)=>(match d.dst with|W S=>!(j1 (looks (aO H) b) S||b.dst==W S)|ai=>ag)&&(match b.dst with|W S=>!j1 (looks (aO H) d) S|ai=>ag)||j1 (y f c []) e
def NH{ops:bU a7}:∀H e,(∀b M,H[b]?=W M->ops[U e+b]?=W M)->(∀d b,b∈y e d []->Reach ops d b)->∀d b,b∈y (Dy H e) d []->Reach ops d b
|[],e,_,s=>s|M::H,e,f,s=>by
 refine NH H _ (λb l m=>?_) λd b c=>?_;have:=f (b+1) l cf;grind;rw[dX,nB] at c;split at c;simp_all;have k:d=U e:=by rcases hN (U e) d with g|g;grind;omega
 subst k;simp only[oX,O3,z7,Vl,m9] at c;let⟨F,⟨he,h⟩,c⟩:=c;have:=f 0 M aa;have i:Reach ops _ _:=.amE _ M F q he h;rcases fH.1 c with rfl|c;omega;exact i.trans<|s _ _ c
def My{H:Y a7}(s:sP H):Er (aO H)/\Down (aO H):=by
 let r:=NH (ops:=aO H) H [] (λe M m=>aq) ao;let h:=kY.1 s;constructor;intro d e n o S k m v b;let l:H[d]?=W n:=by simpa using k
 let u:H[e]?=W o:=by simpa using m
 let p:(n,d)∈H.zipIdx:=by rw[List.mem_zipIdx_iff_getElem?];exact l
 let f:=h _ p;simp only[m7] at f;let c:=kY.1 f.2 (o,e) (by grind);simp[sf,m7] at c;rcases c with⟨c,i⟩|c;exfalso;rcases b with⟨g,b⟩|⟨g,b⟩;rw[g] at c;rcases b with b|b;simp[b] at c;simp[b] at c;rw[g] at i;simp[b] at i;exact r d e (by simpa using c);intro d M k F he t;let l:H[d]?=W M:=by simpa using k
 let f:=h (M,d) aK;grind
end
abbrev sw:=Y<|Z×Z×cB
def gC:bV->sw->bV|aD,[]=>aD|aD,b::a_=>gC (aR aD b.1 b.2) a_
theorem Gj:∀a_ aD,U (gC aD a_)=U aD|[],_=>ba|b::a_,aD=>by rw[gC,Gj a_];simp
theorem DS{B:Z}:∀{a_:sw}{aD:bV},B∉ab (·.1) a_->(gC aD a_)[B]?=aD[B]?|[],_,_=>ba|c::a_,aD,s=>by rw[gC,DS λb=>s aq,qo,ad λF=>s (by simp[F])]
theorem OF{B:Z}:∀{a_:sw}{aD b:bV},aD[B]?=b[B]?->U aD=U b->(gC aD a_)[B]?=(gC b a_)[B]?|[],_,_,s,_=>cf|d::a_,aD,b,s,c=>by rw[gC,gC];refine OF ?_ aq;grind
def UJ:∀{a_:sw}{aD:bV}{B:Z}{T:Z×cB},(gC aD a_)[B]?=W T->B∉ab (·.1) a_/\aD[B]?=W T\/(B,T)∈a_|[],aD,B,T,s=>bj ⟨ao,cf⟩|d::a_,aD,B,T,s=>by rw[gC] at s;rcases UJ s with⟨b,c⟩|b;grind;simp_all
section
variable{P:bn}{p:bJ}
def Holds.sub{N:bf}{d h:bV}{E:bI}(s:Holds p N d E)(f:∀n∈h,n∈d)(bu:dT (ab (·.1) h)):Holds p N h E:=⟨s.le,s.t,s.nl,s.nr,s.ns,λc e b=>s.own c e<|f _ b,s.jT,s.lT,λc e b=>s.gd c e<|f _ b,bu,λc e g Q b=>s.ld c e g Q<|f _ b,λc e k m g l Q b i=>s.inj c e k m g l Q (f _ b)<|f _ i⟩
def WI{d:bV}{ma:sw}(g:sw)(L:dT (ab (·.1) ma++ab (·.1) g))(z:∀b∈ma,d[b.1]?=W b.2)(r:∀b∈g,d[b.1]?=W b.2)(bu:dT (ab (·.1) d)):∃k:bV,(∀c∈k++(ab (·.2) ma++ab (·.2) g),c∈d)/\dT (ab (·.1) (k++(ab (·.2) ma++ab (·.2) g)))/\∀(e:Y (Z×(Z×cB)×Z×cB)),(e.map λb=>(b.1,b.2.1))=g->(∀b∈e,b.2.2.1=b.2.1.1)->∀{n:bf}{bO:bI},Holds p n (k++(ab (·.2) ma++ab (·.2.2) e)) bO->Holds p n (gC d<|e.map λb=>(b.1,b.2.2)) bO:=by
 let l:=ab (·.2) ma++ab (·.2) g;let k:=d.filter λc=>!j1 (ab (·.1) l) c.1;have v:∀c∈l,∃B∈ab (·.1) ma++ab (·.1) g,d[B]?=W c:=by intro c bC;rcases fp.1 bC with bC|bC;obtain⟨b,bd,rfl⟩:=dI.1 bC;exact⟨b.1,fp.2<|bj<|dI.2 ⟨b,bd,aa⟩,z b bd⟩;grind
 have:dT (ab (·.1) l):=by
  have K:∀(h:Y (Z×Z×cB)),dT (ab (·.1) h)->(∀b∈h,d[b.1]?=W b.2)->dT (ab (·.1) (ab (·.2) h)):=by
   intro h
   induction h
   simp
   next b h J=>intro h1 f;simp only[ia,zZ] at h1⊢;refine⟨λE=>?_,J h1.2 λT s=>f T (by simp[s])⟩;let⟨w,t,u⟩:=dI.1 E;obtain⟨ap,aX,rfl⟩:=dI.1 t;have:=Bw bu (f ap (by simp[aX])) (f b ao) u;exact h1.1<|this▸dI.2 ⟨ap,aX,aa⟩
  have:=K (ma++g) bi (by intro b bd;rcases fp.1 bd with bd|bd;exact z b bd;exact r b bd);simpa[l,dc,i_,OV] using this
 have:dT (ab (·.1) k):=bu.sublist<|List.filter_sublist.map _;refine⟨k,?_,?_,λe o G n bO F=>F.sub ?_ ?_⟩;intro c bC;rcases fp.1 bC with bC|bC;exact(m9.1 bC).1;let⟨B,_,i⟩:=v c bC;exact dY i;grind;have A:∀b∈e,d[b.1]?=W b.2.1:=λb bd=>r (b.1,b.2.1) (by rw[<-o];exact dI.2 ⟨b,bd,aa⟩);have H:ab (·.1) g=ab (·.1) e:=by rw[<-o];simp[i_,OV]
 intro c bC;let⟨B,i⟩:=rl.1 bC;rcases UJ i with⟨h1,f⟩|h1;by_cases x:c.1∈ab (·.1) l;let⟨w,t,u⟩:=dI.1 x;let⟨M,HM,y⟩:=v w t;have I:=Bw bu y f u;subst I;have rfl:w=c:=by rw[y] at f;exact mD f
 rcases fp.1 HM with HM|HM;grind;rw[H] at HM;exact cg (by simpa[i_,OV] using HM) h1;exact fp.2<|bj<|m9.2 ⟨dY f,by simpa usingλT s=>x<|dI.2 ⟨(c.1,T),s,aa⟩⟩;let⟨b,bd,m⟩:=dI.1 h1;refine fp.2<|bp<|fp.2<|bp<|dI.2 ⟨b,bd,?_⟩;exact ea Prod.snd m;have A:∀b∈e,d[b.1]?=W b.2.1:=λb bd=>r (b.1,b.2.1) (by rw[<-o];exact dI.2 ⟨b,bd,aa⟩);have:ab (·.1) (gC d (e.map λb=>(b.1,b.2.2)))=ab (·.1) d:=by
  refine jn λB=>?_;rw[db,db];have:=Gj (e.map λb=>(b.1,b.2.2)) d;cases i:(gC d<|e.map λb=>(b.1,b.2.2))[B]?;have:=ahq.1 i;rw[zV q]
  next T=>rcases UJ i with⟨_,f⟩|h1;rw[f];let⟨b,bd,m⟩:=dI.1 h1;have C:b.1=B:=ea Prod.fst m;have D:b.2.2=T:=ea Prod.snd m;rw[<-C,A b bd];simp[<-D,G b bd]
 rw[this];exact bu
def eH.x{M:a7}{l:Y (Z×V)}{A:V}{d:bV}(g:sw)(e:Y (Z×(Z×cB)×Z×cB))(y:dT (ab (·.1) g++ab (·.1) e))(C:∀b∈g,d[b.1]?=W b.2)(F:∀b∈e,d[b.1]?=W b.2.1)(w:∀b∈e,b.2.2.1=b.2.1.1)(s:∀h,eH P p M ⟨l,h++(ab (·.2) g++ab (·.2.1) e)⟩ A (h++(ab (·.2) g++ab (·.2.2) e))):eH P p M ⟨l,d⟩ A (gC d (e.map λb=>(b.1,b.2.2))):=by intro z E N f n o t;obtain⟨h,k,i,u⟩:=WI (e.map λb=>(b.1,b.2.1)) (by simpa[i_,OV] using y) C (λb B=>by obtain⟨T,G,rfl⟩:=dI.1 B;exact F T G) f.cO.kt;rw[i_] at k i;exact s h z E N ⟨f.cO.sub k i,f.c,f.gR,f.size,f.defers⟩ n o λH bO m r D v=>t H bO m r D<|u e aa w v
abbrev jq:=V×sw
abbrev ep:=Y Z×Y Z
def yA(P:bn)(p:bJ)(ops:bU a7)(M:a7)(b:ep)(O:bc)(I:jq):Prop:=O.guard ops M=W ae/\I=(.tuple [],[])\/O.guard ops M=W ag/\(∀e∈I.2,e.1∈b.2)/\∀d,U d=U O.d->(∀B,B∈b.1\/B∈b.2->d[B]?=O.d[B]?)->eH P p M ⟨dt M O.c,d⟩ I.1 (gC d I.2)
def bc.s1(O:bc)(S:c6 Z)(I:jq):bc:=({O with d:=gC O.d I.2}:bc).put S I.1
def bc.aum(O:bc)S I:(O.s1 S I).c=(O.put S I.1).c:=by cases S<;>rfl
theorem bc.xU(O:bc)S I:(O.s1 S I).d=gC O.d I.2:=by cases S<;>rfl
theorem MB(O:bc)S I b:(O.s1 (W S) I).c.lookup b=if b=S then W I.1 else cX b O.c:=by rw[bc.aum,MA]
def su(P:bn)(p:bJ)(ops:bU a7):Y a7->Y ep->bc->Y jq->Prop|[],[],_,b=>b=[]|M::H,ar::bz,O,A::b=>yA P p ops M ar O A/\su P p ops H bz (O.s1 M.dst A) b|_,_,_,_=>hP
def cK:Y a7->Y jq->(Z->X)->Z->bc->bc|M::H,A::c,m,b,O=>cK H c m (b+1) (if m b then O.s1 M.dst A else O)|_,_,_,_,O=>O
def IK:∀H b(m:Z->X) c O,(cK H b m c O).d.length=U O.d|[],_,_,_,_=>aa|_::_,[],_,_,_=>aa|M::H,A::b,m,c,O=>by rw[cK,IK H b];grind[bc.xU,Gj]
def TO{B:Z}:∀H e(m f:Z->X) c O g1,(∀b I,e[b]?=W I->B∈ab (·.1) I.2->b<U H->m (c+b)=f (c+b))->O.d[B]?=g1.d[B]?->U O.d=U g1.d->(cK H e m c O).d[B]?=(cK H e f c g1).d[B]?|[],_,_,_,_,_,_,_,s,_=>s|_::_,[],_,_,_,_,_,_,s,_=>s|M::H,A::e,m,f,c,O,g1,s,o,n=>by apply TO H e m f _ _ _ (λb I k g l=>by have:=s (b+1) I cf g aq;grind);by_cases h:B∈ab (·.1) A.2;let i:=s 0 A aa h ao;grind[bc.xU,OF];grind[bc.xU,DS];grind[bc.xU,Gj]
def TN{B:Z}:∀H c(m:Z->X) f O,(∀b I,c[b]?=W I->B∈ab (·.1) I.2->m (f+b)=ae)->(cK H c m f O).d[B]?=O.d[B]?|[],_,_,_,_,_=>aa|_::_,[],_,_,_,_=>aa|M::H,A::c,m,f,O,s=>by rw[cK,TN H c m _ _ (λb I g e=>by have:=s (b+1) I cf e;grind)];split;rw[bc.xU,DS];intro e;have:=s 0 A aa e;simp_all;rfl
def adY{B:Z}:∀H c(m g:Z->X) Q O g1 f I,f<U H->c[f]?=W I->m (Q+f)=ae->(∀b,g b=if b=Q+f then ag else m b)->(∀b e,f<b->c[b]?=W e->B∈ab (·.1) I.2->B∈ab (·.1) e.2->m (Q+b)=ae)->O.d[B]?=g1.d[B]?->U O.d=U g1.d->(cK H c g Q O).d[B]?=(gC (cK H c m Q g1).d I.2)[B]?
|[],_,_,_,_,_,_,_,_,s,_,_,_,_,_,_=>cf|_::_,[],_,_,_,_,_,_,_,_,s,_,_,_,_,_=>cf|M::H,A::c,m,g,Q,O,g1,0,I,_,l,hm,o,k,u,hlen=>by
 simp at l;subst l;rw[cK,cK,qp] at*;rw[o Q,af aa,hm];simp[GD,ahh,Pv];by_cases i:B∈ab (·.1) A.2;rw[TN H c g (Q+1) _ (λb e n h=>by have:=k (b+1) e q cf i h;grind),bc.xU];apply OF;rw[TN H c m (Q+1) _ (λb e n h=>by have:=k (b+1) e q cf i h;grind)];omega
 (simp[IK];omega)
 rw[DS i];apply TO H c _ _ _ _ _ λb e n h t=>kj;grind[bc.xU,DS]
 (simp[bc.xU,Gj];omega)|M::H,A::c,m,g,Q,O,g1,f+1,I,p,l,hm,o,k,u,hlen=>by
 rw[cK,cK];let r:g Q=m Q:=by rw[o,ad q]
 rw[r];apply adY H c m g (Q+1) _ _ f I (by simpa using p) cf aK (λb=>aK) (λb e t n i h=>by have:=k (b+1) e q cf i h;grind);grind[bc.xU,OF];grind[bc.xU,Gj]
def adZ:∀H e(m:Z->X) d O S,(∀b M,H[b]?=W M->m (d+b)->M.dst≠W S)->(cK H e m d O).c.lookup S=cX S O.c
|[],_,_,_,_,_,_=>aa|_::_,[],_,_,_,_,_=>aa|M::H,A::e,m,d,O,S,s=>by
 rw[cK,adZ H e m _ _ S λb g i hm=>s (b+1) g cf aK];split;let f:=s 0 M aa q;cases h:M.dst;rfl
 next cc=>rw[MB,ad λF=>f aq]
 rfl
def NJ:∀H g(m f:Z->X) b O g1 S,(∀d M,H[d]?=W M->M.dst=W S->m (b+d)=f (b+d))->cX S O.c=cX S g1.c->(cK H g m b O).c.lookup S=(cK H g f b g1).c.lookup S
|[],_,_,_,_,_,_,_,_,s=>s|_::_,[],_,_,_,_,_,_,_,s=>s|M::H,A::g,m,f,b,O,g1,S,s,o=>by
 apply NJ H g m f _ _ _ S (λd i n e=>by have:=s (d+1) i cf e;grind);by_cases e:M.dst=W S;let k:=s 0 M aa e;grind[MB];let h:∀(Q:X)(J:bc),(if Q then J.s1 M.dst A else J).c.lookup S=cX S J.c:=by
  intro Q J;split;cases l:M.dst;rfl
  next cc=>rw[MB,ad λF=>e aq]
  rfl
 rw[h,h];omega
def ad0:∀(H:Y a7) e(m:Z->X) B O(d S:Z) M A,H[d]?=W M->e[d]?=W A->M.dst=W S->m (B+d)->(∀b f,d<b->H[b]?=W f->f.dst=W S->m (B+b)=ae)->(cK H e m B O).c.lookup S=W A.1
|[],_,_,_,_,_,_,_,_,s,_,_,_,_=>cf|_::_,[],_,_,_,_,_,_,_,_,s,_,_,_=>cf|f::H,o::e,m,B,O,0,S,M,A,i,k,l,hm,h=>by
 simp at i k;rw[cK,adZ H e m _ _ S (λb cc n r g=>by have:=h (b+1) cc q cf g;grind)];simp_all[af,MB]|f::H,o::e,m,B,O,d+1,S,M,A,i,k,l,hm,h=>by exact ad0 H e m _ _ d S M A cf cf l aK (λb cc p n g=>by have:=h (b+1) cc q cf g;grind)
def vA(ops:bU a7)(bz:Y ep):Prop:=∀d e(b c:ep) B,e<d->d<a9 ops->bz[d]?=W b->bz[e]?=W c->B∈b.2/\(B∈c.1\/B∈c.2)\/B∈c.2/\(B∈b.1\/B∈b.2)->Reach ops d e
def MG(z Q:Y Z):X:=fB z λT=>j1 Q T
def tN(H:Y a7)(bz:Y ep):X:=let f:=Dy H []
 bz.zipIdx.all λ(b,d)=>d>=U H||(am d bz).zipIdx.all λ(c,e)=>!(MG b.2 c.1||MG b.2 c.2||MG c.2 b.1)||j1 (y f d []) e
def Se{H:Y a7}{bz:Y ep}(s:tN H bz):vA (aO H) bz:=by
 intro d c e f B o k i l h;let m:=NH (ops:=aO H) H [] (λc M p=>aq) λd c s=>cf;let b:=kY.1 s (e,d) (by grind);let n:=by simpa using k
 simp only[sf,wR] at b;rcases b with b|b;omega;let g:=kY.1 b (f,c) (by grind);simp at g;grind[MG,List.any_eq_true]
def ds(P:bn)(p:bJ)(ops:bU a7)(H:Y a7)(bz:Y ep)(O:bc)(ak:cS->bc->Prop):Prop:=∃b,su P p ops H bz O b/\ak fY (cK H b (λ_=>ag) 0 O)
theorem FW:∀H b c d O,cK H b (λ_=>ag) c O=cK H b (λ_=>ag) d O|[],_,_,_,_=>aa|_::_,[],_,_,_=>aa|M::H,A::b,c,d,O=>by exact FW H b _ _ _
theorem ds.nil{ops:bU a7}{O:bc}{ak:cS->bc->Prop}(s:ak fY O):ds P p ops [] [] O ak:=⟨[],aa,s⟩
def ds.mn{ops:bU a7}{M:a7}{H:Y a7}{ew:ep}{bz:Y ep}{O:bc}{ak:cS->bc->Prop}{A:V}cc(f:O.guard ops M=W ag)(h:∀i∈cc,i.1∈ew.2)(g:∀d,U d=U O.d->(∀B,B∈ew.1\/B∈ew.2->d[B]?=O.d[B]?)->eH P p M ⟨dt M O.c,d⟩ A (gC d cc))(s:ds P p ops H bz (({O with d:=gC O.d cc}:bc).put M.dst A) ak):ds P p ops (M::H) (ew::bz) O ak:=by let⟨k,b,e⟩:=s;exact⟨(A,cc)::k,⟨bp ⟨f,h,g⟩,b⟩,by rw[cK,FW _ _ _ 0,af aa];exact e⟩
def ds.skip{ops:bU a7}{M:a7}{H:Y a7}{b:ep}{bz:Y ep}{O:bc}{ak:cS->bc->Prop}(d:O.guard ops M=W ae)(s:ds P p ops H bz (O.put M.dst (.tuple [])) ak):ds P p ops (M::H) (b::bz) O ak:=by
 let⟨e,f,c⟩:=s;let he:O.s1 M.dst (.tuple [],[])=O.put M.dst (.tuple []):=by cases M.dst<;>rfl
 exact⟨(.tuple [],[])::e,⟨bj ⟨d,aa⟩,cf⟩,by rw[cK,FW _ _ _ 0,af aa,he];exact c⟩
end
section
variable{P:bn}{p:bJ}
structure GQ(P:bn)(p:bJ)(H:Y a7)(bz:Y ep)(O:bc)(df:Y jq)(skip:Z->X):Prop where
 len:U df<=U H
 step:∀D M A,H[D]?=W M->df[D]?=W A->skip D=ae->∃ar,bz[D]?=W ar/\yA P p (aO H) M ar (cK H df (λcs=>aH<|cs<D) 0 O) A
 mn:∀(D:Z)(I:jq),df[D]?=W I->∀B∈ab (·.1) I.2,∃ar:ep,bz[D]?=W ar/\B∈ar.2
def adX{H:Y a7}{bz:Y ep}{O:bc}{f:Y jq}(am:pf p.n H)(aA:Er (aO H))(az:vA (aO H) bz)(w:∀(b:Z) I,f[b]?=W I->∀B∈ab (·.1) I.2,∃ar,bz[b]?=W ar/\B∈ar.2)(hlen:U f<=U H){m h:Z->X}{b:Z}(o:b<U H)(aI:m b=ae)(y:∀e,h e=if e=b then ag else m e)(Q:uu (aO H) m){A:jq}(r:f[b]?=W A){z:fI}{E:bI}{N:bf}(P:a_ p (cK H f m 0 O) z E N){F:bq}{bO:bI}{i:bf}(L:N.le i)(aG:bk i A.1 F)(l:Holds p i (gC (cK H f m 0 O).d A.2) bO):a_ p (cK H f h 0 O) (z.put H[b].dst F) bO i:=by
 have x:H[b]?=W H[b]:=cT o;have aC:(aO H)[b]?=W H[b]:=by simp[o]
 generalize H[b]=D at*;have t:∀e,Reach (aO H) e b->m e=ae:=by intro e aF;cases aB:m e;rfl;have:=Q.reach aF aB;simp_all
 have aD:(cK H f h 0 O).d=gC (cK H f m 0 O).d A.2:=by
  refine jn λB=>?_;refine adY H f m h 0 O O b A o r bi (λe=>aq) (λe G g v ax ay=>?_) aa aa;rw[mC];let⟨K,av,aw⟩:=w e G v B ay;let⟨J,ap,au⟩:=w b A r B ax;have:e<U H:=by have:=(eX.1 v).1;omega
  exact t e<|az e b K J B g q av ap<|bj ⟨aw,bp au⟩
 rw[<-aD] at l;have k:=P.put (M:=(cK H f h 0 O).d) L l aG<|amp am x;refine⟨l,λS T s=>k.c S T ?_,k.gR,k.size,k.defers⟩;cases u:D.dst;rw[<-s];refine NJ H f _ _ 0 O O S (λe M g R=>?_) aa;grind
 next cc=>rw[MA];by_cases C:S=cc;subst C;rw[af aa,<-s];symm;refine ad0 H f _ 0 O b S D A x r u (by rw[mC,y];simp) λe aH g aE ak=>?_;rw[mC,y,ad q];exact t e<|aA e b aH _ S (by simpa using aE) aC g<|bj ⟨u,bp ak⟩;rw[ad C,<-s];refine NJ H f _ _ 0 O O S (λe M g R=>?_) aa;grind
def ad1{H:Y a7}{bz:Y ep}{O:bc}{df:Y jq}(w:Er (aO H))(v:vA (aO H) bz)(C:∀(e:Z) I,df[e]?=W I->∀B∈ab (·.1) I.2,∃ar,bz[e]?=W ar/\B∈ar.2){m y:Z->X}{e:Z}(D:e<U H)(E:m e=ae)(F:∀b,y b=if b=e then ag else m b)(z:uu (aO H) m)(A:uu (aO H) y){ar:ep}(p:bz[e]?=W ar):(∀S∈looks (aO H) H[e],(cK H df m 0 O).c.lookup S=(cK H df (λb=>aH<|b<e) 0 O).c.lookup S)/\∀B,B∈ar.1\/B∈ar.2->(cK H df m 0 O).d[B]?=(cK H df (λb=>aH<|b<e) 0 O).d[B]?:=by
 let x:(aO H)[e]?=W H[e]:=by simp[D]
 let n:∀b,Reach (aO H) e b->b<e->m b:=by intro b k t;have:=A.reach k aq;rw[F,ad q] at this;exact this
 let l:∀b,Reach (aO H) b e->m b=ae:=by intro b k;cases G:m b;rfl;have:=z.reach k G;simp_all
 constructor;intro S bW;refine NJ H df _ _ 0 O O S (λb M t g=>?_) aa;rw[mC];let i:(aO H)[b]?=W M:=by simpa using t
 rcases Gy b e with f|rfl|h;rw[n b (w e b _ _ S x i f<|bj ⟨g,bj bW⟩) f];simp[f];rw[E];simp;rw[l b<|w b e _ _ S i x h<|bp ⟨g,bW⟩];simp;omega;intro B u;refine TO H df _ _ 0 O O (λb I g J i=>?_) aa aa;rw[mC];let⟨o,r,s⟩:=C b I g B J;rcases Gy b e with f|rfl|h;rw[n b (v e b ar o B f q p r<|bp ⟨s,u⟩) f];simp[f];simp_all;rw[l b<|v b e o ar B h q r p<|bj ⟨s,u⟩];simp;omega
def Re{ops:bU a7}{b:a7}{J d:bc}{Q:X}(e:∀S∈looks ops b,cX S d.c=cX S J.c):J.guard ops b=W Q->d.guard ops b=W Q:=by grind[bc.guard,looks]
def aer{H:Y a7}{bz:Y ep}{O:bc}{g:Y jq}{skip:Z->X}{D:cS->fI->bI->Prop}(M:pf p.n H)(x:Er (aO H))(w:vA (aO H) bz)(i:GQ P p H bz O g skip){m o:Z->X}{b:Z}(l:b<U H)(R:b<U g)(aq:skip b=ae)(v:m b=ae)(B:∀h,o h=if h=b then ag else m h)(u:uu (aO H) m)(L:uu (aO H) o){z:fI}{E:bI}{N:bf}(e:a_ p (cK H g m 0 O) z E N){s:fI->bI->Prop}(J:∀t bO f,a_ p (cK H g o 0 O) t bO f->s t bO):wpOp P (aO H) D b s z E:=by
 have C:=cT R;let⟨ar,Q,au⟩:=i.step b _ _ (cT l) C aq;have ak:(aO H)[b]?=W H[b]:=ao;let⟨y,am⟩:=ad1 (O:=O) x w i.mn l v B u L Q;have ap:∀r bO f,N.le f->bk f _ r->Holds p f _ bO->a_ p _ _ bO f:=λr bO f F G I=>adX M x w i.mn i.len l v B u C e F G I;generalize g[b]=A at*;generalize H[b]=aw at*;unfold wpOp;rw[ak];dsimp;rcases au with⟨k,rfl⟩|⟨k,_,p1⟩;rw[ad (by rw[e.wanted<|Re y k];simp)];exact J _ _ N<|ap _ E N (bf.le.refl N) (bk.tuple [] [] aa ao) e.cO;rw[af<|e.wanted<|Re y k];left;have K:a_ p ⟨dt aw (cK H g (λh=>aH<|h<b) 0 O).c,(cK H g m 0 O).d⟩ z E N:=by refine⟨e.cO,λS T av=>?_,e.gR,e.size,e.defers⟩;cases IZ av;exact e.c S T (by grind[looks])
 refine p1 _ (by simp[IK]) am z E N K _ _ λr bO f ax az ay=>?_;grind
def au8{H:Y a7}{bz:Y ep}{O:bc}{df:Y jq}{av:cS->fI->bI->Prop}(aF:pf p.n H)(R:Er (aO H)){ar:ep}(L:vA (aO H) (bz++[ar]))(aQ:∀(i:Z) I,df[i]?=W I->∀B∈ab (·.1) I.2,∃ar,bz[i]?=W ar/\B∈ar.2){m f:Z->X}{M:a7}(hlen:U bz=U df)(v:U df<U H)(aJ:H[(U df)]?=W M)(k:∀b,U df<=b->m b=ae)(ak:∀b,f b=if b=U df then ag else m b)(G:uu (aO H) m)(aE:uu (aO H) f){r:jq->Prop}(az:∀I,r I->∀C∈I.2,C.1∈ar.2)(aG:(cK H df (λ_=>ag) 0 O).guard (aO H) M=W ag)(aL:∀d,U d=(cK H df (λ_=>ag) 0 O).d.length->(∀B,B∈ar.1\/B∈ar.2->d[B]?=(cK H df (λ_=>ag) 0 O).d[B]?)->tj P p M ⟨dt M (cK H df (λ_=>ag) 0 O).c,d⟩ (λA aD=>∃I,r I/\A=I.1/\aD=gC d I.2)){z:fI}{E:bI}{N:bf}(g:a_ p (cK H df m 0 O) z E N){D:fI->bI->Prop}(aB:∀I F bO e,r I->a_ p (cK H (df++[I]) f 0 O) F bO e->D F bO):wpOp P (aO H) av (U df) D z E:=by
 let am:(aO H)[(U df)]?=W H[(U df)]:=by simp[v]
 let aK:H[(U df)]=M:=mD<|(cT v).symm.trans aJ;let K:∀y,(∀C∈y.2,C.1∈ar.2)->∀(i:Z) I,(df++[y])[i]?=W I->∀B∈ab (·.1) I.2,∃u,(bz++[ar])[i]?=W u/\B∈u.2:=λy aP i I h B aR=>by grind
 let short:∀H df T(m:Z->X) Q J,(∀b,Q+U df<=b->m b=ae)->cK H (df++T) m Q J=cK H df m Q J:=by
  intro H
  induction H
  intros;rfl
  next au H x=>
   intro df T m Q J hm;cases df;let none:∀H T Q J,(∀b,Q<=b->m b=ae)->cK H T m Q J=J:=by
    intro H
    induction H
    intros;rfl
    next au H x=>
     intro T Q J hm;cases T;rfl
     next A T=>rw[cK,hm Q<|bv _,ad ao];exact x T (Q+1) J λb l=>hm b q
   grind
   next A df=>grind[cK,List.length_cons]
 let aw:∀T,cK H (df++T) (λb=>aH<|b<U df) 0 O=cK H df (λ_=>ag) 0 O:=λT=>by
  rw[short H df T _ 0 O λb l=>bi];let ax:∀H df(m f:Z->X) Q J,(∀b,Q<=b->b<Q+U df->m b=f b)->cK H df m Q J=cK H df f Q J:=by
   intro H
   induction H
   intros;rfl
   next au H x=>
    intro df m f Q J hm;cases df;rfl
    next A df=>rw[cK,cK,hm Q (bv _) (by rw[l5];omega)];exact x df m f (Q+1) _ λb s t=>hm b q (by rw[l5];omega)
  exact ax H df _ _ 0 O λb _ l=>bi
 let⟨w,ap⟩:=ad1 (df:=df++[(.tuple [],[])]) (O:=O) R L (K _ ao) v (k _<|bv _) ak G aE (ar:=ar) (by rw[<-hlen,s9<|bv _,oX];rfl);rw[aw,short H df _ m 0 O λb l=>k b q] at w ap;let aq:∀I,r I->∀o bO e,N.le e->bk e I.1 o->Holds p e (gC (cK H df m 0 O).d I.2) bO->a_ p (cK H (df++[I]) f 0 O) (z.put H[(U df)].dst o) bO e:=λI h o bO e s t ay=>
  adX aF R L (K I<|az I h) (by rw[cd,ri];omega) v (k _<|bv _) ak G (A:=I) (by rw[s9<|bv _,oX];rfl) (by rw[short H df _ m 0 O λb l=>k b q];exact g) s t (by rw[short H df _ m 0 O λb l=>k b q];exact ay)
 rw[aK] at am w aq;unfold wpOp;rw[am];dsimp;rw[af<|g.wanted<|Re w aG];left;let aC:a_ p ⟨dt M (cK H df (λ_=>ag) 0 O).c,(cK H df m 0 O).d⟩ z E N:=by refine⟨g.cO,λS T aN=>?_,g.gR,g.size,g.defers⟩;let⟨s,t⟩:=IZ aN;exact g.c S T (by rw[w S (by simp[looks,s])];exact t)
 refine aL (cK H df m 0 O).d (by rw[IK,IK]) ap z E N aC _ _ λA aD o bO e h aA aM aI=>?_;obtain⟨I,h,rfl,rfl⟩:=h;exact aB I _ _ e h<|aq I h o bO e aA aM aI
inductive om(P:bn)(p:bJ)(H:Y a7)(O:bc)(ak:bc->Prop):Y jq->Y ep->Prop|leaf {df:Y jq} {bz:Y ep}:U df=U H->vA (aO H) bz->ak (cK H df (λ_=>ag) 0 O)->om P p H O ak df bz|step {df:Y jq} {bz:Y ep} {M:a7} {ar:ep} {A:jq}:H[(U df)]?=W M->yA P p (aO H) M ar (cK H df (λ_=>ag) 0 O) A->om P p H O ak (df++[A]) (bz++[ar])->om P p H O ak df bz|many {df:Y jq} {bz:Y ep} {M:a7} {ar:ep} {uv:jq->Prop}:H[(U df)]?=W M->vA (aO H) (bz++[ar])->(∀cs,U df<cs->cs<U H->Reach (aO H) cs (U df))->(∀I,uv I->∀v∈I.2,v.1∈ar.2)->(cK H df (λ_=>ag) 0 O).guard (aO H) M=W ag->(∀d,U d=(cK H df (λ_=>ag) 0 O).d.length->(∀B,B∈ar.1\/B∈ar.2->d[B]?=(cK H df (λ_=>ag) 0 O).d[B]?)->tj P p M ⟨dt M (cK H df (λ_=>ag) 0 O).c,d⟩ (λA aD=>∃I,uv I/\A=I.1/\aD=gC d I.2))->(∀I,uv I->om P p H O ak (df++[I]) (bz++[ar]))->om P p H O ak df bz
def WC{H:Y a7}(D:Down (aO H)){m:cS->fI->bI->Prop}{g:Z}{c:bU X}{z:fI}{E:bI}(aq:a9 c=U H)(C:U (pA (U H) c)=g+1)(x:∀d<U H,hT c d=ae->(∀b,hT (nG c d ag) b=if b=d then ag else hT c b)->(uu (aO H) (hT c)->uu (aO H) (hT (nG c d ag)))->U (pA (U H) (nG c d ag))=g->wpOp P (aO H) m d (wpAny P .any (aO H) m g (nG c d ag)) z E):wpAny P .any (aO H) m (g+1) c z E:=by
 refine⟨λS=>?_,λd k=>?_⟩;exfalso;let I:∃b<U H,hT c b=ae:=by
  cases J:pA (U H) c;simp_all
  next T av=>
   have:T∈pA (U H) c:=by rw[J];simp
   grind[pA]
 let⟨b,f,h⟩:=I;let au:∀l b,b<l->b<U H->hT c b=ae->hP:=by
  intro l
  induction l
  omega
  next l ar=>
   intro b am f h;let v:b∉tf .any (aO H) c:=by rw[S];simp
   rw[tf,m9] at v;apply v;exists by simp_all
   let A:b<a9 c:=q;let N:c.getD b ag=ae:=by simp[hT,BZ] at h⊢;simp[A] at h⊢;exact h
   rw[N];simp only[Bool.not_false,B0];let i:(aO H)[b]?=W H[b]:=by simp[f]
   rw[i];simp only[lm,z7,ag5];intro r w;by_cases e:vu .any (H[b]).after[r];rw[e];simp only[Bool.not_true,D0];let ap:=D b _ i _ (ag9 w) e;grind[hT];simp_all
 grind;rw[tf,m9] at k;let⟨K,n⟩:=k;let s:d<U H:=by simpa using K
 let u:d<a9 c:=q;let i:(aO H)[d]?=W H[d]:=by simp[s]
 rw[i] at n;simp[lm,z7,m7,U1,ag5] at n;let⟨p,G⟩:=n;let t:hT c d=ae:=by simp[hT,BZ] at p⊢;simp[u] at p⊢;exact p
 let ak:∀F∈(H[d]).after.toList,vu .any F->hT c F.on:=by intro F he e;obtain⟨r,w,rfl⟩:=m_.1 he;have:=G r q;simp[ag_] at e⊢;rw[e] at this;simpa[hT] using this
 let o:=Sx u;refine x d s t o (λB=>?_) ?_;intro b M f R F he e;rw[o] at f⊢;split at f;simp_all;split;rfl;exact B b M f R F he e;let y:pA (U H) (nG c d ag)=(pA (U H) c).filter λb=>b !=d:=by rw[pA,pA,List.filter_filter];apply Vb;intro b _;rw[o];by_cases L:b=d<;>simp[L]
 rw[y];let Q:dT (pA (U H) c):=List.nodup_range.filter _;let O:d∈pA (U H) c:=by rw[pA,m9];exact⟨q,by simp[t]⟩
 rw[<-Q.erase_eq_filter,List.length_erase_of_mem O,C];omega
def acj{H:Y a7}{c:bU X}(g:a9 c=U H)(d:U (pA (U H) c)=0):(∀b<U H,hT c b)/\tf .any (aO H) c=[]:=by
 let e:∀b<U H,hT c b:=by intro b f;have:=l4 d;rw[pA,List.filter_eq_nil_iff] at this;have:=this b aq;simpa using this
 grind[tf,List.filter_eq_nil_iff,hT,Array.getD_eq_getD_getElem?]
theorem NK{m:Z->X}:∀H T Q J,(∀b,Q<=b->m b=ae)->cK H T m Q J=J|[],_,_,_,_=>aa|_::_,[],_,_,_=>aa|d::H,A::T,Q,J,hm=>by rw[cK,hm Q<|bv _,ad ao];exact NK H T _ J λb c=>hm b q
theorem NL{m:Z->X}:∀H b T Q J,(∀c,Q+U b<=c->m c=ae)->cK H (b++T) m Q J=cK H b m Q J|[],_,_,_,_,_=>aa|d::H,[],T,Q,J,hm=>by grind[NK]|d::H,A::b,T,Q,J,hm=>by exact NL H b T _ _ λc e=>hm c bi
theorem TP:∀H c(m d:Z->X) Q J,(∀b,Q<=b->b<Q+U c->m b=d b)->cK H c m Q J=cK H c d Q J|[],_,_,_,_,_,_=>aa|_::_,[],_,_,_,_,_=>aa|g::H,A::c,m,d,Q,J,hm=>by rw[cK,cK,hm Q (bv _) ao];exact TP H c m d _ _ λb e f=>hm b q bi
theorem aun H b T O:cK H (b++T) (λc=>aH<|c<U b) 0 O=cK H b (λ_=>ag) 0 O:=by grind[NL,TP]
def Zp{d:Type}{c:Y d}{T w:d}{b:Z}:(c++[T])[b]?=W w->b<U c/\c[b]?=W w\/b=U c/\w=T:=by grind
theorem awK{c:Type}b(T:c):(b++[T])[(U b)]?=W T:=ao
def Og{b:Type}{d:Y b}{T:b}{c:Z}{w:b}:d[c]?=W w->(d++[T])[c]?=W w:=by grind
def GQ.snoc{H:Y a7}{bz:Y ep}{O:bc}{b:Y jq}{skip g:Z->X}(s:GQ P p H bz O b skip)(w:U bz=U b)(x:U b<U H){ar:ep}{A:jq}(n:∀c≠U b,g c=ae->skip c=ae)(y:∀r∈A.2,r.1∈ar.2)(z:g (U b)=ae->∀M,H[(U b)]?=W M->yA P p (aO H) M ar (cK H b (λ_=>ag) 0 O) A):GQ P p H (bz++[ar]) O (b++[A]) g:=by refine⟨bi,λc M t l m o=>?_,λc I i B k=>?_⟩;rcases Zp m with⟨e,d⟩|⟨e,d⟩;let⟨u,f,h⟩:=s.step c M t l d<|n c q o;exists u,Og f;rw[NL H b [A] 0 O λC v=>bi];exact h;grind[awK,aun];rcases Zp i with⟨e,d⟩|⟨e,d⟩;let⟨u,f,h⟩:=s.mn c I d B k;exists u,Og f;grind
def yA.mn{ops:bU a7}{M:a7}{ar:ep}{O:bc}{A:jq}(s:yA P p ops M ar O A):∀b∈A.2,b.1∈ar.2:=by rcases s with⟨_,rfl⟩|⟨_,s,_⟩;simp;omega
def vA.pre{ops:bU a7}{bz:Y ep}{ar:ep}(s:vA ops (bz++[ar])):vA ops bz:=λh i b c B g k e f d=>s h i b c B g k (Og e) (Og f) d
def om.any{H:Y a7}{O:bc}{ak:cS->bc->Prop}(J:pf p.n H)(K:Er (aO H))(T:Down (aO H)){f:Y jq}{bz:Y ep}(s:om P p H O (ak fY) f bz):U bz=U f->∀g(listed:bU X) z E N,a9 listed=U H->U (pA (U H) listed)=g->uu (aO H) (hT listed)->(∀b,U f<=b->hT listed b=ae)->GQ P p H bz O f (hT listed)->a_ p (cK H f (hT listed) 0 O) z E N->wpAny P .any (aO H) (Kx p ak) g listed z E:=by
 induction s
 next f bz hlen aw ax=>
  intro y g
  induction g
  intro listed z E N l i c _ _ r;let⟨aB,ay⟩:=acj l i;exists ay,_,N,ax;grind[TP,hT]
  next g C=>intro listed z E N l i c o d r;refine WC T l i λG F x h m D=>?_;refine aer J K aw d F q x x h c (m c) r λv bO u w=>C _ v bO u bi D (m c) (λb t=>?_) ⟨d.len,λb M A k L e=>d.step b M A k L ?_,d.mn⟩ w;rw[h,ad q];exact o b t;simp_all
 next f bz M ar A k aq _ C=>intro y g listed z E N l i c o d r;let B:U f<U H:=(eX.1 k).1;refine C bi g listed z E N l i c (λb t=>o b (by rw[cd] at t;omega)) (d.snoc y B (λ_ _ s=>s) aq.mn λ_ aC am=>?_) ?_;rw[k] at am;cases am;exact aq;grind[NL]
 next f bz M ar aA k Z au R av p1 _ C=>
  intro y g;let B:U f<U H:=(eX.1 k).1
  induction g
  intro listed z E N l i c o _ r;have:=(acj l i).1 (U f) B;simp_all
  next g az=>
   intro listed z E N l i c o d r;refine WC T l i λG F x h m D=>?_;let ap:∀b,hT (nG listed G ag) b=ae->hT listed b=ae:=λb e=>by rw[h] at e;split at e;cases e;exact e
   rcases Gy G (U f) with s|s|s;refine aer J K Z.pre d F s x x h c (m c) r λv bO u w=>az _ v bO u bi D (m c) (λb t=>?_) ⟨d.len,λb M A k L e=>d.step b M A k L<|ap b e,d.mn⟩ w;rw[h,ad q];exact o b t;subst s;refine au8 J K Z d.mn y B k o h c (m c) R av p1 r λI v bO u S w=>C I S bi g _ v bO u bi D (m c) (λb t=>?_) (d.snoc y B (λb _ e=>ap b e) (R I S) λe=>?_) w;grind;rw[h,af aa] at e;cases e;exfalso;let Q:=(m c).reach (au G s F) (by rw[h,af aa]);rw[h,ad q,o _<|bv _] at Q;cases Q
theorem e3.aes{id:Z}{H:Y a7}{O:bc}{ak:cS->bc->Prop}(i:P.follows qs)(h:pf p.n H)(e:sP H)(s:om P p H O (ak fY) [] []):e3 P p (sl id (aO H) ag) O ak:=by
 intro z E N d;apply wp_region_any i;have f:∀b,hT (td (a9 (aO H)) ae) b=ae:=by intro b;simp[hT,BZ,ag8];split<;>rfl
 refine s.any h (My e).1 (My e).2 aa _ _ z _ N ao ?_ ?_ (λb _=>f b) ⟨dJ _,λg M A _ s=>cf,λg I s=>cf⟩ ?_;grind[pA,td,bM,List.filter_eq_self];intro g M k;simp_all;rw[NK _ _ _ _ λb _=>f b];exact⟨d.cO.grown ⟨aa,aa,aa,bv _,λ_ _ _=>aa⟩,d.c,d.gR,d.size,d.defers⟩
theorem NM{M:a7}{A:jq}:∀{H:Y a7}{b:Y jq}{Q:Z}{O:bc},H[(U b)]?=W M->cK H (b++[A]) (λ_=>ag) Q O=(cK H b (λ_=>ag) Q O).s1 M.dst A|[],_,_,_,s=>cf|c::H,[],Q,O,s=>by simp at s;subst s;show cK H [] _ _ _=(cK _ [] _ Q O).s1 _ A;cases H<;>rfl|c::H,T::b,Q,O,s=>by rw[kh,cK,cK];exact NM cf
def om.run{H:Y a7}{O:bc}{ak:bc->Prop}:∀{uV jv:Y a7}{b oQ:Y jq}{bz C5:Y ep}{bP:Y a7},H=bP++(uV++jv)->U bP=U b->U C5=U uV->su P p (aO H) uV C5 (cK H b (λ_=>ag) 0 O) oQ->(U oQ=U uV->om P p H O ak (b++oQ) (bz++C5))->om P p H O ak b bz
|[],jv,b,oQ,bz,[],bP,_,_,_,c,s=>by have:oQ=[]:=c;simp_all|[],jv,b,oQ,bz,ar::C5,bP,_,_,d,_,s=>cf|M::uV,jv,b,[],bz,[],bP,_,_,_,c,_=>c.elim|M::uV,jv,b,[],bz,_::_,bP,_,_,_,c,_=>c.elim|M::uV,jv,b,_::_,bz,[],bP,_,_,_,c,_=>c.elim|M::uV,jv,b,A::oQ,bz,ar::C5,bP,e,f,d,c,s=>by
 let g:H[(U b)]?=W M:=by rw[e,s9 q,<-f,oX];rfl
 refine om.step g c.1<|om.run (uV:=uV) (jv:=jv) (bP:=bP++[M]) (by rw[e];simp) (by simp[f]) (by simpa using d) (by rw[NM g];exact c.2) λh=>?_;have:=s (by simp[h]);simpa using this
theorem su.cK{ops:bU a7}{H:Y a7}:∀{d jv bP:Y a7}{df e:Y jq}{f:Y ep}{O c:bc},H=bP++(d++jv)->U bP=U df->su P p ops d f c e->c=fe.cK H df (λ_=>ag) 0 O->fe.cK H (df++e) (λ_=>ag) 0 O=fe.cK d e (λ_=>ag) 0 c|[],jv,bP,df,e,[],O,c,_,_,b,s=>by have:e=[]:=b;rw[this,gv,s];rfl|M::d,jv,bP,df,[],[],O,c,_,_,b,_=>b.elim|M::d,jv,bP,df,[],_::_,O,c,_,_,b,_=>b.elim|M::d,jv,bP,df,_::_,[],O,c,_,_,b,_=>b.elim|M::d,jv,bP,df,A::e,ar::f,O,c,g,h,b,s=>by have:=su.cK (H:=H) (jv:=jv) (bP:=bP++[M]) (df:=df++[A]) (O:=O) aq aq b.2 (by grind[NM]);rw[eS,List.singleton_append] at this;rw[this,fe.cK,af aa];grind[FW]
def su.len{ops:bU a7}:∀{H:Y a7}{bz:Y ep}{O:bc}{b:Y jq},su P p ops H bz O b->U bz=U H/\U b=U H|[],[],_,b,s=>by simp[show b=[] from s]|_::_,_::_,_,_::_,s=>by simp[su.len s.2]
theorem e3.X6{id:Z}{H:Y a7}{bz:Y ep}{O:bc}{ak:cS->bc->Prop}(g:P.follows qs)(e:pf p.n H)(f:sP H)(d:vA (aO H) bz)(s:ds P p (aO H) H bz O ak):e3 P p (sl id (aO H) ag) O ak:=by let⟨h,b,c⟩:=s;exact e3.aes g e f<|om.run (jv:=[]) (bP:=[]) ao aa b.len.1 (by cases H<;>exact b) λs=>.leaf s d c
theorem e3.X5{id:Z}{H:Y a7}{bz:Y ep}{O:bc}{ak:cS->bc->Prop}(e:P.follows qs)(c:pf p.n H)(d:sP H)(b:tN H bz)(s:ds P p (aO H) H bz O ak):e3 P p (sl id (aO H) ag) O ak:=.X6 e c d (Se b) s
end
def YO(P:bn)(S:aw)(b:Z):c6 (Z×aw×Z):=match kD P S with|W (.struct bz)=>(bz[b]?).map λar=>(ar.offset,ar.type,P.cellsOf ar.type)|_=>ai
structure ux(P:bn)(S:aw)(cs off:Z)(LW:aw)(R:Z):Prop where
 h:YO P S cs=W (off,LW,R)
def ux.get{P:bn}{S:aw}{b e:Z}{d:aw}{c:Z}(s:ux P S b e d c):c≠0->∃bz ar,kD P S=W (.struct bz)/\bz[b]?=W ar/\ar.offset=e/\ar.type=d/\∀E,ce P (sizeOf ar.type) E=ct c E:=by
 have s:=s.h;unfold YO at s;split at s;rename_i bz i;cases g:bz[b]?;simp_all
 next ar=>
  simp[g,lm,g6,z8] at s;have f:=s.2.2;unfold Program.cellsOf at f;cases k:P.info? ar.type;simp_all
  next l=>simp_all[sizeOf,typeInfo]
 trivial
structure Ce(P:bn)(S:aw)(R:Z):Prop where
 a:(kD P S).map nY=W ag
 i:(P.info? S).map (·.size)=W R
def Ce.eD{P:bn}{S:aw}{c:Z}(s:Ce P S c):∃I Q,cu P S I c Q/\nY I:=by
 have d:=s.a;have:=s.i;cases b:kD P S;simp_all
 next I=>
  cases k:P.info? S;simp_all
  next e=>simp[b] at d;exists I,e.bytes,⟨b,aq⟩
section
variable{P:bn}{p:bJ}{M:a7}{O:bc}
def asX{S i:aw}{T:aP}{d:Y V}{J c b f h g:Z}(m:ux P S f h i g)(bu:g≠0)(o:M.op=.fieldAddr S T f)(w:O.val p T=W (.ref J d c b)):di P p M O (.ref J d c (b+h)):=.same λz E N l=>by have e:=l.val w;generalize v:b1 z T=x at e;obtain⟨bz,ar,u,n,rfl,rfl,t⟩:=m.get bu;cases e with|ref _ _ _ _ Q base val s k r=>have:=bk.ref J d c (b+ar.offset) Q _ val s k r;exists _,this;simp[c5,o,v,Instr.fieldAt,yr,run_underlying u,n,fieldPlace,t,bu,Addr.add_lit]
def Tq{S l:aw}{T:aP}{b c f e B J g i h:Z}{F:aw}{k:Y V}(o:ux P S g i l h)(bu:h≠0)(u:M.op=.fieldAddr S T g)(C:O.val p T=W (.own b c f e))(s:O.d[B]?=W (b,.j c J F k)):di P p M O (.own b c f (e+i)):=.same λz E N m=>by let⟨H,Q,t,v,n,w,A⟩:=m.own C s;obtain⟨bz,ar,y,r,rfl,rfl,x⟩:=o.get bu;exists ib _,.own _ _ _ _ H _ t (by rw[v.1];omega) aa λ_=>⟨Q,n,by rw[w]⟩;simp[c5,u,A,Instr.fieldAt,yr,run_underlying y,r,fieldPlace,x,bu,Addr.add_lit]
def adg{S:aw}{I:iz}{au ck:Z}{T:aP}{d:Y V}{J c b:Z}{F A:V}(bW:cu P S I au ck)(f:nY I=ae)(h:M.op=.load S T)(i:O.val p T=W (.ref J d c b))(g:d[c]?=W F)(e:F.cells[b]?=W A):di P p M O A:=adT bW f h i g e
def Tr{S:aw}{c:Z}{T:aP}{h k i e B J:Z}{F:aw}{g:Y V}{f:V}{b:Y V}(bW:Ce P S c):M.op=.load S T->O.val p T=W (.own h k i e)->O.d[B]?=W (h,.j k J F g)->g[i]?=W f->am c (ay e f.cells)=b->U b=c->di P p M O (.agg b):=by cases bW.eD;grind[auf]
def asV{S c:aw}{I:iz}{au ck:Z}{T:aP}{g i h:Z}{b:Y V}{A:V}(n:ux P S g i c h)(bu:h≠0)(bW:cu P c I au ck)(m:nY I=ae)(s:M.op=.field S T g)(w:O.val p T=W (.agg b))(e:b[i]?=W A):di P p M O A:=.same λz E N l=>by
 have d:=l.val w;generalize v:b1 z T=y at d;obtain⟨bz,ar,u,o,rfl,rfl,x⟩:=n.get bu;cases d with
 |agg _ k r _ t=>
  have f:ar.offset<U k:=by rw[<-r];exact(eX.1 e).1
  exists k[ar.offset],t _ _ _ e<|cT f;simp[c5,s,v,Instr.field,run_underlying u,o,asAgg,part,bW.vb,m,f]
def asW{S f:aw}{T:aP}{g h b:Z}{e H:Y V}(l:ux P S g h f b)(bu:b≠0)(bW:Ce P f b)(n:M.op=.field S T g)(u:O.val p T=W (.agg e))(w:am b (ay h e)=H):di P p M O (.agg H):=.same λz E N k=>by have c:=k.val u;generalize d:b1 z T=i at c;obtain⟨bz,ar,t,m,rfl,rfl,o⟩:=l.get bu;let⟨I,Q,r,s⟩:=bW.eD;cases c with|agg _ v y c x=>refine⟨h0<|aO<|am b<|ay ar.offset v,.agg H _ ?_ (λi d=>c i<|D6<|pE d) ?_,?_⟩;grind;grind;simp[c5,n,d,Instr.field,run_underlying t,m,asAgg,part,r.vb,s,o]
def as1{S:aw}{au ck:Z}{T c:aP}{H:Y C}{B:dd}{g:L}{b:Z}{Q:C}(bW:cu P S k1 au ck)(o:M.op=.index S T c)(t:O.val p T=W (.str H))(m:O.val p c=W (.int B g))(bu:g=(b:L))(k:H[b]?=W Q):di P p M O (bF Q):=.same λz E N f=>by
 have d:=f.val t;have e:=f.val m;generalize s:b1 z T=v at d;generalize r:b1 z c=cc at e;cases d;cases e;subst bu;refine⟨cN ez _,.int _ _,?_⟩;have l:(⟨aO H⟩:kZ)[b]?=W Q:=by
  let⟨h,i⟩:=eX.1 k;have n:=by exact h
  rw[getElem?_pos _ b n,<-i];rfl
 simp[c5,o,s,r,Instr.index,asIntOf,run_underlying bW.u,l]
def pS(p:bJ)(O:bc)(Q:c6 aP)(c:Z)(b:Z):Prop:=match Q with|ai=>b=c|W d=>∃B m,O.val p d=W (.int B m)/\m=(b:L)
def BP{E:bI}{B:dd}{b w:Z}{c:BoundsCode}(s:b<=w):ce P (Instr.sliceBound (cN B b) w c) E=ct b E:=by simp[Instr.sliceBound,asIntOf,s]
def Je{E:bI}{z:fI}{N:bf}(C:a_ p O z E N){Q:X}{len cap g d:Z}{c e:c6 aP}(k:pS p O c 0 g)(t:pS p O e len d)(n:g<=d)(o:d<=cap):ce P (Instr.sliceBounds Q len cap (c.map (b1 z)) (e.map (b1 z)) ai) E=ct (g,d,cap) E:=by
 have h:∀b m B l,O.val p b=W (.int B m)->m=l->b1 z b=cN B l:=by intro b m B l f hm;have r:=C.val f;generalize b1 z b=i at r;cases r;rw[hm]
 have A:ce P (Instr.sliceBounds Q len cap (c.map (b1 z)) (e.map (b1 z)) ai) E=ce P ((do
   let s<-match e.map (b1 z) with|W i=>Instr.sliceBound i cap (if Q then .sliceAcap else .sliceAlen)|ai=>Pure.pure len
   let H<-match c.map (b1 z) with|W i=>Instr.sliceBound i s .sliceB|ai=>Pure.pure 0
   Pure.pure (H,s,cap))) E:=by cases e<;>cases c<;>rfl
 rw[A];cases e;subst t;cases c;simp_all[pS]
 next b=>let⟨B,m,f,hm⟩:=k;simp[h b m B g f hm,BP n]
 next y=>
  let⟨w,x,v,u⟩:=t;cases c;subst k;simp[h y x w d v u,BP o]
  next b=>let⟨B,m,f,hm⟩:=k;simp[h b m B g f hm,h y x w d v u,BP n,BP o]
def as8{S:aw}{au ck:Z}{T:aP}{g f:c6 aP}{H:Y C}{b c:Z}(bW:cu P S k1 au ck)(m:M.op=.slice S T g f ai)(o:O.val p T=W (.str H))(l:pS p O g 0 b)(k:pS p O f (U H) c)(h:b<=c)(i:c<=U H):di P p M O (.str (am (c-b) (ay b H))):=.same λz E N e=>by
 have d:=e.val o;generalize n:b1 z T=r at d;cases d;exists _,.str _;have he:(⟨aO H⟩:kZ).extract b c=⟨aO (am (c-b) (ay b H))⟩:=by rw[Lib.extract_eq]
 simp[c5,m,Instr.sliceAt,n,J9,Sem.run_bind,run_underlying bW.u,Result.andThen_ok,Instr.slice];simp[Option.isSome_none,ahh,Pv,P7,Sem.run_bind,Je (P:=P) e (Q:=ae) (len:=U H) (cap:=U H) l k h i,Result.andThen_ok,Sem.run_pure,he]
def as6{S F:aw}{au ck dP J:Z}{T:aP}{s r:c6 aP}{i k o f B:Z}{t:aw}{v:Y V}{b c:Z}(bW:cu P S (c_ F) au ck)(he:gx P F J dP)(G:M.op=.slice S T s r ai)(K:O.val p T=W (.bH i k o f))(A:O.d[B]?=W (i,.j k J t v))(C:pS p O s 0 b)(y:pS p O r f c)(w:b<=c)(L:c<=f):di P p M O (.bH i k (o+b) (c-b)):=.same λz E N l=>by
 let⟨H,m,g,x⟩:=l.bH K A;let ak:=g.2.1;let run:∀base cap,b1 z T=eY base f cap->f<=cap->ce P (c5 (b1 z) M) E=ct (og<|eY (if cap=b then base else base.map (·.add (b*J))) (c-b)<|cap-b) E:=by intro base cap I U;let e:=Je (P:=P) l (Q:=ag) (cap:=cap) C y w q;simp[c5,G,Instr.sliceAt,I,J9,Sem.run_bind,run_underlying bW.u,Result.andThen_ok,Instr.slice,e,he.kw,Sem.run_pure]
 rcases x with⟨e,rfl,h⟩|⟨Q,n,cap,e,h,D,X,R⟩;have:b=0/\c=0:=q;obtain⟨rfl,rfl⟩:=this;refine⟨_,.bH _ _ _ _ H _ m (by rw[g.1];omega) aa λ_=>bj ⟨e,aa,aa⟩,run _ 0 h<|bv _⟩;refine⟨_,.bH _ _ _ _ H _ m (by rw[g.1];omega) ?_ λ_=>bp ⟨Q,if cap=b then n else n+b*J,cap-b,e,?_,q,q,?_⟩,run _ cap h D⟩;rfl;grind[Addr.add_lit];grind
def adh{d:Fn}{first c:bU aP}{i k:Y V}(t:M.op=.makeFunc d first c)(w:pc p O (a0 first) i)(x:pc p O (a0 c) k):di P p M O (.func d i k):=.same λz E N r=>by
 let⟨A,n⟩:=w.get;let⟨B,o⟩:=x.get;refine⟨.func d (first.map<|b1 z)<|c.map<|b1 z,?_,by simp[c5,t,Instr.makeFunc]⟩;let m:∀(e:bU _)(l:Y V),(∀(b:Z) T,l[b]?=W T->∃g,(a0 e)[b]?=W g/\O.val p g=W T)->∀b T h,l[b]?=W T->(ab (b1 z)<|a0 e)[b]?=W h->bk N T h:=by intro e l s b T h y f;let⟨g,u,v⟩:=s b T y;rw[db,u] at f;simp at f;subst f;exact r.val v
 have:=bk.func d i k _ _ (by simp[<-A]) (by simp[<-B]) (m _ _ n)<|m _ _ o;let C:aO (ab (b1 z)<|a0 first)=first.map (b1 z):=by apply OS;simp
 let D:aO (ab (b1 z)<|a0 c)=c.map (b1 z):=by apply OS;simp
 simp_all
def asS{f d:aw}{i:iz}{o g r h:Z}{B b:dd}{c:L}{T:aP}(m:cu P f i o g)(bW:cu P d (.int b) r h)(l:M.op=.convert f d T)(n:O.val p T=W (.int B c))(s:oD b c):di P p M O (.int b c):=.same λz E N k=>by have e:=k.val n;generalize t:b1 z T=v at e;cases e;exists cN b c,.int _ _;simp[c5,l,convert,Sem.run_bind,run_underlying m.u,run_underlying bW.u];simp_all[Conv.intToInt,wG]
def asT{f c:aw}{i:iz}{r g s h:Z}{B b:dd}{e:L}{T:aP}(m:cu P f i r g)(bW:cu P c (.int b) s h)(l:M.op=.convert f c T)(o:O.val p T=W (.int B e)):di P p M O (.int b (hf b e)):=.same λz E N k=>by have d:=k.val o;generalize n:b1 z T=t at d;cases d;exists cN b _,.int _ _;simp[c5,l,n,convert,Sem.run_bind,run_underlying m.u,run_underlying bW.u];rfl
def asU{d b:aw}{m e n f:Z}{H:Y C}{T:aP}(i:cu P d k1 m e)(bW:cu P b k1 n f)(h:M.op=.convert d b T)(l:O.val p T=W (.str H)):di P p M O (.str H):=.same λz E N g=>by have c:=g.val l;generalize k:b1 z T=o at c;cases c;exists _,.str H;simp[c5,h,k,convert,run_underlying i.u,run_underlying bW.u]
end
section
open Go.MapKept
def C9{P:bn}{E:bI}{A:Z}{c:bU k0}{b:Z}:E.heap[A]?=W (.map c b)->ce P (getObj A) E=ct (.map c b) E:=by grind[getObj,ce]
def V.isKey:iz->V->X|.bool,.bool _=>ag|.int B,.int b _=>b==B|k1,.str _=>ag|_,_=>ae
def V.rM:V->V->X|.bool z,.bool Q=>z==Q|.int _ z,.int _ Q=>z==Q|.str z,.str Q=>z==Q|_,_=>ae
def V.Mh{N:bf}{I:iz}{T:V}{b:bq}(s:bk N T b):T.isKey I->IsKey I b:=by cases I<;>cases s<;>simp_all[V.isKey,IsKey]
def V.aao{N:bf}{I:iz}{T w:V}{b cc:bq}(s:bk N T b)(c:bk N w cc)(d:T.isKey I)(e:w.isKey I):Instr.sameNow I b cc=W (T.rM w):=by cases I<;>cases s<;>simp[V.isKey] at d<;>cases c<;>simp[V.isKey] at e;rfl;grind[Instr.sameNow,V.rM];simp[Instr.sameNow,V.rM,g6];rw[nA,bytes_beq];simp
def mX:Y (V×V×Z)->V->Z->c6 (Z×V)|[],_,_=>ai|T::A,B,b=>if B.rM T.1 then W (b,T.2.1) else mX A B (b+1)
def nZ(I:iz)(b:Y (V×V×Z)):Prop:=∀T∈b,T.1.isKey I
def YS{N:bf}{I:iz}{B:V}{e:bq}(h:bk N B e)(i:B.isKey I):∀d H b,U d=U H->nZ I d->(∀(c:Z) T F,d[c]?=W T->H[c]?=W F->bk N T.1 F.key)->mX d B b=ai/\Ee I e H b=W ai\/∃c T F,b<=c/\mX d B b=W (c,T.2.1)/\Ee I e H b=W (W (c,F.val))/\d[c-b]?=W T/\H[c-b]?=W F/\B.rM T.1
|[],[],b,_,_,_=>bj ⟨aa,aa⟩|[],_::_,_,s,_,_=>cf|_::_,[],_,s,_,_=>cf|T::A,F::m,b,v,k,l=>by let o:=V.aao h (l 0 T F aa aa) i<|k T ao;cases n:B.rM T.1 with|true=>exact bp ⟨b,T,F,bv _,by grind[mX],by grind[Ee],ao,ao,n⟩|false=>rcases YS h i A m (b+1) aq (λw x=>k w aK) (λc w ar f g=>l (c+1) w ar cf cf) with⟨f,g⟩|⟨c,w,ar,f,g,p,r,t,u⟩;grind[mX,Ee];grind[mX,Ee]
def lB(c:Y (V×V×Z))(b:Z)(B d:V):Y (V×V×Z)×Z:=match mX c B 0 with|W (e,_)=>(c.modify e λT=>(B,d,T.2.2),b)|ai=>(c++[(B,d,b)],b+1)
def tP(b:Y (V×V×Z))(B:V):Y (V×V×Z):=match mX b B 0 with|W (c,_)=>iB b c|ai=>b
def Dl(b:Y (V×V×Z))(B:V):c6 V:=(mX b B 0).map (·.2)
section
variable{P:bn}{p:bJ}{ops:bU a7}{M:a7}{H:Y a7}{O:bc}{ak:cS->bc->Prop}
def cD.makeMap{S:aw}(f:O.guard ops M=W ag)(h:M.op=.makeMap S ai)(s:∀c,cD P p ops H (({O with d:=O.d++[(c,.map 0 [] 0)]}:bc).put M.dst (.jj c 0)) ak):cD P p ops (M::H) O ak:=.mn f λz E N e=>by
 let g:=e.cO.new (lf:=.map 0 [] 0) (dr:=⟨W _,0,0,0,0⟩) (bp ⟨a9 E.heap,aa,bv _⟩) (World.grownBy_alloc E _ _)
  ⟨aa,a9 E.heap,#[],aa,heap_alloc_new E _,⟨aa,ao,ao,ao⟩,ao,ao⟩
 exact⟨.map _,_,_,.jj N.n 0,_,(bf.jh λi b=>by rw[N.fresh _<|bv _] at b;cases b),.jj _ _ _ _ (N.kg _ _) (bv _) aa λ_=>⟨_,aa,aa⟩,g,bj (by simp[c5,h,Instr.makeMap]),s N.n⟩
def a_.jj{z:fI}{E:bI}{N:bf}(s:a_ p O z E N){T:aP}{e f B c:Z}{g:Y (V×V×Z)}(k:O.val p T=W (.jj e f))(i:O.d[B]?=W (e,.map f g c)):∃H Q b,N.m e=W H/\H.aS=f/\H.bR=W Q/\b1 z T=.map (W Q)/\E.heap[Q]?=W (.map b c)/\mF N g b/\(∀F∈a0 b,F.born<c)/\dT (ab (·.born) (a0 b)):=by let⟨H,o,u,Q,b,l,n,r,t⟩:=s.cO.gd _ _<|dY i;let h:=s.val k;cases h with|jj _ _ w x hm v h s=>simp_all
theorem mF.find{N:bf}{I:iz}{B:V}{f:bq}{c:Y (V×V×Z)}{d:bU k0}(s:mF N c d)(h:bk N B f)(i:B.isKey I)(k:nZ I c):mX c B 0=ai/\Ee I f (a0 d) 0=W ai\/∃(b:Z)(T:V×V×Z)(F:k0),mX c B 0=W (b,T.2.1)/\Ee I f (a0 d) 0=W (W (b,F.val))/\c[b]?=W T/\d[b]?=W F/\B.rM T.1:=by rcases YS h i _ (a0 d) 0 (by simpa using s.len) k (λb T F e g=>s.key b T F e aq) with e|⟨b,T,F,_,e,g,l,m,n⟩;simp_all;grind
def N8{E:bI}{Q:Z}{d:bU k0}{c:Z}{b:Obj}(e:E.heap[Q]?=W (.map d c)):ce P (setObj Q b) E=ct () {E with heap:=nG E.heap Q b}:=run_setObj_map b e
theorem afa{E:bI}{Q:Z}{b:Obj}:E.grownBy {E with heap:=nG E.heap Q b} (W Q):=⟨aa,aa,aa,ao,λd k c=>by grind⟩
def u0(e:c6 (Z×V))(c:Y (V×V×Z))(b:Z)(B d:V):Y (V×V×Z)×Z:=match e with|W (f,_)=>(c.modify f λT=>(B,d,T.2.2),b)|ai=>(c++[(B,d,b)],b+1)
structure vz(P:bn)(gJ:aw)(E:bI)(Dg:bq)(gb:Y (V×V×Z))(es:bU k0)(fd:c6 (Z×V)):Prop where
 K2:∀em,ce P (Instr.checkKey em 10000 gJ Dg) E=ct () E
 stay:ce P (Instr.keyThatStays Dg Dg) E=ct Dg E
 find:fd=ai/\ce P (Instr.findKey gJ Dg (a0 es)) E=ct ai E\/∃(cs:Z)(ap:V×V×Z)(F:k0),fd=W (cs,ap.2.1)/\ce P (Instr.findKey gJ Dg (a0 es)) E=ct (W (cs,F.val)) E/\gb[cs]?=W ap/\es[cs]?=W F/\Dg=F.key
theorem vz.of{t:aw}{I:iz}{x w:Z}{E:bI}{N:bf}{e:V}{v:bq}{b:Y (V×V×Z)}{k:bU k0}(i:cu P t I x w)(c:e.isKey I)(p:nZ I b)(r:mF N b k)(d:bk N e v):vz P t E v b k (mX b e 0):=by let o:=V.Mh d c;exists λem=>run_checkKey i.u o em _,run_keyThatStays o;rcases r.find d c p with⟨f,g⟩|⟨s,ap,F,f,g,h,m,C⟩;exact bj ⟨f,run_findKey i.u g⟩;exact bp ⟨s,ap,F,f,run_findKey i.u g,h,m,(by let l:=r.key s ap F h m;let n:=p ap<|dY h;let y:=V.aao d l c n;let⟨A,z,B⟩:=sameNow_of_keys (V.Mh d c)<|V.Mh l n;simp_all)⟩
def Yv{aB ay aI:aw}{a_ aG:Z}{aD T w:aP}{s D B c:Z}{e:Y (V×V×Z)}{f g:V}{l:c6 (Z×V)}(am:cu P aB (.map ay aI) a_ aG)(au:M.op=.mapUpdate aB aD T w)(aU:O.val p aD=W (.jj s D))(X:O.d[B]?=W (s,.map D e c))(a7:O.val p T=W f)(a9:O.val p w=W g)(aF:∀{E N az h},mF N e h->bk N f az->vz P ay E az e h l):eH P p M O .undef (aR O.d B (s,.map D (u0 l e c f g).1 (u0 l e c f g).2)):=by
 refine .of λz E N C=>?_;obtain⟨aA,Q,h,aT,a5,L,ax,t,i,a3,bu⟩:=C.jj aU X;have av:=C.val a7;have a2:=C.val a9;have A:=@aF E _ _ _ i av;have K:∀r x,(u0 l e c f g).2=x->mF N (u0 l e c f g).1 r->(∀F∈a0 r,F.born<x)->dT (ab (·.born) (a0 r))->ce P (c5 (b1 z) M) E=ct .skip {E with heap:=nG E.heap Q (.map r x)}->∃J bO H aE aC,N.le H/\bk H aE J/\Holds p H aC bO/\(ce P (c5 (b1 z) M) E=ct (og J) bO\/J=undef/\ce P (c5 (b1 z) M) E=ct .skip bO)/\aE=.undef/\aC=aR O.d B (s,.map D (u0 l e c f g).1 (u0 l e c f g).2):=by intro r x S aY a4 bc a1;have ak:N.le (N.fV s aA):=bf.jh λbd y=>aq;refine⟨undef,_,N.fV s aA,.undef,_,ak,.undef _,C.cO.pB X aT aa (bv _) (λ_=>aa) (bj aa) (by rw[L];exact afa) ?_,bp ⟨aa,a1⟩,aa,aa⟩;exists a5,Q,r,L,by rw[S];exact(heap_set t).1,aY.mono ak,by rw[S];exact a4
 have R:∀b ar,(∀F,(ar F).born=F.born)->(h.modify b ar).toList.map (·.born)=ab (·.born) (a0 h):=by intro b ar aN;apply jn;intro k;simp only[db,wH,JR];split;cases h[k]?<;>simp[aN];rfl
 rcases A.find with⟨y,I⟩|⟨k,be,ba,y,I,bb,aJ,aK⟩;have v:u0 l e c f g=(e++[(f,g,c)],c+1):=by simp[u0,y]
 apply K (h.push {key:=b1 z T,val:=b1 z w,born:=c}) (c+1) (by rw[v]);rw[v];have get:∀(b:Z) ap F,(e++[(f,g,c)])[b]?=W ap->(h.push {key:=b1 z T,val:=b1 z w,born:=c})[b]?=W F->e[b]?=W ap/\h[b]?=W F\/ap=(f,g,c)/\F={key:=b1 z T,val:=b1 z w,born:=c}:=by
  intro b ap F aX he;rw[nB] at aX;rw[Array.getElem?_push] at he;split at aX;rw[ad (by rw[<-i.len];omega)] at he;exact bj ⟨aX,he⟩;have aQ:b=U e:=by have:=(eX.1 aX).1;simp at this;omega
  subst aQ;rw[af i.len] at he;simp_all
 refine⟨by simp[i.len],λb ap F aX he=>?_,λb ap F aX he=>?_,λb ap F aX he=>?_⟩<;>rcases get b ap F aX he with⟨m,n⟩|⟨rfl,rfl⟩
 exact i.key b ap F m n;omega;exact i.val b ap F m n;omega;exact i.born b ap F m n;rfl;grind;grind;simp[c5,au,ax,Instr.mapUpdate,run_underlying am.u,C9 t,A.K2,I,N8 t];have v:u0 l e c f g=(e.modify k λap=>(f,g,ap.2.2),c):=by simp[u0,y]
 apply K (h.modify k λF=>{F with key:=b1 z T,val:=b1 z w}) c (by rw[v]);rw[v];have get:∀(b:Z) ap F,(e.modify k λap=>(f,g,ap.2.2))[b]?=W ap->(h.modify k λF=>{F with key:=b1 z T,val:=b1 z w})[b]?=W F->e[b]?=W ap/\h[b]?=W F\/∃G o,e[b]?=W G/\h[b]?=W o/\ap=(f,g,G.2.2)/\F={o with key:=b1 z T,val:=b1 z w}:=by intro b ap F aX he;rw[List.getElem?_modify] at aX;rw[JR] at he;by_cases aS:k=b;simp_all;simp[aS,Pv] at aX he;exact bj ⟨by simpa using aX,he⟩
 refine⟨by simp[i.len],λb ap F aX he=>?_,λb ap F aX he=>?_,λb ap F aX he=>?_⟩<;>rcases get b ap F aX he with⟨m,n⟩|⟨G,o,m,n,rfl,rfl⟩
 exact i.key b ap F m n;exact av;exact i.val b ap F m n;exact a2;exact i.born b ap F m n;exact i.born b G o m n;intro o aL;have:o.born∈(h.modify k λF=>{F with key:=b1 z T,val:=b1 z w}).toList.map (·.born):=dI.2 ⟨o,aL,aa⟩;rw[R k (λF=>{F with key:=b1 z T,val:=b1 z w}) λ_=>aa] at this;obtain⟨aH,aM,aW⟩:=dI.1 this;rw[<-aW];exact a3 aH aM;rw[R k (λF=>{F with key:=b1 z T,val:=b1 z w}) λ_=>aa];exact bu;simp[c5,au,ax,Instr.mapUpdate,run_underlying am.u,C9 t,A.K2,I,N8 t,aJ,<-aK,A.stay]
def amM{k i o:aw}{I:iz}{C m D n:Z}{l T w:aP}{g h B e:Z}{c:Y (V×V×Z)}{b f:V}(v:cu P k (.map i o) C m)(r:cu P i I D n)(x:M.op=.mapUpdate k l T w)(y:O.val p l=W (.jj g h))(s:O.d[B]?=W (g,.map h c e))(z:O.val p T=W b)(A:O.val p w=W f)(t:b.isKey I)(u:nZ I c):eH P p M O .undef (aR O.d B (g,.map h (lB c e b f).1 (lB c e b f).2)):=Yv v x y s z A<|vz.of r t u
def amL{au am aC aS:aw}{I:iz}{aT az aU aA:Z}{ax T:aP}{k v B l:Z}{b:Y (V×V×Z)}{h:V}(K:cu P au (.map am aC) aT az)(t:cu P am I aU aA)(L:M.op=ft {callee:=gP .delete,args:=#[ax,T],argTypes:=#[au,aS]})(aJ:O.val p ax=W (.jj k v))(D:O.d[B]?=W (k,.map v b l))(aQ:O.val p T=W h)(H:h.isKey I)(aH:nZ I b):eH P p M O (.tuple []) (aR O.d B (k,.map v (tP b h) l)):=by
 refine .of λz E N y=>?_;let⟨ar,Q,c,aI,aN,aF,ak,o,r,S,bu⟩:=y.jj aJ D;let R:=y.val aQ;let G:=V.Mh R H;let C:∀i,mF N (tP b h) i->(∀F∈a0 i,F.born<l)->dT (ab (·.born)<|a0 i)->ce P (c5 (b1 z) M) E=ct (og<|o1 #[]) {E with heap:=nG E.heap Q (.map i l)}->∃A bO w ay av,N.le w/\bk w ay A/\Holds p w av bO/\(ce P (c5 (b1 z) M) E=ct (og A) bO\/A=undef/\ce P (c5 (b1 z) M) E=ct .skip bO)/\ay=.tuple []/\av=aR O.d B (k,.map v (tP b h) l):=by intro i aK aM a2 aL;let J:N.le (N.fV k ar):=bf.jh λa3 s=>aq;refine⟨_,_,N.fV k ar,.tuple [],_,J,.tuple [] [] aa ao,y.cO.pB D aI aa (bv _) (λ_=>aa) (bj aa) (by grind[afa]) ?_,bj aL,aa,aa⟩;exists aN,Q,i,aF,(heap_set o).1,aK.mono J,aM
 rcases r.find R H aH with⟨s,x⟩|⟨g,ap,F,s,x,aW,aE,aY⟩;let X:tP b h=b:=by simp[tP,s]
 apply C c aq S bu;simp[c5,L,ak,oi,oh,o2,Builtin.delete_,run_underlying K.u,C9 o,run_checkKey t.u G,run_findKey t.u x,N8 o];let X:tP b h=iB b g:=by simp[tP,s]
 let aG:g<a9 c:=(vp.1 aE).1;let he:a0 (c.eraseIdxIfInBounds g)=iB (a0 c) g:=by unfold Array.eraseIdxIfInBounds;rw[Ca aG,Array.toList_eraseIdx]
 let U:(c.eraseIdxIfInBounds g).toList.Sublist (a0 c):=by rw[he];exact O1 _ _
 refine C (c.eraseIdxIfInBounds g) ?_ (λaB aD=>S aB<|U.subset aD) ((U.map _).nodup bu) ?_;rw[X];let get:∀(e:Z) ap F,(iB b g)[e]?=W ap->(c.eraseIdxIfInBounds g)[e]?=W F->∃f:Z,b[f]?=W ap/\c[f]?=W F:=by intro e ap F aX a1;rw[O4] at aX;split at aX;grind;grind
 refine⟨?_,λe ap F aX he=>?_,λe ap F aX he=>?_,λe ap F aX he=>?_⟩;rw[<-wI,he,Vj,Vj];simp[r.len];let⟨f,m,n⟩:=get e ap F aX he;exact r.key f ap F m n;let⟨f,m,n⟩:=get e ap F aX he;exact r.val f ap F m n;let⟨f,m,n⟩:=get e ap F aX he;exact r.born f ap F m n;simp[c5,L,ak,oi,oh,o2,Builtin.delete_,run_underlying K.u,C9 o,run_checkKey t.u G,run_findKey t.u x,N8 o]
def ap_{E:bI}{p n k:aw}{z r Q s:Z}{N:bf}{i:Y (V×V×Z)}{c:bU k0}{o ap:bq}{d:c6 (Z×V)}(m:cu P p (.map n k) z r)(aX:jr P k ap)(l:E.heap[Q]?=W (.map c s))(x:mF N i c)(f:vz P n E o i c d)(h:X):∃g,bk N ((d.map (·.2)).getD (V.const ap)) g/\ce P (Instr.lookup p (.map (W Q)) o h) E=ct (if h then o1 #[g,hA (d.map (·.2)).isSome] else g) E:=by
 rcases f.find with⟨b,e⟩|⟨y,w,F,b,e,t,v,A⟩;exists ap,by grind[bk.const]
 simp[Instr.lookup,run_underlying m.u,C9 l,f.K2,e,aX.run,b];exists F.val,by simp[b];exact x.val y w F t v
 simp[Instr.lookup,run_underlying m.u,C9 l,f.K2,e,b]
def aa9(u:c6 V)(ap:bq)(b:X):V:=if b then .tuple [u.getD (V.const ap),.bool u.isSome] else u.getD (V.const ap)
def qS(c:Y (V×V×Z))(b:V)(ap:bq)(d:X):V:=if d then .tuple [(Dl c b).getD (V.const ap),.bool (Dl c b).isSome] else(Dl c b).getD (V.const ap)
def ap9{N:bf}{u:c6 V}{ap c:bq}{b:X}(s:bk N (u.getD (V.const ap)) c):bk N (aa9 u ap b) (if b then o1 #[c,hA u.isSome] else c):=by
 cases b;exact s;refine .tuple _ _ aa λf T cc e d=>?_
 match f with|0=>simp_all|1=>simp at e d;subst e;subst d;exact .bool _|f+2=>trivial
def adU{o m g:aw}{I u:Z}{r T:aP}{l s B v:Z}{c:Y (V×V×Z)}{f:V}{ap:bq}{b:X}{h:c6 (Z×V)}(C:cu P o (.map m g) I u)(aX:jr P g ap)(D:M.op=.lookup o r T b)(F:O.val p r=W (.jj l s))(A:O.d[B]?=W (l,.map s c v))(H:O.val p T=W f)(t:∀{E N n e},mF N c e->bk N f n->vz P m E n c e h):di P p M O (aa9 (h.map (·.2)) ap b):=.same λz E N i=>by let⟨S,Q,e,K,R,J,G,y,k,L,bu⟩:=i.jj F A;let⟨U,w,x⟩:=ap_ C aX y k (t k<|i.val H) b;exact⟨_,ap9 w,by simp[c5,D,G,Sem.run_bind,x,Result.andThen_ok]⟩
def auh{i h f:aw}{I:iz}{z m A n:Z}{k T:aP}{g l B o:Z}{c:Y (V×V×Z)}{b:V}{ap:bq}{e:X}(v:cu P i (.map h f) z m)(r:cu P h I A n)(aX:jr P f ap)(w:M.op=.lookup i k T e)(x:O.val p k=W (.jj g l))(s:O.d[B]?=W (g,.map l c o))(y:O.val p T=W b)(t:b.isKey I)(u:nZ I c):di P p M O (qS c b ap e):=adU v aX w x s y<|vz.of r t u
def aud{e w k:aw}{x h:Z}{f:aP}{c g B i:Z}{b:Y (V×V×Z)}(o:cu P e (.map w k) x h)(r:M.op=ft {callee:=gP .len,args:=#[f],argTypes:=#[e]})(s:O.val p f=W (.jj c g))(n:O.d[B]?=W (c,.map g b i)):di P p M O (.int aj (U b)):=.same λz E N l=>by let⟨G,Q,y,C,F,A,v,m,t,D,bu⟩:=l.jj s n;exists cN _ _,.int _ _;simp[c5,r,v,oi,oh,o2,Builtin.len_,run_underlying o.u,C9 m,goInt,t.len]
end
end
section
variable{P:bn}{p:bJ}{ops:bU a7}{M:a7}{H:Y a7}{O g1:bc}{ak:cS->bc->Prop}{A:V}{aD:bV}
def a_.x2{z:fI}{E:bI}{N:bf}(s:a_ p O z E N)J:a_ p ⟨O.c,O.d++[(N.n,.jl J)]⟩ z E (N.fV N.n ⟨ai,0,0,0,J⟩):=by
 let f:N.le (N.fV N.n ⟨ai,0,0,0,J⟩):=bf.jh λi b=>by rw[N.fresh _<|bv _] at b;cases b
 exact⟨s.cO.new (lf:=.jl J) (dr:=⟨ai,0,0,0,J⟩) (bO:=E) (bj aa) ⟨aa,aa,aa,bv _,λ_ _ _=>aa⟩ ⟨aa,aa,aa⟩,λS T e=>by let⟨h,b,g⟩:=s.c S T e;exact⟨h,b,g.mono f⟩,λu T e=>(s.gR u T e).mono f,s.size,s.defers⟩
def e3.x2{b:gw}J(s:∀f,e3 P p b ⟨O.c,O.d++[(f,.jl J)]⟩ ak):e3 P p b O ak:=λz E N e=>s N.n z E _<|e.x2 J
def cD.x2 J(s:∀f,cD P p ops H ⟨O.c,O.d++[(f,.jl J)]⟩ ak):cD P p ops H O ak:=λe z E N b=>s N.n e z E _<|b.x2 J
def Holds.setObj{N:bf}{d:bV}{E:bI}(s:Holds p N d E){B h:Z}{n i:cB}(z:d[B]?=W (h,n))(A:∀H,k3 N E H n->k3 N E H i):Holds p N (aR d B (h,i)) E:=by
 let g:∀b M,(b,M)∈aR d B (h,i)->∃e,(b,e)∈d/\∀H,k3 N E H e->k3 N E H M:=by intro b M c;rcases Fu c with c|⟨r,y,c⟩;grind;grind
 let o:ab (·.1) (aR d B (h,i))=ab (·.1) d:=by rw[hl];apply jn;intro r;rw[qo];split;grind;rfl
 refine⟨s.le,s.t,s.nl,s.nr,s.ns,λb M c=>?_,s.jT,s.lT,λb M c=>?_,by rw[o];exact s.kt,λb M H Q c=>?_,λb M m e H u Q c f=>?_⟩;let⟨e,f,_⟩:=g b M c;exact s.own b e f;let⟨e,f,k⟩:=g b M c;let⟨H,l,x⟩:=s.gd b e f;simp_all;let⟨e,f,_⟩:=g b M c;exact s.ld b e H Q f;let⟨w,k,_⟩:=g b M c;let⟨v,l,_⟩:=g m e f;exact s.inj b w m v H u Q k l
def QM{S cR F:aw}{au ck J dP:Z}{ap:bq}{T w:aP}{e B m:Z}{i:Y V}(bW:cu P S (c_ F) au ck)(he:gx P F J dP)(aX:jr P F ap)(qM:a9 (dp ap)=J)(x:M.op=ft {callee:=gP oZ,args:=#[T,w],argTypes:=#[S,cR]})(D:O.val p T=W .bo)(h:O.d[B]?=W (e,.jl J))(C:jP P p ⟨O.c,aR O.d B (e,.j 0 J F [])⟩ w cR J m i)(R:m<=ja)(U:m*dP<=140737488355328):eH P p M O (.bH e 1 0 m) (aR O.d B (e,.j 1 J F i)):=by
 have:=(eX.1 h).1;have u:∀z E N,a_ p O z E N->a_ p ⟨O.c,aR O.d B (e,.j 0 J F [])⟩ z E N:=λz E N b=>
  ⟨b.cO.setObj h λH s=>⟨s.1,s.2.1,bj ⟨s.2.2,aa⟩⟩,b.c,b.gR,b.size,b.defers⟩
 intro z E N b L Q o;let⟨H,v,f⟩:=b.cO.gd e _<|dY h;have k:=b.val D;have G:b1 z T=eY ai 0 0:=by generalize b1 z T=K at k;cases k;rfl
 have I:=QL (off:=0) (B:=B) bW he aX qM x aq ao C q bi
  z E N (u z E N b) ⟨H,v,⟨f.1,f.2.1,bj ⟨f.2.2,aa⟩⟩,bj ⟨f.2.2,aa,G⟩⟩
 obtain⟨K,bO,l,ak,X,n,y,r,g,rfl,rfl⟩:=I;have t:=by simpa using r
 have A:=by simpa using y
 unfold Oper.wp;rcases g with g|⟨rfl,g⟩<;>rw[g];exact o _ _ l n A t;trivial
inductive rv(d:bV):V->V->Prop|j (id aS J:Z) (F:aw) (hE:Y V) (T w:V) (hm:(id,cB.j aS J F hE)∈d) (s:tk id aS J hE T w):rv d T w|map (id aS clock:Z) (gb:Y (V×V×Z)) (hm:(id,cB.map aS gb clock)∈d):rv d (.jj id aS) (.tJ gb clock)
def rv.all{d:bV}(B:Z){id aS J b:Z}{F:aw}{hE:Y V}(c:d[B]?=W (id,.j aS J F hE))(s:b=U hE):fS (rv d) (.bH id aS 0 b) (.al J hE):=by subst s;have:=tk.bH (id:=id) (aS:=aS) (J:=J) (hE:=hE) 0 (U hE) q;simp at this;exact .base _ _<|.j id aS J F _ _ _ (dY c) this
def rv.own{d:bV}(B b c:Z){f g J:Z}{F:aw}{e:Y V}(h:d[B]?=W (f,.j g J F e))(s:b<U e):fS (rv d) (.own f g b c) (.ref J e b c):=.base _ _<|.j f g J F _ _ _ (dY h)<|.own b c s
def Holds.view{E:bI}:∀d N,Holds p N d E->∃A,N.le A/\A.m=N.m/\(∀Q M z,A.I Q M=W z->ho E ⟨Q,M,ai⟩=W z)/\(∀Q D clock,A.J Q=W (D,clock)->E.heap[Q]?=W (.map D clock))/\∀T w,rv d T w->∀z,bk A T z->bk A w z
|[],N,s=>⟨N,bf.le.refl N,aa,s.jT,s.lT,λT w G=>by trivial⟩|(id,.j av J F Y)::x,N,s=>by
 let⟨C,O,hm,L,H,U,R,P,am⟩:=s.freeze (B:=0) aa;let⟨l,g,k,u,v,f⟩:=Holds.view x C L;let ap:GL C H J Y:=am;refine⟨l,O.trans g,b0 k hm,u,v,λT w G=>?_⟩;cases G with
 |j c e y o r _ _ b i=>rcases fH.1 b with b|b;cases b;exact tk.key aq R P (ap.mono g) _ _ i;exact f _ _ (.j c e y o r _ _ b i)|map c e n t b=>rcases fH.1 b with b|b;simp_all;exact f _ _ (.map c e n t b)
|(id,.map av S clock)::x,N,s=>by
 let⟨C,H,Q,D,O,hm,L,U,R,G,ak,ar,P,bu⟩:=s.Za (B:=0) aa;let⟨l,g,k,u,v,f⟩:=Holds.view x C L;refine⟨l,O.trans g,b0 k hm,u,v,λT w h=>?_⟩;cases h with
 |j c e y o r _ _ b i=>rcases fH.1 b with b|b;simp_all;exact f _ _ (.j c e y o r _ _ b i)|map c e n t b=>
  rcases fH.1 b with b|b;cases b;intro z au;cases au with|jj _ _ az z X ay ax Z=>rw[k,hm,U] at X;cases X;obtain⟨aw,h,rfl⟩:=Z<|bQ R;rw[G] at h;cases h;let K:=ar.mono g;exact .tJ S clock Q D (g.J _ _ ak) K.len K.key K.val K.born P bu
  exact f _ _ (.map c e n t b)
|(id,.iter S clock seen)::x,N,s=>by
 let⟨l,g,k,u,v,f⟩:=Holds.view x N<|s.drop<|ahz _ _;refine⟨l,g,k,u,v,λT w h=>?_⟩;cases h with
 |j c e y o r _ _ b i=>rcases fH.1 b with b|b;cases b;exact f _ _ (.j c e y o r _ _ b i)|map c e n t b=>rcases fH.1 b with b|b;cases b;exact f _ _ (.map c e n t b)
|(id,.jl J)::x,N,s=>by let⟨l,g,k,u,v,f⟩:=Holds.view x N<|s.drop<|ahz _ _;refine⟨l,g,k,u,v,λT w h=>?_⟩;cases h with|j c e y o r _ _ b i=>rcases fH.1 b with b|b;cases b;exact f _ _ (.j c e y o r _ _ b i)|map c e n t b=>rcases fH.1 b with b|b;cases b;exact f _ _<|.map c e n t b
def th(dq:V->V->Prop):Y V->Y V->Prop|[],b=>b=[]|T::c,w::b=>fS dq T w/\th dq c b|_::_,[]=>hP
def th.get{dq:V->V->Prop}:∀{c d:Y V},th dq c d->U c=U d/\∀(b:Z) w,d[b]?=W w->∃T,c[b]?=W T/\fS dq T w
|[],d,s=>by grind[th]|T::c,[],s=>s.elim|T::c,w::d,s=>by
 cases th.get s.2;refine⟨aK,λb ap aX=>?_⟩;cases b;simp at aX;subst aX;exact⟨T,aa,s.1⟩
 next b=>simp_all
def V.flat:V->X
|.bool _|.int _ _|.str _|.ks|.bo|.xG|.xE|.xF=>ag|.tuple H=>H.all λ|.bool _|.int _ _|.str _|.ks|.bo|.xG|.xE|.xF=>ag|_=>ae
|_=>ae
def bk.flat{N e:bf}{T:V}{d:bq}(s:bk N T d)(b:T.flat):bk e T d:=by
 cases s with
 |bool Q=>exact .bool Q|int B i=>exact .int B i|str H=>exact .str H|ks=>exact .ks|bo=>exact .bo|xG=>exact .xG|xE=>exact .xE|xF=>exact .xF|tuple l k f s=>refine .tuple l k f λh w cc c g=>?_;simp[V.flat,kY] at b;let m:=b w<|dY c;cases s h w cc c g<;>first|trivial|exact .bool _|exact .int _ _|exact .str _|exact .ks|exact .bo|exact .xG|exact .xE|exact .xF
 |_=>trivial
def eN.arZ{i:Y (Z×V)}{ar:fM}{d:Y V}(s:∀N(c:Y bq) E,U c=U d->(∀(e:Z) T b,d[e]?=W T->c[e]?=W b->bk N T b)->∃b,bk N A b/\ln P ar (aO c) E (·=lo b/\·=E)):eN P i ar d A:=by intro N c E n f g k l;let⟨b,m,h⟩:=s N c E f g;apply iK h;grind
theorem cY.refl{dq:V->V->Prop}:∀H,cY dq H H|[]=>.nil|b::H=>.same b<|cY.refl H
def e3.perm{e:gw}f(g:g7 f O.d)(s:e3 P p e ⟨O.c,f⟩ ak):e3 P p e O ak:=λz E N b=>s z E N ⟨b.cO.perm g,b.c,b.gR,b.size,b.defers⟩
def eN.ofInt{i:Y (Z×V)}{ar:fM}{B:dd}{b:L}{c:bq}(k:∀N,bk N A c)(s:∀E,ln P ar #[cN B b] E (·=lo c/\·=E)):eN P i ar [.int B b] A:=by
 intro N f E l d e g h
 match f,d with|[z],_=>have:=e 0 _ _ aa aa;cases this;apply iK<|s E;rintro F bO ⟨rfl,rfl⟩;grind
def eN.ofBool{i:Y (Z×V)}{ar:fM}{Q:X}{b:bq}(h:∀N,bk N A b)(s:∀E,ln P ar #[hA Q] E (·=lo b/\·=E)):eN P i ar [.bool Q] A:=by
 intro N e E k c d f g
 match e,c with|[z],_=>have:=d 0 _ _ aa aa;cases this;apply iK<|s E;rintro F bO ⟨rfl,rfl⟩;grind
def W9:∀(b:Y C)(J:kZ),(b.map λQ=>(ax Q:Int)).foldl (λA c=>A.push<|gn<|aG c) J=J++⟨aO b⟩|[],J=>by apply U3;simp|Q::b,J=>by simp only[ia,JX];rw[W9 b<|J.push<|gn<|aG (ax Q:L)];apply U3;simp
def alq{E:bI}{e d F:aw}{m h n i o k:Z}{b:Y C}{z:Addr}{f:Z}(l:cu P e (c_ F) m h)(he:cu P F (.int ez) o k)(bW:cu P d k1 n i)(s:∀c Q,b[c]?=W Q->ho E (z.add c)=W (cN ez (ax Q:Int))):ce P (convert e d (eY (W z) (U b) f)) E=ct (jO ⟨aO b⟩) E:=by
 rw[run_convert_bytes_string E e d F _ _ _ l.u he.u bW.u];let g:=run_loadCells (P:=P) (w:=E) z (U b) (λc=>cN ez<|ax<|(b[c]?).getD 0) (λc p=>by simp_all);let he:((bM<|U b).map λc=>cN ez<|ax<|(b[c]?).getD 0)=ab (cN ez) (b.map λQ=>ax Q):=by apply rg;simp;grind
 rw[he] at g;rw[run_bytesToString E z _ f _ g,W9];congr 2
def asR{g c F:aw}{az w aA m aB x:Z}{T:aP}{b:Y C}{t v f l B:Z}{A:aw}{h:Y V}(r:cu P g (c_ F) az w)(he:cu P F (.int ez) aB x)(bW:cu P c k1 aA m)(aK:M.op=.convert g c T)(av:O.val p T=W (.bH t v f l))(S:O.d[B]?=W (t,.j v 1 A h))(hlen:l=U b)(I:am l (ay f h)=ab bF b):di P p M O (.str b):=.same λz E N G=>by
 let⟨H,aI,ak,K⟩:=G.bH av S;subst hlen;refine⟨_,.str b,?_⟩;let aL:ce P (convert g c<|b1 z T) E=ct (jO ⟨aO b⟩) E:=by
  rcases K with⟨_,D,i⟩|⟨Q,ax,cap,J,i,aJ,aF,e⟩;rw[i];have:=l4 D;subst this;rw[run_convert_bytes_string E g c F _ _ _ r.u he.u bW.u];rfl;rw[i];refine alq r he bW λk y o=>?_;let R:=(eX.1 o).1;let ap:=by
   have:(am (U b) (ay f h))[k]?=W (bF y):=by rw[I,db,o];rfl
   rw[m8,af R,sg] at this;exact this
  obtain⟨_,ar,⟨aE,_⟩|⟨m,aC,n,L,aX,aH,aD,aG,X⟩⟩:=ak;simp_all;rw[J] at n;cases n;let⟨cc,au,aq⟩:=X _ 0 _ _ ap aa;rcases e with e|⟨e,_⟩;omega;rw[Addr.add_lit];have:ax+k=H.base+(f+k)*H.s+0:=by rw[e,ar];omega
  rw[L.cell,this,au];cases aq;rfl
 simp_all[c5,Sem.run_bind,Result.andThen_ok]
def rB(d:Z->c6 (Z×Z)):Y V->Y (Z×V)->c6 (Y V)
|b,[]=>W b|b,(e,I)::f=>
 match d e with|W (c,size)=>if U I.cells=size/\c+size<=U b then rB d (am c b++I.cells++ay (c+size) b) f else ai|ai=>ai
def Y4{off:Z}:∀c B(b:Y bq),off+B+U c<=U b->(c.zipIdx B).foldl (λb T=>nG b (off+T.2) T.1) (aO b)=aO (am (off+B) b++c++ay (off+B+U c) b)
|[],B,b,_=>ao|T::c,B,b,s=>by
 simp;rw[Y4 c _ _ aK];let e:am (off+(B+1)) (aR b (off+B) T)=am (off+B) b++[T]:=by
  let d:am (off+B) (aR b (off+B) T)=am (off+B) b:=by apply jn;intro g;rw[m8,m8];split;grind;rfl
  rw[<-z1,Gw aK,d];simp
 let f:ay (off+(B+1)+U c) (aR b (off+B) T)=ay (off+B+(U c+1)) b:=by rw[List.drop_set_of_lt q];congr 1;omega
 simp_all
def QY{N:bf}{t:Z->c6 (Z×Z)}:∀k m d e i,U k=U m->(∀(p:Z) l f,k[p]?=W l->m[p]?=W f->l.1=f.1/\pN N l.2 f.2.cells.toList)->pN N (.agg d) e->rB t d k=W i->∃z,Instr.fill t (aO e) m=W (aO z)/\pN N (.agg i) z
|[],[],d,e,i,_,_,h,s=>by simp[rB] at s;subst s;exists e,aa|[],_::_,_,_,_,s,_,_,_=>cf|_::_,[],_,_,_,s,_,_,_=>cf|(K,I)::k,(P,g)::m,d,e,i,hlen,y,h,s=>by
 let⟨v,n⟩:=y 0 _ _ aa aa;dsimp at v n;subst v;unfold rB at s;unfold Instr.fill;cases G:t K;simp_all
 next f=>
  let⟨off,size⟩:=f;rw[G] at s;dsimp at s⊢;split at s;rename_i A;let⟨x,O⟩:=A;let H:U e=U d:=h.1;let r:a9 (dp g)=size:=by rw[<-wI,n.1,x]
  let B:¬(a9 (dp g)≠size||aH (off+a9 (dp g)>a9 (aO e))):=by simp[r];omega
  rw[ad B];let D:(dp g).zipIdx.foldl (λd T=>nG d (off+T.2) T.1) (aO e)=aO (am off e++a0 (dp g)++ay (off+size) e):=by have:=Y4 (off:=off) (a0<|dp g) 0 e bi;simp only[qp,wI,r] at this;rw[<-this,<-ag7,ahd]
  rw[D];refine QY k m _ _ i aK (λp l f L M=>y (p+1) l f cf cf) ?_ s;let C:U I.cells=size:=x;let J:U (a0<|dp g)=size:=by simpa using r
  refine⟨?_,?_,?_⟩;show _=U (am off d++I.cells++ay (off+size) d)
  (simp;omega)
  intro T b;rcases fp.1 b with b|b;rcases fp.1 b with b|b;exact h.2.1 T<|pE b;exact n.2.1 T b;exact h.2.1 T<|D6 b;intro u w T c b;let c:(am off d++I.cells++ay (off+size) d)[u]?=W w:=c;rw[eS] at b c;rw[nB] at c b;simp[nD,H,Vx<|show off<=U d by omega] at c b;split at c;rename_i o;rw[af o] at b;rw[m8,af o] at c b;exact h.2.2 u w T c b;rename_i E;rw[ad E] at b;rw[nB] at c b;simp only[C,J] at c b;split at c;rename_i o;rw[af o] at b;exact n.2.2 _ w T c b;rename_i F;rw[ad F] at b;rw[sg] at c b;exact h.2.2 _ w T c b;trivial
def u7(p:bJ)(O:bc):Y (Z×aP)->c6 (Y (Z×V))|[]=>W []|(c,T)::A=>match O.val p T,u7 p O A with|W I,W b=>if I.fits then W ((c,I)::b) else ai|_,_=>ai
def u7.get:∀{d:Y (Z×aP)}{b:Y (Z×V)},u7 p O d=W b->U d=U b/\∀(e:Z) c,b[e]?=W c->∃T,d[e]?=W (c.1,T)/\O.val p T=W c.2/\c.2.fits|[],b,s=>by grind[u7]|(i,T)::A,b,s=>by unfold u7 at s;split at s;rename_i I g h f;split at s;simp at s;cases u7.get f;grind;trivial;trivial
structure GO(P:bn)(S:aw)(pl:Y (Z×Z)):Prop where
 h:(match kD P S with|W (.struct bz)=>(a0 bz).mapM λar=>(P.info? ar.type).map λD=>(ar.offset,D.size)|_=>ai)=W pl
def GO.run{S:aw}{b:Y (Z×Z)}(s:GO P S b):∃bz,kD P S=W (.struct bz)/\∀E,ce P (bz.mapM λar=>(do Pure.pure (ar.offset,<-sizeOf ar.type):Sem (Z×Z))) E=ct (aO b) E:=by
 have s:=s.h;split at s;rename_i bz d;refine⟨bz,d,λE=>?_⟩;let⟨H⟩:=bz;have:∀(H:Y Field) b,(H.mapM λar=>(P.info? ar.type).map λc=>(ar.offset,c.size))=W b->ce P (H.mapM λar=>(do Pure.pure (ar.offset,<-sizeOf ar.type):Sem _)) E=ct b E:=by
  intro H
  induction H
  simp_all
  next ar H f=>
   intro b s;simp only[D5,ahZ,ah0,Eb,Option.pure_def,g6] at s;obtain⟨g,⟨c,k,rfl⟩,A,e,rfl⟩:=s;have:ce P (sizeOf ar.type) E=ct c.size E:=by simp[sizeOf,typeInfo,k]
   simp_all
 simp_all;trivial
def asQ{S:aw}{ap:bq}{h:bU (Z×aP)}{c:Y (Z×Z)}{e:Y (Z×V)}{b:Y V}(r:GO P S c)(aX:jr P S ap)(o:M.op=.build S h)(s:u7 p O (a0 h)=W e)(l:rB (c[·]?) (V.zero ap).cells e=W b):di P p M O (.agg b):=.same λz E N k=>by let⟨bz,t,m⟩:=r.run;let⟨hlen,n⟩:=u7.get s;let⟨y,A,f⟩:=QY e ((a0 h).map λd=>(d.1,b1 z d.2)) _ _ b aq (λx d C i g=>by let⟨T,u,v,w⟩:=n x d i;rw[db,u] at g;simp at g;subst g;exact⟨aa,(k.val v).H1 w⟩) (pN.zero aX N) l;exists h0 _,.agg b y (bQ f.1) f.2.1 f.2.2;let B:((aO c)[·]?)=(λT:Z=>c[T]?):=ao;simp[c5,o,Instr.build,Sem.run_bind,aX.run,run_underlying t,m];simp_all
def asY{S F:aw}{au ck dP d l:Z}{T f:aP}{g:Y V}{J e c b:Z}{B:dd}{m:L}(bW:cu P S (pL l F) au ck)(he:gx P F d dP)(s:M.op=o0 S T f)(y:O.val p T=W (.ref J g e c))(o:O.val p f=W (.int B m))(bu:m=(b:L))(r:b<l):di P p M O (.ref J g e (c+b*d)):=.same λz E N k=>by have h:=k.val y;have i:=k.val o;generalize x:b1 z T=A at h;generalize w:b1 z f=cc at i;cases i;subst bu;cases h with|ref _ _ _ _ Q base val v n t=>have:=bk.ref J g e (c+b*d) Q _ val v n t;refine⟨_,this,?_⟩;simp[c5,s,x,w,Instr.indexAt,yr,asIntOf,run_underlying bW.u,he.kw,r,Addr.add_lit]
def asZ{S F:aw}{au ck dP k:Z}{T c:aP}{b f i G J e:Z}{m:aw}{n:Y V}{B:dd}{l:L}(bW:cu P S (pL k F) au ck)(he:gx P F J dP)(w:M.op=o0 S T c)(D:O.val p T=W (.own b f i 0))(t:O.d[G]?=W (b,.j f J m n))(r:O.val p c=W (.int B l))(bu:l=(e:L))(s:e<k):di P p M O (.own b f (i+e) 0):=.same λz E N h=>by let⟨H,Q,v,x,o,y,C⟩:=h.own D t;have g:=h.val r;generalize A:b1 z c=cc at g;cases g;subst bu;refine⟨ib _,.own _ _ _ _ H _ v (by rw[x.1];omega) aa λ_=>⟨Q,o,by rw[y]⟩,?_⟩;simp[c5,w,C,A,Instr.indexAt,yr,asIntOf,run_underlying bW.u,he.kw,s,Addr.add_lit,hZ]
def as4{S F:aw}{au ck dP J len:Z}{T:aP}{n m:c6 aP}{g h c B:Z}{o:aw}{f:Y V}{b e:Z}(bW:cu P S (pL len F) au ck)(he:gx P F J dP)(G:M.op=.slice S T n m ai)(L:O.val p T=W (.own g h c 0))(A:O.d[B]?=W (g,.j h J o f))(C:pS p O n 0 b)(y:pS p O m len e)(r:b<=e)(t:e<=len)(am:c+len<=U f)(ap:len<=ja):di P p M O (.bH g h (c+b) (e-b)):=.same λz E N i=>by
 let⟨H,Q,D,k,v,l,K⟩:=i.own L A;let I:H.base+U f*H.s<=H.size:=by obtain⟨_,_,⟨ak,_⟩|⟨R,X,_,_,_,x,_⟩⟩:=k;simp_all;exact x
 refine⟨eY (W<|if len=b then⟨Q,H.base+c*J,ai⟩ else⟨Q,H.base+c*J+b*J,ai⟩) (e-b)<|len-b,?_,?_⟩;refine .bH _ _ _ _ H _ D (by rw[k.1];omega) aa λ_=>bp ⟨Q,if len=b then H.base+c*J else H.base+c*J+b*J,len-b,v,?_,q,q,?_⟩;grind;by_cases w:len=b;omega;right;rw[ad w,l];exists by grind
 rw[l] at I;have:(c+b+(len-b))*J<=U f*J:=jo _ q;omega;simp[c5,G,Instr.sliceAt,K,J9,Sem.run_bind,run_underlying bW.u,Result.andThen_ok,yr,Sem.run_pure,Je (P:=P) i (Q:=ae) (len:=len) (cap:=len) C y r t,he.kw,Addr.add_lit,qp]
def cD.ai0{S F:aw}{b:Z}{cc:bq}(i:O.guard ops M=W ag)(o:M.op=.alloc S)(aX:(P.info? S).bind (·.zero)=W (h0 (td b cc)))(r:gE cc)(s:∀f,cD P p ops H (({O with d:=O.d++[(f,.j 0 1 S<|cM b<|V.leaf cc)]}:bc).put M.dst (.own f 0 0 0)) ak):cD P p ops (M::H) O ak:=.mn i λz E N g=>by
 have:(V.leaf cc).cells=[V.leaf cc]:=by unfold V.leaf;split<;>rfl
 have l:=g.cO.new (lf:=.j 0 1 S<|cM b<|V.leaf cc) (dr:=⟨W _,0,0,b,1⟩) (bp ⟨a9 E.heap,aa,bv _⟩) (World.grownBy_alloc E _ _)
  ⟨aa,aa,bp ⟨a9 E.heap,td b cc,aa,.of<|heap_alloc_new E _,ao,ao,λe x t=>by
   grind,λe I h=>by grind,λe m I T h u=>by grind[bk.leaf]⟩⟩
 refine⟨ib<|W ⟨a9 E.heap,0,ai⟩,_,_,.own N.n 0 0 0,_,(bf.jh λw c=>by rw[N.fresh _<|bv _] at c;cases c),.own _ _ _ _ _ _ (N.kg _ _) (bv _) aa λ_=>⟨a9 E.heap,aa,ao⟩,l,bj ?_,s N.n⟩;have:ce P (zeroValue S) E=ct (h0 (td b cc)) E:=by
  cases k:P.info? S;simp_all
  next v=>simp_all[zeroValue,typeInfo]
 simp_all[c5,Instr.alloc,newVar,newRow,dp]
end
def xr{b:L}:-9223372036854775808<=b->b<=9223372036854775807->oD aj b:=by trivial
def Z3{b:L}:0<=b->b<=18446744073709551615->oD ej b:=by trivial
theorem E_{b:L}:0<=b->b<=255->oD ez b:=by trivial
def qT{c o:Type}{H:Y c}{ar:c->o}{b:Z}(s:b<U H):(ab ar H)[b]?=W (ar H[b]):=by simp_all
def OI(p:bJ)(O:bc):Y aP->c6 (Y V)|[]=>W []|T::A=>match O.val p T,OI p O A with|W I,W b=>W (I::b)|_,_=>ai
def KI{p:bJ}{O:bc}:∀{c:Y aP}{b:Y V},OI p O c=W b->pc p O c b|[],b,s=>by simp[OI] at s;trivial|T::A,b,s=>by unfold OI at s;split at s;rename_i I f d e;simp at s;subst s;exact⟨d,KI e⟩;trivial
def JE(p:bJ)(O:bc):Y (Z×aP)->Z->c6 (Y V)|[],_=>W []|(d,T)::A,b=>match O.val p T,JE p O A (b+1) with|W I,W c=>if d=b/\I.fits then W (I::c) else ai|_,_=>ai
def adl{p:bJ}{O:bc}:∀{e:Y (Z×aP)}{c:Z}{b:Y V},JE p O e c=W b->u6 p O e c b|[],_,b,s=>by simp[JE] at s;trivial|(i,T)::A,c,b,s=>by unfold JE at s;split at s;rename_i I h f g;split at s;rename_i d;simp at s;subst s;exact⟨d.1,f,d.2,adl g⟩;trivial;trivial
def IY(O:bc):Y hn->c6 (Y V)
|[]=>W []|.tmp S::A=>match cX S O.c,IY O A with
 |W T,W b=>W (T::b)|_,_=>ai
|.cell _ _::_=>ai
def aeB{O:bc}:∀{jl:Y hn}{b:Y V},IY O jl=W b->x0 O jl b|[],b,s=>by simp[IY] at s;trivial|.tmp S::A,b,s=>by unfold IY at s;split at s;rename_i T e c d;simp at s;subst s;exact⟨c,aeB d⟩;trivial|.cell _ _::_,b,s=>cf
def YN{e:Y hn}{c:V->bV->Prop}{O:bc}{b:Y V}(f:IY O e=W b:=by rfl)(bd:c (eR b) O.d):fe.Kv e c fY O:=⟨bp aa,b,aeB f,bd⟩
section
variable{P:bn}{p:bJ}{ops:bU a7}{M:a7}{H:Y a7}{ar:Z}{bz:Y Z}{O:bc}{ak:cS->bc->Prop}{A:V}{aD:bV}
def wi{T:aP}(b:M.op=.move T:=by rfl)(c:O.val p T=W A:=by rfl):di P p M O A:=adV b c
def TD{B:Z}{T:aP}{b c f e J:Z}{F:aw}{g:Y V}(h:M.op=.nilCheck T:=by rfl)(i:O.val p T=W (.own b c f e):=by rfl)(hk:O.d[B]?=W (b,.j c J F g):=by rfl):di P p M O (.own b c f e):=TL h i hk
def TA{B:Z}{S l:aw}{T:aP}{b c f e J g i h:Z}{F:aw}{k:Y V}(m:ux P S g i l h)(bu:h≠0:=by decide)(n:M.op=.fieldAddr S T g:=by rfl)(o:O.val p T=W (.own b c f e):=by rfl)(hk:O.d[B]?=W (b,.j c J F k):=by rfl):di P p M O (.own b c f<|e+i):=Tq m bu n o hk
def atv{S:aw}{I:iz}{au ck:Z}{T:aP}{d:Y V}{J c b:Z}{F:V}(bW:cu P S I au ck)(f:nY I=ae:=by rfl)(g:M.op=.load S T:=by rfl)(h:O.val p T=W (.ref J d c b):=by rfl)(k:d[c]?=W F:=by exact VH)(e:F.cells[b]?=W A:=by rfl):di P p M O A:=adT bW f g h k e
def xR(B:Z){S:aw}{I:iz}{au ck:Z}{T:aP}{e g f b J:Z}{F:aw}{c:Y V}{el:V}(bW:cu P S I au ck)(l:O.d[B]?=W (e,.j g J F c):=by rfl)(i:nY I=ae:=by rfl)(m:M.op=.load S T:=by rfl)(n:O.val p T=W (.own e g f b):=by rfl)(k:c[f]?=W el:=by exact VH)(h:el.cells[b]?=W A:=by rfl):di P p M O A:=IJ bW i m n l k h
def atn{S F:aw}{au ck dP:Z}{T c:aP}{b:Y V}{J D:Z}{B:dd}{d:L}(bW:cu P S (c_ F) au ck)(he:gx P F J dP)(f:M.op=o0 S T c:=by rfl)(g:O.val p T=W (.al J b):=by rfl)(e:O.val p c=W (.int B d):=by rfl)(bu:d=(D:L):=by rfl)(k:D<U b:=by first|assumption|omega|(simp;done)|(simp;omega)):di P p M O (.ref J b D 0):=adS bW he f g e bu k
def xP(t:Z){S F:aw}{au ck dP:Z}{T e:aP}{b c h f J:Z}{i:aw}{l:Y V}{D:Z}{s:dd}{g:L}(bW:cu P S (c_ F) au ck)(he:gx P F J dP)(n:O.d[t]?=W (b,.j c J i l):=by rfl)(o:M.op=o0 S T e:=by rfl)(r:O.val p T=W (.bH b c h f):=by rfl)(m:O.val p e=W (.int s g):=by rfl)(bu:g=(D:L):=by rfl)(k:D<f:=by first|assumption|omega|(simp;done)|(simp;omega)):di P p M O (.own b c (h+D) 0):=II bW he o r n m bu k
def Nq{S F:aw}{au ck J dP c:Z}{ap:bq}{d:bU (Z×aP)}{b:Y V}(bW:cu P S (c_ F) au ck)(he:gx P F J dP)(aX:jr P F ap)(f:M.op=.buildSlice S c d:=by rfl)(g:JE p O (a0 d) 0=W b:=by rfl)(bu:c=U b:=by rfl)(hlen:∀I∈b,U I.cells=J:=by simp[V.cells,bF,V.const,V.leaf])(e:c*J<=2^24:=by decide)(h:0<J:=by decide):di P p M O (.al J b):=TI bW he aX f (adl g) bu hlen e h
def Hp g{S:aw}{I:iz}{au ck:Z}{f T:aP}{c e D n J:Z}{F:aw}{hE:Y V}{el b:V}(bW:cu P S I au ck)(l:O.d[g]?=W (c,.j e J F hE):=by rfl)(m:M.op=.store S f T:=by rfl)(o:O.val p f=W (.own c e D n):=by rfl)(k:hE[D]?=W el:=by exact VH)(t:O.val p T=W b:=by rfl)(i:b.fits:=by rfl)(s:U b.cells=au:=by rfl)(h:n+au<=U el.cells:=by exact VI)(r:(el.s4 n b.cells).cells=am n el.cells++b.cells++ay (n+au) el.cells:=by rfl):eH P p M O .undef (aR O.d g (c,.j e J F<|aR hE D<|el.s4 n b.cells)):=CV bW.au m o l k t i s h r
def Ys{v:Z}{S cR F:aw}{au ck J dP:Z}{ap:bq}{T w:aP}{b c off len m:Z}{hE mm:Y V}(bW:cu P S (c_ F) au ck)(he:gx P F J dP)(aX:jr P F ap)(qM:a9 (dp ap)=J:=by rfl)(g:M.op=ft {callee:=gP oZ,args:=#[T,w],argTypes:=#[S,cR]}:=by rfl)(h:O.val p T=W (.bH b c off len):=by rfl)(hk:O.d[v]?=W (b,.j c J F hE):=by rfl)(f:off+len<=U hE:=by exact Ps)(gi:jP P p O w cR J m mm)(e:len+m<=ja:=by exact ah4)(Da:(len+m)*dP<=140737488355328:=by exact Ps):eH P p M O (.bH b (c+1) 0<|len+m) (aR O.d v (b,.j (c+1) J F<|am len (ay off hE)++mm)):=Ly bW he aX qM g h hk f gi e Da
def Oj{T:aP}{cR F:aw}{au ck J:Z}{j:Y V}(bW:cu P cR (c_ F) au ck)(b:O.val p T=W (.al J j):=by rfl)(mo:∀I∈j,U I.cells=J:=by simp[V.cells,bF,V.const,V.leaf]):jP P p O T cR J (U j) j:=jP.al bW b mo
def Yr{v:Z}{S cR F:aw}{au ck J dP:Z}{ap:bq}{T w:aP}{b m:Z}{mm:Y V}(bW:cu P S (c_ F) au ck)(he:gx P F J dP)(aX:jr P F ap)(qM:a9 (dp ap)=J:=by rfl)(f:M.op=ft {callee:=gP oZ,args:=#[T,w],argTypes:=#[S,cR]}:=by rfl)(g:O.val p T=W .bo:=by rfl)(hk:O.d[v]?=W (b,.jl J):=by rfl)(gi:jP P p ⟨O.c,aR O.d v (b,.j 0 J F [])⟩ w cR J m mm)(e:m<=ja:=by exact ah4)(Da:m*dP<=140737488355328:=by exact Ps):eH P p M O (.bH b 1 0 m) (aR O.d v (b,.j 1 J F mm)):=QM bW he aX qM f g hk gi e Da
end
def aqu(B:dd):B.max<(2^l7 B:Z):=by cases B<;>simp[IntKind.max,GF,l7]
theorem Z2{B:dd}{b:Z}(s:(b:L)<=B.max):oD B b:=⟨by grind[IntKind.min,GF,l7],s⟩
theorem P6{B:dd}{z Q:Z}(c:(z:L)<=B.max)(d:(Q:L)<=B.max):je .and B z Q=(z&&&Q):=by
 let b:=aqu B;let F:je .and B z Q=hf B (z&&&Q):=by simp[je,KU,ahe,ahf,ahg];rw[wN q,wN q]
 grind[wG,Z2,Nat.and_le_left]
def WQ{z Q:Z}(b:z<2^64)(c:Q<2^64):je .or ej z Q=(z|||Q):=by
 let F:je .or ej z Q=hf IntKind.u64 (z|||Q):=by simp[je,KU,ahe,BitVec.toNat_or,ahg];simp[l7];rw[wN b,wN c]
 rw[F,wG<|Z2 (by have:=Nat.or_lt_two_pow b c;grind[IntKind.max,GF,l7])]
theorem Jw:IntKind.u64.max=18446744073709551615:=ba
theorem OM b:hf IntKind.u64 b=b%18446744073709551616:=ba
theorem zJ b:hf IntKind.u8 b=b%256:=ba
def awA{z n:Z}(s:n<=64):(z:L).fdiv (2^min (aG (n:L)) 64)=(z>>>n):=by rw[show aG (n:L)=n by simp,Vx s,ahU,ahj _ aK];rfl
section
variable{P:bn}{S:aw}{T w:aP}
end
def gr:Y (Z×V)->Z->c6 V|[],_=>ai|(B,T)::A,S=>match ef S B with|ag=>W T|ae=>gr A S
theorem sQ:∀H S,gr H S=cX S H
|[],_=>aa|(B,T)::A,S=>by
 rw[gr,rj];let s:(S==B)=ef S B:=by rw[nA];simp
 rw[s];cases ef S B;exact sQ A S;rfl
abbrev b6:=Z->Z×Z
def V.e0(o:b6):V->V|.dC S c b=>.own (o S).1 (o S).2 c b|.a S d len=>.bH (o S).1 (o S).2 d len|.eA S=>.jj (o S).1 (o S).2|.oG S=>.own (o S).1 0 0 0|.lc S c b=>.own (o S).1 (o S).2 c b|T=>T
def V.e8(o:b6):V->V|.func ar b c=>.func ar (ab (V.e0 o) b) (ab (V.e0 o) c)|T=>T.e0 o
def V.jW(o:b6):V->V|.agg b=>.agg (ab (V.e8 o) b)|.vec c z b=>.vec c z (ab (V.e8 o) b)|T=>T.e8 o
def V.aB(o:b6):V->V|.tuple H=>.tuple (ab (V.jW o) H)|T=>T.jW o
def V.BD:V->X|.dC .. |.a .. |.eA _|.oG _|.lc .. =>ae|_=>ag
def e4(b:V->X):Y V->X|[]=>ag|T::H=>match b T with|ag=>e4 b H|ae=>ae
def V.xQ:V->X
|.func _ b c=>match e4 V.BD b with
 |ag=>e4 V.BD c|ae=>ae
|T=>T.BD
def V.IG:V->X|.agg b=>e4 V.xQ b|.vec _ _ b=>e4 V.xQ b|T=>T.xQ
def V.plain:V->X|.tuple H=>e4 V.IG H|T=>T.IG
theorem yD{c:V->X}{ar:V->V}(s:∀T,c T->ar T=T):∀{H:Y V},e4 c H->ab ar H=H|[],_=>aa|T::H,b=>by rw[e4] at b;split at b;rename_i d;rw[ia,s T d,yD s b];simp_all
theorem qz{b:V->X}:∀{H:Y V},e4 b H↔∀T∈H,b T|[]=>by simp[e4]|T::H=>by rw[e4];split;rename_i s;rw[qz];simp[s];simp_all
def V.ace{o:b6}{T:V}(s:T.BD):T.e0 o=T:=by cases T<;>first|rfl|grind[V.BD]
def V.Im{o:b6}{T:V}(s:T.xQ):T.e8 o=T:=by cases T with|func ar c d=>rw[V.xQ] at s;split at s;rename_i b;simp only[V.e8];rw[yD (λ_=>V.ace) b,yD (λ_=>V.ace) s];simp_all|_=>first|rfl|simp[V.xQ,V.BD] at s
def V.S2{o:b6}{T:V}(s:T.IG):T.jW o=T:=by cases T with|agg b=>simp[V.jW];rw[yD (λ_=>V.Im) s]|vec e z b=>simp[V.jW];rw[yD (λ_=>V.Im) s]|func ar c d=>exact V.Im (T:=.func ar c d) s|_=>first|rfl|simp[V.IG,V.xQ,V.BD] at s
theorem V.gc{o:b6}{T:V}(s:T.plain):T.aB o=T:=by cases T with|tuple H=>simp[V.aB];rw[yD (λ_=>V.S2) s]|func ar c d=>exact V.Im (T:=.func ar c d) s|agg H=>exact V.S2 (T:=.agg H) s|vec b z H=>exact V.S2 (T:=.vec b z H) s|_=>first|rfl|simp[V.plain,V.IG,V.xQ,V.BD] at s
def V.FA{o:b6}{T:V}(s:T.one):T.aB o=T.e8 o:=by cases T<;>first|rfl|grind[V.one]
def V.M5{o:b6}{T:V}(s:T.one):(T.aB o).one:=by cases T<;>first|rfl|grind[V.one]
theorem V.xI{o:b6}{T:V}(s:T.fits):(T.aB o).fits:=by cases T<;>first|rfl|grind[V.fits,V.one]
def fZ.e8{o:b6}(z:fZ):ab (V.e8 o) z.cells=z.cells:=by cases z<;>simp[fZ.cells,V.e8,V.e0]
theorem V.qY{o:b6}{T:V}(s:T.fits):(T.aB o).cells=ab (V.e8 o) T.cells:=by
 cases T<;>first|(show fZ.cells _++_=ab _ (fZ.cells _++_);rw[dc,fZ.e8];done)|skip
 all_goals first|rfl|simp[V.fits,V.one] at s
theorem V.xH{o:b6}(T:V):(T.aB o).cells.length=U T.cells:=by cases T<;>first|rfl|simp[V.aB,V.jW,V.cells]
inductive b7 where|cell (F:aw) (T:V)|j (J:Z) (F:aw) (xs:Y V)|map (gb:Y (V×V×Z)) (clock:Z)|iter (gb:Y (V×V×Z)) (clock:Z) (seen:Y Z)
def b7.aD(o:b6)(c:Z):b7->cB|.cell F T=>.j c (U T.cells) F [T.aB o]|.j J F d=>.j c J F d|.map b clock=>.map c b clock|.iter b clock seen=>.iter b clock seen
abbrev bS:=Y<|Z×b7
def ci:bS->Z->c6 b7|[],_=>ai|(B,T)::A,S=>match ef S B with|ag=>W T|ae=>ci A S
structure aN where
 c:Y (Z×V)
 az:bS
 d:bV
def c2(o:b6)(b:Z×b7):Z×cB:=((o b.1).1,b.2.aD o (o b.1).2)
def aZ(o:b6)(H:bS):bV:=ab (c2 o) H
def da(o:b6)(H:Y (Z×V)):Y (Z×V):=H.map λb=>(b.1,b.2.aB o)
def aN.aB(o:b6)(J:aN):bc:=⟨da o J.c,J.d++aZ o J.az⟩
theorem mU o:∀H S,cX S (da o H)=(cX S H).map (V.aB o)|[],_=>aa|(B,T)::A,S=>by rw[da,ia,rj,rj];cases s:S==B;exact mU o A S;rfl
def aN.put(J:aN)(S:c6 Z)(T:V):aN:=match S with|W S=>{J with c:=(S,T)::J.c}|ai=>J
theorem aN.r1 o(J:aN)S T:(J.put S T).aB o=(J.aB o).put S (T.aB o):=by cases S<;>rfl
def eh(i:Y (Z×V)):X:=i.all λb=>b.2.plain
def val(i:Y (Z×V))(b:Y (Z×V)):aP->c6 V|.tmp S=>gr b S|.const c=>W (V.const c)|.global u=>gr i u|.func ar=>W<|.func (c1 ar) [] []
theorem V.R_ b:(V.leaf b).xQ:=by unfold V.leaf;split<;>rfl
theorem V.aaO b:(V.leaf b).plain:=by unfold V.leaf;split<;>rfl
theorem V.aaP(H:Y bq):(V.agg (ab V.leaf H)).plain:=qz.2 λT b=>by obtain⟨c,_,rfl⟩:=dI.1 b;exact V.R_ c
theorem V.alk b:(V.const b).plain:=by unfold V.const;split;split;exact V.aaP _;rfl;split<;>rfl;simp[V.aaO]
theorem ya{p:bJ}(e:eh p.G){o:b6}{c:Y (Z×V)}{aD:bV}{M:aP}{T:V}(s:val p.G c M=W T):(⟨da o c,aD⟩:bc).val p M=W (T.aB o):=by
 cases M
 next S=>grind[val,sQ,bc.val,mU]
 next f=>grind[val,Option.some.injEq,bc.val,V.gc,V.alk]
 next u=>rw[val,sQ] at s;simp[bc.val];rw[s];let b:=Sz s;let d:=kY.1 e _ b;rw[V.gc d]
 next ar=>simp[val,g6] at s;subst s;rfl
structure cH where
 d:iz
 size:Z
 bytes:Z
 agg:X
 O:X
 z:bq
 bz:Y (Z×aw×Z)
inductive cI where|nil|node (H:cI) (B:Z) (D:cH) (A:cI)
def cI.find:cI->Z->c6 cH|.nil,_=>ai|.node H B b A,S=>match ef S B with|ag=>W b|ae=>match g8 S B with|ag=>H.find S|ae=>A.find S
structure o8(P:bn)(S:aw)(D:cH):Prop where
 av0:D.O\/cu P S D.d D.size D.bytes
 avW:D.O->D.agg
 jw:D.agg\/nY D.d=ae
 aiS:D.agg=ae\/Ce P S D.size
 fd:∀cs off LW R,D.bz[cs]?=W (off,LW,R)->R≠0->ux P S cs off LW R
 lG:jr P S D.z
 au:gx P S D.size D.bytes
 pl:D.bz=[]\/GO P S (D.bz.map λG=>(G.1,G.2.2))
def gy(P:bn):cI->Prop|.nil=>True|.node H B b A=>gy P H/\o8 P B b/\gy P A
theorem gy.find{P:bn}:∀{K:cI},gy P K->∀{S:Z}{b:cH},K.find S=W b->o8 P S b|.nil,_,_,_,s=>by grind[cI.find]|.node H B b A,⟨c,e,d⟩,S,f,s=>by rw[cI.find] at s;split at s;simp_all;split at s;exact c.find s;exact d.find s
def o8.r6{P:bn}{S:aw}{b:cH}(s:o8 P S b)(d:b.agg=ae):b.O=ae:=by cases c:b.O;rfl;have:=s.avW c;simp_all
def o8.g5{P:bn}{S:aw}{b:cH}(s:o8 P S b)(c:b.O=ae):cu P S b.d b.size b.bytes:=j2 s.av0 aK
def o8.Cs{P:bn}{S:aw}{b:cH}(s:o8 P S b)(c:b.agg):Ce P S b.size:=j2 s.aiS aK
structure fC(K:cI)(S:aw)(I:iz):Prop where
 h:∃kX,K.find S=W kX/\kX.d=I/\kX.O=ae
def fC.eD{P:bn}{K:cI}{S:aw}{I:iz}(s:fC K S I)(d:gy P K):∃au ck,cu P S I au ck:=by obtain⟨e,b,rfl,c⟩:=s.h;exact⟨_,_,(d.find b).g5 c⟩
def RY:dd->dd->X|.i8,.i8|.i16,.i16|.i32,.i32|aj,aj|ez,ez|.u16,.u16|.u32,.u32|ej,ej=>ag|_,_=>ae
def apj{B b:dd}:RY B b->B=b:=by cases B<;>cases b<;>first|rfl|grind[RY]
def Qa(b:BinOp)(B:dd)(z Q:L):c6 V:=match b with
|.lss=>W (.bool<|aH<|z<Q)|.leq=>W (.bool<|aH<|z<=Q)|.gtr=>W (.bool<|aH<|Q<z)|.geq=>W (.bool<|aH<|Q<=z)|.eql=>W (.bool<|aH<|z=Q)|.neq=>W (.bool<|aH ¬z=Q)|.and=>W (.int B<|je .and B z Q)|.or=>W (.int B<|je .or B z Q)|.xor=>W (.int B<|je .xor B z Q)|.andNot=>W (.int B<|je .andNot B z Q)|.add=>match B with
 |aj=>ai|B=>W (.int B<|hf B<|z+Q)
|.sub=>match B with
 |aj=>ai|B=>W (.int B<|hf B<|z-Q)
|.mul=>match B with
 |aj=>ai|B=>W (.int B<|hf B<|z*Q)
|_=>ai
def Qb(b:BinOp)(z Q:Y C):c6 V:=match b with|.eql=>W (.bool<|aH<|z=Q)|.neq=>W (.bool<|aH ¬z=Q)|.lss=>W (.bool<|ut z Q)|.gtr=>W (.bool !(ut z Q||aH (z=Q)))|.geq=>W (.bool ! ut z Q)|.leq=>W (.bool<|ut z Q||aH (z=Q))|_=>ai
def mz(i:Y (Z×V))(b:Y (Z×V)):Y aP->c6 (Y V)
|[]=>W []|T::A=>match val i b T with
 |W I=>match mz i b A with|W c=>W (I::c)|ai=>ai
 |ai=>ai
def q3(b:Y V)(c d:Z)(e:X):c6 V:=match e with
|ag=>match ef (U (am d (ay c b))) d with
 |ag=>W (.agg<|am d<|ay c b)|ae=>ai
|ae=>match b[c]? with
 |W A=>match A.one with|ag=>W A|ae=>ai
 |ai=>ai
def sZ(i:Y (Z×V))(b:Y (Z×V)):Y (Z×aP)->c6 (Y (Z×V))
|[]=>W []|(d,T)::A=>match val i b T with
 |W I=>match I.fits with
  |ag=>match sZ i b A with|W c=>W ((d,I)::c)|ai=>ai
  |ae=>ai
 |ai=>ai
def V.m3:V->X|.dC .. |.a .. |.eA _|.oG _|.lc .. =>ag|T=>T.plain
def V.Jd{o:b6}{T:V}(s:T.m3):T.e0 o=T.aB o:=by cases T with|dC|a|eA|oG|lc=>rfl|vec c z H=>let b:(V.vec c z H).plain:=s;rw[V.gc b];rfl|tuple H=>let b:(V.tuple H).plain:=s;rw[V.gc b];rfl|agg H=>let b:(V.agg H).plain:=s;rw[V.gc b];rfl|func ar d e=>let b:(V.func ar d e).plain:=s;rw[V.gc b];rfl|_=>rfl
def WX(K:cI)(F:aw):X:=match K.find F with
|W b=>match ef b.size 39 with
 |ag=>ae|ae=>g8 30 b.size
|ai=>ae
def ug(K:cI)(i:Y (Z×V))(c:Y (Z×V))(k:bS)(M:a7):c6 V:=match M.op with
|.move T=>val i c T|.assign T=>val i c T|.pick b T w=>match val i c b with
 |W (.bool ag)=>val i c T|W (.bool ae)=>val i c w|_=>ai
|.extract T f=>match val i c T with
 |W (.tuple H)=>match H[f]? with
  |W A=>match A with|.tuple _=>ai|A=>W A
  |ai=>ai
 |_=>ai
|.unOp .not _ T=>match val i c T with
 |W (.bool Q)=>W (.bool !Q)|_=>ai
|lI op _ T w _=>match val i c T,val i c w with
 |W (.int B z),W (.int C Q)=>match RY B C with|ag=>Qa op B z Q|ae=>ai
 |W (.str z),W (.str Q)=>Qb op z Q|_,_=>ai
|.nilCheck T=>match val i c T with
 |W (.ref J A f b)=>W (.ref J A f b)|W (.dC S f b)=>match ci k S with|W (.cell ..)=>W (.dC S f b)|W (.j ..)=>W (.dC S f b)|_=>ai
 |_=>ai
|.fieldAddr S T m=>match K.find S with
 |W e=>match e.bz[m]? with
  |W (h,_,g)=>match g with
   |0=>ai|_+1=>match val i c T with
    |W (.ref J A f b)=>W (.ref J A f<|b+h)|W (.dC S f b)=>match ci k S with|W (.cell ..)=>W (.dC S f<|b+h)|W (.j ..)=>W (.dC S f<|b+h)|_=>ai
    |_=>ai
  |ai=>ai
 |ai=>ai
|.load S T=>match K.find S with
 |W e=>match val i c T with
  |W (.ref au A f b)=>match g8 30 au with
   |ag=>ai|ae=>match A[f]? with
    |W F=>match q3 F.cells b e.size e.agg with
     |W A=>match A.plain with|ag=>W A|ae=>ai
     |ai=>ai
    |ai=>ai
  |W (.dC S f b)=>match ci k S with
   |W (.cell E F)=>match WX K E with
    |ag=>ai|ae=>match f with
     |0=>match F.fits with|ag=>q3 F.cells b e.size e.agg|ae=>ai
     |_+1=>ai
   |_=>ai
  |_=>ai
 |ai=>ai
|.field S T m=>match K.find S with
 |W e=>match e.bz[m]? with
  |W (h,y,g)=>match g with
   |0=>ai|_+1=>match K.find y with
    |W o=>match val i c T with
     |W (.agg l)=>match ef o.size g with|ag=>q3 l h g o.agg|ae=>ai
     |_=>ai
    |ai=>ai
  |ai=>ai
 |ai=>ai
|ft b=>match b.callee,a0 b.args,a0 b.argTypes with
 |gP .len,[T],[S]=>match K.find S with
  |W e=>match e.agg,e.d,val i c T with
   |ae,c_ _,W (.al _ j)=>W (.int aj<|U j)|ae,c_ _,W .bo=>W (.int aj 0)|ae,c_ _,W (.a S h g)=>match ci k S with|W (.j ..)=>W (.int aj g)|_=>ai
   |ae,k1,W (.str H)=>W (.int aj<|U H)|_,_,_=>ai
  |ai=>ai
 |_,_,_=>ai
|.convert D x T=>match K.find D,K.find x with
 |W r,W n=>match r.agg,r.d,n.agg,n.d,val i c T with|ae,k1,ae,k1,W (.str H)=>W (.str H)|_,_,_,_,_=>ai
 |_,_=>ai
|.makeFunc fn first u=>match mz i c (a0 first),mz i c (a0 u) with
 |W s,W t=>match e4 V.m3 s,e4 V.m3 t with|ag,ag=>W (.func fn s t)|_,_=>ai
 |_,_=>ai
|.build S parts=>match K.find S with
 |W e=>match e.agg,e.bz with
  |ag,_::_=>match sZ i c (a0 parts) with
   |W v=>match rB ((e.bz.map λp=>(p.1,p.2.2))[·]?) (V.zero e.z).cells v with|W l=>W (.agg l)|ai=>ai
   |ai=>ai
  |_,_=>ai
 |ai=>ai
|_=>ai
section
variable{P:bn}{p:bJ}{M:a7}{o:b6}
def V.azf ap:∀T∈(V.zero ap).cells,T.xQ:=by
 intro T b;unfold V.zero at b;split at b;obtain⟨c,_,rfl⟩:=dI.1 b;exact V.R_ c;have:(V.leaf ap).cells=[V.leaf ap]:=by unfold V.leaf;split<;>rfl
 grind[V.R_]
theorem DT(d:eh p.G){c:Y (Z×V)}{aD:bV}:∀{H:Y aP}{b:Y V},mz p.G c H=W b->pc p ⟨da o c,aD⟩ H (ab (V.aB o) b)|[],b,s=>by simp[mz] at s;subst s;rfl|T::A,b,s=>by unfold mz at s;split at s;rename_i I f;split at s;rename_i g e;simp at s;subst s;exact⟨ya d f,DT d e⟩;simp_all;simp_all
theorem ayw(d:eh p.G){c:Y (Z×V)}{aD:bV}{H:Y aP}{b:Y V}(s:mz p.G c H=W b):e4 V.plain b->pc p ⟨da o c,aD⟩ H b:=by have:=DT d (o:=o) (aD:=aD) s;grind[yD,V.gc]
def Nr(d:eh p.G){e:Y (Z×V)}{aD:bV}:∀{H:Y (Z×aP)}{b:Y (Z×V)},sZ p.G e H=W b->u7 p ⟨da o e,aD⟩ H=W (b.map λc=>(c.1,c.2.aB o))/\∀c∈b,c.2.fits
|[],b,s=>by simp[sZ] at s;subst s;exists aa|(k,T)::A,b,s=>by
 unfold sZ at s;split at s;rename_i I g;split at s;split at s;rename_i h f;simp at s;cases Nr d (aD:=aD) f;let i:=ya d (o:=o) (aD:=aD) g;exists by grind[u7,V.xI]
 grind;simp_all;simp_all;simp_all
def WU{g:Z->c6 (Z×Z)}:∀{e:Y (Z×V)}{c d:Y V},(∀b∈e,b.2.fits)->rB g c e=W d->rB g (ab (V.e8 o) c) (e.map λb=>(b.1,b.2.aB o))=W (ab (V.e8 o) d)|[],c,d,_,s=>by grind[rB,Option.some.injEq]|(h,I)::A,c,d,f,s=>by unfold rB at s;split at s;split at s;have:=V.qY (o:=o)<|f (h,I) ao;have:=WU (λb i=>f b aK) s;simp_all[ia,rB,af,V.xH,bm];simp_all;simp_all
theorem j7 aD:∀{H:bS}{S:Z}{T:b7},ci H S=W T->∃B:Z,(aD++aZ o H)[B]?=W ((o S).1,T.aD o (o S).2):=by
 have:∀{H:bS}{S:Z}{T:b7},ci H S=W T->∃B:Z,(aZ o H)[B]?=W ((o S).1,T.aD o (o S).2):=by
  intro H
  induction H
  grind[ci]
  next d A b=>intro S T s;let⟨B,w⟩:=d;unfold ci at s;split at s;rename_i he;have:=nE he;subst this;simp at s;subst s;exists 0;let⟨c,e⟩:=b s;exists c+1
 intro H S T s;let⟨B,f⟩:=this s;exact⟨U aD+B,aK⟩
def FP{b:Y V}{c d:Z}{A:V}:q3 b c d ae=W A->b[c]?=W A/\A.one:=by grind[q3]
def FO{c:Y V}{d b:Z}{A:V}:q3 c d b ag=W A->A=.agg (am b (ay d c))/\U (am b (ay d c))=b:=by grind[q3,Option.some.injEq,Nat.eq_of_beq_eq_true]
def ajI{b:BinOp}{B:dd}{z Q:L}{A:V}{S:aw}{T w:aP}(s:Qa b B z Q=W A):cU P b S T w (.int B z) (.int B Q) A/\A.plain:=by
 cases b<;>simp only[Qa,g6,reduceCtorEq] at s
 case lss=>subst s;exists cU.lss
 case leq=>subst s;exists cU.leq
 case gtr=>subst s;exists cU.gtr
 case geq=>subst s;exists cU.geq
 case eql=>subst s;exists cU.eql
 case neq=>subst s;exists cU.neq
 case and=>subst s;exists cU.bits aa
 case or=>subst s;exists cU.bits aa
 case xor=>subst s;exists cU.bits aa
 case andNot=>subst s;exists cU.bits aa
 case add=>split at s<;>simp at s;subst s;exists cU.aiJ
 case sub=>split at s<;>simp at s;subst s;exists cU.DL
 case mul=>split at s<;>simp at s;subst s;exists cU.aqR
def ajJ{b:BinOp}{z Q:Y C}{A:V}{S:aw}{T w:aP}(s:Qb b z Q=W A):cU P b S T w (.str z) (.str Q) A/\A.plain:=by
 cases b<;>simp only[Qb,g6,reduceCtorEq] at s
 case lss=>subst s;exists cU.awH
 case leq=>subst s;exists cU.awE
 case gtr=>subst s;exists cU.awr
 case geq=>subst s;exists cU.awo
 case eql=>subst s;exists cU.av6
 case neq=>subst s;exists cU.awJ
def ap5{K:cI}(h:gy P K){O:bc}{S:aw}{d:cH}{T:aP}{g:Y V}{J f e:Z}{F A:V}(l:K.find S=W d)(k:M.op=.load S T)(m:O.val p T=W (.ref J g f e))(i:g[f]?=W F)(s:q3 F.cells e d.size d.agg=W A):di P p M O A:=by let c:=h.find l;cases b:d.agg with|true=>rw[b] at s;obtain⟨rfl,n⟩:=FO s;cases(c.Cs b).eD;grind[aug]|false=>rw[b] at s;exact adg (c.g5<|c.r6 b) (j2 c.jw aK) k m i (FP s).1
def ap6{K:cI}(v:gy P K){O:bc}{S:aw}{e:cH}{T:aP}{r u t g B J:Z}{F:aw}{h:Y V}{f A:V}(x:K.find S=W e)(m:M.op=.load S T)(n:O.val p T=W (.own r u t g))(l:O.d[B]?=W (r,.j u J F h))(k:h[t]?=W (f.aB o))(w:f.fits)(s:q3 f.cells g e.size e.agg=W A):di P p M O (A.aB o):=by let c:=v.find x;let z:=V.qY (o:=o) w;cases b:e.agg with|true=>rw[b] at s;obtain⟨rfl,i⟩:=FO s;refine Tr (c.Cs b) m n l k ?_ aq;simp_all|false=>rw[b] at s;let⟨y,i⟩:=FP s;rw[V.FA i];exact IJ (c.g5<|c.r6 b) (j2 c.jw aK) m n l k aq
def NI{O:bc}{b T w:aP}{A:V}{S:X}(d:M.op=.pick b T w)(c:O.val p b=W (.bool S))(e:O.val p (if S then T else w)=W A):di P p M O A:=TM d c e
theorem agt{K:cI}(l:gy P K)(D:eh p.G){L:Y (Z×V)}{v:bS}{aD:bV}{A:V}(s:ug K p.G L v M=W A):di P p M ⟨da o L,aD++aZ o v⟩ (A.aB o):=by
 let e:∀{T:aP}{I:V},val p.G L T=W I->(⟨da o L,aD++aZ o v⟩:bc).val p T=W (I.aB o):=ya D;unfold ug at s;split at s
 case h_1 T c=>grind[adV]
 case h_2 T c=>grind[at6]
 case h_3 x T w c=>split at s;rename_i r;exact TM (S:=ag) c (e r)<|e s;rename_i r;exact TM (S:=ae) c (e r)<|e s;simp_all
 case h_4 T E c=>
  split at s;rename_i H b;split at s;rename_i av k;split at s;cases s;simp[g6] at s;subst s;apply auc c<|e b;rw[db,k,lm];congr 1;cases av with|tuple aN=>simp_all|_=>rfl
  simp_all;simp_all
 case h_5 S T c=>split at s;rename_i Q b;simp[g6] at s;subst s;exact aul c<|e b;simp_all
 case h_6 op S T w X c=>split at s;rename_i B z aM Q b y;split at s;rename_i d;obtain rfl:=apj d;let⟨f,g⟩:=ajI (P:=P) (S:=S) (T:=T) (w:=w) s;rw[V.gc g];exact zq c (e b) (e y) f;simp_all;rename_i z Q b y;let⟨f,g⟩:=ajJ (P:=P) (S:=S) (T:=T) (w:=w) s;rw[V.gc g];exact zq c (e b) (e y) f;simp_all
 case h_7 T c=>split at s;rename_i b;simp[g6] at s;subst s;exact auk c<|e b;rename_i S E x b;split at s;rename_i i;simp[g6] at s;subst s;let⟨B,d⟩:=j7 (o:=o) aD i;exact TL c (e b) d;rename_i i;simp[g6] at s;subst s;let⟨B,d⟩:=j7 (o:=o) aD i;exact TL c (e b) d;simp_all;simp_all
 case h_8 S T U c=>split at s;rename_i u m;split at s;rename_i N O au R;split at s;cases s;let t:=(l.find m).fd U N O _ R q;split at s;rename_i b;simp[g6] at s;subst s;exact asX t q c<|e b;rename_i X E x b;split at s;rename_i i;simp[g6] at s;subst s;let⟨B,d⟩:=j7 (o:=o) aD i;exact Tq t q c (e b) d;rename_i i;simp[g6] at s;subst s;let⟨B,d⟩:=j7 (o:=o) aD i;exact Tq t q c (e b) d;simp_all;simp_all;simp_all;simp_all
 case h_9 S T c=>split at s;rename_i u m;split at s;rename_i J av E x b;split at s;cases s;split at s;rename_i F he;split at s;rename_i aQ f;split at s;rename_i i;simp[g6] at s;subst s;rw[V.gc i];exact ap5 l m c (e b) he f;simp_all;simp_all;simp_all;rename_i X E x b;split at s;rename_i F w i;split at s;cases s;split at s;split at s;rename_i t;let⟨B,d⟩:=j7 (o:=o) aD i;exact ap6 l m c (e b) d aa t s;simp_all;simp_all;simp_all;simp_all;simp_all
 case h_10 S T U c=>
  split at s;rename_i u m;split at s;rename_i N O au R;split at s;cases s;let t:=(l.find m).fd U N O _ R q;split at s;rename_i ax aC;split at s;rename_i aw b;split at s;rename_i bu;let bu:=nE bu;let d:=l.find aC;let ar:=e b;cases h:ax.agg with|true=>rw[h] at s;obtain⟨rfl,g⟩:=FO s;let am:=d.Cs h;rw[bu] at am;exact asW t q am c ar ao|false=>rw[h] at s;let⟨f,g⟩:=FP s;rw[V.FA g];exact asV t q (d.g5<|d.r6 h) (j2 d.jw aK) c ar aq
  simp_all;simp_all;simp_all;simp_all;simp_all
 case h_11 x c=>
  split at s;rename_i T S f g C;let r:M.op=ft {callee:=gP .len,args:=#[T],argTypes:=#[S]}:=by rw[c];cases x;simp at f g C;subst f;congr 2;grind;grind
  split at s;rename_i u m;let d:=l.find m;split at s;rename_i F J j h n b;simp[g6] at s;subst s;let bW:=d.g5<|d.r6 h;rw[n] at bW;exact TK bW r (e b) aa;rename_i F h n b;simp[g6] at s;subst s;let bW:=d.g5<|d.r6 h;rw[n] at bW;exact TK bW r (e b) aa;rename_i F X N au h n b;split at s;rename_i i;simp[g6] at s;subst s;let bW:=d.g5<|d.r6 h;rw[n] at bW;let⟨B,d⟩:=j7 (o:=o) aD i;exact TJ bW r (e b) d;simp_all;rename_i H h n b;simp[g6] at s;subst s;let bW:=d.g5<|d.r6 h;rw[n] at bW;exact aue bW r<|e b;simp_all;simp_all;simp_all
 case h_12 aS aL T c=>split at s;rename_i aR aI ap ak;split at s;rename_i H h n ay aA b;simp[g6] at s;subst s;let f:=(l.find ap).g5<|(l.find ap).r6 h;let g:=(l.find ak).g5<|(l.find ak).r6 ay;rw[n] at f;rw[aA] at g;exact asU f g c<|e b;simp_all;simp_all
 case h_13 fn first aH c=>split at s;rename_i aT aU b y;split at s;rename_i f g;simp[g6] at s;subst s;let F:∀{H:Y V},e4 V.m3 H->ab (V.aB o) H=ab (V.e0 o) H:=λ{H} aE=>hY λT b=>bQ<|V.Jd<|qz.1 aE T b;have:=adh (P:=P) c (DT D (o:=o) (aD:=aD++aZ o v) b)<|DT D (o:=o) (aD:=aD++aZ o v) y;rw[F f,F g] at this;exact this;simp_all;simp_all
 case h_14 S parts c=>
  split at s;rename_i u m;split at s;split at s;rename_i aJ aG;split at s;rename_i aw az;simp[g6] at s;subst s;let d:=l.find m;let aF:=j2 d.pl aq;let⟨f,g⟩:=Nr D (o:=o) (aD:=aD++aZ o v) aG;let C:=WU (o:=o) g az;let aX:(V.zero u.z).cells.map (V.e8 o)=(V.zero u.z).cells:=by refine b0 (hY λT b=>?_)<|uo _;exact V.Im<|V.azf u.z T b
  rw[aX] at C;exact asQ aF d.lG c f C;simp_all;simp_all;simp_all;simp_all
 simp_all
def Az{S I:Z}(s:ef S I=ae):S≠I:=λF=>aq
def uW(ar:V->V):V->V|.func u b c=>.func u (ab ar b) (ab ar c)|T=>ar T
def sO(ar:V->V):V->V|.agg b=>.agg (ab (uW ar) b)|.vec c z b=>.vec c z (ab (uW ar) b)|T=>uW ar T
def v4(ar:V->V):V->V|.tuple H=>.tuple (ab (sO ar) H)|T=>sO ar T
def xy(ar:V->V)(T:V):V:=match T.plain with|ag=>T|ae=>v4 ar T
def acf{o:b6}:V.e8 o=uW (V.e0 o):=funext λT=>by cases T<;>rfl
def arv{o:b6}:V.jW o=sO (V.e0 o):=funext λT=>by cases T<;>first|rfl|simp[V.jW,sO,acf]
def M4{o:b6}:V.aB o=v4 (V.e0 o):=funext λT=>by cases T<;>first|rfl|simp[V.aB,V.jW,v4,sO,arv,acf]
def V.v6:V->X|.func .. |.agg _|.vec .. |.tuple _=>ae|_=>ag
def Ah(ar:V->V):Prop:=∀T,ar T=T\/T.v6/\(ar T).v6
def xz{u:V->V}{w:V}(s:w.v6):uW u w=u w/\sO u w=u w/\v4 u w=u w:=by cases w<;>first|exists aa,aa|cases s
section
variable{ar u:V->V}(s:Ah ar)
include s
theorem Mp{T:V}(b:T.v6):(ar T).v6:=by rcases s T with F|⟨_,F⟩;rw[F];exact b;exact F
theorem aaw{T:V}(b:T.v6=ae):ar T=T:=by rcases s T with F|⟨F,_⟩;exact F;rw[b] at F;cases F
theorem aaU T:uW u (uW ar T)=uW (λT=>u<|ar T) T:=by
 cases b:T.v6
 .cases T<;>first|(cases b;done)|(simp[uW];done)|(show uW u (ar _)=u (ar _);rw[aaw s b];rfl)
 rw[(xz b).1,(xz b).1,(xz<|Mp s b).1]
theorem Mx T:sO u (sO ar T)=sO (λT=>u<|ar T) T:=by
 cases b:T.v6
 .cases T<;>first|(cases b;done)|exact aaU s (.func ..)|(simp[sO,aaU s];done)|(show sO u (ar _)=u (ar _);rw[aaw s b];rfl)
 rw[(xz b).2.1,(xz b).2.1,(xz<|Mp s b).2.1]
theorem apZ T:v4 u (v4 ar T)=v4 (λT=>u<|ar T) T:=by
 cases b:T.v6
 .cases T<;>first|(cases b;done)|exact Mx s (.func ..)|exact Mx s (.agg _)|exact Mx s (.vec ..)|(simp[v4,Mx s];done)
 rw[(xz b).2.2,(xz b).2.2,(xz<|Mp s b).2.2]
theorem Fo T:(xy ar T).cells.length=U T.cells:=by
 let c:∀{w:V},w.v6->U w.cells=1:=λ{w} s=>by cases w<;>first|rfl|cases s
 unfold xy;split;rfl
 .cases b:T.v6
  .cases T<;>first|(cases b;done)|(simp[v4,sO,V.cells];done)|rfl
  rw[(xz b).2.2,c b,c<|Mp s b]
end
def yE(b:V->Prop):Y V->Prop|[]=>True|T::H=>b T/\yE b H
def sz{b:V->Prop}:∀{H:Y V},yE b H↔∀T∈H,b T|[]=>by simp[yE]|T::H=>by simp[yE,sz]
def FN(b:V->Prop):V->Prop|.func _ c d=>yE b c/\yE b d|T=>b T
def IE(c:V->Prop):V->Prop|.agg b=>yE (FN c) b|.vec _ _ b=>yE (FN c) b|T=>FN c T
def IF(b:V->Prop):V->Prop|.tuple H=>yE (IE b) H|T=>IE b T
def Nz{b:V->Prop}(s:∀T,b T)T:IF b T:=by
 let c:∀T,FN b T:=λT=>by have:=s T;cases T<;>first|exact this|exact⟨sz.2 λT _=>s T,sz.2 λT _=>s T⟩
 let d:∀T,IE b T:=λT=>by have:=c T;cases T<;>first|exact this|exact sz.2 λT _=>c T
 have:=d T;cases T<;>first|exact this|exact sz.2 λT _=>d T
def Ai(d:V->V->Prop)(H c:Y V):Prop:=U H=U c/\∀(b:Z)(T w:V),H[b]?=W T->c[b]?=W w->d T w
structure Em(a_:V->V->Prop):Prop where
 func:∀{ar xs aC sd zN},Ai a_ xs sd->Ai a_ aC zN->a_ (.func ar xs aC) (.func ar sd zN)
 agg:∀{xs sd},Ai a_ xs sd->a_ (.agg xs) (.agg sd)
 vec:∀{R z xs sd},Ai a_ xs sd->a_ (.vec R z xs) (.vec R z sd)
 tuple:∀{xs sd},Ai a_ xs sd->a_ (.tuple xs) (.tuple sd)
 refl:∀T,a_ T T
def H_{b:V->V->Prop}{ar u:V->V}{H:Y V}(s:∀T∈H,b (ar T) (u T)):Ai b (ab ar H) (ab u H):=⟨ao,λg T w d e=>by simp[db,Eb] at d e;obtain⟨z,c,rfl⟩:=d;obtain⟨Q,f,rfl⟩:=e;cases b0 (bQ c) f;exact s z<|dY c⟩
def aaV{d:V->V->Prop}{ar u:V->V}{f:V->Prop}(e:Em d)(s:∀T,f T->d (ar T) (u T)){T:V}(b:IF f T):d (v4 ar T) (v4 u T):=by
 let g:∀T,FN f T->d (uW ar T) (uW u T):=λT b=>by have:=s T;cases T<;>first|exact this b|exact e.func (H_ λT c=>s T<|sz.1 b.1 T c)<|H_ λT c=>s T<|sz.1 b.2 T c
 let h:∀T,IE f T->d (sO ar T) (sO u T):=λT b=>by have:=g T;cases T<;>first|exact this b|exact e.agg (H_ λT c=>g T<|sz.1 b T c)|exact e.vec<|H_ λT c=>g T<|sz.1 b T c
 have:=h T;cases T<;>first|exact this b|exact e.tuple<|H_ λT c=>h T<|sz.1 b T c
def Fm{b:V->V->Prop}{ar:V->V}{G:V->Prop}{o aQ:b6}(B:Ah ar)(c:Em b)(s:∀T,G T->b (T.e0 o) ((ar T).e0 aQ)){T:V}(d:T.plain=ae->IF G T):b (T.aB o) ((xy ar T).aB aQ):=by unfold xy;split;rename_i F;rw[V.gc F,V.gc F];exact c.refl _;rename_i F;rw[M4,M4,apZ B];exact aaV c s<|d F
def Em.qH{dq:V->V->Prop}:Em (fS dq):=⟨λs B=>.func _ _ _ _ _ s.1 s.2 B.1 B.2,λs=>.agg _ _ s.1 s.2,λs=>.vec _ _ _ _ s.1 s.2,λs=>.tuple _ _ s.1 s.2,.refl⟩
def Ai.eq{H c:Y V}(s:Ai (·=·) H c):H=c:=jn λb=>by have:=s.1;cases d:H[b]?<;>cases e:c[b]?<;>grind[s.2 b]
def Em.eq:Em (·=·):=⟨λs B=>by rw[s.eq,B.eq],λs=>by rw[s.eq],λs=>by rw[s.eq],λs=>by rw[s.eq],λ_=>aa⟩
def b7.mp(u:V->V):b7->b7|.cell F T=>.cell F (u T)|T=>T
def xA(u:V->V):Y (Z×V)->Y (Z×V)|[]=>[]|(S,T)::A=>(S,u T)::xA u A
def qW(I:Z)(u:V->V):bS->bS|[]=>[]|(B,b)::A=>match ef I B with|ag=>qW I u A|ae=>(B,b.mp u)::qW I u A
def SI{u:V->V}:∀H S,cX S (xA u H)=(cX S H).map u|[],_=>aa|(B,T)::A,S=>by rw[xA,rj,rj];cases s:S==B;exact SI A S;rfl
def MK{dq:V->V->Prop}{u:V->V}{o aQ:b6}{H:Y (Z×V)}(s:∀S T,cX S H=W T->fS dq (T.aB o) ((u T).aB aQ)):∀S w,cX S (da aQ (xA u H))=W w->∃T,cX S (da o H)=W T/\fS dq T w:=by
 intro S w b;rw[mU,SI] at b;rw[mU];cases c:cX S H;simp_all
 next T=>rw[c] at b;simp at b;subst b;exact⟨_,aa,s S T c⟩
section
variable{dq:V->V->Prop}{u:V->V}{o aQ:b6}{I:Z}(bu:∀T,(u T).cells.length=U T.cells)(fj:∀S,S≠I->aQ S=o S)
include bu fj
theorem SK{B:Z}(e:B≠I){b:b7}(s:∀F T,b=.cell F T->fS dq (T.aB o) ((u T).aB aQ)){H d:bV}(c:cY dq H d):cY dq (c2 o (B,b)::H) (c2 aQ (B,b.mp u)::d):=by unfold c2;simp[fj B e];cases b with|cell F T=>simp[b7.mp,b7.aD,bu];exact .F1 (s F T aa) c|_=>exact .same _ c
theorem SJ:∀H,(∀B F T,(B,b7.cell F T)∈H->B≠I->fS dq (T.aB o) ((u T).aB aQ))->∃b,b.Sublist (aZ o H)/\cY dq b (aZ aQ (qW I u H))|[],_=>⟨[],.slnil,.nil⟩|(B,h)::A,s=>by let⟨b,d,e⟩:=SJ A λB F T g=>s B F T<|mB _ g;rw[qW];split;exists b,.cons _ d;rename_i c;let c:=(Az c).symm;exact⟨_::b,.cons_cons _ d,SK bu fj c (λF T f=>s B F T (by simp[f]) c) e⟩
theorem SH:∀{H:bS}{c:b7},ci H I=W c->(∀B F T,(B,b7.cell F T)∈H->B≠I->fS dq (T.aB o) ((u T).aB aQ))->∃B,(aZ o H)[B]?=W ((o I).1,c.aD o (o I).2)/\∃b,b.Sublist (iB (aZ o H) B)/\cY dq b (aZ aQ (qW I u H)):=by
 intro H
 induction H
 grind[ci]
 next p A m=>
  intro c s e;let⟨B,ap⟩:=p;let f:=λB F T l=>e B F T<|mB _ l;unfold ci at s;rw[qW];split at s;rename_i he;simp at s;subst s;let⟨b,d,h⟩:=SJ bu fj A f;exists 0,by rw[nE he];rfl,b,d
  rename_i he;let⟨n,d,b,h,i⟩:=m s f;let g:=(Az he).symm;exact⟨n+1,Kg,c2 o (B,ap)::b,Kg,SK bu fj g (λF T k=>e B F T (by simp[k]) g) i⟩
end
def zv(I:Z):V->V
|.dC S c b=>match ef S I with
 |ag=>.undef|ae=>.dC S c b
|.a S d len=>match ef S I with
 |ag=>.undef|ae=>.a S d len
|.eA S=>match ef S I with
 |ag=>.undef|ae=>.eA S
|.oG S=>match ef S I with
 |ag=>.undef|ae=>.oG S
|.lc S c b=>match ef S I with
 |ag=>.undef|ae=>.lc S c b
|T=>T
abbrev zw(I:Z):V->V:=xy<|zv I
abbrev b7.DA(I:Z):b7->b7:=b7.mp<|zw I
abbrev Bh(I:Z):Y (Z×V)->Y (Z×V):=xA<|zw I
abbrev r3(I:Z):bS->bS:=qW I<|zw I
def Hb:bS->Z->b7->bS|[],_,_=>[]|(B,b)::A,I,w=>match ef I B with|ag=>(B,w)::r3 I A|ae=>(B,b.DA I)::Hb A I w
def il:bS->Z->b7->bS|[],_,_=>[]|(B,T)::A,S,w=>match ef S B with|ag=>(B,w)::A|ae=>(B,T)::il A S w
def aN.fresh(J:aN)(I:Z)(w:b7)(aE:V):aN:=⟨(I,aE)::Bh I J.c,r3 I J.az++[(I,w.DA I)],J.d⟩
def aN.Bj(J:aN)(S:Z)(w:b7):aN:=⟨Bh S J.c,Hb J.az S w,J.d⟩
inductive hC:V->V->Prop|own (z Q D n:Z):hC (.own z Q D n) .undef|bH (z Q D n:Z):hC (.bH z Q D n) .undef|jj (z Q:Z):hC (.jj z Q) .undef
theorem hC.one:wZ hC:=λT w s=>by cases s<;>exists aa
theorem hC.gU{N:bf}:∀T w,hC T w->∀b,bk N T b->bk N w b:=λT w s b _=>by cases s<;>exact .undef b
section
variable{aQ:b6}{I:Z}(fj:∀S,S≠I->aQ S=o S)
include fj
omit fj in
theorem aeH:Ah (zv I):=λT=>by cases T<;>first|exact bj aa|(simp only[zv];split<;>first|exact bj aa|exact bp ⟨aa,aa⟩)
theorem avn T:fS hC (T.e0 o) ((zv I T).e0 aQ):=by cases T with|dC S c b=>simp[zv];split;exact .base _ _<|.own ..;rename_i s;simp[V.e0,fj S<|Az s];exact .refl _|a S c b=>simp[zv];split;exact .base _ _<|.bH ..;rename_i s;simp[V.e0,fj S<|Az s];exact .refl _|eA S=>simp[zv];split;exact .base _ _<|.jj ..;rename_i s;simp[V.e0,fj S<|Az s];exact .refl _|oG S=>simp[zv];split;exact .base _ _<|.own ..;rename_i s;simp[V.e0,fj S<|Az s];exact .refl _|lc S c b=>simp[zv];split;exact .base _ _<|.own ..;rename_i s;simp[V.e0,fj S<|Az s];exact .refl _|_=>exact .refl _
theorem NY T:fS hC (T.aB o) ((zw I T).aB aQ):=Fm aeH .qH (G:=λ_=>True) (λT _=>avn fj T) λ_=>Nz (λ_=>b5) T
omit fj in
theorem TY(T:V):(zw I T).cells.length=U T.cells:=Fo aeH T
theorem b7.avo{B:Z}(d:B≠I)c{H b:bV}(s:cY hC H b):cY hC (c2 o (B,c)::H) (c2 aQ (B,c.DA I)::b):=SK TY fj d (λ_ T _=>NY fj T) s
theorem NX H:∃b,b.Sublist (aZ o H)/\cY hC b (aZ aQ (r3 I H)):=SJ TY fj H λ_ _ T _ _=>NY fj T
theorem alJ(h:(aQ I).1=(o I).1)w:∀{H:bS}{c:b7},ci H I=W c->∃B,(aZ o H)[B]?=W ((o I).1,c.aD o (o I).2)/\∃b,b.Sublist (aR (aZ o H) B ((o I).1,w.aD aQ (aQ I).2))/\cY hC b (aZ aQ (Hb H I w)):=by
 intro H
 induction H
 grind[ci]
 next l A i=>
  intro c s;let⟨B,ap⟩:=l;unfold ci at s;split at s;rename_i he;let f:=nE he;simp at s;subst s;let⟨b,d,e⟩:=NX fj A;exists 0,by rw[f];rfl,_::b,.cons_cons _ d
  rw[Hb,he];show cY _ _ (c2 aQ _::aZ aQ _);have:c2 aQ (B,w)=((o I).1,w.aD aQ (aQ I).2):=by rw[c2,<-f,h]
  rw[this];exact .same _ e;rename_i he;let⟨k,d,b,e,g⟩:=i s;refine⟨k+1,Kg,c2 o (B,ap)::b,?_,?_⟩;grind[aZ];rw[Hb,he];exact b7.avo fj (Az he).symm ap g
omit fj in
theorem cY.rA{dq:V->V->Prop}{m i:bV}(l:cY dq m i):∀{H e:bV},cY dq H e->cY dq (H++m) (e++i):=by
 intro H e s
 induction s with|nil=>exact l|same n _ b=>exact .same n b|j d f ap F g h c s _ b=>exact .j d f ap F g h c s b|map d f k g h c s _ b=>exact .map d f k g h c s b
theorem H5 H:∀S w,cX S (da aQ (Bh I H))=W w->∃T,cX S (da o H)=W T/\fS hC T w:=MK λ_ T _=>NY fj T
theorem a_.fresh{J:aN}{w:b7}{aE qJ:V}{e:Z}{b:cB}{z:fI}{E:bI}{N:bf}(k:fS hC aE (qJ.aB aQ))(bu:cY hC [(e,b)] [c2 aQ (I,w.DA I)])(s:a_ p (({J.aB o with d:=(J.aB o).d++[(e,b)]}:bc).put (W I) aE) z E N):a_ p ((J.fresh I w qJ).aB aQ) z E N:=by
 obtain⟨h,g,i⟩:=NX fj _;let f:a_ p ⟨(I,aE)::da o _,J.d++h++[(e,b)]⟩ z E N:=⟨s.cO.drop<|yf (yf (yg _) g)<|yg _,s.c,s.gR,s.size,s.defers⟩;refine f.rD (bf.le.refl N) f.cO hC.gU hC.one (λS ap aX=>?_) ?_;simp[aN.fresh,da,ia,rj] at aX⊢;cases bW:S==I with|true=>simp_all|false=>rw[bW] at aX;exact H5 fj _ S ap aX
 show cY _ _ (J.d++aZ aQ (r3 I _++[(I,w.DA I)]));grind[aZ,qW,cY.rA,cY.refl]
end
theorem Qn aD o:∀{H:bS}{S:Z}{T:b7},ci H S=W T->∃B,(aD++aZ o H)[B]?=W ((o S).1,T.aD o (o S).2)/\∀w,aR (aD++aZ o H) B ((o S).1,w.aD o (o S).2)=aD++aZ o (il H S w):=by
 let e:∀{H:bS}{S:Z}{T:b7},ci H S=W T->∃B,(aZ o H)[B]?=W ((o S).1,T.aD o (o S).2)/\∀w,aR (aZ o H) B ((o S).1,w.aD o (o S).2)=aZ o (il H S w):=by
  intro H
  induction H
  grind[ci]
  next f A c=>intro S T s;let⟨B,ap⟩:=f;unfold ci at s;split at s;rename_i he;have:=nE he;subst this;simp at s;subst s;refine⟨0,aa,λw=>?_⟩;simp[il,aZ,ia,J0,c2];let⟨d,g,b⟩:=c s;refine⟨d+1,Kg,λw=>?_⟩;grind[il,aZ]
 intro H S T s;let⟨B,h,b⟩:=e s;refine⟨U aD+B,aK,λw=>?_⟩;simp_all
def e2(o:b6)(I:Z)(b:Z×Z):b6:=λS=>if S=I then b else o S
theorem iT o I b:e2 o I b I=b:=by simp[e2]
theorem hd{o:b6}{I:Z}{b:Z×Z}{S:Z}:S≠I->e2 o I b S=o S:=by grind[e2]
theorem cD.toR{ops:bU a7}{H:Y a7}{O g1:bc}{ak:cS->bc->Prop}(d:∀z E N,a_ p O z E N->a_ p g1 z E N)(s:cD P p ops H g1 ak):cD P p ops H O ak:=λc z E N b=>s c z E N<|d z E N b
def QK(K:cI)(i:Y (Z×V))(m:Z)(cA:Y Z)(J:aN)(M:a7):c6 aN:=match M.op with
|.store S l T=>match K.find S with
 |W d=>match val i J.c l,val i J.c T with
  |W (.dC h k e),W b=>match b.fits,ci J.az h with
   |ag,W (.cell F g)=>match WX K F with
    |ag=>ai|ae=>match k with
     |_+1=>ai|0=>match g with
      |.agg f=>match ef (U b.cells) d.size,hB (e+d.size) (U f) with|ag,ag=>W ({J with az:=il J.az h (.cell F<|.agg<|am e f++b.cells++ay (e+U b.cells) f)}.put M.dst .undef)|_,_=>ai
      |g=>match g.cells,b.one,e,ef d.size 1 with|[_],ag,0,ag=>W ({J with az:=il J.az h (.cell F b)}.put M.dst .undef)|_,_,_,_=>ai
   |_,_=>ai
  |_,_=>ai
 |ai=>ai
|.box S T=>match M.dst,val i J.c T with
 |W I,W b=>match b.fits,g8 I m with|ag,ag=>W (J.fresh I (.cell S b)<|.dC I 0 0)|_,_=>ai
 |_,_=>ai
|.alloc S=>match M.dst,K.find S with
 |W I,W d=>match d.agg&&!d.O,g8 I m with|ae,ag=>W (J.fresh I (.cell S<|V.zero d.z)<|.dC I 0 0)|_,_=>ai
 |_,_=>ai
|.makeMap S ai=>match M.dst with
 |W I=>match g8 I m with|ag=>W (J.fresh I (.map [] 0)<|.eA I)|ae=>ai
 |ai=>ai
|_=>ai
def V.azg ap:(V.zero ap).plain:=by unfold V.zero;grind[V.aaP,V.aaO]
def V.ag1 ap:(V.zero ap).cells.length=a9 (dp ap):=by
 unfold V.zero;split;simp[V.cells,dp];let b:(V.leaf ap).cells=[V.leaf ap]:=by unfold V.leaf;split<;>rfl
 grind[dp]
def FE{T:V}:T.one->T.cells=[T]:=by cases T<;>simp_all[V.cells,V.one]
def Ql{o:b6}{I b:Z}{S:aw}{T:V}:cY hC [(b,.j 0 (U T.cells) S [T.aB o])] [c2 (e2 o I (b,0)) (I,(b7.cell S T).DA I)]:=by simp[c2,b7.mp,b7.aD,iT,TY];exact .F1 (NY (λS bW=>hd bW) T) .nil
def amG{K:cI}(O:gy P K)(aH:eh p.G){m:Z}{cA:Y Z}{J ax:aN}{ops:bU a7}{H:Y a7}{ak:cS->bc->Prop}(s:QK K p.G m cA J M=W ax)(v:(J.aB o).guard ops M=W ag)(R:∀aQ,(∀S,m<=S->aQ S=o S)->cD P p ops H (ax.aB aQ) ak):cD P p ops (M::H) (J.aB o) ak:=by
 let y:∀{T:aP}{I:V},val p.G J.c T=W I->(J.aB o).val p T=W (I.aB o):=ya aH;let A:∀{z Q:Z},g8 z Q->z<Q:=λ{z Q} s=>ll (show hB (z+1) Q=ag from s);unfold QK at s;split at s;rename_i S aW T h;split at s;rename_i x D;let av:=(O.find D).au;split at s;rename_i l aU f b ar L;split at s;rename_i F el u aI;split at s;cases s;split at s;cases s;let⟨B,X,ap⟩:=Qn J.d o aI;let aw:=y L;split at s;rename_i e;split at s;rename_i n k;simp only[g6] at s;subst s;let n:=nE n;let k:f+x.size<=U e:=ll k;let C:=ap<|.cell F<|.agg<|am f e++b.cells++ay (f+U b.cells) e;let hlen:U (am f e++b.cells++ay (f+U b.cells) e)=U e:=by simp[cd,nD,B2];omega
 let aJ:=V.qY (o:=o) u;apply cD.AL v (CV av h (y ar) X (el:=(V.agg e).aB o) aa aw (V.xI u) aq (by rw[V.xH];exact k)
  (show am f (ab (V.e8 o) e)++(b.aB o).cells++ay (f+(b.aB o).cells.length) (ab (V.e8 o) e)=am f (ab (V.e8 o) e)++(b.aB o).cells++ay (f+x.size) (ab (V.e8 o) e) by simp_all))
 have:{J.aB o with d:=(J.aB o).d.set B ((o l).1,.j (o l).2 (V.agg e).cells.length F<|aR [(V.agg e).aB o] 0<|((V.agg e).aB o).s4 f (b.aB o).cells)}=({J with az:=il J.az l (.cell F<|.agg<|am f e++b.cells++ay (f+U b.cells) e)}).aB o:=by
  let aF:((V.agg e).aB o).s4 f (b.aB o).cells=(V.agg<|am f e++b.cells++ay (f+U b.cells) e).aB o:=by show V.agg (am f (ab (V.e8 o) e)++(b.aB o).cells++ay (f+(b.aB o).cells.length) (ab (V.e8 o) e))=V.agg (ab (V.e8 o) (am f e++b.cells++ay (f+U b.cells) e));rw[aJ,bm,dc,dc,Gu,JZ]
  let aG:(V.agg<|am f e++b.cells++ay (f+U b.cells) e).cells.length=(V.agg e).cells.length:=hlen;show(⟨_,_⟩:bc)=⟨_,_⟩;congr 1;rw[<-C,aF];simp only[b7.aD,aG,J0];rfl
 rw[this];let g:=R o λ_ _=>aa;rw[aN.r1] at g;exact g;simp_all;rename_i aM;split at s;rename_i w n k g;simp[g6] at s;subst s;let g:=nE g;let aA:=FE k;let aC:(b.aB o).cells=[b.aB o]:=FE<|V.M5 k;let C:=ap<|.cell F b;let aS:(el.aB o).s4 0 (b.aB o).cells=b.aB o:=by
  rw[aC];unfold V.s4;split;rename_i H aL;cases el<;>first|exact cg aa (aM _)|cases aL
  rfl
 let aT:(el.aB o).cells.length=1:=by rw[V.xH,n];rfl
 apply cD.AL v<|CV av h (y ar) X (el:=el.aB o) aa aw (V.xI u) aq q aK;have:{J.aB o with d:=(J.aB o).d.set B ((o l).1,.j (o l).2 (U el.cells) F<|aR [el.aB o] 0<|(el.aB o).s4 0 (b.aB o).cells)}=({J with az:=il J.az l (.cell F b)}).aB o:=by rw[aS];show(⟨_,_⟩:bc)=⟨_,_⟩;congr 1;rw[<-C];simp[b7.aD,n,aA];rfl
 rw[this];let g:=R o λ_ _=>aa;rw[aN.r1] at g;exact g;simp_all;simp_all;simp_all;simp_all;rename_i S T h;split at s;rename_i I b t L;split at s;rename_i u hm;simp[g6] at s;subst s;let hm:=A hm;refine cD.box v h (y L) (V.xI u) aa λi=>?_;rw[t,V.xH];apply cD.toR λz E N r=>a_.fresh (aQ:=e2 o I (i,0)) (λS bW=>hd bW) (aE:=.own i 0 0 0) (qJ:=.dC I 0 0) (w:=.cell S b) (by simp[V.aB,V.jW,V.e8,V.e0,iT];exact .refl _) Ql r;grind[hd];simp_all;simp_all;rename_i S h;split at s;rename_i I x t D;split at s;rename_i _ hm;simp[g6] at s;subst s;let hm:=A hm;refine cD.alloc v h (O.find D).lG aa λi=>?_;rw[t,<-V.ag1,<-V.gc (o:=o) (V.azg x.z),V.xH];apply cD.toR λz E N r=>a_.fresh (aQ:=e2 o I (i,0)) (λS bW=>hd bW) (aE:=.own i 0 0 0) (qJ:=.dC I 0 0) (w:=.cell S<|V.zero x.z) (by simp[V.aB,V.jW,V.e8,V.e0,iT];exact .refl _) Ql r;grind[hd];simp_all;simp_all;rename_i S h;split at s;rename_i I t;split at s;rename_i hm;simp[g6] at s;subst s;let hm:=A hm;refine cD.makeMap v h λi=>?_;rw[t];apply cD.toR λz E N r=>a_.fresh (aQ:=e2 o I (i,0)) (λS bW=>hd bW) (aE:=.jj i 0) (qJ:=.eA I) (w:=.map [] 0) (by simp[V.aB,V.jW,V.e8,V.e0,iT];exact .refl _) (by simp[c2,b7.DA,b7.aD,iT];exact .same _ .nil) r;grind[hd];simp_all;simp_all;simp_all
def aeF{M:a7}{b:Y (Z×V)}{S:Z}(s:S∈BS M):cX S (dt M b)=cX S b:=by
 unfold dt;generalize BS M=H at s
 induction H
 grind
 next B H g=>
  rw[Va];by_cases d:S=B;subst d;cases e:cX S b;simp only[J9];by_cases hm:S∈H;grind;cases f:cX S (H.filterMap _);rfl
  next T=>have:=Sz f;simp_all
  next T=>simp
  let hm:S∈H:=by rcases fH.1 s with c|c;omega;exact c
  cases e:cX B b;simp_all
  next T=>grind
theorem wu M c:dt M (da o c)=da o (dt M c):=by
 unfold dt;generalize BS M=H
 induction H
 rfl
 next B H b=>
  rw[Va,Va,mU];cases cX B c;simpa using b
  next T=>simp[lm,da,ia] at b⊢;rw[b]
theorem yb i{M:a7}{b:Y (Z×V)}{T:aP}(s:T∈a0 (j0 M.op)):val i (dt M b) T=val i b T:=by cases T with|tmp S=>simp[val,sQ];apply aeF;unfold BS;grind|_=>rfl
theorem OJ i{b c:Y (Z×V)}:∀{H:Y aP},(∀T∈H,val i c T=val i b T)->mz i c H=mz i b H|[],_=>aa|T::A,s=>by unfold mz;rw[s T ao,OJ i λw d=>s w aK]
theorem Tu i{b c:Y (Z×V)}:∀{H:Y (Z×aP)},(∀T∈H,val i c T.2=val i b T.2)->sZ i c H=sZ i b H|[],_=>aa|(d,T)::A,s=>by unfold sZ;rw[s (d,T) ao,Tu i λw e=>s w aK]
theorem ax3{K:cI}{i:Y (Z×V)}{b:Y (Z×V)}{d:bS}{M:a7}:ug K i (dt M b) d M=ug K i b d M:=by
 let c:∀T∈a0 (j0 M.op),val i (dt M b) T=val i b T:=λT g=>yb i g;unfold ug;cases f:M.op<;>rw[f] at c<;>simp only[j0] at c<;>try rfl
 case call e=>grind[Call.operands]
 case unOp cc S T=>cases cc<;>first|rfl|(dsimp;rw[c T ao])
 case makeFunc fn z Q=>grind[OJ]
 case build S h=>grind[Tu]
 case pick e T w=>simp_all
 case binOp op S T w k=>simp_all
 all_goals simp_all
def di.full{O:bc}{M:a7}{A:V}(s:di P p M ⟨dt M O.c,O.d⟩ A):di P p M O A:=λz E N b e f h=>s z E N ⟨b.cO,λS T i=>b.c S T (by let⟨k,g⟩:=IZ i;exact g),b.gR,b.size,b.defers⟩ e f h
def agu{K:cI}(e:gy P K)(d:eh p.G){c:Y (Z×V)}{b:bS}{aD:bV}{A:V}:ug K p.G c b M=W A->di P p M ⟨dt M (da o c),aD++aZ o b⟩ (A.aB o):=by grind[wu,agt,ax3]
end
def xK:Y a7->Z->c6 a7|[],_=>ai|M::_,0=>W M|_::H,b+1=>xK H b
def acm:∀H b,xK H b=(aO H)[b]?|[],b=>ba|M::H,0=>ba|M::H,b+1=>by rw[xK,acm H b];simp
structure dk(m:Z)(o aQ:b6):Prop where
 id:∀S,m<=S->(aQ S).1=(o S).1
 eq:∀S,m+1000<=S->aQ S=o S
theorem dk.refl m o:dk m o o:=⟨λ_ _=>aa,λ_ _=>aa⟩
theorem dk.trans{m:Z}{z Q b:b6}(s:dk m z Q)(B:dk m Q b):dk m z b:=⟨λS bW=>b0 (B.id S bW)<|s.id S bW,λS bW=>b0 (B.eq S bW)<|s.eq S bW⟩
theorem dk.of{m:Z}{z Q:b6}(s:∀S,m<=S->Q S=z S):dk m z Q:=⟨λS bW=>aq,λS bW=>s S q⟩
def mR(e:Y a7)(c:Y (Z×V))(M:a7):c6 X:=match M.guard with
|ai=>W ag|W (b,E)=>match xK e b with
 |W d=>match d.dst with
  |W I=>match gr c I with
   |W (.bool Q)=>match E with|ag=>W Q|ae=>W !Q
   |W (.tuple [])=>W ae|_=>ai
  |ai=>ai
 |ai=>ai
def uT{e:Y a7}{J:aN}{M:a7}{Q:X}o(s:mR e J.c M=W Q):(J.aB o).guard (aO e) M=W Q:=by
 unfold mR at s;unfold bc.guard;split at s;simp_all;rename_i k E g
 try (rw[g];dsimp)
 split at s;rename_i l d;rw[acm] at d;rw[d];split at s;rename_i I i;simp[Option.bind_some,i];rw[sQ] at s;let b:=mU o J.c I;split at s;rename_i f h;rw[h] at b;simp[aN.aB,b,V.aB];rw[<-s];cases E<;>cases f<;>rfl;grind[aN.aB,V.aB];trivial;trivial;trivial
def A0:c6 (Z×X)->c6 (Z×X)->X
|ai,ai=>ag|W (z,T),W (Q,w)=>match ef z Q with
 |ag=>match T,w with|ag,ag=>ag|ae,ae=>ag|_,_=>ae
 |ae=>ae
|_,_=>ae
def anR{z Q:c6 (Z×X)}(s:A0 z Q):z=Q:=by unfold A0 at s;grind[Nat.eq_of_beq_eq_true]
def Jh(u:c6 (Z×X)):Y a7->Y a7×Y a7|[]=>([],[])|M::H=>match A0 u M.guard with|ag=>([],M::H)|ae=>match Jh u H with|(z,Q)=>(M::z,Q)
def Uj(u:c6 (Z×X)):∀H,(Jh u H).1++(Jh u H).2=H|[]=>aa|M::H=>by rw[Jh];split;rfl;simp[Uj u H]
def iw(S:Z):Y Z->X|[]=>ae|B::H=>match ef S B with|ag=>ag|ae=>iw S H
theorem qU{S:Z}:∀{H:Y Z},iw S H↔S∈H|[]=>by simp[iw]|B::H=>by rw[iw];split;simp_all;rename_i s;rw[qU,fH];constructor;simp_all;rintro(rfl|b);simp at s;omega
def jQ:Y a7->Y Z|[]=>[]|M::H=>match M.dst with|W I=>I::jQ H|ai=>jQ H
def yT(b:Y Z):Y (Z×V)->Y (Z×V)|[]=>[]|(S,T)::A=>match iw S b with|ag=>yT b A|ae=>(S,T)::yT b A
def Si{b:Y Z}:∀{H:Y (Z×V)}{S:Z}{T:V},gr (yT b H) S=W T->S∉b/\gr H S=W T|[],S,T,s=>cf|(B,w)::A,S,T,s=>by rw[yT] at s;rw[gr];split at s;cases Si s;grind[Nat.eq_of_beq_eq_true,cg,qU];rw[gr] at s;split at s;grind[Nat.eq_of_beq_eq_true,qU];exact Si s
theorem QF{b:Y Z}:∀{H:Y (Z×V)}{S:Z}{T:V},S∉b->gr H S=W T->gr (yT b H) S=W T|[],S,T,_,s=>cf|(B,w)::A,S,T,c,s=>by rw[yT];rw[gr] at s;split;split at s;grind[Nat.eq_of_beq_eq_true,cg,qU];exact QF c s;rw[gr];split at s;exact s;exact QF c s
def DI(d:Y a7)(c:Z)(E:X):Y Z->Y a7->X
|_,[]=>ag|b,M::H=>match M.guard with
 |ai=>ae|W (e,bO)=>match A0 (W (c,E)) (W (e,bO)) with
  |ag=>DI d c E (match M.dst with|W I=>I::b|ai=>b) H|ae=>match xK d e with
   |W f=>match f.dst with
    |W I=>match iw I b with|ag=>DI d c E (match M.dst with|W I=>I::b|ai=>b) H|ae=>ae
    |ai=>ae
   |ai=>ae
def NA(I:Z)(E:X):Op->c6 Z
|.pick (.tmp b) T w=>match ef b I with
 |ag=>match E,T,w with|ag,.tmp S,.const (hA ae)=>W S|ae,.const (hA ag),.tmp S=>W S|_,_,_=>ai
 |ae=>ai
|_=>ai
def at4(K:cI):Op->X
|.convert z Q _=>match K.find z,K.find Q with
 |W T,W w=>match T.d,w.d with|k1,c_ _=>ae|_,_=>ag
 |_,_=>ag
|lI .eql _ _ (.const (eY ..)) _=>ae|lI .. |.unOp .. |o0 .. |.index .. |.slice .. |.load .. |.fieldAddr .. |.nilCheck .. |.field .. |.lookup .. |.pick .. |.extract .. |.makeInterface .. =>ag|ft b=>match b.callee with
 |gP .len|gP .min|gP .max=>ag|_=>ae
|_=>ae
def Rc(e:Y a7)(b:Y Z)(M:a7):X:=match M.guard with
|ai=>ag|W (c,_)=>match xK e c with
 |W d=>match d.dst with|W I=>!iw I b|ai=>ae
 |ai=>ae
section
variable(P:bn)(K:cI)(p:bJ)(i:Y (Z×V))(m:Z)(cA:Y Z)
def VR(ops:bU a7)(H:Y a7)(J:aN)(B:aN->Prop):Prop:=∀(o:b6)(ak:cS->bc->Prop),(∀aQ b,dk m o aQ->B b->ak fY (b.aB aQ))->cD P p ops H (J.aB o) ak
structure gg(ops:bU a7)(M:a7)(J:aN)(B:aN->Prop):Prop where
 run:gy P K->p.G=i->eh i->∀(o:b6)(H:Y a7)(ak:cS->bc->Prop),(J.aB o).guard ops M=W ag->(∀aQ en,dk m o aQ->B en->cD P p ops H (en.aB aQ) ak)->cD P p ops (M::H) (J.aB o) ak
inductive er(t:X)(M:a7)(J:aN)(B:V->Prop):Prop|mk (A:V):(gy P K->p.G=i->eh i->∀o aD,t\/aD=(J.aB o).d->di P p M ⟨dt M (da o J.c),aD⟩ (A.aB o))->B A->er t M J B
structure a1(n:gw)(J:aN)(ak:cS->aN->Prop):Prop where
 run:∀(o:b6)(GP:cS->bc->Prop),(∀aQ F en,dk m o aQ->ak F en->GP F (en.aB aQ))->e3 P p n (J.aB o) GP
inductive nc(Q:X)(o3 dq:Prop):Prop|mk:(Q=ag->o3)->(Q=ae->dq)->nc Q o3 dq
inductive Af(Q E:X)(o3:X->Prop)(dq:X->Prop):Prop|mk (w:X):(Q=E->o3 w)->dq w->Af Q E o3 dq
def ts(E Q w:X):X:=match E with|ag=>Q&&w|ae=>Q||w
def AX{b:Type}:Y (Z×b)->(Y (Z×b)->Prop)->Prop|[],B=>B []|(S,T)::A,B=>AX A λc=>B<|(S,T)::c
theorem EZ{b:Type}:∀H(B:Y (Z×b)->Prop),AX H B↔B H|[],B=>nJ|(S,T)::A,B=>by rw[AX,EZ A]
def LM:Y V->(Y V->Prop)->Prop|[],B=>B []|T::A,B=>LM A λb=>B<|T::b
theorem Y8:∀H B,LM H B↔B H|[],B=>nJ|T::A,B=>by rw[LM,Y8 A]
def Q5:V->(V->Prop)->Prop|.agg H,B=>LM H (λb=>B<|.agg b)|T,B=>B T
theorem Y6 b B:Q5 b B↔B b:=by cases b<;>first|rfl|exact Y8 _ _
def LN(Q:X)(A:V)(B:V->Prop):Prop:=match Q with|ag=>Q5 A B|ae=>B A
theorem Hz(Q:X)A B:LN Q A B↔B A:=by cases Q;rfl;exact Y6 A B
def PO(K:cI):Op->X
|.load S _=>match K.find S with
 |W b=>b.agg|ai=>ae
|.field S _ e=>match K.find S with
 |W b=>match b.bz[e]? with
  |W (_,d,_)=>match K.find d with|W c=>c.agg|ai=>ae
  |ai=>ae
 |ai=>ae
|.build .. =>ag|_=>ae
def LL(S:Z):bS->(bS->Prop)->Prop
|[],B=>B []|(b,T)::A,B=>match ef S b with
 |ag=>match T with|.cell F e=>Q5 e (λd=>B<|(b,.cell F d)::A)|T=>B ((b,T)::A)
 |ae=>LL S A λc=>B<|(b,T)::c
theorem Y7 S:∀H B,LL S H B↔B H
|[],B=>nJ|(b,T)::A,B=>by
 let d:=Y7 S A λc=>B<|(b,T)::c;unfold LL;split;cases T<;>first|exact nJ|simp[Y6]
 omega
def axb(i:Y (Z×V))(b:Y (Z×V)):Op->c6 Z
|.store _ c _=>match val i b c with
 |W (.dC S _ _)=>W S|_=>ai
|_=>ai
def Y9(S:c6 Z)(H:bS)(B:bS->Prop):Prop:=match S with|W S=>LL S H B|ai=>B H
theorem anA S H B:Y9 S H B↔B H:=by cases S;rfl;exact Y7 _ H B
def gp(E Q w:X):V:=match E with|ag=>.bool (Q&&w)|ae=>.bool<|Q||w
def oU(F:X)(b:Y a7):Z->c6 (Z×X)->Y a7->aN->(aN->Prop)->Prop
|0,_,_,_,_=>hP|_+1,_,[],J,B=>B J|e+1,u,M::H,J,B=>match A0 u M.guard with
 |ag=>match mR b J.c M with
  |W ag=>match ug K i J.c J.az M with
   |W A=>LN (PO K M.op) A (λA=>oU F b e u H (J.put M.dst A) B)|ai=>match u,F with
    |ai,ag=>match QK K i m cA J M with|W h=>AX h.c (λl=>AX h.az λmN=>Y9 (axb i J.c M.op) mN (oU F b e ai H ⟨l,·,h.d⟩ B))|ai=>match at4 K M.op with|ae=>gg P K p i m (aO b) M J (oU F b e ai H · B)|ag=>er P K p i ae M J (λA=>oU F b e ai H (J.put M.dst A) B)
    |o,_=>er P K p i ae M J (λA=>oU F b e o H (J.put M.dst A) B)
  |_=>hP
 |ae=>match M.guard with
  |ai=>hP|W (k,E)=>match xK b k with
   |ai=>hP|W s=>match s.dst with
    |ai=>hP|W I=>match gr J.c I with
     |W (.bool Q)=>match Jh u (M::H) with
      |(f,g::r)=>match A0 u g.guard,mR b J.c g,g.dst,NA I E g.op,DI b k E [] f,iw I (jQ f),Rc b (jQ f) g with
       |ag,W ag,W n,W t,ag,ae,ag=>
        Af Q E (λw=>oU F b e (W (k,E)) f {J with c:=(I,.bool E)::J.c} (λh=>gr h.c t=W (.bool w)))
         (λw=>AX (yT (jQ f) J.c) λl=>oU F b e u r {J with c:=(n,gp E Q w)::l} B)|_,_,_,_,_,_,_=>hP
      |_=>hP
     |_=>hP
end
section
variable{P:bn}{K:cI}{p:bJ}{i:Y (Z×V)}{m:Z}{cA:Y Z}
def a_.zI{O:bc}{z:fI}{E:bI}{N:bf}(s:a_ p O z E N){H:Y (Z×V)}(b:∀S T,cX S H=W T->cX S O.c=W T):a_ p ⟨H,O.d⟩ z E N:=⟨s.cO,λS T e=>s.c S T<|b S T e,s.gR,s.size,s.defers⟩
def cD.zI{ops:bU a7}{H:Y a7}{O:bc}{ak:cS->bc->Prop}b(g:∀S T,cX S b=W T->cX S O.c=W T)(s:cD P p ops H ⟨b,O.d⟩ ak):cD P p ops H O ak:=λf z E N e=>s f z E N<|e.zI g
theorem Mz(J:aN)I T S:gr (J.put (W I) T).c S=if S=I then W T else gr J.c S:=by simp[aN.put,gr];cases s:ef S I with|true=>simp_all|false=>rw[ad];intro F;simp_all
structure o4(J en:aN)(uv:Y Z):Prop where
 az:en.az=J.az
 d:en.d=J.d
 c:∀S∉uv,∀T,gr J.c S=W T->gr en.c S=W T
theorem o4.refl J b:o4 J J b:=⟨aa,aa,λ_ _ _ s=>s⟩
theorem o4.put{J f:aN}{e:Y Z}{M:a7}{A:V}{H:Y a7}(s:o4 (J.put M.dst A) f (jQ H))(g:e=jQ (M::H)):o4 J f e:=by subst g;cases b:M.dst with|none=>rw[b] at s;simp[jQ,b];exact s|some I=>rw[b] at s;simp[jQ];refine⟨s.az,s.d,λS bW T i=>s.c S (λh=>bW aK) T ?_⟩;simp_all[Mz,ad]
theorem Lq:∀z Q,jQ (z++Q)=jQ z++jQ Q|[],Q=>aa|M::z,Q=>by rw[kh,jQ,jQ];cases M.dst<;>simp[Lq z Q]
def Zx{e:Y a7}{J g:aN}{d:Y Z}{M:a7}(b:Rc e d M)(s:o4 J g d)(f:mR e J.c M=W ag):mR e g.c M=W ag:=by
 unfold Rc at b;unfold mR at f⊢;split at b;rfl
 try simp at f⊢
 split at b;split at b;rename_i I l;let i:I∉d:=λk=>by grind[qU]
 cases h:gr J.c I;simp_all
 next T=>rw[s.c I i T h];simp_all
 trivial;trivial
structure Cn(P:bn)(p:bJ)(ops:bU a7)(iX:Y a7->bc->Prop):Prop where
 pure:∀M H O A,O.guard ops M=W ag->di P p M ⟨dt M O.c,O.d⟩ A->iX H (O.put M.dst A)->iX (M::H) O
 skip:∀M H O,O.guard ops M=W ae->iX H (O.put M.dst (.tuple []))->iX (M::H) O
 DW:∀H O H2,(∀S T,cX S H2=W T->cX S O.c=W T)->iX H ⟨H2,O.d⟩->iX H O
def cD.rules ops ak:Cn P p ops (cD P p ops · · ak):=⟨λ_ _ _ _ b c s=>cD.pure b c.full s,λ_ _ _ b s=>cD.skip b s,λ_ _ e d s=>cD.zI _ d s⟩
def Cn.agO{ops:bU a7}{b:Y a7->bc->Prop}(e:Cn P p ops b){H:Y a7}{J en:aN}{o:b6}(h:en.az=J.az)(i:en.d=J.d)(k:∀S T,gr en.c S=W T->gr J.c S=W T)(s:b H (en.aB o)):b H (J.aB o):=by
 refine e.DW H _ (da o en.c) (λS T f=>?_) ?_;rw[mU] at f;show cX S (da o _)=W T;rw[mU];cases g:cX S en.c;simp_all
 next w=>simp_all[sQ]
 grind[aN.aB]
def Fp(b:eh p.G){M:a7}{J:aN}{o:b6}{aD:bV}{T:aP}{I:V}(s:val p.G J.c T=W I)(e:T∈a0 (j0 M.op))(d:I.plain):(⟨dt M (J.aB o).c,aD⟩:bc).val p T=W I:=by have:=ya b (o:=o) (c:=dt M J.c) (aD:=aD) (M:=T) (T:=I) (by grind[yb]);rwa [V.gc d,<-wu] at this
def Uf{h:Y a7}{r:Z}{E Q:X}{y:a7}{I:Z}{o:b6}(w:xK h r=W y)(v:y.dst=W I)(u:Q≠E){i:Y a7->bc->Prop}(k:Cn P p (aO h) i){x:Y a7}:∀d b J,DI h r E b d->iw I (jQ d)=ae->I∉b->gr J.c I=W (.bool Q)->(∀S∈b,gr J.c S=W (.tuple []))->(∀e,o4 J e (jQ d)->gr e.c I=W (.bool Q)->i x (e.aB o))->i (d++x) (J.aB o)
|[],b,J,_,_,_,l,_,s=>s J (o4.refl J _) l|M::d,b,J,n,hm,B,l,z,s=>by
 let g:mR h J.c M=W ae/\DI h r E (match M.dst with|W I=>I::b|ai=>b) d=ag:=by unfold DI at n;unfold mR;split at n;trivial;split at n;rename_i he;let he:=anR he;grind;grind[qU]
 apply k.skip _ _ _<|uT o g.1;let F:=aN.r1 o J M.dst<|.tuple [];rw[show(V.tuple []).aB o=.tuple [] from aa] at F;cases f:M.dst;rw[f] at g;refine Uf w v u k d b J g.2 (by simpa[jQ,f] using hm) B l z λe he m=>s e ?_ m;exact o4.put (A:=.tuple []) (by rw[f];exact he) aa
 next t=>simp[jQ,f,iw] at hm;split at hm;cases hm;let C:I≠t:=λF=>aq;rw[f] at g;refine Uf w v u k d _ (J.put (W t)<|.tuple []) g.2 hm aq (by simp_all[Mz,ad]) ?_ λe he m=>s e ?_ m;grind[Mz,cg];exact o4.put (A:=.tuple []) aq aa
def ady{I c:Z}{E:X}{b:Op}(s:NA I E b=W c):E/\b=.pick (.tmp I) (.tmp c) (.const (hA ae))\/E=ae/\b=.pick (.tmp I) (.const (hA ag)) (.tmp c):=by unfold NA at s;split at s;split at s;rename_i he;have:=nE he;grind;trivial;trivial
def Zv(h:eh p.G){m:Y a7}{D:Z}{E Q w:X}{H e:a7}{I n t:Z}{o:b6}{J:aN}{b i:Y a7}{g:Y a7->bc->Prop}(k:Cn P p (aO m) g)(am:xK m D=W H)(O:H.dst=W I)(N:gr J.c I=W (.bool Q))(au:mR m J.c e=W ag)(av:e.guard=ai\/True)(x:e.dst=W n)(A:NA I E e.op=W t)(ap:DI m D E [] b)(U:iw I (jQ b)=ae)(z:∀en,o4 J en (jQ b)->mR m en.c e=W ag)(R:Q=E->∀i,(∀en,gr en.c t=W (.bool w)->o4 {J with c:=(I,.bool E)::J.c} en (jQ b)->g i (en.aB o))->g (b++i) (({J with c:=(I,.bool E)::J.c}:aN).aB o))(s:g i (({J with c:=(n,.bool<|ts E Q w)::yT (jQ b) J.c}:aN).aB o)):g (b++e::i) (J.aB o):=by
 let ak:I∉jQ b:=λar=>by grind[qU]
 let u:∀en,o4 J en (jQ b)->g i ((en.put (W n)<|.bool<|ts E Q w).aB o):=by intro en he;refine k.agO (en:={J with c:=(n,.bool<|ts E Q w)::yT (jQ b) J.c}) (bQ he.az) (bQ he.d) (λS T l=>?_) s;rw[Mz];simp[gr] at l;split at l;simp_all;rw[ad λF=>aq];let⟨K,L⟩:=Si l;exact he.c S K T L
 by_cases r:Q=E;refine k.agO (en:={J with c:=(I,.bool E)::J.c}) aa aa (λS T l=>?_)<|R r _ λen C he=>?_;grind[gr,Nat.eq_of_beq_eq_true];let y:o4 J en (jQ b):=⟨he.az,he.d,λS bW T l=>he.c S bW T (by grind[gr,Nat.eq_of_beq_eq_true])⟩;let v:gr en.c I=W (.bool E):=he.c I ak _ (by simp[gr]);apply k.pure _ _ _ (.bool<|ts E Q w)<|uT o<|z en y;rcases ady A with⟨rfl,f⟩|⟨rfl,f⟩;apply NI (S:=ag) f<|Fp h (M:=e) (J:=en) (T:=.tmp I) v dZ aa;have:=Fp h (M:=e) (J:=en) (o:=o) (aD:=(en.aB o).d) (T:=.tmp t) C dZ aa;grind[ts];apply NI (S:=ae) f<|Fp h (M:=e) (J:=en) (T:=.tmp I) v dZ aa;have:=Fp h (M:=e) (J:=en) (o:=o) (aD:=(en.aB o).d) (T:=.tmp t) C dZ aa;grind[ts];rw[x];exact u en y;refine Uf am O r k b [] J ap U ao N ao λen he B=>?_;apply k.pure _ _ _ (.bool<|ts E Q w)<|uT o<|z en he;rcases ady A with⟨rfl,f⟩|⟨rfl,f⟩;have:Q=ae:=by cases Q;rfl;exact cg aa r
 subst this;exact NI (S:=ae) f (Fp h (M:=e) (J:=en) (T:=.tmp I) B dZ aa) ba;have:Q:=by cases Q;exact cg aa r;rfl
 subst this;exact NI (S:=ag) f (Fp h (M:=e) (J:=en) (T:=.tmp I) B dZ aa) ba;rw[x];exact u en he
def WA(E Q w:X):gp E Q w=.bool (ts E Q w):=by cases E<;>rfl
def agS(z:gy P K)(g:p.G=i)(r:eh i){F:X}{N:Y a7}{l:Y a7->bc->Prop}(n:Cn P p (aO N) l):∀k(u:c6 (Z×X)) H J B,F=ae\/u≠ai->oU P K p i m cA F N k u H J B->∀o e,(∀b,B b->o4 J b (jQ H)->l e (b.aB o))->l (H++e) (J.aB o):=by
 intro k
 induction k
 intro u H J B _ s;trivial
 next k x=>
  intro u H J B t s o e h;cases H;exact h J s (o4.refl J _)
  next M H=>
   unfold oU at s;split at s;split at s;rename_i D;split at s;rename_i A v;rw[Hz] at s;apply n.pure _ _ _ _ (uT o D)<|agu z (g▸r)<|bQ g▸v;rw[<-aN.r1];exact x u H _ B t s o e λb f he=>h b f<|o4.put he aa;split at s;trivial;obtain @⟨A,v,s⟩:=s;apply n.pure _ _ _ _ (uT o D)<|v z g r o _<|bp aa;rw[<-aN.r1];exact x u H _ B t s o e λb f he=>h b f<|o4.put he aa;trivial;split at s;trivial;split at s;trivial;rename_i aH aq;split at s;trivial;rename_i I ak;split at s;rename_i Q U;split at s;rename_i R aI aw av;split at s;rename_i O aJ ax y am ar au hm ap;cases s
   next w aC L=>rw[EZ,WA] at L;let E:=Uj u<|M::H;rw[av] at E;rw[<-E,eS,kh];refine Zv (w:=w) (g▸r) n aq ak U y (bp b5) am ar au hm (λb he=>Zx ap he y) (λaA aG ay=>?_) ?_;grind;refine x u aw _ B t L o e λb f he=>h b f ⟨he.az,he.d,λS bW T aF=>he.c S (λC=>bW ?_) T ?_⟩;grind[Lq,jQ];let aD:S∉jQ R:=λC=>bW (by grind[Lq]);let aE:S≠O:=λC=>bW (by grind[Lq,jQ]);grind[gr,ef,cg,Nat.eq_of_beq_eq_true,QF]
   trivial;trivial;trivial
theorem ay1(e:gy P K)(b:p.G=i)(c:eh i){C:Y a7}:∀g H J B,oU P K p i m cA ag C g ai H J B->VR P p m (aO C) H J B:=by
 intro g
 induction g
 intro H J B s;trivial
 next g f=>
  intro H J B s o ak d;cases H;exact cD.nil (d o J (dk.refl m o) s)
  next M H=>
   unfold oU at s;split at s;split at s;rename_i h;split at s;rename_i A t;rw[Hz] at s;apply cD.pure (uT o h)<|agt e (b▸c)<|bQ b▸t;rw[<-aN.r1];exact f H _ B s o ak d;dsimp at s;split at s;rename_i k u;rw[EZ,EZ,anA] at s;exact amG e (b▸c) (bQ b▸u) (uT o h) λaQ l=>f H k B s aQ ak λaq v n r=>d _ v (dk.trans (dk.of l) n) r;split at s;exact s.run e b c o H ak (uT o h) λaQ k l u=>f H k B u aQ ak λaq v n r=>d _ v (l.trans n) r;obtain @⟨A,t,s⟩:=s;apply cD.pure (uT o h)<|di.full<|t e b c o _<|bp aa;rw[<-aN.r1];exact f H _ B s o ak d;trivial;split at s;trivial;split at s;trivial;rename_i av T;split at s;trivial;rename_i I N;split at s;rename_i Q F;split at s;rename_i D aw am Z;split at s;rename_i ar ax au x O U X hm R;cases s
   next w S z=>rw[EZ,WA] at z;let y:=Uj ai<|M::H;rw[Z] at y;rw[<-y];refine Zv (w:=w) (b▸c) (cD.rules _ _) T N F x (bp b5) O U X hm (λk he=>Zx R he x) (λL ap E=>?_) ?_;exact agS e b c (cD.rules _ _) g _ D _ _ (bp ao) (S L) o ap E;exact f am _ B z o ak d
   trivial;trivial;trivial
end
