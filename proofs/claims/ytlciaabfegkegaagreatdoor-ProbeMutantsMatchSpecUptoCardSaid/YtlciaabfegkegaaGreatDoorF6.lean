import Derived.Test.YtlciaabfegkegaaGreatDoorF5
set_option linter.all false
set_option maxHeartbeats 8000000
set_option maxRecDepth 100000
open Array renaming replicate->td,setIfInBounds->nG,size->a9,toList->a0
open BitVec renaming ofInt->Ed
open Bool renaming false->ae,true->ag
open ByteArray renaming size->gD
open Decidable renaming decide->aH
open Eq renaming symm->bQ,trans->b0
open Go renaming Act->fI,Calls->ln,Code->gw,Exit->cS,FuncId->fM,IntKind->dd,MapEntry->k0,Oper->a7,Operand->aP,Program->bn,ResultVar->hn,TypeDesc->iz,TypeId->aw,Value->bq,World->bI,builtin->o2,execOp->c5,invoke->oh,maxLen->ja,resolve->oi
open Go.Act renaming eval->b1
open Go.Builtin renaming append->oZ,zeroCells->sk
open Go.Callee renaming builtin->gP
open Go.Calls renaming mono->iK
open Go.Ending renaming returned->lo
open Go.Exit renaming normal->fY
open Go.Fn renaming func->c1
open Go.IntKind renaming bits->l7,i64->aj,u64->ej,u8->ez,wrap->hf
open Go.Lib renaming PrintTabs->dV,bitLen->wS,decDigits->l8,encodeRuneZ->ur,hexDigit->qt,index->te,indexByte->eG
open Go.Next renaming value->og
open Go.Op renaming call->ft,equalIn->nH,indexAddr->o0
open Go.Program renaming underlying->kD
open Go.Proofs.Tryz renaming prog->bL
open Go.Result renaming ok->ct
open Go.RowKit.Below renaming refl->Ef
open Go.Sem renaming run->ce
open Go.TypeDesc renaming slice->c_
open Go.Utf8 renaming decode->sp
open Go.Value renaming agg->h0,bool->hA,cells->dp,int->cN,oneCell'->gE,pointer->ib,slice->eY,string->jO,tuple->o1
open Go.World renaming cell?->ho
open Go.fe.V renaming agg->b2,bool->aV,func->eo,int->an,ref->fN,str->a8,tuple->cv
open Go.fe.b7 renaming cell->ah,map->iA
open Inhabited renaming default->av
open Int renaming toNat->aG
open List renaming Nodup->dT,Perm->g7,all->dh,any->fB,contains->j1,count->lp,drop->ay,eraseIdx->iB,filter->l_,flatMap->ff,getD->y,length->U,map->ab,range->bM,replicate->cM,set->aR,take->am,toArray->aO
open List.Perm renaming refl->gF
open Nat renaming beq->ef,ble->hB,blt->g8,cast->nb,min->nK
open Option renaming none->ai,some->W
open Or renaming inl->bj,inr->bp
open UInt8 renaming ofNat->gn,toNat->ax,toNat_lt->mE
open _root_ renaming Array->bU,Bool->X,ByteArray->kZ,Decidable->sj,DecidableEq->hO,Inhabited->l9,Int->L,List->Y,Nat->Z,Option->c6,True->dW,UInt8->C,Unit->j3,absurd->cg,rfl->aa,trivial->b5
open Go.Proofs Go.Proofs.Tryz
open Go.Proofs.Tryz renaming prog->eQ
namespace Go.fe
variable{ops:bU a7}{t:X}{n:gw}{ak:cS->aN->Prop}{M:a7}{P:bn}{i:Y (Z×V)}{Rd:Y Z}{I:Z}{p:bJ}{O:bc}{J:aN}{K:cI}{B:V->Prop}
structure hQ where
 c0:L
 text:Y C
 deriving hO,l9
def mP(m:hQ):V:=b2 [an aj m.c0,a8 m.text]
def hQ.zero:hQ:=⟨0,[]⟩
def amZ I(c b:L)(e d:_)E:ce bL (nH (I+1+1) 42 (h0 #[cN aj c,jO e]) (h0 #[cN aj b,jO d])) E=ct (aH (c=b/\e=d)) E:=by let g:=(x_:o8 _ 9 Rw).g5 aa;let f:=(x_:o8 _ 3 Md).g5 aa;rw[nH];simp[BO g aa _,BO f aa _,aeW _,aeU _,WR];grind
def ad4(b:hQ){w:hQ}:wU bL 42 [an aj b.c0,a8 b.text] [an aj w.c0,a8 w.text] (aH (b=w)):=by
 refine⟨λn i m E e f c d=>?_,ao⟩
 match i,m,e,f with|[g,h],[k,l],_,_=>let fq:=IW<|c 0 _ g aa aa;let o:=IX<|c 1 _ h aa aa;let p:=IW<|d 0 _ k aa aa;let r:=IX<|d 1 _ l aa aa;obtain⟨s,t⟩:=b;obtain⟨u,v⟩:=w;simp_all[YH,amZ]
def aei{m:hQ}:bh 72 [mP m] (aV (aH (m=.zero))):=by refine bs func72 [] λp b=>?_;exact Fw (ad4 m)<|aL
def sS(m:hQ):c6 L:=if m.c0<1\/6<m.c0 then W 7 else if m.c0<=3/\¬m.text=[] then W 2
 else if 1000000<(U m.text:L)\/m.c0=6/\1000<(U m.text:L) then W 3 else if¬m.c0=6 then W 0 else ai
noncomputable def H8(b:Y C):L:=if(iR b).2.2≠0 then(iR b).2.2 else(mV (iR b).1).2
noncomputable def mW(m:hQ):L:=(sS m).getD<|H8 m.text
noncomputable def zf(m:hQ):bY:=if sS m=ai/\(iR m.text).2.2=0 then(mV (iR m.text).1).1 else uP
def NO(m:hQ)(l:U m.text<=1048576):bh 71 [mP m] (an aj (mW m)):=by
 refine bs func71 [3] λp n=>?_;apply cy;intro _;exact aa;apply f<;>intro b;exact aL (s:=by rw[mW,sS,af b];rfl);apply cL;intro _;exact aa;apply f<;>intro c;exact aL (s:=by rw[mW,sS,ad b,af c];rfl);apply cy;intro _;apply cL;intro _;exact aa;exact aa;apply f<;>intro e;exact aL (s:=by rw[mW,sS,ad b,ad c,af e];rfl);apply f<;>intro i;exact aL (s:=by rw[mW,sS,ad b,ad c,ad e,af i];rfl);have k:mW m=H8 m.text:=by rw[mW,sS,ad b,ad c,ad e,ad i];rfl
 rw[k,H8];refine aT ?_ (g:=aee m.text l Rr);apply f<;>intro h;exact aL (s:=by rw[af h];rfl);have d:=FZ (by simpa using h);refine aT ?_ (g:=aec d.1 d.2.1 d.2.2);exact aL (s:=by rw[ad h];rfl)
def Yn(m:hQ)(b:bY):V:=b2 [an aj m.c0,a8 m.text,l b.start,.al 1<|ab bE b.acc,.al 1<|ab ca b.next]
def KM{m:hQ}(b:sS m≠ai):zf m=uP:=ad λn=>b n.1
def Tn(m:hQ)(l:U m.text<=1048576):bh 88 [mP m] (cv [Yn m (zf m),an aj (mW m)]):=by
 refine bs func88 [3] λp o=>?_;apply cy;intro _;exact aa;apply f<;>intro b;exact fQ 1 2 [3,4] (dj br (s:=by rw[mW,KM]<;>rw[sS,af b];rfl;simp));apply cL;intro _;exact aa;apply f<;>intro c;exact fQ 1 2 [3,4] (dj br (s:=by rw[mW,KM]<;>rw[sS,ad b,af c];rfl;simp));apply cy;intro _;apply cL;intro _;exact aa;exact aa;apply f<;>intro h;exact fQ 1 2 [3,4] (dj br (s:=by rw[mW,KM]<;>rw[sS,ad b,ad c,af h];rfl;simp));apply f<;>intro k;exact fQ 1 2 [3,4] (dj br (s:=by rw[mW,KM]<;>rw[sS,ad b,ad c,ad h,af k];rfl;simp));have d:sS m=ai:=by rw[sS,ad b,ad c,ad h,ad k]
 refine aT ?_ (g:=aeo m.text l);apply f<;>intro i;have e:=FZ i;refine aT ?_ (g:=ac8 e.1 e.2.1 e.2.2);exact dj br (s:=by rw[mW,zf,af ⟨d,i⟩,d,H8,ad q];rfl);exact fQ 1 2 [3,4] (dj br (s:=by rw[mW,zf,ad λn=>i n.2,d,H8,af q];rfl))
noncomputable def rX(m:hQ):L:=if m=.zero then 0 else mW m
noncomputable def jk(m:hQ):hQ×bY:=if m=.zero then(⟨1,[]⟩,uP) else(m,zf m)
def vO(b:hQ×bY):V:=Yn b.1 b.2
def To(m:hQ)(c:U m.text<=1048576):bh 87 [mP m] (cv [vO (jk m),an aj (rX m)]):=by refine bs func87 [] λp d=>?_;refine Fw (ad4 m (w:=.zero)) ?_;apply f<;>intro b;exact fQ 1 2 [3,4] (dj br (s:=by rw[jk,rX,af b,af b];rfl));refine aT ?_ (g:=Tn m c);exact dj br (s:=by rw[jk,rX,ad b,ad b];rfl)
def as7{C r:aw}{au F D J:Z}{k:aP}{B A:c6 aP}{e:Y V}{b c:Z}(ap:cu P C (c_ r) au F)(L:gx P r J D)(T:M.op=.slice C k B A ai)(av:O.val p k=W (.al J e))(S:pS p O B 0 b)(R:pS p O A (U e) c)(G:b<=c)(s:c<=U e):di P p M O (.al J (am (c-b) (ay b e))):=.same λo E N v=>by
 have t:=v.val av;generalize aq:b1 o k=ax at t;have y:U (am (c-b) (ay b e))=c-b:=bi;have run:∀(base:c6 Addr)(cap:Z),ax=eY base (U e) cap->U e<=cap->ce P (c5 (b1 o) M) E=ct (og (eY (if cap=b then base else base.map (·.add (b*J))) (c-b) (cap-b))) E:=by intro base cap ar x;have aM:=Je (P:=P) v (Q:=ag) (len:=U e) (cap:=cap) S R G q;simp only[c5,T,Instr.sliceAt,aq,ar,J9,Sem.run_bind,run_underlying ap.u,Result.andThen_ok,Instr.slice,aM,L.kw,Sem.run_pure]
 cases t with
 |slnil=>
  have:b=0/\c=0:=by simp at s;omega
  obtain⟨rfl,rfl⟩:=this;refine⟨_,?_,run ai 0 aa<|bv _⟩;simpa using bk.slnil (N:=N) J|zz _ m=>
  have:b=0/\c=0:=by simp at s;omega
  obtain⟨rfl,rfl⟩:=this;refine⟨_,?_,run (W m) 0 aa<|bv _⟩;simpa using bk.zz (N:=N) J m|al _ _ Q base cap val x aA ak H X=>
  refine⟨_,?_,run _ cap aa x⟩;have z:∀g,c-b=0\/g=base+b*J->bk N (.al J (am (c-b) (ay b e))) (eY (W ⟨Q,g,ai⟩) (U (am (c-b) (ay b e))) (cap-b)):=by
   intro g K;refine .al J _ Q g (cap-b) (λf n=>val (b+f) n) q q ?_ ?_ ?_;intro f I d;exact ak (b+f) I (by rw[m8] at d;split at d<;>simp at d;exact d);intro f n I l d i;have h:f<c-b:=by rw[m8] at d;split at d<;>simp_all
   rw[m8,af h,sg] at d;rcases K with az|rfl;omega;have:=H (b+f) n I l d i;rw[<-this];congr 1;rw[hZ];omega;intro f n I l d i;have h:f<c-b:=by rw[m8] at d;split at d<;>simp_all
   rw[m8,af h,sg] at d;exact X (b+f) n I l d i
  by_cases w:cap=b;rw[af w];have:=z base<|bj q;rwa [y] at this;rw[ad w];simp only[lm,Addr.add_lit];have:=z (base+b*J)<|bp aa;rwa [y] at this
section
variable{m:Z}{A:V}
def SS{s m:aw}{l:cH}{f:aP}{r n:c6 aP}{e:Y V}{v u:L}(d b:Z)(C:B (.al l.size (am (b-d) (ay d e))))(E:M.op=.slice s f r n ai:=by rfl)(F:fC K s (c_ m):=by exact fX)(z:K.find m=W l:=by rfl)(k:val i J.c f=W (.al l.size e):=by rfl)(D:sC i J.c r 0=W v:=by rfl)(A:sC i J.c n (U e)=W u:=by rfl)(H:v=(d:L):=by first|rfl|omega)(G:u=(b:L):=by first|rfl|omega)(x:d<=b:=by omega)(y:b<=U e:=by exact si):er P K p i t M J B:=.of aa (λdz g h o I=>by obtain⟨_,_,w⟩:=F.eD dz;exact as7 w (dz.find z).au E (hK g h k dZ aa) (vG g h D H λf k=>dZ) (vG g h A G λf k=>dZ) x y) C
end
structure k4 where
 name:Y C
 m:hQ
 deriving l9
def kJ(E:k4):V:=b2 [a8 E.name,an aj E.m.c0,a8 E.m.text]
structure Am where
 name:Y C
 value:Y C
 deriving l9
def vP(b:Am):V:=b2 [a8 b.name,a8 b.value]
structure eT where
 name:Y C
 prio:L
 method:hQ
 target:hQ
 path:Y hQ
 rest:X
 query:Y k4
 head:Y k4
 raw:hQ
 body:Y nO
 state:Y C
 next:Y C
 times:L
 status:L
 iS:Y Am
 text:Y C
 sE:L
 deriving l9
def dy(J:eT):V:=b2 [a8 J.name,an aj J.prio,an aj J.method.c0,a8 J.method.text,an aj J.target.c0,a8 J.target.text,.al 2<|ab mP J.path,aV J.rest,.al 3<|ab kJ J.query,.al 3<|ab kJ J.head,an aj J.raw.c0,a8 J.raw.text,.al 2<|ab nj J.body,a8 J.state,a8 J.next,an aj J.times,an aj J.status,.al 2<|ab vP J.iS,a8 J.text,an aj J.sE]
structure dx where
 state:Y C
 bt:Y eT
 deriving l9
def eP(b:dx):V:=b2 [a8 b.state,.al 20<|ab dy b.bt]
def eF(J:Y C):Prop:=U J<=1048576
def kq{c:Type}(b:Y c)(d:c->Prop):Prop:=U b<=1048576/\∀e∈b,d e
structure eT.ok(J:eT):Prop where
 name:eF J.name
 method:eF J.method.text
 target:eF J.target.text
 raw:eF J.raw.text
 path:kq J.path λm=>eF m.text
 query:kq J.query λE=>eF E.name/\eF E.m.text
 head:kq J.head λE=>eF E.name/\eF E.m.text
 body:kq J.body nO.py
 state:eF J.state
 next:eF J.next
 iS:kq J.iS λG=>eF G.name/\eF G.value
 text:eF J.text
 anx:∀Q∈J.body,∀T∈Q.cQ,∀ar∈T.dG,eF ar.name
def iN:Y L->L|[]=>0|b::c=>if b≠0 then b else iN c
theorem jf{c:L}{b:Y L}(d:¬c≠0):iN (c::b)=iN b:=ad d
theorem jg{b:L}{d:Y L}(c:b≠0):iN (b::d)=b:=af c
def C6{e:Type} [l9 e]{b:Y e}{d:e->L}{f:Y L}{c:Z}(g:c<U b):iN (ab d (ay c b)++f)=iN (d (y b c av)::(ab d (ay (c+1) b)++f)):=by grind[List.drop_eq_getElem_cons]
def C7{e:Type}{b:Y e}{f:e->L}{c:Y L}{d:Z}(g:U b<=d):iN (ab f (ay d b)++c)=iN c:=by grind[List.drop_eq_nil_of_le]
def Io(b:Y hQ):L:=if fB b (λm=>aH<|m.c0=3) then 2 else 0
noncomputable def Dm(J:eT):Y L:=Io ([J.method,J.target,J.raw]++J.path)::[if 100<(U J.path:L) then 3 else 0]
noncomputable def Bk(J:eT):L:=iN<|ab rX [J.method,J.target]++(ab mW J.path++rX J.raw::Dm J)
def acT{m:hQ}(b:¬m=.zero/\¬mW m=0):rX m≠0:=by(simp[rX,ad];omega)
def acS{m:hQ}(b:¬(¬m=.zero/\¬mW m=0)):¬rX m≠0:=by grind[rX]
def KH{e:Type} [l9 e]{b:Y e}{c:e->X}{d:Z}(g:d<U b)(f:fB b c=fB (ay d b) c):fB b c=(c (y b d av)||fB (ay (d+1) b) c):=by grind[List.drop_eq_getElem_cons]
def ka{d:Type} [l9 d]{b:Y d}{c:Z}(e:c<U b):y b c av∈b:=by simp[e]
def auB(J:eT)(i:J.ok):bh 46 [dy J] (an aj (Bk J)):=by
 obtain⟨A,d⟩:∃A,Bk J=A:=⟨_,aa⟩;rw[d];rw[Bk] at d;have x:=i.path.1;refine bs func46 [] λp v=>?_;refine cp ?_;refine gN 2 (λc=>iN (ab rX (ay c [J.method,J.target])++(ab mW J.path++rX J.raw::Dm J))=A) (λc=>⟨[(1,b 1),(16,.al 2 [mP J.method,mP J.target]),(17,l 2),(18,l c)],[(1,ah 48<|dy J)],[]⟩) (λc k=>?_) d .r;apply f<;>intro o;have s:c<U [J.method,J.target]:=bi;have e:=k.2;rw[C6 s] at e;have hm:eF (y [J.method,J.target] c av).text:=by have:=ka s;simp at this;rcases this with n|n<;>rw[dX,n];exact i.method;exact i.target
 refine bB c (mP<|y [J.method,J.target] c av) ?_ (k:=eZ (H:=[J.method,J.target]) s);refine aT ?_ (g:=NO _ hm);refine aT ?_ (g:=aei);apply cL;intro _;exact aa;apply f<;>intro h;rw[jg<|acT h,rX,ad h.1] at e;exact aL (s:=by rw[<-e];rfl);refine aY ?_;rw[jf<|acS h] at e;exact a4 (c+1) ⟨q,e⟩;have d:=k.2;rw[C7 aK] at d;refine gN (U J.path) (λc=>iN (ab mW (ay c J.path)++rX J.raw::Dm J)=A) (λc=>⟨[(1,b 1),(34,.al 2<|ab mP J.path),(35,_),(36,l c)],[(1,ah 48<|dy J)],[]⟩) (λc k=>?_) d .r;apply f<;>intro o;have s:c<U J.path:=q;have e:=k.2;rw[C6 s] at e;refine bB c (mP<|y J.path c av) ?_ (k:=eZ s);refine aT ?_ (g:=NO _<|i.path.2 _<|ka s);apply f<;>intro h;rw[jg h] at e;exact aL (s:=by rw[<-e];rfl);refine aY ?_;rw[jf h] at e;exact a4 (c+1) ⟨q,e⟩;have d:=k.2;rw[C7 q] at d;refine aT ?_ (g:=NO J.raw i.raw);refine aT ?_ (g:=aei (m:=J.raw));apply cL;intro _;exact aa;apply f<;>intro h;rw[jg<|acT h,rX,ad h.1] at d;exact aL (s:=by rw[<-d];rfl);rw[jf<|acS h,Dm] at d;refine n0 ?_;refine eB (ab mP<|[J.method,J.target,J.raw]++J.path) ?_ (gi:=.al aa aa aa aa λz u=>(by obtain⟨_,_,rfl⟩:=dI.1 u;rfl)) (bl:=aK);generalize t:[J.method,J.target,J.raw]++J.path=cA at d⊢;have w:U cA<=2000000:=by rw[<-t];simp;omega
 refine a1.h6 64 ?_;refine gN (U cA) (λc=>fB cA (λm=>aH<|m.c0=3)=fB (ay c cA) (λm=>aH<|m.c0=3)) (λc=>⟨[(1,b 1),(67,.al 2<|ab mP cA),(68,_),(69,l c)],[(1,ah 48<|dy J)],[]⟩) (λc k=>?_) aa .r;apply f<;>intro o;have s:c<U cA:=q;have e:=KH s k.2;refine bB c (mP<|y cA c av) ?_ (k:=eZ s);apply f<;>intro h;rw[oY h,OU] at e;rw[Io,af e,jg a2] at d;exact aL (s:=by rw[<-d];rfl);refine aY ?_;rw[Aa h,D0] at e;exact a4 (c+1) ⟨q,e⟩;have e:=k.2;rw[kA q,OX] at e;rw[Io,ad aq,jf a2] at d;apply f<;>intro h;rw[af h,jg a2] at d;exact aL (s:=by rw[<-d];rfl);rw[ad h,jf a2] at d;exact aL (s:=by rw[<-d];rfl)
def vc(d:X)(b c:Y C):X:=aH (b=c)||d&&aH (oH b=oH c)
def Ay(c:X)(b:Y C):X:=aH (b=[])||c&&!A5 b
noncomputable def ON(d:X)(c:Y k4)(b:Z):Y L:=[if Ay d (y c b av).name then 8 else 0,if fB (am b c) (λe=>vc d e.name (y c b av).name) then 5 else 0,mW (y c b av).m]
noncomputable def BX(c:X)(b:Y k4)(d:Z):Y L:=ff (ON c b)<|ay d<|bM<|U b
noncomputable def vm(c:X)(b:Y k4):L:=if 20<(U b:L) then 3 else iN (BX c b 0)
def agV{d:X}{c:Y k4}{b:Z}(e:b<U c):BX d c b=ON d c b++BX d c (b+1):=by grind[BX,List.drop_eq_getElem_cons]
def agU{d:X}{c:Y k4}{b:Z}(e:U c<=b):iN (BX d c b)=0:=by rw[BX,kA aq];rfl
def aeh(h:X)(d:Y k4)(x:kq d λE=>eF E.name/\eF E.m.text):bh 47 [.al 3 (ab kJ d),aV h] (an aj<|vm h d):=by
 obtain⟨A,e⟩:∃A,vm h d=A:=⟨_,aa⟩;rw[e];rw[vm] at e;have M:=x.1;refine bs func47 [] λp L=>?_;apply f<;>intro C;rw[af C] at e;exact aL (s:=by rw[<-e];rfl);rw[ad C] at e;refine gN (U d) (λc=>iN (BX h d c)=A) (λc=>⟨[(0,.al 3<|ab kJ d),(1,aV h),(13,.al 3<|ab kJ d),(14,_),(15,l c)],[],[]⟩) (λc k=>?_) e .r;apply f<;>intro I;have s:c<U d:=q;have e:=k.2;rw[agV s,ON] at e;have z:=x.2 _<|ka s;refine bB c (kJ<|y d c av) ?_ (k:=eZ s);generalize O:y d c av=i at e z⊢;have B:U i.name<=100000000:=by have:=z.1;unfold eF at this;omega
 apply cy;intro _;apply cL;intro _;refine ch ?_ (g:=aea i.name B);apply cy;intro _;refine ch ?_ (g:=ad_ i.name B);exact aa;exact aa;exact aa;apply f<;>intro J;rw[af (by grind[Ay,A5])] at e;exact aL (s:=by rw[<-e];rfl);rw[ad (by grind[Ay,A5]),kh,jf a2] at e;refine SS 0 c ?_;have G:am (c-0) (ay 0 (ab kJ d))=ab kJ (am c d):=ao;rw[G];have N:U (am c d)=c:=bi;refine gN c (λn=>fB (am c d) (λt=>vc h t.name i.name)=fB (ay n<|am c d) (λt=>vc h t.name i.name)) (λn=>⟨[(6,b 6),(0,.al 3<|ab kJ d),(1,aV h),(13,.al 3<|ab kJ d),(14,_),(15,l c),(39,.al 3<|ab kJ<|am c d),(40,_),(41,l n)],[(6,ah 101<|kJ i)],[]⟩) (λn D=>?_) aa .r;apply f<;>intro K;have w:n<U (am c d):=q;have o:=KH w D.2;have F:=(x.2 _<|pE<|ka w).1;refine bB n (kJ<|y (am c d) n av) ?_ (k:=eZ w);generalize y (am c d) n av=t at o F⊢;have H:U t.name<=100000000:=by unfold eF at F;omega
 refine fA ?_;apply cy;intro _;apply cL;intro _;refine ch ?_ (g:=(Ft t.name H).2.2);refine ch ?_ (g:=(Ft i.name B).2.2);exact aa;exact aa;apply f<;>intro u;have v:vc h t.name i.name:=by simpa[vc] using u
 rw[v,OU] at o;rw[af o,kh,jg a2] at e;exact aL (s:=by rw[<-e];rfl);have v:vc h t.name i.name=ae:=by simpa[vc] using u
 rw[v,D0] at o;refine aY ?_;exact a4 (n+1) ⟨q,o⟩ (bA:=.r);have o:=D.2;rw[kA q,OX] at o;rw[o,ad a2,kh,jf a2,kh] at e;refine aT ?_ (g:=NO i.m z.2);apply f<;>intro u;rw[jg u] at e;exact aL (s:=by rw[<-e];rfl);rw[jf u,na] at e;refine aY ?_;exact a4 (c+1) ⟨q,e⟩;exact aL (s:=by rw[<-k.2,agU q];rfl)
def yY(b:C):Y C:=if b=126 then[126,48] else if b=47 then[126,49] else[b]
def ra(J:Y C):Y C:=47::ff yY J
def axi(J:Y C)(b:C):ra (J++[b])=ra J++yY b:=by unfold ra;simp
def am3(b:C):U (yY b)<=2:=by unfold yY;split<;>(try split)<;>simp
def afR:∀J:Y C,U (ra J)<=1+2*U J:=by
 intro J;have:∀b:Y C,U (ff yY b)<=2*U b:=by
  intro b
  induction b with|nil=>simp|cons c b d=>have:=am3 c;rw[wJ,cd,l5];omega
 have:=this J;unfold ra;rw[l5];omega
def agx{b:C}{R:Z}(c:R<256)(d:(ax b:L)=(R:L)):b=gn R:=by apply z9.1;simp[UInt8.toNat_ofNat,wN c];omega
def axk(J:Y C)(bA:U J<=2000000):bh 243 [a8 J] (a8 (ra J)):=by
 refine bs func243 [] λp i=>?_;refine n0 ?_;refine e9 (U J) (λb=>⟨[(0,_),(4,l b),(3,.a 5 0<|U<|ab bF<|ra<|am b J)],[(5,.j 1 5<|ab bF<|ra<|am b J)],[]⟩) (λb k=>?_) .r;apply f<;>intro m
 .have e:b<U J:=q;have n:=afR<|am (b+1) J;have o:U (am (b+1) J)=b+1:=by rw[nD];omega
  have g:ra (am (b+1) J)=ra (am b J)++yY (y J b 0):=by rw[axH e,axi]
  refine gK b (y J b 0) ?_ (k:=pZ e);apply f<;>intro d
  .refine eB (ab bF<|ra<|am (b+1) J) ?_ (aU:=by rw[g,dc,yY,af<|show y J b 0=126 from agx (R:=126) a2 d]) (bl:=by rw[bm];omega);refine aY ?_;exact a4 (b+1) (bA:=.r)
  apply f<;>intro h
  .refine eB (ab bF<|ra<|am (b+1) J) ?_ (aU:=by rw[g,dc,yY,ad λc=>d (by rw[c];rfl),af<|show y J b 0=47 from agx (R:=47) a2 h]) (bl:=by rw[bm];omega);refine aY ?_;exact a4 (b+1) (bA:=.r)
  refine gK b (y J b 0) ?_ (k:=pZ e);refine cp ?_;refine eB (ab bF<|ra<|am (b+1) J) ?_ (aU:=by rw[g,dc,yY,ad λc=>d (by rw[c];rfl),ad λc=>h (by rw[c];rfl)];rfl) (bl:=by rw[bm];omega);refine aY ?_;exact a4 (b+1) (bA:=.r)
 obtain rfl:b=U J:=q;rw[iJ];refine rU (ra J) ?_ (hlen:=by rw[bm]) (aM:=by rw[qn];exact kC<|bv _);exact aL
abbrev ru(i:Y (Z×V))(c:fM)(e:Y V){b:Type}(d:b->Prop)(A:b->V):=iL bL i c e [] [] d A (λ_=>[]) λ_=>[]
def tY{h:fM}{b:Func}{i:Y (Z×V)}{e:Y V}{g:Type}{m:g->Prop}{A:g->V}{n:gw}(r:Tryz.prog.funcs[h]?=W b)cA(s:∀o p,kE bL hX p i b.ntmps cA->kz bL hX p i 5000 b.ntmps cA n ⟨pb 0 e,[],[]⟩ (ic bL p 5000 o (a0 b.results) (λv u=>∃k f,m k/\dk 5000 o f/\v=(A k).aB f/\u=[]++aZ f [])))(c:(b.name== "runtime.NumGoroutine")=ae:=by kernel_rfl)(d:b.body=W n:=by rfl)(l:eh i:=by rfl)(t:hB (U e) b.ntmps:=by rfl):ru i h e m A:=iL.of_wp cA gm br l ⟨r,c,d⟩ aa t aa λo p c d=>s o p ⟨gm,br,c,l,d⟩
def vN(J:Y C):V:=a8 J
def BH(b:Y (Y C)):L:=if 60<(U b:L) then 3 else if fB b (λJ=>aH<|10000<(U J:L)) then 3 else 0
def auH(b:Y (Y C))(bl:U b<=2000000):ru fT 190 [.al 1 (ab vN b)] (λ_:Y C=>dW) (λn=>cv [a8 n,an aj<|BH b]):=by obtain⟨A,e⟩:∃A,BH b=A:=⟨_,aa⟩;rw[e];rw[BH] at e;refine tY func190 [] λx p t=>?_;apply f<;>intro i;rw[af i] at e;exact ec [] b5 (s:=by rw[<-e];rfl);rw[ad i] at e;refine a1.eK 1004 1 5 [4] ai ?_;refine c8 (Z×Y C) (λd=>⟨[(0,.al 1<|ab vN b),(4,.a 1004 0<|U<|ab bF d.2),(5,l d.1)],[(1004,.j 1 5<|ab bF d.2)],[]⟩) (λd=>(d.1<=U b/\U d.2<=d.1*20001)/\(if fB b (λJ=>aH<|10000<(U J:L)) then 3 else 0:L)=if fB (ay d.1 b) _ then 3 else 0) (λd=>U b-d.1) (0,[]) (λ⟨c,M⟩ k=>?_) ⟨⟨dJ _,dJ _⟩,aa⟩ .r;obtain⟨⟨u,v⟩,h⟩:=k;apply f<;>intro o;have s:c<U b:=q;rw[l3 s,B1] at h;refine bB c (vN b[c]) ?_ (k:=aq);apply f<;>intro m;rw[h,oY m] at e;exact ec [] b5 (s:=by rw[<-e];rfl);rw[Aa m] at h;refine bB c (vN b[c]) ?_ (k:=aq);refine aT ?_ (g:=axk b[c] q);have w:=afR b[c];refine eB (ab bF<|M++ra b[c]) ?_ (aU:=ao) (bl:=aK);refine aY ?_;exact a4 (c+1,M++ra b[c]) ⟨⟨q,aK⟩,h⟩ (bA:=.r);rw[h,kA q] at e;refine rU M ?_ (hlen:=ao) (aM:=aK);exact ec M b5 (s:=by rw[<-e];rfl)
def wg(b:C):X:=!(aH ((ax b:L)=32)||aH ((ax b:L)=123)||aH ((ax b:L)=125))
def aed(J:Y C)(g:U J<=100000000):bh 137 [a8 J] (aV (dh J wg)):=by
 refine bs func137 [] λp e=>?_;refine gN (U J) (λb=>dh J wg=dh (ay b J) wg) (λb=>⟨[(0,a8 J),(3,l b)],[],[]⟩) λb k=>?_;apply f<;>intro c
 .refine gK b _ ?_
  iterate 2
   apply cy;intro _;refine gK b _ ?_;exact aa
  apply f<;>intro d;exact aL (s:=by rw[Ez k.2 q (by grind[wg])];rfl);refine aY ?_;exact a4 _ ⟨q,Ey k.2 q (by grind[wg])⟩
 exact aL (s:=by rw[Ex k.2 q];rfl)
def x7(J:Y C):X:=aH (J≠[])&&aH ((U J:L)<=3)&&dh J sG&&(aH (y J 0 0≠48)||aH (J=[48]))
def XS{b:C}:sG b↔¬((ax b:L)<48\/57<(ax b:L)):=by simp[sG,Bc]
def WO{b:C}:(ax b:L)=48↔b=48:=⟨λc=>z9.1 aK,λc=>aq⟩
def auK(J:Y C)(m:U J<=100000000):bh 136 [a8 J] (aV (x7 J)):=by
 refine bs func136 [] λp i=>?_;apply cy;intro _;exact aa;apply cy;intro s;refine gK 0 (y J 0 0) ?_ (k:=aK);apply cL;intro _;exact aa;exact aa;apply f<;>intro c;exact aL (s:=by
  have d:x7 J=ae:=by rw[WO] at c;rcases J with _|⟨e,J⟩;rfl;grind[x7]
  rw[d];rfl)
 have c:J≠[]/\(U J:L)<=3/\(y J 0 0≠48\/J=[48]):=by rw[WO] at c;rcases J with _|⟨e,J⟩;trivial;grind
 refine gN (U J) (λb=>dh J sG=dh (ay b J) sG) (λb=>⟨[(0,a8 J),(3,l b)],[],[]⟩) λb k=>?_;apply f<;>intro h;refine gK b J[b] ?_;apply cy;intro _;refine gK b J[b] ?_;exact aa;apply f<;>intro g;exact aL (s:=by rw[x7,Ez k.2 _ (by rw[<-U0,XS];omega)];simp;rfl);refine aY ?_;exact a4 (b+1) ⟨q,Ey k.2 _<|XS.2 g⟩;have d:x7 J:=by rw[x7,Ex k.2 q];simp only[m7,wR,sf];exact⟨⟨⟨c.1,c.2.1⟩,b5⟩,c.2.2⟩
 exact aL (s:=by rw[d];rfl)
def p_:Y C->Y (Y C)->Y C->c6 (Y (Y C))
|[],out,O=>W (out++[O])|b::A,out,O=>
 if b=47 then p_ A (out++[O]) []
 else if b=126 then(if y A 0 0=48 then p_ (ay 1 A) out (O++[126]) else if y A 0 0=49 then p_ (ay 1 A) out (O++[47]) else ai)
 else p_ A out (O++[b])
 termination_by c=>U c
 decreasing_by all_goals (simp;try omega)
def anV{c:Y C}{b:Z}:y c b 0=y (ay b c) 0 0:=ao
def BI(b:Y C):L:=if b=[] then 0 else if y b 0 0≠47 then 6 else match p_ (ay 1 b) [] [] with|ai=>6|W c=>BH c
def uG(n:C){b:C}(c:(ax b:L)=(ax n:L)):b=n:=z9.1 q
def MZ(n:C){b:C}(d:¬(ax b:L)=(ax n:L)):¬b=n:=λc=>d (by rw[c])
def Ur(b:Y C):V:=match b with|[]=>.bo|_::_=>.a 1005 0<|U<|ab bF b
def Uq(b:Y C):bS:=match b with|[]=>[]|_::_=>[(1005,.j 1 5<|ab bF b)]
def axa(b:Y C){iX:aN->Prop}{hR:V->bS->aN}(d:iX (hR (.a 1005 0 (U (ab bF []))) [(1005,.j 1 5 [])])->iX (hR .bo []))(f:∀c b,iX (hR (.a 1005 0 (U (ab bF (c::b)))) [(1005,.j 1 5 (ab bF (c::b)))])->iX (hR (Ur (c::b)) (Uq (c::b))))(e:iX (hR (.a 1005 0 (U (ab bF b))) [(1005,.j 1 5 (ab bF b))])):iX (hR (Ur b) (Uq b)):=by cases b with|nil=>exact d e|cons c b=>trivial
def auG(b:Y C)(Q:U b<=1048576):ru fT 138 [a8 b] (λ_:Y (Y C)=>dW) (λF=>cv [.al 1 (ab vN F),an aj<|BI b]):=by obtain⟨A,i⟩:∃A,BI b=A:=⟨_,aa⟩;rw[i];rw[BI] at i;refine tY func138 [2008] λS p K=>?_;apply f<;>intro u;rw[af u] at i;exact lQ 1 [2] (ec [] b5 (s:=by rw[<-i];rfl));rw[ad u] at i;have R:0<U b:=yh.2 u;refine gK 0 (y b 0 0) ?_ (k:=aq);apply f<;>intro w;rw[af<|MZ 47 w] at i;exact lQ 1 [2] (ec [] b5 (s:=by rw[<-i];rfl));rw[ad λn=>w λt=>n<|uG 47 t] at i;refine a1.eK 1004 1 9 [4] ai ?_;obtain⟨a_,B⟩:∃a_,p_ (ay 1 b) [] []=a_:=⟨_,aa⟩;rw[B] at i;refine c8 (Z×Y (Y C)×Y C) (λe=>⟨[(0,a8 b),(4,.a 1004 0<|U<|ab vN e.2.1),(5,Ur e.2.2),(6,l e.1)],(1004,.j 1 9<|ab vN e.2.1)::Uq e.2.2,[]⟩) (λe=>(e.1<=U b/\U e.2.1<=e.1/\U e.2.2<=e.1)/\p_ (ay e.1 b) e.2.1 e.2.2=a_) (λe=>U b-e.1) (1,[],[]) (λ⟨c,M,d⟩ k=>?_) ⟨⟨q,ao,ao⟩,B⟩ .r;dsimp only at k⊢;obtain⟨⟨N,O,P⟩,h⟩:=k;refine axa d (iX:=λJ=>a1 _ p 5000 _ J _) (λs=>a1.eK 1005 1 5 [5] ai s) (λo d s=>s) (hR:=λo n=>⟨[(0,a8 b),(4,.a 1004 0<|U<|ab vN M),(5,o),(6,l c)],(1004,.j 1 9<|ab vN M)::n,[]⟩) ?_;refine dA ?_;apply f<;>intro H;have s:c<U b:=q;rw[l3 s,p_] at h;refine gK c b[c] ?_;apply f<;>intro x;rw[af<|uG 47 x] at h;refine rU d ?_ (hlen:=ao) (aM:=aK);refine cp ?_;refine eB (ab vN<|M++[d]) ?_ (aU:=ro) (bl:=aK);refine aY ?_;exact a4 (c+1,M++[d],[]) ⟨⟨q,aq,ao⟩,h⟩ (bA:=.r);rw[ad<|MZ 47 x] at h;apply f<;>intro z;rw[af<|uG 126 z,Gt,<-anV] at h;refine aY ?_;apply cy;intro m;refine aY ?_;refine gK (c+1) (y b (c+1) 0) ?_ (k:=pZ q);apply cL;intro _;refine aY ?_;refine gK (c+1) (y b (c+1) 0) ?_ (k:=pZ q);exact aa;exact aa;have G:U b<=c+1->y b (c+1) 0=0:=λn=>aq;apply f<;>intro m;rw[ad,ad] at h;rw[<-h] at i;exact lQ 1 [2] (ec [] b5 (s:=by rw[<-i];rfl));intro n;rcases m with s|⟨o,D⟩;grind;simp_all;intro n;rcases m with s|⟨o,D⟩;grind;simp_all;have I:c+1<U b:=q;refine aY ?_;refine gK (c+1) (y b (c+1) 0) ?_ (k:=pZ q);apply f<;>intro v;rw[af<|uG 48 v] at h;refine cp ?_;refine eB (ab bF<|d++[126]) ?_ (aU:=ro) (bl:=aK);refine aY ?_;exact a4 (c+2,M,d++[126]) ⟨⟨q,bi,aK⟩,h⟩ (bA:=by cases d<;>exact .r);have E:y b (c+1) 0=49:=uG 49<|zQ λn=>m<|bp ⟨v,n⟩;rw[ad<|MZ 48 v,af E] at h;refine cp ?_;refine eB (ab bF<|d++[47]) ?_ (aU:=ro) (bl:=aK);refine aY ?_;exact a4 (c+2,M,d++[47]) ⟨⟨q,bi,aK⟩,h⟩ (bA:=by cases d<;>exact .r);rw[ad<|MZ 126 z] at h;refine gK c b[c] ?_;refine cp ?_;refine eB (ab bF<|d++[b[c]]) ?_ (aU:=ao) (bl:=aK);refine aY ?_;exact a4 (c+1,M,d++[b[c]]) ⟨⟨q,aK,aq⟩,h⟩ (bA:=by cases d<;>exact .r);have t:ay c b=[]:=kA q;rw[t,p_] at h;rw[<-h] at i;dsimp only at i;refine rU d ?_ (hlen:=ao) (aM:=aK);refine cp ?_;refine eB (ab vN<|M++[d]) ?_ (aU:=ro) (bl:=aK);refine xL 1004 ?_;refine gG [] (λ_=>[]) [] (λo L=>?_) (g:=auH (M++[d]) aK) (kN:=gF _) (kM:=λ_ _=>gF _);apply f<;>intro m;exact lQ 1 [2] (ec [] b5 (s:=by rw[<-i];rfl));exact ec (M++[d]) b5 (s:=by rw[<-i];simp at m;rw[m];rfl)
def iu{d:Type}(c:d->X):Y d->Z->L|[],_=>-1|e::f,b=>if c e then(b:Z) else iu c f (b+1)
def RA{d:Type}{G:d->X}:∀(c:Y d)(b:Z),iu G c b=-1\/(b:L)<=iu G c b/\iu G c b<b+U c
|[],b=>bj aa|f::c,b=>by
 rw[iu];split;grind;rcases RA (G:=G) c (b+1) with e|e;omega
 (simp;omega)
def Mf{d:Type}{c:d->X}{J:Y d}{b:Z}(f:b<U J)(e:iu c J 0=iu c (ay b J) b):iu c J 0=if c J[b] then((b:Z):L) else iu c (ay (b+1) J) (b+1):=by grind[List.drop_eq_getElem_cons,iu]
def Rz{d:Type}{c:d->X}{J:Y d}{b:Z}(f:U J<=b)(e:iu c J 0=iu c (ay b J) b):iu c J 0=-1:=by grind[List.drop_eq_nil_of_le,iu]
def y9(n b:C):X:=aH<|(ax b:L)=(ax n:L)
def pw(J:Y C):L:=iu (y9 32) J 0
def oc(J:Y C):Y C:=if pw J<0 then J else am (aG<|pw J) J
def nz(J:Y C):Y C:=if pw J<0 then[] else ay (aG (pw J)+1) J
def s8(J:Y C):X:=aH<|0<=pw J
def DH:Y (Y C):=[[109,101,116,104,111,100],[116,97,114,103,101,116],[98,111,100,121],[115,116,97,116,101],[99,111,117,110,116],[111,112,101,110]]
def zG:Y (Y C):=[[113,117,101,114,121],[104,101,97,100]]
def vl(J:Y C):X:=if oc J∈DH then !s8 J else if oc J=[112,97,116,104] then s8 J&&x7 (nz J)
 else if oc J∈zG then s8 J&&aH (nz J≠[])&&dh (nz J) wg
 else if oc J=[97,116] then s8 J&&dh (nz J) wg&&aH (BI (nz J)=0) else ae
def AK(b c:Y C):V:=b2 [a8 b,a8 c,a8 []]
def afA(J:Y C):U (oc J)<=U J/\U (nz J)<=U J:=by grind[oc,nz]
def qL{P:bn}{K:cI}{p:bJ}{m:Z}{J:aN}{l:b6}{k:Y hn}{f:cS}{g:Y V}{e:Type}{i:e->Prop}{A:e->V}(dz:gy P K)(b:e)(t:i b)(u:x1 K J.c J.az k=W g:=by rfl)(x:e4 V.Dq g:=by rfl)(y:J.d=[]:=by rfl)(r:f=.ret\/f=fY:=by exact rp)(s:eR g=A b:=by rfl):ic P p m l k (λw v=>∃b h,i b/\dk m l h/\w=(A b).aB h/\v=[]++aZ h []) f J:=QU (EE:=[]) dz (λo n=>⟨b,o,t,n,Ke,bi⟩) u b5 aa r
def auP(J:Y C)(M:U J<=1048576):ru fT 105 [a8 J] (λ_:j3=>dW) (λ_=>cv [AK (oc J) (nz J),aV<|vl J]):=by
 refine tY func105 [1000,33,51] λN p K=>?_;refine gZ j3 (λ_=>⟨[(0,a8 J),(2,b 2),(3,aV ae),(4,a8<|oc J),(5,a8<|nz J),(6,aV<|s8 J)],[(2,ah 187<|AK [] [])],[]⟩) (λ_=>dW) ?_ λ_ _=>?_;refine gN (U J) (λd=>iu (y9 32) J 0=iu (y9 32) (ay d J) d) (λd=>⟨[(0,a8 J),(2,b 2),(3,aV ae),(4,a8 J),(5,a8 []),(6,aV ae),(7,l d)],[(2,ah 187<|AK [] [])],[]⟩) (λd k=>?_) aa .r;apply f<;>intro H;have s:d<U J:=q;have e:=Mf s k.2;refine gK d J[d] ?_;apply f<;>intro I;rw[af (by grind[y9])] at e;have u:oc J=am (d-0) (ay 0 J):=by rw[oc,pw,e,ad q];simp
 have v:nz J=am (U J-(d+1)) (ay (d+1) J):=by rw[nz,pw,e,ad q,kC ao];simp
 have w:s8 J:=by rw[s8,pw,e];simp
 rw[u,v,w];refine fA ?_;refine n1 0 d ?_;refine aY ?_;refine n1 (d+1) (U J) ?_;exact dn ();rw[ad (by grind[y9])] at e;refine aY ?_;exact a4 (d+1) ⟨q,e⟩;have e:=Rz q k.2;have u:oc J=J:=by rw[oc,pw,e];rfl
 have v:nz J=[]:=by rw[nz,pw,e];rfl
 have w:s8 J=ae:=by rw[s8,pw,e];rfl
 rw[u,v,w];exact dn ();have E:=afA J;generalize c:vl J=A;rw[vl] at c;generalize oc J=m at c E⊢;generalize nz J=n at c E⊢;generalize s8 J=D at c⊢;refine gZ X (λi=>⟨[(2,b 2),(3,aV ae),(5,a8 n),(6,aV D),(32,a8 m),(33,aV i),(8,b 8)],[(2,ah 187<|AK [] []),(8,ah 187<|AK m n)],[]⟩) (λi=>i=aH (m∈DH)) ?_ λi aM=>?_
 .iterate 5
   apply f<;>intro F;refine dn _ ?_ .r;rw[F];rfl
  exact dn (aH<|m=y DH 5 []) (by grind[DH])
 subst aM;apply f<;>intro x;rw[af x] at c;exact qL br () b5 (s:=by rw[<-c];rfl);rw[ad x] at c;apply f<;>intro z;rw[af z] at c;refine ei ?_;apply u_<;>intro h;refine bw (λ_=>ch aa (g:=auK n q)) ?_;refine fo ?_;refine fz ?_;exact qL br () b5 (s:=by rw[<-c,h];rfl);refine fo ?_;refine fz ?_;exact qL br () b5 (s:=by rw[<-c,ah6 h];rfl);rw[ad z] at c;refine gZ X (λi=>⟨[(2,b 2),(3,aV ae),(5,a8 n),(6,aV D),(32,a8 m),(51,aV i),(8,b 8)],[(2,ah 187<|AK [] []),(8,ah 187<|AK m n)],[]⟩) (λi=>i=aH (m∈zG)) ?_ λi aM=>?_;apply f<;>intro t;exact dn (aH<|m=y zG 0 []) (by rw[t];rfl);exact dn (aH<|m=y zG 1 []) (by grind[zG]);subst aM;apply f<;>intro t;rw[af t] at c;refine ei ?_;apply u_<;>intro h;apply u_<;>intro o;refine bw (λ_=>ch aa (g:=aed n q)) ?_;refine fo ?_;refine fz ?_;exact qL br () b5 (s:=by rw[<-c];simp[h,o];rfl);refine fo ?_;refine fz ?_;exact qL br () b5 (s:=by rw[<-c];simp[h,o];rfl);apply u_<;>intro o;trivial;refine fo ?_;refine fz ?_;exact qL br () b5 (s:=by rw[<-c];simp[h];rfl);rw[ad t] at c;apply f<;>intro B;rw[af B] at c;refine gG [] (λ_=>[]) [] (λG L=>?_) (g:=auG n q) (kN:=gF _) (kM:=λ_ _=>gF _);refine ei ?_;apply u_<;>intro h;refine bw (λ_=>ch aa (g:=aed n q)) ?_;apply u_<;>intro o;refine fo ?_;refine fz ?_;exact qL br () b5 (s:=by rw[<-c];simp[h,o];rfl);refine fo ?_;refine fz ?_;exact qL br () b5 (s:=by rw[<-c];simp[h,o];rfl);apply u_<;>intro o;trivial;refine fo ?_;refine fz ?_;exact qL br () b5 (s:=by rw[<-c];simp[h];rfl);rw[ad B] at c;exact qL br () b5 (s:=by rw[<-c];rfl)
def jH:Y C->L|c::b::A=>if c=123/\b=123 then 0 else if jH (b::A)<0 then-1 else jH (b::A)+1|_=>-1
def ED(b:C):X:=aH ((ax b:L)=125)||aH ((ax b:L)=123)
def ml(b:Y C):L:=iu ED b 0
def i6(b:Y C):X:=if jH b<0 then ag
 else if ml (ay (aG (jH b)+2) b)<0\/¬(y (ay (aG (jH b)+2) b) (aG<|ml<|ay (aG (jH b)+2) b) 0=125/\y (ay (aG (jH b)+2) b) (aG (ml<|ay (aG (jH b)+2) b)+1) 0=125) then ae
 else vl (am (aG<|ml<|ay (aG (jH b)+2) b)<|ay (aG (jH b)+2) b)&&i6 (ay (aG (ml<|ay (aG (jH b)+2) b)+2)<|ay (aG (jH b)+2) b)
 termination_by U b
 decreasing_by
 rcases b with _|⟨c,b⟩;exact cg a2 ‹¬jH []<0›;simp;omega
def ar7:∀c, -1<=jH c|[]=>a2|[b]=>by simp[jH]|b::d::A=>by(simp[jH];omega)
def axz{c b:C}{A:Y C}(e:¬(c=123/\b=123)):i6 (c::b::A)=i6 (b::A):=by
 have d:jH (c::b::A)=if jH (b::A)<0 then-1 else jH (b::A)+1:=by rw[jH,ad e]
 conv=>lhs;rw[i6,d]
 conv=>rhs;rw[i6]
 grind
def axy{b:Y C}(e:U b<=1):i6 b:=by rcases b with _|⟨c,_|⟨d,b⟩⟩;rw[i6,af a2];simp[i6,af,jH];trivial
def axA{A:Y C}:i6 (123::123::A)=if ml A<0\/¬(y A (aG (ml A)) 0=125/\y A (aG (ml A)+1) 0=125) then ae else vl (am (aG (ml A)) A)&&i6 (ay (aG (ml A)+2) A):=by
 have b:jH (123::123::A)=0:=by rw[jH,af ⟨aa,aa⟩]
 rw[i6,b,ad a2];rfl
def ue(J:Y C):L:=if 1000000<(U J:L) then 3 else if i6 J then 0 else 6
def ajY{J:Y C}{b c:Z}(d:b+2+c<U J):y J (b+2+c) 0=(ay (b+1+1) J)[c]'bi:=by simp_all
def auO(J:Y C)(bA:U J<=1048576):ru fT 77 [a8 J] (λ_:Y V×L=>dW) (λw=>cv [.al 3 w.1,an aj w.2,an aj<|ue J]):=by
 obtain⟨A,e⟩:∃A,ue J=A:=⟨_,aa⟩;rw[e];rw[ue] at e;refine tY func77 [] λap p R=>?_;apply f<;>intro x;rw[af x] at e;exact lQ 3 [2] (ec ([],0) b5 (s:=by rw[<-e];rfl));rw[ad x] at e;refine a1.eK 1005 3 187 [5] ai ?_;obtain⟨a_,D⟩:∃a_,i6 J=a_:=⟨_,aa⟩;rw[D] at e;refine c8 (Z×Z×Y V) (λd=>⟨[(0,a8 J),(5,.a 1005 0<|U d.2.2),(6,l d.2.1),(7,l d.1)],[(1005,.j 3 187 d.2.2)],[]⟩) (λd=>(d.1<=U J/\d.2.1<=d.1/\U d.2.2<=2*d.1)/\i6 (ay d.1 J)=a_) (λd=>U J-d.1) (0,0,[]) (λ⟨b,m,M⟩ k=>?_) ⟨⟨dJ _,dJ _,dJ _⟩,D⟩ .r;dsimp only at k⊢;obtain⟨⟨S,T,X⟩,i⟩:=k;refine aY ?_;apply f<;>intro O
 .have E:b+1<U J:=q;refine gK b J[b] ?_;apply cy;intro _;refine aY ?_;refine gK (b+1) J[b+1] ?_;exact aa;apply f<;>intro z;refine aY ?_;rw[l3 q,l3 E,axz λn=>aq] at i;exact a4 (b+1,m,M) ⟨⟨q,bi,bi⟩,aq⟩ (bA:=.r);have G:J[b]=123:=uG 123<|zQ λn=>z<|bj n;have H:J[b+1]=123:=uG 123<|zQ λn=>z<|bp n;rw[l3 q,l3 E,G,H,axA] at i;refine aY ?_;refine c8 Z (λc=>⟨[(0,a8 J),(5,.a 1005 0<|U M),(6,l m),(7,l b),(8,l<|b+2+c)],[(1005,.j 3 187 M)],[]⟩) (λc=>b+2+c<=U J/\iu ED (ay (b+1+1) J) 0=iu ED (ay c<|ay (b+1+1) J) c) (λc=>U J-c) 0 (λc v=>?_) ⟨q,aa⟩ .r
  iterate 2
   apply cL;intro _;refine gK (b+2+c) (y J (b+2+c) 0) ?_ (k:=pZ q);exact aa
  apply f<;>intro P;refine aY ?_;have h:=Mf (J:=ay (b+1+1) J) aK v.2;rw[ad (by grind[ED,decide_eq_false])] at h;exact a4 (c+1) ⟨q,h⟩ (bA:=.r);have dz:∀B,y (ay (b+1+1) J) B 0=y J (b+2+B) 0:=λB=>ao;have K:b+2+c<U J/\ml (ay (b+1+1) J)=c\/ml (ay (b+1+1) J)=-1/\U J=b+2+c:=by by_cases u:b+2+c<U J;have h:=Mf (J:=ay (b+1+1) J) aK v.2;rw[af (by rw[<-ajY q,ED,sf,wR,wR];omega)] at h;exact bj ⟨u,h⟩;exact bp ⟨Rz aK v.2,q⟩
  refine aY ?_;apply cy;intro _;refine gK (b+2+c) (y J (b+2+c) 0) ?_ (k:=pZ q);exact aa;apply cy;intro _;refine aY ?_;refine gK (b+2+c+1) (y J (b+2+c+1) 0) ?_ (k:=pZ q);exact aa;apply f<;>intro o;rw[af (by rcases K with⟨u,h⟩|⟨h,_⟩;right;rw[h,dz,dz];rintro⟨F,t⟩;rcases o with(o|o)|o;rw[show aG (c:L)+1=c+1 by omega,dX,zV q] at t;trivial;simp_all;exact o (by rw[show b+2+c+1=b+2+(aG (c:L)+1) by omega,t];rfl);omega)] at i;rw[<-i] at e;exact lQ 3 [2] (ec ([],(b:L)) b5 (s:=by rw[<-e];rfl));obtain⟨u,h⟩:b+2+c<U J/\ml (ay (b+1+1) J)=c:=by omega
  have F:y J (b+2+c) 0=125:=uG 125<|zQ λn=>o<|bj<|bp n;have t:y J (b+2+c+1) 0=125:=uG 125<|zQ λn=>o<|bp n;have ak:b+2+c+1<U J:=q;have N:¬(ml (ay (b+1+1) J)<0\/¬(y (ay (b+1+1) J) (aG (ml (ay (b+1+1) J))) 0=125/\y (ay (b+1+1) J) (aG (ml (ay (b+1+1) J))+1) 0=125)):=by rw[h,dz,dz];rintro(n|n);omega;grind
  rw[ad N,h] at i;refine aY ?_;refine n1 (b+2) (b+2+c) ?_;refine gG [] (λ_=>[]) [] (λ_ _=>?_) (g:=auP (am (b+2+c-(b+2))<|ay (b+2) J) aK) (kN:=gF _) (kM:=λ_ _=>gF _);have I:am (b+2+c-(b+2)) (ay (b+2) J)=am (aG (c:L)) (ay (b+1+1) J):=by congr 1;omega
  rw[I];apply f<;>intro Q;rw[show vl (am (aG (c:L)) (ay (b+1+1) J))=ae by simp_all] at i;rw[<-i] at e;exact lQ 3 [2] (ec ([],(b:L)) b5 (s:=by rw[<-e];rfl));rw[show vl (am (aG (c:L)) (ay (b+1+1) J))=ag by simp_all,B0,Gt] at i;refine ei ?_;refine bw (λ_=>n1 m b aa) ?_;refine bw (λ_=>kr aa) ?_;refine jY 91 (M++[b2 [a8 [],a8 [],a8<|am (b-m)<|ay m J],AK (oc<|am (aG (c:L))<|ay (b+1+1) J)<|nz<|am (aG (c:L))<|ay (b+1+1) J]) ?_ (bl:=aK) (k_:=ba) (sL:=ba);refine jz [(91,1005)] ?_;refine aY ?_;refine a4 (b+2+c+2,b+2+c+2,_) ?_ (bA:=.r);exact⟨⟨q,ao,aK⟩,cf⟩
 rw[axy aK] at i;rw[<-i] at e;refine n1 m (U J) ?_;refine cp ?_;refine eB (M++[b2 [a8 [],a8 [],a8<|am (U J-m)<|ay m J]]) ?_ (bl:=aK);exact gq 1005<|ec (_,0) b5 (s:=by rw[<-e];rfl)
def aef(J:Y C)(c:U J<=1048576):ru fT 51 [a8 J] (λ_:L=>dW) (λb=>cv [an aj b,an aj<|ue J]):=by refine tY func51 [] λe p d=>?_;refine gG [] _ [] (λb _=>?_) (g:=auO J c) (kN:=gF _) (kM:=λ_ _=>gF _);exact ec b.2 b5
noncomputable def hv:qw:=⟨λJ=>(iR J).2.2,λJ=>(iR J).1,λJ=>(iR J).2.1,λJ=>(iR J).2.1,λb=>(mV b).2,λb=>(mV b).1,tC⟩
def atf:PC hv:=⟨λJ c=>aee J c Rr,λJ c b=>aec (FZ b).1 (FZ b).2.1 (FZ b).2.2⟩
theorem akh{b:bY}(r:hD b)(o:(mi (i3 b)).next.length<=300):(mi (i3 b)).ok/\i3 (mi (i3 b))=i3 b:=by
 classical
 have h:mi (i3 b)=ot yQ M9 _:=aa;have p:=by
  have:(mi (i3 b)).next.length=U (Bf (i3 b) sD):=by exact bm ..
  omega
 have f:∀g∈Bf _ _,∀m∈g2 yQ g,m∈Bf (i3 b) sD:=λg k=>G1 (by grind[Bf,i3,sD,Qj]) k;have e:(Bf _ _)[0]?=W _:=zp (pQ (succ:=g2 yQ) (bP:=[i3 b])<|dJ sD) aa;have i:=(eX.1 e).1;have d:=WM (acc:=M9) f q i;rw[h];refine⟨⟨?_,?_,d.acc,d.j,d.start,d.dst⟩,?_⟩;show 0<U (ab _ _);(simp;omega);trivial;rw[WL f e];funext E;have:∀(E:Y _)(c:uz),M9 (q6 yQ c E)=c E:=by
  intro E
  induction E with|nil=>exactλc=>aa|cons n E l=>exactλc=>l _
 exact this E _
def aqf{b:aW}(f:e1 b)(c:(mV b).2=0):(mV b).1.ok/\i3 (mV b).1=xx b:=by
 unfold mV at c⊢;split at c;cases c;rename_i e;have d:=by refine Pj λn=>e<|bp<|bj n
 have h:=WN d;have g:i3 _=xx b:=P4 d;grind[akh]
instance:l9 nO:=⟨⟨[],0⟩⟩
def nT(b:Prop) [sj b](c:L):L:=if b then c else 0
def FQ(b:Am):L:=if¬uf b.name\/HC b.name then 8 else ue b.value
noncomputable def yd(J:eT):Y L:=[vm ae J.query,vm ag J.head,nT (1<(U J.body:L)) 2]++ab (iM hv) J.body
def BN(J:eT):Y L:=[nT (((J.times<0\/1000000<J.times)\/J.status<200)\/599<J.status) 9,nT (100<(U J.iS:L)) 3]++ab FQ J.iS++[ue J.text,nT (¬J.text=[]/\(J.status=204\/J.status=304)) 2,nT (J.sE<0\/1000000000<J.sE) 9]
noncomputable def px(J:eT):L:=iN<|nT (¬(p4 J.name=ag/\zB J.state/\zB J.next)) 8::nT (J.prio< -1000000000\/1000000000<J.prio) 9::Bk J::(yd J++BN J)
def sB{b:Prop} [sj b]{c:L}{f:Y L}(e:b)(d:c≠0):iN (nT b c::f)=c:=by rw[nT,af e,jg d]
def sA{b:Prop} [sj b]{d:L}{c:Y L}(e:¬b):iN (nT b d::c)=iN c:=by simp_all[nT,ad,jf]
def eF.le{J:Y C}(b:eF J):U J<=100000000:=by grind[eF]
def auJ{J:eT}(bA:J.ok):bh 31 [dy J] (an aj (px J)):=by
 obtain⟨A,c⟩:∃A,px J=A:=⟨_,aa⟩;rw[c];rw[px] at c;have H:=bA.body.1;have I:=bA.iS.1;refine bs func31 [] λp G=>?_;refine aT ?_ (g:=NP J.name bA.name.le);apply cy;intro _;apply cL;intro _;refine ch ?_ (g:=NP J.state bA.state.le);exact aa;exact aa;apply cy;intro _;apply cL;intro _;refine ch ?_ (g:=NP J.next bA.next.le);exact aa;exact aa;apply f<;>intro F;rw[sB (by grind[zB]) a2] at c;exact aL (s:=by rw[<-c];rfl);rw[sA (by grind[zB])] at c;apply cy;intro _;exact aa;apply f<;>intro w;rw[sB w a2] at c;exact aL (s:=by rw[<-c];rfl);rw[sA w] at c;refine aT ?_ (g:=auB J bA);apply f<;>intro x;rw[jg x] at c;exact aL (s:=by rw[<-c];rfl);rw[jf x,yd,eS,kh,kh,kh,na] at c;refine aT ?_ (g:=aeh ae J.query bA.query);apply f<;>intro z;rw[jg z] at c;exact aL (s:=by rw[<-c];rfl);rw[jf z] at c;refine aT ?_ (g:=aeh ag J.head bA.head);apply f<;>intro B;rw[jg B] at c;exact aL (s:=by rw[<-c];rfl);rw[jf B] at c;apply f<;>intro C;rw[sB C a2] at c;exact aL (s:=by rw[<-c];rfl);rw[sA C] at c;refine gN (U J.body) (λd=>iN (ab (iM hv) (ay d J.body)++BN J)=A) (λd=>⟨[(1,b 1),(71,.al 2<|ab nj J.body),(72,_),(73,l d)],[(1,ah 48<|dy J)],[]⟩) (λd k=>?_) c .r;apply f<;>intro E;have s:d<U J.body:=q;have e:=k.2;rw[C6 s] at e;refine bB d (nj<|y J.body d av) ?_ (k:=eZ s);refine aT ?_ (g:=auI atf<|bA.body.2 _<|ka s);apply f<;>intro i;rw[jg i] at e;exact aL (s:=by rw[<-e];rfl);refine aY ?_;rw[jf i] at e;exact a4 (d+1) ⟨q,e⟩ (bA:=.r);have c:=k.2;rw[C7 q,BN,eS,kh,kh,na] at c
 iterate 3
  apply cy;intro _;exact aa
 apply f<;>intro n;rw[sB n a2] at c;exact aL (s:=by rw[<-c];rfl);rw[sA n] at c;apply f<;>intro o;rw[sB o a2] at c;exact aL (s:=by rw[<-c];rfl);rw[sA o] at c;refine gN (U J.iS) (λd=>iN (ab FQ (ay d J.iS)++[ue J.text,nT (¬J.text=[]/\(J.status=204\/J.status=304)) 2,nT (J.sE<0\/1000000000<J.sE) 9])=A) (λd=>⟨[(1,b 1),(106,.al 2<|ab vP J.iS),(107,_),(108,l d)],[(1,ah 48<|dy J)],[]⟩) (λd k=>?_) c .r;apply f<;>intro E;have s:d<U J.iS:=q;have e:=k.2;rw[C6 s] at e;have h:=bA.iS.2 _<|ka s;refine bB d (vP<|y J.iS d av) ?_ (k:=eZ s);generalize y J.iS d av=m at h e⊢;rw[FQ] at e;refine aT ?_ (g:=aea m.name h.1.le);apply cy;intro _;refine ch ?_ (g:=ad_ m.name h.1.le);exact aa;apply f<;>intro i;rw[af q,jg a2] at e;exact aL (s:=by rw[<-e];rfl);rw[ad q] at e;refine gG [] (λ_=>[]) [] (λ_ _=>?_) (g:=aef m.value h.2) (kN:=gF _) (kM:=λ_ _=>gF _);apply f<;>intro D;rw[jg D] at e;exact aL (s:=by rw[<-e];rfl);refine aY ?_;rw[jf D] at e;exact a4 (d+1) ⟨q,e⟩ (bA:=.r);have c:=k.2;rw[C7 q] at c;refine gG [] (λ_=>[]) [] (λ_ _=>?_) (g:=aef J.text bA.text) (kN:=gF _) (kM:=λ_ _=>gF _);apply f<;>intro t;rw[jg t] at c;exact aL (s:=by rw[<-c];rfl);rw[jf t] at c;apply cL;intro _;apply cy;intro _;exact aa;exact aa;apply f<;>intro u;rw[sB u a2] at c;exact aL (s:=by rw[<-c];rfl);rw[sA u] at c;apply cy;intro _;exact aa;apply f<;>intro v;rw[sB v a2] at c;exact aL (s:=by rw[<-c];rfl);rw[sA v] at c;exact aL (s:=by rw[<-c];rfl)
structure dx.ok(aE:dx):Prop where
 state:eF aE.state
 bt:kq aE.bt eT.ok
noncomputable def uh(fa:Y (Y C)):Y eT->L|[]=>0|J::A=>if px J≠0 then px J else if J.name∈fa then 5 else uh (fa++[J.name]) A
noncomputable def lF(b:dx):L:=if 200<(U b.bt:L) then 3 else if¬zB b.state then 8 else uh [] b.bt
def Us:o6 (λ_=>dW) V.str:=o6.str (ar:=id) λ_ _ _ _ b=>b
def aa8{fa:Y (Y C)}{b:Y C}{c:bq}(d:V.const c=aV ae):qS (e6 V.str (λ_=>aV ag) fa) (a8 b) c ae=aV (aH (b∈fa)):=by unfold qS;rw[ad ao,RW Us b5 λ_ _=>b5];grind
def u1(c:Y eT)(b:Z):Y (Y C):=ab eT.name<|am b c
def M6{c:Y eT}{b:Z}(d:b<U c):u1 c (b+1)=u1 c b++[(y c b av).name]:=by grind[u1,List.take_add_one,List.getElem?_eq_getElem]
def Ym(fa:Y (Y C)):b7:=iA (e6 V.str (λ_=>aV ag) fa)<|U fa
def ad9{c:dx}(o:c.ok):bh 11 [eP c] (an aj (lF c)):=by obtain⟨A,e⟩:∃A,lF c=A:=⟨_,aa⟩;rw[e];rw[lF] at e;refine bs func11 [] λp v=>?_;apply f<;>intro m;rw[af m] at e;exact aL (s:=by rw[<-e];rfl);rw[ad m] at e;apply cL;intro _;refine ch ?_ (g:=NP c.state o.state.le);exact aa;apply f<;>intro t;rw[af (by grind[zB])] at e;exact aL (s:=by rw[<-e];rfl);rw[ad (by grind[zB])] at e;refine gN (U c.bt) (λd=>uh (u1 c.bt d) (ay d c.bt)=A) (λd=>⟨[(1,b 1),(3,.eA 20),(22,.al 20<|ab dy c.bt),(23,_),(24,l d)],[(1,ah 24<|eP c),(20,Ym<|u1 c.bt d)],[]⟩) (λd k=>?_) e .r;apply f<;>intro u;have s:d<U c.bt:=q;have h:=k.2;rw[l3 s,show c.bt[d]=y c.bt d av by simp[s],uh] at h;have bA:=o.bt.2 _<|ka s;refine bB d (dy<|y c.bt d av) ?_ (k:=eZ s);refine aT ?_ (g:=auJ bA);apply f<;>intro n;rw[af n] at h;exact aL (s:=by rw[<-h];rfl);rw[ad n] at h;refine sW _ ?_ (De λ_ _=>aa)<|aa8 aa;apply f<;>intro i;rw[af i] at h;exact aL (s:=by rw[<-h];rfl);rw[ad i,<-M6 s] at h;refine rV (e6 V.str (λ_=>aV ag)<|u1 c.bt<|d+1) (U<|u1 c.bt<|d+1) ?_ (mq:=De λ_ _=>aa) (hu:=by rw[M6 s];exact Df (s6:=λ_=>aV ag) Us b5 (λ_ _=>b5) i);refine aY ?_;exact a4 (d+1) ⟨q,h⟩ (bA:=.r);have e:=k.2;rw[kA q,uh] at e;exact aL (s:=by rw[<-e];rfl)
noncomputable def pg(E:k4):V:=b2 [a8 E.name,an aj E.m.c0,a8 E.m.text,l (zf E.m).start,.al 1<|(zf E.m).acc.map bE,.al 1<|(zf E.m).next.map ca]
def anO(J:Y C):bh 89 [a8 J] (aV !Ay ae J):=by refine bs func89 [] λp b=>?_;exact aL (s:=by simp[eR,Ay])
def av5(J:Y C):bh 91 [a8 J] (a8 J):=by refine bs func91 [] λp b=>?_;exact aL
section
variable{fa:fM}(aM:kF bL fa){rL:Y C->Y C}(vZ:∀J,eF J->bh fa [a8 J] (a8 (rL J)))
include aM vZ
theorem alP(b E:k4)(d:eF b.name)(c:eF E.name):bh 119 [pg b,fN 1 [eo (c1 fa) [] []] 0 0,fN 3 [kJ E] 0 0] (aV (aH (rL b.name=rL E.name))):=by refine bs func119 [] λp e=>?_;refine fA ?_;refine ch ?_ (aM:=aM) (g:=vZ _ d);refine ch ?_ (aM:=aM) (g:=vZ _ c);exact aL
theorem alQ(c:Y k4)(E:k4)(h:kq c λd=>eF d.name)(i:eF E.name):bh 158 [.al 6 (ab pg c),eo (c1 119) [] [fN 1 [eo (c1 fa) [] []] 0 0,fN 3 [kJ E] 0 0]] (an aj<|iu (λd=>aH<|rL d.name=rL E.name) c 0):=by have t:=h.1;refine bs func158 [] λp o=>?_;refine gN (U c) (λb=>iu (λd=>aH<|rL d.name=rL E.name) c 0=iu _ (ay b c) b) (λb=>⟨[(0,_),(1,_),(7,_),(8,l b)],[],[]⟩) (λb k=>?_) (bA:=.r);apply f<;>intro m;have s:b<U c:=q;have e:=Mf s k.2;refine bB b _ ?_ (k:=eZ s);refine aT ?_ (g:=alP aM vZ _ E (h.2 _<|ka s) i);apply f<;>intro n;rw[af aq] at e;exact aL (s:=by rw[e];rfl);rw[ad aq] at e;refine aY ?_;exact a4 _ ⟨q,e⟩;exact aL (s:=by rw[Rz q k.2];rfl)
theorem alO(b:Y k4)(E:k4)(d:kq b λc=>eF c.name)(e:eF E.name):bh 118 [.al 6 (ab pg b),eo (c1 119) [] [fN 1 [eo (c1 fa) [] []] 0 0,fN 3 [kJ E] 0 0]] (aV<|aH<|0<=iu (λc=>aH<|rL c.name=rL E.name) b 0):=by refine bs func118 [] λp f=>?_;refine aT ?_ (g:=alQ aM vZ b E d e);exact aL
end
def ZV{f:Type}{e:f->X}:∀(b:Y f)(d:Z),aH (0<=iu e b d)=fB b e|[],d=>aa|g::b,d=>by rw[B1,iu];by_cases c:e g;simp[c];rw[ad c,ZV b _];simp[c]
def adb(h:X)(o fa:fM)(H:kF bL o)(G:kF bL fa)(rL:Y C->Y C)(F:∀J,eF J->bh o [a8 J] (aV !Ay h J))(vZ:∀J,eF J->bh fa [a8 J] (a8 (rL J)))(I:∀t v,aH (rL t=rL v)=vc h t v)(c:Y k4)(bl:kq c λE=>eF E.name/\eF E.m.text):ru fT 90 [.al 3 (ab kJ c),eo (c1 o) [] [],eo (c1 fa) [] []] (λ_:Y k4=>dW) (λt=>cv [.al 6 (ab pg t),an aj<|vm h c]):=by
 obtain⟨A,d⟩:∃A,vm h c=A:=⟨_,aa⟩;rw[d];rw[vm] at d;refine tY func90 [] λO p M=>?_;apply f<;>intro w;rw[af w] at d;exact lQ 6 [6] (ec [] b5 (s:=by rw[<-d];rfl));rw[ad w] at d;refine a1.eK 1008 6 202 [8] ai ?_;refine gN (U c) (λe=>iN (BX h c e)=A) (λe=>⟨[(1,eo (c1 o) [] []),(5,b 5),(8,.a 1008 0<|U<|ab pg<|am e c),(16,.al 3<|ab kJ c),(17,_),(18,l e)],[(5,ah 140<|eo (c1 fa) [] []),(1008,.j 6 202<|ab pg<|am e c)],[]⟩) (λe k=>?_) d .r;apply f<;>intro K;have s:e<U c:=q;have d:=k.2;rw[agV s,ON] at d;have u:=bl.2 _<|ka s;have B:ab pg (am (e+1) c)=ab pg (am e c)++[pg (y c e av)]:=by rw[J1,cT s,dc];simp[s]
 refine bB e (kJ<|y c e av) ?_ (k:=eZ s);generalize N:y c e av=n at d u B⊢;refine aT ?_ (aM:=H) (g:=F n.name u.1);apply f<;>intro L;rw[af aq] at d;exact lQ 6 [6] (ec [] b5 (s:=by rw[<-d];rfl));rw[ad aq,kh,jf a2] at d;refine pT ?_ (g:=alO G vZ (am e c) n ⟨aK,λi aU=>(bl.2 i<|pE aU).1⟩ u.1);rw[ZV];have D:fB (am e c) (λi=>aH<|rL i.name=rL n.name)=fB (am e c) (λi=>vc h i.name n.name):=by congr 1;funext i;exact I ..
 rw[D];apply f<;>intro x;rw[af x,kh,jg a2] at d;exact lQ 6 [6] (ec [] b5 (s:=by rw[<-d];rfl));rw[ad x,kh,jf a2,kh] at d;refine aT ?_ (g:=Tn n.m u.2);apply f<;>intro z;rw[jg z] at d;exact lQ 6 [6] (ec [] b5 (s:=by rw[<-d];rfl));rw[jf z,na] at d;refine cp ?_;refine eB (ab pg<|am (e+1) c) ?_ (aU:=bQ B) (bl:=aK);refine aY ?_;exact a4 (e+1) ⟨q,d⟩ (bA:=.r);rw[agU q] at k;exact gq 1008<|ec (am e c) b5 (s:=by rw[<-k.2];rfl)
def Yt{y b B:aw}{au A J z R x f g:Z}{am:bq}{w:bU (Z×aP)}{e C:Y V}{O:bc}(S:cu P y (c_ b) au A)(F:gx P b J z)(X:jr P b am)(av:M.op=.buildSlice y R w)(K:u6 p O (a0 w) 0 e)(H:R=U e)(u:∀I∈e,U I.cells=J)(D:R*J<=2^24)(Q:0<J)(s:O.d[x]?=W (f,.j g J B C)):eH P p M O (.bH f (g+1) 0 R) (aR O.d x (f,.j (g+1) J b e)):=.of λap E i l=>by
 let⟨k,ar,ax,h,L⟩:=T6 S F X K H u D l;let⟨az,hm,c⟩:=l.cO.gd _ _<|dY s;let t:i.le (i.fV f ⟨W<|a9 E.heap,0,g+1,U k,J⟩):=bf.jh λay h=>by rw[hm] at h;cases h;exact⟨c.2.1,by rw[c.1];simp,λb=>by rw[c.1] at b;grind⟩
 let G:=l.cO.pB (lf:=.j _ J b e) (dr:=⟨W _,0,g+1,U k,J⟩) s hm c.2.1 (by rw[c.1];simp) (λb=>by rw[c.1] at b;grind) (bp ⟨a9 E.heap,aa,bv _⟩) (World.grownBy_alloc E _ _)
  ⟨aa,aa,bp ⟨a9 E.heap,aO k,aa,.of<|heap_alloc_new E _,ao,aq,λo r v=>h r<|dY (by simpa using v),λo I m=>u I<|dY m,λo n I ak m T=>by let⟨r,v,N⟩:=L o n I ak m T;exact⟨r,aq,N.mono t⟩⟩⟩
 refine⟨eY (W ⟨a9 E.heap,0,ai⟩) R R,_,_,.bH f _ 0 R,_,t,?_,G,bj (by grind[c5,Sem.run_bind,Result.andThen_ok,Sem.run_pure]),aa,aa⟩;let hm:R<=ja:=by have:R<=R*J:=J5 _ Q;grind[ja]
 exact .bH _ _ _ _ _ _ (i.kg _ _) (bv _) aa λ_=>bp ⟨a9 E.heap,0,R,aa,aa,bv _,hm,bp ⟨ao,aK⟩⟩
section
variable{m:Z}{B:ep->aN->Prop}
def azb{r g h:aw}{d:cH}{k R:Z}{l f:Y V}{t:bU (Z×aP)}b e(F:B ([],[k]) ({J with az:=s3 J.az k (e,.j d.size g f)}.put M.dst (.a e 0 R)))(O:M.op=.buildSlice r R t:=by rfl)(s:fC K r (c_ g):=by exact fX)(E:K.find g=W d:=by rfl)(C:sb i J.c (a0 t) 0=W f:=by rfl)(H:R=U f:=by rfl)(G:∀I∈f,U I.cells=d.size:=by first|exact Nn rfl|exact H0 (by repeat (first|exact trivial|refine And.intro rfl ?_))|(simp[V.cells,V.const,V.leaf];done))(A:hB (R*d.size) 16777216:=by rfl)(Q:0<d.size:=by decide)(ap:qa J.az b 0=W k:=by rfl)(X:sK J.az k=W (b,.j d.size h l):=by rfl)(am:g8 e m:=by rfl)(N:ry (h9 [e]) J.c:=by kernel_rfl)(L:rz (h9 [e]) [k] J.az 0:=by kernel_rfl)(ak:ef b e=ae:=by rfl):mM P K p i m ops M J Rd B:=by
 refine .mk [] [(k,(e,.j d.size g f))] _ [] [(b,.j d.size h l)] [e] ba aa yo (bp N) (bp L)
  (λdz y z o=>⟨e2 o e ((o b).1,(o b).2+1),dk.of λr s=>hd kj,λr s=>hd λg=>Ka,λax aA ay aq ar=>by grind[e2],λn=>?_⟩) F
 obtain⟨_,_,w⟩:=s.eD dz;have u:=dz.find E;have D:sb i (dt M J.c) (a0 t) 0=W f:=by rw[UL λaC av=>yb i dZ];exact C
 have v:=Gk (J:=⟨dt M _,[],n++[((o b).1,.j (o b).2 d.size h l)]⟩) y z (o:=o) D;have x:(⟨dt M J.c,[],n++[((o b).1,.j (o b).2 d.size h l)]⟩:aN).aB o=⟨dt M (da o J.c),n++[((o b).1,.j (o b).2 d.size h l)]⟩:=by show(⟨da o _,_++[]⟩:bc)=_;rw[wu,gv]
 rw[x] at v;have:=Yt w u.au u.lG O v H G (c9 (ll A) a2) Q za;have S:(V.a e 0 R).aB (e2 o e ((o b).1,(o b).2+1))=.bH (o b).1 ((o b).2+1) 0 R:=by simp[V.aB,V.jW,V.e8,V.e0,e2]
 have T:aZ (e2 o e ((o b).1,(o b).2+1)) [(e,b7.j d.size g f)]=[((o b).1,.j ((o b).2+1) d.size g f)]:=by simp only[aZ,ia,rk,c2,b7.aD,iT]
 show eH P p M ⟨dt M _,n++([]++[((o b).1,.j (o b).2 d.size h l)])⟩ _ (n++([]++aZ _ _));simp_all
end
def ES(J:eT)(m b A:hQ×bY)(e f d c:V):V:=b2 [a8 J.name,an aj J.prio,an aj J.method.c0,a8 J.method.text,an aj J.target.c0,a8 J.target.text,.al 2<|ab mP J.path,aV J.rest,.al 3<|ab kJ J.query,.al 3<|ab kJ J.head,an aj J.raw.c0,a8 J.raw.text,.al 2<|ab nj J.body,a8 J.state,a8 J.next,an aj J.times,an aj J.status,.al 2<|ab vP J.iS,a8 J.text,an aj J.sE,an aj m.1.c0,a8 m.1.text,l m.2.start,.al 1<|m.2.acc.map bE,.al 1<|m.2.next.map ca,an aj b.1.c0,a8 b.1.text,l b.2.start,.al 1<|b.2.acc.map bE,.al 1<|b.2.next.map ca,an aj A.1.c0,a8 A.1.text,l A.2.start,.al 1<|A.2.acc.map bE,.al 1<|A.2.next.map ca,e,f,d,c]
def se:hQ×bY:=(.zero,uP)
instance:l9 (hQ×bY):=⟨se⟩
structure Cm where
 m:hQ×bY
 t:hQ×bY
 r:hQ×bY
 p:Y (hQ×bY)
def Cm.e(b:Cm)(J:eT)(f d c:V):V:=ES J b.m b.t b.r (.al 5<|ab vO b.p) f d c
noncomputable def rQ(m:hQ):hQ×bY:=(m,zf m)
def apt(m:hQ):aH ((jk m).1.c0=3)=aH (m.c0=3):=by rw[jk];split;rename_i b;rw[b];rfl;rfl
def asG(J:eT)(bA:J.ok):iL bL fT 60 [b 6000] [] [(6000,ah 126 (ES J se se se .bo .bo .bo .bo))] (λ_:Cm=>dW) (λ_=>an aj<|Bk J) (λ_=>[]) (λD=>[(6000,ah 126<|D.e J .bo .bo .bo)]):=by
 obtain⟨A,d⟩:∃A,Bk J=A:=⟨_,aa⟩;rw[d];rw[Bk,ia,ia,rk,kh,kh,na] at d;have L:=bA.path.1;refine iL.of_wp (K:=hX) [] gm br h7 ⟨func60,ba,aa⟩ aa aa aa λN p w x=>?_;let H:kE bL hX p fT _ []:=⟨gm,br,w,h7,x⟩;refine aT ?_ (g:=To J.method bA.method);apply f<;>intro n;rw[jg n] at d;exact fQ 5 6000 [35] (ec ⟨jk J.method,se,se,[]⟩ b5 (s:=by rw[<-d];rfl));rw[jf n] at d;refine aT ?_ (g:=To J.target bA.target);apply f<;>intro o;rw[jg o] at d;exact fQ 5 6000 [35] (ec ⟨jk J.method,jk J.target,se,[]⟩ b5 (s:=by rw[<-d];rfl));rw[jf o] at d;refine a1.eK 1004 5 121 [] (W (6000,35)) ?_;refine gN (U J.path) (λc=>iN (ab mW (ay c J.path)++rX J.raw::Dm J)=A) (λc=>⟨[(0,b 6000),(44,.al 2<|ab mP J.path),(45,_),(46,l c)],[(6000,ah 126<|ES J (jk J.method) (jk J.target) se (.a 1004 0<|U<|ab vO<|ab rQ<|am c J.path) .bo .bo .bo),(1004,.j 5 121<|ab vO<|ab rQ<|am c J.path)],[]⟩) (λc k=>?_) d .r;apply f<;>intro E;have s:c<U J.path:=q;have h:=k.2;rw[C6 s] at h;have B:ab vO (ab rQ (am (c+1) J.path))=ab vO (ab rQ (am c J.path))++[vO (rQ (y J.path c av))]:=by rw[J1,cT s,dc,dc];simp[s]
 refine bB c (mP<|y J.path c av) ?_ (k:=eZ s);refine aT ?_ (g:=Tn _<|bA.path.2 _<|ka s);apply f<;>intro i;rw[jg i] at h;exact gq 1004<|ec ⟨jk J.method,jk J.target,se,ab rQ<|am c J.path⟩ b5 (s:=by rw[<-h];rfl);rw[jf i] at h;refine ei ?_;refine bw (λ_=>kr aa) ?_;refine jY 65 (ab vO<|ab rQ<|am (c+1) J.path) ?_ (aU:=bQ B) (bl:=aK) (k_:=ba) (sL:=ba);refine fo ?_;refine jz [(65,1004)] ?_;refine aY ?_;exact a4 (c+1) ⟨q,h⟩ (bA:=.r);have d:=k.2;rw[C7 q] at d;have z:am c J.path=J.path:=kC q;rw[z];refine aT ?_ (g:=To J.raw bA.raw);apply f<;>intro i;rw[jg i] at d;exact gq 1004<|ec ⟨jk J.method,jk J.target,jk J.raw,ab rQ J.path⟩ b5 (s:=by rw[<-d];rfl);rw[jf i,Dm] at d;refine a1.h6 1004 ?_;refine a1.eK 1096 5 121 [] ai ?_;refine ei ?_;refine azb 1096 96 ?_;refine jY 101 (ab vO<|[jk J.method,jk J.target,jk J.raw]++ab rQ J.path) ?_ (gi:=.al aa aa aa aa λM C=>(by obtain⟨_,_,rfl⟩:=dI.1 C;rfl)) (aU:=ba) (bl:=aK) (k_:=ba) (sL:=ba);refine jz [(101,1096)] ?_;generalize u:[jk J.method,jk J.target,jk J.raw]++ab rQ J.path=cA at⊢;have I:U cA<=2000000:=by rw[<-u];simp;omega
 have v:fB cA (λm=>aH<|m.1.c0=3)=fB ([J.method,J.target,J.raw]++J.path) (λm=>aH<|m.c0=3):=by rw[<-u];simp[apt,List.any_map,rQ];rfl
 refine a1.h6 1096 ?_;refine gN (U cA) (λc=>fB cA (λm=>aH<|m.1.c0=3)=fB (ay c cA) (λm=>aH<|m.1.c0=3)) (λc=>⟨[(0,b 6000),(101,.al 5<|ab vO cA),(102,_),(103,l c)],[(6000,ah 126<|Cm.e ⟨jk J.method,jk J.target,jk J.raw,ab rQ J.path⟩ J .bo .bo .bo)],[]⟩) (λc k=>?_) aa .r;apply f<;>intro F;have s:c<U cA:=q;have h:=KH s k.2;refine bB c (vO<|y cA c av) ?_ (k:=eZ s);apply f<;>intro t;rw[oY t,OU,v] at h;rw[Io,af h,jg a2] at d;exact ec ⟨jk J.method,jk J.target,jk J.raw,ab rQ J.path⟩ b5 (s:=by rw[<-d];rfl);refine aY ?_;rw[Aa t,D0] at h;exact a4 (c+1) ⟨q,h⟩ (bA:=.r);have h:=k.2;rw[kA q,OX,v] at h;rw[Io,ad aq,jf a2] at d;apply f<;>intro G;rw[af aq,jg a2] at d;exact ec ⟨jk J.method,jk J.target,jk J.raw,ab rQ J.path⟩ b5 (s:=by rw[<-d];rfl);rw[ad aq,jf a2] at d;exact ec ⟨jk J.method,jk J.target,jk J.raw,ab rQ J.path⟩ b5 (s:=by rw[<-d];rfl)
section
noncomputable def Bv(b:Y C):L:=if(iR b).2.2≠0 then(iR b).2.2 else(mV (iR b).1).2
def ip:c6 (bY×Y C)->V|ai=>.ks|W (b,c)=>fN 5 [b2 [l b.start,.al 1<|ab bE b.acc,.al 1<|ab ca b.next,a8 c,aV ag]] 0 0
noncomputable def uX(b:Y C):c6 (bY×Y C):=if Bv b≠0 then ai else if tC (mV (iR b).1).1 then ai else W ((mV (iR b).1).1,b)
attribute [local irreducible] iR mV tC
def atC{b:Y C}(s:U b<=1048576):bh 209 [a8 b] (cv [ip (uX b),an aj (Bv b)]):=by
 refine bs func209 [] λp t=>?_;refine aT ?_ (g:=aeo b s);apply f<;>intro k
 .have c:=by simpa using k
  have d:Bv b=(iR b).2.2:=af c;have e:uX b=ai:=af q;rw[e,d];exact aL
 have c:¬(iR b).2.2≠0:=by simpa using k
 obtain⟨h,n,o⟩:=FZ<|Gp.1 c;have d:Bv b=(mV (iR b).1).2:=ad c;refine aT ?_ (g:=ac8 h n o);apply f<;>intro r
 .have e:uX b=ai:=af q;rw[e,d];exact aL
 have i:=by simpa using r
 obtain⟨g,_⟩:=aqf h i;rw[d,i];have m:uX b=if tC _ then ai else W _:=ad q
 refine aT ?_ (g:=asE g.wf g.len);apply f<;>intro l
 .rw[m,af l];exact aL
 rw[m,ad l];exact QS 36 5 aL
def Xi(b:Y L)(bl:U b<=1048576):bh 69 [.al 1 (ab gI b)] (.al 1 (ab gI b)):=by refine bs func69 [] λp g=>?_;refine SV λe aM=>?_;apply f<;>intro d;rw[aM d];exact lQ 1 [2] aL;refine n0 ?_;refine eB _ ?_ (gi:=.al aa aa aa aa λh c=>(by obtain⟨_,_,rfl⟩:=dI.1 c;rfl)) (bl:=bi);exact gq 5 aL
structure eb where
 null:X
 km:L
 dR:eJ
 iI:c6 (bY×Y C)
 list:X
 eL:Y L
 item:L
 min:L
 max:L
 p7:X
 dG:Y nM
 rest:L
def h5(J:eb)(c t b:V):V:=b2 [aV J.null,an aj J.km,.al 3<|ab cm J.dR.x,.al 1<|ab bE J.dR.on,.al 2<|ab hr J.dR.hF,c,aV J.list,t,an aj J.item,an aj J.min,an aj J.max,aV J.p7,b,an aj J.rest]
def j_(J:eb):V:=h5 J (ip J.iI) (.al 1<|ab gI J.eL)<|.al 3<|ab fw J.dG
def eb.elem(J:eb)(B:Z):L:=if B<U J.eL then y J.eL B 0 else J.item
def eb.plain(J:eb):X:=J.null||aH (0<J.km)||J.iI.isSome||!J.dR.empty
def ze(c:Y X)(b:L):X:=aH (0<=b)&&y c (aG b) ae
def eb.Di(J:eb):Z:=if J.min<=U J.eL then aG J.min else U J.eL+1
def eb.ht(J:eb)(b:Y X):X:=J.list&&(List.range J.Di).all λc=>ze b<|J.elem c
def EK(c:Y X)(b:nM):X:=b.Bo&&!y c (aG b.shape) ae
def eb.ap2{J:eb}{b:Y X}{c:Z}(d:c<J.Di)(e:ze b (J.elem c)=ae):J.ht b=ae:=by grind[eb.ht,Bool.and_eq_false_iff,List.all_eq_false]
def eb.aa2{J:eb}{b:Y X}(d:J.list)(e:∀c,c<J.Di->ze b (J.elem c)):J.ht b:=by simp_all[eb.ht,B0,kY,hM]
def eb.apW{J:eb}{b:Z}(c:(b:L)<J.min)(d:b<=U J.eL):b<J.Di:=by grind[eb.Di]
def eb.kb(J:eb)(b:Y X):X:=J.p7&&!fB J.dG (EK b)
def amO(J:eb){Gc:V}(b:V)(B:Z):bh 265 [fN 14 [h5 J Gc (.al 1 (ab gI J.eL)) b] 0 0,l B] (an aj (J.elem B)):=by
 refine bs func265 [] λp c=>?_;apply f<;>intro d
 .refine bB B (gI<|y J.eL B 0) ?_ (k:=aq);exact aL (s:=by rw[eb.elem,af q];rfl)
 exact aL (s:=by rw[eb.elem,ad q];rfl)
def atA(J:eb)(t b:V)(c:J.dR.ok):bh 264 [fN 14 [h5 J .ks t b] 0 0] (aV (J.null||aH (0<J.km)||ae||!J.dR.empty)):=by refine bs func264 [] λp d=>?_;refine gu ?_;apply cy;refineλe=>ab7<|aa;apply cy;refineλf=>kn ?_ (g:=S1 c);exact aa;exact aL
theorem atB(J:eb)(b:bY)(e:Y C)(t c:V)(d:J.dR.ok):bh 264 [fN 14 [h5 J (ip (W (b,e))) t c] 0 0] (aV (J.null||aH (0<J.km)||ag||!J.dR.empty)):=by refine bs func264 [] λp f=>?_;refine gu ?_;apply cy;refineλh=>ab7<|aa;apply cy;refineλi=>kn ?_ (g:=S1 d);exact aa;exact aL
def awY(J:eb){t b:V}(c:J.dR.ok):bh 264 [fN 14 [h5 J (ip J.iI) t b] 0 0] (aV J.plain):=by unfold eb.plain;cases d:J.iI with|none=>exact atA J t b c|some e=>grind[atB]
def aa1(J:eb){Gc t m:V}(F:J.list->t=.al 1 (ab gI J.eL))(d:Y X)(G:J.list->0<=J.min/\∀B, -1<=J.elem B/\J.elem B<U d)(O:U J.eL<=1048576):bh 213 [fN 14 [h5 J Gc t m] 0 0,.al 1 (ab bE d)] (aV (J.ht d)):=by
 refine bs func213 [] λp M=>?_;apply f<;>intro x
 .rw[show J.ht d=ae by grind[eb.ht]];exact aL
 have h:J.list:=by simpa using x
 obtain rfl:=F h;obtain⟨K,E⟩:=G h;refine c8 Z (λb=>⟨[(0,fN 14 [h5 J Gc (.al 1<|ab gI J.eL) m] 0 0),(1,.al 1<|ab bE d),(15,an aj J.min),(16,l b)],[],[]⟩) (λb=>(b:L)<=J.min/\b<=U J.eL/\∀c,c<b->ze d (J.elem c)) (λb=>U J.eL-b) 0 (λb s=>?_) ⟨K,dJ _,λc i=>cg i<|yl c⟩;apply f<;>intro z
 .obtain⟨H,u,v⟩:=s;obtain⟨C,D⟩:=E b;obtain⟨e,r⟩:∃e,J.elem b=e:=⟨_,aa⟩;have g:=amO J (Gc:=Gc) m b;rw[r] at g C D;have I:(b:L)<J.min:=z;refine aT ?_ (g:=g);apply cy;refineλP=>bB (aG e) (bE<|y d (aG e) ae) ?_ (k:=G2 q);exact aa;apply f<;>intro A
  .have w:ze d (J.elem b)=ae:=by unfold ze;rcases A with n|n;simp_all;simp_all
   rw[eb.ap2 (eb.apW I u) w];exact aL
  have w:ze d (J.elem b):=by unfold ze;rw[r,m7,kk];exact⟨q,by simp_all⟩
  have o:∀c,c<b+1->ze d (J.elem c):=λc i=>by grind
  apply f<;>intro N
  .rw[eb.aa2 h λc i=>o c (by grind[eb.Di])];exact aL
  exact aY<|a4 (b+1) ⟨q,q,o⟩
 obtain⟨H,u,v⟩:=s;rw[eb.aa2 h λc i=>v c (by grind[eb.Di])];exact aL
def Ba{d:Type}(c:d->X):Y d->Z->L|[],_=>-1|e::f,b=>if c e then(b:Z) else Ba c f (b+1)
def ZX{d:Type}{G:d->X}:∀(b:Y d)(c:Z),fB b G=aH (0<=Ba G b c)|[],c=>aa|e::b,c=>by rw[B1,Ba];cases f:G e;exact ZX (G:=G) b _;rfl
def Ht(R:Z)(b:nM):Prop:=b.Bo=ag->0<=b.shape/\b.shape<R
def al2(b:nM)(c:Y X)(e:Ht (U c) b):bh 266 [fw b,fN 1 [.al 1 (ab bE c)] 0 0] (aV (EK c b)):=by refine bs func266 [] λp f=>?_;apply cL;refineλd=>bB (aG b.shape) _ ?_ (k:=G2 (by have:=e d;omega)) (bu:=by have:=e d;omega);exact aa;exact aL
def aoM(c:Y nM)(d:Y X)(o:U c<=1000000)(s:∀h∈c,Ht (U d) h):bh 306 [.al 3 (ab fw c),eo (c1 266) [] [fN 1 [.al 1 (ab bE d)] 0 0]] (an aj (Ba (EK d) c 0)):=by
 refine bs func306 [] λp i=>?_;refine gN (U c) (λb=>Ba (EK d) c 0=Ba (EK d) (ay b c) b) (λb=>⟨[(0,_),(1,_),(7,_),(8,l b)],[],[]⟩) (λb k=>?_) (bA:=.r);apply f<;>intro n
 .have e:b<U c:=q;refine bB b (fw<|y c b av) ?_ (k:=aq);refine aT ?_ (g:=al2 (y c b _) d<|s _ aq);apply f<;>intro m
  .exact aL (s:=by rw[k.2,l3 e,Ba,af aq];rfl)
  refine aY ?_;exact a4 (b+1) ⟨q,by rw[k.2,l3 e,Ba,ad aq]⟩
 exact aL (s:=by rw[k.2,kA q];rfl)
def alm{b:Y nM}(c:Y X)(e:U b<=1000000)(s:∀d∈b,Ht (U c) d):bh 267 [.al 3 (ab fw b),eo (c1 266) [] [fN 1 [.al 1 (ab bE c)] 0 0]] (aV (fB b (EK c))):=by refine bs func267 [] λp f=>?_;refine aT ?_ (g:=aoM b c e s);exact aL (s:=by rw[ZX b 0];rfl)
def acA(J:eb){k t c:V}(e:J.p7->c=.al 3 (ab fw J.dG))(b:Y X)(h:U J.dG<=1000000)(i:∀d∈J.dG,Ht (U b) d):bh 214 [fN 14 [h5 J k t c] 0 0,.al 1 (ab bE b)] (aV (J.kb b)):=by refine bs func214 [2001] λp l=>?_;refine a1.vW 3 1<|dA ?_;apply cL;intro f;obtain rfl:=e f;refine kn ?_ (g:=alm b h i);exact aa;exact aL
end
section
instance:Inhabited eb:=⟨⟨ae,0,⟨[],[],[]⟩,ai,ae,[],0,0,0,ae,[],0⟩⟩
structure Ky(f_:Z)(J:eb):Prop where
 dR:J.dR.ok
 abc:J.list->0<=J.min/\∀B, -1<=J.elem B/\J.elem B<f_
 ew:U J.eL<=1048576
 X2:U J.dG<=1000000
 fd:∀ar∈J.dG,Ht f_ ar
def eb.some(J:eb)(m:Y X):X:=J.plain||J.ht m||J.kb m
def nx(b:Y eb)(c:Z)(m:Y X):X:=(y b c av).some m
def g9(b:Y eb):Y X:=y1 (nx b) (U b)<|cM (U b) ae
def aiV(b:Y eb):U (g9 b)=U b:=by
 unfold g9 y1;have e:∀(B:Z)(c:Y _),U (xk (nx b) (U b) B c)=U c:=by
  intro B
  induction B with|zero=>intro c;rfl|succ B d=>grind[xk,Tv]
 simp_all
def adn{c:Z->Y X->X}{b:Y X}:hc c b 0=b:=aa
def ate{c:Z->Y X->X}{d:Y X}{b:Z}(e:¬(y (hc c d b) b ag=ae/\c b (hc c d b))):hc c d (b+1)=hc c d b:=by rw[hc,ad e]
def atZ{b:Y eb}{c:Z}(d:c<U b):(ab j_ b)[c]?=W (h5 (y b c av) (ip (y b c av).iI) (.al 1 ((y b c av).eL.map gI)) (.al 3 ((y b c av).dG.map fw))):=eZ d
def anW{b:Y eb}{c:Z}(d:c<U b):y b c av=b[c]:=aq
attribute [local irreducible] h5 eb.ht eb.kb eb.plain y1 hc
def aiX(c:Y eb)(A:L)(F:∀J∈c,Ky (U c) J)(S:U c<=1000000):dF 212 [b 6000] [(6000,ah 270 (b2 [.a 6001 0 (U (ab j_ c)),an aj A])),(6001,.j 14 278 (ab j_ c))] (.al 1 (ab bE (g9 c))) [(6000,ah 270 (b2 [.a 6001 0 (U (ab j_ c)),an aj A])),(6001,.j 14 278 (ab j_ c))]:=by
 refine c4 func212 [] λam p M=>?_;have t:U (ab j_ c)=U c:=bm ..;refine kS (U c) (U c) (ab bE<|cM (U c) ae) ?_ (k:=ea nb t) (lR:=ea nb t) (aU:=wP);refine c8 (Y X×X) (λe=>⟨[(0,b 6000),(3,.a 12 0<|U c),(4,aV e.2)],[(12,.j 1 4<|ab bE e.1),(6001,.j 14 278<|ab j_ c),(6000,ah 270<|b2 [.a 6001 0 (U<|ab j_ c),an aj A])],[]⟩) (λe=>U e.1=U c/\(e.2=ag->y1 (nx c) (U c) e.1=g9 c)/\(e.2=ae->e.1=g9 c)) (λe=>2*uK e.1+(if e.2 then 1 else 0)) (cM (U c) ae,ag) (λ⟨d,w⟩ ⟨I,T,G⟩=>?_) ⟨wK,λ_=>aa,λo=>by cases o⟩;apply f<;>intro x
 .refine c8 (Z×Y X×X) (λE=>⟨[(0,b 6000),(3,.a 12 0<|U c),(4,aV E.2.2),(18,l<|U<|ab j_ c),(19,l E.1)],[(12,.j 1 4<|ab bE E.2.1),(6001,.j 14 278<|ab j_ c),(6000,ah 270<|b2 [.a 6001 0 (U<|ab j_ c),an aj A])],[]⟩) (λE=>E.1<=U c/\E.2.1=hc (nx c) d E.1/\E.2.2=aH (hc (nx c) d E.1≠d)) (λE=>U c-E.1) (0,d,ae) (λ⟨D,ak,s⟩ v=>?_) ⟨dJ _,bQ<|adn,by simp[adn]⟩ ⟨⟨ba,ba,aa,ba,ba,b5⟩,⟨ba,ba,ba,b5⟩,aa,aa⟩;dsimp only at v⊢;obtain⟨k,rfl,O⟩:=v;have r:U (hc (nx c) d D)=U c:=by rw[Tv];exact I
  have u:U (ab bE (hc (nx c) d D))=U c:=by rw[bm];exact r
  apply f<;>intro N
  .have C:D<U c:=q;have i:D<U (ab j_ c):=q;have h:=F (y c D av) aq;have n:=atZ C;refine cE D ?_ (k:=i);refine cE D ?_;refine fl (bE<|y (hc (nx c) d D) D ag) ?_ (k:=aby q);apply cL;intro P;refine kn ?_ (g:=eN.Dz (awY (y c D av) h.dR) n) (xn:=.cons (.j aa i) .nil);apply cy;intro Q;refine kn ?_ (g:=eN.Dz (aa1 (y c D av) (λ_=>aa) (hc (nx c) d D) (by rw[r];exact h.abc) h.ew) n) (xn:=.cons (.j aa i)<|.cons (.al aa<|bQ u) .nil);exact aa;apply cy;intro R;refine kn ?_ (g:=eN.Dz (acA (y c D av) (λ_=>aa) (hc (nx c) d D) h.X2 (by rw[r];exact h.fd)) n) (xn:=.cons (.j aa i)<|.cons (.al aa<|bQ u) .nil);exact aa;exact aa;apply f<;>intro z
   .have m:=atd (sm:=nx c) (H:=d) (D:=D) aq (by simp_all[nx,eb.some,sf]);refine cE D ?_;refine fF (ab bE<|aR (hc (nx c) d D) D ag) (bE<|y (hc (nx c) d D) D ag) (bE ag) ?_ (k:=aby q) (aU:=ao);refine aY ?_;exact a4 (D+1,aR (hc (nx c) d D) D ag,ag) ⟨q,bQ m.1,aK⟩ q
   have m:hc (nx c) d (D+1)=hc (nx c) d D:=ate λK=>z ⟨aq,by simp_all[nx,eb.some,sf]⟩;refine aY ?_;exact a4 (D+1,hc (nx c) d D,s) ⟨q,bQ m,aq⟩ q
  obtain rfl:D=U c:=q;exact a4 (hc (nx c) d<|U c,s) ⟨q,λo=>by
   grind[ann],λo=>by grind[ano]⟩ (by grind[IC,nx])
 have B:w=ae:=by simpa using x
 rw[<-G B];exact yW (aC:=ab bE d) 12 (U c) bi cJ
end
section
def zo(b:Y X)(J:eb):eb:=if J.list/\J.ht b=ae then{J with list:=ae,eL:=[],item:=-1,min:=0,max:=0} else J
def NF(b:Y X)(J:eb):eb:=if J.p7/\J.kb b=ae then{J with p7:=ae,dG:=[],rest:=-1} else J
def adF(b:Y X)(J:eb):eb:=NF b<|zo b J
def HB(b:Y X)(J:eb):V:=if J.list/\J.ht b=ae then .bo else .al 1 (ab gI J.eL)
def YK(b:Y X)(J:eb):V:=if(zo b J).p7/\(zo b J).kb b=ae then .bo else .al 3 (ab fw J.dG)
def yV(b:Y X)(J:eb):V:=h5 (adF b J) (ip J.iI) (HB b J)<|YK b J
def lh(d:Y X)(b:Y eb)(c:Z):Y V:=ab (yV d) (am c b)++ab j_ (ay c b)
def atO(c:Y X)(b:Y eb)(d:Z):U (lh c b d)=U b:=by(simp[lh,cd,bm,nD,B2];omega)
def atN{d:Y X}{c:Y eb}{b:Z}(e:b<U c):(lh d c b)[b]?=W (j_ (y c b av)):=by unfold lh<;>grind
def atP(d:Y X){c:Y eb}{b:Z}(e:b<U c):aR (lh d c b) b (yV d (y c b av))=lh d c (b+1):=by
 have f:U (ab (yV d) (am b c))=b:=by rw[bm,nD];omega
 unfold lh;rw[z0 _ _ q,f,oX,l3 e,ia,J0,J1,cT e,dc,anW e,eS];rfl
def atM(c:Y X)(b:Y eb):lh c b (U b)=ab (yV c) b:=by simp[lh,iJ,U_,rk,gv]
def adG{b:Y X}{J:eb}(c:J.list/\J.ht b=ae):zo b J={J with list:=ae,eL:=[],item:=-1,min:=0,max:=0}:=af c
def atK{b:Y X}{J:eb}(c:¬(J.list=ag/\J.ht b=ae)):zo b J=J:=ad c
def adH{b:Y X}{J:eb}(c:J.p7/\J.kb b=ae):NF b J={J with p7:=ae,dG:=[],rest:=-1}:=af c
def atL{b:Y X}{J:eb}(c:¬(J.p7=ag/\J.kb b=ae)):NF b J=J:=ad c
def atJ(b:Y X)(J:eb):(zo b J).dG=J.dG/\(zo b J).p7=J.p7:=by unfold zo<;>grind
def awj{e:Type}{b:Y e}{c:Z}{d:e}(f:b[c]?=W d):b=aR b c d:=by refine jn λg=>?_;grind
def DD{c:Y V}{b:Z}(d:b<U c){T:V}:(aR c b T)[b]?=W T:=aq
attribute [local irreducible] eb.ht eb.kb lh g9 ip
def atY(c:Y eb)(A:L)(R:Z)(Q:R=U c)(K:∀J∈c,Ky (U c) J)(N:U c<=1000000):dF 163 [b 6000] [(6000,ah 270 (b2 [.a 6001 0 R,an aj A])),(6001,.j 14 278 (ab j_ c))] (.al 1 (ab bE (g9 c))) [(6000,ah 270 (b2 [.a 6001 0 R,an aj A])),(6001,.j 14 278 (ab (yV (g9 c)) c))]:=by
 refine c4 func163 [31] λaw p ak=>?_;have P:U (ab j_ c)=U c:=bm ..;have D:=aiV c;refine bG [(6000,6000),(6001,6001)] ?_ (g:=b0 Q (bQ P)▸aiX c A K N);refine e9 (U c) (λd=>⟨[(0,b 6000),(3,.al 1<|ab bE<|g9 c),(12,l R),(13,l d)],[(6001,.j 14 278<|lh (g9 c) c d),(6000,ah 270<|b2 [.a 6001 0 R,an aj A])],[]⟩) λd k=>?_;apply f<;>intro am
 .have I:d<U c:=q;have au:U (lh (g9 c) c d)=U c:=by rw[atO]
  have i:d<U (lh (g9 c) c d):=q;have s:=K (y c d av) aq;have r:(lh (g9 c) c d)[d]?=W (j_ (y c d av)):=atN I;have v:=atP (g9 c) I;obtain⟨J,S⟩:∃J,y c d av=J:=⟨_,aa⟩;rw[S] at s r v;have B:=atJ (g9 c) J;obtain⟨e,t⟩:∃e,zo (g9 c) J=e:=⟨_,aa⟩;obtain⟨o,w⟩:∃o,NF (g9 c) e=o:=⟨_,aa⟩;obtain⟨h,x⟩:∃h,HB (g9 c) J=h:=⟨_,aa⟩;obtain⟨m,H⟩:∃m,YK (g9 c) J=m:=⟨_,aa⟩;rw[show yV (g9 c) J=h5 o (ip J.iI) h m by grind[yV,adF]] at v;rw[t] at B;refine cE d ?_ (k:=q);refine gZ (Y V) (λE=>⟨[(0,b 6000),(3,.al 1<|ab bE<|g9 c),(5,.dC 6001 d 0),(12,l R),(13,l d)],[(6001,.j 14 278 E),(6000,ah 270<|b2 [.a 6001 0 R,an aj A])],[]⟩) (λE=>E=aR (lh (g9 c) c d) d (h5 e (ip J.iI) h<|.al 3<|ab fw J.dG)) ?_ λE X=>?_
  .refine fl (j_ J) ?_ (k:=r);apply cL;intro ap;refine kn ?_ (g:=eN.Dz (aa1 J (λ_=>aa) (g9 c) (by rw[D];exact s.abc) s.ew) r) (xn:=.cons (.j aa i)<|.cons (.pl aa) .nil);exact aa;apply f<;>intro F
   .have n:J.list/\J.ht (g9 c)=ae:=⟨F.1,aq⟩;refine fF (aR (lh (g9 c) c d) d<|h5 {J with list:=ae} (ip J.iI) (.al 1<|ab gI J.eL)<|.al 3<|ab fw J.dG) (j_ J) _ ?_ (k:=r);refine fF (aR (lh (g9 c) c d) d<|h5 {J with list:=ae} (ip J.iI) .bo<|.al 3<|ab fw J.dG) (h5 {J with list:=ae} (ip J.iI) (.al 1<|ab gI J.eL) (.al 3<|ab fw J.dG)) _ ?_ (k:=DD i) (aU:=B4 ..);refine fF (aR (lh (g9 c) c d) d<|h5 {J with list:=ae,item:=-1} (ip J.iI) .bo<|.al 3<|ab fw J.dG) (h5 {J with list:=ae} (ip J.iI) .bo (.al 3<|ab fw J.dG)) _ ?_ (k:=DD i) (aU:=B4 ..);refine fF (aR (lh (g9 c) c d) d<|h5 {J with list:=ae,item:=-1,min:=0} (ip J.iI) .bo<|.al 3<|ab fw J.dG) (h5 {J with list:=ae,item:=-1} (ip J.iI) .bo (.al 3<|ab fw J.dG)) _ ?_ (k:=DD i) (aU:=B4 ..);refine fF (aR (lh (g9 c) c d) d<|h5 e (ip J.iI) h<|.al 3<|ab fw J.dG) (h5 {J with list:=ae,item:=-1,min:=0} (ip J.iI) .bo<|.al 3<|ab fw J.dG) (h5 e (ip J.iI) h (.al 3<|ab fw J.dG)) ?_ (k:=DD i) (Rl:=by rw[<-t,<-x,adG n,show HB (g9 c) J=.bo from af n];rfl) (Rp:=by rw[<-t,<-x,adG n,show HB (g9 c) J=.bo from af n];rfl) (aU:=B4 ..);exact dn (aR (lh (g9 c) c d) d<|h5 e (ip J.iI) h<|.al 3<|ab fw J.dG) aa
   have n:¬(J.list=ag/\J.ht (g9 c)=ae):=λC=>F ⟨C.1,aq⟩;exact dn (lh (g9 c) c d) (by rw[<-t,<-x,atK n,show HB (g9 c) J=.al 1 (ab gI J.eL) from ad n];exact awj r)
  obtain rfl:=X;have z:=DD i (T:=h5 e (ip J.iI) h<|.al 3<|ab fw J.dG);have O:d<U (aR (lh (g9 c) c d) d (h5 e (ip J.iI) h (.al 3 (ab fw J.dG)))):=by rw[nC];exact i
  refine fl (h5 e (ip J.iI) h<|.al 3<|ab fw J.dG) ?_ (k:=z);apply cL;intro ar;refine kn ?_ (g:=eN.Dz (acA e (λ_=>aK) (g9 c) (by rw[B.1];exact s.X2) (by rw[B.1,D];exact s.fd)) z) (xn:=.cons (.j aa O)<|.cons (.pl aa) .nil);exact aa;apply f<;>intro G
  .have u:e.p7/\e.kb (g9 c)=ae:=⟨G.1,aq⟩;have M:m=.bo:=by rw[<-H];exact af aq
   refine fF (aR (lh (g9 c) c d) d<|h5 {e with p7:=ae} (ip J.iI) h<|.al 3<|ab fw J.dG) (h5 e (ip J.iI) h (.al 3<|ab fw J.dG)) _ ?_ (k:=z) (aU:=B4 ..);refine fF (aR (lh (g9 c) c d) d<|h5 {e with p7:=ae} (ip J.iI) h .bo) (h5 {e with p7:=ae} (ip J.iI) h (.al 3<|ab fw J.dG)) _ ?_ (k:=DD i) (aU:=B4 ..);refine fF (aR (lh (g9 c) c d) d<|h5 o (ip J.iI) h m) (h5 {e with p7:=ae} (ip J.iI) h .bo) (h5 o (ip J.iI) h m) ?_ (k:=DD i) (Rl:=by rw[<-w,adH u,M];rfl) (Rp:=by rw[<-w,adH u,M];rfl) (aU:=B4 ..);rw[v];refine aY ?_;exact a4<|d+1
  have u:¬(e.p7=ag/\e.kb (g9 c)=ae):=λC=>G ⟨C.1,aq⟩;rw[show h5 e (ip J.iI) h (.al 3 (ab fw J.dG))=h5 o (ip J.iI) h m by rw[<-w,atL u,<-H];congr 1;exact bQ<|ad aq,v];refine aY ?_;exact a4<|d+1
 obtain rfl:d=U c:=q;rw[atM];exact cJ
end
def ana{c:Y nM}{b:Z}(d:b<U c):(ab fw c)[b]?=W (fw (y c b av)):=eZ d
def anb{o:Type}(d:nM->o){c:Y nM}{b:Z}(e:b<U c):ab d (am (b+1) c)=ab d (am b c)++[d (y c b av)]:=by grind[rc,av]
theorem C2{c:Z->L}:∀{R:Z},nW c R=0->∀b,b<R->c b=0|0,_,b,k=>q|R+1,d,b,k=>by rw[nW] at d;split at d;omega;rename_i e;rcases hN b R with n|n;exact C2 (zQ e) b n;grind
def afq{b:qw}{J:gh}{R:L}(c:ii b J R=0):lY J=0/\ny b J=0/\mu J R=0/\p6 J R=0:=by unfold ii at c;omega
theorem axg{J:hq}(b:qi J=0):wx J/\oL (q8 J)=ae:=by unfold qi at b;split at b;omega;split at b;omega;simp_all[Om,zQ]
def acq{J:gh}(b:lY J=0):(0<=J.km/\J.km<=3)/\U J.dR<=20/\∀c∈J.dR,wx c/\oL (q8 c)=ae:=by unfold lY at b;split at b;cases b;split at b;cases b;refine⟨q,q,λc d=>?_⟩;obtain⟨e,k,rfl⟩:=m_.1 d;have:=C2 b e k;grind[axg]
section
noncomputable def qF(J:gh):eb:=⟨J.null,J.km,ui J.dR,if J.re then uX J.kd else ai,J.ht,if J.ht then J.eL else[],if J.ht then J.item else-1,if J.ht then J.min else 0,if J.ht then J.max else 0,J.kb,if J.kb then J.dG else[],if J.kb then J.rest else-1⟩
def UT:V:=b2 [aV ae,an aj 0,.bo,.bo,.bo,.ks,aV ae,.bo,an aj 0,an aj 0,an aj 0,aV ae,.bo,an aj 0]
noncomputable def CG(J:gh)(R:L):V:=if ii hv J R=0 then cv [j_ (qF J),an aj 0] else cv [UT,an aj<|ii hv J R]
def UR:V:=b2 [aV ae,an aj 0,.bo,.bo,.bo,.ks,aV ae,.bo,an aj 0,an aj 0,an aj 0,aV ae,.bo,an aj 0]
noncomputable def JD(J:gh)(f t:V)(e b c:L)(d:V)(A:L):V:=b2 [aV J.null,an aj J.km,.al 3<|(ui J.dR).x.map cm,.al 1<|(ui J.dR).on.map bE,.al 2<|(ui J.dR).hF.map hr,f,aV J.ht,t,an aj e,an aj b,an aj c,aV J.kb,d,an aj A]
def Ha{J:gh}{R b:L}(d:ii hv J R=b)(c:b≠0):CG J R=cv [UT,an aj b]:=by simp_all[CG,ad]
theorem agh{J:gh}(b:J.re):ny hv J=Bv J.kd:=by unfold ny Bv;rw[ad aq,af b];rfl
theorem axh{J:hq}(b:qi J=0):Small J.low.n/\Small J.high.n:=by unfold qi at b;have c:mh J.low=0:=pD λn=>q;have d:mh J.high=0:=pD λn=>q;simp_all[Om]
def arL{J:gh}(b:lY J=0):∀c∈J.dR,Small c.low.n/\Small c.high.n:=by unfold lY at b;split at b;cases b;split at b;cases b;intro c d;obtain⟨e,k,rfl⟩:=m_.1 d;have:=C2 b e k;grind[axh]
def ap3{S:Y C}:uX S=ai\/∃b,uX S=W (b,S):=by unfold uX<;>grind
attribute [local irreducible] ui uX Bv ii lY ny mu p6
def axR{J:gh}(c:J.re=ae)(b:J.kd≠[]):ny hv J=2:=by simp_all[ny,af]
def agi{J:gh}(b:¬(¬J.re/\¬J.kd=[]))(d:J.re->Bv J.kd=0):ny hv J=0:=by by_cases c:J.re;grind[agh];simp_all[ny,ad]
def XG{J:gh}{R:L}(f:ii hv J R=0){b c:X}(d:J.ht=b)(e:J.kb=c):CG J R=cv [JD J (ip (if J.re then uX J.kd else ai)) (bif b then .al 1 (ab gI J.eL) else .al 1 []) (bif b then J.item else-1) (bif b then J.min else 0) (bif b then J.max else 0) (bif c then .al 3 (ab fw J.dG) else .al 3 []) (bif c then J.rest else-1),an aj 0]:=by unfold CG;grind[j_,qF,h5,JD]
def alh(J:gh)(R:L)(Q:J.py):bh 162 [ha J,an aj R] (CG J R):=by
 refine bs func162 [42,70,2022,2027] λp aA=>?_;obtain⟨ar,au,aw,G,ax⟩:=id Q;refine aT ?_ (g:=akx J ar au);apply f<;>intro K
 .rw[Ha (F5 aa q) q];exact dj br
 have e:lY J=0:=by simpa using K
 obtain⟨ay,az,H⟩:=acq e;refine i4 ?_;apply f<;>intro A
 .have O:ny hv J=2:=axR aq aq;rw[Ha (Jb e O a2) a2];exact dj br
 refine a1.eK 1007 ZO.size 278 [] ai ?_;refine ei ?_;refine bw (λ_=>ch aa (g:=ayl J.dR (λap P=>(H ap P).1) (arL e) q)) ?_;refine DY 1007 7 ?_;refine fo ?_;refine fz ?_;have d:ip (if J.re then uX J.kd else ai)=.ks\/∃c,ip (if J.re then uX J.kd else ai)=ip (W (c,J.kd)):=by split;rcases ap3 (S:=J.kd) with s|⟨c,s⟩<;>rw[s];exact bj aa;exact bp ⟨c,aa⟩;exact bj aa
 rcases d with d|⟨c,d⟩;let m:V:=.ks
 rotate_left
 let m:V:=fN 5 [b2 [l c.start,.al 1<|ab bE c.acc,.al 1<|ab ca c.next,a8 J.kd,aV ag]] 0 0
 all_goals
  refine gZ j3 (λ_u=>⟨[(1,an aj R),(2,b 2),(4,b 4),(7,b 7)],[(2,ah 105<|ha J),(4,ah 278 UR),(7,ah 278<|JD J m .bo (-1) 0 0 .bo<|-1)],[]⟩) (λ_=>ny hv J=0) ?_ λ_u t=>?_
  .apply f<;>intro o;have F:=atC aw;have i:=d;rw[af (by simpa using o)] at i;rw[i] at F;refine aT ?_ (g:=F);apply f<;>intro u;rw[Ha (Jb e (agh (by simpa using o)) u) u];exact dj br;exact dn () (agi A λ_=>by simpa using u);have i:=d;rw[ad (by simpa using o)] at i
   first
    |cases i;done|exact dn ()<|agi A λs=>cg s (by simpa using o)
  refine aT ?_ (g:=akv J R G);apply f<;>intro M
  .rw[Ha (Ja e t aa q) q];exact dj br
  have E:mu J R=0:=by simpa using M
  refine aT ?_ (g:=aky J R ax);apply f<;>intro N
  .rw[Ha (DG e t E) q];exact dj br
  have dM:ii hv J R=0:=by rw[DG e t E];simpa using N
  refine a1.rF 1 7 [7] ?_;refine gZ (Y L×L×L×L) (λh=>⟨[(2,b 2),(4,b 4),(7,b 7)],[(2,ah 105<|ha J),(4,ah 278 UR),(7,ah 278<|JD J m (.al 1<|ab gI h.1) h.2.1 h.2.2.1 h.2.2.2 .bo<|-1)],[]⟩) (λh=>h=bif J.ht then(J.eL,J.item,J.min,J.max) else([], -1,0,0)) ?_ λ⟨X,T,Z,ak⟩ z=>?_
  .apply f<;>intro aB
   .refine ei ?_;refine bw (λ_=>ch aa (g:=Xi J.eL G)) ?_
    iterate 4 refine fo ?_
    refine fz ?_;exact dn (J.eL,J.item,J.min,J.max) aq
   exact dn ([], -1,0,0) aq
  obtain⟨n,w⟩:∃n,J.ht=n:=⟨_,aa⟩;rw[w] at z;apply f<;>intro C;have x:J.kb:=by simpa using C
  refine a1.eK 1720 3 330 [] (W (7,12)) ?_;refine dA ?_;refine e9 (U J.dG) (λB=>⟨[(4,b 4),(7,b 7),(90,.al 3<|ab fw J.dG),(91,l<|U<|ab fw J.dG),(92,l B)],[(1720,.j 3 330<|ab fw<|am B J.dG),(4,ah 278 UR),(7,ah 278<|JD J m (.al 1<|ab gI X) T Z ak (.a 1720 0<|U<|ab fw<|am B J.dG) J.rest)],[]⟩) (λB k=>?_) .r;apply f<;>intro aC;have D:B<U J.dG:=q;refine bB B (fw<|y J.dG B av) ?_ (k:=ana D);refine cp ?_ (hlen:=λI v=>by rw[eu.1 v];rfl);refine eB (ab fw<|am (B+1) J.dG) ?_ (gi:=.al aa aa aa aa λI v=>by rw[eu.1 v];rfl) (aU:=bQ<|anb fw D) (bl:=bi);refine aY ?_;exact a4<|B+1;obtain rfl:B=U J.dG:=q;rw[iJ];refine a1.h6 1720 ?_;cases n<;>cases z<;>(rw[XG dM w x,d];refine dA ?_;exact dj br);have x:J.kb=ae:=by simpa using C
  refine a1.rF 3 7 [12] ?_;cases n<;>cases z<;>(rw[XG dM w x,d];refine dA ?_;exact dj br)
end
section
noncomputable def pv(J:nO):Y eb:=ab qF J.cQ
noncomputable def LZ(J:nO):V:=fN 2 [b2 [.al 14 (ab (yV<|g9<|pv J)<|pv J),an aj J.root]] 0 0
noncomputable def ty(J:nO):V:=if iM hv J≠0 then cv [.ks,an aj<|iM hv J] else cv [LZ J,an aj 0]
structure aij(J:gh)(f_:L):Prop where
 eL:J.ht->U J.eL<=10/\∀T∈J.eL,0<=T/\T<f_
 item:J.ht->-1<=J.item/\J.item<f_
 aqM:J.ht->(0<=J.min/\J.min<=1000)/\(J.max=-1\/J.min<=J.max/\J.max<=1000)
 anr:J.kb->U J.dG<=30/\∀D,D<U J.dG->oz J.dG f_ (-1) D=0
 rest:J.kb->-1<=J.rest/\J.rest<f_
def ac3{R B:L}(b:¬lg R B):0<=B/\B<R:=by simp_all[lg,sf,kk]
def awz{J:gh}{c:L}(u:0<c)(p:ii hv J c=0):aij J c:=by
 obtain⟨s,t,b,o⟩:=afq p;have f:J.ht->(U J.eL<=10/\∀g∈J.eL,0<=g/\g<c)/\(-1<=J.item/\J.item<c)/\(0<=J.min/\J.min<=1000)/\(J.max=-1\/J.min<=J.max/\J.max<=1000):=λd=>by unfold mu at b;rw[ad aq] at b;split at b;cases b;split at b;cases b;split at b;cases b;rename_i r l m;refine⟨⟨q,λg v=>ac3 λn=>l aq⟩,?_,⟨q,q⟩,?_⟩;by_cases k:J.item=-1;omega;have:=ac3 λn=>m<|bj<|bj<|bj ⟨k,n⟩;omega;omega
 have h:J.kb->(U J.dG<=30/\∀i,i<U J.dG->oz J.dG c (-1) i=0)/\-1<=J.rest/\J.rest<c:=λe=>by unfold p6 at o;grind[tF,C2]
 exact⟨λd=>(f d).1,λd=>(f d).2.1,λd=>(f d).2.2,λe=>(h e).1,λe=>(h e).2⟩
def anq{c:Y nM}{R:L}{b:Z}(e:b<U c)(d:oz c R (-1) b=0):x9 c[b].name=0/\(-1<=c[b].shape/\c[b].shape<R)/\(c[b].Bo=ag->0<=c[b].shape):=by unfold oz at d<;>grind
def akb{J:gh}{d:Z}(z:0<d)(m:J.py)(f:ii hv J d=0):Ky d (qF J):=by
 have c:=awz q f;obtain⟨p,r,g⟩:=acq (afq f).1;obtain⟨A,C,D,E,F⟩:=m;refine⟨(agG (λo l=>(g o l).1) q).1,λb=>?_,?_,?_,λh e hm=>?_⟩;have b:J.ht:=b;obtain⟨s,t⟩:=c.eL b;have u:=c.item b;have v:=(c.aqM b).1;refine⟨by show 0<=(if J.ht then J.min else 0);omega,λB=>?_⟩;have he:(qF J).elem B=if B<U J.eL then y J.eL B 0 else J.item:=by show(if B<U (if J.ht then J.eL else[]) then y (if J.ht then J.eL else[]) B 0 else(if J.ht then J.item else-1))=_;rw[af b,af b]
 grind[dL];show U (if J.ht then J.eL else[])<=_;grind;show U (if J.kb then J.dG else[])<=_;grind;change h∈(if J.kb then J.dG else[]) at e;split at e;rename_i i;obtain⟨n,k,rfl⟩:=m_.1 e;obtain⟨_,w,x⟩:=anq k ((c.anr i).2 n k)<;>simp_all;trivial
def alG(J:gh)(R:L)(g:J.py):ii hv J R≠0/\bh 162 [ha J,an aj R] (cv [UT,an aj (ii hv J R)])\/ii hv J R=0/\(qF J).iI=ai/\bh 162 [ha J,an aj R] (cv [h5 (qF J) .ks (.al 1 ((qF J).eL.map gI)) (.al 3 ((qF J).dG.map fw)),an aj 0])\/ii hv J R=0/\∃c d,(qF J).iI=W (c,d)/\bh 162 [ha J,an aj R] (cv [h5 (qF J) (ip (W (c,d))) (.al 1 ((qF J).eL.map gI)) (.al 3 ((qF J).dG.map fw)),an aj 0]):=by
 have b:=alh J R g;unfold CG at b;split at b;rename_i e;unfold j_ at b;cases f:(qF J).iI with|none=>rw[f] at b;exact bp (bj ⟨e,aa,b⟩)|some h=>grind
 simp_all
def awB{J:nO}(b:iM hv J=0)(g:J.py):∀d∈pv J,Ky (U (pv J)) d:=λd f=>by obtain⟨h,c,rfl⟩:=dI.1 f;have e:U (pv J)=U J.cQ:=bm ..;rw[e];refine akb (O8 c) (g.1 h c) ?_;unfold iM at b;split at b;cases b;split at b;cases b;obtain⟨i,k,rfl⟩:=m_.1 c;grind[C2,L0]
attribute [local irreducible] qF ii CG iM ui
def XB(J:nO)(aX:J.py):bh 122 [nj J] (ty J):=by
 refine bs func122 [2008] λp C=>?_;have e:U (ab ha J.cQ)=U J.cQ:=bm ..;have H:U (pv J)=U J.cQ:=bm ..;apply f<;>intro G
 .have d:iM hv J=13:=by unfold iM;rw[af q]
  rw[show ty J=cv [.ks,an aj 13] by simp_all[ty,af]];exact aL
 apply f<;>intro D
 .have d:iM hv J=3:=by unfold iM;rw[ad q,af q]
  rw[show ty J=cv [.ks,an aj 3] by simp_all[ty,af]];exact aL
 refine gu ?_;apply f<;>intro E
 .have d:iM hv J=9:=by unfold iM;rw[ad q,ad q,af (by(simp[lg,sf,kk];omega))]
  rw[show ty J=cv [.ks,an aj 9] by simp_all[ty,af]];exact aL
 have r:¬U J.cQ=0:=q;have s:¬60<U J.cQ:=q;have t:¬lg (U J.cQ) J.root:=by unfold lg;rw[sf,kk,kk];omega
 have m:iM hv J=nW (λc=>ii hv (y J.cQ c av)<|U J.cQ) (U J.cQ):=by unfold iM;rw[ad r,ad s,ad t]
 refine a1.eK 1730 14 278 [] (W (34,0)) ?_;refine dA ?_;refine gN (U J.cQ) (λc=>nW (λc=>ii hv (y J.cQ c av)<|U J.cQ) c=0) (λc=>⟨[(1,b 1),(4,b 34),(36,.al 13<|ab ha J.cQ),(37,l<|U<|ab ha J.cQ),(38,l c)],[(1730,.j 14 278<|ab j_<|am c<|pv J),(1,ah 81<|nj J),(34,ah 270<|b2 [.a 1730 0 (U<|ab j_<|am c<|pv J),an aj J.root])],[]⟩) (λc k=>?_) aa;apply f<;>intro F
 .have n:c<U J.cQ:=q;have z:=alG (y J.cQ c av) ((U (ab ha J.cQ):Z):L)<|aX.1 _ aq;have o:=Oz j_ av (show c<U (pv J) by omega);rw[show y (pv J) c av=qF (y J.cQ c av) by grind[pv,List.getElem?_eq_getElem,L0]] at o;refine bB c (ha<|y J.cQ c av) ?_ (k:=eZ n);rcases z with⟨dM,g⟩|⟨dM,h,g⟩|⟨dM,B,K,h,g⟩
  .skip
   refine aT ?_ (g:=g);apply f<;>intro w
   .have v:¬ii hv (y J.cQ c av) (U J.cQ)=0:=by rw[<-e];exact dM
    have d:iM hv J=ii hv (y J.cQ c av) ((U (ab ha J.cQ):Z):L):=by rw[m,Hv k.2 v _ n,e]
    rw[show ty J=cv [.ks,an aj (ii hv (y J.cQ c av) ((U (ab ha J.cQ):Z):L))] by simp_all[ty,af]];exact aL
   omega
  all_goals
   have u:ii hv (y J.cQ c av) (U J.cQ)=0:=by rw[<-e];exact dM
   refine aT ?_ (g:=g);apply f<;>intro w
   .omega
   refine ei ?_;refine bw (λ_=>kr aa) ?_;refine qm ?_;refine jY 60 (ab j_<|am (c+1)<|pv J) ?_ (aX:=ba) (gi:=.al aa aa aa aa λI A=>by rw[eu.1 A];rfl) (aU:=by rw[<-o];unfold j_;rw[h];rfl) (bl:=bi);refine qm ?_;refine fo ?_;refine jz [(60,1730)] ?_;refine aY ?_;exact a4 (c+1) ⟨q,EY k.2 u⟩
 obtain rfl:c=U J.cQ:=q;have x:iM hv J=0:=by rw[m];exact k.2
 rw[kC (i:=U J.cQ) (l:=pv J) q];refine bG [(6000,34),(6001,1730)] ?_ (g:=atY (pv J) J.root (U<|ab j_<|pv J) (bm ..) (awB x aX) q);rw[show ty J=cv [LZ J,an aj 0] by(simp[ty,ad];omega)];exact yW 1730 (U<|ab j_<|pv J) (show U (ab (yV (g9 (pv J))) (pv J))=_ by simp)<|QS 34 2 aL
end
def av1{J:nO}(d:J.py)(c:iM hv J≠0):bh 94 [nj J] (cv [b2 [.ks],an aj (iM hv J)]):=by have b:=XB J d;unfold ty at b;rw[af c] at b;refine bs func94 [] λp e=>?_;refine aT ?_ (g:=b);exact dj br
def av2{J:nO}(c:J.py)(e:iM hv J=0):bh 94 [nj J] (cv [b2 [LZ J],an aj 0]):=by have b:=XB J c;unfold ty at b;rw[ad q] at b;refine bs func94 [] λp d=>?_;refine aT ?_ (g:=b);exact dj br
def aon(J:Y C):A5 J=!Ay ag J:=by rcases J with _|⟨b,J⟩;rfl;simp[Ay]
def awI(b c:Y C):aH (oH b=oH c)=vc ag b c:=by grind[vc]
def asP(J:eT)(bA:J.ok)(t:Cm):iL bL fT 61 [b 6000] [] [(6000,ah 126 (t.e J .bo .bo .bo))] (λ_:Y k4×Y k4×Y V=>dW) (λ_=>an aj<|iN<|yd J) (λ_=>[]) (λn=>[(6000,ah 126<|t.e J (.al 6<|ab pg n.1) (.al 6<|ab pg n.2.1)<|.al 1 n.2.2)]):=by
 obtain⟨A,c⟩:∃A,iN (yd J)=A:=⟨_,aa⟩;rw[c];rw[yd,kh,kh,kh,na] at c;refine iL.of_wp (K:=hX) [] gm br h7 ⟨func61,ba,aa⟩ aa aa aa λH p z B=>?_;let E:kE bL hX p fT _ []:=⟨gm,br,z,h7,B⟩;refine gG [] (λ_=>[]) [] (λm _=>?_) (g:=adb ae _ _ ⟨cb⟩ ⟨cb⟩ id (λJ _=>anO J) (λJ _=>av5 J) (λn C=>by simp[vc]) J.query bA.query) (kN:=gF _) (kM:=λ_ _=>gF _);apply f<;>intro u;rw[jg u] at c;exact fQ 6 6000 [37] (fQ 1 6000 [38] (ec (m,[],[]) b5 (s:=by rw[<-c];rfl)));rw[jf u] at c;refine gG [] (λ_=>[]) [] (λs _=>?_) (g:=adb ag _ _ ⟨cb⟩ ⟨cb⟩ oH (λJ bA=>aon J▸ZC J bA.le) (λJ bA=>(Ft J bA.le).2.1) awI J.head bA.head) (kN:=gF _) (kM:=λ_ _=>gF _);apply f<;>intro v;rw[jg v] at c;exact fQ 1 6000 [38] (ec (m,s,[]) b5 (s:=by rw[<-c];rfl));rw[jf v] at c;apply f<;>intro w;rw[sB w a2] at c;exact fQ 1 6000 [38] (ec (m,s,[]) b5 (s:=by rw[<-c];rfl));rw[sA w] at c;refine a1.eK 1005 1 163 [] (W (6000,38)) ?_;have c:iN (ab (iM hv) (ay 0 J.body)++[])=A:=by rw[gv];exact c
 refine c8 (Z×Y V) (λd=>⟨[(0,b 6000),(51,.al 2<|ab nj J.body),(52,_),(53,l d.1)],[(6000,ah 126<|t.e J (.al 6<|ab pg m) (.al 6<|ab pg s)<|.a 1005 0<|U d.2),(1005,.j 1 163 d.2)],[]⟩) (λd=>(d.1<=U J.body/\U d.2<=d.1)/\iN (ab (iM hv) (ay d.1 J.body)++[])=A) (λd=>U J.body-d.1) (0,[]) (λ⟨i,M⟩ k=>?_) ⟨⟨dJ _,dJ _⟩,c⟩ .r;obtain⟨⟨F,G⟩,h⟩:=k;apply f<;>intro D;have aM:i<U J.body:=q;rw[C6 aM] at h;have aX:=bA.body.2 _<|ka aM;refine bB i (nj<|y J.body i av) ?_ (k:=eZ aM);by_cases o:iM hv (y J.body i av)=0;refine aT ?_ (g:=av2 aX o);rw[jf q] at h;apply f<;>intro x;omega;refine ei ?_;refine bw (λ_=>kr aa) ?_;refine jY 72 (M++[b2 [LZ (y J.body i av)]]) ?_ (bl:=aK) (k_:=ba) (sL:=ba);refine fo ?_;refine jz [(72,1005)] ?_;refine aY ?_;refine a4 (i+1,_) ?_ (bA:=.r)
 (simp_all;omega)
 refine aT ?_ (g:=av1 aX o);rw[jg o] at h;apply f<;>intro x;exact gq 1005<|ec (m,s,M) b5 (s:=by rw[<-h];rfl);omega;rw[C7 q] at h;exact gq 1005<|ec (m,s,M) b5 (s:=by rw[<-h];rfl)
section
open Go.Shelf Go.RowKit Go.Lib
theorem anZ{J:kZ}{c:Z}{b:C}(d:(a0 J.data)[c]?=W b):J.get! c=b:=by grind[List.getElem?_eq_some_iff,Lib.size_eq,Lib.data_getElem?,get_at]
def al4(J:kZ)(d:Z)(l:d<gD J)(n:128<=ax (J[d]'l)):d+(sp J d).2<=gD J/\∀(b:Z) c,d<=b->b<d+(sp J d).2->(a0 J.data)[b]?=W c->128<=ax c:=by
 have g:∀(b:Z) c,(a0 J.data)[b]?=W c->b=d->128<=ax c:=λb c aM f=>by grind[Lib.data_getElem?]
 have e:∀(B b:Z) c,(a0 J.data)[b]?=W c->b=d+B->ax (J.get! (d+B))/64=2->128<=ax c:=λB b c aM f h=>by grind[anZ]
 simp only[sp,q,Pv]
 repeat' split
 all_goals simp_all
 all_goals (refine⟨q,λb c m h aM=>?_⟩)
 all_goals (rcases hN b (d+1) with i|i)
 all_goals (try exact g b c aM q)
 all_goals (rcases hN b (d+2) with k|k)
 all_goals (try exact e 1 b c aM q q)
 all_goals (try exact e 2 b c aM q q)
 grind
def ao8(b:Y C)(n:C)(f:∀c∈b,ax c<128)(h:128<=ax n):eG b n=-1:=by have g:=Lib.indexByte_ge b n;by_cases d:eG b n=-1;exact d;obtain⟨M,e⟩:∃M:Z,eG b n=M:=⟨aG<|eG b n,q⟩;have:=f n<|dY (Lib.indexByte_some e).1;omega
def ays(A:L):Lib.validRune A=Utf8.valid A:=by rw[validRune_eq];rfl
def Tryz.aoX(J:kZ)(v:∀g∈a0 J.data,ax g<128)(ar:gD J<4294967281)(A:L)(B:128<=A)(R:A<=2147483647)(E:bI):ln bL 216 #[jO J,cN .i32 A] E λf p=>f=lo (cN aj<|-1)/\Below (a9 E.heap) E p:=by
 have r:Aside (∀g∈a0 J.data,ax g<128):=v;have O:aH ((0:L)<=A):=oY q;clear v;by_cases s:A=65533
 .subst s
  go_enter func216,Tryz.ntmps216
  go_wp2
  go_loopg [5,6] (gD J) (λm _ _ t=>∃e:Z,e+m=gD J/\t=E.iter J e)
  case atStart=>simp
  case round=>
   obtain⟨e,X,rfl⟩:=hrel;cases gk with
   |zero=>
    obtain rfl:e=gD J:=q;have w:=run_next_end (P:=bL) E J (gD J)
    go_wp2
    go_ret
    exact⟨aa,((Ef _ _).alloc (bv _) _)⟩|succ m=>
    have k:e<gD J:=q;obtain⟨d,i⟩:∃d:C,J[e]'k=d:=⟨_,aa⟩;have K:ax d<128:=by have:=r.out d (by rw[<-i];exact dY<|Lib.data_getElem? J e k);exact this
    have w:=λM=>run_next_ascii (P:=bL) E J e M k aK;rw[i] at w;clear i
    go_wp2
    go_roundg m
    case measure=>omega
    grind
 .have Q:(A==(65533:L))=ae:=ah1.2 s;clear s;by_cases o:Lib.validRune A
  .have H:Utf8.valid A:=by rw[<-ays];exact o
   obtain⟨y,z,l⟩:=encode_facts A H B;obtain⟨c,x⟩:∃c,Utf8.encode A=c:=⟨_,aa⟩;rw[x] at y z l;have u:=l q;obtain⟨b,S⟩:∃b,gD c=b+1:=⟨gD c-1,q⟩;have T:(gD c:L)-1=(b:L):=q;have Y:(b:L)<(gD c:L):=q;have F:b<gD c:=q;obtain⟨n,G⟩:∃n:C,c[b]'F=n:=⟨_,aa⟩;have u:128<=ax n:=by have:=l q;have f:gD c-1=b:=q;simp only[f] at this;rwa [G] at this
   clear l;have U:∀E:bI,ce bL (convert 21 9 (cN .i32 A)) E=ct (jO c) E:=λE=>by(simp[run_convert_int_string];omega)
   clear x
   go_enter func216,Tryz.ntmps216
   go_wp2_with (go_at_call 110;refine iK (Any.utf8_ValidRune Tryz.R8 _ _) ?_;rintro f p ⟨rfl,h⟩;rw[h,o])
   go_step3
   go_wp2
   go_loopg [9,10,11,12] 1 (λm N _ _ _ t=>N=cN aj (b:L)/\t=E)
   case atStart=>trivial
   case round=>
    obtain⟨rfl,rfl⟩:=hrel;by_cases ak:(b:L)<(gD J:L)
    focus
     have k:b<gD J:=q;obtain⟨d,i⟩:∃d:C,J[b]'k=d:=⟨_,aa⟩;have K:ax d<128:=r.out d (by rw[<-i];exact dY<|Lib.data_getElem? J _ k)
     go_wp2
     go_step3
     go_wp2_with fail
     go_region
     have au:hf IntKind.i64 ((b:L)+1)=(b:L)+1:=wrap_small _ q q;have am:(0:L)<=(b:L)+1:=q;have ap:(b:L)+1<=(gD J:L):=q;have aq:aG ((b:L)+1)=b+1:=q;have D:eG (J.extract (b+1) (gD J)).data.toList ((ax n:L)).toNat.toUInt8=-1:=by rw[show((ax n:L)).toNat.toUInt8=n by simp];exact ao8 _ _ (λg aM=>r.out g<|mem_extract aM) u
     go_wp2_with fail
     go_region_with (go_at_call 272;refine iK (Any.strings_IndexByte Tryz.ay9 _ _ _) ?_;rintro f p ⟨rfl,h⟩;rw[h,D])
     go_wp2
     simp only[Exit.noGoto,Exit.inBlock,Exit.then]
     go_ret
     exact⟨aa,((Ef _ _).drew).drew⟩
    go_wp2
    go_ret
    exact⟨aa,Ef _ _⟩
  have I:Lib.validRune A=ae:=by simpa using o
  clear o
  go_enter func216,Tryz.ntmps216
  go_wp2_with (go_at_call 110;refine iK (Any.utf8_ValidRune Tryz.R8 _ _) ?_;rintro f p ⟨rfl,h⟩;rw[h,I])
  go_ret
  exact⟨aa,Ef _ _⟩
def x4(E:bI)(b:Z)(J:kZ)(c:Z):bI:={E with heap:=nG E.heap b (.stringIter J c)}
def avM{P:bn}(E:bI)(c:Z)(J:kZ)(b:Z)(e:aw)(aM:E.heap[c]?=W (.stringIter J b))(d:b<gD J):ce P (Instr.next (ib (W ⟨c,0,ai⟩)) ag e) E=ct (o1 #[hA ag,cN aj b,cN .i32 (sp J b).1]) (x4 E c J (b+(sp J b).2)):=by simp only[Instr.next,getObj,setObj,Sem.run_bind,ce,aM,Result.andThen,d,GD];rfl
def avN{P:bn}(E:bI)(b:Z)(J:kZ)(c:Z)(e:aw)(aM:E.heap[b]?=W (.stringIter J c))(d:¬c<gD J):ce P (Instr.next (ib (W ⟨b,0,ai⟩)) ag e) E=ct (o1 #[hA ae]) E:=by simp[Instr.next,getObj,ce,aM,d]
def ae9{E:bI}{b:Z}{J:kZ}{c:Z}{M:Obj}(aM:E.heap[b]?=W M):(x4 E b J c).heap[b]?=W (.stringIter J c):=by grind[x4]
def Ua{e E:bI}{c d:Z}{J:kZ}{g:Z}(b:Below c e E)(aM:c<=d):Below c e (x4 E d J g):=⟨b.os,b.tape,b.output,by simpa[x4] using b.size,λB f=>by
 have:d≠B:=by omega
 simp[x4,Array.getElem?_setIfInBounds,ad this];exact b.block B f⟩
def Tryz.ao_(J c:kZ)(r:c=⟨#[123,125]⟩\/c=⟨#[32,123,125]⟩)(aB:gD J<=8)(E:bI):ln bL 165 #[jO J,jO c] E λh i=>h=lo (cN aj<|Lib.indexAny (a0 J.data)<|a0 c.data)/\Below (a9 E.heap) E i:=by
 have aA:2<=gD c:=by rcases r with rfl|rfl<;>decide
 have ap:gD c<4294967281:=by rcases r with rfl|rfl<;>decide
 have O:∀d∈a0 c.data,ax d<128:=by rcases r with rfl|rfl<;>decide
 have D:Aside (∀d∈a0 c.data,ax d<128):=O;clear r O;have aC:c.toList.isEmpty=ae:=by rw[Lib.toList_data];cases u:a0 c.data with|nil=>grind[Lib.size_eq,List.length_nil]|cons _ _=>rfl
 have aG:((gD c:L)==1)=ae:=ah1.2 q;have am:aH ((8:L)<(gD J:L))=ae:=Aa q
 go_enter func165,Tryz.ntmps165
 go_wp2_with (go_at_call 217;refine iK (Any.strings_shouldUseASCIISet {Tryz.aaK with} _ _) ?_;rintro h i ⟨rfl,g⟩;rw[g,am])
 go_loopg [9,10] (gD J) (λak _ _ T=>∃b:Z,ak=gD J-b/\T.heap[(a9 E.heap)]?=W (.stringIter J b)/\Below (a9 E.heap) E T/\Lib.NoAny (a0 J.data) (a0 c.data) b/\b<=gD J)
 case atStart=>exact⟨0,aa,World.iter_heap _ _ _,(Ef _ _).alloc (bv _) _,Lib.NoAny.zero _ _,dJ _⟩
 case round=>
  obtain⟨b,aE,m,N,S,aF⟩:=hrel;have p:Aside (Below (a9 E.heap) E wr):=N;have v:Aside (Lib.NoAny (a0 J.data) (a0 c.data) b):=S;have G:Aside (wr.heap[(a9 E.heap)]?=W (.stringIter J b)):=m;have av:=vp.1 m|>.1;clear S N;by_cases k:b<gD J
  .have t:=λA=>avM (P:=bL) wr (a9 E.heap) J b A m k;obtain⟨e,o⟩:∃e:C,J[b]'k=e:=⟨_,aa⟩;have x:(a0 J.data)[b]?=W e:=by rw[<-o];exact Lib.data_getElem? J b k
   by_cases aw:ax e<128
   .rw[decode_ascii J b k aK,o] at t;have H:Aside ((a0 J.data)[b]?=W e):=x;clear x o m;have l:=Lib.contains_iff_indexByte (a0 c.data) e;have M:((ax e:L)).toNat.toUInt8=e:=ao;cases s:j1 (a0 c.data) e
    .rw[s] at l;have av:¬((0:L)<=eG (a0 c.data) e):=Kk<|bQ l;clear l
     go_wp2_with (go_at_call 216;refine iK (Any.strings_IndexRune_ascii Tryz.aaJ _ _ _ q q) ?_;rintro h i ⟨rfl,g⟩;rw[g,M])
     go_roundg (gD J-(b+1))
     case measure=>omega
     case rel=>exact⟨b+1,aa,ae9 G.out,Ua p.out<|bv _,v.out.succ H.out s,q⟩
    rw[s] at l;have aD:(0:L)<=eG (a0 c.data) e:=pJ<|bQ l;clear l
    go_wp2_with (go_at_call 216;refine iK (Any.strings_IndexRune_ascii Tryz.aaJ _ _ _ q q) ?_;rintro h i ⟨rfl,g⟩;rw[g,M])
    go_ret
    exact⟨by rw[Lib.indexAny_hit v.out H.out s];rfl,Ua p.out<|bv _⟩
   .have w:128<=ax (J[b]'k):=by rw[o];omega
    obtain⟨U,X⟩:=decode_high J b k w;have Y:=decode_le J b;have F:Aside (b+(sp J b).2<=gD J/\∀(z:Z) d,b<=z->z<b+(sp J b).2->(a0 J.data)[z]?=W d->128<=ax d):=al4 J b k w;clear w x o aw m;obtain⟨n,Q⟩:∃n,(sp J b).1=n:=⟨_,aa⟩;obtain⟨B,R⟩:∃B,(sp J b).2=B:=⟨_,aa⟩;rw[Q] at U Y t;rw[R] at X t F;clear Q R;have ar:∀f:bI,ln bL 216 #[jO c,cN .i32 (n:L)] f λh i=>h=lo (cN aj<|-1)/\Below (a9 f.heap) f i:=λf=>Tryz.aoX c D.out ap n q q f
    go_wp2_with (go_at_call 216;refine iK (ar _) ?_;rintro h i ⟨rfl,g⟩)
    go_roundg (gD J-(b+B))
    case measure=>omega
    case rel=>
     obtain⟨ay,az⟩:=F.out;have K:∀{f:bI},Below (x4 wr (a9 E.heap) J (b+B)).heap.size (x4 wr (a9 E.heap) J (b+B)) f->f.heap[(a9 E.heap)]?=W (.stringIter J (b+B))/\Below (a9 E.heap) E f:=λ{f} I=>
      ⟨b0 (I.block _ (by(simp[x4];omega)))<|ae9 G.out,(Ua p.out<|bv _).trans<|I.mono (by grind[x4])⟩
     refine⟨b+B,aa,(K g).1,(K g).2,λy d au aM=>?_,ay⟩;rcases hN y b with u|u;exact v.out y d u aM;have:=az y d u au aM;by_cases hm:j1 (a0 c.data) d;have:=D.out d aq;omega;simp_all
  have t:=λA=>avN (P:=bL) wr (a9 E.heap) J b A m k
  go_wp2
  go_ret
  obtain rfl:b=gD J:=q;exact⟨by rw[Lib.indexAny_none cf];rfl,p.out⟩
end
section
open Go.Lib
def G6(b:L):C:=(aG b).toUInt8
def gS(b:L):V:=an ez b
def uH(c:Y L):Prop:=∀b∈c,0<=b/\b<256
def aj9{b:Y L}(c:uH b):ab bF (ab G6 b)=ab gS b:=by rw[i_];refine hY λd aX=>?_;have:=c d aX;simp[bF,G6,gS];omega
def HK{b:Z}(c:b<16):0<=qt b/\qt b<256:=by(simp[qt];omega)
def Ma{A:Z}:∀R,uH (Lib.hexDigits A R)|0=>nofun|R+1=>λb aX=>by rcases fH.1 aX with rfl|aX;simp[HK,rm];exact Ma (A:=A) R b aX
def CB{b:Prop} [sj b]{c d:Y L}(e:b->uH c)(f:¬b->uH d):uH (if b then c else d):=by grind
def aj8{c:Y L}(d:(dh c λb=>aH (0<=b)&&aH (b<256))):uH c:=λb aX=>by simp_all
def qE{b:L}{c:Y L}(d:0<=b/\b<256)(e:uH c):uH (b::c):=λh g=>by rcases fH.1 g with rfl|f;exact d;exact e h f
def am4(K:dV){A:L}(g:0<=A):uH (escRune K A):=by
 refine CB (λb=>qE a2<|qE q nofun) λd=>?_;refine CB (λb=>encodeRuneZ_byte A) λc=>?_
 iterate 7 refine CB (λb=>aj8 aa) λc=>?_
 refine CB (λb=>qE a2<|qE a2<|qE (HK q)<|qE (HK q) nofun) λc=>?_;refine CB (λb=>qE a2<|qE a2<|Ma _) λe=>?_;exact CB (λb=>qE a2<|qE a2<|Ma _) λf=>qE a2<|qE a2<|Ma _
def aut(K:dV)(J:kZ):uH (quoteStep K J):=by have:=mE<|J.get! 0;exact CB (λb=>qE a2<|qE a2<|qE (HK q)<|qE (HK q) nofun) λb=>am4 K q
def tU(K:dV)(b:Z)(J:Y C):Y L:=quoteFrom K b ⟨aO J⟩
def acV(K:dV):∀(b:Z)(J:kZ),uH (quoteFrom K b J)|0,J=>nofun|b+1,J=>by rw[quoteFrom];split;intro d aX;rcases fp.1 aX with c|c;exact aut K J d c;exact acV K b _ d c;nofun
def u5(K:dV)(J:Y C):Y L:=quoteZ K ⟨aO J⟩
def mZ(K:dV)(J:Y C):Y C:=ab G6<|u5 K J
def ar8(K:dV)(J:Y C):uH (u5 K J):=by intro c aX;simp[u5,quoteZ,fH,fp,kB,or_false] at aX;rcases aX with rfl|b|rfl;decide;exact acV K _ _ c b;omega
theorem acU(K:dV)(J:Y C):U (mZ K J)<=10*U J+2:=by rw[mZ,bm];exact quoteZ_length_le K _
def C8(B:dd)(b:Y Z):V:=fN 1 [.al 1 (b.map λR:Z=>an B R)] 0 0
def Zi:V:=fN 256 [b2 ((bM 256).map λn=>an ez<|firstT n)] 0 0
def Q_:V:=fN 32 [b2 ((bM 32).map λn=>an ez<|if n%2=0 then accLo (n/2) else accHi (n/2))] 0 0
def fO(K:dV)(m:L):Y (Z×V):=[(9,Zj),(1,Zh),(10,fN 1 [an aj m] 0 0),(4,C8 .u16 K.p16),(5,C8 .u16 K.n16),(6,C8 .u32 K.p32),(7,C8 .u16 K.n32),(2,Zi),(3,Q_)]
def E8(K:dV)(m:L):eh (fO K m):=aa
structure st(K:dV):Prop where
 a:0<U K.p16/\0<U K.n16/\0<U K.p32/\0<U K.n32
 b:U K.p16%2=0/\U K.p32%2=0
 c:U K.p16<=100000/\U K.n16<=100000/\U K.p32<=100000/\U K.n32<=100000
def Oy{p:bJ}{i:bf}{A:bV}{E:bI}(o:Holds p i A E){g:Z}{B:dd}{b:Y Z}(I:0<U b)(d:bk i (C8 B b) (ib (W ⟨g,0,ai⟩))):Lib.TabSlice g B b E:=by
 obtain⟨r,h⟩:∃r,r=ib (W ⟨g,0,ai⟩):=⟨_,aa⟩;rw[<-h,C8] at d;cases d with
 |ref _ _ _ _ F base val G v d=>
  have m:=v 0 0 _ _ aa aa;have e:=d 0 0 _ _ aa aa;simp at h;obtain⟨rfl,aM⟩:=h;rw[show base+0*1+0=0 from aM] at m;have f:=o.jT _ _ _ m;generalize val 0 0=J at e f;generalize n:ab _ b=k at e;have y:U k=U b:=by rw[<-n,bm]
  cases e with
  |slnil=>simp_all|zz=>simp_all|al _ _ t u cap D _ _ H w z=>
   rw[y] at f;refine⟨t,u,cap,f,λc x=>?_⟩;have l:k[c]?=W (an B (b.getD c 0)):=by rw[<-n];simp[x]
   have s:=z c 0 _ _ l aa;have C:=o.jT _ _ _<|w c 0 _ (an B<|b.getD c 0) l aa;generalize D c 0=K at s C;cases s;simp_all
def P0{p:bJ}{d:bf}{n:bV}{E:bI}(m:Holds p d n E){c:Z}{e:Y V}{o:Z}(b:bk d (fN o [b2 e] 0 0) (ib (W ⟨c,0,ai⟩))){cs:Z}{B:dd}{R:L}(g:e[cs]?=W (an B R)):ho E ⟨c,cs,ai⟩=W (cN B R):=by obtain⟨h,l⟩:∃h,h=ib (W ⟨c,0,ai⟩):=⟨_,aa⟩;rw[<-l] at b;cases b with|ref _ _ _ _ r base val s k b=>have f:=b 0 cs _ _ aa g;have i:=m.jT _ _ _<|k 0 cs _ _ aa g;generalize val 0 cs=t at f i;cases f;simp_all
open Go.Shelf Go.Proofs in
def ao0{K:dV}(dz:st K)(m:L)(A:L)(l:-2147483648<=A)(n:A<=2147483647):eN bL (fO K m) 107 [an .i32 A] (aV (isPrintR K A)):=by
 intro h g E s i k d e;obtain⟨f,rfl⟩:∃f,g=[f]:=by
  match g,i with|[p],_=>simp
 cases k 0 _ _ aa aa;have o:PrintTabsAt 4 5 6 7 K E:=⟨Oy d dz.a.1<|e _ _ (by simp[fO]),Oy d dz.a.2.1<|e _ _ (by simp[fO]),Oy d dz.a.2.2.1<|e _ _ (by simp[fO]),Oy d dz.a.2.2.2<|e _ _ (by simp[fO]),dz.a,dz.b,by have:=dz.c;omega⟩;refine iK (Any.strconv_IsPrint Tryz.apT K A E l n o) ?_;rintro r u ⟨rfl,t,rfl⟩;exact⟨_,aV _,[],h,aa,⟨aa,aa⟩,.bool _,d.grown ⟨aa,aa,aa,bv _,λ_ _ _=>aa⟩⟩
open Go.Shelf Go.Proofs in
def al3(K:dV)(m:L)(J:Y C):eN bL (fO K m) 78 [a8 J] (cv [an .i32 (decodeGo ⟨aO J⟩).1,l (decodeGo ⟨aO J⟩).2]):=by
 intro o i E w p r d g;obtain⟨h,rfl⟩:∃h,i=[h]:=by
  match i,p with|[t],_=>simp
 cases r 0 _ _ aa aa;have s:Utf8Tabs 2 3 E:=⟨λn v=>P0 d (g _ _<|show(_,Zi)∈fO K m by simp[fO]) (cs:=n) aK,λc k=>⟨P0 d (g _ _<|show(_,Q_)∈fO K m by simp[fO]) aK,P0 d (g _ _<|show(_,Q_)∈fO K m by simp[fO]) aK⟩⟩;refine iK (Any.utf8_DecodeRuneInString Tryz.apN _ E s) ?_;rintro u y ⟨rfl,b⟩;exact⟨_,_,[],o,aa,⟨aa,aa⟩,.tuple _ _ aa (λc z x e f=>by
  match c with|0=>simp at e f;subst e f;exact .int _ _|1=>simp at e f;subst e f;exact .int _ _|c+2=>trivial),d.grown ⟨b.os,b.tape,b.output,b.size,λc k _=>b.block c k⟩⟩
open Go.Shelf Go.Proofs in
def ayt(K:dV)(m:L)(A:L):eN bL (fO K m) 110 [an .i32 A] (aV (Lib.validRune A)):=.ofInt (λb=>.bool _) λE=>Any.utf8_ValidRune Tryz.R8 A E
end
theorem Z1{R:L}:-2147483648<=R->R<=2147483647->oD .i32 R:=by trivial
def aoQ{R:L}:0<=R->R<=4294967295->oD .u32 R:=by trivial
def amK{S aC b:aw}{au aF J aE:Z}{aD w:aP}{c v B m:Z}{y l:Y V}(ax:cu P S (c_ b) au aF)(N:gx P b J aE)(ar:M.op=ft {callee:=gP .copy,args:=#[aD,w],argTypes:=#[S,aC]})(a3:O.val p aD=W (.bH c v 0 m))(z:O.d[B]?=W (c,.j v J b y))(ak:U y=m)(C:jP P p O w aC J m l):eH P p M O (.int aj m) (aR O.d B (c,.j v J b l)):=.of λg E f r=>by
 let⟨e,T,av,F⟩:=r.bH a3 z;let t:f.le (f.fV c e):=bf.jh λbn aI=>aq;obtain⟨i,aJ,aS,X,ap,aL⟩:=C.run g E f r;have aN:=C.len;have bd:=C.cells;let same:m=0->ce P (c5 (b1 g) M) E=ct (og<|cN aj m) E->∃G bO x aB aA,f.le x/\bk x aB G/\Holds p x aA bO/\(ce P (c5 (b1 g) M) E=ct (og G) bO\/G=undef/\ce P (c5 (b1 g) M) E=ct .skip bO)/\aB=V.int aj m/\aA=aR O.d B (c,.j v J b l):=λo aW=>by have aG:y=[]:=l4<|b0 ak o;have aH:l=[]:=l4<|b0 aN o;subst aG aH;exact⟨_,E,f.fV c e,_,_,t,.int _ _,r.cO.pB z T aa (bv _) (λ_=>aa) (bj aa) (bO:=E) ⟨aa,aa,aa,bv _,λ_ _ _=>aa⟩<|av.mono t λ_ _=>aa,bj aW,aa,aa⟩
 rcases F with⟨_,o,D⟩|⟨h,a7,cap,aM,D,bh,bc,s⟩;subst o;exact same aa (by simp[c5,ar,D,oi,oh,o2,Builtin.copy_,run_underlying ax.u,N.kw,X,ap E aa,goInt,show nK 0 0=0 from aa,Sem.run_bind,Result.andThen_ok,Sem.run_pure]);have Q:∀bO,ce P (storeCells ⟨h,a7,ai⟩ i) E=ct () bO->ce P (c5 (b1 g) M) E=ct (og (cN aj m)) bO:=λbO F=>by simp[c5,ar,D,oi,oh,o2,Builtin.copy_,run_underlying ax.u,N.kw,X,ap E aa,goInt,show nK m m=m from Nat.min_self m,Sem.run_bind,Result.andThen_ok,Sem.run_pure,F]
 rcases nF m with rfl|bl;exact same aa<|Q E (by rw[l4<|b0 aJ<|ym _];rfl);rcases s with s|⟨rfl,s⟩;omega;obtain⟨a2,A,⟨bb,_⟩|⟨ba,k,H,K,aY,R,aI,be,aT⟩⟩:=av;simp_all;rw[aM] at H;cases H;rw[A] at s R aT;have bm:e.base+m*J<=a9 k:=by rw[aY,<-ak];exact R
 have aX:=DB P (u:=h) e.base (S:=b) i 0 k E K q aS;simp[qp] at aX;refine⟨_,_,f.fV c e,_,_,t,.int _ _,r.cO.pB z T aa (bv _) (λ_=>aa) (bj aa) (bO:=E.setRow h<|aO<|am e.base (a0 k)++i++ay (e.base+U i) (a0 k))
   ⟨aa,aa,aa,ao,λa5 bg aQ=>setRow_other E h a5 _ λb=>aQ aq⟩ ?_,bj<|Q _ bi,aa,aa⟩
 refine⟨a2,A,bp ⟨h,_,aM,K.set aK,aK,aq,?_,λaz I L=>aK,?_⟩⟩;grind;intro az n I w L a4;let⟨a_,a1,aU⟩:=aL az n I w L a4;refine⟨a_,?_,aU.mono t⟩;rw[A,um,eS,s9 aK,rh aK,<-a1];grind
section
variable{m:Z}{B:aN->Prop}
def aq_{l r b:aw}{d:cH}{s t:aP}{f R:Z}{n e:Y V}g(x:B ({J with az:=il J.az f (.j d.size b g)}.put M.dst (.int aj R)))(A:M.op=ft {callee:=gP .copy,args:=#[s,t],argTypes:=#[l,r]}:=by rfl)(D:fC K l (c_ b):=by exact fX)(w:K.find b=W d:=by rfl)(E:val i J.c s=W (.a f 0 R):=by rfl)(v:ci J.az f=W (.j d.size b n):=by rfl)(gi:kG K i J t r d.size e)(bN:e=g)(y:U n=R:=by simp)(z:U e=R:=by simp):gg P K p i m ops M J B:=.AP _ v x λdz h k o F C=>by subst bN;obtain⟨_,_,u⟩:=D.eD dz;exact amK u (dz.find w).au A (hJ h k E o) C y<|z▸gi.src dz h k o
def aq6 d{k f n:aw}{b:cH}{R:Z}{G e:Y V}{h:bU (Z×aP)}(x:B ((J.Bj d (.j b.size f e)).put M.dst (.a d 0 R)))(C:M.op=.buildSlice k R h:=by rfl)(F:fC K k (c_ f):=by exact fX)(w:K.find f=W b:=by rfl)(v:sb i J.c (a0 h) 0=W e:=by rfl)(z:R=U e:=by rfl)(y:∀I∈e,U I.cells=b.size:=by first|exact Nn rfl|exact H0 (by repeat (first|exact trivial|refine And.intro rfl ?_))|(simp[V.cells,V.const,V.leaf];done))(t:hB (R*b.size) 16777216:=by rfl)(E:0<b.size:=by decide)(u:ci J.az d=W (.j b.size n G):=by rfl)(A:g8 d (m+1000):=by rfl):gg P K p i m ops M J B:=.SL u x A λdz r s o H D=>by obtain⟨_,_,l⟩:=F.eD dz;have g:=dz.find w;exact Yt l g.au g.lG C (Gk r s v) z y (c9 (ll t) a2) E D
end
def MO{m e s:aw}{l:cH}{r h:aP}{b k:Z}{n:V}{G:dd}{R:L}(y:B (.dC b 0 0))(A:M.op=o0 m r h:=by rfl)(E:fC K m (c_ e):=by exact fX)(v:K.find e=W l:=by rfl)(F:val i J.c r=W (.a b 0 k):=by rfl)(u:ci J.az b=W (.cell s n):=by rfl)(D:l.size=U n.cells:=by rfl)(x:val i J.c h=W (.int G R):=by rfl)(z:R=((0:Z):L):=by first|rfl|omega)(w:0<k:=by exact si):er P K p i ae M J B:=.n5 (λdz f g o=>by obtain⟨_,_,t⟩:=E.eD dz;obtain⟨H,C⟩:=j7 _ u;have d:=(dz.find v).au;rw[D] at d;exact II t d A (iU f g F dZ o) C (iU f g x dZ o) z w) y
section
variable{m:Z}{en:aN}
theorem a1.same(h:a1 P p m n en ak)(g:∀o,J.aB o=en.aB o):a1 P p m n J ak:=⟨λo c e d E b f=>h.run o c e d E b<|g o▸f⟩
end
def iL.raw{P:bn}{i:Y (Z×V)}{r:fM}{m:Type}{t:m->Prop}{A:m->V}{f:aw}{g:V}{l:m->V}{k:Z}(c:iL P i r [.dC 6000 0 0] [] [(6000,.cell f g)] t A (λ_=>[]) (λb=>[(6000,.cell f<|l b)]))(B:g.plain)(D:U g.cells=k)(F:∀b,(A b).plain)(C:∀b,(l b).plain)(E:∀b,(l b).cells.length=k)(d e:Z):iL P i r [.own d e 0 0] [(d,.j e k f [g])] [] t A (λb=>[(d,.j e k f [l b])]) (λ_=>[]):=by
 intro o;have s:=c<|e2 o 6000 (d,e);have v:aZ (e2 o 6000 (d,e)) [(6000,.cell f g)]=[(d,.j e k f [g])]:=by simp[aZ,ia,rk,c2,b7.aD,iT,V.gc B,D]
 have w:ab (V.aB (e2 o 6000 (d,e))) [V.dC 6000 0 0]=ab (V.aB o) [V.own d e 0 0]:=by simp[V.aB,V.jW,V.e8,V.e0,iT]
 rw[v,w] at s;refine s.mono λI H ⟨b,u,z,n,G,y⟩=>?_;have x:u 6000=(d,e):=by rw[n.eq _<|bv _,iT]
 refine⟨b,e2 u 6000<|o 6000,z,⟨λh p=>?_,λh p=>?_⟩,?_,?_⟩;by_cases c:h=6000;rw[c,iT];rw[hd c,n.id h p,hd c];by_cases c:h=6000;rw[c,iT];rw[hd c,n.eq h p,hd c];grind[V.gc];rw[y];simp[aZ,ia,rk,c2,b7.aD,x,V.gc<|C b,E,gv,na]
def Holds.renew{p:bJ}{d:bf}{w:bV}{E:bI}(f:Holds p d w E){g:Z}{k:Loc}(l:aw)(L:d.m g=W k)(K:g∈p.ids\/p.wT.m g=ai)(F:∀M,(g,M)∉w):Holds p (d.fV g ⟨ai,0,k.aS+1,0,k.s⟩) (w++[(g,.j (k.aS+1) k.s l [])]) E:=by
 have y:d.le (d.fV g ⟨ai,0,k.aS+1,0,k.s⟩):=bf.jh λh b=>by simp_all
 have v:∀c e,(c,e)∈w->c≠g:=λc e b l=>F e<|l▸b;refine⟨f.le.trans y,f.t,?_,f.nr,f.ns,?_,f.jT,f.lT,?_,?_,?_,?_⟩;intro c h b i;rw[d.n_ _ λl=>aq];exact f.nl c h b i;intro c e b;rcases fp.1 b with b|b;exact f.own c e b;simp_all;intro c e b;rcases fp.1 b with b|b;let⟨h,D,G⟩:=f.gd c e b;exact⟨h,b0 (d.n_ _<|v c e b) D,G.mono y λ_ _=>aa⟩;simp at b;obtain⟨rfl,rfl⟩:=b;exact⟨_,d.kg _ _,aa,aa,bj ⟨aa,aa⟩⟩;rw[dc,vr];refine⟨f.kt,ao,λI J u aM l=>?_⟩;grind;intro c e h u b i r;rcases fp.1 b with b|b;rw[d.n_ _<|v c e b] at i;exact f.ld c e h u b i r;simp at b;obtain⟨rfl,rfl⟩:=b;rw[d.kg] at i;grind;intro c e z A h H u b i r x B C;rcases fp.1 b with n|n;rcases fp.1 i with o|o;rw[d.n_ _<|v c e n] at r;rw[d.n_ _<|v z A o] at x;exact f.inj c e z A h H u n o r x B C;simp at o;obtain⟨rfl,rfl⟩:=o;rw[d.kg] at x;grind;simp at n;obtain⟨rfl,rfl⟩:=n;rw[d.kg] at r;grind
section
variable{o:b6}{au:Z}{aC:Y V}
def aN.AY(J:aN)(I au:Z)(b:aw)(aC:Y V):aN:=⟨xA (E6 I au aC) J.c,qW I (E6 I au aC) J.az++[(I,.j au b [])],J.d⟩
def a_.AY{J:aN}{b:aw}{k:fI}{E:bI}{t:bf}(x:ci J.az I=W (.j au b aC))(z:uS I (U aC) J.c)(y:sJ I (U aC) J.az)(C:a_ p (J.aB o) k E t):∃f,a_ p ((J.AY I au b aC).aB (e2 o I ((o I).1,(o I).2+1))) k E f:=by
 obtain⟨f,H,e,m,D,r,hid,A⟩:=a_.LU (λs B=>hd B) x z y C;have l:=e.cO.renew b m hid A;rw[D,r] at l;have n:f.le (f.fV (o I).1 ⟨ai,0,(o I).2+1,0,au⟩):=bf.jh λG g=>by rw[m] at g;cases g;exact⟨r,tb,λb=>by dsimp only at b;omega⟩
 refine⟨_,?_,λs i h=>by let⟨F,g,w⟩:=e.c s i h;exact⟨F,g,w.mono n⟩,λv i h=>(e.gR v i h).mono n,e.size,e.defers⟩;have u:((J.AY I au b aC).aB (e2 o I ((o I).1,(o I).2+1))).d=((J.h6 I au aC).aB (e2 o I ((o I).1,(o I).2+1))).d++[((o I).1,.j ((o I).2+1) au b [])]:=by simp[aN.aB,aN.AY,aN.h6,aZ,c2,b7.aD,iT]
 rw[u];exact l
def a1.AY{P:bn}{m:Z}{n:gw}{J:aN}{ak:cS->aN->Prop}I{au:Z}{b:aw}{aC:Y V}(w:a1 P p m n (J.AY I au b aC) ak)(s:ci J.az I=W (.j au b aC):=by rfl)(u:uS I (U aC) J.c:=by repeat (first|exact trivial|refine And.intro ?_ ?_|exact rfl|(simp;done)))(t:sJ I (U aC) J.az:=by repeat (first|exact trivial|refine And.intro ?_ ?_|exact rfl|(simp;done)))(d:g8 I (m+1000):=by rfl):a1 P p m n J ak:=⟨λo f h g E z i=>by let⟨e,k⟩:=a_.AY s u t i;let d:=ll (show hB _ _=ag from d);let l:dk m o (e2 o I ((o I).1,(o I).2+1)):=⟨λx _=>by grind[e2],λx A=>hd q⟩;exact w.run _ f (λy b en r v=>h y b en (l.trans r) v) g E e k⟩
end
section
variable{m:Z}{B:aN->Prop}
def arh d{r e v:aw}{b:cH}{s t:aP}{T U:dd}{k l:L}{X:Y V}(R n:Z)aC(C:B ((J.Bj d (.j b.size e aC)).put M.dst (.a d 0 R)))(G:M.op=.makeSlice r s t:=by rfl)(N:fC K r (c_ e):=by exact fX)(x:K.find e=W b:=by rfl)(O:val i J.c s=W (.int T k):=by rfl)(y:k=(R:L):=by first|rfl|omega)(Q:val i J.c t=W (.int U l):=by rfl)(A:l=(n:L):=by first|rfl|omega)(E:R<=n:=by omega)(S:a9 (dp b.z)=b.size:=by rfl)(aM:hB b.bytes 8:=by rfl)(I:0<b.size:=by decide)(D:n<=10000000000000:=by omega)(aU:cM n (V.zero b.z)=aC:=by rfl)(w:ci J.az d=W (.j b.size v X):=by rfl)(F:g8 d (m+1000):=by rfl):gg P K p i m ops M J B:=.SL w C F λdz g h o ak H=>by subst aU;obtain⟨_,_,u⟩:=N.eD dz;have f:=dz.find x;exact Yu u f.au f.lG S G (hJ g h O o) y (hJ g h Q o) A E yn (c9 (WY D aM) a2) I H
end
def ab5{n:aw}{e:aP}{b:dd}{d:L}R(h:B (.int b R))(k:M.op=.unOp .neg n e:=by rfl)(m:val i J.c e=W (.int b d):=by rfl)(l:hf b (-d)=R:=by rfl):er P K p i t M J B:=by subst l;exact .of aa (λ_ f g o r=>adW k<|hK f g m dZ aa) h
section
open Go.Lib
def asb:∀b:Fin 32,je .or ez 192 (b.val:L)=192+b.val:=cf
def asd:∀b:Fin 16,je .or ez 224 (b.val:L)=224+b.val:=cf
def ase:∀b:Fin 8,je .or ez 240 (b.val:L)=240+b.val:=cf
def ai5:∀b:Fin 256,je .or ez 128 (je .and ez (b.val:L) 63)=128+(b.val:L)%64:=cf
def ai4:∀b:Fin 256,je .and ez (b.val:L) 15=(b.val:L)%16:=cf
def asc{b:L}(c:0<=b)(d:b<32):je .or ez 192 b=192+b:=by have:=asb ⟨aG b,q⟩;grind
def acY{b:L}(c:0<=b)(d:b<16):je .or ez 224 b=224+b:=by have:=asd ⟨aG b,q⟩;grind
def asf{b:L}(c:0<=b)(d:b<8):je .or ez 240 b=240+b:=by have:=ase ⟨aG b,q⟩;grind
def Aw{A:L}(c:0<=A):je .or ez 128 (je .and ez (hf IntKind.u8 A) 63)=128+A%64:=by have b:=zJ A;have:=ai5 ⟨aG<|A%256,q⟩;grind
theorem Wx{A:L}(b:0<=A)(c:A<256):je .and ez A 15=A%16:=by have:=ai4 ⟨aG A,q⟩;grind
theorem fd{A:L}{R:Z}:A.fdiv (R:L)=A/R:=ahj _ q
def ar0{c:Y L}:∀I∈ab gS c,U I.cells=1:=λI b=>by obtain⟨d,_,rfl⟩:=dI.1 b;rfl
def ajc(K:dV)(m:L)(b:Y L)(A:L)(e:128<=A)(i:A<=1114111)(aM:U b<=9000000000000):mL bL (fO K m) 141 [.a 5000 0 (U (ab gS b)),an .i32 A] [(5000,.j 1 5 (ab gS b))] (.a 5000 0 (U (ab gS (b++ur A)))) [(5000,.j 1 5 (ab gS (b++ur A)))]:=by have k:=encodeRuneZ_length A;refine c4 func141 [] λn p l=>?_;refine iG A ?_;apply f<;>intro c;refine qX (A/64) ?_ (s:=fd);refine iG (A/64) ?_;refine wa _ ?_;refine cp ?_;rw[asc q q,Aw q];refine kQ (ab gS<|b++ur A) ?_ (aU:=by rw[encodeRuneZ_two e c,dc];rfl) (bl:=aK);exact cJ;apply f<;>intro g;apply f<;>intro d;refine qX (A/4096) ?_ (s:=fd);refine iG (A/4096) ?_;refine qX (A/64) ?_ (s:=fd);refine wa _ ?_;refine wa _ ?_;refine cp ?_;rw[acY q q,Aw q,Aw q];refine kQ (ab gS<|b++ur A) ?_ (aU:=by rw[encodeRuneZ_three q,dc];rfl) (bl:=aK);exact cJ;omega;apply cL;intro _;exact aa;apply f<;>intro d;refine qX (A/4096) ?_ (s:=fd);refine iG (A/4096) ?_;refine qX (A/64) ?_ (s:=fd);refine wa _ ?_;refine wa _ ?_;refine cp ?_;rw[acY q q,Aw q,Aw q];refine kQ (ab gS<|b++ur A) ?_ (aU:=by rw[encodeRuneZ_three q,dc];rfl) (bl:=aK);exact cJ;apply cL;intro _;exact aa;apply f<;>intro h;refine qX (A/262144) ?_ (s:=fd);refine iG (A/262144) ?_;refine qX (A/4096) ?_ (s:=fd);refine wa _ ?_;refine qX (A/64) ?_ (s:=fd);refine wa _ ?_;refine wa _ ?_;refine cp ?_;rw[asf q q,Aw q,Aw q,Aw q];refine kQ (ab gS<|b++ur A) ?_ (aU:=by rw[encodeRuneZ_four q q,dc];rfl) (bl:=aK);exact cJ;refine cp ?_;refine kQ (ab gS<|b++ur A) ?_ (aU:=by rw[encodeRuneZ_bad q,dc];rfl) (bl:=aK);exact cJ
def aje(K:dV)(m:L)(b:Y L)(A:L)(d:0<=A)(e:A<=1114111)(aM:U b<=9000000000000):mL bL (fO K m) 109 [.a 5000 0 (U (ab gS b)),an .i32 A] [(5000,.j 1 5 (ab gS b))] (.a 5000 0 (U (ab gS (b++ur A)))) [(5000,.j 1 5 (ab gS (b++ur A)))]:=by refine c4 func109 [] λi p h=>?_;refine iG A ?_;apply f<;>intro c;refine iG A ?_;refine cp ?_;refine kQ (ab gS<|b++ur A) ?_ (aU:=by rw[encodeRuneZ_one d c,dc];rfl) (bl:=by grind[encodeRuneZ_length]);exact cJ;refine bG [(5000,5000)] ?_ (g:=ajc K m b A q e aM);exact cJ
end
section
open Go.Lib
def xo:Y C:=[48,49,50,51,52,53,54,55,56,57,97,98,99,100,101,102]
def aoB:∀b:Fin 16,(ax (y xo b.val 0):L)=qt b.val:=a2
theorem azw{b:Z}(c:b<16):bF (y xo b 0)=gS (qt b):=by have:=aoB ⟨b,c⟩;grind[bF,gS]
def HN{b:Z}(c:b<16):xo[b]?=W (y xo b 0):=by have c:b<U xo:=c;simp[c]
theorem ai6{A:L}(b:0<=A)(d:A<2147483648):je .and .i32 A 15=A%16:=by
 obtain⟨R,rfl⟩:=Int.eq_ofNat_of_zero_le b;have c:(Ed 32 R&&&Ed 32 15).toNat=R%16:=by rw[ahf,show(Ed 32 15).toNat=2^4-1 by decide,Nat.and_two_pow_sub_one_eq_mod];simp
 show hf IntKind.i32 ((Ed 32 _&&&Ed 32 15).toNat:L)=_;grind[wG,Z1]
def amc{A:L}(c:0<=A)(d:A<2147483648){b:Z}:je .and .i32 (A/16^b) 15=((aG A/16^b%16:Z):L):=by have:aG A/16^b<=aG A:=Gx _ _;grind[ai6]
theorem p16{b:Z}(c:b<=7):2^min (aG (4*(b:L))) 32=((16^b:Z):L):=by rw[show min _ 32=4*b by omega,show 16=2^4 from aa,<-J7];rfl
abbrev vE(b:Y L):bS:=[(5000,.j 1 5<|ab gS b)]
abbrev uD(b:Y L):V:=.a 5000 0<|U<|ab gS b
theorem Ax{b Q:Y L}:ab gS b++ab gS Q=ab gS (b++Q):=ao
def amx{K:dV}(dz:st K)(m:L)(c:Y L)(A:L)(t:0<=A)(x:A<=1114111)(N:Lib.validRune A)(aM:U c<=8000000000000):mL bL (fO K m) 79 [uD c,an .i32 A,an ez 34,aV ae,aV ae] (vE c) (uD (c++escRune K A)) (vE (c++escRune K A)):=by
 obtain⟨e,bl⟩:∃e,escRune K A=e:=⟨_,aa⟩;rw[bl];unfold escRune at bl;refine c4 func79 [] λO p H=>?_;refine iG 34 ?_;apply cy;intro _;exact aa;apply f<;>intro i;rw[af i] at bl;refine cp ?_;refine kQ (ab gS<|c++[92]) ?_ (aU:=by exact Ax (Q:=[92])) (bl:=aK);refine iG A ?_;refine cp ?_;refine kQ (ab gS<|c++[92]++[A]) ?_ (aU:=by exact Ax (Q:=[A])) (bl:=aK);rw[eS,show([92]++[A]:Y L)=e from bl];exact cJ;rw[ad i] at bl;apply f<;>intro F;trivial;refine aT ?_ (g:=ao0 dz m A q q);apply cy;intro _;refine cL (w:=ae) (λv=>nomatch v) ?_;exact aa;apply f<;>intro h;have h:isPrintR K A:=by simpa[gp] using h
 rw[af h] at bl;refine bG [(5000,5000)] ?_ (g:=aje K m c A t x q);rw[bl];exact cJ;have h:¬isPrintR K A:=by simpa[gp] using h
 rw[ad h] at bl
 iterate 7
  apply f<;>intro n;rw[af n] at bl;refine kQ (ab gS<|c++e) ?_ (aU:=by rw[<-bl];rw[dc];rfl) (bl:=aK);exact cJ;rw[ad n] at bl
 apply cy;intro _;exact aa;apply f<;>intro o;rw[af o] at bl;have B:aG A/16<16:=q;have C:aG A%16<16:=q;refine kQ (ab gS<|c++[92,120]) ?_ (aU:=by exact Ax (Q:=[92,120])) (bl:=aK);refine iG A ?_;refine qX ((aG A/16:Z):L) ?_ (s:=by rw[show(2:L)^min (aG (4:L)) (l7 IntKind.u8)=((16:Z):L) from aa,fd];omega);refine gK (aG A/16) (y xo (aG A/16) 0) ?_ (k:=HN B);refine cp ?_;refine kQ (ab gS<|c++[92,120]++[qt (aG A/16)]) ?_ (aU:=Kd) (bl:=aK);refine iG A ?_;refine gK (aG A%16) (y xo (aG A%16) 0) ?_ (bu:=by grind[Wx]) (k:=HN C);refine cp ?_;refine kQ (ab gS<|c++[92,120]++[qt (aG A/16)]++[qt (aG A%16)]) ?_ (aU:=Kd) (bl:=aK);rw[show c++[92,120]++[qt (aG A/16)]++[qt (aG A%16)]=c++e by(simp;omega)];exact cJ;rw[ad o,ad aK] at bl;refine aT ?_ (g:=ayt K m A);apply f<;>intro E;trivial;apply f<;>intro l
 focus rw[af l] at bl;refine kQ (ab gS<|c++[92,117]) ?_ (aU:=by exact Ax (Q:=[92,117])) (bl:=aK);refine c8 (Z×Y L) (λb=>⟨[(0,uD b.2),(1,an .i32 A),(11,an aj<|4*(b.1:L)-4)],vE b.2,[]⟩) (λb=>(b.1<=4/\U b.2+b.1<=8000000000100)/\b.2++Lib.hexDigits (aG A) b.1=c++e) (λb=>b.1) (4,c++[92,117]) (λ⟨d,M⟩ k=>?_) ⟨⟨ao,aK⟩,bi⟩ .r
 rotate_left
 focus rw[ad l] at bl;refine kQ (ab gS<|c++[92,85]) ?_ (aU:=by exact Ax (Q:=[92,85])) (bl:=aK);refine c8 (Z×Y L) (λb=>⟨[(0,uD b.2),(1,an .i32 A),(12,an aj<|4*(b.1:L)-4)],vE b.2,[]⟩) (λb=>(b.1<=8/\U b.2+b.1<=8000000000100)/\b.2++Lib.hexDigits (aG A) b.1=c++e) (λb=>b.1) (8,c++[92,85]) (λ⟨d,M⟩ k=>?_) ⟨⟨ao,aK⟩,bi⟩ .r
 all_goals dsimp only at k⊢;obtain⟨⟨I,J⟩,u⟩:=k;apply f<;>intro G;obtain⟨d,rfl⟩:∃D,d=D+1:=⟨d-1,q⟩;have z:aG A/16^d%16<16:=rm _ a2;refine iG (4*(d:L)) ?_;refine qX (A/16^d) ?_ (s:=by show A.fdiv (2^min (aG (4*(d:L))) 32)=_;grind[p16,fd]);refine gK (aG A/16^d%16) (y xo (aG A/16^d%16) 0) ?_ (bu:=amc t q) (k:=HN z);refine cp ?_;refine kQ (ab gS<|M++[qt (aG A/16^d%16)]) ?_ (aU:=Kd) (bl:=aK);refine jG (4*(d:L)-4) ?_;exact a4 (d,M++[qt (aG A/16^d%16)]) ⟨⟨q,aK⟩,by grind[Lib.hexDigits]⟩ (bA:=.r);obtain rfl:d=0:=q;rw[Lib.hexDigits,gv] at u;rw[u];exact cJ
end
section
open Go.Lib
theorem ajC(b:Y C)(fa:Z):(⟨aO b⟩:kZ).extract fa (gD (⟨aO b⟩:kZ))=⟨aO (ay fa b)⟩:=by apply U3;simp[gD,kC]
def Tf{K:dV}{c:Z}{b:Y C}(d:0<U b)(e:U b<=c):tU K c b=quoteStep K ⟨aO b⟩++tU K (c-1) (ay (sp ⟨aO b⟩ 0).2 b):=by grind[gD,tU,quoteFrom_step,ajC]
def ajh{K:dV}(dz:st K)(m:L)(c:Y L)(J:Y C)(bA:U J<=100000000)(aM:U c<=7000000000000):mL bL (fO K m) 52 [uD c,a8 J,an ez 34,aV ae,aV ae] (vE c) (uD (c++u5 K J)) (vE (c++u5 K J)):=by
 have z:gD (⟨aO J⟩:kZ)=U J:=by simp[gD]
 have E:u5 K J=34::(tU K (U J) J++[34]):=by rw[u5,quoteZ,z];rfl
 rw[E];refine c4 func52 [21,2002,2003] λaA p X=>?_;refine gZ j3 (λ_=>⟨[(0,uD c),(1,a8 J),(2,an ez 34),(3,aV ae),(4,aV ae)],vE c,[]⟩) (λ_=>dW) ?_ λ_ _=>?_
 .refine aq9 λn ap aq=>?_;have ak:U (ab gS c)=U c:=bm _;refine iQ ?_;apply f<;>intro P
  .refine a1.AY 5000 ?_;refine dA ?_
   iterate 3 refine aY ?_
   refine arh 5000 (U c) (U c+1+U J+1) (cM (U c) (gS 0)++cM (1+U J+1) (gS 0)) ?_ (aU:=by rw[List.replicate_append_replicate];congr 1;omega);refine a1.XH 5000 (aC:=(cM (U c)<|gS 0)) (ul:=(cM (1+U J+1)<|gS 0)) ?_ aa;refine dA ?_;refine aq_ (ab gS c) ?_ (gi:=.al aa aa aa aa ar0) (bN:=aa);exact dn () (bA:=by rw[uD,bm];exact .r)
  exact dn () (bA:=.r)
 refine cp ?_;refine kQ (ab gS<|c++[34]) ?_ (aU:=by exact Ax (Q:=[34])) (bl:=aK);refine c8 (Z×Y C×Y L) (λe=>⟨[(0,uD e.2.2),(1,a8 e.2.1),(2,an ez 34),(3,aV ae),(4,aV ae)],vE e.2.2,[]⟩) (λe=>(U e.2.1<=e.1/\U e.2.1<=100000000/\U e.2.2+10*U e.2.1<=7001000000001)/\e.2.2++tU K e.1 e.2.1=c++[34]++tU K (U J) J) (λe=>U e.2.1) (U J,J,c++[34]) (λ⟨i,b,M⟩ k=>?_) ⟨⟨bv _,bA,aK⟩,aa⟩ .r;dsimp only at k⊢;obtain⟨⟨H,ar,au⟩,h⟩:=k;apply f<;>intro R;have D:0<U b:=q;have T:gD (⟨aO b⟩:kZ)=U b:=by simp[gD]
 have bN:decodeGo ⟨aO b⟩=sp ⟨aO b⟩ 0:=ad q;have av:=width_pos ⟨aO b⟩ 0;have aw:=width_le ⟨aO b⟩ q;have x:=rune_valid ⟨aO b⟩;have O:=quoteStep_length_le K ⟨aO b⟩;have az:(sp ⟨aO b⟩ 0).1<=1114111:=by simp[Lib.validRune] at x;omega
 rw[Tf (K:=K) D H,<-eS] at h;have aM:=quoteStep_bad K ⟨aO b⟩ q;have u:=quoteStep_good K ⟨aO b⟩;have t:=al3 K m b;rw[bN] at t;generalize quoteStep K ⟨aO b⟩=o at h aM u O;generalize (sp ⟨aO b⟩ 0).2=fa at*;generalize (sp ⟨aO b⟩ 0).1=A at*;have v:am (U b-fa) (ay fa b)=ay fa b:=kC ao;refine aT ?_ (g:=t);apply cL;intro _;exact aa;apply f<;>intro S;have l:=aM q q;have N:(⟨aO b⟩:kZ)[0]=b[0]:=ba;rw[N] at l;have I:ax b[0]<256:=mE b[0];obtain⟨d,w⟩:∃d,ax b[0]=d:=⟨_,aa⟩;rw[w] at l I;have F:d/16<16:=q;have G:d%16<16:=q;refine kQ (ab gS<|M++[92,120]) ?_ (aU:=by exact Ax (Q:=[92,120])) (bl:=aK);refine gK 0 b[0] ?_;refine qX ((d/16:Z):L) ?_ (s:=by rw[w,show(2:L)^min (aG (4:L)) (l7 IntKind.u8)=((16:Z):L) from aa,fd];omega);refine gK (d/16) (y xo (d/16) 0) ?_ (k:=HN F);refine cp ?_;refine kQ (ab gS<|M++[92,120]++[qt (d/16)]) ?_ (aU:=Kd) (bl:=aK);refine gK 0 b[0] ?_;refine gK (d%16) (y xo (d%16) 0) ?_ (bu:=by grind[Wx]) (k:=HN G);refine cp ?_;refine kQ (ab gS<|M++[92,120]++[qt (d/16)]++[qt (d%16)]) ?_ (aU:=Kd) (bl:=aK);rw[show M++[92,120]++[qt (d/16)]++[qt (d%16)]=M++o by simp_all];refine n1 fa (U b) ?_;rw[v];exact a4 (i-1,ay fa b,M++o) ⟨⟨aK,aK,aK⟩,h⟩ aK .r;have l:=u q;refine bG [(5000,5000)] ?_ (g:=amx dz m M A q q x q);rw[<-l];refine n1 fa (U b) ?_;rw[v];exact a4 (i-1,ay fa b,M++o) ⟨⟨aK,aK,aK⟩,h⟩ aK .r;have B:b=[]:=l4 q;subst B;rw[show tU K i []=[] from quoteFrom_end K i _ cf,gv] at h;refine cp ?_;refine kQ (ab gS<|M++[34]) ?_ (aU:=by exact Ax (Q:=[34])) (bl:=aK);rw[show M++[34]=c++34::(tU K (U J) J++[34]) by simp_all];exact cJ
def ajd{K:dV}(dz:st K)(m:L)(b:Y L)(J:Y C)(c:U J<=100000000)(aM:U b<=7000000000000):mL bL (fO K m) 33 [uD b,a8 J] (vE b) (uD (b++u5 K J)) (vE (b++u5 K J)):=by refine c4 func33 [] λe p d=>?_;refine bG [(5000,5000)] ?_ (g:=ajh dz m b J c aM);exact cJ
end
section
open Go.Lib Go.Sort
theorem Ig b(d:b<18446744073709551616):nDigits b<=20:=by rcases nF b with rfl|c;rw[nDigits_small q];omega;have:=numDigits_eq b c d;split at this<;>omega
def asz:Tm=pow10Tab.map λR=>R:=by decide+kernel
theorem aoW{b:Z}(d:b<20):(ab (V.int ej) Tm)[b]?=W (an ej (10^b:Z)):=by have c:=pow10Tab_at b d;rw[dX,cT (by rw[pow10Tab_length];exact d)] at c;simp[z7] at c;rw[db,asz,db,cT (by rw[pow10Tab_length];exact d),c];rfl
def apY{b:Z}(d:b<18446744073709551616):bh 143 [an ej b] (l (wS b)):=.ofInt (λc=>.int _ _) λE=>by have:=Go.Proofs.Any.bits_Len64 Tryz.apH b E q q;rwa [show aG ((b:L))=b by omega] at this
def ap7{b:Z}(c:b<=64):bh 142 [an aj b] (l (l10 b)):=.ofInt (λd=>.int _ _)<|Go.Proofs.Any.internal_strconv_log10Pow2 Tryz.apR b c
def ajU{b:X}:bh 144 [aV b] (an aj (if b then 1 else 0)):=.ofBool (λc=>.int _ _)<|Go.Proofs.Any.internal_strconv_bool2_int Tryz.apS b
theorem ao1{D:Z}(b:D<100):bh 111 [an aj D] (a8 (l8 D)):=.ofInt (λc=>.str _)<|Go.Proofs.Any.internal_strconv_small Tryz.apP D b
def arI b(e:1<=b)(c:b<18446744073709551616):bh 112 [an ej (b:Z)] (l (nDigits b)):=by refine bs func112 [] λp k=>?_;obtain⟨h,i⟩:=numDigits_eq b e c;have:=Ig b c;have f:wS b<=64:=bitLen_le b 64 (bv _) c;refine aT ?_ (g:=apY c);refine aT ?_ (g:=ap7 f);apply Do (tv:=l10<|wS b);refine ard (an ej (10^l10 (wS b):Z)) ?_<|aoW q;refine aT ?_ (g:=ajU);refine e7 (nDigits b) ?_ (s:=by rw[<-h];simp only[wR];by_cases d:10^l10 (wS b)<=b;rw[af d,af (by exact_mod_cast d)];push_cast;rfl;rw[ad d,ad (by exact_mod_cast d)];push_cast;rfl);exact aL
end
section
open Go.Lib
def anB(b:Z)(c:b<18446744073709551616):dF 113 [.a 6000 0 (nDigits b),an ej b] [(6000,.j 1 193 (cM 24 rf))] (cv []) [(6000,.j 1 193 (cM 0 rf++(ab bF (l8 b)++cM (24-0-nDigits b) rf)))]:=anv aa (by grind[Ig]) (λbR e cap I E f d=>Go.Proofs.Any.internal_strconv_formatBase10 Tryz.apQ bR e cap b I E d (by grind[lt_pow_nDigits]) c (by grind[Ig]))<|nDigits_pos b
def aj_{b:Y C}:∀I∈ab bF b,U I.cells=1:=λI c=>by obtain⟨d,_,rfl⟩:=dI.1 c;rfl
theorem ajs(d:Y C)(b:Z)(e:b<18446744073709551616)(aM:U d<=9000000000000):dF 80 [.a 5000 0 (U (ab bF d)),an ej (b:Z),an aj 10] [(5000,.j 1 5 (ab bF d))] (.a 5000 0 (U (ab bF (d++l8 b)))) [(5000,.j 1 5 (ab bF (d++l8 b)))]:=by
 refine c4 func80 [] λm p h=>?_;have l:=Ig b e;have k:=decDigits_length b;refine nc.mk (λ_=>?_) nofun;apply f<;>intro i
 .refine iG (b:Z)<|aT ?_ (g:=ao1 (D:=b) q);refine kQ (ab bF<|d++l8 b) ?_ (bl:=aK);exact cJ
 refine abT (R:=24) ?_ (aX:=ba) (aU:=ba);refine aT ?_ (g:=arI b q e);refine SU 0 (nDigits b) (nDigits b) (A6:=cf)<|bG [(6000,7)] ?_ (g:=anB b e);refine SU 0 (nDigits b) (nDigits b) ?_ (A6:=aK);refine kQ (ab bF<|d++l8 b) ?_ (gi:=.a (xJ:=7) (CQ:=193) aa aa aa aa aa aq (by intro I c;rcases fp.1 c with c|c;trivial;rcases fp.1 c with c|c;exact aj_ I c;rw[zT c];rfl)) (aU:=aq) (bl:=aK);exact cJ
abbrev ve(b:Y C):bS:=[(5000,.j 1 5<|ab bF b)]
abbrev vf(b:Y C):V:=.a 5000 0<|U<|ab bF b
def agX{b:L}:0<=hf IntKind.u64 b/\hf IntKind.u64 b<18446744073709551616:=by have:hf IntKind.u64 b=b%18446744073709551616:=aa;omega
def KN{b Q:Y C}:ab bF b++ab bF Q=ab bF (b++Q):=ao
def pd(b:L):Y C:=if b<0 then 45::l8 (aG<|hf IntKind.u64<|-hf IntKind.u64 b) else l8 (aG<|hf IntKind.u64 b)
def WK(b:Y C){c:L}(d:0<=c/\c<18446744073709551616)(aM:U b<=9000000000000):dF 80 [vf b,an ej c,an aj 10] (ve b) (vf (b++l8 (aG c))) (ve (b++l8 (aG c))):=by grind[ajs]
def aiT(b:Y C)(c:L)(aM:U b<=8000000000000):dF 53 [vf b,an aj c,an aj 10] (ve b) (vf (b++pd c)) (ve (b++pd c)):=by obtain⟨d,bl⟩:∃d,pd c=d:=⟨_,aa⟩;rw[bl];rw[pd] at bl;refine c4 func53 [] λi p h=>?_;refine wa _ ?_;apply f<;>intro e;rw[af e] at bl;refine cp ?_;refine kQ (ab _<|b++[45]) ?_ (bl:=aK);refine ab5 _ ?_;refine bG [(5000,5000)] ?_ (g:=WK (b++[45]) agX aK);rw[show b++[45]++l8 _=b++d by(simp;omega)];exact cJ;rw[ad e] at bl;refine bG [(5000,5000)] ?_ (g:=WK b agX q);rw[bl];exact cJ
def aiU(b:Y C){c:L}(aM:U b<=8000000000000):dF 34 [vf b,an aj c,an aj 10] (ve b) (vf (b++pd c)) (ve (b++pd c)):=by refine c4 func34 [] λe p d=>?_;refine bG [(5000,5000)] ?_ (g:=aiT b c aM);exact cJ
def aip(b:Y C)(c:X)(aM:U b<=8000000000000):dF 81 [vf b,aV c] (ve b) (vf (b++(if c then[116,114,117,101] else[102,97,108,115,101]))) (ve (b++(if c then[116,114,117,101] else[102,97,108,115,101]))):=by refine c4 func81 [] λg p e=>?_;apply f<;>intro d;subst d;refine kQ _ ?_ (aU:=by exact KN);exact cJ;obtain rfl:c=ae:=aq;refine kQ _ ?_ (aU:=by exact KN);exact cJ
def aio(b:Y C){c:X}(aM:U b<=8000000000000):dF 54 [vf b,aV c] (ve b) (vf (b++(if c then[116,114,117,101] else[102,97,108,115,101]))) (ve (b++(if c then[116,114,117,101] else[102,97,108,115,101]))):=by refine c4 func54 [] λe p d=>?_;refine bG [(5000,5000)] ?_ (g:=aip b c aM);exact cJ
end
section
open Go.Lib
def Nj(K:dV)(m:L){P:bn}{d:fM}{f:Y V}{e:bV}{ak:V->bV->Prop}(r:g3 P fT d f e ak):g3 P (fO K m) d f e ak:=by intro h u E s k l b n;refine iK (r h u E s k l ⟨b.le,⟨b.t.os,b.t.tape,b.t.output,b.t.size,b.t.block⟩,b.nl,b.nr,b.ns,b.own,b.jT,b.lT,b.gd,b.kt,b.ld,b.inj⟩ λi w y=>n i w (by grind[fT,fO])) ?_;rintro x z ⟨v,A,M,g,he,o,p,c⟩;exact⟨v,A,M,g,he,o,p,⟨c.le,⟨c.t.os,c.t.tape,c.t.output,c.t.size,c.t.block⟩,c.nl,c.nr,c.ns,c.own,c.jT,c.lT,c.gd,c.kt,c.ld,c.inj⟩⟩
def Iy(K:dV)(m:L){P:bn}{b:fM}{e:Y V}{c d:bS}{A:V}(f:mL P fT b e c A d):mL P (fO K m) b e c A d:=λo=>Nj K m<|f o
def rW(K:dV)(m:L){P:bn}{b:fM}{c:Y V}{A:V}(d:eN P fT b c A):eN P (fO K m) b c A:=Nj K m d
def W8(b:Y C):ab bF b=ab gS (b.map λc=>(ax c:Int)):=by simp[bF,gS]
def ajb{K:dV}(dz:st K)(m:L)(b:Y C){J:Y C}(f:U J<=100000000)(aM:U b<=7000000000000):mL bL (fO K m) 33 [vf b,a8 J] (ve b) (vf (b++mZ K J)) (ve (b++mZ K J)):=by
 have d:=ajd dz m (b.map λc=>ax c) J f aq;have e:ab gS ((b.map λc=>(ax c:Int))++u5 K J)=ab bF (b++mZ K J):=by rw[dc,dc,<-W8,mZ,aj9<|ar8 K J]
 simp only[uD,vE,e,<-W8] at d;exact d
def xp(b:Y C):bS:=[(6000,ah 38<|b2 [.a 5001 0 (U<|ab bF b)]),(5001,.j 1 5<|ab bF b)]
def yu(K:dV)(m:L)(e:fM)(f:V)(d:Y C):Prop:=∀c,U c+U d<=6000000000000->mL bL (fO K m) e [b 6000,f] (xp c) (cv []) (xp<|c++d)
def amz(J:Y C):V:=a8 J
def l2(K:dV)(b:Y (Y C)):Y C:=ff (mZ K) b
def pz(b:L):Y C:=pd b++[32]
def jm(b:Y L):Y C:=ff pz b
def zC(b:X):Y C:=(if b then[116,114,117,101] else[102,97,108,115,101])++[32]
def r7(b:Y X):Y C:=ff zC b
theorem LK{d:Type} [l9 d]{ar:d->Y C}{c:Y d}{b:Z}(e:b<U c):ff ar (am (b+1) c)=ff ar (am b c)++ar (y c b av):=by grind[List.take_add_one,List.getElem?_eq_getElem]
theorem LJ{b:Type}{ar:b->Y C}{H:Y b}{D:Z}:U (ff ar (am D H))<=U (ff ar H):=by grind[List.take_append_drop,List.length_append]
def vU{e:Type}{c:e->Y C}{b:Y e}{d:Z}(f:U b<=d):ff c (am d b)=ff c b:=by rw[kC f]
def A9{K:dV}(dz:st K){m:L}(H:Y (Y C))(n:∀J∈H,U J<=100000000)(v:U H<=10000000000000):yu K m 13 (.al 1 (ab amz H)) (l2 K H):=by
 intro d aM;obtain⟨A,h⟩:∃A,d++l2 K H=A:=⟨_,aa⟩;rw[h];refine c4 func13 [] λx p s=>?_;refine c8 _ (λc=>⟨[(0,b _),(6,.al 1 _),(7,_),(8,l c.1)],xp c.2,[]⟩) (λc=>c.1<=U H/\c.2=d++ff (mZ K) (am c.1 H)) (λc=>U H-c.1) (0,d) (λ⟨D,M⟩ k=>?_) (bA:=.r);dsimp at k⊢;obtain⟨t,e⟩:=k;have u:=LJ (ar:=mZ K) (H:=H) (D:=D);have w:U M<=U d+U (l2 K H):=by rw[e,cd];unfold l2;omega
 apply f<;>intro o;have i:D<U H:=q;refine bB D _ ?_ (k:=eZ i);refine Nf 6000 [0]<|bG [(5000,5001)] ?_ (g:=ajb dz m M (n _<|ka i) q);refine aY ?_;exact a4 (D+1,M++mZ K (y H D av)) ⟨q,by grind[LK,List.append_assoc]⟩;rw[vU q,show d++ff _ H=A from h] at e;subst e;exact cJ
def v1{K:dV}(m:L)(H:Y L)(u:U H<=10000000000000):yu K m 14 (.al 1 (ab gI H)) (jm H):=by
 intro d aM;obtain⟨A,h⟩:∃A,d++jm H=A:=⟨_,aa⟩;rw[h];refine c4 func14 [] λw p s=>?_;refine c8 _ (λc=>⟨[(0,b 6000),(6,.al 1<|ab gI H),(7,_),(8,l c.1)],xp c.2,[]⟩) (λc=>c.1<=U H/\c.2=d++ff pz (am c.1 H)) (λc=>U H-c.1) (0,d) (λ⟨D,M⟩ k=>?_) (bA:=.r);dsimp only at k⊢;obtain⟨t,e⟩:=k;have n:=LJ (ar:=pz) (H:=H) (D:=D+1);apply f<;>intro o;have i:D<U H:=q;have bA:=LK (ar:=pz) i;have v:U M+U (pz (y H D av))<=U d+U (jm H):=by rw[bA,cd] at n;rw[e,cd];unfold jm;omega
 have aX:U (pz (y H D av))=U (pd (y H D av))+1:=by simp[pz]
 refine bB D _ ?_ (k:=eZ i);refine Nf 6000 [0]<|bG [(5000,5001)] ?_ (g:=Iy K m<|aiU M q);refine cp ?_;refine kQ _ ?_ (aU:=by exact KN (Q:=[32])) (bl:=kj);refine aY ?_;rw[eS];exact a4 (D+1,M++pz (y H D av)) ⟨q,aq⟩ (bA:=.r);rw[vU q,show d++ff pz H=A from h] at e;subst e;exact cJ
def HS{K:dV}(m:L)(H:Y X)(u:U H<=10000000000000):yu K m 35 (.al 1 (ab bE H)) (r7 H):=by
 intro d aM;obtain⟨A,h⟩:∃A,d++r7 H=A:=⟨_,aa⟩;rw[h];refine c4 func35 [] λw p s=>?_;refine c8 _ (λc=>⟨[(0,b 6000),(6,.al 1<|ab bE H),(7,_),(8,l c.1)],xp c.2,[]⟩) (λc=>c.1<=U H/\c.2=d++ff zC (am c.1 H)) (λc=>U H-c.1) (0,d) (λ⟨D,M⟩ k=>?_) (bA:=.r);dsimp only at k⊢;obtain⟨t,e⟩:=k;have n:=LJ (ar:=zC) (H:=H) (D:=D+1);apply f<;>intro o;have i:D<U H:=q;have bA:=LK (ar:=zC) i;have v:U M+U (zC (y H D av))<=U d+U (r7 H):=by rw[bA,cd] at n;rw[e,cd];unfold r7;omega
 have aX:U (zC (y H D av))=U (if y H D av then[116,114,117,101] else[102,97,108,115,101]:Y C)+1:=by simp[zC]
 refine bB D _ ?_ (k:=eZ i);refine Nf 6000 [0]<|bG [(5000,5001)] ?_ (g:=Iy K m<|aio M q);refine cp ?_;refine kQ _ ?_ (aU:=by exact KN (Q:=[32])) (bl:=kj);refine aY ?_;rw[eS];exact a4 (D+1,M++zC (y H D av)) ⟨q,aq⟩ (bA:=.r);rw[vU q,show d++ff zC H=A from h] at e;subst e;exact cJ
end
def afy{p:bJ}{e:bf}{m:bV}{E:bI}(l:Holds p e m E){c:Z}{B:dd}{R:L}(b:bk e (fN 1 [an B R] 0 0) (ib (W ⟨c,0,ai⟩))):ho E ⟨c,0,ai⟩=W (cN B R):=by obtain⟨i,d⟩:∃i,i=ib (W ⟨c,0,ai⟩):=⟨_,aa⟩;rw[<-d] at b;cases b with|ref _ _ _ _ n base val o k b=>have f:=k 0 0 _ _ aa aa;have g:=b 0 0 _ _ aa aa;simp at d;obtain⟨rfl,aM⟩:=d;rw[show base+0*1+0=0 from aM] at f;have h:=l.jT _ _ _ f;generalize val 0 0=r at g h;cases g;exact h
def acQ:∀b:Y C,te b [123,123]=jH b|[]=>aa|[c]=>by simp[te,List.isPrefixOf,jH]|c::d::A=>by rw[te,acQ _,jH];have:=ar7<|d::A;grind
def RM{e:Type}{d:e->X}:∀(c:Y e)(b:Z),iu d c (b+1)=if iu d c b=-1 then-1 else iu d c b+1|[],b=>aa|f::c,b=>by rw[iu,iu];split;rfl;exact RM c _
def aab(n:C):∀b:Y C,eG b n=iu (y9 n) b 0
|[]=>aa|c::b=>by
 rw[eG,iu,RM,aab n b];have:(c==n)=y9 n c:=by rw[y9,nA,Pn,kk];exact⟨λd=>by rw[d],λd=>z9.1 q⟩
 simp_all
def RL(c:Y C):∀b:Y C,Lib.indexAny b c=iu (λd=>j1 c d) b 0|[]=>aa|d::b=>by rw[Lib.indexAny,iu,RM,RL c b];simp
def Jx{Q n:C}:aH ((ax Q:L)=(ax n:L))=(Q==n):=by grind[UInt8.toNat_inj]
def ak2(b:Y C):Lib.indexAny b [123,125]=ml b:=by rw[RL,ml];congr 1;funext Q;have c:=Jx (Q:=Q) (n:=125);have d:=Jx (Q:=Q) (n:=123);show _=(aH _||aH _);grind
def aad{g:Type}{f:g->X}:∀(b:Y g)(e:Z),aH (0<=iu f b e)=!dh b λc=>!f c|[],e=>aa|c::b,e=>by rw[iu,JV];by_cases d:f c;simp[d];rw[ad d,aad b _];simp[d]
def atw(b:Y C):aH (0<=Lib.indexAny b [32,123,125])=!dh b wg:=by rw[RL,aad];congr 2;funext Q;have c:=Jx (Q:=Q) (n:=32);have d:=Jx (Q:=Q) (n:=125);have e:=Jx (Q:=Q) (n:=123);show _=!(aH _||aH _||aH _);grind
open Go.Shelf Go.Proofs in
def ao9(K:dV)(m:L)(J:Y C)(o:U J<=100000000):eN bL (fO K m) 164 [a8 J,a8 [123,123]] (an aj (jH J)):=by
 intro g f E r h b c i;obtain⟨d,e,rfl⟩:∃d e,f=[d,e]:=by
  match f,h with|[k,l],_=>simp
 cases b 0 _ _ aa aa;cases b 1 _ _ aa aa;have p:gD (⟨aO J⟩:kZ)=U J:=by show a9 (aO J)=_;simp
 refine iK (Any.strings_Index Tryz.aaI _ _ m E q<|afy c<|i _ _<|show(10,V.ref 1 [an aj m] 0 0)∈fO K m by simp[fO]) ?_;rintro n s ⟨rfl,rfl⟩;have:=acQ J;exact⟨_,an _ _,[],g,aa,⟨aq,aa⟩,.int _ _,c.grown ⟨aa,aa,aa,bv _,λ_ _ _=>aa⟩⟩
open Go.Shelf Go.Proofs in
def aac{i:Y (Z×V)}(J b:Y C)(c:b=[123,125]\/b=[32,123,125])(m:U J<=100000000):eN bL i 165 [a8 J,a8 b] (an aj (Lib.indexAny J b)):=.fixed (.str<|.str .nil) (λh=>.int _ _) λE=>by
 have n:gD (⟨aO J⟩:kZ)=U J:=by show a9 (aO J)=_;simp
 have d:(Tryz.prog.info? (Tryz.ge.t 116)).map (λe=>(e.zero,e.size))=W (W<|h0<|td 256<|hA ae,256):=cb;by_cases l:U J<=8;exact Tryz.ao_ _ _ bi q E;refine iK (Any.strings_IndexAny_long Tryz.aaK (zero_of_info d).1 (zero_of_info d).2 _ _ E (by rcases c with rfl|rfl<;>decide) q q (by rcases c with rfl|rfl<;>decide) (by rcases c with rfl|rfl<;>exact ascii_of_all a2)) λk o ⟨f,g⟩=>⟨f,?_⟩;rw[g];exact((Ef _ _).alloc (bv _) _).alloc ao _
def aka{i:Y (Z×V)}(iP:eh i)(J:Y C)(b:U J<=100000000):eN bL i 222 [a8 J,a8 [32,123,125]] (aV !dh J wg):=by refine bs func222 [] (λp c=>?_) (iP:=iP);refine aT ?_ (g:=aac J _ (bp aa) b);exact aL (s:=by rw[<-atw];rfl)
open Go.Shelf Go.Proofs in
def ao7{i:Y (Z×V)}(J:Y C):eN bL i 215 [a8 J,a8 [32]] (an aj (pw J)):=.C3 (.str<|.str .nil) (λb=>.int _ _) λE=>by have:=Any.stringslite_Index_one Tryz.apO ⟨aO J⟩ 32 E;rwa [show eG _ 32=pw J from aab 32 J] at this
def alN{i:Y (Z×V)}(iP:eh i)(J:Y C)(h:U J<=100000000):eN bL i 273 [a8 J,a8 [32]] (cv [a8 (oc J),a8 (nz J),aV (s8 J)]):=by
 have e:pw J=-1\/0<=pw J/\pw J<U J:=by have:=RA (G:=y9 32) J 0;simpa[pw] using this
 have c:=ao7 (i:=i) J;rw[oc,nz,s8];generalize pw J=b at*;refine bs func273 [] (λp d=>?_) (iP:=iP);refine aT ?_ (g:=c);apply f<;>intro s;obtain⟨R,rfl⟩:∃R:Z,b=R:=⟨aG b,q⟩;refine fA ?_;refine n1 0 R ?_;refine e7 (R+1:Z) ?_ (s:=aa);refine n1 _ _ ?_;rw[kC (l:=ay (R+1) J) ao,ad q,ad q,oY q];exact aL;rw[af q,af q,Aa q];exact aL
def alM{i:Y (Z×V)}(iP:eh i)(J:Y C)(b:U J<=100000000):eN bL i 221 [a8 J,a8 [32]] (cv [a8 (oc J),a8 (nz J),aV (s8 J)]):=by refine bs func221 [] (λp c=>?_) (iP:=iP);refine aT ?_ (g:=alN iP J b);exact aL
def aoz{i:Y (Z×V)}(iP:eh i)(J:Y C)(e:U J<=100000000):eN bL i 220 [a8 J,a8 [125,125]] (aV (aH (y J 0 0=125/\y J 1 0=125))):=by refine bs func220 [] (λp d=>?_) (iP:=iP);apply cL;intro s;refine n1 0 2 ?_ (fh:=kj);exact aa;exact aL (s:=by rcases J with _|⟨b,_|⟨c,J⟩⟩<;>simp[eR,gp]<;>omega)
def aoy{i:Y (Z×V)}(iP:eh i)(J:Y C)(b:U J<=100000000):eN bL i 166 [a8 J,a8 [125,125]] (aV (aH (y J 0 0=125/\y J 1 0=125))):=by refine bs func166 [] (λp c=>?_) (iP:=iP);refine aT ?_ (g:=aoz iP J b);exact aL
def iy(n R:C):Y C->Y C|[]=>[]|[b]=>[b]|b::c::A=>if b=126/\c=n then R::iy n R A else b::iy n R (c::A)
def T4(n R:C):∀(c:Z)(J:Y C),U J<=c->Lib.replaceK [126,n] [R] (Lib.count J [126,n]) J=iy n R J
|c,[],_=>ba|c,[d],_=>by rw[Lib.count_miss (by simp[te])];rfl|0,d::b::A,m=>cf|c+1,d::b::A,m=>by
 have g:[126,n]≠[]:=ao;rw[iy];by_cases i:d=126/\b=n;have k:te (d::b::A) [126,n]=(0:Z):=by rw[te,af aq];rfl
 rw[af i,Lib.count_hit g k,ta,Lib.replaceK_hit _ _ _ _ 0 k];have:=T4 n R c A aK
 (simp;omega)
 rw[ad i];have e:=T4 n R c (b::A) aq;have k:te (d::b::A) [126,n]=if te (b::A) [126,n]==-1 then-1 else te (b::A) [126,n]+1:=by rw[te,ad aK]
 have o:=Lib.index_ge (b::A) [126,n];by_cases hm:te (b::A) [126,n]=-1;rw[hm] at k;rw[Lib.count_miss hm] at e;rw[Lib.count_miss cf,<-e];rfl;obtain⟨f,h⟩:∃f:Z,te (b::A) [126,n]=f:=⟨aG<|te (b::A) [126,n],q⟩;have l:te (d::b::A) [126,n]=(f+1:Z):=by rw[k,ad aq,h];rfl
 rw[Lib.count_hit g h,ta,Lib.replaceK_hit _ _ _ _ f h] at e;rw[Lib.count_hit g l,ta,Lib.replaceK_hit _ _ _ _ _ l,<-e];rfl
def auQ{n R:C}(J:Y C):Lib.replaceAll J [126,n] [R]=iy n R J:=by unfold Lib.replaceAll Lib.replace;rw[ad ao,Lib.replaceNum,af<|bj a2];exact T4 n R _ J<|bv _
def i9:Y C->X|[]=>ag|b::A=>(b !=126||(y A 0 0==48||y A 0 0==49))&&i9 A
def sH:Y C->Y C|[]=>[]|[b]=>[b]|b::c::A=>if b=126 then(if c=48 then 126 else 47)::sH A else b::sH (c::A)
def Ju{P:Y C->Prop}(f:P [])(g:∀b A,b≠126->i9 A->P A->P (b::A))(h:∀d A,d=48\/d=49->i9 A->P A->P (126::d::A)):∀(e:Z)(J:Y C),U J<=e->i9 J->P J|_,[],_,_=>f|0,b::A,l,_=>cf|e+1,b::A,l,c=>by rw[i9,m7] at c;by_cases k:b=126;subst k;rcases A with _|⟨d,A⟩;trivial;simp at c;have i:=c.2;rw[i9,m7] at i;exact h d A c.1 i.2<|Ju f g h e A aK i.2;exact g b A k c.2<|Ju f g h e A aq c.2
theorem TQ{n R z:C}{A:Y C}(c:z≠126):iy n R (z::A)=z::iy n R A:=by cases A with|nil=>rfl|cons b A=>simp_all[iy,ad]
theorem Ya{b:C}{A:Y C}(c:b≠126):sH (b::A)=b::sH A:=by cases A with|nil=>rfl|cons d A=>rw[sH,ad c]
def amq(J:Y C)(c:i9 J):iy 48 126 (iy 49 47 J)=sH J:=by refine Ju (P:=λJ=>iy 48 126 _=sH J) aa (λz A e _ b=>?_) (λd A aM _ b=>?_) _ J (bv _) c;grind[TQ,Ya];rcases aM with rfl|rfl;rw[iy,ad a2,TQ (z:=48) a2,iy,af a2,sH,af aa,af aa,b];rw[iy,af a2,TQ a2,sH,af aa,ad a2,b]
def fW:Y C->Y C->Y (Y C)|[],O=>[O]|b::A,O=>if b=47 then O::fW A [] else fW A (O++[b])
def rI(O:Y C):Y (Y C)->Y (Y C)|[]=>[]|c::b=>(O++c)::b
def zA:∀(A O:Y C),fW A O=rI O (fW A [])|[],O=>by simp[fW,rI]|b::A,O=>by rw[fW,fW];by_cases c:b=47;simp_all[af,rI];rw[ad c,ad c,zA A _,zA A<|[]++[b]];cases fW A []<;>simp[rI]
theorem afB(A:Y C):fW A []≠[]:=by
 induction A with
 |nil=>trivial|cons b A d=>rw[fW];split;simp;rw[zA];cases c:fW A [] with|nil=>trivial|cons f e=>simp[rI]
def atm(J:Y C)(b:i9 J):∀out O,p_ J out O=W (out++rI O (ab sH (fW J []))):=by
 refine Ju (P:=λJ=>∀out O,p_ J out O=W (out++rI O (ab sH<|fW J []))) (λout O=>?_) (λe A i k d out O=>?_) (λf A aM k d out O=>?_) _ J (bv _) b;simp[p_,fW,rI,sH];rw[p_];by_cases c:e=47;subst c;rw[af aa,d,fW,af aa];cases b:fW A [] with|nil=>grind[cg,afB]|cons h g=>simp[rI,sH]
 rw[ad c,ad i,d,fW,ad c,zA A<|[]++[e]];cases b:fW A [] with|nil=>rfl|cons h g=>grind[rI,Ya]
 rw[p_,ad a2,af aa];have l:fW (126::f::A) []=rI [126,f] (fW A []):=by rw[fW,ad a2,fW,ad aK,zA];rfl
 cases b:fW A [] with|nil=>grind[cg,afB]|cons h g=>grind[rI,sH]
def atl:∀(J:Y C),i9 J=ae->∀out O,p_ J out O=ai:=by
 have l:∀(b:Z)(J:Y _),U J<=b->i9 J=ae->∀out O,p_ J out O=ai:=by
  intro b
  induction b with
  |zero=>intro J e;obtain rfl:J=[]:=l4 q;simp[i9]|succ b k=>
   intro J e i out O;rcases J with _|⟨c,A⟩;trivial;rw[p_];have h:=by simp at e;omega
   by_cases f:c=47;subst f;rw[af aa,k A h cf];by_cases g:c=126;subst g;rcases A with _|⟨d,A⟩;simp;have m:d=48\/d=49->i9 A=ae:=λaM=>by rcases aM with rfl|rfl<;>simpa[i9] using i
   grind;simp_all[ad,i9]
 exactλJ=>l _ J<|bv _
def av4(J:Y C)(d:i9 J):∀c∈fW J [],i9 c:=by
 refine Ju (P:=λJ=>∀c∈fW J [],i9 c) (λc b=>by simp[fW] at b;subst b;rfl) (λl A m i e c b=>?_) (λf A aM i e c b=>?_) _ J (bv _) d;rw[fW] at b;split at b;rcases fH.1 b with rfl|b;rfl;simp_all;rw[zA] at b;cases d:fW A [] with|nil=>grind[rI]|cons g k=>rw[d] at b e;rcases fH.1 b with rfl|b;grind[i9];simp_all
 have h:fW (126::f::A) []=rI [126,f] (fW A []):=by rw[fW,ad a2,fW,ad aK,zA];rfl
 rw[h] at b;cases d:fW A [] with|nil=>grind[rI]|cons g k=>rw[d] at b e;rcases fH.1 b with rfl|b;have:=e g ao;rcases aM with rfl|rfl<;>simp[i9,this];simp_all
def at2{b:Y C}(f:b≠[]):BI b=if y b 0 0≠47\/i9 b=ae then 6 else BH ((fW (ay 1 b) []).map λc=>iy 48 126<|iy 49 47 c):=by
 rcases b with _|⟨e,A⟩;trivial;rw[BI,ad f];simp only[List.drop_succ_cons,qn];by_cases g:e=47;subst g;have h:i9 (47::A)=i9 A:=by simp[i9]
 rw[ad ao,h];by_cases d:i9 A;rw[atm A d,ad aK];rw[hY λc i=>amq c<|av4 A d c i];cases k:fW A [] with|nil=>rfl|cons c l=>rfl
 simp_all[i9,atl,af];simp_all
def ame(b:C):fr b=sG b:=by rw[fr,sG,Bc];grind
def aw8(J:Y C)(h:U J<=1048576):bh 223 [a8 J] (aV (x7 J)):=by
 have c:=agr J;rw[show fr=sG from funext ame] at c;refine bs func223 [] λp i=>?_;apply cL;intro _;exact aa;apply cL;intro _;refine ch ?_ (g:=ags J h);exact aa;apply cL;intro b;refine gK 0 (y J 0 0) ?_ (k:=aK);apply cy;intro _;exact aa;exact aa;have f:aH ¬(ax (y J 0 0):L)=ax (48:C)=aH (y J 0 0≠48):=tc.2 ⟨λb n=>b (by rw[n]),λb n=>b<|uG 48 n⟩;have e:aH (Lib.trimS J [48,49,50,51,52,53,54,55,56,57]=[])=dh J sG:=by rw[nA,kk,c]
 have d:x7 J=(aH ¬J=[]&&aH ((U J:L)<=3)&&aH (Lib.trimS J [48,49,50,51,52,53,54,55,56,57]=[])&&(aH ¬ax (y J 0 0)=(ax (48:C):L)||aH (J=[48]))):=by rw[x7,f,e]
 rw[d];exact aL
def SZ(n:C){b:C}(d:¬b=n):¬(ax b:L)=(ax n:L):=λc=>d<|uG n c
def axU{J:Y C}{b:Z}(c:b<U J):i9 (ay b J)=((J[b]!=126||(y (ay (b+1) J) 0 0==48||y (ay (b+1) J) 0 0==49))&&i9 (ay (b+1) J)):=by rw[l3 c,i9]
def axV(J:Y C)(E:U J<=100000000):bh 275 [a8 J] (aV (i9 J)):=by
 refine bs func275 [] λp D=>?_;refine gN (U J) (λb=>i9 J=i9 (ay b J)) (λb=>⟨[(0,a8 J),(5,l<|U J),(6,l b)],[],[]⟩) (λb k=>?_) aa .r;apply f<;>intro z;have s:b<U J:=q;have d:=k.2;rw[axU s] at d;have w:y (ay (b+1) J) 0 0=y J (b+1) 0:=ao;rw[w] at d;refine gK b J[b] ?_;apply cL;intro _;refine aY ?_;apply cy;intro A;refine aY ?_;refine gK (b+1) (y J (b+1) 0) ?_ (k:=pZ q);apply cL;intro _;refine aY ?_;refine gK (b+1) (y J (b+1) 0) ?_ (k:=pZ q);exact aa;exact aa;exact aa;have x:U J<=b+1->y J (b+1) 0=0:=λn=>aq;generalize y J (b+1) 0=c at*;apply f<;>intro e;have g:c≠48/\c≠49:=by rcases e.2 with s|⟨h,i⟩;grind;exact⟨λn=>h aq,λn=>i aq⟩
 have m:i9 J=ae:=by rw[d,uG 126 e.1];simp[g.1,g.2]
 exact aL (s:=by rw[m];rfl);refine aY ?_;have u:(J[b]!=126||(c==48||c==49)):=by by_cases B:J[b]=126;have v:=λn=>e ⟨aq,n⟩;by_cases o:c=48;simp_all;by_cases t:c=49;simp_all;exact cg (bp ⟨SZ 48 o,SZ 49 t⟩) v;grind
 rw[u,B0] at d;exact a4 (b+1) ⟨q,d⟩;exact aL (s:=by rw[k.2,kA q];rfl)
def Jg:∀(J O:Y C),U (fW J O)=lp 47 J+1|[],O=>aa|c::A,O=>by rw[fW];by_cases b:c=47;rw[af b,l5,Jg A,b];simp;rw[ad b,Jg A,U8 b]
def afC:∀(J:Y C)(R:Z),eG J 47=R->R<U J/\fW J []=am R J::fW (ay (R+1) J) []|[],R,b=>cf|c::A,R,b=>by rw[eG] at b;by_cases aM:c=47;subst aM;obtain rfl:R=0:=aK;simp[fW];rw[ad aq] at b;by_cases hm:eG A 47=-1;simp_all;rw[ad aq] at b;obtain⟨B,rfl⟩:∃B,R=B+1:=⟨R-1,q⟩;have d:=afC A B q;refine⟨aq,?_⟩;rw[fW,ad aM,zA,d.2];rfl
def afD:∀(J:Y C),lp 47 J=0->fW J []=[J]|[],_=>aa|c::A,b=>by by_cases aM:c=47;grind;rw[U8 aM] at b;rw[fW,ad aM,zA,afD A b];rfl
def ZT:∀(J:Y C),0<lp 47 J->0<=eG J 47
|[],b=>cf|c::A,b=>by
 rw[eG];by_cases aM:c=47;grind;rw[U8 aM] at b;have:=ZT A b
 (simp;omega)
open Go.Shelf Go.Proofs in
def alI{i:Y (Z×V)}(J:Y C):eN bL i 350 [a8 J,a8 [47]] (l (lp 47 J)):=.C3 (.str<|.str .nil) (λb=>.int _ _) λE=>Any.strings_Count_one Tryz.ay_ _ 47 E
open Go.Shelf Go.Proofs in
def aoH{i:Y (Z×V)}(J:Y C):eN bL i 164 [a8 J,a8 [47]] (an aj (eG J 47)):=.C3 (.str<|.str .nil) (λb=>.int _ _) λE=>Any.strings_Index_one Tryz.aaI _ 47 E
def azB{d:Type}{I:Y d}{B:Z}{c b:d}:aR (I++cM (B+1) c) (U I) b=I++[b]++cM B c:=by grind
def Zt{I:Y (Y C)}{B:Z}:(ab V.str (I++cM (B+1) []))[(U I)]?=W (V.str []):=by simp
def awh{I:Y (Y C)}{B:Z}{b:Y C}:aR (ab V.str (I++cM (B+1) [])) (U I) (a8 b)=ab V.str (I++[b]++cM B []):=by grind
def aob{i:Y (Z×V)}(iP:eh i)(J:Y C)(bA:U J<=2000000):mL bL i 315 [a8 J,a8 [47],an aj 0,an aj (-1)] [] (.a 31 0 (U (fW J []))) [(31,.j 1 9 (ab V.str (fW J [])))]:=by
 have o:=Jg J [];have z:lp 47 J<=U J:=ahl;refine c4 func315 [20] (λH p y=>?_) (iP:=iP);apply f<;>intro h;omega;apply f<;>intro m;trivial;refine gZ j3 (λ_=>⟨[(0,a8 J),(1,a8 [47]),(2,an aj 0),(3,l<|lp 47 J+1)],[],[]⟩) (λ_=>dW) ?_ λ_ _=>?_;apply f<;>intro x;refine aT ?_ (g:=alI J);refine aY ?_;exact dn () (bA:=.r);omega;refine aY ?_;refine Bq ((lp 47 J+1:Z):L) ?_;refine kS (lp 47 J+1) (lp 47 J+1) (ab V.str<|cM (lp 47 J+1) ([]:Y C)) ?_ (aU:=wP);refine jG ((lp 47 J:Z):L) ?_;refine c8 (Y (Y C)×Y C) (λb=>⟨[(0,a8 b.2),(1,a8 [47]),(2,an aj 0),(3,l<|lp 47 J),(9,.a 31 0<|lp 47 J+1),(10,l<|U b.1)],[(31,.j 1 9<|ab V.str<|b.1++cM (lp 47 J+1-U b.1) [])],[]⟩) (λb=>(U b.1<=lp 47 J/\U b.2<=U J)/\b.1++fW b.2 []=fW J []) (λb=>lp 47 J-U b.1) ([],J) (λ⟨I,A⟩ k=>?_) ⟨⟨dJ _,bv _⟩,aa⟩ .r;dsimp only at k⊢;obtain⟨⟨B,D⟩,c⟩:=k;have E:U I+(lp 47 A+1)=lp 47 J+1:=by rw[<-o,<-c,cd,Jg]
 obtain⟨fa,vZ⟩:∃fa,lp 47 J+1-U I=fa+1:=⟨lp 47 J-U I,q⟩;have n:lp 47 J+1-(U I+1)=fa:=q;rw[vZ];apply f<;>intro h;have v:=ZT A q;obtain⟨R,e⟩:∃R:Z,eG A 47=R:=⟨_,bQ<|Int.toNat_of_nonneg v⟩;obtain⟨F,G⟩:=afC A R e;have d:=aoH (i:=i) A;rw[e] at d;refine aT ?_ (g:=d);apply f<;>intro m;omega;refine e7 ((R:Z):L) ?_ (s:=ao);refine n1 0 R ?_;refine cE (U I) ?_;refine fF (ab V.str<|I++[am R A]++cM fa []) (a8 []) (a8 _) ?_ (k:=Zt) (aU:=awh);refine e7 ((R+1:Z):L) ?_ (s:=aa);refine n1 (R+1) (U A) ?_;rw[kC (l:=ay (R+1) A) ao];refine aY ?_;exact a4 (I++[am R A],ay (R+1) A) ⟨⟨aK,aK⟩,aq⟩ aK (by simp only[cd,ri,n];exact .r);have w:=afD A q;rw[w] at c;obtain rfl:fa=0:=q;have t:fW J []=I++[A]:=bQ c;have u:lp 47 J+1=U I+1:=q;rw[t,u];refine cE (U I) ?_;refine fF (ab V.str<|I++[A]) (a8 []) (a8 _) ?_ (k:=Zt) (aU:=ao);refine aY ?_;refine zj 0 (U I+1) 0 (U I+1) ?_;rw[show U I+1=U (I++[A]) by simp];exact cJ
def awX{i:Y (Z×V)}(iP:eh i)(J:Y C)(b:U J<=2000000):mL bL i 276 [a8 J,a8 [47]] [] (.a 31 0 (U (fW J []))) [(31,.j 1 9 (ab V.str (fW J [])))]:=by refine c4 func276 [] (λd p c=>?_) (iP:=iP);refine bG [(31,31)] ?_ (g:=aob iP J b);exact cJ
open Go.Shelf Go.Proofs in
def aeQ(K:dV)(m:L)(n R:C)(J:Y C)(x:U J<=4000000):eN bL (fO K m) 277 [a8 J,a8 [126,n],a8 [R]] (a8 (iy n R J)):=by
 intro i h E z l c d o;obtain⟨e,f,g,rfl⟩:∃e f g,h=[e,f,g]:=by
  match h,l with|[r,s,n],_=>simp
 cases c 0 _ _ aa aa;cases c 1 _ _ aa aa;cases c 2 _ _ aa aa;have y:gD (⟨aO J⟩:kZ)=U J:=by show a9 (aO J)=_;simp
 have w:=Lib.countB_mul_le ⟨#[126,n]⟩ (by show 1<=2;omega) (U J) ⟨aO J⟩ q;have v:gD (⟨#[126,n]⟩:kZ)=2:=aa;have u:gD (⟨#[R]⟩:kZ)=1:=aa;refine iK (Go.Proofs.Any.strings_ReplaceAll Tryz.apJ Tryz.VN _ _ _ m E q (afy d<|o _ _<|show(10,V.ref 1 [an aj m] 0 0)∈fO K m by simp[fO]) q aK) ?_;rintro t A ⟨rfl,b⟩;rw[auQ J];exact⟨_,a8 _,[],i,aa,⟨aa,aa⟩,.str _,d.grown ⟨b.os,b.tape,b.output,b.size,λp k _=>b.block p k⟩⟩
def TR(n R:C):∀(b:Z)(J:Y C),U J<=b->U (iy n R J)<=U J|_,[],_=>bv _|_,[c],_=>bv _|0,c::d::A,e=>cf|b+1,c::d::A,e=>by rw[iy];split;have:=TR n R b A aK;grind;have:=TR n R b (d::A) aq;(simp;omega)
def akC(c:Y (Y C))(u:U c<=2000000):bh 278 [.al 1 (ab V.str c)] (an aj (BH c)):=by obtain⟨A,b⟩:∃A,BH c=A:=⟨_,aa⟩;rw[b];rw[BH] at b;refine bs func278 [] λp t=>?_;apply f<;>intro h;rw[af h] at b;exact aL (s:=by rw[<-b];rfl);rw[ad h] at b;refine gN (U c) (λe=>fB c _=fB (ay e c) (λJ=>aH<|10000<(U J:L))) (λe=>⟨[(9,.al 1 _),(10,_),(11,l e)],[],[]⟩) (λe k=>?_) (bA:=.r);apply f<;>intro o;have s:e<U c:=q;have d:=KH s k.2;refine bB e _ ?_ (k:=eZ s);refine aT ?_ (g:=Xd);generalize y c e _=v at d⊢;rw[x9];apply f<;>intro i;have m:=zQ λn=>i<|ad n;rw[oY q,OU] at d;rw[d] at b;exact aL (s:=by rw[<-b,af m];rfl);have m:=λn=>i q;rw[Aa q,D0] at d;refine aY ?_;exact a4 _ ⟨q,d⟩;have d:=k.2;rw[kA q,OX] at d;rw[d] at b;exact aL (s:=by rw[<-b];rfl)
def CI(b:Y C):Y C:=iy 48 126<|iy 49 47 b
def Ui:∀(J O:Y C),∀c∈fW J O,U c<=U J+U O|[],O,c,b=>by grind[fW]|d::A,O,c,b=>by rw[fW] at b;split at b;rcases fH.1 b with rfl|b;omega;have:=Ui A [] c b;(simp_all;omega);have:=Ui A _ c b;(simp_all;omega)
def at3(K:dV)(m:L)(c:Y C)(H:U c<=1048576):ru (fO K m) 224 [a8 c] (λ_:Y (Y C)=>dW) (λz=>cv [.al 1 (ab V.str z),an aj<|BI c]):=by
 refine tY func224 [] λJ p E=>?_;apply f<;>intro h;exact lQ 1 [2] (ec [] b5 (s:=by rw[BI,af h];rfl));rw[at2 h];refine gK 0 (y c 0 0) ?_ (k:=aK);apply cy;intro _;refine ch ?_ (g:=rW K m<|axV c q);exact aa;apply f<;>intro e;have e:y c 0 0≠47\/i9 c=ae:=by rcases e with s|s;exact bj λn=>s aq;simp_all
 rw[af e];exact lQ 1 [2] (ec [] b5);have e:¬(y c 0 0≠47\/i9 c=ae):=by rintro(s|s);exact e<|bj<|SZ 47 s;simp_all
 rw[ad e];have I:0<U c:=yh.2 h;refine n1 1 (U c) ?_;rw[kC (l:=ay 1 c) ao];refine bG [(31,1031)] ?_ (g:=awX (E8 K m) (ay 1 c) aK);have x:=Jg (ay 1 c) [];have F:lp 47 (ay 1 c)<=U (ay 1 c):=ahl;have t:=Ui (ay 1 c) [];have u:U (ay 1 c)<=1048576:=bi;generalize fW (ay 1 c) []=b at x t⊢;have D:U b<=2000000:=q;refine e9 (U b) (λd=>⟨[(4,.a 1031 0<|U b),(21,.a 1031 0<|U b),(22,l<|U b),(23,l d)],[(1031,.j 1 9<|ab V.str<|np CI b d)],[]⟩) (λd k=>?_) .r;apply f<;>intro B;have s:d<U b:=q;have v:=t _<|hL s;have G:=TR 49 47 _ b[d] (bv _);have o:(ab V.str (np CI b d))[d]?=W (a8 b[d]):=by rw[db,Sv s];rfl
 simp at v u;refine cE d ?_;refine fl (a8 b[d]) ?_ (k:=o);refine aT ?_ (g:=aeQ K m 49 47 b[d] q);refine aT ?_ (g:=aeQ K m 48 126 (iy 49 47 b[d]) q);refine cE d ?_;refine fF (ab V.str<|np CI b<|d+1) (a8 b[d]) (a8 _) ?_ (k:=o) (aU:=by rw[<-Sw s,hl];rfl);refine aY ?_;exact a4<|d+1;rw[abp q];have w:U (ab V.str (ab CI b))=U b:=ao;rw[<-w];refine xL 1031 ?_;refine aT ?_ (g:=rW K m<|akC (ab CI b) aq);apply f<;>intro i;exact lQ 1 [2] (ec [] b5);exact ec (ab CI b) b5 (s:=by simp at i;rw[show(b.map λA=>iy 48 126<|iy 49 47 A)=ab CI b from aa,i];rfl)
def ER(b E R:Y C):V:=b2 [a8 b,a8 E,a8 R]
def ati(K:dV)(m:L)(J:Y C)(F:U J<=1048576):ru (fO K m) 167 [a8 J] (λ_:j3=>dW) (λ_=>cv [ER [] (oc J) (nz J),aV<|vl J]):=by
 have w:=afA J;refine tY func167 [24,42] λG p D=>?_;refine aT ?_ (g:=alM (E8 K m) J q);generalize c:vl J=A;rw[vl] at c;generalize oc J=h at c w⊢;generalize nz J=d at c w⊢;generalize s8 J=v at c⊢;have u:=aka (E8 K m) d q;obtain⟨i,z⟩:∃i,i=!dh d wg:=⟨_,aa⟩;rw[<-z] at u;rw[show dh d wg=!i by simp_all] at c;refine aT ?_ (g:=u);refine gZ X (λe=>⟨[(2,b 2),(3,aV ae),(5,a8 d),(6,aV v),(8,aV !i),(23,a8 h),(24,aV e),(7,b 7)],[(2,ah 284<|ER [] [] []),(7,ah 284<|ER [] h d)],[]⟩) (λe=>e=aH (h∈DH)) ?_ λe aM=>?_
 .iterate 5
   apply f<;>intro x;refine dn _ ?_ .r;rw[x];rfl
  exact dn (aH<|h=y DH 5 []) (by grind[DH])
 subst aM;apply f<;>intro l;rw[af l] at c;exact qL br () b5 (s:=by rw[<-c];rfl);rw[ad l] at c;apply f<;>intro n;rw[af n] at c;refine ei ?_;apply u_<;>intro t;refine bw (λ_=>ch aa (g:=rW K m<|aw8 d q)) ?_;refine fo ?_;refine fz ?_;exact qL br () b5 (s:=by rw[<-c,t];rfl);refine fo ?_;refine fz ?_;exact qL br () b5 (s:=by rw[<-c,ah6 t];rfl);rw[ad n] at c;refine gZ X (λe=>⟨[(2,b 2),(3,aV ae),(5,a8 d),(6,aV v),(8,aV !i),(23,a8 h),(42,aV e),(7,b 7)],[(2,ah 284<|ER [] [] []),(7,ah 284<|ER [] h d)],[]⟩) (λe=>e=aH (h∈zG)) ?_ λe aM=>?_;apply f<;>intro k;exact dn (aH<|h=y zG 0 []) (by rw[k];rfl);exact dn (aH<|h=y zG 1 []) (by grind[zG]);subst aM;apply f<;>intro k
 .rw[af k] at c
  iterate 2
   apply cL;intro _;exact aa
  exact qL br () b5 (s:=by rw[<-c];rfl)
 rw[ad k] at c;apply f<;>intro o
 .rw[af o] at c;refine gG [] (λ_=>[]) [] (λB E=>?_) (g:=at3 K m d q) (kN:=gF _) (kM:=λ_ _=>gF _)
  iterate 2
   apply cL;intro _;exact aa
  exact qL br () b5 (s:=by rw[<-c];rfl)
 rw[ad o] at c;exact qL br () b5 (s:=by rw[<-c];rfl)
def acR:∀c:Y C,0<=jH c->aG (jH c)+2<=U c
|[],b=>cf|[d],b=>cf|d::e::A,b=>by
 have f:=acR<|e::A;rw[jH] at b⊢
 (simp_all;omega)
def atj(K:dV)(m:L)(J:Y C)(bA:U J<=1048576):ru (fO K m) 123 [a8 J] (λh:Y V×L=>(0<=h.2↔i6 J=ae)/\-1<=h.2) (λh=>cv [.al 3 h.1,an aj h.2]):=by
 refine tY func123 [] λO p H=>?_;refine a1.eK 1004 3 284 [4] ai ?_;refine c8 (Z×Y V) (λd=>⟨[(0,a8 J),(4,.a 1004 0<|U d.2),(5,l d.1)],[(1004,.j 3 284 d.2)],[]⟩) (λd=>(d.1<=U J/\U d.2<=2*d.1)/\i6 (ay d.1 J)=i6 J) (λd=>U J-d.1) (0,[]) (λ⟨b,M⟩ k=>?_) ⟨⟨dJ _,dJ _⟩,aa⟩ .r;dsimp only at k⊢;obtain⟨⟨I,N⟩,c⟩:=k;refine n1 b (U J) ?_;rw[kC (l:=ay b J) ao];have u:=acR<|ay b J;rw[i6] at c;refine aT ?_ (g:=ao9 K m (ay b J) aK);generalize aX:jH (ay b J)=d at c u⊢;apply f<;>intro v;rw[af v] at c;refine n1 b (U J) ?_;refine cp ?_;refine eB (M++[b2 [a8 (am (U J-b)<|ay b J),a8 [],a8 []]]) ?_ (bl:=aK);exact gq 1004<|ec (_, -1) ⟨by rw[<-c];simp,ao⟩;rw[ad v] at c;obtain⟨R,rfl⟩:∃R:Z,d=R:=⟨aG d,q⟩;simp only[Gq,Gt] at c u;simp only[B2] at u;rw[show b+(R+2)=b+R+2 by omega] at c;have w:U (ay (b+R+2) J)=U J-(b+R+2):=ao;have t:=aac (i:=fO K m) (ay (b+R+2) J) [123,125] (bj aa) q;rw[ak2] at t;have x:ml (ay (b+R+2) J)=-1\/(0:L)<=ml (ay (b+R+2) J)/\ml (ay (b+R+2) J)<U J-(b+R+2:Z):=by
  have:=RA (G:=ED) (ay (b+R+2) J) 0;rw[w] at this;rcases this with s|s;exact bj s
  (simp[ml];omega)
 generalize ml (ay (b+R+2) J)=e at c x t;refine aY ?_;refine aY ?_;refine n1 (b+R+2) (U J) ?_;rw[kC (l:=ay (b+R+2) J) ao];refine aT ?_ (g:=t);have n:=aoy (E8 K m) (ay (aG e)<|ay (b+R+2) J) aK;rw[show y (ay (aG e) (ay (b+R+2) J)) 0 0=y (ay (b+R+2) J) (aG e) 0 by simp,show y (ay (aG e) (ay (b+R+2) J)) 1 0=y (ay (b+R+2) J) (aG e+1) 0 by grind,Gt] at n;generalize z:y (ay (b+R+2) J) (aG e) 0=D at c n;generalize A:y (ay (b+R+2) J) (aG e+1) 0=E at c n;apply cy;intro o;refine aY ?_;refine aY ?_;refine n1 (b+R+2+aG e) (U J) ?_;rw[kC (l:=ay (b+R+2+aG e) J) ao];refine ch ?_ (g:=n);exact aa;apply f<;>intro o;rw[af o] at c;exact lQ 3 [2] (ec ([],((b+R:Z):L)) ⟨aK,q⟩ (s:=aa));rw[ad o] at c;obtain⟨B,rfl⟩:∃B:Z,e=B:=⟨aG e,q⟩;simp only[Gq,Gt] at c z A
 iterate 3 refine aY ?_
 refine n1 (b+R+2) (b+R+2+B) ?_;rw[show b+R+2+B-(b+R+2)=B by omega];refine gG [] (λ_=>[]) [] (λ_ _=>?_) (g:=ati K m (am B<|ay (b+R+2) J) aK) (kN:=gF _) (kM:=λ_ _=>gF _);apply f<;>intro F;rw[show vl (am B (ay (b+R+2) J))=ae by simp_all,Bool.false_and] at c;exact lQ 3 [2] (ec ([],((b+R:Z):L)) ⟨aK,q⟩ (s:=aa));rw[show vl (am B (ay (b+R+2) J))=ag by simp_all,B0] at c;refine ei ?_;refine bw (λ_=>n1 b (b+R) aa) ?_;refine bw (λ_=>kr aa) ?_;refine jY 68 (M++[b2 [a8 (am (b+R-b)<|ay b J),a8 [],a8 []],ER [] (oc<|am B<|ay (b+R+2) J)<|nz<|am B<|ay (b+R+2) J]) ?_ (bl:=aK) (k_:=ba) (sL:=ba);refine jz [(68,1004)] ?_
 iterate 3 refine aY ?_
 refine a4 (b+R+2+B+2,_) ?_ (bA:=.r);grind
def agn(K:dV)(m:L)(J:Y C)(e:U J<=1048576):ru (fO K m) 95 [a8 J] (λ_:L=>dW) (λb=>cv [an aj b,an aj<|ue J]):=by
 refine tY func95 [] λl p i=>?_;apply f<;>intro c;exact ec 0 b5 (s:=by rw[ue,af c];rfl);refine gG [] _ [] (λb k=>?_) (g:=atj K m J e) (kN:=gF _) (kM:=λ_ _=>gF _);apply f<;>intro h;exact ec b.2 b5 (s:=by rw[ue,ad c,ad aK];rfl);have d:i6 J:=by by_cases n:i6 J;exact n;simp_all
 exact ec 0 b5 (s:=by rw[ue,ad c,af d];rfl)
abbrev V0:=Y k4×Y k4×Y V
noncomputable def IP(J:eT)(c:Cm)(b:V0):V:=c.e J (.al 6<|ab pg b.1) (.al 6<|ab pg b.2.1)<|.al 1 b.2.2
def aoo(b:Am):FQ b=if¬A5 b.name then 8 else ue b.value:=by grind[FQ,A5,uf,HC]
def asK(K:dV)(m:L)(J:eT)(bA:J.ok)(n:Cm)(h:V0):iL bL (fO K m) 62 [b 6000] [] [(6000,ah 126 (IP J n h))] (λ_:j3=>dW) (λ_=>an aj<|iN<|BN J) (λ_=>[]) (λ_=>[(6000,ah 126<|IP J n h)]):=by obtain⟨A,c⟩:∃A,iN (BN J)=A:=⟨_,aa⟩;rw[c];rw[BN,eS,kh,kh,na] at c;have H:=bA.iS.1;refine iL.of_wp (K:=hX) [9,82] gm br (E8 K m) ⟨func62,ba,aa⟩ aa aa aa λI p D E=>?_;let G:kE bL hX p (fO K m) _ [9,82]:=⟨gm,br,D,E8 K m,E⟩;refine gZ X (λi=>⟨[(0,b 6000),(9,aV i)],[(6000,ah 126<|IP J n h)],[]⟩) (λi=>i=aH (((J.times<0\/1000000<J.times)\/J.status<200)\/599<J.status)) ?_ λi aM=>?_;apply cy;intro _;exact aa;apply f<;>intro o;exact dn (aH (J.times<0)||aH (1000000<J.times)) aq;apply cy;intro _;exact aa;exact dn (aH (J.status<200)||aH (599<J.status)) aK;subst aM;apply f<;>intro o;rw[sB o a2] at c;exact ec () b5 (s:=by rw[<-c];rfl);rw[sA o] at c;apply f<;>intro u;rw[sB u a2] at c;exact ec () b5 (s:=by rw[<-c];rfl);rw[sA u] at c;refine gN (U J.iS) (λe=>iN (ab FQ (ay e J.iS)++[ue J.text,nT (¬J.text=[]/\(J.status=204\/J.status=304)) 2,nT (J.sE<0\/1000000000<J.sE) 9])=A) (λe=>⟨[(0,b 6000),(50,.al 2<|ab vP J.iS),(51,_),(52,l e)],[(6000,ah 126<|IP J n h)],[]⟩) (λe k=>?_) c .r;apply f<;>intro F;have s:e<U J.iS:=q;have d:=k.2;rw[C6 s] at d;have t:=bA.iS.2 _<|ka s;refine bB e (vP<|y J.iS e av) ?_ (k:=eZ s);generalize y J.iS e av=C at t d⊢;rw[aoo] at d;refine aT ?_ (g:=rW K m<|ZC C.name t.1.le);apply f<;>intro z;rw[af z,jg a2] at d;exact ec () b5 (s:=by rw[<-d];rfl);rw[ad z] at d;refine gG [] (λ_=>[]) [] (λ_ _=>?_) (g:=agn K m C.value t.2) (kN:=gF _) (kM:=λ_ _=>gF _);apply f<;>intro B;rw[jg B] at d;exact ec () b5 (s:=by rw[<-d];rfl);refine aY ?_;rw[jf B] at d;exact a4 (e+1) ⟨q,d⟩ (bA:=.r);have c:=k.2;rw[C7 q] at c;refine gG [] (λ_=>[]) [] (λ_ _=>?_) (g:=agn K m J.text bA.text) (kN:=gF _) (kM:=λ_ _=>gF _);apply f<;>intro v;rw[jg v] at c;exact ec () b5 (s:=by rw[<-c];rfl);rw[jf v] at c;apply cL;intro _;apply cy;intro _;exact aa;exact aa;apply f<;>intro w;rw[sB w a2] at c;exact ec () b5 (s:=by rw[<-c];rfl);rw[sA w] at c;apply cy;intro _;exact aa;apply f<;>intro x;rw[sB x a2] at c;exact ec () b5 (s:=by rw[<-c];rfl);rw[sA x] at c;exact ec () b5 (s:=by rw[<-c];rfl)
section
variable{m R:Z}{cA:Y Z}
theorem oO(c:kz P K p i m R cA n J (r9 (wX P p m n · ak) ak))(b:kE P K p i R cA:=by assumption):wX P p m n J ak:=.of<|vj b.hm b.dz b.vY b.iP b.bu n _ _ c
theorem zr(b:kz P K p i m R cA n J (r9 (wX P p m n · ak) ak))(c:kE P K p i R cA:=by assumption):a1 P p m (.loop n) J ak:=(oO b c).loop
end
def l1{b c:Prop}(e:b):nc ag b c:=.mk (λ_=>e) (λd=>by cases d)
def n7{c b:Prop}(e:b):nc ae c b:=.mk (λd=>by cases d) λ_=>e
def IM{c:X->Prop}{d:X->Prop}{E b:X}(e:c b)(B:d b):Af E E c d:=.mk b (λ_=>e) B
def ad3{c:X->Prop}{b:X->Prop}{E:X}(B:b ae):Af E (!E) c b:=.mk _ (λd=>aq) B
def aph{I:iz}{c:V×V×Z}{d:Y (V×V×Z)}(e:c.1.isKey I)(B:nZ I d):nZ I (c::d):=λf b=>by rcases fH.1 b with rfl|b;exact e;exact B f b
section
variable{m:Z}
def Qw{o:b6}{I:Z}{e d:b7}(f:c2 o (I,d)=c2 o (I,e)):∀{c:bS},ci c I=W e->aZ o (il c I d)=aZ o c
|[],b=>by cases b|(B,h)::A,b=>by
 rw[ci] at b;rw[il];split at b;rename_i g;cases mD b;obtain rfl:=nE g
 (simp[aZ,ia];omega)
 have:=Qw f b;grind[aZ]
def a1.ajj(I:Z){e:Z}{c:aw}{b:V}(g:a1 P p m n {J with az:=il J.az I (.cell c b)} ak)(f:ci J.az I=W (.j e c [b]):=by rfl)(h:b.plain:=by rfl)(i:U b.cells=e:=by rfl):a1 P p m n J ak:=g.same λo=>by show(⟨_,J.d++_⟩:bc)=⟨_,J.d++_⟩;rw[Qw _ f];grind[c2,b7.aD,V.gc]
def a1.ajk(I:Z)(e:Z){c:aw}{b:V}(g:a1 P p m n {J with az:=il J.az I (.j e c [b])} ak)(f:ci J.az I=W (.cell c b):=by rfl)(h:b.plain:=by rfl)(i:U b.cells=e:=by rfl):a1 P p m n J ak:=g.same λo=>by show(⟨_,J.d++_⟩:bc)=⟨_,J.d++_⟩;rw[Qw _ f];grind[c2,b7.aD,V.gc]
end
section
variable{m:Z}
def LB{i:b6}{h:Y hn}{e:V->bV->Prop}{f:cS}(g:ic P p m i h e f {J with d:=[]}):ic P p m i h e f J:=⟨g.he,λo n l E k b=>g.run o n l E k ⟨b.cO.drop<|List.sublist_append_right _ _,b.c,b.gR,b.size,b.defers⟩⟩
end
def anQ(b c:Y L):iN (b++c)=iN (iN b::c):=by induction b with|nil=>rfl|cons f e d=>grind[jg,jf]
def asI:c6 (Z×Z)->V|ai=>.ks|W b=>.own b.1 b.2 0 0
def azk(J:eT)(m f A:hQ×bY)(d e c b:V):(ES J m f A d e c b).cells.length=39:=aa
def ada(K:dV)(m:L)(J:eT)(i:J.ok):ru (fO K m) 44 [dy J] (λd:c6 (Z×Z)=>d.isSome=aH (px J=0)) (λd=>cv [asI d,an aj<|px J]):=by
 obtain⟨A,c⟩:∃A,px J=A:=⟨_,aa⟩;rw[c];rw[px] at c;refine tY func44 [2006] λy p x=>?_;refine aT ?_ (g:=rW K m<|ac_ (J:=J.name) i.name.le);apply cy;intro _;refine ch ?_ (g:=rW K m<|Tp J.state i.state.le);exact aa;apply cy;intro _;refine ch ?_ (g:=rW K m<|Tp J.next i.next.le);exact aa;apply f<;>intro v;rw[sB aK a2] at c;exact ec ai bi (s:=by rw[<-c];rfl);rw[sA aq] at c;apply cy;intro _;exact aa;apply f<;>intro w;rw[sB q a2] at c;exact ec ai bi (s:=by rw[<-c];rfl);rw[sA q] at c;refine a1.rF 1 10 [23,24,28,29,33,34] ?_;refine ke ⟨[(4,b 10)],[(10,ah 126<|ES J se se se .bo .bo .bo .bo)],[]⟩ ?_ .r;refine a1.same (en:=⟨[(4,b 10)],[(10,.j 39 126 [ES J se se se .bo .bo .bo .bo])],[]⟩) ?_ ?_;refine a1.JC 10 λid h=>?_;refine dA ?_;refine cp ?_;refine zr ?_;refine l1 ?_;refine bB 0 (eo (c1 60) [.own id h 0 0] []) ?_ (k:=aa);refine gG [] (λl=>[(id,.j h 39 126 [l.e J .bo .bo .bo])]) [] (λl _=>?_) (g:=iL.raw (λo=>Nj K m<|asG J i o) aa aa (λ_=>aa) (λ_=>aa) (λ_=>aa) id h) (kN:=gF _) (kM:=λ_ _=>gF _);apply f<;>intro t;rw[jg t] at c;exact LB<|ec ai bi (s:=by rw[<-c];rfl);rw[jf t,anQ] at c;refine aY ?_;refine oO ?_;refine l1 ?_;refine bB 1 (eo (c1 61) [.own id h 0 0] []) ?_ (k:=aa);refine gG [] (λd=>[(id,.j h 39 126 [l.e J (.al 6<|ab pg d.1) (.al 6<|ab pg d.2.1) (.al 1 d.2.2)])]) [] (λd _=>?_) (g:=iL.raw (λo=>Nj K m<|asP J i l o) aa aa (λ_=>aa) (λ_=>aa) (λ_=>aa) id h) (kN:=gF _) (kM:=λ_ _=>gF _);apply f<;>intro u;rw[jg u] at c;exact LB<|ec ai bi (s:=by rw[<-c];rfl);rw[jf u] at c;refine aY ?_;refine oO ?_;refine l1 ?_;refine bB 2 (eo (c1 62) [.own id h 0 0] []) ?_ (k:=aa);refine gG [] (λ_=>[(id,.j h 39 126 [IP J l d])]) [] (λ_ _=>?_) (g:=iL.raw (asK K m J i l d) aa aa (λ_=>aa) (λ_=>aa) (λ_=>aa) id h) (kN:=gF _) (kM:=λ_ _=>gF _);apply f<;>intro n;exact LB<|ec ai bi (s:=by rw[<-c];rfl);have n:A=0:=by rw[<-c];simpa using n
 refine aY ?_;refine oO ?_;refine n7 ?_;exact LB<|ec (W (id,h)) aq (s:=by rw[n];rfl);intro o;rfl
def asL(K:dV)(m:L){J:eT}(e:J.ok)(k:px J≠0):eN bL (fO K m) 44 [dy J] (cv [.ks,an aj (px J)]):=by have c:=ada K m J e λ_=>(0,0);have f:ab (V.aB (λ_=>(0,0))) [dy J]=[dy J]:=ba;refine c.mono λo l ⟨b,p,h,g,i,d⟩=>⟨?_,d⟩;cases b with|none=>trivial|some n=>simp_all
def asM(K:dV)(m:L){J:eT}(g:J.ok)(h:px J=0):ru (fO K m) 44 [dy J] (λb:Z×Z=>dW) (λb=>cv [.own b.1 b.2 0 0,an aj 0]):=by intro o;refine(ada K m J g o).mono λn l ⟨c,i,k,d,f,e⟩=>?_;cases c with|none=>simp_all|some b=>exact⟨b,i,b5,d,by rw[f,h];rfl,e⟩
def asD(K:dV)(m:L)(b:dx)(u:b.ok):ru (fO K m) 17 [eP b] (λ_:Y V=>dW) (λv=>cv [.al 1 v,an aj<|lF b]):=by obtain⟨A,h⟩:∃A,lF b=A:=⟨_,aa⟩;rw[h];rw[lF] at h;refine tY func17 [] λD p z=>?_;apply f<;>intro t;rw[af t] at h;exact lQ 1 [2] (ec [] b5 (s:=by rw[<-h];rfl));rw[ad t] at h;refine aT ?_ (g:=rW K m<|Tp b.state u.state.le);apply f<;>intro w;rw[af q] at h;exact lQ 1 [2] (ec [] b5 (s:=by rw[<-h];rfl));rw[ad q] at h;refine a1.eK 1004 1 88 [4] ai ?_;refine c8 (Z×Y V) (λc=>⟨[(4,.a 1004 0<|U c.2),(5,.eA 20),(22,.al 20<|ab dy b.bt),(23,_),(24,l c.1)],[(1004,.j 1 88 c.2),(20,Ym<|u1 b.bt c.1)],[]⟩) (λc=>(c.1<=U b.bt/\U c.2<=c.1)/\uh (u1 b.bt c.1) (ay c.1 b.bt)=A) (λc=>U b.bt-c.1) (0,[]) (λ⟨d,M⟩ k=>?_) ⟨⟨dJ _,dJ _⟩,h⟩ .r;dsimp only at k⊢;obtain⟨⟨B,C⟩,e⟩:=k;apply f<;>intro x;have s:d<U b.bt:=q;rw[l3 s,show b.bt[d]=y b.bt d av by simp[s],uh] at e;have bA:=u.bt.2 _<|ka s;refine bB d (dy<|y b.bt d av) ?_ (k:=eZ s);by_cases i:px (y b.bt d av)=0;rw[ad q] at e;refine gG [] (λ_=>[]) [] (λo _=>?_) (g:=asM K m bA i) (kN:=gF _) (kM:=λ_ _=>gF _);apply f<;>intro i;omega;refine sW (aV<|aH<|(y b.bt d av).name∈u1 b.bt d) ?_ (De λ_ _=>aa)<|aa8 aa;apply f<;>intro n;rw[af n] at e;exact lQ 1 [2] (ec [] b5 (s:=by rw[<-e];rfl));rw[ad n,<-M6 s] at e;refine rV (e6 V.str (λ_=>aV ag)<|u1 b.bt<|d+1) (U<|u1 b.bt<|d+1) ?_ (mq:=De λ_ _=>aa) (hu:=by rw[M6 s];exact Df (s6:=λ_=>aV ag) Us b5 (λ_ _=>b5) n);refine cp ?_;refine eB (M++[.own o.1 o.2 0 0]) ?_ (bl:=aK);refine aY ?_;exact a4 (d+1,M++[.own o.1 o.2 0 0]) ⟨⟨q,aq⟩,e⟩ (bA:=.r);rw[af i] at e;refine aT ?_ (g:=asL K m bA i);apply f<;>intro n;exact lQ 1 [2] (ec [] b5 (s:=by rw[<-e];rfl));omega;rw[kA q,uh] at e;exact gq 1004<|ec M b5 (s:=by rw[<-e];rfl)
def ac7{K:dV}{m:L}{aE:dx}(d:aE.ok):eN bL (fO K m) 8 [eP aE] (an aj (lF aE)):=by
 have e:ru (fO K m) 8 [eP aE] (λ_:j3=>dW) (λ_=>an aj<|lF aE):=by refine tY func8 [] λu p i=>?_;refine gG [] _ [] (λr _=>?_) (g:=asD K m aE d) (kN:=gF _) (kM:=λ_ _=>gF _);exact ec () b5
 have b:=e λ_=>(0,0);have h:ab (V.aB (λ_=>(0,0))) [eP aE]=[eP aE]:=ba;exact b.mono λs o ⟨f,t,l,k,n,c⟩=>⟨cf,c⟩
def El{d:Type}(e R:Z)(c:d->V):Prop:=∀b:Y d,U b<=1048576->bh e [.al R (ab c b)] (.al R<|ab c b)
def akF:El 63 2 mP/\El 64 3 kJ/\El 65 2 vP/\El 66 2 nj/\El 68 11 pX/\El 70 3 fw:=by
 refine⟨λb bl=>bs func63 [] ?_,λb bl=>bs func64 [] ?_,λb bl=>bs func65 [] ?_,λb bl=>bs func66 [] ?_,λb bl=>bs func68 [] ?_,λb bl=>bs func70 [] ?_⟩
 all_goals intro p g;refine SV λe aM=>?_;apply f<;>intro d;rw[aM d];exact lQ _ [2] aL;refine n0 ?_;refine eB _ ?_ (gi:=.al aa aa aa aa λh c=>(by obtain⟨_,_,rfl⟩:=dI.1 c;rfl)) (bl:=aK);exact gq 5 aL
def VO{e:Type}(f R d:Z)(c:e->V):Prop:=∀b:Y e,U b<=1048576->0<U b->dF f [.al R (ab c b)] [(5001,.j R d [])] (.a 5001 0<|U<|ab c b) [(5001,.j R d<|ab c b)]
def akE:VO 66 2 81 nj/\VO 67 13 105 ha:=by
 refine⟨λd bl b=>c4 func66 [] ?_,λd bl b=>c4 func67 [] ?_⟩
 all_goals intro k p g;refine SV λe aM=>?_;apply f<;>intro h;simp_all;refine aq6 5001 ?_;refine eB _ ?_ (gi:=.al aa aa aa aa λi c=>(by obtain⟨_,_,rfl⟩:=dI.1 c;rfl)) (bl:=aK);exact cJ
def Lw(J:eT)(b:V):V:=b2 [a8 J.name,an aj J.prio,an aj J.method.c0,a8 J.method.text,an aj J.target.c0,a8 J.target.text,.al 2<|ab mP J.path,aV J.rest,.al 3<|ab kJ J.query,.al 3<|ab kJ J.head,an aj J.raw.c0,a8 J.raw.text,b,a8 J.state,a8 J.next,an aj J.times,an aj J.status,.al 2<|ab vP J.iS,a8 J.text,an aj J.sE]
def Yp(J:eT):dy J=Lw J (.al 2 (ab nj J.body)):=aa
structure eT.CD(J:eT):Prop where
 ok:J.ok
 one:U J.body<=1
 zy:∀Q∈J.body,0<U Q.cQ
def awg{f:Type}{b:Y f}{d:Z}{e:f}(c:b[d]?=W e):aR b d e=b:=by apply jn;intro k;rw[qo];split;rename_i g;subst g;obtain⟨h,i⟩:=eX.1 c;rw[af h,c];rfl
def alu{J:eT}(bA:J.CD):bh 45 [dy J] (dy J):=by
 have i:=bA.ok;obtain⟨v,s,w,D,E,F⟩:=akF;obtain⟨G,H⟩:=akE;have x:=i.path.1;have z:=i.query.1;have A:=i.head.1;have B:=i.iS.1;have L:=i.body.1;rcases aM:J.body with _|⟨c,_|⟨n,N⟩⟩
 .rw[Yp,aM];refine bs func45 [] λp m=>?_;refine ei ?_;refine bw (λ_=>ch aa (g:=v J.path x)) ?_;refine bw (λ_=>ch aa (g:=s J.query z)) ?_;refine bw (λ_=>ch aa (g:=s J.head A)) ?_;refine bw (λ_=>ch aa (g:=w J.iS B)) ?_;refine bw (λ_=>ch aa (g:=D [] ao)) ?_
  iterate 5 refine fo ?_
  refine fz ?_;refine zr ?_;apply f<;>intro o;exact cg o ao;exact dj br
 .rw[Yp,aM];have I:=bA.zy c (by rw[aM];simp);have aX:=i.body.2 c (by rw[aM];simp);refine bs func45 [2013] λp m=>?_;refine a1.eK 1030 2 81 [] ai ?_;refine a1.eK 1031 13 105 [] ai ?_;refine a1.Lo [0,1,2,3,4,5,6,7,8,9,10,11,12,13,15,14,16,17,18,19,20,21,22,23,24] [0,1,2,3,4,5,6,7,8,9,10,11,12,13,15,14,16,17,18,19,20,21,22,23,24] [15] _ gm br m.vY h7 m.bu ba (by conv=>lhs;reduce) ba ba ?_;refine bw (λ_=>ch aa (g:=v J.path x)) ?_;refine bw (λ_=>ch aa (g:=s J.query z)) ?_;refine bw (λ_=>ch aa (g:=s J.head A)) ?_;refine bw (λ_=>ch aa (g:=w J.iS B)) ?_;refine Gm [(5001,1030)] [] ?_ (g:=G [c] ao ao)
  iterate 5 refine fo ?_
  refine fz ?_;refine ke ⟨[(1,b 1),(2,b 2),(28,l 1),(29,l 0)],[(1,ah 48<|Lw J<|.a 1030 0 1),(2,_),(1030,.j 2 81 [nj c]),(1031,.j 13 105 [])],[]⟩ ?_ .r;refine a1.ajj 1030 ?_;refine zr ?_;refine l1 ?_;refine a1.Ln [9] gm br m.vY h7 m.bu aa ba ?_;refine bw (λ_=>MO aa) ?_;refine Gm [(5001,1031)] [] ?_ (g:=H c.cQ (by have:=aX.2;omega) I);refine bw (λ_=>MO aa) ?_;refine fo ?_;refine fz ?_;refine MO ?_;refine e9 (U c.cQ) (λd=>⟨[(1,b 1),(2,b 2),(28,l 1),(29,l 0),(3,l 0),(50,_),(51,l d)],[(1,ah 48<|Lw J<|.a 1030 0 1),(2,_),(1030,ah 81<|b2 [.a 1031 0 (U<|ab ha c.cQ),an aj c.root]),(1031,.j 13 105<|ab ha c.cQ)],[]⟩) (λd k=>?_) .r
  .apply f<;>intro K
   .have o:d<U c.cQ:=q;have t:=aX.1 _<|ka o;have M:=aX.2;refine MO ?_;refine cE d ?_ (k:=by rw[bm];exact o);have h:(ab ha c.cQ)[d]?=W (ha (y c.cQ d av)):=eZ o;have u:aR (ab ha c.cQ) d (ha (y c.cQ d av))=ab ha c.cQ:=awg h;generalize y c.cQ d av=e at t h u;generalize ab ha c.cQ=C at h u⊢;refine ei ?_;refine bw (λ_=>fl (ha e) aa (k:=h)) ?_;refine bw (λ_=>ch aa (g:=E e.dR (by have:=t.2.1;omega))) ?_;refine bw (λ_=>fl (ha e) aa (k:=h)) ?_;refine bw (λ_=>ch aa (g:=Xi e.eL t.2.2.2.1)) ?_;refine bw (λ_=>fl (ha e) aa (k:=h)) ?_;refine bw (λ_=>ch aa (g:=F e.dG (by have:=t.2.2.2.2;omega))) ?_
    iterate 3 refine uk C (ha e) (ha e) ?_ (k:=h) (aU:=u)
    refine fz ?_;refine aY ?_;exact a4 (d+1) (bA:=.r)
   refine aY ?_;refine oO ?_;refine n7 ?_;refine a1.h6 1031 ?_;refine ke ⟨[(1,b 1),(2,b 2)],[(1,ah 48<|Lw J<|.a 1030 0 1),(2,_),(1030,ah 81<|nj c)],[]⟩ ?_ .r;refine a1.ajk 1030 2 ?_;refine a1.h6 1030 ?_;refine dA ?_;exact dj br
 have:=bA.one;rw[aM] at this;simp at this
def dx.CD(b:dx):Prop:=U b.bt<=200/\∀J∈b.bt,J.CD
def amy(b:dx)(c:Z):V:=b2 [a8 b.state,.a c 0<|U<|ab dy b.bt]
abbrev wm(b:Y eT):b7:=.j 20 48<|ab dy b
def Qv(c:dx)(e:c.CD)(o:0<U c.bt):dF 19 [eP c] [] (amy c 1003) [(1003,wm c.bt)]:=by refine c4 func19 [] λs p m=>?_;have n:=e.1;refine a1.eK 1003 20 48 [] (W (3,1)) ?_;refine gN (U c.bt) (λd=>dW) (λd=>⟨[(1,b 1),(2,b 2),(3,b 3),(10,.al 20 _),(11,_),(12,l d)],[(1,_),(2,_),(3,ah 24<|b2 [a8 c.state,.a 1003 0<|U<|ab dy<|am d c.bt]),(1003,wm<|am d c.bt)],[]⟩) (λd k=>?_) (bA:=.r);apply f<;>intro i;have h:d<U c.bt:=q;refine bB d _ ?_ (k:=eZ h);have bA:=e.2 _<|ka h;refine ei ?_;refine bw (λ_=>ch aa (g:=alu bA)) ?_;refine bw (λ_=>kr aa) ?_;refine jY 21 (ab dy<|am (d+1) c.bt) ?_ (aU:=by grind[List.take_add_one,List.getElem?_eq_getElem]) (bl:=aK);refine fo ?_;refine jz [(21,1003)] ?_;refine aY ?_;exact a4<|d+1;have k:d=U c.bt:=q;rw[k,iJ];exact iE br
def I8{c o:Type}{d:Y c}{B:Z}{b:c->o}{e:c}:aR (ab b d) B (b e)=ab b (aR d B e):=by simp
def eT.ok.pP{c:eT}(b:c.ok){J R d:Y C}{e f n:L}(h:U J<=U c.state:=by simp)(g:U R<=U c.next:=by simp)(i:U d<=U c.text:=by simp):eT.ok {c with state:=J,next:=R,text:=d,status:=e,times:=f,prio:=n}:=⟨b.name,b.method,b.target,b.raw,b.path,b.query,b.head,b.body,c9 h b.state,c9 g b.next,b.iS,c9 i b.text,b.anx⟩
def wY(b:Y eT)(B d:Z)(M:Z)(e:X)(c:eT):Prop:=c.ok/\dF d [.dC 6000 B M] [(6000,wm b)] (aV e) [(6000,wm<|aR b B c)]
def awl{c:Y eT}{B:Z}{b:eT}(e:c[B]?=W b)(d:b.ok):wY c B 25 18 (aH ¬b.text=[]) {b with text:=[]}/\wY c B 25 14 (aH ¬b.next=[]) {b with next:=[]}/\wY c B 25 13 (aH ¬b.state=[]) {b with state:=[]}/\wY c B 28 0 (aH ¬b.times=0) {b with times:=0}:=by
 have g:(ab dy c)[B]?=W (dy b):=by rw[db,e];rfl
 refine⟨⟨d.pP,c4 func25 [] ?_⟩,⟨d.pP,c4 func25 [] ?_⟩,⟨d.pP,c4 func25 [] ?_⟩,d.pP,c4 func28 [] ?_⟩
 all_goals intro h p f;unfold wm;rw[<-I8];refine fl _ ?_;refine fF _ _ _ ?_;exact cJ
def aqY{c:Y eT}{B:Z}{b:eT}(h:c[B]?=W b)(d:b.ok)(n:-1000000000<=b.prio/\b.prio<=1000000000):wY c B 23 0 ag {b with status:=if b.status=500 then 200 else 500}/\wY c B 24 0 (aH ¬b.text=[]) {b with text:=[]}/\wY c B 26 0 (aH ¬b.next=[]) {b with next:=[]}/\wY c B 27 0 (aH ¬b.state=[]) {b with state:=[]}/\wY c B 28 0 (aH ¬b.times=0) {b with times:=0}/\wY c B 29 0 ag {b with prio:=b.prio+1}/\dW:=by
 have o:(ab dy c)[B]?=W (dy b):=by rw[db,h];rfl
 obtain⟨e,i,k,l⟩:=awl h d;refine⟨⟨d.pP,c4 func23 [] ?_⟩,⟨d.pP,c4 func24 [] ?_⟩,⟨d.pP,c4 func26 [] ?_⟩,⟨d.pP,c4 func27 [] ?_⟩,l,⟨d.pP,c4 func29 [] ?_⟩,b5⟩
 all_goals
  intro r p m
  first
  |(refine bG [(6000,6000)] ?_ (g:=e.2);exact cJ)|(refine bG [(6000,6000)] ?_ (g:=i.2);exact cJ)|(refine bG [(6000,6000)] ?_ (g:=k.2);exact cJ)|(unfold wm;rw[<-I8];refine fl _ ?_)
 apply f<;>intro e;rw[af e];refine fF _ _ _ ?_;exact cJ;rw[ad e];refine fF _ _ _ ?_;exact cJ;refine aY ?_;refine fF _ _ _ ?_;exact cJ
def akA(d:fM)(aM:kF bL d)(b:dx)(f:b.CD)(B:Z)(m:B<U b.bt)(c:Y eT)(n:U c=U b.bt)(e:X)(h:dF d [.dC 6000 B 0] [(6000,wm b.bt)] (aV e) [(6000,wm c)]):bh 22 [eP b,l B,eo (c1 d) [] []] (cv [eP {b with bt:=c},aV e]):=by refine bs func22 [] λp i=>?_;refine bG [(1003,1008)] ?_ (g:=Qv b f q);refine ei ?_;refine bw (λ_=>cE B aa (k:=bi)) ?_;refine agY [(6000,1008)] [(2,(1008,wm c))] ?_ (g:=h) (aM:=aM);refine fo ?_;refine fz ?_;exact yW 1008 (U<|ab _ b.bt) (aC:=ab _ c) aK<|dj br
abbrev acZ(b:Y dx):bS:=[(6000,ah 25<|.a 5001 0<|U<|ab eP b),(5001,.j 2 24<|ab eP b)]
noncomputable def o9(b:Y dx)(m:dx)(M:X):Y dx:=if M/\lF m=0 then b++[m] else b
def PK(K:dV)(c:L)(m:dx)(d:m.ok)(M:X)(b:Y dx)(e:U b<=100000):mL bL (fO K c) 18 [eP m,aV M,.dC 6000 0 0] (acZ b) (cv []) (acZ (o9 b m M)):=by refine c4 func18 [] λk p h=>?_;apply cL;intro _;refine ch ?_ (g:=ac7 (K:=K) (m:=c) (aE:=m) d);exact aa;apply f<;>intro i;rw[o9,af q];refine cp ?_;refine eB (ab _<|b++[m]) ?_ (bl:=aK);exact cJ;rw[o9,ad q];exact cJ
section
theorem anM(E:bI)(b:Addr)(R:Z):(E.freeze b R).tape=E.tape:=by grind[World.freeze]
theorem ajl{c:Type}(b:Ask c):∀E:bI,(E.ask b).2.tape=E.tape:=by induction b with|done d=>intro E;rfl|ask f range B e=>intro E;rw[World.ask];grind
theorem axu(E:bI)(J:Sys):(E.sys J).2.tape=E.tape:=by grind[ajl,World.sys,Kernel.perform]
theorem ayD{g:bn}{E c:bI}{d B:Addr}{h:aw}{i:bq}{e:X}{f:Y Addr}(b:E.viewStore g d h B i e=.ok (c,f)):c.tape=E.tape:=by
 unfold World.viewStore at b;simp[bind,Except.bind,pure] at b
 (repeat' split at b)<;>first|trivial|(cases b;rfl)
theorem anN{f:bn}{E b:bI}{c:Addr}{g:bq}{d:X}{e:Y Addr}(h:E.farStore f c g d=.ok (b,e)):b.tape=E.tape:=by grind[World.farStore,ayD]
def axI{P:bn}{h:Type}(J:Sem h):∀(E:bI)(e:h)(d:bI),ce P J E=ct e d->d.tape=E.tape:=by
 induction J with
 |pure f=>simp_all|load m f B b=>grind[ce]|store m f g B b=>intro E e d c;cases g<;>simp[ce] at c<;>(repeat' split at c)<;>first|trivial|exact b0 (b _ _ _ c) aa|grind[trans,anN]
 |new M B b=>intro E e d c;simp only[ce] at c;grind|shape R B b=>grind[ce]|freeze f R B b=>grind[ce,trans,anM]|frozen f B b=>grind[ce]|getObj A B b=>grind[ce]|setObj A M B b=>intro E e d c;simp[ce] at c;grind|choose i B b=>intro E e d c;simp only[ce] at c;grind|sys J B b=>grind[ce,trans,axu]|program B b=>grind[ce]|mark m B b=>grind[ce]|halt g=>simp
open Go.Shelf Go.RowKit Go.Lib
def RZ:bq->L|cN _ R=>R|_=>0
def yN(R:L)(b:k0):X:=! bits .and ej (RZ b.key) R==0
def Tryz.alr(R:L)(s D e:Z)(b:bU k0)(clock:Z)(E:bI)(m:ho E ⟨s,D,ai⟩=W (.map (W e)))(aM:E.heap[e]?=W (.map b clock))(p:(∀d∈a0 b,d.born<clock)/\dT (ab (·.born) (a0 b))/\dW)(K:∀d∈a0 b,(∃F,d.key=cN ej F)/\∃t,d.val=hA t):ln bL 40 #[cN ej R,ib (W ⟨s,D,ai⟩)] E λg k=>g=lo (hA<|dh (a0 b)<|yN R)/\∃(c:bI)(seen:bU Z),(c.Alike E/\c.tape=E.tape)/\k=c.alloc (.mapIter (W e) clock seen clock):=by
 have O:=run_range_map (P:=bL) E 83 84 4 e b clock ao aM
 go_wp2
 go_loopw [] (λk=>∃(c:bI)(seen:bU Z),(c.Alike E/\c.tape=E.tape)/\k=c.alloc (.mapIter (W e) clock seen clock)/\∀d∈a0 b,seen.contains d.born->yN R d) (λk=>a9<|leftOf b<|k.iterSeen<|a9 E.heap)
 case atStart=>exact⟨E,#[],⟨⟨aa,aa,aa⟩,aa⟩,aa,λd _ Q=>aK⟩
 case round=>
  obtain⟨c,seen,⟨h,z⟩,rfl,J⟩:=hrel;have y:a9 c.heap=a9 E.heap:=by rw[h.1]
  have w:c.heap[e]?=W (.map b clock):=by rw[h.1];exact aM
  have C:=run_next_map (P:=bL) c 0 e clock clock seen b clock w p.1<|bv _;rw[y] at C;rcases C with⟨G,o⟩|⟨g,he,f,i,o⟩
  focus
   go_wp2
   go_ret
   have n:dh (a0 b) (yN R):=by rw[kY];exactλd l=>J d l<|all_seen b seen G d l
   rw[n];exact⟨aa,c,seen,⟨h,z⟩,aa⟩
  .have A:f.tape=E.tape:=b0 (axI _ _ _ _ o:(f.alloc _).tape=(c.alloc _).tape) z;obtain⟨⟨F,x⟩,t,B⟩:=K g (mem_left he).1;rw[x,B] at o;have r:a9 f.heap=a9 E.heap:=by rw[i.1,h.1]
   have H:f.heap[e]?=W (.map b clock):=by rw[i.1];exact w
   have I:=run_entry_map (P:=bL) f e clock seen b clock g H (mem_left he).1 p.2.1;rw[r,x,B] at I;have v:f.Alike E:=⟨b0 i.1 h.1,b0 i.2.1 h.2.1,b0 i.2.2 h.2.2⟩
   go_wp2
   focus
    rename_i M
    go_ret
    have n:dh (a0 b) (yN R)=ae:=by rw[List.all_eq_false];exact⟨g,(mem_left he).1,by grind[yN,RZ]⟩
    rw[n];exact⟨aa,f,_,⟨v,A⟩,aa⟩
   .rename_i N
    go_roundw
    case rel=>refine⟨f,seen.push g.born,⟨v,A⟩,aa,λd l m=>?_⟩;rw[contains_push] at m;rcases sf _ _▸m with u|u;simp_all;have:d=g:=born_inj p.2.1 l (mem_left he).1<|Pn.1 u;grind[yN,RZ]
    case measure=>rw[<-r,World.iterSeen_alloc,r,<-y,World.iterSeen_alloc];simp_all[left_shrinks]
end
def AJ(c:Y (L×Z)):Y (V×V×Z):=c.map λb=>(an ej b.1,aV ag,b.2)
def EI(R:L)(b:Y (L×Z)):X:=dh b λc=>! bits .and ej c.1 R==0
def als(R:L)(c:Y (L×Z)){clock:Z}:bh 40 [an ej R,fN 1 [.tJ (AJ c) clock] 0 0] (aV (EI R c)):=by
 intro D ap E ax G w t au
 match ap,G with
 |[ar,n],_=>
  have J:=w 0 _ _ aa aa;have N:=w 1 (fN 1 [.tJ (AJ c) clock] 0 0) n aa aa;cases J;cases N with
  |ref _ _ _ _ s base val aw H X=>
   have k:=H 0 0 _ _ aa aa;have hm:=X 0 0 _ _ aa aa;generalize val 0 0=ay at k hm;cases hm with
   |tJ _ _ v d I z y am aM M S=>
    have av:=t.jT _ _ _ k;have Q:=t.lT _ _ _ I;have O:∀e∈a0 d,∃f∈c,e.key=cN ej f.1/\e.val=hA ag:=λe g=>by
     obtain⟨b,k,rfl⟩:=m_.1 g;have r:b<U c:=by have:=z;rw[AJ,bm] at this;simp at k;omega
     have m:(AJ c)[b]?=W (an ej c[b].1,aV ag,c[b].2):=by rw[AJ,db,cT r];rfl
     have o:d[b]?=W (a0 d)[b]:=by simp at k⊢
     have B:=y b _ _ m o;have A:=am b _ _ m o;refine⟨c[b],hL r,?_,?_⟩;generalize (a0 d)[b].key=C at B;cases B;rfl;generalize (a0 d)[b].val=C at A;cases A;rfl
    have P:∀f∈c,∃e∈a0 d,e.key=cN ej f.1:=λf l=>by
     obtain⟨b,k,rfl⟩:=m_.1 l;have r:b<a9 d:=by have:=z;rw[AJ,bm] at this;omega
     have m:(AJ c)[b]?=W (an ej c[b].1,aV ag,c[b].2):=by rw[AJ,db,cT k];rfl
     have o:d[b]?=W d[b]:=by simp[r]
     have B:=y b _ _ m o;refine⟨d[b],ao,?_⟩;generalize d[b].key=C at B;cases B;rfl
    have x:=Tryz.alr R s base v d clock E q Q ⟨M,S,b5⟩ λe g=>aK;have K:dh (a0 d) (yN R)=EI R c:=by rw[nA,kY,EI,kY];refine⟨λu f l=>?_,λu e g=>?_⟩;obtain⟨e,g,p⟩:=P f l;have:=u e g;rw[yN,p] at this;trivial;obtain⟨f,l,p,_⟩:=O e g;have:=u f l;rw[yN,p];trivial
    rw[K] at x;have F:#[cN ej R,ib (W ⟨s,base+0*1+0,ai⟩)]=#[cN ej R,ib (W ⟨s,base,ai⟩)]:=ao;show ln _ _ #[_,_] _ _;rw[F];refine iK x ?_;rintro p az ⟨rfl,aq,seen,⟨h,ak⟩,rfl⟩;refine⟨hA<|EI R c,aV<|EI R c,[],D,aa,⟨aa,aa⟩,.bool _,t.grown ?_⟩;have i:=World.grownBy_alloc aq (Obj.mapIter (W v) clock seen clock) ai;refine⟨b0 i.os h.2.1,b0 i.tape ak,b0 i.output h.2.2,?_,λb k T=>?_⟩;have:=i.size;rw[h.1] at this;exact this;rw[i.block b (by rw[h.1];exact k) T,h.1]
def alt(R d e:L)(b c clock:Z):bh 40 [an ej R,fN 1 [.tJ [(an ej d,aV ag,b),(an ej e,aV ag,c)] clock] 0 0] (aV (EI R [(d,b),(e,c)])):=als R [(d,b),(e,c)]
def ayc:bh 86 [an ej 4] (an aj 2):=by refine bs func86 [] λp b=>?_;refine n7 ?_;refine fe.ab5 _ ?_;refine qX 3 ?_ (s:=cf);refine Do ?_;refine Fx _ ?_;refine iG 2 ?_;exact aL
def y2(I:Z)(gb:Y (V×V×Z))(clock:Z):V->V
|.eA b=>match ef b I with
 |ag=>.tJ gb clock|ae=>.eA b
|.a b d len=>match ef b I with
 |ag=>.undef|ae=>.a b d len
|.dC b c n=>match ef b I with
 |ag=>.undef|ae=>.dC b c n
|.oG b=>match ef b I with
 |ag=>.undef|ae=>.oG b
|.lc b c n=>match ef b I with
 |ag=>.undef|ae=>.lc b c n
|e=>e
abbrev LI(I:Z)(gb:Y (V×V×Z))(clock:Z):V->V:=xy<|y2 I gb clock
inductive Cg(id aS:Z)(gb:Y (V×V×Z))(clock:Z):V->V->Prop|eA:Cg id aS gb clock (.jj id aS) (.tJ gb clock)|my (T w:V) (s:hC T w):Cg id aS gb clock T w
theorem Cg.one{c d clock:Z}{gb:Y (V×V×Z)}:wZ (Cg c d gb clock):=λe f b=>by cases b with|eA=>trivial|my _ _ b=>exact hC.one _ _ b
section
variable{o:b6}{clock:Z}{gb:Y (V×V×Z)}
def anu(c:V):fS (Cg (o I).1 (o I).2 gb clock) (c.e0 o) ((y2 I gb clock c).e0 o):=by cases c with|eA b=>simp[y2];split;rename_i d;have:=nE d;subst this;exact .base _ _ .eA;exact .refl _|dC b e n=>simp[y2];split;exact .base _ _<|.my _ _<|.own ..;exact .refl _|a b f len=>simp[y2];split;exact .base _ _<|.my _ _<|.bH ..;exact .refl _|oG b=>simp[y2];split;exact .base _ _<|.my _ _<|.own ..;exact .refl _|lc b e n=>simp[y2];split;exact .base _ _<|.my _ _<|.own ..;exact .refl _|_=>exact .refl _
omit o in
def Y2:Ah (y2 I gb clock):=λb=>by cases b<;>first|exact bj aa|(simp[y2];split<;>first|exact bj aa|exact bp ⟨aa,aa⟩)
def Y3(b:V):fS (Cg (o I).1 (o I).2 gb clock) (b.aB o) ((LI I gb clock b).aB o):=Fm Y2 .qH (λb _=>anu b) λ_=>Nz (λ_=>b5) b
end
def aN.E1(J:aN)(I:Z)(gb:Y (V×V×Z))(clock:Z):aN:=⟨xA (LI I gb clock) J.c,qW I (LI I gb clock) J.az,J.d⟩
def a_.E1{p:bJ}{J:aN}{o:b6}{I clock:Z}{gb:Y (V×V×Z)}{g:fI}{E:bI}{s:bf}(A:ci J.az I=W (.map gb clock))(m:a_ p (J.aB o) g E s):∃f,a_ p ((J.E1 I gb clock).aB o) g E f:=by
 let⟨B,h,X,x,y⟩:=SH (u:=LI I gb clock) (Fo Y2) (λ_ _=>aa) A λB P e L k=>Y3 (o:=o) e;let k:(J.aB o).d[U J.d+B]?=W _:=by show(J.d++aZ o _)[_]?=_;rw[s9 q,show U J.d+B-U J.d=B by omega];exact h
 let⟨f,T,t,v,D,hm,i,C,K,aM,z,c,G,F⟩:=m.cO.Za k;let he:(J.aB o).d.eraseIdx (U J.d+B)=J.d++iB (aZ o J.az) B:=by show iB (J.d++aZ o _) _=_;grind
 rw[he] at i;refine⟨f,a_.rD m D (i.drop<|yf (yg _) x) (λe r b N H=>?_) Cg.one (λn r M=>?_)<|cY.rA y<|cY.refl _⟩;cases b with
 |eA=>cases H with|jj _ _ S N l R h w=>rw[hm,C] at l;cases l;obtain⟨O,b,rfl⟩:=w<|bQ K;rw[aM] at b;cases b;exact .tJ _ _ t v z c.len c.key c.val c.born G F
 |my _ _ Q=>grind[hC.gU]
 exact MK (λn e L=>Y3 e) n r M
def a1.E1{P:bn}{p:bJ}{m:Z}{n:gw}{J:aN}{ak:cS->aN->Prop}I{clock:Z}{gb:Y (V×V×Z)}(i:a1 P p m n (J.E1 I gb clock) ak)(h:ci J.az I=W (.map gb clock):=by rfl):a1 P p m n J ak:=⟨λo c e d E k f=>by let⟨b,g⟩:=a_.E1 h f;exact i.run o c e d E b g⟩
section
def kl.Zb{E:bI}{b:Z}{c:bU bq}{d:aw}(e:kl E b c d){M:Z}(h:M<a9 c):E.frozen? ⟨b,M,ai⟩=ae:=by obtain⟨⟨i,up⟩,g,f⟩:=e;grind[World.frozen?,Bool.and_eq_false_iff,decide_eq_false_iff_not]
def av_(P:bn){E:bI}{c M:Z}{d:bU bq}{f:aw}{b:Y bq}(e:kl E c d f)(m:M+U b<=a9 d)(g:∀k∈b,gE k):E.setCells c M b=E.setRow c (aO (am M (a0 d)++b++ay (M+U b) (a0 d))):=by have l:=DB P (u:=c) M (S:=f) b 0 d E e q g;have n:=run_storeCells_cells (P:=P) c M b 0 E (λi h=>by rw[e.cell,qp];grind) (λi h=>e.Zb q) g;simp_all
def kl.drew{E:bI}{b:Z}{c:bU bq}{d:aw}(e:kl E b c d):kl E.drew b c d:=e
open Go.Shelf Go.RowKit Go.Lib
def aw9:(Tryz.prog.info? 48).map (·.size)=W 20:=cb
def aw_:(Tryz.prog.info? 48).map (λb=>(b.zero.map λc=>(a9<|dp c,dh (a0<|dp c) (gE ·)),b.size))=W (W (20,ag),20):=cb
def Tryz.axc:∃c:bq,(∀E,ce bL (zeroValue 48) E=ct c E)/\a9 (dp c)=20/\∀d∈a0 (dp c),gE d:=by
 have b:=aw_;cases e:Tryz.prog.info? 48 with
 |none=>simp_all|some h=>rw[e,lm,g6,z8] at b;obtain⟨b,i⟩:=b;cases f:h.zero with|none=>simp_all|some c=>rw[f,lm,g6,z8] at b;exact⟨c,(zero_of_info (n:=20) aq).1,b.1,λd g=>kY.1 b.2 d g⟩
def Tryz.al9(e M R k d c:Z)(h:bU bq)(y:aw)(E:bI)(t:fe.kl E e h y)(aN:d<c)(aP:c<=R)(aS:R<=k)(aR:k<=9223372036854775807)(aL:M+k*20<=a9 h)(Y:∀(b:Z)(f:bq),h[b]?=W f->gE f):ln bL 21 #[eY (W ⟨e,M,ai⟩) R k,cN aj d,cN aj c] E λy aH=>y=lo (eY (W ⟨e,M,ai⟩) (R-(c-d)) k)/\∃x:bU bq,aH=E.drew.setRow e x/\a9 x=a9 h/\(∀(b:Z)(f:bq),x[b]?=W f->gE f)/\(∀b,b<M+d*20->x[b]?=h[b]?)/\∀b,b<(R-c)*20->x[M+d*20+b]?=h[M+c*20+b]?:=by
 obtain⟨H,az,aC⟩:∃H,Tryz.prog.info? 48=W H/\H.size=20:=by have:=aw9;simp_all
 have r:kD eQ 22=W (c_ 48):=cb;obtain⟨i,F⟩:∃i,i=am ((R-c)*20) (ay (M+c*20) (a0 h)):=⟨_,aa⟩;have D:U i=(R-c)*20:=by rw[F];simp;omega
 have O:∀S,S<(R-c)*20->i[S]?=h[M+c*20+S]?:=by intro S r;rw[F,m8,af r,sg,wH]
 have P:∀o∈i,gE o:=by intro o s;rw[F] at s;obtain⟨b,n⟩:=rl.1<|D6<|pE s;exact Y b o aq
 obtain⟨C,aJ,aB⟩:∃C:Addr,(if k=c then W (⟨e,M,ai⟩:Addr) else W ⟨e,M+c*20,ai⟩)=W C/\Hid (∀S o,i[S]?=W o->ho E.drew (C.add S)=W o):=by
  by_cases l:k=c;refine⟨⟨e,M,ai⟩,by simp[l],λS o s=>?_⟩;simp_all;refine⟨⟨e,M+c*20,ai⟩,by simp[l],λS o s=>?_⟩;have r:S<(R-c)*20:=by have:=(eX.1 s).1;rwa [D] at this
  rw[O S r] at s;rw[Addr.add_lit];exact b0 (t.drew.cell _) s
 have aE:Hid (U i=(R-c)*20):=D;have aF:Hid (∀o∈i,gE o):=P;have aG:Hid (∀S,S<U i->(ho E.drew ⟨e,M+d*20+S,ai⟩).isSome/\E.drew.frozen? ⟨e,M+d*20+S,ai⟩=ae):=by intro S r;rw[D] at r;have:(d+(R-c))*20<=k*20:=q;exact⟨by rw[t.drew.cell];simp;omega,t.drew.Zb q⟩
 obtain⟨p,L⟩:∃p,p=E.drew.setCells e (M+d*20) i:=⟨_,aa⟩;obtain⟨g,z⟩:∃g,g=aO (am (M+d*20) (a0 h)++i++ay (M+d*20+U i) (a0 h)):=⟨_,aa⟩;have N:p=E.drew.setRow e g:=by rw[L,z];exact fe.av_ bL t.drew q P
 have G:a9 g=a9 h:=by rw[z];simp;omega
 have X:fe.kl p e g y:=by rw[N];exact t.drew.set G
 have I:∀b,b<M+d*20->g[b]?=h[b]?:=λb n=>by grind
 have J:∀b,b<(R-c)*20->g[M+d*20+b]?=h[M+c*20+b]?:=λb n=>by rw[z,um,eS,s9 bi,rh bi,<-O b n];congr 1;simp;omega
 have K:∀(b:Z)(f:bq),g[b]?=W f->gE f:=λb f n=>by rw[z,um] at n;rcases fp.1 (dY n) with l|l;grind[List.mem_iff_getElem?,List.mem_of_mem_take];grind[List.mem_iff_getElem?,List.mem_of_mem_drop]
 obtain⟨aI,aX,aD,aW⟩:=Tryz.axc;obtain⟨m,ak⟩:∃m,m=a0 (sk (dp aI) (R-(d+(R-c)))):=⟨_,aa⟩;have T:U m=(R-(d+(R-c)))*20:=by rw[ak,wI,size_zeroCells,aD]
 have B:∀f∈m,gE f:=λf aU=>by grind[fe.UU]
 obtain⟨w,v⟩:∃w,w=aO (am (M+(d+(R-c))*20) (a0 g)++m++ay (M+(d+(R-c))*20+U m) (a0 g)):=⟨_,aa⟩;have aK:∀ap,ce bL (Builtin.clear_ #[22] ap #[eY (W ⟨e,M+(d+(R-c))*20,ai⟩) (R-(d+(R-c))) (k-(d+(R-c)))]) p=ct (o1 #[]) (p.setRow e w):=λap=>by have aA:¬R-(d+(R-c))=0:=q;have Q:=fe.DB bL (u:=e) (M+(d+(R-c))*20) (S:=y) m 0 g p X q B;simp only[qp] at Q;rw[<-v] at Q;simp[Builtin.clear_,run_underlying r,aX,aA,<-ak,Q]
 have au:Aside (p=E.drew.setRow e g):=N;have ax:Hid (p=E.drew.setCells e (M+d*20) i):=L;have aM:d<=k:=q;have aQ:c<=k:=q;have ar:Aside (a9 g=a9 h/\(∀b,b<M+d*20->g[b]?=h[b]?)/\(∀b,b<(R-c)*20->g[M+d*20+b]?=h[M+c*20+b]?)/\(∀(b:Z)(f:bq),g[b]?=W f->gE f)/\U m=(R-(d+(R-c)))*20/\(∀f∈m,gE f)/\w=aO (am (M+(d+(R-c))*20) (a0 g)++m++ay (M+(d+(R-c))*20+U m) (a0 g))):=⟨G,I,J,K,T,B,v⟩;clear L N O F D P X t aX G I J K T B v z Y
 go_enter func21,Tryz.ntmps21
 go_wp2_with fail
 go_region_law (refine step_append_room aa (.tmp 22) (.tmp 25) 22 aa 48 H 20 r az aC e M d k (by simp[b1,Act.put]) C (R-c) (k-c) i (by simp[b1,Act.put]) aE.out aB.out aF.out q aG.out ?_;rw[<-ax.out])
 go_wp2
 go_ret
 obtain⟨G,I,J,K,T,B,v⟩:=ar.out;refine⟨bi,w,by rw[au.out,setRow_setRow],?_,?_,?_,?_⟩;grind;intro b f n;rw[v,um] at n;rcases fp.1 (dY n) with l|l;rcases fp.1 l with l|l;obtain⟨A,aT⟩:=rl.1<|pE l;grind;exact B f l;grind[List.mem_iff_getElem?,List.mem_of_mem_drop];grind;intro b n;have av:M+d*20+b<M+(d+(R-c))*20:=q;rw[v,um,eS,rh bi,m8,af av,wH];simp_all
end
def al8(b:Y eT)(B:Z)(X:B<U b)(aN:U b<=1048576):dF 21 [.a 5001 0 (U (ab dy b)),l B,l (B+1)] [(5001,wm b)] (.a 5001 0 (U (ab dy (iB b B)))) [(5001,wm (iB b B))]:=by
 intro o i F E aS v m w aH;obtain⟨d,A,au⟩:=w.gd (o 5001).1 (.j (o 5001).2 20 48<|ab dy b) ki;obtain⟨D,p,⟨_,aG⟩|⟨g,J,aM,x,aP,z,ar,y,C⟩⟩:=au;simp_all;rw[p] at z y C;rw[bm] at z;obtain⟨cap,rfl,H,t,aB⟩:∃cap,F=[eY (W ⟨g,d.base,ai⟩) (U b) cap,cN aj B,cN aj (B+1:Z)]/\U b<=cap/\cap<=ja/\d.base+cap*20<=d.size:=by
  match F,v with
  |[s,ay,az],_=>
   have h:=m 0 (.bH (o 5001).1 (o 5001).2 0<|U<|ab dy b) s aa aa;cases m 1 (an aj B) ay aa aa;cases m 2 (an aj (B+1:Z)) az aa aa;generalize am:U (ab dy b)=R at h;rw[bm] at am;cases h with
   |bH _ _ _ _ aQ G hm aw v r=>
    rw[A] at hm;cases hm;rcases r (bQ D) with⟨_,r,_⟩|⟨aA,M,cap,aI,rfl,aD,aE,aF⟩;omega
    (simp_all;omega)
 have Q:=Tryz.al9 g d.base (U b) cap B (B+1) J 48 E x q q H t q ar;refine iK Q ?_;rintro u aT ⟨rfl,K,rfl,L,N,aC,O⟩;have ak:i.le (i.fV (o 5001).1 d):=bf.jh λaR r=>aq;have S:U (ab dy (iB b B))=U b-1:=by rw[bm,List.length_eraseIdx_of_lt X]
 refine⟨_,.bH (o 5001).1 (o 5001).2 0<|U<|ab dy<|iB b B,_,i.fV (o 5001).1 d,aa,⟨o,dk.refl _ _,aa,aa⟩,?_,w.pB (B:=0) (lf:=.j (o 5001).2 20 48<|ab dy<|iB b B) aa A aa (bv _) (λ_=>aa) (bj aa) ⟨aa,aa,aa,ao,λax aL ap=>setRow_other E.drew g ax _ λu=>ap (by rw[aM,u])⟩ ?_⟩;rw[S];refine .bH _ _ _ _ d _ (i.kg _ _) q aa λ_=>bp ⟨g,d.base,cap,aM,ao,q,t,bp ⟨q,aq⟩⟩;have get:∀(c:Z)(I:V),(ab dy (iB b B))[c]?=W I->∃e:Z,(ab dy b)[e]?=W I/\e<U b/\(c<B/\e=c\/B<=c/\e=c+1):=λc I f=>by rw[db,O4] at f;split at f;grind;grind
 refine⟨D,p,bp ⟨g,K,aM,x.drew.set L,q,?_,N,λc I f=>?_,λc n I s f h=>?_⟩⟩;grind;obtain⟨e,k,_⟩:=get c I f;grind;obtain⟨e,k,aK,T⟩:=get c I f;obtain⟨G,aw,av⟩:=C e n I s k h;have aJ:n<20:=by rw[<-y e I k];exact(eX.1 h).1
 refine⟨G,?_,av.mono ak⟩;rw[p];rcases T with⟨P,rfl⟩|⟨P,rfl⟩;grind;have:=O ((c-B)*20+n) q;rw[show d.base+B*20+((c-B)*20+n)=d.base+c*20+n by omega,show d.base+(B+1)*20+((c-B)*20+n)=d.base+(c+1)*20+n by omega] at this;grind
def akL(b:Y eT)(d:U b<=1048576):bh 20 [.al 20 (ab dy b)] (.al 20 (ab dy b)):=by
 have c:am (U (ab dy b)-0) (ay 0 (ab dy b))=ab dy b:=by rw[qn,J8,iJ]
 generalize ab _ b=e at c (by simpa using d);refine bs func20 [] λp f=>?_;refine MV 0 ?_;rw[c];exact aL
def akM(b:Y dx)(d:U b<=1048576):bh 10 [.al 2 (ab eP b)] (.al 2 (ab eP b)):=by
 have c:am (U (ab eP b)-0) (ay 0 (ab eP b))=ab eP b:=by rw[qn,J8,iJ]
 generalize ab _ b=e at c (by simpa using d);refine bs func10 [] λp f=>?_;refine MV 0 ?_;rw[c];exact aL
def dx.set(b:dx)(B:Z)(c:eT):dx:={b with bt:=aR b.bt B c}
def dx.del(b:dx)(B:Z):dx:={b with bt:=iB b.bt B}
theorem dx.ok.set{c:dx}(b:c.ok){B:Z}{d:eT}(f:d.ok):(c.set B d).ok:=⟨b.state,by rw[dx.set];exact⟨by simpa using b.bt.1,λh g=>(Vm g).elim (b.bt.2 h) λe=>e▸f⟩⟩
def dx.ok.del{c:dx}(b:c.ok){B:Z}:(c.del B).ok:=⟨b.state,by rw[dx.del];exact⟨by have:=b.bt.1;have:=aht c.bt B;dsimp only;omega,λe d=>b.bt.2 e<|ahw d⟩⟩
def PH{b:Y dx}{m:dx}{M:X}{A:Y dx}(c:o9 b m M=A):U A<=U b+1:=by rw[<-c,o9];split<;>simp
noncomputable def zi(c:dx)(B:Z):Y dx:=let b:=y c.bt B av
 let e:=o9 [] (c.del B) ag;let f:=o9 e (c.set B {b with status:=if b.status=500 then 200 else 500}) ag;let g:=o9 f (c.set B {b with text:=[]})<|aH ¬b.text=[];let h:=o9 g (c.set B {b with next:=[]})<|aH ¬b.next=[];let i:=o9 h (c.set B {b with state:=[]})<|aH ¬b.state=[];let k:=o9 i (c.set B {b with times:=0})<|aH ¬b.times=0;let d:=o9 k (c.set B {b with prio:=b.prio+1}) ag
 if B+1<U c.bt then o9 d ((c.set B<|y c.bt (B+1) av).set (B+1) b) ag else d
abbrev abo(d:dx)(B:Z)(c:Y dx):aN:=⟨[(1,l B),(2,b 2),(5,b 5),(6,eo (c1 18) [] [b 5])],[(2,ah 24<|eP d),(5,ah 25<|.a 1005 0<|U<|ab eP c),(1005,.j 2 24<|ab eP c)],[]⟩
def aqW{K:dV}{h:L}{b:dx}(m:b.ok)(n:b.CD)(B:Z)(i:B<U b.bt)(G:∀J∈b.bt, -1000000000<=J.prio/\J.prio<=1000000000):eN bL (fO K h) 9 [eP b,l B] (.al 2 (ab eP (zi b B))):=by
 have N:=n.1;obtain⟨d,A⟩:∃d,y b.bt B av=d:=⟨_,aa⟩;have v:b.bt[B]?=W d:=by rw[<-A];simp[i]
 have C:d∈b.bt:=dY v;have D:=m.bt.2 d C;have H:=G d C;obtain⟨a_,e⟩:∃a_,zi b B=a_:=⟨_,aa⟩;rw[e];rw[zi,A] at e;refine bs func9 [2004,2006,2007,2008,2009,2010,2011,2012,2015] λp M=>?_;refine bG [(1003,1007)] ?_ (g:=Iy K h<|Qv b n q);refine a1.eK 1005 2 24 [] (W (5,0)) ?_;refine dA ?_;refine aY ?_;refine Nf 7 [1]<|bG [(5001,1007)] ?_ (g:=Iy K h<|al8 b.bt B i q);refine xL 1007 ?_;refine aT ?_ (g:=rW K h<|akL (iB b.bt B) (by have:=aht b.bt B;omega));refine bG [(6000,5),(5001,1005)] ?_ (g:=PK K h (b.del B) m.del ag [] ao);generalize o:o9 [] (b.del B) ag=t at e⊢;have z:=PH o;rw[O7] at z;have j5:=aqY v D H
 iterate 6
  obtain⟨u,j5⟩:=j5;refine ke (abo b B _) ?_ .r;refine dA ?_;refine aT ?_ (g:=rW K h<|akA _ ⟨cb⟩ b n B i _ ao _ u.2);refine bG [(6000,5),(5001,1005)] ?_ (g:=PK K h (b.set B _) (m.set u.1) _ t q);generalize o:o9 _ _ _=t;rw[o] at e;have z:=PH o
 refine ke (abo b B _) ?_ .r;refine dA ?_;refine aY ?_;apply f<;>intro u
 .have s:B+1<U b.bt:=q;rw[af s] at e;obtain⟨c,aU⟩:∃c,y b.bt (B+1) av=c:=⟨_,aa⟩;rw[aU] at e;have w:b.bt[B+1]?=W c:=by rw[<-aU];simp[s]
  have I:=m.bt.2 c<|dY w;have x:(ab dy b.bt)[B]?=W (dy d):=by rw[db,v];rfl
  have E:(ab dy b.bt)[B+1]?=W (dy c):=by rw[db,w];rfl
  have F:(ab dy (aR b.bt B c))[B+1]?=W (dy c):=by rw[db,Vh q,w];rfl
  refine bG [(1003,1008)] ?_ (g:=Iy K h<|Qv b n q);refine ei ?_
  iterate 2 refine bw (λ_=>aY aa) ?_
  refine bw (λ_=>cE (B+1) aa (k:=by rw[bm];exact s)) ?_;refine bw (λ_=>fl (dy c) aa (k:=E)) ?_;refine bw (λ_=>cE B aa (k:=by rw[bm];exact i)) ?_;refine bw (λ_=>fl (dy d) aa (k:=x)) ?_;refine bw (λ_=>cE B aa (k:=by rw[bm];exact i)) ?_;refine uk (ab dy<|aR b.bt B c) (dy d) (dy c) ?_ (k:=x) (aU:=I8);refine bw (λ_=>cE (B+1) aa (k:=by rw[bm];exact s)) ?_;refine uk (ab dy<|aR (aR b.bt B c) (B+1) d) (dy c) (dy d) ?_ (k:=F) (aU:=I8);refine fz ?_;refine Dr 1008 (U<|ab dy b.bt) (aC:=ab dy<|aR (aR b.bt B c) (B+1) d) ao ?_;refine bG [(6000,5),(5001,1005)] ?_ (g:=PK K h ((b.set B c).set (B+1) d) ((m.set I).set D) ag t q);rw[e];exact gq 1005<|dj br
 rw[ad q] at e;rw[e];exact gq 1005<|dj br
def BK(b:dx)(d:U b.bt<=1000)(B:Z)(c:eT)(f:B<U b.bt):bh 32 [eP b,l B,dy c] (eP (b.set B c)):=by have aU:aR (ab _ b.bt) B _=ab dy (aR b.bt B c):=I8;refine bs func32 [] λp e=>?_;refine abW _ ?_ (gi:=.al aa aa aa aa λb d=>(by obtain⟨_,_,rfl⟩:=dI.1 d;rfl)) (bl:=aK);refine cE B ?_ (k:=bi);refine fF _ _ _ ?_ (aU:=aU);exact yW 10 (U<|ab _ b.bt) (aC:=ab _<|aR b.bt B c) ao<|dj br
def adx{g:Type}:∀{b:Y g}{B:Z}{d c:g},b[B]?=W d->g7 (iB b B++[c]) (aR b B c)|[],B,d,c,e=>cf|f::b,0,d,c,e=>by simp|f::b,B+1,d,c,e=>by exact List.Perm.cons f<|adx (by simpa using e)
def amI{t C g I:aw}{au H J y k:Z}{F:bq}{e D:aP}{f B m:Z}{z K:Y V}(ap:cu P t (c_ g) au H)(S:gx P g J y)(ax:jr P g F)(ay:a9 (dp F)=J)(w:M.op=ft {callee:=gP oZ,args:=#[e,D],argTypes:=#[t,C]})(n:O.val p e=W .bo)(i:O.d[B]?=W (f,.j k J I K))(am:jP P p ⟨O.c,aR O.d B (f,.j (k+1) J g [])⟩ D C J m z)(aC:m<=ja)(aD:m*y<=140737488355328):eH P p M O (.bH f (k+2) 0 m) (aR O.d B (f,.j (k+2) J g z)):=by
 have aE:=(eX.1 i).1;intro o E u b fa aA vZ;obtain⟨aB,T,A⟩:=b.cO.gd f _<|dY i;have ar:aB.aS=k:=bQ A.1▸aa;have ak:=A.2.1;have U:∀M,(f,M)∉iB O.d B:=λM w=>by obtain⟨aF,r⟩:=rl.1 w;rw[O4] at r;split at r;have:=Bw b.cO.kt r i aa;omega;have:=Bw b.cO.kt r i aa;omega
 have h:=(b.cO.drop<|O1 _ B).renew g T (b.cO.own _ _<|dY i) U;have h:=h.perm (adx i).symm;rw[ar,ak] at h;have v:u.le (u.fV f ⟨ai,0,k+1,0,J⟩):=bf.jh λaG l=>by simp_all
 have R:a_ p ⟨O.c,aR O.d B _⟩ o E _:=⟨h,λt e n=>by let⟨x,l,N⟩:=b.c t e n;exact⟨x,l,N.mono v⟩,λL e n=>(b.gR L e n).mono v,b.size,b.defers⟩;have l:=b.val n;have av:b1 o e=eY ai 0 0:=by generalize b1 o e=x at l;cases l;rfl
 have az:=QL (off:=0) (B:=B) ap S ax ay w aq ao am q bi
  o E _ R ⟨_,u.kg _ _,⟨aa,aa,bj ⟨aa,aa⟩⟩,bj ⟨aa,aa,av⟩⟩
 obtain⟨x,aJ,G,aI,aH,Q,X,h,s,rfl,rfl⟩:=az;unfold Oper.wp;rcases s with s|⟨rfl,s⟩<;>rw[s];exact vZ _ _ G (v.trans Q) (by simpa using X) (by simpa using h);trivial
section
variable{m:Z}{B:ep->aN->Prop}
def aza{s t k n:aw}{e:cH}{l:Z}{r g:Y V}{C u:aP}b f aC(H:B ([],[l]) ({J with az:=s3 J.az l (f,.j e.size k aC)}.put M.dst (.a f 0<|U aC)))(Q:M.op=ft {callee:=gP oZ,args:=#[C,u],argTypes:=#[s,t]}:=by rfl)(v:fC K s (c_ k):=by exact fX)(G:K.find k=W e:=by rfl)(S:val i J.c C=W .bo:=by rfl)(av:qa J.az b 0=W l:=by rfl)(ap:sK J.az l=W (b,.j e.size n r):=by rfl)(gi:kG K i ⟨J.c,[],[]⟩ u t e.size g:=by exact B_)(T:a9 (dp e.z)=e.size:=by rfl)(aM:hB e.bytes 8388608:=by rfl)(aU:g=aC:=by rfl)(I:U aC<=16777216:=by exact si)(ar:g8 f m:=by rfl)(N:ry (h9 [f]) J.c:=by kernel_rfl)(L:rz (h9 [f]) [l] J.az 0:=by kernel_rfl)(aq:ef b f=ae:=by rfl):mM P K p i m ops M J Rd B:=by
 subst aU;refine .mk [] [(l,(f,.j e.size k g))] (.a f 0<|U g) [] [(b,.j e.size n r)] [f] ba aa yo (bp N) (bp L)
  (λdz y A o=>⟨e2 o f ((o b).1,(o b).2+2),dk.of λs v=>hd kj,λs v=>hd λk=>Ka,λaA aF aE ax ay=>by grind[e2],λh=>?_⟩) H
 obtain⟨_,_,D⟩:=v.eD dz;have w:=dz.find G;let O:bc:=⟨dt M<|da o J.c,h++[((o b).1,.j (o b).2 e.size n r)]⟩;have R:jP P p ⟨O.c,aR O.d (U h) ((o b).1,.j ((o b).2+1) e.size k [])⟩ u t e.size (U g) g:=by
  have F:kG K i ⟨J.c,[],h⟩ u t e.size g:=gi.more;have x:=(kG.dt (M:=M) (J:=J) F pI).src dz y A o;have E:(⟨dt M J.c,[],h⟩:aN).aB o=⟨dt M (da o J.c),h⟩:=by show(⟨da o (dt M J.c),_++[]⟩:bc)=_;rw[wu,gv]
  rw[E] at x;exact x.more aK
 have:=amI (p:=p) (O:=O) (B:=U h) D w.au w.lG T Q (vi y A S pI) (show O.d[(U h)]?=W ((o b).1,.j (o b).2 e.size n r) by grind) R (by grind[ja])<|yH I aM;have am:aR O.d (U h) ((o b).1,.j ((o b).2+2) e.size k g)=h++[((o b).1,.j ((o b).2+2) e.size k g)]:=by simp[O]
 have X:(V.a f 0 (U g)).aB (e2 o f ((o b).1,(o b).2+2))=.bH (o b).1 ((o b).2+2) 0 (U g):=by simp[V.aB,V.jW,V.e8,V.e0,e2]
 have ak:aZ (e2 o f ((o b).1,(o b).2+2)) [(f,b7.j e.size k g)]=[((o b).1,.j ((o b).2+2) e.size k g)]:=by simp only[aZ,ia,rk,c2,b7.aD,iT]
 show eH P p M ⟨dt M _,h++([]++[((o b).1,.j (o b).2 e.size n r)])⟩ _ (h++([]++aZ _ _))
 (simp_all;omega)
end
def sU(b:dx)(B:Z):Y dx:=[b.del B,b.set B {y b.bt B av with status:=if(y b.bt B av).status=500 then 200 else 500},b.set B {y b.bt B av with text:=[]},b.set B {y b.bt B av with next:=[]},b.set B {y b.bt B av with state:=[]},b.set B {y b.bt B av with times:=0},b.set B {y b.bt B av with prio:=(y b.bt B av).prio+1}]++if B+1<U b.bt then[(b.set B<|y b.bt (B+1) av).set (B+1) (y b.bt B av)] else[]
abbrev FY(d:dx)(B:Z)(e f:eT)(c:Y dx):aN:=⟨[(1,l B),(2,b 2),(5,b 5),(7,.a 29 0<|U<|ab eP c),(8,b 8)],[(2,ah 24<|eP d),(5,ah 48<|dy e),(8,ah 48<|dy f),(29,.j 2 24<|ab eP c)],[]⟩
def EH{d:Type}c b(A:Y d):c++b::A=c++[b]++A:=ao
def auC{c:dx}(bl:U c.bt<=1000){B:Z}(h:B<U c.bt)(L:∀J∈c.bt, -1000000000<=J.prio/\J.prio<=1000000000):bh 12 [eP c,l B] (.al 2 (ab eP (sU c B))):=by
 obtain⟨d,G⟩:∃d,y c.bt B av=d:=⟨_,aa⟩;have H:c.bt[B]?=W d:=by rw[<-G];simp[h]
 have N:d∈c.bt:=dY H;have T:=L d N;have M:(ab dy c.bt)[B]?=W (dy d):=by rw[db,H];rfl
 have R:ab dy (iB c.bt B)=am B (ab dy c.bt)++ay (B+1) (ab dy c.bt):=by rw[List.eraseIdx_eq_take_drop_succ,dc,Gu,JZ]
 have P:U (ab dy c.bt)=U c.bt:=bm _;obtain⟨a_,e⟩:∃a_,sU c B=a_:=⟨_,aa⟩;rw[e];rw[sU,G,kh] at e;refine bs func12 [34,2004,2010,2013,2016,2019,2022,2025] λp Q=>?_;refine bB B (dy d) ?_ (k:=M);refine a1.eK 1006 20 48 [] ai ?_;refine ei ?_;refine bw (λ_=>SS 0 B aa) ?_;refine aza 1006 20 (am B<|ab dy c.bt) ?_ (gi:=.al aa aa aa aa λc u=>(by obtain⟨_,_,rfl⟩:=dI.1<|D6<|pE u;rfl)) (aU:=ao);simp only[kh,na] at e;replace e:[c.del B]++_=a_:=e;refine bw (λ_=>aY aa) ?_;refine bw (λ_=>SS (B+1) (U c.bt) aa) ?_;refine jY 26 (ab dy<|iB c.bt B) ?_ (gi:=.al aa aa aa aa λc u=>(by obtain⟨_,_,rfl⟩:=dI.1<|D6<|pE u;rfl)) (aU:=by grind[List.take_of_length_le,dy]) (bl:=aK);refine fo ?_;refine jz [(26,1006)] ?_;refine ke ⟨[(1,l B),(2,b 2),(5,b 5),(6,b 6)],[(2,ah 24<|eP c),(5,ah 48<|dy d),(6,ah 24<|b2 [a8 c.state,.a 1006 0<|U<|ab dy<|iB c.bt B]),(1006,.j 20 48<|ab dy<|iB c.bt B)],[]⟩ ?_;refine a1.h6 1006 ?_;refine dA ?_;refine n0 ?_;refine gZ j3 (λ_=>FY c B d {d with status:=if d.status=500 then 200 else 500} [c.del B]) (λ_=>dW) ?_ λ_ _=>?_;apply f<;>intro w;rw[af w];exact dn ();rw[ad w];exact dn ();have x:U [c.del B]=1:=aa;generalize [c.del B]=s at e x⊢;refine aT ?_ (g:=BK c bl B {d with status:=if d.status=500 then 200 else 500} h);refine cp ?_;refine eB (ab eP<|s++[c.set B {d with status:=if d.status=500 then 200 else 500}]) ?_ (aU:=ao) (bl:=aq);rw[EH] at e;have z:U (s++[c.set B {d with status:=if d.status=500 then 200 else 500}])=2:=by simp[x]
 generalize s++[c.set B {d with status:=if d.status=500 then 200 else 500}]=t at e z⊢;refine dA ?_;refine aT ?_ (g:=BK c bl B {d with text:=[]} h);refine cp ?_;refine eB (ab eP<|t++[c.set B {d with text:=[]}]) ?_ (aU:=ao) (bl:=aq);rw[EH] at e;have A:U (t++[c.set B {d with text:=[]}])=3:=by simp[z]
 generalize t++[c.set B {d with text:=[]}]=m at e A⊢;refine ke (FY c B d {d with text:=[]} m) ?_;refine dA ?_;refine aT ?_ (g:=BK c bl B {d with next:=[]} h);refine cp ?_;refine eB (ab eP<|m++[c.set B {d with next:=[]}]) ?_ (aU:=ao) (bl:=aq);rw[EH] at e;have C:U (m++[c.set B {d with next:=[]}])=4:=by simp[A]
 generalize m++[c.set B {d with next:=[]}]=n at e C⊢;refine ke (FY c B d {d with next:=[]} n) ?_;refine dA ?_;refine aT ?_ (g:=BK c bl B {d with state:=[]} h);refine cp ?_;refine eB (ab eP<|n++[c.set B {d with state:=[]}]) ?_ (aU:=ao) (bl:=aq);rw[EH] at e;have D:U (n++[c.set B {d with state:=[]}])=5:=by simp[C]
 generalize n++[c.set B {d with state:=[]}]=o at e D⊢;refine ke (FY c B d {d with state:=[]} o) ?_;refine dA ?_;refine aT ?_ (g:=BK c bl B {d with times:=0} h);refine cp ?_;refine eB (ab eP<|o++[c.set B {d with times:=0}]) ?_ (aU:=ao) (bl:=aq);rw[EH] at e;have E:U (o++[c.set B {d with times:=0}])=6:=by simp[D]
 generalize o++[c.set B {d with times:=0}]=r at e E⊢;refine ke (FY c B d {d with times:=0} r) ?_;refine dA ?_;refine aY ?_;refine aT ?_ (g:=BK c bl B {d with prio:=d.prio+1} h);refine cp ?_;refine eB (ab eP<|r++[c.set B {d with prio:=d.prio+1}]) ?_ (aU:=ao) (bl:=aq);rw[EH] at e;have K:U (r++[c.set B {d with prio:=d.prio+1}])=7:=by simp[E]
 generalize r++[c.set B {d with prio:=d.prio+1}]=v at e K⊢;refine ke (FY c B d {d with prio:=d.prio+1} v) ?_;refine dA ?_;refine aY ?_;apply f<;>intro S;have F:B+1<U c.bt:=q;rw[af F] at e;obtain⟨i,aU⟩:∃i,y c.bt (B+1) av=i:=⟨_,aa⟩;rw[aU] at e;have O:c.bt[B+1]?=W i:=by rw[<-aU];simp[F]
 have I:(ab dy c.bt)[B+1]?=W (dy i):=by rw[db,O];rfl
 refine a1.eK 1009 2 24 [] ai ?_;refine ei ?_;refine bw (λ_=>aY aa) ?_;refine bw (λ_=>bB (B+1) (dy i) aa (k:=I)) ?_;refine bw (λ_=>ch aa (g:=BK c bl B i h)) ?_;refine DY 1009 9 ?_;refine fo ?_;refine fz ?_;refine aY ?_;refine aT ?_ (g:=BK (c.set B i) (by grind[dx.set]) (B+1) d (by(simp[dx.set];omega)));refine cp ?_;refine eB (ab eP<|v++[(c.set B i).set (B+1) d]) ?_ (aU:=ao) (bl:=aK);rw[e];exact gq 29<|dj br;rw[ad q,gv] at e;rw[<-e];exact gq 29<|dj br
def LY{b:Y L}(e:iN b=0):∀f∈b,f=0:=by
 induction b
 trivial
 next c b g=>by_cases d:c≠0;grind[jg,cg];rw[jf d] at e;grind
def GY{b:Prop} [sj b]{c:L}(e:nT b c=0)(d:c≠0):¬b:=by simp_all[nT,af]
def UH{b:Y eT}:∀{fa:Y (Y C)},uh fa b=0->∀J∈b,px J=0:=by
 induction b
 simp
 next d b f=>intro fa c J e;rw[uh] at c;grind
theorem Ou{b:dx}(c:lF b=0):U b.bt<=200/\zB b.state/\uh [] b.bt=0:=by rw[lF] at c;grind
def Jk{J:eT}(b:px J=0):(-1000000000<=J.prio/\J.prio<=1000000000)/\U J.body<=1/\∀c∈J.body,0<U c.cQ:=by have b:=LY b;refine⟨?_,?_,?_⟩;have:=GY (b _ (by simp;right;left;rfl)) a2;omega;have:=GY (b (nT (1<(U J.body:L)) 2) (by simp[yd])) a2;omega;intro c aM;have:=b (iM hv c) (by rw[yd];grind);rw[iM] at this;omega
def XD{c:dx}(g:c.ok)(h:lF c=0):c.CD/\∀J∈c.bt, -1000000000<=J.prio/\J.prio<=1000000000:=by obtain⟨e,i,f⟩:=Ou h;have d:=UH f;exact⟨⟨e,λJ b=>⟨g.bt.2 J b,(Jk<|d J b).2.1,(Jk<|d J b).2.2⟩⟩,λJ b=>(Jk<|d J b).1⟩
theorem aqV u B:U (zi u B)<=8:=by have b:∀c m(M:X) R,U c<=R->U (o9 c m M)<=R+1:=λc m M R t=>c9 (PH aa)<|Nat.succ_le_succ t;have:=λe g n I l p s d f h i k o r=>b _ e d 6<|b _ g f 5<|b _ n h 4<|b _ I i 3<|b _ l k 2<|b _ p o 1<|b [] s r 0<|bv _;grind[zi,Nat.le_trans]
noncomputable def xB(c:dx)(b:Z):Y dx:=ff (zi c)<|bM b
theorem abS c b:xB c (b+1)=xB c b++zi c b:=by simp[xB,sh,zU]
def abR c b:U (xB c b)<=8*b:=by
 induction b
 exact bv _
 next b d=>grind[abS,List.length_append,aqV]
noncomputable def Ie(b:dx):Y dx:=if lF b=0 then xB b (U b.bt) else[]
def aq0 K m{c:dx}(h:c.ok):eN bL (fO K m) 4 [eP c] (cv [.al 2 (ab eP (Ie c)),an aj (lF c)]):=by
 refine bs func4 [] λp t=>?_;refine aT ?_ (g:=ac7 h);apply f<;>intro e;rw[Ie,ad e];exact lQ 2 [2] aL;have e:=by simpa using e
 rw[Ie,af e,e];obtain⟨i,n⟩:=XD h e;have:=i.1;apply a1.eK 1005 2 24 [5] ai;refine e9 (U c.bt) (λd=>⟨[(1,b 1),(5,.a _ 0<|U<|ab eP<|xB c d),(14,_),(15,l d)],[(1,ah 24 _),(1005,.j 2 24<|ab eP<|xB c d)],[]⟩) (λd k=>?_) .r;apply f<;>intro o;have bl:=abR c<|d+1;refine aT ?_ (g:=aqW h i d q n);refine eB (ab _<|xB c _) ?_ (gi:=.al aa aa aa aa λc h=>(by obtain⟨_,_,rfl⟩:=dI.1 h;rfl)) (aU:=by rw[abS,dc]) (bl:=aK);refine aY ?_;exact a4<|d+1;have k:d=U c.bt:=q;have:=abR c d;rw[<-k];apply f<;>intro s;omega;apply xL 1005;refine aT ?_ (g:=rW K m<|akM (xB c d) q);exact aL
section
open Go.Lib
def Jq(K:dV)(m:hQ):Y C:=jm [m.c0]++l2 K [m.text]
def vg(K:dV)(b:Y hQ):Y C:=jm [(U b:L)]++ff (Jq K) b
def Jr(K:dV)(E:k4):Y C:=l2 K [E.name]++vg K [E.m]
def wz(K:dV)(b:Y k4):Y C:=jm [(U b:L)]++ff (Jr K) b
def Ov(K:dV)(b:Am):Y C:=l2 K [b.name,b.value]
def BR(K:dV)(b:Y Am):Y C:=jm [(U b:L)]++ff (Ov K) b
def x8(K:dV)(b:lJ):Y C:=r7 [b.has,b.op,b.n.neg]++l2 K [b.n.bT]++jm [b.n.exp]
def F9(K:dV)(J:hq):Y C:=x8 K J.low++x8 K J.high++r7 [J.oe]
def F7(K:dV)(b:nM):Y C:=l2 K [b.name]++jm [b.shape]++r7 [b.Bo]
def F8(K:dV)(J:gh):Y C:=r7 [J.null,J.re,J.ht,J.kb]++jm [J.km,J.item,J.min,J.max,J.rest,U J.eL,U J.dR,U J.dG]++jm J.eL++l2 K [J.kd]++ff (F9 K) J.dR++ff (F7 K) J.dG
def zD(K:dV)(J:nO):Y C:=jm [J.root,U J.cQ]++ff (F8 K) J.cQ
def i7(K:dV)(J:eT):Y C:=l2 K [J.name,J.state,J.next,J.text]++jm [J.prio,J.times,J.status,J.sE,U J.body]++r7 [J.rest]++vg K [J.method,J.target,J.raw]++vg K J.path++wz K J.query++wz K J.head++BR K J.iS++ff (zD K) J.body
def lj(K:dV)(b:dx):Y C:=l2 K [b.state]++jm [(U b.bt:L)]++ff (i7 K) b.bt
def eF.h{J:Y C}:eF J->U J<=100000000:=by grind[eF]
def FF{J:Y C}(c:eF J):∀b∈[J],U b<=100000000:=λb d=>by rw[eu.1 d];exact c.h
def AV{f:Type} [l9 f]{c:f->Y C}{b:Y f}{e A M:Y C}{d:Z}:e++ff c b=A->U A<=6000000000000->d<U b->M=e++ff c (am d b)->U (M++c (y b d av))<=6000000000000/\M++c (y b d av)=e++ff c (am (d+1) b):=by grind[LK,LJ,av,List.append_assoc,List.length_append]
def Fr(e f n g:Z)(c:Y V)(d:Z×Y C):aN:=⟨[(0,b 6000),(e,.al g c),(f,l<|U c),(n,l d.1)],xp d.2,[]⟩
section
variable{K:dV}(dz:st K)(m:L)
include dz
theorem Rx b(r:kq b λd=>eF d.text):yu K m 36 (.al 2<|ab mP b) (vg K b):=by
 intro h aM;obtain⟨A,c⟩:∃A,h++vg K b=A:=⟨_,aa⟩;have s:U A<=6000000000000:=by rw[<-c,cd];exact aM
 rw[c];rw[vg,<-eS] at c;have:=r.1;have:U (h++jm [U b])<=6000000000000:=by rw[<-c,cd] at s;omega
 refine c4 func36 [] λB p w=>?_;refine cp ?_;rw[bm _];refine bG [(6000,6000),(5001,5001)] ?_ (g:=v1 m [U b] ao h aq);generalize h++jm _=o at c;refine c8 _ (Fr 11 12 13 2<|ab mP b) (λe=>e.1<=U b/\e.2=o++ff (Jq K) (am e.1 b)) (λe=>U b-e.1) (0,o) λ⟨i,M⟩ k=>?_;dsimp at k⊢;obtain⟨z,n⟩:=k;apply f<;>intro v;have t:i<U b:=q;have u:=r.2 _<|ka t;have l:=AV c s t n;generalize x:y b i av=d at l u;rw[Jq,<-eS,cd,cd] at l;refine bB i (mP d) ?_ (k:=aq);refine cp ?_;refine bG [(6000,6000),(5001,5001)] ?_ (g:=v1 m [d.c0] ao M q);refine cp ?_;refine bG [(6000,6000),(5001,5001)] ?_ (g:=A9 dz [d.text] (FF u) ao (M++jm [d.c0]) bi);refine aY ?_;exact a4 (i+1,_) ⟨q,l.2⟩;rw[vU q,c] at n;subst n;exact cJ
theorem ZS b(s:kq b λd=>eF d.name/\eF d.m.text):yu K m 37 (.al 3<|ab kJ b) (wz K b):=by
 intro h aM;obtain⟨A,c⟩:∃A,h++wz K b=A:=⟨_,aa⟩;have t:U A<=6000000000000:=by rw[<-c,cd];exact aM
 rw[c];rw[wz,<-eS] at c;have:=s.1;have:U (h++jm [U b])<=6000000000000:=by rw[<-c,cd] at t;omega
 refine c4 func37 [] λE p x=>?_;refine cp ?_;rw[bm _];refine bG [(6000,6000),(5001,5001)] ?_ (g:=v1 m [U b] ao h aq);generalize h++jm _=o at c;refine c8 _ (Fr 11 12 13 3 _) (λe=>e.1<=U b/\e.2=o++ff (Jr K) (am e.1 b)) (λe=>U b-e.1) (0,o) (λ⟨i,M⟩ k=>?_) (bA:=.r);dsimp at k⊢;obtain⟨B,n⟩:=k;apply f<;>intro w;have u:i<U b:=q;have v:=s.2 _<|ka u;have l:=AV c t u n;generalize z:y b i av=d at l v;rw[Jr,<-eS,cd,cd] at l;refine bB i (kJ d) ?_ (k:=aq);refine cp ?_;refine bG [(6000,6000),(5001,5001)] ?_ (g:=A9 dz [d.name] (FF v.1) ao M q);refine cp ?_;refine bG [(6000,6000),(5001,5001)] ?_ (g:=Rx dz m [d.m] ⟨ao,λD C=>aq⟩ (M++l2 K [d.name]) bi);refine aY ?_;exact a4 (i+1,_) ⟨q,l.2⟩;rw[vU q,c] at n;subst n;exact cJ
theorem aoD b(u:kq b λd=>eF d.name/\eF d.value):yu K m 38 (.al 2<|ab vP b) (BR K b):=by
 intro i aM;obtain⟨A,c⟩:∃A,i++BR K b=A:=⟨_,aa⟩;have v:U A<=6000000000000:=by rw[<-c,cd];exact aM
 rw[c];rw[BR,<-eS] at c;have:=u.1;have:U (i++jm [U b])<=6000000000000:=by rw[<-c,cd] at v;omega
 refine c4 func38 [] λF p B=>?_;refine cp ?_;rw[bm _];refine bG [(6000,6000),(5001,5001)] ?_ (g:=v1 (K:=K) m [U b] ao i aq);generalize i++jm _=t at c;refine c8 _ (Fr 11 12 13 2 _) (λe=>e.1<=U b/\e.2=t++ff (Ov K) (am e.1 b)) (λe=>U b-e.1) (0,t) (λ⟨l,M⟩ k=>?_) (bA:=.r);dsimp at k⊢;obtain⟨D,o⟩:=k;apply f<;>intro z;have w:l<U b:=q;have s:=u.2 _<|ka w;have n:=AV c v w o;generalize C:y b l av=d at n s;rw[Ov,cd] at n;refine bB l (vP d) ?_ (k:=aq);refine cp ?_;refine bG [(6000,6000),(5001,5001)] ?_ (g:=A9 dz [d.name,d.value] (λE x=>by simp at x;rcases x with rfl|rfl;exact s.1.h;exact s.2.h) ao M q);refine aY ?_;exact a4 (l+1,_) ⟨q,n.2⟩ (bA:=.r);rw[vU q,c] at o;subst o;exact cJ
theorem ZP b(d:eF b.n.bT):yu K m 55 (CR b) (x8 K b):=by intro c aM;rw[x8,cd,cd] at aM;rw[x8,<-eS,<-eS];refine c4 func55 [] λf p e=>?_;refine cp ?_;refine bG [(6000,6000),(5001,5001)] ?_ (g:=HS m [b.has,b.op,b.n.neg] ao c q);refine cp ?_;refine bG [(6000,6000),(5001,5001)] ?_ (g:=A9 dz _ (FF d) ao (c++r7 [b.has,b.op,b.n.neg]) bi);refine cp ?_;refine bG [(6000,6000),(5001,5001)] ?_ (g:=v1 m [b.n.exp] ao (c++r7 [b.has,b.op,b.n.neg]++l2 K [b.n.bT]) bi);exact cJ
end
end
section
open Go.Lib
structure gh.i6(T:gh):Prop where
 kd:eF T.kd
 dR:kq T.dR λJ=>eF J.low.n.bT/\eF J.high.n.bT
 eL:U T.eL<=1048576
 dG:kq T.dG λar=>eF ar.name
section
variable{K:dV}(dz:st K)(m:L)
include dz
theorem aoF(J:nO)(bA:kq J.cQ gh.i6):yu K m 39 (nj J) (zD K J):=by
 intro B aM;obtain⟨A,t⟩:∃A,B++zD K J=A:=⟨_,aa⟩;have au:U A<=6000000000000:=by rw[<-t,cd];exact aM
 rw[t];rw[zD,<-eS] at t;have aQ:=bA.1;have aH:U (ab ha J.cQ)=U J.cQ:=bm _;have aI:U (B++jm [J.root,U J.cQ])<=6000000000000:=by rw[<-t,cd] at au;omega
 refine c4 func39 [] λaT p aN=>?_;refine cp ?_;rw[aH];refine bG [(6000,6000),(5001,5001)] ?_ (g:=v1 (K:=K) m [J.root,U J.cQ] ao B (by rw[<-cd];exact aI));generalize B++jm [J.root,U J.cQ]=ak at t;refine c8 _ (Fr 19 20 21 13<|ab ha J.cQ) (λe=>e.1<=U J.cQ/\e.2=ak++ff (F8 K) (am e.1 J.cQ)) (λe=>U J.cQ-e.1) (0,ak) (λ⟨w,M⟩ k=>?_) ⟨dJ _,ao⟩ (by rw[Fr];exact .r);dsimp only at k⊢;obtain⟨aP,T⟩:=k;apply f<;>intro ar;have X:w<U J.cQ:=by dsimp only at ar;omega
 have u:=bA.2 _<|ka X;have L:=AV t au X T;generalize aF:y J.cQ w av=c at L u;refine bB w (ha c) ?_ (k:=by rw[<-aF];exact eZ X);obtain⟨O,R⟩:∃n,n=M++r7 [c.null,c.re,c.ht,c.kb]:=⟨_,aa⟩;obtain⟨P,E⟩:∃n,n=O++jm [c.km,c.item,c.min,c.max,c.rest,U c.eL,U c.dR,U c.dG]:=⟨_,aa⟩;obtain⟨Q,F⟩:∃n,n=P++jm c.eL:=⟨_,aa⟩;obtain⟨D,G⟩:∃n,n=Q++l2 K [c.kd]:=⟨_,aa⟩;obtain⟨ap,H⟩:∃n,D++ff (F9 K) c.dR=n:=⟨_,aa⟩;obtain⟨aq,I⟩:∃n,ap++ff (F7 K) c.dG=n:=⟨_,aa⟩;have aE:M++F8 K c=aq:=by rw[<-I,<-H,G,F,E,R,F8];simp only[eS]
 rw[aE] at L;have aA:U aq<=6000000000000:=L.1;have az:U ap<=6000000000000:=by rw[<-I,cd] at aA;omega
 have ay:U D<=6000000000000:=by rw[<-H,cd] at az;omega
 have ax:U Q<=6000000000000:=by rw[G,cd] at ay;omega
 have aw:U P<=6000000000000:=by rw[F,cd] at ax;omega
 have aJ:U O<=6000000000000:=by rw[E,cd] at aw;omega
 have aB:U (ab gI c.eL)=U c.eL:=bm _;have aC:U (ab pX c.dR)=U c.dR:=bm _;have aD:U (ab fw c.dG)=U c.dG:=bm _;have aR:=u.dR.1;have aS:=u.dG.1;refine cp ?_;refine bG [(6000,6000),(5001,5001)] ?_ (g:=HS (K:=K) m [c.null,c.re,c.ht,c.kb] ao M (by rw[<-cd,<-R];exact aJ));rw[<-R];refine cp ?_;rw[aB,aC,aD];refine bG [(6000,6000),(5001,5001)] ?_ (g:=v1 (K:=K) m [c.km,c.item,c.min,c.max,c.rest,U c.eL,U c.dR,U c.dG] ao O (by rw[<-cd,<-E];exact aw));rw[<-E];refine bG [(6000,6000),(5001,5001)] ?_ (g:=v1 (K:=K) m c.eL (by have:=u.eL;omega) P (by rw[<-cd,<-F];exact ax));rw[<-F];refine cp ?_;refine bG [(6000,6000),(5001,5001)] ?_ (g:=A9 dz (m:=m) [c.kd] (FF u.kd) ao Q (by rw[<-cd,<-G];exact ay));rw[<-G];refine c8 _ (λd=>⟨[(0,b 6000),(19,.al 13<|ab ha J.cQ),(20,l<|U<|ab ha J.cQ),(21,l w),(5,b 5),(68,.al 11<|ab pX c.dR),(69,l<|U<|ab pX c.dR),(70,l d.1)],(5,ah 105<|ha c)::xp d.2,[]⟩) (λe:Z×Y C=>e.1<=U c.dR/\e.2=D++ff (F9 K) (am e.1 c.dR)) (λe=>U c.dR-e.1) (0,D) (λ⟨h,z⟩ x=>?_) ⟨dJ _,ao⟩ .r;dsimp only at x⊢;obtain⟨aG,s⟩:=x;apply f<;>intro aK;have i:h<U c.dR:=q;have v:=u.dR.2 _<|ka i;have o:=AV H az i s;generalize S:y c.dR h av=d at o v;rw[F9,<-eS,<-eS,cd,cd,cd] at o;refine bB h (pX d) ?_ (k:=by rw[<-S];exact eZ i);refine bG [(6000,6000),(5001,5001)] ?_ (g:=ZP dz m d.low v.1 z q);refine bG [(6000,6000),(5001,5001)] ?_ (g:=ZP dz m d.high v.2 (z++x8 K d.low) (by rw[cd];omega));refine cp ?_;refine bG [(6000,6000),(5001,5001)] ?_ (g:=HS (K:=K) m [d.oe] ao (z++x8 K d.low++x8 K d.high) (by rw[cd,cd];omega));refine aY ?_;exact a4 (h+1,_) ⟨tb,o.2⟩ (bA:=.r);rw[vU q,H] at s;subst s;refine c8 _ (λd=>⟨[(0,b 6000),(19,.al 13<|ab ha J.cQ),(20,l<|U<|ab ha J.cQ),(21,l w),(89,.al 3<|ab fw c.dG),(90,l<|U<|ab fw c.dG),(91,l d.1)],xp d.2,[]⟩) (λe:Z×Y C=>e.1<=U c.dG/\e.2=z++ff (F7 K) (am e.1 c.dG)) (λe=>U c.dG-e.1) (0,z) (λ⟨h,N⟩ x=>?_) ⟨dJ _,ao⟩ .r;dsimp only at x⊢;obtain⟨aG,s⟩:=x;apply f<;>intro aL;have i:h<U c.dG:=q;have v:=u.dG.2 _<|ka i;have o:=AV I aA i s;generalize S:y c.dG h av=d at o v;rw[F7,<-eS,<-eS,cd,cd,cd] at o;refine bB h (fw d) ?_ (k:=by rw[<-S];exact eZ i);refine cp ?_;refine bG [(6000,6000),(5001,5001)] ?_ (g:=A9 dz (m:=m) [d.name] (FF v) ao N q);refine cp ?_;refine bG [(6000,6000),(5001,5001)] ?_ (g:=v1 (K:=K) m [d.shape] ao (N++l2 K [d.name]) (by rw[cd];omega));refine cp ?_;refine bG [(6000,6000),(5001,5001)] ?_ (g:=HS (K:=K) m [d.Bo] ao (N++l2 K [d.name]++jm [d.shape]) (by rw[cd,cd];omega));refine aY ?_;exact a4 (h+1,_) ⟨tb,o.2⟩ (bA:=.r);rw[vU q,I] at s;subst s;refine aY ?_;exact a4 (w+1,N) ⟨tb,L.2⟩ (bA:=.r);rw[vU (by dsimp only at ar;omega),t] at T;subst T;exact cJ
end
end
section
open Go.Lib
section
variable{K:dV}(dz:st K)(m:L)
include dz
theorem aoE J(bA:J.ok)(Y:∀T∈J.body,kq T.cQ gh.i6):yu K m 15 (dy J) (i7 K J):=by
 intro s aM;obtain⟨A,L⟩:∃A,s++i7 K J=A:=⟨_,aa⟩;have P:U A<=6000000000000:=by rw[<-L,cd];exact aM
 rw[L];have:=bA.body.1;have Z:U (ab nj J.body)=U J.body:=bm _;obtain⟨t,O⟩:∃n,n=s++l2 K [J.name,J.state,J.next,J.text]:=⟨_,aa⟩;obtain⟨u,z⟩:∃n,n=t++jm [J.prio,J.times,J.status,J.sE,U J.body]:=⟨_,aa⟩;obtain⟨e,B⟩:∃n,n=u++r7 [J.rest]:=⟨_,aa⟩;obtain⟨v,C⟩:∃n,n=e++vg K [J.method,J.target,J.raw]:=⟨_,aa⟩;obtain⟨w,D⟩:∃n,n=v++vg K J.path:=⟨_,aa⟩;obtain⟨x,E⟩:∃n,n=w++wz K J.query:=⟨_,aa⟩;obtain⟨i,F⟩:∃n,n=x++wz K J.head:=⟨_,aa⟩;obtain⟨l,G⟩:∃n,n=i++BR K J.iS:=⟨_,aa⟩;have N:l++ff (zD K) J.body=A:=by rw[<-L,G,F,E,D,C,B,z,O,i7];simp[eS]
 have ay:U l<=6000000000000:=by rw[<-N,cd] at P;omega
 have ax:U i<=6000000000000:=by rw[G,cd] at ay;omega
 have aw:U x<=6000000000000:=by rw[F,cd] at ax;omega
 have au:U w<=6000000000000:=by rw[E,cd] at aw;omega
 have ar:U v<=6000000000000:=by rw[D,cd] at au;omega
 have ap:U e<=6000000000000:=by rw[C,cd] at ar;omega
 have ak:U u<=6000000000000:=by rw[B,cd] at ap;omega
 have:U t<=6000000000000:=by rw[z,cd] at ak;omega
 refine c4 func15 [2004,2008] λaD p aA=>?_;refine cp ?_;refine bG [(6000,6000),(5001,5001)] ?_ (g:=A9 dz [J.name,J.state,J.next,J.text] (λaz c=>by simp at c;rcases c with rfl|rfl|rfl|rfl;exact bA.name.h;exact bA.state.h;exact bA.next.h;exact bA.text.h) ao s aq);rw[<-O];refine cp ?_;rw[Z];refine bG [(6000,6000),(5001,5001)] ?_ (g:=v1 (K:=K) m [J.prio,J.times,J.status,J.sE,U J.body] ao t kj);rw[<-z];refine cp ?_;refine bG [(6000,6000),(5001,5001)] ?_ (g:=HS (K:=K) m [J.rest] ao u kj);rw[<-B];refine ke ⟨[(0,b 6000),(3,b 3)],(3,ah 48<|dy J)::xp e,[]⟩ ?_ .r;refine dA ?_;refine cp ?_;refine bG [(6000,6000),(5001,5001)] ?_ (g:=Rx dz m [J.method,J.target,J.raw] ⟨ao,λaz c=>by simp at c;rcases c with rfl|rfl|rfl;exact bA.method;exact bA.target;exact bA.raw⟩ e kj);rw[<-C];refine bG [(6000,6000),(5001,5001)] ?_ (g:=Rx dz m J.path bA.path v kj);rw[<-D];refine bG [(6000,6000),(5001,5001)] ?_ (g:=ZS dz m J.query bA.query w kj);rw[<-E];refine bG [(6000,6000),(5001,5001)] ?_ (g:=ZS dz m J.head bA.head x kj);rw[<-F];refine ke ⟨[(0,b 6000),(3,b 3)],(3,ah 48<|dy J)::xp i,[]⟩ ?_ .r;refine dA ?_;refine bG [(6000,6000),(5001,5001)] ?_ (g:=aoD dz m J.iS bA.iS i kj);rw[<-G];refine c8 _ (Fr 62 63 64 2<|ab nj J.body) (λd=>d.1<=U J.body/\d.2=l++ff (zD K) (am d.1 J.body)) (λd=>U J.body-d.1) (0,l) (λ⟨o,M⟩ k=>?_) ⟨dJ _,ao⟩ .r;dsimp at k⊢;obtain⟨aC,I⟩:=k;apply f<;>intro X;have Q:o<U J.body:=by dsimp at X;omega
 have R:=Y _<|ka Q;have H:=AV N P Q I;generalize aB:y J.body o av=S at H R;rw[cd] at H;refine bB o (nj S) ?_ (k:=aq);refine bG [(6000,6000),(5001,5001)] ?_ (g:=aoF dz m S R M q);refine aY ?_;exact a4 (o+1,_) ⟨q,H.2⟩ (bA:=.r);rw[vU q,N] at I;subst I;exact cJ
theorem auN c(D:eF c.state)(w:kq c.bt λJ=>J.ok/\∀z∈J.body,kq z.cQ gh.i6)(o:U (lj K c)<=6000000000000):eN bL (fO K m) 6 [eP c] (a8<|lj K c):=by
 obtain⟨A,d⟩:∃A,lj K c=A:=⟨_,aa⟩;rw[d] at o;rw[d];rw[lj] at d;have:=w.1;have B:U (ab dy c.bt)=U c.bt:=bm _;refine bs func6 [2002] λp G=>?_;apply a1.eK 1001 1 5 [] (W (7,0));refine dA ?_;refine cp ?_;have E:U (l2 K [c.state]++jm [U c.bt])<=6000000000000:=by rw[<-d,cd] at o;omega
 rw[cd] at E;refine bG [(6000,7),(5001,1001)] ?_ (g:=A9 dz [c.state] (FF D) ao [] aK);refine cp ?_;rw[B];refine bG [(6000,7),(5001,1001)] ?_ (g:=v1 (K:=K) m [U c.bt] ao ([]++l2 K [c.state]) cf);rw[na];generalize l2 K [c.state]++jm [U c.bt]=v at d;refine c8 _ (λu=>⟨[(3,b 7),(20,.al 20<|ab dy c.bt),(21,l<|U<|ab dy c.bt),(22,l u.1)],[(7,ah 38<|b2 [.a 1001 0 (U<|ab bF u.2)]),(1001,.j 1 5<|ab bF u.2)],[]⟩) (λe:Z×Y C=>e.1<=U c.bt/\e.2=v++ff (i7 K) (am e.1 c.bt)) (λe=>U c.bt-e.1) (0,v) (λ⟨h,M⟩ k=>?_) ⟨dJ _,ao⟩ .r;dsimp at k⊢;obtain⟨I,n⟩:=k;apply f<;>intro F;have x:h<U c.bt:=q;have s:=w.2 _<|ka x;have i:=AV d o x n;generalize H:y c.bt h av=t at i s;rw[cd] at i;refine bB h (dy t) ?_ (k:=aq);refine bG [(6000,7),(5001,1001)] ?_ (g:=aoE dz m t s.1 s.2 M q);refine aY ?_;exact a4 (h+1,M++i7 K t) ⟨q,i.2⟩ (bA:=.r);rw[vU q,d] at n;subst n;exact rU M (hlen:=ao) (aM:=aK)<|aL
end
end
section
open Go.Lib
structure dx.ox(K:dV)(aE:dx):Prop where
 ok:aE.ok
 zy:∀J∈aE.bt,∀Q∈J.body,kq Q.cQ gh.i6
 iI:lF aE=0->U (lj K aE)<=6000000000000
def UI{K:dV}(dz:st K){e:L}{c:dx}(b:c.ox K)(f:lF c=0):eN bL (fO K e) 6 [eP c] (a8 (lj K c)):=auN dz e c b.ok.state ⟨b.ok.bt.1,λJ d=>⟨b.ok.bt.2 J d,b.zy J d⟩⟩<|b.iI f
noncomputable def oF(K:dV)(b m:dx):X:=aH (lF m=0)&&aH ¬lj K m=lj K b
noncomputable def xV(K:dV)(b:dx)(c:Z):Y dx:=(bM c).flatMap λB=>l_ (oF K b)<|sU b B
def aeg K b c:xV K b (c+1)=xV K b c++l_ (oF K b) (sU b c):=by simp[xV,sh,zU]
theorem abQ b B:U (sU b B)<=8:=by rw[sU,cd];grind
theorem TS K c b:U (xV K c b)<=8*b:=by
 induction b
 exact bv _
 next b d=>rw[aeg,cd];grind[abQ,List.length_filter_le,oF,sU]
def ank{c:Type} [l9 c]{G:c->X}{b:Y c}{B:Z}(d:B<U b):l_ G (am (B+1) b)=l_ G (am B b)++(if G (y b B av) then[y b B av] else[]):=by
 have e:y b B av=b[B]:=by simp[d]
 rw[e,J1,cT d,O2];grind
noncomputable def wk(K:dV)(b:dx):Y dx:=if lF b=0 then xV K b (U b.bt) else[]
def auD{K:dV}(dz:st K)n{c:dx}(x:c.ox K)(J:∀B<U c.bt,∀m∈sU c B,m.ox K):eN bL (fO K n) 5 [eP c] (cv [.al 2 (ab eP (wk K c)),an aj (lF c)]):=by
 have A:=x.ok;refine bs func5 [] λp O=>?_;refine aT ?_ (g:=rW K n<|ad9 A);apply f<;>intro e;rw[wk,ad e];exact lQ 2 [2] aL;have e:lF c=0:=by simpa using e
 rw[wk,af e,e];obtain⟨F,M⟩:=XD A e;have:=F.1;apply a1.eK 1005 2 24 [5] ai;refine e9 (U c.bt) (λd=>⟨[(1,b 1),(5,.a 1005 0<|U<|ab eP<|xV K c d),(6,l d)],[(1,ah 24<|eP c),(1005,.j 2 24<|ab eP<|xV K c d)],[]⟩) (λd k=>?_) .r;apply f<;>intro N;have C:d<U c.bt:=q;have bl:=TS K c d;refine aT ?_ (g:=rW K n<|auC q C M);have z:=J d C;have L:=abQ c d;have t:=aeg K c d;generalize sU c d=cA at z L t⊢;generalize xV K c d=o at bl t⊢;refine e9 (U cA) (λB=>⟨[(1,b 1),(5,.a 1005 0<|U<|ab eP<|o++l_ (oF K c) (am B cA)),(6,l d),(7,.al 2<|ab eP cA),(8,l B)],[(1,ah 24<|eP c),(1005,.j 2 24<|ab eP<|o++l_ (oF K c) (am B cA))],[]⟩) (λB P=>?_) (by rw[Ea,List.filter_nil,gv];exact .r);apply f<;>intro E;have s:B<U cA:=q;have h:=ank (G:=oF K c) s;have i:(ab eP cA)[B]?=W (eP (y cA B av)):=eZ s;have v:=z _<|ka s;have:=Vk (oF K c)<|am B cA;generalize y cA B av=m at h i v;refine fA ?_;refine bB B (eP m) ?_ (k:=i);refine ch ?_ (g:=rW K n<|ad9 v.ok);apply cL;intro D;refine bB B (eP m) ?_ (k:=i);refine ch ?_ (g:=UI dz v D);refine ch ?_ (g:=UI dz x e);exact aa;apply f<;>intro w;have u:oF K c m:=by rw[oF];simpa using w
 rw[af u] at h;refine bB B (eP m) ?_ (k:=i);refine cp ?_;refine eB (ab eP<|o++l_ (oF K c) (am (B+1) cA)) ?_ (aU:=by rw[h,<-eS,@dc _ _ _ _ [m]];rfl) (bl:=kj);refine aY ?_;exact a4 (B+1) (bA:=.r);have u:¬oF K c m:=by rw[oF];simpa using w
 rw[ad u,gv] at h;refine aY ?_;exact a4 (B+1) (bA:=by rw[h];exact .r);have I:B=U cA:=q;subst I;rw[iJ,<-t];refine aY ?_;exact a4 (d+1) (bA:=.r);have H:d=U c.bt:=q;subst H;have:=TS K c<|U c.bt;apply f<;>intro E;omega;exact gq 1005 aL
end
section
open Go.Lib
theorem upto{h:Type}{n:h}:∀{d e b c:Y h},n∉d->n∉e->d++n::b=e++n::c->d=e|[],[],b,c,_,_,_=>aa|[],I::e,b,c,_,aM,f=>by simp_all|I::d,[],b,c,g,_,f=>by simp_all|I::d,i::e,b,c,g,aM,f=>by simp at f g aM;rw[f.1,upto g.2 aM.2 f.2]
def QG(c:Y C):Z:=c.foldl (λb n=>b*10+(ax n-48)) 0
theorem Lc b:QG (l8 b)=b/\∀n∈l8 b,48<=ax n/\ax n<=57:=by
 induction b using Nat.strongRecOn
 next b e=>
  rw[l8];by_cases c:b<10;rw[Ca c]
  (simp[QG,JX,List.foldl_nil,eu];omega)
  have:ax (gn (48+b%10))=48+b%10:=by rw[UInt8.toNat_ofNat'];omega
  refine⟨?_,λn d=>?_⟩;grind[QG];grind
theorem La{b:L}(c:0<=b)(d:b<9223372036854775808):pd b=l8 (aG b):=by rw[pd,ad q];congr 2;show b%2^64=b;omega
theorem K_{b:L}(c:b<0)(d:-9223372036854775808<=b):pd b=45::l8 (aG (-b)):=by rw[pd,af c];congr 3;show-(b%2^64)%2^64=-b;omega
def nX(b:L):Prop:=-9223372036854775808<=b/\b<9223372036854775808
theorem alZ b:32∉pd b:=by grind[l8,Lc,pd]
theorem XK c b:l8 c≠45::b:=λd=>by grind[Lc,List.mem_cons_self]
theorem al0{b c:L}(d:nX b)(aM:nX c)(e:pd b=pd c):b=c:=by unfold nX at d aM;by_cases f:b<0<;>by_cases g:c<0;rw[K_ f d.1,K_ g aM.1] at e;grind[Lc];grind[K_,La,cg,XK];grind[La,K_,cg,XK];rw[La q d.2,La q aM.2] at e;grind[Lc]
theorem Ox{b c:L}{d e:Y C}(g:nX b)(aM:nX c)(f:pz b++d=pz c++e):b=c:=by simp[pz,na] at f;grind[al0,upto,alZ]
def asa K:mZ K []=[34,34]:=aa
def am1{A:L}:0<U (ur A):=by grind[ur]
def Mj{e:Type}{d:Prop} [sj d]{b c:Y e}:0<U b->0<U c->0<U (if d then b else c):=by grind
def am2 K A:0<U (escRune K A):=by
 refine Mj (GA _) (Mj am1 ?_)
 iterate 10 refine Mj (GA _) ?_
 simp
theorem aus K J:0<U (quoteStep K J):=by simp[quoteStep,Mj,GA,am2]
def ar9 K{J:Y C}(c:J≠[]):3<=U (mZ K J):=by have b:u5 K J=34::(tU K (U J) J++[34]):=ba;rw[mZ,bm,b,Tf (yh.2 c)<|bv _];grind[aus,List.length_cons,List.length_append,List.length_singleton]
def ab8{n:C}:Bs n->33<=ax n/\ax n<=126/\ax n≠34/\ax n≠92:=by
 have B:∀R<256,Bs (gn R)->33<=R/\R<=126/\R≠34/\R≠92:=by decide+kernel
 have:=B _<|mE n;simp_all
def acW{K:dV}:∀b c,(∀n∈b,Bs n)->U b<=c->tU K c b=b.map λn=>(ax n:Int)
|[],c,_,_=>by simp[tU,quoteFrom_end,gD]|n::b,c,e,f=>by
 obtain⟨h,i,k,l⟩:=ab8<|e n ki;have d:sp ⟨aO (n::b)⟩ 0=(ax n,1):=by exact af (show ax n<128 by omega)
 have g:quoteStep K ⟨aO (n::b)⟩=[(ax n:L)]:=by rw[quoteStep_good K _ kj,d];rw[escRune,ad q,af (by rw[isPrintR,af q,isPrintLatin];grind),ur,af q]
 simp at f;rw[Tf ao q,g,d];show _++tU K _ b=_;rw[acW b _ (λI d=>e I<|mB _ d) q];rfl
def acX{K:dV}{J:Y C}(b:p4 J):mZ K J=34::(J++[34]):=by
 have d:=by rw[p4] at b;simp at b;exact b.1.1
 have c:u5 K J=34::(tU K (U J) J++[34]):=ba;rw[mZ,c,acW J _ d<|bv _];have:ab G6 (J.map λn=>ax n)=J:=by
  rw[i_]
  conv=>rhs;rw[<-uo J]
  refine hY λn _=>?_;simp[G6]
 rw[ia,dc,this];rfl
theorem arx K{b c e f:Y C}(g:p4 b)(aM:p4 c)(i:mZ K b++e=mZ K c++f):b=c:=by
 rw[acX g,acX aM] at i;have:∀{J:Y _},p4 J->34∉J:=λ{J} d h=>by rw[p4] at d;simp at d;have:=ab8<|d.1.1 _ h;trivial
 grind[upto]
end
section
open Go.Lib
def Ow(K:dV)(J:eT):Y C:=pz J.sE++(pz (U J.body:L)++(r7 [J.rest]++(vg K [J.method,J.target,J.raw]++(vg K J.path++(wz K J.query++(wz K J.head++(BR K J.iS++ff (zD K) J.body)))))))
theorem DO{K:dV}{J:eT}:i7 K J=mZ K J.name++(mZ K J.state++(mZ K J.next++(mZ K J.text++(pz J.prio++(pz J.times++(pz J.status++Ow K J)))))):=by simp[i7,l2,jm,Ow,wJ,Vd,gv,eS]
def afE{b:Type} [l9 b]{H:Y b}{B:Z}:B<U H->H=am B H++y H B av::ay (B+1) H:=by simp_all
def afc{c:Type}{b:Y c}{B:Z}{T:c}(d:B<U b):aR b B T=am B b++T::ay (B+1) b:=by rw[Vr,af d]
theorem axG K{b:dx}{B:Z}{c:eT}(d:B<U b.bt):lj K (b.set B c)=lj K b↔i7 K c=i7 K (y b.bt B av):=by
 have e:ff (i7 K) b.bt=ff (i7 K) (am B b.bt)++(i7 K (y b.bt B av)++ff (i7 K) (ay (B+1) b.bt)):=by
  conv=>lhs;rw[afE d]
  rw[zU,wJ]
 have f:ff (i7 K) (aR b.bt B c)=ff (i7 K) (am B b.bt)++(i7 K c++ff (i7 K) (ay (B+1) b.bt)):=by rw[afc d,zU,wJ]
 have g:(b.set B c).bt.length=U b.bt:=by simp[dx.set]
 rw[lj,lj,g,show(b.set B c).bt=aR b.bt B c from aa,show(b.set B c).state=b.state from aa,e,f,OY,OY,List.append_cancel_right_eq]
def ax8(K:dV)(c:eT):(i7 K {c with text:=[]}=i7 K c↔c.text=[])/\(i7 K {c with next:=[]}=i7 K c↔c.next=[])/\(i7 K {c with state:=[]}=i7 K c↔c.state=[]):=by
 have d:∀J R e,Ow K {c with state:=J,next:=R,text:=e}=Ow K c:=λ_ _ _=>aa;refine⟨⟨λb=>?_,λb=>by rw[<-b]⟩,⟨λb=>?_,λb=>by rw[<-b]⟩,λb=>?_,λb=>by rw[<-b]⟩
 all_goals have b:=ea U b;rw[DO,DO] at b;refine zQ λn=>?_;have:=ar9 K n;rw[asa] at b;simp[d] at b;omega
theorem ax9 K b R(d:nX R)(e:nX b.prio):i7 K {b with prio:=R}=i7 K b↔b.prio=R:=by refine⟨λc=>?_,λc=>by rw[<-c]⟩;grind[DO,List.append_cancel_left_eq,Ox]
theorem ayb K b R(d:nX R)(e:nX b.times):i7 K {b with times:=R}=i7 K b↔b.times=R:=by refine⟨λc=>?_,λc=>by rw[<-c]⟩;grind[DO,List.append_cancel_left_eq,Ox]
theorem ax_ K b R(d:nX R)(e:nX b.status):i7 K {b with status:=R}=i7 K b↔b.status=R:=by refine⟨λc=>?_,λc=>by rw[<-c]⟩;grind[DO,List.append_cancel_left_eq,Ox]
def ax7{K:dV}{b:dx}{B:Z}(e:B<U b.bt)(f:U b.bt<=200):lj K (b.del B)≠lj K b:=by
 intro c;have d:((b.del B).bt.length:L)=U b.bt-1:=by rw[show(b.del B).bt=iB b.bt B from aa,Vj,af e];omega
 rw[lj,lj,d,show(b.del B).state=b.state from aa,eS,eS,OY] at c;simp[jm,wJ,Vd,gv] at c;have:=Ox (by grind[nX]) (by grind[nX]) c;omega
theorem aya K{b:dx}{B:Z}(e:B+1<U b.bt)(n:p4 (y b.bt B av).name)(o:p4 (y b.bt (B+1) av).name)(p:(y b.bt (B+1) av).name≠(y b.bt B av).name):lj K ((b.set B (y b.bt (B+1) av)).set (B+1) (y b.bt B av))≠lj K b:=by
 intro d;generalize l:y b.bt B _=T at*;generalize m:y b.bt _ _=c at*;have h:=by
  have f:=afE (H:=b.bt) (B:=B) q;have g:ay (B+1) b.bt=c::ay (B+2) b.bt:=by rw[l3 e,<-m];simp[e]
  rw[l,g] at f;exact f
 have i:((b.set B c).set (B+1) T).bt=am B b.bt++c::T::ay (B+2) b.bt:=by show aR (aR b.bt B c) _ T=_;rw[afc (T:=c) q,z0 _ _ bi];rw[show B+1-U (am B b.bt)=1 by(simp;omega),l3 e];rfl
 have k:((b.set B c).set (B+1) T).bt.length=U b.bt:=by simp[dx.set]
 rw[lj,lj,k,show((b.set B c).set _ T).state=b.state from aa,OY,i] at d
 conv at d=>rhs;rw[h]
 simp at d;rw[DO,DO] at d;grind[arx]
end
section
open Go.Lib
abbrev ys(K:dV)(d b:dx)(c:X):Prop:=lF b=0->(c=ag↔¬lj K b=lj K d)
theorem yC{K:dV}{b:dx}{c A:Y dx}{m:dx}{M:X}(d:ys K b m M):c++l_ (oF K b) (m::A)=o9 c m M++l_ (oF K b) A:=by grind[o9,oF,lF,lj]
def ax5{b:Y eT}:∀{fa:Y (Y C)},uh fa b=0->(∀J∈b,J.name∉fa)/\dT (ab eT.name b):=by
 induction b
 simp
 next d b e=>intro fa c;rw[uh] at c;grind
theorem afO{J:eT}(b:px J=0):p4 J.name/\nX J.prio/\nX (J.prio+1)/\nX J.times/\nX J.status:=by
 have:=(Jk b).1;have b:=LY b;have:=GY (b _ ki) a2;have:=GY (b (nT (((J.times<0\/1000000<J.times)\/J.status<200)\/599<J.status) 9) (by simp[BN])) a2;unfold nX
 (simp_all;omega)
theorem aqX K{b:dx}(v:lF b=0)B(e:B<U b.bt):zi b B=l_ (oF K b) (sU b B):=by
 obtain⟨x,_,h⟩:=Ou v;have w:=UH h;have z:=(ax5 h).2;obtain⟨c,i⟩:∃c,y b.bt B av=c:=⟨_,aa⟩;have A:c∈b.bt:=by rw[<-i];exact ka e
 obtain⟨F,G,H,I,J⟩:=afO<|w c A;have:∀f,lj K (b.set B f)=lj K b↔i7 K f=i7 K c:=λf=>by grind[axG]
 have k:ys K b (b.del B) ag:=λ_=>⟨λ_=>ax7 e x,λ_=>aa⟩;have l:ys K b (b.set B {c with status:=if c.status=500 then 200 else 500}) ag:=λ_=>⟨λ_ n=>by grind[ax_,nX],λ_=>aa⟩;obtain⟨C,D,E⟩:=ax8 K c;have m:ys K b (b.set B {c with text:=[]}) (aH ¬c.text=[]):=λ_=>aK;have o:ys K b (b.set B {c with next:=[]}) (aH ¬c.next=[]):=λ_=>aK;have p:ys K b (b.set B {c with state:=[]}) (aH ¬c.state=[]):=λ_=>aK;have r:ys K b (b.set B {c with times:=0}) (aH ¬c.times=0):=λ_=>by grind[ayb,nX]
 have s:ys K b (b.set B {c with prio:=c.prio+1}) ag:=λ_=>⟨λ_ n=>by grind[ax9],λ_=>aa⟩;rw[zi,sU,i];by_cases d:B+1<U b.bt;rw[af d,af d];have:(y b.bt (B+1) av).name≠(y b.bt B av).name:=by
  intro n;have g:(ab eT.name b.bt)[B+1]?=W (y b.bt (B+1) av).name:=by simp[d]
  have u:(ab eT.name b.bt)[B]?=W (y b.bt B av).name:=by simp[e]
  rw[n,<-u] at g;have:=(List.getElem?_inj bi z).1 g;omega
 have t:ys K b ((b.set B (y b.bt (B+1) av)).set (B+1) c) ag:=λ_=>⟨λ_=>by grind[aya,afO],λ_=>aa⟩;show _=[]++l_ (oF K b) (_::_::_::_::_::_::_::[_]);rw[yC k,yC l,yC m,yC o,yC p,yC r,yC s,yC t];simp;rw[ad d,ad d];show _=[]++l_ (oF K b) (_::_::_::_::_::_::_::[]);grind[yC]
def aqZ{K:dV}{b:dx}:Ie b=wk K b:=by
 rw[Ie,wk];by_cases c:lF b=0;rw[af c,af c,xB,xV]
 suffices∀R≤U b.bt,ff _ (bM R)=ff _ (bM R) from this _<|bv _
 intro R
 induction R
 simp
 next R d=>intro e;rw[sh,zU,zU,d q];grind[aqX]
 simp_all
end
section
open Go.Lib
def vT{d:Type}{ar:d->Y C}{b:Y d}{c dq:Z}(e:U b<=c)(h:∀f∈b,U (ar f)<=dq):U (ff ar b)<=c*dq:=by
 have:U (ff ar b)<=U b*dq:=by
  induction b
  simp
  next g b i=>
   rw[wJ,cd,l5,pH]
   (simp_all;omega)
 exact c9 this<|jo _ e
def al1 b:U (pd b)<=21:=by
 have:∀R,0<=hf IntKind.u64 R/\hf IntKind.u64 R<18446744073709551616:=λR=>by show 0<=R%2^64/\R%2^64<18446744073709551616;omega
 grind[l8,decDigits_length,Ig,pd,List.length_cons]
def wA c b(d:U c<=b):U (jm c)<=b*22:=vT d λe _=>by simp[pz,cd,al1]
def Jp(c:Y X)b(d:U c<=b):U (r7 c)<=b*6:=vT d λe _=>by cases e<;>decide
def ar_{K:dV}{J:Y C}:eF J->U (mZ K J)<=10485762:=by grind[acU,eF]
def DP K b c(d:U b<=c)(e:∀J∈b,eF J):U (l2 K b)<=c*10485762:=vT d λf aX=>ar_<|e f aX
def UB K b c(d:U b<=c)(g:∀m∈b,eF m.text):U (vg K b)<=22+c*10485784:=by
 rw[vg,cd];have e:=wA [U b] 1 ao;have:=vT (ar:=Jq K) (dq:=10485784) d λm hm=>by rw[Jq,cd];have:=wA [m.c0] 1 ao;have:=DP K [m.text] 1 ao λJ f=>aq;omega
 omega
def aga K{b:Y k4}{c:Z}(e:U b<=c)(g:∀E∈b,eF E.name/\eF E.m.text):U (wz K b)<=22+c*20971568:=by
 rw[wz,cd];have f:=wA [U b] 1 ao;have:=vT (ar:=Jr K) (dq:=20971568) e λm hm=>by rw[Jr,cd];have:=UB K [m.m] 1 ao λJ d=>aq;have:=DP K [m.name] 1 ao λJ d=>aq;omega
 omega
def axB K{b:Y Am}{c:Z}(e:U b<=c)(g:∀d∈b,eF d.name/\eF d.value):U (BR K b)<=22+c*20971524:=by
 rw[BR,cd];have:=wA [U b] 1 ao;have:=vT (ar:=Ov K) e λm hm=>by exact DP K _ 2 ao (λJ f=>by grind)
 omega
theorem ajF{b:lJ}(c:mh b=0):U b.n.bT<=30:=by rw[mh] at c;split at c;grind[Is];simp_all
def af_ K{Q:lJ}:mh Q=0->U (x8 K Q)<=342:=by rw[x8,cd,cd];have:=Jp [Q.has,Q.op,Q.n.neg] 3 ao;have:=wA [Q.n.exp] 1 ao;have:=acU K Q.n.bT;grind[ajF,l2]
def axF K{J:hq}(b:qi J=0):U (F9 K J)<=690:=by rw[qi] at b;split at b;omega;split at b;omega;rw[F9,cd,cd];have:=af_ K (Q:=J.low) q;have:=af_ K (Q:=J.high) q;have:=Jp [J.oe] 1 ao;omega
def awv{g:qw}{J:gh}{R:L}(c:ii g J R=0):(U J.dR<=20/\∀d∈J.dR,qi d=0)/\U J.eL<=10/\U J.dG<=30:=by
 rw[ii] at c;split at c;omega;rename_i b;split at c;omega;split at c;omega;have b:=by simpa using b
 refine⟨?_,?_,?_⟩;rw[lY] at b;split at b;cases b;split at b;cases b;refine⟨q,λd e=>?_⟩;obtain⟨f,k,rfl⟩:=m_.1 e;have:=C2 b f k;simp_all;grind[mu];grind[p6,cg,tF]
def axE K{l:qw}{J:gh}{R:L}(k:ii l J R=0)(d:J.i6):U (F8 K J)<=325100000:=by
 obtain⟨⟨e,f⟩,g,h⟩:=awv k;have:=Jp [J.null,J.re,J.ht,J.kb] 4 ao;have:=wA [J.km,J.item,J.min,J.max,J.rest,U J.eL,U J.dR,U J.dG] 8 ao;have:=wA _ 10 g;have:=DP K [J.kd] 1 ao (λc b=>by rw[eu.1 b];exact d.kd);have:=vT e λc b=>axF K<|f c b;have:=vT (ar:=F7 K) (dq:=10485790) h λar i=>by rw[F7,cd,cd];have:=DP K [ar.name] 1 ao (λc b=>by rw[eu.1 b];exact d.dG.2 ar i);have:=wA [ar.shape] 1 ao;have:=Jp [ar.Bo] 1 ao;omega
 grind[F8,List.length_append]
def av3{c:qw}{J:nO}(b:iM c J=0):U J.cQ<=60/\∀d∈J.cQ,ii c d (U J.cQ)=0:=by rw[iM] at b;split at b;cases b;split at b;cases b;split at b;cases b;refine⟨q,λd e=>?_⟩;obtain⟨f,k,rfl⟩:=m_.1 e;grind[C2,L0]
def axD K{h:qw}{J:nO}(g:iM h J=0)(f:∀b∈J.cQ,b.i6):U (zD K J)<=19506000044:=by obtain⟨d,e⟩:=av3 g;have:=wA [J.root,U J.cQ] 2 ao;have:=vT d λb c=>axE K (e b c)<|f b c;grind[zD,List.length_append]
def agW{c:X}{b:Y k4}:vm c b=0->U b<=20:=by grind[vm]
def axf{J:eT}(b:px J=0):U J.path<=100/\U J.query<=20/\U J.head<=20/\U J.iS<=100/\∀c∈J.body,iM hv c=0:=by have b:=LY b;have d:Bk J=0:=b _ ao;have:=LY d (if 100<(U J.path:L) then 3 else 0) (by simp[Dm,fp,fH]);have e:vm ae J.query=0:=b _ (by simp[yd]);have f:vm ag J.head=0:=b _ (by simp[yd]);have:=GY (b (nT (100<(U J.iS:L)) 3) (by simp[BN])) a2;refine⟨?_,agW e,agW f,q,λc aM=>b _ (by rw[yd];grind)⟩;omega
def axC K{J:eT}(e:px J=0)(b:J.ok)(l:∀d∈J.body,kq d.cQ gh.i6):U (i7 K J)<=25000000000:=by obtain⟨f,g,h,i,k⟩:=axf e;have:=DP K [J.name,J.state,J.next,J.text] 4 ao (λm c=>by simp at c;rcases c with rfl|rfl|rfl|rfl;exact b.name;exact b.state;exact b.next;exact b.text);have:=wA [J.prio,J.times,J.status,J.sE,U J.body] 5 ao;have:=Jp [J.rest] 1 ao;have:=UB K [J.method,J.target,J.raw] 3 ao (λm c=>by simp at c;rcases c with rfl|rfl|rfl;exact b.method;exact b.target;exact b.raw);have:=UB K _ 100 f b.path.2;have:=aga K g b.query.2;have:=aga K h b.head.2;have:=axB K i b.iS.2;have:=vT (Jk e).2.1 λd aM=>axD K (k d aM) (l d aM).2;grind[i7,List.length_append]
def anm{K:dV}{b:dx}(d:b.ok)(e:∀J∈b.bt,∀f∈J.body,kq f.cQ gh.i6):b.ox K:=by refine⟨d,e,λg=>?_⟩;obtain⟨h,_,i⟩:=Ou g;have:=DP K [b.state] 1 ao (λl k=>by rw[eu.1 k];exact d.state);have:=wA [U b.bt] 1 ao;have:=vT h λJ c=>axC K (UH i J c) (d.bt.2 J c)<|e J c;grind[lj,List.length_append]
end
section
open Go.Lib
structure dx.lw(aE:dx):Prop where
 ok:aE.ok
 zy:∀J∈aE.bt,∀Q∈J.body,kq Q.cQ gh.i6
theorem dx.lw.set{d:dx}(e:d.lw){B:Z}{b:eT}(g:b.ok)(aM:∀f∈b.body,kq f.cQ gh.i6):(d.set B b).lw:=⟨e.ok.set g,λJ c=>by rcases Vm (show J∈aR d.bt B b from c) with c|rfl;exact e.zy J c;omega⟩
def dx.lw.del{b:dx}(c:b.lw){B:Z}:(b.del B).lw:=⟨c.ok.del,λJ d=>c.zy J<|ahw<|show J∈iB b.bt B from d⟩
theorem abi{c:dx}(b:c.lw){B:Z}(k:B<U c.bt):∀m∈sU c B,m.lw:=by
 obtain⟨d,e⟩:∃d,y c.bt B av=d:=⟨_,aa⟩;have g:d∈c.bt:=by rw[<-e];exact ka k
 have h:=b.ok.bt.2 d g;have f:=b.zy d g;intro m hm;rw[sU,e] at hm;simp only[fp,fH,kB,or_false] at hm;rcases hm with(rfl|rfl|rfl|rfl|rfl|rfl|rfl)|hm;exact b.del
 iterate 6 exact b.set h.pP f
 split at hm;rename_i l;have i:=ka l;rw[eu.1 hm];exact(b.set (b.ok.bt.2 _ i)<|b.zy _ i).set h f;trivial
def Sr{K:dV}{c:dx}(b:c.lw):c.ox K:=anm b.ok b.zy
def auA{K:dV}{c m:dx}(d:c.lw)(b:m∈wk K c):m.lw/\lF m=0:=by rw[wk] at b;split at b;rw[xV] at b;grind[abi,oF];trivial
def apE{K:dV}(dz:st K){e:L}(t:eN bL (fO K e) 7 [] (aV ag)){c:dx}(d:c.lw):eN bL (fO K e) 3 [eP c] (aV ag):=by
 have s:=λm (hm:m∈wk K c)=>auA d hm;have h:=aq0 K e d.ok;have o:=auD dz e (Sr d) λB r m hm=>Sr<|abi d r m hm;have u:U (wk K c)<=10000000:=by rw[wk];split;grind[TS,Ou];simp
 rw[aqZ] at h;generalize wk K c=b at h o s u;refine bs func3 [] λp A=>?_;refine aT ?_ (g:=h);refine aT ?_ (g:=o);apply cy;intro _;exact aa;apply f<;>intro w;omega;refine e9 (U b) (λB=>⟨[(3,.al 2<|ab eP b),(5,.al 2<|ab eP b),(7,l B)],[],[]⟩) λB r=>?_;apply f<;>intro x
 .have n:B<U b:=q;have v:(ab eP b)[B]?=W _:=eZ n;obtain⟨i,k⟩:=s _<|ka n;generalize y b B av=m at v i k;refine fA ?_
  iterate 2
   apply bB B _;refine ch ?_ (g:=UI dz (Sr i) k)
  apply f<;>intro z;trivial;refine aY ?_;exact a4<|B+1
 refine aT ?_ (g:=t);exact aL
end
abbrev An(b:Z)(c d:L):Prop:=eN bL fT b [an ej c] (an aj d)
abbrev VS(b:Z):Prop:=An b 0 0/\An b 1 1/\An b 2 1/\An b 3 2/\An b 4 1/\An b 5 2/\An b 6 2/\An b 7 3
def alE:VS 83:=by
 refine⟨?_,?_,?_,?_,?_,?_,?_,?_⟩
 all_goals
  refine bs func83 [] λp b=>?_
  iterate 6 refine qX _ ?_
  first|refine iG 0 ?_;exact aL|refine iG 1 ?_;exact aL|refine iG 2 ?_;exact aL|refine iG 3 ?_;exact aL
def alB:VS 56:=by
 obtain⟨b,c,n,I,d,e,f,h⟩:=alE;refine⟨?_,?_,?_,?_,?_,?_,?_,?_⟩
 all_goals
  refine bs func56 [] λp i=>?_;refine n7 ?_
  first|refine aT ?_ (g:=b)|refine aT ?_ (g:=c)|refine aT ?_ (g:=n)|refine aT ?_ (g:=I)|refine aT ?_ (g:=d)|refine aT ?_ (g:=e)|refine aT ?_ (g:=f)|refine aT ?_ (g:=h)
  exact aL
abbrev Cj(b c:L)(d:X):Prop:=eN bL fT 41 [an ej b,an ej c] (aV d)
def alz:Cj 0 7 ag/\Cj 1 7 ag/\Cj 2 7 ag/\Cj 3 7 ag/\Cj 4 3 ag/\Cj 5 4 ae/\Cj 6 4 ae:=by
 obtain⟨b,c,n,I,d,e,f,h⟩:=alB;refine⟨?_,?_,?_,?_,?_,?_,?_⟩
 all_goals
  refine bs func41 [] λp i=>?_
  iterate 2 first|refine aT ?_ (g:=b)|refine aT ?_ (g:=c)|refine aT ?_ (g:=n)|refine aT ?_ (g:=I)|refine aT ?_ (g:=d)|refine aT ?_ (g:=e)|refine aT ?_ (g:=f)|refine aT ?_ (g:=h)
  refine l1 ?_;exact aL
abbrev GN(b:L)(c:X):Prop:=eN bL fT 40 [an ej b,fN 1 [.tJ [(an ej 5,aV ag,0),(an ej 6,aV ag,1)] 2] 0 0] (aV c)
def aly:GN 0 ae/\GN 1 ae/\GN 2 ae/\GN 3 ag/\GN 4 ag:=by refine⟨?_,?_,?_,?_,?_⟩<;>apply alt<;>first|decide|omega|(done)|exact ll rfl
def alF:eN bL fT 86 [V.int ej 4] (V.int aj 2):=by apply ayc<;>first|decide|omega|(done)|exact ll rfl
def alC:eN bL fT 58 [V.int ej 4] (V.int aj 2):=by refine bs func58 [] λp b=>?_;apply n7;refine aT ?_ (g:=alF);exact aL
def alA:eN bL fT 42 [V.int ej 4] (V.al 1 [V.int aj 2]):=by refine bs func42 [] λp b=>?_;refine zr ?_;apply l1;refine aT ?_ (g:=alC);refine cp ?_;refine abW _ ?_ (bl:=ll aa);refine oO ?_;apply n7;exact gq 14<|aL
def alx:eN bL fT 16 [V.al 1 [V.al 1 [V.bool ag,V.bool ae,V.bool ag],V.al 1 [V.bool ae,V.bool ag,V.bool ag]]] (V.tuple [V.al 1 [V.int aj 2],V.int aj 0]):=by
 refine bs func16 [2025] λp l=>?_;refine zr ?_;apply l1
 iterate 2 apply bB 0<|V.al 1 [V.bool ag,V.bool ae,V.bool ag]
 apply n7;refine aY ?_;refine oO ?_;apply l1;apply bB 1<|V.al 1 [V.bool ae,V.bool ag,V.bool ag];apply bB 0<|V.al 1 [V.bool ag,V.bool ae,V.bool ag];apply n7;refine aY ?_;refine oO ?_;apply n7;apply IM
 .apply IM
  .apply bB 0<|V.al 1 [V.bool ag,V.bool ae,V.bool ag];exact aa
  exact aa
 apply n7;apply n7;refine zr ?_;apply l1;apply bB 0<|V.al 1 [V.bool ag,V.bool ae,V.bool ag];refine zr ?_;apply l1;apply bB 0<|V.bool ag;apply l1;refine Fz ?_;refine aY ?_;refine oO ?_;apply l1;apply bB 1<|V.bool ae;apply n7;refine aY ?_;refine oO ?_;apply l1;apply bB 2<|V.bool ag;apply l1;refine Fz ?_;refine aY ?_;refine oO ?_;apply n7;refine rV _ _ ?_ (mq:=by repeat (first|exact R0|apply aph rfl));refine aY ?_;refine oO ?_;apply l1;apply bB 1<|V.al 1 [V.bool ae,V.bool ag,V.bool ag];refine zr ?_;apply l1;apply bB 0<|V.bool ae;apply n7;refine aY ?_;refine oO ?_;apply l1;apply bB 1<|V.bool ag;apply l1;refine Fz ?_;refine aY ?_;refine oO ?_;apply l1;apply bB 2<|V.bool ag;apply l1;refine Fz ?_;refine aY ?_;refine oO ?_;apply n7;refine rV _ _ ?_ (mq:=ah2);refine aY ?_;refine oO ?_;apply n7;refine ab2 ?_ (mq:=ah2);apply a1.E1 47;apply a1.vW 6 1;refine dA ?_;apply bB 0<|V.al 1 [V.bool ag,V.bool ae,V.bool ag];refine Fz ?_;refine zr ?_;refine l1 ?_;obtain⟨b,c,n,I,d,e,f⟩:=alz;obtain⟨h,i,A,J,k⟩:=aly
 iterate 5
  first|refine aT ?_ (g:=b)|refine aT ?_ (g:=c)|refine aT ?_ (g:=n)|refine aT ?_ (g:=I)|refine aT ?_ (g:=d)
  apply IM
  first|refine ch ?_ (g:=h)|refine ch ?_ (g:=i)|refine ch ?_ (g:=A)|refine ch ?_ (g:=J)|refine ch ?_ (g:=k)
  exact aa
  first|refine n7 ?_|refine l1 ?_
  refine oO ?_;refine l1 ?_
 refine aT ?_ (g:=e);refine ad3 ?_;refine n7 ?_;refine oO ?_;refine l1 ?_;refine aT ?_ (g:=f);refine ad3 ?_;refine n7 ?_;refine oO ?_;apply n7;refine aT ?_ (g:=alA);exact aL
def alD:eN bL fT 7 [] (V.bool ag):=by
 refine bs func7 [] λp b=>?_
 iterate 3 refine cp ?_
 refine aT ?_ (g:=alx);apply IM
 .exact aa
 apply IM
 .apply bB 0 _;exact aa
 exact aL
def apD{K:dV}(dz:st K){b:L}c(d:c.lw):eN bL (fO K b) 3 [eP c] (aV ag):=apE dz (rW K b alD) d
def bf.start(E:bI):bf:=⟨λd M=>match ho E ⟨d,M,ai⟩ with|W c=>if gE c then W c else ai|ai=>ai,λ_=>ai,λ_=>ai,0,λ_ _=>aa,λd M c b=>by split at b;split at b;rename_i e;simp only[g6] at b;subst b;exact e;cases b;cases b⟩
theorem bf.Ol{E:bI}{c M:Z}{b:bq}(e:ho E ⟨c,M,ai⟩=W b)(d:gE b):(bf.start E).I c M=W b:=by grind[bf.start]
def bf.axe{E:bI}{b M:Z}{c:bq}(d:(bf.start E).I b M=W c):ho E ⟨b,M,ai⟩=W c:=by grind[bf.start]
theorem Holds.start(E:bI)(i:Y (Z×V))(R:Z):Holds ⟨E,λ_=>False,bf.start E,[],i,R⟩ (bf.start E) [] E:=⟨bf.le.refl _,⟨aa,aa,aa,bv _,λ_ _ _=>aa⟩,λ_ _ b _=>b,λ_ _ _ b=>bj b,λ_ _ b=>bj b,(λ_ _ b=>by cases b),λ_ _ _ b=>bf.axe b,(λ_ _ _ b=>by cases b),(λ_ _ b=>by cases b),ao,(λ_ _ _ _ b=>by cases b),(λ_ _ _ _ _ _ _ b=>by cases b)⟩
def abw{d o:Type}{e:d->c6 o}:∀{c:Y d}{A:Y o},c.mapM e=W A->U A=U c|[],A,b=>aq|i::c,A,b=>by simp[D5,ahZ,ah0,Option.pure_def,g6] at b;obtain⟨g,_,h,f,rfl⟩:=b;simp[abw f]
section
variable{j5:Type}{gz:aw×bq->j5}{E:bI}{held:X}
def yx(E:bI)(e:Y V)(c:Y bq):Prop:=U e=U c/\(∀b∈c,gE b)/\∀(d:Z)(f:V)(b:bq),e[d]?=W f->c[d]?=W b->bk (bf.start E) f b
theorem yx.one{c:V}{b:bq}(f:bk (bf.start E) c b)(d:gE b):yx E [c] [b]:=⟨aa,aK,λh k i g e=>by grind⟩
def Qm{d:Addr}{R:Z}{c:Y bq}(e:E.cells? 0 d R=W c):U c=R/\∀b,b<R->∃f,c[b]?=W f/\ho E (d.add b)=W f:=by refine⟨by rw[abw e];simp,λb k=>?_⟩;obtain⟨g,h,i⟩:=Go.Lib.mapM_at e b b aK;simp_all
structure Frame(iD KC:bI):Prop where
 os:KC.os=iD.os
 output:KC.output=iD.output
 size:a9 iD.heap<=a9 KC.heap
 block:∀B,B<a9 iD.heap->KC.heap[B]?=iD.heap[B]?
def Frame.same{b e:bI}(g:Frame b e){d:MemPlace}(f:d.block<a9 b.heap):b.sameAt e d:=by cases d with|cell c M=>exact World.cell?_of_block (g.block c f)|map c=>exact g.block c f
def Frame.kept{d c:bI}(b:Frame d c)(f:MemPlace->Prop):d.keptBut c f:=by refine⟨b.os,b.output,λe k=>?_⟩;rw[b.block e k];grind
def Frame.frozen{b c:bI}(d:Frame b c){Q M:Z}(aM:Q<a9 b.heap):c.frozen? ⟨Q,M,ai⟩=b.frozen? ⟨Q,M,ai⟩:=by simp[World.frozen?];rw[d.block Q aM]
theorem agv(o:laidOutB P){g m:bI}(n:Frame g m){t:Z->X}:∀{e:Y aw}{l:Y bq}{h:Y (DataW j5)}{c:Y MemPlace},(∀f∈e,P.readableRec f/\f<a9 P.types)->DataW.TrodAll gz P g 0 (λ_=>ag) ag e l h c->(∀d∈c,d.block<a9 g.heap)->(∀d∈c,t d.block)->DataW.TrodAll gz P m 0 t ag e l h c|[],[],[],c,_,i,_,_=>i|f::e,B::l,I::h,c,s,i,p,r=>by obtain⟨d,y,u,v,rfl⟩:=i;refine⟨d,y,?_,agv o n (λz A=>s z aK) v (λb k=>p b aK) λb k=>r b aK,aa⟩;obtain⟨w,x⟩:=s f ao;exact Go.WideElems.Trod_stays o w x u (λb k=>n.same<|p b aK) λb k=>r b aK
def apF{d:Func}{J:ChangeSpec}{m B D z:X}{h f:bI}{args:Array bq}{b n:Y (DataW j5)}{A:Y MemPlace}{x:aw}(L:laidOutB P)(O:∀y∈a0 d.params,P.readableRec y/\y<a9 P.types)(G:J.vars=[])(u:d.resultTypes=#[x])(aM:kD P x=W .bool)(s:(J.fn j5 b).results=[.lit (.bool ag)]/\(J.fn j5 b).args=b/\(J.fn j5 b).vars=[])(i:DataW.Whole gz P (a0 d.params) J.vars m h (a0 args) b n A)(r:Frame h f):J.post gz P d m B D z h args (.bool ag) f:=by
 have t:=i.lt;have C:=i;obtain⟨e,H,I,K,rfl,aX,E⟩:=i;obtain⟨rfl,rfl⟩:n=[]/\H=[]:=by grind[DataW.TrodVars]
 simp at t aX E C;have o:∀c,(∀g∈e,c g.block)->DataW.TrodAll gz P f 0 c ag (a0 d.params) (a0 args) (J.fn j5 (b++[])).args e:=λc N=>by grind[agv]
 have v:∀(Q:Z)(c:Z->X)(p:X),DataW.TrodAll gz P f Q c p (a0 d.resultTypes) ((Value.bool _).resultList (a9 d.resultTypes)) (J.fn j5 (b++[])).results []:=λQ c p=>by rw[gv,s.1,u];exact⟨[],[],Go.RowKit.shut_bool aM _,aa,aa⟩
 have w:∀c,DataW.TrodVars gz P f c J.vars (J.fn j5 (b++[])).vars []:=λc=>by rw[gv,G,s.2.2];rfl
 have F:∀g∈e,(λQ=>aH<|Q<a9 h.heap) g.block:=λg l=>aq;refine⟨b,[],e,[],e,[],?_,v _ _ _,o _ F,w _,World.keptBut_mono (λg l=>⟨l,.inr<|bj l⟩)<|r.kept _,λ_=>?_⟩;omega;refine⟨Go.RowKit.ok_one u aa<|Go.RowKit.okWide_bool_mk aM _,_,_,[]++e++[],⟨[]++e,[],Go.ChangeShapes.trodAll_append (o _ λ_ _=>aa)<|v _ _ _,w _,aa,?_,?_⟩,?_⟩;intro Q M k;simp at k;rw[r.frozen (Q:=Q)<|t _ k];exact aX Q M k;simp_all;simp_all
def NW{iD:bI}{u R:Z}{B:dd}{ul:Y L}(i:U ul=R)(g:∀f,f<U ul->ho iD ⟨u,f,ai⟩=W (cN B (y ul f 0))):bk (bf.start iD) (.ref R [.agg (ab (V.int B) ul)] 0 0) (ib (W ⟨u,0,ai⟩)):=by
 have k:bk (bf.start iD) (.ref R [.agg (ab (V.int B) ul)] 0 0) (ib (W ⟨u,0+0*R+0,ai⟩)):=by
  refine .ref R _ 0 0 u 0 (λ_ n=>cN B<|y ul n 0) ?_ ?_ ?_;grind[V.cells];intro d n I h b c;cases d with
  |zero=>
   simp at b;subst b;have e:=by have:=(eX.1 c).1;simpa[V.cells] using this
   have:=g n e;rw[show 0+0*R+n=n by omega];exact bf.Ol this aa|succ d=>trivial
  intro d n I h b c;cases d with
  |zero=>
   simp at b;subst b;have e:=by have:=(eX.1 c).1;simpa[V.cells] using this
   simp[V.cells,db,cT e,lm,g6] at c;subst c;rw[dX,cT e];exact .int _ _|succ d=>trivial
 simp_all
def eN.calls{i:Y (Z×V)}{n:FuncId}{k:Y V}{A:V}(h:eN P i n k A){c:bI}{f:Y bq}(u:U f=U k)(v:∀(p:Z)(d:V)(b:bq),k[p]?=W d->f[p]?=W b->bk (bf.start c) d b)(r:∀o d,(o,d)∈i->bk (bf.start c) d (ib (W ⟨o,0,ai⟩))):Calls P n f.toArray c λm l=>∃b g,m=lo b/\bk g A b/\Frame c l:=by refine iK (h _ f c _ u v (Holds.start c i 0) r) ?_;rintro m l ⟨b,y,x,g,rfl,⟨rfl,rfl⟩,w,e⟩;exact⟨b,g,aa,w,e.t.os,e.t.output,e.t.size,λB s=>e.t.block B s λh=>h⟩
end
