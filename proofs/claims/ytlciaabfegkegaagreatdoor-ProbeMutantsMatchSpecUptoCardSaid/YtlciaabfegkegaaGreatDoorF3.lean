import Derived.Test.YtlciaabfegkegaaGreatDoorF2
set_option linter.all false
set_option maxHeartbeats 8000000
set_option maxRecDepth 100000
open Array renaming size->a9,toList->a0
open Bool renaming false->ae,true->ag
open ByteArray renaming size->gD
open Decidable renaming decide->aH
open Eq renaming symm->bQ,trans->b0
open Go renaming Code->gw,Exit->cS,FuncId->fM,IntKind->dd,Oper->a7,Operand->aP,Program->bn,TypeId->aw,Value->bq,World->bI,execOp->c5,maxLen->ja
open Go.Act renaming eval->b1
open Go.IntKind renaming i64->aj,u64->ej,u8->ez,wrap->hf
open Go.Lib renaming indexByte->eG
open Go.Obj renaming cells->pK
open Go.Op renaming equalIn->nH
open Go.Program renaming underlying->kD
open Go.Proofs.Tryz renaming prog->bL
open Go.TypeDesc renaming slice->c_,string->k1
open Go.Value renaming bool->hA,int->cN,oneCell'->gE,slice->eY,string->jO
open Go.fe.V renaming agg->b2,bool->aV,int->an,ref->fN,str->a8,tuple->cv
open Go.fe.b7 renaming cell->ah,map->iA
open Iff renaming rfl->nJ
open Inhabited renaming default->av
open Int renaming natAbs->hp,toNat->aG
open List renaming Nodup->dT,all->dh,any->fB,contains->j1,drop->ay,filter->l_,getD->y,idxOf->h2,length->U,map->ab,range->bM,replicate->cM,set->aR,take->am,toArray->aO
open List.Pairwise renaming nil->Eg
open Nat renaming ble->hB,blt->g8,gcd->jp,min->nK
open Option renaming none->ai,some->W
open Or renaming inl->bj,inr->bp
open UInt8 renaming ofNat->gn,toNat->ax,toNat_lt->mE
open _root_ renaming Array->bU,Bool->X,ByteArray->kZ,Decidable->sj,DecidableEq->hO,False->hP,Inhabited->l9,Int->L,List->Y,Nat->Z,True->dW,UInt8->C,absurd->cg,rfl->aa,trivial->b5
open Go.Proofs Go.Proofs.Tryz
open Go.Proofs.Tryz renaming prog->eQ
namespace Go.fe
variable{ops:bU a7}{M:a7}{P:bn}{i:Y (Z×V)}{m R:Z}{p:bJ}{J:aN}{K:cI}{bb pC:Type}
structure kE(P:bn)(K:cI)(p:bJ)(i:Y (Z×V))(R:Z)(cA:Y Z):Prop where
 hm:P.follows .mixedOrders
 dz:gy P K
 vY:p.G=i
 iP:eh i
 bu:p.n=R
section
variable{cA:Y Z}{ak:Exit->aN->Prop}
def nP.Fi{b J:aN}(e:Eu b.c J.c:=by repeat (first|exact trivial|refine⟨cb,?_⟩))(f:tn b.az J.az:=by repeat (first|exact trivial|refine⟨cb,?_⟩))(g:n2 b.az:=by rfl)(h:b.d=J.d:=by rfl):nP b J:=⟨e,f,g,h⟩
def nP.r{b J:aN}(e:Eu b.c J.c:=by repeat (first|exact trivial|refine⟨rfl,?_⟩))(f:tn b.az J.az:=by repeat (first|exact trivial|refine⟨rfl,?_⟩))(g:n2 b.az:=by rfl)(h:b.d=J.d:=by rfl):nP b J:=⟨e,f,g,h⟩
def Kn{b:Type}(e:b->aN)(f:b->Prop)(d:b->Z)(g:b)(J:aN):Prop:=∃c,f c/\d c<d g/\nP (e c) J
def VM{c:Type}(d:c->aN)(e:c->Prop)(J:aN):Prop:=∃b,e b/\nP (d b) J
def a4{c:Type}{e:c->aN}{f:c->Prop}{d:c->Z}{g:c}{J:aN}b(i:f b:=by first|omega|trivial|(dsimp only;omega))(h:d b<d g:=by first|omega|(dsimp only;omega))(bA:nP (e b) J:=by exact .Fi):Kn e f d g J:=⟨b,i,h,bA⟩
def dn{e:Type}{c:e->aN}{d:e->Prop}{J:aN}b(f:d b:=by trivial)(bA:nP (c b) J:=by exact .Fi):VM c d J:=⟨b,f,bA⟩
def dA{c:gw}(f:match c with|.seq d e=>kz P K p i m R cA d J (r9 (kz P K p i m R cA e · ak) ak)|_=>hP)(b:kE P K p i R cA:=by assumption):a1 P p m c J ak:=am5 b.hm b.dz b.vY b.iP b.bu f
def c8 h{e:gw}c d k(f:h)(round:∀b,d b->kz P K p i m R cA e (c b) (r9 (Kn c d k b ·) ak))(g:d f:=by first|trivial|omega|(simp;done))(bA:nP (c f) J:=by exact .Fi)(b:kE P K p i R cA:=by assumption):a1 P p m (.loop e) J ak:=ayY b.hm b.dz b.vY b.iP b.bu g bA round
def gN{f:gw}d(e:Z->Prop)c(round:∀b,b<=d/\e b->kz P K p i m R cA f (c b) (r9 (Kn c (λb=>b<=d/\e b) (d-·) b ·) ak))(g:e 0:=by first|trivial|omega|(simp;done))(bA:nP (c 0) J:=by exact .Fi)(b:kE P K p i R cA:=by assumption):a1 P p m (.loop f) J ak:=c8 _ c _ _ 0 round ⟨dJ _,g⟩ bA b
def e9{e:gw}d b(round:∀c≤d,kz P K p i m R cA e (b c) (r9 (Kn b (·<=d) (d-·) c ·) ak))(f:nP (b 0) J:=by exact .Fi)(c:kE P K p i R cA:=by assumption):a1 P p m (.loop e) J ak:=c8 _ b _ _ 0 round (dJ _) f c
def gZ h{d e:gw}c(f:h->Prop)(g:kz P K p i m R cA d J (r9 (VM c f ·) ak))(B:∀b,f b->kz P K p i m R cA e (c b) ak)(b:kE P K p i R cA:=by assumption):a1 P p m (.seq d e) J ak:=ayJ b.hm b.dz b.vY b.iP b.bu g B
def ke{b:gw}c(e:a1 P p m b c ak)(d:nP c J:=by exact .Fi):a1 P p m b J ak:=e.DW d
class nL(Q:X)(G:outParam Prop):Prop where
 iff:Q↔G
instance{b:X}:nL b (b=ag):=⟨nJ⟩
instance{b:Prop}{c:sj b}:nL (@aH b c) b:=⟨kk⟩
class pO{b_:Type}(z:b_)(Q:outParam b_):Prop where
 h:z=Q
instance{c:Type}{b:c}:pO b b:=⟨aa⟩
instance{b d:Type}{H:Y b}{c:b->d}:pO ((U (ab c H):Z):L) (U H:L):=⟨by rw[bm]⟩
instance{b:Type}{H:Y b}:pO (a0 (aO H)) H:=⟨aa⟩
instance{c e b d:L} [f:pO c b] [B:pO e d]:pO (c+e) (b+d):=⟨by rw[f.h,B.h]⟩
instance{c e b d:L} [f:pO c b] [B:pO e d]:pO (c-e) (b-d):=⟨by rw[f.h,B.h]⟩
instance{b c d e:L} [f:pO b d] [B:pO c e]{g:sj (b<c)}:nL (@aH (b<c) g) (d<e):=⟨by rw[kk,f.h,B.h]⟩
instance{b c d e:L} [f:pO b d] [B:pO c e]{g:sj (b<=c)}:nL (@aH (b<=c) g) (d<=e):=⟨by rw[kk,f.h,B.h]⟩
instance{i:Type}{b c d e:i} [f:pO b d] [B:pO c e]{g:sj (b=c)}:nL (@aH (b=c) g) (d=e):=⟨by rw[kk,f.h,B.h]⟩
instance{i:Type}{b c d e:i} [f:pO b d] [B:pO c e]{g:sj ¬b=c}:nL (@aH (¬b=c) g) ¬d=e:=⟨by rw[kk,f.h,B.h]⟩
instance{b c:X}{d e:Prop} [f:nL b d] [B:nL c e]:nL (b&&c) (d/\e):=⟨by rw[m7,f.iff,B.iff]⟩
instance{b c:X}{d e:Prop} [f:nL b d] [B:nL c e]:nL (b||c) (d\/e):=⟨by rw[sf,f.iff,B.iff]⟩
instance{b:X}{c:Prop} [d:nL b c]:nL (!b) ¬c:=⟨by rw[<-d.iff];simp⟩
def f{g:X}{d e c:Prop} [h:nL g c](l:c->d)(i:¬c->e):nc g d e:=.mk (λb=>l<|h.iff.1 b) (λb=>i λk=>by rw[h.iff.2 k] at b;cases b)
def cL{d:X}{b:X->Prop}{c:X->Prop}{e:Prop}{w:X} [g:nL d e](h:e->b w)(B:c w):Af d ag b c:=.mk w (λf=>h<|g.iff.1 f) B
def cy{e:X}{c:X->Prop}{d:X->Prop}{g:Prop}{b:X} [h:nL e g](k:¬g->c b)(B:d b):Af e ae c d:=.mk b (λf=>k λi=>by rw[h.iff.2 i] at f;cases f) B
def i4{d:X}{b:X->Prop}{c:X->Prop}{e:Prop}{f:X} [nL d e](B:c f)(g:e->b f:=by exactλ_=>rfl):Af d ag b c:=cL g B
def gu{d:X}{b:X->Prop}{c:X->Prop}{e:Prop}{f:X} [nL d e](B:c f)(g:¬e->b f:=by exactλ_=>rfl):Af d ae b c:=cy g B
def u_{f:X}{d e c:Prop} [g:nL f c](i:c->d)(B:¬c->e):Py f d e:=.mk (λb=>i<|g.iff.1 b) (λb=>B λh=>by rw[g.iff.2 h] at b;cases b)
theorem ei{f:Z}{ops:bU a7}(e:ql P K p i m (a0 ops) 4000 (a0 ops) [] [] J (Ad m (a0 ops) · J · (ak .normal)))(b:kE P K p i R cA:=by assumption)(d:sP (a0 ops):=by decide+kernel)(c:tz R (a0 ops):=by rfl):a1 P p m (.region f ops ag) J ak:=a1.amm b.hm b.dz b.vY b.iP b.bu c d e
def jz{d:Y a7}{c:Y ep}{e:aN}{ak:aN->Prop}b(h:ak (J.zu b))(f:tN d c:=by kernel_rfl)(g:zt 5000 6000 e.az J.az b J:=by kernel_rfl):Ad 5000 d c e J ak:=⟨b,6000,f,g,aa,h⟩
def fz{c:Y a7}{b:Y ep}{d:aN}{ak:aN->Prop}(g:ak (J.zu []))(e:tN c b:=by kernel_rfl)(f:zt 5000 6000 d.az J.az [] J:=by kernel_rfl):Ad 5000 c b d J ak:=jz [] g e f
def fA{c:Y a7}{b:Prop}(e:b)(d:sP c:=by decide+kernel):Kq c b:=.mk d e
def bw{M:a7}{b:Y Z}{B:ep->aN->Prop}{ops:bU a7}{d:V}(h:∀k,er P K p i ae M ⟨J.c,(lz J.az b).getD [],k⟩ (·=d))(e:B (b,[]) (J.put M.dst d))(g:lz J.az b=W ((lz J.az b).getD []):=by rfl)(f:qZ b:=by rfl):mM P K p i m ops M J b B:=azc ⟨d,h,e⟩ g f
end
abbrev b(c:Z):V:=.dC c 0 0
def l(R:Z):V:=an aj R
def bs{f:fM}{b:Func}{i:Y (Z×V)}{c:Y V}{h:V}{g:gw}(k:Tryz.prog.funcs[f]?=W b)cA(m:∀p,kE bL hX p i b.ntmps cA->kz bL hX p i 5000 b.ntmps cA g ⟨pb 0 c,[],[]⟩ (ic bL p 5000 (λ_=>(0,0)) (a0 b.results) λr o=>r=h/\o=[]))(d:(b.name== "runtime.NumGoroutine")=ae:=by kernel_rfl)(e:b.body=W g:=by rfl)(iP:eh i:=by rfl)(n:hB (U c) b.ntmps:=by rfl)(l:(⟨pb 0 c,[],[]⟩:aN).aB (λ_=>(0,0))=⟨pb 0 c,[]⟩:=by rfl):eN bL i f c h:=g3.of_wp cA _ ⟨pb 0 c,[],[]⟩ gm br iP ⟨k,d,e⟩ aa n aa l λp d e=>m p ⟨gm,br,d,iP,e⟩
def c4{h:fM}{b:Func}{i:Y (Z×V)}{f:Y V}{l m:bS}{n:V}{k:gw}(o:Tryz.prog.funcs[h]?=W b)cA(r:∀c p,kE bL hX p i b.ntmps cA->kz bL hX p i 5000 b.ntmps cA k ⟨pb 0 f,l,[]⟩ (ic bL p 5000 c (a0 b.results) (λu t=>∃g,dk 5000 c g/\u=n.aB g/\t=aZ g m)))(d:(b.name== "runtime.NumGoroutine")=ae:=by kernel_rfl)(e:b.body=W k:=by rfl)(iP:eh i:=by rfl)(s:hB (U f) b.ntmps:=by rfl):mL bL i h f l n m:=mL.of_wp cA gm br iP ⟨o,d,e⟩ aa s aa λc p d e=>r c p ⟨gm,br,d,iP,e⟩
def bK(R:Z):Y Z:=if b:R=0 then[] else R%10000::bK (R/10000)
 termination_by R
 decreasing_by omega
theorem pV:bK 0=[]:=by simp[bK]
theorem xh{R:Z}(b:0<R):bK R=R%10000::bK (R/10000):=by rw[bK,Pu q]
theorem CM{R:Z}:bK R=[]↔R=0:=by constructor;grind[xh];rintro rfl;exact pV
def XZ{b:Z->Prop}(c:b 0)(d:∀R,0<R->b (R/10000)->b R):∀R,b R:=by
 intro R
 induction R using Nat.strongRecOn
 next R e=>rcases nF R with rfl|bC;exact c;grind
def ami:∀R,∀b∈bK R,b<10000:=XZ (by simp[pV]) λR d e b c=>by rw[xh d] at c;grind
def hz:Y Z->Z|[]=>0|b::H=>b+10000*hz H
theorem ayB:∀R,hz (bK R)=R:=XZ (by simp[pV,hz]) λR b c=>by grind[xh,hz]
def ayA b c:hz (b++c)=hz b+10000^U b*hz c:=by
 induction b
 simp[hz]
 next d b e=>simp[kh,hz,rn];grind
def ayC{H:Y Z}(c:∀b∈H,b<10000):hz H<10000^U H:=by
 induction H
 trivial
 next b H e=>let d:=c b ao;grind[hz,List.length_cons,Nat.pow_succ]
def zF:Y Z->Y Z|[]=>[]|b::H=>match zF H with|[]=>if b=0 then[] else[b]|m=>b::m
def agq:∀H,(∀b∈H,b<10000)->zF H=bK (hz H)
|[],_=>by simp[zF,hz,pV]|b::H,e=>by
 have:=e b ao;have f:=agq H λg h=>e g aK;rw[zF,f];split;rename_i c;have c:=CM.1 c;rw[hz,c];split;simp_all;rw[xh q,show(b+10000*0)/10000=0 by omega,pV];grind;rename_i m c;rw[hz];have:0<hz H:=by rcases nF _ with d|d;exact cg (CM.2 d) (by simpa using c);exact d
 rw[xh (R:=b+10000*hz H) q,show(b+10000*hz H)/10000=hz H by omega,show(b+10000*hz H)%10000=b by omega]
theorem UG:∀H R,R<=U H->(∀b,R<=b->b<U H->H[b]?=W 0)->(R=0\/∃d≠0,H[R-1]?=W d)->zF H=am R H
|[],R,_,_,_=>by simp[zF]|d::H,0,_,c,_=>by let e:=c 0 (bv _) ao;let i:=UG H 0 (dJ _) (λb _ k=>by have:=c (b+1) (dJ _) aq;trivial)<|bj aa;grind[zF]|d::H,R+1,f,c,h=>by
 simp at f;rw[zF,UG H R q (λb e k=>by have:=c (b+1) q aq;trivial) (by grind)];cases R;simp_all
 next R=>
  cases H;trivial
  next g H=>simp
theorem XY R b:(bK R)[b]?=if 0<R/10000^b then W (R/10000^b%10000) else ai:=by
 revert R
 induction b
 intro R;rcases nF R with rfl|c;simp[pV];grind[xh]
 next b d=>intro R;rcases nF R with rfl|c;simp[pV];rw[xh c,List.getElem?_cons_succ,d,Pe,rn,l6]
theorem Hh{R b:Z}:b<U (bK R)↔0<R/10000^b:=by let c:=XY R b;grind
theorem amh R b:y (bK R) b 0=R/10000^b%10000:=by rw[dX,XY];grind
theorem yR{R D:Z}(b:D<U (bK R)):(bK R)[D]=R/10000^D%10000:=by have:=amh R D;simp_all
theorem AH R b:R/10000^(b+1)=R/10000^b/10000:=by rw[rn,Pe]
def pe{R B:Z}:R<10000^B->U (bK R)<=B:=by grind[Nat.lt_or_ge,bK,Hh,Nat.div_eq_of_lt]
theorem AE R:R<10000^U (bK R):=by let c:¬U (bK R)<U (bK R):=wM _;rw[Hh] at c;rcases hN R _ with b|b;exact b;simp_all
theorem vL{c b:Z}(d:c<=b):U (bK c)<=U (bK b):=pe<|J6 d<|AE b
def abd{z Q:Z}:U (bK z)<U (bK Q)->z<Q:=by grind[Nat.lt_or_ge,vL]
def JF:∀H b c d,H[b]?=W d->hz (aR H b c)+d*10000^b=hz H+c*10000^b|[],b,c,d,e=>cf|f::H,0,c,d,e=>by grind[hz]|f::H,b+1,c,d,e=>by let g:=JF H b c d cf;grind[hz,Nat.pow_succ,Nat.mul_assoc,Nat.mul_comm]
def UM R:hz (cM R 0)=0:=by
 induction R
 rfl
 next R b=>grind[hz]
def MI{H:Y Z}{d c:Z}(e:∀b∈H,b<10000):c<10000->∀b∈aR H d c,b<10000:=by grind
def cq:Z:=10^30
theorem ti:0<cq:=a2
structure pM where
 neg:X
 num:Z
 dv:Z
 deriving hO
def nm(c:X)(num b:Z):pM:=if num=0 then⟨ae,0,1⟩ else⟨c,num/jp num b,b/jp num b⟩
def cC(b:L):pM:=nm (aH<|b<0) (hp b) cq
theorem aqd{d b e c:Z}(u:0<b)(x:0<c)(z:d*c=e*b):d/jp d b=e/jp e c/\b/jp d b=c/jp e c:=by
 let k:0<jp d b:=Ph _ u;let l:0<jp e c:=Ph _ x;let⟨h,t⟩:=Vv d b;let⟨f,v⟩:=J3 d b;let⟨i,w⟩:=Vv e c;let⟨g,y⟩:=J3 e c;let n:d/jp d b=h:=by rw[Pf k t]
 let o:b/jp d b=f:=by rw[Pf k v]
 let p:e/jp e c=i:=by rw[Pf l w]
 let r:c/jp e c=g:=by rw[Pf l y]
 let A:Nat.Coprime h f:=by rw[<-n,<-o];exact ahE k
 let B:Nat.Coprime i g:=by rw[<-p,<-r];exact ahE l
 let F:=by
  let s:jp d b*jp e c*(h*g)=jp d b*jp e c*(i*f):=by
   calc jp d b*jp e c*(h*g)=jp d b*h*(jp e c*g):=by ac_rfl
    _=d*c:=aK
    _=e*b:=z
    _=jp e c*i*(jp d b*f):=aK
    _=_:=by ac_rfl
  exact ahG (z6 k l) s
 let C:0<f:=by rcases nF f with m|m;grind;exact m
 let D:f ∣ g:=(ahB A).dvd_of_dvd_mul_left (by grind[Nat.dvd_mul_left]);let E:g ∣ f:=(ahB B).dvd_of_dvd_mul_left (by grind[Nat.dvd_mul_left]);grind[Nat.dvd_antisymm,Nat.eq_of_mul_eq_mul_right]
def Fq{d:X}{num c:Z}{b:L}(f:0<c)(h:num*cq=hp b*c)(g:num≠0->d=aH (b<0)):nm d num c=cC b:=by
 unfold cC nm;let aX:hp b=0↔num=0:=by constructor;grind[Nat.mul_eq_zero,cg,ti];grind[Nat.mul_eq_zero]
 by_cases e:num=0;grind;grind[aqd,ti]
theorem yU b:0<(cC b).dv:=by unfold cC nm;split;trivial;simp[Nat.div_pos,Nat.le_of_dvd,ti,J3,Ph]
def Hk b:(cC b).num*cq=hp b*(cC b).dv:=by
 unfold cC nm;split
 (simp;omega)
 cases Vv (hp b) cq;cases J3 (hp b) cq;grind[cq,jp,Nat.div_eq_of_eq_mul_right]
def Ls{b:L}:(cC b).neg=aH (b<0):=by grind[cC,nm]
def Yk{b:L}:(cC b).num=0↔b=0:=by let d:=Hk b;let c:=yU b;constructor;grind[Nat.mul_eq_zero];rintro rfl;rfl
def amu b:(cC b).dv<=cq:=by unfold cC nm;split;trivial;simp[Gx]
def amv b:(cC b).num/(cC b).dv=hp b/cq:=by rw[<-ahO _ _ ti,Hk b,l6 _ cq,ahO _ _<|yU b]
def Yj{b:L}:(cC b).num%(cC b).dv=0↔hp b%cq=0:=by
 let e:=Hk b;let f:=yU b;rw[<-ahF,<-ahF];constructor;rintro⟨c,d⟩;exists c;have:hp b*(cC b).dv=cq*c*(cC b).dv:=by rw[<-e,d];ac_rfl
 grind[Nat.eq_of_mul_eq_mul_right];rintro⟨c,d⟩;exists c;grind[cC,cq,Nat.eq_of_mul_eq_mul_right,ti]
def FT(b c:pM):pM:=if b.neg=c.neg then nm b.neg (b.num*c.dv+c.num*b.dv) (b.dv*c.dv)
 else if c.num*b.dv<=b.num*c.dv then nm b.neg (b.num*c.dv-c.num*b.dv) (b.dv*c.dv)
 else nm c.neg (c.num*b.dv-b.num*c.dv) (b.dv*c.dv)
theorem adA b c:FT (cC b) (cC c)=cC (b+c):=by
 let n:=Hk b;let o:=Hk c;let f:=z6 (yU b)<|yU c;let d:(cC b).num*(cC c).dv*cq=hp b*((cC b).dv*(cC c).dv):=by
  calc (cC b).num*(cC c).dv*cq=(cC b).num*cq*(cC c).dv:=by ac_rfl
   _=_:=aK
 let e:(cC c).num*(cC b).dv*cq=hp c*((cC b).dv*(cC c).dv):=by
  calc (cC c).num*(cC b).dv*cq=(cC c).num*cq*(cC b).dv:=by ac_rfl
   _=_:=aK
 let k:(cC c).num*(cC b).dv<=(cC b).num*(cC c).dv↔hp c<=hp b:=by rw[<-ahP (w:=ti),d,e,ahP (w:=f)]
 unfold FT;rw[Ls,Ls];by_cases i:aH (b<0)=aH (c<0);rw[af i];refine Fq f ?_ λg=>?_;rw[hZ,d,e,<-hZ];grind
 (simp_all;omega)
 rw[ad i];by_cases h:(cC c).num*(cC b).dv<=(cC b).num*(cC c).dv;rw[af h];refine Fq f ?_ λg=>?_;rw[Pl,d,e,<-Pl];grind;let l:hp b≠hp c:=λm=>by grind[Nat.eq_of_mul_eq_mul_right,ti]
 (simp;omega)
 rw[ad h];refine Fq f ?_ λg=>?_;rw[Pl,d,e,<-Pl];grind
 (simp;omega)
def Ic(b:pM):pM:=if b.num=0 then b else{b with neg:=!b.neg}
def SE b:Ic (cC b)=cC (-b):=by unfold Ic;by_cases c:b=0;subst c;rfl;rw[ad λd=>c<|Yk.1 d];unfold cC nm;grind
def gf(b:L):L:=if b=0 then 0 else if b<0 then-1 else 1
def F6(b:pM):L:=if b.num=0 then 0 else if b.neg then-1 else 1
def awC b:F6 (cC b)=gf b:=by unfold F6 gf;simp[Ls,af,Yk,ad]
def aqe(b:X)R:nm b R 1=cC (if b then-(R*cq:Z) else(R*cq:Z)):=by refine Fq Nat.one_pos ?_ λc=>?_;omega;grind[cq,Nat.mul_pos,ti]
def Ll(b:pM):pM:=nm b.neg (if b.neg/\b.num%b.dv≠0 then b.num/b.dv+1 else b.num/b.dv) 1
def amj b:Ll (cC b)=cC (b/cq*cq):=by
 unfold Ll;rw[aqe,amv,Ls];congr 1;by_cases aX:b<0;simp only[aX,decide_true,true_and,GD];by_cases hm:(cC b).num%(cC b).dv=0;rw[ad q];let c:=Yj.1 hm;grind[cq,Int.neg_mul,Int.mul_comm,Int.mul_ediv_cancel];rw[af hm];let c:hp b%cq≠0:=λd=>hm<|Yj.2 d;let g:=rm (hp b) ti;have:b/cq=-(hp b/cq+1):=by
  let e:b=-((hp b/cq:Z)+1)*cq+(cq-hp b%cq):=by
   let f:=by exact_mod_cast yj (hp b) cq
   rw[Int.neg_mul,Int.add_mul,Int.one_mul,OW _];omega
  apply b0<|ea (·/(cq:L)) e;rw[Int.add_comm,Int.add_mul_ediv_right _ _ q,Int.ediv_eq_zero_of_lt q q];omega
 grind;grind
def Tm:Y L:=[1,10,100,1000,10000,100000,1000000,10000000,100000000,1000000000,10000000000,100000000000,1000000000000,10000000000000,100000000000000,1000000000000000,10000000000000000,100000000000000000,1000000000000000000,10000000000000000000]
def He:Y L:=[0,1,56,2,57,49,28,3,61,58,42,50,38,29,17,4,62,47,59,36,45,43,51,22,53,39,33,30,24,18,12,5,63,55,48,27,60,41,37,16,46,35,44,21,52,32,23,11,54,26,40,15,34,20,31,10,25,14,19,9,13,8,7,6]
def Zj:V:=fN 20 [b2 (ab (V.int ej) Tm)] 0 0
def Zh:V:=fN 64 [b2 (ab (V.int ez) He)] 0 0
def fT:Y (Z×V):=[(9,Zj),(1,Zh)]
def h7:eh fT:=aa
abbrev bh:=eN bL fT
abbrev dF:=mL bL fT
structure b4 where
 neg:X
 bT:Y C
 exp:L
 deriving hO,l9
def ayg:kD eQ 107=W (.struct #[⟨ "Neg",4,0,ae, "", "",0⟩,⟨ "Digits",9,1,ae, "", "",8⟩,⟨ "Exp",3,2,ae, "", "",24⟩]):=ao
def BO{P:bn}{e:aw}{c:TypeDesc}{m h:Z}(k:cu P e c m h)(i:nY c=ae){b:bU bq}{d:Z}{f:bq}(l:b[d]?=W f)g:(part e b d).run P g=.ok f g:=by unfold part;simp[Sem.run_bind,k.vb,i];simp[l]
def aeW{P:bn}{f:Z}{d:aw}{e:bI}{b c:ByteArray}(g:kD P d=W k1):(nH (f+1) d (jO b) (jO c)).run P e=.ok (b==c) e:=by simp[nH,run_underlying g]
def aeU{P:bn}{f:Z}{d:aw}{e:bI}{B:dd}{b c:L}(g:kD P d=W (.int B)):(nH (f+1) d (cN B b) (cN B c)).run P e=.ok (b==c) e:=by simp[nH,run_underlying g]
def WR(b c:ByteArray):(b==c)=aH (b=c):=by let⟨b⟩:=b;let⟨c⟩:=c;rw[nA];constructor;intro d;have d:(b==c):=d;simp_all;intro d;simp at d;subst d;show(b==b);simp
def am0 m(e g d f:_)i h l:(nH (m+1+1) 107 (.agg #[hA e,jO g,cN aj i]) (.agg #[hA d,jO f,cN aj h])).run bL l=.ok (aH (e=d/\g=f/\i=h)) l:=by let b:=(x_:o8 bL 4 HQ).g5 aa;let c:=(x_:o8 bL 9 Rw).g5 aa;let k:=(x_:o8 bL 3 Md).g5 aa;rw[nH];simp[BO b aa _,BO b aa _,BO c aa _,BO c aa _,BO k aa _,BO k aa _,N4 b.u,aeW c.u,aeU _,WR];grind
def IT{d:bf}{b:X}{c:bq}(e:bk d (aV b) c):c=hA b:=by cases e;rfl
def IW{c:bf}{B:dd}{R:L}{b:bq}(d:bk c (an B R) b):b=cN B R:=by cases d;rfl
def IX{c:bf}{H:Y C}{b:bq}(d:bk c (a8 H) b):b=jO ⟨aO H⟩:=by cases d;rfl
def auq(e g d f:_){n tv:L}:wU bL 107 [aV e,a8 g,an aj n] [aV d,a8 f,an aj tv] (aH (e=d/\g=f/\n=tv)):=by
 refine⟨λu o t A h i b c=>?_,ao⟩
 match o,t,h,i with|[k,l,m],[p,r,s],_,_=>let fq:=IT<|b 0 _ k aa aa;let v:=IX<|b 1 _ l aa aa;let w:=IW<|b 2 _ m aa aa;let x:=IT<|c 0 _ p aa aa;let y:=IX<|c 1 _ r aa aa;let z:=IW<|c 2 _ s aa aa;simp_all[YH,am0]
def cm(R:b4):V:=b2 [aV R.neg,a8 R.bT,an aj R.exp]
namespace aik
end aik
abbrev a6:=Y X
def cF:a6:=cM 256 ae
def a6.add(J:a6)(d c:Z):a6:=J.mapIdx λb e=>e||aH (d<=b)&&aH (b<=c)
def a6.join(J b:a6):a6:=List.zipWith (·||·) J b
def a6.others(J:a6):a6:=J.map λb=>!b
structure aA where
 x:Z
 bad:L
 no:L
def dl(c:Y C)(b:aA):V:=b2 [a8 c,l b.x,an aj b.bad,an aj b.no]
def cx(c:Y C)(b:aA):C:=if b.no=0/\b.x<U c then y c b.x 0 else 0
def cw(b:aA)(c:L)(d:L):aA:=if b.no=0 then⟨b.x,c,d⟩ else b
def fc(c:Y C)(b:aA)(d:C):X:=if(ax (cx c b)≠ax d\/b.no≠0)\/b.x=U c then ae else ag
def aA.step(b:aA):aA:=⟨b.x+1,b.bad,b.no⟩
def aI(d:Y C)(b:aA)(c:C):aA:=if fc d b c then b.step else b
def hj(d:Y C)(b:aA)(c:C):aA:=if fc d b c then b.step else cw b b.x 6
def aA.ok(b:Y C)(c:aA):Prop:=c.x<=U b/\U b<=2000
def wd c b(s:b.ok c):bh 244 [fN 4 [dl c b] 0 0] (bF (cx c b)):=by
 refine bs func244 [] λp d=>?_;cases s;refine fA ?_;refine i4 ?_;apply f<;>intro e
 .refine fA ?_;refine gK b.x (y c b.x 0) ?_ (k:=pZ q);exact aL (s:=by rw[cx,af q];rfl)
 exact aL (s:=by rw[cx,ad q];rfl)
def r8 d c e(i:c.ok d):dF 192 [b 6000,bF e] [(6000,ah 241 (dl d c))] (aV (fc d c e)) [(6000,ah 241 (dl d (aI d c e)))]:=by
 refine c4 func192 [] λm p k=>?_;cases id i;refine fA ?_;refine kn ?_ (g:=wd d c i)
 iterate 2 refine gu ?_
 apply f<;>intro l
 .let h:fc d c e=ae:=by rw[fc,af q]
  rw[aI,h,ad ao];exact cJ
 let h:fc d c e:=by rw[fc,ad q]
 rw[aI,af h,h];apply e7<|c.x+1;exact cJ
def y0 h g c e:dF 147 [b 6000,an aj c,an aj e] [(6000,ah 241 (dl h g))] (cv []) [(6000,ah 241 (dl h (cw g c e)))]:=by
 refine c4 func147 [] λk p i=>?_;apply f<;>intro d
 .rw[cw,af d];exact cJ
 rw[cw,ad d];exact cJ
def S0 d c e(k:c.ok d):dF 323 [b 6000,bF e] [(6000,ah 241 (dl d c))] (cv []) [(6000,ah 241 (dl d (hj d c e)))]:=by
 refine c4 func323 [] λm p l=>?_;refine bG [(6000,6000)] ?_ (g:=r8 d c e k);apply f<;>intro i
 .let h:fc d c e=ae:=by simpa using i
  rw[hj,ad (by simp[h])];rw[aI,ad (by simp[h])];refine bG [(6000,6000)] ?_ (g:=y0 d c c.x 6);exact cJ
 let h:fc d c e:=by simpa using i
 rw[hj,af h,aI,af h];exact cJ
def b3(J:a6):V:=.vec 256 (.km J) []
theorem g4{J:a6}:(b3 J).cells.length=U J:=by show U (ab _ J++[])=_;simp
theorem Lr J{b:Z}(d:b<U J){c:X}:(b3 J).cells.set b (aV c)=(b3 (aR J b c)).cells:=fZ.awc d
theorem CS J{b:Z}(c:b<U J):(b3 J).cells[b]?=W (aV (y J b ae)):=fZ.C_ c
def ie{J:a6}(b:U J=256):(fZ.km J).cells.length=256:=b0 (fZ.Sc) b
def pW{J:a6}(b:U J=256):(b3 J).wF:=ie b
theorem gt:U cF=256:=wK ..
def ji:(b3 cF).cells.length=256:=b0 (g4) gt
def a6.oq(J:a6)(d c:Z):a6:=J.mapIdx λb e=>e||aH (d<=b)&&aH (b<c)
def am7{e f:Type}{c d:Z->e->f}{H:Y e}(i:∀b(k:b<U H),c b H[b]=d b H[b]):H.mapIdx c=H.mapIdx d:=by refine rg ao λb g h=>?_;simp_all
theorem a6.PM(J:a6)c b:U (J.oq c b)=U J:=by simp[a6.oq]
theorem a6.Ev(J:a6)b:J.oq b b=J:=by unfold a6.oq;refine rg ao λe c d=>?_;grind
theorem a6.aiI(J:a6){c b:Z}(f:c<=b):aR (J.oq c b) b ag=J.oq c (b+1):=by unfold a6.oq;refine rg ao λg d e=>?_;grind
theorem a6.PL(J:a6)c b:J.oq c (b+1)=J.add c b:=by unfold a6.oq a6.add<;>grind
theorem a6.aiL(J:a6){b c:Z}(d:c<b):J.add b c=J:=by
 rw[<-a6.PL];have:J.oq b (c+1)=J.oq b b:=by refine am7 λe _=>?_;congr 1;rw[nA];simp;omega
 grind[a6.Ev]
def a6.jI(J:a6)(R:Z):a6:=J.mapIdx λc b=>if c<R then !b else b
theorem a6.IA(J:a6):J.jI 0=J:=by unfold a6.jI;refine rg ao λd b c=>?_;simp
def a6.ac0{J:a6}{R:Z}(d:U J<=R):J.jI R=J.others:=by unfold a6.jI a6.others;refine rg ao λe b c=>?_;grind
theorem a6.zl(J:a6)R:U (J.jI R)=U J:=by simp[a6.jI]
theorem a6.asp(J:a6){R:Z}(d:R<U J):aR (J.jI R) R (!y J R ae)=J.jI (R+1):=by unfold a6.jI;refine rg ao λe b c=>?_;grind
def a6.mS(J d:a6)(R:Z):a6:=J.mapIdx λb c=>if b<R then c||y d b ae else c
def a6.RQ(J b:a6):J.mS b 0=J:=by unfold a6.mS;refine rg ao λe c d=>?_;simp
theorem a6.Fb(J b:a6)R:U (J.mS b R)=U J:=by simp[a6.mS]
def a6.RO(J:a6){b:a6}{R:Z}(f:U J<=R)(d:U b=U J):J.mS b R=J.join b:=by unfold a6.mS a6.join;refine rg aq λg c e=>?_;grind
theorem a6.RP(J b:a6){R:Z}:R<U J->y (J.mS b R) R ae=y J R ae:=by simp[a6.mS,dX,Vg]
theorem a6.ape(J b:a6){R:Z}(g:R<U J){c:X}(f:c=(y J R ae||y b R ae)):aR (J.mS b R) R c=J.mS b (R+1):=by unfold a6.mS;refine rg ao λh d e=>?_;grind
def Yd{J:a6}{c b:Z}:c<=b->b<U J->(b3 (J.oq c b)).cells.set b (aV ag)=(b3 (J.oq c (b+1))).cells:=by grind[Lr,a6.PM,a6.aiI]
def Ye{J:a6}{R:Z}(c:R<U J){b:X}:b=y J R ae->(b3 (J.jI R)).cells.set R (aV !b)=(b3 (J.jI (R+1))).cells:=by grind[Lr,a6.zl,a6.asp]
theorem QH{J b:a6}{R:Z}(d:R<U J){c:X}:c=(y J R ae||y b R ae)->(b3 (J.mS b R)).cells.set R (aV c)=(b3 (J.mS b (R+1))).cells:=by grind[Lr,a6.Fb,a6.ape]
theorem a6.w5(J:a6)c b:U (J.add c b)=U J:=by simp[a6.add]
theorem a6.zm(J:a6):U J.others=U J:=by simp[a6.others]
theorem a6.apf(J b:a6):U b=U J->U (J.join b)=U J:=by grind[a6.join]
open Go.Shelf Go.Proofs in
def HT(J:Y C)(b:C):bh 272 [a8 J,bF b] (an aj (Go.Lib.indexByte J b)):=.C3 (.str<|.int .nil) (λd=>.int ..) λc=>by have:=Go.Proofs.Any.strings_IndexByte Tryz.apI ⟨J.toArray⟩ (ax b) c;rw[show((ax b:L)).toNat.toUInt8=b by simp] at this;exact this
def uE(J:a6)d e(bA:U J=256)(n:e<256):dF 199 [b 6000,l d,l e] [(6000,ah 263 (b3 J))] (cv []) [(6000,ah 263 (b3 (J.add d e)))]:=by
 refine c4 func199 [] λs p k=>?_
 conv in b3 J=>rw[<-a6.Ev J d]
 refine c8 Z (λc=>⟨[(0,_),(2,_),(6,l c)],[(6000,ah 263<|b3 _)],[]⟩) (λc=>d<=c/\(c<=e+1\/c=d)) (e+1-·) d (λc h=>?_) (bA:=.r);apply f<;>intro m
 .let o:=a6.PM J d c;apply kR c c;refine sX _ (k9:=Pr) (aU:=Yd q q)<|aY ?_;exact a4 (c+1) ⟨q,q⟩ (bA:=.r)
 let g:J.oq d c=J.add d e:=by rcases h.2 with i|i;have:c=e+1:=q;grind[a6.PL];grind[a6.Ev,a6.aiL]
 rw[g];exact cJ
def Tk(J:a6)(bA:U J=256):bh 325 [b3 J] (b3 J.others):=by
 refine bs func325 [] λp d=>?_
 conv in b3 J=>rw[<-a6.IA J]
 refine mv (b3 cF) ?_ (e5:=ba);refine gY (bu:=ie (by grind[a6.IA]))<|e9 256 (λc=>⟨[(1,b 1),(2,b 2),(5,_),(6,l c)],[(1,ah 263<|b3<|J.jI c),(2,_)],[]⟩) (λc k=>?_) .r;apply f<;>intro e
 .refine SP (A:=aV<|y J c ae) (bl:=by grind[a6.IA,fZ.C_])<|kR c c ?_ (kp:=by show c=0+c*1;omega);refine sX (b3<|J.jI<|c+1) (k9:=by grind[g4,a6.zl]) (aU:=Ye q aa)<|aY ?_;exact a4 (c+1) (bA:=.r)
 refine gY (bu:=ie (by grind[a6.zl]))<|kT (b3<|J.jI c) ?_ (h1:=by show(b3 (J.jI c)).cells.length=256;grind[g4,a6.zl]) (fh:=ba);exact EV br (.nU aa aa aa aa aa (pW (by grind[a6.zl])) (by rw[g4,a6.zl];exact bA) .nil) (s:=by rw[a6.ac0 q];rfl)
def ajK(J d:a6)(bA:U J=256)(h:U d=256):dF 382 [b 6000,b3 d] [(6000,ah 263 (b3 J))] (cv []) [(6000,ah 263 (b3 (J.join d)))]:=by
 refine c4 func382 [] λo p i=>?_
 conv in b3 J=>rw[<-a6.RQ J d]
 refine gY (bu:=ie h)<|e9 256 (λc=>⟨[(0,_),(6,_),(7,l c)],[(6000,ah 263<|b3<|J.mS d c)],[]⟩) (λc k=>?_) .r;apply f<;>intro m
 .let n:=a6.Fb J d c;refine SP (A:=aV<|y d c ae) (bl:=fZ.C_ q)<|ei ?_;apply bw λ_=>kR c c aa (kp:=by show c=0+c*1;omega);refine bw (λ_=>hU (aV<|y J c ae) aa (fi:=by grind[a6.RP,CS]))<|u_ (λg=>?_) λg=>?_
  all_goals apply bw λ_=>kR c c aa (kp:=by show c=0+c*1;omega);refine zM (b3<|J.mS d<|c+1) (k9:=Pr) (aU:=QH q aq)<|jz []<|aY ?_;exact a4 (c+1) (bA:=.r)
 let e:J.mS d c=J.join d:=a6.RO J q q;rw[e];exact cJ
def fr(b:C):X:=aH (48<=ax b)&&aH (ax b<=57)
def lX(R:b4):L:=if R.bT=[]\/R.bT.all fr=ae then 2
 else if R.bT=[48] then(if R.neg\/R.exp≠0 then 2 else 0)
 else if y R.bT 0 0=48\/y R.bT (U R.bT-1) 0=48 then 2
 else if 30<U R.bT\/R.exp< -30\/30<R.exp then 3 else 0
def x9(J:Y C):L:=if 10000<U J then 3 else 0
theorem amo{d:Type}{H:Y d}{b:Z}(c:b<U H):ay b H=H[b]::ay (b+1) H:=l3 c
def Xd{J:Y C}:bh 305 [a8 J] (an aj (x9 J)):=by
 refine bs func305 [] λp b=>?_;apply f<;>intro c
 .exact aL (s:=by rw[x9,af q];rfl)
 exact aL (s:=by rw[x9,ad q];rfl)
def auW J:bh 133 [a8 J] (an aj (x9 J)):=by
 refine bs func133 [] λp b=>?_;apply f<;>intro c
 .exact aL (s:=by rw[x9,af q];rfl)
 exact aL (s:=by rw[x9,ad q];rfl)
def amf{b:C}:bh 179 [bF b] (aV (fr b)):=by refine bs func179 [] λp c=>?_;refine i4 ?_;exact aL (s:=by simp[eR,gp];congr 2<;>((simp;omega)))
theorem PT{c:C->X}{H:Y C}{b:Z}(d:b<U H):(ay b H).all c=(c H[b]&&(ay (b+1) H).all c):=by grind[amo]
theorem Jz{b:C}:(ax b:L)=48↔b=48:=by constructor;intro c;apply z9.1;(simp;omega);simp_all
def auV R(w:U R.bT<=1048576):bh 129 [cm R] (an aj (lX R)):=by
 refine bs func129 [] λp n=>?_;apply f<;>intro i
 .exact aL (s:=by rw[lX,af<|bj i];rfl)
 have:0<U R.bT:=yh.2 i;refine gN (U R.bT) (λd=>R.bT.all fr=(ay d R.bT).all fr) (λd=>⟨[(1,b 1),(3,_),(4,l d)],[(1,_)],[]⟩) (λd k=>?_) aa .r;apply f<;>intro o
 .refine gK _ _ ?_;refine aT ?_ (g:=amf);apply f<;>intro e
  .have m:R.bT.all fr=ae:=by rw[k.2,PT q];simp at e;rw[e];simp
   exact aL (s:=by rw[lX,af<|bp m];rfl)
  refine aY ?_;exact a4 (d+1) ⟨q,by grind[PT]⟩ (bA:=.r)
 have:R.bT.all fr:=by rw[k.2,kA q];rfl
 apply f<;>intro c
 .refine gu ?_;apply f<;>intro h
  .exact aL (s:=by rw[lX,ad aq,af c,af h];rfl)
  exact aL (s:=by rw[lX,ad aq,af c,ad h];rfl)
 apply pq 0;apply cy;intro v;refine iQ ?_;apply pq<|U R.bT-1;exact aa;apply f<;>intro t
 .exact aL (s:=by rw[lX,ad aq,ad c,af (by grind[Jz])];rfl)
 iterate 2 refine gu ?_
 apply f<;>intro u
 .exact aL (s:=by rw[lX,ad aq,ad c,ad (by grind[Jz]),af q];rfl)
 exact aL (s:=by rw[lX,ad aq,ad c,ad (by grind[Jz]),ad q];rfl)
section
variable{H:Y a7}{O:bc}{ak:cS->bc->Prop}
def cD.bytes{y w e:aw}{au K av L ay N:Z}{v:aP}{b:Y C}(S:O.guard ops M=W ag)(ap:cu P y k1 au K)(g:cu P w (c_ e) av L)(R:cu P e (.int ez) ay N)(aA:M.op=.convert y w v)(r:O.val p v=W (.str b))(X:U b<=ja)(ar:∀I,cD P p ops H (({O with d:=O.d++[(I,.j 0 1 e<|ab bF b)]}:bc).put M.dst (.bH I 0 0 (U b))) ak):cD P p ops (M::H) O ak:=.mn S λJ c m B=>by
 have i:=B.val r;generalize aB:b1 J v=aD at i;cases i;have x:=run_bytes_of_string c y w e ⟨aO b⟩ ap.u g.u R.u;have G:gD (⟨aO b⟩:kZ)=U b:=by simp[gD]
 rw[G] at x;have F:=grownCap_ge c (U b) 0 e;have D:=grownCap_le_maxLen c (U b) 0 e X;generalize grownCap c (U b) 0 e=s at x F D;generalize E:bytesRow _ s=h at x;have:∀f(o:f<U b),h[f]?=W (cN ez (ax b[f])):=λf o=>by grind[bytesRow]
 have am:∀t∈h,gE t:=by intro t l;rw[<-E] at l;simp[bytesRow] at l;rcases l with⟨z,_,rfl⟩|⟨_,rfl⟩<;>rfl
 have T:=B.cO.new (lf:=.j 0 1 e<|ab bF b) (dr:=⟨W _,0,0,s,1⟩) (bp ⟨a9 c.heap,aa,bv _⟩) (have k:=World.grownBy_alloc c.drew (pK h e (a9 h,a9 h+1)) ai;⟨k.os,k.tape,k.output,k.size,k.block⟩)
  ⟨aa,aa,bp ⟨a9 c.heap,h,aa,⟨_,heap_alloc_new c.drew _,bp<|bv _⟩,(by rw[<-E];simp[bytesRow,G];omega),aq,λf t l=>am t<|OT l,λf Q g=>by
   obtain⟨z,_,rfl⟩:=dI.1<|dY g;rfl,λf A Q v g r=>by
   rw[db] at g;cases o:b[f]?;simp_all
   next z=>rw[o] at g;cases g;cases A with|succ A=>cases r|zero=>cases r;obtain⟨az,rfl⟩:=eX.1 o;exact⟨_,aq,.int _ _⟩⟩⟩
 refine⟨eY (W ⟨a9 c.heap,0,ai⟩) (U b) s,_,_,.bH m.n 0 0<|U b,_,(bf.jh λaC i=>by rw[m.fresh _<|bv _] at i;cases i),?_,T,bj ?_,ar m.n⟩;exact .bH _ _ _ _ _ _ (m.kg _ _) (bv _) aa λ_=>bp ⟨a9 c.heap,0,s,aa,aa,F,D,bp ⟨ao,ao⟩⟩;simp_all[c5,Sem.run_bind]
end
section
variable{B:aN->Prop}
def MU{h g e:aw}{k:aP}{b:Z}{d:Y C}(Q:B (J.fresh b (.j 1 e (ab bF d)) (.a b 0 (U d))))(D:M.op=.convert h g k:=by rfl)(x:M.dst=W b:=by rfl)(A:g8 b m:=by rfl)(E:fC K h k1:=by exact fX)(v:fC K g (c_ e):=by exact fX)(y:fC K e (.int ez):=by exact fX)(G:val i J.c k=W (.str d):=by rfl)(R:U d<=100000000000:=by omega):gg P K p i m ops M J B:=⟨λf s t l H ak z O=>by obtain⟨_,_,n⟩:=E.eD f;obtain⟨_,_,o⟩:=v.eD f;obtain⟨_,_,r⟩:=y.eD f;have:=ll (show hB _ m=ag from A);refine cD.bytes z n o r D (hJ s t G l) (by grind[ja]) λI=>?_;rw[x];apply cD.toR λN T L u=>a_.fresh (aQ:=e2 l b (I,0)) (λS F=>hd F) (qJ:=.a b 0 _) (w:=.j _ e _) (by simp[V.aB,V.jW,V.e8,V.e0,iT];exact .refl _) (by simp[c2,iT];exact .same _ .nil) u;grind[dk.of,hd]⟩
end
def Bc(d c:L)(b:C):X:=aH (d<=ax b)&&aH ((ax b:L)<=c)
def wE:=Bc 65 90
def sR:=Bc 97 122
def sG:=Bc 48 57
def Fl(b:C):X:=sR b||wE b
def agp:Y C:=[45,95,46,33,35,36,37,38,39,42,43,94,124,126]
def DR(b:C):X:=Fl b||sG b||j1 agp b
def uf(J:Y C):X:=dh J DR&&aH (J≠[])&&aH ((U J:L)<=100)
def Bs(b:C):X:=Fl b||sG b||aH (ax b=45)||aH (ax b=95)
def p4(J:Y C):X:=dh J Bs&&aH (J≠[])&&aH ((U J:L)<=100)
def v8(b:C):C:=if wE b then b+32 else b
def oH(J:Y C):Y C:=ab v8 J
def np{b:Type}(d:b->b)(J:Y b)(c:Z):Y b:=ab d (am c J)++ay c J
def azx{b:Type}{c:b->b}{J:Y b}:J=np c J 0:=ba
theorem aqs{b:Type}{c:b->b}{J:Y b}{d:Z}:U (np c J d)=U J:=by grind[np]
theorem Sv{c:Type}{d:c->c}{J:Y c}{b:Z}(e:b<U J):(np d J b)[b]?=W J[b]:=by grind[np,List.getElem?_append_right,Nat.min_eq_left,Nat.le_of_lt]
theorem Sw{d:Type}{c:d->d}{J:Y d}{b:Z}(e:b<U J):aR (np c J b) b (c J[b])=np c J (b+1):=by refine jn λf=>?_;simp[np,nB,bm,nD,sg];grind
def abq{d:Type}{c:d->d}{J:Y d}{b:Z}(f:b<U J)(e:c J[b]=J[b]):np c J b=np c J (b+1):=by rw[<-Sw f,e];refine jn λg=>?_;grind[Sv,aqs]
theorem abp{b:Type}{c:b->b}{J:Y b}{e:Z}(d:U J<=e):np c J e=ab c J:=by rw[np,kC d,kA d,gv]
def xN{b:C}:bh 161 [bF b] (aV (sR b))/\bh 206 [bF b] (aV (wE b))/\bh 289 [bF b] (aV (sG b))/\bh 104 [bF b] (aV (sR b))/\bh 135 [bF b] (aV (wE b))/\bh 188 [bF b] (aV (sG b)):=by
 refine⟨bs func161 [] λp c=>?_,bs func206 [] λp c=>?_,bs func289 [] λp c=>?_,bs func104 [] λp c=>?_,bs func135 [] λp c=>?_,bs func188 [] λp c=>?_⟩
 all_goals apply cL;intro d;exact aa;exact aL
def asF{b:C}:bh 288 [bF b] (aV (Fl b)):=by refine bs func288 [] λp c=>?_;refine aT ?_ (g:=xN.1);apply cy;intro d;refine ch ?_ (g:=xN.2.1);exact aa;exact aL
def auy{b:C}:bh 187 [bF b] (aV (Fl b)):=by refine bs func187 [] λp c=>?_;refine aT ?_ (g:=xN.2.2.2.2.1);apply cy;intro d;refine ch ?_ (g:=xN.2.2.2.1);exact aa;exact aL (s:=by rw[Fl,Bool.or_comm];rfl)
def ZZ b:∀H,aH (0<=eG H b)=j1 H b|[]=>ba|c::H=>by have:=ZZ b H;rw[eG,ahk];grind
def asN{b:C}:bh 253 [bF b] (aV (DR b)):=by refine bs func253 [] λp d=>?_;refine aT ?_ (g:=asF);apply cy;intro c;refine ch ?_ (g:=xN.2.2.1);exact aa;apply cy;intro c;refine ch ?_ (g:=HT _ b);exact aa;exact aL (s:=by rw[DR,<-ZZ];rfl)
def auE J{c:C}(m:U J<=100000000):bh 189 [a8 J,bF c] (aV (j1 J c)):=by
 refine bs func189 [] λp i=>?_;refine gN (U J) (λb=>j1 J c=j1 (ay b J) c) (λb=>⟨[(0,a8 J),(1,bF c),(4,aV ae),(5,l b)],[],[]⟩) λb k=>?_;apply f<;>intro g
 .have e:b<U J:=q;apply gK b _;apply f<;>intro h;have d:=by have:ax J[b]=ax c:=q;exact bQ<|z9.1 this
  exact aL (s:=by rw[k.2,l3 e,ahk,d];simp;rfl);refine aY ?_;exact a4 (b+1) ⟨q,by grind[List.drop_eq_getElem_cons]⟩
 exact aL (s:=by rw[k.2,kA q];rfl)
def auL{b:C}:bh 134 [bF b] (aV (DR b)):=by refine bs func134 [] λp d=>?_;refine aT ?_ (g:=auy);apply cy;intro c;refine ch ?_ (g:=xN.2.2.2.2.2);exact aa;apply cy;intro c;refine ch ?_ (g:=auE agp a2);exact aa;exact aL
def Ey{P:C->X}{J:Y C}{b:Z}(e:dh J P=dh (ay b J) P)(d:b<U J)(c:P J[b]):dh J P=dh (ay (b+1) J) P:=by grind[PT]
def Ez{P:C->X}{J:Y C}{b:Z}(e:dh J P=dh (ay b J) P)(d:b<U J)(c:P J[b]=ae):dh J P=ae:=by grind
theorem Ex{P:C->X}{J:Y C}{b:Z}:dh J P=dh (ay b J) P->U J<=b->dh J P:=by grind[List.drop_eq_nil_of_le]
def asO{J:Y C}(h:U J<=100000000):bh 205 [a8 J] (aV (dh J DR&&aH (J≠[]))):=by
 refine bs func205 [] λp e=>?_;refine gN (U J) (λb=>dh J _=dh (ay b J) DR) (λb=>⟨[(0,a8 J),(5,l<|U J),(6,l b)],[],[]⟩) λb k=>?_;apply f<;>intro c
 .refine gK b _ ?_;refine aT ?_ (g:=asN);apply f<;>intro d;exact aL (s:=by rw[Ez k.2 q aq];rfl);refine aY ?_;exact a4 _ ⟨q,Ey k.2 q aq⟩
 exact aL (s:=by rw[Ex k.2 q];rfl)
def asH{J:Y C}(b:U J<=100000000):bh 159 [a8 J] (aV (uf J)):=by refine bs func159 [] λp c=>?_;apply cL;intro d;refine ch ?_ (g:=asO b);exact aa;exact aL (s:=by simp[eR,gp,uf,Bool.and_comm])
def auM{J:Y C}(i:U J<=100000000):bh 102 [a8 J] (aV (uf J)):=by
 refine bs func102 [] λp e=>?_;refine gN (U J) (λb=>dh J _=dh (ay b J) DR) (λb=>⟨[(0,a8 J),(3,l b)],[],[]⟩) λb k=>?_;apply f<;>intro c
 .refine gK b _ ?_;refine aT ?_ (g:=auL);apply f<;>intro d;exact aL (s:=by rw[uf,Ez k.2 q aq];rfl);refine aY ?_;exact a4 _ ⟨q,Ey k.2 q aq⟩
 apply cL;intro h;exact aa;exact aL (s:=by grind[uf,Ex,eR,gp])
def H9{c:C->C}{J:Y C}{b:Z}(d:b<U J):(ab bF (np c J b))[b]?=W (bF J[b]):=by grind[Sv]
def abj{b:C}(c:¬wE b):v8 b=b:=ad c
theorem Gi{b:C}:wE b↔65<=(ax b:L)/\(ax b:L)<=90:=by simp[wE,Bc]
theorem abk{b:C}(c:wE b):(ax (v8 b):L)=ax b+32:=by rw[v8,af c,UInt8.toNat_add];grind[Gi]
def OO{b:C}{c:L}(d:c=ax b):V.int ez c=bF b:=d▸aa
def abg{b:C}(c:wE b):V.int ez (hf IntKind.u8 (hf IntKind.u8 (ax b+97)-65))=bF (v8 b):=OO (by grind[abk,Gi,zJ])
def abh{b:C}(c:wE b):V.int ez (hf IntKind.u8 (ax b+32))=bF (v8 b):=OO (by grind[abk,Gi,zJ])
def abr{J:Y C}{b:Z}{c:V}(e:b<U J)(d:c=bF (v8 J[b])):aR (ab bF (np v8 J b)) b c=ab bF (np v8 J (b+1)):=by grind[Sw,List.map_set]
def abt{b:C->C}{J:Y C}{c:Z}:U J<=c->am (U J) (ab bF (np b J c))=ab bF (ab b J):=by grind[abp,List.take_of_length_le]
def MD J:U (oH J)=U J:=bm _
def Ft J(i:U J<=100000000):bh 160 [a8 J] (a8 (oH J))/\bh 93 [a8 J] (a8 (oH J))/\bh 73 [a8 J] (a8 (oH J)):=by
 refine⟨bs func160 [] λp e=>?_,bs func93 [] λp e=>?_,bs func73 [] λp e=>?_⟩
 all_goals
  refine MU ?_;refine e9 (U J) (λb=>⟨[(0,_),(3,.a 7 0 _),(8,.a 7 0 _),(9,l _),(10,l b)],[(7,.j 1 5<|ab _<|np v8 J b)],[]⟩) (λb k=>?_) .r;apply f<;>intro h
  .have d:=Int.ofNat_lt.1 h;apply cE b;refine fl _ ?_ (k:=H9 d)
   first
   |refine aT ?_ (g:=xN.2.1)|refine i4 ?_
   apply f<;>intro c;apply cE b;refine fF _ _ _ ?_ (k:=H9 d) (aU:=abr d (by first|exact abg c|exact abg (Gi.2 c)|exact abh<|Gi.2 c));refine aY ?_;exact a4<|b+1;refine aY ?_;rw[abq d<|abj (by first|exact c|exact mt Gi.1 c)];exact a4<|b+1
  exact rU _ (hlen:=by rw[MD]) (aM:=by rw[qn,abt q];rfl)<|aL
def auz{J:Y C}(i:U J<=100000000):bh 103 [a8 J] (a8 (oH J)):=by
 refine bs func103 [] λp h=>?_;refine MU ?_;refine e9 (U J) (λb=>⟨[(0,_),(3,.a 6 0 _),(4,l b)],[(6,.j 1 5<|ab _<|np v8 J b)],[]⟩) (λb k=>?_) .r;apply f<;>intro e
 .have c:=Int.ofNat_lt.1 e;apply cE b;refine fl _ ?_ (k:=H9 c);refine aT ?_ (g:=xN.2.2.2.2.1);apply f<;>intro d;apply cE b;refine fl _ ?_ (k:=H9 c);apply cE b;refine fF _ _ _ ?_ (k:=H9 c) (aU:=abr c<|abh d);refine aY ?_;exact a4<|b+1;refine aY ?_;rw[abq c<|abj d];exact a4<|b+1
 exact rU _ (hlen:=by rw[MD]) (aM:=by rw[qn,abt q];rfl)<|aL
def lu(J:Y C):Z->Y C|0=>J|b+1=>if sR (y (lu J b) b av)/\(b=0\/ax (y (lu J b) (b-1) av)=45) then aR (lu J b) b (y (lu J b) b av-32) else lu J b
theorem CE{J:Y C}:∀b,U (lu J b)=U J|0=>aa|b+1=>by rw[lu];split;rw[nC,CE b];exact CE b
theorem Sk{b:C}:sR b↔97<=(ax b:L)/\(ax b:L)<=122:=by simp[sR,Bc]
theorem XF{b:C}:sR b->(ax (b-32):L)=ax b-32:=by grind[Sk,UInt8.toNat_sub_of_le,UInt8.le_iff_toNat_le]
def alv{b:C}(c:sR b):V.int ez (hf IntKind.u8 (hf IntKind.u8 (ax b-97)+65))=bF (b-32):=OO (by grind[XF,Sk,zJ])
def alw{b:C}(c:sR b):V.int ez (hf IntKind.u8 (ax b-32))=bF (b-32):=OO (by grind[XF,Sk,zJ])
def XE{J:Y C}{b:Z}{c:V}:sR (y (lu J b) b av)->b=0\/ax (y (lu J b) (b-1) av)=45->c=bF (y (lu J b) b av-32)->aR (ab bF (lu J b)) b c=ab bF (lu J (b+1)):=by simp_all[lu,af,hl]
def Yo(b:L):V:=an aj b
def xT(J:Y C):Y C:=if uf J then lu (oH J) (U J) else[]
def BG(J:Y C):L:=if uf J then 0 else 8
def XC{J:Y C}{b:Z}(c:¬(sR (y (lu J b) b av)=ag/\(b=0\/ax (y (lu J b) (b-1) av)=45))):lu J b=lu J (b+1):=by rw[lu,ad c]
def CF{J:Y C}{c b:Z}(d:b<U J):(ab bF (lu J c))[b]?=W (bF (y (lu J c) b av)):=eZ (by grind[CE])
def asJ{J:Y C}(i:U J<=100000000):bh 120 [a8 J] (cv [a8 (xT J),Yo (BG J)]):=by
 refine bs func120 [] λp t=>?_;refine aT ?_ (g:=asH i);apply f<;>intro c;exact aL (s:=by rw[xT,BG,ad c,ad c];rfl);have c:uf J:=by simpa using c
 refine aT ?_ (g:=(Ft J i).1);have h:=MD J;refine MU ?_;refine e9 (U J) (λb=>⟨[(0,_),(4,.a 12 0<|U J),(13,.a 12 0<|U J),(14,l<|U J),(15,l b)],[(12,.j 1 5<|ab bF<|lu (oH J) b)],[]⟩) (λb k=>?_) (by rw[<-h];exact .r);apply f<;>intro o
 .have s:b<U (oH J):=q;apply cE b;refine fl _ ?_ (k:=CF s);refine aT ?_ (g:=xN.1);apply cL;intro e;apply cy;intro d;refine iQ ?_;apply cE<|b-1;refine fl _ ?_ (k:=CF q);exact aa;exact aa;apply f<;>intro e;have d:sR _/\(b=0\/ax (y (lu (oH J) b) (b-1) av)=45):=⟨e.1,q⟩;apply cE b;refine fF _ _ (an ez _) ?_ (k:=CF s) (aU:=XE d.1 d.2<|alv d.1);refine aY ?_;exact a4<|b+1;refine aY ?_;rw[XC λm=>e ⟨m.1,q⟩];exact a4<|b+1
 have n:b=U J:=q;subst n;exact rU (xT J) (hlen:=by rw[xT,af c,CE,h]) (aM:=by rw[qn,xT,af c,kC (by simp_all[bm,CE,bv])])<|aL (s:=by rw[BG,af c];rfl)
def auF{J:Y C}(i:U J<=100000000):bh 76 [a8 J] (cv [a8 (xT J),Yo (BG J)]):=by
 refine bs func76 [] λp t=>?_;refine aT ?_ (g:=auM i);apply f<;>intro c;exact aL (s:=by rw[xT,BG,ad c,ad c];rfl);have c:uf J:=by simpa using c
 refine aT ?_ (g:=auz i);have h:=MD J;refine MU ?_;refine e9 (U J) (λb=>⟨[(0,_),(4,.a 11 0<|U J),(5,l b)],[(11,.j 1 5<|ab bF<|lu (oH J) b)],[]⟩) (λb k=>?_) (by rw[<-h];exact .r);apply f<;>intro o
 .have s:b<U (oH J):=q;apply cE b;refine fl _ ?_ (k:=CF s);refine aT ?_ (g:=xN.2.2.2.1);apply cL;intro e;apply cy;intro d;refine iQ ?_;apply cE<|b-1;refine fl _ ?_ (k:=CF q);exact aa;exact aa;apply f<;>intro e;have d:sR _/\(b=0\/ax (y (lu (oH J) b) (b-1) av)=45):=⟨e.1,q⟩;apply cE b;refine fl _ ?_ (k:=CF s);apply cE b;refine fF _ _ (an ez _) ?_ (k:=CF s) (aU:=XE d.1 d.2<|alw d.1);refine aY ?_;exact a4<|b+1;refine aY ?_;rw[XC λm=>e ⟨m.1,q⟩];exact a4<|b+1
 have n:b=U J:=q;subst n;exact rU (xT J) (hlen:=by rw[xT,af c,CE,h]) (aM:=by rw[qn,xT,af c,kC (by simp_all[bm,CE,bv])])<|aL (s:=by rw[BG,af c];rfl)
def aea J(b:U J<=100000000):bh 49 [a8 J] (aV (uf J)):=by refine bs func49 [] λp c=>?_;refine aT ?_ (g:=auF b);exact aL (s:=by simp[BG,eR])
def HC(J:Y C):X:=aH (oH J=[99,111,110,116,101,110,116,45,108,101,110,103,116,104])||aH (oH J=[116,114,97,110,115,102,101,114,45,101,110,99,111,100,105,110,103])
def aql{J:Y C}(b:U J<=100000000):bh 121 [a8 J] (aV (HC J)):=by refine bs func121 [] λp c=>?_;refine aT ?_ (g:=(Ft J b).2.1);apply cy;intro _;exact aa;exact aL
def ad_ J(b:U J<=100000000):bh 50 [a8 J] (aV (HC J)):=by refine bs func50 [] λp c=>?_;refine aT ?_ (g:=(Ft J b).2.2);apply cy;intro _;exact aa;exact aL
def A5(J:Y C):X:=uf J&&!HC J
def ZC J(b:U J<=100000000):bh 92 [a8 J] (aV (A5 J)):=by refine bs func92 [] λp c=>?_;refine aT ?_ (g:=asJ b);apply cL;intro _;refine ch ?_ (g:=aql b);exact aa;exact aL (s:=by simp[BG,A5,eR,gp])
def MX{b:C}:Bs b↔¬((((((ax b:L)<97\/122<(ax b:L))/\((ax b:L)<65\/90<(ax b:L)))/\((ax b:L)<48\/57<(ax b:L)))/\¬(ax b:L)=45)/\¬(ax b:L)=95):=by simp[Bs,Fl,sR,wE,sG,Bc];omega
def ac_{J:Y C}(g:U J<=100000000):bh 59 [a8 J] (aV (p4 J)):=by
 refine bs func59 [] λp e=>?_;refine gN (U J) (λb=>dh J Bs=dh (ay b J) _) (λb=>⟨[(0,a8 J),(6,l<|U J),(7,l b)],[],[]⟩) λb k=>?_;apply f<;>intro d
 .refine gK b _ ?_;apply cy;intro _;exact aa
  iterate 2
   apply cL;intro _;apply cy;intro _;exact aa;exact aa
  iterate 2
   apply cL;intro _;exact aa
  apply f<;>intro c;exact aL (s:=by rw[p4,Ez k.2 _ (by rw[<-U0,MX];omega)];rfl);refine aY ?_;exact a4 _ ⟨q,Ey k.2 _<|MX.2 c⟩
 apply cL;intro _;exact aa;exact aL (s:=by grind[p4,Ex,eR,gp])
def NP J(g:U J<=100000000):bh 30 [a8 J] (aV (p4 J)):=by
 refine bs func30 [] λp e=>?_;refine gN (U J) (λb=>dh J _=dh (ay b J) Bs) (λb=>⟨[(0,a8 J),(3,l b)],[],[]⟩) λb k=>?_;apply f<;>intro c
 .refine gK b _ ?_;apply cL;intro _;exact aa
  iterate 2
   apply cy;intro _;apply cL;intro _;exact aa;exact aa
  iterate 2
   apply cy;intro _;exact aa
  apply f<;>intro d;exact aL (s:=by rw[p4,Ez k.2 _ (by rw[<-U0,MX];omega)];rfl);refine aY ?_;exact a4 _ ⟨q,Ey k.2 _<|MX.2 q⟩
 apply cL;intro _;exact aa;exact aL (s:=by rw[p4,Ex k.2 q];cases J<;>simp[eR,gp];omega)
def zB(J:Y C):X:=aH (J=[])||p4 J
def Tp J(b:U J<=100000000):bh 43 [a8 J] (aV (zB J)):=by refine bs func43 [] λp c=>?_;apply cy;intro _;refine ch ?_ (g:=ac_ b);exact aa;exact aL
def bE(b:X):V:=aV b
def gI(b:L):V:=an aj b
inductive aW where|mk (c0:L) (set:Y (L×L)) (min max:L) (a3:Y aW)
def hs(b:L×L):V:=b2 [an aj b.1,an aj b.2]
mutual
def uO:aW->V|.mk B J b c H=>b2 [an aj B,.al 2<|ab hs J,an aj b,an aj c,.al 5<|hh H]
def hh:Y aW->Y V|[]=>[]|b::H=>uO b::hh H
end
namespace aW
def c0:aW->L|.mk b _ _ _ _=>b
def set:aW->Y (L×L)|.mk _ b _ _ _=>b
def min:aW->L|.mk _ _ b _ _=>b
def max:aW->L|.mk _ _ _ b _=>b
def a3:aW->Y aW|.mk _ _ _ _ b=>b
end aW
def cW(b:aW):V:=b2 [an aj b.c0,.al 2<|ab hs b.set,an aj b.min,an aj b.max,.al 5<|hh b.a3]
def xi b:uO b=cW b:=by cases b;rfl
structure bY where
 start:Z
 acc:Y X
 next:Y (Y Z)
def ca(H:Y Z):V:=.al 1<|H.map λR=>V.int aj (R:Z)
def ga(b:bY):V:=b2 [l b.start,.al 1<|ab bE b.acc,.al 1<|ab ca b.next]
theorem CT:∀H,hh H=ab uO H|[]=>aa|b::H=>by rw[hh,ia,CT H]
theorem io H:U (hh H)=U H:=by rw[CT,bm]
instance:l9 aW:=⟨.mk 0 [] 0 0 []⟩
def amt{H:Y aW}{b:Z}:b<U H->(hh H)[b]?=W (uO (y H b av)):=by grind[CT,List.getElem?_eq_getElem]
abbrev jC(H:Y Z):Prop:=H.Pairwise (·<·)
def ee:Y Z->Y Z->Y Z|[],c=>c|d::b,[]=>d::b|d::b,e::c=>if d<e then d::ee b (e::c) else if e<d then e::ee (d::b) c else d::ee b c
 termination_by b c=>U b+U c
theorem OE b:ee [] b=b:=by rw[ee]
theorem ayk b:ee b []=b:=by cases b<;>rw[ee]
theorem pp:∀c d b,b∈ee c d↔b∈c\/b∈d|[],d,b=>by simp[ee]|e::c,[],b=>by simp[ee]|e::c,f::d,b=>by rw[ee];split;rw[fH,pp c _ b];grind;split;rw[fH,pp _ d b];grind;have:=q;rw[fH,pp c d b];grind
 termination_by c d=>U c+U d
theorem xt:∀b c,jC b->jC c->jC (ee b c)|[],c,_,f=>by grind[ee]|k::b,[],e,_=>by grind[ee]|k::b,l::c,e,f=>by let g:=s_.1 e;let h:=s_.1 f;rw[ee];split;refine s_.2 ⟨λi aX=>?_,xt b _ g.2 f⟩;rcases(pp _ _ _).1 aX with d|d;simp_all;grind;split;refine s_.2 ⟨λi aX=>?_,xt _ c e h.2⟩;rcases(pp _ _ _).1 aX with d|d;grind;simp_all;have:=q;refine s_.2 ⟨λi aX=>?_,xt b c g.2 h.2⟩;grind[pp]
 termination_by b c=>U b+U c
def RE:∀{b c:Y Z},jC b->jC c->(∀h,h∈b↔h∈c)->b=c
|[],[],_,_,_=>aa|[],f::c,_,_,d=>cg ((d f).2<|ki ..) kB|e::b,[],_,_,d=>cg ((d e).1<|ki ..) kB|e::b,f::c,i,l,d=>by
 have k:=s_.1 i;have m:=s_.1 l;have n:e=f:=by rcases fH.1 ((d e).1 (ki ..)) with g|g;exact g;grind[List.mem_cons_self]
 subst n;rw[RE k.2 m.2 _];grind
def Mg{H:Y Z}(c:jC H){b:Z->X}:jC (l_ b H):=List.Pairwise.filter b c
def Z4:∀{H:Y Z}{pn R:Z},jC H->(∀b∈H,pn<=b/\b<R)->U H<=R-pn
|[],_,_,_,_=>dJ _|b::H,pn,R,g,d=>by
 let c:=s_.1 g;let h:=d b<|ki ..;have:=Z4 c.2 λf e=>⟨c.1 f e,(d f<|mB _ e).2⟩
 (simp;omega)
section
variable[hO bb]
def note(H:Y bb)(R:bb):Y bb:=if R∈H then H else H++[R]
def iZ(H b:Y bb):Y bb:=b.foldl note H
def X1(H:Y bb):iZ H []=H:=aa
def Li H R(b:Y bb):iZ H (R::b)=iZ (note H R) b:=aa
theorem Lh(H b c:Y bb):iZ H (b++c)=iZ (iZ H b) c:=Ve
theorem AG{H b:Y bb}{R:bb}:iZ H (b++[R])=note (iZ H b) R:=by rw[Lh];rfl
theorem S5{H:Y bb}{R:bb}:H<+:note H R:=by grind[note,List.prefix_refl,List.prefix_append]
theorem CN:∀(b H:Y bb),H<+:iZ H b|[],H=>D8 H|R::b,H=>(S5).trans<|CN b _
theorem Ip H(R b:bb):b∈note H R↔b∈H\/b=R:=by grind[note,id]
theorem yS:∀c H(b:bb),b∈iZ H c↔b∈H\/b∈c|[],H,b=>by simp[X1]|R::c,H,b=>by rw[Li,yS c,Ip,fH,or_assoc]
def AF:∀b{H:Y bb},dT H->dT (iZ H b)|[],_,c=>c|R::b,_,c=>AF b (by grind[note,List.nodup_append])
def cz(succ:bb->Y bb)(bP:Y bb):Z->Y bb|0=>bP|b+1=>match(cz succ bP b)[b]? with|W c=>iZ (cz succ bP b) (succ c)|ai=>cz succ bP b
variable{succ:bb->Y bb}{bP:Y bb}
theorem yG{b:Z}{c:bb}(d:(cz succ bP b)[b]?=W c):cz succ bP (b+1)=iZ (cz succ bP b) (succ c):=by rw[cz,d]
theorem KT{b:Z}(c:U (cz succ bP b)<=b):cz succ bP (b+1)=cz succ bP b:=by rw[cz,zV c]
theorem P_ b:cz succ bP b<+:cz succ bP (b+1):=by grind[cz,CN,List.prefix_refl]
theorem pQ{c b:Z}:c<=b->cz succ bP c<+:cz succ bP b:=by
 induction b
 simp_all
 next b d=>grind[trans,P_]
theorem tt{D cs:Z}:U (cz succ bP D)<=D->D<=cs->cz succ bP cs=cz succ bP D:=by
 induction cs
 simp_all
 next cs b=>grind[KT]
theorem Cz(c:dT bP):∀b,dT (cz succ bP b)|0=>c|b+1=>by rw[cz];split;exact AF _<|Cz c b;exact Cz c b
def zp{H m:Y bb}(d:H<+:m){b:Z}{c:bb}:H[b]?=W c->m[b]?=W c:=by obtain⟨e,rfl⟩:=d;grind
theorem WW{c B:Z}{d:bb}(f:B<c)(b:(cz succ bP c)[B]?=W d):∀e∈succ d,e∈cz succ bP c:=by
 let g:B<U (cz succ bP B):=by refine B7 λh=>?_;rw[tt h q] at b;have:=(eX.1 b).1;omega
 let i:(cz succ bP B)[B]?=W d:=by have:=zp (pQ<|wL f)<|cT g;rw[cT g,<-this];exact b
 intro e k;have:e∈cz succ bP (B+1):=by rw[yG i,yS];exact bp k
 exact(pQ f).subset this
theorem G1{b:Z}(e:U (cz succ bP b)<=b){d:bb}(f:d∈cz succ bP b):∀g∈succ d,g∈cz succ bP b:=by let⟨B,c⟩:=rl.1 f;exact WW (jZ (eX.1 c).1 e) c
def uF{G:bb->Prop}(d:∀b∈bP,G b)(e:∀b,G b->∀g∈succ b,G g):∀c,∀b∈cz succ bP c,G b|0=>d|c+1=>by intro b f;rw[cz] at f;split at f;rename_i g i;rcases(yS _ _ _).1 f with h|h;exact uF d e c b h;exact e g (uF d e c g<|dY i) b h;exact uF d e c b f
def atQ{H m:Y bb}(c:H<+:m){b:bb}:b∈H->h2 b m=h2 b H:=by obtain⟨d,rfl⟩:=c;grind
end
section
variable[hO bb] [hO pC]
def arD{d:bb->Prop}{c:bb->pC}(g:∀b e,d b->d e->c b=c e->b=e){H:Y bb}{R:bb}(f:∀b∈H,d b):d R->note (ab c H) (c R)=ab c (note H R):=by unfold note;grind
def X0{e:bb->Prop}{d:bb->pC}(h:∀b f,e b->e f->d b=d f->b=f):∀c H,(∀b∈H,e b)->(∀b∈c,e b)->iZ (ab d H) (ab d c)=ab d (iZ H c)|[],_,_,_=>aa|R::c,H,i,g=>by rw[ia,Li,Li,arD h i<|g R ao];refine X0 h c _ (λb k=>?_) λb k=>g b aK;grind[Ip]
def P9{d:bb->Prop}{e:bb->pC}(k:∀b f,d b->d f->e b=e f->b=f){succ:bb->Y bb}{DM:pC->Y pC}{bP:Y bb}(h:∀b∈bP,d b)(g:∀b,d b->∀f∈succ b,d f)(i:∀b,d b->DM (e b)=ab e (succ b)):∀c,cz DM (ab e bP) c=ab e (cz succ bP c)
|0=>aa|c+1=>by
 rw[cz,cz,P9 k h g i c,db];cases m:(cz _ bP c)[c]?;rfl
 next b=>let l:=uF h g c b<|dY m;simp;rw[i b l];exact X0 k _ _ (uF h g c)<|g b l
def RC{e:bb->Prop}{c:bb->pC}(i:∀b f,e b->e f->c b=c f->b=f):∀{H:Y bb}{R:bb},(∀b∈H,e b)->e R->h2 (c R) (ab c H)=h2 R H
|[],_,_,_=>aa|d::H,R,g,h=>by
 rw[ia,List.idxOf_cons,List.idxOf_cons];have:(c d==c R)=(d==R):=by rw[nA,Pn,Pn];exact⟨i d R (g d ao) h,λk=>by rw[k]⟩
 rw[this,RC i (λb l=>g b aK) h]
end
structure VL where
 next:Y (Y Z)
 acc:Y X
 deriving hO
section
variable[hO bb] [hO pC]
def g2(cj:bb->C->bb)(c:bb):Y bb:=(bM 256).map λb=>cj c<|gn b
def Cx(cj:bb->C->bb)(b:bb->X)(H:Y bb):VL:=⟨H.map λc=>ab H.idxOf<|g2 cj c,ab b H⟩
def ajy{c:bb->Prop}{d:bb->pC}(o:∀b g,c b->c g->d b=d g->b=g){cj:bb->C->bb}{l:pC->C->pC}{h:bb->X}{i:pC->X}{H:Y bb}(f:∀b∈H,c b)(n:∀b e,c b->c (cj b e))(m:∀b e,c b->l (d b) e=d (cj b e))(p:∀b,c b->i (d b)=h b):Cx l i (ab d H)=Cx cj h H:=by unfold Cx g2;congr 1;rw[i_];refine hY λb k=>?_;simp only[i_];refine hY λe _=>?_;simp;rw[m b _<|f b k,RC o f<|n b _<|f b k];simp_all
def axs{e:bb->Prop}{c:bb->pC}{cj:bb->C->bb}{f:pC->C->pC}(g:∀b d,e b->f (c b) d=c (cj b d)){b:bb}:e b->g2 f (c b)=ab c (g2 cj b):=by grind[g2,List.map_map,List.map_congr_left]
def Ot{G:bb->Prop}{cj:bb->C->bb}(f:∀b d,G b->G (cj b d)){b:bb}(g:G b):∀c∈g2 cj b,G c:=by intro c e;unfold g2 at e;grind
end
abbrev uz:=Y C->X
def q6{bb:Type}(cj:bb->C->bb)(c:bb)(b:Y C):bb:=b.foldl cj c
def jF{bb:Type}(cj:bb->C->bb)(b:bb->X)(d:bb):uz:=λc=>b<|q6 cj d c
def yQ(b:uz)(c:C):uz:=λd=>b<|c::d
def M9(b:uz):X:=b []
def Mu{bb:Type}{cj:bb->C->bb}{b:bb->X}{d:bb}{c:C}:yQ (jF cj b d) c=jF cj b (cj d c):=aa
open Classical in
noncomputable def Bf(b:uz)(c:Z):Y uz:=cz (g2 yQ) [b] c
open Classical in
noncomputable def w_(b:uz)(c:Z):VL:=Cx yQ M9<|Bf b c
def Xb{bb:Type} [hO bb]{c:bb->Prop}{cj:bb->C->bb}{e:bb->X}(k:∀b h,c b->c (cj b h))(i:∀b d,c b->c d->jF cj e b=jF cj e d->b=d){b:bb}(l:c b){g:Z}:Bf (jF cj e b) g=ab (jF cj e) (cz (g2 cj) [b] g):=by
 classical
 have:=P9 i (bP:=[b]) aq (λd f=>Ot k f) (λd f=>axs (λm h _=>Mu) f) g;trivial
def akk{bb:Type} [hO bb]{c:bb->Prop}{cj:bb->C->bb}{d:bb->X}(f:∀b h,c b->c (cj b h))(i:∀b e,c b->c e->jF cj d b=jF cj d e->b=e){b:bb}(k:c b){g:Z}:w_ (jF cj d b) g=Cx cj d (cz (g2 cj) [b] g):=by
 classical
 unfold w_;rw[Xb f i k];exact ajy i (uF aq (λe l=>Ot f l) g) f (λm h _=>Mu) λm _=>aa
structure yw{bb:Type}(G:bb->Prop)(cj:bb->C->bb)(acc:bb->X)(cl:bb->Z):Prop where
 step:∀T Q,G T->G (cj T Q)
 iff:∀T w,G T->G w->(cl T=cl w↔jF cj acc T=jF cj acc w)
theorem yw.of{bb:Type}{e:bb->Prop}{cj:bb->C->bb}{g:bb->X}{d:bb->Z}(k:∀b f,e b->e (cj b f))(n:∀b c,e b->e c->jF cj g b=jF cj g c->d b=d c)(o:∀b c,e b->e c->d b=d c->g b=g c)(p:∀b c f,e b->e c->d b=d c->d (cj b f)=d (cj c f)):yw e cj g d:=by
 refine⟨k,λb c h i=>⟨λl=>?_,n b c h i⟩⟩;funext m
 induction m generalizing b c
 exact o b c h i l
 next f m r=>exact r _ _ (k b f h) (k c f i)<|p b c f h i l
def yw.w_{bb:Type}{i:bb->Prop}{cj:bb->C->bb}{h:bb->X}{d:bb->Z}(l:yw i cj h d){gU:Z->bb}(k:∀f,i f->i (gU (d f))/\d (gU (d f))=d f){f:bb}(s:i f)o:fe.w_ (jF cj h f) o=Cx (λc e=>d<|cj (gU c) e) (λc=>h<|gU c) (cz (g2 λc e=>d<|cj (gU c) e) [d f] o)/\U (Bf (jF cj h f) o)=U (cz (g2 λc e=>d<|cj (gU c) e) [d f] o):=by
 let r:∀b,i b->jF (λc e=>d<|cj (gU c) e) (λc=>h<|gU c) (d b)=jF cj h b:=by
  intro b g;funext p
  induction p generalizing b
  have:=(l.iff _ b (k b g).1 g).1 (k b g).2;exact Pt this []
  next e p w=>let n:=(l.iff _ b (k b g).1 g).1 (k b g).2;change jF _ (λc=>h _) _ p=jF cj h b _;rw[w (cj (gU<|d b) e)<|l.step _ _ (k b g).1];exact Pt n<|e::p
 let u:∀c e,(∃b,i b/\c=d b)->∃b,i b/\d (cj (gU c) e)=d b:=by rintro c e ⟨b,g,rfl⟩;exists _,l.step _ e (k b g).1
 let t:∀c m,(∃b,i b/\c=d b)->(∃b,i b/\m=d b)->jF (λc e=>d<|cj (gU c) e) (λc=>h<|gU c) c=jF (λc e=>d<|cj (gU c) e) (λc=>h<|gU c) m->c=m:=by rintro c m ⟨b,g,rfl⟩ ⟨v,aX,rfl⟩ n;rw[r b g,r v aX] at n;exact(l.iff b v g aX).2 n
 rw[<-r f s];exact⟨akk u t ⟨f,s,aa⟩,(by rw[Xb u t ⟨f,s,aa⟩,bm])⟩
def Wp{d:Type} [hO d]:∀{z Q:Y d},dT z->(∀b∈z,b∈Q)->U Q<=U z->∀b∈Q,b∈z|[],Q,_,_,g,b,c=>by simp_all|i::z,Q,h,l,g,b,c=>by let⟨k,f⟩:=zZ.1 h;by_cases e:b=i;simp_all;refine mB _<|Wp f (λm aX=>?_) ?_ b<|(ahu e).2 c;grind;simp_all
def avZ{bb:Type}{G:bb->Prop}{n I:bb->Z}{R:Z}(l:∀b,G b->I b<R)(t:∀B<R,∃b,G b/\n b=B)(h:∀b,G b->n b<R)(m:∀b c,G b->G c->I b=I c->n b=n c):∀b c,G b->G c->n b=n c->I b=I c:=by
 let i:∀B:Fin R,∃b,G b/\n b=B.1:=λB=>t B.1 B.2;let e:=λB:Fin R=>JS<|i B;let u:dT ((List.finRange R).map λB=>I<|Classical.choose<|i B):=by refine Pb.2<|(Vo R).imp λ{z Q} r he=>r ?_;have:=m _ _ (e z).1 (e Q).1 he;rw[(e z).2,(e Q).2] at this;exact JT this
 let s:=Wp (z:=(List.finRange R).map λB=>I<|Classical.choose<|i B) (Q:=bM R) u
  (λb d=>by obtain⟨B,_,rfl⟩:=dI.1 d;exact hM.2<|l _ (e B).1) ao
 let p:∀b,G b->∀(f:n b<R),I b=I (Classical.choose<|i ⟨n b,f⟩):=by intro b d f;let⟨B,_,o⟩:=dI.1<|s (I b)<|hM.2<|l b d;let g:=m _ _ (e B).1 d o;rw[(e B).2] at g;have:B=⟨n b,f⟩:=JT g;rw[<-o,this]
 intro b c d k f;rw[p b d<|h b d,p c k<|h c k];let g:(⟨n b,h b d⟩:Fin R)=⟨n c,h c k⟩:=JT f;rw[g]
section
inductive Way(N:Z->Z->Prop):Z->Z->Prop|refl (T:Z):Way N T T|tail {T w ap:Z}:Way N T w->N w ap->Way N T ap
def Way.mono{e d:Z->Z->Prop}(g:∀b c,e b c->d b c){b c:Z}(i:Way e b c):Way d b c:=by
 induction i
 exact .refl _
 next _ f h=>exact h.tail<|g _ _ f
theorem Way.trans{b:Z->Z->Prop}{c d e:Z}(f:Way b c d)(g:Way b d e):Way b c e:=by
 induction g
 exact f
 next _ h i=>exact i.tail h
theorem Way.one{c:Z->Z->Prop}{b d:Z}(e:c b d):Way c b d:=(Way.refl b).tail e
def Way.head{b:Z->Z->Prop}{c d e:Z}(f:b c d)(g:Way b d e):Way b c e:=(Way.one f).trans g
structure mH(x fP:Z->Z)(N:Z->Z->Prop)(t jN pn k jx fx:Z)(first last:Z->Prop)(cn:Z->Z->Prop)(tB:Prop):Prop where
 LS:t<pn
 Gb:pn<=jN/\jN<k
 src:∀T w,N T w->(T=t\/pn<=T/\T<k)/\pn<=w/\w<k/\T≠jN
 pl:∀G,jx<=G->G<fx->pn<=x G/\x G<k/\x G≠jN/\pn<=fP G/\fP G<k
 wf:∀v,jx<=v->v<fx->(Way N t (x v)↔first v)
 wt:Way N t jN↔tB
 vk:∀G v,jx<=G->G<fx->jx<=v->v<fx->(Way N (fP G) (x v)↔cn G v)
 wl:∀G,jx<=G->G<fx->(Way N (fP G) jN↔last G)
 le:jx<=fx
 tE:∀v,first v->jx<=v/\v<fx
 rN:∀v,last v->jx<=v/\v<fx
 pj:∀G v,cn G v->(jx<=G/\G<fx)/\jx<=v/\v<fx
variable{x fP:Z->Z}
def mH.congr{f e:Z->Z->Prop}{k u o m r s:Z}{l H i n:Z->Prop}{M p:Z->Z->Prop}{h g:Prop}(B:mH x fP f k u o m r s l H M h)(v:∀b d,e b d↔f b d)(w:∀c,i c↔l c)(y:∀c,n c↔H c)(z:∀t c,p t c↔M t c)(A:g↔h):mH x fP e k u o m r s i n p g:=by have:=funext λb=>funext λd=>propext<|v b d;have:=funext λb=>propext<|w b;have:=funext λb=>propext<|y b;have:=funext λb=>funext λd=>propext<|z b d;simp_all
def mH.av7{u v:Z->Z->Prop}{B m ak E mid S P H Q:Z}{R O N U:Z->Prop}{X Y:Z->Z->Prop}{L M:Prop}(f:mH x fP u B m E mid P H R O X L)(h:mH x fP v m ak mid S H Q N U Y M):mH x fP (λd e=>u d e\/v d e) B ak E S P Q (λc=>R c\/L/\N c) (λc=>U c\/M/\O c) (λg c=>X g c\/Y g c\/O g/\N c) (L/\M):=by
 let hm:=f.Gb;let ap:=f.LS;let T:=h.Gb;let I:∀d e,d=B\/E<=d/\d<mid->e=B\/E<=e/\e<mid->Way (λd e=>u d e\/v d e) d e->Way u d e:=by
  intro d e G am b
  induction b
  exact .refl _
  next b l C=>rcases l with l|l;exact(C (f.src _ _ l).1).tail l;have:=(h.src _ _ l).2.1;omega
 let F:∀d e,d=B\/E<=d/\d<mid->mid<=e->Way (λd e=>u d e\/v d e) d e->Way u d m/\Way v m e:=by
  intro d e G am b
  induction b
  omega
  next b l C=>rcases l with l|l;have:=(f.src _ _ l).2.2.1;omega;rcases(h.src _ _ l).1 with i|i;subst i;exact⟨I _ _ G (bp hm) b,.one l⟩;let⟨k,o⟩:=C i.1;exact⟨k,o.tail l⟩
 let p:∀d e,d=m\/mid<=d->Way (λd e=>u d e\/v d e) d e->(e=m\/mid<=e)/\Way v d e:=by
  intro d e G b
  induction b
  exact⟨G,.refl _⟩
  next b l C=>let⟨k,o⟩:=C;rcases l with l|l;cases f.src _ _ l;omega;exact⟨bp (h.src _ _ l).2.1,o.tail l⟩
 let z:∀{d e},Way u d e->Way (λd e=>u d e\/v d e) d e:=λb=>b.mono λ_ _=>bj;let A:∀{d e},Way v d e->Way (λd e=>u d e\/v d e) d e:=λb=>b.mono λ_ _=>bp;let split:∀c,P<=c->c<Q->c<H\/H<=c:=λc _ _=>q;refine⟨f.LS,q,?_,?_,?_,?_,?_,?_,c9 f.le h.le,?_,?_,?_⟩;rintro d e (l|l);let⟨k,o,J,K⟩:=f.src _ _ l;omega;let⟨k,o,J,K⟩:=h.src _ _ l;omega;intro g n r;rcases split g n r with i|i;let⟨k,o,J,K⟩:=f.pl g n i;omega;let⟨k,o,J,K⟩:=h.pl g i r;omega;intro c y s;rcases split c y s with i|i;let n:=f.pl c y i;constructor;intro b;exact bj<|(f.wf c y i).1<|I _ _ (bj aa) (bp ⟨n.1,n.2.1⟩) b;rintro(b|⟨_,b⟩);exact z<|(f.wf c y i).2 b;have:=h.tE c b;omega;let n:=h.pl c i s;constructor;intro b;let⟨k,o⟩:=F _ _ (bj aa) n.1 b;exact bp ⟨f.wt.1 k,(h.wf c i s).1 o⟩;rintro(b|⟨k,b⟩);have:=f.tE c b;omega;exact(z<|f.wt.2 k).trans<|A<|(h.wf c i s).2 b;constructor;intro b;let⟨k,o⟩:=F _ _ (bj aa) T.1 b;exact⟨f.wt.1 k,h.wt.1 o⟩;rintro⟨k,o⟩;exact(z<|f.wt.2 k).trans<|A<|h.wt.2 o;intro g c n r y s;rcases split g n r with i|i<;>rcases split c y s with w|w;let t:=f.pl g n i;let D:=f.pl c y w;constructor;intro b;exact bj<|(f.vk g c n i y w).1<|I _ _ (bp t.2.2.2) (bp ⟨D.1,D.2.1⟩) b;rintro(b|b|⟨_,b⟩);exact z<|(f.vk g c n i y w).2 b;have:=h.pj g c b;omega;have:=h.tE c b;omega;let t:=f.pl g n i;let D:=h.pl c w s;constructor;intro b;let⟨k,o⟩:=F _ _ (bp t.2.2.2) D.1 b;exact bp<|bp ⟨(f.wl g n i).1 k,(h.wf c w s).1 o⟩;rintro(b|b|⟨k,b⟩);have:=f.pj g c b;omega;have:=h.pj g c b;omega;exact(z<|(f.wl g n i).2 k).trans<|A<|(h.wf c w s).2 b;let t:=h.pl g i r;let D:=f.pl c y w;constructor;intro b;have:=(p _ _ (bp t.2.2.2.1) b).1;omega;rintro(b|b|⟨k,b⟩);have:=f.pj g c b;omega;have:=h.pj g c b;omega;have:=f.rN g k;omega;let t:=h.pl g i r;constructor;intro b;exact bp<|bj<|(h.vk g c i r w s).1 (p _ _ (bp t.2.2.2.1) b).2;rintro(b|b|⟨k,b⟩);have:=f.pj g c b;omega;exact A<|(h.vk g c i r w s).2 b;have:=f.rN g k;omega;intro g n r;rcases split g n r with i|i;let t:=f.pl g n i;constructor;intro b;let⟨k,o⟩:=F _ _ (bp t.2.2.2) T.1 b;exact bp ⟨h.wt.1 o,(f.wl g n i).1 k⟩;rintro(b|⟨k,b⟩);have:=h.rN g b;omega;exact(z<|(f.wl g n i).2 b).trans<|A<|h.wt.2 k;let t:=h.pl g i r;constructor;intro b;exact bj<|(h.wl g i r).1 (p _ _ (bp t.2.2.2.1) b).2;rintro(b|⟨k,b⟩);exact A<|(h.wl g i r).2 b;have:=f.rN g b;omega;rintro c (b|⟨_,b⟩);have:=f.tE c b;have:=h.le;omega;have:=h.tE c b;have:=f.le;omega;rintro c (b|⟨_,b⟩);have:=h.rN c b;have:=f.le;omega;have:=f.rN c b;have:=h.le;omega;have:=f.le;have:=h.le;rintro g c (b|b|⟨k,b⟩);have:=f.pj g c b;omega;have:=h.pj g c b;omega;have:=f.rN g k;have:=h.tE c b;omega
def mH.Cu{w m:Z->Z->Prop}{r A u E mid C X z Y:Z}{S H R T:Z->Prop}{M U:Z->Z->Prop}{Q P:Prop}(f:mH x fP w r u E mid X z S H M Q)(B:mH x fP m r A mid C z Y R T U P):mH x fP (λg d=>w g d\/m g d\/g=A/\d=u) r u E C X Y (λe=>S e\/R e) (λe=>H e\/T e) (λh e=>M h e\/U h e) (Q\/P):=by
 let au:=f.Gb;let ar:=B.Gb;let aq:=f.LS;generalize ap:(λg d=>w g d\/m g d\/g=A/\d=u)=v;let l:∀g d,v g d↔w g d\/m g d\/g=A/\d=u:=λg d=>aK;let L:∀g d,E<=g/\g<mid->Way v g d->(E<=d/\d<mid)/\Way w g d:=by
  intro g d K c
  induction c
  exact⟨K,.refl _⟩
  next c b D=>let⟨i,k⟩:=D;rcases(l _ _).1 b with b|b|b;have:=f.src _ _ b;exact⟨⟨this.2.1,this.2.2.1⟩,k.tail b⟩;have:=B.src _ _ b;omega;omega
 let N:∀g d,mid<=g/\g<C->Way v g d->(mid<=d/\d<C)/\Way m g d\/d=u/\Way m g A:=by
  intro g d K c
  induction c
  exact bj ⟨K,.refl _⟩
  next c b D=>rcases D with⟨i,k⟩|⟨i,k⟩;rcases(l _ _).1 b with b|b|b;have:=f.src _ _ b;omega;have:=B.src _ _ b;exact bj ⟨⟨this.2.1,this.2.2.1⟩,k.tail b⟩;simp_all;subst i;rcases(l _ _).1 b with b|b|b;have:=f.src _ _ b;omega;have:=B.src _ _ b;omega;omega
 let I:∀d,Way v r d->d=r\/(E<=d/\d<mid)/\Way w r d\/(mid<=d/\d<C)/\Way m r d\/d=u/\Way m r A:=by
  intro d c
  induction c
  omega
  next c b D=>rcases D with i|⟨i,k⟩|⟨i,k⟩|⟨i,k⟩;subst i;rcases(l _ _).1 b with b|b|b;have:=f.src _ _ b;exact bp<|bj ⟨⟨this.2.1,this.2.2.1⟩,.one b⟩;have:=B.src _ _ b;exact bp<|bp<|bj ⟨⟨this.2.1,this.2.2.1⟩,.one b⟩;omega;rcases(l _ _).1 b with b|b|b;have:=f.src _ _ b;exact bp<|bj ⟨⟨this.2.1,this.2.2.1⟩,k.tail b⟩;have:=B.src _ _ b;omega;omega;rcases(l _ _).1 b with b|b|b;have:=f.src _ _ b;omega;have:=B.src _ _ b;exact bp<|bp<|bj ⟨⟨this.2.1,this.2.2.1⟩,k.tail b⟩;simp_all;subst i;rcases(l _ _).1 b with b|b|b;have:=f.src _ _ b;omega;have:=B.src _ _ b;omega;omega
 let F:∀{g d},Way w g d->Way v g d:=λc=>c.mono λ_ _ i=>(l _ _).2<|bj i;let J:∀{g d},Way m g d->Way v g d:=λc=>c.mono λ_ _ i=>(l _ _).2<|bp<|bj i;let O:∀{g},Way m g A->Way v g u:=λc=>(J c).tail<|(l _ _).2<|bp<|bp ⟨aa,aa⟩;refine⟨f.LS,q,?_,?_,?_,?_,?_,?_,c9 f.le B.le,?_,?_,?_⟩;intro g d b;rcases(l _ _).1 b with b|b|b;have:=f.src _ _ b;omega;have:=B.src _ _ b;omega;omega;intro h n o;rcases hN h z with b|b;let⟨i,k,ak,am⟩:=f.pl h n b;omega;let⟨i,k,ak,am⟩:=B.pl h b o;omega;intro e y s;rcases hN e z with b|b;let G:=f.pl e y b;constructor;intro c;rcases I _ c with i|⟨_,k⟩|⟨i,_⟩|⟨i,_⟩;omega;exact bj<|(f.wf e y b).1 k;omega;omega;rintro(c|c);exact F<|(f.wf e y b).2 c;have:=B.tE e c;omega;let G:=B.pl e b s;constructor;intro c;rcases I _ c with i|⟨i,_⟩|⟨_,k⟩|⟨i,_⟩;omega;omega;exact bp<|(B.wf e b s).1 k;omega;rintro(c|c);have:=f.tE e c;omega;exact J<|(B.wf e b s).2 c;constructor;intro c;rcases I _ c with i|⟨_,k⟩|⟨i,_⟩|⟨_,k⟩;omega;exact bj<|f.wt.1 k;omega;exact bp<|B.wt.1 k;rintro(c|c);exact F<|f.wt.2 c;exact O<|B.wt.2 c;intro h e n o y s;rcases hN h z with b|b<;>rcases hN e z with t|t;let p:=f.pl h n b;constructor;intro c;exact bj<|(f.vk h e n b y t).1 (L _ _ p.2.2.2 c).2;rintro(c|c);exact F<|(f.vk h e n b y t).2 c;have:=B.pj h e c;omega;let p:=f.pl h n b;let G:=B.pl e t s;constructor;grind;rintro(c|c);have:=f.pj h e c;omega;have:=B.pj h e c;omega;let p:=B.pl h b o;let G:=f.pl e y t;constructor;grind;rintro(c|c);have:=f.pj h e c;omega;have:=B.pj h e c;omega;let p:=B.pl h b o;let G:=B.pl e t s;constructor;intro c;rcases N _ _ p.2.2.2 c with⟨_,k⟩|⟨i,_⟩;exact bp<|(B.vk h e b o t s).1 k;omega;rintro(c|c);have:=f.pj h e c;omega;exact J<|(B.vk h e b o t s).2 c;intro h n o;rcases hN h z with b|b;let p:=f.pl h n b;constructor;intro c;exact bj<|(f.wl h n b).1 (L _ _ p.2.2.2 c).2;rintro(c|c);exact F<|(f.wl h n b).2 c;have:=B.rN h c;omega;let p:=B.pl h b o;constructor;intro c;rcases N _ _ p.2.2.2 c with⟨i,_⟩|⟨_,k⟩;omega;exact bp<|(B.wl h b o).1 k;rintro(c|c);have:=f.rN h c;omega;exact O<|(B.wl h b o).2 c;have:=f.le;have:=B.le;rintro e (c|c);have:=f.tE e c;omega;have:=B.tE e c;omega;have:=f.le;have:=B.le;rintro e (c|c);have:=f.rN e c;omega;have:=B.rN e c;omega;have:=f.le;have:=B.le;rintro h e (c|c);have:=f.pj h e c;omega;have:=B.pj h e c;omega
def mH.blank{c b e:Z}(g:c<b)d:mH x fP (d/\·=c/\·=b) c b b (b+1) e e (λ_=>hP) (λ_=>hP) (λ_ _=>hP) d:=by
 refine⟨g,q,?_,?_,?_,?_,?_,?_,bv _,?_,?_,?_⟩;omega;omega;omega;constructor;intro h;cases h;omega
 next _ i=>grind
 intro f;exact .one ⟨f,aa,aa⟩;omega;omega;simp;simp;simp
def mH.gM{e b c:Z}(o:e<b)(k:x c=b)(l:fP c=b+1):mH x fP (·=e/\·=b) e (b+1) b (b+2) c (c+1) (·=c) (·=c) (λ_ _=>hP) hP:=by
 let p:∀d,Way (·=e/\·=b) e d->d=e\/d=b:=by
  intro d g;cases g;omega
  next _ h=>omega
 let i:∀d,Way (·=e/\·=b) (b+1) d->d=b+1:=by
  intro d g
  induction g
  rfl
  next _ h r=>omega
 refine⟨o,q,?_,?_,?_,?_,?_,?_,B6 _,?_,?_,?_⟩;omega;grind;intro f m n;obtain rfl:f=c:=q;exact⟨λ_=>aa,λ_=>.one ⟨aa,k⟩⟩;grind;grind;intro f m n;obtain rfl:f=c:=q;rw[l];exact⟨λ_=>aa,λ_=>.refl _⟩;omega;omega;simp
def mH.star{p:Z->Z->Prop}{s u e y I J:Z}{C F:Z->Prop}{H:Z->Z->Prop}{O:Prop}(P:s<e)(B:mH x fP p e u (e+2) y I J C F H O):mH x fP (λd b=>d=s/\b=e\/d=e/\b=e+1\/p d b\/d=u/\b=e) s (e+1) e y I J C F (λi k=>H i k\/F i/\C k) dW:=by
 let T:=B.Gb;generalize S:(λd b=>d=s/\b=e\/d=e/\b=e+1\/p d b\/d=u/\b=e)=r;let t:∀d b,r d b↔d=s/\b=e\/d=e/\b=e+1\/p d b\/d=u/\b=e:=λd b=>aK;let A:∀d b,d=e\/e+2<=d/\d<y->Way r d b->(e+2<=b/\b<y)/\(Way p d b\/Way p d u/\Way p e b)\/(b=e\/b=e+1)/\(d=e\/Way p d u):=by
  intro d b z f
  induction f
  rcases z with z|z;omega;exact bj ⟨z,bj<|.refl _⟩
  next f g D=>rcases(t _ _).1 g with g|g|g|g;omega;grind;let G:=B.src _ _ g;refine bj ⟨⟨G.2.1,G.2.2.1⟩,?_⟩;rcases D with⟨_,c⟩|⟨h,c⟩;rcases c with c|⟨c,w⟩;exact bj<|c.tail g;exact bp ⟨c,w.tail g⟩;rcases h with h|h;subst h;rcases c with c|c;subst c;exact bj<|.one g;exact bp ⟨c,.one g⟩;omega;grind
 let N:∀b,Way r s b->b=s\/Way r e b:=by
  intro b f
  induction f
  omega
  next f g D=>rcases D with h|h;subst h;rcases(t _ _).1 g with v|v|v|v;obtain⟨_,rfl⟩:=v;exact bp<|.refl _;omega;have:=B.src _ _ v;omega;omega;exact bp<|h.tail g
 let cA:∀{d b},Way p d b->Way r d b:=λf=>f.mono λ_ _ h=>(t _ _).2<|bp<|bp<|bj h;let K:r s e:=(t _ _).2<|bj ⟨aa,aa⟩;let L:r e (e+1):=(t _ _).2<|bp<|bj ⟨aa,aa⟩;let M:r u e:=(t _ _).2<|bp<|bp<|bp ⟨aa,aa⟩;refine⟨P,q,?_,?_,?_,?_,?_,?_,B.le,B.tE,B.rN,?_⟩;intro d b g;rcases(t _ _).1 g with g|g|g|g;omega;omega;have:=B.src _ _ g;omega;omega;intro i l m;let⟨h,c,w,R⟩:=B.pl i l m;omega;intro k n o;let Q:=B.pl k n o;constructor;intro f;rcases N _ f with h|h;omega;rcases A _ _ (bj aa) h with⟨_,c|⟨_,c⟩⟩|⟨c,_⟩;exact(B.wf k n o).1 c;exact(B.wf k n o).1 c;omega;intro f;exact .head K<|cA<|(B.wf k n o).2 f;exact⟨λ_=>b5,λ_=>.head K<|.one L⟩;intro i k l m n o;let E:=B.pl i l m;let Q:=B.pl k n o;constructor;intro f;rcases A _ _ (bp E.2.2.2) f with⟨_,c|⟨c,w⟩⟩|⟨c,_⟩;exact bj<|(B.vk i k l m n o).1 c;exact bp ⟨(B.wl i l m).1 c,(B.wf k n o).1 w⟩;omega;rintro(f|⟨h,c⟩);exact cA<|(B.vk i k l m n o).2 f;exact(cA<|(B.wl i l m).2 h).trans<|.head M<|cA<|(B.wf k n o).2 c;intro i l m;let E:=B.pl i l m;constructor;intro f;rcases A _ _ (bp E.2.2.2) f with⟨c,_⟩|⟨_,c⟩;omega;rcases c with c|c;omega;exact(B.wl i l m).1 c;intro f;exact(cA<|(B.wl i l m).2 f).trans<|.head M<|.one L;rintro i k (f|⟨h,c⟩);exact B.pj i k f;exact⟨B.rN i h,B.tE k c⟩
end
def aW.ind{P:aW->Prop}(d:∀b,(∀c∈b.a3,P c)->P b):∀b,P b:=by
 let g:∀R,∀b,SizeOf.sizeOf b<R->P b:=by
  intro R
  induction R
  omega
  next R f=>
   refineλb he=>d b λc e=>f c ?_
   have:SizeOf.sizeOf c<SizeOf.sizeOf b:=by cases b;have:=List.sizeOf_lt_of_mem e;simp[aW.a3] at this;simp;omega
   omega
 exactλb=>g _ b<|yk _
def ly{H:Y aW}{b:Z}(c:b<U H):(hh H)[b]?=W (cW (y H b av)):=by rw[amt c,xi]
theorem dL{c:Type}{H:Y c}{b:Z}{I:c}:b<U H->y H b I∈H:=by simp_all
def oN(b:aW):Prop:=(1<=b.c0/\b.c0<=6)/\(b.c0<4->b.a3=[])/\(b.c0=6->U b.a3=1/\0<=b.min/\b.min<=50/\(b.max=-1\/b.min<=b.max/\b.max<=50))/\U b.a3<=3000/\(∀d∈b.set,0<=d.1/\d.1<=d.2/\d.2<=255)/\U b.set<=256/\(∀c,0<c->c<U b.set->(y b.set (c-1) av).2+2<=(y b.set c av).1)/\(b.c0≠3->b.set=[])/\(b.c0=3->b.set≠[])/\(b.c0≠6->b.min=0/\b.max=0)/\(b.c0=4\/b.c0=5->2<=U b.a3)
mutual
def e1:aW->Prop|.mk B J b c H=>oN (.mk B J b c H)/\Iw H
def Iw:Y aW->Prop|[]=>dW|b::H=>e1 b/\Iw H
end
def acE:∀{H:Y aW},Iw H↔∀b∈H,e1 b|[]=>by simp[Iw]|b::H=>by rw[Iw,acE];simp
def p8{b:aW}:e1 b↔oN b/\∀c∈b.a3,e1 c:=by cases b;rw[e1,acE];rfl
mutual
def dB:aW->Z|.mk B _ c b H=>if B=3 then 1 else if B=6 then nK (eO H*(if b=-1 then aG (c+1) else aG b)) 2001 else nK (eO H) 2001
def eO:Y aW->Z|[]=>0|b::H=>dB b+eO H
end
mutual
def ou:aW->X|.mk B _ b _ H=>if B=2 then ag else if B=4 then vF H else if B=5 then pR H else if B=6 then aH (b=0)||pR H else ae
def vF:Y aW->X|[]=>ag|b::H=>ou b&&vF H
def pR:Y aW->X|[]=>ae|b::H=>ou b||pR H
end
structure bx where
 aF:Y (Y Z)
 gM:Y L
 gQ:Y Z
 aJ:Y a6
 gk:Y Z
def kf(J:Y (L×L)):a6:=J.foldl (λc b=>c.add (aG b.1)<|aG b.2) cF
def bx.bX(R:bx):bx:={R with aF:=R.aF++[[]],gM:=R.gM++[-1]}
def bx.dD(R:bx)(b c:Z):bx:={R with aF:=aR R.aF b (y R.aF b []++[c])}
def bx.wh(R:bx)(x b:Z)(J:a6):bx:={R with gM:=aR R.gM x (U R.aJ:Z),gQ:=R.gQ++[b],aJ:=R.aJ++[J],gk:=R.gk++[x]}
def h8(c:bx->Z->bx×Z):Z->bx->Z->bx×Z|0,R,b=>(R,b)|B+1,R,b=>h8 c B (c R b).1 (c R b).2
def xM(c:bx->Z->bx×Z)(R:bx)(b:Z):bx:=(c (R.bX.dD b<|U R.aF) b).1.dD (c (R.bX.dD b<|U R.aF) b).2<|U R.aF
def eM(c:bx->Z->bx×Z):Z->bx->Z->bx×Z|0,R,b=>(R,b)|B+1,R,b=>eM c B (xM c R b)<|U R.aF
def lC(R:bx)(b:Z):bx:=(R.bX.bX.dD b<|U R.aF).dD (U R.aF)<|U R.aF+1
def Jj(c:bx->Z->bx×Z)(R:bx)(b:Z):bx:=(c (lC R b)<|U R.aF).1.dD (c (lC R b)<|U R.aF).2<|U R.aF
def qc(b:bx->Z->bx×Z)(c e:L)(R:bx)(d:Z):bx×Z:=if e=-1 then(Jj b (h8 b (aG c) R d).1 (h8 b (aG c) R d).2,(h8 b (aG c) R d).1.aF.length+1)
 else eM b (aG<|e-c) (h8 b (aG c) R d).1 (h8 b (aG c) R d).2
mutual
def gV:aW->bx->Z->bx×Z
|.mk B J c d H,R,b=>
 if dB (.mk B J c d H)=0 then((if ou (.mk B J c d H) then R.bX.dD b (U R.aF) else R.bX),U R.aF)
 else if B=3 then((R.bX.bX.dD b<|U R.aF).wh (U R.aF) (U R.aF+1)<|kf J,U R.aF+1)
 else if B=4 then lN H R b
 else if B=5 then(mg H R.bX b<|U R.aF,U R.aF)
 else if B=6 then yI H c d R b
 else(R.bX.dD b<|U R.aF,U R.aF)
def lN:Y aW->bx->Z->bx×Z|[],R,b=>(R,b)|c::H,R,b=>lN H (gV c R b).1 (gV c R b).2
def mg:Y aW->bx->Z->Z->bx|[],R,_,_=>R|c::H,R,b,d=>mg H ((gV c R b).1.dD (gV c R b).2 d) b d
def yI:Y aW->L->L->bx->Z->bx×Z|[],_,_,R,b=>(R,b)|e::_,c,d,R,b=>qc (gV e) c d R b
end
structure bZ where
 first:Y Z
 last:Y Z
 empty:X
 none:X
structure bg where
 aJ:Y (Y (L×L))
 cn:Y (Y Z)
def kP(d:Y (Y Z))(e f:Y Z):Y (Y Z):=e.foldl (λb c=>aR b c<|ee (y b c []) f) d
def qP(b c:bZ):bZ:=⟨if b.empty then ee b.first c.first else b.first,if c.empty then ee b.last c.last else c.last,b.empty&&c.empty,b.none||c.none⟩
def p3(b:bg)(c d:bZ):bg:=⟨b.aJ,kP b.cn c.last d.first⟩
def bZ.lZ(J:bZ):bZ:={J with empty:=ag}
def kO(c:bg->bg×bZ):Z->bg->bZ->bg×bZ|0,b,M=>(b,M)|B+1,b,M=>kO c B (p3 (c b).1 M (c b).2)<|qP M (c b).2
def pt(c:bg->bg×bZ):Z->bg->bZ->bg×bZ|0,b,M=>(b,M)|B+1,b,M=>pt c B (p3 (c b).1 M (c b).2.lZ)<|qP M (c b).2.lZ
def aaZ(b:bg)(J:bZ):bg:=⟨b.aJ,kP b.cn J.last J.first⟩
def qb(b:bg->bg×bZ)(c e:L)(d:bg):bg×bZ:=if e=-1 then(p3 (aaZ (b (kO b (aG c) d ⟨[],[],ag,ae⟩).1).1 (b (kO b (aG c) d ⟨[],[],ag,ae⟩).1).2) (kO b (aG c) d ⟨[],[],ag,ae⟩).2 (b (kO b (aG c) d ⟨[],[],ag,ae⟩).1).2.lZ,qP (kO b (aG c) d ⟨[],[],ag,ae⟩).2 (b (kO b (aG c) d ⟨[],[],ag,ae⟩).1).2.lZ)
 else pt b (aG<|e-c) (kO b (aG c) d ⟨[],[],ag,ae⟩).1 (kO b (aG c) d ⟨[],[],ag,ae⟩).2
mutual
def eg:aW->bg->bg×bZ
|.mk B J c d H,b=>
 if dB (.mk B J c d H)=0 then(b,⟨[],[],ou<|.mk B J c d H,ae⟩)
 else if B=3 then(⟨b.aJ++[J],b.cn++[[]]⟩,⟨[U b.aJ],[U b.aJ],ae,ae⟩)
 else if B=4 then o_ H b ⟨[],[],ag,ae⟩
 else if B=5 then qy H b ⟨[],[],ae,ae⟩
 else if B=6 then w4 H c d b
 else(b,⟨[],[],ag,ae⟩)
def o_:Y aW->bg->bZ->bg×bZ|[],b,M=>(b,M)|c::H,b,M=>o_ H (p3 (eg c b).1 M (eg c b).2)<|qP M (eg c b).2
def qy:Y aW->bg->bZ->bg×bZ|[],b,M=>(b,M)|c::H,b,M=>qy H (eg c b).1 ⟨ee M.first (eg c b).2.first,ee M.last (eg c b).2.last,M.empty||(eg c b).2.empty,ae⟩
def w4:Y aW->L->L->bg->bg×bZ|[],_,_,b=>(b,⟨[],[],ag,ae⟩)|e::_,c,d,b=>qb (eg e) c d b
end
def ov(b:aW):Z:=if b.c0=3 then 1 else if b.c0=6 then nK (eO b.a3*(if b.max=-1 then aG (b.min+1) else aG b.max)) 2001 else nK (eO b.a3) 2001
theorem xc b:dB b=ov b:=by cases b;rfl
theorem Qs b:dB b<=2001:=by grind[xc,ov,Nat.min_le_right]
def Xt{H:Y aW}{b:Z}(d:b<U H):eO (am (b+1) H)=eO (am b H)+dB (y H b av):=by
 induction H generalizing b
 trivial
 next c H e=>
  cases b;simp[eO,Ea,dB]
  next b=>grind[eO,dB,av]
def Qt H:eO H<=2001*U H:=by
 induction H
 trivial
 next b H c=>grind[eO,List.length_cons,Qs]
def rC(b:aW):X:=if b.c0=2 then ag else if b.c0=4 then vF b.a3 else if b.c0=5 then pR b.a3 else if b.c0=6 then aH (b.min=0)||pR b.a3 else ae
def W4 b:ou b=rC b:=by cases b;rfl
theorem vM{H:Y aW}{b:Z}:b<U H->ay b H=y H b av::ay (b+1) H:=by simp_all
def Fe{H:Y aW}(b:U H=1):H=[y H 0 av]:=by obtain⟨c,rfl⟩:=JY.1 b;rfl
def T5:∀c,e1 c->bh 173 [cW c] (l (dB c)):=by
 refine aW.ind λc C he=>?_;let⟨⟨⟨H,I⟩,J,t,L,M,N⟩,x⟩:=p8.1 he;let G:=Qt c.a3;rw[xc];refine g3.of_wp (K:=hX) (m:=5000) [] (λ_=>(0,0)) ⟨[(0,cW c)],[],[]⟩ gm br h7 ⟨func173,ba,aa⟩ aa aa aa aa λp v B=>?_;let F:kE bL hX p fT _ []:=⟨gm,br,v,h7,B⟩;refine e9 (U c.a3) (λd=>⟨[(1,b 1),(3,l<|nK (eO<|am d c.a3) 2001),(4,l d)],[(1,_)],[]⟩) (λd k=>?_) .r;apply f<;>intro w
 .let n:d<U c.a3:=by rw[io] at w;omega
  let D:=Xt n;let E:=Qs<|y c.a3 d av;let o:nK (eO<|am d c.a3) 2001<=2001:=ahL _ _;refine bB d (cW<|y c.a3 d av) ?_ (k:=ly n);refine aT ?_ (g:=C _ (dL n)<|x _<|dL n);refine aY ?_;refine Bq (nK (eO<|am (d+1) c.a3) 2001) ?_ (s:=aK);refine aY ?_;exact a4 (d+1) (bA:=.r)
 obtain rfl:d=U c.a3:=by grind[io]
 rw[iJ];let o:nK (eO c.a3) 2001<=2001:=ahL _ _;apply f<;>intro e
 .exact aL (s:=by rw[ov,af e];rfl)
 refine i4 ?_;apply f<;>intro h
 .cases t h.1;let z:nK (eO c.a3) 2001*aG (c.min+1)<=2001*51:=B9 o q;refine aY ?_;refine Br (nK (eO c.a3) 2001*aG (c.min+1)) ?_ (s:=aK);refine Bq (nK (eO c.a3*aG (c.min+1)) 2001) ?_ (s:=aK);exact aL (s:=by rw[ov,ad e,af h.1,af h.2];rfl)
 apply f<;>intro i
 .cases t i;let A:¬c.max=-1:=λu=>h ⟨i,u⟩;let z:nK (eO c.a3) 2001*aG c.max<=2001*50:=B9 o q;refine Br (nK (eO c.a3) 2001*aG c.max) ?_ (s:=aK);refine Bq (nK (eO c.a3*aG c.max) 2001) ?_ (s:=aK);exact aL (s:=by rw[ov,ad e,af i,ad A];rfl)
 exact aL (s:=by rw[ov,ad e,ad i];rfl)
def auT:∀c,e1 c->bh 227 [cW c] (aV (ou c)):=by
 refine aW.ind λc v he=>?_;let⟨⟨⟨F,G⟩,H,z,I,J,L⟩,t⟩:=p8.1 he;rw[W4];refine g3.of_wp (K:=hX) (m:=5000) [] (λ_=>(0,0)) ⟨[(0,cW c)],[],[]⟩ gm br h7 ⟨func227,ba,aa⟩ aa aa aa aa λp A bu=>?_;let B:kE bL hX p fT _ []:=⟨gm,br,A,h7,bu⟩;apply f<;>intro h
 .exact aL (s:=by rw[rC,af h];rfl)
 apply f<;>intro i
 .refine gN (U c.a3) (λd=>vF c.a3=vF (ay d c.a3)) (λd=>⟨[(1,b 1),(3,l d)],[(1,_)],[]⟩) (λd k=>?_) aa .r;apply f<;>intro w
  .let e:d<U c.a3:=by rw[io] at w;omega
   refine bB d (cW<|y c.a3 d av) ?_ (k:=ly e);refine aT ?_ (g:=v _ (dL e)<|t _<|dL e);apply f<;>intro C
   .exact aL (s:=by rw[rC,ad h,af i,k.2,vM e,vF,show ou (y c.a3 d av)=ae by simp_all];rfl)
   refine aY ?_;exact a4 (d+1) ⟨q,by grind[vM,vF,ou,av]⟩ (bA:=.r)
  exact aL (s:=by rw[io] at w;rw[rC,ad h,af i,k.2,kA q];rfl)
 apply f<;>intro n
 .refine gN (U c.a3) (λd=>pR c.a3=pR (ay d c.a3)) (λd=>⟨[(1,b 1),(4,l d)],[(1,_)],[]⟩) (λd k=>?_) aa .r;apply f<;>intro x
  .let e:d<U c.a3:=by rw[io] at x;omega
   refine bB d (cW<|y c.a3 d av) ?_ (k:=ly e);refine aT ?_ (g:=v _ (dL e)<|t _<|dL e);apply f<;>intro D
   .exact aL (s:=by rw[rC,ad h,ad i,af n,k.2,vM e,pR,show ou (y c.a3 d av)=ag by omega];rfl)
   refine aY ?_;exact a4 (d+1) ⟨q,by grind[vM,pR,ou,av]⟩ (bA:=.r)
  exact aL (s:=by rw[io] at x;rw[rC,ad h,ad i,af n,k.2,kA q];rfl)
 apply f<;>intro o
 .let u:0<U c.a3:=by have:=(z o).1;omega
  apply cy;intro E;refine jV 0 (cW<|y c.a3 0 av) ?_ (k:=ly u) (bu:=ba);refine ch ?_ (g:=v _ (dL u)<|t _<|dL u);exact aa;exact aL (s:=by rw[rC,ad h,ad i,ad n,af o,Fe (z o).1,pR,pR,U2];rfl)
 exact aL (s:=by rw[rC,ad h,ad i,ad n,ad o];rfl)
def eE{H:Y Z}{b:Z}:b<U H->(ab l H)[b]?=W (l (y H b 0)):=by simp_all
theorem Js{H:Y Z}{b:Z}:b<U H->am (b+1) H=am b H++[y H b 0]:=by simp_all
theorem CO{H:Y Z}{b:Z}:b<U H->ay b H=y H b 0::ay (b+1) H:=by simp_all
theorem ayn{d e:Y Z}{b c:Z}(f:b<c):ee (b::d) (c::e)=b::ee d (c::e):=by rw[ee,af f]
theorem ayo{d e:Y Z}{b c:Z}(g:¬b<c)(f:c<b):ee (b::d) (c::e)=c::ee (b::d) e:=by rw[ee,ad g,af f]
def aym{d e:Y Z}{b c:Z}:¬b<c->¬c<b->ee (b::d) (c::e)=b::ee d e:=by simp_all[ee,ad]
def Gg c d(D:U c<=1000000)(E:U d<=1000000):bh 177 [.al 1 (ab l c),.al 1 (ab l d)] (.al 1 (ab l (ee c d))):=by
 refine bs func177 [] λp C=>?_;apply a1.eK 5 1 3 [5] ai;refine c8 (Y Z×Z×Z) (λe=>⟨[(0,_),(1,_),(6,l e.2.1),(7,l e.2.2),(5,.a 5 0<|U<|ab l e.1)],[(5,.j 1 3<|ab l e.1)],[]⟩) (λe=>e.2.1<=U c/\e.2.2<=U d/\U e.1<=e.2.1+e.2.2/\ee c d=e.1++ee (ay e.2.1 c) (ay e.2.2 d)) (λe=>U c-e.2.1+(U d-e.2.2)) ([],0,0) (λ⟨M,b,B⟩ ⟨n,o,A,g⟩=>?_) ⟨dJ _,dJ _,bv _,aa⟩ .r;dsimp at n o A g⊢;refine gu ?_;apply f<;>intro F
 .refine fA ?_;apply cy;intro I;apply cL;intro J;refine jV b (l<|y c b 0) ?_ (k:=eE q);refine jV B (l<|y d B 0) ?_ (k:=eE q);exact aa;exact aa;apply f<;>intro G
  .let h:b<U c:=q;let w:U (M++[y c b 0])<=b+1+B:=by rw[cd,ri];omega
   let k:b+1<=U c:=h;let s:ee c d=M++[y c b 0]++ee (ay (b+1) c) (ay B d):=by rw[g,CO h,eS];rcases hN B (U d) with i|i;grind[CO,ayn];grind[List.drop_eq_nil_of_le,ayk]
   refine bB b (l<|y c b 0) ?_ (k:=eE q);refine cp ?_;refine eB (ab l<|M++[y c b 0]) ?_ (aU:=ao) (bl:=bi);apply e7<|b+1;exact a4 (M++[y c b 0],b+1,B) ⟨k,o,w,s⟩ bi .r
  let m:B<U d:=q;let i:B+1<=U d:=m;refine fA ?_;apply cy;intro K;refine jV B (l<|y d B 0) ?_ (k:=eE q);refine jV b (l<|y c b 0) ?_ (k:=eE q);exact aa;apply f<;>intro H
  .let x:U (M++[y d B 0])<=b+(B+1):=by rw[cd,ri];omega
   let t:ee c d=M++[y d B 0]++ee (ay b c) (ay (B+1) d):=by rw[g,CO m,eS];rcases hN b (U c) with v|v;grind[CO,ayo];grind[List.drop_eq_nil_of_le,OE]
   refine bB B (l<|y d B 0) ?_ (k:=eE q);refine cp ?_;refine eB (ab l<|M++[y d B 0]) ?_ (aU:=ao) (bl:=bi);apply e7<|B+1;exact a4 (M++[y d B 0],b,B+1) ⟨n,i,x,t⟩ bi .r
  let h:b<U c:=q;let k:b+1<=U c:=h;let z:U (M++[y c b 0])<=b+1+(B+1):=by rw[cd,ri];omega
  let u:ee c d=M++[y c b 0]++ee (ay (b+1) c) (ay (B+1) d):=by rw[g,CO h,CO m,eS,aym q q];rfl
  refine bB b (l<|y c b 0) ?_ (k:=eE q);refine cp ?_;refine eB (ab l<|M++[y c b 0]) ?_ (aU:=ao) (bl:=bi);apply e7<|b+1;apply e7<|B+1;exact a4 (M++[y c b 0],b+1,B+1) ⟨k,i,z,u⟩ bi .r
 rw[kA q,kA q,OE,gv] at g;rw[g];exact gq 5 aL
def kI(J:Y (L×L)):V:=.al 2<|ab hs J
def pY(R:Z):V:=b2 [.a 5000 0 R,.a 5001 0 R,aV ae]
def AW{H:Y (Y Z)}{b:Z}(c:b<U H):(ab ca H)[b]?=W (ca (y H b [])):=by rw[db,dX,cT c];rfl
def fJ(H:Y Z):Prop:=jC H/\∀b∈H,b<2000
def fJ.len{H:Y Z}(b:fJ H):U H<=2000:=by have:=Z4 (pn:=0) (R:=2000) b.1 λd c=>⟨dJ _,b.2 d c⟩;omega
theorem fJ.nil:fJ []:=⟨Eg,λ_ b=>cg b kB⟩
def fJ.un{b c:Y Z}(d:fJ b)(e:fJ c):fJ (ee b c):=⟨xt _ _ d.1 e.1,λf g=>((pp _ _ _).1 g).elim (d.2 f)<|e.2 f⟩
theorem fJ.one{R:Z}(c:R<2000):fJ [R]:=⟨Gv _ _,λd b=>by rw[eu] at b;omega⟩
def o5(b:Y (Y Z)):Prop:=∀c,fJ<|y b c []
theorem xl{i:Type}{H:Y i}{d b:Z}{h g:i}:y (aR H d h) b g=if d=b/\b<U H then h else y H b g:=by rw[dX,dX,qo];by_cases f:d=b;subst f;by_cases c:d<U H;rw[af aa,af c,af ⟨aa,c⟩];rfl;rw[af aa,ad c,ad λe=>c e.2];rw[zV q];rw[ad f,ad λe=>f e.1]
theorem o5.set{b:Y (Y Z)}(d:o5 b){H:Y Z}(c:fJ H)e:o5 (aR b e H):=by intro f;rw[xl];split;exact c;exact d f
def o5.link{g:Y Z}(e:fJ g):∀c{d:Y (Y Z)},o5 d->o5 (kP d c g)|[],_,b=>b|f::c,_,b=>o5.link e c<|b.set ((b f).un e) f
def aaY{d:Y Z}:∀c b,U (kP b c d)=U b|[],b=>aa|e::c,b=>by show U (kP (aR b e _) c d)=_;rw[aaY c];simp
def aa0{Ok:Y V}{cn:Y (Y Z)}{t jN:Y Z}{R:Z}(s:R=U cn)(v:∀A∈t,A<U cn)(B:U cn<=2000)(w:o5 cn)(n:fJ jN)(x:fJ t):dF 229 [b 6000,.al 1 (ab l t),.al 1 (ab l jN)] [(6000,ah 292 (pY R)),(5000,.j 1 166 Ok),(5001,.j 1 50 (ab ca cn))] (cv []) [(6000,ah 292 (pY R)),(5000,.j 1 166 Ok),(5001,.j 1 50 (ab ca (kP cn t jN)))]:=by
 refine c4 func229 [] λG p C=>?_;let E:=x.len;refine c8 (Z×Y (Y Z)) (λd=>⟨[(0,_),(1,_),(2,_),(6,l d.1)],[(5000,.j 1 166 Ok),(5001,.j 1 50<|ab ca d.2),(6000,ah 292<|pY R)],[]⟩) (λd=>d.1<=U t/\U d.2=R/\o5 d.2/\kP cn t jN=kP d.2 (ay d.1 t) jN) (λd=>U t-d.1) (0,cn) (λ⟨c,e⟩ ⟨z,o,h,m⟩=>?_) ⟨dJ _,bQ s,w,aa⟩ .r;dsimp at z o h m⊢;apply f<;>intro D
 .let i:c<U t:=q;let u:y t c 0<U e:=by rw[o,s];exact v _<|dL i
  let F:=((h<|y t c 0).un n).len;refine ei ?_
  iterate 2 apply bw λ_=>jV c (l<|y t c 0) aa (k:=eE i)
  apply bw λ_=>cE (y t c 0) aa (k:=q);apply bw λ_=>fl (ca<|y e (y t c 0) []) aa (k:=AW u);apply bw λ_=>ch aa (g:=Gg (y e (y t c 0) []) jN (by have:=(h<|y t c 0).len;omega) (by have:=n.len;omega));apply bw λ_=>cE (y t c 0) aa (k:=q);refine uk (ab ca<|aR e (y t c 0)<|ee (y e (y t c 0) []) jN) (ca<|y e (y t c 0) []) (ca<|ee (y e (y t c 0) []) jN) ?_ (k:=AW u) (aU:=by rw[hl]);apply jz [];refine aY ?_;exact a4 (c+1,aR e (y t c 0)<|ee (y e (y t c 0) []) jN) ⟨i,by rw[nC];exact o,h.set ((h _).un n) _,by rw[m,CO i];rfl⟩ (by dsimp;omega) .r
 rw[kA q] at m;rw[m];exact cJ
def vQ(J:bZ):V:=b2 [ca J.first,ca J.last,aV J.empty,aV J.none]
def KB(J:bZ):Prop:=fJ J.first/\fJ J.last
def Mm k e c d R(o:R=U e)(l:∀r∈c.last,r<U e)(m:U e<=2000)(n:o5 e)(h:KB c)(i:KB d):dF 228 [b 6000,vQ c,vQ d] [(6000,ah 292 (pY R)),(5000,.j 1 166 k),(5001,.j 1 50 (ab ca e))] (vQ (qP c d)) [(6000,ah 292 (pY R)),(5000,.j 1 166 k),(5001,.j 1 50 (ab ca (kP e c.last d.first)))]:=by
 refine c4 func228 [] λA p t=>?_;let w:=h.1.len;let x:=h.2.len;let y:=i.1.len;let z:=i.2.len;refine bG [(6000,6000),(5000,5000),(5001,5001)] ?_ (g:=aa0 o l m n i.1 h.2);refine i4 ?_;refine gu ?_;apply f<;>intro u
 focus refine aT ?_ (g:=Gg c.first d.first q q)
 all_goals
  apply f<;>intro v
  focus refine aT ?_ (g:=Gg c.last d.last q q)
  all_goals exact iE br (s:=by simp[qP, *];cases c.empty<;>cases c.none<;>rfl)
def lq(R:bx)(b c:Z):Prop:=c∈y R.aF b []
structure rt(R:bx):Prop where
 pl:U R.gM=U R.aF
 fP:U R.gQ=U R.aJ
 gk:U R.gk=U R.aJ
 Jt:∀T w,lq R T w->w<U R.aF
 KK:∀v<U R.gk,y R.gk v 0<U R.aF
 KR:∀v<U R.gQ,y R.gQ v 0<U R.aF
 FR:∀T v:Z,y R.gM T (-1)=(v:L)↔v<U R.gk/\y R.gk v 0=T
 neg:∀T, -1<=y R.gM T (-1)
structure Al(R Dn:bx):Prop where
 aF:U R.aF<=U Dn.aF
 gk:R.gk<+:Dn.gk
 fP:R.gQ<+:Dn.gQ
def Kl(x fP:Z->Z)(R:bx):Prop:=(∀b<U R.gk,x b=y R.gk b 0)/\∀b<U R.gQ,fP b=y R.gQ b 0
def adJ{d:Type}{H m:Y d}(e:H<+:m){c:d}{b:Z}:b<U H->y m b c=y H b c:=by obtain⟨f,rfl⟩:=e;grind
theorem Al.trans{c d e:bx}(b:Al c d)(B:Al d e):Al c e:=⟨c9 b.aF B.aF,b.gk.trans B.gk,b.fP.trans B.fP⟩
def Kl.mono{x fP:Z->Z}{R e:bx}(c:Al R e)(B:Kl x fP e):Kl x fP R:=⟨λd b=>b0 (B.1 d<|jZ b c.gk.length_le)<|adJ c.gk b,λd b=>b0 (B.2 d<|jZ b c.fP.length_le)<|adJ c.fP b⟩
theorem HG{f:Type}{H:Y f}{d b:Z}{e c:f}:y (aR H d e) b c=if d=b/\b<U H then e else y H b c:=by grind
def y5{d:Type}{H m:Y d}{b:Z}{c:d}:y (H++m) b c=if b<U H then y H b c else y m (b-U H) c:=by grind
theorem Hm{R:bx}{b c:Z}:lq R.bX b c↔lq R b c:=by unfold lq bx.bX;grind
theorem CU{R:bx}{b e:Z}(f:b<U R.aF)c d:lq (R.dD b e) c d↔lq R c d\/c=b/\d=e:=by unfold lq bx.dD;grind
def rO{R:bx}:U R.bX.aF=U R.aF+1:=by simp[bx.bX]
theorem rP{R:bx}{b c:Z}:(R.dD b c).aF.length=U R.aF:=by simp[bx.dD]
def Dt{R:bx}(b:rt R):rt R.bX:=by refine⟨by simp[bx.bX,b.pl],b.fP,b.gk,λc g f=>?_,λd e=>?_,λd e=>?_,λc d=>?_,λc=>?_⟩;rw[rO];exact z3<|b.Jt c g<|Hm.1 f;rw[rO];exact z3<|b.KK d e;rw[rO];exact z3<|b.KR d e;show y (R.gM++[-1]) c _=_↔d<U R.gk/\y R.gk d 0=c;rw[<-b.FR c d,y5];grind;show-1<=y (R.gM++[-1]) c _;rw[y5];split;exact b.neg c;grind
def Bz{R:bx}(b:rt R){e g:Z}(l:e<U R.aF)(m:g<U R.aF):rt (R.dD e g):=by refine⟨by rw[rP];exact b.pl,b.fP,b.gk,λh i k=>?_,λd c=>?_,λd c=>?_,b.FR,b.neg⟩;rw[rP];rcases(CU l h i).1 k with f|f;exact b.Jt h i f;omega;rw[rP];exact b.KK d c;rw[rP];exact b.KR d c
def Hq{R:bx}:Al R R.bX:=⟨by simp[rO,B6],D8 _,D8 _⟩
def AQ{R:bx}{b c:Z}:Al R (R.dD b c):=⟨by simp[rP,bv],D8 _,D8 _⟩
def Sg{d:Y Z}:∀c b,U (kP b c d)=U b|[],b=>aa|e::c,b=>by show U (kP _ c d)=_;rw[Sg c];simp
def Sh{e:Y Z}:∀c d b,b∉c->y (kP d c e) b []=y d b []
|[],d,b,_=>aa|h::c,d,b,g=>by
 show y (kP _ c e) b []=_;rw[Sh c _ b λf=>g<|mB _ f,HG,ad]
 (simp_all;omega)
theorem Bg{f:Y Z}:∀e d b c,b<U d->(c∈y (kP d e f) b []↔c∈y d b []\/b∈e/\c∈f)|[],d,b,c,_=>by simp[kP]|g::e,d,b,c,h=>by show c∈y (kP _ e f) b []↔_;rw[Bg e _ b c aq,HG,fH];by_cases rfl:g=b;rw[af ⟨rfl,h⟩,pp];simp_all;grind
def Sf{f:Y Z}(g:jC f):∀d c,(∀b,jC (y c b []))->∀b,jC (y (kP c d f) b [])|[],c,e,b=>e b|h::d,c,e,b=>by refine Sf g d _ (λb=>?_) b;grind[HG,xt]
structure jc(sV R:bx)(t jN:Z)(g0 u:bg)(I9:bZ):Prop where
 ok:rt R
 ext:Al sV R
 gs:U u.aJ=U R.aJ
 kL:U u.cn=U R.aJ
 zx:∃new,u.aJ=g0.aJ++new/\R.aJ=sV.aJ++ab kf new
 vV:∀G<U g0.cn,y u.cn G []=y g0.cn G []
 inc:∀G,jC (y u.cn G [])
 xu:jC I9.first
 Bd:jC I9.last
 t:∀x fP,Kl x fP R->∃N:Z->Z->Prop,(∀T w,lq R T w↔lq sV T w\/N T w)/\mH x fP N t jN (U sV.aF) (U R.aF) (U sV.aJ) (U R.aJ) (·∈I9.first) (·∈I9.last) (λG v=>U sV.aJ<=G/\G<U R.aJ/\v∈y u.cn G []) (I9.empty=ag)
structure nN(R:bx)(u:bg)(t:Z):Prop where
 ok:rt R
 t:t<U R.aF
 gs:U u.aJ=U R.aJ
 kL:U u.cn=U R.aJ
 inc:∀G,jC (y u.cn G [])
def jc.Ga{h R:bx}{c b:Z}{d e:bg}{i:bZ}(g:jc h R c b d e i):b<U R.aF:=by let⟨k,_,f⟩:=g.t _ _ ⟨λ_ _=>aa,λ_ _=>aa⟩;exact f.Gb.2
def jc.pre{g R:bx}{e d:Z}{f c:bg}{h:bZ}(b:jc g R e d f c h):nN R c d:=⟨b.ok,b.Ga,b.gs,b.kL,b.inc⟩
def jc.Oe{b R:bx}{c h:Z}{d e:bg}{g:bZ}(f:jc b R c h d e g):U b.aJ<=U R.aJ:=by cases f.zx;simp_all
theorem jc.join{l h s:bx}{p m F:Z}{r A o:bg}{c d:bZ}(C:nN l r p)(e:jc l h p m r A c)(B:jc h s m F A o d):jc l s p F r (p3 o c d) (qP c d):=by
 let E:∀b∈c.last,U l.aJ<=b/\b<U h.aJ:=by intro b k;let⟨O,_,L⟩:=e.t (y h.gk · 0) (y h.gQ · 0) ⟨λ_ _=>aa,λ_ _=>aa⟩;exact L.rN b k
 let Y:=e.Oe;let ak:=B.Oe;refine⟨B.ok,e.ext.trans B.ext,B.gs,?_,?_,?_,?_,?_,?_,?_⟩;show U (kP _ _ _)=_;rw[Sg];exact B.kL;let⟨M,P,Q⟩:=e.zx;let⟨N,R,S⟩:=B.zx;exact⟨M++N,by show o.aJ=_;simp_all,aq⟩;intro b k;show y (kP _ _ _) b []=_;rw[Sh _ _ _ (λK=>by have:=E b K;rw[C.kL] at k;omega),B.vV b (by rw[e.kL];rw[C.kL] at k;omega),e.vV b k];exact Sf B.xu _ _ B.inc;show jC (if c.empty then ee c.first d.first else c.first);split;exact xt _ _ e.xu B.xu;exact e.xu;show jC (if d.empty then ee c.last d.last else d.last);split;exact xt _ _ e.Bd B.Bd;exact B.Bd;intro x fP D;let⟨G,T,I⟩:=e.t x fP<|D.mono B.ext;let⟨H,X,J⟩:=B.t x fP D;refine⟨λu v=>G u v\/H u v,λu v=>aK,(I.av7 J).congr (λ_ _=>nJ) ?_ ?_ ?_ ?_⟩;intro f;show f∈(if c.empty then ee c.first d.first else c.first)↔_;grind[pp];intro f;show f∈(if d.empty then ee c.last d.last else d.last)↔_;split;simp_all[pp,or_comm];simp_all;intro b f;show U l.aJ<=b/\b<U s.aJ/\f∈y (kP o.cn c.last d.first) b []↔_;constructor;rintro⟨g,i,n⟩;rcases(Bg _ _ b f (by rw[B.kL];exact i)).1 n with w|w;rcases hN b (U h.aJ) with z|z;rw[B.vV b (by rw[e.kL];exact z)] at w;simp_all;simp_all;simp_all;rintro(⟨g,i,n⟩|⟨g,i,n⟩|⟨g,i⟩);refine⟨g,q,(Bg _ _ b f (by rw[B.kL];omega)).2<|bj ?_⟩;rw[B.vV b aK];exact n;grind[Bg];have:=E b g;exact⟨q,q,(Bg _ _ b f (by rw[B.kL];omega)).2<|bp ⟨g,i⟩⟩;show(c.empty&&d.empty)↔_;simp
def Acc(f R:bx)(c g:Z)(d e:bg)(b:bZ):Prop:=R=f/\g=c/\e=d/\b.first=[]/\b.last=[]/\b.empty\/jc f R c g d e b
def jc.none{l R:bx}{e m:Z}{g h f:bg}{c d:bZ}(b:jc l R e m g h c)(o:f=h)(i:d.first=c.first)(k:d.last=c.last)(n:d.empty=c.empty):jc l R e m g f d:=by subst o;exact⟨b.ok,b.ext,b.gs,b.kL,b.zx,b.vV,b.inc,by rw[i];exact b.xu,by rw[k];exact b.Bd,by rw[i,k,n];exact b.t⟩
theorem Acc.join{g k l:bx}{d m n:Z}{e h i:bg}{b c:bZ}(p:nN g e d)(f:Acc g k d m e h b)(B:jc k l m n h i c):jc g l d n e (p3 i b c) (qP b c):=by rcases f with⟨rfl,rfl,rfl,r,o,s⟩|f;apply B.none (by unfold p3;rw[o];rfl);grind[qP,OE];grind[qP,ee,OE];simp_all[qP,B0];exact f.join p B
def Acc.pre{f R:bx}{c g:Z}{d e:bg}{i:bZ}(h:nN f d c)(b:Acc f R c g d e i):nN R e g:=by rcases b with⟨rfl,rfl,rfl,_⟩|b;exact h;exact b.pre
def Ab(e:bx->Z->bx×Z)(d:bg->bg×bZ):Prop:=∀R b c,nN R c b->jc R (e R b).1 b (e R b).2 c (d c).1 (d c).2
def Z_{g:bx->Z->bx×Z}{e:bg->bg×bZ}(l:Ab g e){k:bx}{f:Z}{h:bg}(i:nN k h f):∀B R b c M,Acc k R f b h c M->Acc k (h8 g B R b).1 f (h8 g B R b).2 h (kO e B c M).1 (kO e B c M).2|0,_,_,_,_,d=>d|B+1,R,b,c,M,d=>Z_ l i B _ _ _ _<|bp<|d.join i<|l R b c<|d.pre i
def Te{f:bx->Z->bx×Z}{e:bg->bg×bZ}(p:Ab f e){R:bx}{b:Z}{c:bg}(d:nN R c b):jc R (xM f R b) b (U R.aF) c (e c).1 (e c).2.lZ:=by
 let i:b<U R.bX.aF:=by rw[rO];exact z3 d.t
 let k:(R.bX.dD b<|U R.aF).aF.length=U R.aF+1:=by rw[rP,rO]
 let r:rt (R.bX.dD b<|U R.aF):=Bz (Dt d.ok) i (by simp[rO,yk]);let B:=p _ b c ⟨r,by rw[k];exact z3 d.t,d.gs,d.kL,d.inc⟩;let l:=B.Ga;let u:=B.ext.aF;exists Bz B.ok l q,((Hq).trans AQ).trans<|B.ext.trans AQ,B.gs,B.kL,B.zx,B.vV,B.inc,B.xu,B.Bd;intro x fP o;let⟨s,n,h⟩:=B.t x fP o;rw[k] at h;let m:(xM f R b).aF.length=(f _ b).1.aF.length:=rP;rw[m];refine⟨_,λw y=>?_,((mH.blank d.t dW).Cu h).congr (λ_ _=>nJ) ?_ ?_ ?_ ?_⟩;unfold xM;rw[CU l,n,CU i,Hm];grind;intro g;show g∈(e c).2.first↔_;simp
 intro g;show g∈(e c).2.last↔_;simp;intro v g;rw[false_or];rfl;show ag↔_;simp
def axd{f:bx->Z->bx×Z}{e:bg->bg×bZ}(u:Ab f e){R:bx}{c:Z}{d:bg}(g:nN R d c):jc R (Jj f R c) c (U R.aF+1) d (aaZ (e d).1 (e d).2) (e d).2.lZ:=by
 let A:U R.bX.bX.aF=U R.aF+2:=by rw[rO,rO]
 let w:c<U R.bX.bX.aF:=by have:=g.t;omega
 let D:U R.aF<(R.bX.bX.dD c<|U R.aF).aF.length:=by rw[rP];omega
 let z:(lC R c).aF.length=U R.aF+2:=by unfold lC;rw[rP,rP,A]
 let E:rt (lC R c):=Bz (Bz (Dt<|Dt g.ok) w q) D (by grind[rP]);let B:=u (lC R c) (U R.aF) d ⟨E,q,g.gs,g.kL,g.inc⟩;let C:=B.Ga;let L:=B.ext.aF;let F:rt (Jj f R c):=Bz B.ok C q;let p:∀b∈(e d).2.last,U R.aJ<=b/\b<(f (lC R c)<|U R.aF).1.aJ.length:=by intro b k;let⟨J,_,v⟩:=B.t _ _ ⟨λ_ _=>aa,λ_ _=>aa⟩;exact v.rN b k
 refine⟨F,(((Hq).trans Hq).trans<|(AQ).trans AQ).trans<|B.ext.trans AQ,B.gs,?_,B.zx,?_,Sf B.xu _ _ B.inc,B.xu,B.Bd,?_⟩;show U (kP _ _ _)=_;rw[Sg];exact B.kL;intro b k;show y (kP _ _ _) b []=_;rw[Sh _ _ _ (λl=>by have:=p b l;rw[g.kL] at k;omega)];exact B.vV b k;intro x fP s;let⟨I,K,o⟩:=B.t x fP s;rw[z] at o;let r:(Jj f R c).aF.length=(f (lC R c)<|U R.aF).1.aF.length:=rP;rw[r];refine⟨_,λG H=>?_,(o.star g.t).congr (λ_ _=>nJ) (λ_=>nJ) (λ_=>nJ) ?_ ?_⟩;show lq (bx.dD _ _ _) G H↔_;grind[lC,CU,Hm];intro b m;show U R.aJ<=b/\b<(f (lC R c) (U R.aF)).1.aJ.length/\m∈y (kP (e d).1.cn (e d).2.last (e d).2.first) b []↔U R.aJ<=b/\b<(f (lC R c) (U R.aF)).1.aJ.length/\_\/_;constructor;rintro⟨h,i,n⟩;rcases(Bg _ _ b m (by rw[B.kL];exact i)).1 n with l|l;simp_all;simp_all;rintro(⟨h,i,n⟩|⟨h,i⟩);grind[Bg];have:=p b h;exact⟨this.1,this.2,(Bg _ _ b m (by rw[B.kL];omega)).2<|bp ⟨h,i⟩⟩;show ag↔_;simp
def ao2{h:bx->Z->bx×Z}{f:bg->bg×bZ}(l:Ab h f){k:bx}{g:Z}{i:bg}(d:nN k i g){B:Z}R b c M(e:Acc k R g b i c M):jc k (h8 h (B+1) R b).1 g (h8 h (B+1) R b).2 i (kO f (B+1) c M).1 (kO f (B+1) c M).2:=by
 induction B generalizing R b c M
 exact e.join d (l R b c<|e.pre d)
 next B m=>exact m _ _ _ _<|bp<|e.join d<|l R b c<|e.pre d
theorem ar5{h:bx->Z->bx×Z}{f:bg->bg×bZ}(l:Ab h f){k:bx}{g:Z}{i:bg}(d:nN k i g)B R b c M(e:Acc k R g b i c M):jc k (eM h (B+1) R b).1 g (eM h (B+1) R b).2 i (pt f (B+1) c M).1 (pt f (B+1) c M).2:=by
 induction B generalizing R b c M
 exact e.join d (Te l<|e.pre d)
 next B m=>exact m _ _ _ _<|bp<|e.join d<|Te l<|e.pre d
def acP{g:bx->Z->bx×Z}{e:bg->bg×bZ}(l:Ab g e){i:bx}{f:Z}{h:bg}(k:nN i h f):∀B R b c M,jc i R f b h c M->jc i (eM g B R b).1 f (eM g B R b).2 h (pt e B c M).1 (pt e B c M).2|0,_,_,_,_,d=>d|B+1,R,b,c,M,d=>acP l k B _ _ _ _<|d.join k<|Te l d.pre
def avf{i:bx->Z->bx×Z}{h:bg->bg×bZ}(g:Ab i h){b c:L}{R:bx}{d:Z}{e:bg}(f:nN R e d)(n:c=-1\/0<c):jc R (qc i b c R d).1 d (qc i b c R d).2 e (qb h b c e).1 (qb h b c e).2:=by let k:=Z_ g f (aG b) R d e ⟨[],[],ag,ae⟩<|bj ⟨aa,aa,aa,aa,aa,aa⟩;unfold qc qb;split;exact k.join f<|axd g<|k.pre f;by_cases m:0<b;obtain⟨B,l⟩:∃B,aG b=B+1:=⟨aG b-1,q⟩;rw[l];exact acP g f _ _ _ _ _<|ao2 g f R d e _<|bj ⟨aa,aa,aa,aa,aa,aa⟩;obtain⟨B,l⟩:∃B,aG (c-b)=B+1:=⟨aG (c-b)-1,q⟩;grind[ar5]
def Qd{R:bx}{c:Z}{e:bg}(b:nN R e c)(d:X):jc R (if d then R.bX.dD c (U R.aF) else R.bX) c (U R.aF) e e ⟨[],[],d,ae⟩:=by
 let g:c<U R.bX.aF:=by rw[rO];exact z3 b.t
 let h:(if d then R.bX.dD c (U R.aF) else R.bX).aF.length=U R.aF+1:=by split;rw[rP,rO];exact rO
 let f:(if d then R.bX.dD c (U R.aF) else R.bX).aJ=R.aJ:=by split<;>rfl
 refine⟨?_,?_,by rw[f];exact b.gs,by rw[f];exact b.kL,bi,λ_ _=>aa,b.inc,Eg,Eg,?_⟩;split;exact Bz (Dt b.ok) g (by simp[rO,yk]);exact Dt b.ok;split;exact(Hq).trans AQ;simp[Hq];intro x fP _;rw[h,f];refine⟨_,λi k=>?_,(mH.blank b.t<|d=ag).congr (λ_ _=>nJ) ?_ ?_ ?_ ?_⟩;grind[CU,Hm];simp;simp
 (simp;omega)
 rfl
def aty{R:bx}{d:Z}{e:bg}(b:nN R e d){J:Y (L×L)}:jc R ((R.bX.bX.dD d (U R.aF)).wh (U R.aF) (U R.aF+1) (kf J)) d (U R.aF+1) e ⟨e.aJ++[J],e.cn++[[]]⟩ ⟨[U e.aJ],[U e.aJ],ae,ae⟩:=by
 let v:U R.bX.bX.aF=U R.aF+2:=by rw[rO,rO]
 let u:d<U R.bX.bX.aF:=by have:=b.t;omega
 let h:rt (R.bX.bX.dD d<|U R.aF):=Bz (Dt<|Dt b.ok) u q;let k:(R.bX.bX.dD d<|U R.aF).aF.length=U R.aF+2:=by rw[rP,v]
 let w:(R.bX.bX.dD d<|U R.aF).gM.length=U R.aF+2:=b0 h.pl k;let E:∀f c:Z,(R.bX.bX.dD d<|U R.aF).gM.getD f (-1)=c↔c<U R.gk/\y R.gk c 0=f:=h.FR;refine⟨⟨?_,?_,?_,?_,?_,?_,?_,?_⟩,?_,?_,?_,?_,?_,?_,Gv _ _,Gv _ _,?_⟩;show U (aR _ _ _)=_;rw[nC];exact h.pl;show U (R.gQ++[_])=U (R.aJ++[_]);simp[b.ok.fP];show U (R.gk++[_])=U (R.aJ++[_]);simp[b.ok.gk];exact h.Jt;intro c z;show y (R.gk++[U R.aF]) c 0<(R.bX.bX.dD d (U R.aF)).aF.length;rw[y5,k];split;rename_i g;have:=b.ok.KK c g;omega;grind;intro c z;show y (R.gQ++[U R.aF+1]) c 0<(R.bX.bX.dD d (U R.aF)).aF.length;rw[y5,k];split;rename_i g;have:=b.ok.KR c g;omega;grind;intro f c;show y ((R.bX.bX.dD d (U R.aF)).gM.set (U R.aF) (U R.aJ)) f (-1)=c↔c<U (R.gk++[U R.aF])/\y (R.gk++[U R.aF]) c 0=f;rw[HG,y5,w,cd,ri];let D:=b.ok.gk;split;rename_i g;obtain⟨rfl,_⟩:=g;constructor;grind;rintro⟨m,l⟩;split at l;rename_i g;have:=b.ok.KK c g;omega;omega;grind;intro f;show-1<=y ((R.bX.bX.dD d (U R.aF)).gM.set (U R.aF) (U R.aJ)) f (-1);rw[HG];split;omega;exact h.neg f;refine⟨?_,Vp _ _,Vp _ _⟩;show U R.aF<=(R.bX.bX.dD d (U R.aF)).aF.length;omega;show U (e.aJ++[J])=U (R.aJ++[_]);simp[b.gs];show U (e.cn++[[]])=U (R.aJ++[_]);simp[b.kL];exists [J],aa;grind;intro i;show jC (y (e.cn++[[]]) i []);rw[y5];split;exact b.inc i;cases i-U e.cn<;>exact Eg;intro x fP n;let m:x (U R.aJ)=U R.aF:=by have:=n.1 (U R.aJ) (by show _<U (R.gk++[_]);simp[b.ok.gk]);rw[this];show y (R.gk++[_]) _ 0=_;rw[y5,ad (by rw[b.ok.gk];omega),b.ok.gk,oX];rfl
 let l:fP (U R.aJ)=U R.aF+1:=by have:=n.2 (U R.aJ) (by show _<U (R.gQ++[_]);simp[b.ok.fP]);rw[this];show y (R.gQ++[_]) _ 0=_;rw[y5,ad (by rw[b.ok.fP];omega),b.ok.fP,oX];rfl
 let r:((R.bX.bX.dD d<|U R.aF).wh (U R.aF) (U R.aF+1)<|kf J).aJ.length=U R.aJ+1:=by show U (R.aJ++[_])=_;simp
 let s:((R.bX.bX.dD d<|U R.aF).wh (U R.aF) (U R.aF+1)<|kf J).aF.length=U R.aF+2:=k;rw[r,s];refine⟨_,λf A=>?_,(mH.gM (x:=x) (fP:=fP) b.t m l).congr (λ_ _=>nJ) ?_ ?_ ?_ ?_⟩;show lq (R.bX.bX.dD d (U R.aF)) f A↔_;grind[CU,Hm];intro c;rw[eu,b.gs];intro c;rw[eu,b.gs];intro i c;constructor;rintro⟨B,C,o⟩;have:i=U R.aJ:=q;subst this;let p:c∈y (e.cn++[[]]) (U R.aJ) []:=o;rw[y5,ad (by rw[b.kL];omega),b.kL,oX] at p;trivial;simp;simp
def ai3{d R g:bx}{f u:Z}{k p l:bg}{M h:bZ}(z:nN d k f)(b:jc d R f (U d.aF) k p M)(B:jc R g f u p l h):jc d (g.dD u (U d.aF)) f (U d.aF) k l ⟨ee M.first h.first,ee M.last h.last,M.empty||h.empty,ae⟩:=by
 let A:=B.Ga;let Q:=b.Ga;let P:=B.ext.aF;let S:=b.Oe;let T:=B.Oe;refine⟨Bz B.ok A q,(b.ext.trans B.ext).trans AQ,B.gs,B.kL,?_,?_,B.inc,xt _ _ b.xu B.xu,xt _ _ b.Bd B.Bd,?_⟩;let⟨C,I,J⟩:=b.zx;let⟨D,K,L⟩:=B.zx;exact⟨C++D,aq,by show g.aJ=_;simp_all⟩;intro c s;rw[B.vV c (by rw[b.kL];rw[z.kL] at s;omega),b.vV c s];intro x fP r;let⟨E,N,v⟩:=b.t x fP<|r.mono<|B.ext.trans AQ;let⟨F,O,w⟩:=B.t x fP r;rw[rP];refine⟨_,λG H=>?_,(v.Cu w).congr (λ_ _=>nJ) (λm=>pp _ _ _) (λm=>pp _ _ _) ?_ ?_⟩;grind[CU];intro c m;show U d.aJ<=c/\c<U g.aJ/\m∈y l.cn c []↔_;constructor;rintro⟨i,n,e⟩;rcases hN c _ with o|o;rw[B.vV c (by rw[b.kL];exact o)] at e;simp_all;simp_all;rintro(⟨i,n,e⟩|⟨i,n,e⟩);exists i,q;rw[B.vV c aK];exact e
 (simp_all;omega)
 simp
mutual
def KV:∀b:aW,Ab (gV b) (eg b)|.mk B J h e H=>by intro R l m c;rw[gV,eg];split;exact Qd c _;rename_i d;split;exact aty c;rename_i g;split;rename_i i;refine W0 H c (bj ⟨aa,aa,aa,aa,aa,aa⟩)|>.2 ?_;rintro rfl;rw[dB,ad g,ad q] at d;exact d aa;rename_i i;split;have:=Qd c ae;rw[ad ao] at this;exact W1 H c this;rename_i n;split;rename_i k;rw[dB,ad g,af k] at d;refine ajP H h e c (λb=>d (by rw[b,eO,ym];rfl)) ?_;rcases zR (e=-1) with b|b;exact bj b;rw[ad b] at d;refine bp ?_;rcases Int.lt_or_le 0 e with f|f;exact f;exact cg (by rw[Int.toNat_of_nonpos f,Nat.mul_zero];rfl) d;have:=Qd c ag;rw[af aa] at this;exact this
def W0:∀(H:Y aW){f:bx}{d:Z}{e:bg}(g:nN f e d){R:bx}{c:Z}{b:bg}{M:bZ},Acc f R d c e b M->Acc f (lN H R c).1 d (lN H R c).2 e (o_ H b M).1 (o_ H b M).2/\(H≠[]->jc f (lN H R c).1 d (lN H R c).2 e (o_ H b M).1 (o_ H b M).2)|[],_,_,_,_,_,_,_,_,h=>⟨h,λb=>cg aa b⟩|m::H,f,d,e,g,R,c,b,M,h=>by have i:=h.join g<|KV m R c b<|h.pre g;have k:=W0 H g<|bp i;rw[lN,o_];refine⟨k.1,λ_=>?_⟩;by_cases l:H=[];subst l;exact i;exact k.2 l
def W1:∀(H:Y aW){c:bx}{d:Z}{f:bg}(g:nN c f d){R:bx}{e:bg}{M:bZ},jc c R d (U c.aF) f e M->jc c (mg H R d (U c.aF)) d (U c.aF) f (qy H e M).1 (qy H e M).2|[],_,_,_,_,_,_,_,b=>b|h::H,c,d,f,g,R,e,M,b=>by rw[mg,qy];exact W1 H g<|ai3 g b<|KV h R d e ⟨b.ok,jZ g.t b.ext.aF,b.gs,b.kL,b.inc⟩
def ajP:∀(H:Y aW)(c b:L){R:bx}{d:Z}{e:bg},nN R e d->H≠[]->b=-1\/0<b->jc R (yI H c b R d).1 d (yI H c b R d).2 e (w4 H c b e).1 (w4 H c b e).2|[],_,_,_,_,_,_,f,_=>cg aa f|g::H,c,b,R,d,e,f,_,h=>by rw[yI,w4];exact avf (KV g) f h
end
structure jb(u:bg):Prop where
 len:U u.cn=U u.aJ
 k:U u.aJ<=2000
 cn:o5 u.cn
structure fg(J:bZ)(R:Z):Prop where
 ok:KB J
 f:∀G∈J.first,G<R
 l:∀G∈J.last,G<R
def fg.mono{J:bZ}{R g:Z}(c:fg J R)(e:R<=g):fg J g:=⟨c.ok,λd b=>jZ (c.f d b) e,λd b=>jZ (c.l d b) e⟩
theorem fg.nil R(c d:X):fg ⟨[],[],c,d⟩ R:=⟨⟨fJ.nil,fJ.nil⟩,λ_ b=>cg b kB,λ_ b=>cg b kB⟩
def fg.lZ{J:bZ}{R:Z}(b:fg J R):fg J.lZ R:=⟨b.ok,b.f,b.l⟩
theorem JB{c d:Y Z}{R:Z}(e:∀b∈c,b<R)(f:∀b∈d,b<R):∀b∈ee c d,b<R:=λb g=>((pp _ _ _).1 g).elim (e b)<|f b
theorem fg.join{e b:bZ}{R:Z}(c:fg e R)(d:fg b R):fg (qP e b) R:=by unfold qP;refine⟨⟨?_,?_⟩,?_,?_⟩;split;exact c.ok.1.un d.ok.1;exact c.ok.1;show fJ (if b.empty then ee _ _ else b.last);split;exact c.ok.2.un d.ok.2;exact d.ok.2;split;exact JB c.f d.f;exact c.f;show∀g∈(if b.empty then ee _ _ else b.last),g<R;split;exact JB c.l d.l;exact d.l
def jb.zb{b:bg}(c:jb b){t d:Y Z}(e:fJ d):jb ⟨b.aJ,kP b.cn t d⟩:=⟨b0 (aaY t _) c.len,c.k,o5.link e t c.cn⟩
theorem jb.join{c:bg}(f:jb c)d{b:bZ}{R:Z}(e:fg b R):jb (p3 c d b):=f.zb e.ok.1
def tg(d:bg->bg×bZ)(c:Z):Prop:=∀b,jb b->U b.aJ+c<=2000->jb (d b).1/\(d b).1.aJ.length=U b.aJ+c/\fg (d b).2 (U b.aJ+c)
def HU{d:bg->bg×bZ}{c:Z}(h:tg d c):∀B{b:bg}{M:bZ},jb b->U b.aJ+B*c<=2000->fg M (U b.aJ)->jb (kO d B b M).1/\(kO d B b M).1.aJ.length=U b.aJ+B*c/\fg (kO d B b M).2 (U b.aJ+B*c)|0,b,M,e,_,f=>⟨e,by rw[ym];rfl,by rw[ym];exact f⟩|B+1,b,M,e,m,f=>by rw[hZ,wO] at m⊢;let⟨k,l,g⟩:=h b e q;let i:(p3 _ M (d b).2).aJ.length=U b.aJ+c:=l;let n:=HU h B (k.join M g) q (by rw[i];exact(f.mono q).join g);grind[kO]
theorem acM{d:bg->bg×bZ}{c:Z}(h:tg d c):∀B{b:bg}{M:bZ},jb b->U b.aJ+B*c<=2000->fg M (U b.aJ)->jb (pt d B b M).1/\(pt d B b M).1.aJ.length=U b.aJ+B*c/\fg (pt d B b M).2 (U b.aJ+B*c)|0,b,M,e,_,f=>⟨e,by rw[ym];rfl,by rw[ym];exact f⟩|B+1,b,M,e,m,f=>by rw[hZ,wO] at m⊢;let⟨k,l,g⟩:=h b e q;let i:(p3 _ M (d b).2.lZ).aJ.length=U b.aJ+c:=l;let n:=acM h B (k.join M g.lZ) q (by rw[i];exact(f.mono q).join g.lZ);grind[pt]
def avc{e:bg->bg×bZ}{f:Z}(l:tg e f){b c:L}{d:bg}(v:0<=b)(w:c=-1\/b<=c)(n:jb d)(h:U d.aJ+f*(if c=-1 then aG (b+1) else aG c)<=2000):jb (qb e b c d).1/\(qb e b c d).1.aJ.length=U d.aJ+f*(if c=-1 then aG (b+1) else aG c)/\fg (qb e b c d).2 (U d.aJ+f*(if c=-1 then aG (b+1) else aG c)):=by unfold qb;by_cases g:c=-1;rw[af g] at h⊢;rw[af g];have i:aG (b+1)=aG b+1:=q;rw[i,B8,z4,l6] at h⊢;have m:=HU l (aG b) (M:=⟨[],[],ag,ae⟩) n q<|fg.nil _ _ _;generalize kO e _ d _=o at m⊢;let⟨p,t,r⟩:=m;let⟨s,u,k⟩:=l o.1 p q;refine⟨(s.zb k.ok.1).join _ k.lZ,?_,?_⟩;show(e o.1).1.aJ.length=_;omega;exact(r.mono q).join (k.mono q).lZ;rw[ad g] at h⊢;rw[ad g];have i:aG c=aG b+aG (c-b):=q;rw[i,B8,l6,l6 f] at h⊢;have:=HU l (aG b) (M:=⟨[],[],ag,ae⟩) n q<|fg.nil _ _ _;grind[acM]
def V_:∀{H:Y aW}{b:bg}{M:bZ},(∀c∈H,tg (eg c) (dB c))->jb b->U b.aJ+eO H<=2000->fg M (U b.aJ)->jb (o_ H b M).1/\(o_ H b M).1.aJ.length=U b.aJ+eO H/\fg (o_ H b M).2 (U b.aJ+eO H)|[],b,M,_,f,_,g=>cf|c::H,b,M,e,f,l,g=>by rw[eO] at l⊢;let⟨i,k,d⟩:=e c (ki ..) b f q;let h:(p3 _ M (eg c b).2).aJ.length=U b.aJ+dB c:=k;let o:=V_ (λn m=>e n<|mB _ m) (i.join M d) q (by rw[h];exact(g.mono q).join d);grind[o_]
def fg.Cu{d e:bZ}{R:Z}(b:fg d R)(c:fg e R)(g h:X):fg ⟨ee d.first e.first,ee d.last e.last,g,h⟩ R:=⟨⟨b.ok.1.un c.ok.1,b.ok.2.un c.ok.2⟩,JB b.f c.f,JB b.l c.l⟩
def We:∀{H:Y aW}{b:bg}{M:bZ},(∀c∈H,tg (eg c) (dB c))->jb b->U b.aJ+eO H<=2000->fg M (U b.aJ)->jb (qy H b M).1/\(qy H b M).1.aJ.length=U b.aJ+eO H/\fg (qy H b M).2 (U b.aJ+eO H)|[],b,M,_,e,_,f=>cf|c::H,b,M,d,e,k,f=>by rw[eO] at k⊢;let⟨g,h,i⟩:=d c (ki ..) b e q;let n:=We (M:=⟨ee _ _,ee _ _,M.empty||(eg c b).2.empty,ae⟩) (λm l=>d m<|mB _ l) g q (by rw[h];exact(f.mono q).Cu i _ _);grind[qy]
def Cr:∀b,e1 b->tg (eg b) (dB b):=aW.ind λb x he l g e=>by
 let⟨⟨⟨D,I⟩,z,A,K,L,M,N,O,E,F,G⟩,u⟩:=p8.1 he;let⟨B,J,f,d,H⟩:=b;dsimp[aW.c0,aW.a3,aW.min,aW.max,aW.set] at D I z A K L M N O E F G u x;have c:dB (.mk B J f d H)=if B=3 then 1 else if B=6 then nK (eO H*(if d=-1 then aG (f+1) else aG d)) 2001 else nK (eO H) 2001:=xc<|.mk B J f d H
 rw[eg];by_cases k:dB (.mk B J f d H)=0;rw[af k,k];exact⟨g,aa,fg.nil _ _ _⟩;rw[ad k];have n:∀i,dB (.mk B J f d H)=nK i 2001->i=dB (.mk B J f d H):=λi S=>by grind
 have o:∀b∈H,tg (eg b) (dB b):=λb t=>x b t<|u b t;by_cases p:B=3;rw[af p] at c⊢;rw[c] at e⊢;have v:U l.aJ<2000:=q;refine⟨⟨by rw[cd,cd,g.len];rfl,bi,λh=>?_⟩,ao,⟨⟨fJ.one v,fJ.one v⟩,λh w=>?_,λh w=>?_⟩⟩;show fJ (y (l.cn++[[]]) h []);rw[dX,nB];split;rw[<-dX];exact g.cn h;cases h-U l.cn;exact fJ.nil
 next T=>exact fJ.nil
 rw[eu.1 w];omega;grind;rw[ad p] at c⊢;by_cases r:B=4;rw[af r,ad q] at*;have:=n _ c;rw[<-this] at e⊢;exact V_ o g e<|fg.nil _ _ _;rw[ad r];by_cases s:B=5;rw[af s];rw[ad q] at c;have:=n _ c;rw[<-this] at e⊢;exact We o g e<|fg.nil _ _ _;rw[ad s];by_cases m:B=6;rw[af m] at c⊢;let⟨P,Q,X,R⟩:=A m;obtain⟨i,rfl⟩:=JY.1 P;have:=n _ c;rw[eO,eO,qp] at this;rw[<-this] at e⊢;rw[w4];exact avc (o i<|eu.2 aa) Q (R.imp id (·.1)) g e;rw[ad m] at c⊢;have C:=z q;subst C;exfalso;rw[eO] at c;exact k<|b0 c a2
def VK(d:aW):Prop:=e1 d->∀c:bg,jb c->U c.aJ+dB d<=2000->∀R e:Z,R=U c.aJ->e=(eg d c).1.aJ.length->dF 174 [b 6000,cW d] [(6000,ah 292<|pY R),(5000,.j 1 166<|ab kI c.aJ),(5001,.j 1 50<|ab ca c.cn)]
 (vQ (eg d c).2) [(6000,ah 292<|pY e),(5000,.j 1 166<|(eg d c).1.aJ.map kI),(5001,.j 1 50<|(eg d c).1.cn.map ca)]
def amR H:GJ 1 (ab ca H++[.bo]) (ab ca (H++[[]])):=by refine⟨ao,λd e f b c=>?_⟩;grind[List.getElem?_append_right,ca,Option.some.inj]
def PJ b c:eg b c=if dB b=0 then(c,⟨[],[],ou b,ae⟩) else if b.c0=3 then(⟨c.aJ++[b.set],c.cn++[[]]⟩,⟨[U c.aJ],[U c.aJ],ae,ae⟩) else if b.c0=4 then o_ b.a3 c ⟨[],[],ag,ae⟩ else if b.c0=5 then qy b.a3 c ⟨[],[],ae,ae⟩ else if b.c0=6 then w4 b.a3 b.min b.max c else(c,⟨[],[],ag,ae⟩):=by cases b;rfl
theorem K6{b:aW}(c:b.c0≠3)(d:b.c0≠6):dB b<=2000->eO b.a3=dB b:=by have:=xc b;rw[ov,ad c,ad d] at this<;>grind
def Xv{b:aW}(c:b.c0=6):dB b<=2000->eO b.a3*(if b.max=-1 then aG (b.min+1) else aG b.max)=dB b:=by have:=xc b;rw[ov,ad q,af c] at this<;>grind
def aiP{d:aW}(bm:∀aN∈d.a3,e1 aN->VK aN)(aR:e1 d){h:bg}(aF:jb h)(bT:U h.aJ+dB d<=2000){R Y:Z}(aI:R=U h.aJ)(az:Y=(eg d h).1.aJ.length):dF 174 [b 6000,cW d] [(6000,ah 292 (pY R)),(5000,.j 1 166 (ab kI h.aJ)),(5001,.j 1 50 (ab ca h.cn))] (vQ (eg d h).2) [(6000,ah 292 (pY Y)),(5000,.j 1 166 ((eg d h).1.aJ.map kI)),(5001,.j 1 50 ((eg d h).1.cn.map ca))]:=by
 refine c4 func174 [2020,2027,2034] λcx p bs=>?_;have bq:=bs.vY;have bu:=bs.bu;have bR:=Cr d aR h aF bT;have i:=PJ d h;obtain⟨⟨⟨cg,ci⟩,cj,bY,ck,cl⟩,bh⟩:=p8.1 aR;have cc:=aF.len;have bb:dB d<=2000:=q;generalize eg d h=aN at bR i az⊢;refine nc.mk nofun λ_=>?_;refine aT ?_ (g:=T5 d aR);apply f<;>intro b4
 .rw[af q] at i;subst i;obtain rfl:R=Y:=b0 aI<|bQ az;refine aT ?_ (g:=auT d aR);exact fQ 1 4 [0,1] (iE br)
 rw[ad q] at i;apply f<;>intro b6
 .simp_all
 apply f<;>intro b8
 .simp_all
 apply f<;>intro bA
 .rw[af bA] at i;subst i;rw[cd] at az;have b_:dB d=1:=by rw[xc,ov,af bA]
  subst aI;have bM:V.agg [.a 5000 0 (U (ab kI (h.aJ++[d.set]))),.a 5001 0 (U (ab ca h.cn++[V.bo])),aV ae]=pY Y:=by rw[pY,show U (ab kI (h.aJ++[d.set]))=Y by simp_all,show U (ab ca h.cn++[V.bo])=Y by simp_all]
  apply f<;>intro b9
  .omega
  refine ei ?_;refine bw (λ_=>kr aa) ?_;refine jY 56 (ab kI<|h.aJ++[d.set]) ?_ (aU:=ro) (hlen:=ao) (bl:=aK) (k_:=ba) (sL:=ba);refine fo ?_;refine jz [(56,5000)] ?_;refine cp ?_;refine eB (ab ca h.cn++[.bo]) ?_ (hlen:=aq) (bl:=aK);refine cp ?_;refine cp ?_;exact amW 1 5001 (ab ca<|h.cn++[[]]) (amR h.cn)<|iE br (mo:=⟨ea W<|ea (b7.cell 292) bM,aa,aa,b5⟩)
 apply f<;>intro bC
 .rw[ad q,af bC] at i;have bd:=K6 q q bb;refine a1.rF 1 6 [0,1] ?_;refine dA ?_;refine c8 (Z×bg×bZ×Z) (λc=>⟨[(0,b 6000),(3,b 3),(4,b 4),(6,b 6),(7,l c.1)],[(3,ah 169<|cW d),(4,ah 294<|V.zero HP.z),(6,ah 294<|vQ c.2.2.1),(5000,.j 1 166<|c.2.1.aJ.map kI),(5001,.j 1 50<|c.2.1.cn.map ca),(6000,ah 292<|pY c.2.2.2)],[]⟩) (λc=>c.1<=U d.a3/\jb c.2.1/\c.2.1.aJ.length+eO (ay c.1 d.a3)<=2000/\fg c.2.2.1 c.2.1.aJ.length/\aN=o_ (ay c.1 d.a3) c.2.1 c.2.2.1/\c.2.2.2=c.2.1.aJ.length) (λc=>U d.a3-c.1) (0,h,⟨[],[],ag,ae⟩,R) (λc aX=>?_) ⟨dJ _,aF,bi,fg.nil _ _ _,i,aI⟩;obtain⟨m,e,s,S⟩:=c;obtain⟨aM,F,P,x,n,Q⟩:=aX;dsimp only at aM F P x n Q⊢;apply f<;>intro bD
  .have A:m<U d.a3:=by rw[io] at bD;omega
   have be:=vM A;rw[be] at P n;rw[eO] at P;rw[o_] at n;have O:=bh _<|dL (I:=av) A;have J:=Cr (y d.a3 m av) O e F q;obtain⟨o,v⟩:∃o,o=(eg (y d.a3 m av) e).1.aJ.length:=⟨_,aa⟩;have M:=bm _ (dL A) O O e F q S o Q v;generalize eg (y d.a3 m av) e=au at n J v M;obtain⟨r,u⟩:=au;dsimp only at n J v M;obtain⟨C,aD,K⟩:=J;have aA:fg u (U r.aJ):=by rw[aD];exact K
   refine a1.Ln [8,0] gm br bq h7 bu aa ba ?_;refine bw (λ_=>bB m (cW<|y d.a3 m av) aa (k:=ly A)) ?_;refine Gm [(6000,6000),(5000,5000),(5001,5001)] [] ?_ (g:=M);refine Gm [(6000,6000),(5000,5000),(5001,5001)] [] ?_ (g:=Mm (ab kI r.aJ) r.cn s u o (b0 v<|bQ C.len) (λar ap=>by have:=x.l ar ap;rw[C.len];omega) (by rw[C.len]<;>omega) C.cn x.ok K.ok);refine fo ?_;refine fz ?_;refine aY ?_;exact a4 (m+1,p3 r s u,qP s u,o) ⟨A,C.join s K,by show U r.aJ+eO (ay (m+1) d.a3)<=2000;omega,(x.mono (show U e.aJ<=U r.aJ by omega)).join aA,n,v⟩ q
  rw[io] at bD;rw[kA q,o_] at n;subst n;obtain rfl:S=Y:=b0 Q<|bQ az;exact iE br
 rw[ad q,ad bC] at i;apply f<;>intro bE
 .rw[af bE] at i;have bd:=K6 q q bb;refine a1.rF 1 8 [0,1] ?_;refine dA ?_;refine c8 (Z×bg×bZ×Z) (λc=>⟨[(0,b 6000),(3,b 3),(4,b 4),(8,b 8),(9,l c.1)],[(3,ah 169<|cW d),(4,ah 294<|V.zero HP.z),(8,ah 294<|vQ c.2.2.1),(5000,.j 1 166<|c.2.1.aJ.map kI),(5001,.j 1 50<|c.2.1.cn.map ca),(6000,ah 292<|pY c.2.2.2)],[]⟩) (λc=>c.1<=U d.a3/\jb c.2.1/\c.2.1.aJ.length+eO (ay c.1 d.a3)<=2000/\fg c.2.2.1 c.2.1.aJ.length/\aN=qy (ay c.1 d.a3) c.2.1 c.2.2.1/\c.2.2.2=c.2.1.aJ.length) (λc=>U d.a3-c.1) (0,h,⟨[],[],ae,ae⟩,R) (λc aX=>?_) ⟨dJ _,aF,bi,fg.nil _ _ _,i,aI⟩;obtain⟨m,e,s,S⟩:=c;obtain⟨aM,F,P,x,n,Q⟩:=aX;dsimp only at aM F P x n Q⊢;apply f<;>intro bt
  .have A:m<U d.a3:=by rw[io] at bt;omega
   have be:=vM A;rw[be] at P n;rw[eO] at P;rw[qy] at n;have O:=bh _<|dL (I:=av) A;have J:=Cr (y d.a3 m av) O e F q;obtain⟨o,v⟩:∃o,o=(eg (y d.a3 m av) e).1.aJ.length:=⟨_,aa⟩;have M:=bm _ (dL A) O O e F q S o Q v;generalize eg (y d.a3 m av) e=au at n J v M;obtain⟨r,u⟩:=au;dsimp only at n J v M;obtain⟨C,aD,K⟩:=J;have aA:fg u (U r.aJ):=by rw[aD];exact K
   have cr:=x.ok.1.len;have cs:=x.ok.2.len;have cu:=K.ok.1.len;have cw:=K.ok.2.len;refine bB m (cW<|y d.a3 m av) ?_ (k:=ly A);refine bG [(6000,6000),(5000,5000),(5001,5001)] ?_ (g:=M);refine ei ?_;refine bw (λ_=>ch aa (g:=Gg s.first u.first q q)) ?_;refine bw (λ_=>ch aa (g:=Gg s.last u.last q q)) ?_;refine u_ (λbN=>?_) λbN=>?_
   .refine fo ?_;refine fz ?_;refine aY ?_;exact a4 (m+1,r,⟨ee s.first u.first,ee s.last u.last,ag,ae⟩,o) ⟨A,C,bi,(x.mono<|show U e.aJ<=U r.aJ by omega).Cu aA _ _,aq,v⟩ q
   refine fo ?_;refine fz ?_;refine aY ?_;exact a4 (m+1,r,⟨ee s.first u.first,ee s.last u.last,u.empty,ae⟩,o) ⟨A,C,bi,(x.mono<|show U e.aJ<=U r.aJ by omega).Cu aA _ _,aq,v⟩ q
  rw[io] at bt;rw[kA q,qy] at n;subst n;obtain rfl:S=Y:=b0 Q<|bQ az;exact iE br
 rw[ad bE] at i;have a2:d.c0=6:=q;rw[af a2] at i;obtain⟨b3,cm,co,cq⟩:=bY a2;have aS:=Fe b3;have aH:0<U d.a3:=q;have O:=bh _<|dL (I:=av) aH;have bP:=bm _ (dL (I:=av) aH) O O;have bI:=Xv a2 bb;have bU:w4 d.a3 d.min d.max h=qb (eg (y d.a3 0 av)) d.min d.max h:=by generalize y d.a3 0 av=b1 at aS⊢;rw[aS];rfl
 have bd:eO d.a3=dB (y d.a3 0 av):=by generalize y d.a3 0 av=b1 at aS⊢;rw[aS,eO,eO];rfl
 rw[bd] at bI;rw[bU] at i;have aP:=Cr (y d.a3 0 av) O;have bO:∃w ak,w=eg (y d.a3 0 av)/\ak=dB (y d.a3 0 av):=⟨_,_,aa,aa⟩;obtain⟨w,ak,bf,bc⟩:=bO;rw[<-bf,<-bc] at aP;rw[<-bf] at i;rw[<-bc] at bI;have bk:∀e:bg,jb e->U e.aJ+ak<=2000->∀S o:Z,S=U e.aJ->o=(w e).1.aJ.length->dF 174 [b 6000,cW (y d.a3 0 av)] [(6000,ah 292 (pY S)),(5000,.j 1 166 (ab kI e.aJ)),(5001,.j 1 50 (ab ca e.cn))] (vQ (w e).2) [(6000,ah 292 (pY o)),(5000,.j 1 166 ((w e).1.aJ.map kI)),(5001,.j 1 50 ((w e).1.cn.map ca))]:=by rw[bf,bc];exact bP
 have a9:∀B:Z,B<=(if d.max=-1 then aG (d.min+1) else aG d.max)->U h.aJ+B*ak<=2000:=λB bS=>by have:=Gz ak bS;grind
 refine a1.rF 1 11 [0,1] ?_;refine dA ?_;refine c8 (Z×bg×bZ×Z) (λc=>⟨[(0,b 6000),(3,b 3),(4,b 4),(11,b 11),(12,l c.1)],[(3,ah 169<|cW d),(4,ah 294<|V.zero HP.z),(11,ah 294<|vQ c.2.2.1),(5000,.j 1 166<|c.2.1.aJ.map kI),(5001,.j 1 50<|c.2.1.cn.map ca),(6000,ah 292<|pY c.2.2.2)],[]⟩) (λc=>c.1<=aG d.min/\jb c.2.1/\c.2.1.aJ.length=U h.aJ+c.1*ak/\fg c.2.2.1 c.2.1.aJ.length/\kO w (aG d.min) h ⟨[],[],ag,ae⟩=kO w (aG d.min-c.1) c.2.1 c.2.2.1/\c.2.2.2=c.2.1.aJ.length) (λc=>aG d.min-c.1) (0,h,⟨[],[],ag,ae⟩,R) (λc aX=>?_) ⟨dJ _,aF,ao,fg.nil _ _ _,aa,aI⟩;obtain⟨m,e,s,S⟩:=c;obtain⟨aM,F,P,x,n,Q⟩:=aX;dsimp only at aM F P x n Q⊢;refine i4 ?_;apply f<;>intro bx
 .have A:m<aG d.min:=by simp[gp] at bx;omega
  have aE:=a9 (m+1) (by split<;>omega);rw[pH] at aE;rw[show aG d.min-m=aG d.min-(m+1)+1 by omega,kO] at n;have J:=aP e F q;obtain⟨o,v⟩:∃o,o=(w e).1.aJ.length:=⟨_,aa⟩;have M:=bk e F q S o Q v;generalize w e=au at n J v M;obtain⟨r,u⟩:=au;dsimp only at n J v M;obtain⟨C,aD,K⟩:=J;have aA:fg u (U r.aJ):=by rw[aD];exact K
  refine a1.Ln [7,0] gm br bq h7 bu aa ba ?_;refine bw (λ_=>bB 0 (cW<|y d.a3 0 av) aa (bu:=ba) (k:=ly aH)) ?_;refine Gm [(6000,6000),(5000,5000),(5001,5001)] [] ?_ (g:=M);refine Gm [(6000,6000),(5000,5000),(5001,5001)] [] ?_ (g:=Mm (ab kI r.aJ) r.cn s u o (b0 v<|bQ C.len) (λar ap=>by have:=x.l ar ap;rw[C.len];omega) (by rw[C.len]<;>omega) C.cn x.ok K.ok);refine fo ?_;refine fz ?_;refine aY ?_;exact a4 (m+1,p3 r s u,qP s u,o) ⟨A,C.join s K,by show U r.aJ=U h.aJ+(m+1)*ak;grind,(x.mono<|show U e.aJ<=U r.aJ by omega).join aA,n,v⟩ q
 have bJ:m=aG d.min:=by simp[gp] at bx;omega
 rw[bJ,oX,kO] at n;rw[qb,n] at i;dsimp only at i;rw[bJ] at P;refine c8 (L×bg×bZ×Z) (λc=>⟨[(0,b 6000),(3,b 3),(4,b 4),(11,b 11),(13,an aj c.1)],[(3,ah 169<|cW d),(4,ah 294<|V.zero HP.z),(11,ah 294<|vQ c.2.2.1),(5000,.j 1 166<|c.2.1.aJ.map kI),(5001,.j 1 50<|c.2.1.cn.map ca),(6000,ah 292<|pY c.2.2.2)],[]⟩) (λc=>(d.min<=c.1/\(c.1<=d.max\/c.1=d.min))/\jb c.2.1/\c.2.1.aJ.length=U h.aJ+aG c.1*ak/\fg c.2.2.1 c.2.1.aJ.length/\pt w (aG<|d.max-d.min) e s=pt w (aG<|d.max-c.1) c.2.1 c.2.2.1/\c.2.2.2=c.2.1.aJ.length) (λc=>aG<|d.max-c.1) (d.min,e,s,S) (λc aX=>?_) ⟨⟨D1 _,bp aa⟩,F,P,x,aa,Q⟩;obtain⟨rJ,T,aC,bn⟩:=c;obtain⟨⟨bW,bV⟩,aL,bX,aB,X,a0⟩:=aX;dsimp only at bV bW aL bX aB X a0⊢;refine i4 ?_;apply f<;>intro bz
 .have A:rJ<d.max:=by simp[gp] at bz;omega
  have aE:=a9 (aG rJ+1) (by rw[ad q];omega);rw[pH] at aE;rw[show aG (d.max-rJ)=aG (d.max-(rJ+1))+1 by omega,pt] at X;have aw:=aP T aL q;obtain⟨G,E⟩:∃G,G=(w T).1.aJ.length:=⟨_,aa⟩;have ax:=bk T aL q bn G a0 E;generalize w T=au at X aw E ax;obtain⟨D,H⟩:=au;dsimp only at X aw E ax;obtain⟨N,a5,am⟩:=aw;have a7:fg H (U D.aJ):=by rw[a5];exact am
  refine bB 0 (cW<|y d.a3 0 av) ?_ (bu:=ba) (k:=ly aH);refine bG [(6000,6000),(5000,5000),(5001,5001)] ?_ (g:=ax);refine bG [(6000,6000),(5000,5000),(5001,5001)] ?_ (g:=Mm (ab kI D.aJ) D.cn aC H.lZ G (b0 E<|bQ N.len) (λar ap=>by have:=aB.l ar ap;rw[N.len];omega) (by rw[N.len]<;>omega) N.cn aB.ok am.lZ.ok);refine aY ?_;exact a4 (rJ+1,p3 D aC H.lZ,qP aC H.lZ,G) ⟨⟨q,bj<|show rJ+1<=d.max by omega⟩,N.join aC am.lZ,by show U D.aJ=U h.aJ+aG (rJ+1)*ak;rw[show aG (rJ+1)=aG rJ+1 by omega,pH];omega,(aB.mono (show U T.aJ<=U D.aJ by omega)).join a7.lZ,X,E⟩ q
 have cf:d.max<=rJ:=by simp[gp] at bz;omega
 rw[show aG (d.max-rJ)=0 by omega,pt] at X;apply f<;>intro a_
 .rw[af a_] at i;have ce:rJ=d.min:=q;rw[show aG (d.max-d.min)=0 by omega,pt] at X;have bK:e=T:=ea Prod.fst X;have bL:s=aC:=ea Prod.snd X;rw[bK,bL] at i;have aE:=a9 (aG rJ+1) (by rw[af a_];omega);rw[pH] at aE;have aw:=aP T aL q;obtain⟨G,E⟩:∃G,G=(w T).1.aJ.length:=⟨_,aa⟩;have ax:=bk T aL q bn G a0 E;generalize w T=au at i aw E ax;obtain⟨D,H⟩:=au;dsimp only at i aw E ax;obtain⟨N,a5,am⟩:=aw;have a7:fg H (U D.aJ):=by rw[a5];exact am
  have aQ:=N.zb (t:=H.last) am.ok.1;subst i;obtain rfl:G=Y:=b0 E<|bQ az;refine bB 0 (cW<|y d.a3 0 av) ?_ (bu:=ba) (k:=ly aH);refine bG [(6000,6000),(5000,5000),(5001,5001)] ?_ (g:=ax);refine bG [(6000,6000),(5000,5000),(5001,5001)] ?_ (g:=aa0 (Ok:=ab kI D.aJ) (cn:=D.cn) (t:=H.last) (jN:=H.first) (R:=G) (b0 E<|bQ N.len) (λar ap=>by rw[N.len];exact a7.l ar ap) (by rw[N.len]<;>omega) N.cn am.ok.1 am.ok.2);refine bG [(6000,6000),(5000,5000),(5001,5001)] ?_ (g:=Mm (ab kI D.aJ) (kP D.cn H.last H.first) aC H.lZ G (b0 E<|bQ aQ.len) (λar ap=>by have:=aB.l ar ap;rw[aQ.len]<;>grind) (by rw[aQ.len]<;>grind) aQ.cn aB.ok am.lZ.ok);exact iE br
 rw[ad a_] at i;rw[X] at i;subst i;obtain rfl:bn=Y:=b0 a0<|bQ az;exact iE br
def aiM:∀b,e1 b->VK b:=aW.ind λb g he=>λ_ h e f R i c d=>aiP g he e f c d
def jt(J:Y (L×L))(b:L):X:=fB J λc=>aH (c.1<=b)&&aH (b<=c.2)
theorem X9{H:Y (L×L)}{b:Z}:b<U H->ay b H=y H b av::ay (b+1) H:=by simp_all
def aoR J c(bA:U J<=1000000):bh 175 [.al 2 (ab hs J),an aj c] (aV (jt J c)):=by
 refine bs func175 [] λp h=>?_;refine gN (U J) (λb=>jt J c=jt (ay b J) c) (λb=>⟨[(0,_),(1,_),(5,l b)],[],[]⟩) (λb k=>?_) aa .r;apply f<;>intro i
 .let d:b<U J:=q;refine bB b (hs<|y J b av) ?_ (k:=eZ d);apply cL;refineλm=>jV b (hs<|y J b av) ?_ (k:=eZ d);exact aa;apply f<;>intro e
  .let g:(aH ((y J b av).1<=c)&&aH (c<=(y J b av).2)):=by simpa[gp] using e
   exact aL (s:=by rw[k.2,X9 d,jt,B1,g];rfl)
  refine aY ?_;exact a4 (b+1) ⟨q,by grind[X9,jt]⟩ (bA:=.r)
 exact aL (s:=by rw[k.2,kA q];rfl)
section p1
structure eI where
 of:Y Z
 mem:Y (Y Z)
 et:Y Z
def bR(b:eI)(c:Z):Z:=y b.of c 0
def jE(c:Y Z)(d:Y Z)(b:Z):Y Z:=d.filter λJ=>aH<|y c J 0=b
def dU(b:Y Z)(c:Y Z):Y Z:=iZ [] (c.map λJ=>y b J 0)
def qf(b:Y Z)(c:Y Z)(d:Z):Y Z:=c.foldl (λM J=>aR M J d) b
def vJ(e:Y Z)(d:Y (Y Z))(c b:Z):Z:=if b∉e/\U (y d b [])<U (y d c []) then b else c
def x5(b:eI)(c:Z)(d:Y Z):eI:=if U d=U (y b.mem c []) then b
 else
  ⟨qf b.of d<|U b.mem,aR (b.mem++[d]) c<|(y b.mem c []).filter λJ=>!aH (y (qf b.of d<|U b.mem) J 0=U b.mem),b.et++[vJ b.et (aR (b.mem++[d]) c<|(y b.mem c []).filter λJ=>!aH (y (qf b.of d<|U b.mem) J 0=U b.mem)) (U b.mem) c]⟩
def Oh(e:Y Z)(f:Y Z)(b:eI)(d:Y Z):eI:=d.foldl (λb c=>x5 b c<|jE e f c) b
def r5(b:eI)(c:Y Z):eI:=Oh b.of c b<|dU b.of c
theorem N6{b:Z}:∀part of,U (qf of part b)=U of|[],of=>aa|J::part,of=>by show U (qf _ part b)=_;rw[N6 _];simp
def ae6{c:Z}:∀part of b,b<U of->y (qf of part c) b 0=if b∈part then c else y of b 0|[],of,b,_=>ba|J::part,of,b,d=>by show y (qf _ part c) b 0=_;rw[ae6 _ _ b aq];grind
structure k2(R:Z)(s:eI):Prop where
 len:U s.of=R
 lt:∀T<R,bR s T<U s.mem
 mem:∀Q T,T∈y s.mem Q []↔T<R/\bR s T=Q/\Q<U s.mem
 jw:∀Q,dT (y s.mem Q [])
 ne:∀Q<U s.mem,y s.mem Q []≠[]
 sc:∀Q∈s.et,Q<U s.mem
 wn:dT s.et
def Ac(R:Z)(g:Y (Y Z))(b:eI):Prop:=∀c d,c<R->d<R->(∀e∈g,c∈e↔d∈e)->(∀f∈b.et,bR b c=f↔bR b d=f)->bR b c=bR b d
def wV(R:Z)(d e:eI):Prop:=∀b c,b<R->c<R->bR d b=bR d c->bR e b=bR e c
theorem wV.refl R b:wV R b b:=λ_ _ _ _ c=>c
theorem wV.trans{R:Z}{b c d:eI}(k:wV R b c)(B:wV R c d):wV R b d:=λg h e f i=>B g h e f<|k g h e f i
def qj:∀{z Q:Y Z},dT z->(∀b∈z,b∈Q)->U z<=U Q|[],_,_,_=>dJ _|b::z,Q,e,f=>by let⟨c,d⟩:=zZ.1 e;have:=qj (Q:=Q.erase b) d λh g=>(ahu λi=>c aq).2<|f h<|mB _ g;grind
def axq{b c:Y Z}(f:dT b)(h:∀d∈b,d∈c)(l:U b≠U c)(g:dT c):∃d∈c,d∉b:=by rcases Classical.em (∀d∈c,d∈b) with e|e;let i:=qj f h;let k:=qj g e;omega;simp_all
structure aih(R:Z)(s hG:eI)(Q:Z)(part:Y Z):Prop where
 ok:k2 R hG
 ox:wV R hG s
 CL:∀As,Ac R As s->Ac R As hG
 sep:∀T w,T<R->w<R->bR hG T=bR hG w->bR s T=Q->(T∈part↔w∈part)
 vI:U hG.et+U s.mem=U s.et+U hG.mem
 grow:U s.mem<=U hG.mem
 jI:∀P5≠Q,P5<U s.mem->∀T<R,bR hG T=P5↔bR s T=P5
 val:∀T w,T<R->w<R->bR s T=bR s w->(bR s T=Q->(T∈part↔w∈part))->bR hG T=bR hG w
def aw0{R:Z}{c:eI}(l:k2 R c){Q:Z}{g:Y Z}(L:Q<U c.mem)(u:∀b∈g,b<R/\bR c b=Q)(F:dT g)(X:g≠[]):aih R c (x5 c Q g) Q g:=by
 have O:∀b∈g,b∈y c.mem Q []:=λb d=>(l.mem Q b).2 ⟨(u b d).1,(u b d).2,L⟩;unfold x5;split;have K:∀b<R,bR c b=Q->b∈g:=by intro b d C;rcases Classical.em (b∈g) with h|h;exact h;have:=qj (zZ.2 ⟨h,F⟩) (Q:=y c.mem Q []) (λf i=>by rcases fH.1 i with rfl|i;exact(l.mem Q _).2 ⟨d,C,L⟩;exact O f i);rw[l5] at this;omega
 refine⟨l,.refl R c,λP E=>E,λb f d i k C=>?_,aa,bv _,λ_ _ _ _ _=>nJ,λb f _ _ k _=>k⟩;exact⟨λ_=>K f i<|k▸C,λ_=>K b d C⟩;rename_i T;have M:∀b<R,y (qf c.of g (U c.mem)) b 0=if b∈g then U c.mem else bR c b:=λb d=>ae6 g c.of b (by rw[l.len];exact d)
 generalize ap:qf c.of g (U c.mem)=H at M;have aq:U H=R:=by rw[<-ap,N6,l.len]
 generalize N:l_ (λJ=>!aH (y H J 0=U c.mem)) (y c.mem Q [])=x;have:∀b,b∈x↔b<R/\bR c b=Q/\b∉g:=by intro b;rw[<-N,m9,l.mem];constructor;simp_all;grind
 have z:∀e,y (aR (c.mem++[g]) Q x) e []=if e=Q then x else if e=U c.mem then g else y c.mem e []:=by intro e;rw[dX,qo];by_cases k:Q=e;subst k;rw[af aa,af bi,af aa];rfl;grind
 have w:U (aR (c.mem++[g]) Q x)=U c.mem+1:=ao;generalize au:aR (c.mem++[g]) Q x=r at z w;generalize ak:vJ c.et r (U c.mem) Q=v;have G:v=Q/\Q∉c.et\/v=U c.mem:=by rw[<-ak];unfold vJ;split;rename_i h;exact bj ⟨aa,h.1⟩;exact bp aa
 have o:∀b<R,bR ⟨H,r,c.et++[v]⟩ b=if b∈g then U c.mem else bR c b:=M
 have t:=l.lt;refine⟨⟨aq,?_,?_,?_,?_,?_,?_⟩,?_,?_,?_,?_,?_,?_,?_⟩;intro b d;rw[o b d];show _<U r;rw[w];split;omega;have:=t b d;omega;intro e b;show b∈y r e []↔b<R/\_/\e<U r;rw[z,w];split;grind;rename_i k;split;grind;rw[l.mem];grind;intro e;show dT (y r e []);rw[z];split;rw[<-N];exact(l.jw Q).filter _;split;exact F;exact l.jw e;intro e s;show y r e []≠[];rw[z];split;let⟨b,av,aw⟩:=axq F O T<|l.jw Q;grind;split;exact X;apply l.ne e;have:e<U r:=s;omega;intro e s;show e<U r;rw[w];rcases fp.1 s with h|h;have:=l.sc e h;omega;rw[eu] at h;omega;show dT (c.et++[v]);refine vr.2 ⟨l.wn,ao,λb d f i=>?_⟩;rw[eu] at i;subst i;intro k;subst k;rcases G with⟨rfl,h⟩|rfl;exact h d;have:=l.sc _ d;omega;intro b f d i k;rw[o b d,o f i] at k;split at k<;>split at k;rename_i n m;rw[(u b n).2,(u f m).2];have:=t f i;omega;have:=t b d;omega;exact k;intro P E b f d i dM A;have ar:∀e∈c.et,bR c b=e↔bR c f=e:=by
  intro e s;have:=l.sc e s;by_cases k:e=Q;subst k;have am:v=U c.mem:=by rcases G with⟨rfl,h⟩|h;exact cg s h;exact h
  have D:=A e<|yi _ s;have p:=A v<|zY _<|eu.2 aa;rw[o b d,o f i] at D p;rw[am] at p;by_cases n:b∈g<;>by_cases m:f∈g;rw[(u b n).2,(u f m).2];rw[af n,ad m] at p;have:=p.1 aa;have:=t f i;omega;rw[ad n,af m] at p;have:=p.2 aa;have:=t b d;omega;rw[ad n,ad m] at D;exact D;have:=A e<|yi _ s;grind
 have I:=E b f d i dM ar;rw[o b d,o f i];have p:=A v<|zY _<|eu.2 aa;rw[o b d,o f i] at p;have:=t b d;have:=t f i;by_cases n:b∈g<;>by_cases m:f∈g;rw[af n,af m];grind;rw[ad n,af m] at p;have:=(u f m).2;rcases G with⟨rfl,_⟩|rfl;have:=p.1<|b0 I this;omega;have:=p.2 aa;omega;rw[ad n,ad m];exact I;intro b f d i k _;rw[o b d,o f i] at k;have:=t b d;have:=t f i;split at k<;>split at k;rename_i n m;exact⟨λ_=>m,λ_=>n⟩;omega;omega;rename_i n m;exact⟨λh=>cg h n,λh=>cg h m⟩;show U (c.et++[v])+U c.mem=U c.et+U r;rw[w,cd,ri];omega;show U c.mem<=U r;omega;intro e S s b d;rw[o b d];split;rename_i h;rw[(u b h).2];constructor;intro B;omega;intro B;exact cg (bQ B) S;exact nJ;grind
theorem Fv{b c:Y Z}:dT (dU b c):=AF _ Pa
theorem Dk{c d:Y Z}{b:Z}:b∈dU c d↔∃J∈d,y c J 0=b:=by simp[dU,yS]
structure aii(R:Z)(s hG:eI)(q_:Y Z):Prop where
 ok:k2 R hG
 ox:wV R hG s
 CL:∀As,Ac R As s->Ac R As hG
 sep:∀T w,T<R->w<R->bR hG T=bR hG w->(T∈q_↔w∈q_)
 vI:U hG.et+U s.mem=U s.et+U hG.mem
 grow:U s.mem<=U hG.mem
 val:∀T w,T<R->w<R->bR s T=bR s w->(T∈q_↔w∈q_)->bR hG T=bR hG w
structure Ap(R:Z)(s hG:eI)(q_ G4:Y Z):Prop where
 ok:k2 R hG
 ox:wV R hG s
 CL:∀As,Ac R As s->Ac R As hG
 sep:∀T w,T<R->w<R->bR hG T=bR hG w->bR s T∈G4->(T∈q_↔w∈q_)
 vI:U hG.et+U s.mem=U s.et+U hG.mem
 grow:U s.mem<=U hG.mem
 jI:∀Q∉G4,Q<U s.mem->∀T<R,bR hG T=Q↔bR s T=Q
 val:∀T w,T<R->w<R->bR s T=bR s w->(T∈q_↔w∈q_)->bR hG T=bR hG w
theorem Ap.nil{R:Z}{b:eI}(e:k2 R b)f:Ap R b b f []:=⟨e,.refl R b,λ_ B=>B,λ_ _ _ _ _ d=>cg d kB,aa,bv _,λ_ _ _ _ _=>nJ,λ_ _ _ _ c _=>c⟩
def Ap.snoc{R:Z}{g w:eI}(y:k2 R g){h m:Y Z}(p:∀J∈h,J<R)(C:dT h)(B:Ap R g w h m){d:Z}(u:d∉m)(A:d∈dU g.of h):Ap R g (x5 w d (jE g.of h d)) h (m++[d]):=by
 let⟨x,D,E⟩:=Dk.1 A;let n:d<U g.mem:=by rw[<-E];exact y.lt x<|p x D
 let hit:∀b,b∈jE g.of h d↔b∈h/\bR g b=d:=by intro b;unfold jE;rw[m9,kk];rfl
 let e:=aw0 B.ok (jZ n B.grow)
  (λb c=>⟨p b ((hit b).1 c).1,(B.jI d u n b<|p b ((hit b).1 c).1).2 ((hit b).1 c).2⟩) (C.filter _) (λl=>by grind[jE])
 refine⟨e.ok,e.ox.trans B.ox,λr z=>e.CL r<|B.CL r z,?_,?_,c9 B.grow e.grow,?_,?_⟩;intro b k c i l G;let t:=e.ox b k c i l;rcases fp.1 G with f|f;exact B.sep b k c i t f;rw[eu] at f;let H:=B.ox b k c i t;have:=e.sep b k c i l<|(B.jI d u n b c).2 f;simp_all;have:=e.vI;have:=B.vI;omega;intro s o v b c;rw[fp,eu] at o;rw[e.jI s (λf=>o<|bp f) (jZ v B.grow) b c];exact B.jI s (λf=>o<|bj f) v b c;intro b k c i l F;refine e.val b k c i (B.val b k c i l F) λ_=>?_;simp_all
def Ul{R:Z}{e:eI}(h:k2 R e){c:Y Z}(m:∀J∈c,J<R)(l:dT c):∀b d g,Ap R e g c d->(∀f∈b,f∈dU e.of c/\f∉d)->dT b->Ap R e (Oh e.of c g b) c (d++b)
|[],d,g,B,_,_=>by rw[gv];exact B|f::b,d,g,B,k,p=>by let⟨t,r⟩:=zZ.1 p;let i:=k f<|ki ..;have:=Ul h m l b _ _ (B.snoc h m l i.2 i.1) (λn o=>⟨(k n<|mB _ o).1,λs=>by simp_all⟩) r;rw[eS] at this;trivial
def Uk{R:Z}{c:eI}(k:k2 R c){q_:Y Z}(o:∀J∈q_,J<R)(n:dT q_):aii R c (r5 c q_) q_:=by let B:=Ul k o n _ [] c (.nil k _) (λp l=>⟨l,kB⟩) Fv;refine⟨B.ok,B.ox,B.CL,λd e g h f=>?_,B.vI,B.grow,B.val⟩;let m:∀i∈q_,bR c i∈dU _ _:=λi aX=>Dk.2 ⟨i,aX,aa⟩;constructor;intro b;exact(B.sep d e g h f<|m d b).1 b;intro b;exact(B.sep d e g h f<|B.ox d e g h f▸m e b).2 b
def k2.count{R:Z}{d:eI}(c:k2 R d):U d.mem<=R:=by
 let e:∀b:Fin _,∃g,g∈y d.mem b.1 []:=λb=>List.exists_mem_of_ne_nil _<|c.ne b.1 b.2;let k:dT ((List.finRange _).map λb=>Classical.choose<|e b):=by refine Pb.2<|(Vo _).imp λ{h b} i he=>i ?_;let f:=((c.mem _ _).1<|JS<|e h).2.1;rw[he,((c.mem _ _).1<|JS<|e b).2.1] at f;exact JT<|bQ f
 have:=qj k (λg l=>by obtain⟨b,_,rfl⟩:=dI.1 l;exact hM.2 ((c.mem _ _).1<|JS _).1);simp_all
variable{cj:Z->Z->Z}
def GR(cj:Z->Z->Z)(R m:Z)(g:Y (Y Z))(f:eI):Prop:=∀d∈g,∀e<m,∀b c,b<R->c<R->bR f b=bR f c->(cj b e∈d↔cj c e∈d)
def GR.ox{b:Y (Y Z)}{d c:eI}(B:GR cj R m b d)(n:wV R c d):GR cj R m b c:=λi dM k o g h e f l=>B i dM k o g h e f<|n g h e f l
structure uy(cj:Z->Z->Z)(R m:Z)(acc:Z->X)(eqv:Z->Z->Prop)(s:eI):Prop where
 ok:k2 R s
 acc:∀T w,T<R->w<R->bR s T=bR s w->acc T=acc w
 eq:∀T w,T<R->w<R->eqv T w->bR s T=bR s w
 Hs:∃iX,Ac R iX s/\GR cj R m iX s
structure Ag(cj:Z->Z->Z)(R m:Z)(acc:Z->X)(eqv:Z->Z->Prop)(own:Y Z)(n:Z)(s:eI):Prop where
 ok:k2 R s
 acc:∀T w,T<R->w<R->bR s T=bR s w->acc T=acc w
 eq:∀T w,T<R->w<R->eqv T w->bR s T=bR s w
 ZJ:∀T w,T<R->w<R->eqv T w->(T∈own↔w∈own)
 lt:∀T∈own,T<R
 jw:dT own
 Hs:∃iX,Ac R (own::iX) s/\GR cj R m iX s
 part:∀I<n,∀T w,T<R->w<R->bR s T=bR s w->(cj T I∈own↔cj w I∈own)
def TE(b:eI):eI:=⟨b.of,b.mem,b.et.dropLast⟩
theorem k2.pop{c:eI}(b:k2 R c):k2 R (TE c):=⟨b.len,b.lt,b.mem,b.jw,b.ne,λd e=>b.sc d<|List.dropLast_subset _ e,b.wn.sublist<|List.dropLast_sublist _⟩
def uy.pop{i:Z->X}{k:Z->Z->Prop}{b:eI}(B:uy cj R m i k b){e:Z}{A:Y Z}(z:b.et=A++[e]):Ag cj R m i k (y b.mem e []) 0 (TE b):=by refine⟨B.ok.pop,B.acc,B.eq,λd h c g r=>?_,λd c=>((B.ok.mem e d).1 c).1,B.ok.jw e,?_,λp x=>cg x<|yl p⟩;have:=B.eq d h c g r;rw[B.ok.mem,B.ok.mem,this];omega;let⟨n,t,u⟩:=B.Hs;refine⟨n,λd h c g dM w=>?_,u⟩;refine t d h c g (λo v=>dM o<|mB _ v) λf l=>?_;rw[z,fp,eu] at l;rcases l with s|s;exact w f (by show f∈b.et.dropLast;simp_all);let C:=B.ok.sc f aq;have:=dM _<|ki ..;rw[B.ok.mem,B.ok.mem] at this;omega
theorem Ag.step{o:Z->X}{h:Z->Z->Prop}(y:∀b d c,c<m->b<R->d<R->h b d->h (cj b c) (cj d c))(s:∀b c,b<R->c<m->cj b c<R){n:Y Z}{c:Z}{r:eI}(B:Ag cj R m o h n c r)(l:c<m){k:Y Z}(w:∀b,b∈k↔b<R/\cj b c∈n)(x:dT k):Ag cj R m o h n (c+1) (r5 r k):=by let J:=Uk B.ok (λb e=>((w b).1 e).1) x;refine⟨J.ok,λb d e f g=>B.acc b d e f<|J.ox b d e f g,λb d e f g=>?_,B.ZJ,B.lt,B.jw,?_,?_⟩;apply J.val b d e f<|B.eq b d e f g;have:=B.ZJ _ _ (s b c e l) (s d c f l)<|y b d c l e f g;simp_all;let⟨t,u,v⟩:=B.Hs;exact⟨t,J.CL _ u,v.ox J.ox⟩;intro i z b d e f g;rcases hN i c with p|p;exact B.part i p b d e f<|J.ox b d e f g;obtain rfl:i=c:=q;have:=J.sep b d e f g;simp_all
def Ag.fin{c:Z->X}{e:Z->Z->Prop}{l:Y Z}{h:eI}(B:Ag cj R m c e l m h):uy cj R m c e h:=by let⟨p,s,t⟩:=B.Hs;refine⟨B.ok,B.acc,B.eq,l::p,s,λr dM d g n o i k f=>?_⟩;rcases fH.1 dM with b|b;subst b;exact B.part d g n o i k f;exact t r b d g n o i k f
def uy.done{k:Z->X}{l:Z->Z->Prop}(i:∀c b,c<R->b<m->cj c b<R){d:eI}(B:uy cj R m k l d)(u:d.et=[]){b:Z}(f:b<m){c e:Z}(g:c<R)(h:e<R)(n:bR d c=bR d e):bR d (cj c b)=bR d (cj e b):=by let⟨r,o,p⟩:=B.Hs;refine o _ _ (i c b g f) (i e b h f) (p · · b f c e g h n) λs t=>?_;simp_all
theorem uy.start{d:Z->X}{h:Z->Z->Prop}(r:∀b c,b<R->c<R->h b c->d b=d c)(p:0<R):uy cj R m d h (r5 ⟨cM R 0,[bM R],[0]⟩ (l_ d (bM R))):=by
 let aX:∀b,bR ⟨cM R 0,[bM R],[0]⟩ b=0:=by intro b;unfold bR;by_cases o:b<R;simp_all;simp_all
 let l:k2 R ⟨cM R 0,[bM R],[0]⟩:=by
  refine⟨ao,λb _=>aq,λf b=>?_,λf=>?_,λf k=>?_,λf k=>?_,ao⟩;grind;grind
  (simp_all;omega)
  simp_all
 let J:=Uk l (q_:=l_ d<|bM R) (λb e=>hM.1 (m9.1 e).1)<|List.nodup_range.filter _;let hm:∀b<R,b∈l_ d (bM R)↔d b:=λb e=>bi;refine⟨J.ok,λb c e g i=>?_,λb c e g i=>?_,[],J.CL [] ?_,λn dM=>cg dM kB⟩;have:=J.sep b c e g i;simp_all;apply J.val b c e g aq;grind;intro b c _ _ _ _;simp_all
def y7(R:Z)(b:eI):Z:=U b.et+(R-U b.mem)
theorem aw1{b:eI}(d:k2 R b){c:Y Z}(f:∀J∈c,J<R)(e:dT c):y7 R (r5 b c)=y7 R b:=by let J:=Uk d f e;let g:=J.ok.count;let h:=d.count;let i:=J.vI;grind[y7]
end p1
structure hD(z:bY):Prop where
 len:U z.next<=100000
 acc:U z.acc=U z.next
 j:∀D<U z.next,U (y z.next D [])=256
 start:z.start<U z.next
 dst:∀D Q,D<U z.next->Q<256->y (y z.next D []) Q 0<U z.next
def ey(b:bY)(c:Z):Y Z:=y b.next c []
def c3(b:bY)(c:Z):Y Z:=cz (ey b) [b.start] c
def lW(b:bY)(c d:Z):Y Z:=iZ (c3 b c)<|am d<|ey b<|y (c3 b c) c 0
def i1(R:Z)(H:Y Z):Y X:=(bM R).map λb=>aH<|b∈H
theorem L8 R H:U (i1 R H)=R:=by simp[i1,bm,ij]
theorem HI{R:Z}{H:Y Z}{b:Z}:b<R->(i1 R H)[b]?=W (aH (b∈H)):=by grind[i1,List.getElem?_range]
def L9{R:Z}{H:Y Z}{b:Z}(f:b∉H):aR (i1 R H) b ag=i1 R (note H b):=by refine jn λe=>?_;rw[qo,L8];by_cases c:e<R;rw[HI c,HI c];by_cases d:b=e;subst d;rw[af aa,af c];congr 1;symm;rw[kk,Ip]<;>simp_all;rw[ad d];congr 1;rw[nA,kk,kk,Ip]<;>grind;simp_all[i1,zV,L8,note,ad]
def Rg R:i1 R []=cM R ae:=by refine jn λb=>?_;grind[HI,List.getElem?_eq_none,L8]
def Uw{b:bY}(f:hD b){c:Z}(e:c<U b.next):∀g∈ey b c,g<U b.next:=λg i=>by obtain⟨d,h,rfl⟩:=m_.1 i;have:y (ey b c) d 0<U b.next:=f.dst c d e (by rw[<-f.j c e];exact h);simp_all
def qV{b:bY}(e:hD b)f:∀d∈c3 b f,d<U b.next:=uF (λd c=>by rw[eu.1 c];exact e.start) (λd c=>Uw e c) f
def zg c b:dT (c3 c b):=Cz ao b
def tM{H:Y Z}{R:Z}(c:dT H)(d:∀b∈H,b<R):U H<=R:=by have:=qj (Q:=bM R) c λb e=>hM.2 aq;simp_all
def SA{c:bY}(f:hD c){b:Z}(i:b<U (c3 c b))g:(∀d∈lW c b g,d<U c.next)/\dT (lW c b g):=by refine⟨λd h=>?_,AF _<|zg c b⟩;rcases(yS _ _ _).1 h with e|e;exact qV f b d e;exact Uw f (qV f b _ aq) d<|pE e
def aqB{c:bY}(d:hD c){b:Z}(e:b<U (c3 c b)):lW c b 256=c3 c (b+1):=by unfold lW;rw[kC (by rw[ey,d.j _<|qV d b _ aq];omega)];grind[yG,c3,List.getElem?_eq_getElem]
def aqC{c:bY}(e:hD c){b d:Z}(g:b<U (c3 c b))(f:d<256):lW c b (d+1)=note (lW c b d) (y (ey c (y (c3 c b) b 0)) d 0):=by unfold lW;let h:U (ey c<|y (c3 c b) b 0)=256:=e.j _<|qV e b _ aq;grind[List.take_add_one,List.getElem?_eq_getElem,iZ,AG]
def aqA{c:bY}{b:Z}(e:b<U (c3 c b))d:(lW c b d)[b]?=W (y (c3 c b) b 0):=by apply zp<|CN _ _;simp_all
def abK d(h:hD d)g(z:g=U d.next):bh 230 [ga d] (.al 1 (ab l (c3 d g))):=by
 refine bs func230 [] λp A=>?_;have:=h.start;have:=h.len;refine kS g g (ab bE<|i1 g []) ?_ (k:=aq) (lR:=aq) (aU:=by rw[Rg,B3];rfl);refine n0 ?_;refine cE d.start ?_ (k:=q);refine fF (ab bE<|i1 g [d.start]) (bE ae) (bE ag) ?_ (k:=Pp) (aU:=by rw[<-hl,L9 (H:=[]) kB];rfl);refine e9 g (λc=>⟨[(1,b 1),(5,l c),(3,.a 11 0 g),(4,.a 14 0<|U<|ab l<|c3 d c)],[(1,ah 119<|ga d),(11,.j 1 4<|ab bE<|i1 g<|c3 d c),(14,.j 1 3<|ab l<|c3 d c)],[]⟩) λc k=>?_;apply f<;>intro B
 .have i:c<U (c3 d c):=q;have:=tM (zg d c)<|qV h c;have o:y (c3 d c) c 0<U d.next:=qV h c _<|dL i;have:=h.j _ o;refine e9 256 (λe=>⟨[(1,b 1),(5,l c),(6,l e),(3,.a 11 0 g),(4,.a 14 0<|U<|ab l<|lW d c e)],[(1,ah 119<|ga d),(11,.j 1 4<|ab bE<|i1 g<|lW d c e),(14,.j 1 3<|ab l<|lW d c e)],[]⟩) λe n=>?_;apply f<;>intro C
  .have n:e<256:=q;let⟨t,u⟩:=SA h i e;have m:=aqC h i n;have v:=aqA i e;have:y (ey d (y (c3 d c) c 0)) e 0<U d.next:=h.dst _ e o n;have:=tM u t;have:c<U (lW d c e):=(eX.1 v).1;refine fA ?_;refine cE c ?_ (k:=bi);refine fl (l<|y (c3 d c) c 0) ?_ (k:=aq);refine bB (y (c3 d c) c 0) (ca<|ey d<|y (c3 d c) c 0) ?_ (k:=AW o);refine bB e (l<|y (ey d<|y (c3 d c) c 0) e 0) ?_ (k:=eE (by grind[ey]));refine cE (y (ey d<|y (c3 d c) c 0) e 0) ?_ (k:=q);refine fl (bE<|aH<|y (ey d<|y (c3 d c) c 0) e 0∈lW d c e) ?_ (k:=Pp);apply f<;>intro r
   .have s:y (ey d (y (c3 d c) c 0)) e 0∉lW d c e:=by simpa using r
    have:lW d c (e+1)=lW d c e++[y (ey d (y (c3 d c) c 0)) e 0]:=by rw[m,note,ad s]
    have:U (lW d c (e+1))<=U d.next:=tM (SA h i<|e+1).2 (SA h i<|e+1).1;refine cE (y (ey d<|y (c3 d c) c 0) e 0) ?_ (k:=q);refine fF (ab bE<|i1 g<|lW d c<|e+1) (bE ae) (bE ag) ?_ (k:=by grind[HI,decide_eq_false]) (aU:=by rw[<-hl,L9 s,m]);refine cp ?_;refine eB (ab l<|lW d c<|e+1) ?_ (aU:=aK) (bl:=bi);refine aY ?_;exact a4<|e+1
   have x:y (ey d (y (c3 d c) c 0)) e 0∈lW d c e:=by simpa using r
   rw[show lW d c e=lW d c (e+1) by rw[m,note,af x]];refine aY ?_;exact a4<|e+1
  obtain rfl:e=256:=q;rw[aqB h i];refine aY ?_;exact a4<|c+1
 have w:c3 d g=c3 d c:=tt (show U (c3 d c)<=c by omega) k;rw[w];exact gq 14 aL
def m4(c H:Y Z)(R:Z):Z->Y Z|0=>cM R 0|b+1=>aR (m4 c H R b) (y c (y H (U H-1-b) 0) 0)<|y H (U H-1-b) 0
theorem Of{cl H:Y Z}{R:Z}:∀b,U (m4 cl H R b)=R|0=>wK ..|b+1=>by rw[m4,nC,Of b]
def aft{cl H:Y Z}{R m:Z}(e:0<m)(d:∀f∈H,f<m):∀c≤U H,∀b,y (m4 cl H R c) b 0<m|0,_,b=>by grind[m4]|c+1,g,b=>by rw[m4,xl];split;grind[dL];exact aft e d c q b
def w2(b:bY)(d:Y Z)(c:Z):X:=y b.acc (y d c 0) ae
def w1(c:bY)(M:Y Z)(b:Z):X:=y c.acc (y M b 0) ae
def ub(b:bY)(d f:Y Z)(e:Z):Y Z:=(bM 256).map λc=>y d (y (ey b<|y f e 0) c 0) 0
def fb(b:bY)(c d:Y Z)(R:Z):bY:=⟨y c b.start 0,ab (w2 b d)<|bM R,ab (ub b c d)<|bM R⟩
def qB(M:Y Z)(R:Z):Z->Y Z|0=>cM R 0|b+1=>aR (qB M R b) (y M b 0) b
def ua(d:bY)(M x:Y Z)(c:Z):Y Z:=(bM 256).map λb=>y x (y (ey d<|y M c 0) b 0) 0
def Tg(b:bY)(M x:Y Z):bY:=⟨0,ab (w1 b M)<|bM<|U M,ab (ua b M x)<|bM<|U M⟩
def Ir(c:bY)(H b:Y Z)(R:Z):bY:=Tg (fb c b (m4 b H R<|U H) R) (c3 (fb c b (m4 b H R<|U H) R) R)<|qB (c3 (fb c b (m4 b H R<|U H) R) R) R<|U<|c3 (fb c b (m4 b H R<|U H) R) R
def jA(d:Z->Z)(c:Z):Y Z:=(bM 256).map λb=>if b<c then d b else 0
theorem T2{c:Z->Z}{b:Z}:U (jA c b)=256:=ba
def T1{b:Z->Z}:jA b 256=ab b (bM 256):=hY λc k=>af<|hM.1 k
def azA b:jA b 0=cM 256 0:=by rfl
theorem T3{c:Z->Z}{b:Z}(d:b<256):aR (jA c b) b (c b)=jA c (b+1):=by refine jn λe=>?_;rw[qo,T2];unfold jA;grind
def IN{e f:Type}c(d:e->f)b:ab d (ab c (bM b))++[d (c b)]=ab d (ab c (bM (b+1))):=by simp[sh,dc]
def yZ(b:bY)(d f:Y Z)(e:Z):Z->Z:=λc=>y d (y (ey b<|y f e 0) c 0) 0
def G2{H:Y X}{b:Z}:b<U H->(ab bE H)[b]?=W (bE (y H b ae)):=by simp_all
def MY R:cM R (V.zero Md.z)=ab l (cM R 0):=wP
def Jn{b:bY}{d c:Z}(e:c<U (ey b d)):(ab l (ey b d))[c]?=W (l (y (ey b d) c 0)):=eE e
def Oo{b:bY}(f:hD b){c Q:Z}(e:c<U b.next)(d:Q<256):Q<U (ey b c)/\y (ey b c) Q 0<U b.next:=⟨by rw[show U (ey b c)=256 from f.j c e];exact d,f.dst c Q e d⟩
def Jm{b:bY}{c:Z}(d:c<U b.next):(ab ca b.next)[c]?=W (ca (ey b c)):=AW d
def anE{b:bY}{d f:Y Z}{e c:Z}(g:y (ey b (y f e 0)) c 0<U d):(ab l d)[y (ey b (y f e 0)) c 0]?=W (l (yZ b d f e c)):=eE g
def aiu{b:bY}{d:Y Z}{c:Z}(e:y d c 0<U b.acc):(ab bE b.acc)[y d c 0]?=W (bE (w2 b d c)):=G2 e
def avx b c e d:jA (yZ b c e d) 256=ub b c e d:=T1
theorem aeO b c e d:U (ub b c e d)=256:=ba
theorem ad6{c:bY}{d e:Y Z}{R b:Z}:b<R->(fb c d e R).next.getD b []=ub c d e b:=by grind[fb,List.getElem?_range]
def auu{z:bY}{b sm:Y Z}{R:Z}(c:∀f,y b f 0<R)(i:R<=100000):hD (fb z b sm R):=by
 let d:(fb z b sm R).next.length=R:=by unfold fb;rw[bm,ij]
 refine⟨q,by simp[fb,bm,ij],λe k=>?_,by rw[d];exact c _,λe g k h=>?_⟩;grind[ad6,aeO];grind[ad6,ub,List.getElem?_range]
def y4(d:bY)(M x:Y Z)(c:Z):Z->Z:=λb=>y x (y (ey d<|y M c 0) b 0) 0
def an5{d:bY}{M x:Y Z}{c b:Z}(e:y (ey d (y M c 0)) b 0<U x):(ab l x)[y (ey d (y M c 0)) b 0]?=W (l (y4 d M x c b)):=eE e
def aja{c:bY}{M:Y Z}{b:Z}(d:y M b 0<U c.acc):(ab bE c.acc)[y M b 0]?=W (bE (w1 c M b)):=G2 d
def avv c M x b:jA (y4 c M x b) 256=ua c M x b:=T1
def avw c M x b:U (ua c M x b)=256:=ba
theorem KJ{M:Y Z}{R:Z}:∀b,U (qB M R b)=R|0=>wK ..|b+1=>by rw[qB,nC,KJ b]
def im(b:bY)(d:Z)(c:C):Z:=y (ey b d) (ax c) 0
def hS(b:bY)(c:Z):X:=y b.acc c ae
def i3(b:bY):uz:=jF (im b) (hS b) b.start
def sD:Z:=100000
theorem Qj:sD=100000:=aa
attribute [irreducible] sD
noncomputable def mi(b:uz):bY:=⟨0,(w_ b sD).acc,(w_ b sD).next⟩
theorem vh{b:Z}(c:b<256):ax (gn b)=b:=bi
def NQ{d f:Type}(H:Y d)e(b:d->f):((bM (U H)).map λc=>b<|y H c e)=ab b H:=by refine jn λc=>?_;grind
def WV{succ DM:Z->Y Z}{G:Z->Prop}{bP:Y Z}(f:∀b∈bP,G b)(g:∀b,G b->∀d∈succ b,G d)(h:∀b,G b->DM b=succ b){c:Z}:cz DM bP c=cz succ bP c:=by have:=P9 (λb d _ _ e=>e) (DM:=DM) f g (λb i=>aq) c;simp_all
def auR(H:Y Z):U H=256->((bM 256).map λb=>y H (ax<|gn b) 0)=H:=by
 let e:((bM 256).map λb=>y H (ax<|gn b) 0)=(bM 256).map λb=>y H b 0:=hY λb f=>by grind[vh]
 let d:=NQ H 0 λc=>c;grind[List.map_id']
theorem abJ{b:bY}(d:hD b){c:Z}(f:c∈c3 b (U b.next)){e:C}:im b c e∈c3 b (U b.next):=by
 apply G1 (tM (zg b<|U b.next)<|qV d<|U b.next) f _;let g:U (ey b c)=256:=by have:=d.j c<|qV d _ c f;exact this
 exact dL (by rw[g];exact mE e)
def SC{z:bY}{D:Z}:z.start∈c3 z D:=(pQ<|dJ D).subset (by simp[cz])
def afu{b H:Y Z}{R:Z}(i:∀k∈H,y b k 0<R):∀d≤U H,∀c,U H-d<=c->c<U H->y (m4 b H R d) (y b (y H c 0) 0) 0∈H/\y b (y (m4 b H R d) (y b (y H c 0) 0) 0) 0=y b (y H c 0) 0|0,_,c,h,e=>q|d+1,l,c,h,e=>by have:y H (U H-1-d) 0∈H:=dL q;rw[m4,xl];by_cases g:y b (y H (U H-1-d) 0) 0=y b (y H c 0) 0;simp_all[af,Of,dL];rw[ad λf=>g f.1];refine afu i d q c ?_ e;grind
theorem aoO{M:Y Z}(c:dT M){b:Z}:b<U M->h2 (y M b 0) M=b:=by simp_all
def WH{M:Y Z}{R:Z}(f:dT M)(e:∀h∈M,h<R):∀c≤U M,∀b<c,y (qB M R c) (y M b 0) 0=b|0,_,b,g=>q|c+1,i,b,g=>by rw[qB,xl];by_cases d:b=c;subst d;rw[af ⟨aa,by grind[KJ,dL]⟩];rw[ad];exact WH f e c q b q;grind[aoO]
def ajn{M:Y Z}{R:Z}(e:dT M)(d:∀b∈M,b<R){b:Z}(f:b∈M):y (qB M R (U M)) b 0=h2 b M:=by let c:=vq f;have:=WH e d _ (bv _) _ c;simp_all
def arH{z:bY}(P:hD z){cl:Y Z}{R:Z}(f:∀b∈c3 z (U z.next),y cl b 0<R)(u:∀B<R,∃b∈c3 z (U z.next),y cl b 0=B)(K:R<=100000)(E:yw (·∈c3 z (U z.next)) (im z) (hS z) (y cl · 0)):Ir z (c3 z (U z.next)) cl R=mi (i3 z):=by
 generalize A:c3 z (U z.next)=H at f u E;have r:z.start∈H:=A▸SC;have p:∀b∈H,y (m4 cl H R (U H)) (y cl b 0) 0∈H/\y cl (y (m4 cl H R (U H)) (y cl b 0) 0) 0=y cl b 0:=λb e=>by have k:=vq e;have:=afu f (U H) (bv _) (h2 b H) q k;simp_all
 have h:=(E.w_ (gU:=λc=>y (m4 cl H R<|U H) c 0) p r sD).1;unfold Ir;generalize Q:m4 cl H R (U H)=sm at p h;have:∀b∈H,b<U z.next:=A▸qV P _;have J:∀b∈H,∀d,im z b d∈H:=λb e d=>by grind[abJ]
 have x:∀c<R,∀d,y cl (im z (y sm c 0) d) 0<R:=λc m d=>by obtain⟨b,e,rfl⟩:=u c m;exact f _<|J _ (p b e).1 d
 have F:∀c<R,ey (fb z cl sm R) c=g2 (λc d=>y cl (im z (y sm c 0) d) 0) c:=λc m=>by rw[ey,fb,dX,db,zW m];rfl
 have l:∀D,c3 (fb z cl sm R) D=cz (g2 λc d=>y cl (im z (y sm c 0) d) 0) [y cl z.start 0] D:=λD=>
  WV (G:=λc=>c<R) (λb e=>by rw[eu.1 e];exact f _ r) (λb e=>Ot (G:=λc=>c<R) (λt d aX=>x t aX d) e) F
 have n:dT (c3 (fb z cl sm R) R):=zg _ R;have g:∀b∈c3 (fb z cl sm R) R,b<R:=by rw[l R];exact uF (G:=λc=>c<R) (λb e=>by rw[eu.1 e];exact f _ r) (λb e=>Ot (G:=λc=>c<R) (λt d aX=>x t aX d) e) R
 have C:=tM n g;have O:cz (g2 λc d=>y cl (im z (y sm c 0) d) 0) [y cl z.start 0] sD=c3 (fb z cl sm R) R:=by rw[l R];exact tt (D:=R) (cs:=sD) (by rw[<-l R];exact C) (by rw[Qj];exact K)
 rw[O] at h;have v:∀b∈c3 (fb z cl sm R) R,∀I∈g2 (λc d=>y cl (im z (y sm c 0) d) 0) b,I∈c3 (fb z cl sm R) R:=λb e I S=>by grind[G1]
 generalize c3 (fb z cl sm R) R=M at n g C h v;unfold mi;rw[show w_ (i3 z) sD=_ from h];unfold Tg Cx;congr 1;show ab (λD=>(fb z cl sm R).acc.getD (y M D 0) ae) (bM<|U M)=_;rw[NQ M 0 ((fb z cl sm R).acc.getD · ae)];refine hY λb e=>?_;rw[fb,dX,db,zW<|g b e];rfl;show ab (ua (fb z cl sm R) M (qB M R (U M)) ·) (bM (U M))=_;unfold ua;rw[NQ M 0 λb=>(bM 256).map λd=>y (qB M R<|U M) (y (ey (fb z cl sm R) b) d 0) 0];refine hY λb e=>?_;have o:=auR (g2 (λc d=>y cl (im z (y sm c 0) d) 0) b) (by rw[g2,bm,ij]);rw[F b<|g b e];have w:=v b e;generalize g2 (λc d=>y cl (im z (y sm c 0) d) 0) b=s at o w⊢;have L:((bM 256).map λd=>y s d 0)=s:=(hY λd i=>by rw[vh<|hM.1 i]).symm.trans o;have N:U s=256:=by rw[<-o,bm,ij]
 conv=>rhs;rw[<-L]
 rw[i_];refine hY λd i=>?_;exact ajn n g<|w _<|dL (by rw[N];exact hM.1 i)
def Lj{bb:Type} [hO bb]:∀(b H:Y bb),U (iZ H b)<=U H+U b
|[],H=>by simp[X1,z2]|R::b,H=>by
 rw[Li];let c:=Lj b<|note H R;let d:U (note H R)<=U H+1:=by unfold note;split;omega;simp
 (simp;omega)
def qe(c:Z->Z):Z->Y (Z×Z)|0=>[]|b+1=>qe c b++(if b=0\/c b≠c (b-1) then[(b,c b)] else[])
def oy(H:Y (Z×Z)):Y Z:=H.flatMap λb=>[b.1,b.2]
def YV:∀{H m:Y (Z×Z)},oy H=oy m->H=m|[],[],_=>aa|[],c::m,b=>cf|c::H,[],b=>cf|c::H,d::m,b=>by simp[oy,wJ,kh,List.cons.injEq] at b;rw[YV b.2.2,Prod.ext b.1 b.2.1]
def T0 d:∀B,∀c∈qe d B,c.1<B|0,c,b=>cg b kB|B+1,c,b=>by rcases fp.1 b with b|b;exact z3<|T0 d B c b;simp_all
def TZ{d b:Z->Z}:∀B,qe d B=qe b B->∀c<B,d c=b c|0,_,c,k=>q|B+1,e,c,k=>by rw[qe,qe] at e;by_cases h:B=0\/d B≠d (B-1);by_cases f:B=0\/b B≠b (B-1);rw[af h,af f] at e;let⟨i,l⟩:=U5 e aa;rcases hN c B with g|g;exact TZ B i c g;grind;have:=T0 b B (B,d B) aK;omega;by_cases f:B=0\/b B≠b (B-1);have:=T0 d B (B,b B) aq;omega;rw[ad h,ad f,gv,gv] at e;let m:=TZ B e;grind
def aeM{d e:Z->Z}:∀B,(∀b<B,d b=e b)->qe d B=qe e B|0,_=>aa|B+1,c=>by rw[qe,qe,aeM B λb f=>c b q,c B q,c _ q]
def n9(d:bY)(b:Y Z)(c:Z):Y Z:=y b c 0::oy (qe (λe=>y b (y (ey d c) e 0) 0) 256)
theorem I4{d:bY}{c:Y Z}{f g:Z}:n9 d c f=n9 d c g↔y c f 0=y c g 0/\∀b,y c (im d f b) 0=y c (im d g b) 0:=by unfold n9;rw[List.cons.injEq];refine VC nJ ⟨λe b=>?_,λe=>?_⟩;exact TZ 256 (YV e) _<|mE b;rw[aeM 256 λb h=>?_];have:=e<|gn b;grind[im,vh]
def gX{bb:Type} [hO bb](H:Y bb)(b:bb):Z:=h2 b H
def A_{bb:Type} [hO bb]{H:Y bb}{b:bb}(c:b∈H):gX H b<U H:=vq c
theorem RB{bb:Type} [hO bb]{H:Y bb}{b:bb}(c:gX H b<U H):H[gX H b]=b:=O5 c
theorem y8{bb:Type} [hO bb]{H m:Y bb}(c:H<+:m){b:bb}(d:b∈H):gX m b=gX H b:=atQ c d
theorem Dc{bb:Type} [hO bb]{H:Y bb}(c:dT H){B:Z}(b:B<U H):gX H H[B]=B:=List.Nodup.idxOf_getElem c B b
def fK(b:bY)(c H:Y Z)(d:Z):Y (Y Z):=iZ [] (ab (n9 b c)<|am d H)
def ig(b:bY)(d H:Y Z):Z->Y Z|0=>cM (U b.next) 0|c+1=>aR (ig b d H c) (y H c 0)<|gX (fK b d H<|c+1)<|n9 b d<|y H c 0
theorem FC{z:bY}{cl H:Y Z}:∀b,U (ig z cl H b)=U z.next|0=>wK ..|b+1=>by rw[ig,nC,FC b]
theorem rc{c:Type}{H:Y c}{I:c}{b:Z}:b<U H->am (b+1) H=am b H++[y H b I]:=by simp_all
def aav{z:bY}{cl:Y Z}{H:Y Z}{b:Z}:b<U H->fK z cl H (b+1)=note (fK z cl H b) (n9 z cl (y H b 0)):=by grind[fK,rc,AG]
theorem apu b c H d:dT (fK b c H d):=AF _ Pa
def HW{b:bY}{c H:Y Z}{d:Z}{e:Y Z}:e∈fK b c H d↔∃f∈am d H,n9 b c f=e:=by unfold fK;rw[yS,dI];simp
def acr{e:bY}{f H:Y Z}(i:∀b∈H,b<U e.next):∀d≤U H,∀b∈am d H,y (ig e f H d) b 0=gX (fK e f H d) (n9 e f b)|0,_,b,c=>cf|d+1,k,b,c=>by rw[ig,xl];by_cases g:y H d 0=b;rw[af ⟨g,by grind[FC,dL]⟩,g];rw[ad λh=>g h.1];rw[rc (I:=0) q] at c;rcases fp.1 c with c|c;rw[acr i d q b c,aav q];exact bQ<|y8 S5<|HW.2 ⟨b,c,aa⟩;simp_all
def arQ{z:bY}{cl H:Y Z}(b:∀T∈H,T<U z.next){T:Z}(c:T∈H):y (ig z cl H (U H)) T 0=gX (fK z cl H (U H)) (n9 z cl T):=acr b _ (bv _) T bi
def acs{c:bY}{d H:Y Z}{m:Z}(h:U H<=m)(f:0<m):∀b≤U H,∀e,y (ig c d H b) e 0<m
|0,_,e=>by grind[ig]|b+1,k,e=>by
 rw[ig,xl];split;let g:n9 c d (y H b 0)∈fK c d H (b+1):=HW.2 ⟨_,by grind[rc],aa⟩;let i:=A_ g;let l:=by have:=Lj (am (b+1) H|>.map (n9 c d)) [];rw[bm,nD] at this;let n:U (fK c d H _)<=0+min _ _:=this;omega
 omega;exact acs h f b q e
structure Ak(z:bY)(H cl:Y Z)(R:Z):Prop where
 len:U cl=U z.next
 acc:∀T w,T∈H->w∈H->y cl T 0=y cl w 0->hS z T=hS z w
 aaF:∀T w,T∈H->w∈H->jF (im z) (hS z) T=jF (im z) (hS z) w->y cl T 0=y cl w 0
 vI:R=0\/(∀T∈H,y cl T 0<R)/\∀B<R,∃T∈H,y cl T 0=B
 lt:∀T,y cl T 0<200000
def lO(b:bY)(H:Y Z):Z->Y Z|0=>cM (U b.next) 0|c+1=>if hS b (y H c 0) then aR (lO b H c) (y H c 0) 1 else lO b H c
theorem EF{c:bY}{H:Y Z}:∀b,U (lO c H b)=U c.next|0=>wK ..|b+1=>by rw[lO];split;rw[nC,EF b];exact EF b
def Qp{d:bY}{H:Y Z}:∀c b,y (lO d H c) b 0<200000|0,b=>by rw[lO,dX,zX];grind|c+1,b=>by rw[lO];split;rw[xl];split;omega;exact Qp c b;exact Qp c b
def Xh{d:bY}{H:Y Z}(g:∀b∈H,b<U d.next):∀c≤U H,∀b,y (lO d H c) b 0=if b∈am c H/\hS d b then 1 else 0
|0,_,b=>by rw[lO,dX,zX];grind|c+1,k,b=>by
 let i:=Xh g c q b;let h:b∈am (c+1) H↔b∈am c H\/b=y H c 0:=by rw[rc (I:=0) q];simp
 rw[lO];split;rename_i f;rw[xl];by_cases e:y H c 0=b;rw[af ⟨e,by grind[EF,dL]⟩,af ⟨h.2<|bp<|bQ e,e▸f⟩];grind;grind
theorem Ak.start{c:bY}{H:Y Z}(g:∀b∈H,b<U c.next):Ak c H (lO c H (U H)) 0:=by
 let i:∀b∈H,y (lO c H _) b 0=if hS c b then 1 else 0:=λb e=>by rw[Xh g _ (bv _) b,iJ];simp_all
 refine⟨EF _,λb f e h d=>?_,λb f e h d=>?_,bj aa,Qp _⟩;grind;have:=Pt d [];have:hS c b=hS c f:=this;grind
theorem Ak.step{z:bY}(l:hD z){cl:Y Z}{R:Z}{H:Y Z}(h:H=c3 z (U z.next))(B:Ak z H cl R):Ak z H (ig z cl H (U H)) (U (fK z cl H (U H)))/\R<=U (fK z cl H (U H))/\0<U (fK z cl H (U H))/\U (fK z cl H (U H))<=U H/\(U (fK z cl H (U H))=R->yw (·∈H) (im z) (hS z) (y (ig z cl H (U H)) · 0)/\(∀T∈H,y (ig z cl H (U H)) T 0<R)/\∀B<R,∃T∈H,y (ig z cl H (U H)) T 0=B):=by
 let J:∀T∈H,T<U z.next:=h▸qV l _;let p:∀T∈H,∀Q,im z T Q∈H:=λT b Q=>by rw[h] at b⊢;exact abJ l b
 let M:z.start∈H:=h▸SC;let X:U H<=U z.next:=h▸tM (zg z<|U z.next) (qV l<|U z.next);let r:=λT b=>arQ (z:=z) (cl:=cl) J (T:=T) b;let s:∀T∈H,n9 z cl T∈fK z cl H (U H):=λT b=>HW.2 ⟨T,bi,aa⟩;let g:∀T c,T∈H->c∈H->(y (ig z cl H<|U H) T 0=y (ig z cl H<|U H) c 0↔n9 z cl T=n9 z cl c):=λT c b e=>by rw[r T b,r c e];refine⟨λd=>?_,λd=>by rw[d]⟩;let C:=A_<|s T b;let P:=A_<|s c e;let O:(fK z cl H<|U H)[gX (fK z cl H<|U H) (n9 z cl T)]=n9 z cl T:=RB C;grind[fK,gX,n9,RB]
 let i:∀T∈H,y (ig z cl H<|U H) T 0<U (fK z cl H<|U H):=λT b=>by rw[r T b];exact A_<|s T b
 let v:∀B<U (fK z cl H<|U H),∃T∈H,y (ig z cl H<|U H) T 0=B:=λB E=>by let⟨T,b,d⟩:=HW.1<|hL E;grind[Dc,apu]
 let K:R<=U (fK z cl H<|U H):=by
  rcases B.vI with d|⟨t,o⟩;omega;let w:∀f:Fin R,∃T∈H,y cl T 0=f.1:=λf=>o f.1 f.2;let k:=λf:Fin R=>JS<|w f;let L:dT ((List.finRange R).map λf=>y (ig z cl H<|U H) (Classical.choose<|w f) 0):=by refine Pb.2<|(Vo R).imp λ{A f} D he=>D ?_;have:=(I4.1<|(g _ _ (k A).1 (k f).1).1 he).1;rw[(k A).2,(k f).2] at this;exact JT this
  have:=qj (Q:=bM<|U<|fK z cl H<|U H) L λap aX=>by grind
  simpa using this
 let u:∀T c,T∈H->c∈H->y (ig z cl H<|U H) T 0=y (ig z cl H<|U H) c 0->hS z T=hS z c:=λT c b e d=>B.acc T c b e (I4.1<|(g T c b e).1 d).1;let x:∀T c,T∈H->c∈H->jF (im z) (hS z) T=jF (im z) (hS z) c->y (ig z cl H<|U H) T 0=y (ig z cl H<|U H) c 0:=λT c b e d=>by refine(g T c b e).2<|I4.2 ⟨B.aaF T c b e d,λQ=>B.aaF _ _ (p T b Q) (p c e Q) ?_⟩;have:=ea (yQ · Q) d;trivial
 let F:U (fK z cl H<|U H)<=U H:=by have:=Lj (ab (n9 z cl)<|am (U H) H) [];rw[bm,nD] at this;let S:U (fK z cl H<|U H)<=0+min (U H) (U H):=this;omega
 refine⟨⟨FC _,u,x,bp ⟨i,v⟩,acs (m:=200000) (by have:=l.len;omega) q _<|bv _⟩,K,?_,F,λd=>⟨?_,d▸i,d▸v⟩⟩;grind;refine yw.of (λT Q b=>p T b Q) (x · · · ·) (u · · · ·) λT c Q b e he=>?_;rcases B.vI with N|⟨t,o⟩;have:=i _ M;omega;let ak:=avZ (G:=λT=>T∈H) (n:=λT=>y cl T 0) (I:=λT=>y (ig z cl H<|U H) T 0) (R:=R) (d▸i · ·) o t λT c b e d=>(I4.1<|(g T c b e).1 d).1;grind[I4]
section
variable[hO bb]
def ot(cj:bb->C->bb)(b:bb->X)(H:Y bb):bY:=⟨0,ab b H,H.map λc=>ab H.idxOf<|g2 cj c⟩
def P3{cj:bb->C->bb}{acc:bb->X}{H:Y bb}{b:Z}(c:b<U H):ey (ot cj acc H) b=ab H.idxOf (g2 cj H[b]):=by grind[ey,ot,List.getElem?_eq_getElem]
theorem af4 cj(b:bb):U (g2 cj b)=256:=ba
def Oq cj(c:bb){b:Z}:b<256->(g2 cj c)[b]?=W (cj c (gn b)):=by grind[g2,List.getElem?_range]
def WM{cj:bb->C->bb}{acc:bb->X}{H:Y bb}(i:∀e∈H,∀f∈g2 cj e,f∈H)(l:U H<=100000)(c:0<U H):hD (ot cj acc H):=by let b:(ot cj acc H).next.length=U H:=bm ..;refine⟨q,by rw[b];exact bm ..,λd k=>?_,by rw[b];exact c,λd g k h=>?_⟩;rw[b] at k;have:=P3 (cj:=cj) (acc:=acc) k;grind[ey,List.length_map,af4];rw[b] at k⊢;have:=P3 (cj:=cj) (acc:=acc) k;rw[ey] at this;grind
theorem ajv{cj:bb->C->bb}{d:bb->X}{H:Y bb}{c:bb}(e:c∈H)b:im (ot cj d H) (h2 c H) b=h2 (cj c b) H:=by let k:=vq e;rw[im,P3 k,dX,db,Oq cj _<|mE b];simp
def P2{cj:bb->C->bb}{acc:bb->X}{H:Y bb}(f:∀b∈H,∀h∈g2 cj b,h∈H):∀c{b:bb},b∈H->q6 (im (ot cj acc H)) (h2 b H) c=h2 (q6 cj b c) H/\q6 cj b c∈H
|[],b,d=>⟨aa,d⟩|e::c,b,d=>by let g:cj b e∈H:=f b d _ (by have:=dY<|Oq cj b<|mE e;simp_all);let i:=P2 (acc:=acc) f c g;grind[q6,im,ot,ajv]
theorem aju{cj:bb->C->bb}{c:bb->X}{H:Y bb}{b:bb}(d:b∈H):hS (ot cj c H) (h2 b H)=c b:=by let k:=vq d;rw[hS,ot,dX,db,cT k];simp
def WL{cj:bb->C->bb}{acc:bb->X}{H:Y bb}(g:∀c∈H,∀b∈g2 cj c,b∈H){c:bb}(e:H[0]?=W c):i3 (ot cj acc H)=jF cj acc c:=by
 obtain⟨b,d,rfl⟩:∃b d,H=b::d:=by
  cases H;cases e
  next b d=>simp
 obtain rfl:b=c:=aq;let h:h2 b (b::d)=0:=ao;funext f;cases P2 (acc:=acc) g f (dY e);show hS _ (q6 _ 0 f)=acc _;grind[aju]
end
def p5(e:Y (Y (L×L)))(b:Y Z)(c:Z):Y Z:=b.filter λd=>jt (y e d []) (c:L)
def ng(c:Y (Y Z))(d:Y Z):Y Z:=d.foldl (λb e=>ee b<|y c e []) []
abbrev ik:=Option<|Y Z
def ob(b:bg)(J:bZ):ik->Y Z|ai=>J.first|W c=>ng b.cn c
def j8(b:bg)(J:bZ)(d:ik)(c:C):ik:=W<|p5 b.aJ (ob b J d)<|ax c
def sy(J:bZ):ik->X|ai=>J.empty|W b=>fB b λc=>aH<|c∈J.last
def du(b:bg)(J:bZ)(c:Z):Y ik:=cz (g2<|j8 b J) [ai] c
def eW(b:bg)(J:bZ)(c d:Z):Y ik:=iZ (du b J c)<|am d<|g2 (j8 b J)<|y (du b J c) c ai
def h_(ak:Y ik):Y (Y Z):=ak.filterMap id
def mK(ak:Y ik):Prop:=ak=ai::ab W (h_ ak)
theorem mK.one:mK [ai]:=aa
def mK.mem{ak:Y ik}(c:mK ak)b:W b∈ak↔b∈h_ ak:=by simp[h_]
theorem mK.note{ak:Y ik}(d:mK ak)b:mK (note ak (W b))/\h_ (note ak (W b))=fe.note (h_ ak) b:=by unfold fe.note;by_cases c:W b∈ak;rw[af c,af<|(d.mem b).1 c];trivial;grind[h_,mK]
theorem mK.iZ:∀(b:Y ik){ak:Y ik},mK ak->(∀e∈b,e≠ai)->mK (fe.iZ ak b)|[],_,d,_=>d|ai::b,_,_,c=>cg aa (c _ ao)|W e::b,_,d,c=>by exact mK.iZ b (d.note e).1 λg f=>c g (by simp[f])
def af5{c:bg}{J:bZ}{e:ik}:∀b∈g2 (j8 c J) e,b≠ai:=λb d=>by obtain⟨f,_,rfl⟩:=dI.1 d;exact nofun
def DJ{c:bg}{J:bZ}:∀b,mK (du c J b)|0=>mK.one|b+1=>by unfold du;rw[cz];split;exact mK.iZ _ (DJ b) af5;exact DJ b
def Un d J b c:mK (eW d J b c):=mK.iZ _ (DJ b) λf e=>af5 f<|pE e
def afK{c:bg}{J:bZ}{b:Z}:dT (du c J b):=Cz ao b
theorem aw3 c J d b:dT (eW c J d b):=AF _ afK
theorem afI b J c:eW b J c 0=du b J c:=ba
def Um{c:bg}{J:bZ}{b:Z}:b<U (du c J b)->eW c J b 256=du c J (b+1):=by unfold eW;rw[kC (by simp[af4])];grind[yG,du,List.getElem?_eq_getElem]
def afH{u:bg}{J:bZ}{D b:Z}(c:b<256):eW u J D (b+1)=note (eW u J D b) (W (p5 u.aJ (ob u J (y (du u J D) D ai)) b)):=by unfold eW;rw[J1,Oq _ _ c];grind[iZ,AG,j8,vh]
def Uo{u:bg}{J:bZ}{b c:Z}(e:b<U (du u J b)):c<=256->eW u J b c<+:du u J (b+1):=by
 rw[<-Um e];unfold eW;have:=by let d:=bQ<|D_ c<|am 256<|g2 (j8 u J)<|y (du u J b) b ai;exact d
 grind[Lh,CN]
def afJ{c:bg}{J:bZ}{b d:Z}(f:b<U (du c J b))(e:b<=d):(du c J d)[b]?=W (y (du c J b) b ai):=by apply zp<|pQ e;grind[du,List.getElem?_eq_getElem]
def S8{aJ:Y (Y (L×L))}{b:Y Z}(c:fJ b){Q:Z}:fJ (p5 aJ b Q):=⟨Mg c.1,λe d=>c.2 e (m9.1 d).1⟩
def PN{c:Y (Y Z)}(e:o5 c){fR:Y Z}:fJ (ng c fR):=by
 have:∀(H:Y Z) b,fJ b->fJ (H.foldl (λb d=>ee b<|y c d []) b):=by
  intro H
  induction H
  simp
  next d H g=>exactλb f=>g _<|f.un<|e d
 exact this fR [] .nil
def afN{b:bg}{J:bZ}(c:o5 b.cn)(d:KB J){v:ik}:fJ (ob b J v):=by
 cases v;exact d.1
 next e=>exact PN c
def yF(b:bg)(J:bZ):bY:=ot (j8 b J) (sy J)<|du b J 3000
def Oi{b:bg}{J:bZ}(d:U (du b J 3000)<=3000):∀c∈du b J 3000,∀f∈g2 (j8 b J) c,f∈du b J 3000:=λc e=>G1 d e
def afL{c:bg}{J:bZ}{b:Z}:0<U (du c J b):=by rw[DJ b];simp
def WN{b:bg}{J:bZ}(c:U (du b J 3000)<=3000):hD (yF b J):=WM (Oi c) q afL
def P4{b:bg}{J:bZ}(c:U (du b J 3000)<=3000):i3 (yF b J)=jF (j8 b J) (sy J) ai:=WL (Oi c) (by rw[DJ _];rfl)
def xx(b:aW):uz:=jF (j8 (eg b ⟨[],[]⟩).1 (eg b ⟨[],[]⟩).2) (sy (eg b ⟨[],[]⟩).2) ai
def uP:bY:=⟨0,[],[]⟩
noncomputable def mV(b:aW):bY×L:=if 2000<dB b\/3000<U (du (eg b ⟨[],[]⟩).1 (eg b ⟨[],[]⟩).2 3000)\/300<(mi<|xx b).next.length then(uP,3) else(mi<|xx b,0)
def QB:Y C:=[48,49,50,51,52,53,54,55,56,57,97,98,99,100,101,102,103,104,105,106,107,108,109,110,111,112,113,114,115,116,117,118,119,120,121,122]
def rE(R:Z):C:=y QB R 0
theorem XR:∀b<36,∀c<36,rE b=rE c->b=c:=cf
theorem amd:∀b<36,rE b≠32:=cf
def jD(b:Z):Y C:=if c:b<36 then[rE b] else jD (b/36)++[rE (b%36)]
 termination_by b
 decreasing_by omega
theorem EJ{b:Z}(c:b<36):jD b=[rE b]:=by rw[jD,Ca c]
theorem CH{b:Z}(c:¬b<36):jD b=jD (b/36)++[rE (b%36)]:=by rw[jD,Pu c]
def alS b:0<U (jD b):=by by_cases c:b<36;simp_all[EJ,GA];simp_all[CH,cd,GA]
def Qx{cc:Z}(e:cc<1679616):U (jD cc)<=4:=by
 let c:∀cc<36,U (jD cc)<=1:=λcc e=>by simp_all[EJ,bv]
 let step:∀B,(∀cc<36^B,U (jD cc)<=B)->1<=B->∀cc<36^(B+1),U (jD cc)<=B+1:=λB g f cc d=>by by_cases b:cc<36;grind;rw[CH b,cd]<;>grind
 have:=step 3 (step 2 (step 1 (λcc d=>c cc q) q) q) q cc q;omega
def XI:∀b,∀c∈jD b,c≠32:=by
 intro b
 induction b using Nat.strongRecOn
 next b d=>grind[EJ,List.mem_singleton,amd,CH]
def alR:∀b c,jD b=jD c->b=c:=by
 intro b
 induction b using Nat.strongRecOn
 next b i=>intro c d;by_cases f:b<36;by_cases e:c<36;grind[EJ,XR,List.cons.inj];have:=alS<|c/36;rw[EJ f,CH e] at d;have:=ea U d;grind;by_cases e:c<36;grind;rw[CH f,CH e] at d;let⟨g,h⟩:=U5 d aa;let k:=i _ q _ g;let l:=XR _ q _ q (List.cons.inj h).1;omega
def mT(H:Y Z):Y C:=H.flatMap λR=>jD R++[32]
def awU{c b:Y C}(h:∀d∈c,d≠32)(i:∀d∈b,d≠32){e f:Y C}(k:c++32::e=b++32::f):c=b/\e=f:=by
 induction c generalizing b
 cases b;simp_all
 next g b=>simp_all
 next m c l=>
  cases b;simp_all
  next g b=>grind
def aap:∀{H m:Y Z},mT H=mT m->H=m
|[],[],_=>aa|[],R::m,b=>by simp[mT] at b|R::H,[],b=>by simp[mT] at b|R::H,B::m,b=>by
 let c:∀R H,mT (R::H)=jD R++32::mT H:=λR H=>by simp[mT]
 rw[c,c] at b;let⟨d,e⟩:=awU (XI R) (XI B) b;rw[alR R B d,aap e]
def aaq:∀{H:Y Z},(∀b∈H,b<1679616)->U (mT H)<=5*U H|[],_=>bv _|R::H,c=>by let d:=Qx<|c R ao;let e:=aaq (H:=H) λb f=>c b aK;grind[mT,List.length_append,List.length_cons,List.length_nil]
def zO:V:=an ez 0
theorem WF b d c:aR (cM (b+1) zO++ab bF d) b (bF c)=cM b zO++ab bF (c::d):=by rw[Vq,eS,z0 _ _ ao,wK,oX];rfl
theorem aji{c:Z}{b:Y C}{R:Z}:R=U b->am R (ay c (cM c zO++ab bF b))=ab bF b:=by simp_all[List.drop_left',wK,kC,bm,bv]
def XQ{R:Z}(b:R<36):QB[R]?=W (rE R):=by rw[rE,dX,cT<|show R<U QB from b];rfl
def aoZ:bh 145 [an aj 36] (aV ae):=by refine bs func145 [] λp b=>?_;refine iQ ?_;exact aL (s:=ba)
def am_{i:Y C}{h:Z}(u:h<1679616)(A:U i<=16000000):dF 114 [.a 5000 0 (U (ab bF i)),an ej (h:Z),an aj 36,aV ae,aV ag] [(5000,.j 1 5 (ab bF i))] (cv [.a 5000 0 (U (ab bF (i++jD h))),a8 []]) [(5000,.j 1 5 (ab bF (i++jD h)))]:=by
 refine c4 func114 [] λF p z=>?_;let o:=Qx u;refine cy (λ_=>aa)<|cy (λ_=>aa)<|nc.mk nofun λ_=>?_;refine abT ?_ (aU:=ba);refine nc.mk nofun λ_=>?_;refine aT ?_ (g:=aoZ);refine nc.mk nofun λ_=>?_;refine iG _ ?_;refine c8 (Z×Y C×Z) (λd=>⟨[(0,_),(1,an ej (d.1:Z)),(3,_),(4,_),(10,_),(11,_),(12,b 12),(13,an aj ((d.2.2:Z):L)),(17,_)],[(12,.j 1 238<|cM d.2.2 zO++ab bF d.2.1),(5000,.j 1 5<|ab bF i)],[]⟩) (λd=>jD h=jD d.1++d.2.1/\d.1<1679616/\d.2.2+U d.2.1=65) (λd=>d.1) (h,[],65) (λ⟨c,m,v⟩ ⟨n,w,x⟩=>?_) ⟨bQ<|gv _,u,aa⟩ .r;dsimp only at n w x⊢;let D:U (jD c)+U m<=4:=by rw[n,cd] at o;exact o
 obtain⟨e,rfl⟩:∃e,v=e+1:=⟨v-1,q⟩;apply f<;>intro B
 .refine jG ((e:Z):L) ?_;refine Ij ((c/36:Z):L) ?_ (s:=ba);refine gK (c%36) (rE<|c%36) ?_ (bu:=by grind[OM]) (k:=XQ q);refine ab0 ?_;refine fF (cM e zO++ab bF (rE (c%36)::m)) zO (bF<|rE<|c%36) ?_ (k:=aK) (aU:=by grind[WF]);exact a4 (c/36,rE (c%36)::m,e) ⟨by grind[CH,List.append_assoc],q,bi⟩ q .r
 let t:c<36:=q;rw[EJ t] at n;refine jG ((e:Z):L) ?_;refine gK c (rE c) ?_ (k:=XQ t);refine ab0 ?_;refine fF (cM e zO++ab bF (jD h)) zO (bF<|rE c) ?_ (k:=aK) (aU:=by grind[WF]);refine nc.mk nofun λ_=>?_;refine nc.mk (λ_=>?_) nofun;refine SU e 65 (U m+1) ?_ (A6:=kj);refine eB (ab bF<|i++jD h) ?_ (gi:=.a (xJ:=12) (CQ:=238) (xs:=cM e zO++ab bF (jD h)) aa aa aa aa aa aq (by intro y l;rcases fp.1 l with l|l;rw[zT l];rfl;obtain⟨E,_,rfl⟩:=dI.1 l;rfl)) (aU:=by rw[mC,aji aq,dc]) (bl:=bi);exact cJ
def ain{b:Y C}{c:Z}(e:c<1679616)(d:U b<=16000000):dF 80 [.a 5000 0 (U (ab bF b)),an ej (c:Z),an aj 36] [(5000,.j 1 5 (ab bF b))] (.a 5000 0 (U (ab bF (b++jD c)))) [(5000,.j 1 5 (ab bF (b++jD c)))]:=by refine c4 func80 [] λh p f=>?_;refine nc.mk nofun λ_=>?_;refine bG [(5000,5000)] ?_ (g:=am_ e d);exact cJ
def aim{b:Y C}{c:Z}(e:c<1679616)(d:U b<=16000000):dF 53 [.a 5000 0 (U (ab bF b)),l c,an aj 36] [(5000,.j 1 5 (ab bF b))] (.a 5000 0 (U (ab bF (b++jD c)))) [(5000,.j 1 5 (ab bF (b++jD c)))]:=by
 refine c4 func53 [] λk p h=>?_;apply iG _;apply f<;>intro i
 .omega
 refine bG [(5000,5000)] ?_ (g:=ain e d);exact cJ
def ajf b c(e:c<1679616)(d:U b<=16000000):dF 34 [.a 5000 0 (U (ab bF b)),l c,an aj 36] [(5000,.j 1 5 (ab bF b))] (.a 5000 0 (U (ab bF (b++jD c)))) [(5000,.j 1 5 (ab bF (b++jD c)))]:=by refine c4 func34 [] λh p f=>?_;refine bG [(5000,5000)] ?_ (g:=aim e d);exact cJ
theorem aar{H:Y Z}{b:Z}:b<U H->mT (am (b+1) H)=mT (am b H)++jD (y H b 0)++[32]:=by grind[Js,mT]
def R2 H(bl:∀c∈H,c<1000000)(o:U H<=3000):bh 176 [.al 1 (ab l H)] (a8 (mT H)):=by
 refine bs func176 [] λp i=>?_;refine a1.eK 3 1 5 [3] ai<|e9 (U H) (λb=>⟨[(0,_),(4,l b),(3,.a 3 0<|U<|ab bF<|mT<|am b H)],[(3,.j 1 5<|ab bF<|mT<|am b H)],[]⟩) (λb k=>?_) .r;apply f<;>intro m
 .let d:b<U H:=q;let h:=aaq (H:=am b H) λc e=>jZ (bl c<|pE e) a2;rw[nD] at h;let e:=bl _<|dL (I:=0) d;let n:=Qx (cc:=y H b 0) q;refine bB b (l<|y H b 0) ?_ (k:=eE d);refine bG [(5000,3)] (g:=ajf (mT<|am b H) (y H b 0) q q)<|cp ?_;refine eB (ab bF<|mT<|am (b+1) H) (aU:=by grind[aar,bF,V.const,V.leaf]) (bl:=by grind[List.length_map,aar,List.length_append,List.length_cons,List.length_nil])<|aY ?_;exact a4 (b+1) (bA:=.r)
 obtain rfl:b=U H:=q;exact rU (mT H) (hlen:=ao) (aM:=aK)<|aL
section
attribute [local irreducible] jA ub yZ w2 ey ua y4 w1
def arK(z:bY)(H cl:Y Z)(R:Z)(s:hD z)(bl:∀A∈H,A<U z.next)(az:U H<=100000)(au:U cl=U z.next)(B:∀A,y cl A 0<R)(aA:0<R)(J:R<=100000):bh 231 [ga z,.al 1 (ab l H),.al 1 (ab l cl),l R] (ga (Ir z H cl R)):=by
 refine bs func231 [2007,2017,2024] λp Q=>?_;have P:=s.start;have ay:=s.len;refine kS R R (ab l<|cM R 0) ?_ (aU:=MY R);refine jG ((U H:L)-1-((0:Z):L)) ?_ (s:=ao);refine e9 (U H) (λh=>⟨[(1,.al 1<|ab l H),(2,.al 1<|ab l cl),(3,l R),(4,b 4),(8,b 8),(10,an aj<|(U H:L)-1-(h:Z)),(9,.a 23 0 R)],[(4,ah 119<|ga z),(8,ah 119<|V.zero p2.z),(23,.j 1 3<|ab l<|m4 cl H R h)],[]⟩) λh aw=>?_;apply f<;>intro ap
 .have ax:h<U H:=q;have aD:y H (U H-1-h) 0<U z.next:=bl _<|dL q;refine ei ?_;refine bw (λ_=>bB (U H-1-h) (l<|y H (U H-1-h) 0) aa (bu:=q) (k:=eE q)) ?_;refine bw (λ_=>bB (y H (U H-1-h) 0) (l<|y cl (y H (U H-1-h) 0) 0) aa (k:=eE q)) ?_;refine bw (λ_=>bB (U H-1-h) (l<|y H (U H-1-h) 0) aa (bu:=q) (k:=eE q)) ?_;refine bw (λ_=>cE (y cl (y H (U H-1-h) 0) 0) aa (k:=B _)) ?_;refine uk (ab l<|m4 cl H R<|h+1) (l<|y (m4 cl H R h) (y cl (y H (U H-1-h) 0) 0) 0) (l<|y H (U H-1-h) 0) ?_ (k:=eE (by grind[Of])) (aU:=by rw[m4,hl]);refine fz ?_;refine jG ((U H:L)-1-((h+1:Z):L)) ?_ (s:=q);exact a4<|h+1
 obtain rfl:h=U H:=q;have O:=Of (cl:=cl) (H:=H) (R:=R)<|U H;have G:=aft (R:=R) (cl:=cl) (J6 (dJ _) P) bl (U H)<|bv _;generalize N:m4 cl H R (U H)=sm at O G;refine bB z.start (l<|y cl z.start 0) ?_ (k:=eE q);refine a1.eK 1100 1 50 [] (W (11,2)) ?_;refine a1.eK 1101 1 4 [] (W (11,1)) ?_;refine dA ?_;refine e9 R (λc=>⟨[(2,.al 1<|ab l cl),(3,l R),(4,b 4),(8,b 8),(11,b 11),(12,l c),(9,.a 23 0 R)],[(4,ah 119<|ga z),(8,ah 119<|V.zero p2.z),(11,ah 119<|b2 [l (y cl z.start 0),.a 1101 0<|U<|ab bE<|ab (w2 z sm)<|bM c,.a 1100 0<|U<|ab ca<|ab (ub z cl sm)<|bM c]),(23,.j 1 3<|ab l sm),(1100,.j 1 50<|ab ca<|ab (ub z cl sm)<|bM c),(1101,.j 1 4<|ab bE<|ab (w2 z sm)<|bM c)],[]⟩) λc T=>?_;apply f<;>intro aq
 .have av:c<R:=q;have w:y sm c 0<U z.next:=G c;have aB:=s.j _ w;refine kS 256 256 (ab l<|jA (yZ z cl sm c) 0) ?_ (aU:=VD);refine e9 256 (λe=>⟨[(2,.al 1<|ab l cl),(3,l R),(4,b 4),(8,b 8),(11,b 11),(12,l c),(14,l e),(9,.a 23 0 R),(13,.a 55 0 256)],[(4,ah 119<|ga z),(8,ah 119<|V.zero p2.z),(11,ah 119<|b2 [l (y cl z.start 0),.a 1101 0<|U<|ab bE<|ab (w2 z sm)<|bM c,.a 1100 0<|U<|ab ca<|ab (ub z cl sm)<|bM c]),(23,.j 1 3<|ab l sm),(55,.j 1 3<|ab l<|jA (yZ z cl sm c) e),(1100,.j 1 50<|ab ca<|ab (ub z cl sm)<|bM c),(1101,.j 1 4<|ab bE<|ab (w2 z sm)<|bM c)],[]⟩) λe m=>?_;apply f<;>intro ar
  .have m:e<256:=q;have n:=Oo s w m;refine ei ?_;refine bw (λ_=>cE c aa (k:=q)) ?_;refine bw (λ_=>fl (l<|y sm c 0) aa (k:=eE q)) ?_;refine bw (λ_=>bB (y sm c 0) (ca<|ey z<|y sm c 0) aa (k:=Jm w)) ?_;refine bw (λ_=>bB e (l<|y (ey z<|y sm c 0) e 0) aa (k:=Jn n.1)) ?_;refine bw (λ_=>bB (y (ey z<|y sm c 0) e 0) (l<|yZ z cl sm c e) aa (k:=anE q)) ?_;refine bw (λ_=>cE e aa (k:=q)) ?_;refine uk (ab l<|jA (yZ z cl sm c)<|e+1) (l<|y (jA (yZ z cl sm c) e) e 0) (l<|yZ z cl sm c e) ?_ (k:=eE Kf) (aU:=VF);refine fz ?_;refine aY ?_;exact a4<|e+1
  obtain rfl:e=256:=q;rw[avx];refine Dr 55 256 (aC:=ab l<|ub z cl sm c) (by simp[aeO]) ?_;refine cp ?_;refine eB (ab ca<|ab (ub z cl sm)<|bM<|c+1) ?_ (aU:=IN (ub z cl sm) ca c) (bl:=aK);refine ei ?_;refine bw (λ_=>cE c aa (k:=q)) ?_;refine bw (λ_=>fl (l<|y sm c 0) aa (k:=eE q)) ?_;refine bw (λ_=>bB (y sm c 0) (bE<|w2 z sm c) aa (k:=aiu (by rw[s.acc]<;>omega))) ?_;refine bw (λ_=>kr aa) ?_;refine jY 94 (ab bE<|ab (w2 z sm)<|bM<|c+1) ?_ (aU:=IN (w2 z sm) bE c) (bl:=aK) (k_:=ba) (sL:=ba);refine fo ?_;refine jz [(94,1101)] ?_;refine aY ?_;exact a4<|c+1
 obtain rfl:c=R:=q;have t:=auu (z:=z) (sm:=sm) B J;have u:(fb z cl sm c).next.length=c:=by unfold fb;rw[bm,ij]
 have C:=abK (fb z cl sm c) t c<|bQ u;have E:dT (c3 (fb z cl sm c) c):=zg _ c;have o:=qV t c;have D:=tM E o;rw[u] at o D;have K:Ir z H cl c=Tg (fb z cl sm c) (c3 (fb z cl sm c) c) (qB (c3 (fb z cl sm c) c) c (U (c3 (fb z cl sm c) c))):=by unfold Ir;rw[N]
 rw[K];generalize c3 (fb z cl sm c) c=M at C E o D⊢;refine a1.h6 1100 ?_;refine a1.h6 1101 ?_;refine dA ?_;refine aT ?_ (g:=C);refine kS c c (ab l<|qB M c 0) ?_ (aU:=MY c);refine e9 (U M) (λd=>⟨[(8,b 8),(11,b 11),(15,.al 1<|ab l M),(17,l d),(16,.a 99 0 c)],[(8,ah 119<|V.zero p2.z),(11,ah 119<|ga<|fb z cl sm c),(99,.j 1 3<|ab l<|qB M c d)],[]⟩) λd k=>?_;apply f<;>intro X
 .have i:d<U M:=q;have v:y M d 0<c:=o _<|dL i;refine bB d (l<|y M d 0) ?_ (k:=eE i);refine cE (y M d 0) ?_ (k:=v);refine fF (ab l<|qB M c<|d+1) (l<|y (qB M c d) (y M d 0) 0) (l d) ?_ (k:=eE (by grind[KJ])) (aU:=by rw[qB,hl]);refine aY ?_;exact a4<|d+1
 obtain rfl:d=U M:=q;have I:=KJ (M:=M) (R:=c)<|U M;generalize S:qB M c (U M)=x at I;refine a1.eK 1200 1 50 [] (W (18,2)) ?_;refine a1.eK 1201 1 4 [] (W (18,1)) ?_;refine dA ?_;refine e9 (U M) (λd=>⟨[(8,b 8),(11,b 11),(15,.al 1<|ab l M),(18,b 18),(19,l d),(16,.a 99 0 c)],[(8,ah 119<|V.zero p2.z),(11,ah 119<|ga<|fb z cl sm c),(18,ah 119<|b2 [an aj 0,.a 1201 0<|U<|ab bE<|ab (w1 (fb z cl sm c) M)<|bM d,.a 1200 0<|U<|ab ca<|ab (ua (fb z cl sm c) M x)<|bM d]),(99,.j 1 3<|ab l x),(1200,.j 1 50<|ab ca<|ab (ua (fb z cl sm c) M x)<|bM d),(1201,.j 1 4<|ab bE<|ab (w1 (fb z cl sm c) M)<|bM d)],[]⟩) (λd k=>?_) .r;apply f<;>intro ak
 .have i:d<U M:=q;have v:y M d 0<c:=o _<|dL i;have F:y M d 0<(fb z cl sm c).next.length:=by rw[u];exact v
  refine kS 256 256 (ab l<|jA (y4 (fb z cl sm c) M x d) 0) ?_ (aU:=VD);refine e9 256 (λe=>⟨[(8,b 8),(11,b 11),(15,.al 1<|ab l M),(18,b 18),(19,l d),(21,l e),(16,.a 99 0 c),(20,.a 120 0 256)],[(8,ah 119<|V.zero p2.z),(11,ah 119<|ga<|fb z cl sm c),(18,ah 119<|b2 [an aj 0,.a 1201 0<|U<|ab bE<|ab (w1 (fb z cl sm c) M)<|bM d,.a 1200 0<|U<|ab ca<|ab (ua (fb z cl sm c) M x)<|bM d]),(99,.j 1 3<|ab l x),(120,.j 1 3<|ab l<|jA (y4 (fb z cl sm c) M x d) e),(1200,.j 1 50<|ab ca<|ab (ua (fb z cl sm c) M x)<|bM d),(1201,.j 1 4<|ab bE<|ab (w1 (fb z cl sm c) M)<|bM d)],[]⟩) (λe m=>?_) .r;apply f<;>intro am
  .have m:e<256:=q;have n:=Oo t F m;rw[u] at n;refine ei ?_;refine bw (λ_=>bB d (l<|y M d 0) aa (k:=eE i)) ?_;refine bw (λ_=>bB (y M d 0) (ca<|ey (fb z cl sm c)<|y M d 0) aa (k:=Jm F)) ?_;refine bw (λ_=>bB e (l<|y (ey (fb z cl sm c)<|y M d 0) e 0) aa (k:=Jn n.1)) ?_;refine bw (λ_=>cE (y (ey (fb z cl sm c)<|y M d 0) e 0) aa (k:=n.2)) ?_;refine bw (λ_=>fl (l<|y4 (fb z cl sm c) M x d e) aa (k:=an5 q)) ?_;refine bw (λ_=>cE e aa (k:=q)) ?_;refine uk (ab l<|jA (y4 (fb z cl sm c) M x d)<|e+1) (l<|y (jA (y4 (fb z cl sm c) M x d) e) e 0) (l<|y4 (fb z cl sm c) M x d e) ?_ (k:=eE Kf) (aU:=VF);refine fz ?_;refine aY ?_;exact a4 (e+1) (bA:=.r)
  obtain rfl:e=256:=q;rw[avv];refine Dr 120 256 (aC:=ab l<|ua (fb z cl sm c) M x d) (by simp[avw,fb]) ?_;refine cp ?_;refine eB (ab ca<|ab (ua (fb z cl sm c) M x)<|bM<|d+1) ?_ (aU:=IN (ua (fb z cl sm c) M x) ca d) (bl:=aK);refine ei ?_;refine bw (λ_=>bB d (l<|y M d 0) aa (k:=eE i)) ?_;refine bw (λ_=>bB (y M d 0) (bE<|w1 (fb z cl sm c) M d) aa (k:=aja (by rw[t.acc]<;>omega))) ?_;refine bw (λ_=>kr aa) ?_;refine jY 159 (ab bE<|ab (w1 (fb z cl sm c) M)<|bM<|d+1) ?_ (aU:=IN (w1 (fb z cl sm c) M) bE d) (bl:=aK) (k_:=ba) (sL:=ba);refine fo ?_;refine jz [(159,1201)] ?_;refine aY ?_;exact a4 (d+1) (bA:=.r)
 obtain rfl:d=U M:=q;exact gq 1200<|gq 1201<|dj br
end
section
def tK(b:Y Z):V:=a8<|mT b
def HY:o6 (λ_=>dW) tK:=o6.str λ_ _ _ _ b=>aap b
def mr{bb:Type} [hO bb](d:Z->Z)(b:Y bb)(c:bb):Z:=if c∈b then d (gX b c) else 0
def Fc{bb:Type} [hO bb]{d:Z->Z}{b:Y bb}{c:bb}(e:c∈b):mr d b c=d (gX b c):=af e
def v9{bb:Type} [hO bb](b:Y bb)(c:bb):X:=aH<|c∈b
theorem sT{bb:Type} [hO bb]{b:Y bb}{c:bb}:v9 b c↔c∈b:=kk
def H3{bb:Type} [hO bb]{G:bb->Prop}{c:bb->V}{u:Z->Z}{d:bq}(e:o6 G c){T:bb}{fa:Y bb}(g:G T)(f:∀k∈fa,G k)(h:V.const d=l 0):qS (e6 c (λi=>l<|u i) fa) (c T) d ag=cv [l (mr u fa T),aV (v9 fa T)]:=by rw[apk e g f];unfold mr;by_cases b:T∈fa;rw[af b,af b];rfl;rw[ad b,ad b,h];rfl
def ap8{bb:Type} [hO bb]{G:bb->Prop}{b:bb->V}{u:Z->Z}{i:bq}(c:o6 G b){T:bb}{fa:Y bb}(f:G T)(e:∀h∈fa,G h)(d:T∈fa):qS (e6 b (λg=>l<|u g) fa) (b T) i ae=l (u (gX fa T)):=by unfold qS;rw[ad ao,RW c f e,af d];rfl
def Mq{c:Z->V}{b:Y (Y Z)}:nZ k1 (e6 tK c b):=De λ_ _=>aa
def ow(b:bY)(d:Y Z)(e c:Z):Z:=y d (y (ey b e) c 0) 0
def Q4{b:bY}{d:Y Z}{e c:Z}(f:y (ey b e) c 0<U d):(ab l d)[y (ey b e) c 0]?=W (l (ow b d e c)):=eE f
def li(d:bY)(b:Y Z)(c e:Z):Y Z:=y b c 0::oy (qe (ow d b c) e)
def T7 b c d:li b c d 256=n9 b c d:=aa
def ae1{c:bY}{d:Y Z}{e b:Z}:b=0\/ow c d e b≠ow c d e (b-1)->li c d e (b+1)=li c d e b++[b,ow c d e b]:=by simp_all[li,qe,af,oy,zU]
def ae3{c:bY}{d:Y Z}{e b:Z}:¬(b=0\/ow c d e b≠ow c d e (b-1))->li c d e (b+1)=li c d e b:=by simp_all[li,qe,ad,gv]
theorem aeN b:∀B,U (qe b B)<=B|0=>bv _|B+1=>by rw[qe,cd];have:=aeN b B;grind
theorem anp H:U (oy H)=2*U H:=by
 induction H
 rfl
 next c H b=>grind[oy,List.length_append,List.length_cons,List.length_nil]
theorem ae2 c d e{b:Z}:b<=256->U (li c d e b)<=513:=by grind[li,List.length_cons,anp,aeN,ow]
def T8{f:bY}{e:Y Z}{g:Z}(i:∀d,y e d 0<200000):∀c≤256,∀d∈li f e g c,d<1000000|0,_,d,b=>by grind[li,qe,oy]|c+1,k,d,b=>by by_cases h:c=0\/ow f e g c≠ow f e g (c-1);rw[ae1 h] at b;rcases fp.1 b with b|b;exact T8 i c q d b;grind[ey,ow];rw[ae3 h] at b;exact T8 i c q d b
def acu{c:bY}{d H:Y Z}{m:Z}(i:U (fK c d H (U H))<=m)(g:0<m):∀b≤U H,∀e,y (ig c d H b) e 0<m
|0,_,e=>by grind[ig]|b+1,k,e=>by
 rw[ig,xl];split;let h:n9 c d (y H b 0)∈fK c d H (b+1):=HW.2 ⟨_,by grind[rc],aa⟩;let l:=A_ h;let n:U (fK c d H<|b+1)<=U (fK c d H<|U H):=by
  let f:am (U H) H=am (b+1) H++ay (b+1) H:=by rw[iJ,D_]
  unfold fK;rw[f,dc,Lh];exact(CN _ _).length_le
 omega;exact acu i g b q e
attribute [local irreducible] ow li ey mT fK ig lO mr c3
def avm(z:bY)(s:hD z):bh 178 [ga z] (ga (mi (i3 z))):=by
 refine bs func178 [2008,2020,2025] λp av=>?_;have aG:=s.start;have aF:=s.len;have i:=qV s<|U z.next;have P:=tM (zg z<|U z.next) i;have A:=abK z s (U z.next) aa;have v:=λcl R=>arH (z:=z) (cl:=cl) (R:=R) s;have F:=λcl R (B:Ak z (c3 z<|U z.next) cl R)=>B.step s aa;have E:=Ak.start i;have S:0<U (c3 z (U z.next)):=O8<|SC (z:=z) (D:=U z.next);generalize c3 z (U z.next)=H at i P A v F E S;refine aT ?_ (g:=A);refine kS (U z.next) (U z.next) (ab l<|lO z H 0) ?_ (k:=ao) (lR:=ao) (aU:=by simp[lO,MY]);refine e9 (U H) (λD=>⟨[(1,b 1),(2,b 2),(3,.al 1<|ab l H),(5,l D),(4,.a 20 0<|U z.next)],[(1,ah 119<|ga z),(2,ah 119<|V.zero p2.z),(20,.j 1 3<|ab l<|lO z H D)],[]⟩) λD k=>?_;apply f<;>intro ay
 .have c:D<U H:=q;have d:y H D 0<U z.next:=i _<|dL c;refine fA ?_;refine bB D (l<|y H D 0) ?_ (k:=eE c);refine bB (y H D 0) (bE<|hS z<|y H D 0) ?_ (k:=G2 (by rw[s.acc]<;>omega));apply f<;>intro t
  .refine bB D (l<|y H D 0) ?_ (k:=eE c);refine cE (y H D 0) ?_ (k:=d);refine fF (ab l<|lO z H<|D+1) (l<|y (lO z H D) (y H D 0) 0) (l 1) ?_ (k:=eE (by grind[EF])) (aU:=by rw[lO,af t,hl]);refine aY ?_;exact a4<|D+1
  rw[show lO z H D=lO z H (D+1) by rw[lO,ad t]];refine aY ?_;exact a4<|D+1
 obtain rfl:D=U H:=q;refine a1.AZ 20 (U z.next) (aC:=ab l<|lO z H<|U H) (by simp[EF]) ?_;refine dA ?_;refine c8 (Y Z×Z) (λh=>⟨[(1,b 1),(2,b 2),(3,.al 1<|ab l H),(4,.al 1<|ab l h.1),(6,l h.2)],[(1,ah 119<|ga z),(2,ah 119<|V.zero p2.z)],[]⟩) (λh=>Ak z H h.1 h.2) (λh=>U z.next+1-h.2) (lO z H<|U H,0) (λ⟨cl,R⟩ aX=>?_) E;dsimp only at aX⊢;let⟨ak,aI,aJ,aK,am⟩:=F cl R aX;have aD:=aX.len;have K:=aX.lt;refine kS (U z.next) (U z.next) (ab l<|ig z cl H 0) ?_ (k:=ao) (lR:=ao) (aU:=by simp[ig,MY]);refine e9 (U H) (λD=>⟨[(1,b 1),(2,b 2),(3,.al 1<|ab l H),(4,.al 1<|ab l cl),(6,l R),(8,.eA 45),(9,l D),(7,.a 44 0<|U z.next)],[(1,ah 119<|ga z),(2,ah 119<|V.zero p2.z),(44,.j 1 3<|ab l<|ig z cl H D),(45,iA (e6 tK (λe=>l<|id e)<|fK z cl H D)<|U<|fK z cl H D)],[]⟩) λD k=>?_;apply f<;>intro az
 .have c:D<U H:=q;have d:y H D 0<U z.next:=i _<|dL c;have mq:=aav (z:=z) (cl:=cl) c;refine bB D (l<|y H D 0) ?_ (k:=eE c);refine bB (y H D 0) (l<|y cl (y H D 0) 0) ?_ (k:=eE q);refine n0 ?_;refine e9 256 (λQ=>⟨[(1,b 1),(2,b 2),(3,.al 1<|ab l H),(4,.al 1<|ab l cl),(6,l R),(8,.eA 45),(9,l D),(11,l Q),(7,.a 44 0<|U z.next),(10,.a 59 0<|U<|ab l<|li z cl (y H D 0) Q)],[(1,ah 119<|ga z),(2,ah 119<|V.zero p2.z),(44,.j 1 3<|ab l<|ig z cl H D),(59,.j 1 3<|ab l<|li z cl (y H D 0) Q),(45,iA (e6 tK (λe=>l<|id e)<|fK z cl H D)<|U<|fK z cl H D)],[]⟩) λQ r=>?_;apply f<;>intro aA
  .have r:Q<256:=q;have w:=Oo s d r;refine fA ?_;apply cy;intro aE;have N:=Oo s d (Q:=Q-1) q;refine bB D (l<|y H D 0) ?_ (k:=eE c);refine bB (y H D 0) (ca<|ey z<|y H D 0) ?_ (k:=Jm d);refine bB Q (l<|y (ey z<|y H D 0) Q 0) ?_ (k:=Jn w.1);refine bB (y (ey z<|y H D 0) Q 0) (l<|ow z cl (y H D 0) Q) ?_ (k:=Q4 q);refine bB D (l<|y H D 0) ?_ (k:=eE c);refine bB (y H D 0) (ca<|ey z<|y H D 0) ?_ (k:=Jm d);refine jG ((Q-1:Z):L) ?_ (s:=q);refine bB (Q-1) (l<|y (ey z<|y H D 0) (Q-1) 0) ?_ (k:=Jn N.1);refine bB (y (ey z<|y H D 0) (Q-1) 0) (l<|ow z cl (y H D 0)<|Q-1) ?_ (k:=Q4 q);exact aa;apply f<;>intro aB
   .have aw:Q=0\/ow z cl (y H D 0) Q≠ow z cl (y H D 0) (Q-1):=q;refine ei ?_;refine bw (λ_=>bB D (l<|y H D 0) aa (k:=eE c)) ?_;refine bw (λ_=>bB (y H D 0) (ca<|ey z<|y H D 0) aa (k:=Jm d)) ?_;refine bw (λ_=>bB Q (l<|y (ey z<|y H D 0) Q 0) aa (k:=Jn w.1)) ?_;refine bw (λ_=>bB (y (ey z<|y H D 0) Q 0) (l<|ow z cl (y H D 0) Q) aa (k:=Q4 q)) ?_;refine bw (λ_=>kr aa) ?_;refine jY 115 (ab l<|li z cl (y H D 0)<|Q+1) ?_ (gi:=.al aa aa aa aa (by simp[l,V.cells];rfl)) (aU:=by simp_all[ae1,dc]) (bl:=by grind[ae2]) (k_:=ba) (sL:=ba);refine jz [(115,59)] ?_;refine aY ?_;exact a4<|Q+1
   have X:¬(Q=0\/ow z cl (y H D 0) Q≠ow z cl (y H D 0) (Q-1)):=q;rw[<-ae3 X];refine aY ?_;exact a4<|Q+1
  obtain rfl:Q=256:=q;refine a1.h6 59 ?_;refine dA ?_;refine aT ?_ (g:=R2 (li z cl (y H D 0) 256) (T8 K 256<|bv _) (by have:=ae2 z cl (y H D 0)<|bv 256;omega));refine sW (cv [l (mr id (fK z cl H D)<|li z cl (y H D 0) 256),aV<|v9 (fK z cl H D)<|li z cl (y H D 0) 256]) ?_ Mq<|H3 (G:=λ_=>dW) (u:=id) (fa:=fK z cl H D) (T:=li z cl (y H D 0) 256) HY b5 (λ_ _=>b5) aa;apply f<;>intro J
  focus
   have C:li z cl (y H D 0) 256∉fK z cl H D:=λI=>J<|sT.2 I;have n:fK z cl H (D+1)=fK z cl H D++[li z cl (y H D 0) 256]:=by rw[mq,<-T7,note,ad C]
   have x:li z cl (y H D 0) 256∈fK z cl H (D+1):=by rw[n];simp
   refine SQ (U<|fK z cl H D) ?_ (bu:=RX);refine rV (e6 tK (λe=>l<|id e)<|fK z cl H<|D+1) (U<|fK z cl H<|D+1) ?_ (mq:=Mq) (hu:=by rw[n];exact Df (G:=λ_=>dW) (s6:=λe=>l<|id e) HY b5 (λ_ _=>b5) C)
  rotate_left
  focus
   have o:li z cl (y H D 0) 256∈fK z cl H D:=sT.1 aq;have n:fK z cl H (D+1)=fK z cl H D:=by rw[mq,<-T7,note,af o]
   rw[<-n] at o⊢;have x:=o
  all_goals refine ei ?_;refine bw (λ_=>bB D (l<|y H D 0) aa (k:=eE c)) ?_;refine OP [45] ?_;apply Cl.mk;intro aH;refine sW (l<|gX (fK z cl H<|D+1)<|li z cl (y H D 0) 256) ?_ Mq<|ap8 (G:=λ_=>dW) (u:=id) (fa:=fK z cl H<|D+1) (T:=li z cl (y H D 0) 256) HY b5 (λ_ _=>b5) x;exact aa;refine bw (λ_=>cE (y H D 0) aa (k:=d)) ?_;refine uk (ab l<|ig z cl H<|D+1) (l<|y (ig z cl H D) (y H D 0) 0) (l<|gX (fK z cl H<|D+1)<|li z cl (y H D 0) 256) ?_ (k:=eE (by grind[FC])) (aU:=by rw[ig,hl,T7]);refine fz ?_;refine aY ?_;exact a4<|D+1
 obtain rfl:D=U H:=q;refine a1.AZ 44 (U z.next) (aC:=ab l<|ig z cl H<|U H) (by simp[FC]) ?_;refine dA ?_;refine SQ (U<|fK z cl H<|U H) ?_ (bu:=RX);apply f<;>intro ax
 .have M:U (fK z cl H (U H))=R:=q;let⟨ap,ar,au⟩:=am M;have O:=v (ig z cl H<|U H) R ar au q ap;rw[<-O];refine aT ?_ (g:=arK z H (ig z cl H<|U H) R s i q (FC (z:=z) (cl:=cl) (H:=H)<|U H) (acu (m:=R) q q (U H)<|bv _) q q);exact dj br
 refine SQ (U<|fK z cl H<|U H) ?_ (bu:=RX);exact a4 (ig z cl H<|U H,U<|fK z cl H<|U H) ak q
end
def VX(J:Y (L×L)):Prop:=U J<=256/\∀b∈J,0<=b.1/\b.1<=b.2/\b.2<=255
def vD(b:bg):Prop:=∀J∈b.aJ,VX J
def yz(c:bg->bg×bZ):Prop:=∀b,vD b->vD (c b).1
theorem RJ{d:bg->bg×bZ}(e:yz d):∀B{b:bg}{M:bZ},vD b->vD (kO d B b M).1|0,b,M,c=>c|B+1,b,M,c=>by exact RJ e B<|e b c
theorem acO{d:bg->bg×bZ}(e:yz d):∀B{b:bg}{M:bZ},vD b->vD (pt d B b M).1|0,b,M,c=>c|B+1,b,M,c=>by exact acO e B<|e b c
def ave{b:bg->bg×bZ}(c:yz b){d e:L}:yz (qb b d e):=λg f=>by unfold qb;split;exact c _<|RJ c _ f;grind[acO,RJ]
theorem Wb:∀{H:Y aW}{b:bg}{M:bZ},(∀c∈H,yz (eg c))->vD b->vD (o_ H b M).1|[],b,M,_,e=>cf|c::H,b,M,d,e=>by exact Wb (H:=H) (λg f=>d g<|mB _ f)<|d c (ki ..) b e
theorem Wg:∀{H:Y aW}{b:bg}{M:bZ},(∀c∈H,yz (eg c))->vD b->vD (qy H b M).1|[],b,M,_,e=>cf|c::H,b,M,d,e=>by exact Wg (H:=H) (λg f=>d g<|mB _ f)<|d c (ki ..) b e
def aiF{H:Y aW}{c d:L}(f:∀b∈H,yz (eg b)):yz (w4 H c d):=λe g=>by
 cases H;trivial
 next b H=>exact ave (f b<|ki ..) e g
def aiO:∀c,e1 c->yz (eg c):=aW.ind λc i he g d=>by let⟨⟨⟨l,p⟩,r,s,t,u,v,w,x,m,n,o⟩,h⟩:=p8.1 he;let k:=λf e=>i f e<|h f e;rw[PJ];split;exact d;split;intro J b;rcases fp.1 b with b|b;exact d J b;rw[eu.1 b];trivial;split;grind[Wb];split;grind[Wg];split;exact aiF k g d;omega
def awV{b:bg}(e:vD b)c:VX (y b.aJ c []):=by
 rw[dX];cases d:b.aJ[c]?;trivial
 next J=>exact e J<|dY d
def n3(b:bg)(J:bZ)(c d:Z):Z:=gX (du b J<|c+1)<|j8 b J (y (du b J c) c ai)<|gn d
def q7(b:bg)(J:bZ)(c:Z):Y Z:=jA (n3 b J c) 256
def avP b J c:U (q7 b J c)=256:=T2
def arN{c:bg}{J:bZ}{b:Z}(e:b<U (du c J b)){d:Z}:j8 c J (y (du c J b) b ai) (gn d)∈du c J (b+1):=by apply WW (yk b) (afJ e<|B6 b) _;have:=dY<|Oq (j8 c J) (y (du c J b) b ai)<|mE<|gn d;grind[UInt8.ofNat_toNat]
def avA{b:bg}{J:bZ}{c:Z}(k:U (du b J c)<=c)(n:c<=U (du b J c))(o:c<=3000):du b J 3000=du b J c/\ab (q7 b J) (bM c)=(yF b J).next:=by
 let g:du b J _=du b J c:=tt k o;let i:=J4 k n;refine⟨g,?_⟩;unfold yF ot;rw[g];have:=NQ (du b J c) ai λf=>ab (gX<|du b J c)<|g2 (j8 b J) f;rw[i] at this;show ab _ (bM c)=(du b J c).map λf=>ab (gX _)<|g2 _ f;rw[<-this];refine hY λd e=>?_;let e:=hM.1 e;let h:d<U (du b J d):=by refine B7 λl=>?_;have:du b J c=du b J d:=tt l<|wL e;rw[this] at i;omega
 let m:y (du b J c) d ai=y (du b J d) d ai:=by rw[dX,afJ h<|wL e];rfl
 rw[m,q7,T1,g2,i_];refine hY λp r=>?_;exact bQ<|y8 (pQ<|show d+1<=c from e)<|arN h
def aoJ{bb:Type} [hO bb]{c b:bb}H:c≠b->gX (c::H) b=gX H b+1:=by grind[gX,beq_eq_false_iff_ne]
def aoK{bb pC:Type} [hO bb] [hO pC]{d:bb->pC}(f:∀b c,d b=d c->b=c)H b:gX (ab d H) (d b)=gX H b:=RC (λb c _ _ e=>f b c e) (λ_ _=>b5) b5
theorem ZW{d:Type} [hO d]b(c:d):gX (ai::ab W b) (W c)=gX b c+1:=by simp[aoJ,aoK,mD]
def arO{u:bg}{J:bZ}{D Q:Z}(k:D<U (du u J D))(e:Q<256){fR:Y Z}(f:fR=p5 u.aJ (ob u J (y (du u J D) D ai)) Q)(g:fR∉h_ (eW u J D Q)):eW u J D (Q+1)=eW u J D Q++[W fR]/\h_ (eW u J D (Q+1))=h_ (eW u J D Q)++[fR]/\U (eW u J D Q)=n3 u J D Q:=by
 let c:=afH (u:=u) (J:=J) (D:=D) e;let d:=Un u J D Q;rw[<-f] at c;let b:eW u J D (Q+1)=eW u J D Q++[W fR]:=by rw[c,note,ad λh=>g<|(d.mem fR).1 h]
 refine⟨b,?_,?_⟩;rw[c,(d.note fR).2,note,ad g];let i:j8 u J (y (du u J D) D ai) (gn Q)=W fR:=by rw[j8,vh e,f]
 rw[n3,i,y8 (Uo k<|show Q+1<=256 by omega) (by rw[b];simp),b];have:=Dc (H:=eW u J D Q++[W fR]) (B:=U<|eW u J D Q) (by grind[aw3]) ao;grind
def arP{u:bg}{J:bZ}{D Q:Z}(i:D<U (du u J D))(d:Q<256){fR:Y Z}(e:fR=p5 u.aJ (ob u J (y (du u J D) D ai)) Q)(f:fR∈h_ (eW u J D Q)):eW u J D (Q+1)=eW u J D Q/\mr (·+1) (h_ (eW u J D Q)) fR=n3 u J D Q:=by
 let g:=afH (u:=u) (J:=J) (D:=D) d;let c:=Un u J D Q;rw[<-e] at g;let b:=(c.mem fR).2 f;exists by rw[g,note,af b]
 let h:j8 u J (y (du u J D) D ai) (gn Q)=W fR:=by rw[j8,vh d,e]
 rw[Fc f,n3,h,y8 (Uo i<|show Q<=256 by omega) b];let k:gX (eW u J D Q) (W fR)=gX (ai::ab W (h_ (eW u J D Q))) (W fR):=by rw[<-c]
 grind[ZW,h_,eW]
def KL:V:=b2 [an aj 0,.bo,.bo]
def Uu(b:aW):V:=if 3000<U (du (eg b ⟨[],[]⟩).1 (eg b ⟨[],[]⟩).2 3000) then cv [KL,aV ae] else cv [ga (yF (eg b ⟨[],[]⟩).1 (eg b ⟨[],[]⟩).2),aV ag]
def Z5{H:Y Z}(f:jC H){b:Z}(d:b<U H):y H b 0∉am b H:=λc=>by let⟨g,e,h⟩:=m_.1 c;rw[nD] at e;have:=D7.1 f g b q d q;simp_all
def YQ{H:Y Z}{b:Z->X}{B:Z}:B<U H->l_ b (am (B+1) H)=l_ b (am B H)++(if b (y H B 0) then[y H B 0] else[]):=by grind[Js]
def Wm{b:Y (Y Z)}{H:Y Z}{B:Z}:B<U H->ng b (am (B+1) H)=ee (ng b (am B H)) (y b (y H B 0) []):=by grind[ng,Js]
def WD{H:Y Z}{b:Z->X}{B:Z}:B<U H->fB (am (B+1) H) b=(fB (am B H) b||b (y H B 0)):=by grind[Js]
def Wl{e:Y (Y Z)}{R:Z}(h:∀d,∀b∈y e d [],b<R){f:Y Z}:∀b∈ng e f,b<R:=by
 have:∀(H c:Y Z),(∀b∈c,b<R)->∀b∈H.foldl (λc d=>ee c<|y e d []) c,b<R:=by
  intro H
  induction H
  simp
  next d H i=>grind[JB]
 exact this f [] λ_ g=>cg g kB
def mG(b:bg):Prop:=∀c,∀d∈y b.cn c [],d<U b.aJ
def Cd(d:bg->bg×bZ)(c:Z):Prop:=∀b,jb b->mG b->U b.aJ+c<=2000->mG (d b).1
def aaX{g:Y Z}{R:Z}(h:∀b∈g,b<R):∀e{d:Y (Y Z)},(∀c,∀b∈y d c [],b<R)->∀c,∀b∈y (kP d e g) c [],b<R|[],_,f=>f|k::e,d,f=>by refine aaX h e λc b i=>?_;grind[xl,pp]
def mG.zb{b:bg}(e:mG b){t c:Y Z}(d:∀f∈c,f<U b.aJ):mG ⟨b.aJ,kP b.cn t c⟩:=aaX d t e
theorem RI{d:bg->bg×bZ}{c:Z}(i:tg d c)(l:Cd d c):∀B{b:bg}{M:bZ},jb b->mG b->U b.aJ+B*c<=2000->fg M (U b.aJ)->mG (kO d B b M).1|0,b,M,_,g,_,_=>g|B+1,b,M,k,g,o,p=>by rw[hZ,wO] at o;let⟨n,h,e⟩:=i b k q;let m:(p3 _ M (d b).2).aJ.length=U b.aJ+c:=h;exact RI i l B (n.join M e) ((l b k g q).zb λs r=>by rw[h];exact e.f s r) q (by rw[m];exact(p.mono q).join e)
theorem acL{d:bg->bg×bZ}{c:Z}(i:tg d c)(l:Cd d c):∀B{b:bg}{M:bZ},jb b->mG b->U b.aJ+B*c<=2000->fg M (U b.aJ)->mG (pt d B b M).1|0,b,M,_,g,_,_=>g|B+1,b,M,k,g,o,p=>by rw[hZ,wO] at o;let⟨n,h,e⟩:=i b k q;let m:(p3 _ M (d b).2.lZ).aJ.length=U b.aJ+c:=h;exact acL i l B (n.join M e.lZ) ((l b k g q).zb λs r=>by rw[h];exact e.f s r) q (by rw[m];exact(p.mono q).join e.lZ)
theorem avb{d:bg->bg×bZ}{g:Z}(h:tg d g)(u:Cd d g){b c:L}{e:bg}(C:0<=b)(D:c=-1\/b<=c)(n:jb e)(y:mG e)(i:U e.aJ+g*(if c=-1 then aG (b+1) else aG c)<=2000):mG (qb d b c e).1:=by
 unfold qb;by_cases m:c=-1;rw[af m] at i;rw[af m];have l:aG (b+1)=aG b+1:=q;rw[l,B8,z4,l6] at i;have r:=HU h (aG b) (M:=⟨[],[],ag,ae⟩) n q<|fg.nil _ _ _;have p:=RI h u (aG b) (M:=⟨[],[],ag,ae⟩) n y q<|fg.nil _ _ _;generalize kO d _ e _=k at r p⊢;let⟨s,z,A⟩:=r;let⟨B,v,w⟩:=h k.1 s q;have t:∀o∈(d k.1).2.first,o<(d k.1).1.aJ.length:=λo x=>by rw[v];exact w.f o x
 exact((u k.1 s p q).zb t).zb t;rw[ad m] at i;have l:aG c=aG b+aG (c-b):=q;rw[l,B8,l6,l6 g] at i;have:=HU h (aG b) (M:=⟨[],[],ag,ae⟩) n q<|fg.nil _ _ _;grind[RI,fg.nil,kO,acL]
theorem V9:∀{H:Y aW}{b:bg}{M:bZ},(∀c∈H,tg (eg c) (dB c))->(∀c∈H,Cd (eg c) (dB c))->jb b->mG b->U b.aJ+eO H<=2000->fg M (U b.aJ)->mG (o_ H b M).1|[],b,M,_,_,e,n,_,m=>cf|c::H,b,M,k,l,e,n,r,m=>by rw[eO] at r;let⟨p,i,d⟩:=k c (ki ..) b e q;let o:(p3 _ M (eg c b).2).aJ.length=U b.aJ+dB c:=i;exact V9 (H:=H) (λh g=>k h<|mB _ g) (λh g=>l h<|mB _ g) (p.join M d) ((l c (ki ..) b e n q).zb λt s=>by rw[i];exact d.f t s) q (by rw[o];exact(m.mono q).join d)
def Wd:∀{H:Y aW}{b:bg}{M:bZ},(∀c∈H,tg (eg c) (dB c))->(∀c∈H,Cd (eg c) (dB c))->jb b->mG b->U b.aJ+eO H<=2000->fg M (U b.aJ)->mG (qy H b M).1|[],b,M,_,_,d,k,_,i=>cf|c::H,b,M,g,h,d,k,o,i=>by rw[eO] at o;let⟨l,m,n⟩:=g c (ki ..) b d q;exact Wd (H:=H) (λf e=>g f<|mB _ e) (λf e=>h f<|mB _ e) l (h c (ki ..) b d k q) q (by rw[m];exact(i.mono q).Cu n _ _)
def Wh:∀b,e1 b->Cd (eg b) (dB b):=aW.ind λb s he f p g z=>by
 let⟨⟨⟨B,F⟩,G,v,H,I,J,K,L,C,D,E⟩,n⟩:=p8.1 he;have t:∀c∈b.a3,Cd (eg c) (dB c):=λc e=>s c e<|n c e;have u:∀c∈b.a3,tg (eg c) (dB c):=λc e=>Cr c<|n c e;have l:dB b<=2000:=q;rw[PJ];split;exact g;split;intro h i d;have d:i∈y (f.cn++[[]]) h []:=d;show i<U (f.aJ++[b.set]);rw[cd];rw[dX,nB] at d;split at d;rw[<-dX] at d;have:=g h i d;omega;exfalso;cases m:h-U f.cn;rw[m] at d;simp at d
 next A=>rw[m] at d;simp at d
 split;grind[K6,V9,fg.nil];split;have:=K6 q q l;exact Wd u t p g q<|fg.nil _ _ _;split;rename_i k;have:=Xv k l;let⟨x,M,N,O⟩:=v k;have o:=Fe x;have r:0<U b.a3:=q;have hm:y b.a3 0 av∈b.a3:=dL r;generalize y b.a3 0 av=w at o hm;have:eO b.a3=dB w:=by rw[o,eO,eO];rfl
 grind[w4,qb,eg,avb,id];omega
section
def awm{H:Y (Y (L×L))}{b:Z}:b<U H->(ab kI H)[b]?=W (kI (y H b [])):=by simp_all
def q9(b:bg)(J:bZ)(c:ik):V:=ca<|ob b J c
def vd(J:bZ)(b:ik):V:=bE<|sy J b
theorem aw6{b:bg}{J:bZ}{ak:Y ik}{c:Z}{d:ik}(e:ak[c]?=W d):(ab (q9 b J) ak)[c]?=W (ca (ob b J d)):=by rw[db,e];rfl
def lb:Z->Z:=λb=>b+1
def Up{c:bg}{J:bZ}{ak:Y ik}{d:Z}{e:ik}{b:Y Z}:ak[d]?=W e->ob c J e=b->(ab (q9 c J) ak)[d]?=W (ca b):=by grind[aw6]
def apv{d:ik->V}{ak:Y ik}(e:mK ak){b:Y Z}(g:b∉h_ ak):lB (e6 tK (λc=>l<|lb c) (h_ ak)) (U (h_ ak)) (a8 (mT b)) (l (U<|ab d ak))=(e6 tK (λc=>l<|lb c) (h_ ak++[b]),U (h_ ak++[b])):=by
 let f:=by have:=ea U e;rw[l5,bm] at this;exact this
 rw[bm,f];exact Df HY b5 (λ_ _=>b5) g
def aat{b:Y (Y Z)}:nZ k1 (e6 tK (λc=>l<|lb c) b):=Mq
def HH:jb ⟨[],[]⟩:=⟨aa,dJ _,λb=>by simp[fJ.nil]⟩
def anh:mG ⟨[],[]⟩:=λc d b=>cf
def aok R{H:Y Z}(d:jC H){b:Z}(c:b<U H):aR (i1 R (am b H)) (y H b 0) ag=i1 R (am (b+1) H):=by rw[L9<|Z5 d c,note,ad<|Z5 d c,<-Js c]
theorem afZ{F:aW}(b:3000<U (du (eg F ⟨[],[]⟩).1 (eg F ⟨[],[]⟩).2 3000)):Uu F=cv [KL,aV ae]:=af b
def af0{F:aW}(b:U (du (eg F ⟨[],[]⟩).1 (eg F ⟨[],[]⟩).2 3000)<=3000):Uu F=cv [ga (yF (eg F ⟨[],[]⟩).1 (eg F ⟨[],[]⟩).2),aV ag]:=ad q
def aw5{u:bg}{J:bZ}{b Q:Z}(c:b<U (du u J b)):(eW u J b Q)[b]?=W (y (du u J b) b ai):=by apply zp<|CN _ _;simp_all
def afM{c:bg}{J:bZ}{b:Z}(g:U c.aJ=b)(e:mG c)(h:fg J b)d:∀i∈ob c J d,i<b:=by
 cases d;exact h.f
 next k=>exact Wl (g▸e · · ·)
def aw4 b J c:q9 b J (W c)=ca (ng b.cn c):=aa
def aw2 J b:vd J (W b)=bE (fB b λc=>aH<|c∈J.last):=aa
def avO b J c:jA (n3 b J c) 256=q7 b J c:=aa
def acv d b c:(b.filter λe=>jt (y d e []) c)=p5 d b c:=aa
def ajw{bb:Type} [hO bb]{cj:bb->C->bb}{b:bb->X}{H:Y bb}:ga (ot cj b H)=b2 [an aj 0,.al 1 (H.map λc=>bE<|b c),.al 1 ((ot cj b H).next.map ca)]:=by simp[ot,ga,l]
def ajx b J:ga (yF b J)=b2 [an aj 0,.al 1 (ab (vd J) (du b J 3000)),.al 1 ((yF b J).next.map ca)]:=by exact ajw
attribute [local irreducible] du eW h_ jA n3 q7 p5 ob ng mT mr v9 i1 jt q9 vd sy
theorem aeS(F:aW)(o:e1 F)(a7:dB F<=2000):bh 127 [cW F] (Uu F):=by
 refine bs func127 [2004,2007,2012,2015,2028,2036] λp a2=>?_;obtain⟨n,A,dM⟩:=Cr F o ⟨[],[]⟩ HH bi;have E:=aiO F o ⟨[],[]⟩ λJ aQ=>cg aQ kB;have x:=Wh F o ⟨[],[]⟩ HH anh bi;have s:=aiM F o o ⟨[],[]⟩ HH bi 0 (eg F ⟨[],[]⟩).1.aJ.length aa aa;have M:=afZ (F:=F);have O:=af0 (F:=F);generalize eg F ⟨[],[]⟩=ay at n A dM E x s M O;obtain⟨u,J⟩:=ay;dsimp only at n A dM E x s M O;have aL:0+dB F=U u.aJ:=bQ A;rw[show(⟨[],[]⟩:bg).aJ.length+dB F=U u.aJ from aL] at dM;generalize C:U u.aJ=d at dM s;have bn:U u.cn=d:=b0 n.len C;have bu:=dM.ok.2.len;have a0:d<=2000:=by rw[<-C];exact n.k
 refine aT ?_ (g:=T5 F o);apply f<;>intro bb
 .omega
 refine ke ⟨[(1,b 1),(2,b 2),(4,b 26)],[(1,ah 169<|cW F),(2,ah 119<|V.zero p2.z),(26,ah 292<|b2 [.bo,.bo,aV ae])],[]⟩ ?_;refine a1.eK 1300 1 166 [] (W (26,0)) ?_;refine a1.eK 1301 1 50 [] (W (26,1)) ?_;refine dA ?_;refine bG [(6000,26),(5000,1300),(5001,1301)] ?_ (g:=s);refine nc.mk nofun λ_=>?_;refine a1.AZ 1300 d (aC:=ab kI u.aJ) bi ?_;refine a1.AZ 1301 d (aC:=ab ca u.cn) bi ?_;refine dA ?_;refine kS d d (ab bE<|i1 d []) ?_ (k:=bi) (lR:=bi) (aU:=by rw[Rg,B3];rfl);refine e9 (U J.last) (λD=>⟨[(2,b 2),(4,b 26),(5,b 5),(7,l D),(6,.a 40 0 d)],[(2,ah 119<|V.zero p2.z),(5,ah 294<|vQ J),(26,ah 292<|b2 [.al 1 (ab kI u.aJ),.al 1<|ab ca u.cn,aV ae]),(40,.j 1 4<|ab bE<|i1 d<|am D J.last)],[]⟩) λD k=>?_;apply f<;>intro bc
 .have i:D<U J.last:=q;have v:y J.last D 0<d:=dM.l _<|dL i;refine bB D (l<|y J.last D 0) ?_ (k:=eE i);refine cE (y J.last D 0) ?_ (k:=v);refine fF (ab bE<|i1 d<|am (D+1) J.last) (bE<|aH<|y J.last D 0∈am D J.last) (bE ag) ?_ (k:=Pp) (aU:=by rw[<-aok d dM.ok.2.1 i,hl]);refine aY ?_;exact a4<|D+1
 obtain rfl:D=U J.last:=q;rw[iJ];refine a1.AZ 40 d (aC:=ab bE<|i1 d J.last) (by simp[L8]) ?_;refine dA ?_;refine n0 ?_;refine n0 ?_;refine a1.eK 1302 1 50 [] (W (8,2)) ?_;refine dA ?_;refine c8 Z (λD=>⟨[(2,b 2),(4,b 26),(6,.al 1<|ab bE<|i1 d J.last),(8,b 8),(10,.eA 62),(11,l D),(9,.a 61 0<|U<|ab (q9 u J)<|du u J D)],[(2,ah 119<|V.zero p2.z),(8,ah 119<|b2 [an aj 0,.a 57 0<|U<|ab (vd J)<|du u J D,.a 1302 0<|U<|ab ca<|ab (q7 u J)<|bM D]),(26,ah 292<|b2 [.al 1 (ab kI u.aJ),.al 1<|ab ca u.cn,aV ae]),(61,.j 1 50<|ab (q9 u J)<|du u J D),(57,.j 1 4<|ab (vd J)<|du u J D),(1302,.j 1 50<|ab ca<|ab (q7 u J)<|bM D),(62,iA (e6 tK (λm=>l<|lb m)<|h_<|du u J D)<|U<|h_<|du u J D)],[]⟩) (λD=>D<=U (du u J D)/\U (du u J D)<=3000) (λD=>3001-D) 0 (λD k=>?_) ⟨dJ _,by simp[du,cz]⟩;apply f<;>intro bd
 .obtain⟨R,aF⟩:=k;have i:D<U (du u J D):=q;have I:fJ (ob u J (y (du u J D) D ai)):=afN n.cn dM.ok;have H:=afM C x dM<|y (du u J D) D ai;have az:=I.len;have aE:=λQ=>aw5 (u:=u) (J:=J) (Q:=Q) i;have X:=λ(Q:Z) (e:Q<256) (fR:Y Z)=>arO (u:=u) (J:=J) (D:=D) (Q:=Q) i e (fR:=fR);have av:=λ(Q:Z) (e:Q<256) (fR:Y Z)=>arP (u:=u) (J:=J) (D:=D) (Q:=Q) i e (fR:=fR);rw[<-afI u J D];generalize N:ob u J (y (du u J D) D ai)=c at I H az X av;refine kS 256 256 (ab l<|jA (n3 u J D) 0) ?_ (aU:=VD);refine gN 256 (λQ=>U (eW u J D Q)<=3000) (λQ=>⟨[(2,b 2),(4,b 26),(6,.al 1<|ab bE<|i1 d J.last),(8,b 8),(10,.eA 62),(11,l D),(13,l Q),(9,.a 61 0<|U<|ab (q9 u J)<|eW u J D Q),(12,.a 69 0 256)],[(2,ah 119<|V.zero p2.z),(8,ah 119<|b2 [an aj 0,.a 57 0<|U<|ab (vd J)<|eW u J D Q,.a 1302 0<|U<|ab ca<|ab (q7 u J)<|bM D]),(26,ah 292<|b2 [.al 1 (ab kI u.aJ),.al 1<|ab ca u.cn,aV ae]),(61,.j 1 50<|ab (q9 u J)<|eW u J D Q),(69,.j 1 3<|ab l<|jA (n3 u J D) Q),(57,.j 1 4<|ab (vd J)<|eW u J D Q),(1302,.j 1 50<|ab ca<|ab (q7 u J)<|bM D),(62,iA (e6 tK (λm=>l<|lb m)<|h_<|eW u J D Q)<|U<|h_<|eW u J D Q)],[]⟩) (λQ e=>?_) (by grind[afI]);apply f<;>intro be
  .obtain⟨aA,K⟩:=e;have e:Q<256:=q;have t:=aE Q;have bt:D<U (eW u J D Q):=(eX.1 t).1;refine a1.eK 14 1 3 [14] ai ?_;refine e9 (U c) (λB=>⟨[(2,b 2),(4,b 26),(6,.al 1<|ab bE<|i1 d J.last),(8,b 8),(10,.eA 62),(11,l D),(13,l Q),(15,l B),(9,.a 61 0<|U<|ab (q9 u J)<|eW u J D Q),(12,.a 69 0 256),(14,.a 14 0<|U<|ab l<|l_ (λG=>jt (y u.aJ G []) (Q:L))<|am B c)],[(2,ah 119<|V.zero p2.z),(8,ah 119<|b2 [an aj 0,.a 57 0<|U<|ab (vd J)<|eW u J D Q,.a 1302 0<|U<|ab ca<|ab (q7 u J)<|bM D]),(26,ah 292<|b2 [.al 1 (ab kI u.aJ),.al 1<|ab ca u.cn,aV ae]),(61,.j 1 50<|ab (q9 u J)<|eW u J D Q),(69,.j 1 3<|ab l<|jA (n3 u J D) Q),(14,.j 1 3<|ab l<|l_ (λG=>jt (y u.aJ G []) (Q:L))<|am B c),(57,.j 1 4<|ab (vd J)<|eW u J D Q),(1302,.j 1 50<|ab ca<|ab (q7 u J)<|bM D),(62,iA (e6 tK (λm=>l<|lb m)<|h_<|eW u J D Q)<|U<|h_<|eW u J D Q)],[]⟩) λB h=>?_;refine cE D ?_ (k:=bi);refine fl (ca c) ?_ (k:=Up t N);apply f<;>intro bf
   .have h:B<U c:=q;have aP:y c B 0<d:=H _<|dL h;refine fA ?_;refine cE D ?_ (k:=bi);refine fl (ca c) ?_ (k:=Up t N);refine bB B (l<|y c B 0) ?_ (k:=eE h);refine bB (y c B 0) (kI<|y u.aJ (y c B 0) []) ?_ (k:=awm q);refine ch ?_ (g:=aoR (y u.aJ (y c B 0) []) (Q:L) (by have:=(awV E<|y c B 0).1;omega));apply f<;>intro bk
    .refine cE D ?_ (k:=bi);refine fl (ca c) ?_ (k:=Up t N);refine bB B (l<|y c B 0) ?_ (k:=eE h);refine cp ?_;refine eB (ab l<|l_ (λG=>jt (y u.aJ G []) (Q:L))<|am (B+1) c) ?_ (gi:=.al aa aa aa aa (by simp[l,V.cells];rfl)) (aU:=by simp_all[YQ,af,dc]) (bl:=aK);refine aY ?_;exact a4<|B+1
    rw[show l_ (λG=>jt (y u.aJ G []) (Q:L)) (am B c)=l_ (λG=>jt (y u.aJ G []) (Q:L)) (am (B+1) c) by simp_all[YQ,ad,gv]];refine aY ?_;exact a4<|B+1
   obtain rfl:B=U c:=q;rw[iJ];have ar:=S8 (aJ:=u.aJ) I (Q:=Q);rw[acv];have ap:∀G∈p5 u.aJ c Q,G<d:=λG v=>H G (m9.1 (by rw[<-acv] at v;exact v)).1;have S:=X Q e (p5 u.aJ c Q) aa;have au:=av Q e (p5 u.aJ c Q) aa;generalize p5 u.aJ c Q=fR at ar ap S au;have bw:=ar.len;refine a1.h6 14 ?_;refine dA ?_;refine aT ?_ (g:=R2 fR (λT aR=>aK) q);refine sW (cv [l (mr lb (h_<|eW u J D Q) fR),aV<|v9 (h_<|eW u J D Q) fR]) ?_ aat<|H3 (G:=λ_=>dW) (u:=lb) (fa:=h_<|eW u J D Q) (T:=fR) HY b5 (λ_ _=>b5) aa;apply f<;>intro aD
   .have ak:fR∉h_ (eW u J D Q):=λaw=>aD<|sT.2 aw;obtain⟨r,w,ax⟩:=S ak;apply f<;>intro a9
    .have aB:3000<U (du u J 3000):=by
      have aM:=(Uo (u:=u) (J:=J) i<|show Q+1<=256 by omega).length_le;have aN:=(pQ (succ:=g2<|j8 u J) (bP:=[ai])<|show D+1<=3000 by omega).length_le;have bx:U (du u J (D+1))<=U (du u J 3000):=by unfold du;exact aN
      rw[r,cd,ri] at aM;omega
     rw[M aB];exact dj br
    refine aT ?_ (g:=R2 fR (λT aR=>aK) q);refine rV (e6 tK (λm=>l<|lb m)<|h_<|eW u J D<|Q+1) (U<|h_<|eW u J D<|Q+1) ?_ (mq:=aat) (hu:=by rw[w];exact apv (Un u J D Q) ak);refine a1.tB 1 [18] ?_;refine dA ?_;refine e9 (U fR) (λB=>⟨[(2,b 2),(4,b 26),(6,.al 1<|ab bE<|i1 d J.last),(8,b 8),(10,.eA 62),(11,l D),(13,l Q),(14,.al 1<|ab l fR),(16,l<|U<|ab (q9 u J)<|eW u J D Q),(18,ca<|ng u.cn<|am B fR),(19,bE<|fB (am B fR) λG=>aH<|G∈J.last),(20,l B),(9,.a 61 0<|U<|ab (q9 u J)<|eW u J D Q),(12,.a 69 0 256)],[(2,ah 119<|V.zero p2.z),(8,ah 119<|b2 [an aj 0,.a 57 0<|U<|ab (vd J)<|eW u J D Q,.a 1302 0<|U<|ab ca<|ab (q7 u J)<|bM D]),(26,ah 292<|b2 [.al 1 (ab kI u.aJ),.al 1<|ab ca u.cn,aV ae]),(61,.j 1 50<|ab (q9 u J)<|eW u J D Q),(69,.j 1 3<|ab l<|jA (n3 u J D) Q),(57,.j 1 4<|ab (vd J)<|eW u J D Q),(1302,.j 1 50<|ab ca<|ab (q7 u J)<|bM D),(62,iA (e6 tK (λm=>l<|lb m)<|h_<|eW u J D<|Q+1)<|U<|h_<|eW u J D<|Q+1)],[]⟩) λB h=>?_;apply f<;>intro a_
    .have h:B<U fR:=q;have aP:y fR B 0<d:=ap _<|dL h;have a3:=(PN n.cn (fR:=am B fR)).len;have a5:=(n.cn<|y fR B 0).len;refine fA ?_;refine bB B (l<|y fR B 0) ?_ (k:=eE h);refine bB (y fR B 0) (ca<|y u.cn (y fR B 0) []) ?_ (k:=AW q);refine ch ?_ (g:=Gg (ng u.cn<|am B fR) (y u.cn (y fR B 0) []) q q);apply cy;intro bq;refine jV B (l<|y fR B 0) ?_ (k:=eE h);refine jV (y fR B 0) (bE<|aH<|y fR B 0∈J.last) ?_ (k:=Pp);exact aa;refine aY ?_;exact a4 (B+1) (bA:=⟨⟨ba,ba,ba,ba,ba,ba,ba,ba,ba,(by rw[Wm h];rfl),(by rw[WD h];rfl),ba,ba,ba,b5⟩,⟨ba,ba,ba,ba,ba,ba,ba,ba,b5⟩,aa,aa⟩)
    obtain rfl:B=U fR:=q;rw[iJ];refine cp ?_;refine eB (ab (q9 u J)<|eW u J D<|Q+1) ?_ (aU:=by rw[r,dc,O9,aw4]) (bl:=kj);refine cp ?_;refine eB (ab (vd J)<|eW u J D<|Q+1) ?_ (aU:=by rw[r,dc,O9,aw2];rfl) (bl:=kj);refine cE Q ?_ (k:=q)
    first|refine fF (ab l<|jA (n3 u J D)<|Q+1) (l<|y (jA (n3 u J D) Q) Q 0) (l<|U<|ab (q9 u J)<|eW u J D Q) ?_ (k:=eE Kf) (aU:=by grind[List.length_map,List.map_set,T3])|refine fF ((jA (n3 u J D)<|Q+1).map l) (l<|(jA (n3 u J D) Q).getD Q 0) (l<|mr lb (h_<|eW u J D<|Q+1) fR) ?_ (k:=eE (by rw[T2];exact e)) (aU:=by rw[P,<-hl,T3 e])
    refine aY ?_;exact a4 (Q+1) ⟨q,kj⟩
   have aI:fR∈h_ (eW u J D Q):=sT.1 aq;obtain⟨r,w⟩:=au aI;have P:mr lb (h_ (eW u J D Q)) fR=n3 u J D Q:=w;rw[<-r] at P⊢;refine cE Q ?_ (k:=q)
   first|refine fF (ab l<|jA (n3 u J D)<|Q+1) (l<|y (jA (n3 u J D) Q) Q 0) (l<|U<|ab (q9 u J)<|eW u J D Q) ?_ (k:=eE Kf) (aU:=by rw[bm,ax,<-hl,T3 e])|refine fF (ab l<|jA (n3 u J D)<|Q+1) (l<|y (jA (n3 u J D) Q) Q 0) (l<|mr lb (h_<|eW u J D<|Q+1) fR) ?_ (k:=eE Kf) (aU:=VF)
   refine aY ?_;exact a4 (Q+1) ⟨q,aq⟩
  obtain⟨aA,K⟩:=e;obtain rfl:Q=256:=q;rw[Um i,avO];rw[Um i] at K;refine Dr 69 256 (aC:=ab l<|q7 u J D) (by simp[avP]) ?_;refine cp ?_;refine eB (ab ca<|ab (q7 u J)<|bM<|D+1) ?_ (aU:=IN (q7 u J) ca D) (bl:=aK);refine aY ?_;exact a4 (D+1) ⟨by grind[P_,g2,j8,du],K⟩
 obtain⟨R,aF⟩:=k;have aG:U (du u J D)<=D:=q;obtain⟨aS,aX⟩:=avA aG R q;rw[O aq,ajx,aS,<-aX];exact gq 57<|gq 1302<|dj br
end
mutual
def aW.parts:aW->Z|.mk _ _ _ _ H=>1+fy H
def fy:Y aW->Z|[]=>0|b::H=>b.parts+fy H
end
mutual
def aW.lV:aW->Z|.mk _ _ _ _ H=>1+nn H
def nn:Y aW->Z|[]=>0|b::H=>max b.lV<|nn H
end
mutual
def tX:aW->L->L|.mk _ _ _ _ H,b=>q4 H b 1
def q4:Y aW->L->L->L|[],_,R=>R|c::H,b,R=>if R<=b then q4 H b (R+tX c (b-R)) else R
end
def aW.parts_eq(b:aW):b.parts=1+fy b.a3:=by cases b;rfl
def aW.Mw(b:aW):b.lV=1+nn b.a3:=by cases b;rfl
def adL(b:aW)(m:L):tX b m=q4 b.a3 m 1:=by cases b;rfl
def aW.adm(b:aW):1<=b.parts:=by rw[b.parts_eq];omega
theorem atT{H:Y aW}{m R:L}(b:¬R<=m):q4 H m R=R:=by cases H with|nil=>rfl|cons c H=>rw[q4,ad b]
def abG{c b:aW}(e:b∈c.a3):b.parts<c.parts:=by
 rw[c.parts_eq];have:∀H,b∈H->b.parts<=fy H:=by
  intro H
  induction H with|nil=>simp|cons d H f=>rw[fy]<;>grind
 grind
def aqz{c b:aW}(e:b∈c.a3):b.lV<c.lV:=by
 rw[c.Mw];have:∀H,b∈H->b.lV<=nn H:=by
  intro H
  induction H with|nil=>simp|cons d H f=>rw[nn]<;>grind
 grind
def R3(b:aW):U b.a3<b.parts:=by
 rw[b.parts_eq];have:∀H,U H<=fy H:=by
  intro H
  induction H with|nil=>trivial|cons c H d=>rw[fy,l5];have:=c.adm;omega
 grind
def adM:∀b:aW,∀m:L,(tX b m<=b.parts/\1<=tX b m)/\((b.parts:L)<=m->tX b m=b.parts)/\(m<(b.parts:L)->m<tX b m):=by
 refine aW.ind λb u m=>?_;rw[adL];let v:∀H,(∀c∈H,∀m,(tX c m<=c.parts/\1<=tX c m)/\(c.parts<=m->tX c m=c.parts)/\(m<c.parts->m<tX c m))->∀R,1<=R->(q4 H m R<=R+fy H/\1<=q4 H m R)/\(R+fy H<=m->q4 H m R=R+fy H)/\(m<R+fy H->m<q4 H m R):=by
  intro H
  induction H with|nil=>simp[q4,fy]|cons d H g=>intro e R s;rw[q4,fy];let⟨⟨h,i⟩,k,l⟩:=e d aq<|m-R;let f:=g λc t=>e c aq;split;let⟨⟨n,o⟩,p,r⟩:=f (R+tX d (m-R)) q<;>omega;omega
 rw[b.parts_eq]<;>simp_all
theorem abf{H:Y aW}{b:Z}(d:b<U H):nn (am (b+1) H)=max (nn (am b H)) (y H b av).lV:=by induction H generalizing b with|nil=>trivial|cons c H e=>grind[nn,max,av]
def al6:∀c:aW,c.parts<=1000000->∀R:Z,R<=1000000->bh 170 [cW c,l R] (aV (aH (R<c.lV))):=by
 refine aW.ind λc o A R z=>?_;let x:=c.Mw;let w:=R3 c;refine g3.of_wp (K:=hX) (m:=5000) [] (λ_=>(0,0)) ⟨[(0,cW c),(1,l R)],[],[]⟩ gm br h7 ⟨func170,ba,aa⟩ aa aa aa aa λp i n=>?_;let t:kE bL hX p fT _ []:=⟨gm,br,i,h7,n⟩;apply f<;>intro v
 .exact aL (s:=by rw[show aH (R<c.lV)=ag by grind];rfl)
 refine gN (U c.a3) (λd=>nn (am d c.a3)<R) (λd=>⟨[(1,_),(2,b 2),(5,l d)],[(2,_)],[]⟩) (λd k=>?_) (by grind[nn]) .r;apply f<;>intro h
 .let e:d<U c.a3:=by rw[io] at h;omega
  refine bB d (cW<|y c.a3 d av) ?_ (k:=ly e);refine jG ((R-1:Z):L)<|aT ?_ (g:=o (y c.a3 d av) (dL e) (by have:=abG<|dL (I:=av) e;omega) (R-1) q);apply f<;>intro u
  .exact aL (s:=by let hm:=aqz<|dL (I:=av) e;rw[show aH (R<c.lV)=ag by grind];rfl)
  refine aY ?_;exact a4 (d+1) ⟨q,by grind[abf]⟩ (bA:=.r)
 rw[io] at h;obtain rfl:d=U c.a3:=q;exact aL (s:=by rw[show aH (R<c.lV)=ae by grind];rfl)
def avB:∀c:aW,c.parts<=1000000->∀m:L,0<=m->m<=1000000->bh 171 [cW c,an aj m] (an aj (tX c m)):=by
 refine aW.ind λc v C m A B=>?_;let z:=R3 c;rw[adL];refine g3.of_wp (K:=hX) (m:=5000) [] (λ_=>(0,0)) ⟨[(0,cW c),(1,an aj m)],[],[]⟩ gm br h7 ⟨func171,ba,aa⟩ aa aa aa aa λp s u=>?_;let x:kE bL hX p fT _ []:=⟨gm,br,s,h7,u⟩;refine c8 (Z×L) (λe=>⟨[(1,_),(2,b 2),(5,an aj e.2),(6,l e.1)],[(2,_)],[]⟩) (λe=>e.1<=U c.a3/\q4 c.a3 m 1=q4 (ay e.1 c.a3) m e.2/\1<=e.2/\e.2<=2000000) (λe=>U c.a3-e.1) (0,1) (λ⟨d,R⟩ ⟨F,o,G,H⟩=>?_) ⟨dJ _,aa,D1 1,q⟩ .r;refine i4 ?_;apply f<;>intro n
 .let i:(d:L)<U (hh c.a3)/\R<=m:=by simpa[gp] using n
  let h:d<U c.a3:=by have:=i.1;rw[io] at this;omega
  let E:=(adM (y c.a3 d av)<|m-R).1;let D:=abG<|dL (I:=av) h;refine bB d (cW<|y c.a3 d av) ?_ (k:=ly h);refine iQ<|aT ?_ (g:=v (y c.a3 d av) (dL h) q (m-R) q q);refine aY<|aY ?_;exact a4 (d+1,R+tX (y c.a3 d av) (m-R)) ⟨h,by rw[o,vM h,q4,af i.2],q,q⟩ q .r
 let i:¬((d:L)<U (hh c.a3)/\R<=m):=by simpa[gp] using n
 rw[io] at i;let t:q4 (ay d c.a3) m R=R:=by by_cases w:R<=m;grind[List.drop_eq_nil_of_le,q4];grind[atT]
 rw[o,t];exact aL
def BM{H:Y (L×L)}{b:Z}(c:b<U H):(ab hs H)[b]?=W (hs (y H b av)):=aq
def acF{b:aW}(d:oN b){c:Z}(e:c<U b.set):0<=(y b.set c av).1/\(y b.set c av).1<=(y b.set c av).2/\(y b.set c av).2<=255:=d.2.2.2.2.1 _ aq
def as9(d:aW)(i:oN d):bh 226 [cW d] (an aj 0):=by
 refine bs func226 [] λp s=>?_;let h:=λ(c:Z) (k:c<U d.set)=>acF i k;let⟨⟨T,ak⟩,am,ap,ar,au,aw,o,ax,n,X,Y⟩:=i;let Q:¬d.c0=3->U d.set=0:=λg=>aq;let R:d.c0=3->0<U d.set:=λg=>yh.2<|n g;let O:d.c0<4->U d.a3=0:=λg=>aq;let C:=io d.a3;refine gu ?_;apply f<;>intro t
 .omega
 refine i4 ?_;apply cy;intro H;apply cL;intro I;refine gu ?_;exact aa;exact aa;apply cy;intro J;refine i4 ?_;exact aa;apply f<;>intro z
 .omega
 refine gu ?_;refine i4 ?_;apply cy;intro K;refine i4 ?_;exact aa;apply cy;intro M;refine i4 ?_;exact aa;apply f<;>intro A
 .omega
 refine e9 (U d.set) (λc=>⟨[(1,b 1),(3,l c)],[(1,_)],[]⟩) (λc k=>?_) .r;apply f<;>intro B
 .let e:c<U d.set:=q;let m:=h c e;refine fA ?_;refine jV c (hs<|y d.set c av) ?_ (k:=BM e);apply cy
  .intro N
   iterate 2 refine jV c (hs<|y d.set c av) ?_ (k:=BM e)
   exact aa
  apply cy;intro D;refine jV c (hs<|y d.set c av) ?_ (k:=BM e);exact aa;apply f<;>intro u
  .omega
  refine aY ?_;exact a4 (c+1) (bA:=.r)
 apply cL;intro E;refine gu ?_;apply cy;intro F;apply cL;intro G;refine gu ?_;exact aa;exact aa;exact aa;apply f<;>intro v
 .omega
 refine c8 Z (λc=>⟨[(1,b 1),(4,l c)],[(1,_)],[]⟩) (λc=>1<=c) (λc=>1000-c) 1 (λc k=>?_) (bv 1) .r;apply f<;>intro w
 .let e:c<U d.set:=q;let m:=h c e;let S:=h (c-1) q;let P:=o c q e;refine fA ?_;refine jV c (hs<|y d.set c av) ?_ (k:=BM e);refine jG ((c-1:Z):L) ?_;refine jV (c-1) (hs<|y d.set (c-1) av) ?_ (k:=BM q);refine aY ?_;apply f<;>intro x
  .omega
  refine aY ?_;exact a4 (c+1) (bA:=.r)
 exact aL
def atb:∀c:aW,e1 c->bh 172 [cW c] (an aj 0):=by
 refine aW.ind λc s he=>?_;let⟨e,u⟩:=p8.1 he;let v:=e.2.2.2.1;refine g3.of_wp (K:=hX) (m:=5000) [] (λ_=>(0,0)) ⟨[(0,cW c)],[],[]⟩ gm br h7 ⟨func172,ba,aa⟩ aa aa aa aa λp h o=>?_;let t:kE bL hX p fT _ []:=⟨gm,br,h,h7,o⟩;refine aT (g:=as9 c e)<|e9 (U c.a3) (λd=>⟨[(1,b 1),(3,an aj 0),(4,l d)],[(1,_)],[]⟩) (λd k=>?_) .r;refine i4 ?_;apply f<;>intro i
 .let n:d<U c.a3:=by have:=i;rw[io] at this;omega
  refine bB d _ ?_ (k:=ly n);refine aT (g:=s (y c.a3 d av) aq aq)<|aY ?_;exact a4 (d+1) (bA:=.r)
 exact aL
def ad7(b:aW)(s:e1 b)(c:b.parts<=1000000):bh 126 [cW b] (an aj (if 40<b.lV\/400<b.parts then 3 else 0)):=by
 refine bs func126 [] λp d=>?_;let i:=adM b 400;refine aT ?_ (g:=al6 b c 40 a2);apply cy;refineλh=>ch ?_ (g:=avB b c 400 a2 a2);exact aa;apply f<;>intro e
 .exact aL (s:=by rw[af];rfl;omega)
 refine aT ?_ (g:=atb b s);exact aL (s:=by rw[ad];rfl;omega)
noncomputable def qD(b:uz):bY×L:=if 300<(mi b).next.length then(uP,3) else(mi b,0)
def ad8(b:aW)(c:e1 b)(e:b.parts<=400)(d:b.lV<=40):bh 126 [cW b] (an aj 0):=by have:=ad7 b c q;grind
theorem avD(b:aW)(c:e1 b)(e:2000<dB b):bh 127 [cW b] (cv [KL,aV ae]):=by
 refine bs func127 [] λp d=>?_;refine aT ?_ (g:=T5 b c);apply f<;>intro h
 .exact dj br
 omega
def auU(b:bY)(c:hD b):bh 128 [ga b] (cv [ga (qD (i3 b)).1,an aj (qD (i3 b)).2]):=by
 refine bs func128 [] λp d=>?_;refine aT ?_ (g:=avm b c);apply f<;>intro e
 .rw[show qD _=(uP,3) from af q];exact fQ 1 2 [1,2] (dj br)
 rw[show qD _=(mi _,0) from ad q];exact dj br
theorem aeb(b:aW)(c:e1 b)(e:b.parts<=400)(d:b.lV<=40)(f:bh 127 [cW b] (cv [KL,aV ae])):bh 97 [cW b] (cv [ga uP,an aj 3]):=by refine bs func97 [] λp h=>?_;refine aT ?_ (g:=ad8 b c e d);refine nc.mk nofun λ_=>?_;refine aT ?_ (g:=f);refine nc.mk (λ_=>?_) nofun;exact fQ 1 2 [1,2] (dj br)
def auw(b:aW)(e:e1 b)(h:b.parts<=400)(f:b.lV<=40){c:bY}(d:hD c)(i:bh 127 [cW b] (cv [ga c,aV ag])):bh 97 [cW b] (cv [ga (qD (i3 c)).1,an aj (qD (i3 c)).2]):=by refine bs func97 [] λp k=>?_;refine aT ?_ (g:=ad8 b e h f);refine nc.mk nofun λ_=>?_;refine aT ?_ (g:=i);refine nc.mk nofun λ_=>?_;refine aT ?_ (g:=auU c d);exact dj br
def aec{b:aW}(c:e1 b)(g:b.parts<=400)(f:b.lV<=40):bh 97 [cW b] (cv [ga (mV b).1,an aj (mV b).2]):=by
 unfold mV;by_cases h:2000<dB b;grind[aeb,avD];by_cases i:3000<U (du (eg b ⟨[],[]⟩).1 (eg b ⟨[],[]⟩).2 3000);grind[aeb,afZ,aeS];let d:=aeS b c q;rw[af0 q] at d;have:=auw b c g f (WN q) d;rw[P4 q] at this;let e:qD (xx b)=if 2000<dB b\/3000<U (du (eg b ⟨[],[]⟩).1 (eg b ⟨[],[]⟩).2 3000)\/300<(mi<|xx b).next.length then(uP,3) else(mi<|xx b,0):=by unfold qD;by_cases k:300<(mi<|xx b).next.length;simp_all;simp_all[ad]
 rw[<-e];trivial
def cZ(c:Y C)(b:Z)(d:C):X:=aH ((b:L)<U c)&&aH ((ax (y c b 0):L)=ax d)
def kv(c:Y C)(b:Z):X:=aH ((b:L)<U c)&&aH (32<=(ax (y c b 0):L))&&aH ((ax (y c b 0):L)<=126)
def gL(J:Y C)(b:C):X:=fB J λc=>aH<|(ax c:L)=ax b
def Zo{J:Y C}{b:Z}(c:b<U J):y J b 0=J[b]:=by rw[dX,cT c];rfl
def Wz(b c:X):gp ag b c=aV (b&&c):=by cases b<;>rfl
theorem Wy(b c:X):gp ae b c=aV (b||c):=by cases b<;>rfl
def KA(c:Y C)(b:aA):Prop:=b.x<=100000/\U c<=2000
def qN(c:Y C)(b:aA)(d:C)(s:KA c b):bh 169 [fN 4 [dl c b] 0 0,bF d] (aV (cZ c b.x d)):=by refine bs func169 [] λp g=>?_;let⟨e,f⟩:=s;refine fA ?_;apply cL;intro h;refine pq b.x ?_;exact aa;exact aL (s:=by rw[eR,Wz];rfl)
def r2(h:Y C)(g:aA)(c e:L):dF 125 [b 6000,an aj c,an aj e] [(6000,ah 211 (dl h g))] (cv []) [(6000,ah 211 (dl h (cw g c e)))]:=by
 refine c4 func125 [] λk p i=>?_;apply f<;>intro d
 .rw[cw,af d];exact cJ
 rw[cw,ad d];exact cJ
def TG(c:Y C)(b:aA)(s:KA c b):bh 317 [fN 4 [dl c b] 0 0] (aV (kv c b.x)):=by refine bs func317 [] λp f=>?_;let⟨d,e⟩:=s;refine fA ?_;apply cL;intro g;refine pq b.x ?_;exact aa;apply cL;intro h;refine pq b.x ?_;exact aa;exact aL (s:=by rw[eR,Wz];rfl)
def Du(J:Y C){c:C}(bA:U J<=100000):bh 321 [a8 J,bF c] (aV (gL J c)):=by
 refine bs func321 [] λp g=>?_;refine gN (U J) (λb=>gL J c=gL (ay b J) c) (λb=>⟨[(0,_),(1,_),(5,l b)],[],[]⟩) (λb k=>?_) aa .r;apply f<;>intro h
 .let d:b<U J:=q;refine gK b (y J b 0) ?_ (k:=pZ d);apply f<;>intro e
  .exact aL (s:=by rw[k.2,l3 d,gL,B1,<-Zo d,show aH ((ax (y J b 0):L)=ax c)=ag by simpa using e];rfl)
  refine aY ?_;exact a4 (b+1) ⟨q,by rw[k.2,l3 d,gL,B1,<-Zo d,show aH ((ax (y J b 0):L)=ax c)=ae by simpa using e];rfl⟩ (bA:=.r)
 exact aL (s:=by rw[k.2,kA q];rfl)
def XT(b:C):X:=aH (48<=(ax b:L))&&aH ((ax b:L)<=57)
def po(b B:C):X:=if(ax B:L)=100 then XT b
 else if(ax B:L)=119 then XT b||aH (65<=(ax b:L))&&aH ((ax b:L)<=90)||aH (97<=(ax b:L))&&aH ((ax b:L)<=122)||aH ((ax b:L)=95)
 else aH ((ax b:L)=9)||aH ((ax b:L)=10)||aH ((ax b:L)=13)||aH ((ax b:L)=32)
def abH(c B:C):bh 355 [bF c,bF B] (aV (po c B)):=by
 refine bs func355 [] λp e=>?_;refine i4 ?_;apply f<;>intro b
 .exact aL (s:=by rw[po,af b];rfl)
 apply f<;>intro d
 .apply cy;intro g;refine i4 ?_;exact aa;apply cy;intro h;refine i4 ?_;exact aa;refine gu ?_;exact aL (s:=by rw[po,ad b,af d];rfl)
 iterate 3 refine gu ?_
 exact aL (s:=by rw[po,ad b,ad d];rfl)
def AB(b:L):Option a6:=if b=100 then W (cF.add 48 57)
 else if b=119 then W ((((cF.add 48 57).add 65 90).add 97 122).add 95 95)
 else if b=115 then W (((cF.add 9 10).add 13 13).add 32 32) else ai
theorem Xl{c:L}{J:a6}(b:AB c=W J):U J=256:=by
 let d:=gt;unfold AB at b
 repeat' split at b
 grind[Option.some.inj,a6.w5];grind[Option.some.inj,a6.w5];grind[Option.some.inj,a6.w5];simp_all
def mj(b:C):a6×X:=match AB (je .or ez (ax b:L) 32) with|ai=>(cF,ae)|W J=>if(ax b:L)=68\/(ax b:L)=87\/(ax b:L)=83 then(J.others,ag) else if(ax b:L)=100\/(ax b:L)=119\/(ax b:L)=115 then(J,ag) else(cF,ae)
theorem EG{b:C}:U (mj b).1=256:=by grind[mj,gt,Xl,a6.zm]
def akH(c:C):bh 358 [bF c] (cv [b3 (mj c).1,aV (mj c).2]):=by
 refine bs func358 [1000,23,29] λp u=>?_
 iterate 2 refine mv (b3 cF) ?_ (e5:=ba)
 refine gZ a6 (λd=>⟨[(0,bF c),(2,b 2),(4,b 4)],[(2,ah 263<|b3 cF),(4,ah 263<|b3 d)],[]⟩) (λd=>AB (je .or ez (ax c:L) 32)=W d) ?_ λd k=>?_
 .apply f<;>intro n
  .refine bG [(6000,4)] ?_ (g:=uE cF 48 57 gt a2);exact dn (cF.add 48 57) (by rw[AB,af n])
  apply f<;>intro r
  .refine bG [(6000,4)] ?_ (g:=uE cF 48 57 gt a2);refine bG [(6000,4)] ?_ (g:=uE (cF.add 48 57) 65 90 Kc a2);refine bG [(6000,4)] ?_ (g:=uE ((cF.add 48 57).add 65 90) 97 122 Kc a2);refine bG [(6000,4)] ?_ (g:=uE (((cF.add 48 57).add 65 90).add 97 122) 95 95 Kc a2);exact dn ((((cF.add 48 57).add 65 90).add 97 122).add 95 95) (by rw[AB,ad n,af r])
  apply f<;>intro t
  .refine bG [(6000,4)] ?_ (g:=uE cF 9 10 gt a2);refine bG [(6000,4)] ?_ (g:=uE (cF.add 9 10) 13 13 Kc a2);refine bG [(6000,4)] ?_ (g:=uE ((cF.add 9 10).add 13 13) 32 32 Kc a2);exact dn (((cF.add 9 10).add 13 13).add 32 32) (by simp_all[AB,ad,af])
  refine gY ?_ (bu:=ie gt);refine kT (b3 cF) ?_ (h1:=ji) (fh:=ji);exact EV br (.nU aa aa aa aa aa (pW gt) ji<|.tmp aa .nil) (s:=by rw[mj,AB,ad n,ad r,ad t];rfl)
 let h:=Xl k;refine gZ X (λl=>⟨[(2,b 2),(4,b 4),(22,bF c),(23,aV l)],[(2,ah 263<|b3 cF),(4,ah 263<|b3 d)],[]⟩) (λl=>l=aH ((ax c:L)=68\/(ax c:L)=87\/(ax c:L)=83)) ?_ λl o=>?_
 .apply f<;>intro e
  .exact dn (aH<|(ax c:L)=68)<|tc.2 q
  apply f<;>intro e
  .exact dn (aH<|(ax c:L)=87)<|tc.2 q
  exact dn (aH<|(ax c:L)=83)<|tc.2 q
 apply f<;>intro e
 .refine gY ?_ (bu:=ie h);refine aT ?_ (g:=Tk d h);refine kT (b3 d.others) ?_ (h1:=b0 (g4)<|b0 (a6.zm d) h) (fh:=ji);exact EV br (.nU aa aa aa aa aa (pW (by grind[a6.zm])) (b0 (g4)<|b0 (a6.zm d) h)<|.tmp aa .nil) (s:=by rw[mj,k];simp only[o] at e;simp only[af<|pJ e];rfl)
 refine gZ X (λm=>⟨[(2,b 2),(4,b 4),(29,aV m)],[(2,ah 263<|b3 cF),(4,ah 263<|b3 d)],[]⟩) (λm=>m=aH ((ax c:L)=100\/(ax c:L)=119\/(ax c:L)=115)) ?_ λm aX=>?_
 .apply f<;>intro i
  .exact dn (aH<|(ax c:L)=100)<|tc.2 q
  apply f<;>intro i
  .exact dn (aH<|(ax c:L)=119)<|tc.2 q
  exact dn (aH<|(ax c:L)=115)<|tc.2 q
 apply f<;>intro i
 .refine gY ?_ (bu:=ie h);refine kT (b3 d) ?_ (h1:=b0 (g4) h) (fh:=ji);exact EV br (.nU aa aa aa aa aa (pW h) (b0 (g4) h)<|.tmp aa .nil) (s:=by rw[mj,k];simp only[o] at e;simp only[aX] at i;simp only[ad<|Kk<|UZ.2 e,af<|pJ i];rfl)
 refine acy (b3 cF) ?_ (mm:=[]) aa<|oo.OA (ie gt) cb;refine kT (b3 cF) ?_ (h1:=ji) (fh:=ji);exact EV br (.nU aa aa aa aa aa (pW gt) ji<|.tmp aa .nil) (s:=by rw[mj,k];simp only[o] at e;simp only[aX] at i;simp only[ad<|Kk<|UZ.2 e,ad<|Kk<|UZ.2 i];rfl)
def r4(H:Y (L×L))(b:L):Y (L×L):=aR H (U H-1) ((y H (U H-1) av).1,b)
def gO(J:a6):Z->Y (L×L)|0=>[]|b+1=>if y J b ae=ae then gO J b else if 0<b/\y J (b-1) ae then r4 (gO J b) (b:L) else gO J b++[((b:L),(b:L))]
theorem DC(H:Y (L×L))(b:L):U (r4 H b)=U H:=by simp[r4]
def I2(J:a6)(b:Z):U (gO J b)<=b:=by induction b with|zero=>simp[gO]|succ b c=>rw[gO];split;omega;split;rw[DC];omega;simp;omega
theorem F0(J:a6){b:Z}(e:0<b)(c:y J (b-1) ae=ag):0<U (gO J b):=by cases b with|zero=>omega|succ b=>rw[gO];simp only[Vt] at c;rw[ad (by rw[c];simp)];split;rename_i d;rw[DC];exact F0 J d.1 d.2;simp
def jR(J:a6):aW:=if J=cF then .mk 1 [] 0 0 [] else .mk 3 (gO J 256) 0 0 []
def auS(J:a6)(t:U J=256):bh 357 [b3 J] (.al 2 (ab hs (gO J 256))):=by
 refine bs func357 [] λp u=>?_;refine gY ?_ (bu:=ie t);refine a1.eK 3 2 314 [3] ai ?_;refine c8 (Z×Y (L×L)) (λc=>⟨[(1,b 1),(6,b3 J),(7,l c.1),(3,.a 3 0<|U<|ab hs c.2)],[(1,ah 263<|b3 J),(3,.j 2 314<|ab hs c.2)],[]⟩) (λc=>c.1<=256/\c.2=gO J c.1) (λc=>256-c.1) (0,[]) (λc d=>?_) ⟨q,aa⟩;apply f<;>intro v
 .let x:c.1<256:=q;let s:=I2 J c.1;rw[<-d.2] at s;let z:U (ab hs c.2)=U c.2:=bm _;let o:U (ab hs<|r4 c.2 (c.1:Z))=U (ab hs c.2):=by simp[DC]
  refine SP (D:=c.1) ?_ (A:=aV<|y J c.1 ae) (bl:=fZ.C_ (H:=J) (D:=c.1) q (agl:=[]));apply f<;>intro e
  .refine aY ?_;exact a4 (c.1+1,c.2) ⟨by show c.1+1<=256;omega,b0 d.2 (by rw[gO,af (by simpa using e)])⟩ (by show 256-(c.1+1)<256-c.1;omega)
  apply cL;intro w;refine iQ ?_;refine kR (c.1-1) (c.1-1) ?_ (kp:=by show c.1-1=0+(c.1-1)*1;omega);refine hU (aV<|y J (c.1-1) ae) ?_ (fi:=CS J q);exact aa;apply f<;>intro i
  .let m:0<c.1/\y J (c.1-1) ae:=by simpa[ts] using i
   let⟨g,h⟩:=m;let r:=F0 J g h;rw[<-d.2] at r;refine iQ ?_;refine cE (U c.2-1) ?_ (k:=bi);refine fF (ab hs<|r4 c.2 (c.1:Z)) (hs<|y c.2 (U c.2-1) av) (hs ((y c.2 (U c.2-1) av).1,(c.1:Z))) ?_ (k:=eZ q) (aU:=by rw[r4,hl]);refine aY ?_;exact a4 (c.1+1,r4 c.2 (c.1:Z)) ⟨by show c.1+1<=256;omega,by show r4 _ _=gO J (c.1+1);rw[gO,ad (by simpa using e),af ⟨g,h⟩,d.2]⟩ (by show 256-(c.1+1)<256-c.1;omega) ⟨⟨cb,cb,cb,(by rw[o];rfl),b5⟩,⟨cb,cb,b5⟩,aa,aa⟩
  let n:¬(0<c.1/\y J (c.1-1) ae):=by simpa[ts] using i
  refine cp ?_;refine eB (ab hs<|c.2++[(((c.1:Z):L),((c.1:Z):L))]) ?_ (aU:=ro) (bl:=bi);refine aY ?_;exact a4 (c.1+1,c.2++[(((c.1:Z):L),((c.1:Z):L))]) ⟨by show c.1+1<=256;omega,by show _++_=gO J (c.1+1);rw[gO,ad (by simpa using e),ad n,d.2]⟩ (by show 256-(c.1+1)<256-c.1;omega)
 let he:gO J 256=c.2:=by rw[d.2,show c.1=256 by omega]
 rw[he];exact gq 3 aL
def aup{J b:a6}(n:U J=256)(o:U b=256):wU bL 263 ((fZ.km J).cells++[]) ((fZ.km b).cells++[]) (aH (J=b)):=by refine⟨λd p r v e f g h=>?_,cb⟩;rw[gv] at e f g h;have l:p=ab hA J:=OH (ar:=V.bool) (λd t s c=>IT c) (b0 e<|bm _) g;have m:r=ab hA b:=OH (ar:=V.bool) (λd t s c=>IT c) (b0 f<|bm _) h;subst l;subst m;exact aeX ae hA 9998 263 4 ((x_:o8 bL 263 ZN).g5 aa) ((x_:o8 bL 4 HQ).g5 aa) aa (x_:o8 bL 4 HQ).au (λi k=>by rw[N4 (I:=9998) ((x_:o8 bL 4 HQ).g5 aa).u];cases i<;>cases k<;>rfl) J b n o
def G0(J:a6)(b:U J=256):bh 326 [b3 J] (uO (jR J)):=by
 refine bs func326 [] λp d=>?_;refine gY ?_ (bu:=ie b);refine acy (b3 cF) ?_ (mm:=[]) aa<|oo.OA (ie gt) cb;refine arm _ (aup b gt) ?_;apply f<;>intro c
 .exact fQ 2 2 [1] (fQ 5 2 [4] (dj br (s:=by rw[jR,af c];rfl)))
 refine gY ?_ (bu:=ie b);refine aT ?_ (g:=auS J b);exact fQ 5 2 [4] (dj br (s:=by rw[jR,ad c];rfl))
def N1(J:a6):∀(b:Z),(∀d∈gO J b,d.2<(b:L))/\(0<b->y J (b-1) ae=ag->(y (gO J b) (U (gO J b)-1) av).2=(b:L)-1)/\(y J (b-1) ae=ae->∀d∈gO J b,d.2<(b:L)-1)|0=>⟨λd c=>cg c kB,λc=>cg c ao,λ_ d c=>cg c kB⟩|b+1=>by let⟨f,g,h⟩:=N1 J b;rw[show b+1-1=b by omega,gO];by_cases k:y J b ae=ae;grind;by_cases e:0<b/\y J (b-1) ae;let i:=F0 J e.1 e.2;grind[DC,r4,List.getElem?_set_self];grind
theorem aeJ(J:a6)(b:Z):0<U (gO J b)/\(y (gO J b) (U (gO J b)-1) av).2=(b:L)-1↔0<b/\y J (b-1) ae:=by let⟨c,d,e⟩:=N1 J b;constructor;let f:=I2 J b;grind;grind[F0]
def avr(J:a6)(R:Z):gO J R=[]↔∀b,b<R->y J b ae=ae:=by induction R with|zero=>simp[gO]|succ R e=>rw[gO];by_cases c:y J R ae=ae;grind;rw[ad c];constructor;intro d;split at d;grind[DC];simp_all;grind
def YJ{J:a6}(e:U J=256):jR J=if U (gO J 256)=0 then .mk 1 [] 0 0 [] else .mk 3 (gO J 256) 0 0 []:=by
 have:J=cF↔U (gO J 256)=0:=by rw[O6,avr];constructor;grind[cF,List.getElem?_replicate_of_lt];refineλd=>jn λc=>?_;rcases hN c 256 with b|b;have:=d c b;rw[dX,cT q,z7] at this;rw[cT q,this];exact bQ<|List.getElem?_replicate_of_lt b;grind[List.getElem?_eq_none,gt]
 simp_all[jR,cF,af,ad]
def abu(J:a6)(m:U J=256):bh 320 [b3 J] (uO (jR J)):=by
 refine bs func320 [2002] λp u=>?_;refine a1.eK 1100 2 314 [] (W (3,1)) ?_;refine dA ?_;refine c8 (Z×Y (L×L)×Z) (λd=>⟨[(1,b 1),(2,b 2),(3,b 3),(4,l d.1)],[(1,ah 262<|b3 J),(2,_),(3,ah 169<|b2 [an aj 3,.a 1100 0 d.2.2,an aj 0,an aj 0,.bo]),(1100,.j 2 314<|ab hs d.2.1)],[]⟩) (λd=>d.1<=256/\d.2.1=gO J d.1/\d.2.2=U (ab hs d.2.1)) (λd=>256-d.1) (0,[],0) (λ⟨c,H,R⟩ ⟨n,e,g⟩=>?_) ⟨q,aa,aa⟩ .r;dsimp only at n e g⊢;rw[bm] at g;apply f<;>intro z
 .have i:=I2 J c;rw[<-e] at i;refine kR c c ?_ (kp:=by show c=0+c*1;omega);refine hU (aV<|y J c ae) ?_ (fi:=CS J q);apply f<;>intro v
  .refine aY ?_;exact a4 (c+1,H,R) ⟨q,b0 e (by simp_all[gO,af]),bi⟩ q .r
  apply cL;intro A;refine jG ((R-1:Z):L) ?_;refine cE (R-1) ?_;refine fl (hs<|y H (R-1) av) ?_ (k:=eZ q);refine iQ ?_;exact aa;apply f<;>intro w
  .have h:0<c/\y J (c-1) ae:=(aeJ J c).1 aq;have B:=F0 J h.1 h.2;refine jG ((R-1:Z):L) ?_;refine cE (R-1) ?_;refine fF (ab hs<|r4 H (c:Z)) (hs<|y H (R-1) av) (hs ((y H (R-1) av).1,(c:Z))) ?_ (k:=eZ q) (aU:=by rw[r4,hl,g]);refine aY ?_;exact a4 (c+1,r4 H (c:Z),R) ⟨q,by simp_all[gO,ad,af],by grind[List.length_map,DC]⟩ q .r
  have t:¬(0<c/\y J (c-1) ae):=λo=>by grind[aeJ]
  refine cp ?_;refine eB (ab hs<|H++[(((c:Z):L),((c:Z):L))]) ?_ (aU:=ro) (bl:=aK) (hlen:=bi);refine aY ?_;exact a4 (c+1,H++[(((c:Z):L),((c:Z):L))],U<|ab hs<|H++[(((c:Z):L),((c:Z):L))]) ⟨q,by simp_all[gO,ad],aa⟩ q .r
 have he:gO J 256=H:=by rw[e,show c=256 by omega]
 rw[YJ m,he];apply f<;>intro x
 .exact fQ 2 2 [1] (fQ 5 2 [4] (dj br (s:=by rw[af q];rfl)))
 exact yW 1100 R (show U (ab hs H)=R by(simp;omega))<|fQ 5 2 [4] (dj br (s:=by rw[ad q];rfl))
def oR(B:L)(H:Y aW):aW:=if U H=0 then .mk 2 [] 0 0 [] else if U H=1 then y H 0 (.mk 0 [] 0 0 []) else .mk B [] 0 0 H
def js(b:C):L:=eG [48,49,50,51,52,53,54,55,56,57,97,98,99,100,101,102] b
def zn{S:Y C}{A:aA}(b:cx S A≠0):A.x<U S/\A.no=0:=by unfold cx at b<;>grind
theorem aoV(H:Y C)(b:(0:C)∉H):eG H 0=-1:=by induction H with|nil=>rfl|cons d H c=>simp at b;rw[eG,ad aK,c b.2];rfl
def RG(H:Y C)(b:C):eG H b<(U H:L)/\-1<=eG H b:=by induction H with|nil=>simp[eG]|cons c H d=>(simp[eG,l5];omega)
def Dd{c:Y C}{b:aA}(H:Y C)(e:(0:C)∉H)(f:0<=eG H (cx c b)):b.x<U c/\b.no=0:=zn λd=>by grind[aoV]
def pk(c:Y C)(b:aA):Z×aA:=if js (cx c b)<0 then(0,cw b b.x 6)
 else if js (cx c b.step)<0 then(0,cw b.step b.step.x 6)
 else(aG (js<|cx c b)*16+aG (js<|cx c b.step),b.step.step)
def L_(b:C):js b<16/\-1<=js b:=RG _ b
theorem HJ{c:Y C}{b:aA}(d:¬js (cx c b)<0):b.x<U c/\b.no=0:=Dd [48,49,50,51,52,53,54,55,56,57,97,98,99,100,101,102] a2 (by grind[js])
theorem aA.sY{c:Y C}{b:aA}(e:b.ok c)(d:b.x<U c):b.step.ok c:=⟨d,e.2⟩
theorem ps{c:Y C}{A:aA}(b:A.ok c){z R:L}:(cw A z R).ok c:=by unfold cw;split;exact b;exact b
def afl(B:L)(H:Y aW)(i:U H<=16777216):bh 193 [an aj B,.al 5 (hh H)] (uO (oR B H)):=by
 refine bs func193 [] λp e=>?_;rw[CT];apply f<;>intro h
 .exact fQ 2 4 [1] (fQ 5 4 [4] (dj br (s:=by rw[oR,af q];rfl)))
 apply f<;>intro g
 .obtain⟨b,rfl⟩:∃b,H=[b]:=JY.1 q;let⟨l,O,c,d,m⟩:=b;refine bB 0 _ ?_ (k:=aa);exact dj br
 refine MV 0 ?_;exact fQ 2 4 [1] (dj br (s:=by show V.agg [_,_,_,_,.al 5 _]=_;rw[qn,J8,iJ,oR,ad q,ad q,uO,CT];rfl))
def aos(d:Y C)(e:aA)(s:e.ok d):dF 359 [b 6000] [(6000,ah 241 (dl d e))] (l (pk d e).1) [(6000,ah 241 (dl d (pk d e).2))]:=by
 refine c4 func359 [] λD p w=>?_;have B:=s.2;refine c8 (Z×Z×aA) (λc=>⟨[(0,b 6000),(3,l c.2.1),(5,l c.1)],[(6000,ah 241<|dl d c.2.2)],[]⟩) (λc=>c.2.2.ok d/\(c=(0,0,e)\/¬js (cx d e)<0/\c=(1,aG<|js<|cx d e,e.step)\/¬js (cx d e)<0/\¬js (cx d e.step)<0/\c=(2,aG (js<|cx d e)*16+aG (js<|cx d e.step),e.step.step))) (λc=>2-c.1) (0,0,e) (λc i=>?_) ⟨s,bj aa⟩;apply f<;>intro r
 .have z:c.2.1<16:=by have:=L_<|cx d e;rcases i.2 with h|⟨_,h⟩|⟨_,_,h⟩<;>rw[h] at r⊢<;>simp at r⊢<;>omega
  refine pT (g:=wd d c.2.2 i.1)<|aT ?_ (g:=HT _ _);apply f<;>intro o
  .have n:js (cx d c.2.2)<0:=o;have k:pk d e=(0,cw c.2.2 c.2.2.x 6):=by rcases i.2 with h|⟨m,h⟩|⟨_,_,h⟩;simp_all[pk,af];simp_all[pk,ad,af];simp_all
   rw[k];refine bG [(6000,6000)] ?_ (g:=y0 d c.2.2 c.2.2.x 6);exact cJ
  have n:¬js (cx d c.2.2)<0:=o;have y:=L_<|cx d c.2.2;let⟨t,A⟩:=HJ n;have u:c.2.2.step.ok d/\((c.1+1,c.2.1*16+aG (js (cx d c.2.2)),c.2.2.step)=(0,0,e)\/¬js (cx d e)<0/\(c.1+1,c.2.1*16+aG (js (cx d c.2.2)),c.2.2.step)=(1,aG (js (cx d e)),e.step)\/¬js (cx d e)<0/\¬js (cx d e.step)<0/\(c.1+1,c.2.1*16+aG (js (cx d c.2.2)),c.2.2.step)=(2,aG (js (cx d e))*16+aG (js (cx d e.step)),e.step.step)):=by refine⟨aA.sY i.1 t,bp ?_⟩;rcases i.2 with h|⟨m,h⟩|⟨_,_,h⟩;simp_all;simp_all;simp_all
  refine Ih ?_;refine e7 ((c.2.1*16+aG (js<|cx d c.2.2):Z):L) ?_ (s:=by grind[js,cx,Int.natCast_add]);refine e7 ((c.2.2.x+1:Z):L) ?_;refine aY ?_;exact a4 (c.1+1,c.2.1*16+aG (js<|cx d c.2.2),c.2.2.step) u q
 have k:pk d e=(c.2.1,c.2.2):=by rcases i.2 with h|⟨m,h⟩|⟨m,v,h⟩;simp_all;simp_all;simp_all[pk,ad]
 rw[k];exact cJ
theorem K5{d:Y C}{b:aA}(c:(mj (cx d b)).2):b.x<U d/\b.no=0:=zn λe=>by rw[e] at c;exact cg c a2
def Gd{b:C}:oD aj (ax b:Z):=by have:=mE b;exact xr q q
structure Ks where
 c:Z
 s:a6
 many:X
 r:aA
def eC(c:Y C)(b:aA):Ks:=if(mj<|cx c b).2 then⟨0,(mj<|cx c b).1,ag,b.step⟩
 else if 0<=eG [110,116,114] (cx c b) then⟨ax<|y ([10,9,13]:Y C) (aG<|eG [110,116,114] (cx c b)) 0,cF,ae,b.step⟩
 else if ax (cx c b)=120 then⟨(pk c b.step).1,cF,ae,(pk c b.step).2⟩
 else if ax (cx c b)≠0/\0<=eG [92,46,124,40,41,91,93,123,125,42,43,63,94,45] (cx c b) then⟨ax<|cx c b,cF,ae,b.step⟩
 else⟨0,cF,ae,cw b b.x 6⟩
def QV(S:Y C)(A:aA)(n:A.ok S):dF 327 [b 6000] [(6000,ah 241 (dl S A))] (cv [l (eC S A).c,b3 (eC S A).s,aV (eC S A).many]) [(6000,ah 241 (dl S (eC S A).r))]:=by
 refine c4 func327 [] λD p w=>?_;let B:=n.2;refine mv (b3 cF) ?_ (e5:=cb);refine pT ?_ (g:=wd S A n);refine aT ?_ (g:=akH<|cx S A);refine mv (b3 cF) ?_ (e5:=cb);refine kT (b3 (mj<|cx S A).1) ?_ (h1:=b0 (g4) EG) (fh:=ji);apply f<;>intro d
 .let⟨h,m⟩:=K5 d;rw[show eC S A=⟨0,(mj (cx S A)).1,ag,A.step⟩ by rw[eC,af d]];refine e7 ((A.x+1:Z):L) ?_;refine ei ?_;refine bw (λ_=>gY aa (bu:=ie EG)) ?_;refine DZ (b3 (mj<|cx S A).1) ?_ (b0 (g4) EG) (fh:=ji);refine fz ?_;exact sI br<|.tmp aa<|.nU aa aa aa aa aa (pW EG) (b0 (g4) EG)<|.tmp aa .nil
 let v:=RG [110,116,114] (cx S A);simp only[l5,O7] at v;refine aT ?_ (g:=HT _ _);apply f<;>intro e
 focus simp only[List.toList_toArray] at e;let⟨h,m⟩:=Dd [110,116,114] a2 e;rw[show eC S A=⟨ax (y ([10,9,13]:Y C) (aG (eG [110,116,114] (cx S A))) 0),cF,ae,A.step⟩ by rw[eC,ad d,af e]];refine gK (aG<|eG [110,116,114] (cx S A)) (y ([10,9,13]:Y C) (aG<|eG [110,116,114] (cx S A)) 0) ?_ (bu:=by show eG [110,116,114] (cx S A)=_;omega) (k:=pZ bi);refine iG (ax (y ([10,9,13]:Y C) (aG<|eG [110,116,114] (cx S A)) 0):Z) ?_ (uU:=Gd);refine e7 ((A.x+1:Z):L) ?_
 rotate_left
 focus
  apply f<;>intro o
  .let⟨h,m⟩:=zn (S:=S) (A:=A) (λu=>by rw[u] at o;exact cg o a2);rw[show eC S A=⟨(pk S A.step).1,cF,ae,(pk S A.step).2⟩ by rw[eC,ad d,ad e,af q]];refine e7 ((A.x+1:Z):L) ?_;refine ei ?_;refine agY [(6000,6000)] [(0,(6000,ah 241<|dl S (pk S A.step).2))] ?_ (g:=aos S A.step<|aA.sY n h);refine bw (λ_=>gY aa (bu:=ie gt)) ?_;refine DZ (b3 cF) ?_ ji (fh:=ji);refine fz ?_;exact sI br<|.tmp aa<|.nU aa aa aa aa aa (pW gt) ji<|.tmp aa .nil
  apply cL;intro z;refine ch ?_ (g:=HT _ _);exact aa;apply f<;>intro t
  .let i:ax (cx S A)≠0/\0<=eG [92,46,124,40,41,91,93,123,125,42,43,63,94,45] (cx S A):=by simpa[ts] using t
   let⟨h,m⟩:=Dd [92,46,124,40,41,91,93,123,125,42,43,63,94,45] a2 i.2;rw[show eC S A=⟨ax (cx S A),cF,ae,A.step⟩ by rw[eC,ad d,ad e,ad q,af i]];refine iG (ax (cx S A):Z) ?_ (uU:=Gd);refine e7 ((A.x+1:Z):L) ?_;refine ei ?_;refine bw (λ_=>gY aa (bu:=ie gt)) ?_;refine DZ (b3 cF) ?_ ji (fh:=ji);refine fz ?_;exact sI br<|.tmp aa<|.nU aa aa aa aa aa (pW gt) ji<|.tmp aa .nil
  let i:¬(ax (cx S A)≠0/\0<=eG [92,46,124,40,41,91,93,123,125,42,43,63,94,45] (cx S A)):=by simpa[ts] using t
  rw[show eC S A=⟨0,cF,ae,cw A A.x 6⟩ by rw[eC,ad d,ad e,ad q,ad i]];refine bG [(6000,6000)] ?_ (g:=y0 S A A.x 6)
 all_goals refine ei ?_;refine bw (λ_=>gY aa (bu:=ie gt)) ?_;refine DZ (b3 cF) ?_ ji (fh:=ji);refine fz ?_;exact sI br<|.tmp aa<|.nU aa aa aa aa aa (pW gt) ji<|.tmp aa .nil
def Rm:Y C:=[48,49,50,51,52,53,54,55,56,57,97,98,99,100,101,102]
def Np:Y C:=[92,46,124,40,41,91,93,123,125,42,43,63]
def xv:Y C:=[92,91,93,94,45]
def A7(b:C):L:=eG Rm b
def jS(c:Y C)(b:Z):L:=if b<U c then A7 (y c b 0) else-1
def aoq:∀R:Fin 256,∀b:Fin 16,aH ((ax (gn R.1):L)=(ax (y Rm b.1 0):L))=aH (A7 (gn R.1)=(b.1:Z)):=by decide+kernel
def aor:∀R:Fin 256,aH (A7 (gn R.1)<16)&&aH (-1<=A7 (gn R.1))=ag:=by decide+kernel
def ZF{b:C}{c:Z}(d:c<16):(ax b:L)=(ax (y Rm c 0):L)↔A7 b=(c:L):=by have:=aoq ⟨ax b,mE b⟩ ⟨c,d⟩;simp_all
def aoC(b:C):A7 b<16/\-1<=A7 b:=by have:=aor ⟨ax b,mE b⟩;simp_all
def Mc(c:Y C)(b:Z):jS c b<16/\-1<=jS c b:=by unfold jS;split;simp[aoC];omega
def uL(b:L)(c:Z):L:=if 0<=b/\b<(c:L) then b else-1
def rG(c:Y C)(b:Z):Z->L|0=>0|B+1=>16*rG c b B+jS c (b+(B+1))
def aA.mc(b:aA)(B:Z):aA:=⟨b.x+B,b.bad,b.no⟩
def qk(b:C->X):a6:=(bM 256).map λc=>b<|gn c
def F_{b:C->X}:U (qk b)=256:=ba
theorem age(c:C->X){b:Z}(d:b<256):y (qk c) b ae=c (gn b):=by grind[qk,List.getElem?_range]
structure Ae where
 s:a6
 n:L
 r:aA
def pi(J:a6)(R:L)(b:aA):Ae:=⟨if 0<=R then aR J (aG R) ag else J,R,b.step⟩
def ko(c:Y C)(J:a6)(b:aA):Ae:=if kv c b.x=ae then⟨J, -1,cw b b.x 6⟩
 else if(gL Np (y c b.x 0)||gL xv (y c b.x 0)) then pi J (ax<|y c b.x 0) b
 else if(ax (y c b.x 0):L)=110 then pi J 10 b
 else if(ax (y c b.x 0):L)=116 then pi J 9 b
 else if(ax (y c b.x 0):L)=114 then pi J 13 b
 else if(ax (y c b.x 0):L)=120 then
  if jS c (b.x+1)<0 then⟨J, -1,cw (b.mc 1) (b.x+1:Z) 6⟩
  else if jS c (b.x+2)<0 then⟨J, -1,cw (b.mc 2) (b.x+2:Z) 6⟩
  else pi J (rG c b.x 2) (b.mc 2)
 else if gL [100,119,115] (y c b.x 0) then pi (J.join<|qk λd=>po d<|y c b.x 0) (-1) b
 else if gL [68,87,83] (y c b.x 0) then pi (J.join<|qk λd=>!po d (y c b.x 0+32)) (-1) b
 else⟨J, -1,cw b b.x 6⟩
def LF{S:Y C}{z:Z}:∀{B:Z},(∀b,b<B->0<=jS S (z+(b+1)))->0<=rG S z B/\rG S z B<16^B|0,_=>⟨D1 0,(by decide:(0:Int)<16^0)⟩|B+1,c=>by let⟨d,e⟩:=LF (B:=B) λb g=>c b q;let f:=(Mc S<|z+(B+1)).1;grind[rG,Int.pow_succ]
theorem alX(b:L):uL b 0=-1:=by simp[uL,ad]
theorem alT{b:L}(c:b<16)(d:-1<=b):uL b 16=b:=by(simp[uL,af,ad];omega)
theorem alV(b:Z):uL (-1) b=-1:=ba
def a6.Ml{J b:a6}(d:U J=256)(c:U b=256):U (J.join b)=256:=by(simp[a6.join,List.length_zipWith];omega)
def Dx{S:Y C}{z:Z}(b:kv S z):z<U S:=by simp_all[kv,m7,kk]
def Yf(J:a6){b:Z}(c:b<U J):(b3 J).cells.set b (aV ag)=(b3 (aR J b ag)).cells:=Lr J c
theorem alW{b:L}{c:Z}(d:¬b=(c:L)):uL b (c+1)=uL b c:=by(simp[uL,af,ad];omega)
theorem alU{c:L}{b:Z}(d:c=(b:L)):uL c (b+1)=(b:L):=by(simp[uL,af];omega)
def JN(c:Y (Z×V))(d:bS):aN:=⟨(0,b 6000)::(3,b 3)::(4,b 4)::c,(4,ah 262<|b3 cF)::d,[]⟩
def aeD(S:Y C)(J:a6)(c:aA)(s:KA S c)(bA:U J=256):dF 319 [b 6000,b3 J] [(6000,ah 211 (dl S c))] (cv [b3 (ko S J c).s,an aj (ko S J c).n]) [(6000,ah 211 (dl S (ko S J c).r))]:=by
 refine c4 func319 [1000] λaS p av=>?_;let⟨h1,fh⟩:=id s;refine mv (b3 cF) ?_ (e5:=ba);refine pT ?_ (g:=TG S c s);apply f<;>intro Q
 .rw[show ko S J c=⟨J, -1,cw c c.x 6⟩ by simp_all[ko,af]];refine bG [(6000,6000)] ?_ (g:=r2 S c c.x 6);refine gY ?_ (bu:=ie bA);refine kT (b3 J) ?_ (h1:=b0 (g4) bA) (fh:=ji);exact sI br<|.nU aa aa aa aa aa (pW bA) (b0 (g4) bA)<|.tmp aa .nil
 have M:¬kv S c.x=ae:=by simpa using Q
 have az:=Dx (S:=S) (z:=c.x) aq;refine fA ?_;refine pq c.x ?_;refine gZ (a6×L×aA) (λh=>JN [(7,an aj h.2.1)] [(3,ah 262<|b3 h.1),(6000,ah 211<|dl S h.2.2)]) (λh=>ko S J c=pi h.1 h.2.1 h.2.2/\U h.1=256/\(-1<=h.2.1/\h.2.1<256)/\h.2.2.x<=100002) ?_ λh aX=>?_
 .refine aT ?_ (g:=Du Np a2);apply cy;intro aP;refine ch ?_ (g:=Du xv a2);exact aa;apply f<;>intro T
  .refine iG (ax (y S c.x 0):Z) ?_ (uU:=Gd);exact dn (J,ax<|y S c.x 0,c) ⟨by simp_all[ko,ad,af,gp],bA,⟨ao,by show(ax (y S c.x 0):L)<256;have:=mE<|y S c.x 0;omega⟩,bi⟩
  have A:¬(gL Np (y S c.x 0)||gL xv (y S c.x 0)):=by simpa[gp] using T
  apply f<;>intro D
  .exact dn (J,10,c) ⟨J_,bA,⟨(by decide:(-1:Int)<=10),(by decide:(10:Int)<256)⟩,bi⟩
  apply f<;>intro E
  .exact dn (J,9,c) ⟨J_,bA,⟨(by decide:(-1:Int)<=9),(by decide:(9:Int)<256)⟩,bi⟩
  apply f<;>intro F
  .exact dn (J,13,c) ⟨J_,bA,⟨(by decide:(-1:Int)<=13),(by decide:(13:Int)<256)⟩,bi⟩
  apply f<;>intro G
  .refine gN 2 (λB=>∀t,t<B->0<=jS S (c.x+(t+1))) (λB=>JN [(7,an aj<|rG S c.x B),(8,l B)] [(3,ah 262<|b3 J),(6000,ah 211<|dl S<|c.mc B)]) (λB v=>?_) λt K=>cg K<|yl t;apply f<;>intro aJ
   .have ay:(c.mc (B+1)).x=c.x+(B+1):=aa;have aw:(c.mc B).x=c.x+B:=aa;have P:=LF v.2;have aB:rG S c.x B<16:=by have:B=0\/B=1:=q;rcases this with rfl|rfl;omega;omega
    have aQ:=Mc S<|c.x+(B+1);refine e7 ((c.x+(B+1):Z):L) ?_ (s:=q);refine e9 16 (λd=>JN [(7,an aj<|rG S c.x B),(8,l B),(9,an aj<|uL (jS S<|c.x+(B+1)) d),(10,l d)] [(3,ah 262<|b3 J),(6000,ah 211<|dl S<|c.mc<|B+1)]) (λd k=>?_) ⟨⟨ba,ba,ba,ba,ba,(by rw[alX];rfl),ba,b5⟩,⟨ba,ba,ba,b5⟩,aa,aa⟩;refine fA ?_;refine i4 ?_;apply f<;>intro aL
    .have I:d<16:=q;have w:c.x+(B+1)<U S:=q;have N:jS S (c.x+(B+1))=A7 (y S (c.x+(B+1)) 0):=by unfold jS;rw[af w]
     refine fA ?_;refine pq (c.x+(B+1)) ?_ (bu:=q) (k:=q);refine pq d ?_ (k:=q);apply f<;>intro H
     .have e5:jS S (c.x+(B+1))=(d:L):=by rw[N];exact(ZF I).1 H
      refine aY ?_;exact a4 (d+1) (bA:=⟨⟨ba,ba,ba,ba,ba,(by rw[alU e5];rfl),ba,b5⟩,⟨ba,ba,ba,b5⟩,aa,aa⟩)
     have e5:¬jS S (c.x+(B+1))=(d:L):=by rw[N];exactλO=>H<|(ZF I).2 O
     refine aY ?_;exact a4 (d+1) (bA:=⟨⟨ba,ba,ba,ba,ba,(by rw[alW e5];rfl),ba,b5⟩,⟨ba,ba,ba,b5⟩,aa,aa⟩)
    have X:uL (jS S (c.x+(B+1))) d=jS S (c.x+(B+1)):=by by_cases w:c.x+(B+1)<U S;grind[alT];simp_all[jS,ad,alV]
    rw[X];apply f<;>intro aC
    .rw[show ko S J c=⟨J, -1,cw (c.mc (B+1)) ((c.mc (B+1)).x:Z) 6⟩ by
      rw[ko,ad M,ad A,ad D,ad E,ad F,af G];have:B=0\/B=1:=by omega
      rcases this with rfl|rfl<;>grind]
     refine bG [(6000,6000)] ?_ (g:=r2 S (c.mc<|B+1) ((c.mc<|B+1).x:Z) 6);refine gY ?_ (bu:=ie bA);refine kT (b3 J) ?_ (h1:=b0 (g4) bA) (fh:=ji);exact sI br<|.nU aa aa aa aa aa (pW bA) (b0 (g4) bA)<|.tmp aa .nil
    refine Br (16*rG S c.x B) ?_;refine e7 (rG S c.x<|B+1) ?_ (s:=ba) (h1:=by grind[rG]) (hG:=by grind[rG]);refine e7 ((B+1:Z):L) ?_;exact a4 (B+1) ⟨q,λt K=>aK⟩
   obtain rfl:B=2:=q;have P:=LF v.2;have ak:ko S J c=pi J (rG S c.x 2) (c.mc 2):=by have ar:0<=jS S (c.x+1):=v.2 0 a2;have au:0<=jS S (c.x+2):=v.2 1 a2;rw[ko,ad M,ad A,ad D,ad E,ad F,af G,ad q,ad q]
   exact dn (J,rG S c.x 2,c.mc 2) ⟨ak,bA,⟨bi,bi⟩,by show c.x+2<=100002;omega⟩
  refine aT ?_ (g:=Du [100,119,115] a2);apply f<;>intro aD
  .rw[show b3 J=b3 (J.mS (qk λe=>po e<|y S c.x 0) 0) by rw[a6.RQ]];refine e9 256 (λd=>JN [(6,bF<|y S c.x 0),(7,an aj<|-1),(11,l d)] [(3,ah 262<|b3<|J.mS (qk λe=>po e<|y S c.x 0) d),(6000,ah 211<|dl S c)]) λd k=>?_;apply f<;>intro aE
   .refine kR d d ?_ (kp:=by show d=0+d*1;omega);refine hU (aV<|y J d ae) ?_ (fi:=by grind[a6.RP,CS,a6.Fb]);apply cy;intro aM;refine iG (ax (gn d):Z) ?_ (bu:=bi) (uU:=E_ q bi);refine ch ?_ (g:=abH (gn d)<|y S c.x 0);exact aa;refine kR d d ?_ (kp:=by show d=0+d*1;omega);refine sX (b3<|J.mS (qk λe=>po e<|y S c.x 0)<|d+1) ?_ (k9:=by grind[g4,a6.Fb]) (aU:=by grind[Wy,QH,age]);refine aY ?_;exact a4<|d+1
   obtain rfl:d=256:=q;rw[a6.RO J q<|b0 (F_)<|bQ bA];exact dn (J.join<|qk λe=>po e<|y S c.x 0, -1,c) ⟨J_,a6.Ml bA F_,⟨(by decide:(-1:Int)<=-1),(by decide:(-1:Int)<256)⟩,bi⟩
  refine aT ?_ (g:=Du [68,87,83] a2);apply f<;>intro aF
  .rw[show b3 J=b3 (J.mS (qk λe=>!po e (y S c.x 0+32)) 0) by rw[a6.RQ]];refine e9 256 (λd=>JN [(6,bF<|y S c.x 0),(7,an aj<|-1),(12,l d)] [(3,ah 262<|b3<|J.mS (qk λe=>!po e (y S c.x 0+32)) d),(6000,ah 211<|dl S c)]) λd k=>?_;apply f<;>intro aH
   .refine kR d d ?_ (kp:=by show d=0+d*1;omega);refine hU (aV<|y J d ae) ?_ (fi:=by grind[a6.RP,CS,a6.Fb]);apply cy;intro aN;refine iG (ax (gn d):Z) ?_ (bu:=bi) (uU:=E_ q bi);refine ch ?_ (g:=abH (gn d)<|y S c.x 0+32);exact aa;refine kR d d ?_ (kp:=by show d=0+d*1;omega);refine sX (b3<|J.mS (qk λe=>!po e (y S c.x 0+32))<|d+1) ?_ (k9:=by grind[g4,a6.Fb]) (aU:=by grind[Wy,QH,age]);refine aY ?_;exact a4<|d+1
   obtain rfl:d=256:=q;rw[a6.RO J q<|b0 (F_)<|bQ bA];exact dn (J.join<|qk λe=>!po e (y S c.x 0+32), -1,c) ⟨J_,a6.Ml bA F_,⟨(by decide:(-1:Int)<=-1),(by decide:(-1:Int)<256)⟩,bi⟩
  rw[show ko S J c=⟨J, -1,cw c c.x 6⟩ by simp_all[ko,ad]];refine bG [(6000,6000)] ?_ (g:=r2 S c c.x 6);refine gY ?_ (bu:=ie bA);refine kT (b3 J) ?_ (h1:=b0 (g4) bA) (fh:=ji);exact sI br<|.nU aa aa aa aa aa (pW bA) (b0 (g4) bA)<|.tmp aa .nil
 let⟨i,R,u⟩:=h;let⟨he,m,⟨am,ap⟩,fi⟩:=aX;dsimp only at he m am ap fi⊢;rw[he];refine e7 ((u.x+1:Z):L) ?_;apply f<;>intro aI
 .rw[show pi i R u=⟨aR i (aG R) ag,R,u.step⟩ by rw[pi,af q]];have o:U (aR i (aG R) ag)=256:=by rw[nC];exact m
  refine kR (aG R) (aG R) ?_ (kp:=by show aG R=0+aG R*1;omega);refine sX (b3<|aR i (aG R) ag) ?_ (k9:=Pr) (aU:=Yf i q)
  first|refine gY ?_ (bu:=ie o)|refine gY ?_ (bu:=ie m)
  first|refine kT (b3<|aR i (aG R) ag) ?_ (h1:=b0 (g4) o) (fh:=ji)|refine kT (b3 i) ?_ (h1:=(g4).trans m) (fh:=ji)
  exact sI br<|.nU aa aa aa aa aa (pW o) (b0 (g4) o)<|.tmp aa .nil
 rw[show pi i R u=⟨i,R,u.step⟩ by rw[pi,ad q]]
 first|refine gY ?_ (bu:=ie o)|refine gY ?_ (bu:=ie m)
 first|refine kT (b3<|aR i (aG R) ag) ?_ (h1:=b0 (g4) o) (fh:=ji)|refine kT (b3 i) ?_ (h1:=b0 (g4) m) (fh:=ji)
 exact sI br<|.nU aa aa aa aa aa (pW m) (b0 (g4) m)<|.tmp aa .nil
theorem ud{c:Y C}{b:aA}{e:C}(f:b.ok c)(d:fc c b e):b.x<U c/\b.no=0/\cx c b=e:=by unfold fc at d;split at d;cases d;let g:=f.1;grind[UInt8.toNat_inj]
theorem hV{b:Y C}{c:aA}{n:C}(d:c.ok b):(aI b c n).ok b:=by grind[aI,aA.sY,ud]
def Ix{b:Y C}{c:aA}{d:C}(e:c.ok b):(hj b c d).ok b:=by grind[hj,aA.sY,ud,ps]
theorem aop{b:Y C}{c:aA}(f:c.ok b):(pk b c).2.ok b/\(pk b c).1<256:=by unfold pk;let d:=L_<|cx b c;let e:=L_<|cx b c.step;grind[aA.sY,HJ,ps,js,cx]
theorem vR{S:Y C}{A:aA}(d:A.ok S):(eC S A).r.ok S/\(eC S A).c<256/\(eC S A).s.length=256:=by unfold eC;split;grind[aA.sY,K5,EG];split;rename_i b;exact⟨aA.sY d (Dd _ a2 b).1,mE _,gt⟩;split;let f:=(zn (S:=S) (A:=A) λe=>aq).1;grind[aop,aA.sY,gt];split;rename_i b;exact⟨aA.sY d (Dd _ a2 b.2).1,mE _,gt⟩;grind[ps,gt]
def jy(c:Y C)(b:aA)(d:Y C):Z×aA:=if(ax (cx c b)<32\/126<ax (cx c b))\/0<=eG d (cx c b) then(0,cw b b.x 6) else(ax<|cx c b,b.step)
theorem BE{S:Y C}{A:aA}{Jc:Y C}(d:A.ok S):(jy S A Jc).2.ok S/\(jy S A Jc).1<256:=by unfold jy;split;grind[ps];let c:=(zn (S:=S) (A:=A) λb=>aq).1;grind[aA.sY,mE]
def pm:Y C:=[92,91,93,94,45]
def oE(J:a6)(c:Z)(low high:Z)(b:aA):a6×aA:=if b.no≠0 then(J,b) else if high<low then(J,cw b c 9) else(J.add low high,b)
def qO(b:Y C)(J:a6)(e:Z)(low:Z)(d:aA):a6×aA:=if fc b d 45 then
  if fc b (aI b d 45) 92 then
   oE J e low (eC b<|aI b (aI b d 45) 92).c (if(eC b<|aI b (aI b d 45) 92).many then cw (eC b<|aI b (aI b d 45) 92).r (aI b (aI b d 45) 92).x 6 else(eC b<|aI b (aI b d 45) 92).r)
  else oE J e low (jy b (aI b (aI b d 45) 92) pm).1 (jy b (aI b (aI b d 45) 92) pm).2
 else oE J e low low (aI b d 45)
def jU(b:Y C)(J:a6)(d:aA):a6×aA:=if fc b d 92 then
  if(eC b<|aI b d 92).many then(J.join (eC b<|aI b d 92).s,(eC b<|aI b d 92).r)
  else qO b J d.x (eC b<|aI b d 92).c (eC b<|aI b d 92).r
 else qO b J d.x (jy b (aI b d 92) pm).1 (jy b (aI b d 92) pm).2
def TC(S:Y C)(A:aA)(c:Y C)(e:A.ok S):dF 328 [b 6000,a8 c] [(6000,ah 241 (dl S A))] (l (jy S A c).1) [(6000,ah 241 (dl S (jy S A c).2))]:=by
 refine c4 func328 [] λs p i=>?_;have r:=e.2;refine pT ?_ (g:=wd S A e);refine gu ?_;apply cy;refineλn=>ch ?_ (g:=HT _ _);exact aa;apply f<;>intro m
 .have d:(ax (cx S A)<32\/126<ax (cx S A))\/0<=eG c (cx S A):=by first|omega|(omega)
  rw[show jy S A c=(0,cw A A.x 6) by rw[jy,af d]];refine bG [(6000,6000)] ?_ (g:=y0 S A A.x 6);exact cJ
 have d:¬((ax (cx S A)<32\/126<ax (cx S A))\/0<=eG c (cx S A)):=by first|omega|(omega)
 let⟨k,o⟩:=zn (S:=S) (A:=A) λh=>aq;rw[show jy S A c=(ax (cx S A),A.step) by rw[jy,ad d]];refine e7 ((A.x+1:Z):L)<|iG (ax (cx S A):Z) (uU:=Gd)<|cJ
def ao6(d:Y C)(J:a6)(h:aA)(v:h.ok d)(B:U J=256):dF 356 [b 6000,b 6001] [(6000,ah 241 (dl d h)),(6001,ah 263 (b3 J))] (cv []) [(6000,ah 241 (dl d (jU d J h).2)),(6001,ah 263 (b3 (jU d J h).1))]:=by
 refine c4 func356 [19,35] λM p G=>?_;let L:=v.2;let o:=hV (n:=92) v;let m:=vR o;let A:=BE (Jc:=pm) o;refine gZ (Z×aA) (λe=>⟨[(0,b 6000),(1,b 6001),(4,l h.x),(5,l e.1)],[(6000,ah 241<|dl d e.2),(6001,ah 263<|b3 J)],[]⟩) (λe=>jU d J h=qO d J h.x e.1 e.2/\e.2.ok d/\e.1<256) ?_ λe e5=>?_
 .refine bG [(6000,6000)] ?_ (g:=r8 d h 92 v);apply f<;>intro w
  .refine bG [(6000,6000)] ?_ (g:=QV d (aI d h 92) o);refine mv (b3 cF) ?_ (e5:=ba);refine kT (b3 (eC d<|aI d h 92).s) ?_ (h1:=b0 (g4) m.2.2) (fh:=ji);apply f<;>intro D
   .rw[show jU d J h=(J.join (eC d (aI d h 92)).s,(eC d (aI d h 92)).r) by simp_all[jU,af]];refine gY ?_ (bu:=ie m.2.2);refine bG [(6000,6001)] ?_ (g:=ajK J (eC d<|aI d h 92).s B m.2.2);exact cJ
   exact dn ((eC d<|aI d h 92).c,(eC d<|aI d h 92).r) ⟨by rw[jU,af w,ad D],m.1,m.2.1⟩
  refine bG [(6000,6000)] ?_ (g:=TC d (aI d h 92) pm o);exact dn ((jy d (aI d h 92) pm).1,(jy d (aI d h 92) pm).2) ⟨by rw[jU,ad w],A.1,A.2⟩
 let u:=hV (n:=45) e5.2.1;refine gZ (Z×aA) (λi=>⟨[(0,b 6000),(1,b 6001),(4,l h.x),(5,l e.1),(9,l i.1)],[(6000,ah 241<|dl d i.2),(6001,ah 263<|b3 J)],[]⟩) (λi=>qO d J h.x e.1 e.2=oE J h.x e.1 i.1 i.2/\i.2.ok d/\i.1<256) ?_ λi F=>?_
 .refine bG [(6000,6000)] ?_ (g:=r8 d e.2 45 e5.2.1);apply f<;>intro y
  .let t:=hV (n:=92) u;let k:=vR t;let z:=BE (Jc:=pm) t;refine bG [(6000,6000)] ?_ (g:=r8 d (aI d e.2 45) 92 u);apply f<;>intro E
   .refine bG [(6000,6000)] ?_ (g:=QV d (aI d (aI d e.2 45) 92) t);refine mv (b3 cF) ?_ (e5:=ba);refine kT (b3 (eC d<|aI d (aI d e.2 45) 92).s) ?_ (h1:=b0 (g4) k.2.2) (fh:=ji);apply f<;>intro H
    .refine bG [(6000,6000)] ?_ (g:=y0 d (eC d<|aI d (aI d e.2 45) 92).r (aI d (aI d e.2 45) 92).x 6);exact dn ((eC d<|aI d (aI d e.2 45) 92).c,cw (eC d<|aI d (aI d e.2 45) 92).r (aI d (aI d e.2 45) 92).x 6) ⟨by simp_all[qO,af],ps k.1,k.2.1⟩
    exact dn ((eC d<|aI d (aI d e.2 45) 92).c,(eC d<|aI d (aI d e.2 45) 92).r) ⟨by simp_all[qO,af,ad],k.1,k.2.1⟩
   refine bG [(6000,6000)] ?_ (g:=TC d (aI d (aI d e.2 45) 92) pm t);exact dn ((jy d (aI d (aI d e.2 45) 92) pm).1,(jy d (aI d (aI d e.2 45) 92) pm).2) ⟨by rw[qO,af y,ad E],z.1,z.2⟩
  exact dn (e.1,aI d e.2 45) ⟨by rw[qO,ad y],u,e5.2.2⟩
 apply f<;>intro I
 .rw[show jU d J h=(J,i.2) by simp_all[oE,af]];exact cJ
 apply f<;>intro K
 .rw[show jU d J h=(J,cw i.2 h.x 9) by simp_all[oE,ad,af]];refine bG [(6000,6000)] ?_ (g:=y0 d i.2 h.x 9);exact cJ
 rw[show jU d J h=(J.add e.1 i.1,i.2) by simp_all[oE,ad]];refine bG [(6000,6001)] ?_ (g:=uE J e.1 i.1 B F.2.2);exact cJ
def jK(c:Y C)(J:a6)(b:aA):Ae:=if(!kv c b.x||!cZ c b.x 92&&gL xv (y c b.x 0)) then⟨J, -1,cw b b.x 6⟩
 else if cZ c b.x 92 then ko c J b.step
 else⟨aR J (ax<|y c b.x 0) ag,ax<|y c b.x 0,b.step⟩
structure Kr(S:Y C)(A:aA)(T:Ae):Prop where
 len:U T.s=256
 pn:-1<=T.n
 k:T.n<256
 ok:T.r.ok S
 mc:A.no=0->T.r.no=0->A.x<T.r.x
def aA.ok.tT{d:Y C}{c:aA}(b:c.ok d):KA d c:=⟨by have:=b.1;have:=b.2;omega,b.2⟩
theorem EX(b:aA)(c R:L):(cw b c R).x=b.x:=by grind[cw]
theorem iq{c:aA}{b R:L}(d:R≠0):(cw c b R).no≠0:=by grind[cw]
def C1{c:Y C}{J:a6}{R:L}{b d:aA}(k:U J=256)(f:-1<=R)(g:R<256)(h:b.x<U c)(i:U c<=2000)(e:d.x<=b.x):Kr c d (pi J R b):=by refine⟨?_,f,g,⟨h,i⟩,λ_ _=>ahK e⟩;grind[pi,List.length_set]
def ZL{S:Y C}{z:Z}(b:0<=jS S z):z<U S:=by grind[jS]
def LG{S:Y C}{J:a6}{A:aA}(h:A.ok S)(e:U J=256):Kr S A (ko S J A):=by
 have b:=h.2;have d:∀{c:aA}{z:L},c.ok S->Kr S A ⟨J, -1,cw c z 6⟩:=λ{c z} i=>⟨e,D1 _,(by decide:(-1:Int)<256),ps i (z:=z) (R:=6),λ_ f=>cg f<|iq a2⟩;unfold ko;split;simp_all;have g:=Dx (S:=S) (z:=A.x) aq;have m:(ax (y S A.x 0):L)<256:=by have:=mE<|y S A.x 0;omega
 split;simp_all[C1,bv];split;simp_all[C1,bv];split;simp_all[C1,bv];split;simp_all[C1,bv];split;split;exact d ⟨g,b⟩;have k:=ZL (S:=S) (z:=A.x+1) q;split;exact d ⟨k,b⟩;have l:=ZL (S:=S) (z:=A.x+2) q;have n:=LF (S:=S) (z:=A.x) (B:=2) λp o=>by grind
 exact C1 e q q l b (by show A.x<=A.x+2;omega);split;simp_all[C1,a6.Ml,F_,bv];split;simp_all[C1,a6.Ml,F_,bv];simp_all
def la{c:Y C}{b:Z}{d:C}(e:cZ c b d):b<U c/\(ax (y c b 0):L)=ax d:=by unfold cZ at e<;>grind
def Jf{S:Y C}{J:a6}{A:aA}(b:A.ok S)(e:U J=256):Kr S A (jK S J A):=by
 unfold jK;split;exact⟨e,D1 _,(by decide:-1<256),ps b,λ_ c=>cg c<|iq a2⟩;let h:kv S A.x:=by cases c:kv S _ with|true=>rfl|false=>simp_all
 let d:=Dx h;split;have:=LG (A:=A.step) ⟨d,b.2⟩ e;exact⟨this.len,this.pn,this.k,this.ok,λf g=>by have:=this.mc f g;let i:A.step.x=A.x+1:=aa;omega⟩;refine⟨bi,?_,?_,⟨d,b.2⟩,λ_ _=>yk _⟩;simp;show(ax (y S _ 0):L)<256;have:=mE<|y S A.x 0;omega
def aeR(S:Y C)(J:a6)(A:aA)(d:A.ok S)(c:U J=256):dF 354 [b 6000,b3 J] [(6000,ah 211 (dl S A))] (cv [b3 (jK S J A).s,an aj (jK S J A).n]) [(6000,ah 211 (dl S (jK S J A).r))]:=by
 refine c4 func354 [] λz p u=>?_;let⟨h1,fh⟩:=id d;refine mv (b3 cF) ?_ (e5:=ba);refine fA ?_;refine kn ?_ (g:=TG S A d.tT);apply cy;intro o;refine kn ?_ (g:=qN S A 92 d.tT);apply cL;intro w;have i:kv S A.x:=by simpa using o
 have k:=Dx i;refine pq A.x ?_;refine ch ?_ (g:=Du xv a2);exact aa;exact aa;apply f<;>intro l
 .have h:(!kv S A.x||!cZ S A.x 92&&gL xv (y S A.x 0)):=by simpa[gp] using l
  rw[show jK S J A=⟨J, -1,cw A A.x 6⟩ by rw[jK,af h]];refine bG [(6000,6000)] ?_ (g:=r2 S A A.x 6);refine gY ?_ (bu:=ie c);refine kT (b3 J) ?_ (h1:=b0 (g4) c) (fh:=ji);exact sI br<|.nU aa aa aa aa aa (pW c) (b0 (g4) c)<|.tmp aa .nil
 have h:¬(!kv S A.x||!cZ S A.x 92&&gL xv (y S A.x 0)):=by simpa[gp] using l
 have i:kv S A.x:=by cases t:kv S A.x with|true=>rfl|false=>simp_all
 have k:=Dx i;refine pT ?_ (g:=qN S A 92 d.tT);apply f<;>intro m
 .have he:=LG (S:=S) (J:=J) (A:=A.step) ⟨k,d.2⟩ c;rw[show jK S J A=ko S J A.step by rw[jK,ad h,af m]];refine e7 ((A.x+1:Z):L) ?_;refine gY ?_ (bu:=ie c);refine bG [(6000,6000)] ?_ (g:=aeD S J A.step ⟨by show A.x+1<=100000;omega,d.2⟩ c);refine kT (b3 (ko S J A.step).s) ?_ (h1:=b0 (g4) he.len) (fh:=ji);exact sI br<|.nU aa aa aa aa aa (pW he.len) (b0 (g4) he.len)<|.tmp aa .nil
 have e:U (aR J (ax (y S A.x 0)) ag)=256:=by rw[nC];exact c
 have v:=mE<|y S A.x 0;rw[show jK S J A=⟨aR J (ax (y S A.x 0)) ag,ax (y S A.x 0),A.step⟩ by simp_all[jK,ad]];refine fA ?_;refine pq A.x ?_;refine iG (ax (y S A.x 0):Z) ?_ (uU:=Gd);refine e7 ((A.x+1:Z):L) ?_;refine kR (ax<|y S A.x 0) (ax<|y S A.x 0) ?_ (kp:=by show ax (y S A.x 0)=0+ax (y S A.x 0)*1;omega);refine sX (b3<|aR J (ax<|y S A.x 0) ag) ?_ (k9:=Pr) (aU:=Yf J q);refine gY ?_ (bu:=ie e);refine kT (b3<|aR J (ax<|y S A.x 0) ag) ?_ (h1:=b0 (g4) e) (fh:=ji);exact sI br (.nU aa aa aa aa aa (pW e) (b0 (g4) e)<|.tmp aa .nil)
