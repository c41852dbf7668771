import Derived.Test.YtpilnblkknjliaaGreatDoorRows
import Derived.Test.YtpilnblkknjliaaGreatDoorCards
import Derived.Test.YtpilnblkknjliaaGreatDoorTie
import Derived.Test.YtpilnblkknjliaaGreatDoorF6
set_option linter.all false
set_option maxHeartbeats 8000000
set_option maxRecDepth 100000
open Array renaming size->bB,toList->bo
open Bool renaming false->ad,true->af
open Classical renaming choose->GX
open Decidable renaming decide->aL
open Go renaming IntKind->dw,Program->ct,TypeId->aw,Value->bt,World->bZ
open Go.DataW renaming trod->Cm
open Go.Ending renaming returned->mM
open Go.IntKind renaming i64->aj
open Go.Program renaming cellsOf->iP,underlying->ij
open Go.Proofs.Tryz renaming prog->b5
open Go.TypeDesc renaming slice->dP
open Go.Value renaming int->ek,oneCell'->jv,pointer->lu
open Go.World renaming cell?->hA
open Go.ga.V renaming agg->bH,bool->a6,cells->kb,int->an,str->bV,tuple->cs
open Go.ga.cj renaming cell->ag
open Inhabited renaming default->ai
open Int renaming toNat->aB
open List renaming drop->aU,getD->z,length->Q,map->aa,range->bJ,take->ak
open Option renaming none->ah,some->W
open Or renaming inl->bl
open UInt8 renaming toNat->aG
open _root_ renaming Bool->Y,Int->J,List->X,Nat->Z,Option->da,True->dW,UInt8->v,rfl->p,trivial->c1
open Go.Proofs Go.Proofs.Tryz
namespace Go.ga
variable{P:ct}{D:bZ}{hC:Type}
section
open Go.Lib
theorem aiJ{S:X v}(b:kJ S=0):Q S<=10000:=by grind[kJ]
def Er(c:Z)(b:dL):Prop:=Q b.w<=c/\1<=b.bL/\b.bL<=7
def R2{e:dX}{m:Z->J}{i:Z->X v}{dA:Z}(k:∀r,m r<Q e.b_):∀{L:X aN}{E:Z},(∀d,E<=d->d<E+Q L->Q (i d)<=dA)->(∀f∈L,∀(g:J) j,0<=g->g<Q e.b_->∀c∈lG e g j f,Er (Q j+20001*f.fC) c)->∀c∈iB e m i L E,Er (dA+20001*aN.fC.oA L) c|[],E,_,_,c,b=>cc|s::L,E,zz,l,c,b=>by rw[aN.fC.oA];rcases eX.1 b with b|b;have w:=zz E (bz _) av;split at b;rename_i n;have:=l s (kO ..) _ _ n (k E) c b;exact⟨by have:=this.1;omega,this.2⟩;obtain rfl:=ea.1 b;exact⟨a2,av,av⟩;have:=R2 k (λd t u=>zz d o a2) (λf q=>l f<|ku _ q) c b;exact⟨by have:=this.1;omega,this.2⟩
def ad8{s:bX}{e:X v}{i:X (X v)}(f:∀g,g<Q s.names->Q (z s.names g [])<=10000):∀c,c<=Q s.names->∀d∈kE s e i c,Er (Q e+20001) d|0,_,d,b=>cc|c+1,l,d,b=>by rcases eX.1 b with b|b;exact ad8 f c o d b;split at b;obtain rfl:=ea.1 b;have j:=f c o;have k:=Aa<|z s.names c [];exact⟨oU,av,av⟩;trivial
def apW{g:dX}(q:mQ g):∀d:aN,d.G<=1048576->d.gB=0->∀(e:J) f,0<=e->e<Q g.b_->∀i∈lG g e f d,Er (Q f+20001*d.fC) i:=aN.ind λd N I K e f r u i b=>by
 obtain⟨ao,ap,ar,au,aw⟩:=q.len;have R:=aN.pp I;obtain⟨v,H⟩:=zf K;obtain⟨Z,ak,al,am⟩:=Dw v;have x:∀c∈d.list,∀(e:J) f,0<=e->e<Q g.b_->∀i∈lG g e f c,Er (Q f+20001*c.fC) i:=λc w=>N c w aY<|H c w;have t:=aee q r u;have m:=IA q r u;have X:=d.vt;have Y:∀l:J,1<=l->l<=7->Er (Q f+20001*d.fC) ⟨f,l⟩:=λl y A=>⟨av,y,A⟩;rw[C7,nX] at b;split at b;simp_all;split at b;simp_all;split at b;grind;split at b;grind;split at b;split at b;simp_all;rcases eX.1 b with b|b;rcases eX.1 b with b|b;unfold vv at b;simp_all;unfold vo at b;simp_all;have:=R2 (dA:=Q f+21) (λl=>bX.N6 t.h2 l) (L:=d.list) (E:=0) (λn _ C=>by grind[Rs,aab,List.length_append,List.length_cons]) x i b;exact⟨by have:=this.1;omega,this.2⟩;split at b;simp_all;rename_i T S k;rcases eX.1 b with b|b;have k:(j4 g e).du:=by simpa using k
 obtain⟨c,M⟩:∃c,c=z g.b_ (aB e) ai:=⟨_,p⟩;rw[<-M] at m;have B:=BT o m.hp;have D:(bN c).aD.length=(bN c).names.length:=by show Q (aa dq.shape c.a8)=Q (aa dq.name c.a8);rw[bg,bg]
 have F:c.du:=by rw[m.TY] at k;have k:(di (eT (fi g)) (bN c)).du:=k;rw[(Hk _ (bN c) D).2,(wD c).2.2.2.2.2.2.1,j_] at k;exact k.1
 have:=ad8 (s:=j4 g e) (λE j=>by rw[m.TY] at j⊢;have j:E<Q (aa dq.name c.a8):=j;rw[bg] at j;show Q (z (aa dq.name c.a8) E [])<=_;rw[dm,c4,cm j];exact aiJ (E7 j<|(B.xZ F).2 E j).1) _ (bz _) i b;exact⟨by have:=this.1;omega,this.2⟩;have U:=(Tc<|ae5 v o).1;have:=R2 (dA:=Q f+20001) (λl=>RX t) (L:=d.list) (E:=0) (λn _ C=>by
  have O:=Aa<|z d.keys n [];have P:Q (z d.keys n [])<=10000:=by rcases fF n (Q d.keys) with s|s;grind[aiJ,cT];omega
  (simp_all;omega)) x i b
 grind
def ao0{b:aN}(c:mH b=0):b.fC<=60:=by grind[mH]
def apX{c:dX}(e:mQ c){b:aN}(j:b.G<=1048576)(k:b.gB=0)(g:mH b=0):Q (lG c c.root [] b)<=1000000/\∀d∈lG c c.root [] b,Q d.w<=1300000/\0<=d.bL/\d.bL<=100:=by
 obtain⟨u,v,l,m,x⟩:=e.len;have n:=R1 e b c.root [];have q:=LI g;have r:=ao0 g;refine⟨o,λd i=>?_⟩;have f:=apW e b j k _ [] l m d i;have s:=f.1;have t:=f.2
 (simp_all;omega)
end
def fg(b:J):Prop:=0<=b/\b<1000
instance(b:J):Decidable (fg b):=by unfold fg;exact inferInstance
theorem qm{T:J}(b:0<=T/\T<1000):fg T:=b
variable{C:ar}
theorem xK{c b:J}(e:fg C.no)(d:fg b):fg (cv C c b).no:=by grind[cv]
theorem pJ{S:X v}{c:v}(b:fg C.no):fg (aF S C c).no:=by unfold aF;split;exact b;exact b
theorem Q2{S:X v}{c:v}(b:fg C.no):fg (hx S C c).no:=by unfold hx;split;exact b;exact xK b aR
theorem Lh{S:X v}(b:fg C.no):fg (eL S C).r.no:=by unfold eL;split;exact b;split;exact b;split;unfold pc;split;exact xK b aR;split;exact xK b aR;trivial;split;exact b;exact xK b aR
theorem Q4{S:X v}{c:X v}(b:fg C.no):fg (jt S C c).2.no:=by unfold jt;split;exact xK b aR;exact b
variable{g:Z}
theorem Q1{d:a1}{c e:Z}(b:fg C.no):fg (n0 d g c e C).2.no:=by unfold n0;split;exact b;split;exact xK b aR;exact b
theorem ane{S:X v}{d:a1}{c:Z}(b:fg C.no):fg (pR S d g c C).2.no:=by unfold pR;split;split;refine Q1 ?_;split;exact xK (Lh<|pJ<|pJ b) aR;grind[Lh,pJ];grind[Q1,Q4,pJ];grind[Q1,pJ]
def Ys:∀(c:Z){S:X v}{e:a1}{d:ar},fg d.no->fg (oL c S e d).2.no|0,_,_,_,b=>b|c+1,S,e,d,b=>by rw[oL];split;exact Ys c (by grind[j2,Lh,pJ,ane,Q4]);exact b
theorem anl{S:X v}(b:fg C.no):fg (p5 S C).2.no:=Q2<|Ys _<|pJ b
theorem Lj{S:X v}{f:Z}:∀(c:Z){e:Z}{d:ar},fg d.no->fg (e8 S f c e d).2.no|0,_,_,b=>b|c+1,e,d,b=>by rw[e8];split;exact Lj c b;exact b
theorem anh{S:X v}(b:fg C.no):fg (gF S C g).2.no:=by unfold gF;split;exact xK (Lj _ b) aR;split;exact xK (Lj _ b) aR;grind[Lj]
def Hn{S:X v}:∀(b:Z){e:aO}{d:ar},fg d.no->fg (mb S b e d).2.no|0,_,_,c=>c|b+1,e,d,c=>by rw[mb];split;exact Hn b<|pJ c;split;exact Hn b<|pJ<|pJ c;split;exact Hn b<|pJ<|pJ<|pJ c;split;exact Hn b (by grind[k4,Q2,anh,pJ]);grind[pJ]
section
variable{u9:ar->aO×ar}(zz:∀x,fg x.no->fg (u9 x).2.no){S:X v}
include zz
theorem am8(b:fg C.no):fg (jb u9 S C).2.no:=by unfold jb;grind[Q2,pJ,anl,Lh,Q4]
theorem Q3:∀(c:Z){e:X aO}{d:ar},fg d.no->fg (km u9 S c e d).2.no|0,_,_,b=>b|c+1,e,d,b=>by rw[km];split;exact Q3 c<|Hn _<|am8 zz b;exact b
theorem Yp:∀(c:Z){e:X aO}{d:ar},fg d.no->fg (jW u9 S c e d).2.no|0,_,_,b=>b|c+1,e,d,b=>by rw[jW];split;exact Yp c<|Q3 zz _<|pJ b;exact pJ b
end
def Q0{S:X v}:∀(b:Z)(d:ar),fg d.no->fg (eB S b d).2.no|0,_,c=>c|b+1,d,c=>by exact Yp (Q0 b) _<|Q3 (Q0 b) _ c
theorem anb{b:aO}(c:fg C.no):fg (uz b C).2.2:=by grind[uz,qm]
def ank(S:X v):fg (h5 S).2.2:=by have b:=Q0 (S:=S) (Q S+1) ⟨0,0,0⟩<|qm aR;rw[<-agB];grind[yt,qm,anb,xK]
def ang(b:aO):fg (i6 b).2:=by grind[i6,qm]
theorem Li{b:Z->J}(c:∀d,fg (b d)):∀T,fg (l6 b T)|0=>qm (T:=0) aR|T+1=>by rw[l6];split;exact Li c T;grind
theorem Q5(S:X v):fg (kJ S):=by grind[kJ,qm]
theorem Yr(b:bT):fg (kk b):=by grind[kk,qm]
theorem am9(b:lY):fg (nk b):=by grind[nk,Yr,qm]
def ann(b:gb):fg (rI b):=by grind[rI,am9,qm]
theorem ani(b:cZ):fg (lk b):=by unfold lk;split;trivial;split;trivial;exact Li (λc=>ann _) _
theorem ano(b:cZ):fg (kK dl b):=by unfold kK;split;trivial;split;split;exact ank _;exact ang _;trivial
theorem anf(c:cZ)(b:J):fg (ld c b):=by grind[ld,qm]
def anc(c:X dq)(d:J)(b:Z):fg (l7 c d (-1) b):=by grind[l7,Q5,qm]
theorem anj(c:cZ)(b:J):fg (oI c b):=by
 have d:fg (s7 c.a8 b (-1)):=by unfold s7;split;trivial;simp[Li,anc]
 grind[oI,qm]
theorem anm(c:cZ)(b:J):fg (gq dl c b):=by grind[gq,ani,ano,anf,anj]
theorem am_(b:dX):fg (hK dl b):=by grind[hK,qm,Li,anm]
theorem Yq:∀(c:X (X v))(e:da (X v)),fg (rl e c)
|[],_=>by simp[rl,qm]|g::c,e=>by
 simp only[rl];split;exact Q5 g;have f:∀(d:Y)(b:J),fg b->fg (if d then 10 else b):=λd b i=>by grind[qm]
 exact f _ _<|Yq c _
theorem anp:∀c:aN,fg c.gB:=aN.ind λc f=>by
 rw[c.Hp];split;grind[kj,qm,Yr,Q5,Yq];have g:∀b,(∀d∈b,fg d.gB)->fg (aN.gB.wi b):=by
  intro b
  induction b with|nil=>trivial|cons d b e=>grind[aN.gB.wi,List.mem_cons_self,List.mem_cons_of_mem]
 simp_all
def ana(b:dX)(c:aN):fg (jz b c):=by grind[jz,mH,am_,qm,anp]
section
open Go.Lib
def asv(b:J)(M:dX)(k:M.ks)(y:∀z∈M.b_,∀f∈z.a8,Q f.name<=2000000)(ax:aN)(d:ax.G<=1048576):∃(q:Y)(c:J)(g:X dL),(0<=c/\c<1000)/\(Q g<=1000000/\∀f∈g,Q f.w<=1300000/\0<=f.bL/\f.bL<=100)/\(c≠0\/q=aL (Q g=0))/\fA b5 (jn b) 4 [kB M,eV ax] (cs [a6 q,an aj c])/\fA b5 (jn b) 5 [kB M,eV ax] (cs [a6 q,an aj c])/\fA b5 (jn b) 6 [kB M,eV ax] (cs [.a 2 (aa fH g),an aj c])/\fA b5 (jn b) 7 [kB M,eV ax] (cs [.a 2 (aa fH g),an aj c]):=by
 have l:=Vm b (M:=M) k (ax:=ax) d;have i:=rB b<|awX M k ax d;have j:=ayn b M k ax d;have m:=rB b<|awZ M k y ax d;have t:=ana M ax;by_cases e:jz M ax≠0;rw[ae e] at l i j m;exact⟨ad,jz M ax,[],t,⟨aR,λf x=>by cases x⟩,bl e,l,i,j,m⟩;rw[ab e] at l i j m;obtain⟨n,s⟩:=HD k e;have e:mH ax=0:=by have r:jz M ax=0:=yK e;unfold jz at r;rw[ab (by rw[n.gB];simp)] at r;exact r
 obtain⟨ch,u⟩:=Xb n d s;have v:=aaK n d s;rw[<-ch] at i;rw[v] at j;exact⟨Cz M ax,jz M ax,lG M M.root [] ax,t,apX n d s e,.inr u,l,i,j,m⟩
def asu(b:J)(t:fA b5 (jn b) 9 [] (a6 af))(c:dX)(z:c.ks)(x:∀A∈c.b_,∀l∈A.a8,Q l.name<=2000000)(d:aN)(y:d.G<=1048576):fA b5 (jn b) 3 [kB c,eV d] (a6 af):=by
 refine bx func3 [] λB D=>?_;obtain⟨C,k,j,he,g,w,m,n,r,s⟩:=asv b c z x d y;have i:=az5 b j g.1 g.2 k he.1 he.2;refine aS ?_ (f:=m);refine aS ?_ (f:=n);refine T2 ?_;refine eA ?_;apply e<;>intro u
 .exfalso;simp at u
 refine aS ?_ (f:=r);refine aS ?_ (f:=s);refine aS ?_ (f:=i);refine aS ?_ (f:=i);apply e<;>intro v
 .exfalso;simp at v
 apply ev;intro E;refine Nn ?_;exact p;apply c9;intro F;refine cf ?_ (f:=t);exact p;exact aA (q:=by rcases w with q|q;simp[q,gL];rfl;simp[q,gL];rfl)
end
section
open Go.Lib
def air{d:Type} [DecidableEq d]:∀{b R:X d},b.Nodup->(∀c∈b,c∈R)->Q b<=Q R|[],_,_,_=>dO _|c::b,R,g,i=>by obtain⟨e,f⟩:=xj.1 g;have:=air (R:=R.erase c) f λk j=>(Wt λl=>e ap).2<|i k<|ku _ j;grind
def am0{f:Type}{b:f->v->f}(c:f->Y){d:f}{e:X f}(u:d∈e)(t:∀k∈e,∀i,b k i∈e):(lC (iX b c d)).next.length<=Q e:=by
 classical
 have m:∀g∈wP (iX b c d) ql,g∈aa (iX b c) e:=by refine tP (λg j=>?_) (λg j=>JD (λr i l=>?_) j) _;grind;obtain⟨k,w,rfl⟩:=cV.1 l;rw[Im];grind
 have n:(wP (iX b c d) ql).Nodup:=by exact AR av _
 have q:=air n m;rw[bg] at q;have s:(lC (iX b c d)).next.length=Q (wP (iX b c d) ql):=by show(nR xR IP _).next.length=_;unfold nR;rw[bg]
 omega
def azF{c:Type}{e:c->v->c}{d:c}(b:v):e d b∈hc e d:=by refine cV.2 ⟨aG b,g4.2 b.toNat_lt,?_⟩;simp
def aps{b:bF}(f:hJ b)(g:mx b)(D:X v):iW b D=ad:=by
 have j:∀c∈ca b _,∀d,iz b c d∈ca b _:=λc e d=>by refine EC (qz (wU b<|Q b.next)<|oD f<|Q b.next) e _ ?_;refine cT ?_;show aG d<Q (z b.next c []);rw[f.h c<|oD f _ c e];exact d.toNat_lt
 have i:∀(D:X _)(c:Z),c∈ca b (Q b.next)->qM (iz b) c D∈ca b (Q b.next):=by
  intro D
  induction D with|nil=>intro c e;exact e|cons d D k=>intro c e;exact k _<|j c e d
 have:=i D _<|(o4 (succ:=dV b) (b7:=[b.start])<|dO _).subset (by show b.start∈[b.start];simp);unfold mx at g;rw[Ai,ajK] at g;show hg b _=ad;simp_all
def avV(b:cZ):dl.wO (dl.qF b.fq)=(i6 (h5 b.fq).1).1:=p
def az1(b:cZ)(c:b.eP):kK dl b=if(h5 b.fq).2.2≠0 then(h5 b.fq).2.2 else(i6 (h5 b.fq).1).2:=by unfold kK;rw[ab ap,ae c];rfl
def aag{b:cZ}(c:b.eP):(qq b).eP=!mx (dl.wO (dl.qF b.fq))/\(qq b).i4=dl.wO (dl.qF b.fq):=⟨ae c,ae c⟩
def mW:aO:=(h5 [97,43]).1
def agy:(h5 [97,43]).2.2=0:=a3
theorem an0:dG mW<=2000:=cc
theorem azk:Q (c8 (dY mW ⟨[],[]⟩).1 (dY mW ⟨[],[]⟩).2 4)<=4:=by decide+kernel
theorem acO:sh mW [97,97]:=by decide+kernel
def RG:mW=(h5 [97,43]).1:=p
def aqV(b:bF)(D:X v):b.has D=iW b D:=p
attribute [local irreducible] mW c8 h5 i6 mx sh
theorem ah_:Q (c8 (dY mW ⟨[],[]⟩).1 (dY mW ⟨[],[]⟩).2 3000)<=4:=by grind[azk,c8,sX]
theorem am4:(lC (sh mW)).next.length<=300:=by
 have f:=ah_;have c:ah∈c8 (dY mW ⟨[],[]⟩).1 (dY mW ⟨[],[]⟩).2 3000:=by unfold c8;exact(o4<|dO _).subset cc
 have:=am0 (r3 (dY mW ⟨[],[]⟩).2) c λe d b=>Jz (s:=(dY mW ⟨[],[]⟩).1) (M:=(dY mW ⟨[],[]⟩).2) o e d _<|azF b;grind[sh]
theorem adw:(i6 mW).2=0:=by unfold i6;rw[ab];grind[an0,ah_,am4]
def uE:cZ:=⟨ad,0,[],af,[97,43],ad,[],0,0,0,ad,[],0⟩
def uD:dX:=⟨[uE],0⟩
def wv:aN:=.mk 4 ad ⟨ad,[],0⟩ [97,97] [] []
def ES:aN:=.mk 1 ad ⟨ad,[],0⟩ [] [] []
theorem YB:hK dl uD=0:=by
 unfold hK;rw[ab aR,ab aR,ab aR];show l6 (λb=>gq dl (z uD.b_ b ai) 1) 1=0;rw[l6,l6,ab av];show gq dl uE 1=0;have d:kK dl uE=0:=by rw[az1 uE p,show uE.fq=[97,43] from p,ab (by rw[agy];simp),<-RG];exact adw
 have c:lk uE=0:=aR;simp_all[ld,uE,oI,gq]
def VQ:uD.ks:=⟨λd b=>by rw[ea.1 b];exact⟨λe c=>(by cases c),aR,aR,aR,aR⟩,aR⟩
def Zr{b:aN}(c:mH b=0):jz uD b=0:=by(simp[jz,ab,YB];omega)
theorem Rz:mH wv=0/\wv.G<=1048576/\wv.gB=0:=⟨aR,aR,aR⟩
theorem Zq:mH ES=0/\ES.G<=1048576/\ES.gB=0:=⟨aR,aR,aR⟩
def ayt:mQ uD:=⟨VQ,YB⟩
def au2:e_ mW:=by simp[RG,F9,agy]
theorem Tm:(i6 mW).1.ok/\iW (i6 mW).1=sh mW:=TD au2 adw
theorem aqS:(i6 mW).1.has [97,97]:=by simp[aqV,Tm,acO]
theorem apr:mx (i6 mW).1=ad:=by cases b:mx _ with|false=>rfl|true=>have:=aps Tm.1.wf b [97,97];simp_all[Tm,acO]
def afK:dl.wO (dl.qF uE.fq)=(i6 mW).1:=by rw[avV,show uE.fq=[97,43] from p,<-RG]
def aaY:(bN uE).eP/\(bN uE).i4=(i6 mW).1/\(bN uE).null=ad:=by obtain⟨b,e,f,c,d,_⟩:=wD _;refine⟨?_,?_,b⟩;rw[c,(aag p).1,afK,apr];rfl;rw[d,(aag p).2,afK]
def akU:Cz uD wv:=by have b:=ayt;obtain⟨g,e,f⟩:=Rz;rw[(Xb b e f).2,ir,Ak];have c:=(IA b (show 0<=0 by omega)<|show 0<(Q uD.b_:J) by decide).TY;have d:z uD.b_ (aB (0:J)) ai=uE:=p;rw[d] at c;rw[show uD.root=0 from p,C7,c];unfold nX;rw[ab<|show¬wv.bL=1 by decide,ab (show¬wv.bL=2 by decide),ab (show¬wv.bL=3 by decide),ae (show wv.bL=4 from p)];rw[show(qC (bN _) (di _ _)).eP=(di (eT (fi _)) _).eP from p,Hl.1,aaY.1,ab av,show(qC (bN _) (di _ _)).i4=(bN _).i4 from p,aaY.2.1,show wv.text=[97,97] from p,aqS,ae p]
def akV:Cz uD ES=ad:=by trivial
def amW(c:J):fA b5 (jn c) 4 [kB uD,eV wv] (cs [a6 af,an aj 0]):=by have b:=Vm c VQ Rz.2.1;rw[Zr Rz.1,ab av,akU] at b;exact b
def amY(c:J):fA b5 (jn c) 4 [kB uD,eV ES] (cs [a6 ad,an aj 0]):=by have b:=Vm c VQ Zq.2.1;rw[Zr Zq.1,ab av,akV] at b;exact b
end
section
open Go.Lib
def q1(d e:V):Prop:=∀(b:bh)(c:bt),bj b d c->bj b e c
def y0:X V->X V->Prop|[],[]=>dW|c::b,e::d=>q1 c e/\y0 b d|_,_=>False
def q1.rfl'(b:V):q1 b b:=λ_ _ c=>c
theorem q1.nil(b:Z):q1 .ba (.a b []):=λd e c=>by cases c;exact .slnil b
def y0.len:∀{c d:X V},y0 c d->Q c=Q d|[],[],_=>p|_::_,_::_,b=>by rw[kN,kN,y0.len b.2]|[],_::_,b=>b.elim|_::_,[],b=>b.elim
def y0.get:∀{i j:X V},y0 i j->∀(f:Z)(d e:V),i[f]?=W d->j[f]?=W e->q1 d e|[],[],_,f,d,e,c,_=>by simp at c|k::i,l::j,b,0,d,e,c,g=>by simp at c g;subst c;subst g;exact b.1|k::i,l::j,b,f+1,d,e,c,g=>y0.get b.2 f d e (by simpa using c) (by simpa using g)|[],_::_,b,_,_,_,_,_=>b.elim|_::_,[],b,_,_,_,_,_=>b.elim
def q1.agg{c d:X V}(f:y0 c d):q1 (bH c) (bH d):=λj u q=>by
 cases q with
 |agg _ r t k m=>
  have l:=f.len;refine .agg d r o k λb s i g n=>?_;have e:b<Q c:=by rw[l];exact(e3.1 g).1
  exact f.get b _ s (cm e) g j i<|m b _ i (cm e) n
def q1.ayX(k:Z){e j:X V}(r:y0 e j):q1 (.a k [bH e]) (.a k [bH j]):=λt C A=>by
 cases A with
 |a _ _ u base cap val w x z v y=>
  have n:=r.len;have s:∀(b:Z)(f:V),j[b]?=W f->∃i,e[b]?=W i/\q1 i f:=λb f g=>by
   have q:b<Q e:=by rw[n];exact(e3.1 g).1
   exact⟨e[b],cm q,r.get b _ f (cm q) g⟩
  exact bj.a k [bH j] u base cap val w x (λd m c=>by
   cases d with|zero=>simp at c;subst c;have:=z 0 (bH e) p;show Q j=k;rw[<-n];exact this|succ d=>simp at c) (λd b m f c g=>by
   cases d with|zero=>simp at c;subst c;obtain⟨i,l,_⟩:=s b f g;exact v 0 b (bH e) i p l|succ d=>simp at c) (λd b m f c g=>by cases d with|zero=>simp at c;subst c;obtain⟨i,l,B⟩:=s b f g;exact B t _ (y 0 b (bH e) i p l)|succ d=>simp at c)
def aff{P:ct}{e:X (Z×V)}{f:FuncId}{l n k m j:V}(t:fA P e f [l,n] j)(u:q1 k l)(v:q1 m n):fA P e f [k,m] j:=λd x D w q g r s=>t d x D w q (λb y c aH i=>by cases b with|zero=>simp at aH;subst aH;exact u d c (g 0 _ c p i)|succ b=>cases b with|zero=>simp at aH;subst aH;exact v d c (g 1 _ c p i)|succ b=>simp at aH) r s
def Ns:V:=bH [.a 13 [bH [a6 ad,an aj 0,.ba,a6 af,bV [97,43],a6 ad,.ba,an aj 0,an aj 0,an aj 0,a6 ad,.ba,an aj 0]],an aj 0]
def No(b:J)(S:X v):V:=bH [an aj b,a6 ad,a6 ad,bV [],an aj 0,bV S,.ba,.ba]
def aeu:q1 Ns (kB uD):=.agg ⟨.ayX 13 ⟨.rfl' _,.rfl' _,.nil 11,.rfl' _,.rfl' _,.rfl' _,.nil 1,.rfl' _,.rfl' _,.rfl' _,.rfl' _,.nil 3,.rfl' _,c1⟩,.rfl' _,c1⟩
def at2:q1 (No 4 [97,97]) (eV wv):=.agg ⟨.rfl' _,.rfl' _,.rfl' _,.rfl' _,.rfl' _,.rfl' _,.nil 8,.nil 1,c1⟩
def at3:q1 (No 1 []) (eV ES):=.agg ⟨.rfl' _,.rfl' _,.rfl' _,.rfl' _,.rfl' _,.rfl' _,.nil 8,.nil 1,c1⟩
def amX(b:J):fA b5 (jn b) 4 [Ns,No 4 [97,97]] (cs [a6 af,an aj 0]):=aff (amW b) aeu at2
def amZ(b:J):fA b5 (jn b) 4 [Ns,No 1 []] (cs [a6 ad,an aj 0]):=aff (amY b) aeu at3
def ast(b:J):fA b5 (jn b) 9 [] (a6 af):=by refine bx func9 [2002] λd e=>?_;refine er ?_;refine n7 ⟨[(0,a6 ad),(1,c 1)],[(1,ag 24 Ns)],[]⟩ ?_;refine dM ?_;refine aS ?_ (f:=amX b);refine aS ?_ (f:=amZ b);refine fk ?_;refine fk ?_;refine fk ?_;exact aA
end
def bh.start(D:bZ):bh:=⟨λd e=>match hA D ⟨d,e,ah⟩ with|W c=>if jv c then W c else ah|ah=>ah,λ_=>ah,λ_=>ah,0,λ_ _=>p,λd e c b=>by split at b;split at b;rename_i f;simp only[hr] at b;subst b;exact f;cases b;cases b⟩
theorem bh.VE{D:bZ}{c:Z}{b:bt}(e:hA D ⟨g,c,ah⟩=W b)(d:jv b):(bh.start D).I g c=W b:=by grind[bh.start]
def bh.azr{D:bZ}{b:Z}{c:bt}(d:(bh.start D).I g b=W c):hA D ⟨g,b,ah⟩=W c:=by grind[bh.start]
theorem Holds.start(D:bZ)(c:X (Z×V))(d:Z):Holds ⟨D,λ_=>False,bh.start D,[],c,d⟩ (bh.start D) [] D:=⟨bh.le.refl _,⟨p,p,p,bz _,λ_ _ _=>p⟩,λ_ _ b _=>b,λ_ _ _ b=>bl b,λ_ _ b=>bl b,(λ_ _ b=>by cases b),λ_ _ _ b=>bh.azr b,(λ_ _ _ b=>by cases b),(λ_ _ b=>by cases b),av,(λ_ _ _ _ b=>by cases b),(λ_ _ _ _ _ _ _ b=>by cases b)⟩
def adI{e f:Type}{g:e->da f}:∀{d:X e}{b:X f},d.mapM g=W b->Q b=Q d|[],b,c=>ap|l::d,b,c=>by simp[D_,akn,ako,Option.pure_def,hr] at c;obtain⟨j,_,k,i,rfl⟩:=c;simp[adI i]
variable{i:bZ}{U:X MemPlace}
section
variable{eK:aw×bt->hC}{held:Y}
def wc(D:bZ)(e:X V)(c:X bt):Prop:=Q e=Q c/\(∀b∈c,jv b)/\∀(d:Z)(f:V)(b:bt),e[d]?=W f->c[d]?=W b->bj (bh.start D) f b
theorem wc.one{c:V}{b:bt}(f:bj (bh.start D) c b)(d:jv b):wc D [c] [b]:=⟨p,aY,λi k j g e=>by grind⟩
def Q8{d:Addr}{c:X bt}(e:D.cells? 0 d g=W c):Q c=g/\∀b,b<g->∃f,c[b]?=W f/\hA D (d.add b)=W f:=by refine⟨by rw[adI e];simp,λb j=>?_⟩;obtain⟨i,k,l⟩:=Go.Lib.mapM_at e b b aY;simp_all
def W6{d:Type}(eK:aw×bt->hC)(P:ct)(D:bZ)(S:aw)(i:d->Prop)(f:d->V):Prop:=∀(g:Z)(b:X bt)(e:DataW hC)(j:X MemPlace),Cm eK P D 0 (λ_=>af) af g S b=W (e,j)->∃c,i c/\wc D (f c).cells b
def axq{S:aw}(g:ij P S=W .bool):W6 eK P D S (λ_=>dW) V.bool:=by
 intro c e f i d;cases c with
 |zero=>trivial|succ c=>
  unfold DataW.trod at d;split at d
  all_goals first
   |(rename_i b _;exact⟨b,c1,.one (.bool b) p⟩)|simp_all|simp_all
def axr{S:aw}{c:dw}(i:ij P S=W (.int c)):W6 eK P D S (nZ c) (V.int c):=by intro d f g j b;cases d with|zero=>trivial|succ d=>unfold DataW.trod at b;split at b<;>simp_all;rename_i e _;refine⟨e,?_,.one (.int _ _) p⟩;have:=b.1.2;simp[Lit.wf,j_,yS] at this;trivial
structure Frame(l0 KV:bZ):Prop where
 os:KV.os=l0.os
 output:KV.output=l0.output
 size:bB l0.heap<=bB KV.heap
 block:∀A,A<bB l0.heap->KV.heap[A]?=l0.heap[A]?
def Frame.same{d:bZ}(f:Frame i d){c:MemPlace}(e:c.block<bB i.heap):i.sameAt d c:=by cases c with|cell b g=>exact World.cell?_of_block (f.block b e)|map b=>exact f.block b e
def Frame.kept{c:bZ}(b:Frame i c)(e:MemPlace->Prop):i.keptBut c e:=by refine⟨b.os,b.output,λd j=>?_⟩;rw[b.block d j];grind
def Frame.frozen{b:bZ}(d:Frame i b){R:Z}(c:R<bB i.heap):b.frozen? ⟨R,g,ah⟩=i.frozen? ⟨R,g,ah⟩:=by simp[World.frozen?];rw[d.block R c]
theorem aiS(n:laidOutB P){f l:bZ}(m:Frame f l){t:Z->Y}:∀{e:X aw}{k:X bt}{g:X (DataW hC)}{c:X MemPlace},(∀S∈e,P.readableRec S/\S<bB P.types)->DataW.TrodAll eK P f 0 (λ_=>af) af e k g c->(∀d∈c,d.block<bB f.heap)->(∀d∈c,t d.block)->DataW.TrodAll eK P l 0 t af e k g c|[],[],[],c,_,i,_,_=>i|S::e,C::k,A::g,c,s,i,q,r=>by obtain⟨d,y,u,v,rfl⟩:=i;refine⟨d,y,?_,aiS n m (λz B=>s z aY) v (λb j=>q b aY) λb j=>r b aY,p⟩;obtain⟨w,x⟩:=s S av;exact Go.WideElems.Trod_stays n w x u (λb j=>m.same<|q b aY) λb j=>r b aY
def asw{e:Func}{b:ChangeSpec}{n C E B:Y}{g:bZ}{args:Array bt}{c q:X (DataW hC)}{A:aw}(M:laidOutB P)(O:∀S∈bo e.params,P.readableRec S/\S<bB P.types)(H:b.vars=[])(x:e.resultTypes=#[A])(s:ij P A=W .bool)(v:(b.fn hC c).results=[.lit (.bool af)]/\(b.fn hC c).args=c/\(b.fn hC c).vars=[])(k:DataW.Whole eK P (bo e.params) b.vars n i (bo args) c q U)(u:Frame i g):b.post eK P e n C E B i args (.bool af) g:=by
 have w:=k.lt;have D:=k;obtain⟨f,J,K,L,rfl,aH,F⟩:=k;obtain⟨rfl,rfl⟩:q=[]/\J=[]:=by grind[DataW.TrodVars]
 simp at w aH F D;have r:∀d,(∀j∈f,d j.block)->DataW.TrodAll eK P g 0 d af (bo e.params) (bo args) (b.fn hC (c++[])).args f:=λd N=>by grind[aiS]
 have y:∀(R:Z)(d:Z->Y)(t:Y),DataW.TrodAll eK P g R d t (bo e.resultTypes) ((Value.bool _).resultList (bB e.resultTypes)) (b.fn hC (c++[])).results []:=λR d t=>by rw[ff,v.1,x];exact⟨[],[],Go.RowKit.shut_bool s _,p,p⟩
 have z:∀d,DataW.TrodVars eK P g d b.vars (b.fn hC (c++[])).vars []:=λd=>by rw[ff,H,v.2.2];rfl
 have G:∀j∈f,(λR=>aL<|R<bB i.heap) j.block:=λj m=>ap;refine⟨c,[],f,[],f,[],?_,y _ _ _,r _ G,z _,World.keptBut_mono (λj m=>⟨m,.inr<|bl m⟩)<|u.kept _,λ_=>?_⟩;omega;refine⟨Go.RowKit.ok_one x p<|Go.RowKit.okWide_bool_mk s _,_,_,[]++f++[],⟨[]++f,[],Go.ChangeShapes.trodAll_append (r _ λ_ _=>p)<|y _ _ _,z _,p,?_,?_⟩,?_⟩;intro R I l;simp at l;rw[u.frozen (R:=R)<|w _ l];exact aH R I l;simp_all;simp_all
def agT{c:Z}{l:dw}{d:X J}(s:Q d=c)(q:∀m,m<Q d->hA i ⟨g,m,ah⟩=W (ek l (z d m 0))):bj (bh.start i) (.ref c [.agg (aa (V.int l) d)] 0 0) (lu (W ⟨g,0,ah⟩)):=by
 have t:bj (bh.start i) (.ref c [.agg (aa (V.int l) d)] 0 0) (lu (W ⟨g,0+0*c+0,ah⟩)):=by
  refine .ref c _ 0 0 g 0 (λ_ b=>ek l<|z d b 0) ?_ ?_ ?_;grind[V.cells];intro j b n r e f;cases j with
  |zero=>
   simp at e;subst e;have k:=by have:=(e3.1 f).1;simpa[V.cells] using this
   have:=q b k;rw[show 0+0*c+b=b by omega];exact bh.VE this p|succ j=>trivial
  intro j b n r e f;cases j with
  |zero=>
   simp at e;subst e;have k:=by have:=(e3.1 f).1;simpa[V.cells] using this
   simp[V.cells,c4,cm k,lW,hr] at f;subst f;rw[dm,cm k];exact .int _ _|succ j=>trivial
 simp_all
def fA.calls{g:X (Z×V)}{n:FuncId}{k:X V}{s:V}(j:fA P g n k s){e:X bt}(v:Q e=Q k)(w:∀(r:Z)(c:V)(b:bt),k[r]?=W c->e[r]?=W b->bj (bh.start i) c b)(t:∀q c,(q,c)∈g->bj (bh.start i) c (lu (W ⟨q,0,ah⟩))):Calls P n e.toArray i λm l=>∃b f,m=mM b/\bj f s b/\Frame i l:=by refine(j _ e i _ v w (Holds.start i g 0) t).mono ?_;rintro m l ⟨b,A,z,f,rfl,⟨rfl,rfl⟩,x,d⟩;exact⟨b,f,p,x,d.B.os,d.B.output,d.B.size,λy u=>d.B.block y u λj=>j⟩
def acM{k:String×DataW Unit}{b:X (String×DataW Unit)}(g:laidMet P (k::b) D):laidMet P b D:=by obtain⟨q,⟨n,s,l,m,r,j,_,_,_,_,f,rfl⟩,e,d⟩:=g;exact⟨j,f,(sI.1 e).2.1,λc i hm=>d c i<|yR _ hm⟩
end
section
open Go.Proofs.YtpilnblkknjliaaGreatDoor
open Go.Lib
section
variable{eK:aw×bt->hC}
theorem Hj:∀b:DataW hC,1<=Rows.uptoBulk b:=λb=>by cases b with|lit c=>cases c<;>(simp[Rows.uptoBulk])|nil=>simp[Rows.uptoBulk]|_=>simp[Rows.uptoBulk]
def Hi:∀{L:X (DataW hC)}{I:DataW hC},I∈L->Rows.uptoBulk I<=Rows.uptoBulkAll L|[],_,b=>by cases b|c::L,I,b=>by rw[Rows.uptoBulkAll];rcases fR.1 b with rfl|b;omega;have:=Hi b;omega
def amt{L:X Z}{ao:Z->Z}{s:Z->DataW hC}(d:∀b∈L,ao b<=Rows.uptoBulk (s b)):(aa ao L).sum<=Rows.uptoBulkAll (aa s L):=by induction L with|nil=>simp|cons c L e=>grind[Rows.uptoBulkAll,List.mem_cons_self,List.mem_cons_of_mem]
def lA{d:Type}(eK:aw×bt->hC)(P:ct)(D:bZ)(f:Z)(S:aw)(l:d->Prop)(g:d->Z)(i:d->V):Prop:=∀(j:Z)(e:X bt)(b:DataW hC)(k:X MemPlace),Rows.uptoBulk b<=f->Cm eK P D 0 (λ_=>af) af j S e=W (b,k)->∃c,l c/\g c<=Rows.uptoBulk b/\wc D (kb<|i c) e
def yu{S:aw}(e:ij P S=W .bool):lA eK P D g S (λ_=>dW) (λ_=>1) V.bool:=λi b c f _ d=>by obtain⟨l,j,k⟩:=axq e _ b c f d;grind[Hj]
def yv{S:aw}{b:dw}(f:ij P S=W (.int b)):lA eK P D g S (nZ b) (λ_=>1) (V.int b):=λj c d i _ e=>by obtain⟨m,k,l⟩:=axr f _ c d i e;grind[Hj]
def I9{S:aw}(s:ij P S=W .string):lA eK P D g S (λ_:X v=>dW) (λl=>Q l+1) V.str:=by
 intro e m n t _ k;cases e with
 |zero=>trivial|succ e=>
  unfold DataW.trod at k;have q:∀(b:ByteArray)(c:DataW hC)(f:X MemPlace),W (.lit (.string (bo b.data)),[])=W (c,f)->∃i:X _,dW/\Q i+1<=Rows.uptoBulk c/\wc D (kb (V.str i)) [Value.string b]:=λb c f d=>by
   injection d with d;injection d with j r;subst j
   refine⟨bo b.data,c1,PQ a3,.one ?_ p⟩;have:=bj.str (N:=bh.start D)<|bo b.data;omega
  grind
def F_{A:Type} [Inhabited A]{S f:aw}{F:A->Prop}{v:A->Z}{q:A->V}{J:Z}(az:ij P S=W (dP f))(ax:iP P f=J)(aF:J≠0)(al:lA eK P D g f F v q):lA eK P D (g+1) S (λL:X A=>∀e∈L,F e) (λL=>(aa v L).sum+1) (λL=>.a J<|aa q L):=by
 intro aE aD I aH R au;subst ax;rcases Go.Deep.open_slice az au with⟨rfl,r⟩|⟨C,len,cap,t,aB,k,O,rfl,_,aG,ak,hm,r,am⟩;exact⟨[],av,by simp[Hj],.one (.slnil _) p⟩;simp only[KA] at hm;subst hm;have M:I=.slice (aa k (bJ len)) ((bJ (t-len)).map λc=>k<|len+c):=ep Prod.fst r;have T:∀b,b<t->Rows.uptoBulk (k b)<=g:=λb j=>by rw[M,Rows.uptoBulk] at R;rcases fF b len with s|s;have:=Hi (L:=aa k<|bJ len) (I:=k b)<|cV.2 ⟨b,g4.2 s,p⟩;omega;have:=Hi (L:=(bJ<|t-len).map λc=>k<|len+c) (I:=k b)<|cV.2 ⟨b-len,g4.2 o,by rw[show len+(b-len)=b by omega]⟩;omega
 have ap:∀b,b<t->∃e m,(F e/\v e<=Rows.uptoBulk (k b))/\D.cells? 0 (C.add (b*iP P f)) (iP P f)=W m/\wc D (kb (q e)) m:=λb j=>by obtain⟨m,i,y⟩:=am b j;obtain⟨e,l,H,w⟩:=al aB m (k b) (O b) (T b j) y;grind
 let d:Z->A:=λb=>if aA:b<t then GX (ap b aA) else ai
 have B:∀b,b<t->∃m,(F (d b)/\v (d b)<=Rows.uptoBulk (k b))/\D.cells? 0 (C.add (b*iP P f)) (iP P f)=W m/\wc D (kb (q (d b))) m:=λb j=>by grind
 refine⟨aa d<|bJ len,λe r=>?_,?_,?_⟩;simp only[cV,g4] at r;obtain⟨b,j,rfl⟩:=r;obtain⟨_,i,_⟩:=B b o;exact i.1;rw[M,Rows.uptoBulk];have:=amt (L:=bJ len) (ao:=λb=>v<|d b) (s:=k) λb j=>by obtain⟨_,i,_⟩:=B b (by have:=g4.1 j;omega);exact i.2
 have f:aa v (aa d (bJ len))=(bJ len).map λb=>v (d b):=by rw[gh];rfl
 show(aa v (aa d (bJ len))).sum+1<=_;rw[f];omega;refine .one ?_ p;by_cases U:t=0;subst U;have:len=0:=o;subst this;exact .z_ _ C;obtain⟨E,G,aC⟩:=C;have ay:aC=ah:=by obtain⟨m,_,i,_⟩:=B 0 o;obtain⟨_,y⟩:=Q8 i;obtain⟨u,_,l⟩:=y 0 o;simp only[As,Addr.add,KA] at l;unfold World.cell? at l;split at l;split at l;cases l;rename_i w;simpa using w;cases l
 subst ay;have ar:Q (aa q (aa d (bJ len)))=len:=av;have N:bj (bh.start D) (.a (iP P f) (aa q (aa d (bJ len)))) (.slice (W ⟨E,G,ah⟩) (Q (aa q (aa d (bJ len)))) t):=by
  have get:∀(c:Z)(I:V),(aa q (aa d (bJ len)))[c]?=W I->c<len/\I=q (d c):=by
   intro c I x;have z:c<len:=by have:=(e3.1 x).1;simpa using this
   refine⟨z,?_⟩;simp[z] at x;exact x.symm
  have cell:∀(c n:Z)(e:V),c<len->(kb (q (d c)))[n]?=W e->∃u,hA D ⟨E,G+c*iP P f+n,ah⟩=W u/\jv u/\bj (bh.start D) e u:=by
   intro c n e z r;obtain⟨m,_,i,w⟩:=B c o;obtain⟨y,l⟩:=Q8 i;have Y:n<iP P f:=by rw[<-y,<-w.1];exact(e3.1 r).1
   obtain⟨u,H,K⟩:=l n Y;rw[Addr.add_lit,Addr.add_lit] at K;exact⟨u,K,w.2.1 u<|eY H,w.2.2 n e u r H⟩
  refine .a _ _ E G t (λc n=>(hA D ⟨E,G+c*iP P f+n,ah⟩).getD undef) o ak ?_ ?_ ?_;intro c I x;obtain⟨z,rfl⟩:=get c I x;obtain⟨m,_,i,w⟩:=B c o;rw[w.1,(Q8 i).1];grind[bh.VE];intro c n I e x r;obtain⟨z,rfl⟩:=get c I x;obtain⟨u,i,y,l⟩:=cell c n e z r;rw[i];exact l
 rw[ar] at N;exact N
def axm{g n:X V}{i k:X bt}(c:wc D g i)(f:wc D n k):wc D (g++n) (i++k):=by refine⟨by rw[cX,cX,c.1,f.1],λd b=>?_,λl m d e b=>?_⟩;rcases eX.1 b with b|b;exact c.2.1 d b;exact f.2.1 d b;by_cases j:l<Q g;rw[tt j] at e;rw[tt (by rw[<-c.1];exact j)] at b;exact c.2.2 l m d e b;rw[xi o] at e;rw[xi (by rw[<-c.1];omega),<-c.1] at b;exact f.2.2 _ m d e b
def KS{e:Type}(eK:aw×bt->hC)(P:ct)(D:bZ)(g:Z)(k:X (aw×Z))(n m:Z)(q:e->Prop)(i:e->Z)(j:e->X V):Prop:=∀(l:Z)(f:X bt)(c:X (DataW hC×X MemPlace)),Rows.uptoBulkAll (aa (·.1) c)<=g->(k.mapM λb=>Cm eK P D 0 (λ_=>af) af l b.1<|ak (iP P b.1)<|aU b.2 f)=W c->∃d,q d/\i d<=Rows.uptoBulkAll (aa (·.1) c)/\wc D (j d) (ak m<|aU n f)
def DJ{b:Z}:KS eK P D g [] b 0 (λ_:Unit=>dW) (λ_=>0) (λ_=>[]):=λd c j _ _=>⟨(),c1,dO _,by exact⟨p,av,λf k i e=>cc⟩⟩
def jG{e f:Type}{d l u:Z}{S:aw}{j:X (aw×Z)}{v:e->Prop}{m:e->Z}{q:e->V}{w:f->Prop}{n:f->Z}{r:f->X V}(B:lA eK P D g S v m q)(L:iP P S=l)(C:KS eK P D g j (d+l) u w n r):KS eK P D g ((S,d)::j) d (l+u) (λb:e×f=>v b.1/\w b.2) (λb=>m b.1+n b.2) (λb=>kb (q b.1)++r b.2):=by
 intro s i M E c;rw[D_] at c;cases zz:Cm eK P D 0 (λ_=>af) af s S (ak (iP P S)<|aU d i) with
 |none=>simp_all|some G=>
  rw[zz] at c;cases t:j.mapM λk=>Cm eK P D 0 (λ_=>af) af s k.1 (ak (iP P k.1)<|aU k.2 i) with
  |none=>simp_all|some F=>
   rw[t] at c;injection c with c;subst c
   obtain⟨A,pl⟩:=G;simp[iO,Rows.uptoBulkAll] at E;obtain⟨x,ch,H,I⟩:=B _ _ A pl o zz;obtain⟨z,y,J,K⟩:=C _ i F o t;refine⟨(x,z),⟨ch,y⟩,by(simp[iO,Rows.uptoBulkAll];omega),?_⟩;simp_all[List.take_add,List.drop_drop,axm]
def Gl(P:ct)(S:aw)(d:X (aw×Z)):Y:=match ij P S with|W (.struct c)=>aL (aa (λb=>(b.type,b.offset)) (bo c)=d)|_=>ad
def adJ{e:Type}(d:aw->Z->da e):∀c:X Field,(c.mapM λb=>d b.type b.offset)=(c.map λb=>(b.type,b.offset)).mapM λb=>d b.1 b.2|[]=>p|b::c=>by rw[D_,iO,D_,adJ d c]
def DI{l:Type}{s:Z}{S:aw}{j:X (aw×Z)}{t:l->Prop}{n:l->Z}{q:l->X V}(A:Gl P S j)(F:iP P S=s)(B:KS eK P D g j 0 s t n q):lA eK P D (g+1) S t (λd=>n d+1) (λd=>bH<|q d):=by
 intro f c v C x z;obtain⟨e,G,y⟩:∃e,ij P S=W (.struct e)/\aa (λb=>(b.type,b.offset)) (bo e)=j:=by unfold Gl at A;grind
 cases f with
 |zero=>trivial|succ f=>
  unfold DataW.trod at z;have i:(if Q c=iP P S then((bo e).mapM λb=>Cm eK P D 0 (λ_=>af) af f b.type<|ak (iP P b.type)<|aU b.offset c).map λk=>(.agg<|aa (·.1) k,k.flatMap (·.2)) else ah)=W (v,C):=by all_goals simp_all
  rw[adJ λm u=>Cm eK P D 0 _ _ _ m<|ak (iP P m)<|aU u c,y] at i;split at i;cases hm:j.mapM λb=>Cm eK P D 0 (λ_=>af) af f b.1 (ak (iP P b.1)<|aU b.2 c) with|none=>simp_all|some k=>rw[hm] at i;obtain⟨rfl,rfl⟩:=i;rw[Rows.uptoBulk] at x⊢;obtain⟨d,w,E,r⟩:=B _ c k o hm;refine⟨d,w,a2,?_⟩;rw[sG,rQ o] at r;exact r
  trivial
def lA.hU{c d:Type}{i:Z}{S:aw}{f:c->Prop}{j:c->Z}{l:c->V}{n:d->Prop}{k:d->Z}{m:d->V}(v:lA eK P D g S f j l)(e:c->d)(s:i<=g)(E:∀b,f b->n (e b))(B:∀b,f b->k (e b)<=j b)(C:∀b,kb (m (e b))=kb (l b)):lA eK P D i S n k m:=λx q r w t u=>by obtain⟨b,y,z,A⟩:=v _ q r w (dK t s) u;grind
end
end
section
open Go.Lib
def sC:ij eG 3=W (.int aj):=av
def tp:ij eG 4=W .bool:=av
def JK:ij eG 9=W .string:=av
def aAl:ij eG 22=W (dP 67):=av
def aAo:ij eG 27=W (dP 30):=av
def aAp:ij eG 28=W (dP 9):=av
def aAs:ij eG 63=W (dP 138):=av
def u64:ij eG 64=W (dP 3):=av
def aAt:ij eG 65=W (dP 118):=av
def h_:iP eG 3=1:=cR
def l1:iP eG 4=1:=cR
def Hm:iP eG 9=1:=cR
def amz:iP eG 22=1:=cR
def amB:iP eG 24=2:=cR
def QY:iP eG 26=3:=cR
def amC:iP eG 27=1:=cR
def amD:iP eG 28=1:=cR
def Yj:iP eG 30=8:=cR
def amK:iP eG 63=1:=cR
def amL:iP eG 64=1:=cR
def amM:iP eG 65=1:=cR
def Yl:iP eG 67=13:=cR
def Yf:iP eG 118=3:=cR
def QX:iP eG 136=5:=cR
def Yg:iP eG 138=11:=cR
def bT.jc(b:bT):Z:=Q b.bM+1
def lY.jc(b:lY):Z:=Q b.n.bM+3
def gb.jc(b:gb):Z:=Q b.low.n.bM+Q b.high.n.bM+6
def dq.jc(b:dq):Z:=Q b.name+3
def cZ.jc(b:cZ):Z:=(aa gb.jc b.cd).sum+Q b.fq+Q b.dH+(aa dq.jc b.a8).sum+8
def dX.jc(b:dX):Z:=(aa cZ.jc b.b_).sum+1
def aix:∀b:X J,Q b<=(b.map λ_=>1).sum|[]=>bz _|c::b=>by have:=aix b;(simp;omega)
section
variable{eK:aw×bt->hC}
def agC(c:Z):lA eK b5 D c 26 (λ_:bT=>dW) bT.jc cn:=(DI cR QY<|jG (yu tp) l1<|jG (I9 JK) Hm<|jG (yv sC) h_ DJ).hU
 (λb=>⟨b.1,b.2.1,b.2.2.1⟩) (pv c) (λ_ _=>c1) (λb _=>by show Q b.2.1+1<=1+(Q b.2.1+1+(1+0))+1;omega) λ_=>p
def agA(c:Z):lA eK b5 D c 136 (λ_:lY=>dW) lY.jc EU:=(DI cR QX<|jG (yu tp) l1<|jG (yu tp) l1<|jG (agC c) QY DJ).hU
 (λb=>⟨b.1,b.2.1,b.2.2.1⟩) (pv c) (λ_ _=>c1) (λb _=>by show b.2.2.1.bM.length+3<=1+(1+(b.2.2.1.bM.length+1+0))+1;omega) λ_=>p
def axf(c:Z):lA eK b5 D c 138 (λ_:gb=>dW) gb.jc s2:=(DI cR Yg<|jG (agA c) QX<|jG (agA c) QX<|jG (yu tp) l1 DJ).hU
 (λb=>⟨b.1,b.2.1,b.2.2.1⟩) (pv c) (λ_ _=>c1) (λb _=>by show b.1.n.bM.length+b.2.1.n.bM.length+6<=b.1.n.bM.length+3+(b.2.1.n.bM.length+3+(1+0))+1;omega) λ_=>p
def aw9(c:Z):lA eK b5 D c 118 (λ_:dq=>dW) dq.jc dj:=(DI cR Yf<|jG (I9 JK) Hm<|jG (yv sC) h_<|jG (yu tp) l1 DJ).hU
 (λb=>⟨b.1,b.2.1,b.2.2.1⟩) (pv c) (λ_ _=>c1) (λb _=>by show Q b.1+3<=Q b.1+1+(1+(1+0))+1;omega) λ_=>p
def axg(b:Z):lA eK b5 D b 63 (λ_:X gb=>dW) (λc=>(aa gb.jc c).sum+1) (λc=>.a 11<|aa s2 c):=(F_ aAs Yg aR<|axf b).hU id (pv b) (λ_ _=>c1) (λ_ _=>bz _) λ_=>p
def axa(c:Z):lA eK b5 D c 64 (λ_:X J=>dW) (λb=>Q b+1) (λb=>.a 1<|aa c7 b):=(F_ u64 h_ aR<|yv sC).hU id (pv c) (λ_ _=>c1) (λb _=>akj<|aix b) λ_=>p
def aw_(b:Z):lA eK b5 D b 65 (λ_:X dq=>dW) (λc=>(aa dq.jc c).sum+1) (λc=>.a 3<|aa dj c):=(F_ aAt Yf aR<|aw9 b).hU id (pv b) (λ_ _=>c1) (λ_ _=>bz _) λ_=>p
def axh(c:Z):lA eK b5 D c 28 (λ_:X (X v)=>dW) (λb=>(b.map λd=>Q d+1).sum+1) (λb=>.a 1<|aa V.str b):=(F_ aAp Hm aR<|I9 JK).hU id (pv c) (λ_ _=>c1) (λ_ _=>bz _) λ_=>p
def axd(c:Z):lA eK b5 D c 67 (λ_:cZ=>dW) cZ.jc i3:=(DI cR Yl
 (jG (yu tp) l1<|jG (yv sC) h_<|jG (axg c) amK<|jG (yu tp) l1<|jG (I9 JK) Hm<|jG (yu tp) l1<|jG (axa c) amL<|jG (yv sC) h_<|jG (yv sC) h_<|jG (yv sC) h_<|jG (yu tp) l1<|jG (aw_ c) amM<|jG (yv sC) h_ DJ)).hU
 (λb=>⟨b.1,b.2.1,b.2.2.1,b.2.2.2.1,b.2.2.2.2.1,b.2.2.2.2.2.1,b.2.2.2.2.2.2.1,b.2.2.2.2.2.2.2.1,b.2.2.2.2.2.2.2.2.1,b.2.2.2.2.2.2.2.2.2.1,b.2.2.2.2.2.2.2.2.2.2.1,b.2.2.2.2.2.2.2.2.2.2.2.1,b.2.2.2.2.2.2.2.2.2.2.2.2.1⟩) (pv c) (λ_ _=>c1)
 (λb _=>by(simp[cZ.jc];omega)) λ_=>p
def axe(b:Z):lA eK b5 D b 22 (λ_:X cZ=>dW) (λc=>(aa cZ.jc c).sum+1) (λc=>.a 13<|aa i3 c):=(F_ aAl Yl aR<|axd b).hU id (pv b) (λ_ _=>c1) (λ_ _=>bz _) λ_=>p
def axb(c:Z):lA eK b5 D c 24 (λ_:dX=>dW) dX.jc kB:=(DI cR amB<|jG (axe c) amz<|jG (yv sC) h_ DJ).hU
 (λb=>⟨b.1,b.2.1⟩) (pv c) (λ_ _=>c1) (λb _=>by show(aa _ b.1).sum+1<=(aa _ b.1).sum+1+(1+0)+1;omega) λ_=>p
def aiC:∀b:X aN,aN.G.vK b=(aa aN.G b).sum|[]=>p|c::b=>by rw[aN.G.vK,aiC b,iO,List.sum_cons]
def axi:∀b,lA eK b5 D b 30 (λ_:aN=>dW) aN.G eV:=by
 intro b
 induction b using Nat.strongRecOn with
 |ind b k=>
  cases b with
  |zero=>intro g e f l i _;grind[Hj]|succ b=>
   have j:lA eK b5 D b 27 (λ_:X aN=>dW) (λd=>(aa aN.G d).sum+1) (λd=>.a 8<|aa eV d):=by cases b with|zero=>intro g e f l i _;grind[Hj]|succ b=>exact(F_ aAo Yj aR<|k b o).hU id (bz _) (λ_ _=>c1) (λ_ _=>bz _) λ_=>p
   exact(DI cR Yj<|jG (yv sC) h_<|jG (yu tp) l1<|jG (agC b) QY<|jG (I9 JK) Hm<|jG j amC<|jG (axh b) amD DJ).hU
    (λc=>aN.mk c.1 _ c.2.2.1 c.2.2.2.1 c.2.2.2.2.1 c.2.2.2.2.2.1) (bz _) (λ_ _=>c1)
    (λc _=>by(simp[aN.G,aiC,bT.jc];omega))
    (λc=>by show[V.int _ c.1,a6 _,a6 _,bV _,an _ _,bV _,.a 8 _,.a 1 _]=_;rw[show s3=eV from funext ZM];rfl)
end
theorem VM{c:Type}{b:X c}{ao:c->Z}{d:c}(e:d∈b):ao d<=(aa ao b).sum:=by induction b with|nil=>cases e|cons f b g=>grind
def VN{b:Type}{L:X b}{ao:b->Z}{l:Z}(e:∀c,l<=ao c):l*Q L<=(aa ao L).sum:=by induction L with|nil=>simp|cons d L f=>grind[List.length_cons,Nat.mul_add]
def aih(b:gb):b.jc=Q b.low.n.bM+Q b.high.n.bM+6:=p
theorem aaj(b:dq):b.jc=Q b.name+3:=p
def ayu{c:dX}(g:c.jc<=1048576):c.ks/\∀b∈c.b_,∀ao∈b.a8,Q ao.name<=2000000:=by
 unfold dX.jc at g;have d:∀b∈c.b_,b.jc<=1048575:=λb d=>by grind[VM,cZ.jc]
 have n:=VN (L:=c.b_) (ao:=cZ.jc) (l:=8) λb=>by simp[cZ.jc]
 refine⟨⟨λb hm=>?_,o⟩,λb hm ao m=>?_⟩;have f:=d b hm;unfold cZ.jc at f;have j:=VN (L:=b.cd) (ao:=gb.jc) (l:=6) λe=>by simp[aih]
 have k:=VN (L:=b.a8) (ao:=dq.jc) (l:=3) λe=>by simp[aaj]
 refine⟨λe i=>?_,o,o,o,o⟩;have:=VM (ao:=gb.jc) i;rw[aih] at this;exact⟨o,o⟩;grind[cZ.jc,VM,dq.jc,aaj]
end
section
open Go.Proofs.YtpilnblkknjliaaGreatDoor
open Go.Lib Go.ChangeShapes Go.WideShapes Go.ChangeAt Go.RowKit
def abg:Tryz.prog.globalNamed "internal/strconv.uint64pow10" =W 0:=a3
def abh:Tryz.prog.globalNamed "math/bits.deBruijn64tab" =W 1:=a3
def aqH:(Tryz.prog.globals[0]?).map (·.type)=W 360:=a3
def aqI:(Tryz.prog.globals[1]?).map (·.type)=W 384:=a3
def aAq:ij eG 360=W (.array 20 226):=av
def aAr:ij eG 384=W (.array 64 5):=av
def aAm:ij eG 226=W (.int .u64):=av
def VX:ij eG 5=W (.int .u8):=av
def amF:iP eG 360=20:=cR
def amG:iP eG 384=64:=cR
def amA:iP eG 226=1:=cR
def Lf:iP eG 5=1:=cR
def azQ(c:laidMetH b5 Rows.schemaAcceptsMatchesSpecUptoRow.laid i):Lib.TabIs b5 i "math/bits.deBruijn64tab" .u8 EO/\Lib.TabIs b5 i "internal/strconv.uint64pow10" .u64 NQ:=by have b:=acM c;exact⟨Lib.tabIs_of_head abh aqI aAr VX Lf amG b,Lib.tabIs_of_head abg aqH aAq aAm amA amF<|acM b⟩
theorem axD{e:dw}{f:J}(l:hA i ⟨g,0,ah⟩=W (ek e f)):bj (bh.start i) (.ref 1 [an e f] 0 0) (lu (W ⟨g,0,ah⟩)):=by
 have:=bj.ref 1 [an e f] 0 0 g 0 (λ_ _=>ek e f) (λc k b=>by
  cases c with|zero=>simp at b;subst b;rfl|succ c=>trivial) (λc d k m b j=>by
  cases c with
  |zero=>simp at b;subst b;cases d with|zero=>exact bh.VE l p|succ d=>trivial
  |succ c=>trivial) (λc d k m b j=>by
  cases c with
  |zero=>simp at b;subst b;cases d with|zero=>simp[V.cells] at j;subst j;exact .int _ _|succ d=>trivial
  |succ c=>trivial)
 omega
def aqB{f:J}(l:laidMetH b5 Rows.schemaAcceptsMatchesSpecUptoRow.laid i)(m:hA i ⟨5,0,ah⟩=W (ek aj f)):∀b d,(b,d)∈jn f->bj (bh.start i) d (lu (W ⟨b,0,ah⟩)):=by obtain⟨g,k⟩:=azQ l;intro b d e;simp[jn,fR,ka,or_false] at e;rcases e with⟨rfl,rfl⟩|⟨rfl,rfl⟩|⟨rfl,rfl⟩;exact agT aR λc j=>k.cell abg c j;exact agT aR λc j=>g.cell abh c j;grind[axD]
def asq:laidOutB b5:=cR
def ahb:Tryz.prog.readableRec 24/\Tryz.prog.readableRec 30:=⟨cR,cR⟩
def adz:24<bB Tryz.prog.types/\30<bB Tryz.prog.types:=⟨yU av,yU av⟩
def agz{P:ct}{hC:Type}{j:Type}{eK:aw×bt->hC}{c:bZ}{S:aw}{m:X (aw×Z)}{q:j->Prop}{k:j->Z}{i:j->X V}(y:Gl P S m)(A:∀r,lA eK P c r S q k (λb=>bH<|i b)){g:bt}{d:DataW hC}{n:X MemPlace}(w:Value.okWide P c .any 0 S g)(v:DataW.Trod eK P c 0 (λ_=>af) af S g d n):∃b,q b/\k b<=Rows.uptoBulk d/\bj (bh.start c) (bH (i b)) g:=by
 obtain⟨e,z,_⟩:∃e,ij P S=W (.struct e)/\aa (λl=>(l.type,l.offset)) (bo e)=m:=by unfold Gl at y;grind
 obtain⟨s,rfl,_⟩:=okWide_struct z w;obtain⟨B,x⟩:=v;obtain⟨b,t,u,f⟩:=A _ _ _ d n (bz _) x;refine⟨b,t,u,?_⟩;have:=bj.agg (i b) (bo s) f.1 f.2.1 f.2.2;omega
def axc{hC:Type}{eK:aw×bt->hC}(b:Z):lA eK b5 i b 24 (λ_:dX=>dW) dX.jc (λc=>bH [.a 13 (aa i3 c.b_),an aj c.root]):=axb b
def axj{hC:Type}{eK:aw×bt->hC}(c:Z):lA eK b5 i c 30 (λ_:aN=>dW) aN.G (λb=>bH [an aj b.bL,a6 b.bool,a6 b.num.neg,bV b.num.bM,an aj b.num.exp,bV b.text,.a 8<|aa s3 b.list,.a 1<|aa V.str b.keys]):=axi c
def aif:Gl b5 24 [(22,0),(3,1)]/\Gl b5 30 [(3,0),(4,1),(26,2),(9,5),(27,6),(28,7)]:=⟨cR,cR⟩
def axk{hC:Type}{eK:aw×bt->hC}{b:bt}{c:DataW hC}(f:Value.okWide b5 i .any 0 24 b)(e:DataW.Trod eK b5 i 0 (λ_=>af) af 24 b c U):∃d:dX,dW/\d.jc<=Rows.uptoBulk c/\bj (bh.start i) (kB d) b:=@agz _ hC dX eK i 24 _ _ _ _ aif.1 axc b c U f e
def axl{hC:Type}{eK:aw×bt->hC}{b:bt}{c:DataW hC}(f:Value.okWide b5 i .any 0 30 b)(e:DataW.Trod eK b5 i 0 (λ_=>af) af 30 b c U):∃d:aN,dW/\d.G<=Rows.uptoBulk c/\bj (bh.start i) (eV d) b:=@agz _ hC aN eK i 30 _ _ _ _ aif.2 axj b c U f e
def aom(hC:Type)(eK:aw×bt->hC)(c:bZ)(args:Array bt)(i d:X (DataW hC))(u:X MemPlace)(n:∀(q:Z) S b,Tryz.f3.params[q]?=W S->args[q]?=W b->Value.okWide b5 c .any 0 S b)(k:DataW.Whole eK b5 (bo Tryz.f3.params) Rows.schemaAcceptsMatchesSpecSpec.vars ad c (bo args) i d u)(C:Rows.uptoSmall hC (i++d))(z:laidMetH b5 Rows.schemaAcceptsMatchesSpecUptoRow.laid c)(F:c.ShapedOpen b5):Calls b5 3 args c λj e=>∃b,j=mM b/\Rows.schemaAcceptsMatchesSpecSpec.post eK b5 Tryz.f3 ad af ad ad c args b e:=by have A:=k;have l:=yU C;obtain⟨ao,au,y,P,rfl,R,T⟩:=k;have x:=y;obtain⟨s,az,f,N,al,ap,Q,rfl,rfl,v,G⟩:=trodAll_cons x;obtain⟨t,aA,g,O,am,ar,rfl,rfl,rfl,w,H⟩:=trodAll_cons G;obtain⟨rfl,rfl,rfl⟩:=trodAll_nil H;obtain rfl:args=#[s,t]:=aY;obtain⟨r,hm⟩:=Tryz.asU.s1_3 c F;obtain⟨J,_,I,ax⟩:=axk (n 0 24 s p p) v;obtain⟨b,_,K,ay⟩:=axl (n 1 30 t p p) w;obtain⟨aH,D⟩:=ayu<|dK I<|dK (Hi (L:=[f,g]++d) av) l;refine((asu r (ast r) J aH D b<|dK K<|dK (Hi (L:=[f,g]++d) av) l).calls p (λak aB b Y U=>?_)<|aqB z hm).mono ?_;grind;rintro j e ⟨b,M,rfl,E,B⟩;cases E;exact⟨_,p,asw asq (λS m=>by simp at m;rcases m with rfl|rfl;exact⟨ahb.1,adz.1⟩;simp[ahb,adz]) p a3 tp ⟨p,p,p⟩ A B⟩
end
