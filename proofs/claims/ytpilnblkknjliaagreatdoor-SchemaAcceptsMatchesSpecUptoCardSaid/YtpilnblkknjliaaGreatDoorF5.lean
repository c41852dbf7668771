import Derived.Test.YtpilnblkknjliaaGreatDoorF4
set_option linter.all false
set_option maxHeartbeats 8000000
set_option maxRecDepth 100000
open Array renaming size->bB,toList->bo
open Bool renaming false->ad,true->af
open Decidable renaming decide->aL
open Eq renaming symm->bG,trans->bC
open Go renaming Calls->px,FuncId->gP,Program->ct,Value->bt,World->bZ
open Go.Ending renaming returned->mM
open Go.Fn renaming func->dp
open Go.IntKind renaming i64->aj
open Go.Lib renaming bitLen->xu,compareBytes->sN,indexByte->gQ,trimLeftB->Co,trimRightB->GY
open Go.Obj renaming cells->pz
open Go.Op renaming bytesLess->gR
open Go.Proofs.Tryz renaming prog->b5
open Go.Value renaming agg->iH,bool->iv,int->ek,slice->gj,string->mO,tuple->rU
open Go.World renaming cell?->hA
open Go.ga.V renaming agg->bH,bool->a6,func->e4,int->an,ref->fy,str->bV,tuple->cs
open Go.ga.cj renaming cell->ag
open Inhabited renaming default->ai
open Int renaming natAbs->g6,toNat->aB
open List renaming Pairwise->uR,all->gu,contains->nb,drop->aU,flatMap->lv,flatten->jj,getD->z,idxOf->iw,length->Q,map->aa,range->bJ,replicate->cM,set->aK,take->ak,toArray->aT
open List.Pairwise renaming nil->Cp
open List.Perm renaming refl->uS
open Nat renaming cast->nK
open Option renaming none->ah,some->W
open Or renaming inl->bl,inr->bp,resolve_left->kx
open UInt8 renaming ofNat->gk,toNat->aG,toNat_lt->nc
open _root_ renaming Bool->Y,Inhabited->xv,Int->J,List->X,Nat->Z,True->dW,UInt8->v,Unit->kc,absurd->b9,rfl->p,trivial->c1
open Go.Proofs Go.Proofs.Tryz
namespace Go.ga
open Go.Shelf Go.Proofs in
def aoc(b c:X v):bb 288 [bV b,bV c] (an aj (sN b c)):=.L1 (.str<|.str .nil) (λe=>.int ..) λd=>Tryz.strings_Compare _ _ d
open Go.Shelf Go.Proofs in
def U8(b:Z)(e:b<=1000000):bb 312 [bV [48],an aj (b:J)] (bV (ps b)):=.fixed (.str<|.int .nil) (λd=>by rw[<-axF];exact .str _) λc=>by exact Tryz.strings_Repeat _ b c o (by show 1*b<=_;omega)
open Go.Shelf Go.Proofs in
def az8(b:X v):bb 314 [bV b,bV [48]] (bV (Co b 48)):=.L1 (.str<|.str .nil) (λd=>.str _) λc=>Tryz.strings_TrimLeft_one _ 48 aR c
open Go.Shelf Go.Proofs in
def aAa(b:X v)(e:Q b<=1000000):bb 315 [bV b,bV [48]] (bV (GY b 48)):=.L1 (.str<|.str .nil) (λd=>.str _) λc=>Tryz.strings_TrimRight_one _ 48 aR c (by show bB (aT b)<=_;grind)
def az7(b:X v):Q (Co b 48)<=Q b:=(ajM _).length_le
def az_(b:X v):Q (GY b 48)<=Q b:=by grind[GY,List.length_reverse,Nat.le_trans,List.dropWhile_sublist]
def af4(d:bT):bb 246 [cn d] (an aj (ju d)):=by
 refine bx func246 [] λf g=>?_;apply e<;>intro b
 .exact aA (q:=by rw[ju,ae b];rfl)
 apply e<;>intro c
 .exact aA (q:=by rw[ju,ab b,ae c];rfl)
 exact aA (q:=by rw[ju,ab b,ab c];rfl)
def aga{am:J}:bb 247 [an aj am] (an aj (fm am)):=by refine bx func247 [] λb c=>?_;refine pY (min 1 am)<|ID _ (q:=by(simp[fm];omega))<|aA
def azM(b c:bT)(j:Q b.bM<=1000000/\-1000000<=b.exp/\b.exp<=1000000)(k:Q c.bM<=1000000/\-1000000<=c.exp/\c.exp<=1000000):bb 248 [cn b,cn c] (an aj (rK b c)):=by
 refine bx func248 [] λg i=>?_;refine bc ?_;refine jf ?_;refine jf<|aS ?_ (f:=aga);apply e<;>intro d
 .exact aA (q:=by rw[rK,ae d];rfl)
 refine aS ?_ (f:=aoc _ _);exact aA (q:=by rw[rK,ab d];rfl)
def azL(d e:bT):-1<=rK d e/\rK d e<=1:=by
 let g:∀f, -1<=fm f/\fm f<=1:=λf=>by(simp[fm];omega)
 let i:∀c b, -1<=sN c b/\sN c b<=1:=by
  intro c
  induction c with
  |nil=>intro b;cases b<;>(simp only[sN];omega)|cons d c j=>intro b;cases b with|nil=>simp[sN]|cons e b=>grind[sN]
 grind[rK]
def Oo(b:bT):-1<=ju b/\ju b<=1:=by(simp[ju];omega)
def Uw(b c:bT):-9223372036854775808<=ju b*rK b c/\ju b*rK b c<=9223372036854775807:=by let d:=azL b c;grind[ju]
def awg(b c:bT)(g:Q b.bM<=1000000/\-1000000<=b.exp/\b.exp<=1000000)(i:Q c.bM<=1000000/\-1000000<=c.exp/\c.exp<=1000000):bb 185 [cn b,cn c] (an aj (qE b c)):=by
 refine bx func185 [] λj k=>?_;let l:=Oo b;let m:=Oo c;refine eg<|cf (f:=af4 b)<|cf ?_ (f:=af4 c);refine eA ?_;apply e<;>intro d
 .refine jf<|aS ?_ (f:=aga (am:=(ju b-ju c)));exact aA (q:=by rw[qE,ae d];rfl)
 refine aS ?_ (f:=azM b c g i);exact IE (q:=(Uw b c).1) (h0:=(Uw b c).2)<|aA (q:=by rw[qE,ab d];rfl)
def w7(c d:X v)(b:Z):Z:=cu (aU b c)+cu (aU b d)
variable{g:X v}{P:Z}
theorem Rt(b:P<Q g):cu (aU P g)=(aG g[P]-48)*10^(Q g-(P+1))+cu (aU (P+1) g):=by rw[pt b,zl,B_]
def Lz(c:gu g fU)(b:Z):cu (aU b g)<10^(Q g-b):=by grind[EP,ve,List.mem_of_mem_drop,List.length_drop]
def rC(c d:X v)(b:Z):X v:=cM (b+1) 0++l4 (Q c-b) (w7 c d b)
def q9(b d:X v)(c:Z):Z:=w7 b d c/10^(Q b-c)
def aft{b:X v}(c:P<=Q g):Q (rC g b P)=Q g+1:=by grind[rC,List.length_append,List.length_replicate,wu]
theorem Lg{c:X v}(e:gu g fU)(f:gu c fU)(i:Q g=Q c)(b:Z):q9 g c b<=1:=by let j:=Lz e b;let d:=Lz f b;rw[<-i] at d;unfold q9 w7;have:(cu (aU b g)+cu (aU b c))/10^(Q g-b)<2:=(Kj o).2 o;omega
theorem VL{b:X v}(c:Q g=Q b)(d:P<Q g):w7 g b P=(aG g[P]-48+(aG b[P]-48))*10^(Q g-(P+1))+w7 g b (P+1):=by grind[w7,Rt,Nat.add_mul]
def am7{b:X v}(c:Q g=Q b)(d:P<Q g):q9 g b P=(aG g[P]-48+(aG b[P]-48)+q9 g b (P+1))/10:=by unfold q9;rw[VL c d,show Q g-P=Q g-(P+1)+1 by omega,rR,<-PM];simp[xl,PK,pw]
def avp{b:X v}(e:Q g=Q b)(f:P<Q g):aK (rC g b (P+1)) (P+1) (gk (48+(aG g[P]-48+(aG b[P]-48)+q9 g b (P+1))%10))=rC g b P:=by
 unfold rC;rw[show Q g-P=Q g-(P+1)+1 by omega,l4];let c:w7 g b P/10^(Q g-(P+1))=aG g[P]-48+(aG b[P]-48)+q9 g b (P+1):=by rw[VL e f,xl<|_*_,PK _ _ aY,xl];rfl
 let d:l4 (Q g-(P+1)) (w7 g b P)=l4 (Q g-(P+1)) (w7 g b<|P+1):=Zg (by grind[VL,Nat.add_comm,Nat.add_mul_mod_self_right]);rw[c,d,Wx (n:=P+1),fJ,An _ _ av];simp
def avn{b:X v}(c:gu g fU)(d:gu b fU)(e:Q g=Q b):aK (rC g b 0) 0 (gk (48+q9 g b 0))=n5 g b:=by have:=Lg c d e 0;unfold rC n5;grind[l4,q9,cu,w7,Nat.mod_eq_of_lt]
def avo{b:X v}:rC g b (Q g)=cM (Q g+1) 0:=by rw[rC,oT,l4,ff]
def am6{b:X v}(c:Q g=Q b):q9 g b (Q g)=0:=by grind[q9,w7,List.drop_length,cu]
def aiN{b:J}{i:Z}(c:b=P):b.tmod (i:J)=((P%i:Z):J):=aY
def aiI{b:J}{i:Z}(c:b=P):b.tdiv (i:J)=((P/i:Z):J):=ap
def Vp{b:v}:aK (aa bR g) P (bR b)=aa bR (aK g P b):=av
def QW(b:P<Q g):(aa bR g)[P]?=W (bR g[P]):=ap
def UC(c:X v)(b:Z)(g:Q c<=b)(i:b<=1000000):bb 291 [bV c,an aj (b:J)] (bV (hF c b)):=by refine bx func291 [] λd e=>?_;refine jg _<|aS ?_ (f:=U8 (b-Q c) o);exact vz (q:=by grind[ps])<|aA
def af2(b d:X v)(g:Q b=Q d)(l:gu b fU)(bS:gu d fU)(A:Q b<=1000000):bb 290 [bV b,bV d] (bV (n5 b d)):=by
 refine bx func290 [] λt x=>?_;refine bc ?_;refine kF (Q b+1) (Q b+1) (aa bR<|rC b d<|Q b) ?_ (aW:=by rw[avo,Ea];rfl);refine jf<|dv Z (λf=>⟨[(0,_),(1,_),(6,an .u8 (q9 b d f:Z)),(7,an aj<|(f:J)-1),(5,.aq 12 0<|Q b+1)],[(12,.h 1 5<|aa bR<|rC b d f)],[]⟩) (λf=>f<=Q b) (λf=>f) (Q b) (λf z=>?_) (bz _) ⟨⟨p,p,(by rw[am6 g];rfl),p,p,c1⟩,⟨p,c1⟩,p,p⟩;apply e<;>intro y
 .obtain⟨c,rfl⟩:∃c,f=c+1:=⟨f-1,o⟩;let m:c<Q b:=o;let s:=Lg l bS g<|c+1;let k:c+1<Q (rC b d<|c+1):=by rw[aft o];omega
  let u:=ve l b[c] (fK m);let w:=ve bS d[c] (fK o);let n:=JJ (I:=(aG b[c]-48+(aG d[c]-48)+q9 b d (c+1))%10)<|sJ _ aR;refine eg ?_;refine rt c b[c] ?_;refine rt c d[c] ?_;refine e6 ((c+1:Z):J) ?_;refine FG (((aG b[c]-48+(aG d[c]-48)+q9 b d (c+1))%10:Z):J) ?_ (q:=aiN (i:=10) Kr);refine IG ((q9 b d c:Z):J) ?_ (q:=by rw[am7 g m];exact aiI (i:=10) Kr) (h1:=Di o (by grind[Lg]));refine cC (c+1) ?_;refine gN (aa bR<|rC b d c) (bR<|(rC b d<|c+1)[c+1]'k) (an .u8 _) ?_ (j:=QW k) (aW:=by rw[<-avp g m,<-Vp,bR,n];grind[Pk]);refine jg ((c:J)-1) ?_;exact a0 c (cq:=.r)
 obtain rfl:f=0:=o;let s:=Lg l bS g 0;let k:0<Q (rC b d 0):=by rw[aft o];omega
 let n:=JJ (I:=q9 b d 0) o;refine cC 0 ?_;refine gN (aa bR<|n5 b d) (bR<|(rC b d 0)[0]'k) (an .u8 _) ?_ (j:=QW k) (aW:=by rw[<-avn l bS g,<-Vp,bR,n];grind[Pk]);refine zP (n5 b d) ?_ (hlen:=by rw[n5,wu]) (bS:=by simp[sG,rQ,n5,wu]);exact aA
def DV(c d:X v)(b:Z):Z:=10^(Q c-b)+cu (aU b c)-cu (aU b d)
def xI(c d:X v)(b:Z):Z:=if cu (aU b c)<cu (aU b d) then 1 else 0
def zk(b c:X v)(d:Z)(e f:v):Z:=10+(aG e-48)-(aG f-48)-xI b c (d+1)
def uu(c d:X v)(b:Z):X v:=cM b 0++l4 (Q c-b) (DV c d b)
def avk{b:X v}(c:P<=Q g):Q (uu g b P)=Q g:=by grind[uu,List.length_append,List.length_replicate,wu]
def ami(b c:X v)(d:Z):xI b c d<=1:=by grind[xI]
def aij{e:X v}(u:gu g fU)(w:gu e fU)(K:Q g=Q e)(n:P<Q g):∃j,DV g e P=zk g e P g[P] e[P]*10^(Q g-(P+1))+j/\j<10^(Q g-(P+1))/\DV g e (P+1)%10^(Q g-(P+1))=j/\xI g e P=1-zk g e P g[P] e[P]/10:=by
 have s:Q e-(P+1)=Q g-(P+1):=o;have B:=Rt n;have t:=Rt (show P<Q e by omega);rw[s] at t;have N:=Lz u<|P+1;have F:=Lz w<|P+1;rw[s] at F;have D:10^(Q g-P)=10^(Q g-(P+1))*10:=by rw[show Q g-P=Q g-(P+1)+1 by omega,rR]
 have G:=ve u g[P] (fK n);have H:=ve w e[P] (fK o);have M:aG e[P]-48<=9:=o;unfold DV xI zk xI;rw[B,t,D];generalize 10^(Q g-(P+1))=b at*;generalize cu (aU (P+1) g)=f at*;generalize cu (aU (P+1) e)=i at*;generalize aG g[P]-48=c at*;generalize aG e[P]-48=d at*;have z:∀q r:Z,q<=r->q*b<=r*b:=λq r n=>jU b n;have y:∀j l:Z,l<=1->j<b->10*b+(c*b+f)-(d*b+i)=(10+c-d-l)*b+j->(if c*b+f<d*b+i then 1 else 0)=1-(10+c-d-l)/10:=by
  intro j l I L k;generalize J:10+c-d-l=m at*;split;have:m<10:=by apply Ch;intro x;have:=z 10 m x;omega
  omega;have:¬m<10:=by intro x;have:=z (m+1) 10 o;rw[iG,vZ] at this;omega
  omega
 have C:b*10=10*b:=lV ..;rw[C];split
 .rename_i E;have k:10*b+(c*b+f)-(d*b+i)=(10+c-d-1)*b+(b+f-i):=by
   have A:10*b+c*b=(10+c-d-1)*b+d*b+b:=by
    rw[show 10*b+c*b=(10+c)*b by grind,show 10+c=10+c-d-1+d+1 by omega,iG,iG,vZ];congr 3
    all_goals omega
   omega
  refine⟨b+f-i,k,o,xq o,y _ 1 o o k⟩
 .rename_i E;have k:10*b+(c*b+f)-(d*b+i)=(10+c-d-0)*b+(f-i):=by
   have A:10*b+c*b=(10+c-d-0)*b+d*b:=by
    rw[show 10*b+c*b=(10+c)*b by grind,show 10+c=10+c-d-0+d by omega,iG];congr 3
    all_goals omega
   omega
  refine⟨f-i,k,o,?_,y _ 0 o o k⟩;rw[show b+f-i=f-i+b by omega,aj3,xq o]
def avl{b:X v}(e:gu g fU)(f:gu b fU)(i:Q g=Q b)(j:P<Q g):aK (uu g b (P+1)) P (gk (48+zk g b P g[P] b[P]%10))=uu g b P:=by
 let⟨n,c,d,m,_⟩:=aij e f i j;unfold uu;rw[show Q g-P=Q g-(P+1)+1 by omega,l4];have k:DV g b P/10^(Q g-(P+1))=zk g b P g[P] b[P]:=by rw[c,xl _,PK _ _ o,WA d,kZ]
 have l:l4 _ (DV g b P)=l4 (Q g-(P+1)) (DV g b (P+1)):=Zg (by grind[Nat.add_comm,Nat.add_mul_mod_self_right,Nat.mod_eq_of_lt]);simp_all[Wx,fJ,An]
def avj{b:X v}:uu g b (Q g)=cM (Q g) 0:=by rw[uu,oT,l4,ff]
def amh{b:X v}(c:Q g=Q b):xI g b (Q g)=0:=by rw[xI,GJ,c,GJ,ab o]
def avm{b:X v}:uu g b 0=pf g b:=a3
def ad3(b d:X v)(m:Q b=Q d)(k:gu b fU)(bS:gu d fU)(F:Q b<=1000000):bb 313 [bV b,bV d] (bV (pf b d)):=by
 refine bx func313 [] λy B=>?_;refine kF (Q b) (Q b) (aa bR<|uu b d<|Q b) ?_ (aW:=by rw[avj,Ea];rfl);refine jf<|dv Z (λf=>⟨[(0,_),(1,_),(6,an .u8 (xI b d f:Z)),(7,an aj<|(f:J)-1),(5,.aq 11 0<|Q b)],[(11,.h 1 5<|aa bR<|uu b d f)],[]⟩) (λf=>f<=Q b) (λf=>f) (Q b) (λf E=>?_) (bz _) ⟨⟨p,p,(by rw[amh m];rfl),p,p,c1⟩,⟨p,c1⟩,p,p⟩;apply e<;>intro D
 .obtain⟨c,rfl⟩:∃c,f=c+1:=⟨f-1,o⟩;have l:c<Q b:=o;have C:=ami b d<|c+1;have n:c<Q (uu b d (c+1)):=by rw[avk o];omega
  have z:=ve k b[c] (fK l);have A:=ve bS d[c] (fK o);have t:zk b d c b[c] d[c]=10+(aG b[c]-48)-(aG d[c]-48)-xI b d (c+1):=p;let⟨_,_,_,_,s⟩:=aij k bS m l;have r:=avl k bS m l;have u:zk b d c b[c] d[c]<=19:=(by grind[zk]);generalize zk b d c b[c] d[c]=g at t s r u;have w:=JJ (I:=g%10)<|sJ _ aR;refine eg<|rt c b[c]<|rt c d[c]<|FG ((g%10:Z):J) ?_ (q:=aiN (i:=10) Kr);refine IG ((g/10:Z):J) ?_ (q:=aiI (i:=10) Kr);refine cC c ?_;refine gN (aa bR<|uu b d c) (bR<|(uu b d<|c+1)[c]'n) (an .u8 _) (j:=QW n) (aW:=by rw[<-r,<-Vp,bR,w];grind[Pk])<|jg ((c:J)-1)<|a0 c (cq:=⟨⟨p,p,(by exact ep (λx=>W<|V.int .u8 x) Kr),p,p,c1⟩,⟨p,c1⟩,p,p⟩)
 obtain rfl:f=0:=o;exact zP (pf b d) (hlen:=by rw[pf,wu]) (bS:=by simp[sG,avm,rQ,pf,wu])<|aA
def L6(g:Y)(b:X v)(c:J)(l:Q b<=900000)(k:-1000000<=c/\c<=1000000):bb 292 [a6 g,bV b,an aj c] (cn (ud g b c)):=by
 refine bx func292 [] λi j=>?_;let m:=az7 b;let n:=az_<|Co b 48;refine aS (f:=az8 b)<|aS ?_ (f:=aAa (Co b 48) o);apply e<;>intro d
 .exact dB bq (q:=by rw[cU,ud,ae d];rfl)
 refine bc<|jf<|dB bq (q:=by rw[cU,ud,ab d];rfl)
def Small(b:bT):Prop:=Q b.bM<=100000/\-100000<=b.exp/\b.exp<=100000
def ahI(b:bT)(c:J):Q (fQ b c)=Q b.bM+aB (b.exp-c):=by simp[fQ,ps]
def awy(b c:bT)(j:fL b)(k:fL c)(v:Small b)(w:Small c):bb 289 [cn b,cn c] (cn (BX b c)):=by
 refine bx func289 [] λx G=>?_;let⟨ch,y,z⟩:=v;let⟨A,B,C⟩:=w;let D:=j.2.1;let E:=k.2.1;obtain⟨F,he⟩:∃F,min b.exp c.exp=F:=⟨_,p⟩;let mA:=ahI b F;let I:=ahI c F;let r:=ON (F:=F) j.1;let s:=ON (F:=F) k.1;obtain⟨T,t⟩:∃T,max (Q (fQ b F)) (Q (fQ c F))=T:=⟨_,p⟩;let l:Q (fQ b F)<=T:=o;let m:Q (fQ c F)<=T:=o;let n:=FV l;let u:=FV m;let d:=FU (T:=T) r;let g:=FU (T:=T) s;let dI:BX b c=if b.neg=c.neg then ud b.neg (n5 (hF (fQ b F) T)<|hF (fQ c F) T) F else if gR (hF (fQ b F) T) (hF (fQ c F) T)=ad then ud b.neg (pf (hF (fQ b F) T)<|hF (fQ c F) T) F else ud c.neg (pf (hF (fQ c F) T)<|hF (fQ b F) T) F:=by unfold BX;dsimp only;rw[he,t]
 let en:Q (n5 (hF (fQ b F) T)<|hF (fQ c F) T)=T+1:=by rw[n5,wu,n]
 let eW:Q (pf (hF (fQ b F) T)<|hF (fQ c F) T)=T:=by rw[pf,wu,n]
 let K:Q (pf (hF (fQ c F) T)<|hF (fQ b F) T)=T:=by rw[pf,wu,u]
 refine pY F ?_;refine eg ?_;refine jg ((aB (b.exp-F):Z):J) ?_;refine cf ?_ (f:=U8 (aB<|b.exp-F) o);refine vz ?_ (q:=by grind[ps]);refine eg ?_;refine jg ((aB (c.exp-F):Z):J) ?_;refine cf ?_ (f:=U8 (aB<|c.exp-F) o);refine vz ?_ (q:=by grind[ps]);refine ID (T:J) ?_ (q:=by grind[max,fQ]);refine aS ?_ (f:=UC (fQ b F) T l o);refine aS ?_ (f:=UC (fQ c F) T m o);refine Nn ?_;apply e<;>intro i
 .refine eS ?_;refine br (λ_=>cf p (f:=af2 (hF (fQ b F) T) (hF (fQ c F) T) o d g o)) ?_;refine br (λ_=>cf p (f:=L6 b.neg (n5 (hF (fQ b F) T)<|hF (fQ c F) T) F o o)) ?_;refine fx ?_;refine fZ ?_;exact dB bq (q:=by rw[dI,ae i];rfl)
 apply e<;>intro H
 .refine eS ?_;refine br (λ_=>cf p (f:=ad3 (hF (fQ b F) T) (hF (fQ c F) T) o d g o)) ?_;refine br (λ_=>cf p (f:=L6 b.neg (pf (hF (fQ b F) T)<|hF (fQ c F) T) F o o)) ?_;refine fx ?_;refine fZ ?_;exact dB bq (q:=by rw[dI,ab i,ae ap];rfl)
 refine eS ?_;refine br (λ_=>cf p (f:=ad3 (hF (fQ c F) T) (hF (fQ b F) T) o g d o)) ?_;refine br (λ_=>cf p (f:=L6 c.neg (pf (hF (fQ c F) T)<|hF (fQ b F) T) F o o)) ?_;refine fx ?_;refine fZ ?_;exact dB bq (q:=by rw[dI,ab i,ab ap];rfl)
def ape{b c:bT}(d:fL b)(e:fL c)(g:Small b)(i:Small c):bb 249 [cn b,cn c] (cn (BX b c)):=by refine bx func249 [] λj k=>?_;refine aS ?_ (f:=awy b c d e g i);exact dB bq
def LW(b c:bT)(d:Small b)(e:Small c):bb 131 [cn b,cn c] (an aj (qE b c)):=by refine bx func131 [] λg k=>?_;let i:=d.2.1;let j:=e.2.1;refine aS ?_ (f:=awg b c ⟨dK d.1 o,o,Int.le_trans d.2.2 o⟩ ⟨dK e.1 o,o,Int.le_trans e.2.2 o⟩);exact aA
def awh(b:J):bb 293 [an aj b] (cn ⟨ad,[49],b⟩):=by refine bx func293 [] λc d=>?_;exact dB bq
def jq(b:bT)(c:J):X v:=if 0<(Q b.bM:J)-(c-b.exp) then ak (aB<|(Q b.bM:J)-(c-b.exp)) b.bM else[48]
def C8(b:bT)(c:J):bT:=if c<=b.exp\/b.bM=[48] then b
 else ud b.neg (if b.neg then n5 (jq b c) (hF [49] (Q<|jq b c)) else jq b c) c
def aaI{b:bT}(e:fL b)(d:J):gu (jq b d) fU:=by unfold jq;split;exact m9.2 λc f=>m9.1 e.1 c aY;rfl
def aaJ{b:bT}{F:J}(c:b.bM≠[]):1<=Q (jq b F)/\Q (jq b F)<=Q b.bM:=by grind[List.length_pos_iff,jq,List.length_take]
def ap0{b:bT}(e:fL b)(k:b.bM≠[48]){d:J}(s:b.exp<d):cu (jq b d)=cu b.bM/10^aB (d-b.exp)/\cu b.bM%10^aB (d-b.exp)≠0:=by
 let f:=e.Dv k;unfold jq;split;generalize hm:aB ((Q b.bM:J)-(d-b.exp))=c;let m:aB (d-b.exp)=Q (aU c b.bM):=by rw[B_];omega
 let g:gu (aU c b.bM) fU:=m9.2 λj r=>m9.1 e.1 j aY;let i:=xQ g;let q:cu b.bM=cu (ak c b.bM)*10^Q (aU c b.bM)+cu (aU c b.bM):=by
  conv=>lhs;rw[bG<|Ed c b.bM]
  rw[CM]
 rw[m];let n:0<cu (aU c b.bM):=by
  refine CN g ?_ ?_;unfold vi;let l:(aU c b.bM).getLast?=b.bM.getLast?:=by rw[List.getLast?_drop,ab o]
  rw[l];exact f.2.2;grind
 rw[q];refine⟨?_,?_⟩;rw[xl,PK _ _ o,WA i,kZ];grind[Nat.add_comm,Nat.add_mul_mod_self_right,Nat.mod_eq_of_lt];let i:=xQ e.1;let t:10^Q b.bM<=10^aB (d-b.exp):=qb o o;let n:=CN e.1 f.2.2 f.1;rw[WA o,xq o];refine⟨p,o⟩
def R_{y:bT}(f:fL y){F:J}(j:-30<=F):fL (C8 y F)/\bu (C8 y F)=bu y/(10^aB (F+30):Z)*(10^aB (F+30):Z):=by
 unfold C8;split;rename_i d;have G:((10^aB (F+30):Z):J) ∣ bu y:=by
  rcases d with d|d;have D:10^aB (F+30) ∣ g6 (bu y):=by rw[BH];exact Nat.dvd_trans (Nat.pow_dvd_pow 10 o)<|Nat.dvd_mul_left _ _
  grind[Int.ofNat_dvd_left];rw[f.wY.2 d]<;>simp_all
 grind[Int.ediv_mul_cancel];rename_i d;have d:=not_or.1 d;have t:y.exp<F:=o;let⟨m,I⟩:=ap0 f d.2 t;have l:=aaI f F;have x:=aaJ (F:=F) (f.Dv d.2).1;have C:=f.2.1;have v:10^aB (F+30)=10^aB (F-y.exp)*10^aB (y.exp+30):=by rw[<-qa];congr 1;omega
 have z:0<10^aB (y.exp+30):=pw o;have k:0<10^aB (F-y.exp):=pw o;cases u:y.neg with
 |false=>rw[ab aR];have:=H1 (neg:=ad) l j;rw[this.2,m];unfold bu oH;generalize 10^aB (y.exp+30)=e at*;simp_all|true=>
  rw[ae p];have pl:=FV (L:=[49]) (T:=Q<|jq y F) x.1;have A:=FU (L:=[49]) (T:=Q<|jq y F) aR;have w:=af1 (y:=jq y F) (R:=hF [49] (Q<|jq y F)) (bG pl) l A;have:=H1 (neg:=af) (exp:=F) (LC (Q (jq y F)+1)<|cu (jq y F)+cu (hF [49] (Q<|jq y F))) j;rw[<-n5,w,UB] at this;rw[this.2,m,show cu [49]=1 from p];unfold bu oH;rw[u,ae p,ae p,v];generalize 10^aB (y.exp+30)=e at*;generalize 10^aB (F-y.exp)=b at*;generalize cu y.bM=c at*;have B:-((c*e:Z):J)/((b*e:Z):J)=-((c/b+1:Z):J):=by
   have s:c=b*(c/b)+c%b:=bG<|xm c b;have H:=sJ c k;generalize c/b=g at*;generalize c%b=i at*;have n:(0:J)<((b*e:Z):J):=by have:=Ar k z;omega
   refine((Int.ediv_emod_unique n (r:=(((b-i)*e:Z):J)) (q:=-((g+1:Z):J))).2 ⟨?_,o,?_⟩).1;have E:c*e+(b-i)*e=(g+1)*(b*e):=by rw[<-iG,s,show b*g+i+(b-i)=b*(g+1) by grind,lV b,qU]
   grind
   (simp_all;omega)
  grind
structure mP where
 o:Y
 w:Y
 deriving DecidableEq,xv
def hZ(b:mP):V:=bH [a6 b.o,a6 b.w]
structure eZ where
 w:X bT
 on:X Y
 ie:X mP
def mv(b:eZ):V:=bH [.a 3 (aa cn b.w),.a 1<|aa a_ b.on,.a 2<|aa hZ b.ie]
def Pj(b:bT):Y:=aL<|0<=b.exp
def mP.has(b:mP)(c:bT):Y:=if Pj c then b.w else b.o
def aA7(b:bT):bb 184 [cn b] (a6 (Pj b)):=by refine bx func184 [] λc d=>?_;exact aA
def aa7(c:mP)(b:bT):bb 130 [hZ c,cn b] (a6 (c.has b)):=by
 refine bx func130 [] λg i=>?_;refine aS ?_ (f:=aA7 b);apply e<;>intro d
 .exact aA (q:=by rw[mP.has,ae d];rfl)
 exact aA (q:=by rw[mP.has,ab d];rfl)
def po(b:lY)(c:mP):Y:=!b.op&&c.has b.n
def ah7(d:lY)(i l g:mP)(e:X bT)(k:X Y)(b:X mP)(t:Q e<=1000)(u:Q k<=1000)(v:Q b<=1000)(w:0<Q b):dF 129 [EU d,hZ i,hZ l,c 6003,c 6004] [(6003,ag 71 (bH [.aq 5001 0 (Q (aa cn e)),.aq 5002 0 (Q (aa a_ k)),.aq 5003 0 (Q (aa hZ b))])),(5001,.h 3 26 (aa cn e)),(5002,.h 1 4 (aa a_ k)),(5003,.h 2 201 (aa hZ b)),(6004,ag 201 (hZ g))] (cs []) [(6003,ag 71 (bH [.aq 5001 0 (Q (aa cn (e++[d.n]))),.aq 5002 0 (Q (aa a_ (k++[po d g]))),.aq 5003 0 (Q (aa hZ (aK b (Q b-1) i++[l])))])),(5001,.h 3 26 (aa cn (e++[d.n]))),(5002,.h 1 4 (aa a_ (k++[po d g]))),(5003,.h 2 201 (aa hZ (aK b (Q b-1) i++[l]))),(6004,ag 201 (hZ g))]:=by
 refine dN func129 [] λx q r=>?_;have s:Q (aa hZ b)=Q b:=bg _;refine er ?_;refine e7 (aa cn<|e++[d.n]) ?_ (aW:=tw) (bQ:=a2);refine eS ?_;refine Ol (λm=>?_) λm=>?_
 focus refine br (λ_=>cf p (f:=aa7 g d.n)) ?_
 all_goals refine br (λ_=>lf p) ?_;refine lS 27 (aa a_<|k++[po d g]) ?_ (aW:=by rw[dn];simp at m;simp only[po,m];rfl) (bQ:=a2);refine fx ?_;refine kU [(27,5002)] ?_;refine jf ?_;refine cC (Q b-1) ?_;refine gN (aa hZ<|aK b (Q b-1) i) (hZ b[Q b-1]) (hZ i) ?_ (j:=hR o) (aW:=by rw[hW]);refine er ?_;refine e7 (aa hZ<|aK b (Q b-1) i++[l]) ?_ (aW:=tw) (bQ:=a2);exact cE
def wW:eZ:=⟨[],[],[⟨ad,ad⟩]⟩
def aeK:bb 83 [] (mv wW):=by refine bx func83 [] λb c=>?_;refine er<|hQ 3 0 [0]<|hQ 1 0 [1] ?_;exact dB bq
def au6:bb 251 [] (cn ⟨ad,[49],0⟩):=by refine bx func251 [] λb c=>?_;refine aS ?_ (f:=awh 0);exact dB bq
def NN:bT:=⟨ad,[49],0⟩
def afh:fL NN:=⟨aR,aR,bp ⟨aR,aR,by unfold vi;decide⟩⟩
def au5:Small NN:=⟨aR,aR,aR⟩
theorem au4:bu NN=bP:=aR
def xA(b:bT):bT:=BX (C8 b 0) NN
def akx:((10^aB ((0:J)+30):Z):J)=bP:=aR
def KX{b:bT}(g:fL b):fL (xA b)/\bu (xA b)=eh (bu b)+bP:=by let⟨c,d⟩:=R_ (F:=0) g aR;let⟨e,f⟩:=azH c afh;refine⟨e,?_⟩;rw[xA,f,d,au4,akx];rfl
def sU(c:Z)(b:bT):Prop:=Q b.bM<=c/\-30<=b.exp/\b.exp<=c
def sU.small{c:bT}(b:sU P c)(d:P<=100000):Small c:=⟨dK b.1 d,by have:=b.2.1;omega,by have:=b.2.2;omega⟩
def Vs{b:bT}(c:kk b=0):sU 30 b:=by let⟨d,e,f,g,i⟩:=IR c;trivial
def ahR{b:bT}(d:fL b)(j:g6 (bu b)<10^P):sU (P+1) b:=by
 rcases yL (b.bM=[48]) with e|e;let c:b.exp=0:=by rcases d.2.2 with c|c;omega;simp_all
 refine⟨ap,o,o⟩;let c:=(Qe d e).1;let f:=d.2.1;let i:aB (Q b.bM+b.exp+29)<P:=by apply Ch;intro g;have:=qb (show 0<10 by decide) g;omega
 exact⟨o,f,o⟩
def Xa{b:bT}(d:fL b)(c:sU P b):g6 (bu b)<10^(2*P+30):=by rw[BH];let e:=xQ d.1;let f:10^Q b.bM<=10^P:=qb aR c.1;rw[show 2*P+30=P+(P+30) by omega,qa];exact kv (PS o aY)<|GP _<|qb aR (by have:=c.2.2;omega)
def ap1{b:bT}(c:fL b)(e:sU P b):sU (2*P+64) (C8 b 0):=by let⟨d,f⟩:=R_ (F:=0) c aR;refine ahR d ?_;let g:=Xa c e;grind[bP,bu]
def akO{T:bT}(d:fL T)(m:sU 30 T):bb 186 [cn T] (cn (xA T)):=by
 refine bx func186 [] λx B=>?_;refine aS (f:=(by
  refine bx func250 [26,32] λw C=>?_;let⟨ch,y,A⟩:=m.small aR;refine eA ?_;apply e<;>intro i
  .exact dB bq (q:=by rw[cU,C8,ae i];rfl)
  let n:=not_or.1 i;let r:=(d.Dv n.2).1;let k:=aaJ (F:=0) r;let t:=aaI d 0;let pl:=FV (L:=[49]) (T:=Q<|jq T 0) k.1;let u:=FU (L:=[49]) (T:=Q<|jq T 0) aR;let E:Q (n5 (jq T 0)<|hF [49] (Q<|jq T 0))=Q (jq T 0)+1:=by rw[n5,wu]
  refine gf (X v) (λg=>⟨[(1,an aj 0),(2,c 2),(4,c 4),(5,bV g)],[(2,ag 26<|cn T),(4,ag 26<|V.zero SC.z)],[]⟩) (λg=>g=jq T 0) ?_ λg l=>?_
  .refine jf ?_;refine jf ?_;apply e<;>intro D
   .exact auk 0 (aB<|(Q T.bM:J)-(0-T.exp))<|cA (ak (aB<|(Q T.bM:J)-(0-T.exp)) T.bM) (by rw[jq,ae o])
   exact cA [48] (by rw[jq,ab o])
  refine gf (X v) (λb=>⟨[(1,an aj 0),(2,c 2),(4,c 4),(5,bV b)],[(2,ag 26<|cn T),(4,ag 26<|V.zero SC.z)],[]⟩) (λb=>b=if T.neg then n5 (jq T 0) (hF [49] (Q<|jq T 0)) else jq T 0) ?_ λb s=>?_
  .apply e<;>intro j
   .subst l;refine aS (f:=UC [49] (Q<|jq T 0) k.1 o)<|aS (f:=af2 (jq T 0) (hF [49] (Q<|jq T 0)) o t u o)<|cA (n5 (jq T 0)<|hF [49] (Q<|jq T 0))<|bG<|ae j
   subst l;exact cA (jq T 0)<|bG<|ab j
  refine aS ?_ (f:=L6 T.neg b 0 aY o);exact dB bq (q:=by rw[cU,C8,ab i,<-s];rfl)))<|aS (f:=au6)<|aS ?_ (f:=ape (R_ d aR).1 afh ((ap1 d m).small aR) au5)
 exact dB bq
def iU(b:gb):mP:=⟨!b.dz,af⟩
def oF:mP:=⟨ad,ad⟩
def sq(b:gb):J:=if b.low.has/\b.high.has then qE b.low.n b.high.n else-1
def i5(b:gb):eZ:=if b.low.has then⟨[b.low.n],[po b.low (iU b)],[oF,iU b]⟩ else⟨[],[],[iU b]⟩
def mf(b:gb):eZ:=if 0<sq b then wW
 else if sq b=0 then⟨[b.low.n],[po b.low (iU b)&&!b.high.op],[oF,oF]⟩
 else if b.high.has then⟨(i5 b).w++[b.high.n],(i5 b).on++[po b.high (iU b)],(i5 b).ie.set ((i5 b).ie.length-1) (iU b)++[oF]⟩
 else i5 b
def ath(b:gb):(i5 b).w.length<=1/\(i5 b).on.length=(i5 b).w.length/\(i5 b).ie.length=(i5 b).w.length+1:=by unfold i5;split<;>simp
theorem afj{b:gb}(d:sq b=0):b.low.has/\b.high.has/\i5 b=⟨[b.low.n],[po b.low (iU b)],[oF,iU b]⟩:=by unfold sq at d;split at d;rename_i c;exact⟨c.1,c.2,by rw[i5,ae c.1]⟩;cases d
def aik(b:gb)(v:Small b.low.n)(x:Small b.high.n):bb 81 [s2 b] (mv (mf b)):=by
 refine bx func81 [23,2010,38] λA D=>?_;refine pW ?_;refine gf J (λg=>⟨[(1,c 1),(2,c 2),(3,c 3),(4,c 4),(5,e4 (dp 129) [] [c 4,c 3]),(6,an aj g)],[(1,ag 138<|s2 b),(2,ag 71<|V.zero Bl.z),(3,ag 201<|hZ<|iU b),(4,ag 71<|bH [.ba,.ba,.aq 13 0 1]),(13,.h 2 201 [hZ (iU b)])],[]⟩) (λg=>g=sq b) ?_ λg i=>?_
 .refine fk ?_;apply e<;>intro m
  .refine aS ?_ (f:=LW b.low.n b.high.n v x);exact cA (qE b.low.n b.high.n) (by rw[sq,ae m])
  exact cA (-1) (by rw[sq,ab m])
 apply e<;>intro k
 .refine aS ?_ (f:=aeK);exact dB bq (q:=by rw[cU,mf,<-i,ae k];rfl)
 refine gf kc (λy=>⟨[(1,c 1),(2,c 2),(3,c 3),(4,c 4),(5,e4 (dp 129) [] [c 4,c 3]),(7,a6<|aL<|g=0)],[(1,ag 138<|s2 b),(2,ag 71<|V.zero Bl.z),(3,ag 201<|hZ<|iU b),(4,ag 71<|bH [.aq 1100 0 (Q<|(i5 b).w.map cn),.aq 1101 0<|Q<|(i5 b).on.map a_,.aq 13 0<|Q<|(i5 b).ie.map hZ]),(13,.h 2 201<|(i5 b).ie.map hZ),(1100,.h 3 26<|(i5 b).w.map cn),(1101,.h 1 4<|(i5 b).on.map a_)],[]⟩) (λ_=>dW) ?_ λy F=>?_
 .refine aZ.eQ 1100 3 26 [] (W (4,0)) ?_;refine aZ.eQ 1101 1 4 [] (W (4,1)) ?_;refine dM ?_;apply e<;>intro r
  .have l:i5 b=⟨[b.low.n],[po b.low (iU b)],[oF,iU b]⟩:=by rw[i5,ae r]
   rw[l];refine bI [(6003,4),(6004,3),(5001,1100),(5002,1101),(5003,13)] ?_ (f:=ah7 b.low oF (iU b) (iU b) [] [] [iU b] av av av av);exact cA ()
  have l:i5 b=⟨[],[],[iU b]⟩:=by rw[i5,ab r]
  rw[l];exact cA ()
 have E:=ath b;apply e<;>intro d
 .have d:g=0:=by simpa using d
  obtain⟨B,C,u⟩:=afj<|i▸d;rw[u];refine eS ?_;refine br (λ_=>cC 0 p (j:=av)) ?_;refine br (λ_=>e9 (a_<|po b.low<|iU b) p) ?_;refine Ol (λt=>?_) λt=>?_
  all_goals refine br (λ_=>cC 0 p (j:=av)) ?_;refine uJ (aa a_ [po b.low (iU b)&&!b.high.op]) (a_<|po b.low<|iU b) _ ?_ (aW:=by simp only[t];rfl);refine fZ ?_;refine cC 1 ?_ (j:=av);refine gN (aa hZ [oF,oF]) (hZ<|iU b) (hZ oF) ?_;refine ib 1100 ?_;refine ib 1101 ?_;refine ib 13 ?_;exact dB bq (q:=by rw[cU,mf,<-i,ab k,ae d];rfl)
 apply e<;>intro s
 .refine bI [(6003,4),(6004,3),(5001,1100),(5002,1101),(5003,13)] ?_ (f:=ah7 b.high (iU b) oF (iU b) (i5 b).w (i5 b).on (i5 b).ie o o o o);refine ib 1100 ?_;refine ib 1101 ?_;refine ib 13 ?_;exact dB bq (q:=by rw[cU,mf,<-i,ab k,ab (by simpa using d),ae s];rfl)
 refine ib 1100 ?_;refine ib 1101 ?_;refine ib 13 ?_;exact dB bq (q:=by rw[cU,mf,<-i,ab k,ab (by simpa using d),ab s];rfl)
def arm{b:X Y}(f:P<Q b)(e:b[P])(g:∀d,d<P->b[d]?≠W af):(if nb b af then((iw af b:Z):J) else-1)=(P:J):=by
 have hm:nb b af:=by rw[Pv];exact e▸fK f
 rw[ae hm];congr 1;have i:iw af b<Q b:=vU ap;rcases GO (iw af b) P with c|c|c;grind;exact c;have:=List.not_of_lt_findIdx c;simp_all
def aro{b:X Y}(d:∀c,c<Q b->b[c]?≠W af):(if nb b af then((iw af b:Z):J) else-1)=-1:=by grind[List.mem_iff_getElem?,List.getElem?_eq_some_iff]
def art(c:X Y)(s:Q c<=1000000):bb 187 [.a 1 (aa a_ c),a6 af] (an aj (if nb c af then(iw af c:Z) else-1)):=by
 refine bx func187 [] λl m=>?_;refine i0 (Q c) (λb=>∀d,d<b->c[d]?≠W af) (λb=>⟨[(0,_),(1,_),(7,_),(8,k b)],[],[]⟩) (λb j=>?_) (cq:=.r);apply e<;>intro n
 .let g:b<Q c:=o;refine bi b (a_ c[b]) ?_ (j:=ap);refine Nn ?_;apply e<;>intro f
  .exact aA (q:=by rw[arm g (bG f) j.2];rfl)
  refine bc ?_;exact a0 (b+1) ⟨o,λd i=>by grind⟩
 exact aA (q:=by rw[aro λd i=>j.2 d o];rfl)
def aol(b:X Y)(c:Q b<=1000000):bb 133 [.a 1 (aa a_ b),a6 af] (a6 (nb b af)):=by refine bx func133 [] λd e=>?_;refine aS ?_ (f:=art b c);exact aA (q:=by show V.bool _=_;congr 1;grind)
def y4(b:X bT):Prop:=(∀e∈b,fL e/\Small e)/\∀c d(j:c<Q b)(f:d<Q b),c<d->bu b[c]<bu b[d]
def low(b:X bT)(c:bT):Z:=b.countP λd=>aL<|bu d<bu c
def Bj(b:X bT)(c:bT):Y:=b.any λd=>aL<|bu d=bu c
def adr{c:X bT}{d:bT}(m:P<=Q c)(l:∀b(f:b<Q c),b<P->bu c[b]<bu d)(i:∀b(f:b<Q c),P<=b->bu d<=bu c[b]):low c d=P:=by
 unfold low;let k:=bG<|Ed P c;let ch:(ak P c).countP (λe=>aL<|bu e<bu d)=Q (ak P c):=by rw[Kc];intro e g;obtain⟨b,f,rfl⟩:=PG.1 g;exact sL aY
 let j:(aU P c).countP (λe=>aL<|bu e<bu d)=0:=by rw[Pw];intro e g;obtain⟨b,f,rfl⟩:=ajV.1 g;have:=i (P+b) o o;simp;omega
 grind
def aqU{c:X bT}{e:bT}(g:y4 c)(l:P<=Q c)(j:∀b(f:b<Q c),b<P->bu c[b]<bu e)(k:∀b(f:b<Q c),P<=b->bu e<=bu c[b]):Bj c e=if d:P<Q c then aL (bu c[P]=bu e) else ad:=by unfold Bj;rw[lT,uL];constructor;rintro⟨n,i,he⟩;obtain⟨b,f,rfl⟩:=lU.1 i;let m:P<=b:=Kn λd=>aY;rcases fF P b with d|d;have:=g.2 P b o f d;grind;grind;grind
theorem OM{b:J}:fm b<0↔b<0:=ahH
def amm{d:X bT}(l:bT)(s:y4 d)(D:fL l)(E:Small l)(R:Q d<=1000000):bb 221 [.a 3 (aa cn d),cn l,e4 (dp 131) [] []] (cs [k (low d l),a6 (Bj d l)]):=by
 refine bx func221 [] λM N=>?_;refine dv (Z×Z) (λm=>⟨[(0,_),(2,_),(4,c 4),(8,_),(9,k m.1),(10,k m.2)],[(4,_)],[]⟩) (λm=>m.1<=m.2/\m.2<=Q d/\(∀i(n:i<Q d),i<m.1->bu d[i]<bu l)/\∀i(n:i<Q d),m.2<=i->bu l<=bu d[i]) (λm=>m.2-m.1) (0,Q d) (λ⟨b,g⟩ aH=>?_) ⟨dO _,bz _,λi n q=>o,λi n q=>o⟩ ⟨⟨p,p,p,p,p,(by show W (V.int aj (Q (aa cn d):J))=W (V.int aj (Q d:J));simp),c1⟩,⟨p,c1⟩,p,p⟩;dsimp only at aH⊢;let⟨P,C,A,B⟩:=aH;apply e<;>intro O
 .let v:(b+g)/2<Q d:=o;let t:=s.1 _<|fK v;refine e6 ((b+g:Z):J) ?_;refine lg ((b+g:Z):J) ?_;refine IH (((b+g)/2:Z):J) ?_ (q:=by show((b+g:Z):J).fdiv 2=_;grind);refine lg (((b+g)/2:Z):J) ?_;refine eg ?_;refine bi ((b+g)/2) (cn d[(b+g)/2]) ?_ (j:=hR v);refine cf ?_ (f:=by have:=LW d[(b+g)/2] l t.2 E;rw[FR t.1 D] at this;exact this);apply e<;>intro G
  .refine bc ?_;exact a0 ((b+g)/2+1,g) ⟨o,o,λi n q=>by dsimp only at q;rcases fF i ((b+g)/2) with w|w;have:=s.2 i ((b+g)/2) n v w;grind[OM];grind[OM],λi n q=>ap⟩ o .r
  exact a0 (b,(b+g)/2) ⟨o,o,λi n q=>ap,λi n q=>by dsimp only at q;let w:¬bu d[(b+g)/2]-bu l<0:=λq=>G<|OM.2 q;rcases fF ((b+g)/2) i with y|y;have:=s.2 ((b+g)/2) i v n y;omega;grind⟩ o .r
 obtain rfl:b=g:=o;let L:=adr C A B;let K:=aqU s C A B;refine eg ?_;apply c9;intro H;let u:b<Q d:=by simpa using H
 let t:=s.1 _<|fK u;let I:z d b ai=d[b]:=by rw[dm,cm u];rfl
 refine gx b (cn<|z d b ai) ?_ (j:=gD u);refine cf ?_ (x:=an aj<|fm<|bu (z d b ai)-bu l) (f:=by have:=LW d[b] l t.2 E;rw[FR t.1 D] at this;rw[I];trivial);exact p;exact aA (q:=by rw[L,K];refine ep (λF=>V.tuple [an aj (b:J),a6 F]) ?_;rw[bg];by_cases u:b<Q d;grind[z7];grind)
def av7(c:eZ)(b:bT)(i:y4 c.w)(e:fL b)(g:Small b)(d:Q c.w<=1000000):bb 156 [mv c,cn b] (cs [k (low c.w b),a6 (Bj c.w b)]):=by refine bx func156 [] λj l=>?_;refine aS ?_ (f:=amm b i e g d);exact aA
def eZ.ok(b:eZ):Prop:=y4 b.w/\(∀c∈b.w,sU 30 c)/\Q b.on=Q b.w/\Q b.ie=Q b.w+1/\Q b.w<=100000
def eZ.has(b:eZ)(c:bT):Y:=if Bj b.w c then z b.on (low b.w c) ad else(z b.ie (low b.w c) ai).has c
def ati(b:X bT)(c:bT):low b c<=Q b:=B8
def atj{b:X bT}{c:bT}(e:Bj b c):low b c<Q b:=by let⟨g,f,he⟩:=uL.1 e;unfold low;refine aj9 B8 λd=>?_;rw[Kc] at d<;>grind
def Uc(b:eZ)(c:bT)(l:b.ok)(g:fL c)(i:Small c):bb 100 [mv b,cn c] (a6 (b.has c)):=by
 refine bx func100 [] λm n=>?_;let⟨k,x,v,r,s⟩:=l;let t:=ati b.w c;refine aS ?_ (f:=av7 b c k g i o);apply e<;>intro d
 .let u:=atj d;refine bi (low b.w c) (a_<|z b.on (low b.w c) ad) ?_ (j:=ap);exact aA (q:=by rw[eZ.has,ae d];rfl)
 refine eg<|bi (low b.w c) (hZ<|z b.ie (low b.w c) ai) ?_ (j:=gD o);refine cf ?_ (f:=aa7 (z b.ie (low b.w c) ai) c);exact aA (q:=by rw[eZ.has,ab d];rfl)
def eZ.JT(c:eZ)(b:Z):Y:=if b=0\/b=Q c.w then af else aL (bu (xA<|z c.w (b-1) ai)<bu (z c.w b ai))
def akP{c:bT}(d:fL c)(j:sU 30 c):Small (xA c):=by
 let⟨e,f⟩:=KX d;let k:=Xa d j;let g:g6 (bu<|xA c)<10^93:=by rw[f];unfold eh;let i:=Int.mul_ediv_add_emod (bu c) bP;let l:=Int.emod_nonneg (bu c) (b:=bP) aR;let m:=ajJ (bu c) (b:=bP) aR;rw[Pt] at i;let n:(bP:J)=1000000000000000000000000000000:=aR;let q:10^(2*30+30)=1000000000000000000000000000000000000000000000000000000000000000000000000000000000000000000:=aR;let r:10^93=1000000000000000000000000000000000000000000000000000000000000000000000000000000000000000000000:=aR;omega
 exact(ahR e g).small aR
def eZ.x6(c:eZ)(b:Z):Y:=(z c.ie b ai).o||(z c.ie b ai).w&&c.JT b
def eZ.empty(b:eZ):Y:=if∃c,c<Q b.ie/\b.x6 c then ad else ! nb b.on af
def Ny{d:eZ}(cq:d.ok):bb 82 [mv d] (a6 d.empty):=by
 refine bx func82 [] λD F=>?_;let I:=cq.2.2.2.1;let P:=cq.2.2.2.2;let U:=cq.2.2.1;refine i0 (Q d.ie) (λb=>∀g,g<b->d.x6 g≠af) (λb=>⟨[(1,c 1),(6,_),(7,_),(8,k b)],[(1,_)],[]⟩) (λb j=>?_) (λg q=>o) .r;apply e<;>intro H
 .let t:b<Q d.ie:=o;refine bi b (hZ<|z d.ie b ai) ?_ (j:=gD t);apply ev;intro K;apply c9;refineλL=>cf (x:=a6<|d.JT b) (f:=(by
    let N:=o;refine bx func132 [] λC G=>?_;let⟨u,B,T,M,R⟩:=cq;let S:Q (aa cn d.w)=Q d.w:=bg _;refine eg<|eA ?_;apply ev;intro J;let l:z d.w (b-1) ai=d.w[b-1]:=by rw[dm,cm o];rfl
    let y:z d.w b ai=d.w[b]:=by rw[dm,cm o];rfl
    let i:=u.1 _<|fK<|show b-1<Q d.w by omega
    let m:=u.1 _<|fK<|show b<Q d.w by omega
    let n:=B _<|fK<|show b-1<Q d.w by omega
    let v:=KX i.1;refine jf ?_;refine gx (b-1) (cn<|z d.w (b-1) ai) ?_ (j:=gD o);refine cf (x:=cn<|xA<|z d.w (b-1) ai) (f:=by rw[l];exact akO i.1 n)<|gx b (cn<|z d.w b ai) ?_ (j:=gD o);exact cf (x:=an aj<|fm<|bu (xA<|z d.w (b-1) ai)-bu (z d.w b ai)) (f:=by have:=LW (xA d.w[b-1]) d.w[b] (akP i.1 n) m.2;rw[FR v.1 m.1] at this;rw[l,y];trivial)<|p;exact aA (q:=by
     refine ep V.bool ?_;unfold eZ.JT;by_cases E:b=0\/b=Q d.w
     (simp_all;omega)
     grind[OM])))<|p
  exact p;apply e<;>intro s
  .let A:d.x6 b:=by unfold eZ.x6;simpa using s
   exact aA (q:=by rw[eZ.empty,ae ⟨b,t,A⟩];rfl)
  let X:d.x6 b≠af:=by unfold eZ.x6;simpa using s
  refine bc ?_;exact a0 (b+1) ⟨o,λg O=>by grind⟩ (cq:=.r)
 refine aS ?_ (f:=aol d.on o);exact aA (q:=by rw[eZ.empty,ab];rfl;grind)
def au9(b c:Y):bb 85 [a6 b,a6 c] (a6 (b||c)):=by refine bx func85 [] λd e=>?_;refine eA ?_;exact aA
def aqE(b:Z)(j:0<b)(i:b<=1000000):dF 188 [.ba,an aj (b:J)] [] (.aq 22 0 0) [(22,.h 3 26 [])]:=by
 refine dN func188 [] λk c d=>?_;apply e<;>intro g
 .omega
 refine T3<|jf ?_;refine jg b ?_;apply e<;>intro f
 .refine T3<|auh<|atZ b 0 [] ?_;exact BD 0 0 0 0<|cE
 omega
def LP(b:X bT):V:=.a 3<|aa cn b
def aaH{b:X (X bT)}(c:P<Q b):jj (ak (P+1) b)=jj (ak P b)++b[P]:=by grind[List.take_succ_eq_append_getElem,List.flatten_append]
def aaD(b:X (X bT))(c:Z):(ak c b).flatten.length<=Q (jj b):=by grind[List.take_append_drop,List.flatten_append,List.length_append]
def aoh(b:X (X bT))(n:0<Q (jj b))(bQ:Q (jj b)<=1000000)(z:Q b<=1000000):dF 134 [.a 1 (aa LP b)] [] (.aq 24 0 (Q (aa cn (jj b)))) [(24,.h 3 26 (aa cn (jj b)))]:=by
 refine dN func134 [] λE t v=>?_;refine eC (Q b) (λd=>⟨[(0,_),(3,k (ak d b).flatten.length),(9,_),(10,_),(11,k d)],[],[]⟩) (λd j=>?_) .r;apply e<;>intro w
 .let l:d<Q b:=o;let s:=aaD b<|d+1;let g:=aaH l;let i:=ep Q g;rw[cX] at i;let A:Q (aa cn b[d])=Q b[d]:=bg _;refine bi d (LP b[d]) ?_ (j:=hR l);refine e6 (((ak (d+1) b).flatten.length:Z):J) ?_;apply e<;>intro x
  .omega
  refine bc ?_;exact a0 (d+1) (cq:=.r)
 obtain rfl:d=Q b:=o;rw[g5];refine bI [(22,24)] ?_ (f:=aqE (Q<|jj b) n bQ);refine eC (Q b) (λc=>⟨[(25,_),(26,_),(27,k c),(6,.aq 24 0<|Q<|(ak c b).flatten.map cn)],[(24,.h 3 26<|(ak c b).flatten.map cn)],[]⟩) (λc C=>?_) .r;apply e<;>intro y
 .let m:c<Q b:=o;let s:=aaD b<|c+1;let g:=aaH m;let i:=ep Q g;let B:Q ((ak (c+1) b).flatten.map cn)=(ak (c+1) b).flatten.length:=bg _;refine bi c (LP b[c]) ?_ (j:=hR m);refine e7 ((ak (c+1) b).flatten.map cn) (hl:=.a p p p p (λu q=>by obtain⟨D,_,rfl⟩:=cV.1 q;rfl)) (aW:=ap) (bQ:=o)<|bc ?_;exact a0 (c+1) (cq:=.r)
 obtain rfl:c=Q b:=o;rw[g5];exact cE
def aaG{b:X (X bT)}(d:jj b=[])(c:P<Q b):b[P]=[]:=by grind[List.flatten_eq_nil_iff,List.getElem_mem]
def aog(b:X (X bT))(g:jj b=[])(z:Q b<=1000000):bb 134 [.a 1 (aa LP b)] .ba:=by
 refine bx func134 [] λn s=>?_;refine eC (Q b) (λc=>⟨[(0,_),(3,an aj 0),(9,_),(10,_),(11,k c)],[],[]⟩) (λc j=>?_) .r;apply e<;>intro u
 .let i:c<Q b:=o;refine bi c (.a 3 []) ?_ (j:=by rw[c4,cm i,aaG g i];rfl);refine e6 0 ?_ (q:=p);apply e<;>intro w
  .omega
  refine bc ?_;exact a0 (c+1) (cq:=.r)
 refine aS (f:=(by
    refine bx func188 [] λm t=>?_;apply e<;>intro y
    .omega
    refine T3<|jf ?_;refine jg 0 ?_;apply e<;>intro v
    .omega
    exact aA))<|eC (Q b) (λd=>⟨[(6,.ba),(25,_),(26,_),(27,k d)],[],[]⟩) (λd A=>?_) .r
 apply e<;>intro x
 .let l:d<Q b:=o;refine bi d (.a 3 []) ?_ (j:=by rw[c4,cm l,aaG g l];rfl);refine atX<|bc ?_;exact a0 (d+1) (cq:=.r)
 exact aA
def fM(c:X bT):Z->X bT|0=>[]|b+1=>if b≠0/\z c b ai=z c (b-1) ai then fM c b else fM c b++[z c b ai]
theorem YY(b:X bT)(c:Z):Q (fM b (c+1))<=Q (fM b c)+1:=by grind[fM]
def YW(c:X bT):∀b,Q (fM c b)<=b|0=>by simp[fM]|b+1=>by have:=YW c b;grind[YY]
def YX(d:X bT)(c:Z):∀b,Q (fM d (c+b))<=Q (fM d c)+b|0=>av|b+1=>by have:=YX d c b;grind[YY,Nat.add_assoc]
def Lv{d:X bT}:∀(b:Z),b<=Q d->(∀c,c<b->c≠0->z d c ai≠z d (c-1) ai)->fM d b=ak b d|0,_,_=>a3|b+1,i,f=>by rw[fM,ab λe=>f b o e.1 e.2,Lv b o λc g=>f c o,Ee o,dm,cm _];rfl
def aBT{b c:X bT}(d:Q b<=P):(b++aU (Q b) c)[P]?=c[P]?:=by grind
def atM{b c:X bT}{d:bT}(e:Q b<Q c):aK (b++aU (Q b) c) (Q b) d=b++[d]++aU (Q (b++[d])) c:=by rw[An _ _ o,oT,pt e,GM,fJ,cX];rfl
def atL{b c:X bT}(d:Q b<=Q c):Q (b++aU (Q b) c)=Q c:=ap
def Bh{b:X bT}(c:P<Q b):z b P ai=b[P]:=ap
def F8(b c:bT):yY b5 26 [a6 b.neg,bV b.bM,an aj b.exp] [a6 c.neg,bV c.bM,an aj c.exp] (aL (b=c)):=by have d:=agn b.neg b.bM c.neg c.bM (l:=b.exp) (tR:=c.exp);have g:aL (b.neg=c.neg/\b.bM=c.bM/\b.exp=c.exp)=aL (b=c):=qW.2 ⟨λ⟨e,f,l⟩=>by cases b<;>simp_all,λd=>ap⟩;simp_all
def aob(b:X bT)(t:Z)(P:Q b<=1000000)(C:t=Q (aa cn b)):dF 136 [.aq 5001 0 t] [(5001,.h 3 26 (aa cn b))] (.aq 5001 0 (Q (aa cn (fM b (Q b))))) [(5001,.h 3 26 (aa cn (fM b (Q b))))]:=by
 subst C;refine dN func136 [] λal G K=>?_;have R:Q (aa cn b)=Q b:=bg _;apply e<;>intro N
 .have m:fM b (Q b)=b:=by rw[Lv (Q b) (bz _) λg n l=>o,g5]
  rw[m];exact cE
 refine dv Z (λc=>⟨[(0,.aq 5001 0<|Q<|aa cn b),(3,k c)],[(5001,.h 3 26<|aa cn b)],[]⟩) (λc=>1<=c/\c<=Q b/\∀g,g<c->g≠0->z b g ai≠z b (g-1) ai) (λc=>Q b-c) 1 (λc ⟨O,y,q⟩=>?_) ⟨o,o,λg n l=>o⟩;apply e<;>intro L
 .have A:c<Q b:=o;refine eg ?_;refine cC c ?_;refine e9 (cn<|z b c ai) ?_ (j:=gD A);refine jf ?_;refine cC (c-1) ?_;refine e9 (cn<|z b (c-1) ai) ?_ (j:=gD o);refine Nk (F8 (z b c ai)<|z b (c-1) ai) ?_;apply e<;>intro u
  .have F:fM b (c+1)=fM b c:=by rw[fM,ae ⟨o,u⟩]
   have w:fM b c=ak c b:=Lv c y q;have x:Q (fM b c)=c:=by rw[w,mK];omega
   refine BD c (Q b) c (Q b-c) ?_;refine dv (Z×Z×X V) (λf=>⟨[(0,.aq 5001 0<|Q<|aa cn b),(3,k f.2.1),(4,.aq 5001 c<|Q b-c),(5,k f.1)],[(5001,.h 3 26 f.2.2)],[]⟩) (λf=>1<=f.1/\c+f.1<=Q b/\f.2.1=Q (fM b<|c+f.1)/\f.2.2=aa cn (fM b (c+f.1)++aU (Q<|fM b<|c+f.1) b)) (λf=>Q b-f.1) (1,c,aa cn b) (λ⟨d,U,Y⟩ aH=>?_) ⟨bz _,o,ap,ap⟩;dsimp only at aH⊢;obtain⟨S,T,rfl,rfl⟩:=aH;have r:=YX b (c+1)<|d-1;rw[F,x,show c+1+(d-1)=c+d by omega] at r;have B:Q (aa cn (fM b (c+d)++aU (Q (fM b (c+d))) b))=Q b:=by rw[bg,atL o]
   apply e<;>intro M
   .have s:c+d<Q b:=o;have get:∀i,Q (fM b (c+d))<=i->i<Q b->(aa cn (fM b (c+d)++aU (Q (fM b (c+d))) b))[i]?=W (cn (z b i ai)):=λi I J=>by simp_all
    refine eg ?_;refine T4 d ?_;refine e9 (cn<|z b (c+d) ai) ?_ (j:=get _ o s);refine jf ?_;refine T4 (d-1) ?_;refine e9 (cn<|z b (c+(d-1)) ai) ?_ (j:=get _ o o);refine T1 (F8 (z b (c+d) ai)<|z b (c+(d-1)) ai) ?_;apply e<;>intro v
    .have D:fM b (c+d+1)=fM b (c+d)++[z b (c+d) ai]:=by rw[fM,ab λH=>v (by rw[show c+(d-1)=c+d-1 by omega]<;>grind)]
     refine T4 d ?_;refine e9 (cn<|z b (c+d) ai) ?_ (j:=get _ o s);refine cC (Q<|fM b<|c+d) ?_;refine gN (aa cn<|fM b (c+d)++[z b (c+d) ai]++aU (Q<|fM b (c+d)++[z b (c+d) ai]) b) (cn<|z b (Q<|fM b<|c+d) ai) (cn<|z b (c+d) ai) ?_ (j:=get _ (bz _) o) (aW:=by rw[<-hW,atM o]);refine bc ?_;refine bc ?_;exact a0 (d+1,Q (fM b<|c+d)+1,aa cn<|fM b (c+d)++[z b (c+d) ai]++aU (Q<|fM b (c+d)++[z b (c+d) ai]) b) ⟨o,o,aY,aY⟩ o
    have D:fM b (c+d+1)=fM b (c+d):=by rw[fM,ae ⟨o,by rw[show c+d-1=c+(d-1) by omega]<;>simp_all⟩]
    refine bc ?_;exact a0 (d+1,Q<|fM b<|c+d,aa cn<|fM b (c+d)++aU (Q<|fM b<|c+d) b) ⟨o,o,aY,aY⟩ o
   obtain E:c+d=Q b:=o;rw[E] at r B⊢;refine BD (Q<|fM b<|Q b) (Q b) (Q<|fM b<|Q b) (Q b-Q (fM b<|Q b)) ?_;refine aek (aa cn<|fM b<|Q b) ?_ (aW:=av);refine BD 0 (Q<|fM b<|Q b) 0 (Q<|aa cn<|fM b<|Q b) ?_ (Sw:=av);exact cE
  refine bc ?_;exact a0 (c+1) ⟨o,o,λg n l=>by grind⟩
 have m:fM b (Q b)=b:=by rw[Lv (Q b) (bz _) λg n l=>q g o l,g5]
 rw[m];exact cE
structure dq where
 name:X v
 shape:J
 g_:Y
 deriving xv
def dj(b:dq):V:=bH [bV b.name,an aj b.shape,a6 b.g_]
structure cZ where
 null:Y
 eR:J
 cd:X gb
 eP:Y
 fq:X v
 cJ:Y
 dH:X J
 item:J
 min:J
 max:J
 du:Y
 a8:X dq
 rest:J
def i3(b:cZ):V:=bH [a6 b.null,an aj b.eR,.a 11<|aa s2 b.cd,a6 b.eP,bV b.fq,a6 b.cJ,.a 1<|aa c7 b.dH,an aj b.item,an aj b.min,an aj b.max,a6 b.du,.a 3<|aa dj b.a8,an aj b.rest]
def nk(b:lY):J:=if b.has then kk b.n else if b.op\/b.n≠⟨ad,[],0⟩ then 2 else 0
def kG(c b:J):Y:=aL (b<0)||aL (c<=b)
def ld(b:cZ)(c:J):J:=if b.cJ=ad then(if((0<Q b.dH\/b.item≠0)\/b.min≠0)\/b.max≠0 then 2 else 0)
 else if 10<Q b.dH then 3 else if b.dH.any (kG c) then 9
 else if((b.item≠-1/\kG c b.item\/b.min<0)\/1000<b.min)\/b.max≠-1/\(b.max<b.min\/1000<b.max) then 9 else 0
def ame(b:lY):((b.op=af\/¬b.n.bM=[])\/b.n.neg)\/¬b.n.exp=0↔b.op\/b.n≠⟨ad,[],0⟩:=by let⟨e,g,⟨f,c,d⟩⟩:=b<;>grind
def aBC{b:X J}(c:P<Q b):z b P ai=b[P]:=ap
def Bo(c:J->Y):X J->Z->J|[],_=>-1|d::e,b=>if c d then(b:Z) else Bo c e (b+1)
def abM{H:J->Y}:∀(c:X J)(b:Z),c.any H=aL (0<=Bo H c b)|[],b=>p|e::c,b=>by rw[B7,Bo];by_cases d:H e;simp_all;rw[ab d,abM (H:=H) c<|b+1];simp[d]
def anu(b:lY)(d:Q b.n.bM<=1048576):bb 80 [EU b] (an aj (nk b)):=by
 refine bx func80 [] λg i=>?_;apply e<;>intro c
 .refine aS ?_ (f:=Yx b.n d);exact aA (q:=by rw[nk,ae c];rfl)
 apply ev;refineλk=>T1 (F8 b.n ⟨ad,[],0⟩)<|p;apply e<;>intro j
 .exact aA (q:=by rw[nk,ab c,ae o];rfl)
 exact aA (q:=by rw[nk,ab c,ab o];rfl)
def X_(b:lY)(g:Q b.n.bM<=1048576):bb 107 [EU b] (an aj (nk b)):=by
 refine bx func107 [] λj k=>?_;apply e<;>intro c
 .refine ev (λ_=>p)<|ev (λ_=>p)<|eA ?_;apply e<;>intro i
  .exact aA (q:=by rw[nk,ab c,ae aY];rfl)
  exact aA (q:=by rw[nk,ab c,ab λd=>i<|(ame b).2 d];rfl)
 refine aS ?_ (f:=agw b.n g);exact aA (q:=by rw[nk,ae ap];rfl)
def afu{A:J}(b:J):bb 89 [an aj A,fy 1 [an aj b] 0 0] (a6 (kG b A)):=by refine bx func89 [] λc d=>?_;exact ev (λ_=>p)<|aA
def ars(c:X J)(d:J)(n:Q c<=1048576):bb 153 [.a 1 (aa c7 c),e4 (dp 89) [] [fy 1 [an aj d] 0 0]] (an aj (Bo (kG d) c 0)):=by
 refine bx func153 [] λi k=>?_;refine i0 (Q c) (λb=>Bo (kG d) c 0=Bo (kG d) (aU b c) b) (λb=>⟨[(0,_),(1,_),(7,_),(8,an _ (b:Z))],[],[]⟩) (λb j=>?_) (cq:=.r);apply e<;>intro m
 .let g:b<Q c:=o;refine bi b (c7<|z c b ai) ?_ (j:=ap);refine aS ?_ (f:=afu d);apply e<;>intro l
  .exact aA (q:=by rw[j.2,pt g,Bo,ae ap];rfl)
  refine bc ?_;exact a0 (b+1) ⟨o,by rw[j.2,pt g,Bo,ab ap]⟩
 exact aA (q:=by rw[j.2,kM o];rfl)
def aok(b:X J)(c:J)(d:Q b<=1048576):bb 90 [.a 1 (aa c7 b),e4 (dp 89) [] [fy 1 [an aj c] 0 0]] (a6 (b.any (kG c))):=by refine bx func90 [] λe g=>?_;refine aS ?_ (f:=ars b c d);exact aA (q:=by rw[abM b 0];rfl)
def Yw(b:cZ)(c:J)(g:Q b.dH<=1048576):bb 44 [i3 b,an aj c] (an aj (ld b c)):=by
 refine bx func44 [] λi j=>?_;apply e<;>intro n
 .refine ev (λ_=>p)<|ev (λ_=>p)<|eA ?_;apply e<;>intro k
  .exact aA (q:=by rw[ld,ae ap,ae o];rfl)
  exact aA (q:=by rw[ld,ae ap,ab o];rfl)
 apply e<;>intro l
 .exact aA (q:=by rw[ld,ab ap,ae o];rfl)
 refine amQ ?_ (f:=aok b.dH c g);apply e<;>intro d
 .exact aA (q:=by rw[ld,ab ap,ab o,ae d];rfl)
 apply c9;refineλr=>kz (f:=afu (A:=b.item) c)<|p;refine ev (λ_=>p)<|eA ?_;apply ev;intro s;apply c9;refineλt=>ev (λ_=>p)<|p;exact p;apply e<;>intro m
 .exact aA (q:=by rw[ld,ab ap,ab o,ab d,ae o];rfl)
 exact aA (q:=by rw[ld,ab ap,ab o,ab d,ab o];rfl)
def l6(b:Z->J):Z->J|0=>0|c+1=>if l6 b c≠0 then l6 b c else b c
def E5{b:Z->J}(d:l6 b P=0)(c:b P=0):l6 b (P+1)=0:=by(simp[l6,ab];omega)
def HV{d:Z->J}{b:Z}(i:l6 d b=0)(f:d b≠0):∀c,b<c->l6 d c=d b|0,g=>o|c+1,g=>by rw[l6];rcases fF b c with e|e;have:=HV i f c e;omega;grind
def l7(c:X dq)(e d:J)(b:Z):J:=if kJ (z c b ai).name≠0 then kJ (z c b ai).name
 else if(0:J)<(b:Z)/\(gR (z c b ai).name (z c (b-1) ai).name=af\/(z c b ai).name=(z c (b-1) ai).name) then 10
 else if(z c b ai).shape<d\/e<=(z c b ai).shape then 9
 else if(z c b ai).shape=-1/\(z c b ai).g_ then 2 else 0
def s7(b:X dq)(d c:J):J:=if 30<Q b then 3 else l6 (l7 b d c) (Q b)
def Bd{b:X dq}{d c e:J}(f:¬30<Q b)(j:l6 (l7 b d c) P=0)(g:P<Q b)(i:l7 b d c P=e)(k:e≠0):s7 b d c=e:=by rw[s7,ab f,HV j o _ g,i]
def anv{c:X dq}(m:J)(B:Q c<=1000000):bb 91 [.a 3 (aa dj c),an aj m,a6 af] (an aj (s7 c m (-1))):=by
 refine bx func91 [] λu v=>?_;apply e<;>intro w
 .exact aA (q:=by rw[s7,ae o];rfl)
 let i:¬30<Q c:=o;refine i0 (Q c) (λb=>l6 (l7 c m<|-1) b=0) (λb=>⟨[(0,_),(1,_),(2,_),(13,_),(14,_),(15,k b)],[],[]⟩) (λb j=>?_) p .r;apply e<;>intro x
 .let g:b<Q c:=o;refine bi b (dj<|z c b ai) ?_ (j:=gD g);refine aS ?_ (f:=Lk (z c b ai).name);apply e<;>intro d
  .exact aA (q:=by rw[Bd i j.2 g (by rw[l7,ae d]) d];rfl)
  refine eg ?_;apply c9;refineλy=>jf ?_;refine gx (b-1) (dj<|z c (b-1) ai) ?_ (j:=gD o);exact p;apply e<;>intro l
  .exact aA (q:=by rw[Bd i j.2 g (by rw[l7,ab d,ae l]) aR];rfl)
  refine eA ?_;apply ev;refineλA=>c9 (λ_=>p)<|p;apply e<;>intro s
  .exact aA (q:=by rw[Bd i j.2 g (by rw[l7,ab d,ab l,ae ap]) aR];rfl)
  refine fk ?_;apply e<;>intro t
  .exact aA (q:=by rw[Bd i j.2 g (by rw[l7,ab d,ab l,ab λn=>s<|bl n,ae t]) aR];rfl)
  refine bc ?_;exact a0 (b+1) ⟨o,E5 j.2 (by simp_all[l7,ab])⟩ (cq:=.r)
 exact aA (q:=by rw[s7,ab i,show Q c=b by omega,j.2];rfl)
section
open Go.Shelf Go.RowKit Go.Lib Go.Sort
def ayM(b:J):max (-1) (min 1 b)=ga.fm b:=by(simp[ga.fm];omega)
def Tryz.acp(c:J)(b:bZ):px b5 247 #[ek aj c] b λd e=>d=mM (ek aj<|ga.fm c)/\e=b:=by
 go_wp2
 go_ret
 exact⟨by simp[ayM],p⟩
def pM(b:bT):X bt:=[iv b.neg,mO ⟨aT b.bM⟩,ek aj b.exp]
def Tryz.Ta(c:bT)(b:bZ):px b5 246 #[iH (aT (pM c))] b λd e=>d=mM (ek aj<|ju c)/\∃os,e=grow b os:=by
 unfold pM
 go_wp2
 all_goals go_ret
 all_goals refine⟨?_,_,alloc_eq_grow _ _⟩
 all_goals simp_all[ju]
def Tryz.asa(b c:bT)(g:bZ)(j:Q b.bM<=1000000/\-1000000<=b.exp/\b.exp<=1000000)(k:Q c.bM<=1000000/\-1000000<=c.exp/\c.exp<=1000000):px b5 248 #[iH (aT (pM b)),iH (aT (pM c))] g λe f=>e=mM (ek aj<|rK b c)/\∃os,f=grow g os:=by
 unfold pM
 go_enter func248,Tryz.ntmps248
 go_wp2_with (first|(refine((λi d=>Tryz.acp i d) _ _).mono ?_;rintro e f ⟨rfl,rfl⟩)|(refine((λd=>Tryz.strings_Compare ⟨aT b.bM⟩ ⟨aT c.bM⟩ d) _).mono ?_;rintro e f ⟨rfl,rfl⟩))
 all_goals go_ret
 all_goals refine⟨?_,_,by rw[alloc_eq_grow,alloc_eq_grow,grow_grow]⟩
 simp_all[ga.fm,rK,ae];simp_all[ga.fm,rK,ab]
theorem ans{b e:bZ}{f:Array Obj}{c:Addr}{d:bt}(g:e=grow b f)(i:hA b c=W d):hA e c=W d:=by grind[hA,Array.getElem?_eq_some_iff,cell?_grow]
def xz(b c:bZ):Prop:=∃os,c=grow b os
def xz.cell{b f:bZ}{c:Addr}{e:bt}(d:xz b f)(g:hA b c=W e):hA f c=W e:=by let⟨os,d⟩:=d;grind[ans]
def agv{T:bT}{c:bZ}{d:Ending->bZ->Prop}(e:∀b,xz c b->d (mM (ek aj (ju T))) b):px b5 246 #[iH (aT (pM T))] c d:=(Tryz.Ta T c).mono λg b ⟨he,f⟩=>he▸e b f
def ajl{b:J}(c:-9223372036854775808<=b/\b<=9223372036854775807):wrap64 b=b:=by grind[wrap64]
theorem avc{c b:bT}(d:ju c=ju b)(e:(ju b==0)):ga.fm 0=qE c b:=by grind[qE]
def avd{c b:bT}(d:ju c=ju b)(e:(ju b==0)=ad):wrap64 (ju b*rK c b)=qE c b:=by have:=Uw c b;simp_all[ajl,qE,ab]
def ave{b c:bT}(d:¬ju b=ju c):ga.fm (wrap64 (ju b-ju c))=qE b c:=by let e:=Oo b;let f:=Oo c;rw[ajl o,qE,ae<|bl d]
def v7(b d:bZ):Prop:=∃c os,d=grow (b.drewN c) os
theorem v7.step{b c d:bZ}(e:v7 b c)(f:xz c d):v7 b d:=by obtain⟨g,os,rfl⟩:=e;obtain⟨i,rfl⟩:=f;exact⟨g,_,grow_grow _ _ _⟩
theorem aqF{b c d e:bZ}(f:v7 b c)(i:xz d e)(g:xz c d):v7 b e:=(f.step g).step i
theorem aqG{b c d e f:bZ}(g:v7 b c)(k:xz e f)(j:xz d e)(i:xz c d):v7 b f:=((g.step i).step j).step k
def Tryz.ar9(c d:bT)(f:bZ)(D:Q c.bM<=1000000/\-1000000<=c.exp/\c.exp<=1000000)(E:Q d.bM<=1000000/\-1000000<=d.exp/\d.exp<=1000000):px b5 185 #[iH (aT (pM c)),iH (aT (pM d))] f λj g=>j=mM (ek aj<|qE c d)/\∃I os,g=grow (f.drewN I) os:=by
 have F:=λs i=>Tryz.acp s i;have z:=λi=>Tryz.Ta c i;have A:=λi=>Tryz.Ta d i;have B:=λi=>Tryz.asa c d i D E;unfold pM at*
 go_enter func185,Tryz.ntmps185
 go_wp2_with (first|(go_at_call 247;rintro j g ⟨rfl,rfl⟩)|(go_at_call 246;refine(z _).mono ?_;rintro j g ⟨rfl,K,rfl⟩)|(go_at_call 246;refine(A _).mono ?_;rintro j g ⟨rfl,L,rfl⟩)|(go_at_call 248;refine(B _).mono ?_;rintro j g ⟨rfl,M,rfl⟩))
 have C:∀e,(f.alloc (pz #[iv c.neg,mO ⟨aT c.bM⟩,ek aj c.exp] 26)).alloc (pz #[iv d.neg,mO ⟨aT d.bM⟩,ek aj d.exp] 26)=e->hA e.drew ⟨bB f.heap,0,ah⟩=W (iv c.neg)/\hA e.drew ⟨bB f.heap,1,ah⟩=W (mO ⟨aT c.bM⟩)/\hA e.drew ⟨bB f.heap,2,ah⟩=W (ek aj c.exp)/\hA e.drew ⟨bB f.heap+1,0,ah⟩=W (iv d.neg)/\hA e.drew ⟨bB f.heap+1,1,ah⟩=W (mO ⟨aT d.bM⟩)/\hA e.drew ⟨bB f.heap+1,2,ah⟩=W (ek aj d.exp)/\v7 f e.drew:=by rintro _ rfl;have G:∀(e:bZ) c,hA e.drew c=hA e c:=λ_ _=>p;refine⟨?_,?_,?_,?_,?_,?_,1,_,by rw[alloc_eq_grow,alloc_eq_grow,grow_grow];rfl⟩<;>rw[G]<;>go_simp
 obtain⟨t,u,v,w,x,y,J⟩:=C _ p;generalize (f.alloc<|pz #[iv c.neg,mO ⟨aT c.bM⟩,ek aj c.exp] 26).alloc (pz #[iv d.neg,mO ⟨aT d.bM⟩,ek aj d.exp] 26)=e at*;clear z A
 go_region_with (first|(go_at_call_of 246 c.neg;refine agv (T:=c) ?_;intro g b;first|(have k:=b.cell k;have l:=b.cell l;have m:=b.cell m;have n:=b.cell n;have q:=b.cell q;have r:=b.cell r)|(have k:=b.cell t;have l:=b.cell u;have m:=b.cell v;have n:=b.cell w;have q:=b.cell x;have r:=b.cell y))|(refine agv (T:=d) ?_;intro g b;first|(have k:=b.cell k;have l:=b.cell l;have m:=b.cell m;have n:=b.cell n;have q:=b.cell q;have r:=b.cell r)|(have k:=b.cell t;have l:=b.cell u;have m:=b.cell v;have n:=b.cell w;have q:=b.cell x;have r:=b.cell y)))
 all_goals go_wp2_with (first|(go_at_call 247;refine(F _ _).mono ?_;rintro j g ⟨rfl,rfl⟩)|(go_at_call 248;refine(B _).mono ?_;rintro j g ⟨rfl,H⟩;change xz _ g at H))
 all_goals go_ret
 all_goals refine And.intro (ep (λs=>mM<|ek aj s) ?_) ?_
 all_goals first|grind[avc]|exact avd ‹_› ‹_›|exact ave ‹_›|(change v7 _ _;grind[aqG,aqF])
def wb(b:bT):Prop:=Q b.bM<=1000000/\-1000000<=b.exp/\b.exp<=1000000
def Tryz.ar_(b c:bT){d:bZ}(k:wb b)(l:wb c):px b5 131 #[iH (aT (pM b)),iH (aT (pM c))] d λf e=>f=mM (ek aj<|qE b c)/\v7 d e:=by
 unfold pM at*
 go_enter func131,Tryz.ntmps131
 go_wp2_with (refine((λj=>Tryz.ar9 b c j k l) _).mono ?_;rintro f e ⟨rfl,g⟩;change v7 _ e at g)
 go_ret
 refine⟨p,?_⟩;obtain⟨i,os,rfl⟩:=g;rw[alloc_eq_grow,alloc_eq_grow,grow_grow];exact⟨i,_,grow_grow (d.drewN i) _ _⟩
end
section
open Go.Shelf Go.RowKit Go.Lib Go.Sort
def tG:={b:bT//fL b/\wb b}
instance:xv tG:=⟨⟨⟨ad,[48],0⟩,⟨aR,aR,bl ⟨p,p,p⟩⟩,aR,aR,aR⟩⟩
def xL(b c:tG):J:=qE b.1 c.1
def M4(b c:tG):ltOf xL b c=aL (bu b.1<bu c.1):=by unfold ltOf xL;rw[FR b.2.1 c.2.1];congr 1;unfold ga.fm;refine propext ?_;split;constructor<;>intro<;>omega;split<;>(constructor<;>intro<;>omega)
def aiA:SWO (ltOf xL) where
 irrefl b:=by rw[M4];simp
 trans b e f c d:=by rw[M4] at*;simp at*;omega
 ntrans b e f c d:=by rw[M4] at*;simp at*;omega
def awT{z:db}{k:bh}{y:ga.b0}{i:bZ}(O:ga.Holds z k y i){A R f e:Z}{F:TypeId}{C new:X V}{c:ga.Loc}{lw:Array bt}{T:Z}{os:Array Obj}(L:y[A]?=W (P,.h R f F C))(v:k.m P=W c)(u:c.bK=W e)(M:Q new=Q C)(S:bB lw=Q new*f)(t:∀(b:Z)(g:bt),lw[b]?=W g->g.oneCell')(I:∀d∈new,Q d.cells=f)(ao:∀(b j:Z)(d s:V),new[b]?=W d->d.cells[j]?=W s->∃g,lw[b*f+j]?=W g/\bj k s g):ga.Holds z (k.hz P c) (aK y A (P,.h R f F new)) (grow (Sort.putRow _root_.id (Sort.ahead i T) e c.base lw) os):=by
 let⟨aD,N,ap⟩:=O.gy _ _<|eY L;rw[v] at N;cases N;obtain⟨aw,x,⟨D,_⟩|⟨ay,B,E,H,aH,J,am,aA,aC⟩⟩:=ap;rw[u] at D;cases D;rw[u] at E;cases E;let U:e<bB i.heap:=(vS.1 H).1;let ak:k.le (k.hz P c):=bh.lL λaE t=>by rw[v] at t;cases t;exact⟨p,bz _,λ_=>p⟩
 let ar:(Sort.putRow _root_.id (Sort.ahead i T) e c.base lw).heap.size=bB i.heap:=av;let K:∀r,r<bB i.heap->(grow (Sort.putRow _root_.id (Sort.ahead i T) e c.base lw) os).heap[r]?=(i.heap.modify e<|onCells<|putCells _root_.id c.base lw)[r]?:=λr w=>heap_grow_old _ _ (by rw[ar];exact w);refine O.xa L v p (bz _) (λ_=>p) (bl p) ⟨p,p,p,?_,λr w al=>?_⟩ ⟨aw,x,bp ⟨e,putCells _root_.id c.base lw B,u,?_,?_,?_,?_,?_,?_⟩⟩;simp[grow];rw[K r w,J5,ab λF=>al (by rw[u,F])];rw[K e U,J5,ae p,H];rfl;simp[putCells,aH];rw[M];exact J;intro b g q;simp only[putCells,Wc,Ef] at q;obtain⟨s,ax,rfl⟩:=q;split;rename_i l;let n:b-c.base<bB lw:=o;refine t (b-c.base) _ ?_;rw[yT lw _ n];exact J4 n;exact am b s ax;intro b d l;rw[x];exact I d<|eY l;intro b j d s l G;let⟨g,q,au⟩:=ao b j d s l G;refine⟨g,?_,au.mono ak⟩;let aB:b<Q new:=(e3.1 l).1;let az:j<f:=by rw[<-I d (eY l)];exact(e3.1 G).1
 let n:b*f+j<bB lw:=(vS.1 q).1;rw[x] at J⊢;let Y:c.base+(b*f+j)<bB B:=by rw[aH];rw[S,M] at n;omega
 rw[Ce];simp only[putCells,Wc,J4 Y,lW];rw[ae ⟨o,o⟩,aj4,yT lw _ n];rw[J4 n] at q;exact q
def qO(b:X tG):X tG:=bo<|pdq (ltOf xL) (aT b) 0 (Q b) (xu<|Q b) af af
def Vt(b:X tG):(qO b).Perm b/\uR (λl m=>bu l.1<=bu m.1) (qO b):=by
 have d:=pdq_sorts (ltOf xL) aiA (aT b) 0 (Q b) (xu<|Q b) af af (dO _) (bz _)<|bl p;have g:bB (pdq (ltOf xL) (aT b) 0 (Q b) (xu (Q b)) af af)=Q b:=by have:=d.1.1;simpa using this
 unfold qO;generalize pdq (ltOf xL) (aT b) 0 (Q b) (xu<|Q b) af af=c at d g;let⟨⟨t,u,e⟩,r⟩:=d;refine⟨?_,?_⟩;have n:bo (c.extract 0 (Q b))=bo c:=by rw[<-g];simp
 have q:bo ((aT b).extract 0 (Q b))=b:=av;rw[n,q] at e;exact e;rw[Cc];intro i k j f s;simp only[yJ] at j f;have:=r i k (dO _) s o;rw[M4,sK,yT c k f,yT c i j] at this;simp only[ajB];omega
def isAgg26:∀b,(isAgg 26).run b5 b=.ok af b:=λb=>ga.cz.sv (size:=3) (bytes:=32) ⟨aAn,cR⟩ b
def sizeOf26:∀b,(Go.sizeOf 26).run b5 b=.ok 3 b:=(show ga.hs b5 26 3 32 from⟨cR⟩).kW
def W0(d:Option Addr)(c:Z)(b:bZ):px b5 135 #[gj d 0 c,.func (dp 131) #[] #[]] b λe f=>e=mM (rU #[])/\f=b:=AnyF.slices_SortFunc_none Tryz.acT d c (.func (dp 131) #[] #[]) b
def ay_(b:X tG)(au:Q b<=1000000):dF 135 [.aq 6001 0 (Q (b.map λT=>cn T.1)),e4 (dp 131) [] []] [(6001,.h 3 26 (b.map λT=>cn T.1))] (cs []) [(6001,.h 3 26 ((qO b).map λT=>cn T.1))]:=by
 intro n w I j a_ a5 aC D _;obtain⟨z,C,rfl⟩:∃z C,I=[z,C]:=by
  match I,a5 with|[aI,q],_=>exact⟨aI,q,p⟩
 have R:=aC 0 _ z p p;have aF:=aC 1 _ C p p;have a4:C=.func (dp 131) #[] #[]:=by
  change bj w (e4 (dp 131) [] []) C at aF;cases aF with
  |func fn bu bv bb I au aV y bd=>
   have aK:bb=[]:=by simpa using bG au
   have aL:I=[]:=by simpa using bG aV
   rw[aK,aL]
 subst a4;have br:qO b=qO b:=p;have E:Q (qO b)=Q b:=(Vt b).1.length_eq;obtain⟨id,u,H⟩:∃id u,n 6001=(id,u):=⟨_,_,p⟩;have R:bj w (.bO id u 0 (Q (b.map λT=>cn T.1))) z:=by have:=R;simp only[V.ay,V.li,V.fI,V.ge,H] at this;exact this
 have aY:aX n [(6001,cj.h 3 26 (b.map λT=>cn T.1))]=[(id,.h u 3 26 (b.map λT=>cn T.1))]:=by simp[aX,c6,cj.az,H]
 rw[aY] at D⊢;let⟨m,hm,aB⟩:=D.gy id _<|ea.2 p;have none:b=[]->∀P cap,z=gj P 0 cap->px b5 135 #[z,.func (dp 131) #[] #[]] j (λF S=>∃v aG aD Z,F=mM v/\(∃Y,dg 5000 n Y/\aG=(V.tuple []).ay Y/\aD=aX Y [(6001,.h 3 26<|(qO b).map λT=>cn T.1)])/\bj Z aG v/\ga.Holds ⟨j,a_,w,aa (·.1) ([(id,cD.h u 3 26<|b.map λT=>cn T.1)]:ga.b0),hB,0⟩ Z aD S):=by
  intro x P cap t;subst t;refine(W0 P cap j).mono ?_;rintro F S ⟨rfl,rfl⟩;subst x;have aJ:qO []=[]:=m_ E;refine⟨rU #[],cs [],_,w,p,⟨n,dg.refl _ n,p,p⟩,.tuple [] [] p λa8 d v y=>by simp at y,?_⟩;have:aX n [(6001,cj.h 3 26 ((qO []).map λT=>cn T.1))]=[(id,.h u 3 26 [])]:=by rw[aJ];simp[aX,c6,cj.az,H]
  rw[this];exact D
 cases R with
 |bO _ _ _ _ bt v ax bs be y=>
  rw[hm] at ax;cases ax;rcases y (bG aB.1) with⟨bf,x,rfl⟩|⟨q,a9,cap,K,rfl,aW,bk,aP⟩;exact none (m_ (by simpa using x)) _ _ p;rcases yL (Q b=0) with x|x;have aw:b=[]:=m_ x;exact none aw _ _ (by rw[aw];rfl);obtain⟨_,a0,⟨e,_⟩|⟨bc,ak,al,M,aH,ao,bq,bm,aA⟩⟩:=aB;rw[K] at e;cases e;rw[K] at al;cases al;rw[bg] at aW ao;obtain⟨rfl,bi⟩:a9=m.base/\dW:=by rcases aP with k|⟨k,_⟩;omega;exact⟨by rw[k];omega,c1⟩
  rw[a0] at ao aA;have aO:q<bB j.heap:=(vS.1 M).1;have aN:HoldsK (λd:tG=>pM d.1) 3 j q m.base (aT b):=by
   intro c i;rw[size_flatK] at i;rw[get_flatK _ _ _ _ i];have ap:c/3<Q b:=by
    have:c<Q b*3:=by simpa using i
    omega
   have aU:(b.map λT=>cn T.1)[c/3]?=W (cn b[c/3].1):=by rw[c4,cm ap];rfl
   have aQ:(aT b)[c/3]! =b[c/3]:=by rw[yT (aT b) (c/3) (by simpa using ap)];rfl
   have L:∀g,ak[m.base+c]?=W g->hA j ⟨q,m.base+c,ah⟩=W g:=λg l=>by simp[hA,M,l]
   refine⟨?_,by simp only[World.frozen?,M];simp⟩;rw[aQ];have bn:c=c/3*3+c%3:=o;have get:∀f d,(cn b[c/3].1).cells[f]?=W d->f=c%3->∃g,ak[m.base+c]?=W g/\bj w d g:=by intro f d G k;let⟨g,l,s⟩:=aA (c/3) f _ d aU G;refine⟨g,?_,s⟩;rw[<-l,k];congr 1;omega
   have e:c%3=0\/c%3=1\/c%3=2:=o;rcases e with e|e|e;let⟨g,l,s⟩:=get 0 (a6 b[c/3].1.neg) p<|bG e;rw[e,L g l,Jb s];rfl;let⟨g,l,s⟩:=get 1 (bV b[c/3].1.bM) p<|bG e;rw[e,L g l,U7 s];rfl;let⟨g,l,s⟩:=get 2 (an aj b[c/3].1.exp) p<|bG e;rw[e,L g l,U6 s];rfl
  have aM:∀args j,(callFunc 131 args).run b5 j=.ok (.enter 131 args) j:=enters_of func131 cR p;have a3:bB (aT b)<4611686018427387904:=a2;have am:=AnyQ.slices_SortFunc_eq Tryz.acT 3 isAgg26 sizeOf26 (λd:tG=>pM d.1) (λ_=>p) (λd v t=>by simp[pM] at t;rcases t with rfl|rfl|rfl<;>rfl) xL aiA 131 #[] q m.base cap (aT b) j aM (λ_ _ _ _ d U=>Tryz.ar_ d.1 U.1 d.2.2 U.2.2) aN aO a3;change px b5 135 _ _ _ at am;have a7:gj (W ⟨q,m.base,ah⟩) (Q (b.map λT=>cn T.1)) cap=gj (W ⟨q,m.base,ah⟩) (bB (aT b)) cap:=av;rw[a7];refine am.mono ?_;rintro F S ⟨rfl,T,os,rfl⟩;have J:bo (pdq (ltOf xL) (aT b) 0 (bB (aT b)) (xu (bB (aT b))) af af)=qO b:=by simp[qO]
  generalize pdq (ltOf xL) (aT b) 0 (bB<|aT b) (xu<|bB<|aT b) af af=r at J;have aS:bB r=Q b:=by rw[<-yJ,J,E]
  have aZ:=awT D (A:=0) (F:=26) (new:=(qO b).map λT=>cn T.1) (lw:=flatK (λd:tG=>pM d.1) 3 r) (T:=T) (os:=os) p hm K (by simp[E]) (by simp[aS,E]) ?_ (λd G=>by simp at G;obtain⟨aE,_,rfl⟩:=G;rfl) ?_;refine⟨rU #[],cs [],_,w.hz id m,p,⟨n,dg.refl _ n,p,p⟩,.tuple [] [] p λa8 d v y=>by simp at y,?_⟩;have:aX n [(6001,cj.h 3 26 ((qO b).map λT=>cn T.1))]=[(id,.h u 3 26 ((qO b).map λT=>cn T.1))]:=by simp[aX,c6,cj.az,H]
  rw[this];exact aZ;intro c v t;have i:=(vS.1 t).1;rw[size_flatK] at i;have B:=get_flatK (λd:tG=>pM d.1) 3 r c i;rw[yT _ c (by simpa using i),(vS.1 t).2] at B;rw[B];have e:c%3=0\/c%3=1\/c%3=2:=o;rcases e with e|e|e<;>rw[e]<;>rfl;intro c f U d i k;simp only[c4,Ef] at i;obtain⟨aE,O,rfl⟩:=i;have ar:c<bB r:=by have:=(e3.1 O).1;omega
  have aR:r[c]! =aE:=by rw[yT r c ar];rw[<-J,D7,J4 ar] at O;exact oc O
  have bh:f<3:=(e3.1 k).1;have N:c*3+f<bB r*3:=o;have B:=get_flatK (λd:tG=>pM d.1) 3 r (c*3+f) N;rw[show(c*3+f)/3=c by omega,show(c*3+f)%3=f by omega,aR,yT _ (c*3+f) (by simpa using N)] at B;refine⟨_,by rw[J4 (by simpa using N),B],?_⟩;have e:f=0\/f=1\/f=2:=o;rcases e with rfl|rfl|rfl;cases k;exact .bool _;cases k;exact .str _;cases k;exact .int ..
end
def jP(b:fb)(c:J):Prop:=b.inf=af\/2*b.z+(if b.op then 1 else 0)<=c
def jA(b:fb)(c:J):Prop:=b.inf=af\/c<=2*b.z-(if b.op then 1 else 0)
def h3(c:aV)(b:J):Prop:=jP c.low b/\jA c.high b/\(c.dz=af->(2*bP:J) ∣ b)
def hS(b:X aV)(c:J):Prop:=∃d∈b,h3 d c
theorem ahG{b:J}:0<fm b↔0<b:=by grind[fm]
theorem ahF{b:J}:fm b<0↔b<0:=by grind[fm]
theorem OL{b:J}:fm b=0↔b=0:=by grind[fm]
def atg(b c:fb):0<oC b c↔b.inf=ad/\(c.inf=af\/2*c.z+(if c.op then 1 else 0)<2*b.z+(if b.op then 1 else 0)):=by grind[oC,OL,ahG]
theorem adp(b c:fb):oC b c<0↔c.inf=ad/\(b.inf=af\/2*b.z+(if b.op then 1 else 0)<2*c.z+(if c.op then 1 else 0)):=by grind[oC,OL,ahF]
def aq7(b c:fb):0<l9 b c↔c.inf=ad/\(b.inf=af\/2*c.z-(if c.op then 1 else 0)<2*b.z-(if b.op then 1 else 0)):=by grind[l9,OL,ahG]
def aq6(b c:fb):l9 b c<0↔b.inf=ad/\(c.inf=af\/2*b.z-(if b.op then 1 else 0)<2*c.z-(if c.op then 1 else 0)):=by grind[l9,OL,ahF]
def Ug(b:aV):gE b↔b.low.inf=ad/\b.high.inf=ad/\2*b.high.z-(if b.high.op then 1 else 0)<2*b.low.z+(if b.low.op then 1 else 0):=by unfold gE;let⟨⟨c,e,f⟩,⟨d,g,i⟩,j⟩:=b;cases c<;>cases d<;>simp;grind
def atB(b c:aV):rp b c↔b.high.inf\/c.low.inf\/2*c.low.z+(if c.low.op then 1 else 0)<=2*b.high.z-(if b.high.op then 1 else 0)+1:=by unfold rp;let⟨_,⟨d,f,g⟩,l⟩:=b;let⟨⟨e,i,j⟩,_,k⟩:=c;cases d<;>cases e<;>simp;grind
def Lu{b c:fb}{d:J}:jP (if 0<oC c b then c else b) d↔jP b d/\jP c d:=by let e:=atg c b;unfold jP;grind
def Lt{b c:fb}{d:J}:jA (if l9 c b<0 then c else b) d↔jA b d/\jA c d:=by let e:=aq6 c b;unfold jA;grind
def ahV{b:aV}(i:b.dz=ad)(d:gE b=ad):∃e,h3 b e:=by
 let c:¬gE b:=by rw[d];simp
 rw[Ug] at c;unfold h3 jP jA;cases g:b.low.inf with
 |true=>cases f:b.high.inf with|true=>simp_all|false=>exact⟨2*b.high.z-(if b.high.op then 1 else 0),bl p,bp o,ap⟩
 |false=>refine⟨2*b.low.z+(if b.low.op then 1 else 0),bp o,?_,ap⟩;grind
theorem Uh{b:aV}{g:J}(f:h3 b g):gE b=ad:=by cases e:gE b with|false=>rfl|true=>let⟨i,j,k⟩:=(Ug b).1 e;let⟨c,d,_⟩:=f;unfold jP at c;unfold jA at d;grind
def aqT(c:aV)(b:J):De c b↔h3 c (2*b):=by
 let n:2*(bP:J) ∣ 2*b↔(bP:J) ∣ b:=by constructor;rintro⟨g,j⟩;exact⟨g,aY⟩;rintro⟨g,j⟩;exact⟨g,aY⟩
 let q:gE (o8 ⟨c.low,c.high,ad⟩ ⟨gG b,gG b,ad⟩)=ad↔jP c.low (2*b)/\jA c.high (2*b):=by
  let l:∀d,jP (gG b) d↔2*b<=d:=λd=>by simp[jP,gG]
  let k:∀d,jA (gG b) d↔d<=2*b:=λd=>by simp[jA,gG]
  let i:o8 ⟨c.low,c.high,ad⟩ ⟨gG b,gG b,ad⟩=⟨if 0<oC _ _ then gG b else c.low,if l9 _ _<0 then gG b else c.high,ad⟩:=p;rw[i];constructor;intro m;let⟨d,e,f,_⟩:=ahV p m;let e:=Lu.1 e;let f:=Lt.1 f;grind;rintro⟨e,f⟩;exact Uh ⟨Lu.2 ⟨e,(l _).2<|uK _⟩,Lt.2 ⟨f,(k _).2<|uK _⟩,av⟩
 unfold De h3;grind
theorem Mp(b:X aV)(c:J):pP b c↔hS b (2*c):=by simp[pP,hS,uL,aqT]
def A5(b:J):(bP:J) ∣ eh b:=⟨b/bP,by simp[eh,Pt]⟩
theorem ao6(b:J):(bP:J) ∣ nm b:=by simp[A5,nm,Int.mul_neg]
def acV{b am:J}(c:(bP:J) ∣ b):b<=eh am↔b<=am:=by let i:=Bc am;constructor;omega;let⟨d,f⟩:=A5 am;let⟨e,g⟩:=c;grind[Int.lt_of_mul_lt_mul_left,bP,Int.mul_add,Int.mul_le_mul_of_nonneg_left]
def anq{b am:J}(c:(bP:J) ∣ b):nm am<=b↔am<=b:=by let d:=acV (am:=-am)<|(Int.dvd_neg).2 c;grind[nm]
theorem aaB{b am:J}(i:(bP:J) ∣ b)(f:b<am)(g:eh am=am):b<=eh am-bP:=by let⟨c,d⟩:=A5 am;let⟨j,e⟩:=i;rw[<-g,d,e] at f;have:=Int.lt_of_mul_lt_mul_left f o;rw[d,e,<-Int.mul_one bP,Int.mul_one,show bP*c-bP=bP*(c-1) by grind];exact Int.mul_le_mul_of_nonneg_left o o
theorem atn{b am:J}(c:(bP:J) ∣ b)(e:am<b)(d:nm am=am):nm am+bP<=b:=by have:=aaB (am:=-am) ((Int.dvd_neg).2 c) o (by grind[nm]);grind[nm]
def KC(b:fb):Prop:=b.inf=af\/b.op=ad/\(bP:J) ∣ b.z
theorem RD{b:J}(c:(bP:J) ∣ b):(bP:J) ∣ b+bP:=Int.dvd_add c<|Int.dvd_refl _
def RE{b:J}(c:(bP:J) ∣ b):(bP:J) ∣ b-bP:=Int.dvd_sub c<|Int.dvd_refl _
def anR{b:fb}:KC (tS b):=by unfold tS;split;rename_i c;exact bl c;refine bp ⟨p,?_⟩;grind[RD,ao6]
def anO{b:fb}:KC (o7 b):=by unfold o7;split;rename_i c;exact bl c;refine bp ⟨p,?_⟩;split;simp[RE,A5];simp[A5]
def H7{c:J}(e:2*(bP:J) ∣ c):∃d,c=2*d/\(bP:J) ∣ d:=by let⟨b,f⟩:=e;exact⟨bP*b,aY,⟨b,p⟩⟩
theorem anT(b:fb){c:J}(e:2*(bP:J) ∣ c):jP (tS b) c↔jP b c:=by obtain⟨i,rfl,g⟩:=H7 e;unfold tS;split;rfl;rename_i f;unfold jP;simp;rw[show(b.inf=af)=False by simp[f],GW];let l:=anq (am:=b.z) g;by_cases d:b.op;by_cases he:nm b.z=b.z;rw[ae ⟨d,he⟩];grind[atn,qZ];let m:b.z≠i:=λk=>he (by let j:=Bc<|-b.z;grind[nm]);omega;simp_all
theorem anQ(b:fb){c:J}(e:2*(bP:J) ∣ c):jA (o7 b) c↔jA b c:=by obtain⟨i,rfl,g⟩:=H7 e;unfold o7;split;rfl;rename_i f;unfold jA;simp;rw[show(b.inf=af)=False by simp[f],GW];let l:=acV (am:=b.z) g;by_cases d:b.op;by_cases he:eh b.z=b.z;rw[ae ⟨d,he⟩];grind[aaB,qZ];let m:b.z≠i:=λk=>he (by let j:=Bc b.z;omega);omega;simp_all
theorem Lm(c:aV)(b:J):h3 (nn c) b↔jP c.low b/\jA c.high b/\2*(bP:J) ∣ b:=by unfold h3 nn;grind[anT,anQ]
def kP(b:aV):Prop:=b.dz=af->KC b.low/\KC b.high
def Rb{M:aV}:kP (nn M):=λ_=>⟨anR,anO⟩
theorem YT{b c:aV}{d:J}:h3 (o8 b c) d↔h3 b d/\h3 c d:=by
 unfold o8;split;rw[Lm,Lu,Lt];unfold h3;grind;have e:b.dz=ad:=by cases g:b.dz<;>simp_all
 have f:c.dz=ad:=by cases g:c.dz<;>simp_all
 unfold h3;rw[Lu,Lt,e,f];grind
def aA6{b:aV}(c:kP b)(m:b.dz)(l:gE b=ad):∃n,h3 b n:=by
 let f:¬gE b:=by rw[l];simp
 rw[Ug] at f;let⟨c,g⟩:=c m;unfold h3 jP jA;cases r:b.low.inf with|true=>rcases g with e|⟨e,j⟩;exact⟨0,bl p,bl e,λ_=>⟨0,av⟩⟩;let⟨d,i⟩:=j;exact⟨2*b.high.z,bl p,bp ap,λ_=>⟨d,aY⟩⟩|false=>rcases c with c|⟨q,k⟩;simp_all;let⟨d,i⟩:=k;refine⟨2*b.low.z,bp ap,?_,λ_=>⟨d,aY⟩⟩;grind
def Gk{b:aV}(f:kP b):gE b=ad↔∃e,h3 b e:=by
 constructor;intro c;cases d:b.dz with|false=>exact ahV d c|true=>simp_all[aA6]
 grind[Uh]
def Fr(b:fb):J:=2*b.z+(if b.op then 1 else 0)
def rY(b c:aV):Prop:=b.low.inf=af\/c.low.inf=ad/\Fr b.low<=Fr c.low
def akA{b c:aV}:rY b c↔¬oC c.low b.low<0:=by grind[adp,rY,Fr]
theorem rY.trans{b c d:aV}(f:rY b c)(e:rY c d):rY b d:=by grind[rY]
def akB{b c:aV}(d:oC b.low c.low<0):rY b c:=by grind[adp,rY,Fr]
def QU:∀(c:Z)(d:X aV)(b:Z),c<b->z (o6 c d) b ai=z d b ai|0,_,_,_=>p|c+1,d,b,e=>by rw[o6];split;rw[QU c _ b o];grind;rfl
def Gp(b:X aV)(d:P+1<Q b)(c:Z):z (aK (aK b (P+1) (z b P ai)) P (z b (P+1) ai)) c ai=if c=P then z b (P+1) ai else if c=P+1 then z b P ai else z b c ai:=by grind
def Ya:∀(b:Z)(d:X aV)(c:Z),b<Q d->c<=b->∃e,e<=b/\z (o6 b d) c ai=z d e ai|0,_,c,_,i=>⟨c,i,p⟩|b+1,d,c,g,i=>by rw[o6];split;rcases fF b c with f|f;obtain rfl:c=b+1:=o;exact⟨b,o,by rw[QU b _ _ o,Gp d g,ab o,ae p]⟩;obtain⟨e,k,j⟩:=Ya b (aK (aK d _ _) b _) c aY f;rw[j,Gp d g];grind;grind
def G6(d:X aV)(e:Z):Prop:=∀c b,c<b->b<e->rY (z d c ai) (z d b ai)
def Yd:∀(b:Z)(d:X aV),b<Q d->G6 d b->G6 (o6 b d) (b+1)
|0,_,_,_=>λe c f k=>o|b+1,d,i,j=>by
 rw[o6];split;rename_i n;let m:=akB n;let r:=Yd b (aK (aK d _ _) b _) aY λe c f k=>by rw[Gp d i,Gp d i,ab o,ab o,ab o,ab o];exact j e c f o
 intro e c f k;rcases fF c _ with g|g;exact r e c f g;obtain rfl:c=b+1:=o;rw[QU b _ (b+1) o,Gp d i,ab o,ae p];obtain⟨s,l,q⟩:=Ya b (aK (aK d _ _) b _) e aY o;rw[q,Gp d i];split;exact m;rw[ab o];exact j s b o o;rename_i n;let m:=akA.2 n;intro e c f k;rcases fF c _ with g|g;exact j e c f g;obtain rfl:c=b+1:=o;rcases fF e b with l|l;exact(j e b l o).trans m;grind
def ahZ:∀(d b:Z)(c:X aV),b+d<=Q c->G6 c b->G6 (vI d b c) (b+d)|0,_,_,_,e=>e|d+1,b,c,f,e=>by have:=ahZ d _ _ (by grind[Hh])<|Yd b c o e;grind[vI]
def aqt{c:X aV}{d:aV}(e:d∈c):∃b,b<Q c/\z c b ai=d:=by obtain⟨b,j,rfl⟩:=lU.1 e;exact⟨b,j,ap⟩
def Yc:∀(b:Z)(L:X aV),b<Q L->∀c,c∈L->c∈o6 b L|0,_,_,_,d=>d|b+1,L,g,c,d=>by rw[o6];split;refine Yc b _ aY c ?_;obtain⟨E,j,rfl⟩:=aqt d;let i:Q (aK (aK L (b+1)<|z L b ai) b<|z L (b+1) ai)=Q L:=av;by_cases e:E=b;have:=Sk (L:=aK (aK L (b+1)<|z L b ai) b<|z L (b+1) ai) (E:=b+1) o;simp_all;by_cases f:E=b+1;have:=Sk (L:=aK (aK L (b+1)<|z L b ai) b<|z L (b+1) ai) (E:=b) o;grind;have:=Sk (L:=aK (aK L (b+1)<|z L b ai) b<|z L (b+1) ai) (E:=E) o;grind;omega
def ahY:∀(e d:Z)(b:X aV),d+e<=Q b->∀c,c∈b->c∈vI e d b|0,_,_,_,_,f=>f|e+1,d,b,g,c,f=>by exact ahY e _ _ (by grind[Hh]) c<|Yc d b o c f
def aza{b:X aV}{c:aV}:c∈kq b↔c∈b:=by refine⟨Vu,λd=>?_⟩;cases b with|nil=>cases d|cons e b=>exact ahY _ 1 _ aY c d
theorem adP(b:X aV)(c:J):hS (kq b) c↔hS b c:=by simp[hS,aza]
def Do{c:X aV}(d:X aV)(b:J):hS (c++d) b↔hS c b\/hS d b:=by grind[hS,List.mem_append_left,List.mem_append_right]
def Dr(c:aV)(b:J):hS [c] b↔h3 c b:=by simp[hS]
def Dp(c:aV)(b:X aV)(d:J):hS (c::b) d↔h3 c d\/hS b d:=by rw[show c::b=[c]++b from p,Do,Dr]
theorem Dq(b:J):¬hS [] b:=by simp[hS]
def arY{b d:aV}(n:d.dz=b.dz)(D:kP b)(B:kP d)(m:rY b d)(f:(if b.dz then ru b d else rp b d)=af)(c:J):h3 (if 0<l9 d.high b.high then⟨b.low,d.high,b.dz⟩ else b) c↔h3 b c\/h3 d c:=by
 let x:(b.dz=af->2*(bP:J) ∣ c)->jP b.low c->¬jA b.high c->jP d.low c:=by
  intro w s k;let u:b.high.inf=ad:=by cases g:b.high.inf with|false=>rfl|true=>exact b9 (bl g) k
  let I:2*b.high.z-(if b.high.op then 1 else 0)<c:=by unfold jA at k;omega
  split at f;rename_i r;unfold ru at f;cases C:d.low.inf with|true=>exact bl C|false=>rw[ab ap] at f;obtain⟨N,rfl,y⟩:=H7<|w r;rcases(D r).2 with q|⟨i,j⟩;simp_all;rcases(B (bC n r)).1 with q|⟨e,H⟩;simp_all;unfold jP;let⟨F,K⟩:=y;let⟨G,L⟩:=j;grind[bP,Int.mul_le_mul_of_nonneg_left,Int.mul_add]
  rw[atB,u] at f;rcases f with f|f|f;cases f;exact bl f;refine bp ?_;omega
 let t:jP d.low c->jP b.low c:=by intro g;unfold rY Fr at m;unfold jP at g⊢;rcases m with m|⟨m,M⟩;simp_all;grind
 let A:=aq7 d.high b.high;split;rename_i v;let⟨s,k⟩:=A.1 v;let E:jA b.high c->jA d.high c:=by intro g;unfold jA at g⊢;rw[s] at g;simp at g;rcases k with k|k;simp_all;omega
 constructor;rintro⟨i,j,e⟩;by_cases g:jA b.high c;exact bl ⟨i,g,e⟩;exact bp ⟨x e i g,j,λl=>e<|n▸l⟩;rintro(⟨i,j,e⟩|⟨i,j,e⟩);exact⟨i,E j,e⟩;exact⟨t i,j,λl=>e<|bC n l⟩;constructor;simp_all;rintro(q|⟨i,j,e⟩);exact q;refine⟨t i,?_,λl=>e<|bC n l⟩;unfold jA at j⊢;grind
def ab6(c:Y)(d:aV)(b:X aV):j3 c [] (d::b)=j3 c [d] b:=p
def MH(d:Y)(e:X aV)(b c:aV)(f:X aV):j3 d (e++[b]) (c::f)=if(if d then ru b c else rp b c)=af then j3 d (e++[if 0<l9 c.high b.high then⟨b.low,c.high,b.dz⟩ else b]) f else j3 d (e++[b]++[c]) f:=by grind[j3,set,List.set_append_right]
structure u0(dz:Y)(out L:X aV):Prop where
 w:∀M∈out++L,M.dz=dz/\kP M
 zI:uR rY L
 last:∀C,out.getLast?=W C->∀U∈L,rY C U
theorem atE{b c:aV}(e:c.dz=b.dz)(g:kP b)(f:kP c):kP (if 0<l9 c.high b.high then⟨b.low,c.high,b.dz⟩ else b):=by split;exactλd=>⟨(g d).1,(f<|bC e d).2⟩;omega
theorem u0.step{k:Y}{g:X aV}{c e:aV}{i:X aV}(b:u0 k (g++[c]) (e::i)):u0 k (g++[if 0<l9 e.high c.high then⟨c.low,e.high,c.dz⟩ else c]) i/\u0 k (g++[c]++[e]) i/\rY c e:=by
 let r:=b.w c av;let q:=b.w e av;let l:=b.last c av;refine⟨⟨?_,(mi.1 b.zI).2,?_⟩,⟨?_,(mi.1 b.zI).2,?_⟩,l e av⟩;intro f d;rcases eX.1 d with d|d;rcases eX.1 d with d|d;exact b.w f aY;grind[atE,trans];exact b.w f aY;intro n aH j m;let aH:=by simpa using bG aH
 have:=l j aY;rw[aH];split;exact this;omega;intro f d;exact b.w f ap;intro n aH j m;let aH:=by simpa using bG aH
 rw[aH];exact(mi.1 b.zI).1 j m
def OS(b:X aV):b=[]\/∃init c,b=init++[c]:=by rcases ajO b with d|⟨e,c,d⟩;simp_all;simp_all
theorem MG{i:Y}(d:J):∀(b out:X aV),u0 i out b->(hS (j3 i out b) d↔hS out d\/hS b d)
|[],out,_=>by simp[j3,Dq]|f::b,out,c=>by
 rcases OS out with rfl|⟨init,g,rfl⟩;rw[ab6,MG d b [f] ⟨λn r=>c.w n ap,(mi.1 c.zI).2,λg e q aH=>by
  have:=by simpa using bG e
  rw[this];exact(mi.1 c.zI).1 q aH⟩,Dr,Dp]
 simp[Dq];let⟨k,l,m⟩:=c.step;let e:=c.w g av;let j:=c.w f av;rw[MH];by_cases hm:(if i then ru g f else rp g f)=af;rw[ae hm];rw[MG d b _ k,Do,Dr,arY (bC j.1<|bG e.1) e.2 j.2 m ap,Do,Dr,Dp];grind;rw[ab hm];rw[MG d b _ l,Do,Dr,Dp,or_assoc]
def MI{e:Y}:∀(c out:X aV),u0 e out c->∀d∈j3 e out c,d.dz=e/\kP d
|[],out,b=>λd k=>b.w d (by grind[j3])|f::c,out,b=>by
 rcases OS out with rfl|⟨init,g,rfl⟩;exact MI c [f] ⟨λd k=>b.w d ap,(mi.1 b.zI).2,λg l m aH=>by
  have:=by simpa using bG l
  rw[this];exact(mi.1 b.zI).1 m aH⟩
 let⟨i,j,n⟩:=b.step;rw[MH];by_cases hm:(if e then ru g f else rp g f)=af;rw[ae hm];exact MI c _ i;rw[ab hm];exact MI c _ j
theorem MD(e:Y):∀(c out:X aV),Q (j3 e out c)<=Q out+Q c|[],out=>by simp[j3]|d::c,out=>by rcases OS out with rfl|⟨init,b,rfl⟩;rw[ab6];have:=MD e c [d];grind;rw[MH];by_cases hm:(if e then ru b d else rp b d)=af;have:=MD e c<|init++[if 0<l9 d.high b.high then⟨b.low,d.high,b.dz⟩ else b];grind;have:=MD e c<|init++[b]++[d];grind
theorem u0.start{i:Y}{b:X aV}(e:∀d∈b,d.dz=i/\kP d):u0 i [] (kq b):=⟨λd r=>e d<|Vu ap,(by
 let e:G6 (kq b) (Q<|kq b):=by cases b with|nil=>intro f g k l;grind[kq,vI]|cons c b=>have:=ahZ (Q (c::b)-1) 1 (c::b) aY λf g k l=>o;rw[Jw];rw[show Q (c::b)=1+(Q (c::b)-1) by grind];exact this
 rw[Cc];intro f g j n m;have:=e f g m n;simp_all),λs q=>by cases q⟩
def ab_{e:Y}{b:X aV}(f:∀d∈b,d.dz=e/\kP d)(c:J):hS (lb b e) c↔hS b c:=by grind[lb,MG,u0.start,adP,Dq]
def aca{c:Y}{d:X aV}(e:∀b∈d,b.dz=c/\kP b):∀b∈lb d c,b.dz=c/\kP b:=MI _ _<|u0.start e
theorem ab9(c:Y)(b:X aV):Q (lb b c)<=Q b:=by grind[MD,kq,Jw,lb]
def uV(b c:aV):Prop:=b.high.inf=ad/\c.low.inf=ad/\b.high.z<c.low.z
def MC:∀(d out:X aV),u0 af out d->uR uV out->uR uV (j3 af out d)
|[],out,_,k=>by grind[j3]|l::d,out,e,k=>by
 rcases OS out with rfl|⟨init,b,rfl⟩;exact MC d [l] ⟨λx C=>e.w x ap,(mi.1 e.zI).2,λb u y aH=>by
  have:=by simpa using bG u
  rw[this];exact(mi.1 e.zI).1 y aH⟩<|Am _ _
 let⟨s,t,i⟩:=e.step;let⟨n,_,m⟩:=Ki.1 k;rw[MH];by_cases hm:(if af then ru b l else rp b l)=af;rw[ae hm];refine MC d _ s<|Ki.2 ⟨n,Am _ _,λf c g j=>?_⟩;obtain rfl:=ea.1 j;have:=m f c b av;split;exact this;omega;rw[ab hm];refine MC d _ t<|Ki.2 ⟨k,Am _ _,λf c g j=>?_⟩;obtain rfl:=ea.1 j;let v:uV b g:=by rw[ae p] at hm;unfold ru at hm;split at hm;simp_all;let hm:¬g.low.z<=b.high.z+bP:=λr=>hm<|sL r;refine⟨ap,ap,?_⟩;omega
 rcases eX.1 c with c|c;let⟨q,A,B⟩:=m f c b av;refine⟨q,v.2.1,?_⟩;rcases i with i|⟨_,i⟩;simp_all;grind[Fr];simp_all
def ab8{b:X aV}(d:∀c∈b,c.dz/\kP c):uR uV (lb b af):=MC _ _ (u0.start d) Cp
def as9{c b:J}:jP (gG c) b↔2*c<=b:=by simp[jP,gG]
def aq5{c b:J}:jA (gG c) b↔b<=2*c:=by simp[jA,gG]
def adO(c:Y)(e:aV)(b:J)(f:c->¬h3 e b):hS (if c then[] else[e]) b↔h3 e b:=by cases c with|true=>exact⟨λd=>b9 d<|Dq b,λd=>b9 d<|f p⟩|false=>simp[Dr]
theorem FK{b:aV}(e:gE b)(c:J):¬h3 b c:=λd=>by grind[Uh]
structure jJ(M:aV):Prop where
 w:M.dz
 sV:kP M
theorem jJ.low{b:aV}(c:jJ b)(e:b.low.inf=ad):b.low.op=ad/\(bP:J) ∣ b.low.z:=by rcases(c.sV c.w).1 with d|d;simp_all;omega
def jJ.high{b:aV}(c:jJ b)(e:b.high.inf=ad):b.high.op=ad/\(bP:J) ∣ b.high.z:=by rcases(c.sV c.w).2 with d|d;simp_all;omega
def jJ.mem{b:aV}(g:jJ b)(c:J):h3 b c↔(b.low.inf=af\/2*b.low.z<=c)/\(b.high.inf=af\/c<=2*b.high.z)/\2*(bP:J) ∣ c:=by
 let i:jP b.low c↔b.low.inf\/2*b.low.z<=c:=by unfold jP;cases j:b.low.inf with|true=>simp|false=>rw[(g.low j).1];simp
 let k:jA b.high c↔b.high.inf\/c<=2*b.high.z:=by unfold jA;cases j:b.high.inf with|true=>simp|false=>rw[(g.high j).1];simp
 unfold h3;rw[i,k];exact⟨λ⟨d,e,f⟩=>⟨d,e,f g.w⟩,λ⟨d,e,f⟩=>⟨d,e,λ_=>f⟩⟩
def VF{b c:J}(d:(bP:J) ∣ b)(e:(bP:J) ∣ c)(i:b<c):b<=c-bP:=by obtain⟨f,rfl⟩:=d;obtain⟨g,rfl⟩:=e;grind[Int.lt_of_mul_lt_mul_left,bP,qZ,Int.mul_le_mul_of_nonneg_left,Int.mul_add]
def wq(c b:aV):aV:=⟨b.low,gG<|c.low.z-bP,b.dz⟩
def tU(c b:aV):aV:=⟨gG<|c.high.z+bP,b.high,b.dz⟩
def Rq{c d:aV}(f:jJ c)(b:jJ d)(e:c.low.inf=ad):jJ (wq c d):=⟨b.w,λ_=>⟨(b.sV b.w).1,bp ⟨p,RE (f.low e).2⟩⟩⟩
def Hw{c d:aV}(f:jJ c)(b:jJ d)(e:c.high.inf=ad):jJ (tU c d):=⟨b.w,λ_=>⟨bp ⟨p,RD (f.high e).2⟩,(b.sV b.w).2⟩⟩
theorem Hv(b c:aV):re b c=if gE (o8 c b) then[c] else(if b.low.inf then[] else if gE (wq b c) then[] else[wq b c])++(if b.high.inf then[] else if gE (tU b c) then[] else[tU b c]):=p
def Rm{c b:aV}(k:jJ c)(f:jJ b)(j:¬gE (o8 b c)):∃d,h3 b d/\h3 c d:=by
 let e:gE (o8 b c)=ad:=by cases g:gE _<;>simp_all
 let⟨d,i⟩:=(Gk (by unfold o8;rw[ae (by rw[f.w];rfl)];exact Rb)).1 e;grind[YT]
def Y1{b e:aV}(d:jJ b)(i:jJ e)(c:J):hS (re b e) c↔h3 e c/\¬h3 b c:=by
 rw[Hv];split;rename_i n;rw[Dr];exact⟨λf=>⟨f,λg=>FK n c<|YT.2 ⟨f,g⟩⟩,λf=>f.1⟩;rename_i n;let⟨B,w,x⟩:=Rm d i n;rw[i.mem] at w;rw[d.mem] at x;rw[Do];have t:hS (if b.low.inf then[] else if gE (wq b e) then[] else[wq b e]) c↔b.low.inf=ad/\h3 (wq b e) c:=by cases j:b.low.inf with|true=>simp[Dq]|false=>simp_all[adO,FK]
 have u:hS (if b.high.inf then[] else if gE (tU b e) then[] else[tU b e]) c↔b.high.inf=ad/\h3 (tU b e) c:=by cases j:b.high.inf with|true=>simp[Dq]|false=>simp_all[adO,FK]
 rw[t,u,i.mem,d.mem];have A:=by have:=qZ;omega
 constructor;rintro(⟨j,f⟩|⟨j,f⟩);let⟨l,g,k⟩:=((Rq d i j).mem c).1 f;simp[wq,gG,GW] at l g;grind;let⟨l,g,k⟩:=((Hw d i j).mem c).1 f;simp[tU,gG,GW] at l g;grind;rintro⟨⟨l,g,k⟩,y⟩;obtain⟨m,rfl,r⟩:=H7 k;by_cases v:b.low.inf\/2*b.low.z<=2*m;have q:¬(b.high.inf=af\/2*m<=2*b.high.z):=λq=>y ⟨v,q,k⟩;have j:b.high.inf=ad:=by cases s:b.high.inf with|false=>rfl|true=>simp_all
 refine bp ⟨j,((Hw d i j).mem _).2 ⟨bp ?_,g,k⟩⟩;have:=VF (d.high j).2 r o;show 2*(b.high.z+bP)<=2*m;omega;have j:b.low.inf=ad:=by cases s:b.low.inf with|false=>rfl|true=>simp_all
 refine bl ⟨j,((Rq d i j).mem _).2 ⟨l,bp ?_,k⟩⟩;have:=VF r (d.low j).2 o;show 2*m<=2*(b.low.z-bP);omega
def aBv(c b:aV):Q (re c b)<=2:=by grind[Hv,List.length_append,gE,wq,tU]
structure Part(M S:aV):Prop where
 oa:jJ S
 low:M.low.inf=ad->S.low.inf=ad/\M.low.z<=S.low.z
 high:M.high.inf=ad->S.high.inf=ad/\S.high.z<=M.high.z
def Ro{d i:aV}(k:jJ d)(g:jJ i):∀l∈re d i,Part i l:=by
 intro l b;rw[Hv] at b;split at b;obtain rfl:=ea.1 b;exact⟨g,λc=>⟨c,uK _⟩,λc=>⟨c,uK _⟩⟩;rename_i c;let⟨n,e,f⟩:=Rm k g c;rw[g.mem] at e;rw[k.mem] at f;rcases eX.1 b with b|b;split at b;cases b;split at b;cases b;let j:d.low.inf=ad:=by cases m:d.low.inf<;>simp_all
 obtain rfl:=ea.1 b;refine⟨Rq k g j,λc=>⟨c,uK _⟩,λc=>⟨p,?_⟩⟩;rw[j] at f;rw[c] at e;simp at e f;show d.low.z-bP<=i.high.z;omega;split at b;cases b;split at b;cases b;let j:d.high.inf=ad:=by cases m:d.high.inf<;>simp_all
 obtain rfl:=ea.1 b;refine⟨Hw k g j,λc=>⟨p,?_⟩,λc=>⟨c,uK _⟩⟩;rw[j] at f;rw[c] at e;simp at e f;show i.low.z<=d.high.z+bP;omega
theorem Y2{b c:aV}(d:jJ b)(j:jJ c)(q:gE b=ad)(f:1<Q (re b c)):re b c=[wq b c,tU b c]/\uV (wq b c) (tU b c)/\b.high.inf=ad/\(c.high.inf=ad->b.high.z+bP<=c.high.z):=by
 let t:=by have:=qZ;omega
 rw[Hv] at f⊢;split at f;trivial;rename_i m;rw[ab m];cases n:b.low.inf with
 |true=>grind|false=>cases e:b.high.inf with|true=>grind|false=>simp only[Kz] at f⊢;by_cases k:gE (wq b c);grind;by_cases l:gE (tU b c);simp_all;rw[ab k,ab l];let⟨u,g⟩:=(Gk d.sV).1 q;rw[d.mem,n,e] at g;simp at g;refine⟨p,⟨p,p,?_⟩,c1,λr=>?_⟩;show b.low.z-bP<b.high.z+bP;omega;let⟨v,i⟩:=(Gk (Hw d j e).sV).1 (by cases s:gE (tU b c)<;>simp_all);rw[(Hw d j e).mem] at i;simp[tU,gG,Wf,GW,r] at i;omega
def uV.part{c e b d:aV}(l:uV c e)(j:Part c b)(k:Part e d):uV b d:=by let⟨g,i,q⟩:=l;let⟨ch,m⟩:=j.high g;let⟨f,n⟩:=k.low i;exact⟨ch,f,o⟩
def aou{b c:aV}(j:jJ b)(i:jJ c)(g:gE b=ad):uR uV (re b c):=by
 rcases fF 1 (Q (re b c)) with d|d;grind[Y2]
 match f:re b c,d with|[],_=>simp|[e],_=>simp
def aoy{f:aV}(i:jJ f):∀c:X aV,(∀d∈c,jJ d)->uR uV c->(∀b∈s0 c f,jJ b)/\uR uV (s0 c f)/\Q (s0 c f)<=Q c+1:=by
 intro c e r;unfold s0;split;simp_all;let s:gE f=ad:=by cases H:gE f<;>simp_all
 let t:=λd k=>Ro i<|e d k;refine⟨λb g=>?_,?_,?_⟩;let⟨d,k,g⟩:=Cb.1 g;exact(t d k b g).oa;clear t
 induction c with|nil=>trivial|cons d c v=>let⟨l,n⟩:=mi.1 r;refine Ki.2 ⟨aou i (e d av) s,v (λd k=>e d aY) n,λw A x m=>?_⟩;let⟨b,g,m⟩:=Cb.1 m;exact(l b g).part (Ro i (e d av) w A) (Ro i (e b aY) x m)
 induction c with
 |nil=>simp|cons d c v=>
  let⟨l,n⟩:=mi.1 r;rw[ts,cX,kN];rcases fF 1 _ with u|u;let⟨_,_,z,I⟩:=Y2 i (e d av) s u;have:∀j:X aV,(∀b∈j,b∈c)->Q (lv (re f) j)=Q j:=by
   intro j hm
   induction j with
   |nil=>rfl|cons b j B=>
    let g:=hm b av;let⟨F,y,G⟩:=l b g;let q:gE (o8 b f):=by
     cases q:gE _ with
     |true=>rfl|false=>
      let⟨K,C,D⟩:=Rm i (e b aY) ap;rw[(e b aY).mem,y] at C;rw[i.mem,z] at D
      (simp_all;omega)
    rw[ts,cX,B λE J=>hm E aY,Hv,ae q]
    (simp;omega)
  (simp_all;omega)
  (simp_all;omega)
def aoz{i:aV}(k:jJ i)(g:X aV)(j:∀c∈g,jJ c)(b:J):hS (s0 g i) b↔hS g b/\¬h3 i b:=by unfold s0;split;grind[FK];unfold hS;constructor;rintro⟨l,d,e⟩;let⟨c,f,d⟩:=Cb.1 d;have:=(Y1 k (j c f) b).1 ⟨l,d,e⟩;grind;rintro⟨⟨c,f,e⟩,m⟩;let⟨l,d,n⟩:=(Y1 k (j c f) b).2 ⟨e,m⟩;grind
def Rc(M:aV):jJ (nn M):=⟨p,Rb (M:=M)⟩
def Rp:∀(c b:X aV),(∀l∈b,jJ l)->uR uV b->(∀m∈ou b c,jJ m)/\Q (ou b c)<=Q b+Q c/\∀d,hS (ou b c) d↔hS b d/\∀e∈c,¬h3 (nn e) d|[],b,g,f=>by(simp[ou];omega)|e::c,b,g,f=>by let⟨j,k,r⟩:=aoy (Rc e) b g f;let⟨i,n,q⟩:=Rp c _ j k;rw[ou];refine⟨i,a2,λd=>?_⟩;simp_all[aoz,Rc,fR,forall_eq_or_imp,and_assoc]
def U3:∀(d:X aV),∀c∈gH d,c∈d/\c.dz=ad|[],c,b=>by cases b|g::d,c,b=>by rw[gH] at b;split at b;let⟨e,f⟩:=U3 d c b;simp_all;rcases fR.1 b with rfl|b;simp_all;let⟨e,f⟩:=U3 d c b;simp_all
def V8:∀(d:X aV),(∀c∈d,kP c)->∀c∈gt d,jJ c|[],_,c,b=>by cases b|f::d,e,c,b=>by let j:=V8 d λc i=>e c aY;rw[gt] at b;split at b;simp_all;split at b;rename_i g;rcases fR.1 b with rfl|b;exact⟨g,e c av⟩;simp_all;split at b;rcases fR.1 b with rfl|b;exact Rc f;simp_all;simp_all
theorem agG:∀b:X aV,Q (gH b)<=Q b|[]=>cc|c::b=>by have:=agG b;grind[gH]
theorem ajg:∀b:X aV,Q (gt b)<=Q b|[]=>cc|c::b=>by have:=ajg b;grind[gt]
def afE(b:J):∀f:X aV,hS f b↔hS (gH f) b\/hS (gt f) b
|[]=>by simp[gH,gt]|c::f=>by
 rw[Dp,afE b f,gH,gt];by_cases l:gE c;grind[FK];by_cases j:c.dz;rw[ae<|bp<|bl j,ab l,ae j,Dp];grind;by_cases k:BU c/\(bP:J) ∣ c.low.z;rw[ae<|bp<|bp k,ab l,ab j,ae k,Dp,Lm];have:h3 c b↔jP c.low b/\jA c.high b/\2*(bP:J) ∣ b:=by
  refine⟨λ⟨d,e,_⟩=>⟨d,e,?_⟩,λ⟨d,e,i⟩=>⟨d,e,λ_=>i⟩⟩;let⟨g,i,m⟩:=k;unfold BU at g;simp at g;unfold jP at d;unfold jA at e;rw[g.1.1] at d;rw[g.1.2] at e;simp at d e;have:b=2*c.low.z:=by split at d<;>split at e<;>omega
  exact⟨i,aY⟩
 grind;simp_all[ab,Dp,or_assoc]
theorem RS{d:X aV}(g:aV):Q (o9 d g)<=2/\∀c∈o9 d g,c.dz=ad/\∀b,h3 c b->hS d b:=by
 let l:∀e,Q (s5 d e)<=1/\∀c∈s5 d e,c.dz=ad/\∀b,h3 c b->hS d b:=by intro e;unfold s5;split;refine⟨av,λc i=>?_⟩;obtain rfl:=ea.1 i;refine⟨p,λb f=>?_⟩;let j:=as9.1 f.1;let k:=aq5.1 f.2.1;grind[Mp];simp
 grind[o9,List.length_append]
def aaE(c:aV->X aV)(d:∀e,Q (c e)<=2):∀b:X aV,Q (lv c b)<=2*Q b|[]=>av|f::b=>by have:=aaE c d b;grind
theorem WU{b:aV}(d:b.dz=ad):kP b:=λc=>ap
def yw(b:X aV):X aV:=lb (gH b++lv (o9<|gt b) (gH b)) ad
def auB(b:X aV):vA b=kq (yw b++ou (lb (gt b) af) (yw b)):=p
def agE(b:X aV):Q (yw b)<=3*Q b:=by let d:=ab9 ad<|gH b++lv (o9<|gt b) (gH b);let e:=aaE (o9<|gt b) (λc=>(RS c).1)<|gH b;grind[agG,List.length_append,yw]
def JU{c:X aV}(d:∀b∈c,kP b):∀b∈gt c,b.dz/\kP b:=λb e=>⟨(V8 c d b e).w,(V8 c d b e).sV⟩
def Y6{c:X aV}(e:∀b∈c,kP b)(d:X aV):Q (ou (lb (gt c) af) d)<=Q c+Q d:=by let g:=aca<|JU e;let i:=(Rp d _ (λb f=>⟨(g b f).1,(g b f).2⟩)<|ab8<|JU e).2.1;grind[ab9,gt,ajg]
def aeJ{b:X aV}(i:∀d∈b,kP d)(c:J):hS (vA b) c↔hS b c:=by
 let l:=aca<|JU i;let k:hS (yw b) c↔hS (gH b) c\/hS (lv (o9<|gt b)<|gH b) c:=by
  unfold yw;rw[ab_ (by
   intro d g;have:d.dz=ad:=by rcases eX.1 g with g|g;exact(U3 b d g).2;grind[RS]
   grind[WU]),Do]
 let he:hS (lv (o9<|gt b)<|gH b) c->hS (gt b) c:=by rintro⟨d,f,j⟩;let⟨v,w,f⟩:=Cb.1 f;exact((RS v).2 d f).2 c j
 rw[auB,adP,Do,(Rp (yw b) (lb (gt b) af) (λd f=>⟨(l d f).1,(l d f).2⟩)<|ab8<|JU i).2.2 c,ab_<|JU i,afE c b];constructor;grind;rintro(j|j);simp_all;by_cases u:∀e∈yw b,¬h3 (nn e) c;simp_all;refine bl ?_;let⟨e,s,t⟩:∃e,e∈yw b/\h3 _ c:=yK λr=>u λe k q=>r ⟨e,k,q⟩;let⟨m,n,_⟩:=(Lm e c).1 t;exact⟨e,s,m,n,λx=>o⟩
def auC{b:X aV}(d:∀e∈b,kP e)(c:J):pP (vA b) c=pP b c:=by rw[lT,Mp,Mp,aeJ d]
def auF{c:X aV}(d:∀b∈c,kP b)(e:∀b∈c,gE b=ad):vA c=[]↔c=[]:=by
 constructor;intro i;cases c with|nil=>rfl|cons b c=>let⟨g,f⟩:=(Gk<|d b av).1<|e b av;have:=(aeJ d g).2 ⟨b,av,f⟩;grind[b9,Dq]
 rintro rfl;rfl
def ajf{c:bT}(n:fL c):Pj c↔(bP:J) ∣ bu c:=by
 rw[Int.ofNat_dvd_left,BH];unfold Pj;rw[ir];constructor;intro q;rw[show aB (c.exp+30)=30+aB c.exp by omega,qa]
 (simp[cu,bP,ake];omega)
 intro m;refine oP λu=>?_;let⟨i,r,g⟩:=n;rcases g with⟨_,_,g⟩|⟨g,_,j⟩;omega;obtain⟨b,he⟩:∃b:Z,c.exp=-(b+1):=⟨aB<|-c.exp-1,o⟩;let⟨w,d⟩:=m;rw[show aB (c.exp+30)=29-b by omega,show bP=10^(29-b)*(10*10^b) by unfold bP;rw[show 30=29-b+(b+1) by omega,qa,rR 10 b,lV 10],lV _,qU] at d;let d:=aj7 (pw aR) d;rcases ajO _ with e|⟨v,f,e⟩;trivial;let e:=by simpa using e
 rw[e] at d i j;rw[Y_] at d;let s:=ve i f av;let l:f≠48:=λk=>j ap;let t:aG f≠48:=λk=>l (by apply Kp.1;trivial);grind
def eZ.k3(b:eZ)(d:J):Y:=if(b.w.any λc=>aL<|2*bu c=d) then z b.on (b.w.countP λc=>aL<|2*bu c<d) ad
 else if 2*(bP:J) ∣ d then(z b.ie (b.w.countP λc=>aL<|2*bu c<d) ai).w
 else(z b.ie (b.w.countP λc=>aL<|2*bu c<d) ai).o
def Hz{c:J}:2*(bP:J) ∣ 2*c↔(bP:J) ∣ c:=by constructor;rintro⟨b,d⟩;exact⟨b,aY⟩;rintro⟨b,d⟩;exact⟨b,aY⟩
def Mq(d:eZ){c:bT}(g:fL c):d.has c=d.k3 (2*bu c):=by
 let e:(λb=>aL<|2*bu b=2*bu c)=λb=>aL (bu b=bu c):=by funext b;refine qW.2 ?_;omega
 let f:(λb=>aL<|2*bu b<2*bu c)=λb=>aL (bu b<bu c):=by funext b;refine qW.2 ?_;omega
 unfold eZ.has eZ.k3 Bj low mP.has;rw[e,f];split;rfl;have:=ajf g;simp_all[ab,Hz]
abbrev tK(d:X bT):Prop:=d.Pairwise λb c=>bu b<bu c
def y4.up{b:X bT}(e:y4 b):tK b:=by unfold tK;rw[Cc];intro f g j d c;exact e.2 f g j d c
theorem CK:∀{c:X bT},tK c->∀(d:J)(b:Z)(j:b<Q c),2*bu c[b]<d↔b<c.countP λe=>aL (2*bu e<d)
|[],_,_,b,j=>cc|f::c,k,d,b,j=>by
 let⟨g,i⟩:=mi.1 k;rw[List.countP_cons];by_cases n:2*bu f<d;rw[ae ap];cases b with|zero=>(simp;omega)|succ b=>simp;have:=CK i d b ap;omega
 rw[ab ap];let m:(c.countP λe=>aL<|2*bu e<d)=0:=by rw[Pw];intro e l;have:=g e l;simp;omega
 grind
def Hs{b:X bT}(i:tK b){d:J}(l:P<=Q b)(j:∀c(g:c<Q b),c<P->2*bu b[c]<d)(k:∀c(g:c<Q b),P<=c->d<=2*bu b[c]):(b.countP λe=>aL<|2*bu e<d)=P:=by let m:(b.countP λe=>aL<|2*bu e<d)<=Q b:=B8;rcases GO (b.countP λe=>aL<|2*bu e<d) P with f|f|f;grind[CK,aL,bu];exact f;have:=(CK i d P o).2 f;grind
def wF(d:Y->Y->Y)(b c:mP):mP:=⟨d b.o c.o,d b.w c.w⟩
def np(f:Y->Y->Y)(e:X bT)(b c:eZ):eZ:=⟨e,e.map λd=>f (b.has d)<|c.has d,(e.map λd=>wF f (z b.ie (low b.w d) ai)<|z c.ie (low c.w d) ai)++[wF f (z b.ie (Q b.w) ai) (z c.ie (Q c.w) ai)]⟩
def ahN{c e:X bT}(k:tK c)(g:∀b∈e,b∈c){d:J}(l:∀b∈c,2*bu b≠d):(e.countP λb=>aL<|2*bu b<d)=if m:(c.countP λb=>aL<|2*bu b<d)<Q c then low e c[c.countP λb=>aL<|2*bu b<d] else Q e:=by split;refine List.countP_congr λb f=>?_;obtain⟨i,j,rfl⟩:=lU.1<|g b f;rw[ir,ir];rw[CK k d i j];constructor;grind[List.pairwise_iff_getElem];grind[Nat.lt_or_ge,aL,bu,List.pairwise_iff_getElem];rw[Kc];intro b f;obtain⟨i,j,rfl⟩:=lU.1<|g b f;grind[decide_eq_true,CK]
def an5{i:Y->Y->Y}{c:X bT}{e f:eZ}(l:tK c)(v:∀b∈c,fL b)(r:∀b∈e.w,b∈c)(s:∀b∈f.w,b∈c)(d:J):(np i c e f).k3 d=i (e.k3 d) (f.k3 d):=by
 by_cases hit:∃b∈c,2*bu b=d;obtain⟨b,g,rfl⟩:=hit;obtain⟨n,j,rfl⟩:=lU.1 g;have D:(c.countP λb=>aL<|2*bu b<2*bu c[n])=n:=by refine Hs l o (λk u F=>?_) λk u E=>?_;grind[List.pairwise_iff_getElem];rcases fF n k with m|m;grind[List.pairwise_iff_getElem];grind
 rw[<-Mq e (v _ g),<-Mq f (v _ g)];unfold eZ.k3;grind[np,List.getElem?_eq_getElem];have x:∀b∈c,2*bu b≠d:=λb g q=>hit ⟨b,g,q⟩;have none:∀{L:X bT},(∀b∈L,b∈c)->¬(L.any λb=>aL<|2*bu b=d):=λG q=>by grind
 have y:=ahN l r x;have A:=ahN l s x;unfold eZ.k3;rw[ab<|none (L:=(np i c e f).w) λb g=>g,ab<|none r,ab<|none s,y,A];have B:(np i c e f).ie.getD ((np i c e f).w.countP λb=>aL<|2*bu b<d) ai=wF i (z e.ie (if m:(c.countP λb=>aL<|2*bu b<d)<Q c then low e.w c[c.countP λb=>aL<|2*bu b<d] else Q e.w) ai) (z f.ie (if m:(c.countP λb=>aL<|2*bu b<d)<Q c then low f.w c[c.countP λb=>aL<|2*bu b<d] else Q f.w) ai):=by simp only[np];have C:(c.countP λb=>aL<|2*bu b<d)<=Q c:=B8;generalize (c.countP λb=>aL<|2*bu b<d)=k at C;by_cases u:k<Q c;grind;grind
 rw[B];by_cases t:2*(bP:J) ∣ d;simp only[ae t,wF];simp only[ab t,wF]
def azb(c:gb)(b:J):h3 (kr c) b↔jP (nV c.low) b/\jA (nV c.high) b/\(c.dz=af->2*(bP:J) ∣ b):=by grind[kr,Lm,h3,b9]
def Vw(b:gb):kP (kr b):=by unfold kr;split;exact Rb;exact WU p
def gb.oa(c:gb)(b:J):Y:=if 2*(bP:J) ∣ b then af else !c.dz
def aA4(c:gb)(b:J):c.oa b↔c.dz->2*(bP:J) ∣ b:=by unfold gb.oa;grind
def Mi(b:gb)(c:J):(if 2*(bP:J) ∣ c then(iU b).w else(iU b).o)=b.oa c:=p
def FJ(b:J):(if 2*(bP:J) ∣ b then oF.w else oF.o)=ad:=by split<;>rfl
def Jy(e:gb){b:lY}(f:fL b.n):po b (iU e)=(!b.op&&e.oa (2*bu b.n)):=by unfold po;unfold mP.has;have:=ajf f;by_cases c:(bP:J) ∣ bu b.n;rw[ae<|this.2 c];unfold gb.oa;rw[ae<|Hz.2 c];rfl;rw[ab λd=>c<|this.1 d];unfold gb.oa;rw[ab λd=>c<|Hz.1 d];rfl
def adj{b:lY}(d:b.has)(c:J):jP (nV b) c↔2*bu b.n+(if b.op then 1 else 0)<=c:=by simp_all[nV,jP,ae]
def abx{b:lY}(d:b.has)(c:J):jA (nV b) c↔c<=2*bu b.n-(if b.op then 1 else 0):=by simp_all[nV,jA,ae]
def as_{b:lY}(d:¬b.has)(c:J):jP (nV b) c:=by unfold nV jP;simp_all
theorem Sv{b:lY}(d:¬b.has)(c:J):jA (nV b) c:=by unfold nV jA;simp_all
def Qz(b:mP)(c:J):eZ.k3 ⟨[],[],[b]⟩ c=if 2*(bP:J) ∣ c then b.w else b.o:=p
def QA(e:bT)(f:Y)(c d:mP)(b:J):eZ.k3 ⟨[e],[f],[c,d]⟩ b=if 2*bu e=b then f else if 2*bu e<b then(if 2*(bP:J) ∣ b then d.w else d.o) else if 2*(bP:J) ∣ b then c.w else c.o:=by unfold eZ.k3;grind
def alG{d c:bT}{i j:Y}{e f g:mP}(n:bu d<bu c)(b:J):eZ.k3 ⟨[d,c],[i,j],[e,f,g]⟩ b=if 2*bu d=b then i else if 2*bu c=b then j else if 2*bu c<b then(if 2*(bP:J) ∣ b then g.w else g.o) else if 2*bu d<b then(if 2*(bP:J) ∣ b then f.w else f.o) else if 2*(bP:J) ∣ b then e.w else e.o:=by
 let l:([d,c].countP λk=>aL<|2*bu k<b)=if 2*bu c<b then 2 else if 2*bu d<b then 1 else 0:=by by_cases m:2*bu c<b;grind;grind
 unfold eZ.k3;grind
theorem OZ{b:gb}(r:rJ b)(e:J):(mf b).k3 e↔h3 (kr b) e:=by
 rw[azb,<-aA4];let k:=λm=>FH<|r.1 m;let q:=λm=>FH<|r.2 m;by_cases c:b.low.has;by_cases d:b.high.has;let g:sq b=fm (bu b.low.n-bu b.high.n):=by rw[sq,ae ⟨c,d⟩,FR (k c)<|q d]
 rw[adj c,abx d];unfold mf;rw[g];by_cases l:0<fm (bu b.low.n-bu b.high.n);have:=Jr.1 l;let i:wW.k3 e=ad:=by rw[show wW=⟨[],[],[oF]⟩ from p,Qz,FJ]
 (simp_all;omega)
 rw[ab l];by_cases j:fm (bu b.low.n-bu b.high.n)=0;rw[ae j];have:=z7.1 j;rw[QA,FJ,Jy b<|k c];grind;rw[ab j,ae d];let s:bu b.low.n<bu b.high.n:=by have:¬0<bu b.low.n-bu b.high.n:=λf=>l<|Jr.2 f;have:¬bu b.low.n-bu b.high.n=0:=λf=>j<|z7.2 f;omega
 let i:i5 b=⟨[b.low.n],[po b.low (iU b)],[oF,iU b]⟩:=by rw[i5,ae c]
 rw[i];show eZ.k3 ⟨[b.low.n,b.high.n],[po b.low (iU b),po b.high (iU b)],[oF,iU b,oF]⟩ e↔_;rw[alG s,FJ,Mi,Jy b<|k c,Jy b<|q d];grind;let g:sq b=-1:=by rw[sq,ab λf=>d f.2]
 rw[adj c];unfold mf;rw[g,ab o,ab o,ab d,i5,ae c,QA,FJ,Mi,Jy b<|k c];by_cases t:2*bu b.low.n=e;grind[Sv];rw[ab t];by_cases u:2*bu b.low.n<e;grind[Sv]
 (simp;omega)
 let g:sq b=-1:=by rw[sq,ab λf=>c f.1]
 let i:i5 b=⟨[],[],[iU b]⟩:=by rw[i5,ab c]
 let v:=as_ c e;unfold mf;rw[g,ab o,ab o,i];by_cases d:b.high.has;rw[ae d,abx d];show eZ.k3 ⟨[b.high.n],[po b.high (iU b)],[iU b,oF]⟩ e↔_;rw[QA,FJ,Mi,Jy b<|q d];grind;simp_all[ab,Qz,Mi,Sv]
def DE:(c:X bT)->(∀b∈c,fL b/\wb b)->X tG|[],_=>[]|d::c,e=>⟨d,e d av⟩::DE c (λb f=>e b (by simp[f]))
def N8{f:Type}(d:bT->f):∀(b:X bT)(e:∀c∈b,fL c/\wb c),((DE b e).map λc=>d c.1)=aa d b|[],_=>p|g::b,e=>ep _<|N8 d b _
theorem awb(b:X bT)(c:∀d∈b,fL d/\wb d):Q (DE b c)=Q b:=by have:=ep Q<|N8 id b c;simp_all
noncomputable def pn(c:X bT):X bT:=open Classical in if d:∀b∈c,fL b/\wb b then aa (λb=>b.1) (qO<|DE c d) else c
def ah0{L:X bT}:(pn L).Perm L:=by unfold pn;split;rename_i b;have d:=(Vt<|DE L b).1.map λc=>c.1;have e:=bC (N8 id L b)<|GL L;simp_all;rfl
def ay9(b:X bT)(c:∀d∈b,fL d/\wb d)(i:Q b<=1000000):dF 135 [.aq 6001 0 (Q (aa cn b)),e4 (dp 131) [] []] [(6001,.h 3 26 (aa cn b))] (cs []) [(6001,.h 3 26 (aa cn (pn b)))]:=by
 have g:=ay_ (DE b c) (by grind[awb]);have e:=N8 cn b c;have f:((qO (DE b c)).map λd=>cn d.1)=aa cn (pn b):=by unfold pn;rw[Ck c,gh];rfl
 simp_all
def YV{c:X bT}(q:c.Pairwise λf l=>bu f<=bu l)(k:∀d∈c,fL d):∀b,b<=Q c->tK (fM c b)/\∀d,d∈fM c b↔d∈ak b c
|0,_=>by simp[fM]|b+1,y=>by
 let⟨m,n⟩:=YV q k b o;let v:=Cc.1 q;rw[fM,Ee o,Bh<|show b<Q c by omega];split;rename_i e;rw[Bh<|show b-1<Q c by omega] at e;refine⟨m,λd=>?_⟩;rw[n,eX,ea];refine⟨bl,λi=>i.elim id λg=>?_⟩;rw[g,e.2];exact PG.2 ⟨b-1,o,p⟩;rename_i e;refine⟨Ki.2 ⟨m,Am _ _,λf t l u=>?_⟩,λd=>?_⟩;obtain rfl:=ea.1 u;obtain⟨r,j,rfl⟩:=PG.1<|(n f).1 t;rcases oR b with s|s;omega;rw[Bh<|show b-1<Q c by omega] at e;let ch:=v (b-1) b o o o;let w:bu _≠bu _:=λg=>e ⟨o,aus (k _<|fK _) (k _<|fK _)<|bG g⟩;let x:bu c[r]<=bu c[b-1]:=by rcases fF r (b-1) with i|i;simp_all;grind
 omega;grind
noncomputable def nF(b c:X bT):X bT:=fM (pn<|jj [b,c])<|Q<|pn<|jj [b,c]
def NE{c:bT}(b:Small c):wb c:=⟨by have:=b.1;omega,by have:=b.2.1;omega,by have:=b.2.2;omega⟩
theorem R5{c d:X bT}{b:bT}:b∈jj [c,d]↔b∈c\/b∈d:=av
def O8{b c:X bT}(g:y4 b)(i:y4 c):tK (nF b c)/\(∀f,f∈nF b c↔f∈b\/f∈c)/\Q (nF b c)<=Q b+Q c:=by
 let d:∀e∈jj [b,c],fL e/\wb e:=λe l=>by rcases R5.1 l with d|d;exact⟨(g.1 e d).1,NE (g.1 e d).2⟩;exact⟨(i.1 e d).1,NE (i.1 e d).2⟩
 let j:=ah0 (L:=jj [b,c]);let⟨k,q⟩:=YV (by simp_all[pn,Ck,PI,Vt]) (λf m=>(d f<|j.mem_iff.1 m).1) _<|bz _;refine⟨k,λf=>?_,?_⟩;grind[nF,List.take_length,R5];have:=YW (pn<|jj [b,c])<|Q<|pn<|jj [b,c];let n:Q (pn<|jj [b,c])=Q b+Q c:=by rw[j.length_eq];simp
 grind[nF]
def g9(d b:X bT)(c:Z):Z:=if e:c<Q b then low d b[c] else Q d
def ads{c:X bT}(f:tK c)(d:bT)(b:Z)(e:b<Q c):bu c[b]<bu d↔b<low c d:=by have:=CK f (2*bu d) b e;grind[low]
def TA(b c:X bT)(d:Z):g9 b c d<=Q b:=by unfold g9;split;exact B8;omega
def adf{b c:X bT}(g:tK b)(r:tK c)(u:∀w∈b,w∈c)(s:P<Q c):g9 b c (P+1)=g9 b c P+if g9 b c P<Q b/\z b (g9 b c P) ai=c[P] then 1 else 0:=by
 let y:=Cc.1 r;let n:g9 b c P=low b c[P]:=by unfold g9;rw[Ck s]
 rw[n];let x:=ads g c[P];let B:low b c[P]<=Q b:=B8;let m:∀d(j:d<Q b),d<g9 b c (P+1)↔bu b[d]<bu c[P]\/b[d]=c[P]:=by
  intro d j;let⟨v,D,k⟩:=lU.1<|u _<|fK j;let t:bu b[d]<bu c[P]\/b[d]=c[P]↔v<=P:=by rw[<-k];constructor;grind;grind
  rw[t];unfold g9;split;rename_i A;rw[<-ads g c[P+1] d j,<-k];grind;omega
 let C:=TA b c<|P+1;by_cases e:low b c[P]<Q b/\z b (low b c[P]) ai=c[P];rw[ae e];rw[Bh e.1] at e;let ch:=(m _ e.1).2<|bp e.2;refine Km (Kn λq=>?_) ch;let l:low b c[P]+1<Q b:=o;let f:=(m _ l).1 q;let i:=Cc.1 g (low b c[P]) (low b c[P]+1) e.1 l o;rw[e.2] at i;rcases f with f|f;omega;rw[f] at i;omega;grind
theorem adg{b c:X bT}(i:tK c)(e:∀d∈b,d∈c):g9 b c 0=0:=by unfold g9;split;unfold low;rw[Pw];intro d g;obtain⟨k,j,rfl⟩:=lU.1<|e d g;grind[List.pairwise_iff_getElem];cases b with|nil=>rfl|cons f b=>have:=PD<|e f av;omega
def xN(e:Y->Y->Y)(c d:eZ)(b:bT):Y:=e (c.has b)<|d.has b
def zh(e:Y->Y->Y)(b c:eZ)(d:bT):mP:=wF e (z b.ie (low b.w d) ai)<|z c.ie (low c.w d) ai
def QT(e g:eZ)(b c:Z)(d:gP)(q:Y->Y->Y)(i:mo b5 d)(l:∀m n,bb d [a6 m,a6 n] (a6 (q m n)))(t:b<Q e.ie)(r:c<Q g.ie)(u:b<=1000000)(v:c<=1000000):bb 137 [fy 3 [mv e] 0 0,fy 1 [k b] 0 0,fy 3 [mv g] 0 0,fy 1 [k c] 0 0,fy 1 [e4 (dp d) [] []] 0 0] (hZ (wF q (z e.ie b ai) (z g.ie c ai))):=by refine bx func137 [] λs w=>?_;refine aZ.eQ 1006 SA.size 201 [] ah ?_;refine aZ.eQ 1007 SA.size 201 [] ah ?_;refine eS ?_;refine br (λ_=>bi b _ p) ?_;refine br (λ_=>bi c _ p (j:=gD r)) ?_;refine D5 1006 6 ?_;refine D5 1007 7 ?_;refine fx ?_;refine fx ?_;refine fZ ?_;refine eS ?_;refine br (λ_=>cf p (bS:=i) (f:=l _ _)) ?_;refine br (λ_=>cf p (bS:=i) (f:=l _ _)) ?_;refine fx ?_;refine fZ ?_;exact dB bq
def an_(g d:eZ)(s:gP)(l:Y->Y->Y)(E:mo b5 s)(F:∀m N,bb s [a6 m,a6 N] (a6 (l m N)))(t:g.ok)(bS:d.ok)(bQ:Q g.w+Q d.w<=100000)(ax:0<Q g.w+Q d.w):bb 84 [mv g,mv d,e4 (dp s) [] []] (mv (np l (nF g.w d.w) g d)):=by
 refine bx func84 [2003,2007,2010,2011,2017] λaw ay=>?_;obtain⟨G,B,au⟩:=O8 t.1 bS.1;have X:∀v∈jj [g.w,d.w],fL v/\wb v:=λv U=>by rcases R5.1 U with x|x;exact⟨(t.1.1 v x).1,NE (t.1.1 v x).2⟩;exact⟨(bS.1.1 v x).1,NE (bS.1.1 v x).2⟩
 have R:[g.w,d.w].flatten.length=Q g.w+Q d.w:=av;have aJ:Q (pn (jj [g.w,d.w]))=Q g.w+Q d.w:=by rw[(ah0).length_eq,R]
 have I:∀m∈g.w,m∈nF g.w d.w:=λm q=>(B m).2<|bl q;have K:∀m∈d.w,m∈nF g.w d.w:=λm q=>(B m).2<|bp q;have H:nF g.w d.w=fM (pn (jj [g.w,d.w])) (Q (pn (jj [g.w,d.w]))):=p;generalize nF g.w d.w=b at G B au I K H⊢;have aB:Q (aa cn b)=Q b:=bg _;have aD:=t.2.2.2.1;have aE:=bS.2.2.2.1;have P:∀m∈b,fL m/\Small m:=λm q=>((B m).1 q).elim (t.1.1 m)<|bS.1.1 m;have am:=λi=>TA g.w b i;have ao:=λi=>TA d.w b i;refine er ?_;refine bI [(24,19)] ?_ (f:=aoh [g.w,d.w] o o av);refine bI [(6001,19)] ?_ (f:=ay9 (jj [g.w,d.w]) X o);refine gf kc (λm=>⟨[(3,c 3),(4,c 4),(5,c 5),(6,c 6),(7,.aq 19 0<|Q<|aa cn<|fM (pn<|jj [g.w,d.w])<|Q<|pn<|jj [g.w,d.w])],[(3,ag 71<|mv g),(4,ag 71<|mv d),(5,ag 160<|e4 (dp s) [] []),(6,ag 71<|V.zero Bl.z),(19,.h 3 26<|aa cn<|fM (pn<|jj [g.w,d.w])<|Q<|pn<|jj [g.w,d.w])],[]⟩) (λ_=>dW) ?_ λm q=>?_
 .refine bI [(5001,19)] ?_ (f:=aob (pn<|jj [g.w,d.w]) (Q<|[g.w,d.w].flatten.map cn) o ap);exact cA ()
 rw[<-H];refine aZ.eQ 1100 2 201 [] (W (8,2)) ?_;refine aZ.eQ 1101 1 4 [] (W (8,1)) ?_;refine dM ?_;refine dv (Z×J×J) (λn=>⟨[(3,c 3),(4,c 4),(5,c 5),(6,c 6),(8,c 8),(9,c 9),(10,c 10),(11,_),(27,_),(28,_),(29,k n.1)],[(3,_),(4,_),(5,_),(6,_),(8,ag 71<|bH [.aq 19 0 (Q<|aa cn b),.aq 1101 0<|Q<|aa a_<|aa (xN l g d)<|ak n.1 b,.aq 1100 0<|Q<|aa hZ<|aa (zh l g d)<|ak n.1 b]),(9,ag 3<|an aj n.2.1),(10,ag 3<|an aj n.2.2),(19,.h 3 26<|aa cn b),(1100,.h 2 201<|aa hZ<|aa (zh l g d)<|ak n.1 b),(1101,.h 1 4<|aa a_<|aa (xN l g d)<|ak n.1 b)],[]⟩) (λn=>n.1<=Q b/\n.2.1=(g9 g.w b n.1:Z)/\n.2.2=(g9 d.w b n.1:Z)) (λn=>Q b-n.1) (0,0,0) (λ⟨i,aK,aL⟩ aH=>?_) ⟨dO _,by grind[adg],by grind[adg]⟩ .r;dsimp only at aH⊢;obtain⟨aF,rfl,rfl⟩:=aH;have aG:=am i;have aI:=ao i;have al:Q (aa a_ (aa (xN l g d) (ak i b)))=i:=a2;have T:Q (aa hZ (aa (zh l g d) (ak i b)))=i:=a2;apply e<;>intro az
 .have u:i<Q b:=o;have C:g9 g.w b i=low g.w b[i]:=by unfold g9;rw[Ck u]
  have D:g9 d.w b i=low d.w b[i]:=by unfold g9;rw[Ck u]
  have y:=P _<|fK u;have L:=adf t.1.up G I u;have A:=adf bS.1.up G K u;have M:=Ee u;refine cC i ?_;refine e9 (cn b[i]) ?_ (j:=hR u);refine gf kc (λm=>⟨[(3,c 3),(4,c 4),(5,c 5),(6,c 6),(8,c 8),(9,c 9),(10,c 10),(11,e4 (dp 137) [] [c 3,c 9,c 4,c 10,c 5]),(13,c 13),(27,.aq 19 0<|Q<|aa cn b),(28,k<|Q<|aa cn b),(29,k i)],[(3,ag 71<|mv g),(4,ag 71<|mv d),(5,ag 160<|e4 (dp s) [] []),(6,ag 71<|V.zero Bl.z),(8,ag 71<|bH [.aq 19 0 (Q<|aa cn b),.aq 1101 0<|Q<|aa a_<|aa (xN l g d)<|ak i b,.aq 1100 0<|Q<|aa hZ<|aa (zh l g d)<|ak (i+1) b]),(9,ag 3<|an aj ((g9 g.w b i:Z):J)),(10,ag 3<|an aj ((g9 d.w b i:Z):J)),(13,ag 26<|cn b[i]),(19,.h 3 26<|aa cn b),(1100,.h 2 201<|aa hZ<|aa (zh l g d)<|ak (i+1) b),(1101,.h 1 4<|aa a_<|aa (xN l g d)<|ak i b)],[]⟩) (λ_=>dW) ?_ λm q=>?_
  .refine eS ?_;refine Pp [3,9,4,10,5] ?_;apply AG.mk;intro ar;refine kz ?_ (f:=QT g d (g9 g.w b i) (g9 d.w b i) s l E F o o o o);exact p;refine br (λ_=>lf p) ?_;refine lS 38 (aa hZ<|aa (zh l g d)<|ak (i+1) b) ?_ (aW:=by rw[M,dn,dn,C,D];rfl) (bQ:=aY) (mX:=cR) (vq:=cR);refine fx ?_;refine kU [(38,1100)] ?_;exact cA ()
  refine gf kc (λm=>⟨[(3,c 3),(4,c 4),(5,c 5),(6,c 6),(8,c 8),(9,c 9),(10,c 10),(11,e4 (dp 137) [] [c 3,c 9,c 4,c 10,c 5]),(13,c 13),(27,.aq 19 0<|Q<|aa cn b),(28,k<|Q<|aa cn b),(29,k i)],[(3,ag 71<|mv g),(4,ag 71<|mv d),(5,ag 160<|e4 (dp s) [] []),(6,ag 71<|V.zero Bl.z),(8,ag 71<|bH [.aq 19 0 (Q<|aa cn b),.aq 1101 0<|Q<|aa a_<|aa (xN l g d)<|ak (i+1) b,.aq 1100 0<|Q<|aa hZ<|aa (zh l g d)<|ak (i+1) b]),(9,ag 3<|an aj ((g9 g.w b i:Z):J)),(10,ag 3<|an aj ((g9 d.w b i:Z):J)),(13,ag 26<|cn b[i]),(19,.h 3 26<|aa cn b),(1100,.h 2 201<|aa hZ<|aa (zh l g d)<|ak (i+1) b),(1101,.h 1 4<|aa a_<|aa (xN l g d)<|ak (i+1) b)],[]⟩) (λ_=>dW) ?_ λm q=>?_
  .refine eS ?_;refine br (λ_=>cf p (f:=Uc g b[i] t y.1 y.2)) ?_;refine br (λ_=>cf p (f:=Uc d b[i] bS y.1 y.2)) ?_;refine br (λ_=>cf p (bS:=E) (f:=F (g.has b[i])<|d.has b[i])) ?_;refine br (λ_=>lf p) ?_;refine lS 51 (aa a_<|aa (xN l g d)<|ak (i+1) b) ?_ (aW:=by rw[M,dn,dn];rfl) (bQ:=aY) (mX:=a3) (vq:=a3);refine fx ?_;refine kU [(51,1101)] ?_;exact cA ()
  refine eg ?_;apply c9;intro aC;refine gx (g9 g.w b i) (cn<|z g.w (g9 g.w b i) ai) ?_ (j:=gD o);refine Nk (F8 (z g.w (g9 g.w b i) ai) b[i]) ?_;exact p;apply e<;>intro aA
  .rw[ae aY] at L;refine bc ?_;refine eg ?_;apply c9;intro S;refine gx (g9 d.w b i) (cn<|z d.w (g9 d.w b i) ai) ?_ (j:=gD o);refine Nk (F8 (z d.w (g9 d.w b i) ai) b[i]) ?_;exact p;apply e<;>intro O
   .rw[ae aY] at A;refine bc ?_;refine bc ?_;exact a0 (i+1,((g9 g.w b i:Z):J)+1,((g9 d.w b i:Z):J)+1) ⟨o,a2,a2⟩ o .r
   rw[ab ap] at A;refine bc ?_;exact a0 (i+1,((g9 g.w b i:Z):J)+1,((g9 d.w b i:Z):J)) ⟨o,a2,a2⟩ o .r
  rw[ab ap] at L;refine eg ?_;apply c9;intro S;refine gx (g9 d.w b i) (cn<|z d.w (g9 d.w b i) ai) ?_ (j:=gD o);refine Nk (F8 (z d.w (g9 d.w b i) ai) b[i]) ?_;exact p;apply e<;>intro O
  .rw[ae aY] at A;refine bc ?_;refine bc ?_;exact a0 (i+1,((g9 g.w b i:Z):J),((g9 d.w b i:Z):J)+1) ⟨o,a2,a2⟩ o .r
  rw[ab ap] at A;refine bc ?_;exact a0 (i+1,((g9 g.w b i:Z):J),((g9 d.w b i:Z):J)) ⟨o,a2,a2⟩ o .r
 obtain rfl:i=Q b:=o;have C:g9 g.w b (Q b)=Q g.w:=by unfold g9;rw[Ky o]
 have D:g9 d.w b (Q b)=Q d.w:=by unfold g9;rw[Ky o]
 rw[g5] at al T⊢;refine gf kc (λm=>⟨[(6,c 6),(8,c 8)],[(6,ag 71<|V.zero Bl.z),(8,ag 71<|bH [.aq 19 0 (Q<|aa cn b),.aq 1101 0<|Q<|aa a_<|aa (xN l g d) b,.aq 1100 0<|Q<|(np l b g d).ie.map hZ]),(19,.h 3 26<|aa cn b),(1100,.h 2 201<|(np l b g d).ie.map hZ),(1101,.h 1 4<|aa a_<|aa (xN l g d) b)],[]⟩) (λ_=>dW) ?_ λm q=>?_
 .refine eS ?_;refine Pp [3,9,4,10,5] ?_;apply AG.mk;intro ar;refine kz ?_ (f:=QT g d (g9 g.w b<|Q b) (g9 d.w b<|Q b) s l E F o o o o);exact p;refine br (λ_=>lf p) ?_;refine lS 91 ((np l b g d).ie.map hZ) ?_ (aW:=by rw[C,D];show _=aa hZ (aa (zh l g d) b++[_]);simp) (bQ:=by grind[np]) (mX:=cR) (vq:=a3);refine fx ?_;refine kU [(91,1100)] ?_;exact cA ()
 refine ib 19 ?_;refine ib 1100 ?_;refine ib 1101 ?_;exact dB bq
def eZ.pi(c:Z)(b:eZ):Prop:=b.ok/\Q b.w<=c
def Jg{b:X bT}(g:tK b)(d:∀c∈b,fL c/\Small c):y4 b:=⟨d,λi k j f e=>Cc.1 g i k j f e⟩
def aeL:wW.pi 0:=⟨⟨Jg Cp (by simp[wW]),by simp[wW],p,p,cc⟩,bz _⟩
theorem ahS{b:bT}(c:sU 30 b):Small b:=c.small aR
def O0{b:gb}(f:rJ b):(mf b).pi 2:=by
 let t:b.low.has->fL _/\sU 30 _:=λd=>⟨FH<|f.1 d,Vs<|f.1 d⟩;let m:b.high.has->fL _/\sU 30 _:=λd=>⟨FH<|f.2 d,Vs<|f.2 d⟩;let one:∀(g:bT)(q:Y)(c d:mP),fL g/\sU 30 g->eZ.pi 2 ⟨[g],[q],[c,d]⟩:=λg q c d w=>
  ⟨⟨Jg (Am _ _) λu s=>by grind[ahS],λu s=>ap,p,p,av⟩,av⟩
 let zero:∀(c:mP),eZ.pi 2 ⟨[],[],[c]⟩:=λc=>⟨⟨Jg Cp av,av,p,p,av⟩,av⟩;unfold mf;split;exact zero _;rename_i k;split;grind[afj];rename_i l;split;rename_i j;by_cases e:b.low.has;let i:i5 b=⟨[b.low.n],[po b.low (iU b)],[oF,iU b]⟩:=by rw[i5,ae e]
 rw[i];let r:sq b=fm (bu b.low.n-bu b.high.n):=by rw[sq,ae ⟨e,j⟩,FR (t e).1 (m j).1]
 rw[r] at k l;let v:bu b.low.n<bu b.high.n:=by have:¬0<bu _-bu _:=λc=>k<|Jr.2 c;have:¬bu _-bu _=0:=λc=>l<|z7.2 c;omega
 refine⟨⟨Jg ?_ ?_,?_,p,p,av⟩,av⟩;grind;grind[ahS];simp_all;let i:i5 b=⟨[],[],[iU b]⟩:=by rw[i5,ab e]
 rw[i];exact one _ _ _ _<|m j;grind[i5]
def an7{aju:Y->Y->Y}{i:Z}{e f:eZ}(c:e.pi P)(d:f.pi i)(n:P+i<=100000):(np aju (nF e.w f.w) e f).pi (P+i):=by let⟨k,j,sC⟩:=O8 c.1.1 d.1.1;let l:=c.2;let m:=d.2;refine⟨⟨Jg k λb g=>((j b).1 g).elim (c.1.1.1 b)<|d.1.1.1 b,λb g=>((j b).1 g).elim (c.1.2.1 b)<|d.1.2.1 b,by simp[np],by simp[np],?_⟩,?_⟩;show Q (nF _ _)<=_;omega;show Q (nF _ _)<=_;omega
noncomputable def nG(d:X gb):eZ:=d.foldl (λb c=>np (λe f=>e||f) (nF b.w (mf c).w) b<|mf c) wW
def VZ:∀(e:X gb)(c:eZ)(j:Z),(∀d∈e,rJ d)->c.pi j->j+2*Q e<=100000->(e.foldl (λc d=>np (λb k=>b||k) (nF c.w (mf d).w) c<|mf d) c).pi (j+2*Q e)/\∀g,(e.foldl (λc d=>np (λb k=>b||k) (nF c.w (mf d).w) c<|mf d) c).k3 g=(c.k3 g||e.any λd=>(mf d).k3 g)|[],c,j,_,i,_=>⟨i,λg=>av⟩|d::e,c,j,q,i,s=>by let m:=O0<|q d av;rw[kN] at s⊢;let⟨u,r⟩:=VZ e _ _ (λb f=>q b aY) (an7 (aju:=λb k=>b||k) i m o) o;let⟨t,n,sC⟩:=O8 i.1.1 m.1.1;rw[PA];refine⟨aY,λg=>?_⟩;rw[r g,an5 t (λb f=>((n b).1 f).elim (λl=>(i.1.1.1 b l).1) λl=>(m.1.1.1 b l).1) (λb f=>(n b).2<|bl f) λb f=>(n b).2<|bp f,B7,Bool.or_assoc]
def V0{L:X gb}(b:∀c∈L,rJ c)(d:Q L<=1000):(nG L).pi (2*Q L):=by have:=(VZ L _ 0 b aeL o).1;rwa [kZ] at this
def VY{b:X gb}(f:∀g∈b,rJ g)(i:Q b<=1000)(c:J):(nG b).k3 c↔hS (aa kr b) c:=by
 let e:=(VZ b _ 0 f aeL o).2 c;let d:wW.k3 c=ad:=by rw[show wW=⟨[],[],[oF]⟩ from p,Qz,FJ]
 rw[d,J8] at e;unfold nG;unfold hS;constructor;grind[kr,List.mem_map_of_mem,OZ];grind[OZ]
def OU(d:X gb):∀b∈aa kr d,kP b:=λe c=>by obtain⟨b,_,rfl⟩:=cV.1 c;exact Vw b
def aAw{b:X gb}(d:∀g∈b,rJ g)(f:Q b<=1000){c:bT}(e:fL c):(nG b).has c=pP (vA (aa kr b)) (bu c):=by rw[auC<|OU b,Mq _ e,lT,VY d f,Mp]
theorem aqp{b:eZ}(H:b.ok)(S:P<Q b.ie)(k:b.x6 P):∃g,b.k3 g:=by
 let⟨q,X,U,R,T⟩:=H;let I:=q.up;let j:∀g,(∀c(d:c<Q b.w),c<P->2*bu b.w[c]<g)->(∀c(d:c<Q b.w),P<=c->g<2*bu b.w[c])->(if 2*(bP:J) ∣ g then(z b.ie P ai).w else(z b.ie P ai).o)=af->b.k3 g:=by
  intro g C D E;let y:(b.w.countP λr=>aL<|2*bu r<g)=P:=Hs I o C λc d i=>Int.le_of_lt<|D c d i;let G:¬(b.w.any λr=>aL<|2*bu r=g):=λs=>by let⟨r,K,x⟩:=uL.1 s;let x:=yU x;obtain⟨c,d,rfl⟩:=lU.1 K;grind
  unfold eZ.k3;rw[ab G,y];exact E
 let Y:∀e:J,¬2*(bP:J) ∣ 2*e+1:=λe s=>by let⟨L,y⟩:=s;grind
 let v:∀c l(d:c<Q b.w)(B:l<Q b.w),c<=l->bu b.w[c]<=bu b.w[l]:=λc l d B k=>by rcases fF c l with f|f;have:=q.2 c l d B f;omega;grind
 unfold eZ.x6 at k;rw[p9,j_] at k;rcases k with k|⟨k,n⟩
 .rcases oR (Q b.w) with t|t;refine⟨2*0+1,j _ (λc d=>o) (λc d=>o) ?_⟩;trivial;rcases fF P (Q b.w) with f|f;refine⟨2*(bu b.w[P]-1)+1,j _ (λc d m=>?_) (λc d i=>?_) ?_⟩;have:=q.2 c P d f m;omega;grind;simp_all;refine⟨2*bu b.w[Q b.w-1]+1,j _ (λc d m=>?_) (λc d i=>o) ?_⟩;have:=v c (Q b.w-1) d o o;omega;simp_all
 .let M:∀e,2*(bP:J) ∣ 2*(eh e+bP):=λe=>Hz.2<|RD<|A5 e;let N:∀e,2*(bP:J) ∣ 2*(eh e-bP):=λe=>Hz.2<|RE<|A5 e;let O:(0:J)<bP:=by have:=qZ;omega
  rcases oR (Q b.w) with t|t;refine⟨2*(eh 0+bP),j _ (λc d=>o) (λc d=>o) ?_⟩;trivial;rcases fF P (Q b.w) with f|f;rcases oR P with A|A;subst A;refine⟨(2:J)*(eh (bu b.w[0])-(bP:J)),j _ (λc d m=>o) (λc d i=>?_) ?_⟩;have:=v 0 c f d i;have:=Bc<|bu b.w[0];omega;simp_all;let u:P-1<Q b.w:=o;unfold eZ.JT at n;rw[ab o,Bh u,Bh f] at n;let n:=yU n;rw[(KX (q.1 _<|fK u).1).2] at n;let F:=Bc<|bu b.w[P-1];refine⟨2*(eh (bu b.w[P-1])+bP),j _ (λc d m=>?_) (λc d i=>?_) ?_⟩;grind;grind;simp_all;let u:Q b.w-1<Q b.w:=o;let F:=Bc<|bu b.w[Q b.w-1];refine⟨2*(eh (bu b.w[Q b.w-1])+bP),j _ (λc d m=>?_) (λc d i=>o) ?_⟩;grind;simp_all
def Z2{b:eZ}(J:b.ok):b.empty↔∀e,b.k3 e=ad:=by
 let⟨f,Z,X,R,U⟩:=id J;have K:=f.up;unfold eZ.empty;constructor;intro q e;split at q;cases q;rename_i H;have Y:∀c,z b.on c ad=ad:=λc=>by grind
 unfold eZ.k3;split;simp_all;rename_i C;have F:(b.w.countP λr=>aL<|2*bu r<e)<=Q b.w:=B8;have v:=λd (j:d<Q b.w)=>CK K e d j;generalize (b.w.countP λr=>aL<|2*bu r<e)=d at F v;have m:b.x6 d≠af:=λt=>H ⟨d,o,t⟩;unfold eZ.x6 at m;rw[ne_eq,p9,j_] at m;have G:∀c(k:c<Q b.w),2*bu b.w[c]≠e:=λc k s=>C<|uL.2 ⟨_,fK k,sL s⟩;split;rename_i D;cases E:(z b.ie d ai).w with
 |false=>rfl|true=>
  exfalso;refine m<|bp ⟨E,?_⟩;unfold eZ.JT;split;rfl;have l:d-1<Q b.w:=o;have x:d<Q b.w:=o;rw[Bh l,Bh x];refine sL ?_;rw[(KX (f.1 _<|fK l).1).2];obtain⟨A,rfl,L⟩:=H7 D;have ch:=(v (d-1) l).2 o;have M:¬2*bu b.w[d]<2*A:=λt=>ap;have N:=G d x;have B:eh (bu b.w[d-1])<A:=by have:=Bc<|bu b.w[d-1];omega
  have O:=VF (A5 _) L B;omega
 simp_all;intro q;split;grind[aqp];cases u:nb b.on af with
 |false=>rfl|true=>
  exfalso;rw[Pv] at u;let⟨c,k,s⟩:=lU.1 u;have g:c<Q b.w:=o;have:=Mq b (f.1 _<|fK g).1;have P:low b.w b.w[c]=c:=adr o (λi n I=>f.2 i c n g I) λi n T=>by rcases fF c i with y|y;have:=f.2 c i g n y;omega;grind
  have S:Bj b.w b.w[c]:=uL.2 ⟨_,fK g,sL p⟩;simp_all[eZ.has,ae,dm,cm]
def azA{b:gb}(c:rJ b):(mf b).empty=gE (kr b):=by
 rw[lT,Z2 (O0 c).1];constructor;intro g;cases d:gE _ with|true=>rfl|false=>let⟨f,e⟩:=(Gk<|Vw b).1 d;have:=(OZ c f).2 e;simp_all
 grind[mf,b9,OZ,FK]
def aAv{c:X gb}(e:∀b∈c,rJ b)(f:Q c<=1000)(i:∀b∈c,gE (kr b)=ad):(nG c).empty=aL (c=[]):=by
 rw[lT,Z2 (V0 e f).1,ir];constructor;intro l;cases c with|nil=>rfl|cons b c=>let⟨d,j⟩:=(Gk<|Vw b).1<|i b av;have:=(VY e f d).2 ⟨kr b,av,j⟩;simp_all
 rintro rfl d;cases g:(nG []).k3 d with|false=>rfl|true=>let⟨b,k,_⟩:=(VY e f d).1 g;cases k
def ay8:bb 135 [.ba,e4 (dp 131) [] []] (cs []):=fA.au1 λi d s b e=>by
 match d,b with
 |[r,c],_=>
  have n:=e 0 _ r p p;have g:=e 1 _ c p p;cases n;have m:c=.func (dp 131) #[] #[]:=by
   change bj i (e4 (dp 131) [] []) c at g;cases g with
   |func fn w y q d b l f t=>
    have j:q=[]:=by simpa using bG b
    have k:d=[]:=by simpa using bG l
    rw[j,k]
  subst m;exact⟨rU #[],.tuple [] [] p λu x v f=>by simp at f,ga.W0 ah 0 s⟩
def aoa:bb 136 [.ba] .ba:=by refine bx func136 [] λb c=>?_;refine ly.mk (λ_=>?_) nofun;exact aA
def an8(b d:mP)(i:gP)(g:Y->Y->Y)(n:mo b5 i)(q:∀l m,bb i [a6 l,a6 m] (a6 (g l m))):bb 84 [mv ⟨[],[],[b]⟩,mv ⟨[],[],[d]⟩,e4 (dp i) [] []] (mv ⟨[],[],[wF g b d]⟩):=by
 refine bx func84 [2007,2017] λs t=>?_;refine er ?_;refine aS ?_ (f:=aog [[],[]] p av);refine aS ?_ (f:=ay8);refine aS ?_ (f:=aoa);refine aZ.eQ 1100 2 201 [] (W (8,2)) ?_;refine dM ?_;refine dv Z (λj=>⟨[(3,c 3),(4,c 4),(5,c 5),(6,c 6),(8,c 8),(9,c 9),(10,c 10),(11,_),(27,_),(28,_),(29,k j)],[(3,_),(4,_),(5,_),(6,_),(8,ag 71<|bH [.ba,.ba,.aq 1100 0 0]),(9,ag 3<|an aj 0),(10,ag 3<|an aj 0),(1100,.h 2 201 [])],[]⟩) (λj=>j=0) (λ_=>0) 0 (λj v=>?_) (cq:=.r);apply e<;>intro u
 .exfalso;omega
 refine gf kc (λl=>⟨[(6,c 6),(8,c 8)],[(6,ag 71<|V.zero Bl.z),(8,ag 71<|bH [.ba,.ba,.aq 1100 0 1]),(1100,.h 2 201<|aa hZ [wF g b d])],[]⟩) (λ_=>dW) ?_ λl w=>?_
 .refine eS ?_;refine Pp [3,9,4,10,5] ?_;apply AG.mk;intro x;refine kz ?_ (f:=QT ⟨[],[],[b]⟩ ⟨[],[],[d]⟩ 0 0 i g n q av av o o);exact p;refine br (λ_=>lf p) ?_;refine lS 91 (aa hZ [wF g b d]) ?_ (bQ:=av) (mX:=cR) (vq:=cR);refine fx ?_;refine kU [(91,1100)] ?_;exact cA ()
 refine ib 1100 ?_;refine hQ 3 6 [0] ?_;refine hQ 1 6 [1] ?_;exact dB bq
def an6(i:Y->Y->Y){b c:eZ}(j:b.ok)(k:c.ok)(t:b.w=[])(u:c.w=[]):∃e f,b=⟨[],[],[e]⟩/\c=⟨[],[],[f]⟩/\np i (nF b.w c.w) b c=⟨[],[],[wF i e f]⟩:=by
 let q:∀d:eZ,d.ok->d.w=[]->∃g,d=⟨[],[],[g]⟩:=by
  intro d v n;let⟨_,_,m,l,_⟩:=v;let⟨w,y,s⟩:=d;simp only at n m l;subst n;have:y=[]:=m_ m;subst this
  match s,l with|[g],_=>exact⟨g,p⟩
 obtain⟨e,rfl⟩:=q b j t;obtain⟨f,rfl⟩:=q c k u;refine⟨e,f,p,p,?_⟩;let x:=O8 j.1 k.1;let r:nF [] []=[]:=m_ (by have:=x.2.2;simpa using this);show np i (nF [] []) _ _=_;rw[r];rfl
def an9(b c:eZ)(d:gP)(e:Y->Y->Y)(g:mo b5 d)(k:∀l m,bb d [a6 l,a6 m] (a6 (e l m)))(i:b.ok)(j:c.ok)(u:Q b.w+Q c.w<=100000):bb 84 [mv b,mv c,e4 (dp d) [] []] (mv (np e (nF b.w c.w) b c)):=by rcases oR (Q b.w+Q c.w) with f|f;let⟨s,t,n,q,r⟩:=an6 e i j (m_ o)<|m_ o;rw[r,n,q];exact an8 s t d e g k;exact an_ b c d e g k i j u f
def ai3(L:X gb)(t:∀g∈L,rJ g)(A:∀g∈L,Small g.low.n/\Small g.high.n)(E:Q L<=1000):bb 42 [.a 11 (aa s2 L)] (mv (nG L)):=by
 refine bx func42 [] λB C=>?_;refine aS ?_ (f:=aeK);refine dv (Z×eZ) (λd=>⟨[(2,c 2),(3,c 3),(7,_),(8,_),(9,k d.1)],[(2,_),(3,ag 71<|mv d.2)],[]⟩) (λd=>d.1<=Q L/\d.2=nG (ak d.1 L)) (λd=>Q L-d.1) (0,wW) (λ⟨b,s⟩ aH=>?_) ⟨dO _,p⟩ .r;dsimp only at aH⊢;let⟨j,q⟩:=aH;apply e<;>intro D
 .let m:b<Q L:=o;let z:=t _<|fK m;let f:=V0 (L:=ak b L) (λg y=>t g<|tu y) (by rw[mK];omega);let u:=O0 z;let F:Q (ak b L)<=1000:=by rw[mK];omega
  let x:nG (ak (b+1) L)=np (λi l=>i||l) (nF (nG<|ak b L).w (mf L[b]).w) (nG<|ak b L) (mf L[b]):=by rw[Ee m];unfold nG;rw[Pz];rfl
  let v:=A _<|fK m;rw[<-q] at f;refine bi b (s2 L[b]) ?_ (j:=hR m);refine eS ?_;refine br (λ_=>cf p (f:=aik L[b] v.1 v.2)) ?_;refine br (λ_=>cf p (f:=an9 s (mf L[b]) 85 (λi l=>i||l) ⟨cR⟩ au9 f.1 u.1 (by have:=f.2;have:=u.2;omega))) ?_;refine fx ?_;refine fZ ?_;refine bc ?_;exact a0 (b+1,np (λi l=>i||l) (nF s.w (mf L[b]).w) s<|mf L[b]) ⟨tx,by dsimp only;rw[x,<-q]⟩ tx .r
 obtain rfl:b=Q L:=o;rw[g5] at q;subst q;exact dB bq
def Lc{c:lY}(b:nk c=0):Hd c/\Small c.n:=by unfold nk at b;split at b;exact⟨λ_=>b,(Vs b).small aR⟩;rename_i f;split at b;cases b;rename_i e;have:c.n=⟨ad,[],0⟩:=oP λd=>e ap;refine⟨λd=>b9 d f,?_⟩;rw[this];trivial
def rI(b:gb):J:=if nk b.low≠0 then nk b.low else if nk b.high≠0 then nk b.high else if gE (kr b) then 10 else 0
def OY{b:gb}(c:nk b.low=0)(d:nk b.high=0):rJ b/\Small b.low.n/\Small b.high.n:=⟨⟨(Lc c).1,(Lc d).1⟩,(Lc c).2,(Lc d).2⟩
instance:xv lY:=⟨⟨ad,ad,ai⟩⟩
instance:xv gb:=⟨⟨ai,ai,ad⟩⟩
def aa_{b:X gb}(c:P<Q b):z b P ai=b[P]:=ap
def JB(c:X gb):Z->J:=l6 λb=>rI<|z c b ai
def lk(b:cZ):J:=if b.eR<0\/3<b.eR then 9 else if 20<Q b.cd then 3 else JB b.cd (Q b.cd)
def FM{b:cZ}{c:J}(g:¬(b.eR<0\/3<b.eR))(i:¬20<Q b.cd)(e:JB b.cd P=0)(d:P<Q b.cd)(j:rI (z b.cd P ai)=c)(f:c≠0):lk b=c:=by have:=HV e o _ d;simp_all[lk,ab,JB]
def gb.ks(b:gb):Prop:=Q b.low.n.bM<=1048576/\Q b.high.n.bM<=1048576
def Yy(b:cZ)(D:∀E∈b.cd,E.ks)(K:Q b.cd<=1000000):bb 41 [i3 b] (an aj (lk b)):=by
 refine bx func41 [] λF G=>?_;refine eA ?_;apply e<;>intro i
 .exact aA (q:=by rw[lk,ae i];rfl)
 apply e<;>intro H
 .exact aA (q:=by rw[lk,ab i,ae o];rfl)
 have m:¬20<Q b.cd:=o;refine i0 (Q b.cd) (λg=>JB b.cd g=0) (λg=>⟨[(23,_),(24,_),(25,k g)],[],[]⟩) (λg j=>?_) p .r;apply e<;>intro I
 .have l:g<Q b.cd:=o;have t:=D _<|fK l;rw[<-aa_ l] at t;refine bi g (s2<|z b.cd g ai) ?_ (j:=gD l);refine er ?_;refine i0 2 (λd=>(0<d->nk (z b.cd g ai).low=0)/\(1<d->nk (z b.cd g ai).high=0)) (λd=>⟨[(4,c 4),(23,_),(24,_),(25,_),(33,_),(34,_),(35,k d)],[(4,_)],[]⟩) (λd w=>?_) ⟨λq=>o,λq=>o⟩ .r;apply e<;>intro y
  .have A:d<2:=by have:((d:Z):J)<((2:Z):J):=y;omega
   refine bi d (EU<|if d=0 then(z b.cd g ai).low else(z b.cd g ai).high) ?_ (j:=by rcases(show d=0\/d=1 by omega) with q|q<;>subst q<;>rfl);refine aS ?_ (f:=anu (if d=0 then(z b.cd g ai).low else(z b.cd g ai).high) (by split;exact t.1;exact t.2));apply e<;>intro n
   .exact aA (q:=by
     have B:d=0\/d=1:=by omega
     rcases B with rfl|rfl;rw[ae p] at n⊢;rw[FM i m j.2 l (by rw[rI,ae n]) n];rfl;rw[FM i m j.2 l (by simp_all[rI,ab,ae]) n];rfl)
   refine bc ?_;exact a0 (d+1) ⟨o,λq=>by grind,λq=>by grind⟩ (cq:=.r)
  have A:¬d<2:=by have:¬((d:Z):J)<((2:Z):J):=y;omega
  have u:=w.2.1 o;have v:=w.2.2 o;have s:=OY u v;refine aS ?_ (f:=aik (z b.cd g ai) s.2.1 s.2.2);refine aS ?_ (x:=a6<|gE<|kr<|z b.cd g ai) (f:=by rw[<-azA s.1];exact Ny (O0 s.1).1);apply e<;>intro C
  .exact aA (q:=by rw[FM i m j.2 l (by rw[rI,ab λq=>q u,ab λq=>q v,ae C]) aR];rfl)
  refine bc ?_;exact a0 (g+1) ⟨o,E5 j.2 (by simp_all[rI,ab])⟩ (cq:=.r)
 exact aA (q:=by rw[lk,ab i,ab m,show Q b.cd=g by omega,j.2];rfl)
def oI(b:cZ)(c:J):J:=if b.du=ad then(if 0<Q b.a8\/b.rest≠0 then 2 else 0)
 else if s7 b.a8 c (-1)≠0 then s7 b.a8 c (-1) else if b.rest< -1\/c<=b.rest then 9 else 0
def Yz(d:cZ)(c:J)(i:Q d.a8<=1000000):bb 45 [i3 d,an aj c] (an aj (oI d c)):=by
 refine bx func45 [] λj k=>?_;apply e<;>intro m
 .refine eA ?_;apply e<;>intro l
  .exact aA (q:=by rw[oI,ae ap,ae o];rfl)
  exact aA (q:=by rw[oI,ae ap,ab o];rfl)
 refine aS ?_ (f:=anv c i);apply e<;>intro b
 .exact aA (q:=by rw[oI,ab ap,ae b];rfl)
 refine eA ?_;apply e<;>intro g
 .exact aA (q:=by rw[oI,ab ap,ab b,ae g];rfl)
 exact aA (q:=by rw[oI,ab ap,ab b,ab g];rfl)
def OO(b c:J):bb 58 [an aj b,an aj c] (a6 !kG c b):=by refine bx func58 [] λd e=>?_;exact c9 (λ_=>p)<|aA (q:=by refine ep V.bool ?_;unfold kG<;>grind)
def apR(c:X dq)(n m:J)(C:Q c<=1000000):bb 111 [.a 3 (aa dj c),an aj n,an aj m] (an aj (s7 c n m)):=by
 refine bx func111 [] λu v=>?_;apply e<;>intro w
 .exact aA (q:=by rw[s7,ae o];rfl)
 let i:¬30<Q c:=o;refine i0 (Q c) (λb=>l6 (l7 c n m) b=0) (λb=>⟨[(0,_),(1,_),(2,_),(7,k b)],[],[]⟩) (λb j=>?_) p .r;apply e<;>intro x
 .let d:b<Q c:=o;refine bi b (dj<|z c b ai) ?_ (j:=gD d);refine aS ?_ (f:=U2 (z c b ai).name);apply e<;>intro g
  .exact aA (q:=by rw[Bd i j.2 d (by rw[l7,ae g]) g];rfl)
  refine eg ?_;apply c9;refineλy=>gx b (dj<|z c b ai) ?_ (j:=gD d);refine jf ?_;refine gx (b-1) (dj<|z c (b-1) ai) ?_ (j:=gD o);exact p;apply e<;>intro l
  .exact aA (q:=by rw[Bd i j.2 d (by rw[l7,ab g,ae l]) aR];rfl)
  refine bi b (dj<|z c b ai) ?_ (j:=gD d);apply ev;refineλA=>gx b (dj<|z c b ai) ?_ (j:=gD d);exact p;apply e<;>intro s
  .exact aA (q:=by rw[Bd i j.2 d (by rw[l7,ab g,ab l,ae s]) aR];rfl)
  refine bi b (dj<|z c b ai) ?_ (j:=gD d);apply c9;intro B;refine gx b (dj<|z c b ai) ?_ (j:=gD d);exact p;apply e<;>intro t
  .exact aA (q:=by rw[Bd i j.2 d (by rw[l7,ab g,ab l,ab s,ae t]) aR];rfl)
  refine bc ?_;exact a0 (b+1) ⟨o,E5 j.2 (by simp_all[l7,ab])⟩ (cq:=.r)
 exact aA (q:=by rw[s7,ab i,show Q c=b by omega,j.2];rfl)
structure tI where
 DC:X v->J
 qF:X v->aO
 w0:X v->J
 avr:X v->J
 MV:aO->J
 wO:aO->bF
 em:bF->Y
structure KP(u:tI):Prop where
 read:∀M:X v,Q M<=1048576->bb 109 [bV M] (cs [c0 (u.qF M),an aj (u.avr M),an aj (u.DC M)])
 least:∀M:X v,Q M<=1048576->u.DC M=0->bb 110 [c0 (u.qF M)] (cs [fp (u.wO (u.qF M)),an aj (u.MV (u.qF M))])
def kK(c:tI)(b:cZ):J:=if b.eP=ad/\b.fq≠[] then 2 else if b.eP then(if c.DC b.fq≠0 then c.DC b.fq else c.MV (c.qF b.fq)) else 0
def gq(d:tI)(b:cZ)(c:J):J:=if lk b≠0 then lk b else if kK d b≠0 then kK d b else if ld b c≠0 then ld b c else oI b c
def DP{f:tI}{b:cZ}{e ax:J}(d:lk b=ax)(c:ax≠0):gq f b e=ax:=by rw[gq,d,ae c]
def Js{c:tI}{b:cZ}{i ax:J}(f:lk b=0)(g:kK c b=ax)(e:ax≠0):gq c b i=ax:=by rw[gq,f,ab λd=>d p,g,ae e]
def Gh{e:tI}{b:cZ}{d ax:J}(g:lk b=0)(i:kK e b=0)(j:ld b d=ax)(f:ax≠0):gq e b d=ax:=by rw[gq,g,ab λc=>c p,i,ab λc=>c p,j,ae f]
def z8{e:tI}{c:cZ}{d:J}(f:lk c=0)(g:kK e c=0)(i:ld c d=0):gq e c d=oI c d:=by rw[gq,f,ab λb=>b p,g,ab λb=>b p,i,ab λb=>b p]
theorem agY{c b:J}(d:0<=c):¬b=-1/\kG c b↔b< -1\/c<=b:=by(simp[kG,p9,ir];omega)
def alB{d:J}{c:X J}(j:∀b,b<Q c->kG d (z c b ai)=ad):¬c.any (kG d):=λe=>by let⟨k,f,g⟩:=uL.1 e;obtain⟨b,i,rfl⟩:=lU.1 f<;>simp_all
def cZ.ks(b:cZ):Prop:=(∀c∈b.cd,c.ks)/\Q b.cd<=1000000/\Q b.fq<=1048576/\Q b.dH<=1048576/\Q b.a8<=1000000
def ayP(u:tI)(H:KP u)(b:cZ)(i:J)(P:b.ks)(O:0<=i):bb 59 [i3 b,an aj i] (an aj (gq u b i)):=by
 refine bx func59 [70,91] λX Z=>?_;let⟨T,aI,K,aJ,U⟩:=P;refine eA ?_;apply e<;>intro s
 .exact aA (q:=by rw[DP (ax:=9) (by rw[lk,ae s]) aR];rfl)
 apply e<;>intro ay
 .exact aA (q:=by rw[DP (ax:=3) (by rw[lk,ab s,ae o]) aR];rfl)
 have x:¬20<Q b.cd:=o;refine i0 (Q b.cd) (λd=>JB b.cd d=0) (λd=>⟨[(1,_),(2,c 2),(5,k d)],[(2,_)],[]⟩) (λd j=>?_) p .r;apply e<;>intro az
 .have n:d<Q b.cd:=o;have C:=T _<|fK n;rw[<-aa_ n] at C;refine bi d (s2<|z b.cd d ai) ?_ (j:=gD n);refine aS ?_ (f:=X_ (z b.cd d ai).low C.1);apply e<;>intro v
  .exact aA (q:=by rw[DP (FM s x j.2 n (by rw[rI,ae v]) v) v];rfl)
  refine bi d (s2<|z b.cd d ai) ?_ (j:=gD n);refine aS ?_ (f:=X_ (z b.cd d ai).high C.2);apply e<;>intro y
  .exact aA (q:=by rw[DP (FM s x j.2 n (by rw[rI,ab v,ae y]) y) y];rfl)
  have I:=OY (oP v)<|oP y;refine bi d (s2<|z b.cd d ai) ?_ (j:=gD n);refine aS ?_ (f:=ah5 (z b.cd d ai) I.1);refine aS ?_ (f:=Dy (kr<|z b.cd d ai) 2 o<|ah3 I.1);apply e<;>intro aB
  .exact aA (q:=by rw[DP (ax:=10) (FM s x j.2 n (by simp_all[rI,ab,ae]) aR) aR];rfl)
  refine bc ?_;exact a0 (d+1) ⟨o,E5 j.2 (by simp_all[rI,ab])⟩ (cq:=.r)
 have g:lk b=0:=by rw[lk,ab s,ab x,show Q b.cd=d by omega,j.2]
 refine fk ?_;apply e<;>intro aC
 .exact aA (q:=by rw[Js (ax:=2) g (by simp_all[kK,ae]) aR];rfl)
 refine gf kc (λS=>⟨[(1,an aj i),(2,c 2)],[(2,ag 67<|i3 b)],[]⟩) (λ_=>kK u b=0) ?_ λS l=>?_
 .apply e<;>intro E
  .refine aS ?_ (f:=H.read b.fq K);apply e<;>intro A
   .exact aA (q:=by rw[Js (ax:=u.DC b.fq) g (by simp_all[kK,ab,ae]) A];rfl)
   refine aS ?_ (f:=H.least b.fq K<|oP A);apply e<;>intro M
   .exact aA (q:=by rw[Js (ax:=u.MV<|u.qF b.fq) g (by rw[kK,ab ap,ae E,ab λq=>q<|oP A]) M];rfl)
   exact cA () (by rw[kK,ab ap,ae E,ab λq=>q<|oP A];omega)
  exact cA () (by simp_all[kK,ab])
 refine gf kc (λR=>⟨[(1,an aj i),(2,c 2)],[(2,ag 67<|i3 b)],[]⟩) (λ_=>ld b i=0) ?_ λR w=>?_
 .apply e<;>intro aD
  .refine eA ?_;refine eA ?_;refine eA ?_;apply e<;>intro ak
   .exact aA (q:=by rw[Gh (ax:=2) g l (by simp_all[ld,ae]) aR];rfl)
   exact cA () (by simp_all[ld,ae,ab])
  apply e<;>intro al
  .exact aA (q:=by rw[Gh (ax:=3) g l (by rw[ld,ab ap,ae o]) aR];rfl)
  refine i0 (Q b.dH) (λm=>∀t,t<m->kG i (z b.dH t ai)=ad) (λm=>⟨[(1,_),(2,c 2),(13,k m)],[(2,_)],[]⟩) (λm N=>?_) (λt F=>o) .r;apply e<;>intro am
  .have G:m<Q b.dH:=o;refine bi m (c7<|z b.dH m ai) ?_ (j:=gD G);refine aS ?_ (f:=OO (z b.dH m ai) i);apply e<;>intro ao
   .exact aA (q:=by rw[Gh (ax:=9) g l (by rw[ld,ab ap,ab o,ae<|uL.2 ⟨_,fK G,ap⟩]) aR];rfl)
   refine bc ?_;exact a0 (m+1) ⟨o,λt F=>by grind⟩ (cq:=.r)
  have D:¬b.dH.any (kG i):=alB λt F=>N.2 t o;apply c9;intro aE;refine cf ?_ (f:=OO b.item i);exact p;refine eA ?_;refine eA ?_;apply ev;intro aF;apply c9;intro aG;refine eA ?_;exact p;exact p;apply e<;>intro ar
  .exact aA (q:=by rw[Gh (ax:=9) g l (by rw[ld,ab ap,ab o,ab D,ae ap]) aR];rfl)
  exact cA () (by rw[ld,ab ap,ab o,ab D,ab ap])
 apply e<;>intro au
 .refine eA ?_;apply e<;>intro aw
  .exact aA (q:=by rw[z8 g l w,oI,ae ap,ae o];rfl)
  exact aA (q:=by rw[z8 g l w,oI,ae ap,ab o];rfl)
 refine aS ?_ (f:=apR b.a8 i (-1) U);apply e<;>intro B
 .exact aA (q:=by rw[z8 g l w,oI,ab ap,ae B];rfl)
 apply c9;intro aH;refine cf ?_ (f:=OO b.rest i);exact p;apply e<;>intro L
 .exact aA (q:=by rw[z8 g l w,oI,ab ap,ab B,ae<|(agY O).1 ap];rfl)
 exact aA (q:=by rw[z8 g l w,oI,ab ap,ab B,ab λY=>L (by grind[agY])];rfl)
instance:xv cZ:=⟨⟨ad,0,[],ad,[],ad,[],0,0,0,ad,[],0⟩⟩
structure dX where
 b_:X cZ
 root:J
def kB(b:dX):V:=bH [.a 13 (aa i3 b.b_),an aj b.root]
def hK(d:tI)(b:dX):J:=if Q b.b_=0 then 13 else if 60<Q b.b_ then 3 else if kG (Q b.b_) b.root then 9
 else l6 (λc=>gq d (z b.b_ c ai)<|Q b.b_) (Q b.b_)
def dX.ks(b:dX):Prop:=(∀c∈b.b_,c.ks)/\Q b.b_<=1000000
theorem Da{b:X cZ}(c:P<Q b):z b P ai=b[P]:=ap
def aw4{i:tI}(v:KP i)(b:dX)(w:b.ks):bb 27 [kB b] (an aj (hK i b)):=by
 refine bx func27 [] λy A=>?_;apply e<;>intro D
 .exact aA (q:=by rw[hK,ae o];rfl)
 apply e<;>intro B
 .exact aA (q:=by rw[hK,ab o,ae o];rfl)
 refine aS ?_ (x:=a6 !kG (Q b.b_) b.root) (f:=by simp[OO]);apply e<;>intro u
 .exact aA (q:=by rw[hK,ab o,ab o,ae ap];rfl)
 let l:¬Q b.b_=0:=o;let m:¬60<Q b.b_:=o;let n:¬kG (Q b.b_) b.root:=by simpa using u
 refine i0 (Q b.b_) (λd=>l6 (λd=>gq i (z b.b_ d ai)<|Q b.b_) d=0) (λd=>⟨[(1,c 1),(3,k d)],[(1,_)],[]⟩) (λd j=>?_) p .r;apply e<;>intro C
 .let g:d<Q b.b_:=o;refine eg<|bi d (i3<|z b.b_ d ai) ?_ (j:=gD g);refine cf ?_ (x:=an aj<|gq i (z b.b_ d ai)<|Q b.b_) (f:=by rw[bg];exact ayP i v (z b.b_ d ai) (Q b.b_) (by rw[Da g];exact w.1 _<|fK g) o);apply e<;>intro s
  .exact aA (q:=by rw[hK,ab l,ab m,ab n,HV j.2 s _ g];rfl)
  refine bc ?_;exact a0 (d+1) ⟨o,E5 j.2<|oP s⟩ (cq:=.r)
 exact aA (q:=by
  let t:l6 (λd=>gq i (z b.b_ d ai)<|Q b.b_) (Q b.b_)=0:=by
   let g:Q b.b_=d:=by omega
   have:=j.2;rw[<-g] at this;exact this
  rw[hK,ab l,ab m,ab n,t];rfl)
def ass(c:tI)(d:KP c)(b:X v)(e:Q b<=1048576)(g:c.DC b=0):bb 65 [bV b] (fp (c.wO (c.qF b))):=by refine bx func65 [] λi j=>?_;refine aS ?_ (f:=d.read b e);refine aS ?_ (f:=d.least b e g);exact dB bq
structure bX where
 null:Y
 eR:J
 cd:X aV
 eP:Y
 i4:bF
 cJ:Y
 w:Z->J
 min:J
 max:J
 du:Y
 names:X (X v)
 aD:X J
 g_:X Y
 rest:J
def gT(b:bX):V:=bH [a6 b.null,an aj b.eR,.a 11<|aa dk b.cd,a6 b.eP,k b.i4.start,.a 1<|aa a_ b.i4.acc,.a 1<|aa b6 b.i4.next,a6 b.cJ,an aj<|b.w 0,an aj<|b.w 1,an aj<|b.w 2,an aj<|b.w 3,an aj<|b.w 4,an aj<|b.w 5,an aj<|b.w 6,an aj<|b.w 7,an aj<|b.w 8,an aj<|b.w 9,an aj<|b.w 10,an aj b.min,an aj b.max,a6 b.du,.a 1<|aa V.str b.names,.a 1<|aa c7 b.aD,.a 1<|aa a_ b.g_,an aj b.rest]
def pl(b:Z):Z:=if b<=10 then b else 10
theorem F1(b:Z):pl b<=10:=by grind[pl]
theorem av6(b:Z):min ((b:Z):J) 10=((pl b:Z):J):=by grind[pl]
def bX.dd(b:bX)(c:Z):J:=b.w<|pl c
def UJ(c:bX)(b:Z)(g:b<=2000000):bb 34 [gT c,k b] (an aj (c.dd b)):=by refine gJ.of_wp (t:=hV) (i:=5000) [] (λ_=>(0,0)) ⟨[(0,gT c),(1,k b)],[],[]⟩ e1 bq gw ⟨func34,a3,p⟩ p p p p λe f j=>?_;let l:=F1 b;let hm:=av6 b;let d:pl b=0\/pl b=1\/pl b=2\/pl b=3\/pl b=4\/pl b=5\/pl b=6\/pl b=7\/pl b=8\/pl b=9\/pl b=10:=o;rcases d with q|q|q|q|q|q|q|q|q|q|q;refine pY ((0:Z):J) ?_ (q:=o);refine hE 0 8 ?_;exact aA (q:=by rw[bX.dd,q];rfl);refine pY ((1:Z):J) ?_ (q:=o);refine hE 1 9 ?_;exact aA (q:=by rw[bX.dd,q];rfl);refine pY ((2:Z):J) ?_ (q:=o);refine hE 2 10 ?_;exact aA (q:=by rw[bX.dd,q];rfl);refine pY ((3:Z):J) ?_ (q:=o);refine hE 3 11 ?_;exact aA (q:=by rw[bX.dd,q];rfl);refine pY ((4:Z):J) ?_ (q:=o);refine hE 4 12 ?_;exact aA (q:=by rw[bX.dd,q];rfl);refine pY ((5:Z):J) ?_ (q:=o);refine hE 5 13 ?_;exact aA (q:=by rw[bX.dd,q];rfl);refine pY ((6:Z):J) ?_ (q:=o);refine hE 6 14 ?_;exact aA (q:=by rw[bX.dd,q];rfl);refine pY ((7:Z):J) ?_ (q:=o);refine hE 7 15 ?_;exact aA (q:=by rw[bX.dd,q];rfl);refine pY ((8:Z):J) ?_ (q:=o);refine hE 8 16 ?_;exact aA (q:=by rw[bX.dd,q];rfl);refine pY ((9:Z):J) ?_ (q:=o);refine hE 9 17 ?_;exact aA (q:=by rw[bX.dd,q];rfl);refine pY ((10:Z):J) ?_ (q:=o);refine hE 10 18 ?_;exact aA (q:=by rw[bX.dd,q];rfl)
def bX.sd(b:bX)(name:X v):Z->Z->J×Y|0,_=>(b.rest,ad)|d+1,c=>if z b.names c []=name then(z b.aD c 0,z b.g_ c ad) else b.sd name d (c+1)
def bX.field(b:bX)(name:X v):J×Y:=b.sd name (Q b.names) 0
structure bX.ok(ao:bX):Prop where
 k:Q ao.aD=Q ao.names
 m:Q ao.g_=Q ao.names
 n:Q ao.names<=1000000
theorem je{c f:Type}{b:X c}{d:c->f}{e:c}(g:P<Q b):(aa d b)[P]?=W (d (z b P e)):=by simp_all
def aaq(d:bX)(name:X v)(i:d.ok):bb 36 [gT d,bV name] (cs [an aj (d.field name).1,a6 (d.field name).2]):=by
 refine bx func36 [] λm n=>?_;let⟨t,hm,u⟩:=i;refine i0 (Q d.names) (λb=>d.field name=d.sd name (Q d.names-b) b) (λb=>⟨[(1,_),(2,c 2),(6,k b)],[(2,_)],[]⟩) (λb j=>?_) p .r;apply e<;>intro s
 .let l:b<Q d.names:=o;let f:Q d.names-b=Q d.names-(b+1)+1:=o;refine bi b (bV<|z d.names b []) ?_ (j:=je l);apply e<;>intro g
  .refine eg<|bi b (c7<|z d.aD b 0) ?_ (j:=je o);refine bi b (a_<|z d.g_ b ad) ?_ (j:=je o);exact aA (q:=by rw[j.2,f,bX.sd,ae g];rfl)
  refine bc ?_;exact a0 (b+1) ⟨o,by simp_all[bX.sd,ab]⟩ (cq:=.r)
 exact aA (q:=by rw[j.2,show Q d.names-b=0 by omega,bX.sd];rfl)
def bX.yb(b:bX)(d:X Y):Z->Y|0=>aL (b.min<=b.max)|c+1=>b.yb d c&&aL (0<=b.dd c)&&z d (aB<|b.dd c) ad
def bX.hj(b:bX):Z:=if b.min<=0 then 0 else if 11<=b.min then 11 else aB b.min
def bX.rA(b:bX)(d:X Y):Z->Y|0=>af|c+1=>b.rA d c&&!(z b.g_ c ad&&(aL (z b.aD c 0<0)||!z d (aB<|z b.aD c 0) ad))
def bX.some(b:bX)(c:X Y):Y:=if((b.null=af\/0<b.eR)\/0<Q b.cd)\/b.eP then af
 else if b.cJ/\b.yb c b.hj then af
 else b.du&&b.rA c (Q b.names)
structure bX.h2(ao:bX)(T:Z):Prop where
 w:∀E,E<=10->ao.w E<T
 aD:∀E,E<Q ao.aD->z ao.aD E 0<T
def bX.N6{b:bX}(d:b.h2 P)(c:Z):b.dd c<P:=d.w _<|F1 c
def ae4{e:bX}{d:X Y}{c:Z}(f:e.rA d (c+1)=ad):∀b,c<b->e.rA d b=ad|0,i=>o|b+1,i=>by rcases fF c b with g|g;rw[bX.rA,ae4 f b g];rfl;obtain rfl:c=b:=o;exact f
def ay7(b:bX)(i:X Y)(B:b.ok)(A:b.h2 (Q i)):bb 121 [gT b,.a 1 (aa a_ i)] (a6 (b.some i)):=by
 refine bx func121 [27] λF G=>?_;let⟨N,hm,P⟩:=B;refine eA ?_;refine eA ?_;refine eA ?_;apply e<;>intro u
 .exact aA (q:=by rw[bX.some,ae (by simpa using u)];rfl)
 have n:¬(((b.null=af\/0<b.eR)\/0<Q b.cd)\/b.eP):=by simpa using u
 refine gf kc (λE=>⟨[(1,.a 1<|aa a_ i),(2,c 2)],[(2,ag 92<|gT b)],[]⟩) (λ_=>¬(b.cJ=af/\b.yb i b.hj)) ?_ λE t=>?_
 .apply e<;>intro v
  .refine i0 11 (λg=>(g:J)<=b.min\/g=0) (λg=>⟨[(1,_),(2,c 2),(5,a6<|b.yb i g),(6,k g)],[(2,_)],[]⟩) (λg j=>?_) (bp p) .r;refine fk ?_;apply e<;>intro H
   .have R:=bX.N6 A g;refine aS ?_ (f:=UJ b g o);refine fk ?_;apply c9;intro K;refine gx (aB<|b.dd g) (a_<|z i (aB<|b.dd g) ad) ?_ (a7:=o) (j:=je o);exact p;refine bc ?_;exact a0 (g+1) ⟨o,o⟩ (cq:=.r)
   have C:g=b.hj:=by unfold bX.hj;split<;>(try split)<;>omega
   subst C;apply e<;>intro w
   .exact aA (q:=by rw[bX.some,ab n,ae ⟨v,w⟩];rfl)
   exact cA () λm=>w m.2
  exact cA () λm=>v m.1
 apply e<;>intro x
 .refine i0 (Q b.names) (λd=>b.rA i d=af) (λd=>⟨[(1,_),(2,c 2),(8,k d)],[(2,_)],[]⟩) (λd s=>?_) p .r;apply e<;>intro I
  .have D:d<Q b.names:=o;have O:=A.aD d o;refine bi d (a_<|z b.g_ d ad) ?_ (j:=je o);apply c9;intro L;refine gx d (c7<|z b.aD d 0) ?_ (j:=je o);apply ev;intro M;refine gx d (c7<|z b.aD d 0) ?_ (j:=je o);refine gx (aB<|z b.aD d 0) (a_<|z i (aB<|z b.aD d 0) ad) ?_ (a7:=o) (j:=je o);exact p;exact p;apply e<;>intro y
   .exact aA (q:=by
     have l:b.rA i (d+1)=ad:=by rw[bX.rA,s.2,xf,ajI];simpa using y
     rw[bX.some,ab n,ab t,ae4 l _ D,Bool.and_false];rfl)
   refine bc ?_;exact a0 (d+1) ⟨o,by rw[bX.rA,s.2,xf,Ai,J7];intro m;exact y (by simpa using m)⟩ (cq:=.r)
  exact aA (q:=by
   have l:Q b.names=d:=by omega
   rw[bX.some,ab n,ab t,l,s.2,x];rfl)
 exact aA (q:=by
  have l:b.du=ad:=by simpa using x
  rw[bX.some,ab n,ab t,l];rfl)
def eE(d:Z->X Y->Y)(c:X Y):Z->X Y|0=>c|b+1=>if z (eE d c b) b af=ad/\d b (eE d c b) then aK (eE d c b) b af else eE d c b
def rb(c:X Y):Z:=c.countP λb=>!b
def nW(d:Z->X Y->Y)(c:Z):Z->X Y->X Y|0,b=>b|e+1,b=>if eE d b c=b then b else nW d c e (eE d b c)
def qr(d:Z->X Y->Y)(c:Z)(b:X Y):X Y:=nW d c (rb b+1) b
theorem BM(d:Z->X Y->Y)(c:X Y):∀b,Q (eE d c b)=Q c|0=>p|b+1=>by rw[eE];split<;>simp[BM d c b]
theorem Rh:∀{b:X Y}{c:Z},z b c af=ad->rb (aK b c af)+1=rb b|[],c,d=>cc|e::b,0,d=>by grind[rb]|e::b,c+1,d=>by grind[rb]
theorem zV(d:Z->X Y->Y)(b:X Y):∀c,rb (eE d b c)<=rb b/\(eE d b c=b\/rb (eE d b c)<rb b)|0=>⟨bz _,bl p⟩|c+1=>by let⟨e,f⟩:=zV d b c;grind[eE,Rh]
theorem aax(f:Z->X Y->Y)(e:Z):∀(d c:Z)(b:X Y),rb b<d->rb b<c->nW f e d b=nW f e c b|0,_,_,g,_=>o|_,0,_,_,g=>o|d+1,c+1,b,i,j=>by rw[nW,nW];split;rfl;rename_i g;have:=kx (zV f b e).2 g;exact aax f e d c _ o o
theorem aay{c:Z->X Y->Y}{b:X Y}(d:eE c b P≠b):qr c P b=qr c P (eE c b P):=by have:=kx (zV c b P).2 d;unfold qr;rw[nW,ab d];grind[aax]
theorem aaz{c:Z->X Y->Y}{b:X Y}(d:eE c b P=b):qr c P b=b:=by simp_all[qr,nW,ae]
instance:xv bF:=⟨⟨0,[],[]⟩⟩
instance:xv bX:=⟨⟨ad,0,[],ad,ai,ad,λ_=>0,0,0,ad,[],[],[],0⟩⟩
def n9(c:X bX)(b:Z)(d:X Y):Y:=(z c b ai).some d
def eT(b:X bX):X Y:=qr (n9 b) (Q b)<|cM (Q b) ad
def afI{sm:Z->X Y->Y}{L:X Y}{E:Z}(c:z (eE sm L E) E af=ad)(b:sm E (eE sm L E)):eE sm L (E+1)=aK (eE sm L E) E af/\eE sm L (E+1)≠L:=by
 let d:eE sm L (E+1)=aK (eE sm L E) E af:=by rw[eE,ae ⟨c,b⟩]
 grind[Rh,zV]
structure WY(L:X bX):Prop where
 ok:∀ao∈L,ao.ok
 h2:∀ao∈L,ao.h2 (Q L)
 len:Q L<=1000000
def aa9{b:X bX}(c:P<Q b):z b P ai=b[P]:=ap
def aqj(L:X bX)(x:WY L):bb 67 [.a 26 (aa gT L)] (.a 1 (aa a_ (eT L))):=by
 refine bx func67 [] λF G=>?_;let⟨y,K,M⟩:=x;refine kF (Q L) (Q L) (aa a_<|cM (Q L) ad) ?_ (j:=av) (j1:=av) (aW:=xt);refine dv (X Y×Y) (λd=>⟨[(0,_),(3,.aq 8 0<|Q L),(4,a6 d.2)],[(8,.h 1 4<|aa a_ d.1)],[]⟩) (λd=>Q d.1=Q L/\(d.2=af->qr (n9 L) (Q L) d.1=eT L)/\(d.2=ad->d.1=eT L)) (λd=>2*rb d.1+(if d.2 then 1 else 0)) (cM (Q L) ad,af) (λ⟨b,s⟩ aH=>?_) ⟨sH,λ_=>p,λq=>by cases q⟩ .r;dsimp only at aH⊢;let⟨B,N,A⟩:=aH;apply e<;>intro u
 .refine dv (Z×X Y×Y) (λc=>⟨[(0,_),(3,.aq 8 0<|Q L),(4,a6 c.2.2),(5,k c.1)],[(8,.h 1 4<|aa a_ c.2.1)],[]⟩) (λc=>c.1<=Q L/\c.2.1=eE (n9 L) b c.1/\c.2.2=aL (eE (n9 L) b c.1≠b)) (λc=>Q L-c.1) (0,b,ad) (λ⟨E,O,l⟩ n=>?_) ⟨dO _,p,by simp[eE]⟩ .r;dsimp only at n⊢;obtain⟨j,rfl,I⟩:=n;let C:Q (eE (n9 L) b E)=Q L:=by rw[BM];exact B
  let D:Q (aa a_<|eE (n9 L) b E)=Q L:=by rw[bg];exact C
  apply e<;>intro H
  .let i:E<Q L:=o;let w:z L E ai∈L:=by rw[aa9 i];exact fK i
   refine cC E ?_;refine e9 (a_<|z (eE (n9 L) b E) E af) ?_ (j:=je o);apply c9;intro J;refine gx E (gT<|z L E ai) ?_ (j:=gD i);refine kz ?_ (f:=ay7 (z L E ai) (eE (n9 L) b E) (y _ w) ap) (wK:=.cons (.pl p)<|.cons (.a p<|bG D) .nil);exact p;apply e<;>intro m
   .let g:=afI (sm:=n9 L) (L:=b) (E:=E) ap m.2;refine cC E ?_;refine gN (aa a_<|aK (eE (n9 L) b E) E af) (a_<|z (eE (n9 L) b E) E af) (a_ af) ?_ (j:=je o) (aW:=av);refine bc ?_;exact a0 (E+1,aK (eE (n9 L) b E) E af,af) ⟨o,bG g.1,aY⟩ o .r
   let g:eE (n9 L) b (E+1)=eE (n9 L) b E:=by rw[eE,ab λt=>m ⟨ap,t.2⟩]
   refine bc ?_;exact a0 (E+1,eE (n9 L) b E,l) ⟨o,bG g,ap⟩ o .r
  obtain rfl:E=Q L:=o;exact a0 (eE (n9 L) b<|Q L,l) ⟨o,λq=>by
   grind[aay],λq=>by grind[aaz]⟩ (by grind[zV,n9]) .r
 let v:s=ad:=by simpa using u
 exact zp (aJ:=aa a_ b) 8 (Q L) a2<|aA (q:=by rw[A v];rfl)
structure bF.ok(y:bF):Prop where
 pos:0<Q y.next
 len:Q y.next<=300
 acc:Q y.acc=Q y.next
 h:∀E,E<Q y.next->Q (z y.next E [])=256
 start:y.start<Q y.next
 dst:∀E R,E<Q y.next->R<256->z (z y.next E []) R 0<Q y.next
def bF.step(b:bF)(d:Z)(c:v):Z:=z (z b.next d []) (aG c) 0
def bF.run(b:bF)(c:Z)(d:X v):Z:=d.foldl b.step c
def bF.has(b:bF)(c:X v):Y:=z b.acc (b.run b.start c) ad
def bF.azv{b:bF}(e:b.ok)(d:P<Q b.next)(c:v):b.step P c<Q b.next:=e.dst P _ d<|nc c
def bF.Jm{b:bF}(f:b.ok):∀(e:X v)(d:Z),d<Q b.next->b.run d e<Q b.next|[],_,c=>c|g::e,d,c=>bF.Jm f e _<|b.azv f c g
def bF.ahi(b:bF)(d:Z)(e:X v)(c:v):b.run d (e++[c])=b.step (b.run d e) c:=by simp[bF.run,Pz]
def VU(b:P<Q g):ak (P+1) g=ak P g++[z g P 0]:=by simp_all
def Nv{b:X Z}(c:P<Q b):(b.map λd=>V.int aj (d:Z))[P]?=W (an aj ((z b P 0:Z):J)):=je c
def ayd(f:bF)(g:f.ok)(m:P<Q f.next)(d:X v)(cq:Q d<=100000000):bb 75 [fp f,k P,bV d] (k (f.run P d)):=by
 refine bx func75 [] λn q=>?_;refine eC (Q d) (λb=>⟨[(1,k<|f.run P<|ak b d),(2,_),(3,c 3),(7,k b)],[(3,_)],[]⟩) (λb j=>?_) .r;apply e<;>intro t
 .let l:b<Q d:=o;let i:=bF.Jm g (ak b d) P m;let u:=g.h _ i;let s:aG (z d b 0)<256:=nc<|z d b 0;refine eg<|bi (f.run P<|ak b d) (b6<|z f.next (f.run P<|ak b d) []) ?_ (j:=je i);refine rt b (z d b 0) (j:=wG l)<|bi (aG<|z d b 0) (an aj ((f.step (f.run P<|ak b d) (z d b 0):Z):J)) ?_ (j:=Nv o);exact bc<|a0 (b+1) (cq:=⟨⟨(by rw[VU l,bF.ahi];rfl),p,p,p,c1⟩,⟨p,c1⟩,p,p⟩)
 obtain rfl:b=Q d:=o;rw[g5];exact aA
def alj(f:bF)(g:f.ok)(d:X v)(cq:Q d<=100000000):bb 222 [fp f,bV d] (k (f.run f.start d)):=by
 refine bx func222 [] λm n=>?_;refine eC (Q d) (λb=>⟨[(1,_),(2,c 2),(5,k<|f.run f.start<|ak b d),(10,_),(11,k b)],[(2,_)],[]⟩) (λb j=>?_) .r;apply e<;>intro s
 .let l:b<Q d:=o;let i:=bF.Jm g (ak b d) f.start g.start;let t:=g.h _ i;let q:aG (z d b 0)<256:=nc<|z d b 0;refine eg<|bi (f.run f.start<|ak b d) (b6<|z f.next (f.run f.start<|ak b d) []) ?_ (j:=je i);refine rt b (z d b 0) (j:=wG l)<|bi (aG<|z d b 0) (an aj ((f.step (f.run f.start<|ak b d) (z d b 0):Z):J)) ?_ (j:=Nv o);exact bc<|a0 (b+1) (cq:=⟨⟨p,p,(by rw[VU l,bF.ahi];rfl),p,p,c1⟩,⟨p,c1⟩,p,p⟩)
 obtain rfl:b=Q d:=o;rw[g5];exact aA
def agx(d:bF)(i:d.ok):bb 74 [fp d] (an aj 0):=by
 refine bx func74 [] λs t=>?_;let u:=i.acc;let H:=i.start;let G:=i.len;apply e<;>intro D
 .omega
 refine eA ?_;apply e<;>intro v
 .omega
 refine eC (Q d.next) (λg=>⟨[(1,c 1),(3,k g)],[(1,_)],[]⟩) (λg j=>?_) .r;apply e<;>intro w
 .let n:g<Q d.next:=o;let q:=i.h g n;refine bi g (b6<|z d.next g []) ?_ (j:=je n);apply e<;>intro x
  .omega
  refine bc ?_;exact a0 (g+1) (cq:=.r)
 refine eA ?_;apply e<;>intro y
 .omega
 refine eC (Q d.next) (λb=>⟨[(1,c 1),(4,k b)],[(1,_)],[]⟩) (λb F=>?_) .r;apply e<;>intro A
 .let l:b<Q d.next:=o;let q:=i.h b l;refine eC 256 (λf=>⟨[(1,c 1),(4,_),(5,k f)],[(1,_)],[]⟩) (λf m=>?_) .r;apply e<;>intro B
  .let m:f<256:=o;let I:=i.dst b f l m;refine eg ?_;refine bi b (b6<|z d.next b []) ?_ (j:=je l);refine bi f (an aj ((z (z d.next b []) f 0:Z):J)) ?_ (j:=Nv o);apply ev;intro E;refine gx b (b6<|z d.next b []) ?_ (j:=je l);refine gx f (an aj ((z (z d.next b []) f 0:Z):J)) ?_ (j:=Nv o);exact p;apply e<;>intro C
   .omega
   refine bc ?_;exact a0 (f+1) (cq:=.r)
  refine bc ?_;exact a0 (b+1) (cq:=.r)
 exact aA
def agt(b:bF)(d:b.ok)(c:X v)(g:Q c<=100000000):bb 33 [fp b,bV c] (cs [a6 (b.has c),an aj 0]):=by
 refine bx func33 [] λi k=>?_;let n:=bF.Jm d c _ d.start;let l:=d.acc;refine aS ?_ (f:=agx b d);apply e<;>intro m
 .omega
 refine eg<|cf (f:=ayd b d d.start c g)<|bi (b.run b.start c) (a_<|z b.acc (b.run b.start c) ad) ?_ (j:=ap);exact aA
section
def yG(c:bF):Z->X (X v)
|0=>cM (Q c.next) []|b+1=>if z (dV c<|z (ca c<|b/256) (b/256) 0) (b%256) 0∈ig c (b/256) (b%256) then yG c b
 else aK (yG c b) (z (dV c<|z (ca c<|b/256) (b/256) 0) (b%256) 0) (z (yG c b) (z (ca c<|b/256) (b/256) 0) []++[gk (b%256)])
def n_(b:bF)(d c:Z):X (X v):=yG b<|256*d+c
def aAV(b:bF):n_ b 0 0=cM (Q b.next) []:=p
def aAS(b:bF)(c:Z):n_ b c 256=n_ b (c+1) 0:=a3
def aAT(c:bF)(b:Z)(d:P<256):n_ c b (P+1)=if z (dV c (z (ca c b) b 0)) P 0∈ig c b P then n_ c b P else aK (n_ c b P) (z (dV c (z (ca c b) b 0)) P 0) (z (n_ c b P) (z (ca c b) b 0) []++[gk P]):=by grind[n_,Nat.add_assoc,yG]
def V4(b:bF):∀c,Q (yG b c)=Q b.next|0=>sH ..|c+1=>by rw[yG];split;exact V4 b c;rw[nJ,V4 b c]
theorem V3(b:bF)(d c:Z):Q (n_ b d c)=Q b.next:=V4 b _
def mx(b:bF):Y:=!(ca b<|Q b.next).any (hg b)
def C4(b:bF):Z:=(ca b<|Q b.next).findIdx<|hg b
def Gg(b:bF):X v:=if C4 b<Q (ca b<|Q b.next) then z (n_ b (C4 b) 0) (z (ca b<|Q b.next) (C4 b) 0) [] else[]
def yF(b:X v):V:=bV b
def V6{b:X (X v)}(c:P<Q b):(aa yF b)[P]?=W (yF (z b P [])):=by simp_all
theorem TP{b:bF}(d:hJ b)(c:P<Q (ca b P)):z (ca b (Q b.next)) P 0=z (ca b P) P 0/\P<Q (ca b (Q b.next)):=by
 let e:=qz (wU b P)<|oD d P;let f:(ca b<|Q b.next)[P]?=W (z (ca b P) P 0):=by refine zX (o4<|show P<=Q b.next by omega) ?_;show(ca b P)[P]?=_;rw[dm,cm c];rfl
 grind
def ahK{y:bF}(e:hJ y){E:Z}(d:E<Q (ca y E))(k:∀b,b<E->hg y (z (ca y (Q y.next)) b 0)=ad)(g:hg y (z (ca y E) E 0)):Gg y=z (n_ y E 0) (z (ca y E) E 0) []/\mx y=ad:=by
 let⟨f,c⟩:=TP e d;have i:C4 y=E:=by unfold C4;rw[List.findIdx_eq c];refine⟨?_,λb j=>?_⟩;simp_all;grind
 refine⟨by simp_all[Gg,ae],?_⟩;grind[mx,Bool.not_eq_false',List.any_eq_true,cT]
def ahL{y:bF}(j:∀b,b<Q (ca y (Q y.next))->hg y (z (ca y (Q y.next)) b 0)=ad):Gg y=[]/\mx y:=by
 let g:∀c∈ca y (Q y.next),hg y c=ad:=λc d=>by obtain⟨b,i,rfl⟩:=lU.1 d<;>simp_all
 let f:¬C4 y<Q (ca y<|Q y.next):=λe=>by grind[C4,List.findIdx_lt_length]
 simp_all[Gg,ab,mx,Ai,ajK]
def bF.ok.wf{c:bF}(b:c.ok):hJ c:=⟨by have:=b.len;omega,b.acc,b.h,b.start,b.dst⟩
theorem ad1{b:bF}{c:Z}(e:Q (ca b P)<=P)(d:P<=c):ca b c=ca b P:=sX e d
def Pg(d:bF):∀b c,Q (z (yG d b) c [])<=b|0,c=>by rw[yG,dm,yP]<;>grind|b+1,c=>by rw[yG];split;exact aj8<|Pg d b c;rw[vm];split;rw[cX,p_];exact akj<|Pg d b _;exact aj8<|Pg d b c
theorem aAU(b:bF)(d c e:Z):Q (z (n_ b d c) e [])<=256*d+c:=Pg b _ e
attribute [local irreducible] n_ ig ca dV iC hg Gg mx
def ax2(y:bF)(q:hJ y):bb 120 [fp y] (cs [bV (Gg y),a6 !mx y]):=by
 refine bx func120 [] λN O=>?_;have au:=q.start;have ak:=q.len;obtain⟨d,F⟩:∃d,d=Q y.next:=⟨_,p⟩;have I:=λE=>ahK (y:=y) q (E:=E);have M:=ahL (y:=y);refine kF d d (aa yF<|n_ y 0 0) ?_ (j:=ap) (j1:=ap) (aW:=by rw[aAV,Ea,F];rfl);refine kF d d (aa a_<|iC d []) ?_ (j:=ap) (j1:=ap) (aW:=WM);refine pW ?_;refine cC y.start ?_ (j:=o);refine gN (aa a_<|iC d [y.start]) (a_ ad) (a_ af) ?_ (j:=GS) (aW:=by rw[<-hW,Ff (L:=[]) ka];rfl);refine i0 d (λE=>∀f,f<E->hg y (z (ca y<|Q y.next) f 0)=ad) (λE=>⟨[(1,c 1),(7,k E),(4,.aq 13 0 d),(5,.aq 17 0 d),(6,.aq 20 0<|Q<|aa k<|ca y E)],[(1,ag 89<|fp y),(13,.h 1 9<|aa yF<|n_ y E 0),(17,.h 1 4<|aa a_<|iC d<|ca y E),(20,.h 1 3<|aa k<|ca y E)],[]⟩) (λE j=>?_) λf j1=>b9 j1<|vY f;apply e<;>intro R
 .let⟨x,m⟩:=j;have g:E<Q (ca y E):=o;have am:=qz (wU y E)<|oD q E;have r:z (ca y E) E 0<Q y.next:=oD q E _<|cT g;have ar:=q.h _ r;refine eg ?_;refine cC E ?_ (j:=a2);refine e9 (k<|z (ca y E) E 0) ?_ (j:=eN g);refine bi (z (ca y E) E 0) (a_<|hg y<|z (ca y E) E 0) ?_ (j:=by unfold hg;exact ED (by rw[q.acc]<;>omega));apply e<;>intro v
  .let⟨t,u⟩:=I E g m v;rw[t,u];refine cC E ?_ (j:=a2);refine e9 (k<|z (ca y E) E 0) ?_ (j:=eN g);refine cC (z (ca y E) E 0) ?_ (j:=o);refine e9 (yF<|z (n_ y E 0) (z (ca y E) E 0) []) ?_ (j:=V6 (by grind[V3]));exact aA
  have P:hg y (z (ca y E) E 0)=ad:=by simpa using v
  have K:∀f,f<E+1->hg y (z (ca y (Q y.next)) f 0)=ad:=λf j1=>by rcases fF f E with B|B;simp_all;grind[TP]
  have al:ca y E=ig y E 0:=by unfold ig;rw[xk];rfl
  refine eC 256 (λb=>⟨[(1,c 1),(7,k E),(8,k b),(4,.aq 13 0 d),(5,.aq 17 0 d),(6,.aq 20 0<|Q<|aa k<|ig y E b)],[(1,ag 89<|fp y),(13,.h 1 9<|aa yF<|n_ y E b),(17,.h 1 4<|aa a_<|iC d<|ig y E b),(20,.h 1 3<|aa k<|ig y E b)],[]⟩) λb i=>?_;apply e<;>intro S
  .have i:b<256:=o;let⟨C,D⟩:=FC q g b;have l:=adY q g i;have G:=adW g b;have H:=JC q r i;have X:=qz D C;have U:E<Q (ig y E b):=(e3.1 G).1;have s:=aAT y E i;refine eg ?_;refine cC E ?_ (j:=a2);refine e9 (k<|z (ca y E) E 0) ?_ (j:=ap);refine bi (z (ca y E) E 0) (b6<|dV y<|z (ca y E) E 0) ?_ (j:=Gm r);refine bi b (k<|z (dV y<|z (ca y E) E 0) b 0) ?_ (j:=Gn H.1);refine cC (z (dV y<|z (ca y E) E 0) b 0) ?_ (j:=o);refine e9 (a_<|aL<|z (dV y<|z (ca y E) E 0) b 0∈ig y E b) ?_ (j:=GS);apply e<;>intro w
   .have n:z (dV y (z (ca y E) E 0)) b 0∉ig y E b:=by simpa using w
    have ao:ig y E (b+1)=ig y E b++[z (dV y (z (ca y E) E 0)) b 0]:=by rw[l,note,ab n]
    have Y:Q (ig y E (b+1))<=Q y.next:=qz (FC q g<|b+1).2 (FC q g<|b+1).1;rw[ab n] at s;refine cC (z (dV y<|z (ca y E) E 0) b 0) ?_ (j:=o);refine gN (aa a_<|iC d<|ig y E<|b+1) (a_ ad) (a_ af) ?_ (j:=by grind[Fe,decide_eq_false]) (aW:=by rw[<-hW,Ff n,l]);refine eS ?_;refine br (λ_=>cC E p (j:=a2)) ?_;refine ajo ?_;apply AG.mk;intro aw;refine e9 (k<|z (ca y E) E 0) ?_ (j:=ap);exact p;refine br (λ_=>cC (z (ca y E) E 0) p (j:=o)) ?_;refine br (λ_=>e9 (yF<|z (n_ y E b) (z (ca y E) E 0) []) p (j:=V6 (by grind[V3]))) ?_;refine br (λ_=>lg ((aG (gk b):Z):J) p (a7:=by rw[tq i]) (s8:=by grind[tq,Di])) ?_;refine br (λ_=>lf p) ?_;refine br (λ_=>at1 [gk b] p) ?_;refine br (λ_=>vz p (q:=by grind[aAU,ca,List.length_singleton])) ?_;refine br (λ_=>cC (z (dV y<|z (ca y E) E 0) b 0) p (j:=o)) ?_;refine uJ (aa yF<|n_ y E<|b+1) (yF<|z (n_ y E b) (z (dV y<|z (ca y E) E 0) b 0) []) (yF<|z (n_ y E b) (z (ca y E) E 0) []++[gk b]) ?_ (j:=V6 (by grind[V3])) (aW:=ap);refine fZ ?_;refine er ?_;refine e7 (aa k<|ig y E<|b+1) ?_ (aW:=ap) (bQ:=a2);refine bc ?_;exact a0<|b+1
   have A:z (dV y (z (ca y E) E 0)) b 0∈ig y E b:=by simpa using w
   rw[ae A] at s;rw[show ig y E b=ig y E (b+1) by rw[l,note,ae A],<-s];refine bc ?_;exact a0<|b+1
  obtain rfl:b=256:=o;rw[adX q g,aAS];refine bc ?_;exact a0 (E+1) ⟨o,K⟩
 let⟨x,m⟩:=j;have T:ca y d=ca y E:=ad1 (show Q (ca y E)<=E by omega) x;let⟨t,u⟩:=M λf j1=>m f oU;rw[t,u];exact aA
def awY{b:bF}(q:b.ok):bb 66 [fp b] (cs [a6 (mx b),an aj 0]):=by refine bx func66 [] λc d=>?_;refine aS ?_ (f:=agx b q);refine ly.mk nofun λ_=>?_;refine aS ?_ (f:=ax2 b q.wf);exact aA (q:=by rw[Bool.not_not];rfl)
end
section
attribute [local irreducible] fD hT fP
theorem abq(d c:Z):aK (iC d (bJ c)) c af=iC d (bJ (c+1)):=by rw[Ff λb=>b9 (g4.1 b) o,vX];congr 1;exact ab λb=>b9 (g4.1 b) o
theorem Sq{c b:Z}(d:b<P):(aa a_ (iC P (bJ c)))[b]?=W (a_ (aL (b<c))):=by simp_all[c4,Fe,a_,qW,g4]
def aBG(b c:Z):z (cM b 0) c 0=0:=by grind
def Es(d c:X Z)(e f:Z):Prop:=Q d=e/\Q c=e/\(∀b,0<b->b<f->z d b 0<b)/\∀b,z c b 0<256
def Es.new{d c:X Z}{b f e:Z}(g:Es d c P b)(q:f<b)(n:e<256):Es (aK d b f) (aK c b e) P (b+1):=by let⟨j,k,l,m⟩:=g;refine⟨a2,a2,λi s r=>?_,λi=>?_⟩;grind;grind[aqu]
def Gf(b:bF)(c:Z):(DO b).cells[256+c]?=[V.a 1 (aa k (fP b)),V.a 1 (om b (hT b)),V.a 1 (nB b (hT b))][c]?:=l3 a3 _ _ _ c
def ak2{b:bF}(c:P<hT b):(om b (hT b))[P]?=W (a_ (hg b (ur b P))):=by unfold om;rw[c4,Aj c];rfl
def ayh{b:bF}{c:Z}(d:c<Q (fP b)):(aa k (Gd b P))[c]?=W (k (pZ b P c)):=by unfold Gd ii<;>simp_all
attribute [local irreducible] om nB Gd
def ayR(y:bF)(i:hJ y)(q:Q y.next<=300):nM b5 hB 152 [c 6000] [] [(6000,ag 234 (DO y))] (λ_:X v=>dW) (λB=>cs [bV B,a6 !mx y]) (λ_=>[]) (λ_=>[(6000,ag 234<|DO y)]):=by
 refine nM.of_wp (t:=hV) [2001] e1 bq gw ⟨func152,a3,p⟩ p p p λbw ar ax a7=>?_;have a4:k1 b5 hV ar hB _ [2001]:=⟨e1,bq,ax,gw,a7⟩;have A:=ahn y<|hT y;have bu:=atV i q;have bn:Q (aa k (fP y))=Q (fP y):=bg ..;have aE:=atp y;have be:=aa2 y;have bt:=TH i q 0;have aI:=λE=>ahK (y:=y) i (E:=E);have aJ:=ahL (y:=y);refine dM ?_;refine aZ.eQ 1019 1 3 [] ah ?_;refine aZ.eQ 1025 1 3 [] ah ?_;refine eS ?_;refine br (λ_=>io (.a 1<|nB y<|hT y) p (eM:=Gf y 2)) ?_;refine ajn 1019 19 (hT y) (aa k<|cM (hT y) 0) ?_ (j:=ep nK A) (j1:=ep nK A) (aW:=xt);refine br (λ_=>io (.a 1<|nB y<|hT y) p (eM:=Gf y 2)) ?_;refine ajn 1025 25 (hT y) (aa k<|cM (hT y) 0) ?_ (j:=ep nK A) (j1:=ep nK A) (aW:=xt);refine fZ ?_;refine io (.a 1<|nB y<|hT y) ?_ (eM:=Gf y 2);refine kF (hT y) (hT y) (aa a_<|iC (hT y)<|bJ 0) ?_ (j:=ep nK A) (j1:=ep nK A) (aW:=by rw[show bJ 0=[] from p,aqQ,Ea];rfl);refine cC 0 ?_ (j:=o);refine gN (aa a_<|iC (hT y)<|bJ 1) (a_ ad) (a_ af) ?_ (j:=by grind[Sq]) (aW:=by rw[<-abq,hW]);refine pW ?_;refine dv (Z×X Z×X Z) (λg=>⟨[(0,c 6000),(4,.aq 19 0<|hT y),(5,.aq 25 0<|hT y),(6,.aq 31 0<|hT y),(7,.aq 34 0<|Q<|aa k<|bJ<|fD y g.1 0),(8,k g.1)],[(19,.h 1 3<|aa k g.2.1),(25,.h 1 3<|aa k g.2.2),(31,.h 1 4<|aa a_<|iC (hT y)<|bJ<|fD y g.1 0),(34,.h 1 3<|aa k<|bJ<|fD y g.1 0),(6000,ag 234<|DO y)],[]⟩) (λg=>Es g.2.1 g.2.2 (hT y) (fD y g.1 0)/\g.1<=fD y g.1 0/\∀m,m<g.1->hg y (z (ca y<|Q y.next) m 0)=ad) (λg=>hT y-g.1) (0,cM (hT y) 0,cM (hT y) 0) (λ⟨E,F,u⟩ aH=>?_) ⟨⟨av,av,λaP aR aS=>ap,λaP=>aY⟩,dO _,λm j1=>b9 j1<|vY m⟩ ⟨⟨a3,a3,a3,a3,(by dsimp only;rw[aE];rfl),a3,c1⟩,⟨cR,cR,cR,cR,cR,c1⟩,p,p⟩;apply e<;>intro T
 .simp only[bg,i1] at T;let⟨C,O,D⟩:=aH;dsimp only at C O D;have aF:Q (aa k (bJ (fD y E 0)))=fD y E 0:=by rw[bg,i1]
  have r:E<fD y E 0:=o;have bs:=TH i q E;let⟨bb,bd,az,aA⟩:=id C;have al:E<Q (ca y E):=by rw[<-adE i q];exact r
  refine cC E ?_ (j:=a2);refine e9 (k E) ?_ (j:=ap);refine io (.a 1<|om y<|hT y) ?_ (eM:=Gf y 1);refine bi E (a_<|hg y<|ur y E) ?_ (j:=ak2 o);apply e<;>intro ay
  .have N:mx y=ad:=(aI E al D (by grind[ae2])).2;rw[N];refine aZ.eQ 10 1 5 [10] ah ?_;refine dv (Z×X v) (λd=>⟨[(4,.aq 19 0<|hT y),(5,.aq 25 0<|hT y),(9,k d.1),(10,.aq 10 0<|Q<|aa bR d.2)],[(10,.h 1 5<|aa bR d.2),(19,.h 1 3<|aa k F),(25,.h 1 3<|aa k u),(31,.h 1 4<|aa a_<|iC (hT y)<|bJ<|fD y E 0),(34,.h 1 3<|aa k<|bJ<|fD y E 0),(6000,ag 234<|DO y)],[]⟩) (λd=>d.1<fD y E 0/\Q d.2+d.1<=E) (λd=>d.1) (E,[]) (λ⟨l,B⟩ aW=>?_) ⟨r,av⟩;apply e<;>intro a8
   .let⟨I,P⟩:=aW;dsimp only at I P;have bv:l≠0:=λaQ=>o;have aC:=az l o I;have bS:=aA l;refine cC l ?_ (j:=o);refine e9 (k<|z u l 0) ?_ (j:=eN o);refine lg ((aG (gk<|z u l 0):Z):J) ?_ (a7:=by rw[tq bS]) (s8:=by grind[tq,Di]);refine er ?_;refine e7 (aa bR<|B++[gk (z u l 0)]) ?_ (aW:=tw) (bQ:=a2);refine cC l ?_ (j:=o);refine e9 (k<|z F l 0) ?_ (j:=eN o);exact a0 (z F l 0,B++[gk (z u l 0)]) ⟨o,oU⟩ aC
   let⟨I,P⟩:=aW;dsimp only at I P;refine ke [(6001,10)] (λ_=>[]) [] (λR aM=>?_) (f:=axH B o) (zC:=uS _) (zB:=λ_ _=>uS _);have aN:Q (aa bR B)=Q R:=by rw[bg];exact bG aM
   refine zP R ?_ (hlen:=aN) (bS:=by grind[List.take_of_length_le]);exact rh R c1
  have a5:hg y (z (ca y (Q y.next)) E 0)=ad:=by rw[(TP i al).1,<-ae2 i q];simpa using ay
  have aD:∀m,m<E+1->hg y (z (ca y (Q y.next)) m 0)=ad:=λm j1=>by grind
  refine io (.a 1<|aa k<|fP y) ?_ (eM:=Gf y 0);refine dv (Z×X Z×X Z) (λd=>⟨[(0,c 6000),(4,.aq 19 0<|hT y),(5,.aq 25 0<|hT y),(6,.aq 31 0<|hT y),(7,.aq 34 0<|Q<|aa k<|bJ<|fD y E d.1),(8,k E),(9,k E),(73,.a 1<|aa k<|fP y),(74,k<|Q<|aa k<|fP y),(75,k d.1)],[(19,.h 1 3<|aa k d.2.1),(25,.h 1 3<|aa k d.2.2),(31,.h 1 4<|aa a_<|iC (hT y)<|bJ<|fD y E d.1),(34,.h 1 3<|aa k<|bJ<|fD y E d.1),(6000,ag 234<|DO y)],[]⟩) (λd=>Es d.2.1 d.2.2 (hT y) (fD y E d.1)/\d.1<=Q (fP y)/\fD y E 0<=fD y E d.1) (λd=>Q (fP y)-d.1) (0,F,u) (λ⟨b,w,s⟩ aW=>?_) ⟨C,dO _,bz _⟩;apply e<;>intro U
  .try simp only[bg] at U
   let⟨x,L,H⟩:=aW;dsimp only at x L H;have G:b<Q (fP y):=o;have am:=atq r G;have aV:=adD i q r<|b+1;have aU:=adD i q r b;let⟨bf,bh,bj,bk⟩:=id x;obtain⟨n,S⟩:∃n,z (fP y) b 0=n:=⟨_,p⟩;have bS:n<256:=by rw[<-S];exact Si<|cT G
   have aB:(aa k (fP y))[b]?=W (k n):=by rw[eN G,S]
   refine bi b (k n) ?_ (j:=aB);refine io (.a 1<|nB y<|hT y) ?_ (eM:=Gf y 2);refine bi E (b6<|Gd y E) ?_ (j:=(by grind[nB,List.getElem?_range]));refine bi b (k<|pZ y E b) ?_ (j:=ayh G);refine cC (pZ y E b) ?_ (j:=o);refine e9 (a_<|aL<|pZ y E b<fD y E b) ?_ (j:=Sq o);apply e<;>intro Y
   .have ak:¬pZ y E b<fD y E b:=by simpa using Y
    obtain⟨aw,K⟩:pZ y E b=fD y E b/\fD y E (b+1)=fD y E b+1:=am.resolve_right λao=>ak ao.1;rw[aw];refine cC (fD y E b) ?_ (j:=o);refine gN (aa a_<|iC (hT y)<|bJ<|fD y E<|b+1) (a_ ad) (a_ af) ?_ (j:=by rw[Sq o,Kx<|xo _]) (aW:=by grind[abq,List.map_set]);refine cC (fD y E b) ?_ (j:=o);refine gN (aa k<|aK w (fD y E b) E) (k<|z w (fD y E b) 0) (k E) ?_ (j:=eN o) (aW:=bG hW);refine cC (fD y E b) ?_ (j:=o);refine gN (aa k<|aK s (fD y E b) n) (k<|z s (fD y E b) 0) (k n) ?_ (j:=eN o) (aW:=bG hW);refine er ?_ (hlen:=λau M=>by rw[ea.1 M];rfl);refine e7 (aa k<|bJ<|fD y E<|b+1) ?_ (hl:=.a p p p p λau M=>by rw[ea.1 M];rfl) (aW:=by grind[List.range_succ]) (bQ:=a2);refine bc ?_;exact a0 (b+1,aK w (fD y E b) E,aK s (fD y E b) n) ⟨by dsimp only;rw[K];exact x.new o bS,o,a2⟩ o
   have ak:pZ y E b<fD y E b:=by simpa using Y
   have K:fD y E (b+1)=fD y E b:=(kx am λao=>o).2;rw[<-K];refine bc ?_;exact a0 (b+1,w,s) ⟨ap,o,a2⟩ o
  try simp only[bg] at U
  let⟨x,L,H⟩:=aW;dsimp only at x L H;obtain rfl:b=Q (fP y):=o;rw[TG r];have aO:Es w s (hT y) (fD y (E+1) 0):=by rw[<-TG r];exact x
  have bm:=TG r;refine bc ?_;exact a0 (E+1,w,s) ⟨aO,a2,aD⟩ o
 simp only[bg,i1] at T;let⟨C,O,D⟩:=aH;dsimp only at C O D;have aF:Q (aa k (bJ (fD y E 0)))=fD y E 0:=by rw[bg,i1]
 have a9:fD y E 0<=E:=o;have H:=adE i q E;have bo:=qz (wU y E)<|oD i E;have N:mx y:=(aJ λm j1=>D m (by grind[ca,ad1])).2;rw[N];exact rh [] c1
end
def afr{b:Z}(c:P<b):kG (b:J) (P:J)=ad:=by unfold kG;simp only[Ps,sK];omega
def Ym(b c:J):bb 205 [an aj b,fy 1 [an aj c] 0 0] (a6 (kG c b)):=by refine bx func205 [] λd e=>?_;refine eA ?_;exact aA
def amU(c:X Z)(d:Z)(u:Q c<=1000000)(m:∀n∈c,n<d):bb 153 [.a 1 (aa k c),e4 (dp 205) [] [fy 1 [k d] 0 0]] (an aj (-1)):=by
 refine bx func153 [] λq s=>?_;refine eC (Q c) (λb=>⟨[(0,_),(1,_),(7,_),(8,k b)],[],[]⟩) (λb j=>?_) .r;apply e<;>intro t
 .let i:b<Q c:=o;let l:=m _<|cT (I:=0) i;refine bi b (k<|z c b 0) ?_ (j:=eN i);refine aS ?_ (f:=Ym ((z c b 0:Z):J) (d:J));apply e<;>intro g
  .exfalso;rw[afr l] at g;exact Bool.noConfusion g
  refine bc ?_;exact a0 (b+1) (cq:=.r)
 exact aA
def amS(b:X Z)(c:Z)(d:Q b<=1000000)(e:∀g∈b,g<c):bb 90 [.a 1 (aa k b),e4 (dp 205) [] [fy 1 [k c] 0 0]] (a6 ad):=by refine bx func90 [] λi j=>?_;refine aS ?_ (f:=amU b c d e);exact aA
def amR(b:X Z)(c:Z)(d:Q b<=1000000)(e:∀g∈b,g<c):bb 207 [b6 b,fy 1 [e4 (dp 205) [] [fy 1 [k c] 0 0]] 0 0] (a6 ad):=by refine bx func207 [] λi j=>?_;refine aS ?_ (f:=amS b c d e);exact aA
def amV(c:X (X Z))(d:Z)(w:Q c<=1000000)(q:∀i∈c,Q i<=1000000/\∀s∈i,s<d):bb 271 [.a 1 (aa b6 c),e4 (dp 207) [] [fy 1 [e4 (dp 205) [] [fy 1 [k d] 0 0]] 0 0]] (an aj (-1)):=by
 refine bx func271 [] λt u=>?_;refine eC (Q c) (λb=>⟨[(0,_),(1,_),(7,_),(8,k b)],[],[]⟩) (λb j=>?_) .r;apply e<;>intro v
 .let g:b<Q c:=o;let⟨l,m⟩:=q _<|cT (I:=[]) g;refine bi b (b6<|z c b []) ?_ (j:=Be g);refine aS ?_ (f:=amR (z c b []) d l m);apply e<;>intro n
  .cases n
  refine bc ?_;exact a0 (b+1) (cq:=.r)
 exact aA
def amT(b:X (X Z))(c:Z)(e:Q b<=1000000)(g:∀d∈b,Q d<=1000000/\∀i∈d,i<c):bb 206 [.a 1 (aa b6 b),e4 (dp 207) [] [fy 1 [e4 (dp 205) [] [fy 1 [k c] 0 0]] 0 0]] (a6 ad):=by refine bx func206 [] λj l=>?_;refine aS ?_ (f:=amV b c e g);exact aA
def ant(b:bF)(g:hJ b)(C:Q b.next<=300):bb 150 [fp b] (an aj 0):=by
 refine bx func150 [2012,2013] λA D=>?_;let E:=g.acc;let x:=g.start;let s:Q (aa b6 b.next)=Q b.next:=bg ..;let F:Q (aa a_ b.acc)=Q b.acc:=bg ..;let v:∀m∈b.next,Q m<=1000000/\∀n∈m,n<Q b.next:=λm t=>by
  obtain⟨l,i,rfl⟩:=lU.1 t;let u:b.next[l]=z b.next l []:=by rw[dm,cm i];rfl
  rw[u];let B:=g.h l i;exact⟨o,λn y=>VK g i n y⟩
 apply e<;>intro G
 .exfalso;omega
 refine eA ?_;apply e<;>intro H
 .exfalso;omega
 refine eC (Q b.next) (λd=>⟨[(1,c 1),(3,c 3),(24,_),(25,_),(26,k d)],[(1,ag 89<|fp b),(3,ag 3<|k<|Q<|aa b6 b.next)],[]⟩) (λd j=>?_) .r;apply e<;>intro I
 .let q:d<Q b.next:=o;let t:=g.h d q;let M:Q (aa k<|z b.next d [])=Q (z b.next d []):=bg ..;refine bi d (b6<|z b.next d []) ?_ (j:=Be q);apply e<;>intro K
  .exfalso;omega
  refine bc ?_;exact a0 (d+1) (cq:=.r)
 refine aZ.x1 3 1 ?_;refine dM ?_;refine aZ.x1 6 1 ?_;refine dM ?_;refine aS ?_ (f:=Ym ((b.start:Z):J) ((Q (aa b6 b.next):Z):J));rw[afr (by rw[s];exact x)];apply ev;intro L;refine kz ?_ (f:=amT b.next (Q<|aa b6 b.next) o (by rw[s];exact v));exact p;apply e<;>intro w
 .exfalso;simp at w
 exact aA
def avs{b:bF}(d:hJ b)(c:Q b.next<=300):bb 88 [fp b] (cs [a6 (mx b),an aj 0]):=by refine bx func88 [] λe g=>?_;refine aS ?_ (f:=ant b d c);refine ly.mk nofun λ_=>?_;refine bI [(6,14)] ?_ (f:=awx b d c);refine ke [(6000,14)] (λ_=>[]) [] (λj i=>?_) (f:=ayR b d c) (zC:=uS _) (zB:=λ_ _=>uS _);exact aA (q:=by rw[Bool.not_not];rfl)
def Ek(c:bd->bd×b1):Prop:=∀b,q2 b->q2 (c b).1
def abX{e:bd->bd×b1}(f:Ek e):∀(d:Z)(b:bd)(g:b1),q2 b->q2 (la e d b g).1|0,_,_,c=>c|d+1,b,g,c=>abX f d _ _<|f b c
theorem afm{e:bd->bd×b1}(f:Ek e):∀(d:Z)(b:bd)(g:b1),q2 b->q2 (p2 e d b g).1|0,_,_,c=>c|d+1,b,g,c=>afm f d _ _<|f b c
theorem Xk:∀(c:X aO)(b:bd)(g:b1),(∀d∈c,Ek (dY d))->q2 b->q2 (pG c b g).1|[],_,_,_,e=>cc|d::c,b,g,f,e=>by exact Xk c _ _ (λj i=>f j<|ku _ i)<|f d (kO ..) b e
theorem Xp:∀(c:X aO)(b:bd)(g:b1),(∀d∈c,Ek (dY d))->q2 b->q2 (q4 c b g).1|[],_,_,_,e=>cc|d::c,b,g,f,e=>by exact Xp c _ _ (λj i=>f j<|ku _ i)<|f d (kO ..) b e
theorem axy{d:bd->bd×b1}(e:Ek d)(c f:J)(b:bd)(i:q2 b):q2 (qH d c f b).1:=by unfold qH;let g:=abX e (aB c) b ⟨[],[],af,ad⟩ i;split;exact e _ g;grind[afm]
def ale:∀b:aO,e_ b->Ek (dY b):=aO.ind λb j he n d=>by
 let⟨⟨q,r,s,t,k,_⟩,g⟩:=p0.1 he;let⟨u,v,l,m,e⟩:=b;dsimp[aO.aD,aO.set] at k g j;rw[dY];split;exact d;split;intro f i;rcases eX.1 i with c|c;exact d f c;grind;split;grind[Xk];split;grind[Xp];split;cases e with|nil=>trivial|cons f e=>grind[xE,axy,List.mem_cons_self]
 omega
def aqA{b:aO}(c:e_ b):q2 (eu b):=ale b c _ λe d=>b9 d ka
def yE(c:bd)(b d:Z):X Z:=(bJ d).filter λe=>jN (z c.aE e []) (b:J)
def ai_{c:bd}(e:P<=2000)(b:Z):fT (yE c b P):=⟨Mw List.pairwise_lt_range,λf d=>by have:=g4.1 (mL.1 d).1;omega⟩
def aAM{b:bd}{c:Z}(d:¬jN (z b.aE c []) (P:J)):yE b P (c+1)=yE b P c:=by unfold yE;grind[List.range_succ,List.filter_cons_of_neg]
def aAN{c:bd}{b:Z}(d:b<2000)(e:jN (z c.aE b []) (P:J)):ey (yE c P b) [b]=yE c P (b+1):=by refine SK (fT.un (ai_ o P)<|fT.one d).1 (ai_ o P).1 λf=>?_;rw[pV];unfold yE;grind
def apK(d:X dT):G1 1 (aa C1 d) (aa b6 (ew d)):=by refine⟨by simp[ew,bg],λi j k f c=>?_⟩;unfold ew at c;rw[gh,c4] at c;rw[c4] at f;cases g:d[i]? with|none=>simp_all|some b=>rw[g] at f c;cases oc f;cases oc c;show b6 b.l=C1 b\/C1 b=.ba/\b6 b.l=.a 1 [];unfold C1;by_cases e:b.l=[];rw[ae e,e];exact bp ⟨p,p⟩;rw[ab e];exact bl p
def BF:bs:=⟨[],[],[],[],[]⟩
theorem aup:BF.dc<=10000000:=aR
def c2(c:X v)(b:Z)(d:v):Y:=aL ((b:J)<Q c)&&aL ((aG (z c b 0):J)=aG d)
def kT(c:X v)(b:Z):Y:=aL ((b:J)<Q c)&&aL (32<=(aG (z c b 0):J))&&aL ((aG (z c b 0):J)<=126)
def g1(d:X v)(b:v):Y:=d.any λc=>aL<|(aG c:J)=aG b
def aba(b:P<Q g):z g P 0=g[P]:=by rw[dm,cm b];rfl
def XI(b c:Y):gL af b c=a6 (b&&c):=by cases b<;>rfl
theorem XH(b c:Y):gL ad b c=a6 (b||c):=by cases b<;>rfl
def KT(c:X v)(b:ar):Prop:=b.w<=100000/\Q c<=2000
def rj(c:X v)(b:ar)(d:v)(q:KT c b):bb 229 [fy 4 [dr c b] 0 0,bR d] (a6 (c2 c b.w d)):=by refine bx func229 [] λe i=>?_;let⟨f,g⟩:=q;refine eg ?_;apply c9;intro j;refine pX b.w ?_;exact p;exact aA (q:=by rw[cU,XI];rfl)
def su(i:X v)(g:ar)(b f:J):dF 166 [c 6000,an aj b,an aj f] [(6000,ag 255 (dr i g))] (cs []) [(6000,ag 255 (dr i (cv g b f)))]:=by
 refine dN func166 [] λl j k=>?_;apply e<;>intro d
 .rw[cv,ae d];exact cE
 rw[cv,ab d];exact cE
def UR(c:X v)(b:ar)(q:KT c b):bb 329 [fy 4 [dr c b] 0 0] (a6 (kT c b.w)):=by refine bx func329 [] λd g=>?_;let⟨e,f⟩:=q;refine eg ?_;apply c9;intro i;refine pX b.w ?_;exact p;apply c9;intro j;refine pX b.w ?_;exact p;exact aA (q:=by rw[cU,XI];rfl)
def DB(c:X v){d:v}(cq:Q c<=100000):bb 333 [bV c,bR d] (a6 (g1 c d)):=by
 refine bx func333 [] λi l=>?_;refine i0 (Q c) (λb=>g1 c d=g1 (aU b c) d) (λb=>⟨[(0,_),(1,_),(5,k b)],[],[]⟩) (λb j=>?_) p .r;apply e<;>intro m
 .let f:b<Q c:=o;refine rt b (z c b 0) ?_ (j:=wG f);apply e<;>intro g
  .exact aA (q:=by rw[j.2,pt f,g1,B7,<-aba f,show aL ((aG (z c b 0):J)=aG d)=af by simpa using g];rfl)
  refine bc ?_;exact a0 (b+1) ⟨o,by rw[j.2,pt f,g1,B7,<-aba f,show aL ((aG (z c b 0):J)=aG d)=ad by simpa using g];rfl⟩ (cq:=.r)
 exact aA (q:=by rw[j.2,kM o];rfl)
def Zf(b:v):Y:=aL (48<=(aG b:J))&&aL ((aG b:J)<=57)
def pU(b c:v):Y:=if(aG c:J)=100 then Zf b
 else if(aG c:J)=119 then Zf b||aL (65<=(aG b:J))&&aL ((aG b:J)<=90)||aL (97<=(aG b:J))&&aL ((aG b:J)<=122)||aL ((aG b:J)=95)
 else aL ((aG b:J)=9)||aL ((aG b:J)=10)||aL ((aG b:J)=13)||aL ((aG b:J)=32)
def adV(c f:v):bb 350 [bR c,bR f] (a6 (pU c f)):=by
 refine bx func350 [] λg i=>?_;refine fk ?_;apply e<;>intro b
 .exact aA (q:=by rw[pU,ae b];rfl)
 apply e<;>intro d
 .apply ev;intro j;refine fk ?_;exact p;apply ev;intro k;refine fk ?_;exact p;refine eA ?_;exact aA (q:=by rw[pU,ab b,ae d];rfl)
 refine eA ?_;refine eA ?_;refine eA ?_;exact aA (q:=by rw[pU,ab b,ab d];rfl)
def AV(b:J):Option a1:=if b=100 then W (cL.add 48 57)
 else if b=119 then W ((((cL.add 48 57).add 65 90).add 97 122).add 95 95)
 else if b=115 then W (((cL.add 9 10).add 13 13).add 32 32) else ah
theorem YH{d:J}{c:a1}(b:AV d=W c):Q c=256:=by
 let e:=gO;unfold AV at b
 repeat' split at b
 grind[Option.some.inj,a1.xF];grind[Option.some.inj,a1.xF];grind[Option.some.inj,a1.xF];simp_all
def mU(b:v):a1×Y:=match AV (nS .or .u8 (aG b:J) 32) with|ah=>(cL,ad)|W c=>if(aG b:J)=68\/(aG b:J)=87\/(aG b:J)=83 then(c.others,af) else if(aG b:J)=100\/(aG b:J)=119\/(aG b:J)=115 then(c,af) else(cL,ad)
theorem EJ{b:v}:Q (mU b).1=256:=by grind[mU,gO,YH,a1.zU]
def anD(b:v):bb 344 [bR b] (cs [b2 (mU b).1,a6 (mU b).2]):=by
 refine bx func344 [1000,23,29] λu w=>?_;refine mC (b2 cL) ?_ (fj:=a3);refine mC (b2 cL) ?_ (fj:=a3);refine gf a1 (λd=>⟨[(0,bR b),(2,c 2),(4,c 4)],[(2,ag 237<|b2 cL),(4,ag 237<|b2 d)],[]⟩) (λd=>AV (nS .or .u8 (aG b:J) 32)=W d) ?_ λd k=>?_
 .apply e<;>intro n
  .refine bI [(6000,4)] ?_ (f:=u_ cL 48 57 gO aR);exact cA (cL.add 48 57) (by rw[AV,ae n])
  apply e<;>intro s
  .refine bI [(6000,4)] ?_ (f:=u_ cL 48 57 gO aR);refine bI [(6000,4)] ?_ (f:=u_ (cL.add 48 57) 65 90 Ks aR);refine bI [(6000,4)] ?_ (f:=u_ ((cL.add 48 57).add 65 90) 97 122 Ks aR);refine bI [(6000,4)] ?_ (f:=u_ (((cL.add 48 57).add 65 90).add 97 122) 95 95 Ks aR);exact cA ((((cL.add 48 57).add 65 90).add 97 122).add 95 95) (by rw[AV,ab n,ae s])
  apply e<;>intro t
  .refine bI [(6000,4)] ?_ (f:=u_ cL 9 10 gO aR);refine bI [(6000,4)] ?_ (f:=u_ (cL.add 9 10) 13 13 Ks aR);refine bI [(6000,4)] ?_ (f:=u_ ((cL.add 9 10).add 13 13) 32 32 Ks aR);exact cA (((cL.add 9 10).add 13 13).add 32 32) (by simp_all[AV,ab,ae])
  refine ho ?_ (a7:=iJ gO);refine lh (b2 cL) ?_ (h1:=jE) (fN:=jE);exact EZ bq (.oq p p p p p (qo gO) jE<|.tmp p .nil) (q:=by rw[mU,AV,ab n,ab s,ab t];rfl)
 let i:=YH k;refine gf Y (λl=>⟨[(2,c 2),(4,c 4),(22,bR b),(23,a6 l)],[(2,ag 237<|b2 cL),(4,ag 237<|b2 d)],[]⟩) (λl=>l=aL ((aG b:J)=68\/(aG b:J)=87\/(aG b:J)=83)) ?_ λl r=>?_
 .apply e<;>intro g
  .exact cA (aL<|(aG b:J)=68)<|qW.2 o
  apply e<;>intro g
  .exact cA (aL<|(aG b:J)=87)<|qW.2 o
  exact cA (aL<|(aG b:J)=83)<|qW.2 o
 apply e<;>intro g
 .refine ho ?_ (a7:=iJ i);refine aS ?_ (f:=Ux d i);refine lh (b2 d.others) ?_ (h1:=bC (ht)<|bC (a1.zU d) i) (fN:=jE);exact EZ bq (.oq p p p p p (qo (by grind[a1.zU])) (bC (ht)<|bC (a1.zU d) i)<|.tmp p .nil) (q:=by rw[mU,k];simp only[r] at g;simp only[ae<|yU g];rfl)
 refine gf Y (λm=>⟨[(2,c 2),(4,c 4),(29,a6 m)],[(2,ag 237<|b2 cL),(4,ag 237<|b2 d)],[]⟩) (λm=>m=aL ((aG b:J)=100\/(aG b:J)=119\/(aG b:J)=115)) ?_ λm aH=>?_
 .apply e<;>intro j
  .exact cA (aL<|(aG b:J)=100)<|qW.2 o
  apply e<;>intro j
  .exact cA (aL<|(aG b:J)=119)<|qW.2 o
  exact cA (aL<|(aG b:J)=115)<|qW.2 o
 apply e<;>intro j
 .refine ho ?_ (a7:=iJ i);refine lh (b2 d) ?_ (h1:=bC (ht) i) (fN:=jE);exact EZ bq (.oq p p p p p (qo i) (bC (ht) i)<|.tmp p .nil) (q:=by rw[mU,k];simp only[r] at g;simp only[aH] at j;simp only[ab<|P6<|J7.2 g,ae<|yU j];rfl)
 refine ae1 (b2 cL) ?_ (mV:=[]) p<|o1.O5 (iJ gO) cR;refine lh (b2 cL) ?_ (h1:=jE) (fN:=jE);exact EZ bq (.oq p p p p p (qo gO) jE<|.tmp p .nil) (q:=by rw[mU,k];simp only[r] at g;simp only[aH] at j;simp only[ab<|P6<|J7.2 g,ab<|P6<|J7.2 j];rfl)
def sw(b:X (J×J))(c:J):X (J×J):=aK b (Q b-1) ((z b (Q b-1) ai).1,c)
def g3(c:a1):Z->X (J×J)|0=>[]|b+1=>if z c b ad=ad then g3 c b else if 0<b/\z c (b-1) ad then sw (g3 c b) (b:J) else g3 c b++[((b:J),(b:J))]
theorem DM(b:X (J×J))(c:J):Q (sw b c)=Q b:=by simp[sw]
def Jj(c:a1)(b:Z):Q (g3 c b)<=b:=by induction b with|zero=>simp[g3]|succ b d=>rw[g3];split;omega;split;rw[DM];omega;simp;omega
theorem Ga(c:a1){b:Z}(f:0<b)(d:z c (b-1) ad=af):0<Q (g3 c b):=by cases b with|zero=>omega|succ b=>rw[g3];simp only[PL] at d;rw[ab (by rw[d];simp)];split;rename_i e;rw[DM];exact Ga c e.1 e.2;simp
def kh(b:a1):aO:=if b=cL then .mk 1 [] 0 0 [] else .mk 3 (g3 b 256) 0 0 []
def aw6(d:a1)(u:Q d=256):bb 343 [b2 d] (.a 2 (aa hP (g3 d 256))):=by
 refine bx func343 [] λv w=>?_;refine ho ?_ (a7:=iJ u);refine aZ.eQ 3 2 279 [3] ah ?_;refine dv (Z×X (J×J)) (λb=>⟨[(1,c 1),(6,b2 d),(7,k b.1),(3,.aq 3 0<|Q<|aa hP b.2)],[(1,ag 237<|b2 d),(3,.h 2 279<|aa hP b.2)],[]⟩) (λb=>b.1<=256/\b.2=g3 d b.1) (λb=>256-b.1) (0,[]) (λb f=>?_) ⟨o,p⟩;apply e<;>intro y
 .let B:b.1<256:=o;let t:=Jj d b.1;rw[<-f.2] at t;let C:Q (aa hP b.2)=Q b.2:=bg _;let r:Q (aa hP<|sw b.2 (b.1:Z))=Q (aa hP b.2):=by simp[DM]
  refine T5 (E:=b.1) ?_ (x:=a6<|z d b.1 ad) (bQ:=gl.Dc (L:=d) (E:=b.1) o (aiM:=[]));apply e<;>intro g
  .refine bc ?_;exact a0 (b.1+1,b.2) ⟨by show b.1+1<=256;omega,bC f.2 (by rw[g3,ae (by simpa using g)])⟩ (by show 256-(b.1+1)<256-b.1;omega)
  apply c9;intro A;refine jf ?_;refine hE (b.1-1) (b.1-1) ?_ (jr:=by show b.1-1=0+(b.1-1)*1;omega);refine io (a6<|z d (b.1-1) ad) ?_ (eM:=CU d o);exact p;apply e<;>intro m
  .let n:0<b.1/\z d (b.1-1) ad:=by simpa[o3] using m
   let⟨i,l⟩:=n;let s:=Ga d i l;rw[<-f.2] at s;refine jf ?_;refine cC (Q b.2-1) ?_ (j:=a2);refine gN (aa hP<|sw b.2 (b.1:Z)) (hP<|z b.2 (Q b.2-1) ai) (hP ((z b.2 (Q b.2-1) ai).1,(b.1:Z))) ?_ (j:=gD o) (aW:=by rw[sw,hW]);refine bc ?_;exact a0 (b.1+1,sw b.2 (b.1:Z)) ⟨by show b.1+1<=256;omega,by show sw _ _=g3 d (b.1+1);rw[g3,ab (by simpa using g),ae ⟨i,l⟩,f.2]⟩ (by show 256-(b.1+1)<256-b.1;omega) ⟨⟨cR,cR,cR,(by rw[r];rfl),c1⟩,⟨cR,cR,c1⟩,p,p⟩
  let q:¬(0<b.1/\z d (b.1-1) ad):=by simpa[o3] using m
  refine er ?_;refine e7 (aa hP<|b.2++[(((b.1:Z):J),((b.1:Z):J))]) ?_ (aW:=tw) (bQ:=a2);refine bc ?_;exact a0 (b.1+1,b.2++[(((b.1:Z):J),((b.1:Z):J))]) ⟨by show b.1+1<=256;omega,by show _++_=g3 d (b.1+1);rw[g3,ab (by simpa using g),ab q,f.2]⟩ (by show 256-(b.1+1)<256-b.1;omega)
 let he:g3 d 256=b.2:=by rw[f.2,show b.1=256 by omega]
 rw[he];exact ib 3 aA
def awU{b c:a1}(q:Q b=256)(r:Q c=256):yY b5 237 ((gl.eR b).cells++[]) ((gl.eR c).cells++[]) (aL (b=c)):=by refine⟨λe s t x f g i j=>?_,cR⟩;rw[ff] at f g i j;have m:s=aa iv b:=Pc (ao:=V.bool) (λe w v d=>Jb d) (bC f<|bg _) i;have n:t=aa iv c:=Pc (ao:=V.bool) (λe w v d=>Jb d) (bC g<|bg _) j;subst m;subst n;exact ahg ad iv 9998 237 4 ((BY:q3 b5 237 abG).hb p) ((BY:q3 b5 4 Ib).hb p) p (BY:q3 b5 4 Ib).G (λk l=>by rw[OE (I:=9998) ((BY:q3 b5 4 Ib).hb p).u];cases k<;>cases l<;>rfl) b c q r
def He(c:a1)(b:Q c=256):bb 320 [b2 c] (vg (kh c)):=by
 refine bx func320 [] λg i=>?_;refine ho ?_ (a7:=iJ b);refine ae1 (b2 cL) ?_ (mV:=[]) p<|o1.O5 (iJ gO) cR;refine aul _ (awU b gO) ?_;apply e<;>intro d
 .exact hQ 2 2 [1] (hQ 5 2 [4] (dB bq (q:=by rw[kh,ae d];rfl)))
 refine ho ?_ (a7:=iJ b);refine aS ?_ (f:=aw6 c b);exact hQ 5 2 [4] (dB bq (q:=by rw[kh,ab d];rfl))
def OB(c:a1):∀(b:Z),(∀e∈g3 c b,e.2<(b:J))/\(0<b->z c (b-1) ad=af->(z (g3 c b) (Q (g3 c b)-1) ai).2=(b:J)-1)/\(z c (b-1) ad=ad->∀e∈g3 c b,e.2<(b:J)-1)|0=>⟨λe d=>b9 d ka,λd=>b9 d av,λ_ e d=>b9 d ka⟩|b+1=>by let⟨g,i,j⟩:=OB c b;rw[show b+1-1=b by omega,g3];by_cases l:z c b ad=ad;grind;by_cases f:0<b/\z c (b-1) ad;let k:=Ga c f.1 f.2;grind[DM,sw,List.getElem?_set_self];grind
theorem ag5(c:a1)(b:Z):0<Q (g3 c b)/\(z (g3 c b) (Q (g3 c b)-1) ai).2=(b:J)-1↔0<b/\z c (b-1) ad:=by let⟨d,e,f⟩:=OB c b;constructor;let g:=Jj c b;grind;grind[Ga]
def axP(c:a1)(b:Z):g3 c b=[]↔∀d,d<b->z c d ad=ad:=by induction b with|zero=>simp[g3]|succ b g=>rw[g3];by_cases e:z c b ad=ad;grind;rw[ab e];constructor;intro f;split at f;grind[DM];simp_all;grind
def aae{b:a1}(f:Q b=256):kh b=if Q (g3 b 256)=0 then .mk 1 [] 0 0 [] else .mk 3 (g3 b 256) 0 0 []:=by
 have:b=cL↔Q (g3 b 256)=0:=by rw[Ak,axP];constructor;grind[cL,List.getElem?_replicate_of_lt];refineλe=>jI λd=>?_;rcases fF d 256 with c|c;have:=e d c;rw[dm,cm o,xr] at this;rw[cm o,this];exact bG<|List.getElem?_replicate_of_lt c;grind[List.getElem?_eq_none,gO]
 simp_all[kh,cL,ae,ab]
def adG(d:a1)(t:Q d=256):bb 332 [b2 d] (vg (kh d)):=by
 refine bx func332 [2002] λv y=>?_;refine aZ.eQ 1100 2 279 [] (W (3,1)) ?_;refine dM ?_;refine dv (Z×X (J×J)×Z) (λi=>⟨[(1,c 1),(2,c 2),(3,c 3),(4,k i.1)],[(1,ag 236<|b2 d),(2,_),(3,ag 164<|bH [an aj 3,.aq 1100 0 i.2.2,an aj 0,an aj 0,.ba]),(1100,.h 2 279<|aa hP i.2.1)],[]⟩) (λi=>i.1<=256/\i.2.1=g3 d i.1/\i.2.2=Q (aa hP i.2.1)) (λi=>256-i.1) (0,[],0) (λ⟨b,f,g⟩ ⟨u,l,m⟩=>?_) ⟨o,p,p⟩ .r;dsimp only at u l m⊢;rw[bg] at m;apply e<;>intro D
 .have s:=Jj d b;rw[<-l] at s;refine hE b b ?_ (jr:=by show b=0+b*1;omega);refine io (a6<|z d b ad) ?_ (eM:=CU d o);apply e<;>intro A
  .refine bc ?_;exact a0 (b+1,f,g) ⟨o,bC l (by simp_all[g3,ae]),a2⟩ o .r
  apply c9;intro E;refine jg ((g-1:Z):J) ?_;refine cC (g-1) ?_;refine e9 (hP<|z f (g-1) ai) ?_ (j:=gD o);refine jf ?_;exact p;apply e<;>intro B
  .have n:0<b/\z d (b-1) ad:=(ag5 d b).1 ap;have F:=Ga d n.1 n.2;refine jg ((g-1:Z):J) ?_;refine cC (g-1) ?_;refine gN (aa hP<|sw f (b:Z)) (hP<|z f (g-1) ai) (hP ((z f (g-1) ai).1,(b:Z))) ?_ (j:=gD o) (aW:=by rw[sw,hW,m]);refine bc ?_;exact a0 (b+1,sw f (b:Z),g) ⟨o,by simp_all[g3,ab,ae],by grind[List.length_map,DM]⟩ o .r
  have x:¬(0<b/\z d (b-1) ad):=λw=>by grind[ag5]
  refine er ?_;refine e7 (aa hP<|f++[(((b:Z):J),((b:Z):J))]) ?_ (aW:=tw) (bQ:=aY) (hlen:=a2);refine bc ?_;exact a0 (b+1,f++[(((b:Z):J),((b:Z):J))],Q<|aa hP<|f++[(((b:Z):J),((b:Z):J))]) ⟨o,by simp_all[g3,ab],p⟩ o .r
 have he:g3 d 256=f:=by rw[l,show b=256 by omega]
 rw[aae t,he];apply e<;>intro C
 .exact hQ 2 2 [1] (hQ 5 2 [4] (dB bq (q:=WL)))
 exact zp 1100 g (show Q (aa hP f)=g by(simp;omega))<|hQ 5 2 [4] (dB bq (q:=by rw[ab o];rfl))
def pm(c:J)(b:X aO):aO:=if Q b=0 then .mk 2 [] 0 0 [] else if Q b=1 then z b 0 (.mk 0 [] 0 0 []) else .mk c [] 0 0 b
def jM(b:v):J:=gQ [48,49,50,51,52,53,54,55,56,57,97,98,99,100,101,102] b
def zW{S:X v}{x:ar}(b:cy S x≠0):x.w<Q S/\x.no=0:=by unfold cy at b<;>grind
theorem aru(b:X v)(c:(0:v)∉b):gQ b 0=-1:=by induction b with|nil=>rfl|cons e b d=>simp at c;rw[gQ,ab aY,d c.2];rfl
def SL(b:X v)(c:v):gQ b c<(Q b:J)/\-1<=gQ b c:=by induction b with|nil=>simp[gQ]|cons d b e=>(simp[gQ,kN];omega)
def Dj{b:ar}(c:X v)(e:(0:v)∉c)(f:0<=gQ c (cy g b)):b.w<Q g/\b.no=0:=zW λd=>by grind[aru]
def pc(c:X v)(b:ar):Z×ar:=if jM (cy c b)<0 then(0,cv b b.w 6)
 else if jM (cy c b.step)<0 then(0,cv b.step b.step.w 6)
 else(aB (jM<|cy c b)*16+aB (jM<|cy c b.step),b.step.step)
def Mr(b:v):jM b<16/\-1<=jM b:=SL _ b
theorem H8{b:ar}(c:¬jM (cy g b)<0):b.w<Q g/\b.no=0:=Dj [48,49,50,51,52,53,54,55,56,57,97,98,99,100,101,102] aR (by grind[jM])
theorem ar.th{b:ar}(d:b.ok g)(c:b.w<Q g):b.step.ok g:=⟨c,d.2⟩
theorem p1{x:ar}(b:x.ok g){y T:J}:(cv x y T).ok g:=by unfold cv;split;exact b;exact b
def ahC(d:J)(b:X aO)(n:Q b<=16777216):bb 193 [an aj d,.a 5 (hN b)] (vg (pm d b)):=by
 refine bx func193 [] λf k=>?_;rw[CV];apply e<;>intro m
 .exact hQ 2 4 [1] (hQ 5 4 [4] (dB bq (q:=by rw[pm,ae o];rfl)))
 apply e<;>intro l
 .obtain⟨c,rfl⟩:∃c,b=[c]:=GK.1 o;let⟨r,O,g,i,s⟩:=c;refine bi 0 _ ?_ (j:=p);exact dB bq
 refine T_ 0 _ _ ?_;exact hQ 2 4 [1] (dB bq (q:=by show V.agg [_,_,_,_,.a 5 _]=_;rw[sG,PV,g5,pm,ab o,ab o,vg,CV];rfl))
def aq1(d:X v)(g:ar)(q:g.ok d):dF 345 [c 6000] [(6000,ag 211 (dr d g))] (k (pc d g).1) [(6000,ag 211 (dr d (pc d g).2))]:=by
 refine dN func345 [] λE x z=>?_;have D:=q.2;refine dv (Z×Z×ar) (λb=>⟨[(0,c 6000),(3,k b.2.1),(5,k b.1)],[(6000,ag 211<|dr d b.2.2)],[]⟩) (λb=>b.2.2.ok d/\(b=(0,0,g)\/¬jM (cy d g)<0/\b=(1,aB<|jM<|cy d g,g.step)\/¬jM (cy d g)<0/\¬jM (cy d g.step)<0/\b=(2,aB (jM<|cy d g)*16+aB (jM<|cy d g.step),g.step.step))) (λb=>2-b.1) (0,0,g) (λb j=>?_) ⟨q,bl p⟩;apply e<;>intro s
 .have B:b.2.1<16:=by have:=Mr<|cy d g;rcases j.2 with i|⟨_,i⟩|⟨_,_,i⟩<;>rw[i] at s⊢<;>simp at s⊢<;>omega
  refine r9 (f:=w2 d b.2.2 j.1)<|aS ?_ (f:=Mx _ _);apply e<;>intro r
  .have n:jM (cy d b.2.2)<0:=r;have l:pc d g=(0,cv b.2.2 b.2.2.w 6):=by rcases j.2 with i|⟨m,i⟩|⟨_,_,i⟩;simp_all[pc,ae];simp_all[pc,ab,ae];simp_all
   rw[l];refine bI [(6000,6000)] ?_ (f:=zs d b.2.2 b.2.2.w 6);exact cE
  have n:¬jM (cy d b.2.2)<0:=r;have A:=Mr<|cy d b.2.2;let⟨t,C⟩:=H8 n;have u:b.2.2.step.ok d/\((b.1+1,b.2.1*16+aB (jM (cy d b.2.2)),b.2.2.step)=(0,0,g)\/¬jM (cy d g)<0/\(b.1+1,b.2.1*16+aB (jM (cy d b.2.2)),b.2.2.step)=(1,aB (jM (cy d g)),g.step)\/¬jM (cy d g)<0/\¬jM (cy d g.step)<0/\(b.1+1,b.2.1*16+aB (jM (cy d b.2.2)),b.2.2.step)=(2,aB (jM (cy d g))*16+aB (jM (cy d g.step)),g.step.step)):=by refine⟨ar.th j.1 t,bp ?_⟩;rcases j.2 with i|⟨m,i⟩|⟨_,_,i⟩;simp_all;simp_all;simp_all
  refine IE ?_;refine e6 ((b.2.1*16+aB (jM<|cy d b.2.2):Z):J) ?_ (q:=by grind[jM,cy,Int.natCast_add]);refine e6 ((b.2.2.w+1:Z):J) ?_;refine bc ?_;exact a0 (b.1+1,b.2.1*16+aB (jM<|cy d b.2.2),b.2.2.step) u o
 have l:pc d g=(b.2.1,b.2.2):=by rcases j.2 with i|⟨m,i⟩|⟨m,y,i⟩;simp_all;simp_all;simp_all[pc,ab]
 rw[l];exact cE
theorem Lq{b:ar}(c:(mU (cy g b)).2):b.w<Q g/\b.no=0:=zW λd=>by rw[d] at c;exact b9 c aR
def DX{b:v}:nZ aj (aG b:Z):=by have:=nc b;exact x7 o o
structure KI where
 c:Z
 s:a1
 many:Y
 r:ar
def eL(c:X v)(b:ar):KI:=if(mU<|cy c b).2 then⟨0,(mU<|cy c b).1,af,b.step⟩
 else if 0<=gQ [110,116,114] (cy c b) then⟨aG<|z ([10,9,13]:X v) (aB<|gQ [110,116,114] (cy c b)) 0,cL,ad,b.step⟩
 else if aG (cy c b)=120 then⟨(pc c b.step).1,cL,ad,(pc c b.step).2⟩
 else if aG (cy c b)≠0/\0<=gQ [92,46,124,40,41,91,93,123,125,42,43,63,94,45] (cy c b) then⟨aG<|cy c b,cL,ad,b.step⟩
 else⟨0,cL,ad,cv b b.w 6⟩
def RT(S:X v)(x:ar)(m:x.ok S):dF 321 [c 6000] [(6000,ag 211 (dr S x))] (cs [k (eL S x).c,b2 (eL S x).s,a6 (eL S x).many]) [(6000,ag 211 (dr S (eL S x).r))]:=by
 refine dN func321 [] λD y A=>?_;let C:=m.2;refine mC (b2 cL) ?_ (fj:=cR);refine r9 ?_ (f:=w2 S x m);refine aS ?_ (f:=anD<|cy S x);refine mC (b2 cL) ?_ (fj:=cR);refine lh (b2 (mU<|cy S x).1) ?_ (h1:=bC (ht) EJ) (fN:=jE);apply e<;>intro b
 .let⟨g,l⟩:=Lq b;rw[show eL S x=⟨0,(mU (cy S x)).1,af,x.step⟩ by rw[eL,ae b]];refine e6 ((x.w+1:Z):J) ?_;refine eS ?_;refine br (λ_=>ho p (a7:=iJ EJ)) ?_;refine D6 (b2 (mU<|cy S x).1) ?_ (bC (ht) EJ) (fN:=jE);refine fZ ?_;exact s4 bq<|.tmp p<|.oq p p p p p (qo EJ) (bC (ht) EJ)<|.tmp p .nil
 let u:=SL [110,116,114] (cy S x);simp only[kN,Ws] at u;refine aS ?_ (f:=Mx _ _);apply e<;>intro d
 focus simp only[List.toList_toArray] at d;let⟨g,l⟩:=Dj [110,116,114] aR d;rw[show eL S x=⟨aG (z ([10,9,13]:X v) (aB (gQ [110,116,114] (cy S x))) 0),cL,ad,x.step⟩ by rw[eL,ab b,ae d]];refine rt (aB<|gQ [110,116,114] (cy S x)) (z ([10,9,13]:X v) (aB<|gQ [110,116,114] (cy S x)) 0) ?_ (a7:=by show gQ [110,116,114] (cy S x)=_;omega) (j:=wG a2);refine lg (aG (z ([10,9,13]:X v) (aB<|gQ [110,116,114] (cy S x)) 0):Z) ?_ (s8:=DX);refine e6 ((x.w+1:Z):J) ?_
 rotate_left
 focus
  apply e<;>intro n
  .let⟨g,l⟩:=zW (S:=S) (x:=x) (λt=>by rw[t] at n;exact b9 n aR);rw[show eL S x=⟨(pc S x.step).1,cL,ad,(pc S x.step).2⟩ by rw[eL,ab b,ab d,ae o]];refine e6 ((x.w+1:Z):J) ?_;refine eS ?_;refine aBf [(6000,6000)] [(0,(6000,ag 211<|dr S (pc S x.step).2))] ?_ (f:=aq1 S x.step<|ar.th m g);refine br (λ_=>ho p (a7:=iJ gO)) ?_;refine D6 (b2 cL) ?_ jE (fN:=jE);refine fZ ?_;exact s4 bq<|.tmp p<|.oq p p p p p (qo gO) jE<|.tmp p .nil
  apply c9;intro B;refine cf ?_ (f:=Mx _ _);exact p;apply e<;>intro q
  .let i:aG (cy S x)≠0/\0<=gQ [92,46,124,40,41,91,93,123,125,42,43,63,94,45] (cy S x):=by simpa[o3] using q
   let⟨g,l⟩:=Dj [92,46,124,40,41,91,93,123,125,42,43,63,94,45] aR i.2;rw[show eL S x=⟨aG (cy S x),cL,ad,x.step⟩ by rw[eL,ab b,ab d,ab o,ae i]];refine lg (aG (cy S x):Z) ?_ (s8:=DX);refine e6 ((x.w+1:Z):J) ?_;refine eS ?_;refine br (λ_=>ho p (a7:=iJ gO)) ?_;refine D6 (b2 cL) ?_ jE (fN:=jE);refine fZ ?_;exact s4 bq<|.tmp p<|.oq p p p p p (qo gO) jE<|.tmp p .nil
  let i:¬(aG (cy S x)≠0/\0<=gQ [92,46,124,40,41,91,93,123,125,42,43,63,94,45] (cy S x)):=by simpa[o3] using q
  rw[show eL S x=⟨0,cL,ad,cv x x.w 6⟩ by rw[eL,ab b,ab d,ab o,ab i]];refine bI [(6000,6000)] ?_ (f:=zs S x x.w 6)
 all_goals refine eS ?_;refine br (λ_=>ho p (a7:=iJ gO)) ?_;refine D6 (b2 cL) ?_ jE (fN:=jE);refine fZ ?_;exact s4 bq<|.tmp p<|.oq p p p p p (qo gO) jE<|.tmp p .nil
def Su:X v:=[48,49,50,51,52,53,54,55,56,57,97,98,99,100,101,102]
def NP:X v:=[92,46,124,40,41,91,93,123,125,42,43,63]
def x_:X v:=[92,91,93,94,45]
def Bk(b:v):J:=gQ Su b
def ki(c:X v)(b:Z):J:=if b<Q c then Bk (z c b 0) else-1
def aqZ:∀c:Fin 256,∀b:Fin 16,aL ((aG (gk c.1):J)=(aG (z Su b.1 0):J))=aL (Bk (gk c.1)=(b.1:Z)):=by decide+kernel
def aq0:∀b:Fin 256,aL (Bk (gk b.1)<16)&&aL (-1<=Bk (gk b.1))=af:=by decide+kernel
def aB3(b:v):gk (aG b)=b:=av
def abt{b:v}(c:P<16):(aG b:J)=(aG (z Su P 0):J)↔Bk b=(P:J):=by have:=aqZ ⟨aG b,nc b⟩ ⟨P,c⟩;simp_all
def are(b:v):Bk b<16/\-1<=Bk b:=by have:=aq0 ⟨aG b,nc b⟩;simp_all
def Mt(c:X v)(b:Z):ki c b<16/\-1<=ki c b:=by unfold ki;split;simp[are];omega
def vd(b:J)(c:Z):J:=if 0<=b/\b<(c:J) then b else-1
def sb(d:X v)(b:Z):Z->J|0=>0|c+1=>16*sb d b c+ki d (b+(c+1))
def ar.mR(b:ar)(c:Z):ar:=⟨b.w+c,b.bad,b.no⟩
def qR(b:v->Y):a1:=(bJ 256).map λc=>b<|gk c
def Gr{b:v->Y}:Q (qR b)=256:=a3
theorem aiH(b:v->Y)(c:P<256):z (qR b) P ad=b (gk P):=by grind[qR,List.getElem?_range]
structure AA where
 s:a1
 n:J
 r:ar
def pN(c:a1)(b:J)(d:ar):AA:=⟨if 0<=b then aK c (aB b) af else c,b,d.step⟩
def kQ(c:X v)(d:a1)(b:ar):AA:=if kT c b.w=ad then⟨d, -1,cv b b.w 6⟩
 else if(g1 NP (z c b.w 0)||g1 x_ (z c b.w 0)) then pN d (aG<|z c b.w 0) b
 else if(aG (z c b.w 0):J)=110 then pN d 10 b
 else if(aG (z c b.w 0):J)=116 then pN d 9 b
 else if(aG (z c b.w 0):J)=114 then pN d 13 b
 else if(aG (z c b.w 0):J)=120 then
  if ki c (b.w+1)<0 then⟨d, -1,cv (b.mR 1) (b.w+1:Z) 6⟩
  else if ki c (b.w+2)<0 then⟨d, -1,cv (b.mR 2) (b.w+2:Z) 6⟩
  else pN d (sb c b.w 2) (b.mR 2)
 else if g1 [100,119,115] (z c b.w 0) then pN (d.join<|qR λe=>pU e<|z c b.w 0) (-1) b
 else if g1 [68,87,83] (z c b.w 0) then pN (d.join<|qR λe=>!pU e (z c b.w 0+32)) (-1) b
 else⟨d, -1,cv b b.w 6⟩
def LY{S:X v}{y:Z}:∀{A:Z},(∀b,b<A->0<=ki S (y+(b+1)))->0<=sb S y A/\sb S y A<16^A|0,_=>⟨uK 0,(by decide:(0:Int)<16^0)⟩|A+1,c=>by let⟨d,e⟩:=LY (A:=A) λb g=>c b o;let f:=(Mt S<|y+(A+1)).1;grind[sb,Int.pow_succ]
theorem aoI(b:J):vd b 0=-1:=by simp[vd,ab]
theorem aoE{b:J}(c:b<16)(d:-1<=b):vd b 16=b:=by(simp[vd,ae,ab];omega)
theorem aoG(b:Z):vd (-1) b=-1:=a3
def a1.MK{b c:a1}(e:Q b=256)(d:Q c=256):Q (b.join c)=256:=by(simp[a1.join,List.length_zipWith];omega)
def DF{S:X v}{y:Z}(b:kT S y):y<Q S:=by simp_all[kT,j_,ir]
def ZF(b:a1)(c:P<Q b):(b2 b).cells.set P (a6 af)=(b2 (aK b P af)).cells:=LM b c
theorem aoH{b:J}(c:¬b=(P:J)):vd b (P+1)=vd b P:=by(simp[vd,ae,ab];omega)
theorem aoF{b:J}(c:b=(P:J)):vd b (P+1)=(P:J):=by(simp[vd,ae];omega)
def J2(b:X (Z×V))(d:bU):aI:=⟨(0,c 6000)::(3,c 3)::(4,c 4)::b,(4,ag 236<|b2 cL)::d,[]⟩
def agX(S:X v)(i:a1)(b:ar)(q:KT S b)(cq:Q i=256):dF 331 [c 6000,b2 i] [(6000,ag 255 (dr S b))] (cs [b2 (kQ S i b).s,an aj (kQ S i b).n]) [(6000,ag 255 (dr S (kQ S i b).r))]:=by
 refine dN func331 [1000] λaZ au ay=>?_;let⟨h1,fN⟩:=id q;refine mC (b2 cL) ?_ (fj:=a3);refine r9 ?_ (f:=UR S b q);apply e<;>intro U
 .rw[show kQ S i b=⟨i, -1,cv b b.w 6⟩ by simp_all[kQ,ae]];refine bI [(6000,6000)] ?_ (f:=su S b b.w 6);refine ho ?_ (a7:=iJ cq);refine lh (b2 i) ?_ (h1:=bC (ht) cq) (fN:=jE);exact s4 bq<|.oq p p p p p (qo cq) (bC (ht) cq)<|.tmp p .nil
 have O:¬kT S b.w=ad:=by simpa using U
 have aC:=DF (S:=S) (y:=b.w) ap;refine eg ?_;refine pX b.w ?_;refine gf (a1×J×ar) (λt=>J2 [(7,an aj t.2.1)] [(3,ag 236<|b2 t.1),(6000,ag 255<|dr S t.2.2)]) (λt=>kQ S i b=pN t.1 t.2.1 t.2.2/\Q t.1=256/\(-1<=t.2.1/\t.2.1<256)/\t.2.2.w<=100002) ?_ λt aH=>?_
 .refine aS ?_ (f:=DB NP aR);apply ev;intro aU;refine cf ?_ (f:=DB x_ aR);exact p;apply e<;>intro Y
  .refine lg (aG (z S b.w 0):Z) ?_ (s8:=DX);exact cA (i,aG<|z S b.w 0,b) ⟨by simp_all[kQ,ab,ae,gL],cq,⟨av,by show(aG (z S b.w 0):J)<256;have:=nc<|z S b.w 0;omega⟩,a2⟩
  have F:¬(g1 NP (z S b.w 0)||g1 x_ (z S b.w 0)):=by simpa[gL] using Y
  apply e<;>intro G
  .exact cA (i,10,b) ⟨Kq,cq,⟨(by decide:(-1:Int)<=10),(by decide:(10:Int)<256)⟩,a2⟩
  apply e<;>intro H
  .exact cA (i,9,b) ⟨Kq,cq,⟨(by decide:(-1:Int)<=9),(by decide:(9:Int)<256)⟩,a2⟩
  apply e<;>intro I
  .exact cA (i,13,b) ⟨Kq,cq,⟨(by decide:(-1:Int)<=13),(by decide:(13:Int)<256)⟩,a2⟩
  apply e<;>intro K
  .refine i0 2 (λg=>∀B,B<g->0<=ki S (b.w+(B+1))) (λg=>J2 [(7,an aj<|sb S b.w g),(8,k g)] [(3,ag 236<|b2 i),(6000,ag 255<|dr S<|b.mR g)]) (λg D=>?_) λB N=>b9 N<|vY B;apply e<;>intro aN
   .have aA:(b.mR (g+1)).w=b.w+(g+1):=p;have az:(b.mR g).w=b.w+g:=p;have T:=LY D.2;have aD:sb S b.w g<16:=by have:g=0\/g=1:=o;rcases this with rfl|rfl;omega;omega
    have aV:=Mt S<|b.w+(g+1);refine e6 ((b.w+(g+1):Z):J) ?_ (q:=o);refine eC 16 (λd=>J2 [(7,an aj<|sb S b.w g),(8,k g),(9,an aj<|vd (ki S<|b.w+(g+1)) d),(10,k d)] [(3,ag 236<|b2 i),(6000,ag 255<|dr S<|b.mR<|g+1)]) (λd j=>?_) ⟨⟨a3,a3,a3,a3,a3,(by rw[aoI];rfl),a3,c1⟩,⟨a3,a3,a3,c1⟩,p,p⟩;refine eg ?_;refine fk ?_;apply e<;>intro aO
    .have M:d<16:=o;have E:b.w+(g+1)<Q S:=o;have P:ki S (b.w+(g+1))=Bk (z S (b.w+(g+1)) 0):=by unfold ki;rw[ae E]
     refine eg ?_;refine pX (b.w+(g+1)) ?_ (a7:=o) (j:=o);refine pX d ?_ (j:=o);apply e<;>intro L
     .have fj:ki S (b.w+(g+1))=(d:J):=by rw[P];exact(abt M).1 L
      refine bc ?_;exact a0 (d+1) (cq:=⟨⟨a3,a3,a3,a3,a3,(by rw[aoF fj];rfl),a3,c1⟩,⟨a3,a3,a3,c1⟩,p,p⟩)
     have fj:¬ki S (b.w+(g+1))=(d:J):=by rw[P];exactλR=>L<|(abt M).2 R
     refine bc ?_;exact a0 (d+1) (cq:=⟨⟨a3,a3,a3,a3,a3,(by rw[aoH fj];rfl),a3,c1⟩,⟨a3,a3,a3,c1⟩,p,p⟩)
    have ak:vd (ki S (b.w+(g+1))) d=ki S (b.w+(g+1)):=by by_cases E:b.w+(g+1)<Q S;grind[aoE];simp_all[ki,ab,aoG]
    rw[ak];apply e<;>intro aE
    .rw[show kQ S i b=⟨i, -1,cv (b.mR (g+1)) ((b.mR (g+1)).w:Z) 6⟩ by
      rw[kQ,ab O,ab F,ab G,ab H,ab I,ae K];have:g=0\/g=1:=by omega
      rcases this with rfl|rfl<;>grind]
     refine bI [(6000,6000)] ?_ (f:=su S (b.mR<|g+1) ((b.mR<|g+1).w:Z) 6);refine ho ?_ (a7:=iJ cq);refine lh (b2 i) ?_ (h1:=bC (ht) cq) (fN:=jE);exact s4 bq<|.oq p p p p p (qo cq) (bC (ht) cq)<|.tmp p .nil
    refine BC (16*sb S b.w g) ?_;refine e6 (sb S b.w<|g+1) ?_ (q:=a3) (h1:=by grind[sb]) (h0:=by grind[sb]);refine e6 ((g+1:Z):J) ?_;exact a0 (g+1) ⟨o,λB N=>aY⟩
   obtain rfl:g=2:=o;have T:=LY D.2;have al:kQ S i b=pN i (sb S b.w 2) (b.mR 2):=by have aw:0<=ki S (b.w+1):=D.2 0 aR;have ax:0<=ki S (b.w+2):=D.2 1 aR;rw[kQ,ab O,ab F,ab G,ab H,ab I,ae K,ab o,ab o]
   exact cA (i,sb S b.w 2,b.mR 2) ⟨al,cq,⟨a2,a2⟩,by show b.w+2<=100002;omega⟩
  refine aS ?_ (f:=DB [100,119,115] aR);apply e<;>intro aF
  .rw[show b2 i=b2 (i.nr (qR λl=>pU l<|z S b.w 0) 0) by rw[a1.S1]];refine eC 256 (λd=>J2 [(6,bR<|z S b.w 0),(7,an aj<|-1),(11,k d)] [(3,ag 236<|b2<|i.nr (qR λl=>pU l<|z S b.w 0) d),(6000,ag 255<|dr S b)]) λd j=>?_;apply e<;>intro aI
   .refine hE d d ?_ (jr:=by show d=0+d*1;omega);refine io (a6<|z i d ad) ?_ (eM:=by grind[a1.S0,CU,a1.Fm]);apply ev;intro aP;refine lg (aG (gk d):Z) ?_ (a7:=a2) (s8:=Di o a2);refine cf ?_ (f:=adV (gk d)<|z S b.w 0);exact p;refine hE d d ?_ (jr:=by show d=0+d*1;omega);refine tf (b2<|i.nr (qR λl=>pU l<|z S b.w 0)<|d+1) ?_ (lI:=by grind[ht,a1.Fm]) (aW:=by grind[XH,RF,aiH]);refine bc ?_;exact a0<|d+1
   obtain rfl:d=256:=o;rw[a1.SZ i o<|bC (Gr)<|bG cq];exact cA (i.join<|qR λl=>pU l<|z S b.w 0, -1,b) ⟨Kq,a1.MK cq Gr,⟨(by decide:(-1:Int)<=-1),(by decide:(-1:Int)<256)⟩,a2⟩
  refine aS ?_ (f:=DB [68,87,83] aR);apply e<;>intro aJ
  .rw[show b2 i=b2 (i.nr (qR λl=>!pU l (z S b.w 0+32)) 0) by rw[a1.S1]];refine eC 256 (λd=>J2 [(6,bR<|z S b.w 0),(7,an aj<|-1),(12,k d)] [(3,ag 236<|b2<|i.nr (qR λl=>!pU l (z S b.w 0+32)) d),(6000,ag 255<|dr S b)]) λd j=>?_;apply e<;>intro aL
   .refine hE d d ?_ (jr:=by show d=0+d*1;omega);refine io (a6<|z i d ad) ?_ (eM:=by grind[a1.S0,CU,a1.Fm]);apply ev;intro aQ;refine lg (aG (gk d):Z) ?_ (a7:=a2) (s8:=Di o a2);refine cf ?_ (f:=adV (gk d)<|z S b.w 0+32);exact p;refine hE d d ?_ (jr:=by show d=0+d*1;omega);refine tf (b2<|i.nr (qR λl=>!pU l (z S b.w 0+32))<|d+1) ?_ (lI:=by grind[ht,a1.Fm]) (aW:=by grind[XH,RF,aiH]);refine bc ?_;exact a0<|d+1
   obtain rfl:d=256:=o;rw[a1.SZ i o<|bC (Gr)<|bG cq];exact cA (i.join<|qR λl=>!pU l (z S b.w 0+32), -1,b) ⟨Kq,a1.MK cq Gr,⟨(by decide:(-1:Int)<=-1),(by decide:(-1:Int)<256)⟩,a2⟩
  rw[show kQ S i b=⟨i, -1,cv b b.w 6⟩ by simp_all[kQ,ab]];refine bI [(6000,6000)] ?_ (f:=su S b b.w 6);refine ho ?_ (a7:=iJ cq);refine lh (b2 i) ?_ (h1:=bC (ht) cq) (fN:=jE);exact s4 bq<|.oq p p p p p (qo cq) (bC (ht) cq)<|.tmp p .nil
 let⟨u,m,C⟩:=t;let⟨he,x,⟨am,ao⟩,eM⟩:=aH;dsimp only at he x am ao eM⊢;rw[he];refine e6 ((C.w+1:Z):J) ?_;apply e<;>intro aM
 .rw[show pN u m C=⟨aK u (aB m) af,m,C.step⟩ by rw[pN,ae o]];have A:Q (aK u (aB m) af)=256:=by rw[nJ];exact x
  refine hE (aB m) (aB m) ?_ (jr:=by show aB m=0+aB m*1;omega);refine tf (b2<|aK u (aB m) af) ?_ (lI:=P3) (aW:=ZF u o)
  first|refine ho ?_ (a7:=iJ A)|refine ho ?_ (a7:=iJ x)
  first|refine lh (b2<|aK u (aB m) af) ?_ (h1:=bC (ht) A) (fN:=jE)|refine lh (b2 u) ?_ (h1:=(ht).trans x) (fN:=jE)
  exact s4 bq<|.oq p p p p p (qo A) (bC (ht) A)<|.tmp p .nil
 rw[show pN u m C=⟨u,m,C.step⟩ by rw[pN,ab o]]
 first|refine ho ?_ (a7:=iJ A)|refine ho ?_ (a7:=iJ x)
 first|refine lh (b2<|aK u (aB m) af) ?_ (h1:=bC (ht) A) (fN:=jE)|refine lh (b2 u) ?_ (h1:=bC (ht) x) (fN:=jE)
 exact s4 bq<|.oq p p p p p (qo x) (bC (ht) x)<|.tmp p .nil
theorem uG{b:ar}{d:v}(e:b.ok g)(c:fw g b d):b.w<Q g/\b.no=0/\cy g b=d:=by unfold fw at c;split at c;cases c;let f:=e.1;grind[UInt8.toNat_inj]
theorem ip{b:ar}{l:v}(c:b.ok g):(aF g b l).ok g:=by grind[aF,ar.th,uG]
def IX{b:ar}{c:v}(d:b.ok g):(hx g b c).ok g:=by grind[hx,ar.th,uG,p1]
theorem aqY{b:ar}(e:b.ok g):(pc g b).2.ok g/\(pc g b).1<256:=by unfold pc;let c:=Mr<|cy g b;let d:=Mr<|cy g b.step;grind[ar.th,H8,p1,jM,cy]
theorem wA{S:X v}{x:ar}(d:x.ok S):(eL S x).r.ok S/\(eL S x).c<256/\(eL S x).s.length=256:=by unfold eL;split;grind[ar.th,Lq,EJ];split;rename_i b;exact⟨ar.th d (Dj _ aR b).1,nc _,gO⟩;split;let f:=(zW (S:=S) (x:=x) λe=>ap).1;grind[aqY,ar.th,gO];split;rename_i b;exact⟨ar.th d (Dj _ aR b.2).1,nc _,gO⟩;grind[p1,gO]
def jt(c:X v)(b:ar)(d:X v):Z×ar:=if(aG (cy c b)<32\/126<aG (cy c b))\/0<=gQ d (cy c b) then(0,cv b b.w 6) else(aG<|cy c b,b.step)
theorem BQ{S:X v}{x:ar}{Ju:X v}(d:x.ok S):(jt S x Ju).2.ok S/\(jt S x Ju).1<256:=by unfold jt;split;grind[p1];let c:=(zW (S:=S) (x:=x) λb=>ap).1;grind[ar.th,nc]
def pQ:X v:=[92,91,93,94,45]
def n0(c:a1)(d:Z)(low high:Z)(b:ar):a1×ar:=if b.no≠0 then(c,b) else if high<low then(c,cv b d 9) else(c.add low high,b)
def pR(b:X v)(f:a1)(e:Z)(low:Z)(d:ar):a1×ar:=if fw b d 45 then
  if fw b (aF b d 45) 92 then
   n0 f e low (eL b<|aF b (aF b d 45) 92).c (if(eL b<|aF b (aF b d 45) 92).many then cv (eL b<|aF b (aF b d 45) 92).r (aF b (aF b d 45) 92).w 6 else(eL b<|aF b (aF b d 45) 92).r)
  else n0 f e low (jt b (aF b (aF b d 45) 92) pQ).1 (jt b (aF b (aF b d 45) 92) pQ).2
 else n0 f e low low (aF b d 45)
def j2(b:X v)(e:a1)(d:ar):a1×ar:=if fw b d 92 then
  if(eL b<|aF b d 92).many then(e.join (eL b<|aF b d 92).s,(eL b<|aF b d 92).r)
  else pR b e d.w (eL b<|aF b d 92).c (eL b<|aF b d 92).r
 else pR b e d.w (jt b (aF b d 92) pQ).1 (jt b (aF b d 92) pQ).2
def UK(S:X v)(x:ar)(b:X v)(g:x.ok S):dF 322 [c 6000,bV b] [(6000,ag 211 (dr S x))] (k (jt S x b).1) [(6000,ag 211 (dr S (jt S x b).2))]:=by
 refine dN func322 [] λt i l=>?_;have s:=g.2;refine r9 ?_ (f:=w2 S x g);refine eA ?_;apply ev;refineλq=>cf ?_ (f:=Mx _ _);exact p;apply e<;>intro n
 .have d:(aG (cy S x)<32\/126<aG (cy S x))\/0<=gQ b (cy S x):=by first|omega|(omega)
  rw[show jt S x b=(0,cv x x.w 6) by rw[jt,ae d]];refine bI [(6000,6000)] ?_ (f:=zs S x x.w 6);exact cE
 have d:¬((aG (cy S x)<32\/126<aG (cy S x))\/0<=gQ b (cy S x)):=by first|omega|(omega)
 let⟨m,r⟩:=zW (S:=S) (x:=x) λj=>ap;rw[show jt S x b=(aG (cy S x),x.step) by rw[jt,ab d]];refine e6 ((x.w+1:Z):J)<|lg (aG (cy S x):Z) (s8:=DX)<|cE
def arH(b:X v)(i:a1)(g:ar)(x:g.ok b)(C:Q i=256):dF 342 [c 6000,c 6001] [(6000,ag 211 (dr b g)),(6001,ag 237 (b2 i))] (cs []) [(6000,ag 211 (dr b (j2 b i g).2)),(6001,ag 237 (b2 (j2 b i g).1))]:=by
 refine dN func342 [19,35] λM G H=>?_;let L:=x.2;let q:=ip (l:=92) x;let n:=wA q;let B:=BQ (Ju:=pQ) q;refine gf (Z×ar) (λd=>⟨[(0,c 6000),(1,c 6001),(4,k g.w),(5,k d.1)],[(6000,ag 211<|dr b d.2),(6001,ag 237<|b2 i)],[]⟩) (λd=>j2 b i g=pR b i g.w d.1 d.2/\d.2.ok b/\d.1<256) ?_ λd fj=>?_
 .refine bI [(6000,6000)] ?_ (f:=sA b g 92 x);apply e<;>intro y
  .refine bI [(6000,6000)] ?_ (f:=RT b (aF b g 92) q);refine mC (b2 cL) ?_ (fj:=a3);refine lh (b2 (eL b<|aF b g 92).s) ?_ (h1:=bC (ht) n.2.2) (fN:=jE);apply e<;>intro D
   .rw[show j2 b i g=(i.join (eL b (aF b g 92)).s,(eL b (aF b g 92)).r) by simp_all[j2,ae]];refine ho ?_ (a7:=iJ n.2.2);refine bI [(6000,6001)] ?_ (f:=al7 i (eL b<|aF b g 92).s C n.2.2);exact cE
   exact cA ((eL b<|aF b g 92).c,(eL b<|aF b g 92).r) ⟨by rw[j2,ae y,ab D],n.1,n.2.1⟩
  refine bI [(6000,6000)] ?_ (f:=UK b (aF b g 92) pQ q);exact cA ((jt b (aF b g 92) pQ).1,(jt b (aF b g 92) pQ).2) ⟨by rw[j2,ab y],B.1,B.2⟩
 let u:=ip (l:=45) fj.2.1;refine gf (Z×ar) (λj=>⟨[(0,c 6000),(1,c 6001),(4,k g.w),(5,k d.1),(9,k j.1)],[(6000,ag 211<|dr b j.2),(6001,ag 237<|b2 i)],[]⟩) (λj=>pR b i g.w d.1 d.2=n0 i g.w d.1 j.1 j.2/\j.2.ok b/\j.1<256) ?_ λj F=>?_
 .refine bI [(6000,6000)] ?_ (f:=sA b d.2 45 fj.2.1);apply e<;>intro z
  .let t:=ip (l:=92) u;let m:=wA t;let A:=BQ (Ju:=pQ) t;refine bI [(6000,6000)] ?_ (f:=sA b (aF b d.2 45) 92 u);apply e<;>intro E
   .refine bI [(6000,6000)] ?_ (f:=RT b (aF b (aF b d.2 45) 92) t);refine mC (b2 cL) ?_ (fj:=a3);refine lh (b2 (eL b<|aF b (aF b d.2 45) 92).s) ?_ (h1:=bC (ht) m.2.2) (fN:=jE);apply e<;>intro I
    .refine bI [(6000,6000)] ?_ (f:=zs b (eL b<|aF b (aF b d.2 45) 92).r (aF b (aF b d.2 45) 92).w 6);exact cA ((eL b<|aF b (aF b d.2 45) 92).c,cv (eL b<|aF b (aF b d.2 45) 92).r (aF b (aF b d.2 45) 92).w 6) ⟨by simp_all[pR,ae],p1 m.1,m.2.1⟩
    exact cA ((eL b<|aF b (aF b d.2 45) 92).c,(eL b<|aF b (aF b d.2 45) 92).r) ⟨by simp_all[pR,ae,ab],m.1,m.2.1⟩
   refine bI [(6000,6000)] ?_ (f:=UK b (aF b (aF b d.2 45) 92) pQ t);exact cA ((jt b (aF b (aF b d.2 45) 92) pQ).1,(jt b (aF b (aF b d.2 45) 92) pQ).2) ⟨by rw[pR,ae z,ab E],A.1,A.2⟩
  exact cA (d.1,aF b d.2 45) ⟨by rw[pR,ab z],u,fj.2.2⟩
 apply e<;>intro J
 .rw[show j2 b i g=(i,j.2) by simp_all[n0,ae]];exact cE
 apply e<;>intro K
 .rw[show j2 b i g=(i,cv j.2 g.w 9) by simp_all[n0,ab,ae]];refine bI [(6000,6000)] ?_ (f:=zs b j.2 g.w 9);exact cE
 rw[show j2 b i g=(i.add d.1 j.1,j.2) by simp_all[n0,ab]];refine bI [(6000,6001)] ?_ (f:=u_ i d.1 j.1 C F.2.2);exact cE
def j8(c:X v)(d:a1)(b:ar):AA:=if(!kT c b.w||!c2 c b.w 92&&g1 x_ (z c b.w 0)) then⟨d, -1,cv b b.w 6⟩
 else if c2 c b.w 92 then kQ c d b.step
 else⟨aK d (aG<|z c b.w 0) af,aG<|z c b.w 0,b.step⟩
structure KH(S:X v)(x:ar)(U:AA):Prop where
 len:Q U.s=256
 pS:-1<=U.n
 j:U.n<256
 ok:U.r.ok S
 mR:x.no=0->U.r.no=0->x.w<U.r.w
def ar.ok.ut{c:ar}(b:c.ok g):KT g c:=⟨by have:=b.1;have:=b.2;omega,b.2⟩
theorem E3(b:ar)(c d:J):(cv b c d).w=b.w:=by grind[cv]
theorem iT{c:ar}{b T:J}(d:T≠0):(cv c b T).no≠0:=by grind[cv]
def C5{e:a1}{b:J}{c d:ar}(m:Q e=256)(i:-1<=b)(j:b<256)(k:c.w<Q g)(l:Q g<=2000)(f:d.w<=c.w):KH g d (pN e b c):=by refine⟨?_,i,j,⟨k,l⟩,λ_ _=>Nat.lt_succ_of_le f⟩;grind[pN,List.length_set]
def abF{S:X v}{y:Z}(b:0<=ki S y):y<Q S:=by grind[ki]
def LZ{S:X v}{M:a1}{x:ar}(i:x.ok S)(e:Q M=256):KH S x (kQ S M x):=by
 have b:=i.2;have d:∀{c:ar}{y:J},c.ok S->KH S x ⟨M, -1,cv c y 6⟩:=λ{c y} j=>⟨e,uK _,(by decide:(-1:Int)<256),p1 j (y:=y) (T:=6),λ_ f=>b9 f<|iT aR⟩;unfold kQ;split;simp_all;have g:=DF (S:=S) (y:=x.w) ap;have m:(aG (z S x.w 0):J)<256:=by have:=nc<|z S x.w 0;omega
 split;simp_all[C5,bz];split;simp_all[C5,bz];split;simp_all[C5,bz];split;simp_all[C5,bz];split;split;exact d ⟨g,b⟩;have k:=abF (S:=S) (y:=x.w+1) o;split;exact d ⟨k,b⟩;have l:=abF (S:=S) (y:=x.w+2) o;have n:=LY (S:=S) (y:=x.w) (A:=2) λr q=>by grind
 exact C5 e o o l b (by show x.w<=x.w+2;omega);split;simp_all[C5,a1.MK,Gr,bz];split;simp_all[C5,a1.MK,Gr,bz];simp_all
def lJ{b:v}(c:c2 g P b):P<Q g/\(aG (z g P 0):J)=aG b:=by unfold c2 at c<;>grind
def Jv{S:X v}{M:a1}{x:ar}(b:x.ok S)(e:Q M=256):KH S x (j8 S M x):=by
 unfold j8;split;exact⟨e,uK _,(by decide:-1<256),p1 b,λ_ c=>b9 c<|iT aR⟩;let i:kT S x.w:=by cases c:kT S _ with|true=>rfl|false=>simp_all
 let d:=DF i;split;have:=LZ (x:=x.step) ⟨d,b.2⟩ e;exact⟨this.len,this.pS,this.j,this.ok,λf g=>by have:=this.mR f g;let k:x.step.w=x.w+1:=p;omega⟩;refine⟨a2,?_,?_,⟨d,b.2⟩,λ_ _=>xp _⟩;simp;show(aG (z S _ 0):J)<256;have:=nc<|z S x.w 0;omega
def ahc(S:X v)(M:a1)(x:ar)(d:x.ok S)(b:Q M=256):dF 349 [c 6000,b2 M] [(6000,ag 255 (dr S x))] (cs [b2 (j8 S M x).s,an aj (j8 S M x).n]) [(6000,ag 255 (dr S (j8 S M x).r))]:=by
 refine dN func349 [] λC t y=>?_;let⟨h1,fN⟩:=id d;refine mC (b2 cL) ?_ (fj:=a3);refine eg ?_;refine kz ?_ (f:=UR S x d.ut);apply ev;intro q;refine kz ?_ (f:=rj S x 92 d.ut);apply c9;intro B;have j:kT S x.w:=by simpa using q
 have k:=DF j;refine pX x.w ?_;refine cf ?_ (f:=DB x_ aR);exact p;exact p;apply e<;>intro l
 .have i:(!kT S x.w||!c2 S x.w 92&&g1 x_ (z S x.w 0)):=by simpa[gL] using l
  rw[show j8 S M x=⟨M, -1,cv x x.w 6⟩ by rw[j8,ae i]];refine bI [(6000,6000)] ?_ (f:=su S x x.w 6);refine ho ?_ (a7:=iJ b);refine lh (b2 M) ?_ (h1:=bC (ht) b) (fN:=jE);exact s4 bq<|.oq p p p p p (qo b) (bC (ht) b)<|.tmp p .nil
 have i:¬(!kT S x.w||!c2 S x.w 92&&g1 x_ (z S x.w 0)):=by simpa[gL] using l
 have j:kT S x.w:=by cases u:kT S x.w with|true=>rfl|false=>simp_all
 have k:=DF j;refine r9 ?_ (f:=rj S x 92 d.ut);apply e<;>intro m
 .have he:=LZ (S:=S) (M:=M) (x:=x.step) ⟨k,d.2⟩ b;rw[show j8 S M x=kQ S M x.step by rw[j8,ab i,ae m]];refine e6 ((x.w+1:Z):J) ?_;refine ho ?_ (a7:=iJ b);refine bI [(6000,6000)] ?_ (f:=agX S M x.step ⟨by show x.w+1<=100000;omega,d.2⟩ b);refine lh (b2 (kQ S M x.step).s) ?_ (h1:=bC (ht) he.len) (fN:=jE);exact s4 bq<|.oq p p p p p (qo he.len) (bC (ht) he.len)<|.tmp p .nil
 have g:Q (aK M (aG (z S x.w 0)) af)=256:=by rw[nJ];exact b
 have A:=nc<|z S x.w 0;rw[show j8 S M x=⟨aK M (aG (z S x.w 0)) af,aG (z S x.w 0),x.step⟩ by simp_all[j8,ab]];refine eg ?_;refine pX x.w ?_;refine lg (aG (z S x.w 0):Z) ?_ (s8:=DX);refine e6 ((x.w+1:Z):J) ?_;refine hE (aG<|z S x.w 0) (aG<|z S x.w 0) ?_ (jr:=by show aG (z S x.w 0)=0+aG (z S x.w 0)*1;omega);refine tf (b2<|aK M (aG<|z S x.w 0) af) ?_ (lI:=P3) (aW:=ZF M o);refine ho ?_ (a7:=iJ g);refine lh (b2<|aK M (aG<|z S x.w 0) af) ?_ (h1:=bC (ht) g) (fN:=jE);exact s4 bq<|.oq p p p p p (qo g) (bC (ht) g)<|.tmp p .nil
def ET:X v:=[100,119,115,68,87,83]
def Hr(d:Z)(c:J)(b:AA):a1×ar:=if b.r.no=0/\b.n<c then(b.s,cv b.r d 9)
 else if b.r.no=0 then(b.s.add (aB c)<|aB b.n,b.r) else(b.s,b.r)
def vc(c:X v)(d:Z)(b:AA):a1×ar:=if b.r.no≠0\/c2 c b.r.w 45=ad then(b.s,b.r)
 else if b.n<0 then(b.s,cv b.r b.r.w 6)
 else if(b.r.w+2<Q c/\c2 c (b.r.w+1) 92)/\g1 ET (z c (b.r.w+2) 0) then(b.s,cv b.r.step (b.r.w+2:Z) 6)
 else Hr d b.n (j8 c b.s b.r.step)
def vb(c:X v)(d:a1)(b:ar):a1×ar:=vc c b.w<|j8 c d b
def lD(d:X v):Z->a1->ar->a1×ar|0,c,b=>(c,b)|e+1,c,b=>if b.no=0/\c2 d b.w 93=ad then lD d e (vb d c b).1 (vb d c b).2 else(c,b)
theorem Hq{c:a1}{b:ar}(d:¬(b.no=0/\c2 g b.w 93=ad)):lD g P c b=(c,b):=by cases P with|zero=>rfl|succ P=>rw[lD,ab d]
def nT(c:X v)(b:ar):ar:=if c2 c b.w 94 then b.step else b
def zg(b:X v)(c:ar):aO×ar:=(kh<|if c2 b c.w 94 then(lD b (Q b+1) cL<|nT b c).1.others else(lD b (Q b+1) cL<|nT b c).1,(lD b (Q b+1) cL<|nT b c).2.step)
structure akw(S:X v)(x:ar)(U:a1×ar):Prop where
 len:Q U.1=256
 ok:U.2.ok S
 mR:x.no=0->U.2.no=0->x.w<U.2.w
def Lp{S:X v}{M:a1}{x:ar}(e:x.ok S)(m:Q M=256):akw S x (vb S M x):=by
 let c:=Jv e m;unfold vb vc;split;exact⟨c.len,c.ok,c.mR⟩;let l:c2 S (j8 S M x).r.w 45:=by cases b:c2 S _ 45 with|true=>rfl|false=>simp_all
 let i:=(lJ l).1;split;exact⟨c.len,p1 c.ok,λ_ b=>b9 b<|iT aR⟩;split;exact⟨c.len,p1 (x:=(j8 S M x).r.step) ⟨i,e.2⟩,λ_ b=>b9 b<|iT aR⟩;let d:=Jv (x:=(j8 S M x).r.step) ⟨i,e.2⟩ c.len;unfold Hr;let f:(j8 S M x).r.no=0:=by rcases yL ((j8 S M x).r.no=0) with b|b;exact b;omega
 let g:x.no=0->(j8 S _ _).r.no=0->x.w<(j8 S (j8 S M x).s (j8 S M x).r.step).r.w:=λj k=>by let n:=c.mR j f;let q:=d.mR f k;let t:(j8 S M x).r.step.w=(j8 S M x).r.w+1:=p;omega
 split;exact⟨d.len,p1 d.ok,λ_ b=>b9 b<|iT aR⟩;split;exact⟨bC (a1.xF ..) d.len,d.ok,g⟩;exact⟨d.len,d.ok,g⟩
def YJ{S:X v}:∀{A:Z}{c:a1}{b:ar},b.ok S->Q c=256->(lD S A c b).2.ok S/\Q (lD S A c b).1=256|0,c,b,d,e=>⟨d,e⟩|A+1,c,b,d,e=>by rw[lD];split;have:=Lp d e;exact YJ this.ok this.len;trivial
theorem a1.avf(b:a1)(c:P<Q b):z (b.j6 P) P ad=z b P ad:=by simp[a1.j6,dm,Wq,cm]
def Pr(d:X v)(b:ar)(e:X (Z×V))(f:bU):aI:=⟨(0,c 6000)::(2,c 2)::(3,c 3)::(4,a6<|c2 d b.w 94)::e,f,[]⟩
def anE(S:X v)(x:ar)(aw:x.ok S)(aN:x.no=0):dF 330 [c 6000] [(6000,ag 255 (dr S x))] (vg (zg S x).1) [(6000,ag 255 (dr S (zg S x).2))]:=by
 refine dN func330 [12,115] λbA bi bm=>?_;let⟨h1,fN⟩:=id aw;have a5:(nT S x).ok S/\(nT S x).no=0:=by unfold nT;split;rename_i i;exact⟨⟨(lJ i).1,fN⟩,aN⟩;trivial
 refine mC (b2 cL) ?_ (fj:=a3);refine r9 ?_ (f:=rj S x 94 aw.ut);refine gf kc (λF=>Pr S x [] [(2,ag 164<|V.zero mz.z),(3,ag 236<|b2 cL),(6000,ag 255<|dr S<|nT S x)]) (λ_=>dW) ?_ λF fj=>?_
 .apply e<;>intro P
  .refine e6 ((x.w+1:Z):J) ?_;rw[nT,ae P];exact cA ()
  rw[nT,ab P];exact cA ()
 refine dv (a1×ar×Z) (λn=>Pr S x [] [(2,ag 164<|V.zero mz.z),(3,ag 236<|b2 n.1),(6000,ag 255<|dr S n.2.1)]) (λn=>Q n.1=256/\n.2.1.ok S/\(n.2.1.no=0->Q S<n.2.1.w+n.2.2)/\lD S (Q S+1) cL (nT S x)=lD S n.2.2 n.1 n.2.1) (λn=>n.2.2) (cL,nT S x,Q S+1) (λ⟨M,g,t⟩ ⟨A,E,az,K⟩=>?_) ⟨gO,a5.1,λ_=>a2,p⟩;dsimp only at A E az K⊢;have bw:=E.1;apply c9;intro bo;refine kz ?_ (f:=rj S g 93 E.ut);exact p;apply e<;>intro T
 .have G:g.no=0/\c2 S g.w 93=ad:=by simpa[gL] using T
  have ao:=G.1;have bu:=az ao;have C:lD S (Q S+1) cL (nT S x)=lD S (t-1) (vb S M g).1 (vb S M g).2:=by obtain⟨aA,rfl⟩:∃aA,t=aA+1:=⟨t-1,o⟩;rw[K,lD,ae G];rfl
  have dI:=Lp (S:=S) (M:=M) E A;have fj:=Jv (S:=S) (M:=M) E A;unfold vb at C dI;refine ho ?_ (a7:=iJ A);refine bI [(6000,6000)] ?_ (f:=ahc S M g E A);generalize j8 S M g=F at fj C dI⊢;let⟨m,B,d⟩:=F;let⟨D,a8,a9,ax,a_⟩:=fj;dsimp only at D a8 a9 ax a_⊢;refine lh (b2 m) ?_ (h1:=bC (ht) D) (fN:=bC (ht) A);apply ev;intro br;refine kz ?_ (f:=rj S d 45 ax.ut);exact p;apply e<;>intro aQ
  .have y:vc S g.w ⟨m,B,d⟩=(m,d):=by rw[vc,ae ap]
   rw[y] at dI;exact a0 (m,d,t-1) ⟨dI.len,dI.ok,λi=>aY,bC C (by rw[y])⟩ a2
  have H:¬(d.no≠0\/c2 S d.w 45=ad):=by simpa[gL] using aQ
  have bx:d.no=0:=oP λi=>H<|bl i;have aO:c2 S d.w 45:=by cases i:c2 S d.w 45 with|true=>rfl|false=>simp_all
  have ak:=(lJ aO).1;apply e<;>intro I
  .have y:vc S g.w ⟨m,B,d⟩=(m,cv d d.w 6):=by rw[vc,ab H,ae I]
   rw[y] at dI;refine bI [(6000,6000)] ?_ (f:=su S d d.w 6);exact a0 (m,cv d d.w 6,t-1) ⟨dI.len,dI.ok,λi=>b9 i<|iT aR,bC C (by rw[y])⟩ a2
  refine e6 ((d.w+1:Z):J) ?_;refine eg ?_;refine e6 ((d.w+2:Z):J) ?_;apply c9;intro bs;refine kz ?_ (f:=rj S d.step 92 ⟨by show d.w+1<=100000;omega,fN⟩);exact p;apply c9;intro bt;refine e6 ((d.w+2:Z):J) ?_;refine pX (d.w+2) ?_ (j:=o);refine cf ?_ (f:=DB ET aR);exact p;apply e<;>intro U
  .have y:vc S g.w ⟨m,B,d⟩=(m,cv d.step (d.w+2:Z) 6):=by rw[vc,ab H,ab I,ae];have:=U;simp[gL] at this;exact⟨⟨a2,this.1.2⟩,this.2⟩
   rw[y] at dI;refine e6 ((d.w+2:Z):J) ?_;refine bI [(6000,6000)] ?_ (f:=su S d.step (d.w+2:Z) 6);exact a0 (m,cv d.step (d.w+2:Z) 6,t-1) ⟨dI.len,dI.ok,λi=>b9 i<|iT aR,bC C (by rw[y])⟩ a2
  have N:vc S g.w ⟨m,B,d⟩=Hr g.w B (j8 S m d.step):=by rw[vc,ab H,ab I,ab];intro i;refine U ?_;simp[gL];have aL:d.w+2<Q S:=i.1.1;exact⟨⟨o,i.1.2⟩,i.2⟩
  have aW:=Jv (S:=S) (M:=m) (x:=d.step) ⟨ak,fN⟩ D;refine ho ?_ (a7:=iJ D);refine bI [(6000,6000)] ?_ (f:=ahc S m d.step ⟨ak,fN⟩ D);generalize j8 S m d.step=bh at aW N⊢;let⟨u,q,s⟩:=bh;let⟨ay,bb,bc,bd,be⟩:=aW;dsimp only at ay bb bc bd be⊢;obtain⟨l,aZ⟩:∃l:Z,B=(l:J):=⟨aB B,o⟩;subst aZ;refine lh (b2 u) ?_ (h1:=bC (ht) ay) (fN:=bC (ht) D);refine gf kc (λF=>Pr S x [(6,k l),(7,an aj q)] [(2,ag 164<|V.zero mz.z),(3,ag 236<|b2 u),(6000,ag 255<|dr S<|if s.no=0/\q<(l:J) then cv s g.w 9 else s)]) (λ_=>dW) ?_ λF fj=>?_
  .refine fk ?_;apply e<;>intro bn
   .refine bI [(6000,6000)] ?_ (f:=su S s g.w 9);rw[ae o];exact cA ()
   rw[ab o];exact cA ()
  generalize au:(if s.no=0/\q<(l:J) then cv s g.w 9 else s)=r;have a4:r.no=0->((l:Z):J)<=q+1:=λi=>by
   rcases yL (s.no=0/\q<(l:J)) with aF|aF;grind[b9,iT]
   (simp_all;omega)
  rw[show b2 u=b2 (u.o2 l l) by rw[a1.Ez]];refine dv Z (λb=>Pr S x [(7,an aj q),(8,k b)] [(2,ag 164<|V.zero mz.z),(3,ag 236<|b2<|u.o2 l b),(6000,ag 255<|dr S r)]) (λb=>l<=b/\(r.no≠0->b=l)/\(r.no=0->(b:J)<=q+1)) (λb=>256-b) l (λb j=>?_) ⟨bz _,λ_=>p,a4⟩;refine fk ?_;apply e<;>intro R
  .have Y:(b:J)<=q/\r.no=0:=by simpa[gL] using R
   refine hE b b ?_ (jr:=by show b=0+b*1;omega);refine tf (b2<|u.o2 l<|b+1) ?_ (lI:=by grind[ht,a1.Ql]) (aW:=ZD (M:=u) o o);refine e6 ((b+1:Z):J) ?_;exact a0 (b+1) ⟨o,λi=>b9 Y.2 i,λ_=>o⟩
  have Y:¬((b:J)<=q/\r.no=0):=by simpa[gL] using R
  have O:vc S g.w ⟨m,(l:J),d⟩=(u.o2 l b,r):=by
   let⟨aL,bk,aM⟩:=j;rw[N,Hr];by_cases aE:s.no=0/\q<(l:J);grind[a1.Ez];rw[ab aE] at au⊢;by_cases L:s.no=0;rw[ae L];have h_:r.no=0:=by rw[<-au];exact L
   have l1:=aM h_;have Lf:b=aB q+1:=o;grind[a1.Qk,Int.toNat_natCast];simp_all[ab,a1.Ez]
  rw[O] at dI;exact a0 (u.o2 l b,r,t-1) ⟨dI.len,dI.ok,λi=>by have bj:g.w<r.w:=dI.mR ao i;(simp;omega),bC C (by rw[O])⟩ a2
 have G:¬(g.no=0/\c2 S g.w 93=ad):=by simpa[gL] using T
 rw[Hq G] at K;refine e6 ((g.w+1:Z):J) ?_;rw[show b2 M=b2 (M.j6 0) by rw[a1.IZ]];refine i0 256 (λb=>c2 S x.w 94=ad->b=0) (λb=>⟨[(2,c 2),(3,c 3),(4,a6<|c2 S x.w 94),(9,k b)],[(2,ag 164<|V.zero mz.z),(3,ag 236<|b2<|M.j6 b),(6000,ag 255<|dr S g.step)],[]⟩) (λb j=>?_) λ_=>p;refine fk ?_;apply e<;>intro aP
 .refine hE b b ?_ (jr:=by show b=0+b*1;omega);refine io (a6<|z M b ad) ?_ (eM:=by grind[a1.avf,CU,a1.zT]);refine hE b b ?_ (jr:=by show b=0+b*1;omega);refine tf (b2<|M.j6<|b+1) ?_ (lI:=by grind[ht,a1.zT]) (aW:=ZE (M:=M) o p);refine e6 ((b+1:Z):J) ?_;exact a0 (b+1) ⟨o,λi=>ap⟩
 have aV:¬((b:J)<256/\c2 S x.w 94):=by simpa[gL] using aP
 have bv:(if c2 S x.w 94 then M.others else M)=M.j6 b:=by by_cases i:c2 S x.w 94;have:¬(b:J)<256:=λg=>aV ⟨g,i⟩;rw[ae i,a1.afp (M:=M) o];simp_all[ab,a1.IZ]
 have am:Q (M.j6 b)=256:=by rw[a1.zT];exact A
 have al:=adG (M.j6 b) am;obtain⟨aI,aK,aG,aH,aJ,aU⟩:∃t bg aC aD bf,kh (M.j6 b)=.mk t bg aC aD bf:=by cases kh (M.j6 b)<;>simp_all
 rw[aU] at al;rw[show zg S x=(.mk aI aK aG aH aJ,g.step) by grind[zg]];refine ho ?_ (a7:=iJ am);refine aS ?_ (f:=al);exact jd bq
def ar.mq(b c:ar):Prop:=(b.no≠0->c=b)/\(b.no=0->c.no≠0\/b.w<=c.w)
def ar.mr(b c:ar):Prop:=(b.no≠0->c=b)/\(b.no=0->c.no≠0\/b.w<c.w)
theorem ar.mq.refl(b:ar):b.mq b:=⟨λ_=>p,λ_=>bp<|bz _⟩
def ar.mr.le{d c:ar}(b:d.mr c):d.mq c:=⟨b.1,λe=>(b.2 e).imp id xn⟩
theorem ar.mq.trans{f d g:ar}(j:f.mq d)(c:d.mq g):f.mq g:=by refine⟨λb=>?_,λb=>?_⟩;have:=j.1 b;subst this;exact c.1 b;rcases j.2 b with e|e;have:=c.1 e;simp_all;by_cases i:d.no=0;exact(c.2 i).imp id λk=>dK e k;have:=c.1 i;simp_all
theorem ar.mr.trans{f d g:ar}(j:f.mr d)(c:d.mq g):f.mr g:=by refine⟨λb=>?_,λb=>?_⟩;have:=j.1 b;subst this;exact c.1 b;rcases j.2 b with e|e;have:=c.1 e;simp_all;by_cases i:d.no=0;exact(c.2 i).imp id λk=>kv e k;have:=c.1 i;simp_all
def ar.mq.w_{f d g:ar}(j:f.mq d)(c:d.mr g):f.mr g:=by refine⟨λb=>?_,λb=>?_⟩;have:=j.1 b;subst this;exact c.1 b;rcases j.2 b with e|e;have:=c.1 e;simp_all;by_cases i:d.no=0;exact(c.2 i).imp id λk=>Ko e k;have:=c.1 i;simp_all
def zL{d:ar}{e c:J}(f:c≠0):d.mr (cv d e c):=by unfold cv;refine⟨λb=>ab b,λb=>bl ?_⟩;simp_all
def vx{b:ar}(d:b.no=0):b.mr b.step:=⟨λc=>b9 d c,λ_=>bp<|xp _⟩
theorem rn{b:ar}{l:v}(d:b.ok g):b.mq (aF g b l):=by unfold aF;split;rename_i c;exact(vx (uG d c).2.1).le;exact .refl b
def It{b:ar}{c:v}(e:b.ok g):b.mr (hx g b c):=by unfold hx;split;rename_i d;exact vx (uG e d).2.1;simp[zL]
def TF{S:X v}{b:ar}:b.mr (jt S b g).2:=by unfold jt;split;simp[zL];exact vx (zW (S:=S) λc=>ap).2
def ato{c:ar}:c.mr (pc g c).2:=by unfold pc;split;simp[zL];rename_i b;split;exact(vx (H8 b).2).trans (zL aR).le;rename_i d;exact(vx (H8 b).2).trans (vx (H8 d).2).le
def FA{S:X v}{c:ar}:c.mr (eL S c).r:=by unfold eL;split;rename_i b;exact vx (Lq b).2;split;rename_i b;exact vx (Dj _ aR b).2;split;exact(vx (zW (S:=S) λd=>ap).2).trans ato.le;split;rename_i b;exact vx (Dj _ aR b.2).2;simp[zL]
def Tn{e:a1}{d c:Z}{b:ar}:b.mq (n0 e P d c b).2:=by unfold n0;split;exact .refl b;split;exact(zL aR).le;exact .refl b
theorem arG{c:a1}{e d:Z}{b:ar}(f:b.ok g)(i:Q c=256):(n0 c P e d b).2.ok g/\Q (n0 c P e d b).1=256:=by grind[n0,p1,a1.xF,trans]
def acW{i:a1}{f:Z}{b:ar}(e:b.ok g):b.mq (pR g i P f b).2:=by let c:=rn (l:=45) e;unfold pR;split;let d:=c.trans<|rn (l:=92)<|ip (l:=45) e;split;refine d.trans<|.trans ?_ Tn;split;exact FA.le.trans (zL aR).le;exact FA.le;exact d.trans<|TF.le.trans Tn;exact c.trans Tn
theorem arF{c:a1}{d:Z}{b:ar}(e:b.ok g)(i:Q c=256):(pR g c P d b).2.ok g/\Q (pR g c P d b).1=256:=by let f:=ip (l:=45) e;let j:=ip (l:=92) f;grind[pR,arG,p1,wA,BQ]
def TE{M:a1}{c:ar}(d:c.ok g):c.mr (j2 g M c).2:=by let b:=rn (l:=92) d;let e:=ip (l:=92) d;unfold j2;split;split;exact b.w_ FA;exact(b.w_ FA).trans<|acW (wA e).1;exact(b.w_ TF).trans<|acW (BQ e).1
def Ig{c:a1}{b:ar}(d:b.ok g)(e:Q c=256):(j2 g c b).2.ok g/\Q (j2 g c b).1=256:=by let f:=ip (l:=92) d;unfold j2;grind[wA,a1.arX,trans,arF,BQ]
def Ix(c:X v)(b:ar):Z:=if b.no=0 then Q c+1-b.w else 0
def atz{b c:ar}(i:b.mr c)(d:b.no=0)(f:b.ok g):Ix g c<Ix g b:=by have:=f.1;unfold Ix;split;rcases i.2 d with e|e;omega;omega;omega
def oL:Z->X v->a1->ar->a1×ar|0,_,c,b=>(c,b)|e+1,d,c,b=>if b.no=0/\aG (cy d b)≠93 then oL e d (j2 d c b).1 (j2 d c b).2 else(c,b)
def ahs{c:a1}{b:ar}(d:¬(b.no=0/\aG (cy g b)≠93)):oL P g c b=(c,b):=by cases P with|zero=>rfl|succ P=>rw[oL,ab d]
def OI{f:X v}:∀{A:Z}{d:a1}{b:ar},b.ok f->Q d=256->(oL A f d b).2.ok f/\Q (oL A f d b).1=256/\b.mq (oL A f d b).2|0,d,b,c,e=>⟨c,e,.refl b⟩|A+1,d,b,c,e=>by rw[oL];split;obtain⟨g,i,j⟩:=OI (Ig c e).1 (Ig c e).2;exact⟨g,i,(TE c).le.trans j⟩;exact⟨c,e,.refl b⟩
def p5(b:X v)(c:ar):aO×ar:=(kh<|if fw b c 94 then(oL (Q b+1) b cL<|aF b c 94).1.others else(oL (Q b+1) b cL<|aF b c 94).1,hx b (oL (Q b+1) b cL<|aF b c 94).2 93)
def C0(d:aO):∃e g b c f,d=.mk e g b c f:=by let⟨e,g,b,c,f⟩:=d;simp
def ayG(d:X v)(g:ar)(n:g.ok d):dF 318 [c 6000] [(6000,ag 211 (dr d g))] (vg (p5 d g).1) [(6000,ag 211 (dr d (p5 d g).2))]:=by
 refine dN func318 [21] λF t w=>?_;let r:=ip (l:=94) n;refine mC (b2 cL) ?_ (fj:=a3);refine bI [(6000,6000)] ?_ (f:=sA d g 94 n);refine dv (a1×ar×Z) (λb=>⟨[(0,c 6000),(2,c 2),(3,c 3),(4,a6<|fw d g 94)],[(2,ag 164<|V.zero mz.z),(3,ag 237<|b2 b.1),(6000,ag 211<|dr d b.2.1)],[]⟩) (λb=>b.2.1.ok d/\Q b.1=256/\oL (Q d+1) d cL (aF d g 94)=oL b.2.2 d b.1 b.2.1/\Ix d b.2.1<=b.2.2) (λb=>b.2.2) (cL,aF d g 94,Q d+1) (λb fj=>?_) ⟨r,gO,p,by grind[Ix]⟩;apply c9;intro A;refine kz ?_ (f:=w2 d b.2.1 fj.1);exact p;apply e<;>intro x
 .let j:b.2.1.no=0/\aG (cy d b.2.1)≠93:=by first|omega|(omega)
  let B:=atz (TE (M:=b.1) fj.1) j.1 fj.1;let s:b.2.2=b.2.2-1+1:=o;refine bI [(6000,6000),(6001,3)] ?_ (f:=arH d b.1 b.2.1 fj.1 fj.2.1);exact a0 ((j2 d b.1 b.2.1).1,(j2 d b.1 b.2.1).2,b.2.2-1) ⟨(Ig fj.1 fj.2.1).1,(Ig fj.1 fj.2.1).2,by rw[fj.2.2.1,s,oL,ae j];rfl,a2⟩ a2
 let j:¬(b.2.1.no=0/\aG (cy d b.2.1)≠93):=by first|omega|(omega)
 let q:=bC fj.2.2.1<|ahs j;refine bI [(6000,6000)] ?_ (f:=Ub d b.2.1 93 fj.1);refine gf a1 (λi=>⟨[(2,c 2),(3,c 3)],[(2,ag 164<|V.zero mz.z),(3,ag 237<|b2 i),(6000,ag 211<|dr d<|hx d b.2.1 93)],[]⟩) (λi=>(p5 d g).1=kh i/\Q i=256) ?_ λi k=>?_
 .apply e<;>intro y
  .refine ho ?_ (a7:=iJ fj.2.1);refine aS ?_ (f:=Ux b.1 fj.2.1);refine lh (b2 b.1.others) ?_ (h1:=bC (ht)<|bC (a1.zU _) fj.2.1) (fN:=bC (ht) fj.2.1);exact cA b.1.others ⟨by rw[p5,q];simp_all,bC (a1.zU _) fj.2.1⟩
  exact cA b.1 ⟨by rw[p5,q];simp_all,fj.2.1⟩
 refine ho ?_ (a7:=iJ k.2);let⟨C,E,ch,u,D,he⟩:=C0<|kh i;let m:=He i k.2;rw[he] at m;refine aS ?_ (f:=m);rw[k.1,he,show(p5 d g).2=hx d b.2.1 93 by grind[p5]];exact jd bq
def e8(d:X v)(e:Z):Z->Z->ar->Z×ar|0,c,b=>(c,b)|f+1,c,b=>if 48<=aG (cy d b)/\aG (cy d b)<=57/\(b.w=e\/0<c) then e8 d e f (c*10+(aG (cy d b)-48)) b.step else(c,b)
def gF(c:X v)(b:ar)(d:Z):Z×ar:=((e8 c b.w 2 0 b).1,if(e8 c b.w 2 0 b).2.w=b.w then cv (e8 c b.w 2 0 b).2 (e8 c b.w 2 0 b).2.w 6
 else if 50<(e8 c b.w 2 0 b).1\/(e8 c b.w 2 0 b).1<d then cv (e8 c b.w 2 0 b).2 b.w 9 else(e8 c b.w 2 0 b).2)
theorem HA{b:ar}(d:48<=aG (cy g b)):b.w<Q g/\b.no=0:=zW λc=>ap
def aeO{e:X v}{f:Z}:∀{d c:Z}{b:ar},b.ok e->(e8 e f d c b).2.ok e/\b.mq (e8 e f d c b).2/\(e8 e f d c b).1<10^d*(c+1)/\b.w<=(e8 e f d c b).2.w
|0,c,b,g=>⟨g,.refl b,by show c<10^0*(c+1);omega,bz _⟩|d+1,c,b,g=>by
 rw[e8];split;rename_i m;obtain⟨l,n⟩:=HA m.1;obtain⟨i,j,k,q⟩:=aeO<|ar.th g l;refine⟨i,(vx n).le.trans j,kv k ?_,by have:b.step.w=b.w+1:=p;omega⟩;rw[rR,qU];exact GP _ o;refine⟨g,.refl b,?_,bz _⟩;have:1<=10^(d+1):=Nat.one_le_pow _ _ aR
 calc c<1*(c+1):=o
  _<=_:=jU _ this
theorem IS{b:ar}{least:Z}(f:b.ok g):(gF g b least).2.ok g/\(gF g b least).1<100/\b.mr (gF g b least).2:=by obtain⟨j,c,e,k⟩:=aeO f;let d:=e;unfold gF at d⊢;refine⟨?_,d,?_⟩;grind[p1];show ar.mr b (if _ then _ else _);split;exact c.w_<|zL aR;split;exact c.w_<|zL aR;exact⟨c.1,λi=>bp o⟩
def k4(b:X v)(c:ar):Z×J×ar:=if fw b (gF b c 0).2 44 then
  if aG (cy b<|aF b (gF b c 0).2 44)≠125 then
   ((gF b c 0).1,((gF b (aF b (gF b c 0).2 44) (gF b c 0).1).1:Z),hx b (gF b (aF b (gF b c 0).2 44) (gF b c 0).1).2 125)
  else((gF b c 0).1, -1,hx b (aF b (gF b c 0).2 44) 125)
 else((gF b c 0).1,((gF b c 0).1:Z),hx b (aF b (gF b c 0).2 44) 125)
def aeR(d:X v){x:ar}(g:Z)(l:x.ok d):dF 323 [c 6000,k g] [(6000,ag 211 (dr d x))] (k (gF d x g).1) [(6000,ag 211 (dr d (gF d x g).2))]:=by
 refine dN func323 [] λal I K=>?_;let T:=l.2;let M:=l.1;refine dv (Z×ar×Z) (λb=>⟨[(0,c 6000),(1,k g),(5,k x.w),(6,k b.1)],[(6000,ag 211<|dr d b.2.1)],[]⟩) (λb=>b.2.1.ok d/\e8 d x.w 2 0 x=e8 d x.w b.2.2 b.1 b.2.1/\b.2.1.w+b.2.2=x.w+2/\b.2.2<=2/\b.1<100/\(b.2.2=2->b.1=0)/\(b.2.2=1->b.1<10)) (λb=>b.2.2) (0,x,2) (λb i=>?_) ⟨l,p,p,bz _,akm _,λ_=>p,λ_=>akm _⟩;refine e6 ((x.w+2:Z):J) ?_;apply c9;intro P;refine kz ?_ (f:=w2 d b.2.1 i.1);exact p;apply c9;intro Q;refine kz ?_ (f:=w2 d b.2.1 i.1);exact p;apply c9;intro R;refine eA ?_;exact p;apply e<;>intro z
 .let s:b.2.1.w<x.w+2/\48<=aG (cy d b.2.1)/\aG (cy d b.2.1)<=57/\(b.2.1.w=x.w\/0<b.1):=by first|omega|(simp[o3] at z;omega)
  let⟨L,q,u,y⟩:=s;let⟨t,S⟩:=HA q;let⟨m,n,C,D,E,F,G⟩:=i;let r:b.2.2=b.2.2-1+1:=o;let U:b.1<10:=by rcases(show b.2.2=1\/b.2.2=2 by omega) with j|j;omega;omega
  let A:b.1*10+(aG (cy d b.2.1)-48)<100:=o;let H:b.2.1.step.ok d/\e8 d x.w 2 0 x=e8 d x.w (b.2.2-1) (b.1*10+(aG (cy d b.2.1)-48)) b.2.1.step/\b.2.1.step.w+(b.2.2-1)=x.w+2/\b.2.2-1<=2/\b.1*10+(aG (cy d b.2.1)-48)<100/\(b.2.2-1=2->b.1*10+(aG (cy d b.2.1)-48)=0)/\(b.2.2-1=1->b.1*10+(aG (cy d b.2.1)-48)<10):=⟨ar.th m t,bC n (by rw[r,e8,ae ⟨q,u,y⟩];rfl),by show b.2.1.w+1+_=_;omega,o,A,λj=>o,λj=>o⟩;let B:IntKind.u8.wrap ((aG (cy d b.2.1):Z)-48:J)=((aG (cy d b.2.1)-48:Z):J):=by rw[IntKind.wrap_u8];omega
  refine IE ?_;refine r9 ?_ (f:=w2 d b.2.1 m);refine lg ((aG (cy d b.2.1)-48:Z):J) ?_ (a7:=B) (s8:=x7 o o);refine e6 ((b.1*10+(aG (cy d b.2.1)-48):Z):J) ?_;refine e6 ((b.2.1.w+1:Z):J) ?_;exact a0 (b.1*10+(aG (cy d b.2.1)-48),b.2.1.step,b.2.2-1) H a2
 let⟨m,n,C,D,E,F,G⟩:=i;let Y:e8 d x.w 2 0 x=(b.1,b.2.1):=bC n (by
  rcases r:b.2.2 with _|ak;rfl
  (simp[e8,ab];omega))
 apply e<;>intro N
 .rw[show gF d x g=(b.1,cv b.2.1 b.2.1.w 6) by unfold gF;grind];refine bI [(6000,6000)] ?_ (f:=zs d b.2.1 b.2.1.w 6);exact cE
 refine eA ?_;apply e<;>intro O
 .rw[show gF d x g=(b.1,cv b.2.1 x.w 9) by unfold gF;grind];refine bI [(6000,6000)] ?_ (f:=zs d b.2.1 x.w 9);exact cE
 rw[show gF d x g=(b.1,b.2.1) by unfold gF;grind];exact cE
def aml(b:X v)(x:ar)(m:x.ok b):dF 300 [c 6000] [(6000,ag 211 (dr b x))] (cs [k (k4 b x).1,an aj (k4 b x).2.1]) [(6000,ag 211 (dr b (k4 b x).2.2))]:=by
 refine dN func300 [8] λt q r=>?_;let j:=IS (least:=0) m;let g:=ip (l:=44) j.1;refine bI [(6000,6000)] ?_ (f:=aeR b (x:=x) 0 m);refine gf (J×ar) (λd=>⟨[(0,c 6000),(2,k (gF b x 0).1),(3,an aj d.1)],[(6000,ag 211<|dr b d.2)],[]⟩) (λd=>k4 b x=((gF b x 0).1,d.1,hx b d.2 125)/\d.2.ok b) ?_ λd n=>?_
 .refine bI [(6000,6000)] ?_ (f:=sA b (gF b x 0).2 44 j.1);apply e<;>intro i
  .refine r9 ?_ (f:=w2 b _ g);apply e<;>intro s
   .refine bI [(6000,6000)] ?_ (f:=aeR b (gF b x 0).1 g);exact cA (((gF b _ (gF b x 0).1).1:Z),(gF b _ (gF b x 0).1).2) ⟨by rw[k4,ae i,ae o],(IS (least:=(gF b x 0).1) g).1⟩
   exact cA (-1,aF b (gF b x 0).2 44) ⟨by rw[k4,ae i,ab o],g⟩
  exact cA (((gF b x 0).1:Z),aF b (gF b x 0).2 44) ⟨by rw[k4,ab i],g⟩
 refine bI [(6000,6000)] ?_ (f:=Ub b d.2 125 n.2);rw[n.1];exact cE
def iZ(c:X v)(b:ar):J×ar:=if(e8 c b.w 2 0 b).2.w=b.w then(-1,(e8 c b.w 2 0 b).2)
 else(((e8 c b.w 2 0 b).1:Z),if 50<(e8 c b.w 2 0 b).1 then cv (e8 c b.w 2 0 b).2 b.w 9 else(e8 c b.w 2 0 b).2)
def IT{S:X v}{ao:Z}:∀{A T:Z}{x:ar},x.ok S->(e8 S ao A T x).2.ok S/\x.w<=(e8 S ao A T x).2.w/\(e8 S ao A T x).2.no=x.no
|0,T,x,b=>⟨b,bz _,p⟩|A+1,T,x,b=>by
 rw[e8];split;rename_i f;obtain⟨g,i⟩:=HA f.1;obtain⟨c,d,e⟩:=IT<|ar.th b g;exact⟨c,dK (pv _) d,e⟩
 (simp;omega)
def NF{b:ar}(c:b.ok g):(iZ g b).2.ok g/\b.w<=(iZ g b).2.w/\-1<=(iZ g b).1:=by let d:=IT (ao:=b.w) (A:=2) (T:=0) c;unfold iZ;grind[e8,p1,E3]
theorem uv{x:ar}(b:x.no=0)(c:x.w<Q g):cy g x=z g x.w 0:=by(simp[cy,ae];omega)
def NX{b:ar}(c:¬b.w<Q g):cy g b=0:=by(simp[cy,ab];omega)
def aeP(b:X v)(g:ar)(q:g.ok b)(F:g.no=0):dF 334 [c 6000] [(6000,ag 255 (dr b g))] (an aj (iZ b g).1) [(6000,ag 255 (dr b (iZ b g).2))]:=by
 refine dN func334 [] λaE U am=>?_;let M:=q.2;let ao:=q.1;refine dv (Z×ar×Z) (λi=>⟨[(0,c 6000),(3,k g.w),(4,k i.1)],[(6000,ag 255<|dr b i.2.1)],[]⟩) (λi=>i.2.1.ok b/\e8 b g.w 2 0 g=e8 b g.w i.2.2 i.1 i.2.1/\i.2.1.w+i.2.2=g.w+2/\i.2.2<=2/\i.1<100/\(i.2.2=2->i.1=0)/\(i.2.2=1->i.1+48=aG (z b g.w 0)/\i.1<10/\g.w<Q b)/\i.2.1.no=0) (λi=>i.2.2) (0,g,2) (λ⟨l,d,m⟩ ⟨O,r,P,R,S,B,T,s⟩=>?_) ⟨q,p,p,bz 2,o,λ_=>p,λE=>b9 E<|show¬2=1 by decide,F⟩;dsimp only at O r P R S B T s⊢;refine eg ?_<|as5 (by decide+kernel);apply c9;intro aw;refine pX d.w ?_ (j:=o);exact p;apply c9;intro ax;refine pX d.w ?_ (j:=o);exact p;apply c9;intro ay;refine jg ((d.w-g.w:Z):J) ?_ (q:=o);exact p;apply c9;intro az;apply c9;intro aA;refine pX g.w ?_ (j:=o);exact p;exact p;apply e<;>intro G
 .let I:(((d.w<Q b/\48<=aG (z b d.w 0))/\aG (z b d.w 0)<=57)/\d.w-g.w<2)/\¬(g.w<d.w/\aG (z b g.w 0)=48):=by first|omega|(simp[gL] at G;omega)
  let⟨⟨⟨⟨t,u⟩,x⟩,ak⟩,al⟩:=I;let L:=uv s t;let y:m=m-1+1:=o;let A:m=1\/m=2:=o;let H:d.w=g.w\/0<l:=by rcases A with n|n;omega;omega
  let aB:l<10:=by rcases A with n|n;omega;omega
  let K:d.step.ok b/\e8 b g.w 2 0 g=e8 b g.w (m-1) (l*10+(aG (z b d.w 0)-48)) d.step/\d.step.w+(m-1)=g.w+2/\m-1<=2/\l*10+(aG (z b d.w 0)-48)<100/\(m-1=2->l*10+(aG (z b d.w 0)-48)=0)/\(m-1=1->l*10+(aG (z b d.w 0)-48)+48=aG (z b g.w 0)/\l*10+(aG (z b d.w 0)-48)<10/\g.w<Q b)/\d.step.no=0:=by
   let n:d.step.w=d.w+1:=p;refine⟨⟨t,M⟩,bC r (by rw[y,e8,L,ae ⟨u,x,H⟩];rfl),o,o,o,λn=>o,λn=>?_,s⟩;let Y:=B o;let C:d.w=g.w:=o;let D:z b d.w 0=z b g.w 0:=by rw[C]
   rw[D] at u x⊢;exact⟨o,o,o⟩
  let N:IntKind.u8.wrap ((aG (z b d.w 0):Z)-48:J)=((aG (z b d.w 0)-48:Z):J):=by rw[IntKind.wrap_u8];omega
  refine eg ?_;refine BC ((10*l:Z):J) ?_;refine pX d.w ?_;refine lg ((aG (z b d.w 0)-48:Z):J) ?_ (a7:=N) (s8:=x7 o o);refine e6 ((l*10+(aG (z b d.w 0)-48):Z):J) ?_;refine e6 ((d.w+1:Z):J) ?_;exact a0 (l*10+(aG (z b d.w 0)-48),d.step,m-1) K a2
 let aC:e8 b g.w 2 0 g=(l,d):=bC r (by rcases y:m with _|aD;rfl;rw[e8,ab];grind[HA,uv]);apply e<;>intro ap
 .rw[show iZ b g=(-1,d) by unfold iZ<;>grind];exact cE
 apply e<;>intro au
 .rw[show iZ b g=(((l:Z):J),cv d g.w 9) by unfold iZ<;>grind];refine bI [(6000,6000)] ?_ (f:=su b d g.w 9);exact cE
 rw[show iZ b g=(((l:Z):J),d) by unfold iZ<;>grind];exact cE
def vj(e:X v)(d c:J)(b:ar):J×J×ar:=(d,c,(if c2 e b.w 125 then b else cv b b.w 6).step)
def Ab(c:X v)(d:J)(b:ar):J×J×ar:=if b.no=0/\c2 c b.w 44 then
  vj c d (iZ c b.step).1 (if 0<=(iZ c b.step).1/\(iZ c b.step).1<d then cv (iZ c b.step).2 (b.w+1:Z) 9 else(iZ c b.step).2)
 else vj c d d b
def sB(b:X v)(c:ar):J×J×ar:=Ab b (iZ b c).1 (if(iZ b c).1<0 then cv (iZ b c).2 (iZ b c).2.w 6 else(iZ b c).2)
def az3(b:X v)(k:ar)(r:k.ok b)(B:k.no=0):dF 309 [c 6000] [(6000,ag 255 (dr b k))] (cs [an aj (sB b k).1,an aj (sB b k).2.1]) [(6000,ag 255 (dr b (sB b k).2.2))]:=by
 refine dN func309 [10,26,52] λak L M=>?_;have G:=r.2;have m:=NF r;refine bI [(6000,6000)] ?_ (f:=aeP b k r B);unfold sB;generalize iZ b k=l at m⊢;let⟨i,j⟩:=l;let⟨x,S,Q⟩:=m;have T:=x.1;refine gf kc (λl=>⟨[(0,c 6000),(4,an aj i)],[(6000,ag 255<|dr b<|if i<0 then cv j j.w 6 else j)],[]⟩) (λ_=>dW) ?_ λl m=>?_
 .apply e<;>intro u
  .refine bI [(6000,6000)] ?_ (f:=su b j j.w 6);rw[ae u];exact cA ()
  rw[ab u];exact cA ()
 generalize F:(if i<0 then cv j j.w 6 else j)=g;have q:g.ok b:=by rw[<-F];split;grind[p1];exact x
 have U:=q.1;refine gf (J×ar) (λd=>⟨[(0,c 6000),(4,an aj i),(5,an aj d.1)],[(6000,ag 255<|dr b d.2)],[]⟩) (λd=>Ab b i g=vj b i d.1 d.2/\d.2.ok b) ?_ λd aH=>?_
 .apply c9;intro P;refine kz ?_ (f:=rj b g 44 q.ut);exact p;apply e<;>intro D
  .have t:g.no=0/\c2 b g.w 44:=by simpa[gL] using D
   have E:=(lJ t.2).1;have y:g.step.ok b:=⟨E,G⟩;have n:=NF y;refine e6 ((g.w+1:Z):J) ?_;refine bI [(6000,6000)] ?_ (f:=aeP b g.step y t.1);generalize R:iZ b g.step=K at n⊢;let⟨A,s⟩:=K;refine fk ?_;apply e<;>intro N
   .refine bI [(6000,6000)] ?_ (f:=su b s (g.w+1:Z) 9);exact cA (A,cv s (g.w+1:Z) 9) ⟨by simp_all[Ab,ae,gL],p1 n.1⟩
   exact cA (A,s) ⟨by simp_all[Ab,ae,ab,gL],n.1⟩
  exact cA (i,g) ⟨by simp_all[Ab,ab,gL],q⟩
 let⟨H,z⟩:=aH;have Y:=z.1;rw[H];refine gf kc (λl=>⟨[(0,c 6000),(4,an aj i),(5,an aj d.1)],[(6000,ag 255<|dr b<|if c2 b d.2.w 125 then d.2 else cv d.2 d.2.w 6)],[]⟩) (λ_=>dW) ?_ λl m=>?_
 .refine r9 ?_ (f:=rj b d.2 125 z.ut);apply e<;>intro O
  .refine bI [(6000,6000)] ?_ (f:=su b d.2 d.2.w 6);rw[ab o];exact cA ()
  rw[ae ap];exact cA ()
 unfold vj;have C:(if c2 b d.2.w 125 then d.2 else cv d.2 d.2.w 6).w=d.2.w:=by split;rfl;simp[E3]
 generalize (if c2 b d.2.w 125 then d.2 else cv d.2 d.2.w 6)=I at C⊢;refine e6 ((I.w+1:Z):J) ?_;exact cE
def R3(d:Y)(b c:V):V:=match d with|af=>b|ad=>c
def aZ.Z1{i:ct}{g:db}{l:Code}{j:Exit->aI->Prop}(c:V->aI)(b m:Z)(k:X Z)(f:X V)(d:Y)(n:(c .ba).lF b m k=c (.a b []))(q:d->f=[])(e:aZ i g P l (c (.a b f)) j):aZ i g P l (c (R3 d .ba (.a b f))) j:=by cases d with|false=>exact e|true=>rw[q p] at e;exact aZ.lF b m k<|n▸e
def FT:X v:=[92,46,124,40,41,91,93,123,125,42,43,63]
def mS(d:ar->aO×ar)(c:X v)(b:ar):aO×ar:=if kT c b.w=ad then(.mk 0 [] 0 0 [],cv b b.w 6)
 else if(aG (z c b.w 0):J)=40 then((d b.step).1,(if c2 c (d b.step).2.w 41 then(d b.step).2 else cv (d b.step).2 (d b.step).2.w 6).step)
 else if(aG (z c b.w 0):J)=91 then zg c b.step
 else if(aG (z c b.w 0):J)=46 then(.mk 3 [(0,255)] 0 0 [],b.step)
 else if(aG (z c b.w 0):J)=92 then(kh (kQ c cL b.step).s,(kQ c cL b.step).r)
 else if g1 FT (z c b.w 0) then(.mk 0 [] 0 0 [],cv b b.w 6)
 else(.mk 3 [((aG (z c b.w 0):J),(aG (z c b.w 0):J))] 0 0 [],b.step)
def n8(c:X v):Z->aO->ar->aO×ar
|0,d,b=>(d,b)|e+1,d,b=>
 if b.no=0 then
  if c2 c b.w 42 then n8 c e (.mk 6 [] 0 (-1) [d]) b.step
  else if c2 c b.w 43 then n8 c e (.mk 6 [] 1 (-1) [d]) b.step
  else if c2 c b.w 63 then n8 c e (.mk 6 [] 0 1 [d]) b.step
  else if c2 c b.w 123 then n8 c e (.mk 6 [] (sB c b.step).1 (sB c b.step).2.1 [d]) (sB c b.step).2.2
  else(d,b)
 else(d,b)
def vF(c:ar->aO×ar)(b:X v)(d:ar):aO×ar:=n8 b (Q b+2) (mS c b d).1 (mS c b d).2
def BO(c:X v)(b:ar):Prop:=((b.no=0/\b.w<Q c)/\c2 c b.w 124=ad)/\c2 c b.w 41=ad
instance(c:X v)(b:ar):Decidable (BO c b):=by unfold BO;exact inferInstance
def rD(e:ar->aO×ar)(d:X v):Z->X aO->ar->X aO×ar|0,c,b=>(c,b)|f+1,c,b=>if BO d b then rD e d f (c++[(vF e d b).1]) (vF e d b).2 else(c,b)
def ny(c:ar->aO×ar)(b:X v)(d:ar):aO×ar:=(pm 4 (rD c b (Q b+1) [] d).1,(rD c b (Q b+1) [] d).2)
def q5(e:ar->aO×ar)(d:X v):Z->X aO->ar->X aO×ar|0,c,b=>(c,b)|f+1,c,b=>if b.no=0/\c2 d b.w 124 then q5 e d f (c++[(ny e d b.step).1]) (ny e d b.step).2 else(c,b)
def eJ(b:X v):Z->ar->aO×ar|0,d=>(.mk 2 [] 0 0 [],d)|c+1,d=>(pm 5 (q5 (eJ b c) b (Q b+2) [(ny (eJ b c) b d).1] (ny (eJ b c) b d).2).1,(q5 (eJ b c) b (Q b+2) [(ny (eJ b c) b d).1] (ny (eJ b c) b d).2).2)
structure rZ(S:X v)(T:Z)(x pj:ar):Prop where
 ok:pj.no=0->pj.w<=Q S/\x.w<pj.w
 j:pj.w<=Q S+T+2
structure u2(S:X v)(T:Z)(x pj:ar):Prop where
 ok:pj.no=0->pj.w<=Q S/\x.w<=pj.w
 j:pj.w<=Q S+T+2
def Em(c:X v)(d:Z)(e:ar->aO×ar):Prop:=∀b:ar,b.ok c->b.no=0->Q c-b.w<d->u2 c d b (e b).2
def YI{d:X v}:∀{f:Z}{c:a1}{b:ar},b.ok d->Q c=256->b.no=0->(lD d f c b).2.no=0->b.w<=(lD d f c b).2.w|0,c,b,_,_,_=>λ_=>bz _|f+1,c,b,j,k,i=>by rw[lD];split;intro l;let e:=Lp j k;by_cases g:(vb d c b).2.no=0;exact dK (xn<|e.mR i g)<|YI e.ok e.len g l;grind[Hq,b9];simp
def Re{e:X v}:∀{A:Z}{d:a1}{b:ar},b.ok e->Q d=256->(b.no=0->Q e<b.w+A)->(lD e A d b).2.no=0->c2 e (lD e A d b).2.w 93|0,d,b,g,_,j,c=>by have:=j c;have:=g.1;omega|A+1,d,b,g,l,j,c=>by rw[lD] at c⊢;split;rename_i i;rw[ae i] at c;let f:=Lp g l;exact Re f.ok f.len (λk=>by have:=f.mR i.1 k;omega) c;simp_all
def anC{S:X v}{b:ar}{T:Z}(i:b.ok S)(g:b.no=0):rZ S T b (zg S b).2:=by
 let c:(nT S b).ok S/\(nT S b).no=0/\b.w<=(nT S b).w:=by unfold nT;split;rename_i f;exact⟨⟨(lJ f).1,i.2⟩,g,pv _⟩;simp_all
 refine⟨λe=>?_,by show(lD S _ _ _).2.w+1<=_;have:=(YJ (S:=S) (A:=Q S+1) c.1 gO).1.1;omega⟩;let d:=e;let j:=YI c.1 gO c.2.1 d;have:=(lJ<|Re c.1 gO (λ_=>o) d).1;show(lD S _ _ _).2.w+1<=Q S/\b.w<(lD S _ _ _).2.w+1;omega
def SI{c:Prop} [Decidable c]{b:ar}{d e:J}:(if c then b else cv b d e).w=b.w:=by grind[E3]
def abN{b:Prop} [Decidable b]{c:ar}{e d:J}(f:d≠0)(g:(if b then c else cv c e d).no=0):b/\c.no=0:=by grind[b9,iT]
def XQ{S:X v}{T:Z}{c:ar->aO×ar}(q:Em S T c){b:ar}(l:b.ok S)(e:b.no=0)(s:Q S-b.w<T+1):rZ S (T+1) b (mS c S b).2:=by
 let r:rZ S (T+1) b (cv b b.w 6):=⟨λd=>b9 d<|iT aR,by rw[E3];have:=l.1;omega⟩;unfold mS;split;exact r;let k:=DF (S:=S) (y:=b.w) ap;let f:b.step.ok S:=⟨k,l.2⟩;let u:b.step.w=b.w+1:=p;let t:rZ S (T+1) b b.step:=⟨λ_=>⟨k,o⟩,o⟩;split;let i:=q b.step f e o;refine⟨λd=>?_,?_⟩;let g:=abN aR (show(if c2 S (c b.step).2.w 41 then(c b.step).2 else cv (c b.step).2 (c b.step).2.w 6).no=0 from d);let m:=i.ok g.2;let n:=(lJ g.1).1;show(if c2 S (c b.step).2.w 41 then(c b.step).2 else cv (c b.step).2 (c b.step).2.w 6).w+1<=Q S/\b.w<(if c2 S (c b.step).2.w 41 then(c b.step).2 else cv (c b.step).2 (c b.step).2.w 6).w+1;grind;show(if c2 S (c b.step).2.w 41 then(c b.step).2 else cv (c b.step).2 (c b.step).2.w 6).w+1<=_;rw[SI];have:=i.j;omega;split;have:=anC (T:=T+1) f e;exact⟨λd=>by have:=this.ok d;omega,this.j⟩;split;omega;split;have:=LZ (S:=S) (M:=cL) f gO;refine⟨λd=>?_,by have:=this.ok.1;(simp;omega)⟩;let m:=this.mR e d;let n:=this.ok.1
 (simp;omega)
 grind
def aiL{x:ar}{T:Z}(i:x.ok g):u2 g T x (sB g x).2.2:=by
 have r:=NF i;have q:∀{d e:J}{b:ar},b.ok g->x.w<=b.w->u2 g T x (vj g d e b).2.2:=λ{d e b} l t=>by refine⟨λf=>?_,?_⟩;have j:=abN aR (show(if c2 g _ 125 then b else cv b _ 6).no=0 from f);have:=(lJ j.1).1;show(if c2 g _ 125 then b else cv b _ 6).w+1<=Q g/\x.w<=(if c2 g _ 125 then b else cv b _ 6).w+1;grind;show(if c2 g _ 125 then b else cv b _ 6).w+1<=_;rw[SI];have:=l.1;omega
 have m:(if(iZ g x).1<0 then cv (iZ g x).2 (iZ g x).2.w 6 else(iZ g x).2).ok g/\x.w<=(if(iZ g x).1<0 then cv (iZ g x).2 (iZ g x).2.w 6 else(iZ g x).2).w:=by split;grind[p1,E3];simp_all
 unfold sB Ab;generalize (if(iZ g x).1<0 then cv _ _ 6 else(iZ g x).2)=c at m⊢;split;rename_i k;have n:c.step.ok g:=⟨(lJ k.2).1,i.2⟩;have s:=NF n;have f:c.step.w=c.w+1:=p;grind[p1,E3];simp_all
def Ja{d:X v}{T:Z}{g:ar}(e:Q d<=2000):∀{m:Z}{b:aO}{x:ar},rZ d T g x->rZ d T g (n8 d m b x).2
|0,b,x,f=>f|m+1,b,x,f=>by rw[n8];let s:∀{i:v},x.no=0->c2 d x.w i->rZ d T g x.step:=λ{i} b c=>⟨λ_=>by have:=(lJ c).1;have:=f.ok b;let k:x.step.w=x.w+1:=p;omega,by have:=(lJ c).1;let k:x.step.w=x.w+1:=p;omega⟩;split;rename_i n;split;rename_i c;exact Ja e aY;split;rename_i c;exact Ja e aY;split;rename_i c;exact Ja e aY;split;rename_i c;let l:=aiL (T:=T) (x:=x.step) ⟨(lJ c).1,e⟩;refine Ja e ⟨λb=>?_,l.j⟩;let q:=l.ok b;let r:=f.ok n;let k:x.step.w=x.w+1:=p;omega;omega;omega
def afX{c:ar->aO×ar}(f:Em g P c){b:ar}(d:b.ok g)(e:b.no=0)(i:Q g-b.w<P+1):rZ g (P+1) b (vF c g b).2:=Ja d.2<|XQ f d e i
def afP{b:X v}{e:Z}{d:ar->aO×ar}(l:Em b e d){g:ar}(m:Q b<=2000)(s:Q b-g.w<e+1):∀{A:Z}{L:X aO}{c:ar},u2 b (e+1) g c->u2 b (e+1) g (rD d b A L c).2/\Q (rD d b A L c).1<=Q L+A
|0,L,c,f=>⟨f,bz _⟩|A+1,L,c,f=>by
 rw[rD];split;rename_i q;let i:=q.1.1.1;let r:=f.ok i;let k:=afX l ⟨r.1,m⟩ i o;let⟨t,u⟩:=afP l m s (A:=A) (L:=L++[(vF d b c).1]) ⟨λn=>by have:=k.ok n;omega,k.j⟩
 (simp_all;omega)
 (simp;omega)
def NW{c:ar->aO×ar}(d:Em g P c){x:ar}(b:x.ok g)(e:Q g-x.w<P+1):u2 g (P+1) x (ny c g x).2:=(afP d b.2 e ⟨λ_=>⟨b.1,bz _⟩,by have:=b.1;omega⟩).1
def XC{b:X v}{d:Z}{c:ar->aO×ar}(k:Em b d c){f:ar}(l:Q b<=2000)(n:Q b-f.w<d+1):∀{A:Z}{L:X aO}{x:ar},u2 b (d+1) f x->u2 b (d+1) f (q5 c b A L x).2/\Q (q5 c b A L x).1<=Q L+A
|0,L,x,e=>⟨e,bz _⟩|A+1,L,x,e=>by
 rw[q5];split;rename_i g;let r:=e.ok g.1;let q:x.step.w=x.w+1:=p;let i:=NW k (x:=x.step) ⟨(lJ g.2).1,l⟩ o;let⟨s,t⟩:=XC k l n (A:=A) (L:=L++[(ny c b x.step).1]) ⟨λm=>by have:=i.ok m;omega,i.j⟩
 (simp_all;omega)
 (simp;omega)
def CF{S:X v}:∀c,Em S c (eJ S c)|0,f,_,_,b=>b9 b o|c+1,f,d,g,b=>by let e:=CF (S:=S) c;exact(XC e d.2 b<|NW e d b).1
def G0(d:X v)(e:Z):Prop:=∀b:ar,b.ok d->b.no=0->Q d-b.w<e->dF 165 [c 6000] [(6000,ag 255<|dr d b)] (c0 (eJ d e b).1) [(6000,ag 255<|dr d (eJ d e b).2)]
def alL(S:X v)(d:Z)(U:d<=10000)(G:G0 S d)(b:ar)(t:b.ok S)(m:b.no=0)(Y:Q S-b.w<d+1):dF 308 [c 6000] [(6000,ag 255 (dr S b))] (c0 (mS (eJ S d) S b).1) [(6000,ag 255 (dr S (mS (eJ S d) S b).2))]:=by
 refine dN func308 [39] λak I K=>?_;have q:=t.2;have L:=t.1;refine r9 ?_ (f:=UR S b t.ut);apply e<;>intro D
 .rw[show mS (eJ S d) S b=(.mk 0 [] 0 0 [],cv b b.w 6) by simp_all[mS,ae]];refine bI [(6000,6000)] ?_ (f:=su S b b.w 6);exact hQ 2 2 [1] (hQ 5 2 [4] (jd bq))
 have E:¬kT S b.w=ad:=by simpa using D
 have B:=DF (S:=S) (y:=b.w) ap;have k:b.step.ok S:=⟨B,q⟩;refine eg ?_;refine pX b.w ?_;apply e<;>intro C
 .have i:=G b.step k m (by have l:b.step.w=b.w+1:=p;omega);have x:=CF d b.step k m (by have l:b.step.w=b.w+1:=p;omega);rw[show mS (eJ S d) S b=((eJ S d b.step).1,(if c2 S (eJ S d b.step).2.w 41 then(eJ S d b.step).2 else cv (eJ S d b.step).2 (eJ S d b.step).2.w 6).step) by rw[mS,ab E,ae C]];refine e6 ((b.w+1:Z):J) ?_;refine bI [(6000,6000)] ?_ (f:=i);generalize eJ S d b.step=u at x⊢;let⟨l,g⟩:=u;have F:=x.j;dsimp only at F⊢;refine gf kc (λu=>⟨[(0,c 6000),(2,c 2),(4,c 4)],[(2,ag 164<|V.zero mz.z),(4,ag 164<|c0 l),(6000,ag 255<|dr S<|if c2 S g.w 41 then g else cv g g.w 6)],[]⟩) (λ_=>dW) ?_ λu fj=>?_
  .refine r9 ?_ (f:=rj S g 41 ⟨o,q⟩);apply e<;>intro N
   .refine bI [(6000,6000)] ?_ (f:=su S g g.w 6);rw[ab o];exact cA ()
   rw[ae ap];exact cA ()
  have A:(if c2 S g.w 41 then g else cv g g.w 6).w=g.w:=SI;generalize (if c2 S g.w 41 then g else cv g g.w 6)=H at A⊢;refine e6 ((H.w+1:Z):J) ?_;exact jd bq
 apply e<;>intro O
 .have i:=anE S b.step k m;rw[xU] at i;rw[show mS (eJ S d) S b=zg S b.step by simp_all[mS,ab,ae]];refine e6 ((b.w+1:Z):J) ?_;refine bI [(6000,6000)] ?_ (f:=i);exact jd bq
 apply e<;>intro P
 .rw[show mS (eJ S d) S b=(.mk 3 [(0,255)] 0 0 [],b.step) by simp_all[mS,ab,ae]];refine e6 ((b.w+1:Z):J) ?_;refine er ?_;exact hQ 5 2 [4] (jd bq)
 apply e<;>intro R
 .have n:=LZ (S:=S) (M:=cL) k gO;have i:=adG (kQ S cL b.step).s n.len;rw[xU] at i;rw[show mS (eJ S d) S b=(kh (kQ S cL b.step).s,(kQ S cL b.step).r) by simp_all[mS,ab,ae]];refine mC (b2 cL) ?_ (fj:=a3);refine e6 ((b.w+1:Z):J) ?_;refine ho ?_ (a7:=iJ gO);refine bI [(6000,6000)] ?_ (f:=agX S cL b.step ⟨by show b.w+1<=100000;omega,q⟩ gO);refine lh (b2 (kQ S cL b.step).s) ?_ (h1:=bC (ht) n.len) (fN:=jE);refine ho ?_ (a7:=iJ n.len);refine aS ?_ (f:=i);exact jd bq
 refine aS ?_ (f:=DB FT aR);apply e<;>intro T
 .rw[show mS (eJ S d) S b=(.mk 0 [] 0 0 [],cv b b.w 6) by simp_all[mS,ab,ae]];refine bI [(6000,6000)] ?_ (f:=su S b b.w 6);exact hQ 2 2 [1] (hQ 5 2 [4] (jd bq))
 rw[show mS (eJ S d) S b=(.mk 3 [((aG (z S b.w 0):J),(aG (z S b.w 0):J))] 0 0 [],b.step) by simp_all[mS,ab]];refine e6 ((b.w+1:Z):J) ?_;refine lg (aG (z S b.w 0):Z) ?_ (s8:=DX);refine lg (aG (z S b.w 0):Z) ?_ (s8:=DX);refine er ?_;exact hQ 5 2 [4] (jd bq)
def agR{c:aO}{b:ar}(d:¬b.no=0):n8 g P c b=(c,b):=by cases P with|zero=>rfl|succ P=>rw[n8,ab d]
structure W4(S:X v)(T:Z)(x pj:ar)(k:Z):Prop where
 lim:rZ S (T+1) x pj
 k:pj.no=0->Q S<pj.w+k
def av2(S:X v)(T:Z)(aC:T<=10000)(aJ:G0 S T)(d:ar)(E:d.ok S)(R:d.no=0)(al:Q S-d.w<T+1):dF 277 [c 6000] [(6000,ag 255 (dr S d))] (c0 (vF (eJ S T) S d).1) [(6000,ag 255 (dr S (vF (eJ S T) S d).2))]:=by
 refine dN func277 [2002] λa7 aV aW=>?_;have ao:=E.2;have aY:=E.1;have N:=XQ (CF (S:=S) T) E R al;refine bI [(6000,6000)] ?_ (f:=alL S T aC aJ d E R al);generalize C:vF (eJ S T) S d=G;unfold vF at C;generalize mS (eJ S T) S d=aU at N C⊢;let⟨⟨aL,aP,fG,ax,aM⟩,aN⟩:=aU;dsimp only at N C⊢;refine dv (aO×ar×Z×Y) (λg=>⟨[(0,c 6000),(2,c 2),(3,c 3)],[(2,ag 164<|V.zero mz.z),(3,ag 164<|bH [an aj g.1.bL,R3 g.2.2.2 .ba<|.a 2<|g.1.set.map hP,an aj g.1.min,an aj g.1.max,.a 5<|hN g.1.aD]),(6000,ag 255<|dr S g.2.1)],[]⟩) (λg=>W4 S T d g.2.1 g.2.2.1/\n8 S g.2.2.1 g.1 g.2.1=G/\(g.2.2.2=af->g.1.set=[])) (λg=>g.2.2.1) (.mk aL aP fG ax aM,aN,Q S+2,ad) (λ⟨⟨n,r,l,m,q⟩,b,k,eh⟩ ⟨⟨M,ak⟩,F,aK⟩=>?_) ⟨⟨N,λu=>a2⟩,C,λi=>by cases i⟩;dsimp only[aO.bL,aO.set,aO.min,aO.max,aO.aD] at M ak F aK⊢;have a3:=M.j;refine aZ.Z1 (λaw=>⟨[(0,c 6000),(2,c 2),(3,c 3)],[(2,ag 164<|V.zero mz.z),(3,ag 164<|bH [an aj n,aw,an aj l,an aj m,.a 5<|hN q]),(6000,ag 255<|dr S b)],[]⟩) 2 3 [1] (aa hP r) eh p (λi=>ap) ?_;refine dM ?_;apply e<;>intro x
 .have aE:=M.ok x;have a4:=ak x;have D:b.ok S:=⟨aE.1,ao⟩;have aB:n8 S k (.mk n r l m q) b=(if c2 S b.w 42 then n8 S (k-1) (.mk 6 [] 0 (-1) [.mk n r l m q]) b.step
    else if c2 S b.w 43 then n8 S (k-1) (.mk 6 [] 1 (-1) [.mk n r l m q]) b.step
    else if c2 S b.w 63 then n8 S (k-1) (.mk 6 [] 0 1 [.mk n r l m q]) b.step
    else if c2 S b.w 123 then n8 S (k-1) (.mk 6 [] (sB S b.step).1 (sB S b.step).2.1 [.mk n r l m q]) (sB S b.step).2.2
    else(.mk n r l m q,b)):=by obtain⟨au,rfl⟩:∃au,k=au+1:=⟨k-1,o⟩;rw[n8,ae x];rfl
  have t:∀{P:v},c2 S b.w P->rZ S (T+1) d b.step/\b.w<b.step.w:=λ{P} i=>by have:=(lJ i).1;have ay:b.step.w=b.w+1:=p;exact⟨⟨λ_=>o,o⟩,o⟩
  have B:∀(s:ar)(H:aO),rZ S (T+1) d s/\(s.no=0->b.w<s.w)->n8 S k (.mk n r l m q) b=n8 S (k-1) H s->W4 S T d s (k-1)/\n8 S (k-1) H s=G:=λs H az aA=>⟨⟨az.1,λu=>o⟩,aA▸F⟩;refine r9 ?_ (f:=rj S b 42 D.ut);apply e<;>intro I
  .have aF:rZ S (T+1) d b.step/\(b.step.no=0->b.w<b.step.w):=⟨(t I).1,λ_=>(t I).2⟩;refine e6 ((b.w+1:Z):J) ?_;refine er ?_;exact a0 (.mk 6 [] 0 (-1) [.mk n r l m q],b.step,k-1,af) (have i:=B b.step _ aF ap;⟨i.1,i.2,λ_=>p⟩) a2
  refine r9 ?_ (f:=rj S b 43 D.ut);apply e<;>intro K
  .have aG:rZ S (T+1) d b.step/\(b.step.no=0->b.w<b.step.w):=⟨(t K).1,λ_=>(t K).2⟩;refine e6 ((b.w+1:Z):J) ?_;refine er ?_;exact a0 (.mk 6 [] 1 (-1) [.mk n r l m q],b.step,k-1,af) (have i:=B b.step _ aG ap;⟨i.1,i.2,λ_=>p⟩) a2
  refine r9 ?_ (f:=rj S b 63 D.ut);apply e<;>intro L
  .have aH:rZ S (T+1) d b.step/\(b.step.no=0->b.w<b.step.w):=⟨(t L).1,λ_=>(t L).2⟩;refine e6 ((b.w+1:Z):J) ?_;refine er ?_;exact a0 (.mk 6 [] 0 1 [.mk n r l m q],b.step,k-1,af) (have i:=B b.step _ aH ap;⟨i.1,i.2,λ_=>p⟩) a2
  refine r9 ?_ (f:=rj S b 123 D.ut);apply e<;>intro U
  .have am:b.step.ok S:=⟨(lJ U).1,ao⟩;have y:=aiL (T:=T+1) am;refine e6 ((b.w+1:Z):J) ?_;refine bI [(6000,6000)] ?_ (f:=az3 S b.step am x);generalize a5:sB S b.step=aS at y⊢;let⟨aR,aQ,A⟩:=aS;have aI:rZ S (T+1) d A/\(A.no=0->b.w<A.w):=by have ay:b.step.w=b.w+1:=p;exact⟨⟨λu=>by have:=y.ok u;(simp_all;omega),y.j⟩,λu=>by have:=y.ok u;(simp_all;omega)⟩
   dsimp only at y⊢;refine er ?_;exact a0 (.mk 6 [] aR aQ [.mk n r l m q],A,k-1,af) (have i:=B A _ aI ap;⟨i.1,i.2,λ_=>p⟩) a2
  have O:G=(.mk n r l m q,b):=by rw[<-F,aB,ab I,ab K,ab L,ab U]
  rw[O];exact jd bq
 have O:G=(.mk n r l m q,b):=by rw[<-F,agR x]
 rw[O];exact jd bq
def afO{d:ar->aO×ar}{c:X aO}{b:ar}(e:¬BO g b):rD d g P c b=(c,b):=by cases P with|zero=>rfl|succ P=>rw[rD,ab e]
def XB{d:ar->aO×ar}{c:X aO}{b:ar}(e:¬(b.no=0/\c2 g b.w 124)):q5 d g P c b=(c,b):=by cases P with|zero=>rfl|succ P=>rw[q5,ab e]
def ZG(c:X aO)(b:aO):hN c++[c0 b]=hN (c++[b]):=by simp[CV,dn,xU]
def afQ(S:X v)(b:Z)(K:b<=10000)(N:G0 S b)(k:ar)(x:k.ok S)(T:k.no=0)(ao:Q S-k.w<b+1):dF 228 [c 6000] [(6000,ag 255 (dr S k))] (c0 (ny (eJ S b) S k).1) [(6000,ag 255 (dr S (ny (eJ S b) S k).2))]:=by
 refine dN func228 [] λaw R U=>?_;have u:=x.2;have Y:=x.1;generalize r:rD (eJ S b) S (Q S+1) [] k=O;refine aZ.eQ 3 5 164 [3] ah ?_;refine dv (X aO×ar×Z) (λd=>⟨[(0,c 6000),(2,c 2),(3,.aq 3 0<|Q<|hN d.1)],[(2,ag 164<|V.zero mz.z),(3,.h 5 164<|hN d.1),(6000,ag 255<|dr S d.2.1)],[]⟩) (λd=>u2 S (b+1) k d.2.1/\rD (eJ S b) S d.2.2 d.1 d.2.1=O/\(d.2.1.no=0->Q S<d.2.1.w+d.2.2)/\Q d.1+d.2.2<=Q S+1) (λd=>d.2.2) ([],k,Q S+1) (λ⟨g,i,n⟩ ⟨bQ,m,D,J⟩=>?_) ⟨⟨λ_=>⟨x.1,bz _⟩,a2⟩,r,λ_=>a2,av⟩;dsimp only at bQ m D J⊢;have au:=bQ.j;refine eg ?_;refine fk ?_;apply c9;intro ak;refine kz ?_ (f:=rj S i 124 ⟨o,u⟩);exact p;apply c9;intro al;refine kz ?_ (f:=rj S i 41 ⟨o,u⟩);exact p;apply e<;>intro A
 .have E:BO S i:=by have:=A;simp[gL] at this;exact⟨⟨⟨this.1.1.1,o⟩,this.1.2⟩,this.2⟩
  have s:=E.1.1.1;have M:=bQ.ok s;have F:i.ok S:=⟨M.1,u⟩;have am:=D s;have l:=afX (CF (S:=S) b) F s o;have y:rD (eJ S b) S n g i=rD (eJ S b) S (n-1) (g++[(vF (eJ S b) S i).1]) (vF (eJ S b) S i).2:=by obtain⟨G,rfl⟩:∃G,n=G+1:=⟨n-1,o⟩;rw[rD,ae E];rfl
  refine bI [(6000,6000)] ?_ (f:=av2 S b K N i F s o);generalize vF (eJ S b) S i=P at l y⊢;let⟨t,H⟩:=P;dsimp only at l y⊢;have I:u2 S (b+1) k H:=⟨λq=>by have:=l.ok q;omega,l.j⟩;refine er ?_;refine e7 (hN<|g++[t]) ?_ (aW:=ZG g t) (bQ:=PZ);exact a0 (g++[t],H,n-1) ⟨I,ap,λq=>by have:=l.ok q;(simp;omega),a2⟩ a2
 have L:¬BO S i:=λq=>A (by simp[gL];trivial);rw[afO L] at m;apply e<;>intro B
 .rw[iS] at B;rw[show ny (eJ S b) S k=(.mk 2 [] 0 0 [],i) by rw[ny,r,<-m,pm,ae<|show Q g=0 by omega]];exact hQ 2 2 [1] (hQ 5 2 [4] (jd bq))
 rw[iS] at B;apply e<;>intro C
 .rw[iS] at C;rw[show ny (eJ S b) S k=(z g 0 ai,i) by rw[ny,r,<-m,pm,ab<|show¬Q g=0 by omega,ae (show Q g=1 by omega)]<;>grind];refine cC 0 ?_ (a7:=a3) (j:=by grind[iS]);refine e9 (c0<|z g 0 ai) ?_ (j:=l5 o);exact jd bq
 rw[iS] at C;rw[show ny (eJ S b) S k=(.mk 4 [] 0 0 g,i) by rw[ny,r,<-m,pm,ab<|show¬Q g=0 by omega,ab (show¬Q g=1 by omega)]];exact ib 3<|hQ 2 2 [1] (jd bq)
def alw(S:X v)(b:Z)(E:b<=10000)(L:G0 S b)(k:ar)(q:k.ok S)(U:k.no=0)(F:Q S-k.w<b+1):dF 165 [c 6000] [(6000,ag 255 (dr S k))] (c0 (eJ S (b+1) k).1) [(6000,ag 255 (dr S (eJ S (b+1) k).2))]:=by
 refine dN func165 [] λaE ax ay=>?_;have K:=q.2;have az:=q.1;have G:=NW (CF (S:=S) b) q F;generalize l:eJ S (b+1) k=y;rw[eJ] at l;refine bI [(6000,6000)] ?_ (f:=afQ S b E L k q U F);generalize ny (eJ S b) S k=x at G l⊢;let⟨⟨N,T,fG,A,O⟩,P⟩:=x;generalize au:q5 (eJ S b) S (Q S+2) [.mk N T fG A O] P=aw at l;refine pW ?_;refine dv (X aO×ar×Z) (λg=>⟨[(0,c 6000),(2,c 2),(3,.aq 6 0<|Q<|hN g.1)],[(2,ag 164<|V.zero mz.z),(6,.h 5 164<|hN g.1),(6000,ag 255<|dr S g.2.1)],[]⟩) (λg=>u2 S (b+1) k g.2.1/\q5 (eJ S b) S g.2.2 g.1 g.2.1=aw/\(g.2.1.no=0->Q S<g.2.1.w+g.2.2)/\Q g.1+g.2.2<=Q S+3/\0<Q g.1) (λg=>g.2.2) ([.mk N T fG A O],P,Q S+2) (λ⟨i,d,n⟩ ⟨bQ,u,ak,am,al⟩=>?_) ⟨G,au,λ_=>a2,a2,av⟩;dsimp only at bQ u ak am al⊢;have aB:=bQ.j;apply c9;intro aA;refine kz ?_ (f:=rj S d 124 ⟨o,K⟩);exact p;apply e<;>intro C
 .have t:d.no=0/\c2 S d.w 124:=by simpa[gL] using C
  have H:=t.1;have aC:=bQ.ok H;have I:d.step.ok S:=⟨(lJ t.2).1,K⟩;have aD:d.step.w=d.w+1:=p;have m:=NW (CF (S:=S) b) I o;have B:q5 (eJ S b) S n i d=q5 (eJ S b) S (n-1) (i++[(ny (eJ S b) S d.step).1]) (ny (eJ S b) S d.step).2:=by obtain⟨M,rfl⟩:∃M,n=M+1:=⟨n-1,o⟩;rw[q5,ae t];rfl
  refine e6 ((d.w+1:Z):J) ?_;refine bI [(6000,6000)] ?_ (f:=afQ S b E L d.step I H o);generalize ny (eJ S b) S d.step=x at m B⊢;let⟨r,R⟩:=x;dsimp only at m B⊢;have Y:u2 S (b+1) k R:=⟨λs=>by have:=m.ok s;omega,m.j⟩;refine er ?_;refine e7 (hN<|i++[r]) ?_ (aW:=ZG i r) (bQ:=PZ);exact a0 (i++[r],R,n-1) ⟨Y,ap,λs=>by have:=m.ok s;(simp;omega),a2,av⟩ a2
 have ao:¬(d.no=0/\c2 S d.w 124):=by simpa[gL] using C
 rw[XB ao] at u;rw[<-u] at l;apply e<;>intro D
 .rw[iS] at D;rw[show y=(z i 0 ai,d) by rw[<-l,pm,ab<|show¬Q i=0 by omega,ae (show Q i=1 by omega)]<;>simp_all];refine cC 0 ?_ (a7:=a3) (j:=by grind[iS]);refine e9 (c0<|z i 0 ai) ?_ (j:=l5 o);exact jd bq
 rw[iS] at D;rw[show y=(.mk 5 [] 0 0 i,d) by rw[<-l,pm,ab<|show¬Q i=0 by omega,ab (show¬Q i=1 by omega)]];exact ib 6<|hQ 2 2 [1] (jd bq)
def XD(c:X v):∀b,b<=10000->G0 c b|0,_=>λe _ _ d=>b9 d o|b+1,d=>λe i f g=>alw c b o (XD c b o) e i f g
