import Derived.Test.YtpilnblkknjliaaGreatDoorF3
set_option linter.all false
set_option maxHeartbeats 8000000
set_option maxRecDepth 100000
open Array renaming size->bB
open Bool renaming false->ad,true->af
open Decidable renaming decide->aL
open Eq renaming symm->bG,trans->bC
open Go renaming Operand->aM,Program->ct,TypeId->aw
open Go.Exit renaming normal->gA
open Go.Fn renaming func->dp
open Go.IntKind renaming i64->aj
open Go.Lib renaming compareBytes->sN,trimLeftB->Co,trimRightB->GY
open Go.Op renaming bytesLess->gR,equalIn->pA
open Go.Proofs.Tryz renaming prog->b5
open Go.TypeDesc renaming slice->dP
open Go.ga.V renaming agg->bH,bool->a6,cells->kb,func->e4,int->an,str->bV,tuple->cs
open Go.ga.cj renaming cell->ag,map->h8
open Inhabited renaming default->ai
open Int renaming natAbs->g6,toNat->aB
open List renaming Nodup->eb,Pairwise->uR,Perm->hI,all->gu,contains->nb,drop->aU,flatMap->lv,getD->z,idxOf->iw,length->Q,lookup->cY,map->aa,range->bJ,replicate->cM,set->aK,take->ak,toArray->aT
open List.Pairwise renaming nil->Cp
open List.Perm renaming refl->uS
open Nat renaming beq->eU,cast->nK,gcd->jk,min->nL
open Option renaming none->ah,some->W
open Or renaming inl->bl,inr->bp
open UInt8 renaming ofNat->gk,toNat->aG,toNat_lt->nc
open _root_ renaming Bool->Y,DecidableEq->iu,Int->J,List->X,Nat->Z,True->dW,UInt8->v,absurd->b9,rfl->p,trivial->c1
open Go.Proofs Go.Proofs.Tryz
namespace Go.ga
variable{P:ct}{d:X (Z×V)}{i:Z}{ops:Array Oper}{l:Code}{m:db}{al:Exit->aI->Prop}{K:Oper}{M:aI}{t:ix}
def axC{b:bs->Z->bs×Z}(q:rX b)c f e d:(iD b (aB c) e d).1.dc<=(qI b c f e d).1.dc:=by unfold qI;split;obtain⟨g,j⟩:=Sp;obtain⟨i,_⟩:=q _ _;exact((g.trans i).trans<|qt _ _ _).dc;exact(Mh q _ _ _).1.dc
abbrev n2:X (Z×Z):=[(6000,6000),(5000,5000),(5001,5001),(5002,5002),(5003,5003)]
def axE(l:aO)(aP:e_ l)(aA:l.bL=6){d:bs->Z->bs×Z}(R:hh (z l.aD 0 ai)=d)(v:KF (z l.aD 0 ai))(T:bs)(w:X dT)(B:Z)(aI:ew w=T.aC)(j:wa T)(Y:B<Q T.aC)(s:(qI d l.min l.max T B).1.dc<=10000000):nM b5 hB 200 [c 6000,c0 l,k B] (cQ w) (nx w T) (λE:X dT=>ew E=(qI d l.min l.max T B).1.aC) (λ_=>k (qI d l.min l.max T B).2) cQ (λE=>nx E (qI d l.min l.max T B).1):=by
 refine nM.of_wp (t:=hV) [2007,2008,2009,2010,2014,2015] e1 bq gw ⟨func200,a3,p⟩ p p p λbU m aE a7=>?_;have bn:k1 b5 hV m hB _ [2007,2008,2009,2010,2014,2015]:=⟨e1,bq,aE,gw,a7⟩;obtain⟨⟨⟨bE,bF⟩,bI,aY,bJ,bK,bM⟩,bD⟩:=p0.1 aP;obtain⟨bh,bj,bk,bm⟩:=aY aA;have H:0<Q l.aD:=o;have q:rX d:=R▸Bi _;unfold KF at v;rw[R] at v;have bB:=axC q l.min l.max T B;obtain⟨hit,bC⟩:=Mg q (aB l.min) T B;refine dv (Z×X dT) (λn=>⟨[(0,c 6000),(2,k (iD d n.1 T B).2),(4,c 4),(11,an aj l.min),(12,k n.1)],(4,ag 164<|c0 l)::nx n.2 (iD d n.1 T B).1,cQ n.2⟩) (λn=>n.1<=aB l.min/\ew n.2=(iD d n.1 T B).1.aC) (λn=>aB l.min-n.1) (0,w) (λ⟨r,K⟩ ⟨aW,C⟩=>?_) ⟨dO _,aI⟩;dsimp only at aW C⊢;obtain⟨ak,al⟩:=Mg q r T B;apply e<;>intro bw
 .have aR:r<aB l.min:=o;have A:=arE q (show r+1<=aB l.min by omega) T B;rw[MA] at A;refine bi 0 (c0<|z l.aD 0 ai) ?_ (j:=l5 H) (a7:=a3);refine ke n2 cQ [] (λL x=>?_) (f:=v (iD d r T B).1 K (iD d r T B).2 C (ak.pg j) (al Y) o);rw[<-MA (ao:=d) r T B] at x⊢;refine bc ?_;exact a0 (r+1,L) ⟨o,x⟩ o
 obtain rfl:r=aB l.min:=o;rw[qI] at s⊢;generalize iD d (aB l.min) T B=az at*;obtain⟨b,g⟩:=az;dsimp only at*;have y:=ak.pg j;have aQ:=al Y;apply e<;>intro U
 .rw[ae U] at s⊢;dsimp only at s⊢;obtain⟨a2,bP⟩:=Sp (T:=b) (B:=g);obtain⟨a4,a5⟩:=q (mc b g)<|Q b.aC;have a8:=qt (d (mc b g)<|Q b.aC).1 (d (mc b g)<|Q b.aC).2<|Q b.aC;have au:=pb b;have a_:=pb b.bY;have bb:=qt b.bY.bY g<|Q b.aC;have be:=qt (b.bY.bY.dS g<|Q b.aC) (Q b.aC)<|Q b.aC+1;have u:(d (mc b g) (Q b.aC)).1.dc<=10000000:=dK a8.dc s;have bo:=a4.dc;have bv:(b.bY.bY.dS g (Q b.aC)).dc<=(mc b g).dc:=be.dc;have br:=au.dc;have bt:=a_.dc;have bu:=bb.dc;have ap:=wM b;have aZ:=wM b.bY;have bN:=B4 b.bY.bY g<|Q b.aC;refine ke n2 cQ [] (λL x=>?_) (f:=Bq C o y);refine ke n2 cQ [] (λM aJ=>?_) (f:=Bq x o<|au.pg y);rw[ap];refine n7 ⟨[(0,c 6000),(4,c 4),(7,k<|Q b.aC),(8,an aj ((Q b.aC+1:Z):J)),(2,k g)],(4,ag 164<|c0 l)::nx M b.bY.bY,cQ M⟩ ?_;refine dM ?_;refine ke n2 cQ [] (λbf aK=>?_) (f:=B3 aJ o g (Q b.aC) o);refine dM ?_;refine ke n2 cQ [] (λF aL=>?_) (f:=B3 aK o (Q b.aC) (Q b.aC+1) o);refine n7 ⟨[(0,c 6000),(4,c 4),(7,k<|Q b.aC),(8,an aj ((Q b.aC+1:Z):J))],(4,ag 164<|c0 l)::nx F (mc b g),cQ F⟩ ?_;refine dM ?_;refine bi 0 (c0<|z l.aD 0 ai) ?_ (j:=l5 H) (a7:=a3);refine ke n2 cQ [] (λbg aM=>?_) (f:=v (mc b g) F (Q b.aC) aL (a2.pg y) o u);refine ke n2 cQ [] (λG aN=>?_) (f:=B3 aM u _ (Q b.aC)<|a5 o);refine n7 ⟨[(0,c 6000),(4,c 4),(8,an aj ((Q b.aC+1:Z):J))],(4,ag 164<|c0 l)::nx G ((d (mc b g)<|Q b.aC).1.dS (d (mc b g)<|Q b.aC).2<|Q b.aC),cQ G⟩ ?_;refine dM ?_;exact rh G aN
 rw[ab U] at s⊢;refine jf ?_;refine dv (Z×X dT) (λn=>⟨[(0,c 6000),(2,k (e2 d n.1 b g).2),(4,c 4),(52,an aj<|l.max-l.min),(53,k n.1)],(4,ag 164<|c0 l)::nx n.2 (e2 d n.1 b g).1,cQ n.2⟩) (λn=>n.1<=aB (l.max-l.min)/\ew n.2=(e2 d n.1 b g).1.aC) (λn=>aB (l.max-l.min)-n.1) (0,K) (λ⟨i,ar⟩ ⟨aV,I⟩=>?_) ⟨dO _,C⟩;dsimp only at aV I⊢;obtain⟨aS,aU⟩:=Mh q i b g;apply e<;>intro bx
 .have aR:i<aB (l.max-l.min):=o;have A:=au8 q (show i+1<=aB (l.max-l.min) by omega) b g;rw[NO] at A;have aw:=pb (e2 d i b g).1;have ax:=qt (e2 d i b g).1.bY (e2 d i b g).2 (e2 d i b g).1.aC.length;obtain⟨sC,tp⟩:=q ((e2 d i b g).1.bY.dS (e2 d i b g).2 (e2 d i b g).1.aC.length) (e2 d i b g).2;have VX:=qt (d ((e2 d i b g).1.bY.dS (e2 d i b g).2 (e2 d i b g).1.aC.length) (e2 d i b g).2).1 (d ((e2 d i b g).1.bY.dS (e2 d i b g).2 (e2 d i b g).1.aC.length) (e2 d i b g).2).2 (e2 d i b g).1.aC.length;have am:=aS.pg y;have bA:=aU aQ;have ap:=wM (e2 d i b g).1;have aZ:=B4 (e2 d i b g).1.bY (e2 d i b g).2 (e2 d i b g).1.aC.length;have bQ:=aw.dc;have bS:=ax.dc;have bT:=sC.dc;have u:(d ((e2 d i b g).1.bY.dS (e2 d i b g).2 (e2 d i b g).1.aC.length) (e2 d i b g).2).1.dc<=10000000:=dK VX.dc<|dK A s;refine ke n2 cQ [] (λa9 aF=>?_) (f:=Bq I o am);refine dM ?_;refine ke n2 cQ [] (λD aG=>?_) (f:=B3 aF o (e2 d i b g).2 (e2 d i b g).1.aC.length o);refine n7 ⟨[(0,c 6000),(4,c 4),(9,k (e2 d i b g).1.aC.length),(2,k (e2 d i b g).2),(52,an aj<|l.max-l.min),(53,k i)],(4,ag 164<|c0 l)::nx D ((e2 d i b g).1.bY.dS (e2 d i b g).2 (e2 d i b g).1.aC.length),cQ D⟩ ?_;refine dM ?_;refine bi 0 (c0<|z l.aD 0 ai) ?_ (j:=l5 H) (a7:=a3);refine ke n2 cQ [] (λbd aH=>?_) (f:=v ((e2 d i b g).1.bY.dS (e2 d i b g).2 (e2 d i b g).1.aC.length) D (e2 d i b g).2 aG (ax.pg<|aw.pg am) o u);refine ke n2 cQ [] (λay S=>?_) (f:=B3 aH u _ (e2 d i b g).1.aC.length<|tp o);have N:((d ((e2 d i b g).1.bY.dS (e2 d i b g).2 (e2 d i b g).1.aC.length) (e2 d i b g).2).1.dS (d ((e2 d i b g).1.bY.dS (e2 d i b g).2 (e2 d i b g).1.aC.length) (e2 d i b g).2).2 (e2 d i b g).1.aC.length,(e2 d i b g).1.aC.length)=e2 d (i+1) b g:=bG<|NO _ _ _;have O:=ep Prod.fst N;have P:=ep Prod.snd N;dsimp only at O P;rw[O] at S⊢;rw[P];refine bc ?_;exact a0 (i+1,ay) ⟨o,S⟩ o
 obtain rfl:i=aB (l.max-l.min):=o;exact rh ar I
def P7:∀(c:X aO)(b:Z)(_:b<Q c)(e:bs)(d:Z),ms (ak (b+1) c) e d=hh (z c b ai) (ms (ak b c) e d).1 (ms (ak b c) e d).2|[],b,q,_,_=>by cases q|f::c,0,_,e,d=>by rfl|f::c,b+1,q,e,d=>by have:=P7 c b (WC q) (hh f e d).1 (hh f e d).2;trivial
def Qb:∀(d:X aO)(c:Z)(_:c<Q d)(f:bs)(b e:Z),mT (ak (c+1) d) f b e=(hh (z d c ai) (mT (ak c d) f b e) b).1.dS (hh (z d c ai) (mT (ak c d) f b e) b).2 e|[],c,q,_,_,_=>by cases q|g::d,0,_,f,b,e=>by rfl|g::d,c+1,q,f,b,e=>by have:=Qb d c (WC q) ((hh g f b).1.dS (hh g f b).2 e) b e;trivial
def akv(b:X aO){c A:Z}(i:c<=A)(j:A<=Q b)(f:bs)(d:Z):(ms (ak c b) f d).1.dc<=(ms (ak A b) f d).1.dc:=by induction A with|zero=>simp_all|succ A g=>rcases fF A c with e|e;grind;rw[P7 b A o];exact dK (g e o) (Bi _ _ _).1.dc
def akF(b:X aO){c A:Z}(j:c<=A)(k:A<=Q b)(f:bs)(d g:Z):(mT (ak c b) f d g).dc<=(mT (ak A b) f d g).dc:=by induction A with|zero=>simp_all|succ A i=>rcases fF A c with e|e;grind;rw[Qb b A o];exact dK (i e o)<|dK (Bi _ _ _).1.dc Nh
def X7(c:aO)(b:bs)(d:Z)(e:dG c≠0):hh c b d=if c.bL=3 then((b.bY.bY.dS d (Q b.aC)).w4 (Q b.aC) (Q b.aC+1) (ko c.set),Q b.aC+1) else if c.bL=4 then ms c.aD b d else if c.bL=5 then(mT c.aD b.bY d (Q b.aC),Q b.aC) else if c.bL=6 then zc c.aD c.min c.max b d else(b.bY.dS d (Q b.aC),Q b.aC):=by rw[QR,Lb,ab e]
theorem X6(c:aO)(b:bs)(d:Z)(e:dG c=0):hh c b d=((if o5 c then b.bY.dS d (Q b.aC) else b.bY),Q b.aC):=by rw[QR,Lb,ae e]
def an2{b:aO}(e:1<=b.bL)(f:b.bL<=6)(d:b.bL<4->b.aD=[])(c:dG b≠0):b.bL=3\/b.bL=4\/b.bL=5\/b.bL=6:=by have:b.bL=1\/b.bL=2\/b.bL=3\/b.bL=4\/b.bL=5\/b.bL=6:=o;rcases this with q|q|q;exfalso;apply c;rw[wm,ot,ab o,ab o,d o];rfl;exfalso;apply c;rw[wm,ot,ab o,ab o,d o];rfl;omega
def adH{d f:Type}{c:X d}{e:d->f}{b:Z}{I:d}(q:b<Q c):(aa e c)[b]?=W (e (z c b I)):=by simp_all
def N4(b:bs)(c:Z):bs:={b with dd:=aK b.dd c (Q b.aE:Z)}
def ayB{c:X (J×J)}{b:Z}(q:b<Q c):ko (ak (b+1) c)=(ko (ak b c)).add (aB (z c b ai).1) (aB (z c b ai).2):=by grind[List.take_succ_eq_append_getElem,ko,List.getElem?_eq_getElem]
theorem Jp{b:X (J×J)}:Q (ko b)=256:=by
 have:∀(b:X (J×J))(c:a1),Q c=256->Q (b.foldl (λ(e:a1) d=>e.add (aB d.1)<|aB d.2) c)=256:=by
  intro b
  induction b with|nil=>simp|cons d b f=>exactλc q=>f _ (by show Q (List.mapIdx _ c)=256;(simp;omega))
 exact this b _ a3
def al1(M:a1)(b:J×J)(d:Q M=256)(q:0<=b.1/\b.1<=b.2/\b.2<=255):dF 199 [c 6000,an aj b.1,an aj b.2] [(6000,ag 237 (b2 M))] (cs []) [(6000,ag 237 (b2 (M.add (aB b.1) (aB b.2))))]:=by have:=u_ M (aB b.1) (aB b.2) d o;grind[k,Int.toNat_of_nonneg]
def amd(b:aO)(G:e_ b)(U:∀x∈b.aD,KF x)(T:bs)(D:X dT)(d:Z)(E:ew D=T.aC)(j:wa T)(aw:d<Q T.aC)(n:(hh b T d).1.dc<=10000000):nM b5 hB 143 [c 6000,c0 b,k d] (cQ D) (nx D T) (λL:X dT=>ew L=(hh b T d).1.aC) (λ_=>k (hh b T d).2) cQ (λL=>nx L (hh b T d).1):=by
 refine nM.of_wp (t:=hV) [2003,2009,2010,2011,2017] e1 bq gw ⟨func143,a3,p⟩ p p p λbB m aB a7=>?_;have bb:k1 b5 hV m hB _ [2003,2009,2010,2011,2017]:=⟨e1,bq,aB,gw,a7⟩;obtain⟨⟨⟨aP,aQ⟩,aR,aU,bo,aV,bt⟩,bh⟩:=p0.1 G;obtain⟨aA,a_⟩:=Bi b T d;have O:T.dc<=10000000:=dK aA.dc n;have ay:=wM T;refine aS ?_ (f:=afM b G);apply e<;>intro be
 .have F:dG b=0:=o;rw[X6 b T d F] at n⊢;have Y:T.bY.dc<=10000000:=by dsimp only at n;split at n;grind[Nat.le_trans,Nh];exact n
  refine ke n2 cQ [] (λv r=>?_) (f:=Bq E O j);refine dM ?_;refine aS ?_ (f:=avW b G);apply e<;>intro ao
  .rw[ae ao] at n⊢;refine ke n2 cQ [] (λA B=>?_) (f:=B3 r Y d (Q T.aC) o);exact rh A B
  rw[ab ao] at n⊢;exact rh v r
 have F:dG b≠0:=o;have bj:=an2 aP aQ aR F;rw[X7 b T d F] at n⊢;apply e<;>intro ap
 .rw[ae ap] at n⊢;have aZ:=wM T.bY;have a4:=B4 T.bY.bY d<|Q T.aC;have a9:=(abm (T:=(T.bY.bY.dS d<|Q T.aC)) (y:=Q T.aC) (R:=(Q T.aC+1)) (M:=(ko b.set))).dc;have bv:=(qt T.bY.bY d<|Q T.aC).dc;have bw:=(pb T.bY).dc;have bx:=(pb T).dc;have aJ:(T.bY.bY.dS d (Q T.aC)).dc<=10000000:=dK a9 n;have bm:(T.bY.bY.dS d (Q T.aC)).dd.length=Q T.aC+2:=by have q:wa (T.bY.bY.dS d (Q T.aC)):=(qt T.bY.bY d<|Q T.aC).pg<|(pb T.bY).pg<|(pb T).pg j;unfold wa at q;rw[q,a4,aZ,ay]
  have bk:=(qt T.bY.bY d<|Q T.aC).pg<|(pb T.bY).pg<|(pb T).pg j;refine ke n2 cQ [] (λv r=>?_) (f:=Bq E O j);refine ke n2 cQ [] (λA B=>?_) (f:=Bq r o<|(pb T).pg j);rw[ay];refine n7 ⟨[(0,c 6000),(4,c 4),(2,k d),(8,k<|Q T.aC),(9,an aj ((Q T.aC+1:Z):J))],(4,ag 164<|c0 b)::nx A T.bY.bY,cQ A⟩ ?_;refine dM ?_;have P:=B3 B o d (Q T.aC) o;generalize T.bY.bY.dS d (Q T.aC)=i at*;refine ke n2 cQ [] (λw aG=>?_) (f:=P);refine n7 ⟨[(0,c 6000),(4,c 4),(2,k d),(8,k<|Q T.aC),(9,an aj ((Q T.aC+1:Z):J))],[(4,ag 164<|c0 b),(6000,ag 219<|IJ (Q w) (Q<|aa c7 i.dd) (Q<|aa k i.g7)<|Q<|aa b2 i.aE),(5000,.h 1 64<|aa gc w),(5001,.h 1 3<|aa c7 i.dd),(5002,.h 1 3<|aa k i.g7),(5003,.h 256 237<|aa b2 i.aE)],cQ w⟩ ?_;refine dM ?_;refine eS ?_;refine br (λ_=>cC (Q T.aC) p (j:=a2)) ?_;refine uJ (aa c7<|aK i.dd (Q T.aC) (Q i.aE:Z)) (c7<|z i.dd (Q T.aC) 0) (k<|Q<|aa b2 i.aE) ?_ (j:=adH o) (aW:=by rw[hW,bg];rfl);refine fZ ?_;rw[show Q (aa c7 i.dd)=Q ((N4 i (Q T.aC)).dd.map c7) by simp[N4,nJ]];refine dM ?_;refine mC (b2 cL) ?_ (fj:=a3);refine eC (Q b.set) (λg=>⟨[(0,c 6000),(9,an aj ((Q T.aC+1:Z):J)),(10,c 10),(54,.a 2<|aa hP b.set),(55,k<|Q<|aa hP b.set),(56,k g)],[(5000,.h 1 64<|aa gc w),(5001,.h 1 3<|(N4 i<|Q T.aC).dd.map c7),(5002,.h 1 3<|aa k i.g7),(5003,.h 256 237<|aa b2 i.aE),(10,ag 237<|b2<|ko<|ak g b.set),(6000,ag 219<|IJ (Q w) (Q<|(N4 i<|Q T.aC).dd.map c7) (Q<|aa k i.g7)<|Q<|aa b2 i.aE)],cQ w⟩) λg j=>?_;apply e<;>intro bf
  .have s:g<Q b.set:=o;have aN:=aV (z b.set g ai)<|cT s;refine bi g (hP<|z b.set g ai) ?_ (j:=adH s);refine bI [(6000,10)] ?_ (f:=al1 (ko<|ak g b.set) (z b.set g ai) Jp aN);rw[<-ayB s];refine bc ?_;exact a0<|g+1
  obtain rfl:g=Q b.set:=o;rw[g5];have bn:=ayK i;have bd:Q i.g7<=10000000:=dK al2 aJ;refine dM ?_;refine eS ?_;refine br (λ_=>ho p (a7:=by show Q (aa V.bool (ko b.set))=256;simp[Jp])) ?_;refine br (λ_=>lf p (hlen:=λI bA=>by rw[ea.1 bA];show(b2 (ko b.set)).cells.length=256;simp[ht,Jp])) ?_;refine lS 74 (aa b2<|i.aE++[ko b.set]) ?_ (aH:=a3) (hl:=.a p p p p λI bA=>by rw[ea.1 bA];show(b2 (ko b.set)).cells.length=256;simp[ht,Jp]) (aW:=tw) (bQ:=a2);refine br (λ_=>lf p) ?_;refine lS 81 (aa k<|i.g7++[Q T.aC+1]) ?_ (aW:=tw) (bQ:=a2);refine fx ?_;refine fx ?_;refine kU [(74,5003),(81,5002)] ?_;exact rh w aG
 rw[ab ap] at n⊢;apply e<;>intro ar
 .rw[ae ar] at n⊢;rw[show b.aD=ak (Q b.aD) b.aD from bG<|g5 ..] at n;refine dv (Z×X dT) (λl=>⟨[(0,c 6000),(2,k (ms (ak l.1 b.aD) T d).2),(90,.a 5<|hN b.aD),(91,k<|Q<|hN b.aD),(92,k l.1)],nx l.2 (ms (ak l.1 b.aD) T d).1,cQ l.2⟩) (λl=>l.1<=Q b.aD/\ew l.2=(ms (ak l.1 b.aD) T d).1.aC) (λl=>Q b.aD-l.1) (0,D) (λ⟨g,C⟩ ⟨S,u⟩=>?_) ⟨dO _,E⟩;dsimp only at S u⊢;obtain⟨H,aL⟩:=Sl (ak g b.aD) (λx _=>Bi x) T d;apply e<;>intro au
  .rw[iS] at au;have s:g<Q b.aD:=o;have aM:=akv b.aD (show g+1<=Q b.aD by omega) (bz _) T d;have K:=P7 b.aD g s T d;refine bi g (c0<|z b.aD g ai) ?_ (j:=l5 s);refine ke n2 cQ [] (λv r=>?_) (f:=U (z b.aD g ai) (cT s) (ms (ak g b.aD) T d).1 C (ms (ak g b.aD) T d).2 u (H.pg j) (aL aw) aY);rw[<-K] at r⊢;refine bc ?_;exact a0 (g+1,v) ⟨o,r⟩ o
  rw[iS] at au;obtain rfl:g=Q b.aD:=o;rw[g5] at u⊢;exact rh C u
 rw[ab ar] at n⊢;apply e<;>intro al
 .rw[ae al] at n⊢;dsimp only at n⊢;have Y:T.bY.dc<=10000000:=dK (Mk b.aD (λx _=>Bi x) T.bY d<|Q T.aC).dc n;refine ke n2 cQ [] (λaz aF=>?_) (f:=Bq E O j);rw[show b.aD=ak (Q b.aD) b.aD from bG<|g5 ..] at n;refine dv (Z×X dT) (λl=>⟨[(0,c 6000),(2,k d),(15,k<|Q T.aC),(107,.a 5<|hN b.aD),(108,k<|Q<|hN b.aD),(109,k l.1)],nx l.2<|mT (ak l.1 b.aD) T.bY d<|Q T.aC,cQ l.2⟩) (λl=>l.1<=Q b.aD/\ew l.2=(mT (ak l.1 b.aD) T.bY d<|Q T.aC).aC) (λl=>Q b.aD-l.1) (0,az) (λ⟨g,C⟩ ⟨S,u⟩=>?_) ⟨dO _,aF⟩;dsimp only at S u⊢;have H:=Mk (ak g b.aD) (λx _=>Bi x) T.bY d<|Q T.aC;apply e<;>intro am
  .rw[iS] at am;have s:g<Q b.aD:=o;have aM:=akF b.aD (show g+1<=Q b.aD by omega) (bz _) T.bY d<|Q T.aC;have K:=Qb b.aD g s T.bY d<|Q T.aC;have P:=Nh (T:=(hh (z b.aD g ai) (mT (ak g b.aD) T.bY d<|Q T.aC) d).1) (y:=(hh (z b.aD g ai) (mT (ak g b.aD) T.bY d<|Q T.aC) d).2) (R:=Q T.aC);rw[<-K] at P;obtain⟨bu,a8⟩:=Bi (z b.aD g ai) (mT (ak g b.aD) T.bY d<|Q T.aC) d;have ax:=H.len;refine bi g (c0<|z b.aD g ai) ?_ (j:=l5 s);refine ke n2 cQ [] (λv r=>?_) (f:=U (z b.aD g ai) (cT s) (mT (ak g b.aD) T.bY d<|Q T.aC) C d u (H.pg<|(pb T).pg j) o o);refine ke n2 cQ [] (λA B=>?_) (f:=B3 r o _ (Q T.aC)<|a8 o);rw[<-K] at B⊢;refine bc ?_;exact a0 (g+1,A) ⟨o,B⟩ o
  rw[iS] at am;obtain rfl:g=Q b.aD:=o;rw[g5] at u⊢;exact rh C u
 have N:b.bL=6:=o;obtain⟨a5,_⟩:=aU N;have ax:0<Q b.aD:=o;have aI:zc b.aD b.min b.max T d=qI (hh (z b.aD 0 ai)) b.min b.max T d:=by rw[Fp a5,zc];rfl
 rw[ab al,ae N,aI] at n⊢;refine ke n2 cQ [] (λv r=>?_) (f:=axE b G N p (U _<|cT ax) T D d E j aw n);exact rh v r
def rm(b:bd)(l d:Z):X v:=(bJ<|Q b.aE).map λc=>if c<d/\jN (z b.aE c []) (l:J) then 1 else 0
theorem acJ(b:bd)(l c:Z):Q (rm b l c)=Q b.aE:=by rw[rm,bg,i1]
def aso(b:bd)(l:Z):rm b l 0=cM (Q b.aE) 0:=by refine jI λc=>?_;unfold rm<;>grind
def asl(b:bd)(l:Z):rm b l (Q b.aE)=gC b l:=by refine jI λc=>?_;unfold rm gC<;>grind
def asn(b:bd)(l:Z){c:Z}(d:¬jN (z b.aE c []) (l:J)):rm b l c=rm b l (c+1):=by unfold rm<;>grind
def asm(b:bd)(l d:Z){c:Z}(q:c<Q b.aE):∃e,(aa bR (rm b l d))[c]?=W (bR e):=by refine⟨(rm b l d)[c]'(by grind[acJ]),?_⟩;grind
def q2(c:bd):Prop:=∀M∈c.aE,∀b∈M,0<=b.1/\b.1<=b.2/\b.2<=255
def ahy{d:bs}{b:bd}(e:d.aE=aa ko b.aE){c:Z}(q:c<Q b.aE):(aa b2 d.aE)[c]?=W (b2 (ko (z b.aE c []))):=by simp_all
def ahx{b:bd}(e:q2 b){c l:Z}(q:c<Q b.aE)(d:l<256):(kb (b2 (ko (z b.aE c []))))[l]?=W (a6 (jN (z b.aE c []) (l:J))):=by rw[CU _ (by grind[Jp]),ayA _ (e _ ap) l d]
def ash(f:bs)(b:bd)(i:f.aE=aa ko b.aE)(t:q2 b)(v:Q b.aE<=2000)(l:Z)(kC:l<256):dF 146 [k l,c 6001] [(6001,ag 216 (c 6002)),(6002,ag 219 (ue f))] (bV (gC b l)) [(6001,ag 216 (c 6002)),(6002,ag 219 (ue f))]:=by
 refine dN func146 [] λD m w=>?_;let A:Q f.aE=Q b.aE:=by rw[i,bg]
 let y:Q (gC b l)=Q b.aE:=by rw[gC,bg]
 let n:Q (aa b2 f.aE)=Q b.aE:=by rw[i,bg,bg]
 refine kF (Q b.aE) (Q b.aE) (aa bR<|rm b l 0) ?_ (j:=ep nK n) (j1:=ep nK n) (aW:=by rw[aso,Ea];rfl);refine eC (Q b.aE) (λd=>⟨[(0,k l),(1,c 6001),(4,.aq 11 0<|Q b.aE),(16,k<|Q<|aa b2 f.aE),(17,k d)],[(11,.h 1 5<|aa bR<|rm b l d),(6001,ag 216<|c 6002),(6002,ag 219<|ue f)],[]⟩) λd j=>?_;apply e<;>intro x
 .let g:d<Q b.aE:=o;let⟨u,q⟩:=asm b l d g;let r:=ahx t g kC;refine bi d (b2<|ko<|z b.aE d []) (j:=ahy i g)<|FE (tR:=l) (cr:=l) ?_ (kC:=by show 0+l*1=l;omega);refine IC (a6<|jN (z b.aE d []) (l:J)) ?_ r;apply e<;>intro s
  .refine cC d ?_ (j:=o);refine gN (aa bR<|rm b l<|d+1) (bR u) (an .u8 1) (j:=q) (aW:=(by rw[show V.int .u8 1=bR 1 from p,<-hW];refine jI λC=>?_;unfold rm<;>grind))<|bc<|a0<|d+1
  rw[asn b l s];exact bc<|a0<|d+1
 obtain rfl:d=Q b.aE:=o;let B:Q (aa bR<|rm b l<|Q b.aE)=Q b.aE:=by rw[bg,acJ]
 exact zP (gC b l) (hlen:=o) (bS:=by rw[sG,rQ o,asl])<|cE
section
attribute [local semireducible] gY gU
def hD(d:X Z)(b c l:V):V:=.vec 256 (.ints aj<|d.map λe=>((e:Z):J)) [b,c,l]
theorem Y8{b:X Z}(q:Q b=256)(c d l:V):(hD b c d l).cells.length=259:=by
 show Q (aa _ (aa _ b)++[c,d,l])=259
 (simp;omega)
def aoJ{b:X Z}(q:Q b=256){c:Z}(f:c<256)(d e l:V):(kb (hD b d e l))[c]?=W (k (z b c 0)):=by show(aa _ (aa _ b)++[d,e,l])[c]?=_;rw[tt a2,c4,c4,dm,cm o];rfl
def l3{b:X Z}(q:Q b=256)(c d l:V)(A:Z):(kb (hD b c d l))[256+A]?=([c,d,l]:X V)[A]?:=gl.aqx (by show Q (aa _ (aa _ b))=256;(simp;omega))
theorem Hy{b:X Z}(q:Q b=256){c f:Z}(g:c<256)(d e l:V):(hD b d e l).cells.set c (k f)=kb (hD (aK b c f) d e l):=by show aK (aa _ (aa _ b)++[d,e,l]) c _=aa _ (aa _ (aK b c f))++[d,e,l];rw[ajY _ _ a2,hW,hW];rfl
def AX{b:X Z}(q:Q b=256)(d e l c:V)(A:Z):(hD b d e l).cells.set (256+A) c=(gl.ints aj (b.map λc=>((c:Z):J))).cells++aK ([d,e,l]:X V) A c:=gl.ayI (by show Q (aa _ (aa _ b))=256;(simp;omega))
def Ft(b:X v):V:=bV b
def MS:q0 (λ_=>dW) Ft:=q0.str λ_ _ _ _ q=>q
def MT{c:Z->V}(b:X (X v)):n1 .string (fO Ft c b):=S8 λ_ _=>p
section
variable{GD:Type} [iu GD](key:Z->GD)
theorem YK{l:Z}(e:l<256)(q:key l∉gU key l):k6 key l=Q (gY key l)/\gY key (l+1)=gY key l++[l]/\gU key (l+1)=gU key l++[key l]:=by
 let b:gU key (l+1)=gU key l++[key l]:=by rw[MU,note,ab q]
 refine⟨?_,by rw[gY,ab q],b⟩;let hm:key l∈gU key (l+1):=Tj key o;unfold k6;rw[zE (acL key<|show l+1<=256 by omega) hm];let c:=acK key<|l+1;rw[b] at c⊢;let d:Q (gU key l)<Q (gU key l++[key l]):=av;have:=Dh c d;grind[Il]
theorem YL{l:Z}(b:l<256)(q:key l∈gU key l):hn (gU key l) (key l)=k6 key l/\gY key (l+1)=gY key l/\gU key (l+1)=gU key l:=by refine⟨?_,by rw[gY,ae q],by rw[MU,note,ae q]⟩;grind[k6,zE,acL]
end
def anG(i:bs)(s:bd)(z:i.aE=aa ko s.aE)(y:q2 s)(w:Q s.aE<=2000):dF 145 [c 6000,e4 (dp 146) [] [c 6001]] [(6000,ag 234 (hD (cM 256 0) .ba .ba .ba)),(6001,ag 216 (c 6002)),(6002,ag 219 (ue i))] (cs []) [(6000,ag 234 (hD (l2 s) (.a 1 (aa k (ds s))) .ba .ba)),(6001,ag 216 (c 6002)),(6002,ag 219 (ue i))]:=by
 refine dN func145 [2001] λE m A=>?_;refine aZ.u6 1400 1 3 6000 0 ?_;refine dM ?_;refine eC 256 (λl=>⟨[(0,c 6000),(1,e4 (dp 146) [] [c 6001]),(4,.eW 9),(10,k l)],[(1400,.h 1 3<|aa k<|gY (gC s) l),(6000,ag 234<|hD (ii (k6<|gC s) 256 l) (.aq 1400 0<|Q<|aa k<|gY (gC s) l) .ba .ba),(6001,ag 216<|c 6002),(6002,ag 219<|ue i),(9,h8 (fO Ft (λg=>k<|id g)<|gU (gC s) l)<|Q<|gU (gC s) l)],[]⟩) λl B=>?_;apply e<;>intro C
 .let b:l<256:=o;let d:=OD (k6<|gC s) 256 l;let D:=E_ (gC s) l;refine bI [(6001,6001),(6002,6002)] ?_ (f:=ash i s z y w l b);refine ul (cs [k (mY id (gU (gC s) l)<|gC s l),a6<|wT (gU (gC s) l)<|gC s l]) ?_ (MT _) (eM:=Ir (H:=λ_=>dW) (s:=id) (nh:=gU (gC s) l) (U:=gC s l) MS c1 (λ_ _=>c1) p);apply e<;>intro x
  .let v:gC s l∉gU (gC s) l:=λq=>by grind[te,b9]
   let⟨n,r,t⟩:=YK (gC s) b v;let j:Q (aa k<|gY (gC s) l)=k6 (gC s) l:=by rw[bg,n]
   refine io (.aq 1400 0<|Q<|aa k<|gY (gC s) l) ?_ (eM:=l3 d _ _ _ 0);refine zQ (fO Ft (λg=>k<|id g)<|gU (gC s)<|l+1) (Q<|gU (gC s)<|l+1) ?_ (MT _) (hu:=by rw[t,bg,<-Il];exact Ih (H:=λ_=>dW) (vM:=λg=>k<|id g) MS c1 (λ_ _=>c1) v);refine io (.aq 1400 0<|Q<|aa k<|gY (gC s) l) ?_ (eM:=l3 d _ _ _ 0);refine er ?_;refine e7 (aa k<|gY (gC s)<|l+1) ?_ (aW:=by rw[r,dn];rfl) (bQ:=oU);refine tf (hD (ii (k6<|gC s) 256 l) (.aq 1400 0<|Q<|aa k<|gY (gC s)<|l+1) .ba .ba) ?_ (lI:=Au) (aW:=AX d _ _ _ _ 0);refine hE l l ?_ (jr:=by show l=0+l*1;omega);refine tf (hD (ii (k6<|gC s) 256<|l+1) (.aq 1400 0<|Q<|aa k<|gY (gC s)<|l+1) .ba .ba) ?_ (lI:=Au) (aW:=by first|(rw[j,<-Jk _ b];exact Hy d b _ _ _)|(exact Hy d b _ _ _));refine bc ?_;exact a0<|l+1
  let u:gC s l∈gU (gC s) l:=te.1<|GF.1 x;let⟨n,r,t⟩:=YL (gC s) b u;let j:mY id (gU (gC s) l) (gC s l)=k6 (gC s) l:=by rw[Fo u];exact n
  rw[j,<-r,<-t];refine hE l l ?_ (jr:=by show l=0+l*1;omega);refine tf (hD (ii (k6<|gC s) 256<|l+1) (.aq 1400 0<|Q<|aa k<|gY (gC s)<|l+1) .ba .ba) ?_ (lI:=Au) (aW:=by grind[Jk,Hy]);refine bc ?_;exact a0<|l+1
 obtain rfl:l=256:=o;rw[OC];exact ib 1400 cE
end
def iA(c:X Z)(b d:Z):Y:=aL<|((z c d 0:Z):J)=((b:Z):J)
def zu(d:X Z)(b:Z)(c:X Z):J:=if c.any (iA d b) then((c.findIdx (iA d b):Z):J) else-1
def js(e:X Z)(b:Z)(d:X Z)(c:Z):X Z:=(ak c d).filter λf=>!iA e b f
theorem Th{e:X Z}{d:Z}{c:X Z}{b:Z}(q:b<Q c):js e d c (b+1)=js e d c b++(if iA e d (z c b 0) then[] else[z c b 0]):=by unfold js;grind[pq,iA,List.filter_cons_of_pos,List.filter_cons_of_neg]
def ad4{m c:X Z}{b:Z}(q:Q m<=b):(m++aU (Q m) c)[b]?=c[b]?:=by grind
def atK{m b:X Z}{c:Z}(q:Q m<Q b):aK (m++aU (Q m) b) (Q m) c=m++[c]++aU (Q (m++[c])) b:=by rw[An _ _ o,oT,pt q,GM,fJ,cX];rfl
def atJ{m b:X Z}(q:Q m<=Q b):Q (m++aU (Q m) b)=Q b:=ap
theorem Za(b:X Z)(e:X V)(f d:Z)(i:d<Q b):dF 303 [k d,c 6000,c 6001] [(6000,ag 286 (c 6002)),(6001,ag 3 (k f)),(6002,ag 289 (bH [.aq 6003 0 (Q b),.aq 6004 0 (Q e)])),(6003,.h 1 3 (aa k b)),(6004,.h 1 64 e)] (a6 (iA b f d)) [(6000,ag 286 (c 6002)),(6001,ag 3 (k f)),(6002,ag 289 (bH [.aq 6003 0 (Q b),.aq 6004 0 (Q e)])),(6003,.h 1 3 (aa k b)),(6004,.h 1 64 e)]:=by refine dN func303 [] λl m g=>?_;refine eg<|cC d ?_;refine e9 (k<|z b d 0) ?_ (j:=ap);exact cE
theorem ark(d:X Z)(r:X V)(g:Z)(b:X Z)(t:Z)(F:t=Q b)(D:∀w∈b,w<Q d)(E:Q b<=100000):dF 153 [.aq 6005 0 t,e4 (dp 303) [] [c 6000,c 6001]] [(6000,ag 286 (c 6002)),(6001,ag 3 (k g)),(6002,ag 289 (bH [.aq 6003 0 (Q d),.aq 6004 0 (Q r)])),(6003,.h 1 3 (aa k d)),(6004,.h 1 64 r),(6005,.h 1 3 (aa k b))] (an aj (zu d g b)) [(6000,ag 286 (c 6002)),(6001,ag 3 (k g)),(6002,ag 289 (bH [.aq 6003 0 (Q d),.aq 6004 0 (Q r)])),(6003,.h 1 3 (aa k d)),(6004,.h 1 64 r),(6005,.h 1 3 (aa k b))]:=by
 refine dN func153 [] λG m B=>?_;refine i0 (Q b) (λi=>∀n,n<i->iA d g (z b n 0)=ad) (λi=>⟨[(0,.aq 6005 0 t),(1,e4 (dp 303) [] [c 6000,c 6001]),(7,k t),(8,k i)],[(6003,.h 1 3<|aa k d),(6004,.h 1 64 r),(6005,.h 1 3<|aa k b),(6000,ag 286<|c 6002),(6001,ag 3<|k g),(6002,ag 289<|bH [.aq 6003 0 (Q d),.aq 6004 0<|Q r])],[]⟩) (λi j=>?_) λn s=>b9 s<|vY n;apply e<;>intro C
 .let v:i<Q b:=o;refine cC i ?_ (j:=o);refine e9 (k<|z b i 0) (j:=eN v)<|bI [(6000,6000),(6001,6001),(6002,6002),(6003,6003),(6004,6004)] ?_ (f:=Za d r g (z b i 0) ap);apply e<;>intro x
  .let y:b.findIdx (iA d g)=i:=by refine(List.findIdx_eq v).2 ⟨?_,λn s=>?_⟩;simp_all;grind
   let u:b.any (iA d g):=uL.2 ⟨_,cT (I:=0) v,x⟩;rw[show zu d g b=((i:Z):J) by rw[zu,ae u,y]];exact cE
  exact bc<|a0 (i+1) ⟨o,λn s=>by grind⟩
 let u:¬b.any (iA d g):=λl=>by let⟨w,A,q⟩:=uL.1 l;obtain⟨n,s,rfl⟩:=ajR A<;>grind
 rw[show zu d g b=-1 by rw[zu,ab u]];exact cE
theorem aoQ(d:X Z)(s:X V)(g:Z)(b:X Z){w:Z}(C:w=Q b)(B:∀n∈b,n<Q d)(L:Q b<=100000):dF 302 [.aq 6005 0 w,e4 (dp 303) [] [c 6000,c 6001]] [(6000,ag 286 (c 6002)),(6001,ag 3 (k g)),(6002,ag 289 (bH [.aq 6003 0 (Q d),.aq 6004 0 (Q s)])),(6003,.h 1 3 (aa k d)),(6004,.h 1 64 s),(6005,.h 1 3 (aa k b))] (.aq 6005 0 (Q (b.filter λn=>!iA d g n))) [(6000,ag 286 (c 6002)),(6001,ag 3 (k g)),(6002,ag 289 (bH [.aq 6003 0 (Q d),.aq 6004 0<|Q s])),(6003,.h 1 3 (aa k d)),(6004,.h 1 64 s),(6005,.h 1 3 (aa k<|b.filter λn=>!iA d g n))]:=by
 refine dN func302 [] λar m S=>?_;refine bI [(6000,6000),(6001,6001),(6002,6002),(6003,6003),(6004,6004),(6005,6005)] ?_ (f:=ark d s g b w C B L);apply e<;>intro F
 .have Y:¬b.any (iA d g):=λl=>by simp_all[zu,ae]
  have t:(b.filter λn=>!iA d g n)=b:=Wn.2 λn E=>by simp_all
  rw[t,<-C];exact cE
 have N:b.any (iA d g):=oP λl=>F (by rw[zu,ab l]);have t:=List.findIdx_lt_length_of_exists (p:=iA d g) (xs:=b) ap;have y:js d g b (b.findIdx (iA d g))=ak (b.findIdx (iA d g)) b:=Wn.2 λn E=>by obtain⟨i,U,rfl⟩:=ajR E<;>grind
 have A:js d g b (b.findIdx (iA d g)+1)=ak (b.findIdx (iA d g)) b:=by rw[Th t,y,ae,ff];rw[dm,cm t];exact List.findIdx_getElem
 rw[show zu d g b=((b.findIdx (iA d g):Z):J) by rw[zu,ae N]];generalize b.findIdx (iA d g)=u at t y A⊢;have I:Q (js d g b (u+1))=u:=by rw[A,mK];omega
 refine e6 ((u+1:Z):J) ?_;refine dv (Z×Z×X V) (λr=>⟨[(0,.aq 6005 0 w),(1,e4 (dp 303) [] [c 6000,c 6001]),(5,k r.2.1),(6,k r.1)],[(6003,.h 1 3<|aa k d),(6004,.h 1 64 s),(6005,.h 1 3 r.2.2),(6000,ag 286<|c 6002),(6001,ag 3<|k g),(6002,ag 289<|bH [.aq 6003 0 (Q d),.aq 6004 0<|Q s])],[]⟩) (λr=>r.1<=Q b/\r.2.1=Q (js d g b r.1)/\r.2.2=aa k (js d g b r.1++aU (Q<|js d g b r.1) b)/\Q (js d g b r.1)<r.1) (λr=>Q b-r.1) (u+1,u,aa k b) (λ⟨i,am,ao⟩ aH=>?_) ⟨t,bG I,ap,a2⟩;dsimp only at aH⊢;obtain⟨al,rfl,rfl,O⟩:=aH;have M:Q (aa k (js d g b i++aU (Q (js d g b i)) b))=Q b:=by rw[bg,atJ o]
 apply e<;>intro T
 .have v:i<Q b:=o;have H:(aa k (js d g b i++aU (Q (js d g b i)) b))[i]?=W (k (z b i 0)):=by rw[c4,ad4 o,dm,cm v];rfl
  have G:∃R,(aa k (js d g b i++aU (Q (js d g b i)) b))[(Q (js d g b i))]?=W (k R):=by refine⟨z b (Q<|js d g b i) 0,?_⟩;rw[c4,ad4<|bz _,dm,cm o];rfl
  let⟨P,q⟩:=G;refine cC i ?_ (j:=o);refine e9 (k<|z b i 0) ?_ (j:=H);refine bI [(6000,6000),(6001,6001),(6002,6002),(6003,6003),(6004,6004)] ?_ (f:=Za d s g (z b i 0)<|B _<|cT v);apply e<;>intro x
  .have D:js d g b (i+1)=js d g b i++[z b i 0]:=by rw[Th v,ab];simpa using x
   refine cC (Q<|js d g b i) ?_ (j:=o);refine gN (aa k<|js d g b (i+1)++aU (Q<|js d g b<|i+1) b) (k P) (k<|z b i 0) ?_ (j:=q) (aW:=by rw[D,<-atK o,hW]);refine e6 ((Q (js d g b i)+1:Z):J) ?_;refine bc ?_;exact a0 (i+1,Q (js d g b i)+1,aa k<|js d g b (i+1)++aU (Q<|js d g b<|i+1) b) ⟨o,ap,p,ap⟩ o
  have D:js d g b (i+1)=js d g b i:=by rw[Th v,ae,ff];simpa using x
  refine bc ?_;exact a0 (i+1,Q<|js d g b i,aa k<|js d g b i++aU (Q<|js d g b i) b) ⟨o,ap,ap,aY⟩ o
 obtain rfl:i=Q b:=o;have K:js d g b (Q b)=b.filter λn=>!iA d g n:=by unfold js;rw[g5]
 rw[K] at O M⊢;refine BD (Q<|b.filter λn=>!iA d g n) (Q b) (Q<|b.filter λn=>!iA d g n) (Q b-Q (b.filter λn=>!iA d g n)) ?_;refine aek (aa k<|b.filter λn=>!iA d g n) ?_ (aW:=av);refine BD 0 (Q<|b.filter λn=>!iA d g n) 0 (Q<|b.filter λn=>!iA d g n) ?_;exact cE
def dZ(b:dT):V:=.bO b.id b.aP 0<|Q<|aa k b.l
def vB(b:dT):Z×cD:=(b.id,.h b.aP 1 3<|aa k b.l)
def dJ(b:X dT):b0:=aa vB b
def apa:Ew dZ (λb:dT=>.a 1<|aa k b.l) (λb=>[vB b]):=λb=>bp ⟨b.id,b.aP,1,3,aa k b.l,p,p,p⟩
def ats(b:X dT):lv (λc=>[vB c]) b=dJ b:=by
 unfold dJ
 induction b with|nil=>rfl|cons c b d=>(simp;omega)
def TI(b c:X dT):dJ (b++c)=dJ b++dJ c:=dn
def Iu{b:X dT}{c:Z}(q:c<Q b):vB (z b c ai)∈dJ b:=cV.2 ⟨_,cT q,p⟩
def LO{b:X dT}{c:Z}(q:c<Q b):(aa dZ b)[c]?=W (dZ (z b c ai)):=by simp_all
theorem zF{b:X dT}{c:Z}(q:c<Q b):z (ew b) c []=(z b c ai).l:=by grind[ew,List.getElem?_eq_getElem]
def Dm(b:X dT):Q (ew b)=Q b:=bg ..
section
variable{A:V->Prop}
def aen{r w j:aw}{e:cP}{s:aM}{c f I n v:Z}{u:X V}(B:A (k n))(C:(c,cD.h f v j u)∈M.g)(D:K.op=.call {callee:=.builtin .len,args:=#[s],argTypes:=#[r]}:=by rfl)(G:t.find r=W e:=by rfl)(bA:e.d=dP w:=by rfl)(F:e.O=ad:=by rfl)(H:val d M.b s=W (.bO c f I n):=by rfl):ez P t m d ad K M A:=.oJ (λz x y i=>by
 let ch:=(z.find G).hb F;rw[bA] at ch;let⟨q,l⟩:=ob.1 C;let E:(M.ay i).g[q]?=W (c,cD.h f v j u):=by show(M.g++aX i _)[q]?=_;rw[tt (e3.1 l).1];exact l
 exact UV ch D (ji x y H rS i) E) B
end
section
variable{ft:aI}
def aZ.Sr(ft:aI)(q:∀c,fh P m l (M.ay c) (λe O=>e=gA/\(∀f j,(ft.ay c).b.lookup f=W j->cY f O.b=W j)/\hI O.g (ft.ay c).g))(x:al gA ft):aZ P m i l M al:=⟨λc z u r y n v=>by refine Code.wp_mono ?_<|q c r y n v;rintro e A C ⟨B,k,⟨rfl,s,t⟩,w⟩;let d:=w.Ae s;exact⟨_,k,u c _ _ (dg.refl i c) x,⟨d.dt.perm t.symm,d.b,d.hv,d.size,d.defers⟩⟩⟩
theorem aZ.ZA(d:b0)(x:∀w∈d,w∈M.g)(v:∃e,hI (d++e) M.g)(q:aZ P m i l {M with g:=d} al):aZ P m i l M al:=⟨λk n t r j f c=>by let⟨e,u⟩:=v;refine q.run k n t r j f ⟨?_,c.b,c.hv,c.size,c.defers⟩;let s:Holds m f (d++aX k M.au++e) j:=c.dt.perm (by refine List.Perm.trans ?_<|GG _ u;simp[D8,vW]);exact s.drop<|Wy _ _⟩
end
def tr(d:Z)(A b:V):X (V×V×Z)->X (V×V×Z)|[]=>[(A,b,d)]|c::e=>if A.sg c.1 then(A,b,c.2.2)::e else c::tr d A b e
def AZ(A:V):X (V×V×Z)->X (V×V×Z)|[]=>[]|c::b=>if A.sg c.1 then b else c::AZ A b
def pa(A:V):X (V×V×Z)->Option V|[]=>ah|b::c=>if A.sg b.1 then W b.2.1 else pa A c
def Nb(A:V):∀(c:X (V×V×Z))(b:Z),nv c A (b+1)=(nv c A b).map λd=>(d.1+1,d.2)|[],b=>p|e::c,b=>by rw[nv,nv];split;rfl;exact Nb A c _
def TR(A:V):∀b:X (V×V×Z),Dt b A=pa A b|[]=>p|d::b=>by let c:=TR A b;unfold Dt at c⊢;rw[nv,pa];split;rfl;rw[Nb,<-c];cases nv b A 0<;>rfl
def Ni(c:Z)(A d:V):∀b:X (V×V×Z),(lM b c A d).1=tr c A d b|[]=>p|f::b=>by let e:=Ni c A d b;unfold lM at e⊢;rw[nv,tr];by_cases q:A.sg f.1;simp_all;rw[ab q,ab q,Nb,<-e]<;>grind
def adN(A:V):∀b:X (V×V×Z),qB b A=AZ A b|[]=>p|d::b=>by let c:=adN A b;unfold qB at c⊢;rw[nv,AZ];by_cases q:A.sg d.1;simp_all;rw[ab q,ab q,Nb,<-c]<;>grind
def pd(b:V):Y:=b.isKey<|.int aj
def abJ{b:V}(q:pd b):∃c,b=an aj c:=by cases b<;>simp[pd,V.isKey] at q<;>simp_all
def se{b c:V}(f:pd b)(g:pd c):b.sg c↔b=c:=by obtain⟨d,rfl⟩:=abJ f;obtain⟨e,rfl⟩:=abJ g;show(d==e)↔V.int _ d=V.int _ e;simp
open Classical in
def Mf{k:Z}{A g b:V}(d:pd A)(e:pd b):∀{f:X (V×V×Z)},(∀i∈f,pd i.1)->pa b (tr k A g f)=if A=b then W g else pa b f
|[],_=>by
 show(if b.sg A then W g else ah)=if A=b then W g else ah
 by_cases c:A=b;simp_all[ae,se];rw[ab λl=>c<|bG<|(se e d).1 l,ab c]|i::f,q=>by let j:=q i av;rw[tr];by_cases l:A=i.1;rw[ae<|(se d j).2 l,pa,pa];by_cases c:A=b;simp_all[ae,se];rw[ab λI=>c<|bG<|(se e d).1 I,ab c,ab λI=>c<|bC l<|bG<|(se e j).1 I];rw[ab λI=>l<|(se d j).1 I,pa,pa,Mf d e λm n=>q m aY];by_cases c:A=b;simp_all[ae,ab,se];simp_all
def Pb{f:Z}{A j:V}(i:pd A):∀{d:X (V×V×Z)},(∀b∈d,pd b.1)->∀b∈tr f A j d,pd b.1|[],_,b,c=>by grind[tr,List.mem_singleton]|e::d,q,b,c=>by rw[tr] at c;split at c;grind;rcases fR.1 c with rfl|g;simp_all;exact Pb i (λe k=>q e aY) b g
theorem ai5{f:Z}{A i:V}:∀{d:X (V×V×Z)}{b:V×V×Z},b∈tr f A i d->b.1=A\/∃e∈d,b.1=e.1|[],b,c=>by grind[tr,List.mem_singleton]|e::d,b,c=>by rw[tr] at c;split at c;grind;rcases fR.1 c with rfl|g;simp;rcases ai5 g with q|⟨k,aH,j⟩<;>grind
def ai6{f:Z}{A j:V}(e:pd A):∀{d:X (V×V×Z)},(∀c∈d,pd c.1)->uR (λc b=>c.1≠b.1) d->uR (λc b=>c.1≠b.1) (tr f A j d)|[],_,_=>by simp[tr,Am]|b::d,q,i=>by let⟨k,g⟩:=mi.1 i;rw[tr];by_cases l:A=b.1;rw[ae<|(se e<|q b av).2 l]<;>simp_all<;>omega;rw[ab λI=>l<|(se e ap).1 I];refine mi.2 ⟨λn aH=>?_,ai6 e (λb m=>q b aY) g⟩;grind[ai5]
def Rv{A:V}:∀b:X (V×V×Z),(AZ A b).Sublist b|[]=>.slnil|c::b=>by rw[AZ];split;simp;exact .cons_cons _<|Rv (A:=A) b
theorem abe{A:V}(d:pd A):∀{c:X (V×V×Z)},(∀b∈c,pd b.1/\b.1≠A)->pa A c=ah|[],_=>p|e::c,q=>by rw[pa,ab λl=>(q e av).2<|bG<|(se d (q e av).1).1 l];exact abe d λb f=>q b aY
open Classical in
def abd{A b:V}(g:pd A)(j:pd b):∀{d:X (V×V×Z)},(∀i∈d,pd i.1)->uR (λi c=>i.1≠c.1) d->pa b (AZ A d)=if A=b then ah else pa b d|[],_,_=>by simp[AZ,pa]|c::d,q,m=>by let⟨n,k⟩:=mi.1 m;let e:=q c av;rw[AZ];by_cases l:A=c.1;rw[ae<|(se g e).2 l];by_cases f:A=b;grind[abe];rw[ab f,pa,ab λI=>f<|bC l<|bG<|(se j e).1 I];rw[ab λI=>l<|(se g e).1 I,pa,pa,abd g j (λc e=>q c aY) k];by_cases f:A=b;simp_all[ae,ab,se];simp_all
structure oj(k9:X (V×V×Z))(eF:X Z):Prop where
 keys:∀U∈k9,pd U.1
 jQ:uR (λU C=>U.1≠C.1) k9
 get:∀R:Z,pa (k R) k9=if R∈eF then W (a_ af) else ah
def oj.ok{b:X (V×V×Z)}{c:X Z}(q:oj b c):n1 (.int aj) b:=q.keys
def Nt{b c:Z}(q:k b=k c):b=c:=by grind[k]
def oj.look{c:X (V×V×Z)}{d:X Z}(q:oj c d)(b:Z){e:Value}(f:V.const e=a_ ad):td c (k b) e ad=a_ (aL (b∈d)):=by unfold td;rw[ab av,TR,q.get b]<;>grind
theorem oj.add{d:X (V×V×Z)}{e:X Z}(q:oj d e)(f b:Z):oj (lM d f (k b) (a_ af)).1 (e++[b]):=by rw[Ni];refine⟨Pb p q.keys,ai6 p q.keys q.jQ,λc=>?_⟩;rw[Mf p p q.keys,q.get c];by_cases l:b=c;simp_all;rw[ab λI=>l<|Nt I];grind
def oj.del{e:X (V×V×Z)}{c:X Z}{b:Z}(q:oj e (c++[b]))(i:b∉c):oj (qB e (k b)) c:=by rw[adN];refine⟨λg f=>q.keys g<|(Rv _).subset f,q.jQ.sublist<|Rv _,λd=>?_⟩;rw[abd p p q.keys q.jQ,q.get d];by_cases l:b=d;simp_all;rw[ab λI=>l<|Nt I];grind
def aqX(b:X dT)(u:X Z)(d:X Z)(n:X (V×V×Z))(i g f:Z)(r:g<Q b)(s:f<Q b)(q:oj n d)(bQ:Q d<=1000000):nM b5 hB 268 [k g,k f,c 6000,c 6001,c 6003] (dJ b) [(6000,ag 345 (.eW 6006)),(6001,ag 286 (c 6002)),(6002,ag 289 (bH [.aq 6004 0 (Q u),.aq 6005 0 (Q (aa dZ b))])),(6003,ag 64 (.aq 5002 0 (Q (aa k d)))),(6004,.h 1 3 (aa k u)),(6005,.h 1 64 (aa dZ b)),(6006,h8 n i),(5002,.h 1 3 (aa k d))] (λv:X (V×V×Z)×Z=>oj v.1<|d++[ws d (ew b) g f]) (λ_=>cs []) (λ_=>dJ b) (λv=>[(6000,ag 345<|.eW 6006),(6001,ag 286<|c 6002),(6002,ag 289<|bH [.aq 6004 0 (Q u),.aq 6005 0<|Q<|aa dZ b]),(6003,ag 64<|.aq 5002 0<|Q<|aa k<|d++[ws d (ew b) g f]),(6004,.h 1 3<|aa k u),(6005,.h 1 64<|aa dZ b),(6006,h8 v.1 v.2),(5002,.h 1 3<|aa k<|d++[ws d (ew b) g f])]):=by
 refine nM.of_wp (t:=hV) [] e1 bq gw ⟨func268,a3,p⟩ p p p λD m y C=>?_;let A:Q (aa dZ b)=Q b:=bg ..;refine eg<|ul (a_<|aL<|f∈d) ?_ q.ok (eM:=q.look f p);apply c9;refineλB=>cC f ?_ (j:=o);refine e9 (dZ<|z b f ai) ?_ (j:=LO s);refine aen ?_<|Iu s;refine cC g ?_ (j:=o);refine e9 (dZ<|z b g ai) ?_ (j:=LO r);refine aen ?_<|Iu r;exact p;apply e<;>intro x
 .let w:ws d (ew b) g f=f:=by unfold ws;rw[ae];rw[zF r,zF s];exact⟨x.1,o⟩
  rw[w];refine zQ (lM n i _<|a_ af).1 (lM n i _<|a_ af).2 ?_ q.ok;refine er ?_;refine e7 (aa k<|d++[_]) ?_ (aW:=tw) (bQ:=a2);exact rh (lM n i (k f)<|a_ af)<|q.add i f
 let w:ws d (ew b) g f=g:=by unfold ws;rw[ab];rw[zF r,zF s];intro l;exact x ⟨l.1,o⟩
 rw[w];refine zQ (lM n i _<|a_ af).1 (lM n i _<|a_ af).2 ?_ q.ok;refine er ?_;refine e7 (aa k<|d++[_]) ?_ (aW:=tw) (bQ:=a2);exact rh (lM n i (k g)<|a_ af)<|q.add i g
structure sP(k9:X (V×V×Z))(dQ:X Z)(hC:X dT):Prop where
 keys:∀U∈k9,pd U.1
 len:Q hC=Q dQ
 get:∀R:Z,pa (k R) k9=if R∈dQ then W (dZ (z hC (iw R dQ) ai)) else ah
def sP.ok{b:X (V×V×Z)}{d:X Z}{c:X dT}(q:sP b d c):n1 (.int aj) b:=q.keys
def Dg(b:X Z)(d:X dT)(c:Z):V:=if c∈b then dZ (z d (iw c b) ai) else .ba
theorem sP.nil:sP [] [] []:=⟨λd b=>b9 b ka,p,λc=>a3⟩
def sP.look{e:X (V×V×Z)}{d:X Z}{c:X dT}(q:sP e d c)(b:Z){f:Value}(g:V.const f=.ba):td e (k b) f ad=Dg d c b:=by unfold td Dg;rw[ab av,TR,q.get b];grind
def sP.new{g:X (V×V×Z)}{b:X Z}{f:X dT}(q:sP g b f){c:Z}(m:c∉b)(j:Z)(i:dT):sP (lM g j (k c) (dZ i)).1 (b++[c]) (f++[i]):=by
 rw[Ni];refine⟨Pb p q.keys,by rw[cX,cX,q.len];rfl,λe=>?_⟩;rw[Mf p p q.keys,q.get e];by_cases l:c=e;subst l;rw[ae p,ae av,ajS,ab m];simp[<-q.len];rw[ab λI=>l<|Nt I];by_cases d:e∈b;rw[ae d,ae (by simp[d]),ajS,ae d,dm,dm,tt (by rw[q.len];exact vU d)]
 (simp_all;omega)
def sP.old{g:X (V×V×Z)}{b:X Z}{f:X dT}(q:sP g b f){c:Z}(e:c∈b)(j:Z)(i:dT):sP (lM g j (k c) (dZ i)).1 b (aK f (iw c b) i):=by rw[Ni];refine⟨Pb p q.keys,by rw[nJ,q.len],λd=>?_⟩;rw[Mf p p q.keys,q.get d];by_cases l:c=d;subst l;rw[ae p,ae e,dm,Wr (by rw[q.len];exact vU e)];rfl;rw[ab λI=>l<|Nt I];by_cases m:d∈b;have r:iw c b≠iw d b:=λs=>l (by have n:=PC<|vU e;simp_all);simp_all;simp_all
theorem TO{of c:X Z}{b:Z}(q:b<Q c):eo of (ak (b+1) c)=if z of (z c b 0) 0∈eo of (ak b c) then eo of (ak b c) else eo of (ak b c)++[z of (z c b 0) 0]:=by unfold eo;rw[pq q,dn];exact A2
theorem Ms{e c:X Z}{b:Z}(q:b<Q c)(d:Z):j0 e (ak (b+1) c) d=j0 e (ak b c) d++(if z e (z c b 0) 0=d then[z c b 0] else[]):=by unfold j0;rw[pq (I:=0) q,Wl];grind
theorem aq9{c d:X Z}{b:Z}(q:b∉eo c d):j0 c d b=[]:=by grind[j0,List.filter_eq_nil_iff,Ds]
theorem aq8{c d:X Z}{b:Z}(q:b∈eo c d):j0 c d b≠[]:=by simp_all[Ds,j0,mL,yS,ka]
def sO(c d:X Z)(b:Z)(e:X dT):Prop:=ew e=aa (j0 c<|ak b d) (eo c<|ak b d)
theorem sO.at{c d:X Z}{b:Z}{f:X dT}(q:sO c d b f){e:Z}(g:e∈eo c (ak b d)):iw e (eo c (ak b d))<Q f/\(z f (iw e (eo c (ak b d))) ai).l=j0 c (ak b d) e:=by
 let i:=by have:=ep Q q;rwa [Dm,bg] at this
 let j:=vU g;refine⟨o,?_⟩;rw[<-zF o,q,dm,c4,cm j,PC];rfl
theorem sO.new{d c:X Z}{b:Z}{e:X dT}(q:sO d c b e)(g:b<Q c)(f:z d (z c b 0) 0∉eo d (ak b c))(i j:Z):sO d c (b+1) (e++[⟨i,j,[z c b 0]⟩]):=by unfold sO at q⊢;rw[TO g,ab f,dn,show ew _=ew e++[[z c b 0]] by simp[ew,dn],q];congr 1;refine iF λm k=>?_;rw[Ms g,ab λl=>f ap,ff];show[[z c b 0]]=[j0 d _ _];rw[Ms g,ae p,aq9 f,tv]
theorem sO.old{d c:X Z}{b:Z}{f:X dT}(q:sO d c b f)(g:b<Q c){e:Z}(r:z d (z c b 0) 0=e)(k:e∈eo d (ak b c)){i:dT}(s:i.l=j0 d (ak b c) e++[z c b 0]):sO d c (b+1) (aK f (iw e (eo d (ak b c))) i):=by subst r;unfold sO at q⊢;rw[TO g,ae k,show ew _=aK (ew f) (iw (z d (z c b 0) 0) (eo d (ak b c))) i.l by simp[ew,hW],q,s];refine jI λn=>?_;rw[rO,bg];by_cases l:iw (z d (z c b 0) 0) (eo d<|ak b c)=n;subst l;let m:=vU k;rw[ae p,ae m,c4,cm m,PC,lW,Ms g,ae p];rw[ab l,c4,c4];rcases fF n _ with j|j;rw[cm j,lW,lW,Ms g,ab,ff];grind[List.Nodup.idxOf_getElem,FD];simp_all
def atu{b e:X dT}{c:Z}(f:c<Q b){d:Z}(g:Q ((z b c ai).l.map k)=d):Ex (dJ b++dJ e) (dZ (z b c ai)) d:=by exact bp ⟨(z b c _).id,(z b c _).aP,1,3,(z b c _).l.map k,by rw[<-g];rfl,yQ _<|Iu f⟩
def atv{e b:X dT}{c:Z}(f:c<Q b){d:Z}(g:Q ((z b c ai).l.map k)=d):Ex (dJ e++dJ b) (dZ (z b c ai)) d:=by exact bp ⟨(z b c _).id,(z b c _).aP,1,3,(z b c _).l.map k,by rw[<-g];rfl,yR _<|Iu f⟩
def atr{b d:X dT}{c:Z}(e:c<Q b):(dJ b++dJ d)[c]?=W (vB (z b c ai)):=by grind[dJ,List.getElem?_eq_getElem]
def atw{b d:X dT}{c:Z}(f:c<Q b)(e:dT):aK (dJ b++dJ d) c (vB e)=dJ (aK b c e)++dJ d:=by grind[List.set_append_left,dJ,List.length_map,List.map_set]
def dI(q:eI)(b:X Z)(c:Z):eI:=OV q.of b q<|ak c<|eo q.of b
theorem aqN(q:eI)(b:X Z):dI q b (Q (eo q.of b))=sy q b:=by unfold dI;rw[g5];rfl
theorem aqP{q:eI}{b:X Z}{c:Z}(d:c<Q (eo q.of b)):dI q b (c+1)=yC (dI q b c) (z (eo q.of b) c 0) (j0 q.of b (z (eo q.of b) c 0)):=by grind[dI,pq,OV]
def aqO{d:Z}{q:eI}(e:lx d q){b:X Z}(i:∀M∈b,M<d)(g:eb b)(c:Z):AI d q (dI q b c) b (ak c (eo q.of b)):=by have:=Vz e i g (ak c<|eo _ b) [] q (.nil e b) (λj f=>⟨tu f,ka⟩)<|(FD).sublist<|aj1 ..;trivial
structure akz(T:Z)(q:eI)(jT:X Z)(cr:Z):Prop where
 ok:lx T (dI q jT cr)
 ama:z (eo q.of jT) cr 0<(dI q jT cr).mem.length
 hit:∀U∈j0 q.of jT (z (eo q.of jT) cr 0),U<T
 hj:(dI q jT cr).mem.length<=T
def aqM{e:Z}{q:eI}(f:lx e q){b:X Z}(c:∀M∈b,M<e)(k:eb b){d:Z}(j:d<Q (eo q.of b)):akz e q b d:=by let A:=aqO f c k d;obtain⟨g,l,i⟩:=Ds.1<|cT j;refine⟨A.ok,kv (by rw[<-i];exact f.lt g<|c g l) A.grow,λn m=>c n (mL.1 m).1,A.ok.count⟩
theorem atF{q:eI}{c:X Z}{b:Z}(d:b<Q (eo q.of c)):iw (z (eo q.of c) b 0) (eo q.of c)=b:=by grind[List.getElem?_eq_getElem,List.Nodup.idxOf_getElem,FD]
theorem ard{q:eI}{c:X Z}{d:X dT}{b:Z}(e:b<Q (eo q.of c)):Dg (eo q.of c) d (z (eo q.of c) b 0)=dZ (z d b ai):=by unfold Dg;rw[ae<|cT e,atF e]
theorem sO.full{d b:X Z}{e:X dT}(q:sO d b (Q b) e){c:Z}(f:c<Q (eo d b)):c<Q e/\(z e c ai).l=j0 d b (z (eo d b) c 0):=by
 unfold sO at q;rw[g5] at q;let g:=by have:=ep Q q;rwa [Dm,bg] at this
 refine⟨o,?_⟩;rw[<-zF o,q,dm,c4,dm,cm f];rfl
theorem ayz{d b:X Z}{c A:Z}(e:A<Q b):qN d (ak (A+1) b) c=aK (qN d (ak A b) c) (z b A 0) c:=by grind[pq,qN]
def adF(pre c b:X dT)(d:dT):hI (dJ (pre++c)++dJ (b++[d])) (dJ (pre++d::c)++dJ b):=by unfold dJ;grind[tj]
def apt{P:ct}{m:db}{i:Z}{r:ce}{l:X ResultVar}{j:V->b0->Prop}{k:Exit}{M:aI}(d:b0)(x:∃e,hI (d++e) M.g)(q:jl P m i r l j k {M with g:=d}):jl P m i r l j k M:=⟨q.he,λs v t n f c=>by let⟨e,w⟩:=x;refine q.run s v t n f ⟨?_,c.b,c.hv,c.size,c.defers⟩;let u:Holds m f (d++aX s M.au++e) n:=c.dt.perm (by refine List.Perm.trans ?_<|GG _ w;simp[fJ,D8,vW]);exact u.drop<|Wy _ _⟩
def NL(b:ce)(c i:X Z)(d:X (V×V×Z))(f:Z)(e:X (V×V×Z))(g:Z):b0:=[kH b 6000 1 345 [.j5 (b 6006).1 (b 6006).2],kH b 6001 1 286 [NK b 6002],kH b 6003 1 64 [Dz b 5002 (Q<|aa k c)],afw b 6006 d f,kH b 5002 1 3<|aa k c,kH b 7 1 3<|aa k i,afw b 20 e g]
def FP(b:ce)(g A e:Z)(f:X Z)(c:X dT)(d:b0):b0:=kH b 3 1 286 [NK b 6002]::kH b 14 1 3 [k e]::kH b 6002 2 289 [bH [Dz b 6004 g,Dz b 5001 A]]::kH b 6004 1 3 (aa k f)::kH b 5001 1 64 (aa dZ c)::d
def alW(c d e f g i:Z×Z):ce:=λb=>bif eU b 6000 then c else bif eU b 6001 then d else bif eU b 6002 then e else bif eU b 6003 then f else bif eU b 6004 then g else i
theorem aoR(f:X Z)(m:X V)(q:Z)(i:X Z)(t:∀r∈i,r<Q f)(u:Q i<=100000)(j l b c d e:Z×Z):gJ b5 hB 302 [.bO e.1 e.2 0 (Q (aa k i)),e4 (dp 303) [] [.own j.1 j.2 0 0,.own l.1 l.2 0 0]] [(j.1,.h j.2 1 286 [.own b.1 b.2 0 0]),(l.1,.h l.2 1 3 [k q]),(b.1,.h b.2 2 289 [bH [.bO c.1 c.2 0 (Q f),.bO d.1 d.2 0 (Q m)]]),(c.1,.h c.2 1 3 (aa k f)),(d.1,.h d.2 1 64 m),(e.1,.h e.2 1 3 (aa k i))] (λs K=>s=.bO e.1 e.2 0 (Q<|aa k<|i.filter λr=>!iA f q r)/\K=[(j.1,.h j.2 1 286 [.own b.1 b.2 0 0]),(l.1,.h l.2 1 3 [k q]),(b.1,.h b.2 2 289 [bH [.bO c.1 c.2 0 (Q f),.bO d.1 d.2 0<|Q m]]),(c.1,.h c.2 1 3<|aa k f),(d.1,.h d.2 1 64 m),(e.1,.h e.2 1 3<|aa k<|i.filter λr=>!iA f q r)]):=by rw[bg,bg];refine gJ.frame (aoQ f m q i p t u<|alW j l b c d e) [] a3 ?_;rintro s K ⟨n,g,rfl,rfl⟩;refine⟨_,by rw[ff],?_,?_⟩;show V.bO _ _ 0 _=_;rw[g.eq _ o];rfl;show[((n _).1,cD.h _ 1 286 [V.own _ _ 0 0]),((n _).1,cD.h _ 1 3 _),((n _).1,cD.h _ 2 289 [V.agg [.bO _ _ 0 _,.bO _ _ 0 _]]),((n _).1,cD.h _ 1 3 _),((n _).1,cD.h _ 1 64 m),((n _).1,cD.h _ 1 3 _)]=_;rw[g.eq _ o,g.eq 6001 o,g.eq _ o,g.eq _ o,g.eq _ o,g.eq _ o];rfl
def TB{f b:X (Z×V)}(q:∀c∈b,cY c.1 f=W c.2)(d:Z)(e:V)(g:cY d b=W e):cY d f=W e:=by
 have:(d,e)∈b:=by induction b with|nil=>cases g|cons c j i=>grind
 grind
def aje:uY b5 289 1 1 87 1:=⟨cR⟩
def ajm:cz b5 286 (.pointer 289) 1 8:=⟨av,cR⟩
theorem azf{q:eI}{R:Z}{part:X Z}(g:¬Q part=Q (z q.mem R [])){vD:X Z}(i:qN q.of part (Q q.mem)=vD){b:X dT}(c:ew b=q.mem){U vQ:dT}(d:U.l=part)(e:vQ.l=(z q.mem R []).filter λM=>!iA vD (Q b) M):(yC q R part).of=vD/\ew (aK (b++[U]) R vQ)=(yC q R part).mem/\(yC q R part).eF=q.eF++[ws q.eF (ew<|aK (b++[U]) R vQ) (Q b) R]:=by
 let f:Q b=Q q.mem:=by rw[<-c,Dm]
 let hm:ew (aK (b++[U]) R vQ)=aK (q.mem++[part]) R ((z q.mem R []).filter λM=>!aL (z vD M 0=Q q.mem)):=by unfold ew;rw[hW,dn,e,show aa _ b=q.mem from c];show aK (q.mem++[U.l]) R _=_;rw[d];congr 1;refine Wm λM _=>?_;congr 1;exact qW.2 o
 unfold yC;simp_all
def avZ{s:Type}{b:X s}{c d e f g i:s}(j:b[0]?=W c)(k:b[1]?=W d)(l:b[2]?=W e)(m:b[3]?=W f)(n:b[4]?=W g)(q:b[5]?=W i):∃r,b=c::d::e::f::g::i::r:=by
 match b,j,k,l,m,n,q with|t::u::v::w::x::y::r,j,k,l,m,n,q=>simp_all
def ah6(u:Z)(q:eI)(hk:lx u q)(cy:u<=100000)(b:X Z)(ay:∀M∈b,M<u)(a4:eb b)(D:X dT)(be:ew D=q.mem)(al:X (V×V×Z))(aF:Z)(bE:oj al q.eF):nM b5 hB 269 [c 6002,.a 1 (aa k b),e4 (dp 268) [] [c 6000,c 6001,c 6003]] (dJ D) [(6000,ag 345 (.eW 6006)),(6001,ag 286 (c 6002)),(6002,ag 289 (bH [.aq 6004 0 u,.aq 5001 0 (Q (aa dZ D))])),(6003,ag 64 (.aq 5002 0 (Q (aa k q.eF)))),(6004,.h 1 3 (aa k q.of)),(5001,.h 1 64 (aa dZ D)),(6006,h8 al aF),(5002,.h 1 3 (aa k q.eF))] (λJ:X dT×X (V×V×Z)×Z=>ew J.1=(sy q b).mem/\oj J.2.1 (sy q b).eF) (λ_=>cs []) (λJ=>dJ J.1) (λJ=>[(6000,ag 345<|.eW 6006),(6001,ag 286<|c 6002),(6002,ag 289<|bH [.aq 6004 0 u,.aq 5001 0<|Q<|aa dZ J.1]),(6003,ag 64<|.aq 5002 0<|Q<|(sy q b).eF.map k),(6004,.h 1 3<|(sy q b).of.map k),(5001,.h 1 64<|aa dZ J.1),(6006,h8 J.2.1 J.2.2),(5002,.h 1 3<|(sy q b).eF.map k)]):=by
 refine nM.of_wp (t:=hV) [2004,2024] e1 bq gw ⟨func269,a3,p⟩ p p p λcI m bd bv=>?_;have cq:k1 b5 hV m hB _ [2004,2024]:=⟨e1,bq,bd,gw,bv⟩;have cz:Q (aa k b)=Q b:=bg ..;have cA:Q b<=u:=by have:=qQ a4 (R:=bJ u) λU az=>g4.2<|ay U az;rwa [i1] at this
 apply e<;>intro cr
 .have q:b=[]:=Ak.1 o;subst q;rw[show sy q []=q from p];exact rh (D,al,aF) ⟨be,bE⟩
 refine aZ.eQ 7 1 3 [7] ah ?_;refine dM ?_;refine dv (Z×X dT×X (V×V×Z)×Z) (λn=>⟨[(2,e4 (dp 268) [] [c 6000,c 6001,c 6003]),(3,c 3),(6,.eW 20),(7,.aq 7 0<|Q<|aa k<|eo q.of<|ak n.1 b),(21,.a 1<|aa k b),(22,k<|Q<|aa k b),(23,k n.1)],[(6004,.h 1 3<|aa k q.of),(5001,.h 1 64<|aa dZ D),(5002,.h 1 3<|aa k q.eF),(7,.h 1 3<|aa k<|eo q.of<|ak n.1 b),(3,ag 286<|c 6002),(6000,ag 345<|.eW 6006),(6001,ag 286<|c 6002),(6002,ag 289<|bH [.aq 6004 0 u,.aq 5001 0<|Q<|aa dZ D]),(6003,ag 64<|.aq 5002 0<|Q<|aa k q.eF),(6006,h8 al aF),(20,h8 n.2.2.1 n.2.2.2)],dJ n.2.1++dJ D⟩) (λn=>n.1<=Q b/\sP n.2.2.1 (eo q.of<|ak n.1 b) n.2.1/\sO q.of b n.1 n.2.1) (λn=>Q b-n.1) (0,[],[],0) (λ⟨E,s,C,cx⟩ ⟨ci,G,aC⟩=>?_) ⟨dO _,sP.nil,p⟩;dsimp only at ci G aC⊢;apply e<;>intro ct
 .have ar:E<Q b:=o;obtain⟨R,ao⟩:∃R,z q.of (z b E 0) 0=R:=⟨_,p⟩;have cd:z b E 0<u:=ay _<|cT ar;have bB:Q q.of=u:=hk.len;have b1:Q (eo q.of (ak (E+1) b))<=u:=by refine dK (qQ FD (R:=bJ<|Q q.mem) λU az=>?_) (by rw[i1];exact hk.count);let⟨aD,a5,aN⟩:=Ds.1 az;rw[g4,<-aN];exact hk.lt aD<|ay aD<|tu a5
  have aS:=TO (of:=q.of) ar;rw[ao] at aS;have cv:Q (j0 q.of (ak E b) R)<=u:=by refine dK (ajU ..) ?_;rw[mK];omega
  refine bi E (k<|z b E 0) ?_ (j:=eN ar);refine cC (z b E 0) ?_ (j:=cd);refine e9 (k R) ?_ (j:=ap);by_cases S:R∈eo q.of (ak E b)
  .have ax:eo q.of (ak (E+1) b)=eo q.of (ak E b):=by rw[aS,ae S]
   let⟨aI,aJ⟩:=aC.at S;have P:∀n,V.const n=.ba->td C (k R) n ad=dZ (z s (iw R (eo q.of (ak E b))) ai):=λn aH=>by rw[G.look R aH];simp_all[Dg,ae]
   obtain⟨A,aw⟩:∃A,iw R (eo q.of (ak E b))=A:=⟨_,p⟩;obtain⟨U,aM⟩:∃U,z s A ai=U:=⟨_,p⟩;rw[aw,aM] at aJ;simp only[aw,aM] at P;rw[aw] at aI;have b6:Ex (dJ s++dJ D) (dZ U) (Q (aa k U.l)):=by rw[<-aM];exact atu aI p
   have cE:Q (aa k U.l)=Q (j0 q.of (ak E b) R):=by rw[bg,aJ]
   have bU:(dJ s++dJ D)[A]?=W (U.id,cD.h U.aP 1 3 (aa k U.l)):=by rw[atr aI,aM];rfl
   have cb:aK (dJ s++dJ D) A (U.id,cD.h (U.aP+1) 1 3 (aa k U.l++[k (z b E 0)]))=dJ (aK s A ⟨U.id,U.aP+1,j0 q.of (ak E b) R++[z b E 0]⟩)++dJ D:=by rw[<-atw aI,vB,aJ,dn];rfl
   have aB:V.bO U.id (U.aP+1) 0 (Q (aa k U.l)+Q [k (z b E 0)])=dZ ⟨U.id,U.aP+1,j0 q.of (ak E b) R++[z b E 0]⟩:=by unfold dZ;rw[aJ,dn,cX];rfl
   rw[<-ax];refine ul _ ?_ G.ok (eM:=P _ p);refine Np ?_ b6;apply e<;>intro bW
   .grind[b9,List.length_eq_zero_iff,j0,List.length_map,aq8]
   refine ul _ ?_ G.ok (eM:=P _ p);refine er ?_;refine atY A ?_ bU cb p oU;refine zQ (lM C cx (k R)<|dZ ⟨U.id,U.aP+1,j0 q.of (ak E b) R++[z b E 0]⟩).1 (lM C cx (k R)<|dZ ⟨U.id,U.aP+1,j0 q.of (ak E b) R++[z b E 0]⟩).2 ?_ G.ok (hu:=ap);refine bc ?_;exact a0 (E+1,aK s A ⟨U.id,U.aP+1,j0 q.of (ak E b) R++[z b E 0]⟩,(lM C cx (k R)<|dZ ⟨U.id,U.aP+1,j0 q.of (ak E b) R++[z b E 0]⟩).1,(lM C cx (k R)<|dZ ⟨U.id,U.aP+1,j0 q.of (ak E b) R++[z b E 0]⟩).2) ⟨o,by rw[ax,<-aw];exact G.old S cx _,by dsimp only;rw[<-aw];exact aC.old ar ao S p⟩ o
  have ax:eo q.of (ak (E+1) b)=eo q.of (ak E b)++[R]:=by rw[aS,ab S]
  have P:∀n,V.const n=.ba->td C (k R) n ad=.ba:=λn aH=>by rw[G.look R aH];simp_all[Dg,ab]
  have cw:Q (eo q.of (ak E b))+1<=u:=by have:=b1;rw[ax,cX] at this;exact this
  have bT:∀H:Z,hI (dJ (s++[⟨H,1,[z b E 0]⟩])++dJ D) (dJ s++dJ D++[(H,cD.h 1 1 3 [k (z b E 0)])]):=λH=>by rw[TI,fJ,fJ];exact D8 _ vW
  have bf:=S;rw[<-ao] at bf;refine ul _ ?_ G.ok (eM:=P _ p);apply e<;>intro bW
  .refine er ?_;refine e7 (aa k<|eo q.of<|ak (E+1) b) ?_ (aW:=ap) (bQ:=a2);refine ul _ ?_ G.ok (eM:=P _ p);refine er ?_;refine atW (λH=>dJ (s++[⟨H,1,[z b E 0]⟩])++dJ D) (λH=>?_) bT av;refine zQ (lM C cx (k R)<|dZ ⟨H,1,[z b E 0]⟩).1 (lM C cx (k R)<|dZ ⟨H,1,[z b E 0]⟩).2 ?_ G.ok;refine bc ?_;exact a0 (E+1,s++[⟨H,1,[z b E 0]⟩],(lM C cx (k R)<|dZ ⟨H,1,[z b E 0]⟩).1,(lM C cx (k R)<|dZ ⟨H,1,[z b E 0]⟩).2) ⟨o,by rw[ax];exact G.new S cx _,aC.new ar bf H 1⟩ o
  omega
 obtain rfl:E=Q b:=o;rw[g5] at G⊢;refine dv (Z×X dT×X dT×X (V×V×Z)×Z) (λn=>⟨[(2,e4 (dp 268) [] [c 6000,c 6001,c 6003]),(3,c 3),(6,.eW 20),(52,.aq 7 0<|Q<|aa k<|eo q.of b),(53,k<|Q<|aa k<|eo q.of b),(54,k n.1)],[(7,.h 1 3<|aa k<|eo q.of b),(6004,.h 1 3<|(dI q b n.1).of.map k),(5001,.h 1 64<|aa dZ n.2.2.1),(5002,.h 1 3<|(dI q b n.1).eF.map k),(3,ag 286<|c 6002),(6000,ag 345<|.eW 6006),(6001,ag 286<|c 6002),(6002,ag 289<|bH [.aq 6004 0 u,.aq 5001 0<|Q<|aa dZ n.2.2.1]),(6003,ag 64<|.aq 5002 0<|Q<|(dI q b n.1).eF.map k),(20,h8 C cx),(6006,h8 n.2.2.2.1 n.2.2.2.2)],dJ n.2.1++dJ n.2.2.1⟩) (λn=>n.1<=Q (eo q.of b)/\ew n.2.2.1=(dI q b n.1).mem/\oj n.2.2.2.1 (dI q b n.1).eF/\∃pre,n.2.1=pre++aU n.1 s) (λn=>Q (eo q.of b)-n.1) (0,s,D,al,aF) (λ⟨d,cl,i,K,L⟩ ⟨cf,T,aA,pre,bK⟩=>?_) ⟨dO _,be,bE,[],p⟩;dsimp only at cf T aA bK⊢;subst bK;apply e<;>intro bh
 .try simp only[bg] at bh
  have au:d<Q (eo q.of b):=o;have aE:=aqM hk ay a4 au;have aL:=aqP au;let⟨bb,aG⟩:=aC.full au;have bs:Dg (eo q.of b) s (z (eo q.of b) d 0)=dZ (z s d ai):=ard au;have bn:aU d s=z s d ai::aU (d+1) s:=by rw[pt bb,dm,cm bb];rfl
  have cn:Q (eo q.of b)<=u:=by refine dK (qQ FD (R:=bJ<|Q q.mem) λU az=>?_) (by rw[i1];exact hk.count);let⟨aD,a5,aN⟩:=Ds.1 az;rw[g4,<-aN];exact hk.lt aD<|ay aD a5
  have Y:=aE.ok;have bN:=aE.ama;have a9:=aE.hit;have a_:=aE.hj;have bo:(aa k (eo q.of b))[d]?=W (k (z (eo q.of b) d 0)):=eN au;obtain⟨B,bZ⟩:∃B,dI q b d=B:=⟨_,p⟩;obtain⟨R,ao⟩:∃R,z (eo q.of b) d 0=R:=⟨_,p⟩;obtain⟨U,ce⟩:∃U,z s d ai=U:=⟨_,p⟩;simp only[ao,bZ,ce] at aG bs bn aL bo Y bN a9 a_ T aA⊢;rw[bn];have cp:Q i=Q B.mem:=by rw[<-T,Dm]
  have P:∀n,V.const n=.ba->td C (k R) n ad=dZ U:=λn aH=>by rw[G.look R aH,bs]
  obtain⟨r,aB⟩:∃r,z i R ai=r:=⟨_,p⟩;have a7:r.l=z B.mem R []:=by rw[<-aB,<-zF o,T]
  have aV:(U.id,cD.h U.aP 1 3 (aa k U.l))∈dJ (pre++U::aU (d+1) s)++dJ i:=yQ _<|cV.2 ⟨U,av,p⟩;have bD:Ex (dJ (pre++U::aU (d+1) s)++dJ i) (dZ U) (Q (aa k U.l)):=bp ⟨U.id,U.aP,1,3,aa k U.l,p,aV⟩;have b_:Ex (dJ (pre++U::aU (d+1) s)++dJ i) (dZ r) (Q (aa k r.l)):=by rw[<-aB];exact atv o p
  have bt:(aa dZ i)[R]?=W (dZ r):=by rw[<-aB];exact LO o
  have bF:∀M∈U.l,M<u:=λM O=>a9 M ap;have bB:Q B.of=u:=Y.len;have ch:∀M∈r.l,M<u:=λM O=>by rw[a7] at O;exact((Y.mem R M).1 O).1
  have cG:Q r.l<=u:=by have:=qQ (y:=r.l) (R:=bJ u) (by rw[a7];exact Y.jQ R) λM O=>g4.2<|ch M O;rwa [i1] at this
  have cF:Q U.l<=u:=by have:=qQ (y:=U.l) (R:=bJ u) (by rw[aG];exact a4.filter _) λM O=>g4.2<|bF M O;rwa [i1] at this
  refine cC d ?_ (j:=a2);refine e9 (k R) ?_ (j:=bo);refine ul _ ?_ G.ok (eM:=P _ p);refine Np ?_ bD;refine cC R ?_ (j:=a2);refine e9 (dZ r) ?_ (j:=bt);refine Np ?_ b_;apply e<;>intro bj
  .try simp only[bg] at bj
   have ca:dI q b (d+1)=B:=by rw[aL,yC,ae oU]
   rw[<-ca];refine bc ?_;exact a0 (d+1,pre++U::aU (d+1) s,i,K,L) ⟨o,aY,aY,pre++[U],av⟩ o
  try simp only[bg] at bj
  have b4:¬Q (j0 q.of b R)=Q (z B.mem R []):=by rw[<-a7,<-aG];omega
  obtain⟨w,aQ⟩:∃w,Q (aa dZ i)=w:=⟨_,p⟩;have bY:w=Q i:=by rw[<-aQ,bg]
  rw[aQ];refine Np ?_ bD;refine eC (Q U.l) (λA=>⟨[(2,e4 (dp 268) [] [c 6000,c 6001,c 6003]),(3,c 3),(6,.eW 20),(12,k R),(13,dZ U),(14,c 14),(52,.aq 7 0<|Q<|aa k<|eo q.of b),(53,k<|Q<|aa k<|eo q.of b),(54,k d),(77,dZ U),(78,k<|Q<|aa k U.l),(79,k A)],[(7,.h 1 3<|aa k<|eo q.of b),(6004,.h 1 3<|aa k<|qN B.of (ak A U.l) w),(5001,.h 1 64<|aa dZ i),(5002,.h 1 3<|aa k B.eF),(14,ag 3<|k w),(3,ag 286<|c 6002),(6000,ag 345<|.eW 6006),(6001,ag 286<|c 6002),(6002,ag 289<|bH [.aq 6004 0 u,.aq 5001 0 w]),(6003,ag 64<|.aq 5002 0<|Q<|aa k B.eF),(20,h8 C cx),(6006,h8 K L)],dJ (pre++U::aU (d+1) s)++dJ i⟩) λA hk=>?_;apply e<;>intro bk
  .try simp only[bg] at bk
   have bu:A<Q U.l:=o;refine at7 A ?_ aV (j:=a2);refine aua (k<|z U.l A 0) ?_ aV (show(aa k U.l)[0+A]?=W (k (z U.l A 0)) by simp_all);refine eS ?_;refine br (λ_=>cC (z U.l A 0) p (j:=bF _<|cT bu)) ?_;refine uJ (aa k<|qN B.of (ak (A+1) U.l) w) (k<|z (qN B.of (ak A U.l) w) (z U.l A 0) 0) (k w) ?_ (j:=eN (by grind[OH,cT])) (aW:=by rw[ayz bu,hW]);refine fZ ?_;refine bc ?_;exact a0 (A+1)
  try simp only[bg] at bk
  obtain rfl:A=Q U.l:=o;rw[g5];refine eS ?_;refine br (λ_=>lf p (hlen:=λI bA=>by rw[ea.1 bA];rfl)) ?_;refine lS 98 (aa dZ<|i++[U]) ?_ (hl:=.a p p p p λI bA=>by rw[ea.1 bA];rfl) (hlen:=bG aQ) (aW:=av) (bQ:=a2);refine fx ?_;refine kU [(98,5001)] ?_;obtain⟨vD,bw⟩:∃vD,qN B.of U.l w=vD:=⟨_,p⟩;rw[bw];obtain⟨vQ,bI⟩:∃vQ:dT,vQ=⟨r.id,r.aP,r.l.filter λM=>!iA vD w M⟩:=⟨_,p⟩;obtain⟨F,am⟩:∃F,aK (i++[U]) R vQ=F:=⟨_,p⟩;have bx:Q vD=u:=by rw[<-bw,OH,bB]
  let⟨bL,bM,a8⟩:=azf (q:=B) (R:=R) (part:=j0 q.of b R) b4 (vD:=vD) ap T (U:=U) (vQ:=vQ) aG ap;rw[<-aL,am] at bM a8;rw[<-aL] at bL;rw[<-bY] at a8;have co:Q F=Q i+1:=by rw[<-am,nJ,cX];rfl
  have cB:Q B.eF<=u:=by have:=qQ Y.wn (R:=bJ u) λM O=>g4.2<|kv (Y.sE M O) a_;rwa [i1] at this
  have bm:=aqX F vD B.eF K L w R o o aA o;rw[bx,<-a8] at bm;subst bL;have b0:ew F=(dI q b (d+1)).mem:=bM;have aO:R<Q (i++[U]):=by rw[cX];omega
  have cu:(aa dZ (i++[U]))[R]?=W (dZ r):=by rw[dn,tt o];exact bt
  have bS:z (i++[U]) R ai=r:=by rw[dm,tt o,<-dm];exact aB
  have bP:Q (aa dZ (i++[U]))=Q (aa dZ F):=by rw[<-am,bg,bg,nJ]
  refine aZ.ZA (dJ (pre++aU (d+1) s)++dJ (i++[U])) (λcH b7=>(adF pre (aU (d+1) s) i U).subset b7) ⟨[],(by rw[ff];exact adF pre (aU (d+1) s) i U)⟩ ?_;refine n7 ⟨[(2,e4 (dp 268) [] [c 6000,c 6001,c 6003]),(3,c 3),(6,.eW 20),(12,k R),(14,c 14),(52,.aq 7 0<|Q<|aa k<|eo q.of b),(53,k<|Q<|aa k<|eo q.of b),(54,k d)],[(3,ag 286<|c 6002),(14,ag 3<|k w),(6002,ag 289<|bH [.aq 6004 0 u,.aq 5001 0<|Q<|aa dZ<|i++[U]]),(6004,.h 1 3<|(dI q b<|d+1).of.map k),(5001,.h 1 64<|aa dZ<|i++[U]),(6000,ag 345<|.eW 6006),(6001,ag 286<|c 6002),(6003,ag 64<|.aq 5002 0<|Q<|aa k B.eF),(6006,h8 K L),(5002,.h 1 3<|aa k B.eF),(7,.h 1 3<|aa k<|eo q.of b),(20,h8 C cx)],dJ (pre++aU (d+1) s)++dJ (i++[U])⟩ ?_;refine dM ?_;refine aZ.Sr ⟨[(2,e4 (dp 268) [] [c 6000,c 6001,c 6003]),(3,c 3),(6,.eW 20),(12,k R),(14,c 14),(52,.aq 7 0<|Q<|aa k<|eo q.of b),(53,k<|Q<|aa k<|eo q.of b),(54,k d)],[(3,ag 286<|c 6002),(14,ag 3<|k w),(6002,ag 289<|bH [.aq 6004 0 u,.aq 5001 0<|Q<|aa dZ<|i++[U]]),(6004,.h 1 3<|(dI q b<|d+1).of.map k),(5001,.h 1 64<|aa dZ F),(6000,ag 345<|.eW 6006),(6001,ag 286<|c 6002),(6003,ag 64<|.aq 5002 0<|Q<|aa k B.eF),(6006,h8 K L),(5002,.h 1 3<|aa k B.eF),(7,.h 1 3<|aa k<|eo q.of b),(20,h8 C cx)],dJ (pre++aU (d+1) s)++dJ F⟩ (λv=>?_) ?_;have b2:dJ (i++[U])=dJ (ak R (i++[U]))++vB r::dJ (aU (R+1) (i++[U])):=by
   conv=>lhs;rw[VS aO]
   rw[TI,<-bS,dm,cm aO];rfl
  have b3:dJ F=dJ (ak R (i++[U]))++vB vQ::dJ (aU (R+1) (i++[U])):=by rw[<-am,Vo aO,TI];rfl
  refine fh.perm (FP v u (Q<|aa dZ<|i++[U]) w (dI q b<|d+1).of (i++[U])<|(r.id,cD.h r.aP 1 3<|aa k<|r.l)::(dJ (pre++aU (d+1) s)++(dJ (ak R<|i++[U])++dJ (aU (R+1)<|i++[U]))++NL v B.eF (eo q.of b) K L C cx)) ?_ ?_;show hI _ (dJ (pre++aU (d+1) s)++dJ (i++[U])++FP v u (Q (aa dZ (i++[U]))) w (dI q b (d+1)).of (i++[U]) (NL v B.eF (eo q.of b) K L C cx));rw[b2];refine tj λy=>?_
  (simp[GI,Kd,Px,vB,FP];omega)
  have bX:=aoR (dI q b<|d+1).of (aa dZ<|i++[U]) w r.l ap o (v 3) (v 14) (v 6002) (v 6004) (v 5001) (r.id,r.aP);rw[bx] at bX;refine HE [([0],[]),([2],[]),([2],[]),([2],[]),([],[]),([0],[]),([2],[]),([2],[]),([2],[]),([],[]),([4],[]),([4],[]),([],[]),([0,1,2,3,4],[5]),([4],[]),([],[4])] e1 bv ?_;refine cg.dR [0] (λg q=>qG 0 ajm (hk:=bC (q 0 aR) p)) ?_;refine cg.dR [2] (λg q=>F4 (A:=2) (hk:=bC (q 2 aR) p)) ?_;refine cg.dR [2] (λg q=>FY (A:=2) aje (hk:=bC (q 2 aR) p)) ?_;refine cg.dR [2] (λg q=>qG 2 oO (hk:=bC (q 2 aR) p)) ?_;refine cg.dR [] (λg q=>kn) ?_;refine cg.dR [0] (λg q=>qG 0 ajm (hk:=bC (q 0 aR) p)) ?_;refine cg.dR [2] (λg q=>F4 (A:=2) (hk:=bC (q 2 aR) p)) ?_;refine cg.dR [2] (λg q=>FY (A:=2) aje (hk:=bC (q 2 aR) p)) ?_;refine cg.dR [2] (λg q=>qG 2 oO (hk:=bC (q 2 aR) p)) ?_;refine cg.dR [] (λg q=>kn) ?_;refine cg.dR [4] (λg q=>tk 4 (E:=R) oO yH (hk:=bC (q 4 aR) p) (j:=a2)) ?_;refine cg.dR [4] (λg q=>qG 4 (el:=dZ r) lR (hk:=bC (q 4 aR) p) (j:=ap)) ?_;refine cg.dR [] (λg q=>afA a3 (K0 a3)<|K0 a3) ?_;refine cg.up [0,1,2,3,4] 5 (r.id,.h r.aP 1 3<|aa k<|r.l.filter λM=>!iA (dI q b<|d+1).of w M) (x:=.bO r.id r.aP 0<|Q<|aa k<|r.l.filter λM=>!iA (dI q b<|d+1).of w M) (λg N=>?_) ?_;obtain⟨rest,rfl⟩:=avZ (bC (N 0 aR) p) (bC (N 1 aR) p) (bC (N 2 aR) p) (bC (N 3 aR) p) (bC (N 4 aR) p)<|bC (N 5 aR) p;exact RK (rest:=rest) (pass:=[kH v 3 1 286 [NK v 6002],kH v 14 1 3 [k w],kH v 6002 2 289 [bH [Dz v 6004 u,Dz v 5001<|Q<|aa dZ<|i++[U]]],kH v 6004 1 3<|(dI q b<|d+1).of.map k,kH v 5001 1 64<|aa dZ<|i++[U],(r.id,cD.h r.aP 1 3<|aa k<|r.l)]) (NU:=[kH v 3 1 286 [NK v 6002],kH v 14 1 3 [k w],kH v 6002 2 289 [bH [Dz v 6004 u,Dz v 5001<|Q<|aa dZ<|i++[U]]],kH v 6004 1 3<|(dI q b<|d+1).of.map k,kH v 5001 1 64<|aa dZ<|i++[U],(r.id,cD.h r.aP 1 3<|aa k<|r.l.filter λM=>!iA (dI q b<|d+1).of w M)]) p ⟨cR⟩ (first:=[]) p (K0 p) (uS _) (by rw[bd];trivial)<|uS _;refine cg.dR [4] (λg N=>tk 4 (E:=R) oO yH (hk:=bC (N 4 aR) p) (j:=a2)) ?_;refine cg.up [] 4 ((v 5001).1,.h (v 5001).2 1 64<|aa dZ F) (x:=.undef) (λg N=>?_) ?_;refine fz.hU (HO 4 (E:=0+R) (l:=0) (ia:=aa dZ<|i++[U]) (el:=dZ r) lR (hk:=bC (N 4 aR) p) (j:=ap)) p ?_;show aK g 4 (kH v 5001 1 64 (aK (aa dZ (i++[U])) (0+R) (.bO r.id r.aP 0 (Q (aa k (r.l.filter λM=>!iA (dI q b<|d+1).of w M))))))=_;rw[<-am,hW,bI,kZ];rfl;refine cg.nil ⟨p,λcj ck cc=>TB ?_ cj ck cc,?_⟩;refine mJ.2 ⟨a3,mJ.2 ⟨a3,mJ.2 ⟨a3,mJ.2 ⟨a3,mJ.2 ⟨a3,mJ.2 ⟨a3,mJ.2 ⟨a3,mJ.2 ⟨a3,λ_ B=>b9 B ka⟩⟩⟩⟩⟩⟩⟩⟩;show hI (FP v u (Q (aa dZ (i++[U]))) w (dI q b (d+1)).of F ((r.id,cD.h r.aP 1 3 (aa k (r.l.filter λM=>!iA (dI q b<|d+1).of w M)))::(dJ (pre++aU (d+1) s)++(dJ (ak R<|i++[U])++dJ (aU (R+1)<|i++[U]))++NL v B.eF (eo q.of b) K L C cx))) (dJ (pre++aU (d+1) s)++dJ F++FP v u (Q (aa dZ (i++[U]))) w (dI q b (d+1)).of F (NL v B.eF (eo q.of b) K L C cx));rw[b3,show vB vQ=(r.id,cD.h r.aP 1 3 (aa k (r.l.filter λM=>!iA (dI q b<|d+1).of w M))) by rw[bI];rfl];grind[tj,FP];rw[bP];refine ke [(6000,6000),(6001,6001),(6002,6002),(6003,6003),(6004,6004),(6005,5001),(6006,6006),(5002,5002)] (λ_=>dJ (pre++aU (d+1) s)++dJ F) (dJ<|pre++aU (d+1) s) (λJ b8=>?_) (f:=bm) (zC:=vW) (zB:=λ_ _=>vW);refine bc ?_;exact a0 (d+1,pre++aU (d+1) s,F,J.1,J.2) ⟨o,b0,b8,pre,p⟩ o
 try simp only[bg] at bh
 obtain rfl:d=Q (eo q.of b):=o;rw[aqN] at T aA⊢;exact apt (dJ i) ⟨_,vW⟩<|rh (i,K,L) ⟨T,aA⟩
def HR(b:dT):V:=.a 1<|aa k b.l
def C1(b:dT):V:=if b.l=[] then .ba else .a 1 (aa k b.l)
def ZL:Ew gc C1 rz:=λb=>by unfold rz C1 gc;grind
def bm.aqi{m:db}{t:X (Z×V)}{n:Act}{u:World}{k:bh}{g i j:Z}{r:aw}{b:X dT}{c Qd:b0}(q:bm m ⟨t,cQ b++(g,.h i j r (aa gc b))::c⟩ n u k)(f:cW (v6 g i j (aa HR b)) c Qd):∃v,bm m ⟨t,Qd⟩ n u v:=by
 let⟨w,s⟩:=bm.nest ZL b [] [] c k q;let x:=by refine s.ra (Un:=(g,.h i j r<|aa HR b)::c) (bh.le.refl w) s.dt oW.g2 (oW.one (G:=1)) (λD A f=>⟨A,f,.refl _⟩) ?_;refine cW.h _ _ _ _ _ _ av (λz B C d e=>?_)<|cW.refl _;rw[tv,c4] at d;rw[c4] at e;cases y:b[z]? with|none=>simp_all|some E=>rw[y] at d e;cases d;cases e;unfold C1 HR;split;rename_i l;rw[l];exact .base _ _ .nil;exact .refl _
 exact bm.aa1 x f
def aoq{b:bU}{d:Z}{c:cj}(q:cx b d=W c):hL b d c=b:=by grind[Lx]
theorem ayD{i n r j:Z}{f g:X V}{e:Z}(s:j=Q g)(q:f[e]?=W (.bO i n 0 j))(d:Z)(k m:V)(c:f[d]?=W k)(b:(aK f e (.a r g))[d]?=W m):gv (v6 i n r g) k m:=by subst s;rw[rO] at b;by_cases l:e=d;subst l;rw[ae p] at b;split at b;cases b;rw[q] at c;cases c;exact .base _ _ .aq;trivial;rw[ab l] at b;rw[c] at b;cases b;exact .refl _
def Hf(I:fa)(l:Z):X (X Z):=(bJ<|Q I.b3).map λb=>(bJ<|Q I.b3).filter λc=>aL<|lE I c l=b
def tQ(I:fa)(l:Z):V:=.a 1<|aa b6<|Hf I l
def ll(I:fa)(l:Z):X V:=(bJ<|Q I.fst).map λb=>if b<l then tQ I b else .ba
def mE(I:fa):Z->V->X V|0,_=>ll I 0|l+1,K=>aK (ll I l) l K
def afq{I:fa}{l b:Z}(c:b<Q I.fst):(ll I l)[b]?=W (if b<l then tQ I b else .ba):=by grind[ll,List.getElem?_range]
def avi{I:fa}{l:Z}(c:l<Q I.fst):aK (ll I l) l (tQ I l)=ll I (l+1):=by refine jI λd=>?_;rw[rO];by_cases b:l=d;subst b;rw[ae p,afq c,ae<|xp _,ae (by(simp[ll,bg,i1];omega))];grind[List.getElem?_eq_none,ll,List.length_map,List.length_range]
def avh(I:fa):ll I (Q I.fst)=aa (tQ I) (bJ (Q I.fst)):=by(simp[ll,iF,ae,g4];omega)
def KE(I:fa)(l:Z)(K:V)(d:b0):Prop:=l=0/\d=[]\/∃c id e b,l=c+1/\c<Q I.fst/\K=.bO id e 0 (Q I.b3)/\d=(id,.h e 1 64<|aa gc b)::cQ b/\ew b=Hf I c
def bm.Mb{I:fa}{A:Z}{K:V}(E:KE I A K M.g)(e:Z){i:Z}{f:aw}(x:cx M.au e=W (.h i f (mE I A K))){c:ce}{k:Act}{t:World}{v:bh}(l:bm m (M.ay c) k t v):∃r,bm m ((⟨M.b,hL M.au e (.h i f (ll I A)),[]⟩:aI).ay c) k t r:=by
 rcases E with⟨rfl,u⟩|⟨d,id,j,s,rfl,y,rfl,D,w⟩;rw[show cj.h i f (ll I 0)=cj.h i f (mE I 0 K) from p,aoq x];have:M=⟨M.b,M.au,[]⟩:=by cases M;subst u;rfl
 grind;obtain⟨n,q,B,u⟩:=Lx x;have G:(mE I (d+1) (.bO id j 0 (Q I.b3)))[d]?=W (.bO id j 0 (Q I.b3)):=by show(aK (ll I d) d _)[d]?=_;rw[Wr];unfold ll;rw[bg,i1];exact y
 have N:=by have:=ep Q w;rw[Dm] at this;unfold Hf at this;rwa [bg,i1] at this
 have F:V.a 1 (aa HR s)=tQ I d:=by unfold tQ;rw[<-w,ew,gh];rfl
 have z:aX c M.au=aX c n++((c e).1,.h (c e).2 i f (mE I (d+1) (.bO id j 0 (Q I.b3))))::aX c q:=by rw[B];simp[aX,dn];rfl
 have C:bm m ⟨dy c M.b,cQ s++(id,.h j 1 64 (aa gc s))::(aX c n++((c e).1,.h (c e).2 i f (mE I (d+1) (.bO id j 0 (Q I.b3))))::aX c q)⟩ k t v:=by refine⟨l.dt.perm ?_,l.b,l.hv,l.size,l.defers⟩;show hI _ (M.g++aX c _);rw[z,D];refine tj λk=>?_;simp[GI,Kd];omega
 obtain⟨r,L⟩:=bm.aqi (Qd:=aX c n++((c e).1,.h _ i f _)::aX c q) C (by refine cW.qi ?_<|cW.refl _;exact cW.h _ _ _ _ _ _ av (ayD a2 G)<|cW.refl _);refine⟨r,?_⟩;have H:aK (mE I (d+1) (.bO id j 0 (Q I.b3))) d (.a 1 (aa HR s))=ll I (d+1):=by show aK (aK (ll I d) d _) d _=_;rw[Cd,F,avi y]
 have J:aX c (hL M.au e (.h i f (ll I (d+1))))=aX c n++((c e).1,.h (c e).2 i f (ll I (d+1)))::aX c q:=by rw[u];simp[aX,dn];rfl
 show bm m ⟨dy c _,[]++aX c _⟩ k t r;simp_all
def aZ.Mb{I:fa}{A:Z}{K:V}{d:b0}(s:KE I A K d)(c:Z){f:Z}{e:aw}(q:aZ P m i l ⟨M.b,hL M.au c (.h f e (ll I A)),[]⟩ al)(w:cx M.au c=W (.h f e (mE I A K)):=by rfl)(r:M.g=d:=by rfl):aZ P m i l M al:=⟨λy k t n x z u=>by subst r;let⟨j,v⟩:=bm.Mb s c w u;exact q.run y k t n x j v⟩
def apv{n:ce}{k:X ResultVar}{e:V->b0->Prop}{j:Exit}{I:fa}{A:Z}{K:V}{d:b0}(u:KE I A K d)(c:Z){l:Z}{f:aw}(q:jl P m i n k e j ⟨M.b,hL M.au c (.h l f (ll I A)),[]⟩)(y:cx M.au c=W (.h l f (mE I A K)):=by rfl)(t:M.g=d:=by rfl):jl P m i n k e j M:=⟨q.he,λB x s z C v=>by subst t;let⟨r,w⟩:=bm.Mb u c y v;exact q.run B x s z r w⟩
def aZ.amu{c:Type}{H:c->Prop}{eO:c->aI}(d:∀al:Exit->aI->Prop,(∀b,H b->al gA (eO b))->aZ P m i l M al)(e:∀b,H b->al gA (eO b)):aZ P m i l M al:=d al e
theorem aZ.yA(c:Z)(q:∀s,aZ P m i l {M with g:=M.g++[(s,.jH c)]} al):aZ P m i l M al:=⟨λe f k j t d r=>(q d.n).run e f k j t _ (by have:=r.yA c;refine⟨this.dt.perm ?_,this.b,this.hv,this.size,this.defers⟩;show hI (M.g++[(d.n,cD.jH c)]++aX e _) (M.g++aX e _++[(d.n,cD.jH c)]);grind[List.append_assoc,List.Perm.append_left,List.perm_append_comm])⟩
section
attribute [local irreducible] ei
def ui(b:X Z):V:=c3 b
def ZO(b:Z->Z):(mw b).ints=(bJ 32).map λA=>((b A:Z):J):=by rfl
theorem acH:Cu fT ui:=λf g d e=>by
 show aL ((c3 f).ints=(c3 g).ints)=aL _;refine qW.2 ⟨λq=>?_,λq=>by rw[q]⟩;unfold c3 at q;rw[ZO,ZO] at q;refine aA0 (T:=32) d.1 e.1 (λc b=>by have:=d.2 c b;omega) (λc b=>by have:=e.2 c b;omega) λA j=>?_;let i:((bJ 32).map λA=>(ei f A:J))[A]?=((bJ 32).map λA=>(ei g A:J))[A]?:=by rw[q]
 grind
def Ti{iI:X Z}:r2 .u64 32 (ui iI):=⟨aa _<|bJ 32,a3,bp ⟨32,p⟩⟩
def acI{c:Z->V}{b:X (X Z)}:vr .u64 32 (fO ui c b):=acj λd _=>Ti (iI:=d)
def aiD:uT b5 228 .u64 32:=⟨226,32,256,8,8,⟨av,cR⟩,⟨av,cR⟩,⟨cR⟩⟩
def adm{c:Type} [iu c]{H:c->Prop}{e:c->V}{s:Z->Z}{f:Value}(g:Cu H e){U:c}{b:X c}(i:H U)(q:∀m∈b,H m)(j:V.const f=k 0):Is (fO e (λl=>k<|s l) b) (e U) f af=cs [k (mY s b U),a6 (wT b U)]:=by rw[ar8 g i q];unfold mY;by_cases d:U∈b;rw[ae d,ae d];rfl;rw[ab d,ab d,j];rfl
abbrev yB(b:bd)(M:b1)(c l:Z):X iR:=lB (fu b M) [ah] ah c l
abbrev ed(b:bd)(M:b1)(c l:Z):X (X Z):=iE<|yB b M c l
def azB(c:bd)(M:b1){e:iR}:∀b∈fu c M e,b≠ah:=λb d=>by obtain⟨f,_,rfl⟩:=cV.1 d;exact nofun
def Ge(b:bd)(M:b1)(d l:Z):ni (yB b M d l):=ni.jp _ (by simp[DS,DR]) λe c=>azB b M e<|tu c
def OG{s:bd}{M:b1}(b l:Z):Q (yB s M b l)=Q (ed s M b l)+1:=by have:=ep Q<|Ge s M b l;simp_all
def MN(s:bd)(M:b1)(b:Z){l:Z}(f:l<=256):Q (ed s M b l)<=Q (ed s M b 0)+256:=by
 let d:=OG (s:=s) (M:=M) b l;let c:=OG (s:=s) (M:=M) b 0;let e:Q (yB s M b l)<=Q (cB (fu s M) [ah] b)+l:=by refine dK (LG _ _) ?_;rw[mK];omega
 rw[show yB s M b 0=cB _ _ b from xH b] at c;omega
def uq(b:bd)(c:X Z)(l:Z):X Z:=qD b.aE c<|z (ds b) l 0
def aio{b:bd}{M:b1}{e l:Z}{c:X Z}(f:oM b M (hM (fu b M) [ah] ah e)=c)(d:l<Q (ds b)):z (fu b M (hM (fu b M) [ah] ah e)) l ah=W (uq b c l):=by rw[dm,ail d];rw[Hx b M _<|E9<|cT d,f];rfl
theorem amj{c:bd}{b:X Z}(d:fT b)(e:∀f∈b,f<Q c.aE)(l:Z):EF b (D1 c (z (ds c) l 0))=uq c b l:=SK (Mw d.1) (Mw d.1) λg=>by rw[adS];exact(auU e _ g).symm
def auO{s:bd}{b:X Z}(c:fT b)(l:Z):fT (uq s b l):=Ul c
def atG{b:bd}{M:b1}{c l:Z}{d:X Z}(i:c<Q (cB (fu b M) [ah] c))(e:oM b M (hM (fu b M) [ah] ah c)=d)(g:l<Q (ds b))(j:uq b d l∉ed b M c l):ed b M c (l+1)=ed b M c l++[uq b d l]/\Q (ed b M c l)+1=n3 (fu b M) [ah] ah c l:=by
 have f:=aio e g;have k:z (fu b M (hM (fu b M) [ah] ah c)) l ah∉lB (fu b M) [ah] ah c l:=by rw[f];exactλq=>j<|((Ge b M c l).mem _).1 q
 let⟨m,n⟩:=NH av i aY k;simp_all[OG,ed,yB,iE,List.filterMap_append]
def atH{b:bd}{M:b1}{c l:Z}{d:X Z}(m:c<Q (cB (fu b M) [ah] c))(j:oM b M (hM (fu b M) [ah] ah c)=d)(k:l<Q (ds b))(g:uq b d l∈ed b M c l):ed b M c (l+1)=ed b M c l/\mY lK (ed b M c l) (uq b d l)=n3 (fu b M) [ah] ah c l:=by
 let f:=aio j k;let n:z (fu b M<|hM (fu b M) [ah] ah c) l ah∈lB (fu b M) [ah] ah c l:=by rw[f];exact((Ge b M c l).mem _).2 g
 let⟨q,e⟩:=NI m aY n;refine⟨aY,?_⟩;rw[f] at e;rw[Fo g,<-e];let i:=Ge b M c l;show lK _=hn (yB b M c l) _;rw[i,abK];rfl
def lP(b:bd):X (X Z):=aa (D1 b)<|ds b
def aja{b:bd}{l:Z}(c:l<Q (ds b)):z (lP b) l []=D1 b (z (ds b) l 0):=by grind[lP,List.getElem?_eq_getElem]
def ap6(s:bd)(M:b1)(b:Z)(j:b<Q (cB (fu s M) [ah] b))(d:X Z)(v:oM s M (hM (fu s M) [ah] ah b)=d)(y:fT d)(K:∀G∈d,G<Q s.aE)(D:∀l,∀H∈ed s M b l,fT H)(N:Q (ed s M b 0)<=10000)(ac i:X V)(u:X (X Z))(r:X Y):dF 201 [c 6000,c 6001,c 6002,c 6003,c 6004] [(6000,ag 228 (c3 d)),(6001,ag 231 (c 6005)),(6002,ag 222 (c 6006)),(6003,ag 282 (.eW 6009)),(6005,ag 234 (hD (l2 s) (.a 1 (aa k (ds s))) (.aq 6007 0 (Q ac)) (.aq 6008 0 (Q i)))),(6006,ag 225 (ox u r (lP s))),(6007,.h 1 4 ac),(6008,.h 1 64 i),(6004,ag 223 (.aq 5001 0 (Q (aa c3 (ed s M b 0))))),(6009,h8 (fO ui (λg=>k<|lK g) (ed s M b 0)) (Q (ed s M b 0))),(5001,.h 32 228 (aa c3 (ed s M b 0)))] (.a 1 (aa k (ii (n3 (fu s M) [ah] ah b) (Q<|ds s) (Q<|ds s)))) [(6000,ag 228 (c3 d)),(6001,ag 231 (c 6005)),(6002,ag 222 (c 6006)),(6003,ag 282 (.eW 6009)),(6005,ag 234 (hD (l2 s) (.a 1<|aa k<|ds s) (.aq 6007 0<|Q ac) (.aq 6008 0<|Q i))),(6006,ag 225 (ox u r (lP s))),(6007,.h 1 4 ac),(6008,.h 1 64 i),(6004,ag 223 (.aq 5001 0 (Q<|aa c3<|ed s M b<|Q<|ds s))),(6009,h8 (fO ui (λg=>k<|lK g) (ed s M b<|Q<|ds s)) (Q (ed s M b<|Q<|ds s))),(5001,.h 32 228 (aa c3 (ed s M b<|Q<|ds s)))]:=by
 refine dN func201 [] λal m L=>?_;have B:=Ll s;have hm:=H2 s;have w:Q (aa k (ds s))=Q (ds s):=bg ..;refine io (.a 1<|aa k<|ds s) ?_ (eM:=l3 B _ _ _ 0);refine kF (Q<|ds s) (Q<|ds s) (aa k<|ii (n3 (fu s M) [ah] ah b) (Q<|ds s) 0) ?_ (j:=ep nK w) (j1:=ep nK w) (aW:=WK);refine eC (Q<|ds s) (λl=>⟨[(0,c 6000),(2,c 6002),(3,c 6003),(4,c 6004),(7,.aq 17 0<|Q<|ds s),(19,k<|Q<|ds s),(20,k l)],[(17,.h 1 3<|aa k<|ii (n3 (fu s M) [ah] ah b) (Q<|ds s) l),(6007,.h 1 4 ac),(6008,.h 1 64 i),(5001,.h 32 228<|aa c3<|ed s M b l),(6000,ag 228<|c3 d),(6001,ag 231<|c 6005),(6002,ag 222<|c 6006),(6003,ag 282<|.eW 6009),(6004,ag 223<|.aq 5001 0<|Q<|aa c3<|ed s M b l),(6005,ag 234<|hD (l2 s) (.a 1<|aa k<|ds s) (.aq 6007 0<|Q ac)<|.aq 6008 0<|Q i),(6006,ag 225<|ox u r<|lP s),(6009,h8 (fO ui (λg=>k<|lK g)<|ed s M b l)<|Q<|ed s M b l)],[]⟩) λl O=>?_;apply e<;>intro P
 .have n:l<Q (ds s):=o;have U:=aja n;have ak:l<Q (lP s):=by unfold lP;rw[bg];exact n
  have F:=auO (s:=s) y l;have R:=MN s M b (l:=l+1) o;refine aZ.eQ 1009 SB.size 228 [] ah ?_;refine eS ?_;refine br (λ_=>ho p (a7:=tY)) ?_;refine br (λ_=>bi l (c3<|D1 s<|z (ds s) l 0) p (j:=ap)) ?_;refine br (λ_=>cf p (f:=avX d<|D1 s<|z (ds s) l 0)) ?_;refine D5 1009 9 ?_;refine D6 (c3<|uq s d l) ?_ rg (Sz:=by grind[amj]) (fN:=a3);refine fZ ?_;refine ho ?_ (a7:=tY);refine aeo (cs [k (mY lK (ed s M b l)<|uq s d l),a6<|wT (ed s M b l)<|uq s d l]) ?_ aiD Ti acI (eM:=adm acH F (D l) p);apply e<;>intro A
  focus
   have E:uq s d l∉ed s M b l:=λq=>by grind[te,b9]
   let⟨t,x⟩:=atG j v n E;have S:=MN s M b (l:=l) o;have T:Q (aa c3 (ed s M b l))=Q (ed s M b l):=bg ..;refine e6 ((n3 (fu s M) [ah] ah b l:Z):J) ?_;refine ho ?_ (a7:=tY);refine aep (fO ui (λg=>k<|lK g)<|ed s M b<|l+1) (Q<|ed s M b<|l+1) ?_ aiD Ti acI (show zN (fO ui (λg=>k<|lK g) (ed s M b l)) (Q (ed s M b l)) (ui (uq s d l)) (k (n3 (fu s M) [ah] ah b l))=(fO ui (λg=>k<|lK g) (ed s M b<|l+1),Q (ed s M b<|l+1)) by grind[ack,k,lK,acH]);refine ho ?_ (a7:=tY);refine er ?_ (hlen:=λI bA=>by rw[ea.1 bA];rfl);refine e7 (aa c3<|ed s M b<|l+1) ?_ (aH:=a3) (hl:=.a p p p p λI bA=>by rw[ea.1 bA];rfl) (aW:=by rw[t,dn];rfl) (bQ:=a2)
  rotate_left
  focus have C:uq s d l∈ed s M b l:=te.1<|GF.1 A;let⟨t,x⟩:=atH j v n C;rw[x,<-t]
  all_goals refine cC l ?_ (j:=o);refine gN (aa k<|ii (n3 (fu s M) [ah] ah b) (Q<|ds s)<|l+1) (k 0) (k<|n3 (fu s M) [ah] ah b l) ?_ (j:=P2) (aW:=by grind[List.map_set,Jk]);refine bc ?_;exact a0<|l+1
 obtain rfl:l=Q (ds s):=o;exact zp 17 (Q<|ds s) (show Q (aa k (ii (n3 (fu s M) [ah] ah b) (Q (ds s)) (Q (ds s))))=Q (ds s) by rw[bg,OD]) cE
def Me(b:bd)(e:X Z)(ac d:X V)(g:X (X Z))(f:X Y):bU:=[(6000,ag 228<|c3 e),(6001,ag 231<|c 6005),(6002,ag 222<|c 6006),(6003,ag 282<|.eW 6009),(6005,ag 234<|hD (l2 b) (.a 1<|aa k<|ds b) (.aq 6007 0<|Q ac)<|.aq 6008 0<|Q d),(6006,ag 225<|ox g f<|lP b),(6007,.h 1 4 ac),(6008,.h 1 64 d)]
def Fa(b:X (X Z)):bU:=[(6004,ag 223<|.aq 5001 0<|Q<|aa c3 b),(6009,h8 (fO ui (λc=>k<|lK c) b)<|Q b),(5001,.h 32 228<|aa c3 b)]
def aaN(b:bd)(M:b1)(d:Z)(q:d<Q (cB (fu b M) [ah] d)){iI:X Z}(i:oM b M (hM (fu b M) [ah] ah d)=iI)(m:fT iI)(j:∀s∈iI,s<Q b.aE)(r:∀l,∀t∈ed b M d l,fT t)(n:Q (ed b M d 0)<=10000)(ac f:X V)(g:X (X Z))(e:X Y):dF 201 [c 6000,c 6001,c 6002,c 6003,c 6004] (Me b iI ac f g e++Fa (ed b M d 0)) (.a 1 (aa k (ii (n3 (fu b M) [ah] ah d) (Q (ds b)) (Q (ds b))))) (Me b iI ac f g e++Fa (ed b M d (Q (ds b)))):=ap6 b M d q iI i m j r n ac f g e
end
section
attribute [local irreducible] ei
def P_(c:Z)(e:iR):Prop:=∀b,e=W b->fT b/\∀d∈b,d<c
theorem aim{b:bd}{M:b1}{c:Z}(i:Q b.aE=c)(j:pF b.cp)(g:nf b)(d:fB M c)(u:iR):∀e∈fu b M u,P_ c e:=λe l q f=>by obtain⟨n,_,rfl⟩:=cV.1 l;cases f;exact⟨Ul<|aie j d.ok (u:=u),λm k=>aid i g d u m (mL.1 k).1⟩
def aym{b:bd}{M:b1}{c:Z}(i:Q b.aE=c)(k:pF b.cp)(g:nf b)(j:fB M c)(e l:Z):∀d∈yB b M e l,P_ c d:=λd m=>by let q:∀d∈cB _ [ah] e,P_ c d:=tP (λf n=>by rw[ea.1 n];exact nofun) (λf _=>aim i k g j f) e;rcases(zn _ _ _).1 m with b|b;simp_all;grind[aim,List.mem_of_mem_take]
def S4{b:bd}{M:b1}{d:Z}(g:Q b.aE=d)(j:pF b.cp)(f:nf b)(i:fB M d)(e l:Z):∀c∈ed b M e l,fT c/\∀m∈c,m<d:=λc k=>
 aym g j f i e l _ (((Ge b M e l).mem c).2 k) c p
def ace(b:bd)(M:b1){c:Z}(d:c<Q (cB (fu b M) [ah] c)):ed b M c (Q (ds b))=ed b M (c+1) 0:=by unfold ed yB;simp_all[K7,VH,bz,xH]
def S3(s:bd)(M:b1)(b:Z):Q (cB (fu s M) [ah] b)=Q (ed s M b 0)+1:=by have:=OG (s:=s) (M:=M) b 0;trivial
def aot(b:bd)(M:b1):oM b M (hM (fu b M) [ah] ah 0)=M.first:=p
def aos(c:bd)(M:b1){b:Z}(f:b<Q (ed c M (b+1) 0)):hM (fu c M) [ah] ah (b+1)=W (z (ed c M (b+1) 0) b []):=by let d:=Ge c M (b+1) 0;unfold ni at d;unfold hM;let e:cB _ _ _=yB c M (b+1) 0:=bG<|xH _;grind
def nP(b:bd)(M:b1)(c:Z):X V:=(bJ c).map λd=>a_<|r3 M<|hM (fu b M) [ah] ah d
def ph(b:bd)(M:b1)(c:Z):X V:=(bJ c).map λd=>.a 1<|aa k<|ii (n3 (fu b M) [ah] ah d) (Q<|ds b)<|Q<|ds b
def Qf(c:bd)(M:b1)(b:Z):Q (nP c M b)=b:=by rw[nP,bg,i1]
def Uj(c:bd)(M:b1)(b:Z):Q (ph c M b)=b:=by rw[ph,bg,i1]
def akR(b:bd)(M:b1)(c:Z):nP b M (c+1)=nP b M c++[a_ (r3 M (hM (fu b M) [ah] ah c))]:=by simp[nP,vX,dn]
def auK(b:bd)(M:b1)(c:Z):ph b M (c+1)=ph b M c++[.a 1 (aa k (ii (n3 (fu b M) [ah] ah c) (Q (ds b)) (Q (ds b))))]:=by simp[ph,vX,dn]
def azC{c:bd}{M:b1}{b:Z}(f:b<=2999)(q:Q (ed c M (b+1) 0)<=b)(g:b<Q (cB (fu c M) [ah] (b+1))):c8 c M 3000=cB (fu c M) [ah] (b+1)/\Q (c8 c M 3000)=b+1:=by let d:=S3 c M<|b+1;let e:cB _ _ 3000=cB (fu c M) [ah] (b+1):=sX o o;grind[DS]
def akQ{c:bd}{M:b1}{b:Z}{al:X iR}(f:al=cB (fu c M) [ah] (b+1))(g:Q al=b+1):nP c M (b+1)=(s1 c M al).acc.map a_:=by
 show _=aa a_ (aa _ al);refine jI λcr=>?_;unfold nP;by_cases l:cr<b+1;let d:cr<Q al:=o;let e:cr<Q (cB (fu c M) [ah] cr):=by refine Ch λI=>?_;have:=sX (cr:=b+1) I o;rw[<-f] at this;rw[this] at d;omega
 have:=zX (o4<|show cr<=b+1 by omega)<|zj (I:=ah) e;simp_all;simp_all
def auJ{b:bd}{M:b1}{E:Z}{al:X iR}(c:al=cB (fu b M) [ah] (E+1))(d:Q al=E+1):ph b M (E+1)=(s1 b M al).b3.map b6:=by
 show _=aa _ (aa _ al);let f:Q (cB (fu b M) [ah] (E+1))=E+1:=by rw[<-c,d]
 have:=aha (b7:=[ah]) (I:=ah) (E:=E+1) av (λe=>VH b M e) o o;rw[c,<-this,gh];rfl
def nU(I:fa):V:=hD I.wk (.a 1<|aa k I.fst) (.a 1<|aa a_ I.acc)<|.a 1<|aa b6 I.b3
def k8(b:bd)(M:b1):X Y:=(bJ<|Q b.aE).map λc=>aL<|c∈M.last
theorem Z3(b:bd)(M:b1):Q (k8 b M)=Q b.aE:=by rw[k8,bg,i1]
def alz{d:Z}{M:b1}{b:X Z}(q:∀e∈b,e<d):(b.any λc=>z ((bJ d).map λc=>aL<|c∈M.last) c ad)=r3 M (W b):=by show _=b.any _;grind
def ais(b:bd)(M:b1)(aK:Q b.cp=Q b.aE)(ax:Q b.aE<=2000)(q:pF b.cp)(n:nf b)(i:fB M (Q b.aE)){al:X iR}(E:al=c8 b M 3000){B:V}{y:bU}(N:Q al<=3000->B=an aj 0/\y=[(6000,ag 234 (nU (s1 b M al))),(6001,ag 225 (ox b.cp (k8 b M) (lP b)))])(O:3000<Q al->B=an aj 3/\y=[(6001,ag 225 (ox b.cp (k8 b M) (lP b)))]):dF 148 [c 6000,c 6001,c3 M.first,a_ M.empty] [(6000,ag 234 (hD (l2 b) (.a 1 (aa k (ds b))) .ba .ba)),(6001,ag 225 (ox b.cp (k8 b M) (lP b)))] B y:=by
 refine dN func148 [2004,2010] λaN m F=>?_;have r:=F.uf;have t:=F.a7;have g:=Ll b;have aA:Q (ed b M 0 0)=0:=p;have D:(0:Z)<Q (cB (fu b M) [ah] 0):=GQ;have U:=λl C w=>(S4 p q n i 0 l C w).1;have S:=MN b M 0 (l:=Q<|ds b)<|H2 b;have K:=ace b M D;rw[K] at S;refine aZ.eQ 1403 32 228 [] (W (10,0)) ?_;refine aZ.u6 1401 1 4 6000 1 ?_;refine aZ.u6 1402 1 64 6000 2 ?_;refine n7 ⟨[(3,a_ M.empty),(4,c 4),(5,c 5),(6,c 6),(10,c 10),(11,e4 (dp 201) [] [c 4,c 5,c 9,c 10])],[(4,ag 231<|c 6000),(5,ag 222<|c 6001),(6,ag 228<|c3 M.first),(9,ag 282<|.eW 15),(10,ag 223<|.aq 1403 0 0),(15,h8 [] 0),(1403,.h 32 228 []),(1401,.h 1 4 []),(1402,.h 1 64 []),(6000,ag 234<|hD (l2 b) (.a 1<|aa k<|ds b) (.aq 1401 0 0)<|.aq 1402 0 0),(6001,ag 225<|ox b.cp (k8 b M)<|lP b)],[]⟩ ?_;refine dM ?_;refine aZ.RA [0,1,2,3,4,5,6,10,11,12,13,14,15,7,8,9,16,17,18,19,20,21,22] [0,1,2,3,4,5,6,13,14,15,7,8,9,10,11,12,16,17,18,19,20,21,22] [13] _ e1 bq r gw t a3 (by conv=>lhs;reduce) a3 a3 ?_;refine br (λ_=>io (.aq 1402 0 0) p (eM:=l3 g _ _ _ 2)) ?_;refine br (λ_=>io (.aq 1401 0 0) p (eM:=l3 g _ _ _ 1)) ?_;refine br (λ_=>lf p) ?_;refine V_ ?_;refine JX [(6000,6),(6001,4),(6002,5),(6003,9),(6004,10),(6005,6000),(6006,6001),(6007,1401),(6008,1402),(6009,15),(5001,1403)] [] (Me b M.first [] [] b.cp<|k8 b M) (Fa<|ed b M 0 0) (Fa<|ed b M 0<|Q<|ds b) ?_<|aaN b M 0 D (iI:=M.first) (aot b M) i.ok.1 i.f U o [] [] b.cp<|k8 b M;rw[K];refine br (λ_=>lf p) ?_;refine p7 ?_;refine lS 26 (ph b M 1) ?_ (hl:=.a p p p p λI bA=>by rw[ea.1 bA];rfl) (aW:=a3) (bQ:=by simp[Uj]);refine p7 ?_;refine lS 33 (nP b M 1) ?_ (aW:=a3) (bQ:=by simp[Qf]);refine p7 ?_;refine Af (hD (l2 b) (.a 1<|aa k<|ds b) (.aq 1401 0 0)<|.aq 26 0<|Q<|ph b M 1) ?_ (lI:=Au) (aW:=AX g _ _ _ _ 2);refine p7 ?_;refine Af (hD (l2 b) (.a 1<|aa k<|ds b) (.aq 33 0<|Q<|nP b M 1)<|.aq 26 0<|Q<|ph b M 1) ?_ (lI:=Au) (aW:=AX g _ _ _ _ 1);refine kU [(26,1402),(33,1401)] ?_;refine dv Z (λd=>⟨[(4,c 4),(5,c 5),(10,c 10),(11,e4 (dp 201) [] [c 4,c 5,c 9,c 10]),(12,k d)],[(1403,.h 32 228<|aa c3<|ed b M (d+1) 0),(1401,.h 1 4<|nP b M<|d+1),(1402,.h 1 64<|ph b M<|d+1),(4,ag 231<|c 6000),(5,ag 222<|c 6001),(9,ag 282<|.eW 15),(10,ag 223<|.aq 1403 0<|Q<|aa c3<|ed b M (d+1) 0),(6000,ag 234<|hD (l2 b) (.a 1<|aa k<|ds b) (.aq 1401 0<|Q<|nP b M<|d+1)<|.aq 1402 0<|Q<|ph b M<|d+1),(6001,ag 225<|ox b.cp (k8 b M)<|lP b),(15,h8 (fO ui (λx=>k<|lK x)<|ed b M (d+1) 0)<|Q<|ed b M (d+1) 0)],[]⟩) (λd=>d<=Q (ed b M (d+1) 0)/\Q (ed b M (d+1) 0)<=3300/\d<=2999) (λd=>3000-d) 0 (λd ⟨aF,aG,R⟩=>?_) ⟨dO _,o,o⟩;have aH:=S3 b M<|d+1;have aJ:Q (aa c3 (ed b M (d+1) 0))=Q (ed b M (d+1) 0):=bg ..;apply e<;>intro aB
 .have s:d<Q (ed b M (d+1) 0):=o;have G:d+1<Q (cB (fu b M) [ah] (d+1)):=o;obtain⟨aw,au⟩:=S4 p q n i (d+1) 0 _<|cT (I:=[]) s;have H:=aos b M s;have aD:=(QL (succ:=fu b M) (b7:=[ah])<|d+1).length_le;have aI:=S3 b M<|d+1+1;have T:=MN b M (d+1) (l:=Q<|ds b)<|H2 b;have L:=ace b M G;rw[L] at T;have Y:=λl C w=>(S4 p q n i (d+1) l C w).1;have am:Q (cB (fu b M) [ah] (d+1))<=Q (c8 b M 3000):=by rw[<-DS];exact(o4 o).length_le
  rw[<-E] at am;have ar:oM b M (hM (fu b M) [ah] ah (d+1))=nQ b.cp (z (ed b M (d+1) 0) d []):=by rw[H];rfl
  have P:nP b M (d+1+1)=nP b M (d+1)++[a_ (r3 M (W (z (ed b M (d+1) 0) d [])))]:=by rw[akR,H]
  have ak:=auK b M<|d+1;have ay:=Qf b M<|d+1;have aL:=Uj b M<|d+1;have az:=Qf b M<|d+1+1;have aM:=Uj b M<|d+1+1;refine e6 ((Q (ed b M (d+1) 0)+1:Z):J) ?_;apply e<;>intro aC
  .obtain⟨rfl,rfl⟩:=O o;exact cE
  refine dM ?_;refine aZ.eQ 1013 SB.size 228 [] ah ?_;refine aZ.RA [0,1,2,3,8,4,5,6,7,9,10] [0,1,2,3,5,6,7,8,4,9,10] [5] _ e1 bq r gw t a3 (by conv=>lhs;reduce) a3 a3 ?_;refine br (λ_=>cC d p (j:=o)) ?_;refine p7 ?_;refine D5 1013 13 ?_;refine V_ ?_;refine JX [(6003,6001),(6004,1403)] [] [(6004,.h 32 228<|aa c3<|ed b M (d+1) 0),(6003,ag 225<|ox b.cp (k8 b M)<|lP b)] [] [] ?_<|aBe b.cp (k8 b M) (lP b) (z (ed b M (d+1) 0) d []) aw (aa c3<|ed b M (d+1) 0) d (apc s) (λA ao=>ap) λA ao=>by grind[Z3]
  rw[show((z (ed b M (d+1) 0) d []).any λA=>z (k8 b M) A ad)=r3 M (W<|z (ed b M (d+1) 0) d []) from alz au];refine p7 ?_;refine D6 (c3<|nQ b.cp<|z (ed b M (d+1) 0) d []) ?_ rg (fN:=a3);refine fZ ?_;refine n7 ⟨[(4,c 4),(5,c 5),(10,c 10),(11,e4 (dp 201) [] [c 4,c 5,c 9,c 10]),(12,k d),(13,c 13),(14,a_<|r3 M<|W<|z (ed b M (d+1) 0) d [])],[(13,ag 228<|c3<|nQ b.cp<|z (ed b M (d+1) 0) d []),(4,ag 231<|c 6000),(5,ag 222<|c 6001),(9,ag 282<|.eW 15),(10,ag 223<|.aq 1403 0<|Q<|aa c3<|ed b M (d+1) 0),(15,h8 (fO ui (λx=>k<|lK x)<|ed b M (d+1) 0)<|Q<|ed b M (d+1) 0),(1403,.h 32 228<|aa c3<|ed b M (d+1) 0),(1401,.h 1 4<|nP b M<|d+1),(1402,.h 1 64<|ph b M<|d+1),(6000,ag 234<|hD (l2 b) (.a 1<|aa k<|ds b) (.aq 1401 0<|Q<|nP b M<|d+1)<|.aq 1402 0<|Q<|ph b M<|d+1),(6001,ag 225<|ox b.cp (k8 b M)<|lP b)],[]⟩ ?_;refine aZ.RA [0,1,2,3,4,5,6,10,11,12,13,14,15,7,8,9,16,17,18,19,20,21,22] [0,1,2,3,4,5,6,13,14,15,7,8,9,10,11,12,16,17,18,19,20,21,22] [13] _ e1 bq r gw t a3 (by conv=>lhs;reduce) a3 a3 ?_;refine br (λ_=>io (.aq 1402 0<|Q<|ph b M<|d+1) p (eM:=l3 g _ _ _ 2)) ?_;refine br (λ_=>io (.aq 1401 0<|Q<|nP b M<|d+1) p (eM:=l3 g _ _ _ 1)) ?_;refine br (λ_=>lf p) ?_;refine V_ ?_;refine JX [(6000,13),(6001,4),(6002,5),(6003,9),(6004,10),(6005,6000),(6006,6001),(6007,1401),(6008,1402),(6009,15),(5001,1403)] [] (Me b (nQ b.cp<|z (ed b M (d+1) 0) d []) (nP b M<|d+1) (ph b M<|d+1) b.cp<|k8 b M) (Fa<|ed b M (d+1) 0) (Fa<|ed b M (d+1)<|Q<|ds b) ?_<|aaN b M (d+1) G ar (Qm q) (Xu n) Y o (nP b M<|d+1) (ph b M<|d+1) b.cp<|k8 b M;rw[L];refine br (λ_=>lf p) ?_;refine p7 ?_;refine lS 65 (ph b M<|d+1+1) ?_ (hl:=.a p p p p λI bA=>by rw[ea.1 bA];rfl) (aW:=bG ak) (bQ:=o);refine p7 ?_;refine lS 72 (nP b M<|d+1+1) ?_ (aW:=bG P) (bQ:=o);refine p7 ?_;refine Af (hD (l2 b) (.a 1<|aa k<|ds b) (.aq 1401 0<|Q<|nP b M<|d+1)<|.aq 65 0<|Q<|ph b M<|d+1+1) ?_ (lI:=Au) (aW:=AX g _ _ _ _ 2);refine p7 ?_;refine Af (hD (l2 b) (.a 1<|aa k<|ds b) (.aq 72 0<|Q<|nP b M<|d+1+1)<|.aq 65 0<|Q<|ph b M<|d+1+1) ?_ (lI:=Au) (aW:=AX g _ _ _ _ 1);refine kU [(65,1402),(72,1401)] ?_;refine bc ?_;exact a0 (d+1) ⟨o,o,o⟩
 obtain⟨u,v⟩:=azC R (show Q (ed b M (d+1) 0)<=d by omega) o;rw[<-E] at u v;obtain⟨rfl,rfl⟩:=N o;rw[akQ u v,auJ u v];exact ib 1401<|ib 1402 cE
end
def Po:cz b5 347 (dP 87) 1 24:=⟨av,cR⟩
def Pm:hs b5 87 1 24:=⟨cR⟩
def q7(I:fa)(l b:Z):X (X Z):=(bJ<|Q I.b3).map λc=>(bJ b).filter λd=>aL<|lE I d l=c
theorem QO(I:fa)(l b:Z):Q (q7 I l b)=Q I.b3:=by simp[q7,bg,i1]
def al_(I:fa)(l:Z):q7 I l 0=cM (Q I.b3) []:=by unfold q7;refine rN av λd b c=>av
theorem al9{I:fa}(l b:Z)(d:lE I b l<Q I.b3):q7 I l (b+1)=aK (q7 I l b) (lE I b l) (z (q7 I l b) (lE I b l) []++[b]):=by
 refine jI λc=>?_;rw[rO,QO];let e:∀c,c<Q I.b3->∀b,(q7 I l b)[c]?=W ((bJ b).filter λg=>aL<|lE I g l=c):=λc j b=>by grind[q7,List.getElem?_range]
 by_cases f:lE I b l=c;subst f;rw[ae p,ae d,e _ d,dm,e _ d,xr,vX,Wl];simp;by_cases i:c<Q I.b3;grind[List.range_succ,List.filter_cons_of_neg];grind[List.getElem?_eq_none,QO]
def aer{b:X dT}{A:Z}(q:A<Q b):cQ b=cQ (ak A b)++(rz (z b A ai)++cQ (aU (A+1) b)):=by grind[List.getElem?_eq_getElem,Nq,IF,VS]
def aes{b:X dT}{A:Z}(q:A<Q b)(c:dT):cQ (aK b A c)=cQ (ak A b)++(rz c++cQ (aU (A+1) b)):=by rw[Vo q,IF,Nq]
def al8{I:fa}{l b:Z}{c:X Z}(q:c∈q7 I l b):Q c<=b:=by unfold q7 at q;grind
def J0(I:fa)(b:X (Z×V))(d:bU)(e:b0):aI:=⟨(0,c 6000)::(3,.aq 12 0<|Q I.fst)::(14,k<|Q I.fst)::(30,.a 1<|aa b6 I.b3)::(31,k<|Q<|aa b6 I.b3)::b,(6000,ag 234<|nU I)::d,e⟩
def al0(I:fa)(bA:I.ok):dF 270 [c 6000] [(6000,ag 234 (nU I))] (.a 1 (aa (tQ I) (bJ (Q I.fst)))) [(6000,ag 234 (nU I))]:=by
 refine dN func270 [2004,2006] λa8 m S=>?_;have aL:=S.uf;have ao:=S.a7;have aO:=bA.f2;have aY:=bA.IB;refine io (.a 1<|aa k I.fst) ?_ (eM:=l3 bA.cl _ _ _ 0);refine kF (Q I.fst) (Q I.fst) (ll I 0) ?_ (j:=ep nK<|bg ..) (j1:=ep nK<|bg ..) (aW:=by unfold ll;refine rN av λE aI aJ=>?_;simp;rfl);refine dv (Z×V×b0) (λf=>⟨[(0,c 6000),(3,.aq 12 0<|Q I.fst),(14,k<|Q I.fst),(15,k f.1)],[(12,.h 1 87<|mE I f.1 f.2.1),(6000,ag 234<|nU I)],f.2.2⟩) (λf=>f.1<=Q I.fst/\KE I f.1 f.2.1 f.2.2) (λf=>Q I.fst-f.1) (0,.ba,[]) (λ⟨l,K,aH⟩ ⟨aG,M⟩=>?_) ⟨dO _,bl ⟨p,p⟩⟩;dsimp only at aG M⊢;apply e<;>intro aN
 .have r:l<Q I.fst:=o;have aD:(ll I l)[l]?=W .ba:=by rw[afq r,ab<|xo _]
  refine aZ.Mb M 12 ?_;refine dM ?_;refine io (.a 1<|aa b6 I.b3) ?_ (eM:=l3 bA.cl _ _ _ 2);refine kF (Q I.b3) (Q I.b3) (cM (Q I.b3) .ba) ?_ (j:=ep nK<|bg ..) (j1:=ep nK<|bg ..) (aW:=a3);refine cC l ?_ (j:=r);refine auZ 25 λid d=>?_;refine gN (mE I (l+1)<|.bO id d 0<|Q I.b3) .ba (.bO id d 0<|Q I.b3) ?_ (j:=aD) (aW:=a3);obtain⟨s,J⟩:∃s:X dT,s=cM (Q I.b3) ⟨0,0,[]⟩:=⟨_,p⟩;have P:aa gc s=cM (Q I.b3) .ba:=by rw[J,Ea];rfl
  have R:cQ s=[]:=by rw[J];unfold cQ;exact List.flatMap_eq_nil_iff.2 λa5 w=>by rw[yN w];rfl
  have ay:ew s=q7 I l 0:=by rw[al_,J];unfold ew;rw[Ea]
  refine aZ.ZA ((id,.h d 1 64<|aa gc s)::cQ s) (λH ar=>(by rw[P,R] at ar;exact ar)) ⟨[],(by rw[P,R];rfl)⟩ ?_;refine dM ?_;refine io (.a 1<|aa b6 I.b3) ?_ (eM:=l3 bA.cl _ _ _ 2);refine dv (Z×X dT) (λf=>J0 I [(4,k l),(15,k l),(32,k f.1)] [(12,.h 1 87<|mE I (l+1)<|.bO id d 0<|Q I.b3)] ((id,.h d 1 64<|aa gc f.2)::cQ f.2)) (λf=>f.1<=Q I.b3/\ew f.2=q7 I l f.1) (λf=>Q I.b3-f.1) (0,s) (λ⟨E,b⟩ ⟨aF,C⟩=>?_) ⟨dO _,ay⟩;dsimp only at aF C⊢;apply e<;>intro T
  .try simp only[bg] at T
   have am:E<Q I.b3:=o;have a4:=bA.rw E am;obtain⟨A,hk⟩:∃A,lE I E l=A:=⟨_,p⟩;have G:A<Q I.b3:=by rw[<-hk];exact bA.aiK E l am r
   have aM:Q b=Q I.b3:=by rw[<-Dm,C,QO]
   have t:A<Q b:=o;have aA:l<Q (z I.b3 E []):=o;have D:(aa k (z I.b3 E []))[l]?=W (k A):=by rw[eN aA,<-hk];rfl
   have U:(aa gc b)[A]?=W (gc (z b A ai)):=by rw[c4,dm,cm t];rfl
   have aS:A<Q (aa gc b):=by rw[bg];exact t
   have aQ:(mE I (l+1) (.bO id d 0 (Q I.b3)))[l]?=W (.bO id d 0 (Q I.b3)):=by show(aK (ll I l) l _)[l]?=_;rw[Wr];unfold ll;rw[bg,i1];exact r
   have au:∀O:dT,O.l=(z b A ai).l++[E]->ew (aK b A O)=q7 I l (E+1):=λO aW=>by grind[al9,zF,ew,List.map_set]
   have aV:(z b A ai).l.length<=100000:=by
    have:(z b A ai).l∈q7 I l E:=by rw[<-C];exact cV.2 ⟨_,cT t,p⟩
    have:=al8 this;omega
   refine bi E (b6<|z I.b3 E []) ?_ (j:=ap);refine n7 (J0 I [(4,k l),(5,k E),(6,.a 1<|aa k<|z I.b3 E []),(15,k l),(32,k E)] [(12,.h 1 87<|mE I (l+1)<|.bO id d 0<|Q I.b3)] ((id,.h d 1 64<|aa gc b)::cQ b)) ?_;refine aZ.amu (H:=λy:X dT=>ew y=q7 I l (E+1)) (eO:=λy=>J0 I [(4,k l),(15,k l),(32,k E)] [(12,.h 1 87<|mE I (l+1)<|.bO id d 0<|Q I.b3)] ((id,.h d 1 64<|aa gc<|y)::cQ y)) (λal Y=>?_) λy ax=>?_;by_cases w:(z b A ai).l=[];refine aZ.yA 1 λu=>?_;have aB:gc (z b A ai)=.ba:=ae w;have aE:(aa gc b)[A]?=W .ba:=by rw[U,aB]
   have aw:=au;rw[w] at aw;have az:cQ b=cQ (ak A b)++cQ (aU (A+1) b):=by rw[aer t,rz,ae w,tv]
   refine aZ.Sr (J0 I [(4,k l),(15,k l),(32,k E)] [(12,.h 1 87<|mE I (l+1)<|.bO id d 0<|Q I.b3)] ((id,.h d 1 64<|aa gc<|aK b A ⟨u,1,[E]⟩)::cQ (aK b A ⟨u,1,[E]⟩))) (λn=>?_)<|Y _<|aw _ p;refine fh.perm (kH n 12 1 87 (mE I (l+1)<|.bO id d 0<|Q I.b3)::(id,cD.h d 1 64<|aa gc b)::(u,cD.jH 1)::(cQ (ak A b)++cQ (aU (A+1) b)++[c6 n (6000,ag 234<|nU I)])) ?_ ?_;show hI _ ((id,cD.h d 1 64 (aa gc b))::cQ b++[(u,cD.jH 1)]++([c6 n (6000,ag 234 (nU I))]++[kH n 12 1 87 (mE I (l+1) (.bO id d 0 (Q I.b3)))]));grind[tj];refine HE [([],[]),([],[]),([0],[]),([0],[]),([],[]),([],[]),([],[]),([],[]),([],[]),([],[]),([0],[]),([0],[]),([],[]),([],[]),([],[]),([],[]),([1],[]),([1],[]),([],[]),([],[]),([],[2]),([1],[]),([],[1])] e1 ao ?_;refine cg.dR [] (λg q=>kn) ?_;refine cg.dR [] (λg q=>kn) ?_;refine cg.dR [0] (λg q=>tk 0 (E:=l) Po Pm (hk:=bC (q 0 aR) p) (j:=r)) ?_;refine cg.dR [0] (λg q=>qG 0 (el:=.bO id d 0<|Q I.b3) oO (hk:=bC (q 0 aR) p) (j:=a2)) ?_;refine cg.dR [] (λg q=>kn) ?_;refine cg.dR [] (λg q=>kn) ?_;refine cg.dR [] (λg q=>N1 (E:=l) lR vP (j:=ap)) ?_;refine cg.dR [] (λg q=>N5 Pn D (F:=k A)) ?_;refine cg.dR [] (λg q=>kn) ?_;refine cg.dR [] (λg q=>kn) ?_;refine cg.dR [0] (λg q=>tk 0 (E:=l) Po Pm (hk:=bC (q 0 aR) p) (j:=r)) ?_;refine cg.dR [0] (λg q=>qG 0 (el:=.bO id d 0<|Q I.b3) oO (hk:=bC (q 0 aR) p) (j:=a2)) ?_;refine cg.dR [] (λg q=>kn) ?_;refine cg.dR [] (λg q=>kn) ?_;refine cg.dR [] (λg q=>N1 (E:=l) lR vP (j:=ap)) ?_;refine cg.dR [] (λg q=>N5 Pn D (F:=k A)) ?_;refine cg.dR [1] (λg q=>tk 1 (E:=A) oO yH (hk:=bC (q 1 aR) p) (j:=G)) ?_;refine cg.dR [1] (λg q=>qG 1 (el:=.ba) lR (hk:=bC (q 1 aR) p) (j:=ap)) ?_;refine cg.dR [] (λg q=>kn) ?_;refine cg.dR [] (λg q=>NR lR vP B5 (hlen:=λB v=>by rw[ea.1 v];rfl)) ?_;refine cg.up [] 2 (u,.h 1 1 3 [k E]) (x:=.bO u 1 0 1) (λg q=>fz.hU (ZP (u:=2) (mV:=[k E]) (i:=1) lR vP B5 (hk:=bC (q 2 aR) p) (hl:=OW (h:=[k E]) lR (kC:=λI bA=>by rw[ea.1 bA];rfl)) (Df:=o)) p p) ?_;refine cg.dR [1] (λg q=>tk 1 (E:=A) oO yH (hk:=bC (q 1 aR) p) (j:=G)) ?_;refine cg.up [] 1 (id,.h d 1 64<|aa gc<|aK b A ⟨u,1,[E]⟩) (x:=.undef) (λg q=>?_) ?_;refine fz.hU (HO 1 (E:=0+A) (l:=0) (ia:=aa gc b) (el:=.ba) lR (hk:=bC (q 1 aR) p) (j:=ap)) p ?_;show aK g 1 (id,cD.h d 1 64 (aK (aa gc b) (0+A) (.bO u 1 0 1)))=_;simp[hW,gc,ab,kZ];refine cg.nil ⟨p,λN B v=>TB ?_ N B v,?_⟩;refine mJ.2 ⟨a3,mJ.2 ⟨a3,mJ.2 ⟨a3,mJ.2 ⟨a3,mJ.2 ⟨a3,mJ.2 ⟨a3,mJ.2 ⟨a3,mJ.2 ⟨a3,λ_ L=>b9 L ka⟩⟩⟩⟩⟩⟩⟩⟩;show hI (kH n 12 1 87 (mE I (l+1) (.bO id d 0 (Q I.b3)))::(id,cD.h d 1 64 (aa gc (aK b A ⟨u,1,[E]⟩)))::(u,cD.h 1 1 3 [k E])::(cQ (ak A b)++cQ (aU (A+1) b)++[c6 n (6000,ag 234 (nU I))])) ((id,cD.h d 1 64 (aa gc (aK b A ⟨u,1,[E]⟩)))::cQ (aK b A ⟨u,1,[E]⟩)++([c6 n (6000,ag 234 (nU I))]++[kH n 12 1 87 (mE I (l+1) (.bO id d 0 (Q I.b3)))]));rw[aes t,show rz ⟨u,1,[E]⟩=[(u,cD.h 1 1 3 [k E])] from p];grind[tj];have aC:gc (z b A ai)=.bO (z b A ai).id (z b A ai).aP 0 (z b A ai).l.length:=ab w;have aE:(aa gc b)[A]?=W (.bO (z b A ai).id (z b A ai).aP 0 (z b A ai).l.length):=by rw[U,aC]
   have az:cQ b=cQ (ak A b)++([((z b A ai).id,cD.h (z b A ai).aP 1 3 ((z b A ai).l.map k))]++cQ (aU (A+1) b)):=by rw[aer t,rz,ab w]
   refine aZ.Sr (J0 I [(4,k l),(15,k l),(32,k E)] [(12,.h 1 87<|mE I (l+1)<|.bO id d 0<|Q I.b3)] ((id,.h d 1 64<|aa gc<|aK b A ⟨(z b A ai).id,(z b A ai).aP+1,(z b A ai).l++[E]⟩)::cQ (aK b A ⟨(z b A ai).id,(z b A ai).aP+1,(z b A ai).l++[E]⟩))) (λn=>?_)<|Y _<|au _ p;refine fh.perm (kH n 12 1 87 (mE I (l+1)<|.bO id d 0<|Q I.b3)::(id,cD.h d 1 64<|aa gc b)::((z b A ai).id,cD.h (z b A ai).aP 1 3<|(z b A ai).l.map k)::(cQ (ak A b)++cQ (aU (A+1) b)++[c6 n (6000,ag 234<|nU I)])) ?_ ?_;show hI _ ((id,cD.h d 1 64 (aa gc b))::cQ b++([c6 n (6000,ag 234 (nU I))]++[kH n 12 1 87 (mE I (l+1) (.bO id d 0 (Q I.b3)))]));grind[tj];refine HE [([],[]),([],[]),([0],[]),([0],[]),([],[]),([],[]),([],[]),([],[]),([],[]),([],[]),([0],[]),([0],[]),([],[]),([],[]),([],[]),([],[]),([1],[]),([1],[]),([],[]),([],[]),([],[2]),([1],[]),([],[1])] e1 ao ?_;refine cg.dR [] (λg q=>kn) ?_;refine cg.dR [] (λg q=>kn) ?_;refine cg.dR [0] (λg q=>tk 0 (E:=l) Po Pm (hk:=bC (q 0 aR) p) (j:=r)) ?_;refine cg.dR [0] (λg q=>qG 0 (el:=.bO id d 0<|Q I.b3) oO (hk:=bC (q 0 aR) p) (j:=a2)) ?_;refine cg.dR [] (λg q=>kn) ?_;refine cg.dR [] (λg q=>kn) ?_;refine cg.dR [] (λg q=>N1 (E:=l) lR vP (j:=ap)) ?_;refine cg.dR [] (λg q=>N5 Pn D (F:=k A)) ?_;refine cg.dR [] (λg q=>kn) ?_;refine cg.dR [] (λg q=>kn) ?_;refine cg.dR [0] (λg q=>tk 0 (E:=l) Po Pm (hk:=bC (q 0 aR) p) (j:=r)) ?_;refine cg.dR [0] (λg q=>qG 0 (el:=.bO id d 0<|Q I.b3) oO (hk:=bC (q 0 aR) p) (j:=a2)) ?_;refine cg.dR [] (λg q=>kn) ?_;refine cg.dR [] (λg q=>kn) ?_;refine cg.dR [] (λg q=>N1 (E:=l) lR vP (j:=ap)) ?_;refine cg.dR [] (λg q=>N5 Pn D (F:=k A)) ?_;refine cg.dR [1] (λg q=>tk 1 (E:=A) oO yH (hk:=bC (q 1 aR) p) (j:=G)) ?_;refine cg.dR [1] (λg q=>qG 1 (el:=.bO (z b A ai).id (z b A ai).aP 0 (z b A ai).l.length) lR (hk:=bC (q 1 aR) p) (j:=ap)) ?_;refine cg.dR [] (λg q=>kn) ?_;refine cg.dR [] (λg q=>NR lR vP B5 (hlen:=λB v=>by rw[ea.1 v];rfl)) ?_;refine cg.up [] 2 ((z b A ai).id,.h ((z b A ai).aP+1) 1 3<|aa k<|(z b A ai).l++[E]) (x:=.bO (z b A ai).id ((z b A ai).aP+1) 0<|Q<|(z b A ai).l++[E]) (λg q=>?_) ?_;refine fz.hU (ZQ (u:=2) (len:=(z b A ai).l.length) (off:=0) (ia:=(z b A ai).l.map k) (mV:=[k E]) (i:=1) lR vP B5 (hk:=bC (q 2 aR) p) (hl:=OW (h:=[k E]) lR (kC:=λI bA=>by rw[ea.1 bA];rfl)) (Df:=o)) ?_ ?_;simp;show aK g 2 ((z b A ai).id,cD.h ((z b A ai).aP+1) 1 3 (ak (z b A ai).l.length (aU 0 ((z b A ai).l.map k))++[k E]))=_;rw[sG,rQ (l:=(z b A ai).l.map k) av,dn];rfl;refine cg.dR [1] (λg q=>tk 1 (E:=A) oO yH (hk:=bC (q 1 aR) p) (j:=G)) ?_;refine cg.up [] 1 (id,.h d 1 64<|aa gc<|aK b A ⟨(z b A ai).id,(z b A ai).aP+1,(z b A ai).l++[E]⟩) (x:=.undef) (λg q=>?_) ?_;refine fz.hU (HO 1 (E:=0+A) (l:=0) (ia:=aa gc b) (el:=.bO (z b A ai).id (z b A ai).aP 0 (z b A ai).l.length) lR (hk:=bC (q 1 aR) p) (j:=ap)) p ?_;show aK g 1 (id,cD.h d 1 64 (aK (aa gc b) (0+A) (.bO (z b A ai).id ((z b A ai).aP+1) 0 (Q ((z b A ai).l++[E])))))=_;simp[hW,gc,ai,ab,kZ];refine cg.nil ⟨p,λN B v=>TB ?_ N B v,?_⟩;refine mJ.2 ⟨a3,mJ.2 ⟨a3,mJ.2 ⟨a3,mJ.2 ⟨a3,mJ.2 ⟨a3,mJ.2 ⟨a3,mJ.2 ⟨a3,mJ.2 ⟨a3,λ_ L=>b9 L ka⟩⟩⟩⟩⟩⟩⟩⟩;show hI (kH n 12 1 87 (mE I (l+1) (.bO id d 0 (Q I.b3)))::(id,cD.h d 1 64 (aa gc (aK b A ⟨(z b A ai).id,(z b A ai).aP+1,(z b A ai).l++[E]⟩)))::((z b A ai).id,cD.h ((z b A ai).aP+1) 1 3 (aa k ((z b A ai).l++[E])))::(cQ (ak A b)++cQ (aU (A+1) b)++[c6 n (6000,ag 234 (nU I))])) ((id,cD.h d 1 64 (aa gc (aK b A ⟨(z b A ai).id,(z b A ai).aP+1,(z b A ai).l++[E]⟩)))::cQ (aK b A ⟨(z b A ai).id,(z b A ai).aP+1,(z b A ai).l++[E]⟩)++([c6 n (6000,ag 234 (nU I))]++[kH n 12 1 87 (mE I (l+1) (.bO id d 0 (Q I.b3)))]));rw[aes t,show rz ⟨(z b A ai).id,(z b A ai).aP+1,(z b A ai).l++[E]⟩=[((z b A ai).id,cD.h ((z b A ai).aP+1) 1 3 (aa k ((z b A ai).l++[E])))] from ab av];grind[tj];refine bc ?_;exact a0 (E+1,y) ⟨o,ax⟩ o
  try simp only[bg] at T
  obtain rfl:E=Q I.b3:=o;refine bc ?_;exact a0 (l+1,.bO id d 0<|Q I.b3,(id,.h d 1 64<|aa gc b)::cQ b) ⟨o,bp ⟨l,id,d,b,p,r,p,p,C⟩⟩ o
 obtain rfl:l=Q I.fst:=o;exact apv M 12<|zp 12 (Q I.fst) (show Q (ll I (Q I.fst))=Q I.fst by simp[ll,bg,i1]) (by rw[avh];exact cE)
def ax9{P:ct}(I:Z){b f:aw}{c:World}{d:Addr}{i e:Z}(g:P.underlying b=W (dP f)):(pA (I+1) b (.slice (W d) i e) (.slice ah 0 0)).run P c=.ok ad c:=by simp[pA,run_underlying g]
def awE{P:ct}{m:db}{K:Oper}{b:a9}{j v s G:aw}{F r:Z}{l c:aM}{f k E i A M:Z}{t:X V}(y:cz P j (dP v) F r)(x:K.op=.binOp .eql j l c G)(C:b.val m l=W (.bO f k E i))(w:b.g[A]?=W (f,.h k M s t))(D:b.val m c=W .ba)(O:0<i):dh P m K b (a6 ad):=.same λn U H e=>by let⟨R,N,Q,q⟩:=e.bO C w;have d:=e.val D;generalize z:n.eval c=T at d;cases d;rcases q with⟨_,J,_⟩|⟨I,S,cap,L,B,_⟩;omega;refine⟨_,.bool _,?_⟩;simp only[execOp,x,B,z];rw[Sem.run_bind,x4 a3<|E0 (q:=ax9 9999 y.u)];rfl
def at0{A:aI->Prop}{n:FuncId}{v y:aM}{B:Array aw}{c e l r:Z}{j:aw}{k:X V}(s:V)(H:A (M.put K.dst s))(I:(c,cD.h e l j k)∈M.g)(L:gJ P d n [.bO c e 0 r] [(c,.h e l j k)] (λQ O=>Q=s/\O=[(c,.h e l j k)]))(J:K.op=.call {callee:=.value v,args:=#[y],argTypes:=B}:=by rfl)(F:val d M.b v=W (e4 (dp n) [] []):=by rfl)(N:val d M.b y=W (.bO c e 0 r):=by rfl)(T:s.plain:=by rfl)(E:mo P n:=by exact v0):hY P t m d i ops K M A:=⟨λS q w f U al G D=>by
 obtain⟨u,z,C⟩:=List.append_of_mem<|yQ _ I;have x:hI ([(c,cD.h e l j k)]++(u++z)) (M.ay f).g:=by show hI _ (M.g++aX f _);rw[C];exact(@List.perm_middle _ _ u _).symm
 refine cK.qp G (RK (mV:=[.bO c e 0 r]) J E (iq q w F f) ⟨iq q w N f,p⟩ x (bG q▸L) x) ?_;have R:=D f _ (dg.refl i f) H;simp_all[aI.nA,V.gn]⟩
def auj{A:V->Prop}{j r F:aw}{c:cP}{k l:aM}{g E i:Z}{H:Z}{q:aw}{G:X V}(v:A (a6 ad))(w:0<i)(x:K.op=.binOp .eql j k l F:=by rfl)(C:val d M.b k=W (.aq g E i):=by rfl)(D:val d M.b l=W .ba:=by rfl)(B:t.find j=W c:=by rfl)(bA:c.d=dP r:=by rfl)(z:c.O=ad:=by rfl)(u:cx M.au g=W (.h H q G):=by rfl):ez P t m d ad K M A:=.oJ (λs e f n=>by let ch:=(s.find B).hb z;rw[bA] at ch;obtain⟨I,y⟩:=k5 _ u;exact awE ch x (ji e f C ej n) y (ji e f D ej n) w) v
def anM(b:X Z)(bQ:Q b<=100000)(c:0<Q b):dF 46 [.aq 6000 0 (Q (aa k b))] [(6000,.h 1 3 (aa k b))] (.a 1 (aa k b)) [(6000,.h 1 3 (aa k b))]:=by
 refine dN func46 [] λi m f=>?_;let d:0<Q (aa k b):=by rw[bg];exact c
 refine auj ?_ d;refine ly.mk nofun λ_=>?_;refine pW ?_;refine e7 (aa k b) ?_ (hl:=.aq p p p p p o λg e=>(by obtain⟨_,_,rfl⟩:=cV.1 e;rfl)) (aW:=aY) (bQ:=a2);exact ib 5 cE
def anN(b:dT)(e:Q b.l<=100000)(f:0<Q b.l):gJ b5 hB 46 [.bO b.id b.aP 0 (Q (aa k b.l))] [(b.id,.h b.aP 1 3 (aa k b.l))] (λc K=>c=.a 1 (aa k b.l)/\K=[(b.id,.h b.aP 1 3<|aa k b.l)]):=by refine gJ.frame (anM b.l e f λ_=>(b.id,b.aP)) [] a3 ?_;rintro c K ⟨g,d,rfl,rfl⟩;refine⟨_,by rw[ff],p,?_⟩;show[((g _).1,cD.h _ 1 3 _)]=_;rw[d.eq _ o]
def vR(I:fa)(b:Z):X Z:=(bJ b).filter λc=>z I.acc c ad
def ajp(I:fa)(b:Z):vR I (b+1)=vR I b++(if z I.acc b ad then[b] else[]):=by unfold vR;rw[vX,Wl]<;>grind
def abp(I:fa):eI:=⟨cM (Q I.b3) 0,[bJ (Q I.b3)],[0]⟩
def aqK{b:Z}(f:0<b):lx b ⟨cM b 0,[bJ b],[0]⟩:=by
 let aH:∀c,bK ⟨cM b 0,[bJ b],[0]⟩ c=0:=by intro c;unfold bK;by_cases q:c<b;simp_all;simp_all
 refine⟨av,λc _=>?_,λd c=>?_,λd=>?_,λd e=>?_,λd e=>?_,av⟩;simp_all;grind;grind
 (simp_all;omega)
 simp_all
def aco{I:TypeDesc}:n1 I ([]:X (V×V×Z)):=λc b=>b9 b ka
def akL:oj [(k 0,a_ af,0)] [0]:=by let q:oj [] []:=⟨λd b=>b9 b ka,Cp,λc=>a3⟩;exact q.add 0 0
def uZ.awf{I:fa}{q:eI}(A:Eu I q){b:Z}{c:X Z}(d:q.eF=c++[b]):G3 I (z q.mem b []) 0 ⟨q.of,q.mem,c⟩:=by have:=uZ.pop A d;grind[UM,List.dropLast_concat]
def NZ{b:X dT}:hI (dJ b++[]) (dJ b):=av
def att(b:X dT):hI (lv (λc=>[vB c]) b++[]) (dJ b):=by rw[ff,ats]
def J1(I:fa)(b:X (Z×V))(d:bU)(e:b0):aI:=⟨(0,c 6000)::(3,c 3)::b,(3,ag 286<|c 24)::(6000,ag 234<|nU I)::d,e⟩
def alq(I:fa)(bA:I.ok):nM b5 hB 204 [c 6000] [] [(6000,ag 234 (nU I))] (λq:eI=>Eu I q/\q.eF=[]) (λq=>.ref 2 [bH [.a 1 (aa k q.of),.a 1<|aa b6 q.mem]] 0 0) (λ_=>[]) (λ_=>[(6000,ag 234<|nU I)]):=by
 refine nM.of_wp (t:=hV) [2003,2011,2015,2021,2026] e1 bq gw ⟨func204,a3,p⟩ p p p λbx m aH aV=>?_;let bn:k1 b5 hV m hB _ [2003,2011,2015,2021,2026]:=⟨e1,bq,aH,gw,aV⟩;let az:=bA.IB;let a4:=bA.nw;let bo:=bA.f2;let x:=bA.cl;refine io (.a 1<|aa b6 I.b3) ?_ (eM:=l3 x _ _ _ 2);refine kF (Q I.b3) (Q I.b3) (aa k<|cM (Q I.b3) 0) ?_ (j:=ep nK<|bg ..) (j1:=ep nK<|bg ..) (aW:=xt);refine aZ.eQ 4 1 3 [4] ah ?_;refine dM ?_;refine io (.a 1<|aa b6 I.b3) ?_ (eM:=l3 x _ _ _ 2);refine kF (Q I.b3) (Q I.b3) (aa k<|ii id (Q I.b3) 0) ?_ (j:=ep nK<|bg ..) (j1:=ep nK<|bg ..) (aW:=WK);refine io (.a 1<|aa b6 I.b3) ?_ (eM:=l3 x _ _ _ 2);refine eC (Q I.b3) (λb=>J1 I [(4,.aq 4 0<|Q<|aa k<|vR I b),(5,.aq 30 0<|Q I.b3),(35,k<|Q<|aa b6 I.b3),(36,k b)] [(22,.h 1 3<|aa k<|cM (Q I.b3) 0),(30,.h 1 3<|aa k<|ii id (Q I.b3) b),(4,.h 1 3<|aa k<|vR I b),(24,ag 289<|bH [.aq 22 0 (Q I.b3),.ba])] []) λb j=>?_;apply e<;>intro ao
 .try simp only[bg] at ao
  let A:b<Q I.b3:=o;let aN:(aa a_ I.acc)[b]?=W (a_<|z I.acc b ad):=by rw[c4,dm,cm (by rw[bA.ac]<;>omega)];rfl
  let D:Q (vR I<|b+1)<=b+1:=by have:=ajU (λU=>z I.acc U ad)<|bJ<|b+1;rwa [i1] at this
  refine cC b ?_ (j:=A);refine gN (aa k<|ii id (Q I.b3)<|b+1) (k 0) (k b) ?_ (j:=P2) (aW:=WO);refine io (.a 1<|aa a_ I.acc) ?_ (eM:=l3 x _ _ _ 1);refine bi b (a_<|z I.acc b ad) ?_ (j:=aN);apply e<;>intro ar
  .let aA:vR I (b+1)=vR I b++[b]:=by rw[ajp,ae ar]
   refine er ?_;refine e7 (aa k<|vR I<|b+1) ?_ (aW:=ap) (bQ:=a2);refine bc ?_;exact a0<|b+1
  let aA:vR I (b+1)=vR I b:=by rw[ajp,ab ar,ff]
  rw[<-aA];refine bc ?_;exact a0 (b+1)
 try simp only[bg] at ao
 obtain rfl:b=Q I.b3:=o;rw[show ii id (Q I.b3) (Q I.b3)=bJ (Q I.b3) by rw[OC,GL],show V.aq 30 0 (Q I.b3)=V.aq 30 0 (Q (aa k (bJ (Q I.b3)))) by simp,show vR I (Q I.b3)=JV I from p];refine aZ.iK 4 ?_;refine aZ.O_ 30 λP T=>?_;refine n7 (J1 I [(4,.a 1<|aa k<|JV I),(5,.bO P T 0<|Q<|aa k<|bJ<|Q I.b3)] [(24,ag 289<|bH [.aq 22 0 (Q I.b3),.ba]),(22,.h 1 3<|aa k<|cM (Q I.b3) 0)] [(P,.h T 1 3<|aa k<|bJ<|Q I.b3)]) ?_;refine dM ?_;refine pW ?_;refine pW ?_;refine BB [(k 0,a_ af,0)] 1 ?_ aco;let a7:=ah6 (Q I.b3) (abp I) (aqK a4) az (JV I) (λU bf=>g4.1 (mL.1 bf).1) (List.nodup_range.filter _) [⟨P,T,bJ<|Q I.b3⟩] p [(k 0,a_ af,0)] 1 akL;refine dM ?_;refine ke [(6002,24),(6000,8),(6001,3),(6003,7),(6004,22),(6006,61),(5001,57),(5002,60)] (λS=>dJ S.1) [] (λ⟨aD,aB,aF⟩ ⟨B,C⟩=>?_) (f:=a7) (zC:=NZ) (zB:=λ_ _=>NZ);dsimp only at B C⊢;refine bI [(6000,6000)] ?_ (f:=al0 I bA);refine dv (eI×X dT×X (V×V×Z)×Z) (λd=>J1 I [(7,c 7),(8,c 8),(9,e4 (dp 268) [] [c 8,c 3,c 7]),(10,.a 1<|aa (tQ I)<|bJ<|Q I.fst)] [(22,.h 1 3<|d.1.of.map k),(57,.h 1 64<|aa dZ d.2.1),(60,.h 1 3<|d.1.eF.map k),(7,ag 64<|.aq 60 0<|Q<|d.1.eF.map k),(8,ag 345<|.eW 61),(24,ag 289<|bH [.aq 22 0 (Q I.b3),.aq 57 0<|Q<|aa dZ d.2.1]),(61,h8 d.2.2.1 d.2.2.2)] (dJ d.2.1)) (λd=>Eu I d.1/\ew d.2.1=d.1.mem/\oj d.2.2.1 d.1.eF) (λd=>zA (Q I.b3) d.1) (sy (abp I)<|JV I,aD,aB,aF) (λ⟨q,n,H,cx⟩ ⟨r,w,F⟩=>?_) ⟨bA.start,B,C⟩;dsimp only at r w F⊢;apply e<;>intro au
 .try simp only[bg] at au
  let bt:0<Q q.eF:=o;obtain⟨i,R,u⟩:∃i R,q.eF=i++[R]:=⟨q.eF.dropLast,q.eF.getLast aY,bG<|ajL _⟩;let aK:R∈q.eF:=by rw[u];simp
  let aI:=r.ok.sE R aK;let aJ:R∉i:=by have:=r.ok.wn;rw[u] at this;exactλaG=>(sI.1 this).2.2 R aG R av p
  let bm:Q n=Q q.mem:=by rw[<-w,Dm]
  let aM:=r.ok.count;let bd:oj (qB H<|k R) i:=by rw[u] at F;exact F.del aJ
  let Y:=uZ.awf r u;let aS:zA (Q I.b3) ⟨q.of,q.mem,i⟩+1=zA (Q I.b3) q:=by unfold zA;rw[u,cX,p_];dsimp only;omega
  let be:Q i<=100000:=by have:=qQ r.ok.wn (R:=bJ<|Q I.b3) λM E=>g4.2<|kv (r.ok.sE M E) aM;rw[i1,u,cX] at this;omega
  let bu:Q (aa k i)<=100000:=by rw[bg];exact be
  let bs:Q (aa k i++aa k [R])=Q (aa k i)+1:=by rw[cX];rfl
  obtain⟨g,O⟩:∃g,z n R ai=g:=⟨_,p⟩;let D:g.l=z q.mem R []:=by rw[<-O,<-zF o,w]
  let bv:Q g.l<=Q I.b3:=by have:=qQ (y:=g.l) (R:=bJ<|Q I.b3) (by rw[D];exact r.ok.jQ R) λM E=>g4.2 (by rw[D] at E;exact((r.ok.mem R M).1 E).1);rwa [i1] at this
  let bh:0<Q g.l:=Ca.2 (by rw[D];exact r.ok.ne R aI);let aR:(aa dZ n)[R]?=W (dZ g):=by rw[<-O];exact LO o
  let aU:(g.id,cD.h g.aP 1 3<|aa k g.l)∈dJ n:=by rw[<-O];exact Iu o
  rw[<-D] at Y;rw[u,dn];refine jg (Q (aa k i):Z) ?_ (q:=o);refine cC (Q<|aa k i) ?_ (j:=o);refine e9 (k R) ?_ (j:=av);refine jg (Q (aa k i):Z) ?_ (q:=o);refine BD 0 (Q<|aa k i) 0 (Q<|aa k i) ?_ (fN:=o);refine aud (qB H<|k R) ?_ (abA:=F.ok);refine aZ.aox 60 (aa k i) [k R] ?_ p;refine dM ?_;refine cC R ?_ (j:=a2);refine e9 (dZ g) ?_ (j:=aR);refine at0 (.a 1<|aa k g.l) ?_ aU<|anN g o bh;refine io (.a 1<|aa k I.fst) ?_ (eM:=l3 x _ _ _ 0);refine dv (Z×eI×X dT×X (V×V×Z)×Z) (λd=>J1 I [(7,c 7),(8,c 8),(9,e4 (dp 268) [] [c 8,c 3,c 7]),(10,.a 1<|aa (tQ I)<|bJ<|Q I.fst),(12,.a 1<|aa k g.l),(98,k<|Q<|aa k I.fst),(99,k d.1)] [(22,.h 1 3<|d.2.1.of.map k),(57,.h 1 64<|aa dZ d.2.2.1),(60,.h 1 3<|d.2.1.eF.map k),(7,ag 64<|.aq 60 0<|Q<|d.2.1.eF.map k),(8,ag 345<|.eW 61),(24,ag 289<|bH [.aq 22 0 (Q I.b3),.aq 57 0<|Q<|aa dZ d.2.2.1]),(61,h8 d.2.2.2.1 d.2.2.2.2)] (dJ d.2.2.1)) (λd=>d.1<=Q I.fst/\G3 I g.l d.1 d.2.1/\ew d.2.2.1=d.2.1.mem/\oj d.2.2.2.1 d.2.1.eF/\zA (Q I.b3) d.2.1+1=zA (Q I.b3) q) (λd=>Q I.fst-d.1) (0,⟨q.of,q.mem,i⟩,n,qB H<|k R,cx) (λ⟨l,fN,v,G,J⟩ ⟨bk,s,L,N,bj⟩=>?_) ⟨dO _,Y,w,bd,aS⟩;dsimp only at bk s L N bj⊢;apply e<;>intro al
  .try simp only[bg] at al
   let aw:l<Q I.fst:=o;let ax:∀M∈ri I g.l l,M<Q I.b3:=λM K=>(L9.1 K).1;let ay:eb (ri I g.l l):=L_ s.jQ;let aO:(aa (tQ I)<|bJ<|Q I.fst)[l]?=W (tQ I l):=by rw[c4,Aj aw];rfl
   refine aZ.eQ 14 1 3 [14] ah ?_;refine dM ?_;refine eC (Q g.l) (λb=>J1 I [(7,c 7),(8,c 8),(9,e4 (dp 268) [] [c 8,c 3,c 7]),(10,.a 1<|aa (tQ I)<|bJ<|Q I.fst),(12,.a 1<|aa k g.l),(13,k l),(14,.aq 14 0<|Q<|aa k<|ri I (ak b g.l) l),(98,k<|Q<|aa k I.fst),(99,k l),(102,.a 1<|aa k g.l),(103,k<|Q<|aa k g.l),(104,k b)] [(22,.h 1 3<|aa k fN.of),(57,.h 1 64<|aa dZ v),(60,.h 1 3<|aa k fN.eF),(14,.h 1 3<|aa k<|ri I (ak b g.l) l),(7,ag 64<|.aq 60 0<|Q<|aa k fN.eF),(8,ag 345<|.eW 61),(24,ag 289<|bH [.aq 22 0 (Q I.b3),.aq 57 0<|Q<|aa dZ v]),(61,h8 G J)] (dJ v)) λb j=>?_;apply e<;>intro am
   .try simp only[bg] at am
    let A:b<Q g.l:=o;let a5:z g.l b 0<Q I.b3:=s.lt _<|cT A;let aQ:(aa b6<|Hf I l)[z g.l b 0]?=W (b6<|(bJ<|Q I.b3).filter λU=>aL<|lE I U l=z g.l b 0):=by unfold Hf;rw[c4,c4,Aj a5];rfl
    let br:Q (ri I (ak (b+1) g.l) l)<=Q I.b3:=by have:=qQ (y:=ri I (ak (b+1) g.l) l) (R:=bJ<|Q I.b3) (L_<|s.jQ.sublist<|aj1 ..) λM K=>g4.2 (L9.1 K).1;rwa [i1] at this
    refine bi b (k<|z g.l b 0) ?_ (j:=eN A);refine bi l (tQ I l) ?_ (j:=aO);refine bi (z g.l b 0) (b6<|(bJ<|Q I.b3).filter λU=>aL<|lE I U l=z g.l b 0) ?_ (j:=aQ);refine e7 (aa k<|ri I (ak (b+1) g.l) l) ?_ (hl:=.a p p p p λbw a9=>(by obtain⟨_,_,rfl⟩:=cV.1 a9;rfl)) (aW:=by rw[aqd A,dn];rfl) (bQ:=a2);refine bc ?_;exact a0 (b+1)
   try simp only[bg] at am
   obtain rfl:b=Q g.l:=o;rw[g5];let a8:=ah6 (Q I.b3) fN s.ok az (ri I g.l l) ax ay v L G J N;refine BI 14 ?_;refine ke [(6002,24),(6000,8),(6001,3),(6003,7),(6004,22),(6006,61),(5001,57),(5002,60)] (λS=>dJ S.1) [] (λ⟨aE,aC,h_⟩ ⟨B,C⟩=>?_) (f:=a8) (zC:=NZ) (zB:=λ_ _=>NZ);dsimp only at B C⊢;refine bc ?_;exact a0 (l+1,sy fN<|ri I g.l l,aE,aC,h_) ⟨o,s.next bA aw,B,C,by rw[azh s.ok ax ay]<;>omega⟩ o
  try simp only[bg] at al
  obtain rfl:l=Q I.fst:=o;exact a0 (fN,v,G,J) ⟨s.fin,L,N⟩ a2
 try simp only[bg] at au
 let bb:q.eF=[]:=Ak.1 o;exact apw apa n 57 [] (att n)<|zp 22 (Q I.b3) (show Q (aa k q.of)=Q I.b3 by rw[bg];exact r.ok.len)<|zp 57 (Q<|aa dZ n) (show Q (n.map λU:dT=>V.a 1<|aa k U.l)=Q (aa dZ n) by simp)<|RQ (U:=bH [.a 1 (aa k q.of),.a 1 (n.map λU:dT=>V.a 1<|aa k U.l)]) 24 2 (by rw[show aa (λU:dT=>V.a 1<|aa k U.l) n=aa b6 q.mem by rw[<-w,ew,gh];rfl];exact rh q ⟨r,bb⟩)
mutual
def aO.parts:aO->Z|.mk _ _ _ _ b=>1+fE b
def fE:X aO->Z|[]=>0|b::c=>b.parts+fE c
end
mutual
def aO.fC:aO->Z|.mk _ _ _ _ b=>1+m2 b
def m2:X aO->Z|[]=>0|b::c=>max b.fC<|m2 c
end
mutual
def uw:aO->J->J|.mk _ _ _ _ b,c=>rE b c 1
def rE:X aO->J->J->J|[],_,b=>b|d::e,c,b=>if b<=c then rE e c (b+uw d (c-b)) else b
end
def aO.parts_eq(b:aO):b.parts=1+fE b.aD:=by cases b;rfl
def aO.vt(b:aO):b.fC=1+m2 b.aD:=by cases b;rfl
def af7(b:aO)(i:J):uw b i=rE b.aD i 1:=by cases b;rfl
def aO.afF(b:aO):1<=b.parts:=by rw[b.parts_eq];omega
theorem awq{b:X aO}{i c:J}(q:¬c<=i):rE b i c=c:=by cases b with|nil=>rfl|cons d b=>rw[rE,ab q]
def adU{d c:aO}(q:c∈d.aD):c.parts<d.parts:=by
 rw[d.parts_eq];have:∀b,c∈b->c.parts<=fE b:=by
  intro b
  induction b with|nil=>simp|cons e b f=>rw[fE]<;>grind
 grind
def atD{d c:aO}(q:c∈d.aD):c.fC<d.fC:=by
 rw[d.vt];have:∀b,c∈b->c.fC<=m2 b:=by
  intro b
  induction b with|nil=>simp|cons e b f=>rw[m2]<;>grind
 grind
def Tg(c:aO):Q c.aD<c.parts:=by
 rw[c.parts_eq];have:∀b,Q b<=fE b:=by
  intro b
  induction b with|nil=>trivial|cons d b e=>rw[fE,kN];have:=d.afF;omega
 grind
def aBR:∀c:aO,c.fC<=c.parts:=by
 refine aO.ind λc f=>?_;rw[c.vt,c.parts_eq];have:∀b,(∀d∈b,d.fC<=d.parts)->m2 b<=fE b:=by
  intro b
  induction b with|nil=>trivial|cons e b g=>grind[m2,fE]
 simp_all
def af8:∀d:aO,∀i:J,(uw d i<=d.parts/\1<=uw d i)/\((d.parts:J)<=i->uw d i=d.parts)/\(i<(d.parts:J)->i<uw d i):=by
 refine aO.ind λd w i=>?_;rw[af7];let key:∀c,(∀e∈c,∀i,(uw e i<=e.parts/\1<=uw e i)/\(e.parts<=i->uw e i=e.parts)/\(i<e.parts->i<uw e i))->∀b,1<=b->(rE c i b<=b+fE c/\1<=rE c i b)/\(b+fE c<=i->rE c i b=b+fE c)/\(i<b+fE c->i<rE c i b):=by
  intro c
  induction c with|nil=>simp[rE,fE]|cons f c j=>intro q b u;rw[rE,fE];let⟨⟨ch,k⟩,l,m⟩:=q f ap<|i-b;let g:=j λe v=>q e ap;split;let⟨⟨n,r⟩,s,t⟩:=g (b+uw f (i-b)) o<;>omega;omega
 rw[d.parts_eq]<;>simp_all
theorem adC{b:X aO}{c:Z}(q:c<Q b):m2 (ak (c+1) b)=max (m2 (ak c b)) (z b c ai).fC:=by induction b generalizing c with|nil=>trivial|cons d b e=>grind[m2,max,ai]
def aoP:∀b:aO,b.parts<=1000000->∀d:Z,d<=1000000->bb 230 [c0 b,k d] (a6 (aL (d<b.fC))):=by
 refine aO.ind λb v D d C=>?_;let B:=b.vt;let A:=Tg b;refine gJ.of_wp (t:=hV) (i:=5000) [] (λ_=>(0,0)) ⟨[(0,c0 b),(1,k d)],[],[]⟩ e1 bq gw ⟨func230,a3,p⟩ p p p p λm s u=>?_;let w:k1 b5 hV m hB _ []:=⟨e1,bq,s,gw,u⟩;apply e<;>intro y
 .exact aA (q:=by rw[show aL (d<b.fC)=af by grind];rfl)
 refine i0 (Q b.aD) (λg=>m2 (ak g b.aD)<d) (λg=>⟨[(1,_),(2,c 2),(5,k g)],[(2,_)],[]⟩) (λg j=>?_) (by grind[m2]) .r;apply e<;>intro n
 .let l:g<Q b.aD:=by rw[iS] at n;omega
  refine bi g (c0<|z b.aD g ai) ?_ (j:=l5 l);refine jg ((d-1:Z):J)<|aS ?_ (f:=v (z b.aD g ai) (cT l) (by have:=adU<|cT (I:=ai) l;omega) (d-1) o);apply e<;>intro x
  .exact aA (q:=by let hm:=atD<|cT (I:=ai) l;rw[show aL (d<b.fC)=af by grind];rfl)
  refine bc ?_;exact a0 (g+1) ⟨o,by grind[adC]⟩ (cq:=.r)
 rw[iS] at n;obtain rfl:g=Q b.aD:=o;exact aA (q:=by rw[show aL (d<b.fC)=ad by grind];rfl)
def ax1:∀b:aO,b.parts<=1000000->∀i:J,0<=i->i<=1000000->bb 231 [c0 b,an aj i] (an aj (uw b i)):=by
 refine aO.ind λb y F i D E=>?_;let C:=Tg b;rw[af7];refine gJ.of_wp (t:=hV) (i:=5000) [] (λ_=>(0,0)) ⟨[(0,c0 b),(1,an aj i)],[],[]⟩ e1 bq gw ⟨func231,a3,p⟩ p p p p λm v x=>?_;let B:k1 b5 hV m hB _ []:=⟨e1,bq,v,gw,x⟩;refine dv (Z×J) (λg=>⟨[(1,_),(2,c 2),(5,an aj g.2),(6,k g.1)],[(2,_)],[]⟩) (λg=>g.1<=Q b.aD/\rE b.aD i 1=rE (aU g.1 b.aD) i g.2/\1<=g.2/\g.2<=2000000) (λg=>Q b.aD-g.1) (0,1) (λ⟨d,l⟩ ⟨K,u,L,M⟩=>?_) ⟨dO _,p,uK 1,o⟩ .r;refine fk ?_;apply e<;>intro s
 .let q:(d:J)<Q (hN b.aD)/\l<=i:=by simpa[gL] using s
  let n:d<Q b.aD:=by have:=q.1;rw[iS] at this;omega
  let H:=(af8 (z b.aD d ai)<|i-l).1;let G:=adU<|cT (I:=ai) n;refine bi d (c0<|z b.aD d ai) ?_ (j:=l5 n);refine jf<|aS ?_ (f:=y (z b.aD d ai) (cT n) o (i-l) o o);refine bc<|bc ?_;exact a0 (d+1,l+uw (z b.aD d ai) (i-l)) ⟨n,by rw[u,ww n,rE,ae q.2],o,o⟩ o .r
 let q:¬((d:J)<Q (hN b.aD)/\l<=i):=by simpa[gL] using s
 rw[iS] at q;let w:rE (aU d b.aD) i l=l:=by by_cases A:l<=i;grind[List.drop_eq_nil_of_le,rE];grind[awq]
 rw[u,w];exact aA
def z4{c:X (J×J)}{b:Z}(q:b<Q c):(aa hP c)[b]?=W (hP (z c b ai)):=ap
def afb{b:aO}(q:pi b){c:Z}(d:c<Q b.set):0<=(z b.set c ai).1/\(z b.set c ai).1<=(z b.set c ai).2/\(z b.set c ai).2<=255:=q.2.2.2.2.1 _ ap
def avP(d:aO)(q:pi d):bb 278 [c0 d] (an aj 0):=by
 refine bx func278 [] λm t=>?_;let i:=λ(b:Z) (j:b<Q d.set)=>afb q j;let⟨⟨X,al⟩,am,ao,ar,au,aw,s,ax,n,Y,ak⟩:=q;let S:¬d.bL=3->Q d.set=0:=λg=>ap;let T:d.bL=3->0<Q d.set:=λg=>Ca.2<|n g;let P:d.bL<4->Q d.aD=0:=λg=>ap;let D:=iS d.aD;refine eA ?_;apply e<;>intro u
 .omega
 refine fk ?_;apply ev;intro I;apply c9;intro K;refine eA ?_;exact p;exact p;apply ev;intro L;refine fk ?_;exact p;apply e<;>intro A
 .omega
 refine eA ?_;refine fk ?_;apply ev;intro M;refine fk ?_;exact p;apply ev;intro N;refine fk ?_;exact p;apply e<;>intro B
 .omega
 refine eC (Q d.set) (λb=>⟨[(1,c 1),(3,k b)],[(1,_)],[]⟩) (λb j=>?_) .r;apply e<;>intro C
 .let f:b<Q d.set:=o;let l:=i b f;refine eg ?_;refine gx b (hP<|z d.set b ai) ?_ (j:=z4 f);apply ev;intro O;refine gx b (hP<|z d.set b ai) ?_ (j:=z4 f);refine gx b (hP<|z d.set b ai) ?_ (j:=z4 f);exact p;apply ev;intro E;refine gx b (hP<|z d.set b ai) ?_ (j:=z4 f);exact p;apply e<;>intro v
  .omega
  refine bc ?_;exact a0 (b+1) (cq:=.r)
 apply c9;intro F;refine eA ?_;apply ev;intro G;apply c9;intro H;refine eA ?_;exact p;exact p;exact p;apply e<;>intro w
 .omega
 refine dv Z (λb=>⟨[(1,c 1),(4,k b)],[(1,_)],[]⟩) (λb=>1<=b) (λb=>1000-b) 1 (λb j=>?_) (bz 1) .r;apply e<;>intro x
 .let f:b<Q d.set:=o;let l:=i b f;let U:=i (b-1) o;let R:=s b o f;refine eg ?_;refine gx b (hP<|z d.set b ai) ?_ (j:=z4 f);refine jg ((b-1:Z):J) ?_;refine gx (b-1) (hP<|z d.set (b-1) ai) ?_ (j:=z4 o);refine bc ?_;apply e<;>intro y
  .omega
  refine bc ?_;exact a0 (b+1) (cq:=.r)
 exact aA
def avS:∀b:aO,e_ b->bb 232 [c0 b] (an aj 0):=by
 refine aO.ind λb u he=>?_;let⟨g,w⟩:=p0.1 he;let x:=g.2.2.2.1;refine gJ.of_wp (t:=hV) (i:=5000) [] (λ_=>(0,0)) ⟨[(0,c0 b)],[],[]⟩ e1 bq gw ⟨func232,a3,p⟩ p p p p λm l s=>?_;let v:k1 b5 hV m hB _ []:=⟨e1,bq,l,gw,s⟩;refine aS (f:=avP b g)<|eC (Q b.aD) (λd=>⟨[(1,c 1),(3,an aj 0),(4,k d)],[(1,_)],[]⟩) (λd j=>?_) .r;refine fk ?_;apply e<;>intro n
 .let q:d<Q b.aD:=by have:=n;rw[iS] at this;omega
  refine bi d _ ?_ (j:=l5 q);refine aS (f:=u (z b.aD d ai) ap ap)<|bc ?_;exact a0 (d+1) (cq:=.r)
 exact aA
def agq(b:aO)(q:e_ b)(c:b.parts<=1000000):bb 167 [c0 b] (an aj (if 40<b.fC\/400<b.parts then 3 else 0)):=by
 refine bx func167 [] λm d=>?_;let j:=af8 b 400;refine aS ?_ (f:=aoP b c 40 aR);apply ev;refineλi=>cf ?_ (f:=ax1 b c 400 aR aR);exact p;apply e<;>intro g
 .exact aA (q:=by rw[ae];rfl;omega)
 refine aS ?_ (f:=avS b q);exact aA (q:=by rw[ab];rfl;omega)
noncomputable def q8(b:u1):bF×J:=if 300<(lC b).next.length then(A9,3) else(lC b,0)
def agr(b:aO)(c:e_ b)(e:b.parts<=400)(d:b.fC<=40):bb 167 [c0 b] (an aj 0):=by have:=agq b c o;grind
theorem ax3(b:aO)(c:e_ b)(g:2000<dG b):bb 168 [c0 b] (cs [K3,a6 ad]):=by
 refine bx func168 [] λm d=>?_;refine aS ?_ (f:=Vh b c);apply e<;>intro i
 .exact dB bq
 omega
def aw8(b:bF)(q:hJ b):bb 169 [fp b] (cs [fp (q8 (iW b)).1,an aj (q8 (iW b)).2]):=by
 refine bx func169 [] λm c=>?_;refine aS ?_ (f:=axJ b q);apply e<;>intro d
 .rw[show q8 _=(A9,3) from ae o];exact hQ 1 2 [1,2] (dB bq)
 rw[show q8 _=(lC _,0) from ab o];exact dB bq
theorem ags(b:aO)(c:e_ b)(e:b.parts<=400)(d:b.fC<=40)(g:bb 168 [c0 b] (cs [K3,a6 ad])):bb 110 [c0 b] (cs [fp A9,an aj 3]):=by refine bx func110 [] λm i=>?_;refine aS ?_ (f:=agr b c e d);refine ly.mk nofun λ_=>?_;refine aS ?_ (f:=g);refine ly.mk (λ_=>?_) nofun;exact hQ 1 2 [1,2] (dB bq)
def aw1(b:aO)(e:e_ b)(i:b.parts<=400)(g:b.fC<=40){c:bF}(d:hJ c)(j:bb 168 [c0 b] (cs [fp c,a6 af])):bb 110 [c0 b] (cs [fp (q8 (iW c)).1,an aj (q8 (iW c)).2]):=by refine bx func110 [] λm k=>?_;refine aS ?_ (f:=agr b e i g);refine ly.mk nofun λ_=>?_;refine aS ?_ (f:=j);refine ly.mk nofun λ_=>?_;refine aS ?_ (f:=aw8 c d);exact dB bq
def aw2{b:aO}(c:e_ b)(g:b.parts<=400)(f:b.fC<=40):bb 110 [c0 b] (cs [fp (i6 b).1,an aj (i6 b).2]):=by
 unfold i6;by_cases i:2000<dG b;grind[ags,ax3];by_cases j:3000<Q (c8 (dY b ⟨[],[]⟩).1 (dY b ⟨[],[]⟩).2 3000);grind[ags,aip,ahd];let d:=ahd b c o;rw[aiq o] at d;have:=aw1 b c g f (XT o) d;rw[QE o] at this;let e:q8 (sh b)=if 2000<dG b\/3000<Q (c8 (dY b ⟨[],[]⟩).1 (dY b ⟨[],[]⟩).2 3000)\/300<(lC<|sh b).next.length then(A9,3) else(lC<|sh b,0):=by unfold q8;by_cases k:300<(lC<|sh b).next.length;simp_all;simp_all[ab]
 rw[<-e];trivial
abbrev kl(I:fa)(q:eI)(b l:Z):X Z:=lB (mg I q) [bK q 0] 0 b l
abbrev BJ(I:fa)(q:eI)(b l:Z):Z:=n3 (mg I q) [bK q 0] 0 b l
abbrev m8(I:fa)(q:eI)(b:Z):Z:=hM (mg I q) [bK q 0] 0 b
def G_(I:fa)(q:eI)(b:Z):Y:=z I.acc (lo q<|m8 I q b) ad
def ahj(I:fa)(q:eI)(b:Z):X Z:=ii (BJ I q b) 256 256
def tM(I:fa)(q:eI)(b:Z):X V:=(bJ b).map λc=>a_<|G_ I q c
def uC(I:fa)(q:eI)(b:Z):X V:=(bJ b).map λc=>b6<|ahj I q c
def ak1(I:fa)(q:eI)(b:Z):tM I q b++[a_ (G_ I q b)]=tM I q (b+1):=by simp[tM,vX,dn]
def ayk(I:fa)(q:eI)(b:Z):uC I q b++[b6 (ahj I q b)]=uC I q (b+1):=by simp[uC,vX,dn]
theorem ak0(I:fa)(q:eI)(b:Z):Q (tM I q b)=b:=by simp[tM,bg,i1]
theorem ayj(I:fa)(q:eI)(b:Z):Q (uC I q b)=b:=by simp[uC,bg,i1]
def acF:q0 (λ_=>dW) k:=q0.nat
def acG{c:Z->V}(b:X Z):n1 (.int aj) (fO k c b):=S8 λ_ _=>p
section
variable{I:fa}(bA:I.ok){q:eI}(A:Eu I q)
include bA A
theorem auW{b:Z}(c:b<Q (i7 I q b))(l:Z):Q (kl I q b l)<=Q q.mem:=dK (EB c l).length_le<|IY bA A _
theorem auX{b:Z}(c:b<Q (i7 I q b)):m8 I q b<Q q.mem:=Uv bA A b _<|eY<|zj c
theorem am3(i:q.eF=[])(g:∀b,b<Q I.b3->∃c,qM (iz (jo I)) 0 c=b):(lC (iW (jo I))).next.length=Q q.mem:=by let d:=IY bA A<|Q q.mem;let e:=A.ok.count;let f:=bA.IB;grind[acZ,i7,List.length_map,au_]
theorem am2(n:q.eF=[]){E:Z}(g:E<=Q (i7 I q E))(d:Q (i7 I q E)<=E):fp (lC (iW (jo I)))=bH [an aj 0,.a 1 (tM I q E),.a 1 (uC I q E)]:=by
 have t:=A.ok.count;have u:=bA.IB;have v:=IY bA A E;rw[acZ bA A n d o];have m:=aha (succ:=mg I q) (b7:=[bK q 0]) (I:=0) (i:=256) (E:=E) av (λc=>ait I q c) g d;have e:Q (i7 I q E)=E:=o;have w:∀cr,cr<E->(i7 I q E)[cr]?=W (m8 I q cr):=by
  intro cr x;have j:cr<Q (cB (mg I q) [bK q 0] cr):=by refine Ch λl=>?_;have f:i7 I q E=i7 I q cr:=sX (cr:=E) l o;rw[f] at e;have:Q (cB (mg I q) [bK q 0] cr)=E:=e;omega
  exact zX (o4 o)<|zj (I:=0) j
 have k:i7 I q E=aa (m8 I q) (bJ E):=by refine jI λcr=>?_;by_cases l:cr<E;simp_all;simp_all
 have r:aa a_ ((i7 I q E).map λb=>hg (jo I)<|lo q b)=tM I q E:=by rw[k,gh,gh];rfl
 have s:aa b6 ((i7 I q E).map λb=>aa (hn<|i7 I q E)<|mg I q b)=uC I q E:=by show aa b6 ((cB (mg I q) [bK q 0] E).map λc=>aa (hn<|cB (mg I q) [bK q 0] E)<|mg I q c)=_;rw[<-m,gh];rfl
 show V.agg [an aj 0,.a 1 (aa a_ ((i7 I q E).map λb=>hg (jo I)<|lo q b)),.a 1 (aa b6 ((i7 I q E).map λb=>aa (hn<|i7 I q E)<|mg I q b))]=_;simp_all
end
def asZ(I:fa)(bA:I.ok)(eM:∀U,U<Q I.b3->∃ao,qM (iz (jo I)) 0 ao=U):dF 149 [c 6000] [(6000,ag 234 (nU I))] (cs [fp (q8 (iW (jo I))).1,an aj (q8 (iW (jo I))).2]) [(6000,ag 234 (nU I))]:=by
 refine dN func149 [2004,2007,2023] λaJ m au=>?_;have aE:=bA.IB;have aD:=bA.nw;have x:=bA.cl;refine ke [(6000,6000)] (λ_=>[]) [] (λq ⟨r,am⟩=>?_) (f:=alq I bA) (zC:=uS _) (zB:=λ_ _=>uS _);have aA:=r.ok.count;have az:=am3 bA r am eM;apply e<;>intro E
 .try simp only[bg] at E
  rw[show q8 (iW (jo I))=(A9,3) from ae o];exact hQ 1 2 [1,2] (jd bq)
 try simp only[bg] at E
 have aC:Q q.mem<=300:=o;have aF:=r.ok.len;have D:(aa k q.of)[0]?=W (k (bK q 0)):=eN o;have aw:q8 (iW (jo I))=(lC (iW (jo I)),0):=ab o;refine dM ?_;refine bi 0 (k<|bK q 0) ?_ (j:=D);refine BB (fO k (λi=>k<|id i)<|kl I q 0 0) 1 ?_ aco (hu:=a3);refine bi 0 (k<|bK q 0) ?_ (j:=D);refine pW ?_;refine aZ.eQ 1500 1 4 [] (W (7,1)) ?_;refine aZ.eQ 1501 1 64 [] (W (7,2)) ?_;refine dM ?_;refine dv Z (λb=>⟨[(0,c 6000),(2,c 2),(4,.ref 2 [bH [.a 1 (aa k q.of),.a 1<|aa b6 q.mem]] 0 0),(5,.eW 24),(6,.aq 38 0<|Q<|aa k<|kl I q b 0),(7,c 7),(8,k b)],[(38,.h 1 3<|aa k<|kl I q b 0),(1500,.h 1 4<|tM I q b),(1501,.h 1 64<|uC I q b),(2,ag 89<|bH [an aj 0,.ba,.ba]),(7,ag 89<|bH [an aj 0,.aq 1500 0<|Q<|tM I q b,.aq 1501 0<|Q<|uC I q b]),(6000,ag 234<|nU I),(24,h8 (fO k (λi=>k<|id i)<|kl I q b 0)<|Q<|kl I q b 0)],[]⟩) (λb=>b<=Q (i7 I q b)) (λb=>300-b) 0 (λb j=>?_)<|dO _;apply e<;>intro F
 .try simp only[bg] at F
  have aH:kl I q b 0=i7 I q b:=xH b;have u:b<Q (i7 I q b):=by rw[<-aH];omega
  have aG:=IY bA r b;have G:=auX bA r u;have v:=r.ok.I_ G;have X:(aa k (kl I q b 0))[b]?=W (k (m8 I q b)):=by rw[aH,c4];show Option.map k (cB (mg I q) [bK q 0] b)[b]?=_;rw[zj (I:=0) u];rfl
  have S:(aa b6 q.mem)[m8 I q b]?=W (b6 (z q.mem (m8 I q b) [])):=by rw[c4,dm,cm G];rfl
  have N:(aa k (z q.mem (m8 I q b) []))[0]?=W (k (lo q (m8 I q b))):=eN v.2.2;have J:Q (mg I q (hM (mg I q) [bK q 0] 0 b))=256:=ait I q _;have T:(aa b6 I.b3)[lo q (m8 I q b)]?=W (b6 (z I.b3 (lo q (m8 I q b)) [])):=by rw[c4,dm,cm v.1];rfl
  have O:(aa a_ I.acc)[lo q (m8 I q b)]?=W (a_ (G_ I q b)):=by unfold G_;rw[c4,dm,cm (by rw[bA.ac]<;>omega)];rfl
  refine eg ?_;refine cC b ?_ (j:=a2);refine e9 (k<|m8 I q b) ?_ (j:=X);refine bi (m8 I q b) (b6<|z q.mem (m8 I q b) []) ?_ (j:=S);refine bi 0 (k<|lo q<|m8 I q b) ?_ (j:=N);refine kF 256 256 (aa k<|ii (BJ I q b) 256 0) ?_ (aW:=a3);refine eC 256 (λl=>⟨[(0,c 6000),(2,c 2),(4,.ref 2 [bH [.a 1 (aa k q.of),.a 1<|aa b6 q.mem]] 0 0),(5,.eW 24),(6,.aq 38 0<|Q<|aa k<|kl I q b l),(7,c 7),(8,k b),(9,k<|lo q<|m8 I q b),(10,.aq 57 0 256),(59,k 256),(60,k l)],[(38,.h 1 3<|aa k<|kl I q b l),(57,.h 1 3<|aa k<|ii (BJ I q b) 256 l),(1500,.h 1 4<|tM I q b),(1501,.h 1 64<|uC I q b),(2,ag 89<|bH [an aj 0,.ba,.ba]),(7,ag 89<|bH [an aj 0,.aq 1500 0<|Q<|tM I q b,.aq 1501 0<|Q<|uC I q b]),(6000,ag 234<|nU I),(24,h8 (fO k (λi=>k<|id i)<|kl I q b l)<|Q<|kl I q b l)],[]⟩) λl ax=>?_;apply e<;>intro ay
  .have t:l<256:=o;obtain⟨n,y⟩:∃n,z I.wk l 0=n:=⟨_,p⟩;have M:n<Q I.fst:=by rw[<-y];exact bA.lt l t
   obtain⟨d,A⟩:∃d,lE I (lo q (m8 I q b)) n=d:=⟨_,p⟩;have aI:d<Q I.b3:=by rw[<-A];exact bA.HC v.1 M
   have Y:(aa k (z I.b3 (lo q (m8 I q b)) []))[n]?=W (k d):=by rw[eN (by rw[bA.rw _ v.1]<;>omega),<-A];rfl
   have P:(aa k q.of)[d]?=W (k (bK q d)):=eN o;have R:(kb (nU I))[l]?=W (k n):=by rw[<-y];exact aoJ x t _ _ _
   have K:z (mg I q (hM (mg I q) [bK q 0] 0 b)) l 0=bK q d:=by rw[azE t];show bK q (lE I (lo q (m8 I q b)) (z I.wk l 0))=_;rw[y,A]
   have ar:=auW bA r u<|l+1;refine eg ?_;refine io (.a 1<|aa b6 I.b3) ?_ (eM:=l3 x _ _ _ 2);refine bi (lo q<|m8 I q b) (b6<|z I.b3 (lo q<|m8 I q b) []) ?_ (j:=T);refine hE l l ?_ (jr:=by show l=0+l*1;omega);refine io (k n) ?_ (eM:=R);refine bi n (k d) ?_ (j:=Y);refine bi d (k<|bK q d) ?_ (j:=P);refine ul (cs [k (mY id (kl I q b l)<|bK q d),a6<|wT (kl I q b l)<|bK q d]) ?_ (acG _) (eM:=Ir (H:=λ_=>dW) (s:=id) (nh:=kl I q b l) (U:=bK q d) acF c1 (λ_ _=>c1) p);apply e<;>intro L
   focus
    have al:bK q d∉kl I q b l:=λhm=>by grind[te,b9]
    obtain⟨w,B⟩:=NH (succ:=mg I q) (b7:=[bK q 0]) (I:=0) av u (by rw[J];exact t) ap;rw[K] at w;have g:Q (aa k (kl I q b l))=BJ I q b l:=by rw[bg];exact B
    rw[g];refine zQ (fO k (λi=>k<|id i)<|kl I q b<|l+1) (Q<|kl I q b<|l+1) ?_ (acG _) (hu:=by rw[<-g,bg,show kl I q b (l+1)=kl I q b l++[bK q d] from w];exact Ih (H:=λ_=>dW) (vM:=λi=>k<|id i) acF c1 (λ_ _=>c1) al);refine er ?_;refine e7 (aa k<|kl I q b<|l+1) ?_ (hlen:=bG g) (aW:=ap) (bQ:=a2)
   rotate_left
   focus
    have ak:bK q d∈kl I q b l:=te.1<|GF.1 L;obtain⟨w,B⟩:=NI (succ:=mg I q) (b7:=[bK q 0]) (I:=0) u (by rw[J];exact t) ap;have g:mY id (kl I q b l) (bK q d)=BJ I q b l:=by rw[Fo ak,<-K];exact B
    rw[g,<-show kl I q b (l+1)=kl I q b l from w]
   all_goals refine cC l ?_ (j:=t);refine gN (aa k<|ii (BJ I q b) 256<|l+1) (k 0) (k<|BJ I q b l) ?_ (j:=P2) (aW:=WO);refine bc ?_;exact a0<|l+1
  obtain rfl:l=256:=o;rw[show kl I q b 256=kl I q (b+1) 0 by simp_all[kl,K7,bz,xH]];refine aZ.x3 57 256 (show Q (aa k (ii (BJ I q b) 256 256))=256 by rfl) ?_;refine dM ?_;refine er ?_ (hlen:=λC g=>by rw[ea.1 g];rfl);refine e7 (uC I q<|b+1) ?_ (hl:=.a p p p p λC g=>(by rw[ea.1 g];rfl)) (aW:=ayk I q b) (bQ:=by grind[ayj]);refine eS ?_;refine br (λ_=>io (.a 1<|aa a_ I.acc) p (eM:=l3 x _ _ _ 1)) ?_;refine br (λ_=>bi (lo q<|m8 I q b) (a_<|G_ I q b) p (j:=O)) ?_;refine br (λ_=>lf p (hlen:=λC g=>by rw[ea.1 g];rfl)) ?_;refine lS 122 (tM I q<|b+1) ?_ (hl:=.a p p p p λC g=>(by rw[ea.1 g];rfl)) (aW:=ak1 I q b) (bQ:=by grind[ak0]);refine fx ?_;refine kU [(122,1500)] ?_;refine bc ?_;exact a0 (b+1) (dK (aki u) (o4<|pv b).length_le)
 try simp only[bg] at F
 have aH:kl I q b 0=i7 I q b:=xH b;have aB:Q (i7 I q b)<=b:=by rw[<-aH];omega
 rw[show V.tuple [fp (q8 (iW (jo I))).1,an aj (q8 (iW (jo I))).2]=cs [bH [an aj 0,.a 1 (tM I q b),.a 1 (uC I q b)],an aj 0] by grind[am2]];exact ib 1500<|ib 1501<|jd bq
def amc:∀b:aO,e_ b->KF b:=aO.ind λb l he m e f g j k i=>
 amd b he (λd c=>l d c<|(p0.1 he).2 d c) m e f g j k i
theorem aiz:∀(b:X (X Z))(c d:Z),(aa Q (aK b c (z b c []++[d]))).sum<=(aa Q b).sum+1
|[],_,_=>pv _|e::b,0,d=>by(simp;omega)|e::b,c+1,d=>by
 have:=aiz b c d
 (simp_all;omega)
theorem zM(b:bs)(c d:Z):(b.dS c d).dc<=b.dc+1:=by grind[bs.dc,bs.dS,aiz,List.length_set]
theorem atP(b:bs)(c d:Z)(M:a1):(b.w4 c d M).dc<=b.dc+2:=by(simp[bs.dc,bs.w4,cX,p_];omega)
def yZ(d:bs->Z->bs×Z)(l:Z):Prop:=∀b c,(d b c).1.dc<=b.dc+l
def yZ.it{d:bs->Z->bs×Z}{l:Z}(q:yZ d l):∀(A:Z)(b:bs)(c:Z),(iD d A b c).1.dc<=b.dc+A*l|0,b,c=>Cg _ _|A+1,b,c=>by rw[iD];let e:=yZ.it q A (d b c).1 (d b c).2;let f:=q b c;grind
def yZ.op{d:bs->Z->bs×Z}{l:Z}(q:yZ d l):∀(A:Z)(b:bs)(c:Z),(e2 d A b c).1.dc<=b.dc+A*(l+3)
|0,b,c=>Cg _ _|A+1,b,c=>by
 rw[e2];let g:=yZ.op q A (ym d b c)<|Q b.aC;let i:(ym d b c).dc<=b.dc+(l+3):=by refine dK (zM _ _ _) ?_;let ch:=q (b.bY.dS c<|Q b.aC) c;let e:=zM b.bY c<|Q b.aC;let f:=By b;omega
 grind
theorem yZ.g2{e:bs->Z->bs×Z}{l:Z}(q:yZ e l)(b f:J)(t:0<=b)(u:f=-1\/b<=f)(c:bs)(d:Z):(qI e b f c d).1.dc<=c.dc+(if f=-1 then aB (b+1) else aB f)*(l+3)+3:=by
 let r:=q.it (aB b) c d;unfold qI;by_cases g:f=-1;rw[ae g,ae g];refine dK (zM _ _ _) ?_;let ch:=q (mc (iD e (aB b) c d).1 (iD e (aB b) c d).2) (iD e (aB b) c d).1.aC.length;let j:(mc (iD e (aB b) c d).1 (iD e (aB b) c d).2).dc<=(iD e (aB b) c d).1.dc+4:=by refine dK (zM _ _ _) ?_;let k:=zM (iD e (aB b) c d).1.bY.bY (iD e (aB b) c d).2 (iD e (aB b) c d).1.aC.length;let m:=By (iD e (aB b) c d).1.bY;let n:=By (iD e (aB b) c d).1;omega
 let i:aB (b+1)=aB b+1:=o;grind[Nat.succ_mul,Nat.mul_le_mul_left];let s:=q.op (aB<|f-b) (iD e (aB b) c d).1 (iD e (aB b) c d).2;let i:aB f=aB b+aB (f-b):=o;grind[Nat.add_mul,Nat.mul_le_mul_left]
def KO(c:aO):Prop:=∀b,1<=b->dG c<=b->b<=2000->∀d e,(hh c d e).1.dc+2<=d.dc+10*(c.parts*b)
def an1{b:X aO}{c:aO}(q:c∈b):dG c<=e0 b:=by induction b with|nil=>trivial|cons d b e=>rw[e0];grind
def aec{d:Z}(i:1<=d)(j:d<=2000):∀(e:X aO),(∀g∈e,KO g/\dG g<=d)->∀b c,(ms e b c).1.dc<=b.dc+10*(fE e*d)|[],_,b,c=>by simp[ms,Cg]|f::e,q,b,c=>by rw[ms,fE];let ch:=aec i j e (λg k=>q g<|ku _ k) (hh f b c).1 (hh f b c).2;let l:=(q f<|kO ..).1 d i (q f<|kO ..).2 j b c;grind
def aed{d:Z}(j:1<=d)(k:d<=2000):∀(e:X aO),(∀i∈e,KO i/\dG i<=d)->∀c b f,(mT e c b f).dc<=c.dc+10*(fE e*d)|[],_,c,b,f=>by simp[mT,Cg]|g::e,q,c,b,f=>by rw[mT,fE];let ch:=aed j k e (λi l=>q i<|ku _ l) ((hh g c b).1.dS (hh g c b).2 f) b f;let m:=(q g<|kO ..).1 d j (q g<|kO ..).2 k c b;grind[zM,hh,Nat.add_mul,Nat.mul_add]
def atO:∀c:aO,e_ c->KO c:=aO.ind λc w he i q P r e g=>by
 let⟨⟨⟨X,Y⟩,Z,K,_⟩,s⟩:=p0.1 he;let F:10*(c.parts*i)=10*i+10*(fE c.aD*i):=by rw[c.parts_eq,iG,vZ,Ap]
 rw[F];by_cases l:dG c=0;grind[X6,o5,By,zM];rw[X7 c e g l];let f:=wm c;unfold ot at f;by_cases x:c.bL=3;grind[By,zM,atP,ko];rw[ab x] at f⊢;by_cases k:c.bL=6;rw[ab o,ab o,ae k];rw[ae k] at f;let⟨z,A,O,B⟩:=K k;let⟨b,j⟩:=GK.1 z;let v:b∈c.aD:=by rw[j];exact kO ..
 let J:=w b v<|s b v;rw[j] at f⊢;let D:e0 [b]=dG b:=by rw[e0,e0];rfl
 let G:fE [b]=b.parts:=by rw[fE,fE];rfl
 rw[D] at f;rw[G];obtain⟨d,u⟩:∃d,(if c.max=-1 then aB (c.min+1) else aB c.max)=d:=⟨_,p⟩;rw[u] at f;let S:dG c=dG b*d:=by have:nL (dG b*d) 2001=min (dG b*d) 2001:=p;rw[this] at f;omega
 let m:1<=dG b:=WD λC=>l ap;let H:1<=d:=WD λC=>l ap;let R:dG b<=dG b*d:=PP _ H;let T:d<=dG b*d:=Nat.le_mul_of_pos_left _ m;let U:10*(b.parts*dG b)>=2:=by have:=Ci b.afF m;omega
 let E:yZ (hh b) (10*(b.parts*dG b)-2):=λe g=>by have:=J (dG b) m (bz _) o e g;omega
 let I:=E.g2 c.min c.max A (B.imp id And.left) e g;rw[u] at I;show(qI (hh b) c.min c.max e g).1.dc+2<=_;let M:d*(10*(b.parts*dG b)-2+3)=10*(b.parts*(dG b*d))+d:=by rw[show 10*(b.parts*dG b)-2+3=10*(b.parts*dG b)+1 by omega,Ap,Aq];congr 1;rw[ake,lV d,qU]
 let N:b.parts*(dG b*d)<=b.parts*i:=GP _ o;omega;rw[ab k] at f;let dI:e0 c.aD<=i:=by have:nL (e0 c.aD) 2001=min (e0 c.aD) 2001:=p;rw[this] at f;omega
 let t:∀b∈c.aD,KO b/\dG b<=i:=λb j=>⟨w b j<|s b j,dK (an1 j) dI⟩;by_cases n:c.bL=4;rw[ae n];have:=aec q r c.aD t e g;omega;rw[ab n];by_cases y:c.bL=5;rw[ae y];show(mT c.aD e.bY g (Q e.aC)).dc+2<=_;let L:=By e;have:=aed q r c.aD t e.bY g<|Q e.aC;omega;grind[By,zM]
def Ht(b:X Z)(l:Z):X v:=[gk (z b l 0),gk<|z b l 0/256]
def rc(b:bF)(l c:Z):X v:=(ak c b.next).flatMap λd=>Ht d l
def Rl{b:bF}{l c:Z}(q:c<Q b.next):rc b l (c+1)=rc b l c++Ht (z b.next c []) l:=by unfold rc;grind[pq]
def an3(e:bF)(l c:Z):Q (rc e l c)<=2*c:=by
 unfold rc;have:∀b:X _,Q (b.flatMap λd=>Ht d l)=2*Q b:=by
  intro b
  induction b with|nil=>rfl|cons d b f=>rw[ts,cX,f,kN];show 2+_=_;omega
 grind
def aiV(b:Z):IntKind.u8.wrap (b:J)=(aG (gk b):J):=by rfl
def an4(b:bF)(l:Z)(n:hJ b)(x:l<256):bb 209 [fp b,k l] (bV (rc b l (Q b.next))):=by
 refine bx func209 [] λm w=>?_;let t:=n.len;let B:Q (aa b6 b.next)<=100000:=by rw[bg];exact t
 refine IE ?_;refine kF 0 (2*Q b.next) [] ?_ (j1:=av);refine eC (Q b.next) (λc=>⟨[(1,k l),(5,.aq 12 0<|Q<|aa bR<|rc b l c),(14,.a 1<|aa b6 b.next),(15,k<|Q<|aa b6 b.next),(16,k c)],[(12,.h 1 5<|aa bR<|rc b l c),(2,ag 89<|fp b)],[]⟩) λc j=>?_;apply e<;>intro y
 .let g:c<Q b.next:=o;let s:(aa b6 b.next)[c]?=W (b6<|z b.next c []):=by rw[c4,dm,cm g];rfl
  refine bi c (b6<|z b.next c []) ?_ (j:=s);obtain⟨d,r⟩:∃d,z (z b.next c []) l 0=d:=⟨_,p⟩;let i:(aa k<|z b.next c [])[l]?=W (k d):=by rw[eN (by rw[n.h c g]<;>omega),r]
  let u:rc b l (c+1)=rc b l c++[gk d,gk<|d/256]:=by rw[Rl g,Ht,r]
  let A:=an3 b l<|c+1;refine eS ?_;refine br (λ_=>bi l (k d) p (j:=i)) ?_;refine br (λ_=>ael (aG (gk d):Z) p (a7:=aiV d))<|br (λ_=>bi l (k d) p (j:=i)) ?_;refine br (λ_=>IH ((d/256:Z):J) p (q:=(by show(d:J).fdiv 256=_;grind)))<|br (λ_=>ael (aG (gk<|d/256):Z) p (a7:=aiV<|d/256))<|br (λ_=>lf p (hlen:=λv f=>by simp at f;rcases f with rfl|rfl<;>rfl))<|lS 33 (aa bR (rc b l (c+1))) (hl:=.a p p p p λv f=>(by simp at f;rcases f with rfl|rfl<;>rfl)) (aW:=by rw[u,dn];rfl) (bQ:=a2)<|kU [(33,12)]<|bc<|a0<|c+1
 obtain rfl:c=Q b.next:=o;exact zP (rc b l<|Q b.next) (hlen:=av) (bS:=aY)<|aA
def EW(b:Z×Z):V:=bH [k b.1,k b.2]
def ase(b:bF)(l:Z)(e:hJ b)(d:l<256):dF 208 [k l,c 6000] [(6000,ag 89 (fp b))] (bV (rc b l (Q b.next))) [(6000,ag 89 (fp b))]:=by refine dN func208 [] λi m g=>?_;refine aS ?_ (f:=an4 b l e d);exact cE
def akT(b:bF)(d i:Z)(e:hJ b)(j:d<Q b.next):dF 210 [EW (d,i),c 6000] [(6000,ag 89 (fp b))] (a6 (z b.acc d ad)) [(6000,ag 89 (fp b))]:=by
 refine dN func210 [] λk m f=>?_;let g:(aa a_ b.acc)[d]?=W (a_<|z b.acc d ad):=by rw[c4,dm,cm (by rw[e.acc]<;>omega)];rfl
 refine hE 0 0 ?_;refine bi d _ ?_;exact cE
def aej{A:aI->Prop}{l g:aw}{c f:cP}{H:Z}{k:Array (Z×aM)}{e:X (Z×V)}{Lw:X V}(x:A (M.put K.dst (bH Lw)))(y:K.op=.build l k:=by rfl)(F:t.find l=W c:=by rfl)(bA:c.d=.array H g:=by rfl)(E:c.O=ad:=by rfl)(w:t.find g=W f:=by rfl)(D:ti d M.b k.toList=W e:=by rfl)(C:w3 (aa (·.2) e):=by rfl)(v:r6 (λG=>W (G*f.size,f.size)) (kb<|V.zero c.z) e=W Lw:=by rfl)(j:(V.agg Lw).plain:=by rfl):hY P t m d i ops K M A:=by obtain⟨L,q,I⟩:=aei (B:=af) p y F bA E w D C v j;exact hY.pure j (λu r s n=>by let J:=dh.full (O:=M.ay n)<|q u r s n _ ap;grind[V.gn]) x
def azy(b:bF)(d i l:Z)(n:hJ b)(f:d<Q b.next)(s:l<256):dF 212 [EW (d,i),k l,c 6000] [(6000,ag 89 (fp b))] (EW (z (z b.next d []) l 0,0)) [(6000,ag 89 (fp b))]:=by refine dN func212 [] λt m r=>?_;let g:=eN (by rw[n.h d f]<;>omega);obtain⟨e,q⟩:∃e,z (z b.next d []) l 0=e:=⟨_,p⟩;rw[q] at g⊢;refine mC _ ?_;refine hE 0 0 ?_;refine bi d (b6<|z b.next d []) ?_ (j:=(by rw[c4,dm,cm f];rfl));refine bi l _ ?_;exact aej (Lw:=[k e,k 0])<|jd bq
section
attribute [local semireducible] gY gU
def iV(b:bF)(l:Z):X v:=rc b l<|Q b.next
def fP(b:bF):X Z:=gY (iV b) 256
def xM(b:bF):X Z:=aa (k6<|iV b)<|bJ 256
def anF(b:bF)(x:hJ b):dF 145 [c 6000,e4 (dp 208) [] [c 6001]] [(6000,ag 234 (hD (cM 256 0) .ba .ba .ba)),(6001,ag 89 (fp b))] (cs []) [(6000,ag 234 (hD (xM b) (.a 1 (aa k (fP b))) .ba .ba)),(6001,ag 89 (fp b))]:=by
 refine dN func145 [2001] λC m y=>?_;refine aZ.u6 1400 1 3 6000 0 ?_;refine dM ?_;rw[show cM 256 0=ii (k6 (iV b)) 256 0 from bG<|axU _ _];refine eC 256 (λl=>⟨[(0,c 6000),(1,e4 (dp 208) [] [c 6001]),(4,.eW 9),(10,k l)],[(1400,.h 1 3<|aa k<|gY (iV b) l),(6000,ag 234<|hD (ii (k6<|iV b) 256 l) (.aq 1400 0<|Q<|aa k<|gY (iV b) l) .ba .ba),(6001,ag 89<|fp b),(9,h8 (fO Ft (λi=>k<|id i)<|gU (iV b) l)<|Q<|gU (iV b) l)],[]⟩) λl z=>?_;apply e<;>intro A
 .let d:l<256:=o;let g:=OD (k6<|iV b) 256 l;let B:=E_ (iV b) l;refine bI [(6000,6001)] ?_ (f:=ase b l x d);refine ul (cs [k (mY id (gU (iV b) l)<|iV b l),a6<|wT (gU (iV b) l)<|iV b l]) ?_ (MT _) (eM:=Ir (H:=λ_=>dW) (s:=id) (nh:=gU (iV b) l) (U:=iV b l) MS c1 (λ_ _=>c1) p);apply e<;>intro j
  focus
   let w:iV b l∉gU (iV b) l:=λq=>by rw[te.2 q] at j;exact b9 j av
   let⟨r,t,u⟩:=YK (iV b) d w;let n:Q (aa k<|gY (iV b) l)=k6 (iV b) l:=by rw[bg,r]
   refine io (.aq 1400 0<|Q<|aa k<|gY (iV b) l) ?_ (eM:=l3 g _ _ _ 0);refine zQ (fO Ft (λi=>k<|id i)<|gU (iV b)<|l+1) (Q<|gU (iV b)<|l+1) ?_ (MT _) (hu:=by rw[u,bg,<-Il];exact Ih (H:=λ_=>dW) (vM:=λi=>k<|id i) MS c1 (λ_ _=>c1) w);refine io (.aq 1400 0<|Q<|aa k<|gY (iV b) l) ?_ (eM:=l3 g _ _ _ 0);refine er ?_;refine e7 (aa k<|gY (iV b)<|l+1) ?_ (aW:=by rw[t,dn];rfl) (bQ:=by rw[bg];have:=E_ (iV b)<|l+1;omega);refine tf (hD (ii (k6<|iV b) 256 l) (.aq 1400 0<|Q<|aa k<|gY (iV b)<|l+1) .ba .ba) ?_ (lI:=by show 256<(hD _ _ _ _).cells.length;rw[Y8 g];omega) (aW:=AX g _ _ _ _ 0)
  rotate_left
  focus
   let v:iV b l∈gU (iV b) l:=te.1<|GF.1 j;let⟨r,t,u⟩:=YL (iV b) d v;let n:mY id (gU (iV b) l) (iV b l)=k6 (iV b) l:=by rw[Fo v];exact r
   rw[n,<-t,<-u]
  all_goals refine hE l l ?_ (jr:=by show l=0+l*1;omega);refine tf (hD (ii (k6<|iV b) 256<|l+1) (.aq 1400 0<|Q<|aa k<|gY (iV b)<|l+1) .ba .ba) ?_ (lI:=by show l<(hD _ _ _ _).cells.length;rw[Y8 g];omega) (aW:=by first|(rw[n,<-Jk _ d];exact Hy g d _ _ _)|(rw[<-Jk _ d];exact Hy g d _ _ _));refine bc ?_;exact a0<|l+1
 obtain rfl:l=256:=o;rw[OC];exact ib 1400 cE
end
def jS(b:bF)(d:Z):X Z:=(fP b).map λc=>z (z b.next d []) c 0
abbrev ih(b:bF)(c l:Z):X Z:=lB (jS b) [b.start] 0 c l
abbrev pZ(b:bF)(c l:Z):Z:=n3 (jS b) [b.start] 0 c l
abbrev ur(b:bF)(c:Z):Z:=hM (jS b) [b.start] 0 c
def Vk(b:bF){c:Z}:Q (jS b c)=Q (fP b):=by simp[jS,bg]
def ayl{b:bF}{c l:Z}(d:l<Q (fP b)):z (jS b c) l 0=z (z b.next c []) (z (fP b) l 0) 0:=by grind[jS,List.getElem?_eq_getElem,fP]
def mZ(b:Z):V:=EW (b,0)
def VR:uT b5 294 aj 2:=⟨3,2,16,8,8,⟨av,cR⟩,⟨av,cR⟩,⟨cR⟩⟩
def acm:Cu (λ_=>dW) mZ:=λb c _ _=>by
 show aL ([(b:J),0]=[(c:J),0])=aL _
 (simp;omega)
def MO(b:Z):r2 aj 2 (mZ b):=⟨[b,0],p,bl p⟩
def acn{c:Z->V}{b:X Z}:vr aj 2 (fO mZ c b):=acj λd _=>MO d
def om(b:bF)(c:Z):X V:=(bJ c).map λd=>a_<|z b.acc (ur b d) ad
def Gd(b:bF)(c:Z):X Z:=ii (pZ b c) (Q<|fP b)<|Q<|fP b
def nB(b:bF)(c:Z):X V:=(bJ c).map λd=>b6<|Gd b d
def akZ(b:bF)(c:Z):om b c++[a_ (z b.acc (ur b c) ad)]=om b (c+1):=by simp[om,vX,dn]
def ayi(b:bF)(c:Z):nB b c++[b6 (Gd b c)]=nB b (c+1):=by simp[nB,vX,dn]
theorem akY(c:bF)(b:Z):Q (om c b)=b:=by simp[om,bg,i1]
theorem ahn(c:bF)(b:Z):Q (nB c b)=b:=by simp[nB,bg,i1]
def Si{c:bF}{b:Z}(q:b∈fP c):b<256:=by exact H3 _ 256 b q
def aa2(b:bF):Q (fP b)<=256:=E_ _ 256
def ae0{b:bF}(e:hJ b)(f:Z):∀d∈cB (jS b) [b.start] f,d<Q b.next:=tP (λd c=>by rw[ea.1 c];exact e.start) (λd c k i=>by obtain⟨j,g,rfl⟩:=cV.1 i;exact e.dst _ _ c<|Si g) f
def IU{b:bF}(d:hJ b)(c:Z):Q (cB (jS b) [b.start] c)<=Q b.next:=qz (AR av c)<|ae0 d c
def apD(b:bF)(u:hJ b)(ak:Q b.next<=300):dF 211 [c 6000,mZ b.start,e4 (dp 210) [] [c 6001],e4 (dp 212) [] [c 6001]] [(6000,ag 234 (hD (xM b) (.a 1 (aa k (fP b))) .ba .ba)),(6001,ag 89 (fp b))] (cs []) [(6000,ag 234 (hD (xM b) (.a 1 (aa k (fP b))) (.a 1 (om b (Q (cB (jS b) [b.start] 300)))) (.a 1 (nB b (Q (cB (jS b) [b.start] 300)))))),(6001,ag 89 (fp b))]:=by
 refine dN func211 [2003,2019] λaw m y=>?_;have J:=y.uf;have S:=y.a7;have r:Q (xM b)=256:=by rw[xM,bg,i1]
 have B:Q (aa k (fP b))=Q (fP b):=bg ..;have au:=aa2 b;refine at5 (fO mZ (λg=>k<|id g)<|ih b 0 0) 1 ?_ VR (MO _) (λU X=>b9 X ka) (show zN [] 0 (mZ b.start) (k 0)=(fO mZ (λg=>k<|id g) (ih b 0 0),1) from p);refine pW ?_;refine aZ.u6 1601 1 4 6000 1 ?_;refine aZ.u6 1602 1 64 6000 2 ?_;refine dM ?_;refine dv Z (λd=>⟨[(0,c 6000),(2,e4 (dp 210) [] [c 6001]),(3,e4 (dp 212) [] [c 6001]),(8,.eW 18),(9,.aq 22 0<|Q<|aa mZ<|ih b d 0),(10,k d)],[(22,.h 2 294<|aa mZ<|ih b d 0),(1601,.h 1 4<|om b d),(1602,.h 1 64<|nB b d),(6000,ag 234<|hD (xM b) (.a 1<|aa k<|fP b) (.aq 1601 0<|Q<|om b d)<|.aq 1602 0<|Q<|nB b d),(6001,ag 89<|fp b),(18,h8 (fO mZ (λg=>k<|id g)<|ih b d 0)<|Q<|ih b d 0)],[]⟩) (λd=>d<=Q (cB (jS b) [b.start] d)) (λd=>300-d) 0 (λd j=>?_)<|dO _;apply e<;>intro A
 .try simp only[bg] at A
  have aH:ih b d 0=cB (jS b) [b.start] d:=xH d;have t:d<Q (cB (jS b) [b.start] d):=by rw[<-aH];omega
  have L:=IU u d;have M:=IU u<|d+1;have C:ur b d<Q b.next:=ae0 u d _<|eY<|zj (I:=0) t;have P:(aa mZ (ih b d 0))[d]?=W (mZ (ur b d)):=by rw[aH,c4,zj (I:=0) t];rfl
  have D:Q (jS b (hM (jS b) [b.start] 0 d))=Q (fP b):=Vk b;refine cC d ?_ (j:=a2);refine e9 (mZ<|ur b d) ?_ (j:=P);refine mC (EW (0,0)) ?_;refine io (.a 1<|aa k<|fP b) ?_ (eM:=l3 r _ _ _ 0);refine kF (Q<|fP b) (Q<|fP b) (aa k<|ii (pZ b d) (Q<|fP b) 0) ?_ (j:=ep nK B) (j1:=ep nK B) (aW:=WK);refine io (.a 1<|aa k<|fP b) ?_ (eM:=l3 r _ _ _ 0);refine eC (Q<|fP b) (λl=>⟨[(0,c 6000),(2,e4 (dp 210) [] [c 6001]),(3,e4 (dp 212) [] [c 6001]),(8,.eW 18),(9,.aq 22 0<|Q<|aa mZ<|ih b d l),(10,k d),(11,c 11),(12,.aq 38 0<|Q<|fP b),(42,.a 1<|aa k<|fP b),(43,k<|Q<|aa k<|fP b),(44,k l)],[(22,.h 2 294<|aa mZ<|ih b d l),(1601,.h 1 4<|om b d),(1602,.h 1 64<|nB b d),(38,.h 1 3<|aa k<|ii (pZ b d) (Q<|fP b) l),(6000,ag 234<|hD (xM b) (.a 1<|aa k<|fP b) (.aq 1601 0<|Q<|om b d)<|.aq 1602 0<|Q<|nB b d),(6001,ag 89<|fp b),(11,ag 294<|mZ<|ur b d),(18,h8 (fO mZ (λg=>k<|id g)<|ih b d l)<|Q<|ih b d l)],[]⟩) λl am=>?_;apply e<;>intro ao
  .have q:l<Q (fP b):=o;have al:Q (ih b d (l+1))<=Q b.next:=dK (EB (I:=0) t<|l+1).length_le M;obtain⟨n,w⟩:∃n,z (fP b) l 0=n:=⟨_,p⟩;have K:n<256:=by rw[<-w];exact Si<|cT q
   have O:(aa k (fP b))[l]?=W (k n):=by rw[eN q,w]
   obtain⟨U,G⟩:∃U,z (z b.next (ur b d) []) n 0=U:=⟨_,p⟩;have E:=azy b (ur b d) 0 n u C K;rw[G] at E;have F:z (jS b (hM (jS b) [b.start] 0 d)) l 0=U:=by rw[ayl q,w];exact G
   refine bi l (k n) ?_ (j:=O);refine bI [(6000,6001)] ?_ (f:=E);refine mC (EW (0,0)) ?_;refine aeo (cs [k (mY id (ih b d l) U),a6<|wT (ih b d l) U]) ?_ VR (MO _) acn (eM:=adm (H:=λ_=>dW) (s:=id) (U:=U) acm c1 (λ_ _=>c1) p);apply e<;>intro N
   focus
    have T:U∉ih b d l:=λhm=>by grind[te,b9]
    obtain⟨v,x⟩:=NH (succ:=jS b) (b7:=[b.start]) (I:=0) av t (by rw[D];exact q) ap;rw[F] at v;have i:Q (aa mZ (ih b d l))=pZ b d l:=by rw[bg];exact x
    rw[i];refine aep (fO mZ (λg=>k<|id g)<|ih b d<|l+1) (Q<|ih b d<|l+1) ?_ VR (MO U) acn (show zN (fO mZ (λg=>k<|id g) (ih b d l)) (Q (ih b d l)) (mZ U) (k (pZ b d l))=(fO mZ (λg=>k<|id g) (ih b d<|l+1),Q (ih b d<|l+1)) by rw[<-i,bg,show ih b d (l+1)=ih b d l++[U] from v];exact ack (H:=λ_=>dW) (vM:=λg=>k<|id g) acm c1 (λ_ _=>c1) T);refine er ?_ (hlen:=λI bA=>by rw[ea.1 bA];rfl);refine e7 (aa mZ<|ih b d<|l+1) ?_ (hlen:=bG i) (aH:=a3) (hl:=.a p p p p λI bA=>by rw[ea.1 bA];rfl) (aW:=by rw[show ih b d (l+1)=ih b d l++[U] from v,dn];rfl) (bQ:=a2)
   rotate_left
   focus
    have R:U∈ih b d l:=te.1<|GF.1 N;obtain⟨v,x⟩:=NI (succ:=jS b) (b7:=[b.start]) (I:=0) t (by rw[D];exact q) ap;have i:mY id (ih b d l) U=pZ b d l:=by rw[Fo R,<-F];exact x
    rw[i,<-show ih b d (l+1)=ih b d l from v]
   all_goals refine cC l ?_ (j:=q);refine gN (aa k<|ii (pZ b d) (Q<|fP b)<|l+1) (k 0) (k<|pZ b d l) ?_ (j:=P2) (aW:=WO);refine bc ?_;exact a0<|l+1
  obtain rfl:l=Q (fP b):=o;rw[show ih b d (Q (fP b))=ih b (d+1) 0 by simp_all[ih,K7,bz,xH]];refine aZ.x3 38 (Q<|fP b) (show Q (aa k (ii (pZ b d) (Q (fP b)) (Q (fP b))))=Q (fP b) by rw[bg,OD]) ?_;refine dM ?_;refine io (.aq 1602 0<|Q<|nB b d) ?_ (eM:=l3 r _ _ _ 2);refine er ?_ (hlen:=λY i=>by rw[ea.1 i];rfl);refine e7 (nB b<|d+1) ?_ (hl:=.a p p p p λY i=>(by rw[ea.1 i];rfl)) (aW:=ayi b d) (bQ:=by grind[ahn]);refine tf (hD (xM b) (.a 1<|aa k<|fP b) (.aq 1601 0<|Q<|om b d)<|.aq 1602 0<|Q<|nB b<|d+1) ?_ (lI:=Au) (aW:=AX r _ _ _ _ 2);refine aZ.A4 [7] e1 bq J gw S p a3 ?_;refine br (λ_=>io (.aq 1601 0<|Q<|om b d) p (eM:=l3 r _ _ _ 1)) ?_;refine JX [(6000,6001)] [] [(6000,ag 89<|fp b)] [] [] ?_<|akT b (ur b d) 0 u C;refine br (λ_=>lf p) ?_;refine lS 94 (om b<|d+1) ?_ (aW:=akZ b d) (bQ:=by grind[akY]);refine Af (hD (xM b) (.a 1<|aa k<|fP b) (.aq 94 0<|Q<|om b<|d+1)<|.aq 1602 0<|Q<|nB b<|d+1) ?_ (lI:=Au) (aW:=AX r _ _ _ _ 1);refine kU [(94,1601)] ?_;refine bc ?_;exact a0 (d+1) (dK (aki t) (o4<|pv d).length_le)
 try simp only[bg] at A
 have aH:ih b d 0=cB (jS b) [b.start] d:=xH d;have ar:Q (cB (jS b) [b.start] d)<=d:=by rw[<-aH];omega
 have L:=IU u d;rw[show Q (cB (jS b) [b.start] 300)=d by grind[cB,jS,sX]];exact ib 1601<|ib 1602 cE
def hT(b:bF):Z:=Q<|cB (jS b) [b.start] 300
def DO(b:bF):V:=hD (xM b) (.a 1<|aa k<|fP b) (.a 1<|om b<|hT b)<|.a 1<|nB b<|hT b
def awx(b:bF)(d:hJ b)(e:Q b.next<=300):dF 151 [fp b] [] (c 6) [(6,ag 234 (DO b))]:=by refine dN func151 [2002] λi m g=>?_;refine aZ.agI 6 (hD (cM 256 0) .ba .ba .ba) ?_;refine dM ?_;refine bI [(6000,6),(6001,1)] ?_ (f:=anF b d);refine aej<|bI [(6000,6),(6001,1)] ?_ (f:=apD b d e);exact cE
def YR{b:bF}{e l:Z}(n:∀d<Q b.next,∀r,z (z b.next d []) r 0<65536):∀c,c<=Q b.next->rc b e c=rc b l c->∀d<c,z (z b.next d []) e 0=z (z b.next d []) l 0|0,_,_,_,i=>b9 i o|c+1,j,q,d,i=>by let g:=j;rw[Rl g,Rl g] at q;let⟨k,m⟩:=Wh q p;rcases fF d c with f|f;exact YR n c o k d f;unfold Ht at m;grind[UInt8.toNat_ofNat']
def aqv{c:X Z}{b:Z}(q:b<Q c):c[b]=z c b 0:=ap
def hJ.aqw{b:bF}(f:hJ b){d:Z}(e:d<Q b.next)(g:Z):z (z b.next d []) g 0<Q b.next:=by rcases fF g 256 with c|c;exact f.dst _ _ e c;rw[dm,yO (by rw[f.h d e];exact c)]<;>grind
theorem Vl{b:bF}(e:hJ b)(n:Q b.next<=300):∀c,cB (jS b) [b.start] c=ca b c
|0=>p|c+1=>by
 let j:=Vl e n c;cases g:(ca b c)[c]? with
 |none=>grind[ca,List.getElem?_eq_none_iff,K8,dV]|some d=>
  let i:=oD e c d aY;let k:dV b d=(bJ 256).map λf=>z (z b.next d []) f 0:=by unfold dV;refine rN (by rw[e.h d i,bg,i1]) λt m s=>?_;rw[List.getElem_map,List.getElem_range];exact aqv m
  rw[za (by rw[j];exact g),j,show ca b _=jp _ _ from za g,k];exact bG<|Ry _ (λf l q=>YR (λu r d=>by have:=e.aqw r d;omega) _ o q d i) _ 256
def fD(b:bF)(c l:Z):Z:=Q<|ih b c l
theorem M5(b:bF)(c:Z):fD b c 0=Q (cB (jS b) [b.start] c):=ep _<|xH c
def TG{b:bF}{c:Z}(d:c<fD b c 0):fD b c (Q (fP b))=fD b (c+1) 0:=by rw[M5] at d⊢;simp_all[fD,ih,K7,Vk,bz]
def TH{b:bF}(d:hJ b)(f:Q b.next<=300)(E:Z):fD b E 0<=hT b:=by rw[M5];unfold hT;let e:=IU d 300;rcases Nat.le_total E 300 with c|c;exact(o4 c).length_le;rw[sX (E:=300) o c]<;>simp_all
def adD{b:bF}(g:hJ b)(e:Q b.next<=300){c:Z}(f:c<fD b c 0)(l:Z):fD b c l<=hT b:=by let d:=TH g e<|c+1;exact dK (EB f l).length_le d
def atV{b:bF}(d:hJ b)(c:Q b.next<=300):hT b<=300:=dK (IU d 300) c
def atp(b:bF):fD b 0 0=1:=a3
def atq{b:bF}{c l:Z}(d:c<fD b c 0)(f:l<Q (fP b)):pZ b c l=fD b c l/\fD b c (l+1)=fD b c l+1\/pZ b c l<fD b c l/\fD b c (l+1)=fD b c l:=by rw[M5] at d;let g:Q (jS b<|hM (jS b) [b.start] 0 c)=Q (fP b):=Vk b;by_cases q:z (jS b<|hM (jS b) [b.start] 0 c) l 0∈ih b c l;let⟨i,e⟩:=NI d o q;refine bp ⟨?_,by simp_all[fD,ih]⟩;show n3 _ _ _ _ _<_;rw[<-e];exact vU q;simp_all[NH,jS,fD,ih,cX]
theorem ae2{b:bF}(e:hJ b)(d:Q b.next<=300)(c:Z):ur b c=z (ca b c) c 0:=by simp_all[ur,hM,Vl]
def adE{b:bF}(e:hJ b)(d:Q b.next<=300)(c:Z):fD b c 0=Q (ca b c):=by grind[M5,Vl]
theorem aqu(c:X Z)(d e b:Z):z (aK c d e) b 0=if d=b/\b<Q c then e else z c b 0:=by grind
def Le{c:X v}{b:Z}(q:b<Q c):(aa bR c)[b]?=W (bR (z c b 0)):=by simp_all
def axH(d:X v)(w:Q d<=100000):nM b5 hB 213 [.aq 6001 0 (Q (aa bR d))] [] [(6001,.h 1 5 (aa bR d))] (λi:X v=>Q i=Q d) (λ_=>cs []) (λ_=>[]) (λi=>[(6001,.h 1 5<|aa bR i)]):=by
 refine nM.of_wp (t:=hV) [] e1 bq gw ⟨func213,a3,p⟩ p p p λA m l n=>?_;let r:k1 b5 hV m hB _ []:=⟨e1,bq,l,gw,n⟩;let x:Q (aa bR d)=Q d:=bg ..;refine jg ((Q d:J)-1-((0:Z):J)) (q:=o)<|dv (Z×X v) (λg=>⟨[(0,.aq 6001 0<|Q<|aa bR d),(2,k g.1),(3,an aj<|(Q d:J)-1-g.1)],[(6001,.h 1 5<|aa bR g.2)],[]⟩) (λg=>Q g.2=Q d) (λg=>Q d-g.1) (0,d) (λ⟨c,b⟩ aH=>?_) p;apply e<;>intro s
 .let y:Q b=Q d:=aH;obtain⟨f,u⟩:∃f:Z,(Q d:J)-1-(c:Z)=(f:J):=⟨Q d-1-c,o⟩;refine eS ?_;refine br (λ_=>cC f p (j:=o)) ?_;refine br (λ_=>e9 (bR<|z b f 0) p (j:=Le o))<|br (λ_=>cC c p (j:=o)) ?_;refine br (λ_=>e9 (bR<|z b c 0) p (j:=Le o))<|br (λ_=>cC c p (j:=o)) ?_;refine uJ (aa bR<|aK b c<|z b f 0) (bR<|z b c 0) (bR<|z b f 0) ?_ (j:=Le o) (aW:=bG hW);refine br (λ_=>cC f p (j:=o)) ?_;refine uJ (aa bR<|aK (aK b c<|z b f 0) f<|z b c 0) (bR<|z (aK b c<|z b f 0) f 0) (bR<|z b c 0) (j:=Le a2) (aW:=bG hW)<|kU []<|e6 ((c+1:Z):J)<|jg ((Q d:J)-1-((c+1:Z):J)) (q:=o)<|a0 (c+1,aK (aK b c<|z b f 0) f<|z b c 0) a2 o
 exact rh b aH
def aN.ind{d:aN->Prop}(q:∀b,(∀e∈b.list,d e)->d b):∀b,d b:=by
 let key:∀c(b:aN),b.G<=c->d b:=by
  intro c
  induction c with|zero=>intro b f;cases b;grind[aN.G]|succ c i=>intro b f;refine q b λe g=>i e ?_;have:=(aN.pp f).2.2.2.2.1 e g;omega
 exactλb=>key _ b<|bz _
instance:Inhabited aN:=⟨.mk 0 ad ⟨ad,[],0⟩ [] [] []⟩
def aN.ef:aN->Z|.mk _ _ _ _ b _=>1+hy b
 where hy:X aN->Z|[]=>0|c::b=>c.ef+hy b
def aN.fC:aN->Z|.mk _ _ _ _ b _=>oA b+1
 where oA:X aN->Z|[]=>0|c::b=>max c.fC<|oA b
def aN.um(b:aN):b.ef=1+aN.ef.hy b.list:=by cases b;rfl
def aN.vt(b:aN):b.fC=aN.fC.oA b.list+1:=by cases b;rfl
theorem aeE(b c:X aN):aN.ef.hy (b++c)=aN.ef.hy b+aN.ef.hy c:=by induction b with|nil=>simp[aN.ef.hy]|cons e b d=>(simp[yM,aN.ef.hy];omega)
theorem ac2(b c:X aN):aN.fC.oA (b++c)=max (aN.fC.oA b) (aN.fC.oA c):=by induction b with|nil=>rfl|cons e b d=>(simp[yM,aN.fC.oA];omega)
theorem O3{d:Type}{c:X d}{b:Z}(q:b<Q c):ak (b+1) c=ak b c++[c[b]]:=Ee q
theorem Uf{L:X aN}{E:Z}(q:E<Q L):aN.ef.hy (ak (E+1) L)=aN.ef.hy (ak E L)+L[E].ef:=by grind[O3,aeE,aN.ef.hy]
theorem Tu{L:X aN}{E:Z}(q:E<Q L):aN.fC.oA (ak (E+1) L)=max (aN.fC.oA (ak E L)) L[E].fC:=by grind[O3,ac2,aN.fC.oA]
def aeH:∀c:aN,c.ef<=c.G:=aN.ind λc f=>by
 rw[c.um,c.aiB];have:∀b,(∀d∈b,d.ef<=d.G)->aN.ef.hy b<=aN.G.vK b:=by
  intro b
  induction b with|nil=>trivial|cons e b g=>grind[aN.ef.hy,aN.G.vK]
 grind
def as2:∀c:aN,c.fC<=c.ef:=aN.ind λc f=>by
 rw[c.um,c.vt];have:∀b,(∀d∈b,d.fC<=d.ef)->aN.fC.oA b<=aN.ef.hy b:=by
  intro b
  induction b with|nil=>trivial|cons e b g=>grind[aN.ef.hy,aN.fC.oA]
 grind
def aeF(b:X aN)(c:Z):aN.ef.hy (ak c b)<=aN.ef.hy b:=by grind[aeE,List.take_append_drop]
def as1(b:X aN)(c:Z):aN.fC.oA (ak c b)<=aN.fC.oA b:=by grind[ac2,List.take_append_drop]
def atA:∀b:aN,b.G<=1048576->bb 50 [eV b] (cs [k b.ef,k b.fC]):=by
 refine aN.ind λb u s=>?_;let d:=aN.pp s;let n:=aeH b;let g:=as2 b;refine gJ.of_wp (t:=hV) (i:=5000) [] (λ_=>(0,0)) ⟨[(0,eV b)],[],[]⟩ e1 bq gw ⟨func50,a3,p⟩ p p p p λm c l=>?_;let y:k1 b5 hV m hB _ []:=⟨e1,bq,c,gw,l⟩;refine eC (Q b.list) (λE=>⟨[(2,k<|1+aN.ef.hy (ak E b.list)),(3,k<|aN.fC.oA<|ak E b.list),(9,_),(10,_),(11,k E)],[],[]⟩) (λE j=>?_) .r;apply e<;>intro z
 .let A:=d.2.2.2.2.1 b.list[E] (fK o);let v:=Uf (L:=b.list) (E:=E) o;let w:=Tu (L:=b.list) (E:=E) o;let x:=aeF b.list<|E+1;rw[b.um] at n;refine bi E _ ?_ (j:=wH o);refine aS ?_ (f:=u b.list[E] (fK o) o);refine e6 ((1+aN.ef.hy (ak (E+1) b.list):Z):J) ?_;refine ID ((aN.fC.oA (ak (E+1) b.list):Z):J) ?_;refine bc ?_;exact a0 (E+1) (cq:=.r)
 obtain rfl:E=Q b.list:=o;rw[g5];rw[b.vt] at g;refine e6 ((b.fC:Z):J) ?_ (q:=by rw[b.vt];omega) (h0:=by rw[b.vt];omega);exact aA (q:=by rw[b.um];rfl)
def anz(b:aN)(c:b.G<=1048576):bb 23 [eV b] (an aj (if 20000<b.ef\/60<b.fC then 3 else 0)):=by
 refine bx func23 [] λm d=>?_;refine aS ?_ (f:=atA b c);refine eA ?_;apply e<;>intro g
 .exact aA (q:=WL)
 exact aA (q:=by rw[ab o];rfl)
def fU(b:v):Y:=aL (48<=aG b)&&aL (aG b<=57)
def kk(b:bT):J:=if b.bM=[]\/b.bM.all fU=ad then 2
 else if b.bM=[48] then(if b.neg\/b.exp≠0 then 2 else 0)
 else if z b.bM 0 0=48\/z b.bM (Q b.bM-1) 0=48 then 2
 else if 30<Q b.bM\/b.exp< -30\/30<b.exp then 3 else 0
def kJ(M:X v):J:=if 10000<Q M then 3 else 0
def rl(d:Option (X v)):X (X v)->J|[]=>0|A::c=>if kJ A≠0 then kJ A else if(match d with|W b=>gR A b||aL (A=b)|ah=>ad)=af then 10 else rl (W A) c
def uF(b:aN):Y:=b.bool&&aL (b.bL≠2)||aL ¬b.num=⟨ad,[],0⟩&&aL (b.bL≠3)||aL (b.text≠[])&&aL (b.bL≠4)||aL (b.keys≠[])&&aL (b.bL≠6)||
 (if b.bL=6 then aL (Q b.keys≠Q b.list) else aL (b.list≠[])&&aL (b.bL≠5))
def kj(b:aN):J:=if b.bL<1\/6<b.bL then 7
 else if uF b then 2
 else if b.bL=3 then kk b.num
 else if b.bL=4 then kJ b.text
 else rl ah b.keys
def aN.gB:aN->J|.mk A c e f b d=>if kj (.mk A c e f b d)≠0 then kj (.mk A c e f b d) else wi b
 where wi:X aN->J|[]=>0|g::b=>if g.gB≠0 then g.gB else wi b
def aN.Hp(b:aN):b.gB=if kj b≠0 then kj b else aN.gB.wi b.list:=by cases b;rfl
def mH(b:aN):J:=if 20000<b.ef\/60<b.fC then 3 else b.gB
def aeQ(b:bT):b=⟨ad,[],0⟩↔b.neg=ad/\b.bM=[]/\b.exp=0:=by constructor;simp_all;cases b;simp_all
theorem pK{d:Type}{c:X d}{b:Z}(q:b<Q c):aU b c=c[b]::aU (b+1) c:=pt q
def Oe{d:Type}{c:X d}{b:Z}(q:b<Q c)(e:0<b):c[b-1]?=W c[b-1]:=cm _
def Lk(M:X v):bb 98 [bV M] (an aj (kJ M)):=by
 refine bx func98 [] λm b=>?_;apply e<;>intro c
 .exact aA (q:=by rw[kJ,ae o];rfl)
 exact aA (q:=by rw[kJ,ab o];rfl)
def U2(M:X v):bb 170 [bV M] (an aj (kJ M)):=by
 refine bx func170 [] λm b=>?_;apply e<;>intro c
 .exact aA (q:=by rw[kJ,ae o];rfl)
 exact aA (q:=by rw[kJ,ab o];rfl)
def aoV(b:v):bb 226 [bR b] (a6 (fU b)):=by refine bx func226 [] λm c=>?_;refine fk ?_;exact aA (q:=by simp[cU,gL];congr 2<;>((simp;omega)))
theorem Xy{d:v->Y}{c:X v}{b:Z}(q:b<Q c):(aU b c).all d=(d c[b]&&(aU (b+1) c).all d):=by grind[pK]
theorem JL{b:v}:(aG b:J)=48↔b=48:=by constructor;intro q;apply Kp.1;(simp;omega);simp_all
def agw(b:bT)(y:Q b.bM<=1048576):bb 163 [cn b] (an aj (kk b)):=by
 refine bx func163 [] λm t=>?_;apply e<;>intro s
 .exact aA (q:=by rw[kk,ae<|bl s];rfl)
 have z:0<Q b.bM:=Ca.2 s;refine i0 (Q b.bM) (λd=>b.bM.all fU=(aU d b.bM).all fU) (λd=>⟨[(1,c 1),(3,_),(4,k d)],[(1,_)],[]⟩) (λd j=>?_) p .r;apply e<;>intro u
 .refine rt _ _ ?_;refine aS ?_ (f:=aoV b.bM[d]);apply e<;>intro l
  .have i:b.bM.all fU=ad:=by rw[j.2,Xy o];simp at l;rw[l];simp
   exact aA (q:=by rw[kk,ae<|bp i];rfl)
  refine bc ?_;exact a0 (d+1) ⟨o,by grind[Xy]⟩ (cq:=.r)
 have i:b.bM.all fU:=by rw[j.2,kM o];rfl
 apply e<;>intro g
 .refine eA ?_;apply e<;>intro n
  .exact aA (q:=by rw[kk,ab ap,ae g,ae n];rfl)
  exact aA (q:=by rw[kk,ab ap,ae g,ab n];rfl)
 refine pX 0 ?_;apply ev;intro x;refine jf ?_;refine pX (Q b.bM-1) ?_;exact p;apply e<;>intro v
 .exact aA (q:=by rw[kk,ab ap,ab g,ae (by grind[JL])];rfl)
 refine eA ?_;refine eA ?_;apply e<;>intro w
 .exact aA (q:=by rw[kk,ab ap,ab g,ab (by grind[JL]),ae o];rfl)
 exact aA (q:=by rw[kk,ab ap,ab g,ab (by grind[JL]),ab o];rfl)
def MX{c:Type}{b:X c}:(0:J)<(Q b:J)↔b≠[]:=by simp[Ca]
def azz(b:aN)(n:b.G<=1048576):bb 96 [eV b] (a6 (uF b)):=by
 refine bx func96 [] λm c=>?_;let aH:=(aeQ b.num).symm;let k:(0:J)<(Q b.keys:J)↔b.keys≠[]:=MX;let l:(0:J)<(Q b.list:J)↔b.list≠[]:=MX;refine fk ?_;apply e<;>intro g
 .exact aA (q:=by simp only[cU,V.const,V.leaf,gL,uF,V.bool.injEq];grind)
 refine T1 (agn _ _ _ _) ?_;refine fk ?_;apply e<;>intro d
 .exact aA (q:=by simp only[cU,V.const,V.leaf,gL,uF,V.bool.injEq];grind)
 refine fk ?_;apply e<;>intro f
 .exact aA (q:=by simp only[cU,V.const,V.leaf,gL,uF,V.bool.injEq];grind)
 refine fk ?_;apply e<;>intro i
 .exact aA (q:=by simp only[cU,V.const,V.leaf,gL,uF,V.bool.injEq];grind)
 apply e<;>intro j
 .exact aA (q:=by simp only[cU,V.const,V.leaf,gL,uF,V.bool.injEq];grind)
 refine fk ?_;exact aA (q:=by simp only[cU,V.const,V.leaf,gL,uF,V.bool.injEq];grind)
def axQ(b:aN)(t:b.G<=1048576):bb 112 [eV b] (an aj (kj b)):=by
 refine bx func112 [] λm w=>?_;let E:=aN.pp t;let aH:b.num.neg=ad/\b.num.bM=[]/\b.num.exp=0↔b.num=⟨ad,[],0⟩:=(aeQ b.num).symm;let N:(0:J)<(Q b.keys:J)↔b.keys≠[]:=MX;let O:(0:J)<(Q b.list:J)↔b.list≠[]:=MX;refine eA ?_;apply e<;>intro B
 .exact aA (q:=by rw[kj,ae o];rfl)
 refine fk ?_;refine fk ?_;refine fk ?_;apply ev;intro H;refine fk ?_;exact p;apply ev;intro I;refine fk ?_;exact p;apply ev;intro K;refine fk ?_;exact p;apply ev;intro L;refine fk ?_;exact p;apply ev;intro M;refine fk ?_;exact p;apply e<;>intro C
 .let cq:uF b:=by simp only[uF];grind
  exact aA (q:=by rw[kj,ab o,ae cq];rfl)
 let cq:¬uF b:=by simp only[uF];grind
 apply e<;>intro D
 .refine aS ?_ (f:=agw b.num o);exact aA (q:=by rw[kj,ab o,ab cq,ae o];rfl)
 apply e<;>intro y
 .refine aS ?_ (f:=U2 b.text);exact aA (q:=by rw[kj,ab o,ab cq,ab o,ae o];rfl)
 refine i0 (Q b.keys) (λd=>rl ah b.keys=rl (if d=0 then ah else b.keys[d-1]?) (aU d b.keys)) (λd=>⟨[(1,c 1),(4,k d)],[(1,_)],[]⟩) (λd j=>?_) av .r;apply e<;>intro z
 .let i:d<Q b.keys:=o;let l:∀g,rl g (aU d b.keys)=if kJ b.keys[d]≠0 then kJ b.keys[d] else if(match g with|W g=>gR b.keys[d] g||aL (b.keys[d]=g)|ah=>ad)=af then 10 else rl (W b.keys[d]) (aU (d+1) b.keys):=λg=>by rw[pK i];rfl
  refine bi _ _ ?_;refine aS ?_ (f:=U2 b.keys[d]);apply e<;>intro A
  .exact aA (q:=by rw[kj,ab o,ab cq,ab o,ab o,j.2,l,ae o];rfl)
  refine eg ?_;apply c9;intro F;refine gx d _ ?_;refine jf ?_;refine gx (d-1) _ ?_;exact p;apply e<;>intro s
  .exact aA (q:=by let⟨v,n⟩:=s;rw[kj,ab o,ab cq,ab o,ab o,j.2,l,ab o,ab<|show¬d=0 by omega,Oe i o];simp only[dm,cm i,Oe i<|show 0<d by omega,xr] at n;rw[ae a2];rfl)
  let x:¬(match(if d=0 then ah else b.keys[d-1]?) with|W g=>gR b.keys[d] g||aL (b.keys[d]=g)|ah=>ad)=af:=by by_cases u:d=0;grind;grind
  refine bc ?_;exact a0 (d+1) ⟨o,ap⟩ (cq:=.r)
 exact aA (q:=by rw[kj,ab o,ab cq,ab o,ab o,j.2,kM o];rfl)
def axR:∀b:aN,b.G<=1048576->bb 62 [eV b] (an aj b.gB):=by
 refine aN.ind λb v l=>?_;let y:=aN.pp l;refine gJ.of_wp (i:=5000) [] (λ_=>(0,0)) ⟨[(0,eV b)],[],[]⟩ e1 bq gw ⟨func62,a3,p⟩ p p p p λm t u=>?_;let w:k1 _ hV m hB _ []:=⟨e1,bq,t,gw,u⟩;refine aS ?_ (f:=axQ b l);refine dv (Z×J) (λd=>⟨[(1,c 1),(3,an aj d.2),(4,k d.1)],[(1,_)],[]⟩) (λd=>d.1<=Q b.list/\b.gB=if d.2≠0 then d.2 else aN.gB.wi (aU d.1 b.list)) (λd=>Q b.list-d.1) (0,kj b) (λ⟨g,n⟩ aH=>?_) ⟨dO _,b.Hp⟩ .r;refine fk ?_;apply e<;>intro x
 .refine bi g _ ?_ (j:=wH o);refine aS ?_ (f:=v _ (fK _) aY);refine bc ?_;exact a0 (g+1,b.list[g].gB) ⟨o,by rw[aH.2,ab o,pK o];rfl⟩ o
 exact aA (q:=by
  rw[cU,aH.2];by_cases s:n=0;rw[ab o,kM o,s];rfl
  (simp;omega))
def aoO:∀b:aN,b.G<=1048576->∀g:Z,g<=1048576->bb 60 [eV b,k g] (a6 (aL (g<b.fC))):=by
 refine aN.ind λb u t g C=>?_;let A:=aN.pp t;let B:=b.vt;refine gJ.of_wp (i:=5000) [] (λ_=>(0,0)) ⟨[(0,eV b),(1,an aj _)],[],[]⟩ e1 bq gw ⟨func60,a3,p⟩ p p p p λm l s=>?_;let w:k1 _ hV m hB _ []:=⟨e1,bq,l,gw,s⟩;apply e<;>intro z
 .exact aA (q:=by(simp[cU,V.const,V.leaf];omega))
 refine i0 (Q b.list) (λd=>aN.fC.oA (ak d b.list)<g) (λd=>⟨[(1,_),(2,c 2),(5,k d)],[(2,_)],[]⟩) (λd j=>?_) (by grind[aN.fC.oA]) .r;apply e<;>intro x
 .let n:d<Q b.list:=o;refine bi d _ ?_ (j:=wH o);refine jg ((g-1:Z):J) ?_;refine aS ?_ (f:=u _ (fK n) aY (g-1) o);apply e<;>intro y
  .exact aA (q:=by let v:=as1 b.list<|d+1;grind[Tu,cU,V.const,V.leaf])
  refine bc ?_;exact a0 (d+1) ⟨o,by grind[Tu]⟩
 exact aA (q:=by grind[List.take_length,cU,V.const,V.leaf])
def aN.hj:aN->Z->Z|.mk _ _ _ _ c _,i=>wo c 1 i
 where wo:X aN->Z->Z->Z|[],b,_=>b|d::c,b,i=>if b<=i then wo c (b+d.hj (i-b)) i else b
def aN.Hs(b:aN)(i:Z):b.hj i=aN.hj.wo b.list 1 i:=by cases b;rfl
theorem Rk:∀d:aN,∀i,d.hj i<=d.ef/\(d.ef<=i->d.hj i=d.ef)/\(i<d.ef->i<d.hj i):=aN.ind λd t i=>by
 let key:∀(b:X aN)(c:Z),(∀e∈b,∀i,e.hj i<=e.ef/\(e.ef<=i->e.hj i=e.ef)/\(i<e.ef->i<e.hj i))->aN.hj.wo b c i<=c+aN.ef.hy b/\(c+aN.ef.hy b<=i->aN.hj.wo b c i=c+aN.ef.hy b)/\(i<c+aN.ef.hy b->i<aN.hj.wo b c i):=by
  intro b
  induction b with|nil=>simp[aN.hj.wo,aN.ef.hy]|cons f b g=>intro c q;rw[aN.hj.wo,aN.ef.hy];let⟨m,n,r⟩:=q f av<|i-c;split;let⟨j,k,l⟩:=g (c+f.hj (i-c)) λe s=>q e aY;omega;omega
 rw[d.Hs,d.um];simp_all
def aoo:∀b:aN,b.G<=1048576->∀d:Z,d<=1048576->bb 61 [eV b,k d] (k (b.hj d)):=by
 refine aN.ind λb A z d E=>?_;let w:=aN.pp z;let y:=aeH b;refine gJ.of_wp (t:=hV) (i:=5000) [] (λ_=>(0,0)) ⟨[(0,eV b),(1,k d)],[],[]⟩ e1 bq gw ⟨func61,a3,p⟩ p p p p λm v x=>?_;let C:k1 b5 hV m hB _ []:=⟨e1,bq,v,gw,x⟩;refine dv (Z×Z) (λl=>⟨[(1,_),(2,c 2),(5,k l.2),(6,k l.1)],[(2,_)],[]⟩) (λl=>l.1<=Q b.list/\l.2<=1+aN.ef.hy (ak l.1 b.list)/\b.hj d=aN.hj.wo (aU l.1 b.list) l.2 d) (λl=>Q b.list-l.1) (0,1) (λ⟨g,n⟩ aH=>?_) ⟨dO _,o,b.Hs d⟩ .r;refine fk ?_;apply e<;>intro D
 .let s:g<Q b.list:=o;let F:=w.2.2.2.2.1 b.list[g] (fK s);let u:=aeF b.list<|g+1;rw[Uf s] at u;rw[b.um] at y;let B:=(Rk b.list[g] (d-n)).1;refine bi g _ ?_ (j:=wH o);refine jg ((d-n:Z):J) ?_;refine aS ?_ (f:=A b.list[g] (fK s) o (d-n) o);refine e6 ((n+b.list[g].hj (d-n):Z):J) ?_;refine bc ?_;exact a0 (g+1,n+b.list[g].hj (d-n)) ⟨o,by grind[Uf,Rk],by rw[aH.2.2,pK s,aN.hj.wo,ae o]⟩ o .r
 exact aA (q:=by rw[cU,aH.2.2];by_cases s:g<Q b.list;rw[pK s,aN.hj.wo,ab o];rw[kM o];rfl)
def aye(b:aN)(c:b.G<=1048576):bb 28 [eV b] (an aj (mH b)):=by
 refine bx func28 [] λm g=>?_;let d:=Rk b 20000;refine aS ?_ (f:=aoO b c 60 o);apply ev;intro j;refine cf ?_ (f:=aoo b c 20000 o);exact p;apply e<;>intro i
 .exact aA (q:=by rw[mH,ae o];rfl)
 refine aS ?_ (f:=axR b c);exact aA (q:=by rw[mH,ab o];rfl)
def gW(b:X Z):V:=.a 1<|aa k b
theorem xS{T E:Z}(q:¬E<Q (bD T)):T/10000^E=0:=by simp_all[HB,Nat.eq_zero_of_not_pos]
def Zj{b:X Z}{d c:Z}(q:b++bD d=bD c):Q b<=Q (bD c):=by grind
theorem ao7{b:X Z}{c:Z}:V.a 1 (ak c (aa k b))=gW (ak c b):=by rw[gW,Kg]
def aAd(c:X Z)(t:Q c<=1048576):bb 126 [gW c] (gW (Ac c)):=by
 refine bx func126 [] λm l=>?_;let i:Q (aa k c)=Q c:=bg _;refine dv Z (λb=>⟨[(0,_),(3,k b)],[],[]⟩) (λb=>b<=Q c/\∀d,b<=d->d<Q c->c[d]?=W 0) (λb=>b) _ (λb u=>?_) ⟨PQ i,λd f g=>o⟩ .r;apply c9;refineλs=>jf ?_;refine gx (b-1) (k<|z c (b-1) 0) ?_ (j:=aY);exact p;apply e<;>intro n
 .exact jg _<|a0 (b-1) ⟨o,λd f g=>by grind⟩ (cq:=.r)
 refine T_ 0 b b ?_;exact aA (q:=by show V.a 1 _=_;grind[ao7,VW,Nat.eq_zero_or_pos,List.getElem?_eq_getElem])
def tg(c:Z)(n:c<9223372036854775808):bb 73 [k c] (gW (bD c)):=by
 refine bx func73 [] λm i=>?_;let l:Q (bD c)<=5:=ov o;refine aZ.eQ 3 1 3 [3] ah<|dv (X Z×Z) (λb=>⟨[(0,k b.2),(3,.aq 3 0<|Q<|aa k b.1)],[(3,.h 1 3<|aa k b.1)],[]⟩) (λb=>b.2<=c/\b.1++bD b.2=bD c) (λb=>b.2) ([],c) λ⟨f,d⟩ aH=>?_;let g:=Zj aH.2;dsimp at aH g⊢;apply e<;>intro j
 .refine FG _<|er ?_;refine e7 (aa k<|f++[d%10000])<|IG (d/10000:Z)<|a0 (f++[d%10000],d/10000) ⟨o,by grind[xT]⟩ o
 exact ib 3<|aA (q:=by
  obtain rfl:d=0:=by omega
  rw[cU,gW,<-aH.2,qn,ff];rfl)
def Lr(y R:Z)(B:Q (bD y)<=1048576)(C:Q (bD R)<=1048576):bb 124 [gW (bD y),gW (bD R)] (an aj (if y<R then-1 else if R<y then 1 else 0)):=by
 refine bx func124 [] λm t=>?_;let c:Q (aa k<|bD y)=Q (bD y):=bg _;apply e<;>intro u
 .apply e<;>intro v
  .exact aA (q:=by rw[cU,ae<|adA o];rfl)
  exact aA (q:=by have:=adA (y:=R) (R:=y) o;rw[cU,ab o,ae this];rfl)
 refine jf ?_;refine dv Z (λb=>⟨[(0,_),(1,_),(5,an aj ((b:Z)-1:J))],[],[]⟩) (λb=>b<=Q (bD y)/\y/10000^b=R/10000^b) (λb=>b) (Q<|aa k<|bD y) (λb d=>?_) ⟨PQ c,by rw[c,xS<|xo _];rw[show Q (bD y)=Q (bD R) by omega,xS (xo _)]⟩ .r;apply e<;>intro w
 .let i:y/10000^b=y/10000^(b-1)/10000:=by obtain⟨A,rfl⟩:∃A,b=A+1:=⟨b-1,o⟩;exact A3 y A
  let l:R/10000^b=R/10000^(b-1)/10000:=by obtain⟨A,rfl⟩:∃A,b=A+1:=⟨b-1,o⟩;exact A3 R A
  let n:=zm (T:=y) (E:=b-1) o;let s:=zm (T:=R) (E:=b-1) o;let f:y/10000^(b-1)<R/10000^(b-1)->y<R:=λq=>by grind[Nat.div_le_div_right]
  let g:R/10000^(b-1)<y/10000^(b-1)->R<y:=λq=>by grind[Nat.div_le_div_right]
  refine eg ?_;refine bi (b-1) _ ?_ (j:=hR o);refine bi (b-1) _ ?_ (j:=hR o);apply e<;>intro x
  .exact aA (q:=by rw[cU,ae<|f o];rfl)
  refine eg ?_;refine bi (b-1) _ ?_ (j:=hR o);refine bi (b-1) _ ?_ (j:=hR o);apply e<;>intro z
  .exact aA (q:=by have:=g o;rw[cU,ab o,ae this];rfl)
  refine jg (((b-1:Z):J)-1) ?_;exact a0 (b-1) ⟨o,o⟩ (cq:=.r)
 exact aA (q:=by
  obtain rfl:b=0:=by omega
  have:=d.2;simp at this;subst this;rw[cU,ab o,ab o];rfl)
def Rx{y R A:Z}(b:Q (bD y)<=A)(c:Q (bD R)<=A):Q (bD (y+R))<=A+1:=by refine ov ?_;let d:=kv (A0 y)<|qb o b;let e:=kv (A0 R)<|qb o c;rw[rR];omega
def ER{b R A L:Z}(e:Q (bD b)<=A)(f:Q (bD R)<=L):Q (bD (b*R))<=A+L:=by refine ov ?_;let c:=kv (A0 b)<|qb o e;let d:=kv (A0 R)<|qb o f;rw[qa];rcases oR R with rfl|g;simp;exact Ar (pw o)<|pw o;exact akf c (xn d)<|pw o
def Xs(b c:Z)(B:Q (bD b)<=100000)(C:Q (bD c)<=100000):bb 240 [gW (bD b),gW (bD c)] (gW (bD (b+c))):=by
 refine bx func240 [] λm F=>?_;have M:Q (aa k (bD b))=Q (bD b):=bg _;have N:Q (aa k (bD c))=Q (bD c):=bg _;have L:=Rx B C;refine aZ.eQ 5 1 3 [5] ah ?_;refine dv (Z×Z×X Z) (λd=>⟨[(0,_),(1,_),(6,k d.2.1),(7,k d.1),(5,.aq 5 0<|Q<|aa k d.2.2)],[(5,.h 1 3<|aa k d.2.2)],[]⟩) (λd=>d.2.1<=1/\Q d.2.2=d.1/\d.2.2++bD (b/10000^d.1+c/10000^d.1+d.2.1)=bD (b+c)) (λd=>Q (bD<|b+c)-d.1) (0,0,[]) (λ⟨E,l,out⟩ aH=>?_) ⟨aR,p,av⟩ .r;dsimp only at aH⊢;have J:=Zj aH.2.2;let⟨G,x,aH⟩:=aH;have i:=xS (T:=b) (E:=E);have n:=xS (T:=c) (E:=E);have y:=A3 b E;have z:=A3 c E;generalize v:b/10000^E=f at aH i y;generalize w:c/10000^E=g at aH n z;refine eA ?_;refine eA ?_;apply e<;>intro s
 .have D:0<f+g+l:=by rcases s with(q|q)|q;have:=HB.1 (show E<Q (bD b) by omega);rw[v] at this;omega;have:=HB.1 (show E<Q (bD c) by omega);rw[w] at this;omega;omega
  have K:E<Q (bD (b+c)):=by rw[<-aH,cX,xT D,x];simp
  apply e<;>intro H
  focus have t:=zm (T:=b) (E:=E) o;rw[v] at t;refine bi E _ ?_ (j:=hR o);refine bc ?_
  rotate_left
  focus have t:=i o
  all_goals
   apply e<;>intro I
   focus have u:=zm (T:=c) (E:=E) o;rw[w] at u;refine bi E _ ?_ (j:=hR o);refine bc ?_
   rotate_left
   focus have u:=n o
   all_goals refine Nr (l+f%10000+g%10000) 10000 ?_;refine er ?_;refine e7 (aa k<|out++[(l+f%10000+g%10000)%10000]) ?_ (aW:=by simp[k]) (bQ:=a2);refine FF (l+f%10000+g%10000) 10000 ?_;refine bc ?_;exact a0 (E+1,(l+f%10000+g%10000)/10000,out++[(l+f%10000+g%10000)%10000]) ⟨tx,by simp[x],by dsimp only;rw[y,z,<-aH,xT (T:=f+g+l) o,fJ];congr 1;rw[show(f+g+l)%10000=(l+f%10000+g%10000)%10000 by omega,show(f+g+l)/10000=f/10000+g/10000+(l+f%10000+g%10000)/10000 by omega];rfl⟩ tx .r
 refine ib 5 ?_;exact aA (q:=by
  have A:f+g+l=0:=by rw[i λq=>s<|bl<|bl o,n λq=>s<|bl<|bp o];omega
  rw[A,qn,ff] at aH;rw[cU,<-aH];rfl)
def JH(b:X Z)(c:Z)(d:Q b<=1048576)(bA:∀I∈b,I<10000)(e:h6 b=c):bb 126 [gW b] (gW (bD c)):=by have:=aAd b d;rwa [aiP b bA,e] at this
def Tt(b:X Z):Q (aa k b)=Q b:=bg _
def VJ(b g:Z)(R:g<=b)(ao:Q (bD b)<=100000):bb 181 [gW (bD b),gW (bD g)] (gW (bD (b-g))):=by
 refine bx func181 [] λm S=>?_;have ap:Q (aa k (bD b))=Q (bD b):=bg _;have ar:Q (aa k (bD g))=Q (bD g):=bg _;refine kF (Q<|bD b) (Q<|bD b) (aa k<|cM (Q<|bD b) 0) ?_ (aW:=xt);refine dv (Z×Z×X Z) (λd=>⟨[(0,_),(1,_),(6,k d.2.1),(7,k d.1),(5,.aq 11 0<|Q<|bD b)],[(11,.h 1 3<|aa k d.2.2)],[]⟩) (λd=>d.1<=Q (bD b)/\d.2.1<=1/\Q d.2.2=Q (bD b)/\(∀I∈d.2.2,I<10000)/\(∀w,d.1<=w->w<Q (bD b)->d.2.2[w]?=W 0)/\h6 d.2.2+b/10000^d.1*10000^d.1=b-g+(g/10000^d.1+d.2.1)*10000^d.1) (λd=>Q (bD b)-d.1) (0,0,cM (Q<|bD b) 0) (λ⟨E,l,i⟩ aH=>?_) ⟨dO _,dO _,av,λI bA=>by rw[yN bA];omega,λw _ q=>by rw[yP,ae q],by simp[V2];omega⟩ .r;dsimp only at aH⊢;let⟨am,U,F,D,z,v⟩:=aH;have O:=xS (T:=g) (E:=E);have H:=A3 b E;have J:=A3 g E;have N:10000^(E+1)=10000^E*10000:=rR ..;generalize L:b/10000^E=t at v H;generalize M:g/10000^E=n at v O J;apply e<;>intro Y
 .have P:=zm (T:=b) (E:=E) o;rw[L] at P;refine bi E _ ?_ (j:=hR o);refine jf ?_;apply e<;>intro ak
  focus have K:=zm (T:=g) (E:=E) o;rw[M] at K;refine bi E _ ?_ (j:=hR o);refine jf ?_
  rotate_left
  focus have K:=O o
  all_goals
   apply e<;>intro al
   .refine bc ?_;refine cC E ?_;refine gN (aa k<|aK i E<|(10000+t%10000-n%10000-l)%10000) (k 0) (an aj _) ?_ (j:=by rw[c4,z E (bz _) o];rfl) (aW:=by rw[hW];simp only[k];congr 2;omega);refine bc ?_;exact a0 (E+1,1,aK i E<|(10000+t%10000-n%10000-l)%10000) ⟨tx,tx,by simp[F],Na D o,λw y u=>by
     dsimp only at y⊢;rw[ajQ o];exact z w o u,by
     dsimp only;rw[H,J,N];have G:∀s x:Z,t+(n/10000+x)*10000=n+l+t/10000*10000+s->h6 (aK i E s)=h6 i+s*10000^E->h6 (aK i E s)+t/10000*(10000^E*10000)=b-g+(n/10000+x)*(10000^E*10000):=λs x u B=>by rw[B];generalize 10000^E=A at v;have C:=ep (·*A) u;simp only[iG,qU] at C v⊢;rw[lV A 10000];omega
     refine G _ _ o ?_;simpa using JR i E _ 0 (z E (bz _) o)⟩ tx .r
   refine cC E ?_;refine gN (aa k<|aK i E<|(10000+t%10000-n%10000-l)%10000) (k 0) (an aj _) ?_ (j:=by rw[c4,z E (bz _) o];rfl) (aW:=by rw[hW];simp only[k];congr 2;omega);refine bc ?_;exact a0 (E+1,0,aK i E<|(10000+t%10000-n%10000-l)%10000) ⟨tx,tx,by simp[F],Na D o,λw y u=>by
    dsimp only at y⊢;rw[ajQ o];exact z w o u,by
    dsimp only;rw[H,J,N];have G:∀s x:Z,t+(n/10000+x)*10000=n+l+t/10000*10000+s->h6 (aK i E s)=h6 i+s*10000^E->h6 (aK i E s)+t/10000*(10000^E*10000)=b-g+(n/10000+x)*(10000^E*10000):=λs x u B=>by rw[B];generalize 10000^E=A at v;have C:=ep (·*A) u;simp only[iG,qU] at C v⊢;rw[lV A 10000];omega
    refine G _ _ o ?_;simpa using JR i E _ 0 (z E (bz _) o)⟩ tx .r
 refine FO 11 (Q<|bD b) (by rw[Tt,F]) ?_;refine aS ?_ (f:=JH i (b-g) o D (by
  obtain rfl:E=Q (bD b):=by omega
  have y:=xS (T:=b)<|xo _;have u:=Nat.div_le_div_right (c:=10000^Q (bD b)) R;have B:=aAL D;rw[L] at y u;rw[M] at u;rw[F] at B;have C:n=0:=by omega
  rw[y,C] at v;rcases(show l=0\/l=1 by omega) with rfl|rfl;simpa using v;simp only[As,kZ,vZ] at v;omega))
 exact aA
def atS{y c E b:Z}(e:c<10000^b):y%10000^(E+1)*c<10000^(E+1+b):=by rw[qa _ _ b];let d:y%10000^(E+1)<10000^(E+1):=sJ _ aY;simp_all[akf,xn,pw]
def atU{g f K l e C d b c:Z}(k:f+K*b=g+d%10000*b)(m:d=K+l+e*(c%10000)):f+d/10000*(b*10000)+e*(c/10000)*(b*10000)=g+l*b+e*c*b:=by let i:=xm d 10000;let j:=xm c 10000;grind
def Bz(y b:Z)(aB:Q (bD y)<=50000)(aC:Q (bD b)<=50000):bb 70 [gW (bD y),gW (bD b)] (gW (bD (y*b))):=by
 refine bx func70 [] λm M=>?_;have aD:Q (aa k (bD y))=Q (bD y):=bg _;have aE:Q (aa k (bD b))=Q (bD b):=bg _;generalize ak:Q (bD y)+Q (bD b)=g;refine bc ?_;refine kF g g (aa k<|cM g 0) ?_ (aW:=xt);refine dv (Z×X Z) (λd=>⟨[(0,_),(1,_),(6,k d.1),(5,.aq 15 0 g)],[(15,.h 1 3<|aa k d.2)],[]⟩) (λd=>d.1<=Q (bD y)/\Q d.2=g/\(∀I∈d.2,I<10000)/\h6 d.2=y%10000^d.1*b) (λd=>Q (bD y)-d.1) (0,cM g 0) (λ⟨E,u⟩ aH=>?_) ⟨dO _,av,λI bA=>ap,by simp[V2,Nat.mod_one]⟩ .r;dsimp only at aH⊢;let⟨ax,B,z,R⟩:=aH;apply e<;>intro ar
 .have G:=zm (T:=y) (E:=E) o;have M:=atS (y:=y) (E:=E)<|A0 b;have am:y%10000^(E+1)*b=h6 u+y/10000^E%10000*b*10000^E:=by rw[Nat.mod_pow_succ,R,iG,lV<|10000^E,qU,qU,lV (10000^E) b]
  generalize Y:y/10000^E%10000=t at*;refine dv (Z×Z×X Z) (λC=>⟨[(0,_),(1,_),(6,_),(7,k C.2.1),(8,k C.1),(5,.aq 15 0 g)],[(15,.h 1 3<|aa k C.2.2)],[]⟩) (λC=>C.2.1<10000/\C.1<=Q (bD b)+1/\Q C.2.2=g/\(∀I∈C.2.2,I<10000)/\h6 C.2.2+C.2.1*10000^(E+C.1)+t*(b/10000^C.1)*10000^(E+C.1)=y%10000^(E+1)*b) (λC=>Q (bD b)+1-C.1) (0,0,u) (λ⟨A,l,c⟩ aW=>?_) ⟨av,o,B,z,aY⟩ .r;dsimp only at aW⊢;let⟨aw,az,O,w,S⟩:=aW;refine eA ?_;apply e<;>intro x
  .have ay:A<=Q (bD b):=by
    rcases fF (Q (bD b)) A with q|q;exfalso;have N:1<=l:=by rcases x with H|H<;>omega
    have U:1*10000^(E+A)<=l*10000^(E+A):=jU _ N;grind;exact q
   have D:E+A<Q c:=o;have P:c[E+A]?=W c[E+A]:=cm D;have aF:c[E+A]<10000:=w _<|fK D;obtain⟨n,s⟩:∃n,n=t*(b/10000^A%10000):=⟨_,p⟩;have al:n<=9999*9999:=by rw[s];exact Ci o o
   obtain⟨i,L⟩:∃i,i=c[E+A]+l+n:=⟨_,p⟩;have K:i=c[E+A]+l+t*(b/10000^A%10000):=by rw[L,s]
   refine bc ?_;refine cC (E+A) ?_;refine e9 (k c[E+A]) ?_ (j:=aY);refine bc ?_;apply e<;>intro au
   focus
    have v:=zm (T:=b) (E:=A) o;have F:(bD y)[E]*(bD b)[A]=n:=by rw[s,G,v]
    refine eg ?_;refine bi _ _ ?_ (j:=hR o);refine bi _ _ ?_ (j:=hR o);refine BC (n:J) ?_ (q:=o);refine bc ?_
   rotate_left
   focus have v:=xS (T:=b) (E:=A) o;have F:n=0:=by rw[s,v];simp
   all_goals refine bc ?_;refine Nr i 10000 ?_;refine cC (E+A) ?_;refine gN (aa k<|aK c (E+A)<|i%10000) (k c[E+A]) (an aj _) ?_ (j:=aY) (aW:=by rw[hW];rfl);refine FF i 10000 ?_;refine bc ?_;exact a0 (A+1,i/10000,aK c (E+A)<|i%10000) ⟨a2,o,aY,Na w o,by dsimp only;rw[A3,show E+(A+1)=E+A+1 by omega,rR 10000 (E+A),<-S];exact atU (C:=0) (JR c (E+A) (i%10000) _ P) K⟩ o .r
  refine bc ?_;exact a0 (E+1,c) ⟨o,O,w,by dsimp only;have ao:=xS (T:=b) (E:=A) λq=>x<|bl o;grind⟩ o .r
 refine FO 15 g (by rw[Tt,B]) ?_;refine aS ?_ (f:=JH u (y*b) o z (by grind[Nat.mod_eq_of_lt,A0]));exact aA
def ahT(c b:Z)(d:Q (bD c)<=50000)(e:b<9223372036854775808):bb 180 [gW (bD c),k b] (gW (bD (c*b))):=by refine bx func180 [] λm g=>?_;refine aS (f:=tg b e)<|aS ?_ (f:=Bz c b d<|dK (ov (A:=5) o) o);exact aA
def arf{b:X Z}:∀I∈aa k b,Q (kb I)=1:=λI bA=>by obtain⟨c,_,rfl⟩:=cV.1 bA;rfl
def LH(c b:Z)(w:0<b)(aD:Q (bD c)<=5000)(z:Q (bD b)<=5000):bb 125 [gW (bD c),gW (bD b)] (cs [gW (bD (c/b)),gW (bD (c%b))]):=by
 refine bx func125 [] λm P=>?_;let Y:Q (aa k<|bD c)=Q (bD c):=bg _;refine kF (Q<|bD c) (Q<|bD c) (aa k<|cM (Q<|bD c) 0) ?_ (aW:=xt);refine jf ?_;refine aZ.tZ 1 [7] ?_;refine dv (Z×X Z×Z) (λi=>⟨[(0,_),(1,_),(7,gW<|bD i.2.2),(8,an aj ((i.1:Z)-1:J)),(6,.aq 14 0<|Q<|bD c)],[(14,.h 1 3<|aa k i.2.1)],[]⟩) (λi=>i.1<=Q (bD c)/\Q i.2.1=Q (bD c)/\(∀I∈i.2.1,I<10000)/\(∀A,A<i.1->i.2.1[A]?=W 0)/\h6 i.2.1=c/10000^i.1/b*10000^i.1/\i.2.2=c/10000^i.1%b) (λi=>i.1) (Q<|aa k<|bD c,cM (Q<|bD c) 0,0) (λ⟨d,v,B⟩ aH=>?_) ⟨PQ Y,av,λI bA=>ap,λd q=>ap,by simp[xS,xo,V2],by simp[xS,xo,Nat.zero_mod]⟩ ⟨⟨p,p,(by dsimp only;rw[qn];rfl),p,p,c1⟩,⟨p,c1⟩,p,p⟩;dsimp only at aH⊢;let⟨aB,S,K,R,ao,x⟩:=aH;apply e<;>intro ax
 .let az:0<d:=o;let U:d-1<Q (bD c):=o;let N:=zm (T:=c) (E:=d-1) U;let C:c/10000^d=c/10000^(d-1)/10000:=by obtain⟨A,rfl⟩:∃A,d=A+1:=⟨d-1,o⟩;exact A3 c A
  let au:10000^d=10000^(d-1)*10000:=by obtain⟨A,rfl⟩:∃A,d=A+1:=⟨d-1,o⟩;exact rR ..
  obtain⟨n,y⟩:∃n,n=c/10000^(d-1):=⟨_,p⟩;rw[<-y] at N C;obtain⟨l,P⟩:∃l,l=n%10000+10000*(n/10000%b):=⟨_,p⟩;let F:n=l+b*(n/10000/b*10000):=by
   let D:=xm n 10000;let O:=xm (n/10000) b;let ar:b*(n/10000/b*10000)=10000*(b*(n/10000/b)):=by rw[<-qU,lV]
   omega
  let G:l<b*10000:=by let D:=sJ (n/10000) w;let O:=sJ n (show 0<10000 by omega);omega
  obtain⟨s,u⟩:∃s,s=l/b:=⟨_,p⟩;let ak:s<10000:=by rw[u];exact Nat.div_lt_of_lt_mul G
  let al:b*s<=l:=by rw[u];exact Nat.mul_div_le l b
  let aG:c/10000^(d-1)/b=n/10000/b*10000+s:=by
   rw[<-y,u]
   conv=>lhs;rw[F]
   rw[Nat.add_mul_div_left _ _ w,xl]
  let am:l-b*s=c/10000^(d-1)%b:=by
   rw[<-y,u]
   conv=>rhs;rw[F]
   rw[Nat.add_mul_mod_self_left];have:=xm l b;omega
  let aw:Q (bD l)<=5002:=by refine dK (vf<|xn G) ?_;exact dK (ER (L:=2) z<|ov o) o
  rw[C] at ao x;let aI:Q (bD B)<=5000:=by rw[x];exact dK (vf<|xn<|sJ _ w) z
  refine bi (d-1) _ ?_ (j:=hR o);refine pW ?_;refine e7 (aa k<|(bD c)[d-1]::bD B) ?_ (hl:=.a p p p p arf) (bQ:=aY);refine BI 26 ?_;refine aS ?_ (f:=JH ((bD c)[d-1]::bD B) l aY (by intro I bA;rcases fR.1 bA with rfl|bA;omega;exact aoY _ I bA) (by grind[h6,aAK]));refine dv (Z×Z) (λt=>⟨[(0,_),(1,_),(7,_),(8,_),(9,k t.1),(10,k t.2),(6,.aq 14 0<|Q<|bD c)],[(14,.h 1 3<|aa k v)],[]⟩) (λt=>t.1<=s/\s<=t.2/\t.2<=9999) (λt=>t.2-t.1) (0,9999) (λ⟨g,j⟩ aW=>?_) ⟨dO _,o,bz _⟩ .r;dsimp only at aW⊢;apply e<;>intro ay
  .refine bc ?_;refine bc ?_;refine FF (g+j+1) 2 ?_;refine aS ?_ (f:=ahT b ((g+j+1)/2) o o);refine aS ?_ (f:=Lr (b*((g+j+1)/2)) l (dK (ER (L:=2) z<|ov o) o) o);apply e<;>intro H
   .let aE:b*((g+j+1)/2)<=l:=by revert H;generalize b*((g+j+1)/2)=M;split;omega;omega
    exact a0 ((g+j+1)/2,j) ⟨by dsimp only;rw[u];exact(Nat.le_div_iff_mul_le w).2 aY,aW.2.1,aW.2.2⟩ o .r
   let aF:s<(g+j+1)/2:=by rw[u];refine(Kj w).2 ?_;rw[lV];revert H;generalize b*((g+j+1)/2)=M;split;omega;omega
   refine jg (((g+j+1)/2-1:Z):J) ?_;exact a0 (g,(g+j+1)/2-1) ⟨aW.1,o,o⟩ o .r
  obtain rfl:g=s:=o;refine cC (d-1) ?_;refine gN (aa k<|aK v (d-1) g) (k 0) (an aj _) ?_ (j:=aY) (aW:=by rw[hW];rfl);refine aS ?_ (f:=ahT b g o o);refine aS ?_ (f:=VJ l (b*g) al o);refine jg (((d-1:Z):J)-1) ?_;exact a0 (d-1,aK v (d-1) g,l-b*g) ⟨o,aY,Na K ak,λA aC=>by grind,by dsimp only;let D:=JR v (d-1) g 0<|R (d-1) o;grind,am⟩ o .r
 refine FO 14 (Q<|bD c) (by rw[Tt,S]) ?_;refine aS ?_ (f:=JH v (c/b) o K (by grind));exact aA (q:=by
  obtain rfl:d=0:=by omega
  rw[Nat.pow_zero,Kk] at x;rw[x];rfl)
def N9{b A T:Z}(q:Q (bD b)<=A):Q (bD (b^T))<=A*T+1:=by refine ov ?_;let c:=kv (A0 b)<|qb o q;let d:b^T<=(10000^A)^T:=Nat.pow_le_pow_left o T;grind[Nat.pow_mul,Nat.lt_of_le_of_lt,Nat.pow_lt_pow_right]
def aqq(d g:Z)(n:Q (bD d)<=5000)(r:Q (bD g)<=5000):bb 123 [gW (bD d),gW (bD g)] (gW (bD (jk d g))):=by
 refine bx func123 [] λm k=>?_;refine dv (Z×Z) (λb=>⟨[(0,gW<|bD b.1),(1,gW<|bD b.2)],[],[]⟩) (λb=>jk b.1 b.2=jk d g/\Q (bD b.1)<=5000/\Q (bD b.2)<=5000) (λb=>b.2) (d,g) λ⟨j,c⟩ aH=>?_;apply e<;>intro l
 .let i:0<c:=by rcases oR c with rfl|q;grind[qn];exact q
  refine aS ?_ (f:=LH j c i aH.2.1 aH.2.2);exact a0 (c,j%c) ⟨by grind[Nat.gcd_comm,Nat.gcd_rec],aH.2.2,dK (vf<|xn<|sJ _ i) aH.2.2⟩<|sJ _ i
 exact aA (q:=by
  let i:c=0:=by rcases oR c with q|q;exact q;grind[bD,CP,List.eq_nil_of_length_eq_zero]
  grind[Nat.gcd_zero_right,cU])
def af3(T:Z)(v:T<=64):bb 72 [gW (bD 10),k T] (gW (bD (10^T))):=by
 refine bx func72 [] λm n=>?_;refine aS (f:=tg 1 o)<|dv (Z×Z×Z) (λc=>⟨[(0,gW<|bD<|10^c.2.1),(1,k c.2.2),(5,gW<|bD c.1)],[],[]⟩) (λc=>c.1*(10^c.2.1)^c.2.2=10^T/\c.2.1<=128/\c.2.1*c.2.2<=64/\0<c.2.1) (λc=>c.2.2) (1,1,T) (λ⟨K,b,A⟩ aH=>?_) ⟨av,av,a2,av⟩;dsimp only at aH⊢;apply e<;>intro s
 .let he:b<=64:=by have:b*1<=b*A:=GP _ o;omega
  let u:A<=64:=by have:1*A<=b*A:=jU _ o;omega
  let g:(b+b)*(A/2)<=64:=by
   let i:(b+b)*(A/2)=b*(2*(A/2)):=by rw[<-Nat.mul_two,qU]
   let l:b*(2*(A/2))<=b*A:=GP _ o;omega
  let d:Q (bD 10)<=1:=ov aR;let t:Q (bD<|10^b)<=129:=dK (N9 (T:=b) d) o;let j:K<=10^T:=by rw[<-aH.1];exact PP _<|pw<|pw o
  let w:Q (bD K)<=129:=dK (vf j)<|dK (N9 (T:=T) d) o;refine Nr A 2 ?_;apply e<;>intro r
  .refine aS (f:=Bz K (10^b) o o)<|aS (f:=by have:=Bz (10^b) (10^b) o o;rw[<-qa] at this;exact this)<|FF A 2<|a0 (K*10^b,b+b,A/2) ⟨by rw[<-aH.1,qU,<-PT,<-PT,<-qa]<;>grind,a2,g,a2⟩ a2
  refine aS (f:=by have:=Bz (10^b) (10^b) o o;rw[<-qa] at this;exact this)<|FF A 2<|a0 (K,b+b,A/2) ⟨by
   rw[<-aH.1,<-PT,<-PT];let i:A=2*(A/2):=by omega
   grind,a2,g,a2⟩ a2
 exact aA (q:=by simp_all[Nat.pow_zero,Aq,cU])
def jL(b:qe):V:=bH [a6 b.neg,gW<|bD b.num,gW<|bD b.dx]
def zK(n:Y)(num b:Z)(bA:0<b)(l:Q (bD num)<=5000)(g:Q (bD b)<=5000):bb 69 [a6 n,gW (bD num),gW (bD b)] (jL (m1 n num b)):=by
 refine bx func69 [] λm s=>?_;let r:Q (bD 1)<=1:=ov aR;let d:0<jk num b:=Kl _ bA;let k:Q (bD<|jk num b)<=5000:=dK (vf<|Nat.le_of_dvd bA<|GN _ _) g;apply e<;>intro t
 .let c:num=0:=by rcases oR num with q|q;exact q;grind[bD,CP,List.eq_nil_of_length_eq_zero]
  refine aS ?_ (f:=tg 1 o);exact hQ 1 6 [1]<|dB bq (q:=by rw[cU,m1,ae c,jL,qn];rfl)
 let c:num≠0:=λq=>by grind[qn]
 refine aS (f:=aqq num b l g)<|aS (f:=tg 1 o)<|aS ?_ (f:=Lr (jk num b) 1 o o);apply e<;>intro i
 .let j:1<jk num b:=by revert i;split;omega;omega
  refine aS ?_ (f:=LH num (jk num b) d l k);refine aS ?_ (f:=LH b (jk num b) d g k);exact dB bq (q:=by rw[cU,m1,ab c];rfl)
 let j:jk num b=1:=by revert i d;split;omega;omega
 exact dB bq (q:=by rw[cU,m1,ab c,j,Kk,Kk];rfl)
def avR(b:J)(I:Z)(l:-1000000000000000000<b)(n:b<1000000000000000000)(bA:0<I)(j:I<1000000000000000000):bb 241 [an aj b,k I] (jL (m1 (aL (b<0)) (g6 b) I)):=by
 refine bx func241 [] λm g=>?_;let c:Q (bD<|g6 b)<=5000:=dK (ov (A:=5) o) o;let d:Q (bD I)<=5000:=dK (ov (A:=5) o) o;apply e<;>intro i
 .refine aeq (g6 b:J)<|aS (f:=tg (g6 b) o)<|aS (f:=tg I o)<|aS ?_ (f:=zK af (g6 b) I bA c d);exact dB bq (q:=by rw[sL o];rfl)
 refine aS (f:=by have:=tg (g6 b) o;rw[k,show((g6 b:Z):J)=b by omega] at this;exact this)<|aS (f:=tg I o)<|aS ?_ (f:=zK ad (g6 b) I bA c d);exact dB bq (q:=by rw[Kx o];rfl)
theorem aBS:m1 (aL ((1:J)<0)) (g6 (1:J)) 1=cw bP:=by rfl
def HG{am:J}{A:Z}(q:Q (bD (g6 am))<=A)(b:8<=A):Q (bD (cw am).num)<=A/\Q (bD (cw am).dx)<=8:=⟨dK (vf (by unfold cw m1;split;simp;simp[PO])) q,dK (vf<|ZI am)<|ov aR⟩
def sn(b:J):Prop:=Q (bD<|g6 b)<=200
def atN{b:J}(q:g6 b<10000^100):sn b:=dK (ov q) o
def GA:bb 173 [k 1] (jL (cw bP)):=by refine bx func173 [] λm b=>?_;refine aS ?_ (f:=by have:=avR 1 1 aR aR aR aR;exact this);exact dB bq
def ayU(b:qe):bb 227 [jL b] (an aj (Gi b)):=by
 refine bx func227 [] λm f=>?_;apply e<;>intro g
 .let c:b.num=0:=by rcases oR _ with q|q;exact q;grind[bD,CP,List.eq_nil_of_length_eq_zero]
  exact aA (q:=by rw[cU,Gi,ae c];rfl)
 let c:b.num≠0:=λq=>by grind[qn]
 apply e<;>intro d
 .exact aA (q:=by rw[cU,Gi,ab c,ae d];rfl)
 exact aA (q:=by rw[cU,Gi,ab c,ab d];rfl)
def TT(b:qe):bb 239 [jL b] (jL (Iz b)):=by
 refine bx func239 [] λm d=>?_;apply e<;>intro f
 .let c:b.num≠0:=λq=>by grind[qn]
  exact dB bq (q:=by rw[cU,Iz,ab c];rfl)
 let c:b.num=0:=by rcases oR _ with q|q;exact q;grind[bD,CP,List.eq_nil_of_length_eq_zero]
 exact dB bq (q:=by rw[cU,Iz,ae c];rfl)
theorem af0(b c:qe)(r:0<b.dx)(s:0<c.dx)(l:Q (bD b.num)<=300)(i:Q (bD b.dx)<=300)(n:Q (bD c.num)<=300)(j:Q (bD c.dx)<=300):bb 172 [jL b,jL c] (jL (F3 b c)):=by
 refine bx func172 [] λm v=>?_;let bA:0<b.dx*c.dx:=Ar r s;let t:=ER l j;let u:=ER n i;let w:=ER i j;let x:=Rx (y:=b.num*c.dx) (R:=c.num*b.dx) t u;refine eg ?_;refine cf ?_ (f:=Bz b.num c.dx o o);refine cf ?_ (f:=Bz c.num b.dx o o);refine cf ?_ (f:=Bz b.dx c.dx o o);refine Nn ?_;apply e<;>intro g
 .refine eS ?_;refine br (λ_=>cf p (f:=Xs (b.num*c.dx) (c.num*b.dx) o o)) ?_;refine br (λ_=>cf p (f:=zK b.neg (b.num*c.dx+c.num*b.dx) (b.dx*c.dx) bA o o)) ?_;refine fx ?_;refine fZ ?_;exact dB bq (q:=by rw[cU,F3,ae g];rfl)
 refine aS ?_ (f:=Lr (b.num*c.dx) (c.num*b.dx) o o);apply e<;>intro k
 .let d:c.num*b.dx<=b.num*c.dx:=by revert k;split;omega;omega
  refine eS ?_;refine br (λ_=>cf p (f:=VJ (b.num*c.dx) (c.num*b.dx) d o)) ?_;refine br (λ_=>cf p (f:=zK b.neg (b.num*c.dx-c.num*b.dx) (b.dx*c.dx) bA (dK (vf<|Nat.sub_le _ _) o) o)) ?_;refine fx ?_;refine fZ ?_;exact dB bq (q:=by rw[cU,F3,ab g,ae d];rfl)
 let d:¬c.num*b.dx<=b.num*c.dx:=by revert k;split;omega;omega
 refine eS ?_;refine br (λ_=>cf p (f:=VJ (c.num*b.dx) (b.num*c.dx) o o)) ?_;refine br (λ_=>cf p (f:=zK c.neg (c.num*b.dx-b.num*c.dx) (b.dx*c.dx) bA (dK (vf<|Nat.sub_le _ _) o) o)) ?_;refine fx ?_;refine fZ ?_;exact dB bq (q:=by rw[cU,F3,ab g,ab d];rfl)
def MY(b c:J)(d:sn b)(e:sn c):bb 175 [jL (cw b),jL (cw c)] (jL (cw (b-c))):=by refine bx func175 [] λm k=>?_;let⟨ch,g⟩:=HG (am:=b) (A:=200) d o;let⟨i,j⟩:=HG (am:=-c) (A:=200) (by rw[Int.natAbs_neg];exact e) o;refine eS ?_;refine br (λ_=>cf p (f:=by have:=TT<|cw c;rw[TS] at this;exact this)) ?_;refine br (λ_=>cf p (f:=by have:=af0 (cw b) (cw<|-c) (xV b) (xV _) o o o o;rw[afZ,<-Int.sub_eq_add_neg] at this;exact this)) ?_;refine fx<|fZ ?_;exact dB bq
def avb(b c:J)(d:sn b)(e:sn c):bb 164 [jL (cw b),jL (cw c)] (an aj (fm (b-c))):=by refine bx func164 [] λm g=>?_;refine aS (f:=MY b c d e)<|aS ?_ (f:=by have:=ayU<|cw<|b-c;rw[ayT] at this;exact this);exact aA
def UL(b c:J)(d:sn b)(e:sn c):bb 172 [jL (cw b),jL (cw c)] (jL (cw (b+c))):=by let⟨ch,f⟩:=HG d o;let⟨g,i⟩:=HG e o;grind[af0,cw,xV,afZ]
structure fb where
 inf:Y
 op:Y
 z:J
def fb.B(b:fb):qe:=if b.inf then⟨ad,0,0⟩ else cw b.z
def fb.nY{F:fb}(q:F.inf=ad):F.B=cw F.z:=by simp_all[fb.B,ab]
structure aV where
 low:fb
 high:fb
 dz:Y
def eh(b:J):J:=b/(bP:J)*bP
def nm(b:J):J:=-eh (-b)
def gE(M:aV):Y:=if(M.low.inf||M.high.inf) then ad else aL (M.high.z<M.low.z)||aL (M.low.z=M.high.z)&&(M.low.op||M.high.op)
def oC(b c:fb):J:=if(b.inf||c.inf) then(if(b.inf&&c.inf) then 0 else if b.inf then-1 else 1)
 else if fm (b.z-c.z)=0/\b.op≠c.op then(if b.op then 1 else-1) else fm (b.z-c.z)
def l9(b c:fb):J:=if(b.inf||c.inf) then(if(b.inf&&c.inf) then 0 else if b.inf then 1 else-1)
 else if fm (b.z-c.z)=0/\b.op≠c.op then(if b.op then-1 else 1) else fm (b.z-c.z)
def tS(b:fb):fb:=if b.inf then b else⟨ad,ad,if b.op/\nm b.z=b.z then nm b.z+bP else nm b.z⟩
def o7(b:fb):fb:=if b.inf then b else⟨ad,ad,if b.op/\eh b.z=b.z then eh b.z-bP else eh b.z⟩
def nn(M:aV):aV:=⟨tS M.low,o7 M.high,af⟩
def o8(b c:aV):aV:=if(b.dz||c.dz) then nn ⟨if 0<oC c.low b.low then c.low else b.low,if l9 c.high b.high<0 then c.high else b.high,af⟩
 else⟨if 0<oC c.low b.low then c.low else b.low,if l9 c.high b.high<0 then c.high else b.high,ad⟩
def gG(b:J):fb:=⟨ad,ad,b⟩
def De(M:aV)(b:J):Y:=if M.dz/\¬(bP:J) ∣ b then ad else !gE (o8 ⟨M.low,M.high,ad⟩ ⟨gG b,gG b,ad⟩)
def pP(b:X aV)(c:J):Y:=b.any λM=>De M c
instance:Inhabited aV:=⟨⟨⟨ad,ad,0⟩,⟨ad,ad,0⟩,ad⟩⟩
def o6:Z->X aV->X aV|0,b=>b|A+1,b=>if oC (z b (A+1) ai).low (z b A ai).low<0 then o6 A (aK (aK b (A+1)<|z b A ai) A<|z b (A+1) ai) else b
def vI:Z->Z->X aV->X aV|0,_,b=>b|d+1,c,b=>vI d (c+1)<|o6 c b
def kq(b:X aV):X aV:=vI (Q b-1) 1 b
def rp(b c:aV):Y:=if(b.high.inf||c.low.inf) then af else aL (c.low.z<b.high.z)||aL (c.low.z=b.high.z)&&!(b.high.op&&c.low.op)
def ru(b c:aV):Y:=if(b.high.inf||c.low.inf) then af else aL (c.low.z<=b.high.z+bP)
def j3(d:Y):X aV->X aV->X aV
|out,[]=>out|out,b::e=>
 match out.getLast? with
 |ah=>j3 d [b] e|W c=>if(if d then ru c b else rp c b)=af then
   j3 d (if 0<l9 b.high c.high then aK out (Q out-1) ⟨c.low,b.high,c.dz⟩ else out) e
  else j3 d (out++[b]) e
def lb(b:X aV)(c:Y):X aV:=j3 c [] (kq b)
def BU(M:aV):Y:=!M.low.inf&&!M.high.inf&&aL (M.low.z=M.high.z)
def re(b M:aV):X aV:=if gE (o8 M b) then[M] else
 (if b.low.inf then[] else if gE ⟨M.low,gG<|b.low.z-bP,M.dz⟩ then[] else[⟨M.low,gG<|b.low.z-bP,M.dz⟩])++(if b.high.inf then[] else if gE ⟨gG<|b.high.z+bP,M.high,M.dz⟩ then[] else[⟨gG<|b.high.z+bP,M.high,M.dz⟩])
def s0(b:X aV)(c:aV):X aV:=if gE c then b else lv (re c) b
def gH:X aV->X aV|[]=>[]|M::b=>if gE M\/M.dz\/BU M/\(bP:J) ∣ M.low.z then gH b else M::gH b
def gt:X aV->X aV|[]=>[]|M::b=>if gE M then gt b else if M.dz then M::gt b else if BU M/\(bP:J) ∣ M.low.z then nn M::gt b else gt b
def s5(c:X aV)(b:fb):X aV:=if b.inf=ad/\(bP:J) ∣ b.z/\pP c b.z then[⟨gG b.z,gG b.z,ad⟩] else[]
def o9(b:X aV)(M:aV):X aV:=s5 b M.low++s5 b M.high
def ou:X aV->X aV->X aV|b,[]=>b|b,d::c=>ou (s0 b<|nn d) c
def vA(b:X aV):X aV:=let real:=gH b
 let dz:=gt b;let c:=lb (real++lv (o9 dz) real) ad
 kq<|c++ou (lb dz af) c
def AD(A:Z):Z:=10^100+A*10^31
def md(A:Z)(b:J):Prop:=g6 b<=AD A
def fb.md(A:Z)(b:fb):Prop:=ga.md A b.z
def aV.md(A:Z)(M:aV):Prop:=M.low.md A/\M.high.md A
def WZ{b c:Z}(q:b<=c):AD b<=AD c:=PJ (jU _ q) _
def ro{b c:Z}{d:J}(q:b<=c)(A:md b d):md c d:=dK A<|WZ q
def aV.ro{b c:Z}{M:aV}(q:b<=c)(A:M.md b):M.md c:=⟨ga.ro q A.1,ga.ro q A.2⟩
theorem Qa(A:Z):AD (A+1)=AD A+10*bP:=by(simp[AD,bP,iG,vZ];omega)
def Bc(b:J):eh b<=b/\b<eh b+bP:=by
 unfold eh
 (simp[Int.emod_nonneg,bP,ajJ,Pt];omega)
def M8{A:Z}{b:J}(q:md A b):md (A+1) (eh b):=by unfold md at*;rw[Qa];have:=Bc b;omega
def adM{A:Z}{b:J}(q:md A b):md A (-b):=by grind[md,Int.natAbs_neg]
def TL{A:Z}{b:J}(q:md A b):md (A+1) (nm b):=adM<|M8<|adM q
def M7{A:Z}{b:J}(q:md A b):md (A+1) (b+bP):=by grind[md,Qa]
def TM{A:Z}{b:J}(q:md A b):md (A+1) (b-bP):=by grind[md,Qa]
theorem TK:md 0 bP:=by simp[md,AD,bP]
def anS{A:Z}{b:fb}(q:b.md A):(tS b).md (A+2):=by unfold tS;split;exact ro o q;split;exact M7<|TL q;exact ro o<|TL q
def anP{A:Z}{b:fb}(q:b.md A):(o7 b).md (A+2):=by unfold o7;split;exact ro o q;split;exact TM<|M8 q;exact ro o<|M8 q
theorem EI{A:Z}{M:aV}(q:M.md A):(nn M).md (A+2):=⟨anS q.1,anP q.2⟩
def YS{A:Z}{y R:aV}(q:y.md A)(b:R.md A):(o8 y R).md (A+2):=by
 let key:∀c,aV.md A ⟨if 0<oC R.low y.low then R.low else y.low,if l9 R.high y.high<0 then R.high else y.high,c⟩:=λc=>by refine⟨?_,?_⟩;split;exact b.1;exact q.1;show fb.md A (if _ then _ else _);split;exact b.2;exact q.2
 unfold o8;split;grind[EI];exact aV.ro o<|key _
theorem Hh:∀(A:Z)(b:X aV),Q (o6 A b)=Q b|0,_=>p|A+1,b=>by rw[o6];split;(rw[Hh A];simp);rfl
def ahW:∀(c d:Z)(b:X aV),Q (vI c d b)=Q b|0,_,_=>p|c+1,d,b=>by rw[vI,ahW c,Hh]
theorem Jw(b:X aV):Q (kq b)=Q b:=ahW _ _ _
def Sk{L:X aV}{E:Z}(q:E<Q L):z L E ai∈L:=by simp_all
def Yb:∀(A:Z)(b:X aV),A<Q b->∀c,c∈o6 A b->c∈b|0,_,_,_,q=>q|A+1,b,d,c,q=>by rw[o6] at q;split at q;let q:=Yb A _ aY c q;grind;omega
def ahX:∀(e d:Z)(b:X aV),d+e<=Q b->∀c,c∈vI e d b->c∈b|0,_,_,_,_,q=>q|e+1,d,b,f,c,q=>Yb d b o c<|ahX e _ _ (by grind[Hh]) c q
def Vu{b:X aV}{c:aV}(q:c∈kq b):c∈b:=by cases b with|nil=>trivial|cons d b=>exact ahX _ 1 _ aY c q
def nu{A:Z}{b:J}(q:md A b)(c:A<=1000):sn b:=by refine atN<|Ko q<|Ko (WZ c) ?_;decide+kernel
def EV(b:fb):V:=bH [a6 b.inf,a6 b.op,a6 b.B.neg,gW<|bD b.B.num,gW<|bD b.B.dx]
def dk(M:aV):V:=bH [a6 M.low.inf,a6 M.low.op,a6 M.low.B.neg,gW<|bD M.low.B.num,gW<|bD M.low.B.dx,a6 M.high.inf,a6 M.high.op,a6 M.high.B.neg,gW<|bD M.high.B.num,gW<|bD M.high.B.dx,a6 M.dz]
structure lY where
 has:Y
 op:Y
 n:bT
structure gb where
 low:lY
 high:lY
 dz:Y
def EU(b:lY):V:=bH [a6 b.has,a6 b.op,a6 b.n.neg,bV b.n.bM,an aj b.n.exp]
def s2(M:gb):V:=bH [a6 M.low.has,a6 M.low.op,a6 M.low.n.neg,bV M.low.n.bM,an aj M.low.n.exp,a6 M.high.has,a6 M.high.op,a6 M.high.n.neg,bV M.high.n.bM,an aj M.high.n.exp,a6 M.dz]
def zS{d e:qe}{b c:J}(f:d=cw b)(g:e=cw c)(i:sn b)(j:sn c):bb 164 [jL d,jL e] (an aj (fm (b-c))):=by subst f g;exact avb b c i j
theorem Jr{b:J}:0<fm b↔0<b:=by unfold fm;split;omega;split<;>omega
theorem ahH{b:J}:fm b<0↔b<0:=by unfold fm;split;omega;split<;>omega
theorem z7{b:J}:fm b=0↔b=0:=by unfold fm;split;omega;split<;>omega
def SM(b:J):bb 116 [jL (cw b)] (a6 (aL ((bP:J) ∣ b))):=by refine bx func116 [] λm d=>?_;let e:=dK (vf<|ZI b)<|ov (A:=8) aR;let c:Q (bD 1)<=1:=ov aR;refine eg ?_;refine cf ?_ (f:=tg 1 o);refine cf ?_ (f:=Lr (cw b).dx 1 o o);exact aA (q:=by let bA:=xV b;let j:=arA b;rw[cU];congr 1;rw[qW,<-j];split;omega;split<;>omega)
def Zv(am:J)(i:sn am):bb 174 [jL (cw am)] (jL (cw (eh am))):=by
 refine bx func174 [] λm l=>?_;let⟨ch,j⟩:=HG (am:=am) (A:=200) i o;let bA:=xV am;let g:=dK (vf<|PO (cw am).num (cw am).dx) ch;let k:Q (bD 1)<=1:=ov aR;let n:=Rx (A:=200) g (R:=1) o;let he:=ao1 am;refine aS ?_ (f:=LH (cw am).num (cw am).dx bA o o);refine fk ?_;apply e<;>intro d
 focus let b:(cw am).neg/\(cw am).num%(cw am).dx≠0:=⟨d.1,λq=>by have:=d.2;rw[q,qn] at this;simp at this⟩;rw[LJ,ae b] at he;let c:=zK (cw am).neg ((cw am).num/(cw am).dx+1) 1 o o o;rw[he] at c;refine aS ?_ (f:=tg 1 o);refine aS ?_ (f:=Xs ((cw am).num/(cw am).dx) 1 o o)
 rotate_left
 focus let b:¬((cw am).neg=af/\(cw am).num%(cw am).dx≠0):=λq=>d ⟨q.1,by have:Q (bD ((cw am).num%(cw am).dx))≠0:=λb=>q.2<|CP.1<|m_ b;omega⟩;rw[LJ,ab b] at he;let c:=zK (cw am).neg ((cw am).num/(cw am).dx) 1 o o o;rw[he] at c
 all_goals refine eS ?_;refine br (λ_=>cf p (f:=tg 1 o)) ?_;refine br (λ_=>cf p (f:=c)) ?_;refine fx ?_;refine fZ ?_;exact dB bq
def aAD(b:J)(d:sn b):bb 171 [jL (cw b)] (jL (cw (nm b))):=by refine bx func171 [] λm c=>?_;refine aS ?_ (f:=by have:=TT<|cw b;rw[TS] at this;exact this);refine aS ?_ (f:=Zv (-b) (by unfold sn at*;rwa [Int.natAbs_neg]));refine aS ?_ (f:=by have:=TT<|cw<|eh<|-b;rw[TS] at this;exact this);exact dB bq
def aAC{c:qe}{b:J}(d:c=cw b)(e:sn b):bb 171 [jL c] (jL (cw (nm b))):=by subst d;exact aAD b e
def Zu{c:qe}{b:J}(d:c=cw b)(e:sn b):bb 174 [jL c] (jL (cw (eh b))):=by subst d;exact Zv b e
def YG{b:J}:(fm (nm b-b)=0)=(nm b=b):=by rw[z7];exact propext ⟨λq=>o,λq=>o⟩
def Ln{b:J}:(fm (eh b-b)=0)=(eh b=b):=by rw[z7];exact propext ⟨λq=>o,λq=>o⟩
def Lo(M:aV)(A:Z)(D:A<=900)(l:M.md A):bb 114 [dk M] (dk (nn M)):=by
 refine bx func114 [] λm B=>?_;let w:=nu l.1 o;let n:=nu l.2 o;let x:=nu (TL l.1) o;let r:=nu (M8 l.2) o;let t:=nu TK o;apply e<;>intro u
 .let j:M.low.inf=ad:=by simpa using u
  let v:=fb.nY j;refine aS ?_ (f:=aAC v w);apply c9;intro C;refine cf ?_ (f:=zS p v x w);exact p;apply e<;>intro s
  focus
   let g:tS M.low=⟨ad,ad,nm M.low.z+bP⟩:=by rw[tS,ab (by simp[j]),ae ⟨s.1,by have:=s.2;rwa [YG] at this⟩]
   refine eS ?_;refine br (λ_=>cf p (f:=GA)) ?_;refine br (λ_=>cf p (f:=UL _ _ x t)) ?_;refine fx ?_;refine fZ ?_
  rotate_left
  focus let g:tS M.low=⟨ad,ad,nm M.low.z⟩:=by rw[tS,ab (by simp[j]),ab λq=>s ⟨q.1,by rw[YG];exact q.2⟩]
  all_goals
   apply e<;>intro i
   .let b:M.high.inf=ad:=by simpa using i
    let k:=fb.nY b;refine aS ?_ (f:=Zu k n);apply c9;intro y;refine cf ?_ (f:=zS p k r n);exact p;apply e<;>intro d
    focus
     let c:o7 M.high=⟨ad,ad,eh M.high.z-bP⟩:=by rw[o7,ab (by simp[b]),ae ⟨d.1,by have:=d.2;rwa [Ln] at this⟩]
     refine eS ?_;refine br (λ_=>cf p (f:=GA)) ?_;refine br (λ_=>cf p (f:=MY _ _ r t)) ?_;refine fx ?_;refine fZ ?_
    rotate_left
    focus let c:o7 M.high=⟨ad,ad,eh M.high.z⟩:=by rw[o7,ab (by simp[b]),ab λq=>d ⟨q.1,by rw[Ln];exact q.2⟩]
    all_goals exact dB bq (q:=by rw[cU];unfold nn;rw[g,c];rfl)
   let b:M.high.inf:=by simpa using i
   let c:o7 M.high=M.high:=by rw[o7,ae b]
   exact dB bq (q:=by rw[cU];unfold nn;rw[g,c];rfl)
 let j:M.low.inf:=by simpa using u
 let g:tS M.low=M.low:=by rw[tS,ae j]
 apply e<;>intro i
 .let b:M.high.inf=ad:=by simpa using i
  let k:=fb.nY b;refine aS ?_ (f:=Zu k n);apply c9;intro y;refine cf ?_ (f:=zS p k r n);exact p;apply e<;>intro d
  focus
   let c:o7 M.high=⟨ad,ad,eh M.high.z-bP⟩:=by rw[o7,ab (by simp[b]),ae ⟨d.1,by have:=d.2;rwa [Ln] at this⟩]
   refine eS ?_;refine br (λ_=>cf p (f:=GA)) ?_;refine br (λ_=>cf p (f:=MY _ _ r t)) ?_;refine fx ?_;refine fZ ?_
  rotate_left
  focus let c:o7 M.high=⟨ad,ad,eh M.high.z⟩:=by rw[o7,ab (by simp[b]),ab λq=>d ⟨q.1,by rw[Ln];exact q.2⟩]
  all_goals exact dB bq (q:=by rw[cU];unfold nn;rw[g,c];rfl)
 let b:M.high.inf:=by simpa using i
 let c:o7 M.high=M.high:=by rw[o7,ae b]
 exact dB bq (q:=by rw[cU];unfold nn;rw[g,c];rfl)
def vh(b:X aV):V:=.a 11<|aa dk b
def anU{M:aV}{A:Z}(b:A<=900)(c:M.md A):bb 114 [dk M] (dk (nn M)):=Lo M A b c
def Dy(M:aV)(A:Z)(k:A<=900)(b:M.md A):bb 108 [dk M] (a6 (gE M)):=by
 refine bx func108 [] λm d=>?_;refine eA ?_;apply e<;>intro c
 .exact aA (q:=by rw[cU,gE,ae a2];rfl)
 let j:=by simpa using c
 refine aS ?_ (f:=zS (fb.nY j.1) (fb.nY j.2) (nu b.1 o)<|nu b.2 o);apply ev;intro g;apply c9;refineλi=>ev (λ_=>p)<|p;exact p;exact aA (q:=by rw[cU,gE,ab aY];show V.bool _=_;congr 1;grind[Jr,z7])
def adq(b c:fb)(A:Z)(v:A<=900)(n:b.md A)(r:c.md A):bb 179 [EV b,EV c] (an aj (oC b c)):=by
 refine bx func179 [] λm s=>?_;refine eA ?_;apply e<;>intro d
 .let j:(b.inf||c.inf):=by simpa using d
  refine fk ?_;apply e<;>intro t
  .exact aA (q:=by rw[cU,oC,ae j,ae a2];rfl)
  apply e<;>intro g
  .exact aA (q:=by rw[cU,oC,ae j,ab ap,ae g];rfl)
  exact aA (q:=by rw[cU,oC,ae j,ab ap,ab g];rfl)
 let j:¬(b.inf||c.inf):=by simpa using d
 let l:b.inf=ad/\c.inf=ad:=by simpa using j
 refine aS ?_ (f:=zS (fb.nY l.1) (fb.nY l.2) (nu n o)<|nu r o);apply c9;refineλu=>T2<|p;apply e<;>intro i
 .apply e<;>intro k
  .exact aA (q:=by rw[cU,oC,ab j,ae i,ae k];rfl)
  exact aA (q:=by rw[cU,oC,ab j,ae i,ab k];rfl)
 exact aA (q:=by simp_all[cU,oC,ab])
def abz(b c:fb)(A:Z)(v:A<=900)(n:b.md A)(r:c.md A):bb 178 [EV b,EV c] (an aj (l9 b c)):=by
 refine bx func178 [] λm s=>?_;refine eA ?_;apply e<;>intro d
 .let j:(b.inf||c.inf):=by simpa using d
  refine fk ?_;apply e<;>intro t
  .exact aA (q:=by rw[cU,l9,ae j,ae a2];rfl)
  apply e<;>intro g
  .exact aA (q:=by rw[cU,l9,ae j,ab ap,ae g];rfl)
  exact aA (q:=by rw[cU,l9,ae j,ab ap,ab g];rfl)
 let j:¬(b.inf||c.inf):=by simpa using d
 let l:b.inf=ad/\c.inf=ad:=by simpa using j
 refine aS ?_ (f:=zS (fb.nY l.1) (fb.nY l.2) (nu n o)<|nu r o);apply c9;refineλu=>T2<|p;apply e<;>intro i
 .apply e<;>intro k
  .exact aA (q:=by rw[cU,l9,ab j,ae i,ae k];rfl)
  exact aA (q:=by rw[cU,l9,ab j,ae i,ab k];rfl)
 exact aA (q:=by simp_all[cU,l9,ab])
def YU(b d:aV)(A:Z)(n:A<=900)(j:b.md A)(k:d.md A):bb 122 [dk b,dk d] (dk (o8 b d)):=by
 refine bx func122 [22,31] λm x=>?_;refine eA ?_;refine gf fb (λg=>⟨[(3,c 3),(4,c 4),(5,c 5)],[(3,ag 133<|dk d),(4,ag 133<|V.zero Mu.z),(5,ag 133<|dk ⟨g,b.high,o3 ad b.dz d.dz⟩)],[]⟩) (λg=>g=if 0<oC d.low b.low then d.low else b.low) ?_ λg he=>?_
 .refine aS ?_ (f:=adq d.low b.low A n k.1 j.1);apply e<;>intro s
  .exact cA d.low<|bG<|ae s
  exact cA b.low<|bG<|ab s
 refine gf fb (λi=>⟨[(4,c 4),(5,c 5)],[(4,ag 133<|V.zero Mu.z),(5,ag 133<|dk ⟨g,i,o3 ad b.dz d.dz⟩)],[]⟩) (λi=>i=if l9 d.high b.high<0 then d.high else b.high) ?_ λi l=>?_
 .refine aS ?_ (f:=abz d.high b.high A n k.2 j.2);apply e<;>intro t
  .exact cA d.high<|bG<|ae t
  exact cA b.high<|bG<|ab t
 have v:g.md A:=by rw[he];split;exact k.1;exact j.1
 have w:i.md A:=by rw[l];split;exact k.2;exact j.2
 apply e<;>intro u
 .have r:(b.dz||d.dz):=by simpa[o3] using u
  refine aS ?_ (f:=anU (M:=⟨g,i,o3 ad b.dz d.dz⟩) n ⟨v,w⟩);exact dB bq (q:=by rw[cU,o8,ae r,<-he,<-l];rfl)
 have r:¬(b.dz||d.dz):=by simpa[o3] using u
 exact dB bq (q:=by rw[cU,o8,ab r,<-he,<-l,show o3 ad b.dz d.dz=ad by simp_all];rfl)
def ah4(b:X aV):∀I∈aa dk b,Q (kb I)=11:=λI bA=>by obtain⟨c,_,rfl⟩:=cV.1 bA;rfl
def tX(b:X aV):Q (aa dk b)=Q b:=bg _
def gZ(A:Z)(b:X aV):Prop:=∀M∈b,M.md A
def Bw{A:Z}{b:X aV}(q:gZ A b){E:Z}(c:E<Q b):(z b E ai).md A:=q _ ap
def Iw{b c:Z}{d:X aV}(e:b<=c)(q:gZ b d):gZ c d:=λM f=>aV.ro e<|q M f
def aqW(M:aV)(b:J)(A:Z)(k:A<=800)(g:M.md A)(c:md A b):bb 68 [dk M,jL (cw b)] (a6 (De M b)):=by
 refine bx func68 [] λm i=>?_;apply c9;refineλj=>cf ?_ (f:=SM b);exact p;apply e<;>intro d
 .exact aA (q:=by rw[cU,De,ae d];rfl)
 refine aS (f:=YU ⟨M.low,M.high,ad⟩ ⟨gG b,gG b,ad⟩ A o g ⟨c,c⟩)<|aS ?_ (f:=Dy (o8 ⟨M.low,M.high,ad⟩ ⟨gG b,gG b,ad⟩) (A+2) o<|YS (y:=⟨M.low,M.high,ad⟩) (R:=⟨gG b,gG b,ad⟩) g ⟨c,c⟩);exact aA (q:=by rw[cU,De,ab d])
def Ss(b:X aV)(g:J)(A:Z)(s:A<=800)(t:gZ A b)(u:md A g)(x:Q b<=100000):bb 31 [vh b,jL (cw g)] (a6 (pP b g)):=by
 refine bx func31 [] λm v=>?_;refine i0 (Q b) (λd=>pP b g=pP (aU d b) g) (λd=>⟨[(0,_),(3,c 3),(5,k d)],[(3,_)],[]⟩) (λd j=>?_) (cq:=.r);apply e<;>intro w
 .let n:d<Q b:=o;let l:=pK n;refine eg<|bi d _ ?_ (j:=hR o);refine cf ?_ (f:=aqW b[d] g A s (t _ aY) u);apply e<;>intro i
  .exact aA (q:=by rw[cU,j.2,pP,l,B7,i];rfl)
  refine bc ?_;exact a0 (d+1) ⟨o,by grind[pP,De]⟩ (cq:=.r)
 exact aA (q:=by rw[cU,j.2,kM o];rfl)
def atC(b c:aV)(A:Z)(r:A<=800)(d:b.md A)(g:c.md A):bb 177 [dk b,dk c] (a6 (rp b c)):=by
 refine bx func177 [] λm k=>?_;refine eA ?_;apply e<;>intro i
 .exact aA (q:=by rw[cU,rp,ae a2];rfl)
 let j:=by simpa using i
 refine aS ?_ (f:=zS (fb.nY j.2) (fb.nY j.1) (nu g.1 o)<|nu d.2 o);apply ev;intro l;apply c9;refineλn=>c9 (λ_=>p)<|p;exact p;exact aA (q:=by rw[cU,rp,ab aY];show V.bool _=_;congr 1;grind[ahH,z7])
def aur(b c:aV)(A:Z)(r:A<=800)(d:b.md A)(g:c.md A):bb 176 [dk b,dk c] (a6 (ru b c)):=by
 refine bx func176 [] λm n=>?_;let k:=nu (M7 d.2) o;let l:=nu TK o;refine eA ?_;apply e<;>intro i
 .exact aA (q:=by rw[cU,ru,ae a2];rfl)
 let j:b.high.inf=ad/\c.low.inf=ad:=by simpa using i
 refine eg<|cf (f:=GA)<|cf (f:=by have:=UL b.high.z bP (nu d.2 o) l;rw[<-fb.nY j.1] at this;exact this)<|cf ?_ (f:=zS (fb.nY j.2) p (nu g.1 o) k);exact aA (q:=by rw[cU,ru,ab aY];congr 1;rw[qW];have:=@Jr<|c.low.z-(b.high.z+bP);omega)
def ayW(M:aV)(A:Z)(e:A<=800)(b:M.md A):bb 115 [dk M] (a6 (BU M)):=by
 refine bx func115 [] λm c=>?_;refine fk ?_;apply c9;refineλd=>cf ?_ (f:=zS (fb.nY ap) (fb.nY ap) (nu b.1 o)<|nu b.2 o);exact p;exact aA (q:=by
  show V.bool _=_;unfold BU;congr 1;rw[lT]
  (simp[z7];omega))
theorem M6{A f:Z}{b:X aV}{c:aV}(q:gZ A b)(g:c.md A):gZ A (aK b f c):=λM e=>by rcases ajW e with d|rfl;exact q M d;omega
def Vv{A:Z}{b:X aV}(q:gZ A b):gZ A (kq b):=λM c=>q M<|Vu c
def xW{c:X aV}{b:Z}(q:b<Q c):(aa dk c)[b]?=W (dk (z c b ai)):=gD q
def RU{c:X aV}{b:Z}{d:aV}:aK (aa dk c) b (dk d)=aa dk (aK c b d):=av
def ah1(d:X aV)(A:Z)(G:A<=800)(bQ:gZ A d)(H:Q d<=100000):bb 119 [vh d] (vh (kq d)):=by
 refine bx func119 [] λm y=>?_;let I:=tX d;refine aeh (aa dk d) ?_ (hl:=.a p p p p<|ah4 d) (bQ:=o);refine dv (Z×X aV) (λg=>⟨[(4,k g.1),(3,.aq 7 0<|Q<|aa dk d)],[(7,.h 11 133<|aa dk g.2)],[]⟩) (λg=>Q g.2=Q d/\gZ A g.2/\1<=g.1/\vI (Q d-g.1) g.1 g.2=kq d) (λg=>Q d-g.1) (1,d) (λ⟨l,K⟩ aH=>?_) ⟨p,bQ,bz _,p⟩;dsimp only at aH⊢;let⟨w,x,E,aH⟩:=aH;apply e<;>intro B
 .refine dv (Z×X aV) (λi=>⟨[(4,_),(5,k i.1),(3,.aq 7 0<|Q<|aa dk d)],[(7,.h 11 133<|aa dk i.2)],[]⟩) (λi=>Q i.2=Q d/\gZ A i.2/\i.1<=l/\o6 i.1 i.2=o6 l K) (λi=>i.1) (l,K) (λ⟨b,c⟩ aW=>?_) ⟨w,x,bz _,p⟩ .r;dsimp only at aW⊢;let⟨v,n,F,t⟩:=aW;refine eg ?_;apply c9;intro D;refine cC b ?_;refine e9 (dk<|z c b ai) ?_ (j:=xW o);refine jg ((b-1:Z):J) ?_;refine cC (b-1) ?_;refine e9 (dk<|z c (b-1) ai) ?_ (j:=xW o);refine cf ?_ (f:=adq (z c b ai).low (z c (b-1) ai).low A o (Bw n o).1 (Bw n o).1);exact p;apply e<;>intro C
  .refine eS ?_;refine br (λ_=>jg ((b-1:Z):J) p) ?_;refine br (λ_=>jg ((b-1:Z):J) p) ?_;refine br (λ_=>cC (b-1) p) ?_;refine br (λ_=>e9 (dk<|z c (b-1) ai) p (j:=xW o)) ?_;refine br (λ_=>cC b p) ?_;refine br (λ_=>e9 (dk<|z c b ai) p (j:=xW o)) ?_;refine br (λ_=>cC b p) ?_;refine uJ (aa dk<|aK c b<|z c (b-1) ai) (dk<|z c b ai) (dk<|z c (b-1) ai) ?_ (j:=xW o) (aW:=RU);refine br (λ_=>cC (b-1) p) ?_;refine uJ (aa dk<|aK (aK c b<|z c (b-1) ai) (b-1)<|z c b ai) (dk<|z (aK c b<|z c (b-1) ai) (b-1) ai) (dk<|z c b ai) ?_ (j:=xW aY) (aW:=RU);refine fZ ?_;refine jg ((b-1:Z):J) ?_;exact a0 (b-1,aK (aK c b<|z c (b-1) ai) (b-1)<|z c b ai) ⟨aY,M6 (M6 n<|Bw n o)<|Bw n o,o,by obtain⟨s,rfl⟩:∃s,b=s+1:=⟨b-1,o⟩;simp_all[o6,ae]⟩ o .r
  let u:o6 b c=c:=by cases b with|zero=>rfl|succ s=>simp_all[o6,ab]
  refine bc ?_;exact a0 (l+1,c) ⟨v,n,o,by rw[<-aH,show Q d-l=Q d-(l+1)+1 by omega,vI,<-t,u]⟩ o
 refine zp 7 (Q<|aa dk d) (show Q (aa dk K)=Q (aa dk d) by simp_all) ?_;exact aA (q:=by rw[show Q d-l=0 by omega,vI] at aH;rw[cU,aH];rfl)
def arW{c:Y}{d:aV}{b:X aV}:j3 c [] (d::b)=j3 c [d] b:=p
def abc{K:X aV}(q:Q K≠0):K.getLast?=W (z K (Q K-1) ai):=by grind
def MJ{c:Y}{b:aV}{K d:X aV}(q:Q K≠0)(e:c/\ru (z K (Q K-1) ai) b\/¬c/\rp (z K (Q K-1) ai) b):j3 c K (b::d)=j3 c (if 0<l9 b.high (z K (Q K-1) ai).high then aK K (Q K-1) ⟨(z K (Q K-1) ai).low,b.high,(z K (Q K-1) ai).dz⟩ else K) d:=by rw[j3,abc q]<;>grind
theorem S2{b:Y}{c:aV}{K d:X aV}(e:¬(Q K≠0/\(b=af/\ru (z K (Q K-1) ai) c\/¬b/\rp (z K (Q K-1) ai) c))):j3 b K (c::d)=j3 b (K++[c]) d:=by by_cases q:Q K=0;obtain rfl:=m_ q;rfl;simp_all[j3,abc,ab,ae]
def Bv{A:Z}{b c:X aV}(d:gZ A b)(e:gZ A c):gZ A (b++c):=λM f=>by rcases eX.1 f with q|q;exact d M q;exact e M q
def Dn{A:Z}{b:aV}(c:b.md A):gZ A [b]:=λM d=>by simp_all
def ab7(b:X aV)(g:Y)(A:Z)(l:A<=800)(bQ:gZ A b)(x:Q b<=100000):dF 117 [vh b,a6 g] [] (.aq 5 0 (Q (aa dk (lb b g)))) [(5,.h 11 133 (aa dk (lb b g)))]:=by
 refine dN func117 [] λR m D=>?_;have w:=Vv bQ;have B:=Jw b;refine aS ?_ (f:=ah1 b A l bQ x);refine aZ.eQ 5 11 133 [5] ah ?_;refine dv (Z×X aV) (λc=>⟨[(0,vh<|kq b),(1,_),(6,k c.1),(5,.aq 5 0<|Q<|aa dk c.2)],[(5,.h 11 133<|aa dk c.2)],[]⟩) (λc=>c.1<=Q b/\Q c.2<=c.1/\gZ A c.2/\j3 g c.2 (aU c.1<|kq b)=lb b g) (λc=>Q b-c.1) (0,[]) (λ⟨E,K⟩ aH=>?_) ⟨dO _,bz _,λM P=>cc,p⟩ .r;dsimp only at aH⊢;let⟨L,O,d,aH⟩:=aH;have C:=tX<|kq b;have N:=tX K;apply e<;>intro F
 .have u:E<Q (kq b):=o;have t:=pK u;have i:=w _<|fK u;refine jf ?_;refine eg ?_;apply c9;intro G;apply c9;intro H;refine cC (Q K-1) ?_;refine e9 (dk<|z K (Q K-1) ai) ?_ (j:=xW o);refine bi E _ ?_ (j:=hR o);refine cf ?_ (f:=aur (z K (Q K-1) ai) (kq b)[E] A l (Bw d o) i);exact p;apply ev;intro I;apply c9;intro J;refine cC (Q K-1) ?_;refine e9 (dk<|z K (Q K-1) ai) ?_ (j:=xW o);refine bi E _ ?_ (j:=hR o);refine cf ?_ (f:=atC (z K (Q K-1) ai) (kq b)[E] A l (Bw d o) i);exact p;exact p;exact p;apply e<;>intro q
  .have n:Q K≠0:=o;have v:=Bw d (E:=Q K-1) o;refine eg ?_;refine bi E _ ?_ (j:=hR o);refine cC (Q K-1) ?_;refine e9 (dk<|z K (Q K-1) ai) ?_ (j:=xW o);refine cf ?_ (f:=abz (kq b)[E].high (z K (Q K-1) ai).high A o i.2 v.2);apply e<;>intro s
   .refine bi E _ ?_ (j:=hR o);refine cC (Q K-1) ?_;refine gN (aa dk<|aK K (Q K-1) ⟨(z K (Q K-1) ai).low,(kq b)[E].high,(z K (Q K-1) ai).dz⟩) (dk<|z K (Q K-1) ai) (dk ⟨(z K (Q K-1) ai).low,(kq b)[E].high,(z K (Q K-1) ai).dz⟩) ?_ (j:=xW o) (aW:=RU);refine bc ?_;exact a0 (E+1,aK K (Q K-1) ⟨(z K (Q K-1) ai).low,(kq b)[E].high,(z K (Q K-1) ai).dz⟩) ⟨o,aY,M6 d ⟨v.1,i.2⟩,by dsimp only;rw[<-aH,t,MJ n q.2,ae s]⟩ o ⟨⟨p,p,p,(by show W (V.aq 5 0 (Q (aa dk K)))=W (V.aq 5 0 (Q (aa dk (aK K _ _))));simp),c1⟩,⟨p,c1⟩,p,p⟩
   refine bc ?_;exact a0 (E+1,K) ⟨o,a2,d,by dsimp only;rw[<-aH,t,MJ n q.2,ab s]⟩ o .r
  refine bi E _ ?_ (j:=hR o);refine er ?_;refine e7 (aa dk<|K++[(kq b)[E]]) ?_ (aW:=tw) (bQ:=a2);refine bc ?_;exact a0 (E+1,K++[(kq b)[E]]) ⟨o,aY,Bv d<|Dn i,by grind[S2]⟩ o .r
 have y:K=lb b g:=by rw[kM o,j3] at aH;exact aH
 subst y;exact cE
def xP(b M:aV):X aV:=if b.low.inf then[] else if gE ⟨M.low,gG<|b.low.z-bP,M.dz⟩ then[] else[⟨M.low,gG<|b.low.z-bP,M.dz⟩]
def EM(b M:aV):X aV:=if b.high.inf then[] else if gE ⟨gG<|b.high.z+bP,M.high,M.dz⟩ then[] else[⟨gG<|b.high.z+bP,M.high,M.dz⟩]
theorem EL(b M:aV):re b M=if gE (o8 M b) then[M] else xP b M++EM b M:=p
def aBw(b M:aV):Q (re b M)<=2:=by grind[EL,xP,EM]
def aow{b M:aV}:Q (xP b M)<=1:=by grind[xP]
def AP{K b:X aV}:aa dk (K++b)=aa dk K++aa dk b:=dn
def aoA(d:X aV)(g:aV)(A:Z)(R:A<=700)(bQ:gZ A d)(n:g.md A)(T:Q d<=100000):bb 118 [vh d,dk g] (vh (s0 d g)):=by
 refine bx func118 [35] λm M=>?_;let S:=tX d;let H:=nu TK o;refine aS ?_ (f:=Dy g A o n);apply e<;>intro C
 .exact aA (q:=by rw[cU,s0,ae C];rfl)
 refine aZ.eQ 5 11 133 [5] ah ?_;refine dv (Z×X aV) (λl=>⟨[(0,_),(3,c 3),(6,k l.1),(5,.aq 5 0<|Q<|aa dk l.2)],[(3,_),(5,.h 11 133<|aa dk l.2)],[]⟩) (λl=>l.1<=Q d/\Q l.2<=2*l.1/\l.2++lv (re g) (aU l.1 d)=lv (re g) d) (λl=>Q d-l.1) (0,[]) (λ⟨b,K⟩ aH=>?_) ⟨dO _,bz _,av⟩ .r;dsimp only at aH⊢;let⟨P,al,aH⟩:=aH;let Y:=tX K;apply e<;>intro N
 .let G:b<Q d:=o;let t:=pK G;let v:=bQ _<|fK G;refine eg ?_;refine bi b _ ?_ (j:=hR o);refine cf ?_ (f:=YU d[b] g A o v n);refine cf ?_ (f:=Dy (o8 d[b] g) (A+2) o<|YS v n);apply e<;>intro s
  .refine bi b _ ?_ (j:=hR o);refine er ?_;refine e7 (aa dk<|K++[d[b]]) ?_ (aW:=bG AP) (bQ:=a2);refine bc ?_;exact a0 (b+1,K++[d[b]]) ⟨o,aY,by dsimp only;rw[<-aH,t,ts,EL,ae s,fJ]⟩ o .r
  refine gf (X aV) (λi=>⟨[(0,vh d),(3,c 3),(6,k b),(5,.aq 5 0<|Q<|aa dk i)],[(3,ag 133<|dk g),(5,.h 11 133<|aa dk i)],[]⟩) (λi=>i=K++xP g d[b]) ?_ λi u=>?_
  .apply e<;>intro D
   .let x:¬g.low.inf:=D;let L:=fb.nY (F:=g.low) aY;let y:=nu n.1 o;let B:aV.md (A+1) ⟨d[b].low,gG<|g.low.z-bP,d[b].dz⟩:=⟨ro o v.1,TM n.1⟩;refine bi b _ ?_ (j:=hR o);refine eS ?_;refine br (λ_=>cf p (f:=GA)) ?_;refine br (λ_=>cf p (f:=by have:=MY g.low.z bP y H;rw[<-L] at this;exact this)) ?_;refine fx ?_;refine fZ ?_;refine aS ?_ (f:=Dy ⟨d[b].low,gG<|g.low.z-bP,d[b].dz⟩ (A+1) o B);apply e<;>intro O
    .refine er ?_;refine e7 (aa dk<|K++[aV.mk d[b].low (gG<|g.low.z-bP) d[b].dz]) ?_ (aW:=bG AP) (bQ:=a2);exact cA (K++[aV.mk d[b].low (gG<|g.low.z-bP) d[b].dz]) (by rw[xP,ab x,ab o])
    exact cA K (by rw[xP,ab x,ae aY,ff])
   let x:g.low.inf:=by simpa using D
   exact cA K (by rw[xP,ae x,ff])
  let U:Q i<=2*b+1:=by rw[u,cX];have:Q (xP g d[b])<=1:=aow;omega
  let ak:=tX i;apply e<;>intro E
  .let w:¬g.high.inf:=E;let J:=fb.nY (F:=g.high) aY;let y:=nu n.2 o;let B:aV.md (A+1) ⟨gG<|g.high.z+bP,d[b].high,d[b].dz⟩:=⟨M7 n.2,ro o v.2⟩;refine bi b _ ?_ (j:=hR o);refine eS ?_;refine br (λ_=>cf p (f:=GA)) ?_;refine br (λ_=>cf p (f:=by have:=UL g.high.z bP y H;rw[<-J] at this;exact this)) ?_;refine fx ?_;refine fZ ?_;refine aS ?_ (f:=Dy ⟨gG<|g.high.z+bP,d[b].high,d[b].dz⟩ (A+1) o B);apply e<;>intro I
   .refine er ?_;refine e7 (aa dk<|i++[aV.mk (gG<|g.high.z+bP) d[b].high d[b].dz]) ?_ (aW:=bG AP) (bQ:=a2);refine bc ?_;exact a0 (b+1,i++[aV.mk (gG<|g.high.z+bP) d[b].high d[b].dz]) ⟨o,aY,by rw[<-aH,t,ts,EL,ab s,u,EM,ab w,ab (by simpa using I)]<;>grind⟩ o .r
   refine bc ?_;exact a0 (b+1,i) ⟨o,a2,by dsimp only;rw[<-aH,t,ts,EL,ab s,u,EM,ab w,ae aY,ff,fJ]⟩ o .r
  let w:g.high.inf:=by simpa using E
  refine bc ?_;exact a0 (b+1,i) ⟨o,a2,by dsimp only;rw[<-aH,t,ts,EL,ab s,u,EM,ae w,ff,fJ]⟩ o .r
 refine ib 5 ?_;exact aA (q:=by rw[kM o,Wo,ff] at aH;rw[cU,s0,ab C,<-aH];rfl)
def Oq{A:Z}:∀{L:X aV},gZ A L->gZ A (gH L)|[],_=>λM b=>cc|d::L,q=>by let c:=Oq (L:=L) λM b=>q M aY;rw[gH];split;exact c;intro M b;rcases fR.1 b with rfl|b;exact q M av;exact c M b
def V7{A:Z}:∀{L:X aV},gZ A L->gZ (A+2) (gt L)|[],_=>λM b=>cc|e::L,q=>by let c:=V7 (L:=L) λM b=>q M aY;let d:=q e av;rw[gt];split;exact c;split;intro M b;rcases fR.1 b with rfl|b;exact aV.ro o d;exact c M b;split;intro M b;rcases fR.1 b with rfl|b;exact EI d;exact c M b;omega
def agH:∀b:X aV,Q (gH b)<=Q b|[]=>cc|c::b=>by have:=agH b;grind[gH]
def ajh:∀b:X aV,Q (gt b)<=Q b|[]=>cc|c::b=>by have:=ajh b;grind[gt]
def Z8{A:Z}{c:X aV}{b:fb}(q:b.md A):gZ A (s5 c b):=by rw[s5];split;exact Dn ⟨q,q⟩;intro M d;trivial
def Z_{A:Z}{b:X aV}{M:aV}(q:M.md A):gZ A (o9 b M):=Bv (Z8 q.1)<|Z8 q.2
theorem Z7(b:X aV)(c:fb):Q (s5 b c)<=1:=by grind[s5]
def Z9{l0:X aV}(M:aV):Q (o9 l0 M)<=2:=by grind[o9,List.length_append,Z7]
def aaF{ao:aV->X aV}{T:Z}(q:∀M,Q (ao M)<=T):∀b:X aV,Q (lv ao b)<=T*Q b|[]=>av|c::b=>by rw[ts,cX,kN,Ap];have:=aaF q b;grind
theorem R6{A:Z}{d:aV->X aV}(q:∀M,M.md A->gZ A (d M)){e:X aV}(g:gZ A e):gZ A (lv d e):=λM b=>by let⟨c,f,b⟩:=Cb.1 b;exact q c (g c f) M b
theorem Y4:∀(b:X aV)(c:X aV)(d:aV),ou c (b++[d])=s0 (ou c b) (nn d)|[],c,d=>p|e::b,c,d=>by rw[yM,ou,ou,Y4 b]
theorem aov{A:Z}{d M:aV}(c:d.md A)(b:M.md (A+1)):gZ (A+1) (re d M):=by rw[EL];split;exact Dn b;refine Bv ?_ ?_;rw[xP];split;intro M b;trivial;split;intro M b;trivial;exact Dn ⟨b.1,TM c.1⟩;rw[EM];split;intro M b;trivial;split;intro M b;trivial;exact Dn ⟨M7 c.2,b.2⟩
def Y5{A:Z}{b:X aV}{c:aV}(e:c.md A)(d:gZ (A+1) b):gZ (A+1) (s0 b c):=by grind[s0,R6,aov]
def MF{A:Z}{f:Y}:∀(b K:X aV),gZ A K->gZ A b->gZ A (j3 f K b)|[],K,c,_=>cc|g::b,K,c,k=>by let e:=k g av;let d:gZ A b:=λM l=>k M aY;by_cases i:Q K=0;obtain rfl:=m_ i;exact MF b _ (Dn e) d;by_cases j:f/\ru (z K (Q K-1) ai) g\/¬f/\rp (z K (Q K-1) ai) g;rw[MJ i j];refine MF b _ ?_ d;split;exact M6 c ⟨(Bw c o).1,e.2⟩;omega;rw[S2 λq=>j q.2];exact MF b _ (Bv c<|Dn e) d
def ML{A:Z}{b:X aV}{D:Y}(q:gZ A b):gZ A (lb b D):=MF _ _ (λM c=>cc)<|Vv q
theorem ME{D:Y}:∀(b K:X aV),Q (j3 D K b)<=Q K+Q b|[],K=>by simp[j3]|c::b,K=>by by_cases d:Q K=0;obtain rfl:=m_ d;rw[arW];have:=ME (D:=D) b [c];(simp_all;omega);by_cases e:D/\ru (z K (Q K-1) ai) c\/¬D/\rp (z K (Q K-1) ai) c;rw[MJ d e];have:=ME (D:=D) b (if 0<l9 c.high (z K (Q K-1) ai).high then aK K (Q K-1) ⟨(z K (Q K-1) ai).low,c.high,(z K (Q K-1) ai).dz⟩ else K);grind;rw[S2 λq=>e q.2];have:=ME (D:=D) b<|K++[c];(simp_all;omega)
def arZ(b:X aV)(c:Y):Q (lb b c)<=Q b:=by grind[ME,kq,Jw,lb]
def ln(b:X aV):X aV:=lb (gH b++lv (o9<|gt b) (gH b)) ad
def auA(b:X aV):vA b=kq (ln b++ou (lb (gt b) af) (ln b)):=p
def ayV{M:aV}(q:BU M):M.low.inf=ad:=by simp_all[BU,j_,Ai]
def auG(b:X aV)(A:Z)(be:A<=600)(bQ:gZ A b)(bg:Q b<=10000)(aG:∀T,Q (ou (lb (gt b) af) (ak T (ln b)))<=50000):bb 64 [vh b] (vh (vA b)):=by
 refine bx func64 [] λm aP=>?_;have bf:=tX b;refine aZ.eQ 3 11 133 [3] ah ?_;refine aZ.eQ 4 11 133 [4] ah ?_;refine dv (Z×X aV×X aV) (λg=>⟨[(0,_),(5,k g.1),(3,.aq 3 0<|Q<|aa dk g.2.1),(4,.aq 4 0<|Q<|aa dk g.2.2)],[(3,.h 11 133<|aa dk g.2.1),(4,.h 11 133<|aa dk g.2.2)],[]⟩) (λg=>g.1<=Q b/\Q g.2.1<=g.1/\Q g.2.2<=g.1/\g.2.1++gH (aU g.1 b)=gH b/\g.2.2++gt (aU g.1 b)=gt b) (λg=>Q b-g.1) (0,[],[]) (λ⟨c,G,oa⟩ aH=>?_) ⟨dO _,bz _,bz _,p,p⟩ .r;dsimp only at aH⊢;let⟨a9,bq,bu,x,C⟩:=aH;have bo:=tX G;have bt:=tX oa;apply e<;>intro aR
 .have aw:c<Q b:=o;have u:=pK aw;have y:=bQ _<|fK aw;refine bi c _ ?_ (j:=hR o);refine aS ?_ (f:=Dy b[c] A o y);apply e<;>intro H
  .refine bc ?_;exact a0 (c+1,G,oa) ⟨o,a2,a2,by dsimp only;rw[<-x,u,gH,ae<|bl H],by dsimp only;rw[<-C,u,gt,ae H]⟩ o .r
  refine bi c _ ?_ (j:=hR o);apply e<;>intro J
  .refine bi c _ ?_ (j:=hR o);refine er ?_;refine e7 (aa dk<|oa++[b[c]]) ?_ (aW:=bG AP) (bQ:=a2);refine bc ?_;exact a0 (c+1,G,oa++[b[c]]) ⟨o,a2,aY,by dsimp only;rw[<-x,u,gH,ae<|bp<|bl J],by dsimp only;rw[<-C,u,gt,ab H,ae J,fJ];rfl⟩ o .r
  refine bi c _ ?_ (j:=hR o);refine aS ?_ (f:=ayW b[c] A o y);apply c9;intro aK;refine bi c _ ?_ (j:=hR o);refine cf ?_ (f:=by have:=SM b[c].low.z;rw[<-fb.nY (ayV aK)] at this;exact this);exact p;apply e<;>intro S
  .refine bi c _ ?_ (j:=hR o);refine aS ?_ (f:=Lo b[c] A o y);refine er ?_;refine e7 (aa dk<|oa++[nn b[c]]) ?_ (aW:=bG AP) (bQ:=a2);refine bc ?_;exact a0 (c+1,G,oa++[nn b[c]]) ⟨o,a2,aY,by dsimp only;rw[<-x,u,gH,ae<|bp<|bp S],by dsimp only;rw[<-C,u,gt,ab H,ab J,ae S,fJ];rfl⟩ o .r
  refine bi c _ ?_ (j:=hR o);refine er ?_;refine e7 (aa dk<|G++[b[c]]) ?_ (aW:=bG AP) (bQ:=a2);refine bc ?_;exact a0 (c+1,G++[b[c]],oa) ⟨o,aY,a2,by dsimp only;rw[<-x,u,gH,ab aY,fJ];rfl,by dsimp only;rw[<-C,u,gt,ab H,ab J,ab S]⟩ o .r
 rw[kM o,gH,ff] at x;rw[kM o,gt,ff] at C;have br:=agH b;have bv:=ajh b;subst x C;have P:=V7 bQ;have O:=Oq bQ;refine aZ.iK 4 ?_;refine dv (Z×X aV) (λs=>⟨[(4,vh<|gt b),(6,_),(7,k s.1),(3,.aq 3 0<|Q<|aa dk s.2)],[(3,.h 11 133<|aa dk s.2)],[]⟩) (λs=>s.1<=Q (gH b)/\s.2=gH b++lv (o9<|gt b) (ak s.1<|gH b)) (λs=>Q (gH b)-s.1) (0,gH b) (λ⟨d,i⟩ aW=>?_) ⟨dO _,av⟩ .r;dsimp only at aW⊢;let⟨a_,I⟩:=aW;have bk:Q i<=3*Q (gH b):=by have:=aaF (ao:=o9<|gt b) (T:=2) (λM=>Z9 M)<|ak d<|gH b;rw[I,cX];have:=List.length_take_le d<|gH b;rw[mK] at*;omega
 have bj:=tX i;apply e<;>intro a3
 .have U:d<Q (gH b):=o;have y:=O _<|fK U;have au:(aa dk i)[d]?=W (dk (gH b)[d]):=by rw[I,dn,tt o];exact hR U
  have bd:d<Q i:=by rw[I,cX];omega
  refine eg ?_;refine cC d ?_;refine e9 (dk (gH b)[d]) ?_ (j:=au);refine cC d ?_;refine e9 (dk (gH b)[d]) ?_ (j:=au);refine aei ?_;refine dv (Z×X aV) (λl=>⟨[(4,_),(6,_),(7,_),(83,_),(84,k l.1),(3,.aq 3 0<|Q<|aa dk l.2)],[(3,.h 11 133<|aa dk l.2)],[]⟩) (λl=>l.1<=2/\l.2=i++(if l.1=0 then[] else if l.1=1 then s5 (gt b) (gH b)[d].low else o9 (gt b) (gH b)[d])) (λl=>2-l.1) (0,i) (λ⟨v,E⟩ aD=>?_) ⟨dO _,av⟩ .r;dsimp only at aD⊢;let⟨bh,K⟩:=aD;have bn:Q E<=Q i+2:=by rw[K,cX];have:=Z7 (gt b) (gH b)[d].low;have:=Z9 (l0:=(gt b)) (gH b)[d];split;simp;grind
  have bm:=tX E;apply e<;>intro a4
  .have Y:v=0\/v=1:=o;obtain⟨F,he⟩:∃F,F=(if v=0 then(gH b)[d].low else(gH b)[d].high):=⟨_,p⟩;have aI:F.md A:=by rw[he];split;exact y.1;exact y.2
   refine at6 v [a6 F.inf,a6 F.op,a6 F.B.neg,gW<|bD F.B.num,gW<|bD F.B.dx] ?_ (bQ:=by rw[he];rcases Y with rfl|rfl<;>rfl);apply c9;intro a5;refine cf ?_ (f:=by have:=SM F.z;rw[<-fb.nY ap] at this;exact this);exact p;apply c9;intro a7;refine cf ?_ (f:=by have:=Ss (gt b) F.z (A+2) o P (ro o aI) o;rw[<-fb.nY ap] at this;exact this);exact p;apply e<;>intro R
   .have aJ:=fb.nY (F:=F) ap;refine er ?_;refine e7 (aa dk<|E++[aV.mk (gG F.z) (gG F.z) ad]) ?_ (aW:=by rw[aJ,AP];rfl) (bQ:=a2);refine bc ?_;exact a0 (v+1,E++[aV.mk (gG F.z) (gG F.z) ad]) ⟨o,by
     dsimp only;have ax:s5 (gt b) F=[aV.mk (gG F.z) (gG F.z) ad]:=by rw[s5,ae ⟨ap,R.1.2,R.2⟩]
     rw[K,<-ax,he];rcases Y with rfl|rfl;simp;simp[o9]⟩ o .r
   refine bc ?_;exact a0 (v+1,E) ⟨o,by
    dsimp only;have ax:s5 (gt b) F=[]:=by rw[s5,ab λq=>R ⟨⟨ap,q.2.1⟩,q.2.2⟩]
    rw[K];rcases Y with rfl|rfl;grind;simp_all[Kz,o9]⟩ o .r
  refine bc ?_;exact a0 (d+1,E) ⟨o,by dsimp only;rw[K,I,fJ];congr 1;rw[O3 U,Py,List.flatMap_singleton,ab<|show¬v=0 by omega,ab (show¬v=1 by omega)]⟩ o .r
 have ay:i=gH b++lv (o9 (gt b)) (gH b):=by rw[I,rQ o]
 have az:gZ A i:=by rw[ay];exact Bv O<|R6 (λM aL=>Z_ aL) O
 have aE:lb i ad=ln b:=by rw[ay,ln]
 have N:=ML (D:=ad) az;have aF:=arZ i ad;have am:=ab7 i ad A o az o;rw[aE] at am N aF;refine BI 3 ?_;refine bI [(5,113)] ?_ (f:=am);refine aS ?_ (f:=((ab7 (gt b) af (A+2) o P o).iK 5).az4);refine dv (Z×X aV) (λn=>⟨[(4,vh n.2),(10,k n.1),(3,.aq 113 0<|Q<|aa dk<|ln b)],[(113,.h 11 133<|aa dk<|ln b)],[]⟩) (λn=>n.1<=Q (ln b)/\n.2=ou (lb (gt b) af) (ak n.1<|ln b)/\gZ (A+3) n.2) (λn=>Q (ln b)-n.1) (0,lb (gt b) af) (λ⟨t,w⟩ aB=>?_) ⟨dO _,p,Iw o<|ML P⟩;dsimp only at aB⊢;let⟨a8,aC,al⟩:=aB;have aN:=aG t;rw[<-aC] at aN;have aO:=tX<|ln b;have bs:=tX w;apply e<;>intro aQ
 .have ar:t<Q (ln b):=o;have L:=N _<|fK ar;refine cC t ?_;refine e9 (dk (ln b)[t]) ?_ (j:=hR ar);refine aS ?_ (f:=Lo (ln b)[t] A o L);refine aS ?_ (f:=aoA w (nn (ln b)[t]) (A+3) o al (aV.ro o<|EI L) o);refine bc ?_;exact a0 (t+1,s0 w<|nn (ln b)[t]) ⟨o,by grind[O3,Y4],Y5 (EI L) al⟩ o
 have aM:w=ou (lb (gt b) af) (ln b):=by rw[aC,rQ o]
 refine e7 (aa dk<|ln b++w) ?_ (hl:=.a p p p p<|ah4 w) (aW:=bG AP) (bQ:=a2);refine BI 113 ?_;refine aS ?_ (f:=ah1 (ln b++w) (A+3) o (Bv (Iw o N) al) a2);exact aA (q:=by rw[cU,auA,aM])
def cu(c:X v):Z:=c.foldl (λd b=>10*d+(aG b-48)) 0
theorem Ru:∀(b:X v)(c:Z),b.foldl (λc d=>10*c+(aG d-48)) c=c*10^Q b+cu b|[],c=>by simp[cu]|d::b,c=>by let f:=Ru b<|10*c+(aG d-48);let g:=Ru b<|10*0+(aG d-48);let e:cu (d::b)=b.foldl _ _:=p;grind
def CM(c b:X v):cu (c++b)=cu c*10^Q b+cu b:=by grind[cu,Ru]
theorem LA:cu []=0:=p
def Y_(b:X v)(c:v):cu (b++[c])=10*cu b+(aG c-48):=by simp[cu,Pz]
theorem EP:∀b:X v,(∀c∈b,aG c<=57)->cu b<10^Q b
|[],_=>cc|c::b,q=>by
 let e:=q c av;let f:=EP b λd i=>q d aY;rw[show c::b=[c]++b from p,CM,cX,qa];let g:cu [c]*10^Q b<=9*10^Q b:=jU _ (by simp[cu];omega)
 (simp;omega)
def oH(d:Y)(c:Z)(b:J):J:=if d then-((c*10^aB (b+30):Z):J) else((c*10^aB (b+30):Z):J)
def NJ{d:Y}{c:Z}{b:J}:g6 (oH d c b)=c*10^aB (b+30):=by grind[oH]
def Um{d:Y}{b:Z}{c:J}(q:b≠0):d=aL (oH d b c<0):=by let e:0<b*10^aB (c+30):=Ar o<|pw o;grind[oH]
def aqf{c:Y}{d b:Z}:m1 c (d*10^b) 1=cw (oH c d (b:J)):=by refine Fy Nat.one_pos ?_ λq=>?_;rw[NJ,Aq,show aB ((b:J)+30)=b+30 by omega,qa,qU];rfl;exact Um λe=>q ap
def aqe{c:Y}{d b:Z}(e:b<=30):m1 c d (10^b)=cw (oH c d (-(b:J))):=by refine Fy (pw o) ?_ λq=>Um q;rw[NJ,show aB (-(b:J)+30)=30-b by omega,qU,<-qa,show 30-b+b=30 by omega];rfl
theorem ve{M:X v}(q:gu M fU):∀b∈M,48<=aG b/\aG b<=57:=λb c=>by grind[fU]
def Zi(M:X v)(C:gu M fU)(bQ:Q M<=10000):bb 71 [bV M] (gW (bD (cu M))):=by
 refine bx func71 [] λm E=>?_;let s:=ve C;refine aZ.eQ 3 1 3 [3] ah ?_;refine dv (J×X Z) (λd=>⟨[(0,_),(4,an aj d.1),(3,.aq 3 0<|Q<|aa k d.2)],[(3,.h 1 3<|aa k d.2)],[]⟩) (λd=>d.1<=Q M/\-4<d.1/\Q d.2+d.1<=Q M/\(∀I∈d.2,I<10000)/\h6 d.2+10000^Q d.2*cu (ak (aB d.1) M)=cu M) (λd=>aB<|d.1+4) ((Q M:J),[]) (λ⟨n,out⟩ aH=>?_) ⟨o,o,av,av,by simp[h6]⟩ .r;dsimp only at aH⊢;let⟨H,K,O,B,w⟩:=aH;apply e<;>intro F
 .obtain⟨b,rfl⟩:∃b:Z,n=(b:J):=⟨aB n,o⟩;refine jf ?_;refine ID ((b-4:Z):J) ?_;refine dv (Z×Z) (λg=>⟨[(0,_),(4,_),(5,k g.2),(6,k g.1),(3,.aq 3 0<|Q<|aa k out)],[(3,.h 1 3<|aa k out)],[]⟩) (λg=>b-4<=g.1/\g.1<=b/\g.2=cu (ak (g.1-(b-4))<|aU (b-4) M)) (λg=>b-g.1) (b-4,0) (λ⟨c,i⟩ aW=>?_) ⟨bz _,o,by simp[LA]⟩ .r;dsimp only at aW⊢;let⟨L,N,q⟩:=aW;let u:i<10^4:=by let l:=EP (ak (c-(b-4))<|aU (b-4) M) λx t=>(s x<|Kh<|tu t).2;rw[<-q] at l;refine kv l<|qb o ?_;simp;omega
  let u:i<10000:=u;apply e<;>intro G
  .let z:c<Q M:=o;let t:=s M[c] (fK z);refine BC ((10*i:Z):J) ?_;refine rt c M[c] ?_;refine lg ((aG M[c]-48:Z):J) ?_ (a7:=by grind[Pk]);refine e6 ((10*i+(aG M[c]-48):Z):J) ?_;refine bc ?_;exact a0 (c+1,10*i+(aG M[c]-48)) ⟨o,o,by
    dsimp only;rw[q,<-Y_];congr 1;let l:c-(b-4)<Q (aU (b-4) M):=by simp;omega
    rw[show c+1-(b-4)=c-(b-4)+1 by omega,Ee l]<;>simp_all⟩ o .r
  refine er ?_;refine e7 (aa k<|out++[i]) ?_ (aW:=tw) (bQ:=aY);refine jf ?_;exact a0 ((b:J)-4,out++[i]) ⟨o,o,aY,λI bA=>by
   grind,by
   dsimp only;rw[aAJ,cX,<-w,show aB ((b:J)-4)=b-4 by omega,Kb,p_,rR];let D:ak b M=ak (b-4) M++ak (b-(b-4)) (aU (b-4) M):=by rw[<-List.take_add];congr 1;omega
   rw[D,CM,q];let A:Q (ak (b-(b-4))<|aU (b-4) M)=b-(b-4):=by simp;omega
   let j:c-(b-4)=b-(b-4):=by omega
   rw[A,<-j];simp only[h6,Nat.mul_zero,uM];rcases fF b 4 with y|y;rw[show b-4=0 by omega];simp[LA];rw[show c-(b-4)=4 by omega,show(10:Z)^4=10000 by rfl,Ap,qU,lV 10000 (cu _)];omega⟩ o .r
 refine BI 3 ?_;refine aS ?_ (f:=JH out (cu M) o B (by rw[show aB n=0 by omega] at w;trivial));exact aA
def bu(b:bT):J:=oH b.neg (cu b.bM) b.exp
def IR{b:bT}(q:kk b=0):gu b.bM fU/\Q b.bM<=30/\-30<=b.exp/\b.exp<=30/\b.bM≠[]:=by unfold kk at q<;>grind
def aeY{b:bT}(q:kk b=0):md 0 (bu b):=by
 let⟨f,g,k,l,m⟩:=IR q;unfold md bu;rw[NJ];let c:=xn<|kv (EP b.bM λe i=>(ve f e i).2)<|qb o g;let d:10^aB (b.exp+30)<=10^60:=qb o o;let j:=Ci c d
 (simp[dK,qa,AD,qb];omega)
def Sh(T:bT)(n:kk T=0):bb 32 [cn T] (jL (cw (bu T))):=by
 refine bx func32 [] λm v=>?_;let⟨d,l,s,t,u⟩:=IR n;let ch:cu T.bM<10^Q T.bM:=EP T.bM λR q=>(ve d R q).2;let j:Q (bD<|cu T.bM)<=8:=ov<|kv ch<|dK (qb o l) aR;let g:Q (bD 10)<=1:=ov aR;let r:Q (bD 1)<=1:=ov aR;apply e<;>intro w
 .obtain⟨b,he⟩:∃b:Z,T.exp=(b:J):=⟨aB T.exp,o⟩;let i:=N9 (T:=b) g;let x:=ER (R:=10^b) j i;let c:=zK T.neg (cu T.bM*10^b) 1 o o o;rw[aqf,<-he] at c;refine eS ?_;refine br (λ_=>cf p (f:=Zi T.bM d o)) ?_;refine br (λ_=>cf p (f:=tg 10 o)) ?_;refine br (λ_=>cf p (f:=by have:=af3 b o;rw[k,<-he] at this;exact this)) ?_;refine br (λ_=>cf p (f:=Bz (cu T.bM) (10^b) o o)) ?_;refine br (λ_=>cf p (f:=tg 1 o)) ?_;refine br (λ_=>cf p (f:=c)) ?_;refine fx ?_;refine fZ ?_;exact dB bq
 obtain⟨b,he⟩:∃b:Z,T.exp=-(b:J):=⟨aB<|-T.exp,o⟩;let i:=N9 (T:=b) g;let c:=zK T.neg (cu T.bM) (10^b) (pw o) o o;rw[aqe o,<-he] at c;refine eS ?_;refine br (λ_=>cf p (f:=Zi T.bM d o)) ?_;refine br (λ_=>cf p (f:=tg 10 o)) ?_;refine br (λ_=>aeq (b:J) p) ?_;refine br (λ_=>cf p (f:=af3 b o)) ?_;refine br (λ_=>cf p (f:=c)) ?_;refine fx ?_;refine fZ ?_;exact dB bq
def Hd(b:lY):Prop:=b.has=af->kk b.n=0
def nV(b:lY):fb:=if b.has then⟨ad,b.op,bu b.n⟩ else⟨af,ad,0⟩
def EY{b:lY}(q:Hd b):(nV b).md 0:=by unfold nV;split;rename_i c;exact aeY<|q c;exact dO _
def kr(M:gb):aV:=if M.dz then nn ⟨nV M.low,nV M.high,af⟩ else⟨nV M.low,nV M.high,ad⟩
def rJ(M:gb):Prop:=Hd M.low/\Hd M.high
theorem ah3{M:gb}(q:rJ M):(kr M).md 2:=by unfold kr;split;exact EI ⟨EY q.1,EY q.2⟩;exact aV.ro o ⟨EY q.1,EY q.2⟩
def Z6(b:lY)(d:Hd b):bb 113 [EU b] (EV (nV b)):=by
 refine bx func113 [] λm i=>?_;apply e<;>intro g
 .exact hQ 1 2 [3,4]<|dB bq (q:=by rw[cU,nV,ab o,EV,fb.B,ae p,qn];rfl)
 let c:=by simpa using g
 refine eS ?_;refine br (λ_=>cf p (f:=Sh b.n<|d c)) ?_;refine fx<|fZ ?_;exact dB bq (q:=by rw[cU,nV,ae c];rfl)
def ah5(M:gb)(c:rJ M):bb 63 [s2 M] (dk (kr M)):=by
 refine bx func63 [] λm i=>?_;refine aZ.eQ 1003 Mu.size 133 [] ah<|eS ?_;refine br (λ_=>cf p (f:=Z6 M.low c.1))<|br (λ_=>cf p (f:=Z6 M.high c.2)) ?_;refine D5 1003 3 ?_;refine fx<|fZ ?_;apply e<;>intro b
 .let g:=Lo (aV.mk (nV M.low) (nV M.high) M.dz) 0 o ⟨EY c.1,EY c.2⟩;refine aS ?_ (f:=g);exact dB bq (q:=by rw[cU,kr,ae b,b];rfl)
 exact dB bq (q:=by
  let d:M.dz=ad:=by simpa using b
  rw[cU,kr,ab b,d];rfl)
theorem RB{c:v->Y}:∀{b:X v},b.dropWhile c=[]↔gu b c|[]=>av|d::b=>by by_cases q:c d;simp[q,RB];simp_all
theorem Zz{c:v->Y}:∀{d:X v}{b:v}{i:X v},d.dropWhile c=b::i->c b=ad|[],_,_,q=>by cases q|e::d,b,i,q=>by rw[Wi] at q;by_cases f:c e;rw[ae f] at q;exact Zz q;simp_all
def aoW(b:v):nb ([48,49,50,51,52,53,54,55,56,57]:X v) b=fU b:=by have:∀c:Fin 256,nb ([48,49,50,51,52,53,54,55,56,57]) (gk c.val)=fU (gk c.val):=aR;have q:=this ⟨aG b,nc b⟩;simp_all
def aAb(M:X v):Go.Lib.trimS M [48,49,50,51,52,53,54,55,56,57]=[]↔gu M fU:=by simp only[Go.Lib.trimS,Go.Lib.trimLeftS,Go.Lib.trimRightS,aoW];cases c:M.reverse.dropWhile _ with|nil=>grind[RB]|cons b i=>grind[Zz,fU,RB]
open Go.Shelf Go.Proofs in
def aAc(M:X v)(d:Q M<=1048576):bb 155 [bV M,bV [48,49,50,51,52,53,54,55,56,57]] (bV (Go.Lib.trimS M [48,49,50,51,52,53,54,55,56,57])):=.fixed (.str<|.str .nil) (λc=>.str _) λb=>Any.strings_Trim_laid Tryz.asG cR _ _ b (by show bB (aT M)<=_;grind) aR<|ascii_of_all aR
def Yx(b:bT)(l:Q b.bM<=1048576):bb 97 [cn b] (an aj (kk b)):=by
 refine bx func97 [] λm n=>?_;let k:=aAb b.bM;apply ev;refineλv=>cf ?_ (f:=aAc b.bM l);exact p;apply e<;>intro g
 .let c:b.bM=[]\/gu b.bM fU=ad:=by rw[k] at g;simpa using g
  exact aA (q:=by rw[kk,ae c];rfl)
 let c:¬(b.bM=[]\/gu b.bM fU=ad):=by rw[k] at g;simpa using g
 let w:0<Q b.bM:=Ca.2 λq=>c<|bl q;apply c9;intro s;refine pX 0 ?_;apply ev;intro t;refine jf ?_;refine pX (Q b.bM-1) ?_;exact p;exact p;apply e<;>intro j
 .let d:z b.bM 0 0=48\/z b.bM (Q b.bM-1) 0=48:=by simpa[JL] using j.2
  exact aA (q:=by rw[kk,ab c,ab j.1,ae d];rfl)
 let d:¬b.bM=[48]->¬(z b.bM 0 0=48\/z b.bM (Q b.bM-1) 0=48):=λq=>by grind[JL]
 apply c9;intro u;refine eA ?_;exact p;apply e<;>intro i
 .exact aA (q:=by rw[kk,ab c,ae i.1,ae i.2];rfl)
 refine ev (λ_=>p)<|eA ?_;apply e<;>intro r
 .exact aA (q:=by by_cases bA:b.bM=[48];simp_all;rw[kk,ab c,ab bA,ab<|d bA,ae o];rfl)
 exact aA (q:=by by_cases bA:b.bM=[48];rw[kk,ab c,ae bA,ab λq=>i ⟨bA,q⟩];rfl;rw[kk,ab c,ab bA,ab<|d bA,ab o];rfl)
def auw(d:aN)(s:d.G<=1048576):bb 51 [eV d] (an aj (kj d)):=by
 refine bx func51 [] λm x=>?_;let E:=aN.pp s;refine eA ?_;apply e<;>intro D
 .exact aA (q:=by rw[kj,ae o];rfl)
 refine aS ?_ (f:=azz d s);apply e<;>intro i
 .exact aA (q:=by rw[kj,ab o,ae i];rfl)
 apply e<;>intro z
 .refine aS ?_ (f:=Yx d.num o);exact aA (q:=by rw[kj,ab o,ab i,ae o];rfl)
 apply e<;>intro A
 .refine aS ?_ (f:=Lk d.text);exact aA (q:=by rw[kj,ab o,ab i,ab o,ae o];rfl)
 refine i0 (Q d.keys) (λb=>rl ah d.keys=rl (if b=0 then ah else d.keys[b-1]?) (aU b d.keys)) (λb=>⟨[(1,c 1),(33,_),(34,_),(35,k b)],[(1,_)],[]⟩) (λb j=>?_) av .r;apply e<;>intro B
 .let l:b<Q d.keys:=o;let n:∀g,rl g (aU b d.keys)=if kJ d.keys[b]≠0 then kJ d.keys[b] else if(match g with|W g=>gR d.keys[b] g||aL (d.keys[b]=g)|ah=>ad)=af then 10 else rl (W d.keys[b]) (aU (b+1) d.keys):=λg=>by rw[pK l];rfl
  refine bi b _ ?_;refine aS ?_ (f:=Lk d.keys[b]);apply e<;>intro C
  .exact aA (q:=by rw[kj,ab o,ab i,ab o,ab o,j.2,n,ae o];rfl)
  apply c9;intro F;refine jf ?_;refine gx (b-1) _ ?_;exact p;apply e<;>intro u
  .exact aA (q:=by let⟨w,t⟩:=u;rw[kj,ab o,ab i,ab o,ab o,j.2,n,ab o,ab<|show¬b=0 by omega,Oe l o];simp only[dm,cm l,Oe l<|show 0<b by omega,xr] at t;rw[ae a2];rfl)
  let y:¬(match(if b=0 then ah else d.keys[b-1]?) with|W g=>gR d.keys[b] g||aL (d.keys[b]=g)|ah=>ad)=af:=by by_cases v:b=0;grind;grind
  refine bc ?_;exact a0 (b+1) ⟨o,ap⟩ (cq:=.r)
 exact aA (q:=by rw[kj,ab o,ab i,ab o,ab o,j.2,kM o];rfl)
def auy:∀b:aN,b.G<=1048576->bb 24 [eV b] (an aj b.gB):=by
 refine aN.ind λb v n=>?_;let y:=aN.pp n;refine gJ.of_wp (t:=hV) (i:=5000) [] (λ_=>(0,0)) ⟨[(0,eV b)],[],[]⟩ e1 bq gw ⟨func24,a3,p⟩ p p p p λm s u=>?_;let w:k1 b5 hV m hB _ []:=⟨e1,bq,s,gw,u⟩;refine aS ?_ (f:=auw b n);apply e<;>intro d
 .exact aA (q:=by rw[cU,b.Hp,ae d])
 refine i0 (Q b.list) (λc=>b.gB=aN.gB.wi (aU c b.list)) (λc=>⟨[(13,_),(14,_),(15,k c)],[],[]⟩) (λc j=>?_) (by rw[b.Hp,ab d];rfl) .r;apply e<;>intro x
 .let l:c<Q b.list:=o;refine bi c _ ?_ (j:=wH o);refine aS ?_ (f:=v b.list[c] ap aY);apply e<;>intro g
  .exact aA (q:=by rw[cU,j.2,pK l,aN.gB.wi,ae g])
  refine bc ?_;exact a0 (c+1) ⟨o,by rw[j.2,pK l,aN.gB.wi,ab g]⟩ (cq:=.r)
 exact aA (q:=by rw[cU,j.2,kM o];rfl)
def ai7(b:aN)(c:b.G<=1048576):bb 11 [eV b] (an aj (mH b)):=by
 refine bx func11 [] λm d=>?_;refine aS ?_ (f:=anz b c);apply e<;>intro g
 .exact aA (q:=by rw[cU,mH]<;>grind)
 refine aS ?_ (f:=auy b c);exact aA (q:=by(simp[cU,mH,ae,b9];omega))
def zl(c:v)(b:X v):cu (c::b)=(aG c-48)*10^Q b+cu b:=by rw[show c::b=[c]++b from p,CM];simp[cu]
def EQ{b:v}{c:X v}(q:gu (b::c) fU):48<=aG b/\aG b<=57/\gu c fU:=by grind[fU]
theorem xQ{b:X v}(q:gu b fU):cu b<10^Q b:=EP b λc d=>(ve q c d).2
theorem O7{y R:v}(q:aG y=aG R):y=R:=Kp.1 q
def vi(b:X v):Prop:=b.getLast?≠W 48
def vi.tail{c:v}{b:X v}(q:vi (c::b)):vi b:=by grind[vi,List.getLast?_cons_cons]
def CN:∀{b:X v},gu b fU->vi b->b≠[]->0<cu b
|[],_,_,q=>b9 p q|c::b,bA,he,_=>by
 let e:=EQ bA;rw[zl];rcases yL (b=[]) with q|q;subst q;have:c≠48:=λd=>he (by simp[d]);have:aG c≠48:=λd=>this (O7 cc)
 (simp;omega)
 have:=CN e.2.2 he.tail q;omega
def YN:∀(c d:X v)(b:Z),gu c fU->gu d fU->vi c->vi d->Q c<=b->Q d<=b->sN c d=fm (((cu c*10^(b-Q c):Z):J)-(cu d*10^(b-Q d):Z))
|[],[],b,_,_,_,_,_,_=>by simp[sN,cu,fm]|[],f::d,b,_,u,_,n,_,D=>by have r:=CN u n av;have z:0<cu (f::d)*10^(b-Q (f::d)):=Ar r<|pw o;simp only[sN,LA,As,fm];omega|e::c,[],b,t,_,m,_,w,_=>by
 have r:=CN t m av;have z:0<cu (e::c)*10^(b-Q (e::c)):=Ar r<|pw o;generalize cu (e::c)*10^(b-Q (e::c))=N at z
 (simp[sN,LA,As,fm,ab];omega)|e::c,f::d,b+1,t,u,m,n,w,D=>by
 have B:=EQ t;have C:=EQ u;simp only[kN] at w D⊢;have L:=YN c d b B.2.2 C.2.2 m.tail n.tail o o;have G:=xQ B.2.2;have H:=xQ C.2.2;have E:10^Q c*10^(b-Q c)=10^b:=by rw[<-qa];congr 1;omega
 have F:10^Q d*10^(b-Q d)=10^b:=by rw[<-qa];congr 1;omega
 have I:cu (e::c)*10^(b+1-(Q c+1))=(aG e-48)*10^b+cu c*10^(b-Q c):=by rw[zl,iG,qU,show b+1-(Q c+1)=b-Q c by omega,E]
 have K:cu (f::d)*10^(b+1-(Q d+1))=(aG f-48)*10^b+cu d*10^(b-Q d):=by rw[zl,iG,qU,show b+1-(Q d+1)=b-Q d by omega,F]
 have x:cu c*10^(b-Q c)<10^b:=by rw[<-E];exact PS G<|pw o
 have y:cu d*10^(b-Q d)<10^b:=by rw[<-F];exact PS H<|pw o
 rw[I,K];simp only[sN];rw[L];generalize cu c*10^(b-Q c)=g at x;generalize cu d*10^(b-Q d)=i at y;generalize 10^b=l at x y;have key:∀j k g i:Z,j<k->g<l->j*l+g<k*l+i:=by intro j k g i q M;have:=jU l (show j+1<=k by omega);rw[iG,vZ] at this;omega
 split;rename_i s;have s:aG e<aG f:=PX.1 s;have:=key (aG e-48) (aG f-48) g i o x
 (simp[fm,ab,ae];omega)
 rename_i s;split;rename_i A;have A:aG f<aG e:=PX.1 A;have:=key (aG f-48) (aG e-48) i g o y
 (simp[fm,ab];omega)
 grind|e::c,f::d,0,_,_,_,_,w,_=>cc
def YM:∀{b c:X v},sN b c=0->b=c|[],[],_=>p|[],_::_,q=>cc|_::_,[],q=>by grind[sN]|y::b,R::c,q=>by simp[sN] at q;split at q;cases q;rename_i d;split at q;cases q;rename_i e;let d:¬aG y<aG R:=λA=>d<|PX.2 A;let e:¬aG R<aG y:=λA=>e<|PX.2 A;rw[O7 (y:=y) (R:=R) o,YM q]
def X3:∀(b d:X v),Q b=Q d->gu b fU->gu d fU->gR b d=aL (cu b<cu d)
|[],[],_,_,_=>a3|e::b,f::d,c,t,u=>by
 have n:=EQ t;have r:=EQ u;have c:=by simpa using c
 rw[gR,X3 b d c n.2.2 r.2.2,zl,zl,<-c];have m:=xQ n.2.2;have k:=xQ r.2.2;rw[<-c] at k;generalize 10^Q b=j at m k;have key:∀g i l s,g<i->l<j->g*j+l<i*j+s:=by intro g i l s q x;have:=jU j (show g+1<=i by omega);rw[iG,vZ] at this;omega
 rcases GO (aG e) (aG f) with q|q|q;have A:=key (aG e-48) (aG f-48) _ (cu d) o m;grind[UInt8.lt_iff_toNat_lt];grind[O7,UInt8.lt_iff_toNat_lt];have A:=key (aG f-48) (aG e-48) _ (cu b) o k;have w:¬e<f:=λA=>by grind[UInt8.lt_iff_toNat_lt]
 grind|[],_::_,c,_,_=>cc|_::_,[],c,_,_=>a3
def fL(b:bT):Prop:=gu b.bM fU=af/\-30<=b.exp/\(b.bM=[48]/\b.neg=ad/\b.exp=0\/b.bM≠[]/\b.bM.head?≠W 48/\vi b.bM)
def fL.Dv{b:bT}(q:fL b)(c:b.bM≠[48]):b.bM≠[]/\b.bM.head?≠W 48/\vi b.bM:=by rcases q.2.2 with q|q;simp_all;omega
def aoN{b:X v}(bA:gu b fU)(q:b≠[])(d:b.head?≠W 48):10^(Q b-1)<=cu b:=by cases b with|nil=>trivial|cons c b=>let f:=EQ bA;have:aG c≠48:=λe=>d (by rw[List.head?_cons,show c=48 from O7 cc]);rw[zl,kN,PL];have:=jU (10^Q b) (show 1<=aG c-48 by omega);omega
theorem BH(b:bT):g6 (bu b)=cu b.bM*10^aB (b.exp+30):=NJ
def fL.wY{b:bT}(q:fL b):bu b=0↔b.bM=[48]:=by constructor;intro f;apply oP;intro e;let⟨c,g,d⟩:=q.Dv e;let i:0<cu _*10^aB (b.exp+30):=Ar (CN q.1 d c)<|pw o;grind[BH];grind[bu,BH,cu]
def fL.neg{c:bT}(q:fL c):c.neg=aL (bu c<0):=by rcases q.2.2 with b|b;rw[q.wY.2 b.1,b.2.1];simp;exact Um<|Nat.pos_iff_ne_zero.1<|CN q.1 b.2.2 b.1
def rK(b c:bT):J:=if fm ((Q b.bM:J)+b.exp-Q c.bM-c.exp)≠0 then fm ((Q b.bM:J)+b.exp-Q c.bM-c.exp) else sN b.bM c.bM
theorem w6{b:J}(q:0<b):fm b=1:=by(simp[fm,ab];omega)
theorem w5{b:J}(q:b<0):fm b=-1:=by(simp[fm,ab,ae];omega)
def Qe{b:bT}(q:fL b)(d:b.bM≠[48]):10^aB ((Q b.bM:J)+b.exp+29)<=g6 (bu b)/\g6 (bu b)<10^aB ((Q b.bM:J)+b.exp+30):=by let⟨c,e,f⟩:=q.Dv d;let he:=q.2.1;let g:=Ca.2 c;rw[BH];constructor;rw[show aB (Q b.bM+b.exp+29)=Q b.bM-1+aB (b.exp+30) by omega,qa];exact jU _<|aoN q.1 c e;rw[show aB (Q b.bM+b.exp+30)=Q b.bM+aB (b.exp+30) by omega,qa];exact PS (xQ q.1)<|pw o
def VP{b c:bT}(d:fL b)(e:fL c)(f:b.bM≠[48])(g:c.bM≠[48]):rK b c=fm ((g6 (bu b):J)-g6 (bu c)):=by let mA:=Qe d f;let k:=Qe e g;let i:=d.2.1;let j:=e.2.1;unfold rK;rcases Ka (Q b.bM+b.exp-Q c.bM-c.exp) 0 with q|q|q;have:=qb (show 0<10 by decide) (show aB (Q b.bM+b.exp+30)<=aB (Q c.bM+c.exp+29) by omega);grind[w5];rw[q,ab cc,YN _ c.bM (aB<|Q b.bM+b.exp+30) d.1 e.1 (d.Dv f).2.2 (e.Dv g).2.2 o o,BH,BH];grind;have:=qb (show 0<10 by decide) (show aB (Q c.bM+c.exp+30)<=aB (Q b.bM+b.exp+29) by omega);grind[w6]
def ju(b:bT):J:=if b.bM=[48] then 0 else if b.neg then-1 else 1
def agu{b:bT}(q:fL b):ju b=fm (bu b):=by unfold ju fm;simp[q.wY];split;rfl;rw[q.neg];simp
def qE(b c:bT):J:=if ju b≠ju c\/ju b=0 then fm (ju b-ju c) else ju b*rK b c
def FR{i g:bT}(e:fL i)(f:fL g):qE i g=fm (bu i-bu g):=by
 unfold qE;rw[agu e,agu f];rcases Ka _ 0 with d|d|d;rw[w5 d];rcases Ka _ 0 with b|b|b;rw[w5 b,ab aR,VP e f (λc=>by rw[<-e.wY] at c;omega) λc=>by rw[<-f.wY] at c;omega]
 (simp[fm];omega)
 rw[b,ae aR,w5 aR,w5 o];rw[w6 b,ae aR,w5 aR,w5 o];rw[d];rw[ae<|bp aR];rcases Ka (bu g) 0 with b|b|b;rw[w5 b,w6 aR,w6 o];simp_all;rw[w6 b,w5 aR,w5 o];rw[w6 d];rcases Ka _ 0 with b|b|b;rw[w5 b,ae aR,w6 aR,w6 o];rw[b,ae aR,w6 aR,w6 o];rw[w6 b,ab aR,VP e f (λc=>by rw[<-e.wY] at c;omega) λc=>by rw[<-f.wY] at c;omega];grind
def aus{b c:bT}(e:fL b)(f:fL c)(q:bu b=bu c):b=c:=by
 have r:b.neg=c.neg:=by rw[e.neg,f.neg,q]
 rcases yL (b.bM=[48]) with fG|fG;have m:c.bM=[48]:=by rw[<-f.wY,<-q,e.wY];exact fG
 have d:b.exp=0:=by rcases e.2.2 with d|d;omega;simp_all
 have g:c.exp=0:=by rcases f.2.2 with d|d;omega;simp_all
 cases b;cases c;simp_all;have d:=VP e f fG λj=>fG (by rw[<-e.wY,q,f.wY];exact j);rw[q,Int.sub_self] at d;unfold rK at d;have s:fm 0=0:=by simp[fm]
 split at d;omega;rename_i g;have k:=YM d;have i:=by simpa using g
 have l:Q b.bM+b.exp-Q c.bM-c.exp=0:=by unfold fm at i;split at i;omega;omega
 rw[k] at l;have n:b.exp=c.exp:=o;cases b;simp_all
def FH{b:bT}(q:kk b=0):fL b:=by let⟨c,g,d,i,e⟩:=IR q;refine⟨c,d,?_⟩;unfold kk at q;rw[ab ap] at q;split at q;simp_all;right;split at q;cases q;refine⟨e,?_,?_⟩;grind[List.head?_eq_getElem?];intro f;grind
def ps(A:Z):X v:=cM A 48
def LB(A:Z):cu (ps A)=0:=by induction A with|zero=>rfl|succ A b=>trivial
theorem ajs(A:Z):gu (ps A) fU:=by simp[ps,fU]
def axF(A:Z):Go.Lib.repeatL [48] A=ps A:=by induction A with|zero=>rfl|succ A b=>rw[Go.Lib.repeatL,b];rfl
def Y9:∀b:X v,cu (b.dropWhile (·==48))=cu b
|[]=>p|c::b=>by
 rw[Wi];split;rename_i q;have:=by simpa using q
 rw[Y9 b,zl,this];simp;rfl
def az9:∀c:X v,∃A,c=(c.reverse.dropWhile (·==48)).reverse++ps A:=by
 intro c;let key:∀b,∃A,b=ps A++b.dropWhile (·==48):=by
  intro b
  induction b with|nil=>exact⟨0,p⟩|cons f b e=>rw[Wi];split;let⟨A,d⟩:=e;refine⟨A+1,?_⟩;grind[ps];exact⟨0,p⟩
 let⟨A,d⟩:=key c.reverse;grind[ps,List.reverse_reverse,List.reverse_append]
def ZC(b:X v):(b.dropWhile (·==48)).head?≠W 48:=by induction b with|nil=>simp|cons c b d=>grind[List.dropWhile_cons,List.head?_cons,Option.some.injEq]
def als{b:X v}(q:gu b fU):gu (b.dropWhile (·==48)) fU:=m9.2 λc d=>m9.1 q c<|(ajM _).subset d
theorem aeX{c:Y}{d A:Z}{b:J}(e:-30<=b):oH c (d*10^A) b=oH c d (b+A):=by unfold oH;rw[show aB (b+A+30)=A+aB (b+30) by omega,qa,qU]
def auV{c:Y}{b:J}:oH c 0 b=0:=by simp[oH]
def ud(d:Y)(b:X v)(c:J):bT:=if GY (Co b 48) 48=[] then⟨ad,[48],0⟩ else⟨d,GY (Co b 48) 48,c+Q (Co b 48)-Q (GY (Co b 48) 48)⟩
def H1{neg:Y}{b:X v}{exp:J}(q:gu b fU)(l:-30<=exp):fL (ud neg b exp)/\bu (ud neg b exp)=oH neg (cu b) exp:=by
 unfold ud Go.Lib.trimRightB Go.Lib.trimLeftB;have f:=Y9 b;have e:=als q;have i:=ZC b;generalize b.dropWhile _=I at f e i;let⟨A,c⟩:=az9 I;have j:=ZC I.reverse;generalize I.reverse.dropWhile _=g at c j;split;rename_i d;rw[d,tv] at c;refine⟨⟨aR,aR,bl ⟨p,p,p⟩⟩,?_⟩;rw[<-f,c,LB,auV];rfl;rename_i d;have bA:Q I=Q g.reverse+A:=by rw[c];simp[ps]
 have k:=by rw[c,List.all_append,j_] at e;exact e.1
 refine⟨⟨k,aY,bp ⟨d,?_,?_⟩⟩,?_⟩;simp_all
 (simp[vi,List.getLast?_reverse];omega)
 show oH neg _ _=_;have m:cu I=cu g.reverse*10^A:=by rw[c,CM,LB,uM];simp[ps]
 grind[aeX]
def l4:Z->Z->X v|0,_=>[]|b+1,c=>gk (48+c/10^b%10)::l4 b c
theorem wu(b d:Z):Q (l4 b d)=b:=by induction b with|zero=>rfl|succ b c=>rw[l4,kN,c]
def JJ{I:Z}(q:I<10):aG (gk (48+I))=48+I:=by(simp;omega)
def LC(b d:Z):gu (l4 b d) fU:=by
 induction b with
 |zero=>rfl|succ b c=>
  rw[l4,Pu,c,Bool.and_true]
  (simp[fU,JJ];omega)
def Zh(b c:Z):cu (l4 b c)=c%10^b:=by induction b with|zero=>simp[l4,cu,Nat.mod_one]|succ b d=>rw[l4,zl,wu,d,JJ (I:=c/10^b%10)<|sJ _ aR,aj4,rR,Nat.mod_mul,lV,xl]
def Zg{b d c:Z}(q:d%10^b=c%10^b):l4 b d=l4 b c:=by
 induction b with
 |zero=>rfl|succ b j=>
  rw[l4,l4];let g:d%10^b=c%10^b:=by let e:=akb d (10^b) 10;let f:=akb c (10^b) 10;rw[<-rR] at e f;rw[<-e,<-f,q]
  let i:d/10^b%10=c/10^b%10:=by let e:=aka d (10^b) 10;let f:=aka c (10^b) 10;rw[<-rR] at e f;rw[<-e,<-f,q]
  simp_all
def n5(b c:X v):X v:=l4 (Q b+1)<|cu b+cu c
def pf(b c:X v):X v:=l4 (Q b)<|10^Q b+cu b-cu c
def af1{y R:X v}(d:Q y=Q R)(b:gu y fU)(c:gu R fU):cu (n5 y R)=cu y+cu R:=by rw[n5,Zh,xq];grind[xQ,Nat.pow_succ]
def ad2{b c:X v}(d:gu b fU)(q:cu c<=cu b):cu (pf b c)=cu b-cu c:=by let e:=xQ d;rw[pf,Zh,show 10^Q b+cu b-cu c=cu b-cu c+10^Q b by omega,aj3,xq o]
def hF(b:X v)(c:Z):X v:=ps (c-Q b)++b
def FV{L:X v}{T:Z}(q:Q L<=T):Q (hF L T)=T:=by grind[hF,ps]
def FU{L:X v}{T:Z}(q:gu L fU):gu (hF L T) fU:=by grind[hF,ajs]
def UB{L:X v}{T:Z}:cu (hF L T)=cu L:=by simp[hF,CM,LB]
def fQ(b:bT)(c:J):X v:=b.bM++ps (aB<|b.exp-c)
def ON{b:bT}{F:J}(q:gu b.bM fU):gu (fQ b F) fU:=by grind[fQ,ajs]
theorem ayO{b:bT}{c:J}:cu (fQ b c)=cu b.bM*10^aB (b.exp-c):=by rw[fQ,CM,LB,uM];simp[ps]
def ahJ{c:bT}{b:J}(d:-30<=b)(q:b<=c.exp):oH c.neg (cu (fQ c b)) b=bu c:=by grind[ayO,aeX,bu]
def aex{b c:Y}(q:¬b=c):c=!b:=by cases b<;>cases c<;>first|rfl|trivial
def BX(c d:bT):bT:=let b:=min c.exp d.exp
 let g:=max (Q<|fQ c b)<|Q<|fQ d b;let e:=hF (fQ c b) g;let f:=hF (fQ d b) g
 if c.neg=d.neg then ud c.neg (n5 e f) b else if gR e f=ad then ud c.neg (pf e f) b else ud d.neg (pf f e) b
def azH{b c:bT}(k:fL b)(l:fL c):fL (BX b c)/\bu (BX b c)=bu b+bu c:=by
 have u:=k.2.1;have v:=l.2.1;have he:-30<=min b.exp c.exp:=o;have r:=ahJ he<|Int.min_le_left b.exp c.exp;have s:=ahJ he<|Int.min_le_right b.exp c.exp;have f:=ON (F:=min b.exp c.exp) k.1;have g:=ON (F:=min b.exp c.exp) l.1;unfold BX;dsimp only;generalize min b.exp c.exp=F at*;have mA:=FV<|Nat.le_max_left (Q<|fQ b F)<|Q<|fQ c F;have t:=FV<|Nat.le_max_right (Q<|fQ b F)<|Q<|fQ c F;rw[<-UB (L:=fQ b F)] at r;rw[<-UB (T:=max (Q<|fQ b F)<|Q<|fQ c F)] at s;have f:=FU (T:=max (Q<|fQ b F)<|Q<|fQ c F) f;have g:=FU (T:=max (Q<|fQ b F)<|Q<|fQ c F) g;generalize hF (fQ b F) _=d at*;generalize hF (fQ c F) _=e at*;have m:Q d=Q e:=by rw[mA,t]
 rw[<-r,<-s];split;have q:=H1 (neg:=b.neg) (exp:=F) (LC (Q d+1)<|cu d+cu e) he;rw[<-n5,af1 m f g] at q;grind[oH,Nat.add_mul];rename_i n;rw[X3 d e m f g];split;rename_i j;have i:cu e<=cu d:=by have:=P6 j;omega
 have q:=H1 (neg:=b.neg) (exp:=F) (LC (Q d)<|10^Q d+cu d-cu e) he;rw[<-pf,ad2 f i] at q;rw[q.2];have:=aex n;unfold oH;grind;rename_i j;have i:cu d<=cu e:=by have:=yU (by simpa using j);omega
 have q:=H1 (neg:=c.neg) (exp:=F) (LC (Q e)<|10^Q e+cu e-cu d) he;rw[<-pf,ad2 g i] at q;rw[q.2];have:=aex λF=>n<|bG F;unfold oH;grind
