import Derived.Test.YtpilnblkknjliaaGreatDoorF5
set_option linter.all false
set_option maxHeartbeats 8000000
set_option maxRecDepth 100000
open Bool renaming false->ad,true->af
open Decidable renaming decide->aL
open Eq renaming symm->bG,trans->bC
open Go renaming FuncId->gP,Program->ct
open Go.Ending renaming returned->mM
open Go.Fn renaming func->dp
open Go.IntKind renaming i64->aj,u64->hf
open Go.Lib renaming bitLen->xu,decDigits->eH,indexByte->gQ,nDigits->od
open Go.Op renaming bytesLess->gR
open Go.Proofs.Tryz renaming prog->b5
open Go.Value renaming int->ek
open Go.ga.V renaming agg->bH,bool->a6,cells->kb,func->e4,int->an,ref->fy,str->bV,tuple->cs
open Go.ga.cj renaming cell->ag,map->h8
open Iff renaming rfl->na
open Inhabited renaming default->ai
open Int renaming tmod->xw,toNat->aB
open List renaming countP->WS,drop->aU,flatMap->lv,getD->z,length->Q,map->aa,replicate->cM,set->aK,take->ak,toArray->aT
open Nat renaming cast->nK
open Option renaming none->ah,some->W
open Or renaming inl->bl,inr->bp,resolve_left->kx
open UInt8 renaming ofNat->gk,toNat->aG
open _root_ renaming Bool->Y,ByteArray->v1,Int->J,List->X,Nat->Z,Option->da,True->dW,UInt8->v,Unit->kc,absurd->b9,rfl->p,trivial->c1
open Go.Proofs Go.Proofs.Tryz
namespace Go.ga
def sr:X v:=[92,46,124,40,41,91,93,123,125,42,43,63]
def jb(e:ar->aO×ar)(b:X v)(d:ar):aO×ar:=if fw b d 40 then((e<|aF b d 40).1,hx b (e<|aF b d 40).2 41)
 else if fw b (aF b d 40) 91 then p5 b (aF b (aF b d 40) 91)
 else if fw b (aF b (aF b d 40) 91) 46 then(kh cL.others,aF b (aF b (aF b d 40) 91) 46)
 else if fw b (aF b (aF b (aF b d 40) 91) 46) 92 then
  if(eL b<|aF b (aF b (aF b (aF b d 40) 91) 46) 92).many then(kh (eL b<|aF b (aF b (aF b (aF b d 40) 91) 46) 92).s,(eL b<|aF b (aF b (aF b (aF b d 40) 91) 46) 92).r)
  else(kh<|cL.add (eL b<|aF b (aF b (aF b (aF b d 40) 91) 46) 92).c (eL b<|aF b (aF b (aF b (aF b d 40) 91) 46) 92).c,(eL b<|aF b (aF b (aF b (aF b d 40) 91) 46) 92).r)
 else(kh<|cL.add (jt b (aF b (aF b (aF b (aF b d 40) 91) 46) 92) sr).1 (jt b (aF b (aF b (aF b (aF b d 40) 91) 46) 92) sr).1,(jt b (aF b (aF b (aF b (aF b d 40) 91) 46) 92) sr).2)
def mb(b:X v):Z->aO->ar->aO×ar
|0,d,c=>(d,c)|e+1,d,c=>
 if fw b c 42 then mb b e (.mk 6 [] 0 (-1) [d]) (aF b c 42)
 else if fw b (aF b c 42) 43 then mb b e (.mk 6 [] 1 (-1) [d]) (aF b (aF b c 42) 43)
 else if fw b (aF b (aF b c 42) 43) 63 then mb b e (.mk 6 [] 0 1 [d]) (aF b (aF b (aF b c 42) 43) 63)
 else if fw b (aF b (aF b (aF b c 42) 43) 63) 123 then
  mb b e (.mk 6 [] ((k4 b<|aF b (aF b (aF b (aF b c 42) 43) 63) 123).1:Z) (k4 b<|aF b (aF b (aF b (aF b c 42) 43) 63) 123).2.1 [d]) (k4 b<|aF b (aF b (aF b (aF b c 42) 43) 63) 123).2.2
 else(d,aF b (aF b (aF b (aF b c 42) 43) 63) 123)
def nz(c:ar->aO×ar)(b:X v)(d:ar):aO×ar:=mb b (Q b+2) (jb c b d).1 (jb c b d).2
def yo(c:X v)(b:ar):Prop:=((b.no=0/\b.w<Q c)/\aG (cy c b)≠124)/\aG (cy c b)≠41
instance(c:X v)(b:ar):Decidable (yo c b):=by unfold yo;exact inferInstance
def km(e:ar->aO×ar)(d:X v):Z->X aO->ar->X aO×ar|0,c,b=>(c,b)|f+1,c,b=>if yo d b then km e d f (c++[(nz e d b).1]) (nz e d b).2 else(c,b)
def j7(c:ar->aO×ar)(b:X v)(d:ar):aO×ar:=(pm 4 (km c b (Q b+1) [] d).1,(km c b (Q b+1) [] d).2)
def jW(e:ar->aO×ar)(b:X v):Z->X aO->ar->X aO×ar|0,d,c=>(d,c)|f+1,d,c=>if fw b c 124 then jW e b f (d++[(j7 e b<|aF b c 124).1]) (j7 e b<|aF b c 124).2 else(d,aF b c 124)
def eB(b:X v):Z->ar->aO×ar|0,d=>(.mk 2 [] 0 0 [],d)|c+1,d=>(pm 5 (jW (eB b c) b (Q b+2) [(j7 (eB b c) b d).1] (j7 (eB b c) b d).2).1,(jW (eB b c) b (Q b+2) [(j7 (eB b c) b d).1] (j7 (eB b c) b d).2).2)
def adB{c:X v}{b:ar}{d:v}(f:b.ok c)(e:fw c b d):b.mr (aF c b d):=by unfold aF;rw[ae e];exact vx (uG f e).2.1
def j9{d:X v}{b:ar}{c:v}(e:¬fw d b c):aF d b c=b:=by simp_all[aF,ab]
def Ld{c:X v}{d:ar}(j:d.ok c):(k4 c d).2.2.ok c/\d.mr (k4 c d).2.2:=by have e:=IS (least:=0) j;unfold k4;generalize gF c d 0=i at e⊢;have b:=ip (l:=44) e.1;have f:=e.2.2.trans<|rn (l:=44) e.1;generalize aF c i.2 44=k at b f⊢;have g:=IS (least:=i.1) b;split;split;exact⟨IX g.1,(f.trans g.2.2.le).trans (It g.1).le⟩;exact⟨IX b,f.trans (It b).le⟩;exact⟨IX b,f.trans (It b).le⟩
def ahq{c:X v}{b:ar}(e:b.ok c):(p5 c b).2.ok c/\b.mr (p5 c b).2:=by obtain⟨d,_,f⟩:=OI (ip (l:=94) e) gO;exact⟨IX d,((rn e).trans f).w_<|It d⟩
def qY(c:X v)(e:Z)(d:ar->aO×ar):Prop:=∀b:ar,b.ok c->Q c-b.w<e->(d b).2.ok c/\b.mq (d b).2
variable{g:Z}
def Hc{c:X v}{i:ar->aO×ar}(t:qY c g i){b:ar}(f:b.ok c)(y:Q c-b.w<g+1):(jb i c b).2.ok c/\b.mr (jb i c b).2:=by
 let j:=ip (l:=40) f;let e:=ip (l:=91) j;let n:=(rn (l:=40) f).trans<|rn (l:=91) j;let k:=ip (l:=46) e;let m:=ip (l:=92) k;let q:=(n.trans<|rn (l:=46) e).trans<|rn (l:=92) k;unfold jb;split;rename_i d;let x:=(uG f d).1;let u:(aF c b 40).w=b.w+1:=by unfold aF;rw[ae d];rfl
 let⟨r,s⟩:=t (aF c b 40) j o;exact⟨IX r,((adB f d).trans s).trans (It r).le⟩;split;exact⟨(ahq e).1,n.w_ (ahq e).2⟩;split;rename_i d;exact⟨k,n.w_<|adB e d⟩;split;split;exact⟨(wA m).1,q.w_ FA⟩;exact⟨(wA m).1,q.w_ FA⟩;exact⟨(BQ m).1,q.w_ TF⟩
def yy{i:X v}:∀{k:Z}{c:aO}{b:ar},b.ok i->(mb i k c b).2.ok i/\b.mq (mb i k c b).2|0,c,b,d=>⟨d,.refl b⟩|k+1,c,b,d=>by let e:=ip (l:=42) d;let m:=rn (l:=42) d;let f:=ip (l:=43) e;let n:=m.trans<|rn (l:=43) e;let g:=ip (l:=63) f;let q:=n.trans<|rn (l:=63) f;let r:=ip (l:=123) g;let s:=q.trans<|rn (l:=123) g;let j:=Ld r;rw[mb];split;exact⟨(yy e).1,m.trans (yy e).2⟩;split;exact⟨(yy f).1,n.trans (yy f).2⟩;split;exact⟨(yy g).1,q.trans (yy g).2⟩;split;exact⟨(yy j.1).1,(s.trans j.2.le).trans (yy j.1).2⟩;simp_all
def N3{b:X v}{d:ar->aO×ar}(i:qY b g d){c:ar}(k:c.ok b)(j:Q b-c.w<g+1):(nz d b c).2.ok b/\c.mr (nz d b c).2:=by let⟨e,f⟩:=Hc i k j;exact⟨(yy e).1,f.trans (yy e).2⟩
def NV{c:X v}{j:Z}{d:ar->aO×ar}(i:qY c j d):∀{A:Z}{L:X aO}{b:ar},b.ok c->Q c-b.w<j+1->(km d c A L b).2.ok c/\b.mq (km d c A L b).2/\Q (km d c A L b).1<=Q L+A
|0,L,b,e,_=>⟨e,.refl b,bz _⟩|A+1,L,b,e,s=>by
 rw[km];split;rename_i q;obtain⟨g,f⟩:=N3 i e s;by_cases l:(nz d c b).2.no=0;let u:=kx (f.2 q.1.1.1) o;obtain⟨m,n,t⟩:=NV i g o;exact⟨m,f.le.trans n,oU⟩;let k:km d c A (L++[(nz d c b).1]) (nz d c b).2=(L++[(nz d c b).1],(nz d c b).2):=by cases A with|zero=>rfl|succ A=>rw[km,ab λr=>l r.1.1.1]
 rw[k];exact⟨g,f.le,av⟩;exact⟨e,.refl b,av⟩
def BN{b:X v}{d:ar->aO×ar}(e:qY b g d){c:ar}(i:c.ok b)(f:Q b-c.w<g+1):(j7 d b c).2.ok b/\c.mq (j7 d b c).2:=⟨(NV e i f).1,(NV e i f).2.1⟩
def Qs{c:X v}{j:Z}{e:ar->aO×ar}(i:qY c j e):∀{A:Z}{L:X aO}{b:ar},b.ok c->(b.no=0->Q c-b.w<j+1)->(jW e c A L b).2.ok c/\b.mq (jW e c A L b).2
|0,L,b,d,_=>⟨d,.refl b⟩|A+1,L,b,d,u=>by
 rw[jW];split;rename_i f;let r:=uG d f;let t:(aF c b 124).w=b.w+1:=by unfold aF;rw[ae f];rfl
 obtain⟨k,g⟩:=BN i (ip (l:=124) d) o;obtain⟨m,n⟩:=Qs i k (λs=>by rcases g.2 (by unfold aF;rw[ae f];exact r.2.1) with q|q;omega;omega);exact⟨m,((rn d).trans g).trans n⟩;grind[ip,rn]
def xG{S:X v}:∀b,qY S b (eB S b)
|0,g,_,d=>b9 d (vY _)|b+1,g,m,d=>by let f:=xG (S:=S) b;obtain⟨i,c⟩:=BN f m d;obtain⟨j,k⟩:=Qs f i (λn=>by by_cases e:g.no=0;rcases c.2 e with l|l;omega;omega;rw[c.1 e];omega);exact⟨j,c.trans k⟩
def GZ(b:X v)(e:Z):Prop:=∀d:ar,d.ok b->Q b-d.w<e->dF 138 [c 6000] [(6000,ag 211<|dr b d)] (vg (eB b e d).1) [(6000,ag 211<|dr b (eB b e d).2)]
def Pq(b:X (Z×V))(d:bU):aI:=⟨(0,c 6000)::(2,c 2)::(3,c 3)::b,(3,ag 237<|b2 cL)::d,[]⟩
def alO(b:X v)(j:Z)(I:GZ b j)(d:ar)(A:d.ok b)(R:Q b-d.w<j+1):dF 299 [c 6000] [(6000,ag 211 (dr b d))] (vg (jb (eB b j) b d).1) [(6000,ag 211 (dr b (jb (eB b j) b d).2))]:=by
 refine dN func299 [2004,2008,2010,2012,2013] λT J K=>?_;let S:=A.2;let B:=ip (l:=40) A;let D:=ip (l:=91) B;let E:=ip (l:=46) D;let C:=ip (l:=92) E;let he:=wA C;let H:=BQ (Ju:=sr) C;refine mC (b2 cL) ?_ (fj:=a3);refine gf kc (λx=>Pq [(14,a6<|fw b d 40)] [(2,ag 164<|V.zero mz.z),(6000,ag 211<|dr b<|aF b d 40)]) (λ_=>dW) ?_ λx fj=>?_
 .refine bI [(6000,6000)] ?_ (f:=sA b d 40 A);exact cA ()
 apply e<;>intro y
 .let L:=(uG A y).1;let M:(aF b d 40).w=d.w+1:=by unfold aF;rw[ae y];rfl
  let g:=I (aF b d 40) B o;let G:=(xG j (aF b d 40) B o).1;let⟨q,u,m,n,t,i⟩:=C0 (eB b j<|aF b d 40).1;rw[show jb (eB b j) b d=(.mk q u m n t,hx b (eB b j (aF b d 40)).2 41) by rw[jb,ae y,i]];rw[i] at g;refine bI [(6000,6000)] ?_ (f:=g);refine bI [(6000,6000)] ?_ (f:=Ub b _ 41 G);exact jd bq
 refine gf kc (λx=>Pq [(22,a6<|fw b (aF b d 40) 91)] [(2,ag 164<|V.zero mz.z),(6000,ag 211<|dr b<|aF b (aF b d 40) 91)]) (λ_=>dW) ?_ λx fj=>?_
 .refine bI [(6000,6000)] ?_ (f:=sA b _ 91 B);exact cA ()
 apply e<;>intro F
 .let⟨q,u,m,n,t,i⟩:=C0 (p5 b<|aF b (aF b d 40) 91).1;let g:=ayG b (aF b (aF b d 40) 91) D;rw[i] at g;rw[show jb (eB b j) b d=(.mk q u m n t,(p5 b (aF b (aF b d 40) 91)).2) by rw[jb,ab y,ae F,<-i]];refine bI [(6000,6000)] ?_ (f:=g);exact jd bq
 refine gf kc (λx=>Pq [(27,a6<|fw b (aF b (aF b d 40) 91) 46)] [(2,ag 164<|V.zero mz.z),(6000,ag 211<|dr b<|aF b (aF b (aF b d 40) 91) 46)]) (λ_=>dW) ?_ λx fj=>?_
 .refine bI [(6000,6000)] ?_ (f:=sA b _ 46 D);exact cA ()
 apply e<;>intro N
 .let⟨q,u,m,n,t,i⟩:=C0<|kh cL.others;let g:=He cL.others<|bC (a1.zU _) gO;rw[i] at g;rw[show jb (eB b j) b d=(.mk q u m n t,aF b (aF b (aF b d 40) 91) 46) by simp_all[jb,ab,ae]];refine ho ?_ (a7:=iJ gO);refine aS ?_ (f:=Ux cL gO);refine aS ?_ (f:=g);exact jd bq
 refine gf kc (λx=>Pq [(33,a6<|fw b (aF b (aF b (aF b d 40) 91) 46) 92)] [(2,ag 164<|V.zero mz.z),(6000,ag 211<|dr b<|aF b (aF b (aF b (aF b d 40) 91) 46) 92)]) (λ_=>dW) ?_ λx fj=>?_
 .refine bI [(6000,6000)] ?_ (f:=sA b _ 92 E);exact cA ()
 apply e<;>intro O
 .refine gf kc (λx=>⟨[(2,c 2),(3,c 3),(5,k (eL b<|aF b (aF b (aF b (aF b d 40) 91) 46) 92).c),(6,c 6),(7,a6 (eL b<|aF b (aF b (aF b (aF b d 40) 91) 46) 92).many)],[(2,ag 164<|V.zero mz.z),(3,ag 237<|b2 cL),(6,ag 237<|b2 (eL b<|aF b (aF b (aF b (aF b d 40) 91) 46) 92).s),(6000,ag 211<|dr b (eL b<|aF b (aF b (aF b (aF b d 40) 91) 46) 92).r)],[]⟩) (λ_=>dW) ?_ λx fj=>?_
  .refine bI [(6000,6000)] ?_ (f:=RT b _ C);refine mC (b2 cL) ?_ (fj:=a3);refine lh (b2 (eL b<|aF b (aF b (aF b (aF b d 40) 91) 46) 92).s) ?_ (h1:=bC (ht) he.2.2) (fN:=jE);exact cA ()
  apply e<;>intro P
  .let⟨q,u,m,n,t,i⟩:=C0<|kh (eL b<|aF b (aF b (aF b (aF b d 40) 91) 46) 92).s;let g:=He (eL b<|aF b (aF b (aF b (aF b d 40) 91) 46) 92).s he.2.2;rw[i] at g;rw[show jb (eB b j) b d=(.mk q u m n t,(eL b (aF b (aF b (aF b (aF b d 40) 91) 46) 92)).r) by simp_all[jb,ab,ae]];refine ho ?_ (a7:=iJ he.2.2);refine aS ?_ (f:=g);exact jd bq
  let⟨q,u,m,n,t,i⟩:=C0<|kh<|cL.add (eL b<|aF b (aF b (aF b (aF b d 40) 91) 46) 92).c (eL b<|aF b (aF b (aF b (aF b d 40) 91) 46) 92).c;let g:=He (cL.add (eL b<|aF b (aF b (aF b (aF b d 40) 91) 46) 92).c (eL b<|aF b (aF b (aF b (aF b d 40) 91) 46) 92).c)<|bC (a1.xF ..) gO;rw[i] at g;rw[show jb (eB b j) b d=(.mk q u m n t,(eL b (aF b (aF b (aF b (aF b d 40) 91) 46) 92)).r) by simp_all[jb,ab,ae]];refine bI [(6000,3)] ?_ (f:=u_ cL _ _ gO he.2.1);refine ho ?_ (a7:=iJ<|bC (a1.xF ..) gO);refine aS ?_ (f:=g);exact jd bq
 let⟨q,u,m,n,t,i⟩:=C0<|kh<|cL.add (jt b (aF b (aF b (aF b (aF b d 40) 91) 46) 92) sr).1 (jt b (aF b (aF b (aF b (aF b d 40) 91) 46) 92) sr).1;let g:=He (cL.add (jt b (aF b (aF b (aF b (aF b d 40) 91) 46) 92) sr).1 (jt b (aF b (aF b (aF b (aF b d 40) 91) 46) 92) sr).1)<|bC (a1.xF ..) gO;rw[i] at g;rw[show jb (eB b j) b d=(.mk q u m n t,(jt b (aF b (aF b (aF b (aF b d 40) 91) 46) 92) sr).2) by simp_all[jb,ab]];refine bI [(6000,6000)] ?_ (f:=UK b _ sr C);refine bI [(6000,3)] ?_ (f:=u_ cL _ _ gO H.2);refine ho ?_ (a7:=iJ<|bC (a1.xF ..) gO);refine aS ?_ (f:=g);exact jd bq
def agQ{c:X v}{d:aO}{b:ar}(f:¬fw c b 42)(i:¬fw c b 43)(j:¬fw c b 63)(e:¬fw c b 123):mb c g d b=(d,b):=by cases g with|zero=>rfl|succ g=>rw[mb,j9 f,j9 i,j9 j,ab f,ab i,ab j,ab e,j9 e]
structure W3(S:X v)(pj:ar)(k:Z):Prop where
 ok:pj.ok S
 k:pj.no=0->Q S<pj.w+k
def av1(S:X v)(q:Z)(au:GZ S q)(r:ar)(G:r.ok S)(M:Q S-r.w<q+1):dF 263 [c 6000] [(6000,ag 211 (dr S r))] (c0 (nz (eB S q) S r).1) [(6000,ag 211 (dr S (nz (eB S q) S r).2))]:=by
 refine dN func263 [2002] λaL aG aI=>?_;have ao:=G.2;have aJ:=G.1;have J:=Hc (xG (S:=S) q) G M;have N:=alO S q au r G M;rw[xU] at N;refine bI [(6000,6000)] ?_ (f:=N);generalize E:nz (eB S q) S r=R;unfold nz at E;generalize jb (eB S q) S r=aE at J E⊢;obtain⟨⟨aw,az,fG,ak,ax⟩,T⟩:=aE;dsimp only at J E⊢;refine dv (aO×ar×Z×Y) (λg=>⟨[(0,c 6000),(2,c 2),(3,c 3)],[(2,ag 164<|V.zero mz.z),(3,ag 164<|bH [an aj g.1.bL,R3 g.2.2.2 .ba<|.a 2<|g.1.set.map hP,an aj g.1.min,an aj g.1.max,.a 5<|hN g.1.aD]),(6000,ag 211<|dr S g.2.1)],[]⟩) (λg=>W3 S g.2.1 g.2.2.1/\mb S g.2.2.1 g.1 g.2.1=R/\(g.2.2.2=af->g.1.set=[])) (λg=>g.2.2.1) (.mk aw az fG ak ax,T,Q S+2,ad) (λ⟨⟨x,A,t,u,y⟩,b,d,eh⟩ ⟨⟨m,I⟩,C,P⟩=>?_) ⟨⟨J.1,λK=>by show Q S<T.w+(Q S+2);omega⟩,E,λB=>by cases B⟩;dsimp only[aO.bL,aO.set,aO.min,aO.max,aO.aD] at m I C P⊢;have aK:=m.1;have j:∀{l:v},fw S b l->d=d-1+1/\W3 S (aF S b l) (d-1)/\2<=d:=λ{l} B=>by
  have D:=uG m B;have al:=I D.2.1;have H:aF S b l=b.step:=by unfold aF;rw[ae B]
  rw[H];exact⟨o,⟨⟨D.1,ao⟩,λ_=>by show Q S<b.w+1+(d-1);omega⟩,o⟩
 refine aZ.Z1 (λU=>⟨[(0,c 6000),(2,c 2),(3,c 3)],[(2,ag 164<|V.zero mz.z),(3,ag 164<|bH [an aj x,U,an aj t,an aj u,.a 5<|hN y]),(6000,ag 211<|dr S b)],[]⟩) 2 3 [1] (aa hP A) eh p (λB=>by rw[P B];rfl) ?_;refine dM ?_;refine bI [(6000,6000)] ?_ (f:=sA S b 42 m);apply e<;>intro i
 .refine er ?_;exact a0 (.mk 6 [] 0 (-1) [.mk x A t u y],aF S b 42,d-1,af) ⟨(j i).2.1,by rw[<-C,(j i).1,mb,ae i];rfl,λ_=>p⟩ (by have:=(j i).2.2;show d-1<d;omega)
 rw[j9 i];refine bI [(6000,6000)] ?_ (f:=sA S b 43 m);apply e<;>intro k
 .refine er ?_;exact a0 (.mk 6 [] 1 (-1) [.mk x A t u y],aF S b 43,d-1,af) ⟨(j k).2.1,by rw[<-C,(j k).1,mb,j9 i,ab i,ae k];rfl,λ_=>p⟩ (by have:=(j k).2.2;show d-1<d;omega)
 rw[j9 k];refine bI [(6000,6000)] ?_ (f:=sA S b 63 m);apply e<;>intro n
 .refine er ?_;exact a0 (.mk 6 [] 0 1 [.mk x A t u y],aF S b 63,d-1,af) ⟨(j n).2.1,by rw[<-C,(j n).1,mb,j9 i,j9 k,ab i,ab k,ae n];rfl,λ_=>p⟩ (by have:=(j n).2.2;show d-1<d;omega)
 rw[j9 n];refine bI [(6000,6000)] ?_ (f:=sA S b 123 m);apply e<;>intro s
 .have O:=ip (l:=123) m;have L:=Ld O;refine bI [(6000,6000)] ?_ (f:=aml S (aF S b 123) O);have F:(k4 S (aF S b 123)).2.2.ok S/\((k4 S (aF S b 123)).2.2.no=0->Q S<(k4 S (aF S b 123)).2.2.w+(d-1)):=⟨L.1,λK=>by
   have D:=uG m s;have al:=I D.2.1;have H:(aF S b 123).w=b.w+1/\(aF S b 123).no=0:=by unfold aF;rw[ae s];exact⟨p,D.2.1⟩
   have aH:=kx (L.2.2 H.2) λl=>l K;omega⟩
  generalize ap:k4 S (aF S b 123)=aC at F⊢;obtain⟨aB,aA,ay⟩:=aC;dsimp only at F⊢;refine er ?_;exact a0 (.mk 6 [] (aB:Z) aA [.mk x A t u y],ay,d-1,af) ⟨⟨F.1,F.2⟩,by rw[<-C,(j s).1,mb,j9 i,j9 k,j9 n,ab i,ab k,ab n,ae s,ap];rfl,λ_=>p⟩ (by have:=(j s).2.2;show d-1<d;omega)
 rw[j9 s];have am:R=(.mk x A t u y,b):=by rw[<-C,agQ i k n s]
 rw[am];exact jd bq
def UF{e:ar->aO×ar}{d:X v}{c:X aO}{b:ar}(f:¬yo d b):km e d g c b=(c,b):=by cases g with|zero=>rfl|succ g=>rw[km,ab f]
def ZH(c:X aO)(b:aO):hN c++[c0 b]=hN (c++[b]):=by simp[CV,dn,xU]
def afN(S:X v)(d:Z)(K:GZ S d)(g:ar)(t:g.ok S)(Y:Q S-g.w<d+1):dF 191 [c 6000] [(6000,ag 211 (dr S g))] (c0 (j7 (eB S d) S g).1) [(6000,ag 211 (dr S (j7 (eB S d) S g).2))]:=by
 refine dN func191 [] λal N O=>?_;have ak:=t.2;have P:=t.1;generalize I:km (eB S d) S (Q S+1) [] g=L;refine aZ.eQ 3 5 164 [3] ah ?_;refine dv (X aO×ar×Z) (λb=>⟨[(0,c 6000),(2,c 2),(3,.aq 3 0<|Q<|hN b.1)],[(2,ag 164<|V.zero mz.z),(3,.h 5 164<|hN b.1),(6000,ag 211<|dr S b.2.1)],[]⟩) (λb=>b.2.1.ok S/\g.mq b.2.1/\km (eB S d) S b.2.2 b.1 b.2.1=L/\(b.2.1.no=0->Q S<b.2.1.w+b.2.2)/\Q b.1+b.2.2<=Q S+1) (λb=>b.2.2) ([],g,Q S+1) (λ⟨k,i,l⟩ ⟨n,q,C,E,G⟩=>?_) ⟨t,.refl g,I,λ_=>a2,av⟩;dsimp only at n q C E G⊢;refine eg ?_;refine fk ?_;apply c9;intro R;refine kz ?_ (f:=w2 S i n);exact p;apply c9;intro T;refine kz ?_ (f:=w2 S i n);exact p;apply e<;>intro y
 .have B:yo S i:=by have:=y;exact⟨⟨⟨this.1.1.1,o⟩,o⟩,o⟩
  have J:=B.1.1.1;have U:g.w<=i.w:=by rcases yL (g.no=0) with j|j;rcases q.2 j with r|r<;>simp_all;rw[q.1 j]<;>simp_all
  have m:=N3 (xG (S:=S) d) n o;have x:km (eB S d) S l k i=km (eB S d) S (l-1) (k++[(nz (eB S d) S i).1]) (nz (eB S d) S i).2:=by obtain⟨D,rfl⟩:∃D,l=D+1:=⟨l-1,o⟩;rw[km,ae B];rfl
  refine bI [(6000,6000)] ?_ (f:=av1 S d K i n o);generalize nz (eB S d) S i=M at m x⊢;let⟨s,u⟩:=M;dsimp only at m x⊢;have F:u.no=0->Q S<u.w+(l-1):=λj=>by have:=kx (m.2.2 J) λr=>r j;omega
  refine er ?_;refine e7 (hN<|k++[s]) ?_ (aW:=ZH k s) (bQ:=PZ);exact a0 (k++[s],u,l-1) ⟨m.1,q.trans m.2.le,ap,F,a2⟩ a2
 have H:¬yo S i:=λj=>y (by simp[gL];exact⟨⟨⟨j.1.1.1,by have:=j.1.1.2;omega⟩,by have:=j.1.2;omega⟩,by have:=j.2;omega⟩);rw[UF H] at C;have A:=ahC 4 k o;rw[xU] at A;rw[show j7 (eB S d) S g=(pm 4 k,i) by grind[j7]];refine BI 3 ?_;refine aS ?_ (f:=A);exact jd bq
def alv(S:X v)(b:Z)(H:GZ S b)(i:ar)(y:i.ok S)(E:Q S-i.w<b+1):dF 138 [c 6000] [(6000,ag 211 (dr S i))] (c0 (eB S (b+1) i).1) [(6000,ag 211 (dr S (eB S (b+1) i).2))]:=by
 refine dN func138 [] λaz ao au=>?_;have ax:=y.2;have x:=BN (xG (S:=S) b) y E;generalize u:eB S (b+1) i=N;rw[eB] at u;refine bI [(6000,6000)] ?_ (f:=afN S b H i y E);generalize j7 (eB S b) S i=B at x u⊢;let⟨⟨J,M,fG,C,K⟩,L⟩:=B;generalize U:jW (eB S b) S (Q S+2) [.mk J M fG C K] L=am at u;refine pW ?_;refine dv (X aO×ar×Z) (λd=>⟨[(0,c 6000),(2,c 2),(3,.aq 6 0<|Q<|hN d.1)],[(2,ag 164<|V.zero mz.z),(6,.h 5 164<|hN d.1),(6000,ag 211<|dr S d.2.1)],[]⟩) (λd=>d.2.1.ok S/\i.mq d.2.1/\jW (eB S b) S d.2.2 d.1 d.2.1=am/\(d.2.1.no=0->Q S<d.2.1.w+d.2.2)/\Q d.1+d.2.2<=Q S+3) (λd=>d.2.2) ([.mk J M fG C K],L,Q S+2) (λ⟨k,g,j⟩ ⟨r,s,al,P,T⟩=>?_) ⟨x.1,x.2,U,λ_=>a2,a2⟩;dsimp only at r s al P T⊢;refine bI [(6000,6000)] ?_ (f:=sA S g 124 r);apply e<;>intro m
 .have O:=uG r m;have Y:=O.2.1;have G:=ip (l:=124) r;have ak:(aF S g 124).w=g.w+1/\(aF S g 124).no=0:=by unfold aF;rw[ae m];exact⟨p,Y⟩
  have aw:i.w<=g.w:=by rcases yL (i.no=0) with n|n;rcases s.2 n with l|l<;>simp_all;rw[s.1 n]<;>simp_all
  have q:=BN (xG (S:=S) b) G o;have D:jW (eB S b) S j k g=jW (eB S b) S (j-1) (k++[(j7 (eB S b) S (aF S g 124)).1]) (j7 (eB S b) S (aF S g 124)).2:=by obtain⟨I,rfl⟩:∃I,j=I+1:=⟨j-1,o⟩;rw[jW,ae m];rfl
  refine bI [(6000,6000)] ?_ (f:=afN S b H (aF S g 124) G o);generalize j7 (eB S b) S (aF S g 124)=B at q D⊢;let⟨t,A⟩:=B;dsimp only at q D⊢;have R:A.no=0->Q S<A.w+(j-1):=λn=>by have:=kx (q.2.2 ak.2) λl=>l n;omega
  refine er ?_;refine e7 (hN<|k++[t]) ?_ (aW:=ZH k t) (bQ:=PZ);exact a0 (k++[t],A,j-1) ⟨q.1,(s.trans<|rn r).trans q.2,ap,R,a2⟩ a2
 rw[j9 m];have ay:jW (eB S b) S j k g=(k,g):=by cases j with|zero=>rfl|succ j=>rw[jW,ab m,j9 m]
 have F:=ahC 5 k o;rw[xU] at F;rw[show N=(pm 5 k,g) by grind];refine BI 6 ?_;refine aS ?_ (f:=F);exact jd bq
def XA(c:X v):∀b,GZ c b|0=>λd _ e=>b9 e o|b+1=>λd g f=>by rw[xU];exact alv c b (XA c b) d g f
def yI:aO:=.mk 0 [] 0 0 []
def uz(b:aO)(c:ar):aO×J×J:=if c.no≠0 then(yI,c.bad,c.no) else if 40<b.fC\/400<b.parts then(yI,0,3) else(b,0,0)
def h5(b:X v):aO×J×J:=if 2000<Q b then(yI,0,3)
 else uz (eJ b (Q b+1) ⟨0,0,0⟩).1 (if(eJ b (Q b+1) ⟨0,0,0⟩).2.no=0/\(eJ b (Q b+1) ⟨0,0,0⟩).2.w<Q b then cv (eJ b (Q b+1) ⟨0,0,0⟩).2 (eJ b (Q b+1) ⟨0,0,0⟩).2.w 6 else(eJ b (Q b+1) ⟨0,0,0⟩).2)
def aw3(S:X v)(K:Q S<=1048576)(G:Q S<=2000->(eJ S (Q S+1) ⟨0,0,0⟩).2.no=0->e_ (eJ S (Q S+1) ⟨0,0,0⟩).1/\(eJ S (Q S+1) ⟨0,0,0⟩).1.parts<=1000000):bb 109 [bV S] (cs [c0 (h5 S).1,an aj (h5 S).2.1,an aj (h5 S).2.2]):=by
 refine bx func109 [30] λH I=>?_;apply e<;>intro J
 .rw[show h5 S=(yI,0,3) by rw[h5,ae o]];exact hQ 2 2 [1] (hQ 5 2 [4] (dB bq))
 have B:Q S<=2000:=o;have r:(⟨0,0,0⟩:ar).ok S:=⟨dO _,B⟩;have E:=XD S (Q S+1) o ⟨0,0,0⟩ r p (by show Q S-0<Q S+1;omega);have s:=CF (S:=S) (Q S+1) ⟨0,0,0⟩ r p (by show Q S-0<Q S+1;omega);have t:=G B;generalize i:h5 S=rd;rw[h5,ab o] at i;refine bI [(6000,14)] ?_ (f:=E);generalize eJ S (Q S+1) ⟨0,0,0⟩=x at s t i⊢;let⟨⟨k,m,fG,d,l⟩,b⟩:=x;have F:=s.j;dsimp only at s t i F⊢;refine gf kc (λx=>⟨[(2,c 2),(5,c 14),(6,c 6)],[(2,ag 164<|V.zero mz.z),(6,ag 164<|c0<|.mk k m fG d l),(14,ag 255<|dr S<|if b.no=0/\b.w<Q S then cv b b.w 6 else b)],[]⟩) (λ_=>dW) ?_ λx L=>?_
 .refine fk ?_;apply e<;>intro y
  .refine bI [(6000,14)] ?_ (f:=su S b b.w 6);rw[ae (by first|omega|(simp[gL] at y;omega))];exact cA ()
  rw[ab (by first|omega|(simp[gL] at y;omega))];exact cA ()
 have C:(if b.no=0/\b.w<Q S then cv b b.w 6 else b).no=0->b.no=0:=λg=>by split at g;exact b9 g<|iT aR;exact g
 generalize (if b.no=0/\b.w<Q S then cv b b.w 6 else b)=u at C i⊢;apply e<;>intro q
 .rw[show rd=(yI,u.bad,u.no) by rw[<-i,uz,ae q]];refine eS ?_;refine fx ?_;refine fZ ?_;exact hQ 2 2 [1] (hQ 5 2 [4] (dB bq))
 have r:u.no=0:=by simpa using q
 have D:=t<|C r;refine aS ?_ (f:=agq (.mk k m fG d l) D.1 D.2);apply e<;>intro A
 .have n:40<(aO.mk k m fG d l).fC\/400<(aO.mk k m fG d l).parts:=oP λg=>A<|ab g;rw[ae n];rw[show rd=(yI,0,3) by rw[<-i,uz,ab q,ae n]];exact hQ 2 2 [1] (hQ 5 2 [4] (dB bq))
 have n:¬(40<(aO.mk k m fG d l).fC\/400<(aO.mk k m fG d l).parts):=λg=>A (by rw[ae g];decide);rw[show rd=(.mk k m fG d l,0,0) by rw[<-i,uz,ab q,ab n]];exact dB bq
def anw(b:aO)(l:pi b):bb 264 [c0 b] (an aj 0):=by
 refine bx func264 [] λr s=>?_;let⟨⟨C,F⟩,n,G,H,I,J,K,q,m,D,E⟩:=l;let A:¬b.bL=3->Q b.set=0:=λd=>by rw[q d];rfl
 let B:b.bL=3->0<Q b.set:=λd=>Ca.2<|m d;let z:b.bL<4->Q b.aD=0:=λd=>by rw[n d];rfl
 let y:=iS b.aD;apply e<;>intro j
 all_goals
  apply e<;>intro j
  .apply ev;intro f;refine fk ?_;exact p;apply ev;intro g;apply c9;intro i;refine eA ?_;exact p;exact p;apply e<;>intro c
   .exfalso;first|omega|(simp[gL] at c;omega)
   first|(exfalso;omega)|(exact aA)
  apply e<;>intro t
  .apply e<;>intro u
   .exfalso;omega
   apply ev;intro f;refine fk ?_;exact p;apply ev;intro g;apply c9;intro i;refine eA ?_;exact p;exact p;apply e<;>intro c
   .exfalso;first|omega|(simp[gL] at c;omega)
   first|(exfalso;omega)|(exact aA)
  apply e<;>intro k
  all_goals
   apply e<;>intro k
   .apply e<;>intro v
    .exfalso;omega
    apply ev;intro f;refine fk ?_;exact p;apply ev;intro g;apply c9;intro i;refine eA ?_;exact p;exact p;apply e<;>intro c
    .exfalso;first|omega|(simp[gL] at c;omega)
    first|(exfalso;omega)|(exact aA)
   apply e<;>intro w
   .apply e<;>intro x
    .exfalso;omega
    apply ev;intro f;refine fk ?_;exact p;apply ev;intro g;apply c9;intro i;refine eA ?_;exact p;exact p;apply e<;>intro c
    .exfalso;first|omega|(simp[gL] at c;omega)
    first|(exfalso;omega)|(exact aA)
   first|(exfalso;omega)|(exact aA)
def anx(d:aO)(l:pi d):bb 196 [c0 d] (an aj 0):=by
 refine bx func196 [] λt u=>?_;let i:=λ(b:Z) (j:b<Q d.set)=>afb l j;refine aS ?_ (f:=anw d l);apply e<;>intro v
 .exfalso;omega
 let⟨⟨F,K⟩,L,M,N,O,P,s,R,G,H,I⟩:=l;refine eC (Q d.set) (λb=>⟨[(1,c 1),(13,_),(14,_),(15,k b)],[(1,_)],[]⟩) (λb j=>?_) .r;apply e<;>intro w
 .let g:b<Q d.set:=o;let q:=i b g;refine bi b (hP<|z d.set b ai) ?_ (j:=z4 g);refine eA ?_;refine eA ?_;apply e<;>intro m
  .exfalso;first|omega|(simp[gL] at m;omega)
  refine bc ?_;exact a0 (b+1) (cq:=.r)
 apply c9;intro A;refine eA ?_;apply ev;intro B;apply c9;intro C;refine eA ?_;exact p;exact p;exact p;apply e<;>intro n
 .exfalso;first|omega|(simp[gL] at n;omega)
 refine dv Z (λb=>⟨[(1,c 1),(6,k b)],[(1,_)],[]⟩) (λb=>1<=b) (λb=>1000-b) 1 (λb j=>?_) (bz 1) .r;apply e<;>intro x
 .let g:b<Q d.set:=o;let q:=i b g;let E:=i (b-1) o;let D:=s b o g;refine eg ?_;refine gx b (hP<|z d.set b ai) ?_ (j:=z4 g);refine jg ((b-1:Z):J) ?_;refine gx (b-1) (hP<|z d.set (b-1) ai) ?_ (j:=z4 o);refine bc ?_;apply e<;>intro y
  .exfalso;omega
  refine bc ?_;exact a0 (b+1) (cq:=.r)
 exact aA
def anA{d:aO}(l:pi d)(b:Z){i:Z}(q:b<=1000000000):dF 195 [c0 d,k g,c 6000,c 6001,c 6002] [(6000,ag 3 (k b)),(6001,ag 3 (k i)),(6002,ag 31 (an aj 0))] (cs []) [(6000,ag 3 (an aj ((b+1:Z):J))),(6001,ag 3 (an aj ((max i g:Z):J))),(6002,ag 31 (an aj 0))]:=by
 refine dN func195 [] λr m n=>?_;refine e6 ((b+1:Z):J) ?_;refine ID ((max i g:Z):J) ?_;apply e<;>intro j
 .refine aS ?_ (f:=anx d l);exact cE
 exact b9 p j
def awu{b:X aO}(d:g<Q b):fE (ak (g+1) b)=fE (ak g b)+(z b g ai).parts:=by
 induction b generalizing g
 trivial
 next c b e=>
  cases g;simp[fE,xk]
  next g=>grind[fE,ai]
def awr c b:fE (ak b c)<=fE c:=by
 induction c generalizing b
 simp
 next d c e=>
  cases b;simp[xk,fE,dO]
  next b=>grind[fE]
def W_(b:aO):Prop:=e_ b->∀d e f:Z,e+b.parts<=1000000000->d+b.parts<=1000000000->dF 194 [c0 b,k d,e4 (dp 195) [] [c 6000,c 6001,c 6002]] [(6000,ag 3<|k e),(6001,ag 3<|k f),(6002,ag 31<|an aj 0)]
 (cs []) [(6000,ag 3<|an aj ((e+b.parts:Z):J)),(6001,ag 3<|an aj ((max f (d+m2 b.aD):Z):J)),(6002,ag 31<|an aj 0)]
def aAI{b:aO}(u:∀v∈b.aD,W_ v)(q:e_ b){i l:Z}(B:i+b.parts<=1000000000)(A:g+b.parts<=1000000000):dF 194 [c0 b,k g,e4 (dp 195) [] [c 6000,c 6001,c 6002]] [(6000,ag 3 (k i)),(6001,ag 3 (k l)),(6002,ag 31 (an aj 0))] (cs []) [(6000,ag 3 (an aj ((i+b.parts:Z)))),(6001,ag 3 (an aj ((max l (g+m2 b.aD):Z)))),(6002,ag 31 (an aj 0))]:=by
 refine dN func194 [] λF w x=>?_;let⟨t,r⟩:=p0.1 q;let E:=b.parts_eq;let y:=Tg b;refine bI [(6000,6000),(6001,6001),(6002,6002)] ?_ (f:=anA t i o);rw[show max l g=max (max l g) (g+m2 (ak 0 b.aD)) by simp[xk,m2],show i+1=i+1+fE (ak 0 b.aD) by rfl];refine eC (Q b.aD) (λd=>⟨[(1,k g),(2,e4 (dp 195) [] [c 6000,c 6001,c 6002]),(13,.a 5<|hN b.aD),(14,k<|Q<|hN b.aD),(15,k d)],[(6000,ag 3<|an aj<|(i+1+fE (ak d b.aD):Z)),(6001,ag 3<|an aj<|(max (max l g) (g+m2 (ak d b.aD)):Z)),(6002,ag 31<|an aj 0)],[]⟩) λd j=>?_;apply e<;>intro n
 .let m:d<Q b.aD:=by rw[iS] at n;omega
  let C:=awu m;let D:=awr b.aD<|d+1;let s:=adC m;refine bi d (c0<|z b.aD d ai) ?_ (j:=l5 m);refine e6 ((g+1:Z))<|bI [(6000,6000),(6001,6001),(6002,6002)] ?_ (f:=u (z b.aD d ai) (cT m) (r _<|cT m) (g+1) (i+1+fE (ak d b.aD)) (max (max l g)<|g+m2 (ak d b.aD)) o o);rw[show i+1+fE (ak d b.aD)+(z b.aD d ai).parts=i+1+fE (ak (d+1) b.aD) by omega,show max (max (max l g) (g+m2 (ak d b.aD))) (g+1+m2 (z b.aD d ai).aD)=max (max l g) (g+m2 (ak (d+1) b.aD)) by rw[s,(z b.aD d ai).vt];omega];exact bc<|a0<|d+1
 rw[iS] at n;obtain rfl:d=Q b.aD:=o;rw[g5,show max (max l g) (g+m2 b.aD)=max l (g+m2 b.aD) by omega,show i+1+fE b.aD=i+b.parts by omega];exact cE
def aAH:∀b,W_ b:=aO.ind λb e he g i f d c=>aAI e he d c
def YA b(q:e_ b)(j:b.parts<=1000000):bb 140 [c0 b] (an aj (if 40<b.fC\/400<b.parts then 3 else 0)):=by
 refine bx func140 [] λc d=>?_;let i:=b.vt;refine bI [(6000,3),(6001,4),(6002,5)] ?_ (f:=aAH b q 1 0 0 o o);refine eA ?_;apply e<;>intro g
 .exact aA (q:=by rw[ae];rfl;omega)
 exact aA (q:=by rw[ab];rfl;omega)
def yt(b:X v):aO×J×J:=if 2000<Q b then(yI,0,3)
 else uz (eB b (Q b+1) ⟨0,0,0⟩).1 (if(eB b (Q b+1) ⟨0,0,0⟩).2.w<Q b then cv (eB b (Q b+1) ⟨0,0,0⟩).2 (eB b (Q b+1) ⟨0,0,0⟩).2.w 6 else(eB b (Q b+1) ⟨0,0,0⟩).2)
theorem apJ(S:X v)(I:Q S<=1048576)(D:Q S<=2000->(eB S (Q S+1) ⟨0,0,0⟩).2.no=0->e_ (eB S (Q S+1) ⟨0,0,0⟩).1/\(eB S (Q S+1) ⟨0,0,0⟩).1.parts<=1000000):bb 86 [bV S] (cs [c0 (yt S).1,an aj (yt S).2.1,an aj (yt S).2.2]):=by
 refine bx func86 [22] λE F=>?_;apply e<;>intro H
 .rw[show yt S=(yI,0,3) by rw[yt,ae o]];exact hQ 2 2 [1] (hQ 5 2 [4] (dB bq))
 have t:Q S<=2000:=o;have k:(⟨0,0,0⟩:ar).ok S:=⟨dO _,t⟩;have x:=XA S (Q S+1) ⟨0,0,0⟩ k o;rw[xU] at x;have u:=xG (S:=S) (Q S+1) ⟨0,0,0⟩ k o;have n:=D t;generalize l:yt S=rd;rw[yt,ab o] at l;refine bI [(6000,13)] ?_ (f:=x);generalize eB S (Q S+1) ⟨0,0,0⟩=r at u n l⊢;let⟨⟨g,j,fG,d,i⟩,b⟩:=r;dsimp only at u n l⊢;refine gf kc (λr=>⟨[(2,c 2),(5,c 13),(6,c 6)],[(2,ag 164<|V.zero mz.z),(6,ag 164<|c0<|.mk g j fG d i),(13,ag 211<|dr S<|if b.w<Q S then cv b b.w 6 else b)],[]⟩) (λ_=>dW) ?_ λr J=>?_
 .apply e<;>intro G
  .refine bI [(6000,13)] ?_ (f:=zs S b b.w 6);rw[ae o];exact cA ()
  rw[ab o];exact cA ()
 have y:(if b.w<Q S then cv b b.w 6 else b).no=0->b.no=0:=λm=>by grind[b9,iT]
 generalize (if b.w<Q S then cv b b.w 6 else b)=q at y l⊢;apply e<;>intro C
 .rw[show rd=(yI,q.bad,q.no) by simp_all[uz,ae]];refine eS ?_;refine fx ?_;refine fZ ?_;exact hQ 2 2 [1] (hQ 5 2 [4] (dB bq))
 have k:q.no=0:=by simpa using C
 have A:=n<|y k;refine aS ?_ (f:=YA (.mk g j fG d i) A.1 A.2);apply e<;>intro s
 .have B:40<(aO.mk g j fG d i).fC\/400<(aO.mk g j fG d i).parts:=oP λm=>s<|ab m;rw[show rd=(yI,0,3) by simp_all[uz,ab,ae]];exact hQ 2 2 [1] (hQ 5 2 [4] (dB bq))
 have B:¬(40<(aO.mk g j fG d i).fC\/400<(aO.mk g j fG d i).parts):=λm=>s o;rw[show rd=(.mk g j fG d i,0,0) by simp_all[uz,ab]];exact dB bq
section
attribute [local irreducible] hh dY
def aw0(b:aO)(c:e_ b)(i:dG b<=2000):jx (eu b)/\(eu b).aE.length=dG b/\fB (kX b) (eu b).aE.length/\nf (eu b):=by
 let⟨d,e,g⟩:=CD b c _ H6 a2;let f:=by simpa using e
 refine⟨d,f,ap,Xr b c _ H6 (λk l j=>?_) a2⟩;trivial
def amf{b:aO}(e:¬2000<dG b)(f:Q (c8 (eu b) (kX b) 3000)<=3000):q8 (iW (jo (s1 (eu b) (kX b) (c8 (eu b) (kX b) 3000))))=i6 b:=by rw[Zb,show nR _ _ _=y_ _ _ from p,QE f];unfold q8 i6;show(if 300<(lC (sh b)).next.length then _ else _)=_;by_cases d:300<(lC (sh b)).next.length;simp_all;rw[ab d,ab λc=>c.elim e λc=>c.elim (λc=>b9 c aY) d];rfl
def O2{d f:Type}(c:d->f)(e:d){b:X d}(i:g<Q b):aa c (ak g b)++[c (z b g e)]=aa c (ak (g+1) b):=by grind[List.take_add_one,List.getElem?_eq_getElem]
def avu{b:aO}(s:e_ b)(aM:b.parts<=400)(bQ:b.fC<=40):bb 87 [c0 b] (cs [fp (i6 b).1,an aj (i6 b).2]):=by
 refine bx func87 [2007,2008,2009,2010,2016,2017,2018,2030,2031] λau ax=>?_;refine aS ?_ (f:=YA b s o);rw[ab o];apply e<;>intro az
 .omega
 refine aS ?_ (f:=afM b s);apply e<;>intro aA
 .have aH:i6 b=(A9,3):=ae<|bl o;rw[aH];exact hQ 1 2 [1,2] (dB bq)
 have D:dG b<=2000:=o;obtain⟨e5,aw,t,x⟩:=aw0 b s D;have g:=auo b;have H:=aqA s;have w:(iy b).dc<=10000000:=by have:=atO b s 2000 o D o yd 0;have fN:yd.dc=1:=p;rw[fN] at this;show(hh b yd 0).1.dc<=_;omega
 have G:(iy b).aC.length<=10000000:=dK ac1 w;have B:(iy b).g7.length=(eu b).aE.length:=by rw[g.ok.fX,g.k]
 have ay:Q ((iy b).g7.map k)=(iy b).g7.length:=bg ..;have A:(iy b).dC.length<=2000:=by rw[g.ok.dC,g.k];exact e5.j
 have F:∀cr,Q ((iy b).aC.getD cr [])<=10000000:=λcr=>by rcases fF cr (iy b).aC.length with d|d;exact dK (adT<|cT d) w;simp_all
 have aN:Q ((iy b).aE.map b2)=(eu b).aE.length:=by rw[bg,g.k]
 have U:=Z3 (eu b)<|kX b;have aK:=g.k;refine aZ.eQ 1700 1 64 [] (W (32,0)) ?_;refine aZ.eQ 1701 1 3 [] (W (32,1)) ?_;refine aZ.eQ 1702 1 3 [] (W (32,2)) ?_;refine aZ.eQ 1703 256 237 [] (W (32,3)) ?_;refine n7 ⟨[(1,c 1),(2,c 2),(5,c 5)],[(1,ag 164<|c0 b),(2,ag 89<|bH [an aj 0,.ba,.ba]),(5,ag 216<|c 32),(32,ag 219<|bH [.aq 1700 0 (Q ([]:X dT)),.aq 1701 0<|Q<|aa c7 BF.dd,.aq 1702 0<|Q<|aa k BF.g7,.aq 1703 0<|Q<|aa b2 BF.aE]),(1700,.h 1 64<|aa gc ([]:X dT)),(1701,.h 1 3<|aa c7 BF.dd),(1702,.h 1 3<|aa k BF.g7),(1703,.h 256 237<|aa b2 BF.aE)],[]⟩ ?_;refine dM ?_;refine ke [(6000,32),(5000,1700),(5001,1701),(5002,1702),(5003,1703)] cQ [] (λL N=>?_) (f:=Bq (kd:=[]) (T:=BF) p aup p) (zC:=DD) (zB:=λ_ _=>DD);refine dM ?_;refine ke [(6000,32),(5000,1700),(5001,1701),(5002,1702),(5003,1703)] cQ [] (λn y=>?_) (f:=amc b s yd L 0 N p GQ w) (zC:=DD) (zB:=λ_ _=>DD);refine n7 ⟨[(1,c 1),(2,c 2),(5,c 5),(6,k 0),(7,k<|zq b)],[(1,ag 164<|c0 b),(2,ag 89<|bH [an aj 0,.ba,.ba]),(5,ag 216<|c 32),(32,ag 219<|bH [.aq 1700 0 (Q n),.aq 1701 0<|Q<|(iy b).dd.map c7,.aq 1702 0<|Q<|(iy b).g7.map k,.aq 1703 0<|Q<|(iy b).aE.map b2]),(1700,.h 1 64<|aa gc n),(1701,.h 1 3<|(iy b).dd.map c7),(1702,.h 1 3<|(iy b).g7.map k),(1703,.h 256 237<|(iy b).aE.map b2)],cQ n⟩ ?_;refine aZ.Mc ZL n 1700 [] DD ?_;refine aZ.A8 1 1700 (aa b6<|ew n) (RN p<|apK n) ?_;have ap:Q ((iy b).aC.map b6)=Q n:=by rw[bg,<-show ew n=(iy b).aC from y];unfold ew;rw[bg]
 rw[show ew n=(iy b).aC from y];refine aZ.x3 1700 (Q n) ap ?_;refine aZ.iK 1701 ?_;refine aZ.iK 1702 ?_;refine aZ.iK 1703 ?_;refine n7 ⟨[(1,c 1),(2,c 2),(5,c 5),(6,k 0),(7,k<|zq b)],[(1,ag 164<|c0 b),(2,ag 89<|bH [an aj 0,.ba,.ba]),(5,ag 216<|c 32),(32,ag 219<|ue<|iy b)],[]⟩ ?_;refine dM ?_;refine aZ.eQ 1710 32 228 [] (W (40,0)) ?_;refine aZ.eQ 1711 1 4 [] (W (40,1)) ?_;refine dM ?_;refine eC (iy b).g7.length (λE=>⟨[(2,c 2),(5,c 5),(6,k 0),(7,k<|zq b),(8,c 40),(44,.a 1<|(iy b).g7.map k),(45,k<|Q<|(iy b).g7.map k),(46,k E)],[(1710,.h 32 228<|aa c3<|(eu b).cp.take E),(1711,.h 1 4<|aa a_<|ak E<|k8 (eu b)<|kX b),(1,ag 164<|c0 b),(2,ag 89<|bH [an aj 0,.ba,.ba]),(5,ag 216<|c 32),(32,ag 219<|ue<|iy b),(40,ag 225<|bH [.aq 1710 0 (Q<|aa c3<|(eu b).cp.take E),.aq 1711 0<|Q<|aa a_<|ak E<|k8 (eu b)<|kX b,.ba])],[]⟩) λE j=>?_;apply e<;>intro aB
 .have q:E<(iy b).g7.length:=o;have am:E<(eu b).cp.length:=by rw[e5.len,<-B];exact q
  have al:E<Q (k8 (eu b) (kX b)):=by rw[U,<-B];exact q
  have Z:z (k8 (eu b) (kX b)) E ad=aL (E∈(kX b).last):=by unfold k8;rw[dm,c4,Aj o];rfl
  have P:z (k8 (eu b) (kX b)) E ad↔ga.Way (lZ (iy b)) ((iy b).g7.getD E 0) (zq b):=by rw[Z,ir];exact g.last E q
  have ao:=e5.j;refine bi E (k<|(iy b).g7.getD E 0) ?_ (j:=eN q);refine bI [(6000,32)] ?_ (f:=agD (iy b) g.ok A G F ((iy b).g7.getD E 0) (zq b) (g.ok.K6 E q) ((eu b).cp.getD E []) (z (k8 (eu b)<|kX b) E ad) (e5.cp E) (g.cp E q) P);refine mC (c3 []) ?_ (fj:=a3);refine lh (c3<|(eu b).cp.getD E []) ?_ (h1:=rg) (fN:=rg);refine eS ?_;refine br (λ_=>ho p (a7:=tY)) ?_;refine br (λ_=>lf p) ?_;refine p7 ?_;refine lS 65 (aa c3<|(eu b).cp.take<|E+1) ?_ (aH:=a3) (hl:=.a p p p p λM v=>by rw[ea.1 v];rfl) (aW:=O2 c3 [] am) (bQ:=a2);refine br (λ_=>lf p) ?_;refine p7 ?_;refine lS 72 (aa a_<|ak (E+1)<|k8 (eu b)<|kX b) ?_ (aW:=O2 a_ ad al) (bQ:=a2);refine p7 ?_;refine fx ?_;refine p7 ?_;refine fx ?_;refine kU [(65,1710),(72,1711)] ?_;refine bc ?_;exact a0<|E+1
 obtain rfl:E=(iy b).g7.length:=o;rw[rQ (i:=(iy b).g7.length) (l:=(eu b).cp) (by rw[e5.len];omega),rQ (i:=(iy b).g7.length) (l:=k8 (eu b)<|kX b) o];refine aZ.iK 1710 ?_;refine aZ.iK 1711 ?_;refine dM ?_;refine aZ.agI 79 (hD (cM 256 0) .ba .ba .ba) ?_;refine dM ?_;refine bI [(6000,79),(6001,5),(6002,32)] ?_ (f:=anG (iy b) (eu b) g.aE H e5.j);refine aZ.eQ 1712 32 228 [] (W (40,2)) ?_;have aI:Q (aa k (ds (eu b)))=Q (ds (eu b)):=bg ..;have aG:=H2<|eu b;have aP:Q (lP (eu b))=Q (ds (eu b)):=by unfold lP;rw[bg]
 refine dM ?_;refine io (.a 1<|aa k<|ds<|eu b) ?_ (eM:=l3 (Ll _) _ _ _ 0);refine eC (Q<|ds<|eu b) (λd=>⟨[(2,c 2),(5,c 5),(6,k 0),(7,k<|zq b),(8,c 40),(13,c 79),(86,.a 1<|aa k<|ds<|eu b),(87,k<|Q<|aa k<|ds<|eu b),(88,k d)],[(1712,.h 32 228<|aa c3<|ak d<|lP<|eu b),(1,ag 164<|c0 b),(2,ag 89<|bH [an aj 0,.ba,.ba]),(5,ag 216<|c 32),(32,ag 219<|ue<|iy b),(40,ag 225<|bH [.a 32 ((eu b).cp.map c3),.a 1<|aa a_<|k8 (eu b)<|kX b,.aq 1712 0<|Q<|aa c3<|ak d<|lP<|eu b]),(79,ag 234<|hD (l2<|eu b) (.a 1<|aa k<|ds<|eu b) .ba .ba)],[]⟩) λd kC=>?_;apply e<;>intro aD
 .have q:d<Q (ds (eu b)):=o;obtain⟨m,u⟩:∃m,z (ds (eu b)) d 0=m:=⟨_,p⟩;have O:m<256:=by rw[<-u];exact E9<|cT q
  have Y:(aa k (ds (eu b)))[d]?=W (k m):=by rw[eN q,u]
  have ao:=e5.j;have ar:z (lP (eu b)) d []=yE (eu b) m (eu b).aE.length:=by rw[aja q,u];rfl
  refine bi d (k m) ?_ (j:=Y);refine mC (c3 []) ?_ (fj:=a3);refine eC (eu b).aE.length (λcr=>⟨[(2,c 2),(5,c 5),(6,k 0),(7,k<|zq b),(8,c 40),(13,c 79),(15,k m),(16,c 16),(86,.a 1<|aa k<|ds<|eu b),(87,k<|Q<|aa k<|ds<|eu b),(88,k d),(96,k<|Q<|(iy b).aE.map b2),(97,k cr)],[(1712,.h 32 228<|aa c3<|ak d<|lP<|eu b),(1,ag 164<|c0 b),(2,ag 89<|bH [an aj 0,.ba,.ba]),(5,ag 216<|c 32),(32,ag 219<|ue<|iy b),(16,ag 228<|c3<|yE (eu b) m cr),(40,ag 225<|bH [.a 32 ((eu b).cp.map c3),.a 1<|aa a_<|k8 (eu b)<|kX b,.aq 1712 0<|Q<|aa c3<|ak d<|lP<|eu b]),(79,ag 234<|hD (l2<|eu b) (.a 1<|aa k<|ds<|eu b) .ba .ba)],[]⟩) λcr aJ=>?_;apply e<;>intro aF
  .have I:cr<(eu b).aE.length:=o;have R:=ahx H I O;refine bi cr (b2<|ko<|(eu b).aE.getD cr []) ?_ (j:=ahy g.aE I);refine FE (tR:=m) (cr:=m) ?_ (kC:=by show 0+m*1=m;omega);refine IC (a6<|jN ((eu b).aE.getD cr []) (m:J)) ?_ R;apply e<;>intro C
   .refine bI [(6000,16)] ?_ (f:=afC (iI:=(yE (eu b) m cr)) (E:=cr) o);rw[aAN o C];refine bc ?_;exact a0<|cr+1
   rw[<-aAM C];refine bc ?_;exact a0<|cr+1
  obtain rfl:cr=(eu b).aE.length:=o;rw[<-ar];refine eS ?_;refine br (λ_=>ho p (a7:=tY)) ?_;refine br (λ_=>lf p) ?_;refine p7 ?_;refine lS 119 (aa c3<|ak (d+1)<|lP<|eu b) ?_ (aH:=a3) (hl:=.a p p p p λM v=>by rw[ea.1 v];rfl) (aW:=O2 c3 [] o) (bQ:=a2);refine p7 ?_;refine fx ?_;refine kU [(119,1712)] ?_;refine bc ?_;exact a0<|d+1
 obtain rfl:d=Q (ds (eu b)):=o;rw[rQ (i:=Q<|ds<|eu b) (l:=lP<|eu b) o];refine aZ.iK 1712 ?_;refine dM ?_;refine bI [(6000,32)] ?_ (f:=agD (iy b) g.ok A G F 0 (zq b) g.aqc (kX b).first (kX b).empty t.ok.1 g.first g.tZ);refine mC (c3 []) ?_ (fj:=a3);refine lh (c3 (kX b).first) ?_ (h1:=rg) (fN:=rg);refine n7 ⟨[(2,c 2),(8,c 40),(13,c 79),(18,c 18),(19,a_ (kX b).empty)],[(2,ag 89<|bH [an aj 0,.ba,.ba]),(18,ag 228<|c3 (kX b).first),(40,ag 225<|ox (eu b).cp (k8 (eu b)<|kX b)<|lP<|eu b),(79,ag 234<|hD (l2<|eu b) (.a 1<|aa k<|ds<|eu b) .ba .ba)],[]⟩ ?_;refine dM ?_;refine ho ?_ (a7:=tY);by_cases r:Q (c8 (eu b) (kX b) 3000)<=3000
 .skip
  refine bI [(6000,79),(6001,40)] ?_ (f:=ais (eu b) (kX b) e5.len e5.j e5.cp x t p (λ_=>⟨p,p⟩) λK=>b9 r o);apply e<;>intro S
  .omega
  refine bI [(6000,79)] ?_ (f:=asZ (s1 (eu b) (kX b)<|c8 (eu b) (kX b) 3000) (aoS r (Jz r) aic)<|aoT (azo _ _ _) (Jz r) (DR _) aib);rw[amf o r];exact dB bq
 skip
 refine bI [(6000,79),(6001,40)] ?_ (f:=ais (eu b) (kX b) e5.len e5.j e5.cp x t p (λK=>b9 K o) λ_=>⟨p,p⟩);apply e<;>intro S
 .rw[show i6 b=(A9,3) from ae<|bp<|bl<|Ch r];exact hQ 1 2 [1,2] (dB bq)
 omega
end
def jm(b c:ar):Prop:=b.no=0/\c=b\/b.no≠0/\c.no=b.no/\c.bad=b.bad
theorem jm.refl b:jm b b:=by by_cases c:b.no=0;exact bl ⟨c,p⟩;exact bp ⟨c,p,p⟩
def jm.fail{c d:ar}(f:c.no=0)(g:d.no=0){b:J}{T:J}(e:T≠0):jm (cv c b T) (cv d b T):=by unfold cv;rw[ae f,ae g];exact bp ⟨e,p,p⟩
def jm.no{b c:ar}(e:jm b c):b.no=0↔c.no=0:=by rcases e with⟨d,rfl⟩|⟨d,f,_⟩;rfl;omega
def jm.eq{b d:ar}(e:jm b d)(f:b.no=0):d=b:=by rcases e with⟨_,c⟩|⟨c,_⟩;exact c;omega
theorem jm.step{b d:ar}(g:jm b d)(i:b.no≠0):jm b d.step:=by rcases g with⟨c,_⟩|⟨c,e,f⟩;omega;exact bp ⟨c,e,f⟩
def wB{b:ar}{c d:J}:b.no≠0->cv b c d=b:=by simp_all[cv,ab]
theorem w9{d:X v}{b:ar}{c:v}:b.no≠0->fw d b c=ad:=by(simp[fw,ae];omega)
def VT{d:X v}{b:ar}{c:v}:b.no≠0->aF d b c=b:=by simp_all[aF,w9,ab]
theorem kY{c:X v}{b:ar}(f:b.ok c)(e:b.no=0)d:fw c b d=c2 c b.w d:=by let i:=f.1;unfold fw c2;by_cases g:b.w<Q c;rw[uv e g];grind;grind
def w8{c:X v}{b:ar}(f:b.ok c)(e:b.no=0){d:v}:c2 c b.w d->aF c b d=b.step:=by simp_all[aF,kY,ae]
def Nx{f:X v}{d c:ar}(k:d.no=0->d.ok f)(e:jm d c){g:v}:jm (hx f d g) (if c2 f c.w g then c else cv c c.w 6).step:=by unfold hx;by_cases b:d.no=0;have i:=e.eq b;subst i;rw[kY (k b) b];split;exact .refl _;exact(jm.fail b b aR).step<|iT aR;rw[w9 b,ab av,wB b];split;exact e.step b;rw[wB λj=>b<|e.no.2 j];exact e.step b
def B0{P:v->Y}(c:∀d:Fin 256,P (gk d.1))b:P b:=by have:=c ⟨aG b,b.toNat_lt⟩;simp_all
def Uy:X v:=[92,46,124,40,41,91,93,123,125,42,43,63,94,45]
theorem VV b:(mU b).2=(g1 [100,119,115] b||g1 [68,87,83] b):=by have:=B0 (P:=λb=>(mU b).2==(g1 [100,119,115] b||g1 [68,87,83] b)) cc b;simp_all
theorem azR b(d:g1 [100,119,115] b):(mU b).1=qR λc=>pU c b:=by have:=B0 (P:=λb=>!g1 [100,119,115] b||aL ((mU b).1=qR λc=>pU c b)) (by decide+kernel) b;simp_all
theorem azS(b:v)(d:g1 [68,87,83] b):(mU b).1=qR λc=>!pU c (b+32):=by have:=B0 (P:=λb=>!g1 [68,87,83] b||aL ((mU b).1=qR λc=>!pU c (b+32))) (by decide+kernel) b;simp_all
def s_(b:v):Z:=if(g1 NP b||g1 x_ b) then 1 else if(aG b:J)=110 then 2 else if(aG b:J)=116 then 3 else if(aG b:J)=114 then 4 else if(aG b:J)=120 then 5
 else if g1 [100,119,115] b then 6 else if g1 [68,87,83] b then 7 else 0
def Fs(b:v):Z:=if(mU b).2 then(if g1 [100,119,115] b then 6 else 7)
 else if 0<=gQ [110,116,114] b then(if aG (z ([10,9,13]:X v) (aB<|gQ [110,116,114] b) 0)=10 then 2 else if aG (z ([10,9,13]:X v) (aB<|gQ [110,116,114] b) 0)=9 then 3 else 4)
 else if aG b=120 then 5
 else if aG b≠0/\0<=gQ Uy b then 1 else 0
def azT(b:v):s_ b=Fs b:=by have:=B0 (P:=λb=>s_ b==Fs b) (by decide+kernel) b;simp_all
def azU(b:v)(c:s_ b≠0):32<=(aG b:J)/\(aG b:J)<=126:=by have:=B0 (P:=λb=>aL (s_ b=0)||aL (32<=(aG b:J))&&aL ((aG b:J)<=126)) (by decide+kernel) b;simp_all
def azV(b:v):aL (0<=gQ pQ b)=g1 x_ b:=by have:=B0 (P:=λb=>aL (0<=gQ pQ b)==g1 x_ b) (by decide+kernel) b;simp_all
def azW(b:v):aL (0<=gQ sr b)=g1 FT b:=by have:=B0 (P:=λb=>aL (0<=gQ sr b)==g1 FT b) (by decide+kernel) b;simp_all
theorem aeD(b:Z):z cL b ad=ad:=by grind[cL,List.getElem?_replicate_of_lt,List.getElem?_eq_none,List.length_replicate]
def alb{c:a1}{d b:Z}(e:b<Q c):z (c.add g d) b ad=(z c b ad||aL (g<=b)&&aL (b<=d)):=by grind[a1.add,List.getElem?_eq_getElem]
theorem Us{l:Z}(b:g<256):z (cL.add l l) g ad=aL (g=l):=by rw[alb cc,aeD,J8];grind
def ag6{b:Z}(e:b<256):∀c,c<=256->g3 (cL.add b b) c=if c<=b then[] else[((b:J),(b:J))]|0,_=>a3|c+1,f=>by rw[g3,Us o,ag6 e c o];by_cases d:c=b;subst d;rw[ab av,Us o];grind;grind
def azX(b:v):kh (cL.add (aG b) (aG b))=.mk 3 [((aG b:J),(aG b:J))] 0 0 []:=by have c:=b.toNat_lt;rw[kh,ab,ag6 c 256<|bz _,ab o];have d:=Us (l:=aG b) c;grind[aeD]
def azY:kh cL.others=.mk 3 [(0,255)] 0 0 []:=by rw[kh,ab cc,show g3 _ 256=[(0,255)] by decide+kernel]
theorem aiG(b:v):g1 ET b=(g1 [100,119,115] b||g1 [68,87,83] b):=by have:=B0 (P:=λb=>g1 ET b==(g1 [100,119,115] b||g1 [68,87,83] b)) cc b;simp_all
def abr{d:X v}{c:ar}(e:c.no=0):jM (cy d c)=ki d c.w:=by unfold ki;by_cases b:c.w<Q d;rw[uv e b,ae b];rfl;rw[NX b,ab b];decide
structure KJ(U:KI)(C:AA)(Jn:a1):Prop where
 r:jm U.r C.r
 many:U.r.no=0->U.many->C.n=-1/\C.s=Jn.join U.s
 one:U.r.no=0->U.many=ad->C.n=(U.c:Z)/\C.s=aK Jn U.c af
theorem E1{c:KI}{e:AA}{g:a1}(d:c.r.no≠0)(f:jm c.r e.r):KJ c e g:=⟨f,λb=>b9 b d,λb=>b9 b d⟩
def R0{c:a1}{b:ar}:pN c g b=⟨aK c g af,g,b.step⟩:=by rfl
def aat{c:a1}{b:ar}:pN c (-1) b=⟨c, -1,b.step⟩:=by rfl
def aac{e:X v}{M:a1}{c:ar}(L:c.ok e)(u:c.no=0):KJ (eL e c) (kQ e M c) M:=by
 have Y:=L.1;have R:jm (cv c c.w 6) (cv c c.w 6):=.refl _;have fn:(cv c c.w 6).no≠0:=iT aR;by_cases B:c.w<Q e;have C:=uv u B;generalize H:z e c.w 0=b at C;have d:=azT b;have D:=VV b;have ak:=azU b;have r:s_ b≠0->¬kT e c.w=ad:=λf=>by simp_all[kT,j_,ir]
 unfold eL kQ;rw[C,H];by_cases g:(mU b).2;rw[ae g];have i:Fs b=if g1 [100,119,115] b then 6 else 7:=by unfold Fs;rw[ae g]
 have j:s_ b≠0:=by rw[d,i];split<;>decide
 rw[ab<|r j];rw[i] at d;unfold s_ at d;split at d;grind;rename_i k;rw[ab k];split at d;grind;rename_i s;rw[ab s];split at d;grind;rename_i t;rw[ab t];split at d;grind;rename_i y;rw[ab y];split at d;grind;rename_i O;rw[ab O];by_cases A:g1 [100,119,115] b;rw[ae A,aat];exact⟨.refl _,λ_ _=>⟨p,by grind[azR]⟩,λ_ f=>by cases f⟩;rw[ab A];have P:g1 [68,87,83] b:=by rw[D] at g;simpa[A] using g
 rw[ae P,aat];exact⟨.refl _,λ_ _=>⟨p,by grind[azS]⟩,λ_ f=>by cases f⟩;rw[ab g];have al:¬g1 [100,119,115] b/\¬g1 [68,87,83] b:=by rw[D] at g;simpa using g
 have i:Fs b=(if 0<=gQ [110,116,114] b then(if aG (z ([10,9,13]:X v) (aB (gQ [110,116,114] b)) 0)=10 then 2 else if aG (z ([10,9,13]:X v) (aB (gQ [110,116,114] b)) 0)=9 then 3 else 4)
  else if aG b=120 then 5 else if aG b≠0/\0<=gQ Uy b then 1 else 0):=by unfold Fs;rw[ab g]
 rw[i] at d;clear i;by_cases m:0<=gQ [110,116,114] b;rw[ae m];rw[ae m] at d;have N:aG (z ([10,9,13]:X v) (aB (gQ [110,116,114] b)) 0)=10\/aG (z ([10,9,13]:X v) (aB (gQ [110,116,114] b)) 0)=9\/aG (z ([10,9,13]:X v) (aB (gQ [110,116,114] b)) 0)=13:=by have I:=(SL [110,116,114] b).1;simp only[kN,Ws] at I;have:aB (gQ [110,116,114] b)=0\/aB (gQ [110,116,114] b)=1\/aB (gQ [110,116,114] b)=2:=o;rcases this with l|l|l<;>rw[l]<;>decide
 generalize aG (z ([10,9,13]:X v) (aB<|gQ [110,116,114] b) 0)=E at d N;have j:s_ b≠0:=by rw[d];split<;>(try split)<;>decide
 rw[ab<|r j];unfold s_ at d;have S:∀{x:Z},E=x->KJ ⟨E,cL,ad,c.step⟩ (pN M (x:J) c) M:=λ{x} l=>by subst l;rw[R0];exact⟨.refl _,λ_ f=>(by cases f),λ_ _=>⟨p,p⟩⟩
 grind;rw[ab m];rw[ab m] at d;by_cases h_:aG b=120;rw[ae h_];rw[ae h_] at d;have j:s_ b≠0:=by rw[d];decide
 rw[ab<|r j];unfold s_ at d;split at d;omega;rename_i k;rw[ab k];split at d;omega;rename_i s;rw[ab s];split at d;omega;rename_i t;rw[ab t];split at d;omega;rename_i y;rw[ab y,ae o];unfold pc;have F:jM (cy e c.step)=ki e (c.w+1):=abr u;have i:jM (cy e c.step.step)=ki e (c.w+2):=abr u;have T:=Mt e<|c.w+1;have U:=Mt e<|c.w+2;rw[F,i];by_cases n:ki e (c.w+1)<0;rw[ae n,ae n];exact E1 (iT aR)<|.refl _;rw[ab n,ab n];by_cases q:ki e (c.w+2)<0;rw[ae q,ae q];exact E1 (iT aR)<|.refl _;rw[ab q,ab q];have G:sb e c.w 2=((aB (ki e (c.w+1))*16+aB (ki e (c.w+2)):Z):J):=by show 16*(16*0+ki e (c.w+1))+ki e (c.w+2)=_;omega
 rw[G,R0];exact⟨.refl _,λ_ f=>(by cases f),λ_ _=>⟨p,p⟩⟩;rw[ab h_];rw[ab h_] at d;by_cases l1:aG b≠0/\0<=gQ Uy b;rw[ae<|show aG b≠0/\0<=gQ [92,46,124,40,41,91,93,123,125,42,43,63,94,45] b from l1];rw[ae l1] at d;have j:s_ b≠0:=by rw[d];decide
 rw[ab<|r j];unfold s_ at d;split at d;rename_i k;rw[ae k,R0];exact⟨.refl _,λ_ f=>(by cases f),λ_ _=>⟨p,p⟩⟩;grind;rw[ab<|show¬(aG b≠0/\0<=gQ [92,46,124,40,41,91,93,123,125,42,43,63,94,45] b) from l1];rw[ab l1] at d;unfold s_ at d;split at d;omega;rename_i k;split at d;omega;rename_i s;split at d;omega;rename_i t;split at d;omega;simp_all[ab,E1];have K:kT e c.w=ad:=by unfold kT;rw[show aL ((c.w:J)<Q e)=ad by(simp;omega)];rfl
 rw[kQ,ae K,show eL e c=⟨0,cL,ad,cv c c.w 6⟩ by unfold eL;rw[NX B,ab aR,ab aR,ab aR,ab aR]];grind[E1]
def lp(b:X v)(c:ar):KI:=if fw b c 92 then eL b (aF b c 92) else⟨(jt b (aF b c 92) pQ).1,cL,ad,(jt b (aF b c 92) pQ).2⟩
def ahE{b:X v}{M:a1}{c:ar}(i:c.ok b)(g:c.no=0):KJ (lp b c) (j8 b M c) M:=by
 unfold lp j8;rw[kY i g];by_cases e:c2 b c.w 92;let f:=lJ e;let q:kT b c.w:=by unfold kT;let m:(aG (z b _ 0):J)=92:=f.2;rw[j_,j_,ir,ir,ir];omega
 rw[ae e,ab ap,ae e,w8 i g e];exact aac ⟨f.1,i.2⟩ g;rw[ab e,j9 (by grind[kY])];unfold jt;by_cases f:c.w<Q b;rw[uv g f];generalize l:z b _ 0=d;let n:=azV d;let r:kT b c.w=(aL (32<=(aG d:J))&&aL ((aG d:J)<=126)):=by unfold kT;rw[l,show aL _=af by(simp;omega),xf]
 by_cases j:(aG d<32\/126<aG d)\/0<=gQ pQ d;rw[ae j,ae];exact E1 (iT aR)<|.refl _;grind;rw[ab j,ab,ab e];exact⟨.refl _,λ_ k=>(by cases k),λ_ _=>⟨p,p⟩⟩;grind;rw[NX f,ae<|bl<|bl aR,ae];exact E1 (iT aR)<|.refl _;grind[kT,aL,decide_eq_false_iff_not]
def ahD{b:X v}{d:ar}(e:d.ok b):(lp b d).c<256/\(lp b d).r.ok b/\(lp b d).s.length=256:=by unfold lp;grind[ip,wA,BQ,pQ,gO]
def ahu{b:a1}(e:Q b=256):aK b g af=b.add g g:=by unfold a1.add;refine rN av λf c d=>?_;grind
def ayy{c:a1}(f:Q c=256){b:Z}(i:g<=b):a1.add (aK (aK c g af) b af) g b=c.add g b:=by unfold a1.add;refine rN av λj d e=>?_;grind
def abZ(d:X v)(e:a1)(b:ar):j2 d e b=if(lp d b).many then(e.join (lp d b).s,(lp d b).r) else pR d e b.w (lp d b).c (lp d b).r:=by unfold j2 lp;grind
def SQ(b:X v)(g:a1)(f e:Z)(d:ar):pR b g f e d=if fw b d 45 then n0 g f e (lp b (aF b d 45)).c (if(lp b (aF b d 45)).many then cv (lp b (aF b d 45)).r (aF b (aF b d 45) 92).w 6 else(lp b (aF b d 45)).r) else n0 g f e e (aF b d 45):=by unfold pR;split;unfold lp;grind;rfl
def W9(b c:a1×ar):Prop:=jm b.2 c.2/\(b.2.no=0->b.1=c.1)
def anZ{S:X v}{M:a1}{x:ar}(l:x.ok S)(D:Q M=256)(ak:x.no=0):W9 (j2 S M x) (vb S M x)\/(j2 S M x).2.no=0/\c2 S (j2 S M x).2.w 45/\(vb S M x).2.no=6/\(vb S M x).2.bad=((j2 S M x).2.w:Z):=by
 have B:=ahE (M:=M) l ak;have G:=ahD l;have K:=Jv (M:=M) l D;rw[abZ];unfold vb;generalize lp S x=aE at B G⊢;generalize j8 S M x=aI at B K⊢;let⟨q,aQ,P,b⟩:=aE;let⟨aH,aS,E⟩:=aI;let⟨j,N,O⟩:=B;let⟨am,k,ao⟩:=G;dsimp only at j N O am k ao⊢;have aN:Q aH=256:=K.len;unfold vc;dsimp only;by_cases d:b.no=0;have s:=bG<|j.eq d;subst s;cases P with
 |true=>
  obtain⟨rfl,rfl⟩:=N d p
  (try rw[ae p])
  by_cases i:c2 S b.w 45;simp_all[ab,ae,cv];refine bl ?_;rw[ae<|bp ap];exact⟨.refl _,λ_=>p⟩|false=>
  obtain⟨rfl,rfl⟩:=O d p;rw[ab av,SQ];refine bl ?_;by_cases i:c2 S b.w 45;have al:=lJ i;have m:fw S b 45:=by rw[kY k d];exact i
  have aw:¬(b.no≠0\/c2 S b.w 45=ad):=by rintro(R|R);omega;simp_all
  rw[ae m,w8 k d i,ab aw,ab<|show¬((q:Z):J)<0 by omega];have e:b.step.ok S:=⟨al.1,l.2⟩;have C:=ahE (M:=aK M q af) e d;have H:=ahD e;have az:(aF S b.step 92).w=if c2 S (b.w+1) 92 then b.w+2 else b.w+1:=by unfold aF;rw[kY e d];show(if c2 S (b.w+1) 92 then b.step.step else b.step).w=_;split<;>rfl
  by_cases hm:(lp S b.step).many
  .have g:c2 S (b.w+1) 92/\(mU (cy S b.step.step)).2:=by unfold lp at hm;rw[kY e d] at hm;by_cases c:c2 S b.step.w 92;rw[ae c,w8 e d c] at hm;refine⟨c,?_⟩;unfold eL at hm;grind;simp_all
   have t:=(Lq g.2).1;have U:b.step.step.w=b.w+2:=p;rw[U] at t;have A:cy S b.step.step=z S (b.w+2) 0:=uv (x:=b.step.step) d t;have au:g1 ET (z S (b.w+2) 0):=by rw[aiG,<-VV,<-A];exact g.2
   rw[ae hm,ae ⟨⟨t,g.1⟩,au⟩,az,ae g.1];have ay:(lp S b.step).r.no=0:=by unfold lp;rw[kY e d,ae<|show c2 S b.step.w 92=af from g.1,w8 e d g.1];unfold eL;rw[ae g.2];exact d
   unfold n0;rw[ae<|show(cv (lp S b.step).r (b.w+2:Z) 6).no≠0 from iT aR];exact⟨jm.fail ay (show b.step.no=0 from d) (T:=6) aR,λc=>b9 c<|iT (T:=6) aR⟩
  have ax:¬((b.w+2<Q S/\c2 S (b.w+1) 92)/\g1 ET (z S (b.w+2) 0)):=by rintro⟨⟨Y,F⟩,aM⟩;refine hm ?_;unfold lp;rw[kY e d,ae<|show c2 S b.step.w 92=af from F,w8 e d F];unfold eL;have A:cy S b.step.step=z S (b.w+2) 0:=uv (x:=b.step.step) d Y;rw[A,ae (by grind[VV,aiG])]
  rw[ab hm,ab ax];have y:(lp S b.step).many=ad:=by simpa using hm
  generalize lp S b.step=aD at C H y⊢;generalize j8 S (aK M q af) b.step=aG at C⊢;let⟨aJ,aV,aU,aL⟩:=aD;let⟨aP,aO,aC⟩:=aG;let⟨n,aB,L⟩:=C;dsimp only at n aB L H y⊢;unfold n0 Hr;dsimp only;by_cases f:aL.no=0;have s:=bG<|n.eq f;subst s;obtain⟨rfl,rfl⟩:=L f y;rw[ab λc=>c f];by_cases u:aJ<q;rw[ae u,ae ⟨f,o⟩];exact⟨.refl _,λc=>b9 c<|iT aR⟩;rw[ab u,ab λc=>u o,ae f,Kb,Kb];exact⟨.refl _,λ_=>bG<|ayy D o⟩;have I:¬aC.no=0:=λc=>f<|n.no.2 c;rw[ae f,ab λc=>I c.1,ab I];exact⟨n,λc=>b9 c f⟩;have m:¬fw S b 45:=by rw[kY k d];exact i
  rw[ab m,j9 m,ae<|bp ap];unfold n0;rw[ab λc=>c d,ab<|xo _];exact⟨.refl _,λ_=>bG<|ahu D⟩
 have aA:E.no≠0:=λc=>d<|j.no.2 c;rw[ae<|show E.no≠0\/c2 S E.w 45=ad from bl aA];refine bl ?_;cases P with|true=>(try rw[ae p]);exact⟨j,λc=>b9 c d⟩|false=>rw[ab av,SQ,ab GU,VT d];unfold n0;rw[ae d];exact⟨j,λc=>b9 c d⟩
def Vn{f:X v}{c:a1}{b:ar}(e:b.no≠0):oL g f c b=(c,b):=ahs λd=>e d.1
def UG{c:X v}{b:ar}(f:b.ok c)(d:b.no=0):aG (cy c b)≠93↔c2 c b.w 93=ad:=by
 unfold c2;by_cases e:b.w<Q c;rw[uv d e,J6,sK,sK]
 (simp;omega)
 simp_all[NX,J6,sK]
def atI{c:X v}{M:a1}{b:ar}(j:b.ok c)(d:b.no=0)(k:c2 c b.w 45):(j2 c M b).2.no=6/\(j2 c M b).2.bad=(b.w:Z):=by
 have e:=lJ k;have i:=by exact Kp.1<|Int.ofNat_inj.1 e.2
 have g:¬c2 c b.w 92:=λf=>by have:=(lJ f).2;simp_all
 rw[abZ];unfold lp;rw[kY j d,ab g,ab av,j9 (by grind[kY])];unfold jt;rw[uv d e.1,i,ae<|bp aR];rw[SQ,ab (by simp[w9,iT]),VT<|iT aR];unfold n0;unfold cv;simp_all
def ado{S:X v}:∀(e:Z){ns:Z}{M:a1}{b:ar},b.ok S->Q M=256->(b.no=0->Q S<b.w+e)->(b.no=0->Q S<b.w+ns)->W9 (oL e S M b) (lD S ns M b)
|e,ns,M,b,g,n,y,z=>by
 by_cases d:b.no=0;let A:=g.1;obtain⟨k,rfl⟩:∃k,e=k+1:=⟨e-1,o⟩;obtain⟨q,rfl⟩:∃q,ns=q+1:=⟨ns-1,o⟩;rw[oL,lD];by_cases m:c2 S b.w 93=ad;rw[ae ⟨d,(UG g d).2 m⟩,ae ⟨d,m⟩];let j:=Ig g n;let B:=(TE (M:=M) g).2 d;rcases anZ (S:=S) (M:=M) g n d with⟨f,l⟩|⟨f,l,t,u⟩;by_cases c:(j2 S M b).2.no=0;rw[f.eq c,<-l c];exact ado k j.1 j.2 (λ_=>o) λ_=>o;rw[Vn c,Hq λi=>c<|f.no.2 i.1];trivial;let x:=j.1.1;let s:c2 S (j2 S M b).2.w 93=ad:=by have:=(lJ l).2;unfold c2;rw[J6,sK,sK];refine bp ?_;rw[this];decide
 obtain⟨r,rfl⟩:∃r,k=r+1:=⟨k-1,o⟩;rw[oL,ae ⟨f,(UG j.1 f).2 s⟩];let hm:=atI (M:=(j2 S M b).1) j.1 f l;rw[Vn o,Hq λi=>o];refine⟨bp ⟨a2,ap,ap⟩,λi=>?_⟩;simp_all;rw[ab λc=>m<|(UG g d).1 c.2,ab λc=>m c.2];exact⟨.refl _,λ_=>p⟩;rw[Vn d,Hq λi=>d i.1];exact⟨.refl _,λ_=>p⟩
 termination_by e=>e
def Cs(b c:aO×ar):Prop:=jm b.2 c.2/\(b.2.no=0->b.1=c.1)
theorem ayE{b:X v}{c:ar}(i:c.ok b)(f:c.no=0):Cs (p5 b c) (zg b c):=by
 unfold p5 zg;have s:aF b c 94=nT b c:=by unfold aF nT;rw[kY i f]
 rw[kY i f,s];have j:(nT b c).ok b/\(nT b c).no=0:=by unfold nT;split;rename_i d;exact⟨⟨(lJ d).1,i.2⟩,f⟩;trivial
 have g:=ado (Q b+1) (ns:=Q b+1) j.1 gO (λ_=>o) λ_=>o;have q:=OI (A:=Q b+1) j.1 gO;have n:=Re (A:=Q b+1) j.1 gO λ_=>o;generalize oL _ b _ _=e at g q⊢;generalize lD b _ _ _=t at g n⊢;let⟨m,w⟩:=g;by_cases d:e.2.no=0;have l:=m.eq d;have r:=n ap;rw[l] at r;have k:hx b e.2 93=t.2.step:=by unfold hx;rw[kY q.1 d,ae r,l]
 refine⟨?_,λ_=>?_⟩;grind[jm,hx,step];simp_all;have k:hx b e.2 93=e.2:=by unfold hx;rw[w9 d,ab av,wB d]
 refine⟨?_,λu=>?_⟩;rw[k];exact m.step d;simp_all
def P8(b:Z×J×ar)(c:J×J×ar):Prop:=jm b.2.2 c.2.2/\(b.2.2.no=0->((b.1:Z):J)=c.1/\b.2.1=c.2.1)
def auM{S:X v}{x:ar}(K:x.ok S)(Y:x.no=0):P8 (k4 S x) (sB S x):=by
 have j:=IT (S:=S) (ao:=x.w) (A:=2) (T:=0) K;have k:(e8 S x.w 2 0 x).2.no=0:=bC j.2.2 Y;unfold k4 sB;have P:gF S x 0=((e8 S x.w 2 0 x).1,if(e8 S x.w 2 0 x).2.w=x.w then cv (e8 S x.w 2 0 x).2 (e8 S x.w 2 0 x).2.w 6 else if 50<(e8 S x.w 2 0 x).1 then cv (e8 S x.w 2 0 x).2 x.w 9 else(e8 S x.w 2 0 x).2):=by unfold gF;congr 1;split;rfl;simp
 rw[P];unfold iZ;generalize e8 S x.w 2 0 x=ap at j k⊢;let⟨T,b⟩:=ap;dsimp at j k⊢;have G:∀{d:ar},d.no≠0->∀{u:ar},jm d u->∀(n O:J) g,P8 (if fw S d 44 then(if aG (cy S (aF S d 44))≠125 then(g,(gF S (aF S d 44) g).1,hx S (gF S (aF S d 44) g).2 125) else(g, -1,hx S (aF S d 44) 125)) else(g,g,hx S (aF S d 44) 125)) (Ab S n u):=λ{d} f {u} he n O g=>by
  have s:u.no≠0:=λe=>f<|he.no.2 e;rw[w9 f,ab av,VT f];unfold Ab;rw[ab λe=>s e.1];unfold vj;have q:hx S d 125=d:=by unfold hx;rw[w9 f,ab av,wB f]
  refine⟨?_,λc=>?_⟩;show jm (hx S d 125) _;rw[q];split;exact he.step f;rw[wB s];exact he.step f;simp_all
 by_cases aH:b.w=x.w;rw[ae aH,ae aH];dsimp only;rw[ae<|show(-1)<0 by decide];exact G (iT aR) (.refl _) (-1) 0 T;rw[ab aH,ab aH];dsimp;rw[ab<|show¬(T:J)<0 by omega];by_cases H:50<T;rw[ae H];exact G (iT aR) (.refl _) T 0 T;rw[ab H];unfold Ab;rw[kY j.1 k];by_cases i:c2 S b.w 44;have al:=lJ i;have E:b.step.ok S:=⟨al.1,K.2⟩;rw[ae i,w8 j.1 k i,ae<|show b.no=0/\c2 S b.w 44=af from⟨k,i⟩];have t:=IT (S:=S) (ao:=b.step.w) (A:=2) (T:=0) E;have I:(e8 S b.step.w 2 0 b.step).2.no=0:=bC t.2.2 k;have C:aG (cy S b.step)=125->e8 S b.step.w 2 0 b.step=(0,b.step):=λe=>by(simp[e8,ab];omega)
 have D:(e8 S b.step.w 2 0 b.step).2.w=b.step.w->(e8 S b.step.w 2 0 b.step).2=b.step:=λe=>by rw[e8] at e⊢;split at e;rename_i c;have:b.step.step.w<=(e8 S b.step.w 1 (0*10+(aG (cy S b.step)-48)) b.step.step).2.w:=(IT (S:=S) (ao:=b.step.w) (A:=1) (T:=0*10+(aG (cy S b.step)-48)) (x:=b.step.step)<|ar.th E (HA c.1).1).2.1;have:b.step.step.w=b.step.w+1:=p;omega;grind
 by_cases B:aG (cy S b.step)=125;rw[ab<|show¬aG (cy S b.step)≠125 fromλc=>c B];have Q:=C B;unfold iZ;rw[Q];dsimp only;rw[ae<|show b.step.w=b.step.w from p];dsimp only;rw[ab<|show¬(0<=-1/\(-1:J)<T) fromλc=>b9 c.1 aR];unfold vj;exact⟨Nx (λ_=>E)<|.refl _,λ_=>⟨p,p⟩⟩;rw[ae<|show aG (cy S b.step)≠125 from B];have R:gF S b.step T=((e8 S b.step.w 2 0 b.step).1,if(e8 S b.step.w 2 0 b.step).2.w=b.step.w then cv (e8 S b.step.w 2 0 b.step).2 (e8 S b.step.w 2 0 b.step).2.w 6
  else if 50<(e8 S b.step.w 2 0 b.step).1\/(e8 S b.step.w 2 0 b.step).1<T then cv (e8 S b.step.w 2 0 b.step).2 b.step.w 9 else(e8 S b.step.w 2 0 b.step).2):=p
 rw[R];unfold iZ;generalize e8 S b.step.w 2 0 b.step=au at t I C D⊢;let⟨g,d⟩:=au;dsimp at t I C D⊢;have z:∀{n KW:J}{l y:ar}{L M:J}{N:Z},l.no≠0->jm l y->P8 (N,L,hx S l 125) (vj S n M y):=λ{n KW l y L M N} f he=>by
  have s:y.no≠0:=λe=>f<|he.no.2 e;unfold vj;have q:hx S l 125=l:=by unfold hx;rw[w9 f,ab av,wB f]
  refine⟨?_,λc=>?_⟩;show jm (hx S l 125) _;rw[q];split;exact he.step f;rw[wB s];exact he.step f;simp_all
 by_cases F:d.w=b.step.w;have U:=D F;subst U;rw[ae<|show b.step.w=b.step.w from p,ae<|show b.step.w=b.step.w from p];dsimp only;rw[ab<|show¬(0<=-1/\(-1:J)<T) fromλc=>b9 c.1 aR];have ak:¬c2 S b.step.w 125:=λe=>by have:=lJ e;grind[uv,Int.ofNat_inj]
 unfold vj;rw[ab ak];have q:hx S (cv b.step b.step.w 6) 125=cv b.step b.step.w 6:=by unfold hx;rw[w9<|iT aR,ab av,wB<|iT aR]
 refine⟨?_,λc=>?_⟩;show jm (hx S (cv b.step b.step.w 6) 125) _;rw[q];exact(jm.refl _).step<|iT aR;grind[hx,cv,b9,iT];rw[ab F,ab F];dsimp;have:b.step.w=b.w+1:=p;by_cases r:50<g;rw[ae<|bl r,ae r];by_cases m:0<=(g:J)/\((g:Z))<(T:J);rw[ae m,wB<|iT aR];exact z (KW:=0) (iT aR)<|.refl _;rw[ab m];exact z (KW:=0) (iT aR)<|.refl _;rw[ab r];by_cases m:g<T;rw[ae<|bp m,ae ⟨o,o⟩];exact z (KW:=0) (iT aR)<|.refl _;rw[ab λc=>c.elim r m,ab λc=>m (by have:=c.2;omega)];unfold vj;exact⟨Nx (λ_=>t.1)<|.refl _,λ_=>⟨p,p⟩⟩;have am:¬fw S b 44:=by rw[kY j.1 k];exact i
 rw[ab i,j9 am,ab λe=>i e.2];unfold vj;exact⟨Nx (λ_=>j.1)<|.refl _,λ_=>⟨p,p⟩⟩
def auz{b:a1}(c:Q b=256):cL.join b=b:=by
 unfold a1.join cL;rw[<-c];clear c
 induction b
 rfl
 next e b d=>rw[kN,List.replicate_succ,List.zipWith_cons_cons,d,J8]
def En(c:X v)(f:Z)(d e:ar->aO×ar):Prop:=∀b:ar,b.ok c->b.no=0->Q c-b.w<f->Cs (d b) (e b)
def SN{b:X v}(d:g<Q b)c:c2 b g c=aL (aG (z b g 0)=aG c):=by
 unfold c2
 (simp_all;omega)
def aew{e:X v}{b:ar}{c:v}(f:(hx e b c).no=0):b.no=0:=by by_cases d:b.no=0;exact d;simp_all[hx,w9,ab,wB]
def alM{e:X v}{E L:ar->aO×ar}(U:qY e g E)(ak:En e g E L){d:ar}(al:d.ok e)(u:d.no=0)(F:d.w<Q e)(ax:Q e-d.w<g+1):Cs (jb E e d) (mS L e d):=by
 have P:=uv u F;have y:d.step.ok e:=⟨F,al.2⟩;have:d.step.no=0:=u;have:d.step.w=d.w+1:=p;have am:∀i,c2 e d.w i=aL (aG (z e d.w 0)=aG i):=SN F;have R:kT e d.w=(aL (32<=(aG (z e d.w 0):J))&&aL ((aG (z e d.w 0):J)<=126)):=by unfold kT;rw[sL o,xf]
 unfold jb mS;generalize aw:z e d.w 0=b at P am R⊢;have k:∀i,fw e d i=aL (aG b=aG i):=λi=>by grind[kY]
 have K:∀i,aG b=aG i->aF e d i=d.step:=λi f=>by simp_all[aF,ae,sL]
 have C:∀i,¬aG b=aG i->aF e d i=d:=λi f=>by simp_all[aF,ab,Kx]
 have I:∀A,aG b=A->32<=A->A<=126->¬kT e d.w=ad:=λA ao ap au=>by(simp_all;omega)
 by_cases m:aG b=aG (40:v);have l:aG b=40:=m;rw[k,ae<|sL m,K 40 m,ab<|I 40 l aR aR,ae<|show(aG b:J)=40 by omega];have j:=ak d.step y u o;refine⟨Nx (λ_=>(U d.step y o).1) j.1,λf=>j.2<|aew f⟩;have:¬aG b=40:=m;rw[k 40,ab a2,C 40 m];have Ic:¬(aG b:J)=40:=o;by_cases N:aG b=aG (91:v);grind[ayE];have:¬aG b=91:=N;rw[k 91,ab a2,C 91 N];have H:¬(aG b:J)=91:=o;by_cases n:aG b=aG (46:v);have l:aG b=46:=n;rw[k 46,ae<|sL n,K 46 n,ab<|I 46 l aR aR,ab Ic,ab H,ae<|show(aG b:J)=46 by omega];refine⟨.refl _,λ_=>?_⟩;simp[azY];have:¬aG b=46:=n;rw[k 46,ab a2,C 46 n];have S:¬(aG b:J)=46:=o;by_cases q:aG b=aG (92:v);have l:aG b=92:=q;rw[k 92,ae<|sL q,K 92 q,ab<|I 92 l aR aR,ab Ic,ab H,ab S,ae<|show(aG b:J)=92 by omega];have j:=aac (M:=cL) y u;have O:=(wA y).2.2;generalize eL e d.step=D at j O⊢;generalize kQ e cL d.step=T at j⊢;cases hm:D.many with|true=>rw[ae p];exact⟨j.r,λf=>by show kh D.s=kh T.s;rw[(j.many f hm).2,auz O]⟩|false=>rw[ab av];refine⟨j.r,λf=>?_⟩;have:T.s=cL.add D.c D.c:=bC (j.one f hm).2<|ahu gO;simp_all
 have:¬aG b=92:=q;rw[k 92,ab a2,C 92 q];have zD:¬(aG b:J)=92:=o;have B:=azW b;unfold jt;rw[P];by_cases t:kT e d.w=ad;rw[ae t];have G:aG b<32\/126<aG b:=by
  rw[R] at t;rcases J6.1 t with f|f
  (simp_all;omega)
  (simp_all;omega)
 rw[ae<|show(aG b<32\/126<aG b)\/0<=gQ sr b from bl G];exact⟨.refl _,λf=>b9 f<|iT aR⟩;rw[ab t,ab Ic,ab H,ab S,ab zD];have G:¬(aG b<32\/126<aG b):=λf=>t (by(simp_all;omega));by_cases x:g1 FT b;rw[ae x];rw[x,ir] at B;rw[ae<|show(aG b<32\/126<aG b)\/0<=gQ sr b from bp B];exact⟨.refl _,λf=>b9 f<|iT aR⟩;rw[ab x];have Y:g1 FT b=ad:=by simpa using x
 rw[Y,sK] at B;rw[ab<|show¬((aG b<32\/126<aG b)\/0<=gQ sr b) fromλf=>f.elim G B];refine⟨.refl _,λ_=>?_⟩;simp[azX]
def axB{d:X v}{c:aO}{b:ar}(e:¬b.no=0):mb d g c b=(c,b):=agQ GU GU GU GU
def Jc{e:X v}:∀g{n:Z}{t s:aO}{b x:ar},(b.no=0->b.ok e)->jm b x->(b.no=0->t=s)->(b.no=0->Q e<b.w+g)->(b.no=0->Q e<b.w+n)->Cs (mb e g t b) (n8 e n s x)
|g,n,t,s,b,x,d,z,he,I,J=>by
 by_cases c:b.no=0;have d:=d c;have:=d.1;have G:=he c;have H:=bG<|z.eq c;subst G;subst H;obtain⟨m,rfl⟩:∃m,g=m+1:=⟨g-1,o⟩;obtain⟨B,rfl⟩:∃B,n=B+1:=⟨n-1,o⟩;have:b.step.w=b.w+1:=p;have q:∀{r:v},c2 e b.w r->b.step.ok e:=λf=>⟨(lJ f).1,d.2⟩;rw[mb,n8,ae c];by_cases j:c2 e b.w 42;rw[kY d c,ae j,ae j,w8 d c j];exact Jc m (λ_=>q j) (.refl _) (λ_=>p) (λ_=>o) λ_=>o;have D:¬fw e b 42:=by rw[kY d c];exact j
 rw[ab D,ab j,j9 D];by_cases k:c2 e b.w 43;rw[kY d c,ae k,ae k,w8 d c k];exact Jc m (λ_=>q k) (.refl _) (λ_=>p) (λ_=>o) λ_=>o;have E:¬fw e b 43:=by rw[kY d c];exact k
 rw[ab E,ab k,j9 E];by_cases l:c2 e b.w 63;rw[kY d c,ae l,ae l,w8 d c l];exact Jc m (λ_=>q l) (.refl _) (λ_=>p) (λ_=>o) λ_=>o;have F:¬fw e b 63:=by rw[kY d c];exact l
 rw[ab F,ab l,j9 F];by_cases i:c2 e b.w 123;rw[kY d c,ae i,ae i,w8 d c i];have A:=q i;have y:=auM A c;have u:=Ld A;refine Jc m (λ_=>u.1) y.1 (λf=>?_) (λf=>?_) λf=>?_;have:=y.2 f
 (simp;omega)
 have:=kx (u.2.2 c) (· f);omega;have:=kx (u.2.2 c) (· f);omega;have C:¬fw e b 123:=by rw[kY d c];exact i
 rw[ab C,ab i,j9 C];trivial;rw[axB c,agR λr=>c<|z.no.2 r];trivial
 termination_by g=>g
def av3{b:X v}{d e:ar->aO×ar}(f:qY b g d)(n:En b g d e){c:ar}(j:c.ok b)(l:c.no=0)(m:c.w<Q b)(i:Q b-c.w<g+1):Cs (nz d b c) (vF e b c):=by have k:=alM f n j l m i;exact Jc _ (λ_=>(Hc f j i).1) k.1 k.2 (λ_=>o) λ_=>o
def afg{d:X v}{c:ar}:yo d c↔BO d c:=by unfold yo BO;by_cases b:c.no=0/\c.w<Q d;rw[uv b.1 b.2,SN b.2,SN b.2,sK,sK];rfl;omega
def afS{d:X v}{s:Z}{g n:ar->aO×ar}(q:qY d s g)(x:En d s g n):∀f{ns:Z}{L l:X aO}{b m:ar},(b.no=0->b.ok d)->jm b m->(b.no=0->L=l)->(b.no=0->Q d<b.w+f)->(b.no=0->Q d<b.w+ns)->(b.no=0->Q d-b.w<s+1)->jm (km g d f L b).2 (rD n d ns l m).2/\((km g d f L b).2.no=0->(km g d f L b).1=(rD n d ns l m).1)|f,ns,L,l,b,m,i,he,B,D,E,C=>by by_cases e:b.no=0;have i:=i e;have:=i.1;have u:=C e;have z:=B e;have A:=bG<|he.eq e;subst z;subst A;obtain⟨r,rfl⟩:∃r,f=r+1:=⟨f-1,o⟩;obtain⟨y,rfl⟩:∃y,ns=y+1:=⟨ns-1,o⟩;rw[km,rD];by_cases j:yo d b;rw[ae j,ae<|afg.1 j];have t:=av3 q x i e j.1.1.2 u;have k:=N3 q i u;refine afS q x r (λ_=>k.1) t.1 (λc=>by rw[t.2 c]) (λc=>?_) (λc=>?_) λc=>?_;have:=kx (k.2.2 e) (· c);omega;have:=kx (k.2.2 e) (· c);omega;have:=kx (k.2.2 e) (· c);omega;rw[ab j,ab λc=>j<|afg.2 c];trivial;rw[UF λc=>e c.1.1.1,afO λc=>e<|he.no.2 c.1.1.1];trivial
 termination_by f=>f
def afR{b:X v}{d e:ar->aO×ar}(i:qY b g d)(l:En b g d e){c f:ar}(m:c.no=0->c.ok b)(j:jm c f)(k:c.no=0->Q b-c.w<g+1):Cs (j7 d b c) (ny e b f):=by have n:=afS i l (Q b+1) (ns:=Q b+1) (L:=[]) m j (λ_=>p) (λ_=>o) (λ_=>o) k;unfold j7 ny;exact⟨n.1,λq=>ap⟩
theorem Qr{f:ar->aO×ar}{e:X v}{d:X aO}{b:ar}(c:¬fw e b 124):jW f e g d b=(d,b):=by
 cases g;rfl
 next g=>rw[jW,ab c,j9 c]
def XE{c:X v}{s:Z}{j n:ar->aO×ar}(q:qY c s j)(u:En c s j n):∀f{ns:Z}{L l:X aO}{b m:ar},(b.no=0->b.ok c)->jm b m->(b.no=0->L=l)->(b.no=0->Q c<b.w+f)->(b.no=0->Q c<b.w+ns)->(b.no=0->Q c-b.w<s+1)->jm (jW j c f L b).2 (q5 n c ns l m).2/\((jW j c f L b).2.no=0->(jW j c f L b).1=(q5 n c ns l m).1)
|f,ns,L,l,b,m,g,he,C,D,E,F=>by
 by_cases e:b.no=0;have g:=g e;have:=g.1;have A:=C e;have B:=bG<|he.eq e;subst A;subst B;obtain⟨r,rfl⟩:∃r,f=r+1:=⟨f-1,o⟩;obtain⟨z,rfl⟩:∃z,ns=z+1:=⟨ns-1,o⟩;rw[jW,q5];by_cases i:c2 c b.w 124;have x:b.step.ok c:=⟨(lJ i).1,g.2⟩;have:b.step.w=b.w+1:=p;rw[kY g e,ae i,ae<|show b.no=0/\c2 c _ 124=af from⟨e,i⟩,w8 g e i];have t:=afR q u (λ_=>x) (.refl _) λ_=>o;have k:=BN q x o;refine XE q u r (λ_=>k.1) t.1 (λd=>by rw[t.2 d]) (λd=>?_) (λd=>?_) λd=>?_;have:=kx (k.2.2 e) (· d);omega;have:=kx (k.2.2 e) (· d);omega;have:=kx (k.2.2 e) (· d);omega;have y:¬fw c b 124:=by rw[kY g e];exact i
 rw[ab y,ab<|show¬(b.no=0/\c2 c _ 124) fromλd=>i d.2,j9 y];trivial;rw[Qr GU,XB λd=>e<|he.no.2 d.1];trivial
 termination_by f=>f
def Qt{S:X v}:∀b,En S b (eB S b) (eJ S b)
|0=>λk _ _ e=>b9 e (vY _)|b+1=>λk i m e=>by have j:=Qt (S:=S) b;have d:=xG (S:=S) b;have f:=afR d j (λ_=>i) (.refl _) λ_=>o;have g:=BN d i e;have n:=XE d j (Q S+2) (ns:=Q S+2) (L:=[(j7 _ S k).1]) (λ_=>g.1) f.1 (λc=>by rw[f.2 c]) (λ_=>o) (λ_=>o) (λc=>by rcases g.2.2 m with l|l;omega;omega);rw[eB,eJ];exact⟨n.1,λc=>ap⟩
theorem agB S:yt S=h5 S:=by
 unfold yt h5;by_cases i:2000<Q S;simp_all;rw[ab i,ab i];have f:=Qt (S:=S) (Q S+1) ⟨0,0,0⟩ ⟨dO _,o⟩ p o;generalize eB S _ _=l at f⊢;generalize eJ S _ _=m at f⊢;obtain⟨q,b⟩:=l;obtain⟨r,s⟩:=m;obtain⟨e,g⟩:=f;dsimp at e g⊢;by_cases d:b.no=0;rw[e.eq d,g d];simp_all;have j:(if b.w<Q S then cv b b.w 6 else b)=b:=by split;exact wB d;rfl
 have k:=λc=>d<|e.no.2 c;rw[j,ab λc=>k c.1];unfold uz;rcases e with⟨c,_⟩|⟨_,n,h_⟩;omega;simp_all
def ahr{b:X (J×J)}{c:J}:g<Q b->z (sw b c) g ai=if g=Q b-1 then((z b (Q b-1) ai).1,c) else z b g ai:=by unfold sw;grind
def ag7{c:a1}:∀b,(∀g∈g3 c b,0<=g.1/\g.1<=g.2)/\∀e,0<e->e<Q (g3 c b)->(z (g3 c b) (e-1) ai).2+2<=(z (g3 c b) e ai).1
|0=>⟨λg f=>cc,λe _ f=>cc⟩|b+1=>by
 obtain⟨m,n⟩:=ag7 b;obtain⟨t,u,r⟩:=OB c b;have v:=Jj c b;rw[g3];by_cases x:z c b ad=ad;rw[ae x];exists m;rw[ab x];by_cases j:0<b/\z c (b-1) ad;rw[ae j];have A:=Ga c j.1 j.2;generalize g3 c b=d at m n t u r v A⊢;have:z d (Q d-1) ai∈d:=cT o;refine⟨λg q=>?_,λe s k=>?_⟩;unfold sw at q;rcases ajW q with f|f;grind;grind;rw[DM] at k;have:=n e s k;rw[ahr o,ahr k,ab o];by_cases i:e=Q d-1;rw[ae i,<-i];exact this;rw[ab i];exact this;rw[ab j];have w:0<Q (g3 c b)->z c (b-1) ad=ad:=λf=>by cases y:z c (b-1) ad;rfl;exact b9 ⟨o,y⟩ j
 generalize g3 c b=d at m n t u r v w⊢;refine⟨λg q=>?_,λe s k=>?_⟩;rcases eX.1 q with f|f;exact m g f;rw[ea.1 f];exact⟨by show(0:J)<=b;omega,uK _⟩;rw[cX,p_] at k;rw[dm,tt o,<-dm];by_cases i:e=Q d;subst i;have hm:z d (Q d-1) ai∈d:=cT o;have:=r (w o) _ hm;rw[dm (l:=d++_),xi<|bz _,oT];show(z d (Q d-1) ai).2+2<=b;omega;rw[dm (l:=d++_),tt o,<-dm];exact n e s o
def Uq{c:J}{d:X (J×J)}{b:X aO}(f:pi (.mk c d 0 0 b))(e:∀g∈b,e_ g):e_ (.mk c d 0 0 b):=p0.2 ⟨f,e⟩
def afc{b:J}(e:b=1\/b=2):e_ (.mk b [] 0 0 []):=by refine Uq ⟨⟨?_,?_⟩,λ_=>p,λc=>?_,?_,λj f=>?_,?_,λi _ d=>?_,λ_=>p,λc=>?_,λ_=>⟨p,p⟩,λc=>?_⟩ λk g=>cc;show 1<=b;omega;show b<=6;omega;have:b=6:=c;omega;show 0<=3000;omega;trivial;show 0<=256;omega;trivial;have:b=3:=c;omega;have:b=4\/b=5:=c;omega
theorem Up{b:a1}(j:Q b=256):e_ (kh b)/\(kh b).parts=1:=by rw[aae j];split;exists afc (bl p);obtain⟨g,i⟩:=ag7 256;refine⟨Uq ⟨⟨by show 1<=3;omega,by show 3<=6;omega⟩,λ_=>p,λc=>b9 (show(3:J)=6 from c) aR,by show 0<=3000;omega,λe d=>?_,Jj b 256,i,λc=>b9 p<|show(3:J)≠3 from c,λ_ f=>?_,λ_=>⟨p,p⟩,λc=>?_⟩ λl k=>cc,p⟩;have:=g e d;have:=(OB b 256).1 e d;omega;have:g3 b 256=[]:=f;simp_all;have:(3:J)=4\/(3:J)=5:=c;omega
theorem NM{e:aO}{c d:J}(j:e_ e)(f:0<=c)(g:c<=50)(i:d=-1\/c<=d/\d<=50):e_ (.mk 6 [] c d [e]):=by refine p0.2 ⟨⟨⟨by show 1<=6;omega,by show 6<=6;omega⟩,λb=>b9 (show(6:J)<4 from b) aR,λ_=>⟨p,f,g,i⟩,by show 1<=3000;omega,λr n=>?_,by show 0<=256;omega,λq _ m=>?_,λ_=>p,λb=>b9 (show(6:J)=3 from b) aR,λb=>b9 p<|show(6:J)≠6 from b,λb=>?_⟩,λl k=>?_⟩;trivial;trivial;have:(6:J)=4\/(6:J)=5:=b;omega;rw[ea.1<|show l∈[e] from k];exact j
def afe{b:J}{d:X aO}(j:b=4\/b=5)(e:∀g∈d,e_ g)(f:Q d<=3000):e_ (pm b d):=by unfold pm;split;exact afc<|bp p;split;simp_all;refine Uq ⟨⟨by show 1<=b;omega,by show b<=6;omega⟩,λc=>?_,λc=>?_,f,λm k=>?_,by show 0<=256;omega,λl _ i=>?_,λ_=>p,λc=>?_,λ_=>⟨p,p⟩,λ_=>?_⟩ e;have:b<4:=c;omega;have:b=6:=c;omega;trivial;trivial;have:b=3:=c;omega;show 2<=Q d;omega
theorem awt{b:X aO}(c:Q b=1):(z b 0 (.mk 0 [] 0 0 [])).parts=fE b:=by obtain⟨d,rfl⟩:=GK.1 c;rfl
def af9:∀c b,fE (c++b)=fE c+fE b|[],b=>by rw[tv,fE,kZ]|d::c,b=>by rw[yM,fE,fE,af9 c b,Ce]
theorem af_ c b:fE (c++[b])=fE c+b.parts:=by simp[af9,fE,uM]
def ahB c b:(pm c b).parts<=max 1 (fE b+(if 2<=Q b then 1 else 0)):=by unfold pm;split;show 1+fE []<=_;grind[fE];split;grind[awt];rw[aO.parts_eq,ae o];show 1+fE b<=_;omega
theorem aws{b:X aO}(c:Q b=0):fE b=0:=by rw[Ak.1 c,fE]
def ar.mr.no{b d:ar}(e:b.mr d)(f:d.no=0):b.no=0:=by by_cases c:b.no=0;exact c;have:=e.1 c;simp_all
def ar.mq.no{b d:ar}(e:b.mq d)(f:d.no=0):b.no=0:=by by_cases c:b.no=0;exact c;have:=e.1 c;simp_all
theorem DW{d:X v}{b:ar}{c:v}:(aF d b c).no=b.no:=by unfold aF;split<;>rfl
def El(d:X v)(e:Z)(c:ar->aO×ar):Prop:=∀b:ar,b.ok d->Q d-b.w<e->(c b).2.no=0->e_ (c b).1/\(c b).1.parts+3*b.w<=3*(c b).2.w+1
def ayF{b:X v}{c:ar}(d:c.ok b):e_ (p5 b c).1/\(p5 b c).1.parts=1:=by have:=OI (A:=Q b+1) (ip (l:=94) d) gO;grind[p5,Up,a1.zU]
def Nw{d:X v}{b:ar}{l:v}(c:(hx d b l).no=0):b.no=0/\(hx d b l).w=b.w+1:=by exists aew c;unfold hx at c⊢;split at c;rename_i e;rw[ae e];rfl;grind[b9,iT]
def alN{c:X v}{d:ar->aO×ar}(s:qY c g d)(t:El c g d){b:ar}(i:b.ok c)(u:Q c-b.w<g+1)(e:(jb d c b).2.no=0):e_ (jb d c b).1/\(jb d c b).1.parts+2+3*b.w<=3*(jb d c b).2.w:=by
 have j:=(Hc s i u).2;have:=kx (j.2<|j.no e) (· e);have one:e_ _/\(jb d c b).1.parts=1->e_ (jb d c b).1/\(jb d c b).1.parts+2+3*b.w<=3*(jb d c b).2.w:=λq=>⟨q.1,o⟩;have k:=ip (l:=40) i;have m:=ip (l:=91) k;have:=ip (l:=92)<|ip (l:=46) m;by_cases f:fw c b 40;have n:jb d c b=((d (aF c b 40)).1,hx c (d (aF c b 40)).2 41):=by unfold jb;rw[ae f]
 rw[n] at e⊢;have:=(uG i f).1;have:(aF c b 40).w=b.w+1:=by unfold aF;rw[ae f];rfl
 have r:=Nw e;have:=t _ k o r.1
 (simp_all;omega)
 apply one;unfold jb;rw[ab f];split;exact ayF m;split;simp[Up,a1.zU,trans,gO];grind[Up,wA,a1.xF,trans,gO]
theorem Uk{c:X v}{b:ar}:(gF c b g).2.no=0->(gF c b g).1<=50/\g<=(gF c b g).1:=by grind[gF,b9,iT]
theorem amk{c:X v}{b:ar}(i:b.ok c)(d:(k4 c b).2.2.no=0):(k4 c b).1<=50/\((k4 c b).2.1=-1\/(((k4 c b).1:Z))<=(k4 c b).2.1/\(k4 c b).2.1<=50):=by
 unfold k4 at d⊢;split at d;rename_i e;rw[ae e];split at d;have f:=(Nw d).1;grind[Uk,DW,IS,gF,ip];rename_i g;rw[ab g];have f:=(Nw d).1;exact⟨(Uk<|(DW).symm.trans f).1,bl p⟩;rename_i e;rw[ab e];have:=(Uk<|(DW).symm.trans (Nw (l:=125) d).1).1
 (simp;omega)
theorem Ow{b:aO}{c d:J}:(aO.mk 6 [] c d [b]).parts=1+b.parts:=by rfl
def Jd{d:X v}{r:Z}:∀f{g:aO}{b:ar},b.ok d->(b.no=0->e_ g/\g.parts+2+r<=3*b.w)->(mb d f g b).2.no=0->e_ (mb d f g b).1/\(mb d f g b).1.parts+2+r<=3*(mb d f g b).2.w
|0,g,b,_,he,c=>he c|f+1,g,b,u,he,c=>by
 have s:=ip (l:=42) u;have q:=ip (l:=43) s;have j:=ip (l:=63) q;have k:=ip (l:=123) j;have i:=Ld k;have:∀{b:ar}{l:v},fw d b l->(aF d b l).w=b.w+1:=λ{b l} e=>by unfold aF;rw[ae e];rfl
 rw[mb] at c⊢;by_cases m:fw d b 42;rw[ae m] at c⊢;refine Jd f s (λe=>?_) c;have:=he<|(DW).symm.trans e;exact⟨NM this.1 aR aR<|bl p,by grind[Ow]⟩;rw[ab m] at c⊢;rw[j9 m] at c q j k i⊢;by_cases n:fw d b 43;rw[ae n] at c⊢;refine Jd f q (λe=>?_) c;have:=he<|(DW).symm.trans e;exact⟨NM this.1 aR aR<|bl p,by grind[Ow]⟩;rw[ab n] at c⊢;rw[j9 n] at c j k i⊢;by_cases h_:fw d b 63;rw[ae h_] at c⊢;refine Jd f j (λe=>?_) c;grind[DW,NM,Ow];rw[ab h_] at c⊢;rw[j9 h_] at c k i⊢;by_cases l1:fw d b 123;rw[ae l1] at c⊢;refine Jd f i.1 (λe=>?_) c;have t:=i.2.no e;have:=kx (i.2.2 t) (· e);grind[DW,amk,NM,Int.natCast_nonneg,Ow];simp_all[ab,j9]
def av4{b:X v}{d:ar->aO×ar}(e:qY b g d)(k:El b g d){c:ar}(i:c.ok b)(f:Q b-c.w<g+1)(j:(nz d b c).2.no=0):e_ (nz d b c).1/\(nz d b c).1.parts+2+3*c.w<=3*(nz d b c).2.w:=Jd _ (Hc e i f).1 (alN e k i f ·) j
def afU{c:X v}{k:Z}{e:ar->aO×ar}(j:qY c k e)(n:El c k e):∀f{d:X aO}{b:ar},b.ok c->(b.no=0->Q c-b.w<k+1)->(b.no=0->∀i∈d,e_ i)->(km e c f d b).2.no=0->(∀i∈(km e c f d b).1,e_ i)/\fE (km e c f d b).1+2*Q (km e c f d b).1+3*b.w<=fE d+2*Q d+3*(km e c f d b).2.w
|0,d,b,_,_,q,g=>⟨q g,bz _⟩|f+1,d,b,t,r,q,g=>by rw[km] at g⊢;by_cases m:yo c b;rw[ae m] at g⊢;have s:=m.1.1.1;have x:=N3 j t<|r s;by_cases l:(nz e c b).2.no=0;have:=av4 j n t (r s) l;have:=afU j n f x.1 (λ_=>o) (λ_ i y=>by grind) g;grind[af_,List.length_append,List.length_singleton];rw[UF λu=>l u.1.1.1] at g;trivial;simp_all
def afT{b:X v}{d:ar->aO×ar}(f:qY b g d)(n:El b g d){c:ar}(e:c.ok b)(i:Q b-c.w<g+1)(j:(j7 d b c).2.no=0):e_ (j7 d b c).1/\(j7 d b c).1.parts+3*c.w<=3*(j7 d b c).2.w+1:=by have k:=afU f n _ e (λ_=>i) (λ_ r q=>cc) j;have l:=NV f (A:=Q b+1) (L:=[]) e i;have:=ahB 4 (km d b (Q b+1) [] c).1;have:=e.2;have m:=l.2.2;simp at m;unfold j7;exists afe (bl p) k.1 o;grind[fE,List.length_nil,pm,km]
def XG{c:X v}{m:Z}{e:ar->aO×ar}(j:qY c m e)(n:El c m e):∀f{d:X aO}{b:ar},b.ok c->(b.no=0->Q c-b.w<m+1)->(b.no=0->∀i∈d,e_ i)->(jW e c f d b).2.no=0->(∀i∈(jW e c f d b).1,e_ i)/\fE (jW e c f d b).1+2*Q (jW e c f d b).1+3*b.w<=fE d+2*Q d+3*(jW e c f d b).2.w/\Q (jW e c f d b).1<=Q d+f
|0,d,b,_,_,q,g=>⟨q g,bz _,bz _⟩|f+1,d,b,r,x,q,g=>by
 rw[jW] at g⊢;by_cases k:fw c b 124;rw[ae k] at g⊢;have:=uG r k;have s:=ip (l:=124) r;have:(aF c b 124).w=b.w+1:=by unfold aF;rw[ae k];rfl
 have u:=BN j s o;by_cases t:(j7 e c<|aF c b 124).2.no=0;have:=afT j n s o t;have:=XG j n f u.1 (λ_=>o) (λ_ i y=>by grind) g;grind[af_,List.length_append,List.length_singleton];grind[Qr,w9,b9];simp_all[ab,j9,bz,Cg]
def XF{S:X v}:∀b,El S b (eB S b)
|0=>λc _ f _=>b9 f (vY _)|b+1=>λc i f m=>by
 have l:=XF (S:=S) b;have e:=xG (S:=S) b;have k:=BN e i f;have:=i.2;have j:(jW _ S _ _ _).2.no=0:=m;have d:(j7 (eB S b) S c).2.no=0:=by by_cases d:(j7 (eB S b) S c).2.no=0;exact d;grind[Qr,w9,b9]
 have:=afT e l i f d;have g:=XG e l _ k.1 (λ_=>o) (λ_ s r=>ap) j;have:=ahB 5 (jW (eB S b) S (Q S+2) [(j7 (eB S b) S c).1] (j7 (eB S b) S c).2).1;have n:=g.2.1;have q:=g.2.2;rw[p_] at q;rw[fE,fE,p_] at n;exists afe (bp p) g.1 o;have:=by have:=(Qs e (A:=Q S+2) (L:=[(j7 (eB S b) S c).1]) k.1 λ_=>o).2;exact kx (this.2 d) (· j)
 grind[jW,eB,j7,aws]
theorem axo{b:X v}(f:Q b<=2000)(e:(eB b (Q b+1) ⟨0,0,0⟩).2.no=0):e_ (eB b (Q b+1) ⟨0,0,0⟩).1/\(eB b (Q b+1) ⟨0,0,0⟩).1.parts<=6001:=by
 have d:(⟨0,0,0⟩:ar).ok b:=⟨dO _,f⟩;have c:Q b-(⟨0,0,0⟩:ar).w<Q b+1:=o;have:=XF _ _ d c e;have:=(xG _ _ d c).1.1
 (simp_all;omega)
def auv{b:X v}:(eJ b (Q b+1) ⟨0,0,0⟩).2.no=0->Q b<=2000->Cs (eB b (Q b+1) ⟨0,0,0⟩) (eJ b (Q b+1) ⟨0,0,0⟩):=λ_ c=>
 Qt _ _ ⟨dO _,c⟩ p o
theorem abD{b:X v}:Q b<=2000->(eB b (Q b+1) ⟨0,0,0⟩).2.no=0->e_ (eB b (Q b+1) ⟨0,0,0⟩).1/\(eB b (Q b+1) ⟨0,0,0⟩).1.parts<=1000000:=λd c=>by grind[axo]
def abE{S:X v}:Q S<=2000->(eJ S (Q S+1) ⟨0,0,0⟩).2.no=0->e_ (eJ S (Q S+1) ⟨0,0,0⟩).1/\(eJ S (Q S+1) ⟨0,0,0⟩).1.parts<=1000000:=λe b=>by have c:=auv b e;have d:=c.1.no.2 b;rw[<-c.2 d];grind[abD]
def axn b:Q b<=1048576->bb 86 [bV b] (cs [c0 (h5 b).1,an aj (h5 b).2.1,an aj (h5 b).2.2]):=by grind[apJ,abD,agB]
def F9{S:X v}(c:(h5 S).2.2=0):e_ (h5 S).1/\(h5 S).1.parts<=400/\(h5 S).1.fC<=40:=by
 unfold h5 at c⊢;split at c;trivial;have e:=abE (S:=S) o;generalize eJ S _ _=f at c e⊢;obtain⟨d,b⟩:=f;have:b.no=0/\(uz d (if b.no=0/\b.w<Q S then cv b b.w 6 else b)).1=d/\d.fC<=40/\d.parts<=400:=by generalize g:(if b.no=0/\b.w<Q S then cv b _ 6 else b)=i at c⊢;unfold uz at c⊢;split at c;trivial;grind
 grind
noncomputable def dl:tI:=⟨λb=>(h5 b).2.2,λb=>(h5 b).1,λb=>(h5 b).2.1,λb=>(h5 b).2.1,λc=>(i6 c).2,λc=>(i6 c).1,mx⟩
def afL:KP dl:=⟨λd c=>aw3 d c abE,λd c b=>aw2 (F9 b).1 (F9 b).2.1 (F9 b).2.2⟩
theorem am1{b:bF}(t:hJ b)(r:(lC (iW b)).next.length<=300):(lC (iW b)).ok/\iW (lC (iW b))=iW b:=by
 classical
 have j:lC (iW b)=nR xR IP _:=p;have s:=by
  have:(lC (iW b)).next.length=Q (wP (iW b) ql):=by exact bg ..
  omega
 have g:∀i∈wP _ _,∀n∈hc xR i,n∈wP (iW b) ql:=λi l=>EC (by grind[wP,iW,ql,QZ]) l;have f:(wP _ _)[0]?=W _:=zX (o4 (succ:=hc xR) (b7:=[iW b])<|dO ql) p;have k:=(e3.1 f).1;have e:=XS (acc:=IP) g o k;rw[j];refine⟨⟨?_,?_,e.acc,e.h,e.start,e.dst⟩,?_⟩;show 0<Q (aa _ _);(simp;omega);trivial;rw[XR g f];funext c;have:∀(c:X _)(d:u1),IP (qM xR d c)=d c:=by
  intro c
  induction c with|nil=>exactλd=>p|cons q c m=>exactλd=>m _
 exact this c _
def TD{b:aO}(g:e_ b)(c:(i6 b).2=0):(i6 b).1.ok/\iW (i6 b).1=sh b:=by
 unfold i6 at c⊢;split at c;cases c;rename_i f;have d:=by refine Kn λe=>f<|bp<|bl e
 have j:=XT d;have i:iW _=sh b:=QE d;grind[am1]
section
noncomputable def rx(b:X v):J:=if(h5 b).2.2≠0 then(h5 b).2.2 else(i6 (h5 b).1).2
def hO:da (bF×X v)->V|ah=>.jD|W (b,c)=>fy 5 [bH [k b.start,.a 1<|aa a_ b.acc,.a 1<|aa b6 b.next,bV c,a6 af]] 0 0
noncomputable def oB(b:X v):da (bF×X v):=if rx b≠0 then ah else if mx (i6 (h5 b).1).1 then ah else W ((i6 (h5 b).1).1,b)
attribute [local irreducible] h5 i6 mx
def afY{b:X v}(s:Q b<=1048576):bb 43 [bV b] (cs [hO (oB b),an aj (rx b)]):=by
 refine bx func43 [] λt u=>?_;refine aS ?_ (f:=axn b s);apply e<;>intro k
 .have c:=by simpa using k
  have d:rx b=(h5 b).2.2:=ae c;have g:oB b=ah:=ae o;rw[g,d];exact aA
 have c:¬(h5 b).2.2≠0:=by simpa using k
 obtain⟨i,n,q⟩:=F9<|GF.1 c;have d:rx b=(i6 (h5 b).1).2:=ab c;refine aS ?_ (f:=avu i n q);apply e<;>intro r
 .have g:oB b=ah:=ae o;rw[g,d];exact aA
 have j:=by simpa using r
 obtain⟨f,_⟩:=TD i j;rw[d,j];have m:oB b=if mx _ then ah else W _:=ab o
 refine aS ?_ (f:=avs f.wf f.len);apply e<;>intro l
 .rw[m,ae l];exact aA
 rw[m,ab l];exact RQ 36 5 aA
theorem anK(b:X J)(bQ:Q b<=1048576)(c:aa c7 b≠[]):bb 46 [.a 1 (aa c7 b)] (.a 1 (aa c7 b)):=by
 refine bx func46 [] λf g=>?_;refine aui ?_ c;apply e<;>intro i
 .trivial
 refine pW ?_;refine e7 _ ?_ (hl:=.a p p p p λj d=>(by obtain⟨_,_,rfl⟩:=cV.1 d;rfl)) (bQ:=a2);exact ib 5 aA
open Go.RowKit
theorem anL:bb 46 [.a 1 []] (.a 1 []):=by
 intro i G f v x y z K;obtain⟨b,rfl⟩:∃b,G=[b]:=GK.1 x;have E:bj i (.a 1 []) b:=y 0 _ _ p p;have s:∀{c:Ending}{e:World}{n:Value},c=mM n->bj i (.a 1 []) n->Below f.heap.size f e->∃b m l g,c=mM b/\(m=V.a 1 []/\l=[])/\bj g m b/\Holds ⟨f,v,i,aa (·.1) ([]:b0),hB,0⟩ g l e:=λ{c e n} he D d=>
  ⟨n,.a 1 [],[],i,he,⟨p,p⟩,D,z.grown ⟨d.os,d.tape,d.output,d.size,λF j _=>d.block F j⟩⟩
 have zero:∀(q:Addr)(k:Z),b=.slice (W q) 0 k->Calls b5 46 (aT [b]) f (λc e=>∃b m l g,c=mM b/\(m=V.a 1 []/\l=[])/\bj g m b/\Holds ⟨f,v,i,aa (·.1) ([]:b0),hB,0⟩ g l e):=λq k C=>by subst C;refine(Tryz.slices_Clone_int_zero q k f).mono ?_;rintro c e ⟨n,he,⟨_,B⟩,L,d⟩;rcases B with⟨rfl,_⟩|⟨w,cap,J,rfl,_,_,_,A,_⟩;trivial;exact s he (.a 1 [] w 0 cap (λ_ _=>.bool ad) o A (λu r t=>cc) (λu k r H t=>cc) λu k r H t=>cc) d
 cases E with|slnil=>refine(Tryz.slices_Clone_int_nil 0 0 f).mono ?_;rintro c e ⟨he,rfl⟩;exact s he (.slnil 1) (.refl _ _)|z_=>exact zero _ 0 p|a _ _ I base cap=>simp_all
def YF(b:X J)(c:Q b<=1048576):bb 46 [.a 1 (aa c7 b)] (.a 1 (aa c7 b)):=by grind[c7,anL,anK]
structure cG where
 null:Y
 eR:J
 cd:eZ
 gg:da (bF×X v)
 list:Y
 dH:X J
 item:J
 min:J
 max:J
 iN:Y
 a8:X dq
 rest:J
def gX(b:cG)(e d c:V):V:=bH [a6 b.null,an aj b.eR,.a 3<|aa cn b.cd.w,.a 1<|aa a_ b.cd.on,.a 2<|aa hZ b.cd.ie,e,a6 b.list,d,an aj b.item,an aj b.min,an aj b.max,a6 b.iN,c,an aj b.rest]
def kg(b:cG):V:=gX b (hO b.gg) (.a 1<|aa c7 b.dH)<|.a 3<|aa dj b.a8
def cG.elem(b:cG)(c:Z):J:=if c<Q b.dH then z b.dH c 0 else b.item
def cG.plain(b:cG):Y:=b.null||aL (0<b.eR)||b.gg.isSome||!b.cd.empty
def pT(c:X Y)(b:J):Y:=aL (0<=b)&&z c (aB b) ad
def cG.zG(b:cG):Z:=if b.min<=Q b.dH then aB b.min else Q b.dH+1
def cG.cJ(b:cG)(c:X Y):Y:=b.list&&(List.range b.zG).all λd=>pT c<|b.elem d
def AY(c:X Y)(b:dq):Y:=b.g_&&!z c (aB b.shape) ad
def cG.as6{b:cG}{c:X Y}(d:g<b.zG)(e:pT c (b.elem g)=ad):b.cJ c=ad:=by grind[cG.cJ,Bool.and_eq_false_iff,List.all_eq_false]
def cG.adb{b:cG}{c:X Y}(e:b.list)(f:∀d,d<b.zG->pT c (b.elem d)):b.cJ c:=by simp_all[cG.cJ,xf,m9,g4]
def cG.asY{b:cG}(c:(g:J)<b.min)(d:g<=Q b.dH):g<b.zG:=by grind[cG.zG]
def cG.du(b:cG)(c:X Y):Y:=b.iN&&!b.a8.any (AY c)
def ZV(c:cG){Gu:V}(d:V)(b:Z):bb 93 [fy 14 [gX c Gu (.a 1 (aa c7 c.dH)) d] 0 0,k b] (an aj (c.elem b)):=by
 refine bx func93 [] λf g=>?_;apply e<;>intro i
 .refine bi b (c7<|z c.dH b 0) ?_ (j:=ap);exact aA (q:=by rw[cG.elem,ae o];rfl)
 exact aA (q:=by rw[cG.elem,ab o];rfl)
def av_(b:cG)(d c:V)(e:b.cd.ok):bb 92 [fy 14 [gX b .jD d c] 0 0] (a6 (b.null||aL (0<b.eR)||ad||!b.cd.empty)):=by refine bx func92 [] λg i=>?_;refine eA ?_;apply ev;refineλj=>T8<|p;apply ev;refineλk=>kz ?_ (f:=Ny e);exact p;exact aA
theorem awa(b:cG)(c:bF)(i:X v)(e d:V)(g:b.cd.ok):bb 92 [fy 14 [gX b (hO (W (c,i))) e d] 0 0] (a6 (b.null||aL (0<b.eR)||af||!b.cd.empty)):=by refine bx func92 [] λj k=>?_;refine eA ?_;apply ev;refineλl=>T8<|p;apply ev;refineλm=>kz ?_ (f:=Ny g);exact p;exact aA
def aze(b:cG){d c:V}(e:b.cd.ok):bb 92 [fy 14 [gX b (hO b.gg) d c] 0 0] (a6 b.plain):=by unfold cG.plain;cases f:b.gg with|none=>exact av_ b d c e|some g=>grind[awa]
def ada(b:cG){Gu q n:V}(G:b.list->q=.a 1 (aa c7 b.dH))(g:X Y)(H:b.list->0<=b.min/\∀x, -1<=b.elem x/\b.elem x<Q g)(P:Q b.dH<=1048576):bb 48 [fy 14 [gX b Gu q n] 0 0,.a 1 (aa a_ g)] (a6 (b.cJ g)):=by
 refine bx func48 [] λM N=>?_;apply e<;>intro A
 .rw[show b.cJ g=ad by grind[cG.cJ]];exact aA
 have l:b.list:=by simpa using A
 obtain rfl:=G l;obtain⟨L,F⟩:=H l;refine dv Z (λc=>⟨[(0,fy 14 [gX b Gu (.a 1<|aa c7 b.dH) n] 0 0),(1,.a 1<|aa a_ g),(15,an aj b.min),(16,k c)],[],[]⟩) (λc=>(c:J)<=b.min/\c<=Q b.dH/\∀d,d<c->pT g (b.elem d)) (λc=>Q b.dH-c) 0 (λc t=>?_) ⟨L,dO _,λd m=>b9 m<|vY d⟩;apply e<;>intro B
 .obtain⟨I,u,v⟩:=t;obtain⟨D,E⟩:=F c;obtain⟨i,s⟩:∃i,b.elem c=i:=⟨_,p⟩;have f:=ZV b (Gu:=Gu) n c;rw[s] at f D E;have K:(c:J)<b.min:=B;refine aS ?_ (f:=f);apply ev;refineλR=>bi (aB i) (a_<|z g (aB i) ad) ?_ (j:=ED o);exact p;apply e<;>intro C
  .have w:pT g (b.elem c)=ad:=by unfold pT;rcases C with y|y;simp_all;simp_all
   rw[cG.as6 (cG.asY K u) w];exact aA
  have w:pT g (b.elem c):=by unfold pT;rw[s,j_,ir];exact⟨o,by simp_all⟩
  have r:∀d,d<c+1->pT g (b.elem d):=λd m=>by grind
  apply e<;>intro O
  .rw[cG.adb l λd m=>r d (by grind[cG.zG])];exact aA
  exact bc<|a0 (c+1) ⟨o,o,r⟩
 obtain⟨I,u,v⟩:=t;rw[cG.adb l λd m=>v d (by grind[cG.zG])];exact aA
def Bn{d:Type}(c:d->Y):X d->Z->J|[],_=>-1|e::f,b=>if c e then(b:Z) else Bn c f (b+1)
def abL{d:Type}{H:d->Y}:∀(b:X d)(c:Z),b.any H=aL (0<=Bn H b c)|[],c=>p|e::b,c=>by rw[B7,Bn];cases f:H e;exact abL (H:=H) b _;rfl
def aBB{b:X dq}(c:g<Q b):z b g ai=b[g]:=ap
def HT(c:Z)(b:dq):Prop:=b.g_=af->0<=b.shape/\b.shape<c
def aoL(b:dq)(c:X Y)(e:HT (Q c) b):bb 94 [dj b,fy 1 [.a 1 (aa a_ c)] 0 0] (a6 (AY c b)):=by refine bx func94 [] λf g=>?_;apply c9;refineλd=>bi (aB b.shape) _ ?_ (j:=ED (by have:=e d;omega)) (a7:=by have:=e d;omega);exact p;exact aA
def arl(c:X dq)(d:X Y)(t:Q c<=1000000)(q:∀i∈c,HT (Q d) i):bb 154 [.a 3 (aa dj c),e4 (dp 94) [] [fy 1 [.a 1 (aa a_ d)] 0 0]] (an aj (Bn (AY d) c 0)):=by
 refine bx func154 [] λl m=>?_;refine i0 (Q c) (λb=>Bn (AY d) c 0=Bn (AY d) (aU b c) b) (λb=>⟨[(0,_),(1,_),(7,_),(8,k b)],[],[]⟩) (λb j=>?_) (cq:=.r);apply e<;>intro s
 .have g:b<Q c:=o;refine bi b (dj<|z c b ai) ?_ (j:=ap);refine aS ?_ (f:=aoL (z c b _) d<|q _ ap);apply e<;>intro n
  .exact aA (q:=by rw[j.2,pt g,Bn,ae ap];rfl)
  refine bc ?_;exact a0 (b+1) ⟨o,by rw[j.2,pt g,Bn,ab ap]⟩
 exact aA (q:=by rw[j.2,kM o];rfl)
def aoj{b:X dq}(c:X Y)(e:Q b<=1000000)(q:∀d∈b,HT (Q c) d):bb 95 [.a 3 (aa dj b),e4 (dp 94) [] [fy 1 [.a 1 (aa a_ c)] 0 0]] (a6 (b.any (AY c))):=by refine bx func95 [] λg i=>?_;refine aS ?_ (f:=arl b c e q);exact aA (q:=by rw[abL b 0];rfl)
def ae8(b:cG){m e d:V}(i:b.iN->d=.a 3 (aa dj b.a8))(c:X Y)(k:Q b.a8<=1000000)(l:∀g∈b.a8,HT (Q c) g):bb 49 [fy 14 [gX b m e d] 0 0,.a 1 (aa a_ c)] (a6 (b.du c)):=by refine bx func49 [2001] λn q=>?_;refine aZ.x1 3 1<|dM ?_;apply c9;intro j;obtain rfl:=i j;refine kz ?_ (f:=aoj c k l);exact p;exact aA
end
section
instance:Inhabited cG:=⟨⟨ad,0,⟨[],[],[]⟩,ah,ad,[],0,0,0,ad,[],0⟩⟩
structure KR(kd:Z)(M:cG):Prop where
 cd:M.cd.ok
 TC:M.list->0<=M.min/\∀A, -1<=M.elem A/\M.elem A<kd
 eh:Q M.dH<=1048576
 Zp:Q M.a8<=1000000
 fd:∀ao∈M.a8,HT kd ao
def cG.some(b:cG)(c:X Y):Y:=b.plain||b.cJ c||b.du c
def nD(b:X cG)(c:Z)(d:X Y):Y:=(z b c ai).some d
def gK(b:X cG):X Y:=qr (nD b) (Q b)<|cM (Q b) ad
def alo(b:X cG):Q (gK b)=Q b:=by
 unfold gK qr;have f:∀(c:Z)(d:X _),Q (nW (nD b) (Q b) c d)=Q d:=by
  intro c
  induction c with|zero=>intro d;rfl|succ c e=>grind[nW,BM]
 simp_all
def afJ{c:Z->X Y->Y}{b:X Y}:eE c b 0=b:=p
def avU{b:Z->X Y->Y}{c:X Y}(d:¬(z (eE b c g) g af=ad/\b g (eE b c g))):eE b c (g+1)=eE b c g:=by rw[eE,ab d]
def aww{b:X cG}(c:g<Q b):(aa kg b)[g]?=W (gX (z b g ai) (hO (z b g ai).gg) (.a 1 ((z b g ai).dH.map c7)) (.a 3 ((z b g ai).a8.map dj))):=gD c
def aqs{b:X cG}(c:g<Q b):z b g ai=b[g]:=ap
attribute [local irreducible] gX cG.cJ cG.du cG.plain qr eE
def alr(b:X cG)(n:J)(F:∀I∈b,KR (Q b) I)(U:Q b<=1000000):dF 47 [c 6000] [(6000,ag 47 (bH [.aq 6001 0 (Q (aa kg b)),an aj n])),(6001,.h 14 75 (aa kg b))] (.a 1 (aa a_ (gK b))) [(6000,ag 47 (bH [.aq 6001 0 (Q (aa kg b)),an aj n])),(6001,.h 14 75 (aa kg b))]:=by
 refine dN func47 [] λam K N=>?_;have v:Q (aa kg b)=Q b:=bg ..;refine kF (Q b) (Q b) (aa a_<|cM (Q b) ad) ?_ (j:=ep nK v) (j1:=ep nK v) (aW:=xt);refine dv (X Y×Y) (λi=>⟨[(0,c 6000),(3,.aq 12 0<|Q b),(4,a6 i.2)],[(12,.h 1 4<|aa a_ i.1),(6001,.h 14 75<|aa kg b),(6000,ag 47<|bH [.aq 6001 0 (Q<|aa kg b),an aj n])],[]⟩) (λi=>Q i.1=Q b/\(i.2=af->qr (nD b) (Q b) i.1=gK b)/\(i.2=ad->i.1=gK b)) (λi=>2*rb i.1+(if i.2 then 1 else 0)) (cM (Q b) ad,af) (λ⟨d,y⟩ ⟨H,ak,G⟩=>?_) ⟨sH,λ_=>p,λs=>by cases s⟩;apply e<;>intro A
 .refine dv (Z×X Y×Y) (λg=>⟨[(0,c 6000),(3,.aq 12 0<|Q b),(4,a6 g.2.2),(18,k<|Q<|aa kg b),(19,k g.1)],[(12,.h 1 4<|aa a_ g.2.1),(6001,.h 14 75<|aa kg b),(6000,ag 47<|bH [.aq 6001 0 (Q<|aa kg b),an aj n])],[]⟩) (λg=>g.1<=Q b/\g.2.1=eE (nD b) d g.1/\g.2.2=aL (eE (nD b) d g.1≠d)) (λg=>Q b-g.1) (0,d,ad) (λ⟨E,al,u⟩ x=>?_) ⟨dO _,bG<|afJ,by simp[afJ]⟩ ⟨⟨a3,a3,p,a3,a3,c1⟩,⟨a3,a3,a3,c1⟩,p,p⟩;dsimp only at x⊢;obtain⟨j,rfl,P⟩:=x;have t:Q (eE (nD b) d E)=Q b:=by rw[BM];exact H
  have w:Q (aa a_ (eE (nD b) d E))=Q b:=by rw[bg];exact t
  apply e<;>intro O
  .have D:E<Q b:=o;have m:E<Q (aa kg b):=o;have l:=F (z b E ai) ap;have r:=aww D;refine cC E ?_ (j:=m);refine cC E ?_;refine e9 (a_<|z (eE (nD b) d E) E af) ?_ (j:=je o);apply c9;intro R;refine kz ?_ (f:=fA.DK (aze (z b E ai) l.cd) r) (wK:=.cons (.h p m) .nil);apply ev;intro S;refine kz ?_ (f:=fA.DK (ada (z b E ai) (λ_=>p) (eE (nD b) d E) (by rw[t];exact l.TC) l.eh) r) (wK:=.cons (.h p m)<|.cons (.a p<|bG w) .nil);exact p;apply ev;intro T;refine kz ?_ (f:=fA.DK (ae8 (z b E ai) (λ_=>p) (eE (nD b) d E) l.Zp (by rw[t];exact l.fd)) r) (wK:=.cons (.h p m)<|.cons (.a p<|bG w) .nil);exact p;exact p;apply e<;>intro B
   .have q:=afI (sm:=nD b) (L:=d) (E:=E) ap (by simp_all[nD,cG.some,p9]);refine cC E ?_;refine gN (aa a_<|aK (eE (nD b) d E) E af) (a_<|z (eE (nD b) d E) E af) (a_ af) ?_ (j:=je o) (aW:=av);refine bc ?_;exact a0 (E+1,aK (eE (nD b) d E) E af,af) ⟨o,bG q.1,aY⟩ o
   have q:eE (nD b) d (E+1)=eE (nD b) d E:=avU λM=>B ⟨ap,by simp_all[nD,cG.some,p9]⟩;refine bc ?_;exact a0 (E+1,eE (nD b) d E,u) ⟨o,bG q,ap⟩ o
  obtain rfl:E=Q b:=o;exact a0 (eE (nD b) d<|Q b,u) ⟨o,λs=>by
   grind[aay],λs=>by grind[aaz]⟩ (by grind[zV,nD])
 have C:y=ad:=by simpa using A
 rw[<-G C];exact zp (aJ:=aa a_ d) 12 (Q b) a2 cE
end
section
def kI(c:X Y)(b:cG):cG:=if b.list/\b.cJ c=ad then{b with list:=ad,dH:=[],item:=-1,min:=0,max:=0} else b
def st(c:X Y)(b:cG):cG:=if b.iN/\b.du c=ad then{b with iN:=ad,a8:=[],rest:=-1} else b
def gp(b:X Y)(c:cG):cG:=st b<|kI b c
def zt(c:X Y)(b:cG):V:=if b.list/\b.cJ c=ad then .ba else .a 1 (aa c7 b.dH)
def E4(b:X Y)(c:cG):V:=if(kI b c).iN/\(kI b c).du b=ad then .ba else .a 3 (aa dj c.a8)
def wy(c:X Y)(b:cG):V:=gX (gp c b) (hO b.gg) (zt c b)<|E4 c b
def lm(d:X Y)(b:X cG)(c:Z):X V:=aa (wy d) (ak c b)++aa kg (aU c b)
def awn(c:X Y)(b:X cG)(d:Z):Q (lm c b d)=Q b:=by(simp[lm,cX,bg,mK,B_];omega)
def awm{c:X Y}{b:X cG}(d:g<Q b):(lm c b g)[g]?=W (kg (z b g ai)):=by unfold lm<;>grind
def awo(c:X Y){b:X cG}(d:g<Q b):aK (lm c b g) g (wy c (z b g ai))=lm c b (g+1):=by
 have e:Q (aa (wy c) (ak g b))=g:=by rw[bg,mK];omega
 unfold lm;rw[An _ _ o,e,oT,pt d,iO,GM,Wz,cm d,dn,aqs d,fJ];rfl
def awl(c:X Y)(b:X cG):lm c b (Q b)=aa (wy c) b:=by simp[lm,g5,GJ,vV,ff]
def aBW(c:X Y)(b:X cG):lm c b 0=aa kg b:=a3
theorem Oa{c:X Y}{b:cG}(d:b.list/\b.cJ c=ad):kI c b={b with list:=ad,dH:=[],item:=-1,min:=0,max:=0}:=ae d
theorem N_{c:X Y}{b:cG}(d:¬(b.list=af/\b.cJ c=ad)):kI c b=b:=ab d
theorem Ob{c:X Y}{b:cG}(d:b.iN/\b.du c=ad):st c b={b with iN:=ad,a8:=[],rest:=-1}:=ae d
theorem UO{c:X Y}{b:cG}(d:¬(b.iN=af/\b.du c=ad)):st c b=b:=ab d
def awi(c:X Y)(b:cG):(kI c b).a8=b.a8/\(kI c b).iN=b.iN:=by unfold kI<;>grind
def ayH{d:Type}{b:X d}{c:d}(e:b[g]?=W c):b=aK b g c:=by refine jI λf=>?_;grind
def DN{b:X V}(c:g<Q b){U:V}:(aK b g U)[g]?=W U:=ap
attribute [local irreducible] cG.cJ cG.du lm gK hO
def awv(d:X cG)(v:J)(r:Z)(S:r=Q d)(M:∀b∈d,KR (Q d) b)(O:Q d<=1000000):dF 22 [c 6000] [(6000,ag 47 (bH [.aq 6001 0 r,an aj v])),(6001,.h 14 75 (aa kg d))] (.a 1 (aa a_ (gK d))) [(6000,ag 47 (bH [.aq 6001 0 r,an aj v])),(6001,.h 14 75 (aa (wy (gK d)) d))]:=by
 refine dN func22 [31] λaw ak al=>?_;have R:Q (aa kg d)=Q d:=bg ..;have G:=alo d;refine bI [(6000,6000),(6001,6001)] ?_ (f:=bC S (bG R)▸alr d v M O);refine eC (Q d) (λg=>⟨[(0,c 6000),(3,.a 1<|aa a_<|gK d),(12,k r),(13,k g)],[(6001,.h 14 75<|lm (gK d) d g),(6000,ag 47<|bH [.aq 6001 0 r,an aj v])],[]⟩) λg j=>?_;apply e<;>intro am
 .have L:g<Q d:=o;have au:Q (lm (gK d) d g)=Q d:=by rw[awn]
  have m:g<Q (lm (gK d) d g):=o;have u:=M (z d g ai) ap;have t:(lm (gK d) d g)[g]?=W (kg (z d g ai)):=awm L;have y:=awo (gK d) L;obtain⟨b,T⟩:∃b,z d g ai=b:=⟨_,p⟩;rw[T] at u t y;have E:=awi (gK d) b;obtain⟨i,w⟩:∃i,kI (gK d) b=i:=⟨_,p⟩;obtain⟨s,B⟩:∃s,st (gK d) i=s:=⟨_,p⟩;obtain⟨l,C⟩:∃l,zt (gK d) b=l:=⟨_,p⟩;obtain⟨n,K⟩:∃n,E4 (gK d) b=n:=⟨_,p⟩;rw[show wy (gK d) b=gX s (hO b.gg) l n by grind[wy,gp]] at y;rw[w] at E;refine cC g ?_ (j:=o);refine gf (X V) (λA=>⟨[(0,c 6000),(3,.a 1<|aa a_<|gK d),(5,.en 6001 g 0),(12,k r),(13,k g)],[(6001,.h 14 75 A),(6000,ag 47<|bH [.aq 6001 0 r,an aj v])],[]⟩) (λA=>A=aK (lm (gK d) d g) g (gX i (hO b.gg) l<|.a 3<|aa dj b.a8)) ?_ λA Y=>?_
  .refine e9 (kg b) ?_ (j:=t);apply c9;intro ao;refine kz ?_ (f:=fA.DK (ada b (λ_=>p) (gK d) (by rw[G];exact u.TC) u.eh) t) (wK:=.cons (.h p m)<|.cons (.pl p) .nil);exact p;apply e<;>intro H
   .have q:b.list/\b.cJ (gK d)=ad:=⟨H.1,ap⟩;refine gN (aK (lm (gK d) d g) g<|gX {b with list:=ad} (hO b.gg) (.a 1<|aa c7 b.dH)<|.a 3<|aa dj b.a8) (kg b) _ ?_ (j:=t);refine gN (aK (lm (gK d) d g) g<|gX {b with list:=ad} (hO b.gg) .ba<|.a 3<|aa dj b.a8) (gX {b with list:=ad} (hO b.gg) (.a 1<|aa c7 b.dH) (.a 3<|aa dj b.a8)) _ ?_ (j:=DN m) (aW:=Cd ..);refine gN (aK (lm (gK d) d g) g<|gX {b with list:=ad,item:=-1} (hO b.gg) .ba<|.a 3<|aa dj b.a8) (gX {b with list:=ad} (hO b.gg) .ba (.a 3<|aa dj b.a8)) _ ?_ (j:=DN m) (aW:=Cd ..);refine gN (aK (lm (gK d) d g) g<|gX {b with list:=ad,item:=-1,min:=0} (hO b.gg) .ba<|.a 3<|aa dj b.a8) (gX {b with list:=ad,item:=-1} (hO b.gg) .ba (.a 3<|aa dj b.a8)) _ ?_ (j:=DN m) (aW:=Cd ..);refine gN (aK (lm (gK d) d g) g<|gX i (hO b.gg) l<|.a 3<|aa dj b.a8) (gX {b with list:=ad,item:=-1,min:=0} (hO b.gg) .ba<|.a 3<|aa dj b.a8) (gX i (hO b.gg) l (.a 3<|aa dj b.a8)) ?_ (j:=DN m) (St:=by rw[<-w,<-C,Oa q,show zt (gK d) b=.ba from ae q];rfl) (Sx:=by rw[<-w,<-C,Oa q,show zt (gK d) b=.ba from ae q];rfl) (aW:=Cd ..);exact cA (aK (lm (gK d) d g) g<|gX i (hO b.gg) l<|.a 3<|aa dj b.a8) p
   have q:¬(b.list=af/\b.cJ (gK d)=ad):=λF=>H ⟨F.1,ap⟩;exact cA (lm (gK d) d g) (by rw[<-w,<-C,N_ q,show zt (gK d) b=.a 1 (aa c7 b.dH) from ab q];exact ayH t)
  obtain rfl:=Y;have D:=DN m (U:=(gX i (hO b.gg) l<|.a 3<|aa dj b.a8));have P:g<Q (aK (lm (gK d) d g) g (gX i (hO b.gg) l (.a 3 (aa dj b.a8)))):=by rw[nJ];exact m
  refine e9 (gX i (hO b.gg) l<|.a 3<|aa dj b.a8) ?_ (j:=D);apply c9;intro ar;refine kz ?_ (f:=fA.DK (ae8 i (λ_=>aY) (gK d) (by rw[E.1];exact u.Zp) (by rw[E.1,G];exact u.fd)) D) (wK:=.cons (.h p P)<|.cons (.pl p) .nil);exact p;apply e<;>intro I
  .have x:i.iN/\i.du (gK d)=ad:=⟨I.1,ap⟩;have N:n=.ba:=by rw[<-K];exact ae ap
   refine gN (aK (lm (gK d) d g) g<|gX {i with iN:=ad} (hO b.gg) l<|.a 3<|aa dj b.a8) (gX i (hO b.gg) l (.a 3<|aa dj b.a8)) _ ?_ (j:=D) (aW:=Cd ..);refine gN (aK (lm (gK d) d g) g<|gX {i with iN:=ad} (hO b.gg) l .ba) (gX {i with iN:=ad} (hO b.gg) l (.a 3<|aa dj b.a8)) _ ?_ (j:=DN m) (aW:=Cd ..);refine gN (aK (lm (gK d) d g) g<|gX s (hO b.gg) l n) (gX {i with iN:=ad} (hO b.gg) l .ba) (gX s (hO b.gg) l n) ?_ (j:=DN m) (St:=by rw[<-B,Ob x,N];rfl) (Sx:=by rw[<-B,Ob x,N];rfl) (aW:=Cd ..);rw[y];refine bc ?_;exact a0<|g+1
  have x:¬(i.iN=af/\i.du (gK d)=ad):=λF=>I ⟨F.1,ap⟩;rw[show gX i (hO b.gg) l (.a 3 (aa dj b.a8))=gX s (hO b.gg) l n by rw[<-B,UO x,<-K];congr 1;exact bG<|ab ap,y];refine bc ?_;exact a0<|g+1
 obtain rfl:g=Q d:=o;rw[awl];exact cE
end
theorem zf{b:aN}(g:b.gB=0):kj b=0/\∀d∈b.list,d.gB=0:=by
 rw[b.Hp] at g;have j:kj b=0:=by rcases yL (kj b=0) with e|e;exact e;omega
 have m:∀c,aN.gB.wi c=0->∀d∈c,d.gB=0:=by
  intro c
  induction c with|nil=>trivial|cons i c l=>intro f d k;rw[aN.gB.wi] at f<;>grind
 grind
def Dw{b:aN}(c:kj b=0):1<=b.bL/\b.bL<=6/\(b.bL=3->kk b.num=0)/\(b.bL=6->Q b.keys=Q b.list):=by unfold kj at c;split at c;cases c;split at c;cases c;refine⟨o,o,λd=>?_,λd=>?_⟩;omega;simp_all[uF,ae,Ps]
def aBD{b:X (X v)}(c:g<Q b):z b g []=b[g]:=ap
def wN(name:X v):X (X v)->Z->J|[],_=>-1|c::d,b=>if c=name then(b:Z) else wN name d (b+1)
def acu(d:aN)(name:X v)(m:Q d.keys<=1048576):bb 35 [eV d,bV name] (an aj (wN name d.keys 0)):=by
 refine bx func35 [] λg i=>?_;refine i0 (Q d.keys) (λb=>wN name d.keys 0=wN name (aU b d.keys) b) (λb=>⟨[(1,_),(2,c 2),(5,an _ (b:Z))],[(2,_)],[]⟩) (λb j=>?_) (cq:=.r);apply e<;>intro k
 .have f:b<Q d.keys:=o;refine bi b (bV<|z d.keys b []) ?_ (j:=ap);apply e<;>intro l
  .exact aA (q:=by rw[j.2,pK f,wN,ae ap];rfl)
  refine bc ?_;exact a0 (b+1) ⟨o,by rw[j.2,pK f,wN,ab ap]⟩
 exact aA (q:=by rw[j.2,kM o];rfl)
def bX.uk(b:bX)(d:X (X v)):Z->Y|0=>af|c+1=>b.uk d c&&!(z b.g_ c ad&&aL (wN (z b.names c []) d 0<0))
def ad9{d:bX}{e:X (X v)}{c:Z}(i:d.uk e (c+1)=ad):∀b,c<b->d.uk e b=ad|0,g=>o|b+1,g=>by rcases fF c b with f|f;rw[bX.uk,ad9 i b f];rfl;grind
mutual
def u4(b:X bX)(c:J):aN->Y
|.mk d g num j e f=>
 if c<0 then ad
 else if d=1 then(z b (aB c) ai).null
 else if d=2 then(if g then aL (2<=(z b (aB c) ai).eR) else aL (xw (z b (aB c) ai).eR 2=1))
 else if d=3 then pP (z b (aB c) ai).cd (bu num)
 else if d=4 then(if(z b (aB c) ai).eP=ad then ad else(z b (aB c) ai).i4.has j)
 else if d=5 then(if((z b (aB c) ai).cJ=ad\/(Q e:J)<(z b (aB c) ai).min)\/(z b (aB c) ai).max<(Q e:J) then ad else ol b (z b (aB c) ai).dd e 0)
 else if(z b (aB c) ai).du=ad then ad
 else if(z b (aB c) ai).uk f (z b (aB c) ai).names.length=ad then ad
 else ol b (λi=>((z b (aB c) ai).field<|z f i []).1) e 0
def ol(b:X bX)(d:Z->J):X aN->Z->Y|[],_=>af|f::e,c=>u4 b (d c) f&&ol b d e (c+1)
end
def r4(d:X bX)(b:bX)(c:aN):Y:=if c.bL=1 then b.null
 else if c.bL=2 then(if c.bool then aL (2<=b.eR) else aL (xw b.eR 2=1))
 else if c.bL=3 then pP b.cd (bu c.num)
 else if c.bL=4 then(if b.eP=ad then ad else b.i4.has c.text)
 else if c.bL=5 then(if(b.cJ=ad\/(Q c.list:J)<b.min)\/b.max<(Q c.list:J) then ad else ol d b.dd c.list 0)
 else if b.du=ad then ad
 else if b.uk c.keys (Q b.names)=ad then ad
 else ol d (λe=>(b.field<|z c.keys e []).1) c.list 0
def Ha(b:X bX)(c:J)(d:aN):u4 b c d=if c<0 then ad else r4 b (z b (aB c) ai) d:=by cases d;rfl
structure xy(kd:Z)(ao:bX):Prop where
 ok:ao.ok
 h2:ao.h2 kd
 rest:ao.rest<kd
 md:gZ 700 ao.cd
 len:Q ao.cd<=100000
 i4:ao.eP->ao.i4.ok
variable{g:Z}
def RX{d:bX}(e:xy g d){name:X v}:(d.field name).1<g:=by
 have f:∀c b,b+c=Q d.names->(d.sd name c b).1<g:=by
  intro c
  induction c with|zero=>exactλb _=>e.rest|succ c i=>intro b j;rw[bX.sd];split;exact e.h2.aD b (by rw[e.ok.k];omega);grind
 exact f _ 0 o
def aeZ{b:bT}(c:kk b=0):md 700 (bu b):=ro o<|aeY c
def akX(l:X bX)(al:∀d∈l,xy (Q l) d)(aL:Q l<=1000000):∀b:aN,b.G<=1048576->b.gB=0->∀B:J,B<Q l->bb 15 [.a 26 (aa gT l),an aj B,eV b] (a6 (u4 l B b)):=by
 refine aN.ind λb Y az ao B aQ=>?_;have R:=aN.pp az;obtain⟨aw,U⟩:=zf ao;obtain⟨aW,aY,Z,aC⟩:=Dw aw;rw[Ha];refine gJ.of_wp (t:=hV) (i:=5000) [] (λ_=>(0,0)) ⟨[(0,.a 26<|aa gT l),(1,an aj B),(2,eV b)],[],[]⟩ e1 bq gw ⟨func15,a3,p⟩ p p p p λak am a7=>?_;have aD:k1 b5 hV ak hB _ []:=⟨e1,bq,am,gw,a7⟩;apply e<;>intro N
 .exact aA (q:=by rw[ae N];rfl)
 have aV:aB B<Q l:=o;have A:xy (Q l) (z l (aB B) ai):=al _ ap;rw[ab N];generalize aK:z l (aB B) ai=d at A⊢;refine bi (aB B) (gT d) ?_ (a7:=o) (j:=ap);apply e<;>intro u
 .exact aA (q:=by rw[r4,ae u];rfl)
 apply e<;>intro w
 .apply e<;>intro O
  .exact aA (q:=by rw[r4,ab u,ae w,ae O];rfl)
  refine FG (xw d.eR 2) ?_;exact aA (q:=by rw[r4,ab u,ae w,ab O];rfl)
 apply e<;>intro x
 .refine eg ?_;refine cf ?_ (f:=Sh b.num<|Z x);refine cf ?_ (f:=Ss d.cd (bu b.num) 700 o A.md (aeZ<|Z x) A.len);exact aA (q:=by rw[r4,ab u,ab w,ae x];rfl)
 apply e<;>intro y
 .apply e<;>intro aH
  .exact aA (q:=by rw[r4,ab u,ab w,ab x,ae y,ae ap];rfl)
  refine aS ?_ (f:=agt d.i4 (A.i4 ap) b.text o);exact aA (q:=by rw[r4,ab u,ab w,ab x,ae y,ab ap];rfl)
 apply e<;>intro C
 .refine eA ?_;refine eA ?_;apply e<;>intro P
  .have E:(d.cJ=ad\/(Q b.list:J)<d.min)\/d.max<(Q b.list:J):=by simpa using P
   exact aA (q:=by rw[r4,ab u,ab w,ab x,ab y,ae C,ae E];rfl)
  have E:¬((d.cJ=ad\/(Q b.list:J)<d.min)\/d.max<(Q b.list:J)):=by simpa using P
  refine i0 (Q b.list) (λg=>ol l d.dd b.list 0=ol l d.dd (aU g b.list) g) (λg=>⟨[(0,_),(5,c 5),(7,c 7),(10,k g)],[(5,_),(7,_)],[]⟩) (λg j=>?_) p .r;apply e<;>intro aI
  .have F:g<Q b.list:=o;have D:=fK F;have ay:=R.2.2.2.2.1 _ D;refine eg ?_;refine cf ?_ (f:=UJ d g o);refine bi g _ ?_ (j:=wH F);refine cf ?_ (f:=Y b.list[g] D o (U _ D) (d.dd g)<|bX.N6 A.h2 g);apply e<;>intro aJ
   .exact aA (q:=by rw[r4,ab u,ab w,ab x,ab y,ae C,ab E,j.2,pK F,ol,show u4 l (d.dd g) b.list[g]=ad by simp_all];rfl)
   refine bc ?_;exact a0 (g+1) ⟨o,by rw[j.2,pK F,ol,show u4 l (d.dd g) b.list[g]=af by simp_all,xf]⟩ (cq:=.r)
  exact aA (q:=by rw[r4,ab u,ab w,ab x,ab y,ae C,ab E,j.2,kM o,ol];rfl)
 have aO:=aC o;apply e<;>intro ar
 .exact aA (q:=by rw[r4,ab u,ab w,ab x,ab y,ab C,ae ap];rfl)
 have K:¬d.du=ad:=by simpa using ar
 have aP:=A.ok.m;have aR:=A.ok.n;refine i0 (Q d.names) (λv=>d.uk b.keys v=af) (λv=>⟨[(0,_),(5,c 5),(7,c 7),(11,k v)],[(5,_),(7,_)],[]⟩) (λv L=>?_) p .r;apply e<;>intro aE
 .have S:v<Q d.names:=o;refine eg ?_;refine bi v (a_<|z d.g_ v ad) ?_ (j:=je o);apply c9;intro aM;refine gx v (bV<|z d.names v []) ?_ (j:=je S);refine cf ?_ (f:=acu b (z d.names v []) o);exact p;apply e<;>intro au
  .exact aA (q:=by
    have I:d.uk b.keys (v+1)=ad:=by rw[bX.uk,L.2,xf,ajI];simpa using au
    rw[r4,ab u,ab w,ab x,ab y,ab C,ab K,ae<|ad9 I _ S];rfl)
  refine bc ?_;exact a0 (v+1) ⟨o,by rw[bX.uk,L.2,xf,Ai,J7]<;>simp_all⟩ (cq:=.r)
 have T:¬d.uk b.keys (Q d.names)=ad:=by have I:Q d.names=v:=o;rw[I,L.2];simp
 refine i0 (Q b.keys) (λs=>ol l (λg=>(d.field<|z b.keys g []).1) b.list 0=ol l (λg=>(d.field<|z b.keys g []).1) (aU s b.list) s) (λs=>⟨[(0,_),(5,c 5),(7,c 7),(12,k s)],[(5,_),(7,_)],[]⟩) (λs M=>?_) p .r;apply e<;>intro aF
 .have ax:s<Q b.keys:=o;have H:s<Q b.list:=o;have D:=fK H;have ay:=R.2.2.2.2.1 _ D;refine eg ?_;refine bi s (bV<|z b.keys s []) ?_ (j:=je ax);refine cf ?_ (f:=aaq d (z b.keys s []) A.ok);refine bi s _ ?_ (j:=wH H);refine aS ?_ (f:=Y b.list[s] D o (U _ D) (d.field<|z b.keys s []).1<|RX A);apply e<;>intro aG
  .exact aA (q:=by rw[r4,ab u,ab w,ab x,ab y,ab C,ab K,ab T,M.2,pK H,ol,show u4 l (d.field (z b.keys s [])).1 b.list[s]=ad by simp_all];rfl)
  refine bc ?_;exact a0 (s+1) ⟨o,by rw[M.2,pK H,ol,show u4 l (d.field (z b.keys s [])).1 b.list[s]=af by simp_all,xf]⟩ (cq:=.r)
 exact aA (q:=by rw[r4,ab u,ab w,ab x,ab y,ab C,ab K,ab T,M.2,kM o,ol];rfl)
def s6(b:v):X v:=if b=126 then[126,48] else if b=47 then[126,49] else[b]
def ex(b:X v):X v:=47::lv s6 b
def azu(c:X v)(b:v):ex (c++[b])=ex c++s6 b:=by unfold ex;simp
def apz(b:v):Q (s6 b)<=2:=by unfold s6;split<;>(try split)<;>simp
theorem Aa:∀c:X v,Q (ex c)<=1+2*Q c:=by
 intro c;have:∀b:X v,Q (lv s6 b)<=2*Q b:=by
  intro b
  induction b with|nil=>simp|cons d b e=>have:=apz d;rw[ts,cX,kN];omega
 have:=this c;unfold ex;rw[kN];omega
def aiU{b:v}{T:Z}(c:T<256)(d:(aG b:J)=(T:J)):b=gk T:=by apply Kp.1;simp[UInt8.toNat_ofNat,xq c];omega
def VG(c:X v)(cq:Q c<=2000000):bb 77 [bV c] (bV (ex c)):=by
 refine bx func77 [] λm n=>?_;refine pW ?_;refine eC (Q c) (λb=>⟨[(0,_),(4,k b),(3,.aq 5 0<|Q<|aa bR<|ex<|ak b c)],[(5,.h 1 5<|aa bR<|ex<|ak b c)],[]⟩) (λb j=>?_) .r;apply e<;>intro q
 .have g:b<Q c:=o;have s:=Aa<|ak (b+1) c;have t:Q (ak (b+1) c)=b+1:=by rw[mK];omega
  have i:ex (ak (b+1) c)=ex (ak b c)++s6 (z c b 0):=by rw[VU g,azu]
  refine rt b (z c b 0) ?_ (j:=wG g);apply e<;>intro f
  .refine e7 (aa bR<|ex<|ak (b+1) c) ?_ (aW:=by rw[i,dn,s6,ae<|show z c b 0=126 from aiU (T:=126) aR f]) (bQ:=by rw[bg];omega);refine bc ?_;exact a0 (b+1) (cq:=.r)
  apply e<;>intro l
  .refine e7 (aa bR<|ex<|ak (b+1) c) ?_ (aW:=by rw[i,dn,s6,ab λd=>f (by rw[d];rfl),ae<|show z c b 0=47 from aiU (T:=47) aR l]) (bQ:=by rw[bg];omega);refine bc ?_;exact a0 (b+1) (cq:=.r)
  refine rt b (z c b 0) ?_ (j:=wG g);refine er ?_;refine e7 (aa bR<|ex<|ak (b+1) c) ?_ (aW:=by rw[i,dn,s6,ab λd=>f (by rw[d];rfl),ab λd=>l (by rw[d];rfl)];rfl) (bQ:=by rw[bg];omega);refine bc ?_;exact a0 (b+1) (cq:=.r)
 obtain rfl:b=Q c:=o;rw[g5];refine zP (ex c) ?_ (hlen:=by rw[bg]) (bS:=by rw[sG];exact rQ<|bz _);exact aA
structure dL where
 w:X v
 bL:J
def fH(b:dL):V:=bH [bV b.w,an aj b.bL]
def ua(b:X dL)(c:X v)(d:J)(e:g=Q (aa fH b))(bQ:Q b<=10000000):dF 76 [.aq 5001 0 g,bV c,an aj d] [(5001,.h 2 107 (aa fH b))] (.aq 5001 0 (Q (aa fH (b++[dL.mk c d])))) [(5001,.h 2 107 (aa fH (b++[dL.mk c d])))]:=by subst e;refine dN func76 [] λj f i=>?_;refine er ?_;refine e7 (aa fH<|b++[dL.mk c d]) ?_ (aW:=tw) (bQ:=a2);exact cE
structure Qc(M:cZ):Prop where
 O:∀U∈M.cd,rJ U
 n20:Q M.cd<=20
 fq:Q M.fq<=1048576
 afV:M.eP->dl.DC M.fq=0/\dl.MV (dl.qF M.fq)=0
 B:Q M.dH<=1048576
 eh:Q M.a8<=1000000
def Tl{b:cZ}(f:Qc b)(e:b.eP):(dl.wO (dl.qF b.fq)).ok:=by obtain⟨c,d⟩:=f.afV e;exact(TD (F9 c).1 d).1
def ic(b:bX)(c d e:V):X V:=[a6 b.null,an aj b.eR,.a 11<|aa dk b.cd,a6 b.eP,k b.i4.start,.a 1<|aa a_ b.i4.acc,.a 1<|aa b6 b.i4.next,a6 b.cJ,an aj<|b.w 0,an aj<|b.w 1,an aj<|b.w 2,an aj<|b.w 3,an aj<|b.w 4,an aj<|b.w 5,an aj<|b.w 6,an aj<|b.w 7,an aj<|b.w 8,an aj<|b.w 9,an aj<|b.w 10,an aj b.min,an aj b.max,a6 b.du,c,d,e,an aj b.rest]
theorem acU(b:g<=10):g=0\/g=1\/g=2\/g=3\/g=4\/g=5\/g=6\/g=7\/g=8\/g=9\/g=10:=o
def aaX{b:bX}{c d e:V}(j:g<=10)(i:J):aK (ic b c d e) (8+g) (c7 i)=ic {b with w:=λf=>if f=g then i else b.w f} c d e:=by rcases acU j with rfl|rfl|rfl|rfl|rfl|rfl|rfl|rfl|rfl|rfl|rfl<;>rfl
def aaW{b:bX}{c d e:V}(f:g<=10):(ic b c d e)[8+g]?=W (c7 (b.w g)):=by rcases acU f with rfl|rfl|rfl|rfl|rfl|rfl|rfl|rfl|rfl|rfl|rfl<;>rfl
theorem L8(e:bX)(b c d:V):Q (ic e b c d)=26:=p
def aaf(b:cZ):bX:=⟨b.null,b.eR,[],b.eP,⟨0,[],[]⟩,b.cJ,λ_=>0,0,0,b.du,[],[],[],b.rest⟩
def E2(b:cZ):bX:={aaf b with cd:=vA (aa kr b.cd)}
noncomputable def qq(b:cZ):bX:={E2 b with eP:=if b.eP then !mx (dl.wO<|dl.qF b.fq) else ad,i4:=if b.eP then dl.wO (dl.qF b.fq) else⟨0,[],[]⟩}
def zO(b:cZ):J:=if b.max=-1 then 1099511627776 else b.max
def jK(b:cZ)(c:Z):J:=if c<Q b.dH then z b.dH c 0 else b.item
noncomputable def sc(b:cZ)(d:Z):bX:={qq b with min:=b.min,max:=zO b,w:=λc=>if c<d then jK b c else 0}
noncomputable def jZ(b:cZ):bX:=if b.cJ then sc b 11 else qq b
noncomputable def bN(b:cZ):bX:={jZ b with names:=aa dq.name b.a8,aD:=aa dq.shape b.a8,g_:=aa dq.g_ b.a8}
theorem aah(b:cZ){c d e:V}(f:g<=10):aK (ic (sc b g) c d e) (8+g) (c7 (jK b g))=ic (sc b (g+1)) c d e:=by rw[aaX f];unfold sc<;>grind
def apG(b:cZ){c d e:V}(i:g<=10)(f:J):aK (aK (ic (sc b g) c d e) (8+g) (c7 f)) (8+g) (c7 (jK b g))=ic (sc b (g+1)) c d e:=by grind[List.set_set,aah]
def C2{b:X dq}(c:g<Q b):(aa dj b)[g]?=W (dj (z b g ai)):=gD c
theorem C3{d:Type}(c:dq->d){b:X dq}(e:g<Q b):aa c (ak (g+1) b)=aa c (ak g b)++[c (z b g ai)]:=by grind[pq,ai]
def ah2(b:cZ)(d:∀c∈b.cd,rJ c):gZ 2 (aa kr b.cd):=λc e=>by grind[ah3]
def Qv{b:Type}{L:X b}{l:Z}{U:b}(c:l<Q L):ak l L++[U]++aU (l+Q [U]) L=aK L l U:=bG<|Vq (L:=L) (l:=l) (U:=U) c
theorem agF(b:X aV):ln b=yw b:=p
def aoB{b:X aV}(d:∀e∈b,kP e)(i:Q b<=20)(c:Z):Q (ou (lb (gt b) af) (ak c (ln b)))<=50000:=by have f:=Y6 d<|ak c<|ln b;have g:=agE b;grind[agF,List.length_take,min,ln,Nat.min_le_right]
def aai{b:cZ}{c d e:V}(f:b.cJ):ic {qq b with min:=b.min,max:=zO b} c d e=ic (sc b 0) c d e:=p
def apF{b:cZ}{c d e:V}(f:b.cJ):ic (sc b 11) c d e=ic (jZ b) c d e:=by rw[jZ,ae f]
def apI{b:cZ}{c d e:V}(f:¬b.cJ):ic (qq b) c d e=ic (jZ b) c d e:=by rw[jZ,ab f]
def aaT(b:cZ)(g:Qc b):bb 29 [i3 b] (gT (bN b)):=by
 refine bx func29 [2003,2007,43,67,58,2022] λC D=>?_;refine aZ.lF 11 3 [2] ?_;refine aZ.lF 1 3 [5,6] ?_;refine dM ?_;refine aZ.eQ 4 11 133 [4] ah ?_;refine eC (Q b.cd) (λd=>⟨[(1,c 1),(2,c 2),(3,c 3),(5,k d),(4,.aq 4 0<|Q<|aa dk<|aa kr<|ak d b.cd)],[(1,ag 67<|i3 b),(2,ag 92<|V.zero zD.z),(3,ag 92<|bH<|ic (aaf b) .ba .ba .ba),(4,.h 11 133<|aa dk<|aa kr<|ak d b.cd)],[]⟩) λd j=>?_;apply e<;>intro E
 .have i:d<Q b.cd:=o;have K:=g.n20;have A:=g.O _<|cT (I:=ai) i;refine bi d (s2<|z b.cd d ai) ?_ (j:=gD i);refine aS ?_ (f:=ah5 (z b.cd d ai) A);refine er ?_;refine e7 (aa dk<|aa kr<|ak (d+1) b.cd) ?_ (aW:=akp) (bQ:=a2);refine bc ?_;exact a0<|d+1
 obtain rfl:d=Q b.cd:=o;rw[g5];refine aZ.iK 4 ?_;refine dM ?_;refine aS ?_ (f:=auG (aa kr b.cd) 2 o (ah2 b g.O) (by rw[bg];have:=g.n20;omega)<|aoB (OU b.cd) (by rw[bg];exact g.n20));refine gf kc (λn=>⟨[(1,c 1),(2,c 2),(3,c 3)],[(1,ag 67<|i3 b),(2,ag 92<|V.zero zD.z),(3,ag 92<|bH<|ic (qq b) .ba .ba .ba)],[]⟩) (λ_=>dW) ?_ λn v=>?_
 .apply e<;>intro m
  .have x:=Tl g m;have s:qq b={E2 b with eP:=!mx (dl.wO<|dl.qF b.fq),i4:=dl.wO (dl.qF b.fq)}:=by unfold qq;rw[ae m,ae m]
   rw[s];have y:=g.afV m;refine aS ?_ (f:=ass dl afL b.fq g.fq y.1);refine aS ?_ (f:=awY x);exact cA ()
  have s:qq b={E2 b with eP:=ad}:=by unfold qq;rw[ab m,ab m];rfl
  have B:b.eP=ad:=by simpa using m
  have w:ic (qq b) .ba .ba .ba=ic (E2 b) .ba .ba .ba:=by rw[s];show ic {E2 b with eP:=ad} _ _ _=ic {E2 b with eP:=b.eP} _ _ _;rw[B]
  rw[w];exact cA ()
 refine gf kc (λn=>⟨[(1,c 1),(2,c 2),(3,c 3)],[(1,ag 67<|i3 b),(2,ag 92<|V.zero zD.z),(3,ag 92<|bH<|ic (jZ b) .ba .ba .ba)],[]⟩) (λ_=>dW) ?_ λn v=>?_
 .apply e<;>intro q
  .refine eS ?_;refine fx ?_;refine fx ?_;refine fZ ?_;refine gf kc (λn=>⟨[(1,c 1),(2,c 2),(3,c 3)],[(1,ag 67<|i3 b),(2,ag 92<|V.zero zD.z),(3,ag 92<|bH<|ic (sc b 0) .ba .ba .ba)],[]⟩) (λ_=>dW) ?_ λn v=>?_
   .apply e<;>intro t
    .rw[<-aai q,show zO b=1099511627776 from ae t];exact cA ()
    rw[<-aai q,show zO b=b.max from ab t];exact cA ()
   refine eC 11 (λd=>⟨[(1,c 1),(2,c 2),(3,c 3),(8,k d)],[(1,ag 67<|i3 b),(2,ag 92<|V.zero zD.z),(3,ag 92<|bH<|ic (sc b d) .ba .ba .ba)],[]⟩) λd j=>?_;apply e<;>intro F
   .have u:d<=10:=o;refine hE d (8+d) ?_ (jr:=by show 8+d=0+8+d*1;omega);refine T9 (aK (ic (sc b d) .ba .ba .ba) (8+d)<|c7 b.item) ?_ (bS:=by show 8+d+1<=26;omega) (aW:=Qv (L:=(ic (sc b d) .ba .ba .ba)) (l:=(8+d)) (U:=(c7 b.item)) (by grind[L8]));apply e<;>intro G
    .have r:d<Q b.dH:=o;refine bi d (c7<|z b.dH d 0) ?_ (j:=je r);refine hE d (8+d) ?_ (jr:=by show 8+d=0+8+d*1;omega);refine T9 (ic (sc b<|d+1) .ba .ba .ba) ?_ (bS:=by rw[nJ,L8];show 8+d+1<=26;omega) (aW:=by rw[show(c7 (z b.dH d 0)).cells=[c7 (z b.dH d 0)] from p,Qv (by grind[List.length_set,L8]),<-apG b u b.item,show jK b d=z b.dH d 0 from ae r]);refine bc ?_;exact a0<|d+1
    have r:¬d<Q b.dH:=o;rw[show aK (ic (sc b d) .ba .ba .ba) (8+d) (c7 b.item)=ic (sc b (d+1)) .ba .ba .ba by rw[<-aah b u,show jK b d=b.item from ab r]];refine bc ?_;exact a0<|d+1
   obtain rfl:d=11:=o;rw[<-apF q];exact cA ()
  rw[<-apI q];exact cA ()
 refine aZ.eQ 1400 1 9 [] (W (3,22)) ?_;refine aZ.eQ 1401 1 3 [] (W (3,23)) ?_;refine aZ.eQ 1402 1 4 [] (W (3,24)) ?_;refine dM ?_;refine eC (Q b.a8) (λd=>⟨[(1,c 1),(2,c 2),(3,c 3),(9,k d)],[(1,ag 67<|i3 b),(2,ag 92<|V.zero zD.z),(3,ag 92<|bH<|ic (jZ b) (.aq 1400 0<|Q<|aa V.str<|aa dq.name<|ak d b.a8) (.aq 1401 0<|Q<|aa c7<|aa dq.shape<|ak d b.a8)<|.aq 1402 0<|Q<|aa a_<|aa dq.g_<|ak d b.a8),(1400,.h 1 9<|aa V.str<|aa dq.name<|ak d b.a8),(1401,.h 1 3<|aa c7<|aa dq.shape<|ak d b.a8),(1402,.h 1 4<|aa a_<|aa dq.g_<|ak d b.a8)],[]⟩) λd j=>?_;apply e<;>intro H
 .have i:d<Q b.a8:=o;have J:=g.eh;refine eS ?_;refine br (λ_=>bi d (dj<|z b.a8 d ai) p (j:=C2 i)) ?_;refine br (λ_=>lf p) ?_;refine lS 107 (aa V.str<|aa dq.name<|ak (d+1) b.a8) ?_ (aW:=by grind[C3]) (bQ:=a2) (mX:=a3) (vq:=a3);refine fx ?_;refine kU [(107,1400)] ?_;refine eS ?_;refine br (λ_=>bi d (dj<|z b.a8 d ai) p (j:=C2 i)) ?_;refine br (λ_=>lf p) ?_;refine lS 118 (aa c7<|aa dq.shape<|ak (d+1) b.a8) ?_ (aW:=by rw[C3 _ i,dn];rfl) (bQ:=a2) (mX:=a3) (vq:=a3);refine fx ?_;refine kU [(118,1401)] ?_;refine eS ?_;refine br (λ_=>bi d (dj<|z b.a8 d ai) p (j:=C2 i)) ?_;refine br (λ_=>lf p) ?_;refine lS 129 (aa a_<|aa dq.g_<|ak (d+1) b.a8) ?_ (aW:=by rw[C3 _ i,dn];rfl) (bQ:=a2) (mX:=cR) (vq:=cR);refine fx ?_;refine kU [(129,1402)] ?_;refine bc ?_;exact a0<|d+1
 obtain rfl:d=Q b.a8:=o;rw[g5];exact ib 1400<|ib 1401<|ib 1402<|dB bq
section
def g8(c:X Y)(b:J):J:=if 0<=b/\z c (aB b) ad=ad then-1 else b
def rs(d:X Y)(c:bX):Z->J|0=>c.max|b+1=>if g8 d (c.w b)<0/\(b:J)<rs d c b then b else rs d c b
def sY(d:X Y)(b:bX)(e:Z)(f:J):bX:={b with w:=λc=>if c<e then g8 d (b.w c) else b.w c,max:=f}
def jX(c:X Y)(b:bX):bX:=if b.cJ then{sY c b 11 (rs c b 11) with cJ:=aL (b.min<=rs c b 11)} else b
def wZ(d:X Y)(b:bX):Z->Y|0=>af|c+1=>if g8 d (z b.aD c 0)<0/\z b.g_ c ad then ad else wZ d b c
def qy(d:X Y)(b:bX)(c:Z):X J:=aa (g8 d) (ak c b.aD)++aU c b.aD
def di(c:X Y)(b:bX):bX:=if b.du then{jX c b with aD:=aa (g8 c) b.aD,du:=wZ c b<|Q b.aD,rest:=g8 c b.rest} else jX c b
def Ra(b:X bX):X bX:=aa (di<|eT b) b
def amy{b:X Y}{c:bX}{d e f:V}(j:g<=10)(i:J):aK (ic (sY b c g i) d e f) (8+g) (c7 (g8 b (c.w g)))=ic (sY b c (g+1) i) d e f:=by rw[aaX j];unfold sY;grind
def Yh(f:X Y)(b:bX){c d e:V}(i:g<=10)(j:J):(ic (sY f b g j) c d e)[8+g]?=W (c7 (b.w g)):=by rw[aaW i];show W (c7 (if g<g then _ else _))=_;simp
def amw(b:X Y)(c:bX){d e f:V}(i:g<=10)(j:J):(ic (sY b c (g+1) j) d e f)[8+g]?=W (c7 (g8 b (c.w g))):=by rw[aaW i];show W (c7 (if g<g+1 then _ else _))=_;simp
def amx(c:X Y)(b:bX){d e f:V}(j:g8 c (b.w g)=b.w g)(i:J):ic (sY c b g i) d e f=ic (sY c b (g+1) i) d e f:=by unfold sY;grind
def Yi{c:X Y}{b:bX}(g:b.cJ){d:J}(f:d=rs c b 11){R:Y}(e:R=aL (b.min<=d)):jX c b={sY c b 11 d with cJ:=R}:=by simp_all[jX,ae]
def amE{c:X Y}{b:bX}(d:¬b.cJ):jX c b=b:=ab d
def Yk{c:X Y}{b:bX}(g:b.du){d:Y}(e:d=wZ c b (Q b.aD)){x:J}(f:x=g8 c b.rest):di c b={jX c b with aD:=aa (g8 c) b.aD,du:=d,rest:=x}:=by simp_all[di,ae]
def amI{c:X Y}{b:bX}(d:¬b.du):di c b=jX c b:=ab d
theorem EG(c:X Y)(b:bX):(jX c b).names=b.names/\(jX c b).aD=b.aD/\(jX c b).g_=b.g_/\(jX c b).du=b.du/\(jX c b).rest=b.rest:=by unfold jX;split<;>exact⟨p,p,p,p,p⟩
def amH{c:X Y}(b:bX):(di c b).names=b.names/\(di c b).g_=b.g_:=by grind[di,EG]
def amJ(c:X Y)(b:bX):V.agg (ic (di c b) (.a 1 (aa V.str b.names)) (.a 1 ((di c b).aD.map c7)) (.a 1 (aa a_ b.g_)))=gT (di c b):=by obtain⟨d,e⟩:=amH b;rw[<-d,<-e];rfl
def asd(c:X Y)(b:bX)(d:g<Q b.aD)(e:g8 c (z b.aD g 0)=z b.aD g 0):qy c b g=qy c b (g+1):=by unfold qy;rw[pq d,dn,Ke,e,fJ,pt d,dm,cm d];rfl
theorem Ii(c:X Y)(b:bX)(d:Z):Q (qy c b d)=Q b.aD:=by(simp[qy,cX,bg,mK,B_];omega)
theorem acq(c:X Y)(b:bX)(d:g<Q b.aD):z (qy c b g) g 0=z b.aD g 0:=by unfold qy;grind
theorem acr{c:X Y}(b:bX)(d:g<Q b.aD):aK (qy c b g) g (g8 c (z b.aD g 0))=qy c b (g+1):=by unfold qy;rw[An _ _ a2,bg,mK,PR o,oT,pt d,GM,pq d,dn,fJ];rfl
theorem asc(c:X Y)(b:bX)(d:g<Q b.aD):z (qy c b (g+1)) g 0=g8 c (z b.aD g 0):=by rw[<-acr b d,vm,ae ⟨p,by grind[Ii]⟩]
def asb(c:X Y)(b:bX):qy c b (Q b.aD)=aa (g8 c) b.aD:=by simp[qy,g5,GJ,ff]
def Te{c:X Y}{b:J}(d:0<=b/\z c (aB b) ad=ad):g8 c b=-1:=ae d
theorem Tf{c:X Y}{b:J}(d:¬(0<=b/\z c (aB b) ad=ad)):g8 c b=b:=ab d
structure aky(L:X bX):Prop where
 ok:WY L
 rest:∀ao∈L,ao.rest<Q L
def aqk(c:X bX):Q (eT c)=Q c:=by
 have:∀(b:Z)(d:X _),Q (nW (n9 c) (Q c) b d)=Q d:=by
  intro b
  induction b with|zero=>exactλd=>p|succ b e=>grind[nW,BM]
 grind[eT,qr,List.length_replicate]
attribute [local irreducible] g8 rs wZ qy jX di eT
def anH(g:X bX)(bQ:aky g):bb 30 [.a 26 (aa gT g)] (cs [.a 26 (aa gT (Ra g)),.a 1 (aa a_ (eT g))]):=by
 refine bx func30 [23,66,2026] λaF aH=>?_;obtain⟨⟨f,N,ap⟩,aw⟩:=bQ;have ao:=aqk g;refine aS ?_ (f:=aqj g ⟨f,N,ap⟩);refine aZ.eQ 5 26 92 [5] ah ?_;refine eC (Q g) (λi=>⟨[(0,.a 26<|aa gT g),(4,.a 1<|aa a_<|eT g),(6,k i),(5,.aq 5 0<|Q<|aa gT<|aa (di<|eT g)<|ak i g)],[(5,.h 26 92<|aa gT<|aa (di<|eT g)<|ak i g)],[]⟩) λi j=>?_;apply e<;>intro aK
 .have A:i<Q g:=o;have B:z g i ai∈g:=cT A;obtain⟨az,aC,aE⟩:=f _ B;obtain⟨T,U⟩:=N _ B;have au:=aw _ B;have C:aa gT (aa (di (eT g)) (ak i g))++[gT (di (eT g) (z g i ai))]=aa gT (aa (di (eT g)) (ak (i+1) g)):=by rw[pq (I:=ai) A,dn,dn];rfl
  have M:(aa gT g)[i]?=W (gT (z g i ai)):=gD A;generalize z g i ai=b at az aC aE T U au C M;generalize aG:eT g=full at ao C⊢;refine bi i (gT b) ?_ (j:=M);refine gf kc (λE=>⟨[(0,.a 26<|aa gT g),(4,.a 1<|aa a_ full),(6,k i),(7,c 7),(5,.aq 5 0<|Q<|aa gT<|aa (di full)<|ak i g)],[(7,ag 92<|bH<|ic (jX full b) (.a 1<|aa V.str b.names) (.a 1<|aa c7 b.aD)<|.a 1<|aa a_ b.g_),(5,.h 26 92<|aa gT<|aa (di full)<|ak i g)],[]⟩) (λ_=>dW) ?_ λE ax=>?_
  .apply e<;>intro t
   .refine dv (Z×J) (λl=>⟨[(0,.a 26<|aa gT g),(4,.a 1<|aa a_ full),(6,k i),(7,c 7),(8,k l.1),(5,.aq 5 0<|Q<|aa gT<|aa (di full)<|ak i g)],[(7,ag 92<|bH<|ic (sY full b l.1 l.2) (.a 1<|aa V.str b.names) (.a 1<|aa c7 b.aD)<|.a 1<|aa a_ b.g_),(5,.h 26 92<|aa gT<|aa (di full)<|ak i g)],[]⟩) (λl=>l.1<=11/\l.2=rs full b l.1) (λl=>11-l.1) (0,b.max) (λ⟨d,m⟩ ⟨D,q⟩=>?_) ⟨dO _,by rw[rs]⟩;dsimp only at D q⊢;apply e<;>intro aL
    .have n:d<=10:=o;have aI:=T d n;refine hE d (8+d) ?_ (jr:=by show 8+d=0+8+d*1;omega);refine T6 (c7<|b.w d) ?_<|Yh full b n m;apply c9;intro aP;refine hE d (8+d) ?_ (jr:=by show 8+d=0+8+d*1;omega);refine T6 (c7<|b.w d) ?_<|Yh full b n m;refine gx (aB<|b.w d) (a_<|z full (aB<|b.w d) ad) ?_ (a7:=o) (j:=je o);exact p;apply e<;>intro G
     focus
      have r:0<=b.w d/\z full (aB (b.w d)) ad=ad:=by simpa using G
      have O:=Te r;refine hE d (8+d) ?_ (jr:=by show 8+d=0+8+d*1;omega);refine T9 (ic (sY full b (d+1) m) (.a 1<|aa V.str b.names) (.a 1<|aa c7 b.aD)<|.a 1<|aa a_ b.g_) ?_ (bS:=by show 8+d+1<=26;omega) (aW:=by rw[show(V.const (Value.int aj (-1))).cells=[c7 (g8 full (b.w d))] by rw[O];rfl,Qv (by grind[L8]),amy n])
     rotate_left
     focus
      have v:¬(0<=b.w d/\z full (aB (b.w d)) ad=ad):=by simpa using G
      rw[amx full b<|Tf v]
     all_goals
      refine hE d (8+d) ?_ (jr:=by show 8+d=0+8+d*1;omega);refine T6 (c7<|g8 full<|b.w d) ?_<|amw full b n m;refine fk ?_;apply e<;>intro u
      .have al:g8 full (b.w d)<0/\(d:J)<m:=by rw[show(sY full b (d+1) m).max=m from p] at u;simpa using u
       refine bc ?_;exact a0 (d+1,(d:Z)) ⟨o,by(simp[rs,ae];omega)⟩ o
      have al:¬(g8 full (b.w d)<0/\(d:J)<m):=by rw[show(sY full b (d+1) m).max=m from p] at u;simpa using u
      refine bc ?_;exact a0 (d+1,m) ⟨o,by(simp[rs,ab];omega)⟩ o
    obtain rfl:d=11:=o;apply e<;>intro H
    .rw[Yi t q (R:=ad) (by symm;rw[sK];have ar:m<b.min:=H;omega)];exact cA ()
    rw[Yi t q (R:=b.cJ) (by rw[t];symm;rw[ir];have ar:¬m<b.min:=H;omega)];exact cA ()
   rw[amE t];exact cA ()
  refine gf kc (λE=>⟨[(0,.a 26<|aa gT g),(4,.a 1<|aa a_ full),(6,k i),(7,c 7),(5,.aq 5 0<|Q<|aa gT<|aa (di full)<|ak i g)],[(7,ag 92<|bH<|ic (di full b) (.a 1<|aa V.str b.names) (.a 1<|(di full b).aD.map c7)<|.a 1<|aa a_ b.g_),(5,.h 26 92<|aa gT<|aa (di full)<|ak i g)],[]⟩) (λ_=>dW) ?_ λE ax=>?_
  .apply e<;>intro K
   .have y:b.du:=by rw[<-(EG full b).2.2.2.1];exact K
    have S:(jX full b).rest=b.rest:=(EG full b).2.2.2.2;refine aeh (aa c7 b.aD) ?_ (hl:=.a p p p p (by intro I am;obtain⟨aU,_,rfl⟩:=cV.1 am;rfl)) (bQ:=a2);refine dv (Z×Y) (λl=>⟨[(0,.a 26<|aa gT g),(4,.a 1<|aa a_ full),(6,k i),(7,c 7),(9,k l.1),(5,.aq 5 0<|Q<|aa gT<|aa (di full)<|ak i g)],[(7,ag 92<|bH<|ic {jX full b with du:=l.2} (.a 1<|aa V.str b.names) (.aq 69 0<|Q<|aa c7 b.aD)<|.a 1<|aa a_ b.g_),(5,.h 26 92 (aa gT<|aa (di full)<|ak i g)),(69,.h 1 3 (aa c7<|qy full b l.1))],[]⟩) (λl=>l.1<=Q b.aD/\l.2=wZ full b l.1) (λl=>Q b.aD-l.1) (0,(jX full b).du) (λ⟨d,ay⟩ ⟨D,q⟩=>?_) ⟨dO _,by grind[wZ]⟩;dsimp only at D q⊢;apply e<;>intro aM
    .have n:d<Q b.aD:=o;have aR:=U d n;refine cC d ?_;refine e9 (c7<|z b.aD d 0) ?_ (j:=by grind[acq,je,Ii]);apply c9;intro aQ;refine cC d ?_;refine e9 (c7<|z b.aD d 0) ?_ (j:=by grind[acq,je,Ii]);refine gx (aB<|z b.aD d 0) (a_<|z full (aB<|z b.aD d 0) ad) ?_ (a7:=o) (j:=je o);exact p;apply e<;>intro L
     focus
      have r:0<=z b.aD d 0/\z full (aB (z b.aD d 0)) ad=ad:=by simpa using L
      have O:=Te r;refine cC d ?_;refine gN (aa c7<|qy full b<|d+1) (c7<|z (qy full b d) d 0) (c7<|-1) ?_ (j:=je (by grind[Ii])) (aW:=by grind[acr,List.map_set])
     rotate_left
     focus
      have v:¬(0<=z b.aD d 0/\z full (aB (z b.aD d 0)) ad=ad):=by simpa using L
      rw[asd full b n<|Tf v]
     all_goals
      refine cC d ?_;refine e9 (c7<|g8 full<|z b.aD d 0) ?_ (j:=by grind[asc,je,Ii]);apply c9;intro aN;refine gx d (a_<|z b.g_ d ad) ?_ (j:=je o);exact p;apply e<;>intro F
      .have P:g8 full (z b.aD d 0)<0/\z b.g_ d ad:=by simpa using F
       refine bc ?_;exact a0 (d+1,ad) ⟨o,by rw[wZ,ae P]⟩ o
      have P:¬(g8 full (z b.aD d 0)<0/\z b.g_ d ad):=by simpa using F
      refine bc ?_;exact a0 (d+1,ay) ⟨o,by simp_all[wZ,ab]⟩ o
    obtain rfl:d=Q b.aD:=o;rw[asb];refine aZ.x3 69 (Q<|aa c7 b.aD) (aJ:=aa c7<|aa (g8 full) b.aD) av ?_;refine dM ?_;apply c9;intro aO;refine gx (aB b.rest) (a_<|z full (aB b.rest) ad) ?_ (a7:=oU) (j:=je o);exact p;apply e<;>intro s
    .have r:0<=b.rest/\z full (aB b.rest) ad=ad:=by rw[S] at s;simpa using s
     rw[Yk y q (x:=-1)<|bG<|Te r];exact cA ()
    have v:¬(0<=b.rest/\z full (aB b.rest) ad=ad):=by rw[S] at s;simpa using s
    rw[Yk y q (x:=(jX full b).rest) (by grind[Tf])];exact cA ()
   have y:¬b.du:=by rw[<-(EG full b).2.2.2.1];exact K
   rw[amI y,(EG full b).2.1];exact cA ()
  refine er ?_;refine e7 (aa gT<|aa (di full)<|ak (i+1) g) ?_ (aW:=by rw[<-C,<-amJ];rfl) (bQ:=a2);refine bc ?_;exact a0<|i+1
 obtain rfl:i=Q g:=o;rw[g5];exact ib 5 aA
end
theorem C6{e:Z->J}:∀{c:Z},l6 e c=0->∀b,b<c->e b=0|0,_,b,j=>o|c+1,f,b,j=>by rw[l6] at f;split at f;omega;rename_i g;rcases fF b c with d|d;exact C6 (yK g) b d;grind
def z9{d:tI}{b:cZ}{c:J}(e:gq d b c=0):lk b=0/\kK d b=0/\ld b c=0/\oI b c=0:=by unfold gq at e;omega
theorem azs{c:gb}(b:rI c=0):rJ c/\gE (kr c)=ad:=by unfold rI at b;split at b;omega;split at b;omega;simp_all[OY,yK]
def zR{c:cZ}(b:lk c=0):(0<=c.eR/\c.eR<=3)/\Q c.cd<=20/\∀d∈c.cd,rJ d/\gE (kr d)=ad:=by unfold lk at b;split at b;cases b;split at b;cases b;refine⟨o,o,λd e=>?_⟩;obtain⟨f,j,rfl⟩:=lU.1 e;have:=C6 b f j;grind[azs]
def apZ{b:X dq}{c d:J}(e:g<Q b)(f:l7 b c d g=0):b[g].shape<c:=by grind[l7,b9]
def Jt{b:cZ}{e:J}(u:b.ks)(B:0<=e)(t:gq dl b e=0):Qc b/\(∀g,b.cJ->jK b g<e)/\(∀i∈b.a8,i.shape<e)/\b.rest<e+1/\(b.du=af->b.rest<e)/\(b.du=ad->b.a8=[]/\b.rest=0)/\(b.du=af->Q b.a8<=30):=by
 obtain⟨D,E,v,w,x⟩:=u;obtain⟨r,s,c,f⟩:=z9 t;obtain⟨y,m,n⟩:=zR r;refine⟨⟨λi k=>(n i k).1,m,v,λC=>?_,w,x⟩,λg A=>?_,?_⟩;unfold kK at s
 (simp_all;omega)
 unfold ld at c;rw[ab ap] at c;split at c;cases c;split at c;cases c;split at c;cases c;unfold jK;split;simp_all[kG,p9,ir];by_cases z:b.item=-1;omega;simp_all[kG,p9,ir];unfold oI at f;by_cases l:b.du=ad
 (simp_all;omega)
 rw[ab l] at f;split at f;omega;rename_i d;split at f;cases f;have d:=yK d;unfold s7 at d;split at d;cases d;refine⟨λi k=>?_,o,λ_=>o,λq=>b9 q l,λ_=>o⟩;obtain⟨g,j,rfl⟩:=lU.1 k;have:=C6 d g j;exact apZ j this
def Y3{d:Z}:∀(b c:X aV),gZ d b->gZ (d+3) c->gZ (d+3) (ou c b)|[],c,_,f=>cc|g::b,c,e,f=>by exact Y3 b _ (λi j=>e i aY)<|Y5 (EI<|e g av) f
def auE{c:X aV}(b:gZ g c):gZ (g+3) (vA c):=by have d:gZ g (ln c):=ML<|Bv (Oq b)<|R6 (λf e=>Z_ e)<|Oq b;exact Vv<|Bv (Iw o d)<|Y3 _ _ d<|Iw o<|ML<|V7 b
def auD{b:X aV}(d:∀e∈b,kP e):Q (vA b)<=7*Q b:=by have f:=Y6 d<|ln b;have c:=agE b;rw[<-agF] at c;show Q (kq (ln b++ou _ (ln b)))<=_;grind[Jw,List.length_append]
section
noncomputable def hi(b:cZ):cG:=⟨b.null,b.eR,nG b.cd,if b.eP then oB b.fq else ah,b.cJ,if b.cJ then b.dH else[],if b.cJ then b.item else-1,if b.cJ then b.min else 0,if b.cJ then b.max else 0,b.du,if b.du then b.a8 else[],if b.du then b.rest else-1⟩
def Wb:V:=bH [a6 ad,an aj 0,.ba,.ba,.ba,.jD,a6 ad,.ba,an aj 0,an aj 0,an aj 0,a6 ad,.ba,an aj 0]
noncomputable def zi(b:cZ)(c:J):V:=if gq dl b c=0 then cs [kg (hi b),an aj 0] else cs [Wb,an aj<|gq dl b c]
def GC:V:=bH [a6 ad,an aj 0,.ba,.ba,.ba,.jD,a6 ad,.ba,an aj 0,an aj 0,an aj 0,a6 ad,.ba,an aj 0]
noncomputable def B2(b:cZ)(i f:V)(g c d:J)(e:V)(j:J):V:=bH [a6 b.null,an aj b.eR,.a 3<|(nG b.cd).w.map cn,.a 1<|(nG b.cd).on.map a_,.a 2<|(nG b.cd).ie.map hZ,i,a6 b.cJ,f,an aj g,an aj c,an aj d,a6 b.du,e,an aj j]
def AW{d:cZ}{c b:J}(f:gq dl d c=b)(e:b≠0):zi d c=cs [Wb,an aj b]:=by simp_all[zi,ab]
theorem O4{b:cZ}(c:b.eP):kK dl b=rx b.fq:=by unfold kK rx;rw[ab ap,ae c];rfl
theorem azt{b:gb}(d:rI b=0):Small b.low.n/\Small b.high.n:=by unfold rI at d;have e:nk b.low=0:=oP λc=>o;have f:nk b.high=0:=oP λc=>o;simp_all[OY]
def aeS{d:cZ}(b:lk d=0):∀c∈d.cd,Small c.low.n/\Small c.high.n:=by unfold lk at b;split at b;cases b;split at b;cases b;intro c e;obtain⟨f,j,rfl⟩:=lU.1 e;have:=C6 b f j;grind[azt]
def as7(b:X v):rx b≠0/\oB b=ah\/rx b=0/\oB b=ah\/rx b=0/\∃c,oB b=W (c,b):=by unfold oB<;>grind
attribute [local irreducible] nG oB rx gq lk kK ld oI
def azZ{b:cZ}(d:b.eP=ad)(c:b.fq≠[]):kK dl b=2:=by simp_all[kK,ae]
def az0{b:cZ}(f:(if b.eP then oB b.fq else ah)=ah)(e:¬(¬b.eP/\¬b.fq=[]))(c:b.eP=ad\/b.eP/\rx b.fq=0):kK dl b=0:=by rcases c with c|⟨c,d⟩;simp_all[kK,ab];grind[O4]
def as8(b:cZ)(e:(if b.eP then oB b.fq else ah)=ah)(f:b.eP)(g:Q b.fq<=1048576):rx b.fq≠0/\bb 43 [bV b.fq] (cs [.jD,an aj (rx b.fq)])\/rx b.fq=0/\bb 43 [bV b.fq] (cs [.jD,an aj 0]):=by rw[ae f] at e;have c:=afY g;rw[e] at c;by_cases d:rx b.fq=0;rw[d] at c;exact bp ⟨d,c⟩;exact bl ⟨d,c⟩
def EK{b:cZ}{e:J}(i:gq dl b e=0){c d:Y}(f:b.cJ=c)(g:b.du=d):zi b e=cs [B2 b (hO (if b.eP then oB b.fq else ah)) (bif c then .a 1 (aa c7 b.dH) else .a 1 []) (bif c then b.item else-1) (bif c then b.min else 0) (bif c then b.max else 0) (bif d then .a 3 (aa dj b.a8) else .a 3 []) (bif d then b.rest else-1),an aj 0]:=by unfold zi;grind[kg,hi,gX,B2]
theorem amO(b:cZ)(l:J)(N:b.ks)(n:(if b.eP then oB b.fq else ah)=ah):bb 21 [i3 b,an aj l] (zi b l):=by
 refine bx func21 [42,2022,2027] λU Z=>?_;obtain⟨P,R,S,B,T⟩:=id N;refine aS ?_ (f:=Yy b P R);apply e<;>intro D
 .rw[AW (DP p o) o];exact dB bq
 have i:lk b=0:=by simpa using D
 obtain⟨X,Y,C⟩:=zR i;refine fk ?_;apply e<;>intro E
 .have L:kK dl b=2:=azZ ap ap;rw[AW (Js i L aR) aR];exact dB bq
 refine aZ.eQ 1007 SE.size 75 [] ah ?_;refine eS ?_;refine br (λ_=>cf p (f:=ai3 b.cd (λO M=>(C O M).1) (aeS i) o)) ?_;refine D5 1007 7 ?_;refine fx ?_;refine fZ ?_;refine gf kc (λ_u=>⟨[(1,an aj l),(2,c 2),(4,c 4),(7,c 7)],[(2,ag 67<|i3 b),(4,ag 75 GC),(7,ag 75<|B2 b .jD .ba (-1) 0 0 .ba<|-1)],[]⟩) (λ_=>kK dl b=0) ?_ λ_u u=>?_
 .apply e<;>intro F
  focus
   have A:b.eP:=by simpa using F
   rcases as8 b n A S with⟨v,w⟩|⟨v,w⟩
   .skip
    refine aS ?_ (f:=w);apply e<;>intro G
    .rw[AW (Js i (O4 A) v) v];exact dB bq
    omega
   skip
   refine aS ?_ (f:=w);apply e<;>intro G
   .omega
  all_goals exact cA ()<|az0 n E ap
 refine aS ?_ (f:=Yw b l B);apply e<;>intro H
 .rw[AW (Gh i u p o) o];exact dB bq
 have y:ld b l=0:=by simpa using H
 refine aS ?_ (f:=Yz b l T);apply e<;>intro I
 .rw[AW (z8 i u y) o];exact dB bq
 have dI:gq dl b l=0:=by rw[z8 i u y];simpa using I
 apply e<;>intro x
 focus
  have s:b.cJ:=by simpa using x
  refine eS ?_;refine br (λ_=>cf p (f:=YF b.dH B)) ?_;refine fx ?_;refine fx ?_;refine fx ?_;refine fx ?_;refine fZ ?_;apply e<;>intro r
  .have q:b.du:=by simpa using r
   refine aZ.eQ 1720 3 120 [] (W (7,12)) ?_;refine dM ?_;refine eC (Q b.a8) (λd=>⟨[(4,c 4),(7,c 7),(90,.a 3<|aa dj b.a8),(91,k<|Q<|aa dj b.a8),(92,k d)],[(1720,.h 3 120<|aa dj<|ak d b.a8),(4,ag 75 GC),(7,ag 75<|B2 b .jD (.a 1<|aa c7 b.dH) b.item b.min b.max (.aq 1720 0<|Q<|aa dj<|ak d b.a8) b.rest)],[]⟩) λd j=>?_;apply e<;>intro K
   .have m:d<Q b.a8:=o;refine bi d (dj<|z b.a8 d ai) ?_ (j:=C2 m);refine er ?_ (hlen:=λt g=>by rw[ea.1 g];rfl);refine e7 (aa dj<|ak (d+1) b.a8) ?_ (hl:=.a p p p p λt g=>by rw[ea.1 g];rfl) (aW:=bG<|C3 dj m) (bQ:=a2);refine bc ?_;exact a0<|d+1
   obtain rfl:d=Q b.a8:=o;rw[g5]
   first|refine aZ.iK 1720 ?_|skip
   refine aZ.lF 1 7 [7] ?_;refine aZ.lF 3 7 [12] ?_;rw[EK dI s q,n];refine dM ?_;exact dB bq
 rotate_left
 focus
  have s:b.cJ=ad:=by simpa using x
  apply e<;>intro r
  .have q:b.du:=by simpa using r
   refine aZ.eQ 1720 3 120 [] (W (7,12)) ?_;refine dM ?_;refine eC (Q b.a8) (λd=>⟨[(4,c 4),(7,c 7),(90,.a 3<|aa dj b.a8),(91,k<|Q<|aa dj b.a8),(92,k d)],[(1720,.h 3 120<|aa dj<|ak d b.a8),(4,ag 75 GC),(7,ag 75<|B2 b .jD .ba (-1) 0 0 (.aq 1720 0<|Q<|aa dj<|ak d b.a8) b.rest)],[]⟩) λd j=>?_;apply e<;>intro K
   .have m:d<Q b.a8:=o;refine bi d (dj<|z b.a8 d ai) ?_ (j:=C2 m);refine er ?_ (hlen:=λt g=>by rw[ea.1 g];rfl);refine e7 (aa dj<|ak (d+1) b.a8) ?_ (hl:=.a p p p p λt g=>by rw[ea.1 g];rfl) (aW:=bG<|C3 dj m) (bQ:=a2);refine bc ?_;exact a0<|d+1
   obtain rfl:d=Q b.a8:=o;rw[g5]
   first|refine aZ.iK 1720 ?_|skip
   refine aZ.lF 1 7 [7] ?_;refine aZ.lF 3 7 [12] ?_;rw[EK dI s q,n];refine dM ?_;exact dB bq
 all_goals
  have q:b.du=ad:=by simpa using r
  first|refine aZ.iK 1720 ?_|skip
  refine aZ.lF 1 7 [7] ?_;refine aZ.lF 3 7 [12] ?_;rw[EK dI s q,n];refine dM ?_;exact dB bq
def amP(b:cZ)(l:J)(I:b.ks)(g:bF)(Y:b.eP)(F:bb 43 [bV b.fq] (cs [hO (W (g,b.fq)),an aj 0]))(G:kK dl b=0)(v:(if b.eP then oB b.fq else ah)=W (g,b.fq)):bb 21 [i3 b,an aj l] (zi b l):=by
 refine bx func21 [42,2022,2027] λO S=>?_;obtain⟨L,M,Z,y,N⟩:=id I;refine aS ?_ (f:=Yy b L M);apply e<;>intro B
 .rw[AW (DP p o) o];exact dB bq
 have n:lk b=0:=by simpa using B
 obtain⟨P,R,A⟩:=zR n;refine fk ?_;apply e<;>intro T
 .simp_all
 refine aZ.eQ 1007 SE.size 75 [] ah ?_;refine eS ?_;refine br (λ_=>cf p (f:=ai3 b.cd (λK H=>(A K H).1) (aeS n) o)) ?_;refine D5 1007 7 ?_;refine fx ?_;refine fZ ?_;refine gf kc (λ_u=>⟨[(1,an aj l),(2,c 2),(4,c 4),(7,c 7)],[(2,ag 67<|i3 b),(4,ag 75 GC),(7,ag 75<|B2 b (fy 5 [bH [k g.start,.a 1<|aa a_ g.acc,.a 1<|aa b6 g.next,bV b.fq,a6 af]] 0 0) .ba (-1) 0 0 .ba<|-1)],[]⟩) (λ_=>kK dl b=0) ?_ λ_u u=>?_
 .apply e<;>intro U
  .refine aS ?_ (f:=F);apply e<;>intro X
   .omega
   exact cA () G
  trivial
 refine aS ?_ (f:=Yw b l y);apply e<;>intro C
 .rw[AW (Gh n u p o) o];exact dB bq
 have x:ld b l=0:=by simpa using C
 refine aS ?_ (f:=Yz b l N);apply e<;>intro D
 .rw[AW (z8 n u x) o];exact dB bq
 have dI:gq dl b l=0:=by rw[z8 n u x];simpa using D
 apply e<;>intro w
 focus
  have s:b.cJ:=by simpa using w
  refine eS ?_;refine br (λ_=>cf p (f:=YF b.dH y)) ?_;refine fx ?_;refine fx ?_;refine fx ?_;refine fx ?_;refine fZ ?_;apply e<;>intro r
  .have q:b.du:=by simpa using r
   refine aZ.eQ 1720 3 120 [] (W (7,12)) ?_;refine dM ?_;refine eC (Q b.a8) (λd=>⟨[(4,c 4),(7,c 7),(90,.a 3<|aa dj b.a8),(91,k<|Q<|aa dj b.a8),(92,k d)],[(1720,.h 3 120<|aa dj<|ak d b.a8),(4,ag 75 GC),(7,ag 75<|B2 b (fy 5 [bH [k g.start,.a 1<|aa a_ g.acc,.a 1<|aa b6 g.next,bV b.fq,a6 af]] 0 0) (.a 1<|aa c7 b.dH) b.item b.min b.max (.aq 1720 0<|Q<|aa dj<|ak d b.a8) b.rest)],[]⟩) λd j=>?_;apply e<;>intro E
   .have m:d<Q b.a8:=o;refine bi d (dj<|z b.a8 d ai) ?_ (j:=C2 m);refine er ?_ (hlen:=λt i=>by rw[ea.1 i];rfl);refine e7 (aa dj<|ak (d+1) b.a8) ?_ (hl:=.a p p p p λt i=>by rw[ea.1 i];rfl) (aW:=bG<|C3 dj m) (bQ:=a2);refine bc ?_;exact a0<|d+1
   obtain rfl:d=Q b.a8:=o;rw[g5]
   first|refine aZ.iK 1720 ?_|skip
   refine aZ.lF 1 7 [7] ?_;refine aZ.lF 3 7 [12] ?_;rw[EK dI s q,v];refine dM ?_;exact dB bq
 rotate_left
 focus
  have s:b.cJ=ad:=by simpa using w
  apply e<;>intro r
  .have q:b.du:=by simpa using r
   refine aZ.eQ 1720 3 120 [] (W (7,12)) ?_;refine dM ?_;refine eC (Q b.a8) (λd=>⟨[(4,c 4),(7,c 7),(90,.a 3<|aa dj b.a8),(91,k<|Q<|aa dj b.a8),(92,k d)],[(1720,.h 3 120<|aa dj<|ak d b.a8),(4,ag 75 GC),(7,ag 75<|B2 b (fy 5 [bH [k g.start,.a 1<|aa a_ g.acc,.a 1<|aa b6 g.next,bV b.fq,a6 af]] 0 0) .ba (-1) 0 0 (.aq 1720 0<|Q<|aa dj<|ak d b.a8) b.rest)],[]⟩) λd j=>?_;apply e<;>intro E
   .have m:d<Q b.a8:=o;refine bi d (dj<|z b.a8 d ai) ?_ (j:=C2 m);refine er ?_ (hlen:=λt i=>by rw[ea.1 i];rfl);refine e7 (aa dj<|ak (d+1) b.a8) ?_ (hl:=.a p p p p λt i=>by rw[ea.1 i];rfl) (aW:=bG<|C3 dj m) (bQ:=a2);refine bc ?_;exact a0<|d+1
   obtain rfl:d=Q b.a8:=o;rw[g5]
   first|refine aZ.iK 1720 ?_|skip
   refine aZ.lF 1 7 [7] ?_;refine aZ.lF 3 7 [12] ?_;rw[EK dI s q,v];refine dM ?_;exact dB bq
 all_goals
  have q:b.du=ad:=by simpa using r
  first|refine aZ.iK 1720 ?_|skip
  refine aZ.lF 1 7 [7] ?_;refine aZ.lF 3 7 [12] ?_;rw[EK dI s q,v];refine dM ?_;exact dB bq
end
section
noncomputable def kp(b:dX):X cG:=aa hi b.b_
noncomputable def Sj(b:dX):V:=fy 2 [bH [.a 14 (aa (wy<|gK<|kp b)<|kp b),an aj b.root]] 0 0
noncomputable def tT(b:dX):V:=if hK dl b≠0 then cs [.jD,an aj<|hK dl b] else cs [Sj b,an aj 0]
structure akK(M:cZ)(kd:J):Prop where
 dH:M.cJ->Q M.dH<=10/\∀U∈M.dH,0<=U/\U<kd
 item:M.cJ->-1<=M.item/\M.item<kd
 ad5:M.cJ->(0<=M.min/\M.min<=1000)/\(M.max=-1\/M.min<=M.max/\M.max<=1000)
 xZ:M.du->Q M.a8<=30/\∀E,E<Q M.a8->l7 M.a8 kd (-1) E=0
 rest:M.du->-1<=M.rest/\M.rest<kd
def afs{c b:J}(d:¬kG c b):0<=b/\b<c:=by simp_all[kG,p9,ir]
def BT{b:cZ}{d:J}(w:0<d)(s:gq dl b d=0):akK b d:=by
 obtain⟨u,v,c,r⟩:=z9 s;have g:b.cJ->(Q b.dH<=10/\∀i∈b.dH,0<=i/\i<d)/\(-1<=b.item/\b.item<d)/\(0<=b.min/\b.min<=1000)/\(b.max=-1\/b.min<=b.max/\b.max<=1000):=λe=>by unfold ld at c;rw[ab ap] at c;split at c;cases c;split at c;cases c;split at c;cases c;rename_i t n q;refine⟨⟨o,λi x=>afs λj=>n ap⟩,?_,⟨o,o⟩,?_⟩;by_cases m:b.item=-1;omega;have:=afs λj=>q<|bl<|bl<|bl ⟨m,j⟩;omega;omega
 have k:b.du->(Q b.a8<=30/\∀l,l<Q b.a8->l7 b.a8 d (-1) l=0)/\-1<=b.rest/\b.rest<d:=λf=>by unfold oI at r;grind[s7,C6]
 exact⟨λe=>(g e).1,λe=>(g e).2.1,λe=>(g e).2.2,λf=>(k f).1,λf=>(k f).2⟩
def E7{b:X dq}{c:J}(e:g<Q b)(d:l7 b c (-1) g=0):kJ b[g].name=0/\(-1<=b[g].shape/\b[g].shape<c)/\(b[g].g_=af->0<=b[g].shape):=by unfold l7 at d<;>grind
def amN{b:cZ}(C:0<g)(q:b.ks)(i:gq dl b g=0):KR g (hi b):=by
 have e:=BT o i;obtain⟨t,u,k⟩:=zR (z9 i).1;obtain⟨D,E,F,G,H⟩:=q;refine⟨(V0 (λs n=>(k s n).1) o).1,λc=>?_,?_,?_,λl f hm=>?_⟩;have c:b.cJ:=c;obtain⟨v,w⟩:=e.dH c;have x:=e.item c;have y:=(e.ad5 c).1;refine⟨by show 0<=(if b.cJ then b.min else 0);omega,λd=>?_⟩;have he:(hi b).elem d=if d<Q b.dH then z b.dH d 0 else b.item:=by show(if d<Q (if b.cJ then b.dH else[]) then z (if b.cJ then b.dH else[]) d 0 else(if b.cJ then b.item else-1))=_;rw[ae c,ae c]
 grind[cT];show Q (if b.cJ then b.dH else[])<=_;grind;show Q (if b.du then b.a8 else[])<=_;grind;change l∈(if b.du then b.a8 else[]) at f;split at f;rename_i m;obtain⟨r,j,rfl⟩:=lU.1 f;obtain⟨_,A,B⟩:=E7 j ((e.xZ m).2 r j)<;>simp_all;trivial
def aod(b:cZ)(d:J)(f:b.ks):bb 21 [i3 b,an aj d] (zi b d):=by cases l:(if b.eP then oB b.fq else ah) with|none=>grind[amO]|some m=>have j:b.eP:=yK λk=>ap;rcases as7 b.fq with⟨_,c⟩|⟨_,c⟩|⟨i,g,c⟩;simp_all;simp_all;have e:=afY f.2.2.1;rw[i,c] at e;exact amP b d f g j e (by grind[O4]) ap
def aop(b:cZ)(c:J)(j:b.ks):gq dl b c≠0/\bb 21 [i3 b,an aj c] (cs [Wb,an aj (gq dl b c)])\/gq dl b c=0/\(hi b).gg=ah/\bb 21 [i3 b,an aj c] (cs [gX (hi b) .jD (.a 1 ((hi b).dH.map c7)) (.a 3 ((hi b).a8.map dj)),an aj 0])\/gq dl b c=0/\∃e f,(hi b).gg=W (e,f)/\bb 21 [i3 b,an aj c] (cs [gX (hi b) (hO (W (e,f))) (.a 1 ((hi b).dH.map c7)) (.a 3 ((hi b).a8.map dj)),an aj 0]):=by
 have d:=aod b c j;unfold zi at d;split at d;rename_i g;unfold kg at d;cases i:(hi b).gg with|none=>rw[i] at d;exact bp (bl ⟨g,p,d⟩)|some k=>grind
 simp_all
def ahM{b:dX}(c:hK dl b=0)(i:b.ks):∀e∈kp b,KR (Q (kp b)) e:=λe g=>by obtain⟨k,d,rfl⟩:=cV.1 g;have f:Q (kp b)=Q b.b_:=bg ..;rw[f];refine amN (PD d) (i.1 k d) ?_;unfold hK at c;split at c;cases c;split at c;cases c;obtain⟨l,j,rfl⟩:=lU.1 d;grind[C6,Da]
attribute [local irreducible] hi gq zi hK nG
def YZ(b:dX)(aH:b.ks):bb 10 [kB b] (tT b):=by
 refine bx func10 [2008] λD G=>?_;have m:Q (aa i3 b.b_)=Q b.b_:=bg ..;have M:Q (kp b)=Q b.b_:=bg ..;apply e<;>intro L
 .have g:hK dl b=13:=by unfold hK;rw[ae o]
  rw[show tT b=cs [.jD,an aj 13] by simp_all[tT,ae]];exact aA
 apply e<;>intro H
 .have g:hK dl b=3:=by unfold hK;rw[ab o,ae o]
  rw[show tT b=cs [.jD,an aj 3] by simp_all[tT,ae]];exact aA
 refine eA ?_;apply e<;>intro I
 .have g:hK dl b=9:=by unfold hK;rw[ab o,ab o,ae (by(simp[kG,p9,ir];omega))]
  rw[show tT b=cs [.jD,an aj 9] by simp_all[tT,ae]];exact aA
 have t:¬Q b.b_=0:=o;have u:¬60<Q b.b_:=o;have v:¬kG (Q b.b_) b.root:=by unfold kG;rw[p9,ir,ir];omega
 have q:hK dl b=l6 (λd=>gq dl (z b.b_ d ai)<|Q b.b_) (Q b.b_):=by unfold hK;rw[ab t,ab u,ab v]
 refine aZ.eQ 1730 14 75 [] (W (34,0)) ?_;refine dM ?_;refine i0 (Q b.b_) (λd=>l6 (λd=>gq dl (z b.b_ d ai)<|Q b.b_) d=0) (λd=>⟨[(1,c 1),(4,c 34),(36,.a 13<|aa i3 b.b_),(37,k<|Q<|aa i3 b.b_),(38,k d)],[(1730,.h 14 75<|aa kg<|ak d<|kp b),(1,ag 24<|kB b),(34,ag 47<|bH [.aq 1730 0 (Q<|aa kg<|ak d<|kp b),an aj b.root])],[]⟩) (λd j=>?_) p;apply e<;>intro K
 .have r:d<Q b.b_:=o;have B:=aop (z b.b_ d ai) ((Q (aa i3 b.b_):Z):J)<|aH.1 _ ap;have s:=O2 kg ai (show d<Q (kp b) by omega);rw[show z (kp b) d ai=hi (z b.b_ d ai) by grind[kp,List.getElem?_eq_getElem,Da]] at s;refine bi d (i3<|z b.b_ d ai) ?_ (j:=gD r);rcases B with⟨dI,f⟩|⟨dI,n,f⟩|⟨dI,E,N,n,f⟩
  .skip
   refine aS ?_ (f:=f);apply e<;>intro y
   .have x:¬gq dl (z b.b_ d ai) (Q b.b_)=0:=by rw[<-m];exact dI
    have g:hK dl b=gq dl (z b.b_ d ai) ((Q (aa i3 b.b_):Z):J):=by rw[q,HV j.2 x _ r,m]
    rw[show tT b=cs [.jD,an aj (gq dl (z b.b_ d ai) ((Q (aa i3 b.b_):Z):J))] by simp_all[tT,ae]];exact aA
   omega
  all_goals
   have w:gq dl (z b.b_ d ai) (Q b.b_)=0:=by rw[<-m];exact dI
   refine aS ?_ (f:=f);apply e<;>intro y
   .omega
   refine eS ?_;refine br (λ_=>lf p) ?_;refine p7 ?_;refine lS 60 (aa kg<|ak (d+1)<|kp b) ?_ (aH:=a3) (hl:=.a p p p p λF C=>by rw[ea.1 C];rfl) (aW:=by rw[<-s];unfold kg;rw[n];rfl) (bQ:=a2);refine p7 ?_;refine fx ?_;refine kU [(60,1730)] ?_;refine bc ?_;exact a0 (d+1) ⟨o,E5 j.2 w⟩
 obtain rfl:d=Q b.b_:=o;have A:hK dl b=0:=by rw[q];exact j.2
 rw[rQ (i:=Q b.b_) (l:=kp b) o];refine bI [(6000,34),(6001,1730)] ?_ (f:=awv (kp b) b.root (Q<|aa kg<|kp b) (bg ..) (ahM A aH) o);rw[show tT b=cs [Sj b,an aj 0] by(simp[tT,ab];omega)];exact zp 1730 (Q<|aa kg<|kp b) (show Q (aa (wy (gK (kp b))) (kp b))=_ by simp)<|RQ 34 2 aA
end
section
open Go.RowKit
def jn(b:J):X (Z×V):=[(0,aa6),(1,aa5),(5,fy 1 [an aj b] 0 0)]
def Fc(b:J):e5 (jn b):=p
theorem abB{j:World}{i:Z->Prop}{c:bh}{e:X Z}{m l:X (Z×V)}{d:bh}{f:b0}{k:World}(b:Holds ⟨j,i,c,e,m,g⟩ d f k):Holds ⟨j,i,c,e,l,g⟩ d f k:=⟨b.le,⟨b.B.os,b.B.tape,b.B.output,b.B.size,b.B.block⟩,b.m0,b.m4,b.m5,b.own,b.kD,b.ma,b.gy,b.lj,b.kS,b.inj⟩
def afd(r:J){b:ct}{d:gP}{f:X V}{e:b0}{c:V->b0->Prop}(q:gJ b hB d f e c):gJ b (jn r) d f e c:=by
 refineλg t u s j k l m=>(q g t u s j k (abB l) λi v n=>m i v (by unfold hB at n;unfold jn<;>grind)).mono ?_
 grind[abB]
def rB(d:J){b:ct}{c:gP}{f:X V}{e:V}(g:fA b hB c f e):fA b (jn d) c f e:=afd d g
def Ur(d:J){b:ct}{c:gP}{i:X V}{e f:bU}{g:V}(j:og b hB c i e g f):og b (jn d) c i e g f:=λk=>afd d<|j k
def Ox(b:v)(c:X v):∀(l:X v)(e:Z),e=l.count b->Lib.replaceK [b] c e l=l.flatMap λd=>if d=b then c else[d]
|[],e,g=>by subst g;rfl|d::f,e,g=>by
 rw[ts];by_cases i:d=b;subst i;rw[List.count_cons_self] at g;subst g;rw[Lib.replaceK_hit [d] c _ _ 0 (by simp[Lib.index_one,gQ]),ae p];show[]++c++Lib.replaceK [d] c _ f=_;rw[tv,Ox d c f _ p];rw[List.count_cons_of_ne λq=>i q] at g;rw[ab i];cases e with
 |zero=>have:=Ox b c f 0 g;rw[<-this];rfl|succ e=>
  obtain⟨k,j⟩:=Lib.index_of_count (s:=f) (old:=[b]) (by grind[Lib.count_one]);have m:=Ox b c f _ g;rw[Lib.replaceK_hit [b] c e f k j] at m;have n:Lib.index (d::f) [b]=(k+1:Z):=by rw[Lib.index_one] at j⊢;unfold Lib.indexByte;rw[ab a2,j,ab av];rfl
  rw[Lib.replaceK_hit [b] c e (d::f) (k+1) n,<-m]<;>simp_all
def axG(b:v){c:X v}(f:[b]≠c)(e:X v):Lib.replaceAll e [b] c=e.flatMap λd=>if d=b then c else[d]:=by unfold Lib.replaceAll Lib.replace;simp_all[ab,Ox,Lib.replaceNum,ae,Lib.count_one]
def aon(c:v1)(b:v):Lib.countB c ⟨#[b]⟩<=c.size:=by show Lib.count _ [b]<=_;rw[Lib.count_one];exact List.count_le_length
def axK(d:X v)(e:Q d<=1000000):Q (d.flatMap λb=>if b=126 then[126,48] else[b])<=4000000:=by
 have g:∀c:X v,Q (c.flatMap λb=>if b=126 then[126,48] else[b])<=2*Q c:=by
  intro c
  induction c with|nil=>trivial|cons b c f=>grind
 grind
def agU(f:J){M:X v}(b:v)(c:X v)(D:[b]≠c)(y:Q c=2)(F:Q M<=4000000):fA b5 (jn f) 307 [bV M,bV [b],bV c] (bV (M.flatMap λd=>if d=b then c else[d])):=by
 intro u t H R x g m z;obtain⟨q,r,s,rfl⟩:∃q r s,t=[q,r,s]:=by
  match t,x with|[I,d,b],_=>simp
 have hm:=z 5 _ (show(5,V.ref 1 [an aj f] 0 0)∈jn f by simp[jn]);obtain⟨n,i⟩:∃n,n=Value.pointer (W ⟨5,0,ah⟩):=⟨_,p⟩;rw[<-i] at hm;have C:=by cases hm with|ref _ _ _ _ d base val F A E=>have k:=A 0 0 _ _ p p;have l:=E 0 0 _ _ p p;simp at i;obtain⟨rfl,B⟩:=i;rw[show base+0*1+0=0 from B] at k;have w:=m.kD _ _ _ k;generalize val 0 0=S at l w;cases l<;>omega
 cases g 0 _ _ p p;cases g 1 _ _ p p;cases g 2 _ _ p p;have P:(⟨aT M⟩:v1).size=Q M:=by show(aT M).size=_;simp
 have O:(⟨aT c⟩:v1).size=2:=by show(aT c).size=_;simp[y]
 have N:(⟨#[b]⟩:v1).size=1:=p;have L:=aon ⟨aT M⟩ b;refine(Tryz.strings_ReplaceAll _ _ _ f H o C o aY).mono ?_;rintro K T ⟨rfl,e⟩;have he:Lib.replaceAll (⟨aT M⟩:v1).data.toList (⟨#[b]⟩:v1).data.toList (⟨aT c⟩:v1).data.toList=M.flatMap λd=>if d=b then c else[d]:=by rw[<-axG b D M]
 rw[he];exact⟨_,bV _,[],u,p,⟨p,p⟩,.str _,m.grown ⟨e.os,e.tape,e.output,e.size,λG j _=>e.block G j⟩⟩
def apA(c:X v):((c.flatMap λb=>if b=126 then[126,48] else[b]).flatMap λb=>if b=47 then[126,49] else[b])=lv s6 c:=by rw[List.flatMap_assoc];unfold s6<;>grind
def apB(b:J)(M:X v)(c:Q M<=1000000):fA b5 (jn b) 276 [bV M] (bV (lv s6 M)):=by refine bx func276 [] λd e=>?_;refine aS (f:=agU b (M:=M) 126 [126,48] aR p o)<|aS ?_ (f:=agU b 47 [126,49] aR p<|axK M c);exact aA (q:=by rw[apA];rfl)
def azw(b:X v)(n:kJ b=0)(q:Q b<=1048576):bb 224 [.a 1 [bV b]] (an aj 0):=by
 refine bx func224 [] λd g=>?_;apply e<;>intro m
 .trivial
 refine eC 1 (λc=>⟨[(9,.a 1 [bV b]),(10,k 1),(11,k c)],[],[]⟩) λc j=>?_;apply e<;>intro i
 .obtain rfl:c=0:=o;refine bi 0 _ ?_;refine aS ?_ (f:=Lk b);apply e<;>intro l
  .omega
  exact bc<|a0 1 o
 exact aA
def awd(d:J)(b:X v)(g:Q b<=1000000):fA b5 (jn d) 225 [.a 1 [bV b]] (bV (ex b)):=by
 refine bx func225 [] λi l=>?_;refine eC 1 (λc=>⟨[(3,bV<|if c=0 then[] else ex b),(6,.a 1 [bV b]),(7,k 1),(8,k c)],[],[]⟩) λc j=>?_;apply e<;>intro m
 .obtain rfl:c=0:=o;have n:=by have:=Aa b;unfold ex at this;rw[kN] at this;omega
  refine bi 0 _ ?_;refine aS ?_ (f:=apB d b g);refine vz ?_ (q:=oU);refine vz (q:=oU)<|bc<|a0 1 o
 rw[ab o];exact aA
def awe(c:J)(b:X v)(d:kJ b=0)(g:Q b<=1000000):fA b5 (jn c) 160 [.a 1 [bV b]] (cs [bV (ex b),an aj 0]):=by
 refine bx func160 [] λi j=>?_;refine aS ?_ (f:=rB c<|azw b d o);apply e<;>intro k
 .omega
 refine aS ?_ (f:=awd c b g);exact aA
def ai2(d:J)(c b:X v)(e:kJ b=0)(g:Q b<=1000000)(k:Q c<=10000000000000000):fA b5 (jn d) 105 [bV c,bV b] (bV (c++ex b)):=by refine bx func105 [] λi j=>?_;refine er ?_;refine aS ?_ (f:=awe d b e g);exact vz (q:=by grind[Aa])<|aA
end
theorem Hg:∀b:X v,gR b b=ad|[]=>p|c::b=>by rw[gR,Hg b];simp
def AT:∀{e d f:X v},gR e d->gR d f->gR e f|_,d,[],_,g=>by grind[gR]|[],_,_::_,_,_=>p|_::_,[],_::_,g,_=>cc|i::e,j::d,k::f,b,c=>by simp[gR,p9,j_,PY] at b c⊢;rcases b with b|⟨rfl,b⟩;grind;rcases c with c|⟨rfl,c⟩;simp_all;exact bp ⟨p,AT b c⟩
def Rj{i:Type}{d:i->Y}{c:X i}(q:g<=Q c)(j:∀b(e:b<Q c),b<g->d c[b])(k:∀b(e:b<Q c),g<=b->d c[b]=ad):WS d c=g:=by
 have n:=bG<|Ed g c;have ch:WS d (ak g c)=Q (ak g c):=by rw[Kc];intro l f;obtain⟨b,e,rfl⟩:=PG.1 f;exact j b _ o
 have m:WS d (aU g c)=0:=by rw[Pw];intro l f;obtain⟨b,e,rfl⟩:=ajV.1 f;have:=k (g+b) o o;rw[this];simp
 grind
def sS{f:Type}(e:f->X v)(b:X f):Prop:=∀c d(j:c<Q b)(g:d<Q b),c<d->gR (e b[c]) (e b[d])
def Bt{b:Type}(c:b->X v)(d:X b)(e:X v):Z:=d.countP λf=>gR (c f) e
def XK{k:Type}{d:k->X v}{c:X k}{f:X v}(l:sS d c)(q:∀b(i:b<Q c),b<g->gR (d c[b]) f)(r:∀b(i:b<Q c),g<=b->gR (d c[b]) f=ad):(c.any λj=>aL<|d j=f)=if e:g<Q c then aL (d c[g]=f) else ad:=by
 rw[lT,uL];constructor;rintro⟨j,m,he⟩;obtain⟨b,i,rfl⟩:=lU.1 m;have s:g<=b:=Kn λe=>by grind[Hg]
 rcases fF g b with e|e;have n:=l g b o i e;simp_all;grind;grind
def YO(b:X v):bb 223 [bV b] (a6 ad):=by refine bx func223 [] λc d=>?_;exact aA (q:=by simp[cU])
def ahU{U:X v}:bb 159 [bV U] (a6 ad):=by refine bx func159 [] λb c=>?_;exact aA (q:=by simp[cU])
def ayZ(b c:X v):bb 158 [bV b,bV c] (a6 (gR b c)):=by refine bx func158 [] λd e=>?_;refine aS ?_ (f:=YO b);apply c9;refineλg=>cf ?_ (f:=YO c);exact p;exact ev (λ_=>p)<|aA
def amo(c:X (X v))(U:X v)(s:sS id c)(O:Q c<=1048576):bb 104 [.a 1 (aa V.str c),bV U] (cs [k (Bt id c U),a6 (c.any λG=>aL<|id G=U)]):=by
 refine bx func104 [] λH I=>?_;refine dv (Z×Z) (λi=>⟨[(0,_),(1,_),(6,_),(7,k i.1),(8,k i.2)],[],[]⟩) (λi=>i.1<=i.2/\i.2<=Q c/\(∀g(l:g<Q c),g<i.1->gR (id c[g]) U)/\∀g(l:g<Q c),i.2<=g->gR (id c[g]) U=ad) (λi=>i.2-i.1) (0,Q c) (λ⟨b,d⟩ aH=>?_) ⟨dO _,bz _,λg l q=>o,λg l q=>o⟩ ⟨⟨p,p,p,p,(by show W (V.int aj (Q (aa V.str c):J))=W (V.int aj (Q c:J));simp),c1⟩,c1,p,p⟩;dsimp only at aH⊢;obtain⟨N,E,u,w⟩:=aH;apply e<;>intro K
 .have n:(b+d)/2<Q c:=o;refine e6 ((b+d:Z):J) ?_;refine lg ((b+d:Z):J) ?_;refine IH (((b+d)/2:Z):J) ?_ (q:=by show((b+d:Z):J).fdiv 2=_;grind);refine lg (((b+d)/2:Z):J) ?_;refine bi ((b+d)/2) (bV c[(b+d)/2]) ?_ (j:=hR n);refine aS ?_ (f:=ayZ c[(b+d)/2] U);apply e<;>intro C
  .refine bc ?_;exact a0 ((b+d)/2+1,d) ⟨o,o,λg l q=>by rcases fF g ((b+d)/2) with m|m;exact AT (s g ((b+d)/2) l n m) C;grind,λg l q=>ap⟩ o .r
  exact a0 (b,(b+d)/2) ⟨o,o,λg l q=>ap,λg l q=>by dsimp only at q;have m:gR (id c[(b+d)/2]) U=ad:=ap;rcases fF ((b+d)/2) g with t|t;cases A:gR (id c[g]) U;rfl;rw[AT (s ((b+d)/2) g n l t) A] at m<;>omega;grind⟩ o .r
 obtain rfl:b=d:=o;have F:Bt id c U=b:=Rj E u w;have B:=XK s u w;apply c9;intro D;have x:b<Q c:=by simpa using D
 refine gx b (bV<|z c b ai) ?_ (j:=gD x);apply ev;intro L;refine gx b (bV<|z c b ai) ?_ (j:=gD x);refine cf ?_ (f:=ahU);apply c9;intro M;refine cf ?_ (f:=ahU (U:=U));exact p;exact p;exact p;exact aA (q:=by rw[F,B];refine ep (λy=>V.tuple [an aj (b:J),a6 y]) ?_;grind)
def XP(b:dq)(c:X v):bb 162 [dj b,bV c] (an aj (if gR b.name c then-1 else if b.name=c then 0 else 1)):=by
 refine bx func162 [] λf i=>?_;apply e<;>intro j
 .exact aA (q:=WL)
 apply e<;>intro d
 .exact aA (q:=by rw[ab o,ab λg=>d ap];rfl)
 exact aA (q:=by rw[ab o,ae ap];rfl)
def alK{b:Y}{c:Prop} [Decidable c]:(if b then(-1:J) else if c then 0 else 1)<0↔b:=by grind
def aBn{c:Y}{b:Prop} [Decidable b](d:b->c=ad):(if c then(-1:J) else if b then 0 else 1)=0↔b:=by grind
def amn{c:X dq}(l:X v)(t:sS dq.name c)(N:Q c<=1048576):bb 161 [.a 3 (aa dj c),bV l,e4 (dp 162) [] []] (cs [k (Bt dq.name c l),a6 (c.any λH=>aL<|dq.name H=l)]):=by
 refine bx func161 [] λI K=>?_;refine dv (Z×Z) (λi=>⟨[(0,_),(1,_),(2,_),(8,_),(9,k i.1),(10,k i.2)],[],[]⟩) (λi=>i.1<=i.2/\i.2<=Q c/\(∀g(m:g<Q c),g<i.1->gR (dq.name c[g]) l)/\∀g(m:g<Q c),i.2<=g->gR (dq.name c[g]) l=ad) (λi=>i.2-i.1) (0,Q c) (λ⟨b,d⟩ ⟨M,F,w,x⟩=>?_) ⟨dO _,bz _,λg m q=>o,λg m q=>o⟩ ⟨⟨p,p,p,p,p,(by show W (V.int aj (Q (aa dj c):J))=W (V.int aj (Q c:J));simp),c1⟩,c1,p,p⟩;apply e<;>intro L
 .have s:(b+d)/2<Q c:=o;refine e6 ((b+d:Z):J) ?_;refine lg ((b+d:Z):J) ?_;refine IH (((b+d)/2:Z):J) ?_ (q:=by show((b+d:Z):J).fdiv 2=_;grind);refine lg (((b+d)/2:Z):J) ?_;refine bi ((b+d)/2) (dj c[(b+d)/2]) ?_ (j:=hR s);refine aS ?_ (f:=XP c[(b+d)/2] l);apply e<;>intro C
  .refine bc ?_;exact a0 ((b+d)/2+1,d) ⟨o,o,λg m q=>by rcases fF g ((b+d)/2) with n|n;exact AT (t g ((b+d)/2) m s n)<|alK.1 C;grind,λg m q=>ap⟩ o .r
  exact a0 (b,(b+d)/2) ⟨o,o,λg m q=>ap,λg m q=>by have n:gR (dq.name c[(b+d)/2]) l=ad:=aY;rcases fF ((b+d)/2) g with u|u;cases A:gR (dq.name c[g]) l;rfl;rw[AT (t ((b+d)/2) g s m u) A] at n<;>omega;grind⟩ o .r
 obtain rfl:b=d:=o;have G:Bt dq.name c l=b:=Rj F w x;have B:=XK t w x;apply c9;intro D;have E:b<Q c:=by simpa using D
 refine gx b (dj<|z c b ai) ?_ (j:=gD E);refine cf ?_ (f:=XP (z c b ai) l);exact p;exact aA (q:=by rw[G,B];refine ep (λy=>V.tuple [an aj (b:J),a6 y]) ?_;grind)
def lH(b:X dq)(e:J)(c:X v):dq:=if(b.any λd=>aL<|d.name=c) then z b (Bt dq.name b c) ai else⟨c,e,ad⟩
def adt{b:X dq}{d:X v}(i:sS dq.name b)(g:(b.any λc=>aL<|c.name=d)):Bt dq.name b d<Q b:=by obtain⟨c,f,he⟩:=uL.1 g;refine aj9 B8 λe=>?_;have:=Kc.1 e c f;grind[Hg]
def alI(b:cG){l:V}(i:V)(c:X v)(g:sS dq.name b.a8)(k:Q b.a8<=1048576):bb 106 [fy 14 [gX b l i (.a 3 (aa dj b.a8))] 0 0,bV c] (dj (lH b.a8 b.rest c)):=by
 refine bx func106 [] λm n=>?_;refine aS ?_ (f:=amn c g k);apply e<;>intro d
 .have q:=adt g d;refine bi _ (dj<|z b.a8 (Bt dq.name b.a8 c) ai) ?_ (j:=ap);rw[show lH _ _ c=z b.a8 _ ai from ae d];exact dB bq
 rw[show lH _ _ c=⟨c,b.rest,ad⟩ from ab d];exact dB bq
def asp(b:bF)(g:X v){c:X v}(d:b.ok)(e:Q c<=100000000):bb 101 [hO (W (b,g)),bV c] (a6 (b.has c)):=by refine bx func101 [] λk l=>?_;refine T8 ?_;apply c9;refineλq=>cf (f:=(by refine bx func157 [] λi m=>?_;have r:=bF.Jm d c _ d.start;have n:=d.acc;refine eg<|cf (f:=alj b d c e)<|bi (b.run b.start c) (a_<|z b.acc (b.run b.start c) ad) ?_ (j:=ap);exact aA))<|p;exact aA
theorem x2(c:cZ)(b:Z)(d:b<=10):(bN c).w b=if c.cJ then jK c b else 0:=by show(jZ c).w b=_;unfold jZ;split;show(if b<11 then jK c b else 0)=_;omega;rfl
def apH(b:cZ):(jZ b).cd=vA (aa kr b.cd)/\(jZ b).eP=(qq b).eP/\(jZ b).i4=(qq b).i4/\(jZ b).rest=b.rest:=by unfold jZ;split<;>exact⟨p,p,p,p⟩
def aaZ{b:cZ}(i:b.ks)(u:0<g)(f:gq dl b g=0):xy g (bN b):=by
 obtain⟨c,l,m,q,r,s,t⟩:=Jt i o f;obtain⟨k,w,x,y⟩:=apH b;have v:=c.eh;refine⟨⟨?_,?_,?_⟩,⟨λd j=>?_,λd j=>?_⟩,?_,?_,?_,λe=>?_⟩;show Q (aa _ b.a8)=Q (aa _ b.a8);simp;show Q (aa _ b.a8)=Q (aa _ b.a8);simp;show Q (aa _ b.a8)<=_;(simp;omega);grind[x2];have j:d<Q (aa _ b.a8):=j;show z (aa dq.shape b.a8) d 0<g;simp_all;show(jZ b).rest<g;grind;show gZ 700 (jZ b).cd;rw[k];exact Iw o<|auE<|ah2 b c.O;show(jZ b).cd.length<=100000;have:=auD<|OU b.cd;have n:=c.n20
 (simp_all;omega)
 have e:(jZ b).eP:=e;show(jZ b).i4.ok;simp_all[qq,ae,Tl,ab]
def Td{c:X Y}{b:J}(d:b<g):g8 c b<g:=by(simp[g8];omega)
theorem anJ{d:bX}(f:X Y)(b:xy g d):xy g (di f d):=by
 have c:xy g (jX f d):=by unfold jX;split;refine⟨⟨b.ok.k,b.ok.m,b.ok.n⟩,⟨λe j=>?_,b.h2.aD⟩,b.rest,b.md,b.len,b.i4⟩;show(if e<11 then g8 _ _ else d.w e)<_;split;exact Td<|b.h2.w e j;omega;exact b
 unfold di;split;refine⟨⟨?_,c.ok.m,c.ok.n⟩,⟨c.h2.w,λe j=>?_⟩,Td b.rest,c.md,c.len,c.i4⟩;rw[bg,(EG f d).1];exact b.ok.k;rw[bg] at j;have:=b.h2.aD e j;simp_all[Td];omega
noncomputable def fi(b:dX):X bX:=aa bN b.b_
noncomputable def my(b:dX):X bX:=Ra<|fi b
structure mQ(M:dX):Prop where
 G:M.ks
 gB:hK dl M=0
def mQ.len{b:dX}(f:mQ b):0<Q b.b_/\Q b.b_<=60/\0<=b.root/\b.root<Q b.b_/\∀e∈b.b_,gq dl e (Q b.b_)=0:=by have c:=f.gB;unfold hK at c;split at c;cases c;split at c;cases c;split at c;cases c;rename_i i k d;unfold kG at d;rw[p9,ir,ir] at d;refine⟨o,o,o,o,λe g=>?_⟩;obtain⟨l,j,rfl⟩:=lU.1 g;grind[C6,Da]
theorem aa0{b:dX}(d:mQ b):∀c∈fi b,xy (Q (fi b)) c:=λc f=>by obtain⟨e,k,l,m,n⟩:=d.len;have g:Q (fi b)=Q b.b_:=bg ..;obtain⟨j,i,rfl⟩:=cV.1 f;rw[g];exact aaZ (d.G.1 j i) e ap
def ap9{b:dX}(f:mQ b):∀c∈my b,xy (Q (my b)) c:=λc d=>by have e:Q (my b)=Q (fi b):=bg ..;obtain⟨i,g,rfl⟩:=cV.1 d;grind[anJ,aa0]
theorem L7{M:dX}:Q (my M)=Q M.b_:=bC (bg ..)<|bg ..
def aaU(b:dX)(n:mQ b):bb 14 [kB b] (cs [.a 26 (aa gT (my b)),.a 1 (aa a_ (eT (fi b)))]):=by
 refine bx func14 [2006] λt y=>?_;obtain⟨u,v,w,x,q⟩:=n.len;refine aZ.eQ 4 26 92 [4] ah<|eC (Q b.b_) (λd=>⟨[(1,c 1),(5,k d),(4,.aq 4 0<|Q<|aa gT<|aa bN<|ak d b.b_)],[(1,ag 24<|kB b),(4,.h 26 92<|aa gT<|aa bN<|ak d b.b_)],[]⟩) λd j=>?_;apply e<;>intro A
 .have m:d<Q b.b_:=o;have s:=n.G.1 _<|cT (I:=ai) m;have r:=(Jt s o<|q _<|cT (I:=ai) m).1;refine bi d (i3<|z b.b_ d ai) ?_ (j:=gD m);refine aS ?_ (f:=aaT (z b.b_ d ai) r);refine er ?_;refine e7 (aa gT<|aa bN<|ak (d+1) b.b_) (aW:=akp) (bQ:=a2)<|bc<|a0<|d+1
 obtain rfl:d=Q b.b_:=o;rw[g5];refine aZ.iK 4<|dM ?_;refine aS ?_ (f:=anH (fi b)<|(λl=>⟨⟨λg i=>(l g i).ok,λg i=>(l g i).h2,(by show Q (aa bN b.b_)<=_;(simp;omega))⟩,λg i=>(l g i).rest⟩)<|aa0 n);exact aA
def aji(b:dX)(i:b.ks)(c:aN)(g:c.G<=1048576):bb 13 [kB b,eV c] (an aj (if hK dl b≠0 then hK dl b else mH c)):=by
 refine bx func13 [] λj k=>?_;refine aS ?_ (f:=aw4 afL b i);apply e<;>intro d
 .exact aA (q:=by rw[ae d];rfl)
 refine aS ?_ (f:=aye c g);exact aA (q:=by rw[ab d];rfl)
noncomputable def jz(b:dX)(c:aN):J:=if hK dl b≠0 then hK dl b else mH c
def HD{M:dX}{ax:aN}(e:M.ks)(b:¬jz M ax≠0):mQ M/\ax.gB=0:=by unfold jz at b;by_cases c:hK dl M=0;rw[ab λd=>d c] at b;have b:=yK b;unfold mH at b;split at b;cases b;exact⟨⟨e,c⟩,b⟩;omega
def awX(b:dX)(j:b.ks)(c:aN)(i:c.G<=1048576):bb 5 [kB b,eV c] (cs [a6 (if jz b c≠0 then ad else u4 (my b) b.root c),an aj (jz b c)]):=by
 refine bx func5 [] λl t=>?_;refine aS ?_ (x:=an aj<|jz b c) (f:=aji b j c i);apply e<;>intro d
 .rw[ae d];exact aA
 obtain⟨g,k⟩:=HD j d;rw[ab d,show jz b c=0 from yK d];obtain⟨m,n,q,r,s⟩:=g.len;refine aS ?_ (f:=aaU b g);refine aS ?_ (f:=akX (my b) (ap9 g) (by grind[L7]) c i k b.root (by grind[L7]));exact aA
section
open Go.Lib Go.Sort
theorem yc b(d:b<18446744073709551616):od b<=20:=by rcases oR b with rfl|c;rw[nDigits_small o];omega;have:=numDigits_eq b c d;split at this<;>omega
def avq:NQ=pow10Tab.map λb=>b:=by decide+kernel
theorem arB(c:g<20):(aa (V.int hf) NQ)[g]?=W (an hf ((10^g:Z))):=by have b:=pow10Tab_at g c;rw[dm,cm (by rw[pow10Tab_length];exact c)] at b;simp[xr] at b;rw[c4,avq,c4,cm (by rw[pow10Tab_length];exact c),b];rfl
def as0(d:g<18446744073709551616):bb 261 [an hf g] (k (xu g)):=.ofInt (λc=>.int _ _) λb=>by have:=Tryz.bits_Len64 g b o o;rwa [show aB ((g:J))=g by omega] at this
def atc(b:g<=64):bb 284 [an aj g] (k (l10 g)):=.ofInt (λc=>.int _ _)<|Tryz.internal_strconv_log10Pow2 g b
def amg{b:Y}:bb 285 [a6 b] (an aj (if b then 1 else 0)):=.ofBool (λc=>.int _ _)<|Tryz.internal_strconv_bool2_int b
theorem abW{E:Z}(b:E<100):bb 242 [an aj E] (bV (eH E)):=.ofInt (λc=>.str _)<|Tryz.internal_strconv_small E b
def aeN b(e:1<=b)(c:b<18446744073709551616):bb 243 [an hf (b:Z)] (k (od b)):=by refine bx func243 [] λj m=>?_;obtain⟨i,l⟩:=numDigits_eq b e c;have:=yc b c;have g:xu b<=64:=bitLen_le b 64 (bz _) c;refine aS ?_ (f:=as0 c);refine aS ?_ (f:=atc g);apply FE (tR:=l10<|xu b);refine aub (an hf<|(10^l10 (xu b):Z)) ?_<|arB o;refine aS ?_ (f:=amg);refine e6 (od b) ?_ (q:=by rw[<-i];simp only[yS];by_cases d:10^l10 (xu b)<=b;rw[ae d,ae (by exact_mod_cast d)];push_cast;rfl;rw[ab d,ab (by exact_mod_cast d)];push_cast;rfl);exact aA
def ap8 b(c:b<18446744073709551616):dF 244 [.aq 6000 1 (od b),an hf b] [(6000,.h 1 323 (cM 24 nI))] (cs []) [(6000,.h 1 323 (cM 1 nI++(aa bR (eH b)++cM (24-1-od b) nI)))]:=aaL p (by have:=yc b c;omega) (λbK g cap d i f e=>Tryz.internal_strconv_formatBase10 bK g cap b d i e (by rw[f];exact lt_pow_nDigits b) c (by have:=yc b c;omega))<|nDigits_pos b
def ap4{bn:Z}(g:bn<9223372036854775808):bb 182 [k bn,an aj 10] (bV (eH bn)):=by
 refine bx func182 [] λd i=>?_;have:=yc bn o;have:=nDigits_pos bn;have b:Q (eH bn)=od bn:=decDigits_length bn;refine ly.mk (λ_=>?_) nofun;refine fk ?_;apply e<;>intro j
 .have c:bn<100:=o;refine aS ?_ (f:=abW c);exact aA
 have:¬bn<100:=o;refine T0 (T:=24) (bn:=.int .u8 0) ?_ (aH:=a3) (aW:=a3);apply lg bn;refine ly.mk nofun λ_=>?_;refine aS ?_ (f:=aeN bn o o);refine e6 ((od bn+1:Z)) ?_ (q:=o);refine II 1 (od bn+1) (od bn) ?_ (x5:=av);refine bI [(6000,5)] ?_ (f:=ap8 bn o);refine ly.mk nofun λ_=>?_;refine e6 ((od bn+1:Z)) ?_ (q:=o);refine II 1 (od bn+1) (od bn) ?_ (x5:=by simp[cX,sH,bg,b];omega);refine zP (eH bn) ?_ (hlen:=by rw[b]) (bS:=by rw[show 0+1=1 from p,List.drop_left'<|sH ..];rw[List.take_left' (by rw[bg,b])]);exact aA
def arI(b:g<9223372036854775808):bb 127 [k g] (bV (eH g)):=by refine bx func127 [] λc d=>?_;refine aS ?_ (f:=ap4 b);exact aA
def ab0 b(c:b<9223372036854775808):bb 78 [k b] (bV (eH b)):=by refine bx func78 [] λd e=>?_;refine aS ?_ (f:=arI c);exact aA
end
section
open Go.Lib
def qC(c b:bX):bX:={c with eP:=b.eP,cJ:=b.cJ,du:=b.du}
noncomputable def j4(c:dX)(b:J):bX:=qC (bN<|z c.b_ (aB b) ai)<|z (my c) (aB b) ai
def kE(b:bX)(d:X v)(e:X (X v)):Z->X dL|0=>[]|c+1=>kE b d e c++(if z b.g_ c ad/\wN (z b.names c []) e 0<0 then[⟨d++ex (z b.names c []),7⟩] else[])
def vv(c:bX)(b:X v)(d:Z):X dL:=if(d:J)<c.min then[⟨b,4⟩] else[]
def vo(c:bX)(b:X v)(d:Z):X dL:=if c.max<(d:J) then[⟨b,5⟩] else[]
mutual
noncomputable def lG(b:dX)(c:J)(d:X v):aN->X dL
|.mk f j num k g i=>
 if f=1 then(if(j4 b c).null then[] else[⟨d,1⟩])
 else if f=2 then(if j/\(j4 b c).eR<2\/j=ad/\xw (j4 b c).eR 2=0 then[⟨d,1⟩] else[])
 else if f=3 then(if(z b.b_ (aB c) ai).cd.length=0 then[⟨d,1⟩] else if pP (j4 b c).cd (bu num) then[] else[⟨d,2⟩])
 else if f=4 then(if(j4 b c).eP=ad then[⟨d,1⟩] else if(j4 b c).i4.has k then[] else[⟨d,3⟩])
 else if f=5 then(if(j4 b c).cJ=ad then[⟨d,1⟩] else vv (j4 b c) d (Q g)++vo (j4 b c) d (Q g)++iB b (j4 b c).dd (λe=>d++ex (eH e)) g 0)
 else if(j4 b c).du=ad then[⟨d,1⟩]
 else kE (j4 b c) d i (j4 b c).names.length++iB b (λe=>((j4 b c).field<|z i e []).1) (λe=>d++ex (z i e [])) g 0
noncomputable def iB(e:dX)(d:Z->J)(c:Z->X v):X aN->Z->X dL|[],_=>[]|g::f,b=>(if 0<=d b then lG e (d b) (c b) g else[⟨c b,6⟩])++iB e d c f (b+1)
end
noncomputable def nX(f:dX)(g:J)(d:X v)(b:aN)(c:bX):X dL:=if b.bL=1 then(if c.null then[] else[⟨d,1⟩])
 else if b.bL=2 then(if b.bool/\c.eR<2\/b.bool=ad/\xw c.eR 2=0 then[⟨d,1⟩] else[])
 else if b.bL=3 then(if(z f.b_ (aB g) ai).cd.length=0 then[⟨d,1⟩] else if pP c.cd (bu b.num) then[] else[⟨d,2⟩])
 else if b.bL=4 then(if c.eP=ad then[⟨d,1⟩] else if c.i4.has b.text then[] else[⟨d,3⟩])
 else if b.bL=5 then(if c.cJ=ad then[⟨d,1⟩] else vv c d (Q b.list)++vo c d (Q b.list)++iB f c.dd (λe=>d++ex (eH e)) b.list 0)
 else if c.du=ad then[⟨d,1⟩]
 else kE c d b.keys (Q c.names)++iB f (λe=>(c.field<|z b.keys e []).1) (λe=>d++ex (z b.keys e [])) b.list 0
def C7(c:dX)(b:J)(e:X v)(d:aN):lG c b e d=nX c b e d (j4 c b):=by cases d;rfl
noncomputable def xY(d:dX)(c:J)(b:X v)(e:aN):X dL:=if 0<=c then lG d c b e else[⟨b,6⟩]
def HW{M:dX}{hp:Z->J}{dC:Z->X v}:∀{c:X aN}{b cr:Z}(d:b<Q c),iB M hp dC (ak (b+1) c) cr=iB M hp dC (ak b c) cr++xY M (hp (cr+b)) (dC (cr+b)) c[b]|[],b,cr,d=>by cases d|e::c,0,cr,d=>by rw[List.take_succ_cons,xk,xk,iB,iB,iB,ff,tv];rfl|e::c,b+1,cr,d=>by have:=HW (M:=M) (hp:=hp) (dC:=dC) (cr:=cr+1)<|WC d;grind[iB,List.append_assoc]
def Nf(d:bX)(c:X v)(e:X (X v)):∀b,Q (kE d c e b)<=b|0=>bz _|b+1=>by have:=Nf d c e b;grind[kE,List.length_append]
def adh(c:bX)(b:X v)(d:Z):Q (vv c b d)<=1:=by grind[vv]
def abu(c:bX)(b:X v)(d:Z):Q (vo c b d)<=1:=by grind[vo]
def aef{b:dX}(d:mQ b)(e:J):(j4 b e).names.length<=30:=by obtain⟨g,i,j,k,f⟩:=d.len;show Q ((z b.b_ _ _).a8.map _)<=30;rcases fF (aB e) (Q b.b_) with c|c;have hm:=cT (I:=ai) c;have l:=Jt (d.G.1 _ hm) o<|f _ hm;grind;rw[dm,yO c];trivial
def um(b:aN):b.ef=1+aN.ef.hy b.list:=by cases b;rfl
theorem BG(b:aN):1<=b.ef:=by simp[um]
theorem L2{M:dX}{hp:Z->J}{dC:Z->X v}:∀{L:X aN},(∀c∈L,∀f d,Q (lG M f d c)<=40*c.ef)->∀b,Q (iB M hp dC L b)<=40*aN.ef.hy L|[],_,b=>by simp[iB,dO]|g::L,e,b=>by have i:=L2 (hp:=hp) (dC:=dC) (L:=L) (λc k=>e c aY)<|b+1;have j:=BG g;grind[iB,List.length_append,aN.ef.hy,List.length_cons,List.length_nil]
def R1{d:dX}(g:mQ d):∀(c:aN)(b:J)(e:X v),Q (lG d b e c)<=40*c.ef:=aN.ind λc m b e=>by rw[C7,nX,um];have i:∀f:dL,Q [f]<=40*(1+aN.ef.hy c.list):=λf=>a2;have j:=adh (j4 d b) e<|Q c.list;have k:=abu (j4 d b) e<|Q c.list;have hm:=Nf (j4 d b) e c.keys (j4 d b).names.length;have l:=aef g b;grind[L2,j4,ex,List.length_append]
def aeG{b:X aN}(c:g<Q b):aN.ef.hy (ak g b)+b[g].ef<=aN.ef.hy b:=by
 induction b generalizing g with
 |nil=>cases c|cons d b e=>cases g with|zero=>simp[aN.ef.hy]|succ g=>grind[Nat.lt_of_succ_lt_succ,aN.ef.hy]
theorem Rs{bn:Z}(b:bn<18446744073709551616):Q (eH bn)<=20:=by grind[decDigits_length,yc]
def WX(e:dX)(b:aN):Prop:=b.G<=1048576->b.gB=0->∀(d:J)(f:X v)(c:X dL)(g:Z),g=Q (aa fH c)->0<=d->d<Q e.b_->Q f+5000000*b.G<=10000000000000000->Q c+40*b.ef<=10000000->dF 38 [.aq 5001 0 g,kB e,.a 26<|aa gT<|my e,an aj d,bV f,eV b] [(5001,.h 2 107<|aa fH c)] (.aq 5001 0<|Q<|aa fH<|c++lG e d f b) [(5001,.h 2 107<|aa fH<|c++lG e d f b)]
end
noncomputable def BW(d:dX)(g:aN)(f:bX)(e:X v)(b:X dL)(i:X (Z×V)):aI:=⟨(0,.aq 5001 0<|Q<|aa fH b)::(2,.a 26<|aa gT<|my d)::(4,bV e)::(7,c 7)::(11,c 11)::(14,c 14)::i,[(7,ag 24<|kB d),(11,ag 30<|eV g),(14,ag 92<|gT f),(5001,.h 2 107<|aa fH b)],[]⟩
theorem Hl{full:X Y}{ao:bX}:(di full ao).eP=ao.eP/\(di full ao).i4=ao.i4:=by unfold di jX;split<;>split<;>exact⟨p,p⟩
theorem Se{M:dX}(b:g<Q M.b_):z (my M) g ai=di (eT (fi M)) (bN (z M.b_ g ai)):=by rw[aa9 (by grind[L7]),Da b];simp[my,Ra,fi]
def aee{c:dX}(g:mQ c){e:J}(l:0<=e)(t:e<Q c.b_):xy (Q c.b_) (j4 c e):=by obtain⟨i,q,r,s,j⟩:=g.len;have f:aB e<Q c.b_:=o;have hm:=cT (I:=ai) f;have b:=aaZ (g.G.1 _ hm) i<|j _ hm;refine⟨⟨b.ok.k,b.ok.m,b.ok.n⟩,⟨b.h2.w,b.h2.aD⟩,b.rest,b.md,b.len,λd=>?_⟩;have d:(z (my c) _ _).eP:=d;rw[Se f,Hl.1] at d;exact b.i4 d
def ap3(M:dX)(C:mQ M)(bT:∀A∈M.b_,∀aA∈A.a8,Q aA.name<=2000000)(b:aN)(ax:∀A∈b.list,WX M A)(aW:b.G<=1048576)(aY:b.gB=0)(q:J)(d:X v)(L:X dL)(az:Z)(aH:az=Q (aa fH L))(aC:0<=q)(a7:q<Q M.b_)(bb:Q d+5000000*b.G<=10000000000000000)(bQ:Q L+40*b.ef<=10000000){r:X dL}(P:r=L++lG M q d b):dF 38 [.aq 5001 0 az,kB M,.a 26 (aa gT (my M)),an aj q,bV d,eV b] [(5001,.h 2 107 (aa fH L))] (.aq 5001 0 (Q (aa fH r))) [(5001,.h 2 107 (aa fH r))]:=by
 subst aH;have E:=aN.pp aW;have U:=(aN.pp<|bz b.G).2.2.2.2.1;obtain⟨aI,au⟩:=zf aY;obtain⟨b5,b6,ay,a2⟩:=Dw aI;obtain⟨b1,b2,b3,b4,aQ⟩:=C.len;have bJ:=L7 (M:=M);have am:aB q<Q M.b_:=o;have K:aB q<Q (my M):=o;have aw:=cT (I:=(ai:cZ)) am;have aR:=(Jt (C.G.1 _ aw) o<|aQ _ aw).1;have bU:=um b;rw[C7] at P;have y:=aee C aC a7;have aG:=aef C q;have Y:∀n,n<(j4 M q).names.length->Q ((j4 M q).names.getD n [])<=2000000:=λn al=>by have hm:(j4 M q).names.getD n []∈(z M.b_ (aB q) ai).a8.map dq.name:=cT al;grind
 refine dN func38 [2004,136,145,1002,1004,1006,2034,2050] λb7 a4 S=>?_;have B:=S.uf;have a7:=S.a7;refine bi (aB q) (i3<|z M.b_ (aB q) ai) ?_ (a7:=o) (j:=gD am);refine aS ?_ (f:=aaT (z M.b_ (aB q) ai) aR);refine eS ?_;refine br (λ_=>bi (aB q) (gT<|z (my M) (aB q) ai) p (a7:=o) (j:=gD K)) ?_;refine br (λ_=>bi (aB q) (gT<|z (my M) (aB q) ai) p (a7:=o) (j:=gD K)) ?_;refine br (λ_=>bi (aB q) (gT<|z (my M) (aB q) ai) p (a7:=o) (j:=gD K)) ?_;refine fx ?_;refine fx ?_;refine fx ?_;refine fZ ?_;refine n7 ⟨[(0,.aq 5001 0<|Q<|aa fH L),(2,.a 26<|aa gT<|my M),(4,bV d),(7,c 7),(11,c 11),(13,c 13),(14,c 14)],[(7,ag 24<|kB M),(11,ag 30<|eV b),(13,ag 67<|i3<|z M.b_ (aB q) ai),(14,ag 92<|gT<|j4 M q),(5001,.h 2 107<|aa fH L)],[]⟩ ?_;generalize j4 M q=g at P y aG Y⊢;refine dM ?_;apply e<;>intro bB
 .apply e<;>intro bC
  .refine bI [(5001,5001)] ?_ (f:=ua L d 1 p o);obtain rfl:r=L++[⟨d,1⟩]:=by simp_all[nX,ae,ab]
   exact cE
  obtain rfl:r=L:=by simp_all[nX,ae,ff]
  exact cE
 apply e<;>intro bD
 .refine fk ?_;apply ev;intro bL;apply c9;intro bM;refine FG (xw g.eR 2) ?_;exact p;exact p;apply e<;>intro bE
  .refine bI [(5001,5001)] ?_ (f:=ua L d 1 p o);obtain rfl:r=L++[⟨d,1⟩]:=by simp_all[nX,ab,ae]
   exact cE
  obtain rfl:r=L:=by simp_all[nX,ab,ae,ff]
  exact cE
 apply e<;>intro T
 .apply e<;>intro bF
  .refine bI [(5001,5001)] ?_ (f:=ua L d 1 p o);obtain rfl:r=L++[⟨d,1⟩]:=by simp_all[nX,ab,ae]
   exact cE
  refine eg ?_;refine cf ?_ (f:=Sh b.num<|ay T);refine cf ?_ (f:=Ss g.cd (bu b.num) 700 o y.md (aeZ<|ay T) y.len);apply e<;>intro bG
  .refine bI [(5001,5001)] ?_ (f:=ua L d 2 p o);obtain rfl:r=L++[⟨d,2⟩]:=by simp_all[nX,ab,ae]
   exact cE
  obtain rfl:r=L:=by simp_all[nX,ab,ae,ff]
  exact cE
 apply e<;>intro bd
 .apply e<;>intro be
  .refine bI [(5001,5001)] ?_ (f:=ua L d 1 p o);obtain rfl:r=L++[⟨d,1⟩]:=by simp_all[nX,ab,ae]
   exact cE
  refine aS ?_ (f:=agt g.i4 (y.i4 ap) b.text o);apply e<;>intro bf
  .refine bI [(5001,5001)] ?_ (f:=ua L d 3 p o);obtain rfl:r=L++[⟨d,3⟩]:=by simp_all[nX,ab,ae]
   exact cE
  obtain rfl:r=L:=by simp_all[nX,ab,ae,ff]
  exact cE
 apply e<;>intro bg
 .apply e<;>intro bh
  .refine bI [(5001,5001)] ?_ (f:=ua L d 1 p o);obtain rfl:r=L++[⟨d,1⟩]:=by simp_all[nX,ab,ae]
   exact cE
  refine gf (X dL) (λw=>BW M b g d w []) (λw=>w=L++vv g d (Q b.list)) ?_ λw aD=>?_
  .apply e<;>intro bj
   .refine bI [(5001,5001)] ?_ (f:=ua L d 4 p o);exact cA (L++[dL.mk d 4]) (by(simp[vv,ae];omega))
   exact cA L (by(simp[vv,ab,ff];omega))
  have a5:Q w<=Q L+1:=by have:=adh g d<|Q b.list;rw[aD,cX];omega
  refine gf (X dL) (λs=>BW M b g d s []) (λs=>s=w++vo g d (Q b.list)) ?_ λs aE=>?_
  .apply e<;>intro bk
   .refine bI [(5001,5001)] ?_ (f:=ua w d 5 p o);exact cA (w++[dL.mk d 5]) (by(simp[vo,ae];omega))
   exact cA w (by(simp[vo,ab,ff];omega))
  have a9:Q s<=Q L+2:=by have:=abu g d<|Q b.list;rw[aE,cX];omega
  rw[show s=s++iB M g.dd (λi=>d++ex (eH i)) (ak 0 b.list) 0 by rw[xk,iB,ff]];refine eC (Q b.list) (λi=>BW M b g d (s++iB M g.dd (λi=>d++ex (eH i)) (ak i b.list) 0) [(17,k i)]) λi j=>?_;apply e<;>intro bm
  .have F:i<Q b.list:=o;have x:=fK F;have aU:=E.2.2.2.2.1 _ x;have aV:=U _ x;have ao:=L2 (M:=M) (hp:=g.dd) (dC:=λi=>d++ex (eH i)) (L:=ak i b.list) (λA _ q d=>R1 C A q d) 0;have ar:=aeG F;have aK:=Rs (bn:=i) o;have aL:=Aa<|eH i;have aM:Q (d++ex (eH i))=Q d+Q (ex (eH i)):=cX;have aO:Q (s++iB M g.dd (λi=>d++ex (eH i)) (ak i b.list) 0)=Q s+Q (iB M g.dd (λi=>d++ex (eH i)) (ak i b.list) 0):=cX;have aJ:=bX.N6 y.h2 i;have aP:=BG b.list[i];refine gf (X dL) (λt=>BW M b g d t [(17,k i)]) (λt=>t=s++iB M g.dd (λi=>d++ex (eH i)) (ak (i+1) b.list) 0) ?_ λt D=>?_
   .refine aS ?_ (f:=ab0 i o);refine aS ?_ (f:=VG (eH i) o);refine vz ?_;refine aS ?_ (f:=UJ g i o);refine aad e1 bq B gw a7 (dQ:=[2004,136,145,1002,1004,1006,2034,2050]) ?_;apply e<;>intro bo
    .refine aZ.A4 [10] e1 bq B gw a7 p a3 ?_;refine br (λ_=>bi i _ p (j:=wH F)) ?_;refine Ah [(5001,5001)] [0,166] ?_ (f:=ax b.list[i] x o (au _ x) (g.dd i) (d++ex (eH i)) (s++iB M g.dd (λi=>d++ex (eH i)) (ak i b.list) 0) _ p o aJ o o);refine fZ ?_;exact cA (s++iB M g.dd (λi=>d++ex (eH i)) (ak i b.list) 0++lG M (g.dd i) (d++ex (eH i)) b.list[i]) (by simp_all[HW,xY,kZ,ae,fJ])
    refine HP e1 bq B gw a7 (dQ:=[2004,136,145,1002,1004,1006,2034,2050]) ?_;refine bI [(5001,5001)] ?_ (f:=ua (s++iB M g.dd (λi=>d++ex (eH i)) (ak i b.list) 0) (d++ex (eH i)) 6 p o);exact cA (s++iB M g.dd (λi=>d++ex (eH i)) (ak i b.list) 0++[dL.mk (d++ex (eH i)) 6]) (by simp_all[HW,xY,kZ,ab,fJ])
   subst D;refine bc ?_;exact a0<|i+1
  obtain rfl:i=Q b.list:=o;rw[g5];obtain rfl:r=s++iB M g.dd (λi=>d++ex (eH i)) b.list 0:=by simp_all[nX,ab,ae,fJ]
  exact cE
 apply e<;>intro bs
 .have bN:=a2 o;apply e<;>intro bt
  .refine bI [(5001,5001)] ?_ (f:=ua L d 1 p o);obtain rfl:r=L++[⟨d,1⟩]:=by simp_all[nX,ab,ae]
   exact cE
  have bS:=y.ok.m;rw[show L=L++kE g d b.keys 0 by rw[kE,ff]];refine eC (Q g.names) (λn=>BW M b g d (L++kE g d b.keys n) [(20,k n)]) λn al=>?_;apply e<;>intro bv
  .have H:n<Q g.names:=o;have ao:=Nf g d b.keys n;have ar:=Aa<|z g.names n [];have bZ:=Y n H;have aK:Q (L++kE g d b.keys n)=Q L+Q (kE g d b.keys n):=cX;refine gf (X dL) (λt=>BW M b g d t [(20,k n)]) (λt=>t=L++kE g d b.keys (n+1)) ?_ λt D=>?_
   .refine eg ?_;refine bi n (a_<|z g.g_ n ad) ?_ (j:=je o);apply c9;intro bK;refine gx n (bV<|z g.names n []) ?_ (j:=je H);refine cf ?_ (f:=acu b (z g.names n []) o);exact p;apply e<;>intro bw
    .refine bi n (bV<|z g.names n []) ?_ (j:=je H);refine aS ?_ (f:=VG (z g.names n []) o);refine vz ?_;refine bI [(5001,5001)] ?_ (f:=ua (L++kE g d b.keys n) (d++ex (z g.names n [])) 7 p o);exact cA (L++kE g d b.keys n++[dL.mk (d++ex (z g.names n [])) 7]) (by simp_all[kE,ae,fJ])
    exact cA (L++kE g d b.keys n) (by simp_all[kE,ab,ff])
   subst D;refine bc ?_;exact a0<|n+1
  obtain rfl:n=Q g.names:=o;obtain⟨u,R⟩:∃u:Z->X dL,∀l,u l=L++kE g d b.keys (Q g.names)++iB M (λi=>(g.field<|z b.keys i []).1) (λi=>d++ex (z b.keys i [])) (ak l b.list) 0:=⟨_,λ_=>p⟩;rw[show L++kE g d b.keys (Q g.names)=u 0 by rw[R,xk,iB,ff]];refine eC (Q b.keys) (λl=>BW M b g d (u l) [(21,k l)]) λl bW=>?_;apply e<;>intro bx
  .have N:l<Q b.keys:=o;have O:l<Q b.list:=o;have x:=fK O;have aU:=E.2.2.2.2.1 _ x;have aV:=U _ x;have bP:=E.2.2.2.2.2.1 _<|cT (I:=[]) N;have bY:=Nf g d b.keys<|Q g.names;have ao:=L2 (M:=M) (hp:=λi=>(g.field<|z b.keys i []).1) (dC:=λi=>d++ex (z b.keys i [])) (L:=ak l b.list) (λA _ q d=>R1 C A q d) 0;have ar:=aeG O;have aL:=Aa<|z b.keys l [];have aM:Q (d++ex (z b.keys l []))=Q d+Q (ex (z b.keys l [])):=cX;have aO:Q (u l)=Q (L++kE g d b.keys (Q g.names))+Q (iB M (λi=>(g.field<|z b.keys i []).1) (λi=>d++ex (z b.keys i [])) (ak l b.list) 0):=by rw[R,cX]
   have b0:Q (L++kE g d b.keys (Q g.names))=Q L+Q (kE g d b.keys (Q g.names)):=cX;have aF:=RX y (name:=(z b.keys l []));have aP:=BG b.list[l];refine gf (X dL) (λt=>BW M b g d t [(21,k l)]) (λt=>t=u (l+1)) ?_ λt D=>?_
   .refine bi l (bV<|z b.keys l []) ?_ (j:=je N);refine aS ?_ (f:=VG (z b.keys l []) o);refine vz ?_;refine eg ?_;refine bi l (bV<|z b.keys l []) ?_ (j:=je N);refine cf ?_ (f:=aaq g (z b.keys l []) y.ok);refine aad e1 bq B gw a7 (dQ:=[2004,136,145,1002,1004,1006,2034,2050]) ?_;apply e<;>intro bA
    .refine aZ.A4 [10] e1 bq B gw a7 p a3 ?_;refine br (λ_=>bi l _ p (j:=wH O)) ?_;refine Ah [(5001,5001)] [0,247] ?_ (f:=ax b.list[l] x o (au _ x) (g.field<|z b.keys l []).1 (d++ex (z b.keys l [])) (u l) _ p o aF o o);refine fZ ?_;exact cA (u l++lG M (g.field<|z b.keys l []).1 (d++ex (z b.keys l [])) b.list[l]) (by simp_all[HW,xY,kZ,ae,fJ])
    refine HP e1 bq B gw a7 (dQ:=[2004,136,145,1002,1004,1006,2034,2050]) ?_;refine bI [(5001,5001)] ?_ (f:=ua (u l) (d++ex (z b.keys l [])) 6 p o);exact cA (u l++[dL.mk (d++ex (z b.keys l [])) 6]) (by simp_all[HW,xY,kZ,ab,fJ])
   subst D;refine bc ?_;exact a0<|l+1
  obtain rfl:l=Q b.list:=o;obtain rfl:r=u (Q b.list):=by simp_all[nX,ab,fJ]
  exact cE
 omega
def ap2(b:dX)(m:mQ b)(l:∀v∈b.b_,∀e∈v.a8,Q e.name<=2000000):∀c,WX b c:=aN.ind λc r n q u d s t k f j g i=>ap3 b m l c r n q u d s t k f j g i p
def LI{c:aN}(b:mH c=0):c.ef<=20000:=by unfold mH at b;split at b;cases b;omega
def aoZ{d:dX}{e:aN}(b:¬jz d e≠0):e.ef<=20000:=by unfold jz at b;by_cases c:hK dl d=0;rw[ab λf=>f c] at b;exact LI<|yK b;rw[ae c] at b;exact b9 c b
def axI(b:dX)(g:mQ b)(k:∀r∈b.b_,∀i∈r.a8,Q i.name<=2000000)(c:aN)(m:c.G<=1048576)(n:c.gB=0)(w:c.ef<=20000)(d:J)(j:0<=d)(l:d<Q b.b_)(e:X v)(u:Q e<=1000000):bb 17 [.ba,kB b,an aj d,bV e,eV c] (.a 2 (aa fH (lG b d e c))):=by refine bx func17 [2002] λs t=>?_;refine aS ?_ (f:=aaU b g);refine aZ.eQ 0 2 107 [0] ah ?_;refine dM ?_;refine bI [(5001,0)] ?_ (f:=ap2 b g k c m n d e [] 0 p j l o (by rw[Ws];omega));exact ib 0<|aA (q:=p)
def awZ(b:dX)(j:b.ks)(r:∀t∈b.b_,∀k∈t.a8,Q k.name<=2000000)(c:aN)(i:c.G<=1048576):bb 7 [kB b,eV c] (cs [.a 2 (if jz b c≠0 then[] else aa fH (lG b b.root [] c)),an aj (jz b c)]):=by
 refine bx func7 [] λu z=>?_;refine aS ?_ (x:=an aj<|jz b c) (f:=aji b j c i);apply e<;>intro d
 .rw[ae d];exact RP 2 [4] (aA (q:=p))
 obtain⟨g,s⟩:=HD j d;have n:=aoZ d;rw[ab d,show jz b c=0 from yK d];obtain⟨v,w,l,m,y⟩:=g.len;refine aS ?_ (f:=axI b g r c i s n b.root l m [] aR);exact aA
section
open Go.Lib
structure il where
 s:cG
 B:V
 eh:V
def sa(b:il):V:=gX b.s (hO b.s.gg) b.B b.eh
instance:Inhabited il:=⟨⟨ai,.ba,.ba⟩⟩
structure sQ(kd:Z)(U:il):Prop where
 cd:U.s.cd.ok
 eR:0<=U.s.eR/\U.s.eR<=3
 gg:∀y S,U.s.gg=W (y,S)->y.ok
 aq4:U.s.list->U.B=.a 1 (aa c7 U.s.dH)
 aq3:U.s.iN->U.eh=.a 3 (aa dj U.s.a8)
 el:U.s.list->∀A, -1<=U.s.elem A/\U.s.elem A<kd
 ag1:U.s.iN->sS dq.name U.s.a8/\Q U.s.a8<=30
 fd:U.s.iN->∀ao∈U.s.a8,kJ ao.name=0/\-1<=ao.shape/\ao.shape<kd
 rest:U.s.iN->-1<=U.s.rest/\U.s.rest<kd
def sf:X (V×V×Z):=[(k 1,e4 (dp 52) [] [],0),(k 2,e4 (dp 53) [] [],1),(k 3,e4 (dp 54) [] [],2),(k 4,e4 (dp 55) [] [],3),(k 5,e4 (dp 56) [] [],4),(k 6,e4 (dp 57) [] [],5)]
def wx(b:X il)(e:J)(d:Y)(c:Z):V:=bH [fy 2 [bH [.a 14 (aa sa b),an aj e]] 0 0,.eW 6001,.aq 5001 0 c,a6 d]
def Fi(c:X il)(e:J)(d:Y)(b:X dL):bU:=[(6000,ag 83<|wx c e d<|Q<|aa fH b),(6001,h8 sf 6),(5001,.h 2 107<|aa fH b)]
def tF(j:J)(b:X il)(e:J)(d:Y)(f:gP)(k:X V)(i g:X dL):Prop:=og b5 (jn j) f (c 6000::k) (Fi b e d i) (cs [])<|Fi b e d g
abbrev pe:X (Z×Z):=[(6000,6000),(6001,6001),(5001,5001)]
def zb(b:J)(c:Y):Y:=if c then aL (2<=b) else aL (xw b 2=1)
def vw(d:cG)(b:X v)(c:Z):X dL:=if(c:J)<d.min then[⟨b,4⟩] else[]
def vp(b:cG)(c:X v)(d:Z):X dL:=if b.max≠-1/\b.max<(d:J) then[⟨c,5⟩] else[]
def m3(c:cG)(d:X v)(e:X (X v)):Z->X dL|0=>[]|b+1=>m3 c d e b++(if(z c.a8 b ai).g_/\(e.any λf=>aL<|f=(z c.a8 b ai).name)=ad then[⟨d++ex (z c.a8 b ai).name,7⟩] else[])
def Gv(c:da (bF×X v))(b e:X v):X dL:=match c with|ah=>[⟨b,1⟩]|W d=>if d.1.has e then[] else[⟨b,3⟩]
def gz(b:X il)(c:J):cG:=(z b (aB c) ai).s
mutual
def jB(b:X il)(k:Y)(c:J)(d:X v):aN->X dL->X dL
|.mk g l num m i j,e=>
 if g=1 then e++(if(gz b c).null then[] else[⟨d,1⟩])
 else if g=2 then e++(if zb (gz b c).eR l then[] else[⟨d,1⟩])
 else if g=3 then e++(if(gz b c).cd.empty then[⟨d,1⟩] else if(gz b c).cd.has num then[] else[⟨d,2⟩])
 else if g=4 then e++Gv (gz b c).gg d m
 else if g=5 then(if(gz b c).list=ad then e++[⟨d,1⟩] else kR b k (gz b c).elem (λf=>d++[47]++eH f) i 0 (e++vw (gz b c) d (Q i)++vp (gz b c) d (Q i)))
 else if(gz b c).iN=ad then e++[⟨d,1⟩]
 else kR b k (λf=>(lH (gz b c).a8 (gz b c).rest<|z j f []).shape) (λf=>d++ex (z j f [])) i 0 (e++m3 (gz b c) d j (gz b c).a8.length)
def kR(g:X il)(e:Y)(f:Z->J)(d:Z->X v):X aN->Z->X dL->X dL|[],_,b=>b|j::i,c,b=>if(e&&aL (0<Q b)) then b else kR g e f d i (c+1) (if f c=-1 then b++[⟨d c,6⟩] else jB g e (f c) (d c) j b)
end
def X2{b:J}(c:0<=b/\b<=3):nS BinOp.and aj b 2=0↔b<2:=by
 obtain rfl|rfl|rfl|rfl:b=0\/b=1\/b=2\/b=3:=o
 all_goals decide
def X1{b:J}(c:0<=b/\b<=3):nS BinOp.and aj b 1=0↔¬xw b 2=1:=by
 obtain rfl|rfl|rfl|rfl:b=0\/b=1\/b=2\/b=3:=o
 all_goals decide
def uo{f:J}{e:X il}{i:J}{g:Y}(b:X dL)(c:X v)(d:J)(bQ:Q b<=10000000):tF f e i g 99 [bV c,an aj d] b (b++[dL.mk c d]):=by refine dN func99 [] λl j k=>?_;refine er ?_;refine e7 (aa _<|b++[dL.mk c d]) ?_ (bQ:=a2);exact cE
def Zt{g:J}{e:X il}{f:J}{d:Y}(b:X dL):og b5 (jn g) 102 [c 6000] (Fi e f d b) (a6 (d&&aL (0<Q b))) (Fi e f d b):=by refine dN func102 [] λk i j=>?_;refine fk ?_;exact cE (q:=by rw[bg];show V.bool _=_;simp)
def arT{k:J}{j:X il}{m:J}{l:Y}(b:X dL){i:il}(x:sQ g i)(n:aN)(d:X v)(w:Q b<=9999999){c:X dL}(r:c=b++(if i.s.null then[] else[⟨d,1⟩])):tF k j m l 52 [fy 14 [sa i] 0 0,eV n,bV d] b c:=by
 refine dN func52 [] λy q t=>?_;apply e<;>intro u
 .refine bI pe ?_ (f:=uo b d 1 o);obtain rfl:c=b++[⟨d,1⟩]:=ap;exact cE
 obtain rfl:c=b:=ap;exact cE
def arU{k:J}{n:X il}{r:J}{q:Y}(b:X dL){j:il}(m:sQ g j)(i:aN)(c:X v)(l:kk i.num=0)(C:Q b<=9999999){d:X dL}(y:d=b++(if j.s.cd.empty then[⟨c,1⟩] else if j.s.cd.has i.num then[] else[⟨c,2⟩])):tF k n r q 54 [fy 14 [sa j] 0 0,eV i,bV c] b d:=by
 refine dN func54 [] λD t z=>?_;refine aS ?_ (f:=rB k<|Ny m.cd);apply e<;>intro B
 .refine bI pe ?_ (f:=uo b c 1 o);obtain rfl:d=b++[⟨c,1⟩]:=ap;exact cE
 refine eg ?_;refine cf ?_ (f:=rB k<|Uc _ i.num m.cd (FH l) (by obtain⟨_,u,w,x,_⟩:=IR l;exact⟨o,o,o⟩));apply e<;>intro A
 .refine bI pe ?_ (f:=uo b c 2 o);obtain rfl:d=b++[⟨c,2⟩]:=ap;exact cE
 obtain rfl:d=b:=ap;exact cE
def arL{u:J}{q:X il}{x:J}{w:Y}(b:X dL){m:il}(l:sQ g m)(n:aN)(d:X v)(B:Q b<=9999999){c:X dL}(j:c=b++(if zb m.s.eR n.bool then[] else[⟨d,1⟩])):tF u q x w 53 [fy 14 [sa m] 0 0,eV n,bV d] b c:=by
 refine dN func53 [] λC y A=>?_;apply e<;>intro k
 .apply e<;>intro i
  .refine bI pe ?_ (f:=uo b d 1 o);obtain rfl:c=b++[⟨d,1⟩]:=by rw[j,ab (by unfold zb;rw[ae k,ir];have:=(X2 l.eR).1 i;omega)]
   exact cE
  obtain rfl:c=b:=by rw[j,ae (by unfold zb;rw[ae k,ir];have z:¬m.s.eR<2:=λt=>i<|(X2 l.eR).2 t;omega),ff]
  exact cE
 apply e<;>intro i
 .refine bI pe ?_ (f:=uo b d 1 o);obtain rfl:c=b++[⟨d,1⟩]:=by rw[j,ab (by unfold zb;rw[ab k,ir];exact(X1 l.eR).1 i)]
  exact cE
 obtain rfl:c=b:=by rw[j,ae (by unfold zb;rw[ab k,ir];exact oP λr=>i<|(X1 l.eR).2 r),ff]
 exact cE
def ar2{l:J}{g:X il}{n:J}{m:Y}(b:X dL)(q:cG){j i:V}(e:aN)(u:Q e.text<=100000000)(c:X v)(t:Q b<=9999999)(d:X dL)(k:d=b++[⟨c,1⟩]):tF l g n m 55 [fy 14 [gX q .jD j i] 0 0,eV e,bV c] b d:=by refine dN func55 [] λw r s=>?_;refine aet ?_;refine ly.mk (λ_=>?_) nofun;refine bI pe ?_ (f:=uo b c 1 o);obtain rfl:=k;exact cE
def ar4{j:J}{l:X il}{t:J}{s:Y}(b:X dL)(u:cG){n m:V}(i:aN)(r:Q i.text<=100000000)(d:X v)(g:bF)(k:X v)(q:g.ok)(A:Q b<=9999999)(c:X dL)(x:c=b++(if g.has i.text then[] else[⟨d,3⟩])):tF j l t s 55 [fy 14 [gX u (hO (W (g,k))) n m] 0 0,eV i,bV d] b c:=by
 refine dN func55 [] λB w y=>?_;refine aet ?_;refine ly.mk nofun λ_=>?_;refine eg ?_;refine cf ?_ (f:=rB j<|asp g k q r);apply e<;>intro z
 .refine bI pe ?_ (f:=uo b d 3 o);obtain rfl:c=b++[⟨d,3⟩]:=ap;exact cE
 obtain rfl:c=b:=ap;exact cE
def ar3{r:J}{n:X il}{u:J}{t:Y}(c:X dL){b:il}(q:sQ g b)(d:aN)(f:X v)(m:Q d.text<=100000000)(l:Q c<=9999999){e:X dL}(i:e=c++Gv b.s.gg f d.text):tF r n u t 55 [fy 14 [sa b] 0 0,eV d,bV f] c e:=by unfold sa;cases k:b.s.gg with|none=>rw[k] at i;exact ar2 c b.s d m f l e i|some j=>rw[k] at i;exact ar4 c b.s d m f j.1 j.2 (q.gg j.1 j.2 k) l e i
def Fj(b:X il)(i:Y)(d:J)(e:X v)(c:aN)(f:X dL):jB b i d e c f=if c.bL=1 then f++(if(gz b d).null then[] else[⟨e,1⟩]) else if c.bL=2 then f++(if zb (gz b d).eR c.bool then[] else[⟨e,1⟩]) else if c.bL=3 then f++(if(gz b d).cd.empty then[⟨e,1⟩] else if(gz b d).cd.has c.num then[] else[⟨e,2⟩]) else if c.bL=4 then f++Gv (gz b d).gg e c.text else if c.bL=5 then(if(gz b d).list=ad then f++[⟨e,1⟩] else kR b i (gz b d).elem (λg=>e++[47]++eH g) c.list 0 (f++vw (gz b d) e (Q c.list)++vp (gz b d) e (Q c.list))) else if(gz b d).iN=ad then f++[⟨e,1⟩] else kR b i (λg=>(lH (gz b d).a8 (gz b d).rest<|z c.keys g []).shape) (λg=>e++ex (z c.keys g [])) c.list 0 (f++m3 (gz b d) e c.keys (gz b d).a8.length):=by cases c;rfl
def SU{f:X il}{one:Y}{hp:Z->J}{dC:Z->X v}:∀{d:X aN},(∀e∈d,∀k g b,Q (jB f one k g e b)<=Q b+40*e.ef)->∀c b,Q (kR f one hp dC d c b)<=Q b+40*aN.ef.hy d|[],_,c,b=>by simp[kR]|l::d,i,c,b=>by rw[kR,aN.ef.hy];split;omega;have m:=SU (hp:=hp) (dC:=dC) (λe j=>i e<|ku _ j) (c+1) (if hp c=-1 then b++[⟨dC c,6⟩] else jB f one (hp c) (dC c) l b);grind[jB,List.length_append,List.length_singleton,BG,List.mem_cons_self]
theorem adi(d:cG)(b:X v)(c:Z):Q (vw d b c)<=1:=by grind[vw]
theorem abv(d:cG)(b:X v)(c:Z):Q (vp d b c)<=1:=by grind[vp]
theorem Ng(e:cG)(c:X v)(d:X (X v)):∀b,Q (m3 e c d b)<=b|0=>bz _|b+1=>by rw[m3,cX];have:=Ng e c d b;grind
theorem aAh(c:da (bF×X v))(b d:X v):Q (Gv c b d)<=1:=by unfold Gv;grind
theorem avt{b:X il}(f:∀g∈b,sQ (Q b) g)(c:J):(gz b c).iN->(gz b c).a8.length<=30:=λd=>by unfold gz at d⊢;by_cases e:aB c<Q b;exact((f _<|cT e).ag1 d).2;simp_all
def SR{e:X il}(s:∀n∈e,sQ (Q e) n)(one:Y):∀(f:aN)(b:J)(c:X v)(d:X dL),Q (jB e one b c f d)<=Q d+40*f.ef:=aN.ind λf l b c d=>by
 rw[Fj];have r:=um f;have q:∀k:Y,Q (d++(if k then[] else[dL.mk c 1]))<=Q d+40*f.ef:=λk=>by grind
 split;grind;split;grind;split;grind;split;grind[aAh,gz];split;split;simp_all;have m:=SU (hp:=(gz e b).elem) (dC:=λg=>c++[47]++eH g) (λj i b c d=>l j i b c d) 0<|d++vw (gz e b) c (Q f.list)++vp (gz e b) c (Q f.list);grind[adi,gz,abv];split;simp_all;have m:=SU (one:=one) (hp:=λg=>(lH (gz e b).a8 (gz e b).rest<|z f.keys g []).shape) (dC:=λg=>c++ex (z f.keys g [])) (λj i b c d=>l j i b c d) 0<|d++m3 (gz e b) c f.keys (gz e b).a8.length;grind[Ng,gz,avt]
end
section
open Go.Lib
def KN(d:X il)(j:J)(g:Y)(b:aN):Prop:=b.G<=1048576->b.gB=0->∀(i c:J)(e:X v)(f:X dL),0<=c->c<Q d->Q e+5000000*b.G<=10000000000000000->Q f+40*b.ef<=9999000->tF i d j g 26 [an aj c,eV b,bV e] f (jB d g c e b f)
def Zs(c:aN):Q c.list<=aN.ef.hy c.list:=by
 have d:∀b:X aN,Q b<=aN.ef.hy b:=by
  intro b
  induction b with|nil=>exact dO _|cons e b f=>rw[aN.ef.hy,kN];have:=BG e;omega
 exact d _
def acb{n:J}{i:X il}{q:J}{k:Y}(d:aN)(x:KN i q k d)(u:d.G<=1048576)(w:d.gB=0)(g:J)(b:X v)(c:X dL)(z:-1<=g)(t:g<Q i)(r:Q b+5000000*d.G<=10000000000000000)(s:Q c+40*d.ef<=9999000)(j:X dL)(l:j=if g=-1 then c++[⟨b,6⟩] else jB i k g b d c):tF n i q k 103 [an aj g,eV d,bV b] c j:=by
 refine dN func103 [] λB y A=>?_;apply e<;>intro m
 .refine bI pe ?_ (f:=uo c b 6 o);obtain rfl:j=c++[⟨b,6⟩]:=by rw[l,ae m]
  exact cE
 refine bI pe ?_ (f:=x u w n g b c o t r s);obtain rfl:j=jB i k g b d c:=by rw[l,ab m]
 exact cE
def JY(b:cG)(e:V)(f:aN)(d:X v)(g:X (Z×V))(i:bU):aI:=⟨(0,c 6000)::(1,fy 14 [gX b (hO b.gg) (.a 1<|aa c7 b.dH) e] 0 0)::(3,bV d)::g,(6,ag 30<|eV f)::(6001,h8 sf 6)::i,[]⟩
def arN{A:J}{n:X il}{x:J}{m:Y}(l:cG)(F u:V)(ap:sQ (Q n) ⟨l,F,u⟩)(ar:∀M∈n,sQ (Q n) M)(b:aN)(aC:∀M∈b.list,KN n x m M)(aA:b.G<=1048576)(aB:b.gB=0)(g:X v)(r:X dL)(aI:Q g+5000000*b.G<=10000000000000000)(aK:Q r+40*b.ef<=9999000){z:X dL}(B:z=if l.list=ad then r++[⟨g,1⟩] else kR n m l.elem (λd=>g++[47]++eH d) b.list 0 (r++vw l g (Q b.list)++vp l g (Q b.list))):tF A n x m 56 [fy 14 [gX l (hO l.gg) F u] 0 0,eV b,bV g] r z:=by
 have aw:=aN.pp aA;have ax:=(aN.pp<|bz b.G).2.2.2.2.1;obtain⟨aM,az⟩:=zf aB;have aP:=um b;have aO:=Zs b;refine dN func56 [25,43,56,2011] λaY aD R=>?_;have P:=R.uf;have am:=R.a7;apply e<;>intro S
 .refine bI pe ?_ (f:=uo r g 1 o);obtain rfl:z=r++[⟨g,1⟩]:=by rw[B,ae (by simpa using S)]
  exact cE
 have L:l.list:=by simpa using S
 rw[ab (by rw[L];simp)] at B;obtain rfl:F=.a 1 (aa c7 l.dH):=ap.aq4 L;have al:=ap.el L;refine gf (X dL) (λi=>JY l u b g [(6,c 6)] [(5001,.h 2 107<|aa fH i),(6000,ag 83<|wx n x m<|Q<|aa fH i)]) (λi=>i=r++vw l g (Q b.list)) ?_ λi N=>?_
 .refine eg ?_;apply e<;>intro T
  .refine bI pe ?_ (f:=uo r g 4 o);exact cA (r++[dL.mk g 4]) (by rw[vw,ae (by simpa using T)])
  exact cA r (by rw[vw,ab (by simpa using T),ff])
 have aE:Q i<=Q r+1:=by have:=adi l g<|Q b.list;rw[N,cX];omega
 refine gf (X dL) (λw=>JY l u b g [(6,c 6)] [(5001,.h 2 107<|aa fH w),(6000,ag 83<|wx n x m<|Q<|aa fH w)]) (λw=>w=i++vp l g (Q b.list)) ?_ λw O=>?_
 .refine eg ?_;refine fk ?_;apply e<;>intro U
  .refine bI pe ?_ (f:=uo i g 5 o);exact cA (i++[dL.mk g 5]) (by rw[vp,ae (by simpa using U)])
  exact cA i (by rw[vp,ab (by simpa using U),ff])
 have aF:Q w<=Q r+2:=by have:=abv l g<|Q b.list;rw[O,cX];omega
 rw[<-N,<-O] at B;refine dv (Z×X dL) (λs=>JY l u b g [(48,.a 8<|aa s3 b.list),(49,k<|Q<|aa s3 b.list),(50,k s.1)] [(5001,.h 2 107<|aa fH s.2),(6000,ag 83<|wx n x m<|Q<|aa fH s.2)]) (λs=>s.1<=Q b.list/\kR n m l.elem (λd=>g++[47]++eH d) (aU s.1 b.list) s.1 s.2=z/\Q s.2+40*aN.ef.hy (aU s.1 b.list)<=9998970) (λs=>Q b.list-s.1) (0,w) (λ⟨d,i⟩ aH=>?_) ⟨dO _,bG B,by rw[sG];dsimp only;omega⟩;apply e<;>intro aJ
 .obtain⟨K,t,C⟩:=aH;dsimp only at K t C;have D:d<Q b.list:=o;have E:=fK D;have aV:=aw.2.2.2.2.1 _ E;have aW:=ax _ E;rw[pt D,kR] at t;rw[pt D,aN.ef.hy] at C;have aQ:=Rs (bn:=d) o;have ao:¬(m&&aL (0<Q i))->kR n m l.elem (λd=>g++[47]++eH d) (aU (d+1) b.list) (d+1) (if l.elem d=-1 then i++[⟨g++[47]++eH d,6⟩] else jB n m (l.elem d) (g++[47]++eH d) b.list[d] i)=z:=λq=>by rw[ab q] at t;exact t
  have aS:=BG b.list[d];have aR:Q (g++[47]++eH d:X v)=Q g+1+Q (eH d):=by rw[cX,cX];rfl
  obtain⟨y,I⟩:∃y,y=(if l.elem d=-1 then i++[dL.mk (g++[47]++eH d) 6] else jB n m (l.elem d) (g++[47]++eH d) b.list[d] i):=⟨_,p⟩;have aG:Q y<=Q i+40*b.list[d].ef:=by rw[I];split;rw[cX,p_];omega;exact SR ar m b.list[d] _ _ _
  have ay:Q y+40*aN.ef.hy (aU (d+1) b.list)<=9998970:=o;rw[<-I] at ao;refine bi d (eV b.list[d]) ?_ (j:=wH D);refine aZ.cut (cb:=kc) (λ_u=>JY l u b g [(8,k d),(9,c 9),(48,.a 8<|aa s3 b.list),(49,k<|Q<|aa s3 b.list),(50,k d)] [(5001,.h 2 107<|aa fH i),(6000,ag 83<|wx n x m<|Q<|aa fH i),(9,ag 30<|eV b.list[d])]) (λ_=>¬(m&&aL (0<Q i))) (HP e1 bq P (Fc A) am (dQ:=[25,43,56,2011]) ?_) λ_u au=>?_
  .refine bI pe ?_ (f:=Zt i);apply e<;>intro ak
   .obtain rfl:i=z:=by rw[ae (by simpa using ak)] at t;exact t
    exact cE
   exact cA (iI:=λ_u=>JY l u b g [(8,k d),(9,c 9),(48,.a 8<|aa s3 b.list),(49,k<|Q<|aa s3 b.list),(50,k d)] [(5001,.h 2 107<|aa fH i),(6000,ag 83<|wx n x m<|Q<|aa fH i),(9,ag 30<|eV b.list[d])]) (H:=λ_=>¬(m&&aL (0<Q i))) () λq=>ak (by simpa using q)
  refine aZ.A4 [10] e1 bq P (Fc A) am p (by decide+kernel) ?_;refine br (λ_=>cf p (f:=rB A<|ZV l u d)) ?_;refine br (λ_=>vz p (q:=by show Q g+1<=_;omega)) ?_;refine br (λ_=>cf p (f:=rB A<|ab0 d o)) ?_;refine br (λ_=>vz p (q:=by rw[cX];show Q g+1+_<=_;omega)) ?_;refine Ah pe [] ?_ (f:=acb b.list[d] (aC _ E) o (az _ E) (l.elem d) (g++[47]++eH d) i (al d).1 (al d).2 o o y I);refine fZ ?_;refine bc ?_;exact a0 (d+1,y) ⟨tx,ao au,ay⟩ tx
 obtain⟨K,t,C⟩:=aH;dsimp only at K t C;obtain rfl:d=Q b.list:=o;rw[GJ,kR] at t;subst t;exact cE
end
section
open Go.Lib
def QP:∀{d e:X v},gR d e=ad->¬d=e->gR e d|[],[],_,b=>b9 p b|[],_::_,b,_=>by simp[gR] at b|_::_,[],_,_=>p|g::d,i::e,b,m=>by simp only[gR,Ps,sK,J6,beq_eq_false_iff_ne,p9,j_,yS,PY] at b⊢;obtain⟨k,c⟩:=b;have l:i<=g:=UInt8.not_lt.1 k;rcases UInt8.lt_or_eq_of_le l with f|f;exact bl f;subst f;refine bp ⟨p,?_⟩;rcases c with c|c;exact b9 p c;exact QP c λj=>m (by rw[j])
def Tc:∀{l:X (X v)}{H:da (X v)},rl H l=0->(∀b∈l,kJ b=0/\∀c,H=W c->gR c b)/\sS id l
|[],_,_=>⟨λb z=>(by cases z),λe f j=>b9 j<|vY e⟩|b::l,H,d=>by
 simp only[rl] at d;have t:kJ b=0:=oP λi=>by rw[ae i] at d;exact i d
 rw[ab λi=>i t] at d;have A:∀(g:Y)(m:J),(if g then 10 else m)=0->g=ad/\m=0:=λg m s=>by cases g;exact⟨p,s⟩;cases s
 obtain⟨y,d⟩:=A _ _ d;obtain⟨r,qv⟩:=Tc (H:=W b) d;have w:∀c,H=W c->gR c b:=λc q=>by subst q;have n:(gR b c||aL (b=c))=ad:=y;rw[Ps,sK] at n;exact QP n.1 n.2
 refine⟨λx k=>?_,λe f j u B=>?_⟩;rcases fR.1 k with rfl|k;exact⟨t,w⟩;exact⟨(r x k).1,λc q=>AT (w c q)<|(r x k).2 b p⟩;obtain⟨f,rfl⟩:∃b,f=b+1:=⟨f-1,o⟩;cases e with|zero=>exact(r _<|fK (by simpa using u)).2 b p|succ e=>exact qv e f (by simpa using j) (by simpa using u) o
def ae5{c:aN}(b:kj c=0)(d:c.bL=6):rl ah c.keys=0:=by unfold kj at b;rw[ab o] at b;split at b;cases b;rw[ab o,ab o] at b;exact b
def ad_{b:Y}{c:X (X v)}{e:X v}:b/\¬(c.any λf=>aL<|id f=e)↔b/\(c.any λd=>aL<|d=e)=ad:=by show b/\¬(c.any λd=>aL<|d=e)↔_;rw[Bool.not_eq_true]
def R8{b:X dq}{rest:J}{U:X v}(c:sS dq.name b):(lH b rest U).shape=rest\/lH b rest U∈b:=by unfold lH;split;rename_i d;exact bp<|cT<|adt c d;exact bl p
def JZ(b:cG)(e:V)(f:aN)(d:X v)(g:X (Z×V))(i:bU):aI:=⟨(0,c 6000)::(1,fy 14 [gX b (hO b.gg) e (.a 3<|aa dj b.a8)] 0 0)::(3,bV d)::(6,c 6)::g,(6,ag 30<|eV f)::(6001,h8 sf 6)::i,[]⟩
def arV{x:J}{l:X il}{y:J}{n:Y}(b:cG)(u N:V)(L:sQ (Q l) ⟨b,u,N⟩)(aJ:∀ao∈l,sQ (Q l) ao)(c:aN)(a4:∀ao∈c.list,KN l y n ao)(a2:c.G<=1048576)(a3:c.gB=0)(az:c.bL=6)(g:X v)(m:X dL)(bb:Q g+5000000*c.G<=10000000000000000)(bh:Q m+40*c.ef<=9999000){B:X dL}(E:B=if b.iN=ad then m++[⟨g,1⟩] else kR l n (λd=>(lH b.a8 b.rest<|z c.keys d []).shape) (λd=>g++ex (z c.keys d [])) c.list 0 (m++m3 b g c.keys (Q b.a8))):tF x l y n 57 [fy 14 [gX b (hO b.gg) u N] 0 0,eV c,bV g] m B:=by
 have aM:=aN.pp a2;have aO:=(aN.pp<|bz c.G).2.2.2.2.1;obtain⟨aE,aY⟩:=zf a3;obtain⟨aV,aR⟩:=Tc<|ae5 aE az;obtain⟨_,_,_,aB⟩:=Dw aE;have aB:=aB az;have bk:=um c;have bj:=Zs c;refine dN func57 [1001,61] λbw a5 au=>?_;have ap:=au.uf;have aD:=au.a7;apply e<;>intro ar
 .refine bI pe ?_ (f:=uo m g 1 o);obtain rfl:B=m++[⟨g,1⟩]:=by rw[E,ae (by simpa using ar)]
  exact cE
 have C:b.iN:=by simpa using ar
 rw[ab (by rw[C];simp)] at E;obtain rfl:N=.a 3 (aa dj b.a8):=L.aq3 C;obtain⟨ak,aP⟩:=L.ag1 C;have S:=L.fd C;have aF:=L.rest C;change sS dq.name b.a8 at ak;change Q b.a8<=30 at aP;change∀O∈b.a8,kJ O.name=0/\-1<=O.shape/\O.shape<Q l at S;change-1<=b.rest/\b.rest<Q l at aF;rw[show m=m++m3 b g c.keys 0 by rw[m3,ff]];refine eC (Q b.a8) (λd=>JZ b u c g [(25,.a 3<|aa dj b.a8),(26,k<|Q<|aa dj b.a8),(27,k d)] [(5001,.h 2 107<|aa fH<|m++m3 b g c.keys d),(6000,ag 83<|wx l y n<|Q<|aa fH<|m++m3 b g c.keys d)]) λd j=>?_;apply e<;>intro bd
 .have w:d<Q b.a8:=o;have bm:=Ng b g c.keys d;have bn:Q (m++m3 b g c.keys d)=Q m+Q (m3 b g c.keys d):=cX;have aC:=S _<|cT (I:=(ai:dq)) w;have bv:(z b.a8 d ai).name.length<=10000:=by have:=aC.1;unfold kJ at this;split at this;cases this;omega
  refine gf (X dL) (λs=>JZ b u c g [(25,.a 3<|aa dj b.a8),(26,k<|Q<|aa dj b.a8),(27,k d)] [(5001,.h 2 107<|aa fH s),(6000,ag 83<|wx l y n<|Q<|aa fH s)]) (λs=>s=m++m3 b g c.keys (d+1)) ?_ λs D=>?_
  .refine bi d (dj<|z b.a8 d ai) ?_ (j:=gD w);refine aS ?_ (f:=rB x<|amo c.keys (z b.a8 d ai).name aR o);refine fk ?_;apply e<;>intro aw
   .refine aS ?_ (f:=ai2 x g (z b.a8 d ai).name aC.1 o o);refine bI pe ?_ (f:=uo (m++m3 b g c.keys d) (g++ex (z b.a8 d ai).name) 7 o);exact cA (m++m3 b g c.keys d++[dL.mk (g++ex (z b.a8 d ai).name) 7]) (by rw[m3,ae<|ad_.1 aw,fJ])
   exact cA (m++m3 b g c.keys d) (by rw[m3,ab λaI=>aw<|ad_.2 aI,ff])
  subst D;refine bc ?_;exact a0<|d+1
 obtain rfl:d=Q b.a8:=o;obtain⟨s,D⟩:∃s,s=m++m3 b g c.keys (Q b.a8):=⟨_,p⟩;have a9:Q s<=Q m+30:=by have:=Ng b g c.keys<|Q b.a8;rw[D,cX];omega
 rw[<-D] at E⊢;refine dv (Z×X dL) (λr=>JZ b u c g [(53,.a 1<|aa V.str c.keys),(54,k<|Q<|aa V.str c.keys),(55,k r.1)] [(5001,.h 2 107<|aa fH r.2),(6000,ag 83<|wx l y n<|Q<|aa fH r.2)]) (λr=>r.1<=Q c.list/\kR l n (λd=>(lH b.a8 b.rest<|z c.keys d []).shape) (λd=>g++ex (z c.keys d [])) (aU r.1 c.list) r.1 r.2=B/\Q r.2+40*aN.ef.hy (aU r.1 c.list)<=9998995) (λr=>Q c.list-r.1) (0,s) (λ⟨d,q⟩ aH=>?_) ⟨dO _,bG E,by rw[sG];dsimp only;omega⟩;apply e<;>intro be
 .obtain⟨T,t,F⟩:=aH;dsimp only at T t F;have ay:d<Q c.keys:=o;have w:d<Q c.list:=o;have K:=fK w;have bt:=aM.2.2.2.2.1 _ K;have bu:=aO _ K;rw[pt w,kR] at t;rw[pt w,aN.ef.hy] at F;obtain⟨i,R⟩:∃i,i=z c.keys d []:=⟨_,p⟩;have aQ:i∈c.keys:=by rw[R];exact cT ay
  have aA:=(aV _ aQ).1;have bg:Q i<=10000:=by have:=aA;unfold kJ at this;split at this;cases this;omega
  have bf:=Aa i;have al:¬(n&&aL (0<Q q))->kR l n (λd=>(lH b.a8 b.rest<|z c.keys d []).shape) (λd=>g++ex (z c.keys d [])) (aU (d+1) c.list) (d+1) (if(lH b.a8 b.rest<|z c.keys d []).shape=-1 then q++[dL.mk (g++ex (z c.keys d [])) 6] else jB l n (lH b.a8 b.rest<|z c.keys d []).shape (g++ex (z c.keys d [])) c.list[d] q)=B:=λam=>by rw[ab am] at t;exact t
  rw[<-R] at al;have bs:=BG c.list[d];have bo:Q (g++ex i)=Q g+Q (ex i):=cX;obtain⟨A,P⟩:∃A,A=(if(lH b.a8 b.rest i).shape=-1 then q++[dL.mk (g++ex i) 6] else jB l n (lH b.a8 b.rest i).shape (g++ex i) c.list[d] q):=⟨_,p⟩;have a_:Q A<=Q q+40*c.list[d].ef:=by rw[P];split;rw[cX,p_];omega;exact SR aJ n c.list[d] _ _ _
  have aW:Q A+40*aN.ef.hy (aU (d+1) c.list)<=9998995:=o;rw[<-P] at al;have aG:-1<=(lH b.a8 b.rest i).shape/\(lH b.a8 b.rest i).shape<Q l:=by rcases R8 (rest:=b.rest) (U:=i) ak with M|M;rw[M];exact aF;exact(S _ M).2
  refine bi d (bV i) ?_ (j:=by rw[R];exact gD ay);refine aZ.cut (cb:=kc) (λ_u=>JZ b u c g [(12,k d),(13,bV i),(53,.a 1<|aa V.str c.keys),(54,k<|Q<|aa V.str c.keys),(55,k d)] [(5001,.h 2 107<|aa fH q),(6000,ag 83<|wx l y n<|Q<|aa fH q)]) (λ_=>¬(n&&aL (0<Q q))) (HP e1 bq ap (Fc x) aD (dQ:=[1001,61]) ?_) λ_u aK=>?_
  .refine bI pe ?_ (f:=Zt q);apply e<;>intro ax
   .obtain rfl:q=B:=by rw[ae (by simpa using ax)] at t;exact t
    exact cE
   exact cA (iI:=λ_u=>JZ b u c g [(12,k d),(13,bV i),(53,.a 1<|aa V.str c.keys),(54,k<|Q<|aa V.str c.keys),(55,k d)] [(5001,.h 2 107<|aa fH q),(6000,ag 83<|wx l y n<|Q<|aa fH q)]) (H:=λ_=>¬(n&&aL (0<Q q))) () λam=>ax (by simpa using am)
  refine aZ.A4 [13] e1 bq ap (Fc x) aD p (by decide+kernel) ?_;refine br (λ_=>cf p (f:=rB x<|alI b u i ak o)) ?_;refine br (λ_=>gx d (eV c.list[d]) p (j:=wH w)) ?_;refine br (λ_=>cf p (f:=ai2 x g i aA o o)) ?_;refine Ah pe [] ?_ (f:=acb c.list[d] (a4 _ K) o (aY _ K) (lH b.a8 b.rest i).shape (g++ex i) q aG.1 aG.2 o o A P);refine fZ ?_;refine bc ?_;exact a0 (d+1,A) ⟨tx,al aK,aW⟩ tx
 obtain⟨T,t,F⟩:=aH;dsimp only at T t F;obtain rfl:d=Q c.list:=o;rw[GJ,kR] at t;subst t;exact cE
end
section
open Go.Lib
def ab4{b:TypeDesc}(d:∀e:Z,(k e).isKey b):n1 b sf:=λf c=>by simp only[sf,fR,ka,or_false] at c;rcases c with rfl|rfl|rfl|rfl|rfl|rfl<;>exact d _
def Fk{l:J}{b:X il}{n:J}{m:Y}{d:aN}{A:Z}(x:A<6)(t:d.bL=A+1)(u:g<Q b){e:X v}{k q:X dL}(s:tF l b n m (52+A) [fy 14 [sa (z b g ai)] 0 0,eV d,bV e] k q):tF l b n m 26 [an aj g,eV d,bV e] k q:=by refine dN func26 [2000] λy w i=>?_;have r:A=0\/A=1\/A=2\/A=3\/A=4\/A=5:=o;refine aZ.cut (cb:=kc) (λ_=>⟨[(0,c 6000),(1,an aj g),(3,bV e),(6,c 6)],(6,ag 30<|eV d)::Fi b n m k,[]⟩) (λ_=>dW) (HP e1 bq i.uf (Fc l) i.a7 (dQ:=[2000]) ?_) λ_ _=>?_;exact cA (iI:=λ_=>⟨[(0,c 6000),(1,an aj g),(3,bV e),(6,c 6)],(6,ag 30<|eV d)::Fi b n m k,[]⟩) (H:=λ_=>dW) ();refine aZ.A4 [19] e1 bq i.uf (Fc l) i.a7 p (by decide+kernel) ?_;refine br (λ_=>ul (e4 (dp<|52+A) [] []) p (ab4 λ_=>p) (eM:=by rw[t];rcases r with rfl|rfl|rfl|rfl|rfl|rfl<;>rfl)) ?_;refine br (λ_=>bi g (sa<|z b g ai) p (j:=gD u)) ?_;refine Ah pe [] ?_ (f:=s) (bS:=by rcases r with rfl|rfl|rfl|rfl|rfl|rfl<;>exact⟨cR⟩);refine fZ ?_;exact cE
def ab3{e:X il}{y:J}{u:Y}(l:∀C∈e,sQ (Q e) C):∀c:aN,KN e y u c:=aN.ind λc t=>by
 intro m n M d g j D f q r;obtain⟨d,rfl⟩:∃A:Z,d=(A:J):=⟨aB d,o⟩;have f:d<Q e:=o;have w:gz e d=(z e d ai).s:=by unfold gz;rw[show aB ((d:Z):J)=d from p]
 have k:=l _<|cT (I:=(ai:il)) f;obtain⟨v,G⟩:=zf n;obtain⟨H,K,x,L⟩:=Dw v;have E:=aN.pp m;have F:=BG c;have i:=Fj e u d g c j;rw[w] at i;rcases(by omega:c.bL=1\/c.bL=2\/c.bL=3\/c.bL=4\/c.bL=5\/c.bL=6) with b|b|b|b|b|b;refine Fk (A:=0) o b f<|arT j k c g o ?_;rw[i,ae b];refine Fk (A:=1) o b f<|arL j k c g o ?_;rw[i,ab o,ae b];refine Fk (A:=2) o b f<|arU j k c g (x b) o ?_;rw[i,ab o,ab o,ae b];refine Fk (A:=3) o b f<|ar3 j k c g o o ?_;rw[i,ab o,ab o,ab o,ae b];refine Fk (A:=4) o b f<|arN (z e d ai).s (z e d ai).B (z e d ai).eh k l c t m n g j q r ?_;rw[i,ab o,ab o,ab o,ab o,ae b];refine Fk (A:=5) o b f<|arV (z e d ai).s (z e d ai).B (z e d ai).eh k l c t m n b g j q r ?_;rw[i,ab o,ab o,ab o,ab o,ab o]
end
section
open Go.Lib
def Fl{b:TypeDesc}(f:Z)(c:∀e:Z,(k e).isKey b):n1 b (ak f sf):=λg d=>ab4 c g<|tu d
def acd(b:J):og b5 (jn b) 25 [] [] (.eW 1) [(1,h8 sf 6)]:=by refine dN func25 [] λe c d=>?_;refine BB (ak 1 sf) 1 ?_<|Fl 0 λ_=>p;refine BB (ak 2 sf) 2 ?_<|Fl 1 λ_=>p;refine BB (ak 3 sf) 3 ?_<|Fl 2 λ_=>p;refine BB (ak 4 sf) 4 ?_<|Fl 3 λ_=>p;refine BB (ak 5 sf) 5 ?_<|Fl 4 λ_=>p;refine BB (ak 6 sf) 6 ?_<|Fl 5 λ_=>p;exact cE
def anI(c:J)(b:X dL)(f:Q b<=10000000):fA b5 (jn c) 37 [.a 2 (aa fH b)] (.a 2 (aa fH b)):=by refine bx func37 [] λd e=>?_;refine T_ 0 (Q<|aa fH b) (Q<|aa fH b) ?_;exact aA (q:=by show V.a 2 _=_;rw[sG,PV,g5])
def aqo(g:J)(d:X il)(i:J)(k:∀r∈d,sQ (Q d) r)(b:aN)(m:b.G<=1048576)(n:b.gB=0)(u:b.ef<=20000)(e:J)(j:0<=e)(l:e<Q d):fA b5 (jn g) 12 [fy 2 [bH [.a 14 (aa sa d),an aj i]] 0 0,an aj e,eV b] (a6 (aL (Q (jB d af e [] b [])=0))):=by refine bx func12 [2002] λs t=>?_;refine bI [(1,9)] ?_ (f:=acd g);refine n7 ⟨[(1,an aj e),(5,c 5),(6,a6 ad),(7,c 11)],[(5,ag 30<|eV b),(11,ag 83<|bH [fy 2 [bH [.a 14 (aa sa d),an aj i]] 0 0,.eW 9,.ba,a6 af]),(9,h8 sf 6)],[]⟩ ?_;refine aZ.eQ 1101 2 107 [] (W (11,2)) ?_;refine dM ?_;refine bI [(6000,11),(6001,9),(5001,1101)] ?_ (f:=ab3 k b m n g e [] [] j l P0 P0);exact aA (q:=by rw[bg];show V.bool (aL ((Q (jB d af e [] b []):J)=0))=_;congr 1;exact qW.2 o)
def aqz(g:J)(e:X il)(j:J)(i:∀r∈e,sQ (Q e) r)(b:aN)(n:b.G<=1048576)(q:b.gB=0)(u:b.ef<=20000)(d:J)(k:0<=d)(m:d<Q e):fA b5 (jn g) 16 [fy 2 [bH [.a 14 (aa sa e),an aj j]] 0 0,an aj d,eV b,bV []] (.a 2 (aa fH (jB e ad d [] b []))):=by refine bx func16 [2002,2003] λs t=>?_;have l:=SR i ad b d [] [];change _<=0+_ at l;refine bI [(1,11)] ?_ (f:=acd g);refine n7 ⟨[(1,an aj d),(3,bV []),(6,c 6),(8,.ba),(9,c 13)],[(6,ag 30<|eV b),(13,ag 83<|bH [fy 2 [bH [.a 14 (aa sa e),an aj j]] 0 0,.eW 11,.ba,a6 ad]),(11,h8 sf 6)],[]⟩ ?_;refine aZ.eQ 1101 2 107 [] (W (13,2)) ?_;refine dM ?_;refine bI [(6000,13),(6001,11),(5001,1101)] ?_ (f:=ab3 i b n q g d [] [] k m P0 P0);refine aZ.x3 1101 (Q<|aa fH<|jB e ad d [] b []) p ?_;refine dM ?_;refine aS ?_ (f:=anI g (jB e ad d [] b []) o);exact aA
end
section
open Go.Lib
def U_{k:Type}{e:k->X v}{d:X k}(i:∀b(j:b+1<Q d),gR (e (d[b]'o)) (e d[b+1])):sS e d:=λb c j g m=>by induction c with|zero=>omega|succ c l=>rcases fF b c with f|f;exact AT (l o f)<|i c g;obtain rfl:b=c:=o;exact i b g
def R9{b:X dq}{k:J}(j:g+1<Q b)(c:l7 b k (-1) (g+1)=0):gR (b[g]'o).name b[g+1].name:=by
 have i:z b (g+1) ai=b[g+1]:=by rw[dm,cm j];rfl
 have f:z b g ai=b[g]'o:=by rw[dm,cm o];rfl
 unfold l7 at c;rw[i,PL,f] at c;split at c;rename_i d;exact b9 c d;split at c;cases c;rename_i d;have d:¬(gR b[g+1].name (b[g]'o).name=af\/b[g+1].name=(b[g]'o).name):=λe=>d ⟨o,e⟩;exact QP (by cases c:gR b[g+1].name (b[g]'o).name;rfl;exact b9 (bl c) d) λe=>d<|bp e
def UP(c:X Y)(b:cG):(gp c b).null=b.null/\(gp c b).eR=b.eR/\(gp c b).cd=b.cd/\(gp c b).gg=b.gg:=by
 have d:(kI c b).null=b.null/\(kI c b).eR=b.eR/\(kI c b).cd=b.cd/\(kI c b).gg=b.gg:=by unfold kI;split<;>exact⟨p,p,p,p⟩
 unfold gp st;split<;>exact d
def UQ{c:X Y}{b:cG}(e:(gp c b).list):b.list/\¬(b.list=af/\b.cJ c=ad)/\(gp c b).dH=b.dH/\(gp c b).item=b.item/\(gp c b).min=b.min/\(gp c b).max=b.max:=by
 have l:∀d:cG,(st c d).list=d.list/\(st c d).dH=d.dH/\(st c d).item=d.item/\(st c d).min=d.min/\(st c d).max=d.max:=λd=>by unfold st;split<;>exact⟨p,p,p,p,p⟩
 obtain⟨m,g,i,j,k⟩:=l<|kI c b;have e:(st c (kI c b)).list:=e;rw[m] at e;by_cases f:b.list/\b.cJ c=ad;rw[Oa f] at e;cases e;rw[N_ f] at e g i j k;unfold gp;rw[N_ f];exact⟨e,f,g,i,j,k⟩
def I4{c:X Y}{b:cG}(d:(gp c b).iN):b.iN/\¬((kI c b).iN=af/\(kI c b).du c=ad)/\(gp c b).a8=b.a8/\(gp c b).rest=b.rest:=by
 have f:(kI c b).iN=b.iN/\(kI c b).a8=b.a8/\(kI c b).rest=b.rest:=by unfold kI;split<;>exact⟨p,p,p⟩
 obtain⟨g,i,j⟩:=f;by_cases e:(kI c b).iN/\(kI c b).du c=ad;unfold gp at d;rw[Ob e] at d;cases d;unfold gp at d⊢;rw[UO e] at d⊢;exact⟨g▸d,e,i,j⟩
def ar1(b:X Y)(c:cG):il:=⟨gp b c,zt b c,E4 b c⟩
noncomputable def oZ(b:dX):X il:=aa (ar1<|gK<|kp b)<|kp b
def arO(c:dX):aa sa (oZ c)=aa (wy (gK (kp c))) (kp c):=by unfold oZ;rw[gh];refine iF λb _=>?_;show gX (gp _ b) (hO (gp _ b).gg) (zt _ b) (E4 _ b)=wy _ b;rw[(UP _ b).2.2.2];rfl
def SY(b:dX):Q (oZ b)=Q b.b_:=by unfold oZ kp;rw[bg,bg]
def ab5{l:dX}(r:mQ l):∀A∈oZ l,sQ (Q (oZ l)) A:=λA J=>by
 rw[SY];obtain⟨c,x,rfl⟩:=cV.1 J;obtain⟨d,y,i⟩:=cV.1 x;obtain⟨X,Y,Z,ak,N⟩:=r.len;have t:=ahM r.gB r.G _ x;rw[show Q (kp l)=Q l.b_ from bg ..] at t;have u:=N d y;have n:=BT o u;have F:=(Jt (r.G.1 d y) o u).1;obtain⟨B,R,S⟩:=zR (z9 u).1;obtain⟨U,K,L,M⟩:=UP (gK<|kp l) c;refine⟨?_,?_,λw z b=>?_,λb=>?_,λb=>?_,λb m=>?_,λb=>?_,λb D q=>?_,λb=>?_⟩;show(gp _ c).cd.ok;rw[L];exact t.cd;show 0<=(gp _ c).eR/\(gp _ c).eR<=3;rw[K,<-i];exact B;have b:(gp _ c).gg=W (w,z):=b;rw[M,<-i] at b;have b:(if d.eP then oB d.fq else ah)=W (w,z):=b;split at b;rename_i I;have H:(i6 (h5 d.fq).1).1.ok:=Tl F I;unfold oB at b;split at b;cases b;split at b;cases b;injection b with b;injection b with E T;rw[<-E];exact H
 cases b;obtain⟨e,k,f,_⟩:=UQ b;show zt _ c=.a 1 ((gp _ c).dH.map c7);rw[f];unfold zt;rw[ab k];obtain⟨e,k,f,_⟩:=I4 b;show E4 _ c=.a 3 ((gp _ c).a8.map dj);rw[f];unfold E4;rw[ab k];obtain⟨e,k,f,s,_⟩:=UQ b;have C:(gp (gK (kp l)) c).elem m=c.elem m:=by unfold cG.elem;rw[f,s]
 show-1<=(gp _ c).elem m/\(gp _ c).elem m<_;rw[C];exact(t.TC e).2 m;obtain⟨e,k,f,_⟩:=I4 b;show sS dq.name (gp _ c).a8/\(gp _ c).a8.length<=30;have g:d.du:=by rw[<-i] at e;exact e
 rw[f,<-i,show(hi d).a8=d.a8 from ae g];exact⟨U_ λv j=>R9 j<|(n.xZ g).2 (v+1) j,(n.xZ g).1⟩;obtain⟨e,k,f,_⟩:=I4 b;have g:d.du:=by rw[<-i] at e;exact e
 have q:D∈(gp _ c).a8:=q;rw[f,<-i,show(hi d).a8=d.a8 from ae g] at q;obtain⟨v,j,rfl⟩:=lU.1 q;obtain⟨O,P,_⟩:=E7 j<|(n.xZ g).2 v j;exact⟨O,P⟩;obtain⟨e,k,f,s⟩:=I4 b;have g:d.du:=by rw[<-i] at e;exact e
 show-1<=(gp _ c).rest/\(gp _ c).rest<_;rw[s,<-i,show(hi d).rest=d.rest from ae g];exact n.rest g
noncomputable def Cz(b:dX)(c:aN):Y:=aL<|Q (jB (oZ b) af b.root [] c [])=0
noncomputable def Sa(b:dX)(c:aN):X dL:=jB (oZ b) ad b.root [] c []
def aoe{b:dX}(d:b.ks)(c:hK dl b≠0):bb 10 [kB b] (cs [.jD,an aj (hK dl b)]):=by have:=YZ b d;unfold tT at this;rwa [ae c] at this
def aof{b:dX}(d:b.ks)(c:hK dl b=0):bb 10 [kB b] (cs [fy 2 [bH [.a 14 (aa sa (oZ b)),an aj b.root]] 0 0,an aj 0]):=by have:=YZ b d;unfold tT Sj at this;rw[ab (by rw[c];simp)] at this;rwa [arO]
def Y0{b:dX}(d:b.ks):hK dl b≠0/\bb 10 [kB b] (cs [.jD,an aj (hK dl b)])\/hK dl b=0/\bb 10 [kB b] (cs [fy 2 [bH [.a 14 (aa sa (oZ b)),an aj b.root]] 0 0,an aj 0]):=by by_cases c:hK dl b=0;exact bp ⟨c,aof d c⟩;exact bl ⟨c,aoe d c⟩
attribute [local irreducible] oZ hK jB mH
def Vm(d:J){M:dX}(m:M.ks){ax:aN}(l:ax.G<=1048576):fA b5 (jn d) 4 [kB M,eV ax] (V.tuple [a6 (if jz M ax≠0 then ad else Cz M ax),an aj (jz M ax)]):=by
 refine bx func4 [] λu v=>?_;have n:=Y0 m;rcases n with⟨b,f⟩|⟨b,f⟩
 .have c:jz M ax=hK dl M:=by unfold jz;rw[ae b]
  refine aS ?_ (f:=rB d f);apply e<;>intro g
  .rw[c,ae b];exact aA
  exfalso;exact g (by simpa using b)
 have c:jz M ax=mH ax:=by unfold jz;rw[ab (by rw[b];simp)]
 refine aS ?_ (f:=rB d f);apply e<;>intro g
 .exfalso;simp at g
 refine aS ?_ (f:=rB d<|ai7 ax l);apply e<;>intro j
 .rw[c,ae (by simpa using j)];exact aA
 have i:mH ax=0:=by simpa using j
 obtain⟨k,r⟩:=HD (M:=M) (ax:=ax) m (by rw[c,i];simp);obtain⟨w,x,s,t,y⟩:=k.len;have q:=LI i;rw[c,i,ab av];refine eg ?_;refine cf ?_ (f:=aqo d (oZ M) M.root (ab5 k) ax l r q M.root s (by rw[SY];exact t));exact aA
def ayn(d:J)(M:dX)(l:M.ks)(ax:aN)(k:ax.G<=1048576):fA b5 (jn d) 6 [kB M,eV ax] (V.tuple [.a 2 (if jz M ax≠0 then[] else aa fH (Sa M ax)),an aj (jz M ax)]):=by
 refine bx func6 [] λu v=>?_;have m:=Y0 l;rcases m with⟨b,f⟩|⟨b,f⟩
 .have c:jz M ax=hK dl M:=by unfold jz;rw[ae b]
  refine aS ?_ (f:=rB d f);apply e<;>intro g
  .rw[c,ae b];exact RP 2 [4] (aA (q:=p))
  exfalso;exact g (by simpa using b)
 have c:jz M ax=mH ax:=by unfold jz;rw[ab (by rw[b];simp)]
 refine aS ?_ (f:=rB d f);apply e<;>intro g
 .exfalso;simp at g
 refine aS ?_ (f:=rB d<|ai7 ax k);apply e<;>intro i
 .rw[c,ae (by simpa using i)];exact RP 2 [4] (aA (q:=p))
 have q:mH ax=0:=by simpa using i
 obtain⟨j,r⟩:=HD (M:=M) (ax:=ax) l (by rw[c,q];simp);obtain⟨w,x,s,t,y⟩:=j.len;have n:=LI q;rw[c,q,ab av];refine eg ?_;refine cf ?_ (f:=aqz d (oZ M) M.root (ab5 j) ax k r n M.root s (by rw[SY];exact t));exact aA
end
section
open Go.Lib
def afG{ao s:Z->X Y->Y}{T:Z}{L:X Y}(e:∀c,c<T->∀d:X Y,Q d=Q L->ao c d=s c d):∀b,b<=T->eE ao L b=eE s L b|0,_=>p|b+1,f=>by rw[eE,eE,afG e b o,e b o _<|BM s L b]
def aav{ao s:Z->X Y->Y}{T e:Z}(f:∀b,b<T->∀c:X Y,Q c=e->ao b c=s b c):∀(d:Z)(L:X Y),Q L=e->nW ao T d L=nW s T d L|0,_,_=>p|d+1,L,g=>by rw[nW,nW,afG (ao:=ao) (s:=s) (T:=T) (L:=L) (λb j c hm=>f b j c<|bC hm g) T<|bz _,aav f d _ (by grind[BM])]
def apU{e f:Z->X Y->Y}{c:X Y}(i:∀b,b<g->∀d:X Y,Q d=Q c->e b d=f b d):qr e g c=qr f g c:=aav i _ _ p
def afH{e:Z->X Y->Y}{b:X Y}:∀d,eE e b d=b->∀c,c<d->z b c af=ad->e c b=ad
|0,_,c,j,_=>o|d+1,q,c,j,i=>by
 have k:eE e b d=b:=by
  rcases(zV e b d).2 with f|f;exact f;have:=(zV e b<|d+1).1;have m:rb (eE e b (d+1))<=rb (eE e b d):=by rw[eE];split;grind[Rh];omega
  (simp_all;omega)
 rcases fF c d with g|g;exact afH d k c g i;obtain rfl:c=d:=o;cases l:e c b with
 |false=>rfl|true=>
  have n:eE e b (c+1)=(eE e b c).set c af:=by rw[eE,k,ae ⟨i,l⟩]
  grind
def aaw{e:Z->X Y->Y}{d:Z}:∀(b:Z)(c:X Y),rb c<b->eE e (nW e d b c) d=nW e d b c|0,_,g=>o|b+1,c,g=>by rw[nW];split;omega;rename_i f;have:=(zV e c d).2.resolve_left f;exact aaw b _ o
def apV{c:Z->X Y->Y}{b:Z}{d:X Y}(e:b<g)(f:z (qr c g d) b af=ad):c b (qr c g d)=ad:=afH g (aaw _ _<|xp _) b e f
def wD(b:cZ):(bN b).null=b.null/\(bN b).eR=b.eR/\(bN b).cd=vA (aa kr b.cd)/\(bN b).eP=(qq b).eP/\(bN b).i4=(qq b).i4/\(bN b).cJ=b.cJ/\(bN b).du=b.du/\(bN b).rest=b.rest:=by show(jZ b).null=_/\(jZ b).eR=_/\(jZ b).cd=_/\(jZ b).eP=_/\(jZ b).i4=_/\(jZ b).cJ=_/\(jZ b).du=_/\(jZ b).rest=_;unfold jZ;split<;>exact⟨p,p,p,p,p,p,p,p⟩
theorem Bg{b:cZ}(c:b.cJ):(bN b).min=b.min/\(bN b).max=zO b:=by show(jZ b).min=_/\(jZ b).max=_;unfold jZ;rw[ae c];trivial
def aiT{b:cZ}{g:J}(f:gq dl b g=0):(hi b).gg=if(bN b).eP then W ((bN b).i4,b.fq) else ah:=by
 obtain⟨_,_,_,c,d,_⟩:=wD b;rw[c,d];show(if b.eP then oB _ else ah)=if(if b.eP then !mx (i6 (h5 _).1).1 else ad)=af then W (if b.eP then(i6 (h5 _).1).1 else⟨0,[],[]⟩,b.fq) else ah
 by_cases e:b.eP;have i:rx b.fq=0:=by rw[<-O4 e];exact(z9 f).2.1
 unfold oB;grind;simp_all
def NG{b:cZ}{g:J}(f:gq dl b g=0):(nG b.cd).empty=aL (Q b.cd=0)/\((bN b).cd.length=0↔Q b.cd=0):=by obtain⟨i,j,e⟩:=zR (z9 f).1;refine⟨?_,?_⟩;rw[aAv (λd c=>(e d c).1) o λd c=>(e d c).2];simp;rw[(wD b).2.2.1,Ak,auF (OU _) λd c=>aY,List.map_eq_nil_iff,Ak]
def ae7{b:cZ}{f:X Y}{T:J}(k:∀e(j:e<Q b.a8),b.a8[e].g_->0<=b.a8[e].shape):∀c,c<=Q b.a8->(bN b).rA f c=!(ak c b.a8).any (AY f)
|0,_=>p|c+1,d=>by
 have g:(bN b).g_.getD c ad=b.a8[c].g_:=by show z (aa _ b.a8) c _=_;rw[dm,c4,cm d];rfl
 have i:(bN b).aD.getD c 0=b.a8[c].shape:=by show z (aa _ b.a8) c 0=_;rw[dm,c4,cm d];rfl
 rw[bX.rA,ae7 (T:=T) k c o,g,i,Wz,cm d,List.any_append,Bool.not_or];grind[AY,decide_eq_false]
def ae6{b:cZ}(i:0<g)(e:gq dl b g=0)(c:X Y):(hi b).du c=((bN b).du&&(bN b).rA c (bN b).names.length):=by rw[(wD b).2.2.2.2.2.2.1];show(b.du&&!(if b.du then b.a8 else[]).any _)=(b.du&&(bN b).rA c (Q (aa _ b.a8)));by_cases d:b.du;rw[ae d,bg,ae7 (T:=0) (λf j hm=>(E7 j<|((BT o e).xZ d).2 f j).2.2 hm) _<|bz _,g5];simp_all
def adu(c:cZ)(d:X Y):Prop:=∀b:Z,b<11->(b:J)<c.min->pT d (jK c b)
def QB{b:cZ}(c:Q b.dH<=10):jK b (pl g)=jK b g:=by
 unfold pl;split;rfl
 (simp[jK,ab];omega)
def ady{c:cZ}{f:X Y}(d:c.cJ)(i:c.min<=zO c):∀b,b<=11->((bN c).yb f b=af↔∀e,e<b->pT f (jK c e))
|0,_=>by simp_all[bX.yb,Bg,ir]|b+1,j=>by
 have g:(bN c).dd b=jK c b:=by unfold bX.dd;rw[show pl b=b from ae o,x2 c b o,ae d]
 rw[bX.yb,g,j_,j_,ady d i b o];unfold pT;grind
def TZ{b:cZ}(i:0<g)(d:gq dl b g=0)(c:b.cJ):b.min<=zO b:=by
 obtain⟨e,f⟩:=(BT o d).ad5 c
 (simp[zO];omega)
theorem adv{b:cZ}(l:0<g)(q:gq dl b g=0)(i:b.cJ)(k:X Y):(bN b).yb k (bN b).hj↔adu b k:=by
 have m:(bN b).hj<=11:=by unfold bX.hj;split;omega;split<;>omega
 rw[ady i (TZ l q i) _ m];have e:∀c,c<11->(c<(bN b).hj↔c<b.min):=λc f=>by grind[bX.hj,Bg]
 exact⟨λd j n hm=>d j<|(e j n).2 hm,λd c f=>d c o<|(e c o).1 f⟩
theorem LS{b:cZ}(d:b.cJ)(c:Z):(hi b).elem c=jK b c:=by unfold cG.elem jK;show(if c<Q (if b.cJ then b.dH else[]) then z (if b.cJ then b.dH else[]) c 0 else(if b.cJ then b.item else-1))=_;simp_all
theorem adx{b:cZ}(r:0<g)(n:gq dl b g=0)(c:b.cJ)(i:X Y):(hi b).cJ i↔adu b i:=by
 have l:=BT o n;have s:=(l.dH c).1;unfold cG.cJ;rw[j_,m9];have j:(hi b).dH=b.dH:=ae c;have k:(hi b).min=b.min:=ae c;have m:(hi b).zG=if b.min<=Q b.dH then aB b.min else Q b.dH+1:=by unfold cG.zG;rw[j,k]
 rw[m];constructor;rintro⟨_,e⟩ d f t;by_cases q:d<=Q b.dH;have:=e d<|g4.2 aY;grind[LS];have:=e (Q b.dH)<|g4.2 aY;rw[LS c] at this;rwa [show jK b d=jK b (Q b.dH) by(simp[jK,ab];omega)];intro e;refine⟨c,λd f=>?_⟩;rw[LS c];have:=g4.1 f;split at this;exact e d o o;exact e d o o
def atm{b:cZ}(f:0<g)(i:gq dl b g=0)(e:X Y):(hi b).cJ e↔(bN b).cJ/\(bN b).yb e (bN b).hj:=by rw[(wD b).2.2.2.2.2.1];by_cases d:b.cJ;grind[adx,adv];refine⟨λc=>?_,λc=>b9 c.1 d⟩;unfold cG.cJ at c;rw[j_] at c;exact b9 c.1 d
theorem ay6{b:cZ}(e:0<g)(d:gq dl b g=0)(c:X Y):(hi b).some c=(bN b).some c:=by
 obtain⟨f,i,m,n,q,r,s,t⟩:=wD b;obtain⟨k,l⟩:=NG d;unfold cG.some cG.plain bX.some;rw[lT];have j:(hi b).gg.isSome=(bN b).eP:=by rw[aiT d];cases(bN b).eP<;>rfl
 rw[j,ae6 e d c];show(b.null||aL (0<b.eR)||(bN b).eP||!(nG _).empty||(hi b).cJ c||_)↔_;rw[k,f,i];simp only[p9,Ai,sK];rw[<-l,atm e d c];grind
def alp{b:dX}(e:mQ b):gK (kp b)=eT (fi b):=by obtain⟨g,i,k,l,m⟩:=e.len;have c:Q (kp b)=Q b.b_:=bg ..;have d:Q (fi b)=Q b.b_:=bg ..;unfold gK eT;rw[c,d];refine apU λf j n _=>?_;unfold nD n9 kp fi;grind[ay6,List.getElem_mem]
end
section
open Go.Lib
theorem aab(d:Z):ex (eH d)=47::eH d:=by
 have i:∀c:X _,(∀b∈c,aG b<58/\47<aG b)->c.flatMap s6=c:=by
  intro c
  induction c with|nil=>trivial|cons b c g=>intro e;have j:¬b=126:=λf=>ap;have k:¬b=47:=λf=>ap;simp_all[s6,ab]
 unfold ex;rw[i]
 induction d using decDigits.induct with
 |case1 d e=>
  rw[eH,Ck e]
  (simp_all;omega)|case2 d e g=>
  rw[eH,Ky e];intro b bS;rcases eX.1 bS with bS|bS;simp_all
  (simp_all;omega)
def acz{name:X v}:∀(b:X (X v))(c:Z),wN name b c<0↔(b.any λd=>aL<|d=name)=ad|[],c=>by simp[wN]|d::b,c=>by rw[wN,B7];split;simp_all;rename_i e;rw[Kx e,J8];exact acz b _
def aea{c:cZ}{g:cG}{s:bX}(k:g.a8=c.a8)(i:s.names=aa dq.name c.a8)(j:s.g_=aa dq.g_ c.a8)(d:X v)(f:X (X v)):∀b,b<=Q c.a8->m3 g d f b=kE s d f b
|0,_=>p|b+1,e=>by
 have l:z g.a8 b ai=c.a8[b]:=by rw[k,dm,cm e];rfl
 have m:z s.g_ b ad=c.a8[b].g_:=by rw[j,dm,c4,cm e];rfl
 have n:z s.names b []=c.a8[b].name:=by rw[i,dm,c4,cm e];rfl
 rw[m3,kE,aea k i j d f b o,l,m,n];simp[ab,acz]
theorem aao{d:bX}{c:X dq}(k:d.names=aa dq.name c)(l:d.aD=aa dq.shape c){name:X v}:∀e b,b+e=Q c->(d.sd name e b).1=match(aU b c).find? (λf=>aL<|f.name=name) with|W f=>f.shape|ah=>d.rest
|0,b,j=>by grind[bX.sd,List.drop_eq_nil_of_le]|e+1,b,j=>by
 have g:b<Q c:=o;have m:z d.names b []=c[b].name:=by rw[k,dm,c4,cm g];rfl
 have n:z d.aD b 0=c[b].shape:=by rw[l,dm,c4,cm g];rfl
 rw[bX.sd,m,n,pt g,List.find?_cons];by_cases i:c[b].name=name;simp_all;rw[ab i,Kx i];exact aao k l e _ o
theorem L0{q:bX}{L:X dq}(m:q.names=aa dq.name L)(n:q.aD=aa dq.shape L)(k:sS dq.name L)(name:X v):(q.field name).1=(lH L q.rest name).shape:=by
 unfold bX.field;rw[aao m n _ 0 ap,sG];unfold lH;split;rename_i s g;have d:=by simpa using List.find?_some g
 have i:=List.mem_of_find?_eq_some g;obtain⟨b,j,rfl⟩:=lU.1 i;rw[ae<|uL.2 ⟨_,i,sL d⟩];have u:Bt _ L name=b:=Rj o (λc e r=>by rw[<-d];exact k c b e j r) λc e t=>by
  rw[<-d];rcases fF b c with f|f;cases l:Op.bytesLess _ _ with|false=>rfl|true=>have:=AT (k b c j e f) l;grind[Hg]
  obtain rfl:c=b:=o;exact Hg _
 simp_all;grind
def awj(b:X Y)(c:cG):(gp b c).list=c.cJ b:=by
 have f:∀d,(st b d).list=d.list:=λd=>by grind[st]
 show(st b _).list=_;by_cases e:c.list/\c.cJ b=ad;grind[Oa];grind[N_,cG.cJ,b9]
def awk(b:X Y)(c:cG):(gp b c).iN=c.du b:=by
 have e:(kI b c).iN=c.iN/\(kI b c).du b=c.du b:=by unfold kI;split<;>exact⟨p,p⟩
 unfold gp;by_cases d:(kI b c).iN/\(kI b c).du b=ad;grind[Ob];grind[UO,cG.du,b9]
theorem MP{full:X Y}{am:J}:g8 full am<0↔pT full am=ad:=by grind[g8,pT,Bool.and_eq_false_iff,decide_eq_false_iff_not,Int.not_le]
def Nj{full:X Y}{s:bX}{am:J}:∀c,am<=rs full s c↔am<=s.max/\∀b:Z,b<c->pT full (s.w b)=ad->am<=b|0=>⟨λd=>⟨d,λb i=>o⟩,λd=>d.1⟩|c+1=>by have j:=Nj (full:=full) (s:=s) (am:=am) c;rw[rs];split;grind[MP];rename_i d;constructor;intro aH;have:=j.1 aH;refine⟨this.1,λb i g=>?_⟩;rcases fF b c with e|e;simp_all;obtain rfl:b=c:=o;have:¬b<rs _ s b:=λf=>d ⟨MP.2 g,f⟩;omega;grind
theorem ae3{full:X Y}(c:bX):∀b,wZ full c b=c.rA full b|0=>p|b+1=>by rw[wZ,bX.rA,ae3 c b];have d:=MP (full:=full) (am:=z c.aD b 0);unfold pT at d;grind
def Hk(c:X Y)(b:bX)(e:Q b.aD=Q b.names):((di c b).cJ=af↔b.cJ/\b.min<=rs c b 11)/\(di c b).du=(b.du&&b.rA c (Q b.names)):=by
 constructor;have d:(di c b).cJ=(jX c b).cJ:=by unfold di;split<;>rfl
 rw[d];unfold jX;grind;have d:(jX c b).du=b.du:=by unfold jX;split<;>rfl
 grind[di,wZ,ae3]
structure akD(M:dX)(T:J)(U:cZ):Prop where
 hp:gq dl U (Q M.b_)=0
 aBV:gz (oZ M) T=gp (eT (fi M)) (hi U)
 aBA:z M.b_ (aB T) ai=U
 TY:j4 M T=qC (bN U) (di (eT (fi M)) (bN U))
def IA{c:dX}(e:mQ c){b:J}(g:0<=b)(i:b<Q c.b_):akD c b (z c.b_ (aB b) ai):=by obtain⟨j,k,l,m,f⟩:=e.len;have d:aB b<Q c.b_:=o;refine⟨f _<|cT d,?_,p,?_⟩;unfold gz oZ;rw[alp e];unfold kp;rw[gh,dm,c4,cm d,Da d];rfl;grind[j4,Se]
def SS{c:dX}{g:Z->J}{j:Z->X v}(m:∀l, -1<=g l/\g l<Q c.b_):∀{e:X aN},(∀i∈e,∀f k b,0<=f->f<(Q c.b_:J)->jB (oZ c) ad f k i b=b++lG c f k i)->∀d b,kR (oZ c) ad g j e d b=b++iB c g j e d|[],_,d,b=>by rw[kR,iB,ff]|r::e,n,d,b=>by rw[kR,ab av,SS m (λi q=>n i<|ku _ q) _,iB];grind
theorem arJ{c:dX}(S:mQ c):∀b:aN,b.G<=1048576->b.gB=0->∀m d i,0<=m->m<(Q c.b_:J)->jB (oZ c) ad m d b i=i++lG c m d b:=aN.ind λb aR aM aO m d i ax aG=>by
 obtain⟨N,bo,bq,br,bs⟩:=S.len;have bi:=aN.pp aM;obtain⟨aH,aL⟩:=zf aO;obtain⟨bk,bm,aS,bn⟩:=Dw aH;have X:∀U∈b.list,∀m d i,0<=m->m<(Q c.b_:J)->jB (oZ c) ad m d U i=i++lG c m d U:=λU T m d i=>aR U T aY (aL U T) m d i;have hm:=IA S ax aG;obtain⟨U,aP⟩:∃U,U=z c.b_ (aB m) ai:=⟨_,p⟩;rw[<-aP] at hm;obtain⟨v,aU,aV,aW⟩:=hm;have x:=BT o v;obtain⟨a_,bb,Z⟩:=zR (z9 v).1;obtain⟨ak,al,am,bc,bd,ao,be,ap⟩:=wD U;obtain⟨aZ,bt⟩:=NG v;obtain⟨a0,a2,a3,a4⟩:=UP (eT<|fi c)<|hi U;have aC:(bN U).aD.length=(bN U).names.length:=by show Q (aa dq.shape U.a8)=Q (aa dq.name U.a8);rw[bg,bg]
 obtain⟨a5,a7⟩:=Hk (eT<|fi c) (bN U) aC;rw[Fj,C7,nX,aU,aV,aW];rcases(by omega:b.bL=1\/b.bL=2\/b.bL=3\/b.bL=4\/b.bL=5\/b.bL=6) with f|f|f|f|f|f;rw[ae f,ae f,a0];show i++(if U.null then _ else _)=i++(if(bN U).null then _ else _);rw[ak];have k:¬b.bL=1:=o;rw[ab k,ab k,ae f,ae f,a2];show i++(if zb U.eR b.bool then[] else _)=i++(if b.bool/\(bN U).eR<2\/b.bool=ad/\xw (bN U).eR 2=0 then _ else[]);rw[al];congr 1;unfold zb;grind;have k:¬b.bL=1:=o;have n:¬b.bL=2:=o;rw[ab k,ab k,ab n,ab n,ae f,ae f,a3];show i++(if(nG U.cd).empty then _ else if(nG U.cd).has b.num then _ else _)=i++(if Q U.cd=0 then _ else if pP (bN U).cd (bu b.num) then _ else _);rw[aZ,aAw (λa9 aQ=>(Z a9 aQ).1) o<|FH<|aS f,am];simp;have k:¬b.bL=1:=o;have n:¬b.bL=2:=o;have u:¬b.bL=3:=o;rw[ab k,ab k,ab n,ab n,ab u,ab u,ae f,ae f,a4,aiT v];congr 1;show Gv _ d b.text=if(di (eT (fi c)) (bN U)).eP=ad then _ else if(bN U).i4.has b.text then _ else _
 rw[Hl.1];cases(bN U).eP<;>rfl;have k:¬b.bL=1:=o;have n:¬b.bL=2:=o;have u:¬b.bL=3:=o;have y:¬b.bL=4:=o;rw[ab k,ab k,ab n,ab n,ab u,ab u,ab y,ab y,ae f,ae f];have H:(gp (eT (fi c)) (hi U)).list=(di (eT (fi c)) (bN U)).cJ:=by
  rw[awj,lT,a5,ao];by_cases e:U.cJ;rw[adx N v e,Nj,(Bg e).1,(Bg e).2];have aF:=TZ N v e;constructor;intro d;refine⟨e,aF,λY aA P=>Wg.1 λt=>?_⟩;rw[x2 U Y o,ae e,d Y aA t] at P;cases P;rintro⟨_,_,d⟩ g f bj;cases r:pT (eT (fi c)) (jK U g) with|true=>rfl|false=>have:=d g f (by rw[x2 U g o,ae e];exact r);omega
  exact⟨λd=>by unfold cG.cJ at d;rw[j_] at d;exact b9 d.1 e,λd=>b9 d.1 e⟩
 show(if(gp (eT (fi c)) (hi U)).list=ad then _ else _)=i++(if(di (eT (fi c)) (bN U)).cJ=ad then _ else _);rw[H];cases aE:(di (eT<|fi c)<|bN U).cJ with
 |false=>rfl|true=>
  rw[ab av,ab av];rw[aE] at H;obtain⟨D,ar,E,F,au,aw⟩:=UQ H;have e:U.cJ:=D;have az:(gp (eT (fi c)) (hi U)).elem=jK U:=by funext g;rw[<-LS e g];unfold cG.elem;rw[E,F]
  have aJ:(qC (bN U) (di (eT (fi c)) (bN U))).dd=jK U:=by funext g;show(bN U).w (pl g)=_;rw[x2 U _<|F1 g,ae e,QB (x.dH e).1]
  have ay:(λl=>d++[47]++eH l)=λl=>d++ex (eH l):=by funext l;rw[aab,fJ];rfl
  have M:∀g, -1<=jK U g/\jK U g<(Q c.b_:J):=λg=>by unfold jK;split;rename_i t;have:=(x.dH e).2 _<|cT (I:=0) t;omega;exact x.item e
  rw[az,aJ,ay,SS M X];have B:(gp (eT (fi c)) (hi U)).min=U.min:=bC au<|ae e;have C:(gp (eT (fi c)) (hi U)).max=U.max:=bC aw<|ae e;have bf:vw (gp (eT (fi c)) (hi U)) d (Q b.list)=vv (qC (bN U) (di (eT (fi c)) (bN U))) d (Q b.list):=by
   unfold vw vv;show(if(Q b.list:J)<(gp (eT (fi c)) (hi U)).min then _ else _)=if(Q b.list:J)<(bN U).min then _ else _
   rw[B,(Bg e).1]
  have bh:vp (gp (eT (fi c)) (hi U)) d (Q b.list)=vo (qC (bN U) (di (eT (fi c)) (bN U))) d (Q b.list):=by
   unfold vp vo;show(if(gp (eT (fi c)) (hi U)).max≠-1/\(gp (eT (fi c)) (hi U)).max<(Q b.list:J) then _ else _)=if(bN U).max<(Q b.list:J) then _ else _
   rw[C,(Bg e).2];unfold zO;by_cases t:U.max=-1;rw[ae t,ab λI=>I.1 t,ab o];rw[ab t];by_cases I:U.max<(Q b.list:J);rw[ae ⟨t,I⟩,ae I];rw[ab λr=>I r.2,ab I]
  simp_all
 have k:¬b.bL=1:=o;have n:¬b.bL=2:=o;have u:¬b.bL=3:=o;have y:¬b.bL=4:=o;have O:¬b.bL=5:=o;rw[ab k,ab k,ab n,ab n,ab u,ab u,ab y,ab y,ab O,ab O];have K:(gp (eT (fi c)) (hi U)).iN=(di (eT (fi c)) (bN U)).du:=by rw[awk,ae6 N v,a7]
 show(if(gp (eT (fi c)) (hi U)).iN=ad then _ else _)=i++(if(di (eT (fi c)) (bN U)).du=ad then _ else _);rw[K];cases aI:(di (eT<|fi c)<|bN U).du with
 |false=>rfl|true=>
  rw[ab av,ab av];rw[aI] at K;obtain⟨D,ar,E,F⟩:=I4 K;have A:U.du:=D;have B:(gp (eT (fi c)) (hi U)).a8=U.a8:=bC E<|ae A;have C:(gp (eT (fi c)) (hi U)).rest=U.rest:=bC F<|ae A;have R:sS dq.name U.a8:=U_ λl j=>R9 j<|(x.xZ A).2 (l+1) j;have aK:∀l,(lH U.a8 U.rest (z b.keys l [])).shape=((qC (bN U) (di (eT (fi c)) (bN U))).field (z b.keys l [])).1:=λl=>by have:=L0 (q:=qC (bN U)<|di (eT<|fi c)<|bN U) (L:=U.a8) p p R<|z b.keys l [];rw[this];show _=(lH U.a8 (bN U).rest _).shape;rw[ap]
  have M:∀g, -1<=(lH U.a8 U.rest (z b.keys g [])).shape/\(lH U.a8 U.rest (z b.keys g [])).shape<(Q c.b_:J):=λg=>by rcases R8 (rest:=U.rest) (U:=z b.keys g []) R with r|r;rw[r];exact x.rest A;obtain⟨l,j,r⟩:=lU.1 r;rw[<-r];exact(E7 j<|(x.xZ A).2 l j).2.1
  rw[B,C,SS M X,aea B (s:=qC (bN U)<|di (eT<|fi c)<|bN U) p p d b.keys _<|bz _];rw[funext aK,fJ];congr 2;show kE _ d b.keys (Q U.a8)=kE _ d b.keys (Q (aa dq.name U.a8));rw[bg]
end
section
open Go.Lib
def MB{v8:X il}{one:Y}{hp:Z->J}{dC:Z->X v}:∀{L:X aN},(∀d∈L,∀i e b,Q b<=Q (jB v8 one i e d b))->∀c b,Q b<=Q (kR v8 one hp dC L c b)|[],_,c,b=>by simp[kR,bz]|j::L,f,c,b=>by rw[kR];split;omega;have k:=MB (hp:=hp) (dC:=dC) (λd g=>f d<|ku _ g) (c+1) (if hp c=-1 then b++[⟨dC c,6⟩] else jB v8 one (hp c) (dC c) j b);grind
theorem ab2{c:X il}{j:Y}:∀(e:aN)(b:J)(d:X v)(g:X dL),Q g<=Q (jB c j b d e g):=aN.ind λe i b d g=>by
 rw[Fj];split;simp;split;simp;split;simp;split;simp;split;split;simp;have:=MB (hp:=(gz c b).elem) (dC:=λf=>d++[47]++eH f) i 0 (g++vw (gz c b) d (Q e.list)++vp (gz c b) d (Q e.list))
 (simp_all;omega)
 split;simp;have:=MB (hp:=λf=>(lH (gz c b).a8 (gz c b).rest<|z e.keys f []).shape) (dC:=λf=>d++ex (z e.keys f [])) i 0 (g++m3 (gz c b) d e.keys (gz c b).a8.length)
 (simp_all;omega)
def SV{v8:X il}{hp:Z->J}{dC:Z->X v}:∀{L:X aN},(∀e∈L,∀g f b,Q (jB v8 af g f e b)=0↔Q (jB v8 ad g f e b)=0)->∀c b d,(Q b=0↔Q d=0)->(Q (kR v8 af hp dC L c b)=0↔Q (kR v8 ad hp dC L c d)=0)|[],_,c,b,d,i=>cc|l::L,j,c,b,d,i=>by rw[kR,kR,ab<|show¬(ad&&aL _)=af by simp];by_cases m:Q b=0;rw[ab ap];refine SV (λe k=>j e<|ku _ k) _ _ _ ?_;grind;rw[ae a2];have n:=MB (v8:=v8) (one:=ad) (hp:=hp) (dC:=dC) (L:=L) (λe _ g f b=>ab2 e g f b) (c+1) (if hp c=-1 then d++[⟨dC c,6⟩] else jB v8 ad (hp c) (dC c) l d);grind[jB,List.length_append,ab2]
def arK{f:X il}:∀(e:aN)(c:J)(b:X v)(d:X dL),Q (jB f af c b e d)=0↔Q (jB f ad c b e d)=0:=aN.ind λe g c b d=>by rw[Fj,Fj];split;rfl;split;rfl;split;rfl;split;rfl;split;split;rfl;exact SV g 0 _ _ na;split;rfl;exact SV g 0 _ _ na
def aql(c:X bX):Q (eT c)=Q c:=by
 unfold eT qr;have f:∀(b:Z)(d:X _),Q (nW (n9 c) (Q c) b d)=Q d:=by
  intro b
  induction b with|zero=>intro d;rfl|succ b e=>grind[nW,BM]
 simp_all
def aoM{b:dX}{c:J}(i:0<=c)(j:c<Q b.b_)(d:z (eT (fi b)) (aB c) ad=ad):(bN (z b.b_ (aB c) ai)).some (eT (fi b))=ad:=by
 have f:Q (fi b)=Q b.b_:=bg ..;have g:aB c<Q b.b_:=o;have e:z (eT (fi b)) (aB c) af=ad:=by rw[dm,cm (by rw[aql,f];exact g)] at d⊢;exact d
 have:=apV o e;unfold n9 at this;rw[show z (fi b) _ _=bN (z b.b_ (aB c) _) by grind[fi,List.getElem?_eq_getElem,Da]] at this;trivial
def ac_{l:dX}{b:cZ}(j:0<Q l.b_)(k:gq dl b (Q l.b_)=0)(e:X Y):(di e (bN b)).cJ↔(bN b).cJ/\(bN b).yb e (bN b).hj:=by
 rw[(Hk _ _ (by show Q (aa dq.shape b.a8)=Q (aa dq.name b.a8);rw[bg,bg])).1,(wD b).2.2.2.2.2.1];by_cases c:b.cJ;rw[adv j k c,Nj,(Bg c).1,(Bg c).2];constructor;rintro⟨_,_,d⟩;refine⟨c,λi r s=>?_⟩;cases n:pT _ _ with|true=>rfl|false=>have:=d i r (by rw[x2 b i o,ae c];exact n);omega
 rintro⟨_,d⟩;refine⟨c,TZ j k c,λg q f=>Wg.1 λm=>?_⟩;rw[x2 b g o,ae c,d g q m] at f;cases f;simp_all
theorem aoK{d:dX}(j:mQ d){f:J}(i:0<=f)(k:f<Q d.b_)(m:z (eT (fi d)) (aB f) ad=ad)(l:X v)(c:aN)(I:kj c=0):lG d f l c≠[]:=by
 obtain⟨q,K,L,M,N⟩:=j.len;have e:=aoM i k m;have hm:=IA j i k;obtain⟨b,n⟩:∃b,b=z d.b_ (aB f) ai:=⟨_,p⟩;rw[<-n] at e hm;obtain⟨g,O,r,s⟩:=hm;obtain⟨A,B,C,D,E,F,G,H⟩:=wD b;obtain⟨P,R⟩:=NG g;obtain⟨t,u,w⟩:=zR (z9 g).1;have T:=(Hk (eT<|fi d) (bN b) (by show Q (aa dq.shape b.a8)=Q (aa dq.name b.a8);rw[bg,bg])).2;have S:=ac_ q g<|eT<|fi d;unfold bX.some at e;split at e;cases e;split at e;cases e;have x:(di (eT (fi d)) (bN b)).cJ=ad:=by cases y:(di _ _).cJ with|false=>rfl|true=>simp_all
 rw[C7,nX,r,s];show(if c.bL=1 then(if(bN b).null then _ else _) else if c.bL=2 then(if c.bool/\(bN b).eR<2\/c.bool=ad/\xw (bN b).eR 2=0 then _ else _) else if c.bL=3 then(if Q b.cd=0 then _ else _) else if c.bL=4 then(if(di _ _).eP=ad then _ else _) else if c.bL=5 then(if(di _ _).cJ=ad then _ else _) else if(di _ _).du=ad then _ else _)≠[];grind[Hl]
def R4{k:dX}{i j:Z->J}{e:Z->X v}{f:X bX}:∀{c:X aN},(∀d∈c,∀b,u4 f (j b) d↔xY k (i b) (e b) d=[])->∀b,ol f j c b↔iB k i e c b=[]|[],_,b=>by rw[ol,iB];trivial|m::c,g,b=>by rw[ol,iB,j_,GH,R4 (λd l=>g d<|ku _ l) _,g m (kO ..) b];rfl
def aaA{M:dX}{hp:Z->J}{dC:Z->X v}{A:Z}:∀{b:X aN}{E:Z},E<=A->A<E+Q b->(∀d∈b,xY M (hp A) (dC A) d≠[])->iB M hp dC b E≠[]|[],E,g,i,_=>aY|k::b,E,g,i,e=>by rw[iB];intro c;rw[GH] at c;rcases fF E A with f|f;exact aaA o oU (λd j=>e d<|ku _ j) c.2;obtain rfl:E=A:=o;exact e k (kO ..) c.1
def aeb{s ao:bX}(e:ao.names=s.names)(f:ao.g_=s.g_)(d:X v)(c:X (X v)):∀b,ao.uk c b↔kE s d c b=[]|0=>⟨λ_=>p,λ_=>p⟩|b+1=>by rw[bX.uk,kE,j_,GH,aeb e f d c b,e,f];grind
def aap{f:X Y}{b e:bX}(g:e.names=b.names)(i:e.aD=aa (g8 f) b.aD)(k:e.rest=g8 f b.rest)(l:Q b.aD=Q b.names){name:X v}:∀d c,c+d=Q b.names->(e.sd name d c).1=g8 f (b.sd name d c).1|0,c,_=>cc|d+1,c,j=>by rw[bX.sd,bX.sd,g,i];split;grind;exact aap g i k l d _ o
def akW{M:dX}(Y:mQ M):∀b:aN,b.G<=1048576->b.gB=0->∀n d,0<=n->n<(Q M.b_:J)->(u4 (my M) n b=af↔lG M n d b=[]):=aN.ind λb bn aQ aR n d ax aK=>by
 obtain⟨aU,bt,bv,bw,bx⟩:=Y.len;have bf:=aN.pp aQ;obtain⟨aL,bm⟩:=zf aR;obtain⟨bo,bq,br,bs⟩:=Dw aL;have F:∀U∈b.list,∀(am:J) d,am<(Q M.b_:J)->(u4 (my M) (g8 (eT (fi M)) am) U=af↔xY M am d U=[]):=λU Z am d aH=>by
  unfold xY;by_cases i:0<=am;rw[ae i];cases C:z (eT<|fi M) (aB am) ad with|true=>rw[show g8 (eT (fi M)) am=am by simp_all[g8,ab]];grind|false=>rw[show g8 (eT (fi M)) am=-1 by simp_all[g8,ae],Ha,ae o];grind[b9,aoK,zf]
  rw[ab i,show g8 (eT (fi M)) am=am by(simp[g8,ab];omega),Ha,ae o];simp
 have P:∀U∈b.list,∀(am:J) d,am<(Q M.b_:J)->g8 (eT (fi M)) am<0->xY M am d U≠[]:=λU Z am d aH e c=>by have:=(F U Z am d aH).2 c;simp_all[Ha,ae]
 have aM:aB n<Q M.b_:=o;have hm:=IA Y ax aK;have R:=Se (M:=M) aM;obtain⟨U,aS⟩:∃U,U=z M.b_ (aB n) ai:=⟨_,p⟩;rw[<-aS] at hm R;obtain⟨y,bA,aV,aW⟩:=hm;have m:=BT o y;obtain⟨a3,a4,a5⟩:=zR (z9 y).1;obtain⟨a_,bb,bc,bd,be,N,O,aw⟩:=wD U;obtain⟨bB,aZ⟩:=NG y;have T:(bN U).aD.length=(bN U).names.length:=by show Q (aa dq.shape U.a8)=Q (aa dq.name U.a8);rw[bg,bg]
 rw[Ha,ab o,R,C7,aW];obtain⟨full,aA⟩:∃full,full=eT (fi M):=⟨_,p⟩;rw[<-aA] at F P⊢;obtain⟨a0,a2⟩:=Hl (full:=full) (ao:=(bN U));have ap:(di full (bN U)).null=(bN U).null/\(di full (bN U)).eR=(bN U).eR/\(di full (bN U)).cd=(bN U).cd/\(di full (bN U)).names=(bN U).names/\(di full (bN U)).g_=(bN U).g_/\(di full (bN U)).min=(bN U).min:=by unfold di jX;split<;>split<;>exact⟨p,p,p,p,p,p⟩
 obtain⟨ak,al,h_,l1,Lf,ar⟩:=ap;unfold r4 nX;rw[aV];rcases(by omega:b.bL=1\/b.bL=2\/b.bL=3\/b.bL=4\/b.bL=5\/b.bL=6) with e|e|e|e|e|e;rw[ae e,ae e,ak];show(bN U).null↔(if(bN U).null then[] else _)=[];simp;have f:¬b.bL=1:=o;rw[ab f,ab f,ae e,ae e,al];show _↔(if b.bool/\(bN U).eR<2\/b.bool=ad/\xw (bN U).eR 2=0 then _ else[])=[];grind;have f:¬b.bL=1:=o;have g:¬b.bL=2:=o;rw[ab f,ab f,ab g,ab g,ae e,ae e,h_];show pP (bN U).cd (bu b.num)↔(if Q U.cd=0 then _ else if pP (bN U).cd (bu b.num) then[] else _)=[];by_cases i:Q U.cd=0;rw[ae i,Ak.1<|aZ.2 i];exact⟨λc=>(by cases c),λc=>(by cases c)⟩;simp_all;have f:¬b.bL=1:=o;have g:¬b.bL=2:=o;have k:¬b.bL=3:=o;rw[ab f,ab f,ab g,ab g,ab k,ab k,ae e,ae e,a0,a2];show _↔(if(di full (bN U)).eP=ad then _ else if(bN U).i4.has b.text then[] else _)=[];grind;have f:¬b.bL=1:=o;have g:¬b.bL=2:=o;have k:¬b.bL=3:=o;have r:¬b.bL=4:=o;rw[ab f,ab f,ab g,ab g,ab k,ab k,ab r,ab r,ae e,ae e];show _↔(if(di full (bN U)).cJ=ad then _ else _)=[];cases aF:(di full (bN U)).cJ with
 |false=>simp|true=>
  rw[ab<|show¬af=ad by simp];have l:U.cJ:=by have:=((ac_ aU y full).1 aF).1;rwa [N] at this
  have S:(bN U).cJ:=by rw[N];exact l
  have aI:(di full (bN U)).max=rs full (bN U) 11:=by
   have c:(di full (bN U)).max=(jX full (bN U)).max:=by unfold di;split<;>rfl
   rw[c];unfold jX;rw[ae S];rfl
  have bk:∀E,(di full (bN U)).dd E=g8 full (jK U E):=λE=>by
   unfold bX.dd;have c:(di full (bN U)).w=(jX full (bN U)).w:=by unfold di;split<;>rfl
   rw[c];unfold jX;rw[ae S];show(if pl E<11 then g8 full ((bN U).w (pl E)) else(bN U).w (pl E))=_;have:=F1 E;rw[ae o,x2 U _<|F1 E,ae l,QB (m.dH l).1]
  have aP:(qC (bN U) (di full (bN U))).dd=jK U:=by funext A;show(bN U).w (pl A)=_;rw[x2 U _<|F1 A,ae l,QB (m.dH l).1]
  have D:∀A,jK U A<(Q M.b_:J):=λA=>by unfold jK;split;rename_i i;have:=(m.dH l).2 _<|cT (I:=0) i;omega;exact(m.item l).2
  have ay:ol (my M) (di full (bN U)).dd b.list 0↔iB M (jK U) (λE=>d++ex (eH E)) b.list 0=[]:=R4 (λB x E=>aY) 0;rw[aP,GH,GH,ar,aI];have aG:vv (qC (bN U) (di full (bN U))) d (Q b.list)=[]↔¬(Q b.list:J)<(bN U).min:=by unfold vv;show(if(Q b.list:J)<(bN U).min then _ else _)=[]↔_;split<;>simp_all
  have aE:vo (qC (bN U) (di full (bN U))) d (Q b.list)=[]↔¬(bN U).max<(Q b.list:J):=by unfold vo;show(if(bN U).max<(Q b.list:J) then _ else _)=[]↔_;split<;>simp_all
  rw[aG,aE];have aJ:=Nj (full:=full) (s:=bN U) (am:=(Q b.list:J)) 11;split;rename_i t;refine⟨λc=>(by cases c),λc=>?_⟩;exfalso;obtain⟨⟨a7,a9⟩,au⟩:=c;rcases t with(t|t)|t;cases t;omega;have:¬(Q b.list:J)<=rs full (bN U) 11:=o;rw[aJ] at this;refine this ⟨o,λH bi C=>Wg.1 λi=>?_⟩;rw[x2 U H o,ae l] at C;exact aaA (M:=M) (hp:=jK U) (dC:=λE=>d++ex (eH E)) (A:=H) (E:=0) o o (λB x=>P B x _ _ (D H)<|MP.2 C) au;simp_all
 have f:¬b.bL=1:=o;have g:¬b.bL=2:=o;have k:¬b.bL=3:=o;have r:¬b.bL=4:=o;have K:¬b.bL=5:=o;rw[ab f,ab f,ab g,ab g,ab k,ab k,ab r,ab r,ab K,ab K];show _↔(if(di full (bN U)).du=ad then _ else _)=[];cases aO:(di full (bN U)).du with
 |false=>simp|true=>
  rw[ab<|show¬af=ad by simp,ab<|show¬af=ad by simp];have u:U.du:=by have:=(Hk full (bN U) T).2;rw[aO,O] at this;cases c:U.du with|true=>rfl|false=>rw[c] at this;cases this
  have aC:(bN U).du:=by rw[O];exact u
  have X:(di full (bN U)).aD=(bN U).aD.map (g8 full)/\(di full (bN U)).rest=g8 full (bN U).rest:=by unfold di;rw[ae aC];exact⟨p,p⟩
  have v:sS dq.name U.a8:=U_ λE j=>R9 j<|(m.xZ u).2 (E+1) j;have az:∀name,((di full (bN U)).field name).1=g8 full ((bN U).field name).1:=λname=>by unfold bX.field;rw[l1];exact aap l1 X.1 X.2 T (name:=name) _ 0<|kZ _
  have bh:∀name,((qC (bN U) (di full (bN U))).field name).1=((bN U).field name).1:=λname=>by rw[L0 (q:=qC (bN U)<|di full<|bN U) (L:=U.a8) p p v name,L0 (q:=bN U) (L:=U.a8) p p v name];rfl
  have D:∀name,((bN U).field name).1<(Q M.b_:J):=λname=>by rw[L0 (q:=bN U) (L:=U.a8) p p v name];rcases R8 (rest:=(bN U).rest) (U:=name) v with c|c;rw[c,aw];exact(m.rest u).2;obtain⟨E,j,c⟩:=lU.1 c;rw[<-c];exact(E7 j<|(m.xZ u).2 E j).2.1.2
  have ay:ol (my M) (λE=>((di full<|bN U).field<|z b.keys E []).1) b.list 0↔iB M (λE=>((bN U).field<|z b.keys E []).1) (λE=>d++ex (z b.keys E [])) b.list 0=[]:=R4 (λB x E=>by rw[az];exact F B x _ _<|D _) 0;have bj:=aeb (s:=qC (bN U)<|di full<|bN U) (ao:=di full<|bN U) l1 Lf d b.keys (bN U).names.length;rw[l1,GH];show _↔kE (qC (bN U) (di full (bN U))) d b.keys (bN U).names.length=[]/\_;simp_all
def aaK{b:dX}(d:mQ b){c:aN}(e:c.G<=1048576)(f:c.gB=0):Sa b c=lG b b.root [] c:=by obtain⟨g,i,j,k,l⟩:=d.len;grind[Sa,arJ]
def Xb{b:dX}(d:mQ b){c:aN}(f:c.G<=1048576)(g:c.gB=0):Cz b c=u4 (my b) b.root c/\Cz b c=aL (Q (lG b b.root [] c)=0):=by
 obtain⟨k,l,i,j,m⟩:=d.len;have e:Cz b c=aL (Q (lG b b.root [] c)=0):=by rw[<-aaK d f g];exact qW.2<|arK c _ [] []
 refine⟨?_,e⟩;rw[e,lT,ir,akW d c f g _ [] i j,Ak]
end
section
open Go.Lib
def ap7(b:Z)(d:b<18446744073709551616):dF 244 [.aq 6000 0 (od b),an .u64 b] [(6000,.h 1 323 (cM 24 nI))] (cs []) [(6000,.h 1 323 (cM 0 nI++(aa bR (eH b)++cM (24-0-od b) nI)))]:=aaL p (by grind[yc]) (λbK f cap c g i e=>Tryz.internal_strconv_formatBase10 bK f cap b c g e (by grind[lt_pow_nDigits]) d (by grind[yc]))<|nDigits_pos b
def amv{c:X v}:∀b∈aa bR c,Q (kb b)=1:=λb d=>by obtain⟨e,_,rfl⟩:=cV.1 d;rfl
def alP(c:X v)(bn:Z)(d:bn<18446744073709551616)(l:Q c<=9000000000000):dF 183 [.aq 5000 0 (Q (aa bR c)),an .u64 (bn:Z),an aj 10] [(5000,.h 1 5 (aa bR c))] (.aq 5000 0 (Q (aa bR (c++eH bn)))) [(5000,.h 1 5 (aa bR (c++eH bn)))]:=by
 refine dN func183 [] λr j k=>?_;have q:=yc bn d;have n:Q (eH bn)=od bn:=decDigits_length bn;refine ly.mk (λ_=>?_) nofun;apply e<;>intro m
 .have i:bn<100:=o;refine lg (bn:Z)<|aS ?_ (f:=abW (E:=bn) i);refine Nl (aa bR<|c++eH bn) ?_ (aW:=av) (bQ:=a2);exact cE
 refine T0 (T:=24) (bn:=ek .u8 0) (aJ:=(cM 24 nI)) ?_ (aH:=a3) (aW:=a3);refine aS ?_ (f:=aeN bn o d);refine II 0 (od bn) (od bn) (x5:=cc)<|bI [(6000,7)] ?_ (f:=ap7 bn d);refine II 0 (od bn) (od bn) ?_ (x5:=a2);refine Nl (aa bR<|c++eH bn) ?_ (hl:=.aq (yk:=7) (CT:=323) (xs:=cM 0 nI++(aa bR (eH bn)++cM (24-0-od bn) nI)) p p p p p a2 (by intro g b;rcases eX.1 b with b|b;trivial;rcases eX.1 b with b|b;exact amv g b;rw[yN b];rfl)) (aW:=ap) (bQ:=a2);exact cE
def alm(b:X v)(c:Z)(i:c<9223372036854775808)(d:Q b<=9000000000000):dF 128 [.aq 5000 0 (Q (aa bR b)),an aj (c:Z),an aj 10] [(5000,.h 1 5 (aa bR b))] (.aq 5000 0 (Q (aa bR (b++eH c)))) [(5000,.h 1 5 (aa bR (b++eH c)))]:=by
 refine dN func128 [] λl g j=>?_;refine lg _ ?_;apply e<;>intro k
 .omega
 refine bI [(5000,5000)] ?_ (f:=alP b c o d);exact cE
def aln(b:X v)(c:Z)(d:c<9223372036854775808)(e:Q b<=9000000000000):dF 79 [.aq 5000 0 (Q (aa bR b)),an aj (c:Z),an aj 10] [(5000,.h 1 5 (aa bR b))] (.aq 5000 0 (Q (aa bR (b++eH c)))) [(5000,.h 1 5 (aa bR (b++eH c)))]:=by refine dN func79 [] λj g i=>?_;refine bI [(5000,5000)] ?_ (f:=alm b c d e);exact cE
def lq(b:Z):X v:=eH b++[32]
def Gq{bn:Z}(b:bn<18446744073709551616):Q (lq bn)<=21:=by grind[lq,List.length_append,decDigits_length,yc]
theorem My(d:X v)(b:Z)(i:b<9223372036854775808)(n:Q d<=8000000000000){nw:Z}(k:nw=Q (aa bR d)):dF 39 [c 6000,an aj (b:Z)] [(6000,ag 59 (bH [.aq 5001 0 nw])),(5001,.h 1 5 (aa bR d))] (cs []) [(6000,ag 59 (bH [.aq 5001 0 (Q (aa bR (d++lq b)))])),(5001,.h 1 5 (aa bR (d++lq b)))]:=by
 subst k;have r:=yc b o;have q:Q (eH b)=od b:=decDigits_length b;have j:d++lq b=d++eH b++[32]:=by rw[lq,fJ]
 rw[j];refine dN func39 [] λs l m=>?_;refine auY 6000 [0]<|bI [(5000,5001)] ?_ (f:=aln d b i o);refine er ?_ (hlen:=λg e=>by rw[ea.1 e];rfl);refine Nl (aa bR<|d++eH b++[32]) ?_ (hl:=.a p p p p λg e=>by rw[ea.1 e];rfl) (aW:=by rw[@dn _ _ _ (d++eH b) _];rfl) (bQ:=a2);exact cE
def ary(d b:X v)(q:Q b<=100000000000)(m:Q d<=5000000000000)(j:g=Q (aa bR d)):dF 40 [c 6000,bV b] [(6000,ag 59 (bH [.aq 5001 0 g])),(5001,.h 1 5 (aa bR d))] (cs []) [(6000,ag 59 (bH [.aq 5001 0 (Q (aa bR (d++(lq (Q b)++b))))])),(5001,.h 1 5 (aa bR (d++(lq (Q b)++b))))]:=by
 subst j;have bQ:=Gq (bn:=Q b) o;obtain⟨e,i⟩:∃e,e=d++lq (Q b):=⟨_,p⟩;have n:Q e<=5000000000021:=by rw[i,cX];omega
 rw[<-fJ,<-i];refine dN func40 [] λr k l=>?_;refine bI [(6000,6000),(5001,5001)] ?_ (f:=My d (Q b) o o p);rw[<-i];refine Nl (aa bR<|e++b) ?_ (aW:=av) (bQ:=a2);exact cE
def arz(b:X v)(d:g=Q (aa bR b)):dF 20 [c 6000] [(6000,ag 59 (bH [.aq 5001 0 g])),(5001,.h 1 5 (aa bR b))] (bV b) [(6000,ag 59 (bH [.aq 5001 0 (Q (aa bR b))])),(5001,.h 1 5 (aa bR b))]:=by subst d;refine dN func20 [] λi e f=>?_;exact zP b (hlen:=av) (bS:=aY)<|cE
def arx(b:X v)(d:J)(e:0<=d)(f:d<9223372036854775808)(i:Q b<=8000000000000)(j:g=Q (aa bR b)):dF 39 [c 6000,an aj d] [(6000,ag 59 (bH [.aq 5001 0 g])),(5001,.h 1 5 (aa bR b))] (cs []) [(6000,ag 59 (bH [.aq 5001 0 (Q (aa bR (b++lq (aB d))))])),(5001,.h 1 5 (aa bR (b++lq (aB d))))]:=by grind[My]
def rL(c:X dL):X v:=c.flatMap λb=>lq (Q b.w)++b.w++lq (aB b.bL)
def azP{b:X dL}(c:g<Q b):rL (ak (g+1) b)=rL (ak g b)++(lq b[g].w.length++b[g].w)++lq b[g].bL.toNat:=by grind[rL,List.take_add_one,List.getElem?_eq_getElem]
def aiE{L:X dL}{nh:Z}(c:∀b∈L,Q b.w<=nh/\nh<=100000000000/\0<=b.bL/\b.bL<=100):Q (rL L)<=(nh+42)*Q L:=by induction L with|nil=>exact dO _|cons b L e=>have f:=c b ap;have g:=e λd k=>c d ap;have i:=Gq (bn:=Q b.w) o;have j:=Gq (bn:=aB b.bL) o;grind[rL,List.length_append,List.length_cons,Nat.mul_add]
def arw(L:X dL)(g:X v)(H:Q g<=1000)(M:Q L<=1000000)(A:∀m∈L,Q m.w<=1300000/\0<=m.bL/\m.bL<=100)(z:Z)(B:z=Q (aa bR g)):dF 18 [c 6000,.a 2 (aa fH L)] [(6000,ag 59 (bH [.aq 5001 0 z])),(5001,.h 1 5 (aa bR g))] (cs []) [(6000,ag 59 (bH [.aq 5001 0 (Q (aa bR (g++lq (Q L)++rL L)))])),(5001,.h 1 5 (aa bR (g++lq (Q L)++rL L)))]:=by
 subst B;have x:Q (aa fH L)=Q L:=bg ..;have C:=Gq (bn:=Q L) o;rw[<-x];rw[<-x] at C;obtain⟨d,s⟩:∃d,d=g++lq (Q (aa fH L)):=⟨_,p⟩;have J:Q d<=1021:=by rw[s,cX];omega
 rw[<-s];obtain⟨t,u⟩:∃t,t=d++rL L:=⟨_,p⟩;rw[<-u];refine dN func18 [] λR D G=>?_;refine bI [(6000,6000),(5001,5001)] ?_ (f:=My g (Q<|aa fH L) o o p);rw[<-s];rw[show d=d++rL (ak 0 L) by simp[rL,Wo,ff]];refine eC (Q L) (λb=>⟨[(0,c 6000),(1,.a 2<|aa fH L),(4,k b)],[(5001,.h 1 5<|aa bR<|d++rL (ak b L)),(6000,ag 59<|bH [.aq 5001 0 (Q<|aa bR<|d++rL (ak b L))])],[]⟩) λb j=>?_;apply e<;>intro I
 .have n:b<Q L:=o;have K:=A _<|fK n;have N:=aiE (L:=ak b L) (nh:=1300000) λm hm=>aY;have O:Q (ak b L)<=1000000:=by rw[mK];omega
  obtain⟨i,q⟩:∃i,i=d++rL (ak b L):=⟨_,p⟩;have E:Q i<=1400000000000:=by rw[q,cX];omega
  have y:d++rL (ak (b+1) L)=i++(lq L[b].w.length++L[b].w)++lq L[b].bL.toNat:=by rw[azP n,q];simp only[fJ]
  have P:=Gq (bn:=L[b].w.length) o;obtain⟨l,r⟩:∃l,l=i++(lq L[b].w.length++L[b].w):=⟨_,p⟩;have F:Q l<=1500000000000:=by rw[r,cX,cX];omega
  rw[<-r] at y;rw[<-q];refine bi b (fH L[b]) ?_ (j:=hR n);refine bI [(6000,6000),(5001,5001)] ?_ (f:=ary i L[b].w o o p);rw[<-r];refine bi b (fH L[b]) ?_ (j:=hR n);refine bI [(6000,6000),(5001,5001)] ?_ (f:=arx l L[b].bL o o o p);rw[<-y];refine bc ?_;exact a0<|b+1
 obtain rfl:b=Q L:=o;rw[g5,<-u];exact cE
end
section
open Go.Lib
def arv(d:X v)(b:J)(k:0<=b)(l:b<9223372036854775808)(g:Q d<=8000000000000){nw:Z}(i:nw=Q (aa bR d)):dF 19 [c 6000,an aj b] [(6000,ag 59 (bH [.aq 5001 0 nw])),(5001,.h 1 5 (aa bR d))] (cs []) [(6000,ag 59 (bH [.aq 5001 0 (Q (aa bR (d++lq (aB b))))])),(5001,.h 1 5 (aa bR (d++lq (aB b))))]:=by obtain⟨e,rfl⟩:∃e:Z,b=(e:J):=⟨aB b,o⟩;refine dN func19 [] λn j m=>?_;refine bI [(6000,6000),(5001,5001)] ?_ (f:=My d e o g (nw:=nw) i);exact cE
def az5(g:J)(L:X dL)(l:Q L<=1000000)(j:∀e∈L,Q e.w<=1300000/\0<=e.bL/\e.bL<=100)(b:J)(k:0<=b)(n:b<1000):fA b5 (jn g) 8 [.a 2 (aa fH L),an aj b] (bV ([]++lq (Q L)++rL L++lq (aB b))):=by
 refine bx func8 [2002] λm r=>?_;have s:=Gq (bn:=Q L) o;have t:=aiE (L:=L) (nh:=1300000) (λe hm=>by have:=j e hm;omega);obtain⟨d,i⟩:∃d,d=[]++lq (Q L)++rL L:=⟨_,p⟩;have q:Q d<=1400000000000:=by rw[i,tv,cX];omega
 rw[<-i];refine n7 ⟨[(0,.a 2<|aa fH L),(1,an aj b),(4,bV []),(5,c 7)],[(7,ag 59<|bH [.ba])],[]⟩ ?_;refine aZ.eQ 1101 1 5 [] (W (7,0)) ?_;refine dM ?_;refine bI [(6000,7),(5001,1101)] ?_ (f:=Ur g<|arw L [] aR l j 0 p);rw[<-i];refine bI [(6000,7),(5001,1101)] ?_ (f:=Ur g<|arv d b k o o p);refine bI [(6000,7),(5001,1101)] ?_ (f:=Ur g<|arz (d++lq (aB b)) p);exact aA
end
