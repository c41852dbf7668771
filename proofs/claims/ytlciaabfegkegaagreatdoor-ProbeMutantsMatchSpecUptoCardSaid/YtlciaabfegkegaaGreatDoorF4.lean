import Derived.Test.YtlciaabfegkegaaGreatDoorF3
set_option linter.all false
set_option maxHeartbeats 8000000
set_option maxRecDepth 100000
open Bool renaming false->ae,true->ag
open Decidable renaming decide->aH
open Eq renaming symm->bQ,trans->b0
open Go renaming IntKind->dd,Oper->a7,Operand->aP,Program->bn,TypeId->aw
open Go.Exit renaming normal->fY
open Go.Fn renaming func->c1
open Go.IntKind renaming bits->l7,i64->aj,u64->ej,u8->ez,wrap->hf
open Go.Lib renaming indexByte->eG
open Go.Op renaming indexAddr->o0
open Go.Proofs.Tryz renaming prog->bL
open Go.TypeDesc renaming slice->c_
open Go.Value renaming int->cN
open Go.fe.V renaming agg->b2,bool->aV,func->eo,int->an,ref->fN,str->a8,tuple->cv
open Go.fe.b7 renaming cell->ah,map->iA
open Inhabited renaming default->av
open Int renaming toNat->aG
open List renaming Nodup->dT,Perm->g7,any->fB,count->lp,drop->ay,flatMap->ff,getD->y,idxOf->h2,length->U,lookup->cX,map->ab,range->bM,replicate->cM,set->aR,take->am
open List.Perm renaming refl->gF
open Nat renaming beq->ef,cast->nb
open Option renaming none->ai,some->W
open Or renaming inl->bj,inr->bp,resolve_left->j2
open UInt8 renaming ofNat->gn,toNat->ax,toNat_lt->mE
open _root_ renaming Bool->X,Decidable->sj,DecidableEq->hO,Inhabited->l9,Int->L,List->Y,Nat->Z,True->dW,UInt8->C,Unit->j3,absurd->cg,rfl->aa,trivial->b5
open Go.Proofs Go.Proofs.Tryz
open Go.Proofs.Tryz renaming prog->eQ
namespace Go.fe
variable{P:bn}{i:Y (Z×V)}{m:Z}{n:Code}{p:bJ}{ak:Exit->aN->Prop}{J:aN}{K:cI}{JP:Type}
def EP:Y C:=[100,119,115,68,87,83]
def G9(d:Z)(c:L)(b:Ae):a6×aA:=if b.r.no=0/\b.n<c then(b.s,cw b.r d 9)
 else if b.r.no=0 then(b.s.add (aG c)<|aG b.n,b.r) else(b.s,b.r)
def uJ(c:Y C)(d:Z)(b:Ae):a6×aA:=if b.r.no≠0\/cZ c b.r.x 45=ae then(b.s,b.r)
 else if b.n<0 then(b.s,cw b.r b.r.x 6)
 else if(b.r.x+2<U c/\cZ c (b.r.x+1) 92)/\gL EP (y c (b.r.x+2) 0) then(b.s,cw b.r.step (b.r.x+2:Z) 6)
 else G9 d b.n (jK c b.s b.r.step)
def uI(c:Y C)(J:a6)(b:aA):a6×aA:=uJ c b.x<|jK c J b
def k7(c:Y C):Z->a6->aA->a6×aA|0,J,b=>(J,b)|B+1,J,b=>if b.no=0/\cZ c b.x 93=ae then k7 c B (uI c J b).1 (uI c J b).2 else(J,b)
theorem G8{c:Y C}{B:Z}{J:a6}{b:aA}(s:¬(b.no=0/\cZ c b.x 93=ae)):k7 c B J b=(J,b):=by cases B with|zero=>rfl|succ B=>rw[k7,ad s]
def nh(c:Y C)(b:aA):aA:=if cZ c b.x 94 then b.step else b
def yK(b:Y C)(c:aA):aW×aA:=(jR<|if cZ b c.x 94 then(k7 b (U b+1) cF<|nh b c).1.others else(k7 b (U b+1) cF<|nh b c).1,(k7 b (U b+1) cF<|nh b c).2.step)
structure ah9(S:Y C)(A:aA)(T:a6×aA):Prop where
 len:U T.1=256
 ok:T.2.ok S
 mc:A.no=0->T.2.no=0->A.x<T.2.x
def K4{S:Y C}{J:a6}{A:aA}(e:A.ok S)(m:U J=256):ah9 S A (uI S J A):=by
 let c:=Jf e m;unfold uI uJ;split;exact⟨c.len,c.ok,c.mc⟩;let l:cZ S (jK S J A).r.x 45:=by cases b:cZ S _ 45 with|true=>rfl|false=>simp_all
 let h:=(la l).1;split;exact⟨c.len,ps c.ok,λ_ b=>cg b<|iq a2⟩;split;exact⟨c.len,ps (A:=(jK S J A).r.step) ⟨h,e.2⟩,λ_ b=>cg b<|iq a2⟩;let d:=Jf (A:=(jK S J A).r.step) ⟨h,e.2⟩ c.len;unfold G9;let f:(jK S J A).r.no=0:=by rcases zR ((jK S J A).r.no=0) with b|b;exact b;omega
 let g:A.no=0->(jK S _ _).r.no=0->A.x<(jK S (jK S J A).s (jK S J A).r.step).r.x:=λi k=>by let n:=c.mc i f;let o:=d.mc f k;let p:(jK S J A).r.step.x=(jK S J A).r.x+1:=aa;omega
 split;exact⟨d.len,ps d.ok,λ_ b=>cg b<|iq a2⟩;split;exact⟨b0 (a6.w5 ..) d.len,d.ok,g⟩;exact⟨d.len,d.ok,g⟩
def Xn{S:Y C}:∀{B:Z}{J:a6}{b:aA},b.ok S->U J=256->(k7 S B J b).2.ok S/\U (k7 S B J b).1=256|0,J,b,c,d=>⟨c,d⟩|B+1,J,b,c,d=>by rw[k7];split;have:=K4 c d;exact Xn this.ok this.len;trivial
theorem a6.aso(J:a6){b:Z}(s:b<U J):y (J.jI b) b ae=y J b ae:=by simp[a6.jI,dX,Vg,cT]
def OR(d:Y C)(c:aA)(e:Y (Z×V))(f:bS):aN:=⟨(0,b 6000)::(2,b 2)::(3,b 3)::(4,aV<|cZ d c.x 94)::e,f,[]⟩
def akI(S:Y C)(A:aA)(s:A.ok S)(aQ:A.no=0):dF 318 [b 6000] [(6000,ah 211 (dl S A))] (uO (yK S A).1) [(6000,ah 211 (dl S (yK S A).2))]:=by
 refine c4 func318 [12,115] λbC p bm=>?_;let⟨h1,fh⟩:=id s;have a3:(nh S A).ok S/\(nh S A).no=0:=by unfold nh;split;rename_i h;exact⟨⟨(la h).1,fh⟩,aQ⟩;trivial
 refine mv (b3 cF) ?_ (e5:=ba);refine pT ?_ (g:=qN S A 94 s.tT);refine gZ j3 (λH=>OR S A [] [(2,ah 169<|V.zero lS.z),(3,ah 262<|b3 cF),(6000,ah 211<|dl S<|nh S A)]) (λ_=>dW) ?_ λH e5=>?_
 .apply f<;>intro R
  .refine e7 ((A.x+1:Z):L) ?_;rw[nh,af R];exact dn ()
  rw[nh,ad R];exact dn ()
 refine c8 (a6×aA×Z) (λo=>OR S A [] [(2,ah 169<|V.zero lS.z),(3,ah 262<|b3 o.1),(6000,ah 211<|dl S o.2.1)]) (λo=>U o.1=256/\o.2.1.ok S/\(o.2.1.no=0->U S<o.2.1.x+o.2.2)/\k7 S (U S+1) cF (nh S A)=k7 S o.2.2 o.1 o.2.1) (λo=>o.2.2) (cF,nh S A,U S+1) (λ⟨J,e,B⟩ ⟨w,G,az,N⟩=>?_) ⟨gt,a3.1,λ_=>bi,aa⟩;dsimp only at w G az N⊢;have bA:=G.1;apply cL;intro bq;refine kn ?_ (g:=qN S e 93 G.tT);exact aa;apply f<;>intro X
 .have I:e.no=0/\cZ S e.x 93=ae:=by simpa[gp] using X
  have av:=I.1;have bx:=az av;have E:k7 S (U S+1) cF (nh S A)=k7 S (B-1) (uI S J e).1 (uI S J e).2:=by obtain⟨aB,rfl⟩:∃aB,B=aB+1:=⟨B-1,q⟩;rw[N,k7,af I];rfl
  have dM:=K4 (S:=S) (J:=J) G w;have e5:=Jf (S:=S) (J:=J) G w;unfold uI at E dM;refine gY ?_ (bu:=ie w);refine bG [(6000,6000)] ?_ (g:=aeR S J e G w);generalize jK S J e=H at e5 E dM⊢;let⟨m,D,d⟩:=H;let⟨F,a5,a7,ax,a9⟩:=e5;dsimp only at F a5 a7 ax a9⊢;refine kT (b3 m) ?_ (h1:=b0 (g4) F) (fh:=b0 (g4) w);apply cy;intro bs;refine kn ?_ (g:=qN S d 45 ax.tT);exact aa;apply f<;>intro aW
  .have v:uJ S e.x ⟨m,D,d⟩=(m,d):=by rw[uJ,af aq]
   rw[v] at dM;exact a4 (m,d,B-1) ⟨dM.len,dM.ok,λh=>aK,b0 E (by rw[v])⟩ bi
  have K:¬(d.no≠0\/cZ S d.x 45=ae):=by simpa[gp] using aW
  have bB:d.no=0:=pD λh=>K<|bj h;have aR:cZ S d.x 45:=by cases h:cZ S d.x 45 with|true=>rfl|false=>simp_all
  have ap:=(la aR).1;apply f<;>intro M
  .have v:uJ S e.x ⟨m,D,d⟩=(m,cw d d.x 6):=by rw[uJ,ad K,af M]
   rw[v] at dM;refine bG [(6000,6000)] ?_ (g:=r2 S d d.x 6);exact a4 (m,cw d d.x 6,B-1) ⟨dM.len,dM.ok,λh=>cg h<|iq a2,b0 E (by rw[v])⟩ bi
  refine e7 ((d.x+1:Z):L) ?_;refine fA ?_;refine e7 ((d.x+2:Z):L) ?_;apply cL;intro bt;refine kn ?_ (g:=qN S d.step 92 ⟨by show d.x+1<=100000;omega,fh⟩);exact aa;apply cL;intro bw;refine e7 ((d.x+2:Z):L) ?_;refine pq (d.x+2) ?_ (k:=q);refine ch ?_ (g:=Du EP a2);exact aa;apply f<;>intro ak
  .have v:uJ S e.x ⟨m,D,d⟩=(m,cw d.step (d.x+2:Z) 6):=by rw[uJ,ad K,ad M,af];have:=ak;simp[gp] at this;exact⟨⟨bi,this.1.2⟩,this.2⟩
   rw[v] at dM;refine e7 ((d.x+2:Z):L) ?_;refine bG [(6000,6000)] ?_ (g:=r2 S d.step (d.x+2:Z) 6);exact a4 (m,cw d.step (d.x+2:Z) 6,B-1) ⟨dM.len,dM.ok,λh=>cg h<|iq a2,b0 E (by rw[v])⟩ bi
  have P:uJ S e.x ⟨m,D,d⟩=G9 e.x D (jK S m d.step):=by rw[uJ,ad K,ad M,ad];intro h;refine ak ?_;simp[gp];have aN:d.x+2<U S:=h.1.1;exact⟨⟨q,h.1.2⟩,h.2⟩
  have aU:=Jf (S:=S) (J:=m) (A:=d.step) ⟨ap,fh⟩ F;refine gY ?_ (bu:=ie F);refine bG [(6000,6000)] ?_ (g:=aeR S m d.step ⟨ap,fh⟩ F);generalize jK S m d.step=bf at aU P⊢;let⟨u,r,t⟩:=bf;let⟨ay,a_,bb,bc,bd⟩:=aU;dsimp only at ay a_ bb bc bd⊢;obtain⟨i,a0⟩:∃i:Z,D=(i:L):=⟨aG D,q⟩;subst a0;refine kT (b3 u) ?_ (h1:=b0 (g4) ay) (fh:=b0 (g4) F);refine gZ j3 (λH=>OR S A [(6,l i),(7,an aj r)] [(2,ah 169<|V.zero lS.z),(3,ah 262<|b3 u),(6000,ah 211<|dl S<|if t.no=0/\r<(i:L) then cw t e.x 9 else t)]) (λ_=>dW) ?_ λH e5=>?_
  .refine i4 ?_;apply f<;>intro bn
   .refine bG [(6000,6000)] ?_ (g:=r2 S t e.x 9);rw[af q];exact dn ()
   rw[ad q];exact dn ()
  generalize aw:(if t.no=0/\r<(i:L) then cw t e.x 9 else t)=iy;have a1:iy.no=0->((i:Z):L)<=r+1:=λh=>by
   rcases zR (t.no=0/\r<(i:L)) with n|n;grind[cg,iq]
   (simp_all;omega)
  rw[show b3 u=b3 (u.oq i i) by rw[a6.Ev]];refine c8 Z (λc=>OR S A [(7,an aj r),(8,l c)] [(2,ah 169<|V.zero lS.z),(3,ah 262<|b3<|u.oq i c),(6000,ah 211<|dl S iy)]) (λc=>i<=c/\(iy.no≠0->c=i)/\(iy.no=0->(c:L)<=r+1)) (λc=>256-c) i (λc k=>?_) ⟨bv _,λ_=>aa,a1⟩;refine i4 ?_;apply f<;>intro T
  .have am:(c:L)<=r/\iy.no=0:=by simpa[gp] using T
   refine kR c c ?_ (kp:=by show c=0+c*1;omega);refine sX (b3<|u.oq i<|c+1) ?_ (k9:=by grind[g4,a6.PM]) (aU:=Yd (J:=u) q q);refine e7 ((c+1:Z):L) ?_;exact a4 (c+1) ⟨q,λh=>cg am.2 h,λ_=>q⟩
  have am:¬((c:L)<=r/\iy.no=0):=by simpa[gp] using T
  have Q:uJ S e.x ⟨m,(i:L),d⟩=(u.oq i c,iy):=by
   let⟨aN,bl,aP⟩:=k;rw[P,G9];by_cases aE:t.no=0/\r<(i:L);grind[a6.Ev];rw[ad aE] at aw⊢;by_cases O:t.no=0;rw[af O];have aF:iy.no=0:=by rw[<-aw];exact O
   have bg:=aP aF;have bh:c=aG r+1:=q;grind[a6.PL,Int.toNat_natCast];simp_all[ad,a6.Ev]
  rw[Q] at dM;exact a4 (u.oq i c,iy,B-1) ⟨dM.len,dM.ok,λh=>by have bk:e.x<iy.x:=dM.mc av h;(simp;omega),b0 E (by rw[Q])⟩ bi
 have I:¬(e.no=0/\cZ S e.x 93=ae):=by simpa[gp] using X
 rw[G8 I] at N;refine e7 ((e.x+1:Z):L) ?_;rw[show b3 J=b3 (J.jI 0) by rw[a6.IA]];refine gN 256 (λc=>cZ S A.x 94=ae->c=0) (λc=>⟨[(2,b 2),(3,b 3),(4,aV<|cZ S A.x 94),(9,l c)],[(2,ah 169<|V.zero lS.z),(3,ah 262<|b3<|J.jI c),(6000,ah 211<|dl S e.step)],[]⟩) (λc k=>?_) λ_=>aa;refine i4 ?_;apply f<;>intro aS
 .refine kR c c ?_ (kp:=by show c=0+c*1;omega);refine hU (aV<|y J c ae) ?_ (fi:=by grind[a6.aso,CS,a6.zl]);refine kR c c ?_ (kp:=by show c=0+c*1;omega);refine sX (b3<|J.jI<|c+1) ?_ (k9:=by grind[g4,a6.zl]) (aU:=Ye (J:=J) q aa);refine e7 ((c+1:Z):L) ?_;exact a4 (c+1) ⟨q,λh=>aq⟩
 have aY:¬((c:L)<256/\cZ S A.x 94):=by simpa[gp] using aS
 have bz:(if cZ S A.x 94 then J.others else J)=J.jI c:=by by_cases h:cZ S A.x 94;have:¬(c:L)<256:=λe=>aY ⟨e,h⟩;rw[af h,a6.ac0 (J:=J) q];simp_all[ad,a6.IA]
 have au:U (J.jI c)=256:=by rw[a6.zl];exact w
 have ar:=abu (J.jI c) au;obtain⟨aJ,aM,aH,aI,aL,aX⟩:∃B en aC aD be,jR (J.jI c)=.mk B en aC aD be:=by cases jR (J.jI c)<;>simp_all
 rw[aX] at ar;rw[show yK S A=(.mk aJ aM aH aI aL,e.step) by grind[yK]];refine gY ?_ (bu:=ie au);refine aT ?_ (g:=ar);exact iE br
def aA.mI(b c:aA):Prop:=(b.no≠0->c=b)/\(b.no=0->c.no≠0\/b.x<=c.x)
def aA.lL(b c:aA):Prop:=(b.no≠0->c=b)/\(b.no=0->c.no≠0\/b.x<c.x)
theorem aA.mI.refl(b:aA):b.mI b:=⟨λ_=>aa,λ_=>bp<|bv _⟩
def aA.lL.le{c b:aA}(s:c.lL b):c.mI b:=⟨s.1,λd=>(s.2 d).imp id wL⟩
theorem aA.mI.trans{e c n:aA}(s:e.mI c)(B:c.mI n):e.mI n:=by refine⟨λb=>?_,λb=>?_⟩;have:=s.1 b;subst this;exact B.1 b;rcases s.2 b with d|d;have:=B.1 d;simp_all;by_cases f:c.no=0;exact(B.2 f).imp id λg=>c9 d g;have:=B.1 f;simp_all
theorem aA.lL.trans{e c n:aA}(s:e.lL c)(B:c.mI n):e.lL n:=by refine⟨λb=>?_,λb=>?_⟩;have:=s.1 b;subst this;exact B.1 b;rcases s.2 b with d|d;have:=B.1 d;simp_all;by_cases f:c.no=0;exact(B.2 f).imp id λg=>jZ d g;have:=B.1 f;simp_all
def aA.mI.wD{e c n:aA}(s:e.mI c)(B:c.lL n):e.lL n:=by refine⟨λb=>?_,λb=>?_⟩;have:=s.1 b;subst this;exact B.1 b;rcases s.2 b with d|d;have:=B.1 d;simp_all;by_cases f:c.no=0;exact(B.2 f).imp id λg=>J6 d g;have:=B.1 f;simp_all
def zd{c:aA}{d b:L}(e:b≠0):c.lL (cw c d b):=by unfold cw;refine⟨λs=>ad s,λs=>bj ?_⟩;simp_all
def uY{b:aA}(s:b.no=0):b.lL b.step:=⟨λc=>cg s c,λ_=>bp<|yk _⟩
theorem qR{c:Y C}{b:aA}{n:C}(s:b.ok c):b.mI (aI c b n):=by unfold aI;split;rename_i d;exact(uY (ud s d).2.1).le;exact .refl b
def H6{c:Y C}{b:aA}{n:C}(s:b.ok c):b.lL (hj c b n):=by unfold hj;split;rename_i d;exact uY (ud s d).2.1;simp[zd]
def Sq{S:Y C}{b:aA}{c:Y C}:b.lL (jy S b c).2:=by unfold jy;split;simp[zd];exact uY (zn (S:=S) λd=>aq).2
def aqi{e:Y C}{c:aA}:c.lL (pk e c).2:=by unfold pk;split;simp[zd];rename_i b;split;exact(uY (HJ b).2).trans (zd a2).le;rename_i d;exact(uY (HJ b).2).trans (uY (HJ d).2).le
def Fs{S:Y C}{c:aA}:c.lL (eC S c).r:=by unfold eC;split;rename_i b;exact uY (K5 b).2;split;rename_i b;exact uY (Dd _ a2 b).2;split;exact(uY (zn (S:=S) λd=>aq).2).trans aqi.le;split;rename_i b;exact uY (Dd _ a2 b.2).2;simp[zd]
def R9{J:a6}{c d s:Z}{b:aA}:b.mI (oE J c d s b).2:=by unfold oE;split;exact .refl b;split;exact(zd a2).le;exact .refl b
theorem ao5{e:Y C}{J:a6}{c d s:Z}{b:aA}(f:b.ok e)(g:U J=256):(oE J c d s b).2.ok e/\U (oE J c d s b).1=256:=by grind[oE,ps,a6.w5,trans]
def aaN{f:Y C}{J:a6}{g h:Z}{b:aA}(e:b.ok f):b.mI (qO f J g h b).2:=by let c:=qR (n:=45) e;unfold qO;split;let d:=c.trans<|qR (n:=92)<|hV (n:=45) e;split;refine d.trans<|.trans ?_ R9;split;exact Fs.le.trans (zd a2).le;exact Fs.le;exact d.trans<|Sq.le.trans R9;exact c.trans R9
theorem ao4{b:Y C}{J:a6}{d e:Z}{c:aA}(f:c.ok b)(h:U J=256):(qO b J d e c).2.ok b/\U (qO b J d e c).1=256:=by let g:=hV (n:=45) f;let i:=hV (n:=92) g;grind[qO,ao5,ps,vR,BE]
def Sp{f:Y C}{J:a6}{c:aA}(d:c.ok f):c.lL (jU f J c).2:=by let b:=qR (n:=92) d;let e:=hV (n:=92) d;unfold jU;split;split;exact b.wD Fs;exact(b.wD Fs).trans<|aaN (vR e).1;exact(b.wD Sq).trans<|aaN (BE e).1
def HV{b:Y C}{J:a6}{c:aA}(d:c.ok b)(e:U J=256):(jU b J c).2.ok b/\U (jU b J c).1=256:=by let f:=hV (n:=92) d;unfold jU;grind[vR,a6.apf,trans,ao4,BE]
def Ia(c:Y C)(b:aA):Z:=if b.no=0 then U c+1-b.x else 0
def aqy{c:Y C}{b d:aA}(s:b.lL d)(e:b.no=0)(g:b.ok c):Ia c d<Ia c b:=by have:=g.1;unfold Ia;split;rcases s.2 e with f|f;omega;omega;omega
def pu:Z->Y C->a6->aA->a6×aA|0,_,J,b=>(J,b)|B+1,c,J,b=>if b.no=0/\ax (cx c b)≠93 then pu B c (jU c J b).1 (jU c J b).2 else(J,b)
def ae_{B:Z}{c:Y C}{J:a6}{b:aA}(s:¬(b.no=0/\ax (cx c b)≠93)):pu B c J b=(J,b):=by cases B with|zero=>rfl|succ B=>rw[pu,ad s]
def N7{d:Y C}:∀{B:Z}{J:a6}{b:aA},b.ok d->U J=256->(pu B d J b).2.ok d/\U (pu B d J b).1=256/\b.mI (pu B d J b).2|0,J,b,s,c=>⟨s,c,.refl b⟩|B+1,J,b,s,c=>by rw[pu];split;obtain⟨e,f,g⟩:=N7 (HV s c).1 (HV s c).2;exact⟨e,f,(Sp s).le.trans g⟩;exact⟨s,c,.refl b⟩
def qg(b:Y C)(c:aA):aW×aA:=(jR<|if fc b c 94 then(pu (U b+1) b cF<|aI b c 94).1.others else(pu (U b+1) b cF<|aI b c 94).1,hj b (pu (U b+1) b cF<|aI b c 94).2 93)
def CY(d:aW):∃B J b c e,d=.mk B J b c e:=by let⟨B,J,b,c,e⟩:=d;simp
def awi(d:Y C)(e:aA)(s:e.ok d):dF 324 [b 6000] [(6000,ah 241 (dl d e))] (uO (qg d e).1) [(6000,ah 241 (dl d (qg d e).2))]:=by
 refine c4 func324 [21] λF p v=>?_;let o:=hV (n:=94) s;refine mv (b3 cF) ?_ (e5:=ba);refine bG [(6000,6000)] ?_ (g:=r8 d e 94 s);refine c8 (a6×aA×Z) (λc=>⟨[(0,b 6000),(2,b 2),(3,b 3),(4,aV<|fc d e 94)],[(2,ah 169<|V.zero lS.z),(3,ah 263<|b3 c.1),(6000,ah 241<|dl d c.2.1)],[]⟩) (λc=>c.2.1.ok d/\U c.1=256/\pu (U d+1) d cF (aI d e 94)=pu c.2.2 d c.1 c.2.1/\Ia d c.2.1<=c.2.2) (λc=>c.2.2) (cF,aI d e 94,U d+1) (λc e5=>?_) ⟨o,gt,aa,by grind[Ia]⟩;apply cL;intro y;refine kn ?_ (g:=wd d c.2.1 e5.1);exact aa;apply f<;>intro w
 .let i:c.2.1.no=0/\ax (cx d c.2.1)≠93:=by first|omega|(omega)
  let A:=aqy (Sp (J:=c.1) e5.1) i.1 e5.1;let r:c.2.2=c.2.2-1+1:=q;refine bG [(6000,6000),(6001,3)] ?_ (g:=ao6 d c.1 c.2.1 e5.1 e5.2.1);exact a4 ((jU d c.1 c.2.1).1,(jU d c.1 c.2.1).2,c.2.2-1) ⟨(HV e5.1 e5.2.1).1,(HV e5.1 e5.2.1).2,by rw[e5.2.2.1,r,pu,af i];rfl,bi⟩ bi
 let i:¬(c.2.1.no=0/\ax (cx d c.2.1)≠93):=by first|omega|(omega)
 let m:=b0 e5.2.2.1<|ae_ i;refine bG [(6000,6000)] ?_ (g:=S0 d c.2.1 93 e5.1);refine gZ a6 (λh=>⟨[(2,b 2),(3,b 3)],[(2,ah 169<|V.zero lS.z),(3,ah 263<|b3 h),(6000,ah 241<|dl d<|hj d c.2.1 93)],[]⟩) (λh=>(qg d e).1=jR h/\U h=256) ?_ λh k=>?_
 .apply f<;>intro x
  .refine gY ?_ (bu:=ie e5.2.1);refine aT ?_ (g:=Tk c.1 e5.2.1);refine kT (b3 c.1.others) ?_ (h1:=b0 (g4)<|b0 (a6.zm _) e5.2.1) (fh:=b0 (g4) e5.2.1);exact dn c.1.others ⟨by rw[qg,m];simp_all,b0 (a6.zm _) e5.2.1⟩
  exact dn c.1 ⟨by rw[qg,m];simp_all,e5.2.1⟩
 refine gY ?_ (bu:=ie k.2);let⟨B,E,t,u,D,he⟩:=CY<|jR h;let l:=G0 h k.2;rw[he] at l;refine aT ?_ (g:=l);rw[k.1,he,show(qg d e).2=hj d c.2.1 93 by grind[qg]];exact iE br
def eU(d:Y C)(e:Z):Z->Z->aA->Z×aA|0,c,b=>(c,b)|B+1,c,b=>if 48<=ax (cx d b)/\ax (cx d b)<=57/\(b.x=e\/0<c) then eU d e B (c*10+(ax (cx d b)-48)) b.step else(c,b)
def gB(c:Y C)(b:aA)(d:Z):Z×aA:=((eU c b.x 2 0 b).1,if(eU c b.x 2 0 b).2.x=b.x then cw (eU c b.x 2 0 b).2 (eU c b.x 2 0 b).2.x 6
 else if 50<(eU c b.x 2 0 b).1\/(eU c b.x 2 0 b).1<d then cw (eU c b.x 2 0 b).2 b.x 9 else(eU c b.x 2 0 b).2)
theorem Hg{c:Y C}{b:aA}(s:48<=ax (cx c b)):b.x<U c/\b.no=0:=zn λd=>aq
def acn{d:Y C}{e:Z}:∀{B c:Z}{b:aA},b.ok d->(eU d e B c b).2.ok d/\b.mI (eU d e B c b).2/\(eU d e B c b).1<10^B*(c+1)/\b.x<=(eU d e B c b).2.x
|0,c,b,s=>⟨s,.refl b,by show c<10^0*(c+1);omega,bv _⟩|B+1,c,b,s=>by
 rw[eU];split;rename_i k;obtain⟨i,l⟩:=Hg k.1;obtain⟨f,g,h,m⟩:=acn<|aA.sY s i;refine⟨f,(uY l).le.trans g,jZ h ?_,by have:b.step.x=b.x+1:=aa;omega⟩;rw[rn,qq];exact Gz _ q;refine⟨s,.refl b,?_,bv _⟩;have:1<=10^(B+1):=Nat.one_le_pow _ _ a2
 calc c<1*(c+1):=q
  _<=_:=jo _ this
theorem It{c:Y C}{b:aA}{least:Z}(s:b.ok c):(gB c b least).2.ok c/\(gB c b least).1<100/\b.lL (gB c b least).2:=by obtain⟨h,d,f,i⟩:=acn s;let e:=f;unfold gB at e⊢;refine⟨?_,e,?_⟩;grind[ps];show aA.lL b (if _ then _ else _);split;exact d.wD<|zd a2;split;exact d.wD<|zd a2;exact⟨d.1,λg=>bp q⟩
def k6(b:Y C)(c:aA):Z×L×aA:=if fc b (gB b c 0).2 44 then
  if ax (cx b<|aI b (gB b c 0).2 44)≠125 then
   ((gB b c 0).1,((gB b (aI b (gB b c 0).2 44) (gB b c 0).1).1:Z),hj b (gB b (aI b (gB b c 0).2 44) (gB b c 0).1).2 125)
  else((gB b c 0).1, -1,hj b (aI b (gB b c 0).2 44) 125)
 else((gB b c 0).1,((gB b c 0).1:Z),hj b (aI b (gB b c 0).2 44) 125)
def acp(d:Y C){A:aA}(e:Z)(s:A.ok d):dF 329 [b 6000,l e] [(6000,ah 241 (dl d A))] (l (gB d A e).1) [(6000,ah 241 (dl d (gB d A e).2))]:=by
 refine c4 func329 [] λak p J=>?_;let T:=s.2;let M:=s.1;refine c8 (Z×aA×Z) (λc=>⟨[(0,b 6000),(1,l e),(5,l A.x),(6,l c.1)],[(6000,ah 241<|dl d c.2.1)],[]⟩) (λc=>c.2.1.ok d/\eU d A.x 2 0 A=eU d A.x c.2.2 c.1 c.2.1/\c.2.1.x+c.2.2=A.x+2/\c.2.2<=2/\c.1<100/\(c.2.2=2->c.1=0)/\(c.2.2=1->c.1<10)) (λc=>c.2.2) (0,A,2) (λc h=>?_) ⟨s,aa,aa,bv _,ahY _,λ_=>aa,λ_=>ahY _⟩;refine e7 ((A.x+2:Z):L) ?_;apply cL;intro P;refine kn ?_ (g:=wd d c.2.1 h.1);exact aa;apply cL;intro Q;refine kn ?_ (g:=wd d c.2.1 h.1);exact aa;apply cL;intro R;refine gu ?_;exact aa;apply f<;>intro w
 .let r:c.2.1.x<A.x+2/\48<=ax (cx d c.2.1)/\ax (cx d c.2.1)<=57/\(c.2.1.x=A.x\/0<c.1):=by first|omega|(simp[ts] at w;omega)
  let⟨K,n,u,v⟩:=r;let⟨t,S⟩:=Hg n;let⟨k,m,D,E,F,G,H⟩:=h;let o:c.2.2=c.2.2-1+1:=q;let U:c.1<10:=by rcases(show c.2.2=1\/c.2.2=2 by omega) with i|i;omega;omega
  let y:c.1*10+(ax (cx d c.2.1)-48)<100:=q;let I:c.2.1.step.ok d/\eU d A.x 2 0 A=eU d A.x (c.2.2-1) (c.1*10+(ax (cx d c.2.1)-48)) c.2.1.step/\c.2.1.step.x+(c.2.2-1)=A.x+2/\c.2.2-1<=2/\c.1*10+(ax (cx d c.2.1)-48)<100/\(c.2.2-1=2->c.1*10+(ax (cx d c.2.1)-48)=0)/\(c.2.2-1=1->c.1*10+(ax (cx d c.2.1)-48)<10):=⟨aA.sY k t,b0 m (by rw[o,eU,af ⟨n,u,v⟩];rfl),by show c.2.1.x+1+_=_;omega,q,y,λi=>q,λi=>q⟩;let z:IntKind.u8.wrap ((ax (cx d c.2.1):Z)-48:L)=((ax (cx d c.2.1)-48:Z):L):=by rw[IntKind.wrap_u8];omega
  refine Ih ?_;refine pT ?_ (g:=wd d c.2.1 k);refine iG ((ax (cx d c.2.1)-48:Z):L) ?_ (bu:=z) (uU:=xr q q);refine e7 ((c.1*10+(ax (cx d c.2.1)-48):Z):L) ?_;refine e7 ((c.2.1.x+1:Z):L) ?_;exact a4 (c.1*10+(ax (cx d c.2.1)-48),c.2.1.step,c.2.2-1) I bi
 let⟨k,m,D,E,F,G,H⟩:=h;let X:eU d A.x 2 0 A=(c.1,c.2.1):=b0 m (by
  rcases o:c.2.2 with _|B;rfl
  (simp[eU,ad];omega))
 apply f<;>intro N
 .rw[show gB d A e=(c.1,cw c.2.1 c.2.1.x 6) by unfold gB;grind];refine bG [(6000,6000)] ?_ (g:=y0 d c.2.1 c.2.1.x 6);exact cJ
 refine gu ?_;apply f<;>intro O
 .rw[show gB d A e=(c.1,cw c.2.1 A.x 9) by unfold gB;grind];refine bG [(6000,6000)] ?_ (g:=y0 d c.2.1 A.x 9);exact cJ
 rw[show gB d A e=(c.1,c.2.1) by unfold gB;grind];exact cJ
def aj0(c:Y C)(A:aA)(s:A.ok c):dF 285 [b 6000] [(6000,ah 241 (dl c A))] (cv [l (k6 c A).1,an aj (k6 c A).2.1]) [(6000,ah 241 (dl c (k6 c A).2.2))]:=by
 refine c4 func285 [8] λr p m=>?_;let i:=It (least:=0) s;let e:=hV (n:=44) i.1;refine bG [(6000,6000)] ?_ (g:=acp c (A:=A) 0 s);refine gZ (L×aA) (λd=>⟨[(0,b 6000),(2,l (gB c A 0).1),(3,an aj d.1)],[(6000,ah 241<|dl c d.2)],[]⟩) (λd=>k6 c A=((gB c A 0).1,d.1,hj c d.2 125)/\d.2.ok c) ?_ λd k=>?_
 .refine bG [(6000,6000)] ?_ (g:=r8 c (gB c A 0).2 44 i.1);apply f<;>intro h
  .refine pT ?_ (g:=wd c _ e);apply f<;>intro o
   .refine bG [(6000,6000)] ?_ (g:=acp c (gB c A 0).1 e);exact dn (((gB c _ (gB c A 0).1).1:Z),(gB c _ (gB c A 0).1).2) ⟨by rw[k6,af h,af q],(It (least:=(gB c A 0).1) e).1⟩
   exact dn (-1,aI c (gB c A 0).2 44) ⟨by rw[k6,af h,ad q],e⟩
  exact dn (((gB c A 0).1:Z),aI c (gB c A 0).2 44) ⟨by rw[k6,ad h],e⟩
 refine bG [(6000,6000)] ?_ (g:=S0 c d.2 125 k.2);rw[k.1];exact cJ
def ix(c:Y C)(b:aA):L×aA:=if(eU c b.x 2 0 b).2.x=b.x then(-1,(eU c b.x 2 0 b).2)
 else(((eU c b.x 2 0 b).1:Z),if 50<(eU c b.x 2 0 b).1 then cw (eU c b.x 2 0 b).2 b.x 9 else(eU c b.x 2 0 b).2)
def Iu{S:Y C}{ar:Z}:∀{B R:Z}{A:aA},A.ok S->(eU S ar B R A).2.ok S/\A.x<=(eU S ar B R A).2.x/\(eU S ar B R A).2.no=A.no
|0,R,A,s=>⟨s,bv _,aa⟩|B+1,R,A,s=>by
 rw[eU];split;rename_i d;obtain⟨e,f⟩:=Hg d.1;obtain⟨b,c,n⟩:=Iu<|aA.sY s e;exact⟨b,c9 (B6 _) c,n⟩
 (simp;omega)
def Na{c:Y C}{b:aA}(s:b.ok c):(ix c b).2.ok c/\b.x<=(ix c b).2.x/\-1<=(ix c b).1:=by let d:=Iu (ar:=b.x) (B:=2) (R:=0) s;unfold ix;grind[eU,ps,EX]
theorem tW{b:Y C}{A:aA}(c:A.no=0)(s:A.x<U b):cx b A=y b A.x 0:=by(simp[cx,af];omega)
def Nv{c:Y C}{b:aA}(s:¬b.x<U c):cx c b=0:=by(simp[cx,ad];omega)
def aco(c:Y C)(e:aA)(s:e.ok c)(F:e.no=0):dF 322 [b 6000] [(6000,ah 211 (dl c e))] (an aj (ix c e).1) [(6000,ah 211 (dl c (ix c e).2))]:=by
 refine c4 func322 [] λaE p am=>?_;let M:=s.2;let ap:=s.1;refine c8 (Z×aA×Z) (λh=>⟨[(0,b 6000),(3,l e.x),(4,l h.1)],[(6000,ah 211<|dl c h.2.1)],[]⟩) (λh=>h.2.1.ok c/\eU c e.x 2 0 e=eU c e.x h.2.2 h.1 h.2.1/\h.2.1.x+h.2.2=e.x+2/\h.2.2<=2/\h.1<100/\(h.2.2=2->h.1=0)/\(h.2.2=1->h.1+48=ax (y c e.x 0)/\h.1<10/\e.x<U c)/\h.2.1.no=0) (λh=>h.2.2) (0,e,2) (λ⟨i,d,B⟩ ⟨O,n,P,Q,R,z,S,o⟩=>?_) ⟨s,aa,aa,bv 2,q,λ_=>aa,λE=>cg E<|show¬2=1 by decide,F⟩;dsimp only at O n P Q R z S o⊢;refine fA ?_<|ap1 (by decide+kernel);apply cL;intro au;refine pq d.x ?_ (k:=q);exact aa;apply cL;intro av;refine pq d.x ?_ (k:=q);exact aa;apply cL;intro aw;refine jG ((d.x-e.x:Z):L) ?_ (s:=q);exact aa;apply cL;intro ay;apply cL;intro az;refine pq e.x ?_ (k:=q);exact aa;exact aa;apply f<;>intro G
 .let I:(((d.x<U c/\48<=ax (y c d.x 0))/\ax (y c d.x 0)<=57)/\d.x-e.x<2)/\¬(e.x<d.x/\ax (y c e.x 0)=48):=by first|omega|(simp[gp] at G;omega)
  let⟨⟨⟨⟨r,t⟩,u⟩,X⟩,ak⟩:=I;let K:=tW o r;let v:B=B-1+1:=q;let w:B=1\/B=2:=q;let H:d.x=e.x\/0<i:=by rcases w with m|m;omega;omega
  let aB:i<10:=by rcases w with m|m;omega;omega
  let J:d.step.ok c/\eU c e.x 2 0 e=eU c e.x (B-1) (i*10+(ax (y c d.x 0)-48)) d.step/\d.step.x+(B-1)=e.x+2/\B-1<=2/\i*10+(ax (y c d.x 0)-48)<100/\(B-1=2->i*10+(ax (y c d.x 0)-48)=0)/\(B-1=1->i*10+(ax (y c d.x 0)-48)+48=ax (y c e.x 0)/\i*10+(ax (y c d.x 0)-48)<10/\e.x<U c)/\d.step.no=0:=by
   let m:d.step.x=d.x+1:=aa;refine⟨⟨r,M⟩,b0 n (by rw[v,eU,K,af ⟨t,u,H⟩];rfl),q,q,q,λm=>q,λm=>?_,o⟩;let T:=z q;let A:d.x=e.x:=q;let D:y c d.x 0=y c e.x 0:=by rw[A]
   rw[D] at t u⊢;exact⟨q,q,q⟩
  let N:IntKind.u8.wrap ((ax (y c d.x 0):Z)-48:L)=((ax (y c d.x 0)-48:Z):L):=by rw[IntKind.wrap_u8];omega
  refine fA ?_;refine Br ((10*i:Z):L) ?_;refine pq d.x ?_;refine iG ((ax (y c d.x 0)-48:Z):L) ?_ (bu:=N) (uU:=xr q q);refine e7 ((i*10+(ax (y c d.x 0)-48):Z):L) ?_;refine e7 ((d.x+1:Z):L) ?_;exact a4 (i*10+(ax (y c d.x 0)-48),d.step,B-1) J bi
 let aC:eU c e.x 2 0 e=(i,d):=b0 n (by rcases v:B with _|aD;rfl;rw[eU,ad];grind[Hg,tW]);apply f<;>intro aq
 .rw[show ix c e=(-1,d) by unfold ix<;>grind];exact cJ
 apply f<;>intro ar
 .rw[show ix c e=(((i:Z):L),cw d e.x 9) by unfold ix<;>grind];refine bG [(6000,6000)] ?_ (g:=r2 c d e.x 9);exact cJ
 rw[show ix c e=(((i:Z):L),d) by unfold ix<;>grind];exact cJ
def uR(d:Y C)(c m:L)(b:aA):L×L×aA:=(c,m,(if cZ d b.x 125 then b else cw b b.x 6).step)
def zE(c:Y C)(d:L)(b:aA):L×L×aA:=if b.no=0/\cZ c b.x 44 then
  uR c d (ix c b.step).1 (if 0<=(ix c b.step).1/\(ix c b.step).1<d then cw (ix c b.step).2 (b.x+1:Z) 9 else(ix c b.step).2)
 else uR c d d b
def r_(b:Y C)(c:aA):L×L×aA:=zE b (ix b c).1 (if(ix b c).1<0 then cw (ix b c).2 (ix b c).2.x 6 else(ix b c).2)
def axT(c:Y C)(k:aA)(s:k.ok c)(A:k.no=0):dF 280 [b 6000] [(6000,ah 211 (dl c k))] (cv [an aj (r_ c k).1,an aj (r_ c k).2.1]) [(6000,ah 211 (dl c (r_ c k).2.2))]:=by
 refine c4 func280 [10,26,52] λX p K=>?_;have G:=s.2;have n:=Na s;refine bG [(6000,6000)] ?_ (g:=aco c k s A);unfold r_;generalize ix c k=l at n⊢;let⟨h,i⟩:=l;let⟨w,R,P⟩:=n;have S:=w.1;refine gZ j3 (λl=>⟨[(0,b 6000),(4,an aj h)],[(6000,ah 211<|dl c<|if h<0 then cw i i.x 6 else i)],[]⟩) (λ_=>dW) ?_ λl n=>?_
 .apply f<;>intro v
  .refine bG [(6000,6000)] ?_ (g:=r2 c i i.x 6);rw[af v];exact dn ()
  rw[ad v];exact dn ()
 generalize F:(if h<0 then cw i i.x 6 else i)=e;have r:e.ok c:=by rw[<-F];split;grind[ps];exact w
 have T:=r.1;refine gZ (L×aA) (λd=>⟨[(0,b 6000),(4,an aj h),(5,an aj d.1)],[(6000,ah 211<|dl c d.2)],[]⟩) (λd=>zE c h e=uR c h d.1 d.2/\d.2.ok c) ?_ λd aX=>?_
 .apply cL;intro O;refine kn ?_ (g:=qN c e 44 r.tT);exact aa;apply f<;>intro D
  .have u:e.no=0/\cZ c e.x 44:=by simpa[gp] using D
   have E:=(la u.2).1;have y:e.step.ok c:=⟨E,G⟩;have o:=Na y;refine e7 ((e.x+1:Z):L) ?_;refine bG [(6000,6000)] ?_ (g:=aco c e.step y u.1);generalize Q:ix c e.step=J at o⊢;let⟨m,t⟩:=J;refine i4 ?_;apply f<;>intro M
   .refine bG [(6000,6000)] ?_ (g:=r2 c t (e.x+1:Z) 9);exact dn (m,cw t (e.x+1:Z) 9) ⟨by simp_all[zE,af,gp],ps o.1⟩
   exact dn (m,t) ⟨by simp_all[zE,af,ad,gp],o.1⟩
  exact dn (h,e) ⟨by simp_all[zE,ad,gp],r⟩
 let⟨H,z⟩:=aX;have U:=z.1;rw[H];refine gZ j3 (λl=>⟨[(0,b 6000),(4,an aj h),(5,an aj d.1)],[(6000,ah 211<|dl c<|if cZ c d.2.x 125 then d.2 else cw d.2 d.2.x 6)],[]⟩) (λ_=>dW) ?_ λl n=>?_
 .refine pT ?_ (g:=qN c d.2 125 z.tT);apply f<;>intro N
  .refine bG [(6000,6000)] ?_ (g:=r2 c d.2 d.2.x 6);rw[ad q];exact dn ()
  rw[af aq];exact dn ()
 unfold uR;have B:(if cZ c d.2.x 125 then d.2 else cw d.2 d.2.x 6).x=d.2.x:=by split;rfl;simp[EX]
 generalize (if cZ c d.2.x 125 then d.2 else cw d.2 d.2.x 6)=I at B⊢;refine e7 ((I.x+1:Z):L) ?_;exact cJ
def Q1(d:X)(b c:V):V:=match d with|ag=>b|ae=>c
def a1.YB{P:bn}{p:bJ}{m:Z}{n:Code}{ak:Exit->aN->Prop}(c:V->aN)(b g:Z)(f:Y Z)(e:Y V)(d:X)(h:(c .bo).rF b g f=c (.al b []))(i:d->e=[])(s:a1 P p m n (c (.al b e)) ak):a1 P p m n (c (Q1 d .bo (.al b e))) ak:=by cases d with|false=>exact s|true=>rw[i aa] at s;exact a1.rF b g f<|h▸s
def FH:Y C:=[92,46,124,40,41,91,93,123,125,42,43,63]
def mf(d:aA->aW×aA)(c:Y C)(b:aA):aW×aA:=if kv c b.x=ae then(.mk 0 [] 0 0 [],cw b b.x 6)
 else if(ax (y c b.x 0):L)=40 then((d b.step).1,(if cZ c (d b.step).2.x 41 then(d b.step).2 else cw (d b.step).2 (d b.step).2.x 6).step)
 else if(ax (y c b.x 0):L)=91 then yK c b.step
 else if(ax (y c b.x 0):L)=46 then(.mk 3 [(0,255)] 0 0 [],b.step)
 else if(ax (y c b.x 0):L)=92 then(jR (ko c cF b.step).s,(ko c cF b.step).r)
 else if gL FH (y c b.x 0) then(.mk 0 [] 0 0 [],cw b b.x 6)
 else(.mk 3 [((ax (y c b.x 0):L),(ax (y c b.x 0):L))] 0 0 [],b.step)
def nw(c:Y C):Z->aW->aA->aW×aA
|0,d,b=>(d,b)|B+1,d,b=>
 if b.no=0 then
  if cZ c b.x 42 then nw c B (.mk 6 [] 0 (-1) [d]) b.step
  else if cZ c b.x 43 then nw c B (.mk 6 [] 1 (-1) [d]) b.step
  else if cZ c b.x 63 then nw c B (.mk 6 [] 0 1 [d]) b.step
  else if cZ c b.x 123 then nw c B (.mk 6 [] (r_ c b.step).1 (r_ c b.step).2.1 [d]) (r_ c b.step).2.2
  else(d,b)
 else(d,b)
def u9(c:aA->aW×aA)(b:Y C)(d:aA):aW×aA:=nw b (U b+2) (mf c b d).1 (mf c b d).2
def BC(c:Y C)(b:aA):Prop:=((b.no=0/\b.x<U c)/\cZ c b.x 124=ae)/\cZ c b.x 41=ae
instance(c:Y C)(b:aA):sj (BC c b):=by unfold BC;exact inferInstance
def q2(e:aA->aW×aA)(d:Y C):Z->Y aW->aA->Y aW×aA|0,c,b=>(c,b)|B+1,c,b=>if BC d b then q2 e d B (c++[(u9 e d b).1]) (u9 e d b).2 else(c,b)
def m0(c:aA->aW×aA)(b:Y C)(d:aA):aW×aA:=(oR 4 (q2 c b (U b+1) [] d).1,(q2 c b (U b+1) [] d).2)
def qA(e:aA->aW×aA)(d:Y C):Z->Y aW->aA->Y aW×aA|0,c,b=>(c,b)|B+1,c,b=>if b.no=0/\cZ d b.x 124 then qA e d B (c++[(m0 e d b.step).1]) (m0 e d b.step).2 else(c,b)
def ev(b:Y C):Z->aA->aW×aA|0,d=>(.mk 2 [] 0 0 [],d)|c+1,d=>(oR 5 (qA (ev b c) b (U b+2) [(m0 (ev b c) b d).1] (m0 (ev b c) b d).2).1,(qA (ev b c) b (U b+2) [(m0 (ev b c) b d).1] (m0 (ev b c) b d).2).2)
structure rs(S:Y C)(R:Z)(A oP:aA):Prop where
 ok:oP.no=0->oP.x<=U S/\A.x<oP.x
 k:oP.x<=U S+R+2
structure uA(S:Y C)(R:Z)(A oP:aA):Prop where
 ok:oP.no=0->oP.x<=U S/\A.x<=oP.x
 k:oP.x<=U S+R+2
def Ej(c:Y C)(d:Z)(e:aA->aW×aA):Prop:=∀b:aA,b.ok c->b.no=0->U c-b.x<d->uA c d b (e b).2
def Xm{c:Y C}:∀{B:Z}{J:a6}{b:aA},b.ok c->U J=256->b.no=0->(k7 c B J b).2.no=0->b.x<=(k7 c B J b).2.x|0,J,b,_,_,_=>λ_=>bv _|B+1,J,b,g,h,f=>by rw[k7];split;intro s;let d:=K4 g h;by_cases e:(uI c J b).2.no=0;exact c9 (wL<|d.mc f e)<|Xm d.ok d.len e s;grind[G8,cg];simp
def Qq{c:Y C}:∀{B:Z}{J:a6}{b:aA},b.ok c->U J=256->(b.no=0->U c<b.x+B)->(k7 c B J b).2.no=0->cZ c (k7 c B J b).2.x 93|0,J,b,e,_,g,s=>by have:=g s;have:=e.1;omega|B+1,J,b,e,i,g,s=>by rw[k7] at s⊢;split;rename_i f;rw[af f] at s;let d:=K4 e i;exact Qq d.ok d.len (λh=>by have:=d.mc f.1 h;omega) s;simp_all
def akG{S:Y C}{b:aA}{R:Z}(h:b.ok S)(g:b.no=0):rs S R b (yK S b).2:=by
 let c:(nh S b).ok S/\(nh S b).no=0/\b.x<=(nh S b).x:=by unfold nh;split;rename_i f;exact⟨⟨(la f).1,h.2⟩,g,B6 _⟩;simp_all
 refine⟨λe=>?_,by show(k7 S _ _ _).2.x+1<=_;have:=(Xn (S:=S) (B:=U S+1) c.1 gt).1.1;omega⟩;let d:=e;let i:=Xm c.1 gt c.2.1 d;have:=(la<|Qq c.1 gt (λ_=>q) d).1;show(k7 S _ _ _).2.x+1<=U S/\b.x<(k7 S _ _ _).2.x+1;omega
def RD{n:Prop} [sj n]{b:aA}{c d:L}:(if n then b else cw b c d).x=b.x:=by grind[EX]
def Z0{n:Prop} [sj n]{b:aA}{d c:L}(e:c≠0)(s:(if n then b else cw b d c).no=0):n/\b.no=0:=by grind[cg,iq]
def WJ{S:Y C}{R:Z}{c:aA->aW×aA}(o:Ej S R c){b:aA}(l:b.ok S)(e:b.no=0)(r:U S-b.x<R+1):rs S (R+1) b (mf c S b).2:=by
 let p:rs S (R+1) b (cw b b.x 6):=⟨λd=>cg d<|iq a2,by rw[EX];have:=l.1;omega⟩;unfold mf;split;exact p;let i:=Dx (S:=S) (z:=b.x) aq;let f:b.step.ok S:=⟨i,l.2⟩;let t:b.step.x=b.x+1:=aa;let s:rs S (R+1) b b.step:=⟨λ_=>⟨i,q⟩,q⟩;split;let h:=o b.step f e q;refine⟨λd=>?_,?_⟩;let g:=Z0 a2 (show(if cZ S (c b.step).2.x 41 then(c b.step).2 else cw (c b.step).2 (c b.step).2.x 6).no=0 from d);let m:=h.ok g.2;let n:=(la g.1).1;show(if cZ S (c b.step).2.x 41 then(c b.step).2 else cw (c b.step).2 (c b.step).2.x 6).x+1<=U S/\b.x<(if cZ S (c b.step).2.x 41 then(c b.step).2 else cw (c b.step).2 (c b.step).2.x 6).x+1;grind;show(if cZ S (c b.step).2.x 41 then(c b.step).2 else cw (c b.step).2 (c b.step).2.x 6).x+1<=_;rw[RD];have:=h.k;omega;split;have:=akG (R:=R+1) f e;exact⟨λd=>by have:=this.ok d;omega,this.k⟩;split;omega;split;have:=LG (S:=S) (J:=cF) f gt;refine⟨λd=>?_,by have:=this.ok.1;(simp;omega)⟩;let m:=this.mc e d;let n:=this.ok.1
 (simp;omega)
 grind
def agk{b:Y C}{A:aA}{R:Z}(h:A.ok b):uA b R A (r_ b A).2.2:=by
 have p:=Na h;have o:∀{e f:L}{c:aA},c.ok b->A.x<=c.x->uA b R A (uR b e f c).2.2:=λ{e f c} l s=>by refine⟨λg=>?_,?_⟩;have i:=Z0 a2 (show(if cZ b _ 125 then c else cw c _ 6).no=0 from g);have:=(la i.1).1;show(if cZ b _ 125 then c else cw c _ 6).x+1<=U b/\A.x<=(if cZ b _ 125 then c else cw c _ 6).x+1;grind;show(if cZ b _ 125 then c else cw c _ 6).x+1<=_;rw[RD];have:=l.1;omega
 have m:(if(ix b A).1<0 then cw (ix b A).2 (ix b A).2.x 6 else(ix b A).2).ok b/\A.x<=(if(ix b A).1<0 then cw (ix b A).2 (ix b A).2.x 6 else(ix b A).2).x:=by split;grind[ps,EX];simp_all
 unfold r_ zE;generalize (if(ix b A).1<0 then cw _ _ 6 else(ix b A).2)=d at m⊢;split;rename_i k;have n:d.step.ok b:=⟨(la k.2).1,h.2⟩;have r:=Na n;have g:d.step.x=d.x+1:=aa;grind[ps,EX];simp_all
def IS{d:Y C}{R:Z}{f:aA}(e:U d<=2000):∀{B:Z}{b:aW}{A:aA},rs d R f A->rs d R f (nw d B b A).2
|0,b,A,s=>s|B+1,b,A,s=>by rw[nw];let o:∀{n:C},A.no=0->cZ d A.x n->rs d R f A.step:=λ{n} b c=>⟨λ_=>by have:=(la c).1;have:=s.ok b;let g:A.step.x=A.x+1:=aa;omega,by have:=(la c).1;let g:A.step.x=A.x+1:=aa;omega⟩;split;rename_i i;split;rename_i c;exact IS e aK;split;rename_i c;exact IS e aK;split;rename_i c;exact IS e aK;split;rename_i c;let h:=agk (R:=R) (A:=A.step) ⟨(la c).1,e⟩;refine IS e ⟨λb=>?_,h.k⟩;let l:=h.ok b;let m:=s.ok i;let g:A.step.x=A.x+1:=aa;omega;omega;omega
def adz{c:Y C}{d:Z}{e:aA->aW×aA}(h:Ej c d e){b:aA}(f:b.ok c)(g:b.no=0)(i:U c-b.x<d+1):rs c (d+1) b (u9 e c b).2:=IS f.2<|WJ h f g i
def adr{b:Y C}{e:Z}{d:aA->aW×aA}(i:Ej b e d){f:aA}(l:U b<=2000)(p:U b-f.x<e+1):∀{B:Z}{H:Y aW}{c:aA},uA b (e+1) f c->uA b (e+1) f (q2 d b B H c).2/\U (q2 d b B H c).1<=U H+B
|0,H,c,s=>⟨s,bv _⟩|B+1,H,c,s=>by
 rw[q2];split;rename_i n;let g:=n.1.1.1;let o:=s.ok g;let h:=adz i ⟨o.1,l⟩ g q;let⟨r,t⟩:=adr i l p (B:=B) (H:=H++[(u9 d b c).1]) ⟨λm=>by have:=h.ok m;omega,h.k⟩
 (simp_all;omega)
 (simp;omega)
def Nu{b:Y C}{d:Z}{e:aA->aW×aA}(f:Ej b d e){A:aA}(c:A.ok b)(g:U b-A.x<d+1):uA b (d+1) A (m0 e b A).2:=(adr f c.2 g ⟨λ_=>⟨c.1,bv _⟩,by have:=c.1;omega⟩).1
def Ws{b:Y C}{d:Z}{c:aA->aW×aA}(h:Ej b d c){e:aA}(i:U b<=2000)(m:U b-e.x<d+1):∀{B:Z}{H:Y aW}{A:aA},uA b (d+1) e A->uA b (d+1) e (qA c b B H A).2/\U (qA c b B H A).1<=U H+B
|0,H,A,s=>⟨s,bv _⟩|B+1,H,A,s=>by
 rw[qA];split;rename_i f;let o:=s.ok f.1;let n:A.step.x=A.x+1:=aa;let g:=Nu h (A:=A.step) ⟨(la f.2).1,i⟩ q;let⟨p,r⟩:=Ws h i m (B:=B) (H:=H++[(m0 c b A.step).1]) ⟨λl=>by have:=g.ok l;omega,g.k⟩
 (simp_all;omega)
 (simp;omega)
def Cv{S:Y C}:∀c,Ej S c (ev S c)|0,f,_,_,b=>cg b q|c+1,f,d,g,b=>by let e:=Cv (S:=S) c;exact(Ws e d.2 b<|Nu e d b).1
def GI(d:Y C)(e:Z):Prop:=∀c:aA,c.ok d->c.no=0->U d-c.x<e->dF 124 [b 6000] [(6000,ah 211<|dl d c)] (cW (ev d e c).1) [(6000,ah 211<|dl d (ev d e c).2)]
def ajo(S:Y C)(d:Z)(Q:d<=10000)(F:GI S d)(c:aA)(s:c.ok S)(m:c.no=0)(R:U S-c.x<d+1):dF 279 [b 6000] [(6000,ah 211 (dl S c))] (cW (mf (ev S d) S c).1) [(6000,ah 211 (dl S (mf (ev S d) S c).2))]:=by
 refine c4 func279 [39] λT p H=>?_;have o:=s.2;have I:=s.1;refine pT ?_ (g:=TG S c s.tT);apply f<;>intro B
 .rw[show mf (ev S d) S c=(.mk 0 [] 0 0 [],cw c c.x 6) by simp_all[mf,af]];refine bG [(6000,6000)] ?_ (g:=r2 S c c.x 6);exact fQ 2 2 [1] (fQ 5 2 [4] (iE br))
 have D:¬kv S c.x=ae:=by simpa using B
 have w:=Dx (S:=S) (z:=c.x) aq;have i:c.step.ok S:=⟨w,o⟩;refine fA ?_;refine pq c.x ?_;apply f<;>intro A
 .have h:=F c.step i m (by have l:c.step.x=c.x+1:=aa;omega);have u:=Cv d c.step i m (by have l:c.step.x=c.x+1:=aa;omega);rw[show mf (ev S d) S c=((ev S d c.step).1,(if cZ S (ev S d c.step).2.x 41 then(ev S d c.step).2 else cw (ev S d c.step).2 (ev S d c.step).2.x 6).step) by rw[mf,ad D,af A]];refine e7 ((c.x+1:Z):L) ?_;refine bG [(6000,6000)] ?_ (g:=h);generalize ev S d c.step=t at u⊢;let⟨l,e⟩:=t;have E:=u.k;dsimp only at E⊢;refine gZ j3 (λt=>⟨[(0,b 6000),(2,b 2),(4,b 4)],[(2,ah 169<|V.zero lS.z),(4,ah 169<|cW l),(6000,ah 211<|dl S<|if cZ S e.x 41 then e else cw e e.x 6)],[]⟩) (λ_=>dW) ?_ λt e5=>?_
  .refine pT ?_ (g:=qN S e 41 ⟨q,o⟩);apply f<;>intro K
   .refine bG [(6000,6000)] ?_ (g:=r2 S e e.x 6);rw[ad q];exact dn ()
   rw[af aq];exact dn ()
  have v:(if cZ S e.x 41 then e else cw e e.x 6).x=e.x:=RD;generalize (if cZ S e.x 41 then e else cw e e.x 6)=G at v⊢;refine e7 ((G.x+1:Z):L) ?_;exact iE br
 apply f<;>intro M
 .have h:=akI S c.step i m;rw[xi] at h;rw[show mf (ev S d) S c=yK S c.step by simp_all[mf,ad,af]];refine e7 ((c.x+1:Z):L) ?_;refine bG [(6000,6000)] ?_ (g:=h);exact iE br
 apply f<;>intro N
 .rw[show mf (ev S d) S c=(.mk 3 [(0,255)] 0 0 [],c.step) by simp_all[mf,ad,af]];refine e7 ((c.x+1:Z):L) ?_;refine cp ?_;exact fQ 5 2 [4] (iE br)
 apply f<;>intro O
 .have n:=LG (S:=S) (J:=cF) i gt;have h:=abu (ko S cF c.step).s n.len;rw[xi] at h;rw[show mf (ev S d) S c=(jR (ko S cF c.step).s,(ko S cF c.step).r) by simp_all[mf,ad,af]];refine mv (b3 cF) ?_ (e5:=ba);refine e7 ((c.x+1:Z):L) ?_;refine gY ?_ (bu:=ie gt);refine bG [(6000,6000)] ?_ (g:=aeD S cF c.step ⟨by show c.x+1<=100000;omega,o⟩ gt);refine kT (b3 (ko S cF c.step).s) ?_ (h1:=b0 (g4) n.len) (fh:=ji);refine gY ?_ (bu:=ie n.len);refine aT ?_ (g:=h);exact iE br
 refine aT ?_ (g:=Du FH a2);apply f<;>intro P
 .rw[show mf (ev S d) S c=(.mk 0 [] 0 0 [],cw c c.x 6) by simp_all[mf,ad,af]];refine bG [(6000,6000)] ?_ (g:=r2 S c c.x 6);exact fQ 2 2 [1] (fQ 5 2 [4] (iE br))
 rw[show mf (ev S d) S c=(.mk 3 [((ax (y S c.x 0):L),(ax (y S c.x 0):L))] 0 0 [],c.step) by simp_all[mf,ad]];refine e7 ((c.x+1:Z):L) ?_
 iterate 2 refine iG (ax (y S c.x 0):Z) ?_ (uU:=Gd)
 refine cp ?_;exact fQ 5 2 [4] (iE br)
def aey{d:Y C}{B:Z}{c:aW}{b:aA}(s:¬b.no=0):nw d B c b=(c,b):=by cases B with|zero=>rfl|succ B=>rw[nw,ad s]
structure VV(S:Y C)(R:Z)(A oP:aA)(k:Z):Prop where
 lim:rs S (R+1) A oP
 k:oP.no=0->U S<oP.x+k
def atr(S:Y C)(R:Z)(aC:R<=10000)(aI:GI S R)(d:aA)(s:d.ok S)(Q:d.no=0)(am:U S-d.x<R+1):dF 225 [b 6000] [(6000,ah 211 (dl S d))] (cW (u9 (ev S R) S d).1) [(6000,ah 211 (dl S (u9 (ev S R) S d).2))]:=by
 refine c4 func225 [2002] λa0 p aS=>?_;have ar:=s.2;have aT:=s.1;have O:=WJ (Cv (S:=S) R) s Q am;refine bG [(6000,6000)] ?_ (g:=ajo S R aC aI d s Q am);generalize E:u9 (ev S R) S d=H;unfold u9 at E;generalize mf (ev S R) S d=aR at O E⊢;let⟨⟨aK,aM,fq,aw,bP⟩,aL⟩:=aR;dsimp only at O E⊢;refine c8 (aW×aA×Z×X) (λe=>⟨[(0,b 6000),(2,b 2),(3,b 3)],[(2,ah 169<|V.zero lS.z),(3,ah 169<|b2 [an aj e.1.c0,Q1 e.2.2.2 .bo<|.al 2<|e.1.set.map hs,an aj e.1.min,an aj e.1.max,.al 5<|hh e.1.a3]),(6000,ah 211<|dl S e.2.1)],[]⟩) (λe=>VV S R d e.2.1 e.2.2.1/\nw S e.2.2.1 e.1 e.2.1=H/\(e.2.2.2=ag->e.1.set=[])) (λe=>e.2.2.1) (.mk aK aM fq aw bP,aL,U S+2,ae) (λ⟨⟨m,r,i,l,o⟩,c,B,ew⟩ ⟨⟨N,ak⟩,G,aJ⟩=>?_) ⟨⟨O,λv=>bi⟩,E,λh=>by cases h⟩;dsimp only[aW.c0,aW.set,aW.min,aW.max,aW.a3] at N ak G aJ⊢;have aU:=N.k;refine a1.YB (λav=>⟨[(0,b 6000),(2,b 2),(3,b 3)],[(2,ah 169<|V.zero lS.z),(3,ah 169<|b2 [an aj m,av,an aj i,an aj l,.al 5<|hh o]),(6000,ah 211<|dl S c)],[]⟩) 2 3 [1] (ab hs r) ew aa (λh=>aq) ?_;refine dA ?_;apply f<;>intro w
 .have aD:=N.ok w;have aX:=ak w;have F:c.ok S:=⟨aD.1,ar⟩;have aB:nw S B (.mk m r i l o) c=(if cZ S c.x 42 then nw S (B-1) (.mk 6 [] 0 (-1) [.mk m r i l o]) c.step
    else if cZ S c.x 43 then nw S (B-1) (.mk 6 [] 1 (-1) [.mk m r i l o]) c.step
    else if cZ S c.x 63 then nw S (B-1) (.mk 6 [] 0 1 [.mk m r i l o]) c.step
    else if cZ S c.x 123 then nw S (B-1) (.mk 6 [] (r_ S c.step).1 (r_ S c.step).2.1 [.mk m r i l o]) (r_ S c.step).2.2
    else(.mk m r i l o,c)):=by obtain⟨au,rfl⟩:∃au,B=au+1:=⟨B-1,q⟩;rw[nw,af w];rfl
  have u:∀{n:C},cZ S c.x n->rs S (R+1) d c.step/\c.x<c.step.x:=λ{n} h=>by have:=(la h).1;have ax:c.step.x=c.x+1:=aa;exact⟨⟨λ_=>q,q⟩,q⟩
  have D:∀(t:aA)(I:aW),rs S (R+1) d t/\(t.no=0->c.x<t.x)->nw S B (.mk m r i l o) c=nw S (B-1) I t->VV S R d t (B-1)/\nw S (B-1) I t=H:=λt I ay az=>⟨⟨ay.1,λv=>q⟩,az▸G⟩;refine pT ?_ (g:=qN S c 42 F.tT);apply f<;>intro J
  .have aE:rs S (R+1) d c.step/\(c.step.no=0->c.x<c.step.x):=⟨(u J).1,λ_=>(u J).2⟩;refine e7 ((c.x+1:Z):L) ?_;refine cp ?_;exact a4 (.mk 6 [] 0 (-1) [.mk m r i l o],c.step,B-1,ag) (have h:=D c.step _ aE aq;⟨h.1,h.2,λ_=>aa⟩) bi
  refine pT ?_ (g:=qN S c 43 F.tT);apply f<;>intro K
  .have aF:rs S (R+1) d c.step/\(c.step.no=0->c.x<c.step.x):=⟨(u K).1,λ_=>(u K).2⟩;refine e7 ((c.x+1:Z):L) ?_;refine cp ?_;exact a4 (.mk 6 [] 1 (-1) [.mk m r i l o],c.step,B-1,ag) (have h:=D c.step _ aF aq;⟨h.1,h.2,λ_=>aa⟩) bi
  refine pT ?_ (g:=qN S c 63 F.tT);apply f<;>intro M
  .have aG:rs S (R+1) d c.step/\(c.step.no=0->c.x<c.step.x):=⟨(u M).1,λ_=>(u M).2⟩;refine e7 ((c.x+1:Z):L) ?_;refine cp ?_;exact a4 (.mk 6 [] 0 1 [.mk m r i l o],c.step,B-1,ag) (have h:=D c.step _ aG aq;⟨h.1,h.2,λ_=>aa⟩) bi
  refine pT ?_ (g:=qN S c 123 F.tT);apply f<;>intro T
  .have ap:c.step.ok S:=⟨(la T).1,ar⟩;have y:=agk (R:=R+1) ap;refine e7 ((c.x+1:Z):L) ?_;refine bG [(6000,6000)] ?_ (g:=axT S c.step ap w);generalize aY:r_ S c.step=aQ at y⊢;let⟨aP,aN,A⟩:=aQ;have aH:rs S (R+1) d A/\(A.no=0->c.x<A.x):=by have ax:c.step.x=c.x+1:=aa;exact⟨⟨λv=>by have:=y.ok v;(simp_all;omega),y.k⟩,λv=>by have:=y.ok v;(simp_all;omega)⟩
   dsimp only at y⊢;refine cp ?_;exact a4 (.mk 6 [] aP aN [.mk m r i l o],A,B-1,ag) (have h:=D A _ aH aq;⟨h.1,h.2,λ_=>aa⟩) bi
  have P:H=(.mk m r i l o,c):=by rw[<-G,aB,ad J,ad K,ad M,ad T]
  rw[P];exact iE br
 have P:H=(.mk m r i l o,c):=by rw[<-G,aey w]
 rw[P];exact iE br
def adq{e:aA->aW×aA}{d:Y C}{B:Z}{c:Y aW}{b:aA}(s:¬BC d b):q2 e d B c b=(c,b):=by cases B with|zero=>rfl|succ B=>rw[q2,ad s]
def Wr{e:aA->aW×aA}{d:Y C}{B:Z}{c:Y aW}{b:aA}(s:¬(b.no=0/\cZ d b.x 124)):qA e d B c b=(c,b):=by cases B with|zero=>rfl|succ B=>rw[qA,ad s]
def Yh(c:Y aW)(b:aW):hh c++[cW b]=hh (c++[b]):=by simp[CT,dc,xi]
def ads(S:Y C)(c:Z)(L:c<=10000)(O:GI S c)(i:aA)(s:i.ok S)(R:i.no=0)(ar:U S-i.x<c+1):dF 168 [b 6000] [(6000,ah 211 (dl S i))] (cW (m0 (ev S c) S i).1) [(6000,ah 211 (dl S (m0 (ev S c) S i).2))]:=by
 refine c4 func168 [] λaw p T=>?_;have u:=s.2;have X:=s.1;generalize o:q2 (ev S c) S (U S+1) [] i=P;refine a1.eK 3 5 169 [3] ai ?_;refine c8 (Y aW×aA×Z) (λd=>⟨[(0,b 6000),(2,b 2),(3,.a 3 0<|U<|hh d.1)],[(2,ah 169<|V.zero lS.z),(3,.j 5 169<|hh d.1),(6000,ah 211<|dl S d.2.1)],[]⟩) (λd=>uA S (c+1) i d.2.1/\q2 (ev S c) S d.2.2 d.1 d.2.1=P/\(d.2.1.no=0->U S<d.2.1.x+d.2.2)/\U d.1+d.2.2<=U S+1) (λd=>d.2.2) ([],i,U S+1) (λ⟨e,h,B⟩ ⟨bl,m,E,K⟩=>?_) ⟨⟨λ_=>⟨s.1,bv _⟩,bi⟩,o,λ_=>bi,ao⟩;dsimp only at bl m E K⊢;have au:=bl.k;refine fA ?_;refine i4 ?_;apply cL;intro ak;refine kn ?_ (g:=qN S h 124 ⟨q,u⟩);exact aa;apply cL;intro am;refine kn ?_ (g:=qN S h 41 ⟨q,u⟩);exact aa;apply f<;>intro w
 .have F:BC S h:=by have:=w;simp[gp] at this;exact⟨⟨⟨this.1.1.1,q⟩,this.1.2⟩,this.2⟩
  have r:=F.1.1.1;have N:=bl.ok r;have G:h.ok S:=⟨N.1,u⟩;have ap:=E r;have l:=adz (Cv (S:=S) c) G r q;have v:q2 (ev S c) S B e h=q2 (ev S c) S (B-1) (e++[(u9 (ev S c) S h).1]) (u9 (ev S c) S h).2:=by obtain⟨H,rfl⟩:∃H,B=H+1:=⟨B-1,q⟩;rw[q2,af F];rfl
  refine bG [(6000,6000)] ?_ (g:=atr S c L O h G r q);generalize u9 (ev S c) S h=Q at l v⊢;let⟨t,I⟩:=Q;dsimp only at l v⊢;have J:uA S (c+1) i I:=⟨λn=>by have:=l.ok n;omega,l.k⟩;refine cp ?_;refine eB (hh<|e++[t]) ?_ (aU:=Yh e t) (bl:=Po);exact a4 (e++[t],I,B-1) ⟨J,aq,λn=>by have:=l.ok n;(simp;omega),bi⟩ bi
 have M:¬BC S h:=λn=>w (by simp[gp];trivial);rw[adq M] at m;apply f<;>intro A
 .rw[io] at A;rw[show m0 (ev S c) S i=(.mk 2 [] 0 0 [],h) by rw[m0,o,<-m,oR,af<|show U e=0 by omega]];exact fQ 2 2 [1] (fQ 5 2 [4] (iE br))
 rw[io] at A;apply f<;>intro D
 .rw[io] at D;rw[show m0 (ev S c) S i=(y e 0 av,h) by rw[m0,o,<-m,oR,ad<|show¬U e=0 by omega,af (show U e=1 by omega)]<;>grind];refine cE 0 ?_ (bu:=ba) (k:=by grind[io]);refine fl (cW<|y e 0 av) ?_ (k:=ly q);exact iE br
 rw[io] at D;rw[show m0 (ev S c) S i=(.mk 4 [] 0 0 e,h) by rw[m0,o,<-m,oR,ad<|show¬U e=0 by omega,ad (show¬U e=1 by omega)]];exact gq 3<|fQ 2 2 [1] (iE br)
def ai2(S:Y C)(c:Z)(F:c<=10000)(M:GI S c)(i:aA)(s:i.ok S)(T:i.no=0)(G:U S-i.x<c+1):dF 124 [b 6000] [(6000,ah 211 (dl S i))] (cW (ev S (c+1) i).1) [(6000,ah 211 (dl S (ev S (c+1) i).2))]:=by
 refine c4 func124 [] λaE p ax=>?_;have K:=s.2;have ay:=s.1;have H:=Nu (Cv (S:=S) c) s G;generalize l:ev S (c+1) i=v;rw[ev] at l;refine bG [(6000,6000)] ?_ (g:=ads S c F M i s T G);generalize m0 (ev S c) S i=u at H l⊢;let⟨⟨O,R,fq,w,bP⟩,P⟩:=u;generalize au:qA (ev S c) S (U S+2) [.mk O R fq w bP] P=aw at l;refine n0 ?_;refine c8 (Y aW×aA×Z) (λe=>⟨[(0,b 6000),(2,b 2),(3,.a 6 0<|U<|hh e.1)],[(2,ah 169<|V.zero lS.z),(6,.j 5 169<|hh e.1),(6000,ah 211<|dl S e.2.1)],[]⟩) (λe=>uA S (c+1) i e.2.1/\qA (ev S c) S e.2.2 e.1 e.2.1=aw/\(e.2.1.no=0->U S<e.2.1.x+e.2.2)/\U e.1+e.2.2<=U S+3/\0<U e.1) (λe=>e.2.2) ([.mk O R fq w bP],P,U S+2) (λ⟨h,d,B⟩ ⟨bl,t,ak,ap,am⟩=>?_) ⟨H,au,λ_=>bi,bi,ao⟩;dsimp only at bl t ak ap am⊢;have aB:=bl.k;apply cL;intro az;refine kn ?_ (g:=qN S d 124 ⟨q,K⟩);exact aa;apply f<;>intro D
 .have r:d.no=0/\cZ S d.x 124:=by simpa[gp] using D
  have I:=r.1;have aC:=bl.ok I;have J:d.step.ok S:=⟨(la r.2).1,K⟩;have aD:d.step.x=d.x+1:=aa;have m:=Nu (Cv (S:=S) c) J q;have A:qA (ev S c) S B h d=qA (ev S c) S (B-1) (h++[(m0 (ev S c) S d.step).1]) (m0 (ev S c) S d.step).2:=by obtain⟨N,rfl⟩:∃N,B=N+1:=⟨B-1,q⟩;rw[qA,af r];rfl
  refine e7 ((d.x+1:Z):L) ?_;refine bG [(6000,6000)] ?_ (g:=ads S c F M d.step J I q);generalize m0 (ev S c) S d.step=u at m A⊢;let⟨n,Q⟩:=u;dsimp only at m A⊢;have X:uA S (c+1) i Q:=⟨λo=>by have:=m.ok o;omega,m.k⟩;refine cp ?_;refine eB (hh<|h++[n]) ?_ (aU:=Yh h n) (bl:=Po);exact a4 (h++[n],Q,B-1) ⟨X,aq,λo=>by have:=m.ok o;(simp;omega),bi,ao⟩ bi
 have ar:¬(d.no=0/\cZ S d.x 124):=by simpa[gp] using D
 rw[Wr ar] at t;rw[<-t] at l;apply f<;>intro E
 .rw[io] at E;rw[show v=(y h 0 av,d) by rw[<-l,oR,ad<|show¬U h=0 by omega,af (show U h=1 by omega)]<;>simp_all];refine cE 0 ?_ (bu:=ba) (k:=by grind[io]);refine fl (cW<|y h 0 av) ?_ (k:=ly q);exact iE br
 rw[io] at E;rw[show v=(.mk 5 [] 0 0 h,d) by rw[<-l,oR,ad<|show¬U h=0 by omega,ad (show¬U h=1 by omega)]];exact gq 6<|fQ 2 2 [1] (iE br)
def Wt(c:Y C):∀b,b<=10000->GI c b|0,_=>λe _ _ d=>cg d q|b+1,d=>λe h f g=>ai2 c b q (Wt c b q) e h f g
def rZ:Y C:=[92,46,124,40,41,91,93,123,125,42,43,63]
def jd(e:aA->aW×aA)(b:Y C)(d:aA):aW×aA:=if fc b d 40 then((e<|aI b d 40).1,hj b (e<|aI b d 40).2 41)
 else if fc b (aI b d 40) 91 then qg b (aI b (aI b d 40) 91)
 else if fc b (aI b (aI b d 40) 91) 46 then(jR cF.others,aI b (aI b (aI b d 40) 91) 46)
 else if fc b (aI b (aI b (aI b d 40) 91) 46) 92 then
  if(eC b<|aI b (aI b (aI b (aI b d 40) 91) 46) 92).many then(jR (eC b<|aI b (aI b (aI b (aI b d 40) 91) 46) 92).s,(eC b<|aI b (aI b (aI b (aI b d 40) 91) 46) 92).r)
  else(jR<|cF.add (eC b<|aI b (aI b (aI b (aI b d 40) 91) 46) 92).c (eC b<|aI b (aI b (aI b (aI b d 40) 91) 46) 92).c,(eC b<|aI b (aI b (aI b (aI b d 40) 91) 46) 92).r)
 else(jR<|cF.add (jy b (aI b (aI b (aI b (aI b d 40) 91) 46) 92) rZ).1 (jy b (aI b (aI b (aI b (aI b d 40) 91) 46) 92) rZ).1,(jy b (aI b (aI b (aI b (aI b d 40) 91) 46) 92) rZ).2)
def mx(b:Y C):Z->aW->aA->aW×aA
|0,d,c=>(d,c)|B+1,d,c=>
 if fc b c 42 then mx b B (.mk 6 [] 0 (-1) [d]) (aI b c 42)
 else if fc b (aI b c 42) 43 then mx b B (.mk 6 [] 1 (-1) [d]) (aI b (aI b c 42) 43)
 else if fc b (aI b (aI b c 42) 43) 63 then mx b B (.mk 6 [] 0 1 [d]) (aI b (aI b (aI b c 42) 43) 63)
 else if fc b (aI b (aI b (aI b c 42) 43) 63) 123 then
  mx b B (.mk 6 [] ((k6 b<|aI b (aI b (aI b (aI b c 42) 43) 63) 123).1:Z) (k6 b<|aI b (aI b (aI b (aI b c 42) 43) 63) 123).2.1 [d]) (k6 b<|aI b (aI b (aI b (aI b c 42) 43) 63) 123).2.2
 else(d,aI b (aI b (aI b (aI b c 42) 43) 63) 123)
def m1(c:aA->aW×aA)(b:Y C)(d:aA):aW×aA:=mx b (U b+2) (jd c b d).1 (jd c b d).2
def xO(c:Y C)(b:aA):Prop:=((b.no=0/\b.x<U c)/\ax (cx c b)≠124)/\ax (cx c b)≠41
instance(c:Y C)(b:aA):sj (xO c b):=by unfold xO;exact inferInstance
def ku(e:aA->aW×aA)(d:Y C):Z->Y aW->aA->Y aW×aA|0,c,b=>(c,b)|B+1,c,b=>if xO d b then ku e d B (c++[(m1 e d b).1]) (m1 e d b).2 else(c,b)
def jJ(c:aA->aW×aA)(b:Y C)(d:aA):aW×aA:=(oR 4 (ku c b (U b+1) [] d).1,(ku c b (U b+1) [] d).2)
def j6(e:aA->aW×aA)(b:Y C):Z->Y aW->aA->Y aW×aA|0,d,c=>(d,c)|B+1,d,c=>if fc b c 124 then j6 e b B (d++[(jJ e b<|aI b c 124).1]) (jJ e b<|aI b c 124).2 else(d,aI b c 124)
def ek(b:Y C):Z->aA->aW×aA|0,d=>(.mk 2 [] 0 0 [],d)|c+1,d=>(oR 5 (j6 (ek b c) b (U b+2) [(jJ (ek b c) b d).1] (jJ (ek b c) b d).2).1,(j6 (ek b c) b (U b+2) [(jJ (ek b c) b d).1] (jJ (ek b c) b d).2).2)
def abe{c:Y C}{b:aA}{n:C}(s:b.ok c)(d:fc c b n):b.lL (aI c b n):=by unfold aI;rw[af d];exact uY (ud s d).2.1
def jM{c:Y C}{b:aA}{n:C}(s:¬fc c b n):aI c b n=b:=by simp_all[aI,ad]
def KY{c:Y C}{d:aA}(s:d.ok c):(k6 c d).2.2.ok c/\d.lL (k6 c d).2.2:=by have e:=It (least:=0) s;unfold k6;generalize gB c d 0=h at e⊢;have b:=hV (n:=44) e.1;have f:=e.2.2.trans<|qR (n:=44) e.1;generalize aI c h.2 44=i at b f⊢;have g:=It (least:=h.1) b;split;split;exact⟨Ix g.1,(f.trans g.2.2.le).trans (H6 g.1).le⟩;exact⟨Ix b,f.trans (H6 b).le⟩;exact⟨Ix b,f.trans (H6 b).le⟩
def ae7{c:Y C}{b:aA}(s:b.ok c):(qg c b).2.ok c/\b.lL (qg c b).2:=by obtain⟨d,_,e⟩:=N7 (hV (n:=94) s) gt;exact⟨Ix d,((qR s).trans e).wD<|H6 d⟩
def qv(c:Y C)(e:Z)(d:aA->aW×aA):Prop:=∀b:aA,b.ok c->U c-b.x<e->(d b).2.ok c/\b.mI (d b).2
def GX{c:Y C}{o:Z}{f:aA->aW×aA}(r:qv c o f){b:aA}(s:b.ok c)(v:U c-b.x<o+1):(jd f c b).2.ok c/\b.lL (jd f c b).2:=by
 let g:=hV (n:=40) s;let e:=hV (n:=91) g;let k:=(qR (n:=40) s).trans<|qR (n:=91) g;let h:=hV (n:=46) e;let i:=hV (n:=92) h;let l:=(k.trans<|qR (n:=46) e).trans<|qR (n:=92) h;unfold jd;split;rename_i d;let u:=(ud s d).1;let t:(aI c b 40).x=b.x+1:=by unfold aI;rw[af d];rfl
 let⟨m,p⟩:=r (aI c b 40) g q;exact⟨Ix m,((abe s d).trans p).trans (H6 m).le⟩;split;exact⟨(ae7 e).1,k.wD (ae7 e).2⟩;split;rename_i d;exact⟨h,k.wD<|abe e d⟩;split;split;exact⟨(vR i).1,l.wD Fs⟩;exact⟨(vR i).1,l.wD Fs⟩;exact⟨(BE i).1,l.wD Sq⟩
def xZ{g:Y C}:∀{B:Z}{c:aW}{b:aA},b.ok g->(mx g B c b).2.ok g/\b.mI (mx g B c b).2|0,c,b,s=>⟨s,.refl b⟩|B+1,c,b,s=>by let d:=hV (n:=42) s;let i:=qR (n:=42) s;let e:=hV (n:=43) d;let k:=i.trans<|qR (n:=43) d;let f:=hV (n:=63) e;let l:=k.trans<|qR (n:=63) e;let m:=hV (n:=123) f;let o:=l.trans<|qR (n:=123) f;let h:=KY m;rw[mx];split;exact⟨(xZ d).1,i.trans (xZ d).2⟩;split;exact⟨(xZ e).1,k.trans (xZ e).2⟩;split;exact⟨(xZ f).1,l.trans (xZ f).2⟩;split;exact⟨(xZ h.1).1,(o.trans h.2.le).trans (xZ h.1).2⟩;simp_all
def NB{b:Y C}{f:Z}{d:aA->aW×aA}(h:qv b f d){c:aA}(s:c.ok b)(i:U b-c.x<f+1):(m1 d b c).2.ok b/\c.lL (m1 d b c).2:=by let⟨e,g⟩:=GX h s i;exact⟨(xZ e).1,g.trans (xZ e).2⟩
def Nt{c:Y C}{h:Z}{d:aA->aW×aA}(g:qv c h d):∀{B:Z}{H:Y aW}{b:aA},b.ok c->U c-b.x<h+1->(ku d c B H b).2.ok c/\b.mI (ku d c B H b).2/\U (ku d c B H b).1<=U H+B
|0,H,b,s,_=>⟨s,.refl b,bv _⟩|B+1,H,b,s,p=>by
 rw[ku];split;rename_i n;obtain⟨f,e⟩:=NB g s p;by_cases k:(m1 d c b).2.no=0;let t:=j2 (e.2 n.1.1.1) q;obtain⟨l,m,r⟩:=Nt g f q;exact⟨l,e.le.trans m,kj⟩;let i:ku d c B (H++[(m1 d c b).1]) (m1 d c b).2=(H++[(m1 d c b).1],(m1 d c b).2):=by cases B with|zero=>rfl|succ B=>rw[ku,ad λo=>k o.1.1.1]
 rw[i];exact⟨f,e.le,ao⟩;exact⟨s,.refl b,ao⟩
def BB{b:Y C}{g:Z}{d:aA->aW×aA}(e:qv b g d){c:aA}(s:c.ok b)(f:U b-c.x<g+1):(jJ d b c).2.ok b/\c.mI (jJ d b c).2:=⟨(Nt e s f).1,(Nt e s f).2.1⟩
def PV{c:Y C}{h:Z}{d:aA->aW×aA}(g:qv c h d):∀{B:Z}{H:Y aW}{b:aA},b.ok c->(b.no=0->U c-b.x<h+1)->(j6 d c B H b).2.ok c/\b.mI (j6 d c B H b).2
|0,H,b,s,_=>⟨s,.refl b⟩|B+1,H,b,s,t=>by
 rw[j6];split;rename_i e;let o:=ud s e;let r:(aI c b 124).x=b.x+1:=by unfold aI;rw[af e];rfl
 obtain⟨i,f⟩:=BB g (hV (n:=124) s) q;obtain⟨k,l⟩:=PV g i (λp=>by rcases f.2 (by unfold aI;rw[af e];exact o.2.1) with m|m;omega;omega);exact⟨k,((qR s).trans f).trans l⟩;grind[hV,qR]
def w6{S:Y C}:∀b,qv S b (ek S b)
|0,g,_,d=>cg d (yl _)|b+1,g,s,d=>by let f:=w6 (S:=S) b;obtain⟨h,c⟩:=BB f s d;obtain⟨i,k⟩:=PV f h (λm=>by by_cases e:g.no=0;rcases c.2 e with l|l;omega;omega;rw[c.1 e];omega);exact⟨i,c.trans k⟩
def GH(c:Y C)(e:Z):Prop:=∀d:aA,d.ok c->U c-d.x<e->dF 146 [b 6000] [(6000,ah 241<|dl c d)] (uO (ek c e d).1) [(6000,ah 241<|dl c (ek c e d).2)]
def OQ(c:Y (Z×V))(d:bS):aN:=⟨(0,b 6000)::(2,b 2)::(3,b 3)::c,(3,ah 263<|b3 cF)::d,[]⟩
def ajr(d:Y C)(k:Z)(I:GH d k)(e:aA)(s:e.ok d)(P:U d-e.x<k+1):dF 284 [b 6000] [(6000,ah 241 (dl d e))] (uO (jd (ek d k) d e).1) [(6000,ah 241 (dl d (jd (ek d k) d e).2))]:=by
 refine c4 func284 [2004,2008,2010,2012,2013] λR p J=>?_;let Q:=s.2;let A:=hV (n:=40) s;let D:=hV (n:=91) A;let E:=hV (n:=46) D;let B:=hV (n:=92) E;let he:=vR B;let H:=BE (Jc:=rZ) B;refine mv (b3 cF) ?_ (e5:=ba);refine gZ j3 (λw=>OQ [(14,aV<|fc d e 40)] [(2,ah 169<|V.zero lS.z),(6000,ah 241<|dl d<|aI d e 40)]) (λ_=>dW) ?_ λw e5=>?_
 .refine bG [(6000,6000)] ?_ (g:=r8 d e 40 s);exact dn ()
 apply f<;>intro y
 .let K:=(ud s y).1;let L:(aI d e 40).x=e.x+1:=by unfold aI;rw[af y];rfl
  let h:=I (aI d e 40) A q;let G:=(w6 k (aI d e 40) A q).1;let⟨t,v,m,o,u,i⟩:=CY (ek d k<|aI d e 40).1;rw[show jd (ek d k) d e=(.mk t v m o u,hj d (ek d k (aI d e 40)).2 41) by rw[jd,af y,i]];rw[i] at h;refine bG [(6000,6000)] ?_ (g:=h);refine bG [(6000,6000)] ?_ (g:=S0 d _ 41 G);exact iE br
 refine gZ j3 (λw=>OQ [(22,aV<|fc d (aI d e 40) 91)] [(2,ah 169<|V.zero lS.z),(6000,ah 241<|dl d<|aI d (aI d e 40) 91)]) (λ_=>dW) ?_ λw e5=>?_
 .refine bG [(6000,6000)] ?_ (g:=r8 d _ 91 A);exact dn ()
 apply f<;>intro F
 .let⟨t,v,m,o,u,i⟩:=CY (qg d<|aI d (aI d e 40) 91).1;let h:=awi d (aI d (aI d e 40) 91) D;rw[i] at h;rw[show jd (ek d k) d e=(.mk t v m o u,(qg d (aI d (aI d e 40) 91)).2) by rw[jd,ad y,af F,<-i]];refine bG [(6000,6000)] ?_ (g:=h);exact iE br
 refine gZ j3 (λw=>OQ [(27,aV<|fc d (aI d (aI d e 40) 91) 46)] [(2,ah 169<|V.zero lS.z),(6000,ah 241<|dl d<|aI d (aI d (aI d e 40) 91) 46)]) (λ_=>dW) ?_ λw e5=>?_
 .refine bG [(6000,6000)] ?_ (g:=r8 d _ 46 D);exact dn ()
 apply f<;>intro M
 .let⟨t,v,m,o,u,i⟩:=CY<|jR cF.others;let h:=G0 cF.others<|b0 (a6.zm _) gt;rw[i] at h;rw[show jd (ek d k) d e=(.mk t v m o u,aI d (aI d (aI d e 40) 91) 46) by simp_all[jd,ad,af]];refine gY ?_ (bu:=ie gt);refine aT ?_ (g:=Tk cF gt);refine aT ?_ (g:=h);exact iE br
 refine gZ j3 (λw=>OQ [(33,aV<|fc d (aI d (aI d (aI d e 40) 91) 46) 92)] [(2,ah 169<|V.zero lS.z),(6000,ah 241<|dl d<|aI d (aI d (aI d (aI d e 40) 91) 46) 92)]) (λ_=>dW) ?_ λw e5=>?_
 .refine bG [(6000,6000)] ?_ (g:=r8 d _ 92 E);exact dn ()
 apply f<;>intro N
 .refine gZ j3 (λw=>⟨[(2,b 2),(3,b 3),(5,l (eC d<|aI d (aI d (aI d (aI d e 40) 91) 46) 92).c),(6,b 6),(7,aV (eC d<|aI d (aI d (aI d (aI d e 40) 91) 46) 92).many)],[(2,ah 169<|V.zero lS.z),(3,ah 263<|b3 cF),(6,ah 263<|b3 (eC d<|aI d (aI d (aI d (aI d e 40) 91) 46) 92).s),(6000,ah 241<|dl d (eC d<|aI d (aI d (aI d (aI d e 40) 91) 46) 92).r)],[]⟩) (λ_=>dW) ?_ λw e5=>?_
  .refine bG [(6000,6000)] ?_ (g:=QV d _ B);refine mv (b3 cF) ?_ (e5:=ba);refine kT (b3 (eC d<|aI d (aI d (aI d (aI d e 40) 91) 46) 92).s) ?_ (h1:=b0 (g4) he.2.2) (fh:=ji);exact dn ()
  apply f<;>intro O
  .let⟨t,v,m,o,u,i⟩:=CY<|jR (eC d<|aI d (aI d (aI d (aI d e 40) 91) 46) 92).s;let h:=G0 (eC d<|aI d (aI d (aI d (aI d e 40) 91) 46) 92).s he.2.2;rw[i] at h;rw[show jd (ek d k) d e=(.mk t v m o u,(eC d (aI d (aI d (aI d (aI d e 40) 91) 46) 92)).r) by simp_all[jd,ad,af]];refine gY ?_ (bu:=ie he.2.2);refine aT ?_ (g:=h);exact iE br
  let⟨t,v,m,o,u,i⟩:=CY<|jR<|cF.add (eC d<|aI d (aI d (aI d (aI d e 40) 91) 46) 92).c (eC d<|aI d (aI d (aI d (aI d e 40) 91) 46) 92).c;let h:=G0 (cF.add (eC d<|aI d (aI d (aI d (aI d e 40) 91) 46) 92).c (eC d<|aI d (aI d (aI d (aI d e 40) 91) 46) 92).c)<|b0 (a6.w5 ..) gt;rw[i] at h;rw[show jd (ek d k) d e=(.mk t v m o u,(eC d (aI d (aI d (aI d (aI d e 40) 91) 46) 92)).r) by simp_all[jd,ad,af]];refine bG [(6000,3)] ?_ (g:=uE cF _ _ gt he.2.1);refine gY ?_ (bu:=ie<|b0 (a6.w5 ..) gt);refine aT ?_ (g:=h);exact iE br
 let⟨t,v,m,o,u,i⟩:=CY<|jR<|cF.add (jy d (aI d (aI d (aI d (aI d e 40) 91) 46) 92) rZ).1 (jy d (aI d (aI d (aI d (aI d e 40) 91) 46) 92) rZ).1;let h:=G0 (cF.add (jy d (aI d (aI d (aI d (aI d e 40) 91) 46) 92) rZ).1 (jy d (aI d (aI d (aI d (aI d e 40) 91) 46) 92) rZ).1)<|b0 (a6.w5 ..) gt;rw[i] at h;rw[show jd (ek d k) d e=(.mk t v m o u,(jy d (aI d (aI d (aI d (aI d e 40) 91) 46) 92) rZ).2) by simp_all[jd,ad]];refine bG [(6000,6000)] ?_ (g:=TC d _ rZ B);refine bG [(6000,3)] ?_ (g:=uE cF _ _ gt H.2);refine gY ?_ (bu:=ie<|b0 (a6.w5 ..) gt);refine aT ?_ (g:=h);exact iE br
def aex{c:Y C}{B:Z}{d:aW}{b:aA}(f:¬fc c b 42)(g:¬fc c b 43)(h:¬fc c b 63)(e:¬fc c b 123):mx c B d b=(d,b):=by cases B with|zero=>rfl|succ B=>rw[mx,jM f,jM g,jM h,ad f,ad g,ad h,ad e,jM e]
structure VU(S:Y C)(oP:aA)(k:Z):Prop where
 ok:oP.ok S
 k:oP.no=0->U S<oP.x+k
def atq(S:Y C)(m:Z)(au:GH S m)(o:aA)(s:o.ok S)(M:U S-o.x<m+1):dF 245 [b 6000] [(6000,ah 241 (dl S o))] (cW (m1 (ek S m) S o).1) [(6000,ah 241 (dl S (m1 (ek S m) S o).2))]:=by
 refine c4 func245 [2002] λaH p aE=>?_;have aq:=s.2;have aF:=s.1;have J:=GX (w6 (S:=S) m) s M;have N:=ajr S m au o s M;rw[xi] at N;refine bG [(6000,6000)] ?_ (g:=N);generalize F:m1 (ek S m) S o=Q;unfold m1 at F;generalize jd (ek S m) S o=aC at J F⊢;obtain⟨⟨av,ax,fq,ak,bP⟩,R⟩:=aC;dsimp only at J F⊢;refine c8 (aW×aA×Z×X) (λd=>⟨[(0,b 6000),(2,b 2),(3,b 3)],[(2,ah 169<|V.zero lS.z),(3,ah 169<|b2 [an aj d.1.c0,Q1 d.2.2.2 .bo<|.al 2<|d.1.set.map hs,an aj d.1.min,an aj d.1.max,.al 5<|hh d.1.a3]),(6000,ah 241<|dl S d.2.1)],[]⟩) (λd=>VU S d.2.1 d.2.2.1/\mx S d.2.2.1 d.1 d.2.1=Q/\(d.2.2.2=ag->d.1.set=[])) (λd=>d.2.2.1) (.mk av ax fq ak bP,R,U S+2,ae) (λ⟨⟨v,y,t,u,w⟩,c,B,ew⟩ ⟨⟨k,I⟩,D,P⟩=>?_) ⟨⟨J.1,λK=>by show U S<R.x+(U S+2);omega⟩,F,λA=>by cases A⟩;dsimp only[aW.c0,aW.set,aW.min,aW.max,aW.a3] at k I D P⊢;have aG:=k.1;have h:∀{n:C},fc S c n->B=B-1+1/\VU S (aI S c n) (B-1)/\2<=B:=λ{n} A=>by
  have E:=ud k A;have am:=I E.2.1;have H:aI S c n=c.step:=by unfold aI;rw[af A]
  rw[H];exact⟨q,⟨⟨E.1,aq⟩,λ_=>by show U S<c.x+1+(B-1);omega⟩,q⟩
 refine a1.YB (λT=>⟨[(0,b 6000),(2,b 2),(3,b 3)],[(2,ah 169<|V.zero lS.z),(3,ah 169<|b2 [an aj v,T,an aj t,an aj u,.al 5<|hh w]),(6000,ah 241<|dl S c)],[]⟩) 2 3 [1] (ab hs y) ew aa (λA=>by rw[P A];rfl) ?_;refine dA ?_;refine bG [(6000,6000)] ?_ (g:=r8 S c 42 k);apply f<;>intro e
 .refine cp ?_;exact a4 (.mk 6 [] 0 (-1) [.mk v y t u w],aI S c 42,B-1,ag) ⟨(h e).2.1,by rw[<-D,(h e).1,mx,af e];rfl,λ_=>aa⟩ (by have:=(h e).2.2;show B-1<B;omega)
 rw[jM e];refine bG [(6000,6000)] ?_ (g:=r8 S c 43 k);apply f<;>intro i
 .refine cp ?_;exact a4 (.mk 6 [] 1 (-1) [.mk v y t u w],aI S c 43,B-1,ag) ⟨(h i).2.1,by rw[<-D,(h i).1,mx,jM e,ad e,af i];rfl,λ_=>aa⟩ (by have:=(h i).2.2;show B-1<B;omega)
 rw[jM i];refine bG [(6000,6000)] ?_ (g:=r8 S c 63 k);apply f<;>intro l
 .refine cp ?_;exact a4 (.mk 6 [] 0 1 [.mk v y t u w],aI S c 63,B-1,ag) ⟨(h l).2.1,by rw[<-D,(h l).1,mx,jM e,jM i,ad e,ad i,af l];rfl,λ_=>aa⟩ (by have:=(h l).2.2;show B-1<B;omega)
 rw[jM l];refine bG [(6000,6000)] ?_ (g:=r8 S c 123 k);apply f<;>intro r
 .have O:=hV (n:=123) k;have L:=KY O;refine bG [(6000,6000)] ?_ (g:=aj0 S (aI S c 123) O);have G:(k6 S (aI S c 123)).2.2.ok S/\((k6 S (aI S c 123)).2.2.no=0->U S<(k6 S (aI S c 123)).2.2.x+(B-1)):=⟨L.1,λK=>by
   have E:=ud k r;have am:=I E.2.1;have H:(aI S c 123).x=c.x+1/\(aI S c 123).no=0:=by unfold aI;rw[af r];exact⟨aa,E.2.1⟩
   have aD:=j2 (L.2.2 H.2) λn=>n K;omega⟩
  generalize ar:k6 S (aI S c 123)=aB at G⊢;obtain⟨az,ay,aw⟩:=aB;dsimp only at G⊢;refine cp ?_;exact a4 (.mk 6 [] (az:Z) ay [.mk v y t u w],aw,B-1,ag) ⟨⟨G.1,G.2⟩,by rw[<-D,(h r).1,mx,jM e,jM i,jM l,ad e,ad i,ad l,af r,ar];rfl,λ_=>aa⟩ (by have:=(h r).2.2;show B-1<B;omega)
 rw[jM r];have ap:Q=(.mk v y t u w,c):=by rw[<-D,aex e i l r]
 rw[ap];exact iE br
def Tx{e:aA->aW×aA}{d:Y C}{B:Z}{c:Y aW}{b:aA}(s:¬xO d b):ku e d B c b=(c,b):=by cases B with|zero=>rfl|succ B=>rw[ku,ad s]
def Yi(c:Y aW)(b:aW):hh c++[cW b]=hh (c++[b]):=by simp[CT,dc,xi]
def adp(S:Y C)(d:Z)(K:GH S d)(e:aA)(s:e.ok S)(T:U S-e.x<d+1):dF 191 [b 6000] [(6000,ah 241 (dl S e))] (cW (jJ (ek S d) S e).1) [(6000,ah 241 (dl S (jJ (ek S d) S e).2))]:=by
 refine c4 func191 [] λak p N=>?_;have X:=s.2;have O:=s.1;generalize I:ku (ek S d) S (U S+1) [] e=L;refine a1.eK 3 5 169 [3] ai ?_;refine c8 (Y aW×aA×Z) (λc=>⟨[(0,b 6000),(2,b 2),(3,.a 3 0<|U<|hh c.1)],[(2,ah 169<|V.zero lS.z),(3,.j 5 169<|hh c.1),(6000,ah 241<|dl S c.2.1)],[]⟩) (λc=>c.2.1.ok S/\e.mI c.2.1/\ku (ek S d) S c.2.2 c.1 c.2.1=L/\(c.2.1.no=0->U S<c.2.1.x+c.2.2)/\U c.1+c.2.2<=U S+1) (λc=>c.2.2) ([],e,U S+1) (λ⟨k,h,B⟩ ⟨m,o,A,E,G⟩=>?_) ⟨s,.refl e,I,λ_=>bi,ao⟩;dsimp only at m o A E G⊢;refine fA ?_;refine i4 ?_;apply cL;intro P;refine kn ?_ (g:=wd S h m);exact aa;apply cL;intro Q;refine kn ?_ (g:=wd S h m);exact aa;apply f<;>intro v
 .have y:xO S h:=by have:=v;exact⟨⟨⟨this.1.1.1,q⟩,q⟩,q⟩
  have J:=y.1.1.1;have R:e.x<=h.x:=by rcases zR (e.no=0) with i|i;rcases o.2 i with n|n<;>simp_all;rw[o.1 i]<;>simp_all
  have l:=NB (w6 (S:=S) d) m q;have u:ku (ek S d) S B k h=ku (ek S d) S (B-1) (k++[(m1 (ek S d) S h).1]) (m1 (ek S d) S h).2:=by obtain⟨D,rfl⟩:∃D,B=D+1:=⟨B-1,q⟩;rw[ku,af y];rfl
  refine bG [(6000,6000)] ?_ (g:=atq S d K h m q);generalize m1 (ek S d) S h=M at l u⊢;let⟨r,t⟩:=M;dsimp only at l u⊢;have F:t.no=0->U S<t.x+(B-1):=λi=>by have:=j2 (l.2.2 J) λn=>n i;omega
  refine cp ?_;refine eB (hh<|k++[r]) ?_ (aU:=Yi k r) (bl:=Po);exact a4 (k++[r],t,B-1) ⟨l.1,o.trans l.2.le,aq,F,bi⟩ bi
 have H:¬xO S h:=λi=>v (by simp[gp];exact⟨⟨⟨i.1.1.1,by have:=i.1.1.2;omega⟩,by have:=i.1.2;omega⟩,by have:=i.2;omega⟩);rw[Tx H] at A;have w:=afl 4 k q;rw[xi] at w;rw[show jJ (ek S d) S e=(oR 4 k,h) by grind[jJ]];refine xL 3 ?_;refine aT ?_ (g:=w);exact iE br
def ai1(S:Y C)(c:Z)(H:GH S c)(h:aA)(s:h.ok S)(E:U S-h.x<c+1):dF 146 [b 6000] [(6000,ah 241 (dl S h))] (cW (ek S (c+1) h).1) [(6000,ah 241 (dl S (ek S (c+1) h).2))]:=by
 refine c4 func146 [] λaw p ap=>?_;have au:=s.2;have v:=BB (w6 (S:=S) c) s E;generalize u:ek S (c+1) h=M;rw[ek] at u;refine bG [(6000,6000)] ?_ (g:=adp S c H h s E);generalize jJ (ek S c) S h=y at v u⊢;let⟨⟨J,L,fq,A,bP⟩,K⟩:=y;generalize R:j6 (ek S c) S (U S+2) [.mk J L fq A bP] K=am at u;refine n0 ?_;refine c8 (Y aW×aA×Z) (λd=>⟨[(0,b 6000),(2,b 2),(3,.a 6 0<|U<|hh d.1)],[(2,ah 169<|V.zero lS.z),(6,.j 5 169<|hh d.1),(6000,ah 241<|dl S d.2.1)],[]⟩) (λd=>d.2.1.ok S/\h.mI d.2.1/\j6 (ek S c) S d.2.2 d.1 d.2.1=am/\(d.2.1.no=0->U S<d.2.1.x+d.2.2)/\U d.1+d.2.2<=U S+3) (λd=>d.2.2) ([.mk J L fq A bP],K,U S+2) (λ⟨i,e,B⟩ ⟨o,r,ak,O,Q⟩=>?_) ⟨v.1,v.2,R,λ_=>bi,bi⟩;dsimp only at o r ak O Q⊢;refine bG [(6000,6000)] ?_ (g:=r8 S e 124 o);apply f<;>intro k
 .have N:=ud o k;have T:=N.2.1;have G:=hV (n:=124) o;have X:(aI S e 124).x=e.x+1/\(aI S e 124).no=0:=by unfold aI;rw[af k];exact⟨aa,T⟩
  have ar:h.x<=e.x:=by rcases zR (h.no=0) with l|l;rcases r.2 l with n|n<;>simp_all;rw[r.1 l]<;>simp_all
  have m:=BB (w6 (S:=S) c) G q;have D:j6 (ek S c) S B i e=j6 (ek S c) S (B-1) (i++[(jJ (ek S c) S (aI S e 124)).1]) (jJ (ek S c) S (aI S e 124)).2:=by obtain⟨I,rfl⟩:∃I,B=I+1:=⟨B-1,q⟩;rw[j6,af k];rfl
  refine bG [(6000,6000)] ?_ (g:=adp S c H (aI S e 124) G q);generalize jJ (ek S c) S (aI S e 124)=y at m D⊢;let⟨t,w⟩:=y;dsimp only at m D⊢;have P:w.no=0->U S<w.x+(B-1):=λl=>by have:=j2 (m.2.2 X.2) λn=>n l;omega
  refine cp ?_;refine eB (hh<|i++[t]) ?_ (aU:=Yi i t) (bl:=Po);exact a4 (i++[t],w,B-1) ⟨m.1,(r.trans<|qR o).trans m.2,aq,P,bi⟩ bi
 rw[jM k];have av:j6 (ek S c) S B i e=(i,e):=by cases B with|zero=>rfl|succ B=>rw[j6,ad k,jM k]
 have F:=afl 5 i q;rw[xi] at F;rw[show M=(oR 5 i,e) by grind];refine xL 6 ?_;refine aT ?_ (g:=F);exact iE br
def Wq(c:Y C):∀b,GH c b|0=>λd _ e=>cg e q|b+1=>λd g f=>by rw[xi];exact ai1 c b (Wq c b) d g f
def ye:aW:=.mk 0 [] 0 0 []
def wo(b:aW)(c:aA):aW×L×L:=if c.no≠0 then(ye,c.bad,c.no) else if 40<b.lV\/400<b.parts then(ye,0,3) else(b,0,0)
def iR(b:Y C):aW×L×L:=if 2000<U b then(ye,0,3)
 else wo (ev b (U b+1) ⟨0,0,0⟩).1 (if(ev b (U b+1) ⟨0,0,0⟩).2.no=0/\(ev b (U b+1) ⟨0,0,0⟩).2.x<U b then cw (ev b (U b+1) ⟨0,0,0⟩).2 (ev b (U b+1) ⟨0,0,0⟩).2.x 6 else(ev b (U b+1) ⟨0,0,0⟩).2)
def aee(S:Y C)(I:U S<=1048576)(F:U S<=2000->(ev S (U S+1) ⟨0,0,0⟩).2.no=0->e1 (ev S (U S+1) ⟨0,0,0⟩).1/\(ev S (U S+1) ⟨0,0,0⟩).1.parts<=1000000):bh 96 [a8 S] (cv [cW (iR S).1,an aj (iR S).2.1,an aj (iR S).2.2]):=by
 refine bs func96 [30] λp G=>?_;apply f<;>intro H
 .rw[show iR S=(ye,0,3) by rw[iR,af q]];exact fQ 2 2 [1] (fQ 5 2 [4] (dj br))
 have y:U S<=2000:=q;have o:(⟨0,0,0⟩:aA).ok S:=⟨dJ _,y⟩;have D:=Wt S (U S+1) q ⟨0,0,0⟩ o aa (by show U S-0<U S+1;omega);have r:=Cv (S:=S) (U S+1) ⟨0,0,0⟩ o aa (by show U S-0<U S+1;omega);have s:=F y;generalize h:iR S=rd;rw[iR,ad q] at h;refine bG [(6000,14)] ?_ (g:=D);generalize ev S (U S+1) ⟨0,0,0⟩=u at r s h⊢;let⟨⟨i,l,fq,d,bP⟩,c⟩:=u;have E:=r.k;dsimp only at r s h E⊢;refine gZ j3 (λu=>⟨[(2,b 2),(5,b 14),(6,b 6)],[(2,ah 169<|V.zero lS.z),(6,ah 169<|cW<|.mk i l fq d bP),(14,ah 211<|dl S<|if c.no=0/\c.x<U S then cw c c.x 6 else c)],[]⟩) (λ_=>dW) ?_ λu J=>?_
 .refine i4 ?_;apply f<;>intro v
  .refine bG [(6000,14)] ?_ (g:=r2 S c c.x 6);rw[af (by first|omega|(simp[gp] at v;omega))];exact dn ()
  rw[ad (by first|omega|(simp[gp] at v;omega))];exact dn ()
 have A:(if c.no=0/\c.x<U S then cw c c.x 6 else c).no=0->c.no=0:=λe=>by split at e;exact cg e<|iq a2;exact e
 generalize (if c.no=0/\c.x<U S then cw c c.x 6 else c)=t at A h⊢;apply f<;>intro n
 .rw[show rd=(ye,t.bad,t.no) by rw[<-h,wo,af n]];refine ei ?_;refine fo ?_;refine fz ?_;exact fQ 2 2 [1] (fQ 5 2 [4] (dj br))
 have o:t.no=0:=by simpa using n
 have B:=s<|A o;refine aT ?_ (g:=ad7 (.mk i l fq d bP) B.1 B.2);apply f<;>intro w
 .have m:40<(aW.mk i l fq d bP).lV\/400<(aW.mk i l fq d bP).parts:=pD λe=>w<|ad e;rw[af m];rw[show rd=(ye,0,3) by rw[<-h,wo,ad n,af m]];exact fQ 2 2 [1] (fQ 5 2 [4] (dj br))
 have m:¬(40<(aW.mk i l fq d bP).lV\/400<(aW.mk i l fq d bP).parts):=λe=>w (by rw[af e];decide);rw[show rd=(.mk i l fq d bP,0,0) by rw[<-h,wo,ad n,ad m]];exact dj br
def aku(b:aW)(s:oN b):bh 246 [cW b] (an aj 0):=by
 refine bs func246 [] λp o=>?_;let⟨⟨B,E⟩,m,F,G,H,I,J,n,l,C,D⟩:=s;let z:¬b.c0=3->U b.set=0:=λd=>by rw[n d];rfl
 let A:b.c0=3->0<U b.set:=λd=>yh.2<|l d;let y:b.c0<4->U b.a3=0:=λd=>by rw[m d];rfl
 let x:=io b.a3;apply f<;>intro i
 all_goals
  apply f<;>intro i
  .apply cy;intro e;refine i4 ?_;exact aa;apply cy;intro g;apply cL;intro h;refine gu ?_;exact aa;exact aa;apply f<;>intro c
   .exfalso;first|omega|(simp[gp] at c;omega)
   first|(exfalso;omega)|(exact aL)
  apply f<;>intro r
  .apply f<;>intro t
   .exfalso;omega
   apply cy;intro e;refine i4 ?_;exact aa;apply cy;intro g;apply cL;intro h;refine gu ?_;exact aa;exact aa;apply f<;>intro c
   .exfalso;first|omega|(simp[gp] at c;omega)
   first|(exfalso;omega)|(exact aL)
  apply f<;>intro k
  all_goals
   apply f<;>intro k
   .apply f<;>intro u
    .exfalso;omega
    apply cy;intro e;refine i4 ?_;exact aa;apply cy;intro g;apply cL;intro h;refine gu ?_;exact aa;exact aa;apply f<;>intro c
    .exfalso;first|omega|(simp[gp] at c;omega)
    first|(exfalso;omega)|(exact aL)
   apply f<;>intro v
   .apply f<;>intro w
    .exfalso;omega
    apply cy;intro e;refine i4 ?_;exact aa;apply cy;intro g;apply cL;intro h;refine gu ?_;exact aa;exact aa;apply f<;>intro c
    .exfalso;first|omega|(simp[gp] at c;omega)
    first|(exfalso;omega)|(exact aL)
   first|(exfalso;omega)|(exact aL)
def akz(d:aW)(s:oN d):bh 196 [cW d] (an aj 0):=by
 refine bs func196 [] λp t=>?_;let h:=λ(c:Z) (k:c<U d.set)=>acF s k;refine aT ?_ (g:=aku d s);apply f<;>intro u
 .exfalso;omega
 let⟨⟨E,I⟩,J,K,M,N,O,o,P,F,G,H⟩:=s;refine e9 (U d.set) (λc=>⟨[(1,b 1),(13,_),(14,_),(15,l c)],[(1,_)],[]⟩) (λc k=>?_) .r;apply f<;>intro v
 .let e:c<U d.set:=q;let n:=h c e;refine bB c (hs<|y d.set c av) ?_ (k:=BM e)
  iterate 2 refine gu ?_
  apply f<;>intro i
  .exfalso;first|omega|(simp[gp] at i;omega)
  refine aY ?_;exact a4 (c+1) (bA:=.r)
 apply cL;intro z;refine gu ?_;apply cy;intro A;apply cL;intro B;refine gu ?_;exact aa;exact aa;exact aa;apply f<;>intro m
 .exfalso;first|omega|(simp[gp] at m;omega)
 refine c8 Z (λc=>⟨[(1,b 1),(6,l c)],[(1,_)],[]⟩) (λc=>1<=c) (λc=>1000-c) 1 (λc k=>?_) (bv 1) .r;apply f<;>intro w
 .let e:c<U d.set:=q;let n:=h c e;let D:=h (c-1) q;let C:=o c q e;refine fA ?_;refine jV c (hs<|y d.set c av) ?_ (k:=BM e);refine jG ((c-1:Z):L) ?_;refine jV (c-1) (hs<|y d.set (c-1) av) ?_ (k:=BM q);refine aY ?_;apply f<;>intro x
  .exfalso;omega
  refine aY ?_;exact a4 (c+1) (bA:=.r)
 exact aL
def akB{d:aW}(s:oN d){h:Z}(c:Z){e:Z}(m:c<=1000000000):dF 195 [cW d,l h,b 6000,b 6001,b 6002] [(6000,ah 3 (l c)),(6001,ah 3 (l e)),(6002,ah 26 (an aj 0))] (cv []) [(6000,ah 3 (an aj ((c+1:Z):L))),(6001,ah 3 (an aj ((max e h:Z):L))),(6002,ah 26 (an aj 0))]:=by
 refine c4 func195 [] λn p k=>?_;refine e7 ((c+1:Z):L) ?_;refine MQ ((max e h:Z):L) ?_;apply f<;>intro i
 .refine aT ?_ (g:=akz d s);exact cJ
 exact cg aa i
def atX{c:Y aW}{b:Z}(s:b<U c):fy (am (b+1) c)=fy (am b c)+(y c b av).parts:=by
 induction c generalizing b
 trivial
 next d c e=>
  cases b;simp[fy,Ea]
  next b=>grind[fy,av]
def atU c b:fy (am b c)<=fy c:=by
 induction c generalizing b
 simp
 next d c e=>
  cases b;simp[Ea,fy,dJ]
  next b=>grind[fy]
def VZ(c:aW):Prop:=e1 c->∀d e f:Z,e+c.parts<=1000000000->d+c.parts<=1000000000->dF 194 [cW c,l d,eo (c1 195) [] [b 6000,b 6001,b 6002]] [(6000,ah 3<|l e),(6001,ah 3<|l f),(6002,ah 26<|an aj 0)]
 (cv []) [(6000,ah 3<|an aj ((e+c.parts:Z):L)),(6001,ah 3<|an aj ((max f (d+nn c.a3):Z):L)),(6002,ah 26<|an aj 0)]
def ayz{c:aW}(u:∀v∈c.a3,VZ v)(o:e1 c){d h i:Z}(A:h+c.parts<=1000000000)(z:d+c.parts<=1000000000):dF 194 [cW c,l d,eo (c1 195) [] [b 6000,b 6001,b 6002]] [(6000,ah 3 (l h)),(6001,ah 3 (l i)),(6002,ah 26 (an aj 0))] (cv []) [(6000,ah 3 (an aj (h+c.parts:Z))),(6001,ah 3 (an aj (max i (d+nn c.a3):Z))),(6002,ah 26 (an aj 0))]:=by
 refine c4 func194 [] λE p w=>?_;let⟨t,r⟩:=p8.1 o;let D:=c.parts_eq;let x:=R3 c;refine bG [(6000,6000),(6001,6001),(6002,6002)] ?_ (g:=akB t h q);rw[show max i d=max (max i d) (d+nn (am 0 c.a3)) by simp[Ea,nn],show h+1=h+1+fy (am 0 c.a3) by rfl];refine e9 (U c.a3) (λe=>⟨[(1,l d),(2,eo (c1 195) [] [b 6000,b 6001,b 6002]),(13,.al 5<|hh c.a3),(14,l<|U<|hh c.a3),(15,l e)],[(6000,ah 3<|an aj (h+1+fy (am e c.a3):Z)),(6001,ah 3<|an aj (max (max i d) (d+nn (am e c.a3)):Z)),(6002,ah 26<|an aj 0)],[]⟩) λe k=>?_;apply f<;>intro n
 .let m:e<U c.a3:=by rw[io] at n;omega
  let B:=atX m;let C:=atU c.a3<|e+1;let s:=abf m;refine bB e (cW<|y c.a3 e av) ?_ (k:=ly m);refine e7 (d+1:Z)<|bG [(6000,6000),(6001,6001),(6002,6002)] ?_ (g:=u (y c.a3 e av) (dL m) (r _<|dL m) (d+1) (h+1+fy (am e c.a3)) (max (max i d)<|d+nn (am e c.a3)) q q);rw[show h+1+fy (am e c.a3)+(y c.a3 e av).parts=h+1+fy (am (e+1) c.a3) by omega,show max (max (max i d) (d+nn (am e c.a3))) (d+1+nn (y c.a3 e av).a3)=max (max i d) (d+nn (am (e+1) c.a3)) by rw[s,(y c.a3 e av).Mw];omega];exact aY<|a4<|e+1
 rw[io] at n;obtain rfl:e=U c.a3:=q;rw[iJ,show max (max i d) (d+nn c.a3)=max i (d+nn c.a3) by omega,show h+1+fy c.a3=h+c.parts by omega];exact cJ
def ayy:∀b,VZ b:=aW.ind λb e he g h f d c=>ayz e he d c
def Xe b(s:e1 b)(h:b.parts<=1000000):bh 148 [cW b] (an aj (if 40<b.lV\/400<b.parts then 3 else 0)):=by
 refine bs func148 [] λp c=>?_;let e:=b.Mw;refine bG [(6000,3),(6001,4),(6002,5)] ?_ (g:=ayy b s 1 0 0 q q);refine gu ?_;apply f<;>intro d
 .exact aL (s:=by rw[af];rfl;omega)
 exact aL (s:=by rw[ad];rfl;omega)
def zs(b:Y C):aW×L×L:=if 2000<U b then(ye,0,3)
 else wo (ek b (U b+1) ⟨0,0,0⟩).1 (if(ek b (U b+1) ⟨0,0,0⟩).2.x<U b then cw (ek b (U b+1) ⟨0,0,0⟩).2 (ek b (U b+1) ⟨0,0,0⟩).2.x 6 else(ek b (U b+1) ⟨0,0,0⟩).2)
theorem am8(S:Y C)(G:U S<=1048576)(B:U S<=2000->(ek S (U S+1) ⟨0,0,0⟩).2.no=0->e1 (ek S (U S+1) ⟨0,0,0⟩).1/\(ek S (U S+1) ⟨0,0,0⟩).1.parts<=1000000):bh 116 [a8 S] (cv [cW (zs S).1,an aj (zs S).2.1,an aj (zs S).2.2]):=by
 refine bs func116 [22] λp D=>?_;apply f<;>intro F
 .rw[show zs S=(ye,0,3) by rw[zs,af q]];exact fQ 2 2 [1] (fQ 5 2 [4] (dj br))
 have s:U S<=2000:=q;have i:(⟨0,0,0⟩:aA).ok S:=⟨dJ _,s⟩;have u:=Wq S (U S+1) ⟨0,0,0⟩ i q;rw[xi] at u;have t:=w6 (S:=S) (U S+1) ⟨0,0,0⟩ i q;have m:=B s;generalize k:zs S=rd;rw[zs,ad q] at k;refine bG [(6000,13)] ?_ (g:=u);generalize ek S (U S+1) ⟨0,0,0⟩=o at t m k⊢;let⟨⟨e,h,fq,d,bP⟩,c⟩:=o;dsimp only at t m k⊢;refine gZ j3 (λo=>⟨[(2,b 2),(5,b 13),(6,b 6)],[(2,ah 169<|V.zero lS.z),(6,ah 169<|cW<|.mk e h fq d bP),(13,ah 241<|dl S<|if c.x<U S then cw c c.x 6 else c)],[]⟩) (λ_=>dW) ?_ λo H=>?_
 .apply f<;>intro E
  .refine bG [(6000,13)] ?_ (g:=y0 S c c.x 6);rw[af q];exact dn ()
  rw[ad q];exact dn ()
 have v:(if c.x<U S then cw c c.x 6 else c).no=0->c.no=0:=λl=>by grind[cg,iq]
 generalize (if c.x<U S then cw c c.x 6 else c)=n at v k⊢;apply f<;>intro A
 .rw[show rd=(ye,n.bad,n.no) by simp_all[wo,af]];refine ei ?_;refine fo ?_;refine fz ?_;exact fQ 2 2 [1] (fQ 5 2 [4] (dj br))
 have i:n.no=0:=by simpa using A
 have w:=m<|v i;refine aT ?_ (g:=Xe (.mk e h fq d bP) w.1 w.2);apply f<;>intro r
 .have y:40<(aW.mk e h fq d bP).lV\/400<(aW.mk e h fq d bP).parts:=pD λl=>r<|ad l;rw[show rd=(ye,0,3) by simp_all[wo,ad,af]];exact fQ 2 2 [1] (fQ 5 2 [4] (dj br))
 have y:¬(40<(aW.mk e h fq d bP).lV\/400<(aW.mk e h fq d bP).parts):=λl=>r q;rw[show rd=(.mk e h fq d bP,0,0) by simp_all[wo,ad]];exact dj br
def iW(b c:aA):Prop:=b.no=0/\c=b\/b.no≠0/\c.no=b.no/\c.bad=b.bad
theorem iW.refl b:iW b b:=by by_cases s:b.no=0;exact bj ⟨s,aa⟩;exact bp ⟨s,aa,aa⟩
def iW.fail{c d:aA}(f:c.no=0)(g:d.no=0){b:L}{R:L}(e:R≠0):iW (cw c b R) (cw d b R):=by unfold cw;rw[af f,af g];exact bp ⟨e,aa,aa⟩
def iW.no{b c:aA}(s:iW b c):b.no=0↔c.no=0:=by rcases s with⟨d,rfl⟩|⟨d,e,_⟩;rfl;omega
def iW.eq{b d:aA}(s:iW b d)(e:b.no=0):d=b:=by rcases s with⟨_,c⟩|⟨c,_⟩;exact c;omega
theorem iW.step{b d:aA}(s:iW b d)(g:b.no≠0):iW b d.step:=by rcases s with⟨c,_⟩|⟨c,e,f⟩;omega;exact bp ⟨c,e,f⟩
def vS{b:aA}{c d:L}:b.no≠0->cw b c d=b:=by simp_all[cw,ad]
theorem wC{c:Y C}{b:aA}{n:C}:b.no≠0->fc c b n=ae:=by(simp[fc,af];omega)
def UD{c:Y C}{b:aA}{n:C}:b.no≠0->aI c b n=b:=by simp_all[aI,wC,ad]
theorem ky{c:Y C}{b:aA}(e:b.ok c)(d:b.no=0)n:fc c b n=cZ c b.x n:=by let f:=e.1;unfold fc cZ;by_cases s:b.x<U c;rw[tW d s];grind;grind
def wB{c:Y C}{b:aA}(e:b.ok c)(d:b.no=0){n:C}:cZ c b.x n->aI c b n=b.step:=by simp_all[aI,ky,af]
def M1{e:Y C}{d c:aA}(h:d.no=0->d.ok e)(s:iW d c){n:C}:iW (hj e d n) (if cZ e c.x n then c else cw c c.x 6).step:=by unfold hj;by_cases b:d.no=0;have f:=s.eq b;subst f;rw[ky (h b) b];split;exact .refl _;exact(iW.fail b b a2).step<|iq a2;rw[wC b,ad ao,vS b];split;exact s.step b;rw[vS λg=>b<|s.no.2 g];exact s.step b
def BT{P:C->X}(s:∀c:Fin 256,P (gn c.1))b:P b:=by have:=s ⟨ax b,b.toNat_lt⟩;simp_all
def Tl:Y C:=[92,46,124,40,41,91,93,123,125,42,43,63,94,45]
theorem UE b:(mj b).2=(gL [100,119,115] b||gL [68,87,83] b):=by have:=BT (P:=λb=>(mj b).2==(gL [100,119,115] b||gL [68,87,83] b)) cf b;simp_all
theorem axJ b(s:gL [100,119,115] b):(mj b).1=qk λn=>po n b:=by have:=BT (P:=λb=>!gL [100,119,115] b||aH ((mj b).1=qk λn=>po n b)) (by decide+kernel) b;simp_all
theorem axK(b:C)(s:gL [68,87,83] b):(mj b).1=qk λn=>!po n (b+32):=by have:=BT (P:=λb=>!gL [68,87,83] b||aH ((mj b).1=qk λn=>!po n (b+32))) (by decide+kernel) b;simp_all
def sN(b:C):Z:=if(gL Np b||gL xv b) then 1 else if(ax b:L)=110 then 2 else if(ax b:L)=116 then 3 else if(ax b:L)=114 then 4 else if(ax b:L)=120 then 5
 else if gL [100,119,115] b then 6 else if gL [68,87,83] b then 7 else 0
def Fg(b:C):Z:=if(mj b).2 then(if gL [100,119,115] b then 6 else 7)
 else if 0<=eG [110,116,114] b then(if ax (y ([10,9,13]:Y C) (aG<|eG [110,116,114] b) 0)=10 then 2 else if ax (y ([10,9,13]:Y C) (aG<|eG [110,116,114] b) 0)=9 then 3 else 4)
 else if ax b=120 then 5
 else if ax b≠0/\0<=eG Tl b then 1 else 0
def axL(b:C):sN b=Fg b:=by have:=BT (P:=λb=>sN b==Fg b) (by decide+kernel) b;simp_all
def axM(b:C)(s:sN b≠0):32<=(ax b:L)/\(ax b:L)<=126:=by have:=BT (P:=λb=>aH (sN b=0)||aH (32<=(ax b:L))&&aH ((ax b:L)<=126)) (by decide+kernel) b;simp_all
def axN(b:C):aH (0<=eG pm b)=gL xv b:=by have:=BT (P:=λb=>aH (0<=eG pm b)==gL xv b) (by decide+kernel) b;simp_all
def axO(b:C):aH (0<=eG rZ b)=gL FH b:=by have:=BT (P:=λb=>aH (0<=eG rZ b)==gL FH b) (by decide+kernel) b;simp_all
theorem ach(b:Z):y cF b ae=ae:=by grind[cF,List.getElem?_replicate_of_lt,List.getElem?_eq_none,List.length_replicate]
def aiK{J:a6}{d c b:Z}(s:b<U J):y (J.add d c) b ae=(y J b ae||aH (d<=b)&&aH (b<=c)):=by grind[a6.add,List.getElem?_eq_getElem]
theorem Td{n b:Z}(c:b<256):y (cF.add n n) b ae=aH (b=n):=by rw[aiK cf,ach,D0];grind
def aeK{n:Z}(d:n<256):∀b,b<=256->gO (cF.add n n) b=if b<=n then[] else[((n:L),(n:L))]|0,_=>ba|b+1,s=>by rw[gO,Td q,aeK d b q];by_cases c:b=n;subst c;rw[ad ao,Td q];grind;grind
def axP(b:C):jR (cF.add (ax b) (ax b))=.mk 3 [((ax b:L),(ax b:L))] 0 0 []:=by have c:=b.toNat_lt;rw[jR,ad,aeK c 256<|bv _,ad q];have d:=Td (n:=ax b) c;grind[ach]
def axQ:jR cF.others=.mk 3 [(0,255)] 0 0 []:=by rw[jR,ad cf,show gO _ 256=[(0,255)] by decide+kernel]
theorem agd(b:C):gL EP b=(gL [100,119,115] b||gL [68,87,83] b):=by have:=BT (P:=λb=>gL EP b==(gL [100,119,115] b||gL [68,87,83] b)) cf b;simp_all
def ZE{c:Y C}{b:aA}(d:b.no=0):js (cx c b)=jS c b.x:=by unfold jS;by_cases s:b.x<U c;rw[tW d s,af s];rfl;rw[Nv s,ad s];decide
structure Kt(T:Ks)(w:Ae)(I5:a6):Prop where
 r:iW T.r w.r
 many:T.r.no=0->T.many->w.n=-1/\w.s=I5.join T.s
 one:T.r.no=0->T.many=ae->w.n=(T.c:Z)/\w.s=aR I5 T.c ag
theorem EW{c:Ks}{d:Ae}{f:a6}(s:c.r.no≠0)(e:iW c.r d.r):Kt c d f:=⟨e,λb=>cg b s,λb=>cg b s⟩
def Q0{J:a6}{b:Z}{c:aA}:pi J b c=⟨aR J b ag,b,c.step⟩:=by rfl
def YR{J:a6}{b:aA}:pi J (-1) b=⟨J, -1,b.step⟩:=by rfl
def YI{e:Y C}{J:a6}{c:aA}(N:c.ok e)(v:c.no=0):Kt (eC e c) (ko e J c) J:=by
 have ak:=N.1;have R:iW (cw c c.x 6) (cw c c.x 6):=.refl _;have fn:(cw c c.x 6).no≠0:=iq a2;by_cases B:c.x<U e;have D:=tW v B;generalize I:y e c.x 0=b at D;have d:=axL b;have E:=UE b;have am:=axM b;have s:sN b≠0->¬kv e c.x=ae:=λf=>by simp_all[kv,m7,kk]
 unfold eC ko;rw[D,I];by_cases g:(mj b).2;rw[af g];have h:Fg b=if gL [100,119,115] b then 6 else 7:=by unfold Fg;rw[af g]
 have i:sN b≠0:=by rw[d,h];split<;>decide
 rw[ad<|s i];rw[h] at d;unfold sN at d;split at d;grind;rename_i k;rw[ad k];split at d;grind;rename_i t;rw[ad t];split at d;grind;rename_i u;rw[ad u];split at d;grind;rename_i z;rw[ad z];split at d;grind;rename_i P;rw[ad P];by_cases A:gL [100,119,115] b;rw[af A,YR];exact⟨.refl _,λ_ _=>⟨aa,by grind[axJ]⟩,λ_ f=>by cases f⟩;rw[ad A];have Q:gL [68,87,83] b:=by rw[E] at g;simpa[A] using g
 rw[af Q,YR];exact⟨.refl _,λ_ _=>⟨aa,by grind[axK]⟩,λ_ f=>by cases f⟩;rw[ad g];have ap:¬gL [100,119,115] b/\¬gL [68,87,83] b:=by rw[E] at g;simpa using g
 have h:Fg b=(if 0<=eG [110,116,114] b then(if ax (y ([10,9,13]:Y C) (aG (eG [110,116,114] b)) 0)=10 then 2 else if ax (y ([10,9,13]:Y C) (aG (eG [110,116,114] b)) 0)=9 then 3 else 4)
  else if ax b=120 then 5 else if ax b≠0/\0<=eG Tl b then 1 else 0):=by unfold Fg;rw[ad g]
 rw[h] at d;clear h;by_cases m:0<=eG [110,116,114] b;rw[af m];rw[af m] at d;have O:ax (y ([10,9,13]:Y C) (aG (eG [110,116,114] b)) 0)=10\/ax (y ([10,9,13]:Y C) (aG (eG [110,116,114] b)) 0)=9\/ax (y ([10,9,13]:Y C) (aG (eG [110,116,114] b)) 0)=13:=by have K:=(RG [110,116,114] b).1;simp only[l5,O7] at K;have:aG (eG [110,116,114] b)=0\/aG (eG [110,116,114] b)=1\/aG (eG [110,116,114] b)=2:=q;rcases this with l|l|l<;>rw[l]<;>decide
 generalize ax (y ([10,9,13]:Y C) (aG<|eG [110,116,114] b) 0)=F at d O;have i:sN b≠0:=by rw[d];split<;>(try split)<;>decide
 rw[ad<|s i];unfold sN at d;have S:∀{w:Z},F=w->Kt ⟨F,cF,ae,c.step⟩ (pi J (w:L) c) J:=λ{w} l=>by subst l;rw[Q0];exact⟨.refl _,λ_ f=>(by cases f),λ_ _=>⟨aa,aa⟩⟩
 grind;rw[ad m];rw[ad m] at d;by_cases n:ax b=120;rw[af n];rw[af n] at d;have i:sN b≠0:=by rw[d];decide
 rw[ad<|s i];unfold sN at d;split at d;omega;rename_i k;rw[ad k];split at d;omega;rename_i t;rw[ad t];split at d;omega;rename_i u;rw[ad u];split at d;omega;rename_i z;rw[ad z,af q];unfold pk;have G:js (cx e c.step)=jS e (c.x+1):=ZE v;have h:js (cx e c.step.step)=jS e (c.x+2):=ZE v;have T:=Mc e<|c.x+1;have X:=Mc e<|c.x+2;rw[G,h];by_cases p:jS e (c.x+1)<0;rw[af p,af p];exact EW (iq a2)<|.refl _;rw[ad p,ad p];by_cases r:jS e (c.x+2)<0;rw[af r,af r];exact EW (iq a2)<|.refl _;rw[ad r,ad r];have H:rG e c.x 2=((aG (jS e (c.x+1))*16+aG (jS e (c.x+2)):Z):L):=by show 16*(16*0+jS e (c.x+1))+jS e (c.x+2)=_;omega
 rw[H,Q0];exact⟨.refl _,λ_ f=>(by cases f),λ_ _=>⟨aa,aa⟩⟩;rw[ad n];rw[ad n] at d;by_cases o:ax b≠0/\0<=eG Tl b;rw[af<|show ax b≠0/\0<=eG [92,46,124,40,41,91,93,123,125,42,43,63,94,45] b from o];rw[af o] at d;have i:sN b≠0:=by rw[d];decide
 rw[ad<|s i];unfold sN at d;split at d;rename_i k;rw[af k,Q0];exact⟨.refl _,λ_ f=>(by cases f),λ_ _=>⟨aa,aa⟩⟩;grind;rw[ad<|show¬(ax b≠0/\0<=eG [92,46,124,40,41,91,93,123,125,42,43,63,94,45] b) from o];rw[ad o] at d;unfold sN at d;split at d;omega;rename_i k;split at d;omega;rename_i t;split at d;omega;rename_i u;split at d;omega;simp_all[ad,EW];have M:kv e c.x=ae:=by unfold kv;rw[show aH ((c.x:L)<U e)=ae by(simp;omega)];rfl
 rw[ko,af M,show eC e c=⟨0,cF,ae,cw c c.x 6⟩ by unfold eC;rw[Nv B,ad a2,ad a2,ad a2,ad a2]];grind[EW]
def kW(b:Y C)(c:aA):Ks:=if fc b c 92 then eC b (aI b c 92) else⟨(jy b (aI b c 92) pm).1,cF,ae,(jy b (aI b c 92) pm).2⟩
def afn{b:Y C}{J:a6}{c:aA}(h:c.ok b)(g:c.no=0):Kt (kW b c) (jK b J c) J:=by
 unfold kW jK;rw[ky h g];by_cases e:cZ b c.x 92;let f:=la e;let o:kv b c.x:=by unfold kv;let l:(ax (y b _ 0):L)=92:=f.2;rw[m7,m7,kk,kk,kk];omega
 rw[af e,ad aq,af e,wB h g e];exact YI ⟨f.1,h.2⟩ g;rw[ad e,jM (by grind[ky])];unfold jy;by_cases f:c.x<U b;rw[tW g f];generalize k:y b _ 0=d;let m:=axN d;let p:kv b c.x=(aH (32<=(ax d:L))&&aH ((ax d:L)<=126)):=by unfold kv;rw[k,show aH _=ag by(simp;omega),B0]
 by_cases n:(ax d<32\/126<ax d)\/0<=eG pm d;rw[af n,af];exact EW (iq a2)<|.refl _;grind;rw[ad n,ad,ad e];exact⟨.refl _,λ_ i=>(by cases i),λ_ _=>⟨aa,aa⟩⟩;grind;rw[Nv f,af<|bj<|bj a2,af];exact EW (iq a2)<|.refl _;grind[kv,aH,decide_eq_false_iff_not]
def afm{b:Y C}{d:aA}(e:d.ok b):(kW b d).c<256/\(kW b d).r.ok b/\(kW b d).s.length=256:=by unfold kW;grind[hV,vR,BE,pm,gt]
def afb{J:a6}(d:U J=256){n:Z}:aR J n ag=J.add n n:=by unfold a6.add;refine rg ao λe b c=>?_;grind
def av8{J:a6}(f:U J=256){b c:Z}(s:b<=c):a6.add (aR (aR J b ag) c ag) b c=J.add b c:=by unfold a6.add;refine rg ao λg d e=>?_;grind
def aaa(d:Y C)(J:a6)(b:aA):jU d J b=if(kW d b).many then(J.join (kW d b).s,(kW d b).r) else qO d J b.x (kW d b).c (kW d b).r:=by unfold jU kW;grind
def RK(b:Y C)(J:a6)(f e:Z)(d:aA):qO b J f e d=if fc b d 45 then oE J f e (kW b (aI b d 45)).c (if(kW b (aI b d 45)).many then cw (kW b (aI b d 45)).r (aI b (aI b d 45) 92).x 6 else(kW b (aI b d 45)).r) else oE J f e e (aI b d 45):=by unfold qO;split;unfold kW;grind;rfl
def VY(b c:a6×aA):Prop:=iW b.2 c.2/\(b.2.no=0->b.1=c.1)
def ak4{S:Y C}{J:a6}{A:aA}(l:A.ok S)(B:U J=256)(Q:A.no=0):VY (jU S J A) (uI S J A)\/(jU S J A).2.no=0/\cZ S (jU S J A).2.x 45/\(uI S J A).2.no=6/\(uI S J A).2.bad=((jU S J A).2.x:Z):=by
 have w:=afn (J:=J) l Q;have F:=afm l;have I:=Jf (J:=J) l B;rw[aaa];unfold uI;generalize kW S A=az at w F⊢;generalize jK S J A=aD at w I⊢;let⟨o,aL,N,b⟩:=az;let⟨aC,aM,D⟩:=aD;let⟨i,K,M⟩:=w;let⟨X,k,ak⟩:=F;dsimp only at i K M X k ak⊢;have aH:U aC=256:=I.len;unfold uJ;dsimp only;by_cases d:b.no=0;have p:=bQ<|i.eq d;subst p;cases N with
 |true=>
  obtain⟨rfl,rfl⟩:=K d aa
  (try rw[af aa])
  by_cases h:cZ S b.x 45;simp_all[ad,af,cw];refine bj ?_;rw[af<|bp aq];exact⟨.refl _,λ_=>aa⟩|false=>
  obtain⟨rfl,rfl⟩:=M d aa;rw[ad ao,RK];refine bj ?_;by_cases h:cZ S b.x 45;have T:=la h;have m:fc S b 45:=by rw[ky k d];exact h
  have ap:¬(b.no≠0\/cZ S b.x 45=ae):=by rintro(n|n);omega;simp_all
  rw[af m,wB k d h,ad ap,ad<|show¬((o:Z):L)<0 by omega];have e:b.step.ok S:=⟨T.1,l.2⟩;have z:=afn (J:=aR J o ag) e d;have G:=afm e;have av:(aI S b.step 92).x=if cZ S (b.x+1) 92 then b.x+2 else b.x+1:=by unfold aI;rw[ky e d];show(if cZ S (b.x+1) 92 then b.step.step else b.step).x=_;split<;>rfl
  by_cases hm:(kW S b.step).many
  .have g:cZ S (b.x+1) 92/\(mj (cx S b.step.step)).2:=by unfold kW at hm;rw[ky e d] at hm;by_cases c:cZ S b.step.x 92;rw[af c,wB e d c] at hm;refine⟨c,?_⟩;unfold eC at hm;grind;simp_all
   have s:=(K5 g.2).1;have O:b.step.step.x=b.x+2:=aa;rw[O] at s;have v:cx S b.step.step=y S (b.x+2) 0:=tW (A:=b.step.step) d s;have am:gL EP (y S (b.x+2) 0):=by rw[agd,<-UE,<-v];exact g.2
   rw[af hm,af ⟨⟨s,g.1⟩,am⟩,av,af g.1];have au:(kW S b.step).r.no=0:=by unfold kW;rw[ky e d,af<|show cZ S b.step.x 92=ag from g.1,wB e d g.1];unfold eC;rw[af g.2];exact d
   unfold oE;rw[af<|show(cw (kW S b.step).r (b.x+2:Z) 6).no≠0 from iq a2];exact⟨iW.fail au (show b.step.no=0 from d) (R:=6) a2,λc=>cg c<|iq (R:=6) a2⟩
  have ar:¬((b.x+2<U S/\cZ S (b.x+1) 92)/\gL EP (y S (b.x+2) 0)):=by rintro⟨⟨P,E⟩,aG⟩;refine hm ?_;unfold kW;rw[ky e d,af<|show cZ S b.step.x 92=ag from E,wB e d E];unfold eC;have v:cx S b.step.step=y S (b.x+2) 0:=tW (A:=b.step.step) d P;rw[v,af (by grind[UE,agd])]
  rw[ad hm,ad ar];have u:(kW S b.step).many=ae:=by simpa using hm
  generalize kW S b.step=ay at z G u⊢;generalize jK S (aR J o ag) b.step=aB at z⊢;let⟨aE,aP,aN,aF⟩:=ay;let⟨aK,aJ,ax⟩:=aB;let⟨fx,r0,FI⟩:=z;dsimp only at fx r0 FI G u⊢;unfold oE G9;dsimp only;by_cases f:aF.no=0;have p:=bQ<|fx.eq f;subst p;obtain⟨rfl,rfl⟩:=FI f u;rw[ad λc=>c f];by_cases t:aE<o;rw[af t,af ⟨f,q⟩];exact⟨.refl _,λc=>cg c<|iq a2⟩;rw[ad t,ad λc=>t q,af f,Gq,Gq];exact⟨.refl _,λ_=>bQ<|av8 B q⟩;have H:¬ax.no=0:=λc=>f<|fx.no.2 c;rw[af f,ad λc=>H c.1,ad H];exact⟨fx,λc=>cg c f⟩;have m:¬fc S b 45:=by rw[ky k d];exact h
  rw[ad m,jM m,af<|bp aq];unfold oE;rw[ad λc=>c d,ad<|wM _];exact⟨.refl _,λ_=>bQ<|afb B⟩
 have aw:D.no≠0:=λc=>d<|i.no.2 c;rw[af<|show D.no≠0\/cZ S D.x 45=ae from bj aw];refine bj ?_;cases N with|true=>(try rw[af aa]);exact⟨i,λc=>cg c d⟩|false=>rw[ad ao,RK,ad GC,UD d];unfold oE;rw[af d];exact⟨i,λc=>cg c d⟩
def Ub{d:Y C}{B:Z}{J:a6}{b:aA}(s:b.no≠0):pu B d J b=(J,b):=ae_ λc=>s c.1
def Ty{c:Y C}{b:aA}(e:b.ok c)(d:b.no=0):ax (cx c b)≠93↔cZ c b.x 93=ae:=by
 unfold cZ;by_cases s:b.x<U c;rw[tW d s,Gn,vt,vt]
 (simp;omega)
 simp_all[Nv,Gn,vt]
def aqH{c:Y C}{J:a6}{b:aA}(i:b.ok c)(d:b.no=0)(s:cZ c b.x 45):(jU c J b).2.no=6/\(jU c J b).2.bad=(b.x:Z):=by
 have e:=la s;have h:=by exact z9.1<|Int.ofNat_inj.1 e.2
 have g:¬cZ c b.x 92:=λf=>by have:=(la f).2;simp_all
 rw[aaa];unfold kW;rw[ky i d,ad g,ad ao,jM (by grind[ky])];unfold jy;rw[tW d e.1,h,af<|bp a2];rw[RK,ad (by simp[wC,iq]),UD<|iq a2];unfold oE;unfold cw;simp_all
def aa_{S:Y C}:∀(B:Z){ju:Z}{J:a6}{b:aA},b.ok S->U J=256->(b.no=0->U S<b.x+B)->(b.no=0->U S<b.x+ju)->VY (pu B S J b) (k7 S ju J b)
|B,ju,J,b,f,l,u,v=>by
 by_cases d:b.no=0;let w:=f.1;obtain⟨g,rfl⟩:∃g,B=g+1:=⟨B-1,q⟩;obtain⟨m,rfl⟩:∃m,ju=m+1:=⟨ju-1,q⟩;rw[pu,k7];by_cases i:cZ S b.x 93=ae;rw[af ⟨d,(Ty f d).2 i⟩,af ⟨d,i⟩];let k:=HV f l;let y:=(Sp (J:=J) f).2 d;rcases ak4 (S:=S) (J:=J) f l d with⟨e,h⟩|⟨e,h,r,s⟩;by_cases c:(jU S J b).2.no=0;rw[e.eq c,<-h c];exact aa_ g k.1 k.2 (λ_=>q) λ_=>q;rw[Ub c,G8 λn=>c<|e.no.2 n.1];trivial;let t:=k.1.1;let p:cZ S (jU S J b).2.x 93=ae:=by have:=(la h).2;unfold cZ;rw[Gn,vt,vt];refine bp ?_;rw[this];decide
 obtain⟨o,rfl⟩:∃o,g=o+1:=⟨g-1,q⟩;rw[pu,af ⟨e,(Ty k.1 e).2 p⟩];let hm:=aqH (J:=(jU S J b).1) k.1 e h;rw[Ub q,G8 λn=>q];refine⟨bp ⟨bi,aq,aq⟩,λn=>?_⟩;simp_all;rw[ad λc=>i<|(Ty f d).1 c.2,ad λc=>i c.2];exact⟨.refl _,λ_=>aa⟩;rw[Ub d,G8 λn=>d n.1];exact⟨.refl _,λ_=>aa⟩
 termination_by B=>B
def Cf(b c:aW×aA):Prop:=iW b.2 c.2/\(b.2.no=0->b.1=c.1)
theorem awe{b:Y C}{c:aA}(h:c.ok b)(f:c.no=0):Cf (qg b c) (yK b c):=by
 unfold qg yK;have s:aI b c 94=nh b c:=by unfold aI nh;rw[ky h f]
 rw[ky h f,s];have i:(nh b c).ok b/\(nh b c).no=0:=by unfold nh;split;rename_i d;exact⟨⟨(la d).1,h.2⟩,f⟩;trivial
 have g:=aa_ (U b+1) (ju:=U b+1) i.1 gt (λ_=>q) λ_=>q;have p:=N7 (B:=U b+1) i.1 gt;have o:=Qq (B:=U b+1) i.1 gt λ_=>q;generalize pu _ b _ _=e at g p⊢;generalize k7 b _ _ _=t at g o⊢;let⟨m,u⟩:=g;by_cases d:e.2.no=0;have l:=m.eq d;have r:=o aq;rw[l] at r;have k:hj b e.2 93=t.2.step:=by unfold hj;rw[ky p.1 d,af r,l]
 refine⟨?_,λ_=>?_⟩;grind[iW,hj,step];simp_all;have k:hj b e.2 93=e.2:=by unfold hj;rw[wC d,ad ao,vS d]
 refine⟨?_,λn=>?_⟩;rw[k];exact m.step d;simp_all
def Px(b:Z×L×aA)(c:L×L×aA):Prop:=iW b.2.2 c.2.2/\(b.2.2.no=0->((b.1:Z):L)=c.1/\b.2.1=c.2.1)
def arJ{S:Y C}{A:aA}(G:A.ok S)(Q:A.no=0):Px (k6 S A) (r_ S A):=by
 have g:=Iu (S:=S) (ar:=A.x) (B:=2) (R:=0) G;have h:(eU S A.x 2 0 A).2.no=0:=b0 g.2.2 Q;unfold k6 r_;have M:gB S A 0=((eU S A.x 2 0 A).1,if(eU S A.x 2 0 A).2.x=A.x then cw (eU S A.x 2 0 A).2 (eU S A.x 2 0 A).2.x 6 else if 50<(eU S A.x 2 0 A).1 then cw (eU S A.x 2 0 A).2 A.x 9 else(eU S A.x 2 0 A).2):=by unfold gB;congr 1;split;rfl;simp
 rw[M];unfold ix;generalize eU S A.x 2 0 A=ak at g h⊢;let⟨R,b⟩:=ak;dsimp at g h⊢;have D:∀{c:aA},c.no≠0->∀{s:aA},iW c s->∀(k K:L) m,Px (if fc S c 44 then(if ax (cx S (aI S c 44))≠125 then(m,(gB S (aI S c 44) m).1,hj S (gB S (aI S c 44) m).2 125) else(m, -1,hj S (aI S c 44) 125)) else(m,m,hj S (aI S c 44) 125)) (zE S k s):=λ{c} e {s} he k K m=>by
  have p:s.no≠0:=λd=>e<|he.no.2 d;rw[wC e,ad ao,UD e];unfold zE;rw[ad λd=>p d.1];unfold uR;have l:hj S c 125=c:=by unfold hj;rw[wC e,ad ao,vS e]
  refine⟨?_,λn=>?_⟩;show iW (hj S c 125) _;rw[l];split;exact he.step e;rw[vS p];exact he.step e;simp_all
 by_cases aX:b.x=A.x;rw[af aX,af aX];dsimp only;rw[af<|show-1<0 by decide];exact D (iq a2) (.refl _) (-1) 0 R;rw[ad aX,ad aX];dsimp;rw[ad<|show¬(R:L)<0 by omega];by_cases E:50<R;rw[af E];exact D (iq a2) (.refl _) R 0 R;rw[ad E];unfold zE;rw[ky g.1 h];by_cases f:cZ S b.x 44;have U:=la f;have y:b.step.ok S:=⟨U.1,G.2⟩;rw[af f,wB g.1 h f,af<|show b.no=0/\cZ S b.x 44=ag from⟨h,f⟩];have r:=Iu (S:=S) (ar:=b.step.x) (B:=2) (R:=0) y;have F:(eU S b.step.x 2 0 b.step).2.no=0:=b0 r.2.2 h;have v:ax (cx S b.step)=125->eU S b.step.x 2 0 b.step=(0,b.step):=λd=>by(simp[eU,ad];omega)
 have w:(eU S b.step.x 2 0 b.step).2.x=b.step.x->(eU S b.step.x 2 0 b.step).2=b.step:=λd=>by rw[eU] at d⊢;split at d;rename_i n;have:b.step.step.x<=(eU S b.step.x 1 (0*10+(ax (cx S b.step)-48)) b.step.step).2.x:=(Iu (S:=S) (ar:=b.step.x) (B:=1) (R:=0*10+(ax (cx S b.step)-48)) (A:=b.step.step)<|aA.sY y (Hg n.1).1).2.1;have:b.step.step.x=b.step.x+1:=aa;omega;grind
 by_cases u:ax (cx S b.step)=125;rw[ad<|show¬ax (cx S b.step)≠125 fromλn=>n u];have N:=v u;unfold ix;rw[N];dsimp only;rw[af<|show b.step.x=b.step.x from aa];dsimp only;rw[ad<|show¬(0<=-1/\(-1:L)<R) fromλn=>cg n.1 a2];unfold uR;exact⟨M1 (λ_=>y)<|.refl _,λ_=>⟨aa,aa⟩⟩;rw[af<|show ax (cx S b.step)≠125 from u];have O:gB S b.step R=((eU S b.step.x 2 0 b.step).1,if(eU S b.step.x 2 0 b.step).2.x=b.step.x then cw (eU S b.step.x 2 0 b.step).2 (eU S b.step.x 2 0 b.step).2.x 6
  else if 50<(eU S b.step.x 2 0 b.step).1\/(eU S b.step.x 2 0 b.step).1<R then cw (eU S b.step.x 2 0 b.step).2 b.step.x 9 else(eU S b.step.x 2 0 b.step).2):=aa
 rw[O];unfold ix;generalize eU S b.step.x 2 0 b.step=am at r F v w⊢;let⟨m,c⟩:=am;dsimp at r F v w⊢;have t:∀{k Cp:L}{fx r0:aA}{H I:L}{J:Z},fx.no≠0->iW fx r0->Px (J,H,hj S fx 125) (uR S k I r0):=λ{k Cp fx r0 H I J} e he=>by
  have p:r0.no≠0:=λd=>e<|he.no.2 d;unfold uR;have l:hj S fx 125=fx:=by unfold hj;rw[wC e,ad ao,vS e]
  refine⟨?_,λn=>?_⟩;show iW (hj S fx 125) _;rw[l];split;exact he.step e;rw[vS p];exact he.step e;simp_all
 by_cases z:c.x=b.step.x;have P:=w z;subst P;rw[af<|show b.step.x=b.step.x from aa,af<|show b.step.x=b.step.x from aa];dsimp only;rw[ad<|show¬(0<=-1/\(-1:L)<R) fromλn=>cg n.1 a2];have T:¬cZ S b.step.x 125:=λd=>by have:=la d;grind[tW,Int.ofNat_inj]
 unfold uR;rw[ad T];have l:hj S (cw b.step b.step.x 6) 125=cw b.step b.step.x 6:=by unfold hj;rw[wC<|iq a2,ad ao,vS<|iq a2]
 refine⟨?_,λn=>?_⟩;show iW (hj S (cw b.step b.step.x 6) 125) _;rw[l];exact(iW.refl _).step<|iq a2;grind[hj,cw,cg,iq];rw[ad z,ad z];dsimp;have:b.step.x=b.x+1:=aa;by_cases o:50<m;rw[af<|bj o,af o];by_cases i:0<=(m:L)/\(m:Z)<(R:L);rw[af i,vS<|iq a2];exact t (Cp:=0) (iq a2)<|.refl _;rw[ad i];exact t (Cp:=0) (iq a2)<|.refl _;rw[ad o];by_cases i:m<R;rw[af<|bp i,af ⟨q,q⟩];exact t (Cp:=0) (iq a2)<|.refl _;rw[ad λn=>n.elim o i,ad λn=>i (by have:=n.2;omega)];unfold uR;exact⟨M1 (λ_=>r.1)<|.refl _,λ_=>⟨aa,aa⟩⟩;have X:¬fc S b 44:=by rw[ky g.1 h];exact f
 rw[ad f,jM X,ad λd=>f d.2];unfold uR;exact⟨M1 (λ_=>g.1)<|.refl _,λ_=>⟨aa,aa⟩⟩
def arA{J:a6}(b:U J=256):cF.join J=J:=by
 unfold a6.join cF;rw[<-b];clear b
 induction J
 rfl
 next d J c=>rw[l5,List.replicate_succ,List.zipWith_cons_cons,c,D0]
def Ek(c:Y C)(f:Z)(d e:aA->aW×aA):Prop:=∀b:aA,b.ok c->b.no=0->U c-b.x<f->Cf (d b) (e b)
def RH{c:Y C}{b:Z}(s:b<U c)n:cZ c b n=aH (ax (y c b 0)=ax n):=by
 unfold cZ
 (simp_all;omega)
def ab_{d:Y C}{b:aA}{n:C}(s:(hj d b n).no=0):b.no=0:=by by_cases c:b.no=0;exact c;simp_all[hj,wC,ad,vS]
def ajp{d:Y C}{E:Z}{z H:aA->aW×aA}(R:qv d E z)(T:Ek d E z H){b:aA}(X:b.ok d)(o:b.no=0)(A:b.x<U d)(av:U d-b.x<E+1):Cf (jd z d b) (mf H d b):=by
 have N:=tW o A;have t:b.step.ok d:=⟨A,X.2⟩;have:b.step.no=0:=o;have:b.step.x=b.x+1:=aa;have am:∀I,cZ d b.x I=aH (ax (y d b.x 0)=ax I):=RH A;have O:kv d b.x=(aH (32<=(ax (y d b.x 0):L))&&aH ((ax (y d b.x 0):L)<=126)):=by unfold kv;rw[oY q,B0]
 unfold jd mf;generalize au:y d b.x 0=n at N am O⊢;have f:∀I,fc d b I=aH (ax n=ax I):=λI=>by grind[ky]
 have G:∀I,ax n=ax I->aI d b I=b.step:=λI e=>by simp_all[aI,af,oY]
 have v:∀I,¬ax n=ax I->aI d b I=b:=λI e=>by simp_all[aI,ad,Aa]
 have F:∀m,ax n=m->32<=m->m<=126->¬kv d b.x=ae:=λm ap aq ar=>by(simp_all;omega)
 by_cases h:ax n=ax (40:C);have g:ax n=40:=h;rw[f,af<|oY h,G 40 h,ad<|F 40 g a2 a2,af<|show(ax n:L)=40 by omega];have s:=T b.step t o q;refine⟨M1 (λ_=>(R b.step t q).1) s.1,λe=>s.2<|ab_ e⟩;have:¬ax n=40:=h;rw[f 40,ad bi,v 40 h];have HR:¬(ax n:L)=40:=q;by_cases K:ax n=ax (91:C);grind[awe];have:¬ax n=91:=K;rw[f 91,ad bi,v 91 K];have D:¬(ax n:L)=91:=q;by_cases i:ax n=ax (46:C);have g:ax n=46:=i;rw[f 46,af<|oY i,G 46 i,ad<|F 46 g a2 a2,ad HR,ad D,af<|show(ax n:L)=46 by omega];refine⟨.refl _,λ_=>?_⟩;simp[axQ];have:¬ax n=46:=i;rw[f 46,ad bi,v 46 i];have P:¬(ax n:L)=46:=q;by_cases k:ax n=ax (92:C);have g:ax n=92:=k;rw[f 92,af<|oY k,G 92 k,ad<|F 92 g a2 a2,ad HR,ad D,ad P,af<|show(ax n:L)=92 by omega];have s:=YI (J:=cF) t o;have M:=(vR t).2.2;generalize eC d b.step=w at s M⊢;generalize ko d cF b.step=Q at s⊢;cases hm:w.many with|true=>rw[af aa];exact⟨s.r,λe=>by show jR w.s=jR Q.s;rw[(s.many e hm).2,arA M]⟩|false=>rw[ad ao];refine⟨s.r,λe=>?_⟩;have:Q.s=cF.add w.c w.c:=b0 (s.one e hm).2<|afb gt;simp_all
 have:¬ax n=92:=k;rw[f 92,ad bi,v 92 k];have ak:¬(ax n:L)=92:=q;have u:=axO n;unfold jy;rw[N];by_cases l:kv d b.x=ae;rw[af l];have B:ax n<32\/126<ax n:=by
  rw[O] at l;rcases Gn.1 l with e|e
  (simp_all;omega)
  (simp_all;omega)
 rw[af<|show(ax n<32\/126<ax n)\/0<=eG rZ n from bj B];exact⟨.refl _,λe=>cg e<|iq a2⟩;rw[ad l,ad HR,ad D,ad P,ad ak];have B:¬(ax n<32\/126<ax n):=λe=>l (by(simp_all;omega));by_cases p:gL FH n;rw[af p];rw[p,kk] at u;rw[af<|show(ax n<32\/126<ax n)\/0<=eG rZ n from bp u];exact⟨.refl _,λe=>cg e<|iq a2⟩;rw[ad p];have S:gL FH n=ae:=by simpa using p
 rw[S,vt] at u;rw[ad<|show¬((ax n<32\/126<ax n)\/0<=eG rZ n) fromλe=>e.elim B u];refine⟨.refl _,λ_=>?_⟩;simp[axP]
def avg{d:Y C}{B:Z}{c:aW}{b:aA}(s:¬b.no=0):mx d B c b=(c,b):=aex GC GC GC GC
def IU{e:Y C}:∀B{m:Z}{r p:aW}{b t:aA},(b.no=0->b.ok e)->iW b t->(b.no=0->r=p)->(b.no=0->U e<b.x+B)->(b.no=0->U e<b.x+m)->Cf (mx e B r b) (nw e m p t)
|B,m,r,p,b,t,d,v,he,H,I=>by
 by_cases c:b.no=0;have d:=d c;have:=d.1;have F:=he c;have G:=bQ<|v.eq c;subst F;subst G;obtain⟨l,rfl⟩:∃l,B=l+1:=⟨B-1,q⟩;obtain⟨y,rfl⟩:∃y,m=y+1:=⟨m-1,q⟩;have:b.step.x=b.x+1:=aa;have o:∀{n:C},cZ e b.x n->b.step.ok e:=λf=>⟨(la f).1,d.2⟩;rw[mx,nw,af c];by_cases h:cZ e b.x 42;rw[ky d c,af h,af h,wB d c h];exact IU l (λ_=>o h) (.refl _) (λ_=>aa) (λ_=>q) λ_=>q;have A:¬fc e b 42:=by rw[ky d c];exact h
 rw[ad A,ad h,jM A];by_cases i:cZ e b.x 43;rw[ky d c,af i,af i,wB d c i];exact IU l (λ_=>o i) (.refl _) (λ_=>aa) (λ_=>q) λ_=>q;have D:¬fc e b 43:=by rw[ky d c];exact i
 rw[ad D,ad i,jM D];by_cases k:cZ e b.x 63;rw[ky d c,af k,af k,wB d c k];exact IU l (λ_=>o k) (.refl _) (λ_=>aa) (λ_=>q) λ_=>q;have E:¬fc e b 63:=by rw[ky d c];exact k
 rw[ad E,ad k,jM E];by_cases g:cZ e b.x 123;rw[ky d c,af g,af g,wB d c g];have w:=o g;have u:=arJ w c;have s:=KY w;refine IU l (λ_=>s.1) u.1 (λf=>?_) (λf=>?_) λf=>?_;have:=u.2 f
 (simp;omega)
 have:=j2 (s.2.2 c) (· f);omega;have:=j2 (s.2.2 c) (· f);omega;have z:¬fc e b 123:=by rw[ky d c];exact g
 rw[ad z,ad g,jM z];trivial;rw[avg c,aey λn=>c<|v.no.2 n];trivial
 termination_by B=>B
def ats{b:Y C}{e:Z}{d f:aA->aW×aA}(g:qv b e d)(m:Ek b e d f){c:aA}(i:c.ok b)(k:c.no=0)(l:c.x<U b)(h:U b-c.x<e+1):Cf (m1 d b c) (u9 f b c):=by have s:=ajp g m i k l h;exact IU _ (λ_=>(GX g i h).1) s.1 s.2 (λ_=>q) λ_=>q
def acI{c:Y C}{b:aA}:xO c b↔BC c b:=by unfold xO BC;by_cases s:b.no=0/\b.x<U c;rw[tW s.1 s.2,RH s.2,RH s.2,vt,vt];rfl;omega
def adu{d:Y C}{o:Z}{f l:aA->aW×aA}(m:qv d o f)(t:Ek d o f l):∀B{ju:Z}{H i:Y aW}{b k:aA},(b.no=0->b.ok d)->iW b k->(b.no=0->H=i)->(b.no=0->U d<b.x+B)->(b.no=0->U d<b.x+ju)->(b.no=0->U d-b.x<o+1)->iW (ku f d B H b).2 (q2 l d ju i k).2/\((ku f d B H b).2.no=0->(ku f d B H b).1=(q2 l d ju i k).1)|B,ju,H,i,b,k,g,he,y,A,D,z=>by by_cases e:b.no=0;have g:=g e;have:=g.1;have r:=z e;have v:=y e;have w:=bQ<|he.eq e;subst v;subst w;obtain⟨n,rfl⟩:∃n,B=n+1:=⟨B-1,q⟩;obtain⟨u,rfl⟩:∃u,ju=u+1:=⟨ju-1,q⟩;rw[ku,q2];by_cases s:xO d b;rw[af s,af<|acI.1 s];have p:=ats m t g e s.1.1.2 r;have h:=NB m g r;refine adu m t n (λ_=>h.1) p.1 (λc=>by rw[p.2 c]) (λc=>?_) (λc=>?_) λc=>?_;have:=j2 (h.2.2 e) (· c);omega;have:=j2 (h.2.2 e) (· c);omega;have:=j2 (h.2.2 e) (· c);omega;rw[ad s,ad λc=>s<|acI.2 c];trivial;rw[Tx λc=>e c.1.1.1,adq λc=>e<|he.no.2 c.1.1.1];trivial
 termination_by B=>B
def adt{b:Y C}{e:Z}{d f:aA->aW×aA}(h:qv b e d)(l:Ek b e d f){c g:aA}(m:c.no=0->c.ok b)(i:iW c g)(k:c.no=0->U b-c.x<e+1):Cf (jJ d b c) (m0 f b g):=by have s:=adu h l (U b+1) (ju:=U b+1) (H:=[]) m i (λ_=>aa) (λ_=>q) (λ_=>q) k;unfold jJ m0;exact⟨s.1,λn=>aq⟩
theorem PU{e:aA->aW×aA}{d:Y C}{B:Z}{c:Y aW}{b:aA}(s:¬fc d b 124):j6 e d B c b=(c,b):=by
 cases B;rfl
 next B=>rw[j6,ad s,jM s]
def Wu{c:Y C}{o:Z}{g l:aA->aW×aA}(m:qv c o g)(r:Ek c o g l):∀B{ju:Z}{H i:Y aW}{b k:aA},(b.no=0->b.ok c)->iW b k->(b.no=0->H=i)->(b.no=0->U c<b.x+B)->(b.no=0->U c<b.x+ju)->(b.no=0->U c-b.x<o+1)->iW (j6 g c B H b).2 (qA l c ju i k).2/\((j6 g c B H b).2.no=0->(j6 g c B H b).1=(qA l c ju i k).1)
|B,ju,H,i,b,k,f,he,z,A,D,E=>by
 by_cases e:b.no=0;have f:=f e;have:=f.1;have w:=z e;have y:=bQ<|he.eq e;subst w;subst y;obtain⟨n,rfl⟩:∃n,B=n+1:=⟨B-1,q⟩;obtain⟨v,rfl⟩:∃v,ju=v+1:=⟨ju-1,q⟩;rw[j6,qA];by_cases s:cZ c b.x 124;have t:b.step.ok c:=⟨(la s).1,f.2⟩;have:b.step.x=b.x+1:=aa;rw[ky f e,af s,af<|show b.no=0/\cZ c _ 124=ag from⟨e,s⟩,wB f e s];have p:=adt m r (λ_=>t) (.refl _) λ_=>q;have h:=BB m t q;refine Wu m r n (λ_=>h.1) p.1 (λd=>by rw[p.2 d]) (λd=>?_) (λd=>?_) λd=>?_;have:=j2 (h.2.2 e) (· d);omega;have:=j2 (h.2.2 e) (· d);omega;have:=j2 (h.2.2 e) (· d);omega;have u:¬fc c b 124:=by rw[ky f e];exact s
 rw[ad u,ad<|show¬(b.no=0/\cZ c _ 124) fromλd=>s d.2,jM u];trivial;rw[PU GC,Wr λd=>e<|he.no.2 d.1];trivial
 termination_by B=>B
def PW{S:Y C}:∀b,Ek S b (ek S b) (ev S b)
|0=>λk _ _ e=>cg e (yl _)|b+1=>λk h l e=>by have i:=PW (S:=S) b;have d:=w6 (S:=S) b;have f:=adt d i (λ_=>h) (.refl _) λ_=>q;have g:=BB d h e;have s:=Wu d i (U S+2) (ju:=U S+2) (H:=[(jJ _ S k).1]) (λ_=>g.1) f.1 (λc=>by rw[f.2 c]) (λ_=>q) (λ_=>q) (λc=>by rcases g.2.2 l with n|n;omega;omega);rw[ek,ev];exact⟨s.1,λc=>aq⟩
theorem auX S:zs S=iR S:=by
 unfold zs iR;by_cases f:2000<U S;simp_all;rw[ad f,ad f];have s:=PW (S:=S) (U S+1) ⟨0,0,0⟩ ⟨dJ _,q⟩ aa q;generalize ek S _ _=i at s⊢;generalize ev S _ _=k at s⊢;obtain⟨o,b⟩:=i;obtain⟨p,r⟩:=k;obtain⟨d,e⟩:=s;dsimp at d e⊢;by_cases c:b.no=0;rw[d.eq c,e c];simp_all;have g:(if b.x<U S then cw b b.x 6 else b)=b:=by split;exact vS c;rfl
 have h:=λn=>c<|d.no.2 n;rw[g,ad λn=>h n.1];unfold wo;rcases d with⟨n,_⟩|⟨_,l,m⟩;omega;simp_all
def ae8{b:Y (L×L)}{s:L}{c:Z}:c<U b->y (r4 b s) c av=if c=U b-1 then((y b (U b-1) av).1,s) else y b c av:=by unfold r4;grind
def aeL{J:a6}:∀b,(∀e∈gO J b,0<=e.1/\e.1<=e.2)/\∀d,0<d->d<U (gO J b)->(y (gO J b) (d-1) av).2+2<=(y (gO J b) d av).1
|0=>⟨λe s=>cf,λd _ s=>cf⟩|b+1=>by
 obtain⟨i,k⟩:=aeL b;obtain⟨r,t,o⟩:=N1 J b;have u:=I2 J b;rw[gO];by_cases w:y J b ae=ae;rw[af w];exists i;rw[ad w];by_cases g:0<b/\y J (b-1) ae;rw[af g];have x:=F0 J g.1 g.2;generalize gO J b=c at i k r t o u x⊢;have:y c (U c-1) av∈c:=dL q;refine⟨λe m=>?_,λd p h=>?_⟩;unfold r4 at m;rcases Vm m with s|s;grind;grind;rw[DC] at h;have:=k d p h;rw[ae8 q,ae8 h,ad q];by_cases f:d=U c-1;rw[af f,<-f];exact this;rw[ad f];exact this;rw[ad g];have v:0<U (gO J b)->y J (b-1) ae=ae:=λs=>by cases n:y J (b-1) ae;rfl;exact cg ⟨q,n⟩ g
 generalize gO J b=c at i k r t o u v⊢;refine⟨λe m=>?_,λd p h=>?_⟩;rcases fp.1 m with s|s;exact i e s;rw[eu.1 s];exact⟨by show(0:L)<=b;omega,D1 _⟩;rw[cd,ri] at h;rw[dX,rh q,<-dX];by_cases f:d=U c;subst f;have hm:y c (U c-1) av∈c:=dL q;have:=o (v q) _ hm;rw[dX (l:=c++_),s9<|bv _,oX];show(y c (U c-1) av).2+2<=b;omega;rw[dX (l:=c++_),rh q,<-dX];exact k d p q
def Tc{B:L}{J:Y (L×L)}{b:Y aW}(s:oN (.mk B J 0 0 b))(c:∀d∈b,e1 d):e1 (.mk B J 0 0 b):=p8.2 ⟨s,c⟩
def acG{B:L}(c:B=1\/B=2):e1 (.mk B [] 0 0 []):=by refine Tc ⟨⟨?_,?_⟩,λ_=>aa,λs=>?_,?_,λg d=>?_,?_,λf _ b=>?_,λ_=>aa,λs=>?_,λ_=>⟨aa,aa⟩,λs=>?_⟩ λh e=>cf;show 1<=B;omega;show B<=6;omega;have:B=6:=s;omega;show 0<=3000;omega;trivial;show 0<=256;omega;trivial;have:B=3:=s;omega;have:B=4\/B=5:=s;omega
theorem Tb{J:a6}(f:U J=256):e1 (jR J)/\(jR J).parts=1:=by rw[YJ f];split;exists acG (bj aa);obtain⟨d,e⟩:=aeL 256;refine⟨Tc ⟨⟨by show 1<=3;omega,by show 3<=6;omega⟩,λ_=>aa,λs=>cg (show(3:L)=6 from s) a2,by show 0<=3000;omega,λc b=>?_,I2 J 256,e,λs=>cg aa<|show(3:L)≠3 from s,λ_ n=>?_,λ_=>⟨aa,aa⟩,λs=>?_⟩ λh g=>cf,aa⟩;have:=d c b;have:=(N1 J 256).1 c b;omega;have:gO J 256=[]:=n;simp_all;have:(3:L)=4\/(3:L)=5:=s;omega
theorem Nk{d:aW}{b c:L}(h:e1 d)(e:0<=b)(f:b<=50)(g:c=-1\/b<=c/\c<=50):e1 (.mk 6 [] b c [d]):=by refine p8.2 ⟨⟨⟨by show 1<=6;omega,by show 6<=6;omega⟩,λs=>cg (show(6:L)<4 from s) a2,λ_=>⟨aa,e,f,g⟩,by show 1<=3000;omega,λo m=>?_,by show 0<=256;omega,λn _ l=>?_,λ_=>aa,λs=>cg (show(6:L)=3 from s) a2,λs=>cg aa<|show(6:L)≠6 from s,λs=>?_⟩,λk i=>?_⟩;trivial;trivial;have:(6:L)=4\/(6:L)=5:=s;omega;rw[eu.1<|show k∈[d] from i];exact h
def acH{B:L}{b:Y aW}(g:B=4\/B=5)(c:∀e∈b,e1 e)(d:U b<=3000):e1 (oR B b):=by unfold oR;split;exact acG<|bp aa;split;simp_all;refine Tc ⟨⟨by show 1<=B;omega,by show B<=6;omega⟩,λs=>?_,λs=>?_,d,λk h=>?_,by show 0<=256;omega,λi _ f=>?_,λ_=>aa,λs=>?_,λ_=>⟨aa,aa⟩,λ_=>?_⟩ c;have:B<4:=s;omega;have:B=6:=s;omega;trivial;trivial;have:B=3:=s;omega;show 2<=U b;omega
theorem atW{b:Y aW}(s:U b=1):(y b 0 (.mk 0 [] 0 0 [])).parts=fy b:=by obtain⟨c,rfl⟩:=JY.1 s;rfl
def adN:∀c b,fy (c++b)=fy c+fy b|[],b=>by rw[na,fy,mC]|d::c,b=>by rw[kh,fy,fy,adN c b,z1]
theorem adO c b:fy (c++[b])=fy c+b.parts:=by simp[adN,fy,qp]
def afk B b:(oR B b).parts<=max 1 (fy b+(if 2<=U b then 1 else 0)):=by unfold oR;split;show 1+fy []<=_;grind[fy];split;grind[atW];rw[aW.parts_eq,af q];show 1+fy b<=_;omega
theorem atV{b:Y aW}(s:U b=0):fy b=0:=by rw[O6.1 s,fy]
def aA.lL.no{b d:aA}(s:b.lL d)(e:d.no=0):b.no=0:=by by_cases c:b.no=0;exact c;have:=s.1 c;simp_all
theorem DQ{c:Y C}{b:aA}{n:C}:(aI c b n).no=b.no:=by unfold aI;split<;>rfl
def Ei(d:Y C)(e:Z)(c:aA->aW×aA):Prop:=∀b:aA,b.ok d->U d-b.x<e->(c b).2.no=0->e1 (c b).1/\(c b).1.parts+3*b.x<=3*(c b).2.x+1
def awf{b:Y C}{c:aA}(s:c.ok b):e1 (qg b c).1/\(qg b c).1.parts=1:=by have:=N7 (B:=U b+1) (hV (n:=94) s) gt;grind[qg,Tb,a6.zm]
def M0{c:Y C}{b:aA}{n:C}(s:(hj c b n).no=0):b.no=0/\(hj c b n).x=b.x+1:=by exists ab_ s;unfold hj at s⊢;split at s;rename_i d;rw[af d];rfl;grind[cg,iq]
def ajq{c:Y C}{g:Z}{d:aA->aW×aA}(p:qv c g d)(r:Ei c g d){b:aA}(s:b.ok c)(t:U c-b.x<g+1)(e:(jd d c b).2.no=0):e1 (jd d c b).1/\(jd d c b).1.parts+2+3*b.x<=3*(jd d c b).2.x:=by
 have h:=(GX p s t).2;have:=j2 (h.2<|h.no e) (· e);have one:e1 _/\(jd d c b).1.parts=1->e1 (jd d c b).1/\(jd d c b).1.parts+2+3*b.x<=3*(jd d c b).2.x:=λm=>⟨m.1,q⟩;have i:=hV (n:=40) s;have k:=hV (n:=91) i;have:=hV (n:=92)<|hV (n:=46) k;by_cases f:fc c b 40;have l:jd d c b=((d (aI c b 40)).1,hj c (d (aI c b 40)).2 41):=by unfold jd;rw[af f]
 rw[l] at e⊢;have:=(ud s f).1;have:(aI c b 40).x=b.x+1:=by unfold aI;rw[af f];rfl
 have o:=M0 e;have:=r _ i q o.1
 (simp_all;omega)
 apply one;unfold jd;rw[ad f];split;exact awf k;split;simp[Tb,a6.zm,trans,gt];grind[Tb,vR,a6.w5,trans,gt]
theorem S7{c:Y C}{b:aA}{m:Z}:(gB c b m).2.no=0->(gB c b m).1<=50/\m<=(gB c b m).1:=by grind[gB,cg,iq]
theorem ajZ{c:Y C}{b:aA}(g:b.ok c)(s:(k6 c b).2.2.no=0):(k6 c b).1<=50/\((k6 c b).2.1=-1\/((k6 c b).1:Z)<=(k6 c b).2.1/\(k6 c b).2.1<=50):=by
 unfold k6 at s⊢;split at s;rename_i d;rw[af d];split at s;have e:=(M0 s).1;grind[S7,DQ,It,gB,hV];rename_i f;rw[ad f];have e:=(M0 s).1;exact⟨(S7<|(DQ).symm.trans e).1,bj aa⟩;rename_i d;rw[ad d];have:=(S7<|(DQ).symm.trans (M0 (n:=125) s).1).1
 (simp;omega)
theorem NV{b:aW}{c d:L}:(aW.mk 6 [] c d [b]).parts=1+b.parts:=by rfl
def IV{d:Y C}{p:Z}:∀B{f:aW}{b:aA},b.ok d->(b.no=0->e1 f/\f.parts+2+p<=3*b.x)->(mx d B f b).2.no=0->e1 (mx d B f b).1/\(mx d B f b).1.parts+2+p<=3*(mx d B f b).2.x
|0,f,b,_,he,c=>he c|B+1,f,b,s,he,c=>by
 have r:=hV (n:=42) s;have o:=hV (n:=43) r;have h:=hV (n:=63) o;have i:=hV (n:=123) h;have g:=KY i;have:∀{b:aA}{n:C},fc d b n->(aI d b n).x=b.x+1:=λ{b n} e=>by unfold aI;rw[af e];rfl
 rw[mx] at c⊢;by_cases k:fc d b 42;rw[af k] at c⊢;refine IV B r (λe=>?_) c;have:=he<|(DQ).symm.trans e;exact⟨Nk this.1 a2 a2<|bj aa,by grind[NV]⟩;rw[ad k] at c⊢;rw[jM k] at c o h i g⊢;by_cases l:fc d b 43;rw[af l] at c⊢;refine IV B o (λe=>?_) c;have:=he<|(DQ).symm.trans e;exact⟨Nk this.1 a2 a2<|bj aa,by grind[NV]⟩;rw[ad l] at c⊢;rw[jM l] at c h i g⊢;by_cases m:fc d b 63;rw[af m] at c⊢;refine IV B h (λe=>?_) c;grind[DQ,Nk,NV];rw[ad m] at c⊢;rw[jM m] at c i g⊢;by_cases t:fc d b 123;rw[af t] at c⊢;refine IV B g.1 (λe=>?_) c;have u:=g.2.no e;have:=j2 (g.2.2 u) (· e);grind[DQ,ajZ,Nk,Int.natCast_nonneg,NV];simp_all[ad,jM]
def att{b:Y C}{e:Z}{d:aA->aW×aA}(f:qv b e d)(i:Ei b e d){c:aA}(s:c.ok b)(g:U b-c.x<e+1)(h:(m1 d b c).2.no=0):e1 (m1 d b c).1/\(m1 d b c).1.parts+2+3*c.x<=3*(m1 d b c).2.x:=IV _ (GX f s g).1 (ajq f i s g ·) h
def adw{c:Y C}{i:Z}{e:aA->aW×aA}(h:qv c i e)(m:Ei c i e):∀B{d:Y aW}{b:aA},b.ok c->(b.no=0->U c-b.x<i+1)->(b.no=0->∀g∈d,e1 g)->(ku e c B d b).2.no=0->(∀g∈(ku e c B d b).1,e1 g)/\fy (ku e c B d b).1+2*U (ku e c B d b).1+3*b.x<=fy d+2*U d+3*(ku e c B d b).2.x
|0,d,b,_,_,o,f=>⟨o f,bv _⟩|B+1,d,b,s,p,o,f=>by rw[ku] at f⊢;by_cases l:xO c b;rw[af l] at f⊢;have r:=l.1.1.1;have t:=NB h s<|p r;by_cases k:(m1 e c b).2.no=0;have:=att h m s (p r) k;have:=adw h m B t.1 (λ_=>q) (λ_ g u=>by grind) f;grind[adO,List.length_append,List.length_singleton];rw[Tx λn=>k n.1.1.1] at f;trivial;simp_all
def adv{b:Y C}{e:Z}{d:aA->aW×aA}(f:qv b e d)(m:Ei b e d){c:aA}(s:c.ok b)(g:U b-c.x<e+1)(h:(jJ d b c).2.no=0):e1 (jJ d b c).1/\(jJ d b c).1.parts+3*c.x<=3*(jJ d b c).2.x+1:=by have i:=adw f m _ s (λ_=>g) (λ_ o n=>cf) h;have k:=Nt f (B:=U b+1) (H:=[]) s g;have:=afk 4 (ku d b (U b+1) [] c).1;have:=s.2;have l:=k.2.2;simp at l;unfold jJ;exists acH (bj aa) i.1 q;grind[fy,List.length_nil,oR,ku]
def Ww{c:Y C}{k:Z}{e:aA->aW×aA}(h:qv c k e)(l:Ei c k e):∀B{d:Y aW}{b:aA},b.ok c->(b.no=0->U c-b.x<k+1)->(b.no=0->∀g∈d,e1 g)->(j6 e c B d b).2.no=0->(∀g∈(j6 e c B d b).1,e1 g)/\fy (j6 e c B d b).1+2*U (j6 e c B d b).1+3*b.x<=fy d+2*U d+3*(j6 e c B d b).2.x/\U (j6 e c B d b).1<=U d+B
|0,d,b,_,_,m,f=>⟨m f,bv _,bv _⟩|B+1,d,b,s,t,m,f=>by
 rw[j6] at f⊢;by_cases i:fc c b 124;rw[af i] at f⊢;have:=ud s i;have o:=hV (n:=124) s;have:(aI c b 124).x=b.x+1:=by unfold aI;rw[af i];rfl
 have r:=BB h o q;by_cases p:(jJ e c<|aI c b 124).2.no=0;have:=adv h l o q p;have:=Ww h l B r.1 (λ_=>q) (λ_ g u=>by grind) f;grind[adO,List.length_append,List.length_singleton];grind[PU,wC,cg];simp_all[ad,jM,bv,z2]
def Wv{S:Y C}:∀b,Ei S b (ek S b)
|0=>λc _ f _=>cg f (yl _)|b+1=>λc h f m=>by
 have l:=Wv (S:=S) b;have e:=w6 (S:=S) b;have k:=BB e h f;have:=h.2;have i:(j6 _ S _ _ _).2.no=0:=m;have d:(jJ (ek S b) S c).2.no=0:=by by_cases d:(jJ (ek S b) S c).2.no=0;exact d;grind[PU,wC,cg]
 have:=adv e l h f d;have g:=Ww e l _ k.1 (λ_=>q) (λ_ r p=>aq) i;have:=afk 5 (j6 (ek S b) S (U S+2) [(jJ (ek S b) S c).1] (jJ (ek S b) S c).2).1;have n:=g.2.1;have o:=g.2.2;rw[ri] at o;rw[fy,fy,ri] at n;exists acH (bp aa) g.1 q;have:=by have:=(PV e (B:=U S+2) (H:=[(jJ (ek S b) S c).1]) k.1 λ_=>q).2;exact j2 (this.2 d) (· i)
 grind[j6,ek,jJ,atV]
theorem au7{b:Y C}(f:U b<=2000)(e:(ek b (U b+1) ⟨0,0,0⟩).2.no=0):e1 (ek b (U b+1) ⟨0,0,0⟩).1/\(ek b (U b+1) ⟨0,0,0⟩).1.parts<=6001:=by
 have d:(⟨0,0,0⟩:aA).ok b:=⟨dJ _,f⟩;have c:U b-(⟨0,0,0⟩:aA).x<U b+1:=q;have:=Wv _ _ d c e;have:=(w6 _ _ d c).1.1
 (simp_all;omega)
def arz{b:Y C}:(ev b (U b+1) ⟨0,0,0⟩).2.no=0->U b<=2000->Cf (ek b (U b+1) ⟨0,0,0⟩) (ev b (U b+1) ⟨0,0,0⟩):=λ_ c=>
 PW _ _ ⟨dJ _,c⟩ aa q
theorem ZK{b:Y C}:U b<=2000->(ek b (U b+1) ⟨0,0,0⟩).2.no=0->e1 (ek b (U b+1) ⟨0,0,0⟩).1/\(ek b (U b+1) ⟨0,0,0⟩).1.parts<=1000000:=λd c=>by grind[au7]
def Rr{S:Y C}:U S<=2000->(ev S (U S+1) ⟨0,0,0⟩).2.no=0->e1 (ev S (U S+1) ⟨0,0,0⟩).1/\(ev S (U S+1) ⟨0,0,0⟩).1.parts<=1000000:=λd b=>by have s:=arz b d;have c:=s.1.no.2 b;rw[<-s.2 c];grind[ZK]
def aeo b:U b<=1048576->bh 116 [a8 b] (cv [cW (iR b).1,an aj (iR b).2.1,an aj (iR b).2.2]):=by grind[am8,ZK,auX]
def FZ{S:Y C}(c:(iR S).2.2=0):e1 (iR S).1/\(iR S).1.parts<=400/\(iR S).1.lV<=40:=by
 unfold iR at c⊢;split at c;trivial;have e:=Rr (S:=S) q;generalize ev S _ _=f at c e⊢;obtain⟨d,b⟩:=f;have:b.no=0/\(wo d (if b.no=0/\b.x<U S then cw b b.x 6 else b)).1=d/\d.lV<=40/\d.parts<=400:=by generalize g:(if b.no=0/\b.x<U S then cw b _ 6 else b)=h at c⊢;unfold wo at c⊢;split at c;trivial;grind
 grind
def dS:Y Z->Z->Z|[],_=>0|c::b,B=>if c/64=B then dS b B|||2^(c%64) else dS b B
theorem od:∀c B b,(dS c B).testBit b=aH (b<64/\64*B+b∈c)|[],B,b=>by simp[dS]|d::c,B,b=>by rw[dS];split;rw[VA,od c B b,VB,nA];grind;rw[od c B b,nA];grind
theorem DV{hR:Y Z}{B:Z}:dS hR B<2^64:=by refine Nat.lt_pow_two_of_testBit _ λb c=>?_;grind[od,decide_eq_false_iff_not]
def agM{c K:Y Z}{B:Z}(s:∀b,b/64=B->(b∈c↔b∈K)):dS c B=dS K B:=by refine B5 λd=>?_;rw[od,od,nA];grind
def ayK{d K:Y Z}{b:Z}(s:∀c,c∈K↔c∈d\/c=b):dS K (b/64)=dS d (b/64)|||2^(b%64):=by refine B5 λe=>?_;rw[VA,od,od,VB,nA];grind
def ayP{c d p:Y Z}(s:∀b,b∈p↔b∈c\/b∈d)B:dS p B=dS c B|||dS d B:=by refine B5 λe=>?_;rw[VA,od,od,od,nA];grind
def ayL{c d p:Y Z}(s:∀b,b∈p↔b∈c/\b∈d)B:dS p B=dS c B&&&dS d B:=by refine B5 λe=>?_;rw[Vz,od,od,od,nA];grind
def ayO{c d:Y Z}{R:Z}(f:jC c)(g:jC d)(h:∀b∈c,b<64*R)(i:∀b∈d,b<64*R)(s:∀B<R,dS c B=dS d B):c=d:=by
 refine RE f g λb=>?_;let key:∀{e:Y Z},b∈e↔(dS e _).testBit _:=λ{e}=>by
  rw[od,wR,show 64*(b/64)+b%64=b by omega]
  (simp;omega)
 grind
structure ss(E S:Z):Prop where
 one:E.testBit S
 zero:∀Q<S,E.testBit Q=ae
def ss.eq{c b:Z}(s:ss c b):c=2^b*(2*(c/2^(b+1))+1):=by
 let e:c%2^b=0:=by
  refine B5 λd=>?_;rw[Nat.testBit_mod_two_pow,Nat.zero_testBit];by_cases n:d<b;rw[s.zero d n,Bool.and_false]
  (simp;omega)
 let f:=by have:=s.one;rw[Nat.testBit_eq_decide_div_mod_eq,wR] at this;exact this
 let g:c/2^(b+1)=c/2^b/2:=by rw[rn,Pe]
 let h:=yj c<|2^b;grind
def ss.pos{b c:Z}(s:ss b c):0<b:=by rw[s.eq];grind
def ss.pred{d b:Z}(s:ss d b)c:(d-1).testBit c=if c<b then ag else if c=b then ae else d.testBit c:=by
 have f:=Nat.two_pow_pos b;have g:d-1=2^b*(2*(d/2^(b+1)))+(2^b-1):=by have:=s.eq;rw[B8,z4] at this;omega
 have h:d=2^b*(2*(d/2^(b+1))+1)+0:=s.eq;rw[g,ahX _ q];by_cases n:c<b;grind;generalize d/2^(b+1)=m at*;by_cases I:c=b;simp_all;have:d.testBit c=(2*m+1).testBit (c-b):=by
  conv=>lhs;rw[h]
  rw[ahX _ f,ad n]
 obtain⟨e,i⟩:∃e,c-b=e+1:=⟨c-b-1,q⟩;grind
def ss.clear{b d:Z}(s:ss b d)c:(b&&&b-1).testBit c=(b.testBit c&&!aH (c=d)):=by rw[Vz,s.pred];grind
def ss.only{b c:Z}(s:ss b c)(e:b<2^64):b&&&2^64-b=2^c:=by
 let g:=s.pos;refine B5 λd=>?_;rw[Vz,VB,show 2^64-b=2^64-(b-1+1) by omega,Nat.testBit_two_pow_sub_succ q,s.pred];by_cases n:d<c
 (simp_all;omega)
 rw[ad n];by_cases I:d=c;rw[af I,I,s.one,oY aa,oY];rfl;refine pD λf=>?_;have:=ahW (i:=c)<|jZ e<|pG q q;rw[s.one] at this;trivial;grind
theorem agN{b:Z}{c:Y Z}(s:jC (b::c)):ss (dS (b::c) (b/64)) (b%64):=by
 cases s_.1 s;refine⟨?_,λd e=>?_⟩
 (simp[od,wR,ki];omega)
 grind[od,decide_eq_false_iff_not]
theorem ayM{b:Z}{c:Y Z}(s:jC (b::c)):dS (b::c) (b/64)&&&dS (b::c) (b/64)-1=dS c (b/64):=by cases s_.1 s;refine B5 λd=>?_;rw[(agN s).clear,od,od,nA];grind
theorem UO{b:Y Z}{B:Z}:dS b B=0↔∀c∈b,c/64≠B:=by constructor;intro s c f e;have:=od b B<|c%64;grind;intro s;refine B5 λd=>?_;grind[od,decide_eq_false_iff_not]
theorem ayN{b:Z}{c:Y Z}{B:Z}(s:jC (b::c))(g:∀d∈b::c,64*B<=d)(e:dS (b::c) B≠0):b/64=B:=by refine pD λn=>e<|UO.2 λd h f=>?_;grind[List.pairwise_cons,List.mem_cons_self]
def ayQ{c:Y Z}{B:Z}(d:∀b∈c,64*B<=b):dS c B=0->∀b∈c,64*(B+1)<=b:=λb e=>by grind[UO]
section
section
variable{t:X}{M:a7}{B:V->Prop}
def ari{n:aw}{f:aP}{b:dd}{d:L}{e:L}(k:B (an b e))(l:M.op=.unOp .neg n f:=by rfl)(m:val i J.c f=W (an b d):=by rfl)(s:hf b (-d)=e:=by rfl):er P K p i t M J B:=by subst s;exact .of aa (λ_ g h o aD=>adW l<|hK g h m dZ aa (o:=o) (aD:=aD)) k
def ara{v k z:aw}{f u:cH}{w s:aP}{e t r n T:Z}{U:Y V}{S:dd}{x:L}{b h:Z}(F:B (.dC e r h))(G:M.op=o0 v w s:=by rfl)(N:K.find v=W f:=by rfl)(bN:f.d=.array t k:=by rfl)(I:f.O=ae:=by rfl)(C:K.find k=W u:=by rfl)(Q:val i J.c w=W (.dC e r n):=by rfl)(A:ci J.az e=W (.j T z U):=by rfl)(D:val i J.c s=W (an S x):=by rfl)(R:x=(b:L):=by first|rfl|omega)(E:b<t:=by exact Kj)(kp:h=n+b*u.size:=by first|rfl|(show _=0+_*1;omega)):er P K p i ae M J B:=.n5 (λo l m y=>by subst kp;let g:=(o.find N).g5 I;rw[bN] at g;obtain⟨X,H⟩:=j7 _ A;exact adR g (o.find C).au G (iU l m Q dZ y) H (iU l m D dZ y) R E) F
end
def mQ(b:Z->Z):V:=.vec 32 (.ints ej<|(bM 32).map λB=>((b B:Z):L)) []
def c7(b:Y Z):V:=mQ<|dS b
theorem amA b:(mQ b).cells=(bM 32).map λB=>V.int ej (b B:Z):=by rfl
def QI{b:Z->Z}:(mQ b).cells.length=32:=ba
theorem qK{b:Y Z}:(c7 b).cells.length=32:=QI
def Hl{b:Z->Z}{B:Z}:B<32->(mQ b).cells[B]?=W (an ej (b B:Z)):=by grind[amA,List.getElem?_range]
def QJ{ar u:Z->Z}{B c:Z}(e:B<32)(g:u B=c)(f:∀b≠B,u b=ar b):(mQ ar).cells.set B (an ej (c:Z))=(mQ u).cells:=by refine jn λd=>?_;rw[qo];by_cases k:d<32;rw[Hl k,Hl k,QI]<;>grind;simp_all[zV,QI,ad]
def tA{b:Z->Z}:(mQ b).wF:=ba
def aye:∀n:Z,n<64->2^n*285870213051353865%18446744073709551616/288230376151711744<64/\y He (2^n*285870213051353865%18446744073709551616/288230376151711744) 0=n:=cf
def ayZ{b n:Z}(c:b<18446744073709551616)(s:ss b n):n<64:=by refine pD λd=>?_;have:=ahW (i:=n)<|jZ c (by rw[show 18446744073709551616=2^64 from aa];exact pG q q);rw[s.one] at this<;>grind
def aqT{b n m:Z}:b*n%m=((b*n%m:Z):L):=ba
def ayf{b:Z}:b<64->(ab (V.int ez) He)[b]?=W (V.int ez (y He b 0)):=by let c:U He=64:=aa;simp_all
def ayd{b n:Z}(m:b<18446744073709551616)(c:ss b n):bh 86 [an ej b] (l n):=by
 refine bs func86 [] λp v=>?_;apply f<;>intro w
 .have:=c.pos;omega
 have r:=ayZ m c;let⟨k,h⟩:=aye n r;have e:hf IntKind.u64 (-b)=(2^64-b:Z):=by rw[OM];omega
 have o:je .and ej b (2^64-b:Z)=(2^n:Z):=by rw[P6 (by grind[Jw]) (by grind[Jw]),c.only m]
 have u:hf IntKind.u64 ((2^n:Z)*285870213051353865)=(2^n*285870213051353865%18446744073709551616:Z):=by exact aqT
 generalize t:2^n*285870213051353865%18446744073709551616/288230376151711744=d at k h;have g:(hf IntKind.u64 (je .and ej b (2^64-b:Z)*285870213051353865)).fdiv (2^min (aG (58:L)) (l7 IntKind.u64))=d:=by rw[o,u];have:=awA (z:=2^n*285870213051353865%18446744073709551616) (n:=58) a2;rw[<-t];simp only[l7];rw[show(58:Z)=(58:L) from aa] at this;rw[this,ahU]
 have i:=ayf k;rw[h] at i;generalize x:(2^64-b:Z)=y at e g;refine ari ?_ (s:=e);refine qX d (s:=g)<|Do (tv:=d) ?_;refine Fx (an ez n) (fi:=i)<|iG n<|aL
theorem awx{D:Z}(s:D<64):hf IntKind.u64 (1*2^min (aG (D:L)) (l7 IntKind.u64))=(2^D:Z):=by
 let b:min (aG (D:L)) (l7 IntKind.u64)=D:=by simp[l7];omega
 rw[b,Int.one_mul,OM];let c:2^D<18446744073709551616:=by exact ahT q s
 grind
theorem ax6{b:Z}(s:b<64):2^b<2^64:=ahT q s
def abC{c:Y Z}{d b:Z}:b∈ee c [d]↔b∈c\/b=d:=by rw[pp,eu]
def ayR{c:Y Z}{d b:Z}(s:b≠d/64):dS (ee c [d]) b=dS c b:=agM λf e=>by(simp[abC,cg];omega)
def xw(b K:Y Z)(c B:Z):Z:=if B<c then dS b B|||dS K B else dS b B
def apb b K:mQ (xw b K 32)=c7 (ee b K):=by unfold c7 mQ;congr 2;refine hY λB c=>?_;rw[xw,af aq,ayP (pp b K ·)]
def apd c K{b:Z}(d:b<32):(mQ (xw c K b)).cells.set b (an ej (dS c b|||dS K b:Z))=(mQ (xw c K (b+1))).cells:=QJ d (by simp[xw,af,yk]) λf e=>by unfold xw<;>grind
def apc c K{b:Z}:b<32->(mQ (xw c K b)).cells[b]?=W (an ej (dS c b:Z)):=by simp_all[Hl,xw,ad,wM]
def w9(b K:Y Z)(c B:Z):Z:=if B<c then dS b B&&&dS K B else dS b B
def EC(b K:Y Z):Y Z:=b.filter λc=>aH<|c∈K
def abE{c K:Y Z}{b:Z}:b∈EC c K↔b∈c/\b∈K:=by simp[EC,m9,wR]
def aj3 b K:mQ (w9 b K 32)=c7 (EC b K):=by unfold c7 mQ;congr 2;refine hY λB c=>?_;rw[w9,af aq,ayL λd=>abE]
def aj5 c K{b:Z}(d:b<32):(mQ (w9 c K b)).cells.set b (an ej (dS c b&&&dS K b:Z))=(mQ (w9 c K (b+1))).cells:=QJ d (by simp[w9,af,yk]) λf e=>by unfold w9<;>grind
def aj4 c K{b:Z}:b<32->(mQ (w9 c K b)).cells[b]?=W (an ej (dS c b:Z)):=by simp_all[Hl,w9,ad,wM]
def Lx b{D:Z}(c:D<32):(c7 b).cells[D]?=W (an ej (dS b D:Z)):=Hl c
attribute [local irreducible] dS
def adk{hR:Y Z}{D:Z}(k:D<2000):dF 155 [b 6000,l D] [(6000,ah 254 (c7 hR))] (cv []) [(6000,ah 254 (c7 (ee hR [D])))]:=by refine c4 func155 [] λn p i=>?_;let h:=DV (hR:=hR) (B:=D/64);let f:je .or ej (dS hR (D/64):Z) (2^(D%64):Z)=(dS hR (D/64)|||2^(D%64):Z):=WQ h<|ax6 q;let c:=QJ (ar:=dS hR) (u:=dS<|ee hR [D]) (B:=D/64) q (ayK λ_=>abC) λm e=>ayR e;rw[<-f] at c;let g:=awx (D:=D%64) q;let d:=Lx hR (D:=D/64) q;refine ei<|bw (λ_=>Fy D 64 aa) ?_;apply bw λ_=>kR (D/64) (D/64) aa (kp:=by show D/64=0+D/64*1;omega);refine bw (λ_=>hU (an ej (dS hR (D/64):Z)) aa (fi:=d))<|bw (λ_=>MT D 64 aa)<|bw (λ_=>iG (D%64:Z) aa) ?_;refine bw (λ_=>Fz aa (s:=g))<|bw (λ_=>kR (D/64) (D/64) aa (kp:=by show D/64=0+D/64*1;omega)) ?_;refine zM (c7<|ee hR [D]) (k9:=by grind[c7,qK]) (aU:=c)<|fz ?_;exact cJ
end
section
attribute [local irreducible] dS
def atu{d K:Y Z}:dF 249 [b 6000,fN 32 [c7 K] 0 0] [(6000,ah 254 (c7 d))] (cv []) [(6000,ah 254 (c7 (ee d K)))]:=by
 refine c4 func249 [] λo p m=>?_;refine e9 32 (λc=>⟨[(0,b 6000),(1,fN 32 [c7 K] 0 0),(5,l c)],[(6000,ah 254<|mQ<|xw d K c)],[]⟩) λc k=>?_;apply f<;>intro n
 .let e:c<32:=q;let g:=apd d K e;rw[<-WQ DV DV] at g;let h:=apc d K e;let i:=Lx K e;refine ei ?_;apply bw λ_=>kR c c aa (kp:=by show c=0+c*1;omega);refine bw (λ_=>hU (an ej (dS d c:Z)) aa (fi:=h))<|bw (λ_=>Do (tv:=c) aa (mo:=by show 0+c*1=c;omega)) ?_;refine bw (λ_=>Fx (an ej (dS K c:Z)) aa (fi:=i))<|bw (λ_=>kR c c aa (kp:=by show c=0+c*1;omega)) ?_;refine zM (mQ<|xw d K<|c+1) (k9:=cf) (aU:=g)<|jz []<|aY<|a4<|c+1
 obtain rfl:c=32:=q;rw[apb];exact cJ
def ath d K:bh 202 [c7 d,fN 32 [c7 K] 0 0] (c7 (EC d K)):=by
 refine bs func202 [] λp m=>?_;refine mv (c7 []) (e5:=cb)<|e9 32 (λc=>⟨[(1,fN 32 [c7 K] 0 0),(2,b 2),(4,b 4),(6,l c)],[(2,ah 254<|mQ<|w9 d K c),(4,ah 254<|c7 [])],[]⟩) λc k=>?_;apply f<;>intro n
 .let e:c<32:=q;let g:=aj5 d K e;rw[<-P6 (by rw[Jw];grind[DV]) (by grind[Jw,DV])] at g;let h:=aj4 d K e;let i:=Lx K e;refine ei ?_;apply bw λ_=>kR c c aa (kp:=by show c=0+c*1;omega);refine bw (λ_=>hU (an ej (dS d c:Z)) aa (fi:=h))<|bw (λ_=>Do (tv:=c) aa (mo:=by show 0+c*1=c;omega)) ?_;refine bw (λ_=>Fx (an ej (dS K c:Z)) aa (fi:=i))<|bw (λ_=>kR c c aa (kp:=by show c=0+c*1;omega)) ?_;refine zM (mQ<|w9 d K<|c+1) (k9:=cf) (aU:=g)<|jz []<|aY<|a4<|c+1
 obtain rfl:c=32:=q;rw[aj3];refine gY (bu:=tA)<|kT (c7<|EC d K) (h1:=qK) (fh:=qK)<|EV br<|.nU aa aa aa aa aa tA qK .nil
end
structure nd(R:bx)(aae F:Z)(seen:Y X)(O hR:Y Z)(Q:X)(cs D:Z):Prop where
 len:U seen=U R.aF
 src:y seen aae ae=ag
 dD:∀T,y seen T ae=ag->fe.Way (lq R) aae T
 x6:∀T∈O,y seen T ae/\T≠cs
 jw:dT O
 cl:∀T,y seen T ae=ag->T∉O->T≠cs->∀w∈y R.aF T [],y seen w ae=ag
 xe:∀w,w∈am D (y R.aF cs [])->y seen w ae=ag
 inc:fJ hR
 mem:∀v,v∈hR↔v<U R.gk/\y seen (y R.gk v 0) ae/\y R.gk v 0∉O
 fin:Q↔y seen F ae/\F∉O
def uC(b:Y Z)(c:L):Y Z:=if 0<=c then ee b [aG c] else b
def abD{c:Y Z}{d:L}{b:Z}:b∈uC c d↔b∈c\/d=b:=by grind[uC,pp,List.mem_singleton]
def aoS{b:Y Z}(s:jC b)c:jC (uC b c):=by grind[uC,xt]
def HF{b:Y X}{c:Z}:y b c ae=ag->c<U b:=by grind
theorem nd.start{d:bx}(i:rt d){b F:Z}(g:b<U d.aF):nd d b F (aR (cM (U d.aF) ae) b ag) [b] [] ae (U d.aF) 0:=by
 have f:∀c,y (aR (cM (U d.aF) ae) b ag) c ae↔c=b:=λc=>by grind
 refine⟨ao,(f b).2 aa,λc e=>?_,λc e=>?_,ao,λc e h=>?_,λm k=>?_,.nil,λl=>?_,?_⟩;rw[(f c).1 e];exact .refl _
 (simp_all;omega)
 simp_all;trivial;simp_all;simp_all
def nd.pop{c:bx}(l:rt c)(x:U c.gk<=2000){o e b:Z}{p:Y X}{r i:Y Z}{k:X}(s:nd c o e p (r++[b]) i k (U c.aF) 0):nd c o e p r (uC i (y c.gM b (-1))) (k||aH (b=e)) b 0:=by let z:=s.x6 b ao;let m:=vr.1 s.jw;let t:=λn=>m.2.2 b n b (eu.2 aa) aa;refine⟨s.len,s.src,s.dD,λh d=>⟨(s.x6 h aK).1,λn=>t<|n▸d⟩,m.1,λh d v w=>?_,λB A=>?_,⟨aoS s.inc.1 _,λg u=>?_⟩,λg=>?_,?_⟩;refine s.cl h d (λn=>?_) λn=>?_;simp_all;have:=HF d;have:=s.len;omega;trivial;rcases abD.1 u with f|f;exact s.inc.2 g f;have:=((l.FR b g).1 f).1;omega;rw[abD,s.mem,l.FR];grind;rw[sf,s.fin,wR];grind
def agc{c:Y Z}{b d:Z}:b<U c->d∈am (b+1) c->d∈am b c\/d=y c b 0:=by grind[rc,List.mem_singleton]
def nd.old{d:bx}{i h c b:Z}{e:Y X}{k f:Y Z}{g:X}(s:nd d i h e k f g c b)(l:b<U (y d.aF c []))(m:y e (y (y d.aF c []) b 0) ae=ag):nd d i h e k f g c (b+1):=⟨s.len,s.src,s.dD,s.x6,s.jw,s.cl,λo n=>(agc l n).elim (s.xe o) (·▸m),s.inc,s.mem,s.fin⟩
def nd.new{e:bx}(G:rt e){A u c f:Z}{g:Y X}{m r:Y Z}{t:X}(s:nd e A u g m r t c f)(w:y g c ae=ag)(o:f<U (y e.aF c []))(x:¬y g (y (y e.aF c []) f 0) ae):nd e A u (aR g (y (y e.aF c []) f 0) ag) (m++[y (y e.aF c []) f 0]) r t c (f+1):=by
 have v:lq e c (y (y e.aF c []) f 0):=by rw[dX,cT o];exact hL o
 generalize H:y (y e.aF c []) f 0=i at*;have:i<U g:=by rw[s.len];exact G.Jt _ _ v
 have h:∀b,y (aR g i ag) b ae↔y g b ae\/b=i:=λb=>by grind
 have z:∀b,b∈m++[i]↔b∈m\/b=i:=λb=>ao;have:i≠c:=λn=>x<|n▸w;refine⟨by rw[nC];exact s.len,(h _).2<|bj s.src,λb k=>?_,λb k=>?_,?_,λb k C D l p=>?_,λl p=>?_,s.inc,λI=>?_,?_⟩;rcases(h b).1 k with d|rfl;exact s.dD b d;exact(s.dD c w).tail v;rcases(z b).1 k with d|rfl;exact⟨(h b).2<|bj (s.x6 b d).1,(s.x6 b d).2⟩;simp_all;exact vr.2 ⟨s.jw,ao,λB E n F=>by rw[eu.1 F];exactλd=>x<|d▸(s.x6 B E).1⟩;rcases(h b).1 k with d|rfl;exact(h l).2<|bj<|s.cl b d (λn=>C<|(z b).2<|bj n) D l p;simp_all;rcases agc o p with d|d;exact(h l).2<|bj<|s.xe l d;simp_all;rw[s.mem];grind;rw[s.fin];grind
def nd.done{d:bx}{i h e:Z}{k:Y X}{l f:Y Z}{g:X}(s:nd d i h k l f g e (U (y d.aF e []))):nd d i h k l f g (U d.aF) 0:=by refine⟨s.len,s.src,s.dD,λb c=>⟨(s.x6 b c).1,λn=>?_⟩,s.jw,λb c m _=>?_,λp o=>?_,s.inc,s.mem,s.fin⟩;have:=HF (s.x6 b c).1;have:=s.len;omega;by_cases n:b=e;have:=s.xe;simp_all;exact s.cl b c m n;trivial
def nd.all{b:bx}{e k:Z}{f:Y X}{g:Y Z}{h:X}(s:nd b e k f [] g h (U b.aF) 0)c:y f c ae↔fe.Way (lq b) e c:=by
 refine⟨s.dD c,λl=>?_⟩
 induction l
 exact s.src
 next _ i d=>refine s.cl _ d kB (λn=>?_) _ i;have:=HF d;have:=s.len;omega
def nd.end_{b:bx}{d g:Z}{h:Y X}{e:Y Z}{f:X}(s:nd b d g h [] e f (U b.aF) 0):(∀c,c∈e↔c<U b.gk/\fe.Way (lq b) d (y b.gk c 0))/\(f=ag↔fe.Way (lq b) d g):=⟨λc=>by rw[s.mem,s.all];simp,by rw[s.fin,s.all];simp⟩
def Gh(b:Y X):Z:=lp ae b
def ayp{b:Y X}{c:Z}:c<U b->¬y b c ae->Gh (aR b c ag)+1=Gh b:=by grind[Gh]
section
variable{bb:Type} [hO bb](succ:bb->Y bb)(bP:Y bb)(I:bb)
def hg(b:Z):bb:=y (cz succ bP b) b I
def k5(b n:Z):Y bb:=iZ (cz succ bP b)<|am n<|succ<|hg succ bP I b
def nt(b n:Z):Z:=gX (cz succ bP<|b+1)<|y (succ<|hg succ bP I b) n I
variable{succ bP I}
theorem w7 b:k5 succ bP I b 0=cz succ bP b:=ba
theorem yM{b:Z}:b<U (cz succ bP b)->(cz succ bP b)[b]?=W (hg succ bP I b):=by grind[hg,List.getElem?_eq_getElem]
theorem KS{b n:Z}:b<U (cz succ bP b)->U (succ (hg succ bP I b))<=n->k5 succ bP I b n=cz succ bP (b+1):=by grind[k5,List.take_of_length_le,yG,yM]
theorem P8{b n:Z}:n<U (succ (hg succ bP I b))->k5 succ bP I b (n+1)=note (k5 succ bP I b n) (y (succ (hg succ bP I b)) n I):=by grind[k5,rc,AG]
theorem EA{b:Z}(c:b<U (cz succ bP b))n:k5 succ bP I b n<+:cz succ bP (b+1):=by rw[yG<|yM (I:=I) c];grind[k5,List.take_append_drop,hg,Lh,CN]
theorem ajH(s:dT bP)b n:dT (k5 succ bP I b n):=AF _<|Cz s b
theorem Nc{b n:Z}(e:b<U (cz succ bP b))(c:n<U (succ (hg succ bP I b)))(d:y (succ (hg succ bP I b)) n I∈k5 succ bP I b n):k5 succ bP I b (n+1)=k5 succ bP I b n/\gX (k5 succ bP I b n) (y (succ (hg succ bP I b)) n I)=nt succ bP I b n:=by
 exists by rw[P8 c,note,af d]
 grind[nt,y8,EA]
theorem Nb{b n:Z}(e:dT bP)(g:b<U (cz succ bP b))(f:n<U (succ (hg succ bP I b)))(i:y (succ (hg succ bP I b)) n I∉k5 succ bP I b n):k5 succ bP I b (n+1)=k5 succ bP I b n++[y (succ (hg succ bP I b)) n I]/\U (k5 succ bP I b n)=nt succ bP I b n:=by
 let d:k5 succ bP I b (n+1)=k5 succ bP I b n++[y (succ<|hg succ bP I b) n I]:=by rw[P8 f,note,ad i]
 let c:=ajH (succ:=succ) (I:=I) e b<|n+1;unfold nt;rw[y8 (EA (I:=I) g<|n+1) aq];rw[d] at c⊢;let h:U (k5 succ bP I b n)<U (k5 succ bP I b n++[y (succ<|hg succ bP I b) n I]):=ao;have:=Dc c h;simp_all
theorem arR{b n:Z}(d:b<U (cz succ bP b))(c:n<U (succ (hg succ bP I b))):y (succ (hg succ bP I b)) n I∈cz succ bP (b+1):=by apply (EA (I:=I) d<|n+1).subset;rw[P8 c,Ip];simp
def hI(d:Z->Z)(m c:Z):Y Z:=(bM m).map λb=>if b<c then d b else 0
theorem N3 c m b:U (hI c m b)=m:=by simp[hI,bm,ij]
theorem avu b m:hI b m 0=cM m 0:=by refine jn λc=>?_;unfold hI;grind
theorem N2 b m:hI b m m=ab b (bM m):=hY λc k=>af<|hM.1 k
theorem I3 c{m b:Z}(s:b<m):aR (hI c m b) b (c b)=hI c m (b+1):=by refine jn λd=>?_;unfold hI;grind
theorem aeP(k:dT bP){m D:Z}(i:∀c,U (succ c)=m)(h:D<=U (cz succ bP D))(g:U (cz succ bP D)<=D):((bM D).map λcs=>hI (nt succ bP I cs) m m)=(cz succ bP D).map λc=>ab (gX<|cz succ bP D) (succ c):=by
 let he:=J4 g h;refine jn λcs=>?_;rw[db,db];by_cases f:cs<D;rw[zW f];let d:cs<U (cz succ bP cs):=by refine B7 λn=>?_;have:=tt (cs:=D) n q;rw[this] at he;omega
 rw[zp (pQ q)<|yM d];show W _=W _;congr 1;show hI _ m m=_;rw[N2];refine jn λn=>?_;rw[db,db];by_cases B:n<m;let b:n<U (succ<|hg succ bP I cs):=by rw[i];exact B
 rw[zW B,cT b];show W _=W _;let e:(succ _)[n]=y (succ (hg succ bP I cs)) n I:=by rw[dX,cT b];rfl
 rw[e,y8 (pQ<|show cs+1<=D by omega)<|arR d b];rfl;simp_all;simp_all
end
section
variable[hO JP](key:Z->JP)
def gA(n:Z):Y JP:=iZ [] (ab key<|bM n)
def gH:Z->Y Z|0=>[]|n+1=>if key n∈gA key n then gH n else gH n++[n]
def kH(b:Z):Z:=gX (gA key 256)<|key b
theorem Mt n:gA key (n+1)=note (gA key n) (key n):=by simp[gA,sh,dc,AG]
theorem Fj:∀n,gA key n=ab key (gH key n)|0=>aa|n+1=>by rw[Mt,note,gH];split;exact Fj n;rw[dc,<-Fj n];rfl
theorem HE:∀n,∀b∈gH key n,b<n|0,b,s=>cg s kB|n+1,b,s=>by rw[gH] at s;split at s;exact z3<|HE n b s;rcases fp.1 s with c|c;exact z3<|HE n b c;simp_all
theorem E3:∀n,U (gH key n)<=n|0=>bv _|n+1=>by have:=E3 n;grind[gH,List.length_append,List.length_singleton]
theorem R6{b n:Z}:b<n->key b∈gA key n:=by grind[gA,yS,List.mem_map_of_mem]
theorem aaC n:dT (gA key n):=AF _ Pa
theorem aaD{b n:Z}:b<=n->gA key b<+:gA key n:=by
 induction n
 simp_all
 next n c=>grind[Mt,trans,S5]
theorem HZ n:U (gA key n)=U (gH key n):=by rw[Fj,bm]
attribute [irreducible] gH gA
theorem ak0{b:Z}:b<256->kH key b<U (gH key 256):=by unfold kH;rw[<-HZ];simp_all[A_,R6]
theorem ak3{b:Z}(s:b<256):key (y (gH key 256) (kH key b) 0)=key b:=by let c:=A_<|R6 key s;let d:=RB c;grind[gH,gX,kH,Fj,List.getElem?_eq_getElem]
theorem ak1{b:Z}(s:b<U (gH key 256)):kH key (y (gH key 256) b 0)=b:=by
 let c:b<U (gA key 256):=by rw[HZ];exact s
 let d:=Dc (aaC key 256) c;let e:=by
  have:(gA key 256)[b]?=W (key (y (gH key 256) b 0)):=by rw[Fj,db,cT s,dX,cT s];rfl
  rw[cT c] at this;exact mD this
 grind[kH]
theorem QD{bb:Type} [hO bb]{b:Z->bb}(e:∀d n,key d=key n->b d=b n)c:∀n,iZ c (ab b (bM n))=iZ c (ab b (gH key n))|0=>by simp[gH]|n+1=>by rw[sh,dc,O9,AG,QD e c n,gH];split;rw[note,af];grind[Fj,yS];rw[dc,O9,AG]
end
structure fu where
 vH:Y Z
 fst:Y Z
 acc:Y X
 b9:Y (Y Z)
def iY(I:fu):bY:=⟨0,I.acc,I.b9.map λb=>(bM 256).map λn=>y b (y I.vH n 0) 0⟩
structure fu.ok(I:fu):Prop where
 cl:U I.vH=256
 lt:∀n<256,y I.vH n 0<U I.fst
 bz:∀D<U I.fst,y I.fst D 0<256/\y I.vH (y I.fst D 0) 0=D
 f2:U I.fst<=256
 ac:U I.acc=U I.b9
 sV:0<U I.b9
 If:U I.b9<=100000
 rw:∀D<U I.b9,U (y I.b9 D [])=U I.fst
 agj:∀D n,D<U I.b9->n<U I.fst->y (y I.b9 D []) n 0<U I.b9
def k8(I:fu)(b n:Z):Z:=y (y I.b9 b []) n 0
def ajt{I:fu}{b:Z}(c:b<U I.b9):ey (iY I) b=(bM 256).map λn=>k8 I b (y I.vH n 0):=by rw[ey,iY,dX,db,cT c];grind[k8,List.getElem?_eq_getElem]
theorem Cw{I:fu}{c:Z}(d:c<U I.b9)b:im (iY I) c b=k8 I c (y I.vH (ax b) 0):=by rw[im,ajt d,dX,db,zW<|mE b];rfl
def fu.ok.Hi{I:fu}(s:I.ok){b n:Z}(d:b<U I.b9)(c:n<U I.fst):k8 I b n<U I.b9:=s.agj b n d c
def Ho(I:fu)(b c:Z):Prop:=jF (im<|iY I) (hS<|iY I) b=jF (im<|iY I) (hS<|iY I) c
theorem fu.ok.step{I:fu}(s:I.ok)b c n(g:n<U I.fst)(h:b<U I.b9)(i:c<U I.b9)(f:Ho I b c):Ho I (k8 I b n) (k8 I c n):=by
 let k:=s.bz n g;let e:∀d<U I.b9,im (iY I) d (gn<|y I.fst n 0)=k8 I d n:=λd aX=>by grind[Cw,vh]
 unfold Ho at*;rw[<-e b h,<-e c i,<-Mu,<-Mu,f]
abbrev Ep(I:fu)(s:eI):Prop:=uy (k8 I) (U I.b9) (U I.fst) (hS<|iY I) (Ho I) s
abbrev GM(I:fu)(b:Y Z)(n:Z)(s:eI):Prop:=Ag (k8 I) (U I.b9) (U I.fst) (hS<|iY I) (Ho I) b n s
def JI(I:fu):Y Z:=(bM<|U I.b9).filter λb=>y I.acc b ae
theorem fu.ok.start{I:fu}(s:I.ok):Ep I (r5 ⟨cM (U I.b9) 0,[bM (U I.b9)],[0]⟩ (JI I)):=uy.start (λc d _ _ b=>Pt b []) s.sV
def rH(I:fu)(b:Y Z)(n:Z):Y Z:=b.flatMap λJ=>(bM<|U I.b9).filter λc=>aH<|k8 I c n=J
theorem LP{I:fu}{c:Y Z}{n b:Z}:b∈rH I c n↔b<U I.b9/\k8 I b n∈c:=by unfold rH;grind
def LQ{I:fu}{n:Z}:∀{own:Y Z},dT own->dT (rH I own n)|[],_=>Pa|J::own,s=>by let⟨d,b⟩:=zZ.1 s;refine vr.2 ⟨List.nodup_range.filter _,LQ b,λg e h f c=>?_⟩;grind[LP]
def anG{I:fu}{c:Y Z}{n b:Z}(d:b<U c):rH I (am (b+1) c) n=rH I (am b c) n++(bM (U I.b9)).filter λe=>aH (k8 I e n=y c b 0):=by unfold rH;rw[rc d,zU,wJ,Vd,gv]
def GM.next{I:fu}(bN:I.ok){c:Y Z}{n:Z}{s:eI}(B:GM I c n s)(b:n<U I.fst):GM I c (n+1) (r5 s (rH I c n)):=Ag.step bN.step (λ_ _ d b=>bN.Hi d b) B b (λ_=>LP)<|LQ B.jw
def kV(s:eI)(b:Z):Z:=y (y s.mem b []) 0 0
def lE(I:fu)(s:eI)(b:Z):Y Z:=(bM 256).map λn=>bR s<|k8 I (kV s b)<|y I.vH n 0
def iH(I:fu)(s:eI)(b:Z):Y Z:=cz (lE I s) [bR s 0] b
theorem k2.gU{c:Z}{s:eI}(B:k2 c s){b:Z}(e:b<c):kV s (bR s b)<c/\bR s (kV s (bR s b))=bR s b:=by
 let d:=O8<|(B.mem _ _).2 ⟨e,aa,B.lt b e⟩;let f:kV s (bR s b)∈y s.mem (bR s b) []:=by unfold kV;rw[dX (l:=y s.mem _ []),cT d];exact hL d
 have:=(B.mem _ _).1 f;omega
def k2.IR{d:Z}{s:eI}(B:k2 d s){b:Z}(e:b<U s.mem):kV s b<d/\bR s (kV s b)=b/\0<U (y s.mem b []):=by
 let c:=yh.2<|B.ne b e;let f:kV s b∈y s.mem b []:=by unfold kV;rw[dX (l:=y s.mem b []),cT c];exact hL c
 have:=(B.mem _ _).1 f;omega
def af2 I s b:U (lE I s b)=256:=ba
def axr{I:fu}{s:eI}{b n:Z}(d:n<256)c:y (lE I s b) n c=bR s (k8 I (kV s b) (y I.vH n 0)):=by grind[lE,List.getElem?_range]
section
variable{I:fu}(bN:I.ok){s:eI}(B:Ep I s)
include bN B
theorem af3{b:Z}(d:b<U s.mem):∀c∈lE I s b,c<U s.mem:=λc f=>by obtain⟨n,e,rfl⟩:=dI.1 f;exact B.ok.lt _<|bN.Hi (B.ok.IR d).1<|bN.lt n<|hM.1 e
theorem Th d:∀c∈iH I s d,c<U s.mem:=uF (λc b=>by rw[eu.1 b];exact B.ok.lt 0 bN.sV) (λc b=>af3 bN B b) d
omit bN B in
theorem asi(b:Z):dT (iH I s b):=Cz ao b
theorem Iz b:U (iH I s b)<=U s.mem:=tM (asi b)<|Th bN B b
theorem ad5(h:s.et=[]):yw (·<U I.b9) (im (iY I)) (hS (iY I)) (bR s):=by
 refine yw.of (λe c b=>?_) (B.eq · · · · ·) (B.acc · · · · ·) λe i c b d f=>?_;rw[Cw b];exact bN.Hi b<|bN.lt _<|mE c
 .rw[Cw b,Cw d];exact B.done (λe n b g=>bN.Hi b g) h (bN.lt _<|mE c) b d f
theorem aaQ(o:s.et=[]){d:Z}(l:U (iH I s d)<=d)(p:d<=100000):mi (i3 (iY I))=⟨0,(iH I s d).map λb=>hS (iY I)<|kV s b,(iH I s d).map λb=>ab (gX<|iH I s d)<|lE I s b⟩:=by
 let h:=((ad5 bN B o).w_ (λe c=>B.ok.gU c) bN.sV sD).1;let m:∀g,cz (g2 λn b=>bR s<|im _ _ b) _ g=iH I s g:=λg=>by refine WV (λe c=>by rw[eu.1 c];exact B.ok.lt 0 bN.sV) (λe c=>af3 bN B c) λe c=>?_;refine hY λb f=>?_;show bR s _=_;rw[Cw (B.ok.IR c).1,vh<|hM.1 f]
 let k:iH I s sD=iH I s d:=tt l (by grind[Qj]);rw[m,k] at h;unfold mi;rw[show w_ (i3 _) _=_ from h];congr 1;refine hY λe c=>?_;let i:g2 (λn b=>bR s<|im (iY I) (kV s n) b) e=lE I s e:=by refine hY λb f=>?_;show bR s _=_;rw[Cw (B.ok.IR<|Th bN B d e c).1,vh<|hM.1 f]
 rw[i];rfl
theorem ash(r:s.et=[]){c:Z}(o:U (iH I s c)<=c)(p:∀e<U I.b9,∃d,q6 (im (iY I)) 0 d=e):U (iH I s c)=U s.mem:=by
 apply J4<|Iz bN B c;let f:=ad5 bN B r;let key:∀d e,e<U I.b9->bR s e∈iH I s c->bR s (q6 (im<|iY I) e d)∈iH I s c:=by
  intro d
  induction d
  exactλe _ hm=>hm
  next b d t=>intro e h hm;let i:=f.step e b h;apply t _ i;let g:=B.ok.gU h;let k:=(f.iff _ _ (f.step _ b g.1) i).2<|ea (yQ · b)<|(f.iff _ _ g.1 h).1 g.2;rw[<-k,Cw g.1];apply G1 o hm _;exact dI.2 ⟨ax b,hM.2<|mE b,aa⟩
 let m:∀b∈bM _,b∈iH I s c:=λb n=>by let l:=B.ok.IR<|hM.1 n;let⟨d,u⟩:=p _ l.1;have:=key d 0 bN.sV<|(pQ<|dJ c).subset (by simp[cz]);simp_all
 have:=qj List.nodup_range m;simp_all
end
def xC:bx:=⟨[[]],[-1],[],[],[]⟩
def acb b c:¬lq xC b c:=by grind[lq,xC]
def aro:nN xC ⟨[],[]⟩ 0:=by
 refine⟨⟨aa,aa,aa,λb d s=>cg s<|acb b d,λc s=>cg s<|yl c,λc s=>cg s<|yl c,λb c=>?_,λb=>?_⟩,GB,aa,aa,λe=>?_⟩;constructor;intro s;cases b;trivial
 next b=>trivial
 rintro⟨s,_⟩;trivial;cases b;trivial
 next b=>exact D1 _
 simp
abbrev h3(b:aW):bx:=(gV b xC 0).1
abbrev yX(b:aW):Z:=(gV b xC 0).2
abbrev d_(b:aW):bg:=(eg b ⟨[],[]⟩).1
abbrev kx(b:aW):bZ:=(eg b ⟨[],[]⟩).2
structure aic(F:aW)(R:bx)(QR:Z)(u:bg)(J:bZ):Prop where
 ok:rt R
 azl:QR<U R.aF
 anF:0<U R.aF
 k:U R.aJ=U u.aJ
 aJ:R.aJ=ab kf u.aJ
 first:∀v,v∈J.first↔v<U R.gk/\fe.Way (lq R) 0 (y R.gk v 0)
 tB:J.empty↔fe.Way (lq R) 0 QR
 cn:∀G<U R.gQ,∀v,v∈y u.cn G []↔v<U R.gk/\fe.Way (lq R) (y R.gQ G 0) (y R.gk v 0)
 last:∀G<U R.gQ,G∈J.last↔fe.Way (lq R) (y R.gQ G 0) QR
def arp f:aic f (h3 f) (yX f) (d_ f) (kx f):=by
 have d:=KV f _ 0 _ aro;let⟨u,p,b⟩:=d.t _ _ ⟨λ_ _=>aa,λ_ _=>aa⟩;have r:=by funext l m;exact propext<|(p l m).trans ⟨λg=>g.elim (cg · (acb l m)) id,bp⟩
 cases d.zx;have s:U xC.aJ=0:=aa;rw[<-r,s] at b;have k:=d.ok.fP;have:=d.ok.gk;refine⟨d.ok,d.Ga,jZ GB d.ext.aF,bQ d.gs,?_,λe=>?_,b.wt.symm,λh c e=>?_,λh c=>?_⟩;simp_all;constructor;intro g;have:=(b.tE e g).2;exact⟨aq,(b.wf e (dJ _) this).2 g⟩;rintro⟨o,i⟩;exact(b.wf e (dJ _) aq).1 i;rw[k] at c;constructor;intro g;by_cases n:e<(h3 f).aJ.length;exact⟨aq,(b.vk h e (dJ _) c (dJ _) n).2 ⟨dJ _,c,g⟩⟩;have:=(b.pj h e ⟨dJ _,c,g⟩).2.2;trivial;rintro⟨o,i⟩;exact((b.vk h e (dJ _) c (dJ _) aq).1 i).2.2;rw[k] at c;exact(b.wl h (dJ _) c).symm
def RF{b K:Y Z}(d:jC b)(e:jC K)(s:∀c,c∈b↔c∈K):b=K:=RE d e s
def awa:∀d,(∀b∈d,0<=b.1/\b.1<=b.2/\b.2<=255)->∀c<256,y (kf d) c ae=jt d c:=by
 intro d h c g;have:∀d(J:a6),(∀b∈d,0<=b.1/\b.1<=b.2/\b.2<=255)->U J=256->y (d.foldl (λ(e:a6) b=>e.add (aG b.1)<|aG b.2) J) c ae=(y J c ae||jt d c):=by
  intro d
  induction d
  simp[jt]
  next b d k=>
   intro J s i;cases s b ao;rw[JX,k _ (λb l=>s b aK) (by show U (List.mapIdx _ J)=256;rw[List.length_mapIdx];exact i)];let f:y (J.add (aG b.1)<|aG b.2) c ae=(y J c ae||aH (b.1<=c)&&aH (c<=b.2)):=by
    rw[dX,dX];show(List.mapIdx _ J)[c]?.getD _=_;rw[Vg,cT _];show(J[c]||_)=(J[c]||_);congr 2;simp
    (simp;omega)
   rw[f,show jt (b::d) c=(aH _&&aH _||jt d c) from aa,Bool.or_assoc]
 rw[kf,this d _ h ba];have:y cF c ae=ae:=by unfold cF;rw[dX,zX,af g];rfl
 simp_all
def gl(b:bg)(n:Z):Y C:=b.aJ.map λJ=>if jt J (n:L) then 1 else 0
def apr{b:bg}{d n:Z}(s:gl b d=gl b n)c:jt (y b.aJ c []) d=jt (y b.aJ c []) n:=by
 unfold gl at s;rw[dX];cases f:b.aJ[c]?;rfl
 next J=>
  let e:(b.aJ.map λJ=>if jt J d then(1:C) else 0)[c]?=(b.aJ.map λJ=>if jt J n then 1 else 0)[c]?:=by rw[s]
  grind
def aas{b:bg}{d n:Z}(s:gl b d=gl b n)c:p5 b.aJ c d=p5 b.aJ c n:=Vb λe _=>apr s e
def dm(b:bg):Y Z:=gH (gl b) 256
def ls(b:bg):Y Z:=ab (kH<|gl b)<|bM 256
theorem Qo{b:bg}{n:Z}:n<256->y (ls b) n 0=kH (gl b) n:=by grind[ls,List.getElem?_range]
def HD b:U (dm b)<=256:=by simp[dm,E3]
theorem E2{c:bg}{b:Z}(d:b∈dm c):b<256:=by exact HE _ 256 b d
def Xg{b:bg}{n:Z}(c:n<256):y (ls b) n 0<U (dm b):=by rw[Qo c,dm];exact ak0 _ c
def akD{b:bg}{c:Z}:c<U (dm b)->y (ls b) (y (dm b) c 0) 0=c:=by grind[Qo,E2,dL,dm,ak1]
def K3 b:U (ls b)=256:=ba
def DU(b:bg)(n:Z):Y Z:=(bM<|U b.aJ).filter λc=>jt (y b.aJ c []) (n:L)
def arS{c:bg}{b:Y Z}(f:∀e∈b,e<U c.aJ)n d:d∈p5 c.aJ b n↔d∈b/\d∈DU c n:=by grind[p5,DU]
def e_(b:bg)(J:bZ)(d:ik):Y ik:=(dm b).map λc=>j8 b J d<|gn c
def Hc c J d{b:Z}(e:b<256):j8 c J d (gn b)=W (p5 c.aJ (ob c J d) b):=by rw[j8,vh e]
theorem DK b J:∀c,cz (e_ b J) [ai] c=du b J c
|0=>aa|c+1=>by
 cases g:(du b J c)[c]?;let h:=ahq.1 g;rw[KT (by rw[DK b J c];exact h),DK b J c];exact bQ (KT h)
 next d=>rw[yG (by rw[DK b J c];exact g),DK b J c];let l:du b J _=iZ _ _:=yG g;rw[l];let i:g2 _ d=ab _ (bM 256):=hY λe f=>Hc b J d<|hM.1 f;let k:e_ b J d=ab _ (gH _ 256):=hY λe f=>Hc b J d<|HE _ 256 e f;rw[i,k];exact bQ<|QD _ (λe n s=>ea _<|aas s _) _ 256
def apq{b:bg}{n:Z}:n<256->gl b (y (dm b) (y (ls b) n 0) 0)=gl b n:=by grind[Qo,dm,ak3]
def Ut b J c:U (e_ b J c)=U (dm b):=by rw[e_,bm]
theorem afV{b:bg}{J:bZ}{c:ik}{B:Z}:B<U (dm b)->(e_ b J c)[B]?=W (j8 b J c (gn (y (dm b) B 0))):=by grind[e_,List.getElem?_eq_getElem]
def afX{b:bg}{J:bZ}{c:ik}ak{B:Z}:B<U (dm b)->y (ab (gX ak) (e_ b J c)) B 0=gX ak (j8 b J c (gn (y (dm b) B 0))):=by grind[afV]
def sF(b:bg)(J:bZ)(ak:Y ik):fu:=⟨ls b,dm b,ab (sy J) ak,ak.map λc=>ab (gX ak)<|e_ b J c⟩
def XO b J ak:iY (sF b J ak)=ot (j8 b J) (sy J) ak:=by unfold iY sF ot;rw[i_];congr 1;refine hY λd _=>?_;show ab (λn=>y (ab _<|e_ b J d) (y (ls b) n 0) 0) (bM 256)=ab (gX ak) (g2 _ d);unfold g2;rw[i_];refine hY λn c=>?_;let c:=hM.1 c;let e:y (ls b) n 0<U (dm b):=Xg c;rw[afX ak e,Function.comp_apply,Hc b J d c,Hc b J d<|E2<|dL e,aas<|apq c]
def XP{c:bg}{J:bZ}{ak:Y ik}{b:Z}(d:b<U ak):(sF c J ak).b9.getD b []=ab (gX ak) (e_ c J ak[b]):=by grind[sF,List.getElem?_eq_getElem]
def ama{b:bg}{J:bZ}{ak:Y ik}(s:U ak<=3000)(g:∀h∈ak,∀i∈g2 (j8 b J) h,i∈ak)(l:0<U ak):(sF b J ak).ok:=by let d:(sF b J ak).b9.length=U ak:=bm ..;refine⟨K3 b,λn c=>Xg c,λf k=>⟨E2<|dL k,akD k⟩,HD b,by rw[d];exact bm ..,q,q,λf k=>?_,λf n k c=>?_⟩;rw[d] at k;rw[XP k,bm,Ut];rfl;rw[d] at k⊢;let e:=c;rw[XP k,afX ak e];refine A_<|g _ (hL k) _ ?_;exact dI.2 ⟨_,hM.2<|E2<|dL e,aa⟩
def amb{c:bg}{J:bZ}{ak:Y ik}(k:∀p∈ak,∃b,q6 (j8 c J) ai b=p)(l:∀d∈ak,∀r∈g2 (j8 c J) d,r∈ak)(g:mK ak)(n:dT ak):∀d<(sF c J ak).b9.length,∃b,q6 (im (iY (sF c J ak))) 0 b=d:=by
 intro d i;let m:(sF c J ak).b9.length=U ak:=bm ..;rw[m] at i;rw[XO];let⟨b,o⟩:=k _<|hL i;have:=(P2 (acc:=sy J) l b (by rw[g];exact ki ..)).1;rw[o] at this;change q6 _ (gX ak _) b=gX ak _ at this;let s:=by
  let h:0<U ak:=q;let e:ak[0]?=W ai:=by rw[g];rfl
  rw[cT h] at e;let f:=Dc n h;rw[mD e] at f;exact f
 grind[Dc]
def aw7 d J e:∀b∈du d J e,∃c,q6 (j8 d J) ai c=b:=uF (λb g=>⟨[],bQ<|eu.1 g⟩) (λb ⟨c,i⟩ k h=>by obtain⟨f,_,rfl⟩:=dI.1 h;exact⟨c++[gn f],by grind[q6]⟩) e
section
attribute [local irreducible] dS
def nV(c:Y (Y Z))(b:Y X)(d:Y (Y Z)):V:=b2 [.al 32 (ab c7 c),.al 1<|ab bE b,.al 32<|ab c7 d]
def amB{c:Y (Y Z)}{b:Z}:b<U c->(ab c7 c)[b]?=W (c7 (y c b [])):=by simp_all
def ajA{c:Y X}{b:Z}:b<U c->(ab bE c)[b]?=W (bE (y c b ae)):=by simp_all
def atp b{B:Z}(s:B<32):q3 (c7 b).cells B 1 ae=W (an ej (dS b B:Z)):=by unfold q3;rw[Lx b s];rfl
def axl{e:Y (Y Z)}{d:Y X}{i:Y (Y Z)}{f:Y Z}{h:X}{c:Z}(m:c<U e)(n:c<U d):dF 248 [l c,b 6000,b 6001,b 6002] [(6000,ah 254 (c7 f)),(6001,ah 249 (b 6003)),(6002,ah 4 (bE h)),(6003,ah 252 (nV e d i))] (cv []) [(6000,ah 254 (c7 (ee f (y e c [])))),(6001,ah 249 (b 6003)),(6002,ah 4 (bE (h||y d c ae))),(6003,ah 252 (nV e d i))]:=by refine c4 func248 [] λs p o=>?_;refine bB c (c7<|y e c []) ?_ (k:=aq);refine bG [(6000,6000)] ?_ (g:=atu);apply cy;refineλr=>jV c (bE<|y d c ae) ?_ (k:=aq);exact aa;exact cJ
end
section
attribute [local irreducible] dS
def aiQ{d:Y (Y Z)}{b:Y Z}{c:Z}(s:c<U b):ng d (am (c+1) b)=ee (ng d (am c b)) (y d (y b c 0) []):=Wm s
def ai9{b:Y Z}{d:Z->X}{c:Z}(s:c<U b):fB (am (c+1) b) d=(fB (am c b) d||d (y b c 0)):=WD s
structure lK(hR:Y Z)(B D:Z):Prop where
 k:D<=U hR
 pn:∀v∈ay D hR,64*B<=v
 up:∀v∈am D hR,v<64*(B+1)
theorem lK.start b:lK b 0 0:=⟨dJ _,λc _=>q,λc s=>cf⟩
theorem Lp{b:Y Z}{c:Z}:c<U b->ay c b=y b c 0::ay (c+1) b:=by simp_all
theorem lK.inc{b:Y Z}(c:fJ b)d:jC (ay d b):=c.1.sublist aK
def lK.ne{b:Y Z}{B c:Z}:lK b B c->dS (ay c b) B≠0->c<U b:=by grind[List.drop_eq_nil_of_le,UO,cg]
def lK.first{b:Y Z}{B c:Z}(d:fJ b)(s:lK b B c)(e:dS (ay c b) B≠0):y b c 0/64=B:=by let f:=Lp<|s.ne e;let g:=lK.inc d c;let h:=s.pn;grind[ayN]
theorem lK.low{b:Y Z}{B c:Z}(e:fJ b)(s:lK b B c)(d:dS (ay c b) B≠0):ss (dS (ay c b) B) (y b c 0%64)/\dS (ay c b) B&&&dS (ay c b) B-1=dS (ay (c+1) b) B:=by let g:=s.first e d;let f:=Lp<|s.ne d;grind[lK.inc,agN,ayM]
theorem lK.one{b:Y Z}{B d:Z}(i:fJ b)(s:lK b B d)(h:dS (ay d b) B≠0):lK b B (d+1):=by
 have g:=s.ne h;have:=s.first i h;refine⟨g,λe c=>s.pn e ?_,λe c=>?_⟩;grind[Lp,List.mem_cons_of_mem];rw[rc (I:=0) g] at c;rcases fp.1 c with f|f;exact s.up e f
 (simp_all;omega)
def lK.next{b:Y Z}{B c:Z}(s:lK b B c)(d:dS (ay c b) B=0):lK b (B+1) c:=⟨s.k,ayQ s.pn d,λf e=>by have:=s.up f e;omega⟩
def lK.head{c:Y Z}{B d:Z}(s:lK c B d)(f:∀e∈am d c,e<64*B):dS c B=dS (ay d c) B:=agM λe g=>by constructor;intro b;rw[<-D_ d c] at b;rcases fp.1 b with b|b;have:=f e b;omega;exact b;exactλb=>(List.drop_sublist d c).subset b
def lK.fin{b:Y Z}{c:Z}(d:fJ b)(s:lK b 32 c):c=U b:=by refine J4 s.k<|Pj λn=>?_;let e:=s.pn (y b c 0) (by grind[Lp,List.mem_cons_self]);let f:=d.2 (y b c 0) aq;omega
def akZ{b c:Z}(f:0<b)(s:b<2^64)(e:b&&&b-1=c):je .and ej b (hf IntKind.u64 (b-1))=c:=by
 let d:hf IntKind.u64 (b-1)=b-1:=by rw[OM];omega
 grind[P6,Jw]
def Gl(b:L):Z->L|0=>b|c+1=>je .and ej (Gl b c)<|hf IntKind.u64<|Gl b c-1
def amC{o:Y (Y Z)}{m:Y X}{x:Y (Y Z)}{c:Y Z}(v:fJ c){u:Y V}{w:Z}(M:u[w]?=W (c7 c))(I:∀h∈c,h<U o)(J:∀h∈c,h<U m):dF 247 [.dC 6004 w 0,.func (.func 248) [] [b 6000,b 6001,b 6002]] [(6004,.j 32 254 u),(6000,ah 254 (c7 [])),(6001,ah 249 (b 6003)),(6002,ah 4 (bE ae)),(6003,ah 252 (nV o m x))] (cv []) [(6004,.j 32 254 u),(6000,ah 254 (c7 (ng o c))),(6001,ah 249 (b 6003)),(6002,ah 4 (bE (fB c λh=>y m h ae))),(6003,ah 252 (nV o m x))]:=by
 refine c4 func247 [] λT p P=>?_;refine c8 (Z×Z) (λi=>⟨[(1,.func (.func 248) [] [b 6000,b 6001,b 6002]),(6,.dC 6004 w 0),(7,l i.1)],[(6004,.j 32 254 u),(6000,ah 254<|c7<|ng o<|am i.2 c),(6001,ah 249<|b 6003),(6002,ah 4<|bE<|fB (am i.2 c) λh=>y m h ae),(6003,ah 252<|nV o m x)],[]⟩) (λi=>i.1<=32/\lK c i.1 i.2/\∀h∈am i.2 c,h<64*i.1) (λi=>32-i.1) (0,0) (λ⟨B,e⟩ ⟨R,z,N⟩=>?_) ⟨q,lK.start c,λh s=>cf⟩;apply f<;>intro Q
 .let L:B<32:=q;let E:=atp c L;rw[z.head N] at E;refine fA<|ara ?_ (kp:=by show B=0+B*1;omega);refine fl (A:=an ej (dS (ay e c) B:Z)) (c7 c) ?_ (k:=M) (bC:=E);refine c8 Z (λd=>⟨[(1,.func (.func 248) [] [b 6000,b 6001,b 6002]),(4,l B),(5,an ej<|Gl (dS (ay e c) B:Z) d),(6,.dC 6004 w 0),(7,l B)],[(6004,.j 32 254 u),(6000,ah 254<|c7<|ng o<|am (e+d) c),(6001,ah 249<|b 6003),(6002,ah 4<|bE<|fB (am (e+d) c) λh=>y m h ae),(6003,ah 252<|nV o m x)],[]⟩) (λd=>lK c B (e+d)/\Gl (dS (ay e c) B:Z) d=(dS (ay (e+d) c) B:Z)) (λd=>U c-(e+d)) 0 (λd ⟨t,G⟩=>?_) ⟨z,aa⟩;apply f<;>intro K
  .let r:dS (ay (e+d) c) B≠0:=λn=>K q;let C:=t.ne r;let D:=t.low v r;let S:=t.first v r;let H:y c (e+d) 0∈c:=dL C;let O:Gl (dS (ay e c) B:Z) (d+1)=(dS (ay (e+(d+1)) c) B:Z):=by rw[Gl,G];exact akZ (Vy r) DV D.2
   let F:=ayd DV D.1;rw[<-G] at F;apply Br (64*B:Z);refine aT ?_ (g:=F);apply e7 (y c (e+d) 0:Z);refine bG [(6000,6000),(6001,6001),(6002,6002),(6003,6003)] ?_ (g:=axl (I _ H)<|J _ H);rw[<-aiQ C,<-ai9 C];exact a4 (d+1) ⟨t.one v r,O⟩ q
  let r:dS (ay (e+d) c) B=0:=q;refine aY ?_;exact a4 (B+1,e+d) ⟨q,t.next r,t.up⟩ q
 obtain rfl:B=32:=q;obtain rfl:=z.fin v;rw[iJ];exact cJ
end
section
attribute [local irreducible] dS
def ay4 d(f:Y X)k c(m:fJ c)h i(n:h[i]?=W (c7 c))(l:∀e∈c,e<U d)(fh:∀e∈c,e<U f):dF 203 [b 6003,.dC 6004 i 0] [(6004,.j 32 254 h),(6003,ah 252 (nV d f k))] (cv [c7 (ng d c),bE (fB c λe=>y f e ae)]) [(6004,.j 32 254 h),(6003,ah 252 (nV d f k))]:=by refine c4 func203 [] λr p o=>?_;refine mv (c7 []) ?_ (e5:=cb);refine bG [(6004,6004),(6000,4),(6001,2),(6002,5),(6003,6003)] (g:=amC m n l fh)<|ei ?_;refine bw (λ_=>gY aa (bu:=tA))<|DZ (c7<|ng d c) ?_ qK (fh:=qK);refine azd<|fz ?_;exact sI br<|.nU aa aa aa aa aa tA qK<|.cell aa aa aa aa aa .nil
end
def ay7:cu bL 3 (.int aj) 1 8:=⟨ao,cb⟩
def BY:jr bL 3 (cN aj 0):=⟨cb,a2⟩
def zK:gx bL 3 1 8:=⟨cb⟩
def mA:cu bL 50 (c_ 3) 1 24:=⟨ao,cb⟩
def zL:gx bL 50 1 24:=⟨cb⟩
def uj:cu bL 117 (c_ 50) 1 24:=⟨ao,cb⟩
def agP:ux bL 246 0 0 117 1:=⟨cb⟩
def eH.jN{P:bn}{p:bJ}{M:a7}{f:bc}{e d:V}{b c:bV}(s:eH P p M f e b)(g:e=d)(h:b=c):eH P p M f d c:=g▸h▸s
def ayI(r t h i e c D f o:Z)(u n I:V)(g:Y V)(b:Y Z)(B:o=U g)(k:g[D]?=W (.bH e c 0 (U b)))(z:U b<=10000000):g3 bL fT 198 [.own r t 0 0,an aj (D:Z),an aj (f:Z)] [(r,.j t 4 246 [b2 [.bH h i 0 o,u,n,I]]),(h,.j i 1 50 g),(e,.j c 1 3 (ab l b))] (λA M=>A=cv []/\M=[(r,.j t 4 246 [b2 [.bH h i 0 o,u,n,I]]),(h,.j i 1 50<|aR g D<|.bH e (c+1) 0<|U<|b++[f]),(e,.j (c+1) 1 3<|ab l<|b++[f])]):=by
 let y:D<U g:=(eX.1 k).1;refine g3.acD (n:=_) ⟨func198,ba,aa⟩ (R:=22) aa ao aa λp x v=>?_;refine Lm [([],[]),([0],[]),([0],[]),([0],[]),([],[]),([],[]),([0],[]),([0],[]),([0],[]),([],[]),([1],[]),([1],[]),([],[]),([],[]),([],[2]),([1],[]),([],[1])] gm v ?_
 iterate 2
  refine ds.jx (λ_=>wi) ?_;refine ds.fx (λ_ s=>TD (hk:=s)) ?_;refine ds.fx (λ_ s=>TA agP (hk:=s)) ?_;refine ds.fx (λ_ s=>xR 0 uj s) ?_;refine ds.jx (λ_=>wi) ?_
 refine ds.fx (λ_ s=>xP 1 uj zL s (D:=D)) ?_;refine ds.fx (λ_ s=>xR 1 mA s (el:=.bH e c 0<|U b) (k:=bi)) ?_;refine ds.jx (λ_=>wi) ?_;refine ds.jx (λ_=>Nq mA zK BY) ?_;refine ds.up 2 (e,.j (c+1) 1 3<|ab l<|b++[f]) (A:=.bH e (c+1) 0<|U<|b++[f]) (λd s=>?_) ?_;refine eH.jN (Ys (len:=U b) (off:=0) (hE:=ab l b) (mm:=[l f]) (m:=1) mA zK BY (hk:=s) (gi:=Oj (j:=[l f]) mA (mo:=λI bN=>by rw[eu.1 bN];rfl)) (Da:=q)) ?_ ?_;simp;simp[qn,kC,bm,bv,dc];refine ds.fx (λ_ s=>xP 1 uj zL s (D:=D)) ?_;refine ds.up 1 (h,.j i 1 50<|aR g D<|.bH e (c+1) 0<|U<|b++[f]) (A:=.undef) (λd s=>?_) ?_;refine eH.jN (Hp 1 mA s (D:=0+D) (n:=0) (hE:=g) (el:=.bH e c 0<|U b) (k:=bi)) aa ?_;exact ea (λw=>aR d 1 (h,cB.j i 1 50<|aR g w<|.bH e (c+1) 0<|U<|b++[f]))<|mC D;refine ds.nil (?_:fe.Kv _ _ _ _);exact YN (bd:=⟨aa,aa⟩)
def ayG(i o e f D g h:Z)(r n I:V)(b:Y V)(x:h=U b)(k:b[D]?=W .bo):g3 bL fT 198 [.own i o 0 0,an aj (D:Z),an aj (g:Z)] [(i,.j o 4 246 [b2 [.bH e f 0 h,r,n,I]]),(e,.j f 1 50 b)] (λA M=>A=cv []/\∃c,M=[(i,.j o 4 246 [b2 [.bH e f 0 h,r,n,I]]),(e,.j f 1 50<|aR b D<|.bH c 1 0 1),(c,.j 1 1 3 [l g])]):=by
 let w:D<U b:=(eX.1 k).1;refine g3.acD (n:=_) ⟨func198,ba,aa⟩ (R:=22) aa ao aa λp v t=>?_;refine e3.x2 1 λc=>?_;refine Lm [([],[]),([0],[]),([0],[]),([0],[]),([],[]),([],[]),([0],[]),([0],[]),([0],[]),([],[]),([1],[]),([1],[]),([],[]),([],[]),([],[2]),([1],[]),([],[1])] gm t ?_
 iterate 2
  refine ds.jx (λ_=>wi) ?_;refine ds.fx (λ_ s=>TD (hk:=s)) ?_;refine ds.fx (λ_ s=>TA agP (hk:=s)) ?_;refine ds.fx (λ_ s=>xR 0 uj s) ?_;refine ds.jx (λ_=>wi) ?_
 refine ds.fx (λ_ s=>xP 1 uj zL s (D:=D)) ?_;refine ds.fx (λ_ s=>xR 1 mA s (el:=.bo) (k:=bi)) ?_;refine ds.jx (λ_=>wi) ?_;refine ds.jx (λ_=>Nq mA zK BY) ?_;refine ds.up 2 (c,.j 1 1 3 [l g]) (A:=.bH c 1 0 1) (λd s=>?_) ?_;exact eH.jN (Yr (mm:=[l g]) (m:=1) mA zK BY (hk:=s) (gi:=Oj (j:=[l g]) mA (mo:=λI bN=>by rw[eu.1 bN];rfl)) (Da:=q)) aa aa;refine ds.fx (λ_ s=>xP 1 uj zL s (D:=D)) ?_;refine ds.up 1 (e,.j f 1 50<|aR b D<|.bH c 1 0 1) (A:=.undef) (λd s=>?_) ?_;refine eH.jN (Hp 1 mA s (D:=0+D) (n:=0) (hE:=b) (el:=.bo) (k:=bi)) aa ?_;exact ea (λu=>aR d 1 (e,cB.j f 1 50<|aR b u<|.bH c 1 0 1))<|mC D;refine ds.nil (?_:fe.Kv _ _ _ _);exact YN (bd:=⟨aa,c,aa⟩)
def kc(c:b6)(b J:Z)(d:aw)(e:Y V):Z×cB:=((c b).1,.j (c b).2 J d e)
def ac9(c:b6)(b:Z)(d:Y (V×V×Z))(n:Z):Z×cB:=((c b).1,.map (c b).2 d n)
def Ng(c:b6)(b:Z):V:=.own (c b).1 (c b).2 0 0
def Ds(c:b6)(b d:Z):V:=.bH (c b).1 (c b).2 0 d
structure dE where
 id:Z
 aS:Z
 l:Y Z
instance:l9 dE:=⟨⟨0,0,[]⟩⟩
def fU(b:dE):V:=if b.l=[] then .bo else .bH b.id b.aS 0 (U b.l)
def q0(b:dE):bV:=if b.l=[] then[] else[(b.id,.j b.aS 1 3<|ab l b.l)]
def cP(b:Y dE):bV:=b.flatMap q0
def ed(b:Y dE):Y (Y Z):=ab dE.l b
theorem Ii b c:cP (b++c)=cP b++cP c:=zU
theorem MR c b:cP (c::b)=q0 c++cP b:=wJ
theorem UC{d:Type}{b:Y d}{c:Z}(s:c<U b):b=am c b++b[c]::ay (c+1) b:=by simp
def Uc{e:Type}{c:Y e}{b:Z}(s:b<U c)d:aR c b d=am b c++d::ay (b+1) c:=by rw[Vr,af s]
def Ik(b c d e:Z):V:=b2 [.a 5000 0 b,.a 5001 0 c,.a 5002 0 d,.a 5003 0 e]
def Bt(b:Y dE)(d c:Y V)(e:Y V):bS:=[(6000,ah 246<|Ik (U b) (U d) (U c)<|U e),(5000,.j 1 50<|ab fU b),(5001,.j 1 3 d),(5002,.j 1 3 c),(5003,.j 256 263 e)]
def ayH c i h k d f(r:d<U c)(E:∀g∈c,U g.l<=10000000):iL bL fT 198 [b 6000,l d,l f] (cP c) (Bt c i h k) (ed ·=aR (ed c) d (y (ed c) d []++[f])) (λ_=>cv []) cP (Bt · i h k):=by
 intro e;let H:∀{m:Y dE},ed m=aR (ed c) d (y (ed c) d []++[f])->U m=U c:=λ{m} s=>by grind[List.length_set,ed,List.length_map]
 let G:y (ed c) d []=c[d].l:=by rw[dX,ed,db,cT r];rfl
 let B:∀n,n.l=c[d].l++[f]->ed (aR c d n)=aR (ed c) d (y (ed c) d []++[f]):=λn u=>by grind[ed,List.map_set]
 let I:(ab fU c)[d]?=W (fU c[d]):=by rw[db,cT r];rfl
 let D:cP c=cP (am d c)++(q0 c[d]++cP (ay (d+1) c)):=by rw[<-MR,<-Ii,<-UC r]
 let z:∀n,cP (aR c d n)=cP (am d c)++(q0 n++cP (ay (d+1) c)):=λn=>by rw[Uc r,Ii,MR]
 let a_:bV:=[((e 5001).1,.j (e 5001).2 1 3 i),((e 5002).1,.j (e 5002).2 1 3 h),((e 5003).1,.j (e 5003).2 256 263 k)];let o:=cP<|am d c;let p:=cP<|ay (d+1) c;let v:∀m,aZ e (Bt m i h k)=[((e 6000).1,.j (e 6000).2 4 246 [b2 [.bH (e 5000).1 (e 5000).2 0 (U m),.bH (e 5001).1 (e 5001).2 0<|U i,.bH (e 5002).1 (e 5002).2 0<|U h,.bH (e 5003).1 (e 5003).2 0<|U k]]),((e 5000).1,.j (e 5000).2 1 50<|ab fU m)]++a_:=λm=>aa;by_cases t:c[d].l=[];let C:fU c[d]=.bo:=af t;let x:q0 c[d]=[]:=af t;apply g3.frame (ayG (e 6000).1 (e 6000).2 (e 5000).1 (e 5000).2 d f (U c) (.bH (e 5001).1 (e 5001).2 0<|U i) (.bH (e 5002).1 (e 5002).2 0<|U h) (.bH (e 5003).1 (e 5003).2 0<|U k) (ab fU c) ao aq)<|o++(p++a_);rw[v,D,x];refine s0 λw=>?_;simp[Gs,JW,O0,o,p];omega;rintro F M ⟨rfl,g,rfl⟩;let u:ed (aR c d ⟨g,1,[f]⟩)=_:=B ⟨g,1,[f]⟩ aq;refine⟨cP (aR c d ⟨g,1,[f]⟩)++aZ e (Bt (aR c d ⟨g,1,[f]⟩) i h k),?_,_,e,u,dk.refl _ e,aa,aa⟩;rw[v,z,nC,hl,show q0 ⟨g,1,[f]⟩=[(g,.j 1 1 3 [l f])] from aa,show fU ⟨g,1,[f]⟩=.bH g 1 0 1 from aa];refine s0 λw=>?_;simp[Gs,JW,O0,o,p];omega;let C:fU c[d]=.bH c[d].id c[d].aS 0 c[d].l.length:=ad t;let x:q0 c[d]=[(c[d].id,.j c[d].aS 1 3<|c[d].l.map l)]:=ad t;apply g3.frame (ayI (e 6000).1 (e 6000).2 (e 5000).1 (e 5000).2 c[d].id c[d].aS d f (U c) (.bH (e 5001).1 (e 5001).2 0<|U i) (.bH (e 5002).1 (e 5002).2 0<|U h) (.bH (e 5003).1 (e 5003).2 0<|U k) (ab fU c) c[d].l ao aq<|E _<|hL r)<|o++(p++a_);grind[s0];rintro F M ⟨rfl,rfl⟩;let u:ed (aR c d ⟨c[d].id,c[d].aS+1,c[d].l++[f]⟩)=_:=B ⟨c[d].id,c[d].aS+1,c[d].l++[f]⟩ aa;let A:¬c[d].l++[f]=[]:=ao;refine⟨cP (aR c d ⟨c[d].id,c[d].aS+1,c[d].l++[f]⟩)++aZ e (Bt (aR c d ⟨c[d].id,c[d].aS+1,c[d].l++[f]⟩) i h k),?_,_,e,u,dk.refl _ e,aa,aa⟩;rw[v,z,nC,hl,show q0 ⟨c[d].id,c[d].aS+1,c[d].l++[f]⟩=[(c[d].id,.j (c[d].aS+1) 1 3 (ab l (c[d].l++[f])))] from ad A,show fU ⟨c[d].id,c[d].aS+1,c[d].l++[f]⟩=.bH c[d].id (c[d].aS+1) 0 (U (c[d].l++[f])) from ad A];refine s0 λw=>?_;simp[Gs,JW,O0,o,p];omega
def apg c d e f(bl:U c<=10000000)(h:U d<=10000000):dF 150 [b 6000] [(6000,ah 246 (Ik (U c) (U d) (U e) (U f))),(5000,.j 1 50 c),(5001,.j 1 3 d),(5002,.j 1 3 e),(5003,.j 256 263 f)] (l (U c)) [(6000,ah 246 (Ik (U (c++[V.bo])) (U (d++[V.int aj (-1)])) (U e) (U f))),(5000,.j 1 50 (c++[V.bo])),(5001,.j 1 3 (d++[V.int aj (-1)])),(5002,.j 1 3 e),(5003,.j 256 263 f)]:=by
 refine c4 func150 [] λi p g=>?_
 iterate 2
  refine cp ?_;refine eB _ ?_ (bl:=bi)
 exact jG _ (s:=ao)<|cJ
def ado:∀c,e1 c->bh 149 [cW c] (l (dB c)):=by
 refine aW.ind λc w he=>?_;let⟨⟨⟨N,O⟩,P,F,Q,R,S⟩,v⟩:=p8.1 he;let J:=Qt c.a3;rw[xc];refine g3.of_wp (K:=hX) (m:=5000) [29] (λ_=>(0,0)) ⟨[(0,cW c)],[],[]⟩ gm br h7 ⟨func149,ba,aa⟩ aa aa aa aa λp A bu=>?_;let I:kE bL hX p fT _ [29]:=⟨gm,br,A,h7,bu⟩;apply f<;>intro i
 .exact aL (s:=by rw[ov,af i];rfl)
 apply f<;>intro o
 .let⟨G,T,X,Y⟩:=F o;let t:0<U c.a3:=q;let x:=Qs<|y c.a3 0 av;let E:eO c.a3=dB (y c.a3 0 av):=by rw[Fe G,eO,eO];rfl
  refine gZ L (λn=>⟨[(1,b 1),(4,an aj n)],[(1,ah 169<|cW c)],[]⟩) (·=(if c.max=-1 then c.min+1 else c.max)) ?_ λn C=>?_
  .apply f<;>intro u
   .refine aY ?_;exact dn (c.min+1)<|bQ<|af u
   exact dn c.max<|bQ<|ad u
  let D:aG n=(if c.max=-1 then aG (c.min+1) else aG c.max):=by rw[C];split<;>rfl
  let M:dB (y c.a3 0 av)*aG n<=2001*51:=B9 x q;let r:min (dB (y c.a3 0 av)*aG n:L) 2001=(ov c:Z):=by rw[ov,ad i,af o,E,<-D];exact(show∀e:Z,min (e:L) 2001=(min e 2001:Z) by omega) _
  refine bB 0 (cW<|y c.a3 0 av) ?_ (k:=ly t) (bu:=ba);refine aT ?_ (g:=w _ (dL t)<|v _<|dL t);refine Br (dB (y c.a3 0 av)*aG n:Z) ?_ (s:=aK);refine Bq (ov c:Z) ?_ (s:=r);exact aL
 refine e9 (U c.a3) (λd=>⟨[(3,l<|eO<|am d c.a3),(10,.al 5<|hh c.a3),(11,l<|U<|hh c.a3),(12,l d)],[],[]⟩) λd k=>?_;apply f<;>intro B
 .let h:d<U c.a3:=by rw[io] at B;omega
  let H:=Xt h;let z:=Qt<|am (d+1) c.a3;rw[nD] at z;refine bB d (cW<|y c.a3 d av) ?_ (k:=ly h);refine aT ?_ (g:=w _ (dL h)<|v _<|dL h);refine e7 (eO (am (d+1) c.a3):Z) ?_ (s:=q);refine aY ?_;exact a4<|d+1
 obtain rfl:d=U c.a3:=by grind[io]
 rw[iJ];let r:min (eO c.a3:L) 2001=(ov c:Z):=by rw[ov,ad i,ad o];exact(show∀e:Z,min (e:L) 2001=(min e 2001:Z) by omega) _
 refine Bq (ov c:Z) ?_ (s:=r);exact aL
def atg:∀b,e1 b->bh 197 [cW b] (aV (ou b)):=by
 refine aW.ind λb t he=>?_;let⟨⟨⟨D,E⟩,F,w,G,H,I⟩,o⟩:=p8.1 he;rw[W4];refine g3.of_wp (K:=hX) (m:=5000) [] (λ_=>(0,0)) ⟨[(0,cW b)],[],[]⟩ gm br h7 ⟨func197,ba,aa⟩ aa aa aa aa λp x bu=>?_;let z:kE bL hX p fT _ []:=⟨gm,br,x,h7,bu⟩;apply f<;>intro e
 .exact aL (s:=by rw[rC,af e];rfl)
 apply f<;>intro h
 .refine gN (U b.a3) (λc=>vF b.a3=vF (ay c b.a3)) (λc=>⟨[(14,.al 5<|hh b.a3),(15,l<|U<|hh b.a3),(16,l c)],[],[]⟩) (λc k=>?_) aa;apply f<;>intro u
  .let d:c<U b.a3:=by rw[io] at u;omega
   refine bB c (cW<|y b.a3 c av) ?_ (k:=ly d);refine aT ?_ (g:=t _ (dL d)<|o _<|dL d);apply f<;>intro A
   .exact aL (s:=by rw[rC,ad e,af h,k.2,vM d,vF,show ou (y b.a3 c av)=ae by simp_all];rfl)
   refine aY ?_;exact a4 (c+1) ⟨q,by grind[vM,vF,ou,av]⟩
  exact aL (s:=by rw[io] at u;rw[rC,ad e,af h,k.2,kA q];rfl)
 apply f<;>intro i
 .refine gN (U b.a3) (λc=>pR b.a3=pR (ay c b.a3)) (λc=>⟨[(27,.al 5<|hh b.a3),(28,l<|U<|hh b.a3),(29,l c)],[],[]⟩) (λc k=>?_) aa;apply f<;>intro v
  .let d:c<U b.a3:=by rw[io] at v;omega
   refine bB c (cW<|y b.a3 c av) ?_ (k:=ly d);refine aT ?_ (g:=t _ (dL d)<|o _<|dL d);apply f<;>intro B
   .exact aL (s:=by rw[rC,ad e,ad h,af i,k.2,vM d,pR,show ou (y b.a3 c av)=ag by omega];rfl)
   refine aY ?_;exact a4 (c+1) ⟨q,by grind[vM,pR,ou,av]⟩
  exact aL (s:=by rw[io] at v;rw[rC,ad e,ad h,af i,k.2,kA q];rfl)
 apply f<;>intro n
 .let r:0<U b.a3:=by have:=(w n).1;omega
  apply cy;intro C;refine jV 0 (cW<|y b.a3 0 av) ?_ (k:=ly r) (bu:=ba);refine ch ?_ (g:=t _ (dL r)<|o _<|dL r);exact aa;exact aL (s:=by rw[rC,ad e,ad h,ad i,af n,Fe (w n).1,pR,pR,U2];rfl)
 exact aL (s:=by rw[rC,ad e,ad h,ad i,ad n];rfl)
def bx.de(b:bx):Z:=U b.aF+(ab U b.aF).sum+U b.aJ+U b.gQ
def vB(b:bx):Prop:=U b.gM=U b.aF
theorem Bl(b:bx):b.bX.de=b.de+1:=by
 unfold bx.de bx.bX
 (simp;omega)
theorem af6:∀(b:Y (Y Z)) c d,(ab U b).sum<=(ab U (aR b c (y b c []++[d]))).sum|[],_,_=>bv _|e::b,0,d=>by simp|e::b,c+1,d=>by have:=af6 b c d;simp_all
theorem ML{R:bx}{z Q:Z}:R.de<=(R.dD z Q).de:=by grind[bx.de,bx.dD,af6,List.length_set]
def abF{d:bx}{c:Y Z}(s:c∈d.aF):U c<=d.de:=by
 have:∀{b:Y _},c∈b->U c<=(ab U b).sum:=λ{b} s=>by
  induction b
  cases s
  next e b f=>grind
 grind[bx.de]
def aaS{R:bx}:U R.aF<=R.de:=by grind[bx.de]
def awn(b:bx):U b.aJ<=b.de:=by grind[bx.de]
def ajG{b:bx}:U b.gQ<=b.de:=by simp[bx.de]
structure ol(R Dn:bx):Prop where
 de:R.de<=Dn.de
 oJ:vB R->vB Dn
 len:U R.aF<=U Dn.aF
theorem ol.refl b:ol b b:=⟨bv _,id,bv _⟩
theorem ol.trans{b c n:bx}(s:ol b c)(B:ol c n):ol b n:=⟨c9 s.de B.de,λd=>B.oJ<|s.oJ d,c9 s.len B.len⟩
def oB b:ol b b.bX:=⟨by simp[Bl],λs=>by grind[vB,bx.bX,List.length_append],by simp[bx.bX,cd]⟩
def p0 b c d:ol b (b.dD c d):=⟨ML,λs=>by grind[vB,bx.dD,List.length_set],by simp[bx.dD,nC,bv]⟩
def Zz{R:bx}{z Q:Z}{J:a6}:ol R (R.wh z Q J):=⟨(by(simp[bx.de,bx.wh,cd];omega)),λs=>by grind[vB,bx.wh,List.length_set],bv _⟩
theorem v2(b:bx):U b.bX.aF=U b.aF+1:=by simp[bx.bX,cd]
theorem BW(b:bx)c d:(b.dD c d).aF.length=U b.aF:=by simp[bx.dD,nC]
def rr(c:bx->Z->bx×Z):Prop:=∀b t,ol b (c b t).1/\(t<U b.aF->(c b t).2<(c b t).1.aF.length)
def L2{c:bx->Z->bx×Z}(s:rr c):∀B,rr (h8 c B)|0,b,t=>⟨ol.refl b,id⟩|B+1,b,t=>by obtain⟨e,f⟩:=s b t;obtain⟨g,h⟩:=L2 s B _ _;exact⟨e.trans g,λd=>h<|f d⟩
def Zy{c:bx->Z->bx×Z}(s:rr c){b:bx}{t:Z}:ol b (xM c b t)/\U b.aF<(xM c b t).aF.length:=by obtain⟨d,_⟩:=s _ t;exists (((oB b).trans<|p0 b.bX t<|U b.aF).trans d).trans<|p0 _ _ _;unfold xM;have:=d.len;grind[BW,v2]
def L3{b:bx->Z->bx×Z}(s:rr b):∀B,rr (eM b B)|0,c,t=>⟨ol.refl c,id⟩|B+1,c,t=>by obtain⟨d,e⟩:=Zy s;obtain⟨f,g⟩:=L3 s B _ _;exact⟨d.trans f,λ_=>g e⟩
def Rf{R:bx}{t:Z}:ol R (lC R t)/\(lC R t).aF.length=U R.aF+2:=by exists (((oB R).trans<|oB _).trans<|p0 _ _ _).trans (p0 _ _ _);simp[lC,BW,v2]
def an2{c:bx->Z->bx×Z}(s:rr c){g h:L}:rr (qc c g h):=λl t=>by obtain⟨d,k⟩:=L2 s _ l t;unfold qc;split;obtain⟨b,e⟩:=Rf;obtain⟨f,_⟩:=s _ _;refine⟨((d.trans b).trans f).trans<|p0 _ _ _,λ_=>?_⟩;unfold Jj;rw[BW];have:=f.len;omega;obtain⟨b,e⟩:=L3 s _ _ _;exact⟨d.trans b,λi=>e<|k i⟩
def Rb:∀b,(∀c∈b,rr (gV c))->rr (lN b)|[],_,d,t=>by simp[lN,ol.refl,id]|e::b,s,d,t=>by obtain⟨g,h⟩:=s e ao d t;obtain⟨i,k⟩:=Rb b (λc l=>s c aK) _ _;exact⟨g.trans i,λf=>k<|h f⟩
def L6:∀d,(∀f∈d,rr (gV f))->∀b t c,ol b (mg d b t c)|[],_,b,t,c=>by simp[mg,ol.refl]|e::d,s,b,t,c=>by let⟨g,i⟩:=s e ao b t;let h:=L6 d (λf k=>s f aK) ((gV e b t).1.dD (gV e b t).2 c) t c;exact(g.trans<|p0 _ _ _).trans h
def KW(c:aW)(b:bx)(t:Z):bx×Z:=if dB c=0 then((if ou c then b.bX.dD t (U b.aF) else b.bX),U b.aF)
 else if c.c0=3 then((b.bX.bX.dD t<|U b.aF).wh (U b.aF) (U b.aF+1)<|kf c.set,U b.aF+1)
 else if c.c0=4 then lN c.a3 b t
 else if c.c0=5 then(mg c.a3 b.bX t<|U b.aF,U b.aF)
 else if c.c0=6 then yI c.a3 c.min c.max b t
 else(b.bX.dD t<|U b.aF,U b.aF)
def Qe b c t:gV b c t=KW b c t:=by cases b;rfl
def A2:∀c,rr (gV c):=aW.ind λc d b t=>by
 let f:ol b (b.bX.dD t<|U b.aF)/\U b.aF<(b.bX.dD t<|U b.aF).aF.length:=⟨(oB b).trans<|p0 _ _ _,by simp[BW,v2]⟩;rw[Qe,KW];split;split;simp_all;simp[oB,v2,yk];split;refine⟨(((oB b).trans<|oB _).trans<|p0 _ _ _).trans Zz,λ_=>?_⟩;show U b.aF+1<(b.bX.bX.dD _ _).aF.length;simp[BW,v2];split;exact Rb _ d b t;split;have:=L6 _ d b.bX t<|U b.aF;exact⟨(oB b).trans this,λ_=>by have:=this.len;grind[v2]⟩;split
 match g:c.a3 with|[]=>simp[yI,ol.refl,id]|e::h=>exact an2 (d e aq) b t
 simp_all
def JJ:dE:=⟨0,0,[]⟩
def mY(c:Y dE)(b:bx):bS:=Bt c (ab gI b.gM) (ab l b.gQ)<|ab b3 b.aJ
def BV{e:Y dE}{c:bx}(g:ed e=c.aF)(h:c.de<=10000000)d f(k:d<U c.aF):iL bL fT 198 [b 6000,l d,l f] (cP e) (mY e c) (ed ·=(c.dD d f).aF) (λ_=>cv []) cP (mY · (c.dD d f)):=by let s:=ayH e (ab gI c.gM) (ab l c.gQ) (ab b3 c.aJ) d f (by grind[ed,List.length_map]) λm i=>c9 (abF (by rw[<-g];exact List.mem_map_of_mem i)) h;rw[g] at s;exact s
def Be{f_:Y dE}{R:bx}(c:ed f_=R.aF)(p:R.de<=10000000)(m:vB R):iL bL fT 150 [b 6000] (cP f_) (mY f_ R) (ed ·=R.bX.aF) (λ_=>l<|U R.aF) cP (mY · R.bX):=by
 intro n;let r:U f_=U R.aF:=by rw[<-c,ed,bm]
 let o:=aaS (R:=R);let s:=apg (ab fU f_) (ab gI R.gM) (ab l R.gQ) (ab b3 R.aJ) bi (by rw[bm,m];omega) n;let f:ab fU (f_++[JJ])=ab fU f_++[V.bo]:=ro;let g:ed (f_++[JJ])=R.bX.aF:=by rw[ed,dc,<-ed,c];rfl
 let h:cP (f_++[JJ])=cP f_:=by rw[Ii];exact gv _
 let i:ab gI R.bX.gM=ab gI R.gM++[V.int aj (-1)]:=by show ab gI (R.gM++[-1])=_;rw[dc];rfl
 apply g3.frame s<|cP f_;refine s0 λe=>?_
 (simp[mY,Bt,bm,Gs];omega)
 rintro t M ⟨d,k,rfl,rfl⟩;refine⟨cP _++aZ d (mY _ _),?_,f_++[JJ],d,g,k,?_,aa⟩;rw[h];refine s0 λe=>?_;unfold mY Bt;rw[f,i,show U (f_++[JJ])=U (ab fU f_++[V.bo]) by simp];simp;exact ta _ _;simp_all
section
attribute [local irreducible] dS
def tH(b:bx):V:=b2 [.al 1 (ab ca b.aF),.al 1<|ab gI b.gM,.al 1<|ab l b.gQ,.al 256<|ab b3 b.aJ]
def awL{c:Type}{b:Y c}(s:0<U b):∃(m:Y c)(d:c),b=m++[d]:=by exists b.dropLast,b.getLast aK;rw[ahm]
structure aif where
 seen:Y X
 O:Y Z
 S:Y Z
 b:X
 RN:Y Z
def ZQ{c:Y L}{b:Z}(s:b<U c){d:L}:y c b (-1)=d->(ab gI c)[b]?=W (gI d):=by simp_all
def avz{d b:Y Z}{c:Z}(s:d++[c]<+:b):(ab l b)[(U d)]?=W (l c):=by obtain⟨e,rfl⟩:=s<;>simp_all
def avy{b c:Y Z}(s:b<+:c){d:Z}:am (U (ab l b)) (ay 0 (ab l c))++[l d]=ab l (b++[d]):=by obtain⟨e,rfl⟩:=s<;>simp_all
def aiG{b:Y Z}{c:Z}:uC b (c:Z)=ee b [c]:=ba
theorem aiH b{c:L}(s:¬0<=c):uC b c=b:=ad s
def US(c:bx)(d:Z)(e:Y (Z×V))(f:bS):aN:=⟨(0,b 6000)::(2,l d)::(6,b 6)::(8,.a 18 0<|U c.aF)::e,(6000,ah 246<|tH c)::f,[]⟩
def aen R(r:rt R)(ar:U R.gk<=2000)(aL:U R.aF<=10000000)(aw:∀c,U (y R.aF c [])<=10000000)m F(J:m<U R.aF)z(E:X)(au:fJ z)(aQ:∀n,n∈z↔n<U R.gk/\fe.Way (lq R) m (y R.gk n 0))(av:E↔fe.Way (lq R) m F):dF 152 [b 6000,l m,l F] [(6000,ah 246 (tH R))] (cv [c7 z,bE E]) [(6000,ah 246 (tH R))]:=by
 refine c4 func152 [51] λaT p aJ=>?_;have:U (ab ca R.aF)=U R.aF:=bm ..;have aC:=nd.start r (F:=F) J;refine mv (c7 []) ?_ (e5:=cb);refine kS (U R.aF) (U R.aF) (ab bE<|cM (U R.aF) ae) ?_ (k:=q) (lR:=q) (aU:=wP);refine cE m ?_ (k:=J);refine fF (ab bE<|aR (cM (U R.aF) ae) m ag) (bE ae) (bE ag) ?_ (k:=aq) (aU:=ao);refine n0 ?_;refine c8 aif (λh=>US R F [(7,bE h.b),(9,.a 23 0<|U<|ab l h.O)] [(6,ah 254<|c7 h.S),(18,.j 1 4<|ab bE h.seen),(23,.j 1 3<|ab l h.RN)]) (λh=>nd R m F h.seen h.O h.S h.b (U R.aF) 0/\h.O<+:h.RN/\U h.RN<=10000000) (λh=>2*Gh h.seen+U h.O) ⟨aR (cM (U R.aF) ae) m ag,[m],[],ae,[m]⟩ (λ⟨seen,i,o,v,ak⟩ ⟨u,B,M⟩=>?_) ⟨aC,D8 _,ao⟩;dsimp at u B M⊢;have:=u.len;apply f<;>intro aM
 .obtain⟨i,c,rfl⟩:=awL (show 0<U i by omega);have P:=u.pop r ar;rw[show aH (c=F)=aH (c=(F:L)) from tc.2 q] at P;have N:=u.x6 c ao;have ay:c<U R.aF:=by have:=HF N.1;omega
  have:U R.gM=U R.aF:=r.pl;have:=r.neg c;have:=aw c;have aA:=B.length_le;rw[cd,ri] at aA;have:U (ab l (i++[c]))=U i+1:=by rw[bm,cd];rfl
  apply jG<|U i;refine cE (U i) ?_ (k:=q);refine fl (l c) ?_ (k:=avz B);apply jG<|U i;refine zj 0 (U i) 0 (U<|ab l i) ?_ (bl:=aa) (Ro:=ao);refine gu ?_;refine gZ Unit (λaD=>US R F [(7,aV<|v||aH (c=(F:L))),(10,l c),(9,.a 23 0<|U<|ab l i)] [(6,ah 254<|c7<|uC o<|y R.gM c<|-1),(18,.j 1 4<|ab bE seen),(23,.j 1 3<|ab l ak)]) (λ_=>dW) ?_ λaD aS=>?_
  .refine bB c (gI<|y R.gM c<|-1) ?_ (k:=ZQ q aa);apply f<;>intro aN
   .obtain⟨n,I⟩:∃n,y R.gM c (-1)=(n:Z):=⟨aG<|y R.gM c<|-1,q⟩;have aB:n<2000:=by have:=((r.FR c n).1 I).1;omega
    refine bB c (gI (n:Z)) ?_ (k:=ZQ q I);refine bG [(6000,6)] ?_ (g:=adk aB);rw[<-aiG,<-I];exact dn ()
   rw[show c7 o=c7 (uC o (y R.gM c (-1))) by grind[aiH]];exact dn ()
  refine bB c (ca<|y R.aF c []) ?_ (k:=AW ay);refine c8 (Y X×Y Z×Y Z×Z) (λd=>US R F [(7,aV<|v||aH (c=(F:L))),(66,.al 1<|ab l<|y R.aF c []),(67,l<|U<|ab l<|y R.aF c []),(68,l d.2.2.2),(9,.a 23 0<|U<|ab l d.2.1)] [(6,ah 254<|c7<|uC o<|y R.gM c<|-1),(18,.j 1 4<|ab bE d.1),(23,.j 1 3<|ab l d.2.2.1)]) (λd=>nd R m F d.1 d.2.1 (uC o<|y R.gM c<|-1) (v||aH (c=(F:L))) c d.2.2.2/\d.2.1<+:d.2.2.1/\U d.2.2.1<=10000000/\2*Gh d.1+U d.2.1<=2*Gh seen+U i/\y d.1 c ae/\d.2.2.2<=U (y R.aF c [])) (λd=>U (y R.aF c [])-d.2.2.2) (seen,i,ak,0) (λ⟨s,x,am,e⟩ ⟨w,C,G,T,H,ax⟩=>?_) ⟨P,(Vp i [c]).trans B,M,bv _,N.1,dJ _⟩;dsimp at w C G T H ax⊢;have:=w.len;apply f<;>intro aP
  .have t:e<U (y R.aF c []):=q;have Q:y (y R.aF c []) e 0<U R.aF:=r.Jt c _<|dL t;refine bB e (l<|y (y R.aF c []) e 0) ?_ (k:=eE t);refine cE (y (y R.aF c []) e 0) ?_ (k:=Q);refine fl (bE<|y s (y (y R.aF c []) e 0) ae) ?_ (k:=ajA q);apply f<;>intro K
   .have D:¬y s (y (y R.aF c []) e 0) ae:=by simpa using K
    have A:=w.new r H t D;have:=ayp q D;have:U x<U R.aF:=by
     have h1:=tM A.jw (R:=U R.aF) λaE e5=>by rw[<-A.len];exact HF (A.x6 aE e5).1
     rw[cd,ri] at h1;omega
    refine cE (y (y R.aF c []) e 0) ?_ (k:=Q);refine fF (ab bE<|aR s (y (y R.aF c []) e 0) ag) (bE ae) (bE ag) ?_ (k:=aq) (aU:=ao);refine cp ?_;refine abV ?_ (A6:=aK) (aU:=avy C) (bl:=bi);refine aY ?_;exact a4 (aR s (y (y R.aF c []) e 0) ag,x++[y (y R.aF c []) e 0],x++[y (y R.aF c []) e 0],e+1) ⟨A,D8 _,bi,kj,aK,t⟩ aK
   have D:y s (y (y R.aF c []) e 0) ae=ag:=by simpa using K
   have az:=w.old t D;refine aY ?_;exact a4 (s,x,am,e+1) ⟨az,C,G,T,H,t⟩ aK
  obtain rfl:e=U (y R.aF c []):=q;exact a4 ⟨s,x,uC o<|y R.gM c<|-1,v||aH (c=(F:L)),am⟩ ⟨w.done,C,G⟩ bi
 obtain rfl:i=[]:=l4 q;let⟨aI,ap⟩:=u.end_;obtain rfl:o=z:=RF u.inc.1 au.1 λn=>aq;obtain rfl:v=E:=nA.2<|ap.trans av.symm;refine gY ?_ (bu:=tA);refine kT (c7 o) ?_ (h1:=qK) (fh:=qK);exact sI br<|.nU aa aa aa aa aa tA qK<|.tmp aa .nil
end
def Kp(d:aW):Prop:=∀(c:bx)(e:Y dE)(t:Z),ed e=c.aF->vB c->t<U c.aF->(gV d c t).1.de<=10000000->iL bL fT 151 [b 6000,cW d,l t] (cP e) (mY e c) (ed ·=(gV d c t).1.aF) (λ_=>l (gV d c t).2) cP (mY · (gV d c t).1)
def Dv{b:Y dE}:g7 (cP b++[]) (cP b):=ao
def Mk{ar:bx->Z->bx×Z}:∀B b t,h8 ar (B+1) b t=ar (h8 ar B b t).1 (h8 ar B b t).2|0,_,_=>aa|B+1,b,t=>by rw[h8,Mk B];rfl
def No{b:bx->Z->bx×Z}:∀B c t,eM b (B+1) c t=(xM b (eM b B c t).1 (eM b B c t).2,(eM b B c t).1.aF.length)|0,_,_=>aa|B+1,c,t=>by rw[eM,No B];rfl
def ao3{b:bx->Z->bx×Z}(s:rr b){c B:Z}(g:c<=B)e t:(h8 b c e t).1.de<=(h8 b B e t).1.de:=by
 induction B
 simp_all
 next B f=>rcases hN B c with d|d;grind;rw[Mk];exact c9 (f d) (s _ _).1.de
def ar6{b:bx->Z->bx×Z}(s:rr b){c B:Z}(g:c<=B)e t:(eM b c e t).1.de<=(eM b B e t).1.de:=by
 induction B
 simp_all
 next B f=>rcases hN B c with d|d;grind;rw[No];exact c9 (f d) (Zy s).1.de
def avh{b:bx->Z->bx×Z}(s:rr b)c e d t:(h8 b (aG c) d t).1.de<=(qc b c e d t).1.de:=by unfold qc;split;obtain⟨f,h⟩:=Rf;obtain⟨g,_⟩:=s _ _;exact((f.trans g).trans<|p0 _ _ _).de;exact(L3 s _ _ _).1.de
abbrev nq:Y (Z×Z):=[(6000,6000),(5000,5000),(5001,5001),(5002,5002),(5003,5003)]
def avi(i:aW)(aN:e1 i)(aA:i.c0=6){d:bx->Z->bx×Z}(P:gV (y i.a3 0 av)=d)(u:Kp (y i.a3 0 av))(R:bx)(v:Y dE)(t:Z)(aH:ed v=R.aF)(k:vB R)(T:t<U R.aF)(r:(qc d i.min i.max R t).1.de<=10000000):iL bL fT 200 [b 6000,cW i,l t] (cP v) (mY v R) (λC:Y dE=>ed C=(qc d i.min i.max R t).1.aF) (λ_=>l (qc d i.min i.max R t).2) cP (λC=>mY C (qc d i.min i.max R t).1):=by
 refine iL.of_wp (K:=hX) [2007,2008,2009,2010,2014,2015] gm br h7 ⟨func200,ba,aa⟩ aa aa aa λbY p aB bu=>?_;have bq:kE bL hX p fT _ [2007,2008,2009,2010,2014,2015]:=⟨gm,br,aB,h7,bu⟩;obtain⟨⟨⟨bK,bM⟩,bN,aX,bO,bP,bR⟩,bJ⟩:=p8.1 aN;obtain⟨bk,bl,bm,bn⟩:=aX aA;have F:0<U i.a3:=q;have n:rr d:=P▸A2 _;unfold Kp at u;rw[P] at u;have bG:=avh n i.min i.max R t;obtain⟨hit,bI⟩:=L2 n (aG i.min) R t;refine c8 (Z×Y dE) (λm=>⟨[(0,b 6000),(2,l (h8 d m.1 R t).2),(4,b 4),(11,an aj i.min),(12,l m.1)],(4,ah 169<|cW i)::mY m.2 (h8 d m.1 R t).1,cP m.2⟩) (λm=>m.1<=aG i.min/\ed m.2=(h8 d m.1 R t).1.aF) (λm=>aG i.min-m.1) (0,v) (λ⟨o,H⟩ ⟨aU,A⟩=>?_) ⟨dJ _,aH⟩;dsimp only at aU A⊢;obtain⟨X,ak⟩:=L2 n o R t;apply f<;>intro bC
 .have aQ:o<aG i.min:=q;have z:=ao3 n (show o+1<=aG i.min by omega) R t;rw[Mk] at z;refine bB 0 (cW<|y i.a3 0 av) ?_ (k:=ly F) (bu:=ba);refine gG nq cP [] (λI w=>?_) (g:=u (h8 d o R t).1 H (h8 d o R t).2 A (X.oJ k) (ak T) q);rw[<-Mk (ar:=d) o R t] at w⊢;refine aY ?_;exact a4 (o+1,I) ⟨q,w⟩ q
 obtain rfl:o=aG i.min:=q;rw[qc] at r⊢;generalize h8 d (aG i.min) R t=az at*;obtain⟨c,e⟩:=az;dsimp only at*;have x:=X.oJ k;have aP:=ak T;apply f<;>intro S
 .rw[af S] at r⊢;dsimp only at r⊢;obtain⟨a2,bT⟩:=Rf (R:=c) (t:=e);obtain⟨a5,a1⟩:=n (lC c e)<|U c.aF;have a7:=p0 (d (lC c e)<|U c.aF).1 (d (lC c e)<|U c.aF).2<|U c.aF;have aq:=oB c;have a9:=oB c.bX;have bb:=p0 c.bX.bX e<|U c.aF;have bd:=p0 (c.bX.bX.dD e<|U c.aF) (U c.aF)<|U c.aF+1;have s:(d (lC c e) (U c.aF)).1.de<=10000000:=c9 a7.de r;have bs:=a5.de;have bA:(c.bX.bX.dD e (U c.aF)).de<=(lC c e).de:=bd.de;have bt:=aq.de;have bw:=a9.de;have bz:=bb.de;have ap:=v2 c;have a0:=v2 c.bX;have bS:=BW c.bX.bX e<|U c.aF;refine gG nq cP [] (λI w=>?_) (g:=Be A q x);refine gG nq cP [] (λJ aI=>?_) (g:=Be w q<|aq.oJ x);rw[ap];refine ke ⟨[(0,b 6000),(4,b 4),(7,l<|U c.aF),(8,an aj ((U c.aF+1:Z):L)),(2,l e)],(4,ah 169<|cW i)::mY J c.bX.bX,cP J⟩ ?_;refine dA ?_;refine gG nq cP [] (λbg aJ=>?_) (g:=BV aI q e (U c.aF) q);refine dA ?_;refine gG nq cP [] (λD aK=>?_) (g:=BV aJ q (U c.aF) (U c.aF+1) q);refine ke ⟨[(0,b 6000),(4,b 4),(7,l<|U c.aF),(8,an aj ((U c.aF+1:Z):L))],(4,ah 169<|cW i)::mY D (lC c e),cP D⟩ ?_;refine dA ?_;refine bB 0 (cW<|y i.a3 0 av) ?_ (k:=ly F) (bu:=ba);refine gG nq cP [] (λbi aL=>?_) (g:=u (lC c e) D (U c.aF) aK (a2.oJ x) q s);refine gG nq cP [] (λE aM=>?_) (g:=BV aL s _ (U c.aF)<|a1 q);refine ke ⟨[(0,b 6000),(4,b 4),(8,an aj ((U c.aF+1:Z):L))],(4,ah 169<|cW i)::mY E ((d (lC c e)<|U c.aF).1.dD (d (lC c e)<|U c.aF).2<|U c.aF),cP E⟩ ?_;refine dA ?_;exact ec E aM
 rw[ad S] at r⊢;refine iQ ?_;refine c8 (Z×Y dE) (λm=>⟨[(0,b 6000),(2,l (eM d m.1 c e).2),(4,b 4),(52,an aj<|i.max-i.min),(53,l m.1)],(4,ah 169<|cW i)::mY m.2 (eM d m.1 c e).1,cP m.2⟩) (λm=>m.1<=aG (i.max-i.min)/\ed m.2=(eM d m.1 c e).1.aF) (λm=>aG (i.max-i.min)-m.1) (0,H) (λ⟨h,ax⟩ ⟨aT,G⟩=>?_) ⟨dJ _,A⟩;dsimp only at aT G⊢;obtain⟨aR,aS⟩:=L3 n h c e;apply f<;>intro bD
 .have aQ:h<aG (i.max-i.min):=q;have z:=ar6 n (show h+1<=aG (i.max-i.min) by omega) c e;rw[No] at z;have au:=oB (eM d h c e).1;have aw:=p0 (eM d h c e).1.bX (eM d h c e).2 (eM d h c e).1.aF.length;obtain⟨be,a_⟩:=n ((eM d h c e).1.bX.dD (eM d h c e).2 (eM d h c e).1.aF.length) (eM d h c e).2;have bh:=p0 (d ((eM d h c e).1.bX.dD (eM d h c e).2 (eM d h c e).1.aF.length) (eM d h c e).2).1 (d ((eM d h c e).1.bX.dD (eM d h c e).2 (eM d h c e).1.aF.length) (eM d h c e).2).2 (eM d h c e).1.aF.length;have am:=aR.oJ x;have bE:=aS aP;have ap:=v2 (eM d h c e).1;have a0:=BW (eM d h c e).1.bX (eM d h c e).2 (eM d h c e).1.aF.length;have bU:=au.de;have bV:=aw.de;have bW:=be.de;have s:(d ((eM d h c e).1.bX.dD (eM d h c e).2 (eM d h c e).1.aF.length) (eM d h c e).2).1.de<=10000000:=c9 bh.de<|c9 z r;refine gG nq cP [] (λbc aC=>?_) (g:=Be G q am);refine dA ?_;refine gG nq cP [] (λB aD=>?_) (g:=BV aC q (eM d h c e).2 (eM d h c e).1.aF.length q);refine ke ⟨[(0,b 6000),(4,b 4),(9,l (eM d h c e).1.aF.length),(2,l (eM d h c e).2),(52,an aj<|i.max-i.min),(53,l h)],(4,ah 169<|cW i)::mY B ((eM d h c e).1.bX.dD (eM d h c e).2 (eM d h c e).1.aF.length),cP B⟩ ?_;refine dA ?_;refine bB 0 (cW<|y i.a3 0 av) ?_ (k:=ly F) (bu:=ba);refine gG nq cP [] (λbf aE=>?_) (g:=u ((eM d h c e).1.bX.dD (eM d h c e).2 (eM d h c e).1.aF.length) B (eM d h c e).2 aD (aw.oJ<|au.oJ am) q s);refine gG nq cP [] (λay Q=>?_) (g:=BV aE s _ (eM d h c e).1.aF.length<|a_ q);have M:((d ((eM d h c e).1.bX.dD (eM d h c e).2 (eM d h c e).1.aF.length) (eM d h c e).2).1.dD (d ((eM d h c e).1.bX.dD (eM d h c e).2 (eM d h c e).1.aF.length) (eM d h c e).2).2 (eM d h c e).1.aF.length,(eM d h c e).1.aF.length)=eM d (h+1) c e:=bQ<|No _ _ _;have N:=ea Prod.fst M;have O:=ea Prod.snd M;dsimp only at N O;rw[N] at Q⊢;rw[O];refine aY ?_;exact a4 (h+1,ay) ⟨q,Q⟩ q
 obtain rfl:h=aG (i.max-i.min):=q;exact ec ax G
def Pw:∀(c:Y aW)(b:Z)(_:b<U c)(d:bx)(t:Z),lN (am (b+1) c) d t=gV (y c b av) (lN (am b c) d t).1 (lN (am b c) d t).2|[],b,s,_,_=>by cases s|e::c,0,_,d,t=>by rfl|e::c,b+1,s,d,t=>by have:=Pw c b (ahJ s) (gV e d t).1 (gV e d t).2;trivial
def PB:∀(c:Y aW)(b:Z)(_:b<U c)(e:bx)(t d:Z),mg (am (b+1) c) e t d=(gV (y c b av) (mg (am b c) e t d) t).1.dD (gV (y c b av) (mg (am b c) e t d) t).2 d|[],b,s,_,_,_=>by cases s|f::c,0,_,e,t,d=>by rfl|f::c,b+1,s,e,t,d=>by have:=PB c b (ahJ s) ((gV f e t).1.dD (gV f e t).2 d) t d;trivial
def ah8(b:Y aW){c B:Z}(g:c<=B)(h:B<=U b)(e:bx)(t:Z):(lN (am c b) e t).1.de<=(lN (am B b) e t).1.de:=by induction B with|zero=>simp_all|succ B f=>rcases hN B c with d|d;grind;rw[Pw b B q];exact c9 (f d q) (A2 _ _ _).1.de
def aid(b:Y aW){c B:Z}(h:c<=B)(i:B<=U b)(e:bx)(t f:Z):(mg (am c b) e t f).de<=(mg (am B b) e t f).de:=by induction B with|zero=>simp_all|succ B g=>rcases hN B c with d|d;grind;rw[PB b B q];exact c9 (g d q)<|c9 (A2 _ _ _).1.de ML
def W3{F:aW}{R:bx}{t:Z}(b:dB F≠0):gV F R t=if F.c0=3 then((R.bX.bX.dD t (U R.aF)).wh (U R.aF) (U R.aF+1) (kf F.set),U R.aF+1) else if F.c0=4 then lN F.a3 R t else if F.c0=5 then(mg F.a3 R.bX t (U R.aF),U R.aF) else if F.c0=6 then yI F.a3 F.min F.max R t else(R.bX.dD t (U R.aF),U R.aF):=by rw[Qe,KW,ad b]
theorem W2(c:aW)(b:bx)(t:Z)(d:dB c=0):gV c b t=((if ou c then b.bX.dD t (U b.aF) else b.bX),U b.aF):=by rw[Qe,KW,af d]
def ak6{b:aW}(e:1<=b.c0)(f:b.c0<=6)(d:b.c0<4->b.a3=[])(c:dB b≠0):b.c0=3\/b.c0=4\/b.c0=5\/b.c0=6:=by have:b.c0=1\/b.c0=2\/b.c0=3\/b.c0=4\/b.c0=5\/b.c0=6:=q;rcases this with s|s|s;exfalso;apply c;rw[xc,ov,ad q,ad q,d q];rfl;exfalso;apply c;rw[xc,ov,ad q,ad q,d q];rfl;omega
def abv{d f:Type}{c:Y d}{e:d->f}{b:Z}{I:d}(s:b<U c):(ab e c)[b]?=W (e (y c b I)):=by simp_all
def NC(b:bx)(c:Z):bx:={b with gM:=aR b.gM c (U b.aJ:Z)}
def awb{c:Y (L×L)}{b:Z}(s:b<U c):kf (am (b+1) c)=(kf (am b c)).add (aG (y c b av).1) (aG (y c b av).2):=by grind[List.take_succ_eq_append_getElem,kf,List.getElem?_eq_getElem]
theorem I7{b:Y (L×L)}:U (kf b)=256:=by
 have:∀(b:Y (L×L))(c:a6),U c=256->U (b.foldl (λ(e:a6) d=>e.add (aG d.1)<|aG d.2) c)=256:=by
  intro b
  induction b with|nil=>simp|cons d b f=>exactλc s=>f _ (by show U (List.mapIdx _ c)=256;(simp;omega))
 exact this b _ ba
def ajE(J:a6)(c:L×L)(d:U J=256)(s:0<=c.1/\c.1<=c.2/\c.2<=255):dF 199 [b 6000,an aj c.1,an aj c.2] [(6000,ah 263 (b3 J))] (cv []) [(6000,ah 263 (b3 (J.add (aG c.1) (aG c.2))))]:=by have:=uE J (aG c.1) (aG c.2) d q;grind[l,Int.toNat_of_nonneg]
def ajR{F:aW}(D:e1 F)(S:∀u∈F.a3,Kp u){R:bx}{A:Y dE}{t:Z}(B:ed A=R.aF)(k:vB R)(aw:t<U R.aF)(h:(gV F R t).1.de<=10000000):iL bL fT 151 [b 6000,cW F,l t] (cP A) (mY A R) (λH:Y dE=>ed H=(gV F R t).1.aF) (λ_=>l (gV F R t).2) cP (λH=>mY H (gV F R t).1):=by
 refine iL.of_wp (K:=hX) [2003,2009,2010,2011,2017] gm br h7 ⟨func151,ba,aa⟩ aa aa aa λbA p aA bu=>?_;have a9:kE bL hX p fT _ [2003,2009,2010,2011,2017]:=⟨gm,br,aA,h7,bu⟩;obtain⟨⟨⟨aL,aM⟩,aN,aP,bk,aQ,bn⟩,bd⟩:=p8.1 D;obtain⟨az,a7⟩:=A2 F R t;have N:R.de<=10000000:=c9 az.de h;have ay:=v2 R;refine aT ?_ (g:=ado F D);apply f<;>intro bb
 .have C:dB F=0:=q;rw[W2 F R t C] at h⊢;have T:R.bX.de<=10000000:=by dsimp only at h;split at h;grind[Nat.le_trans,ML];exact h
  refine gG nq cP [] (λo i=>?_) (g:=Be B N k);refine dA ?_;refine aT ?_ (g:=atg F D);apply f<;>intro ap
  .rw[af ap] at h⊢;refine gG nq cP [] (λv w=>?_) (g:=BV i T t (U R.aF) q);exact ec v w
  rw[ad ap] at h⊢;exact ec o i
 have C:dB F≠0:=q;have be:=ak6 aL aM aN C;rw[W3 (F:=F) (R:=R) (t:=t) C] at h⊢;apply f<;>intro aq
 .rw[af aq] at h⊢;have aS:=v2 R.bX;have a0:=BW R.bX.bX t<|U R.aF;have a5:=(Zz (R:=R.bX.bX.dD t<|U R.aF) (z:=U R.aF) (Q:=U R.aF+1) (J:=kf F.set)).de;have bs:=(p0 R.bX.bX t<|U R.aF).de;have bt:=(oB R.bX).de;have bz:=(oB R).de;have aE:(R.bX.bX.dD t (U R.aF)).de<=10000000:=c9 a5 h;have bg:(R.bX.bX.dD t (U R.aF)).gM.length=U R.aF+2:=by have s:vB (R.bX.bX.dD t (U R.aF)):=(p0 R.bX.bX t<|U R.aF).oJ<|(oB R.bX).oJ<|(oB R).oJ k;unfold vB at s;rw[s,a0,aS,ay]
  have bf:=(p0 R.bX.bX t<|U R.aF).oJ<|(oB R.bX).oJ<|(oB R).oJ k;refine gG nq cP [] (λo i=>?_) (g:=Be B N k);refine gG nq cP [] (λv w=>?_) (g:=Be i q<|(oB R).oJ k);rw[ay];refine ke ⟨[(0,b 6000),(4,b 4),(2,l t),(8,l<|U R.aF),(9,an aj ((U R.aF+1:Z):L))],(4,ah 169<|cW F)::mY v R.bX.bX,cP v⟩ ?_;refine dA ?_;have O:=BV w q t (U R.aF) q;generalize R.bX.bX.dD t (U R.aF)=d at*;refine gG nq cP [] (λr aC=>?_) (g:=O);refine ke ⟨[(0,b 6000),(4,b 4),(2,l t),(8,l<|U R.aF),(9,an aj ((U R.aF+1:Z):L))],[(4,ah 169<|cW F),(6000,ah 246<|Ik (U r) (U<|ab gI d.gM) (U<|ab l d.gQ)<|U<|ab b3 d.aJ),(5000,.j 1 50<|ab fU r),(5001,.j 1 3<|ab gI d.gM),(5002,.j 1 3<|ab l d.gQ),(5003,.j 256 263<|ab b3 d.aJ)],cP r⟩ ?_;refine dA ?_;refine ei ?_;refine bw (λ_=>cE (U R.aF) aa (k:=bi)) ?_;refine uk (ab gI<|aR d.gM (U R.aF) (U d.aJ:Z)) (gI<|y d.gM (U R.aF) 0) (l<|U<|ab b3 d.aJ) ?_ (k:=abv q) (aU:=by rw[hl,bm];rfl);refine fz ?_;rw[show U (ab gI d.gM)=U ((NC d (U R.aF)).gM.map gI) by simp[NC,nC]];refine dA ?_;refine mv (b3 cF) ?_ (e5:=ba);refine e9 (U F.set) (λc=>⟨[(0,b 6000),(9,an aj ((U R.aF+1:Z):L)),(10,b 10),(54,.al 2<|ab hs F.set),(55,l<|U<|ab hs F.set),(56,l c)],[(5000,.j 1 50<|ab fU r),(5001,.j 1 3<|(NC d<|U R.aF).gM.map gI),(5002,.j 1 3<|ab l d.gQ),(5003,.j 256 263<|ab b3 d.aJ),(10,ah 263<|b3<|kf<|am c F.set),(6000,ah 246<|Ik (U r) (U<|(NC d<|U R.aF).gM.map gI) (U<|ab l d.gQ)<|U<|ab b3 d.aJ)],cP r⟩) λc k=>?_;apply f<;>intro bc
  .have m:c<U F.set:=q;have aI:=aQ (y F.set c av)<|dL m;refine bB c (hs<|y F.set c av) ?_ (k:=abv m);refine bG [(6000,10)] ?_ (g:=ajE (kf<|am c F.set) (y F.set c av) I7 aI);rw[<-awb m];refine aY ?_;exact a4<|c+1
  obtain rfl:c=U F.set:=q;rw[iJ];have bh:=awn d;have a_:U d.gQ<=10000000:=c9 ajG aE;refine dA ?_;refine ei ?_;refine bw (λ_=>gY aa (bu:=by show U (ab V.bool (kf F.set))=256;simp[I7])) ?_;refine bw (λ_=>kr aa (hlen:=λI bN=>by rw[eu.1 bN];show(b3 (kf F.set)).cells.length=256;simp[g4,I7])) ?_;refine jY 74 (ab b3<|d.aJ++[kf F.set]) ?_ (aX:=ba) (gi:=.al aa aa aa aa λI bN=>by rw[eu.1 bN];show(b3 (kf F.set)).cells.length=256;simp[g4,I7]) (aU:=ro) (bl:=bi);refine bw (λ_=>kr aa) ?_;refine jY 81 (ab l<|d.gQ++[U R.aF+1]) ?_ (aU:=ro) (bl:=bi);refine fo ?_;refine fo ?_;refine jz [(74,5003),(81,5002)] ?_;exact ec r aC
 rw[ad aq] at h⊢;apply f<;>intro ar
 .rw[af ar] at h⊢;rw[show F.a3=am (U F.a3) F.a3 from bQ<|iJ ..] at h;refine c8 (Z×Y dE) (λe=>⟨[(0,b 6000),(2,l (lN (am e.1 F.a3) R t).2),(90,.al 5<|hh F.a3),(91,l<|U<|hh F.a3),(92,l e.1)],mY e.2 (lN (am e.1 F.a3) R t).1,cP e.2⟩) (λe=>e.1<=U F.a3/\ed e.2=(lN (am e.1 F.a3) R t).1.aF) (λe=>U F.a3-e.1) (0,A) (λ⟨c,x⟩ ⟨P,n⟩=>?_) ⟨dJ _,B⟩;dsimp only at P n⊢;obtain⟨E,aG⟩:=Rb (am c F.a3) (λu _=>A2 u) R t;apply f<;>intro au
  .rw[io] at au;have m:c<U F.a3:=q;have aH:=ah8 F.a3 (show c+1<=U F.a3 by omega) (bv _) R t;have G:=Pw F.a3 c m R t;refine bB c (cW<|y F.a3 c av) ?_ (k:=ly m);refine gG nq cP [] (λo i=>?_) (g:=S (y F.a3 c av) (dL m) (lN (am c F.a3) R t).1 x (lN (am c F.a3) R t).2 n (E.oJ k) (aG aw) aK);rw[<-G] at i⊢;refine aY ?_;exact a4 (c+1,o) ⟨q,i⟩ q
  rw[io] at au;obtain rfl:c=U F.a3:=q;rw[iJ] at n⊢;exact ec x n
 rw[ad ar] at h⊢;apply f<;>intro X
 .rw[af X] at h⊢;dsimp only at h⊢;have T:R.bX.de<=10000000:=c9 (L6 F.a3 (λu _=>A2 u) R.bX t<|U R.aF).de h;refine gG nq cP [] (λmJ aB=>?_) (g:=Be B N k);rw[show F.a3=am (U F.a3) F.a3 from bQ<|iJ ..] at h;refine c8 (Z×Y dE) (λe=>⟨[(0,b 6000),(2,l t),(15,l<|U R.aF),(107,.al 5<|hh F.a3),(108,l<|U<|hh F.a3),(109,l e.1)],mY e.2<|mg (am e.1 F.a3) R.bX t<|U R.aF,cP e.2⟩) (λe=>e.1<=U F.a3/\ed e.2=(mg (am e.1 F.a3) R.bX t<|U R.aF).aF) (λe=>U F.a3-e.1) (0,mJ) (λ⟨c,x⟩ ⟨P,n⟩=>?_) ⟨dJ _,aB⟩;dsimp only at P n⊢;have E:=L6 (am c F.a3) (λu _=>A2 u) R.bX t<|U R.aF;apply f<;>intro ak
  .rw[io] at ak;have m:c<U F.a3:=q;have aH:=aid F.a3 (show c+1<=U F.a3 by omega) (bv _) R.bX t<|U R.aF;have G:=PB F.a3 c m R.bX t<|U R.aF;have O:=ML (R:=(gV (y F.a3 c av) (mg (am c F.a3) R.bX t<|U R.aF) t).1) (z:=(gV (y F.a3 c av) (mg (am c F.a3) R.bX t<|U R.aF) t).2) (Q:=U R.aF);rw[<-G] at O;obtain⟨bq,a2⟩:=A2 (y F.a3 c av) (mg (am c F.a3) R.bX t<|U R.aF) t;have ax:=E.len;refine bB c (cW<|y F.a3 c av) ?_ (k:=ly m);refine gG nq cP [] (λo i=>?_) (g:=S (y F.a3 c av) (dL m) (mg (am c F.a3) R.bX t<|U R.aF) x t n (E.oJ<|(oB R).oJ k) q q);refine gG nq cP [] (λv w=>?_) (g:=BV i q _ (U R.aF)<|a2 q);rw[<-G] at w⊢;refine aY ?_;exact a4 (c+1,v) ⟨q,w⟩ q
  rw[io] at ak;obtain rfl:c=U F.a3:=q;rw[iJ] at n⊢;exact ec x n
 have M:F.c0=6:=q;obtain⟨a1,_⟩:=aP M;have ax:0<U F.a3:=q;have aD:yI F.a3 F.min F.max R t=qc (gV (y F.a3 0 av)) F.min F.max R t:=by rw[Fe a1,yI];rfl
 rw[ad X,af M,aD] at h⊢;refine gG nq cP [] (λo i=>?_) (g:=avi F D M aa (S _<|dL ax) R A t B k aw h);exact ec o i
def qQ(b:bg)(n d:Z):Y C:=(bM<|U b.aJ).map λc=>if c<d/\jt (y b.aJ c []) (n:L) then 1 else 0
theorem aaB(b:bg)(n c:Z):U (qQ b n c)=U b.aJ:=by rw[qQ,bm,ij]
def apz(b:bg)(n:Z):qQ b n 0=cM (U b.aJ) 0:=by refine jn λc=>?_;unfold qQ<;>grind
def apw(b:bg)(n:Z):qQ b n (U b.aJ)=gl b n:=by refine jn λc=>?_;unfold qQ gl<;>grind
def apy(b:bg)(n:Z){c:Z}(d:¬jt (y b.aJ c []) (n:L)):qQ b n c=qQ b n (c+1):=by unfold qQ<;>grind
def apx(b:bg)(n d:Z){c:Z}(s:c<U b.aJ):∃e,(ab bF (qQ b n d))[c]?=W (bF e):=by refine⟨(qQ b n d)[c]'(by grind[aaB]),?_⟩;grind
def qx(c:bg):Prop:=∀J∈c.aJ,∀b∈J,0<=b.1/\b.1<=b.2/\b.2<=255
def afh{d:bx}{b:bg}(e:d.aJ=ab kf b.aJ){c:Z}(s:c<U b.aJ):(ab b3 d.aJ)[c]?=W (b3 (kf (y b.aJ c []))):=by simp_all
def afg{b:bg}(e:qx b){c n:Z}(s:c<U b.aJ)(d:n<256):(b3 (kf (y b.aJ c []))).cells[n]?=W (aV (jt (y b.aJ c []) (n:L))):=by rw[CS _ (by grind[I7]),awa _ (e _ aq) n d]
def aps(e:bx)(c:bg)(h:e.aJ=ab kf c.aJ)(r:qx c)(u:U c.aJ<=2000)(n:Z)(mo:n<256):dF 154 [l n,b 6001] [(6001,ah 243 (b 6002)),(6002,ah 246 (tH e))] (a8 (gl c n)) [(6001,ah 243 (b 6002)),(6002,ah 246 (tH e))]:=by
 refine c4 func154 [] λC p v=>?_;let z:U e.aJ=U c.aJ:=by rw[h,bm]
 let x:U (gl c n)=U c.aJ:=by rw[gl,bm]
 let i:U (ab b3 e.aJ)=U c.aJ:=by rw[h,bm,bm]
 refine kS (U c.aJ) (U c.aJ) (ab bF<|qQ c n 0) ?_ (k:=ea nb i) (lR:=ea nb i) (aU:=by rw[apz,B3];rfl);refine e9 (U c.aJ) (λd=>⟨[(0,l n),(1,b 6001),(4,.a 11 0<|U c.aJ),(16,l<|U<|ab b3 e.aJ),(17,l d)],[(11,.j 1 5<|ab bF<|qQ c n d),(6001,ah 243<|b 6002),(6002,ah 246<|tH e)],[]⟩) λd k=>?_;apply f<;>intro w
 .let g:d<U c.aJ:=q;let⟨t,s⟩:=apx c n d g;let m:=afg r g mo;refine bB d (b3<|kf<|y c.aJ d []) (k:=afh h g)<|Do (tv:=n) (cs:=n) ?_ (mo:=by show 0+n*1=n;omega);refine Fx (aV<|jt (y c.aJ d []) (n:L)) ?_ (fi:=m);apply f<;>intro o
  .refine cE d ?_ (k:=q);refine fF (ab bF<|qQ c n<|d+1) (bF t) (an ez 1) (k:=s) (aU:=(by rw[show V.int ez 1=bF 1 from aa,<-hl];refine jn λB=>?_;unfold qQ<;>grind))<|aY<|a4<|d+1
  rw[apy c n o];exact aY<|a4<|d+1
 obtain rfl:d=U c.aJ:=q;let A:U (ab bF<|qQ c n<|U c.aJ)=U c.aJ:=by rw[bm,aaB]
 exact rU (gl c n) (hlen:=q) (aM:=by rw[qn,kC q,apw])<|cJ
section
attribute [local semireducible] gH gA
def g_(d:Y Z)(b c n:V):V:=.vec 256 (.ints aj<|d.map λe=>((e:Z):L)) [b,c,n]
theorem XJ{b:Y Z}(s:U b=256)(c d n:V):(g_ b c d n).cells.length=259:=by
 show U (ab _ (ab _ b)++[c,d,n])=259
 (simp;omega)
def alY{b:Y Z}(s:U b=256){c:Z}(f:c<256)(d e n:V):(g_ b d e n).cells[c]?=W (l (y b c 0)):=by show(ab _ (ab _ b)++[d,e,n])[c]?=_;rw[rh bi,db,db,dX,cT q];rfl
def lv{b:Y Z}(s:U b=256)(c d n:V)(B:Z):(g_ b c d n).cells[256+B]?=([c,d,n]:Y V)[B]?:=fZ.an1 (by show U (ab _ (ab _ b))=256;(simp;omega))
theorem Hd{b:Y Z}(s:U b=256){c f:Z}(g:c<256)(d e n:V):(g_ b d e n).cells.set c (l f)=(g_ (aR b c f) d e n).cells:=by show aR (ab _ (ab _ b)++[d,e,n]) c _=ab _ (ab _ (aR b c f))++[d,e,n];rw[ahy _ _ bi,hl,hl];rfl
def AC{b:Y Z}(s:U b=256)(d e n c:V)(B:Z):(g_ b d e n).cells.set (256+B) c=(fZ.ints aj (b.map λc=>((c:Z):L))).cells++aR ([d,e,n]:Y V) B c:=fZ.awk (by show U (ab _ (ab _ b))=256;(simp;omega))
def Fh(b:Y C):V:=a8 b
def Mr:o6 (λ_=>dW) Fh:=o6.str λ_ _ _ _ s=>s
def Ms{c:Z->V}(b:Y (Y C)):nZ .string (e6 Fh c b):=De λ_ _=>aa
section
variable[hO JP](key:Z->JP)
theorem Xo{n:Z}(e:n<256)(s:key n∉gA key n):kH key n=U (gH key n)/\gH key (n+1)=gH key n++[n]/\gA key (n+1)=gA key n++[key n]:=by
 let b:gA key (n+1)=gA key n++[key n]:=by rw[Mt,note,ad s]
 refine⟨?_,by rw[gH,ad s],b⟩;let hm:key n∈gA key (n+1):=R6 key q;unfold kH;rw[y8 (aaD key<|show n+1<=256 by omega) hm];let c:=aaC key<|n+1;rw[b] at c⊢;let d:U (gA key n)<U (gA key n++[key n]):=ao;have:=Dc c d;grind[HZ]
theorem Xp{n:Z}(b:n<256)(s:key n∈gA key n):gX (gA key n) (key n)=kH key n/\gH key (n+1)=gH key n/\gA key (n+1)=gA key n:=by refine⟨?_,by rw[gH,af s],by rw[Mt,note,af s]⟩;grind[kH,y8,aaD]
end
def akK(h:bx)(u:bg)(y:h.aJ=ab kf u.aJ)(x:qx u)(v:U u.aJ<=2000):dF 153 [b 6000,eo (c1 154) [] [b 6001]] [(6000,ah 260 (g_ (cM 256 0) .bo .bo .bo)),(6001,ah 243 (b 6002)),(6002,ah 246 (tH h))] (cv []) [(6000,ah 260 (g_ (ls u) (.al 1 (ab l (dm u))) .bo .bo)),(6001,ah 243 (b 6002)),(6002,ah 246 (tH h))]:=by
 refine c4 func153 [2001] λD p z=>?_;refine a1.Av 1400 1 3 6000 0 ?_;refine dA ?_;refine e9 256 (λn=>⟨[(0,b 6000),(1,eo (c1 154) [] [b 6001]),(4,.eA 9),(10,l n)],[(1400,.j 1 3<|ab l<|gH (gl u) n),(6000,ah 260<|g_ (hI (kH<|gl u) 256 n) (.a 1400 0<|U<|ab l<|gH (gl u) n) .bo .bo),(6001,ah 243<|b 6002),(6002,ah 246<|tH h),(9,iA (e6 Fh (λe=>l<|id e)<|gA (gl u) n)<|U<|gA (gl u) n)],[]⟩) λn A=>?_;apply f<;>intro B
 .let c:n<256:=q;let d:=N3 (kH<|gl u) 256 n;let C:=E3 (gl u) n;refine bG [(6001,6001),(6002,6002)] ?_ (g:=aps h u y x v n c);refine sW (cv [l (mr id (gA (gl u) n)<|gl u n),aV<|v9 (gA (gl u) n)<|gl u n]) ?_ (Ms _)<|H3 (G:=λ_=>dW) (u:=id) (fa:=gA (gl u) n) (T:=gl u n) Mr b5 (λ_ _=>b5) aa;apply f<;>intro w
  .let t:gl u n∉gA (gl u) n:=λs=>by grind[sT,cg]
   let⟨k,m,o⟩:=Xo (gl u) c t;let i:U (ab l<|gH (gl u) n)=kH (gl u) n:=by rw[bm,k]
   refine hU (.a 1400 0<|U<|ab l<|gH (gl u) n) ?_ (fi:=lv d _ _ _ 0);refine rV (e6 Fh (λe=>l<|id e)<|gA (gl u)<|n+1) (U<|gA (gl u)<|n+1) ?_ (mq:=Ms _) (hu:=by rw[o,bm,<-HZ];exact Df (G:=λ_=>dW) (s6:=λe=>l<|id e) Mr b5 (λ_ _=>b5) t);refine hU (.a 1400 0<|U<|ab l<|gH (gl u) n) ?_ (fi:=lv d _ _ _ 0);refine cp ?_;refine eB (ab l<|gH (gl u)<|n+1) ?_ (aU:=by rw[m,dc];rfl) (bl:=kj);refine sX (g_ (hI (kH<|gl u) 256 n) (.a 1400 0<|U<|ab l<|gH (gl u)<|n+1) .bo .bo) ?_ (k9:=z_) (aU:=AC d _ _ _ _ 0);refine kR n n ?_ (kp:=by show n=0+n*1;omega);refine sX (g_ (hI (kH<|gl u) 256<|n+1) (.a 1400 0<|U<|ab l<|gH (gl u)<|n+1) .bo .bo) ?_ (k9:=z_) (aU:=by first|(rw[i,<-I3 _ c];exact Hd d c _ _ _)|(exact Hd d c _ _ _));refine aY ?_;exact a4<|n+1
  let r:gl u n∈gA (gl u) n:=sT.1<|Gp.1 w;let⟨k,m,o⟩:=Xp (gl u) c r;let i:mr id (gA (gl u) n) (gl u n)=kH (gl u) n:=by rw[Fc r];exact k
  rw[i,<-m,<-o];refine kR n n ?_ (kp:=by show n=0+n*1;omega);refine sX (g_ (hI (kH<|gl u) 256<|n+1) (.a 1400 0<|U<|ab l<|gH (gl u)<|n+1) .bo .bo) ?_ (k9:=z_) (aU:=by grind[I3,Hd]);refine aY ?_;exact a4<|n+1
 obtain rfl:n=256:=q;rw[N2];exact gq 1400 cJ
end
def h4(b:Y Z)(t c:Z):X:=aH<|((y b c 0:Z):L)=((t:Z):L)
def y3(c:Y Z)(t:Z)(b:Y Z):L:=if fB b (h4 c t) then((b.findIdx (h4 c t):Z):L) else-1
def i2(d:Y Z)(t:Z)(c:Y Z)(b:Z):Y Z:=(am b c).filter λe=>!h4 d t e
theorem R4{d:Y Z}{t:Z}{c:Y Z}{b:Z}(s:b<U c):i2 d t c (b+1)=i2 d t c b++(if h4 d t (y c b 0) then[] else[y c b 0]):=by unfold i2;grind[rc,h4,List.filter_cons_of_pos,List.filter_cons_of_neg]
def abN{p c:Y Z}{b:Z}(s:U p<=b):(p++ay (U p) c)[b]?=c[b]?:=by grind
def aqJ{p b:Y Z}{c:Z}(s:U p<U b):aR (p++ay (U p) b) (U p) c=p++[c]++ay (U (p++[c])) b:=by rw[z0 _ _ q,oX,l3 s,J0,eS,cd];rfl
def aqI{p b:Y Z}(s:U p<=U b):U (p++ay (U p) b)=U b:=aq
theorem XN(c:Y Z)(e:Y V)(t d:Z)(g:d<U c):dF 287 [l d,b 6000,b 6001] [(6000,ah 320 (b 6002)),(6001,ah 3 (l t)),(6002,ah 323 (b2 [.a 6003 0 (U c),.a 6004 0 (U e)])),(6003,.j 1 3 (ab l c)),(6004,.j 1 50 e)] (aV (h4 c t d)) [(6000,ah 320 (b 6002)),(6001,ah 3 (l t)),(6002,ah 323 (b2 [.a 6003 0 (U c),.a 6004 0 (U e)])),(6003,.j 1 3 (ab l c)),(6004,.j 1 50 e)]:=by refine c4 func287 [] λh p f=>?_;refine fA<|cE d ?_;refine fl (l<|y c d 0) ?_ (k:=aq);exact cJ
theorem aoL(d:Y Z)(i:Y V)(t:Z)(c:Y Z)(o:Z)(E:o=U c)(C:∀v∈c,v<U d)(D:U c<=100000):dF 304 [.a 6005 0 o,eo (c1 287) [] [b 6000,b 6001]] [(6000,ah 320 (b 6002)),(6001,ah 3 (l t)),(6002,ah 323 (b2 [.a 6003 0 (U d),.a 6004 0 (U i)])),(6003,.j 1 3 (ab l d)),(6004,.j 1 50 i),(6005,.j 1 3 (ab l c))] (an aj (y3 d t c)) [(6000,ah 320 (b 6002)),(6001,ah 3 (l t)),(6002,ah 323 (b2 [.a 6003 0 (U d),.a 6004 0 (U i)])),(6003,.j 1 3 (ab l d)),(6004,.j 1 50 i),(6005,.j 1 3 (ab l c))]:=by
 refine c4 func304 [] λF p A=>?_;refine gN (U c) (λe=>∀h,h<e->h4 d t (y c h 0)=ae) (λe=>⟨[(0,.a 6005 0 o),(1,eo (c1 287) [] [b 6000,b 6001]),(7,l o),(8,l e)],[(6003,.j 1 3<|ab l d),(6004,.j 1 50 i),(6005,.j 1 3<|ab l c),(6000,ah 320<|b 6002),(6001,ah 3<|l t),(6002,ah 323<|b2 [.a 6003 0 (U d),.a 6004 0<|U i])],[]⟩) (λe k=>?_) λh m=>cg m<|yl h;apply f<;>intro B
 .let u:e<U c:=q;refine cE e ?_ (k:=q);refine fl (l<|y c e 0) (k:=eE u)<|bG [(6000,6000),(6001,6001),(6002,6002),(6003,6003),(6004,6004)] ?_ (g:=XN d i t (y c e 0) aq);apply f<;>intro w
  .let x:c.findIdx (h4 d t)=e:=by refine(List.findIdx_eq u).2 ⟨?_,λh m=>?_⟩;simp_all;grind
   let r:fB c (h4 d t):=zS.2 ⟨_,dL (I:=0) u,w⟩;rw[show y3 d t c=((e:Z):L) by rw[y3,af r,x]];exact cJ
  exact aY<|a4 (e+1) ⟨q,λh m=>by grind⟩
 let r:¬fB c (h4 d t):=λn=>by let⟨v,z,s⟩:=zS.1 n;obtain⟨h,m,rfl⟩:=ahr z<;>grind
 rw[show y3 d t c=-1 by rw[y3,ad r]];exact cJ
theorem al7(d:Y Z)(m:Y V)(t:Z)(c:Y Z){v:Z}(B:v=U c)(A:∀h∈c,h<U d)(J:U c<=100000):dF 286 [.a 6005 0 v,eo (c1 287) [] [b 6000,b 6001]] [(6000,ah 320 (b 6002)),(6001,ah 3 (l t)),(6002,ah 323 (b2 [.a 6003 0 (U d),.a 6004 0 (U m)])),(6003,.j 1 3 (ab l d)),(6004,.j 1 50 m),(6005,.j 1 3 (ab l c))] (.a 6005 0 (U (c.filter λh=>!h4 d t h))) [(6000,ah 320 (b 6002)),(6001,ah 3 (l t)),(6002,ah 323 (b2 [.a 6003 0 (U d),.a 6004 0<|U m])),(6003,.j 1 3 (ab l d)),(6004,.j 1 50 m),(6005,.j 1 3 (ab l<|c.filter λh=>!h4 d t h))]:=by
 refine c4 func286 [] λar p Q=>?_;refine bG [(6000,6000),(6001,6001),(6002,6002),(6003,6003),(6004,6004),(6005,6005)] ?_ (g:=aoL d m t c v B A J);apply f<;>intro E
 .have T:¬fB c (h4 d t):=λn=>by simp_all[y3,af]
  have o:(c.filter λh=>!h4 d t h)=c:=Vc.2 λh D=>by simp_all
  rw[o,<-B];exact cJ
 have M:fB c (h4 d t):=pD λn=>E (by rw[y3,ad n]);have o:=List.findIdx_lt_length_of_exists (p:=h4 d t) (xs:=c) aq;have x:i2 d t c (c.findIdx (h4 d t))=am (c.findIdx (h4 d t)) c:=Vc.2 λh D=>by obtain⟨e,S,rfl⟩:=ahr D<;>grind
 have z:i2 d t c (c.findIdx (h4 d t)+1)=am (c.findIdx (h4 d t)) c:=by rw[R4 o,x,af,gv];rw[dX,cT o];exact List.findIdx_getElem
 rw[show y3 d t c=((c.findIdx (h4 d t):Z):L) by rw[y3,af M]];generalize c.findIdx (h4 d t)=r at o x z⊢;have H:U (i2 d t c (r+1))=r:=by rw[z,nD];omega
 refine e7 ((r+1:Z):L) ?_;refine c8 (Z×Z×Y V) (λi=>⟨[(0,.a 6005 0 v),(1,eo (c1 287) [] [b 6000,b 6001]),(5,l i.2.1),(6,l i.1)],[(6003,.j 1 3<|ab l d),(6004,.j 1 50 m),(6005,.j 1 3 i.2.2),(6000,ah 320<|b 6002),(6001,ah 3<|l t),(6002,ah 323<|b2 [.a 6003 0 (U d),.a 6004 0<|U m])],[]⟩) (λi=>i.1<=U c/\i.2.1=U (i2 d t c i.1)/\i.2.2=ab l (i2 d t c i.1++ay (U<|i2 d t c i.1) c)/\U (i2 d t c i.1)<i.1) (λi=>U c-i.1) (r+1,r,ab l c) (λ⟨e,ak,ap⟩ aX=>?_) ⟨o,bQ H,aq,bi⟩;dsimp only at aX⊢;obtain⟨X,rfl,rfl,N⟩:=aX;have K:U (ab l (i2 d t c e++ay (U (i2 d t c e)) c))=U c:=by rw[bm,aqI q]
 apply f<;>intro R
 .have u:e<U c:=q;have G:(ab l (i2 d t c e++ay (U (i2 d t c e)) c))[e]?=W (l (y c e 0)):=by rw[db,abN q,dX,cT u];rfl
  have F:∃P,(ab l (i2 d t c e++ay (U (i2 d t c e)) c))[(U (i2 d t c e))]?=W (l P):=by refine⟨y c (U<|i2 d t c e) 0,?_⟩;rw[db,abN<|bv _,dX,cT q];rfl
  let⟨O,s⟩:=F;refine cE e ?_ (k:=q);refine fl (l<|y c e 0) ?_ (k:=G);refine bG [(6000,6000),(6001,6001),(6002,6002),(6003,6003),(6004,6004)] ?_ (g:=XN d m t (y c e 0)<|A _<|dL u);apply f<;>intro w
  .have C:i2 d t c (e+1)=i2 d t c e++[y c e 0]:=by rw[R4 u,ad];simpa using w
   refine cE (U<|i2 d t c e) ?_ (k:=q);refine fF (ab l<|i2 d t c (e+1)++ay (U<|i2 d t c<|e+1) c) (l O) (l<|y c e 0) ?_ (k:=s) (aU:=by rw[C,<-aqJ q,hl]);refine e7 ((U (i2 d t c e)+1:Z):L) ?_;refine aY ?_;exact a4 (e+1,U (i2 d t c e)+1,ab l<|i2 d t c (e+1)++ay (U<|i2 d t c<|e+1) c) ⟨q,aq,aa,aq⟩ q
  have C:i2 d t c (e+1)=i2 d t c e:=by rw[R4 u,af,gv];simpa using w
  refine aY ?_;exact a4 (e+1,U<|i2 d t c e,ab l<|i2 d t c e++ay (U<|i2 d t c e) c) ⟨q,aq,aq,aK⟩ q
 obtain rfl:e=U c:=q;have I:i2 d t c (U c)=c.filter λh=>!h4 d t h:=by unfold i2;rw[iJ]
 rw[I] at N K⊢;refine zj (U<|c.filter λh=>!h4 d t h) (U c) (U<|c.filter λh=>!h4 d t h) (U c-U (c.filter λh=>!h4 d t h)) ?_;refine abZ (ab l<|c.filter λh=>!h4 d t h) ?_ (aU:=ao);refine zj 0 (U<|c.filter λh=>!h4 d t h) 0 (U<|c.filter λh=>!h4 d t h) ?_;exact cJ
def dK(b:dE):V:=.bH b.id b.aS 0<|U<|ab l b.l
def u2(b:dE):Z×cB:=(b.id,.j b.aS 1 3<|ab l b.l)
def dw(b:Y dE):bV:=ab u2 b
def amw:Es dK (λb:dE=>.al 1<|ab l b.l) (λb=>[u2 b]):=λb=>bp ⟨b.id,b.aS,1,3,ab l b.l,aa,aa,aa⟩
def aqn(b:Y dE):ff (λc=>[u2 c]) b=dw b:=by
 unfold dw
 induction b with|nil=>rfl|cons c b d=>(simp;omega)
def Su(b c:Y dE):dw (b++c)=dw b++dw c:=dc
def H7{b:Y dE}{c:Z}(s:c<U b):u2 (y b c av)∈dw b:=dI.2 ⟨_,dL s,aa⟩
def Lt{b:Y dE}{c:Z}(s:c<U b):(ab dK b)[c]?=W (dK (y b c av)):=by simp_all
theorem y_{b:Y dE}{c:Z}(s:c<U b):y (ed b) c []=(y b c av).l:=by grind[ed,List.getElem?_eq_getElem]
def Dh(b:Y dE):U (ed b)=U b:=bm ..
section
variable{M:Oper}{B:V->Prop}
def ab1{r v k:aw}{e:cH}{s:aP}{b f H n u:Z}{t:Y V}(z:B (l n))(A:(b,cB.j f u k t)∈J.d)(C:M.op=.call {callee:=.builtin .len,args:=#[s],argTypes:=#[r]}:=by rfl)(F:K.find r=W e:=by rfl)(bN:e.d=c_ v:=by rfl)(E:e.O=ae:=by rfl)(G:val i J.c s=W (.bH b f H n):=by rfl):er P K p i ae M J B:=.n5 (λy w x g=>by
 let h:=(y.find F).g5 E;rw[bN] at h;let⟨o,m⟩:=rl.1 A;let D:(J.aB g).d[o]?=W (b,cB.j f u k t):=by show(J.d++aZ g _)[o]?=_;rw[rh (eX.1 m).1];exact m
 exact TJ h C (iU w x G pI g) D) z
end
section
variable{en:aN}
def a1.Rj(en:aN)(s:∀b,e3 P p n (J.aB b) (λf g=>f=fY/\(∀h i,(en.aB b).c.lookup h=W i->cX h g.c=W i)/\g7 g.d (en.aB b).d))(x:ak fY en):a1 P p m n J ak:=⟨λb z u o y l v=>by refine Code.wp_mono ?_<|s b o y l v;rintro f A C ⟨B,k,⟨rfl,r,t⟩,w⟩;let e:=w.zI r;exact⟨_,k,u b _ _ (dk.refl m b) x,⟨e.cO.perm t.symm,e.c,e.gR,e.size,e.defers⟩⟩⟩
theorem a1.X8(e:bV)(w:∀v∈e,v∈J.d)(u:∃f,g7 (e++f) J.d)(s:a1 P p m n {J with d:=e} ak):a1 P p m n J ak:=⟨λi k r l h g b=>by let⟨f,t⟩:=u;refine s.run i k r l h g ⟨?_,b.c,b.gR,b.size,b.defers⟩;let o:Holds p g (e++aZ i J.az++f) h:=b.cO.perm (by refine List.Perm.trans ?_<|Gr _ t;simp[D2,vs]);exact o.drop<|Vs _ _⟩
end
def s5(d:Z)(B b:V):Y (V×V×Z)->Y (V×V×Z)|[]=>[(B,b,d)]|c::e=>if B.rM c.1 then(B,b,c.2.2)::e else c::s5 d B b e
def AD(B:V):Y (V×V×Z)->Y (V×V×Z)|[]=>[]|c::b=>if B.rM c.1 then b else c::AD B b
def oA(B:V):Y (V×V×Z)->Option V|[]=>ai|b::c=>if B.rM b.1 then W b.2.1 else oA B c
def MJ(B:V):∀(c:Y (V×V×Z))(b:Z),mX c B (b+1)=(mX c B b).map λd=>(d.1+1,d.2)|[],b=>aa|e::c,b=>by rw[mX,mX];split;rfl;exact MJ B c _
def SD(B:V):∀b:Y (V×V×Z),Dl b B=oA B b|[]=>aa|d::b=>by let c:=SD B b;unfold Dl at c⊢;rw[mX,oA];split;rfl;rw[MJ,<-c];cases mX b B 0<;>rfl
def MM(c:Z)(B d:V):∀b:Y (V×V×Z),(lB b c B d).1=s5 c B d b|[]=>aa|f::b=>by let e:=MM c B d b;unfold lB at e⊢;rw[mX,s5];by_cases s:B.rM f.1;simp_all;rw[ad s,ad s,MJ,<-e]<;>grind
def abB(B:V):∀b:Y (V×V×Z),tP b B=AD B b|[]=>aa|d::b=>by let c:=abB B b;unfold tP at c⊢;rw[mX,AD];by_cases s:B.rM d.1;simp_all;rw[ad s,ad s,MJ,<-c]<;>grind
def oC(b:V):X:=b.isKey<|.int aj
def ZR{b:V}(s:oC b):∃c,b=an aj c:=by cases b<;>simp[oC,V.isKey] at s<;>simp_all
def rK{b c:V}(f:oC b)(g:oC c):b.rM c↔b=c:=by obtain⟨d,rfl⟩:=ZR f;obtain⟨e,rfl⟩:=ZR g;show(d==e)↔V.int _ d=V.int _ e;simp
open Classical in
def L1{k:Z}{B g b:V}(d:oC B)(e:oC b):∀{f:Y (V×V×Z)},(∀h∈f,oC h.1)->oA b (s5 k B g f)=if B=b then W g else oA b f
|[],_=>by
 show(if b.rM B then W g else ai)=if B=b then W g else ai
 by_cases c:B=b;simp_all[af,rK];rw[ad λn=>c<|bQ<|(rK e d).1 n,ad c]|h::f,s=>by let i:=s h ao;rw[s5];by_cases n:B=h.1;rw[af<|(rK d i).2 n,oA,oA];by_cases c:B=b;simp_all[af,rK];rw[ad λI=>c<|bQ<|(rK e d).1 I,ad c,ad λI=>c<|b0 n<|bQ<|(rK e i).1 I];rw[ad λI=>n<|(rK d i).1 I,oA,oA,L1 d e λl m=>s l aK];by_cases c:B=b;simp_all[af,ad,rK];simp_all
def OG{f:Z}{B i:V}(h:oC B):∀{d:Y (V×V×Z)},(∀b∈d,oC b.1)->∀b∈s5 f B i d,oC b.1|[],_,b,c=>by grind[s5,List.mem_singleton]|e::d,s,b,c=>by rw[s5] at c;split at c;grind;rcases fH.1 c with rfl|g;simp_all;exact OG h (λe k=>s e aK) b g
theorem agI{f:Z}{B h:V}:∀{d:Y (V×V×Z)}{b:V×V×Z},b∈s5 f B h d->b.1=B\/∃e∈d,b.1=e.1|[],b,c=>by grind[s5,List.mem_singleton]|e::d,b,c=>by rw[s5] at c;split at c;grind;rcases fH.1 c with rfl|g;simp;rcases agI g with s|⟨k,aX,i⟩<;>grind
def agJ{f:Z}{B i:V}(e:oC B):∀{d:Y (V×V×Z)},(∀c∈d,oC c.1)->d.Pairwise (λc b=>c.1≠b.1)->(s5 f B i d).Pairwise (λc b=>c.1≠b.1)|[],_,_=>by simp[s5,Gv]|b::d,s,h=>by let⟨k,g⟩:=s_.1 h;rw[s5];by_cases n:B=b.1;rw[af<|(rK e<|s b ao).2 n]<;>simp_all<;>omega;rw[ad λI=>n<|(rK e aq).1 I];refine s_.2 ⟨λm aX=>?_,agJ e (λb l=>s b aK) g⟩;grind[agI]
def QA{B:V}:∀b:Y (V×V×Z),(AD B b).Sublist b|[]=>.slnil|c::b=>by rw[AD];split;simp;exact .cons_cons _<|QA (B:=B) b
theorem Zr{B:V}(d:oC B):∀{c:Y (V×V×Z)},(∀b∈c,oC b.1/\b.1≠B)->oA B c=ai|[],_=>aa|e::c,s=>by rw[oA,ad λn=>(s e ao).2<|bQ<|(rK d (s e ao).1).1 n];exact Zr d λb f=>s b aK
open Classical in
def Zq{B b:V}(g:oC B)(i:oC b):∀{d:Y (V×V×Z)},(∀h∈d,oC h.1)->d.Pairwise (λh c=>h.1≠c.1)->oA b (AD B d)=if B=b then ai else oA b d|[],_,_=>by simp[AD,oA]|c::d,s,l=>by let⟨m,k⟩:=s_.1 l;let e:=s c ao;rw[AD];by_cases n:B=c.1;rw[af<|(rK g e).2 n];by_cases f:B=b;grind[Zr];rw[ad f,oA,ad λI=>f<|b0 n<|bQ<|(rK i e).1 I];rw[ad λI=>n<|(rK g e).1 I,oA,oA,Zq g i (λc e=>s c aK) k];by_cases f:B=b;simp_all[af,ad,rK];simp_all
structure nQ(gb:Y (V×V×Z))(et:Y Z):Prop where
 keys:∀T∈gb,oC T.1
 jw:gb.Pairwise (λT w=>T.1≠w.1)
 get:∀Q:Z,oA (l Q) gb=if Q∈et then W (bE ag) else ai
def nQ.ok{b:Y (V×V×Z)}{c:Y Z}(s:nQ b c):nZ (.int aj) b:=s.keys
def MW{b c:Z}(s:l b=l c):b=c:=by grind[l]
def nQ.look{c:Y (V×V×Z)}{d:Y Z}(s:nQ c d)(b:Z){e:Value}(f:V.const e=bE ae):qS c (l b) e ae=bE (aH (b∈d)):=by unfold qS;rw[ad ao,SD,s.get b]<;>grind
theorem nQ.add{d:Y (V×V×Z)}{e:Y Z}(s:nQ d e)(f b:Z):nQ (lB d f (l b) (bE ag)).1 (e++[b]):=by rw[MM];refine⟨OG aa s.keys,agJ aa s.keys s.jw,λc=>?_⟩;rw[L1 aa aa s.keys,s.get c];by_cases n:b=c;simp_all;rw[ad λI=>n<|MW I];grind
def nQ.del{e:Y (V×V×Z)}{c:Y Z}{b:Z}(s:nQ e (c++[b]))(h:b∉c):nQ (tP e (l b)) c:=by rw[abB];refine⟨λg f=>s.keys g<|(QA _).subset f,s.jw.sublist<|QA _,λd=>?_⟩;rw[Zq aa aa s.keys s.jw,s.get d];by_cases n:b=d;simp_all;rw[ad λI=>n<|MW I];grind
def aom(c:Y dE)(r:Y Z)(d:Y Z)(h:Y (V×V×Z))(g t e:Z)(m:t<U c)(o:e<U c)(i:nQ h d)(bl:U d<=1000000):iL bL fT 250 [l t,l e,b 6000,b 6001,b 6003] (dw c) [(6000,ah 356 (.eA 6006)),(6001,ah 320 (b 6002)),(6002,ah 323 (b2 [.a 6004 0 (U r),.a 6005 0 (U (ab dK c))])),(6003,ah 50 (.a 5002 0 (U (ab l d)))),(6004,.j 1 3 (ab l r)),(6005,.j 1 50 (ab dK c)),(6006,iA h g),(5002,.j 1 3 (ab l d))] (λs:Y (V×V×Z)×Z=>nQ s.1<|d++[vJ d (ed c) t e]) (λ_=>cv []) (λ_=>dw c) (λs=>[(6000,ah 356<|.eA 6006),(6001,ah 320<|b 6002),(6002,ah 323<|b2 [.a 6004 0 (U r),.a 6005 0<|U<|ab dK c]),(6003,ah 50<|.a 5002 0<|U<|ab l<|d++[vJ d (ed c) t e]),(6004,.j 1 3<|ab l r),(6005,.j 1 50<|ab dK c),(6006,iA s.1 s.2),(5002,.j 1 3<|ab l<|d++[vJ d (ed c) t e])]):=by
 refine iL.of_wp (K:=hX) [] gm br h7 ⟨func250,ba,aa⟩ aa aa aa λB p w A=>?_;let x:U (ab dK c)=U c:=bm ..;refine fA<|sW (bE<|aH<|e∈d) ?_ i.ok<|i.look e aa;apply cL;refineλz=>cE e ?_ (k:=q);refine fl (dK<|y c e av) ?_ (k:=Lt o);refine ab1 ?_<|H7 o;refine cE t ?_ (k:=q);refine fl (dK<|y c t av) ?_ (k:=Lt m);refine ab1 ?_<|H7 m;exact aa;apply f<;>intro v
 .let u:vJ d (ed c) t e=e:=by unfold vJ;rw[af];rw[y_ m,y_ o];exact⟨v.1,q⟩
  rw[u];refine rV (lB h g _<|bE ag).1 (lB h g _<|bE ag).2 ?_ (mq:=i.ok);refine cp ?_;refine eB (ab l<|d++[_]) ?_ (aU:=ro) (bl:=bi);exact ec (lB h g (l e)<|bE ag)<|i.add g e
 let u:vJ d (ed c) t e=t:=by unfold vJ;rw[ad];rw[y_ m,y_ o];intro n;exact v ⟨n.1,q⟩
 rw[u];refine rV (lB h g _<|bE ag).1 (lB h g _<|bE ag).2 ?_ (mq:=i.ok);refine cp ?_;refine eB (ab l<|d++[_]) ?_ (aU:=ro) (bl:=bi);exact ec (lB h g (l t)<|bE ag)<|i.add g t
structure sr(gb:Y (V×V×Z))(cA:Y Z)(j5:Y dE):Prop where
 keys:∀T∈gb,oC T.1
 len:U j5=U cA
 get:∀Q:Z,oA (l Q) gb=if Q∈cA then W (dK (y j5 (h2 Q cA) av)) else ai
def sr.ok{b:Y (V×V×Z)}{d:Y Z}{c:Y dE}(s:sr b d c):nZ (.int aj) b:=s.keys
def Db(b:Y Z)(d:Y dE)(c:Z):V:=if c∈b then dK (y d (h2 c b) av) else .bo
theorem sr.nil:sr [] [] []:=⟨λd b=>cg b kB,aa,λc=>ba⟩
def sr.look{e:Y (V×V×Z)}{d:Y Z}{c:Y dE}(s:sr e d c)(b:Z){f:Value}(g:V.const f=.bo):qS e (l b) f ae=Db d c b:=by unfold qS Db;rw[ad ao,SD,s.get b];grind
def sr.new{g:Y (V×V×Z)}{b:Y Z}{f:Y dE}(s:sr g b f){c:Z}(k:c∉b)(i:Z)(h:dE):sr (lB g i (l c) (dK h)).1 (b++[c]) (f++[h]):=by
 rw[MM];refine⟨OG aa s.keys,by rw[cd,cd,s.len];rfl,λe=>?_⟩;rw[L1 aa aa s.keys,s.get e];by_cases n:c=e;subst n;rw[af aa,af ao,ahs,ad k];simp[<-s.len];rw[ad λI=>n<|MW I];by_cases d:e∈b;rw[af d,af (by simp[d]),ahs,af d,dX,dX,rh (by rw[s.len];exact vq d)]
 (simp_all;omega)
def sr.old{g:Y (V×V×Z)}{b:Y Z}{f:Y dE}(s:sr g b f){c:Z}(e:c∈b)(i:Z)(h:dE):sr (lB g i (l c) (dK h)).1 b (aR f (h2 c b) h):=by rw[MM];refine⟨OG aa s.keys,by rw[nC,s.len],λd=>?_⟩;rw[L1 aa aa s.keys,s.get d];by_cases n:c=d;subst n;rw[af aa,af e,dX,Vi (by rw[s.len];exact vq e)];rfl;rw[ad λI=>n<|MW I];by_cases k:d∈b;have o:h2 c b≠h2 d b:=λp=>n (by have m:=O5<|vq e;simp_all);simp_all;simp_all
theorem SB{of c:Y Z}{b:Z}(s:b<U c):dU of (am (b+1) c)=if y of (y c b 0) 0∈dU of (am b c) then dU of (am b c) else dU of (am b c)++[y of (y c b 0) 0]:=by unfold dU;rw[rc s,dc];exact AG
theorem Mb{e c:Y Z}{b:Z}(s:b<U c)(d:Z):jE e (am (b+1) c) d=jE e (am b c) d++(if y e (y c b 0) 0=d then[y c b 0] else[]):=by unfold jE;rw[rc (I:=0) s,O2];grind
theorem aov{c d:Y Z}{b:Z}(s:b∉dU c d):jE c d b=[]:=by grind[jE,List.filter_eq_nil_iff,Dk]
theorem aou{c d:Y Z}{b:Z}(s:b∈dU c d):jE c d b≠[]:=by simp_all[Dk,jE,m9,wR,kB]
def sq(c d:Y Z)(b:Z)(e:Y dE):Prop:=ed e=ab (jE c<|am b d) (dU c<|am b d)
theorem sq.at{c d:Y Z}{b:Z}{f:Y dE}(s:sq c d b f){e:Z}(g:e∈dU c (am b d)):h2 e (dU c (am b d))<U f/\(y f (h2 e (dU c (am b d))) av).l=jE c (am b d) e:=by
 let h:=by have:=ea U s;rwa [Dh,bm] at this
 let k:=vq g;refine⟨q,?_⟩;rw[<-y_ q,s,dX,db,cT k,O5];rfl
theorem sq.new{d c:Y Z}{b:Z}{e:Y dE}(s:sq d c b e)(g:b<U c)(f:y d (y c b 0) 0∉dU d (am b c))(h i:Z):sq d c (b+1) (e++[⟨h,i,[y c b 0]⟩]):=by unfold sq at s⊢;rw[SB g,ad f,dc,show ed _=ed e++[[y c b 0]] by simp[ed,dc],s];congr 1;refine hY λl k=>?_;rw[Mb g,ad λn=>f aq,gv];show[[y c b 0]]=[jE d _ _];rw[Mb g,af aa,aov f,na]
theorem sq.old{d c:Y Z}{b:Z}{f:Y dE}(s:sq d c b f)(g:b<U c){e:Z}(p:y d (y c b 0) 0=e)(k:e∈dU d (am b c)){h:dE}(r:h.l=jE d (am b c) e++[y c b 0]):sq d c (b+1) (aR f (h2 e (dU d (am b c))) h):=by subst p;unfold sq at s⊢;rw[SB g,af k,show ed _=aR (ed f) (h2 (y d (y c b 0) 0) (dU d (am b c))) h.l by simp[ed,hl],s,r];refine jn λo=>?_;rw[qo,bm];by_cases n:h2 (y d (y c b 0) 0) (dU d<|am b c)=o;subst n;let m:=vq k;rw[af aa,af m,db,cT m,O5,lm,Mb g,af aa];rw[ad n,db,db];rcases hN o _ with i|i;rw[cT i,lm,lm,Mb g,ad,gv];grind[List.Nodup.idxOf_getElem,Fv];simp_all
def aqp{b e:Y dE}{c:Z}(f:c<U b){d:Z}(g:U ((y b c av).l.map l)=d):Et (dw b++dw e) (dK (y b c av)) d:=by exact bp ⟨(y b c _).id,(y b c _).aS,1,3,(y b c _).l.map l,by rw[<-g];rfl,yi _<|H7 f⟩
def aqq{e b:Y dE}{c:Z}(f:c<U b){d:Z}(g:U ((y b c av).l.map l)=d):Et (dw e++dw b) (dK (y b c av)) d:=by exact bp ⟨(y b c _).id,(y b c _).aS,1,3,(y b c _).l.map l,by rw[<-g];rfl,zY _<|H7 f⟩
def aqm{b d:Y dE}{c:Z}(e:c<U b):(dw b++dw d)[c]?=W (u2 (y b c av)):=by grind[dw,List.getElem?_eq_getElem]
def aqr{b d:Y dE}{c:Z}(f:c<U b)(e:dE):aR (dw b++dw d) c (u2 e)=dw (aR b c e)++dw d:=by grind[List.set_append_left,dw,List.length_map,List.map_set]
def dM(s:eI)(b:Y Z)(c:Z):eI:=Oh s.of b s<|am c<|dU s.of b
theorem aoh(s:eI)(b:Y Z):dM s b (U (dU s.of b))=r5 s b:=by unfold dM;rw[iJ];rfl
theorem aoj{s:eI}{b:Y Z}{c:Z}(d:c<U (dU s.of b)):dM s b (c+1)=x5 (dM s b c) (y (dU s.of b) c 0) (jE s.of b (y (dU s.of b) c 0)):=by grind[dM,rc,Oh]
def aoi{d:Z}{s:eI}(e:k2 d s){b:Y Z}(h:∀J∈b,J<d)(g:dT b)(c:Z):Ap d s (dM s b c) b (am c (dU s.of b)):=by have:=Ul e h g (am c<|dU _ b) [] s (.nil e b) (λi f=>⟨pE f,kB⟩)<|(Fv).sublist<|ahA ..;trivial
structure aia(R:Z)(s:eI)(b8:Y Z)(cs:Z):Prop where
 ok:k2 R (dM s b8 cs)
 ajO:y (dU s.of b8) cs 0<(dM s b8 cs).mem.length
 hit:∀T∈jE s.of b8 (y (dU s.of b8) cs 0),T<R
 vI:(dM s b8 cs).mem.length<=R
def aog{e:Z}{s:eI}(f:k2 e s){b:Y Z}(c:∀J∈b,J<e)(k:dT b){d:Z}(i:d<U (dU s.of b)):aia e s b d:=by let B:=aoi f c k d;obtain⟨g,l,h⟩:=Dk.1<|dL i;refine⟨B.ok,jZ (by rw[<-h];exact f.lt g<|c g l) B.grow,λn m=>c n (m9.1 m).1,B.ok.count⟩
theorem aqD{s:eI}{c:Y Z}{b:Z}(d:b<U (dU s.of c)):h2 (y (dU s.of c) b 0) (dU s.of c)=b:=by grind[List.getElem?_eq_getElem,List.Nodup.idxOf_getElem,Fv]
theorem aoA{s:eI}{c:Y Z}{d:Y dE}{b:Z}(e:b<U (dU s.of c)):Db (dU s.of c) d (y (dU s.of c) b 0)=dK (y d b av):=by unfold Db;rw[af<|dL e,aqD e]
theorem sq.full{d b:Y Z}{e:Y dE}(s:sq d b (U b) e){c:Z}(f:c<U (dU d b)):c<U e/\(y e c av).l=jE d b (y (dU d b) c 0):=by
 unfold sq at s;rw[iJ] at s;let g:=by have:=ea U s;rwa [Dh,bm] at this
 refine⟨q,?_⟩;rw[<-y_ q,s,dX,db,dX,cT f];rfl
theorem av9{d b:Y Z}{c B:Z}(e:B<U b):qf d (am (B+1) b) c=aR (qf d (am B b) c) (y b B 0) c:=by grind[rc,qf]
def abn(pre c b:Y dE)(d:dE):g7 (dw (pre++c)++dw (b++[d])) (dw (pre++d::c)++dw b):=by unfold dw;grind[s0]
def amV{P:bn}{p:bJ}{m:Z}{n:b6}{k:Y ResultVar}{h:V->bV->Prop}{i:Exit}{J:aN}(e:bV)(w:∃f,g7 (e++f) J.d)(s:ic P p m n k h i {J with d:=e}):ic P p m n k h i J:=⟨s.he,λo u r l g b=>by let⟨f,v⟩:=w;refine s.run o u r l g ⟨?_,b.c,b.gR,b.size,b.defers⟩;let t:Holds p g (e++aZ o J.az++f) l:=b.cO.perm (by refine List.Perm.trans ?_<|Gr _ v;simp[eS,D2,vs]);exact t.drop<|Vs _ _⟩
def Nh(b:b6)(c h:Y Z)(d:Y (V×V×Z))(f:Z)(e:Y (V×V×Z))(g:Z):bV:=[kc b 6000 1 356 [.jj (b 6006).1 (b 6006).2],kc b 6001 1 320 [Ng b 6002],kc b 6003 1 50 [Ds b 5002 (U<|ab l c)],ac9 b 6006 d f,kc b 5002 1 3<|ab l c,kc b 7 1 3<|ab l h,ac9 b 20 e g]
def FD(b:b6)(f B t:Z)(e:Y Z)(c:Y dE)(d:bV):bV:=kc b 3 1 320 [Ng b 6002]::kc b 14 1 3 [l t]::kc b 6002 2 323 [b2 [Ds b 6004 f,Ds b 5001 B]]::kc b 6004 1 3 (ab l e)::kc b 5001 1 50 (ab dK c)::d
def ajz(c d e f g h:Z×Z):b6:=λb=>bif ef b 6000 then c else bif ef b 6001 then d else bif ef b 6002 then e else bif ef b 6003 then f else bif ef b 6004 then g else h
theorem al_(f:Y Z)(m:Y V)(t:Z)(h:Y Z)(r:∀o∈h,o<U f)(s:U h<=100000)(i k b c d e:Z×Z):g3 bL fT 286 [.bH e.1 e.2 0 (U (ab l h)),eo (c1 287) [] [.own i.1 i.2 0 0,.own k.1 k.2 0 0]] [(i.1,.j i.2 1 320 [.own b.1 b.2 0 0]),(k.1,.j k.2 1 3 [l t]),(b.1,.j b.2 2 323 [b2 [.bH c.1 c.2 0 (U f),.bH d.1 d.2 0 (U m)]]),(c.1,.j c.2 1 3 (ab l f)),(d.1,.j d.2 1 50 m),(e.1,.j e.2 1 3 (ab l h))] (λp M=>p=.bH e.1 e.2 0 (U<|ab l<|h.filter λo=>!h4 f t o)/\M=[(i.1,.j i.2 1 320 [.own b.1 b.2 0 0]),(k.1,.j k.2 1 3 [l t]),(b.1,.j b.2 2 323 [b2 [.bH c.1 c.2 0 (U f),.bH d.1 d.2 0<|U m]]),(c.1,.j c.2 1 3<|ab l f),(d.1,.j d.2 1 50 m),(e.1,.j e.2 1 3<|ab l<|h.filter λo=>!h4 f t o)]):=by rw[bm,bm];refine g3.frame (al7 f m t h aa r s<|ajz i k b c d e) [] ba ?_;rintro p M ⟨n,g,rfl,rfl⟩;refine⟨_,by rw[gv],?_,?_⟩;show V.bH _ _ 0 _=_;rw[g.eq _ q];rfl;show[((n _).1,cB.j _ 1 320 [V.own _ _ 0 0]),((n _).1,cB.j _ 1 3 _),((n _).1,cB.j _ 2 323 [V.agg [.bH _ _ 0 _,.bH _ _ 0 _]]),((n _).1,cB.j _ 1 3 _),((n _).1,cB.j _ 1 50 m),((n _).1,cB.j _ 1 3 _)]=_;rw[g.eq _ q,g.eq 6001 q,g.eq _ q,g.eq _ q,g.eq _ q,g.eq _ q];rfl
def Sn{f b:Y (Z×V)}(s:∀c∈b,cX c.1 f=W c.2)(d:Z)(e:V)(g:cX d b=W e):cX d f=W e:=by
 have:(d,e)∈b:=by induction b with|nil=>cases g|cons c i h=>grind
 grind
def ayS:ux bL 323 1 1 117 1:=⟨cb⟩
def ay6:cu bL 320 (.pointer 323) 1 8:=⟨ao,cb⟩
theorem awZ{s:eI}{Q:Z}{part:Y Z}(g:¬U part=U (y s.mem Q [])){u4:Y Z}(h:qf s.of part (U s.mem)=u4){b:Y dE}(c:ed b=s.mem){T vn:dE}(d:T.l=part)(e:vn.l=(y s.mem Q []).filter λJ=>!h4 u4 (U b) J):(x5 s Q part).of=u4/\ed (aR (b++[T]) Q vn)=(x5 s Q part).mem/\(x5 s Q part).et=s.et++[vJ s.et (ed<|aR (b++[T]) Q vn) (U b) Q]:=by
 let f:U b=U s.mem:=by rw[<-c,Dh]
 let hm:ed (aR (b++[T]) Q vn)=aR (s.mem++[part]) Q ((y s.mem Q []).filter λJ=>!aH (y u4 J 0=U s.mem)):=by unfold ed;rw[hl,dc,e,show ab _ b=s.mem from c];show aR (s.mem++[T.l]) Q _=_;rw[d];congr 1;refine Vb λJ _=>?_;congr 1;exact tc.2 q
 unfold x5;simp_all
def ato{r:Type}{b:Y r}{c d e f g h:r}(i:b[0]?=W c)(k:b[1]?=W d)(l:b[2]?=W e)(m:b[3]?=W f)(n:b[4]?=W g)(o:b[5]?=W h):∃p,b=c::d::e::f::g::h::p:=by
 match b,i,k,l,m,n,o with|s::t::u::v::w::x::p,i,k,l,m,n,o=>simp_all
def afF{o:Z}{s:eI}(hk:k2 o s)(cy:o<=100000){b8:Y Z}(aw:∀J∈b8,J<o)(aT:dT b8){f_:Y dE}(a_:ed f_=s.mem){R:Y (V×V×Z)}(aE:Z)(bA:nQ R s.et):iL bL fT 251 [b 6002,.al 1 (ab l b8),eo (c1 250) [] [b 6000,b 6001,b 6003]] (dw f_) [(6000,ah 356 (.eA 6006)),(6001,ah 320 (b 6002)),(6002,ah 323 (b2 [.a 6004 0 o,.a 5001 0 (U (ab dK f_))])),(6003,ah 50 (.a 5002 0 (U (ab l s.et)))),(6004,.j 1 3 (ab l s.of)),(5001,.j 1 50 (ab dK f_)),(6006,iA R aE),(5002,.j 1 3 (ab l s.et))] (λE:Y dE×Y (V×V×Z)×Z=>ed E.1=(r5 s b8).mem/\nQ E.2.1 (r5 s b8).et) (λ_=>cv []) (λE=>dw E.1) (λE=>[(6000,ah 356<|.eA 6006),(6001,ah 320<|b 6002),(6002,ah 323<|b2 [.a 6004 0 o,.a 5001 0<|U<|ab dK E.1]),(6003,ah 50<|.a 5002 0<|U<|(r5 s b8).et.map l),(6004,.j 1 3<|(r5 s b8).of.map l),(5001,.j 1 50<|ab dK E.1),(6006,iA E.2.1 E.2.2),(5002,.j 1 3<|(r5 s b8).et.map l)]):=by
 refine iL.of_wp (K:=hX) [2004,2024] gm br h7 ⟨func251,ba,aa⟩ aa aa aa λcI p a9 bs=>?_;have cq:kE bL hX p fT _ [2004,2024]:=⟨gm,br,a9,h7,bs⟩;have cz:U (ab l b8)=U b8:=bm ..;have cA:U b8<=o:=by have:=qj aT (Q:=bM o) λT ax=>hM.2<|aw T ax;rwa [ij] at this
 apply f<;>intro cr
 .have s:b8=[]:=O6.1 q;subst s;rw[show r5 s []=s from aa];exact ec (f_,R,aE) ⟨a_,bA⟩
 refine a1.eK 7 1 3 [7] ai ?_;refine dA ?_;refine c8 (Z×Y dE×Y (V×V×Z)×Z) (λh=>⟨[(2,eo (c1 250) [] [b 6000,b 6001,b 6003]),(3,b 3),(6,.eA 20),(7,.a 7 0<|U<|ab l<|dU s.of<|am h.1 b8),(21,.al 1<|ab l b8),(22,l<|U<|ab l b8),(23,l h.1)],[(6004,.j 1 3<|ab l s.of),(5001,.j 1 50<|ab dK f_),(5002,.j 1 3<|ab l s.et),(7,.j 1 3<|ab l<|dU s.of<|am h.1 b8),(3,ah 320<|b 6002),(6000,ah 356<|.eA 6006),(6001,ah 320<|b 6002),(6002,ah 323<|b2 [.a 6004 0 o,.a 5001 0<|U<|ab dK f_]),(6003,ah 50<|.a 5002 0<|U<|ab l s.et),(6006,iA R aE),(20,iA h.2.2.1 h.2.2.2)],dw h.2.1++dw f_⟩) (λh=>h.1<=U b8/\sr h.2.2.1 (dU s.of<|am h.1 b8) h.2.1/\sq s.of b8 h.1 h.2.1) (λh=>U b8-h.1) (0,[],[],0) (λ⟨D,m,v,ci⟩ ⟨ch,x,aB⟩=>?_) ⟨dJ _,sr.nil,aa⟩;dsimp only at ch x aB⊢;apply f<;>intro cs
 .have ak:D<U b8:=q;obtain⟨Q,X⟩:∃Q,y s.of (y b8 D 0) 0=Q:=⟨_,aa⟩;have ca:y b8 D 0<o:=aw _<|dL ak;have bx:U s.of=o:=hk.len;have bX:U (dU s.of (am (D+1) b8))<=o:=by refine c9 (qj Fv (Q:=bM<|U s.mem) λT ax=>?_) (by rw[ij];exact hk.count);let⟨aC,aW,aL⟩:=Dk.1 ax;rw[hM,<-aL];exact hk.lt aC<|aw aC<|pE aW
  have aP:=SB (of:=s.of) ak;rw[X] at aP;have cw:U (jE s.of (am D b8) Q)<=o:=by refine c9 (Vk ..) ?_;rw[nD];omega
  refine bB D (l<|y b8 D 0) ?_ (k:=eE ak);refine cE (y b8 D 0) ?_ (k:=ca);refine fl (l Q) ?_ (k:=aq);by_cases N:Q∈dU s.of (am D b8)
  .have au:dU s.of (am (D+1) b8)=dU s.of (am D b8):=by rw[aP,af N]
   let⟨aG,aH⟩:=aB.at N;have M:∀h,V.const h=.bo->qS v (l Q) h ae=dK (y m (h2 Q (dU s.of (am D b8))) av):=λh aX=>by rw[x.look Q aX];simp_all[Db,af]
   obtain⟨B,ar⟩:∃B,h2 Q (dU s.of (am D b8))=B:=⟨_,aa⟩;obtain⟨T,aJ⟩:∃T,y m B av=T:=⟨_,aa⟩;rw[ar,aJ] at aH;simp only[ar,aJ] at M;rw[ar] at aG;have b3:Et (dw m++dw f_) (dK T) (U (ab l T.l)):=by rw[<-aJ];exact aqp aG aa
   have cD:U (ab l T.l)=U (jE s.of (am D b8) Q):=by rw[bm,aH]
   have bR:(dw m++dw f_)[B]?=W (T.id,cB.j T.aS 1 3 (ab l T.l)):=by rw[aqm aG,aJ];rfl
   have b9:aR (dw m++dw f_) B (T.id,cB.j (T.aS+1) 1 3 (ab l T.l++[l (y b8 D 0)]))=dw (aR m B ⟨T.id,T.aS+1,jE s.of (am D b8) Q++[y b8 D 0]⟩)++dw f_:=by rw[<-aqr aG,u2,aH,dc];rfl
   have aA:V.bH T.id (T.aS+1) 0 (U (ab l T.l)+U [l (y b8 D 0)])=dK ⟨T.id,T.aS+1,jE s.of (am D b8) Q++[y b8 D 0]⟩:=by unfold dK;rw[aH,dc,cd];rfl
   rw[<-au];refine sW _ ?_ x.ok<|M _ aa;refine MP ?_ b3;apply f<;>intro bS
   .grind[cg,List.length_eq_zero_iff,jE,List.length_map,aou]
   refine sW _ ?_ x.ok<|M _ aa;refine cp ?_;refine aq4 B ?_ bR b9 aa kj;refine rV (lB v ci (l Q)<|dK ⟨T.id,T.aS+1,jE s.of (am D b8) Q++[y b8 D 0]⟩).1 (lB v ci (l Q)<|dK ⟨T.id,T.aS+1,jE s.of (am D b8) Q++[y b8 D 0]⟩).2 ?_ (mq:=x.ok) (hu:=aq);refine aY ?_;exact a4 (D+1,aR m B ⟨T.id,T.aS+1,jE s.of (am D b8) Q++[y b8 D 0]⟩,(lB v ci (l Q)<|dK ⟨T.id,T.aS+1,jE s.of (am D b8) Q++[y b8 D 0]⟩).1,(lB v ci (l Q)<|dK ⟨T.id,T.aS+1,jE s.of (am D b8) Q++[y b8 D 0]⟩).2) ⟨q,by rw[au,<-ar];exact x.old N ci _,by dsimp only;rw[<-ar];exact aB.old ak X N aa⟩ q
  have au:dU s.of (am (D+1) b8)=dU s.of (am D b8)++[Q]:=by rw[aP,ad N]
  have M:∀h,V.const h=.bo->qS v (l Q) h ae=.bo:=λh aX=>by rw[x.look Q aX];simp_all[Db,ad]
  have cx:U (dU s.of (am D b8))+1<=o:=by have:=bX;rw[au,cd] at this;exact this
  have bP:∀C:Z,g7 (dw (m++[⟨C,1,[y b8 D 0]⟩])++dw f_) (dw m++dw f_++[(C,cB.j 1 1 3 [l (y b8 D 0)])]):=λC=>by rw[Su,eS,eS];exact D2 _ vs
  have bb:=N;rw[<-X] at bb;refine sW _ ?_ x.ok<|M _ aa;apply f<;>intro bS
  .refine cp ?_;refine eB (ab l<|dU s.of<|am (D+1) b8) ?_ (aU:=aq) (bl:=bi);refine sW _ ?_ x.ok<|M _ aa;refine cp ?_;refine aq2 (λC=>dw (m++[⟨C,1,[y b8 D 0]⟩])++dw f_) (λC=>?_) bP ao;refine rV (lB v ci (l Q)<|dK ⟨C,1,[y b8 D 0]⟩).1 (lB v ci (l Q)<|dK ⟨C,1,[y b8 D 0]⟩).2 ?_ (mq:=x.ok);refine aY ?_;exact a4 (D+1,m++[⟨C,1,[y b8 D 0]⟩],(lB v ci (l Q)<|dK ⟨C,1,[y b8 D 0]⟩).1,(lB v ci (l Q)<|dK ⟨C,1,[y b8 D 0]⟩).2) ⟨q,by rw[au];exact x.new N ci _,aB.new ak bb C 1⟩ q
  omega
 obtain rfl:D=U b8:=q;rw[iJ] at x⊢;refine c8 (Z×Y dE×Y dE×Y (V×V×Z)×Z) (λh=>⟨[(2,eo (c1 250) [] [b 6000,b 6001,b 6003]),(3,b 3),(6,.eA 20),(52,.a 7 0<|U<|ab l<|dU s.of b8),(53,l<|U<|ab l<|dU s.of b8),(54,l h.1)],[(7,.j 1 3<|ab l<|dU s.of b8),(6004,.j 1 3<|(dM s b8 h.1).of.map l),(5001,.j 1 50<|ab dK h.2.2.1),(5002,.j 1 3<|(dM s b8 h.1).et.map l),(3,ah 320<|b 6002),(6000,ah 356<|.eA 6006),(6001,ah 320<|b 6002),(6002,ah 323<|b2 [.a 6004 0 o,.a 5001 0<|U<|ab dK h.2.2.1]),(6003,ah 50<|.a 5002 0<|U<|(dM s b8 h.1).et.map l),(20,iA v ci),(6006,iA h.2.2.2.1 h.2.2.2.2)],dw h.2.1++dw h.2.2.1⟩) (λh=>h.1<=U (dU s.of b8)/\ed h.2.2.1=(dM s b8 h.1).mem/\nQ h.2.2.2.1 (dM s b8 h.1).et/\∃pre,h.2.1=pre++ay h.1 m) (λh=>U (dU s.of b8)-h.1) (0,m,f_,R,aE) (λ⟨c,cl,e,F,G⟩ ⟨ce,O,az,pre,bE⟩=>?_) ⟨dJ _,a_,bA,[],aa⟩;dsimp only at ce O az bE⊢;subst bE;apply f<;>intro bc
 .try simp only[bm] at bc
  have ap:c<U (dU s.of b8):=q;have aD:=aog hk aw aT ap;have aI:=aoj ap;let⟨a7,aF⟩:=aB.full ap;have bk:Db (dU s.of b8) m (y (dU s.of b8) c 0)=dK (y m c av):=aoA ap;have bg:ay c m=y m c av::ay (c+1) m:=by rw[l3 a7,dX,cT a7];rfl
  have cm:U (dU s.of b8)<=o:=by refine c9 (qj Fv (Q:=bM<|U s.mem) λT ax=>?_) (by rw[ij];exact hk.count);let⟨aC,aW,aL⟩:=Dk.1 ax;rw[hM,<-aL];exact hk.lt aC<|aw aC aW
  have P:=aD.ok;have bJ:=aD.ajO;have a3:=aD.hit;have a5:=aD.vI;have bh:(ab l (dU s.of b8))[c]?=W (l (y (dU s.of b8) c 0)):=eE ap;obtain⟨u,bV⟩:∃u,dM s b8 c=u:=⟨_,aa⟩;obtain⟨Q,X⟩:∃Q,y (dU s.of b8) c 0=Q:=⟨_,aa⟩;obtain⟨T,cc⟩:∃T,y m c av=T:=⟨_,aa⟩;simp only[X,bV,cc] at aF bk bg aI bh P bJ a3 a5 O az⊢;rw[bg];have co:U e=U u.mem:=by rw[<-O,Dh]
  have M:∀h,V.const h=.bo->qS v (l Q) h ae=dK T:=λh aX=>by rw[x.look Q aX,bk]
  obtain⟨i,aA⟩:∃i,y e Q av=i:=⟨_,aa⟩;have a0:i.l=y u.mem Q []:=by rw[<-aA,<-y_ q,O]
  have aQ:(T.id,cB.j T.aS 1 3 (ab l T.l))∈dw (pre++T::ay (c+1) m)++dw e:=yi _<|dI.2 ⟨T,ao,aa⟩;have bz:Et (dw (pre++T::ay (c+1) m)++dw e) (dK T) (U (ab l T.l)):=bp ⟨T.id,T.aS,1,3,ab l T.l,aa,aQ⟩;have b6:Et (dw (pre++T::ay (c+1) m)++dw e) (dK i) (U (ab l i.l)):=by rw[<-aA];exact aqq q aa
  have bn:(ab dK e)[Q]?=W (dK i):=by rw[<-aA];exact Lt q
  have bC:∀J∈T.l,J<o:=λJ L=>a3 J aq;have bx:U u.of=o:=P.len;have cf:∀J∈i.l,J<o:=λJ L=>by rw[a0] at L;exact((P.mem Q J).1 L).1
  have cG:U i.l<=o:=by have:=qj (z:=i.l) (Q:=bM o) (by rw[a0];exact P.jw Q) λJ L=>hM.2<|cf J L;rwa [ij] at this
  have cF:U T.l<=o:=by have:=qj (z:=T.l) (Q:=bM o) (by rw[aF];exact aT.filter _) λJ L=>hM.2<|bC J L;rwa [ij] at this
  refine cE c ?_ (k:=bi);refine fl (l Q) ?_ (k:=bh);refine sW _ ?_ x.ok<|M _ aa;refine MP ?_ bz;refine cE Q ?_ (k:=bi);refine fl (dK i) ?_ (k:=bn);refine MP ?_ b6;apply f<;>intro bd
  .try simp only[bm] at bd
   have b7:dM s b8 (c+1)=u:=by rw[aI,x5,af kj]
   rw[<-b7];refine aY ?_;exact a4 (c+1,pre++T::ay (c+1) m,e,F,G) ⟨q,aK,aK,pre++[T],ao⟩ q
  try simp only[bm] at bd
  have b1:¬U (jE s.of b8 Q)=U (y u.mem Q []):=by rw[<-a0,<-aF];omega
  obtain⟨t,aN⟩:∃t,U (ab dK e)=t:=⟨_,aa⟩;have bU:t=U e:=by rw[<-aN,bm]
  rw[aN];refine MP ?_ bz;refine e9 (U T.l) (λB=>⟨[(2,eo (c1 250) [] [b 6000,b 6001,b 6003]),(3,b 3),(6,.eA 20),(12,l Q),(13,dK T),(14,b 14),(52,.a 7 0<|U<|ab l<|dU s.of b8),(53,l<|U<|ab l<|dU s.of b8),(54,l c),(77,dK T),(78,l<|U<|ab l T.l),(79,l B)],[(7,.j 1 3<|ab l<|dU s.of b8),(6004,.j 1 3<|ab l<|qf u.of (am B T.l) t),(5001,.j 1 50<|ab dK e),(5002,.j 1 3<|ab l u.et),(14,ah 3<|l t),(3,ah 320<|b 6002),(6000,ah 356<|.eA 6006),(6001,ah 320<|b 6002),(6002,ah 323<|b2 [.a 6004 0 o,.a 5001 0 t]),(6003,ah 50<|.a 5002 0<|U<|ab l u.et),(20,iA v ci),(6006,iA F G)],dw (pre++T::ay (c+1) m)++dw e⟩) λB hk=>?_;apply f<;>intro be
  .try simp only[bm] at be
   have bq:B<U T.l:=q;refine arb B ?_ aQ (k:=bi);refine arc (l<|y T.l B 0) ?_ aQ (show(ab l T.l)[0+B]?=W (l (y T.l B 0)) by simp_all);refine ei ?_;refine bw (λ_=>cE (y T.l B 0) aa (k:=bC _<|dL bq)) ?_;refine uk (ab l<|qf u.of (am (B+1) T.l) t) (l<|y (qf u.of (am B T.l) t) (y T.l B 0) 0) (l t) ?_ (k:=eE (by grind[N6,dL])) (aU:=by rw[av9 bq,hl]);refine fz ?_;refine aY ?_;exact a4 (B+1)
  try simp only[bm] at be
  obtain rfl:B=U T.l:=q;rw[iJ];refine ei ?_;refine bw (λ_=>kr aa (hlen:=λI bN=>by rw[eu.1 bN];rfl)) ?_;refine jY 98 (ab dK<|e++[T]) ?_ (gi:=.al aa aa aa aa λI bN=>by rw[eu.1 bN];rfl) (hlen:=bQ aN) (aU:=ao) (bl:=bi);refine fo ?_;refine jz [(98,5001)] ?_;obtain⟨u4,bt⟩:∃u4,qf u.of T.l t=u4:=⟨_,aa⟩;rw[bt];obtain⟨vn,bD⟩:∃vn:dE,vn=⟨i.id,i.aS,i.l.filter λJ=>!h4 u4 t J⟩:=⟨_,aa⟩;obtain⟨w,S⟩:∃w,aR (e++[T]) Q vn=w:=⟨_,aa⟩;have bu:U u4=o:=by rw[<-bt,N6,bx]
  let⟨bG,bI,a2⟩:=awZ (s:=u) (Q:=Q) (part:=jE s.of b8 Q) b1 (u4:=u4) aq O (T:=T) (vn:=vn) aF aq;rw[<-aI,S] at bI a2;rw[<-aI] at bG;rw[<-bU] at a2;have cn:U w=U e+1:=by rw[<-S,nC,cd];rfl
  have cC:U u.et<=o:=by have:=qj P.wn (Q:=bM o) λJ L=>hM.2<|jZ (P.sc J L) a5;rwa [ij] at this
  have bf:=aom w u4 u.et F G t Q q q az q;rw[bu,<-a2] at bf;subst bG;have bW:ed w=(dM s b8 (c+1)).mem:=bI;have aM:Q<U (e++[T]):=by rw[cd];omega
  have cu:(ab dK (e++[T]))[Q]?=W (dK i):=by rw[dc,rh q];exact bn
  have bO:y (e++[T]) Q av=i:=by rw[dX,rh q,<-dX];exact aA
  have bK:U (ab dK (e++[T]))=U (ab dK w):=by rw[<-S,bm,bm,nC]
  refine a1.X8 (dw (pre++ay (c+1) m)++dw (e++[T])) (λcH b4=>(abn pre (ay (c+1) m) e T).subset b4) ⟨[],(by rw[gv];exact abn pre (ay (c+1) m) e T)⟩ ?_;refine ke ⟨[(2,eo (c1 250) [] [b 6000,b 6001,b 6003]),(3,b 3),(6,.eA 20),(12,l Q),(14,b 14),(52,.a 7 0<|U<|ab l<|dU s.of b8),(53,l<|U<|ab l<|dU s.of b8),(54,l c)],[(3,ah 320<|b 6002),(14,ah 3<|l t),(6002,ah 323<|b2 [.a 6004 0 o,.a 5001 0<|U<|ab dK<|e++[T]]),(6004,.j 1 3<|(dM s b8<|c+1).of.map l),(5001,.j 1 50<|ab dK<|e++[T]),(6000,ah 356<|.eA 6006),(6001,ah 320<|b 6002),(6003,ah 50<|.a 5002 0<|U<|ab l u.et),(6006,iA F G),(5002,.j 1 3<|ab l u.et),(7,.j 1 3<|ab l<|dU s.of b8),(20,iA v ci)],dw (pre++ay (c+1) m)++dw (e++[T])⟩ ?_;refine dA ?_;refine a1.Rj ⟨[(2,eo (c1 250) [] [b 6000,b 6001,b 6003]),(3,b 3),(6,.eA 20),(12,l Q),(14,b 14),(52,.a 7 0<|U<|ab l<|dU s.of b8),(53,l<|U<|ab l<|dU s.of b8),(54,l c)],[(3,ah 320<|b 6002),(14,ah 3<|l t),(6002,ah 323<|b2 [.a 6004 0 o,.a 5001 0<|U<|ab dK<|e++[T]]),(6004,.j 1 3<|(dM s b8<|c+1).of.map l),(5001,.j 1 50<|ab dK w),(6000,ah 356<|.eA 6006),(6001,ah 320<|b 6002),(6003,ah 50<|.a 5002 0<|U<|ab l u.et),(6006,iA F G),(5002,.j 1 3<|ab l u.et),(7,.j 1 3<|ab l<|dU s.of b8),(20,iA v ci)],dw (pre++ay (c+1) m)++dw w⟩ (λr=>?_) ?_
  .have bY:dw (e++[T])=dw (am Q (e++[T]))++u2 i::dw (ay (Q+1) (e++[T])):=by
    conv=>lhs;rw[UC aM]
    rw[Su,<-bO,dX,cT aM];rfl
   have bZ:dw w=dw (am Q (e++[T]))++u2 vn::dw (ay (Q+1) (e++[T])):=by rw[<-S,Uc aM,Su];rfl
   refine e3.perm (FD r o (U<|ab dK<|e++[T]) t (dM s b8<|c+1).of (e++[T])<|(i.id,cB.j i.aS 1 3<|ab l<|i.l)::(dw (pre++ay (c+1) m)++(dw (am Q<|e++[T])++dw (ay (Q+1)<|e++[T]))++Nh r u.et (dU s.of b8) F G v ci)) ?_ ?_;show g7 _ (dw (pre++ay (c+1) m)++dw (e++[T])++FD r o (U (ab dK (e++[T]))) t (dM s b8 (c+1)).of (e++[T]) (Nh r u.et (dU s.of b8) F G v ci));rw[bY];refine s0 λz=>?_
   (simp[Gs,JW,O0,u2,FD];omega)
   have bT:=al_ (dM s b8<|c+1).of (ab dK<|e++[T]) t i.l aq q (r 3) (r 14) (r 6002) (r 6004) (r 5001) (i.id,i.aS);rw[bu] at bT;refine Lm [([0],[]),([2],[]),([2],[]),([2],[]),([],[]),([0],[]),([2],[]),([2],[]),([2],[]),([],[]),([4],[]),([4],[]),([],[]),([0,1,2,3,4],[5]),([4],[]),([],[4])] gm bs ?_
   iterate 2
    refine ds.fx (λ_ s=>xR 0 ay6 s) ?_;refine ds.fx (λ_ s=>TD (B:=2) (hk:=s)) ?_;refine ds.fx (λ_ s=>TA (B:=2) ayS (hk:=s)) ?_;refine ds.fx (λ_ s=>xR 2 uj s) ?_;refine ds.jx (λ_=>wi) ?_
   refine ds.fx (λ_ s=>xP 4 uj zL s (D:=Q) (k:=bi)) ?_;refine ds.fx (λ_ s=>xR 4 mA s (el:=dK i) (k:=aq)) ?_;refine ds.jx (λ_=>adh ba (KI ba)<|KI ba) ?_;refine ds.mn (A:=.bH i.id i.aS 0<|U<|ab l<|i.l.filter λJ=>!h4 (dM s b8<|c+1).of t J) [(5,(i.id,.j i.aS 1 3<|ab l<|i.l.filter λJ=>!h4 (dM s b8<|c+1).of t J))] aa ao (λd _ H=>?_) ?_;obtain⟨rest,rfl⟩:=ato (b0 (H 0 ao) aa) (b0 (H 1 ao) aa) (b0 (H 2 ao) aa) (b0 (H 3 ao) aa) (b0 (H 4 ao) aa)<|b0 (H 5 ao) aa;exact QN (rest:=rest) (pass:=[kc r 3 1 320 [Ng r 6002],kc r 14 1 3 [l t],kc r 6002 2 323 [b2 [Ds r 6004 o,Ds r 5001<|U<|ab dK<|e++[T]]],kc r 6004 1 3<|(dM s b8<|c+1).of.map l,kc r 5001 1 50<|ab dK<|e++[T],(i.id,cB.j i.aS 1 3<|ab l<|i.l)]) (Ns:=[kc r 3 1 320 [Ng r 6002],kc r 14 1 3 [l t],kc r 6002 2 323 [b2 [Ds r 6004 o,Ds r 5001<|U<|ab dK<|e++[T]]],kc r 6004 1 3<|(dM s b8<|c+1).of.map l,kc r 5001 1 50<|ab dK<|e++[T],(i.id,cB.j i.aS 1 3<|ab l<|i.l.filter λJ=>!h4 (dM s b8<|c+1).of t J)]) aa ⟨cb⟩ (first:=[]) aa (KI aa) (gF _) (by rw[a9];trivial)<|gF _;refine ds.fx (λ_ H=>xP 4 uj zL H (D:=Q) (k:=bi)) ?_;refine ds.up 4 ((r 5001).1,.j (r 5001).2 1 50<|ab dK w) (A:=.undef) (λd H=>?_) ?_;refine eH.jN (Hp 4 mA H (D:=0+Q) (n:=0) (hE:=ab dK<|e++[T]) (el:=dK i) (k:=aq)) aa ?_;show aR d 4 (kc r 5001 1 50 (aR (ab dK (e++[T])) (0+Q) (.bH i.id i.aS 0 (U (ab l (i.l.filter λJ=>!h4 (dM s b8<|c+1).of t J))))))=_;rw[<-S,hl,bD,mC];rfl;refine ds.nil ⟨aa,λcj ck b_=>Sn ?_ cj ck b_,?_⟩
   .iterate 8 refine Vf.2 ⟨ba,?_⟩
    nofun
   show g7 (FD r o (U (ab dK (e++[T]))) t (dM s b8 (c+1)).of w ((i.id,cB.j i.aS 1 3 (ab l (i.l.filter λJ=>!h4 (dM s b8<|c+1).of t J)))::(dw (pre++ay (c+1) m)++(dw (am Q<|e++[T])++dw (ay (Q+1)<|e++[T]))++Nh r u.et (dU s.of b8) F G v ci))) (dw (pre++ay (c+1) m)++dw w++FD r o (U (ab dK (e++[T]))) t (dM s b8 (c+1)).of w (Nh r u.et (dU s.of b8) F G v ci));rw[bZ,show u2 vn=(i.id,cB.j i.aS 1 3 (ab l (i.l.filter λJ=>!h4 (dM s b8<|c+1).of t J))) by rw[bD];rfl];grind[s0,FD]
  rw[bK];refine gG [(6000,6000),(6001,6001),(6002,6002),(6003,6003),(6004,6004),(6005,5001),(6006,6006),(5002,5002)] (λ_=>dw (pre++ay (c+1) m)++dw w) (dw<|pre++ay (c+1) m) (λE b5=>?_) (g:=bf) (kN:=vs) (kM:=λ_ _=>vs);refine aY ?_;exact a4 (c+1,pre++ay (c+1) m,w,E.1,E.2) ⟨q,bW,b5,pre,aa⟩ q
 try simp only[bm] at bc
 obtain rfl:c=U (dU s.of b8):=q;rw[aoh] at O az⊢;exact amV (dw e) ⟨_,vs⟩<|ec (e,F,G) ⟨O,az⟩
def Hr(b:dE):V:=.al 1<|ab l b.l
def CZ(b:dE):V:=if b.l=[] then .bo else .al 1 (ab l b.l)
def Yl:Es fU CZ q0:=λb=>by unfold q0 CZ fU;grind
def a_.anL{p:bJ}{r:Y (Z×V)}{l:Act}{t:World}{k:bf}{g h i:Z}{m:aw}{b:Y dE}{c PD:bV}(s:a_ p ⟨r,cP b++(g,.j h i m (ab fU b))::c⟩ l t k)(f:cY (vx g h i (ab Hr b)) c PD):∃u,a_ p ⟨r,PD⟩ l t u:=by
 let⟨v,o⟩:=a_.nest Yl b [] [] c k s;let w:=by refine o.rD (S_:=(g,.j h i m<|ab Hr b)::c) (bf.le.refl v) o.cO oj.gU (oj.one (au:=1)) (λC z f=>⟨z,f,.refl _⟩) ?_;refine cY.j _ _ _ _ _ _ ao (λy A B d e=>?_)<|cY.refl _;rw[na,db] at d;rw[db] at e;cases x:b[y]? with|none=>simp_all|some D=>rw[x] at d e;cases d;cases e;unfold CZ Hr;split;rename_i n;rw[n];exact .base _ _ .nil;exact .refl _
 exact a_.Zd w f
def alH{b:bS}{d:Z}{c:b7}(s:ci b d=W c):il b d c=b:=by grind[K9]
theorem awd{h m o i:Z}{f g:Y V}{e:Z}(p:i=U g)(s:f[e]?=W (.bH h m 0 i))(d:Z)(k l:V)(c:f[d]?=W k)(b:(aR f e (.al o g))[d]?=W l):fS (vx h m o g) k l:=by subst p;rw[qo] at b;by_cases n:e=d;subst n;rw[af aa] at b;split at b;cases b;rw[s] at c;cases c;exact .base _ _ .a;trivial;rw[ad n] at b;rw[c] at b;cases b;exact .refl _
def G3(I:fu)(n:Z):Y (Y Z):=(bM<|U I.b9).map λb=>(bM<|U I.b9).filter λc=>aH<|k8 I c n=b
def tu(I:fu)(n:Z):V:=.al 1<|ab ca<|G3 I n
def kU(I:fu)(n:Z):Y V:=(bM<|U I.fst).map λb=>if b<n then tu I b else .bo
def l0(I:fu):Z->V->Y V|0,_=>kU I 0|n+1,M=>aR (kU I n) n M
def ac1{I:fu}{n b:Z}(c:b<U I.fst):(kU I n)[b]?=W (if b<n then tu I b else .bo):=by grind[kU,List.getElem?_range]
def asr{I:fu}{n:Z}(c:n<U I.fst):aR (kU I n) n (tu I n)=kU I (n+1):=by refine jn λd=>?_;rw[qo];by_cases b:n=d;subst b;rw[af aa,ac1 c,af<|yk _,af (by(simp[kU,bm,ij];omega))];grind[List.getElem?_eq_none,kU,List.length_map,List.length_range]
def asq(I:fu):kU I (U I.fst)=ab (tu I) (bM (U I.fst)):=by(simp[kU,hY,af,hM];omega)
def Ko(I:fu)(n:Z)(M:V)(d:bV):Prop:=n=0/\d=[]\/∃c id e b,n=c+1/\c<U I.fst/\M=.bH id e 0 (U I.b9)/\d=(id,.j e 1 50<|ab fU b)::cP b/\ed b=G3 I c
def a_.Zc{I:fu}{B:Z}{M:V}(D:Ko I B M J.d)(f:Z){h:Z}{g:aw}(w:ci J.az f=W (.j h g (l0 I B M))){b:b6}{k:Act}{s:World}{u:bf}(l:a_ p (J.aB b) k s u):∃o,a_ p ((⟨J.c,il J.az f (.j h g (kU I B)),[]⟩:aN).aB b) k s o:=by
 rcases D with⟨rfl,t⟩|⟨e,id,i,r,rfl,x,rfl,C,v⟩;rw[show b7.j h g (kU I 0)=b7.j h g (l0 I 0 M) from aa,alH w];have:J=⟨J.c,J.az,[]⟩:=by cases J;subst t;rfl
 grind;obtain⟨m,n,z,t⟩:=K9 w;have F:(l0 I (e+1) (.bH id i 0 (U I.b9)))[e]?=W (.bH id i 0 (U I.b9)):=by show(aR (kU I e) e _)[e]?=_;rw[Vi];unfold kU;rw[bm,ij];exact x
 have L:=by have:=ea U v;rw[Dh] at this;unfold G3 at this;rwa [bm,ij] at this
 have E:V.al 1 (ab Hr r)=tu I e:=by unfold tu;rw[<-v,ed,i_];rfl
 have y:aZ b J.az=aZ b m++((b f).1,.j (b f).2 h g (l0 I (e+1) (.bH id i 0 (U I.b9))))::aZ b n:=by rw[z];simp[aZ,dc];rfl
 have A:a_ p ⟨da b J.c,cP r++(id,.j i 1 50 (ab fU r))::(aZ b m++((b f).1,.j (b f).2 h g (l0 I (e+1) (.bH id i 0 (U I.b9))))::aZ b n)⟩ k s u:=by refine⟨l.cO.perm ?_,l.c,l.gR,l.size,l.defers⟩;show g7 _ (J.d++aZ b _);rw[y,C];refine s0 λk=>?_;simp[Gs,JW];omega
 obtain⟨o,K⟩:=a_.anL (PD:=aZ b m++((b f).1,.j _ h g _)::aZ b n) A (by refine cY.rA ?_<|cY.refl _;exact cY.j _ _ _ _ _ _ ao (awd bi F)<|cY.refl _);refine⟨o,?_⟩;have G:aR (l0 I (e+1) (.bH id i 0 (U I.b9))) e (.al 1 (ab Hr r))=kU I (e+1):=by show aR (aR (kU I e) e _) e _=_;rw[B4,E,asr x]
 have H:aZ b (il J.az f (.j h g (kU I (e+1))))=aZ b m++((b f).1,.j (b f).2 h g (kU I (e+1)))::aZ b n:=by rw[t];simp[aZ,dc];rfl
 show a_ p ⟨da b _,[]++aZ b _⟩ k s o;simp_all
def a1.LU{I:fu}{B:Z}{M:V}{e:bV}(o:Ko I B M e)(b:Z){g:Z}{f:aw}(s:a1 P p m n ⟨J.c,il J.az b (.j g f (kU I B)),[]⟩ ak)(v:ci J.az b=W (.j g f (l0 I B M)):=by rfl)(l:J.d=e:=by rfl):a1 P p m n J ak:=⟨λx i r k w y t=>by subst l;let⟨h,u⟩:=a_.Zc o b v t;exact s.run x i r k w h u⟩
def amX{l:b6}{i:Y ResultVar}{f:V->bV->Prop}{h:Exit}{I:fu}{B:Z}{M:V}{e:bV}(t:Ko I B M e)(b:Z){k:Z}{g:aw}(s:ic P p m l i f h ⟨J.c,il J.az b (.j k g (kU I B)),[]⟩)(x:ci J.az b=W (.j k g (l0 I B M)):=by rfl)(r:J.d=e:=by rfl):ic P p m l i f h J:=⟨s.he,λz w o y A u=>by subst r;let⟨n,v⟩:=a_.Zc t b x u;exact s.run z w o y n v⟩
def a1.aj7{c:Type}{G:c->Prop}{g1:c->aN}(d:∀ak:Exit->aN->Prop,(∀b,G b->ak fY (g1 b))->a1 P p m n J ak)(e:∀b,G b->ak fY (g1 b)):a1 P p m n J ak:=d ak e
def a1.x2(b:Z)(s:∀l,a1 P p m n {J with d:=J.d++[(l,.jl b)]} ak):a1 P p m n J ak:=⟨λf g i h o e k=>(s e.n).run f g i h o _ (by have:=k.x2 b;refine⟨this.cO.perm ?_,this.c,this.gR,this.size,this.defers⟩;show g7 (J.d++[(e.n,cB.jl b)]++aZ f _) (J.d++aZ f _++[(e.n,cB.jl b)]);grind[List.append_assoc,List.Perm.append_left,List.perm_append_comm])⟩
section
attribute [local irreducible] dS
def tL(b:Y Z):V:=c7 b
def Yq(b:Z->Z):(mQ b).ints=(bM 32).map λB=>((b B:Z):L):=by rfl
theorem aaz:Ci fJ tL:=λf g d e=>by
 show aH ((c7 f).ints=(c7 g).ints)=aH _;refine tc.2 ⟨λs=>?_,λs=>by rw[s]⟩;unfold c7 at s;rw[Yq,Yq] at s;refine ayO (R:=32) d.1 e.1 (λc b=>by have:=d.2 c b;omega) (λc b=>by have:=e.2 c b;omega) λB i=>?_;let h:((bM 32).map λB=>(dS f B:L))[B]?=((bM 32).map λB=>(dS g B:L))[B]?:=by rw[s]
 grind
def R5{hR:Y Z}:sx .u64 32 (tL hR):=⟨ab _<|bM 32,ba,bp ⟨32,aa⟩⟩
def aaA{c:Z->V}{b:Y (Y Z)}:v3 .u64 32 (e6 tL c b):=aaj λd _=>R5 (hR:=d)
def af9:vv bL 254 .u64 32:=⟨151,32,256,8,8,⟨ao,cb⟩,⟨ao,cb⟩,⟨cb⟩⟩
def aa7{bb:Type} [hO bb]{G:bb->Prop}{d:bb->V}{u:Z->Z}{e:Value}(f:Ci G d){T:bb}{b:Y bb}(g:G T)(s:∀k∈b,G k)(h:V.const e=l 0):H4 (e6 d (λi=>l<|u i) b) (d T) e ag=cv [l (mr u b T),aV (v9 b T)]:=by rw[apl f g s];unfold mr;by_cases c:T∈b;rw[af c,af c];rfl;rw[ad c,ad c,h];rfl
abbrev x3(b:bg)(J:bZ)(c n:Z):Y ik:=k5 (e_ b J) [ai] ai c n
abbrev dN(b:bg)(J:bZ)(c n:Z):Y (Y Z):=h_<|x3 b J c n
def axo(c:bg)(J:bZ){e:ik}:∀b∈e_ c J e,b≠ai:=λb d=>by obtain⟨f,_,rfl⟩:=dI.1 d;exact nofun
def F3(b:bg)(J:bZ)(d n:Z):mK (x3 b J d n):=mK.iZ _ (by simp[DK,DJ]) λe c=>axo b J e<|pE c
def N5{u:bg}{J:bZ}(b n:Z):U (x3 u J b n)=U (dN u J b n)+1:=by have:=ea U<|F3 u J b n;simp_all
def Mn(u:bg)(J:bZ)(b:Z){n:Z}(f:n<=256):U (dN u J b n)<=U (dN u J b 0)+256:=by
 let d:=N5 (u:=u) (J:=J) b n;let c:=N5 (u:=u) (J:=J) b 0;let e:U (x3 u J b n)<=U (cz (e_ u J) [ai] b)+n:=by refine c9 (Lj _ _) ?_;rw[nD];omega
 rw[show x3 u J b 0=cz _ _ b from w7 b] at c;omega
def tQ(b:bg)(c:Y Z)(n:Z):Y Z:=p5 b.aJ c<|y (dm b) n 0
def afY{b:bg}{J:bZ}{e n:Z}{c:Y Z}(f:ob b J (hg (e_ b J) [ai] ai e)=c)(d:n<U (dm b)):y (e_ b J (hg (e_ b J) [ai] ai e)) n ai=W (tQ b c n):=by rw[dX,afV d];rw[Hc b J _<|E2<|dL d,f];rfl
theorem ajX{c:bg}{b:Y Z}(d:fJ b)(e:∀f∈b,f<U c.aJ)(n:Z):EC b (DU c (y (dm c) n 0))=tQ c b n:=RF (Mg d.1) (Mg d.1) λg=>by rw[abE];exact(arS e _ g).symm
def arM{u:bg}{b:Y Z}(c:fJ b)(n:Z):fJ (tQ u b n):=S8 c
def aqE{b:bg}{J:bZ}{c n:Z}{d:Y Z}(h:c<U (cz (e_ b J) [ai] c))(e:ob b J (hg (e_ b J) [ai] ai c)=d)(g:n<U (dm b))(i:tQ b d n∉dN b J c n):dN b J c (n+1)=dN b J c n++[tQ b d n]/\U (dN b J c n)+1=nt (e_ b J) [ai] ai c n:=by
 have f:=afY e g;have k:y (e_ b J (hg (e_ b J) [ai] ai c)) n ai∉k5 (e_ b J) [ai] ai c n:=by rw[f];exactλs=>i<|((F3 b J c n).mem _).1 s
 let⟨l,m⟩:=Nb ao h aK k;simp_all[N5,dN,x3,h_,List.filterMap_append]
def aqF{b:bg}{J:bZ}{c n:Z}{d:Y Z}(l:c<U (cz (e_ b J) [ai] c))(i:ob b J (hg (e_ b J) [ai] ai c)=d)(k:n<U (dm b))(g:tQ b d n∈dN b J c n):dN b J c (n+1)=dN b J c n/\mr lb (dN b J c n) (tQ b d n)=nt (e_ b J) [ai] ai c n:=by
 let f:=afY i k;let m:y (e_ b J<|hg (e_ b J) [ai] ai c) n ai∈k5 (e_ b J) [ai] ai c n:=by rw[f];exact((F3 b J c n).mem _).2 g
 let⟨o,e⟩:=Nc l aK m;refine⟨aK,?_⟩;rw[f] at e;rw[Fc g,<-e];let h:=F3 b J c n;show lb _=gX (x3 b J c n) _;rw[h,ZW];rfl
def lk(b:bg):Y (Y Z):=ab (DU b)<|dm b
def agL{b:bg}{n:Z}(c:n<U (dm b)):y (lk b) n []=DU b (y (dm b) n 0):=by grind[lk,List.getElem?_eq_getElem]
def anz(u:bg)(J:bZ)(c:Z)(k:c<U (cz (e_ u J) [ai] c))(d:Y Z)(t:ob u J (hg (e_ u J) [ai] ai c)=d)(x:fJ d)(H:∀F∈d,F<U u.aJ)(C:∀n,∀G∈dN u J c n,fJ G)(M:U (dN u J c 0)<=10000)(ac h:Y V)(r:Y (Y Z))(m:Y X):dF 201 [b 6000,b 6001,b 6002,b 6003,b 6004] [(6000,ah 254 (c7 d)),(6001,ah 257 (b 6005)),(6002,ah 249 (b 6006)),(6003,ah 316 (.eA 6009)),(6005,ah 260 (g_ (ls u) (.al 1 (ab l (dm u))) (.a 6007 0 (U ac)) (.a 6008 0 (U h)))),(6006,ah 252 (nV r m (lk u))),(6007,.j 1 4 ac),(6008,.j 1 50 h),(6004,ah 250 (.a 5001 0 (U (ab c7 (dN u J c 0))))),(6009,iA (e6 tL (λe=>l<|lb e) (dN u J c 0)) (U (dN u J c 0))),(5001,.j 32 254 (ab c7 (dN u J c 0)))] (.al 1 (ab l (hI (nt (e_ u J) [ai] ai c) (U<|dm u) (U<|dm u)))) [(6000,ah 254 (c7 d)),(6001,ah 257 (b 6005)),(6002,ah 249 (b 6006)),(6003,ah 316 (.eA 6009)),(6005,ah 260 (g_ (ls u) (.al 1<|ab l<|dm u) (.a 6007 0<|U ac) (.a 6008 0<|U h))),(6006,ah 252 (nV r m (lk u))),(6007,.j 1 4 ac),(6008,.j 1 50 h),(6004,ah 250 (.a 5001 0 (U<|ab c7<|dN u J c<|U<|dm u))),(6009,iA (e6 tL (λe=>l<|lb e) (dN u J c<|U<|dm u)) (U (dN u J c<|U<|dm u))),(5001,.j 32 254 (ab c7 (dN u J c<|U<|dm u)))]:=by
 refine c4 func201 [] λak p K=>?_;have A:=K3 u;have hm:=HD u;have v:U (ab l (dm u))=U (dm u):=bm ..;refine hU (.al 1<|ab l<|dm u) ?_ (fi:=lv A _ _ _ 0);refine kS (U<|dm u) (U<|dm u) (ab l<|hI (nt (e_ u J) [ai] ai c) (U<|dm u) 0) ?_ (k:=ea nb v) (lR:=ea nb v) (aU:=VE);refine e9 (U<|dm u) (λn=>⟨[(0,b 6000),(2,b 6002),(3,b 6003),(4,b 6004),(7,.a 17 0<|U<|dm u),(19,l<|U<|dm u),(20,l n)],[(17,.j 1 3<|ab l<|hI (nt (e_ u J) [ai] ai c) (U<|dm u) n),(6007,.j 1 4 ac),(6008,.j 1 50 h),(5001,.j 32 254<|ab c7<|dN u J c n),(6000,ah 254<|c7 d),(6001,ah 257<|b 6005),(6002,ah 249<|b 6006),(6003,ah 316<|.eA 6009),(6004,ah 250<|.a 5001 0<|U<|ab c7<|dN u J c n),(6005,ah 260<|g_ (ls u) (.al 1<|ab l<|dm u) (.a 6007 0<|U ac)<|.a 6008 0<|U h),(6006,ah 252<|nV r m<|lk u),(6009,iA (e6 tL (λe=>l<|lb e)<|dN u J c n)<|U<|dN u J c n)],[]⟩) λn N=>?_;apply f<;>intro O
 .have i:n<U (dm u):=q;have S:=agL i;have T:n<U (lk u):=by unfold lk;rw[bm];exact i
  have E:=arM (u:=u) x n;have P:=Mn u J c (n:=n+1) q;refine a1.eK 1009 Ru.size 254 [] ai ?_;refine ei ?_;refine bw (λ_=>gY aa (bu:=tA)) ?_;refine bw (λ_=>bB n (c7<|DU u<|y (dm u) n 0) aa (k:=aq)) ?_;refine bw (λ_=>ch aa (g:=ath d<|DU u<|y (dm u) n 0)) ?_;refine DY 1009 9 ?_;refine DZ (c7<|tQ u d n) ?_ qK (Rs:=by grind[ajX]) (fh:=ba);refine fz ?_;refine gY ?_ (bu:=tA);refine ab3 (cv [l (mr lb (dN u J c n)<|tQ u d n),aV<|v9 (dN u J c n)<|tQ u d n]) ?_ af9 R5 aaA (fi:=aa7 aaz E (C n) aa);apply f<;>intro z
  focus
   have D:tQ u d n∉dN u J c n:=λs=>by grind[sT,cg]
   let⟨o,w⟩:=aqE k t i D;have Q:=Mn u J c (n:=n) q;have R:U (ab c7 (dN u J c n))=U (dN u J c n):=bm ..;refine e7 ((nt (e_ u J) [ai] ai c n:Z):L) ?_;refine gY ?_ (bu:=tA);refine SR (e6 tL (λe=>l<|lb e)<|dN u J c<|n+1) (U<|dN u J c<|n+1) ?_ af9 R5 aaA (show Bn (e6 tL (λe=>l<|lb e) (dN u J c n)) (U (dN u J c n)) (tL (tQ u d n)) (l (nt (e_ u J) [ai] ai c n))=(e6 tL (λe=>l<|lb e) (dN u J c<|n+1),U (dN u J c<|n+1)) by grind[aak,l,lb,aaz]);refine gY ?_ (bu:=tA);refine cp ?_ (hlen:=λI bN=>by rw[eu.1 bN];rfl);refine eB (ab c7<|dN u J c<|n+1) ?_ (aX:=ba) (gi:=.al aa aa aa aa λI bN=>by rw[eu.1 bN];rfl) (aU:=by rw[o,dc];rfl) (bl:=bi)
  rotate_left
  focus have B:tQ u d n∈dN u J c n:=sT.1<|Gp.1 z;let⟨o,w⟩:=aqF k t i B;rw[w,<-o]
  all_goals refine cE n ?_ (k:=q);refine fF (ab l<|hI (nt (e_ u J) [ai] ai c) (U<|dm u)<|n+1) (l 0) (l<|nt (e_ u J) [ai] ai c n) ?_ (k:=Pq) (aU:=by grind[List.map_set,I3]);refine aY ?_;exact a4<|n+1
 obtain rfl:n=U (dm u):=q;exact yW 17 (U<|dm u) (show U (ab l (hI (nt (e_ u J) [ai] ai c) (U (dm u)) (U (dm u))))=U (dm u) by rw[bm,N3]) cJ
def LX(c:bg)(e:Y Z)(ac d:Y V)(g:Y (Y Z))(f:Y X):bS:=[(6000,ah 254<|c7 e),(6001,ah 257<|b 6005),(6002,ah 249<|b 6006),(6003,ah 316<|.eA 6009),(6005,ah 260<|g_ (ls c) (.al 1<|ab l<|dm c) (.a 6007 0<|U ac)<|.a 6008 0<|U d),(6006,ah 252<|nV g f<|lk c),(6007,.j 1 4 ac),(6008,.j 1 50 d)]
def E4(b:Y (Y Z)):bS:=[(6004,ah 250<|.a 5001 0<|U<|ab c7 b),(6009,iA (e6 tL (λc=>l<|lb c) b)<|U b),(5001,.j 32 254<|ab c7 b)]
def Y5(c:bg)(J:bZ)(d:Z)(o:d<U (cz (e_ c J) [ai] d)){hR:Y Z}(h:ob c J (hg (e_ c J) [ai] ai d)=hR)(k:fJ hR)(i:∀r∈hR,r<U c.aJ)(p:∀n,∀s∈dN c J d n,fJ s)(m:U (dN c J d 0)<=10000)(ac f:Y V)(g:Y (Y Z))(e:Y X):dF 201 [b 6000,b 6001,b 6002,b 6003,b 6004] (LX c hR ac f g e++E4 (dN c J d 0)) (.al 1 (ab l (hI (nt (e_ c J) [ai] ai d) (U (dm c)) (U (dm c))))) (LX c hR ac f g e++E4 (dN c J d (U (dm c)))):=anz c J d o hR h k i p m ac f g e
end
