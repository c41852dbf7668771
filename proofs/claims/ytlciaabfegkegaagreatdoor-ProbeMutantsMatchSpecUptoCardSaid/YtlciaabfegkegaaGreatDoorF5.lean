import Derived.Test.YtlciaabfegkegaaGreatDoorF4
set_option linter.all false
set_option maxHeartbeats 8000000
set_option maxRecDepth 100000
open Array renaming size->a9,toList->a0
open Bool renaming false->ae,true->ag
open Decidable renaming decide->aH
open Eq renaming symm->bQ,trans->b0
open Go renaming Calls->ln,FuncId->fM,Operand->aP,Program->bn,TypeId->aw,Value->bq,World->bI
open Go.Calls renaming mono->iK
open Go.Ending renaming returned->lo
open Go.Fn renaming func->c1
open Go.IntKind renaming i64->aj,u8->ez
open Go.Lib renaming bitLen->wS,compareBytes->sn,trimLeftB->Cc
open Go.Obj renaming cells->pK
open Go.Op renaming bytesLess->ut,equalIn->nH
open Go.Proofs.Tryz renaming prog->bL
open Go.TypeDesc renaming slice->c_
open Go.Value renaming agg->h0,bool->hA,int->cN,slice->eY,string->jO,tuple->o1
open Go.World renaming cell?->ho
open Go.fe.V renaming agg->b2,bool->aV,func->eo,int->an,ref->fN,str->a8,tuple->cv
open Go.fe.b7 renaming cell->ah,map->iA
open Inhabited renaming default->av
open Int renaming natAbs->hp,toNat->aG
open List renaming Nodup->dT,Perm->g7,all->dh,any->fB,contains->j1,drop->ay,flatMap->ff,flatten->iV,getD->y,idxOf->h2,length->U,map->ab,range->bM,replicate->cM,set->aR,take->am,toArray->aO
open List.Pairwise renaming nil->Eg
open List.Perm renaming refl->gF
open Nat renaming cast->nb,gcd->jp,min->nK
open Option renaming none->ai,some->W
open Or renaming inl->bj,inr->bp,resolve_left->j2
open UInt8 renaming ofNat->gn,toNat->ax,toNat_lt->mE
open _root_ renaming Bool->X,Inhabited->l9,Int->L,List->Y,Nat->Z,True->dW,UInt8->C,Unit->j3,absurd->cg,rfl->aa,trivial->b5
open Go.Proofs Go.Proofs.Tryz
open Go.Proofs.Tryz renaming prog->eQ
namespace Go.fe
variable{P:bn}{i:Y (Z×V)}{m:Z}{ops:Array Oper}{p:bJ}{M:Oper}{J:aN}{K:cI}
section
attribute [local irreducible] dS
def Pz(c:Z)(e:ik):Prop:=∀b,e=W b->fJ b/\∀d∈b,d<c
theorem afW{b:bg}{J:bZ}{c:Z}(h:U b.aJ=c)(i:o5 b.cn)(g:mG b)(d:fg J c)(v:ik):∀e∈e_ b J v,Pz c e:=λe l o f=>by obtain⟨n,_,rfl⟩:=dI.1 l;cases f;exact⟨S8<|afN i d.ok (v:=v),λm k=>afM h g d v m (m9.1 k).1⟩
def avV{b:bg}{J:bZ}{c:Z}(i:U b.aJ=c)(l:o5 b.cn)(h:mG b)(k:fg J c)(e g:Z):∀d∈x3 b J e g,Pz c d:=λd m=>by let o:∀d∈cz _ [ai] e,Pz c d:=uF (λf n=>by rw[eu.1 n];exact nofun) (λf _=>afW i l h k f) e;rcases(yS _ _ _).1 m with b|b;simp_all;grind[afW,List.mem_of_mem_take]
def RS{b:bg}{J:bZ}{d:Z}(h:U b.aJ=d)(k:o5 b.cn)(g:mG b)(i:fg J d)(f e:Z):∀c∈dN b J f e,fJ c/\∀m∈c,m<d:=λc l=>
 avV h k g i f e _ (((F3 b J f e).mem c).2 l) c aa
def aaf(b:bg)(J:bZ){c:Z}(d:c<U (cz (e_ b J) [ai] c)):dN b J c (U (dm b))=dN b J (c+1) 0:=by unfold dN x3;simp_all[KS,Ut,bv,w7]
def RR(u:bg)(J:bZ)(b:Z):U (cz (e_ u J) [ai] b)=U (dN u J b 0)+1:=by have:=N5 (u:=u) (J:=J) b 0;trivial
def alL(b:bg)(J:bZ):ob b J (hg (e_ b J) [ai] ai 0)=J.first:=aa
def alK(c:bg)(J:bZ){b:Z}(f:b<U (dN c J (b+1) 0)):hg (e_ c J) [ai] ai (b+1)=W (y (dN c J (b+1) 0) b []):=by let d:=F3 c J (b+1) 0;unfold mK at d;unfold hg;let e:cz _ _ _=x3 c J (b+1) 0:=bQ<|w7 _;grind
def nf(b:bg)(J:bZ)(c:Z):Y V:=(bM c).map λd=>bE<|sy J<|hg (e_ b J) [ai] ai d
def oM(b:bg)(J:bZ)(c:Z):Y V:=(bM c).map λd=>.al 1<|ab l<|hI (nt (e_ b J) [ai] ai d) (U<|dm b)<|U<|dm b
def PF(c:bg)(J:bZ)(b:Z):U (nf c J b)=b:=by rw[nf,bm,ij]
def S6(c:bg)(J:bZ)(b:Z):U (oM c J b)=b:=by rw[oM,bm,ij]
def ait(b:bg)(J:bZ)(c:Z):nf b J (c+1)=nf b J c++[bE (sy J (hg (e_ b J) [ai] ai c))]:=by simp[nf,sh,dc]
def arG(b:bg)(J:bZ)(c:Z):oM b J (c+1)=oM b J c++[.al 1 (ab l (hI (nt (e_ b J) [ai] ai c) (U (dm b)) (U (dm b))))]:=by simp[oM,sh,dc]
def axp{c:bg}{J:bZ}{b:Z}(f:b<=2999)(s:U (dN c J (b+1) 0)<=b)(g:b<U (cz (e_ c J) [ai] (b+1))):du c J 3000=cz (e_ c J) [ai] (b+1)/\U (du c J 3000)=b+1:=by let d:=RR c J<|b+1;let e:cz _ _ 3000=cz (e_ c J) [ai] (b+1):=tt q q;grind[DK]
def ais{d:bg}{J:bZ}{b:Z}{c:Y ik}(g:c=cz (e_ d J) [ai] (b+1))(i:U c=b+1):nf d J (b+1)=(sF d J c).acc.map bE:=by
 show _=ab bE (ab _ c);refine jn λcs=>?_;unfold nf;by_cases h:cs<b+1;let e:cs<U c:=q;let f:cs<U (cz (e_ d J) [ai] cs):=by refine B7 λI=>?_;have:=tt (cs:=b+1) I q;rw[<-g] at this;rw[this] at e;omega
 have:=zp (pQ<|show cs<=b+1 by omega)<|yM (I:=ai) f;simp_all;simp_all
def arF{b:bg}{J:bZ}{D:Z}{c:Y ik}(d:c=cz (e_ b J) [ai] (D+1))(e:U c=D+1):oM b J (D+1)=(sF b J c).b9.map ca:=by
 show _=ab _ (ab _ c);let g:U (cz (e_ b J) [ai] (D+1))=D+1:=by rw[<-d,e]
 have:=aeP (bP:=[ai]) (I:=ai) (D:=D+1) ao (λf=>Ut b J f) q q;rw[d,<-this,i_];rfl
def ni(I:fu):V:=g_ I.vH (.al 1<|ab l I.fst) (.al 1<|ab bE I.acc)<|.al 1<|ab ca I.b9
def kK(b:bg)(J:bZ):Y X:=(bM<|U b.aJ).map λc=>aH<|c∈J.last
theorem YC(b:bg)(J:bZ):U (kK b J)=U b.aJ:=by rw[kK,bm,ij]
def ai8{d:Z}{J:bZ}{b:Y Z}(s:∀e∈b,e<d):(fB b λc=>y ((bM d).map λc=>aH<|c∈J.last) c ae)=sy J (W b):=by show _=fB b _;grind
def af1(c:bg)(J:bZ)(aH:U c.cn=U c.aJ)(av:U c.aJ<=2000)(m:o5 c.cn)(i:mG c)(g:fg J (U c.aJ)){h:Y ik}(D:h=du c J 3000){A:V}{x:bS}(M:U h<=3000->A=an aj 0/\x=[(6000,ah 260 (ni (sF c J h))),(6001,ah 252 (nV c.cn (kK c J) (lk c)))])(N:3000<U h->A=an aj 3/\x=[(6001,ah 252 (nV c.cn (kK c J) (lk c)))]):dF 156 [b 6000,b 6001,c7 J.first,bE J.empty] [(6000,ah 260 (g_ (ls c) (.al 1 (ab l (dm c))) .bo .bo)),(6001,ah 252 (nV c.cn (kK c J) (lk c)))] A x:=by
 refine c4 func156 [2004,2010] λaL p E=>?_;have o:=E.vY;have s:=E.bu;have e:=K3 c;have ay:U (dN c J 0 0)=0:=aa;have C:(0:Z)<U (cz (e_ c J) [ai] 0):=GB;have S:=λn B v=>(RS aa m i g 0 n B v).1;have Q:=Mn c J 0 (n:=U<|dm c)<|HD c;have H:=aaf c J C;rw[H] at Q;refine a1.eK 1403 32 254 [] (W (10,0)) ?_;refine a1.Av 1401 1 4 6000 1 ?_;refine a1.Av 1402 1 50 6000 2 ?_;refine ke ⟨[(3,bE J.empty),(4,b 4),(5,b 5),(6,b 6),(10,b 10),(11,eo (c1 201) [] [b 4,b 5,b 9,b 10])],[(4,ah 257<|b 6000),(5,ah 249<|b 6001),(6,ah 254<|c7 J.first),(9,ah 316<|.eA 15),(10,ah 250<|.a 1403 0 0),(15,iA [] 0),(1403,.j 32 254 []),(1401,.j 1 4 []),(1402,.j 1 50 []),(6000,ah 260<|g_ (ls c) (.al 1<|ab l<|dm c) (.a 1401 0 0)<|.a 1402 0 0),(6001,ah 252<|nV c.cn (kK c J)<|lk c)],[]⟩ ?_;refine dA ?_;refine a1.Lo [0,1,2,3,4,5,6,10,11,12,13,14,15,7,8,9,16,17,18,19,20,21,22] [0,1,2,3,4,5,6,13,14,15,7,8,9,10,11,12,16,17,18,19,20,21,22] [13] _ gm br o h7 s ba (by conv=>lhs;reduce) ba ba ?_;refine bw (λ_=>hU (.a 1402 0 0) aa (fi:=lv e _ _ _ 2)) ?_;refine bw (λ_=>hU (.a 1401 0 0) aa (fi:=lv e _ _ _ 1)) ?_;refine bw (λ_=>kr aa) ?_;refine UQ ?_;refine JK [(6000,6),(6001,4),(6002,5),(6003,9),(6004,10),(6005,6000),(6006,6001),(6007,1401),(6008,1402),(6009,15),(5001,1403)] [] (LX c J.first [] [] c.cn<|kK c J) (E4<|dN c J 0 0) (E4<|dN c J 0<|U<|dm c) ?_<|Y5 c J 0 C (hR:=J.first) (alL c J) g.ok.1 g.f S q [] [] c.cn<|kK c J;rw[H];refine bw (λ_=>kr aa) ?_;refine qm ?_;refine jY 26 (oM c J 1) ?_ (gi:=.al aa aa aa aa λI bN=>by rw[eu.1 bN];rfl) (aU:=ba) (bl:=by simp[S6]);refine qm ?_;refine jY 33 (nf c J 1) ?_ (aU:=ba) (bl:=by simp[PF]);refine qm ?_;refine zM (g_ (ls c) (.al 1<|ab l<|dm c) (.a 1401 0 0)<|.a 26 0<|U<|oM c J 1) ?_ (k9:=z_) (aU:=AC e _ _ _ _ 2);refine qm ?_;refine zM (g_ (ls c) (.al 1<|ab l<|dm c) (.a 33 0<|U<|nf c J 1)<|.a 26 0<|U<|oM c J 1) ?_ (k9:=z_) (aU:=AC e _ _ _ _ 1);refine jz [(26,1402),(33,1401)] ?_;refine c8 Z (λd=>⟨[(4,b 4),(5,b 5),(10,b 10),(11,eo (c1 201) [] [b 4,b 5,b 9,b 10]),(12,l d)],[(1403,.j 32 254<|ab c7<|dN c J (d+1) 0),(1401,.j 1 4<|nf c J<|d+1),(1402,.j 1 50<|oM c J<|d+1),(4,ah 257<|b 6000),(5,ah 249<|b 6001),(9,ah 316<|.eA 15),(10,ah 250<|.a 1403 0<|U<|ab c7<|dN c J (d+1) 0),(6000,ah 260<|g_ (ls c) (.al 1<|ab l<|dm c) (.a 1401 0<|U<|nf c J<|d+1)<|.a 1402 0<|U<|oM c J<|d+1),(6001,ah 252<|nV c.cn (kK c J)<|lk c),(15,iA (e6 tL (λw=>l<|lb w)<|dN c J (d+1) 0)<|U<|dN c J (d+1) 0)],[]⟩) (λd=>d<=U (dN c J (d+1) 0)/\U (dN c J (d+1) 0)<=3300/\d<=2999) (λd=>3000-d) 0 (λd ⟨aC,aD,P⟩=>?_) ⟨dJ _,q,q⟩;have aE:=RR c J<|d+1;have aG:U (ab c7 (dN c J (d+1) 0))=U (dN c J (d+1) 0):=bm ..;apply f<;>intro az
 .have r:d<U (dN c J (d+1) 0):=q;have F:d+1<U (cz (e_ c J) [ai] (d+1)):=q;obtain⟨au,ar⟩:=RS aa m i g (d+1) 0 _<|dL (I:=[]) r;have G:=alK c J r;have aB:=(P_ (succ:=e_ c J) (bP:=[ai])<|d+1).length_le;have aF:=RR c J<|d+1+1;have R:=Mn c J (d+1) (n:=U<|dm c)<|HD c;have K:=aaf c J F;rw[K] at R;have T:=λn B v=>(RS aa m i g (d+1) n B v).1;have ak:U (cz (e_ c J) [ai] (d+1))<=U (du c J 3000):=by rw[<-DK];exact(pQ q).length_le
  rw[<-D] at ak;have ap:ob c J (hg (e_ c J) [ai] ai (d+1))=ng c.cn (y (dN c J (d+1) 0) d []):=by rw[G];rfl
  have O:nf c J (d+1+1)=nf c J (d+1)++[bE (sy J (W (y (dN c J (d+1) 0) d [])))]:=by rw[ait,G]
  have X:=arG c J<|d+1;have aw:=PF c J<|d+1;have aI:=S6 c J<|d+1;have ax:=PF c J<|d+1+1;have aK:=S6 c J<|d+1+1;refine e7 ((U (dN c J (d+1) 0)+1:Z):L) ?_;apply f<;>intro aA
  .obtain⟨rfl,rfl⟩:=N q;exact cJ
  refine dA ?_;refine a1.eK 1013 Ru.size 254 [] ai ?_;refine a1.Lo [0,1,2,3,8,4,5,6,7,9,10] [0,1,2,3,5,6,7,8,4,9,10] [5] _ gm br o h7 s ba (by conv=>lhs;reduce) ba ba ?_;refine bw (λ_=>cE d aa (k:=q)) ?_;refine qm ?_;refine DY 1013 13 ?_;refine UQ ?_;refine JK [(6003,6001),(6004,1403)] [] [(6004,.j 32 254<|ab c7<|dN c J (d+1) 0),(6003,ah 252<|nV c.cn (kK c J)<|lk c)] [] [] ?_<|ay4 c.cn (kK c J) (lk c) (y (dN c J (d+1) 0) d []) au (ab c7<|dN c J (d+1) 0) d (amB r) (λz am=>aq) λz am=>by grind[YC]
  rw[show(fB (y (dN c J (d+1) 0) d []) λz=>y (kK c J) z ae)=sy J (W<|y (dN c J (d+1) 0) d []) from ai8 ar];refine qm ?_;refine DZ (c7<|ng c.cn<|y (dN c J (d+1) 0) d []) ?_ qK (fh:=ba);refine fz ?_;refine ke ⟨[(4,b 4),(5,b 5),(10,b 10),(11,eo (c1 201) [] [b 4,b 5,b 9,b 10]),(12,l d),(13,b 13),(14,bE<|sy J<|W<|y (dN c J (d+1) 0) d [])],[(13,ah 254<|c7<|ng c.cn<|y (dN c J (d+1) 0) d []),(4,ah 257<|b 6000),(5,ah 249<|b 6001),(9,ah 316<|.eA 15),(10,ah 250<|.a 1403 0<|U<|ab c7<|dN c J (d+1) 0),(15,iA (e6 tL (λw=>l<|lb w)<|dN c J (d+1) 0)<|U<|dN c J (d+1) 0),(1403,.j 32 254<|ab c7<|dN c J (d+1) 0),(1401,.j 1 4<|nf c J<|d+1),(1402,.j 1 50<|oM c J<|d+1),(6000,ah 260<|g_ (ls c) (.al 1<|ab l<|dm c) (.a 1401 0<|U<|nf c J<|d+1)<|.a 1402 0<|U<|oM c J<|d+1),(6001,ah 252<|nV c.cn (kK c J)<|lk c)],[]⟩ ?_;refine a1.Lo [0,1,2,3,4,5,6,10,11,12,13,14,15,7,8,9,16,17,18,19,20,21,22] [0,1,2,3,4,5,6,13,14,15,7,8,9,10,11,12,16,17,18,19,20,21,22] [13] _ gm br o h7 s ba (by conv=>lhs;reduce) ba ba ?_;refine bw (λ_=>hU (.a 1402 0<|U<|oM c J<|d+1) aa (fi:=lv e _ _ _ 2)) ?_;refine bw (λ_=>hU (.a 1401 0<|U<|nf c J<|d+1) aa (fi:=lv e _ _ _ 1)) ?_;refine bw (λ_=>kr aa) ?_;refine UQ ?_;refine JK [(6000,13),(6001,4),(6002,5),(6003,9),(6004,10),(6005,6000),(6006,6001),(6007,1401),(6008,1402),(6009,15),(5001,1403)] [] (LX c (ng c.cn<|y (dN c J (d+1) 0) d []) (nf c J<|d+1) (oM c J<|d+1) c.cn<|kK c J) (E4<|dN c J (d+1) 0) (E4<|dN c J (d+1)<|U<|dm c) ?_<|Y5 c J (d+1) F ap (PN m) (Wl i) T q (nf c J<|d+1) (oM c J<|d+1) c.cn<|kK c J;rw[K];refine bw (λ_=>kr aa) ?_;refine qm ?_;refine jY 65 (oM c J<|d+1+1) ?_ (gi:=.al aa aa aa aa λI bN=>by rw[eu.1 bN];rfl) (aU:=bQ X) (bl:=q);refine qm ?_;refine jY 72 (nf c J<|d+1+1) ?_ (aU:=bQ O) (bl:=q);refine qm ?_;refine zM (g_ (ls c) (.al 1<|ab l<|dm c) (.a 1401 0<|U<|nf c J<|d+1)<|.a 65 0<|U<|oM c J<|d+1+1) ?_ (k9:=z_) (aU:=AC e _ _ _ _ 2);refine qm ?_;refine zM (g_ (ls c) (.al 1<|ab l<|dm c) (.a 72 0<|U<|nf c J<|d+1+1)<|.a 65 0<|U<|oM c J<|d+1+1) ?_ (k9:=z_) (aU:=AC e _ _ _ _ 1);refine jz [(65,1402),(72,1401)] ?_;refine aY ?_;exact a4 (d+1) ⟨q,q,q⟩
 obtain⟨t,u⟩:=axp P (show U (dN c J (d+1) 0)<=d by omega) q;rw[<-D] at t u;obtain⟨rfl,rfl⟩:=M q;rw[ais t u,arF t u];exact gq 1401<|gq 1402 cJ
end
def ay8:cu bL 358 (c_ 117) 1 24:=⟨ao,cb⟩
def ay5:gx bL 117 1 24:=⟨cb⟩
def qC(I:fu)(b c:Z):Y (Y Z):=(bM<|U I.b9).map λd=>(bM c).filter λe=>aH<|k8 I e b=d
theorem Qc(I:fu)(b c:Z):U (qC I b c)=U I.b9:=by simp[qC,bm,ij]
def ajN(I:fu)(b:Z):qC I b 0=cM (U I.b9) []:=by unfold qC;refine rg ao λe c d=>ao
theorem ajM{I:fu}(c b:Z)(e:k8 I b c<U I.b9):qC I c (b+1)=aR (qC I c b) (k8 I b c) (y (qC I c b) (k8 I b c) []++[b]):=by
 refine jn λd=>?_;rw[qo,Qc];let f:∀d,d<U I.b9->∀b,(qC I c b)[d]?=W ((bM b).filter λh=>aH<|k8 I h c=d):=λd k b=>by grind[qC,List.getElem?_range]
 by_cases g:k8 I b c=d;subst g;rw[af aa,af e,f _ e,dX,f _ e,z7,sh,O2];simp;by_cases i:d<U I.b9;grind[List.range_succ,List.filter_cons_of_neg];grind[List.getElem?_eq_none,Qc]
def arj{b:Y dE}{B:Z}(s:B<U b):cP b=cP (am B b)++(q0 (y b B av)++cP (ay (B+1) b)):=by grind[List.getElem?_eq_getElem,MR,Ii,UC]
def ab6{b:Y dE}{B:Z}(s:B<U b)(c:dE):cP (aR b B c)=cP (am B b)++(q0 c++cP (ay (B+1) b)):=by rw[Uc s,Ii,MR]
def ajL{I:fu}{d b:Z}{c:Y Z}(s:c∈qC I d b):U c<=b:=by unfold qC at s;grind
def JL(I:fu)(c:Y (Z×V))(d:bS)(e:bV):aN:=⟨(0,b 6000)::(3,.a 12 0<|U I.fst)::(14,l<|U I.fst)::(30,.al 1<|ab ca I.b9)::(31,l<|U<|ab ca I.b9)::c,(6000,ah 260<|ni I)::d,e⟩
def ajD{I:fu}(bN:I.ok):dF 252 [b 6000] [(6000,ah 260 (ni I))] (.al 1 (ab (tu I) (bM (U I.fst)))) [(6000,ah 260 (ni I))]:=by
 refine c4 func252 [2004,2006] λa2 p Q=>?_;have aL:=Q.vY;have aE:=Q.bu;have aP:=bN.f2;have aW:=bN.If;refine hU (.al 1<|ab l I.fst) ?_ (fi:=lv bN.cl _ _ _ 0);refine kS (U I.fst) (U I.fst) (kU I 0) ?_ (k:=ea nb<|bm ..) (lR:=ea nb<|bm ..) (aU:=by unfold kU;refine rg ao λD aJ aK=>?_;simp;rfl);refine c8 (Z×V×bV) (λh=>⟨[(0,b 6000),(3,.a 12 0<|U I.fst),(14,l<|U I.fst),(15,l h.1)],[(12,.j 1 117<|l0 I h.1 h.2.1),(6000,ah 260<|ni I)],h.2.2⟩) (λh=>h.1<=U I.fst/\Ko I h.1 h.2.1 h.2.2) (λh=>U I.fst-h.1) (0,.bo,[]) (λ⟨n,M,aH⟩ ⟨aG,L⟩=>?_) ⟨dJ _,bj ⟨aa,aa⟩⟩;dsimp only at aG L⊢;apply f<;>intro aN
 .have u:n<U I.fst:=q;have aA:(kU I n)[n]?=W .bo:=by rw[ac1 u,ad<|wM _]
  refine a1.LU L 12 ?_;refine dA ?_;refine hU (.al 1<|ab ca I.b9) ?_ (fi:=lv bN.cl _ _ _ 2);refine kS (U I.b9) (U I.b9) (cM (U I.b9) .bo) ?_ (k:=ea nb<|bm ..) (lR:=ea nb<|bm ..) (aU:=ba);refine cE n ?_ (k:=u);refine arX 25 λid g=>?_;refine fF (l0 I (n+1)<|.bH id g 0<|U I.b9) .bo (.bH id g 0<|U I.b9) ?_ (k:=aA) (aU:=ba);obtain⟨mJ,C⟩:∃mJ:Y dE,mJ=cM (U I.b9) ⟨0,0,[]⟩:=⟨_,aa⟩;have O:ab fU mJ=cM (U I.b9) .bo:=by rw[C,B3];rfl
  have P:cP mJ=[]:=by rw[C];unfold cP;exact List.flatMap_eq_nil_iff.2 λa0 r=>by rw[zT r];rfl
  have ar:ed mJ=qC I n 0:=by rw[ajN,C];unfold ed;rw[B3]
  refine a1.X8 ((id,.j g 1 50<|ab fU mJ)::cP mJ) (λG X=>(by rw[O,P] at X;exact X)) ⟨[],(by rw[O,P];rfl)⟩ ?_;refine dA ?_;refine hU (.al 1<|ab ca I.b9) ?_ (fi:=lv bN.cl _ _ _ 2);refine c8 (Z×Y dE) (λh=>JL I [(4,l n),(15,l n),(32,l h.1)] [(12,.j 1 117<|l0 I (n+1)<|.bH id g 0<|U I.b9)] ((id,.j g 1 50<|ab fU h.2)::cP h.2)) (λh=>h.1<=U I.b9/\ed h.2=qC I n h.1) (λh=>U I.b9-h.1) (0,mJ) (λ⟨D,e⟩ ⟨aF,z⟩=>?_) ⟨dJ _,ar⟩;dsimp only at aF z⊢;apply f<;>intro R
  .try simp only[bm] at R
   have T:D<U I.b9:=q;have aX:=bN.rw D T;obtain⟨B,hk⟩:∃B,k8 I D n=B:=⟨_,aa⟩;have H:B<U I.b9:=by rw[<-hk];exact bN.agj D n T u
   have aM:U e=U I.b9:=by rw[<-Dh,z,Qc]
   have w:B<U e:=q;have aw:n<U (y I.b9 D []):=q;have aC:(ab l (y I.b9 D []))[n]?=W (l B):=by rw[eE aw,<-hk];rfl
   have E:(ab fU e)[B]?=W (fU (y e B av)):=by rw[db,dX,cT w];rfl
   have aT:B<U (ab fU e):=by rw[bm];exact w
   have aQ:(l0 I (n+1) (.bH id g 0 (U I.b9)))[n]?=W (.bH id g 0 (U I.b9)):=by show(aR (kU I n) n _)[n]?=_;rw[Vi];unfold kU;rw[bm,ij];exact u
   have K:∀c:dE,c.l=(y e B av).l++[D]->ed (aR e B c)=qC I n (D+1):=λc aU=>by grind[ajM,y_,ed,List.map_set]
   have aD:(y e B av).l.length<=100000:=by
    have:(y e B av).l∈qC I n D:=by rw[<-z];exact dI.2 ⟨_,dL w,aa⟩
    have:=ajL this;omega
   have J:=arj w;generalize y e B av=c at E K aD J;refine bB D (ca<|y I.b9 D []) ?_ (k:=aq);refine ke (JL I [(4,l n),(5,l D),(6,.al 1<|ab l<|y I.b9 D []),(15,l n),(32,l D)] [(12,.j 1 117<|l0 I (n+1)<|.bH id g 0<|U I.b9)] ((id,.j g 1 50<|ab fU e)::cP e)) ?_;refine a1.aj7 (G:=λt:Y dE=>ed t=qC I n (D+1)) (g1:=λt=>JL I [(4,l n),(15,l n),(32,l D)] [(12,.j 1 117<|l0 I (n+1)<|.bH id g 0<|U I.b9)] ((id,.j g 1 50<|ab fU<|t)::cP t)) (λaI S=>?_) λt ap=>?_
   .by_cases r:c.l=[]
    focus
     refine a1.x2 1 λv=>?_;have ax:fU c=.bo:=af r;have aB:(ab fU e)[B]?=W .bo:=by rw[E,ax]
     have ak:=K;rw[r] at ak;have au:cP e=cP (am B e)++cP (ay (B+1) e):=by rw[J,q0,af r,na]
     refine a1.Rj (JL I [(4,l n),(15,l n),(32,l D)] [(12,.j 1 117<|l0 I (n+1)<|.bH id g 0<|U I.b9)] ((id,.j g 1 50<|ab fU<|aR e B ⟨v,1,[D]⟩)::cP (aR e B ⟨v,1,[D]⟩))) (λi=>?_)<|S _<|ak _ aa;refine e3.perm (kc i 12 1 117 (l0 I (n+1)<|.bH id g 0<|U I.b9)::(id,cB.j g 1 50<|ab fU e)::(v,cB.jl 1)::(cP (am B e)++cP (ay (B+1) e)++[c2 i (6000,ah 260<|ni I)])) ?_ ?_;show g7 _ ((id,cB.j g 1 50 (ab fU e))::cP e++[(v,cB.jl 1)]++([c2 i (6000,ah 260 (ni I))]++[kc i 12 1 117 (l0 I (n+1) (.bH id g 0 (U I.b9)))]));grind[s0]
    rotate_left
    focus
     have az:fU c=.bH c.id c.aS 0 (U c.l):=ad r;have aB:(ab fU e)[B]?=W (.bH c.id c.aS 0 (U c.l)):=by rw[E,az]
     have au:cP e=cP (am B e)++([(c.id,cB.j c.aS 1 3 (ab l c.l))]++cP (ay (B+1) e)):=by rw[J,q0,ad r]
     refine a1.Rj (JL I [(4,l n),(15,l n),(32,l D)] [(12,.j 1 117<|l0 I (n+1)<|.bH id g 0<|U I.b9)] ((id,.j g 1 50<|ab fU<|aR e B ⟨c.id,c.aS+1,c.l++[D]⟩)::cP (aR e B ⟨c.id,c.aS+1,c.l++[D]⟩))) (λi=>?_)<|S _<|K _ aa;refine e3.perm (kc i 12 1 117 (l0 I (n+1)<|.bH id g 0<|U I.b9)::(id,cB.j g 1 50<|ab fU e)::(c.id,cB.j c.aS 1 3<|ab l c.l)::(cP (am B e)++cP (ay (B+1) e)++[c2 i (6000,ah 260<|ni I)])) ?_ ?_;show g7 _ ((id,cB.j g 1 50 (ab fU e))::cP e++([c2 i (6000,ah 260 (ni I))]++[kc i 12 1 117 (l0 I (n+1) (.bH id g 0 (U I.b9)))]));grind[s0]
    all_goals
     refine Lm [([],[]),([],[]),([0],[]),([0],[]),([],[]),([],[]),([],[]),([],[]),([],[]),([],[]),([0],[]),([0],[]),([],[]),([],[]),([],[]),([],[]),([1],[]),([1],[]),([],[]),([],[]),([],[2]),([1],[]),([],[1])] gm aE ?_
     iterate 2
      iterate 2 refine ds.jx (λ_=>wi) ?_
      refine ds.fx (λ_ s=>xP 0 ay8 ay5 s (D:=n) (k:=u)) ?_;refine ds.fx (λ_ s=>xR 0 uj s (el:=.bH id g 0<|U I.b9) (k:=bi)) ?_
      iterate 2 refine ds.jx (λ_=>wi) ?_
      refine ds.jx (λ_=>atn (D:=n) mA zK (k:=aq)) ?_;refine ds.jx (λ_=>atv (F:=l B) ay7 (k:=aC)) ?_
     refine ds.fx (λ_ s=>xP 1 uj zL s (D:=B) (k:=H)) ?_
    .refine ds.fx (λ_ s=>xR 1 mA s (el:=.bH c.id c.aS 0<|U c.l) (k:=aq)) ?_;refine ds.jx (λ_=>wi) ?_;refine ds.jx (λ_=>Nq mA zK BY (hlen:=λx o=>by rw[eu.1 o];rfl)) ?_;refine ds.up 2 (c.id,.j (c.aS+1) 1 3<|ab l<|c.l++[D]) (A:=.bH c.id (c.aS+1) 0<|U<|c.l++[D]) (λd s=>?_) ?_;refine eH.jN (Ys (v:=2) (len:=U c.l) (off:=0) (hE:=ab l c.l) (mm:=[l D]) (m:=1) mA zK BY (hk:=s) (gi:=Oj (j:=[l D]) mA (mo:=λI bN=>by rw[eu.1 bN];rfl)) (Da:=q)) ?_ ?_;simp;show aR d 2 (c.id,cB.j (c.aS+1) 1 3 (am (U c.l) (ay 0 (ab l c.l))++[l D]))=_;rw[qn,kC (l:=ab l c.l) ao,dc];rfl;refine ds.fx (λ_ s=>xP 1 uj zL s (D:=B) (k:=H)) ?_;refine ds.up 1 (id,.j g 1 50<|ab fU<|aR e B ⟨c.id,c.aS+1,c.l++[D]⟩) (A:=.undef) (λd s=>?_) ?_;refine eH.jN (Hp 1 mA s (D:=0+B) (n:=0) (hE:=ab fU e) (el:=.bH c.id c.aS 0<|U c.l) (k:=aq)) aa ?_;show aR d 1 (id,cB.j g 1 50 (aR (ab fU e) (0+B) (.bH c.id (c.aS+1) 0 (U (c.l++[D])))))=_;simp[hl,fU,av,ad,mC];refine ds.nil ⟨aa,λN x o=>Sn ?_ N x o,?_⟩
     .iterate 8 refine Vf.2 ⟨ba,?_⟩
      nofun
     show g7 (kc i 12 1 117 (l0 I (n+1) (.bH id g 0 (U I.b9)))::(id,cB.j g 1 50 (ab fU (aR e B ⟨c.id,c.aS+1,c.l++[D]⟩)))::(c.id,cB.j (c.aS+1) 1 3 (ab l (c.l++[D])))::(cP (am B e)++cP (ay (B+1) e)++[c2 i (6000,ah 260 (ni I))])) ((id,cB.j g 1 50 (ab fU (aR e B ⟨c.id,c.aS+1,c.l++[D]⟩)))::cP (aR e B ⟨c.id,c.aS+1,c.l++[D]⟩)++([c2 i (6000,ah 260 (ni I))]++[kc i 12 1 117 (l0 I (n+1) (.bH id g 0 (U I.b9)))]));rw[ab6 w,show q0 ⟨c.id,c.aS+1,c.l++[D]⟩=[(c.id,cB.j (c.aS+1) 1 3 (ab l (c.l++[D])))] from ad ao];grind[s0]
    .refine ds.fx (λ_ s=>xR 1 mA s (el:=.bo) (k:=aq)) ?_;refine ds.jx (λ_=>wi) ?_;refine ds.jx (λ_=>Nq mA zK BY (hlen:=λx o=>by rw[eu.1 o];rfl)) ?_;refine ds.up 2 (v,.j 1 1 3 [l D]) (A:=.bH v 1 0 1) (λd s=>eH.jN (Yr (v:=2) (mm:=[l D]) (m:=1) mA zK BY (hk:=s) (gi:=Oj (j:=[l D]) mA (mo:=λI bN=>by rw[eu.1 bN];rfl)) (Da:=q)) aa aa) ?_;refine ds.fx (λ_ s=>xP 1 uj zL s (D:=B) (k:=H)) ?_;refine ds.up 1 (id,.j g 1 50<|ab fU<|aR e B ⟨v,1,[D]⟩) (A:=.undef) (λd s=>?_) ?_;refine eH.jN (Hp 1 mA s (D:=0+B) (n:=0) (hE:=ab fU e) (el:=.bo) (k:=aq)) aa ?_;show aR d 1 (id,cB.j g 1 50 (aR (ab fU e) (0+B) (.bH v 1 0 1)))=_;simp[hl,fU,ad,mC];refine ds.nil ⟨aa,λN x o=>Sn ?_ N x o,?_⟩
     .iterate 8 refine Vf.2 ⟨ba,?_⟩
      nofun
     show g7 (kc i 12 1 117 (l0 I (n+1) (.bH id g 0 (U I.b9)))::(id,cB.j g 1 50 (ab fU (aR e B ⟨v,1,[D]⟩)))::(v,cB.j 1 1 3 [l D])::(cP (am B e)++cP (ay (B+1) e)++[c2 i (6000,ah 260 (ni I))])) ((id,cB.j g 1 50 (ab fU (aR e B ⟨v,1,[D]⟩)))::cP (aR e B ⟨v,1,[D]⟩)++([c2 i (6000,ah 260 (ni I))]++[kc i 12 1 117 (l0 I (n+1) (.bH id g 0 (U I.b9)))]));rw[ab6 w,show q0 ⟨v,1,[D]⟩=[(v,cB.j 1 1 3 [l D])] from aa];grind[s0]
   refine aY ?_;exact a4 (D+1,t) ⟨q,ap⟩ q
  try simp only[bm] at R
  obtain rfl:D=U I.b9:=q;refine aY ?_;exact a4 (n+1,.bH id g 0<|U I.b9,(id,.j g 1 50<|ab fU e)::cP e) ⟨q,bp ⟨n,id,g,e,aa,u,aa,aa,z⟩⟩ q
 obtain rfl:n=U I.fst:=q;exact amX L 12<|yW 12 (U I.fst) (show U (kU I (U I.fst))=U I.fst by simp[kU,bm,ij]) (by rw[asq];exact cJ)
def avI{P:bn}(I:Z){b f:aw}{c:World}{d:Addr}{h e:Z}(g:P.underlying b=W (c_ f)):(nH (I+1) b (.slice (W d) h e) (.slice ai 0 0)).run P c=.ok ae c:=by simp[nH,run_underlying g]
def aub{P:bn}{p:bJ}{M:Oper}{b:bc}{i t o F:aw}{E n:Z}{l c:aP}{g k D h B J:Z}{r:Y V}(x:cu P i (c_ t) E n)(w:M.op=.binOp .eql i l c F)(A:b.val p l=W (.bH g k D h))(v:b.d[B]?=W (g,.j k J o r))(C:b.val p c=W .bo)(N:0<h):di P p M b (aV ae):=.same λm T G f=>by let⟨Q,L,O,s⟩:=f.bH A v;have e:=f.val C;generalize y:m.eval c=S at e;cases e;rcases s with⟨_,I,_⟩|⟨H,R,cap,K,z,_⟩;omega;refine⟨_,.bool _,?_⟩;simp only[execOp,w,z,y];rw[Sem.run_bind,A3 ba<|LD (s:=avI 9999 x.u)];rfl
def aq8{B:aN->Prop}{l:FuncId}{t w:aP}{y:Array aw}{b e k o:Z}{g:aw}{h:Y V}{r:V}(F:B (J.put M.dst r))(G:(b,cB.j e k g h)∈J.d)(I:g3 P i l [.bH b e 0 o] [(b,.j e k g h)] (λO N=>O=r/\N=[(b,.j e k g h)]))(H:M.op=.call {callee:=.value t,args:=#[w],argTypes:=y}:=by rfl)(D:val i J.c t=W (eo (c1 l) [] []):=by rfl)(L:val i J.c w=W (.bH b e 0 o):=by rfl)(T:r.plain:=by rfl)(C:kF P l:=by exact wQ):gg P K p i m ops M J B:=⟨λS n u f U Q E A=>by
 obtain⟨s,x,z⟩:=List.append_of_mem<|yi _ G;have v:g7 ([(b,cB.j e k g h)]++(s++x)) (J.aB f).d:=by show g7 _ (J.d++aZ f _);rw[z];exact(@List.perm_middle _ _ s _).symm
 refine cD.AL E (QN (mm:=[.bH b e 0 o]) H C (hJ n u D f) ⟨hJ n u L f,aa⟩ v (bQ n▸I) v) ?_;have R:=A f _ (dk.refl m f) F;simp_all[aN.r1,V.gc]⟩
def arl{B:aN->Prop}{m:Z}{ops:Array Oper}{l t G:aw}{b:cH}{n r:aP}{h F k:Z}{I:Z}{s:aw}{H:Y V}(w:B (J.put M.dst (aV ae)))(x:0<k)(y:M.op=.binOp .eql l n r G:=by rfl)(D:val i J.c n=W (.a h F k):=by rfl)(E:val i J.c r=W .bo:=by rfl)(C:K.find l=W b:=by rfl)(bN:b.d=c_ t:=by rfl)(A:b.O=ae:=by rfl)(v:ci J.az h=W (.j I s H):=by rfl):gg P K p i m ops M J B:=.pure aa (λu f g o=>by let e:=(u.find C).g5 A;rw[bN] at e;obtain⟨L,z⟩:=j7 (o:=o) J.d v;exact aub e y (hJ f g D o) z (hJ f g E o) x) w
def akN{b:Y Z}(bl:U b<=100000)(c:0<U b):dF 69 [.a 6000 0 (U (ab l b))] [(6000,.j 1 3 (ab l b))] (.al 1 (ab l b)) [(6000,.j 1 3 (ab l b))]:=by
 refine c4 func69 [] λh p f=>?_;let d:0<U (ab l b):=by rw[bm];exact c
 refine arl ?_ d;refine nc.mk nofun λ_=>?_;refine n0 ?_;refine eB (ab l b) ?_ (gi:=.a aa aa aa aa aa q λg e=>(by obtain⟨_,_,rfl⟩:=dI.1 e;rfl)) (aU:=aK) (bl:=bi);exact gq 5 cJ
def akO{b:dE}(d:U b.l<=100000)(e:0<U b.l):g3 bL fT 69 [.bH b.id b.aS 0 (U (ab l b.l))] [(b.id,.j b.aS 1 3 (ab l b.l))] (·=.al 1 (ab l b.l)/\·=[(b.id,.j b.aS 1 3 (ab l b.l))]):=by
 apply g3.frame (akN d e λ_=>(b.id,b.aS)) [] ba;rintro g M ⟨f,c,rfl,rfl⟩;exists _,by rw[gv],aa
 show[((f _).1,cB.j _ 1 3 _)]=_;rw[c.eq _ q]
def vo(I:fu)(b:Z):Y Z:=(bM b).filter λc=>y I.acc c ae
def ag0 I b:vo I (b+1)=vo I b++(if y I.acc b ae then[b] else[]):=by unfold vo;rw[sh,O2]<;>grind
def aod(I:fu):eI:=⟨cM (U I.b9) 0,[bM (U I.b9)],[0]⟩
def aoe{b:Z}(f:0<b):k2 b ⟨cM b 0,[bM b],[0]⟩:=by
 let aX:∀c,bR ⟨cM b 0,[bM b],[0]⟩ c=0:=by intro c;unfold bR;by_cases s:c<b;simp_all;simp_all
 refine⟨ao,λc _=>?_,λd c=>?_,λd=>?_,λd e=>?_,λd e=>?_,ao⟩;simp_all;grind;grind
 (simp_all;omega)
 simp_all
def R0{I:TypeDesc}:nZ I []:=λc b=>cg b kB
def ail:nQ [(l 0,bE ag,0)] [0]:=by let s:nQ [] []:=⟨λd b=>cg b kB,Eg,λc=>ba⟩;exact s.add 0 0
def uy.atG{I:fu}{s:eI}(B:Ep I s){b:Z}{c:Y Z}(d:s.et=c++[b]):GM I (y s.mem b []) 0 ⟨s.of,s.mem,c⟩:=by have:=uy.pop B d;grind[TE,List.dropLast_concat]
def Nx{b:Y dE}:g7 (dw b++[]) (dw b):=ao
def aqo{b:Y dE}:g7 (ff ([u2 ·]) b++[]) (dw b):=by rw[gv,aqn]
def JM(I:fu)(c:Y (Z×V))(d:bS)(e:bV):aN:=⟨(0,b 6000)::(3,b 3)::c,(3,ah 320<|b 24)::(6000,ah 260<|ni I)::d,e⟩
def aiW{I:fu}(bN:I.ok):iL bL fT 204 [b 6000] [] [(6000,ah 260 (ni I))] (λs:eI=>Ep I s/\s.et=[]) (λs=>.ref 2 [b2 [.al 1 (ab l s.of),.al 1<|ab ca s.mem]] 0 0) (λ_=>[]) (λ_=>[(6000,ah 260<|ni I)]):=by
 refine iL.of_wp (K:=hX) [2003,2011,2015,2021,2026] gm br h7 ⟨func204,ba,aa⟩ aa aa aa λbx p aG aX=>?_;let bh:kE bL hX p fT _ [2003,2011,2015,2021,2026]:=⟨gm,br,aG,h7,aX⟩;let ay:=bN.If;let a0:=bN.sV;let bk:=bN.f2;let t:=bN.cl;refine hU (.al 1<|ab ca I.b9) ?_ (fi:=lv t _ _ _ 2);refine kS (U I.b9) (U I.b9) (ab l<|cM (U I.b9) 0) ?_ (k:=ea nb<|bm ..) (lR:=ea nb<|bm ..) (aU:=wP);apply a1.eK 4 1 3 [4] ai;refine dA ?_;refine hU (.al 1<|ab ca I.b9) ?_ (fi:=lv t _ _ _ 2);refine kS (U I.b9) (U I.b9) (ab l<|hI id (U I.b9) 0) ?_ (k:=ea nb<|bm ..) (lR:=ea nb<|bm ..) (aU:=VE);refine hU (.al 1<|ab ca I.b9) ?_ (fi:=lv t _ _ _ 2);refine e9 (U I.b9) (λc=>JM I [(4,.a 4 0<|U<|ab l<|vo I c),(5,.a 30 0<|U I.b9),(35,l<|U<|ab ca I.b9),(36,l c)] [(22,.j 1 3<|ab l<|cM (U I.b9) 0),(30,.j 1 3<|ab l<|hI id (U I.b9) c),(4,.j 1 3<|ab l<|vo I c),(24,ah 323<|b2 [.a 22 0 (U I.b9),.bo])] []) λc k=>?_;apply f<;>intro ak
 .try simp[bm] at ak
  let u:c<U I.b9:=q;let aN:(ab bE I.acc)[c]?=W (bE<|y I.acc c ae):=by rw[db,dX,cT (by rw[bN.ac]<;>omega)];rfl
  let x:U (vo I<|c+1)<=c+1:=by have:=Vk (y I.acc · ae)<|bM<|c+1;rwa [ij] at this
  refine cE c ?_ (k:=u);refine fF (ab l<|hI id (U I.b9)<|c+1) (l 0) (l c) ?_ (k:=Pq) (aU:=VG);refine hU (.al 1<|ab bE I.acc) ?_ (fi:=lv t _ _ _ 1);refine bB c (bE<|y I.acc c ae) ?_ (k:=aN);apply f<;>intro ap
  .let az:vo I (c+1)=vo I c++[c]:=by rw[ag0,af ap]
   refine cp ?_;refine eB (ab l<|vo I<|c+1) ?_ (aU:=aq) (bl:=bi);refine aY ?_;exact a4<|c+1
  let az:vo I (c+1)=vo I c:=by rw[ag0,ad ap,gv]
  rw[<-az];refine aY ?_;exact a4 (c+1)
 try simp[bm] at ak
 obtain rfl:c=U I.b9:=q;rw[show hI id (U I.b9) (U I.b9)=bM (U I.b9) by rw[N2,uo],show V.a 30 0 (U I.b9)=V.a 30 0 (U (ab l (bM (U I.b9)))) by simp,show vo I (U I.b9)=JI I from aa];apply a1.h6 4;refine a1.JC 30 λL N=>?_;apply ke<|JM I [(4,.al 1<|ab l<|JI I),(5,.bH L N 0<|U<|ab l<|bM<|U I.b9)] [(24,ah 323<|b2 [.a 22 0 (U I.b9),.bo]),(22,.j 1 3<|ab l<|cM (U I.b9) 0)] [(L,.j N 1 3<|ab l<|bM<|U I.b9)];refine dA ?_;refine n0 ?_;refine n0 ?_;refine rV [(l 0,bE ag,0)] 1 ?_ (mq:=R0);let a3:=afF (aoe a0) ay (b8:=(JI I)) (λT bc=>hM.1 (m9.1 bc).1) (List.nodup_range.filter _) (f_:=[⟨L,N,bM<|U I.b9⟩]) aa 1 ail;refine dA ?_;refine gG [(6002,24),(6000,8),(6001,3),(6003,7),(6004,22),(6006,61),(5001,57),(5002,60)] (λM=>dw M.1) [] (λ⟨mJ,aA,aD⟩ ⟨v,w⟩=>?_) (g:=a3) (kN:=Nx) (kM:=λ_ _=>Nx);dsimp only at v w⊢;refine bG [(6000,6000)] ?_ (g:=ajD bN);refine c8 (eI×Y dE×Y (V×V×Z)×Z) (λd=>JM I [(7,b 7),(8,b 8),(9,eo (c1 250) [] [b 8,b 3,b 7]),(10,.al 1<|ab (tu I)<|bM<|U I.fst)] [(22,.j 1 3<|d.1.of.map l),(57,.j 1 50<|ab dK d.2.1),(60,.j 1 3<|d.1.et.map l),(7,ah 50<|.a 60 0<|U<|d.1.et.map l),(8,ah 356<|.eA 61),(24,ah 323<|b2 [.a 22 0 (U I.b9),.a 57 0<|U<|ab dK d.2.1]),(61,iA d.2.2.1 d.2.2.2)] (dw d.2.1)) (λd=>Ep I d.1/\ed d.2.1=d.1.mem/\nQ d.2.2.1 d.1.et) (λd=>y7 (U I.b9) d.1) (r5 (aod I)<|JI I,mJ,aA,aD) (λ⟨s,f_,P,ci⟩ ⟨m,r,C⟩=>?_) ⟨bN.start,v,w⟩;dsimp only at m r C⊢;apply f<;>intro ar
 .try simp[bm] at ar
  let bs:0<U s.et:=q;obtain⟨i,Q,o⟩:∃i Q,s.et=i++[Q]:=⟨s.et.dropLast,s.et.getLast aK,bQ<|ahm _⟩;let aL:Q∈s.et:=by rw[o];simp
  let aI:=m.ok.sc Q aL;let aJ:Q∉i:=by have:=m.ok.wn;rw[o] at this;exactλaF=>(vr.1 this).2.2 Q aF Q ao aa
  let bg:U f_=U s.mem:=by rw[<-r,Dh]
  let aM:=m.ok.count;let a_:nQ (tP P<|l Q) i:=by rw[o] at C;exact C.del aJ
  let R:=uy.atG m o;let aT:y7 (U I.b9) ⟨s.of,s.mem,i⟩+1=y7 (U I.b9) s:=by unfold y7;rw[o,cd,ri];dsimp;omega
  let bb:U i<=100000:=by have:=qj m.ok.wn (Q:=bM<|U I.b9) λJ B=>hM.2<|jZ (m.ok.sc J B) aM;rw[ij,o,cd] at this;omega
  let bt:U (ab l i)<=100000:=by rw[bm];exact bb
  let bq:U (ab l i++ab l [Q])=U (ab l i)+1:=by rw[cd];rfl
  obtain⟨e,H⟩:∃e,y f_ Q av=e:=⟨_,aa⟩;let x:e.l=y s.mem Q []:=by rw[<-H,<-y_ q,r]
  let bu:U e.l<=U I.b9:=by have:=qj (z:=e.l) (Q:=bM<|U I.b9) (by rw[x];exact m.ok.jw Q) λJ B=>hM.2 (by rw[x] at B;exact((m.ok.mem Q J).1 B).1);rwa [ij] at this
  let bd:0<U e.l:=yh.2 (by rw[x];exact m.ok.ne Q aI);let aR:(ab dK f_)[Q]?=W (dK e):=by rw[<-H];exact Lt q
  let aW:(e.id,cB.j e.aS 1 3<|ab l e.l)∈dw f_:=by rw[<-H];exact H7 q
  rw[<-x] at R;rw[o,dc];refine jG (U<|ab l i) ?_ (s:=q);refine cE (U<|ab l i) ?_ (k:=q);refine fl (l Q) ?_ (k:=ao);refine jG (U<|ab l i) ?_ (s:=q);refine zj 0 (U<|ab l i) 0 (U<|ab l i) ?_ (fh:=q);refine ab2 ?_ (mq:=C.ok);refine a1.XH 60 ?_ aa;refine dA ?_;refine cE Q ?_ (k:=bi);refine fl (dK e) ?_ (k:=aR);refine aq8 ?_ aW<|akO q bd;refine hU (.al 1<|ab l I.fst) ?_ (fi:=lv t _ _ _ 0);refine c8 (Z×eI×Y dE×Y (V×V×Z)×Z) (λd=>JM I [(7,b 7),(8,b 8),(9,eo (c1 250) [] [b 8,b 3,b 7]),(10,.al 1<|ab (tu I)<|bM<|U I.fst),(12,.al 1<|ab l e.l),(98,l<|U<|ab l I.fst),(99,l d.1)] [(22,.j 1 3<|d.2.1.of.map l),(57,.j 1 50<|ab dK d.2.2.1),(60,.j 1 3<|d.2.1.et.map l),(7,ah 50<|.a 60 0<|U<|d.2.1.et.map l),(8,ah 356<|.eA 61),(24,ah 323<|b2 [.a 22 0 (U I.b9),.a 57 0<|U<|ab dK d.2.2.1]),(61,iA d.2.2.2.1 d.2.2.2.2)] (dw d.2.2.1)) (λd=>d.1<=U I.fst/\GM I e.l d.1 d.2.1/\ed d.2.2.1=d.2.1.mem/\nQ d.2.2.2.1 d.2.1.et/\y7 (U I.b9) d.2.1+1=y7 (U I.b9) s) (λd=>U I.fst-d.1) (0,⟨s.of,s.mem,i⟩,f_,tP P<|l Q,ci) (λ⟨h,fh,A,O,D⟩ ⟨bf,n,F,G,be⟩=>?_) ⟨dJ _,R,r,a_,aT⟩;dsimp at bf n F G be⊢;apply f<;>intro S
  .try simp[bm] at S
   let au:h<U I.fst:=q;let aw:∀J∈rH I e.l h,J<U I.b9:=λJ E=>(LP.1 E).1;let ax:dT (rH I e.l h):=LQ n.jw;let aP:(ab (tu I)<|bM<|U I.fst)[h]?=W (tu I h):=by rw[db,zW au];rfl
   apply a1.eK 14 1 3 [14] ai;refine dA ?_;refine e9 (U e.l) (λc=>JM I [(7,b 7),(8,b 8),(9,eo (c1 250) [] [b 8,b 3,b 7]),(10,.al 1<|ab (tu I)<|bM<|U I.fst),(12,.al 1<|ab l e.l),(13,l h),(14,.a 14 0<|U<|ab l<|rH I (am c e.l) h),(98,l<|U<|ab l I.fst),(99,l h),(102,.al 1<|ab l e.l),(103,l<|U<|ab l e.l),(104,l c)] [(22,.j 1 3<|ab l fh.of),(57,.j 1 50<|ab dK A),(60,.j 1 3<|ab l fh.et),(14,.j 1 3<|ab l<|rH I (am c e.l) h),(7,ah 50<|.a 60 0<|U<|ab l fh.et),(8,ah 356<|.eA 61),(24,ah 323<|b2 [.a 22 0 (U I.b9),.a 57 0<|U<|ab dK A]),(61,iA O D)] (dw A)) λc k=>?_;apply f<;>intro X
   .try simp[bm] at X
    let u:c<U e.l:=q;let a2:y e.l c 0<U I.b9:=n.lt _<|dL u;let aQ:(ab ca<|G3 I h)[y e.l c 0]?=W (ca<|(bM<|U I.b9).filter λT=>aH<|k8 I T h=y e.l c 0):=by unfold G3;rw[db,db,zW a2];rfl
    let bn:U (rH I (am (c+1) e.l) h)<=U I.b9:=by have:=qj (z:=rH I (am (c+1) e.l) h) (Q:=bM<|U I.b9) (LQ<|n.jw.sublist<|ahA ..) λJ E=>hM.2 (LP.1 E).1;rwa [ij] at this
    refine bB c (l<|y e.l c 0) ?_ (k:=eE u);refine bB h (tu I h) ?_ (k:=aP);refine bB (y e.l c 0) (ca<|(bM<|U I.b9).filter λT=>aH<|k8 I T h=y e.l c 0) ?_ (k:=aQ);refine eB (ab l<|rH I (am (c+1) e.l) h) ?_ (gi:=.al aa aa aa aa λbw a7=>(by obtain⟨_,_,rfl⟩:=dI.1 a7;rfl)) (aU:=by rw[anG u,dc];rfl) (bl:=bi);refine aY ?_;exact a4 (c+1)
   try simp[bm] at X
   obtain rfl:c=U e.l:=q;rw[iJ];let a5:=afF n.ok ay aw ax F D G;apply xL 14;refine gG [(6002,24),(6000,8),(6001,3),(6003,7),(6004,22),(6006,61),(5001,57),(5002,60)] (λM=>dw M.1) [] (λ⟨aC,aB,aE⟩ ⟨v,w⟩=>?_) (g:=a5) (kN:=Nx) (kM:=λ_ _=>Nx);dsimp at v w⊢;refine aY ?_;exact a4 (h+1,r5 fh<|rH I e.l h,aC,aB,aE) ⟨q,n.next bN au,v,w,by rw[aw1 n.ok aw ax]<;>omega⟩ q
  try simp[bm] at S
  obtain rfl:h=U I.fst:=q;exact a4 (fh,A,O,D) ⟨n.fin,F,G⟩ bi
 try simp only[bm] at ar
 let a9:s.et=[]:=O6.1 q;exact amY amw f_ 57 [] aqo<|yW 22 (U I.b9) (show U (ab l s.of)=U I.b9 by rw[bm];exact m.ok.len)<|yW 57 (U<|ab dK f_) (show U (f_.map λT:dE=>V.al 1<|ab l T.l)=U (ab dK f_) by simp)<|QS (T:=b2 [.al 1 (ab l s.of),.al 1 (f_.map λT:dE=>V.al 1<|ab l T.l)]) 24 2 (by rw[show ab (λT:dE=>V.al 1<|ab l T.l) f_=ab ca s.mem by rw[<-r,ed,i_];rfl];exact ec s ⟨m,a9⟩)
abbrev jX(I:fu)(s:eI)(c b:Z):Y Z:=k5 (lE I s) [bR s 0] 0 c b
abbrev By(I:fu)(s:eI)(c b:Z):Z:=nt (lE I s) [bR s 0] 0 c b
abbrev mw(I:fu)(s:eI)(b:Z):Z:=hg (lE I s) [bR s 0] 0 b
def GV(I:fu)(s:eI)(b:Z):X:=y I.acc (kV s<|mw I s b) ae
def ae0(I:fu)(s:eI)(b:Z):Y Z:=hI (By I s b) 256 256
def tq(I:fu)(s:eI)(b:Z):Y V:=(bM b).map λc=>bE<|GV I s c
def uc(I:fu)(s:eI)(b:Z):Y V:=(bM b).map λc=>ca<|ae0 I s c
def aiz I s b:tq I s b++[bE (GV I s b)]=tq I s (b+1):=by simp[tq,sh,dc]
def avT I s b:uc I s b++[ca (ae0 I s b)]=uc I s (b+1):=by simp[uc,sh,dc]
theorem aiy I s b:U (tq I s b)=b:=by simp[tq,bm,ij]
theorem avS I s b:U (uc I s b)=b:=by simp[uc,bm,ij]
def aax:o6 (λ_=>dW) l:=o6.nat
def aay{c:Z->V}b:nZ (.int aj) (e6 l c b):=De λ_ _=>aa
section
variable{I:fu}(bN:I.ok){s:eI}(B:Ep I s)
include bN B
theorem arV{b:Z}(d:b<U (iH I s b))c:U (jX I s b c)<=U s.mem:=c9 (EA d c).length_le<|Iz bN B _
theorem arW{b:Z}(c:b<U (iH I s b)):mw I s b<U s.mem:=Th bN B b _<|dY<|yM c
theorem akj(h:s.et=[])(g:∀c<U I.b9,∃b,q6 (im (iY I)) 0 b=c):(mi (i3 (iY I))).next.length=U s.mem:=by let d:=Iz bN B<|U s.mem;let e:=B.ok.count;let f:=bN.If;grind[aaQ,iH,List.length_map,ash]
theorem aki(l:s.et=[]){D:Z}(g:D<=U (iH I s D))(d:U (iH I s D)<=D):ga (mi (i3 (iY I)))=b2 [an aj 0,.al 1 (tq I s D),.al 1 (uc I s D)]:=by
 have:=B.ok.count;have:=bN.If;have:=Iz bN B D;rw[aaQ bN B l d q];have k:=aeP (succ:=lE I s) (bP:=[bR s 0]) (I:=0) (m:=256) (D:=D) ao (af2 I s ·) g d;have e:U (iH I s D)=D:=q;have:∀cs<D,(iH I s D)[cs]?=W (mw I s cs):=by
  intro cs o;have h:cs<U (cz (lE I s) [bR s 0] cs):=by refine B7 λc=>?_;have f:iH I s D=iH I s cs:=tt (cs:=D) c q;rw[f] at e;have:U (cz (lE I s) [bR s 0] cs)=D:=e;omega
  exact zp (pQ q)<|yM (I:=0) h
 have i:iH I s D=ab (mw I s) (bM D):=by refine jn λcs=>?_;by_cases c:cs<D;simp_all;simp_all
 have:ab bE ((iH I s D).map λb=>hS (iY I)<|kV s b)=tq I s D:=by rw[i,i_,i_];rfl
 have:ab ca ((iH I s D).map λb=>ab (gX<|iH I s D)<|lE I s b)=uc I s D:=by show ab ca ((cz (lE I s) [bR s 0] D).map λn=>ab (gX<|cz (lE I s) [bR s 0] D)<|lE I s n)=_;rw[<-k,i_];rfl
 show V.agg [an aj 0,.al 1 (ab bE ((iH I s D).map λb=>hS (iY I)<|kV s b)),.al 1 (ab ca ((iH I s D).map λb=>ab (gX<|iH I s D)<|lE I s b))]=_;simp_all
end
def apX I(bN:I.ok)(fi:∀T<U I.b9,∃ap,q6 (im (iY I)) 0 ap=T):dF 157 [b 6000] [(6000,ah 260 (ni I))] (cv [ga (qD (i3 (iY I))).1,an aj (qD (i3 (iY I))).2]) [(6000,ah 260 (ni I))]:=by
 refine c4 func157 [2004,2007,2023] λaw p ar=>?_;have:=bN.If;have:=bN.sV;have w:=bN.cl;refine gG [(6000,6000)] (λ_=>[]) [] (λs ⟨n,am⟩=>?_) (g:=aiW bN) (kN:=gF _) (kM:=λ_ _=>gF _);have:=n.ok.count;have:=akj bN n am fi;apply f<;>intro D
 .try simp[bm] at D
  rw[show qD (i3 (iY I))=(uP,3) from af q];exact fQ 1 2 [1,2] (iE br)
 try simp[bm] at D
 have:U s.mem<=300:=q;have:=n.ok.len;have C:(ab l s.of)[0]?=W (l (bR s 0)):=eE q;have:qD (i3 (iY I))=(mi (i3 (iY I)),0):=ad q;refine dA ?_;refine bB 0 (l<|bR s 0) ?_ (k:=C);refine rV (e6 l (λi=>l<|id i)<|jX I s 0 0) 1 ?_ (mq:=R0) (hu:=ba);refine bB 0 (l<|bR s 0) ?_ (k:=C);refine n0 ?_;apply a1.eK 1500 1 4 [] (W (7,1));apply a1.eK 1501 1 50 [] (W (7,2));refine dA ?_;refine c8 Z (λc=>⟨[(0,b 6000),(2,b 2),(4,.ref 2 [b2 [.al 1 (ab l s.of),.al 1<|ab ca s.mem]] 0 0),(5,.eA 24),(6,.a 38 0<|U<|ab l<|jX I s c 0),(7,b 7),(8,l c)],[(38,.j 1 3<|ab l<|jX I s c 0),(1500,.j 1 4<|tq I s c),(1501,.j 1 50<|uc I s c),(2,ah 119<|b2 [an aj 0,.bo,.bo]),(7,ah 119<|b2 [an aj 0,.a 1500 0<|U<|tq I s c,.a 1501 0<|U<|uc I s c]),(6000,ah 260<|ni I),(24,iA (e6 l (λi=>l<|id i)<|jX I s c 0)<|U<|jX I s c 0)],[]⟩) (λc=>c<=U (iH I s c)) (300-·) 0 (λc k=>?_)<|dJ _;apply f<;>intro E
 .try simp[bm] at E
  have aX:jX I s c 0=iH I s c:=w7 c;have r:c<U (iH I s c):=by rw[<-aX];omega
  have:=Iz bN n c;have F:=arW bN n r;have t:=n.ok.IR F;have S:(ab l (jX I s c 0))[c]?=W (l (mw I s c)):=by rw[aX,db];show Option.map l (cz (lE I s) [bR s 0] c)[c]?=_;rw[yM (I:=0) r];rfl
  have Q:(ab ca s.mem)[mw I s c]?=W (ca (y s.mem (mw I s c) [])):=by rw[db,dX,cT F];rfl
  have M:(ab l (y s.mem (mw I s c) []))[0]?=W (l (kV s (mw I s c))):=eE t.2.2;have H:U (lE I s (hg (lE I s) [bR s 0] 0 c))=256:=af2 I s _;have R:(ab ca I.b9)[kV s (mw I s c)]?=W (ca (y I.b9 (kV s (mw I s c)) [])):=by rw[db,dX,cT t.1];rfl
  have N:(ab bE I.acc)[kV s (mw I s c)]?=W (bE (GV I s c)):=by unfold GV;rw[db,dX,cT (by rw[bN.ac]<;>omega)];rfl
  refine fA ?_;refine cE c ?_ (k:=bi);refine fl (l<|mw I s c) ?_ (k:=S);refine bB (mw I s c) (ca<|y s.mem (mw I s c) []) ?_ (k:=Q);refine bB 0 (l<|kV s<|mw I s c) ?_ (k:=M);refine kS 256 256 (ab l<|hI (By I s c) 256 0) ?_ (aU:=ba);refine e9 256 (λd=>⟨[(0,b 6000),(2,b 2),(4,.ref 2 [b2 [.al 1 (ab l s.of),.al 1<|ab ca s.mem]] 0 0),(5,.eA 24),(6,.a 38 0<|U<|ab l<|jX I s c d),(7,b 7),(8,l c),(9,l<|kV s<|mw I s c),(10,.a 57 0 256),(59,l 256),(60,l d)],[(38,.j 1 3<|ab l<|jX I s c d),(57,.j 1 3<|ab l<|hI (By I s c) 256 d),(1500,.j 1 4<|tq I s c),(1501,.j 1 50<|uc I s c),(2,ah 119<|b2 [an aj 0,.bo,.bo]),(7,ah 119<|b2 [an aj 0,.a 1500 0<|U<|tq I s c,.a 1501 0<|U<|uc I s c]),(6000,ah 260<|ni I),(24,iA (e6 l (λi=>l<|id i)<|jX I s c d)<|U<|jX I s c d)],[]⟩) λd au=>?_;apply f<;>intro av
  .have o:d<256:=q;obtain⟨m,x⟩:∃m,y I.vH d 0=m:=⟨_,aa⟩;have L:m<U I.fst:=by rw[<-x];exact bN.lt d o
   obtain⟨e,z⟩:∃e,k8 I (kV s (mw I s c)) m=e:=⟨_,aa⟩;have:e<U I.b9:=by rw[<-z];exact bN.Hi t.1 L
   have X:(ab l (y I.b9 (kV s (mw I s c)) []))[m]?=W (l e):=by rw[eE (by rw[bN.rw _ t.1]<;>omega),<-z];rfl
   have O:(ab l s.of)[e]?=W (l (bR s e)):=eE q;have P:(ni I).cells[d]?=W (l m):=by rw[<-x];exact alY w o _ _ _
   have J:y (lE I s (hg (lE I s) [bR s 0] 0 c)) d 0=bR s e:=by rw[axr o];show bR s (k8 I (kV s (mw I s c)) (y I.vH d 0))=_;rw[x,z]
   have:=arV bN n r<|d+1;refine fA ?_;refine hU (.al 1<|ab ca I.b9) ?_ (fi:=lv w _ _ _ 2);refine bB (kV s<|mw I s c) (ca<|y I.b9 (kV s<|mw I s c) []) ?_ (k:=R);refine kR d d ?_ (kp:=by show d=0+d*1;omega);refine hU (l m) ?_ (fi:=P);refine bB m (l e) ?_ (k:=X);refine bB e (l<|bR s e) ?_ (k:=O);refine sW (cv [l (mr id (jX I s c d)<|bR s e),aV<|v9 (jX I s c d)<|bR s e]) ?_ (aay _)<|H3 (G:=λ_=>dW) (u:=id) (fa:=jX I s c d) (T:=bR s e) aax b5 (λ_ _=>b5) aa;apply f<;>intro K
   focus
    have ak:bR s e∉jX I s c d:=λhm=>by grind[sT,cg]
    obtain⟨v,A⟩:=Nb (succ:=lE I s) (bP:=[bR s 0]) (I:=0) ao r (by rw[H];exact o) aq;rw[J] at v;have h:U (ab l (jX I s c d))=By I s c d:=by rw[bm];exact A
    rw[h];refine rV (e6 l (λi=>l<|id i)<|jX I s c<|d+1) (U<|jX I s c<|d+1) ?_ (mq:=aay _) (hu:=by rw[<-h,bm,show jX I s c (d+1)=jX I s c d++[bR s e] from v];exact Df (G:=λ_=>dW) (s6:=λi=>l<|id i) aax b5 (λ_ _=>b5) ak);refine cp ?_;refine eB (ab l<|jX I s c<|d+1) ?_ (hlen:=bQ h) (aU:=aq) (bl:=bi)
   rotate_left
   focus
    have Y:bR s e∈jX I s c d:=sT.1<|Gp.1 K;obtain⟨v,A⟩:=Nc (succ:=lE I s) (bP:=[bR s 0]) (I:=0) r (by rw[H];exact o) aq;have h:mr id (jX I s c d) (bR s e)=By I s c d:=by rw[Fc Y,<-J];exact A
    rw[h,<-show jX I s c (d+1)=jX I s c d from v]
   all_goals refine cE d ?_ (k:=o);refine fF (ab l<|hI (By I s c) 256<|d+1) (l 0) (l<|By I s c d) ?_ (k:=Pq) (aU:=VG);refine aY ?_;exact a4<|d+1
  obtain rfl:d=256:=q;rw[show jX I s c 256=jX I s (c+1) 0 by simp_all[jX,KS,bv,w7]];apply a1.AZ 57 256 (show U (ab l (hI (By I s c) 256 256))=256 by rfl);refine dA ?_;refine cp ?_ (hlen:=λB h=>by rw[eu.1 h];rfl);refine eB (uc I s<|c+1) ?_ (gi:=.al aa aa aa aa λB h=>(by rw[eu.1 h];rfl)) (aU:=avT I s c) (bl:=by grind[avS]);refine ei ?_;apply bw λ_=>hU (.al 1<|ab bE I.acc) aa (fi:=lv w _ _ _ 1);apply bw λ_=>bB (kV s<|mw I s c) (bE<|GV I s c) aa (k:=N);apply bw λ_=>kr aa (hlen:=λB h=>by rw[eu.1 h];rfl);refine jY 122 (tq I s<|c+1) ?_ (gi:=.al aa aa aa aa λB h=>(by rw[eu.1 h];rfl)) (aU:=aiz I s c) (bl:=by grind[aiy]);refine fo ?_;apply jz [(122,1500)];refine aY ?_;exact a4 (c+1) (c9 (ahV r) (pQ<|B6 c).length_le)
 try simp[bm] at E
 have aX:jX I s c 0=iH I s c:=w7 c;have:U (iH I s c)<=c:=by rw[<-aX];omega
 rw[show V.tuple [ga (qD (i3 (iY I))).1,an aj (qD (i3 (iY I))).2]=cv [b2 [an aj 0,.al 1 (tq I s c),.al 1 (uc I s c)],an aj 0] by grind[aki]];exact gq 1500<|gq 1501<|iE br
def ajQ:∀b,e1 b->Kp b:=aW.ind λb h he m i l e k g f=>
 ajR he (λd c=>h d c<|(p8.1 he).2 d c) e k g f
theorem af7:∀(b:Y (Y Z)) c d,(ab U (aR b c (y b c []++[d]))).sum<=(ab U b).sum+1
|[],_,_=>B6 _|e::b,0,d=>by(simp;omega)|e::b,c+1,d=>by
 have:=af7 b c d
 (simp_all;omega)
theorem zh(b:bx)c d:(b.dD c d).de<=b.de+1:=by grind[bx.de,bx.dD,af7,List.length_set]
theorem aqQ(b:bx)c d J:(b.wh c d J).de<=b.de+2:=by(simp[bx.de,bx.wh,cd,ri];omega)
def yt(e:bx->Z->bx×Z)(c:Z):Prop:=∀b d,(e b d).1.de<=b.de+c
def yt.it{d:bx->Z->bx×Z}{e:Z}(s:yt d e):∀B b c,(h8 d B b c).1.de<=b.de+B*e|0,b,c=>z2 _ _|B+1,b,c=>by rw[h8];let f:=yt.it s B (d b c).1 (d b c).2;let g:=s b c;grind
def yt.op{d:bx->Z->bx×Z}{e:Z}(s:yt d e):∀B b c,(eM d B b c).1.de<=b.de+B*(e+3)
|0,b,c=>z2 _ _|B+1,b,c=>by
 rw[eM];let i:=yt.op s B (xM d b c)<|U b.aF;let k:(xM d b c).de<=b.de+(e+3):=by apply c9<|zh _ _ _;let f:=s (b.bX.dD c<|U b.aF) c;let g:=zh b.bX c<|U b.aF;let h:=Bl b;omega
 grind
theorem yt.gU{e:bx->Z->bx×Z}{g:Z}(s:yt e g)b f(t:0<=b)(u:f=-1\/b<=f)c d:(qc e b f c d).1.de<=c.de+(if f=-1 then aG (b+1) else aG f)*(g+3)+3:=by
 let p:=s.it (aG b) c d;unfold qc;by_cases h:f=-1;rw[af h,af h];apply c9<|zh _ _ _;let k:=s (lC (h8 e (aG b) c d).1 (h8 e (aG b) c d).2) (h8 e (aG b) c d).1.aF.length;let l:(lC (h8 e (aG b) c d).1 (h8 e (aG b) c d).2).de<=(h8 e (aG b) c d).1.de+4:=by apply c9<|zh _ _ _;let m:=zh (h8 e (aG b) c d).1.bX.bX (h8 e (aG b) c d).2 (h8 e (aG b) c d).1.aF.length;let n:=Bl (h8 e (aG b) c d).1.bX;let o:=Bl (h8 e (aG b) c d).1;omega
 let i:aG (b+1)=aG b+1:=q;grind[Nat.succ_mul,Nat.mul_le_mul_left];let r:=s.op (aG<|f-b) (h8 e (aG b) c d).1 (h8 e (aG b) c d).2;let i:aG f=aG b+aG (f-b):=q;grind[Nat.add_mul,Nat.mul_le_mul_left]
def Kw(c:aW):Prop:=∀b,1<=b->dB c<=b->b<=2000->∀d e,(gV c d e).1.de+2<=d.de+10*(c.parts*b)
def ak5{b:Y aW}{c:aW}(s:c∈b):dB c<=eO b:=by
 induction b
 trivial
 next d b e=>rw[eO];grind
def abO{d:Z}(h:1<=d)(i:d<=2000):∀e,(∀g∈e,Kw g/\dB g<=d)->∀b c,(lN e b c).1.de<=b.de+10*(fy e*d)|[],_,b,c=>by simp[lN,z2]|f::e,s,b,c=>by rw[lN,fy];let l:=abO h i e (λg k=>s g<|mB _ k) (gV f b c).1 (gV f b c).2;let m:=(s f<|ki ..).1 d h (s f<|ki ..).2 i b c;grind
def abP{d:Z}(i:1<=d)(k:d<=2000):∀e,(∀h∈e,Kw h/\dB h<=d)->∀c b f,(mg e c b f).de<=c.de+10*(fy e*d)|[],_,c,b,f=>by simp[mg,z2]|g::e,s,c,b,f=>by rw[mg,fy];let m:=abP i k e (λh l=>s h<|mB _ l) ((gV g c b).1.dD (gV g c b).2 f) b f;let n:=(s g<|ki ..).1 d i (s g<|ki ..).2 k c b;grind[zh,gV,Nat.add_mul,Nat.mul_add]
def aqP:∀c,e1 c->Kw c:=aW.ind λc v he h o O p e g=>by
 let⟨⟨⟨T,X⟩,Y,J,_⟩,r⟩:=p8.1 he;let E:10*(c.parts*h)=10*h+10*(fy c.a3*h):=by rw[c.parts_eq,hZ,wO,B8]
 rw[E];by_cases l:dB c=0;grind[W2,ou,Bl,zh];rw[W3 l];let f:=xc c;unfold ov at f;by_cases w:c.c0=3;grind[Bl,zh,aqQ,kf];rw[ad w] at f⊢;by_cases k:c.c0=6;rw[ad q,ad q,af k];rw[af k] at f;let⟨y,z,N,A⟩:=J k;let⟨b,i⟩:=JY.1 y;let u:b∈c.a3:=by rw[i];exact ki ..
 let I:=v b u<|r b u;rw[i] at f⊢;let C:eO [b]=dB b:=by rw[eO,eO];rfl
 let F:fy [b]=b.parts:=by rw[fy,fy];rfl
 rw[C] at f;rw[F];obtain⟨d,t⟩:∃d,(if c.max=-1 then aG (c.min+1) else aG c.max)=d:=⟨_,aa⟩;rw[t] at f;let Q:dB c=dB b*d:=by have:nK (dB b*d) 2001=min (dB b*d) 2001:=aa;rw[this] at f;omega
 let m:1<=dB b:=Vy λB=>l aq;let G:1<=d:=Vy λB=>l aq;let P:dB b<=dB b*d:=J5 _ G;let R:d<=dB b*d:=Nat.le_mul_of_pos_left _ m;let S:10*(b.parts*dB b)>=2:=by have:=B9 b.adm m;omega
 let D:yt (gV b) (10*(b.parts*dB b)-2):=λe g=>by have:=I (dB b) m (bv _) q e g;omega
 let H:=D.gU c.min c.max z (A.imp id And.left) e g;rw[t] at H;show(qc (gV b) c.min c.max e g).1.de+2<=_;let L:d*(10*(b.parts*dB b)-2+3)=10*(b.parts*(dB b*d))+d:=by rw[show 10*(b.parts*dB b)-2+3=10*(b.parts*dB b)+1 by omega,B8,z4];congr 1;rw[ahQ,l6 d,qq]
 let M:b.parts*(dB b*d)<=b.parts*h:=Gz _ q;omega;rw[ad k] at f;let dM:eO c.a3<=h:=by have:nK (eO c.a3) 2001=min (eO c.a3) 2001:=aa;rw[this] at f;omega
 let s:∀b∈c.a3,Kw b/\dB b<=h:=λb i=>⟨v b i<|r b i,c9 (ak5 i) dM⟩;by_cases n:c.c0=4;rw[af n];have:=abO o p c.a3 s e g;omega;rw[ad n];by_cases x:c.c0=5;rw[af x];show(mg c.a3 e.bX g (U e.aF)).de+2<=_;let K:=Bl e;have:=abP o p c.a3 s e.bX g<|U e.aF;omega;grind[Bl,zh]
def G_(c:Y Z)(b:Z):Y C:=[gn (y c b 0),gn<|y c b 0/256]
def qI(b:bY)(c d:Z):Y C:=(am d b.next).flatMap λe=>G_ e c
def Qu{b:bY}{d c:Z}:c<U b.next->qI b d (c+1)=qI b d c++G_ (y b.next c []) d:=by unfold qI;grind[rc]
def ak7 f c d:U (qI f c d)<=2*d:=by
 unfold qI;have:∀b:Y _,U (b.flatMap λe=>G_ e c)=2*U b:=by
  intro b
  induction b
  rfl
  next e b g=>rw[wJ,cd,g,l5];show 2+_=_;omega
 grind
def agy(b:Z):IntKind.u8.wrap b=ax (gn b):=by rfl
def ak8(b:bY)(d:Z)(m:hD b)(w:d<256):bh 342 [ga b,l d] (a8 (qI b d (U b.next))):=by
 refine bs func342 [] λp v=>?_;let r:=m.len;let A:U (ab ca b.next)<=100000:=by rw[bm];exact r
 refine Ih ?_;refine kS 0 (2*U b.next) [] ?_ (lR:=ao);refine e9 (U b.next) (λc=>⟨[(1,l d),(5,.a 12 0<|U<|ab bF<|qI b d c),(14,.al 1<|ab ca b.next),(15,l<|U<|ab ca b.next),(16,l c)],[(12,.j 1 5<|ab bF<|qI b d c),(2,ah 119<|ga b)],[]⟩) λc k=>?_;apply f<;>intro x
 .let h:c<U b.next:=q;let o:(ab ca b.next)[c]?=W (ca<|y b.next c []):=by rw[db,dX,cT h];rfl
  refine bB c (ca<|y b.next c []) ?_ (k:=o);obtain⟨e,n⟩:∃e,y (y b.next c []) d 0=e:=⟨_,aa⟩;let i:(ab l<|y b.next c [])[d]?=W (l e):=by rw[eE (by rw[m.j c h]<;>omega),n]
  let t:qI b d (c+1)=qI b d c++[gn e,gn<|e/256]:=by rw[Qu h,G_,n]
  let z:=ak7 b d<|c+1;refine ei ?_;refine bw (λ_=>bB d (l e) aa (k:=i)) ?_;refine bw (λ_=>wa (ax (gn e):Z) aa (bu:=agy e))<|bw (λ_=>bB d (l e) aa (k:=i)) ?_;refine bw (λ_=>qX ((e/256:Z):L) aa (s:=(by show(e:L).fdiv 256=_;grind)))<|bw (λ_=>wa (ax (gn<|e/256):Z) aa (bu:=agy<|e/256))<|bw (λ_=>kr aa (hlen:=λu g=>by simp at g;rcases g with rfl|rfl<;>rfl))<|jY 33 (ab bF (qI b d (c+1))) (gi:=.al aa aa aa aa λu g=>(by simp at g;rcases g with rfl|rfl<;>rfl)) (aU:=by rw[t,dc];rfl) (bl:=bi)<|jz [(33,12)]<|aY<|a4<|c+1
 obtain rfl:c=U b.next:=q;exact rU (qI b d<|U b.next) (hlen:=ao) (aM:=aK)<|aL
def EQ(b:Z×Z):V:=b2 [l b.1,l b.2]
def app(c:bY)(d:Z)(f:hD c)(e:d<256):dF 341 [l d,b 6000] [(6000,ah 119 (ga c))] (a8 (qI c d (U c.next))) [(6000,ah 119 (ga c))]:=by refine c4 func341 [] λi p h=>?_;refine aT ?_ (g:=ak8 c d f e);exact cJ
def aiv(c:bY)(d m:Z)(e:hD c)(h:d<U c.next):dF 343 [EQ (d,m),b 6000] [(6000,ah 119 (ga c))] (aV (y c.acc d ae)) [(6000,ah 119 (ga c))]:=by
 refine c4 func343 [] λi p f=>?_;let g:(ab bE c.acc)[d]?=W (bE<|y c.acc d ae):=by rw[db,dX,cT (by rw[e.acc]<;>omega)];rfl
 refine kR 0 0 ?_;refine bB d _ ?_;exact cJ
def abY{B:aN->Prop}{l g:aw}{b f:cH}{G:Z}{k:Array (Z×aP)}{e:Y (Z×V)}{K8:Y V}(x:B (J.put M.dst (b2 K8)))(y:M.op=.build l k:=by rfl)(E:K.find l=W b:=by rfl)(bN:b.d=.array G g:=by rfl)(D:b.O=ae:=by rfl)(w:K.find g=W f:=by rfl)(C:sZ i J.c k.toList=W e:=by rfl)(A:xS (ab (·.2) e):=by rfl)(v:rB (λF=>W (F*f.size,f.size)) (V.zero b.z).cells e=W K8:=by rfl)(h:(V.agg K8).plain:=by rfl):gg P K p i m ops M J B:=by obtain⟨L,o,H⟩:=aq7 (t:=ag) aa y E bN D w C A v h;exact gg.pure h (λu r s n=>by let I:=di.full (O:=J.aB n)<|o u r s n _ aq;grind[V.gc]) x
def axm(c:bY)(d m e:Z)(i:hD c)(g:d<U c.next)(r:e<256):dF 345 [EQ (d,m),l e,b 6000] [(6000,ah 119 (ga c))] (EQ (y (y c.next d []) e 0,0)) [(6000,ah 119 (ga c))]:=by refine c4 func345 [] λs p o=>?_;let h:=eE (by rw[i.j d g]<;>omega);obtain⟨f,n⟩:∃f,y (y c.next d []) e 0=f:=⟨_,aa⟩;rw[n] at h⊢;refine mv _ ?_;refine kR 0 0 ?_;refine bB d (ca<|y c.next d []) ?_ (k:=(by rw[db,dX,cT g];rfl));refine bB e _ ?_;exact abY (K8:=[l f,l 0])<|iE br
section
attribute [local semireducible] gH gA
def iv(b:bY)(c:Z):Y C:=qI b c<|U b.next
def fE(b:bY):Y Z:=gH (iv b) 256
def xb(b:bY):Y Z:=ab (kH<|iv b)<|bM 256
def akJ(d:bY)(w:hD d):dF 153 [b 6000,eo (c1 341) [] [b 6001]] [(6000,ah 260 (g_ (cM 256 0) .bo .bo .bo)),(6001,ah 119 (ga d))] (cv []) [(6000,ah 260 (g_ (xb d) (.al 1 (ab l (fE d))) .bo .bo)),(6001,ah 119 (ga d))]:=by
 refine c4 func153 [2001] λB p x=>?_;refine a1.Av 1400 1 3 6000 0 ?_;refine dA ?_;rw[show cM 256 0=hI (kH (iv d)) 256 0 from bQ<|avu _ _];refine e9 256 (λc=>⟨[(0,b 6000),(1,eo (c1 341) [] [b 6001]),(4,.eA 9),(10,l c)],[(1400,.j 1 3<|ab l<|gH (iv d) c),(6000,ah 260<|g_ (hI (kH<|iv d) 256 c) (.a 1400 0<|U<|ab l<|gH (iv d) c) .bo .bo),(6001,ah 119<|ga d),(9,iA (e6 Fh (λi=>l<|id i)<|gA (iv d) c)<|U<|gA (iv d) c)],[]⟩) λc y=>?_;apply f<;>intro z
 .let e:c<256:=q;let h:=N3 (kH<|iv d) 256 c;let A:=E3 (iv d) c;refine bG [(6000,6001)] ?_ (g:=app d c w e);refine sW (cv [l (mr id (gA (iv d) c)<|iv d c),aV<|v9 (gA (iv d) c)<|iv d c]) ?_ (Ms _)<|H3 (G:=λ_=>dW) (u:=id) (fa:=gA (iv d) c) (T:=iv d c) Mr b5 (λ_ _=>b5) aa;apply f<;>intro k
  focus
   let v:iv d c∉gA (iv d) c:=λs=>by rw[sT.2 s] at k;exact cg k ao
   let⟨n,o,r⟩:=Xo (iv d) e v;let m:U (ab l<|gH (iv d) c)=kH (iv d) c:=by rw[bm,n]
   refine hU (.a 1400 0<|U<|ab l<|gH (iv d) c) ?_ (fi:=lv h _ _ _ 0);refine rV (e6 Fh (λi=>l<|id i)<|gA (iv d)<|c+1) (U<|gA (iv d)<|c+1) ?_ (mq:=Ms _) (hu:=by rw[r,bm,<-HZ];exact Df (G:=λ_=>dW) (s6:=λi=>l<|id i) Mr b5 (λ_ _=>b5) v);refine hU (.a 1400 0<|U<|ab l<|gH (iv d) c) ?_ (fi:=lv h _ _ _ 0);refine cp ?_;refine eB (ab l<|gH (iv d)<|c+1) ?_ (aU:=by rw[o,dc];rfl) (bl:=by rw[bm];have:=E3 (iv d)<|c+1;omega);refine sX (g_ (hI (kH<|iv d) 256 c) (.a 1400 0<|U<|ab l<|gH (iv d)<|c+1) .bo .bo) ?_ (k9:=by show 256<(g_ _ _ _ _).cells.length;rw[XJ h];omega) (aU:=AC h _ _ _ _ 0)
  rotate_left
  focus
   let t:iv d c∈gA (iv d) c:=sT.1<|Gp.1 k;let⟨n,o,r⟩:=Xp (iv d) e t;let m:mr id (gA (iv d) c) (iv d c)=kH (iv d) c:=by rw[Fc t];exact n
   rw[m,<-o,<-r]
  all_goals refine kR c c ?_ (kp:=by show c=0+c*1;omega);refine sX (g_ (hI (kH<|iv d) 256<|c+1) (.a 1400 0<|U<|ab l<|gH (iv d)<|c+1) .bo .bo) ?_ (k9:=by show c<(g_ _ _ _ _).cells.length;rw[XJ h];omega) (aU:=by first|(rw[m,<-I3 _ e];exact Hd h e _ _ _)|(rw[<-I3 _ e];exact Hd h e _ _ _));refine aY ?_;exact a4<|c+1
 obtain rfl:c=256:=q;rw[N2];exact gq 1400 cJ
end
def jB(b:bY)(d:Z):Y Z:=(fE b).map λc=>y (y b.next d []) c 0
abbrev hH(b:bY)(d c:Z):Y Z:=k5 (jB b) [b.start] 0 d c
abbrev pr(b:bY)(d c:Z):Z:=nt (jB b) [b.start] 0 d c
abbrev tR(b:bY)(c:Z):Z:=hg (jB b) [b.start] 0 c
def T9(b:bY){c:Z}:U (jB b c)=U (fE b):=by simp[jB,bm]
def avU{b:bY}{d c:Z}(e:c<U (fE b)):y (jB b d) c 0=y (y b.next d []) (y (fE b) c 0) 0:=by grind[jB,List.getElem?_eq_getElem,fE]
def ms(b:Z):V:=EQ (b,0)
def UA:vv bL 423 aj 2:=⟨3,2,16,8,8,⟨ao,cb⟩,⟨ao,cb⟩,⟨cb⟩⟩
def aal:Ci (λ_=>dW) ms:=λb c _ _=>by
 show aH ([(b:L),0]=[(c:L),0])=aH _
 (simp;omega)
def Mo(b:Z):sx aj 2 (ms b):=⟨[b,0],aa,bj aa⟩
def aam{c:Z->V}{b:Y Z}:v3 aj 2 (e6 ms c b):=aaj λd _=>Mo d
def nR(b:bY)(c:Z):Y V:=(bM c).map λd=>bE<|y b.acc (tR b d) ae
def F2(b:bY)(c:Z):Y Z:=hI (pr b c) (U<|fE b)<|U<|fE b
def m2(b:bY)(c:Z):Y V:=(bM c).map λd=>ca<|F2 b d
def aix(b:bY)(c:Z):nR b c++[bE (y b.acc (tR b c) ae)]=nR b (c+1):=by simp[nR,sh,dc]
def avR(b:bY)(c:Z):m2 b c++[ca (F2 b c)]=m2 b (c+1):=by simp[m2,sh,dc]
theorem aiw(c:bY)(b:Z):U (nR c b)=b:=by simp[nR,bm,ij]
theorem ae4(c:bY)(b:Z):U (m2 c b)=b:=by simp[m2,bm,ij]
def Q9{c:bY}{b:Z}(s:b∈fE c):b<256:=by exact HE _ 256 b s
def Ze(b:bY):U (fE b)<=256:=E3 _ 256
def acx{b:bY}(e:hD b)(f:Z):∀d∈cz (jB b) [b.start] f,d<U b.next:=uF (λd c=>by rw[eu.1 c];exact e.start) (λd c k h=>by obtain⟨i,g,rfl⟩:=dI.1 h;exact e.dst _ _ c<|Q9 g) f
def Iv{b:bY}(d:hD b)(c:Z):U (cz (jB b) [b.start] c)<=U b.next:=tM (Cz ao c)<|acx d c
def am6(c:bY)(s:hD c)(Y:U c.next<=300):dF 344 [b 6000,ms c.start,eo (c1 343) [] [b 6001],eo (c1 345) [] [b 6001]] [(6000,ah 260 (g_ (xb c) (.al 1 (ab l (fE c))) .bo .bo)),(6001,ah 119 (ga c))] (cv []) [(6000,ah 260 (g_ (xb c) (.al 1 (ab l (fE c))) (.al 1 (nR c (U (cz (jB c) [c.start] 300)))) (.al 1 (m2 c (U (cz (jB c) [c.start] 300)))))),(6001,ah 119 (ga c))]:=by
 refine c4 func344 [2003,2019] λav p x=>?_;have H:=x.vY;have Q:=x.bu;have o:U (xb c)=256:=by rw[xb,bm,ij]
 have A:U (ab l (fE c))=U (fE c):=bm ..;have au:=Ze c;refine SR (e6 ms (λh=>l<|id h)<|hH c 0 0) 1 ?_ UA (Mo _) (λT S=>cg S kB) (show Bn [] 0 (ms c.start) (l 0)=(e6 ms (λh=>l<|id h) (hH c 0 0),1) from aa);refine n0 ?_;refine a1.Av 1601 1 4 6000 1 ?_;refine a1.Av 1602 1 50 6000 2 ?_;refine dA ?_;refine c8 Z (λd=>⟨[(0,b 6000),(2,eo (c1 343) [] [b 6001]),(3,eo (c1 345) [] [b 6001]),(8,.eA 18),(9,.a 22 0<|U<|ab ms<|hH c d 0),(10,l d)],[(22,.j 2 423<|ab ms<|hH c d 0),(1601,.j 1 4<|nR c d),(1602,.j 1 50<|m2 c d),(6000,ah 260<|g_ (xb c) (.al 1<|ab l<|fE c) (.a 1601 0<|U<|nR c d)<|.a 1602 0<|U<|m2 c d),(6001,ah 119<|ga c),(18,iA (e6 ms (λh=>l<|id h)<|hH c d 0)<|U<|hH c d 0)],[]⟩) (λd=>d<=U (cz (jB c) [c.start] d)) (λd=>300-d) 0 (λd k=>?_)<|dJ _;apply f<;>intro z
 .try simp only[bm] at z
  have aX:hH c d 0=cz (jB c) [c.start] d:=w7 d;have r:d<U (cz (jB c) [c.start] d):=by rw[<-aX];omega
  have K:=Iv s d;have L:=Iv s<|d+1;have B:tR c d<U c.next:=acx s d _<|dY<|yM (I:=0) r;have O:(ab ms (hH c d 0))[d]?=W (ms (tR c d)):=by rw[aX,db,yM (I:=0) r];rfl
  have C:U (jB c (hg (jB c) [c.start] 0 d))=U (fE c):=T9 c;refine cE d ?_ (k:=bi);refine fl (ms<|tR c d) ?_ (k:=O);refine mv (EQ (0,0)) ?_;refine hU (.al 1<|ab l<|fE c) ?_ (fi:=lv o _ _ _ 0);refine kS (U<|fE c) (U<|fE c) (ab l<|hI (pr c d) (U<|fE c) 0) ?_ (k:=ea nb A) (lR:=ea nb A) (aU:=VE);refine hU (.al 1<|ab l<|fE c) ?_ (fi:=lv o _ _ _ 0);refine e9 (U<|fE c) (λe=>⟨[(0,b 6000),(2,eo (c1 343) [] [b 6001]),(3,eo (c1 345) [] [b 6001]),(8,.eA 18),(9,.a 22 0<|U<|ab ms<|hH c d e),(10,l d),(11,b 11),(12,.a 38 0<|U<|fE c),(42,.al 1<|ab l<|fE c),(43,l<|U<|ab l<|fE c),(44,l e)],[(22,.j 2 423<|ab ms<|hH c d e),(1601,.j 1 4<|nR c d),(1602,.j 1 50<|m2 c d),(38,.j 1 3<|ab l<|hI (pr c d) (U<|fE c) e),(6000,ah 260<|g_ (xb c) (.al 1<|ab l<|fE c) (.a 1601 0<|U<|nR c d)<|.a 1602 0<|U<|m2 c d),(6001,ah 119<|ga c),(11,ah 423<|ms<|tR c d),(18,iA (e6 ms (λh=>l<|id h)<|hH c d e)<|U<|hH c d e)],[]⟩) λe am=>?_;apply f<;>intro ap
  .have n:e<U (fE c):=q;have ak:U (hH c d (e+1))<=U c.next:=c9 (EA (I:=0) r<|e+1).length_le L;obtain⟨m,v⟩:∃m,y (fE c) e 0=m:=⟨_,aa⟩;have J:m<256:=by rw[<-v];exact Q9<|dL n
   have N:(ab l (fE c))[e]?=W (l m):=by rw[eE n,v]
   obtain⟨T,F⟩:∃T,y (y c.next (tR c d) []) m 0=T:=⟨_,aa⟩;have D:=axm c (tR c d) 0 m s B J;rw[F] at D;have E:y (jB c (hg (jB c) [c.start] 0 d)) e 0=T:=by rw[avU n,v];exact F
   refine bB e (l m) ?_ (k:=N);refine bG [(6000,6001)] ?_ (g:=D);refine mv (EQ (0,0)) ?_;refine ab3 (cv [l (mr id (hH c d e) T),aV<|v9 (hH c d e) T]) ?_ UA (Mo _) aam (fi:=aa7 (G:=λ_=>dW) (u:=id) (T:=T) aal b5 (λ_ _=>b5) aa);apply f<;>intro M
   focus
    have R:T∉hH c d e:=λhm=>by grind[sT,cg]
    obtain⟨t,w⟩:=Nb (succ:=jB c) (bP:=[c.start]) (I:=0) ao r (by rw[C];exact n) aq;rw[E] at t;have i:U (ab ms (hH c d e))=pr c d e:=by rw[bm];exact w
    rw[i];refine SR (e6 ms (λh=>l<|id h)<|hH c d<|e+1) (U<|hH c d<|e+1) ?_ UA (Mo T) aam (show Bn (e6 ms (λh=>l<|id h) (hH c d e)) (U (hH c d e)) (ms T) (l (pr c d e))=(e6 ms (λh=>l<|id h) (hH c d<|e+1),U (hH c d<|e+1)) by rw[<-i,bm,show hH c d (e+1)=hH c d e++[T] from t];exact aak (G:=λ_=>dW) (s6:=λh=>l<|id h) aal b5 (λ_ _=>b5) R);refine cp ?_ (hlen:=λI bN=>by rw[eu.1 bN];rfl);refine eB (ab ms<|hH c d<|e+1) ?_ (hlen:=bQ i) (aX:=ba) (gi:=.al aa aa aa aa λI bN=>by rw[eu.1 bN];rfl) (aU:=by rw[show hH c d (e+1)=hH c d e++[T] from t,dc];rfl) (bl:=bi)
   rotate_left
   focus
    have P:T∈hH c d e:=sT.1<|Gp.1 M;obtain⟨t,w⟩:=Nc (succ:=jB c) (bP:=[c.start]) (I:=0) r (by rw[C];exact n) aq;have i:mr id (hH c d e) T=pr c d e:=by rw[Fc P,<-E];exact w
    rw[i,<-show hH c d (e+1)=hH c d e from t]
   all_goals refine cE e ?_ (k:=n);refine fF (ab l<|hI (pr c d) (U<|fE c)<|e+1) (l 0) (l<|pr c d e) ?_ (k:=Pq) (aU:=VG);refine aY ?_;exact a4<|e+1
  obtain rfl:e=U (fE c):=q;rw[show hH c d (U (fE c))=hH c (d+1) 0 by simp_all[hH,KS,bv,w7]];refine a1.AZ 38 (U<|fE c) (show U (ab l (hI (pr c d) (U (fE c)) (U (fE c))))=U (fE c) by rw[bm,N3]) ?_;refine dA ?_;refine hU (.a 1602 0<|U<|m2 c d) ?_ (fi:=lv o _ _ _ 2);refine cp ?_ (hlen:=λX i=>by rw[eu.1 i];rfl);refine eB (m2 c<|d+1) ?_ (gi:=.al aa aa aa aa λX i=>(by rw[eu.1 i];rfl)) (aU:=avR c d) (bl:=by grind[ae4]);refine sX (g_ (xb c) (.al 1<|ab l<|fE c) (.a 1601 0<|U<|nR c d)<|.a 1602 0<|U<|m2 c<|d+1) ?_ (k9:=z_) (aU:=AC o _ _ _ _ 2);refine a1.Ln [7] gm br H h7 Q aa ba ?_;refine bw (λ_=>hU (.a 1601 0<|U<|nR c d) aa (fi:=lv o _ _ _ 1)) ?_;refine JK [(6000,6001)] [] [(6000,ah 119<|ga c)] [] [] ?_<|aiv c (tR c d) 0 s B;refine bw (λ_=>kr aa) ?_;refine jY 94 (nR c<|d+1) ?_ (aU:=aix c d) (bl:=by grind[aiw]);refine zM (g_ (xb c) (.al 1<|ab l<|fE c) (.a 94 0<|U<|nR c<|d+1)<|.a 1602 0<|U<|m2 c<|d+1) ?_ (k9:=z_) (aU:=AC o _ _ _ _ 1);refine jz [(94,1601)] ?_;refine aY ?_;exact a4 (d+1) (c9 (ahV r) (pQ<|B6 d).length_le)
 try simp only[bm] at z
 have aX:hH c d 0=cz (jB c) [c.start] d:=w7 d;have ar:U (cz (jB c) [c.start] d)<=d:=by rw[<-aX];omega
 have K:=Iv s d;rw[show U (cz (jB c) [c.start] 300)=d by grind[cz,jB,tt]];exact gq 1601<|gq 1602 cJ
def hi(b:bY):Z:=U<|cz (jB b) [b.start] 300
def DE(b:bY):V:=g_ (xb b) (.al 1<|ab l<|fE b) (.al 1<|nR b<|hi b)<|.al 1<|m2 b<|hi b
def at0(c:bY)(d:hD c)(e:U c.next<=300):dF 302 [ga c] [] (b 6) [(6,ah 260 (DE c))]:=by refine c4 func302 [2002] λh p f=>?_;refine a1.aep 6 (g_ (cM 256 0) .bo .bo .bo) ?_;refine dA ?_;refine bG [(6000,6),(6001,1)] ?_ (g:=akJ c d);refine abY<|bG [(6000,6),(6001,1)] ?_ (g:=am6 c d e);exact cJ
def Xw{b:bY}{e f:Z}(n:∀d<U b.next,∀o,y (y b.next d []) o 0<65536):∀c,c<=U b.next->qI b e c=qI b f c->∀d<c,y (y b.next d []) e 0=y (y b.next d []) f 0|0,_,_,_,i=>cg i q|c+1,k,s,d,i=>by let h:=k;rw[Qu h,Qu h] at s;let⟨l,m⟩:=U5 s aa;rcases hN d c with g|g;exact Xw n c q l d g;unfold G_ at m;grind[UInt8.toNat_ofNat']
def anY{c:Y Z}{b:Z}(s:b<U c):c[b]=y c b 0:=aq
def hD.an0{b:bY}(f:hD b){d:Z}(e:d<U b.next)(g:Z):y (y b.next d []) g 0<U b.next:=by rcases hN g 256 with c|c;exact f.dst _ _ e c;rw[dX,zV (by rw[f.j d e];exact c)]<;>grind
theorem T_{b:bY}(e:hD b)(m:U b.next<=300):∀c,cz (jB b) [b.start] c=c3 b c
|0=>aa|c+1=>by
 let i:=T_ e m c;cases g:(c3 b c)[c]? with
 |none=>grind[c3,List.getElem?_eq_none_iff,KT,ey]|some d=>
  let h:=qV e c d aK;let k:ey b d=(bM 256).map λf=>y (y b.next d []) f 0:=by unfold ey;refine rg (by rw[e.j d h,bm,ij]) λr l p=>?_;rw[List.getElem_map,List.getElem_range];exact anY l
  rw[yG (by rw[i];exact g),i,show c3 b _=iZ _ _ from yG g,k];exact bQ<|QD _ (λf o s=>Xw (λt n d=>by have:=e.an0 n d;omega) _ q s d h) _ 256
def fk(b:bY)(d c:Z):Z:=U<|hH b d c
theorem ME(b:bY)(c:Z):fk b c 0=U (cz (jB b) [b.start] c):=ea _<|w7 c
def Ss{b:bY}{c:Z}(d:c<fk b c 0):fk b c (U (fE b))=fk b (c+1) 0:=by rw[ME] at d⊢;simp_all[fk,hH,KS,T9,bv]
def St{b:bY}(d:hD b)(f:U b.next<=300)(D:Z):fk b D 0<=hi b:=by rw[ME];unfold hi;let e:=Iv d 300;rcases Nat.le_total D 300 with c|c;exact(pQ c).length_le;rw[tt (D:=300) q c]<;>simp_all
def abl{b:bY}(h:hD b)(f:U b.next<=300){c:Z}(g:c<fk b c 0)(d:Z):fk b c d<=hi b:=by let e:=St h f<|c+1;exact c9 (EA g d).length_le e
def aq1{b:bY}(d:hD b)(c:U b.next<=300):hi b<=300:=c9 (Iv d 300) c
def aqj(b:bY):fk b 0 0=1:=ba
def aqk{b:bY}{c d:Z}(e:c<fk b c 0)(g:d<U (fE b)):pr b c d=fk b c d/\fk b c (d+1)=fk b c d+1\/pr b c d<fk b c d/\fk b c (d+1)=fk b c d:=by rw[ME] at e;let h:U (jB b<|hg (jB b) [b.start] 0 c)=U (fE b):=T9 b;by_cases s:y (jB b<|hg (jB b) [b.start] 0 c) d 0∈hH b c d;let⟨i,f⟩:=Nc e q s;refine bp ⟨?_,by simp_all[fk,hH]⟩;show nt _ _ _ _ _<_;rw[<-f];exact vq s;simp_all[Nb,jB,fk,hH,cd]
theorem acz{b:bY}(e:hD b)(d:U b.next<=300)(c:Z):tR b c=y (c3 b c) c 0:=by simp_all[tR,hg,T_]
def abm{b:bY}(e:hD b)(d:U b.next<=300)(c:Z):fk b c 0=U (c3 b c):=by grind[ME,T_]
theorem anX(c:Y Z)(d e b:Z):y (aR c d e) b 0=if d=b/\b<U c then e else y c b 0:=by grind
def KZ{c:Y C}{b:Z}(s:b<U c):(ab bF c)[b]?=W (bF (y c b 0)):=by simp_all
def avl(d:Y C)(t:U d<=100000):iL bL fT 346 [.a 6001 0 (U (ab bF d))] [] [(6001,.j 1 5 (ab bF d))] (λh:Y C=>U h=U d) (λ_=>cv []) (λ_=>[]) (λh=>[(6001,.j 1 5<|ab bF h)]):=by
 refine iL.of_wp (K:=hX) [] gm br h7 ⟨func346,ba,aa⟩ aa aa aa λw p i m=>?_;let n:kE bL hX p fT _ []:=⟨gm,br,i,h7,m⟩;let u:U (ab bF d)=U d:=bm ..;refine jG ((U d:L)-1-((0:Z):L)) (s:=q)<|c8 (Z×Y C) (λg=>⟨[(0,.a 6001 0<|U<|ab bF d),(2,l g.1),(3,an aj<|(U d:L)-1-g.1)],[(6001,.j 1 5<|ab bF g.2)],[]⟩) (λg=>U g.2=U d) (λg=>U d-g.1) (0,d) (λ⟨c,b⟩ aX=>?_) aa;apply f<;>intro o
 .let v:U b=U d:=aX;obtain⟨e,r⟩:∃e:Z,(U d:L)-1-(c:Z)=(e:L):=⟨U d-1-c,q⟩;refine ei ?_;refine bw (λ_=>cE e aa (k:=q)) ?_;refine bw (λ_=>fl (bF<|y b e 0) aa (k:=KZ q))<|bw (λ_=>cE c aa (k:=q)) ?_;refine bw (λ_=>fl (bF<|y b c 0) aa (k:=KZ q))<|bw (λ_=>cE c aa (k:=q)) ?_;refine uk (ab bF<|aR b c<|y b e 0) (bF<|y b c 0) (bF<|y b e 0) ?_ (k:=KZ q) (aU:=bQ hl);refine bw (λ_=>cE e aa (k:=q)) ?_;refine uk (ab bF<|aR (aR b c<|y b e 0) e<|y b c 0) (bF<|y (aR b c<|y b e 0) e 0) (bF<|y b c 0) (k:=KZ bi) (aU:=bQ hl)<|jz []<|e7 ((c+1:Z):L)<|jG ((U d:L)-1-((c+1:Z):L)) (s:=q)<|a4 (c+1,aR (aR b c<|y b e 0) e<|y b c 0) bi q
 exact ec b aX
def gW(b:Y Z):V:=.al 1<|ab l b
theorem xg{R D:Z}(s:¬D<U (bK R)):R/10000^D=0:=by simp_all[Hh,Nat.eq_zero_of_not_pos]
def XX{b:Y Z}{d c:Z}(s:b++bK d=bK c):U b<=U (bK c):=by grind
theorem ams{b:Y Z}{c:Z}:V.al 1 (am c (ab l b))=gW (am c b):=by rw[gW,Gu]
def ax2(c:Y Z)(o:U c<=1048576):bh 282 [gW c] (gW (zF c)):=by
 refine bs func282 [] λp i=>?_;let h:U (ab l c)=U c:=bm _;refine c8 Z (λb=>⟨[(0,_),(3,l b)],[],[]⟩) (λb=>b<=U c/\∀d,b<=d->d<U c->c[d]?=W 0) (λb=>b) _ (λb t=>?_) ⟨Vw h,λd e g=>q⟩ .r;apply cL;refineλn=>iQ ?_;refine jV (b-1) (l<|y c (b-1) 0) ?_ (k:=aK);exact aa;apply f<;>intro m
 .exact jG _<|a4 (b-1) ⟨q,λd e g=>by grind⟩ (bA:=.r)
 refine MV 0 (k:=b) (MN:=b) ?_;exact aL (s:=by show V.al 1 _=_;grind[ams,UG,Nat.eq_zero_or_pos,List.getElem?_eq_getElem])
def tS(c:Z)(m:c<9223372036854775808):bh 237 [l c] (gW (bK c)):=by
 refine bs func237 [] λp h=>?_;let k:U (bK c)<=5:=pe q;refine a1.eK 3 1 3 [3] ai<|c8 (Y Z×Z) (λb=>⟨[(0,l b.2),(3,.a 3 0<|U<|ab l b.1)],[(3,.j 1 3<|ab l b.1)],[]⟩) (λb=>b.2<=c/\b.1++bK b.2=bK c) (λb=>b.2) ([],c) λ⟨e,d⟩ aX=>?_;let g:=XX aX.2;dsimp at aX g⊢;apply f<;>intro i
 .refine MS _<|cp ?_;refine eB (ab l<|e++[d%10000])<|Ij (d/10000:Z)<|a4 (e++[d%10000],d/10000) ⟨q,by grind[xh]⟩ q
 exact gq 3<|aL (s:=by
  obtain rfl:d=0:=by omega
  rw[eR,gW,<-aX.2,pV,gv];rfl)
def Qr(z Q:Z)(y:U (bK z)<=1048576)(A:U (bK Q)<=1048576):bh 239 [gW (bK z),gW (bK Q)] (an aj (if z<Q then-1 else if Q<z then 1 else 0)):=by
 refine bs func239 [] λp o=>?_;let c:U (ab l<|bK z)=U (bK z):=bm _;apply f<;>intro t
 .apply f<;>intro u
  .exact aL (s:=by rw[eR,af<|abd q];rfl)
  exact aL (s:=by have:=abd (z:=Q) (Q:=z) q;rw[eR,ad q,af this];rfl)
 refine iQ ?_;refine c8 Z (λb=>⟨[(0,_),(1,_),(5,an aj ((b:Z)-1:L))],[],[]⟩) (λb=>b<=U (bK z)/\z/10000^b=Q/10000^b) (λb=>b) (U<|ab l<|bK z) (λb d=>?_) ⟨Vw c,by rw[c,xg<|wM _];rw[show U (bK z)=U (bK Q) by omega,xg (wM _)]⟩ .r;apply f<;>intro v
 .let h:z/10000^b=z/10000^(b-1)/10000:=by obtain⟨B,rfl⟩:∃B,b=B+1:=⟨b-1,q⟩;exact AH z B
  let i:Q/10000^b=Q/10000^(b-1)/10000:=by obtain⟨B,rfl⟩:∃B,b=B+1:=⟨b-1,q⟩;exact AH Q B
  let m:=yR (R:=z) (D:=b-1) q;let n:=yR (R:=Q) (D:=b-1) q;let e:z/10000^(b-1)<Q/10000^(b-1)->z<Q:=λs=>by grind[Nat.div_le_div_right]
  let g:Q/10000^(b-1)<z/10000^(b-1)->Q<z:=λs=>by grind[Nat.div_le_div_right]
  refine fA ?_
  iterate 2 refine bB (b-1) _ ?_ (k:=qT q)
  apply f<;>intro w
  .exact aL (s:=by rw[eR,af<|e q];rfl)
  refine fA ?_
  iterate 2 refine bB (b-1) _ ?_ (k:=qT q)
  apply f<;>intro x
  .exact aL (s:=by have:=g q;rw[eR,ad q,af this];rfl)
  refine jG (((b-1:Z):L)-1) ?_;exact a4 (b-1) ⟨q,q⟩ (bA:=.r)
 exact aL (s:=by
  obtain rfl:b=0:=by omega
  have:=d.2;simp at this;subst this;rw[eR,ad q,ad q];rfl)
def QC{z Q B:Z}(b:U (bK z)<=B)(c:U (bK Q)<=B):U (bK (z+Q))<=B+1:=by refine pe ?_;let d:=jZ (AE z)<|pG q b;let e:=jZ (AE Q)<|pG q c;rw[rn];omega
def EN{b Q B H:Z}(e:U (bK b)<=B)(f:U (bK Q)<=H):U (bK (b*Q))<=B+H:=by refine pe ?_;let c:=jZ (AE b)<|pG q e;let d:=jZ (AE Q)<|pG q f;rw[pF];rcases nF Q with rfl|g;simp;exact z6 (oW q)<|oW q;exact ahR c (wL d)<|oW q
def Wi(b c:Z)(A:U (bK b)<=100000)(B:U (bK c)<=100000):bh 238 [gW (bK b),gW (bK c)] (gW (bK (b+c))):=by
 refine bs func238 [] λp E=>?_;have L:U (ab l (bK b))=U (bK b):=bm _;have M:U (ab l (bK c))=U (bK c):=bm _;have K:=QC A B;refine a1.eK 5 1 3 [5] ai ?_;refine c8 (Z×Z×Y Z) (λd=>⟨[(0,_),(1,_),(6,l d.2.1),(7,l d.1),(5,.a 5 0<|U<|ab l d.2.2)],[(5,.j 1 3<|ab l d.2.2)],[]⟩) (λd=>d.2.1<=1/\U d.2.2=d.1/\d.2.2++bK (b/10000^d.1+c/10000^d.1+d.2.1)=bK (b+c)) (λd=>U (bK<|b+c)-d.1) (0,0,[]) (λ⟨D,h,out⟩ aX=>?_) ⟨a2,aa,ao⟩ .r;dsimp only at aX⊢;have I:=XX aX.2.2;let⟨F,w,aX⟩:=aX;have i:=xg (R:=b) (D:=D);have m:=xg (R:=c) (D:=D);have x:=AH b D;have y:=AH c D;generalize u:b/10000^D=e at aX i x;generalize v:c/10000^D=g at aX m y
 iterate 2 refine gu ?_
 apply f<;>intro n
 .have C:0<e+g+h:=by rcases n with(s|s)|s;have:=Hh.1 (show D<U (bK b) by omega);rw[u] at this;omega;have:=Hh.1 (show D<U (bK c) by omega);rw[v] at this;omega;omega
  have J:D<U (bK (b+c)):=by rw[<-aX,cd,xh C,w];simp
  apply f<;>intro G
  focus have o:=yR (R:=b) (D:=D) q;rw[u] at o;refine bB D _ ?_ (k:=qT q);refine aY ?_
  rotate_left
  focus have o:=i q
  all_goals
   apply f<;>intro H
   focus have t:=yR (R:=c) (D:=D) q;rw[v] at t;refine bB D _ ?_ (k:=qT q);refine aY ?_
   rotate_left
   focus have t:=m q
   all_goals refine MT (h+e%10000+g%10000) 10000 ?_;refine cp ?_;refine eB (ab l<|out++[(h+e%10000+g%10000)%10000]) ?_ (aU:=by simp[l]) (bl:=bi);refine Fy (h+e%10000+g%10000) 10000 ?_;refine aY ?_;exact a4 (D+1,(h+e%10000+g%10000)/10000,out++[(h+e%10000+g%10000)%10000]) ⟨tb,by simp[w],by dsimp only;rw[x,y,<-aX,xh (R:=e+g+h) q,eS];congr 1;rw[show(e+g+h)%10000=(h+e%10000+g%10000)%10000 by omega,show(e+g+h)/10000=e/10000+g/10000+(h+e%10000+g%10000)/10000 by omega];rfl⟩ tb .r
 refine gq 5 ?_;exact aL (s:=by
  have z:e+g+h=0:=by rw[i λs=>n<|bj<|bj q,m λs=>n<|bj<|bp q];omega
  rw[z,pV,gv] at aX;rw[eR,<-aX];rfl)
def Jv(b:Y Z)(c:Z)(d:U b<=1048576)(bN:∀I∈b,I<10000)(e:hz b=c):bh 282 [gW b] (gW (bK c)):=by have:=ax2 b d;rwa [agq b bN,e] at this
def Sd(b:Y Z):U (ab l b)=U b:=bm _
def Uv(b e:Z)(P:e<=b)(ap:U (bK b)<=100000):bh 240 [gW (bK b),gW (bK e)] (gW (bK (b-e))):=by
 refine bs func240 [] λp Q=>?_;have aq:U (ab l (bK b))=U (bK b):=bm _;have ar:U (ab l (bK e))=U (bK e):=bm _;refine kS (U<|bK b) (U<|bK b) (ab l<|cM (U<|bK b) 0) ?_ (aU:=wP);refine c8 (Z×Z×Y Z) (λd=>⟨[(0,_),(1,_),(6,l d.2.1),(7,l d.1),(5,.a 11 0<|U<|bK b)],[(11,.j 1 3<|ab l d.2.2)],[]⟩) (λd=>d.1<=U (bK b)/\d.2.1<=1/\U d.2.2=U (bK b)/\(∀I∈d.2.2,I<10000)/\(∀v,d.1<=v->v<U (bK b)->d.2.2[v]?=W 0)/\hz d.2.2+b/10000^d.1*10000^d.1=b-e+(e/10000^d.1+d.2.1)*10000^d.1) (λd=>U (bK b)-d.1) (0,0,cM (U<|bK b) 0) (λ⟨D,u,h⟩ aX=>?_) ⟨dJ _,dJ _,ao,λI bN=>by rw[zT bN];omega,λv _ s=>by rw[zX,af s],by simp[UM];omega⟩ .r;dsimp only at aX⊢;let⟨am,S,E,C,y,t⟩:=aX;have N:=xg (R:=e) (D:=D);have G:=AH b D;have H:=AH e D;have M:10000^(D+1)=10000^D*10000:=rn ..;generalize K:b/10000^D=n at t G;generalize L:e/10000^D=i at t N H;apply f<;>intro T
 .have O:=yR (R:=b) (D:=D) q;rw[K] at O;refine bB D _ ?_ (k:=qT q);refine iQ ?_;apply f<;>intro X
  focus have J:=yR (R:=e) (D:=D) q;rw[L] at J;refine bB D _ ?_ (k:=qT q);refine iQ ?_
  rotate_left
  focus have J:=N q
  all_goals
   apply f<;>intro ak
   .refine aY ?_;refine cE D ?_;refine fF (ab l<|aR h D<|(10000+n%10000-i%10000-u)%10000) (l 0) (an aj _) ?_ (k:=by rw[db,y D (bv _) q];rfl) (aU:=by rw[hl];simp only[l];congr 2;omega);refine aY ?_;exact a4 (D+1,1,aR h D<|(10000+n%10000-i%10000-u)%10000) ⟨tb,tb,by simp[E],MI C q,λv x o=>by
     dsimp only at x⊢;rw[Vh q];exact y v q o,by
     dsimp only;rw[G,H,M];have F:∀m w:Z,n+(i/10000+w)*10000=i+u+n/10000*10000+m->hz (aR h D m)=hz h+m*10000^D->hz (aR h D m)+n/10000*(10000^D*10000)=b-e+(i/10000+w)*(10000^D*10000):=λm w o A=>by rw[A];generalize 10000^D=z at t;have B:=ea (·*z) o;simp only[hZ,qq] at B t⊢;rw[l6 z 10000];omega
     refine F _ _ q ?_;simpa using JF h D _ 0 (y D (bv _) q)⟩ tb .r
   refine cE D ?_;refine fF (ab l<|aR h D<|(10000+n%10000-i%10000-u)%10000) (l 0) (an aj _) ?_ (k:=by rw[db,y D (bv _) q];rfl) (aU:=by rw[hl];simp only[l];congr 2;omega);refine aY ?_;exact a4 (D+1,0,aR h D<|(10000+n%10000-i%10000-u)%10000) ⟨tb,tb,by simp[E],MI C q,λv x o=>by
    dsimp only at x⊢;rw[Vh q];exact y v q o,by
    dsimp only;rw[G,H,M];have F:∀m w:Z,n+(i/10000+w)*10000=i+u+n/10000*10000+m->hz (aR h D m)=hz h+m*10000^D->hz (aR h D m)+n/10000*(10000^D*10000)=b-e+(i/10000+w)*(10000^D*10000):=λm w o A=>by rw[A];generalize 10000^D=z at t;have B:=ea (·*z) o;simp only[hZ,qq] at B t⊢;rw[l6 z 10000];omega
    refine F _ _ q ?_;simpa using JF h D _ 0 (y D (bv _) q)⟩ tb .r
 refine Dr 11 (U<|bK b) (by rw[Sd,E]) ?_;refine aT ?_ (g:=Jv h (b-e) q C (by
  obtain rfl:D=U (bK b):=by omega
  have x:=xg (R:=b)<|wM _;have o:=Nat.div_le_div_right (c:=10000^U (bK b)) P;have A:=ayC C;rw[K] at x o;rw[L] at o;rw[E] at A;have B:i=0:=by omega
  rw[x,B] at t;rcases(show u=0\/u=1 by omega) with rfl|rfl;simpa using t;simp only[ym,mC,wO] at t;omega))
 exact aL
def aqS{z c D b:Z}(e:c<10000^b):z%10000^(D+1)*c<10000^(D+1+b):=by rw[pF _ _ b];let d:z%10000^(D+1)<10000^(D+1):=rm _ aK;simp_all[ahR,wL,oW]
def aqU{h g M f e w d b c:Z}(l:g+M*b=h+d%10000*b)(m:d=M+f+e*(c%10000)):g+d/10000*(b*10000)+e*(c/10000)*(b*10000)=h+f*b+e*c*b:=by let i:=yj d 10000;let k:=yj c 10000;grind
def Bm(z b:Z)(az:U (bK z)<=50000)(aA:U (bK b)<=50000):bh 234 [gW (bK z),gW (bK b)] (gW (bK (z*b))):=by
 refine bs func234 [] λp K=>?_;have aB:U (ab l (bK z))=U (bK z):=bm _;have aC:U (ab l (bK b))=U (bK b):=bm _;generalize X:U (bK z)+U (bK b)=e;refine aY ?_;refine kS e e (ab l<|cM e 0) ?_ (aU:=wP);refine c8 (Z×Y Z) (λd=>⟨[(0,_),(1,_),(6,l d.1),(5,.a 15 0 e)],[(15,.j 1 3<|ab l d.2)],[]⟩) (λd=>d.1<=U (bK z)/\U d.2=e/\(∀I∈d.2,I<10000)/\hz d.2=z%10000^d.1*b) (λd=>U (bK z)-d.1) (0,cM e 0) (λ⟨D,t⟩ aX=>?_) ⟨dJ _,ao,λI bN=>aq,by simp[UM,Nat.mod_one]⟩ .r;dsimp only at aX⊢;let⟨aw,A,y,P⟩:=aX;apply f<;>intro ar
 .have F:=yR (R:=z) (D:=D) q;have K:=aqS (z:=z) (D:=D)<|AE b;have am:z%10000^(D+1)*b=hz t+z/10000^D%10000*b*10000^D:=by rw[Nat.mod_pow_succ,P,hZ,l6<|10000^D,qq,qq,l6 (10000^D) b]
  generalize T:z/10000^D%10000=o at*;refine c8 (Z×Z×Y Z) (λw=>⟨[(0,_),(1,_),(6,_),(7,l w.2.1),(8,l w.1),(5,.a 15 0 e)],[(15,.j 1 3<|ab l w.2.2)],[]⟩) (λw=>w.2.1<10000/\w.1<=U (bK b)+1/\U w.2.2=e/\(∀I∈w.2.2,I<10000)/\hz w.2.2+w.2.1*10000^(D+w.1)+o*(b/10000^w.1)*10000^(D+w.1)=z%10000^(D+1)*b) (λw=>U (bK b)+1-w.1) (0,0,t) (λ⟨B,m,c⟩ aU=>?_) ⟨ao,q,A,y,aK⟩ .r;dsimp only at aU⊢;let⟨av,ay,N,v,Q⟩:=aU;refine gu ?_;apply f<;>intro x
  .have ax:B<=U (bK b):=by
    rcases hN (U (bK b)) B with s|s;exfalso;have M:1<=m:=by rcases x with G|G<;>omega
    have S:1*10000^(D+B)<=m*10000^(D+B):=jo _ M;grind;exact s
   have C:D+B<U c:=q;have O:c[D+B]?=W c[D+B]:=cT C;have aD:c[D+B]<10000:=v _<|hL C;obtain⟨i,n⟩:∃i,i=o*(b/10000^B%10000):=⟨_,aa⟩;have ak:i<=9999*9999:=by rw[n];exact B9 q q
   obtain⟨h,J⟩:∃h,h=c[D+B]+m+i:=⟨_,aa⟩;have H:h=c[D+B]+m+o*(b/10000^B%10000):=by rw[J,n]
   refine aY ?_;refine cE (D+B) ?_;refine fl (l c[D+B]) ?_ (k:=aK);refine aY ?_;apply f<;>intro au
   focus
    have u:=yR (R:=b) (D:=B) q;have E:(bK z)[D]*(bK b)[B]=i:=by rw[n,F,u]
    refine fA ?_
    iterate 2 refine bB _ _ ?_ (k:=qT q)
    refine Br (i:L) ?_ (s:=q);refine aY ?_
   rotate_left
   focus have u:=xg (R:=b) (D:=B) q;have E:i=0:=by rw[n,u];simp
   all_goals refine aY ?_;refine MT h 10000 ?_;refine cE (D+B) ?_;refine fF (ab l<|aR c (D+B)<|h%10000) (l c[D+B]) (an aj _) ?_ (k:=aK) (aU:=by rw[hl];rfl);refine Fy h 10000 ?_;refine aY ?_;exact a4 (B+1,h/10000,aR c (D+B)<|h%10000) ⟨bi,q,aK,MI v q,by dsimp only;rw[AH,show D+(B+1)=D+B+1 by omega,rn 10000 (D+B),<-Q];exact aqU (w:=0) (JF c (D+B) (h%10000) _ O) H⟩ q .r
  refine aY ?_;exact a4 (D+1,c) ⟨q,N,v,by dsimp only;have ap:=xg (R:=b) (D:=B) λs=>x<|bj q;grind⟩ q .r
 refine Dr 15 e (by rw[Sd,A]) ?_;refine aT ?_ (g:=Jv t (z*b) q y (by grind[Nat.mod_eq_of_lt,AE]));exact aL
def afx(c b:Z)(d:U (bK c)<=50000)(e:b<9223372036854775808):bh 283 [gW (bK c),l b] (gW (bK (c*b))):=by refine bs func283 [] λp f=>?_;refine aT (g:=tS b e)<|aT ?_ (g:=Bm c b d<|c9 (pe (B:=5) q) q);exact aL
def aoG{b:Y Z}:∀I∈ab l b,U I.cells=1:=λI bN=>by obtain⟨c,_,rfl⟩:=dI.1 bN;rfl
def Lk(c b:Z)(v:0<b)(aB:U (bK c)<=5000)(y:U (bK b)<=5000):bh 242 [gW (bK c),gW (bK b)] (cv [gW (bK (c/b)),gW (bK (c%b))]):=by
 refine bs func242 [] λp O=>?_;let T:U (ab l<|bK c)=U (bK c):=bm _;refine kS (U<|bK c) (U<|bK c) (ab l<|cM (U<|bK c) 0) ?_ (aU:=wP);refine iQ ?_;refine a1.tB 1 [7] ?_;refine c8 (Z×Y Z×Z) (λh=>⟨[(0,_),(1,_),(7,gW<|bK h.2.2),(8,an aj ((h.1:Z)-1:L)),(6,.a 14 0<|U<|bK c)],[(14,.j 1 3<|ab l h.2.1)],[]⟩) (λh=>h.1<=U (bK c)/\U h.2.1=U (bK c)/\(∀I∈h.2.1,I<10000)/\(∀B,B<h.1->h.2.1[B]?=W 0)/\hz h.2.1=c/10000^h.1/b*10000^h.1/\h.2.2=c/10000^h.1%b) (λh=>h.1) (U<|ab l<|bK c,cM (U<|bK c) 0,0) (λ⟨d,u,z⟩ aX=>?_) ⟨Vw T,ao,λI bN=>aq,λd s=>aq,by simp[xg,wM,UM],by simp[xg,wM,Nat.zero_mod]⟩ ⟨⟨aa,aa,(by dsimp only;rw[pV];rfl),aa,aa,b5⟩,⟨aa,b5⟩,aa,aa⟩;dsimp only at aX⊢;let⟨az,Q,J,P,ap,w⟩:=aX;apply f<;>intro aw
 .let ay:0<d:=q;let S:d-1<U (bK c):=q;let M:=yR (R:=c) (D:=d-1) S;let A:c/10000^d=c/10000^(d-1)/10000:=by obtain⟨B,rfl⟩:∃B,d=B+1:=⟨d-1,q⟩;exact AH c B
  let au:10000^d=10000^(d-1)*10000:=by obtain⟨B,rfl⟩:∃B,d=B+1:=⟨d-1,q⟩;exact rn ..
  obtain⟨m,x⟩:∃m,m=c/10000^(d-1):=⟨_,aa⟩;rw[<-x] at M A;obtain⟨i,O⟩:∃i,i=m%10000+10000*(m/10000%b):=⟨_,aa⟩;let E:m=i+b*(m/10000/b*10000):=by
   let C:=yj m 10000;let N:=yj (m/10000) b;let ar:b*(m/10000/b*10000)=10000*(b*(m/10000/b)):=by rw[<-qq,l6]
   omega
  let F:i<b*10000:=by let C:=rm (m/10000) v;let N:=rm m (show 0<10000 by omega);omega
  obtain⟨n,t⟩:∃n,n=i/b:=⟨_,aa⟩;let X:n<10000:=by rw[t];exact Nat.div_lt_of_lt_mul F
  let ak:b*n<=i:=by rw[t];exact Nat.mul_div_le i b
  let aE:c/10000^(d-1)/b=m/10000/b*10000+n:=by
   rw[<-x,t]
   conv=>lhs;rw[E]
   rw[Nat.add_mul_div_left _ _ v,ta]
  let am:i-b*n=c/10000^(d-1)%b:=by
   rw[<-x,t]
   conv=>rhs;rw[E]
   rw[Nat.add_mul_mod_self_left];have:=yj i b;omega
  let av:U (bK i)<=5002:=by refine c9 (vL<|wL F) ?_;exact c9 (EN (H:=2) y<|pe q) q
  rw[A] at ap w;let aF:U (bK z)<=5000:=by rw[w];exact c9 (vL<|wL<|rm _ v) y
  refine bB (d-1) _ ?_ (k:=qT q);refine n0 ?_;refine eB (ab l<|(bK c)[d-1]::bK z) ?_ (gi:=.al aa aa aa aa aoG) (bl:=aK);refine xL 26 ?_;refine aT ?_ (g:=Jv ((bK c)[d-1]::bK z) i aK (by intro I bN;rcases fH.1 bN with rfl|bN;omega;exact ami _ I bN) (by grind[hz,ayB]));refine c8 (Z×Z) (λo=>⟨[(0,_),(1,_),(7,_),(8,_),(9,l o.1),(10,l o.2),(6,.a 14 0<|U<|bK c)],[(14,.j 1 3<|ab l u)],[]⟩) (λo=>o.1<=n/\n<=o.2/\o.2<=9999) (λo=>o.2-o.1) (0,9999) (λ⟨e,k⟩ aU=>?_) ⟨dJ _,q,bv _⟩ .r;dsimp only at aU⊢;apply f<;>intro ax
  .refine aY ?_;refine aY ?_;refine Fy (e+k+1) 2 ?_;refine aT ?_ (g:=afx b ((e+k+1)/2) q q);refine aT ?_ (g:=Qr (b*((e+k+1)/2)) i (c9 (EN (H:=2) y<|pe q) q) q);apply f<;>intro G
   .let aC:b*((e+k+1)/2)<=i:=by revert G;generalize b*((e+k+1)/2)=K;split;omega;omega
    exact a4 ((e+k+1)/2,k) ⟨by dsimp only;rw[t];exact(ahH v).2 aK,aU.2.1,aU.2.2⟩ q .r
   let aD:n<(e+k+1)/2:=by rw[t];refine(Pg v).2 ?_;rw[l6];revert G;generalize b*((e+k+1)/2)=K;split;omega;omega
   refine jG (((e+k+1)/2-1:Z):L) ?_;exact a4 (e,(e+k+1)/2-1) ⟨aU.1,q,q⟩ q .r
  obtain rfl:e=n:=q;refine cE (d-1) ?_;refine fF (ab l<|aR u (d-1) e) (l 0) (an aj _) ?_ (k:=aK) (aU:=by rw[hl];rfl);refine aT ?_ (g:=afx b e q q);refine aT ?_ (g:=Uv i (b*e) ak q);refine jG (((d-1:Z):L)-1) ?_;exact a4 (d-1,aR u (d-1) e,i-b*e) ⟨q,aK,MI J X,λB aA=>by grind,by dsimp only;let C:=JF u (d-1) e 0<|P (d-1) q;grind,am⟩ q .r
 refine Dr 14 (U<|bK c) (by rw[Sd,Q]) ?_;refine aT ?_ (g:=Jv u (c/b) q J (by grind));exact aL (s:=by
  obtain rfl:d=0:=by omega
  rw[Nat.pow_zero,J2] at w;rw[w];rfl)
def NE{b B R:Z}(s:U (bK b)<=B):U (bK (b^R))<=B*R+1:=by refine pe ?_;let c:=jZ (AE b)<|pG q s;let d:b^R<=(10000^B)^R:=Nat.pow_le_pow_left q R;grind[Nat.pow_mul,Nat.lt_of_le_of_lt,Nat.pow_lt_pow_right]
def anT(d e:Z)(m:U (bK d)<=5000)(n:U (bK e)<=5000):bh 281 [gW (bK d),gW (bK e)] (gW (bK (jp d e))):=by
 refine bs func281 [] λp k=>?_;refine c8 (Z×Z) (λb=>⟨[(0,gW<|bK b.1),(1,gW<|bK b.2)],[],[]⟩) (λb=>jp b.1 b.2=jp d e/\U (bK b.1)<=5000/\U (bK b.2)<=5000) (λb=>b.2) (d,e) λ⟨i,c⟩ aX=>?_;apply f<;>intro l
 .let h:0<c:=by rcases nF c with rfl|s;grind[pV];exact s
  refine aT ?_ (g:=Lk i c h aX.2.1 aX.2.2);exact a4 (c,i%c) ⟨by grind[Nat.gcd_comm,Nat.gcd_rec],aX.2.2,c9 (vL<|wL<|rm _ h) aX.2.2⟩<|rm _ h
 exact aL (s:=by
  let h:c=0:=by rcases nF c with s|s;exact s;grind[bK,CM,List.eq_nil_of_length_eq_zero]
  grind[Nat.gcd_zero_right,eR])
def adE(R:Z)(u:R<=64):bh 236 [gW (bK 10),l R] (gW (bK (10^R))):=by
 refine bs func236 [] λp m=>?_;refine aT (g:=tS 1 q)<|c8 (Z×Z×Z) (λc=>⟨[(0,gW<|bK<|10^c.2.1),(1,l c.2.2),(5,gW<|bK c.1)],[],[]⟩) (λc=>c.1*(10^c.2.1)^c.2.2=10^R/\c.2.1<=128/\c.2.1*c.2.2<=64/\0<c.2.1) (λc=>c.2.2) (1,1,R) (λ⟨M,b,B⟩ aX=>?_) ⟨ao,ao,bi,ao⟩;dsimp only at aX⊢;apply f<;>intro o
 .let he:b<=64:=by have:b*1<=b*B:=Gz _ q;omega
  let t:B<=64:=by have:1*B<=b*B:=jo _ q;omega
  let e:(b+b)*(B/2)<=64:=by
   let h:(b+b)*(B/2)=b*(2*(B/2)):=by rw[<-Nat.mul_two,qq]
   let k:b*(2*(B/2))<=b*B:=Gz _ q;omega
  let d:U (bK 10)<=1:=pe a2;let r:U (bK<|10^b)<=129:=c9 (NE (R:=b) d) q;let i:M<=10^R:=by rw[<-aX.1];exact J5 _<|oW<|oW q
  let v:U (bK M)<=129:=c9 (vL i)<|c9 (NE (R:=R) d) q;refine MT B 2 ?_;apply f<;>intro n
  .refine aT (g:=Bm M (10^b) q q)<|aT (g:=by have:=Bm (10^b) (10^b) q q;rw[<-pF] at this;exact this)<|Fy B 2<|a4 (M*10^b,b+b,B/2) ⟨by rw[<-aX.1,qq,<-J7,<-J7,<-pF]<;>grind,bi,e,bi⟩ bi
  refine aT (g:=by have:=Bm (10^b) (10^b) q q;rw[<-pF] at this;exact this)<|Fy B 2<|a4 (M,b+b,B/2) ⟨by
   rw[<-aX.1,<-J7,<-J7];let h:B=2*(B/2):=by omega
   grind,bi,e,bi⟩ bi
 exact aL (s:=by simp_all[Nat.pow_zero,z4,eR])
def j9(b:pM):V:=b2 [aV b.neg,gW<|bK b.num,gW<|bK b.dv]
def zc(m:X)(num b:Z)(bN:0<b)(l:U (bK num)<=5000)(e:U (bK b)<=5000):bh 233 [aV m,gW (bK num),gW (bK b)] (j9 (nm m num b)):=by
 refine bs func233 [] λp o=>?_;let n:U (bK 1)<=1:=pe a2;let d:0<jp num b:=Ph _ bN;let k:U (bK<|jp num b)<=5000:=c9 (vL<|Nat.le_of_dvd bN<|J3 _ _) e;apply f<;>intro r
 .let c:num=0:=by rcases nF num with s|s;exact s;grind[bK,CM,List.eq_nil_of_length_eq_zero]
  refine aT ?_ (g:=tS 1 q);exact fQ 1 6 [1]<|dj br (s:=by rw[eR,nm,af c,j9,pV];rfl)
 let c:num≠0:=λs=>by grind[pV]
 refine aT (g:=anT num b l e)<|aT (g:=tS 1 q)<|aT ?_ (g:=Qr (jp num b) 1 q q);apply f<;>intro h
 .let i:1<jp num b:=by revert h;split;omega;omega
  refine aT ?_ (g:=Lk num (jp num b) d l k);refine aT ?_ (g:=Lk b (jp num b) d e k);exact dj br (s:=by rw[eR,nm,ad c];rfl)
 let i:jp num b=1:=by revert h d;split;omega;omega
 exact dj br (s:=by rw[eR,nm,ad c,i,J2,J2];rfl)
def ata(b:L)(I:Z)(k:-1000000000000000000<b)(m:b<1000000000000000000)(bN:0<I)(i:I<1000000000000000000):bh 241 [an aj b,l I] (j9 (nm (aH (b<0)) (hp b) I)):=by
 refine bs func241 [] λp e=>?_;let c:U (bK<|hp b)<=5000:=c9 (pe (B:=5) q) q;let d:U (bK I)<=5000:=c9 (pe (B:=5) q) q;apply f<;>intro h
 .refine ab4 (hp b:L)<|aT (g:=tS (hp b) q)<|aT (g:=tS I q)<|aT ?_ (g:=zc ag (hp b) I bN c d);exact dj br (s:=by rw[oY q];rfl)
 refine aT (g:=by have:=tS (hp b) q;rw[l,show((hp b:Z):L)=b by omega] at this;exact this)<|aT (g:=tS I q)<|aT ?_ (g:=zc ae (hp b) I bN c d);exact dj br (s:=by rw[Aa q];rfl)
def Hj{ap:L}{B:Z}(s:U (bK (hp ap))<=B)(b:8<=B):U (bK (cC ap).num)<=B/\U (bK (cC ap).dv)<=8:=⟨c9 (vL (by unfold cC nm;split;simp;simp[Gx])) s,c9 (vL<|amu ap)<|pe a2⟩
def rS(b:L):Prop:=U (bK<|hp b)<=200
def aqN{b:L}(s:hp b<10000^100):rS b:=c9 (pe s) q
def agQ:bh 185 [l 1] (j9 (cC cq)):=by refine bs func185 [] λp b=>?_;refine aT ?_ (g:=by have:=ata 1 1 a2 a2 a2 a2;exact this);exact dj br
def awD(b:pM):bh 180 [j9 b] (an aj (F6 b)):=by
 refine bs func180 [] λp e=>?_;apply f<;>intro g
 .let c:b.num=0:=by rcases nF _ with s|s;exact s;grind[bK,CM,List.eq_nil_of_length_eq_zero]
  exact aL (s:=by rw[eR,F6,af c];rfl)
 let c:b.num≠0:=λs=>by grind[pV]
 apply f<;>intro d
 .exact aL (s:=by rw[eR,F6,ad c,af d];rfl)
 exact aL (s:=by rw[eR,F6,ad c,ad d];rfl)
def SF(b:pM):bh 232 [j9 b] (j9 (Ic b)):=by
 refine bs func232 [] λp d=>?_;apply f<;>intro e
 .let c:b.num≠0:=λs=>by grind[pV]
  exact dj br (s:=by rw[eR,Ic,ad c];rfl)
 let c:b.num=0:=by rcases nF _ with s|s;exact s;grind[bK,CM,List.eq_nil_of_length_eq_zero]
 exact dj br (s:=by rw[eR,Ic,af c];rfl)
theorem adB(b c:pM)(n:0<b.dv)(o:0<c.dv)(l:U (bK b.num)<=300)(h:U (bK b.dv)<=300)(m:U (bK c.num)<=300)(i:U (bK c.dv)<=300):bh 184 [j9 b,j9 c] (j9 (FT b c)):=by
 refine bs func184 [] λp u=>?_;let bN:0<b.dv*c.dv:=z6 n o;let r:=EN l i;let t:=EN m h;let v:=EN h i;let w:=QC (z:=b.num*c.dv) (Q:=c.num*b.dv) r t;refine fA ?_;refine ch ?_ (g:=Bm b.num c.dv q q);refine ch ?_ (g:=Bm c.num b.dv q q);refine ch ?_ (g:=Bm b.dv c.dv q q);refine SM ?_;apply f<;>intro e
 .refine ei ?_;refine bw (λ_=>ch aa (g:=Wi (b.num*c.dv) (c.num*b.dv) q q)) ?_;refine bw (λ_=>ch aa (g:=zc b.neg (b.num*c.dv+c.num*b.dv) (b.dv*c.dv) bN q q)) ?_;refine fo ?_;refine fz ?_;exact dj br (s:=by rw[eR,FT,af e];rfl)
 refine aT ?_ (g:=Qr (b.num*c.dv) (c.num*b.dv) q q);apply f<;>intro k
 .let d:c.num*b.dv<=b.num*c.dv:=by revert k;split;omega;omega
  refine ei ?_;refine bw (λ_=>ch aa (g:=Uv (b.num*c.dv) (c.num*b.dv) d q)) ?_;refine bw (λ_=>ch aa (g:=zc b.neg (b.num*c.dv-c.num*b.dv) (b.dv*c.dv) bN (c9 (vL<|Nat.sub_le _ _) q) q)) ?_;refine fo ?_;refine fz ?_;exact dj br (s:=by rw[eR,FT,ad e,af d];rfl)
 let d:¬c.num*b.dv<=b.num*c.dv:=by revert k;split;omega;omega
 refine ei ?_;refine bw (λ_=>ch aa (g:=Uv (c.num*b.dv) (b.num*c.dv) q q)) ?_;refine bw (λ_=>ch aa (g:=zc c.neg (c.num*b.dv-b.num*c.dv) (b.dv*c.dv) bN (c9 (vL<|Nat.sub_le _ _) q) q)) ?_;refine fo ?_;refine fz ?_;exact dj br (s:=by rw[eR,FT,ad e,ad d];rfl)
def aaT{T w:L}(b:rS T)(c:rS w):bh 181 [j9 (cC T),j9 (cC w)] (j9 (cC (T-w))):=by refine bs func181 [] λp i=>?_;let⟨d,e⟩:=Hj (ap:=T) (B:=200) b q;let⟨f,h⟩:=Hj (ap:=-w) (B:=200) (by rw[Int.natAbs_neg];exact c) q;refine ei ?_;refine bw (λ_=>ch aa (g:=by have:=SF<|cC w;rw[SE] at this;exact this)) ?_;refine bw (λ_=>ch aa (g:=by have:=adB (cC T) (cC<|-w) (yU T) (yU _) q q q q;rw[adA,<-Int.sub_eq_add_neg] at this;exact this)) ?_;refine fo<|fz ?_;exact dj br
def asj(T w:L)(b:rS T)(c:rS w):bh 130 [j9 (cC T),j9 (cC w)] (an aj (gf (T-w))):=by refine bs func130 [] λp d=>?_;refine aT (g:=aaT (T:=T) (w:=w) b c)<|aT ?_ (g:=by have:=awD<|cC<|T-w;rw[awC] at this;exact this);exact aL
def atD{b c:L}(d:rS b)(e:rS c):bh 184 [j9 (cC b),j9 (cC c)] (j9 (cC (b+c))):=by let⟨f,g⟩:=Hj d q;let⟨h,i⟩:=Hj e q;grind[adB,cC,yU,adA]
structure j4 where
 inf:X
 op:X
 z:L
def j4.t(b:j4):pM:=if b.inf then⟨ae,0,0⟩ else cC b.z
def j4.LR{b:j4}(s:b.inf=ae):b.t=cC b.z:=by simp_all[j4.t,ad]
structure lr where
 low:j4
 high:j4
 oe:X
def ew(b:L):L:=b/(cq:L)*cq
def mN(b:L):L:=-ew (-b)
def oL(J:lr):X:=if(J.low.inf||J.high.inf) then ae else aH (J.high.z<J.low.z)||aH (J.low.z=J.high.z)&&(J.low.op||J.high.op)
def tx(b:j4):j4:=if b.inf then b else⟨ae,ae,if b.op/\mN b.z=b.z then mN b.z+cq else mN b.z⟩
def tw(b:j4):j4:=if b.inf then b else⟨ae,ae,if b.op/\ew b.z=b.z then ew b.z-cq else ew b.z⟩
def AA(J:lr):lr:=⟨tx J.low,tw J.high,ag⟩
def Aj(B:Z):Z:=10^100+B*10^31
def md(B:Z)(b:L):Prop:=hp b<=Aj B
def j4.md(B:Z)(b:j4):Prop:=fe.md B b.z
def lr.md(B:Z)(J:lr):Prop:=J.low.md B/\J.high.md B
def VP{b c:Z}(s:b<=c):Aj b<=Aj c:=Pc (jo _ s) _
def Bi{b c:Z}{d:L}(s:b<=c)(B:md b d):md c d:=c9 B<|VP s
def lr.Bi{b c:Z}{J:lr}(s:b<=c)(B:J.md b):J.md c:=⟨fe.Bi s B.1,fe.Bi s B.2⟩
theorem PA(B:Z):Aj (B+1)=Aj B+10*cq:=by(simp[Aj,cq,hZ,wO];omega)
def AT(b:L):ew b<=b/\b<ew b+cq:=by
 unfold ew
 (simp[Int.emod_nonneg,cq,ahi,OW];omega)
def MF{B:Z}{b:L}(s:md B b):md (B+1) (ew b):=by unfold md at*;rw[PA];have:=AT b;omega
def abA{B:Z}{b:L}(s:md B b):md B (-b):=by grind[md,Int.natAbs_neg]
def Sy{B:Z}{b:L}(s:md B b):md (B+1) (mN b):=abA<|MF<|abA s
def aqw{B:Z}{b:L}(s:md B b):md (B+1) (b+cq):=by grind[md,PA]
def aqx{B:Z}{b:L}(s:md B b):md (B+1) (b-cq):=by grind[md,PA]
theorem aqv:md 0 cq:=by simp[md,Aj,cq]
def akT{B:Z}{b:j4}(s:b.md B):(tx b).md (B+2):=by unfold tx;split;exact Bi q s;split;exact aqw<|Sy s;exact Bi q<|Sy s
def akQ{B:Z}{b:j4}(s:b.md B):(tw b).md (B+2):=by unfold tw;split;exact Bi q s;split;exact aqx<|MF s;exact Bi q<|MF s
def akW{B:Z}{J:lr}(s:J.md B):(AA J).md (B+2):=⟨akT s.1,akQ s.2⟩
def Dj{B:Z}{b:L}(s:md B b)(c:B<=1000):rS b:=by refine aqN<|J6 s<|J6 (VP c) ?_;decide+kernel
def Yg(b:j4):V:=b2 [aV b.inf,aV b.op,aV b.t.neg,gW<|bK b.t.num,gW<|bK b.t.dv]
def Lv(J:lr):V:=b2 [aV J.low.inf,aV J.low.op,aV J.low.t.neg,gW<|bK J.low.t.num,gW<|bK J.low.t.dv,aV J.high.inf,aV J.high.op,aV J.high.t.neg,gW<|bK J.high.t.num,gW<|bK J.high.t.dv,aV J.oe]
structure lJ where
 has:X
 op:X
 n:b4
structure hq where
 low:lJ
 high:lJ
 oe:X
def CR(b:lJ):V:=b2 [aV b.has,aV b.op,aV b.n.neg,a8 b.n.bT,an aj b.n.exp]
def pX(J:hq):V:=b2 [aV J.low.has,aV J.low.op,aV J.low.n.neg,a8 J.low.n.bT,an aj J.low.n.exp,aV J.high.has,aV J.high.op,aV J.high.n.neg,a8 J.high.n.bT,an aj J.high.n.exp,aV J.oe]
def Tj{d e:pM}{b c:L}(f:d=cC b)(g:e=cC c)(h:rS b)(i:rS c):bh 130 [j9 d,j9 e] (an aj (gf (b-c))):=by subst f g;exact asj b c h i
theorem Oa{b:L}:0<gf b↔0<b:=by unfold gf;split;omega;split<;>omega
def awq{b:L}:gf b<0↔b<0:=by unfold gf;split;omega;split<;>omega
theorem DF{b:L}:gf b=0↔b=0:=by unfold gf;split;omega;split<;>omega
def X3(ap:L)(i:rS ap):bh 186 [j9 (cC ap)] (j9 (cC (ew ap))):=by
 refine bs func186 [] λp m=>?_;let⟨e,k⟩:=Hj (ap:=ap) (B:=200) i q;let bN:=yU ap;let h:=c9 (vL<|Gx (cC ap).num (cC ap).dv) e;let l:U (bK 1)<=1:=pe a2;let n:=QC (B:=200) h (Q:=1) q;let he:=amj ap;refine aT ?_ (g:=Lk (cC ap).num (cC ap).dv bN q q);refine i4 ?_;apply f<;>intro d
 focus let b:(cC ap).neg/\(cC ap).num%(cC ap).dv≠0:=⟨d.1,λs=>by have:=d.2;rw[s,pV] at this;simp at this⟩;rw[Ll,af b] at he;let c:=zc (cC ap).neg ((cC ap).num/(cC ap).dv+1) 1 q q q;rw[he] at c;refine aT ?_ (g:=tS 1 q);refine aT ?_ (g:=Wi ((cC ap).num/(cC ap).dv) 1 q q)
 rotate_left
 focus let b:¬((cC ap).neg=ag/\(cC ap).num%(cC ap).dv≠0):=λs=>d ⟨s.1,by have:U (bK ((cC ap).num%(cC ap).dv))≠0:=λb=>s.2<|CM.1<|l4 b;omega⟩;rw[Ll,ad b] at he;let c:=zc (cC ap).neg ((cC ap).num/(cC ap).dv) 1 q q q;rw[he] at c
 all_goals refine ei ?_;refine bw (λ_=>ch aa (g:=tS 1 q)) ?_;refine bw (λ_=>ch aa (g:=c)) ?_;refine fo ?_;refine fz ?_;exact dj br
def ayr(b:L)(d:rS b):bh 183 [j9 (cC b)] (j9 (cC (mN b))):=by refine bs func183 [] λp c=>?_;refine aT ?_ (g:=by have:=SF<|cC b;rw[SE] at this;exact this);refine aT ?_ (g:=X3 (-b) (by unfold rS at*;rwa [Int.natAbs_neg]));refine aT ?_ (g:=by have:=SF<|cC<|ew<|-b;rw[SE] at this;exact this);exact dj br
def ayq{c:pM}{b:L}(d:c=cC b)(e:rS b):bh 183 [j9 c] (j9 (cC (mN b))):=by subst d;exact ayr b e
def amk{c:pM}{b:L}(d:c=cC b)(e:rS b):bh 186 [j9 c] (j9 (cC (ew b))):=by subst d;exact X3 b e
def Xj{b:L}:(gf (mN b-b)=0)=(mN b=b):=by rw[DF];exact propext ⟨λs=>q,λs=>q⟩
def Xk{b:L}:(gf (ew b-b)=0)=(ew b=b):=by rw[DF];exact propext ⟨λs=>q,λs=>q⟩
def akY(J:lr)(B:Z)(C:B<=900)(e:J.md B):bh 132 [Lv J] (Lv (AA J)):=by
 refine bs func132 [] λp x=>?_;let r:=Dj e.1 q;let t:=Dj e.2 q;let u:=Dj (Sy e.1) q;let v:=Dj (MF e.2) q;let w:=Dj aqv q;apply f<;>intro m
 rotate_left
 focus
  let k:J.low.inf:=by simpa using m
  let d:tx J.low=J.low:=by rw[tx,af k]
 rotate_left
 let k:J.low.inf=ae:=by simpa using m
 let n:=j4.LR k;refine aT ?_ (g:=ayq n r);apply cL;intro y;refine ch ?_ (g:=Tj aa n u r);exact aa;apply f<;>intro h
 focus
  let d:tx J.low=⟨ae,ae,mN J.low.z+cq⟩:=by rw[tx,ad (by simp[k]),af ⟨h.1,by have:=h.2;rwa [Xj] at this⟩]
  refine ei ?_;refine bw (λ_=>ch aa (g:=agQ)) ?_;refine bw (λ_=>ch aa (g:=atD u w)) ?_;refine fo ?_;refine fz ?_
 rotate_left
 focus let d:tx J.low=⟨ae,ae,mN J.low.z⟩:=by rw[tx,ad (by simp[k]),ad λs=>h ⟨s.1,by rw[Xj];exact s.2⟩]
 all_goals
  apply f<;>intro l
  .let b:J.high.inf=ae:=by simpa using l
   let o:=j4.LR b;refine aT ?_ (g:=amk o t);apply cL;intro A;refine ch ?_ (g:=Tj aa o v t);exact aa;apply f<;>intro i
   focus
    let c:tw J.high=⟨ae,ae,ew J.high.z-cq⟩:=by rw[tw,ad (by simp[b]),af ⟨i.1,by have:=i.2;rwa [Xk] at this⟩]
    refine ei ?_;refine bw (λ_=>ch aa (g:=agQ)) ?_;refine bw (λ_=>ch aa (g:=aaT v w)) ?_;refine fo ?_;refine fz ?_
   rotate_left
   focus let c:tw J.high=⟨ae,ae,ew J.high.z⟩:=by rw[tw,ad (by simp[b]),ad λs=>i ⟨s.1,by rw[Xk];exact s.2⟩]
   all_goals exact dj br (s:=by rw[eR];unfold AA;rw[d,c];rfl)
  let b:J.high.inf:=by simpa using l
  let c:tw J.high=J.high:=by rw[tw,af b]
  exact dj br (s:=by rw[eR];unfold AA;rw[d,c];rfl)
def arB(J:lr)(B:Z)(i:B<=900)(b:J.md B):bh 99 [Lv J] (aV (oL J)):=by
 refine bs func99 [] λp d=>?_;refine gu ?_;apply f<;>intro c
 .exact aL (s:=by rw[eR,oL,af bi];rfl)
 let k:=by simpa using c
 refine aT ?_ (g:=Tj (j4.LR k.1) (j4.LR k.2) (Dj b.1 q)<|Dj b.2 q);apply cy;intro e;apply cL;refineλh=>cy (λ_=>aa)<|aa;exact aa;exact aL (s:=by rw[eR,oL,ad aK];show V.bool _=_;congr 1;grind[Oa,DF])
def cr(c:Y C):Z:=c.foldl (λd b=>10*d+(ax b-48)) 0
theorem Qz:∀(b:Y C)(c:Z),b.foldl (λc d=>10*c+(ax d-48)) c=c*10^U b+cr b|[],c=>by simp[cr]|d::b,c=>by let f:=Qz b<|10*c+(ax d-48);let g:=Qz b<|10*0+(ax d-48);let e:cr (d::b)=b.foldl _ _:=aa;grind
def CJ(c b:Y C):cr (c++b)=cr c*10^U b+cr b:=by grind[cr,Qz]
theorem Le:cr []=0:=aa
def XM(b:Y C)(c:C):cr (b++[c])=10*cr b+(ax c-48):=by simp[cr,Ve]
theorem EL:∀b:Y C,(∀c∈b,ax c<=57)->cr b<10^U b
|[],_=>cf|c::b,s=>by
 let e:=s c ao;let f:=EL b λd h=>s d aK;rw[show c::b=[c]++b from aa,CJ,cd,pF];let g:cr [c]*10^U b<=9*10^U b:=jo _ (by simp[cr];omega)
 (simp;omega)
def n4(d:X)(c:Z)(b:L):L:=if d then-((c*10^aG (b+30):Z):L) else((c*10^aG (b+30):Z):L)
def Nd{d:X}{c:Z}{b:L}:hp (n4 d c b)=c*10^aG (b+30):=by grind[n4]
def S9{d:X}{b:Z}{c:L}(s:b≠0):d=aH (n4 d b c<0):=by let e:0<b*10^aG (c+30):=z6 q<|oW q;grind[n4]
def anJ{c:X}{d b:Z}:nm c (d*10^b) 1=cC (n4 c d (b:L)):=by refine Fq Nat.one_pos ?_ λs=>?_;rw[Nd,z4,show aG ((b:L)+30)=b+30 by omega,pF,qq];rfl;exact S9 λe=>s aq
def anH{c:X}{d b:Z}(e:b<=30):nm c d (10^b)=cC (n4 c d (-(b:L))):=by refine Fq (oW q) ?_ λs=>S9 s;rw[Nd,show aG (-(b:L)+30)=30-b by omega,qq,<-pF,show 30-b+b=30 by omega];rfl
theorem uM{J:Y C}(s:dh J fr):∀b∈J,48<=ax b/\ax b<=57:=λb c=>by grind[fr]
def XW(J:Y C)(A:dh J fr)(bl:U J<=10000):bh 235 [a8 J] (gW (bK (cr J))):=by
 refine bs func235 [] λp D=>?_;let o:=uM A;refine a1.eK 3 1 3 [3] ai ?_;refine c8 (L×Y Z) (λd=>⟨[(0,_),(4,an aj d.1),(3,.a 3 0<|U<|ab l d.2)],[(3,.j 1 3<|ab l d.2)],[]⟩) (λd=>d.1<=U J/\-4<d.1/\U d.2+d.1<=U J/\(∀I∈d.2,I<10000)/\hz d.2+10000^U d.2*cr (am (aG d.1) J)=cr J) (λd=>aG<|d.1+4) ((U J:L),[]) (λ⟨m,out⟩ aX=>?_) ⟨q,q,ao,ao,by simp[hz]⟩ .r;dsimp only at aX⊢;let⟨G,H,N,z,u⟩:=aX;apply f<;>intro E
 .obtain⟨b,rfl⟩:∃b:Z,m=(b:L):=⟨aG m,q⟩;refine iQ ?_;refine MQ ((b-4:Z):L) ?_;refine c8 (Z×Z) (λe=>⟨[(0,_),(4,_),(5,l e.2),(6,l e.1),(3,.a 3 0<|U<|ab l out)],[(3,.j 1 3<|ab l out)],[]⟩) (λe=>b-4<=e.1/\e.1<=b/\e.2=cr (am (e.1-(b-4))<|ay (b-4) J)) (λe=>b-e.1) (b-4,0) (λ⟨c,h⟩ aU=>?_) ⟨bv _,q,by simp[Le]⟩ .r;dsimp only at aU⊢;let⟨K,M,n⟩:=aU;let t:h<10^4:=by let i:=EL (am (c-(b-4))<|ay (b-4) J) λv s=>(o v<|D6<|pE s).2;rw[<-n] at i;refine jZ i<|pG q ?_;simp;omega
  let t:h<10000:=t;apply f<;>intro F
  .let x:c<U J:=q;let s:=o J[c] (hL x);refine Br ((10*h:Z):L) ?_;refine gK c J[c] ?_;refine iG ((ax J[c]-48:Z):L) ?_ (bu:=by grind[zJ]);refine e7 ((10*h+(ax J[c]-48):Z):L) ?_;refine aY ?_;exact a4 (c+1,10*h+(ax J[c]-48)) ⟨q,q,by
    dsimp only;rw[n,<-XM];congr 1;let i:c-(b-4)<U (ay (b-4) J):=by simp;omega
    rw[show c+1-(b-4)=c-(b-4)+1 by omega,Gw i]<;>simp_all⟩ q .r
  refine cp ?_;refine eB (ab l<|out++[h]) ?_ (aU:=ro) (bl:=aK);refine iQ ?_;exact a4 ((b:L)-4,out++[h]) ⟨q,q,aK,λI bN=>by
   grind,by
   dsimp only;rw[ayA,cd,<-u,show aG ((b:L)-4)=b-4 by omega,Gq,ri,rn];let B:am b J=am (b-4) J++am (b-(b-4)) (ay (b-4) J):=by rw[<-List.take_add];congr 1;omega
   rw[B,CJ,n];let y:U (am (b-(b-4))<|ay (b-4) J)=b-(b-4):=by simp;omega
   let k:c-(b-4)=b-(b-4):=by omega
   rw[y,<-k];simp only[hz,Nat.mul_zero,qp];rcases hN b 4 with w|w;rw[show b-4=0 by omega];simp[Le];rw[show c-(b-4)=4 by omega,show(10:Z)^4=10000 by rfl,B8,qq,l6 10000 (cr _)];omega⟩ q .r
 refine xL 3 ?_;refine aT ?_ (g:=Jv out (cr J) q z (by rw[show aG m=0 by omega] at u;trivial));exact aL
def bD(b:b4):L:=n4 b.neg (cr b.bT) b.exp
theorem Is{b:b4}(s:lX b=0):dh b.bT fr/\U b.bT<=30/\-30<=b.exp/\b.exp<=30/\b.bT≠[]:=by unfold lX at s<;>grind
def arU{b:b4}(s:lX b=0):md 0 (bD b):=by
 let⟨f,g,k,l,m⟩:=Is s;unfold md bD;rw[Nd];let c:=wL<|jZ (EL b.bT λe h=>(uM f e h).2)<|pG q g;let d:10^aG (b.exp+30)<=10^60:=pG q q;let i:=B9 c d
 (simp[c9,pF,Aj,pG];omega)
def anI(R:b4)(n:lX R=0):bh 182 [cm R] (j9 (cC (bD R))):=by
 refine bs func182 [] λp v=>?_;let⟨d,m,s,t,u⟩:=Is n;let i:cr R.bT<10^U R.bT:=EL R.bT λQ o=>(uM d Q o).2;let k:U (bK<|cr R.bT)<=8:=pe<|jZ i<|c9 (pG q m) a2;let e:U (bK 10)<=1:=pe a2;let r:U (bK 1)<=1:=pe a2;apply f<;>intro w
 .obtain⟨b,he⟩:∃b:Z,R.exp=(b:L):=⟨aG R.exp,q⟩;let h:=NE (R:=b) e;let x:=EN (Q:=10^b) k h;let c:=zc R.neg (cr R.bT*10^b) 1 q q q;rw[anJ,<-he] at c;refine ei ?_;refine bw (λ_=>ch aa (g:=XW R.bT d q)) ?_;refine bw (λ_=>ch aa (g:=tS 10 q)) ?_;refine bw (λ_=>ch aa (g:=by have:=adE b q;rw[l,<-he] at this;exact this)) ?_;refine bw (λ_=>ch aa (g:=Bm (cr R.bT) (10^b) q q)) ?_;refine bw (λ_=>ch aa (g:=tS 1 q)) ?_;refine bw (λ_=>ch aa (g:=c)) ?_;refine fo ?_;refine fz ?_;exact dj br
 obtain⟨b,he⟩:∃b:Z,R.exp=-(b:L):=⟨aG<|-R.exp,q⟩;let h:=NE (R:=b) e;let c:=zc R.neg (cr R.bT) (10^b) (oW q) q q;rw[anH q,<-he] at c;refine ei ?_;refine bw (λ_=>ch aa (g:=XW R.bT d q)) ?_;refine bw (λ_=>ch aa (g:=tS 10 q)) ?_;refine bw (λ_=>ab4 (b:L) aa) ?_;refine bw (λ_=>ch aa (g:=adE b q)) ?_;refine bw (λ_=>ch aa (g:=c)) ?_;refine fo ?_;refine fz ?_;exact dj br
def GZ(b:lJ):Prop:=b.has=ag->lX b.n=0
def nk(b:lJ):j4:=if b.has then⟨ae,b.op,bD b.n⟩ else⟨ag,ae,0⟩
def EU{b:lJ}(s:GZ b):(nk b).md 0:=by unfold nk;split;rename_i c;exact arU<|s c;exact dJ _
def q8(J:hq):lr:=if J.oe then AA ⟨nk J.low,nk J.high,ag⟩ else⟨nk J.low,nk J.high,ae⟩
def wx(J:hq):Prop:=GZ J.low/\GZ J.high
def awS{J:hq}(s:wx J):(q8 J).md 2:=by unfold q8;split;exact akW ⟨EU s.1,EU s.2⟩;exact lr.Bi q ⟨EU s.1,EU s.2⟩
def YE(b:lJ)(d:GZ b):bh 131 [CR b] (Yg (nk b)):=by
 refine bs func131 [] λp h=>?_;apply f<;>intro e
 .exact fQ 1 2 [3,4]<|dj br (s:=by rw[eR,nk,ad q,Yg,j4.t,af aa,pV];rfl)
 let c:=by simpa using e
 refine ei ?_;refine bw (λ_=>ch aa (g:=anI b.n<|d c)) ?_;refine fo<|fz ?_;exact dj br (s:=by rw[eR,nk,af c];rfl)
def awW(J:hq)(c:wx J):bh 100 [pX J] (Lv (q8 J)):=by
 refine bs func100 [] λp h=>?_;refine a1.eK 1003 ZM.size 182 [] ai<|ei ?_;refine bw (λ_=>ch aa (g:=YE J.low c.1))<|bw (λ_=>ch aa (g:=YE J.high c.2)) ?_;refine DY 1003 3 ?_;refine fo<|fz ?_;apply f<;>intro b
 .let e:=akY (lr.mk (nk J.low) (nk J.high) J.oe) 0 q ⟨EU c.1,EU c.2⟩;refine aT ?_ (g:=e);exact dj br (s:=by rw[eR,q8,af b,b];rfl)
 exact dj br (s:=by
  let d:J.oe=ae:=by simpa using b
  rw[eR,q8,ad b,d];rfl)
theorem QE{c:C->X}:∀{b:Y C},b.dropWhile c=[]↔dh b c|[]=>ao|d::b=>by by_cases s:c d;simp[s,QE];simp_all
theorem X7{c:C->X}:∀{d:Y C}{b:C}{m:Y C},d.dropWhile c=b::m->c b=ae|[],_,_,s=>by cases s|e::d,b,m,s=>by rw[U9] at s;by_cases f:c e;rw[af f] at s;exact X7 s;simp_all
def amg(b:C):j1 ([48,49,50,51,52,53,54,55,56,57]:Y C) b=fr b:=by have:∀c:Fin 256,j1 ([48,49,50,51,52,53,54,55,56,57]) (gn c.val)=fr (gn c.val):=a2;have s:=this ⟨ax b,mE b⟩;simp_all
def agr(J:Y C):Go.Lib.trimS J [48,49,50,51,52,53,54,55,56,57]=[]↔dh J fr:=by simp only[Go.Lib.trimS,Go.Lib.trimLeftS,Go.Lib.trimRightS,amg];cases c:J.reverse.dropWhile _ with|nil=>grind[QE]|cons b m=>grind[X7,fr,QE]
open Go.Shelf Go.Proofs in
def ags(J:Y C)(d:U J<=1048576):bh 274 [a8 J,a8 [48,49,50,51,52,53,54,55,56,57]] (a8 (Go.Lib.trimS J [48,49,50,51,52,53,54,55,56,57])):=.fixed (.str<|.str .nil) (λc=>.str _) λb=>Any.strings_Trim_laid Tryz.apK cb _ _ b (by show a9 (aO J)<=_;grind) a2<|ascii_of_all a2
def akw(b:b4)(l:U b.bT<=1048576):bh 290 [cm b] (an aj (lX b)):=by
 refine bs func290 [] λp m=>?_;let k:=agr b.bT;apply cy;refineλu=>ch ?_ (g:=ags b.bT l);exact aa;apply f<;>intro e
 .let c:b.bT=[]\/dh b.bT fr=ae:=by rw[k] at e;simpa using e
  exact aL (s:=by rw[lX,af c];rfl)
 let c:¬(b.bT=[]\/dh b.bT fr=ae):=by rw[k] at e;simpa using e
 let v:0<U b.bT:=yh.2 λs=>c<|bj s;apply cL;intro o;refine pq 0 ?_;apply cy;intro r;refine iQ ?_;refine pq (U b.bT-1) ?_;exact aa;exact aa;apply f<;>intro i
 .let d:y b.bT 0 0=48\/y b.bT (U b.bT-1) 0=48:=by simpa[Jz] using i.2
  exact aL (s:=by rw[lX,ad c,ad i.1,af d];rfl)
 let d:¬b.bT=[48]->¬(y b.bT 0 0=48\/y b.bT (U b.bT-1) 0=48):=λs=>by grind[Jz]
 apply cL;intro t;refine gu ?_;exact aa;apply f<;>intro h
 .exact aL (s:=by rw[lX,ad c,af h.1,af h.2];rfl)
 refine cy (λ_=>aa)<|gu ?_;apply f<;>intro n
 .exact aL (s:=by by_cases bN:b.bT=[48];simp_all;rw[lX,ad c,ad bN,ad<|d bN,af q];rfl)
 exact aL (s:=by by_cases bN:b.bT=[48];rw[lX,ad c,af bN,ad λs=>h ⟨bN,s⟩];rfl;rw[lX,ad c,ad bN,ad<|d bN,ad q];rfl)
def yP(c:C)(b:Y C):cr (c::b)=(ax c-48)*10^U b+cr b:=by rw[show c::b=[c]++b from aa,CJ];simp[cr]
def EM{b:C}{c:Y C}(s:dh (b::c) fr):48<=ax b/\ax b<=57/\dh c fr:=by grind[fr]
theorem xf{b:Y C}(s:dh b fr):cr b<10^U b:=EL b λc d=>(uM s c d).2
theorem OC{z Q:C}(s:ax z=ax Q):z=Q:=z9.1 s
def uQ(b:Y C):Prop:=b.getLast?≠W 48
def uQ.tail{c:C}{b:Y C}(s:uQ (c::b)):uQ b:=by grind[uQ,List.getLast?_cons_cons]
def CK:∀{b:Y C},dh b fr->uQ b->b≠[]->0<cr b
|[],_,_,s=>cg aa s|c::b,bN,he,_=>by
 let e:=EM bN;rw[yP];rcases zR (b=[]) with s|s;subst s;have:c≠48:=λd=>he (by simp[d]);have:ax c≠48:=λd=>this (OC cf)
 (simp;omega)
 have:=CK e.2.2 he.tail s;omega
def Xr:∀(c d:Y C)(b:Z),dh c fr->dh d fr->uQ c->uQ d->U c<=b->U d<=b->sn c d=gf (((cr c*10^(b-U c):Z):L)-(cr d*10^(b-U d):Z))
|[],[],b,_,_,_,_,_,_=>by simp[sn,cr,gf]|[],f::d,b,_,t,_,n,_,D=>by have o:=CK t n ao;have x:0<cr (f::d)*10^(b-U (f::d)):=z6 o<|oW q;simp only[sn,Le,ym,gf];omega|e::c,[],b,r,_,m,_,u,_=>by
 have o:=CK r m ao;have x:0<cr (e::c)*10^(b-U (e::c)):=z6 o<|oW q;generalize cr (e::c)*10^(b-U (e::c))=N at x
 (simp[sn,Le,ym,gf,ad];omega)|e::c,f::d,b+1,r,t,m,n,u,D=>by
 have z:=EM r;have A:=EM t;simp only[l5] at u D⊢;have K:=Xr c d b z.2.2 A.2.2 m.tail n.tail q q;have G:=xf z.2.2;have H:=xf A.2.2;have E:10^U c*10^(b-U c)=10^b:=by rw[<-pF];congr 1;omega
 have F:10^U d*10^(b-U d)=10^b:=by rw[<-pF];congr 1;omega
 have I:cr (e::c)*10^(b+1-(U c+1))=(ax e-48)*10^b+cr c*10^(b-U c):=by rw[yP,hZ,qq,show b+1-(U c+1)=b-U c by omega,E]
 have J:cr (f::d)*10^(b+1-(U d+1))=(ax f-48)*10^b+cr d*10^(b-U d):=by rw[yP,hZ,qq,show b+1-(U d+1)=b-U d by omega,F]
 have v:cr c*10^(b-U c)<10^b:=by rw[<-E];exact Pk G<|oW q
 have w:cr d*10^(b-U d)<10^b:=by rw[<-F];exact Pk H<|oW q
 rw[I,J];simp only[sn];rw[K];generalize cr c*10^(b-U c)=g at v;generalize cr d*10^(b-U d)=h at w;generalize 10^b=l at v w;have B:∀i k g h:Z,i<k->g<l->i*l+g<k*l+h:=by intro i k g h s M;have:=jo l (show i+1<=k by omega);rw[hZ,wO] at this;omega
 split;rename_i p;have p:ax e<ax f:=Pm.1 p;have:=B (ax e-48) (ax f-48) g h q v
 (simp[gf,ad,af];omega)
 rename_i p;split;rename_i y;have y:ax f<ax e:=Pm.1 y;have:=B (ax f-48) (ax e-48) h g q w
 (simp[gf,ad];omega)
 grind|e::c,f::d,0,_,_,_,_,u,_=>cf
def Xq:∀{b c:Y C},sn b c=0->b=c|[],[],_=>aa|[],_::_,s=>cf|_::_,[],s=>by grind[sn]|z::b,Q::c,s=>by simp[sn] at s;split at s;cases s;rename_i d;split at s;cases s;rename_i e;let d:¬ax z<ax Q:=λB=>d<|Pm.2 B;let e:¬ax Q<ax z:=λB=>e<|Pm.2 B;rw[OC (z:=z) (Q:=Q) q,Xq s]
def WZ:∀(b d:Y C),U b=U d->dh b fr->dh d fr->ut b d=aH (cr b<cr d)
|[],[],_,_,_=>ba|e::b,f::d,c,t,u=>by
 have n:=EM t;have o:=EM u;have c:=by simpa using c
 rw[ut,WZ b d c n.2.2 o.2.2,yP,yP,<-c];have m:=xf n.2.2;have k:=xf o.2.2;rw[<-c] at k;generalize 10^U b=i at m k;have p:∀g h l r,g<h->l<i->g*i+l<h*i+r:=by intro g h l r s w;have:=jo i (show g+1<=h by omega);rw[hZ,wO] at this;omega
 rcases Gy (ax e) (ax f) with s|s|s;have B:=p (ax e-48) (ax f-48) _ (cr d) q m;grind[UInt8.lt_iff_toNat_lt];grind[OC,UInt8.lt_iff_toNat_lt];have B:=p (ax f-48) (ax e-48) _ (cr b) q k;have v:¬e<f:=λB=>by grind[UInt8.lt_iff_toNat_lt]
 grind|[],_::_,c,_,_=>cf|_::_,[],c,_,_=>ba
def fD(b:b4):Prop:=dh b.bT fr=ag/\-30<=b.exp/\(b.bT=[48]/\b.neg=ae/\b.exp=0\/b.bT≠[]/\b.bT.head?≠W 48/\uQ b.bT)
def fD.Dp{b:b4}(s:fD b)(c:b.bT≠[48]):b.bT≠[]/\b.bT.head?≠W 48/\uQ b.bT:=by rcases s.2.2 with s|s;simp_all;omega
def al5{b:Y C}(bN:dh b fr)(s:b≠[])(d:b.head?≠W 48):10^(U b-1)<=cr b:=by cases b with|nil=>trivial|cons c b=>let f:=EM bN;have:ax c≠48:=λe=>d (by rw[List.head?_cons,show c=48 from OC cf]);rw[yP,l5,Vt];have:=jo (10^U b) (show 1<=ax c-48 by omega);omega
theorem Bx(b:b4):hp (bD b)=cr b.bT*10^aG (b.exp+30):=Nd
def fD.wc{b:b4}(s:fD b):bD b=0↔b.bT=[48]:=by constructor;intro f;apply pD;intro e;let⟨c,g,d⟩:=s.Dp e;let h:0<cr _*10^aG (b.exp+30):=z6 (CK s.1 d c)<|oW q;grind[Bx];grind[bD,Bx,cr]
def fD.neg{c:b4}(s:fD c):c.neg=aH (bD c<0):=by rcases s.2.2 with b|b;rw[s.wc.2 b.1,b.2.1];simp;exact S9<|Nat.pos_iff_ne_zero.1<|CK s.1 b.2.2 b.1
def rb(b c:b4):L:=if gf ((U b.bT:L)+b.exp-U c.bT-c.exp)≠0 then gf ((U b.bT:L)+b.exp-U c.bT-c.exp) else sn b.bT c.bT
theorem ww{b:L}(s:0<b):gf b=1:=by(simp[gf,ad];omega)
theorem wv{b:L}(s:b<0):gf b=-1:=by(simp[gf,ad,af];omega)
def PE{b:b4}(s:fD b)(d:b.bT≠[48]):10^aG ((U b.bT:L)+b.exp+29)<=hp (bD b)/\hp (bD b)<10^aG ((U b.bT:L)+b.exp+30):=by let⟨c,e,f⟩:=s.Dp d;let he:=s.2.1;let g:=yh.2 c;rw[Bx];constructor;rw[show aG (U b.bT+b.exp+29)=U b.bT-1+aG (b.exp+30) by omega,pF];exact jo _<|al5 s.1 c e;rw[show aG (U b.bT+b.exp+30)=U b.bT+aG (b.exp+30) by omega,pF];exact Pk (xf s.1)<|oW q
def Uz{b c:b4}(d:fD b)(e:fD c)(f:b.bT≠[48])(g:c.bT≠[48]):rb b c=gf ((hp (bD b):L)-hp (bD c)):=by let lc:=PE d f;let k:=PE e g;let h:=d.2.1;let i:=e.2.1;unfold rb;rcases JU (U b.bT+b.exp-U c.bT-c.exp) 0 with s|s|s;have:=pG (show 0<10 by decide) (show aG (U b.bT+b.exp+30)<=aG (U c.bT+c.exp+29) by omega);grind[wv];rw[s,ad cf,Xr _ c.bT (aG<|U b.bT+b.exp+30) d.1 e.1 (d.Dp f).2.2 (e.Dp g).2.2 q q,Bx,Bx];grind;have:=pG (show 0<10 by decide) (show aG (U c.bT+c.exp+30)<=aG (U b.bT+b.exp+29) by omega);grind[ww]
def i5(b:b4):L:=if b.bT=[48] then 0 else if b.neg then-1 else 1
def aej{b:b4}(s:fD b):i5 b=gf (bD b):=by unfold i5 gf;simp[s.wc];split;rfl;rw[s.neg];simp
def p9(b c:b4):L:=if i5 b≠i5 c\/i5 b=0 then gf (i5 b-i5 c) else i5 b*rb b c
def FG{h g:b4}(e:fD h)(f:fD g):p9 h g=gf (bD h-bD g):=by
 unfold p9;rw[aej e,aej f];rcases JU _ 0 with d|d|d;rw[wv d];rcases JU _ 0 with b|b|b;rw[wv b,ad a2,Uz e f (λc=>by rw[<-e.wc] at c;omega) λc=>by rw[<-f.wc] at c;omega]
 (simp[gf];omega)
 rw[b,af a2,wv a2,wv q];rw[ww b,af a2,wv a2,wv q];rw[d];rw[af<|bp a2];rcases JU (bD g) 0 with b|b|b;rw[wv b,ww a2,ww q];simp_all;rw[ww b,wv a2,wv q];rw[ww d];rcases JU _ 0 with b|b|b;rw[wv b,af a2,ww a2,ww q];rw[b,af a2,ww a2,ww q];rw[ww b,ad a2,Uz e f (λc=>by rw[<-e.wc] at c;omega) λc=>by rw[<-f.wc] at c;omega];grind
def aru{b c:b4}(e:fD b)(f:fD c)(s:bD b=bD c):b=c:=by
 have o:b.neg=c.neg:=by rw[e.neg,f.neg,s]
 rcases zR (b.bT=[48]) with fq|fq;have m:c.bT=[48]:=by rw[<-f.wc,<-s,e.wc];exact fq
 have d:b.exp=0:=by rcases e.2.2 with d|d;omega;simp_all
 have g:c.exp=0:=by rcases f.2.2 with d|d;omega;simp_all
 cases b;cases c;simp_all;have d:=Uz e f fq λi=>fq (by rw[<-e.wc,s,f.wc];exact i);rw[s,Int.sub_self] at d;unfold rb at d;have p:gf 0=0:=by simp[gf]
 split at d;omega;rename_i g;have k:=Xq d;have h:=by simpa using g
 have l:U b.bT+b.exp-U c.bT-c.exp=0:=by unfold gf at h;split at h;omega;omega
 rw[k] at l;have n:b.exp=c.exp:=q;cases b;simp_all
def M3{b:b4}(s:lX b=0):fD b:=by let⟨c,g,d,h,e⟩:=Is s;refine⟨c,d,?_⟩;unfold lX at s;rw[ad aq] at s;split at s;simp_all;right;split at s;cases s;refine⟨e,?_,?_⟩;grind[List.head?_eq_getElem?];intro f;grind
def oV(B:Z):Y C:=cM B 48
def Lf(B:Z):cr (oV B)=0:=by induction B with|zero=>rfl|succ B b=>trivial
theorem ag2(B:Z):dh (oV B) fr:=by simp[oV,fr]
def avj(B:Z):Go.Lib.repeatL [48] B=oV B:=by induction B with|zero=>rfl|succ B b=>rw[Go.Lib.repeatL,b];rfl
def XL:∀b:Y C,cr (b.dropWhile (·==48))=cr b
|[]=>aa|c::b=>by
 rw[U9];split;rename_i s;have:=by simpa using s
 rw[XL b,yP,this];simp;rfl
def axZ:∀c:Y C,∃B,c=(c.reverse.dropWhile (·==48)).reverse++oV B:=by
 intro c;let f:∀b,∃B,b=oV B++b.dropWhile (·==48):=by
  intro b
  induction b with|nil=>exact⟨0,aa⟩|cons g b e=>rw[U9];split;let⟨B,d⟩:=e;refine⟨B+1,?_⟩;grind[oV];exact⟨0,aa⟩
 let⟨B,d⟩:=f c.reverse;grind[oV,List.reverse_reverse,List.reverse_append]
def X_(b:Y C):(b.dropWhile (·==48)).head?≠W 48:=by induction b with|nil=>simp|cons c b d=>grind[List.dropWhile_cons,List.head?_cons,Option.some.injEq]
def aiY{b:Y C}(s:dh b fr):dh (b.dropWhile (·==48)) fr:=kY.2 λc d=>kY.1 s c<|(ahn _).subset d
theorem acw{c:X}{d B:Z}{b:L}(e:-30<=b):n4 c (d*10^B) b=n4 c d (b+B):=by unfold n4;rw[show aG (b+B+30)=B+aG (b+30) by omega,pF,qq]
def arT{c:X}{b:L}:n4 c 0 b=0:=by simp[n4]
def tG(d:X)(b:Y C)(c:L):b4:=if Go.Lib.trimRightB (Cc b 48) 48=[] then⟨ae,[48],0⟩ else⟨d,Go.Lib.trimRightB (Cc b 48) 48,c+U (Cc b 48)-U (Go.Lib.trimRightB (Cc b 48) 48)⟩
def HA{neg:X}{b:Y C}{exp:L}(s:dh b fr)(l:-30<=exp):fD (tG neg b exp)/\bD (tG neg b exp)=n4 neg (cr b) exp:=by
 unfold tG Go.Lib.trimRightB Go.Lib.trimLeftB;have f:=XL b;have e:=aiY s;have h:=X_ b;generalize b.dropWhile _=I at f e h;let⟨B,c⟩:=axZ I;have i:=X_ I.reverse;generalize I.reverse.dropWhile _=g at c i;split;rename_i d;rw[d,na] at c;refine⟨⟨a2,a2,bj ⟨aa,aa,aa⟩⟩,?_⟩;rw[<-f,c,Lf,arT];rfl;rename_i d;have bN:U I=U g.reverse+B:=by rw[c];simp[oV]
 have k:=by rw[c,List.all_append,m7] at e;exact e.1
 refine⟨⟨k,aK,bp ⟨d,?_,?_⟩⟩,?_⟩;simp_all
 (simp[uQ,List.getLast?_reverse];omega)
 show n4 neg _ _=_;have m:cr I=cr g.reverse*10^B:=by rw[c,CJ,Lf,qp];simp[oV]
 grind[acw]
def lx:Z->Z->Y C|0,_=>[]|b+1,c=>gn (48+c/10^b%10)::lx b c
theorem vK(b d:Z):U (lx b d)=b:=by induction b with|zero=>rfl|succ b c=>rw[lx,l5,c]
def Jy{I:Z}(s:I<10):ax (gn (48+I))=48+I:=by(simp;omega)
def Lg(b d:Z):dh (lx b d) fr:=by
 induction b with
 |zero=>rfl|succ b c=>
  rw[lx,JV,c,Bool.and_true]
  (simp[fr,Jy];omega)
def XV(b c:Z):cr (lx b c)=c%10^b:=by induction b with|zero=>simp[lx,cr,Nat.mod_one]|succ b d=>rw[lx,yP,vK,d,Jy (I:=c/10^b%10)<|rm _ a2,ahD,rn,Nat.mod_mul,l6,ta]
def XU{b d c:Z}(s:d%10^b=c%10^b):lx b d=lx b c:=by
 induction b with
 |zero=>rfl|succ b i=>
  rw[lx,lx];let g:d%10^b=c%10^b:=by let e:=ahN d (10^b) 10;let f:=ahN c (10^b) 10;rw[<-rn] at e f;rw[<-e,<-f,s]
  let h:d/10^b%10=c/10^b%10:=by let e:=ahM d (10^b) 10;let f:=ahM c (10^b) 10;rw[<-rn] at e f;rw[<-e,<-f,s]
  simp_all
def nv(b c:Y C):Y C:=lx (U b+1)<|cr b+cr c
def oI(b c:Y C):Y C:=lx (U b)<|10^U b+cr b-cr c
def adC{z Q:Y C}(d:U z=U Q)(b:dh z fr)(c:dh Q fr):cr (nv z Q)=cr z+cr Q:=by rw[nv,XV,wN];grind[xf,Nat.pow_succ]
def abL{b c:Y C}(d:dh b fr)(s:cr c<=cr b):cr (oI b c)=cr b-cr c:=by let e:=xf d;rw[oI,XV,show 10^U b+cr b-cr c=cr b-cr c+10^U b by omega,ahC,wN q]
def hb(b:Y C)(c:Z):Y C:=oV (c-U b)++b
def FL{H:Y C}{R:Z}(s:U H<=R):U (hb H R)=R:=by grind[hb,oV]
def FK{H:Y C}{R:Z}(s:dh H fr):dh (hb H R) fr:=by grind[hb,ag2]
def Ts{H:Y C}{R:Z}:cr (hb H R)=cr H:=by simp[hb,CJ,Lf]
def fG(b:b4)(c:L):Y C:=b.bT++oV (aG<|b.exp-c)
def Ob{b:b4}{F:L}(s:dh b.bT fr):dh (fG b F) fr:=by grind[fG,ag2]
theorem aws{b:b4}{c:L}:cr (fG b c)=cr b.bT*10^aG (b.exp-c):=by rw[fG,CJ,Lf,qp];simp[oV]
def afp{c:b4}{b:L}(d:-30<=b)(s:b<=c.exp):n4 c.neg (cr (fG c b)) b=bD c:=by grind[aws,acw,bD]
def aca{b c:X}(s:¬b=c):c=!b:=by cases b<;>cases c<;>first|rfl|trivial
def BQ(c d:b4):b4:=let b:=min c.exp d.exp
 let g:=max (U<|fG c b)<|U<|fG d b;let e:=hb (fG c b) g;let f:=hb (fG d b) g
 if c.neg=d.neg then tG c.neg (nv e f) b else if ut e f=ae then tG c.neg (oI e f) b else tG d.neg (oI f e) b
def axt{b c:b4}(k:fD b)(l:fD c):fD (BQ b c)/\bD (BQ b c)=bD b+bD c:=by
 have t:=k.2.1;have u:=l.2.1;have he:-30<=min b.exp c.exp:=q;have o:=afp he<|Int.min_le_left b.exp c.exp;have p:=afp he<|Int.min_le_right b.exp c.exp;have f:=Ob (F:=min b.exp c.exp) k.1;have g:=Ob (F:=min b.exp c.exp) l.1;unfold BQ;dsimp only;generalize min b.exp c.exp=F at*;have lc:=FL<|Nat.le_max_left (U<|fG b F)<|U<|fG c F;have r:=FL<|Nat.le_max_right (U<|fG b F)<|U<|fG c F;rw[<-Ts (H:=fG b F)] at o;rw[<-Ts (R:=max (U<|fG b F)<|U<|fG c F)] at p;have f:=FK (R:=max (U<|fG b F)<|U<|fG c F) f;have g:=FK (R:=max (U<|fG b F)<|U<|fG c F) g;generalize hb (fG b F) _=d at*;generalize hb (fG c F) _=e at*;have m:U d=U e:=by rw[lc,r]
 rw[<-o,<-p];split;have s:=HA (neg:=b.neg) (exp:=F) (Lg (U d+1)<|cr d+cr e) he;rw[<-nv,adC m f g] at s;grind[n4,Nat.add_mul];rename_i n;rw[WZ d e m f g];split;rename_i i;have h:cr e<=cr d:=by have:=Kk i;omega
 have s:=HA (neg:=b.neg) (exp:=F) (Lg (U d)<|10^U d+cr d-cr e) he;rw[<-oI,abL f h] at s;rw[s.2];have:=aca n;unfold n4;grind;rename_i i;have h:cr d<=cr e:=by have:=pJ (by simpa using i);omega
 have s:=HA (neg:=c.neg) (exp:=F) (Lg (U e)<|10^U e+cr e-cr d) he;rw[<-oI,abL g h] at s;rw[s.2];have:=aca λF=>n<|bQ F;unfold n4;grind
open Go.Shelf Go.Proofs in
def alg(b c:Y C):bh 383 [a8 b,a8 c] (an aj (sn b c)):=.C3 (.str<|.str .nil) (λe=>.int ..) λd=>Go.Proofs.Any.strings_Compare Tryz.aaH _ _ d
open Go.Shelf Go.Proofs in
def TV(b:Z)(e:b<=1000000):bh 397 [a8 [48],an aj (b:L)] (a8 (oV b)):=.fixed (.str<|.int .nil) (λd=>by rw[<-avj];exact .str _) λc=>by exact Go.Proofs.Any.strings_Repeat Tryz.apG Tryz.VN _ b c q (by show 1*b<=_;omega)
open Go.Shelf Go.Proofs in
def axY(b:Y C):bh 399 [a8 b,a8 [48]] (a8 (Cc b 48)):=.C3 (.str<|.str .nil) (λd=>.str _) λc=>Go.Proofs.Any.strings_TrimLeft_one Tryz.apL _ 48 a2 c
open Go.Shelf Go.Proofs in
def ax1(b:Y C)(e:U b<=1000000):bh 400 [a8 b,a8 [48]] (a8 (Go.Lib.trimRightB b 48)):=.C3 (.str<|.str .nil) (λd=>.str _) λc=>Go.Proofs.Any.strings_TrimRight_one Tryz.apM _ 48 a2 c (by show a9 (aO b)<=_;grind)
def axX(b:Y C):U (Cc b 48)<=U b:=(ahn _).length_le
def ax0(b:Y C):U (Go.Lib.trimRightB b 48)<=U b:=by grind[Go.Lib.trimRightB,List.length_reverse,Nat.le_trans,List.dropWhile_sublist]
def adI(d:b4):bh 360 [cm d] (an aj (i5 d)):=by
 refine bs func360 [] λp e=>?_;apply f<;>intro b
 .exact aL (s:=by rw[i5,af b];rfl)
 apply f<;>intro c
 .exact aL (s:=by rw[i5,ad b,af c];rfl)
 exact aL (s:=by rw[i5,ad b,ad c];rfl)
def adP{ap:L}:bh 361 [an aj ap] (an aj (gf ap)):=by refine bs func361 [] λp b=>?_;refine Bq (min 1 ap)<|MQ _ (s:=by(simp[gf];omega))<|aL
def axx(b c:b4)(h:U b.bT<=1000000/\-1000000<=b.exp/\b.exp<=1000000)(i:U c.bT<=1000000/\-1000000<=c.exp/\c.exp<=1000000):bh 362 [cm b,cm c] (an aj (rb b c)):=by
 refine bs func362 [] λp e=>?_;refine aY ?_;refine iQ ?_;refine iQ<|aT ?_ (g:=adP);apply f<;>intro d
 .exact aL (s:=by rw[rb,af d];rfl)
 refine aT ?_ (g:=alg _ _);exact aL (s:=by rw[rb,ad d];rfl)
def axw(d e:b4):-1<=rb d e/\rb d e<=1:=by
 let g:∀f, -1<=gf f/\gf f<=1:=λf=>by(simp[gf];omega)
 let h:∀c b, -1<=sn c b/\sn c b<=1:=by
  intro c
  induction c with
  |nil=>intro b;cases b<;>(simp only[sn];omega)|cons d c i=>intro b;cases b with|nil=>simp[sn]|cons e b=>grind[sn]
 grind[rb]
def NR(b:b4):-1<=i5 b/\i5 b<=1:=by(simp[i5];omega)
def Ti(b c:b4):-9223372036854775808<=i5 b*rb b c/\i5 b*rb b c<=9223372036854775807:=by let d:=axw b c;grind[i5]
def atH(b c:b4)(e:U b.bT<=1000000/\-1000000<=b.exp/\b.exp<=1000000)(h:U c.bT<=1000000/\-1000000<=c.exp/\c.exp<=1000000):bh 331 [cm b,cm c] (an aj (p9 b c)):=by
 refine bs func331 [] λp i=>?_;let k:=NR b;let iy:=NR c;refine fA<|ch (g:=adI b)<|ch ?_ (g:=adI c);refine gu ?_;apply f<;>intro d
 .refine iQ<|aT ?_ (g:=adP (ap:=i5 b-i5 c));exact aL (s:=by rw[p9,af d];rfl)
 refine aT ?_ (g:=axx b c e h);exact Ih (s:=(Ti b c).1) (hG:=(Ti b c).2)<|aL (s:=by rw[p9,ad d];rfl)
def wy(b c:Y C)(B:Z):Z:=cr (ay B b)+cr (ay B c)
theorem Qy{b:Y C}{B:Z}(s:B<U b):cr (ay B b)=(ax b[B]-48)*10^(U b-(B+1))+cr (ay (B+1) b):=by rw[l3 s,yP,B2]
def Ld{b:Y C}(c:dh b fr)(B:Z):cr (ay B b)<10^(U b-B):=by grind[EL,uM,List.mem_of_mem_drop,List.length_drop]
def q1(b c:Y C)(B:Z):Y C:=cM (B+1) 0++lx (U b-B) (wy b c B)
def qG(b c:Y C)(B:Z):Z:=wy b c B/10^(U b-B)
def ac4{b c:Y C}{B:Z}(s:B<=U b):U (q1 b c B)=U b+1:=by grind[q1,List.length_append,List.length_replicate,vK]
theorem K0{b c:Y C}(e:dh b fr)(f:dh c fr)(g:U b=U c)(B:Z):qG b c B<=1:=by let h:=Ld e B;let d:=Ld f B;rw[<-g] at d;unfold qG wy;have:(cr (ay B b)+cr (ay B c))/10^(U b-B)<2:=(Pg q).2 q;omega
theorem Ux{b c:Y C}{B:Z}(d:U b=U c)(s:B<U b):wy b c B=(ax b[B]-48+(ax c[B]-48))*10^(U b-(B+1))+wy b c (B+1):=by grind[wy,Qy,Nat.add_mul]
def akm{b c:Y C}{B:Z}(d:U b=U c)(s:B<U b):qG b c B=(ax b[B]-48+(ax c[B]-48)+qG b c (B+1))/10:=by unfold qG;rw[Ux d s,show U b-B=U b-(B+1)+1 by omega,rn,<-Pe];simp[ta,Pd,oW]
def asy{b c:Y C}{B:Z}(f:U b=U c)(s:B<U b):aR (q1 b c (B+1)) (B+1) (gn (48+(ax b[B]-48+(ax c[B]-48)+qG b c (B+1))%10))=q1 b c B:=by
 unfold q1;rw[show U b-B=U b-(B+1)+1 by omega,lx];let d:wy b c B/10^(U b-(B+1))=ax b[B]-48+(ax c[B]-48)+qG b c (B+1):=by rw[Ux f s,ta<|_*_,Pd _ _ aK,ta];rfl
 let e:lx (U b-(B+1)) (wy b c B)=lx (U b-(B+1)) (wy b c<|B+1):=XU (by grind[Ux,Nat.add_comm,Nat.add_mul_mod_self_right]);rw[d,e,Vq (n:=B+1),eS,z0 _ _ ao];simp
def asw{b c:Y C}(d:dh b fr)(e:dh c fr)(f:U b=U c):aR (q1 b c 0) 0 (gn (48+qG b c 0))=nv b c:=by have:=K0 d e f 0;unfold q1 nv;grind[lx,qG,cr,wy,Nat.mod_eq_of_lt]
def asx{b c:Y C}:q1 b c (U b)=cM (U b+1) 0:=by rw[q1,oX,lx,gv]
def akl{b c:Y C}(d:U b=U c):qG b c (U b)=0:=by grind[qG,wy,List.drop_length,cr]
def agm{c:L}{b m:Z}(s:c=b):c.tmod (m:L)=((b%m:Z):L):=aK
def agf{c:L}{b m:Z}(s:c=b):c.tdiv (m:L)=((b/m:Z):L):=aq
def Ud{d:Y C}{c:Z}{b:C}:aR (ab bF d) c (bF b)=ab bF (aR d c b):=ao
def Qi{c:Y C}{b:Z}(s:b<U c):(ab bF c)[b]?=W (bF c[b]):=aq
def Tt(c:Y C)(b:Z)(e:U c<=b)(f:b<=1000000):bh 386 [a8 c,an aj (b:L)] (a8 (hb c b)):=by refine bs func386 [] λp d=>?_;refine jG _<|aT ?_ (g:=TV (b-U c) q);exact SX (s:=by grind[oV])<|aL
def adD(b d:Y C)(e:U b=U d)(h:dh b fr)(aM:dh d fr)(x:U b<=1000000):bh 385 [a8 b,a8 d] (a8 (nv b d)):=by
 refine bs func385 [] λp u=>?_;refine aY ?_;refine kS (U b+1) (U b+1) (ab bF<|q1 b d<|U b) ?_ (aU:=by rw[asx,B3];rfl);refine iQ<|c8 Z (λB=>⟨[(0,_),(1,_),(6,an ez (qG b d B:Z)),(7,an aj<|(B:L)-1),(5,.a 12 0<|U b+1)],[(12,.j 1 5<|ab bF<|q1 b d B)],[]⟩) (λB=>B<=U b) (λB=>B) (U b) (λB w=>?_) (bv _) ⟨⟨aa,aa,(by rw[akl e];rfl),aa,aa,b5⟩,⟨aa,b5⟩,aa,aa⟩;apply f<;>intro v
 .obtain⟨c,rfl⟩:∃c,B=c+1:=⟨B-1,q⟩;let i:c<U b:=q;let n:=K0 h aM e<|c+1;let g:c+1<U (q1 b d<|c+1):=by rw[ac4 q];omega
  let o:=uM h b[c] (hL i);let t:=uM aM d[c] (hL q);let l:=Jy (I:=(ax b[c]-48+(ax d[c]-48)+qG b d (c+1))%10)<|rm _ a2;refine fA ?_;refine gK c b[c] ?_;refine gK c d[c] ?_;refine e7 ((c+1:Z):L) ?_;refine MS (((ax b[c]-48+(ax d[c]-48)+qG b d (c+1))%10:Z):L) ?_ (s:=agm (m:=10) Kb);refine Ij ((qG b d c:Z):L) ?_ (s:=by rw[akm e i];exact agf (m:=10) Kb) (h1:=E_ q (by grind[K0]));refine cE (c+1) ?_;refine fF (ab bF<|q1 b d c) (bF<|(q1 b d<|c+1)[c+1]'g) (an ez _) ?_ (k:=Qi g) (aU:=by rw[<-asy e i,<-Ud,bF,l];grind[zJ]);refine jG ((c:L)-1) ?_;exact a4 c (bA:=.r)
 obtain rfl:B=0:=q;let n:=K0 h aM e 0;let g:0<U (q1 b d 0):=by rw[ac4 q];omega
 let l:=Jy (I:=qG b d 0) q;refine cE 0 ?_;refine fF (ab bF<|nv b d) (bF<|(q1 b d 0)[0]'g) (an ez _) ?_ (k:=Qi g) (aU:=by rw[<-asw h aM e,<-Ud,bF,l];grind[zJ]);refine rU (nv b d) ?_ (hlen:=by rw[nv,vK]) (aM:=by simp[qn,kC,nv,vK]);exact aL
def DN(b c:Y C)(B:Z):Z:=10^(U b-B)+cr (ay B b)-cr (ay B c)
def w8(b c:Y C)(B:Z):Z:=if cr (ay B b)<cr (ay B c) then 1 else 0
def yO(b c:Y C)(B:Z)(d e:C):Z:=10+(ax d-48)-(ax e-48)-w8 b c (B+1)
def tV(b c:Y C)(B:Z):Y C:=cM B 0++lx (U b-B) (DN b c B)
def ast{b c:Y C}{B:Z}(s:B<=U b):U (tV b c B)=U b:=by grind[tV,List.length_append,List.length_replicate,vK]
def ajW(b c:Y C)(B:Z):w8 b c B<=1:=by grind[w8]
def afQ{c f:Y C}{B:Z}(r:dh c fr)(t:dh f fr)(J:U c=U f)(s:B<U c):∃i,DN c f B=yO c f B c[B] f[B]*10^(U c-(B+1))+i/\i<10^(U c-(B+1))/\DN c f (B+1)%10^(U c-(B+1))=i/\w8 c f B=1-yO c f B c[B] f[B]/10:=by
 have o:U f-(B+1)=U c-(B+1):=q;have y:=Qy s;have p:=Qy (show B<U f by omega);rw[o] at p;have M:=Ld r<|B+1;have E:=Ld t<|B+1;rw[o] at E;have A:10^(U c-B)=10^(U c-(B+1))*10:=by rw[show U c-B=U c-(B+1)+1 by omega,rn]
 have F:=uM r c[B] (hL s);have G:=uM t f[B] (hL q);have L:ax f[B]-48<=9:=q;unfold DN w8 yO w8;rw[y,p,A];generalize 10^(U c-(B+1))=b at*;generalize cr (ay (B+1) c)=g at*;generalize cr (ay (B+1) f)=h at*;generalize ax c[B]-48=d at*;generalize ax f[B]-48=e at*;have w:∀m n:Z,m<=n->m*b<=n*b:=λm n s=>jo b s;have v:∀i l:Z,l<=1->i<b->10*b+(d*b+g)-(e*b+h)=(10+d-e-l)*b+i->(if d*b+g<e*b+h then 1 else 0)=1-(10+d-e-l)/10:=by
  intro i l H K k;generalize bN:10+d-e-l=I at*;split;have:I<10:=by apply B7;intro u;have:=w 10 I u;omega
  omega;have:¬I<10:=by intro u;have:=w (I+1) 10 q;rw[hZ,wO] at this;omega
  omega
 have z:b*10=10*b:=l6 ..;rw[z];split
 .rename_i D;have k:10*b+(d*b+g)-(e*b+h)=(10+d-e-1)*b+(b+g-h):=by
   have x:10*b+d*b=(10+d-e-1)*b+e*b+b:=by
    rw[show 10*b+d*b=(10+d)*b by grind,show 10+d=10+d-e-1+e+1 by omega,hZ,hZ,wO];congr 3
    all_goals omega
   omega
  refine⟨b+g-h,k,q,wN q,v _ 1 q q k⟩
 .rename_i D;have k:10*b+(d*b+g)-(e*b+h)=(10+d-e-0)*b+(g-h):=by
   have x:10*b+d*b=(10+d-e-0)*b+e*b:=by
    rw[show 10*b+d*b=(10+d)*b by grind,show 10+d=10+d-e-0+e by omega,hZ];congr 3
    all_goals omega
   omega
  refine⟨g-h,k,q,?_,v _ 0 q q k⟩;rw[show b+g-h=g-h+b by omega,ahC,wN q]
def asu{b c:Y C}{B:Z}(f:dh b fr)(g:dh c fr)(h:U b=U c)(s:B<U b):aR (tV b c (B+1)) B (gn (48+yO b c B b[B] c[B]%10))=tV b c B:=by
 let⟨m,d,e,l,_⟩:=afQ f g h s;unfold tV;rw[show U b-B=U b-(B+1)+1 by omega,lx];have i:DN b c B/10^(U b-(B+1))=yO b c B b[B] c[B]:=by rw[d,ta _,Pd _ _ q,Vu e,mC]
 have k:lx _ (DN b c B)=lx (U b-(B+1)) (DN b c (B+1)):=XU (by grind[Nat.add_comm,Nat.add_mul_mod_self_right,Nat.mod_eq_of_lt]);simp_all[Vq,eS,z0]
def ass{b c:Y C}:tV b c (U b)=cM (U b) 0:=by rw[tV,oX,lx,gv]
def ajV{b c:Y C}(d:U b=U c):w8 b c (U b)=0:=by rw[w8,U_,d,U_,ad q]
def asv{b c:Y C}:tV b c 0=oI b c:=ba
def abM(b d:Y C)(i:U b=U d)(g:dh b fr)(aM:dh d fr)(D:U b<=1000000):bh 398 [a8 b,a8 d] (a8 (oI b d)):=by
 refine bs func398 [] λp x=>?_;refine kS (U b) (U b) (ab bF<|tV b d<|U b) ?_ (aU:=by rw[ass,B3];rfl);refine iQ<|c8 Z (λB=>⟨[(0,_),(1,_),(6,an ez (w8 b d B:Z)),(7,an aj<|(B:L)-1),(5,.a 11 0<|U b)],[(11,.j 1 5<|ab bF<|tV b d B)],[]⟩) (λB=>B<=U b) (λB=>B) (U b) (λB A=>?_) (bv _) ⟨⟨aa,aa,(by rw[ajV i];rfl),aa,aa,b5⟩,⟨aa,b5⟩,aa,aa⟩;apply f<;>intro z
 .obtain⟨c,rfl⟩:∃c,B=c+1:=⟨B-1,q⟩;have h:c<U b:=q;have y:=ajW b d<|c+1;have l:c<U (tV b d (c+1)):=by rw[ast q];omega
  have v:=uM g b[c] (hL h);have w:=uM aM d[c] (hL q);have bN:yO b d c b[c] d[c]=10+(ax b[c]-48)-(ax d[c]-48)-w8 b d (c+1):=aa;let⟨_,_,_,_,o⟩:=afQ g aM i h;have n:=asu g aM i h;have r:yO b d c b[c] d[c]<=19:=(by grind[yO]);generalize yO b d c b[c] d[c]=e at bN o n r;have t:=Jy (I:=e%10)<|rm _ a2;refine fA<|gK c b[c]<|gK c d[c]<|MS ((e%10:Z):L) ?_ (s:=agm (m:=10) Kb);refine Ij ((e/10:Z):L) ?_ (s:=agf (m:=10) Kb);refine cE c ?_;refine fF (ab bF<|tV b d c) (bF<|(tV b d<|c+1)[c]'l) (an ez _) (k:=Qi l) (aU:=by rw[<-n,<-Ud,bF,t];grind[zJ])<|jG ((c:L)-1)<|a4 c (bA:=⟨⟨aa,aa,(by exact ea (λu=>W<|V.int ez u) Kb),aa,aa,b5⟩,⟨aa,b5⟩,aa,aa⟩)
 obtain rfl:B=0:=q;exact rU (oI b d) (hlen:=by rw[oI,vK]) (aM:=by simp[qn,asv,kC,oI,vK])<|aL
def LO(e:X)(b:Y C)(c:L)(k:U b<=900000)(i:-1000000<=c/\c<=1000000):bh 387 [aV e,a8 b,an aj c] (cm (tG e b c)):=by
 refine bs func387 [] λp h=>?_;let l:=axX b;let m:=ax0<|Cc b 48;refine aT (g:=axY b)<|aT ?_ (g:=ax1 (Cc b 48) q);apply f<;>intro d
 .exact dj br (s:=by rw[eR,tG,af d];rfl)
 refine aY<|iQ<|dj br (s:=by rw[eR,tG,ad d];rfl)
def Small(b:b4):Prop:=U b.bT<=100000/\-100000<=b.exp/\b.exp<=100000
def afo(b:b4)(c:L):U (fG b c)=U b.bT+aG (b.exp-c):=by simp[fG,oV]
def at1(b c:b4)(i:fD b)(k:fD c)(v:Small b)(w:Small c):bh 384 [cm b,cm c] (cm (BQ b c)):=by
 refine bs func384 [] λp G=>?_;let⟨x,y,z⟩:=v;let⟨A,B,C⟩:=w;let D:=i.2.1;let E:=k.2.1;obtain⟨F,he⟩:∃F,min b.exp c.exp=F:=⟨_,aa⟩;let lc:=afo b F;let I:=afo c F;let o:=Ob (F:=F) i.1;let r:=Ob (F:=F) k.1;obtain⟨R,t⟩:∃R,max (U (fG b F)) (U (fG c F))=R:=⟨_,aa⟩;let l:U (fG b F)<=R:=q;let m:U (fG c F)<=R:=q;let n:=FL l;let u:=FL m;let d:=FK (R:=R) o;let e:=FK (R:=R) r;let dM:BQ b c=if b.neg=c.neg then tG b.neg (nv (hb (fG b F) R)<|hb (fG c F) R) F else if ut (hb (fG b F) R) (hb (fG c F) R)=ae then tG b.neg (oI (hb (fG b F) R)<|hb (fG c F) R) F else tG c.neg (oI (hb (fG c F) R)<|hb (fG b F) R) F:=by unfold BQ;dsimp only;rw[he,t]
 let dC:U (nv (hb (fG b F) R)<|hb (fG c F) R)=R+1:=by rw[nv,vK,n]
 let eA:U (oI (hb (fG b F) R)<|hb (fG c F) R)=R:=by rw[oI,vK,n]
 let J:U (oI (hb (fG c F) R)<|hb (fG b F) R)=R:=by rw[oI,vK,u]
 refine Bq F ?_;refine fA ?_;refine jG ((aG (b.exp-F):Z):L) ?_;refine ch ?_ (g:=TV (aG<|b.exp-F) q);refine SX ?_ (s:=by grind[oV]);refine fA ?_;refine jG ((aG (c.exp-F):Z):L) ?_;refine ch ?_ (g:=TV (aG<|c.exp-F) q);refine SX ?_ (s:=by grind[oV]);refine MQ (R:L) ?_ (s:=by grind[max,fG]);refine aT ?_ (g:=Tt (fG b F) R l q);refine aT ?_ (g:=Tt (fG c F) R m q);refine SM ?_;apply f<;>intro h
 .refine ei ?_;refine bw (λ_=>ch aa (g:=adD (hb (fG b F) R) (hb (fG c F) R) q d e q)) ?_;refine bw (λ_=>ch aa (g:=LO b.neg (nv (hb (fG b F) R)<|hb (fG c F) R) F q q)) ?_;refine fo ?_;refine fz ?_;exact dj br (s:=by rw[dM,af h];rfl)
 apply f<;>intro H
 .refine ei ?_;refine bw (λ_=>ch aa (g:=abM (hb (fG b F) R) (hb (fG c F) R) q d e q)) ?_;refine bw (λ_=>ch aa (g:=LO b.neg (oI (hb (fG b F) R)<|hb (fG c F) R) F q q)) ?_;refine fo ?_;refine fz ?_;exact dj br (s:=by rw[dM,ad h,af aq];rfl)
 refine ei ?_;refine bw (λ_=>ch aa (g:=abM (hb (fG c F) R) (hb (fG b F) R) q e d q)) ?_;refine bw (λ_=>ch aa (g:=LO c.neg (oI (hb (fG c F) R)<|hb (fG b F) R) F q q)) ?_;refine fo ?_;refine fz ?_;exact dj br (s:=by rw[dM,ad h,ad aq];rfl)
def amD{b c:b4}(d:fD b)(e:fD c)(f:Small b)(h:Small c):bh 363 [cm b,cm c] (cm (BQ b c)):=by refine bs func363 [] λp i=>?_;refine aT ?_ (g:=at1 b c d e f h);exact dj br
def LC(b c:b4)(d:Small b)(e:Small c):bh 293 [cm b,cm c] (an aj (p9 b c)):=by refine bs func293 [] λp i=>?_;let f:=d.2.1;let h:=e.2.1;refine aT ?_ (g:=atH b c ⟨c9 d.1 q,q,Int.le_trans d.2.2 q⟩ ⟨c9 e.1 q,q,Int.le_trans e.2.2 q⟩);exact aL
def atI(b:L):bh 388 [an aj b] (cm ⟨ae,[49],b⟩):=by refine bs func388 [] λp c=>?_;exact dj br
def i0(b:b4)(c:L):Y C:=if 0<(U b.bT:L)-(c-b.exp) then am (aG<|(U b.bT:L)-(c-b.exp)) b.bT else[48]
def C4(b:b4)(c:L):b4:=if c<=b.exp\/b.bT=[48] then b
 else tG b.neg (if b.neg then nv (i0 b c) (hb [49] (U<|i0 b c)) else i0 b c) c
def Y0{b:b4}(e:fD b)(d:L):dh (i0 b d) fr:=by unfold i0;split;exact kY.2 λc f=>kY.1 e.1 c aK;rfl
def Y1{b:b4}{F:L}(s:b.bT≠[]):1<=U (i0 b F)/\U (i0 b F)<=U b.bT:=by grind[List.length_pos_iff,i0,List.length_take]
def ans{b:b4}(d:fD b)(i:b.bT≠[48]){c:L}(r:b.exp<c):cr (i0 b c)=cr b.bT/10^aG (c-b.exp)/\cr b.bT%10^aG (c-b.exp)≠0:=by
 let e:=d.Dp i;unfold i0;split;generalize hm:aG ((U b.bT:L)-(c-b.exp))=m;let l:aG (c-b.exp)=U (ay m b.bT):=by rw[B2];omega
 let f:dh (ay m b.bT) fr:=kY.2 λh p=>kY.1 d.1 h aK;let g:=xf f;let o:cr b.bT=cr (am m b.bT)*10^U (ay m b.bT)+cr (ay m b.bT):=by
  conv=>lhs;rw[bQ<|D_ m b.bT]
  rw[CJ]
 rw[l];let n:0<cr (ay m b.bT):=by
  refine CK f ?_ ?_;unfold uQ;let k:(ay m b.bT).getLast?=b.bT.getLast?:=by rw[List.getLast?_drop,ad q]
  rw[k];exact e.2.2;grind
 rw[o];refine⟨?_,?_⟩;rw[ta,Pd _ _ q,Vu g,mC];grind[Nat.add_comm,Nat.add_mul_mod_self_right,Nat.mod_eq_of_lt];let g:=xf d.1;let s:10^U b.bT<=10^aG (c-b.exp):=pG q q;let n:=CK d.1 e.2.2 e.1;rw[Vu q,wN q];refine⟨aa,q⟩
def Q3{z:b4}(d:fD z){F:L}(g:-30<=F):fD (C4 z F)/\bD (C4 z F)=bD z/(10^aG (F+30):Z)*(10^aG (F+30):Z):=by
 unfold C4;split;rename_i s;have B:((10^aG (F+30):Z):L) ∣ bD z:=by
  rcases s with s|s;have y:10^aG (F+30) ∣ hp (bD z):=by rw[Bx];exact Nat.dvd_trans (Nat.pow_dvd_pow 10 q)<|Nat.dvd_mul_left _ _
  grind[Int.ofNat_dvd_left];rw[d.wc.2 s]<;>simp_all
 grind[Int.ediv_mul_cancel];rename_i s;have s:=not_or.1 s;have m:z.exp<F:=q;let⟨k,D⟩:=ans d s.2 m;have i:=Y0 d F;have t:=Y1 (F:=F) (d.Dp s.2).1;have x:=d.2.1;have o:10^aG (F+30)=10^aG (F-z.exp)*10^aG (z.exp+30):=by rw[<-pF];congr 1;omega
 have u:0<10^aG (z.exp+30):=oW q;have h:0<10^aG (F-z.exp):=oW q;cases n:z.neg with
 |false=>rw[ad a2];have:=HA (neg:=ae) i g;rw[this.2,k];unfold bD n4;generalize 10^aG (z.exp+30)=c at*;simp_all|true=>
  rw[af aa];have pl:=FL (H:=[49]) (R:=U<|i0 z F) t.1;have v:=FK (H:=[49]) (R:=U<|i0 z F) a2;have p:=adC (z:=i0 z F) (Q:=hb [49] (U<|i0 z F)) (bQ pl) i v;have:=HA (neg:=ag) (exp:=F) (Lg (U (i0 z F)+1)<|cr (i0 z F)+cr (hb [49] (U<|i0 z F))) g;rw[<-nv,p,Ts] at this;rw[this.2,k,show cr [49]=1 from aa];unfold bD n4;rw[n,af aa,af aa,o];generalize 10^aG (z.exp+30)=c at*;generalize 10^aG (F-z.exp)=b at*;generalize cr z.bT=I at*;have w:-((I*c:Z):L)/((b*c:Z):L)=-((I/b+1:Z):L):=by
   have bN:I=b*(I/b)+I%b:=bQ<|yj I b;have C:=rm I h;generalize I/b=e at*;generalize I%b=f at*;have l:(0:L)<((b*c:Z):L):=by have:=z6 h u;omega
   refine((Int.ediv_emod_unique l (r:=(((b-f)*c:Z):L)) (q:=-((e+1:Z):L))).2 ⟨?_,q,?_⟩).1;have A:I*c+(b-f)*c=(e+1)*(b*c):=by rw[<-hZ,bN,show b*e+f+(b-f)=b*(e+1) by grind,l6 b,qq]
   grind
   (simp_all;omega)
  grind
structure mb where
 o:X
 w:X
 deriving DecidableEq,l9
def hr(b:mb):V:=b2 [aV b.o,aV b.w]
structure eJ where
 x:Y b4
 on:Y X
 hF:Y mb
def lP(J:eJ):V:=b2 [.al 3 (ab cm J.x),.al 1<|ab bE J.on,.al 2<|ab hr J.hF]
def OL(b:b4):X:=aH<|0<=b.exp
def mb.has(b:mb)(c:b4):X:=if OL c then b.w else b.o
def ayW(b:b4):bh 330 [cm b] (aV (OL b)):=by refine bs func330 [] λp c=>?_;exact aL
def Zk(c:mb)(b:b4):bh 292 [hr c,cm b] (aV (c.has b)):=by
 refine bs func292 [] λp e=>?_;refine aT ?_ (g:=ayW b);apply f<;>intro d
 .exact aL (s:=by rw[mb.has,af d];rfl)
 exact aL (s:=by rw[mb.has,ad d];rfl)
def oT(b:lJ)(c:mb):X:=!b.op&&c.has b.n
def afG(d:lJ)(h s f:mb)(e:Y b4)(i:Y X)(c:Y mb)(r:U e<=1000)(t:U i<=1000)(u:U c<=1000)(v:0<U c):dF 291 [CR d,hr h,hr s,b 6003,b 6004] [(6003,ah 274 (b2 [.a 5001 0 (U (ab cm e)),.a 5002 0 (U (ab bE i)),.a 5003 0 (U (ab hr c))])),(5001,.j 3 107 (ab cm e)),(5002,.j 1 4 (ab bE i)),(5003,.j 2 385 (ab hr c)),(6004,ah 385 (hr f))] (cv []) [(6003,ah 274 (b2 [.a 5001 0 (U (ab cm (e++[d.n]))),.a 5002 0 (U (ab bE (i++[oT d f]))),.a 5003 0 (U (ab hr (aR c (U c-1) h++[s])))])),(5001,.j 3 107 (ab cm (e++[d.n]))),(5002,.j 1 4 (ab bE (i++[oT d f]))),(5003,.j 2 385 (ab hr (aR c (U c-1) h++[s]))),(6004,ah 385 (hr f))]:=by
 refine c4 func291 [] λw p m=>?_;have o:U (ab hr c)=U c:=bm _;refine cp ?_;refine eB (ab cm<|e++[d.n]) ?_ (aU:=ro) (bl:=bi);refine ei ?_;refine u_ (λl=>?_) λl=>?_
 focus refine bw (λ_=>ch aa (g:=Zk f d.n)) ?_
 all_goals refine bw (λ_=>kr aa) ?_;refine jY 27 (ab bE<|i++[oT d f]) ?_ (aU:=by rw[dc];simp at l;simp only[oT,l];rfl) (bl:=bi);refine fo ?_;refine jz [(27,5002)] ?_;refine iQ ?_;refine cE (U c-1) ?_;refine fF (ab hr<|aR c (U c-1) h) (hr c[U c-1]) (hr h) ?_ (k:=qT q) (aU:=by rw[hl]);refine cp ?_;refine eB (ab hr<|aR c (U c-1) h++[s]) ?_ (aU:=ro) (bl:=bi);exact cJ
def zk:eJ:=⟨[],[],[⟨ae,ae⟩]⟩
def ack:bh 257 [] (lP zk):=by refine bs func257 [] λp b=>?_;refine cp<|fQ 3 0 [0]<|fQ 1 0 [1] ?_;exact dj br
def ar4:bh 365 [] (cm ⟨ae,[49],0⟩):=by refine bs func365 [] λp b=>?_;refine aT ?_ (g:=atI 0);exact dj br
def Nl:b4:=⟨ae,[49],0⟩
def acJ:fD Nl:=⟨a2,a2,bp ⟨a2,a2,by unfold uQ;decide⟩⟩
def ar3:Small Nl:=⟨a2,a2,a2⟩
theorem ar2:bD Nl=cq:=a2
def w0(b:b4):b4:=BQ (C4 b 0) Nl
def ah_:((10^aG ((0:L)+30):Z):L)=cq:=a2
def KD{b:b4}(s:fD b):fD (w0 b)/\bD (w0 b)=ew (bD b)+cq:=by let⟨c,d⟩:=Q3 (F:=0) s a2;let⟨e,f⟩:=axt c acJ;refine⟨e,?_⟩;rw[w0,f,d,ar2,ah_];rfl
def sv(B:Z)(b:b4):Prop:=U b.bT<=B/\-30<=b.exp/\b.exp<=B
def sv.small{B:Z}{b:b4}(s:sv B b)(c:B<=100000):Small b:=⟨c9 s.1 c,by have:=s.2.1;omega,by have:=s.2.2;omega⟩
def Ug{b:b4}(s:lX b=0):sv 30 b:=by let⟨c,d,e,f,g⟩:=Is s;trivial
def afv{b:b4}{c:Z}(s:fD b)(i:hp (bD b)<10^c):sv (c+1) b:=by
 rcases zR (b.bT=[48]) with e|e;let d:b.exp=0:=by rcases s.2.2 with d|d;omega;simp_all
 refine⟨aq,q,q⟩;let d:=(PE s e).1;let f:=s.2.1;let h:aG (U b.bT+b.exp+29)<c:=by apply B7;intro g;have:=pG (show 0<10 by decide) g;omega
 exact⟨q,f,q⟩
def V1{b:b4}{B:Z}(s:fD b)(c:sv B b):hp (bD b)<10^(2*B+30):=by rw[Bx];let d:=xf s.1;let e:10^U b.bT<=10^B:=pG a2 c.1;rw[show 2*B+30=B+(B+30) by omega,pF];exact jZ (Pk q aK)<|Gz _<|pG a2 (by have:=c.2.2;omega)
def ant{b:b4}{B:Z}(s:fD b)(d:sv B b):sv (2*B+64) (C4 b 0):=by let⟨c,e⟩:=Q3 (F:=0) s a2;refine afv c ?_;let f:=V1 s d;grind[cq,bD]
def aiq{R:b4}(d:fD R)(m:sv 30 R):bh 332 [cm R] (cm (w0 R)):=by
 refine bs func332 [] λp A=>?_;refine aT (g:=(by
  refine bs func364 [26,32] λv B=>?_;let⟨w,x,y⟩:=m.small a2;refine gu ?_;apply f<;>intro h
  .exact dj br (s:=by rw[eR,C4,af h];rfl)
  let n:=not_or.1 h;let o:=(d.Dp n.2).1;let k:=Y1 (F:=0) o;let t:=Y0 d 0;let pl:=FL (H:=[49]) (R:=U<|i0 R 0) k.1;let u:=FK (H:=[49]) (R:=U<|i0 R 0) a2;let E:U (nv (i0 R 0)<|hb [49] (U<|i0 R 0))=U (i0 R 0)+1:=by rw[nv,vK]
  refine gZ (Y C) (λe=>⟨[(1,an aj 0),(2,b 2),(4,b 4),(5,a8 e)],[(2,ah 107<|cm R),(4,ah 107<|V.zero Rv.z)],[]⟩) (λe=>e=i0 R 0) ?_ λe l=>?_
  .refine iQ ?_;refine iQ ?_;apply f<;>intro D
   .exact n1 0 (aG<|(U R.bT:L)-(0-R.exp))<|dn (am (aG<|(U R.bT:L)-(0-R.exp)) R.bT) (by rw[i0,af q])
   exact dn [48] (by rw[i0,ad q])
  refine gZ (Y C) (λc=>⟨[(1,an aj 0),(2,b 2),(4,b 4),(5,a8 c)],[(2,ah 107<|cm R),(4,ah 107<|V.zero Rv.z)],[]⟩) (λc=>c=if R.neg then nv (i0 R 0) (hb [49] (U<|i0 R 0)) else i0 R 0) ?_ λc r=>?_
  .apply f<;>intro i
   .subst l;refine aT (g:=Tt [49] (U<|i0 R 0) k.1 q)<|aT (g:=adD (i0 R 0) (hb [49] (U<|i0 R 0)) q t u q)<|dn (nv (i0 R 0)<|hb [49] (U<|i0 R 0))<|bQ<|af i
   subst l;exact dn (i0 R 0)<|bQ<|ad i
  refine aT ?_ (g:=LO R.neg c 0 aK q);exact dj br (s:=by rw[eR,C4,ad h,<-r];rfl)))<|aT (g:=ar4)<|aT ?_ (g:=amD (Q3 d a2).1 acJ ((ant d m).small a2) ar3)
 exact dj br
def ir(J:hq):mb:=⟨!J.oe,ag⟩
def oK:mb:=⟨ae,ae⟩
def rY(J:hq):L:=if J.low.has/\J.high.has then p9 J.low.n J.high.n else-1
def iF(J:hq):eJ:=if J.low.has then⟨[J.low.n],[oT J.low (ir J)],[oK,ir J]⟩ else⟨[],[],[ir J]⟩
def lD(J:hq):eJ:=if 0<rY J then zk
 else if rY J=0 then⟨[J.low.n],[oT J.low (ir J)&&!J.high.op],[oK,oK]⟩
 else if J.high.has then⟨(iF J).x++[J.high.n],(iF J).on++[oT J.high (ir J)],(iF J).hF.set ((iF J).hF.length-1) (ir J)++[oK]⟩
 else iF J
def aqa(J:hq):(iF J).x.length<=1/\(iF J).on.length=(iF J).x.length/\(iF J).hF.length=(iF J).x.length+1:=by unfold iF;split<;>simp
theorem acK{J:hq}(s:rY J=0):J.low.has/\J.high.has/\iF J=⟨[J.low.n],[oT J.low (ir J)],[oK,ir J]⟩:=by unfold rY at s;split at s;rename_i b;exact⟨b.1,b.2,by rw[iF,af b.1]⟩;cases s
def afT(J:hq)(u:Small J.low.n)(v:Small J.high.n):bh 255 [pX J] (lP (lD J)):=by
 refine bs func255 [23,2010,38] λp B=>?_;refine n0 ?_;refine gZ L (λd=>⟨[(1,b 1),(2,b 2),(3,b 3),(4,b 4),(5,eo (c1 291) [] [b 4,b 3]),(6,an aj d)],[(1,ah 111<|pX J),(2,ah 274<|V.zero A8.z),(3,ah 385<|hr<|ir J),(4,ah 274<|b2 [.bo,.bo,.a 13 0 1]),(13,.j 2 385 [hr (ir J)])],[]⟩) (λd=>d=rY J) ?_ λd e=>?_
 .refine i4 ?_;apply f<;>intro l
  .refine aT ?_ (g:=LC J.low.n J.high.n u v);exact dn (p9 J.low.n J.high.n) (by rw[rY,af l])
  exact dn (-1) (by rw[rY,ad l])
 apply f<;>intro h
 .refine aT ?_ (g:=ack);exact dj br (s:=by rw[eR,lD,<-e,af h];rfl)
 refine gZ j3 (λw=>⟨[(1,b 1),(2,b 2),(3,b 3),(4,b 4),(5,eo (c1 291) [] [b 4,b 3]),(7,aV<|aH<|d=0)],[(1,ah 111<|pX J),(2,ah 274<|V.zero A8.z),(3,ah 385<|hr<|ir J),(4,ah 274<|b2 [.a 1100 0 (U<|(iF J).x.map cm),.a 1101 0<|U<|(iF J).on.map bE,.a 13 0<|U<|(iF J).hF.map hr]),(13,.j 2 385<|(iF J).hF.map hr),(1100,.j 3 107<|(iF J).x.map cm),(1101,.j 1 4<|(iF J).on.map bE)],[]⟩) (λ_=>dW) ?_ λw D=>?_
 .refine a1.eK 1100 3 107 [] (W (4,0)) ?_;refine a1.eK 1101 1 4 [] (W (4,1)) ?_;refine dA ?_;apply f<;>intro m
  .have i:iF J=⟨[J.low.n],[oT J.low (ir J)],[oK,ir J]⟩:=by rw[iF,af m]
   rw[i];refine bG [(6003,4),(6004,3),(5001,1100),(5002,1101),(5003,13)] ?_ (g:=afG J.low oK (ir J) (ir J) [] [] [ir J] ao ao ao ao);exact dn ()
  have i:iF J=⟨[],[],[ir J]⟩:=by rw[iF,ad m]
  rw[i];exact dn ()
 have C:=aqa J;apply f<;>intro c
 .have c:d=0:=by simpa using c
  obtain⟨y,A,t⟩:=acK<|e▸c;rw[t];refine ei ?_;refine bw (λ_=>cE 0 aa (k:=ao)) ?_;refine bw (λ_=>fl (bE<|oT J.low<|ir J) aa) ?_;refine u_ (λr=>?_) λr=>?_
  all_goals refine bw (λ_=>cE 0 aa (k:=ao)) ?_;refine uk (ab bE [oT J.low (ir J)&&!J.high.op]) (bE<|oT J.low<|ir J) _ ?_ (aU:=by simp only[r];rfl);refine fz ?_;refine cE 1 ?_ (k:=ao);refine fF (ab hr [oK,oK]) (hr<|ir J) (hr oK) ?_;refine gq 1100 ?_;refine gq 1101 ?_;refine gq 13 ?_;exact dj br (s:=by rw[eR,lD,<-e,ad h,af c];rfl)
 apply f<;>intro o
 .refine bG [(6003,4),(6004,3),(5001,1100),(5002,1101),(5003,13)] ?_ (g:=afG J.high (ir J) oK (ir J) (iF J).x (iF J).on (iF J).hF q q q q);refine gq 1100 ?_;refine gq 1101 ?_;refine gq 13 ?_;exact dj br (s:=by rw[eR,lD,<-e,ad h,ad (by simpa using c),af o];rfl)
 refine gq 1100 ?_;refine gq 1101 ?_;refine gq 13 ?_;exact dj br (s:=by rw[eR,lD,<-e,ad h,ad (by simpa using c),ad o];rfl)
def aoN{b:Y X}{c:Z}(f:c<U b)(e:b[c])(g:∀d,d<c->b[d]?≠W ag):(if j1 b ag then((h2 ag b:Z):L) else-1)=(c:L):=by
 have hm:j1 b ag:=by rw[OZ];exact e▸hL f
 rw[af hm];congr 1;have h:h2 ag b<U b:=vq aq;rcases Gy (h2 ag b) c with s|s|s;grind;exact s;have:=List.not_of_lt_findIdx s;simp_all
def aoP{b:Y X}(d:∀c,c<U b->b[c]?≠W ag):(if j1 b ag then((h2 ag b:Z):L) else-1)=-1:=by grind[List.mem_iff_getElem?,List.getElem?_eq_some_iff]
def aoU(c:Y X)(n:U c<=1000000):bh 333 [.al 1 (ab bE c),aV ag] (an aj (if j1 c ag then(h2 ag c:Z) else-1)):=by
 refine bs func333 [] λp i=>?_;refine gN (U c) (λb=>∀d,d<b->c[d]?≠W ag) (λb=>⟨[(0,_),(1,_),(7,_),(8,l b)],[],[]⟩) (λb k=>?_) (bA:=.r);apply f<;>intro m
 .let g:b<U c:=q;refine bB b (bE c[b]) ?_ (k:=aq);refine SM ?_;apply f<;>intro e
  .exact aL (s:=by rw[aoN g (bQ e) k.2];rfl)
  refine aY ?_;exact a4 (b+1) ⟨q,λd h=>by grind⟩
 exact aL (s:=by rw[aoP λd h=>k.2 d q];rfl)
def alo(b:Y X)(c:U b<=1000000):bh 295 [.al 1 (ab bE b),aV ag] (aV (j1 b ag)):=by refine bs func295 [] λp d=>?_;refine aT ?_ (g:=aoU b c);exact aL (s:=by show V.bool _=_;congr 1;grind)
def yy(b:Y b4):Prop:=(∀e∈b,fD e/\Small e)/\∀c d(k:c<U b)(f:d<U b),c<d->bD b[c]<bD b[d]
def low(b:Y b4)(c:b4):Z:=b.countP λd=>aH<|bD d<bD c
def A4(b:Y b4)(c:b4):X:=fB b λd=>aH<|bD d=bD c
def aba{c:Y b4}{e:b4}{d:Z}(o:d<=U c)(n:∀b(g:b<U c),b<d->bD c[b]<bD e)(i:∀b(g:b<U c),d<=b->bD e<=bD c[b]):low c e=d:=by
 unfold low;let m:=bQ<|D_ d c;let k:(am d c).countP (λf=>aH<|bD f<bD e)=U (am d c):=by rw[U6];intro f h;obtain⟨b,g,rfl⟩:=Vn.1 h;exact oY aK
 let l:(ay d c).countP (λf=>aH<|bD f<bD e)=0:=by rw[U7];intro f h;obtain⟨b,g,rfl⟩:=List.mem_drop_iff_getElem.1 h;have:=i (d+b) q q;simp;omega
 grind
def aol{c:Y b4}{e:b4}{d:Z}(g:yy c)(l:d<=U c)(i:∀b(f:b<U c),b<d->bD c[b]<bD e)(k:∀b(f:b<U c),d<=b->bD e<=bD c[b]):A4 c e=if s:d<U c then aH (bD c[d]=bD e) else ae:=by unfold A4;rw[nA,zS];constructor;rintro⟨n,h,he⟩;obtain⟨b,f,rfl⟩:=m_.1 h;let m:d<=b:=Pj λs=>aK;rcases hN d b with s|s;have:=g.2 d b q f s;grind;grind;grind
theorem N_{b:L}:gf b<0↔b<0:=awq
def aj1{d:Y b4}(i:b4)(o:yy d)(D:fD i)(E:Small i)(P:U d<=1000000):bh 375 [.al 3 (ab cm d),cm i,eo (c1 293) [] []] (cv [l (low d i),aV (A4 d i)]):=by
 refine bs func375 [] λp M=>?_;refine c8 (Z×Z) (λm=>⟨[(0,_),(2,_),(4,b 4),(8,_),(9,l m.1),(10,l m.2)],[(4,_)],[]⟩) (λm=>m.1<=m.2/\m.2<=U d/\(∀h(n:h<U d),h<m.1->bD d[h]<bD i)/\∀h(n:h<U d),m.2<=h->bD i<=bD d[h]) (λm=>m.2-m.1) (0,U d) (λ⟨c,e⟩ aX=>?_) ⟨dJ _,bv _,λh n s=>q,λh n s=>q⟩ ⟨⟨aa,aa,aa,aa,aa,(by show W (V.int aj (U (ab cm d):L))=W (V.int aj (U d:L));simp),b5⟩,⟨aa,b5⟩,aa,aa⟩;dsimp only at aX⊢;let⟨O,C,z,B⟩:=aX;apply f<;>intro N
 .let v:(c+e)/2<U d:=q;let t:=o.1 _<|hL v;refine e7 ((c+e:Z):L) ?_;refine iG ((c+e:Z):L) ?_;refine qX (((c+e)/2:Z):L) ?_ (s:=by show((c+e:Z):L).fdiv 2=_;grind);refine iG (((c+e)/2:Z):L) ?_;refine fA ?_;refine bB ((c+e)/2) (cm d[(c+e)/2]) ?_ (k:=qT v);refine ch ?_ (g:=by have:=LC d[(c+e)/2] i t.2 E;rw[FG t.1 D] at this;exact this);apply f<;>intro G
  .refine aY ?_;exact a4 ((c+e)/2+1,e) ⟨q,q,λh n s=>by dsimp only at s;rcases hN h ((c+e)/2) with w|w;have:=o.2 h ((c+e)/2) n v w;grind[N_];grind[N_],λh n s=>aq⟩ q .r
  exact a4 (c,(c+e)/2) ⟨q,q,λh n s=>aq,λh n s=>by dsimp only at s;let w:¬bD d[(c+e)/2]-bD i<0:=λs=>G<|N_.2 s;rcases hN ((c+e)/2) h with x|x;have:=o.2 ((c+e)/2) h v n x;omega;grind⟩ q .r
 obtain rfl:c=e:=q;let K:=aba C z B;let J:=aol o C z B;refine fA ?_;apply cL;intro H;let u:c<U d:=by simpa using H
 let t:=o.1 _<|hL u;let I:y d c av=d[c]:=by rw[dX,cT u];rfl
 refine jV c (cm<|y d c av) ?_ (k:=eZ u);refine ch ?_ (A:=an aj<|gf<|bD (y d c av)-bD i) (g:=by have:=LC d[c] i t.2 E;rw[FG t.1 D] at this;rw[I];trivial);exact aa;exact aL (s:=by rw[K,J];refine ea (λF=>V.tuple [an aj (c:L),aV F]) ?_;rw[bm];by_cases u:c<U d;grind[DF];grind)
def atx(J:eJ)(b:b4)(f:yy J.x)(d:fD b)(e:Small b)(c:U J.x<=1000000):bh 337 [lP J,cm b] (cv [l (low J.x b),aV (A4 J.x b)]):=by refine bs func337 [] λp h=>?_;refine aT ?_ (g:=aj1 b f d e c);exact aL
def eJ.ok(J:eJ):Prop:=yy J.x/\(∀b∈J.x,sv 30 b)/\U J.on=U J.x/\U J.hF=U J.x+1/\U J.x<=100000
def eJ.has(J:eJ)(b:b4):X:=if A4 J.x b then y J.on (low J.x b) ae else(y J.hF (low J.x b) av).has b
def aqb(b:Y b4)(c:b4):low b c<=U b:=D3
def aqc{b:Y b4}{c:b4}(s:A4 b c):low b c<U b:=by let⟨f,e,he⟩:=zS.1 s;unfold low;refine Nat.lt_of_le_of_ne D3 λd=>?_;rw[U6] at d<;>grind
def acd(J:eJ)(b:b4)(i:J.ok)(d:fD b)(e:Small b):bh 300 [lP J,cm b] (aV (J.has b)):=by
 refine bs func300 [] λp l=>?_;let⟨h,u,t,m,n⟩:=i;let o:=aqb J.x b;refine aT ?_ (g:=atx J b h d e q);apply f<;>intro c
 .let r:=aqc c;refine bB (low J.x b) (bE<|y J.on (low J.x b) ae) ?_ (k:=aq);exact aL (s:=by rw[eJ.has,af c];rfl)
 refine fA<|bB (low J.x b) (hr<|y J.hF (low J.x b) av) ?_ (k:=eZ q);refine ch ?_ (g:=Zk (y J.hF (low J.x b) av) b);exact aL (s:=by rw[eJ.has,ad c];rfl)
def eJ.JH(J:eJ)(b:Z):X:=if b=0\/b=U J.x then ag else aH (bD (w0<|y J.x (b-1) av)<bD (y J.x b av))
def air{c:b4}(s:fD c)(h:sv 30 c):Small (w0 c):=by
 let⟨d,e⟩:=KD s;let i:=V1 s h;let f:hp (bD<|w0 c)<10^93:=by rw[e];unfold ew;let g:=Int.mul_ediv_add_emod (bD c) cq;let k:=Int.emod_nonneg (bD c) (b:=cq) a2;let l:=ahi (bD c) (b:=cq) a2;rw[OW] at g;let m:(cq:L)=1000000000000000000000000000000:=a2;let n:10^(2*30+30)=1000000000000000000000000000000000000000000000000000000000000000000000000000000000000000000:=a2;let o:10^93=1000000000000000000000000000000000000000000000000000000000000000000000000000000000000000000000:=a2;omega
 exact(afv d f).small a2
def eJ.xq(J:eJ)(b:Z):X:=(y J.hF b av).o||(y J.hF b av).w&&J.JH b
def eJ.empty(J:eJ):X:=if∃b,b<U J.hF/\J.xq b then ae else ! j1 J.on ag
def S1{J:eJ}(bA:J.ok):bh 256 [lP J] (aV J.empty):=by
 refine bs func256 [] λp D=>?_;let G:=bA.2.2.2.1;let O:=bA.2.2.2.2;let S:=bA.2.2.1;refine gN (U J.hF) (λc=>∀d,d<c->J.xq d≠ag) (λc=>⟨[(1,b 1),(6,_),(7,_),(8,l c)],[(1,_)],[]⟩) (λc k=>?_) (λd s=>q) .r;apply f<;>intro F
 .let o:c<U J.hF:=q;refine bB c (hr<|y J.hF c av) ?_ (k:=eZ o);apply cy;intro I;apply cL;refineλK=>ch (A:=aV<|J.JH c) (g:=(by
    let M:=q;refine bs func294 [] λB E=>?_;let⟨t,z,R,L,P⟩:=bA;let Q:U (ab cm J.x)=U J.x:=bm _;refine fA<|gu ?_;apply cy;intro H;let h:y J.x (c-1) av=J.x[c-1]:=by rw[dX,cT q];rfl
    let v:y J.x c av=J.x[c]:=by rw[dX,cT q];rfl
    let e:=t.1 _<|hL<|show c-1<U J.x by omega
    let i:=t.1 _<|hL<|show c<U J.x by omega
    let m:=z _<|hL<|show c-1<U J.x by omega
    let u:=KD e.1;refine iQ ?_;refine jV (c-1) (cm<|y J.x (c-1) av) ?_ (k:=eZ q);refine ch (A:=cm<|w0<|y J.x (c-1) av) (g:=by rw[h];exact aiq e.1 m)<|jV c (cm<|y J.x c av) ?_ (k:=eZ q);exact ch (A:=an aj<|gf<|bD (w0<|y J.x (c-1) av)-bD (y J.x c av)) (g:=by have:=LC (w0 J.x[c-1]) J.x[c] (air e.1 m) i.2;rw[FG u.1 i.1] at this;rw[h,v];trivial)<|aa;exact aL (s:=by
     refine ea V.bool ?_;unfold eJ.JH;by_cases C:c=0\/c=U J.x
     (simp_all;omega)
     grind[N_])))<|aa
  exact aa;apply f<;>intro n
  .let w:J.xq c:=by unfold eJ.xq;simpa using n
   exact aL (s:=by rw[eJ.empty,af ⟨c,o,w⟩];rfl)
  let T:J.xq c≠ag:=by unfold eJ.xq;simpa using n
  refine aY ?_;exact a4 (c+1) ⟨q,λd N=>by grind⟩ (bA:=.r)
 refine aT ?_ (g:=alo J.on q);exact aL (s:=by rw[eJ.empty,ad];rfl;grind)
def asg(b c:X):bh 259 [aV b,aV c] (aV (b||c)):=by refine bs func259 [] λp d=>?_;refine gu ?_;exact aL
def an9(b:Z)(h:0<b)(g:b<=1000000):dF 334 [.bo,an aj (b:L)] [] (.a 22 0 0) [(22,.j 3 107 [])]:=by
 refine c4 func334 [] λi p c=>?_;apply f<;>intro e
 .omega
 refine SN<|iQ ?_;refine jG b ?_;apply f<;>intro d
 .refine SN<|ark<|aq5 b 0 [] ?_;exact zj 0 0 0 0<|cJ
 omega
def Lu(b:Y b4):V:=.al 3<|ab cm b
def YZ{a:Y (Y b4)}{b:Z}(s:b<U a):iV (am (b+1) a)=iV (am b a)++a[b]:=by grind[List.take_succ_eq_append_getElem,List.flatten_append]
def YW(a:Y (Y b4))(b:Z):(am b a).flatten.length<=U (iV a):=by grind[List.take_append_drop,List.flatten_append,List.length_append]
def alj(a:Y (Y b4))(m:0<U (iV a))(bl:U (iV a)<=1000000)(v:U a<=1000000):dF 296 [.al 1 (ab Lu a)] [] (.a 24 0 (U (ab cm (iV a)))) [(24,.j 3 107 (ab cm (iV a)))]:=by
 refine c4 func296 [] λA p o=>?_;refine e9 (U a) (λc=>⟨[(0,_),(3,l (am c a).flatten.length),(9,_),(10,_),(11,l c)],[],[]⟩) (λc k=>?_) .r;apply f<;>intro s
 .let h:c<U a:=q;let n:=YW a<|c+1;let d:=YZ h;let e:=ea U d;rw[cd] at e;let w:U (ab cm a[c])=U a[c]:=bm _;refine bB c (Lu a[c]) ?_ (k:=qT h);refine e7 (((am (c+1) a).flatten.length:Z):L) ?_;apply f<;>intro t
  .omega
  refine aY ?_;exact a4 (c+1) (bA:=.r)
 obtain rfl:c=U a:=q;rw[iJ];refine bG [(22,24)] ?_ (g:=an9 (U<|iV a) m bl);refine e9 (U a) (λb=>⟨[(25,_),(26,_),(27,l b),(6,.a 24 0<|U<|(am b a).flatten.map cm)],[(24,.j 3 107<|(am b a).flatten.map cm)],[]⟩) (λb y=>?_) .r;apply f<;>intro u
 .let i:b<U a:=q;let n:=YW a<|b+1;let d:=YZ i;let e:=ea U d;let x:U ((am (b+1) a).flatten.map cm)=(am (b+1) a).flatten.length:=bm _;refine bB b (Lu a[b]) ?_ (k:=qT i);refine eB ((am (b+1) a).flatten.map cm) (gi:=.al aa aa aa aa (λI bN=>by obtain⟨z,_,rfl⟩:=dI.1 bN;rfl)) (aU:=aq) (bl:=q)<|aY ?_;exact a4 (b+1) (bA:=.r)
 obtain rfl:b=U a:=q;rw[iJ];exact cJ
def YX{a:Y (Y b4)}(s:iV a=[]){b:Z}(c:b<U a):a[b]=[]:=by grind[List.flatten_eq_nil_iff,List.getElem_mem]
def ali(a:Y (Y b4))(d:iV a=[])(x:U a<=1000000):bh 296 [.al 1 (ab Lu a)] .bo:=by
 refine bs func296 [] λp m=>?_;refine e9 (U a) (λb=>⟨[(0,_),(3,an aj 0),(9,_),(10,_),(11,l b)],[],[]⟩) (λb k=>?_) .r;apply f<;>intro o
 .let e:b<U a:=q;refine bB b (.al 3 []) ?_ (k:=by rw[db,cT e,YX d e];rfl);refine e7 0 ?_ (s:=aa);apply f<;>intro u
  .omega
  refine aY ?_;exact a4 (b+1) (bA:=.r)
 refine aT (g:=(by
    refine bs func334 [] λi n=>?_;apply f<;>intro w
    .omega
    refine SN<|iQ ?_;refine jG 0 ?_;apply f<;>intro t
    .omega
    exact aL))<|e9 (U a) (λc=>⟨[(6,.bo),(25,_),(26,_),(27,l c)],[],[]⟩) (λc y=>?_) .r
 apply f<;>intro v
 .let h:c<U a:=q;refine bB c (.al 3 []) ?_ (k:=by rw[db,cT h,YX d h];rfl);refine aq3<|aY ?_;exact a4 (c+1) (bA:=.r)
 exact aL
def fv(c:Y b4):Z->Y b4|0=>[]|b+1=>if b≠0/\y c b av=y c (b-1) av then fv c b else fv c b++[y c b av]
theorem XA(b:Y b4)(c:Z):U (fv b (c+1))<=U (fv b c)+1:=by grind[fv]
def Xy(c:Y b4):∀b,U (fv c b)<=b|0=>by simp[fv]|b+1=>by have:=Xy c b;grind[XA]
def Xz(c:Y b4)(B:Z):∀b,U (fv c (B+b))<=U (fv c B)+b|0=>ao|b+1=>by have:=Xz c B b;grind[XA,Nat.add_assoc]
def K7{c:Y b4}:∀(B:Z),B<=U c->(∀b,b<B->b≠0->y c b av≠y c (b-1) av)->fv c B=am B c|0,_,_=>ba|B+1,f,s=>by rw[fv,ad λd=>s B q d.1 d.2,K7 B q λb e=>s b q,Gw q,dX,cT _];rfl
def aqL{p b:Y b4}{c:b4}(s:U p<U b):aR (p++ay (U p) b) (U p) c=p++[c]++ay (U (p++[c])) b:=by rw[z0 _ _ q,oX,l3 s,J0,eS,cd];rfl
def aqK{p b:Y b4}(s:U p<=U b):U (p++ay (U p) b)=U b:=aq
def A1{c:Y b4}{b:Z}(s:b<U c):y c b av=c[b]:=aq
def FX(b c:b4):wU bL 107 [aV b.neg,a8 b.bT,an aj b.exp] [aV c.neg,a8 c.bT,an aj c.exp] (aH (b=c)):=by have s:=auq b.neg b.bT c.neg c.bT (n:=b.exp) (tv:=c.exp);have f:aH (b.neg=c.neg/\b.bT=c.bT/\b.exp=c.exp)=aH (b=c):=tc.2 ⟨λ⟨d,e,n⟩=>by cases b<;>simp_all,λs=>aq⟩;simp_all
def alf(b:Y b4)(t:Z)(P:U b<=1000000)(D:t=U (ab cm b)):dF 298 [.a 5001 0 t] [(5001,.j 3 107 (ab cm b))] (.a 5001 0 (U (ab cm (fv b (U b))))) [(5001,.j 3 107 (ab cm (fv b (U b))))]:=by
 subst D;refine c4 func298 [] λX p K=>?_;have Q:U (ab cm b)=U b:=bm _;apply f<;>intro N
 .have i:fv b (U b)=b:=by rw[K7 (U b) (bv _) λe n h=>q,iJ]
  rw[i];exact cJ
 refine c8 Z (λB=>⟨[(0,.a 5001 0<|U<|ab cm b),(3,l B)],[(5001,.j 3 107<|ab cm b)],[]⟩) (λB=>1<=B/\B<=U b/\∀e,e<B->e≠0->y b e av≠y b (e-1) av) (λB=>U b-B) 1 (λB ⟨O,z,o⟩=>?_) ⟨q,q,λe n h=>q⟩;apply f<;>intro L
 .have A:B<U b:=q;refine fA ?_;refine cE B ?_;refine fl (cm<|y b B av) ?_ (k:=eZ A);refine iQ ?_;refine cE (B-1) ?_;refine fl (cm<|y b (B-1) av) ?_ (k:=eZ q);refine Fw (FX (y b B av)<|y b (B-1) av) ?_;apply f<;>intro u
  .have G:fv b (B+1)=fv b B:=by rw[fv,af ⟨q,u⟩]
   have w:fv b B=am B b:=K7 B z o;have x:U (fv b B)=B:=by rw[w,nD];omega
   refine zj B (U b) B (U b-B) ?_;refine c8 (Z×Z×Y V) (λd=>⟨[(0,.a 5001 0<|U<|ab cm b),(3,l d.2.1),(4,.a 5001 B<|U b-B),(5,l d.1)],[(5001,.j 3 107 d.2.2)],[]⟩) (λd=>1<=d.1/\B+d.1<=U b/\d.2.1=U (fv b<|B+d.1)/\d.2.2=ab cm (fv b (B+d.1)++ay (U<|fv b<|B+d.1) b)) (λd=>U b-d.1) (1,B,ab cm b) (λ⟨c,m,T⟩ aX=>?_) ⟨bv _,q,aq,aq⟩;dsimp only at aX⊢;obtain⟨R,S,rfl,rfl⟩:=aX;have r:=Xz b (B+1)<|c-1;rw[G,x,show B+1+(c-1)=B+c by omega] at r;have C:U (ab cm (fv b (B+c)++ay (U (fv b (B+c))) b))=U b:=by rw[bm,aqK q]
   apply f<;>intro M
   .have s:B+c<U b:=q;have get:∀g,U (fv b (B+c))<=g->g<U b->(ab cm (fv b (B+c)++ay (U (fv b (B+c))) b))[g]?=W (cm (y b g av)):=λg I J=>by simp_all
    refine fA ?_;refine SO c ?_;refine fl (cm<|y b (B+c) av) ?_ (k:=get _ q s);refine iQ ?_;refine SO (c-1) ?_;refine fl (cm<|y b (B+(c-1)) av) ?_ (k:=get _ q q);refine abU (FX (y b (B+c) av)<|y b (B+(c-1)) av) ?_;apply f<;>intro v
    .have E:fv b (B+c+1)=fv b (B+c)++[y b (B+c) av]:=by rw[fv,ad λH=>v (by rw[show B+(c-1)=B+c-1 by omega]<;>grind)]
     refine SO c ?_;refine fl (cm<|y b (B+c) av) ?_ (k:=get _ q s);refine cE (U<|fv b<|B+c) ?_;refine fF (ab cm<|fv b (B+c)++[y b (B+c) av]++ay (U<|fv b (B+c)++[y b (B+c) av]) b) (cm<|y b (U<|fv b<|B+c) av) (cm<|y b (B+c) av) ?_ (k:=get _ (bv _) q) (aU:=by rw[<-hl,aqL q]);refine aY ?_;refine aY ?_;exact a4 (c+1,U (fv b<|B+c)+1,ab cm<|fv b (B+c)++[y b (B+c) av]++ay (U<|fv b (B+c)++[y b (B+c) av]) b) ⟨q,q,aK,aK⟩ q
    have E:fv b (B+c+1)=fv b (B+c):=by rw[fv,af ⟨q,by rw[show B+c-1=B+(c-1) by omega]<;>simp_all⟩]
    refine aY ?_;exact a4 (c+1,U<|fv b<|B+c,ab cm<|fv b (B+c)++ay (U<|fv b<|B+c) b) ⟨q,q,aK,aK⟩ q
   obtain F:B+c=U b:=q;rw[F] at r C⊢;refine zj (U<|fv b<|U b) (U b) (U<|fv b<|U b) (U b-U (fv b<|U b)) ?_;refine abZ (ab cm<|fv b<|U b) ?_ (aU:=ao);refine zj 0 (U<|fv b<|U b) 0 (U<|ab cm<|fv b<|U b) ?_ (Ro:=ao);exact cJ
  refine aY ?_;exact a4 (B+1) ⟨q,q,λe n h=>by grind⟩
 have i:fv b (U b)=b:=by rw[K7 (U b) (bv _) λe n h=>o e q h,iJ]
 rw[i];exact cJ
structure nM where
 name:Y C
 shape:L
 Bo:X
 deriving l9
def fw(b:nM):V:=b2 [a8 b.name,an aj b.shape,aV b.Bo]
structure gh where
 null:X
 km:L
 dR:Y hq
 re:X
 kd:Y C
 ht:X
 eL:Y L
 item:L
 min:L
 max:L
 kb:X
 dG:Y nM
 rest:L
def ha(J:gh):V:=b2 [aV J.null,an aj J.km,.al 11<|ab pX J.dR,aV J.re,a8 J.kd,aV J.ht,.al 1<|ab gI J.eL,an aj J.item,an aj J.min,an aj J.max,aV J.kb,.al 3<|ab fw J.dG,an aj J.rest]
def mh(b:lJ):L:=if b.has then lX b.n else if b.op\/b.n≠⟨ae,[],0⟩ then 2 else 0
def lg(b B:L):X:=aH (B<0)||aH (b<=B)
def mu(J:gh)(b:L):L:=if J.ht=ae then(if((0<U J.eL\/J.item≠0)\/J.min≠0)\/J.max≠0 then 2 else 0)
 else if 10<U J.eL then 3 else if fB J.eL (lg b) then 9
 else if((J.item≠-1/\lg b J.item\/J.min<0)\/1000<J.min)\/J.max≠-1/\(J.max<J.min\/1000<J.max) then 9 else 0
def ajS(b:lJ):((b.op=ag\/¬b.n.bT=[])\/b.n.neg)\/¬b.n.exp=0↔b.op\/b.n≠⟨ae,[],0⟩:=by let⟨s,M,⟨d,I,c⟩⟩:=b<;>grind
def Bb(c:L->X):Y L->Z->L|[],_=>-1|d::e,b=>if c d then(b:Z) else Bb c e (b+1)
def ZY{G:L->X}:∀(c:Y L)(b:Z),fB c G=aH (0<=Bb G c b)|[],b=>aa|d::c,b=>by rw[B1,Bb];by_cases s:G d;simp_all;rw[ad s,ZY (G:=G) c<|b+1];simp[s]
def akr(b:lJ)(d:U b.n.bT<=1048576):bh 254 [CR b] (an aj (mh b)):=by
 refine bs func254 [] λp e=>?_;apply f<;>intro c
 .refine aT ?_ (g:=akw b.n d);exact aL (s:=by rw[mh,af c];rfl)
 apply cy;refineλi=>abU (FX b.n ⟨ae,[],0⟩)<|aa;apply f<;>intro h
 .exact aL (s:=by rw[mh,ad c,af q];rfl)
 exact aL (s:=by rw[mh,ad c,ad q];rfl)
def W6(b:lJ)(e:U b.n.bT<=1048576):bh 98 [CR b] (an aj (mh b)):=by
 refine bs func98 [] λp i=>?_;apply f<;>intro c
 .refine cy (λ_=>aa)<|cy (λ_=>aa)<|gu ?_;apply f<;>intro h
  .exact aL (s:=by rw[mh,ad c,af aK];rfl)
  exact aL (s:=by rw[mh,ad c,ad λd=>h<|(ajS b).2 d];rfl)
 refine aT ?_ (g:=auV b.n e);exact aL (s:=by rw[mh,af aq];rfl)
def ac5{B:L}(b:L):bh 261 [an aj B,fN 1 [an aj b] 0 0] (aV (lg b B)):=by refine bs func261 [] λp c=>?_;exact cy (λ_=>aa)<|aL
def aoT(c:Y L)(d:L)(m:U c<=1048576):bh 304 [.al 1 (ab gI c),eo (c1 261) [] [fN 1 [an aj d] 0 0]] (an aj (Bb (lg d) c 0)):=by
 refine bs func304 [] λp h=>?_;refine gN (U c) (λb=>Bb (lg d) c 0=Bb (lg d) (ay b c) b) (λb=>⟨[(0,_),(1,_),(7,_),(8,an _ (b:Z))],[],[]⟩) (λb k=>?_) (bA:=.r);apply f<;>intro l
 .let e:b<U c:=q;refine bB b (gI<|y c b av) ?_ (k:=aq);refine aT ?_ (g:=ac5 d);apply f<;>intro i
  .exact aL (s:=by rw[k.2,l3 e,Bb,af aq];rfl)
  refine aY ?_;exact a4 (b+1) ⟨q,by rw[k.2,l3 e,Bb,ad aq]⟩
 exact aL (s:=by rw[k.2,kA q];rfl)
def aln(b:Y L)(c:L)(d:U b<=1048576):bh 262 [.al 1 (ab gI b),eo (c1 261) [] [fN 1 [an aj c] 0 0]] (aV (fB b (lg c))):=by refine bs func262 [] λp e=>?_;refine aT ?_ (g:=aoT b c d);exact aL (s:=by rw[ZY b 0];rfl)
def akv(J:gh)(b:L)(d:U J.eL<=1048576):bh 210 [ha J,an aj b] (an aj (mu J b)):=by
 refine bs func210 [] λp e=>?_;apply f<;>intro l
 .refine cy (λ_=>aa)<|cy (λ_=>aa)<|gu ?_;apply f<;>intro h
  .exact aL (s:=by rw[mu,af aq,af q];rfl)
  exact aL (s:=by rw[mu,af aq,ad q];rfl)
 apply f<;>intro i
 .exact aL (s:=by rw[mu,ad aq,af q];rfl)
 refine pT ?_ (g:=aln J.eL b d);apply f<;>intro c
 .exact aL (s:=by rw[mu,ad aq,ad q,af c];rfl)
 apply cL;refineλm=>kn (g:=ac5 (B:=J.item) b)<|aa;refine cy (λ_=>aa)<|gu ?_;apply cy;intro n;apply cL;refineλo=>cy (λ_=>aa)<|aa;exact aa;apply f<;>intro k
 .exact aL (s:=by rw[mu,ad aq,ad q,ad c,af q];rfl)
 exact aL (s:=by rw[mu,ad aq,ad q,ad c,ad q];rfl)
def nW(b:Z->L):Z->L|0=>0|B+1=>if nW b B≠0 then nW b B else b B
def EY{b:Z->L}{B:Z}(s:nW b B=0)(c:b B=0):nW b (B+1)=0:=by(simp[nW,ad];omega)
def Hv{d:Z->L}{b:Z}(s:nW d b=0)(e:d b≠0):∀c,b<c->nW d c=d b|0,f=>q|c+1,f=>by rw[nW];rcases hN b c with B|B;have:=Hv s e c B;omega;grind
def oz(c:Y nM)(e d:L)(b:Z):L:=if x9 (y c b av).name≠0 then x9 (y c b av).name
 else if(0:L)<(b:Z)/\(ut (y c b av).name (y c (b-1) av).name=ag\/(y c b av).name=(y c (b-1) av).name) then 10
 else if(y c b av).shape<d\/e<=(y c b av).shape then 9
 else if(y c b av).shape=-1/\(y c b av).Bo then 2 else 0
def tF(b:Y nM)(d c:L):L:=if 30<U b then 3 else nW (oz b d c) (U b)
def AU{b:Y nM}{e d f:L}{c:Z}(g:¬30<U b)(s:nW (oz b e d) c=0)(h:c<U b)(i:oz b e d c=f)(k:f≠0):tF b e d=f:=by rw[tF,ad g,Hv s q _ h,i]
def aks{c:Y nM}(n:L){B:L}{m:X}(u:m/\B=-1\/m=ae/\B=0)(C:U c<=1000000):bh 263 [.al 3 (ab fw c),an aj n,aV m] (an aj (tF c n B)):=by
 refine bs func263 [] λp t=>?_;apply f<;>intro v
 .exact aL (s:=by rw[tF,af q];rfl)
 let h:¬30<U c:=q;refine gN (U c) (λb=>nW (oz c n B) b=0) (λb=>⟨[(0,_),(1,_),(2,_),(13,_),(14,_),(15,l b)],[],[]⟩) (λb k=>?_) aa .r;apply f<;>intro w
 .let e:b<U c:=q;refine bB b (fw<|y c b av) ?_ (k:=eZ e);refine aT ?_ (g:=Xd (J:=(y c b av).name));apply f<;>intro d
  .exact aL (s:=by rw[AU h k.2 e (by rw[oz,af d]) d];rfl)
  refine fA ?_;apply cL;refineλz=>iQ ?_;refine jV (b-1) (fw<|y c (b-1) av) ?_ (k:=eZ q);exact aa;apply f<;>intro i
  .exact aL (s:=by rw[AU h k.2 e (by rw[oz,ad d,af i]) a2];rfl)
  refine gu ?_;apply cy;refineλA=>cL (λ_=>aa)<|aa;apply f<;>intro x
  .exact aL (s:=by rw[AU h k.2 e (by rw[oz,ad d,ad i,af aK]) a2];rfl)
  refine i4 ?_;apply f<;>intro o
  .exact aL (s:=by rw[AU h k.2 e (by rw[oz,ad d,ad i,ad aK,af o]) a2];rfl)
  refine aY ?_;exact a4 (b+1) ⟨q,EY k.2 (by rw[oz,ad d,ad i,ad aK,ad o])⟩ (bA:=.r)
 exact aL (s:=by rw[tF,ad h,show U c=b by omega,k.2];rfl)
def akt{b:Y nM}(c:L)(d:U b<=1000000):bh 263 [.al 3 (ab fw b),an aj c,aV ag] (an aj (tF b c (-1))):=aks c (bj ⟨aa,aa⟩) d
section
open Go.Shelf Go.RowKit Go.Lib Go.Sort
def awp(b:L):max (-1) (min 1 b)=fe.gf b:=by(simp[fe.gf];omega)
def Tryz.aan(c:L)(b:bI):ln bL 361 #[cN aj c] b λd e=>d=lo (cN aj<|fe.gf c)/\e=b:=by
 go_wp2
 go_ret
 exact⟨by simp[awp],aa⟩
def ph(b:b4):Y bq:=[hA b.neg,jO ⟨aO b.bT⟩,cN aj b.exp]
def Tryz.R1(c:b4)(b:bI):ln bL 360 #[h0 (aO (ph c))] b λd e=>d=lo (cN aj<|i5 c)/\∃os,e=grow b os:=by
 unfold ph
 go_wp2
 all_goals go_ret
 all_goals refine⟨?_,_,alloc_eq_grow _ _⟩
 all_goals simp_all[i5]
def Tryz.apo(b c:b4)(g:bI)(i:U b.bT<=1000000/\-1000000<=b.exp/\b.exp<=1000000)(k:U c.bT<=1000000/\-1000000<=c.exp/\c.exp<=1000000):ln bL 362 #[h0 (aO (ph b)),h0 (aO (ph c))] g λe f=>e=lo (cN aj<|rb b c)/\∃os,f=grow g os:=by
 unfold ph
 go_enter func362,Tryz.ntmps362
 go_wp2_with (first|(refine iK ((λh d=>Tryz.aan h d) _ _) ?_;rintro e f ⟨rfl,rfl⟩)|(refine iK ((λd=>Tryz.strings_Compare ⟨aO b.bT⟩ ⟨aO c.bT⟩ d) _) ?_;rintro e f ⟨rfl,rfl⟩))
 all_goals go_ret
 all_goals refine⟨?_,_,by rw[alloc_eq_grow,alloc_eq_grow,grow_grow]⟩
 simp_all[fe.gf,rb,af];simp_all[fe.gf,rb,ad]
theorem akp{b e:bI}{f:Array Obj}{c:Addr}{d:bq}(s:e=grow b f)(g:ho b c=W d):ho e c=W d:=by grind[ho,Array.getElem?_eq_some_iff,cell?_grow]
def wW(b c:bI):Prop:=∃os,c=grow b os
def wW.cell{b e:bI}{c:Addr}{d:bq}(s:wW b e)(f:ho b c=W d):ho e c=W d:=by let⟨os,s⟩:=s;grind[akp]
def aek{R:b4}{c:bI}{d:Ending->bI->Prop}(s:∀b,wW c b->d (lo (cN aj (i5 R))) b):ln bL 360 #[h0 (aO (ph R))] c d:=iK (Tryz.R1 R c) λf b ⟨he,e⟩=>he▸s b e
def agT{b:L}(s:-9223372036854775808<=b/\b<=9223372036854775807):wrap64 b=b:=by grind[wrap64]
theorem asl{c b:b4}(d:i5 c=i5 b)(e:(i5 b==0)):fe.gf 0=p9 c b:=by grind[p9]
def asm{c b:b4}(d:i5 c=i5 b)(e:(i5 b==0)=ae):wrap64 (i5 b*rb c b)=p9 c b:=by have:=Ti c b;simp_all[agT,p9,ad]
def asn{b c:b4}(d:¬i5 b=i5 c):fe.gf (wrap64 (i5 b-i5 c))=p9 b c:=by let e:=NR b;let iy:=NR c;rw[agT q,p9,af<|bj d]
def vy(b d:bI):Prop:=∃c os,d=grow (b.drewN c) os
theorem vy.step{b c d:bI}(s:vy b c)(B:wW c d):vy b d:=by obtain⟨e,os,rfl⟩:=s;obtain⟨f,rfl⟩:=B;exact⟨e,_,grow_grow _ _ _⟩
theorem an_{b c d e:bI}(s:vy b c)(g:wW d e)(f:wW c d):vy b e:=(s.step f).step g
theorem aoa{b c d e f:bI}(s:vy b c)(i:wW e f)(h:wW d e)(g:wW c d):vy b f:=((s.step g).step h).step i
def Tryz.apm(c d:b4)(f:bI)(D:U c.bT<=1000000/\-1000000<=c.exp/\c.exp<=1000000)(E:U d.bT<=1000000/\-1000000<=d.exp/\d.exp<=1000000):ln bL 331 #[h0 (aO (ph c)),h0 (aO (ph d))] f λi g=>i=lo (cN aj<|p9 c d)/\∃H os,g=grow (f.drewN H) os:=by
 have F:=λr h=>Tryz.aan r h;have z:=λh=>Tryz.R1 c h;have A:=λh=>Tryz.R1 d h;have B:=λh=>Tryz.apo c d h D E;unfold ph at*
 go_enter func331,Tryz.ntmps331
 go_wp2_with (first|(go_at_call 361;rintro i g ⟨rfl,rfl⟩)|(go_at_call 360;refine(z _).mono ?_;rintro i g ⟨rfl,J,rfl⟩)|(go_at_call 360;refine(A _).mono ?_;rintro i g ⟨rfl,K,rfl⟩)|(go_at_call 362;refine(B _).mono ?_;rintro i g ⟨rfl,L,rfl⟩))
 have C:∀e,(f.alloc (pK #[hA c.neg,jO ⟨aO c.bT⟩,cN aj c.exp] 107)).alloc (pK #[hA d.neg,jO ⟨aO d.bT⟩,cN aj d.exp] 107)=e->ho e.drew ⟨a9 f.heap,0,ai⟩=W (hA c.neg)/\ho e.drew ⟨a9 f.heap,1,ai⟩=W (jO ⟨aO c.bT⟩)/\ho e.drew ⟨a9 f.heap,2,ai⟩=W (cN aj c.exp)/\ho e.drew ⟨a9 f.heap+1,0,ai⟩=W (hA d.neg)/\ho e.drew ⟨a9 f.heap+1,1,ai⟩=W (jO ⟨aO d.bT⟩)/\ho e.drew ⟨a9 f.heap+1,2,ai⟩=W (cN aj d.exp)/\vy f e.drew:=by rintro _ rfl;have s:∀(e:bI) c,ho e.drew c=ho e c:=λ_ _=>aa;refine⟨?_,?_,?_,?_,?_,?_,1,_,by rw[alloc_eq_grow,alloc_eq_grow,grow_grow];rfl⟩<;>rw[s]<;>go_simp
 obtain⟨t,u,v,w,x,y,I⟩:=C _ aa;generalize (f.alloc<|pK #[hA c.neg,jO ⟨aO c.bT⟩,cN aj c.exp] 107).alloc (pK #[hA d.neg,jO ⟨aO d.bT⟩,cN aj d.exp] 107)=e at*;clear z A
 go_region_with (first|(go_at_call_of 360 c.neg;refine aek (R:=c) ?_;intro g b;first|(have k:=b.cell k;have l:=b.cell l;have m:=b.cell m;have n:=b.cell n;have o:=b.cell o;have p:=b.cell p)|(have k:=b.cell t;have l:=b.cell u;have m:=b.cell v;have n:=b.cell w;have o:=b.cell x;have p:=b.cell y))|(refine aek (R:=d) ?_;intro g b;first|(have k:=b.cell k;have l:=b.cell l;have m:=b.cell m;have n:=b.cell n;have o:=b.cell o;have p:=b.cell p)|(have k:=b.cell t;have l:=b.cell u;have m:=b.cell v;have n:=b.cell w;have o:=b.cell x;have p:=b.cell y)))
 all_goals go_wp2_with (first|(go_at_call 361;refine iK (F _ _) ?_;rintro i g ⟨rfl,rfl⟩)|(go_at_call 362;refine iK (B _) ?_;rintro i g ⟨rfl,G⟩;change wW _ g at G))
 all_goals go_ret
 all_goals refine And.intro (ea (λr=>lo<|cN aj r) ?_) ?_
 all_goals first|grind[asl]|exact asm ‹_› ‹_›|exact asn ‹_›|(change vy _ _;grind[aoa,an_])
def vC(b:b4):Prop:=U b.bT<=1000000/\-1000000<=b.exp/\b.exp<=1000000
def Tryz.apn(b c:b4){d:bI}(k:vC b)(l:vC c):ln bL 293 #[h0 (aO (ph b)),h0 (aO (ph c))] d λf e=>f=lo (cN aj<|p9 b c)/\vy d e:=by
 unfold ph at*
 go_enter func293,Tryz.ntmps293
 go_wp2_with (refine iK ((λi=>Tryz.apm b c i k l) _) ?_;rintro f e ⟨rfl,g⟩;change vy _ e at g)
 go_ret
 refine⟨aa,?_⟩;obtain⟨h,os,rfl⟩:=g;rw[alloc_eq_grow,alloc_eq_grow,grow_grow];exact⟨h,_,grow_grow (d.drewN h) _ _⟩
end
section
open Go.Shelf Go.RowKit Go.Lib Go.Sort
def tl:={b:b4//fD b/\vC b}
instance:l9 tl:=⟨⟨⟨ae,[48],0⟩,⟨a2,a2,bj ⟨aa,aa,aa⟩⟩,a2,a2,a2⟩⟩
def xa(b c:tl):L:=p9 b.1 c.1
def MC(b c:tl):ltOf xa b c=aH (bD b.1<bD c.1):=by unfold ltOf xa;rw[FG b.2.1 c.2.1];congr 1;unfold fe.gf;refine propext ?_;split;constructor<;>intro<;>omega;split<;>(constructor<;>intro<;>omega)
def af8:SWO (ltOf xa) where
 irrefl b:=by rw[MC];simp
 trans b e f c d:=by rw[MC] at*;simp at*;omega
 ntrans b e f c d:=by rw[MC] at*;simp at*;omega
def auo{p:bJ}{i:bf}{A:fe.bV}{g:bI}(s:fe.Holds p i A g){B t O e d:Z}{F:TypeId}{D new:Y V}{c:fe.Loc}{iX:Array bq}{R:Z}{os:Array Obj}(L:A[B]?=W (t,.j O e F D))(x:i.m t=W c)(v:c.bR=W d)(M:U new=U D)(Q:a9 iX=U new*e)(u:∀(b:Z)(f:bq),iX[b]?=W f->f.oneCell')(bN:∀I∈new,U I.cells=e)(aq:∀(b h:Z)(I r:V),new[b]?=W I->I.cells[h]?=W r->∃f,iX[b*e+h]?=W f/\bk i r f):fe.Holds p (i.fV t c) (aR A B (t,.j O e F new)) (grow (Sort.putRow _root_.id (Sort.ahead g R) d c.base iX) os):=by
 let⟨aD,N,ar⟩:=s.gd _ _<|dY L;rw[x] at N;cases N;obtain⟨aw,z,⟨E,_⟩|⟨ay,C,G,w,aX,J,ap,aA,aC⟩⟩:=ar;rw[v] at E;cases E;rw[v] at G;cases G;obtain⟨P,w,T⟩:=w;let S:d<a9 g.heap:=(vp.1 w).1;let ak:i.le (i.fV t c):=bf.jh λaE u=>by rw[x] at u;cases u;exact⟨aa,bv _,λ_=>aa⟩
 let av:(Sort.putRow _root_.id (Sort.ahead g R) d c.base iX).heap.size=a9 g.heap:=ao;let K:∀o,o<a9 g.heap->(grow (Sort.putRow _root_.id (Sort.ahead g R) d c.base iX) os).heap[o]?=(g.heap.modify d<|onCells<|putCells _root_.id c.base iX)[o]?:=λo y=>heap_grow_old _ _ (by rw[av];exact y);refine s.pB L x aa (bv _) (λ_=>aa) (bj aa) ⟨aa,aa,aa,?_,λo y am=>?_⟩ ⟨aw,z,bp ⟨d,putCells _root_.id c.base iX C,v,?_,?_,?_,?_,?_,?_⟩⟩;simp[grow];rw[K o y,JR,ad λF=>am (by rw[v,F])];exact⟨P,by rw[K d S,JR,af aa,w];rfl,by simpa[putCells] using T⟩;simp[putCells,aX];rw[M];exact J;intro b f n;simp only[putCells,UW,Eb] at n;obtain⟨r,ax,rfl⟩:=n;split;rename_i k;let l:b-c.base<a9 iX:=q;refine u (b-c.base) _ ?_;rw[yp iX _ l];exact JQ l;exact ap b r ax;intro b I k;rw[z];exact bN I<|dY k;intro b h I r k H;let⟨f,n,au⟩:=aq b h I r k H;refine⟨f,?_,au.mono ak⟩;let aB:b<U new:=(eX.1 k).1;let az:h<e:=by rw[<-bN I (dY k)];exact(eX.1 H).1
 let l:b*e+h<a9 iX:=(vp.1 n).1;rw[z] at J⊢;let X:c.base+(b*e+h)<a9 C:=by rw[aX];rw[Q,M] at l;omega
 rw[z1];simp only[putCells,UW,JQ X,lm];rw[af ⟨q,q⟩,ahD,yp iX _ l];rw[JQ l] at n;exact n
def qh(b:Y tl):Y tl:=a0<|pdq (ltOf xa) (aO b) 0 (U b) (wS<|U b) ag ag
def Uh(b:Y tl):(qh b).Perm b/\(qh b).Pairwise (λh i=>bD h.1<=bD i.1):=by
 have s:=pdq_sorts (ltOf xa) af8 (aO b) 0 (U b) (wS<|U b) ag ag (dJ _) (bv _)<|bj aa;have e:a9 (pdq (ltOf xa) (aO b) 0 (U b) (wS (U b)) ag ag)=U b:=by have:=s.1.1;simpa using this
 unfold qh;generalize pdq (ltOf xa) (aO b) 0 (U b) (wS<|U b) ag ag=I at s e;let⟨⟨p,r,c⟩,n⟩:=s;refine⟨?_,?_⟩;have l:a0 (I.extract 0 (U b))=a0 I:=by rw[<-e];simp
 have m:a0 ((aO b).extract 0 (U b))=b:=ao;rw[l,m] at c;exact c;rw[D7];intro f g k d o;simp only[wI] at k d;have:=n f g (dJ _) o q;rw[MC,vt,yp I g d,yp I f k] at this;simp only[ag_];omega
def isAgg26:∀b,(isAgg 107).run bL b=.ok ag b:=λb=>fe.cu.vb (size:=3) (bytes:=32) ⟨ayg,cb⟩ b
def sizeOf26:∀b,(Go.sizeOf 107).run bL b=.ok 3 b:=(show fe.gx bL 107 3 32 from⟨cb⟩).kw
def VQ(d:Option Addr)(c:Z)(b:bI):ln bL 297 #[eY d 0 c,.func (c1 293) #[] #[]] b λe f=>e=lo (o1 #[])/\f=b:=AnyF.slices_SortFunc_none Tryz.aaL d c (.func (c1 293) #[] #[]) b
def awQ(b:Y tl)(av:U b<=1000000):dF 297 [.a 6001 0 (U (b.map λR=>cm R.1)),eo (c1 293) [] []] [(6001,.j 3 107 (b.map λR=>cm R.1))] (cv []) [(6001,.j 3 107 ((qh b).map λR=>cm R.1))]:=by
 intro n v G i ba a5 aA A _;obtain⟨x,z,rfl⟩:∃x z,G=[x,z]:=by
  match G,a5 with|[aI,o],_=>exact⟨aI,o,aa⟩
 have Q:=aA 0 _ x aa aa;have aG:=aA 1 _ z aa aa;have a4:z=.func (c1 293) #[] #[]:=by
  change bk v (eo (c1 293) [] []) z at aG;cases aG with
  |func fn bw bx bb G av aU s bd=>
   have aK:bb=[]:=by simpa using bQ av
   have aL:G=[]:=by simpa using bQ aU
   rw[aK,aL]
 subst a4;have bs:qh b=qh b:=aa;have C:U (qh b)=U b:=(Uh b).1.length_eq;obtain⟨id,t,E⟩:∃id t,n 6001=(id,t):=⟨_,_,aa⟩;have Q:bk v (.bH id t 0 (U (b.map λR=>cm R.1))) x:=by have:=Q;simp only[V.aB,V.jW,V.e8,V.e0,E] at this;exact this
 have aY:aZ n [(6001,b7.j 3 107 (b.map λR=>cm R.1))]=[(id,.j t 3 107 (b.map λR=>cm R.1))]:=by simp[aZ,c2,b7.aD,E]
 rw[aY] at A⊢;let⟨m,hm,az⟩:=A.gd id _<|eu.2 aa;have none:b=[]->∀P cap,x=eY P 0 cap->ln bL 297 #[x,.func (c1 293) #[] #[]] i (λF S=>∃u aH aC Z,F=lo u/\(∃X,dk 5000 n X/\aH=(V.tuple []).aB X/\aC=aZ X [(6001,.j 3 107<|(qh b).map λR=>cm R.1)])/\bk Z aH u/\fe.Holds ⟨i,ba,v,ab (·.1) ([(id,cB.j t 3 107<|b.map λR=>cm R.1)]:fe.bV),fT,0⟩ Z aC S):=by
  intro w P cap r;subst r;refine iK (VQ P cap i) ?_;rintro F S ⟨rfl,rfl⟩;subst w;have aJ:qh []=[]:=l4 C;refine⟨o1 #[],cv [],_,v,aa,⟨n,dk.refl _ n,aa,aa⟩,.tuple [] [] aa λa_ d u s=>by simp at s,?_⟩;have:aZ n [(6001,b7.j 3 107 ((qh []).map λR=>cm R.1))]=[(id,.j t 3 107 [])]:=by rw[aJ];simp[aZ,c2,b7.aD,E]
  rw[this];exact A
 cases Q with
 |bH _ _ _ _ bu u ax bt be s=>
  rw[hm] at ax;cases ax;rcases s (bQ az.1) with⟨bf,w,rfl⟩|⟨o,M,cap,J,rfl,aW,bl,aQ⟩;exact none (l4 (by simpa using w)) _ _ aa;rcases zR (U b=0) with w|w;have aw:b=[]:=l4 w;exact none aw _ _ (by rw[aw];rfl);obtain⟨_,a2,⟨e,_⟩|⟨bc,ak,am,L,aX,aq,br,bn,ay⟩⟩:=az;rw[J] at e;cases e;rw[J] at am;cases am;rw[bm] at aW aq;obtain⟨rfl,bh⟩:M=m.base/\dW:=by rcases aQ with k|⟨k,_⟩;omega;exact⟨by rw[k];omega,b5⟩
  rw[a2] at aq ay;have aP:o<a9 i.heap:=L.lt;have aN:HoldsK (λd:tl=>ph d.1) 3 i o m.base (aO b):=by
   intro c h;rw[size_flatK] at h;rw[get_flatK _ _ _ _ h];have ar:c/3<U b:=by
    have:c<U b*3:=by simpa using h
    omega
   have aT:(b.map λR=>cm R.1)[c/3]?=W (cm b[c/3].1):=by rw[db,cT ar];rfl
   have bN:(aO b)[c/3]! =b[c/3]:=by rw[yp (aO b) (c/3) (by simpa using ar)];rfl
   have K:∀g,ak[m.base+c]?=W g->ho i ⟨o,m.base+c,ai⟩=W g:=λg l=>b0 (L.cell _) l;refine⟨?_,L.aF (by
     have:c<U b*3:=by simpa using h
     omega)⟩
   rw[bN];have bq:c=c/3*3+c%3:=q;have get:∀f d,(cm b[c/3].1).cells[f]?=W d->f=c%3->∃g,ak[m.base+c]?=W g/\bk v d g:=by intro f d D k;let⟨g,l,p⟩:=ay (c/3) f _ d aT D;refine⟨g,?_,p⟩;rw[<-l,k];congr 1;omega
   have e:c%3=0\/c%3=1\/c%3=2:=q;rcases e with e|e|e;let⟨g,l,p⟩:=get 0 (aV b[c/3].1.neg) aa<|bQ e;rw[e,K g l,IT p];rfl;let⟨g,l,p⟩:=get 1 (a8 b[c/3].1.bT) aa<|bQ e;rw[e,K g l,IX p];rfl;let⟨g,l,p⟩:=get 2 (an aj b[c/3].1.exp) aa<|bQ e;rw[e,K g l,IW p];rfl
  have aM:∀args i,(callFunc 293 args).run bL i=.ok (.enter 293 args) i:=enters_of func293 cb aa;have a3:a9 (aO b)<4611686018427387904:=bi;have ap:=AnyQ.slices_SortFunc_eq Tryz.aaL 3 isAgg26 sizeOf26 (λd:tl=>ph d.1) (λ_=>aa) (λd u r=>by simp[ph] at r;rcases r with rfl|rfl|rfl<;>rfl) xa af8 293 #[] o m.base cap (aO b) i aM (λ_ _ _ _ d T=>Tryz.apn d.1 T.1 d.2.2 T.2.2) aN aP a3;change ln bL 297 _ _ _ at ap;have a7:eY (W ⟨o,m.base,ai⟩) (U (b.map λR=>cm R.1)) cap=eY (W ⟨o,m.base,ai⟩) (a9 (aO b)) cap:=ao;rw[a7];refine iK ap ?_;rintro F S ⟨rfl,R,os,rfl⟩;have H:a0 (pdq (ltOf xa) (aO b) 0 (a9 (aO b)) (wS (a9 (aO b))) ag ag)=qh b:=by simp[qh]
  generalize pdq (ltOf xa) (aO b) 0 (a9<|aO b) (wS<|a9<|aO b) ag ag=I at H;have aS:a9 I=U b:=by rw[<-wI,H,C]
  have a1:=auo A (B:=0) (F:=107) (new:=(qh b).map λR=>cm R.1) (iX:=flatK (λd:tl=>ph d.1) 3 I) (R:=R) (os:=os) aa hm J (by simp[C]) (by simp[aS,C]) ?_ (λd D=>by simp at D;obtain⟨aE,_,rfl⟩:=D;rfl) ?_;refine⟨o1 #[],cv [],_,v.fV id m,aa,⟨n,dk.refl _ n,aa,aa⟩,.tuple [] [] aa λa_ d u s=>by simp at s,?_⟩;have:aZ n [(6001,b7.j 3 107 ((qh b).map λR=>cm R.1))]=[(id,.j t 3 107 ((qh b).map λR=>cm R.1))]:=by simp[aZ,c2,b7.aD,E]
  rw[this];exact a1;intro c u r;have h:=(vp.1 r).1;rw[size_flatK] at h;have y:=get_flatK (λd:tl=>ph d.1) 3 I c h;rw[yp _ c (by simpa using h),(vp.1 r).2] at y;rw[y];have e:c%3=0\/c%3=1\/c%3=2:=q;rcases e with e|e|e<;>rw[e]<;>rfl;intro c f T d h k;simp only[db,Eb] at h;obtain⟨aE,O,rfl⟩:=h;have au:c<a9 I:=by have:=(eX.1 O).1;omega
  have aR:I[c]! =aE:=by rw[yp I c au];rw[<-H,wH,JQ au] at O;exact mD O
  have bg:f<3:=(eX.1 k).1;have N:c*3+f<a9 I*3:=q;have y:=get_flatK (λd:tl=>ph d.1) 3 I (c*3+f) N;rw[show(c*3+f)/3=c by omega,show(c*3+f)%3=f by omega,aR,yp _ (c*3+f) (by simpa using N)] at y;refine⟨_,by rw[JQ (by simpa using N),y],?_⟩;have e:f=0\/f=1\/f=2:=q;rcases e with rfl|rfl|rfl;cases k;exact .bool _;cases k;exact .str _;cases k;exact .int ..
end
def tO(b:j4)(c:L):Prop:=b.inf=ag\/2*b.z+(if b.op then 1 else 0)<=c
def tI(b:j4)(c:L):Prop:=b.inf=ag\/c<=2*b.z-(if b.op then 1 else 0)
def uZ(J:lr)(b:L):Prop:=tO J.low b/\tI J.high b/\(J.oe=ag->(2*cq:L) ∣ b)
def S4(J:lr):oL J↔J.low.inf=ae/\J.high.inf=ae/\2*J.high.z-(if J.high.op then 1 else 0)<2*J.low.z+(if J.low.op then 1 else 0):=by unfold oL;let⟨⟨b,d,e⟩,⟨c,f,g⟩,h⟩:=J;cases b<;>cases c<;>simp;grind
def awN{J:lr}(f:J.oe=ae)(s:oL J=ae):∃c,uZ J c:=by
 let b:¬oL J:=by rw[s];simp
 rw[S4] at b;unfold uZ tO tI;cases e:J.low.inf with
 |true=>cases d:J.high.inf with|true=>simp_all|false=>exact⟨2*J.high.z-(if J.high.op then 1 else 0),bj aa,bp q,aq⟩
 |false=>refine⟨2*J.low.z+(if J.low.op then 1 else 0),bp q,?_,aq⟩;grind
theorem aci{J:lr}{e:L}(s:uZ J e):oL J=ae:=by cases d:oL J with|false=>rfl|true=>let⟨f,g,h⟩:=(S4 J).1 d;let⟨b,c,_⟩:=s;unfold tO at b;unfold tI at c;grind
def AI(b:L):(cq:L) ∣ ew b:=⟨b/cq,by simp[ew,OW]⟩
theorem amr(b:L):(cq:L) ∣ mN b:=by simp[AI,mN,Int.mul_neg]
def aaM{b ap:L}(c:(cq:L) ∣ b):b<=ew ap↔b<=ap:=by let s:=AT ap;constructor;omega;let⟨d,f⟩:=AI ap;let⟨e,g⟩:=c;grind[Int.lt_of_mul_lt_mul_left,cq,Int.mul_add,Int.mul_le_mul_of_nonneg_left]
def akn{b ap:L}(c:(cq:L) ∣ b):mN ap<=b↔ap<=b:=by let s:=aaM (ap:=-ap)<|(Int.dvd_neg).2 c;grind[mN]
theorem YU{b ap:L}(g:(cq:L) ∣ b)(s:b<ap)(f:ew ap=ap):b<=ew ap-cq:=by let⟨c,d⟩:=AI ap;let⟨h,e⟩:=g;rw[<-f,d,e] at s;have:=Int.lt_of_mul_lt_mul_left s q;rw[d,e,<-Int.mul_one cq,Int.mul_one,show cq*c-cq=cq*(c-1) by grind];exact Int.mul_le_mul_of_nonneg_left q q
theorem aqh{b ap:L}(c:(cq:L) ∣ b)(s:ap<b)(d:mN ap=ap):mN ap+cq<=b:=by have:=YU (ap:=-ap) ((Int.dvd_neg).2 c) q (by grind[mN]);grind[mN]
def Km(b:j4):Prop:=b.inf=ag\/b.op=ae/\(cq:L) ∣ b.z
theorem Yb{b:L}(s:(cq:L) ∣ b):(cq:L) ∣ b+cq:=Int.dvd_add s<|Int.dvd_refl _
def Yc{b:L}(s:(cq:L) ∣ b):(cq:L) ∣ b-cq:=Int.dvd_sub s<|Int.dvd_refl _
def akS{b:j4}:Km (tx b):=by unfold tx;split;rename_i s;exact bj s;refine bp ⟨aa,?_⟩;grind[Yb,amr]
def akP{b:j4}:Km (tw b):=by unfold tw;split;rename_i s;exact bj s;refine bp ⟨aa,?_⟩;split;simp[Yc,AI];simp[AI]
def Ri{c:L}(s:2*(cq:L) ∣ c):∃d,c=2*d/\(cq:L) ∣ d:=by let⟨b,e⟩:=s;exact⟨cq*b,aK,⟨b,aa⟩⟩
theorem akU(b:j4){c:L}(e:2*(cq:L) ∣ c):tO (tx b) c↔tO b c:=by obtain⟨g,rfl,f⟩:=Ri e;unfold tx;split;rfl;rename_i s;unfold tO;simp;rw[show(b.inf=ag)=False by simp[s],false_or];let k:=akn (ap:=b.z) f;by_cases d:b.op;by_cases he:mN b.z=b.z;rw[af ⟨d,he⟩];grind[aqh,ti];let l:b.z≠g:=λi=>he (by let h:=AT<|-b.z;grind[mN]);omega;simp_all
theorem akR(b:j4){c:L}(e:2*(cq:L) ∣ c):tI (tw b) c↔tI b c:=by obtain⟨g,rfl,f⟩:=Ri e;unfold tw;split;rfl;rename_i s;unfold tI;simp;rw[show(b.inf=ag)=False by simp[s],false_or];let k:=aaM (ap:=b.z) f;by_cases d:b.op;by_cases he:ew b.z=b.z;rw[af ⟨d,he⟩];grind[YU,ti];let l:b.z≠g:=λi=>he (by let h:=AT b.z;omega);omega;simp_all
theorem akX(J:lr)(b:L):uZ (AA J) b↔tO J.low b/\tI J.high b/\2*(cq:L) ∣ b:=by unfold uZ AA;grind[akU,akR]
def GG(J:lr):Prop:=J.oe=ag->Km J.low/\Km J.high
def akV{J:lr}:GG (AA J):=λ_=>⟨akS,akP⟩
def ayV{J:lr}(b:GG J)(k:J.oe)(s:oL J=ae):∃l,uZ J l:=by
 let e:¬oL J:=by rw[s];simp
 rw[S4] at e;let⟨b,f⟩:=b k;unfold uZ tO tI;cases n:J.low.inf with|true=>rcases f with d|⟨d,h⟩;exact⟨0,bj aa,bj d,λ_=>⟨0,ao⟩⟩;let⟨c,g⟩:=h;exact⟨2*J.high.z,bj aa,bp aq,λ_=>⟨c,aK⟩⟩|false=>rcases b with b|⟨m,i⟩;simp_all;let⟨c,g⟩:=i;refine⟨2*J.low.z,bp aq,?_,λ_=>⟨c,aK⟩⟩;grind
def awM{J:lr}(d:GG J):oL J=ae↔∃c,uZ J c:=by
 constructor;intro s;cases b:J.oe with|false=>exact awN b s|true=>simp_all[ayV]
 grind[aci]
theorem ary{J:lr}(s:oL J)(b:L):¬uZ J b:=λc=>by grind[aci]
def axj{b c:L}(d:(cq:L) ∣ b)(e:(cq:L) ∣ c)(s:b<c):b<=c-cq:=by obtain⟨f,rfl⟩:=d;obtain⟨g,rfl⟩:=e;grind[Int.lt_of_mul_lt_mul_left,cq,ti,Int.mul_le_mul_of_nonneg_left,Int.mul_add]
def ah7{J:lr}(s:J.oe=ae):GG J:=λb=>aq
def agR{c:b4}(s:fD c):OL c↔(cq:L) ∣ bD c:=by
 rw[Int.ofNat_dvd_left,Bx];unfold OL;rw[kk];constructor;intro m;rw[show aG (c.exp+30)=30+aG c.exp by omega,pF]
 (simp[cr,cq,ahQ];omega)
 intro bN;refine pD λr=>?_;let⟨h,n,g⟩:=s;rcases g with⟨_,_,g⟩|⟨g,_,i⟩;omega;obtain⟨b,he⟩:∃b:Z,c.exp=-(b+1):=⟨aG<|-c.exp-1,q⟩;let⟨B,d⟩:=bN;rw[show aG (c.exp+30)=29-b by omega,show cq=10^(29-b)*(10*10^b) by unfold cq;rw[show 30=29-b+(b+1) by omega,pF,rn 10 b,l6 10],l6 _,qq] at d;let d:=ahG (oW a2) d;rcases List.eq_nil_or_concat _ with e|⟨t,f,e⟩;trivial;let e:=by simpa using e
 rw[e] at d h i;rw[XM] at d;let o:=uM h f ao;let l:f≠48:=λk=>i aq;let p:ax f≠48:=λk=>l (by apply z9.1;trivial);grind
def eJ.lM(J:eJ)(c:L):X:=if(fB J.x λb=>aH<|2*bD b=c) then y J.on (J.x.countP λb=>aH<|2*bD b<c) ae
 else if 2*(cq:L) ∣ c then(y J.hF (J.x.countP λb=>aH<|2*bD b<c) av).w
 else(y J.hF (J.x.countP λb=>aH<|2*bD b<c) av).o
def Hf{c:L}:2*(cq:L) ∣ 2*c↔(cq:L) ∣ c:=by constructor;rintro⟨b,d⟩;exact⟨b,aK⟩;rintro⟨b,d⟩;exact⟨b,aK⟩
def Rk(J:eJ){c:b4}(s:fD c):J.has c=J.lM (2*bD c):=by
 let d:(λb=>aH<|2*bD b=2*bD c)=λb=>aH (bD b=bD c):=by funext b;refine tc.2 ?_;omega
 let e:(λb=>aH<|2*bD b<2*bD c)=λb=>aH (bD b<bD c):=by funext b;refine tc.2 ?_;omega
 unfold eJ.has eJ.lM A4 low mb.has;rw[d,e];split;rfl;have:=agR s;simp_all[ad,Hf]
abbrev tp(d:Y b4):Prop:=d.Pairwise λb c=>bD b<bD c
def yy.up{b:Y b4}(s:yy b):tp b:=by unfold tp;rw[D7];intro e f k d c;exact s.2 e f k d c
theorem CC:∀{c:Y b4},tp c->∀(d:L)(b:Z)(k:b<U c),2*bD c[b]<d↔b<c.countP λe=>aH (2*bD e<d)
|[],_,_,b,k=>cf|f::c,s,d,b,k=>by
 let⟨g,h⟩:=s_.1 s;rw[List.countP_cons];by_cases m:2*bD f<d;rw[af aq];cases b with|zero=>(simp;omega)|succ b=>simp;have:=CC h d b aq;omega
 rw[ad aq];let l:(c.countP λe=>aH<|2*bD e<d)=0:=by rw[U7];intro e i;have:=g e i;simp;omega
 grind
def Xu{b:Y b4}(s:tp b){e:L}{d:Z}(l:d<=U b)(i:∀c(h:c<U b),c<d->2*bD b[c]<e)(k:∀c(h:c<U b),d<=c->e<=2*bD b[c]):(b.countP λf=>aH<|2*bD f<e)=d:=by let m:(b.countP λf=>aH<|2*bD f<e)<=U b:=D3;rcases Gy (b.countP λf=>aH<|2*bD f<e) d with g|g|g;grind[CC,aH,bD];exact g;have:=(CC s e d q).2 g;grind
def vX(c:X->X->X)(b s:mb):mb:=⟨c b.o s.o,c b.w s.w⟩
def mO(f:X->X->X)(e:Y b4)(b c:eJ):eJ:=⟨e,e.map λd=>f (b.has d)<|c.has d,(e.map λd=>vX f (y b.hF (low b.x d) av)<|y c.hF (low c.x d) av)++[vX f (y b.hF (U b.x) av) (y c.hF (U c.x) av)]⟩
def afr{c e:Y b4}(i:tp c)(g:∀b∈e,b∈c){d:L}(l:∀b∈c,2*bD b≠d):(e.countP λb=>aH<|2*bD b<d)=if s:(c.countP λb=>aH<|2*bD b<d)<U c then low e c[c.countP λb=>aH<|2*bD b<d] else U e:=by split;refine List.countP_congr λb f=>?_;obtain⟨h,k,rfl⟩:=m_.1<|g b f;rw[kk,kk];rw[CC i d h k];constructor;grind[List.pairwise_iff_getElem];grind[Nat.lt_or_ge,aH,bD,List.pairwise_iff_getElem];rw[U6];intro b f;obtain⟨h,k,rfl⟩:=m_.1<|g b f;grind[decide_eq_true,CC]
def ak9{h:X->X->X}{c:Y b4}{e f:eJ}(l:tp c)(t:∀b∈c,fD b)(o:∀b∈e.x,b∈c)(p:∀b∈f.x,b∈c)(d:L):(mO h c e f).lM d=h (e.lM d) (f.lM d):=by
 by_cases hit:∃b∈c,2*bD b=d;obtain⟨b,g,rfl⟩:=hit;obtain⟨m,k,rfl⟩:=m_.1 g;have B:(c.countP λb=>aH<|2*bD b<2*bD c[m])=m:=by refine Xu l q (λi r D=>?_) λi r C=>?_;grind[List.pairwise_iff_getElem];rcases hN m i with s|s;grind[List.pairwise_iff_getElem];grind
 rw[<-Rk e (t _ g),<-Rk f (t _ g)];unfold eJ.lM;grind[mO,List.getElem?_eq_getElem];have u:∀b∈c,2*bD b≠d:=λb g n=>hit ⟨b,g,n⟩;have none:∀{H:Y b4},(∀b∈H,b∈c)->¬(fB H λb=>aH<|2*bD b=d):=λE n=>by grind
 have v:=afr l o u;have w:=afr l p u;unfold eJ.lM;rw[ad<|none (H:=(mO h c e f).x) λb g=>g,ad<|none o,ad<|none p,v,w];have z:(mO h c e f).hF.getD ((mO h c e f).x.countP λb=>aH<|2*bD b<d) av=vX h (y e.hF (if s:(c.countP λb=>aH<|2*bD b<d)<U c then low e.x c[c.countP λb=>aH<|2*bD b<d] else U e.x) av) (y f.hF (if s:(c.countP λb=>aH<|2*bD b<d)<U c then low f.x c[c.countP λb=>aH<|2*bD b<d] else U f.x) av):=by simp only[mO];have A:(c.countP λb=>aH<|2*bD b<d)<=U c:=D3;generalize (c.countP λb=>aH<|2*bD b<d)=i at A;by_cases r:i<U c;grind;grind
 rw[z];by_cases bN:2*(cq:L) ∣ d;simp only[af bN,vX];simp only[ad bN,vX]
def awT(J:hq)(b:L):uZ (q8 J) b↔tO (nk J.low) b/\tI (nk J.high) b/\(J.oe=ag->2*(cq:L) ∣ b):=by grind[q8,akX,uZ,cg]
def awR(J:hq):GG (q8 J):=by unfold q8;split;exact akV;exact ah7 aa
def hq.wF(J:hq)(b:L):X:=if 2*(cq:L) ∣ b then ag else !J.oe
def ayT(J:hq)(b:L):J.wF b↔J.oe->2*(cq:L) ∣ b:=by unfold hq.wF;grind
def L4(J:hq)(b:L):(if 2*(cq:L) ∣ b then(ir J).w else(ir J).o)=J.wF b:=aa
def In(b:L):(if 2*(cq:L) ∣ b then oK.w else oK.o)=ae:=by split<;>rfl
def Ji(J:hq){b:lJ}(s:fD b.n):oT b (ir J)=(!b.op&&J.wF (2*bD b.n)):=by unfold oT;unfold mb.has;have:=agR s;by_cases bN:(cq:L) ∣ bD b.n;rw[af<|this.2 bN];unfold hq.wF;rw[af<|Hf.2 bN];rfl;rw[ad λc=>bN<|this.1 c];unfold hq.wF;rw[ad λc=>bN<|Hf.1 c];rfl
def aa6{b:lJ}(s:b.has)(c:L):tO (nk b) c↔2*bD b.n+(if b.op then 1 else 0)<=c:=by simp_all[nk,tO,af]
def ZH{b:lJ}(s:b.has)(c:L):tI (nk b) c↔c<=2*bD b.n-(if b.op then 1 else 0):=by simp_all[nk,tI,af]
def ap4{b:lJ}(s:¬b.has)(c:L):tO (nk b) c:=by unfold nk tO;simp_all
theorem Rn{b:lJ}(s:¬b.has)(c:L):tI (nk b) c:=by unfold nk tI;simp_all
def WG(b:mb)(c:L):eJ.lM ⟨[],[],[b]⟩ c=if 2*(cq:L) ∣ c then b.w else b.o:=aa
def P1(d:b4)(M:X)(c s:mb)(b:L):eJ.lM ⟨[d],[M],[c,s]⟩ b=if 2*bD d=b then M else if 2*bD d<b then(if 2*(cq:L) ∣ b then s.w else s.o) else if 2*(cq:L) ∣ b then c.w else c.o:=by unfold eJ.lM;grind
def ajm{m c:b4}{M f:X}{d e s:mb}(k:bD m<bD c)(b:L):eJ.lM ⟨[m,c],[M,f],[d,e,s]⟩ b=if 2*bD m=b then M else if 2*bD c=b then f else if 2*bD c<b then(if 2*(cq:L) ∣ b then s.w else s.o) else if 2*bD m<b then(if 2*(cq:L) ∣ b then e.w else e.o) else if 2*(cq:L) ∣ b then d.w else d.o:=by
 let h:([m,c].countP λg=>aH<|2*bD g<b)=if 2*bD c<b then 2 else if 2*bD m<b then 1 else 0:=by by_cases i:2*bD c<b;grind;grind
 unfold eJ.lM;grind
theorem afS{J:hq}(m:wx J)(d:L):(lD J).lM d↔uZ (q8 J) d:=by
 rw[awT,<-ayT];let i:=λs=>M3<|m.1 s;let l:=λs=>M3<|m.2 s;by_cases b:J.low.has;by_cases c:J.high.has;let f:rY J=gf (bD J.low.n-bD J.high.n):=by rw[rY,af ⟨b,c⟩,FG (i b)<|l c]
 rw[aa6 b,ZH c];unfold lD;rw[f];by_cases k:0<gf (bD J.low.n-bD J.high.n);have:=Oa.1 k;let g:zk.lM d=ae:=by rw[show zk=⟨[],[],[oK]⟩ from aa,WG,In]
 (simp_all;omega)
 rw[ad k];by_cases h:gf (bD J.low.n-bD J.high.n)=0;rw[af h];have:=DF.1 h;rw[P1,In,Ji J<|i b];grind;rw[ad h,af c];let o:bD J.low.n<bD J.high.n:=by have:¬0<bD J.low.n-bD J.high.n:=λe=>k<|Oa.2 e;have:¬bD J.low.n-bD J.high.n=0:=λe=>h<|DF.2 e;omega
 let g:iF J=⟨[J.low.n],[oT J.low (ir J)],[oK,ir J]⟩:=by rw[iF,af b]
 rw[g];show eJ.lM ⟨[J.low.n,J.high.n],[oT J.low (ir J),oT J.high (ir J)],[oK,ir J,oK]⟩ d↔_;rw[ajm o,In,L4,Ji J<|i b,Ji J<|l c];grind;let f:rY J=-1:=by rw[rY,ad λe=>c e.2]
 rw[aa6 b];unfold lD;rw[f,ad q,ad q,ad c,iF,af b,P1,In,L4,Ji J<|i b];by_cases p:2*bD J.low.n=d;grind[Rn];rw[ad p];by_cases r:2*bD J.low.n<d;grind[Rn]
 (simp;omega)
 let f:rY J=-1:=by rw[rY,ad λe=>b e.1]
 let g:iF J=⟨[],[],[ir J]⟩:=by rw[iF,ad b]
 let t:=ap4 b d;unfold lD;rw[f,ad q,ad q,g];by_cases c:J.high.has;rw[af c,ZH c];show eJ.lM ⟨[J.high.n],[oT J.high (ir J)],[ir J,oK]⟩ d↔_;rw[P1,In,L4,Ji J<|l c];grind;simp_all[ad,WG,L4,Rn]
def Dw:(c:Y b4)->(∀b∈c,fD b/\vC b)->Y tl|[],_=>[]|d::c,s=>⟨d,s d ao⟩::Dw c (λb e=>s b (by simp[e]))
def ND{e:Type}(d:b4->e):∀(b:Y b4)(s:∀c∈b,fD c/\vC c),((Dw b s).map λc=>d c.1)=ab d b|[],_=>aa|f::b,s=>ea _<|ND d b _
theorem atE(b:Y b4)(s:∀c∈b,fD c/\vC c):U (Dw b s)=U b:=by have:=ea U<|ND id b s;simp_all
noncomputable def oS(c:Y b4):Y b4:=open Classical in if s:∀b∈c,fD b/\vC b then ab (λb=>b.1) (qh<|Dw c s) else c
def afz{H:Y b4}:(oS H).Perm H:=by unfold oS;split;rename_i s;have c:=(Uh<|Dw H s).1.map λb=>b.1;have d:=b0 (ND id H s)<|uo H;simp_all;rfl
def awP(b:Y b4)(s:∀c∈b,fD c/\vC c)(g:U b<=1000000):dF 297 [.a 6001 0 (U (ab cm b)),eo (c1 293) [] []] [(6001,.j 3 107 (ab cm b))] (cv []) [(6001,.j 3 107 (ab cm (oS b)))]:=by
 have f:=awQ (Dw b s) (by grind[atE]);have d:=ND cm b s;have e:((qh (Dw b s)).map λc=>cm c.1)=ab cm (oS b):=by unfold oS;rw[Ca s,i_];rfl
 simp_all
def Xx{c:Y b4}(n:c.Pairwise λe i=>bD e<=bD i)(h:∀d∈c,fD d):∀b,b<=U c->tp (fv c b)/\∀d,d∈fv c b↔d∈am b c
|0,_=>by simp[fv]|b+1,y=>by
 let⟨l,m⟩:=Xx n h b q;let u:=D7.1 n;rw[fv,Gw q,A1<|show b<U c by omega];split;rename_i s;rw[A1<|show b-1<U c by omega] at s;refine⟨l,λd=>?_⟩;rw[m,fp,eu];refine⟨bj,λg=>g.elim id λf=>?_⟩;rw[f,s.2];exact Vn.2 ⟨b-1,q,aa⟩;rename_i s;refine⟨List.pairwise_append.2 ⟨l,Gv _ _,λe r i t=>?_⟩,λd=>?_⟩;obtain rfl:=eu.1 t;obtain⟨o,k,rfl⟩:=Vn.1<|(m e).1 r;rcases nF b with p|p;omega;rw[A1<|show b-1<U c by omega] at s;let v:=u (b-1) b q q q;let w:bD _≠bD _:=λf=>s ⟨q,aru (h _<|hL _) (h _<|hL _)<|bQ f⟩;let x:bD c[o]<=bD c[b-1]:=by rcases hN o (b-1) with g|g;simp_all;grind
 omega;grind
noncomputable def m5(b c:Y b4):Y b4:=fv (oS<|iV [b,c])<|U<|oS<|iV [b,c]
def M_{b:b4}(s:Small b):vC b:=⟨by have:=s.1;omega,by have:=s.2.1;omega,by have:=s.2.2;omega⟩
theorem Q2{c d:Y b4}{b:b4}:b∈iV [c,d]↔b∈c\/b∈d:=ao
def OD{b c:Y b4}(f:yy b)(g:yy c):tp (m5 b c)/\(∀e,e∈m5 b c↔e∈b\/e∈c)/\U (m5 b c)<=U b+U c:=by
 let s:∀d∈iV [b,c],fD d/\vC d:=λd k=>by rcases Q2.1 k with s|s;exact⟨(f.1 d s).1,M_ (f.1 d s).2⟩;exact⟨(g.1 d s).1,M_ (g.1 d s).2⟩
 let h:=afz (H:=iV [b,c]);let⟨i,n⟩:=Xx (by simp_all[oS,Ca,Pb,Uh]) (λe l=>(s e<|h.mem_iff.1 l).1) _<|bv _;refine⟨i,λe=>?_,?_⟩;grind[m5,List.take_length,Q2];have:=Xy (oS<|iV [b,c])<|U<|oS<|iV [b,c];let m:U (oS<|iV [b,c])=U b+U c:=by rw[h.length_eq];simp
 grind[m5]
def gT(d b:Y b4)(c:Z):Z:=if s:c<U b then low d b[c] else U d
def abb{c:Y b4}(s:tp c)(d:b4)(b:Z)(e:b<U c):bD c[b]<bD d↔b<low c d:=by have:=CC s (2*bD d) b e;grind[low]
def Sj(b c:Y b4)(d:Z):gT b c d<=U b:=by unfold gT;split;exact D3;omega
def aa4{b c:Y b4}(h:tp b)(s:tp c)(v:∀x∈b,x∈c){d:Z}(t:d<U c):gT b c (d+1)=gT b c d+if gT b c d<U b/\y b (gT b c d) av=c[d] then 1 else 0:=by
 let A:=D7.1 s;let p:gT b c d=low b c[d]:=by unfold gT;rw[Ca t]
 rw[p];let z:=abb h c[d];let C:low b c[d]<=U b:=D3;let n:∀e(k:e<U b),e<gT b c (d+1)↔bD b[e]<bD c[d]\/b[e]=c[d]:=by
  intro e k;let⟨w,E,l⟩:=m_.1<|v _<|hL k;let u:bD b[e]<bD c[d]\/b[e]=c[d]↔w<=d:=by rw[<-l];constructor;grind;grind
  rw[u];unfold gT;split;rename_i B;rw[<-abb h c[d+1] e k,<-l];grind;omega
 let D:=Sj b c<|d+1;by_cases f:low b c[d]<U b/\y b (low b c[d]) av=c[d];rw[af f];rw[A1 f.1] at f;let o:=(n _ f.1).2<|bp f.2;refine J4 (Pj λr=>?_) o;let m:low b c[d]+1<U b:=q;let g:=(n _ m).1 r;let i:=D7.1 h (low b c[d]) (low b c[d]+1) f.1 m q;rw[f.2] at i;rcases g with g|g;omega;rw[g] at i;omega;grind
theorem aa5{b c:Y b4}(h:tp c)(e:∀d∈b,d∈c):gT b c 0=0:=by unfold gT;split;unfold low;rw[U7];intro d g;obtain⟨k,i,rfl⟩:=m_.1<|e d g;grind[List.pairwise_iff_getElem];cases b with|nil=>rfl|cons f b=>have:=O8<|e f ao;omega
def xd(e:X->X->X)(c d:eJ)(b:b4):X:=e (c.has b)<|d.has b
def yL(e:X->X->X)(b c:eJ)(d:b4):mb:=vX e (y b.hF (low b.x d) av)<|y c.hF (low c.x d) av
def Qg(d e:eJ)(b B:Z)(c:fM)(i:X->X->X)(n:kF bL c)(o:∀f h,bh c [aV f,aV h] (aV (i f h)))(r:b<U d.hF)(m:B<U e.hF)(s:b<=1000000)(t:B<=1000000):bh 299 [fN 3 [lP d] 0 0,fN 1 [l b] 0 0,fN 3 [lP e] 0 0,fN 1 [l B] 0 0,fN 1 [eo (c1 c) [] []] 0 0] (hr (vX i (y d.hF b av) (y e.hF B av))):=by
 refine bs func299 [] λp u=>?_;refine a1.eK 1006 Rt.size 385 [] ai ?_;refine a1.eK 1007 Rt.size 385 [] ai ?_;refine ei ?_;refine bw (λ_=>bB b _ aa) ?_;refine bw (λ_=>bB B _ aa (k:=eZ m)) ?_;refine DY 1006 6 ?_;refine DY 1007 7 ?_;refine fo ?_;refine fo ?_;refine fz ?_;refine ei ?_
 iterate 2 refine bw (λ_=>ch aa (aM:=n) (g:=o _ _)) ?_
 refine fo ?_;refine fz ?_;exact dj br
def ald(e d:eJ)(t:fM)(i:X->X->X)(G:kF bL t)(H:∀m P,bh t [aV m,aV P] (aV (i m P)))(u:e.ok)(aM:d.ok)(bl:U e.x+U d.x<=100000)(az:0<U e.x+U d.x):bh 258 [lP e,lP d,eo (c1 t) [] []] (lP (mO i (m5 e.x d.x) e d)):=by
 refine bs func258 [2003,2007,2010,2011,2017] λp aA=>?_;obtain⟨I,D,ay⟩:=OD u.1 aM.1;have ap:∀w∈iV [e.x,d.x],fD w/\vC w:=λw ak=>by rcases Q2.1 ak with s|s;exact⟨(u.1.1 w s).1,M_ (u.1.1 w s).2⟩;exact⟨(aM.1.1 w s).1,M_ (aM.1.1 w s).2⟩
 have S:[e.x,d.x].flatten.length=U e.x+U d.x:=ao;have aL:U (oS (iV [e.x,d.x]))=U e.x+U d.x:=by rw[(afz).length_eq,S]
 have K:∀m∈e.x,m∈m5 e.x d.x:=λm o=>(D m).2<|bj o;have M:∀m∈d.x,m∈m5 e.x d.x:=λm o=>(D m).2<|bp o;have J:m5 e.x d.x=fv (oS (iV [e.x,d.x])) (U (oS (iV [e.x,d.x]))):=aa;generalize m5 e.x d.x=c at I D ay K M J⊢;have aD:U (ab cm c)=U c:=bm _;have aF:=u.2.2.2.1;have aG:=aM.2.2.2.1;have R:∀m∈c,fD m/\Small m:=λm o=>((D m).1 o).elim (u.1.1 m)<|aM.1.1 m;have au:=λh=>Sj e.x c h;have aw:=λh=>Sj d.x c h;refine cp ?_;refine bG [(24,19)] ?_ (g:=alj [e.x,d.x] q q ao);refine bG [(6001,19)] ?_ (g:=awP (iV [e.x,d.x]) ap q);refine gZ j3 (λm=>⟨[(3,b 3),(4,b 4),(5,b 5),(6,b 6),(7,.a 19 0<|U<|ab cm<|fv (oS<|iV [e.x,d.x])<|U<|oS<|iV [e.x,d.x])],[(3,ah 274<|lP e),(4,ah 274<|lP d),(5,ah 364<|eo (c1 t) [] []),(6,ah 274<|V.zero A8.z),(19,.j 3 107<|ab cm<|fv (oS<|iV [e.x,d.x])<|U<|oS<|iV [e.x,d.x])],[]⟩) (λ_=>dW) ?_ λm o=>?_
 .refine bG [(5001,19)] ?_ (g:=alf (oS<|iV [e.x,d.x]) (U<|[e.x,d.x].flatten.map cm) q aq);exact dn ()
 rw[<-J];refine a1.eK 1100 2 385 [] (W (8,2)) ?_;refine a1.eK 1101 1 4 [] (W (8,1)) ?_;refine dA ?_;refine c8 (Z×L×L) (λn=>⟨[(3,b 3),(4,b 4),(5,b 5),(6,b 6),(8,b 8),(9,b 9),(10,b 10),(11,_),(27,_),(28,_),(29,l n.1)],[(3,_),(4,_),(5,_),(6,_),(8,ah 274<|b2 [.a 19 0 (U<|ab cm c),.a 1101 0<|U<|ab bE<|ab (xd i e d)<|am n.1 c,.a 1100 0<|U<|ab hr<|ab (yL i e d)<|am n.1 c]),(9,ah 3<|an aj n.2.1),(10,ah 3<|an aj n.2.2),(19,.j 3 107<|ab cm c),(1100,.j 2 385<|ab hr<|ab (yL i e d)<|am n.1 c),(1101,.j 1 4<|ab bE<|ab (xd i e d)<|am n.1 c)],[]⟩) (λn=>n.1<=U c/\n.2.1=(gT e.x c n.1:Z)/\n.2.2=(gT d.x c n.1:Z)) (λn=>U c-n.1) (0,0,0) (λ⟨h,aN,B⟩ aX=>?_) ⟨dJ _,by grind[aa5],by grind[aa5]⟩ .r;dsimp only at aX⊢;obtain⟨aH,rfl,rfl⟩:=aX;have aI:=au h;have aJ:=aw h;have ar:U (ab bE (ab (xd i e d) (am h c)))=h:=bi;have Y:U (ab hr (ab (yL i e d) (am h c)))=h:=bi;apply f<;>intro aB
 .have v:h<U c:=q;have E:gT e.x c h=low e.x c[h]:=by unfold gT;rw[Ca v]
  have F:gT d.x c h=low d.x c[h]:=by unfold gT;rw[Ca v]
  have A:=R _<|hL v;have N:=aa4 u.1.up I K v;have C:=aa4 aM.1.up I M v;have O:=Gw v;refine cE h ?_;refine fl (cm c[h]) ?_ (k:=qT v);refine gZ j3 (λm=>⟨[(3,b 3),(4,b 4),(5,b 5),(6,b 6),(8,b 8),(9,b 9),(10,b 10),(11,eo (c1 299) [] [b 3,b 9,b 4,b 10,b 5]),(13,b 13),(27,.a 19 0<|U<|ab cm c),(28,l<|U<|ab cm c),(29,l h)],[(3,ah 274<|lP e),(4,ah 274<|lP d),(5,ah 364<|eo (c1 t) [] []),(6,ah 274<|V.zero A8.z),(8,ah 274<|b2 [.a 19 0 (U<|ab cm c),.a 1101 0<|U<|ab bE<|ab (xd i e d)<|am h c,.a 1100 0<|U<|ab hr<|ab (yL i e d)<|am (h+1) c]),(9,ah 3<|an aj ((gT e.x c h:Z):L)),(10,ah 3<|an aj ((gT d.x c h:Z):L)),(13,ah 107<|cm c[h]),(19,.j 3 107<|ab cm c),(1100,.j 2 385<|ab hr<|ab (yL i e d)<|am (h+1) c),(1101,.j 1 4<|ab bE<|ab (xd i e d)<|am h c)],[]⟩) (λ_=>dW) ?_ λm o=>?_
  .refine ei ?_;refine OP [3,9,4,10,5] ?_;apply Cl.mk;intro ax;refine kn ?_ (g:=Qg e d (gT e.x c h) (gT d.x c h) t i G H q q q q);exact aa;refine bw (λ_=>kr aa) ?_;refine jY 38 (ab hr<|ab (yL i e d)<|am (h+1) c) ?_ (aU:=by rw[O,dc,dc,E,F];rfl) (bl:=aK) (k_:=cb) (sL:=cb);refine fo ?_;refine jz [(38,1100)] ?_;exact dn ()
  refine gZ j3 (λm=>⟨[(3,b 3),(4,b 4),(5,b 5),(6,b 6),(8,b 8),(9,b 9),(10,b 10),(11,eo (c1 299) [] [b 3,b 9,b 4,b 10,b 5]),(13,b 13),(27,.a 19 0<|U<|ab cm c),(28,l<|U<|ab cm c),(29,l h)],[(3,ah 274<|lP e),(4,ah 274<|lP d),(5,ah 364<|eo (c1 t) [] []),(6,ah 274<|V.zero A8.z),(8,ah 274<|b2 [.a 19 0 (U<|ab cm c),.a 1101 0<|U<|ab bE<|ab (xd i e d)<|am (h+1) c,.a 1100 0<|U<|ab hr<|ab (yL i e d)<|am (h+1) c]),(9,ah 3<|an aj ((gT e.x c h:Z):L)),(10,ah 3<|an aj ((gT d.x c h:Z):L)),(13,ah 107<|cm c[h]),(19,.j 3 107<|ab cm c),(1100,.j 2 385<|ab hr<|ab (yL i e d)<|am (h+1) c),(1101,.j 1 4<|ab bE<|ab (xd i e d)<|am (h+1) c)],[]⟩) (λ_=>dW) ?_ λm o=>?_
  .refine ei ?_;refine bw (λ_=>ch aa (g:=acd e c[h] u A.1 A.2)) ?_;refine bw (λ_=>ch aa (g:=acd d c[h] aM A.1 A.2)) ?_;refine bw (λ_=>ch aa (aM:=G) (g:=H (e.has c[h])<|d.has c[h])) ?_;refine bw (λ_=>kr aa) ?_;refine jY 51 (ab bE<|ab (xd i e d)<|am (h+1) c) ?_ (aU:=by rw[O,dc,dc];rfl) (bl:=aK) (k_:=ba) (sL:=ba);refine fo ?_;refine jz [(51,1101)] ?_;exact dn ()
  refine fA ?_;apply cL;intro aE;refine jV (gT e.x c h) (cm<|y e.x (gT e.x c h) av) ?_ (k:=eZ q);refine Fw (FX (y e.x (gT e.x c h) av) c[h]) ?_;exact aa;apply f<;>intro aC
  .rw[af aK] at N;refine aY ?_;refine fA ?_;apply cL;intro T;refine jV (gT d.x c h) (cm<|y d.x (gT d.x c h) av) ?_ (k:=eZ q);refine Fw (FX (y d.x (gT d.x c h) av) c[h]) ?_;exact aa;apply f<;>intro Q
   .rw[af aK] at C;refine aY ?_;refine aY ?_;exact a4 (h+1,((gT e.x c h:Z):L)+1,((gT d.x c h:Z):L)+1) ⟨q,bi,bi⟩ q .r
   rw[ad aq] at C;refine aY ?_;exact a4 (h+1,((gT e.x c h:Z):L)+1,((gT d.x c h:Z):L)) ⟨q,bi,bi⟩ q .r
  rw[ad aq] at N;refine fA ?_;apply cL;intro T;refine jV (gT d.x c h) (cm<|y d.x (gT d.x c h) av) ?_ (k:=eZ q);refine Fw (FX (y d.x (gT d.x c h) av) c[h]) ?_;exact aa;apply f<;>intro Q
  .rw[af aK] at C;refine aY ?_;refine aY ?_;exact a4 (h+1,((gT e.x c h:Z):L),((gT d.x c h:Z):L)+1) ⟨q,bi,bi⟩ q .r
  rw[ad aq] at C;refine aY ?_;exact a4 (h+1,((gT e.x c h:Z):L),((gT d.x c h:Z):L)) ⟨q,bi,bi⟩ q .r
 obtain rfl:h=U c:=q;have E:gT e.x c (U c)=U e.x:=by unfold gT;rw[Pu q]
 have F:gT d.x c (U c)=U d.x:=by unfold gT;rw[Pu q]
 rw[iJ] at ar Y⊢;refine gZ j3 (λm=>⟨[(6,b 6),(8,b 8)],[(6,ah 274<|V.zero A8.z),(8,ah 274<|b2 [.a 19 0 (U<|ab cm c),.a 1101 0<|U<|ab bE<|ab (xd i e d) c,.a 1100 0<|U<|(mO i c e d).hF.map hr]),(19,.j 3 107<|ab cm c),(1100,.j 2 385<|(mO i c e d).hF.map hr),(1101,.j 1 4<|ab bE<|ab (xd i e d) c)],[]⟩) (λ_=>dW) ?_ λm o=>?_
 .refine ei ?_;refine OP [3,9,4,10,5] ?_;apply Cl.mk;intro ax;refine kn ?_ (g:=Qg e d (gT e.x c<|U c) (gT d.x c<|U c) t i G H q q q q);exact aa;refine bw (λ_=>kr aa) ?_;refine jY 91 ((mO i c e d).hF.map hr) ?_ (aU:=by rw[E,F];show _=ab hr (ab (yL i e d) c++[_]);simp) (bl:=by grind[mO]) (k_:=cb) (sL:=ba);refine fo ?_;refine jz [(91,1100)] ?_;exact dn ()
 refine gq 19 ?_;refine gq 1100 ?_;refine gq 1101 ?_;exact dj br
def eJ.oN(B:Z)(J:eJ):Prop:=J.ok/\U J.x<=B
def I0{b:Y b4}(s:tp b)(d:∀c∈b,fD c/\Small c):yy b:=⟨d,λg h k f e=>D7.1 s g h k f e⟩
def arE:zk.oN 0:=⟨⟨I0 Eg (by simp[zk]),by simp[zk],aa,aa,cf⟩,bv _⟩
theorem afw{b:b4}(s:sv 30 b):Small b:=s.small a2
def On{J:hq}(d:wx J):(lD J).oN 2:=by
 let o:J.low.has->fD _/\sv 30 _:=λs=>⟨M3<|d.1 s,Ug<|d.1 s⟩;let k:J.high.has->fD _/\sv 30 _:=λs=>⟨M3<|d.2 s,Ug<|d.2 s⟩;let one:∀(e:b4)(M:X)(b s:mb),fD e/\sv 30 e->eJ.oN 2 ⟨[e],[M],[b,s]⟩:=λe M b s t=>
  ⟨⟨I0 (Gv _ _) λp m=>by grind[afw],λp m=>aq,aa,aa,ao⟩,ao⟩
 let zero:∀(b:mb),eJ.oN 2 ⟨[],[],[b]⟩:=λb=>⟨⟨I0 Eg ao,ao,aa,aa,ao⟩,ao⟩;unfold lD;split;exact zero _;rename_i h;split;grind[acK];rename_i i;split;rename_i g;by_cases c:J.low.has;let f:iF J=⟨[J.low.n],[oT J.low (ir J)],[oK,ir J]⟩:=by rw[iF,af c]
 rw[f];let l:rY J=gf (bD J.low.n-bD J.high.n):=by rw[rY,af ⟨c,g⟩,FG (o c).1 (k g).1]
 rw[l] at h i;let r:bD J.low.n<bD J.high.n:=by have:¬0<bD _-bD _:=λb=>h<|Oa.2 b;have:¬bD _-bD _=0:=λb=>i<|DF.2 b;omega
 refine⟨⟨I0 ?_ ?_,?_,aa,aa,ao⟩,ao⟩;grind;grind[afw];simp_all;let f:iF J=⟨[],[],[ir J]⟩:=by rw[iF,ad c]
 rw[f];exact one _ _ _ _<|k g;grind[iF]
def ala{ag4:X->X->X}{h B:Z}{e f:eJ}(c:e.oN h)(d:f.oN B)(n:h+B<=100000):(mO ag4 (m5 e.x f.x) e f).oN (h+B):=by let⟨k,i,o⟩:=OD c.1.1 d.1.1;let l:=c.2;let m:=d.2;refine⟨⟨I0 k λb g=>((i b).1 g).elim (c.1.1.1 b)<|d.1.1.1 b,λb g=>((i b).1 g).elim (c.1.2.1 b)<|d.1.2.1 b,by simp[mO],by simp[mO],?_⟩,?_⟩;show U (m5 _ _)<=_;omega;show U (m5 _ _)<=_;omega
noncomputable def ui(b:Y hq):eJ:=b.foldl (λM J=>mO (λc d=>c||d) (m5 M.x (lD J).x) M<|lD J) zk
def agF:∀(c:Y hq)(M:eJ)(B:Z),(∀J∈c,wx J)->M.oN B->B+2*U c<=100000->(c.foldl (λM J=>mO (λb g=>b||g) (m5 M.x (lD J).x) M<|lD J) M).oN (B+2*U c)/\∀e,(c.foldl (λM J=>mO (λb g=>b||g) (m5 M.x (lD J).x) M<|lD J) M).lM e=(M.lM e||fB c λJ=>(lD J).lM e)|[],M,B,_,f,_=>⟨f,λe=>ao⟩|J::c,M,B,l,f,n=>by let i:=On<|l J ao;rw[l5] at n⊢;let⟨p,m⟩:=agF c _ _ (λb d=>l b aK) (ala (ag4:=λb g=>b||g) f i q) q;let⟨o,k,r⟩:=OD f.1.1 i.1.1;rw[JX];refine⟨aK,λe=>?_⟩;rw[m e,ak9 o (λb d=>((k b).1 d).elim (λh=>(f.1.1.1 b h).1) λh=>(i.1.1.1 b h).1) (λb d=>(k b).2<|bj d) λb d=>(k b).2<|bp d,B1,Bool.or_assoc]
def agG{H:Y hq}(b:∀J∈H,wx J)(s:U H<=1000):(ui H).oN (2*U H):=by have:=(agF H _ 0 b arE q).1;rwa [mC] at this
theorem anS{J:eJ}(I:J.ok){d:Z}(S:d<U J.hF)(s:J.xq d):∃f,J.lM f:=by
 let⟨m,Y,X,R,T⟩:=I;let K:=m.up;let h:∀f,(∀b(c:b<U J.x),b<d->2*bD J.x[b]<f)->(∀b(c:b<U J.x),d<=b->f<2*bD J.x[b])->(if 2*(cq:L) ∣ f then(y J.hF d av).w else(y J.hF d av).o)=ag->J.lM f:=by
  intro f D E F;let z:(J.x.countP λn=>aH<|2*bD n<f)=d:=Xu K q D λb c g=>Int.le_of_lt<|E b c g;let H:¬(fB J.x λn=>aH<|2*bD n=f):=λp=>by let⟨n,M,v⟩:=zS.1 p;let v:=pJ v;obtain⟨b,c,rfl⟩:=m_.1 M;grind
  unfold eJ.lM;rw[ad H,z];exact F
 let ak:∀e:L,¬2*(cq:L) ∣ 2*e+1:=λe p=>by let⟨N,z⟩:=p;grind
 let u:∀b i(c:b<U J.x)(C:i<U J.x),b<=i->bD J.x[b]<=bD J.x[i]:=λb i c C s=>by rcases hN b i with B|B;have:=m.2 b i c C B;omega;grind
 unfold eJ.xq at s;rw[sf,m7] at s;rcases s with s|⟨s,l⟩
 .rcases nF (U J.x) with r|r;refine⟨2*0+1,h _ (λb c=>q) (λb c=>q) ?_⟩;trivial;rcases hN d (U J.x) with B|B;refine⟨2*(bD J.x[d]-1)+1,h _ (λb c k=>?_) (λb c g=>?_) ?_⟩;have:=m.2 b d c B k;omega;grind;simp_all;refine⟨2*bD J.x[U J.x-1]+1,h _ (λb c k=>?_) (λb c g=>q) ?_⟩;have:=u b (U J.x-1) c q q;omega;simp_all
 .let O:∀e,2*(cq:L) ∣ 2*(ew e+cq):=λe=>Hf.2<|Yb<|AI e;let P:∀e,2*(cq:L) ∣ 2*(ew e-cq):=λe=>Hf.2<|Yc<|AI e;let Q:(0:L)<cq:=by have:=ti;omega
  rcases nF (U J.x) with r|r;refine⟨2*(ew 0+cq),h _ (λb c=>q) (λb c=>q) ?_⟩;trivial;rcases hN d (U J.x) with B|B;rcases nF d with A|A;subst A;refine⟨(2:L)*(ew (bD J.x[0])-(cq:L)),h _ (λb c k=>q) (λb c g=>?_) ?_⟩;have:=u 0 b B c g;have:=AT<|bD J.x[0];omega;simp_all;let t:d-1<U J.x:=q;unfold eJ.JH at l;rw[ad q,A1 t,A1 B] at l;let l:=pJ l;rw[(KD (m.1 _<|hL t).1).2] at l;let G:=AT<|bD J.x[d-1];refine⟨2*(ew (bD J.x[d-1])+cq),h _ (λb c k=>?_) (λb c g=>?_) ?_⟩;grind;grind;simp_all;let t:U J.x-1<U J.x:=q;let G:=AT<|bD J.x[U J.x-1];refine⟨2*(ew (bD J.x[U J.x-1])+cq),h _ (λb c k=>?_) (λb c g=>q) ?_⟩;grind;simp_all
def amU{J:eJ}(H:J.ok):J.empty↔∀d,J.lM d=ae:=by
 let⟨e,Z,X,Q,T⟩:=id H;have I:=e.up;unfold eJ.empty;constructor;intro s d;split at s;cases s;rename_i F;have Y:∀b,y J.on b ae=ae:=λb=>by grind
 unfold eJ.lM;split;simp_all;rename_i A;have D:(J.x.countP λn=>aH<|2*bD n<d)<=U J.x:=D3;have t:=λc (k:c<U J.x)=>CC I d c k;generalize (J.x.countP λn=>aH<|2*bD n<d)=c at D t;have l:J.xq c≠ag:=λp=>F ⟨c,q,p⟩;unfold eJ.xq at l;rw[ne_eq,sf,m7] at l;have E:∀b(h:b<U J.x),2*bD J.x[b]≠d:=λb h o=>A<|zS.2 ⟨_,hL h,oY o⟩;split;rename_i bN;cases C:(y J.hF c av).w with
 |false=>rfl|true=>
  exfalso;refine l<|bp ⟨C,?_⟩;unfold eJ.JH;split;rfl;have i:c-1<U J.x:=q;have u:c<U J.x:=q;rw[A1 i,A1 u];refine oY ?_;rw[(KD (e.1 _<|hL i).1).2];obtain⟨v,rfl,K⟩:=Ri bN;have L:=(t (c-1) i).2 q;have M:¬2*bD J.x[c]<2*v:=λp=>aq;have N:=E c u;have z:ew (bD J.x[c-1])<v:=by have:=AT<|bD J.x[c-1];omega
  have O:=axj (AI _) K z;omega
 simp_all;intro s;split;grind[anS];cases r:j1 J.on ag with
 |false=>rfl|true=>
  exfalso;rw[OZ] at r;let⟨b,h,o⟩:=m_.1 r;have f:b<U J.x:=q;have:=Rk J (e.1 _<|hL f).1;have P:low J.x J.x[b]=b:=aba q (λg m G=>e.2 g b m f G) λg m S=>by rcases hN b g with B|B;have:=e.2 b g f m B;omega;grind
  have R:A4 J.x J.x[b]:=zS.2 ⟨_,hL f,oY aa⟩;simp_all[eJ.has,af,dX,cT]
def axn{J:hq}(b:wx J):(lD J).empty=oL (q8 J):=by
 rw[nA,amU (On b).1];constructor;intro s;cases c:oL _ with|true=>rfl|false=>let⟨e,d⟩:=(awM<|awR J).1 c;have:=(afS b e).2 d;simp_all
 grind[lD,cg,afS,ary]
def awO:bh 297 [.bo,eo (c1 293) [] []] (cv []):=eN.arZ λg d p b e=>by
 match d,b with
 |[o,c],_=>
  have m:=e 0 _ o aa aa;have f:=e 1 _ c aa aa;cases m;have l:c=.func (c1 293) #[] #[]:=by
   change bk g (eo (c1 293) [] []) c at f;cases f with
   |func fn v x n d b k s r=>
    have h:n=[]:=by simpa using bQ b
    have i:d=[]:=by simpa using bQ k
    rw[h,i]
  subst l;exact⟨o1 #[],.tuple [] [] aa λt w u s=>by simp at s,fe.VQ ai 0 p⟩
def ale:bh 298 [.bo] .bo:=by refine bs func298 [] λp b=>?_;refine nc.mk (λ_=>?_) nofun;exact aL
def alb(c d:mb)(h:fM)(e:X->X->X)(n:kF bL h)(o:∀k m,bh h [aV k,aV m] (aV (e k m))):bh 258 [lP ⟨[],[],[c]⟩,lP ⟨[],[],[d]⟩,eo (c1 h) [] []] (lP ⟨[],[],[vX e c d]⟩):=by
 refine bs func258 [2007,2017] λp s=>?_;refine cp ?_;refine aT ?_ (g:=ali [[],[]] aa ao);refine aT ?_ (g:=awO);refine aT ?_ (g:=ale);refine a1.eK 1100 2 385 [] (W (8,2)) ?_;refine dA ?_;refine c8 Z (λi=>⟨[(3,b 3),(4,b 4),(5,b 5),(6,b 6),(8,b 8),(9,b 9),(10,b 10),(11,_),(27,_),(28,_),(29,l i)],[(3,_),(4,_),(5,_),(6,_),(8,ah 274<|b2 [.bo,.bo,.a 1100 0 0]),(9,ah 3<|an aj 0),(10,ah 3<|an aj 0),(1100,.j 2 385 [])],[]⟩) (λi=>i=0) (λ_=>0) 0 (λi u=>?_) (bA:=.r);apply f<;>intro t
 .exfalso;omega
 refine gZ j3 (λk=>⟨[(6,b 6),(8,b 8)],[(6,ah 274<|V.zero A8.z),(8,ah 274<|b2 [.bo,.bo,.a 1100 0 1]),(1100,.j 2 385<|ab hr [vX e c d])],[]⟩) (λ_=>dW) ?_ λk v=>?_
 .refine ei ?_;refine OP [3,9,4,10,5] ?_;apply Cl.mk;intro w;refine kn ?_ (g:=Qg ⟨[],[],[c]⟩ ⟨[],[],[d]⟩ 0 0 h e n o ao ao q q);exact aa;refine bw (λ_=>kr aa) ?_;refine jY 91 (ab hr [vX e c d]) ?_ (bl:=ao) (k_:=cb) (sL:=cb);refine fo ?_;refine jz [(91,1100)] ?_;exact dn ()
 refine gq 1100 ?_;refine fQ 3 6 [0] ?_;refine fQ 1 6 [1] ?_;exact dj br
def ak_(g:X->X->X){b c:eJ}(h:b.ok)(i:c.ok)(p:b.x=[])(r:c.x=[]):∃d e,b=⟨[],[],[d]⟩/\c=⟨[],[],[e]⟩/\mO g (m5 b.x c.x) b c=⟨[],[],[vX g d e]⟩:=by
 let m:∀J:eJ,J.ok->J.x=[]->∃f,J=⟨[],[],[f]⟩:=by
  intro J t s;let⟨_,_,l,k,_⟩:=t;let⟨x,v,o⟩:=J;simp only at s l k;subst s;have:v=[]:=l4 l;subst this
  match o,k with|[f],_=>exact⟨f,aa⟩
 obtain⟨d,rfl⟩:=m b h p;obtain⟨e,rfl⟩:=m c i r;refine⟨d,e,aa,aa,?_⟩;let u:=OD h.1 i.1;let n:m5 [] []=[]:=l4 (by have:=u.2.2;simpa using this);show mO g (m5 [] []) _ _=_;rw[n];rfl
def alc(b c:eJ)(d:fM)(e:X->X->X)(g:kF bL d)(k:∀l m,bh d [aV l,aV m] (aV (e l m)))(h:b.ok)(i:c.ok)(t:U b.x+U c.x<=100000):bh 258 [lP b,lP c,eo (c1 d) [] []] (lP (mO e (m5 b.x c.x) b c)):=by rcases nF (U b.x+U c.x) with f|f;let⟨r,s,n,o,p⟩:=ak_ e h i (l4 q)<|l4 q;rw[p,n,o];exact alb r s d e g k;exact ald b c d e g k h i t f
def ayl(H:Y hq)(s:∀J∈H,wx J)(z:∀J∈H,Small J.low.n/\Small J.high.n)(C:U H<=1000):bh 208 [.al 11 (ab pX H)] (lP (ui H)):=by
 refine bs func208 [] λp A=>?_;refine aT ?_ (g:=ack);refine c8 (Z×eJ) (λd=>⟨[(2,b 2),(3,b 3),(7,_),(8,_),(9,l d.1)],[(2,_),(3,ah 274<|lP d.2)],[]⟩) (λd=>d.1<=U H/\d.2=ui (am d.1 H)) (λd=>U H-d.1) (0,zk) (λ⟨c,o⟩ aX=>?_) ⟨dJ _,aa⟩ .r;dsimp only at aX⊢;let⟨k,m⟩:=aX;apply f<;>intro B
 .let i:c<U H:=q;let y:=s _<|hL i;let g:=agG (H:=am c H) (λJ w=>s J<|pE w) (by rw[nD];omega);let t:=On y;let D:U (am c H)<=1000:=by rw[nD];omega
  let v:ui (am (c+1) H)=mO (λe h=>e||h) (m5 (ui<|am c H).x (lD H[c]).x) (ui<|am c H) (lD H[c]):=by rw[Gw i];unfold ui;rw[Ve];rfl
  let u:=z _<|hL i;rw[<-m] at g;refine bB c (pX H[c]) ?_ (k:=qT i);refine ei ?_;refine bw (λ_=>ch aa (g:=afT H[c] u.1 u.2)) ?_;refine bw (λ_=>ch aa (g:=alc o (lD H[c]) 259 (λe h=>e||h) ⟨cb⟩ asg g.1 t.1 (by have:=g.2;have:=t.2;omega))) ?_;refine fo ?_;refine fz ?_;refine aY ?_;exact a4 (c+1,mO (λe h=>e||h) (m5 o.x (lD H[c]).x) o<|lD H[c]) ⟨tb,by dsimp only;rw[v,<-m]⟩ tb .r
 obtain rfl:c=U H:=q;rw[iJ] at m;subst m;exact dj br
def KX{b:lJ}(s:mh b=0):GZ b/\Small b.n:=by unfold mh at s;split at s;exact⟨λ_=>s,(Ug s).small a2⟩;rename_i e;split at s;cases s;rename_i d;have:b.n=⟨ae,[],0⟩:=pD λc=>d aq;refine⟨λc=>cg c e,?_⟩;rw[this];trivial
def qi(J:hq):L:=if mh J.low≠0 then mh J.low else if mh J.high≠0 then mh J.high else if oL (q8 J) then 10 else 0
def Om{J:hq}(b:mh J.low=0)(c:mh J.high=0):wx J/\Small J.low.n/\Small J.high.n:=⟨⟨(KX b).1,(KX c).1⟩,(KX b).2,(KX c).2⟩
instance:l9 lJ:=⟨⟨ae,ae,av⟩⟩
instance:l9 hq:=⟨⟨av,av,ae⟩⟩
def Zn{c:Y hq}{b:Z}(s:b<U c):y c b av=c[b]:=aq
def Jl(c:Y hq):Z->L:=nW λb=>qi<|y c b av
def lY(J:gh):L:=if J.km<0\/3<J.km then 9 else if 20<U J.dR then 3 else Jl J.dR (U J.dR)
def FB{J:gh}{c:L}{b:Z}(f:¬(J.km<0\/3<J.km))(g:¬20<U J.dR)(s:Jl J.dR b=0)(d:b<U J.dR)(h:qi (y J.dR b av)=c)(e:c≠0):lY J=c:=by have:=Hv s q _ d;simp_all[lY,ad,Jl]
def hq.py(J:hq):Prop:=U J.low.n.bT<=1048576/\U J.high.n.bT<=1048576
def akx(J:gh)(C:∀D∈J.dR,D.py)(H:U J.dR<=1000000):bh 207 [ha J] (an aj (lY J)):=by
 refine bs func207 [] λp E=>?_;refine gu ?_;apply f<;>intro e
 .exact aL (s:=by rw[lY,af e];rfl)
 apply f<;>intro F
 .exact aL (s:=by rw[lY,ad e,af q];rfl)
 have i:¬20<U J.dR:=q;refine gN (U J.dR) (λd=>Jl J.dR d=0) (λd=>⟨[(23,_),(24,_),(25,l d)],[],[]⟩) (λd k=>?_) aa .r;apply f<;>intro G
 .have h:d<U J.dR:=q;have o:=C _<|hL h;rw[<-Zn h] at o;refine bB d (pX<|y J.dR d av) ?_ (k:=eZ h);refine cp ?_;refine gN 2 (λc=>(0<c->mh (y J.dR d av).low=0)/\(1<c->mh (y J.dR d av).high=0)) (λc=>⟨[(4,b 4),(23,_),(24,_),(25,_),(33,_),(34,_),(35,l c)],[(4,_)],[]⟩) (λc v=>?_) ⟨λs=>q,λs=>q⟩ .r;apply f<;>intro w
  .have x:c<2:=by have:((c:Z):L)<((2:Z):L):=w;omega
   refine bB c (CR<|if c=0 then(y J.dR d av).low else(y J.dR d av).high) ?_ (k:=by rcases(show c=0\/c=1 by omega) with s|s<;>subst s<;>rfl);refine aT ?_ (g:=akr (if c=0 then(y J.dR d av).low else(y J.dR d av).high) (by split;exact o.1;exact o.2));apply f<;>intro m
   .exact aL (s:=by
     have z:c=0\/c=1:=by omega
     rcases z with rfl|rfl;rw[af aa] at m⊢;rw[FB e i k.2 h (by rw[qi,af m]) m];rfl;rw[FB e i k.2 h (by simp_all[qi,ad,af]) m];rfl)
   refine aY ?_;exact a4 (c+1) ⟨q,λs=>by grind,λs=>by grind⟩ (bA:=.r)
  have x:¬c<2:=by have:¬((c:Z):L)<((2:Z):L):=w;omega
  have t:=v.2.1 q;have u:=v.2.2 q;have n:=Om t u;refine aT ?_ (g:=afT (y J.dR d av) n.2.1 n.2.2);refine aT ?_ (A:=aV<|oL<|q8<|y J.dR d av) (g:=by rw[<-axn n.1];exact S1 (On n.1).1);apply f<;>intro B
  .exact aL (s:=by rw[FB e i k.2 h (by rw[qi,ad λs=>s t,ad λs=>s u,af B]) a2];rfl)
  refine aY ?_;exact a4 (d+1) ⟨q,EY k.2 (by simp_all[qi,ad])⟩ (bA:=.r)
 exact aL (s:=by rw[lY,ad e,ad i,show U J.dR=d by omega,k.2];rfl)
def p6(J:gh)(b:L):L:=if J.kb=ae then(if 0<U J.dG\/J.rest≠0 then 2 else 0)
 else if tF J.dG b (-1)≠0 then tF J.dG b (-1) else if J.rest< -1\/b<=J.rest then 9 else 0
def aky(J:gh)(c:L)(e:U J.dG<=1000000):bh 211 [ha J,an aj c] (an aj (p6 J c)):=by
 refine bs func211 [] λp h=>?_;apply f<;>intro k
 .refine gu ?_;apply f<;>intro i
  .exact aL (s:=by rw[p6,af aq,af q];rfl)
  exact aL (s:=by rw[p6,af aq,ad q];rfl)
 refine aT ?_ (g:=akt c e);apply f<;>intro b
 .exact aL (s:=by rw[p6,ad aq,af b];rfl)
 refine gu ?_;apply f<;>intro d
 .exact aL (s:=by rw[p6,ad aq,ad b,af d];rfl)
 exact aL (s:=by rw[p6,ad aq,ad b,ad d];rfl)
def Oc(B b:L):bh 74 [an aj B,an aj b] (aV !lg b B):=by refine bs func74 [] λp c=>?_;exact cL (λ_=>aa)<|aL (s:=by refine ea V.bool ?_;unfold lg<;>grind)
def ani(c:Y nM)(n m:L)(B:U c<=1000000):bh 101 [.al 3 (ab fw c),an aj n,an aj m] (an aj (tF c n m)):=by
 refine bs func101 [] λp u=>?_;apply f<;>intro v
 .exact aL (s:=by rw[tF,af q];rfl)
 let h:¬30<U c:=q;refine gN (U c) (λb=>nW (oz c n m) b=0) (λb=>⟨[(0,_),(1,_),(2,_),(7,l b)],[],[]⟩) (λb k=>?_) aa .r;apply f<;>intro w
 .let d:b<U c:=q;refine bB b (fw<|y c b av) ?_ (k:=eZ d);refine aT ?_ (g:=auW (y c b av).name);apply f<;>intro e
  .exact aL (s:=by rw[AU h k.2 d (by rw[oz,af e]) e];rfl)
  refine fA ?_;apply cL;refineλx=>jV b (fw<|y c b av) ?_ (k:=eZ d);refine iQ ?_;refine jV (b-1) (fw<|y c (b-1) av) ?_ (k:=eZ q);exact aa;apply f<;>intro i
  .exact aL (s:=by rw[AU h k.2 d (by rw[oz,ad e,af i]) a2];rfl)
  refine bB b (fw<|y c b av) ?_ (k:=eZ d);apply cy;refineλz=>jV b (fw<|y c b av) ?_ (k:=eZ d);exact aa;apply f<;>intro o
  .exact aL (s:=by rw[AU h k.2 d (by rw[oz,ad e,ad i,af o]) a2];rfl)
  refine bB b (fw<|y c b av) ?_ (k:=eZ d);apply cL;intro A;refine jV b (fw<|y c b av) ?_ (k:=eZ d);exact aa;apply f<;>intro t
  .exact aL (s:=by rw[AU h k.2 d (by rw[oz,ad e,ad i,ad o,af t]) a2];rfl)
  refine aY ?_;exact a4 (b+1) ⟨q,EY k.2 (by simp_all[oz,ad])⟩ (bA:=.r)
 exact aL (s:=by rw[tF,ad h,show U c=b by omega,k.2];rfl)
structure qw where
 IB:Y C->L
 FJ:Y C->aW
 fx:Y C->L
 r0:Y C->L
 R7:aW->L
 apA:aW->bY
 em:bY->X
structure PC(v:qw):Prop where
 read:∀J:Y C,U J<=1048576->bh 96 [a8 J] (cv [cW (v.FJ J),an aj (v.r0 J),an aj (v.IB J)])
 least:∀J:Y C,U J<=1048576->v.IB J=0->bh 97 [cW (v.FJ J)] (cv [ga (v.apA (v.FJ J)),an aj (v.R7 (v.FJ J))])
def ny(b:qw)(J:gh):L:=if J.re=ae/\J.kd≠[] then 2 else if J.re then(if b.IB J.kd≠0 then b.IB J.kd else b.R7 (b.FJ J.kd)) else 0
def ii(c:qw)(J:gh)(b:L):L:=if lY J≠0 then lY J else if ny c J≠0 then ny c J else if mu J b≠0 then mu J b else p6 J b
def F5{d:qw}{J:gh}{c aE:L}(s:lY J=aE)(b:aE≠0):ii d J c=aE:=by rw[ii,s,af b]
def Jb{b:qw}{J:gh}{f aE:L}(e:lY J=0)(s:ny b J=aE)(d:aE≠0):ii b J f=aE:=by rw[ii,e,ad λc=>c aa,s,af d]
def Ja{d:qw}{J:gh}{c aE:L}(f:lY J=0)(g:ny d J=0)(s:mu J c=aE)(e:aE≠0):ii d J c=aE:=by rw[ii,f,ad λb=>b aa,g,ad λb=>b aa,s,af e]
def DG{d:qw}{J:gh}{c:L}(e:lY J=0)(f:ny d J=0)(s:mu J c=0):ii d J c=p6 J c:=by rw[ii,e,ad λb=>b aa,f,ad λb=>b aa,s,ad λb=>b aa]
theorem aeE{b B:L}(c:0<=b):¬B=-1/\lg b B↔B< -1\/b<=B:=by(simp[lg,sf,kk];omega)
def ai_{d:L}{c:Y L}(s:∀b,b<U c->lg d (y c b av)=ae):¬fB c (lg d):=λe=>by let⟨i,f,g⟩:=zS.1 e;obtain⟨b,h,rfl⟩:=m_.1 f<;>simp_all
def gh.py(J:gh):Prop:=(∀b∈J.dR,b.py)/\U J.dR<=1000000/\U J.kd<=1048576/\U J.eL<=1048576/\U J.dG<=1000000
def aww(o:qw)(G:PC o)(J:gh)(e:L)(P:J.py)(O:0<=e):bh 75 [ha J,an aj e] (an aj (ii o J e)):=by
 refine bs func75 [70,91] λp Y=>?_;let⟨S,aH,I,aI,T⟩:=P;refine gu ?_;apply f<;>intro m
 .exact aL (s:=by rw[F5 (aE:=9) (by rw[lY,af m]) a2];rfl)
 apply f<;>intro ax
 .exact aL (s:=by rw[F5 (aE:=3) (by rw[lY,ad m,af q]) a2];rfl)
 have v:¬20<U J.dR:=q;refine gN (U J.dR) (λc=>Jl J.dR c=0) (λc=>⟨[(1,_),(2,b 2),(5,l c)],[(2,_)],[]⟩) (λc k=>?_) aa .r;apply f<;>intro ay
 .have i:c<U J.dR:=q;have A:=S _<|hL i;rw[<-Zn i] at A;refine bB c (pX<|y J.dR c av) ?_ (k:=eZ i);refine aT ?_ (g:=W6 (y J.dR c av).low A.1);apply f<;>intro t
  .exact aL (s:=by rw[F5 (FB m v k.2 i (by rw[qi,af t]) t) t];rfl)
  refine bB c (pX<|y J.dR c av) ?_ (k:=eZ i);refine aT ?_ (g:=W6 (y J.dR c av).high A.2);apply f<;>intro w
  .exact aL (s:=by rw[F5 (FB m v k.2 i (by rw[qi,ad t,af w]) w) w];rfl)
  have H:=Om (pD t)<|pD w;refine bB c (pX<|y J.dR c av) ?_ (k:=eZ i);refine aT ?_ (g:=awW (y J.dR c av) H.1);refine aT ?_ (g:=arB (q8<|y J.dR c av) 2 q<|awS H.1);apply f<;>intro az
  .exact aL (s:=by rw[F5 (aE:=10) (FB m v k.2 i (by simp_all[qi,ad,af]) a2) a2];rfl)
  refine aY ?_;exact a4 (c+1) ⟨q,EY k.2 (by simp_all[qi,ad])⟩ (bA:=.r)
 have d:lY J=0:=by rw[lY,ad m,ad v,show U J.dR=c by omega,k.2]
 refine i4 ?_;apply f<;>intro aA
 .exact aL (s:=by rw[Jb (aE:=2) d (by simp_all[ny,af]) a2];rfl)
 refine gZ j3 (λR=>⟨[(1,an aj e),(2,b 2)],[(2,ah 105<|ha J)],[]⟩) (λ_=>ny o J=0) ?_ λR h=>?_
 .apply f<;>intro D
  .refine aT ?_ (g:=G.read J.kd I);apply f<;>intro x
   .exact aL (s:=by rw[Jb (aE:=o.IB J.kd) d (by simp_all[ny,ad,af]) x];rfl)
   refine aT ?_ (g:=G.least J.kd I<|pD x);apply f<;>intro M
   .exact aL (s:=by rw[Jb (aE:=o.R7<|o.FJ J.kd) d (by rw[ny,ad aq,af D,ad λs=>s<|pD x]) M];rfl)
   exact dn () (by rw[ny,ad aq,af D,ad λs=>s<|pD x];omega)
  exact dn () (by simp_all[ny,ad])
 refine gZ j3 (λQ=>⟨[(1,an aj e),(2,b 2)],[(2,ah 105<|ha J)],[]⟩) (λ_=>mu J e=0) ?_ λQ u=>?_
 .apply f<;>intro aB
  .iterate 3 refine gu ?_
   apply f<;>intro Z
   .exact aL (s:=by rw[Ja (aE:=2) d h (by simp_all[mu,af]) a2];rfl)
   exact dn () (by simp_all[mu,af,ad])
  apply f<;>intro ak
  .exact aL (s:=by rw[Ja (aE:=3) d h (by rw[mu,ad aq,af q]) a2];rfl)
  refine gN (U J.eL) (λB=>∀n,n<B->lg e (y J.eL n av)=ae) (λB=>⟨[(1,_),(2,b 2),(13,l B)],[(2,_)],[]⟩) (λB N=>?_) (λn E=>q) .r;apply f<;>intro am
  .have F:B<U J.eL:=q;refine bB B (gI<|y J.eL B av) ?_ (k:=eZ F);refine aT ?_ (g:=Oc (y J.eL B av) e);apply f<;>intro ap
   .exact aL (s:=by rw[Ja (aE:=9) d h (by rw[mu,ad aq,ad q,af<|zS.2 ⟨_,hL F,aq⟩]) a2];rfl)
   refine aY ?_;exact a4 (B+1) ⟨q,λn E=>by grind⟩ (bA:=.r)
  have C:¬fB J.eL (lg e):=ai_ λn E=>N.2 n q;apply cL;intro aC;refine ch ?_ (g:=Oc J.item e);exact aa
  iterate 2 refine gu ?_
  apply cy;intro aD;apply cL;intro aF;refine gu ?_;exact aa;exact aa;apply f<;>intro ar
  .exact aL (s:=by rw[Ja (aE:=9) d h (by rw[mu,ad aq,ad q,ad C,af aq]) a2];rfl)
  exact dn () (by rw[mu,ad aq,ad q,ad C,ad aq])
 apply f<;>intro au
 .refine gu ?_;apply f<;>intro aw
  .exact aL (s:=by rw[DG d h u,p6,af aq,af q];rfl)
  exact aL (s:=by rw[DG d h u,p6,af aq,ad q];rfl)
 refine aT ?_ (g:=ani J.dG e (-1) T);apply f<;>intro z
 .exact aL (s:=by rw[DG d h u,p6,ad aq,af z];rfl)
 apply cL;intro aG;refine ch ?_ (g:=Oc J.rest e);exact aa;apply f<;>intro K
 .exact aL (s:=by rw[DG d h u,p6,ad aq,ad z,af<|(aeE O).1 aq];rfl)
 exact aL (s:=by rw[DG d h u,p6,ad aq,ad z,ad λX=>K (by grind[aeE])];rfl)
instance:l9 gh:=⟨⟨ae,0,[],ae,[],ae,[],0,0,0,ae,[],0⟩⟩
structure nO where
 cQ:Y gh
 root:L
def nj(J:nO):V:=b2 [.al 13 (ab ha J.cQ),an aj J.root]
def iM(c:qw)(J:nO):L:=if U J.cQ=0 then 13 else if 60<U J.cQ then 3 else if lg (U J.cQ) J.root then 9
 else nW (λb=>ii c (y J.cQ b av)<|U J.cQ) (U J.cQ)
def nO.py(J:nO):Prop:=(∀b∈J.cQ,b.py)/\U J.cQ<=1000000
theorem L0{c:Y gh}{b:Z}(s:b<U c):y c b av=c[b]:=aq
def auI{e:qw}(u:PC e){J:nO}(v:J.py):bh 48 [nj J] (an aj (iM e J)):=by
 refine bs func48 [] λp w=>?_;apply f<;>intro B
 .exact aL (s:=by rw[iM,af q];rfl)
 apply f<;>intro x
 .exact aL (s:=by rw[iM,ad q,af q];rfl)
 refine aT ?_ (A:=aV !lg (U J.cQ) J.root) (g:=by simp[Oc]);apply f<;>intro t
 .exact aL (s:=by rw[iM,ad q,ad q,af aq];rfl)
 let h:¬U J.cQ=0:=q;let i:¬60<U J.cQ:=q;let m:¬lg (U J.cQ) J.root:=by simpa using t
 refine gN (U J.cQ) (λc=>nW (λc=>ii e (y J.cQ c av)<|U J.cQ) c=0) (λc=>⟨[(1,b 1),(3,l c)],[(1,_)],[]⟩) (λc k=>?_) aa .r;apply f<;>intro z
 .let d:c<U J.cQ:=q;refine fA<|bB c (ha<|y J.cQ c av) ?_ (k:=eZ d);refine ch ?_ (A:=an aj<|ii e (y J.cQ c av)<|U J.cQ) (g:=by rw[bm];exact aww e u (y J.cQ c av) (U J.cQ) (by rw[L0 d];exact v.1 _<|hL d) q);apply f<;>intro n
  .exact aL (s:=by rw[iM,ad h,ad i,ad m,Hv k.2 n _ d];rfl)
  refine aY ?_;exact a4 (c+1) ⟨q,EY k.2<|pD n⟩ (bA:=.r)
 exact aL (s:=by
  let o:nW (λc=>ii e (y J.cQ c av)<|U J.cQ) (U J.cQ)=0:=by
   let d:U J.cQ=c:=by omega
   have:=k.2;rw[<-d] at this;exact this
  rw[iM,ad h,ad i,ad m,o];rfl)
def aby{d f:Type}{c:Y d}{e:d->f}{b:Z}{I:d}(s:b<U c):(ab e c)[b]?=W (e (y c b I)):=by simp_all
def hc(d:Z->Y X->X)(c:Y X):Z->Y X|0=>c|b+1=>if y (hc d c b) b ag=ae/\d b (hc d c b) then aR (hc d c b) b ag else hc d c b
def uK(c:Y X):Z:=c.countP λb=>!b
def xk(d:Z->Y X->X)(c:Z):Z->Y X->Y X|0,b=>b|B+1,b=>if hc d b c=b then b else xk d c B (hc d b c)
def y1(d:Z->Y X->X)(c:Z)(b:Y X):Y X:=xk d c (uK b+1) b
theorem Tv(d:Z->Y X->X)(c:Y X):∀b,U (hc d c b)=U c|0=>aa|b+1=>by rw[hc];split<;>simp[Tv d c b]
theorem Xs:∀{b:Y X}{c:Z},y b c ag=ae->uK (aR b c ag)+1=uK b|[],c,s=>cf|d::b,0,s=>by grind[uK]|d::b,c+1,s=>by grind[uK]
theorem IC(d:Z->Y X->X)(b:Y X):∀c,uK (hc d b c)<=uK b/\(hc d b c=b\/uK (hc d b c)<uK b)|0=>⟨bv _,bj aa⟩|c+1=>by let⟨e,f⟩:=IC d b c;grind[hc,Xs]
theorem YT(e:Z->Y X->X)(d:Z):∀(B c:Z)(b:Y X),uK b<B->uK b<c->xk e d B b=xk e d c b|0,_,_,s,_=>q|_,0,_,_,s=>q|B+1,c+1,b,f,g=>by rw[xk,xk];split;rfl;rename_i s;have:=j2 (IC e b d).2 s;exact YT e d B c _ q q
theorem ann{d:Z->Y X->X}{c:Z}{b:Y X}(s:hc d b c≠b):y1 d c b=y1 d c (hc d b c):=by have:=j2 (IC d b c).2 s;unfold y1;rw[xk,ad s];grind[YT]
theorem ano{d:Z->Y X->X}{c:Z}{b:Y X}(s:hc d b c=b):y1 d c b=b:=by simp_all[y1,xk,af]
def atd{sm:Z->Y X->X}{H:Y X}{D:Z}(s:y (hc sm H D) D ag=ae)(b:sm D (hc sm H D)):hc sm H (D+1)=aR (hc sm H D) D ag/\hc sm H (D+1)≠H:=by
 let c:hc sm H (D+1)=aR (hc sm H D) D ag:=by rw[hc,af ⟨s,b⟩]
 grind[Xs,IC]
structure bY.ok(z:bY):Prop where
 pos:0<U z.next
 len:U z.next<=300
 acc:U z.acc=U z.next
 j:∀D,D<U z.next->U (y z.next D [])=256
 start:z.start<U z.next
 dst:∀D Q,D<U z.next->Q<256->y (y z.next D []) Q 0<U z.next
def axH{J:Y C}{b:Z}(s:b<U J):am (b+1) J=am b J++[y J b 0]:=by simp_all
section
def OK(c:bY):Z->Y (Y C)
|0=>cM (U c.next) []|b+1=>if y (ey c<|y (c3 c<|b/256) (b/256) 0) (b%256) 0∈lW c (b/256) (b%256) then OK c b
 else aR (OK c b) (y (ey c<|y (c3 c<|b/256) (b/256) 0) (b%256) 0) (y (OK c b) (y (c3 c<|b/256) (b/256) 0) []++[gn (b%256)])
def UN(b:bY)(d c:Z):Y (Y C):=OK b<|256*d+c
def tC(b:bY):X:=!fB (c3 b<|U b.next) (hS b)
def C0(b:bY):Z:=(c3 b<|U b.next).findIdx<|hS b
def I_(b:bY):Y C:=if C0 b<U (c3 b<|U b.next) then y (UN b (C0 b) 0) (y (c3 b<|U b.next) (C0 b) 0) [] else[]
def abI{c:bY}(s:hD c){b:Z}(d:b<U (c3 c b)):y (c3 c (U c.next)) b 0=y (c3 c b) b 0/\b<U (c3 c (U c.next)):=by
 let e:=tM (zg c b)<|qV s b;let f:(c3 c<|U c.next)[b]?=W (y (c3 c b) b 0):=by refine zp (pQ<|show b<=U c.next by omega) ?_;show(c3 c b)[b]?=_;rw[dX,cT d];rfl
 grind
def awt{z:bY}(s:hD z){D:Z}(d:D<U (c3 z D))(i:∀b,b<D->hS z (y (c3 z (U z.next)) b 0)=ae)(f:hS z (y (c3 z D) D 0)):I_ z=y (UN z D 0) (y (c3 z D) D 0) []/\tC z=ae:=by
 let⟨e,c⟩:=abI s d;have g:C0 z=D:=by unfold C0;rw[List.findIdx_eq c];refine⟨?_,λb h=>?_⟩;simp_all;grind
 refine⟨by simp_all[I_,af],?_⟩;grind[tC,Bool.not_eq_false',List.any_eq_true,dL]
def awu{z:bY}(i:∀b,b<U (c3 z (U z.next))->hS z (y (c3 z (U z.next)) b 0)=ae):I_ z=[]/\tC z:=by
 let g:∀c∈c3 z (U z.next),hS z c=ae:=λc d=>by obtain⟨b,h,rfl⟩:=m_.1 d<;>simp_all
 let f:¬C0 z<U (c3 z<|U z.next):=λe=>by grind[C0,List.findIdx_lt_length]
 simp_all[I_,ad,tC,U1,U4]
def bY.ok.wf{b:bY}(s:b.ok):hD b:=⟨by have:=s.len;omega,s.acc,s.j,s.start,s.dst⟩
theorem aqG{c:bY}{b d:Z}(s:U (c3 c b)<=b)(e:b<=d):c3 c d=c3 c b:=tt s e
attribute [local irreducible] UN lW c3 ey i1 hS I_ tC
end
section
attribute [local irreducible] fk hi fE
theorem ZD(b B:Z):aR (i1 b (bM B)) B ag=i1 b (bM (B+1)):=by rw[L9 λs=>cg (hM.1 s) q,sh];congr 1;exact ad λs=>cg (hM.1 s) q
theorem Rh{c B b:Z}(s:b<c):(ab bE (i1 c (bM B)))[b]?=W (bE (aH (b<B))):=by simp_all[db,HI,bE,tc,hM]
def Eo(d c:Y Z)(e B:Z):Prop:=U d=e/\U c=e/\(∀b,0<b->b<B->y d b 0<b)/\∀b,y c b 0<256
def Eo.new{c b:Y Z}{f B e d:Z}(s:Eo c b f B)(n:e<B)(m:d<256):Eo (aR c B e) (aR b B d) f (B+1):=by let⟨h,i,k,l⟩:=s;refine⟨bi,bi,λg p o=>?_,λg=>?_⟩;grind;grind[anX]
def F4(b:bY)(B:Z):(DE b).cells[256+B]?=[V.al 1 (ab l (fE b)),V.al 1 (nR b (hi b)),V.al 1 (m2 b (hi b))][B]?:=lv ba _ _ _ B
def aiA{b:bY}{c:Z}(s:c<hi b):(nR b (hi b))[c]?=W (bE (hS b (tR b c))):=by unfold nR;rw[db,zW s];rfl
def avQ{b:bY}{d c:Z}(s:c<U (fE b)):(ab l (F2 b d))[c]?=W (l (pr b d c)):=by unfold F2 hI<;>simp_all
attribute [local irreducible] nR m2 F2
def awy(z:bY)(h:hD z)(n:U z.next<=300):iL bL fT 303 [b 6000] [] [(6000,ah 260 (DE z))] (λ_:Y C=>dW) (λx=>cv [a8 x,aV !tC z]) (λ_=>[]) (λ_=>[(6000,ah 260<|DE z)]):=by
 refine iL.of_wp (K:=hX) [2001] gm br h7 ⟨func303,ba,aa⟩ aa aa aa λbt p av bu=>?_;have a0:kE bL hX p fT _ [2001]:=⟨gm,br,av,h7,bu⟩;have w:=ae4 z<|hi z;have bq:=aq1 h n;have bg:U (ab l (fE z))=U (fE z):=bm ..;have aD:=aqj z;have a_:=Ze z;have bn:=St h n 0;have aF:=λD=>awt (z:=z) h (D:=D);have aG:=awu (z:=z);refine dA ?_;refine a1.eK 1019 1 3 [] ai ?_;refine a1.eK 1025 1 3 [] ai ?_;refine ei ?_;refine bw (λ_=>hU (.al 1<|m2 z<|hi z) aa (fi:=F4 z 2)) ?_;refine agZ 1019 19 (hi z) (ab l<|cM (hi z) 0) ?_ (k:=ea nb w) (lR:=ea nb w) (aU:=wP);refine bw (λ_=>hU (.al 1<|m2 z<|hi z) aa (fi:=F4 z 2)) ?_;refine agZ 1025 25 (hi z) (ab l<|cM (hi z) 0) ?_ (k:=ea nb w) (lR:=ea nb w) (aU:=wP);refine fz ?_;refine hU (.al 1<|m2 z<|hi z) ?_ (fi:=F4 z 2);refine kS (hi z) (hi z) (ab bE<|i1 (hi z)<|bM 0) ?_ (k:=ea nb w) (lR:=ea nb w) (aU:=by rw[show bM 0=[] from aa,Rg,B3];rfl);refine cE 0 ?_ (k:=q);refine fF (ab bE<|i1 (hi z)<|bM 1) (bE ae) (bE ag) ?_ (k:=by grind[Rh]) (aU:=by rw[<-ZD,hl]);refine n0 ?_;refine c8 (Z×Y Z×Y Z) (λe=>⟨[(0,b 6000),(4,.a 19 0<|hi z),(5,.a 25 0<|hi z),(6,.a 31 0<|hi z),(7,.a 34 0<|U<|ab l<|bM<|fk z e.1 0),(8,l e.1)],[(19,.j 1 3<|ab l e.2.1),(25,.j 1 3<|ab l e.2.2),(31,.j 1 4<|ab bE<|i1 (hi z)<|bM<|fk z e.1 0),(34,.j 1 3<|ab l<|bM<|fk z e.1 0),(6000,ah 260<|DE z)],[]⟩) (λe=>Eo e.2.1 e.2.2 (hi z) (fk z e.1 0)/\e.1<=fk z e.1 0/\∀i,i<e.1->hS z (y (c3 z<|U z.next) i 0)=ae) (λe=>hi z-e.1) (0,cM (hi z) 0,cM (hi z) 0) (λ⟨D,E,t⟩ aX=>?_) ⟨⟨ao,ao,λaN aQ aS=>aq,λaN=>aK⟩,dJ _,λi lR=>cg lR<|yl i⟩ ⟨⟨ba,ba,ba,ba,(by dsimp only;rw[aD];rfl),ba,b5⟩,⟨cb,cb,cb,cb,cb,b5⟩,aa,aa⟩;apply f<;>intro T
 .simp only[bm,ij] at T;let⟨A,P,B⟩:=aX;dsimp only at A P B;have aE:U (ab l (bM (fk z D 0)))=fk z D 0:=by rw[bm,ij]
  have o:D<fk z D 0:=q;have bk:=St h n D;let⟨a7,a9,ay,az⟩:=id A;have ap:D<U (c3 z D):=by rw[<-abm h n];exact o
  refine cE D ?_ (k:=bi);refine fl (l D) ?_ (k:=aq);refine hU (.al 1<|nR z<|hi z) ?_ (fi:=F4 z 1);refine bB D (bE<|hS z<|tR z D) ?_ (k:=aiA q);apply f<;>intro aw
  .have O:tC z=ae:=(aF D ap B (by grind[acz])).2;rw[O];refine a1.eK 10 1 5 [10] ai ?_;refine c8 (Z×Y C) (λd=>⟨[(4,.a 19 0<|hi z),(5,.a 25 0<|hi z),(9,l d.1),(10,.a 10 0<|U<|ab bF d.2)],[(10,.j 1 5<|ab bF d.2),(19,.j 1 3<|ab l E),(25,.j 1 3<|ab l t),(31,.j 1 4<|ab bE<|i1 (hi z)<|bM<|fk z D 0),(34,.j 1 3<|ab l<|bM<|fk z D 0),(6000,ah 260<|DE z)],[]⟩) (λd=>d.1<fk z D 0/\U d.2+d.1<=D) (λd=>d.1) (D,[]) (λ⟨J,x⟩ aU=>?_) ⟨o,ao⟩;apply f<;>intro a3
   .let⟨H,Q⟩:=aU;dsimp only at H Q;have bs:J≠0:=λaP=>q;have aB:=ay J q H;have aM:=az J;refine cE J ?_ (k:=q);refine fl (l<|y t J 0) ?_ (k:=eE q);refine iG ((ax (gn<|y t J 0):Z):L) ?_ (bu:=by rw[vh aM]) (uU:=by grind[vh,E_]);refine cp ?_;refine eB (ab bF<|x++[gn (y t J 0)]) ?_ (aU:=ro) (bl:=bi);refine cE J ?_ (k:=q);refine fl (l<|y E J 0) ?_ (k:=eE q);exact a4 (y E J 0,x++[gn (y t J 0)]) ⟨q,kj⟩ aB
   let⟨H,Q⟩:=aU;dsimp only at H Q;refine gG [(6001,10)] (λ_=>[]) [] (λR aI=>?_) (g:=avl x q) (kN:=gF _) (kM:=λ_ _=>gF _);have aJ:U (ab bF x)=U R:=by rw[bm];exact bQ aI
   refine rU R ?_ (hlen:=aJ) (aM:=by grind[List.take_of_length_le]);exact ec R b5
  have a2:hS z (y (c3 z (U z.next)) D 0)=ae:=by rw[(abI h ap).1,<-acz h n];simpa using aw
  have aC:∀i,i<D+1->hS z (y (c3 z (U z.next)) i 0)=ae:=λi lR=>by grind
  refine hU (.al 1<|ab l<|fE z) ?_ (fi:=F4 z 0);refine c8 (Z×Y Z×Y Z) (λd=>⟨[(0,b 6000),(4,.a 19 0<|hi z),(5,.a 25 0<|hi z),(6,.a 31 0<|hi z),(7,.a 34 0<|U<|ab l<|bM<|fk z D d.1),(8,l D),(9,l D),(73,.al 1<|ab l<|fE z),(74,l<|U<|ab l<|fE z),(75,l d.1)],[(19,.j 1 3<|ab l d.2.1),(25,.j 1 3<|ab l d.2.2),(31,.j 1 4<|ab bE<|i1 (hi z)<|bM<|fk z D d.1),(34,.j 1 3<|ab l<|bM<|fk z D d.1),(6000,ah 260<|DE z)],[]⟩) (λd=>Eo d.2.1 d.2.2 (hi z) (fk z D d.1)/\d.1<=U (fE z)/\fk z D 0<=fk z D d.1) (λd=>U (fE z)-d.1) (0,E,t) (λ⟨c,u,r⟩ aU=>?_) ⟨A,dJ _,bv _⟩;apply f<;>intro X
  .try simp only[bm] at X
   let⟨v,N,G⟩:=aU;dsimp only at v N G;have F:c<U (fE z):=q;have ar:=aqk o F;have aW:=abl h n o<|c+1;have aT:=abl h n o c;let⟨bb,bc,bd,be⟩:=id v;obtain⟨m,S⟩:∃m,y (fE z) c 0=m:=⟨_,aa⟩;have aM:m<256:=by rw[<-S];exact Q9<|dL F
   have aA:(ab l (fE z))[c]?=W (l m):=by rw[eE F,S]
   refine bB c (l m) ?_ (k:=aA);refine hU (.al 1<|m2 z<|hi z) ?_ (fi:=F4 z 2);refine bB D (ca<|F2 z D) ?_ (k:=(by grind[m2,List.getElem?_range]));refine bB c (l<|pr z D c) ?_ (k:=avQ F);refine cE (pr z D c) ?_ (k:=q);refine fl (bE<|aH<|pr z D c<fk z D c) ?_ (k:=Rh q);apply f<;>intro ak
   .have am:¬pr z D c<fk z D c:=by simpa using ak
    obtain⟨au,M⟩:pr z D c=fk z D c/\fk z D (c+1)=fk z D c+1:=ar.resolve_right λs=>am s.1;rw[au];refine cE (fk z D c) ?_ (k:=q);refine fF (ab bE<|i1 (hi z)<|bM<|fk z D<|c+1) (bE ae) (bE ag) ?_ (k:=by rw[Rh q,Aa<|wM _]) (aU:=by grind[ZD,List.map_set]);refine cE (fk z D c) ?_ (k:=q);refine fF (ab l<|aR u (fk z D c) D) (l<|y u (fk z D c) 0) (l D) ?_ (k:=eE q) (aU:=bQ hl);refine cE (fk z D c) ?_ (k:=q);refine fF (ab l<|aR r (fk z D c) m) (l<|y r (fk z D c) 0) (l m) ?_ (k:=eE q) (aU:=bQ hl);refine cp ?_ (hlen:=λI bN=>by rw[eu.1 bN];rfl);refine eB (ab l<|bM<|fk z D<|c+1) ?_ (gi:=.al aa aa aa aa λI bN=>by rw[eu.1 bN];rfl) (aU:=by grind[List.range_succ]) (bl:=bi);refine aY ?_;exact a4 (c+1,aR u (fk z D c) D,aR r (fk z D c) m) ⟨by dsimp only;rw[M];exact v.new q aM,q,bi⟩ q
   have am:pr z D c<fk z D c:=by simpa using ak
   have M:fk z D (c+1)=fk z D c:=(j2 ar λs=>q).2;rw[<-M];refine aY ?_;exact a4 (c+1,u,r) ⟨aq,q,bi⟩ q
  try simp only[bm] at X
  let⟨v,N,G⟩:=aU;dsimp only at v N G;obtain rfl:c=U (fE z):=q;rw[Ss o];have aL:Eo u r (hi z) (fk z (D+1) 0):=by rw[<-Ss o];exact v
  have bf:=Ss o;refine aY ?_;exact a4 (D+1,u,r) ⟨aL,bi,aC⟩ q
 simp only[bm,ij] at T;let⟨A,P,B⟩:=aX;dsimp only at A P B;have aE:U (ab l (bM (fk z D 0)))=fk z D 0:=by rw[bm,ij]
 have a5:fk z D 0<=D:=q;have G:=abm h n D;have bh:=tM (zg z D)<|qV h D;have O:tC z:=(aG λi lR=>B i (by grind[c3,aqG])).2;rw[O];exact ec [] b5
end
def ac2{c b:Z}(s:c<b):lg (b:L) (c:L)=ae:=by unfold lg;simp only[Bool.or_eq_false_iff,vt];omega
def W_(B b:L):bh 338 [an aj B,fN 1 [an aj b] 0 0] (aV (lg b B)):=by refine bs func338 [] λp c=>?_;refine gu ?_;exact aL
def akf(c:Y Z)(d:Z)(t:U c<=1000000)(s:∀m∈c,m<d):bh 304 [.al 1 (ab l c),eo (c1 338) [] [fN 1 [l d] 0 0]] (an aj (-1)):=by
 refine bs func304 [] λp n=>?_;refine e9 (U c) (λb=>⟨[(0,_),(1,_),(7,_),(8,l b)],[],[]⟩) (λb k=>?_) .r;apply f<;>intro o
 .let h:b<U c:=q;let i:=s _<|dL (I:=0) h;refine bB b (l<|y c b 0) ?_ (k:=eE h);refine aT ?_ (g:=W_ ((y c b 0:Z):L) (d:L));apply f<;>intro e
  .exfalso;rw[ac2 i] at e;exact Bool.noConfusion e
  refine aY ?_;exact a4 (b+1) (bA:=.r)
 exact aL
def akd(b:Y Z)(c:Z)(d:U b<=1000000)(s:∀e∈b,e<c):bh 262 [.al 1 (ab l b),eo (c1 338) [] [fN 1 [l c] 0 0]] (aV ae):=by refine bs func262 [] λp f=>?_;refine aT ?_ (g:=akf b c d s);exact aL
def akc(b:Y Z)(c:Z)(d:U b<=1000000)(s:∀e∈b,e<c):bh 340 [ca b,fN 1 [eo (c1 338) [] [fN 1 [l c] 0 0]] 0 0] (aV ae):=by refine bs func340 [] λp f=>?_;refine aT ?_ (g:=akd b c d s);exact aL
def akg(c:Y (Y Z))(d:Z)(v:U c<=1000000)(s:∀h∈c,U h<=1000000/\∀o∈h,o<d):bh 376 [.al 1 (ab ca c),eo (c1 340) [] [fN 1 [eo (c1 338) [] [fN 1 [l d] 0 0]] 0 0]] (an aj (-1)):=by
 refine bs func376 [] λp t=>?_;refine e9 (U c) (λb=>⟨[(0,_),(1,_),(7,_),(8,l b)],[],[]⟩) (λb k=>?_) .r;apply f<;>intro u
 .let e:b<U c:=q;let⟨i,m⟩:=s _<|dL (I:=[]) e;refine bB b (ca<|y c b []) ?_ (k:=AW e);refine aT ?_ (g:=akc (y c b []) d i m);apply f<;>intro n
  .cases n
  refine aY ?_;exact a4 (b+1) (bA:=.r)
 exact aL
def ake(b:Y (Y Z))(c:Z)(e:U b<=1000000)(s:∀d∈b,U d<=1000000/\∀f∈d,f<c):bh 339 [.al 1 (ab ca b),eo (c1 340) [] [fN 1 [eo (c1 338) [] [fN 1 [l c] 0 0]] 0 0]] (aV ae):=by refine bs func339 [] λp h=>?_;refine aT ?_ (g:=akg b c e s);exact aL
def akq(c:bY)(e:hD c)(B:U c.next<=300):bh 301 [ga c] (an aj 0):=by
 refine bs func301 [2012,2013] λp C=>?_;let D:=e.acc;let x:=e.start;let s:U (ab ca c.next)=U c.next:=bm ..;let E:U (ab bE c.acc)=U c.acc:=bm ..;let v:∀m∈c.next,U m<=1000000/\∀n∈m,n<U c.next:=λm t=>by
  obtain⟨i,h,rfl⟩:=m_.1 t;let u:c.next[i]=y c.next i []:=by rw[dX,cT h];rfl
  rw[u];let A:=e.j i h;exact⟨q,λn z=>Uw e h n z⟩
 apply f<;>intro F
 .exfalso;omega
 refine gu ?_;apply f<;>intro G
 .exfalso;omega
 refine e9 (U c.next) (λd=>⟨[(1,b 1),(3,b 3),(24,_),(25,_),(26,l d)],[(1,ah 119<|ga c),(3,ah 3<|l<|U<|ab ca c.next)],[]⟩) (λd k=>?_) .r;apply f<;>intro H
 .let o:d<U c.next:=q;let t:=e.j d o;let K:U (ab l<|y c.next d [])=U (y c.next d []):=bm ..;refine bB d (ca<|y c.next d []) ?_ (k:=AW o);apply f<;>intro I
  .exfalso;omega
  refine aY ?_;exact a4 (d+1) (bA:=.r)
 refine a1.vW 3 1 ?_;refine dA ?_;refine a1.vW 6 1 ?_;refine dA ?_;refine aT ?_ (g:=W_ ((c.start:Z):L) ((U (ab ca c.next):Z):L));rw[ac2 (by rw[s];exact x)];apply cy;intro J;refine kn ?_ (g:=ake c.next (U<|ab ca c.next) q (by rw[s];exact v));exact aa;apply f<;>intro w
 .exfalso;simp at w
 exact aL
def asE{b:bY}(d:hD b)(c:U b.next<=300):bh 260 [ga b] (cv [aV (tC b),an aj 0]):=by refine bs func260 [] λp e=>?_;refine aT ?_ (g:=akq b d c);refine nc.mk nofun λ_=>?_;refine bG [(6,14)] ?_ (g:=at0 b d c);refine gG [(6000,14)] (λ_=>[]) [] (λh f=>?_) (g:=awy b d c) (kN:=gF _) (kM:=λ_ _=>gF _);exact aL (s:=by rw[Bool.not_not];rfl)
def Eh(c:bg->bg×bZ):Prop:=∀b,qx b->qx (c b).1
def Z9{c:bg->bg×bZ}(d:Eh c):∀(B:Z)(b:bg)(M:bZ),qx b->qx (kO c B b M).1|0,_,_,s=>s|B+1,b,M,s=>Z9 d B _ _<|d b s
theorem acN{c:bg->bg×bZ}(d:Eh c):∀(B:Z)(b:bg)(M:bZ),qx b->qx (pt c B b M).1|0,_,_,s=>s|B+1,b,M,s=>acN d B _ _<|d b s
theorem Wa:∀(c:Y aW)(b:bg)(M:bZ),(∀d∈c,Eh (eg d))->qx b->qx (o_ c b M).1|[],_,_,_,s=>cf|d::c,b,M,e,s=>by exact Wa c _ _ (λg f=>e g<|mB _ f)<|e d (ki ..) b s
theorem Wf:∀(c:Y aW)(b:bg)(M:bZ),(∀d∈c,Eh (eg d))->qx b->qx (qy c b M).1|[],_,_,_,s=>cf|d::c,b,M,e,s=>by exact Wf c _ _ (λg f=>e g<|mB _ f)<|e d (ki ..) b s
theorem avd{d:bg->bg×bZ}(e:Eh d)(c f:L)(b:bg)(s:qx b):qx (qb d c f b).1:=by unfold qb;let g:=Z9 e (aG c) b ⟨[],[],ag,ae⟩ s;split;exact e _ g;grind[acN]
def aiN:∀b:aW,e1 b->Eh (eg b):=aW.ind λb h he m s=>by
 let⟨⟨n,o,p,r,i,_⟩,f⟩:=p8.1 he;let⟨B,J,k,l,d⟩:=b;dsimp[aW.a3,aW.set] at i f h;rw[eg];split;exact s;split;intro e g;rcases fp.1 g with c|c;exact s e c;grind;split;grind[Wa];split;grind[Wf];split;cases d with|nil=>trivial|cons e d=>grind[w4,avd,List.mem_cons_self]
 omega
def an3{b:aW}(c:e1 b):qx (d_ b):=aiN b c _ λJ d=>cg d kB
def yc(c:bg)(b d:Z):Y Z:=(bM d).filter λe=>jt (y c.aJ e []) (b:L)
def agK{d:bg}{b:Z}(f:b<=2000)(c:Z):fJ (yc d c b):=⟨Mg List.pairwise_lt_range,λg e=>by have:=hM.1 (m9.1 e).1;omega⟩
def ayE{c:bg}{b d:Z}(s:¬jt (y c.aJ d []) (b:L)):yc c b (d+1)=yc c b d:=by unfold yc;grind[List.range_succ,List.filter_cons_of_neg]
def ayF{d:bg}{b c:Z}(e:c<2000)(s:jt (y d.aJ c []) (b:L)):ee (yc d b c) [c]=yc d b (c+1):=by refine RF (fJ.un (agK q b)<|fJ.one e).1 (agK q b).1 λf=>?_;rw[pp];unfold yc;grind
def am9(d:Y dE):GJ 1 (ab CZ d) (ab ca (ed d)):=by refine⟨by simp[ed,bm],λg h i f c=>?_⟩;unfold ed at c;rw[i_,db] at c;rw[db] at f;cases s:d[g]? with|none=>simp_all|some b=>rw[s] at f c;cases mD f;cases mD c;show ca b.l=CZ b\/CZ b=.bo/\ca b.l=.al 1 [];unfold CZ;by_cases e:b.l=[];rw[af e,e];exact bp ⟨aa,aa⟩;rw[ad e];exact bj aa
def Bu:bx:=⟨[],[],[],[],[]⟩
theorem arq:Bu.de<=10000000:=a2
section
attribute [local irreducible] gV eg
def auv(b:aW)(c:e1 b)(h:dB b<=2000):jb (d_ b)/\(d_ b).aJ.length=dB b/\fg (kx b) (d_ b).aJ.length/\mG (d_ b):=by
 let⟨d,e,g⟩:=Cr b c _ HH bi;let f:=by simpa using e
 refine⟨d,f,aq,Wh b c _ HH (λk l i=>?_) bi⟩;trivial
def ajT{b:aW}(e:¬2000<dB b)(f:U (du (d_ b) (kx b) 3000)<=3000):qD (i3 (iY (sF (d_ b) (kx b) (du (d_ b) (kx b) 3000))))=mV b:=by rw[XO,show ot _ _ _=yF _ _ from aa,P4 f];unfold qD mV;show(if 300<(mi (xx b)).next.length then _ else _)=_;by_cases d:300<(mi (xx b)).next.length;simp_all;rw[ad d,ad λc=>c.elim e λc=>c.elim (λc=>cg c aK) d];rfl
def Oz{e f:Type}(d:e->f)(I:e){c:Y e}{b:Z}(s:b<U c):ab d (am b c)++[d (y c b I)]=ab d (am (b+1) c):=by grind[List.take_add_one,List.getElem?_eq_getElem]
def ac8{c:aW}(r:e1 c)(aG:c.parts<=400)(bl:c.lV<=40):bh 117 [cW c] (cv [ga (mV c).1,an aj (mV c).2]):=by
 refine bs func117 [2007,2008,2009,2010,2016,2017,2018,2030,2031] λp au=>?_;refine aT ?_ (g:=Xe c r q);rw[ad q];apply f<;>intro aw
 .omega
 refine aT ?_ (g:=ado c r);apply f<;>intro ax
 .have aX:mV c=(uP,3):=af<|bj q;rw[aX];exact fQ 1 2 [1,2] (dj br)
 have C:dB c<=2000:=q;obtain⟨eh,ar,t,w⟩:=auv c r C;have e:=arp c;have G:=an3 r;have v:(h3 c).de<=10000000:=by have:=aqP c r 2000 q C q xC 0;have fh:xC.de=1:=aa;rw[fh] at this;show(gV c xC 0).1.de<=_;omega
 have F:(h3 c).aF.length<=10000000:=c9 aaS v;have A:(h3 c).gQ.length=(d_ c).aJ.length:=by rw[e.ok.fP,e.k]
 have av:U ((h3 c).gQ.map l)=(h3 c).gQ.length:=bm ..;have z:(h3 c).gk.length<=2000:=by rw[e.ok.gk,e.k];exact eh.k
 have E:∀cs,U ((h3 c).aF.getD cs [])<=10000000:=λcs=>by rcases hN cs (h3 c).aF.length with d|d;exact c9 (abF<|dL d) v;simp_all
 have aI:U ((h3 c).aJ.map b3)=(d_ c).aJ.length:=by rw[bm,e.k]
 have Q:=YC (d_ c)<|kx c;have aE:=e.k;refine a1.eK 1700 1 50 [] (W (32,0)) ?_;refine a1.eK 1701 1 3 [] (W (32,1)) ?_;refine a1.eK 1702 1 3 [] (W (32,2)) ?_;refine a1.eK 1703 256 263 [] (W (32,3)) ?_;refine ke ⟨[(1,b 1),(2,b 2),(5,b 5)],[(1,ah 169<|cW c),(2,ah 119<|b2 [an aj 0,.bo,.bo]),(5,ah 243<|b 32),(32,ah 246<|b2 [.a 1700 0 (U ([]:Y dE)),.a 1701 0<|U<|ab gI Bu.gM,.a 1702 0<|U<|ab l Bu.gQ,.a 1703 0<|U<|ab b3 Bu.aJ]),(1700,.j 1 50<|ab fU ([]:Y dE)),(1701,.j 1 3<|ab gI Bu.gM),(1702,.j 1 3<|ab l Bu.gQ),(1703,.j 256 263<|ab b3 Bu.aJ)],[]⟩ ?_;refine dA ?_;refine gG [(6000,32),(5000,1700),(5001,1701),(5002,1702),(5003,1703)] cP [] (λJ K=>?_) (g:=Be (f_:=[]) (R:=Bu) aa arq aa) (kN:=Dv) (kM:=λ_ _=>Dv);refine dA ?_;refine gG [(6000,32),(5000,1700),(5001,1701),(5002,1702),(5003,1703)] cP [] (λm x=>?_) (g:=ajQ c r xC J 0 K aa GB v) (kN:=Dv) (kM:=λ_ _=>Dv);refine ke ⟨[(1,b 1),(2,b 2),(5,b 5),(6,l 0),(7,l<|yX c)],[(1,ah 169<|cW c),(2,ah 119<|b2 [an aj 0,.bo,.bo]),(5,ah 243<|b 32),(32,ah 246<|b2 [.a 1700 0 (U m),.a 1701 0<|U<|(h3 c).gM.map gI,.a 1702 0<|U<|(h3 c).gQ.map l,.a 1703 0<|U<|(h3 c).aJ.map b3]),(1700,.j 1 50<|ab fU m),(1701,.j 1 3<|(h3 c).gM.map gI),(1702,.j 1 3<|(h3 c).gQ.map l),(1703,.j 256 263<|(h3 c).aJ.map b3)],cP m⟩ ?_;refine a1.LV Yl m 1700 [] Dv ?_;refine a1.AO 1 1700 (ab ca<|ed m) (QQ aa<|am9 m) ?_;have ap:U ((h3 c).aF.map ca)=U m:=by rw[bm,<-show ed m=(h3 c).aF from x];unfold ed;rw[bm]
 rw[show ed m=(h3 c).aF from x];refine a1.AZ 1700 (U m) ap ?_;refine a1.h6 1701 ?_;refine a1.h6 1702 ?_;refine a1.h6 1703 ?_;refine ke ⟨[(1,b 1),(2,b 2),(5,b 5),(6,l 0),(7,l<|yX c)],[(1,ah 169<|cW c),(2,ah 119<|b2 [an aj 0,.bo,.bo]),(5,ah 243<|b 32),(32,ah 246<|tH<|h3 c)],[]⟩ ?_;refine dA ?_;refine a1.eK 1710 32 254 [] (W (40,0)) ?_;refine a1.eK 1711 1 4 [] (W (40,1)) ?_;refine dA ?_;refine e9 (h3 c).gQ.length (λD=>⟨[(2,b 2),(5,b 5),(6,l 0),(7,l<|yX c),(8,b 40),(44,.al 1<|(h3 c).gQ.map l),(45,l<|U<|(h3 c).gQ.map l),(46,l D)],[(1710,.j 32 254<|ab c7<|(d_ c).cn.take D),(1711,.j 1 4<|ab bE<|am D<|kK (d_ c)<|kx c),(1,ah 169<|cW c),(2,ah 119<|b2 [an aj 0,.bo,.bo]),(5,ah 243<|b 32),(32,ah 246<|tH<|h3 c),(40,ah 252<|b2 [.a 1710 0 (U<|ab c7<|(d_ c).cn.take D),.a 1711 0<|U<|ab bE<|am D<|kK (d_ c)<|kx c,.bo])],[]⟩) λD k=>?_;apply f<;>intro ay
 .have n:D<(h3 c).gQ.length:=q;have Z:D<(d_ c).cn.length:=by rw[eh.len,<-A];exact n
  have X:D<U (kK (d_ c) (kx c)):=by rw[Q,<-A];exact n
  have T:y (kK (d_ c) (kx c)) D ae=aH (D∈(kx c).last):=by unfold kK;rw[dX,db,zW q];rfl
  have N:y (kK (d_ c) (kx c)) D ae↔fe.Way (lq (h3 c)) ((h3 c).gQ.getD D 0) (yX c):=by rw[T,kk];exact e.last D n
  have ak:=eh.k;refine bB D (l<|(h3 c).gQ.getD D 0) ?_ (k:=eE n);refine bG [(6000,32)] ?_ (g:=aen (h3 c) e.ok z F E ((h3 c).gQ.getD D 0) (yX c) (e.ok.KR D n) ((d_ c).cn.getD D []) (y (kK (d_ c)<|kx c) D ae) (eh.cn D) (e.cn D n) N);refine mv (c7 []) ?_ (e5:=ba);refine kT (c7<|(d_ c).cn.getD D []) ?_ (h1:=qK) (fh:=qK);refine ei ?_;refine bw (λ_=>gY aa (bu:=tA)) ?_;refine bw (λ_=>kr aa) ?_;refine qm ?_;refine jY 65 (ab c7<|(d_ c).cn.take<|D+1) ?_ (aX:=ba) (gi:=.al aa aa aa aa λI bN=>by rw[eu.1 bN];rfl) (aU:=Oz c7 [] Z) (bl:=bi);refine bw (λ_=>kr aa) ?_;refine qm ?_;refine jY 72 (ab bE<|am (D+1)<|kK (d_ c)<|kx c) ?_ (aU:=Oz bE ae X) (bl:=bi)
  iterate 2
   refine qm ?_;refine fo ?_
  refine jz [(65,1710),(72,1711)] ?_;refine aY ?_;exact a4<|D+1
 obtain rfl:D=(h3 c).gQ.length:=q;rw[kC (i:=(h3 c).gQ.length) (l:=(d_ c).cn) (by rw[eh.len];omega),kC (i:=(h3 c).gQ.length) (l:=kK (d_ c)<|kx c) q];refine a1.h6 1710 ?_;refine a1.h6 1711 ?_;refine dA ?_;refine a1.aep 79 (g_ (cM 256 0) .bo .bo .bo) ?_;refine dA ?_;refine bG [(6000,79),(6001,5),(6002,32)] ?_ (g:=akK (h3 c) (d_ c) e.aJ G eh.k);refine a1.eK 1712 32 254 [] (W (40,2)) ?_;have aC:U (ab l (dm (d_ c)))=U (dm (d_ c)):=bm ..;have aB:=HD<|d_ c;have aK:U (lk (d_ c))=U (dm (d_ c)):=by unfold lk;rw[bm]
 refine dA ?_;refine hU (.al 1<|ab l<|dm<|d_ c) ?_ (fi:=lv (K3 _) _ _ _ 0);refine e9 (U<|dm<|d_ c) (λd=>⟨[(2,b 2),(5,b 5),(6,l 0),(7,l<|yX c),(8,b 40),(13,b 79),(86,.al 1<|ab l<|dm<|d_ c),(87,l<|U<|ab l<|dm<|d_ c),(88,l d)],[(1712,.j 32 254<|ab c7<|am d<|lk<|d_ c),(1,ah 169<|cW c),(2,ah 119<|b2 [an aj 0,.bo,.bo]),(5,ah 243<|b 32),(32,ah 246<|tH<|h3 c),(40,ah 252<|b2 [.al 32 ((d_ c).cn.map c7),.al 1<|ab bE<|kK (d_ c)<|kx c,.a 1712 0<|U<|ab c7<|am d<|lk<|d_ c]),(79,ah 260<|g_ (ls<|d_ c) (.al 1<|ab l<|dm<|d_ c) .bo .bo)],[]⟩) λd mo=>?_;apply f<;>intro az
 .have n:d<U (dm (d_ c)):=q;obtain⟨h,u⟩:∃h,y (dm (d_ c)) d 0=h:=⟨_,aa⟩;have M:h<256:=by rw[<-u];exact E2<|dL n
  have S:(ab l (dm (d_ c)))[d]?=W (l h):=by rw[eE n,u]
  have ak:=eh.k;have aq:y (lk (d_ c)) d []=yc (d_ c) h (d_ c).aJ.length:=by rw[agL n,u];rfl
  refine bB d (l h) ?_ (k:=S);refine mv (c7 []) ?_ (e5:=ba);refine e9 (d_ c).aJ.length (λcs=>⟨[(2,b 2),(5,b 5),(6,l 0),(7,l<|yX c),(8,b 40),(13,b 79),(15,l h),(16,b 16),(86,.al 1<|ab l<|dm<|d_ c),(87,l<|U<|ab l<|dm<|d_ c),(88,l d),(96,l<|U<|(h3 c).aJ.map b3),(97,l cs)],[(1712,.j 32 254<|ab c7<|am d<|lk<|d_ c),(1,ah 169<|cW c),(2,ah 119<|b2 [an aj 0,.bo,.bo]),(5,ah 243<|b 32),(32,ah 246<|tH<|h3 c),(16,ah 254<|c7<|yc (d_ c) h cs),(40,ah 252<|b2 [.al 32 ((d_ c).cn.map c7),.al 1<|ab bE<|kK (d_ c)<|kx c,.a 1712 0<|U<|ab c7<|am d<|lk<|d_ c]),(79,ah 260<|g_ (ls<|d_ c) (.al 1<|ab l<|dm<|d_ c) .bo .bo)],[]⟩) λcs aD=>?_;apply f<;>intro aA
  .have H:cs<(d_ c).aJ.length:=q;have O:=afg G H M;refine bB cs (b3<|kf<|(d_ c).aJ.getD cs []) ?_ (k:=afh e.aJ H);refine Do (tv:=h) (cs:=h) ?_ (mo:=by show 0+h*1=h;omega);refine Fx (aV<|jt ((d_ c).aJ.getD cs []) (h:L)) ?_ (fi:=O);apply f<;>intro B
   .refine bG [(6000,16)] ?_ (g:=adk (hR:=yc (d_ c) h cs) (D:=cs) q);rw[ayF q B];refine aY ?_;exact a4<|cs+1
   rw[<-ayE B];refine aY ?_;exact a4<|cs+1
  obtain rfl:cs=(d_ c).aJ.length:=q;rw[<-aq];refine ei ?_;refine bw (λ_=>gY aa (bu:=tA)) ?_;refine bw (λ_=>kr aa) ?_;refine qm ?_;refine jY 119 (ab c7<|am (d+1)<|lk<|d_ c) ?_ (aX:=ba) (gi:=.al aa aa aa aa λI bN=>by rw[eu.1 bN];rfl) (aU:=Oz c7 [] q) (bl:=bi);refine qm ?_;refine fo ?_;refine jz [(119,1712)] ?_;refine aY ?_;exact a4<|d+1
 obtain rfl:d=U (dm (d_ c)):=q;rw[kC (i:=U<|dm<|d_ c) (l:=lk<|d_ c) q];refine a1.h6 1712 ?_;refine dA ?_;refine bG [(6000,32)] ?_ (g:=aen (h3 c) e.ok z F E 0 (yX c) e.anF (kx c).first (kx c).empty t.ok.1 e.first e.tB);refine mv (c7 []) ?_ (e5:=ba);refine kT (c7 (kx c).first) ?_ (h1:=qK) (fh:=qK);refine ke ⟨[(2,b 2),(8,b 40),(13,b 79),(18,b 18),(19,bE (kx c).empty)],[(2,ah 119<|b2 [an aj 0,.bo,.bo]),(18,ah 254<|c7 (kx c).first),(40,ah 252<|nV (d_ c).cn (kK (d_ c)<|kx c)<|lk<|d_ c),(79,ah 260<|g_ (ls<|d_ c) (.al 1<|ab l<|dm<|d_ c) .bo .bo)],[]⟩ ?_;refine dA ?_;refine gY ?_ (bu:=tA);by_cases o:U (du (d_ c) (kx c) 3000)<=3000
 .skip
  refine bG [(6000,79),(6001,40)] ?_ (g:=af1 (d_ c) (kx c) eh.len eh.k eh.cn w t aa (λ_=>⟨aa,aa⟩) λs=>cg o q);apply f<;>intro P
  .omega
  refine bG [(6000,79)] ?_ (g:=apX (sF (d_ c) (kx c)<|du (d_ c) (kx c) 3000) (ama o (Oi o) afL)<|amb (aw7 _ _ _) (Oi o) (DJ _) afK);rw[ajT q o];exact dj br
 skip
 refine bG [(6000,79),(6001,40)] ?_ (g:=af1 (d_ c) (kx c) eh.len eh.k eh.cn w t aa (λs=>cg s q) λ_=>⟨aa,aa⟩);apply f<;>intro P
 .rw[show mV c=(uP,3) from af<|bp<|bj<|B7 o];exact fQ 1 2 [1,2] (dj br)
 omega
end
