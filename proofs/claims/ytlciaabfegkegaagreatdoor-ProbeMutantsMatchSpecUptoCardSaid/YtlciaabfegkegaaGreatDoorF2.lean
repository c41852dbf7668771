import Derived.Test.YtlciaabfegkegaaGreatDoorF1
set_option linter.all false
set_option maxHeartbeats 8000000
set_option maxRecDepth 100000
open Array renaming replicate->td,setIfInBounds->nG,size->a9,toList->a0
open Bool renaming false->ae,true->ag
open Decidable renaming decide->aH
open Eq renaming symm->bQ,trans->b0
open Go renaming Act->fI,Calls->ln,Code->gw,Exit->cS,FuncId->fM,IntKind->dd,MapEntry->k0,Oper->a7,Operand->aP,Program->bn,ResultVar->hn,TypeDesc->iz,TypeId->aw,Value->bq,World->bI,builtin->o2,execOp->c5,invoke->oh,maxLen->ja,resolve->oi
open Go.Act renaming eval->b1
open Go.Builtin renaming append->oZ,append_->yq,firstCells->uq,zeroCells->sk
open Go.Call renaming operands->VJ
open Go.Callee renaming builtin->gP,value->qr
open Go.Calls renaming mono->iK
open Go.Code renaming region->sl
open Go.Departure renaming mixedOrders->qs
open Go.Ending renaming returned->lo
open Go.Exit renaming normal->fY
open Go.Fn renaming func->c1
open Go.IntKind renaming bits->l7,i64->aj,u64->ej,u8->ez
open Go.Lib renaming decDigits->l8
open Go.Next renaming value->og
open Go.Obj renaming cells->pK
open Go.Op renaming binOp->lI,call->ft,equalIn->nH,indexAddr->o0,operands->j0
open Go.Program renaming underlying->kD
open Go.Proofs.Tryz renaming prog->bL
open Go.Region renaming binds->vu,ready->tf
open Go.Result renaming ok->ct
open Go.RowKit.Below renaming refl->Ef
open Go.Sem renaming run->ce
open Go.TypeDesc renaming array->pL,slice->c_,string->k1
open Go.Value renaming agg->h0,bool->hA,cells->dp,int->cN,oneCell'->gE,pointer->ib,slice->eY,string->jO,tuple->o1
open Iff renaming rfl->nJ
open List renaming Nodup->dT,Perm->g7,all->dh,contains->j1,count->lp,drop->ay,eraseIdx->iB,flatMap->ff,getD->y,idxOf->h2,length->U,lookup->cX,map->ab,range->bM,replicate->cM,set->aR,take->am,toArray->aO
open List.Perm renaming refl->gF
open Nat renaming beq->ef,ble->hB,blt->g8
open Option renaming none->ai,some->W
open Or renaming inl->bj,inr->bp,resolve_left->j2
open _root_ renaming Array->bU,Bool->X,DecidableEq->hO,False->hP,Int->L,List->Y,Nat->Z,Option->c6,True->dW,UInt8->C,absurd->cg,rfl->aa,trivial->b5
open Go.Proofs Go.Proofs.Tryz
open Go.Proofs.Tryz renaming prog->eQ
namespace Go.fe
variable{ops:bU a7}{F t:X}{n:gw}{ak:cS->bc->Prop}{M:a7}{T w:aP}{S jL:aw}{z Q:L}{H cV:Y a7}{Rd:Y Z}{aC:Y V}{I v au:Z}{aQ:b6}{O:bc}{J:aN}{B:aN->Prop}{b_:Type}{A:V}
def r9(next:aN->Prop)(ak:cS->aN->Prop):cS->aN->Prop|fY,J=>next J|F,J=>ak F J
def W5(id:Z)(ak:cS->aN->Prop):cS->aN->Prop
|.exit b,J=>match ef b id with
 |ag=>ak fY J|ae=>ak (.exit b) J
|F,J=>ak F J
def tz(R:Z):Y a7->X
|[]=>ag|M::H=>match M.dst with
 |W I=>match g8 I R with|ag=>tz R H|ae=>ae
 |ai=>tz R H
theorem CP{R:Z}:∀{H:Y a7},tz R H->pf R H|[],_=>aa|M::H,s=>by rw[tz] at s;rw[pf,JV,m7];split at s;split at s;exact⟨aq,CP s⟩;trivial;exact⟨aK,CP s⟩
def amF:Op->X
|.store .. |.alloc .. |.box .. |.makeMap .. |.makeSlice .. |.mapUpdate .. |.insert .. |.mapEntry .. |.entryStore .. |.range .. |.next .. =>ag|ft n=>match n.callee with
 |gP .len|gP .cap|gP .min|gP .max|qr _=>ae|_=>ag
|_=>ae
def TH:Y a7->X|[]=>ag|M::H=>match amF M.op with|ag=>ae|ae=>TH H
inductive Kq(cV:Y a7)(o3:Prop):Prop|mk:sP cV->o3->Kq cV o3
def mark(cA:Y Z):gw->X|.cond (.tmp S) _ _=>iw S cA|.block id _=>iw (id+1000) cA|sl id _ _=>iw (id+2000) cA|.seq _ Q=>mark cA Q|_=>ae
section
variable(P:bn)(K:cI)(p:bJ)(i:Y (Z×V))(m R:Z)(cA:Y Z)
def kz:gw->aN->(cS->aN->Prop)->Prop
|.skip,J,ak=>ak fY J|.ret,J,ak=>ak .ret J|.exit id,J,ak=>ak (.exit id) J|.label _,J,ak=>ak fY J|.seq z Q,J,ak=>match mark cA z with
 |ag=>a1 P p m (.seq z Q) J ak|ae=>kz z J (r9 (kz Q · ak) ak)
|.cond n z Q,J,ak=>match val i J.c n with
 |W (.bool T)=>nc T (kz z J ak) (kz Q J ak)|_=>hP
|.block id n,J,ak=>kz n J (W5 id ak)|sl id ops b,J,ak=>match b with
 |ae=>match tz R (a0 ops) with|ag=>oU P K p i m cA ag (a0 ops) 4000 ai (a0 ops) J (ak fY ·)|ae=>hP
 |ag=>match TH (a0 ops),tz R (a0 ops) with
  |ag,ag=>Kq (a0 ops) (oU P K p i m cA ae (a0 ops) 4000 ai (a0 ops) J (ak fY ·))|_,_=>a1 P p m (sl id ops ag) J ak
|n,J,ak=>a1 P p m n J ak
end
section
variable{P:bn}{K:cI}{p:bJ}{i:Y (Z×V)}{m R:Z}{cA:Y Z}
theorem a1.region{id:Z}{ops:bU a7}{J:aN}{ak:cS->aN->Prop}(g:p.n=R)(f:tz R (a0 ops))(s:VR P p m (aO (a0 ops)) (a0 ops) J (ak fY ·)):a1 P p m (sl id ops ae) J ak:=by refine⟨λo b c=>?_⟩;let F:ops=aO (a0 ops):=ao;apply e3.region (by grind[CP]);exact s o b λaQ e d bd=>c aQ _ e d bd
inductive tm(P:bn)(p:bJ)(ops:bU a7)(ak:bc->Prop):Y a7->bc->Prop|nil (O:bc):ak O->tm P p ops ak [] O|pure (M:a7) (H:Y a7) (O:bc) (A:V):O.guard ops M=W ag->di P p M ⟨dt M O.c,O.d⟩ A->tm P p ops ak H (O.put M.dst A)->tm P p ops ak (M::H) O|skip (M:a7) (H:Y a7) (O:bc):O.guard ops M=W ae->tm P p ops ak H (O.put M.dst (.tuple []))->tm P p ops ak (M::H) O|DW (H:Y a7) (O:bc) (H2:Y (Z×V)):(∀S T,cX S H2=W T->cX S O.c=W T)->tm P p ops ak H ⟨H2,O.d⟩->tm P p ops ak H O
def tm.rules ops ak:Cn P p ops (tm P p ops ak):=⟨.pure,.skip,.DW⟩
structure iC(g1 O:bc):Prop where
 c:∀S T,cX S g1.c=W T->cX S O.c=W T
 d:g1.d=O.d
theorem iC.put{g1 O:bc}(s:iC g1 O)I T:iC (g1.put I T) (O.put I T):=by
 cases I;exact s
 next I=>refine⟨λS w b=>?_,s.d⟩;rw[MA] at b⊢;split;simp_all;rename_i F;rw[ad F] at b;exact s.c S w b
theorem iC.guard{g1 O:bc}(s:iC g1 O){ops:bU a7}{M:a7}{Q:X}(b:g1.guard ops M=W Q):O.guard ops M=W Q:=by unfold bc.guard at b⊢;split at b;exact b;split at b;split at b;rename_i d aM;rw[s.c _ _ aM];exact b;rename_i aM;rw[s.c _ _ aM];exact b;trivial;omega
theorem iC.dt{b O:bc}(s:iC b O)M:∀S T,cX S (fe.dt M b.c)=W T->cX S (fe.dt M O.c)=W T:=by intro S T f;let⟨d,e⟩:=IZ f;rw[aeF d];exact s.c S T e
def iC.s1{g1 O:bc}(s:iC g1 O)I A:iC (g1.s1 I A) (O.s1 I A):=iC.put (g1:=⟨g1.c,gC g1.d A.2⟩) (O:=⟨O.c,gC O.d A.2⟩) ⟨s.c,ea (gC · A.2) s.d⟩ I A.1
def eH.sc{d e:Y (Z×V)}{aD f:bV}{M:a7}{A:V}(l:∀S T,cX S e=W T->cX S d=W T)(s:eH P p M ⟨e,aD⟩ A f):eH P p M ⟨d,aD⟩ A f:=λz E g b h i k=>s z E g ⟨b.cO,λS T m=>b.c S T<|l S T m,b.gR,b.size,b.defers⟩ h i k
def yA.sc{ops:bU a7}{M:a7}{ar:ep}{f O:bc}{I:jq}(b:iC f O)(s:yA P p ops M ar f I):yA P p ops M ar O I:=by rcases s with⟨c,e⟩|⟨c,e,g⟩;exact bj ⟨b.guard c,e⟩;exact bp ⟨b.guard c,e,λaD i h=>(g aD (by rw[i,b.d]) (by rw[b.d];exact h)).sc<|b.dt M⟩
def VW.sc{ops:bU a7}:∀{H:Y a7}{bz:Y ep}{c O:bc}{b:Y jq},iC c O->su P p ops H bz c b->su P p ops H bz O b|[],[],_,_,_,_,s=>s|M::H,ar::bz,c,O,A::b,d,s=>⟨s.1.sc d,VW.sc (d.s1 _ A) s.2⟩
def ad2:∀{H:Y a7}{c:Y jq}{d O:bc} b,iC d O->iC (cK H c (λ_=>ag) b d) (cK H c (λ_=>ag) b O)|[],_,_,_,_,s=>cf|M::H,[],_,_,_,s=>cf|M::H,A::c,d,O,b,s=>ad2 (b+1)<|s.s1 _ A
theorem iC.refl O:iC O O:=⟨λ_ _ s=>s,aa⟩
theorem iC.trans{z Q n:bc}(s:iC z Q)(B:iC Q n):iC z n:=⟨λS T b=>B.c S T<|s.c S T b,b0 s.d B.d⟩
def tm.run{ops:bU a7}{ak:bc->Prop}{H:Y a7}{O:bc}(s:tm P p ops ak H O):∀R,U O.d=R->∃(b:Y jq)(c:bc),su P p ops H (H.map λ_=>(bM R,[])) O b/\iC c (cK H b (λ_=>ag) 0 O)/\ak c:=by
 induction s
 next O bd=>exactλR _=>⟨[],O,aa,iC.refl O,bd⟩
 next M H O A k n _ h=>
  intro R g;let⟨b,c,e,f,i⟩:=h R (by cases M.dst<;>exact g);refine⟨(A,[])::b,c,⟨bp ⟨k,ao,λaD t m=>?_⟩,e⟩,?_,i⟩;obtain rfl:aD=O.d:=jn λB=>by by_cases s:B<R;exact m B<|bj<|hM.2 s;rw[zV q,zV q]
  exact n;rw[cK,FW H b _ 0];exact f
 next M H O k _ h=>intro R g;let⟨b,c,e,f,i⟩:=h R (by cases M.dst<;>exact g);refine⟨(.tuple [],[])::b,c,⟨bj ⟨k,aa⟩,e⟩,?_,i⟩;rw[cK,FW H b _ 0];exact f
 next H O r o _ h=>intro R g;let⟨b,c,e,f,i⟩:=h R g;let l:iC ⟨r,O.d⟩ O:=⟨o,aa⟩;exists b,c,VW.sc l e,f.trans<|ad2 0 l
theorem e3.aml{id:Z}{H:Y a7}{O:bc}{ak:cS->bc->Prop}(y:P.follows qs)(u:pf p.n H)(x:sP H)(s:tm P p (aO H) (ak fY) H O):e3 P p (sl id (aO H) ag) O ak:=by let⟨g,A,l,e,m⟩:=s.run _ aa;intro z E k o;refine Code.wp_mono ?_<|e3.X6 (ak:=λF h=>F=fY/\h=cK H g (λ_=>ag) 0 O) y u x (λI J D G B _ _ v w t=>?_) ⟨g,l,aa,aa⟩ (id:=id) z E k o;rintro F C K ⟨h,i,⟨rfl,rfl⟩,r⟩;exact⟨A,i,m,by have:=r.zI e.c;rw[<-e.d] at this;exact this⟩;let b:=dY v;let f:=dY w;simp[dI] at b f;obtain⟨_,_,rfl⟩:=b;obtain⟨_,_,rfl⟩:=f;simp at t
def a1.seq{z Q:gw}{J:aN}{ak:cS->aN->Prop}(s:a1 P p m z J (r9 (a1 P p m Q · ak) ak)):a1 P p m (.seq z Q) J ak:=by refine⟨λo d b=>?_⟩;refine e3.seq<|s.run o _ λaQ F h c bd=>?_;cases F with|normal=>exact bd.run aQ d λk e i f g=>b _ e i (c.trans f) g|_=>exact b aQ _ h c bd
def a1.mono{n:gw}{J:aN}{ak b:cS->aN->Prop}(s:a1 P p m n J ak)(bd:∀F J,ak F J->b F J):a1 P p m n J b:=⟨λo d f=>s.run o d λaQ F c g e=>f aQ F c g<|bd F c e⟩
def vj(h:P.follows qs)(g:gy P K)(e:p.G=i)(f:eh i)(k:p.n=R):∀n J ak,kz P K p i m R cA n J ak->a1 P p m n J ak
|.skip,J,ak,s=>⟨λo c b=>e3.skip<|b o _ J (dk.refl m o) s⟩|.ret,J,ak,s=>⟨λo c b=>e3.ret<|b o _ J (dk.refl m o) s⟩|.exit id,J,ak,s=>⟨λo c b=>e3.exit<|b o _ J (dk.refl m o) s⟩|.label H,J,ak,s=>⟨λo c b=>e3.label<|b o _ J (dk.refl m o) s⟩|.seq z Q,J,ak,s=>by
 rw[kz] at s;split at s;exact s;refine a1.seq<|(vj h g e f k z J _ s).mono λF l bd=>?_;cases F with
 |normal=>exact vj h g e f k Q l ak bd|_=>exact bd
|.cond n z Q,J,ak,s=>by
 rw[kz] at s;split at s;rename_i T B;refine⟨λo c b=>?_⟩;cases s
 next y v=>let A:=ya (e▸f) (o:=o) (aD:=J.d++aZ o J.az)<|bQ e▸B;exact e3.cond A (λr=>(vj h g e f k z J ak<|y r).run o c b) λr=>(vj h g e f k Q J ak<|v r).run o c b
 trivial|.block id n,J,ak,s=>by
 refine⟨λo c b=>?_⟩;refine e3.block<|(vj h g e f k n J _ s).run o _ λaQ F l u bd=>?_;cases F with
 |exit C=>simp[W5] at bd;simp[Qf];split at bd;simp_all;rw[ad λF=>aq];simp_all|_=>exact b aQ _ l u bd
|sl id ops t,J,ak,s=>by
 cases t;let s:(match tz R _ with|ag=>oU P K p i m cA _ _ _ _ _ J _|ae=>hP):=s;grind[a1.region,ay1];let s:(match TH _,tz R _ with|ag,ag=>Kq _ _|_,_=>a1 P p m _ J ak):=s;split at s;cases s
 next w s=>refine⟨λo c b=>?_⟩;let F:ops=aO (a0 ops):=ao;apply e3.aml h (by grind[CP]) w;have:=agS g e f (tm.rules _ _) _ _ _ J _ (bj aa) s o [] (λl x _=>.nil _<|b o _ l (dk.refl m o) x);grind
 omega|.loop n,J,ak,s=>s|.rangeFunc ar G z Q,J,ak,s=>s|.scope n,J,ak,s=>s|.goto H,J,ak,s=>s|.refuse E,J,ak,s=>s
def n2:bS->X|[]=>ag|(S,_)::H=>!iw S (ab (·.1) H)&&n2 H
def Eu:Y (Z×V)->Y (Z×V)->Prop|[],_=>dW|(S,T)::A,H=>gr H S=W T/\Eu A H
def tn:bS->bS->Prop|[],_=>dW|(S,T)::A,H=>ci H S=W T/\tn A H
structure nP(en J:aN):Prop where
 c:Eu en.c J.c
 az:tn en.az J.az
 arn:n2 en.az
 d:en.d=J.d
theorem Eu.gr:∀{b H:Y (Z×V)},Eu b H->∀S T,gr b S=W T->gr H S=W T|[],_,_,S,T,s=>cf|(B,w)::A,H,⟨d,c⟩,S,T,s=>by rw[fe.gr] at s;split at s;simp_all;exact c.gr S T s
def Xf:∀{H:bS}{S:Z}{T:b7},ci H S=W T->(S,T)∈H|[],S,T,s=>cf|(B,w)::A,S,T,s=>by rw[ci] at s;split at s;simp_all;exact mB _<|Xf s
def tn.mem:∀{b H:bS},tn b H->∀G∈b,G∈H|[],_,_,G,s=>cf|(B,w)::A,H,⟨c,d⟩,G,s=>by rcases fH.1 s with rfl|s;exact Xf c;exact d.mem G s
def ako{o:b6}:∀{b H:bS},(∀G∈b,G∈H)->n2 b->dT (ab (·.1) (aZ o H))->dT (ab (·.1) (aZ o b)):=by
 intro b
 induction b
 simp[aZ]
 next G A m=>
  intro H i g l;let⟨S,T⟩:=G;simp[n2,m7] at g;let c:=m (λG bC=>i G aK) g.2 l;simp only[aZ,ia,zZ] at c⊢;refine⟨λf=>?_,c⟩;simp only[i_,dI] at f;let⟨v,bd,r⟩:=f;let s:v.1≠S:=λF=>by grind[iw,qU]
  let p:=i v aK;let t:∀H,dT (ab (·.1)<|aZ o H)->(S,T)∈H->v∈H->hP:=by
   intro H
   induction H
   simp
   next w H n=>intro h k aM;simp only[aZ,ia,zZ] at h;rcases fH.1 k with d|d<;>rcases fH.1 aM with e|e;grind;simp_all;grind;exact n h.2 d e
  grind
def a_.DL{J en:aN}{o:b6}{z:fI}{E:bI}{f:bf}(b:nP en J)(s:a_ p (J.aB o) z E f):a_ p (en.aB o) z E f:=by
 refine⟨s.cO.sub ?_ ?_,λS T i=>s.c S T ?_,s.gR,s.size,s.defers⟩;intro G bC;rcases fp.1 bC with bC|bC;rw[b.d] at bC;exact yi _ bC;obtain⟨v,bd,rfl⟩:=dI.1 bC;exact zY _<|dI.2 ⟨v,b.az.mem v bd,aa⟩;let e:=s.cO.kt;simp only[aN.aB,dc,vr] at e⊢;refine⟨by rw[b.d];simp_all,ako b.az.mem b.arn e.2.1,λz g Q aM=>?_⟩;rw[b.d] at g;apply e.2.2 z g Q;obtain⟨v,bd,rfl⟩:=dI.1 aM;obtain⟨A,h,rfl⟩:=dI.1 bd;exact dI.2 ⟨_,dI.2 ⟨A,b.az.mem A h,aa⟩,aa⟩;simp[aN.aB,mU] at i⊢;cases k:cX S en.c;simp_all
 next w=>have:=b.c.gr S w (by grind[sQ]);grind[sQ]
def a1.DW{n:gw}{J b:aN}{ak:cS->aN->Prop}(g:nP b J)(s:a1 P p m n b ak):a1 P p m n J ak:=⟨λo d e z E c f=>s.run o d e z E c<|f.DL g⟩
def a1.cut{b_:Type}{z Q:gw}{J:aN}{ak:cS->aN->Prop}(b:b_->aN)(G:b_->Prop)(s:a1 P p m z J (r9 (λc=>∃T,G T/\nP (b T) c) ak))(B:∀T,G T->a1 P p m Q (b T) ak):a1 P p m (.seq z Q) J ak:=a1.seq (s.mono λF c bd=>by cases F with|normal=>let⟨T,bC,d⟩:=bd;exact(B T bC).DW d|_=>exact bd)
structure wX(P:bn)(p:bJ)(m:Z)(n:gw)(J:aN)(ak:cS->aN->Prop):Prop where
 run:∀(o:b6)(GP:cS->bc->Prop),(∀aQ F en,dk m o aQ->ak F en->GP F (en.aB aQ))->∀z E N,a_ p (J.aB o) z E N->∀(Q:Frame) HX pU,∃F Cp bO,Kx p GP F Cp bO/\Arrives P (lone (Q.at z (.code n::.inLoop n::HX)) pU E) Q HX pU F Cp bO
theorem wX.of{n:gw}{J:aN}{ak:cS->aN->Prop}(s:a1 P p m n J (r9 (wX P p m n · ak) ak)):wX P p m n J ak:=by
 refine⟨λo e g z E k u Q B f=>?_⟩;have A:=s.run o (λF O=>match F with
  |fY=>∃aQ b,dk m o aQ/\wX P p m n b ak/\O=b.aB aQ|F=>e F O) (λaQ F b c bd=>by cases F with|normal=>exists aQ,b,c,bd|_=>exact g aQ _ b c bd)
 obtain⟨F,l,G,⟨D,d,bd,h⟩,i⟩:=A z E k u Q _ f;cases F
 case normal=>obtain⟨aQ,b,c,x,rfl⟩:=bd;obtain⟨t,r,H,y,w⟩:=x.run aQ e (λI F C v s=>g _ F C (c.trans v) s) _ _ d h Q B f;exact⟨t,r,H,y,.of_steps (Steps.trans i<|.one step_inLoop) w⟩
 all_goals exact⟨_,l,G,⟨D,d,bd,h⟩,.pass aa (λ_ _=>bj ao) i⟩
def wX.loop{n:gw}{J:aN}{ak:cS->aN->Prop}(s:wX P p m n J ak):a1 P p m (.loop n) J ak:=by refine⟨λo c f=>?_⟩;intro z E b g Q i e;obtain⟨F,d,k,bd,h⟩:=s.run o c f z E b g Q i e;exact⟨F,d,k,bd,.of_steps (.one step_loop) h⟩
def a1.loop{b_:Type}{n:gw}{J:aN}{ak:cS->aN->Prop}(c:b_->aN)(G:b_->Prop)(e:b_->Z)d(iO:G d)(v:nP (c d) J)(round:∀T,G T->a1 P p m n (c T) (r9 (λf=>∃b,G b/\e b<e T/\nP (c b) f) ak)):a1 P p m (.loop n) J ak:=by
 have x:∀B T,e T=B->G T->wX P p m n (c T) ak:=λB=>by
  induction B using Nat.strongRecOn
  next B w=>
   intro T u bC;refine .of<|(round T bC).mono λF f s=>?_;cases F
   case normal=>obtain⟨b,i,k,l⟩:=s;exact⟨λo h r z E g t=>(w _ (u▸k) b aa i).run o h r z E g<|t.DL l⟩
   all_goals exact s
 exact(x _ d aa iO).loop.DW v
structure ic(P:bn)(p:bJ)(m:Z)(azh:b6)(jl:Y hn)(aie:V->bV->Prop)(F:cS)(J:aN):Prop where
 he:F=.ret\/F=fY
 run:∀o,dk m azh o->∀(z:fI)(E:bI)(N:bf),a_ p (J.aB o) z E N->∃(b8:Y bq)(df:Y V)(d:bV)(En:bf),U b8=U df/\ce P (jl.mapM (t_ z.tmps)) E=ct b8 E/\(∀(D:Z)(T:V)(aE:bq),df[D]?=W T->b8[D]?=W aE->bk En T aE)/\Holds p En d E/\aie (eR df) d
def g3.of_wp{i:Y (Z×V)}{ar:fM}{e:Func}{n:gw}{g:Y hn}{xs:Y V}{r:bV}{d:V->bV->Prop}{R m:Z}cA c J(B:P.follows qs)(x:gy P K)(w:eh i)(A:GK P ar e n)(C:e.ntmps=R)(I:hB (U xs) R)(D:a0 e.results=g)(H:J.aB c=⟨pb 0 xs,r⟩)(s:∀p,p.G=i->p.n=R->kz P K p i m R cA n J (ic P p m c g d)):g3 P i ar xs r d:=by refine .acC A C (ll I) D λp h k z E u l=>?_;rw[<-H] at l;refine Code.wp_mono ?_<|(vj B x h w k _ _ _<|s p h k).run c (λF O=>∃aQ b,dk m c aQ/\ic P _ m c g d F b/\O=b.aB aQ) (λaQ F b f bd=>⟨aQ,b,f,bd,aa⟩) _ E u l;rintro F v L ⟨M,t,⟨aQ,b,f,⟨he,y⟩,rfl⟩,o⟩;exact⟨he,o.defers,y aQ f v L t o⟩
def BL(b:Y (Z×V)):Y hn->c6 (Y V)
|[]=>W []|.tmp S::A=>match gr b S with
 |W T=>match BL b A with|W xs=>W (T::xs)|ai=>ai
 |ai=>ai
|.cell _ _::_=>ai
def aeC{c:Y (Z×V)}{o:b6}{aD:bV}:∀{jl:Y hn}{b:Y V},BL c jl=W b->x0 ⟨da o c,aD⟩ jl (ab (V.aB o) b)|[],b,s=>by simp[BL] at s;subst s;rfl|.tmp S::A,b,s=>by unfold BL at s;split at s;split at s;rename_i xs d;simp at s;subst s;exact⟨by grind[sQ,mU],aeC d⟩;trivial;trivial|.cell _ _::_,b,s=>cf
def QT{i:b6}{g:Y hn}{e:V->bV->Prop}{F:cS}{J:aN}{h:Y V}b(bd:∀o,dk m i o->e (eR (ab (V.aB o) h)) (J.d++aZ o b))(x:BL J.c g=W h:=by rfl)(u:tn b J.az:=by repeat (first|exact trivial|refine And.intro rfl ?_))(w:n2 b:=by rfl)(v:F=.ret\/F=fY:=by exact rp):ic P p m i g e F J:=by refine⟨v,λo t z E k f=>?_⟩;obtain⟨y,l,n,r⟩:=x0.run f<|aeC x;refine⟨y,_,J.d++aZ o _,k,l,n,r,?_,bd o t⟩;have:=a_.DL (J:=⟨[],J.az,J.d⟩) (en:=⟨[],b,J.d⟩) ⟨b5,u,w,aa⟩<|a_.zI f λS T s=>cf;exact this.cO
end
def eZ{b_ o:Type} [Inhabited b_]{H:Y b_}{ar:b_->o}{b:Z}:b<U H->(ab ar H)[b]?=W (ar (y H b default)):=by simp_all
def pZ{b_:Type}{H:Y b_}{b:Z}{I:b_}:b<U H->H[b]?=W (y H b I):=by simp_all
def aqt{b_ o:Type}{H:Y b_}{ar:b_->o}{b:Z}{I:b_}(s:b<U H):(ab ar H)[b]?=W (ar (y H b I)):=by rw[db,pZ (I:=I) s];rfl
def Jo{G:Prop}(s:G:=by first|omega|assumption|(simp;omega)):G:=s
def Hx{b_:Type}{H:Y b_}{b:Z}{I:b_}(s:H[b]?=W I:=by first|rfl|assumption|exact qT Jo|exact cT Jo|exact eZ Jo|exact aqt Jo|exact pZ Jo):H[b]?=W I:=s
def PX{b_:Type}{H m B:Y b_}(s:H++m=B:=by first|rfl|(simp;done)|(rw[dc];rfl)|(simp;rfl)):H++m=B:=s
def Nn{b_:Type}{G:b_->Prop}{z:b_}(s:G z):∀T∈[z],G T:=λ_ b=>eu.1 b▸s
def afP{b_:Type}{H B:Y b_}{b:Z}{z:b_}(s:aR H b z=B:=by first|rfl|exact List.map_set.symm|(rw[hl];done)|(rw[hl];rfl)|(rw[<-hl];rfl)):aR H b z=B:=s
section
variable{P:bn}{p:bJ}
def as0{O:bc}{S F:aw}{au ck dP:Z}{T k:aP}{l:Y V}{J b:Z}{B:dd}{R:L}{I:V}(A:cu P S (c_ F) au ck)(t:gx P F J dP)(y:M.op=o0 S T k)(d:O.val p T=W (.al J l))(v:O.val p k=W (.int B R))(x:R=(b:L))(i:l[b]?=W I):di P p M O (.ref J [I] 0 0):=by
 intro z E N s m o r;refine adS A t y d v x (eX.1 i).1 z E N s m o λaE C g w e u=>r aE C g w ?_ u;cases e with
 |ref _ _ _ _ Q base val G D e=>
  have:=bk.ref (N:=g) J [I] 0 0 Q (base+b*J) (λ_ n=>val b n)
   (λf h c=>aK)
   (λf n h T c d=>by grind)
   (λf n h T c d=>by cases f<;>simp at c;subst c;exact e b n I T i d)
  simp_all
end
section
variable{P:bn}{K:cI}{p:bJ}{i:Y (Z×V)}{m:Z}{B:V->Prop}
def hK(b:p.G=i)(d:eh i){T:aP}{I:V}(s:val i J.c T=W I)(f:T∈a0 (j0 M.op))(e:I.plain:=by rfl){o:b6}{aD:bV}:(⟨dt M<|da o J.c,aD⟩:bc).val p T=W I:=by have:=ya (b▸d) (o:=o) (c:=dt M J.c) (aD:=aD) (M:=T) (T:=I) (by grind[yb]);grind[V.gc,wu]
theorem er.of(bC:A.plain)(s:gy P K->p.G=i->eh i->∀o aD,di P p M ⟨dt M (da o J.c),aD⟩ A)(b:B A):er P K p i t M J B:=⟨A,λf d e o aD _=>by grind[V.gc],b⟩
def Bp{g:BinOp}{S jL:aw}{T w:aP}{b d:V}(n:A.plain)(s:cU P g S T w b d A)(l:B A)(m:M.op=lI g S T w jL)(r:val i J.c T=W b)(u:val i J.c w=W d)(h:b.plain)(k:d.plain):er P K p i t M J B:=.of n (λ_ e f o aD=>zq m (hK e f r dZ h) (hK e f u dZ k) s) l
section arith
theorem aY(d:B (.int aj (z+Q)))(e:M.op=lI .add S T w jL:=by rfl)(f:val i J.c T=W (.int aj z):=by rfl)(g:val i J.c w=W (.int aj Q):=by rfl)(s:-9223372036854775808<=z+Q:=by omega)(b:z+Q<=9223372036854775807:=by omega):er P K p i t M J B:=Bp aa (cU.add<|xr s b) d e f g aa aa
theorem iQ(d:B (.int aj (z-Q)))(e:M.op=lI .sub S T w jL:=by rfl)(f:val i J.c T=W (.int aj z):=by rfl)(g:val i J.c w=W (.int aj Q):=by rfl)(s:-9223372036854775808<=z-Q:=by omega)(b:z-Q<=9223372036854775807:=by omega):er P K p i t M J B:=Bp aa (cU.sub<|xr s b) d e f g aa aa
theorem Ih(b:B (.int aj (z*Q)))(d:M.op=lI .mul S T w jL:=by rfl)(e:val i J.c T=W (.int aj z):=by rfl)(f:val i J.c w=W (.int aj Q):=by rfl)(s:-9223372036854775808<=z*Q:=by omega)(hG:z*Q<=9223372036854775807:=by omega):er P K p i t M J B:=Bp aa (cU.mul<|xr s hG) b d e f aa aa
def e7 R(b:B (.int aj R))(d:M.op=lI .add S T w jL:=by rfl)(e:val i J.c T=W (.int aj z):=by rfl)(f:val i J.c w=W (.int aj Q):=by rfl)(s:z+Q=R:=by omega)(h1:-9223372036854775808<=R:=by omega)(hG:R<=9223372036854775807:=by omega):er P K p i t M J B:=by grind[aY]
def jG R(e:B (.int aj R))(f:M.op=lI .sub S T w jL:=by rfl)(g:val i J.c T=W (.int aj z):=by rfl)(h:val i J.c w=W (.int aj Q):=by rfl)(s:z-Q=R:=by omega)(d:-9223372036854775808<=R:=by omega)(b:R<=9223372036854775807:=by omega):er P K p i t M J B:=by subst s;grind[iQ]
def Br R(e:B (.int aj R))(f:M.op=lI .mul S T w jL:=by rfl)(g:val i J.c T=W (.int aj z):=by rfl)(h:val i J.c w=W (.int aj Q):=by rfl)(s:z*Q=R:=by first|omega|(push_cast;rfl))(d:-9223372036854775808<=R:=by omega)(b:R<=9223372036854775807:=by omega):er P K p i t M J B:=by grind[Ih]
def Ij{dQ:dd}R(b:B (.int dQ R))(d:M.op=lI .quo S T w jL:=by rfl)(e:val i J.c T=W (.int dQ z):=by rfl)(f:val i J.c w=W (.int dQ Q):=by rfl)(s:z.tdiv Q=R:=by first|rfl|omega)(iO:Q≠0:=by omega)(h1:oD dQ R:=by first|exact xr q q|exact Z3 q q|exact E_ q q):er P K p i t M J B:=by subst s;exact Bp aa (cU.quo iO h1) b d e f aa aa
def MS{dQ:dd}R(b:B (.int dQ R))(d:M.op=lI .rem S T w jL:=by rfl)(e:val i J.c T=W (.int dQ z):=by rfl)(f:val i J.c w=W (.int dQ Q):=by rfl)(s:z.tmod Q=R:=by first|rfl|omega)(iO:Q≠0:=by omega):er P K p i t M J B:=by subst s;exact Bp aa (cU.rem iO) b d e f aa aa
def Fz{dQ g:dd}{R:L}(b:B (.int dQ R))(d:M.op=lI .shl S T w jL:=by rfl)(e:val i J.c T=W (.int dQ z):=by rfl)(f:val i J.c w=W (.int g Q):=by rfl)(s:dQ.wrap (z*2^min Q.toNat (l7 dQ))=R:=by rfl)(iO:0<=Q:=by omega):er P K p i t M J B:=by subst s;exact Bp aa (cU.shl iO) b d e f aa aa
def qX{dQ g:dd}R(b:B (.int dQ R))(d:M.op=lI .shr S T w jL:=by rfl)(e:val i J.c T=W (.int dQ z):=by rfl)(f:val i J.c w=W (.int g Q):=by rfl)(s:z.fdiv (2^min Q.toNat (l7 dQ))=R:=by rfl)(iO:0<=Q:=by omega):er P K p i t M J B:=by subst s;exact Bp aa (cU.shr iO) b d e f aa aa
def ab4 R(e:B (.int aj R))(f:M.op=.unOp .neg S T:=by rfl)(g:val i J.c T=W (.int aj z):=by rfl)(s:-z=R:=by first|rfl|omega)(k:-9223372036854775808<=R:=by omega)(h:R<=9223372036854775807:=by omega):er P K p i t M J B:=by subst s;exact .of aa (λ_ b d o aD=>auj f (hK b d g dZ aa (o:=o) (aD:=aD))<|xr q q) e
def SX{H b:Y C}(d:B (.str (H++b)))(e:M.op=lI .add S T w jL:=by rfl)(f:val i J.c T=W (.str H):=by rfl)(g:val i J.c w=W (.str b):=by rfl)(s:U H+U b<=9223372036854775807:=by exact si):er P K p i t M J B:=Bp aa (cU.avX s) d e f g aa aa
end arith
def bB{S F:aw}{b:cH}{T h:aP}{l:Y V}{dQ:dd}{R:L}(g:Z)I(s:B (.ref b.size [I] 0 0))(u:M.op=o0 S T h:=by rfl)(v:fC K S (c_ F):=by exact fX)(n:K.find F=W b:=by rfl)(w:val i J.c T=W (.al b.size l):=by rfl)(r:val i J.c h=W (.int dQ R):=by rfl)(bu:R=(g:L):=by first|rfl|omega)(k:l[g]?=W I:=by exact Hx):er P K p i t M J B:=.of aa (λf d e o aD=>by obtain⟨_,_,m⟩:=v.eD f;exact as0 m (f.find n).au u (hK d e w dZ aa) (hK d e r dZ aa) bu k) s
def gK{S:aw}{T f:aP}{H:Y C}{dQ:dd}{R:L}(e:Z)Q(m:B (bF Q))(n:M.op=.index S T f:=by rfl)(s:val i J.c T=W (.str H):=by rfl)(l:val i J.c f=W (.int dQ R):=by rfl)(r:fC K S k1:=by exact fX)(bu:R=(e:L):=by first|rfl|omega)(k:H[e]?=W Q:=by first|exact cT q|rfl|assumption):er P K p i t M J B:=.of aa (λh b d o aD=>by obtain⟨_,_,g⟩:=r.eD h;exact as1 g n (hK b d s dZ aa) (hK b d l dZ aa) bu k) m
def iG{m h:aw}{l b:cH}{dQ e:dd}{R:L}{T:aP}f(x:B (.int e f))(y:M.op=.convert m h T:=by rfl)(A:val i J.c T=W (.int dQ R):=by rfl)(z:K.find m=W l:=by rfl)(w:K.find h=W b:=by rfl)(v:b.d=.int e:=by rfl)(n:l.O=ae:=by rfl)(r:b.O=ae:=by rfl)(bu:R=f:=by first|rfl|omega)(uU:oD e f:=by first|exact xr q q|exact Z3 q q|exact E_ q q|exact Z1 q q|exact aoQ q q):er P K p i t M J B:=by subst bu;exact .of aa (λk s u o aD=>by let g:=(k.find w).g5 r;rw[v] at g;exact asS ((k.find z).g5 n) g y (hK s u A dZ aa (o:=o) (aD:=aD)) uU) x
def wa{m g:aw}{l b:cH}{dQ e:dd}{R:L}{T:aP}k(x:B (.int e k))(y:M.op=.convert m g T:=by rfl)(A:val i J.c T=W (.int dQ R):=by rfl)(z:K.find m=W l:=by rfl)(w:K.find g=W b:=by rfl)(v:b.d=.int e:=by rfl)(n:l.O=ae:=by rfl)(r:b.O=ae:=by rfl)(bu:e.wrap R=k:=by rfl):er P K p i t M J B:=by subst bu;exact .of aa (λh s u o aD=>by let f:=(h.find w).g5 r;rw[v] at f;exact asT ((h.find z).g5 n) f y<|hK s u A dZ aa (o:=o) (aD:=aD)) x
def sC(i:Y (Z×V))(b:Y (Z×V)):c6 aP->Z->c6 L|ai,R=>W R|W T,_=>match val i b T with|W (.int _ ap)=>W ap|_=>ai
def vG(d:p.G=i)(e:eh i){Q:c6 aP}{b R:Z}{ap:L}(s:sC i J.c Q b=W ap)(h:ap=(R:L))(f:∀T,Q=W T->T∈a0 (j0 M.op)){o:b6}{aD:bV}:pS p ⟨dt M (da o J.c),aD⟩ Q b R:=by
 cases Q;simp[sC,g6] at s;have:R=b:=q;trivial
 next T=>simp[sC] at s;split at s;rename_i dQ k g;simp at s;subst s;exists dQ,_,hK d e g (f T aa) aa;trivial
def n1{S:aw}{T:aP}{l k:c6 aP}{e:Y C}{n m:L}d b(w:B (.str (am (b-d) (ay d e))))(y:M.op=.slice S T l k ai:=by rfl)(h:val i J.c T=W (.str e):=by rfl)(z:fC K S k1:=by exact fX)(x:sC i J.c l 0=W n:=by rfl)(v:sC i J.c k (U e)=W m:=by rfl)(D:n=(d:L):=by first|rfl|omega)(A:m=(b:L):=by first|rfl|omega)(s:d<=b:=by omega)(fh:b<=U e:=by omega):er P K p i t M J B:=.of aa (λu f g o aD=>by obtain⟨_,_,r⟩:=z.eD u;exact as8 r y (hK f g h dZ aa) (vG f g x D λT h=>dZ) (vG f g v A λT h=>dZ) s fh) w
def ayv(d:p.G=i)(e:eh i){H:Y aP}{b:Y V}(s:mz i J.c H=W b)(g:e4 V.plain b)(f:∀T∈H,T∈a0 (j0 M.op)){o:b6}{aD:bV}:pc p ⟨dt M (da o J.c),aD⟩ H b:=by grind[ayw,dt,OJ,yb,wu]
def adf{ar:fM}{f:aP}{args:bU aP}{h:bU aw}{first b d:Y V}(aM:kF P ar)(s:eN P i ar (first++d++b) A)(r:M.op=ft {callee:=qr f,args:=args,argTypes:=h})(m:val i J.c f=W (.func (c1 ar) first b))(k:mz i J.c (a0 args)=W d)(n:(V.func (c1 ar) first b).plain)(l:e4 V.plain d)(e:p.G=i)(g:eh i){o:b6}{aD:bV}:di P p M ⟨dt M (da o J.c),aD⟩ A:=at7 r aM (hK e g m pI n) (ayv e g k l λT t=>pI)<|bQ e▸s
def ch{ar:fM}{e:aP}{args:bU aP}{f:bU aw}{first b d:Y V}(s:B A)(u:M.op=ft {callee:=qr e,args:=args,argTypes:=f}:=by rfl)(n:val i J.c e=W (.func (c1 ar) first b):=by rfl)(l:mz i J.c (a0 args)=W d:=by rfl)(g:eN P i ar (first++d++b) A)(bC:A.plain:=by rfl)(r:(V.func (c1 ar) first b).plain:=by rfl)(m:e4 V.plain d:=by rfl)(aM:kF P ar:=by exact wQ):er P K p i t M J B:=.of bC (λ_ h k o aD=>adf aM g u n l r m h k) s
end
section
variable{P:bn}{K:cI}{p:bJ}{i:Y (Z×V)}{m:Z}
def gg.pure(bC:A.plain)(s:gy P K->p.G=i->eh i->∀o,di P p M (J.aB o) A)(g:B (J.put M.dst A)):gg P K p i m ops M J B:=⟨λd b c o H ak e f=>cD.pure e (s d b c o) (by grind[dk.refl,aN.r1,V.gc])⟩
def aT{ar:fM}{e:aP}{args:bU aP}{f:bU aw}{first b d:Y V}(t:B (J.put M.dst A))(u:M.op=ft {callee:=qr e,args:=args,argTypes:=f}:=by rfl)(r:val i J.c e=W (.func (c1 ar) first b):=by rfl)(l:mz i J.c (a0 args)=W d:=by rfl)(g:eN P i ar (first++d++b) A)(bC:A.plain:=by rfl)(s:(V.func (c1 ar) first b).plain:=by rfl)(n:e4 V.plain d:=by rfl)(aM:kF P ar:=by exact wQ):gg P K p i m ops M J B:=.pure bC (λ_ h k o=>di.full<|adf aM g u r l s n h k) t
def sb(i:Y (Z×V))(b:Y (Z×V)):Y (Z×aP)->Z->c6 (Y V)
|[],_=>W []|(d,T)::A,R=>match ef d R,val i b T with
 |ag,W I=>match I.plain,I.fits,sb i b A (R+1) with|ag,ag,W c=>W (I::c)|_,_,_=>ai
 |_,_=>ai
def Gk(e:p.G=i)(f:eh i){o:b6}:∀{H:Y (Z×aP)}{R:Z}{b:Y V},sb i J.c H R=W b->u6 p (J.aB o) H R b
|[],R,b,s=>by simp[sb] at s;trivial|(n,T)::A,R,b,s=>by unfold sb at s;split at s;rename_i I k l;split at s;rename_i m bC g h;simp at s;subst s;have:=nE k;subst this;exact⟨aa,(by have:=ya (e▸f) (o:=o) (aD:=J.d++aZ o J.az)<|bQ e▸l;rwa [V.gc bC] at this),g,Gk e f h⟩;trivial;trivial
def cp{S F:aw}{b:cH}{R:Z}{g:bU (Z×aP)}{d:Y V}(s:B (J.put M.dst (.al b.size d)))(u:M.op=.buildSlice S R g:=by rfl)(x:fC K S (c_ F):=by exact fX)(r:K.find F=W b:=by rfl)(v:sb i J.c (a0 g) 0=W d:=by rfl)(t:R=U d:=by rfl)(hlen:∀I∈d,U I.cells=b.size:=by first|(simp[V.cells,bF,V.const,V.leaf];done)|(simp[V.cells,bF,V.const,V.leaf];rfl))(n:R*b.size<=2^24:=by decide)(w:0<b.size:=by decide):gg P K p i m ops M J B:=by refine .pure aa (λf k l o=>?_) s;obtain⟨_,_,h⟩:=x.eD f;have e:=f.find r;exact TI h e.au e.lG u (Gk k l v) t hlen n w
end
section
variable{P:bn}{K:cI}{p:bJ}{i:Y (Z×V)}{m R:Z}{cA:Y Z}
def am5(e:P.follows qs)(d:gy P K)(b:p.G=i)(c:eh i)(f:p.n=R){n:gw}{J:aN}{ak:cS->aN->Prop}(s:match n with|.seq z Q=>kz P K p i m R cA z J (r9 (kz P K p i m R cA Q · ak) ak)|_=>hP):a1 P p m n J ak:=by
 split at s;rename_i z Q;refine a1.seq<|(vj e d b c f z J _ s).mono λF g bd=>?_;cases F with|normal=>exact vj e d b c f Q g ak bd|_=>exact bd
 trivial
def ayJ(f:P.follows qs)(e:gy P K)(c:p.G=i)(d:eh i)(g:p.n=R){b_:Type}{z Q:gw}{J:aN}{ak:cS->aN->Prop}{b:b_->aN}{G:b_->Prop}(s:kz P K p i m R cA z J (r9 (λk=>∃T,G T/\nP (b T) k) ak))(B:∀T,G T->kz P K p i m R cA Q (b T) ak):a1 P p m (.seq z Q) J ak:=a1.cut b G (vj f e c d g z J _ s) λT h=>vj f e c d g Q _ ak<|B T h
def ayY(k:P.follows qs)(h:gy P K)(f:p.G=i)(g:eh i)(l:p.n=R){b_:Type}{n:gw}{J:aN}{ak:cS->aN->Prop}{b:b_->aN}{G:b_->Prop}{e:b_->Z}{d:b_}(iO:G d)(o:nP (b d) J)(round:∀T,G T->kz P K p i m R cA n (b T) (r9 (λs=>∃c,G c/\e c<e T/\nP (b c) s) ak)):a1 P p m (.loop n) J ak:=a1.loop b G e d iO o λT r=>vj k h f g l n _ _<|round T r
end
def xS:Y V->X|[]=>ag|T::H=>match T.plain with|ag=>xS H|ae=>ae
theorem TB{o:b6}:∀{H:Y V},xS H->ab (V.aB o) H=H|[],_=>aa|T::H,s=>by rw[xS] at s;split at s;rename_i b;rw[ia,V.gc b,TB s];trivial
def aL{P:bn}{p:bJ}{m:Z}{i:b6}{e:Y hn}{F:cS}{J:aN}{b:Y V}{A:V}(h:BL J.c e=W b:=by rfl)(bC:xS b:=by rfl)(g:J.d=[]:=by rfl)(f:F=.ret\/F=fY:=by exact rp)(s:eR b=A:=by rfl):ic P p m i e (·=A/\·=[]) F J:=QT [] (λo _=>⟨by grind[TB],by rw[g];rfl⟩) h b5 aa f
def Ku(P:bn)(S:aw):Z->Y (Z×aw×Z)->Prop|_,[]=>dW|b,(d,c,R)::A=>(R=0\/ux P S b d c R)/\Ku P S (b+1) A
def Ku.get{P:bn}{S:aw}:∀{H:Y (Z×aw×Z)}{c:Z},Ku P S c H->∀b h e R,H[b]?=W (h,e,R)->R≠0->ux P S (c+b) h e R|[],_,_,b,_,_,_,s,_=>by simp at s|(_,_,_)::_,c,⟨f,g⟩,0,_,_,_,s,d=>by cases s;exact j2 f d|(_,_,_)::_,c,⟨f,g⟩,b+1,_,_,_,s,d=>by have:=g.get b _ _ _ s d;rwa [z1,ta 1] at this
def x_{S:aw}{b:cH}(l:b.O\/cu bL S b.d b.size b.bytes:=by exact ah5)(k:b.O->b.agg:=by intro s;first|rfl|cases s)(h:b.agg\/nY b.d=ae:=by first|exact .inl rfl|exact .inr cb)(e:b.agg=ae\/Ce bL S b.size:=by exact ah5)(f:Ku bL S 0 b.bz:=by repeat (first|exact trivial|refine⟨by first|exact .inl rfl|exact .inr ⟨cb⟩,?_⟩))(m:jr bL S b.z:=by exact⟨cb,by decide+kernel⟩)(au:gx bL S b.size b.bytes:=by exact wQ)(i:b.bz=[]\/GO bL S (b.bz.map λG=>(G.1,G.2.2)):=by first|exact .inl rfl|exact .inr ⟨cb⟩):o8 bL S b:=⟨l,k,h,e,λc _ _ _ s g=>mC c▸f.get c _ _ _ s g,m,au,i⟩
def ex:bq:=eY ai 0 0
def fm:bq:=cN aj 0
def hx:bq:=hA ae
def hy:bq:=jO ⟨#[]⟩
def NN:bq:=ib ai
def ih(F:aw):cH:=⟨c_ F,1,24,ae,ae,ex,[]⟩
def n8(F:aw):cH:=⟨.pointer F,1,8,ae,ae,NN,[]⟩
def BJ(B F:aw):cH:=⟨.map B F,1,8,ae,ae,.map ai,[]⟩
def wj(B:dd)(Q:Z):cH:=⟨.int B,1,Q,ae,ae,cN B 0,[]⟩
def tZ(R:Z)(F:aw)(J Q:Z)(ap:bq):cH:=⟨pL R F,J,Q,ag,ae,h0<|td J ap,[]⟩
def hW(Q:Z)(ap:Y bq)(bz:Y (Z×aw×Z)):cH:=⟨.invalid,U ap,Q,ag,ag,h0<|aO ap,bz⟩
noncomputable def q5(S:aw):cH:=⟨(kD eQ S).getD .invalid,1,8,ae,ae,.nilFunc,[]⟩
abbrev dH:=cI.node
abbrev eV(S:aw)(b:cH):cI:=.node .nil S b .nil
def lS:cH:=hW 72 [fm,ex,fm,fm,ex] [(0,3,1),(1,166,1),(2,3,1),(3,3,1),(4,167,1)]
def p2:cH:=hW 56 [fm,ex,ex] [(0,3,1),(1,53,1),(2,117,1)]
def A8:cH:=hW 72 [ex,ex,ex] [(0,271,1),(1,53,1),(2,272,1)]
def HP:cH:=hW 56 [ex,ex,hx,hx] [(0,50,1),(1,50,1),(2,4,1),(3,4,1)]
def HR:cH:=n8 270
def Ru:cH:=tZ 32 151 32 256<|cN ej 0
def ZM:cH:=hW 136 [hx,hx,hx,ex,ex,hx,hx,hx,ex,ex,hx] [(0,180,5),(5,180,5),(10,4,1)]
def Rt:cH:=hW 2 [hx,hx] [(0,4,1),(1,4,1)]
def ZO:cH:=hW 192 [hx,fm,ex,ex,ex,NN,hx,ex,fm,fm,fm,hx,ex,fm] [(0,4,1),(1,3,1),(2,274,3),(5,275,1),(6,4,1),(7,50,1),(8,3,1),(9,3,1),(10,3,1),(11,4,1),(12,276,1),(13,3,1)]
def Rv:cH:=hW 32 [hx,hy,fm] [(0,4,1),(1,9,1),(2,3,1)]
def ZN:cH:=tZ 256 4 256 256 hx
def HQ:cH:=⟨.bool,1,1,ae,ae,hA ae,[]⟩
def Rw:cH:=⟨k1,1,16,ae,ae,jO ⟨#[]⟩,[]⟩
def rJ:cH:=wj aj 8
def Md:cH:=wj aj 8
noncomputable def hX:cI:=dH (dH (dH (dH (dH (dH (dH (eV 2 rJ) 3 Md .nil) 4 HQ<|eV 5<|wj ez 1) 9 Rw<|dH (dH (eV 21<|wj .i32 4) 22 (ih 48) .nil) 24 (hW 40 [hy,ex] [(0,9,1),(1,22,1)])<|eV 25<|ih 24) 26 (wj aj 8)<|dH (dH (dH (eV 35<|n8 38) 36 (ih 5) .nil) 38 (hW 24 [ex] [(0,36,1)])<|eV 42<|hW 24 [fm,hy] [(0,3,1),(1,9,1)]) 43 (ih 42)<|dH (eV 44<|ih 101) 45 (ih 81)<|eV 46<|ih 95) 48 (hW 296 [hy,fm,fm,hy,fm,hy,ex,hx,ex,ex,fm,hy,ex,hy,hy,fm,fm,ex,hy,fm] [(0,9,1),(1,3,1),(2,42,2),(4,42,2),(6,43,1),(7,4,1),(8,44,1),(9,44,1),(10,42,2),(12,45,1),(13,9,1),(14,9,1),(15,3,1),(16,3,1),(17,46,1),(18,9,1),(19,3,1)])<|dH (dH (dH (dH (eV 50<|ih 3) 53 (ih 4) .nil) 54 (ih 53)<|eV 55<|ih 88) 64 (n8 48)<|dH (dH (eV 65<|q5 65) 67 (n8 9) .nil) 68 (q5 68)<|eV 69<|BJ 9 4) 72 (ih 9)<|dH (dH (dH (eV 79<|ih 105) 81 (hW 32 [ex,fm] [(0,79,1),(1,3,1)]) .nil) 83 (BJ 84 4)<|eV 84<|wj ej 8) 88 (n8 126)<|dH (eV 95<|hW 32 [hy,hy] [(0,9,1),(1,9,1)]) 101 (hW 40 [hy,fm,hy] [(0,9,1),(1,42,2)])<|eV 102<|ih 111) 103 (ih 114)<|dH (dH (dH (dH (dH (eV 105<|hW 160 [hx,fm,ex,hx,hy,hx,ex,fm,fm,fm,hx,ex,fm] [(0,4,1),(1,3,1),(2,102,1),(3,4,1),(4,9,1),(5,4,1),(6,50,1),(7,3,1),(8,3,1),(9,3,1),(10,4,1),(11,103,1),(12,3,1)]) 107 Rv .nil) 109 (hW 40 [hx,hx,hx,hy,fm] [(0,4,1),(1,4,1),(2,107,3)])<|eV 111<|hW 88 [hx,hx,hx,hy,fm,hx,hx,hx,hy,fm,hx] [(0,109,5),(5,109,5),(10,4,1)]) 114 (hW 32 [hy,fm,hx] [(0,9,1),(1,3,1),(2,4,1)])<|dH (dH (eV 117<|ih 50) 119 p2 .nil) 121 (hW 80 [fm,hy,fm,ex,ex] [(0,42,2),(2,119,3)])<|eV 122<|ih 121) 123 (ih 202)<|dH (dH (dH (eV 124<|ih 163) 126 (hW 632 [hy,fm,fm,hy,fm,hy,ex,hx,ex,ex,fm,hy,ex,hy,hy,fm,fm,ex,hy,fm,fm,hy,fm,ex,ex,fm,hy,fm,ex,ex,fm,hy,fm,ex,ex,ex,ex,ex,ex] [(0,48,20),(20,121,5),(25,121,5),(30,121,5),(35,122,1),(36,123,1),(37,123,1),(38,124,1)]) .nil) 127 (q5 127)<|eV 128<|ih 127) 140 (q5 140)<|dH (eV 145<|ih 187) 151 (wj ej 8)<|eV 154<|wj .u32 4) 161 HR<|dH (dH (dH (dH (eV 163<|hW 8 [NN] [(0,161,1)]) 166 (ih 314) .nil) 167 (ih 169)<|eV 169 lS) 176 (ih 3)<|dH (eV 178<|hW 56 [hx,ex,ex] [(0,4,1),(1,176,1),(2,176,1)]) 180 (hW 64 [hx,hx,hx,ex,ex] [(0,4,1),(1,4,1),(2,178,3)])<|eV 182 ZM) 187 (hW 48 [hy,hy,hy] [(0,9,1),(1,9,1),(2,9,1)])<|dH (dH (dH (eV 192<|q5 192) 193 (tZ 24 5 24 24<|cN ez 0) .nil) 197 (q5 197)<|eV 198<|tZ 32 5 32 32<|cN ez 0) 199 (tZ 64 5 64 64<|cN ez 0)<|dH (eV 202<|hW 96 [hy,fm,hy,fm,ex,ex] [(0,9,1),(1,121,5)]) 203 (q5 203)<|eV 206<|ih 284) 209 (n8 211)<|dH (dH (dH (dH (dH (dH (eV 211<|hW 40 [hy,fm,fm,fm] [(0,9,1),(1,3,1),(2,3,1),(3,26,1)]) 225 (tZ 256 5 256 256<|cN ez 0) .nil) 227 (hW 2 [cN ez 0,cN ez 0] [(0,5,1),(1,5,1)])<|eV 228<|tZ 16 227 32 32<|cN ez 0) 229 (wj .u16 2)<|dH (dH (eV 230<|ih 229) 233 (ih 154) .nil) 237 (tZ 20 151 20 160<|cN ej 0)<|eV 238<|tZ 65 5 65 65<|cN ez 0) 239 (n8 241)<|dH (dH (dH (eV 241<|hW 40 [hy,fm,fm,fm] [(0,9,1),(1,3,1),(2,3,1),(3,26,1)]) 243 (n8 246) .nil) 244 (ih 263)<|eV 246<|hW 96 [ex,ex,ex,ex] [(0,117,1),(1,50,1),(2,50,1),(3,244,1)]) 249 (n8 252)<|dH (eV 250<|ih 254) 252 (hW 72 [ex,ex,ex] [(0,250,1),(1,53,1),(2,250,1)])<|eV 254 Ru) 257 (n8 260)<|dH (dH (dH (dH (eV 258<|tZ 256 3 256 2048 fm) 260 (hW 2120 (cM 256 fm++[ex,ex,ex]) [(0,258,256),(256,50,1),(257,53,1),(258,117,1)]) .nil) 262 (tZ 256 4 256 256 hx)<|eV 263 ZN) 264 (q5 264)<|dH (dH (eV 268<|ih 278) 270 (hW 32 [ex,fm] [(0,268,1),(1,3,1)]) .nil) 271 (ih 107)<|eV 272<|ih 385) 274 A8<|dH (dH (dH (eV 275<|n8 368) 276 (ih 330) .nil) 278 ZO<|eV 284<|hW 48 [hy,hy,hy] [(0,9,1),(1,9,1),(2,9,1)]) 289 (n8 292)<|dH (eV 290<|ih 166) 292 (hW 56 [ex,ex,hx] [(0,290,1),(1,117,1),(2,4,1)])<|eV 294 HP) 296 (BJ 9 3)<|dH (dH (dH (dH (dH (eV 310<|q5 310) 312 (q5 312) .nil) 314 (hW 16 [fm,fm] [(0,3,1),(1,3,1)])<|eV 315<|n8 254) 316 (BJ 254 3)<|dH (dH (eV 320<|n8 323) 323 (hW 48 [ex,ex] [(0,50,1),(1,117,1)]) .nil) 324 (BJ 3 3)<|eV 330<|hW 32 [hy,fm,hx] [(0,9,1),(1,3,1),(2,4,1)]) 331 (n8 278)<|dH (dH (dH (eV 334<|tZ 256 4 256 256 hx) 353 (n8 263) .nil) 356 (BJ 3 4)<|eV 358<|ih 117) 360 (ih 109)<|dH (eV 364<|q5 364) 368 (hW 80 [fm,ex,ex,hy,hx] [(0,119,3),(3,9,1),(4,4,1)])<|eV 371<|q5 371) 374 (n8 334)<|dH (dH (dH (dH (eV 382<|BJ 3 50) 385 Rt .nil) 388 (q5 388)<|eV 416<|ih 271) 421 (q5 421)<|dH (eV 423<|tZ 2 3 2 16 fm) 424 (q5 424)<|eV 426<|q5 426) 430 (n8 432)<|dH (dH (dH (eV 432<|hW 32 [NN,ex] [(0,430,1),(1,36,1)]) 448 (wj aj 8) .nil) 456 (BJ 423 3)<|eV 457<|ih 423) 458 (n8 5)<|dH (eV 463<|wj ej 8) 467 (n8 3)<|eV 469 ⟨.unsafePointer,1,8,ae,ae,ib ai,[]⟩
def br:gy bL hX:=by repeat (first|exact b5|refine⟨?_,x_,?_⟩)
def gm:Tryz.prog.follows qs:=cb
section
open Go.Sort Go.Lib
def tD(Q:C):bq:=cN ez (Q.toNat:L)
def rf:V:=.int ez 0
end
section
variable{P:bn}{K:cI}{p:bJ}{i:Y (Z×V)}{m:Z}{B:V->Prop}
def adi{O:bc}{T w:aP}{dQ:dd}{z Q:L}{m:bU aw}(b:X)(g:M.op=ft {callee:=gP<|if b then .max else .min,args:=#[T,w],argTypes:=m})(k:O.val p T=W (.int dQ z))(l:O.val p w=W (.int dQ Q)):di P p M O (.int dQ (if b then max z Q else min z Q)):=.same λc E n f=>by have d:=f.val k;have e:=f.val l;generalize h:b1 c T=o at d;generalize i:b1 c w=aE at e;cases d;cases e;cases b with|true=>exists _,.int _ _;simp[c5,g,h,i,oi,oh,o2,Builtin.max_,Builtin.max2];omega|false=>exists _,.int _ _;simp[c5,g,h,i,oi,oh,o2,Builtin.min_,Builtin.min2];omega
theorem are{T w:aP}{dQ:dd}{z Q:L}{k:bU aw}(e:B (.int dQ (max z Q)))(f:M.op=ft {callee:=gP .max,args:=#[T,w],argTypes:=k}:=by rfl)(g:val i J.c T=W (.int dQ z):=by rfl)(h:val i J.c w=W (.int dQ Q):=by rfl):er P K p i t M J B:=.of aa (λ_ b d o aD=>adi ag f (hK b d g pI aa)<|hK b d h pI aa) e
theorem arf{T w:aP}{dQ:dd}{z Q:L}{k:bU aw}(e:B (.int dQ (min z Q)))(f:M.op=ft {callee:=gP .min,args:=#[T,w],argTypes:=k}:=by rfl)(g:val i J.c T=W (.int dQ z):=by rfl)(h:val i J.c w=W (.int dQ Q):=by rfl):er P K p i t M J B:=.of aa (λ_ b d o aD=>adi ae f (hK b d g pI aa)<|hK b d h pI aa) e
def MQ{T w:aP}{dQ:dd}{z Q:L}{b:bU aw}R(d:B (.int dQ R))(e:M.op=ft {callee:=gP .max,args:=#[T,w],argTypes:=b}:=by rfl)(f:val i J.c T=W (.int dQ z):=by rfl)(g:val i J.c w=W (.int dQ Q):=by rfl)(s:max z Q=R:=by omega):er P K p i t M J B:=by grind[are]
def Bq{T w:aP}{dQ:dd}{z Q:L}{b:bU aw}R(d:B (.int dQ R))(e:M.op=ft {callee:=gP .min,args:=#[T,w],argTypes:=b}:=by rfl)(f:val i J.c T=W (.int dQ z):=by rfl)(g:val i J.c w=W (.int dQ Q):=by rfl)(s:min z Q=R:=by omega):er P K p i t M J B:=by grind[arf]
def jV{S F:aw}{d:cH}{T e:aP}{f:Y V}{dQ:dd}{R:L}(b:Z)I(l:B (.ref d.size [I] 0 0))(m:M.op=o0 S T e:=by rfl)(n:fC K S (c_ F):=by exact fX)(g:K.find F=W d:=by rfl)(o:val i J.c T=W (.al d.size f):=by rfl)(h:val i J.c e=W (.int dQ R):=by rfl)(bu:R=(b:L):=by first|rfl|omega)(k:f[b]?=W I:=by first|exact eZ q|exact pZ q):er P K p i t M J B:=bB b I l m n g o h bu k
def pq{S:aw}{T d:aP}{H:Y C}{dQ:dd}{R:L}b(f:B (bF (y H b 0)))(g:M.op=.index S T d:=by rfl)(l:val i J.c T=W (.str H):=by rfl)(e:val i J.c d=W (.int dQ R):=by rfl)(h:fC K S k1:=by exact fX)(bu:R=(b:L):=by first|rfl|omega)(k:b<U H:=by omega):er P K p i t M J B:=gK b _ f g l e h bu<|pZ k
def YH S T w:Op.equal S T w=nH (9999+1) S T w:=aa
def N4{I:Z}{S:aw}{E:bI}{z Q:X}(b:kD P S=W .bool):ce P (nH (I+1) S (hA z) (hA Q)) E=ct (z==Q) E:=by simp[nH,run_underlying b]
def aeV{I:Z}{S F:aw}{E:bI}{z:c6 Addr}(b:kD P S=W (.pointer F)):ce P (nH (I+1) S (ib z) (ib ai)) E=ct z.isNone E:=by cases z<;>simp[nH,run_underlying b]
def A3{c:BinOp}{S:aw}{T w:aP}{aE d:bq}{E:bI}{b:Sem bq}{A:bq}:ce P (eqGuard c S T w aE d) E=ct () E->ce P b E=ct A E->ce P (do eqGuard c S T w aE d;b:Sem bq) E=ct A E:=by simp_all
def YF{b:BinOp}{S:aw}{T w:aP}{z Q:X}{E:bI}:ce P (eqGuard b S T w (hA z) (hA Q)) E=ct () E:=by cases b<;>rfl
def YG{b:BinOp}{S:aw}{T w:aP}{z Q:c6 Addr}{E:bI}:ce P (eqGuard b S T w (ib z) (ib Q)) E=ct () E:=by cases b<;>rfl
def LD{S:aw}{z Q:bq}{E:bI}{A:X}(b:binOp .eql S z Q=(do pure (hA (<-Op.equal S z Q))):=by rfl)(s:ce P (Op.equal S z Q) E=ct A E):ce P (binOp .eql S z Q) E=ct (hA A) E:=by simp_all
def M2{S:aw}{z Q:bq}{E:bI}{A:X}(b:binOp .neq S z Q=(do pure (hA !(<-Op.equal S z Q))):=by rfl)(s:ce P (Op.equal S z Q) E=ct A E):ce P (binOp .neq S z Q) E=ct (hA !A) E:=by simp_all
def cU.beq{S:aw}{T w:aP}{z Q:X}{au ck:Z}(d:cu P S .bool au ck):cU P .eql S T w (.bool z) (.bool Q) (.bool (aH (z=Q))):=by intro e aE f E b c;cases b;cases c;refine⟨_,.bool _,A3 YF ?_⟩;rw[LD (s:=N4 d.u)];rfl
def cU.bne{S:aw}{T w:aP}{z Q:X}{au ck:Z}(d:cu P S .bool au ck):cU P .neq S T w (.bool z) (.bool Q) (.bool (aH ¬z=Q)):=by intro e aE f E b c;cases b;cases c;refine⟨_,.bool _,A3 YF ?_⟩;rw[M2 (s:=N4 d.u)];grind
def SM{S jL:aw}{T w:aP}{z Q:X}(g:B (.bool (aH (z=Q))))(h:M.op=lI .eql S T w jL:=by rfl)(l:val i J.c T=W (.bool z):=by rfl)(m:val i J.c w=W (.bool Q):=by rfl)(k:fC K S .bool:=by exact fX):er P K p i t M J B:=.of aa (λf b d o aD=>by obtain⟨_,_,e⟩:=k.eD f;exact zq h (hK b d l dZ aa) (hK b d m dZ aa)<|cU.beq e) g
def azy{S jL:aw}{T w:aP}{z Q:X}(g:B (.bool (aH ¬z=Q)))(h:M.op=lI .neq S T w jL:=by rfl)(l:val i J.c T=W (.bool z):=by rfl)(m:val i J.c w=W (.bool Q):=by rfl)(k:fC K S .bool:=by exact fX):er P K p i t M J B:=.of aa (λf b d o aD=>by obtain⟨_,_,e⟩:=k.eD f;exact zq h (hK b d l dZ aa) (hK b d m dZ aa)<|cU.bne e) g
def Mi:V->c6 X|.ks=>W ag|.ref .. =>W ae|_=>ai
def aoY{c:bf}{T:V}{aE:bq}{Q:X}(s:bk c T aE)(b:Mi T=W Q):Q/\aE=ib ai\/Q=ae/\∃z,aE=ib (W z):=by cases s<;>simp[Mi] at b<;>subst b;simp;simp
def cU.atF{S F:aw}{T w:aP}{b:V}{Q:X}{au ck:Z}(c:cu P S (.pointer F) au ck)(f:Mi b=W Q):cU P .neq S T w b .ks (.bool !Q):=by intro g aE h E d e;cases e;rcases aoY d f with⟨rfl,rfl⟩|⟨rfl,z,rfl⟩;exact⟨_,.bool _,A3 YG<|M2 (s:=aeV c.u)⟩;exact⟨_,.bool _,A3 YG<|M2 (s:=aeV c.u)⟩
def ab7{S F jL:aw}{T w:aP}{b:V}{Q:X}(h:B (.bool !Q))(l:M.op=lI .neq S T w jL:=by rfl)(n:val i J.c T=W b:=by rfl)(r:val i J.c w=W .ks:=by rfl)(k:Mi b=W Q:=by rfl)(m:fC K S (.pointer F):=by exact fX)(bC:b.plain:=by rfl):er P K p i t M J B:=.of aa (λg d e o aD=>by obtain⟨_,_,f⟩:=m.eD g;exact zq l (hK d e n dZ bC) (hK d e r dZ aa)<|cU.atF f k) h
structure wU(P:bn)(S:aw)(xs aC:Y V)(Q:X):Prop where
 h:∀(N:bf)(sa b8:Y bq)(E:bI),U sa=U xs->U b8=U aC->(∀(D:Z)(T:V)(aE:bq),xs[D]?=W T->sa[D]?=W aE->bk N T aE)->(∀(D:Z)(T:V)(aE:bq),aC[D]?=W T->b8[D]?=W aE->bk N T aE)->ce P (Op.equal S (h0 (aO sa)) (h0 (aO b8))) E=ct Q E
 g:P.eqGuardType P.depth S=ae
def cU.Wk{S:aw}{T w:aP}{xs aC:Y V}{Q:X}(s:wU P S xs aC Q):cU P .eql S T w (.agg xs) (.agg aC) (.bool Q):=by
 intro b aE n E c d;cases c with
 |agg _ l e _ i=>cases d with|agg _ m f _ k=>refine⟨_,.bool Q,A3 ?_<|LD (s:=s.h b l m E (bQ e) (bQ f) i k)⟩;simp[eqGuard,s.g]
def cU.ai7{S:aw}{T w:aP}{xs aC:Y V}{Q:X}(s:wU P S xs aC Q):cU P .neq S T w (.agg xs) (.agg aC) (.bool !Q):=by
 intro b aE n E c d;cases c with
 |agg _ l e _ i=>cases d with|agg _ m f _ k=>refine⟨_,.bool _,A3 ?_<|M2 (s:=s.h b l m E (bQ e) (bQ f) i k)⟩;simp[eqGuard,s.g]
def Fw{S jL:aw}{T w:aP}{xs aC:Y V}{Q:X}(s:wU P S xs aC Q)(e:B (.bool Q))(f:M.op=lI .eql S T w jL:=by rfl)(k:val i J.c T=W (.agg xs):=by rfl)(l:val i J.c w=W (.agg aC):=by rfl)(g:(V.agg xs).plain:=by rfl)(h:(V.agg aC).plain:=by rfl):er P K p i t M J B:=.of aa (λm b d o aD=>zq f (hK b d k dZ g) (hK b d l dZ h)<|cU.Wk s) e
def abU{S jL:aw}{T w:aP}{xs aC:Y V}{Q:X}(s:wU P S xs aC Q)(e:B (.bool !Q))(f:M.op=lI .neq S T w jL:=by rfl)(k:val i J.c T=W (.agg xs):=by rfl)(l:val i J.c w=W (.agg aC):=by rfl)(g:(V.agg xs).plain:=by rfl)(h:(V.agg aC).plain:=by rfl):er P K p i t M J B:=.of aa (λm b d o aD=>zq f (hK b d k dZ g) (hK b d l dZ h)<|cU.ai7 s) e
end
section
open Go.RowKit
def eN.arY{P:bn}{A:V}{i:Y (Z×V)}{ar:fM}{xs:Y V}(s:∀b(d:Y bq) E,U d=U xs->(∀(e:Z) T aE,xs[e]?=W T->d[e]?=W aE->bk b T aE)->∃aE,bk b A aE/\ln P ar (aO d) E (·=lo aE/\Below (a9 E.heap) E ·)):eN P i ar xs A:=by intro b d E o f g h n;let⟨aE,m,l⟩:=s b d E f g;apply iK l;rintro F p ⟨rfl,c⟩;exact⟨aE,A,[],b,aa,⟨aa,aa⟩,m,h.grown ⟨c.os,c.tape,c.output,c.size,λe k _=>c.block e k⟩⟩
inductive rq:Y V->Y bq->Prop|nil:rq [] []|int {B:dd} {R:L} {H:Y V} {m:Y bq}:rq H m->rq (.int B R::H) (cN B R::m)|bool {Q:X} {H:Y V} {m:Y bq}:rq H m->rq (.bool Q::H) (hA Q::m)|str {J:Y C} {H:Y V} {m:Y bq}:rq H m->rq (.str J::H) (jO ⟨aO J⟩::m)
def rq.eq{xs:Y V}{h:Y bq}(s:rq xs h)d:∀b,U b=U xs->(∀(c:Z) T aE,xs[c]?=W T->b[c]?=W aE->bk d T aE)->b=h:=by
 induction s
 simp_all
 next B R H m _ e=>exact rq.step d e λaE f=>by cases f;rfl
 next Q H m _ e=>exact rq.step d e λaE f=>by cases f;rfl
 next J H m _ e=>exact rq.step d e λaE f=>by cases f;rfl
 where
 rq.step (d) {T:V} {i:bq} {H:Y V} {m:Y _} (e:∀b,U b=U H->(∀c T aE,H[c]?=W T->b[c]?=W aE->bk d T aE)->b=m)
   (l:∀aE,bk d T aE->aE=i):∀b,U b=U (T::H)->(∀c w aE,(T::H)[c]?=W w->b[c]?=W aE->bk d w aE)->b=i::m:=by
  intro b k g;cases b;cases k
  next z b=>rw[l z<|g 0 T z aa aa,e b aq λc w aE n f=>g (c+1) w aE cf cf]
def eN.fixed{P:bn}{A:V}{i:Y (Z×V)}{ar:fM}{xs:Y V}{d:Y bq}{c:bq}(h:rq xs d)(g:∀b,bk b A c)(s:∀E,ln P ar (aO d) E (·=lo c/\Below (a9 E.heap) E ·)):eN P i ar xs A:=.arY λb k E e f=>⟨c,g b,by rw[h.eq b k e f];grind⟩
def eN.C3{P:bn}{A:V}{i:Y (Z×V)}{ar:fM}{xs:Y V}{b:Y bq}{c:bq}(h:rq xs b)(g:∀d,bk d A c)(s:∀E,ln P ar (aO b) E (·=lo c/\·=E)):eN P i ar xs A:=.fixed h g λE=>iK (s E) λF k ⟨e,f⟩=>⟨e,f▸Ef _ _⟩
end
section
variable{P:bn}{K:cI}{p:bJ}{i:Y (Z×V)}{m:Z}{B:V->Prop}
def iU(b:p.G=i)(d:eh i){T:aP}{I:V}(s:val i J.c T=W I)(e:T∈a0 (j0 M.op))o{aD:bV}:(⟨dt M (da o J.c),aD⟩:bc).val p T=W (I.aB o):=by grind[ya,dt,yb,wu]
def hJ(b:p.G=i)(d:eh i){T:aP}{I:V}(s:val i J.c T=W I)o:(J.aB o).val p T=W (I.aB o):=ya (b▸d)<|bQ b▸s
theorem er.n5(s:gy P K->p.G=i->eh i->∀o,di P p M ⟨dt M (da o J.c),(J.aB o).d⟩ (A.aB o))(b:B A):er P K p i ae M J B:=⟨A,λg e f o aD h=>by simp_all,b⟩
def cE{S F r:aw}{n:cH}{T l:aP}{d m:Z}{xs:Y V}{dQ:dd}{R:L}b(x:B (.dC d b 0))(h:M.op=o0 S T l:=by rfl)(y:fC K S (c_ F):=by exact fX)(u:K.find F=W n:=by rfl)(z:val i J.c T=W (.a d 0 m):=by rfl)(t:ci J.az d=W (.j n.size r xs):=by rfl)(w:val i J.c l=W (.int dQ R):=by rfl)(bu:R=(b:L):=by first|rfl|omega)(k:b<m:=by exact si):er P K p i ae M J B:=.n5 (λg e f o=>by obtain⟨_,_,s⟩:=y.eD g;obtain⟨v,bd⟩:=j7 _ t;have:=II s (g.find u).au h (iU e f z (by rw[h];simp[j0]) o) bd (iU e f w dZ o) bu k;rw[mC] at this;trivial) x
def SO{S F n:aw}{m:cH}{T h:aP}{d l k:Z}{xs:Y V}{dQ:dd}{R:L}b(x:B (.dC d (l+b) 0))(z:M.op=o0 S T h:=by rfl)(A:fC K S (c_ F):=by exact fX)(t:K.find F=W m:=by rfl)(C:val i J.c T=W (.a d l k):=by rfl)(s:ci J.az d=W (.j m.size n xs):=by rfl)(w:val i J.c h=W (.int dQ R):=by rfl)(y:R=(b:L):=by first|rfl|omega)(u:b<k:=by exact si):er P K p i ae M J B:=.n5 (λg e f o=>by obtain⟨_,_,r⟩:=A.eD g;obtain⟨v,bd⟩:=j7 _ s;exact II r (g.find t).au z (iU e f C dZ o) bd (iU e f w dZ o) y u) x
def fl{S F:aw}{e:cH}{T:aP}{r m n au:Z}{xs:Y V}g(y:B A)(f:M.op=.load S T:=by rfl)(C:K.find S=W e:=by rfl)(D:val i J.c T=W (.dC r m n):=by rfl)(x:ci J.az r=W (.j au F xs):=by rfl)(k:xs[m]?=W g:=by exact Hx)(bC:q3 g.cells n e.size e.agg=W A:=by rfl)(z:A.plain:=by rfl):er P K p i ae M J B:=.n5 (λw t u o=>by let bd:=w.find C;let⟨v,h⟩:=j7 (o:=o) J.d x;rw[V.gc z];let l:=iU t u D (by rw[f];simp[j0]) o (aD:=(J.aB o).d);cases b:e.agg with|true=>rw[b] at bC;obtain⟨rfl,s⟩:=FO bC;exact Tr (bd.Cs b) f l h k aa s|false=>rw[b] at bC;exact IJ (bd.g5<|bd.r6 b) (j2 bd.jw aK) f l h k (FP bC).1) y
def zj{S F z:aw}{u:cH}{T:aP}{t s:c6 aP}{k r h:Z}{xs:Y V}{x w:L}(d b n m:Z)(G:B (.a k n m))(H:M.op=.slice S T t s ai:=by rfl)(N:fC K S (c_ F):=by exact fX)(D:K.find F=W u:=by rfl)(g:val i J.c T=W (.a k r h):=by rfl)(C:ci J.az k=W (.j u.size z xs):=by rfl)(bl:sC i J.c t 0=W x:=by rfl)(E:sC i J.c s h=W w:=by rfl)(Q:x=(d:L):=by first|rfl|omega)(O:w=(b:L):=by first|rfl|omega)(A:d<=b:=by omega)(fh:b<=h:=by exact si)(I:n=r+d:=by first|rfl|omega)(Ro:m=b-d:=by first|rfl|omega):er P K p i ae M J B:=.n5 (λl e f o=>by subst I Ro;obtain⟨_,_,y⟩:=N.eD l;obtain⟨v,bd⟩:=j7 _ C;exact as6 y (l.find D).au H (iU e f g dZ o) bd (vG e f bl Q λT g=>dZ) (vG e f E O λT g=>dZ) A fh) G
def rU{u r F w:aw}{h e k:cH}{T:aP}{s t g:Z}{xs:Y V}b(N:B (.str b))(Q:M.op=.convert u r T:=by rfl)(R:K.find u=W h:=by rfl)(I:K.find r=W e:=by rfl)(x:h.d=c_ F:=by rfl)(y:e.d=k1:=by rfl)(z:h.O=ae:=by rfl)(A:e.O=ae:=by rfl)(L:K.find F=W k:=by rfl)(C:k.d=.int ez:=by rfl)(D:k.O=ae:=by rfl)(S:val i J.c T=W (.a s t g):=by rfl)(H:ci J.az s=W (.j 1 w xs):=by rfl)(hlen:g=U b:=by first|rfl|simp)(aM:am g (ay t xs)=ab bF b:=by first|rfl|simp):er P K p i ae M J B:=.n5 (λf E G o=>by let l:=(f.find R).g5 z;let m:=(f.find I).g5 A;let n:=(f.find L).g5 D;rw[x] at l;rw[y] at m;rw[C] at n;obtain⟨v,bd⟩:=j7 _ H;exact asR l n m Q (iU E G S dZ o) bd hlen aM) N
end
section
variable{P:bn}{p:bJ}{o:b6}
def a_.aqO{J:aN}{w G:b7}{Ni:c6 Z}{aE qJ:V}(fj:∀S≠I,aQ S=o S)(l:(aQ I).1=(o I).1)(bC:ci J.az I=W G)(r:fS hC aE (qJ.aB aQ)):∃B,(J.aB o).d[B]?=W ((o I).1,G.aD o (o I).2)/\∀{z:fI}{E:bI}{b:bf},a_ p (({J.aB o with d:=(J.aB o).d.set B ((o I).1,w.aD aQ (aQ I).2)}).put Ni aE) z E b->a_ p (((J.Bj I w).put Ni qJ).aB aQ) z E b:=by
 let⟨B,n,h,f,k⟩:=alJ fj l w bC;refine⟨U J.d+B,by show(J.d++aZ o _)[_]?=_;grind,λ{z E b} s=>?_⟩;let F:(J.aB o).d.set (U J.d+B) ((o I).1,w.aD aQ (aQ I).2)=J.d++aR (aZ o J.az) B ((o I).1,w.aD aQ (aQ I).2):=by show aR (J.d++aZ o _) _ _=_;rw[List.set_append,ad q,show U J.d+B-U J.d=B by omega]
 rw[F] at s;let g:=cY.rA k<|cY.refl J.d;cases Ni;let e:a_ p ⟨da o _,J.d++h⟩ z E b:=⟨s.cO.drop<|yf (yg _) f,s.c,s.gR,s.size,s.defers⟩;exact e.rD (bf.le.refl b) e.cO hC.gU hC.one (H5 fj _) g
 next i=>let e:a_ p ⟨(i,aE)::da o _,J.d++h⟩ z E b:=⟨s.cO.drop<|yf (yg _) f,s.c,s.gR,s.size,s.defers⟩;refine e.rD (bf.le.refl b) e.cO hC.gU hC.one (λS ap aX=>?_) g;simp[aN.put,da,ia,rj] at aX⊢;cases m:S==i with|true=>simp_all|false=>rw[m] at aX;exact H5 fj _ S ap aX
end
section
variable{P:bn}{K:cI}{p:bJ}{i:Y (Z×V)}{m:Z}
def gg.AP{b:Z}{e:b7}w{A:V}(n:ci J.az b=W e)(t:B ({J with az:=il J.az b w}.put M.dst A))(s:gy P K->p.G=i->eh i->∀o v,(J.aB o).d[v]?=W ((o b).1,e.aD o (o b).2)->eH P p M (J.aB o) (A.aB o) ((J.aB o).d.set v ((o b).1,w.aD o (o b).2))):gg P K p i m ops M J B:=⟨λl g h o H ak r k=>by obtain⟨v,u,x⟩:=Qn J.d o n;apply cD.AL r<|s l g h o v u;have f:=k o _ (dk.refl m o) t;rw[aN.r1] at f;show cD P p ops H (bc.put ⟨da o J.c,aR (J.d++aZ o J.az) v ((o b).1,w.aD o (o b).2)⟩ M.dst (A.aB o)) ak;rw[x];exact f⟩
def fF{S F:aw}{e:cH}{G T:aP}{h g n au:Z}{xs:Y V}{b:V}aC d f(y:B ({J with az:=il J.az h (.j au F aC)}.put M.dst .undef))(z:M.op=.store S G T:=by rfl)(E:K.find S=W e:=by rfl)(bC:val i J.c G=W (.dC h g n):=by rfl)(H:val i J.c T=W b:=by rfl)(u:ci J.az h=W (.j au F xs):=by rfl)(k:xs[g]?=W d:=by exact Hx)(A:b.plain:=by rfl)(x:b.fits:=by rfl)(D:U b.cells=e.size:=by rfl)(w:n+e.size<=U d.cells:=by exact VI)(Rl:d.s4 n b.cells=f:=by rfl)(Rp:f.cells=am n d.cells++b.cells++ay (n+e.size) d.cells:=by rfl)(aU:aR xs g f=aC:=by exact afP):gg P K p i m ops M J B:=.AP _ u y λt l r o v C=>by subst aU Rl;let s:=hJ l r H o;rw[V.gc A] at s;exact CV (t.find E).au z (hJ l r bC o) C k s x D w Rp
inductive kG(K:cI)(i:Y (Z×V))(J:aN):aP->aw->Z->Y V->Prop
|al {w:aP} {cR F:aw} {kX:cH} {au:Z} {j:Y V} (aU:val i J.c w=W (.al au j)) (bW:K.find cR=W kX) (bN:kX.d=c_ F) (Rq:kX.O=ae) (mo:∀I∈j,U I.cells=au):kG K i J w cR au j|nil {w:aP} {cR F:aw} {kX:cH} {au:Z} (aU:val i J.c w=W .bo) (bW:K.find cR=W kX) (bN:kX.d=c_ F) (Rq:kX.O=ae):kG K i J w cR au []|str {w:aP} {cR:aw} {kX:cH} {G4:Y C} (aU:val i J.c w=W (.str G4)) (bW:K.find cR=W kX) (bN:kX.d=k1) (Rq:kX.O=ae):kG K i J w cR 1 (ab bF G4)|a {w:aP} {cR F CQ:aw} {kX:cH} {au xJ off len:Z} {xs:Y V} (aU:val i J.c w=W (.a xJ off len)) (bW:K.find cR=W kX) (bN:kX.d=c_ F) (Rq:kX.O=ae) (mo:ci J.az xJ=W (.j au CQ xs)) (A6:off+len<=U xs) (azq:∀I∈xs,U I.cells=au):
 kG K i J w cR au (am len (ay off xs))
def kG.src(h:gy P K)(f:p.G=i)(g:eh i){w:aP}{cR:aw}{au:Z}{k:Y V}(s:kG K i J w cR au k)o:jP P p (J.aB o) w cR au (U k) k:=by cases s with|al e d b c l=>let z:=(h.find d).g5 c;rw[b] at z;exact jP.al z (hJ f g e o) l|nil e d b c=>let z:=(h.find d).g5 c;rw[b] at z;exact jP.nil z (hJ f g e o)|str e d b c=>let z:=(h.find d).g5 c;rw[b] at z;rw[bm];exact jP.str z (hJ f g e o)|a e d b c l n m=>rename_i F t x u r len xs;let z:=(h.find d).g5 c;rw[b] at z;obtain⟨v,bd⟩:=j7 _ l;have:U (am len (ay r xs))=len:=bi;rw[this];exact jP.bH z (hJ f g e o) bd n m
def yH{R Q:Z}(b:R<=16777216)(c:hB Q 8388608):R*Q<=140737488355328:=by
 calc R*Q<=16777216*8388608:=B9 b (ll c)
  _=140737488355328:=a2
def gg.SL{b R ap:Z}{F:aw}{aC:Y V}{G:b7}(k:ci J.az b=W G)(n:B ((J.Bj b (.j ap F aC)).put M.dst (.a b 0 R)))(r:g8 b (m+1000))(s:gy P K->p.G=i->eh i->∀o v,(J.aB o).d[v]?=W ((o b).1,G.aD o (o b).2)->eH P p M (J.aB o) (.bH (o b).1 ((o b).2+1) 0 R) ((J.aB o).d.set v ((o b).1,.j ((o b).2+1) ap F aC))):gg P K p i m ops M J B:=⟨λh e f o H ak l g=>by have:b<m+1000:=ll (show hB (b+1) (m+1000)=ag from r);let aQ:=e2 o b ((o b).1,(o b).2+1);obtain⟨v,bd,t⟩:=a_.aqO (p:=p) (J:=J) (o:=o) (aQ:=aQ) (I:=b) (Ni:=M.dst) (qJ:=.a b 0 R) (λS c=>hd c) (w:=.j ap F aC) (by grind[iT]) k (by simp[V.aB,V.jW,V.e8,V.e0,aQ,iT];exact .refl _);apply cD.AL l<|s h e f o v bd;have:=g aQ _ ⟨λS _=>by grind[e2],λS c=>hd q⟩ n;grind[iT,b7.aD,cD.toR]⟩
def abX{S cR F:aw}{b:cH}{T w:aP}{d h e:Z}{xs f:Y V}{aC:Y V}(A:B ((J.Bj d (.j b.size F aC)).put M.dst (.a d 0 (U aC))))(E:M.op=ft {callee:=gP oZ,args:=#[T,w],argTypes:=#[S,cR]})(H:fC K S (c_ F))(x:K.find F=W b)(I:val i J.c T=W (.a d h e))(u:ci J.az d=W (.j b.size F xs))(G:kG K i J w cR b.size f)(y:h+e<=U xs)(L:a9 (dp b.z)=b.size)(aM:U aC*b.bytes<=140737488355328)(s:am e (ay h xs)++f=aC)(r:U aC<=ja)(D:g8 d (m+1000)):gg P K p i m ops M J B:=.SL u A D λg l n o v bd=>by
 obtain⟨_,_,t⟩:=H.eD g;have k:=g.find x;have C:e+U f=U aC:=by rw[<-s];simp;omega
 rw[<-C] at r aM⊢;rw[<-s];exact Ly t k.au k.lG L E (hJ l n I o) bd y (G.src g l n o) r aM
def abV{S cR F:aw}{b:cH}{T w:aP}{d f e:Z}{xs g:Y V}{aC:Y V}(l:B ((J.Bj d (.j b.size F aC)).put M.dst (.a d 0 (U aC))))(o:M.op=ft {callee:=gP oZ,args:=#[T,w],argTypes:=#[S,cR]}:=by rfl)(s:fC K S (c_ F):=by exact fX)(k:K.find F=W b:=by rfl)(t:val i J.c T=W (.a d f e):=by rfl)(h:ci J.az d=W (.j b.size F xs):=by rfl)(r:kG K i J w cR b.size g:=by exact B_)(A6:f+e<=U xs:=by exact Ps)(u:a9 (dp b.z)=b.size:=by rfl)(aM:hB b.bytes 8388608:=by rfl)(aU:am e (ay f xs)++g=aC:=by exact Ki)(bl:U aC<=16777216:=by exact si)(n:g8 d (m+1000):=by rfl):gg P K p i m ops M J B:=abX l o s k t h r A6 u (yH bl aM) aU yn n
def eB{S cR F:aw}{b:cH}{T w:aP}{d f:Z}{xs e:Y V}aC(k:B ((J.Bj d (.j b.size F aC)).put M.dst (.a d 0 (U aC))))(n:M.op=ft {callee:=gP oZ,args:=#[T,w],argTypes:=#[S,cR]}:=by rfl)(o:fC K S (c_ F):=by exact fX)(h:K.find F=W b:=by rfl)(r:val i J.c T=W (.a d 0 f):=by rfl)(g:ci J.az d=W (.j b.size F xs):=by rfl)(gi:kG K i J w cR b.size e:=by exact B_)(hlen:f=U xs:=by exact Ki)(aX:a9 (dp b.z)=b.size:=by rfl)(aM:hB b.bytes 8388608:=by rfl)(aU:xs++e=aC:=by exact PX)(bl:U aC<=16777216:=by exact si)(l:g8 d (m+1000):=by rfl):gg P K p i m ops M J B:=abV k n o h r g gi q aX aM aq bl l
def jP.more{O:bc}{T:aP}{cR:aw}{au R:Z}{e:Y V}{f:bV}(s:jP P p O T cR au R e)(h:O.d.Sublist f):jP P p ⟨O.c,f⟩ T cR au R e:=⟨s.len,s.cells,s.Iq,λz E g b=>s.run z E g ⟨b.cO.drop h,b.c,b.gR,b.size,b.defers⟩⟩
def abW{S cR F:aw}{b:cH}{T w:aP}{I:Z}{e:Y V}aC(R:B (J.fresh I (.j b.size F aC) (.a I 0 (U aC))))(C:M.op=ft {callee:=gP oZ,args:=#[T,w],argTypes:=#[S,cR]}:=by rfl)(u:M.dst=W I:=by rfl)(n:g8 I m:=by rfl)(g:fC K S (c_ F):=by exact fX)(x:K.find F=W b:=by rfl)(D:val i J.c T=W .bo:=by rfl)(gi:kG K i J w cR b.size e:=by exact B_)(L:a9 (dp b.z)=b.size:=by rfl)(aM:hB b.bytes 8388608:=by rfl)(G:e=aC:=by exact Ki)(bl:U aC<=16777216:=by exact si):gg P K p i m ops M J B:=⟨λf k l o H ak y Q=>by
 subst G;obtain⟨_,_,r⟩:=g.eD f;have h:=f.find x;have n:=ll (show hB _ m=ag from n);refine cD.x2 b.size λv=>?_;have A:((J.aB o).d++[(v,cB.jl b.size)])[(J.aB o).d.length]?=W (v,.jl b.size):=by simp
 refine cD.AL y (QM r h.au h.lG L C (hJ k l D o) A (jP.more (O:=J.aB o) (gi.src f k l o) ao) yn<|yH bl aM) ?_;rw[u];have s:aR ((J.aB o).d++[(v,cB.jl b.size)]) (J.aB o).d.length (v,.j 1 b.size F e)=(J.aB o).d++[(v,.j 1 b.size F e)]:=by simp
 rw[s];refine cD.toR (λz E N t=>a_.fresh (aQ:=e2 o I (v,1)) (λS g=>hd g) (qJ:=.a I 0 _) (w:=.j _ F e) (by simp only[V.aB,V.jW,V.e8,V.e0,iT];exact .refl _) (by simp only[c2,iT];exact .same _ .nil) t) ?_;grind[dk.of,hd]⟩
def kS{S F:aw}{b:cH}{T w:aP}{I:Z}{dQ X:dd}{l r:L}(R n:Z)aC(ap:B (J.fresh I (.j b.size F aC) (.a I 0 R)))(G:M.op=.makeSlice S T w:=by rfl)(u:M.dst=W I:=by rfl)(C:g8 I m:=by rfl)(d:fC K S (c_ F):=by exact fX)(x:K.find F=W b:=by rfl)(O:val i J.c T=W (.int dQ l):=by rfl)(k:l=(R:L):=by first|rfl|omega)(Q:val i J.c w=W (.int X r):=by rfl)(lR:r=(n:L):=by first|rfl|omega)(D:R<=n:=by first|exact bv _|omega)(U:a9 (dp b.z)=b.size:=by rfl)(aM:hB b.bytes 8388608:=by rfl)(N:0<b.size:=by decide)(A:n<=16777216:=by omega)(aU:cM R (V.zero b.z)=aC:=by rfl):gg P K p i m ops M J B:=⟨λh f g o H ak y am=>by obtain⟨_,_,s⟩:=d.eD h;have e:=h.find x;have:=ll (show hB _ m=ag from C);refine cD.makeSlice y s e.au e.lG U G (hJ f g O o) k (hJ f g Q o) lR D yn (c9 (yH A aM) a2) N λv=>?_;rw[u];apply cD.toR λz E Y t=>a_.fresh (aQ:=e2 o I (v,0)) (λS d=>hd d) (qJ:=.a I 0 R) (w:=.j _ F _) (by simp[V.aB,V.jW,V.e8,V.e0,iT];exact .refl _) (by simp[c2,iT];exact .same _ .nil) t;grind[dk.of,hd]⟩
end
def E5(I au:Z)(aC:Y V):V->V
|.a S c len=>match ef S I with
 |ag=>.al au aC|ae=>.a S c len
|.dC S b n=>match ef S I with
 |ag=>.undef|ae=>.dC S b n
|.eA S=>match ef S I with
 |ag=>.undef|ae=>.eA S
|.oG S=>match ef S I with
 |ag=>.undef|ae=>.oG S
|.lc S b n=>match ef S I with
 |ag=>.undef|ae=>.lc S b n
|T=>T
abbrev E6(I au:Z)(aC:Y V):V->V:=xy<|E5 I au aC
def Q7(I R:Z):V->Prop
|.a S b len=>match ef S I with
 |ag=>b=0/\len=R|ae=>dW
|_=>dW
abbrev anD(I R:Z):V->Prop:=IF<|Q7 I R
def E0(I R:Z)(T:V):Prop:=match T.plain with|ag=>dW|ae=>anD I R T
def uS(I R:Z):Y (Z×V)->Prop|[]=>dW|(_,T)::A=>E0 I R T/\uS I R A
def b7.anC(I R:Z):b7->Prop|.cell _ T=>E0 I R T|_=>dW
def sJ(I R:Z):bS->Prop|[]=>dW|(B,G)::A=>match ef I B with|ag=>sJ I R A|ae=>G.anC I R/\sJ I R A
inductive vx(id aS au:Z)(aC:Y V):V->V->Prop|a:vx id aS au aC (.bH id aS 0 (U aC)) (.al au aC)|my (T w:V) (s:hC T w):vx id aS au aC T w
theorem vx.one{id aS au:Z}{aC:Y V}:wZ (vx id aS au aC):=λT w s=>by cases s with|a=>trivial|my _ _ s=>exact hC.one _ _ s
section
variable{o:b6}
def anP{aQ:b6}(fj:∀S≠I,aQ S=o S)T(bC:Q7 I (U aC) T):fS (vx (o I).1 (o I).2 au aC) (T.e0 o) ((E5 I au aC T).e0 aQ):=by
 cases T<;>try exact .refl _
 case a=>simp[E5,Q7] at bC⊢;split at bC<;>rename_i s;cases nE s;obtain⟨rfl,rfl⟩:=bC;exact .base _ _ .a;rw[V.e0,V.e0,fj _<|ahS s];exact .refl _
 all_goals
  simp[E5];split<;>rename_i s
  first|exact .base _ _ (.my _ _<|.own ..)|exact .base _ _<|.my _ _<|.jj ..
  rw[V.e0,V.e0,fj _<|ahS s];exact .refl _
omit o in
def Zf:Ah (E5 I au aC):=λT=>by cases T<;>first|exact bj aa|(simp only[E5];split<;>first|exact bj aa|exact bp ⟨aa,aa⟩)
def Zg{aQ:b6}(fj:∀S≠I,aQ S=o S){T:V}(bC:E0 I (U aC) T):fS (vx (o I).1 (o I).2 au aC) (T.aB o) ((E6 I au aC T).aB aQ):=Fm Zf .qH (anP fj) λF=>by rwa [E0,F] at bC
def Q8{R B:Z}{F:aw}{T:V}:∀{H:bS},sJ I R H->(B,b7.cell F T)∈H->B≠I->E0 I R T|(c,G)::A,s,hm,b=>by rw[sJ] at s;rcases fH.1 hm with F|hm;cases F;split at s;rename_i F;exact cg (bQ<|nE F) b;exact s.1;split at s;exact Q8 s hm b;exact Q8 s.2 hm b
def Y_{R:Z}:∀{H:Y (Z×V)}{S:Z}{T:V},uS I R H->cX S H=W T->E0 I R T|(B,w)::A,S,T,⟨c,b⟩,s=>by rw[rj] at s;split at s;simp_all;exact Y_ b s
end
def aN.h6(J:aN)(I au:Z)(aC:Y V):aN:=⟨xA (E6 I au aC) J.c,qW I (E6 I au aC) J.az,J.d⟩
def cY.ids{c:V->V->Prop}:∀{H b:bV},cY c H b->ab (·.1) H=ab (·.1) b:=by
 intro H b s
 induction s<;>simp_all
def a_.LU{p:bJ}{J:aN}{o aQ:b6}{I au:Z}{F:aw}{aC:Y V}{z:fI}{E:bI}{x:bf}(fj:∀S≠I,aQ S=o S)(G:ci J.az I=W (.j au F aC))(L:uS I (U aC) J.c)(f:sJ I (U aC) J.az)(s:a_ p (J.aB o) z E x):∃e H,a_ p ((J.h6 I au aC).aB aQ) z E e/\e.m (o I).1=W H/\H.aS=(o I).2/\H.s=au/\((o I).1∈p.ids\/p.wT.m (o I).1=ai)/\∀M,((o I).1,M)∉((J.h6 I au aC).aB aQ).d:=by
 let⟨B,y,ap,A,C⟩:=SH (u:=E6 I au aC) (aQ:=aQ) (Fo Zf) fj G λB F T i b=>Zg fj<|Q8 f i b;let b:(J.aB o).d[U J.d+B]?=W ((o I).1,.j (o I).2 au F aC):=by show(J.d++aZ o J.az)[_]?=_;rw[s9 q,show U J.d+B-U J.d=B by omega];exact y
 let⟨e,N,hm,l,H,R,v,r,K⟩:=s.cO.freeze b;let he:(J.aB o).d.eraseIdx (U J.d+B)=J.d++iB (aZ o J.az) B:=by show iB (J.d++aZ o J.az) _=_;rw[ahp q];congr 2;omega
 have n:∀M,((o I).1,M)∉(J.aB o).d.eraseIdx (U J.d+B):=λM h=>by obtain⟨am,g⟩:=rl.1 h;rw[O4] at g;split at g<;>(have:=Bw s.cO.kt g b aa;omega)
 rw[he] at l n;have t:=yf (yg J.d) A;have f:=cY.rA C<|cY.refl J.d;refine⟨e,H,a_.rD s N (l.drop t) (λT w aM aE O=>?_) vx.one (λS w P=>?_) f,by rwa [hm],v,r,s.cO.own _ _<|dY b,λM h=>?_⟩;cases aM with|a=>have:=tk.key aq v r K _ _ (tk.bH 0 _ q) aE O;simp_all|my _ _ X=>grind[hC.gU]
 exact MK (λS T i=>Zg fj<|Y_ L i) S w P;have k:(o I).1∈((J.h6 I au aC).aB aQ).d.map (·.1):=dI.2 ⟨_,h,aa⟩;rw[show((J.h6 I au aC).aB aQ).d.map (·.1)=_ from bQ f.ids] at k;obtain⟨⟨ak,Q⟩,D,rfl⟩:=dI.1 k;exact n Q<|t.subset D
theorem a_.h6{p:bJ}{J:aN}{o:b6}{I au:Z}{F:aw}{aC:Y V}{z:fI}{E:bI}{d:bf}(e:ci J.az I=W (.j au F aC))(g:uS I (U aC) J.c)(f:sJ I (U aC) J.az)(s:a_ p (J.aB o) z E d):∃b,a_ p ((J.h6 I au aC).aB o) z E b:=let⟨b,_,s,_⟩:=a_.LU (λ_ _=>aa) e g f s
 ⟨b,s⟩
theorem gq{P:bn}{p:bJ}{m:Z}{f:b6}{e:Y hn}{b:V->bV->Prop}{d:cS}{J:aN}I{au:Z}{F:aw}{aC:Y V}(s:ic P p m f e b d (J.h6 I au aC))(l:ci J.az I=W (.j au F aC):=by rfl)(r:uS I (U aC) J.c:=by repeat (first|exact trivial|refine And.intro ?_ ?_|exact rfl|(simp;done)))(n:sJ I (U aC) J.az:=by repeat (first|exact trivial|refine And.intro ?_ ?_|exact rfl|(simp;done))):ic P p m f e b d J:=⟨s.he,λo k z E t h=>by let⟨g,i⟩:=a_.h6 l r n h;exact s.run o k z E g i⟩
theorem xL{P:bn}{K:cI}{p:bJ}{i:Y (Z×V)}{m:Z}{ops:bU a7}{M:a7}{J:aN}{B:aN->Prop}I{au:Z}{F:aw}{aC:Y V}(s:gg P K p i m ops M (J.h6 I au aC) B)(t:mR (a0 ops) (J.h6 I au aC).c M=W ag:=by rfl)(l:ci J.az I=W (.j au F aC):=by rfl)(u:uS I (U aC) J.c:=by repeat (first|exact trivial|refine And.intro ?_ ?_|exact rfl|(simp;done)))(n:sJ I (U aC) J.az:=by repeat (first|exact trivial|refine And.intro ?_ ?_|exact rfl|(simp;done))):gg P K p i m ops M J B:=⟨λk d e o H ak _ f=>by intro r z E v g;let⟨b,h⟩:=a_.h6 l u n g;exact s.run k d e o H ak (by have:=uT o t;omega) f r z E b h⟩
def a_.art{p:bJ}{O:bc}{z:fI}{E:bI}{b:bf}(s:a_ p O z E b)J F:a_ p ⟨O.c,O.d++[(b.n,.j 0 J F [])]⟩ z E (b.fV b.n ⟨ai,0,0,0,J⟩):=by
 let g:b.le (b.fV b.n ⟨ai,0,0,0,J⟩):=bf.jh λk e=>by rw[b.fresh _<|bv _] at e;cases e
 exact⟨s.cO.new (lf:=.j 0 J F []) (dr:=⟨ai,0,0,0,J⟩) (bO:=E) (bj aa) ⟨aa,aa,aa,bv _,λ_ _ _=>aa⟩ ⟨aa,aa,bj ⟨aa,aa⟩⟩,λS T f=>by let⟨aE,e,i⟩:=s.c S T f;exact⟨aE,e,i.mono g⟩,λh T f=>(s.gR h T f).mono g,s.size,s.defers⟩
inductive qu(v:Z):V->V->Prop|nil:qu v .bo (.bH v 0 0 0)|my (T w:V) (s:hC T w):qu v T w
theorem qu.one{v:Z}:wZ (qu v):=λT w s=>by cases s with|nil=>trivial|my _ _ s=>exact hC.one _ _ s
def w3(I:Z):V->V|.bo=>.a I 0 0|T=>T
def yB(I:Z)(b:Y Z):Y (Z×V)->Y (Z×V)|[]=>[]|(S,T)::A=>match iw S b with|ag=>(S,w3 I<|zw I T)::yB I b A|ae=>(S,zw I T)::yB I b A
def At(I n:Z):V->V
|.agg b=>match b[n]? with
 |W T=>.agg (aR b n<|w3 I T)|ai=>.agg b
|.vec R z b=>match g8 n R with
 |ag=>.vec R z b|ae=>match b[n-R]? with
  |W T=>.vec R z (aR b (n-R)<|w3 I T)|ai=>.vec R z b
|T=>w3 I T
def PG(I n:Z):b7->b7|.cell F T=>.cell F (At I n T)|T=>T
def KE(I:Z):c6 (Z×Z)->bS->bS|ai,H=>H|W _,[]=>[]|W (S,n),(B,G)::A=>match ef S B with|ag=>(B,PG I n G)::A|ae=>(B,G)::KE I (W (S,n)) A
def aN.eK(J:aN)(I au:Z)(F:aw)(e:Y Z)(b:c6 (Z×Z)):aN:=⟨yB I e J.c,KE I b (r3 I J.az)++[(I,.j au F [])],J.d⟩
section
variable{o:b6}(fj:∀S,S≠I->aQ S=o S)(bd:aQ I=(v,0))
include bd
theorem V3 T:fS (qu v) (T.aB aQ) ((w3 I T).aB aQ):=by cases T with|bo=>simp[w3,V.aB,V.jW,V.e8,V.e0,bd];exact .base _ _ .nil|_=>exact .refl _
theorem V2 T:fS (qu v) (T.e8 aQ) ((w3 I T).e8 aQ):=by cases T with|bo=>simp[w3,V.e8,V.e0,bd];exact .base _ _ .nil|_=>exact .refl _
theorem aiD n T:fS (qu v) (T.aB aQ) ((At I n T).aB aQ):=by
 by_cases i:∃c,T=.agg c;obtain⟨c,rfl⟩:=i;simp[At];split;refine .agg _ _ ao λk z Q d aM=>?_;simp only[db,Eb] at d aM;obtain⟨f,e,rfl⟩:=d;obtain⟨g,b,rfl⟩:=aM;rw[qo] at b;split at b;grind[V2];rw[e] at b;cases b;exact .refl _;exact .refl _;by_cases h:∃R z c,T=.vec R z c;obtain⟨R,z,c,rfl⟩:=h;simp[At];split;exact .refl _;split;refine .vec _ _ _ _ ao λk z Q d aM=>?_;simp only[db,Eb] at d aM;obtain⟨f,e,rfl⟩:=d;obtain⟨g,b,rfl⟩:=aM;rw[qo] at b;split at b;grind[V2];rw[e] at b;cases b;exact .refl _;exact .refl _;have:At I n T=w3 I T:=by cases T<;>first|rfl|simp_all|simp_all
 grind[V3]
omit bd in
theorem aiC(n:Z)(T:V):(At I n T).cells.length=U T.cells:=by cases T with|agg b=>grind[At,V.cells]|vec R z b=>grind[At,V.cells]|_=>rfl
theorem aiB n B G{H b:bV}(s:cY (qu v) H b):cY (qu v) (c2 aQ (B,G)::H) (c2 aQ (B,PG I n G)::b):=by
 unfold c2;cases G
 next F T=>simp[PG,b7.aD,aiC];exact .F1 (aiD bd n T) s
 next J F xs=>exact .same _ s
 next c clock=>exact .same _ s
 next c clock seen=>exact .same _ s
theorem V4:∀b H,cY (qu v) (aZ aQ H) (aZ aQ (KE I b H))|ai,H=>by cases H<;>exact cY.refl _|W _,[]=>.nil|W (S,n),(B,G)::A=>by rw[KE];split;exact aiB bd n B G<|cY.refl _;exact .same _<|V4 _ A
end
def V5{I:Z}{b:Y Z}:∀H S,cX S (yB I b H)=(cX S H).map λT=>match iw S b with
 |ag=>w3 I (zw I T)|ae=>zw I T
|[],_=>aa|(B,T)::A,S=>by rw[yB];cases s:S==B;let c:∀w,cX S ((B,w)::yB I b A)=cX S (yB I b A):=λw=>aK;rw[rj,s];split<;>rw[c,V5 A S];grind
def a1.Wj{P:bn}{p:bJ}{m:Z}{n:gw}{J:aN}{ak:cS->aN->Prop}I au F L{e:bS->bS}(N:∀{aQ:b6}{v:Z},aQ I=(v,0)->∀H,cY (qu v) (aZ aQ H) (aZ aQ (e H)))(s:a1 P p m n ⟨yB I L J.c,e (r3 I J.az)++[(I,.j au F [])],J.d⟩ ak)(k:g8 I m):a1 P p m n J ak:=⟨λo r t z E b u=>by
 let f:=u.art au F;let fj:∀S≠I,e2 o I (b.n,0) S=o S:=λS l=>hd l;let⟨G,C,A⟩:=NX (o:=o) (aQ:=e2 o I (b.n,0)) (I:=I) fj J.az;let h:a_ p ⟨da o J.c,J.d++G++[(b.n,.j 0 au F [])]⟩ z E (b.fV b.n ⟨ai,0,0,0,au⟩):=⟨f.cO.drop<|yf (yf (yg _) C)<|yg _,f.c,f.gR,f.size,f.defers⟩;let i:=h.rD (bf.le.refl _) h.cO hC.gU hC.one (H5 fj J.c)<|cY.rA (cY.refl _)<|cY.rA A<|cY.refl J.d;let k:=ll (show hB _ m=ag from k);let x:dk m o (e2 o I (b.n,0)):=.of λS l=>hd q;refine s.run _ r (λaQ F K y bd=>t aQ F K (x.trans y) bd) z E _<|i.rD (bf.le.refl _) i.cO (dq:=qu b.n) (λT w aM aE D=>?_) qu.one (λS w g=>?_) ?_;cases aM with|nil=>cases D;exact .bH _ _ _ _ _ _ (b.kg _ _) (bv _) aa λ_=>bj ⟨aa,aa,aa⟩|my _ _ O=>grind[hC.gU]
 rw[mU,V5] at g;rw[mU,SI];cases B:cX S J.c;simp_all
 next T=>rw[B] at g;simp[lm,g6] at g;exists _,aa;subst g;split;simp[V3,iT];exact .refl _
 show cY (qu b.n) _ (J.d++aZ (e2 o I (b.n,0)) (e (r3 I J.az)++[(I,.j au F [])]));let M:aZ (e2 o I (b.n,0)) (e (r3 I J.az)++[(I,.j au F [])])=aZ (e2 o I (b.n,0)) (e (r3 I J.az))++[(b.n,.j 0 au F [])]:=by simp[aZ,dc,ia,rk,c2,b7.aD,iT]
 grind[cY.rA,cY.refl,iT,qW]⟩
def a1.eK{P:bn}{p:bJ}{m:Z}{n:gw}{J:aN}{ak:cS->aN->Prop}I au F c b(s:a1 P p m n (J.eK I au F c b) ak)(d:g8 I m:=by rfl):a1 P p m n J ak:=.Wj I au F c (V4 · b) s d
theorem a1.h6{P:bn}{p:bJ}{m:Z}{n:gw}{J:aN}{ak:cS->aN->Prop}I{au:Z}{F:aw}{aC:Y V}(s:a1 P p m n (J.h6 I au aC) ak)(h:ci J.az I=W (.j au F aC):=by rfl)(k:uS I (U aC) J.c:=by repeat (first|exact trivial|refine And.intro ?_ ?_|exact rfl|(simp;done)))(i:sJ I (U aC) J.az:=by repeat (first|exact trivial|refine And.intro ?_ ?_|exact rfl|(simp;done))):a1 P p m n J ak:=⟨λo d e z E l f=>by let⟨b,g⟩:=a_.h6 h k i f;exact s.run o d e z E b g⟩
def iL(P:bn)(i:Y (Z×V))(ar:fM)(xs:Y V)(aD:bV)(os:bS){b:Type}(G:b->Prop)(A:b->V)(d:b->bV)(cG:b->bS):Prop:=∀o:b6,g3 P i ar (ab (V.aB o) xs) (aD++aZ o os) (λe c=>∃z aQ,G z/\dk 5000 o aQ/\e=(A z).aB aQ/\c=d z++aZ aQ (cG z))
def mL(P:bn)(i:Y (Z×V))(ar:fM)(xs:Y V)(os:bS)(A:V)(cG:bS):Prop:=∀o:b6,g3 P i ar (ab (V.aB o) xs) (aZ o os) (λc b=>∃aQ,dk 5000 o aQ/\c=A.aB aQ/\b=aZ aQ cG)
def PZ ar:∀xs b,pb b (ab ar xs)=(pb b xs).map λG=>(G.1,ar G.2)|[],_=>aa|T::xs,b=>by simp[ia,pb,PZ ar xs _]
section
variable{P:bn}{K:cI}{p:bJ}{i:Y (Z×V)}{m R:Z}
def mL.of_wp{ar:fM}{b:Func}{n:gw}{c:Y hn}{xs:Y V}{os cG:bS}{A:V}{R:Z}cA(g:P.follows qs)(e:gy P K)(d:eh i)(f:GK P ar b n)(h:b.ntmps=R)(r:hB (U xs) R)(k:a0 b.results=c)(s:∀o p,p.G=i->p.n=R->kz P K p i 5000 R cA n ⟨pb 0 xs,os,[]⟩ (ic P p 5000 o c (λm l=>∃aQ,dk 5000 o aQ/\m=A.aB aQ/\l=aZ aQ cG))):mL P i ar xs os A cG:=λo=>g3.of_wp cA o _ g e d f h aq k
 (by rw[PZ];rfl)<|s o
def V.Dq:V->X|.tuple _=>ae|_=>ag
theorem V.arw{o:b6}{T:V}(s:T.Dq):T.aB o=T.jW o:=by cases T<;>first|rfl|cases s
theorem azz{o:b6}{b:Y V}(s:e4 V.Dq b):eR (ab (V.aB o) b)=(eR b).aB o:=by
 match b,s with|[],_=>rfl|[T],_=>rfl|T::w::H,s=>show V.tuple _=V.tuple _;grind[List.map_congr_left,V.arw,qz]
def cJ{f:b6}{e:Y hn}{F:cS}{J:aN}{b:Y V}{A:V}{cG:bS}(k:BL J.c e=W b:=by rfl)(g:tn cG J.az:=by repeat (first|exact trivial|refine And.intro rfl ?_))(i:n2 cG:=by rfl)(o:e4 V.Dq b:=by rfl)(r:J.d=[]:=by rfl)(h:F=.ret\/F=fY:=by exact rp)(s:eR b=A:=by rfl):ic P p m f e (λn l=>∃aQ,dk m f aQ/\n=A.aB aQ/\l=aZ aQ cG) F J:=QT cG (⟨·,·,Ke,aq⟩) k g i h
end
def dO:Y (Z×Z)->Z->Z|[],R=>R|(z,Q)::H,R=>match ef R z with|ag=>Q|ae=>dO H R
def NZ(dg:Z->Z):V->V|.dC S b n=>.dC (dg S) b n|.a S c len=>.a (dg S) c len|.eA S=>.eA (dg S)|.oG S=>.oG (dg S)|.lc S b n=>.lc (dg S) b n|T=>T
abbrev qd(dg:Z->Z):V->V:=xy<|NZ dg
abbrev b7.ge(dg:Z->Z):b7->b7:=b7.mp<|qd dg
def Ct(G:Z->X):V->X|.dC S _ _=>G S|.a S _ _=>G S|.eA S=>G S|.oG S=>G S|.lc S _ _=>G S|_=>ag
def GW(G:Z->X):V->X
|.func _ xs aC=>match e4 (Ct G) xs with
 |ag=>e4 (Ct G) aC|ae=>ae
|T=>Ct G T
def PP(G:Z->X):V->X|.agg b=>e4 (GW G) b|.vec _ _ b=>e4 (GW G) b|T=>GW G T
def Wn(G:Z->X):V->X|.tuple H=>e4 (PP G) H|T=>PP G T
def pa(G:Z->X)(T:V):X:=match T.plain with|ag=>ag|ae=>Wn G T
def b7.pP(G:Z->X):b7->X|.cell _ T=>pa G T|_=>ag
section
variable{dg:Z->Z}{G:Z->X}{o:b6}(s:∀S,G S->aQ (dg S)=o S)
include s
theorem avp{T:V}(bC:Ct G T):(NZ dg T).e0 aQ=T.e0 o:=by cases T<;>first|rfl|simp[NZ,V.e0,s _ bC]
omit s in
theorem Wo{T:V}(bC:Wn G T):IF (λT=>Ct G T=ag) T:=by
 let c:∀T,GW G T->FN (λT=>Ct G T=ag) T:=λT bC=>by
  cases T<;>first|exact bC|skip
  rw[GW] at bC;split at bC;rename_i F;exact⟨sz.2<|qz.1 F,sz.2<|qz.1 bC⟩;cases bC
 let d:∀T,PP G T->IE (λT=>Ct G T=ag) T:=λT bC=>by have:=c T;cases T<;>first|exact this bC|exact sz.2 λT b=>c T<|qz.1 bC T b
 have:=d T;cases T<;>first|exact this bC|exact sz.2 λT b=>d T<|qz.1 bC T b
omit s in
theorem aeI:Ah (NZ dg):=λT=>by cases T<;>first|exact bj aa|exact bp ⟨aa,aa⟩
theorem I1{T:V}(bC:pa G T):(qd dg T).aB aQ=T.aB o:=bQ<|Fm aeI .eq (λT b=>bQ<|avp s b) λF=>Wo (by rwa [pa,F] at bC)
omit s in
theorem avq(T:V):(qd dg T).cells.length=U T.cells:=Fo aeI T
theorem b7.N0{B:Z}{v:b7}(b:G B)(bC:v.pP G):c2 aQ (dg B,v.ge dg)=c2 o (B,v):=by unfold c2;simp[s B b];cases v with|cell F T=>simp[b7.mp,b7.aD,avq];rw[I1 s bC]|_=>rfl
end
theorem PR{G:Z->X}{o aQ:b6}(s:∀S,G S->aQ S=o S){T:V}(bC:pa G T):T.aB aQ=T.aB o:=by cases F:T.plain;rw[pa,F] at bC;rw[M4,M4];exact aaV .eq (λT b=>by cases T<;>first|rfl|simp[V.e0,s _ b])<|Wo bC;rw[V.gc F,V.gc F]
theorem b7.KG{G:Z->X}{o aQ:b6}(s:∀S,G S->aQ S=o S){B:Z}{v:b7}(b:G B)(bC:v.pP G):c2 aQ (B,v)=c2 o (B,v):=by unfold c2;rw[s B b];cases v with|cell F T=>simp[b7.aD];rw[PR s bC]|_=>rfl
def NS:bS->Z->bS|[],_=>[]|(B,G)::A,S=>match ef S B with|ag=>A|ae=>(B,G)::NS A S
def GS(dg:Z->Z):bS->bS->bS->Prop|[],H,b=>H=b|(R,G)::os,H,b=>ci H (dg R)=W (G.ge dg)/\GS dg os (NS H<|dg R) b
def aet:∀{H:bS}{S:Z}{G:b7},ci H S=W G->g7 H ((S,G)::NS H S)
|[],S,G,s=>cf|(B,v)::A,S,G,s=>by
 unfold ci at s;rw[NS];split at s;simp_all
 .rename_i he;rw[he];exact(List.Perm.cons _<|aet s).trans<|List.Perm.swap _ _ _
def GS.perm{dg:Z->Z}:∀{os H b:bS},GS dg os H b->g7 H (ab (λG=>(dg G.1,G.2.ge dg)) os++b)|[],H,b,s=>by cases s;rfl|(R,G)::os,H,b,⟨c,d⟩=>(aet c).trans<|List.Perm.cons _ d.perm
def Ff(G:Z->X):Y (Z×V)->Y (Z×V)|[]=>[]|(S,T)::A=>(S,match pa G T with|ag=>T|ae=>.undef)::Ff G A
def aau{G:Z->X}:∀H S,cX S (Ff G H)=(cX S H).map λT=>match pa G T with|ag=>T|ae=>.undef
|[],_=>aa|(B,T)::A,S=>by rw[Ff,rj,rj];cases s:S==B;exact aau A S;rfl
def nS(G:Z->X):bS->X|[]=>ag|(B,v)::A=>match G B,v.pP G with|ag,ag=>nS G A|_,_=>ae
def tr{G:Z->X}:∀{H:bS},nS G H->∀v∈H,G v.1/\v.2.pP G|(B,v)::A,s,w,b=>by rw[nS] at s;split at s;rcases fH.1 b with rfl|b;trivial;exact tr s w b;trivial
def rT(Q:Z)(dg:Z->Z):bS->Y Z|[]=>[]|(R,_)::A=>match g8 R Q with|ag=>dg R::rT Q dg A|ae=>rT Q dg A
def h9(b:Y Z)(S:Z):X:=match iw S b with|ag=>ae|ae=>ag
def xD(z Q m n:Z)(dg:Z->Z):bS->X
|[]=>ag|(R,_)::A=>match g8 R z with
 |ag=>match g8 (dg R) m with|ag=>xD z Q m n dg A|ae=>ae
 |ae=>match g8 R Q with
  |ag=>match g8 (dg R) n with|ag=>xD z Q m n dg A|ae=>ae
  |ae=>xD z Q m n dg A
def Cy(dg:Z->Z)(b o:b6):bS->b6|[],S=>o S|(R,_)::A,S=>match ef S (dg R) with|ag=>b R|ae=>Cy dg b o A S
def WT{dg:Z->Z}{b o:b6}:∀{H:bS},n2 (H.map λG=>(dg G.1,G.2))->∀v∈H,Cy dg b o H (dg v.1)=b v.1
|(R,G)::A,s,v,bd=>by simp[ia,n2,m7] at s;rw[Cy];rcases fH.1 bd with rfl|bd;simp;split;rename_i he;let he:=nE he;have:iw (dg R) (ab (·.1) (A.map λG=>(dg G.1,G.2))):=qU.2 (by grind);grind;exact WT s.2 v bd
def KP{dg:Z->Z}{lH o:b6}:∀H S,Cy dg lH o H S=o S\/∃v∈H,S=dg v.1/\Cy dg lH o H S=lH v.1|[],S=>bj aa|(R,G)::A,S=>by rw[Cy];split;simp_all;rcases KP (dg:=dg) (lH:=lH) (o:=o) A S with s|⟨v,b,c,d⟩;simp_all;grind
theorem EB{z Q:Z}:g8 z Q↔z<Q:=⟨λs=>ll<|show hB _ Q=ag from s,λs=>Nat.ble_eq_true_of_le<|show z+1<=Q from s⟩
def Il{z Q m n:Z}(b:m<=n){dg:Z->Z}:∀{H:bS},xD z Q m n dg H->∀v∈H,(v.1<z->dg v.1<m)/\(v.1<Q->dg v.1<n)
|(R,G)::A,s,v,bd=>by
 rw[xD] at s;split at s;split at s;rcases fH.1 bd with rfl|bd
 (simp_all;omega)
 exact Il b s v bd;trivial;have:¬R<z:=λc=>by grind[EB]
 split at s;split at s;rcases fH.1 bd with rfl|bd
 (simp_all;omega)
 exact Il b s v bd;trivial;rcases fH.1 bd with rfl|bd;grind[cg,EB];exact Il b s v bd
theorem SG{Q:Z}{dg:Z->Z}:∀{H:bS}{v:Z×b7},v∈H->v.1<Q->dg v.1∈rT Q dg H|(R,G)::A,v,bd,b=>by rw[rT];rcases fH.1 bd with rfl|bd;grind[EB];split;exact mB _<|SG bd b;exact SG bd b
def lU(H:bS)(S:Z):X:=iw S<|ab (·.1) H
def WS{m:Z}{b:Y (Z×Z)}{o d:b6}{cG:bS}(i:dk 5000 (λR=>o<|dO b R) d)(n:n2 (cG.map λG=>(dO b G.1,G.2)))(l:xD 5000 6000 m (m+1000) (dO b) cG):∃k,dk m o k/\(∀S,lU cG S->k (dO b S)=d S)/\∀S,h9 (rT 6000 (dO b) cG) S->k S=o S:=by refine⟨Cy (dO b) d o cG,⟨λS h=>?_,λS h=>?_⟩,λS h=>?_,λS h=>?_⟩;rcases KP (dg:=dO b) (lH:=d) (o:=o) cG S with s|⟨v,g,e,f⟩;grind;rw[f];have:=(Il (z2 m 1000) l v g).1;rw[i.id v.1 (by rcases hN v.1 5000 with c|c;have:=this c;omega;exact c),e];rcases KP (dg:=dO b) (lH:=d) (o:=o) cG S with s|⟨v,g,e,f⟩;exact s;rw[f];have:=(Il (z2 m 1000) l v g).2;rw[i.eq v.1 (by rcases hN v.1 6000 with c|c;have:=this c;omega;exact c),e];obtain⟨v,bd,rfl⟩:=dI.1<|qU.1 h;exact WT n v bd;rcases KP (dg:=dO b) (lH:=d) (o:=o) cG S with s|⟨v,g,e,f⟩;exact s;rw[f];by_cases p:v.1<6000;grind[qU,SG,h9];rw[i.eq v.1 q,e]
def afs{o:b6}{H:Y V}(s:e4 V.m3 H):ab (V.e0 o) H=ab (V.aB o) H:=hY λT b=>V.Jd<|qz.1 s T b
def Tw{o:b6}{d:Y (Z×Z)}{os:bS}{xs first e b:Y V}(c:ab (qd (dO d)) xs=first++e++b)(h:e4 (pa (lU os)) xs)(f:e4 V.m3 first)(g:e4 V.m3 b):ab (V.e0 o) first++ab (V.aB o) e++ab (V.e0 o) b=ab (V.aB λR=>o<|dO d R) xs:=by rw[afs f,afs g,<-dc,<-dc,<-c,i_];exact hY λT c=>I1 (o:=λR=>o<|dO d R) (aQ:=o) (G:=lU os) (λS _=>aa)<|qz.1 h T c
def ID{o lH:b6}{b:Y (Z×Z)}{os:bS}{G:Z->X}(s:∀S,G S->o (dO b S)=lH S)(c:nS G os):aZ lH os=aZ o (os.map λG=>(dO b G.1,G.2.ge<|dO b)):=by simp only[aZ,i_];exact hY λv bd=>bQ<|b7.N0 s (tr c v bd).1 (tr c v bd).2
section
variable{P:bn}{K:cI}{p:bJ}{i:Y (Z×V)}{m:Z}
def gG h{o3:Type}(n:o3->bV){G:o3->Prop}{A:o3->V}{aD:bV}{u3:o3->bV}k{ar:fM}{Z:aP}{args:bU aP}{aA:bU aw}{first L am xs:Y V}{os b:bS}{cG:o3->bS}(aQ:∀z,G z->B ((⟨Ff (h9 (rT 6000 (dO h) (cG z))) J.c,b++ab (λG=>(dO h G.1,G.2.ge<|dO h)) (cG z),n z⟩:aN).put M.dst (qd (dO h) (A z))))(aT:M.op=ft {callee:=qr Z,args:=args,argTypes:=aA}:=by rfl)(aJ:val i J.c Z=W (.func (c1 ar) first L):=by rfl)(aG:mz i J.c (a0 args)=W am:=by rfl)(g:iL P i ar xs aD os G A u3 cG)(kN:g7 (aD++k) J.d:=by exact Dv)(kM:∀z,G z->g7 (u3 z++k) (n z):=by exactλ_ _=>Dv)(l:ab (qd<|dO h) xs=first++am++L:=by rfl)(a7:e4 (pa<|lU os) xs:=by rfl)(a3:GS (dO h) os J.az b:=by repeat (first|exact rfl|refine And.intro rfl ?_))(aU:nS (lU os) os:=by rfl)(a1:e4 V.m3 first:=by rfl)(a2:e4 V.m3 L:=by rfl)(y:∀z,n2 ((cG z).map λG=>(dO h G.1,G.2)):=by intro _;rfl)(C:∀z,xD 5000 6000 m (m+1000) (dO h) (cG z):=by intro _;rfl)(D:∀z,pa (lU<|cG z) (A z):=by intro _;rfl)(F:∀z,nS (lU<|cG z) (cG z):=by intro _;rfl)(t:∀z,nS (h9<|rT 6000 (dO h)<|cG z) b:=by intro _;rfl)(aM:kF P ar:=by exact wQ):gg P K p i m ops M J B:=⟨λa_ u aq o H ak aL aF=>by
 let dg:=dO h;let lH:b6:=λR=>o<|dg R;let aK:=hJ u aq aJ o;let aI:=DT (p:=p) (u▸aq) (o:=o) (c:=J.c) (aD:=J.d++aZ o J.az)<|bQ u▸aG;let a9:=Tw (o:=o) l a7 a1 a2;let aX:=ID (o:=o) (lH:=lH) (λS _=>aa) aU;let aY:g7 (aD++aZ lH os++(k++aZ o b)) (J.aB o).d:=by
  rw[aX];let ap:=(a3.perm.map<|c2 o).symm;rw[dc] at ap;show g7 (_++(k++_)) (J.d++_);let N:g7 (aD++aZ o (os.map λG=>(dg G.1,G.2.ge dg))++(k++aZ o b)) (aD++k++(aZ o (os.map λG=>(dg G.1,G.2.ge dg))++aZ o b)):=by rw[eS,eS];apply D2 _;rw[<-eS,<-eS];exact Gr _ vs
  exact N.trans<|List.Perm.append kN ap
 apply cD.call (O:=J.aB o) aL aT aM aK aI aY (by rw[a9];exact bQ u▸g lH);rintro be bb ⟨fq,s,ay,aH,rfl,rfl⟩;let y:=y fq;let C:=C fq;let D:=D fq;let F:=F fq;let t:=t fq;let⟨r,aC,av,aR⟩:=WS aH y C;refine cD.toR (λz E X e=>?_)<|aF r _ aC<|aQ fq ay;let ax:∀S w,cX S (da r<|Ff (h9<|rT 6000 dg<|cG fq) J.c)=W w->∃T,cX S (da o J.c)=W T/\(w=T\/w=.undef):=λS w f=>by
  rw[mU,aau] at f;rw[mU];cases aS:cX S J.c;simp_all
  next T=>rw[aS] at f;simp[lm,g6] at f;exists _,aa;subst f;split;grind[PR];exact bp aa
 let ba:(qd dg<|A fq).aB r=(A fq).aB s:=I1 av D;let aW:n fq++aZ r (b++(cG fq).map λG=>(dg G.1,G.2.ge dg))=n fq++(aZ o b++aZ s (cG fq)):=by simp only[aZ,dc,i_];congr 2;exact hY λv bd=>b7.KG aR (tr t v bd).1 (tr t v bd).2;simpa[aZ] using bQ (ID av F)
 let au:Holds p X (n fq++aZ r (b++(cG fq).map λG=>(dg G.1,G.2.ge dg))) E:=by
  let iO:Holds p X (u3 fq++aZ s (cG fq)++(k++aZ o b)) E:=by have:=e.cO;cases x:M.dst<;>rw[x] at this<;>exact this
  apply iO.perm;rw[aW];let N:g7 (u3 fq++aZ s (cG fq)++(k++aZ o b)) (u3 fq++k++(aZ o b++aZ s (cG fq))):=by rw[eS,eS];apply D2 _;apply List.perm_append_comm.trans;rw[eS]
  exact(N.trans<|Gr _<|kM fq ay).symm
 cases x:M.dst;rw[x] at e;refine⟨au,λS w f=>?_,e.gR,e.size,e.defers⟩;let⟨T,l,U⟩:=ax S w f;let⟨aE,Q,a5⟩:=e.c S T l;rcases U with rfl|rfl;simp_all;exact⟨aE,Q,.undef aE⟩
 next I=>rw[x] at e;refine⟨au,λS w f=>?_,e.gR,e.size,e.defers⟩;let iO:=e.c S;simp[aN.aB,aN.put,bc.put,da,ia,rj] at f iO;cases a4:S==I with|true=>grind|false=>rw[a4] at f iO;let⟨T,l,U⟩:=ax S w f;let⟨aE,Q,a5⟩:=iO T l;rcases U with rfl|rfl;simp_all;exact⟨aE,Q,.undef aE⟩⟩
def bG b{ar:fM}{h:aP}{args:bU aP}{l:bU aw}{first e k xs:Y V}{os cG f:bS}(y:B ((⟨Ff (h9 (rT 6000 (dO b) cG)) J.c,f++ab (λG=>(dO b G.1,G.2.ge<|dO b)) cG,J.d⟩:aN).put M.dst (qd (dO b) A)))(z:M.op=ft {callee:=qr h,args:=args,argTypes:=l}:=by rfl)(x:val i J.c h=W (.func (c1 ar) first e):=by rfl)(w:mz i J.c (a0 args)=W k:=by rfl)(g:mL P i ar xs os A cG)(H:ab (qd<|dO b) xs=first++k++e:=by rfl)(I:e4 (pa<|lU os) xs:=by rfl)(F:GS (dO b) os J.az f:=by repeat (first|exact rfl|refine And.intro rfl ?_))(C:nS (lU os) os:=by rfl)(D:e4 V.m3 first:=by rfl)(E:e4 V.m3 e:=by rfl)(n:n2 (cG.map λG=>(dO b G.1,G.2)):=by rfl)(r:xD 5000 6000 m (m+1000) (dO b) cG:=by rfl)(t:pa (lU cG) A:=by rfl)(u:nS (lU cG) cG:=by rfl)(v:nS (h9<|rT 6000 (dO b) cG) f:=by rfl)(aM:kF P ar:=by exact wQ):gg P K p i m ops M J B:=gG b (o3:=Unit) (λ_=>J.d) (G:=λ_=>dW) (A:=λ_=>A) (aD:=[]) (u3:=λ_=>[]) J.d (cG:=λ_=>cG) (λ_ _=>y) z x w (λo=>(g o).mono λ_ _ ⟨Q,s⟩=>⟨(),Q,b5,s⟩) (gF _) (λ_ _=>gF _) H I F C D E (λ_=>n) (λ_=>r) (λ_=>t) (λ_=>u) (λ_=>v) aM
end
section
variable{P:bn}{p:bJ}
def awF{E:bI}{z:fI}{o:bf}(t:a_ p O z E o){len cap e b c:Z}{k:c6 aP}{i l:aP}{B n:dd}{m h:L}(v:pS p O k 0 e)(u:O.val p i=W (.int B m))(g:m=(b:L))(y:O.val p l=W (.int n h))(w:h=(c:L))(r:e<=b)(s:b<=c)(d:c<=cap):ce P (Instr.sliceBounds ag len cap (k.map (b1 z)) (W (b1 z i)) (W (b1 z l))) E=ct (e,b,c) E:=by
 have f:∀G m B R,O.val p G=W (.int B m)->m=R->b1 z G=cN B R:=by intro G m B R bC g;have d:=t.val bC;generalize b1 z G=aE at d;cases d;rw[g]
 rw[f i m B b u g,f l h n c y w];cases k;simp_all[pS,Instr.sliceBounds,BP]
 next G=>let⟨dQ,A,bC,x⟩:=v;simp[Instr.sliceBounds,f G A dQ e bC x,BP d,BP s,BP r]
def as3{S F:aw}{au ck dP J:Z}{T:aP}{s:c6 aP}{r t:aP}{e:Y V}{b c d:Z}{B ap:dd}{m o:L}(H:cu P S (c_ F) au ck)(x:gx P F J dP)(G:M.op=.slice S T s (W r) (W t))(R:O.val p T=W (.al J e))(A:pS p O s 0 b)(y:O.val p r=W (.int B m))(C:m=(c:L))(X:O.val p t=W (.int ap o))(D:o=(d:L))(v:b<=c)(w:c<=d)(i:d<=U e):di P p M O (.al J (am (c-b) (ay b e))):=.same λz E N k=>by
 have h:=k.val R;generalize I:b1 z T=aE at h;have:U (am (c-b) (ay b e))=c-b:=bi;have run:∀base cap,aE=eY base (U e) cap->U e<=cap->ce P (c5 (b1 z) M) E=ct (og (eY (if d=b then base else base.map (·.add (b*J))) (c-b) (d-b))) E:=by intro base cap K l;simp[c5,G,Instr.sliceAt,I,K,lm,Sem.run_bind,run_underlying H.u,Result.andThen_ok,Instr.slice,awF (P:=P) k (len:=U e) (cap:=cap) A y C X D v w q,x.kw,Sem.run_pure]
 cases h with
 |slnil=>
  have:b=0/\c=0/\d=0:=by simp at i;omega
  obtain⟨rfl,rfl,rfl⟩:=this;refine⟨_,?_,run ai 0 aa<|bv _⟩;simpa using bk.slnil (N:=N) J|zz _ g=>
  have:b=0/\c=0/\d=0:=by simp at i;omega
  obtain⟨rfl,rfl,rfl⟩:=this;refine⟨_,?_,run (W g) 0 aa<|bv _⟩;simpa using bk.zz (N:=N) J g|al _ _ Q base cap val l ax aA aq az=>
  refine⟨_,?_,run _ cap aa l⟩;have:∀f,c-b=0\/f=base+b*J->bk N (.al J (am (c-b) (ay b e))) (eY (W ⟨Q,f,ai⟩) (U (am (c-b) (ay b e))) (d-b)):=by intro f ar;refine .al J _ Q f (d-b) (λak n=>val (b+ak) n) q q ?_ ?_ ?_;grind;grind;grind
  by_cases av:d=b;simp_all;simp[lm,Addr.add_lit];simp_all
end
section
variable{P:bn}{K:cI}{p:bJ}{i:Y (Z×V)}{m:Z}{B:V->Prop}
def MV{S F:aw}{g:cH}{T:aP}{n:c6 aP}{m r:aP}{f:Y V}{u s v:L}{R X:dd}(e:Z){k MN:Z}(D:B (.al g.size (am (k-e) (ay e f))))(H:M.op=.slice S T n (W m) (W r):=by rfl)(I:fC K S (c_ F):=by exact fX)(A:K.find F=W g:=by rfl)(l:val i J.c T=W (.al g.size f):=by rfl)(E:sC i J.c n 0=W u:=by rfl)(C:val i J.c m=W (.int R s):=by rfl)(G:val i J.c r=W (.int X v):=by rfl)(O:u=(e:L):=by first|rfl|omega)(N:s=(k:L):=by first|rfl|omega)(Q:v=(MN:L):=by first|rfl|omega)(x:e<=k:=by omega)(y:k<=MN:=by omega)(z:MN<=U f:=by exact si):er P K p i t M J B:=.of aa (λh b d o aD=>by obtain⟨_,_,w⟩:=I.eD h;exact as3 w (h.find A).au H (hK b d l dZ aa) (vG b d E O λT l=>dZ) (hK b d C dZ aa) N (hK b d G dZ aa) Q x y z) D
end
section
variable{P:bn}{K:cI}{p:bJ}{i:Y (Z×V)}{m:Z}
def aaR(R:Z):Y V->Prop|[]=>dW|T::H=>U T.cells=R/\aaR R H
def H0{R:Z}:∀{H:Y V},aaR R H->∀I∈H,U I.cells=R|w::H,⟨c,d⟩,I,b=>by rcases fH.1 b with rfl|b;exact c;exact H0 d I b
def n0{S F:aw}{d:cH}{R I:Z}{h:bU (Z×aP)}{b:Y V}(Q:B (J.fresh I (.j d.size F b) (.a I 0 R)))(G:M.op=.buildSlice S R h:=by rfl)(u:M.dst=W I:=by rfl)(C:g8 I m:=by rfl)(e:fC K S (c_ F):=by exact fX)(x:K.find F=W d:=by rfl)(t:sb i J.c (a0 h) 0=W b:=by rfl)(D:R=U b:=by rfl)(A:∀I∈b,U I.cells=d.size:=by first|exact Nn rfl|exact H0 (by repeat (first|exact trivial|refine And.intro rfl ?_))|(simp[V.cells,V.const,V.leaf];done))(s:hB (R*d.size) 16777216:=by rfl)(L:0<d.size:=by decide):gg P K p i m ops M J B:=⟨λg l n o H ak y O=>by obtain⟨_,_,k⟩:=e.eD g;have f:=g.find x;have:=ll (show hB _ m=ag from C);refine cD.buildSlice y k f.au f.lG G (Gk l n t) D A (c9 (ll s) a2) L λv=>?_;rw[u];apply cD.toR λz E N r=>a_.fresh (aQ:=e2 o I (v,0)) (λS e=>hd e) (qJ:=.a I 0 R) (w:=.j _ F b) (by simp[V.aB,V.jW,V.e8,V.e0,iT];exact .refl _) (by simp[c2,iT];exact .same _ .nil) r;grind[dk.of,hd]⟩
end
section
variable{P:bn}{K:cI}{p:bJ}{i:Y (Z×V)}{m:Z}{B:V->Prop}
def MT{S jL:aw}{T w:aP}{z Q:L}G v(d:B (.int aj ((G%v:Z):L)))(e:M.op=lI .rem S T w jL:=by rfl)(f:val i J.c T=W (.int aj z):=by rfl)(g:val i J.c w=W (.int aj Q):=by rfl)(b:z=(G:L):=by first|rfl|omega)(aM:Q=(v:L):=by first|rfl|omega)(iO:v≠0:=by omega):er P K p i t M J B:=by subst b aM;exact MS _ d e f g aa q
def Fy{S jL:aw}{T w:aP}{z Q:L}G v(f:B (.int aj ((G/v:Z):L)))(g:M.op=lI .quo S T w jL:=by rfl)(h:val i J.c T=W (.int aj z):=by rfl)(k:val i J.c w=W (.int aj Q):=by rfl)(e:z=(G:L):=by first|rfl|omega)(aM:Q=(v:L):=by first|rfl|omega)(iO:v≠0:=by omega)(bC:G<9223372036854775808:=by omega):er P K p i t M J B:=by
 subst e aM;have b:G/v<=G:=Gx _ _;have d:oD aj (G/v:Z):=by generalize G/v=n at b;exact xr q q
 exact Ij _ f g h k aa q d
end
def yW{P:bn}{p:bJ}{m:Z}{f:b6}{e:Y hn}{b:V->bV->Prop}{d:cS}{J:aN}I R{au:Z}{F:aw}{aC:Y V}(k:U aC=R)(s:ic P p m f e b d (J.h6 I au aC))(g:ci J.az I=W (.j au F aC):=by rfl)(i:uS I R J.c:=by repeat (first|exact trivial|refine And.intro ?_ ?_|exact rfl))(h:sJ I R J.az:=by repeat (first|exact trivial|refine And.intro ?_ ?_|exact rfl)):ic P p m f e b d J:=by grind[gq]
def Dr{P:bn}{K:cI}{p:bJ}{i:Y (Z×V)}{m:Z}{ops:bU a7}{M:a7}{J:aN}{B:aN->Prop}I R{au:Z}{F:aw}{aC:Y V}(g:U aC=R)(s:gg P K p i m ops M (J.h6 I au aC) B)(e:mR (a0 ops) (J.h6 I au aC).c M=W ag:=by rfl)(b:ci J.az I=W (.j au F aC):=by rfl)(f:uS I R J.c:=by repeat (first|exact trivial|refine And.intro ?_ ?_|exact rfl))(d:sJ I R J.az:=by repeat (first|exact trivial|refine And.intro ?_ ?_|exact rfl)):gg P K p i m ops M J B:=by grind[xL]
def a1.AZ{P:bn}{p:bJ}{m:Z}{n:gw}{J:aN}{ak:cS->aN->Prop}I R{au:Z}{F:aw}{aC:Y V}(f:U aC=R)(s:a1 P p m n (J.h6 I au aC) ak)(b:ci J.az I=W (.j au F aC):=by rfl)(e:uS I R J.c:=by repeat (first|exact trivial|refine And.intro ?_ ?_|exact rfl))(d:sJ I R J.az:=by repeat (first|exact trivial|refine And.intro ?_ ?_|exact rfl)):a1 P p m n J ak:=by grind[a1.h6]
def axW:V->Y Z|.dC S _ _=>[S]|.a S _ _=>[S]|.eA S=>[S]|.oG S=>[S]|.lc S _ _=>[S]|_=>[]
def aiE(S:Z)(H:Y Z):Y Z:=match iw S H with|ag=>H|ae=>S::H
def Wc:Y Z->Y Z->Y Z|[],H=>H|S::A,H=>aiE S<|Wc A H
def SY(i:Y (Z×V))(b:Y (Z×V)):Y aP->Y Z|[]=>[]|T::A=>match val i b T with|W I=>Wc (axW I) (SY i b A)|ai=>SY i b A
def anK:Op->X|.move _|.assign _|.pick .. |.extract .. |.unOp .. |lI .. |.build .. |.makeFunc .. |.field .. |.buildSlice .. =>ag|.convert .. =>ae|_=>ae
def ab9(i:Y (Z×V))(b:Y (Z×V))(M:Op):Y Z:=match anK M with|ag=>[]|ae=>SY i b<|a0<|j0 M
def qa:bS->Z->Z->c6 Z|[],_,_=>ai|(B,_)::A,S,b=>match ef S B with|ag=>W b|ae=>qa A S<|b+1
def BF(b:bS):Y Z->Y Z|[]=>[]|S::A=>match qa b S 0 with|W G=>G::BF b A|ai=>BF b A
def sK:bS->Z->c6 (Z×b7)|[],_=>ai|v::_,0=>W v|_::A,R+1=>sK A R
theorem Zm:∀H R,sK H R=H[R]?|[],R=>ba|v::A,0=>ba|v::A,R+1=>by rw[sK,Zm A R];simp
def lz(b:bS):Y Z->c6 bS
|[]=>W []|G::A=>match sK b G with
 |W v=>match lz b A with|W H=>W (v::H)|ai=>ai
 |ai=>ai
def s3:bS->Z->Z×b7->bS|[],_,_=>[]|_::A,0,v=>v::A|T::A,R+1,v=>T::s3 A R v
theorem I6:∀H R v,s3 H R v=aR H R v|[],R,v=>ba|T::A,0,v=>ba|T::A,R+1,v=>by rw[s3,I6 A R v];simp
def oa:bS->Y (Z×Z×b7)->bS|az,[]=>az|az,(G,v)::A=>oa (s3 az G v) A
def qZ:Y Z->X|[]=>ag|T::H=>match iw T H with|ag=>ae|ae=>qZ H
theorem M8:∀{H:Y Z},qZ H->dT H|[],_=>ao|T::H,s=>by rw[qZ] at s;split at s;cases s;rw[zZ];exact⟨λb=>by grind[qU],M8 s⟩
def xm{b:bS}:∀{a_:Y Z}{rd:bS},lz b a_=W rd->U a_=U rd/\∀(c G:Z) v,a_[c]?=W G->rd[c]?=W v->b[G]?=W v|[],rd,s=>by grind[lz]|G::a_,rd,s=>by unfold lz at s;split at s;split at s;rename_i H d;simp at s;cases xm d;grind[Zm];simp_all;simp_all
def ry(G:Z->X):Y (Z×V)->X|[]=>ag|(_,T)::A=>match pa G T with|ag=>ry G A|ae=>ae
def PQ{G:Z->X}{o aQ:b6}(s:∀S,G S->aQ S=o S):∀{H:Y (Z×V)},ry G H->da aQ H=da o H|[],_=>aa|(B,T)::A,b=>by rw[ry] at b;split at b;rename_i c;show(B,T.aB aQ)::da aQ A=(B,T.aB o)::da o A;rw[PR s c,PQ s b];simp_all
def rz(G:Z->X)(skip:Y Z):bS->Z->X|[],_=>ag|(B,v)::A,b=>match iw b skip with|ag=>rz G skip A (b+1)|ae=>match G B,v.pP G with|ag,ag=>rz G skip A (b+1)|_,_=>ae
def PS{G:Z->X}{skip:Y Z}:∀{H:bS}{c:Z},rz G skip H c->∀b v,H[b]?=W v->c+b∉skip->G v.1/\v.2.pP G
|[],_,_,b,v,s,_=>aK|(B,T)::A,c,s,b,v,e,f=>by
 rw[rz] at s;cases b;grind[cg,qU]
 next b=>
  let d:=by split at s;exact s;grind
  exact PS d b v aq aK
section
variable(P:bn)(K:cI)(p:bJ)(i:Y (Z×V))(m:Z)
inductive mM(ops:bU a7)(M:a7)(J:aN)(Rd:Y Z)(B:ep->aN->Prop):Prop
|mk (Ao:Y Z) (iD:Y (Z×Z×b7)) (A:V) (rd wr:bS) (wb:Y Z)
 (aox:qZ (Ao++ab (·.1) iD)) (fi:lz J.az Ao=W rd) (hw:lz J.az (ab (·.1) iD)=W wr)
 (bl:wb=[]\/ry (h9 wb) J.c) (mo:wb=[]\/rz (h9 wb) (ab (·.1) iD) J.az 0)
 (run:gy P K->p.G=i->eh i->∀o,∃aQ,dk m o aQ/\(∀S,h9 wb S->aQ S=o S)/\(∀(D:Z)(v:Z×b7)(IL:Z×Z×b7),wr[D]?=W v->iD[D]?=W IL->(aQ IL.2.1).1=(o v.1).1)/\∀aD,eH P p M ⟨dt M (da o J.c),aD++(aZ o rd++aZ o wr)⟩ (A.aB aQ) (aD++(aZ o rd++aZ aQ (ab (·.2) iD))))
 (hk:B (Ao,ab (·.1) iD) ({J with az:=oa J.az iD}.put M.dst A)):mM ops M J Rd B
def aa3:Y (Z×X)->Z->c6 X|[],_=>ai|(b,Q)::A,S=>match ef S b with|ag=>W Q|ae=>aa3 A S
def NU(b c:Z):Y (Z×V)->Y (Z×V)|[]=>[]|(S,T)::A=>(S,qd (dO [(b,c)]) T)::NU b c A
def NT(b c:Z):bS->bS|[]=>[]|(S,v)::A=>(dO [(b,c)] S,v.ge<|dO [(b,c)])::NT b c A
def aN.TU(e b:Z)(J:aN):aN:=⟨NU e b<|Bh b J.c,NT e b<|r3 b J.az,J.d⟩
def aN.zu:Y (Z×Z)->aN->aN|[],J=>J|(b,c)::A,J=>aN.zu A<|J.TU b c
def Me(m d:Z)(c n:bS)(e b:Z):X:=match g8 b m with|ag=>ag|ae=>match g8 b d,qa c b 0,qa n e 0 with|ag,W G,W f=>ef G f|_,_,_=>ae
def zt(m e:Z)(d n:bS):Y (Z×Z)->aN->X|[],_=>ag|(f,b)::A,J=>match Me m e d n f b,iw b (ab (·.1) A),ry (h9 [b]) (Bh b J.c),nS (h9 [b]) (r3 b J.az) with|ag,ae,ag,ag=>zt m e d n A (J.TU f b)|_,_,_,_=>ae
inductive Ad(m:Z)(cV:Y a7)(bz:Y ep)(I5 J:aN)(ak:aN->Prop):Prop|mk (aeG:Y (Z×Z)) (m6:Z):tN cV bz->zt m m6 I5.az J.az aeG J->m6=m+1000->ak (J.zu aeG)->Ad m cV bz I5 J ak
inductive Py(Q:X)(o3 dq:Prop):Prop|mk:(Q=ag->o3)->(Q=ae->dq)->Py Q o3 dq
def KO:X->X->X|ag,ag=>ag|ae,ae=>ag|_,_=>ae
theorem WP{z Q:X}:KO z Q↔z=Q:=by cases z<;>cases Q<;>simp[KO]
def Hy:Y Z->(Y Z->Prop)->Prop|[],B=>B []|T::A,B=>Hy A λb=>B<|T::b
theorem Q6:∀H B,Hy H B↔B H|[],B=>nJ|T::A,B=>by rw[Hy,Q6 A]
def ql(cV:Y a7):Z->Y a7->Y (Z×X)->Y ep->aN->(Y ep->aN->Prop)->Prop
|0,_,_,_,_,_=>hP|_+1,[],_,acc,J,B=>B acc J|R+1,M::H,d,acc,J,B=>match M.guard with
 |ai=>Hy (BF J.az<|ab9 i J.c M.op) (λb=>match lz J.az b with|ai=>hP|W rd=>match qZ b with|ae=>hP|ag=>match ug K i J.c rd M with|W A=>LN (PO K M.op) A (λA=>ql cV R H d (acc++[(b,[])]) (J.put M.dst A) B)|ai=>mM P K p i m (aO cV) M J b λew f=>ql cV R H d (acc++[ew]) f B)|W (e,E)=>match xK cV e with
  |ai=>hP|W h=>match h.dst with
   |ai=>hP|W I=>match gr J.c I with
    |W (.tuple [])=>ql cV R H d (acc++[([],[])]) (J.put M.dst<|.tuple []) B|W (.bool Q)=>match aa3 d e with|ai=>Py Q (ql cV R (M::H) ((e,ag)::d) acc {J with c:=(I,.bool ag)::J.c} B) (ql cV R (M::H) ((e,ae)::d) acc {J with c:=(I,.bool ae)::J.c} B)|W g=>match KO g Q with|ae=>hP|ag=>match KO Q E with|ae=>ql cV R H d (acc++[([],[])]) (J.put M.dst<|.tuple []) B|ag=>Hy (BF J.az<|ab9 i J.c M.op) (λb=>match lz J.az b with|ai=>hP|W rd=>match qZ b with|ae=>hP|ag=>match ug K i J.c rd M with|W A=>LN (PO K M.op) A (λA=>ql cV R H d (acc++[(b,[])]) (J.put M.dst A) B)|ai=>mM P K p i m (aO cV) M J b λew f=>ql cV R H d (acc++[ew]) f B)
    |_=>hP
end
section
variable{P:bn}{K:cI}{p:bJ}{i:Y (Z×V)}{m R:Z}
def aN.fL(o:b6)(J:aN):bc:=⟨da o J.c,aZ o J.az++J.d⟩
def aN.FV o(J:aN)S T:(J.put S T).fL o=(J.fL o).put S (T.aB o):=by cases S<;>rfl
theorem K1{o:b6}{b:bS}{G:Z}{v:Z×b7}{aD:bV}:b[G]?=W v->(aZ o b++aD)[G]?=W (c2 o v):=by grind[aZ]
theorem afi:∀b az,U (oa az b)=U az|[],_=>aa|(G,v)::A,az=>by rw[oa,afi A,I6];simp
theorem N9{B:Z}:∀{b:Y (Z×Z×b7)}{az:bS},B∉ab (·.1) b->(oa az b)[B]?=az[B]?|[],_,_=>aa|(G,v)::A,az,s=>by rw[oa,N9 λc=>s aq,I6,qo,ad λF=>s (by simp[F])]
theorem Ue{B:Z}{T:Z×b7}:∀{b:Y (Z×Z×b7)}{az:bS},dT (ab (·.1) b)->(B,T)∈b->B<U az->(oa az b)[B]?=W T|[],_,_,s,_=>aK|(G,v)::A,az,c,s,d=>by simp at c;rw[oa];rcases fH.1 s with s|s;grind[N9,I6];exact Ue c.2 s (by grind[I6])
def agH{B:Z}{T:Z×cB}:∀{b:sw}{aD:bV},dT (ab (·.1) b)->(B,T)∈b->B<U aD->(gC aD b)[B]?=W T|[],_,_,s,_=>aK|v::A,aD,c,s,d=>by simp at c;rw[gC];rcases fH.1 s with s|s;grind[DS];exact agH c.2 s aq
def afj{o aQ:b6}{b:Y (Z×Z×b7)}{az:bS}{aD:bV}{e:Y Z}(l:dT (ab (·.1) b))(k:∀G∈ab (·.1) b,G<U az)(fj:∀S,h9 e S->aQ S=o S)(d:e=[]\/rz (h9 e) (ab (·.1) b) az 0):gC (aZ o az++aD) (b.map λv=>(v.1,c2 aQ v.2))=aZ aQ (oa az b)++aD:=by refine jn λB=>?_;by_cases f:B∈ab (·.1) b;obtain⟨v,bd,rfl⟩:=dI.1 f;rw[agH aK (dI.2 ⟨v,bd,aa⟩) Kg];grind[K1,Ue];rw[DS aq];rcases hN B (U az) with h|i;let c:=cT h;let g:=N9 (az:=az) f;rw[K1 c,K1<|b0 g c];rcases d with rfl|d;have:=funext λS=>fj S aa;grind;cases PS d B _ c aq;grind[b7.KG];grind[List.getElem?_append_right,aZ,afi]
def lA(o:b6)(n:bS):Y Z:=n.map λv=>(o v.1).1
def zP{b_ o c d:Type}{xs:Y b_}{aC:Y o}{ar:b_×o->d}{b:d->c}(B:b_->c)(s:U xs<=U aC:=by omega)(e:∀v,b (ar v)=B v.1:=by intro _;rfl):ab b (ab ar<|xs.zip aC)=ab B xs:=by rw[i_,show b∘ar=B∘Prod.fst from funext e,<-i_,List.map_fst_zip s]
def JO{b_ o c d:Type}{xs:Y b_}{aC:Y o}{ar:b_×o->d}{b:d->c}(B:o->c)(s:U aC<=U xs:=by omega)(e:∀v,b (ar v)=B v.2:=by intro _;rfl):ab b (ab ar<|xs.zip aC)=ab B aC:=by rw[i_,show b∘ar=B∘Prod.snd from funext e,<-i_,List.map_snd_zip s]
def UV{b_ o:Type}{xs:Y b_}{aC:Y o}{T:b_×o}(s:T∈xs.zip aC):∃b:Z,xs[b]?=W T.1/\aC[b]?=W T.2:=by let⟨b,k⟩:=rl.1 s;rw[List.getElem?_zip_eq_some] at k;exact⟨b,k⟩
def G7{g:Type}{n:bS}{o:b6}{e aD:bV}{c:Y g}{ar:g->Z}{b:Y Z}{f:bS}(l:lz n b=W f)(i:ab ar c=b)(k:∀G∈b,e[G]?=(aZ o n++aD)[G]?):∀T∈c.zip f,e[ar T.1]?=W (c2 o T.2):=λT m=>by subst i;let⟨p,d,h⟩:=UV m;rw[k _<|dI.2 ⟨_,dY d,aa⟩];exact K1<|(xm l).2 p _ _ (by rw[db,d];rfl) h
def Zu{n:bS}{d:Y Z}{c:bS}(g:lz n d=W c):∀G∈d,G<U n:=λG bC=>by
 let⟨h,e⟩:=xm g;let⟨b,k⟩:=rl.1 bC;let f:b<U c:=by have:=(eX.1 k).1;omega
 exact(eX.1<|e b G c[b] k<|cT f).1
def ZU{n:bS}{b:Y (Z×Z×b7)}{d:bS}{g:Y Z}{o aQ:b6}(u:lz n (ab (·.1) b)=W d)(t:dT (ab (·.1) b))(fj:∀S,h9 g S->aQ S=o S)(x:∀(c:Z)(v:Z×b7)(h:Z×Z×b7),d[c]?=W v->b[c]?=W h->(aQ h.2.1).1=(o v.1).1)(e:g=[]\/rz (h9 g) (ab (·.1) b) n 0):lA aQ (oa n b)=lA o n:=by
 let⟨s,l⟩:=xm u;simp[bm] at s;refine jn λc=>?_;rw[lA,lA,db,db];by_cases k:c∈ab (·.1) b;obtain⟨v,bd,rfl⟩:=dI.1 k;let⟨f,m⟩:=rl.1 bd;let p:f<U d:=by have:=(eX.1 m).1;omega
 let i:=l f v.1 d[f] aK<|cT p;let w:(oa n b)[v.1]?=W v.2:=Ue t bd (eX.1 i).1;grind;rw[N9 k];cases r:n[c]?;rfl
 next T=>simp[lm,g6];rcases e with rfl|e;rw[fj T.1 aa];rw[fj T.1 (PS e c T r aK).1]
def mM.ok(N:gy P K)(I:p.G=i)(L:eh i){ops:bU a7}{M:a7}{J:aN}{Rd:Y Z}{B:ep->aN->Prop}(s:mM P K p i m ops M J Rd B)o:∃(ew:ep)(k:sw)(A:V)(aQ:b6)(h:aN),dk m o aQ/\B ew h/\lA aQ h.az=lA o J.az/\(∀v∈k,v.1∈ew.2)/\(∀d,U d=(J.fL o).d.length->(∀B,B∈ew.1\/B∈ew.2->d[B]?=(J.fL o).d[B]?)->eH P p M ⟨dt M (J.fL o).c,d⟩ A (gC d k))/\({J.fL o with d:=gC (J.fL o).d k}).put M.dst A=h.fL aQ:=by let⟨l,b,A,rd,w,aC,ak,u,f,g,r,run,Q⟩:=s;let⟨aQ,H,fj,hid,am⟩:=run N I L o;let X:=M8 ak;let⟨ay,aw⟩:=xm u;let⟨R,ax⟩:=xm f;simp[bm] at R;let t:=(vr.1 X).2.1;let O:lA aQ (({J with az:=oa J.az b}).put M.dst A).az=lA o J.az:=b0 (ea _ (by cases M.dst<;>rfl))<|ZU f t fj hid r;refine⟨_,b.map λv=>(v.1,c2 aQ v.2),A.aB aQ,aQ,_,H,Q,O,?_,λd aA n=>?_,?_⟩;grind;let ma:sw:=(l.zip rd).map λv=>(v.1,c2 o v.2);let e:Y (Z×(Z×cB)×Z×cB):=(b.zip w).map λv=>(v.1.1,c2 o v.2,c2 aQ v.1.2);let au:ab (·.1) ma=l:=b0 (zP id)<|uo _;let y:ab (·.2) ma=aZ o rd:=JO<|c2 o;let av:ab (·.1) e=ab (·.1) b:=zP λv:Z×Z×b7=>v.1;let z:ab (·.2.1) e=aZ o w:=JO<|c2 o;let C:ab (·.2.2) e=aZ aQ (ab (·.2) b):=b0 (zP (c2 aQ∘λv:Z×Z×b7=>v.2))<|bQ i_;let D:ab (λv=>(v.1,v.2.2)) e=b.map λv=>(v.1,c2 aQ v.2):=zP λv:Z×Z×b7=>(v.1,c2 aQ v.2);rw[<-D];exact eH.x ma e aK (D4.2<|G7 u (uo _) λG bC=>n G<|bj bC) (D4.2<|G7 f aa λG bC=>n G<|bp bC) (D4.2 λT ap=>let⟨aq,E,F⟩:=UV ap;hid aq T.2 T.1 F E) (λar=>by rw[y,z,C];exact am ar);rw[aN.FV];show(⟨da o J.c,gC (aZ o J.az++J.d) _⟩:bc).put M.dst (A.aB aQ)=(⟨da aQ J.c,aZ aQ (oa J.az b)++J.d⟩:bc).put M.dst (A.aB aQ);rw[afj t (Zu f) fj r];rcases g with rfl|g;have:aQ=o:=funext λS=>fj S aa;rw[this];rw[PQ fj g]
def ax4(l:gy P K)(f:p.G=i)(k:eh i){M:a7}{J:aN}{b:Y Z}{e:bS}{A:V}(g:lz J.az b=W e)(u:qZ b)(s:ug K i J.c e M=W A)o:∀d,U d=(J.fL o).d.length->(∀B,B∈b\/B∈[]->d[B]?=(J.fL o).d[B]?)->eH P p M ⟨dt M (J.fL o).c,d⟩ (A.aB o) (gC d []):=by intro d _ m;let⟨t,r⟩:=xm g;let ma:=(b.zip e).map λv=>(v.1,c2 o v.2);let n:ab (·.1) ma=b:=b0 (zP id)<|uo _;let h:ab (·.2) ma=aZ o e:=JO<|c2 o;refine eH.x ma [] (by grind[M8]) (D4.2<|G7 g (uo _) λG bC=>m G<|bj bC) ao ao λw=>?_;simp[h,rk,gv];exact agu l (f▸k)<|bQ f▸s
def L5{cV:Y a7}{J:aN}{M:a7}{Q:X}o(s:mR cV J.c M=W Q):(J.fL o).guard (aO cV) M=W Q:=by have:=uT o s;exact this
def Zw{cV:Y a7}{J:aN}{M:a7}o(s:M.guard=ai):(J.fL o).guard (aO cV) M=W ag:=L5 o (by grind[mR])
def UP(aR:gy P K)(aL:p.G=i)(aP:eh i){cV:Y a7}:∀R H(n:Y (Z×X)) acc J B,ql P K p i m cV R H n acc J B->∀o(e:Y ep->bc->Prop),(∀aQ bz r,dk m o aQ->B bz r->lA aQ r.az=lA o J.az->∀O,(∀S T,(r.fL aQ).c.lookup S=W T->cX S O.c=W T)->O.d=(r.fL aQ).d->e bz O)->∀b,(∀S T,(J.fL o).c.lookup S=W T->cX S b.c=W T)->b.d=(J.fL o).d->∃bz,ds P p (aO cV) H bz b (·=fY/\e (acc++bz) ·):=by
 intro R
 induction R
 intro H n acc J B s;exact s.elim
 next R aw=>
  intro H n acc J B s o e x b t k;cases H;exact⟨[],ds.nil ⟨aa,by rw[gv];exact x o acc J (dk.refl m o) s aa b t k⟩⟩
  next M H=>
   have bd:∀S T,cX S (dt M (J.fL o).c)=W T->cX S (dt M b.c)=W T:=λS T l=>by let⟨w,L⟩:=IZ l;have:=t S T L;have h:iC (J.fL o) b:=⟨t,bQ k⟩;exact h.dt M S T l
   have aS:∀Q,(J.fL o).guard (aO cV) M=W Q->b.guard (aO cV) M=W Q:=λQ aM=>iC.guard (g1:=J.fL o) (O:=b) ⟨t,bQ k⟩ aM;have aK:∀{ew:ep}{cc:sw}{A:V}{aB:bc},(J.fL o).guard (aO cV) M=W ag->(∀v∈cc,v.1∈ew.2)->(∀d,U d=(J.fL o).d.length->(∀B,B∈ew.1\/B∈ew.2->d[B]?=(J.fL o).d[B]?)->eH P p M ⟨dt M (J.fL o).c,d⟩ A (gC d cc))->({J.fL o with d:=gC (J.fL o).d cc}).put M.dst A=aB->(∀u,(∀S T,cX S aB.c=W T->cX S u.c=W T)->u.d=aB.d->∃bz,ds P p (aO cV) H bz u (·=fY/\e (acc++ew::bz) ·))->∃bz,ds P p (aO cV) (M::H) bz b (·=fY/\e (acc++bz) ·):=by intro ew cc A aB f aI aE aT h;let⟨bz,ar⟩:=h (({b with d:=gC b.d cc}).put M.dst A) (by rw[<-aT];have aJ:iC ⟨(J.fL o).c,gC (J.fL o).d cc⟩ ⟨b.c,gC b.d cc⟩:=⟨t,by rw[k]⟩;exact(aJ.put M.dst A).c) (by rw[<-aT];cases M.dst<;>(show gC _ _=gC _ _;rw[k]));refine⟨ew::bz,ds.mn cc (aS _ f) aI (λd bg bf=>?_) ar⟩;have w:=aE d aq λB h=>aq;intro z E a0 am a1 a2 a4;exact w z E a0 ⟨am.cO,λS T l=>am.c S T<|bd S T l,am.gR,am.size,am.defers⟩ a1 a2 a4
   have aY:∀{A:V},(J.fL o).guard (aO cV) M=W ag->∀{D:Y Z}{rd:bS},lz J.az D=W rd->qZ D->ug K i J.c rd M=W A->∀g,ql P K p i m cV R H g (acc++[(D,[])]) (J.put M.dst A) B->∃bz,ds P p (aO cV) (M::H) bz b (·=fY/\e (acc++bz) ·):=by intro A f D rd av bb aH g h;refine aK (ew:=(D,[])) (cc:=[]) f ao (ax4 aR aL aP av bb aH o) aa λu w L=>?_;let⟨bz,ar⟩:=aw H g _ (J.put M.dst A) B h o e (λay bz ax ap N ak=>x ay bz ax ap N<|b0 ak (by cases M.dst<;>rfl)) u (by rw[aN.FV];exact w) (by rw[L,aN.FV];rfl);exact⟨bz,aq⟩
   have aW:(J.fL o).guard (aO cV) M=W ag->∀Rd g,mM P K p i m (aO cV) M J Rd (λew r=>ql P K p i m cV R H g (acc++[ew]) r B)->∃bz,ds P p (aO cV) (M::H) bz b (·=fY/\e (acc++bz) ·):=by intro f Rd g h;let⟨ew,cc,A,aQ,r,a3,ba,a_,aI,aE,be⟩:=h.ok aR aL aP o;refine aK f aI aE be λu w L=>?_;let⟨bz,ar⟩:=aw H g _ r B ba aQ e (λay bz ax ap N ak=>x ay bz ax (a3.trans ap) N<|b0 ak a_) u w L;exact⟨bz,by simpa using ar⟩
   have aX:(J.fL o).guard (aO cV) M=W ae->∀g,ql P K p i m cV R H g (acc++[([],[])]) (J.put M.dst (.tuple [])) B->∃bz,ds P p (aO cV) (M::H) bz b (·=fY/\e (acc++bz) ·):=by intro f g h;let⟨bz,ar⟩:=aw H g _ _ B h o e (λay bz ax ap N ak=>x ay bz ax ap N<|b0 ak (by cases M.dst<;>rfl)) (b.put M.dst<|.tuple []) (by rw[aN.FV];have aJ:iC (J.fL o) b:=⟨t,bQ k⟩;exact(aJ.put M.dst<|.tuple []).c) (by rw[aN.FV];cases M.dst<;>exact k);exact⟨([],[])::bz,ds.skip (aS _ f) aq⟩
   unfold ql at s;split at s;rename_i au;have f:=Zw (cV:=cV) (J:=J) o au;rw[Q6] at s;split at s;exact s.elim;rename_i rd aG;split at s;grind;rename_i aD;split at s;rename_i A av;rw[Hz] at s;exact aY f aG aD av n s;exact aW f _ n s;rename_i bh E au;split at s;exact s.elim;rename_i bi aF;split at s;exact s.elim;rename_i I aC;split at s;rename_i C;exact aX (L5 o (by unfold mR;rw[au];simp[aF,aC,C])) n s;rename_i Q C;split at s;cases s
   next aH a9=>
    have aU:∀aA,Q=aA->∀S T,(({J with c:=(I,.bool aA)::J.c}).fL o).c.lookup S=W T->cX S b.c=W T:=by
     intro aA a5 S T l;apply t S T;simp[aN.fL,da,ia,rj] at l⊢;split at l;rename_i he;have:S=I:=by simpa using he
     subst this;rw[sQ] at C;have:=mU o J.c S;rw[C] at this;simp[da] at this;rw[this,a5];exact l;exact l
    cases aM:Q with|true=>exact aw (M::H) _ acc _ B (aH aM) o e x b (aU ag aM) k|false=>exact aw (M::H) _ acc _ B (a9 aM) o e x b (aU ae aM) k
   split at s;exact s.elim;split at s;rename_i y;have:Q≠E:=λF=>by rw[WP.2 F] at y;cases y
   refine aX (L5 o ?_) n s;unfold mR;rw[au];simp[aF,aC,C];cases Q<;>cases E<;>first|rfl|exact cg aa this
   rename_i y;have y:=WP.1 y;have f:(J.fL o).guard (aO cV) M=W ag:=L5 o (by unfold mR;rw[au];simp[aF,aC,C];subst y;cases Q<;>rfl);rw[Q6] at s;split at s;exact s.elim;rename_i rd aG;split at s;exact s.elim;rename_i aD;split at s;rename_i A av;rw[Hz] at s;exact aY f aG aD av n s;exact aW f _ n s;exact s.elim
def aev{o c:b6}{e b:Z}(s:∀S,h9 [b] S->c (dO [(e,b)] S)=o S):∀{H:Y (Z×V)},ry (h9 [b]) H->da c (NU e b H)=da o H|[],_=>aa|(B,T)::A,d=>by rw[ry] at d;split at d;rename_i f;show(B,(qd _ T).aB c)::da c _=(B,T.aB o)::da o A;rw[I1 s f,aev s d];simp_all
def aeu{o c:b6}{e b:Z}(s:∀S,h9 [b] S->c (dO [(e,b)] S)=o S):∀{H:bS},nS (h9 [b]) H->aZ c (NT e b H)=aZ o H|[],_=>aa|(B,v)::A,d=>by rw[nS] at d;split at d;rename_i f g;show c2 c _::aZ c _=c2 o _::aZ o A;rw[b7.N0 s f g,aeu s d];simp_all
def TF:∀{H:bS}{S b G:Z},qa H S b=W G->b<=G/\∃v,H[G-b]?=W v/\v.1=S|[],_,_,_,s=>by grind[qa]|(B,T)::A,S,b,G,s=>by rw[qa] at s;split at s;simp_all;cases TF s;grind
theorem aoI{t:Z}{d n:bS}{g c:Z}{o aQ:b6}(s:Me m t d n g c)(k:dk m o aQ)(l:lA aQ n=lA o d):m<=c->(aQ g).1=(aQ c).1:=by intro hm;unfold Me at s;split at s;grind[EB];split at s;rename_i G u _ h i;have bC:=nE s;subst bC;let⟨_,T,e,p⟩:=TF h;let⟨_,w,f,r⟩:=TF i;have b:=ea (·[G]?) l;simp[lA,db] at b;rw[J8] at e f;rw[e,f] at b;simp at b;rw[p,r] at b;rw[b,k.id c hm];simp_all
def aew{f:Z}{b n:bS}{o aQ:b6}(d:dk m o aQ)(e:lA aQ n=lA o b):∀{c:Y (Z×Z)}{J:aN},zt m f b n c J->∀v∈c,m<=v.2->(aQ v.1).1=(aQ v.2).1|[],_,_,v,bd=>aq|(g,h)::A,J,s,v,bd=>by rw[zt] at s;split at s;rcases fH.1 bd with bd|bd;grind[aoI];exact aew d e s v bd;simp_all
def a_.zu{B:Z}(H:B=m+1000){C n:bS}:∀l{J:aN}{o:b6}{z:fI}{E:bI}{f:bf},(∀v∈l,m<=v.2->(o v.1).1=(o v.2).1)->zt m B C n l J->a_ p (J.aB o) z E f->∃e,dk m o e/\a_ p ((J.zu l).aB e) z E f
|[],J,o,z,E,f,_,_,s=>⟨o,dk.refl m o,s⟩|(g,b)::A,J,o,z,E,f,hid,k,s=>by
 rw[zt] at k;split at k;rename_i h r D G;let⟨P,N,O⟩:=NX (o:=o) (aQ:=o) (I:=b) (λ_ _=>aa) J.az;let w:a_ p ⟨da o<|Bh b J.c,J.d++aZ o (r3 b J.az)⟩ z E f:=by let t:a_ p ⟨da o J.c,J.d++P⟩ z E f:=⟨s.cO.drop<|yf (yg _) N,s.c,s.gR,s.size,s.defers⟩;exact t.rD (bf.le.refl f) t.cO hC.gU hC.one (H5 (λ_ _=>aa) J.c)<|cY.rA O<|cY.refl J.d
 let e:=e2 o b<|o g;let fj:∀S,h9 [b] S->e (dO [(g,b)] S)=o S:=by
  intro S y;simp[dO];split;grind[Nat.eq_of_beq_eq_true,e2];let x:S≠b:=λF=>by simp_all[h9,iw]
  grind[e2]
 let F:⟨da o<|Bh b J.c,J.d++aZ o (r3 b J.az)⟩=(J.TU g b).aB e:=by show _=(⟨da e (NU g b (Bh b J.c)),J.d++aZ e (NT g b (r3 b J.az))⟩:bc);rw[aev fj D,aeu fj G]
 rw[F] at w;let u:dk m o e:=by refine⟨λS y=>?_,λS y=>?_⟩;by_cases M:S=b;subst M;show(e2 o S (o g) S).1=_;simp_all[iT];grind[e2,hd];refine hd λrfl=>?_;unfold Me at h;split at h;rename_i i;have:=EB.1 i;omega;split at h;rename_i i _ _;have:=EB.1 i;omega;cases h
 let L:∀v∈A,m<=v.2->(e v.1).1=(e v.2).1:=by
  intro v bd hm;let x:v.1≠b:=λF=>by have:b∈ab (·.1) A:=dI.2 ⟨v,bd,F⟩;rw[qU.2 this] at r;cases r
  show(e2 o b (o g) v.1).1=_;rw[hd x,u.id v.2 hm];exact hid v (by simp[bd]) hm
 let⟨Q,K,R⟩:=a_.zu H A L k w;exists Q,u.trans K;simp_all
def vw(m:Z)(o:b6)(J:aN)(ak:cS->aN->Prop)(O:bc):Prop:=∃aQ b f e,dk m o aQ/\e=m+1000/\lA aQ b.az=lA o J.az/\zt m e J.az b.az f b/\ak fY (b.zu f)/\(∀S T,(b.fL aQ).c.lookup S=W T->cX S O.c=W T)/\O.d=(b.fL aQ).d
def vw.fin{n:gw}{o:b6}{J:aN}{ak:cS->aN->Prop}{f:cS->bc->Prop}(w:e3 P p n (J.fL o) (·=fY/\vw m o J ak ·))(r:∀aQ F e,dk m o aQ->ak F e->f F (e.aB aQ)):e3 P p n (J.aB o) f:=by intro z E k d;refine Code.wp_mono ?_<|w z E k ⟨d.cO.perm vs,d.c,d.gR,d.size,d.defers⟩;rintro F B H ⟨G,i,⟨rfl,aQ,e,y,D,g,l,u,h,bd,x,v⟩,s⟩;let b:=s.zI x;rw[v] at b;let⟨A,t,C⟩:=a_.zu l y (aew g u h) h ⟨b.cO.perm vs,b.c,b.gR,b.size,b.defers⟩;exists _,i,r A _ _ (g.trans t) bd
def a1.amm(l:P.follows qs)(g:gy P K)(d:p.G=i)(e:eh i)(z:p.n=R){id:Z}{ops:bU a7}{J:aN}{ak:cS->aN->Prop}(w:tz R (a0 ops))(k:sP (a0 ops))(s:ql P K p i m (a0 ops) 4000 (a0 ops) [] [] J (Ad m (a0 ops) · J · (ak fY))):a1 P p m (sl id ops ag) J ak:=⟨λo t f=>by
 let F:ops=aO (a0 ops):=by simp
 let⟨bz,r,c,_,b⟩:=UP g d e _ _ [] [] J _ s o (tN (a0 ops) ·=ag/\vw m o J ak ·)
  (λaQ bz H v h x O C A=>by
   cases h
   next E D y B u bd=>grind[vw]) _ (λ_ _ s=>s) aa
 exact vw.fin (e3.X5 (id:=id) l (by grind[CP]) k b.1 ⟨r,c,aa,b.2⟩) f⟩
end
section
variable{P:bn}{K:cI}{p:bJ}{i:Y (Z×V)}{m:Z}{B:ep->aN->Prop}
inductive Cl(P:bn)(K:cI)(p:bJ)(i:Y (Z×V))(M:a7)(c:Y (Z×V))(rd:bS)(B:V->Prop):Prop|mk (A:V):(∀aD,er P K p i ae M ⟨c,rd,aD⟩ (·=A))->B A->Cl P K p i M c rd B
def azc{b:bS}(s:Cl P K p i M J.c b (λA=>B (Rd,[])<|J.put M.dst A))(l:lz J.az Rd=W b:=by rfl)(n:qZ Rd:=by rfl):mM P K p i m ops M J Rd B:=by let⟨A,d,k⟩:=s;refine .mk Rd [] A b [] [] bi l aa (bj aa) (bj aa) (λh f g o=>⟨o,dk.refl m o,λ_ _=>aa,λr v t s _=>cf,λaD=>?_⟩) k;obtain⟨u,e,rfl⟩:=d aD;have:=e h f g o _<|bp aa;show eH P p M ⟨dt M _,aD++(aZ o b++[])⟩ _ (aD++(aZ o b++[]));rw[gv];trivial
def vi(b:p.G=i)(d:eh i){T:aP}{I:V}(s:val i J.c T=W I)(e:T∈a0 (j0 M.op)){o:b6}{aD:bV}:(⟨dt M (da o J.c),aD⟩:bc).val p T=W (I.aB o):=iU b d s e o
def za{b_:Type}{H:Y b_}{T:b_}:(H++[T])[(U H)]?=W T:=ao
def V.arC:V->X|.agg _|.vec .. =>ae|_=>ag
def afe{b_:Type}H(T w:b_):aR (H++[T]) (U H) w=H++[w]:=ao
def fo{S F:aw}{g:cH}{G T:aP}{e n f:Z}{b:Y V}{d:V}(x:B ([],[f]) ({J with az:=s3 J.az f (e,.cell F<|.agg<|am n b++d.cells++ay (n+U d.cells) b)}.put M.dst .undef))(z:M.op=.store S G T:=by rfl)(A:K.find S=W g:=by rfl)(bC:val i J.c G=W (.dC e 0 n):=by rfl)(C:val i J.c T=W d:=by rfl)(H:qa J.az e 0=W f:=by rfl)(E:sK J.az f=W (e,.cell F<|.agg b):=by rfl)(r:d.fits:=by rfl)(D:U d.cells=g.size:=by rfl)(h:hB (n+g.size) (U b):=by rfl):mM P K p i m ops M J Rd B:=by
 refine .mk [] [(f,(e,.cell F _))] .undef [] [(e,.cell F<|.agg b)] [] aa aa yo (bj aa) (bj aa)
  (λu k l o=>⟨o,dk.refl m o,λ_ _=>aa,λL v N bd I=>by grind,λaD=>?_⟩) x
 let h:=ll h;let y:U (am n b++d.cells++ay (n+U d.cells) b)=U b:=bi;let w:=V.qY (o:=o) r;show eH P p M _ _ (aD++[((o e).1,.j (o e).2 (V.agg _).cells.length F [(V.agg _).aB o])]);let s:((V.agg b).aB o).s4 n (d.aB o).cells=(V.agg (am n b++d.cells++ay (n+U d.cells) b)).aB o:=by show V.agg _=V.agg _;rw[w,bm,dc,dc,Gu,JZ]
 let t:(V.agg _).cells.length=(V.agg b).cells.length:=y;have:=CV (p:=p) (O:=⟨dt M<|da o J.c,aD++[((o e).1,.j (o e).2 (V.agg b).cells.length F [(V.agg b).aB o])]⟩) (B:=U aD) (u.find A).au z (vi k l bC dZ) za (el:=(V.agg b).aB o) aa (vi k l C dZ) (V.xI r) aq (by rw[V.xH];exact h)
  (show am n (ab (V.e8 o) b)++(d.aB o).cells++ay _ (ab (V.e8 o) b)=am n (ab (V.e8 o) b)++(d.aB o).cells++ay (n+g.size) (ab (V.e8 o) b) by simp_all)
 simp[afe] at this;rw[s] at this;rw[t];trivial
def azd{S F:aw}{l:cH}{G T:aP}{b f:Z}{d e:V}(t:B ([],[f]) ({J with az:=s3 J.az f (b,.cell F e)}.put M.dst .undef))(u:M.op=.store S G T:=by rfl)(x:K.find S=W l:=by rfl)(bC:val i J.c G=W (.dC b 0 0):=by rfl)(y:val i J.c T=W e:=by rfl)(E:qa J.az b 0=W f:=by rfl)(C:sK J.az f=W (b,.cell F d):=by rfl)(z:d.arC:=by rfl)(k:e.one:=by rfl)(s:e.fits:=by rfl)(A:l.size=1:=by rfl):mM P K p i m ops M J Rd B:=by
 refine .mk [] [(f,(b,.cell F e))] .undef [] [(b,.cell F d)] [] aa aa yo (bj aa) (bj aa)
  (λr g h o=>⟨o,dk.refl m o,λ_ _=>aa,λI v L bd H=>by grind,λaD=>?_⟩) t
 let iO:d.cells=[d]:=by cases d<;>first|rfl|trivial
 let n:(e.aB o).cells=[e.aB o]:=FE<|V.M5 k;let D:(d.aB o).cells.length=1:=by rw[V.xH,iO];rfl
 let w:(d.aB o).s4 0 (e.aB o).cells=e.aB o:=by
  rw[n];unfold V.s4;split;cases d<;>first|trivial|trivial
  rfl
 show eH P p M ⟨dt M _,aD++[((o b).1,.j (o b).2 _ F _)]⟩ _ (aD++[((o b).1,.j (o b).2 _ F _)]);have:=CV (p:=p) (O:=⟨dt M _,aD++[((o b).1,.j (o b).2 (U d.cells) F [d.aB o])]⟩) (r.find x).au u (vi g h bC dZ) za aa (vi g h y dZ) (V.xI s) aq q
  aK
 simp at this;rw[w] at this;rw[FE k];rw[iO] at this⊢;trivial
def uk{S F:aw}{h:cH}{G T:aP}{b g n au f:Z}{xs:Y V}{d:V}aC e l(A:B ([],[f]) ({J with az:=s3 J.az f (b,.j au F aC)}.put M.dst .undef))(t:M.op=.store S G T:=by rfl)(H:K.find S=W h:=by rfl)(bC:val i J.c G=W (.dC b g n):=by rfl)(I:val i J.c T=W d:=by rfl)(N:qa J.az b 0=W f:=by rfl)(L:sK J.az f=W (b,.j au F xs):=by rfl)(k:xs[g]?=W e:=by exact Hx)(C:d.plain:=by rfl)(z:d.fits:=by rfl)(E:U d.cells=h.size:=by rfl)(x:n+h.size<=U e.cells:=by exact VI)(y:e.s4 n d.cells=l:=by rfl)(D:l.cells=am n e.cells++d.cells++ay (n+h.size) e.cells:=by rfl)(aU:aR xs g l=aC:=by exact afP):mM P K p i m ops M J Rd B:=by
 subst aU y;refine .mk [] [(f,(b,.j au F _))] _ [] [(b,.j au F xs)] [] aa aa yo (bj aa) (bj aa)
  (λw r s o=>⟨o,dk.refl m o,λ_ _=>aa,λg v Q bd O=>by grind,λaD=>?_⟩) A
 let u:=vi r s I (by rw[t];simp[j0]) (o:=o) (aD:=aD++[((o b).1,cB.j (o b).2 au F xs)]);rw[V.gc C] at u;have:=CV (w.find H).au t (vi r s bC dZ) za k u z E x D;simp at this;trivial
def kG.more{h:bS}{aD:bV}{w:aP}{cR:aw}{au:Z}{k:Y V}(s:kG K i ⟨J.c,h,[]⟩ w cR au k):kG K i ⟨J.c,h,aD⟩ w cR au k:=by cases s with|al f e b d g=>exact .al f e b d g|nil f e b d=>exact .nil f e b d|str f e b d=>exact .str f e b d|a f e b d g m l=>exact .a f e b d g m l
theorem kG.dt{h:bS}{aD:bV}{w:aP}{cR:aw}{au:Z}{k:Y V}(s:kG K i ⟨J.c,h,aD⟩ w cR au k)(n:w∈a0 (j0 M.op)):kG K i ⟨fe.dt M J.c,h,aD⟩ w cR au k:=by
 let F:∀{I:V},val i J.c w=W I->val i (fe.dt M J.c) w=W I:=λs=>by grind[yb]
 cases s with|al f e b d g=>exact .al (F f) e b d g|nil f e b d=>exact .nil (F f) e b d|str f e b d=>exact .str (F f) e b d|a f e b d g m l=>exact .a (F f) e b d g m l
def TX(G:Z):Y Z->Y Z|[]=>[]|T::A=>match ef T G with|ag=>TX G A|ae=>T::TX G A
def jY{S cR F:aw}{d:cH}{T w:aP}{b r f:Z}{k:Y Z}{g:bS}{xs h:Y V}e aC(D:B (k,[f]) ({J with az:=s3 J.az f (e,.j d.size F aC)}.put M.dst (.a e 0<|U aC)))(G:M.op=ft {callee:=gP oZ,args:=#[T,w],argTypes:=#[S,cR]}:=by rfl)(n:fC K S (c_ F):=by exact fX)(C:K.find F=W d:=by rfl)(L:val i J.c T=W (.a b 0 r):=by rfl)(ak:qa J.az b 0=W f:=by rfl)(Q:sK J.az f=W (b,.j d.size F xs):=by rfl)(N:TX f Rd=k:=by rfl)(H:lz J.az k=W g:=by rfl)(E:qZ (k++[f]):=by rfl)(gi:kG K i ⟨J.c,g,[]⟩ w cR d.size h:=by exact B_)(hlen:r=U xs:=by exact Ki)(aX:a9 (dp d.z)=d.size:=by rfl)(aM:hB d.bytes 8388608:=by rfl)(aU:xs++h=aC:=by exact PX)(bl:U aC<=16777216:=by exact si)(X:g8 e m:=by rfl)(k_:ry (h9 [e]) J.c:=by kernel_rfl)(sL:rz (h9 [e]) [f] J.az 0:=by kernel_rfl)(R:ef b e=ae:=by rfl):mM P K p i m ops M J Rd B:=by
 refine .mk k [(f,(e,.j d.size F aC))] (.a e 0<|U aC) g [(b,.j d.size F xs)] [e] E H yo (bp k_) (bp sL)
  (λl u x o=>⟨e2 o e ((o b).1,(o b).2+1),dk.of λS n=>hd kj,λS n=>hd λF=>Ka,λap v aq bd am=>by grind[e2],λaD=>?_⟩) D
 obtain⟨_,_,y⟩:=n.eD l;have s:=l.find C;have:r+U h=U aC:=by rw[<-aU,hlen];simp
 let O:bc:=⟨dt M<|da o J.c,aD++aZ o g++[((o b).1,.j (o b).2 d.size F xs)]⟩;have I:jP P p O w cR d.size (U h) h:=by
  have iO:kG K i ⟨J.c,g,aD⟩ w cR d.size h:=gi.more;have t:=(kG.dt (M:=M) (J:=J) iO pI).src l u x o;have A:(⟨dt M J.c,g,aD⟩:aN).aB o=⟨dt M (da o J.c),aD++aZ o g⟩:=by show(⟨da o (dt M J.c),_⟩:bc)=_;rw[wu]
  rw[A] at t;exact t.more<|Vs _ _
 have:=Ly (p:=p) (O:=O) y s.au s.lG aX G (vi u x L pI) za q I yn (by simp_all[yH]);simp[O,afe] at this;have:(V.a e 0 (U aC)).aB (e2 o e ((o b).1,(o b).2+1))=.bH (o b).1 ((o b).2+1) 0 (U aC):=by simp[V.aB,V.jW,V.e8,V.e0,e2]
 have:aZ (e2 o e ((o b).1,(o b).2+1)) [(e,b7.j d.size F aC)]=[((o b).1,.j ((o b).2+1) d.size F aC)]:=by simp[aZ,c2,b7.aD,e2]
 show eH P p M ⟨dt M (da o J.c),aD++(aZ o g++[((o b).1,.j (o b).2 d.size F xs)])⟩ _ _;simp_all
end
inductive oj(au:Z):V->V->Prop|nil:oj au .bo (.al au [])
theorem oj.one{au:Z}:wZ (oj au):=λT w s=>by cases s;trivial
theorem oj.gU{au:Z}{b:bf}:∀T w,oj au T w->∀aE,bk b T aE->bk b w aE:=λT w s aE c=>by cases s;cases c;exact .slnil au
def CW(au:Z):V->V|.bo=>.al au []|T=>T
def ET(au:Z)(b:Y Z):Y (Z×V)->Y (Z×V)|[]=>[]|(S,T)::A=>match iw S b with|ag=>(S,CW au T)::ET au b A|ae=>(S,T)::ET au b A
def AN(au:Z)(c:Y Z):V->V|.agg H=>.agg (AM H 0)|T=>CW au T
 where AM:Y V->Z->Y V|[],_=>[]|T::A,b=>match iw b c with|ag=>CW au T::AM A (b+1)|ae=>T::AM A (b+1)
def QP(au:Z)(b:Y Z):b7->b7|.cell F T=>.cell F (AN au b T)|T=>T
def Lz(au S:Z)(b:Y Z):bS->bS|[]=>[]|(B,G)::A=>match ef S B with|ag=>(B,QP au b G)::A|ae=>(B,G)::Lz au S b A
def aN.tB(J:aN)(au:Z)(b:Y Z):aN:={J with c:=ET au b J.c}
def aN.rF(J:aN)(au S:Z)(b:Y Z):aN:={J with az:=Lz au S b J.az}
section
variable{o:b6}
def Yw{T:V}:fS (oj au) (T.aB o) ((CW au T).aB o):=by cases T<;>first|exact .refl _|exact .base _ _ .nil
def amP{T:V}:fS (oj au) (T.e8 o) ((CW au T).e8 o):=by cases T<;>first|exact .refl _|exact .base _ _ .nil
def Yx{pU:Y Z}:∀H b c,(AN.AM au pU H b)[c]?=(H[c]?).map λT=>match iw (b+c) pU with|ag=>CW au T|ae=>T
|[],b,c=>ba|T::A,b,0=>by grind[AN.AM]|T::A,b,c+1=>by have:=Yx (pU:=pU) A (b+1) c;grind[AN.AM,List.getElem?_cons_succ]
def QO{c:Y Z}:∀H b,U (AN.AM au c H b)=U H|[],b=>ba|T::A,b=>by rw[AN.AM];split<;>simp[QO A]
def amT{b:Y Z}T:(AN au b T).cells.length=U T.cells:=by cases T<;>first|rfl|simp[AN,V.cells,QO]
def amQ{e:Y Z}{B:Z}{G:b7}{H d:bV}(s:cY (oj au) H d):cY (oj au) (c2 o (B,G)::H) (c2 o (B,QP au e G)::d):=by
 cases G with
 |cell F T=>simp[QP,c2,b7.aD,amT];exact .F1 (by
  cases T with
  |agg H=>
   refine .agg _ _ (by simp[QO]) λg T w c b=>?_;rw[db] at c b;rw[Yx] at b;cases f:H[g]?;simp_all
   next ap=>rw[f] at c b;simp at c b;subst c;subst b;split;exact amP;exact .refl _|_=>exact Yw) s|_=>exact .same _ s
def Yy{b:Y Z}{S:Z}:∀H,cY (oj au) (aZ o H) (aZ o (Lz au S b H))|[]=>.nil|(B,G)::A=>by rw[Lz];split;exact amQ<|cY.refl _;exact .same _<|Yy A
def Yz{OB:Y Z}:∀H S,cX S (ET au OB H)=(cX S H).map λT=>match iw S OB with|ag=>CW au T|ae=>T
|[],_=>aa|(B,T)::A,S=>by rw[ET];cases s:S==B with|true=>grind|false=>let b:=Yz (OB:=OB) A S;grind
def a_.tB{p:bJ}{J:aN}{z:fI}{E:bI}{d:bf}e(s:a_ p (J.aB o) z E d):a_ p ((J.tB au e).aB o) z E d:=s.rD (bf.le.refl d) s.cO oj.gU oj.one (λS w b=>by
 change cX S (da o<|ET au e _)=W w at b;rw[mU,Yz] at b;show∃T,cX S (da o _)=W T/\_;rw[mU];cases f:cX S J.c;simp_all
 next T=>rw[f] at b;simp at b;subst b;exists _,aa;split;exact Yw;exact .refl _)<|cY.refl _
def a_.rF{p:bJ}{J:aN}{z:fI}{E:bI}{b:bf}S c(s:a_ p (J.aB o) z E b):a_ p ((J.rF au S c).aB o) z E b:=s.rD (bf.le.refl b) s.cO oj.gU oj.one (λS w d=>⟨w,d,.refl _⟩)<|cY.rA (Yy _)<|cY.refl _
end
section
variable{P:bn}{K:cI}{p:bJ}{i:Y (Z×V)}{m:Z}
def a1.tB{n:gw}{ak:cS->aN->Prop}au b(s:a1 P p m n (J.tB au b) ak):a1 P p m n J ak:=⟨λo d e z E c f=>s.run o d e z E c<|a_.tB b f⟩
def a1.rF{n:gw}{ak:cS->aN->Prop}au S b(s:a1 P p m n (J.rF au S b) ak):a1 P p m n J ak:=⟨λo d e z E c f=>s.run o d e z E c<|a_.rF S b f⟩
def lQ{f:b6}{d:Y hn}{b:V->bV->Prop}{c:cS}au e(s:ic P p m f d b c (J.tB au e)):ic P p m f d b c J:=⟨s.he,λo i z E g h=>s.run o i z E g<|a_.tB e h⟩
def fQ{f:b6}{e:Y hn}{b:V->bV->Prop}{d:cS}au S c(s:ic P p m f e b d (J.rF au S c)):ic P p m f e b d J:=⟨s.he,λo i z E g h=>s.run o i z E g<|a_.rF S c h⟩
end
def x1(K:cI)(b:Y (Z×V))(c:bS):Y hn->c6 (Y V)
|[]=>W []|.tmp S::A=>match gr b S with
 |W T=>match x1 K b c A with|W xs=>W (T::xs)|ai=>ai
 |ai=>ai
|.cell Q S::A=>match gr b Q with
 |W (.dC e 0 0)=>match ci c e with
  |W (.cell _ F)=>match K.find S with
   |W d=>match F.fits,q3 F.cells 0 d.size d.agg with
    |ag,W T=>match x1 K b c A with|W xs=>W (T::xs)|ai=>ai
    |_,_=>ai
   |ai=>ai
  |_=>ai
 |_=>ai
section
variable{P:bn}{K:cI}{p:bJ}{m:Z}{o:b6}
def TW(m:gy P K){z:fI}{E:bI}{k:bf}(s:a_ p (J.aB o) z E k):∀{jl:Y hn}{f:Y V},x1 K J.c J.az jl=W f->∃e,U e=U (ab (V.aB o) f)/\ce P (jl.mapM (t_ z.tmps)) E=ct e E/\∀(i:Z) T aE,(ab (V.aB o) f)[i]?=W T->e[i]?=W aE->bk k T aE
|[],f,b=>by simp[x1] at b;simp_all|.tmp S::A,f,b=>by unfold x1 at b;split at b;rename_i T aw;split at b;rename_i xs n;simp[g6] at b;subst b;let⟨e,C,t,D⟩:=TW m s n;let⟨aE,av,L⟩:=s.c S (T.aB o) (by show cX S (da o J.c)=_;grind[mU,sQ]);refine⟨aE::e,aq,?_,λi w ap R O=>?_⟩;simp_all[t_,BZ];grind;trivial;trivial|.cell Q S::A,f,b=>by
 unfold x1 at b;split at b;rename_i ak aM;split at b;rename_i F y G;split at b;rename_i x N;split at b;rename_i T H h;split at b;rename_i xs n;simp[g6] at b;subst b;let⟨e,C,t,D⟩:=TW m s n;let⟨B,u⟩:=j7 (o:=o) J.d G;let v:(J.aB o).val p (.tmp Q)=W ((V.dC ak 0 0).aB o):=by show cX Q (da o J.c)=_;rw[mU,<-sQ,aM];rfl
 let bd:=m.find N;let au:=V.qY (o:=o) H;let X:∃aE,bk k (T.aB o) aE/\ce P (do loadVar S (<-asAddr (b1 z<|.tmp Q))) E=ct aE E:=by cases g:x.agg with|true=>rw[g] at h;obtain⟨rfl,t⟩:=FO h;let⟨I,ar,r,l⟩:=(bd.Cs g).eD;refine Sm r l v u aa (v7:=ab (V.e8 o)<|am x.size<|ay 0 y.cells) ?_ aq s;simp_all|false=>rw[g] at h;let⟨r,l⟩:=FP h;rw[V.FA l];exact Sl (bd.g5<|bd.r6 g) (j2 bd.jw aK) v u aa aq s
 let⟨aE,L,M⟩:=X;refine⟨aE::e,aq,?_,λi w ap R O=>?_⟩;have:ce P (t_ z.tmps (.cell Q S)) E=ct aE E:=M;simp_all;grind;trivial;trivial;trivial;trivial;trivial
def QU{h:b6}{f:Y hn}{b:V->bV->Prop}{F:cS}{g:Y V}{EE:bS}(r:gy P K)(bd:∀o,dk m h o->b (eR (ab (V.aB o) g)) (J.d++aZ o EE))(x:x1 K J.c J.az f=W g:=by rfl)(u:tn EE J.az:=by repeat (first|exact trivial|refine And.intro rfl ?_))(w:n2 EE:=by rfl)(v:F=.ret\/F=fY:=by exact rp):ic P p m h f b F J:=by refine⟨v,λo t z E i e=>?_⟩;let⟨y,k,l,n⟩:=TW r e x;refine⟨y,_,J.d++aZ o _,i,k,l,n,?_,bd o t⟩;have:=a_.DL (J:=⟨[],J.az,J.d⟩) (en:=⟨[],EE,J.d⟩) ⟨b5,u,w,aa⟩<|a_.zI e λS T s=>cf;exact this.cO
def dj{k:b6}{e:Y hn}{F:cS}{b:Y V}{A:V}(f:gy P K)(i:x1 K J.c J.az e=W b:=by rfl)(bC:xS b:=by rfl)(h:J.d=[]:=by rfl)(g:F=.ret\/F=fY:=by exact rp)(s:eR b=A:=by rfl):ic P p m k e (·=A/\·=[]) F J:=QU (EE:=[]) f (λo _=>⟨by grind[TB],by rw[h];rfl⟩) i b5 aa g
def iE{f:b6}{e:Y hn}{F:cS}{b:Y V}{A:V}{cG:bS}(g:gy P K)(k:x1 K J.c J.az e=W b:=by rfl)(mo:tn cG J.az:=by repeat (first|exact trivial|refine And.intro rfl ?_))(i:n2 cG:=by rfl)(o:e4 V.Dq b:=by rfl)(r:J.d=[]:=by rfl)(h:F=.ret\/F=fY:=by exact rp)(s:eR b=A:=by rfl):ic P p m f e (λn l=>∃aQ,dk m f aQ/\n=A.aB aQ/\l=aZ aQ cG) F J:=QU g (⟨·,·,Ke,aq⟩) k mo i h
end
section
variable{P:bn}{p:bJ}
end
section
variable{P:bn}{K:cI}{p:bJ}{i:Y (Z×V)}{m:Z}{B:V->Prop}
end
section
variable{P:bn}{K:cI}{p:bJ}{i:Y (Z×V)}{m:Z}{B:V->Prop}
def UL{b c:Y (Z×V)}:∀{H:Y (Z×aP)}{R:Z},(∀T∈H,val i c T.2=val i b T.2)->sb i c H R=sb i b H R|[],_,_=>aa|(d,T)::A,R,s=>by rw[sb,sb,s (d,T) ao,UL λw e=>s w aK]
def kr{S F:aw}{d:cH}{R:Z}{e:bU (Z×aP)}{b:Y V}(u:B (.al d.size b))(w:M.op=.buildSlice S R e:=by rfl)(z:fC K S (c_ F):=by exact fX)(s:K.find F=W d:=by rfl)(x:sb i J.c (a0 e) 0=W b:=by rfl)(v:R=U b:=by rfl)(hlen:∀I∈b,U I.cells=d.size:=by first|exact Nn rfl|exact H0 (by repeat (first|exact trivial|refine And.intro rfl ?_))|(simp[V.cells,V.const,V.leaf];done))(r:R*d.size<=2^24:=by decide)(y:0<d.size:=by decide):er P K p i t M J B:=.of aa (λh m n o aD=>by
 obtain⟨_,_,k⟩:=z.eD h;have f:=h.find s;have l:sb i (dt M J.c) (a0 e) 0=W b:=by rw[UL λT A=>yb i (by simp[j0,dI];grind)];exact x
 have g:=Gk (J:=⟨dt M _,[],aD⟩) m n (o:=o) l;have F:(⟨dt M J.c,[],aD⟩:aN).aB o=⟨dt M (da o J.c),aD⟩:=by show(⟨da o _,aD++[]⟩:bc)=_;rw[wu,gv]
 rw[F] at g;exact TI k f.au f.lG w g v hlen r y) u
end
section
variable{P:bn}{p:bJ}
def ade{S F:aw}{A au ck J dP:Z}{ap:bq}{f:bU (Z×aP)}{c:Y (Z×V)}{b:Y V}(r:cu P S (pL A F) au ck)(o:gx P F J dP)(g:jr P S ap)(m:M.op=.build S f)(n:u7 p O (a0 f)=W c)(aM:rB (λx=>W (x*J,J)) (V.zero ap).cells c=W b):di P p M O (.agg b):=.same λz E h k=>by let⟨D,l⟩:=u7.get n;let⟨B,C,d⟩:=QY c ((a0 f).map λG=>(G.1,b1 z G.2)) _ _ b aq (λy G v i e=>by let⟨T,s,t,w⟩:=l y G i;rw[db,s] at e;simp at e;subst e;exact⟨aa,(k.val t).H1 w⟩) (pN.zero g h) aM;exists h0 _,.agg b B (bQ d.1) d.2.1 d.2.2;simp[c5,m,Instr.build,Sem.run_bind,g.run,Result.andThen_ok,run_underlying r.u,o.kw];simp_all
end
section
variable{P:bn}{K:cI}{p:bJ}{i:Y (Z×V)}{m:Z}{B:V->Prop}
def atc{H:Y (Z×aP)}(s:∀T∈H,T.2∈a0 (j0 M.op)):sZ i (dt M J.c) H=sZ i J.c H:=Tu i λT b=>yb i<|s T b
def abz{b:Y (Z×V)}(s:xS (ab (·.2) b))o:ab (λG=>(G.1,G.2.aB o)) b=b:=by
 induction b
 rfl
 next I b c=>grind[xS,V.gc]
def aq7{S F:aw}{e k:cH}{H:Z}{h:bU (Z×aP)}{b:Y (Z×V)}{f:Y V}(x:B (.agg f))(y:M.op=.build S h:=by rfl)(r:K.find S=W e:=by rfl)(v:e.d=pL H F:=by rfl)(E:e.O=ae:=by rfl)(w:K.find F=W k:=by rfl)(D:sZ i J.c (a0 h)=W b:=by rfl)(C:xS (ab (·.2) b):=by rfl)(aM:rB (λG=>W (G*k.size,k.size)) (V.zero e.z).cells b=W f:=by rfl)(A:(V.agg f).plain:=by rfl):er P K p i t M J B:=.of A (λg n u o aD=>by
 let l:=(g.find r).g5 E;rw[v] at l;let s:sZ i (dt M J.c) (a0 h)=W b:=by rw[atc λT I=>by simp[j0,dI];grind];exact D
 obtain⟨m,_⟩:=Nr (n▸u)<|bQ n▸s;rw[abz C,<-wu] at m;exact ade l (g.find w).au (g.find r).lG y m aM) x
end
section
variable{P:bn}{i:Y (Z×V)}{ar:fM}{xs:Y V}{os cG:bS}
end
section
variable{P:bn}{p:bJ}
def Holds.avs{b:bf}{h:bV}{E:bI}(s:Holds p b h E){B id aS J:Z}{F i:aw}{r:Y V}{T:V}{c:Y bq}(l:h[B]?=W (id,.j aS J F r))(g:pN b T c)(u:U c=J):Holds p (b.fV id ⟨W (a9 E.heap),0,aS+1,J,J⟩) (aR h B (id,.j (aS+1) J i [T])) (E.alloc (pK (aO c) i))/\b.le (b.fV id ⟨W (a9 E.heap),0,aS+1,J,J⟩):=by
 let⟨H,hm,d⟩:=s.gd _ _<|dY l;let m:b.le (b.fV id ⟨W<|a9 E.heap,0,aS+1,J,J⟩):=bf.jh λx k=>by rw[hm] at k;cases k;exact⟨d.2.1,by rw[d.1];simp,λF=>by rw[d.1] at F;grind⟩
 refine⟨s.pB l hm d.2.1 (by rw[d.1];simp) (λF=>by rw[d.1] at F;grind) (bp ⟨a9 E.heap,aa,bv _⟩) ?_ ?_,m⟩;simp[World.grownBy_alloc];refine⟨aa,aa,bp ⟨a9 E.heap,aO c,aa,.of<|heap_alloc_new E _,q,ao,?_,?_,?_⟩⟩;intro e aE v;exact g.2.1 aE<|dY (by simpa using v);intro e I f;cases e;simp at f;subst f;rw[<-g.1,u]
 next e=>trivial
 intro e n I w f o;cases e;simp at f;subst f;let t:n<U c:=by rw[g.1];exact(eX.1 o).1
 refine⟨c[n],ao,(g.2.2 n w _ o<|cT t).mono m⟩
 next e=>trivial
def amH{S:aw}{ap:bq}{J B id aS:Z}{F:aw}{e:Y V}(k:M.op=.alloc S)(c:jr P S ap)(l:a9 (dp ap)=J)(h:O.d[B]?=W (id,.j aS J F e)):eH P p M O (.own id (aS+1) 0 0) (aR O.d B (id,.j (aS+1) J S [V.zero ap])):=.of λz E b f=>by obtain⟨g,i⟩:=f.cO.avs h (pN.zero c b) (by simpa using l);refine⟨ib<|W ⟨a9 E.heap,0,ai⟩,_,_,.own id _ 0 0,_,i,?_,g,bj ?_,aa,aa⟩;exact .own _ _ _ _ _ _ (b.kg _ _) (bv _) aa λ_=>⟨a9 E.heap,aa,ao⟩;simp[c5,k,Instr.alloc,c.run,newVar,newRow]
end
section
variable{P:bn}{K:cI}{p:bJ}{i:Y (Z×V)}{m:Z}{B:ep->aN->Prop}
def DY{S F:aw}{e:cH}{f:Z}{xs:Y V}{ap:V}b d(k:B ([],[f]) ({J with az:=s3 J.az f (d,.cell S ap)}.put M.dst (.dC d 0 0)))(r:M.op=.alloc S:=by rfl)(g:K.find S=W e:=by rfl)(I:V.zero e.z=ap:=by rfl)(G:qa J.az b 0=W f:=by rfl)(C:sK J.az f=W (b,.j e.size F xs):=by rfl)(t:a9 (dp e.z)=e.size:=by rfl)(u:U ap.cells=e.size:=by rfl)(s:ap.plain:=by rfl)(E:g8 d m:=by rfl)(n:ry (h9 [d]) J.c:=by kernel_rfl)(l:rz (h9 [d]) [f] J.az 0:=by kernel_rfl)(D:ef b d=ae:=by rfl):mM P K p i m ops M J Rd B:=by
 refine .mk [] [(f,(d,.cell S ap))] _ [] [(b,.j e.size F xs)] [d] ba aa yo (bp n) (bp l)
  (λh y A o=>⟨e2 o d ((o b).1,(o b).2+1),dk.of λS g=>hd kj,λS g=>hd λF=>Ka,λL v N bd H=>by grind[e2],λaD=>?_⟩) k
 have:=amH (p:=p) (O:=⟨dt M<|da o J.c,aD++[((o b).1,.j (o b).2 _ F xs)]⟩) r (h.find g).lG t za;let w:(V.dC d 0 0).aB (e2 o d ((o b).1,(o b).2+1))=.own (o b).1 ((o b).2+1) 0 0:=by simp[V.aB,V.jW,V.e8,V.e0,e2]
 let x:aZ (e2 o d ((o b).1,(o b).2+1)) [(d,b7.cell S ap)]=[((o b).1,.j ((o b).2+1) e.size S [ap])]:=by simp[aZ,ia,rk,c2,b7.aD,iT,V.gc s,u]
 show eH P p M ⟨dt M _,aD++([]++[((o b).1,.j _ e.size F xs)])⟩ _ (aD++([]++aZ _ _));simp_all
end
section
variable{P:bn}{K:cI}{p:bJ}{i:Y (Z×V)}{B:V->Prop}
end
section
variable{P:bn}{cR eD F:aw}{ck J dP Uy Qh:Z}{ap:bq}{dQ:dd}{E:bI}{R:Z}
def avG(i:cu P S (c_ F) au ck)(b:gx P F J dP)(n:jr P F ap)(m:cu P cR (.int dQ) Uy Qh)(p:0<R)(r:0<J)(d:R<=ja)(h:R*dP<=140737488355328):ce P (yq #[S,cR] eD #[eY ai 0 0,cN aj R]) E=ct (eY (W ⟨a9 E.heap,0,ai⟩) R (grownCap E R 0 F)) (E.drew.alloc (pK (sk (dp ap) R++sk (dp ap) (grownCap E R 0 F-R)) F)):=by
 let⟨s,k,_,g⟩:=b.Fa;let o:=n.run E.drew;let e:¬9223372036854775807<R:=by simp[ja] at d;omega
 let c:=by have:=growslice_fits (need:=R) (old:=0) q h;omega
 let l:IntKind.i64.wrap R=R:=by simp only[IntKind.wrap,l7];simp;omega
 let f:=by omega
 simp[yq,run_underlying i.u,b.kw,run_underlying m.u,typeInfo,k,g,q,e,c,Question.forced,newRow,o,grownCap,asInt,asIntOf,l,f,q,uq];grind[Nat.mul_ne_zero]
end
section
variable{P:bn}{p:bJ}
theorem aze{ap:bU bq}{m J b n:Z}(g:a9 ap=J)(c:b<m)(d:n<J):(sk ap m)[b*J+n]?=(a0 ap)[n]?:=by
 let e:b*J+n<m*J:=by have:=jo J (show b+1<=m from c);rw[pH] at this;omega
 let f:(b*J+n)%J=n:=by rw[ta,Nat.add_mul_mod_self_right,wN d]
 unfold Builtin.zeroCells;simp_all
theorem UU{ap:bU bq}{m:Z}(c:∀aE∈a0 ap,gE aE):∀aE∈sk ap m,gE aE:=by intro aE b;simp[sk] at b;grind[Nat.mod_lt]
def cD.ajg{S cR F:aw}{au ck J dP Uy Qh:Z}{ap:bq}{T w:aP}{dQ:dd}{R u:Z}(av:u<=R)(aq:O.guard ops M=W ag)(aC:cu P S (c_ F) au ck)(am:gx P F J dP)(G:jr P F ap)(N:a9 (dp ap)=J)(aF:cu P cR (.int dQ) Uy Qh)(az:M.op=ft {callee:=gP oZ,args:=#[T,w],argTypes:=#[S,cR]})(i:O.val p T=W .bo)(aG:O.val p w=W (.int aj (R:L)))(ay:0<R)(D:R<=ja)(X:R*dP<=140737488355328)(aB:0<J)(s:∀v,cD P p ops H (({O with d:=O.d++[(v,.j 0 J F<|cM u<|V.zero ap)]}:bc).put M.dst<|.bH v 0 0 R) ak):cD P p ops (M::H) O ak:=.mn aq λz E c l=>by
 have f:=l.val i;have x:=l.val aG;generalize aD:b1 z T=aL at f;generalize b:b1 z w=aE at x;cases f;cases x;have o:=pN.zero G c;have K:U (a0 (dp ap))=J:=by simpa using N
 have r:=avG (eD:=M.type) aC am G aF (E:=E) ay aB D X;have m:=grownCap_ge E R 0 F;have A:=grownCap_le_maxLen E R 0 F D;generalize grownCap E R 0 F=k at r m A;generalize B:sk (dp ap) R++sk (dp ap) (k-R)=e at r;have Y:a9 e=k*J:=by rw[<-B,UX,size_zeroCells,size_zeroCells,N,<-hZ];congr 1;omega
 have aA:∀aE∈e,gE aE:=by intro aE b;rw[<-B,Array.mem_append] at b;rcases b with b|b<;>exact UU o.2.1 aE b
 have:∀t n,t<R->n<J->e[t*J+n]?=(a0 (dp ap))[n]?:=λt n aI y=>by grind[Array.getElem?_append_left,size_zeroCells,aze]
 have C:c.le (c.fV c.n ⟨W (a9 E.heap),0,0,a9 e,J⟩):=bf.jh λaJ f=>by rw[c.fresh _<|bv _] at f;cases f
 have aH:(V.zero ap).cells.length=J:=by rw[<-o.1,K]
 have ar:=l.cO.new (lf:=.j 0 J F<|cM u<|V.zero ap) (dr:=⟨W<|a9 E.heap,0,0,a9 e,J⟩) (bO:=E.drew.alloc<|pK e F) (bp ⟨a9 E.heap,aa,bv _⟩) (have h:=World.grownBy_alloc E.drew (pK e F) ai;⟨h.os,h.tape,h.output,h.size,h.block⟩)
  ⟨aa,aa,bp ⟨a9 E.heap,e,aa,.of<|heap_alloc_new E.drew _,aa,by rw[wK,Y];simp[mC];exact jo _<|c9 av m,λQ aE b=>aA aE<|OT b,λQ I g=>aK,λQ n I T g i=>by
   rw[zX] at g;split at g<;>simp at g;subst g;have y:n<J:=by rw[<-aH];exact(eX.1 i).1
   have ax:n<U (a0 (dp ap)):=by rw[K];exact y
   refine⟨(a0<|dp ap)[n],?_,(o.2.2 n T _ i<|cT ax).mono C⟩;grind⟩⟩
 refine⟨eY (W ⟨a9 E.heap,0,ai⟩) R k,_,_,.bH c.n 0 0 R,_,C,?_,ar,bj ?_,s c.n⟩;exact .bH _ _ _ _ _ _ (c.kg _ _) (bv _) aa λ_=>bp ⟨a9 E.heap,0,k,aa,aa,m,A,bp ⟨ao,aK⟩⟩;simp[c5,az,Sem.run_bind,oi,O_,ia,rk,Sem.run_pure,Result.andThen_ok,oh,o2,aD,b,r]
end
section
variable{P:bn}{K:cI}{p:bJ}{i:Y (Z×V)}{m:Z}
def aq5{S cR F:aw}{g b:cH}{T w:aP}{I:Z}{dQ:dd}{s:L}R t aC(az:B (J.fresh I (.j b.size F aC) (.a I 0 R)))(X:M.op=ft {callee:=gP oZ,args:=#[T,w],argTypes:=#[S,cR]}:=by rfl)(y:M.dst=W I:=by rfl)(r:g8 I m:=by rfl)(f:fC K S (c_ F):=by exact fX)(ap:K.find cR=W g:=by rfl)(A:g.d=.int dQ:=by rfl)(am:g.O=ae:=by rfl)(C:K.find F=W b:=by rfl)(aq:val i J.c T=W .bo:=by rfl)(ar:val i J.c w=W (.int aj s):=by rfl)(G:s=(R:L):=by first|rfl|omega)(U:0<R:=by omega)(av:a9 (dp b.z)=b.size:=by rfl)(aM:hB b.bytes 8388608:=by rfl)(Y:0<b.size:=by decide)(Q:R<=16777216:=by omega)(N:t<=R:=by omega)(aA:cM t (V.zero b.z)=aC:=by rfl):gg P K p i m ops M J B:=⟨λe l n o H ak D ay=>by obtain⟨_,_,u⟩:=f.eD e;have k:=(e.find ap).g5 am;rw[A] at k;have h:=e.find C;have r:=ll (show hB _ m=ag from r);subst G;refine cD.ajg N D u h.au h.lG av k X (hJ l n aq o) (hJ l n ar o) U yn (yH Q aM) Y λv=>?_;rw[y];refine cD.toR (λz E ax x=>a_.fresh (aQ:=e2 o I (v,0)) (λS f=>hd f) (qJ:=.a I 0 R) (w:=.j _ F _) (by simp[V.aB,V.jW,V.e8,V.e0,iT];exact .refl _) (by simp[c2,iT];exact .same _ .nil) x) ?_;grind[dk.of,hd]⟩
end
section
variable{P:bn}{K:cI}{p:bJ}{i:Y (Z×V)}{B:V->Prop}
def aua{S F:aw}{au ck:Z}{T:aP}{O:bc}(e:cu P S (c_ F) au ck)(d:M.op=ft {callee:=gP .cap,args:=#[T],argTypes:=#[S]})(g:O.val p T=W .bo):di P p M O (.int aj 0):=.same λz E h c=>by have b:=c.val g;generalize f:b1 z T=aE at b;cases b;exact⟨_,.int _ _,by simp[c5,d,f,oi,oh,o2,Builtin.cap_,run_underlying e.u,goInt]⟩
end
section
variable{P:bn}{K:cI}{p:bJ}{i:Y (Z×V)}{m:Z}
def SN{S F:aw}{T:aP}(g:B (J.put M.dst (.int aj 0)))(h:M.op=ft {callee:=gP .cap,args:=#[T],argTypes:=#[S]}:=by rfl)(k:fC K S (c_ F):=by exact fX)(l:val i J.c T=W .bo:=by rfl):gg P K p i m ops M J B:=.pure aa (λf d e o=>di.full (by obtain⟨_,_,b⟩:=k.eD f;exact aua b h<|hK d e l pI aa)) g
end
section
variable{P:bn}{K:cI}{p:bJ}{i:Y (Z×V)}{B:V->Prop}
def as5{S F:aw}{au ck dP J:Z}{T:aP}{e d:c6 aP}{O:bc}(l:cu P S (c_ F) au ck)(g:gx P F J dP)(k:M.op=.slice S T e d ai)(n:O.val p T=W .bo)(i:pS p O e 0 0)(h:pS p O d 0 0):di P p M O .bo:=.same λz E f c=>by
 have b:=c.val n;generalize m:b1 z T=aE at b;cases b;exists eY _ 0 0,by first|exact .bo|exact bk.leaf f _
 simp[c5,k,Instr.sliceAt,m,run_underlying l.u,Instr.slice,Je (P:=P) c (Q:=ag) (len:=0) (cap:=0) i h (bv _)<|bv _,g.kw]
def ark{S F:aw}{z:cH}{T:aP}{h g:c6 aP}{l k:L}(s:B .bo)(v:M.op=.slice S T h g ai:=by rfl)(w:fC K S (c_ F):=by exact fX)(n:K.find F=W z:=by rfl)(e:val i J.c T=W .bo:=by rfl)(u:sC i J.c h 0=W l:=by rfl)(r:sC i J.c g 0=W k:=by rfl)(y:l=((0:Z):L):=by first|rfl|omega)(x:k=((0:Z):L):=by first|rfl|omega):er P K p i t M J B:=.of aa (λf b d o aD=>by obtain⟨_,_,m⟩:=w.eD f;exact as5 m (f.find n).au v (hK b d e dZ aa) (vG b d u y λT e=>dZ)<|vG b d r x λT e=>dZ) s
end
section
variable{P:bn}{K:cI}{p:bJ}{i:Y (Z×V)}{m:Z}
def at5{S cR F:aw}{au ck J dP:Z}{T w:aP}{O:bc}(l:cu P S (c_ F) au ck)(f:gx P F J dP)(k:M.op=ft {callee:=gP oZ,args:=#[T,w],argTypes:=#[S,cR]})(n:O.val p T=W .bo)(e:jP P p O w cR J 0 []):di P p M O .bo:=.same λz E b d=>by
 have c:=d.val n;generalize m:b1 z T=aE at c;cases c;let⟨o,r,t,g,i,s⟩:=e.run z E b d;have h:o=[]:=l4 q;subst h;exists eY _ 0 0,by first|exact .bo|exact bk.leaf b _
 simp[c5,k,m,Sem.run_bind,oi,O_,ia,rk,Sem.run_pure,Result.andThen_ok,oh,o2,aeT (eD:=M.type) l f e.Iq g aa<|i E aa]
def aq3{S cR F:aw}{f:cH}{T w:aP}(k:B (J.put M.dst .bo))(l:M.op=ft {callee:=gP oZ,args:=#[T,w],argTypes:=#[S,cR]}:=by rfl)(r:fC K S (c_ F):=by exact fX)(h:K.find F=W f:=by rfl)(s:val i J.c T=W .bo:=by rfl)(n:kG K i J w cR f.size []:=by first|exact .al rfl rfl rfl rfl ao|exact .nil rfl rfl rfl rfl|exact .str rfl rfl rfl rfl):gg P K p i m ops M J B:=.pure aa (λb d e o=>by obtain⟨_,_,g⟩:=r.eD b;exact at5 g (b.find h).au l (hJ d e s o)<|n.src b d e o) k
end
def k3.take{e:bf}{E:bI}{H:Loc}{aS J:Z}{F:aw}{c:Y V}(s:k3 e E H (.j aS J F c))R:k3 e E H (.j aS J F (am R c)):=by
 let⟨i,k,f⟩:=s;exists i,k;rcases f with⟨f,u⟩|⟨Q,h,aM,l,aX,o,p,m,r⟩;simp_all;let g:∀(b:Z) I,(am R c)[b]?=W I->c[b]?=W I:=λb I d=>by grind
 refine bp ⟨Q,h,aM,l,aX,?_,p,λb I d=>m b I<|g b I d,λb n I T d t=>r b n I T (g b I d) t⟩;refine c9 (Pc (jo _ ?_) _) o
 (simp;omega)
section
variable{P:bn}{p:bJ}
def amJ{S F v:aw}{au ck J:Z}{ap:bq}{T:aP}{id aS b e B:Z}{x:Y V}(G:cu P S (c_ F) au ck)(av:jr P F ap)(aT:a9 (dp ap)=J)(D:M.op=ft {callee:=gP .clear,args:=#[T],argTypes:=#[S]})(aQ:O.val p T=W (.bH id aS b e))(C:O.d[B]?=W (id,.j aS J v x)):eH P p M O .undef (aR O.d B (id,.j aS J v<|am b x)):=.of λz E f y=>by
 let⟨c,L,X,s⟩:=y.bH aQ C;let m:f.le (f.fV id c):=bf.jh λa_ aA=>aq;let same:ce P (c5 (b1 z) M) E=ct (og<|o1 #[]) E->∃aE bO r az ax,f.le r/\bk r az aE/\Holds p r ax bO/\(ce P (c5 (b1 z) M) E=ct (og aE) bO\/aE=undef/\ce P (c5 (b1 z) M) E=ct .skip bO)/\az=V.undef/\ax=aR O.d B (id,.j aS J v<|am b x):=λaI=>
  ⟨o1 #[],E,f.fV id c,.undef,_,m,.undef _,y.cO.pB C L aa (bv _) (λ_=>aa) (bj aa) (bO:=E) ⟨aa,aa,aa,bv _,λ_ _ _=>aa⟩<|(X.take b).mono m λ_ _=>aa,bj aI,aa,aa⟩
 rcases s with⟨_,rfl,n⟩|⟨Q,ba,cap,aM,n,a4,a2,h⟩;exact same (by simp[c5,D,n,oi,oh,o2,Builtin.clear_,run_underlying G.u]);rcases nF e with rfl|a5;exact same (by simp[c5,D,n,oi,oh,o2,Builtin.clear_,run_underlying G.u]);rcases h with h|⟨rfl,h⟩;omega;obtain⟨aN,i,⟨aX,_⟩|⟨aW,k,I,K,aK,aC,aA,aB,R⟩⟩:=X;simp_all;rw[aM] at I;cases I;rw[i] at h aC R;generalize A:a0 (sk (dp ap) e)=g;let aY:U g=e*J:=by rw[<-A,wI,size_zeroCells,aT]
 let aG:∀aE∈g,gE aE:=by intro aE ak;rw[<-A] at ak;exact UU (kY.1 av.one · ·) aE (by simpa using ak)
 let a7:c.base+b*J+e*J<=a9 k:=by rw[aK];refine c9 ?_ h;rw[z1,<-hZ];exact Pc (jo _ q) _
 let aJ:=DB P (c.base+b*J) g 0 k E K q aG;simp[qp] at aJ;refine⟨o1 #[],_,f.fV id c,.undef,_,m,.undef _,y.cO.pB C L aa (bv _) (λ_=>aa) (bj aa) (bO:=E.setRow Q<|aO<|am (c.base+b*J) (a0 k)++g++ay (c.base+b*J+U g) (a0 k))
   ⟨aa,aa,aa,ao,λdQ a3 N=>setRow_other E Q dQ _ λF=>N aq⟩ ?_,bj ?_,aa,aa⟩
 refine⟨aN,i,bp ⟨Q,_,aM,K.set bi,?_,?_,?_,?_,?_⟩⟩
 (simp;omega)
 grind;grind;grind;intro o t H w l ar;rw[m8] at l;split at l;rename_i aD;let⟨aU,aL,aH⟩:=R o t H w l ar;let a1:t<J:=by rw[<-i,<-aB o H l];exact(eX.1 ar).1
 refine⟨aU,?_,aH.mono m⟩;let aF:c.base+o*J+t<c.base+b*J:=by have:(o+1)*J<=b*J:=jo _ aD;rw[pH] at this;omega
 rw[i,um,eS,rh bi,m8,af aF,wH];exact aL;trivial;let N:¬e=0:=q;simp[c5,D,n,Sem.run_bind,oi,O_,ia,rk,Sem.run_pure,Result.andThen_ok,oh,o2,Builtin.clear_];simp[run_underlying G.u,av.run,A,i];simp_all
end
section
variable{P:bn}{K:cI}{p:bJ}{i:Y (Z×V)}{m:Z}
def abZ{S F e:aw}{b:cH}{T:aP}{d g A:Z}{xs:Y V}aC(s:B ({J with az:=il J.az d (.j b.size e aC)}.put M.dst .undef))(t:M.op=ft {callee:=gP .clear,args:=#[T],argTypes:=#[S]}:=by rfl)(w:fC K S (c_ F):=by exact fX)(r:K.find F=W b:=by rfl)(x:val i J.c T=W (.a d g A):=by rfl)(n:ci J.az d=W (.j b.size e xs):=by rfl)(y:a9 (dp b.z)=b.size:=by rfl)(aU:am g xs=aC:=by rfl):gg P K p i m ops M J B:=.AP _ n s λf k l o v u=>by subst aU;obtain⟨_,_,h⟩:=w.eD f;exact amJ h (f.find r).lG y t (hJ k l x o) u
end
def V.oy:V->X|.agg H=>e4 V.flat H|.vec _ _ H=>e4 V.flat H|T=>T.flat
theorem bk.oy{l k:bf}{T:V}{aE:bq}(s:bk l T aE)(c:T.oy):bk k T aE:=by
 by_cases m:∃H,T=.agg H;obtain⟨H,rfl⟩:=m;cases s with|agg xs o e d f=>exact .agg _ _ e d λh w i b g=>(f h w i b g).flat<|qz.1 c w<|dY b
 by_cases aM:∃R z H,T=.vec R z H;obtain⟨R,z,H,rfl⟩:=aM;let c:e4 _ H:=c;cases s with|vec _ _ xs o n e d f=>refine .vec R z _ _ n e d λh w i b g=>(f h w i b g).flat ?_;rcases fp.1 (dY b) with hm|hm;cases z<;>(simp only[fZ.cells,dI] at hm;obtain⟨_,_,rfl⟩:=hm;rfl);grind[qz]
 apply s.flat;cases T<;>first|exact c|simp_all|simp_all
theorem V.YY{T:V}(s:T.oy){o:b6}:T.aB o=T:=by
 let c:∀w:V,w.flat->w.e8 o=w:=λw b=>by cases w<;>first|rfl|trivial
 let d:∀w:V,w.flat->w.jW o=w:=λw b=>by cases w<;>first|rfl|trivial
 cases T with
 |agg H=>let s:e4 _ H:=s;show V.agg _=_;grind[yD]|vec R z H=>let s:e4 _ H:=s;show V.vec R z _=_;grind[yD]|tuple H=>show V.tuple _=_;congr 1;simp[V.oy,V.flat,kY] at s;refine b0 (hY λw b=>?_)<|uo H;have:=s w b;cases w<;>first|rfl|trivial
 |_=>first|rfl|(simp[V.oy,V.flat] at s)
section
variable{P:bn}{p:bJ}
def adQ{ar:fM}{l:aP}{args:bU aP}{r:bU aw}{first i m n:Y V}(L:M.op=ft {callee:=qr l,args:=args,argTypes:=r})(aM:kF P ar)(J:O.val p l=W (.func (c1 ar) first i))(B:pc p O (a0 args) m)(H:th (rv O.d) (first++m++i) n)(N:eN P p.G ar n A)(Q:A.oy):di P p M O A:=by intro z E g c au av y;refine Xa L aM J B c λak ay R=>?_;let⟨f,o,hm,v,x,U⟩:=Holds.view O.d g c.cO;let⟨ax,D⟩:=H.get;let I:Holds ⟨E,λ_=>hP,f,[],p.G,0⟩ f [] E:=⟨bf.le.refl _,⟨aa,aa,aa,bv _,λ_ _ _=>aa⟩,λ_ _ s _=>s,λ_ _ _ s=>bj s,λ_ _ s=>bj s,λ_ _ s=>cf,v,x,λ_ _ s=>cf,ao,λ_ _ _ _ s=>cf,λ_ _ _ _ _ _ _ s=>cf⟩;refine iK (N f ak E _ aq ?_ I λu T h=>(c.gR u T h).mono o) ?_;intro e w aE Z X;let⟨T,h,C⟩:=D e w Z;exact C.gU U aE<|(R e T aE h X).mono o;rintro F am ⟨aE,aA,az,ap,he,⟨rfl,rfl⟩,S,K⟩;let b:=K.t;exact⟨aE,he,y aE am g (bf.le.refl g) (S.oy Q)<|c.cO.grown ⟨b.os,b.tape,b.output,b.size,λe k _=>b.block e k λs=>s⟩⟩
end
inductive Aq(az:bS):V->V->Prop|cell {S n R:Z} {F:aw} {T:V} (s:ci az S=W (.cell F T)) (bC:T.plain) (bu:U T.cells=R):Aq az (.dC S 0 n) (.ref R [T] 0 n)|j {S D n au:Z} {F:aw} {xs:Y V} (s:ci az S=W (.j au F xs)) (k:D<U xs):Aq az (.dC S D n) (.ref au xs D n)|al {S len au:Z} {F:aw} {xs:Y V} (s:ci az S=W (.j au F xs)) (bl:len=U xs):Aq az (.a S 0 len) (.al au xs)|pl {T:V} (s:T.plain):Aq az T T
inductive Ar(az:bS):Y V->Y V->Prop|nil:Ar az [] []|cons {T w:V} {xs aC:Y V} (s:Aq az T w) (S:Ar az xs aC):Ar az (T::xs) (w::aC)
def Aq.qH{b:bS}{T w:V}(s:Aq b T w)aD o:fS (rv (aD++aZ o b)) (T.aB o) w:=by
 cases s
 next s bC d=>subst d;obtain⟨v,bd⟩:=j7 aD s;let bd:(aD++aZ o b)[v]?=W ((o _).1,cB.j _ _ _ _):=bd;rw[V.gc bC] at bd;exact rv.own v 0 _ bd ao
 next s k=>obtain⟨v,bd⟩:=j7 aD s;exact rv.own v _ _ bd k
 next s c=>obtain⟨v,bd⟩:=j7 aD s;exact rv.all v bd c
 next s=>rw[V.gc s];exact .refl _
def Ar.qH{b:bS}aD o:∀{xs aC:Y V},Ar b xs aC->th (rv (aD++aZ o b)) (ab (V.aB o) xs) aC|_,_,.nil=>aa|_,_,.cons s S=>⟨s.qH aD o,Ar.qH aD o S⟩
section
variable{P:bn}{K:cI}{p:bJ}{i:Y (Z×V)}{m:Z}{B:V->Prop}
def UK(d:p.G=i)(e:eh i){H:Y aP}{b:Y V}(s:mz i J.c H=W b)(f:∀T∈H,T∈a0 (j0 M.op))o{aD:bV}:pc p ⟨dt M (da o J.c),aD⟩ H (ab (V.aB o) b):=by grind[DT,dt,OJ,yb,wu]
def kn{ar:fM}{f:aP}{args:bU aP}{u:bU aw}{first b h k:Y V}(x:B A)(n:M.op=ft {callee:=qr f,args:=args,argTypes:=u}:=by rfl)(w:val i J.c f=W (.func (c1 ar) first b):=by rfl)(v:mz i J.c (a0 args)=W h:=by rfl)(g:eN P i ar k A)(xn:Ar J.az (first++h++b) k:=by repeat (first|exact .nil|refine .cons (.pl rfl) ?_|refine .cons (.cell rfl rfl rfl) ?_|refine .cons (.al rfl (by first|rfl|simp)) ?_|refine .cons (.j rfl ah3) ?_))(r:A.oy:=by rfl)(z:e4 V.m3 first:=by rfl)(C:e4 V.m3 b:=by rfl)(aM:kF P ar:=by exact wQ):er P K p i ae M J B:=.n5 (λD e l o=>by rw[V.YY r];let s:∀{H:Y V},e4 _ H->ab _ H=ab (V.aB o) H:=λ{H} y=>hY λT t=>V.Jd<|qz.1 y T t;let m:=xn.qH J.d o;rw[dc,dc,<-s z,<-s C] at m;exact adQ n aM (iU e l w (by rw[n];simp[j0,VJ]) o) (UK e l v (λT t=>pI) o) m (bQ e▸g) r) x
end
section
variable{P:bn}{K:cI}{p:bJ}{i:Y (Z×V)}{m:Z}{B:ep->aN->Prop}
def OP r{b:Y Z}{d:bS}(s:Cl P K p i M J.c d (λA=>B (b,[])<|J.put M.dst A))(bC:BF J.az r=b:=by rfl)(n:lz J.az b=W d:=by rfl)(t:qZ b:=by rfl):mM P K p i m ops M J Rd B:=by let⟨A,e,l⟩:=s;refine .mk b [] A d [] [] bi n aa (bj aa) (bj aa) (λk g h o=>⟨o,dk.refl m o,λ_ _=>aa,λu v w s _=>cf,λaD=>?_⟩) l;obtain⟨x,f,rfl⟩:=e aD;have:=f k g h o _<|bp aa;show eH P p M ⟨dt M _,aD++(aZ o d++[])⟩ _ (aD++(aZ o d++[]));rw[gv];trivial
end
section
variable{P:bn}{p:bJ}
def adR{S F k:aw}{h au ck i dP:Z}{T b:aP}{id aS g n B J c:Z}{l:Y V}{dQ:dd}{ap:L}(y:cu P S (pL h F) au ck)(m:gx P F i dP)(v:M.op=o0 S T b)(D:O.val p T=W (.own id aS g n))(s:O.d[B]?=W (id,.j aS J k l))(o:O.val p b=W (.int dQ ap))(G:ap=(c:L))(r:c<h):di P p M O (.own id aS g (n+c*i)):=.same λz E I f=>by let⟨H,Q,t,w,aM,x,C⟩:=f.own D s;have e:=f.val o;generalize A:b1 z b=K at e;cases e;subst G;refine⟨ib _,.own _ _ _ _ H _ t (by rw[w.1];omega) aa λ_=>⟨Q,aM,aa⟩,?_⟩;simp[c5,v,C,A,Instr.indexAt,Instr.sureAddr,asIntOf,run_underlying y.u,m.kw,r,Addr.add_lit,x]
end
def afd{b_:Type}{H:Y b_}{n:Z}{T:b_}:n<U H->aR H n T=am n H++[T]++ay (n+1) H:=by simp_all[Vr,af]
section
variable{P:bn}{K:cI}{p:bJ}{i:Y (Z×V)}{m:Z}{B:V->Prop}
def kR{S F:aw}{r:cH}{T l:aP}{d m n:Z}{v:b7}{dQ:dd}{ap:L}(b e:Z)(z:B (.dC d 0 e))(A:M.op=o0 S T l:=by rfl)(D:fC K S (pL m F):=by exact fX)(w:K.find F=W r:=by rfl)(E:val i J.c T=W (.dC d 0 n):=by rfl)(u:ci J.az d=W v:=by rfl)(bd:∃f s,v=.cell f s:=by exact⟨_,_,rfl⟩)(x:val i J.c l=W (.int dQ ap):=by rfl)(G:ap=(b:L):=by first|rfl|omega)(y:b<m:=by exact Kj)(kp:e=n+b*r.size:=by first|rfl|(simp only[mC];exact(z4 _).symm)|omega):er P K p i ae M J B:=.n5 (λk g h o=>by subst kp;obtain⟨f,s,rfl⟩:=bd;obtain⟨_,_,t⟩:=D.eD k;obtain⟨H,C⟩:=j7 _ u;exact adR t (k.find w).au A (iU g h E dZ o) C (iU g h x dZ o) G y) z
end
section
variable{P:bn}{K:cI}{p:bJ}{i:Y (Z×V)}{m:Z}
end
section
variable{P:bn}{K:cI}{p:bJ}{i:Y (Z×V)}{m:Z}{B:ep->aN->Prop}
end
section
variable{P:bn}{K:cI}{p:bJ}{i:Y (Z×V)}{m:Z}
def ayu(d:p.G=i)(e:eh i){H:Y aP}{b:Y V}(s:mz i J.c H=W b){o:b6}:pc p (J.aB o) H (ab (V.aB o) b):=DT (d▸e)<|bQ d▸s
end
section
variable{P:bn}{K:cI}{p:bJ}{i:Y (Z×V)}{m:Z}{B:V->Prop}
end
section
variable{P:bn}{K:cI}{p:bJ}{i:Y (Z×V)}{m:Z}
end
section
variable{P:bn}{K:cI}{p:bJ}{m:Z}{o:b6}
theorem atz{b:Y V}(s:∀T∈b,T.plain)o:ab (V.aB o) b=b:=b0 (hY λT c=>V.gc<|s T c)<|uo b
end
inductive GU(az:bS):V->V->Prop|KQ {T w:V} (s:Aq az T w):GU az T w|fn {ar:Fn} {aC zN:Y V} (s:Ar az aC zN) (bA:e4 V.m3 aC):GU az (.func ar [] aC) (.func ar [] zN)
inductive Co(az:bS):Y V->Y V->Prop|nil:Co az [] []|cons {T w:V} {xs aC:Y V} (s:GU az T w) (S:Co az xs aC):Co az (T::xs) (w::aC)
def th.len{b:V->V->Prop}{xs aC:Y V}(s:th b xs aC):U xs=U aC:=s.get.1
def th.at{d:V->V->Prop}:∀{xs aC:Y V},th d xs aC->∀(b:Z) T w,xs[b]?=W T->aC[b]?=W w->fS d T w
|[],aC,s,b,T,w,e,_=>cf|T::xs,[],s,_,_,_,_,_=>s.elim|T::xs,w::aC,s,b,z,Q,c,aM=>by
 cases b;simp at c aM;subst c;subst aM;exact s.1
 next b=>exact th.at s.2 b z Q (by simpa using c) (by simpa using aM)
def GU.qH{c:bS}{T w:V}(s:GU c T w)aD o:fS (rv (aD++aZ o c)) (T.aB o) w:=by
 cases s
 next s=>exact s.qH aD o
 next s e=>rename_i ar aC g;let b:=s.qH aD o;rw[bQ<|hY λT d=>V.Jd<|qz.1 e T d] at b;exact .func ar [] [] _ _ aa (λf T w d _=>cf) b.len (b.at · · · · ·)
def Co.qH{b:bS}aD o:∀{xs aC:Y V},Co b xs aC->th (rv (aD++aZ o b)) (ab (V.aB o) xs) aC|_,_,.nil=>aa|_,_,.cons s S=>⟨s.qH aD o,Co.qH aD o S⟩
section
variable{P:bn}{K:cI}{p:bJ}{i:Y (Z×V)}{m:Z}
def pT{ar:fM}{f:aP}{args:bU aP}{s:bU aw}{first b h k:Y V}(I:B (J.put M.dst A))(x:M.op=ft {callee:=qr f,args:=args,argTypes:=s}:=by rfl)(u:val i J.c f=W (.func (c1 ar) first b):=by rfl)(t:mz i J.c (a0 args)=W h:=by rfl)(g:eN P i ar k A)(D:Co J.az (first++h++b) k:=by repeat (first|exact .nil|refine .cons (.KQ<|.pl rfl) ?_|refine .cons (.KQ<|.cell rfl rfl rfl) ?_|refine .cons (.KQ<|.al rfl (by first|rfl|simp)) ?_|refine .cons (.KQ<|.j rfl ah3) ?_|refine .cons (.fn (.cons (.cell rfl rfl rfl) .nil) rfl) ?_|refine .cons (.fn (.cons (.cell rfl rfl rfl)<|.cons (.cell rfl rfl rfl) .nil) rfl) ?_))(y:A.oy:=by rfl)(z:e4 V.m3 first:=by rfl)(C:e4 V.m3 b:=by rfl)(aM:kF P ar:=by exact wQ):gg P K p i m ops M J B:=⟨λG e l o H ak v F=>by apply cD.pure (A:=A) v;let r:∀{H:Y V},e4 _ H->ab _ H=ab (V.aB o) H:=λ{H} w=>hY λT E=>V.Jd<|qz.1 w T E;let n:=D.qH J.d o;rw[dc,dc,<-r z,<-r C] at n;exact adQ x aM (hJ e l u o) (ayu e l t) n (bQ e▸g) y;grind[dk.refl,aN.r1,V.YY]⟩
end
def oo(T w:V):Prop:=∀b aE,bk b T aE->bk b w aE
theorem oo.refl T:oo T T:=λ_ _ s=>s
def oo.OA{R:Z}{z:fZ}{xs aC:Y V}(e:U z.cells=R)(c:xs=z.cells++aC):oo (.agg xs) (.vec R z aC):=λi aE g=>by subst c;cases g with|agg _ h d b f=>exact .vec R z aC h e d b f
def oo.Ta{R:Z}{z:fZ}{xs aC:Y V}(c:xs=z.cells++aC):oo (.vec R z aC) (.agg xs):=λh aE f=>by subst c;cases f with|vec _ _ _ g i d b e=>exact .agg _ g d b e
section
variable{P:bn}
end
def di.le{P:bn}{p:bJ}{M:a7}{O:bc}{A c:V}(s:di P p M O A)(l:oo A c):di P p M O c:=λz E d i e f h=>s z E d i e f λaE n b g m k=>h aE n b g (l b aE m) k
def Holds.aeq{p:bJ}{d:bf}{aD:bV}{E:bI}{v aE ap:Z}{F:aw}{T w:V}(s:Holds p d (aD++[(v,.j aE ap F [T])]) E)(m:T.cells=w.cells):Holds p d (aD++[(v,.j aE ap F [w])]) E:=by
 let f:∀{id:Z}{M:cB},(id,M)∈aD++[(v,.j aE ap F [w])]->∃c,(id,c)∈aD++[(v,.j aE ap F [T])]/\∀{d:bf}{E:bI}{H:Loc},k3 d E H c->k3 d E H M:=by
  intro id M hm;rcases fp.1 hm with hm|hm;grind;simp at hm;obtain⟨rfl,rfl⟩:=hm;refine⟨_,zY _<|eu.2 aa,λ{d E H} s=>?_⟩;exists s.1,s.2.1;rcases s.2.2 with⟨b,h⟩|⟨Q,o,b,h,i,k,u,x,y⟩;cases h;refine bp ⟨Q,o,b,h,i,k,u,λg I e=>?_,λg n I z e l=>?_⟩;cases g;simp at e;subst e;rw[<-m];exact x 0 T aa
  next g=>trivial
  cases g;simp at e;subst e;rw[<-m] at l;exact y 0 n T z aa l
  next g=>trivial
 let B:ab (·.1) (aD++[(v,cB.j aE ap F [w])])=ab (·.1) (aD++[(v,cB.j aE ap F [T])]):=ao;exact⟨s.le,s.t,s.nl,s.nr,s.ns,λid M hm=>by let⟨c,b,_⟩:=f hm;exact s.own id c b,s.jT,s.lT,λid M hm=>by let⟨c,b,h⟩:=f hm;let⟨H,i,k⟩:=s.gd id c b;simp_all,by rw[B];exact s.kt,λid M H Q hm=>by let⟨c,b,_⟩:=f hm;exact s.ld id c H Q b,λid M C c H D Q hm A=>by let⟨G,b,_⟩:=f hm;let⟨J,r,_⟩:=f A;exact s.inj id G C J H D Q b r⟩
theorem fZ.Sc{H:Y X}:(fZ.km H).cells.length=U H:=bm _
theorem fZ.C_{H:Y X}{D:Z}(s:D<U H){agl:Y V}:((fZ.km H).cells++agl)[D]?=W (.bool (y H D ae)):=by rw[rh (by grind[fZ.Sc])];show(ab _ H)[D]?=_;simp_all
def fZ.awc{H:Y X}{b:Z}(s:b<U H){Q:X}{c:Y V}:aR ((fZ.km H).cells++c) b (.bool Q)=(fZ.km (aR H b Q)).cells++c:=by rw[List.set_append,af (by grind[fZ.Sc])];show aR (ab _ H) b _++_=ab _ (aR H b Q)++_;simp
def fZ.an1{z:fZ}{R b:Z}(s:U z.cells=R){c:Y V}:(z.cells++c)[R+b]?=c[b]?:=by grind
def fZ.awk{z:fZ}{R b:Z}(s:U z.cells=R){c:Y V}{T:V}:aR (z.cells++c) (R+b) T=z.cells++aR c b T:=by simp_all
section
variable{P:bn}{p:bJ}
def as2{S F:aw}{I:iz}{k au ck R dP c n K:Z}{z:fZ}{l:Y V}{T e:aP}{A:V}{B:dd}{ap:L}{b:Z}(y:cu P S (pL k F) au ck)(r:cu P F I R dP)(o:nY I=ae)(x:gx P F c n)(v:M.op=.index S T e)(H:O.val p T=W (.vec K z l))(t:O.val p e=W (.int B ap))(J:ap=(b:L))(s:b<k)(h:(z.cells++l)[b*c]?=W A):di P p M O A:=.same λz E N g=>by
 have d:=g.val H;have f:=g.val t;generalize D:b1 z T=aE at d;generalize C:b1 z e=X at f;subst J;cases f;cases d with
 |vec _ _ _ m Q G d w=>
  have i:b*c<U m:=by rw[<-G];exact(eX.1 h).1
  refine⟨m[b*c],w _ _ _ h<|cT i,?_⟩;simp[c5,v,D,C,Instr.index,asIntOf,run_underlying y.u,x.kw,s,part,r.vb,o,i]
end
section
variable{P:bn}{K:cI}{p:bJ}{i:Y (Z×V)}{m:Z}{B:V->Prop}
def gY{S F:aw}{f:cH}{T:aP}{g R:Z}{z:fZ}{b:Y V}(s:B (.vec R z b))(h:M.op=.load S T:=by rfl)(w:K.find S=W f:=by rfl)(n:f.agg:=by rfl)(x:val i J.c T=W (.dC g 0 0):=by rfl)(r:ci J.az g=W (.cell F<|.vec R z b):=by rfl)(bu:U z.cells=R:=by first|assumption|(simp[fZ.cells];done)|(simp[fZ.cells];omega))(t:R+U b=f.size:=by rfl)(bC:(V.vec R z b).plain:=by rfl):er P K p i ae M J B:=.n5 (λm k l o=>by
 obtain⟨v,e⟩:=j7 _ r;let e:(J.d++aZ o _)[v]?=W ((o g).1,cB.j _ _ F _):=e;rw[V.gc bC] at e⊢;let u:U (z.cells++b)=f.size:=by rw[cd,bu,t]
 refine di.le (Tr ((m.find w).Cs n) h (iU k l x (by rw[h];simp[j0]) o) e aa ?_ u)<|oo.OA bu aa;show am _ (ay 0 (z.cells++b))=_;grind) s
def Fx{S:aw}{e:cH}{T:aP}{au n b:Z}{d:Y V}{w:V}{t:X}A(l:B A)(m:M.op=.load S T:=by rfl)(r:K.find S=W e:=by rfl)(k:e.agg=ae:=by rfl)(s:val i J.c T=W (.ref au d b n):=by rfl)(u:d[b]?=W w:=by exact Hx)(fi:w.cells[n]?=W A:=by first|rfl|exact fZ.C_ Ec|exact fZ.Zs _ _ _ Ec _)(bC:A.plain:=by rfl):er P K p i t M J B:=.of bC (λh f g o aD=>by let bd:=h.find r;exact adg (bd.g5<|bd.r6 k) (j2 bd.jw aq) m (hK f g s dZ aa) u fi) l
def hU{S F:aw}{f:cH}{T:aP}{b n:Z}{G w:V}A(t:B A)(e:M.op=.load S T:=by rfl)(y:K.find S=W f:=by rfl)(z:val i J.c T=W G:=by rfl)(u:G=.dC b 0 n\/G=.lc b 0 n:=by exact rp)(r:ci J.az b=W (.cell F w):=by rfl)(m:f.agg=ae:=by rfl)(fi:w.cells[n]?=W A:=by first|rfl|exact fZ.C_ Ec|exact fZ.Zs _ _ _ Ec _|exact qT Ec)(s:w.fits:=by rfl)(g:A.one:=by rfl):er P K p i ae M J B:=.n5 (λl h k o=>by let bd:=l.find y;obtain⟨v,x⟩:=j7 _ r;rw[V.FA g];let C:=iU h k z (by rw[e];simp[j0]) o (aD:=(J.aB o).d);exact IJ (bd.g5<|bd.r6 m) (j2 bd.jw aq) e (by rcases u with rfl|rfl<;>exact C) x aa (by rw[V.qY s,db,fi];rfl)) t
def SP{S F:aw}{e:cH}{T k:aP}{R:Z}{z:fZ}{f:Y V}{A:V}{l:Z}{dQ:dd}{ap:L}{t:X}{D:Z}(u:B A)(v:M.op=.index S T k:=by rfl)(x:fC K S (pL l F):=by exact fX)(d:K.find F=W e:=by rfl)(n:e.agg=ae:=by rfl)(y:val i J.c T=W (.vec R z f):=by rfl)(s:val i J.c k=W (.int dQ ap):=by rfl)(C:ap=(D:L):=by first|rfl|omega)(r:D<l:=by exact Kj)(bl:(z.cells++f)[D]?=W A:=by first|exact fZ.C_ Ec|exact fZ.Zs _ _ _ Ec _)(bC:(V.vec R z f).plain:=by rfl)(w:A.plain:=by rfl)(E:e.size=1:=by rfl):er P K p i t M J B:=.of w (λb g h o aD=>by obtain⟨_,_,m⟩:=x.eD b;exact as2 m ((b.find d).g5<|(b.find d).r6 n) ((b.find d).jw.resolve_left aq) (b.find d).au v (hK g h y dZ bC) (hK g h s dZ aa) C r aq) u
end
section
variable{P:bn}{K:cI}{p:bJ}{i:Y (Z×V)}{m:Z}
def acg{T:V}{o:b6}(s:T.one):T.e8 o=T.aB o:=bQ<|V.FA s
def sX{S F:aw}{g:cH}{G T:aP}{e n:Z}{f w b:V}d(A:B ({J with az:=il J.az e (.cell F d)}.put M.dst .undef))(D:M.op=.store S G T:=by rfl)(N:K.find S=W g:=by rfl)(bC:val i J.c G=W f:=by rfl)(O:val i J.c T=W b:=by rfl)(E:f=.dC e 0 n\/f=.lc e 0 n:=by exact rp)(t:ci J.az e=W (.cell F w):=by rfl)(k9:n<U w.cells)(aU:aR w.cells n b=d.cells)(x:w.fits:=by rfl)(y:d.fits:=by rfl)(h:b.one:=by rfl)(L:g.size=1:=by rfl):gg P K p i m ops M J B:=.AP _ t A λr k l o v H=>by
 have u:(b.aB o).cells=[b.aB o]:=FE<|V.M5 h;have I:(d.aB o).cells=(w.aB o).cells.take n++(b.aB o).cells++(w.aB o).cells.drop (n+g.size):=by rw[V.qY y,<-aU,V.qY x,u,L,afd k9,dc,dc,Gu,JZ,<-acg h];rfl
 have z:b.fits:=by cases b<;>first|rfl|trivial
 have C:U w.cells=U d.cells:=by rw[<-aU,nC]
 have s:=Hn (r.find N).au D (by have:=hJ k l bC o;rcases E with rfl|rfl<;>exact this) H aa (hJ k l O o) (V.xI z) aq (by(simp[V.xH];omega)) I;rw[C] at s;exact s
def mv{S:aw}{f:cH}{I:Z}T(A:B (J.fresh I (.cell S T) (.dC I 0 0)))(s:M.op=.alloc S:=by rfl)(n:M.dst=W I:=by rfl)(h:g8 I m:=by rfl)(e:K.find S=W f:=by rfl)(e5:T.cells=(V.zero f.z).cells:=by rfl)(bC:T.plain:=by rfl)(y:T.fits:=by rfl):gg P K p i m ops M J B:=⟨λl u w o H ak r x=>by
 let h:=ll (show hB _ m=ag from h);refine cD.alloc r s (l.find e).lG aa λv=>?_;rw[n];let t:a9 (dp f.z)=U T.cells:=by rw[e5,V.ag1]
 refine cD.toR (g1:=({J.aB o with d:=(J.aB o).d++[(v,.j 0 _ S [T.aB o])]}:bc).put (W I) _) (λz E k b=>?_)<|cD.toR (λz E k b=>a_.fresh (λS e=>hd e) (qJ:=.dC I 0 0) (by simp[V.aB,V.jW,V.e8,V.e0,iT];exact .refl _) Ql b) ?_;rw[V.gc bC];refine⟨?_,b.c,b.gR,b.size,b.defers⟩;let g:=b.cO;rw[t] at g;exact g.aeq<|bQ e5;grind[dk.of,hd]⟩
end
def y6(I au:Z)(aC:Y V):V->V
|.a S c len=>match ef S I with
 |ag=>.undef|ae=>.a S c len
|.dC S b n=>match ef S I with
 |ag=>match b with|0=>.ref au aC 0 n|_+1=>.undef
 |ae=>.dC S b n
|.eA S=>match ef S I with
 |ag=>.undef|ae=>.eA S
|.oG S=>match ef S I with
 |ag=>.undef|ae=>.oG S
|.lc S b n=>match ef S I with
 |ag=>.undef|ae=>.lc S b n
|T=>T
abbrev L7(I au:Z)(aC:Y V):V->V:=xy<|y6 I au aC
inductive Ch(id aS au:Z)(aC:Y V):V->V->Prop|dC (n:Z) (s:0<U aC):Ch id aS au aC (.own id aS 0 n) (.ref au aC 0 n)|my (T w:V) (s:hC T w):Ch id aS au aC T w
theorem Ch.one{id aS au:Z}{aC:Y V}:wZ (Ch id aS au aC):=λT w s=>by cases s with|dC=>exists aa|my _ _ s=>exact hC.one _ _ s
section
variable{o:b6}(iO:0<U aC)
include iO
theorem aoc T:fS (Ch (o I).1 (o I).2 au aC) (T.e0 o) ((y6 I au aC T).e0 o):=by
 cases T with
 |a S c len=>simp[y6];split;exact .base _ _<|.my _ _<|.bH ..;exact .refl _|dC S b n=>
  simp[y6];split;rename_i s;have:=nE s;subst this;cases b;exact .base _ _ (.dC n iO)
  next b=>exact .base _ _<|.my _ _<|.own ..
  exact .refl _|eA S=>simp[y6];split;exact .base _ _<|.my _ _<|.jj ..;exact .refl _|oG S=>simp[y6];split;exact .base _ _<|.my _ _<|.own ..;exact .refl _|lc S b n=>simp[y6];split;exact .base _ _<|.my _ _<|.own ..;exact .refl _|_=>exact .refl _
omit iO in
theorem ZA:Ah (y6 I au aC):=λT=>by cases T<;>first|exact bj aa|(simp only[y6];split<;>first|exact bj aa|exact bp ⟨aa,aa⟩|(split<;>exact bp ⟨aa,aa⟩))
theorem ZB T:fS (Ch (o I).1 (o I).2 au aC) (T.aB o) ((L7 I au aC T).aB o):=Fm ZA .qH (λT _=>aoc iO T) λ_=>Nz (λ_=>b5) T
end
def aN.vW(J:aN)(I au:Z)(aC:Y V):aN:=⟨xA (L7 I au aC) J.c,qW I (L7 I au aC) J.az,J.d⟩
def a_.vW{p:bJ}{J:aN}{o:b6}{I au:Z}{F:aw}{T:V}{z:fI}{E:bI}{f:bf}(k:ci J.az I=W (.cell F T))(bC:T.plain)(x:U T.cells=au)(s:a_ p (J.aB o) z E f):∃b,a_ p ((J.vW I au [T]).aB o) z E b:=by
 subst x;let c:0<U [T]:=GB;let⟨B,g,K,h,i⟩:=SH (u:=L7 I (U T.cells) [T]) (aQ:=o) (Fo ZA) (λ_ _=>aa) k λ_ _ T _ _=>ZB (o:=o) c T;let r:(J.aB o).d[U J.d+B]?=W ((o I).1,.j (o I).2 (U T.cells) F [T]):=by show(J.d++aZ o J.az)[_]?=_;rw[s9 q,show U J.d+B-U J.d=B by omega,g];simp[b7.aD,V.gc bC]
 let⟨b,t,hm,e,H,D,A,v,l⟩:=s.cO.freeze r;let he:(J.aB o).d.eraseIdx (U J.d+B)=J.d++iB (aZ o J.az) B:=by show iB (J.d++aZ o J.az) _=_;rw[ahp q];congr 2;omega
 rw[he] at e;let m:=e.drop<|yf (yg _) h;refine⟨b,a_.rD s t m (λw ap aM aE y=>?_) Ch.one (λS w C=>?_)<|cY.rA i<|cY.refl J.d⟩;cases aM with|dC n iO=>exact tk.key aq A v l _ _ (tk.own 0 n GB) aE y|my _ _ G=>grind[hC.gU]
 exact MK (λS T _=>ZB c T) S w C
def QS{P:bn}{p:bJ}{m:Z}{e:b6}{d:Y hn}{b:V->bV->Prop}{c:cS}{J:aN}I au{F:aw}{T:V}(s:ic P p m e d b c (J.vW I au [T]))(k:ci J.az I=W (.cell F T):=by rfl)(bC:T.plain:=by rfl)(l:U T.cells=au:=by rfl):ic P p m e d b c J:=⟨s.he,λo i z E n g=>by let⟨f,h⟩:=a_.vW k bC l g;exact s.run o i z E f h⟩
def a1.vW{P:bn}{p:bJ}{m:Z}{J:aN}{n:gw}{ak:cS->aN->Prop}I au{F:aw}{T:V}(s:a1 P p m n (J.vW I au [T]) ak)(g:ci J.az I=W (.cell F T):=by rfl)(bC:T.plain:=by rfl)(h:U T.cells=au:=by rfl):a1 P p m n J ak:=⟨λo c d z E i e=>by let⟨b,f⟩:=a_.vW g bC h e;exact s.run o c d z E b f⟩
section
variable{P:bn}{p:bJ}
def QN{ar:fM}{e:aP}{args:bU aP}{l:bU aw}{first c mm:Y V}{pass Ns rest b:bV}(v:M.op=ft {callee:=qr e,args:=args,argTypes:=l})(aM:kF P ar)(u:O.val p e=W (.func (c1 ar) first c))(t:pc p O (a0 args) mm)(x:g7 (pass++rest) O.d)(w:g3 P p.G ar (first++mm++c) pass (·=A/\·=Ns))(bC:g7 (Ns++rest) b):eH P p M O A b:=λz E h s i k r=>
 tj.call (uv:=λf aD=>f=A/\aD=b) v aM u t x w (by rintro A M ⟨rfl,rfl⟩;exists _,bC.symm,aa) z E h s i k (by rintro f aD aE y g ⟨rfl,rfl⟩ m n o;exact r aE y g m n o)
end
def HL:bS->X|[]=>ag|(R,_)::A=>match hB 6000 R with|ag=>HL A|ae=>ae
def ZI:∀{H:bS},HL H->∀v∈H,6000<=v.1|(R,G)::A,s,v,bd=>by rw[HL] at s;split at s;rcases fH.1 bd with rfl|bd;simp_all;exact ZI s v bd;simp_all
section
variable{P:bn}{K:cI}{p:bJ}{i:Y (Z×V)}{m:Z}{B:ep->aN->Prop}
def agY d b{ar:fM}{s:aP}{args:bU aP}{y:bU aw}{first e k xs:Y V}{os cG:bS}(L:B ([],ab (·.1) b) ({J with az:=oa J.az b}.put M.dst A))(u:M.op=ft {callee:=qr s,args:=args,argTypes:=y}:=by rfl)(F:val i J.c s=W (.func (c1 ar) first e):=by rfl)(C:mz i J.c (a0 args)=W k:=by rfl)(g:mL P i ar xs os A cG)(x:ab (qd<|dO d) xs=first++k++e:=by rfl)(ap:e4 (pa<|lU os) xs:=by rfl)(Q:nS (lU os) os:=by rfl)(am:lz J.az (ab (·.1) b)=W (os.map λG=>(dO d G.1,G.2.ge<|dO d)):=by rfl)(z:ab (·.2) b=ab (λG=>(dO d G.1,G.2.ge<|dO d)) cG:=by rfl)(N:qZ (ab (·.1) b):=by rfl)(O:ab (·.1) cG=ab (·.1) os:=by rfl)(I:HL cG:=by rfl)(h:nS (lU cG) cG:=by rfl)(w:A.plain:=by rfl)(X:e4 V.m3 first:=by rfl)(Z:e4 V.m3 e:=by rfl)(aM:kF P ar:=by exact wQ):mM P K p i m ops M J Rd B:=by
 refine .mk [] b A [] (os.map λG=>(dO d G.1,G.2.ge<|dO d)) [] N aa am (bj aa) (bj aa) (λay l t o=>⟨o,dk.refl m o,λ_ _=>aa,λr v f bd n=>?_,λaD=>?_⟩) L;let av:(ab (·.2) b)[r]?=W f.2:=by rw[db,n];rfl
 rw[db] at bd;let ax:(ab (·.1) cG)[r]?=(ab (·.1) os)[r]?:=by rw[O]
 grind;let dg:=dO d;let lH:b6:=λR=>o<|dg R;let H:=iU l t F (by rw[u];simp[j0,VJ]) o (aD:=aD++aZ o (os.map λG=>(dg G.1,G.2.ge dg)));let E:=UK (M:=M) l t C (λT x=>pI) o (aD:=aD++aZ o (os.map λG=>(dg G.1,G.2.ge dg)));let aq:=Tw (o:=o) x ap X Z;let aC:=ID (o:=o) (lH:=lH) (λS _=>aa) Q;let aA:aZ o (ab (·.2) b)=aZ lH cG:=by rw[z];exact bQ<|ID (λS _=>aa) h
 let U:g3 P p.G ar (ab (V.e0 o) first++ab (V.aB o) k++ab (V.e0 o) e) (aZ lH os) (·=A/\·=aZ lH cG):=by rw[aq];refine(bQ l▸g lH).mono λaF aE=>?_;rintro⟨au,D,rfl,rfl⟩;exists V.gc w;simp only[aZ];refine hY λv bd=>?_;refine b7.KG (G:=lU cG) (λS ak=>?_) (tr h v bd).1 (tr h v bd).2;obtain⟨f,n,rfl⟩:=dI.1<|qU.1 ak;have:=ZI I f n;exact D.eq f.1 q
 show eH P p M ⟨dt M (da o J.c),aD++([]++aZ o (os.map λG=>(dg G.1,G.2.ge dg)))⟩ _ (aD++([]++aZ o (ab (·.2) b)));rw[V.gc w,na,na];refine QN u aM H E (pass:=aZ lH os) (Ns:=aZ lH cG) (rest:=aD) ?_ U ?_;grind[List.perm_append_comm];grind[List.perm_append_comm]
def zM{S F:aw}{k:cH}{G T:aP}{b n f:Z}{h w d:V}e(C:B ([],[f]) ({J with az:=s3 J.az f (b,.cell F e)}.put M.dst .undef))(t:M.op=.store S G T:=by rfl)(L:K.find S=W k:=by rfl)(bC:val i J.c G=W h:=by rfl)(N:val i J.c T=W d:=by rfl)(E:h=.dC b 0 n\/h=.lc b 0 n:=by exact rp)(Q:qa J.az b 0=W f:=by rfl)(O:sK J.az f=W (b,.cell F w):=by rfl)(k9:n<U w.cells)(aU:aR w.cells n d=e.cells)(y:w.fits:=by rfl)(z:e.fits:=by rfl)(l:d.one:=by rfl)(I:k.size=1:=by rfl):mM P K p i m ops M J Rd B:=by
 refine .mk [] [(f,(b,.cell F e))] _ [] [(b,.cell F w)] [] aa aa yo (bj aa) (bj aa)
  (λu r s o=>⟨o,dk.refl m o,λ_ _=>aa,λX v Y bd R=>by grind,λaD=>?_⟩) C
 let x:(d.aB o).cells=[d.aB o]:=FE<|V.M5 l;let H:(e.aB o).cells=(w.aB o).cells.take n++(d.aB o).cells++(w.aB o).cells.drop (n+k.size):=by rw[V.qY z,<-aU,V.qY y,x,I,afd k9,dc,dc,Gu,JZ,<-acg l];rfl
 let A:d.fits:=by cases d<;>first|rfl|grind[V.one]
 let D:U e.cells=U w.cells:=by rw[<-aU,nC]
 let g:=vi r s bC (by rw[t];simp[j0]) (o:=o) (aD:=aD++[((o b).1,cB.j (o b).2 (U w.cells) F [w.aB o])]);let g:bc.val p ⟨dt M<|da o J.c,aD++[((o b).1,cB.j (o b).2 (U w.cells) F [w.aB o])]⟩ G=W (.own (o b).1 (o b).2 0 n):=by rcases E with rfl|rfl<;>exact g
 have:=Hn (u.find L).au t g za aa (vi r s N dZ) (V.xI A) aq Kh H;simp at this;show eH P p M _ _ (aD++[((o b).1,.j _ _ F _)]);rw[D];exact this
def DZ{S F:aw}{g:cH}{G T:aP}{b f:Z}{w e:V}d(t:B ([],[f]) ({J with az:=s3 J.az f (b,.cell F d)}.put M.dst .undef))(n:U e.cells=g.size)(x:M.op=.store S G T:=by rfl)(z:K.find S=W g:=by rfl)(bC:val i J.c G=W (.dC b 0 0):=by rfl)(A:val i J.c T=W e:=by rfl)(D:qa J.az b 0=W f:=by rfl)(C:sK J.az f=W (b,.cell F w):=by rfl)(Rs:d.cells=e.cells:=by rfl)(fh:U w.cells=g.size)(l:e.fits:=by rfl)(s:d.fits:=by rfl):mM P K p i m ops M J Rd B:=by
 refine .mk [] [(f,(b,.cell F d))] _ [] [(b,.cell F w)] [] aa aa yo (bj aa) (bj aa)
  (λr h k o=>⟨o,dk.refl m o,λ_ _=>aa,λH v I bd E=>by grind,λaD=>?_⟩) t
 let y:(d.aB o).cells=(w.aB o).cells.take 0++(e.aB o).cells++(w.aB o).cells.drop (0+g.size):=by rw[Ea,na,mC,kA (by simp_all[V.xH,bv]),gv,V.qY s,V.qY l,Rs]
 have:=Hn (O:=⟨dt M _,aD++[((o b).1,.j _ (U w.cells) F [w.aB o])]⟩) (r.find z).au x (vi h k bC dZ) za aa (vi h k A dZ) (V.xI l) Kh Kh y;simp at this;show eH P p M _ _ (aD++[((o b).1,.j _ _ F _)]);let u:U d.cells=U w.cells:=by rw[Rs,n,fh]
 rw[u];exact this
end
section
variable{P:bn}{K:cI}{p:bJ}{i:Y (Z×V)}{m:Z}
def kT{S F:aw}{e:cH}{G T:aP}{f:Z}{w b:V}d(u:B ({J with az:=il J.az f (.cell F d)}.put M.dst .undef))(y:M.op=.store S G T:=by rfl)(C:K.find S=W e:=by rfl)(bC:val i J.c G=W (.dC f 0 0):=by rfl)(D:val i J.c T=W b:=by rfl)(r:ci J.az f=W (.cell F w):=by rfl)(l:d.cells=b.cells:=by rfl)(h1:U b.cells=e.size)(fh:U w.cells=e.size)(k:b.fits:=by rfl)(t:d.fits:=by rfl):gg P K p i m ops M J B:=.AP _ r u λn g h o v z=>by
 let A:(d.aB o).cells=(w.aB o).cells.take 0++(b.aB o).cells++(w.aB o).cells.drop (0+e.size):=by rw[Ea,na,mC,kA (by simp_all[V.xH,bv]),gv,V.qY t,V.qY k,l]
 let x:U w.cells=U d.cells:=by rw[l,h1,fh]
 have s:=Hn (n.find C).au y (hJ g h bC o) z aa (hJ g h D o) (V.xI k) Kh Kh A;rw[x] at s;exact s
end
section
variable{P:bn}{K:cI}{p:bJ}{i:Y (Z×V)}{m:Z}
def acy{S F:aw}{b f:cH}{G:Z}{r:bU (Z×aP)}{mm:Y (Z×V)}{h:Y V}T(v:B (J.put M.dst T))(aM:rB (λE=>W (E*f.size,f.size)) (V.zero b.z).cells mm=W h)(D:oo (.agg h) T)(w:M.op=.build S r:=by rfl)(n:K.find S=W b:=by rfl)(t:b.d=pL G F:=by rfl)(C:b.O=ae:=by rfl)(u:K.find F=W f:=by rfl)(A:sZ i J.c (a0 r)=W mm:=by rfl)(y:xS (ab (·.2) mm):=by rfl)(x:T.plain:=by rfl):gg P K p i m ops M J B:=.pure x (λe l s o=>by let g:=(e.find n).g5 C;rw[t] at g;obtain⟨k,_⟩:=Nr (l▸s)<|bQ l▸A;rw[abz y] at k;exact di.le (ade g (e.find u).au (e.find n).lG w k aM) D) v
end
section
variable{P:bn}{K:cI}{p:bJ}{i:Y (Z×V)}{B:V->Prop}
def cU.ayx{S:aw}{T w:aP}{R h:Z}{z c:fZ}{H d:Y V}{Q:X}(s:wU P S (z.cells++H) (c.cells++d) Q):cU P .eql S T w (.vec R z H) (.vec h c d) (.bool Q):=by intro b aE e E f g;exact cU.Wk s b aE e E (oo.Ta aa b aE f)<|oo.Ta aa b e g
def arm{S jL:aw}{T w:aP}{R g:Z}{z b:fZ}{H d:Y V}(Q:X)(s:wU P S (z.cells++H) (b.cells++d) Q)(h:B (.bool Q))(k:M.op=lI .eql S T w jL:=by rfl)(n:val i J.c T=W (.vec R z H):=by rfl)(r:val i J.c w=W (.vec g b d):=by rfl)(l:(V.vec R z H).plain:=by rfl)(m:(V.vec g b d).plain:=by rfl):er P K p i t M J B:=.of aa (λu e f o aD=>zq k (hK e f n dZ l) (hK e f r dZ m)<|cU.ayx s) h
end
def OH{b_:Type}{ar:b_->V}{d:b_->bq}(e:∀b T aE,bk b (ar T) aE->aE=d T){b:bf}:∀{H:Y b_}{sa:Y bq},U sa=U H->(∀(c:Z) T aE,(ab ar H)[c]?=W T->sa[c]?=W aE->bk b T aE)->sa=ab d H|[],sa,s,_=>aq|T::H,[],s,_=>aK|T::H,g::sa,s,f=>by rw[ia,e b T g<|f 0 _ g aa aa,OH e (H:=H) (sa:=sa) aq λc w aE i h=>f (c+1) w aE aq aq]
def aiZ{b_:Type} [hO b_]I:∀(xs aC:Y b_),U xs=U aC->(dh (bM (U xs)) λb=>aH<|y xs b I=y aC b I)=aH (xs=aC):=λxs aC s=>by rw[nA,kk,kY];constructor;intro e;refine rg s λb c d=>?_;simp_all;simp_all
def aeX{P:bn}{E:bI}{b_:Type} [hO b_](d:b_)c I S F{R au ck s dP:Z}{e:iz}(n:cu P S (pL R F) au ck)(g:cu P F e 1 dP)(f:nY e=ae)(m:gx P F 1 s)(l:∀z Q,ce P (nH (I+1) F (c z) (c Q)) E=ct (aH (z=Q)) E)(xs aC:Y b_)(i:U xs=R)(o:U aC=R):ce P (nH (I+2) S (h0 (aO (ab c xs))) (h0 (aO (ab c aC)))) E=ct (aH (xs=aC)) E:=by
 rw[<-aiZ d xs aC (b0 i<|bQ o),i,List.range_eq_range',nH];simp only[Sem.run_bind,run_underlying n.u,Result.andThen_ok,m.kw,Std.Legacy.Range.forIn_eq_forIn_range',Std.Legacy.Range.size,J8,Vt,J2];have h:∀b∈List.range' 0 R 1,b<R:=λb k=>aq;generalize List.range' 0 R 1=H at h⊢
 induction H
 simp
 next b H t=>
  have:b<R:=h b ao;have p:ce P (part F (aO (ab c xs)) (b*1)) E=ct (c (y xs b d)) E:=by unfold part;simp[Sem.run_bind,g.vb,f];simp[cT<|show b<U xs by omega]
  have r:ce P (part F (aO (ab c aC)) (b*1)) E=ct (c (y aC b d)) E:=by unfold part;simp[Sem.run_bind,g.vb,f];simp[cT<|show b<U aC by omega]
  simp only[List.forIn_cons,Sem.run_bind,p,r,l,Result.andThen_ok,JV];cases aM:aH (y xs b d=y aC b d);simp;simp_all
def V.wF:V->Prop|.agg _=>dW|.vec R z _=>U z.cells=R|_=>hP
theorem V.ayU{T:V}(s:T.wF)o:oo (.agg (T.aB o).cells) (T.aB o):=by cases T with|agg H=>exact oo.refl _|vec R z H=>exact oo.OA s aa|_=>exact s.elim
inductive uB(K:cI)(c:Y (Z×V))(az:bS):Y hn->Y V->Prop|nil:uB K c az [] []|tmp {S:Z} {A:Y hn} {T:V} {xs:Y V} (s:gr c S=W T) (v:uB K c az A xs):uB K c az (.tmp S::A) (T::xs)|nU {Q xJ:Z} {S F:aw} {kX:cH} {A:Y hn} {el:V} {xs:Y V} (s:gr c Q=W (.dC xJ 0 0)) (mo:ci az xJ=W (.cell F el)) (bW:K.find S=W kX) (azp:kX.agg) (aot:el.fits) (hw:el.wF) (bl:U el.cells=kX.size) (v:uB K c az A xs):uB K c az (.cell Q S::A) (el::xs)|cell {Q xJ:Z} {S F:aw} {kX:cH} {A:Y hn} {el T:V} {xs:Y V} (s:gr c Q=W (.dC xJ 0 0)) (mo:ci az xJ=W (.cell F el)) (bW:K.find S=W kX) (aot:el.fits) (bC:q3 el.cells 0 kX.size kX.agg=W T) (v:uB K c az A xs):uB K c az (.cell Q S::A) (T::xs)
section
variable{P:bn}{K:cI}{p:bJ}{m:Z}{o:b6}
def uB.run(X:gy P K){z:fI}{E:bI}{i:bf}(s:a_ p (J.aB o) z E i){N:Y hn}{D:Y V}(aA:uB K J.c J.az N D):∃b,U b=U (ab (V.aB o) D)/\ce P (N.mapM (t_ z.tmps)) E=ct b E/\∀(g:Z) T aE,(ab (V.aB o) D)[g]?=W T->b[g]?=W aE->bk i T aE:=by
 let step:∀{Q k:Z}{S F:aw}{e:cH}{A:Y hn}{f T:V}{xs:Y V},gr J.c Q=W (.dC k 0 0)->ci J.az k=W (.cell F f)->K.find S=W e->f.fits->e.agg/\oo (.agg<|ab (V.e8 o)<|am e.size<|ay 0 f.cells) (T.aB o)/\U (am e.size<|ay 0 f.cells)=e.size\/e.agg=ae/\f.cells[0]?=W T/\T.one->(∃b,U b=U (ab (V.aB o) xs)/\ce P (A.mapM<|t_ z.tmps) E=ct b E/\∀(g:Z) T aE,(ab (V.aB o) xs)[g]?=W T->b[g]?=W aE->bk i T aE)->∃b,U b=U (ab (V.aB o)<|T::xs)/\ce P ((ResultVar.cell Q S::A).mapM<|t_ z.tmps) E=ct b E/\∀(g:Z) w aE,(ab (V.aB o)<|T::xs)[g]?=W w->b[g]?=W aE->bk i w aE:=by
  intro Q k S F e A f T xs aM ap aD ar ax au;obtain⟨b,v,m,R⟩:=au;obtain⟨B,G⟩:=j7 (o:=o) J.d ap;let M:(J.aB o).val p (.tmp Q)=W ((V.dC k 0 0).aB o):=by show cX Q (da o J.c)=_;rw[mU,<-sQ,aM];rfl
  let bd:=X.find aD;let t:=V.qY (o:=o) ar;let aH:∃aE,bk i (T.aB o) aE/\ce P (do loadVar S (<-asAddr (b1 z<|.tmp Q))) E=ct aE E:=by rcases ax with⟨h,av,m⟩|⟨h,r,l⟩;obtain⟨I,aJ,u,O⟩:=(bd.Cs h).eD;obtain⟨aE,C,L⟩:=Sm u O M G aa (v7:=ab (V.e8 o)<|am e.size<|ay 0 f.cells) aq (by rw[bm];exact m) s;exists aE,av i aE C;rw[V.FA l];exact Sl (bd.g5<|bd.r6 h) (j2 bd.jw (by simp[h])) M G aa aq s
  obtain⟨aE,aC,L⟩:=aH;refine⟨aE::b,by simpa using v,?_,λg w aI aG aF=>?_⟩;simp[D5,Sem.run_bind];have:ce P (t_ z.tmps (.cell Q S)) E=ct aE E:=L;rw[this];simp[m];grind
 induction aA
 simp
 next S A T xs aL _ n=>obtain⟨b,v,m,R⟩:=n;obtain⟨aE,C,aC⟩:=s.c S (T.aB o) (by show cX S (da o J.c)=_;grind[mU,sQ]);refine⟨aE::b,by simpa using v,?_,λg w aI aG aF=>?_⟩;simp[D5,Sem.run_bind];simp[t_,BZ,C,m];grind
 next Q k S F e A f xs aM t y ak x aK H _ n=>
  let u:am e.size (ay 0 f.cells)=f.cells:=by rw[qn,<-H,iJ]
  refine step aM t y x (bj ⟨ak,?_,by rw[u];exact H⟩) n;grind[V.qY,V.ayU]
 next Q k S F e A f T xs aM t y x bC _ n=>refine step aM t y x ?_ n;cases h:e.agg with|true=>rw[h] at bC;obtain⟨r,l⟩:=FO bC;exact bj ⟨aa,by rw[r];exact oo.refl _,l⟩|false=>rw[h] at bC;obtain⟨r,l⟩:=FP bC;exact bp ⟨aa,r,l⟩
def YD{i:b6}{g:Y hn}{e:V->bV->Prop}{F:cS}{h:Y V}b(t:gy P K)(y:uB K J.c J.az g h)(bd:∀o,dk m i o->e (eR (ab (V.aB o) h)) (J.d++aZ o b))(v:tn b J.az:=by repeat (first|exact trivial|refine And.intro rfl ?_))(x:n2 b:=by rfl)(w:F=.ret\/F=fY:=by exact rp):ic P p m i g e F J:=by refine⟨w,λo u z E k f=>?_⟩;let⟨A,l,n,r⟩:=y.run t f;refine⟨A,_,J.d++aZ o _,k,l,n,r,?_,bd o u⟩;have:=a_.DL (J:=⟨[],J.az,J.d⟩) (en:=⟨[],b,J.d⟩) ⟨b5,v,x,aa⟩<|a_.zI (H:=[]) f λS T s=>aK;exact this.cO
def EV{k:b6}{e:Y hn}{F:cS}{b:Y V}{A:V}(f:gy P K)(i:uB K J.c J.az e b)(bC:e4 V.plain b:=by rfl)(h:J.d=[]:=by rfl)(g:F=.ret\/F=fY:=by exact rp)(s:eR b=A:=by rfl):ic P p m k e (·=A/\·=[]) F J:=YD [] f i (λo _=>⟨by grind[atz,qz],by rw[h];rfl⟩) b5 aa g
def sI{f:b6}{e:Y hn}{F:cS}{b:Y V}{A:V}{cG:bS}(g:gy P K)(l:uB K J.c J.az e b)(r:e4 V.Dq b:=by rfl)(h:tn cG J.az:=by repeat (first|exact trivial|refine And.intro rfl ?_))(k:n2 cG:=by rfl)(t:J.d=[]:=by rfl)(i:F=.ret\/F=fY:=by exact rp)(s:eR b=A:=by rfl):ic P p m f e (λo n=>∃aQ,dk m f aQ/\o=A.aB aQ/\n=aZ aQ cG) F J:=YD cG g l (⟨·,·,Ke,aq⟩) h k i
end
def Z6(T:Z)(H:Y Z):Y Z:=if j1 H T then H else T::H
def Lb:Y Z->Y Z|[]=>[]|T::H=>Z6 T<|Lb H
def MH:∀{H:Y Z}{T:Z},T∈Lb H↔T∈H|[],T=>nJ|w::H,T=>by rw[Lb,Z6];split;rename_i s;rw[MH,fH];constructor;simp_all;rintro(rfl|b);exact MH.1 (by simpa using s);omega;rw[fH,fH,MH]
def NG:Y a7->Y (Y Z)->Y (Y Z)|[],acc=>acc|M::H,acc=>NG H<|acc++[Lb (((a0 M.after).filter<|vu .any).flatMap λF=>F.on::y acc F.on [])]
def ae5(z Q:Y (Y Z)):Prop:=U z=U Q/\∀b T,T∈y z b []↔T∈y Q b []
def adK:∀H z Q,ae5 z Q->ae5 (NG H z) (Dy H Q)
|[],z,Q,s=>s|M::H,z,Q,s=>by
 refine adK H _ _ ⟨by simp[s.1],λc T=>?_⟩;rw[dX,dX,nB,nB,s.1];split;exact s.2 c T;cases c-U Q;simp only[O3,z7];rw[MH,Vl,Vl];constructor;rintro⟨F,he,b⟩;exists F,he;rw[fH] at b⊢;rw[<-s.2];exact b;rintro⟨F,he,b⟩;exists F,he;rw[fH] at b⊢;rw[s.2];exact b
 next B=>simp
def aaW(H:Y a7):X:=let f:=NG H []
 dh H.zipIdx λ(b,c)=>(dh (a0 b.after) λF=>!vu .any F||F.on<c)&&
  (am c H).zipIdx.all λ(d,e)=>(match d.dst with|W S=>!(j1 (looks (aO H) b) S||b.dst==W S)|ai=>ag)&&(match b.dst with|W S=>!j1 (looks (aO H) d) S|ai=>ag)||j1 (y f c []) e
def ap1{H:Y a7}(s:aaW H):sP H:=by
 let d:∀b c,j1 (y (NG H []) b []) c=j1 (y (Dy H []) b []) c:=λb c=>by rw[nA,OZ,OZ];exact(adK H [] [] ⟨aa,λ_ _=>nJ⟩).2 b c
 unfold aaW at s;simp only[d] at s;exact s
section
variable(P:bn)(K:cI)(p:bJ)(i:Y (Z×V))(m:Z)
def Ew(cV:Y a7)(c:Z):X:=let d:=Dy cV []
 dh (bM<|U cV) λb=>b<=c||j1 (y d b []) c
theorem aiR{cV:Y a7}{c:Z}(s:Ew cV c):∀b,c<b->b<U cV->Reach (aO cV) b c:=by let d:=NH (ops:=aO cV) cV [] (λb M e=>aq) λf b s=>cf;unfold Ew at s;grind
def uN(b:Y Z)(H:Y (Z×V)):Y (Z×V):=match b with|[]=>H|_=>H.filter λG=>! iw G.1 b
theorem anj{b:Y Z}{S:Z}(aM:iw S b):∀H:Y (Z×V),cX S (H.filter λG=>! iw G.1 b)=ai|[]=>aa|Q::H=>by grind
theorem QZ{b:Y Z}{S:Z}{T:V}:∀{H:Y (Z×V)},cX S (H.filter λG=>! iw G.1 b)=W T->cX S H=W T
|[],s=>s|(B,w)::H,s=>by cases hm:iw S b with|true=>grind[anj]|false=>rw[List.filter_cons] at s;split at s;rw[rj] at s⊢;split at s;exact s;exact QZ s;rw[rj];split;simp_all;exact QZ s
theorem amn{b:Y Z}{H:Y (Z×V)}{S:Z}{T:V}(s:cX S (uN b H)=W T):cX S H=W T:=by
 cases b;exact s
 next z b=>exact QZ s
inductive yv(cV:Y a7)(M:a7)(acc:Y ep)(J:aN)(B:Y ep->aN->Prop):Prop
|mk (Ao:Y Z) (iD:Y (Z×Z×b7)) (A:V) (rd wr:bS) (wb HX:Y Z)
 (aox:qZ (Ao++ab (·.1) iD)) (fi:lz J.az Ao=W rd) (hw:lz J.az (ab (·.1) iD)=W wr)
 (bl:wb=[]\/ry (h9 wb) (uN HX J.c)) (mo:wb=[]\/rz (h9 wb) (ab (·.1) iD) J.az 0)
 (azs:M.guard=ai) (azo:Ew cV (U acc)) (azt:tN cV (acc++[(Ao,ab (·.1) iD)]))
 (run:gy P K->p.G=i->eh i->∀o aD,tj P p M ⟨dt M (da o J.c),aD++(aZ o rd++aZ o wr)⟩ (λoP u3=>∃aQ,dk m o aQ/\(∀S,h9 wb S->aQ S=o S)/\(∀(D:Z)(v:Z×b7)(IL:Z×Z×b7),wr[D]?=W v->iD[D]?=W IL->(aQ IL.2.1).1=(o v.1).1)/\oP=A.aB aQ/\u3=aD++(aZ o rd++aZ aQ (ab (·.2) iD))))
 (hk:B (acc++[(Ao,ab (·.1) iD)]) ({J with c:=uN HX J.c,az:=oa J.az iD}.put M.dst A)):yv cV M acc J B
def Fk(R:Z)(H:Y ep)(b:Prop):Prop:=match ef (U H) R with|ag=>b|ae=>hP
def DX(cV:Y a7):Y Z->Y a7->Y ep->aN->(Y ep->aN->Prop)->Prop|[],H,acc,J,B=>ql P K p i m cV 4000 H [] acc J B|n::c,H,acc,J,B=>match ay n H with|[]=>hP|M::b=>ql P K p i m cV 4000 (am n H) [] acc J λacc d=>Fk (U cV-(U b+1)) acc<|yv P K p i m cV M acc d (DX cV c b · · B)
end
section
variable{P:bn}{K:cI}{p:bJ}{i:Y (Z×V)}{m R:Z}
def Sb{R:Z}{H:Y ep}{b:Prop}:Fk R H b->U H=R/\b:=by grind[Fk,Nat.eq_of_beq_eq_true]
def yv.ok(aA:gy P K)(av:p.G=i)(ax:eh i){cV:Y a7}{M:a7}{acc:Y ep}{J:aN}{B:Y ep->aN->Prop}(s:yv P K p i m cV M acc J B)o:∃(ew:ep)(x:aN),B (acc++[ew]) x/\M.guard=ai/\Ew cV (U acc)/\tN cV (acc++[ew])/\∀d,U d=(J.fL o).d.length->(∀B,B∈ew.1\/B∈ew.2->d[B]?=(J.fL o).d[B]?)->tj P p M ⟨dt M (J.fL o).c,d⟩ (λA aD=>∃I:jq,(∃aQ,dk m o aQ/\lA aQ x.az=lA o J.az/\(∀v∈I.2,v.1∈ew.2)/\iC (x.fL aQ) (({J.fL o with d:=gC (J.fL o).d I.2}).put M.dst I.1))/\A=I.1/\aD=gC d I.2):=by
 let⟨r,b,A,rd,y,a2,k,aM,N,g,u,F,aF,aC,aJ,run,aH⟩:=s;let aL:=M8 aM;let⟨a0,aX⟩:=xm N;let⟨aI,aY⟩:=xm g;simp[bm] at aI;refine⟨(r,ab (·.1) b),_,aH,aF,aC,aJ,λd a1 D z E Q f R X ay=>?_⟩;let ma:sw:=(r.zip rd).map λv=>(v.1,c2 o v.2);let n:sw:=(b.zip y).map λv=>(v.1.1,c2 o v.2);let L:=(vr.1 aL).2.1;let aU:ab (·.1) ma=r:=b0 (zP id)<|uo _;let C:ab (·.2) ma=aZ o rd:=JO<|c2 o;let aW:ab (·.1) n=ab (·.1) b:=zP λv:Z×Z×b7=>v.1;let ak:ab (·.2) n=aZ o y:=JO<|c2 o;let⟨aS,fx,r0,FI⟩:=WI (p:=p) (d:=d) (ma:=ma) n aK (D4.2<|G7 N (uo _) λG bC=>D G<|bj bC) (D4.2<|G7 g aa λG bC=>D G<|bp bC) f.cO.kt;rw[C,ak] at fx r0;apply run aA av ax o aS z E Q ⟨f.cO.sub fx r0,f.c,f.gR,f.size,f.defers⟩ R X;rintro a3 aD aE aT O ⟨aQ,au,fj,hid,rfl,rfl⟩ aw aP aG;let l:Y (Z×(Z×cB)×Z×cB):=(b.zip y).map λv=>(v.1.1,c2 o v.2,c2 aQ v.1.2);let am:ab (·.2.2) l=aZ aQ (ab (·.2) b):=b0 (zP (c2 aQ∘λv:Z×Z×b7=>v.2))<|bQ i_;let ap:ab (λv=>(v.1,v.2.2)) l=b.map λv=>(v.1,c2 aQ v.2):=zP λv:Z×Z×b7=>(v.1,c2 aQ v.2);let H:=FI l (by grind[List.map_map,Function.comp_def]) (D4.2 λT e=>let⟨aR,aq,ar⟩:=UV e;hid aR T.2 T.1 ar aq) (by rw[C,am];exact aG);rw[ap] at H;refine ay _ _ aE aT O ⟨(A.aB aQ,b.map λv=>(v.1,c2 aQ v.2)),⟨aQ,au,?_,?_,?_⟩,aa,aa⟩ aw aP H;exact b0 (ea _ (by cases M.dst<;>rfl))<|ZU g L fj hid F;intro v bd;obtain⟨T,e,rfl⟩:=dI.1 bd;exact dI.2 ⟨T,e,aa⟩;rw[aN.FV];show iC ((⟨da aQ (uN k J.c),aZ aQ (oa J.az b)++J.d⟩:bc).put M.dst (A.aB aQ)) ((⟨da o J.c,gC (aZ o J.az++J.d) _⟩:bc).put M.dst (A.aB aQ));rw[afj L (Zu g) fj F];let g:iC ⟨da aQ<|uN k J.c,aZ aQ (oa J.az b)++J.d⟩ ⟨da o J.c,aZ aQ (oa J.az b)++J.d⟩:=by
  refine⟨λS T e=>?_,aa⟩;let e:cX S (da aQ<|uN k J.c)=W T:=e;let h:cX S (da o<|uN k J.c)=W T:=by rcases u with rfl|u;have:aQ=o:=funext λS=>fj S aa;rw[<-this];exact e;rw[<-PQ fj u];exact e
  show cX S (da o J.c)=W T;rw[mU] at h⊢;cases t:cX S (uN k J.c);rw[t] at h;cases h
  next w=>rw[t] at h;rw[amn t];exact h
 exact g.put M.dst<|A.aB aQ
def tj.ayX{M:a7}{e f:Y (Z×V)}{g:bV}{d:V->bV->Prop}(m:∀S T,cX S f=W T->cX S e=W T)(s:tj P p M ⟨f,g⟩ d):tj P p M ⟨e,g⟩ d:=λz E h b i k l=>
 s z E h ⟨b.cO,λS T n=>b.c S T<|m S T n,b.gR,b.size,b.defers⟩ i k l
def ay3(L:gy P K)(D:p.G=i)(E:eh i){cV:Y a7}t:∀u H acc J B,DX P K p i m cV u H acc J B->∀o k,(∀aQ bz g,dk m o aQ->B bz g->lA aQ g.az=lA o J.az->∀O,(∀S T,(g.fL aQ).c.lookup S=W T->cX S O.c=W T)->O.d=(g.fL aQ).d->U bz=U cV/\tN cV bz/\k O)->∀b bP,cV=bP++H->U bP=U b->U acc=U b->iC (J.fL o) (cK cV b (λ_=>ag) 0 t)->om P p cV t k b acc:=by
 intro u
 induction u
 intro H acc J B s o k F b bP A r ap y;let⟨bz,oQ,w,_,aM,aN,aP⟩:=UP L D E 4000 H [] acc J B s o (λbz O=>U bz=U cV/\tN cV bz/\k O) F (cK cV b (λ_=>ag) 0 t) y.c<|bQ y.d;let z:U bz=U H:=by rw[cd,A,cd] at aM;omega
 refine om.run (uV:=H) (jv:=[]) (bP:=bP) (oQ:=oQ) (C5:=bz) bi r z w λC=>?_;refine .leaf ?_ (Se aN) ?_;simp_all;rw[su.cK (jv:=[]) bi r w aa];exact aP
 next n u aT=>
  intro H acc J B s o k F b bP A r ap y;rw[DX] at s;split at s;trivial;rename_i M jv x;let aw:H=am n H++M::jv:=by rw[<-x];exact bQ<|D_ n H
  let⟨bz,oQ,w,_,e,f,ay,aA,aB,aC,h⟩:=UP L D E 4000 (am n H) [] acc J _ s o (λbz O=>∃e f,dk m o e/\lA e f.az=lA o J.az/\U bz=U cV-(U jv+1)/\yv P K p i m cV M bz f (DX P K p i m cV u jv · · B)/\iC (f.fL e) O)
   (λaQ bz g N l Q O X R=>⟨aQ,g,N,Q,(Sb l).1,(Sb l).2,X,bQ R⟩) (cK cV b (λ_=>ag) 0 t) y.c<|bQ y.d
  let a0:U cV=U bP+(U (am n H)+(U jv+1)):=by have:=ea U aw;rw[cd,l5] at this;rw[A,cd,this]
  let z:U bz=U (am n H):=by rw[cd] at aB;omega
  refine om.run (uV:=am n H) (jv:=M::jv) (bP:=bP) (oQ:=oQ) (C5:=bz) aK r z w λC=>?_;let aR:=su.cK (H:=cV) (jv:=M::jv) aK r w aa;rw[<-aR] at h;let av:U (b++oQ)=U (bP++am n H):=by rw[cd,cd,C,r]
  let au:cV=bP++am n H++M::jv:=by rw[eS,<-aw];exact A
  let aq:cV[(U<|b++oQ)]?=W M:=by rw[av,au,s9<|bv _,oX];rfl
  let aY:U (acc++bz)=U (b++oQ):=by rw[cd,cd,ap,z,C]
  let⟨ew,Z,aD,aE,aW,aF,aG⟩:=aC.ok L D E e;refine .many (ar:=ew) (uv:=λI=>∃aQ,dk m e aQ/\lA aQ Z.az=lA e f.az/\(∀v∈I.2,v.1∈ew.2)/\iC (Z.fL aQ) (({f.fL e with d:=gC (f.fL e).d I.2}).put M.dst I.1)) aq (Se aF) (by grind[aiR]) (λI x=>by let⟨_,_,_,s,_⟩:=x;exact s) (h.guard<|Zw e aE) (λd aH aI=>?_) λI x=>?_;exact(aG d (by rw[aH,h.d]) λB l=>by rw[aI B l,h.d]).ayX<|h.dt M;let⟨aU,aJ,aL,aX,ak⟩:=x;apply aT jv _ Z B aD aU k (λaQ bz g N l Q O X R=>F aQ bz g ((ay.trans aJ).trans N) l (b0 Q<|b0 aL aA) O X R) _ (bP++am n H++[M]) (by rw[au];simp) (by rw[cd,<-av,@cd _<|b++oQ];rfl) bi;rw[NM aq];let ax:iC ⟨(f.fL e).c,gC (f.fL e).d I.2⟩ ⟨(cK cV (b++oQ) (λ_=>ag) 0 t).c,gC (cK cV (b++oQ) (λ_=>ag) 0 t).d I.2⟩:=⟨h.c,by rw[h.d]⟩;exact⟨λS T aS=>(ax.put M.dst I.1).c S T<|ak.c S T aS,b0 ak.d (ax.put M.dst I.1).d⟩
def X4{H:Y a7}{J:aN}{b:Y Z}{ak:cS->aN->Prop}(f:gy P K)(d:p.G=i)(e:eh i)(s:DX P K p i m H b H [] J (λbz c=>Fk (U H) bz<|Ad m H bz J c<|ak fY))o:om P p H (J.fL o) (vw m o J ak) [] []:=ay3 f d e (J.fL o) b _ [] J _ s o _
 (λaQ bz c l g n O v t=>by
  let⟨w,h⟩:=Sb g;cases h
  next y x r u k bd=>grind[vw]) [] [] aa aa aa (by simp[cK,iC.refl])
def a1.Ln b(k:P.follows qs)(f:gy P K)(c:p.G=i)(d:eh i)(l:p.n=R){id:Z}{ops:bU a7}{J:aN}{ak:cS->aN->Prop}(g:tz R (a0 ops))(h:sP (a0 ops))(s:DX P K p i m (a0 ops) b (a0 ops) [] J (λbz t=>Fk (U<|a0 ops) bz<|Ad m (a0 ops) bz J t<|ak fY)):a1 P p m (sl id ops ag) J ak:=⟨λo u e=>by
 let F:ops=aO (a0 ops):=by simp
 let r:=X4 f c d s o;exact vw.fin (e3.aes (id:=id) (ak:=λF O=>F=fY/\vw m o J ak O) k (by rw[l];exact CP g) h (by simpa using r)) e⟩
end
def Xc o z Q:aZ o (z++Q)=aZ o z++aZ o Q:=by simp[aZ,dc]
def ZG(S:Z):X:=hB 6000 S
section
variable{P:bn}{K:cI}{p:bJ}{i:Y (Z×V)}{m:Z}{acc:Y ep}{B:Y ep->aN->Prop}
def ag3{b_ o:Type}:∀{z:Y b_}{Q:Y o},U z=U Q->ab Prod.fst (z.zip Q)=z/\ab Prod.snd (z.zip Q)=Q|[],[],_=>⟨aa,aa⟩|T::z,w::Q,s=>by cases ag3 (z:=z) (Q:=Q) aq;simp_all|[],_::_,s=>cf|_::_,[],s=>cf
def JK d D{ar:fM}{t:aP}{args:bU aP}{av:bU aw}{first s I xs:Y V}b os cG{Ck g:Y Z}{e:Y (Z×Z×b7)}(aN:B (acc++[(Ck,ab (·.1) e)]) ({J with c:=uN D J.c,az:=oa J.az e}.put M.dst (qd (dO d) A)))(aY:mL P i ar xs (b++os) A (b++cG))(O:M.op=ft {callee:=qr t,args:=args,argTypes:=av}:=by rfl)(aL:M.guard=ai:=by rfl)(aK:val i J.c t=W (.func (c1 ar) first s):=by rfl)(aI:mz i J.c (a0 args)=W I:=by rfl)(ak:ab (qd<|dO d) xs=first++I++s:=by rfl)(a9:e4 (pa<|lU<|b++os) xs:=by rfl)(bh:BF J.az (b.map λG=>dO d G.1)=Ck:=by rfl)(a7:lz J.az Ck=W (b.map λG=>(dO d G.1,G.2.ge<|dO d)):=by rfl)(bC:BF J.az (os.map λG=>dO d G.1)=g:=by rfl)(X:lz J.az g=W (os.map λG=>(dO d G.1,G.2.ge<|dO d)):=by rfl)(aH:g.zip (cG.map λG=>(dO d G.1,G.2.ge<|dO d))=e:=by rfl)(N:ab (·.1) cG=ab (·.1) os:=by rfl)(aU:dh os (λG=>hB 5000 G.1):=by rfl)(bg:HL b:=by rfl)(Q:nS ZG b:=by rfl)(C:nS (lU<|b++os) (b++os):=by rfl)(a3:e4 V.m3 first:=by rfl)(a4:e4 V.m3 s:=by rfl)(aX:qZ (Ck++g):=by rfl)(ax:ry (h9<|rT 6000 (dO d)<|b++cG) (uN D J.c):=by rfl)(ay:n2 ((b++cG).map λG=>(dO d G.1,G.2)):=by rfl)(aB:pa (lU<|b++cG) A:=by rfl)(H:nS (lU<|b++cG) (b++cG):=by rfl)(aC:rz (h9<|rT 6000 (dO d)<|b++cG) (ab (·.1) e) J.az 0:=by rfl)(aA:xD 5000 6000 m (m+1000) (dO d) (b++cG):=by rfl)(aJ:Ew cV (U acc):=by kernel_rfl)(aT:tN cV (acc++[(Ck,ab (·.1) e)]):=by kernel_rfl)(aM:kF P ar:=by exact wQ):yv P K p i m cV M acc J B:=by
 let aS:U g=U (cG.map λG=>(dO d G.1,G.2.ge<|dO d)):=by let u:=(xm X).1;let f:=ea U N;simp[bm] at u f⊢;omega
 let⟨am,aq⟩:=ag3 aS;rw[aH] at am aq;let ap:ab (·.1) e=g:=am;let au:ab (·.2) e=cG.map λG=>(dO d G.1,G.2.ge<|dO d):=aq;refine .mk Ck e (qd (dO d) A) _ _ (rT 6000 (dO d)<|b++cG) D (by rw[ap];exact aX) a7 (by rw[ap];exact X) (bp ax) (bp aC) aL aJ aT (λbf x L o aD=>?_) aN;let dg:=dO d;let r:b6:=λR=>o<|dg R;let a1:aZ r (b++os)=aZ o (b.map λG=>(dg G.1,G.2.ge dg))++aZ o (os.map λG=>(dg G.1,G.2.ge dg)):=by rw[<-Xc,<-dc];exact ID (λS _=>aa) C
 let ba:=Tw (o:=o) ak a9 a3 a4;let aW:t∈a0 (j0 M.op):=by rw[O];simp[j0,VJ]
 refine tj.call (pass:=aZ r<|b++os) (rest:=aD) O aM (iU x L aK aW o) (UK x L aI (λT ak=>pI) o) ?_ (by rw[ba];exact bQ x▸aY r) ?_;rw[a1];exact vs;rintro bk bi ⟨F,y,rfl,rfl⟩;let⟨E,aG,z,aR⟩:=WS y ay aA;refine⟨_,vs,E,aG,aR,λn v be bd a2=>?_,bQ<|I1 z aB,?_⟩;let f:(ab (·.2) e)[n]?=W be.2:=by rw[db,a2];rfl
 rw[au,db] at f;rw[db] at bd;cases h:cG[n]?;rw[h] at f;cases f
 next T=>
  cases k:os[n]?;rw[k] at bd;cases bd
  next w=>
   rw[h] at f;rw[k] at bd;simp[lm,g6] at f bd;let bb:T.1=w.1:=by let l:=ea (·[n]?) N;simp[db,h,k,lm,g6] at l;exact l
   let a_:T∈cG:=dY h;let bc:w∈os:=dY k;let l:5000<=w.1:=ll<|kY.1 aU w bc;rw[<-f,<-bd];show(E (dg T.1)).1=(o (dg w.1)).1;rw[z T.1<|qU.2<|dI.2 ⟨T,zY _ a_,aa⟩,bb,y.id w.1 l]
 let aE:aZ F b=aZ o (b.map λG=>(dg G.1,G.2.ge dg)):=by simp only[aZ,i_];refine hY λv bd=>?_;let u:=b7.N0 (o:=r) (aQ:=o) (G:=lU<|b++os) (dg:=dg) (λS _=>aa) (tr C v<|yi _ bd).1 (tr C v<|yi _ bd).2;show c2 F v=c2 o (dg v.1,v.2.ge dg);rw[u];exact b7.KG (G:=ZG) (λS a5=>y.eq S (by have:=ll (show hB 6000 S=ag from a5);omega)) (tr Q v bd).1 (tr Q v bd).2
 let aF:aZ F cG=aZ E (ab (·.2) e):=by rw[au];simp only[aZ,i_];exact hY λv bd=>bQ<|b7.N0 z (tr H v<|zY _ bd).1 (tr H v<|zY _ bd).2
 rw[Xc,aE,aF]
def Gm b h{ar:fM}{k:aP}{args:bU aP}{n:bU aw}{first f l xs:Y V}{os cG:bS}{e:Y Z}{d:Y (Z×Z×b7)}(D:B (acc++[([],ab (·.1) d)]) ({J with c:=uN h J.c,az:=oa J.az d}.put M.dst (qd (dO b) A)))(L:M.op=ft {callee:=qr k,args:=args,argTypes:=n}:=by rfl)(C:M.guard=ai:=by rfl)(z:val i J.c k=W (.func (c1 ar) first f):=by rfl)(x:mz i J.c (a0 args)=W l:=by rfl)(g:mL P i ar xs os A cG)(S:ab (qd<|dO b) xs=first++l++f:=by rfl)(T:e4 (pa<|lU os) xs:=by rfl)(bC:BF J.az (os.map λG=>dO b G.1)=e:=by rfl)(R:lz J.az e=W (os.map λG=>(dO b G.1,G.2.ge<|dO b)):=by rfl)(w:e.zip (cG.map λG=>(dO b G.1,G.2.ge<|dO b))=d:=by rfl)(H:ab (·.1) cG=ab (·.1) os:=by rfl)(F:dh os (λG=>hB 5000 G.1):=by rfl)(N:nS (lU os) os:=by rfl)(O:e4 V.m3 first:=by rfl)(Q:e4 V.m3 f:=by rfl)(I:qZ e:=by rfl)(o:ry (h9<|rT 6000 (dO b) cG) (uN h J.c):=by rfl)(r:n2 (cG.map λG=>(dO b G.1,G.2)):=by rfl)(t:pa (lU cG) A:=by rfl)(u:nS (lU cG) cG:=by rfl)(v:rz (h9<|rT 6000 (dO b) cG) (ab (·.1) d) J.az 0:=by rfl)(s:xD 5000 6000 m (m+1000) (dO b) cG:=by rfl)(y:Ew cV (U acc):=by kernel_rfl)(E:tN cV (acc++[([],ab (·.1) d)]):=by kernel_rfl)(aM:kF P ar:=by exact wQ):yv P K p i m cV M acc J B:=JK b h [] os cG (Ck:=[]) D g L C z x S T aa aa bC R w H F aa aa N O Q I o r t u v s y E aM
end
def GJ(au:Z)(xs aC:Y V):Prop:=U xs=U aC/\∀(b:Z)(T w:V),xs[b]?=W T->aC[b]?=W w->w=T\/T=.bo/\w=.al au []
def amS(aC:Y V):b7->b7|.j ap F _=>.j ap F aC|T=>T
def LA(S:Z)(aC:Y V):bS->bS|[]=>[]|(B,G)::A=>match ef S B with|ag=>(B,amS aC G)::A|ae=>(B,G)::LA S aC A
def CX(au S:Z)(aC:Y V):bS->Prop
|[]=>hP|(B,G)::A=>match ef S B with
 |ag=>match G with|.j _ _ xs=>GJ au xs aC|_=>hP
 |ae=>CX au S aC A
def aN.AO(J:aN)(S:Z)(aC:Y V):aN:={J with az:=LA S aC J.az}
section
variable{o:b6}
def YA{S:Z}{aC:Y V}:∀{H:bS},CX au S aC H->cY (oj au) (aZ o H) (aZ o (LA S aC H))|[],s=>s.elim|(B,G)::A,s=>by unfold CX at s;rw[LA];split at s;split at s;rename_i ap F xs;refine cY.j _ _ _ _ xs aC s.1 (λd T w b c=>?_)<|cY.refl _;rcases s.2 d T w b c with rfl|⟨rfl,rfl⟩;exact .refl _;exact .base _ _ .nil;trivial;exact .same _<|YA s
def a_.AO{p:bJ}{J:aN}{z:fI}{E:bI}{b:bf}{S:Z}{aC:Y V}(c:CX au S aC J.az)(s:a_ p (J.aB o) z E b):a_ p ((J.AO S aC).aB o) z E b:=s.rD (bf.le.refl b) s.cO oj.gU oj.one (λS w d=>⟨w,d,.refl _⟩)<|cY.rA (YA c)<|cY.refl _
end
section
variable{P:bn}{K:cI}{p:bJ}{i:Y (Z×V)}{m:Z}
def QQ{au S ap:Z}{F:aw}{xs aC:Y V}:∀{H:bS},ci H S=W (.j ap F xs)->GJ au xs aC->CX au S aC H|[],s,_=>cf|(B,G)::A,s,c=>by rw[ci] at s;unfold CX;split at s;simp_all;rename_i b;rw[b];exact QQ s c
def amW{e:b6}{d:Y hn}{b:V->bV->Prop}{c:cS}au S{ap:Z}{F:aw}{xs:Y V}aC(k:GJ au xs aC)(s:ic P p m e d b c (J.AO S aC))(i:ci J.az S=W (.j ap F xs):=by rfl):ic P p m e d b c J:=⟨s.he,λo h z E f g=>s.run o h z E f<|a_.AO (QQ i k) g⟩
def a1.AO{n:gw}{ak:cS->aN->Prop}au S aC(f:CX au S aC J.az)(s:a1 P p m n (J.AO S aC) ak):a1 P p m n J ak:=⟨λo c d z E b e=>s.run o c d z E b<|a_.AO f e⟩
end
section
variable{P:bn}{K:cI}{p:bJ}{i:Y (Z×V)}{m:Z}
def sW{s gJ h:aw}{e u:cH}{G T:aP}{t x:Z}{n:X}{f:Y (V×V×Z)}{b:V}{B:V->Prop}A(D:B A)(F:nZ e.d f)(Q:qS f b u.z n=A:=by rfl)(m:M.op=.lookup s G T n:=by rfl)(R:fC K s (.map gJ h):=by exact fX)(I:K.find gJ=W e:=by rfl)(H:e.O=ae:=by rfl)(C:K.find h=W u:=by rfl)(bC:val i J.c G=W (.eA t):=by rfl)(y:ci J.az t=W (.map f x):=by rfl)(S:val i J.c T=W b:=by rfl)(E:b.isKey e.d:=by rfl)(N:A.plain:=by rfl)(L:b.plain:=by rfl):er P K p i ae M J B:=.n5 (λg k l o=>by subst Q;obtain⟨_,_,w⟩:=R.eD g;obtain⟨v,bd⟩:=j7 _ y;rw[V.gc N];have r:=iU k l S (by rw[m];simp[j0]) o (aD:=(J.aB o).d);rw[V.gc L] at r;exact auh w ((g.find I).g5 H) (g.find C).lG m (iU k l bC dZ o) bd r E F) D
def SQ{d gJ h:aw}{G:aP}{e g:Z}{b:Y (V×V×Z)}{B:V->Prop}R(r:B (.int aj (R:Z)))(s:M.op=ft {callee:=gP .len,args:=#[G],argTypes:=#[d]}:=by rfl)(t:fC K d (.map gJ h):=by exact fX)(bC:val i J.c G=W (.eA e):=by rfl)(n:ci J.az e=W (.map b g):=by rfl)(bu:U b=R:=by rfl):er P K p i ae M J B:=.n5 (λm k l o=>by subst bu;obtain⟨_,_,f⟩:=t.eD m;obtain⟨v,bd⟩:=j7 _ n;exact aud f s (iU k l bC pI o) bd) r
def eH.pB{O:bc}{A:V}{aD:bV}{S:aw}{G T w:aP}(b:M.op=.mapUpdate S G T w\/M.op=.insert S G T w)(s:∀{M:a7},M.op=.mapUpdate S G T w->eH P p M O A aD):eH P p M O A aD:=by rcases b with b|b;exact s b;let⟨I,op,eD,e,c,d⟩:=M;subst b;exact @s ⟨I,.mapUpdate S G T w,eD,e,c,d⟩ aa
def rV{n gJ D:aw}{e:cH}{G T w:aP}{r t:Z}{g:Y (V×V×Z)}{b f:V}{B:aN->Prop}x u(F:B ({J with az:=il J.az r (.map x u)}.put M.dst .undef))(l:M.op=.mapUpdate n G T w\/M.op=.insert n G T w:=by exact rp)(S:fC K n (.map gJ D):=by exact fX)(L:K.find gJ=W e:=by rfl)(I:e.O=ae:=by rfl)(bC:val i J.c G=W (.eA r):=by rfl)(E:ci J.az r=W (.map g t):=by rfl)(U:val i J.c T=W b:=by rfl)(X:val i J.c w=W f:=by rfl)(H:b.isKey e.d:=by rfl)(mq:nZ e.d g)(hu:lB g t b f=(x,u):=by rfl)(N:b.plain:=by rfl)(Q:f.plain:=by rfl):gg P K p i m ops M J B:=.AP _ E F λy h k o v R=>by obtain⟨_,_,C⟩:=S.eD y;have z:=hJ h k U o;rw[V.gc N] at z;have A:=hJ h k X o;rw[V.gc Q] at A;have s:=eH.pB l λl=>amM C ((y.find L).g5 I) l (hJ h k bC o) R z A H mq;rw[hu] at s;exact s
def ab2{t gJ w N:aw}{e:cH}{G T:aP}{g h:Z}{f:Y (V×V×Z)}{b:V}{B:aN->Prop}{k:Y (V×V×Z)}(y:B ({J with az:=il J.az g (.map k h)}.put M.dst (.tuple [])))(D:M.op=ft {callee:=gP .delete,args:=#[G,T],argTypes:=#[t,N]}:=by rfl)(H:fC K t (.map gJ w):=by exact fX)(C:K.find gJ=W e:=by rfl)(A:e.O=ae:=by rfl)(bC:val i J.c G=W (.eA g):=by rfl)(x:ci J.az g=W (.map f h):=by rfl)(L:val i J.c T=W b:=by rfl)(z:b.isKey e.d:=by rfl)(mq:nZ e.d f)(I:tP f b=k:=by rfl)(E:b.plain:=by rfl):gg P K p i m ops M J B:=.AP _ x y λr l n o v F=>by subst I;obtain⟨_,_,u⟩:=H.eD r;have s:=hJ l n L o;rw[V.gc E] at s;exact amL u ((r.find C).g5 A) D (hJ l n bC o) F s z mq
end
section
variable[hO b_]
def sM(c:b_->V)(d:Z->V):Z->Y b_->Y (V×V×Z)|_,[]=>[]|b,T::H=>(c T,d b,b)::sM c d (b+1) H
def e6(c:b_->V)(d:Z->V)(b:Y b_):Y (V×V×Z):=sM c d 0 b
def o6(G:b_->Prop)(b:b_->V):Prop:=∀T w,G T->G w->(b T).rM (b w)=aH (T=w)
theorem RT{G:b_->Prop}{e:b_->V}{h:Z->V}(f:o6 G e){T:b_}(g:G T):∀b c d,(∀w∈b,G w)->mX (sM e h c b) (e T) d=if T∈b then W (d+h2 T b,h (c+h2 T b)) else ai|[],c,d,_=>aa|w::b,c,d,s=>by rw[sM,mX,f T w g<|s w ao,RT f g b _ _ λap aX=>s ap aK];grind
def RW{G:b_->Prop}{c:b_->V}{d:Z->V}(e:o6 G c){T:b_}{b:Y b_}(f:G T)(s:∀w∈b,G w):Dl (e6 c d b) (c T)=if T∈b then W (d (h2 T b)) else ai:=by grind[Dl,e6,RT]
def RV{d:b_->V}{e:Z->V}{T:b_}:∀(b:Y b_) c,sM d e c (b++[T])=sM d e c b++[(d T,e (c+U b),c+U b)]|[],c=>aa|w::b,c=>by rw[kh,sM,sM,RV b _,l5,show c+1+U b=c+(U b+1) by omega];rfl
def aai{d:b_->V}{e:Z->V}:∀(b:Y b_) c,U (sM d e c b)=U b|[],_=>aa|w::b,c=>by rw[sM,l5,aai b,l5]
def RX{c:b_->V}{d:Z->V}{b:Y b_}:U (e6 c d b)=U b:=aai b 0
def Df{G:b_->Prop}{c:b_->V}{s6:Z->V}(d:o6 G c){T:b_}{b:Y b_}(f:G T)(s:∀w∈b,G w)(e:T∉b):lB (e6 c s6 b) (U b) (c T) (s6 (U b))=(e6 c s6 (b++[T]),U (b++[T])):=by unfold lB e6;rw[RT d f b 0 0 s,ad e,RV,cd];simp
def aag{e:b_->V}{f:Z->V}{I:iz}:∀c d,(∀w∈c,(e w).isKey I)->nZ I (sM e f d c)|[],_,_=>λT b=>cg b kB|w::c,d,s=>λT b=>by rcases fH.1 b with rfl|b;simp_all;exact aag c _ (λap aX=>s ap aK) T b
def De{c:b_->V}{d:Z->V}{I:iz}{b:Y b_}(s:∀w∈b,(c w).isKey I):nZ I (e6 c d b):=aag b 0 s
def o6.str{G:b_->Prop}{ar:b_->Y C}(s:∀T w,G T->G w->ar T=ar w->T=w):o6 G (λT=>.str<|ar T):=λT w b c=>by show(ar T==ar w)=_;grind
def o6.nat{B:dd}:o6 (λ_=>dW) (λR:Z=>.int B R):=λT w _ _=>by show((T:L)==w)=_;grind
def apk{G:b_->Prop}{c:b_->V}{d:Z->V}{ap:bq}(e:o6 G c){T:b_}{b:Y b_}(f:G T)(s:∀w∈b,G w):qS (e6 c d b) (c T) ap ag=.tuple [if T∈b then d (h2 T b) else V.const ap,.bool (aH (T∈b))]:=by unfold qS;rw[af aa,RW e f s];grind
end
section
variable{P:bn}{K:cI}{p:bJ}{i:Y (Z×V)}{m:Z}
def abT{S:aw}{e:cH}{I R:Z}{c:bq}{B:aN->Prop}{aC:Y V}(x:B (J.fresh I (.j 1 S aC) (.dC I 0 0)))(l:M.op=.alloc S:=by rfl)(h:M.dst=W I:=by rfl)(d:g8 I m:=by rfl)(b:K.find S=W e:=by rfl)(aX:e.z=h0 (td R c):=by rfl)(n:gE c:=by rfl)(aU:cM R (V.leaf c)=aC:=by rfl):gg P K p i m ops M J B:=⟨λg s t o H ak k u=>by let d:=ll (show hB _ m=ag from d);refine cD.ai0 (F:=S) k l (aX▸(g.find b).lG.aX) n λv=>?_;rw[h];apply cD.toR λz E r f=>a_.fresh (aQ:=e2 o I (v,0)) (λS b=>hd b) (qJ:=.dC I 0 0) (w:=.j 1 S _) (by simp[V.aB,V.jW,V.e8,V.e0,iT];exact .refl _) (by simp[c2,iT];exact .same _ .nil) f;grind[dk.of,hd]⟩
def ab0{S F r:aw}{m:cH}{T k:aP}{d l h:Z}{xs:Y V}{dQ:dd}{ap:L}{B:V->Prop}{b:Z}(w:B (.dC d (h+b) 0))(x:M.op=o0 S T k:=by rfl)(z:fC K S (pL l F):=by exact fX)(t:K.find F=W m:=by rfl)(A:val i J.c T=W (.dC d h 0):=by rfl)(s:ci J.az d=W (.j m.size r xs):=by rfl)(u:val i J.c k=W (.int dQ ap):=by rfl)(C:ap=(b:L):=by first|rfl|omega)(v:b<l:=by exact Kj):er P K p i ae M J B:=.n5 (λg e f o=>by obtain⟨_,_,n⟩:=z.eD g;obtain⟨D,y⟩:=j7 _ s;exact asZ n (g.find t).au x (iU e f A dZ o) y (iU e f u dZ o) C v) w
def SU{S F y:aw}{t:cH}{T:aP}{s r:c6 aP}{l b k:Z}{xs:Y V}{w u:L}{B:V->Prop}(e d n:Z)(G:B (.a l (k+e) n))(O:M.op=.slice S T s r ai:=by rfl)(Q:fC K S (pL b F):=by exact fX)(D:K.find F=W t:=by rfl)(h:val i J.c T=W (.dC l k 0):=by rfl)(C:ci J.az l=W (.j t.size y xs):=by rfl)(H:sC i J.c s 0=W w:=by rfl)(E:sC i J.c r b=W u:=by rfl)(X:w=(e:L):=by first|rfl|omega)(R:u=(d:L):=by first|rfl|omega)(z:e<=d:=by omega)(A:d<=b:=by exact si)(A6:k+b<=U xs:=by exact si)(I:b<=ja:=by decide)(N:n=d-e:=by first|rfl|omega):er P K p i ae M J B:=.n5 (λm f g o=>by subst N;obtain⟨_,_,x⟩:=Q.eD m;obtain⟨v,bd⟩:=j7 _ C;exact as4 x (m.find D).au O (iU f g h dZ o) bd (vG f g H X (λT h=>dZ) (o:=o)) (vG f g E R (λT h=>dZ) (o:=o)) z A A6 I) G
end
section
variable{P:bn}{K:cI}{p:bJ}{i:Y (Z×V)}{m:Z}{cA:Y Z}{R:Z}
def ay2{b:c6 (Z×X)}{A:V}:oU P K p i m cA F cV R b H (J.put M.dst A) B->ug K i J.c J.az M=W A->A0 b M.guard->mR cV J.c M=W ag->oU P K p i m cA F cV (R+1) b (M::H) J B:=by grind[oU,Hz]
end
section
def kl.aF{E:bI}{Q:Z}{b:bU bq}{F:aw}(s:kl E Q b F){M:Z}:M<a9 b->E.frozen? ⟨Q,M,ai⟩=ae:=by obtain⟨⟨d,up⟩,s,c⟩:=s;simp[World.frozen?,s,Gn,vt];simp at c;omega
open Go.Sort Go.Lib
def anw{P:bn}{i:Y (Z×V)}{ar:fM}{e R G JG:Z}{K:aw}(u:R=nDigits e)(a0:G+R<=24)(aA:∀bR x cap I E,a9 I=R->Go.Sort.Holds tD E bR x I->ln P ar #[eY (W ⟨bR,x,ai⟩) (a9 I) cap,cN ej e] E λF aq=>F=lo (o1 #[])/\∃(B am:Z)(d:bU C),aq=(putRow tD E bR x d).drewN B/\FmtInv (a9 I) e 0 am d)(iO:0<R){v:Z}:g3 P i ar [.bH v JG G R,.int ej e] [(v,.j JG 1 K<|cM 24 rf)] (·=.tuple []/\·=[(v,.j JG 1 K<|cM G rf++(ab bF (l8 e)++cM (24-G-R) rf))]):=by
 intro p ap E be y A D a1;obtain⟨bg,bh,rfl⟩:∃z Q,ap=[z,Q]:=by
  match ap,y with|[z,Q],_=>simp
 have aP:=A 0 _ _ aa aa;have aQ:=A 1 _ _ aa aa;cases aQ;let⟨H,S,ak,m,ax⟩:=D.gd v (.j JG 1 K<|cM 24 rf)<|eu.2 aa;rcases ax with⟨_,a2⟩|⟨Q,g,aM,h,aX,aB,bb,a7,aN⟩;trivial;cases aP with
 |bH _ _ _ _ aW aE hm bc a3 au=>
  obtain rfl:H=aW:=by simpa[S] using hm
  rcases au (bQ ak) with⟨_,a4,_⟩|⟨aY,M,cap,J,rfl,a_,a5,r⟩;omega;rw[aM] at J;cases J;have aJ:M=H.base+G:=by rcases r with r|⟨r,_⟩;omega;grind
  subst aJ;have:H.base+24<=a9 g:=by have:=aB;simp[m] at this;omega
  have N:∀b<24,g[H.base+b]?=W (tD 0):=by intro b l;let⟨aE,f,aR⟩:=aN b 0 rf rf aK aa;simp[m,z4,qp] at f;rw[f];cases aR;rfl
  have av:Go.Sort.Holds tD E Q (H.base+G) (td R 0):=by
   intro b l;have t:b<R:=by simpa using l
   refine⟨?_,h.aF q⟩;rw[h.cell,show H.base+G+b=H.base+(G+b) by omega,N (G+b) q,yp _ b l];simp
  have L:=aA Q (H.base+G) cap (td R 0) E ao av;simp[ahb] at L;apply iK L;rintro F aq ⟨rfl,B,am,d,rfl,s⟩;have az:a9 d=R:=s.size;have aI:∀b(l:b<R),∃T,(l8 e)[b]?=W T/\d[b]! =T:=by
   intro b l;have t:b<U (l8 e):=by rw[decDigits_length,<-u];exact l
   rw[u] at s;exact⟨_,cT t,bQ<|row_is_numeral s b t⟩
  have:Q<a9 E.heap:=h.lt;have aC:kl ((putRow tD E Q (H.base+G) d).drewN B) Q (putCells tD (H.base+G) d g) K:=by obtain⟨iN,h,aX⟩:=h;refine⟨iN,?_,by simpa[putCells] using aX⟩;show(E.heap.modify Q _)[Q]?=_;rw[JR,af aa,h];rfl
  have:p.le (p.fV v H):=bf.jh λbd y=>aK;have X:∀b,(putCells tD (H.base+G) d g)[b]?=(g[b]?).map λT=>if H.base+G<=b/\b<H.base+G+a9 d then tD d[b-(H.base+G)]! else T:=by intro b;unfold putCells;rw[UW]
  exists _,.tuple [],_,p.fV v H,aa,⟨aa,aa⟩,.tuple [] [] aa ao;have O:U (l8 e)=R:=by rw[decDigits_length,u]
  apply D.pB (B:=0) aa S aa (bv _) (λ_=>aa)<|bj aa;rw[aM];refine⟨aa,aa,aa,?_,λaU k ba=>?_⟩;simp;show(E.heap.modify Q _)[aU]?=_;grind;refine⟨ak,m,bp ⟨Q,_,aM,aC,?_,?_,?_,?_,?_⟩⟩
  (simp[putCells];omega)
  grind;intro b aE f;rw[X] at f;cases ay:g[b]?;grind
  next T=>rw[ay] at f;simp[lm,g6] at f;subst f;split;rfl;grind
  intro b I c;rw[m];rcases fp.1 (dY c) with hm|hm;rw[zT hm];rfl;rcases fp.1 hm with hm|hm;obtain⟨T,_,rfl⟩:=dI.1 hm;rfl;rw[zT hm];rfl;intro b n I T c o;have aD:=(eX.1 c).1;simp[cd,bm,wK,O] at aD;have aL:I.cells=[I]:=by rcases fp.1 (dY c) with hm|hm;rw[zT hm];rfl;rcases fp.1 hm with hm|hm;obtain⟨w,_,rfl⟩:=dI.1 hm;rfl;rw[zT hm];rfl
  rw[aL] at o;cases n with|succ n=>simp at o|zero=>simp at o;subst o;rw[m,z4,qp,X,N b q];rw[nB,wK] at c;split at c;rename_i aH;rw[zX,af aH] at c;simp at c;subst c;refine⟨tD 0,?_,.int _ _⟩;simp only[lm];rw[ad q];rw[nB] at c;simp only[bm,O] at c;split at c;rename_i aG;let⟨w,aS,aT⟩:=aI (b-G) aG;rw[db,aS] at c;simp at c;subst c;refine⟨tD w,?_,.int _ _⟩;rw[az];simp[lm];rw[af q,show H.base+b-(H.base+G)=b-G by omega,aT];rw[zX] at c;split at c;simp at c;subst c;refine⟨tD 0,?_,.int _ _⟩;simp only[lm];rw[ad q];cases c
section
variable{P:bn}{K:cI}{p:bJ}{i:Y (Z×V)}{B:V->Prop}
def Do{S F:aw}{l:cH}{T h:aP}{d:Y V}{au k b n tv:Z}{dQ:dd}{ap:L}{t:X}{cs:Z}(v:B (.ref au d b tv))(w:M.op=o0 S T h:=by rfl)(x:fC K S (pL k F):=by exact fX)(r:K.find F=W l:=by rfl)(y:val i J.c T=W (.ref au d b n):=by rfl)(s:val i J.c h=W (.int dQ ap):=by rfl)(z:ap=(cs:L):=by first|rfl|omega)(u:cs<k:=by exact Kj)(mo:n+cs*l.size=tv:=by first|rfl|(show 0+_*1=_;omega))(bC:(V.ref au d b tv).plain:=by rfl):er P K p i t M J B:=by subst mo;exact .of bC (λg e f o aD=>by obtain⟨_,_,m⟩:=x.eD g;exact asY m (g.find r).au w (hK e f y dZ aa (o:=o) (aD:=aD)) (hK e f s dZ aa (o:=o) (aD:=aD)) z u) v
def anv{P:bn}{i:Y (Z×V)}{ar:fM}{b R G:Z}{K:aw}(g:R=nDigits b)(e:G+R<=24)(f:∀bR c cap I E,a9 I=R->Go.Sort.Holds tD E bR c I->ln P ar #[eY (W ⟨bR,c,ai⟩) (a9 I) cap,cN ej b] E λF k=>F=lo (o1 #[])/\∃(B h:Z)(d:bU C),k=(putRow tD E bR c d).drewN B/\FmtInv (a9 I) b 0 h d)(iO:0<R):mL P i ar [.a 6000 G R,.int ej b] [(6000,.j 1 K<|cM 24 rf)] (.tuple []) [(6000,.j 1 K<|cM G rf++(ab bF (l8 b)++cM (24-G-R) rf))]:=by
 intro Q;let aX:∀B,ab (λaE=>aE.aB Q) (cM B rf)=cM B rf:=λB=>wP;let l:aZ Q [(6000,b7.j 1 K<|cM 24 rf)]=[((Q 6000).1,.j (Q 6000).2 1 K<|cM 24 rf)]:=by simp[aZ,ia,rk,c2,b7.aD]
 apply g3.mono<|anw (P:=P) (i:=i) (ar:=ar) (K:=K) (JG:=(Q 6000).2) g e f iO;rintro A M ⟨rfl,rfl⟩;refine⟨Q,dk.refl _ Q,aa,?_⟩;rfl
end
section
variable{P:bn}{K:cI}{p:bJ}{i:Y (Z×V)}{m:Z}{cA:Y Z}{R:Z}
def ard{e:c6 (Z×X)}{S:aw}{d:cH}{T:aP}{au n:Z}{b:Y V}A(s:oU P K p i m cA F cV R e H (J.put M.dst A) B)(o:b[n]?=W A)(t:M.op=.load S T:=by rfl)(v:K.find S=W d:=by rfl)(w:val i J.c T=W (.ref au [.agg b] 0 n):=by rfl)(h:g8 30 au=ae:=by rfl)(g:d.agg=ae:=by rfl)(f:A.one:=by rfl)(u:A.plain:=by rfl)(l:A0 e M.guard:=by rfl)(k:mR cV J.c M=W ag:=by rfl):oU P K p i m cA F cV (R+1) e (M::H) J B:=by
 refine ay2 s ?_ l k;let x:(V.agg b).fits:=aa;let bC:q3 (V.agg b).cells n d.size d.agg=W A:=by rw[g];unfold q3;let r:(V.agg b).cells[n]?=W A:=o;simp[r,f]
 unfold ug;rw[t];simp[v,w,h,O3,bC,u]
end
section
variable{P:bn}{K:cI}{p:bJ}{i:Y (Z×V)}{m R:Z}{cA:Y Z}
end
end
section
variable{P:bn}{K:cI}{p:bJ}{i:Y (Z×V)}{m R:Z}
def iL.of_wp{ar:fM}{c:Func}{n:gw}{e:Y hn}{xs:Y V}{aD:bV}{os:bS}{b:Type}{G:b->Prop}{A:b->V}{d:b->bV}{cG:b->bS}{R:Z}cA(k:P.follows qs)(g:gy P K)(f:eh i)(h:GK P ar c n)(l:c.ntmps=R)(u:hB (U xs) R)(m:a0 c.results=e)(s:∀o p,p.G=i->p.n=R->kz P K p i 5000 R cA n ⟨pb 0 xs,os,aD⟩ (ic P p 5000 o e (λt r=>∃z aQ,G z/\dk 5000 o aQ/\t=(A z).aB aQ/\r=d z++aZ aQ (cG z)))):iL P i ar xs aD os G A d cG:=λo=>g3.of_wp cA o _ k g f h l aq m
 (by rw[PZ];rfl)<|s o
def ec{h:b6}{g:Y hn}{F:cS}{J:aN}{e:Y V}{b:Type}{G:b->Prop}{A:b->V}{f:b->bV}{cG:b->bS}z(bC:G z)(o:BL J.c g=W e:=by rfl)(i:tn (cG z) J.az:=by repeat (first|exact trivial|refine And.intro rfl ?_))(l:n2 (cG z):=by rfl)(u:e4 V.Dq e:=by rfl)(n:J.d=f z:=by rfl)(k:F=.ret\/F=fY:=by exact rp)(s:eR e=A z:=by rfl):ic P p m h g (λt r=>∃z aQ,G z/\dk m h aQ/\t=(A z).aB aQ/\r=f z++aZ aQ (cG z)) F J:=QT _ (⟨z,·,bC,·,Ke,by rw[n]⟩) o i l k
end
section
variable{P:bn}{K:cI}{p:bJ}{i:Y (Z×V)}{m:Z}
end
section
variable{P:bn}{p:bJ}{bz:Y ep}
def ds.jx(e:∀d,di P p M ⟨dt M O.c,d⟩ A)(s:ds P p ops H bz (O.put M.dst A) ak)(b:O.guard ops M=W ag:=by rfl):ds P p ops (M::H) (([],[])::bz) O ak:=ds.mn [] b (λv bd=>by cases bd) (λd _ _=>e d) s
def ds.fx{v:Z}(f:∀d,d[v]?=O.d[v]?->di P p M ⟨dt M O.c,d⟩ A)(s:ds P p ops H bz (O.put M.dst A) ak)(e:O.guard ops M=W ag:=by rfl):ds P p ops (M::H) (([v],[])::bz) O ak:=ds.mn [] e (λv bd=>by cases bd) (λd _ b=>f d<|b v ao) s
def ds.up v T(f:∀d,d[v]?=O.d[v]?->eH P p M ⟨dt M O.c,d⟩ A (aR d v T))(s:ds P p ops H bz (({O with d:=aR O.d v T}:bc).put M.dst A) ak)(e:O.guard ops M=W ag:=by rfl):ds P p ops (M::H) (([],[v])::bz) O ak:=ds.mn [(v,T)] e (λw g=>aq) (λd _ b=>f d<|b v ao) s
theorem Lm{id R:Z}{H:Y a7}bz(d:P.follows qs)(f:p.n=R)(s:ds P p (aO H) H bz O ak)(e:pf R H:=by rfl)(b:sP H:=by decide+kernel)(c:tN H bz:=by decide+kernel):e3 P p (sl id (aO H) ag) O ak:=e3.X5 (bz:=bz) d aq b c s
end
def g3.frame{P:bn}{i:Y (Z×V)}{ar:fM}{xs:Y V}{f e:bV}{ak c:V->bV->Prop}(s:g3 P i ar xs f ak)g(bC:g7 (f++g) e)(bd:∀A M,ak A M->∃b,g7 (M++g) b/\c A b):g3 P i ar xs e c:=by intro k u E v l m n o;let d:=n.perm bC;apply iK<|s k u E _ l m (d.enter i 0) o;rintro F w ⟨aE,A,M,h,he,p,t,r⟩;let⟨b,fx,r0⟩:=bd _ _ p;exact⟨aE,A,b,h,he,r0,t,(d.leave r).perm fx.symm⟩
theorem s0{H m:bV}(s:∀[hO (Z×cB)] z,lp z H=lp z m):g7 H m:=by
 haveI:hO (Z×cB):=λz Q=>Classical.propDecidable _
 grind
section
open Go.MapKept
def V.ago:V->L|.int _ R=>R|_=>0
def V.ints(T:V):Y L:=ab V.ago T.cells
def sx(B:dd)(R:Z)(T:V):Prop:=∃H:Y L,U H=R/\(T=.agg (ab (.int B) H)\/∃ap,T=.vec ap (.ints B H) [])
def PY(T w:V):X:=aH<|T.ints=w.ints
def Z7 B(H:Y L):ab V.ago (ab (V.int B) H)=H:=by rw[i_];exact b0 (hY λT _=>aa)<|uo H
theorem aez{b:bf}{B:dd}{H:Y L}{aE:bq}(s:bk b (.agg (ab (.int B) H)) aE):aE=h0 (aO (ab (cN B) H)):=by cases s with|agg _ f e d c=>have:=OH (λb T aE s=>by cases s;rfl) aq c;grind
theorem sx.gU{b:bf}{B:dd}{R:Z}{T:V}{aE:bq}(s:sx B R T)(d:bk b T aE):U T.ints=R/\aE=h0 (aO (ab (cN B) T.ints)):=by
 obtain⟨H,e,rfl|⟨ap,rfl⟩⟩:=s;have:(V.agg _).ints=H:=Z7 B H;grind[aez];have:(V.vec ap (.ints B H) []).ints=H:=by show ab _ (ab _ H++[])=H;rw[gv];exact Z7 B H
 let c:=oo.Ta aa b aE d;rw[show(fZ.ints B H).cells++[]=ab _ H from gv _] at c;grind[aez]
structure vv(P:bn)(gJ:aw)(B:dd)(R:Z):Prop where
 h:∃F au ck axv dP,cu P gJ (pL R F) au ck/\cu P F (.int B) 1 dP/\gx P F 1 axv
def v_:Y (V×V×Z)->V->Z->c6 (Z×V)|[],_,_=>ai|T::A,B,b=>if PY B T.1 then W (b,T.2.1) else v_ A B (b+1)
def v3(B:dd)(R:Z)(b:Y (V×V×Z)):Prop:=∀T∈b,sx B R T.1
def Bn(b:Y (V×V×Z))(c:Z)(B aE:V):Y (V×V×Z)×Z:=u0 (v_ b B 0) b c B aE
def Ib(b:Y (V×V×Z))(B:V):c6 V:=(v_ b B 0).map (·.2)
section
variable{P:bn}{gJ:aw}{B:dd}{R:Z}
def as_{E:bI}{F:aw}{dP:Z}(b:cu P F (.int B) 1 dP)(xs:Y L){D:Z}:D<U xs->ce P (part F (aO (ab (cN B) xs)) (D*1)) E=ct (cN B (y xs D 0)) E:=by unfold part;simp[Sem.run_bind,b.vb,nY];simp_all
theorem avH(s:vv P gJ B R){E:bI}(b:X){H:Y L}(f:U H=R):ce P (Instr.checkKey b 10000 gJ (h0 (aO (ab (cN B) H)))) E=ct () E:=by
 let⟨F,au,ck,l,dP,e,he,d⟩:=s.h;rw[show 10000=9998+2 from aa,Instr.checkKey];have:∀D∈List.range' 0 R 1,D<R:=λD k=>aq;have:∀A:Y Z,(∀D∈A,D<R)->ce P (forIn A PUnit.unit λD (_)=>do
   Instr.checkKey b (9998+1) F (<-part F (aO<|ab (cN B) H) (D*(<-sizeOf F)))
   pure (ForInStep.yield PUnit.unit)) E=ct PUnit.unit E:=by
  intro A g
  induction A
  rfl
  next D A i=>
   have:=as_ (E:=E) he H (D:=D) aq;have c:ce P (Instr.checkKey b (9998+1) F (cN B (y H D 0))) E=ct () E:=by rw[Instr.checkKey];simp only[Sem.run_bind,run_underlying he.u];rfl
   simp[List.forIn_cons,Sem.run_bind,d.kw,c];simp_all
 simp[Sem.run_bind,run_underlying e.u,J2];simp_all
theorem avK(s:vv P gJ B R){E:bI}{H m:Y L}(b:U H=R)(c:U m=R):ce P (Op.equal gJ (h0 (aO (ab (cN B) H))) (h0 (aO (ab (cN B) m)))) E=ct (aH (H=m)) E:=by let⟨F,au,ck,f,dP,e,he,d⟩:=s.h;have:=aeX (E:=E) 0 (cN B) (Op.maxDepth-2) gJ F e he aa d (λz Q=>by rw[nH];simp[run_underlying he.u];rfl) H m b c;exact this
def avL{E:bI}(H:Y L):ce P (Instr.keyThatStays (h0 (aO (ab (cN B) H))) (h0 (aO (ab (cN B) H)))) E=ct (h0 (aO (ab (cN B) H))) E:=by
 have:Instr.sameBits 10000 (h0 (aO (ab (cN B) H))) (h0 (aO (ab (cN B) H))):=by
  rw[show 10000=9998+2 from aa,Instr.sameBits]
  induction H
  rfl
  next T H b=>grind[Instr.sameBits]
 simp_all[Instr.keyThatStays,af]
def mF.tail{c:bf}{T:V×V×Z}{A:Y (V×V×Z)}{F:k0}{d:Y k0}(s:mF c (T::A) (aO (F::d))):mF c A (aO d):=⟨by simpa using s.len,λb w ar e f=>s.key (b+1) w ar aq aq,λb w ar e f=>s.val (b+1) w ar aq aq,λb w ar e f=>s.born (b+1) w ar aq aq⟩
theorem aeY(s:vv P gJ B R){E:bI}{h:bf}{T:V}{d:bq}(l:sx B R T)(k:bk h T d):∀f c b,v3 B R f->mF h f (aO c)->v_ f T b=ai/\ce P (Instr.findAsking gJ d c b) E=ct ai E\/∃(e:Z)(ap:V×V×Z)(F:k0),b<=e/\v_ f T b=W (e,ap.2.1)/\ce P (Instr.findAsking gJ d c b) E=ct (W (e,F.val)) E/\f[e-b]?=W ap/\c[e-b]?=W F/\d=F.key
|[],[],b,_,_=>bj ⟨aa,aa⟩|[],_::_,_,_,he=>by have:=he.len;simp_all|_::_,[],_,_,he=>by have:=he.len;simp_all|ap::A,F::c,b,i,he=>by
 let⟨p,z⟩:=l.gU k;let⟨r,C⟩:=(i ap ao).gU<|he.key 0 ap F aa aa;let t:=avK s (E:=E) p r;rw[v_,Instr.findAsking];unfold PY;by_cases n:T.ints=ap.1.ints;rw[oY n] at t⊢;refine bp ⟨b,ap,F,bv _,aa,?_,ao,ao,aq⟩;simp_all;let G:∀g,ce P (Instr.findAsking gJ d c<|b+1) E=g->ce P ((do if<-Op.equal gJ d F.key then pure (W (b,F.val)) else Instr.findAsking gJ d c (b+1))) E=g:=λg D=>by simp_all
 rcases aeY s (E:=E) l k A c (b+1) (λw H=>i w aK) he.tail with⟨m,o⟩|⟨e,w,ar,u,m,o,v,x,y⟩;simp_all;grind
theorem mF.anl(s:vv P gJ B R){E:bI}{f:bf}{T:V}{c:bq}{d:Y (V×V×Z)}{b:bU k0}(o:mF f d b)(n:sx B R T)(l:bk f T c)(k:v3 B R d):v_ d T 0=ai/\ce P (Instr.findKey gJ c (a0 b)) E=ct ai E\/∃(e:Z)(ap:V×V×Z)(F:k0),v_ d T 0=W (e,ap.2.1)/\ce P (Instr.findKey gJ c (a0 b)) E=ct (W (e,F.val)) E/\d[e]?=W ap/\b[e]?=W F/\c=F.key:=by
 let⟨F,au,ck,r,dP,m,_,_⟩:=s.h;let iO:=aeY s (E:=E) n l _ _ 0 k q;let p:∀A,ce P (Instr.findAsking gJ c (a0 b) 0) E=A->ce P (Instr.findKey gJ c<|a0 b) E=A:=λA g=>by
  unfold Instr.findKey;simp[Sem.run_bind,run_underlying m.u,Result.andThen_ok];cases i:a0 b;rw[i] at g;exact g
  next ar bz=>grind[Instr.findNow,Instr.sameNow]
 grind
end
section
variable{P:bn}{p:bJ}
def vz.acB{d:dd}{e:Z}{E:bI}{f:bf}{c:V}{m:bq}{gJ:aw}{b:Y (V×V×Z)}{g:bU k0}(h:vv P gJ d e)(i:sx d e c)(o:v3 d e b)(p:mF f b g)(l:bk f c m):vz P gJ E m b g (v_ b c 0):=by let⟨n,k⟩:=i.gU l;exact⟨λem=>by rw[k];exact avH h em n,by rw[k];exact avL _,p.anl h i l o⟩
def amN{i gJ l:aw}{g:dd}{h:Z}{x k:Z}{G T w:aP}{id aS B e:Z}{c:Y (V×V×Z)}{b f:V}(s:cu P i (.map gJ l) x k)(m:vv P gJ g h)(t:M.op=.mapUpdate i G T w)(bC:O.val p G=W (.jj id aS))(n:O.d[B]?=W (id,.map aS c e))(u:O.val p T=W b)(v:O.val p w=W f)(o:sx g h b)(r:v3 g h c):eH P p M O .undef (aR O.d B (id,.map aS (Bn c e b f).1 (Bn c e b f).2)):=Yv s t bC n u v<|vz.acB m o r
def H4(c:Y (V×V×Z))(b:V)(ap:bq)(d:X):V:=if d then .tuple [(Ib c b).getD (V.const ap),.bool (Ib c b).isSome] else(Ib c b).getD (V.const ap)
def aui{h gJ g:aw}{e:dd}{f:Z}{w i:Z}{G T:aP}{id aS B k:Z}{c:Y (V×V×Z)}{b:V}{ap:bq}{n:X}(s:cu P h (.map gJ g) w i)(l:vv P gJ e f)(v:jr P g ap)(t:M.op=.lookup h G T n)(bC:O.val p G=W (.jj id aS))(m:O.d[B]?=W (id,.map aS c k))(u:O.val p T=W b)(o:sx e f b)(r:v3 e f c):di P p M O (H4 c b ap n):=adU s v t bC m u<|vz.acB l o r
end
section
variable{P:bn}{K:cI}{p:bJ}{i:Y (Z×V)}{m:Z}
def ab3{t gJ h:aw}{w:cH}{G T:aP}{u y:Z}{n:X}{e:Y (V×V×Z)}{b:V}{f:dd}{g:Z}{B:V->Prop}A(E:B A)(I:vv P gJ f g)(F:sx f g b)(H:v3 f g e)(r:M.op=.lookup t G T n:=by rfl)(O:fC K t (.map gJ h):=by exact fX)(D:K.find h=W w:=by rfl)(bC:val i J.c G=W (.eA u):=by rfl)(C:ci J.az u=W (.map e y):=by rfl)(Q:val i J.c T=W b:=by rfl)(fi:H4 e b w.z n=A:=by rfl)(N:A.plain:=by rfl)(L:b.plain:=by rfl):er P K p i ae M J B:=.n5 (λm k l o=>by subst fi;obtain⟨_,_,x⟩:=O.eD m;obtain⟨v,bd⟩:=j7 _ C;rw[V.gc N];have s:=iU k l Q (by rw[r];simp[j0]) o (aD:=(J.aB o).d);rw[V.gc L] at s;exact aui x I (m.find D).lG r (iU k l bC dZ o) bd s F H) E
def SR{l gJ C:aw}{G T w:aP}{r t:Z}{e:Y (V×V×Z)}{b d:V}{k:dd}{n:Z}{B:aN->Prop}x u(F:B ({J with az:=il J.az r (.map x u)}.put M.dst .undef))(L:vv P gJ k n)(H:sx k n b)(I:v3 k n e)(S:Bn e t b d=(x,u))(h:M.op=.mapUpdate l G T w\/M.op=.insert l G T w:=by exact rp)(R:fC K l (.map gJ C):=by exact fX)(bC:val i J.c G=W (.eA r):=by rfl)(E:ci J.az r=W (.map e t):=by rfl)(U:val i J.c T=W b:=by rfl)(X:val i J.c w=W d:=by rfl)(N:b.plain:=by rfl)(O:d.plain:=by rfl):gg P K p i m ops M J B:=.AP _ E F λD f g o v Q=>by obtain⟨_,_,A⟩:=R.eD D;have y:=hJ f g U o;rw[V.gc N] at y;have z:=hJ f g X o;rw[V.gc O] at z;have s:=eH.pB h λh=>amN A L h (hJ f g bC o) Q y z H I;rw[S] at s;exact s
end
section
variable[hO b_]
def Ci(G:b_->Prop)(b:b_->V):Prop:=∀T w,G T->G w->PY (b T) (b w)=aH (T=w)
theorem RU{G:b_->Prop}{e:b_->V}{h:Z->V}(f:Ci G e){T:b_}(g:G T):∀b c d,(∀w∈b,G w)->v_ (sM e h c b) (e T) d=if T∈b then W (d+h2 T b,h (c+h2 T b)) else ai|[],c,d,_=>aa|w::b,c,d,s=>by rw[sM,v_,f T w g<|s w ao,RU f g b _ _ λap aX=>s ap aK];grind
def api{G:b_->Prop}{c:b_->V}{d:Z->V}(e:Ci G c){T:b_}{b:Y b_}(f:G T)(s:∀w∈b,G w):Ib (e6 c d b) (c T)=if T∈b then W (d (h2 T b)) else ai:=by grind[Ib,e6,RU]
theorem aak{G:b_->Prop}{c:b_->V}{s6:Z->V}(d:Ci G c){T:b_}{b:Y b_}(f:G T)(s:∀w∈b,G w)(e:T∉b):Bn (e6 c s6 b) (U b) (c T) (s6 (U b))=(e6 c s6 (b++[T]),U (b++[T])):=by unfold Bn e6;rw[RU d f b 0 0 s,ad e,RV,cd];simp[u0]
def aah{e:b_->V}{f:Z->V}{B:dd}{R:Z}:∀c d,(∀w∈c,sx B R (e w))->v3 B R (sM e f d c)|[],_,_=>λT b=>cg b kB|w::c,d,s=>λT b=>by rcases fH.1 b with rfl|b;simp_all;exact aah c _ (λap aX=>s ap aK) T b
def aaj{c:b_->V}{d:Z->V}{B:dd}{R:Z}{b:Y b_}(s:∀w∈b,sx B R (c w)):v3 B R (e6 c d b):=aah b 0 s
def apl{G:b_->Prop}{c:b_->V}{d:Z->V}{ap:bq}(e:Ci G c){T:b_}{b:Y b_}(f:G T)(s:∀w∈b,G w):H4 (e6 c d b) (c T) ap ag=.tuple [if T∈b then d (h2 T b) else V.const ap,.bool (aH (T∈b))]:=by unfold H4;rw[af aa,api e f s];grind
end
def a_.Zd{p:bJ}{d:Y (Z×V)}{z:fI}{E:bI}{e:bf}{id aS au:Z}{F:aw}{aC:Y V}{c u3:bV}(s:a_ p ⟨d,(id,.j aS au F aC)::c⟩ z E e)(i:cY (vx id aS au aC) c u3):∃b,a_ p ⟨d,u3⟩ z E b:=by let⟨b,h,hm,g,H,o,m,k,f⟩:=s.cO.freeze (B:=0) aa;refine⟨b,a_.rD s h g (λT w aM aE l=>?_) vx.one (λS w n=>⟨w,n,.refl _⟩) i⟩;cases aM with|a=>have:=tk.key aq m k f _ _ (tk.bH 0 _ q) aE l;simp_all|my _ _ r=>grind[hC.gU]
section
variable(aE ar:b_->V)(aD:b_->bV)
def Es:Prop:=∀T,aD T=[]/\ar T=aE T\/∃(id aS au:Z)(F:aw)(aC:Y V),aD T=[(id,.j aS au F aC)]/\aE T=.bH id aS 0 (U aC)/\ar T=.al au aC
variable{aE ar aD}
theorem a_.nest{p:bJ}{l:Y (Z×V)}{z:fI}{E:bI}{i aS ap:Z}{F:aw}(h:Es aE ar aD):∀(b:Y b_) d(c e:bV) f,a_ p ⟨l,ff aD b++(c++(i,.j aS ap F (d++ab aE b))::e)⟩ z E f->∃m,a_ p ⟨l,c++(i,.j aS ap F (d++ab ar b))::e⟩ z E m
|[],d,c,e,f,s=>⟨f,s⟩|T::b,d,c,e,f,s=>by
 rw[wJ,ia] at s;rcases h T with⟨g,k⟩|⟨id,x,au,w,aC,g,k,r⟩;rw[g,na] at s;have:=a_.nest h b (d++[aE T]) c e f (by rw[eS];exact s);simp_all;rw[g] at s;let⟨o,t⟩:=a_.Zd (u3:=ff aD b++(c++(i,.j aS ap F<|d++[ar T]++ab aE b)::e)) s (by
  refine cY.rA ?_<|cY.refl _;refine cY.rA ?_<|cY.refl c;refine cY.j _ _ _ _ _ _ ao (λu G v bC bd=>?_)<|cY.refl _;rw[eS] at bd;by_cases n:u=U d;subst n;rw[s9<|bv _,oX] at bC bd;simp at bC bd;rw[<-bC,<-bd,k,r];exact .base _ _ .a;have:G=v:=by rw[nB] at bC bd;split at bC;simp_all;grind
  rw[this];exact .refl _)
 cases a_.nest h b _ c e o t;grind
end
section
variable{P:bn}{p:bJ}{m:Z}{ak:cS->aN->Prop}
theorem K9{H:bS}{v:Z}{G:b7}(s:ci H v=W G):∃b c,H=b++(v,G)::c/\∀w,il H v w=b++(v,w)::c:=by
 induction H
 grind[ci]
 next T A d=>cases T;rw[ci] at s;split at s;rename_i he;obtain rfl:=nE he;cases mD s;exact⟨[],A,aa,λw=>by simp[il]⟩;grind[il]
def a_.LV{b_:Type}{aE ar:b_->V}{aD:b_->bV}(u:Es aE ar aD)(b:Y b_)v{ap:Z}{F:aw}(g:bV){o:b6}{z:fI}{E:bI}{k:bf}(e:a_ p (J.aB o) z E k)(t:g7 (ff aD b++g) J.d)(s:ci J.az v=W (.j ap F (ab aE b))):∃f,a_ p ((⟨J.c,il J.az v (.j ap F (ab ar b)),g⟩:aN).aB o) z E f:=by
 let⟨h,i,m,n⟩:=K9 s;have r:a_ p ⟨da o J.c,ff aD b++(g++aZ o h++((o v).1,.j (o v).2 ap F ([]++ab aE b))::aZ o i)⟩ z E k:=by
  refine⟨e.cO.perm ?_,e.c,e.gR,e.size,e.defers⟩;show g7 _ (J.d++aZ o _);have l:aZ o J.az=aZ o h++((o v).1,.j (o v).2 ap F ([]++ab aE b))::aZ o i:=by rw[m];simp[aZ,dc];rfl
  rw[l,eS,<-eS];exact Gr _ t
 let⟨f,w⟩:=a_.nest u b [] _ _ k r;exists f;have:aZ o (il J.az v (.j ap F (ab ar b)))=aZ o h++((o v).1,.j (o v).2 ap F ([]++ab ar b))::aZ o i:=by rw[n];simp[aZ,dc];rfl
 show a_ p ⟨da o _,g++aZ o _⟩ z E f;simp_all
def a1.LV{b_:Type}{aE ar:b_->V}{aD:b_->bV}(t:Es aE ar aD)(b:Y b_)v{ap:Z}{F:aw}(e:bV)(r:g7 (ff aD b++e) J.d)(s:a1 P p m n ⟨J.c,il J.az v (.j ap F (ab ar b)),e⟩ ak)(l:ci J.az v=W (.j ap F (ab aE b)):=by rfl):a1 P p m n J ak:=⟨λo g h z E u i=>by let⟨f,k⟩:=a_.LV t b v _ i r l;exact s.run o g h z E f k⟩
def amY{i:b6}{g:Y hn}{e:V->bV->Prop}{f:cS}{b_:Type}{aE ar:b_->V}{aD:b_->bV}(w:Es aE ar aD)(b:Y b_)v{ap:Z}{F:aw}(h:bV)(u:g7 (ff aD b++h) J.d)(s:ic P p m i g e f ⟨J.c,il J.az v (.j ap F (ab ar b)),h⟩)(t:ci J.az v=W (.j ap F (ab aE b)):=by rfl):ic P p m i g e f J:=⟨s.he,λo r z E x l=>by let⟨k,n⟩:=a_.LV w b v _ l u t;exact s.run o r z E k n⟩
def Ge(S id aS:Z):V->V
|.a b d len=>match ef b S with
 |ag=>.bH id aS d len|ae=>.a b d len
|.dC b c n=>match ef b S with
 |ag=>.own id aS c n|ae=>.dC b c n
|T=>T
abbrev JA(S id aS:Z):V->V:=xy<|Ge S id aS
abbrev Gf(S id aS:Z):Y (Z×V)->Y (Z×V):=xA<|JA S id aS
abbrev BU(S id aS:Z):bS->bS:=qW S<|JA S id aS
theorem agz{S id aS:Z}:Ah (Ge S id aS):=λT=>by cases T<;>first|exact bj aa|(simp[Ge];split<;>first|exact bj aa|exact bp ⟨aa,aa⟩)
section
variable{o:b6}{S id aS:Z}(aM:o S=(id,aS))
include aM
theorem ayj T:(Ge S id aS T).e0 o=T.e0 o:=by cases T with|a b d len=>simp[Ge];split;rename_i s;obtain rfl:=nE s;grind[V.e0];rfl|dC b c n=>simp[Ge];split;rename_i s;obtain rfl:=nE s;grind[V.e0];rfl|_=>rfl
theorem agE T:(JA S id aS T).aB o=T.aB o:=bQ<|Fm agz .eq (G:=λ_=>dW) (λT _=>bQ<|ayj aM T) λ_=>Nz (λ_=>b5) T
theorem agD:∀H,da o (Gf S id aS H)=da o H|[]=>aa|(B,T)::A=>by show(B,(JA S id aS T).aB o)::da o _=(B,T.aB o)::da o A;rw[agE aM,agD A]
end
def agC{o:b6}{S id aS B:Z}(aM:o S=(id,aS))G:c2 o (B,G.mp (JA S id aS))=c2 o (B,G):=by
 unfold c2;cases G
 next F T=>simp[b7.mp,b7.aD,Fo agz,agE aM]
 next J F xs=>rfl
 next b clock=>rfl
 next b clock seen=>rfl
def BA(S:Z):bS->X|[]=>ae|(B,_)::A=>match ef S B with|ag=>M7 S A|ae=>BA S A
 where M7 (S:Z):bS->X|[]=>ag|(B,_)::A=>!ef S B&&M7 S A
def agA{o:b6}{S id aS:Z}(aM:o S=(id,aS)):∀{H:bS},BA.M7 S H->aZ o (BU S id aS H)=aZ o H|[],_=>aa|(B,G)::A,s=>by rw[BA.M7,m7,U1] at s;rw[BU,qW,s.1];show c2 o _::aZ o _=_;rw[agC aM,agA aM s.2];rfl
def agB{o:b6}{S id aS ap:Z}{F:aw}{aC:Y V}(aM:o S=(id,aS)):∀{H:bS},BA S H->ci H S=W (.j ap F aC)->g7 ((id,cB.j aS ap F aC)::aZ o (BU S id aS H)) (aZ o H)
|[],s,_=>by cases s|(B,G)::A,s,b=>by
 rw[BA] at s;rw[ci] at b;rw[BU,qW];split at s;rename_i c;rw[c] at b⊢;cases mD b;obtain rfl:=nE c;rw[agA aM s];show g7 _ (((o S).1,cB.j _ ap F aC)::aZ o A);rw[aM]
 .rename_i c;rw[c] at b⊢;show g7 (_::c2 o _::aZ o _) _;rw[agC aM];exact(List.Perm.swap _ _ _).trans<|List.Perm.cons _<|agB aM s b
def a_.JC{S ap:Z}{F:aw}{aC:Y V}(i:ci J.az S=W (.j ap F aC))(h:BA S J.az){o:b6}{z:fI}{E:bI}{e:bf}(b:a_ p (J.aB o) z E e):a_ p ((⟨Gf S (o S).1 (o S).2 J.c,BU S (o S).1 (o S).2 J.az,J.d++[((o S).1,.j (o S).2 ap F aC)]⟩:aN).aB o) z E e:=by refine⟨b.cO.perm ?_,λg T k=>b.c g T ?_,b.gR,b.size,b.defers⟩;show g7 (J.d++[((o S).1,cB.j _ ap F aC)]++aZ o _) _;rw[eS];exact D2 _<|agB (o:=o) aa h i;let f:cX g (da o _)=W T:=k;rw[agD (o:=o) aa] at f;exact f
def a1.JC S{ap:Z}{F:aw}{aC:Y V}(s:∀id aS,a1 P p m n ⟨Gf S id aS J.c,BU S id aS J.az,J.d++[(id,.j aS ap F aC)]⟩ ak)(i:ci J.az S=W (.j ap F aC):=by rfl)(f:BA S J.az:=by rfl):a1 P p m n J ak:=⟨λo e g z E b h=>(s _ _).run o e g z E b<|a_.JC i f h⟩
end
section
variable{P:bn}{K:cI}{p:bJ}{i:Y (Z×V)}{m:Z}
def arX S{ap:Z}{F:aw}{aC:Y V}(s:∀id aS,gg P K p i m ops M ⟨Gf S id aS J.c,BU S id aS J.az,J.d++[(id,.j aS ap F aC)]⟩ B)(t:∀id aS,mR (a0 ops) (Gf S id aS J.c) M=W ag:=by intro _ _;rfl)(n:ci J.az S=W (.j ap F aC):=by rfl)(e:BA S J.az:=by rfl):gg P K p i m ops M J B:=⟨λl f g o H ak _ h=>by intro r z E b k;exact(s _ _).run l f g o H ak (by have:=uT (J:=⟨Gf S _ (o S).2 _,BU S (o S).1 (o S).2 J.az,J.d++[((o S).1,.j (o S).2 ap F aC)]⟩) o<|t (o S).1 _;omega) h r z E b<|a_.JC n e k⟩
end
end
def Au(I:Z):Z->Y V->Y V|_,[]=>[]|0,.bo::A=>.a I 0 0::A|0,T::A=>T::A|B+1,T::A=>T::Au I B A
def V6(I B:Z):b7->b7|.cell F (.vec R z b)=>.cell F (.vec R z<|Au I B b)|T=>T
def KF(I S B:Z):bS->bS|[]=>[]|(b,G)::A=>match ef S b with|ag=>(b,V6 I B G)::A|ae=>(b,G)::KF I S B A
def aN.Av(J:aN)(I au:Z)(F:aw)(S B:Z):aN:=⟨yB I [] J.c,KF I S B (r3 I J.az)++[(I,.j au F [])],J.d⟩
def PI I:∀B H,U (Au I B H)=U H|_,[]=>by cases ‹Nat›<;>rfl|0,T::A=>by cases T<;>rfl|B+1,T::A=>by rw[Au,l5,PI I B A];rfl
section
variable(bd:aQ I=(v,0))
include bd
theorem V8:∀B H(b:Z) T w,(ab (V.e8 aQ) H)[b]?=W T->(ab (V.e8 aQ) (Au I B H))[b]?=W w->fS (qu v) T w
|B,[],b,T,w,d,_=>cf|0,ap::A,b,T,w,d,c=>by
 cases b;let e:=mD d;cases ap with
 |bo=>
  let f:=mD c;rw[<-e,<-f];let F:(V.a I 0 0).e8 aQ=.bH v 0 0 0:=by simp[V.e8,V.e0,bd]
  rw[F];exact .base _ _ .nil|_=>let f:=mD c;rw[<-e,<-f];exact .refl _
 next b=>
  have:(ab (V.e8 aQ) A)[b]?=W w:=by cases ap<;>exact c
  let e:(ab _ A)[b]?=W T:=d;rw[this] at e;cases mD e;exact .refl _
|B+1,ap::A,b,T,w,d,c=>by
 rw[Au] at c;cases b;rw[<-mD d,<-mD c];exact .refl _
 next b=>exact V8 B A b T w d c
theorem V7 S B:∀H,cY (qu v) (aZ aQ H) (aZ aQ (KF I S B H))
|[]=>.nil|(e,G)::A=>by
 rw[KF];split;show cY _ _ (c2 aQ _::aZ aQ A);unfold c2;cases G
 next F T=>
  cases T with
  |vec R z b=>
   let d:(V.vec R z<|Au I B b).cells.length=(V.vec R z b).cells.length:=by show U (z.cells++Au I B b)=U (z.cells++b);rw[cd,cd,PI]
   simp[V6,b7.aD,d];refine .F1 ?_<|cY.refl _;exact .vec R z _ _ (by simp[bm,PI]) (V8 bd B b)|_=>exact cY.refl _
 next J F xs=>exact cY.refl _
 next c clock=>exact cY.refl _
 next c clock seen=>exact cY.refl _
 exact .same _<|V7 S B A
end
def a1.Av{P:bn}{p:bJ}{m:Z}{n:gw}{J:aN}{ak:cS->aN->Prop}I au F S B(s:a1 P p m n (J.Av I au F S B) ak)(b:g8 I m:=by rfl):a1 P p m n J ak:=.Wj I au F [] (V7 · S B) s b
def xY(v:Y Z)(M:a7):a7:={M with after:=⟨(a0 M.after).map λF=>{F with on:=y v F.on 0}⟩,guard:=M.guard.map λb=>(y v b.1 0,b.2)}
def nu(G v:Y Z)(H:Y a7):Y a7:=G.map λb=>xY v<|y H b default
def Ny(G v:Y Z)(H:Y a7):X:=ef (U G) (U H)&&ef (U v) (U H)&&dh (bM<|U H) (λb=>g8 (y G b 0) (U H)&&g8 (y v b 0) (U H)&&ef (y v (y G b 0) 0) b&&ef (y G (y v b 0) 0) b)&&
 dh H λM=>dh (a0 M.after) (λF=>g8 F.on<|U H)&&(match M.guard with|ai=>ag|W c=>g8 c.1<|U H)
structure VT(G v:Y Z)(H:Y a7):Prop where
 pl:U G=U H
 FU:∀D<U H,y G D 0<U H/\y v D 0<U H/\y v (y G D 0) 0=D/\y G (y v D 0) 0=D
 on:∀M∈H,∀F∈a0 M.after,F.on<U H
 anU:∀M∈H,∀u,M.guard=W u->u.1<U H
def atk{G v:Y Z}{H:Y a7}(s:Ny G v H):VT G v H:=by unfold Ny at s;simp only[m7,kY,hM] at s;let⟨⟨⟨d,h⟩,e⟩,c⟩:=s;refine⟨nE d,λf k=>?_,λM b F he=>ll<|(c M b).1 F he,λM b g i=>?_⟩;cases e f k;simp_all;have:=(c M b).2;simp_all
section
variable{P:bn}{G v:Y Z}(bC:VT G v H)
include bC
theorem Nw:U (nu G v H)=U H:=by rw[nu,bm,bC.pl]
theorem Tz{b:Z}(d:b<U H):(nu G v H)[y v b 0]?=W (xY v H[b]):=by
 let⟨_,c,_,e⟩:=bC.FU b d;let bd:y v b 0<U G:=by rw[bC.pl];exact c
 grind[nu,List.getElem?_eq_getElem]
theorem aur{b c:Z}(d:b<U H)(e:c<U H)(s:y v b 0=y v c 0):b=c:=by have:=(bC.FU b d).2.2.2;have:=(bC.FU c e).2.2.2;simp_all
theorem ava c{b:Z}:b<U H->yielded (aO (nu G v H)) c (y v b 0)=yielded (aO H) c b:=by unfold yielded;grind[nu,xY,Tz,List.getElem?_eq_getElem]
theorem au_{b:Z}(f:b<U H)e:Region.wanted (xY v H[b]) (yielded (aO (nu G v H)) e)=Region.wanted H[b] (yielded (aO H) e):=by
 unfold Region.wanted;cases d:H[b].guard;grind[xY,guard]
 next c=>
  have:(xY v H[b]).guard=W (y v c.1 0,c.2):=by unfold xY;rw[d];rfl
  let g:=bC.anU _ (hL f) _ d;grind[ava]
theorem TT{g h:bU X}(p:a9 g=U H)(r:a9 h=U H)(k:∀b<U H,hT h (y v b 0)=hT g b){b:Z}(e:b<U H):y v b 0∈tf .any (aO (nu G v H)) h↔b∈tf .any (aO H) g:=by
 let l:∀(c:bU X) d,a9 c=U H->d<U H->c.getD d ag=hT c d:=λc d i f=>by grind[hT,Array.getD_eq_getD_getElem?]
 let n:∀(c:bU X) d,c.getD d ae=hT c d:=λc d=>aa;let⟨_,f,_,_⟩:=bC.FU b e;rw[tf,tf,m9,m9];let i:(aO<|nu G v H)[y v b 0]?=W (xY v H[b]):=by rw[um];exact Tz bC e
 let m:(aO H)[b]?=W H[b]:=by rw[um];exact cT e
 rw[i,m,l _ _ r f,l _ _ p e,k b e];simp only[lm,z7,hM,D9,Nw bC];apply VC ⟨λ_=>e,λ_=>f⟩;rw[m7,m7];apply VC nJ;let o:=bC.on _<|hL e;rw[ag6,ag6];constructor;intro s F he;let hm:({F with on:=y v F.on 0})∈(xY v H[b]).after:=by exact ahx.2<|dI.2 ⟨F,aha.2 he,aa⟩
 have:=s _ hm;let u:vu .any ({F with on:=y v F.on 0})=vu .any F:=aa;rw[n,<-k F.on (o F (by simpa using he))];exact this;intro s F he;obtain⟨t,w,rfl⟩:=dI.1<|ahx.1<|show F∈aO (H[b].after.toList.map λF=>({F with on:=y v F.on 0})) from he
 grind[vu]
theorem ay0{ak:cS->fI->bI->Prop}:∀d(listed b:bU X) z E,a9 listed=U H->a9 b=U H->(∀D<U H,hT b (y v D 0)=hT listed D)->wpAny P .any (aO (nu G v H)) ak d b z E->wpAny P .any (aO H) ak d listed z E:=by
 let t:∀{listed b:bU X},a9 listed=U H->a9 b=U H->(∀D<U H,hT b (y v D 0)=hT listed D)->(tf .any (aO H) listed=[]↔tf .any (aO<|nu G v H) b=[]):=by
  intro listed b f g e;rw[aho,aho];constructor;intro s D k;let c:D<U H:=by rw[tf,m9] at k;have:=hM.1 k.1;rw[D9,Nw bC] at this;exact this
  let⟨m,_,p,_⟩:=bC.FU D c;grind[TT];intro s D k;let c:D<U H:=by rw[tf,m9] at k;have:=hM.1 k.1;rw[D9] at this;exact this
  exact s _<|(TT bC f g e c).2 k
 intro d
 induction d
 intro listed b z E f g e s;exact⟨(t f g e).2 s.1,s.2⟩
 next d C=>
  intro listed b z E f g e s;refine⟨λB=>s.1<|(t f g e).1 B,λD k=>?_⟩;let c:D<U H:=by rw[tf,m9] at k;have:=hM.1 k.1;rw[D9] at this;exact this
  let p1:=s.2 _<|(TT bC f g e c).2 k;cases bC.FU D c;let r:∀h i,wpAny P .any (aO<|nu G v H) ak d (nG b (y v D 0) ag) h i->wpAny P .any (aO H) ak d (nG listed D ag) h i:=λh i x=>by refine C _ _ h i aq bi (λw u=>?_) x;rw[Sx q,Sx (D:=D) q,e w u];by_cases F:w=D;simp_all;rw[ad λn=>F<|aur bC u c n,ad F]
  let m:(aO<|nu G v H)[y v D 0]?=W (xY v H[D]):=by rw[um];exact Tz bC c
  let p:(aO H)[D]?=W H[D]:=by rw[um];exact cT c
  unfold wpOp at p1⊢;rw[m] at p1;rw[p];dsimp at p1⊢;rw[au_ bC c] at p1;split at p1;rename_i l;rw[af l];rcases p1 with p1|⟨p1,A⟩;left;exact Oper.wp_mono (o:=H[D]) r p1;exact bp ⟨p1,A⟩;rename_i l;rw[ad l];exact r _ _ p1
end
section
variable{P:bn}{p:bJ}
theorem e3.au9{id:Z}{G v:Y Z}{H:Y a7}{O:bc}{ak:cS->bc->Prop}(l:P.follows qs)(m:Ny G v H)(i:pf p.n (nu G v H))(g:sP (nu G v H))(s:om P p (nu G v H) O (ak fY) [] []):e3 P p (sl id (aO H) ag) O ak:=by
 let bC:=atk m;intro z E h d;apply wp_region_any l;let e:∀R b,hT (td R ae) b=ae:=by intro R b;simp[hT,BZ,ag8];split<;>rfl
 apply ay0 bC _ _ (td (U<|nu G v H) ae) z _ ao (by rw[ahb,Nw bC]) λf _=>aq;refine s.any i (My g).1 (My g).2 aa _ _ z _ h ao ?_ ?_ (λb _=>e _ b) ⟨dJ _,λf M A _ s=>cf,λf I s=>cf⟩ ?_;have:pA (U (nu G v H)) (td (U (nu G v H)) ae)=bM (U (nu G v H)):=by rw[pA,Vc];intro b o;rw[e];rfl
 grind[List.length_range,Nw];intro f M k;simp_all;rw[NK _ _ _ _ λb _=>e _ b];exact⟨d.cO.grown ⟨aa,aa,aa,bv _,λ_ _ _=>aa⟩,d.c,d.gR,d.size,d.defers⟩
end
section
variable{P:bn}{K:cI}{p:bJ}{i:Y (Z×V)}{m R:Z}
def a1.Lo G v c b(r:P.follows qs)(g:gy P K)(d:p.G=i)(e:eh i)(t:p.n=R){id:Z}{ops:bU a7}{J:aN}{ak:cS->aN->Prop}(u:Ny G v (a0 ops))(l:nu G v (a0 ops)=b)(h:tz R b)(k:sP b)(s:DX P K p i m b c b [] J (λbz x=>Fk (U b) bz<|Ad m b bz J x<|ak fY)):a1 P p m (sl id ops ag) J ak:=⟨λo y f=>by
 subst l;let F:ops=aO (a0 ops):=by simp
 let w:=X4 g d e s o;exact vw.fin (e3.au9 (id:=id) (ak:=λF O=>F=fY/\vw m o J ak O) r u (by rw[t];exact CP h) k (by simpa using w)) f⟩
end
section
variable{P:bn}{K:cI}{p:bJ}{i:Y (Z×V)}{m:Z}
def Mv(J:aN)(B:aN->Prop):Prop:=AX J.c λH=>AX J.az λn=>B ⟨H,n,J.d⟩
def aaG J B:Mv J B↔B J:=by simp[Mv,EZ]
def qm{ops:bU a7}{M:a7}{J:aN}{Rd:Y Z}{B:ep->aN->Prop}:mM P K p i m ops M J Rd (λar b=>Mv b<|B ar)->mM P K p i m ops M J Rd B:=by simp_all[aaG]
def UQ{cV:Y a7}{M:a7}{acc:Y ep}{J:aN}{B:Y ep->aN->Prop}:yv P K p i m cV M acc J (λar b=>Mv b<|B ar)->yv P K p i m cV M acc J B:=by simp_all[aaG]
end
section
variable{P:bn}{K:cI}{p:bJ}{i:Y (Z×V)}{m:Z}
def Et(aD:bV)(aE:V)(R:Z):Prop:=aE=.bo/\R=0\/∃id aS ap F aC,aE=.bH id aS 0 R/\(id,cB.j aS ap F aC)∈aD
def S3{o:b6}{id:Z}{b:cB}(s:(id,b)∈J.d):∃v:Z,(J.aB o).d[v]?=W (id,b):=by let⟨v,bd⟩:=rl.1 s;exact⟨v,by show(J.d++aZ o _)[v]?=_;grind⟩
def MP{B:V->Prop}{S F:aw}{T:aP}{aE:V}{R:Z}(l:B (.int aj (R:Z)))(r:Et J.d aE R)(g:M.op=ft {callee:=gP .len,args:=#[T],argTypes:=#[S]}:=by rfl)(h:val i J.c T=W aE:=by rfl)(n:fC K S (c_ F):=by exact fX):er P K p i ae M J B:=.n5 (λk e f o=>by obtain⟨_,_,b⟩:=n.eD k;rcases r with⟨rfl,rfl⟩|⟨id,aS,ap,s,aC,rfl,m⟩;exact TK b g (iU e f h pI o) aa;obtain⟨v,bd⟩:=S3 m;exact TJ b g (iU e f h pI o) bd) l
def arb{B:V->Prop}{S F:aw}{n:cH}{T h:aP}{id aS m l ap:Z}{s:aw}{aC:Y V}{dQ:dd}{R:L}b(w:B (.own id aS (m+b) 0))(x:(id,cB.j aS ap s aC)∈J.d)(z:M.op=o0 S T h:=by rfl)(A:fC K S (c_ F):=by exact fX)(t:K.find F=W n:=by rfl)(C:val i J.c T=W (.bH id aS m l):=by rfl)(u:val i J.c h=W (.int dQ R):=by rfl)(y:R=(b:L):=by first|rfl|omega)(k:b<l:=by omega)(D:ap=n.size:=by rfl):er P K p i ae M J B:=.n5 (λg e f o=>by obtain⟨_,_,r⟩:=A.eD g;subst D;obtain⟨v,bd⟩:=S3 x;exact II r (g.find t).au z (iU e f C dZ o) bd (iU e f u dZ o) y k) w
def arc{B:V->Prop}{S:aw}{b:cH}{T:aP}{id aS e ap:Z}{f:aw}{aC:Y V}A(m:B A)(n:(id,cB.j aS ap f aC)∈J.d)(t:aC[e]?=W A)(r:M.op=.load S T:=by rfl)(w:K.find S=W b:=by rfl)(u:b.O=ae:=by rfl)(l:nY b.d=ae:=by rfl)(x:val i J.c T=W (.own id aS e 0):=by rfl)(y:A.cells=[A]:=by rfl)(s:A.plain:=by rfl):er P K p i ae M J B:=.n5 (λk g h o=>by obtain⟨v,bd⟩:=S3 n;rw[V.gc s];exact IJ ((k.find w).g5 u) l r (iU g h x dZ o) bd t aq) m
def aq4{B:aN->Prop}{S cR F:aw}{b:cH}{T w:aP}{id aS f ap:Z}{xs e:Y V}v{h:bV}(A:B ({J with d:=h}.put M.dst (.bH id (aS+1) 0<|f+U e)))(bd:J.d[v]?=W (id,cB.j aS ap F xs))(G:aR J.d v (id,cB.j (aS+1) ap F (xs++e))=h)(D:f=U xs)(C:f+U e<=16777216)(E:M.op=ft {callee:=gP oZ,args:=#[T,w],argTypes:=#[S,cR]}:=by rfl)(N:fC K S (c_ F):=by exact fX)(x:K.find F=W b:=by rfl)(O:val i J.c T=W (.bH id aS 0 f):=by rfl)(L:kG K i J w cR b.size e:=by exact B_)(Q:a9 (dp b.z)=b.size:=by rfl)(aM:hB b.bytes 8388608:=by rfl)(R:ap=b.size:=by rfl):gg P K p i m ops M J B:=⟨λg n r o H ak y u=>by
 subst R;obtain⟨_,_,t⟩:=N.eD g;have k:=g.find x;have s:=(eX.1 bd).1;have I:(J.aB o).d[v]?=W (id,cB.j aS b.size F xs):=by show(J.d++aZ o _)[v]?=_;rw[rh s];exact bd
 refine cD.AL y (Ly t k.au k.lG Q E (hJ n r O o) I q (L.src g n r o) yn<|yH C aM) ?_;have l:=u o _ (dk.refl m o) A;rw[aN.r1] at l;have:{J.aB o with d:=(J.aB o).d.set v (id,cB.j (aS+1) b.size F<|am f (ay 0 xs)++e)}=({J with d:=h}).aB o:=by rw[qn,D,iJ,<-G];show(⟨_,_⟩:bc)=⟨_,_⟩;congr 1;show aR (J.d++aZ o _) v _=_;rw[ahy _ _ s]
 rw[this];exact l⟩
def aq2{B:aN->Prop}{S cR F:aw}{b:cH}{T w:aP}{e:Y V}{ap:Z}(t:Z->bV)(D:∀v,B ({J with d:=t v}.put M.dst (.bH v 1 0<|U e)))(N:∀v,(t v).Perm (J.d++[(v,cB.j 1 ap F e)]))(I:U e<=16777216)(L:M.op=ft {callee:=gP oZ,args:=#[T,w],argTypes:=#[S,cR]}:=by rfl)(R:fC K S (c_ F):=by exact fX)(A:K.find F=W b:=by rfl)(X:val i J.c T=W .bo:=by rfl)(Q:kG K i J w cR b.size e:=by exact B_)(am:a9 (dp b.z)=b.size:=by rfl)(aM:hB b.bytes 8388608:=by rfl)(ar:ap=b.size:=by rfl):gg P K p i m ops M J B:=⟨λg l n o H ak C y=>by
 obtain⟨_,_,u⟩:=R.eD g;have h:=g.find A;refine cD.x2 b.size λv=>?_;have G:((J.aB o).d++[(v,cB.jl b.size)])[(J.aB o).d.length]?=W (v,.jl b.size):=by simp
 refine cD.AL C (QM u h.au h.lG am L (hJ l n X o) G (jP.more (O:=J.aB o) (Q.src g l n o) ao) yn<|yH I aM) ?_;have x:aR ((J.aB o).d++[(v,cB.jl b.size)]) (J.aB o).d.length (v,.j 1 b.size F e)=(J.aB o).d++[(v,.j 1 b.size F e)]:=by simp
 rw[x];have k:=y o _ (dk.refl m o)<|D v;rw[aN.r1] at k;refine cD.toR (λz E aq f=>⟨f.cO.perm ?_,?_,f.gR,f.size,f.defers⟩) k;have:∀(O:bc) S T,(O.put S T).d=O.d:=λO S T=>by cases S<;>rfl
 rw[this,this];show List.Perm _ (J.d++aZ o _++[(v,cB.j 1 _ F e)]);apply (Gr _<|N v).trans;grind[List.append_assoc,List.Perm.append_left,List.perm_append_comm];have s:=f.c;cases r:M.dst;rw[r] at s;exact s
 next S=>rw[r] at s;exact s⟩
end
section
variable{P:bn}{p:bJ}{m:Z}{ak:Exit->aN->Prop}
def k3.cut{e:bf}{E:bI}{H:Loc}{aS ap:Z}{F:aw}{aC d:Y V}(s:k3 e E H (.j aS ap F (aC++d))):k3 e E H (.j aS ap F aC):=by
 let⟨p,r,t⟩:=s;exists p,r;rcases t with⟨w,x⟩|⟨Q,o,g,h,i,v,k,l,m⟩;simp_all;let f:∀{b:Z}{I:V},aC[b]?=W I->(aC++d)[b]?=W I:=λ{b I} c=>by grind
 refine bp ⟨Q,o,g,h,i,?_,k,λb I c=>l b I<|f c,λb n I T c u=>m b n I T (f c) u⟩;have:U aC*H.s<=U (aC++d)*H.s:=jo _ ao;omega
def a1.XH v{ap:Z}{F:aw}{aC ul:Y V}(s:a1 P p m n {J with az:=il J.az v (.j ap F aC)} ak)(w:ci J.az v=W (.j ap F<|aC++ul)):a1 P p m n J ak:=⟨λo k u z E f b=>by
 let⟨e,i,r,t⟩:=K9 w;refine s.run o k u z E f ⟨?_,b.c,b.gR,b.size,b.defers⟩;let g:aZ o J.az=aZ o e++((o v).1,cB.j (o v).2 ap F<|aC++ul)::aZ o i:=by rw[r];simp[aZ,dc];rfl
 let x:(J.d++aZ o J.az)[(U<|J.d++aZ o e)]?=W ((o v).1,cB.j (o v).2 ap F<|aC++ul):=by rw[g,<-eS,s9<|bv _,oX];rfl
 let h:=Holds.setObj (show Holds p f (J.d++aZ o _) E from b.cO) x λH=>k3.cut;let l:aR (J.d++aZ o J.az) (U<|J.d++aZ o e) ((o v).1,cB.j (o v).2 ap F aC)=J.d++aZ o (il J.az v<|.j ap F aC):=by rw[t,g];simp only[aZ,dc];rw[<-eS,z0 _ _<|bv _,oX,<-eS];rfl
 rw[l] at h;exact h⟩
end
def aff{b_:Type}:∀{H:Y b_}{B:Z}{z:b_},H[B]?=W z->∃b c,H=b++z::c/\∀Q,aR H B Q=b++Q::c|[],_,_,s=>cf|T::H,0,z,s=>by simp at s;subst s;exact⟨[],H,aa,λQ=>aa⟩|T::H,B+1,z,s=>by obtain⟨b,c,d,e⟩:=aff (by simpa using s);grind
def a1.aep{P:bn}{p:bJ}{m:Z}{J:aN}{n:gw}{ak:Exit->aN->Prop}I{F:aw}{T:V}w(s:a1 P p m n {J with az:=il J.az I (.cell F w)} ak)(D:ci J.az I=W (.cell F T):=by rfl)(i:T.cells=w.cells:=by kernel_rfl)(G:T.plain:=by kernel_rfl)(H:w.plain:=by kernel_rfl):a1 P p m n J ak:=⟨λo r C z E e b=>s.run o r C z E e (by
 obtain⟨B,y,A⟩:=Qn _ o D;refine⟨?_,b.c,b.gR,b.size,b.defers⟩;show Holds p e (J.d++aZ o _) E;rw[<-A _];let f:=b.cO;obtain⟨k,l,t,u⟩:=aff y;rw[u];change Holds p e (J.d++aZ o _) E at f;rw[t] at f;let v:((o I).1,b7.aD o (o I).2<|.cell F T)=((o I).1,cB.j (o I).2 (U T.cells) F [T]):=by show(_,cB.j _ _ _ _)=_;rw[V.gc G]
 let x:((o I).1,b7.aD o (o I).2<|.cell F w)=((o I).1,cB.j (o I).2 (U T.cells) F [w]):=by show(_,cB.j _ _ _ _)=_;rw[V.gc H,i]
 let hm:∀z,(k++l++[z]).Perm (k++z::l):=λz=>by simp[D2,vs]
 let g:=f.perm<|hm _;rw[v] at g;let h:=g.aeq i;rw[<-x] at h;exact h.perm (hm _).symm)⟩
section
variable{P:bn}{p:bJ}
def Holds.avt{c:bf}{f:bV}{E:bI}(s:Holds p c f E){B id aS J R:Z}{F CQ:aw}{t:Y V}{T:V}{ap b:Y bq}(h:f[B]?=W (id,.j aS J F t))(i:pN c T ap)(l:U ap=J)(A:U b=R*J)(w:∀aE∈b,aE.oneCell')(C:∀o n,o<R->n<J->b[o*J+n]?=ap[n]?):Holds p (c.fV id ⟨W (a9 E.heap),0,aS+1,U b,J⟩) (aR f B (id,.j (aS+1) J CQ (cM R T))) (E.alloc (.cells (aO b) CQ))/\c.le (c.fV id ⟨W (a9 E.heap),0,aS+1,U b,J⟩):=by
 let⟨H,hm,d⟩:=s.gd _ _<|dY h;let k:c.le (c.fV id ⟨W<|a9 E.heap,0,aS+1,U b,J⟩):=bf.jh λD g=>by rw[hm] at g;cases g;exact⟨d.2.1,by rw[d.1];simp,λF=>by rw[d.1] at F;grind⟩
 let y:U T.cells=J:=by rw[<-i.1,l]
 refine⟨s.pB h hm d.2.1 (by rw[d.1];simp) (λF=>by rw[d.1] at F;grind) (bp ⟨a9 E.heap,aa,bv _⟩) ?_ ?_,k⟩;simp[World.grownBy_alloc];refine⟨aa,aa,bp ⟨a9 E.heap,aO b,aa,.of<|heap_alloc_new E _,ao,aq,λr aE x=>w aE<|dY (by simpa using x),λr I e=>aK,λr n I z e m=>?_⟩⟩;rw[zX] at e;split at e<;>simp at e;subst e;let u:n<J:=by rw[<-y];exact(eX.1 m).1
 let v:n<U ap:=by rw[l];exact u
 refine⟨ap[n],?_,(i.2.2 n z _ m<|cT v).mono k⟩;simp_all
def Yu{S F o:aw}{au ck J dP:Z}{ap:bq}{T w:aP}{B ju:dd}{R b:Z}{m n:L}{v id aS:Z}{r:Y V}(N:cu P S (c_ F) au ck)(u:gx P F J dP)(k:jr P F ap)(l:a9 (dp ap)=J)(aq:M.op=.makeSlice S T w)(Q:O.val p T=W (.int B m))(A:m=(R:L))(X:O.val p w=W (.int ju n))(C:n=(b:L))(i:R<=b)(h:b<=ja)(s:b*dP<=2^48)(K:0<J)(D:O.d[v]?=W (id,.j aS J o r)):eH P p M O (.bH id (aS+1) 0 R) (aR O.d v (id,.j (aS+1) J F (cM b (V.zero ap)))):=.of λz E e c=>by
 subst A;subst C;have f:=c.val Q;have g:=c.val X;generalize av:z.eval T=ay at f;generalize ax:z.eval w=aE at g;cases f;cases g;have G:=pN.zero k e;have ak:U (a0 (dp ap))=J:=by simpa using l
 obtain⟨am,t,x,I,ar⟩:=aeZ (B:=B) (ju:=ju) (E:=E) N u k l i h s K;let⟨y,H⟩:=c.cO.avt (CQ:=F) D G ak t I x;refine⟨eY (W ⟨a9 E.heap,0,ai⟩) R b,_,_,.bH id (aS+1) 0 R,_,H,?_,y,bj (by grind[execOp,Sem.run_bind,Result.andThen_ok,Sem.run_pure]),aa,aa⟩;exact .bH _ _ _ _ _ _ (e.kg _ _) (bv _) aa λ_=>bp ⟨a9 E.heap,0,b,aa,aa,i,h,bp ⟨ao,aK⟩⟩
end
section
variable{P:bn}{K:cI}{p:bJ}{i:Y (Z×V)}{m:Z}{B:ep->aN->Prop}
def agZ{S F g:aw}{d:cH}{f:Z}{xs:Y V}{T w:aP}{dQ U:dd}{n x:L}(b e R:Z)aC(C:B ([],[f]) ({J with az:=s3 J.az f (e,.j d.size F aC)}.put M.dst (.a e 0 R)))(h:M.op=.makeSlice S T w:=by rfl)(l:fC K S (c_ F):=by exact fX)(A:K.find F=W d:=by rfl)(I:val i J.c T=W (.int dQ n):=by rfl)(k:n=(R:L):=by first|rfl|omega)(N:val i J.c w=W (.int U x):=by rfl)(lR:x=(R:L):=by first|rfl|omega)(Q:a9 (dp d.z)=d.size:=by rfl)(aM:hB d.bytes 8388608:=by rfl)(H:0<d.size:=by decide)(D:R<=16777216:=by omega)(aU:cM R (V.zero d.z)=aC:=by rfl)(ar:qa J.az b 0=W f:=by rfl)(am:sK J.az f=W (b,.j d.size g xs):=by rfl)(aq:g8 e m:=by rfl)(G:ry (h9 [e]) J.c:=by kernel_rfl)(E:rz (h9 [e]) [f] J.az 0:=by kernel_rfl)(ap:ef b e=ae:=by rfl):mM P K p i m ops M J Rd B:=by
 subst aU;refine .mk [] [(f,(e,.j d.size F _))] _ [] [(b,.j d.size g xs)] [e] ba aa yo (bp G) (bp E)
  (λu s t o=>⟨e2 o e ((o b).1,(o b).2+1),dk.of λS l=>hd kj,λS l=>hd λF=>Ka,λn v ax bd av=>by grind[e2],λaD=>?_⟩) C
 obtain⟨_,_,y⟩:=l.eD u;have r:=u.find A;have:=Yu (p:=p) (O:=⟨dt M _,aD++[((o b).1,.j (o b).2 d.size g xs)]⟩) y r.au r.lG Q h (iU s t I (by rw[h];simp[j0]) o) k (iU s t N (by rw[h];simp[j0]) o) lR (bv _) yn (c9 (yH D aM) a2) H za;have X:(V.a e 0 R).aB (e2 o e ((o b).1,(o b).2+1))=.bH (o b).1 ((o b).2+1) 0 R:=by simp[V.aB,V.jW,V.e8,V.e0,e2]
 have ak:aZ (e2 o e ((o b).1,(o b).2+1)) [(e,b7.j d.size F (cM R (V.zero d.z)))]=[((o b).1,.j ((o b).2+1) d.size F (cM R (V.zero d.z)))]:=by simp only[aZ,ia,rk,c2,b7.aD,iT]
 show eH P p M ⟨dt M _,aD++([]++[((o b).1,.j (o b).2 d.size g xs)])⟩ _ (aD++([]++aZ _ _));simp_all
end
section
variable{P:bn}{K:cI}{p:bJ}{i:Y (Z×V)}{m:Z}
def avJ{P:bn}{I:Z}{S F:aw}{E:bI}{z:Option Addr}{R b:Z}(c:kD P S=W (c_ F)):(nH (I+1) S (eY z R b) (eY ai 0 0)).run P E=.ok z.isNone E:=by cases z<;>simp[nH,run_underlying c]
def cD.WB{p:bJ}{H:Y a7}{O:bc}{ak:Exit->bc->Prop}(G:V->Prop)(g:O.guard ops M=W ag)(s:∀z E b,a_ p O z E b->∃A aE,G A/\bk b A aE/\(execOp z.eval M).run P E=.ok (og aE) E)(h:∀A,G A->cD P p ops H (O.put M.dst A) ak):cD P p ops (M::H) O ak:=by intro d z E b c;let⟨A,aE,bC,k,i⟩:=s z E b c;let⟨e,f⟩:=EO d;unfold wpList;rw[af<|c.wanted g];refine bj ?_;unfold Oper.wp;rw[i];exact h A bC f _ _ b<|c.put (bf.le.refl b) c.cO k e
end
section
variable{P:bn}{K:cI}{p:bJ}{i:Y (Z×V)}{m:Z}
def SV{S F jL:aw}{T w:aP}{au:Z}{H:Y V}(C:∀Q:X,(Q=ag->H=[])->B (J.put M.dst (.bool Q)))(D:M.op=.binOp .eql S T w jL:=by rfl)(N:val i J.c T=W (.al au H):=by rfl)(O:val i J.c w=W .bo:=by rfl)(G:fC K S (c_ F):=by exact fX):gg P K p i m ops M J B:=⟨λx g h o ap ak y v=>by
 obtain⟨_,_,l⟩:=G.eD x;refine cD.WB (λA=>∃Q:X,(Q=ag->H=[])/\A=.bool Q) y (λz E am k=>?_) ?_;have e:=k.val<|hJ g h N o;have f:=k.val<|hJ g h O o;generalize I:z.eval T=U at e;generalize L:z.eval w=aE at f;have d:∀b R n,U=eY b R n->aE=eY ai 0 0->(execOp z.eval M).run P E=.ok (og (hA b.isNone)) E:=λb R n r t=>by simp only[execOp,D,L,I,r,t];rw[Sem.run_bind,A3 ba<|LD (s:=avJ l.u)];rfl
 cases f;cases e;exact⟨_,_,⟨ag,λ_=>aa,aa⟩,.bool _,d ai _ _ aa aa⟩;exact⟨_,_,⟨ae,nofun,aa⟩,.bool _,d (W _) _ _ aa aa⟩
 next _ _ Q base cap=>exact⟨_,_,⟨ae,nofun,aa⟩,.bool _,d (W _) _ _ aa aa⟩
 rintro A ⟨Q,aM,rfl⟩;have s:=v o _ (dk.refl m o)<|C Q aM;rw[aN.r1] at s;exact s⟩
def aq9{S F k:aw}{T:aP}{h X e au:Z}{xs:Y V}(N:∀n,e<=n->n<=9223372036854775807->B (J.put M.dst (.int aj n)))(g:M.op=ft {callee:=gP .cap,args:=#[T],argTypes:=#[S]}:=by rfl)(U:val i J.c T=W (.a h X e):=by rfl)(D:ci J.az h=W (.j au k xs):=by rfl)(R:fC K S (c_ F):=by exact fX):gg P K p i m ops M J B:=⟨λC t w o av ak L x=>by obtain⟨_,_,f⟩:=R.eD C;obtain⟨v,bd⟩:=j7 (o:=o) J.d D;refine cD.WB (λA=>∃n,(e<=n/\n<=9223372036854775807)/\A=.int aj n) L (λz E am y=>?_) ?_;let⟨H,aq,ar,G⟩:=y.bH (hJ t w U o) bd;rcases G with⟨_,iO,b⟩|⟨Q,ax,cap,ap,b,O,I,_⟩;exact⟨_,_,⟨0,⟨q,q⟩,aa⟩,.int _ _,by simp[execOp,g,b,oi,oh,o2,Builtin.cap_,run_underlying f.u,goInt]⟩;exact⟨_,_,⟨cap,⟨O,by simp[ja] at I;omega⟩,aa⟩,.int _ _,by simp[execOp,g,b,oi,oh,o2,Builtin.cap_,run_underlying f.u,goInt]⟩;rintro A ⟨n,⟨l,r⟩,rfl⟩;have s:=x o _ (dk.refl m o)<|N n l r;rw[aN.r1] at s;exact s⟩
end
section
variable{P:bn}{K:cI}{p:bJ}{i:Y (Z×V)}{m:Z}{B:V->Prop}
end
section
variable{P:bn}{p:bJ}{m:Z}{ak:Exit->aN->Prop}
end
def bk.Dz{N:bf}{au b n:Z}{c:Y V}{T:V}{aE:bq}(s:bk N (.ref au c b n) aE)(k:c[b]?=W T):bk N (.ref au [T] 0 n) aE:=by
 cases s with
 |ref _ _ _ _ Q base val i g h=>
  have:=bk.ref (N:=N) au [T] 0 n Q (base+b*au) (λ_ n=>val b n) (λe I d=>by
   grind) (λe n I w d f=>by grind) (λe n I w d f=>by grind)
  simp_all
def eN.Dz{P:bn}{i:Y (Z×V)}{ar:fM}{au d n:Z}{b:Y V}{T:V}{xs:Y V}{A:V}(s:eN P i ar (.ref au [T] 0 n::xs) A)(o:b[d]?=W T):eN P i ar (.ref au b d n::xs) A:=λf r E p g h k l=>s f r E p g (λe w aE c m=>by
 cases e;simp at c;subst c;exact bk.Dz (h 0 _ aE aa m) o
 next e=>grind) k l
section
variable{P:bn}{K:cI}{p:bJ}{i:Y (Z×V)}{m:Z}
def WY{R Q:Z}(b:R<=10000000000000)(c:hB Q 8):R*Q<=140737488355328:=by
 calc R*Q<=10000000000000*8:=B9 b (ll c)
  _<=140737488355328:=a2
def kQ{S cR F:aw}{b:cH}{T w:aP}{d f:Z}{xs e:Y V}aC(k:B ((J.Bj d (.j b.size F aC)).put M.dst (.a d 0 (U aC))))(n:M.op=ft {callee:=gP oZ,args:=#[T,w],argTypes:=#[S,cR]}:=by rfl)(o:fC K S (c_ F):=by exact fX)(h:K.find F=W b:=by rfl)(r:val i J.c T=W (.a d 0 f):=by rfl)(g:ci J.az d=W (.j b.size F xs):=by rfl)(gi:kG K i J w cR b.size e:=by exact B_)(t:f=U xs:=by exact Ki)(s:a9 (dp b.z)=b.size:=by rfl)(aM:hB b.bytes 8:=by rfl)(aU:xs++e=aC:=by exact PX)(bl:U aC<=10000000000000:=by exact si)(l:g8 d (m+1000):=by rfl):gg P K p i m ops M J B:=abX k n o h r g gi q s (WY bl aM) aq yn l
inductive uw:V->V->Prop|mk (z Q n I:Z):uw (.bH z Q n I) .undef
theorem uw.gU{b:bf}:∀T w,uw T w->∀aE,bk b T aE->bk b w aE:=λT w s aE _=>by cases s;exact .undef aE
theorem uw.one:wZ uw:=λT w s=>by cases s;trivial
def Hu:V->V|.a _ _ _=>.undef|T=>T
def AS(c:Y Z):V->V|.agg H=>.agg (AR H 0)|T=>Hu T
 where
 AR:Y V->Z->Y V
 |[],_=>[]|T::A,b=>match iw b c with|ag=>Hu T::AR A (b+1)|ae=>T::AR A (b+1)
def QX(b:Y Z):b7->b7|.cell F T=>.cell F (AS b T)|T=>T
def xj(S:Z)(b:Y Z):bS->bS|[]=>[]|(B,G)::A=>match ef S B with|ag=>(B,QX b G)::A|ae=>(B,G)::xj S b A
def aN.xj(J:aN)(S:Z)(b:Y Z):aN:={J with az:=fe.xj S b J.az}
section
variable{o:b6}
def ane{T:V}:fS uw (T.aB o) ((Hu T).aB o):=by cases T<;>first|exact .refl _|exact .base _ _<|.mk _ _ _ _
def anc{T:V}:fS uw (T.e8 o) ((Hu T).e8 o):=by cases T<;>first|exact .refl _|exact .base _ _<|.mk _ _ _ _
def YL{pU:Y Z}:∀H b c,(AS.AR pU H b)[c]?=(H[c]?).map λT=>match iw (b+c) pU with|ag=>Hu T|ae=>T
|[],b,c=>ba|T::A,b,0=>by grind[AS.AR]|T::A,b,c+1=>by have:=YL (pU:=pU) A (b+1) c;grind[AS.AR,List.getElem?_cons_succ]
def QW{c:Y Z}:∀H b,U (AS.AR c H b)=U H|[],b=>ba|T::A,b=>by rw[AS.AR];split<;>simp[QW A]
def ang{b:Y Z}T:(AS b T).cells.length=U T.cells:=by cases T<;>first|rfl|simp[AS,V.cells,QW]
def anf{e:Y Z}{B:Z}{G:b7}{H d:bV}(s:cY uw H d):cY uw (c2 o (B,G)::H) (c2 o (B,QX e G)::d):=by
 cases G with
 |cell F T=>simp[QX,c2,b7.aD,ang];exact .F1 (by
  cases T with
  |agg H=>
   refine .agg _ _ (by simp[QW]) λg T w c b=>?_;rw[db] at c b;rw[YL] at b;cases f:H[g]?;simp_all
   next ap=>rw[f] at c b;simp at c b;subst c;subst b;split;exact anc;exact .refl _|_=>exact ane) s|_=>exact .same _ s
def YM{b:Y Z}{S:Z}:∀H,cY uw (aZ o H) (aZ o (xj S b H))|[]=>.nil|(B,G)::A=>by rw[xj];split;exact anf<|cY.refl _;exact .same _<|YM A
def a_.xj{p:bJ}{J:aN}{z:Act}{E:bI}{b:bf}S c(s:a_ p (J.aB o) z E b):a_ p ((J.xj S c).aB o) z E b:=s.rD (bf.le.refl b) s.cO uw.gU uw.one (λS w d=>⟨w,d,.refl _⟩)<|cY.rA (YM _)<|cY.refl _
end
def Nf{ops:bU a7}{M:a7}{B:aN->Prop}S b(s:gg P K p i m ops M (J.xj S b) B)(n:mR (a0 ops) (J.xj S b).c M=W ag:=by rfl):gg P K p i m ops M J B:=⟨λk e f o H ak _ g=>λl z E d h=>s.run k e f o H ak cf g l z E d<|a_.xj S b h⟩
end
