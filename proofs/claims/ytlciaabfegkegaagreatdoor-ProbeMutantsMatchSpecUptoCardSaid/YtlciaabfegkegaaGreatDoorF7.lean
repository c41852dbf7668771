import Derived.Test.YtlciaabfegkegaaGreatDoorRows
import Derived.Test.YtlciaabfegkegaaGreatDoorCards
import Derived.Test.YtlciaabfegkegaaGreatDoorTie
import Derived.Test.YtlciaabfegkegaaGreatDoorF6
set_option linter.all false
set_option maxHeartbeats 8000000
set_option maxRecDepth 100000
open Array renaming size->a9,toList->a0
open Bool renaming false->ae,true->ag
open Decidable renaming decide->aH
open Eq renaming symm->bQ,trans->b0
open Go renaming Calls->ln,IntKind->dd,Program->bn,TypeId->aw,Value->bq,World->bI,maxLen->ja
open Go.Calls renaming mono->iK
open Go.Ending renaming returned->lo
open Go.IntKind renaming i64->aj,u8->ez
open Go.Program renaming cellsOf->nI,underlying->kD
open Go.Proofs.Tryz renaming prog->bL
open Go.TypeDesc renaming array->pL,slice->c_,string->k1
open Go.Value renaming agg->h0,int->cN,oneCell'->gE,pointer->ib,slice->eY,string->jO
open Go.World renaming cell?->ho
open Go.fe.V renaming int->an,ref->fN
open List renaming drop->ay,flatMap->ff,length->U,map->ab,range->bM,take->am
open Option renaming none->ai,some->W
open _root_ renaming Array->bU,Bool->X,Inhabited->l9,Int->L,List->Y,Nat->Z,Option->c6,True->dW,Unit->j3,rfl->aa,trivial->b5
open Go.Proofs Go.Proofs.Tryz
open Go.Proofs.Tryz renaming prog->eQ
namespace Go.fe
variable{g:aw}{i:Y (aw×Z)}{f:Z}
section
open Go.Proofs.YtlciaabfegkegaaGreatDoor
open Go.Lib
section
variable{j5:Type}{gz:aw×bq->j5}{E:bI}
def G5:∀b:DataW j5,0<Rows.uptoBulk b:=λb=>by cases b with|lit c=>cases c<;>(simp[Rows.uptoBulk])|nil=>simp[Rows.uptoBulk]|_=>simp[Rows.uptoBulk]
def W7{b:Y (DataW j5)}:∀c∈b,Rows.uptoBulk c<=Rows.uptoBulkAll b:=by induction b<;>grind[Rows.uptoBulkAll]
def aj6{n:Z}{H:Y (DataW j5)}(c:∀b∈H,n<=Rows.uptoBulk b):U H*n<=Rows.uptoBulkAll H:=by induction H<;>grind[Rows.uptoBulkAll,Nat.succ_mul]
def o7{e:Type}(gz:aw×bq->j5)(E:bI)(l:aw)(f:Z)(k:e->Prop)(g:e->V):Prop:=∀(h:Z)(c:Y bq)(b:DataW j5)(i:Y MemPlace),Rows.uptoBulk b<=1048576->DataW.trod gz bL E 0 (λ_=>ag) ag h l c=W (b,i)->∃d,(k d/\f<Rows.uptoBulk b)/\yx E (g d).cells c
def xW:o7 gz E 4 0 (λ_=>dW) V.bool:=by
 intro d e f g _ c;cases d;trivial;unfold DataW.trod at c;split at c
 all_goals first
  |(rename_i b _;exact⟨b,⟨b5,G5 _⟩,.one (.bool b) aa⟩)|simp_all
def s2:o7 gz E 3 0 (λ_=>dW) (V.int aj):=by intro c e f g _ b;cases c;trivial;unfold DataW.trod at b;split at b<;>simp_all;rename_i d _;exact⟨G5 _,d,.one (.int _ _) aa⟩
def va:o7 gz E 9 0 eF V.str:=by
 intro e l m p f k;cases e;trivial
 next e=>
  unfold DataW.trod at k;have o:kD eQ 9=W k1:=ao;have:∀b(c:DataW j5)(g:Y MemPlace),W (.lit (.string (a0 b.data)),[])=W (c,g)->Rows.uptoBulk c<=1048576->∃h,(eF h/\0<Rows.uptoBulk c)/\yx E (V.str h).cells [jO b]:=λb c g d f=>by
   injection d with d;injection d with i n;subst i
   refine⟨a0 b.data,⟨ahI f,G5 _⟩,.one ?_ aa⟩;have:=bk.str (N:=bf.start E)<|a0 b.data;omega
  grind
def xX{y:Type} [l9 y]{n:Z}{B:y->Prop}{f:y->V}(K:aw)(P:o7 gz E g n B f)(S:kD eQ K=W (c_ g):=by simp)(ap:(nI eQ g !=0):=by kernel_rfl):o7 gz E K 0 (λH:Y y=>kq H B/\U H<=1048576/(n+1)) (λH=>.al (nI eQ g)<|ab f H):=by
 intro am ak l au G Q;rcases Go.Deep.open_slice S Q with⟨rfl,r⟩|⟨z,len,cap,w,T,o,L,rfl,_,aq,O,hm,r,J⟩;exact⟨[],⟨by simp[kq],G5 _⟩,.one (.slnil _) aa⟩;simp only[GD] at hm;subst hm;obtain rfl:l=.slice (ab o (bM len)) ((bM (w-len)).map λb=>o<|len+b):=ea Prod.fst r;rw[Rows.uptoBulk] at G;obtain⟨p,F⟩:=Go.Deep.choose_lt (λc (k:c<len)=>by obtain⟨e,m,s⟩:=J c q;have:=W7 (o c)<|dI.2 ⟨c,hM.2 k,aa⟩;obtain⟨d,h⟩:=P T e (o c) (L c) q s;exact⟨d,e,m,h⟩:∀c,c<len->∃d,∃e,E.cells? 0 (z.add<|c*nI eQ g) (nI eQ g)=W e/\(B d/\n<Rows.uptoBulk (o c))/\yx E (f d).cells e);have u:=aj6 (n:=n+1) (H:=ab o<|bM len) aK;simp only[bm,ij] at u;have u:=(ahH<|GA n).2<|c9 u<|c9 (z2 _ _)<|ahI G;refine⟨ab p<|bM len,⟨⟨⟨?_,λd r=>aK⟩,by simpa using u⟩,G5 _⟩,.one ?_ aa⟩;simpa using c9 u (Gx _ _);by_cases M:w=0;obtain rfl:len=0:=q;subst M;exact .zz _ z;obtain⟨v,x,X⟩:=z;have R:X=ai:=by obtain⟨e,m,_⟩:=J 0 q;obtain⟨_,s⟩:=Qm m;obtain⟨i,_,h⟩:=s 0 (by simp_all;omega);simp only[ym,Addr.add,GD] at h;unfold World.cell? at h;split at h;simp_all;cases h
 subst R;have get:∀(b:Z)(l:V),(ab f (ab p (bM len)))[b]?=W l->b<len/\l=f (p b):=λb l I=>by grind
 have ar:bk (bf.start E) (.al (nI eQ g) (ab f (ab p (bM len)))) (eY (W ⟨v,x,ai⟩) (U (ab f (ab p (bM len)))) w):=by
  have cell:∀(b n:Z)(d:V),b<len->(f (p b)).cells[n]?=W d->∃i,ho E ⟨v,x+b*nI eQ g+n,ai⟩=W i/\gE i/\bk (bf.start E) d i:=λb n d A r=>by
   obtain⟨e,m,_,t⟩:=F b A;obtain⟨s,h⟩:=Qm m;have N:n<nI eQ g:=by rw[<-s,<-t.1];exact(eX.1 r).1
   obtain⟨i,C,D⟩:=h n N;rw[Addr.add_lit,Addr.add_lit] at D;exact⟨i,D,t.2.1 i<|dY C,t.2.2 n d i r C⟩
  refine .al _ _ v x w (λb n=>(ho E ⟨v,x+b*nI eQ g+n,ai⟩).getD undef) (by simpa) O ?_ ?_ ?_;intro b l I;obtain⟨A,rfl⟩:=get b l I;obtain⟨e,m,_,t⟩:=F b A;rw[t.1,(Qm m).1];grind[bf.Ol];grind
 simp_all
def au6{g n:Y V}{h i:Y bq}(c:yx E g h)(f:yx E n i):yx E (g++n) (h++i):=by refine⟨by rw[cd,cd,c.1,f.1],λd b=>?_,λl m d e b=>?_⟩;rcases fp.1 b with b|b;exact c.2.1 d b;exact f.2.1 d b;by_cases k:l<U g;rw[rh k] at e;rw[rh (by rw[<-c.1];exact k)] at b;exact c.2.2 l m d e b;rw[s9 q] at e;rw[s9 (by rw[<-c.1];omega),<-c.1] at b;exact f.2.2 _ m d e b
def Kz{f:Type}(gz:aw×bq->j5)(E:bI)(i:Y (aw×Z))(m l g:Z)(n:f->Prop)(h:f->Y V):Prop:=∀(k:Z)(d:Y bq)(c:Y (DataW j5×Y MemPlace)),Rows.uptoBulkAll (ab (·.1) c)<=1048576->(i.mapM λb=>DataW.trod gz bL E 0 (λ_=>ag) ag k b.1<|am (nI eQ b.1)<|ay b.2 d)=W c->∃e,(n e/\g<=Rows.uptoBulkAll (ab (·.1) c))/\yx E (h e) (am l<|ay m d)
def ws:Kz gz E [] f 0 0 (λ_:j3=>dW) (λ_=>[]):=λc b h _ _=>⟨(),⟨b5,dJ _⟩,by exact⟨aa,ao,λe i g d=>cf⟩⟩
def gj{h k:Type}{s l B:Z}{t:h->Prop}{m:h->V}{u:k->Prop}{n:k->Y V}(D:o7 gz E g B t m)(F:Kz gz E i (f+nI eQ g) s l u n):Kz gz E ((g,f)::i) f (nI eQ g+s) (l+1) (λc:h×k=>t c.1/\u c.2) (λc=>(m c.1).cells++n c.2):=by
 intro o d J G b;rw[D5] at b;cases p:DataW.trod gz bL E 0 (λ_=>ag) ag o g (am (nI eQ g)<|ay f d);simp_all
 next I=>
  rw[p] at b;cases r:i.mapM λe=>DataW.trod gz bL E 0 (λ_=>ag) ag o e.1<|am (nI eQ e.1)<|ay e.2 d;simp_all
  next H=>
   rw[r] at b;injection b with b;subst b
   obtain⟨C,pl⟩:=I;simp[Rows.uptoBulkAll] at G;obtain⟨x,v,w⟩:=D _ _ C pl q p;obtain⟨A,y,z⟩:=F _ d H q r;exists (x,A),⟨⟨v.1,y.1⟩,by grind[Rows.uptoBulkAll]⟩;rw[List.take_add,Gt];exact au6 w z
noncomputable def afU(e:aw)(d:Y (aw×Z)):X:=match kD eQ e with|W (.struct c)=>aH (ab (λb=>(b.type,b.offset)) (a0 c)=d)|_=>ae
def abx{d:Type}{u:aw->Z->c6 d}:∀c:Y Field,(c.mapM λb=>u b.type b.offset)=(c.map λb=>(b.type,b.offset)).mapM λb=>u b.1 b.2|[]=>aa|b::c=>by rw[D5,ia,D5,abx c]
def wq{m n:Type}{p:Z}{w:m->Prop}{r:m->Y V}{x:n->Prop}{s:n->V}(G:Kz gz E i 0 f p w r)(b:m->n)(D:∀c,w c->x (b c))(J:afU g i:=by kernel_rfl)(I:nI eQ g=f:=by kernel_rfl)(B:∀c,(s<|b c).cells=r c:=by intros;kernel_rfl):o7 gz E g p x s:=by
 intro h d z H A F;obtain⟨e,K,C⟩:∃e,kD eQ g=W (.struct e)/\ab (λb=>(b.type,b.offset)) (a0 e)=i:=by grind[afU]
 cases h;trivial
 next h=>
  unfold DataW.trod at F;have k:(if U d=nI eQ g then((a0 e).mapM λb=>DataW.trod gz bL E 0 (λ_=>ag) ag h b.type<|am (nI eQ b.type)<|ay b.offset d).map λl=>(.agg<|ab (·.1) l,ff (·.2) l) else ai)=W (z,H):=by all_goals simp_all
  rw[abx (u:=(λo y=>DataW.trod gz bL E 0 _ _ _ o<|am (nI eQ o)<|ay y d)),C] at k;split at k;cases hm:i.mapM λb=>DataW.trod gz bL E 0 (λ_=>ag) ag h b.1<|am (nI eQ b.1)<|ay b.2 d;simp_all
  next l=>rw[hm] at k;obtain⟨rfl,rfl⟩:=k;rw[Rows.uptoBulk] at A⊢;obtain⟨c,t,v⟩:=G _ d l q hm;rw[qn,kC q,<-B] at v;exact⟨b c,⟨D c t.1,ahK t.2⟩,v⟩
  trivial
def auZ:o7 gz E 107 3 (λd:b4=>eF d.bT) cm:=wq (gj xW<|gj va<|gj s2 ws) (λb=>⟨b.1,b.2.1,b.2.2.1⟩) λ_ c=>c.2.1
def ael:o7 gz E 109 3 (λc:lJ=>eF c.n.bT) CR:=wq (gj xW<|gj xW<|gj auZ ws) (λb=>⟨b.1,b.2.1,b.2.2.1⟩) λ_ d=>d.2.2.1
def au4:o7 gz E 111 3 hq.py pX:=wq (gj ael<|gj ael<|gj xW ws) (λb=>⟨b.1,b.2.1,b.2.2.1⟩) λ_ c=>⟨c.1,c.2.1⟩
def auY:o7 gz E 114 3 (λc:nM=>eF c.name) fw:=wq (gj va<|gj s2<|gj xW ws) (λb=>⟨b.1,b.2.1,b.2.2.1⟩) λ_ d=>d.1
def au2:o7 gz E 105 13 (λf:gh=>f.i6/\f.py) ha:=wq (gj xW<|gj s2<|gj (xX 102 au4)<|gj xW<|gj va<|gj xW<|gj (xX 50 s2)<|gj s2<|gj s2<|gj s2<|gj xW<|gj (xX 103 auY)<|gj s2 ws)
 (λ(g,h,b,i,c,k,d,l,m,n,o,e,p,_)=>⟨g,h,b,i,c,k,d,l,m,n,o,e,p⟩)
 λ_ ⟨_,_,b,_,c,_,d,_,_,_,_,e,_⟩=>⟨⟨c,b.1,d.1.1,e.1⟩,b.1.2,c9 b.2 a2,c,d.1.1,c9 e.2 a2⟩
def au1:o7 gz E 81 2 (λe:nO=>e.py/\kq e.cQ gh.i6) nj:=wq (gj (xX 79 au2)<|gj s2 ws) (λb=>⟨b.1,b.2.1⟩) λ_ ⟨c,_⟩=>⟨⟨λb d=>(c.1.2 b d).2,c9 c.2 a2⟩,c.1.1,λb d=>(c.1.2 b d).1⟩
def IQ:o7 gz E 42 2 (λd:hQ=>eF d.text) mP:=wq (gj s2<|gj va ws) (λb=>⟨b.1,b.2.1⟩) λ_ c=>c.2.1
def aem:o7 gz E 101 2 (λb:k4=>eF b.name/\eF b.m.text) kJ:=wq (gj va<|gj IQ ws) (λb=>⟨b.1,b.2.1⟩) λ_ c=>⟨c.1,c.2.1⟩
def au0:o7 gz E 95 2 (λb:Am=>eF b.name/\eF b.value) vP:=wq (gj va<|gj va ws) (λb=>⟨b.1,b.2.1⟩) λ_ c=>⟨c.1,c.2.1⟩
def au3:o7 gz E 48 17 (λr:eT=>r.ok/\∀b∈r.body,kq b.cQ gh.i6) dy:=wq (gj va<|gj s2<|gj IQ<|gj IQ<|gj (xX 43 IQ)<|gj xW<|gj (xX 44 aem)<|gj (xX 44 aem)<|gj IQ<|gj (xX 45 au1)<|gj va<|gj va<|gj s2<|gj s2<|gj (xX 46 au0)<|gj va<|gj s2 ws)
 (λ(e,b,f,g,h,i,k,d,l,m,n,o,c,p,s,t,u,_)=>⟨e,b,f,g,h,i,k,d,l,m,n,o,c,p,s,t,u⟩)
 λ_ ⟨e,_,b,f,g,_,h,i,k,d,l,m,_,_,n,o,_⟩=>⟨⟨e,b,f,k,g.1,h.1,i.1,⟨d.1.1,λb c=>(d.1.2 b c).1⟩,l,m,n.1,o,λb c v p=>((d.1.2 b c).2.2 v p).dG.2⟩,λb c=>(d.1.2 b c).2⟩
def au5:o7 gz E 24 2 dx.lw eP:=wq (gj va<|gj (xX 22 au3) ws) (λe=>⟨e.1,e.2.1⟩) λ_ ⟨f,b,_⟩=>⟨⟨f,b.1.1,λd c=>(b.1.2 d c).1⟩,λd c=>(b.1.2 d c).2⟩
end
end
variable{l:bI}
section
open Go.Proofs.YtlciaabfegkegaaGreatDoor
open Go.Lib Go.Shelf Go.ChangeShapes Go.WideShapes Go.ChangeAt Go.RowKit
def agb{b:bn}{name:String}{d:aw}{k:Z}{e:dd}{h:Y L}(u:VarReads b l name (tabData e h))(r:b.globalNamed name=W f:=by rfl)(w:(b.globals[f]?).map (·.type)=W g:=by rfl)(s:kD b g=W (pL k d):=by rfl)(p:kD b d=W (.int e):=by simp)(m:nI b d=1:=by kernel_rfl)(n:nI b g=k:=by kernel_rfl)c:c<U h->ho l ⟨f,c,ai⟩=W (cN e<|h.getD c 0):=by obtain⟨z,B,x,y,A,i,t,v,o⟩:=u;obtain rfl:=mD<|b0 (bQ r) i;obtain rfl:=mD<|b0 (bQ w) t;have:=World.var?_cell i v c;rw[this,<-wH,cells_of_tab s p m n o];grind
def aeA{d:V}{h:bq}(r:bk (bf.start l) d h)(m:ho l ⟨f,0,ai⟩=W h)(p:gE h)(k:d.cells=[d]:=by rfl):bk (bf.start l) (fN 1 [d] 0 0) (ib<|W ⟨f,0,ai⟩):=by
 have g:∀(b:Z)(c:V),[d][b]?=W c->b=0/\c=d:=λb c m=>by cases b<;>simp_all
 refine .ref 1 [d] 0 0 f 0 (λ_ _=>h) (λb c e=>by rw[(g b c e).2,k];rfl) (λb n c o e i=>?_) (λb n c o e i=>?_)
 all_goals rw[(g b c e).2,k] at i;obtain⟨rfl,rfl⟩:=g b c e;obtain⟨rfl,rfl⟩:=g n o i
 exact bf.Ol m p;exact r
def Od{i:bn}{name:String}{o:aw}{e:dd}{c:Y Z}(C:0<U c)(v:VarReads i l name (sliceData e c))(s:i.globalNamed name=W f:=by rfl)(w:(i.globals[f]?).map (·.type)=W g:=by rfl)(u:kD i g=W (c_ o):=by rfl)(B:kD i o=W (.int e):=by simp)(A:nI i o=1:=by kernel_rfl):bk (bf.start l) (C8 e c) (ib<|W ⟨f,0,ai⟩):=by
 obtain⟨a_,x,n,p,Q⟩:=tabSlice_of_reads s w u B A C v;obtain⟨N,z⟩:U c<=n/\n<=ja:=by obtain⟨L,ak,I,K,T,r,D,F,h⟩:=v;obtain rfl:=mD<|b0 (bQ s) r;obtain rfl:=mD<|b0 (bQ w) D;have E:=World.var?_cell r F 0;rw[p,<-wH] at E;rcases DataW.trod_slice u h with⟨o,_⟩|⟨H,len,cap,J,X,S,rfl,P,k,_,R,O,_⟩;simp_all;simp_all
 have t:bk (bf.start l) (.al 1 (c.map λm:Z=>an e m)) (eY (W ⟨a_,x,ai⟩) (U (c.map λm:Z=>V.int e m)) n):=by
  have get:∀b d,(c.map λm:Z=>V.int e m)[b]?=W d->b<U c/\d=an e (c.getD b 0):=λb d h=>by grind
  refine .al 1 _ a_ x n (λb _=>cN e<|c.getD b 0) aq z (λb d h=>by rw[(get b d h).2];rfl) (λb y d G h k=>?_) (λb y d G h k=>?_)
  all_goals obtain⟨M,rfl⟩:=get b d h;cases y
  exact bf.Ol ao aa;cases k;cases k;exact .int _ _;cases k
 rw[bm] at t;exact aeA t p aa
def IH:st goPrintTabs:=⟨a2,a2,a2⟩
def azm:laidMetH bL Rows.probeMutantsMatchSpecUptoRow.laid=laidMet bL Rows.probeMutantsMatchSpecUptoRow.laid:=by rfl
def agw:Ren:=⟨λb=>b,λb=>if b=5 then 5 else if b=119 then 225 else if b=138 then 227 else 228,λb=>if b=3 then 2 else 3⟩
def ayh:U8Types bL agw:=⟨cb,cb,cb,cb⟩
def ayi:U8Extra bL agw:=⟨ba,ba,ba,ba,cb,cb,cb⟩
def an4{iD:bI}{g:L}(h:laidMetH bL Rows.probeMutantsMatchSpecUptoRow.laid iD)(i:ho iD ⟨10,0,ai⟩=W (cN aj g)):∀u e,(u,e)∈fO goPrintTabs g->bk (bf.start iD) e (ib (W ⟨u,0,ai⟩)):=by have rd:∀c{R d},Rows.probeMutantsMatchSpecUptoRow.laid[c]?=W (R,d)->VarReads bL iD R d:=λc {R d} l=>laidMet.reads h<|dY l;obtain⟨m,n⟩:Utf8Tabs 2 3 iD:=utf8Tabs_of_readsT ayh ayi (Pinned.utf8First_eq▸rd 9 aa)<|rd 3 aa;intro u e f;simp[fO,fH,z8,kB,or_false] at f;rcases f with⟨rfl,rfl⟩|⟨rfl,rfl⟩|⟨rfl,rfl⟩|⟨rfl,rfl⟩|⟨rfl,rfl⟩|⟨rfl,rfl⟩|⟨rfl,rfl⟩|⟨rfl,rfl⟩|⟨rfl,rfl⟩;exact NW a2<|agb<|rd 2 aa;exact NW a2<|agb<|rd 1 aa;exact aeA (.int _ _) i aa;exact Od IH.a.1<|Pinned.isPrint16_eq▸@rd 7 _ Pinned.isPrint16 aa;exact Od IH.a.2.1<|Pinned.isNotPrint16_eq▸@rd 5 _ Pinned.isNotPrint16 aa;exact Od IH.a.2.2.1<|Pinned.isPrint32_eq▸@rd 8 _ Pinned.isPrint32 aa;exact Od IH.a.2.2.2<|Pinned.isNotPrint32_eq▸@rd 6 _ Pinned.isNotPrint32 aa;have:=NW (iD:=iD) (u:=2) (R:=256) (B:=ez) (ul:=(bM 256).map λb=>(firstT b)) ao (λc k=>by grind);trivial;have:=NW (iD:=iD) (u:=3) (R:=32) (B:=ez) (ul:=(bM 32).map λb=>((if b%2=0 then accLo (b/2) else accHi (b/2):Z))) ao (λc k=>by grind);trivial
def apB:laidOutB bL:=cb
def avC:Tryz.prog.readableRec 24:=cb
def aqg:24<a9 Tryz.prog.types:=pJ ao
def alp(j5:Type)(gz:aw×bq->j5)(c:bI)(args:bU bq)(i l:Y (DataW j5))(r:Y MemPlace)(B:∀(o:Z) f b,Tryz.f3.params[o]?=W f->args[o]?=W b->Value.okWide bL c .any 0 f b)(m:DataW.Whole gz bL (a0 Tryz.f3.params) Rows.probeMutantsMatchSpecSpec.vars ae c (a0 args) i l r)(y:Rows.uptoSmall j5 (i++l))(u:laidMetH bL Rows.probeMutantsMatchSpecUptoRow.laid c)(A:c.ShapedOpen bL):ln bL 3 args c λk g=>∃b,k=lo b/\Rows.probeMutantsMatchSpecSpec.post gz bL Tryz.f3 ae ag ae ae c args b g:=by have v:=m;have w:=pJ y;obtain⟨O,Q,t,G,rfl,I,J⟩:=m;obtain⟨p,R,s,F,jx,P,H,rfl,rfl,d,C⟩:=trodAll_cons t;obtain⟨rfl,rfl,rfl⟩:=trodAll_nil C;obtain rfl:args=#[p]:=aK;obtain⟨N,hm⟩:=Tryz.apU.s1_3 c A;obtain⟨h,rfl,_⟩:=okWide_struct ba<|B 0 24 p aa aa;obtain⟨_,d⟩:=d;obtain⟨b,D,e⟩:=au5 _ _ _ _ (c9 (W7 s ao) w) d;have:bk (bf.start c) (eP b) (h0 h):=bk.agg _ (a0 h) e.1 e.2.1 e.2.2;refine iK ((apD IH b D.1).calls aa (λM S b L K=>?_)<|an4 u hm) ?_;grind;rintro k g ⟨b,E,rfl,z,x⟩;cases z;exact⟨_,aa,apF apB (λf n=>by simp at n;rcases n with rfl;simp[avC,aqg]) aa ba ao ⟨aa,aa,aa⟩ v x⟩
end
