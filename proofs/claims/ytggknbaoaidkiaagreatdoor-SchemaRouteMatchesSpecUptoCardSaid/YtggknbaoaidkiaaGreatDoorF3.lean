import Derived.Test.YtggknbaoaidkiaaGreatDoorF2
import Derived.Test.YtggknbaoaidkiaaGreatDoorSh
set_option linter.all false
set_option maxHeartbeats 8000000
set_option maxRecDepth 100000
open Go.Proofs Go.Proofs.Tryz
open Go.Proofs.Tryz renaming prog->a4
namespace Go.ey
variable{G:Bool}{s:a2}{m:List (Nat×V)}{o:Nat}{P:Oper}{T:Program}{O:am}{z:bV}{aD m3:Type}
theorem rl{O:List UInt8}(w:O.all eh):∀a∈O,48<=a.toNat/\a.toNat<=57:=λa b=>by grind[eh]
def S7(O:List UInt8)(A:O.all eh)(bq:O.length<=10000):aA 179 [.str O] (e9 (aY (bC O))):=by
 refine aX func179 [] λs C=>?_;let l:=rl A;refine ay.dI 3 1 3 [3] none ?_;refine cQ (Int×List Nat) (λc=>⟨[(0,_),(4,.int .i64 c.1),(3,.d 3 0 (c.2.map q).length)],[(3,.n 1 3<|c.2.map q)],[]⟩) (λc=>c.1<=O.length/\-4<c.1/\c.2.length+c.1<=O.length/\(∀M∈c.2,M<10000)/\fP c.2+10000^c.2.length*bC (O.take c.1.toNat)=bC O) (λc=>(c.1+4).toNat) ((O.length:Int),[]) (λ⟨h,out⟩ ap=>?_) ⟨v,v,af,af,by simp[fP]⟩ .r;dsimp only at ap⊢;let⟨F,G,J,z,t⟩:=ap;apply j<;>intro D
 .obtain⟨a,rfl⟩:∃a:Nat,h=(a:Int):=⟨h.toNat,v⟩;refine g1 ?_;refine DP ((a-4:Nat):Int) ?_;refine cQ (Nat×Nat) (λe=>⟨[(0,_),(4,_),(5,q e.2),(6,q e.1),(3,.d 3 0 (out.map q).length)],[(3,.n 1 3<|out.map q)],[]⟩) (λe=>a-4<=e.1/\e.1<=a/\e.2=bC ((O.drop<|a-4).take<|e.1-(a-4))) (λe=>a-e.1) (a-4,0) (λ⟨b,Y⟩ aG=>?_) ⟨a1 _,v,by simp[GH]⟩ .r;dsimp only at aG⊢;let⟨H,I,k⟩:=aG;let o:Y<10^4:=by let g:=AF ((O.drop<|a-4).take<|b-(a-4)) λu m=>(l u<|Kv<|p0 m).2;rw[<-k] at g;refine h3 g<|m9 v ?_;simp;omega
  let o:Y<10000:=o;apply j<;>intro E
  .let x:b<O.length:=v;let m:=l O[b] (fG x);refine xC ((10*Y:Nat):Int) ?_;refine lw b O[b] ?_;refine k4 ((O[b].toNat-48:Nat):Int) ?_ (av:=by grind[J8]);refine dK ((10*Y+(O[b].toNat-48):Nat):Int) ?_;refine aL ?_;exact aB (b+1,10*Y+(O[b].toNat-48)) ⟨v,v,by
    dsimp only;rw[k,<-SY];congr 1;let g:b-(a-4)<(O.drop<|a-4).length:=by simp;omega
    rw[show b+1-(a-4)=b-(a-4)+1 by omega,z9 g]<;>simp_all⟩ v .r
  refine dv ?_;refine eR ((out++[Y]).map q) ?_ (aG:=p3) (bq:=aM);refine g1 ?_;exact aB ((a:Int)-4,out++[Y]) ⟨v,v,aM,λM a6=>by
   grind,by
   dsimp only;rw[asm,c_,<-t,show((a:Int)-4).toNat=a-4 by omega,Fr,pk,oC];let B:O.take a=O.take (a-4)++(O.drop (a-4)).take (a-(a-4)):=by rw[<-List.take_add];congr 1;omega
   rw[B,yN,k];let y:((O.drop<|a-4).take<|a-(a-4)).length=a-(a-4):=by simp;omega
   let p:b-(a-4)=a-(a-4):=by omega
   rw[y,<-p];simp only[fP,Nat.mul_zero,q2];rcases gh a 4 with w|w;rw[show a-4=0 by omega];simp[GH];rw[show b-(a-4)=4 by omega,show(10:Nat)^4=10000 by rfl,yi,nO,jk 10000 (bC _)];omega⟩ v .r
 refine Bt 3 ?_;refine az ?_ (i:=E0 out (bC O) v z (by rw[show h.toNat=0 by omega] at t;trivial));exact ae
def aV(Y:ba):Int:=lz Y.neg (bC Y.a9) Y.exp
def D3{Y:ba}(w:jc Y=0):Y.a9.all eh/\Y.a9.length<=30/\-30<=Y.exp/\Y.exp<=30/\Y.a9≠[]:=by unfold jc at w<;>grind
def al1{Y:ba}(w:jc Y=0):md 0 (aV Y):=by
 let⟨c,e,i,j,k⟩:=D3 w;unfold md aV;rw[IG];let cG:=tb<|h3 (AF Y.a9 λb g=>(rl c b g).2)<|m9 v e;let a:10^(Y.exp+30).toNat<=10^60:=m9 v v;let h:=yj cG a
 (simp[cA,m8,wG,m9];omega)
def ahF(Y:ba)(k:jc Y=0):aA 119 [bx Y] (h7 (bO (aV Y))):=by
 refine aX func119 [] λs t=>?_;let⟨c,h,o,p,r⟩:=D3 k;let bu:bC Y.a9<10^Y.a9.length:=AF Y.a9 λW l=>(rl c W l).2;let cG:(aY<|bC Y.a9).length<=8:=mC<|h3 bu<|cA (m9 v h) aj;let e:(aY 10).length<=1:=mC aj;let m:(aY 1).length<=1:=mC aj;apply j<;>intro u
 .obtain⟨a,he⟩:∃a:Nat,Y.exp=(a:Int):=⟨Y.exp.toNat,v⟩;let g:=I7 (Y:=a) e;let w:=AH (W:=10^a) cG g;let b:=vI Y.neg (bC Y.a9*10^a) 1 v v v;rw[ahG,<-he] at b;refine dC ?_;refine a_ (λ_=>bT rfl (i:=S7 Y.a9 c v)) ?_;refine a_ (λ_=>bT rfl (i:=qJ 10 v)) ?_;refine a_ (λ_=>bT rfl (i:=by have:=Yz a v;rw[q,<-he] at this;exact this)) ?_;refine a_ (λ_=>bT rfl (i:=xz (bC Y.a9) (10^a) v v)) ?_;refine a_ (λ_=>bT rfl (i:=qJ 1 v)) ?_;refine a_ (λ_=>bT rfl (i:=b)) ?_;refine eJ ?_;refine fm ?_;exact cu aZ
 obtain⟨a,he⟩:∃a:Nat,Y.exp=-(a:Int):=⟨(-Y.exp).toNat,v⟩;let g:=I7 (Y:=a) e;let b:=vI Y.neg (bC Y.a9) (10^a) (mr v) v v;rw[ahE v,<-he] at b;refine dC ?_;refine a_ (λ_=>bT rfl (i:=S7 Y.a9 c v)) ?_;refine a_ (λ_=>bT rfl (i:=qJ 10 v)) ?_;refine a_ (λ_=>W9 (a:Int) rfl) ?_;refine a_ (λ_=>bT rfl (i:=Yz a v)) ?_;refine a_ (λ_=>bT rfl (i:=b)) ?_;refine eJ ?_;refine fm ?_;exact cu aZ
def CF(a:jE):Prop:=a.has=true->jc a.n=0
def kY(a:jE):hM:=if a.has then⟨false,a.op,aV a.n⟩ else⟨true,false,0⟩
def AN{a:jE}(w:CF a):(kY a).md 0:=by unfold kY;split;rename_i b;exact al1<|w b;exact c1 _
def ou(O:eP):jm:=if O.nM then ty ⟨kY O.low,kY O.high,true⟩ else⟨kY O.low,kY O.high,false⟩
def rL(O:eP):Prop:=CF O.low/\CF O.high
def aqF{O:eP}(w:rL O):(ou O).md 2:=by unfold ou;split;exact afs ⟨AN w.1,AN w.2⟩;exact jm.xw v ⟨AN w.1,AN w.2⟩
def TS(a:jE)(c:CF a):aA 81 [AJ a] (Ts (kY a)):=by
 refine aX func81 [] λs g=>?_;apply j<;>intro e
 .exact fA 1 2 [3,4]<|cu aZ (w:=by rw[cO,kY,aa v,Ts,hM.G,ab rfl,nk];rfl)
 let b:=by simpa using e
 refine dC ?_;refine a_ (λ_=>bT rfl (i:=ahF a.n<|c b)) ?_;refine eJ<|fm ?_;exact cu aZ (w:=by rw[cO,kY,ab b];rfl)
def aqJ(O:eP)(b:rL O):aA 52 [qq O] (GZ (ou O)):=by
 refine aX func52 [] λs g=>?_;refine ay.dI 1003 U0.size 121 [] none<|dC ?_;refine a_ (λ_=>bT rfl (i:=TS O.low b.1))<|a_ (λ_=>bT rfl (i:=TS O.high b.2)) ?_;refine zV 1003 3 ?_;refine eJ<|fm ?_;apply j<;>intro a
 .let e:=afu (jm.mk (kY O.low) (kY O.high) O.nM) 0 v ⟨AN b.1,AN b.2⟩;refine az ?_ (i:=e);exact cu aZ (w:=by rw[cO,ou,ab a,a];rfl)
 exact cu aZ (w:=by
  let c:O.nM=false:=by simpa using a
  rw[cO,ou,aa a,c];rfl)
section
open Go.Shelf
end
theorem L7{b:UInt8->Bool}:∀{a:List UInt8},a.dropWhile b=[]↔a.all b|[]=>af|c::a=>by by_cases w:b c;simp[w,L7];simp_all
theorem Tj{b:UInt8->Bool}:∀{c:List UInt8}{a:UInt8}{o:List UInt8},c.dropWhile b=a::o->b a=false|[],_,_,w=>by cases w|e::c,a,o,w=>by rw[P_] at w;by_cases g:b e;rw[ab g] at w;exact Tj w;simp_all
def agq(a:UInt8):([48,49,50,51,52,53,54,55,56,57]:List UInt8).contains a=eh a:=by have:∀b:Fin 256,([48,49,50,51,52,53,54,55,56,57]).contains (UInt8.ofNat b.val)=eh (UInt8.ofNat b.val):=aj;have w:=this ⟨a.toNat,a.toNat_lt⟩;simp_all
def arM(O:List UInt8):Go.Lib.trimS O [48,49,50,51,52,53,54,55,56,57]=[]↔O.all eh:=by simp only[Go.Lib.trimS,Go.Lib.trimLeftS,Go.Lib.trimRightS,agq];cases b:O.reverse.dropWhile _ with|nil=>grind[L7]|cons a o=>grind[Tj,eh,L7]
open Go.Shelf Go.Proofs in
def arN(O:List UInt8)(c:O.length<=1048576):aA 199 [.str O,.str [48,49,50,51,52,53,54,55,56,57]] (.str (Go.Lib.trimS O [48,49,50,51,52,53,54,55,56,57])):=.fixed (.str<|.str .nil) (λb=>.str _) λa=>Any.strings_Trim_laid Tryz.ajF bL _ _ a (by show O.toArray.size<=_;grind) aj<|ascii_of_all aj
def Sj(Y:ba)(k:Y.a9.length<=1048576):aA 141 [bx Y] (.int .i64 (jc Y)):=by
 refine aX func141 [] λs l=>?_;let h:=arM Y.a9;apply cs;refineλr=>bT ?_ (i:=arN Y.a9 k);exact rfl;apply j<;>intro c
 .let a:Y.a9=[]\/Y.a9.all eh=false:=by rw[h] at c;simpa using c
  exact ae (w:=by rw[jc,ab a];rfl)
 let a:¬(Y.a9=[]\/Y.a9.all eh=false):=by rw[h] at c;simpa using c
 let t:0<Y.a9.length:=ya.2 λw=>a<|.inl w;apply b2;intro o;refine mQ 0 ?_;apply cs;intro p;refine g1 ?_;refine mQ (Y.a9.length-1) ?_;exact rfl;exact rfl;apply j<;>intro g
 .let b:Y.a9.getD 0 0=48\/Y.a9.getD (Y.a9.length-1) 0=48:=by simpa[E3] using g.2
  exact ae (w:=by rw[jc,aa a,aa g.1,ab b];rfl)
 let b:¬Y.a9=[48]->¬(Y.a9.getD 0 0=48\/Y.a9.getD (Y.a9.length-1) 0=48):=λw=>by grind[E3]
 apply b2;intro q;refine dD ?_;exact rfl;apply j<;>intro e
 .exact ae (w:=by rw[jc,aa a,ab e.1,ab e.2];rfl)
 refine cs (λ_=>rfl)<|dD ?_;apply j<;>intro m
 .exact ae (w:=by by_cases a6:Y.a9=[48];simp_all;rw[jc,aa a,aa a6,aa<|b a6,ab v];rfl)
 exact ae (w:=by by_cases a6:Y.a9=[48];rw[jc,aa a,ab a6,aa λw=>e ⟨a6,w⟩];rfl;rw[jc,aa a,aa a6,aa<|b a6,aa v];rfl)
def alC(c:br)(m:c.K<=1048576):aA 93 [iz c] (.int .i64 (rB c)):=by
 refine aX func93 [] λs y=>?_;let F:=br.EV m;refine dD ?_;apply j<;>intro E
 .exact ae (w:=by rw[rB,ab v];rfl)
 refine az ?_ (i:=aq5 c m);apply j<;>intro h
 .exact ae (w:=by rw[rB,aa v,ab h];rfl)
 apply j<;>intro A
 .refine az ?_ (i:=Sj c.num v);exact ae (w:=by rw[rB,aa v,aa h,ab v];rfl)
 apply j<;>intro B
 .refine az ?_ (i:=LP c.text);exact ae (w:=by rw[rB,aa v,aa h,aa v,ab v];rfl)
 refine eH c.keys.length (λa=>A7 none c.keys=A7 (if a=0 then none else c.keys[a-1]?) (c.keys.drop a)) (λa=>⟨[(1,g 1),(33,_),(34,_),(35,q a)],[(1,_)],[]⟩) (λa p=>?_) af .r;apply j<;>intro C
 .let k:a<c.keys.length:=v;let l:∀e,A7 e (c.keys.drop a)=if pe c.keys[a]≠0 then pe c.keys[a] else if(match e with|some e=>Op.bytesLess c.keys[a] e||decide (c.keys[a]=e)|none=>false)=true then 10 else A7 (some c.keys[a]) (c.keys.drop<|a+1):=λe=>by rw[GR k];rfl
  refine aJ a _ ?_;refine az ?_ (i:=LP c.keys[a]);apply j<;>intro D
  .exact ae (w:=by rw[rB,aa v,aa h,aa v,aa v,p.2,l,ab v];rfl)
  apply b2;intro G;refine g1 ?_;refine gZ (a-1) _ ?_;exact rfl;apply j<;>intro t
  .exact ae (w:=by let⟨x,o⟩:=t;rw[rB,aa v,aa h,aa v,aa v,p.2,l,aa v,aa<|show¬a=0 by omega,YF k v];simp only[cg,bw k,YF k<|show 0<a by omega,te] at o;rw[ab aK];rfl)
  let z:¬(match(if a=0 then none else c.keys[a-1]?) with|some e=>Op.bytesLess c.keys[a] e||decide (c.keys[a]=e)|none=>false)=true:=by by_cases u:a=0;grind;grind
  refine aL ?_;exact aB (a+1) ⟨v,b⟩ (bo:=.r)
 exact ae (w:=by rw[rB,aa v,aa h,aa v,aa v,p.2,iv v];rfl)
def alD:∀a:br,a.K<=1048576->aA 61 [iz a] (.int .i64 a.kV):=by
 refine br.ind λa t k=>?_;let y:=br.EV k;refine ff.of_wp (z:=gT) (o:=5000) [] (λ_=>(0,0)) ⟨[(0,iz a)],[],[]⟩ eW aZ gE ⟨func61,ax,rfl⟩ rfl rfl rfl rfl λs l m=>?_;let u:j2 a4 gT s fZ _ []:=⟨eW,aZ,l,gE,m⟩;refine az ?_ (i:=alC a k);apply j<;>intro e
 .exact ae (w:=by rw[cO,a.Sp,ab e])
 refine eH a.list.length (λc=>a.kV=br.kV.Ay (a.list.drop c)) (λc=>⟨[(13,_),(14,_),(15,q c)],[],[]⟩) (λc p=>?_) (by rw[a.Sp,aa e];rfl) .r;apply j<;>intro x
 .let h:c<a.list.length:=v;refine aJ c _ ?_ (p:=UA v);refine az ?_ (i:=t a.list[c] b aM);apply j<;>intro g
  .exact ae (w:=by rw[cO,p.2,GR h,br.kV.Ay,ab g])
  refine aL ?_;exact aB (c+1) ⟨v,by rw[p.2,GR h,br.kV.Ay,aa g]⟩ (bo:=.r)
 exact ae (w:=by rw[cO,p.2,iv v];rfl)
def asf(a:br)(b:a.K<=1048576):aA 38 [iz a] (.int .i64 (x4 a)):=by
 refine aX func38 [] λs c=>?_;refine az ?_ (i:=ae_ a b);apply j<;>intro e
 .exact ae (w:=by rw[cO,x4]<;>grind)
 refine az ?_ (i:=alD a b);exact ae (w:=by(simp[cO,x4,ab,absurd];omega))
def vf(b:UInt8)(a:List UInt8):bC (b::a)=(b.toNat-48)*10^a.length+bC a:=by rw[show b::a=[b]++a from rfl,yN];simp[bC]
def AG{a:UInt8}{b:List UInt8}(w:(a::b).all eh):48<=a.toNat/\a.toNat<=57/\b.all eh:=by grind[eh]
theorem tC{a:List UInt8}(w:a.all eh):bC a<10^a.length:=AF a λb c=>(rl w b c).2
theorem JV{E W:UInt8}(w:E.toNat=W.toNat):E=W:=FC.1 w
def ro(a:List UInt8):Prop:=a.getLast?≠some 48
def ro.tail{b:UInt8}{a:List UInt8}(w:ro (b::a)):ro a:=by grind[ro,List.getLast?_cons_cons]
def yO:∀{a:List UInt8},a.all eh->ro a->a≠[]->0<bC a
|[],_,_,w=>absurd rfl w|b::a,a6,he,_=>by
 let e:=AG a6;rw[vf];rcases wj (a=[]) with w|w;subst w;have:b≠48:=λc=>he (by simp[c]);have:b.toNat≠48:=λc=>this (JV bB)
 (simp;omega)
 have:=yO e.2.2 he.tail w;omega
def SE:∀(b c:List UInt8)(a:Nat),b.all eh->c.all eh->ro b->ro c->b.length<=a->c.length<=a->Go.Lib.compareBytes b c=ex (((bC b*10^(a-b.length):Nat):Int)-(bC c*10^(a-c.length):Nat))
|[],[],a,_,_,_,_,_,_=>by simp[Go.Lib.compareBytes,bC,ex]|[],g::c,a,_,s,_,o,_,C=>by have p:=yO s o af;have y:0<bC (g::c)*10^(a-(g::c).length):=ww p<|mr v;simp only[Go.Lib.compareBytes,GH,wx,ex];omega|e::b,[],a,r,_,m,_,t,_=>by
 have p:=yO r m af;have y:0<bC (e::b)*10^(a-(e::b).length):=ww p<|mr v;generalize bC (e::b)*10^(a-(e::b).length)=L at y
 (simp[Go.Lib.compareBytes,GH,wx,ex,aa];omega)|e::b,g::c,a+1,r,s,m,o,t,C=>by
 have A:=AG r;have B:=AG s;simp only[kh] at t C⊢;have J:=SE b c a A.2.2 B.2.2 m.tail o.tail v v;have F:=tC A.2.2;have G:=tC B.2.2;have D:10^b.length*10^(a-b.length)=10^a:=by rw[<-m8];congr 1;omega
 have E:10^c.length*10^(a-c.length)=10^a:=by rw[<-m8];congr 1;omega
 have H:bC (e::b)*10^(a+1-(b.length+1))=(e.toNat-48)*10^a+bC b*10^(a-b.length):=by rw[vf,gg,nO,show a+1-(b.length+1)=a-b.length by omega,D]
 have I:bC (g::c)*10^(a+1-(c.length+1))=(g.toNat-48)*10^a+bC c*10^(a-c.length):=by rw[vf,gg,nO,show a+1-(c.length+1)=a-c.length by omega,E]
 have u:bC b*10^(a-b.length)<10^a:=by rw[<-D];exact KI F<|mr v
 have x:bC c*10^(a-c.length)<10^a:=by rw[<-E];exact KI G<|mr v
 rw[H,I];simp only[Go.Lib.compareBytes];rw[J];generalize bC b*10^(a-b.length)=h at u;generalize bC c*10^(a-c.length)=i at x;generalize 10^a=l at u x;have key:∀j k h i:Nat,j<k->h<l->j*l+h<k*l+i:=by intro j k h i w K;have:=hA l (show j+1<=k by omega);rw[gg,td] at this;omega
 split;rename_i q;have q:e.toNat<g.toNat:=KM.1 q;have:=key (e.toNat-48) (g.toNat-48) h i v u
 (simp[ex,aa,ab];omega)
 rename_i q;split;rename_i z;have z:g.toNat<e.toNat:=KM.1 z;have:=key (g.toNat-48) (e.toNat-48) i h v x
 (simp[ex,aa];omega)
 grind|e::b,g::c,0,_,_,_,_,t,_=>bB
def SB:∀{a b:List UInt8},Go.Lib.compareBytes a b=0->a=b|[],[],_=>rfl|[],_::_,w=>bB|_::_,[],w=>by grind[Go.Lib.compareBytes]|E::a,W::b,w=>by simp[Go.Lib.compareBytes] at w;split at w;cases w;rename_i c;split at w;cases w;rename_i e;let c:¬E.toNat<W.toNat:=λF=>c<|KM.2 F;let e:¬W.toNat<E.toNat:=λF=>e<|KM.2 F;rw[JV (E:=E) (W:=W) v,SB w]
def RT:∀(a c:List UInt8),a.length=c.length->a.all eh->c.all eh->Op.bytesLess a c=decide (bC a<bC c)
|[],[],_,_,_=>ax|e::a,g::c,b,r,s=>by
 have o:=AG r;have p:=AG s;have b:=by simpa using b
 rw[Op.bytesLess,RT a c b o.2.2 p.2.2,vf,vf,<-b];have m:=tC o.2.2;have k:=tC p.2.2;rw[<-b] at k;generalize 10^a.length=j at m k;have key:∀h i l q,h<i->l<j->h*j+l<i*j+q:=by intro h i l q w u;have:=hA j (show h+1<=i by omega);rw[gg,td] at this;omega
 rcases Cj e.toNat g.toNat with w|w|w;have F:=key (e.toNat-48) (g.toNat-48) _ (bC c) v m;grind[UInt8.lt_iff_toNat_lt];grind[JV,UInt8.lt_iff_toNat_lt];have F:=key (g.toNat-48) (e.toNat-48) _ (bC a) v k;have t:¬e<g:=λF=>by grind[UInt8.lt_iff_toNat_lt]
 grind|[],_::_,b,_,_=>bB|_::_,[],b,_,_=>ax
def eb(Y:ba):Prop:=Y.a9.all eh=true/\-30<=Y.exp/\(Y.a9=[48]/\Y.neg=false/\Y.exp=0\/Y.a9≠[]/\Y.a9.head?≠some 48/\ro Y.a9)
def eb.zo{Y:ba}(w:eb Y)(a:Y.a9≠[48]):Y.a9≠[]/\Y.a9.head?≠some 48/\ro Y.a9:=by rcases w.2.2 with w|w;simp_all;omega
def agi{a:List UInt8}(a6:a.all eh)(w:a≠[])(c:a.head?≠some 48):10^(a.length-1)<=bC a:=by cases a with|nil=>trivial|cons b a=>let g:=AG a6;have:b.toNat≠48:=λe=>c (by rw[List.head?_cons,show b=48 from JV bB]);rw[vf,kh,KA];have:=hA (10^a.length) (show 1<=b.toNat-48 by omega);omega
theorem xG(Y:ba):(aV Y).natAbs=bC Y.a9*10^(Y.exp+30).toNat:=IG
def eb.sH{Y:ba}(w:eb Y):aV Y=0↔Y.a9=[48]:=by constructor;intro e;apply jZ;intro c;let⟨a,g,b⟩:=w.zo c;let h:0<bC _*10^(Y.exp+30).toNat:=ww (yO w.1 b a)<|mr v;grind[xG];grind[aV,xG,bC]
def eb.neg{Y:ba}(w:eb Y):Y.neg=decide (aV Y<0):=by rcases w.2.2 with a|a;rw[w.sH.2 a.1,a.2.1];simp;exact Oo<|Nat.pos_iff_ne_zero.1<|yO w.1 a.2.2 a.1
def ox(a b:ba):Int:=if ex ((a.a9.length:Int)+a.exp-b.a9.length-b.exp)≠0 then ex ((a.a9.length:Int)+a.exp-b.a9.length-b.exp) else Go.Lib.compareBytes a.a9 b.a9
theorem sR{a:Int}(w:0<a):ex a=1:=by(simp[ex,aa];omega)
theorem sQ{a:Int}(w:a<0):ex a=-1:=by(simp[ex,aa,ab];omega)
def K5{Y:ba}(w:eb Y)(b:Y.a9≠[48]):10^((Y.a9.length:Int)+Y.exp+29).toNat<=(aV Y).natAbs/\(aV Y).natAbs<10^((Y.a9.length:Int)+Y.exp+30).toNat:=by let⟨a,c,e⟩:=w.zo b;let he:=w.2.1;let g:=ya.2 a;rw[xG];constructor;rw[show(Y.a9.length+Y.exp+29).toNat=Y.a9.length-1+(Y.exp+30).toNat by omega,m8];exact hA _<|agi w.1 a c;rw[show(Y.a9.length+Y.exp+30).toNat=Y.a9.length+(Y.exp+30).toNat by omega,m8];exact KI (tC w.1)<|mr v
def PM{a b:ba}(c:eb a)(e:eb b)(g:a.a9≠[48])(h:b.a9≠[48]):ox a b=ex (((aV a).natAbs:Int)-(aV b).natAbs):=by let jP:=K5 c g;let k:=K5 e h;let i:=c.2.1;let j:=e.2.1;unfold ox;rcases Fq (a.a9.length+a.exp-b.a9.length-b.exp) 0 with w|w|w;have:=m9 (show 0<10 by decide) (show(a.a9.length+a.exp+30).toNat<=(b.a9.length+b.exp+29).toNat by omega);grind[sQ];rw[w,aa bB,SE _ b.a9 (a.a9.length+a.exp+30).toNat c.1 e.1 (c.zo g).2.2 (e.zo h).2.2 v v,xG,xG];grind;have:=m9 (show 0<10 by decide) (show(b.a9.length+b.exp+30).toNat<=(a.a9.length+a.exp+29).toNat by omega);grind[sR]
def hb(Y:ba):Int:=if Y.a9=[48] then 0 else if Y.neg then-1 else 1
def Y5{Y:ba}(w:eb Y):hb Y=ex (aV Y):=by unfold hb ex;simp[w.sH];split;rfl;rw[w.neg];simp
def nx(a b:ba):Int:=if hb a≠hb b\/hb a=0 then ex (hb a-hb b) else hb a*ox a b
def Bx{i h:ba}(e:eb i)(g:eb h):nx i h=ex (aV i-aV h):=by
 unfold nx;rw[Y5 e,Y5 g];rcases Fq _ 0 with c|c|c;rw[sQ c];rcases Fq _ 0 with a|a|a;rw[sQ a,aa aj,PM e g (λb=>by rw[<-e.sH] at b;omega) λb=>by rw[<-g.sH] at b;omega]
 (simp[ex];omega)
 rw[a,ab aj,sQ aj,sQ v];rw[sR a,ab aj,sQ aj,sQ v];rw[c];rw[ab<|.inr aj];rcases Fq (aV h) 0 with a|a|a;rw[sQ a,sR aj,sR v];simp_all;rw[sR a,sQ aj,sQ v];rw[sR c];rcases Fq _ 0 with a|a|a;rw[sQ a,ab aj,sR aj,sR v];rw[a,ab aj,sR aj,sR v];rw[sR a,aa aj,PM e g (λb=>by rw[<-e.sH] at b;omega) λb=>by rw[<-g.sH] at b;omega];grind
def alw{a b:ba}(e:eb a)(g:eb b)(w:aV a=aV b):a=b:=by
 have p:a.neg=b.neg:=by rw[e.neg,g.neg,w]
 rcases wj (a.a9=[48]) with dT|dT;have m:b.a9=[48]:=by rw[<-g.sH,<-w,e.sH];exact dT
 have c:a.exp=0:=by rcases e.2.2 with c|c;omega;simp_all
 have h:b.exp=0:=by rcases g.2.2 with c|c;omega;simp_all
 cases a;cases b;simp_all;have c:=PM e g dT λj=>dT (by rw[<-e.sH,w,g.sH];exact j);rw[w,Int.sub_self] at c;unfold ox at c;have q:ex 0=0:=by simp[ex]
 split at c;omega;rename_i h;have k:=SB c;have i:=by simpa using h
 have l:a.a9.length+a.exp-b.a9.length-b.exp=0:=by unfold ex at i;split at i;omega;omega
 rw[k] at l;have o:a.exp=b.exp:=v;cases a;simp_all
def DV{Y:ba}(w:jc Y=0):eb Y:=by let⟨a,h,c,i,e⟩:=D3 w;refine⟨a,c,?_⟩;unfold jc at w;rw[aa b] at w;split at w;simp_all;right;split at w;cases w;refine⟨e,?_,?_⟩;grind[List.head?_eq_getElem?];intro g;grind
def mn(F:Nat):List UInt8:=List.replicate F 48
def GI(F:Nat):bC (mn F)=0:=by induction F with|zero=>rfl|succ F a=>trivial
theorem abA(F:Nat):(mn F).all eh:=by simp[mn,eh]
def apd(F:Nat):Go.Lib.repeatL [48] F=mn F:=by induction F with|zero=>rfl|succ F a=>rw[Go.Lib.repeatL,a];rfl
def SX:∀a:List UInt8,bC (a.dropWhile (·==48))=bC a
|[]=>rfl|b::a=>by
 rw[P_];split;rename_i w;have:=by simpa using w
 rw[SX a,vf,this];simp;rfl
def arJ:∀a:List UInt8,∃F,a=(a.reverse.dropWhile (·==48)).reverse++mn F:=by
 intro a;let key:∀D,∃F,D=mn F++D.dropWhile (·==48):=by
  intro D
  induction D with|nil=>exact⟨0,rfl⟩|cons e D c=>rw[P_];split;let⟨F,b⟩:=c;refine⟨F+1,?_⟩;grind[mn];exact⟨0,rfl⟩
 let⟨F,b⟩:=key a.reverse;grind[mn,List.reverse_reverse,List.reverse_append]
def Tm(a:List UInt8):(a.dropWhile (·==48)).head?≠some 48:=by induction a with|nil=>simp|cons b a c=>grind[List.dropWhile_cons,List.head?_cons,Option.some.injEq]
def ady{a:List UInt8}(w:a.all eh):(a.dropWhile (·==48)).all eh:=kM.2 λb c=>kM.1 w b<|(abV _).subset c
variable{U:Nat}
theorem XB{b:Bool}{F:Nat}{a:Int}(c:-30<=a):lz b (U*10^F) a=lz b U (a+F):=by unfold lz;rw[show(a+F+30).toNat=F+(a+30).toNat by omega,m8,nO]
def al0{b:Bool}{a:Int}:lz b 0 a=0:=by simp[lz]
def qx(c:Bool)(a:List UInt8)(b:Int):ba:=if Go.Lib.trimRightB (Go.Lib.trimLeftB a 48) 48=[] then⟨false,[48],0⟩ else⟨c,Go.Lib.trimRightB (Go.Lib.trimLeftB a 48) 48,b+(Go.Lib.trimLeftB a 48).length-(Go.Lib.trimRightB (Go.Lib.trimLeftB a 48) 48).length⟩
def Dd{neg:Bool}{a:List UInt8}{exp:Int}(w:a.all eh)(k:-30<=exp):eb (qx neg a exp)/\aV (qx neg a exp)=lz neg (bC a) exp:=by
 unfold qx Go.Lib.trimRightB Go.Lib.trimLeftB;have g:=SX a;have e:=ady w;have h:=Tm a;generalize a.dropWhile _=M at g e h;let⟨F,b⟩:=arJ M;have i:=Tm M.reverse;generalize M.reverse.dropWhile _=D at b i;split;rename_i c;rw[c,s8] at b;refine⟨⟨aj,aj,.inl ⟨rfl,rfl,rfl⟩⟩,?_⟩;rw[<-g,b,GI,al0];rfl;rename_i c;have a6:M.length=D.reverse.length+F:=by rw[b];simp[mn]
 have j:=by rw[b,List.all_append,jD] at e;exact e.1
 refine⟨⟨j,aM,.inr ⟨c,?_,?_⟩⟩,?_⟩;simp_all
 (simp[ro,List.getLast?_reverse];omega)
 show lz neg _ _=_;have l:bC M=bC D.reverse*10^F:=by rw[b,yN,GI,q2];simp[mn]
 grind[XB]
def jq:Nat->Nat->List UInt8|0,_=>[]|Y+1,a=>UInt8.ofNat (48+a/10^Y%10)::jq Y a
theorem si(Y b:Nat):(jq Y b).length=Y:=by induction Y with|zero=>rfl|succ Y a=>rw[jq,kh,a]
def E2{M:Nat}(w:M<10):(UInt8.ofNat (48+M)).toNat=48+M:=by(simp;omega)
def GJ(Y b:Nat):(jq Y b).all eh:=by
 induction Y with
 |zero=>rfl|succ Y a=>
  rw[jq,Kj,a,Bool.and_true]
  (simp[eh,E2];omega)
def S6(Y a:Nat):bC (jq Y a)=a%10^Y:=by induction Y with|zero=>simp[jq,bC,Nat.mod_one]|succ Y b=>rw[jq,vf,si,b,E2 (M:=a/10^Y%10)<|pn _ aj,acb,oC,Nat.mod_mul,jk,s_]
def S5{Y a:Nat}(w:U%10^Y=a%10^Y):jq Y U=jq Y a:=by
 induction Y with
 |zero=>rfl|succ Y h=>
  rw[jq,jq];let e:U%10^Y=a%10^Y:=by let b:=acj U (10^Y) 10;let c:=acj a (10^Y) 10;rw[<-oC] at b c;rw[<-b,<-c,w]
  let g:U/10^Y%10=a/10^Y%10:=by let b:=aci U (10^Y) 10;let c:=aci a (10^Y) 10;rw[<-oC] at b c;rw[<-b,<-c,w]
  simp_all
def k_(a b:List UInt8):List UInt8:=jq (a.length+1)<|bC a+bC b
def l5(a b:List UInt8):List UInt8:=jq a.length<|10^a.length+bC a-bC b
def Yx{E W:List UInt8}(c:E.length=W.length)(a:E.all eh)(b:W.all eh):bC (k_ E W)=bC E+bC W:=by rw[k_,S6,uN];grind[tC,Nat.pow_succ]
def WT{a b:List UInt8}(c:a.all eh)(w:bC b<=bC a):bC (l5 a b)=bC a-bC b:=by let e:=tC c;rw[l5,S6,show 10^a.length+bC a-bC b=bC a-bC b+10^a.length by omega,aca,uN v]
def fu(a:List UInt8)(Y:Nat):List UInt8:=mn (Y-a.length)++a
def BA{N:List UInt8}{Y:Nat}(w:N.length<=Y):(fu N Y).length=Y:=by grind[fu,mn]
def Bz{N:List UInt8}{Y:Nat}(w:N.all eh):(fu N Y).all eh:=by grind[fu,abA]
def OF{N:List UInt8}{Y:Nat}:bC (fu N Y)=bC N:=by simp[fu,yN,GI]
def ed(Y:ba)(a:Int):List UInt8:=Y.a9++mn (Y.exp-a).toNat
def JF{Y:ba}{J:Int}(w:Y.a9.all eh):(ed Y J).all eh:=by grind[ed,abA]
theorem aqi{Y:ba}{a:Int}:bC (ed Y a)=bC Y.a9*10^(Y.exp-a).toNat:=by rw[ed,yN,GI,q2];simp[mn]
def Z6{Y:ba}{a:Int}(b:-30<=a)(w:a<=Y.exp):lz Y.neg (bC (ed Y a)) a=aV Y:=by grind[aqi,XB,aV]
def Xh{a b:Bool}(w:¬a=b):b=!a:=by cases a<;>cases b<;>first|rfl|trivial
def xX(b c:ba):ba:=let a:=min b.exp c.exp
 let Y:=max (ed b a).length (ed c a).length;let e:=fu (ed b a) Y;let g:=fu (ed c a) Y
 if b.neg=c.neg then qx b.neg (k_ e g) a else if Op.bytesLess e g=false then qx b.neg (l5 e g) a else qx c.neg (l5 g e) a
def ard{a b:ba}(k:eb a)(l:eb b):eb (xX a b)/\aV (xX a b)=aV a+aV b:=by
 have s:=k.2.1;have t:=l.2.1;have he:-30<=min a.exp b.exp:=v;have p:=Z6 he<|Int.min_le_left a.exp b.exp;have q:=Z6 he<|Int.min_le_right a.exp b.exp;have g:=JF (J:=min a.exp b.exp) k.1;have h:=JF (J:=min a.exp b.exp) l.1;unfold xX;dsimp only;generalize min a.exp b.exp=J at*;have jP:=BA<|Nat.le_max_left (ed a J).length (ed b J).length;have r:=BA<|Nat.le_max_right (ed a J).length (ed b J).length;rw[<-OF (N:=ed a J)] at p;rw[<-OF (Y:=max (ed a J).length (ed b J).length)] at q;have g:=Bz (Y:=max (ed a J).length (ed b J).length) g;have h:=Bz (Y:=max (ed a J).length (ed b J).length) h;generalize fu (ed a J) _=c at*;generalize fu (ed b J) _=e at*;have m:c.length=e.length:=by rw[jP,r]
 rw[<-p,<-q];split;have w:=Dd (neg:=a.neg) (exp:=J) (GJ (c.length+1)<|bC c+bC e) he;rw[<-k_,Yx m g h] at w;grind[lz,Nat.add_mul];rename_i o;rw[RT c e m g h];split;rename_i j;have i:bC e<=bC c:=by have:=KW j;omega
 have w:=Dd (neg:=a.neg) (exp:=J) (GJ c.length<|10^c.length+bC c-bC e) he;rw[<-l5,WT g i] at w;rw[w.2];have:=Xh o;unfold lz;grind;rename_i j;have i:bC c<=bC e:=by have:=tf (by simpa using j);omega
 have w:=Dd (neg:=b.neg) (exp:=J) (GJ e.length<|10^e.length+bC e-bC c) he;rw[<-l5,WT h i] at w;rw[w.2];have:=Xh λJ=>o J.symm;unfold lz;grind
open Go.Shelf Go.Proofs in
def afN(a b:List UInt8):aA 292 [.str a,.str b] (.int .i64 (Go.Lib.compareBytes a b)):=.Ha (.str<|.str .nil) (λe=>.int ..) λc=>Tryz.strings_Compare _ _ c
open Go.Shelf Go.Proofs in
def Pa(Y:Nat)(c:Y<=1000000):aA 314 [.str [48],.int .i64 (Y:Int)] (.str (mn Y)):=.fixed (.str<|.int .nil) (λb=>by rw[<-apd];exact .str _) λa=>by exact Tryz.strings_Repeat _ Y a v (by show 1*Y<=_;omega)
open Go.Shelf Go.Proofs in
def arI(a:List UInt8):aA 316 [.str a,.str [48]] (.str (Go.Lib.trimLeftB a 48)):=.Ha (.str<|.str .nil) (λc=>.str _) λb=>Tryz.strings_TrimLeft_one _ 48 aj b
open Go.Shelf Go.Proofs in
def arL(a:List UInt8)(e:a.length<=1000000):aA 317 [.str a,.str [48]] (.str (Go.Lib.trimRightB a 48)):=.Ha (.str<|.str .nil) (λc=>.str _) λb=>Tryz.strings_TrimRight_one _ 48 aj b (by show a.toArray.size<=_;grind)
def arH(a:List UInt8):(Go.Lib.trimLeftB a 48).length<=a.length:=(abV _).length_le
def arK(a:List UInt8):(Go.Lib.trimRightB a 48).length<=a.length:=by grind[Go.Lib.trimRightB,List.length_reverse,Nat.le_trans,List.dropWhile_sublist]
def YC(Y:ba):aA 256 [bx Y] (.int .i64 (hb Y)):=by
 refine aX func256 [] λs c=>?_;apply j<;>intro a
 .exact ae (w:=by rw[hb,ab a];rfl)
 apply j<;>intro b
 .exact ae (w:=by rw[hb,aa a,ab b];rfl)
 exact ae (w:=by rw[hb,aa a,aa b];rfl)
def YL{k:Int}:aA 257 [.int .i64 k] (.int .i64 (ex k)):=by refine aX func257 [] λs a=>?_;refine zn (min 1 k)<|DP _ (w:=by(simp[ex];omega))<|ae
def arj(a b:ba)(g:a.a9.length<=1000000/\-1000000<=a.exp/\a.exp<=1000000)(h:b.a9.length<=1000000/\-1000000<=b.exp/\b.exp<=1000000):aA 258 [bx a,bx b] (.int .i64 (ox a b)):=by
 refine aX func258 [] λs e=>?_;refine aL ?_;refine g1 ?_;refine g1<|az ?_ (i:=YL);apply j<;>intro c
 .exact ae (w:=by rw[ox,ab c];rfl)
 refine az ?_ (i:=afN _ _);exact ae (w:=by rw[ox,aa c];rfl)
def ari(c e:ba):-1<=ox c e/\ox c e<=1:=by
 let h:∀g, -1<=ex g/\ex g<=1:=λg=>by(simp[ex];omega)
 let i:∀b a, -1<=Go.Lib.compareBytes b a/\Go.Lib.compareBytes b a<=1:=by
  intro b
  induction b with
  |nil=>intro a;cases a<;>(simp only[Go.Lib.compareBytes];omega)|cons c b j=>intro a;cases a with|nil=>simp[Go.Lib.compareBytes]|cons e a=>grind[Go.Lib.compareBytes]
 grind[ox]
def Jl(Y:ba):-1<=hb Y/\hb Y<=1:=by(simp[hb];omega)
def OA(a b:ba):-9223372036854775808<=hb a*ox a b/\hb a*ox a b<=9223372036854775807:=by let c:=ari a b;grind[hb]
def anC(a b:ba)(e:a.a9.length<=1000000/\-1000000<=a.exp/\a.exp<=1000000)(g:b.a9.length<=1000000/\-1000000<=b.exp/\b.exp<=1000000):aA 208 [bx a,bx b] (.int .i64 (nx a b)):=by
 refine aX func208 [] λs h=>?_;let l:=Jl a;let m:=Jl b;refine c7<|bT (i:=YC a)<|bT ?_ (i:=YC b);refine dD ?_;apply j<;>intro c
 .refine g1<|az ?_ (i:=YL (k:=(hb a-hb b)));exact ae (w:=by rw[nx,ab c];rfl)
 refine az ?_ (i:=arj a b e g);exact DQ (w:=(OA a b).1) (fL:=(OA a b).2)<|ae (w:=by rw[nx,aa c];rfl)
def sU(a b:List UInt8)(F:Nat):Nat:=bC (a.drop F)+bC (b.drop F)
theorem L0{a:List UInt8}{F:Nat}(w:F<a.length):bC (a.drop F)=(a[F].toNat-48)*10^(a.length-(F+1))+bC (a.drop (F+1)):=by rw[iO w,vf,z2]
def GG{a:List UInt8}(b:a.all eh)(F:Nat):bC (a.drop F)<10^(a.length-F):=by grind[AF,rl,List.mem_of_mem_drop,List.length_drop]
def ol(a b:List UInt8)(F:Nat):List UInt8:=List.replicate (F+1) 0++jq (a.length-F) (sU a b F)
def n0(a b:List UInt8)(F:Nat):Nat:=sU a b F/10^(a.length-F)
def X2{a b:List UInt8}{F:Nat}(w:F<=a.length):(ol a b F).length=a.length+1:=by grind[ol,List.length_append,List.length_replicate,si]
theorem Gu{a b:List UInt8}(e:a.all eh)(g:b.all eh)(h:a.length=b.length)(F:Nat):n0 a b F<=1:=by let i:=GG e F;let c:=GG g F;rw[<-h] at c;unfold n0 sU;have:(bC (a.drop F)+bC (b.drop F))/10^(a.length-F)<2:=(Fw v).2 v;omega
theorem PK{a b:List UInt8}{F:Nat}(c:a.length=b.length)(w:F<a.length):sU a b F=(a[F].toNat-48+(b[F].toNat-48))*10^(a.length-(F+1))+sU a b (F+1):=by grind[sU,L0,Nat.add_mul]
def ae1{a b:List UInt8}{F:Nat}(c:a.length=b.length)(w:F<a.length):n0 a b F=(a[F].toNat-48+(b[F].toNat-48)+n0 a b (F+1))/10:=by unfold n0;rw[PK c w,show a.length-F=a.length-(F+1)+1 by omega,oC,<-KB];simp[s_,Kz,mr]
def amw{a b:List UInt8}{F:Nat}(g:a.length=b.length)(w:F<a.length):(ol a b (F+1)).set (F+1) (UInt8.ofNat (48+(a[F].toNat-48+(b[F].toNat-48)+n0 a b (F+1))%10))=ol a b F:=by
 unfold ol;rw[show a.length-F=a.length-(F+1)+1 by omega,jq];let c:sU a b F/10^(a.length-(F+1))=a[F].toNat-48+(b[F].toNat-48)+n0 a b (F+1):=by rw[PK g w,s_<|_*_,Kz _ _ aM,s_];rfl
 let e:jq (a.length-(F+1)) (sU a b F)=jq (a.length-(F+1)) (sU a b<|F+1):=S5 (by grind[PK,Nat.add_comm,Nat.add_mul_mod_self_right]);rw[c,e,Qq (n:=F+1),ge,yc _ _ af];simp
def amu{a b:List UInt8}(c:a.all eh)(e:b.all eh)(g:a.length=b.length):(ol a b 0).set 0 (UInt8.ofNat (48+n0 a b 0))=k_ a b:=by have:=Gu c e g 0;unfold ol k_;grind[jq,n0,bC,sU,Nat.mod_eq_of_lt]
def amv{a b:List UInt8}:ol a b a.length=List.replicate (a.length+1) 0:=by rw[ol,ms,jq,gf]
def ae0{a b:List UInt8}(c:a.length=b.length):n0 a b a.length=0:=by grind[n0,sU,List.drop_length,bC]
def aaX{a:Int}{o:Nat}(w:a=U):a.tmod (o:Int)=((U%o:Nat):Int):=aM
def aaT{a:Int}{o:Nat}(w:a=U):a.tdiv (o:Int)=((U/o:Nat):Int):=b
def Ps{b:List UInt8}{a:UInt8}:(b.map bh).set U (bh a)=(b.set U a).map bh:=af
def LJ{a:List UInt8}(w:U<a.length):(a.map bh)[U]?=some (bh a[U]):=b
def OG(a:List UInt8)(Y:Nat)(c:a.length<=Y)(e:Y<=1000000):aA 295 [.str a,.int .i64 (Y:Int)] (.str (fu a Y)):=by refine aX func295 [] λs b=>?_;refine ia _<|az ?_ (i:=Pa (Y-a.length) v);exact Od (w:=by grind[mn])<|ae
def Yy(a c:List UInt8)(e:a.length=c.length)(h:a.all eh)(a0:c.all eh)(y:a.length<=1000000):aA 294 [.str a,.str c] (.str (k_ a c)):=by
 refine aX func294 [] λs t=>?_;refine aL ?_;refine ja (a.length+1) (a.length+1) ((ol a c a.length).map bh) ?_ (aG:=by rw[amv,yb];rfl);refine g1<|cQ Nat (λF=>⟨[(0,_),(1,_),(6,.int .u8 (n0 a c F:Nat)),(7,.int .i64<|(F:Int)-1),(5,.d 12 0<|a.length+1)],[(12,.n 1 5<|(ol a c F).map bh)],[]⟩) (λF=>F<=a.length) (λF=>F) a.length (λF x=>?_) (a1 _) ⟨⟨rfl,rfl,(by rw[ae0 e];rfl),rfl,rfl,trivial⟩,⟨rfl,trivial⟩,rfl,rfl⟩;apply j<;>intro u
 .obtain⟨b,rfl⟩:∃b,F=b+1:=⟨F-1,v⟩;let i:b<a.length:=v;let l:=Gu h a0 e<|b+1;let g:b+1<(ol a c<|b+1).length:=by rw[X2 v];omega
  let m:=rl h a[b] (fG i);let q:=rl a0 c[b] (fG v);let k:=E2 (M:=(a[b].toNat-48+(c[b].toNat-48)+n0 a c (b+1))%10)<|pn _ aj;refine c7 ?_;refine lw b a[b] ?_;refine lw b c[b] ?_;refine dK ((b+1:Nat):Int) ?_;refine Ik (((a[b].toNat-48+(c[b].toNat-48)+n0 a c (b+1))%10:Nat):Int) ?_ (w:=aaX (o:=10) FE);refine DS ((n0 a c b:Nat):Int) ?_ (w:=by rw[ae1 e i];exact aaT (o:=10) FE) (h1:=A1 v (by grind[Gu]));refine cz (b+1) ?_;refine fl ((ol a c b).map bh) (bh<|(ol a c<|b+1)[b+1]'g) (.int .u8 _) ?_ (p:=LJ g) (aG:=by rw[<-amw e i,<-Ps,bh,k];grind[J8]);refine ia ((b:Int)-1) ?_;exact aB b (bo:=.r)
 obtain rfl:F=0:=v;let l:=Gu h a0 e 0;let g:0<(ol a c 0).length:=by rw[X2 v];omega
 let k:=E2 (M:=n0 a c 0) v;refine cz 0 ?_;refine fl ((k_ a c).map bh) (bh<|(ol a c 0)[0]'g) (.int .u8 _) ?_ (p:=LJ g) (aG:=by rw[<-amu h a0 e,<-Ps,bh,k];grind[J8]);refine Bl (k_ a c) ?_ (hlen:=by rw[k_,si]) (a0:=by simp[uI,q1,k_,si]);exact ae
def zL(a b:List UInt8)(F:Nat):Nat:=10^(a.length-F)+bC (a.drop F)-bC (b.drop F)
def tt(a b:List UInt8)(F:Nat):Nat:=if bC (a.drop F)<bC (b.drop F) then 1 else 0
def ve(a b:List UInt8)(F:Nat)(c e:UInt8):Nat:=10+(c.toNat-48)-(e.toNat-48)-tt a b (F+1)
def qL(a b:List UInt8)(F:Nat):List UInt8:=List.replicate F 0++jq (a.length-F) (zL a b F)
def amr{a b:List UInt8}{F:Nat}(w:F<=a.length):(qL a b F).length=a.length:=by grind[qL,List.length_append,List.length_replicate,si]
def aeq(a b:List UInt8)(F:Nat):tt a b F<=1:=by grind[tt]
def aas{b g:List UInt8}{F:Nat}(q:b.all eh)(r:g.all eh)(H:b.length=g.length)(w:F<b.length):∃D,zL b g F=ve b g F b[F] g[F]*10^(b.length-(F+1))+D/\D<10^(b.length-(F+1))/\zL b g (F+1)%10^(b.length-(F+1))=D/\tt b g F=1-ve b g F b[F] g[F]/10:=by
 have o:g.length-(F+1)=b.length-(F+1):=v;have x:=L0 w;have p:=L0 (show F<g.length by omega);rw[o] at p;have K:=GG q<|F+1;have B:=GG r<|F+1;rw[o] at B;have z:10^(b.length-F)=10^(b.length-(F+1))*10:=by rw[show b.length-F=b.length-(F+1)+1 by omega,oC]
 have C:=rl q b[F] (fG w);have E:=rl r g[F] (fG v);have J:g[F].toNat-48<=9:=v;unfold zL tt ve tt;rw[x,p,z];generalize 10^(b.length-(F+1))=a at*;generalize bC (b.drop<|F+1)=h at*;generalize bC (g.drop<|F+1)=i at*;generalize b[F].toNat-48=c at*;generalize g[F].toNat-48=e at*;have t:∀l m:Nat,l<=m->l*a<=m*a:=λl m w=>hA a w;have key:∀D k:Nat,k<=1->D<a->10*a+(c*a+h)-(e*a+i)=(10+c-e-k)*a+D->(if c*a+h<e*a+i then 1 else 0)=1-(10+c-e-k)/10:=by
  intro D k G I j;generalize a6:10+c-e-k=M at*;split;have:M<10:=by apply yh;intro s;have:=t 10 M s;omega
  omega;have:¬M<10:=by intro s;have:=t (M+1) 10 v;rw[gg,td] at this;omega
  omega
 have y:a*10=10*a:=jk ..;rw[y];split
 .rename_i A;have j:10*a+(c*a+h)-(e*a+i)=(10+c-e-1)*a+(a+h-i):=by
   have u:10*a+c*a=(10+c-e-1)*a+e*a+a:=by
    rw[show 10*a+c*a=(10+c)*a by grind,show 10+c=10+c-e-1+e+1 by omega,gg,gg,td];congr 3
    all_goals omega
   omega
  refine⟨a+h-i,j,v,uN v,key _ 1 v v j⟩
 .rename_i A;have j:10*a+(c*a+h)-(e*a+i)=(10+c-e-0)*a+(h-i):=by
   have u:10*a+c*a=(10+c-e-0)*a+e*a:=by
    rw[show 10*a+c*a=(10+c)*a by grind,show 10+c=10+c-e-0+e by omega,gg];congr 3
    all_goals omega
   omega
  refine⟨h-i,j,v,?_,key _ 0 v v j⟩;rw[show a+h-i=h-i+a by omega,aca,uN v]
def ams{a b:List UInt8}{F:Nat}(g:a.all eh)(h:b.all eh)(i:a.length=b.length)(w:F<a.length):(qL a b (F+1)).set F (UInt8.ofNat (48+ve a b F a[F] b[F]%10))=qL a b F:=by
 let⟨D,c,e,l,_⟩:=aas g h i w;unfold qL;rw[show a.length-F=a.length-(F+1)+1 by omega,jq];have j:zL a b F/10^(a.length-(F+1))=ve a b F a[F] b[F]:=by rw[c,s_ _,Kz _ _ v,Qs e,kk]
 have k:jq _ (zL a b F)=jq (a.length-(F+1)) (zL a b (F+1)):=S5 (by grind[Nat.add_comm,Nat.add_mul_mod_self_right,Nat.mod_eq_of_lt]);simp_all[Qq,ge,yc]
def amq{a b:List UInt8}:qL a b a.length=List.replicate a.length 0:=by rw[qL,ms,jq,gf]
def aep{a b:List UInt8}(c:a.length=b.length):tt a b a.length=0:=by rw[tt,Qa,c,Qa,aa v]
def amt{a b:List UInt8}:qL a b 0=l5 a b:=ax
def WU(a c:List UInt8)(i:a.length=c.length)(g:a.all eh)(a0:c.all eh)(C:a.length<=1000000):aA 315 [.str a,.str c] (.str (l5 a c)):=by
 refine aX func315 [] λs y=>?_;refine ja a.length a.length ((qL a c a.length).map bh) ?_ (aG:=by rw[amq,yb];rfl);refine g1<|cQ Nat (λF=>⟨[(0,_),(1,_),(6,.int .u8 (tt a c F:Nat)),(7,.int .i64<|(F:Int)-1),(5,.d 11 0 a.length)],[(11,.n 1 5<|(qL a c F).map bh)],[]⟩) (λF=>F<=a.length) (λF=>F) a.length (λF B=>?_) (a1 _) ⟨⟨rfl,rfl,(by rw[aep i];rfl),rfl,rfl,trivial⟩,⟨rfl,trivial⟩,rfl,rfl⟩;apply j<;>intro A
 .obtain⟨b,rfl⟩:∃b,F=b+1:=⟨F-1,v⟩;have h:b<a.length:=v;have z:=aeq a c<|b+1;have k:b<(qL a c (b+1)).length:=by rw[amr v];omega
  have u:=rl g a[b] (fG h);have x:=rl a0 c[b] (fG v);have a6:ve a c b a[b] c[b]=10+(a[b].toNat-48)-(c[b].toNat-48)-tt a c (b+1):=rfl;let⟨_,_,_,_,m⟩:=aas g a0 i h;have l:=ams g a0 i h;have q:ve a c b a[b] c[b]<=19:=(by grind[ve]);generalize ve a c b a[b] c[b]=e at a6 m l q;have r:=E2 (M:=e%10)<|pn _ aj;refine c7<|lw b a[b]<|lw b c[b]<|Ik ((e%10:Nat):Int) ?_ (w:=aaX (o:=10) FE);refine DS ((e/10:Nat):Int) ?_ (w:=aaT (o:=10) FE);refine cz b ?_;refine fl ((qL a c b).map bh) (bh<|(qL a c<|b+1)[b]'k) (.int .u8 _) (p:=LJ k) (aG:=by rw[<-l,<-Ps,bh,r];grind[J8])<|ia ((b:Int)-1)<|aB b (bo:=⟨⟨rfl,rfl,(by exact cW (λt=>some<|V.int .u8 t) FE),rfl,rfl,trivial⟩,⟨rfl,trivial⟩,rfl,rfl⟩)
 obtain rfl:F=0:=v;exact Bl (l5 a c) (hlen:=by rw[l5,si]) (a0:=by simp[uI,amt,q1,l5,si])<|ae
def Hf(e:Bool)(a:List UInt8)(b:Int)(k:a.length<=900000)(h:-1000000<=b/\b<=1000000):aA 296 [.bool e,.str a,.int .i64 b] (bx (qx e a b)):=by
 refine aX func296 [] λs g=>?_;let l:=arH a;let m:=arK<|Go.Lib.trimLeftB a 48;refine az (i:=arI a)<|az ?_ (i:=arL (Go.Lib.trimLeftB a 48) v);apply j<;>intro c
 .exact cu aZ (w:=by rw[cO,qx,ab c];rfl)
 refine aL<|g1<|cu aZ (w:=by rw[cO,qx,aa c];rfl)
def Small(Y:ba):Prop:=Y.a9.length<=100000/\-100000<=Y.exp/\Y.exp<=100000
def Z5(Y:ba)(a:Int):(ed Y a).length=Y.a9.length+(Y.exp-a).toNat:=by simp[ed,mn]
def anS(a c:ba)(k:eb a)(l:eb c)(x:Small a)(y:Small c):aA 293 [bx a,bx c] (bx (xX a c)):=by
 refine aX func293 [] λs F=>?_;let⟨bu,cG,z⟩:=x;let⟨A,B,C⟩:=y;let D:=k.2.1;let E:=l.2.1;obtain⟨J,he⟩:∃J,min a.exp c.exp=J:=⟨_,rfl⟩;let jP:=Z5 a J;let H:=Z5 c J;let q:=JF (J:=J) k.1;let r:=JF (J:=J) l.1;obtain⟨Y,t⟩:∃Y,max (ed a J).length (ed c J).length=Y:=⟨_,rfl⟩;let m:(ed a J).length<=Y:=v;let o:(ed c J).length<=Y:=v;let p:=BA m;let u:=BA o;let e:=Bz (Y:=Y) q;let g:=Bz (Y:=Y) r;let cp:xX a c=if a.neg=c.neg then qx a.neg (k_ (fu (ed a J) Y)<|fu (ed c J) Y) J else if Op.bytesLess (fu (ed a J) Y) (fu (ed c J) Y)=false then qx a.neg (l5 (fu (ed a J) Y)<|fu (ed c J) Y) J else qx c.neg (l5 (fu (ed c J) Y)<|fu (ed a J) Y) J:=by unfold xX;dsimp only;rw[he,t]
 let cU:(k_ (fu (ed a J) Y)<|fu (ed c J) Y).length=Y+1:=by rw[k_,si,p]
 let dj:(l5 (fu (ed a J) Y)<|fu (ed c J) Y).length=Y:=by rw[l5,si,p]
 let I:(l5 (fu (ed c J) Y)<|fu (ed a J) Y).length=Y:=by rw[l5,si,u]
 refine zn J ?_;refine c7 ?_;refine ia (((a.exp-J).toNat:Nat):Int) ?_;refine bT ?_ (i:=Pa (a.exp-J).toNat v);refine Od ?_ (w:=by grind[mn]);refine c7 ?_;refine ia (((c.exp-J).toNat:Nat):Int) ?_;refine bT ?_ (i:=Pa (c.exp-J).toNat v);refine Od ?_ (w:=by grind[mn]);refine DP (Y:Int) ?_ (w:=by grind[max,ed]);refine az ?_ (i:=OG (ed a J) Y m v);refine az ?_ (i:=OG (ed c J) Y o v);refine If ?_;apply j<;>intro h
 .refine dC ?_;refine a_ (λ_=>bT rfl (i:=Yy (fu (ed a J) Y) (fu (ed c J) Y) v e g v)) ?_;refine a_ (λ_=>bT rfl (i:=Hf a.neg (k_ (fu (ed a J) Y)<|fu (ed c J) Y) J v v)) ?_;refine eJ ?_;refine fm ?_;exact cu aZ (w:=by rw[cp,ab h];rfl)
 apply j<;>intro G
 .refine dC ?_;refine a_ (λ_=>bT rfl (i:=WU (fu (ed a J) Y) (fu (ed c J) Y) v e g v)) ?_;refine a_ (λ_=>bT rfl (i:=Hf a.neg (l5 (fu (ed a J) Y)<|fu (ed c J) Y) J v v)) ?_;refine eJ ?_;refine fm ?_;exact cu aZ (w:=by rw[cp,aa h,ab b];rfl)
 refine dC ?_;refine a_ (λ_=>bT rfl (i:=WU (fu (ed c J) Y) (fu (ed a J) Y) v g e v)) ?_;refine a_ (λ_=>bT rfl (i:=Hf c.neg (l5 (fu (ed c J) Y)<|fu (ed a J) Y) J v v)) ?_;refine eJ ?_;refine fm ?_;exact cu aZ (w:=by rw[cp,aa h,aa b];rfl)
def agL{a b:ba}(c:eb a)(e:eb b)(g:Small a)(h:Small b):aA 259 [bx a,bx b] (bx (xX a b)):=by refine aX func259 [] λs j=>?_;refine az ?_ (i:=anS a b c e g h);exact cu aZ
def G4(a b:ba)(c:Small a)(e:Small b):aA 152 [bx a,bx b] (.int .i64 (nx a b)):=by refine aX func152 [] λs j=>?_;let g:=c.2.1;let h:=e.2.1;refine az ?_ (i:=anC a b ⟨cA c.1 v,v,Int.le_trans c.2.2 v⟩ ⟨cA e.1 v,v,Int.le_trans e.2.2 v⟩);exact ae
def anD(a:Int):aA 297 [.int .i64 a] (bx ⟨false,[49],a⟩):=by refine aX func297 [] λs b=>?_;exact cu aZ
def g8(a:ba)(b:Int):List UInt8:=if 0<(a.a9.length:Int)-(b-a.exp) then a.a9.take ((a.a9.length:Int)-(b-a.exp)).toNat else[48]
def y7(a:ba)(b:Int):ba:=if b<=a.exp\/a.a9=[48] then a
 else qx a.neg (if a.neg then k_ (g8 a b) (fu [49] (g8 a b).length) else g8 a b) b
def Ud{a:ba}(e:eb a)(c:Int):(g8 a c).all eh:=by unfold g8;split;exact kM.2 λb g=>kM.1 e.1 b aM;rfl
def Ue{a:ba}{J:Int}(w:a.a9≠[]):1<=(g8 a J).length/\(g8 a J).length<=a.a9.length:=by grind[List.length_pos_iff,g8,List.length_take]
def ahs{a:ba}(c:eb a)(j:a.a9≠[48]){b:Int}(r:a.exp<b):bC (g8 a b)=bC a.a9/10^(b-a.exp).toNat/\bC a.a9%10^(b-a.exp).toNat≠0:=by
 let e:=c.zo j;unfold g8;split;generalize hm:((a.a9.length:Int)-(b-a.exp)).toNat=o;let l:(b-a.exp).toNat=(a.a9.drop o).length:=by rw[z2];omega
 let g:(a.a9.drop o).all eh:=kM.2 λi q=>kM.1 c.1 i aM;let h:=tC g;let p:bC a.a9=bC (a.a9.take o)*10^(a.a9.drop o).length+bC (a.a9.drop o):=by
  conv=>lhs;rw[(Ch o a.a9).symm]
  rw[yN]
 rw[l];let m:0<bC (a.a9.drop o):=by
  refine yO g ?_ ?_;unfold ro;let k:(a.a9.drop o).getLast?=a.a9.getLast?:=by rw[List.getLast?_drop,aa v]
  rw[k];exact e.2.2;grind
 rw[p];refine⟨?_,?_⟩;rw[s_,Kz _ _ v,Qs h,kk];grind[Nat.add_comm,Nat.add_mul_mod_self_right,Nat.mod_eq_of_lt];let h:=tC c.1;let s:10^a.a9.length<=10^(b-a.exp).toNat:=m9 v v;let m:=yO c.1 e.2.2 e.1;rw[Qs v,uN v];refine⟨rfl,v⟩
def Mt{E:ba}(c:eb E){J:Int}(g:-30<=J):eb (y7 E J)/\aV (y7 E J)=aV E/(10^(J+30).toNat:Nat)*(10^(J+30).toNat:Nat):=by
 unfold y7;split;rename_i w;have B:((10^(J+30).toNat:Nat):Int) ∣ aV E:=by
  rcases w with w|w;have z:10^(J+30).toNat ∣ (aV E).natAbs:=by rw[xG];exact Nat.dvd_trans (Nat.pow_dvd_pow 10 v)<|Nat.dvd_mul_left _ _
  grind[Int.ofNat_dvd_left];rw[c.sH.2 w]<;>simp_all
 grind[Int.ediv_mul_cancel];rename_i w;have w:=Cp.1 w;have l:E.exp<J:=v;let⟨j,F⟩:=ahs c w.2 l;have i:=Ud c J;have s:=Ue (J:=J) (c.zo w.2).1;have y:=c.2.1;have o:10^(J+30).toNat=10^(J-E.exp).toNat*10^(E.exp+30).toNat:=by rw[<-m8];congr 1;omega
 have t:0<10^(E.exp+30).toNat:=mr v;have h:0<10^(J-E.exp).toNat:=mr v;cases m:E.neg with
 |false=>rw[aa aj];have:=Dd (neg:=false) i g;rw[this.2,j];unfold aV lz;generalize 10^(E.exp+30).toNat=b at*;simp_all|true=>
  rw[ab rfl];have pl:=BA (N:=[49]) (Y:=(g8 E J).length) s.1;have u:=Bz (N:=[49]) (Y:=(g8 E J).length) aj;have p:=Yx (E:=g8 E J) (W:=fu [49] (g8 E J).length) pl.symm i u;have:=Dd (neg:=true) (exp:=J) (GJ ((g8 E J).length+1)<|bC (g8 E J)+bC (fu [49] (g8 E J).length)) g;rw[<-k_,p,OF] at this;rw[this.2,j,show bC [49]=1 from rfl];unfold aV lz;rw[m,ab rfl,ab rfl,o];generalize 10^(E.exp+30).toNat=b at*;generalize 10^(J-E.exp).toNat=a at*;generalize bC E.a9=M at*;have x:-((M*b:Nat):Int)/((a*b:Nat):Int)=-((M/a+1:Nat):Int):=by
   have a6:M=a*(M/a)+M%a:=(ta M a).symm;have C:=pn M h;generalize M/a=e at*;generalize M%a=D at*;have k:(0:Int)<((a*b:Nat):Int):=by have:=ww h t;omega
   refine((Int.ediv_emod_unique k (r:=(((a-D)*b:Nat):Int)) (q:=-((e+1:Nat):Int))).2 ⟨?_,v,?_⟩).1;have A:M*b+(a-D)*b=(e+1)*(a*b):=by rw[<-gg,a6,show a*e+D+(a-D)=a*(e+1) by grind,jk a,nO]
   grind
   (simp_all;omega)
  grind
def aW(a:Bool):V:=.bool a
def eB(a:Int):V:=.int .i64 a
inductive ao where|mk (cc:Int) (set:List (Int×Int)) (min max:Int) (aq:List ao)
def fz(D:Int×Int):V:=.agg [.int .i64 D.1,.int .i64 D.2]
mutual
def rn:ao->V|.mk F O a b c=>.agg [.int .i64 F,.f 2<|O.map fz,.int .i64 a,.int .i64 b,.f 5<|fy c]
def fy:List ao->List V|[]=>[]|a::b=>rn a::fy b
end
namespace ao
def cc:ao->Int|.mk a _ _ _ _=>a
def set:ao->List (Int×Int)|.mk _ a _ _ _=>a
def min:ao->Int|.mk _ _ a _ _=>a
def max:ao->Int|.mk _ _ _ a _=>a
def aq:ao->List ao|.mk _ _ _ _ a=>a
end ao
def bY(a:ao):V:=.agg [.int .i64 a.cc,.f 2<|a.set.map fz,.int .i64 a.min,.int .i64 a.max,.f 5<|fy a.aq]
def tG a:rn a=bY a:=by cases a;rfl
structure a3 where
 start:Nat
 acc:List Bool
 next:List (List Nat)
def bl(a:List Nat):V:=.f 1<|a.map λY=>V.int .i64 (Y:Nat)
def dW(a:a3):V:=.agg [q a.start,.f 1<|a.acc.map aW,.f 1<|a.next.map bl]
theorem yX:∀a,fy a=a.map rn|[]=>rfl|b::a=>by rw[fy,gU,yX a]
theorem gA a:(fy a).length=a.length:=by rw[yX,aS]
instance:Inhabited ao:=⟨.mk 0 [] 0 0 []⟩
variable{U:Nat}
def agC{a:List ao}:U<a.length->(fy a)[U]?=some (rn (a.getD U default)):=by grind[yX,List.getElem?_eq_getElem]
structure j3 where
 o:Bool
 w:Bool
 deriving DecidableEq,Inhabited
def fK(a:j3):V:=.agg [.bool a.o,.bool a.w]
structure di where
 C:List ba
 on:List Bool
 fW:List j3
def jK(O:di):V:=.agg [.f 3 (O.C.map bx),.f 1<|O.on.map aW,.f 2<|O.fW.map fK]
def J7(Y:ba):Bool:=decide (0<=Y.exp)
def j3.has(a:j3)(Y:ba):Bool:=if J7 Y then a.w else a.o
def asG(Y:ba):aA 207 [bx Y] (.bool (J7 Y)):=by refine aX func207 [] λs a=>?_;exact ae
def Us(a:j3)(Y:ba):aA 151 [fK a,bx Y] (.bool (a.has Y)):=by
 refine aX func151 [] λs c=>?_;refine az ?_ (i:=asG Y);apply j<;>intro b
 .exact ae (w:=by rw[j3.has,ab b];rfl)
 exact ae (w:=by rw[j3.has,aa b];rfl)
def mi(a:jE)(b:j3):Bool:=!a.op&&b.has a.n
def aah(b:jE)(h w e:j3)(c:List ba)(j:List Bool)(a:List j3)(o:c.length<=1000)(q:j.length<=1000)(r:a.length<=1000)(t:0<a.length):cK 150 [AJ b,fK h,fK w,g 6003,g 6004] [(6003,.cell 96 (.agg [.d 5001 0 (c.map bx).length,.d 5002 0 (j.map aW).length,.d 5003 0 (a.map fK).length])),(5001,.n 3 70 (c.map bx)),(5002,.n 1 4 (j.map aW)),(5003,.n 2 232 (a.map fK)),(6004,.cell 232 (fK e))] (.tuple []) [(6003,.cell 96 (.agg [.d 5001 0 ((c++[b.n]).map bx).length,.d 5002 0 ((j++[mi b e]).map aW).length,.d 5003 0 ((a.set (a.length-1) h++[w]).map fK).length])),(5001,.n 3 70 ((c++[b.n]).map bx)),(5002,.n 1 4 ((j++[mi b e]).map aW)),(5003,.n 2 232 ((a.set (a.length-1) h++[w]).map fK)),(6004,.cell 232 (fK e))]:=by
 refine cX func150 [] λu s l=>?_;have m:(a.map fK).length=a.length:=aS _;refine dv ?_;refine eR ((c++[b.n]).map bx) ?_ (aG:=p3) (bq:=aK);refine dC ?_;refine Ji (λk=>?_) λk=>?_
 focus refine a_ (λ_=>bT rfl (i:=Us e b.n)) ?_
 all_goals refine a_ (λ_=>jv rfl) ?_;refine jB 27 ((j++[mi b e]).map aW) ?_ (aG:=by rw[cD];simp at k;simp only[mi,k];rfl) (bq:=aK);refine eJ ?_;refine iK [(27,5002)] ?_;refine g1 ?_;refine cz (a.length-1) ?_;refine fl ((a.set (a.length-1) h).map fK) (fK a[a.length-1]) (fK h) ?_ (p:=kB v) (aG:=by rw[gN]);refine dv ?_;refine eR ((a.set (a.length-1) h++[w]).map fK) ?_ (aG:=p3) (bq:=aK);exact cH
def vO:di:=⟨[],[],[⟨false,false⟩]⟩
def Xr:aA 103 [] (jK vO):=by refine aX func103 [] λs a=>?_;refine dv<|fA 3 0 [0]<|fA 1 0 [1] ?_;exact cu aZ
def amb:aA 261 [] (bx ⟨false,[49],0⟩):=by refine aX func261 [] λs a=>?_;refine az ?_ (i:=anD 0);exact cu aZ
def IK:ba:=⟨false,[49],0⟩
def XQ:eb IK:=⟨aj,aj,.inr ⟨aj,aj,by unfold ro;decide⟩⟩
def ama:Small IK:=⟨aj,aj,aj⟩
theorem al_:aV IK=bA:=aj
def tj(Y:ba):ba:=xX (y7 Y 0) IK
def acG:((10^((0:Int)+30).toNat:Nat):Int)=bA:=aj
def F8{Y:ba}(w:eb Y):eb (tj Y)/\aV (tj Y)=cI (aV Y)+bA:=by let⟨a,b⟩:=Mt (J:=0) w aj;let⟨c,e⟩:=ard a XQ;refine⟨c,?_⟩;rw[tj,e,b,al_,acG];rfl
def pv(F:Nat)(Y:ba):Prop:=Y.a9.length<=F/\-30<=Y.exp/\Y.exp<=F
def pv.small{F:Nat}{Y:ba}(w:pv F Y)(a:F<=100000):Small Y:=⟨cA w.1 a,by have:=w.2.1;omega,by have:=w.2.2;omega⟩
def Pv{Y:ba}(w:jc Y=0):pv 30 Y:=by let⟨a,b,c,e,g⟩:=D3 w;trivial
def aac{Y:ba}(w:eb Y)(i:(aV Y).natAbs<10^U):pv (U+1) Y:=by
 rcases wj (Y.a9=[48]) with c|c;let a:Y.exp=0:=by rcases w.2.2 with a|a;omega;simp_all
 refine⟨b,v,v⟩;let a:=(K5 w c).1;let e:=w.2.1;let h:(Y.a9.length+Y.exp+29).toNat<U:=by apply yh;intro g;have:=m9 (show 0<10 by decide) g;omega
 exact⟨v,e,v⟩
def QY{Y:ba}{F:Nat}(w:eb Y)(a:pv F Y):(aV Y).natAbs<10^(2*F+30):=by rw[xG];let b:=tC w.1;let c:10^Y.a9.length<=10^F:=m9 aj a.1;rw[show 2*F+30=F+(F+30) by omega,m8];exact h3 (KI v aM)<|Ck _<|m9 aj (by have:=a.2.2;omega)
def aht{Y:ba}{F:Nat}(w:eb Y)(b:pv F Y):pv (2*F+64) (y7 Y 0):=by let⟨a,c⟩:=Mt (J:=0) w aj;refine aac a ?_;let e:=QY w b;grind[bA,aV]
def acU{Y:ba}(b:eb Y)(m:pv 30 Y):aA 209 [bx Y] (bx (tj Y)):=by
 refine aX func209 [] λs A=>?_;refine az (i:=(by
  refine aX func260 [26,32] λu B=>?_;let⟨bu,x,y⟩:=m.small aj;refine dD ?_;apply j<;>intro e
  .exact cu aZ (w:=by rw[cO,y7,ab e];rfl)
  let o:=Cp.1 e;let p:=(b.zo o.2).1;let k:=Ue (J:=0) p;let r:=Ud b 0;let pl:=BA (N:=[49]) (Y:=(g8 Y 0).length) k.1;let t:=Bz (N:=[49]) (Y:=(g8 Y 0).length) aj;let D:(k_ (g8 Y 0)<|fu [49] (g8 Y 0).length).length=(g8 Y 0).length+1:=by rw[k_,si]
  refine gK (List UInt8) (λc=>⟨[(1,.int .i64 0),(2,g 2),(4,g 4),(5,.str c)],[(2,.cell 70<|bx Y),(4,.cell 70<|V.zero MT.z)],[]⟩) (λc=>c=g8 Y 0) ?_ λc l=>?_
  .refine g1 ?_;refine g1 ?_;apply j<;>intro C
   .exact alo 0 ((Y.a9.length:Int)-(0-Y.exp)).toNat<|c3 (Y.a9.take ((Y.a9.length:Int)-(0-Y.exp)).toNat) (by rw[g8,ab v])
   exact c3 [48] (by rw[g8,aa v])
  refine gK (List UInt8) (λa=>⟨[(1,.int .i64 0),(2,g 2),(4,g 4),(5,.str a)],[(2,.cell 70<|bx Y),(4,.cell 70<|V.zero MT.z)],[]⟩) (λa=>a=if Y.neg then k_ (g8 Y 0) (fu [49] (g8 Y 0).length) else g8 Y 0) ?_ λa q=>?_
  .apply j<;>intro h
   .subst l;refine az (i:=OG [49] (g8 Y 0).length k.1 v)<|az (i:=Yy (g8 Y 0) (fu [49] (g8 Y 0).length) v r t v)<|c3 (k_ (g8 Y 0)<|fu [49] (g8 Y 0).length) (ab h).symm
   subst l;exact c3 (g8 Y 0) (aa h).symm
  refine az ?_ (i:=Hf Y.neg a 0 aM v);exact cu aZ (w:=by rw[cO,y7,aa e,<-q];rfl)))<|az (i:=amb)<|az ?_ (i:=agL (Mt b aj).1 XQ ((aht b m).small aj) ama)
 exact cu aZ
def gD(O:eP):j3:=⟨!O.nM,true⟩
def l8:j3:=⟨false,false⟩
def o4(O:eP):Int:=if O.low.has/\O.high.has then nx O.low.n O.high.n else-1
def gR(O:eP):di:=if O.low.has then⟨[O.low.n],[mi O.low (gD O)],[l8,gD O]⟩ else⟨[],[],[gD O]⟩
def jz(O:eP):di:=if 0<o4 O then vO
 else if o4 O=0 then⟨[O.low.n],[mi O.low (gD O)&&!O.high.op],[l8,l8]⟩
 else if O.high.has then⟨(gR O).C++[O.high.n],(gR O).on++[mi O.high (gD O)],(gR O).fW.set ((gR O).fW.length-1) (gD O)++[l8]⟩
 else gR O
def akk(O:eP):(gR O).C.length<=1/\(gR O).on.length=(gR O).C.length/\(gR O).fW.length=(gR O).C.length+1:=by unfold gR;split<;>simp
theorem XS{O:eP}(w:o4 O=0):O.low.has/\O.high.has/\gR O=⟨[O.low.n],[mi O.low (gD O)],[l8,gD O]⟩:=by unfold o4 at w;split at w;rename_i a;exact⟨a.1,a.2,by rw[gR,ab a.1]⟩;cases w
def aau(O:eP)(r:Small O.low.n)(t:Small O.high.n):aA 101 [qq O] (jK (jz O)):=by
 refine aX func101 [23,2010,38] λs A=>?_;refine og ?_;refine gK Int (λb=>⟨[(1,g 1),(2,g 2),(3,g 3),(4,g 4),(5,.func (.func 150) [] [g 4,g 3]),(6,.int .i64 b)],[(1,.cell 113<|qq O),(2,.cell 96<|V.zero xk.z),(3,.cell 232<|fK<|gD O),(4,.cell 96<|.agg [.aQ,.aQ,.d 13 0 1]),(13,.n 2 232 [fK (gD O)])],[]⟩) (λb=>b=o4 O) ?_ λb c=>?_
 .refine fM ?_;apply j<;>intro k
  .refine az ?_ (i:=G4 O.low.n O.high.n r t);exact c3 (nx O.low.n O.high.n) (by rw[o4,ab k])
  exact c3 (-1) (by rw[o4,aa k])
 apply j<;>intro e
 .refine az ?_ (i:=Xr);exact cu aZ (w:=by rw[cO,jz,<-c,ab e];rfl)
 refine gK Unit (λu=>⟨[(1,g 1),(2,g 2),(3,g 3),(4,g 4),(5,.func (.func 150) [] [g 4,g 3]),(7,.bool<|decide (b=0))],[(1,.cell 113<|qq O),(2,.cell 96<|V.zero xk.z),(3,.cell 232<|fK<|gD O),(4,.cell 96<|.agg [.d 1100 0 ((gR O).C.map bx).length,.d 1101 0 ((gR O).on.map aW).length,.d 13 0 ((gR O).fW.map fK).length]),(13,.n 2 232<|(gR O).fW.map fK),(1100,.n 3 70<|(gR O).C.map bx),(1101,.n 1 4<|(gR O).on.map aW)],[]⟩) (λ_=>True) ?_ λu D=>?_
 .refine ay.dI 1100 3 70 [] (some (4,0)) ?_;refine ay.dI 1101 1 4 [] (some (4,1)) ?_;refine cP ?_;apply j<;>intro l
  .have h:gR O=⟨[O.low.n],[mi O.low (gD O)],[l8,gD O]⟩:=by rw[gR,ab l]
   rw[h];refine bk [(6003,4),(6004,3),(5001,1100),(5002,1101),(5003,13)] ?_ (i:=aah O.low l8 (gD O) (gD O) [] [] [gD O] af af af af);exact c3 ()
  have h:gR O=⟨[],[],[gD O]⟩:=by rw[gR,aa l]
  rw[h];exact c3 ()
 have B:=akk O;apply j<;>intro a
 .have a:b=0:=by simpa using a
  obtain⟨x,y,q⟩:=XS<|c▸a;rw[q];refine dC ?_;refine a_ (λ_=>cz 0 rfl (p:=af)) ?_;refine a_ (λ_=>ft (aW<|mi O.low<|gD O) rfl) ?_;refine Ji (λo=>?_) λo=>?_
  all_goals refine a_ (λ_=>cz 0 rfl (p:=af)) ?_;refine uE ([mi O.low (gD O)&&!O.high.op].map aW) (aW<|mi O.low<|gD O) _ ?_ (aG:=by simp only[o];rfl);refine fm ?_;refine cz 1 ?_ (p:=af);refine fl ([l8,l8].map fK) (fK<|gD O) (fK l8) ?_;refine gB 1100 ?_;refine gB 1101 ?_;refine gB 13 ?_;exact cu aZ (w:=by rw[cO,jz,<-c,aa e,ab a];rfl)
 apply j<;>intro m
 .refine bk [(6003,4),(6004,3),(5001,1100),(5002,1101),(5003,13)] ?_ (i:=aah O.high (gD O) l8 (gD O) (gR O).C (gR O).on (gR O).fW v v v v);refine gB 1100 ?_;refine gB 1101 ?_;refine gB 13 ?_;exact cu aZ (w:=by rw[cO,jz,<-c,aa e,aa (by simpa using a),ab m];rfl)
 refine gB 1100 ?_;refine gB 1101 ?_;refine gB 13 ?_;exact cu aZ (w:=by rw[cO,jz,<-c,aa e,aa (by simpa using a),aa m];rfl)
def aiC{a:List Bool}(g:U<a.length)(e:a[U])(h:∀c,c<U->a[c]?≠some true):(if a.contains true then((a.idxOf true:Nat):Int) else-1)=(U:Int):=by
 have hm:a.contains true:=by rw[Kk];exact e▸fG g
 rw[ab hm];congr 1;have i:a.idxOf true<a.length:=rX b;rcases Cj (a.idxOf true) U with w|w|w;grind;exact w;have:=List.not_of_lt_findIdx w;simp_all
def aiE{a:List Bool}(c:∀b,b<a.length->a[b]?≠some true):(if a.contains true then((a.idxOf true:Nat):Int) else-1)=-1:=by grind[List.mem_iff_getElem?,List.getElem?_eq_some_iff]
def aiJ(c:List Bool)(m:c.length<=1000000):aA 210 [.f 1 (c.map aW),.bool true] (.int .i64 (if c.contains true then(c.idxOf true:Nat) else-1)):=by
 refine aX func210 [] λs k=>?_;refine eH c.length (λa=>∀e,e<a->c[e]?≠some true) (λa=>⟨[(0,_),(1,_),(7,_),(8,q a)],[],[]⟩) (λa p=>?_) (bo:=.r);apply j<;>intro l
 .let h:a<c.length:=v;refine aJ a (aW c[a]) ?_ (p:=b);refine If ?_;apply j<;>intro g
  .exact ae (w:=by rw[aiC h g.symm p.2];rfl)
  refine aL ?_;exact aB (a+1) ⟨v,λe i=>by grind⟩
 exact ae (w:=by rw[aiE λe i=>p.2 e v];rfl)
def afW(a:List Bool)(b:a.length<=1000000):aA 154 [.f 1 (a.map aW),.bool true] (.bool (a.contains true)):=by refine aX func154 [] λs c=>?_;refine az ?_ (i:=aiJ a b);exact ae (w:=by show V.bool _=_;congr 1;grind)
def u0(a:List ba):Prop:=(∀Y∈a,eb Y/\Small Y)/\∀b c(p:b<a.length)(e:c<a.length),b<c->aV a[b]<aV a[c]
def low(a:List ba)(Y:ba):Nat:=a.countP λb=>decide (aV b<aV Y)
def xh(a:List ba)(Y:ba):Bool:=a.any λb=>decide (aV b=aV Y)
def Wu{b:List ba}{Y:ba}(k:U<=b.length)(j:∀a(e:a<b.length),a<U->aV b[a]<aV Y)(h:∀a(e:a<b.length),U<=a->aV Y<=aV b[a]):low b Y=U:=by
 unfold low;let i:=(Ch U b).symm;let bu:(b.take U).countP (λc=>decide (aV c<aV Y))=(b.take U).length:=by rw[P8];intro c g;obtain⟨a,e,rfl⟩:=Qn.1 g;exact oD aM
 let cG:(b.drop U).countP (λc=>decide (aV c<aV Y))=0:=by rw[P9];intro c g;obtain⟨a,e,rfl⟩:=List.mem_drop_iff_getElem.1 g;have:=h (U+a) v v;simp;omega
 grind
def aid{b:List ba}{Y:ba}(e:u0 b)(j:U<=b.length)(h:∀a(c:a<b.length),a<U->aV b[a]<aV Y)(i:∀a(c:a<b.length),U<=a->aV Y<=aV b[a]):xh b Y=if w:U<b.length then decide (aV b[U]=aV Y) else false:=by unfold xh;rw[m4,wk];constructor;rintro⟨l,g,he⟩;obtain⟨a,c,rfl⟩:=kj.1 g;let k:U<=a:=KH λw=>aM;rcases gh U a with w|w;have:=e.2 U a v c w;grind;grind;grind
theorem JD{a:Int}:ex a<0↔a<0:=aqg
def aeu{c:List ba}(Y:ba)(m:u0 c)(C:eb Y)(E:Small Y)(O:c.length<=1000000):aA 251 [.f 3 (c.map bx),bx Y,.func (.func 152) [] []] (.tuple [q (low c Y),.bool (xh c Y)]):=by
 refine aX func251 [] λs L=>?_;refine cQ (Nat×Nat) (λk=>⟨[(0,_),(2,_),(4,g 4),(8,_),(9,q k.1),(10,q k.2)],[(4,_)],[]⟩) (λk=>k.1<=k.2/\k.2<=c.length/\(∀h(l:h<c.length),h<k.1->aV c[h]<aV Y)/\∀h(l:h<c.length),k.2<=h->aV Y<=aV c[h]) (λk=>k.2-k.1) (0,c.length) (λ⟨a,e⟩ ap=>?_) ⟨c1 _,a1 _,λh l w=>v,λh l w=>v⟩ ⟨⟨rfl,rfl,rfl,rfl,rfl,(by show some (V.int .i64 ((c.map bx).length:Int))=some (V.int .i64 (c.length:Int));simp),trivial⟩,⟨rfl,trivial⟩,rfl,rfl⟩;dsimp only at ap⊢;let⟨N,B,z,A⟩:=ap;apply j<;>intro M
 .let u:(a+e)/2<c.length:=v;let o:=m.1 _<|fG u;refine dK ((a+e:Nat):Int) ?_;refine k4 ((a+e:Nat):Int) ?_;refine Ob (((a+e)/2:Nat):Int) ?_ (w:=by show((a+e:Nat):Int).fdiv 2=_;grind);refine k4 (((a+e)/2:Nat):Int) ?_;refine c7 ?_;refine aJ ((a+e)/2) (bx c[(a+e)/2]) ?_ (p:=kB u);refine bT ?_ (i:=by have:=G4 c[(a+e)/2] Y o.2 E;rw[Bx o.1 C] at this;exact this);apply j<;>intro G
  .refine aL ?_;exact aB ((a+e)/2+1,e) ⟨v,v,λh l w=>by dsimp only at w;rcases gh h ((a+e)/2) with x|x;have:=m.2 h ((a+e)/2) l u x;grind[JD];grind[JD],λh l w=>b⟩ v .r
  exact aB (a,(a+e)/2) ⟨v,v,λh l w=>b,λh l w=>by dsimp only at w;let x:¬aV c[(a+e)/2]-aV Y<0:=λw=>G<|JD.2 w;rcases gh ((a+e)/2) h with y|y;have:=m.2 ((a+e)/2) h u l y;omega;grind⟩ v .r
 obtain rfl:a=e:=v;let K:=Wu B z A;let J:=aid m B z A;refine c7 ?_;apply b2;intro H;let t:a<c.length:=by simpa using H
 let o:=m.1 _<|fG t;let I:c.getD a default=c[a]:=by rw[cg,bw t];rfl
 refine gZ a (bx<|c.getD a default) ?_ (p:=cv t);refine bT ?_ (D:=.int .i64<|ex<|aV (c.getD a default)-aV Y) (i:=by have:=G4 c[a] Y o.2 E;rw[Bx o.1 C] at this;rw[I];trivial);exact rfl;exact ae (w:=by rw[K,J];refine cW (λF=>V.tuple [.int .i64 (a:Int),.bool F]) ?_;rw[aS];by_cases t:a<c.length;grind[zD];grind)
def ans(O:di)(Y:ba)(e:u0 O.C)(b:eb Y)(c:Small Y)(a:O.C.length<=1000000):aA 200 [jK O,bx Y] (.tuple [q (low O.C Y),.bool (xh O.C Y)]):=by refine aX func200 [] λs g=>?_;refine az ?_ (i:=aeu Y e b c a);exact ae
def di.ok(O:di):Prop:=u0 O.C/\(∀Y∈O.C,pv 30 Y)/\O.on.length=O.C.length/\O.fW.length=O.C.length+1/\O.C.length<=100000
def di.has(O:di)(Y:ba):Bool:=if xh O.C Y then O.on.getD (low O.C Y) false else(O.fW.getD (low O.C Y) default).has Y
def akl(a:List ba)(Y:ba):low a Y<=a.length:=z0
def akm{a:List ba}{Y:ba}(w:xh a Y):low a Y<a.length:=by let⟨e,c,he⟩:=wk.1 w;unfold low;refine Nat.lt_of_le_of_ne z0 λb=>?_;rw[P8] at b<;>grind
def Og(O:di)(Y:ba)(h:O.ok)(c:eb Y)(e:Small Y):aA 143 [jK O,bx Y] (.bool (O.has Y)):=by
 refine aX func143 [] λs k=>?_;let⟨g,t,r,l,m⟩:=h;let o:=akl O.C Y;refine az ?_ (i:=ans O Y g c e v);apply j<;>intro a
 .let q:=akm a;refine aJ (low O.C Y) (aW<|O.on.getD (low O.C Y) false) ?_ (p:=b);exact ae (w:=by rw[di.has,ab a];rfl)
 refine c7<|aJ (low O.C Y) (fK<|O.fW.getD (low O.C Y) default) ?_ (p:=cv v);refine bT ?_ (i:=Us (O.fW.getD (low O.C Y) default) Y);exact ae (w:=by rw[di.has,aa a];rfl)
def di.Fa(O:di)(a:Nat):Bool:=if a=0\/a=O.C.length then true else decide (aV (tj<|O.C.getD (a-1) default)<aV (O.C.getD a default))
def acV{Y:ba}(w:eb Y)(h:pv 30 Y):Small (tj Y):=by
 let⟨a,c⟩:=F8 w;let i:=QY w h;let e:(aV<|tj Y).natAbs<10^93:=by rw[c];unfold cI;let g:=Int.mul_ediv_add_emod (aV Y) bA;let j:=Int.emod_nonneg (aV Y) (b:=bA) aj;let k:=abS (aV Y) (b:=bA) aj;rw[Ki] at g;let l:(bA:Int)=1000000000000000000000000000000:=aj;let m:10^(2*30+30)=1000000000000000000000000000000000000000000000000000000000000000000000000000000000000000000:=aj;let o:10^93=1000000000000000000000000000000000000000000000000000000000000000000000000000000000000000000000:=aj;omega
 exact(aac a e).small aj
def di.tO(O:di)(a:Nat):Bool:=(O.fW.getD a default).o||(O.fW.getD a default).w&&O.Fa a
def di.empty(O:di):Bool:=if∃a,a<O.fW.length/\O.tO a then false else ! O.on.contains true
def Is{O:di}(bo:O.ok):aA 102 [jK O] (.bool O.empty):=by
 refine aX func102 [] λs B=>?_;let G:=bo.2.2.2.1;let N:=bo.2.2.2.2;let S:=bo.2.2.1;refine eH O.fW.length (λa=>∀b,b<a->O.tO b≠true) (λa=>⟨[(1,g 1),(6,_),(7,_),(8,q a)],[(1,_)],[]⟩) (λa p=>?_) (λb w=>v) .r;apply j<;>intro F
 .let m:a<O.fW.length:=v;refine aJ a (fK<|O.fW.getD a default) ?_ (p:=cv m);apply cs;intro I;apply b2;refineλJ=>bT (D:=.bool<|O.Fa a) (i:=(by
    let L:=v;refine aX func153 [] λz E=>?_;let⟨o,y,R,K,P⟩:=bo;let Q:(O.C.map bx).length=O.C.length:=aS _;refine c7<|dD ?_;apply cs;intro H;let e:O.C.getD (a-1) default=O.C[a-1]:=by rw[cg,bw v];rfl
    let u:O.C.getD a default=O.C[a]:=by rw[cg,bw v];rfl
    let c:=o.1 _<|fG<|show a-1<O.C.length by omega
    let h:=o.1 _<|fG<|show a<O.C.length by omega
    let k:=y _<|fG<|show a-1<O.C.length by omega
    let t:=F8 c.1;refine g1 ?_;refine gZ (a-1) (bx<|O.C.getD (a-1) default) ?_ (p:=cv v);refine bT (D:=bx<|tj<|O.C.getD (a-1) default) (i:=by rw[e];exact acU c.1 k)<|gZ a (bx<|O.C.getD a default) ?_ (p:=cv v);exact bT (D:=.int .i64<|ex<|aV (tj<|O.C.getD (a-1) default)-aV (O.C.getD a default)) (i:=by have:=G4 (tj O.C[a-1]) O.C[a] (acV c.1 k) h.2;rw[Bx t.1 h.1] at this;rw[e,u];trivial)<|rfl;exact ae (w:=by
     refine cW V.bool ?_;unfold di.Fa;by_cases A:a=0\/a=O.C.length
     (simp_all;omega)
     grind[JD])))<|rfl
  exact rfl;apply j<;>intro l
  .let x:O.tO a:=by unfold di.tO;simpa using l
   exact ae (w:=by rw[di.empty,ab ⟨a,m,x⟩];rfl)
  let T:O.tO a≠true:=by unfold di.tO;simpa using l
  refine aL ?_;exact aB (a+1) ⟨v,λb M=>by grind⟩ (bo:=.r)
 refine az ?_ (i:=afW O.on v);exact ae (w:=by rw[di.empty,aa];rfl;grind)
def amf(a b:Bool):aA 105 [.bool a,.bool b] (.bool (a||b)):=by refine aX func105 [] λs c=>?_;refine dD ?_;exact ae
def ah0(Y:Nat)(g:0<Y)(e:Y<=1000000):cK 211 [.aQ,.int .i64 (Y:Int)] [] (.d 22 0 0) [(22,.n 3 70 [])]:=by
 refine cX func211 [] λh s a=>?_;apply j<;>intro c
 .omega
 refine N8<|g1 ?_;refine ia Y ?_;apply j<;>intro b
 .refine N8<|alk<|ak5 Y 0 [] ?_;exact xD 0 0 0 0<|cH
 omega
def GY(a:List ba):V:=.f 3<|a.map bx
def Ua{a:List (List ba)}(w:U<a.length):(a.take (U+1)).flatten=(a.take U).flatten++a[U]:=by grind[List.take_succ_eq_append_getElem,List.flatten_append]
def T9(a:List (List ba))(b:Nat):(a.take b).flatten.length<=a.flatten.length:=by grind[List.take_append_drop,List.flatten_append,List.length_append]
def afS(a:List (List ba))(m:0<a.flatten.length)(bq:a.flatten.length<=1000000)(y:a.length<=1000000):cK 155 [.f 1 (a.map GY)] [] (.d 24 0 (a.flatten.map bx).length) [(24,.n 3 70 (a.flatten.map bx))]:=by
 refine cX func155 [] λD s t=>?_;refine dL a.length (λe=>⟨[(0,_),(3,q (a.take e).flatten.length),(9,_),(10,_),(11,q e)],[],[]⟩) (λe p=>?_) .r;apply j<;>intro u
 .let k:e<a.length:=v;let o:=T9 a<|e+1;let g:=Ua k;let h:=cW List.length g;rw[c_] at h;let z:(a[e].map bx).length=a[e].length:=aS _;refine aJ e (GY a[e]) ?_ (p:=kB k);refine dK (((a.take<|e+1).flatten.length:Nat):Int) ?_;apply j<;>intro w
  .omega
  refine aL ?_;exact aB (e+1) (bo:=.r)
 obtain rfl:e=a.length:=v;rw[gq];refine bk [(22,24)] ?_ (i:=ah0 a.flatten.length m bq);refine dL a.length (λc=>⟨[(25,_),(26,_),(27,q c),(6,.d 24 0 ((a.take c).flatten.map bx).length)],[(24,.n 3 70<|(a.take c).flatten.map bx)],[]⟩) (λc B=>?_) .r;apply j<;>intro x
 .let l:c<a.length:=v;let o:=T9 a<|c+1;let g:=Ua l;let h:=cW List.length g;let A:((a.take<|c+1).flatten.map bx).length=(a.take<|c+1).flatten.length:=aS _;refine aJ c (GY a[c]) ?_ (p:=kB l);refine eR ((a.take<|c+1).flatten.map bx) (fC:=.f rfl rfl rfl rfl (λM a6=>by obtain⟨C,_,rfl⟩:=b4.1 a6;rfl)) (aG:=b) (bq:=v)<|aL ?_;exact aB (c+1) (bo:=.r)
 obtain rfl:c=a.length:=v;rw[gq];exact cH
def T_{a:List (List ba)}(w:a.flatten=[])(b:U<a.length):a[U]=[]:=by grind[List.flatten_eq_nil_iff,List.getElem_mem]
def afR(a:List (List ba))(e:a.flatten=[])(z:a.length<=1000000):aA 155 [.f 1 (a.map GY)] .aQ:=by
 refine aX func155 [] λs l=>?_;refine dL a.length (λb=>⟨[(0,_),(3,.int .i64 0),(9,_),(10,_),(11,q b)],[],[]⟩) (λb p=>?_) .r;apply j<;>intro o
 .let g:b<a.length:=v;refine aJ b (.f 3 []) ?_ (p:=by rw[ch,bw g,T_ e g];rfl);refine dK 0 ?_ (w:=rfl);apply j<;>intro u
  .omega
  refine aL ?_;exact aB (b+1) (bo:=.r)
 refine az (i:=(by
    refine aX func211 [] λk m=>?_;apply j<;>intro y
    .omega
    refine N8<|g1 ?_;refine ia 0 ?_;apply j<;>intro t
    .omega
    exact ae))<|dL a.length (λc=>⟨[(6,.aQ),(25,_),(26,_),(27,q c)],[],[]⟩) (λc A=>?_) .r
 apply j<;>intro x
 .let h:c<a.length:=v;refine aJ c (.f 3 []) ?_ (p:=by rw[ch,bw h,T_ e h];rfl);refine ak3<|aL ?_;exact aB (c+1) (bo:=.r)
 exact ae
def dV(a:List ba):Nat->List ba|0=>[]|Y+1=>if Y≠0/\a.getD Y default=a.getD (Y-1) default then dV a Y else dV a Y++[a.getD Y default]
theorem SN(a:List ba)(Y:Nat):(dV a (Y+1)).length<=(dV a Y).length+1:=by grind[dV]
def SL(a:List ba):∀Y,(dV a Y).length<=Y|0=>by simp[dV]|Y+1=>by have:=SL a Y;grind[SN]
def SM(b:List ba)(F:Nat):∀a,(dV b (F+a)).length<=(dV b F).length+a|0=>af|a+1=>by have:=SM b F a;grind[SN,Nat.add_assoc]
def GB{b:List ba}:∀(F:Nat),F<=b.length->(∀a,a<F->a≠0->b.getD a default≠b.getD (a-1) default)->dV b F=b.take F|0,_,_=>ax|F+1,g,w=>by rw[dV,aa λc=>w F v c.1 c.2,GB F v λa e=>w a v,z9 v,cg,bw _];rfl
def akS{s a:List ba}{b:ba}(w:s.length<a.length):(s++a.drop s.length).set s.length b=s++[b]++a.drop (s++[b]).length:=by rw[yc _ _ v,ms,iO w,Fv,ge,c_];rfl
def akR{s a:List ba}(w:s.length<=a.length):(s++a.drop s.length).length=a.length:=b
def xf{a:List ba}(w:U<a.length):a.getD U default=a[U]:=b
def BM(a c:ba):uT a4 70 [.bool a.neg,.str a.a9,.int .i64 a.exp] [.bool c.neg,.str c.a9,.int .i64 c.exp] (decide (a=c)):=by have w:=YX a.neg a.a9 c.neg c.a9 (t:=a.exp) (qk:=c.exp);have h:decide (a.neg=c.neg/\a.a9=c.a9/\a.exp=c.exp)=decide (a=c):=mu.2 ⟨λ⟨e,g,t⟩=>by cases a<;>simp_all,λw=>b⟩;simp_all
def afM(a:List ba)(u:Nat)(Q:a.length<=1000000)(D:u=(a.map bx).length):cK 157 [.d 5001 0 u] [(5001,.n 3 70 (a.map bx))] (.d 5001 0 ((dV a a.length).map bx).length) [(5001,.n 3 70 ((dV a a.length).map bx))]:=by
 subst D;refine cX func157 [] λW s L=>?_;have R:(a.map bx).length=a.length:=aS _;apply j<;>intro O
 .have k:dV a a.length=a:=by rw[GB a.length (a1 _) λg l i=>v,gq]
  rw[k];exact cH
 refine cQ Nat (λF=>⟨[(0,.d 5001 0 (a.map bx).length),(3,q F)],[(5001,.n 3 70<|a.map bx)],[]⟩) (λF=>1<=F/\F<=a.length/\∀g,g<F->g≠0->a.getD g default≠a.getD (g-1) default) (λF=>a.length-F) 1 (λF ⟨P,A,m⟩=>?_) ⟨v,v,λg l i=>v⟩;apply j<;>intro M
 .have B:F<a.length:=v;refine c7 ?_;refine cz F ?_;refine ft (bx<|a.getD F default) ?_ (p:=cv B);refine g1 ?_;refine cz (F-1) ?_;refine ft (bx<|a.getD (F-1) default) ?_ (p:=cv v);refine Ic (BM (a.getD F default)<|a.getD (F-1) default) ?_;apply j<;>intro w
  .have H:dV a (F+1)=dV a F:=by rw[dV,ab ⟨v,w⟩]
   have y:dV a F=a.take F:=GB F A m;have z:(dV a F).length=F:=by rw[y,m7];omega
   refine xD F a.length F (a.length-F) ?_;refine cQ (Nat×Nat×List V) (λe=>⟨[(0,.d 5001 0 (a.map bx).length),(3,q e.2.1),(4,.d 5001 F<|a.length-F),(5,q e.1)],[(5001,.n 3 70 e.2.2)],[]⟩) (λe=>1<=e.1/\F+e.1<=a.length/\e.2.1=(dV a<|F+e.1).length/\e.2.2=(dV a (F+e.1)++a.drop (dV a<|F+e.1).length).map bx) (λe=>a.length-e.1) (1,F,a.map bx) (λ⟨c,o,U⟩ ap=>?_) ⟨a1 _,v,b,b⟩;dsimp only at ap⊢;obtain⟨S,T,rfl,rfl⟩:=ap;have r:=SM a (F+1)<|c-1;rw[H,z,show F+1+(c-1)=F+c by omega] at r;have C:((dV a (F+c)++a.drop (dV a (F+c)).length).map bx).length=a.length:=by rw[aS,akR v]
   apply j<;>intro N
   .have t:F+c<a.length:=v;have get:∀h,(dV a (F+c)).length<=h->h<a.length->((dV a (F+c)++a.drop (dV a (F+c)).length).map bx)[h]?=some (bx (a.getD h default)):=λh J K=>by simp_all
    refine c7 ?_;refine N9 c ?_;refine ft (bx<|a.getD (F+c) default) ?_ (p:=get _ v t);refine g1 ?_;refine N9 (c-1) ?_;refine ft (bx<|a.getD (F+(c-1)) default) ?_ (p:=get _ v v);refine N6 (BM (a.getD (F+c) default)<|a.getD (F+(c-1)) default) ?_;apply j<;>intro x
    .have E:dV a (F+c+1)=dV a (F+c)++[a.getD (F+c) default]:=by rw[dV,aa λI=>x (by rw[show F+(c-1)=F+c-1 by omega]<;>grind)]
     refine N9 c ?_;refine ft (bx<|a.getD (F+c) default) ?_ (p:=get _ v t);refine cz (dV a<|F+c).length ?_;refine fl ((dV a (F+c)++[a.getD (F+c) default]++a.drop (dV a (F+c)++[a.getD (F+c) default]).length).map bx) (bx<|a.getD (dV a<|F+c).length default) (bx<|a.getD (F+c) default) ?_ (p:=get _ (a1 _) v) (aG:=by rw[<-gN,akS v]);refine aL ?_;refine aL ?_;exact aB (c+1,(dV a<|F+c).length+1,(dV a (F+c)++[a.getD (F+c) default]++a.drop (dV a (F+c)++[a.getD (F+c) default]).length).map bx) ⟨v,v,aM,aM⟩ v
    have E:dV a (F+c+1)=dV a (F+c):=by rw[dV,ab ⟨v,by rw[show F+c-1=F+(c-1) by omega]<;>simp_all⟩]
    refine aL ?_;exact aB (c+1,(dV a<|F+c).length,(dV a (F+c)++a.drop (dV a<|F+c).length).map bx) ⟨v,v,aM,aM⟩ v
   obtain G:F+c=a.length:=v;rw[G] at r C⊢;refine xD (dV a a.length).length a.length (dV a a.length).length (a.length-(dV a a.length).length) ?_;refine W3 ((dV a a.length).map bx) ?_ (aG:=af);refine xD 0 (dV a a.length).length 0 ((dV a a.length).map bx).length ?_ (MN:=af);exact cH
  refine aL ?_;exact aB (F+1) ⟨v,v,λg l i=>by grind⟩
 have k:dV a a.length=a:=by rw[GB a.length (a1 _) λg l i=>m g v i,gq]
 rw[k];exact cH
structure gr where
 name:List UInt8
 shape:Int
 Bk:Bool
 deriving Inhabited
def cS(a:gr):V:=.agg [.str a.name,.int .i64 a.shape,.bool a.Bk]
structure dH where
 null:Bool
 gW:Int
 cN:List eP
 h0:Bool
 d_:List UInt8
 fD:Bool
 du:List Int
 item:Int
 min:Int
 max:Int
 gx:Bool
 bD:List gr
 rest:Int
def hD(O:dH):V:=.agg [.bool O.null,.int .i64 O.gW,.f 11<|O.cN.map qq,.bool O.h0,.str O.d_,.bool O.fD,.f 1<|O.du.map eB,.int .i64 O.item,.int .i64 O.min,.int .i64 O.max,.bool O.gx,.f 3<|O.bD.map cS,.int .i64 O.rest]
def lo(a:jE):Int:=if a.has then jc a.n else if a.op\/a.n≠⟨false,[],0⟩ then 2 else 0
def hI(Y F:Int):Bool:=decide (F<0)||decide (Y<=F)
def jt(O:dH)(Y:Int):Int:=if O.fD=false then(if((0<O.du.length\/O.item≠0)\/O.min≠0)\/O.max≠0 then 2 else 0)
 else if 10<O.du.length then 3 else if O.du.any (hI Y) then 9
 else if((O.item≠-1/\hI Y O.item\/O.min<0)\/1000<O.min)\/O.max≠-1/\(O.max<O.min\/1000<O.max) then 9 else 0
def aem(a:jE):((a.op=true\/¬a.n.a9=[])\/a.n.neg)\/¬a.n.exp=0↔a.op\/a.n≠⟨false,[],0⟩:=by let⟨w,P,⟨Y,M,b⟩⟩:=a<;>grind
def xn(b:Int->Bool):List Int->Nat->Int|[],_=>-1|c::e,a=>if b c then(a:Nat) else xn b e (a+1)
def U7{L:Int->Bool}:∀(b:List Int)(a:Nat),b.any L=decide (0<=xn L b a)|[],a=>rfl|c::b,a=>by rw[uH,xn];by_cases w:L c;simp_all;rw[aa w,U7 (L:=L) b<|a+1];simp[w]
def ae6(a:jE)(c:a.n.a9.length<=1048576):aA 100 [AJ a] (.int .i64 (lo a)):=by
 refine aX func100 [] λs e=>?_;apply j<;>intro b
 .refine az ?_ (i:=Sj a.n c);exact ae (w:=by rw[lo,ab b];rfl)
 apply cs;refineλh=>N6 (BM a.n ⟨false,[],0⟩)<|rfl;apply j<;>intro g
 .exact ae (w:=by rw[lo,aa b,ab v];rfl)
 exact ae (w:=by rw[lo,aa b,aa v];rfl)
def R2(a:jE)(g:a.n.a9.length<=1048576):aA 50 [AJ a] (.int .i64 (lo a)):=by
 refine aX func50 [] λs k=>?_;apply j<;>intro c
 .refine cs (λ_=>rfl)<|cs (λ_=>rfl)<|dD ?_;apply j<;>intro h
  .exact ae (w:=by rw[lo,aa c,ab aM];rfl)
  exact ae (w:=by rw[lo,aa c,aa λe=>h<|(aem a).2 e];rfl)
 refine az ?_ (i:=aow a.n g);exact ae (w:=by rw[lo,ab b];rfl)
def X4{F:Int}(Y:Int):aA 109 [.int .i64 F,.ref 1 [.int .i64 Y] 0 0] (.bool (hI Y F)):=by refine aX func109 [] λs a=>?_;exact cs (λ_=>rfl)<|ae
def aiI(c:List Int)(Y:Int)(l:c.length<=1048576):aA 174 [.f 1 (c.map eB),.func (.func 109) [] [.ref 1 [.int .i64 Y] 0 0]] (.int .i64 (xn (hI Y) c 0)):=by
 refine aX func174 [] λs g=>?_;refine eH c.length (λa=>xn (hI Y) c 0=xn (hI Y) (c.drop a) a) (λa=>⟨[(0,_),(1,_),(7,_),(8,.int _ (a:Nat))],[],[]⟩) (λa p=>?_) (bo:=.r);apply j<;>intro k
 .let e:a<c.length:=v;refine aJ a (eB<|c.getD a default) ?_ (p:=b);refine az ?_ (i:=X4 Y);apply j<;>intro h
  .exact ae (w:=by rw[p.2,iO e,xn,ab b];rfl)
  refine aL ?_;exact aB (a+1) ⟨v,by rw[p.2,iO e,xn,aa b]⟩
 exact ae (w:=by rw[p.2,iv v];rfl)
def afV(a:List Int)(Y:Int)(b:a.length<=1048576):aA 110 [.f 1 (a.map eB),.func (.func 109) [] [.ref 1 [.int .i64 Y] 0 0]] (.bool (a.any (hI Y))):=by refine aX func110 [] λs c=>?_;refine az ?_ (i:=aiI a Y b);exact ae (w:=by rw[U7 a 0];rfl)
def Si(O:dH)(Y:Int)(c:O.du.length<=1048576):aA 67 [hD O,.int .i64 Y] (.int .i64 (jt O Y)):=by
 refine aX func67 [] λs e=>?_;apply j<;>intro l
 .refine cs (λ_=>rfl)<|cs (λ_=>rfl)<|dD ?_;apply j<;>intro g
  .exact ae (w:=by rw[jt,ab b,ab v];rfl)
  exact ae (w:=by rw[jt,ab b,aa v];rfl)
 apply j<;>intro h
 .exact ae (w:=by rw[jt,aa b,ab v];rfl)
 refine CJ ?_ (i:=afV O.du Y c);apply j<;>intro a
 .exact ae (w:=by rw[jt,aa b,aa v,ab a];rfl)
 apply b2;refineλm=>hR (i:=X4 (F:=O.item) Y)<|rfl;refine cs (λ_=>rfl)<|dD ?_;apply cs;intro o;apply b2;refineλp=>cs (λ_=>rfl)<|rfl;exact rfl;apply j<;>intro k
 .exact ae (w:=by rw[jt,aa b,aa v,aa a,ab v];rfl)
 exact ae (w:=by rw[jt,aa b,aa v,aa a,aa v];rfl)
def fB(a:Nat->Int):Nat->Int|0=>0|F+1=>if fB a F≠0 then fB a F else a F
def pE{a:Nat->Int}{F:Nat}(w:fB a F=0)(b:a F=0):fB a (F+1)=0:=by(simp[fB,aa];omega)
def ss{b:Nat->Int}{a:Nat}(w:fB b a=0)(c:b a≠0):∀Y,a<Y->fB b Y=b a|0,e=>v|Y+1,e=>by rw[fB];rcases gh a Y with F|F;have:=ss w c Y F;omega;grind
def ka(b:List gr)(Y c:Int)(a:Nat):Int:=if pe (b.getD a default).name≠0 then pe (b.getD a default).name
 else if(0:Int)<(a:Nat)/\(Op.bytesLess (b.getD a default).name (b.getD (a-1) default).name=true\/(b.getD a default).name=(b.getD (a-1) default).name) then 10
 else if(b.getD a default).shape<c\/Y<=(b.getD a default).shape then 9
 else if(b.getD a default).shape=-1/\(b.getD a default).Bk then 2 else 0
def nm(a:List gr)(Y b:Int):Int:=if 30<a.length then 3 else fB (ka a Y b) a.length
def xa{a:List gr}{Y b c:Int}(e:¬30<a.length)(w:fB (ka a Y b) U=0)(g:U<a.length)(h:ka a Y b U=c)(i:c≠0):nm a Y b=c:=by rw[nm,aa e,ss w v _ g,h]
def Sh{N:List gr}(Y:Int){F:Int}{h:Bool}(m:h/\F=-1\/h=false/\F=0)(z:N.length<=1000000):aA 46 [.f 3 (N.map cS),.int .i64 Y,.bool h] (.int .i64 (nm N Y F)):=by
 refine aX func46 [] λs l=>?_;apply j<;>intro o
 .exact ae (w:=by rw[nm,ab v];rfl)
 let e:¬30<N.length:=v;refine eH N.length (λa=>fB (ka N Y F) a=0) (λa=>⟨[(0,_),(1,_),(2,_),(13,_),(14,_),(15,q a)],[],[]⟩) (λa p=>?_) rfl .r;apply j<;>intro t
 .let c:a<N.length:=v;refine aJ a (cS<|N.getD a default) ?_ (p:=cv c);refine az ?_ (i:=LP (N.getD a default).name);apply j<;>intro b
  .exact ae (w:=by rw[xa e p.2 c (by rw[ka,ab b]) b];rfl)
  refine c7 ?_;apply b2;refineλx=>g1 ?_;refine gZ (a-1) (cS<|N.getD (a-1) default) ?_ (p:=cv v);exact rfl;apply j<;>intro g
  .exact ae (w:=by rw[xa e p.2 c (by rw[ka,aa b,ab g]) aj];rfl)
  refine dD ?_;apply cs;refineλy=>b2 (λ_=>rfl)<|rfl;apply j<;>intro u
  .exact ae (w:=by rw[xa e p.2 c (by rw[ka,aa b,aa g,ab aM]) aj];rfl)
  refine fM ?_;apply j<;>intro k
  .exact ae (w:=by rw[xa e p.2 c (by rw[ka,aa b,aa g,aa aM,ab k]) aj];rfl)
  refine aL ?_;exact aB (a+1) ⟨v,pE p.2 (by rw[ka,aa b,aa g,aa aM,aa k])⟩ (bo:=.r)
 exact ae (w:=by rw[nm,aa e,show N.length=a by omega,p.2];rfl)
def ae7{a:List gr}(Y:Int)(b:a.length<=1000000):aA 46 [.f 3 (a.map cS),.int .i64 Y,.bool true] (.int .i64 (nm a Y (-1))):=Sh Y (.inl ⟨rfl,rfl⟩) b
structure dS where
 text:List UInt8
 ht:Bool
 shape:Int
 deriving Inhabited
structure wK where
 status:Int
 shape:Int
 deriving Inhabited
structure eE where
 name:List UInt8
 method:List UInt8
 path:List dS
 query:List gr
 body:Int
 j5:List wK
 deriving Inhabited
def dU(a:dS):V:=.agg [.str a.text,.bool a.ht,.int .i64 a.shape]
def sn(D:wK):V:=.agg [.int .i64 D.status,.int .i64 D.shape]
def dn(P:eE):V:=.agg [.str P.name,.str P.method,.f 3<|P.path.map dU,.f 3<|P.query.map cS,.int .i64 P.body,.f 2<|P.j5.map sn]
def pA:List dS->List dS->Bool|e::b,a::c=>if e.ht≠a.ht then a.ht else pA b c|_,_=>false
def Gw{b a:List dS}(c:U<b.length)(e:U<a.length):pA (b.drop U) (a.drop U)=if(b.getD U default).ht≠(a.getD U default).ht then(a.getD U default).ht else pA (b.drop (U+1)) (a.drop (U+1)):=by rw[iO c,iO e,pA];simp[cg,bw c,bw e]
def Su{a b:List dS}(c:a.length<=U):pA (a.drop U) (b.drop U)=false:=by rw[iv c];rfl
def amA(a c:eE)(k:a.path.length=c.path.length)(l:a.path.length<=1000000):aA 18 [dn a,dn c] (.bool (pA a.path c.path)):=by
 refine aX func18 [] λs i=>?_;refine eH a.path.length (λb=>pA a.path c.path=pA (a.path.drop b) (c.path.drop b)) (λb=>⟨[(2,g 2),(3,g 3),(4,.bool false),(9,.f 3<|a.path.map dU),(10,q (a.path.map dU).length),(11,q b)],[(2,.cell 53<|dn a),(3,.cell 53<|dn c)],[]⟩) (λb p=>?_) rfl .r;apply j<;>intro h
 .refine aJ b (dU<|a.path.getD b default) ?_ (p:=cv v);refine aJ b (dU<|c.path.getD b default) ?_ (p:=cv v);refine N7 ?_;apply j<;>intro e;exact ae (w:=by rw[p.2,Gw v v,ab e];rfl);refine aL ?_;exact aB (b+1) ⟨v,by rw[p.2,Gw v v,aa e]⟩ (bo:=.r)
 exact ae (w:=by rw[p.2,Su v];rfl)
def aog(b c:eE)(k:b.path.length=c.path.length)(l:b.path.length<=1000000):aA 21 [dn b,dn c] (.bool (pA b.path c.path)):=by
 refine aX func21 [] λs i=>?_;refine eH b.path.length (λa=>pA b.path c.path=pA (b.path.drop a) (c.path.drop a)) (λa=>⟨[(2,g 2),(3,g 3),(4,.bool false),(5,q a)],[(2,.cell 53<|dn b),(3,.cell 53<|dn c)],[]⟩) (λa p=>?_) rfl .r;apply j<;>intro h
 .refine c7 ?_;refine aJ a (dU<|b.path.getD a default) ?_ (p:=cv v);refine aJ a (dU<|c.path.getD a default) ?_ (p:=cv v);refine N7 ?_;apply j<;>intro e;refine aJ a (dU<|b.path.getD a default) ?_ (p:=cv v);exact ae (w:=by rw[p.2,Gw v v,ab e];show V.bool (!(b.path.getD a default).ht)=V.bool (c.path.getD a default).ht;revert e;cases(b.path.getD a default).ht<;>cases(c.path.getD a default).ht<;>simp);refine aL ?_;exact aB (a+1) ⟨v,by rw[p.2,Gw v v,aa e]⟩ (bo:=.r)
 exact ae (w:=by rw[p.2,Su v];rfl)
def sP(b:List wK)(Y:Int)(a:Nat):Int:=if(((b.getD a default).status<100\/599<(b.getD a default).status)\/(b.getD a default).shape< -1)\/Y<=(b.getD a default).shape then 9
 else if(0:Int)<(a:Nat)/\(b.getD a default).status<=(b.getD (a-1) default).status then 10 else 0
def px(a:List wK)(Y:Int):Int:=if a.length=0 then 13 else if 10<a.length then 3 else fB (sP a Y) a.length
def Gc{a:List wK}{Y b:Int}(e:¬a.length=0)(g:¬10<a.length)(w:fB (sP a Y) U=0)(h:U<a.length)(c:sP a Y U=b)(i:b≠0):px a Y=b:=by rw[px,aa e,aa g,ss w (by rw[c];exact i) _ h,c]
def amz(a:List wK)(Y:Int)(u:a.length<=1000000):aA 47 [.f 2 (a.map sn),.int .i64 Y] (.int .i64 (px a Y)):=by
 refine aX func47 [] λs o=>?_;apply j<;>intro k;exact ae (w:=by rw[px,ab v];rfl);apply j<;>intro l;exact ae (w:=by rw[px,aa v,ab v];rfl);have g:¬a.length=0:=v;have h:¬10<a.length:=v;refine eH a.length (λb=>fB (sP a Y) b=0) (λb=>⟨[(0,.f 2<|a.map sn),(1,.int .i64 Y),(4,.int .i64 0),(15,.f 2<|a.map sn),(16,q (a.map sn).length),(17,q b)],[],[]⟩) (λb p=>?_) rfl .r;apply j<;>intro m
 .have e:b<a.length:=v;refine aJ b (sn<|a.getD b default) ?_ (p:=cv e);apply cs;intro _;exact rfl;apply cs;intro _;exact rfl;apply cs;intro _;exact rfl;apply j<;>intro c;exact ae (w:=by rw[Gc g h p.2 e (by rw[sP,ab c]) aj];rfl);refine c7 ?_;apply b2;intro t;refine g1 ?_;refine aJ (b-1) (sn<|a.getD (b-1) default) ?_ (p:=cv v);exact rfl;apply j<;>intro i;exact ae (w:=by rw[Gc g h p.2 e (by rw[sP,aa c,ab i]) aj];rfl);refine aL ?_;exact aB (b+1) ⟨v,pE p.2 (by rw[sP,aa c,aa i])⟩ (bo:=.r)
 exact ae (w:=by rw[px,aa g,aa h,show a.length=b by omega,p.2];rfl)
def tq(a b:dS):Bool:=decide (a.ht=b.ht)&&(a.ht||decide (a.text=b.text))
def rx:List dS->List dS->Bool|c::a,e::b=>tq c e&&rx a b|_,_=>true
def o6(a b:eE):Bool:=decide (a.method=b.method)&&decide (a.path.length=b.path.length)&&rx a.path b.path
def HX{a b:List dS}(c:U<a.length)(e:U<b.length):rx (a.drop U) (b.drop U)=(tq (a.getD U default) (b.getD U default)&&rx (a.drop (U+1)) (b.drop (U+1))):=by rw[iO c,iO e,rx];simp[cg,bw c,bw e]
def Wc{a b:List dS}(c:a.length<=U):rx (a.drop U) (b.drop U):=by rw[iv c];rfl
def adu{a b:dS}(w:¬a.ht=b.ht\/¬a.ht/\¬a.text=b.text):tq a b=false:=by unfold tq;rcases w with w|⟨w,F⟩;simp[w];simp[w,F]
def adw{a c:dS}(w:¬(¬a.ht=c.ht\/¬a.ht/\¬a.text=c.text)):tq a c:=by unfold tq;have⟨b,g⟩:=Cp.1 w;have b:=Kh.1 b;by_cases F:a.ht;simp[<-b,F];have h:=Kh.1 λe=>g ⟨F,e⟩;simp[b,h]
def anr{a b:eE}(w:¬a.method=b.method\/¬(a.path.length:Int)=(b.path.length:Int)):o6 a b=false:=by rw[o6];rcases w with w|w;simp[w];have:¬a.path.length=b.path.length:=v;simp[this]
def Yt{a b:eE}(w:¬(¬a.method=b.method\/¬(a.path.length:Int)=(b.path.length:Int))):o6 a b=rx a.path b.path:=by have⟨c,e⟩:=Cp.1 w;have c:=Kh.1 c;have e:a.path.length=b.path.length:=v;rw[o6];simp[c,e]
def aoq(b c:eE)(u:b.path.length<=1000000)(t:c.path.length<=1000000):aA 31 [dn b,dn c] (.bool (o6 b c)):=by
 refine aX func31 [] λs k=>?_;apply cs;intro _;exact rfl;apply j<;>intro e;exact ae (w:=by rw[anr e];rfl);have o:b.path.length=c.path.length:=by have:=(Cp.1 e).2;omega
 refine eH b.path.length (λa=>rx b.path c.path=rx (b.path.drop a) (c.path.drop a)) (λa=>⟨[(2,g 2),(3,g 3),(4,.bool false),(5,q a)],[(2,.cell 53<|dn b),(3,.cell 53<|dn c)],[]⟩) (λa p=>?_) rfl .r;apply j<;>intro i
 .refine c7 ?_;refine aJ a (dU<|b.path.getD a default) ?_ (p:=cv v);refine aJ a (dU<|c.path.getD a default) ?_ (p:=cv v);refine N7 ?_;apply cs;intro l;refine aJ a (dU<|b.path.getD a default) ?_ (p:=cv v);apply b2;intro m;refine aJ a (dU<|b.path.getD a default) ?_ (p:=cv v);refine aJ a (dU<|c.path.getD a default) ?_ (p:=cv v);exact rfl;exact rfl;apply j<;>intro h;exact ae (w:=by rw[Yt e,p.2,HX v v,adu h];rfl);refine aL ?_;exact aB (a+1) ⟨v,by rw[p.2,HX v v];rw[adw h];rfl⟩ (bo:=.r)
 exact ae (w:=by rw[Yt e,p.2,Wc v];rfl)
def qY(a b:dS):Bool:=a.ht&&b.ht&&decide (a.text=b.text)
def mK{c:Type}(b:c->Bool):List c->Nat->Int|[],_=>-1|e::g,a=>if b e then(a:Nat) else mK b g (a+1)
def HE{c:Type}{L:c->Bool}:∀(b:List c)(a:Nat),b.any L=decide (0<=mK L b a)|[],a=>rfl|e::b,a=>by rw[uH,mK];by_cases w:L e;simp_all;rw[aa w,HE (L:=L) b<|a+1];simp[w]
def apU(a b:dS):aA 74 [dU b,.ref 3 [dU a] 0 0] (.bool (qY a b)):=by refine aX func74 [] λs c=>?_;apply b2;intro _;exact rfl;apply b2;intro _;exact rfl;exact ae (w:=by simp[cO,eg,qY])
def aiA(c:List dS)(e:dS)(m:c.length<=1048576):aA 115 [.f 3 (c.map dU),.func (.func 74) [] [.ref 3 [dU e] 0 0]] (.int .i64 (mK (qY e) c 0)):=by
 refine aX func115 [] λs h=>?_;refine eH c.length (λa=>mK (qY e) c 0=mK (qY e) (c.drop a) a) (λa=>⟨[(0,_),(1,_),(7,_),(8,.int _ (a:Nat))],[],[]⟩) (λa p=>?_) (bo:=.r);apply j<;>intro l
 .have g:a<c.length:=v;refine aJ a (dU<|c.getD a default) ?_ (p:=cv g);refine az ?_ (i:=apU e<|c.getD a default);apply j<;>intro k
  .exact ae (w:=by rw[p.2,iO g,mK,ab b];rfl)
  refine aL ?_;exact aB (a+1) ⟨v,by rw[p.2,iO g,mK,aa b]⟩
 exact ae (w:=by rw[p.2,iv v];rfl)
def adF(a:List dS)(b:dS)(c:a.length<=1048576):aA 75 [.f 3 (a.map dU),.func (.func 74) [] [.ref 3 [dU b] 0 0]] (.bool (a.any (qY b))):=by refine aX func75 [] λs e=>?_;refine az ?_ (i:=aiA a b c);exact ae (w:=by rw[HE a 0];rfl)
def aj5(a b:dS):aA 78 [dU a,dU b] (.bool (tq a b)):=by refine aX func78 [] λs c=>?_;refine If ?_;apply b2;intro _;apply cs;intro _;exact rfl;exact rfl;exact ae (w:=by simp[cO,eg,tq])
def ag7(a o:List dS)(k:a.length<=1048576)(l:o.length<=1048576):aA 77 [.f 3 (a.map dU),.f 3 (o.map dU),.func (.func 78) [] []] (.bool (decide (a.length=o.length)&&rx a o)):=by
 refine aX func77 [] λs h=>?_;apply j<;>intro e;exact ae (w:=by rw[show decide (a.length=o.length)=false by simp;omega];rfl);have he:a.length=o.length:=v;rw[show decide (a.length=o.length)=true by simp[he],s2];refine eH a.length (λb=>rx a o=rx (a.drop b) (o.drop b)) (λb=>⟨[(0,.f 3<|a.map dU),(1,.f 3<|o.map dU),(2,.func (.func 78) [] []),(6,.bool false),(15,.f 3<|a.map dU),(16,q (a.map dU).length),(17,q b)],[],[]⟩) (λb p=>?_) rfl .r;apply j<;>intro g
 .refine aJ b (dU<|a.getD b default) ?_ (p:=cv v);refine aJ b (dU<|o.getD b default) ?_ (p:=cv v);refine az ?_ (i:=aj5 (a.getD b default)<|o.getD b default);apply j<;>intro c;exact ae (w:=by rw[p.2,HX v v];rw[show tq (a.getD b default) (o.getD b default)=false by simpa using c];rfl);refine aL ?_;exact aB (b+1) ⟨v,by rw[p.2,HX v v];rw[show tq (a.getD b default) (o.getD b default)=true by simpa using c];rfl⟩ (bo:=.r)
 exact ae (w:=by rw[p.2,Wc v];rfl)
def amK(a b:eE)(g:a.path.length<=1000000)(e:b.path.length<=1000000):aA 49 [dn a,dn b] (.bool (o6 a b)):=by refine aX func49 [] λs c=>?_;apply b2;intro _;refine bT ?_ (i:=ag7 a.path b.path v v);exact rfl;exact ae (w:=by simp[cO,eg,o6,Bool.and_assoc])
def v4(P a:eE):Bool:=decide (a.name=P.name)
def alr(P a:eE):aA 44 [dn a,.ref 6 [dn P] 0 0] (.bool (v4 P a)):=by refine aX func44 [] λs b=>?_;exact ae (w:=by simp[cO,v4])
def anq(P a:eE)(c:a.path.length<=1000000)(b:P.path.length<=1000000):aA 48 [dn a,.ref 6 [dn P] 0 0] (.bool (o6 a P)):=by refine aX func48 [] λs e=>?_;refine az ?_ (i:=amK a P c b);exact ae
def aiz(h:FuncId)(g:eE->Bool)(P:eE)(c:List eE)(t:c.length<=1048576)(a0:iR a4 h)(l:∀k∈c,aA h [dn k,.ref 6 [dn P] 0 0] (.bool (g k))):aA 73 [.f 6 (c.map dn),.func (.func h) [] [.ref 6 [dn P] 0 0]] (.int .i64 (mK g c 0)):=by
 refine aX func73 [] λs m=>?_;refine eH c.length (λa=>mK g c 0=mK g (c.drop a) a) (λa=>⟨[(0,_),(1,_),(7,_),(8,.int _ (a:Nat))],[],[]⟩) (λa p=>?_) (bo:=.r);apply j<;>intro q
 .have e:a<c.length:=v;refine aJ a (dn<|c.getD a default) ?_ (p:=cv e);refine az ?_ (i:=l (c.getD a default) (by rw[cg,bw e];exact fG e)) (a0:=a0);apply j<;>intro o
  .exact ae (w:=by rw[p.2,iO e,mK,ab b];rfl)
  refine aL ?_;exact aB (a+1) ⟨v,by rw[p.2,iO e,mK,aa b]⟩
 exact ae (w:=by rw[p.2,iv v];rfl)
def Rw(b:FuncId)(c:eE->Bool)(P:eE)(a:List eE)(j:a.length<=1048576)(h:iR a4 b)(g:∀e∈a,aA b [dn e,.ref 6 [dn P] 0 0] (.bool (c e))):aA 43 [.f 6 (a.map dn),.func (.func b) [] [.ref 6 [dn P] 0 0]] (.bool (a.any c)):=by refine aX func43 [] λs k=>?_;refine az ?_ (i:=aiz b c P a j h g);exact ae (w:=by rw[HE a 0];rfl)
section
variable{R:aw}
def am3{C q:TypeId}{F E O:Nat}{l:Operand}{B A:Option Operand}{e:List V}{a b:Nat}(Z:bG T C (.slice q) U F)(K:fi T q O E)(Q:P.op=.slice C l B A none)(ag:R.val s l=some (.f O e))(N:ni s R B 0 a)(L:ni s R A e.length b)(G:a<=b)(r:b<=e.length):cb T s P R (.f O ((e.drop a).take (b-a))):=.same λp D S w=>by
 have t:=w.val ag;generalize ad:p.eval l=ah at t;have z:((e.drop a).take (b-a)).length=b-a:=aK;have run:∀(base:Option Addr)(cap:Nat),ah=.slice base e.length cap->e.length<=cap->(execOp p.eval P).run T D=.ok (.value (.slice (if cap=a then base else base.map (·.add (a*O))) (b-a) (cap-a))) D:=by intro base cap ae y;have I:=EK (T:=T) w (W:=true) (len:=e.length) (cap:=cap) N L G v;simp only[execOp,Q,Instr.sliceAt,ad,ae,FB,Sem.run_bind,run_underlying Z.u,Result.andThen_ok,Instr.slice,I,K.io,Sem.run_pure]
 cases t with
 |slnil=>
  have:a=0/\b=0:=by simp at r;omega
  obtain⟨rfl,rfl⟩:=this;refine⟨_,?_,run none 0 rfl<|a1 _⟩;simpa using aE.slnil (S:=S) O|sT _ o=>
  have:a=0/\b=0:=by simp at r;omega
  obtain⟨rfl,rfl⟩:=this;refine⟨_,?_,run (some o) 0 rfl<|a1 _⟩;simpa using aE.sT (S:=S) O o|f _ _ W base cap val y aj Y H X=>
  refine⟨_,?_,run _ cap rfl y⟩;have key:∀i,(b-a=0\/i=base+a*O)->aE S (.f O ((e.drop a).take (b-a))) (.slice (some ⟨W,i,none⟩) ((e.drop a).take (b-a)).length (cap-a)):=by
   intro i J;refine .f O _ W i (cap-a) (λg h=>val (a+g) h) v v ?_ ?_ ?_;intro g M c;exact Y (a+g) M (by rw[lf] at c;split at c<;>simp at c;exact c);intro g h M m c k;have j:g<b-a:=by rw[lf] at c;split at c<;>simp_all
   rw[lf,ab j,pZ] at c;rcases J with ai|rfl;omega;have:=H (a+g) h M m c k;rw[<-this];congr 1;rw[gg];omega;intro g h M m c k;have j:g<b-a:=by rw[lf] at c;split at c<;>simp_all
   rw[lf,ab j,pZ] at c;exact X (a+g) h M m c k
  by_cases x:cap=a;rw[ab x];have:=key base<|.inl v;rwa [z] at this;rw[aa x];simp only[iP,Addr.add_lit];have:=key (base+a*O)<|.inr rfl;rwa [z] at this
end
section
variable{F:V->Prop}{D:V}
def Xd{r l:TypeId}{k:b0}{e:Operand}{q p:Option Operand}{c:List V}{u t:Int}(b a:Nat)(B:F (.f k.size ((c.drop b).take (a-b))))(D:P.op=.slice r e q p none:=by rfl)(E:eU z r (.slice l):=by exact fe)(y:z.find l=some k:=by rfl)(j:val m O.h e=some (.f k.size c):=by rfl)(C:pz m O.h q 0=some u:=by rfl)(A:pz m O.h p c.length=some t:=by rfl)(I:u=(b:Int):=by first|rfl|omega)(H:t=(a:Int):=by first|rfl|omega)(w:b<=a:=by omega)(x:a<=c.length:=by exact r1):c2 T z s m G P O F:=.of rfl (λo g i L J=>by obtain⟨_,_,bu⟩:=E.dO o;exact am3 bu (o.find y).K D (fp g i j (by grind[Op.operands]) rfl) (sd g i C I λe j=>by grind[Op.operands]) (sd g i A H λe j=>by grind[Op.operands]) w x) B
end
def vR(Y:Int)(a:dS):Int:=if a.text=[]\/(100:Int)<(a.text.length:Int) then 8
 else if a.ht/\(a.shape<0\/Y<=a.shape) then 9
 else if¬a.ht/\¬a.shape=0 then 9 else 0
def ny(b:List dS)(Y:Int)(a:Nat):Int:=vR Y<|b.getD a default
def v_(b:List dS)(a:Nat):Int:=if(b.take a).any (qY<|b.getD a default) then 5 else 0
def mW(a:List dS)(Y:Int):Int:=if 10<a.length then 3
 else if fB (ny a Y) a.length=0 then fB (v_ a) a.length else fB (ny a Y) a.length
def Ee{a:List dS}{Y b:Int}(h:¬10<a.length)(w:fB (ny a Y) U=0)(i:U<a.length)(e:ny a Y U=b)(c:b≠0):mW a Y=b:=by
 have g:fB (ny a Y) a.length=b:=by rw[ss w (by rw[e];exact c) _ i,e]
 rw[mW,aa h,g,aa c]
def adG(a:List dS)(b:Nat)(c:dS)(e:a.length<=1000000):aA 75 [.f 3 ((a.map dU).take b),.func (.func 74) [] [.ref 3 [dU c] 0 0]] (.bool ((a.take b).any (qY c))):=by rw[<-z4];exact adF (a.take b) c yl
def amI(a:List dS)(Y:Int)(t:a.length<=1000000):aA 45 [.f 3 (a.map dU),.int .i64 Y] (.int .i64 (mW a Y)):=by
 refine aX func45 [] λs z=>?_;apply j<;>intro u;exact ae (w:=by rw[mW,ab v];rfl);have e:¬10<a.length:=v;refine eH a.length (λb=>fB (ny a Y) b=0) (λb=>⟨[(0,.f 3<|a.map dU),(1,.int .i64 Y),(4,.int .i64 0),(13,.f 3<|a.map dU),(14,q (a.map dU).length),(15,q b)],[],[]⟩) (λb p=>?_) rfl .r;apply j<;>intro x
 .have c:b<a.length:=v;refine aJ b (dU<|a.getD b default) ?_ (p:=cv c);apply cs;intro _;exact rfl;apply j<;>intro g;exact ae (w:=by rw[Ee e p.2 c (by rw[ny,vR,ab g]) aj];rfl);apply b2;intro _;apply cs;intro _;exact rfl;exact rfl;apply j<;>intro h;apply j<;>intro o;exact ae (w:=by rw[Ee e p.2 c (by rw[ny,vR,aa g,ab h]) aj];rfl);exact absurd h o;apply b2;intro _;exact rfl;apply j<;>intro m;exact ae (w:=by rw[Ee e p.2 c (by rw[ny,vR,aa g,aa h,ab m]) aj];rfl);refine aL ?_;exact aB (b+1) ⟨v,pE p.2 (by rw[ny,vR,aa g,aa h,aa m])⟩ (bo:=.r)
 have l:fB (ny a Y) a.length=0:=by rw[show a.length=b by omega];exact p.2
 refine eH a.length (λb=>fB (v_ a) b=0) (λb=>⟨[(0,.f 3<|a.map dU),(4,.int .i64 0),(52,.f 3<|a.map dU),(53,q (a.map dU).length),(54,q b)],[],[]⟩) (λb p=>?_) rfl .r;apply j<;>intro y
 .have c:b<a.length:=v;refine aJ b (dU<|a.getD b default) ?_ (p:=cv c);refine Xd 0 b ?_;refine CJ ?_ (i:=adG a b (a.getD b default) t);apply j<;>intro k;exact ae (w:=by rw[mW,aa e,ab l,ss p.2 (by rw[v_,ab k];decide) _ c,v_,ab k];rfl);refine aL ?_;exact aB (b+1) ⟨v,pE p.2 (by rw[v_,aa k])⟩ (bo:=.r)
 exact ae (w:=by rw[mW,aa e,ab l,show a.length=b by omega,p.2];rfl)
section
def eE.gy(P:eE):Prop:=P.name.length<=1048576/\P.method.length<=1048576/\P.path.length<=1000000/\P.query.length<=1000000/\P.j5.length<=1000000
def iI(P:eE)(a:List eE)(Y:Int):Int:=if l7 ue 30 P.name=false then 8
 else if a.any (v4 P) then 5
 else if l7 pg 10 P.method=false then 8
 else if mW P.path Y≠0 then mW P.path Y
 else if nm P.query Y 0≠0 then nm P.query Y 0
 else if P.body< -1\/Y<=P.body then 9
 else if px P.j5 Y≠0 then px P.j5 Y
 else if a.any (λb=>o6 b P) then 5 else 0
attribute [local irreducible] l7 mW nm px o6
def amF(P:eE)(g:List eE)(Y:Int)(z:g.length<=1000000)(t:P.gy)(r:∀c∈g,c.gy):aA 26 [dn P,.f 6 (g.map dn),.int .i64 Y] (.int .i64 (iI P g Y)):=by obtain⟨A,B,q,u,x⟩:=t;refine aX func26 [] λs y=>?_;refine az ?_ (i:=amH P.name v);apply j<;>intro a;exact ae (w:=by rw[iI,ab (by simpa using a)];rfl);refine CJ ?_ (i:=Rw 44 (v4 P) P g v ⟨bL⟩ λc p=>alr P c);apply j<;>intro b;exact ae (w:=by rw[iI,aa (by simpa using a),ab b];rfl);refine az ?_ (i:=X7 P.method v);apply j<;>intro e;exact ae (w:=by rw[iI,aa (by simpa using a),aa b,ab (by simpa using e)];rfl);refine az ?_ (i:=amI P.path Y q);apply j<;>intro h;exact ae (w:=by rw[iI,aa (by simpa using a),aa b,aa (by simpa using e),ab h];rfl);refine az ?_ (i:=Sh (N:=P.query) Y (F:=0) (.inr ⟨rfl,rfl⟩) u);apply j<;>intro k;exact ae (w:=by rw[iI,aa (by simpa using a),aa b,aa (by simpa using e),aa h,ab k];rfl);apply cs;intro _;exact rfl;apply j<;>intro l;exact ae (w:=by rw[iI,aa (by simpa using a),aa b,aa (by simpa using e),aa h,aa k,ab l];rfl);refine az ?_ (i:=amz P.j5 Y x);apply j<;>intro m;exact ae (w:=by rw[iI,aa (by simpa using a),aa b,aa (by simpa using e),aa h,aa k,aa l,ab m];rfl);refine CJ ?_ (i:=Rw 48 (λc=>o6 c P) P g v ⟨bL⟩ λc p=>anq P c (r c p).2.2.1 q);apply j<;>intro o;exact ae (w:=by rw[iI,aa (by simpa using a),aa b,aa (by simpa using e),aa h,aa k,aa l,aa m,ab o];rfl);exact ae (w:=by rw[iI,aa (by simpa using a),aa b,aa (by simpa using e),aa h,aa k,aa l,aa m,aa o];rfl)
end
abbrev hB(a:List Nat):Prop:=a.Pairwise (·<·)
def c0:List Nat->List Nat->List Nat|[],b=>b|c::a,[]=>c::a|c::a,e::b=>if c<e then c::c0 a (e::b) else if e<c then e::c0 (c::a) b else c::c0 a b
 termination_by a b=>a.length+b.length
theorem JX a:c0 [] a=a:=by rw[c0]
theorem ar6 a:c0 a []=a:=by cases a<;>rw[c0]
theorem mO:∀b c a,a∈c0 b c↔a∈b\/a∈c|[],c,a=>by simp[c0]|e::b,[],a=>by simp[c0]|e::b,g::c,a=>by rw[c0];split;rw[eT,mO b _ a];grind;split;rw[eT,mO _ c a];grind;have:=v;rw[eT,mO b c a];grind
 termination_by b c=>b.length+c.length
theorem tQ:∀a b,hB a->hB b->hB (c0 a b)|[],b,_,g=>by grind[c0]|k::a,[],e,_=>by grind[c0]|k::a,l::b,e,g=>by let h:=p1.1 e;let i:=p1.1 g;rw[c0];split;refine p1.2 ⟨λj ap=>?_,tQ a _ h.2 g⟩;rcases(mO _ _ _).1 ap with c|c;simp_all;grind;split;refine p1.2 ⟨λj ap=>?_,tQ _ b e i.2⟩;rcases(mO _ _ _).1 ap with c|c;grind;simp_all;have:=v;refine p1.2 ⟨λj ap=>?_,tQ a b h.2 i.2⟩;grind[mO]
 termination_by a b=>a.length+b.length
def M0:∀{a b:List Nat},hB a->hB b->(∀h,h∈a↔h∈b)->a=b
|[],[],_,_,_=>rfl|[],e::b,_,_,w=>absurd ((w e).2<|ji ..) h2|c::a,[],_,_,w=>absurd ((w c).1<|ji ..) h2|c::a,e::b,i,k,w=>by
 have j:=p1.1 i;have l:=p1.1 k;have m:c=e:=by rcases eT.1 ((w c).1 (ji ..)) with g|g;exact g;grind[List.mem_cons_self]
 subst m;rw[M0 j.2 l.2 _];grind
def HF{a:List Nat}(w:hB a){b:Nat->Bool}:hB (a.filter b):=List.Pairwise.filter b w
def Vb:∀{a:List Nat}{mM Y:Nat},hB a->(∀b∈a,mM<=b/\b<Y)->a.length<=Y-mM
|[],_,_,_,_=>c1 _|b::a,mM,Y,w,e=>by
 let c:=p1.1 w;let i:=e b<|ji ..;have:=Vb c.2 λh g=>⟨c.1 h g,(e h<|ki _ g).2⟩
 (simp;omega)
def cJ:List Nat->Nat->Nat|[],_=>0|b::a,F=>if b/64=F then cJ a F|||2^(b%64) else cJ a F
theorem lF:∀b F a,(cJ b F).testBit a=decide (a<64/\64*F+a∈b)|[],F,a=>by simp[cJ]|c::b,F,a=>by rw[cJ];split;rw[Qy,lF b F a,Qz,m4];grind;rw[lF b F a,m4];grind
theorem zS{gP:List Nat}{F:Nat}:cJ gP F<2^64:=by refine Nat.lt_pow_two_of_testBit _ λa b=>?_;grind[lF,decide_eq_false_iff_not]
def abn{b z:List Nat}{F:Nat}(w:∀a,a/64=F->(a∈b↔a∈z)):cJ b F=cJ z F:=by refine yf λc=>?_;rw[lF,lF,m4];grind
def asv{b z:List Nat}(w:∀a,a∈z↔a∈b\/a=U):cJ z (U/64)=cJ b (U/64)|||2^(U%64):=by refine yf λc=>?_;rw[Qy,lF,lF,Qz,m4];grind
def asA{b c s:List Nat}(w:∀a,a∈s↔a∈b\/a∈c)F:cJ s F=cJ b F|||cJ c F:=by refine yf λe=>?_;rw[Qy,lF,lF,lF,m4];grind
def asw{b c s:List Nat}(w:∀a,a∈s↔a∈b/\a∈c)F:cJ s F=cJ b F&&&cJ c F:=by refine yf λe=>?_;rw[Qx,lF,lF,lF,m4];grind
def asz{b c:List Nat}{Y:Nat}(g:hB b)(h:hB c)(i:∀a∈b,a<64*Y)(j:∀a∈c,a<64*Y)(w:∀F<Y,cJ b F=cJ c F):b=c:=by
 refine M0 g h λa=>?_;let key:∀{e:List Nat},a∈e↔(cJ e _).testBit _:=λ{e}=>by
  rw[lF,uR,show 64*(a/64)+a%64=a by omega]
  (simp;omega)
 grind
structure pq(I X:Nat):Prop where
 one:I.testBit X
 zero:∀W<X,I.testBit W=false
def pq.eq{a:Nat}(w:pq U a):U=2^a*(2*(U/2^(a+1))+1):=by
 let e:U%2^a=0:=by
  refine yf λb=>?_;rw[Nat.testBit_mod_two_pow,Nat.zero_testBit];by_cases c:b<a;rw[w.zero b c,Bool.and_false]
  (simp;omega)
 let g:=by have:=w.one;rw[Nat.testBit_eq_decide_div_mod_eq,uR] at this;exact this
 let h:U/2^(a+1)=U/2^a/2:=by rw[oC,KB]
 let i:=ta U<|2^a;grind
def pq.pos{a:Nat}(w:pq U a):0<U:=by rw[w.eq];grind
def pq.pred{a:Nat}(w:pq U a)b:(U-1).testBit b=if b<a then true else if b=a then false else U.testBit b:=by
 have g:=Nat.two_pow_pos a;have h:U-1=2^a*(2*(U/2^(a+1)))+(2^a-1):=by have:=w.eq;rw[yi,wv] at this;omega
 have i:U=2^a*(2*(U/2^(a+1))+1)+0:=w.eq;rw[h,acu _ v];by_cases e:b<a;grind;generalize U/2^(a+1)=o at*;by_cases M:b=a;simp_all;have:U.testBit b=(2*o+1).testBit (b-a):=by
  conv=>lhs;rw[i]
  rw[acu _ g,aa e]
 obtain⟨c,j⟩:∃c,b-a=c+1:=⟨b-a-1,v⟩;grind
def pq.clear{b:Nat}(w:pq U b)a:(U&&&U-1).testBit a=(U.testBit a&&!decide (a=b)):=by rw[Qx,w.pred];grind
def pq.only{a:Nat}(w:pq U a)(e:U<2^64):U&&&2^64-U=2^a:=by
 let h:=w.pos;refine yf λb=>?_;rw[Qx,Qz,show 2^64-U=2^64-(U-1+1) by omega,Nat.testBit_two_pow_sub_succ v,w.pred];by_cases c:b<a
 (simp_all;omega)
 rw[aa c];by_cases M:b=a;rw[ab M,M,w.one,oD rfl,oD];rfl;refine jZ λg=>?_;have:=acs (i:=a)<|h3 e<|m9 v v;rw[w.one] at this;trivial;grind
theorem abo{a:List Nat}(w:hB (U::a)):pq (cJ (U::a) (U/64)) (U%64):=by
 cases p1.1 w;refine⟨?_,λb c=>?_⟩
 (simp[lF,uR,ji];omega)
 grind[lF,decide_eq_false_iff_not]
theorem asx{a:List Nat}(w:hB (U::a)):cJ (U::a) (U/64)&&&cJ (U::a) (U/64)-1=cJ a (U/64):=by cases p1.1 w;refine yf λb=>?_;rw[(abo w).clear,lF,lF,m4];grind
theorem PW{a:List Nat}{F:Nat}:cJ a F=0↔∀b∈a,b/64≠F:=by constructor;intro w b g e;have:=lF a F<|b%64;grind;intro w;refine yf λc=>?_;grind[lF,decide_eq_false_iff_not]
theorem asy{a:List Nat}{F:Nat}(w:hB (U::a))(h:∀b∈U::a,64*F<=b)(c:cJ (U::a) F≠0):U/64=F:=by refine jZ λe=>c<|PW.2 λb i g=>?_;grind[List.pairwise_cons,List.mem_cons_self]
def asB{b:List Nat}{F:Nat}(c:∀a∈b,64*F<=a):cJ b F=0->∀a∈b,64*(F+1)<=a:=λa e=>by grind[PW]
abbrev au:=List Bool
def bP:au:=List.replicate 256 false
def au.add(O:au)(c b:Nat):au:=O.mapIdx λa e=>e||decide (c<=a)&&decide (a<=b)
def au.join(O a:au):au:=List.zipWith (·||·) O a
def au.others(O:au):au:=O.map λa=>!a
structure Q where
 C:Nat
 bad:Int
 no:Int
def ce(a:List UInt8)(D:Q):V:=.agg [.str a,q D.C,.int .i64 D.bad,.int .i64 D.no]
def bF(a:List UInt8)(D:Q):UInt8:=if D.no=0/\D.C<a.length then a.getD D.C 0 else 0
def bE(D:Q)(a:Int)(b:Int):Q:=if D.no=0 then⟨D.C,a,b⟩ else D
def dN(a:List UInt8)(D:Q)(b:UInt8):Bool:=if((bF a D).toNat≠b.toNat\/D.no≠0)\/D.C=a.length then false else true
def Q.step(D:Q):Q:=⟨D.C+1,D.bad,D.no⟩
def ah(b:List UInt8)(D:Q)(a:UInt8):Q:=if dN b D a then D.step else D
def fF(b:List UInt8)(D:Q)(a:UInt8):Q:=if dN b D a then D.step else bE D D.C 6
def Q.ok(a:List UInt8)(D:Q):Prop:=D.C<=a.length/\a.length<=2000
def sM a D(w:D.ok a):aA 271 [.ref 4 [ce a D] 0 0] (bh (bF a D)):=by
 refine aX func271 [] λs b=>?_;cases w;refine c7 ?_;refine fM ?_;apply j<;>intro c
 .refine c7 ?_;refine lw D.C (a.getD D.C 0) ?_ (p:=vx v);exact ae (w:=by rw[bF,ab v];rfl)
 exact ae (w:=by rw[bF,aa v];rfl)
def pd a D b(w:D.ok a):cK 215 [g 6000,bh b] [(6000,.cell 242 (ce a D))] (.bool (dN a D b)) [(6000,.cell 242 (ce a (ah a D b)))]:=by
 refine cX func215 [] λk s e=>?_;cases id w;refine c7 ?_;refine hR ?_ (i:=sM a D w);refine dD ?_;refine dD ?_;apply j<;>intro h
 .let c:dN a D b=false:=by rw[dN,ab v]
  rw[ah,c,aa af];exact cH
 let c:dN a D b:=by rw[dN,aa v]
 rw[ah,ab c,c];apply dK<|(D.C+1:Nat);exact cH
def vn e D a c:cK 160 [g 6000,.int .i64 a,.int .i64 c] [(6000,.cell 242 (ce e D))] (.tuple []) [(6000,.cell 242 (ce e (bE D a c)))]:=by
 refine cX func160 [] λi s h=>?_;apply j<;>intro b
 .rw[bE,ab b];exact cH
 rw[bE,aa b];exact cH
def Of a D b(w:D.ok a):cK 319 [g 6000,bh b] [(6000,.cell 242 (ce a D))] (.tuple []) [(6000,.cell 242 (ce a (fF a D b)))]:=by
 refine cX func319 [] λk s h=>?_;refine bk [(6000,6000)] ?_ (i:=pd a D b w);apply j<;>intro e
 .let c:dN a D b=false:=by simpa using e
  rw[fF,aa (by simp[c])];rw[ah,aa (by simp[c])];refine bk [(6000,6000)] ?_ (i:=vn a D D.C 6);exact cH
 let c:dN a D b:=by simpa using e
 rw[fF,ab c,ah,ab c];exact cH
section
variable[DecidableEq aD]
def note(a:List aD)(Y:aD):List aD:=if Y∈a then a else a++[Y]
def g7(a b:List aD):List aD:=b.foldl note a
def Tb(a:List aD):g7 a []=a:=rfl
def GL a Y(b:List aD):g7 a (Y::b)=g7 (note a Y) b:=rfl
theorem GK(c a b:List aD):g7 c (a++b)=g7 (g7 c a) b:=Km
theorem w0{b a:List aD}{Y:aD}:g7 b (a++[Y])=note (g7 b a) Y:=by rw[GK];rfl
theorem Ok{a:List aD}{Y:aD}:a<+:note a Y:=by grind[note,List.prefix_refl,List.prefix_append]
theorem yR:∀(b a:List aD),a<+:g7 a b|[],a=>z7 a|Y::b,a=>(Ok).trans<|yR b _
theorem DY b(Y a:aD):a∈note b Y↔a∈b\/a=Y:=by grind[note,id]
theorem vh:∀c b(a:aD),a∈g7 b c↔a∈b\/a∈c|[],b,a=>by simp[Tb]|Y::c,b,a=>by rw[GL,vh c,DY,eT,or_assoc]
def wZ:∀a{b:List aD},b.Nodup->(g7 b a).Nodup|[],_,w=>w|Y::a,_,w=>wZ a (by grind[note,List.nodup_append])
def bH(succ:aD->List aD)(bj:List aD):Nat->List aD|0=>bj|a+1=>match(bH succ bj a)[a]? with|some b=>g7 (bH succ bj a) (succ b)|none=>bH succ bj a
variable{succ:aD->List aD}{bj:List aD}
theorem u7{a:aD}(w:(bH succ bj U)[U]?=some a):bH succ bj (U+1)=g7 (bH succ bj U) (succ a):=by rw[bH,w]
theorem Gm(w:(bH succ bj U).length<=U):bH succ bj (U+1)=bH succ bj U:=by rw[bH,s6 w]
theorem Ly a:bH succ bj a<+:bH succ bj (a+1):=by grind[bH,yR,List.prefix_refl]
theorem lU{a:Nat}:U<=a->bH succ bj U<+:bH succ bj a:=by
 induction a
 simp_all
 next a b=>grind[trans,Ly]
theorem py{H bJ:Nat}:(bH succ bj H).length<=H->H<=bJ->bH succ bj bJ=bH succ bj H:=by
 induction bJ
 simp_all
 next bJ a=>grind[Gm]
theorem wS(w:bj.Nodup):∀a,(bH succ bj a).Nodup|0=>w|a+1=>by rw[bH];split;exact wZ _<|wS w a;exact wS w a
def vT{a o:List aD}(w:a<+:o){b:aD}:a[U]?=some b->o[U]?=some b:=by obtain⟨c,rfl⟩:=w;grind
theorem RQ{F:Nat}{b:aD}(e:F<U)(a:(bH succ bj U)[F]?=some b):∀c∈succ b,c∈bH succ bj U:=by
 let g:F<(bH succ bj F).length:=by refine yh λw=>?_;rw[py w v] at a;have:=(dm.1 a).1;omega
 let h:(bH succ bj F)[F]?=some b:=by have:=vT (lU<|tb e)<|bw g;rw[bw g,<-this];exact a
 intro c i;have:c∈bH succ bj (F+1):=by rw[u7 h,vh];exact .inr i
 exact(lU e).subset this
theorem Au(w:(bH succ bj U).length<=U){b:aD}(c:b∈bH succ bj U):∀e∈succ b,e∈bH succ bj U:=by let⟨F,a⟩:=lg.1 c;exact RQ (h3 (dm.1 a).1 w) a
def qi{L:aD->Prop}(c:∀a∈bj,L a)(e:∀a,L a->∀h∈succ a,L h):∀b,∀a∈bH succ bj b,L a|0=>c|b+1=>by intro a g;rw[bH] at g;split at g;rename_i h i;rcases(vh _ _ _).1 g with w|w;exact qi c e b a w;exact e h (qi c e b h<|dh i) a w;exact qi c e b a g
def anJ{a o:List aD}(w:a<+:o){b:aD}:b∈a->o.idxOf b=a.idxOf b:=by obtain⟨c,rfl⟩:=w;grind
end
section
variable[DecidableEq aD] [DecidableEq m3]
def alK{c:aD->Prop}{b:aD->m3}(i:∀a g,c a->c g->b a=b g->a=g){e:List aD}{Y:aD}(h:∀a∈e,c a):c Y->note (e.map b) (b Y)=(note e Y).map b:=by unfold note;grind
def Ta{g:aD->Prop}{c:aD->m3}(j:∀a h,g a->g h->c a=c h->a=h):∀b e,(∀a∈e,g a)->(∀a∈b,g a)->g7 (e.map c) (b.map c)=(g7 e b).map c|[],_,_,_=>rfl|Y::b,e,k,i=>by rw[gU,GL,GL,alK j k<|i Y af];refine Ta j b _ (λa l=>?_) λa l=>i a aM;grind[DY]
def Lx{c:aD->Prop}{e:aD->m3}(k:∀a g,c a->c g->e a=e g->a=g){succ:aD->List aD}{zK:m3->List m3}{bj:List aD}(i:∀a∈bj,c a)(h:∀a,c a->∀g∈succ a,c g)(j:∀a,c a->zK (e a)=(succ a).map e):∀b,bH zK (bj.map e) b=(bH succ bj b).map e
|0=>rfl|b+1=>by
 rw[bH,bH,Lx k i h j b,ch];cases m:(bH _ bj b)[b]?;rfl
 next a=>let l:=qi i h b a<|dh m;simp;rw[j a l];exact Ta k _ _ (qi i h b)<|h a l
def MY{g:aD->Prop}{b:aD->m3}(k:∀a h,g a->g h->b a=b h->a=h):∀{e:List aD}{Y:aD},(∀a∈e,g a)->g Y->(e.map b).idxOf (b Y)=e.idxOf Y
|[],_,_,_=>rfl|c::e,Y,i,j=>by
 rw[gU,List.idxOf_cons,List.idxOf_cons];have:(b c==b Y)=(c==Y):=by rw[m4,KN,KN];exact⟨(k c Y (i c af) j),λl=>by rw[l]⟩
 rw[this,MY k (λa m=>i a aM) j]
end
structure QJ where
 next:List (List Nat)
 acc:List Bool
 deriving DecidableEq
section
variable[DecidableEq aD] [DecidableEq m3]
def e7(bv:aD->UInt8->aD)(b:aD):List aD:=(List.range 256).map λa=>bv b<|UInt8.ofNat a
def yF(bv:aD->UInt8->aD)(b:aD->Bool)(a:List aD):QJ:=⟨a.map λc=>(e7 bv c).map a.idxOf,a.map b⟩
def ad3{b:aD->Prop}{c:aD->m3}(p:∀a i,b a->b i->c a=c i->a=i){bv:aD->UInt8->aD}{m:m3->UInt8->m3}{j:aD->Bool}{k:m3->Bool}{h:List aD}(g:∀a∈h,b a)(o:∀a e,b a->b (bv a e))(a6:∀a e,b a->m (c a) e=c (bv a e))(q:∀a,b a->k (c a)=j a):yF m k (h.map c)=yF bv j h:=by unfold yF e7;congr 1;rw[ez];refine gp λa l=>?_;simp only[ez];refine gp λe _=>?_;simp;rw[a6 a _<|g a l,MY p g<|o a _<|g a l];simp_all
def arc{e:aD->Prop}{b:aD->m3}{bv:aD->UInt8->aD}{g:m3->UInt8->m3}(a6:∀a c,e a->g (b a) c=b (bv a c)){a:aD}:e a->e7 g (b a)=(e7 bv a).map b:=by grind[e7,List.map_map,List.map_congr_left]
def EU{L:aD->Prop}{bv:aD->UInt8->aD}(g:∀a c,L a->L (bv a c)){a:aD}(h:L a):∀b∈e7 bv a,L b:=by intro b e;unfold e7 at e;grind
end
abbrev q_:=List UInt8->Bool
def nF{aD:Type}(bv:aD->UInt8->aD)(b:aD)(a:List UInt8):aD:=a.foldl bv b
def gH{aD:Type}(bv:aD->UInt8->aD)(a:aD->Bool)(c:aD):q_:=λb=>a<|nF bv c b
def tD(a:q_)(b:UInt8):q_:=λc=>a<|b::c
def D1(a:q_):Bool:=a []
def DA{aD:Type}{bv:aD->UInt8->aD}{a:aD->Bool}{c:aD}{b:UInt8}:tD (gH bv a c) b=gH bv a (bv c b):=rfl
open Classical in
noncomputable def sA(a:q_)(b:Nat):List q_:=bH (e7 tD) [a] b
open Classical in
noncomputable def tv(a:q_)(b:Nat):QJ:=yF tD D1<|sA a b
def Sd{aD:Type} [DecidableEq aD]{c:aD->Prop}{bv:aD->UInt8->aD}{g:aD->Bool}(k:∀a i,c a->c (bv a i))(j:∀a e,c a->c e->gH bv g a=gH bv g e->a=e){a:aD}(l:c a):sA (gH bv g a) U=(bH (e7 bv) [a] U).map (gH bv g):=by
 classical
 have:=Lx j (bj:=[a]) b (λe h=>EU k h) (λe h=>arc (λm i _=>DA) h) U;trivial
def aeZ{aD:Type} [DecidableEq aD]{c:aD->Prop}{bv:aD->UInt8->aD}{e:aD->Bool}(h:∀a i,c a->c (bv a i))(j:∀a g,c a->c g->gH bv e a=gH bv e g->a=g){a:aD}(k:c a):tv (gH bv e a) U=yF bv e (bH (e7 bv) [a] U):=by
 classical
 unfold tv;rw[Sd h j k];exact ad3 j (qi b (λg l=>EU h l) U) h (λm i _=>DA) λm _=>rfl
structure uZ{aD:Type}(L:aD->Prop)(bv:aD->UInt8->aD)(acc:aD->Bool)(cl:aD->Nat):Prop where
 step:∀Z W,L Z->L (bv Z W)
 iff:∀Z B,L Z->L B->(cl Z=cl B↔gH bv acc Z=gH bv acc B)
theorem uZ.of{aD:Type}{e:aD->Prop}{bv:aD->UInt8->aD}{h:aD->Bool}{c:aD->Nat}(k:∀a g,e a->e (bv a g))(m:∀a b,e a->e b->gH bv h a=gH bv h b->c a=c b)(o:∀a b,e a->e b->c a=c b->h a=h b)(p:∀a b g,e a->e b->c a=c b->c (bv a g)=c (bv b g)):uZ e bv h c:=by
 refine⟨k,λa b i j=>⟨λw=>?_,m a b i j⟩⟩;funext l
 induction l generalizing a b
 exact o a b i j w
 next g l q=>exact q _ _ (k a g i) (k b g j)<|p a b g i j w
def uZ.tv{aD:Type}{j:aD->Prop}{bv:aD->UInt8->aD}{i:aD->Bool}{c:aD->Nat}(w:uZ j bv i c){eZ:Nat->aD}(k:∀g,j g->j (eZ (c g))/\c (eZ (c g))=c g){g:aD}(q:j g)m:ey.tv (gH bv i g) m=yF (λb e=>c<|bv (eZ b) e) (λb=>i<|eZ b) (bH (e7 λb e=>c<|bv (eZ b) e) [c g] m)/\(sA (gH bv i g) m).length=(bH (e7 λb e=>c<|bv (eZ b) e) [c g] m).length:=by
 let p:∀a,j a->gH (λb e=>c<|bv (eZ b) e) (λb=>i<|eZ b) (c a)=gH bv i a:=by
  intro a h;funext o
  induction o generalizing a
  have:=(w.iff _ a (k a h).1 h).1 (k a h).2;exact KU this []
  next e o u=>let l:=(w.iff _ a (k a h).1 h).1 (k a h).2;change gH _ (λb=>i _) _ o=gH bv i a _;rw[u (bv (eZ<|c a) e)<|w.step _ _ (k a h).1];exact KU l<|e::o
 let s:∀b e,(∃a,j a/\b=c a)->∃a,j a/\c (bv (eZ b) e)=c a:=by rintro b e ⟨a,h,rfl⟩;exists _,w.step _ e (k a h).1
 let r:∀b M,(∃a,j a/\b=c a)->(∃a,j a/\M=c a)->gH (λb e=>c<|bv (eZ b) e) (λb=>i<|eZ b) b=gH (λb e=>c<|bv (eZ b) e) (λb=>i<|eZ b) M->b=M:=by rintro b M ⟨a,h,rfl⟩ ⟨t,ap,rfl⟩ l;rw[p a h,p t ap] at l;exact(w.iff a t h ap).2 l
 rw[<-p g q];exact⟨aeZ s r ⟨g,q,rfl⟩,(by rw[Sd s r ⟨g,q,rfl⟩,aS])⟩
def Rl{c:Type} [DecidableEq c]:∀{E W:List c},E.Nodup->(∀a∈E,a∈W)->W.length<=E.length->∀a∈W,a∈E|[],W,_,_,h,a,b=>by simp_all|j::E,W,i,l,h,a,b=>by let⟨k,g⟩:=s9.1 i;by_cases e:a=j;simp_all;refine ki _<|Rl g (λm ap=>?_) ?_ a<|(Qk e).2 b;grind;simp_all
def apV{aD:Type}{L:aD->Prop}{t M:aD->Nat}{Y:Nat}(a6:∀a,L a->M a<Y)(p:∀F<Y,∃a,L a/\t a=F)(h:∀a,L a->t a<Y)(k:∀a b,L a->L b->M a=M b->t a=t b):∀a b,L a->L b->t a=t b->M a=M b:=by
 let i:∀F:Fin Y,∃a,L a/\t a=F.1:=λF=>p F.1 F.2;let e:=λF:Fin Y=>Fo<|i F;let q:((List.finRange Y).map λF=>M<|Classical.choose<|i F).Nodup:=by refine Kx.2<|(Qo Y).imp λ{E W} m he=>m ?_;have:=k _ _ (e E).1 (e W).1 he;rw[(e E).2,(e W).2] at this;exact Fp this
 let o:=Rl (E:=(List.finRange Y).map λF=>M<|Classical.choose<|i F) (W:=List.range Y) q
  (λa c=>by obtain⟨F,_,rfl⟩:=b4.1 c;exact fq.2<|a6 _ (e F).1) af
 let key:∀a,L a->∀(w:t a<Y),M a=M (Classical.choose<|i ⟨t a,w⟩):=by intro a c w;let⟨F,_,l⟩:=b4.1<|o (M a)<|fq.2<|a6 a c;let g:=k _ _ (e F).1 c l;rw[(e F).2] at g;have:F=⟨t a,w⟩:=Fp g;rw[<-l,this]
 intro a b c j w;rw[key a c<|h a c,key b j<|h b j];let g:(⟨t a,h a c⟩:Fin Y)=⟨t b,h b j⟩:=Fp w;rw[g]
section
inductive Way(S:Nat->Nat->Prop):Nat->Nat->Prop|refl (Z:Nat):Way S Z Z|tail {Z B k:Nat}:Way S Z B->S B k->Way S Z k
def Way.mono{c b:Nat->Nat->Prop}(w:∀U a,c U a->b U a){a:Nat}(h:Way c U a):Way b U a:=by
 induction h
 exact .refl _
 next _ e g=>exact g.tail<|w _ _ e
theorem Way.trans{a:Nat->Nat->Prop}{b c:Nat}(e:Way a U b)(g:Way a b c):Way a U c:=by
 induction g
 exact e
 next _ h i=>exact i.tail h
theorem Way.one{a:Nat->Nat->Prop}{b:Nat}(c:a U b):Way a U b:=(Way.refl U).tail c
def Way.head{a:Nat->Nat->Prop}{b c:Nat}(e:a U b)(g:Way a b c):Way a U c:=(Way.one e).trans g
structure kn(C ek:Nat->Nat)(S:Nat->Nat->Prop)(G e1 mM p ug sJ:Nat)(first last:Nat->Prop)(bz:Nat->Nat->Prop)(qs:Prop):Prop where
 Hi:G<mM
 B2:mM<=e1/\e1<p
 src:∀Z B,S Z B->(Z=G\/mM<=Z/\Z<p)/\mM<=B/\B<p/\Z≠e1
 pl:∀L,ug<=L->L<sJ->mM<=C L/\C L<p/\C L≠e1/\mM<=ek L/\ek L<p
 wf:∀A,ug<=A->A<sJ->(Way S G (C A)↔first A)
 wt:Way S G e1↔qs
 rR:∀L A,ug<=L->L<sJ->ug<=A->A<sJ->(Way S (ek L) (C A)↔bz L A)
 wl:∀L,ug<=L->L<sJ->(Way S (ek L) e1↔last L)
 le:ug<=sJ
 qv:∀A,first A->ug<=A/\A<sJ
 oX:∀A,last A->ug<=A/\A<sJ
 mI:∀L A,bz L A->(ug<=L/\L<sJ)/\ug<=A/\A<sJ
variable{C ek:Nat->Nat}
def kn.congr{g e:Nat->Nat->Prop}{G o l r s:Nat}{k p j m:Nat->Prop}{P q:Nat->Nat->Prop}{i h:Prop}(w:kn C ek g G U o l r s k p P i)(u:∀a c,e a c↔g a c)(x:∀b,j b↔k b)(y:∀b,m b↔p b)(z:∀t b,q t b↔P t b)(A:h↔i):kn C ek e G U o l r s j m q h:=by have:=funext λa=>funext λc=>propext<|u a c;have:=funext λa=>propext<|x a;have:=funext λa=>propext<|y a;have:=funext λa=>funext λc=>propext<|z a c;simp_all
def kn.ap1{t u:Nat->Nat->Prop}{G o E mid T Q I R:Nat}{S P O X:Nat->Prop}{Y Z:Nat->Nat->Prop}{L N:Prop}(g:kn C ek t G o E mid Q I S P Y L)(i:kn C ek u o U mid T I R O X Z N):kn C ek (λc e=>t c e\/u c e) G U E T Q R (λb=>S b\/L/\O b) (λb=>X b\/N/\P b) (λh b=>Y h b\/Z h b\/P h/\O b) (L/\N):=by
 let hm:=g.B2;let ae:=g.Hi;let W:=i.B2;let J:∀c e,c=G\/E<=c/\c<mid->e=G\/E<=e/\e<mid->Way (λc e=>t c e\/u c e) c e->Way t c e:=by
  intro c e H ad a
  induction a
  exact .refl _
  next a k B=>rcases k with k|k;exact(B (g.src _ _ k).1).tail k;have:=(i.src _ _ k).2.1;omega
 let F:∀c e,c=G\/E<=c/\c<mid->mid<=e->Way (λc e=>t c e\/u c e) c e->Way t c o/\Way u o e:=by
  intro c e H ad a
  induction a
  omega
  next a k B=>rcases k with k|k;have:=(g.src _ _ k).2.2.1;omega;rcases(i.src _ _ k).1 with w|w;subst w;exact⟨J _ _ H (.inr hm) a,.one k⟩;let⟨j,m⟩:=B w.1;exact⟨j,m.tail k⟩
 let s:∀c e,c=o\/mid<=c->Way (λc e=>t c e\/u c e) c e->(e=o\/mid<=e)/\Way u c e:=by
  intro c e H a
  induction a
  exact⟨H,.refl _⟩
  next a k B=>let⟨j,m⟩:=B;rcases k with k|k;cases g.src _ _ k;omega;exact⟨.inr (i.src _ _ k).2.1,m.tail k⟩
 let z:∀{c e},Way t c e->Way (λc e=>t c e\/u c e) c e:=λa=>a.mono λ_ _=>.inl;let A:∀{c e},Way u c e->Way (λc e=>t c e\/u c e) c e:=λa=>a.mono λ_ _=>.inr;let split:∀b,Q<=b->b<R->b<I\/I<=b:=λb _ _=>v;refine⟨g.Hi,v,?_,?_,?_,?_,?_,?_,cA g.le i.le,?_,?_,?_⟩;rintro c e (k|k);let⟨j,m,K,M⟩:=g.src _ _ k;omega;let⟨j,m,K,M⟩:=i.src _ _ k;omega;intro h l p;rcases split h l p with w|w;let⟨j,m,K,M⟩:=g.pl h l w;omega;let⟨j,m,K,M⟩:=i.pl h w p;omega;intro b y q;rcases split b y q with w|w;let l:=g.pl b y w;constructor;intro a;exact .inl<|(g.wf b y w).1<|J _ _ (.inl rfl) (.inr ⟨l.1,l.2.1⟩) a;rintro(a|⟨_,a⟩);exact z<|(g.wf b y w).2 a;have:=i.qv b a;omega;let l:=i.pl b w q;constructor;intro a;let⟨j,m⟩:=F _ _ (.inl rfl) l.1 a;exact .inr ⟨g.wt.1 j,(i.wf b w q).1 m⟩;rintro(a|⟨j,a⟩);have:=g.qv b a;omega;exact(z<|g.wt.2 j).trans<|A<|(i.wf b w q).2 a;constructor;intro a;let⟨j,m⟩:=F _ _ (.inl rfl) W.1 a;exact⟨g.wt.1 j,i.wt.1 m⟩;rintro⟨j,m⟩;exact(z<|g.wt.2 j).trans<|A<|i.wt.2 m;intro h b l p y q;rcases split h l p with w|w<;>rcases split b y q with x|x;let r:=g.pl h l w;let D:=g.pl b y x;constructor;intro a;exact .inl<|(g.rR h b l w y x).1<|J _ _ (.inr r.2.2.2) (.inr ⟨D.1,D.2.1⟩) a;rintro(a|a|⟨_,a⟩);exact z<|(g.rR h b l w y x).2 a;have:=i.mI h b a;omega;have:=i.qv b a;omega;let r:=g.pl h l w;let D:=i.pl b x q;constructor;intro a;let⟨j,m⟩:=F _ _ (.inr r.2.2.2) D.1 a;exact .inr<|.inr ⟨(g.wl h l w).1 j,(i.wf b x q).1 m⟩;rintro(a|a|⟨j,a⟩);have:=g.mI h b a;omega;have:=i.mI h b a;omega;exact(z<|(g.wl h l w).2 j).trans<|A<|(i.wf b x q).2 a;let r:=i.pl h w p;let D:=g.pl b y x;constructor;intro a;have:=(s _ _ (.inr r.2.2.2.1) a).1;omega;rintro(a|a|⟨j,a⟩);have:=g.mI h b a;omega;have:=i.mI h b a;omega;have:=g.oX h j;omega;let r:=i.pl h w p;constructor;intro a;exact .inr<|.inl<|(i.rR h b w p x q).1 (s _ _ (.inr r.2.2.2.1) a).2;rintro(a|a|⟨j,a⟩);have:=g.mI h b a;omega;exact A<|(i.rR h b w p x q).2 a;have:=g.oX h j;omega;intro h l p;rcases split h l p with w|w;let r:=g.pl h l w;constructor;intro a;let⟨j,m⟩:=F _ _ (.inr r.2.2.2) W.1 a;exact .inr ⟨i.wt.1 m,(g.wl h l w).1 j⟩;rintro(a|⟨j,a⟩);have:=i.oX h a;omega;exact(z<|(g.wl h l w).2 a).trans<|A<|i.wt.2 j;let r:=i.pl h w p;constructor;intro a;exact .inl<|(i.wl h w p).1 (s _ _ (.inr r.2.2.2.1) a).2;rintro(a|⟨j,a⟩);exact A<|(i.wl h w p).2 a;have:=g.oX h a;omega;rintro b (a|⟨_,a⟩);have:=g.qv b a;have:=i.le;omega;have:=i.qv b a;have:=g.le;omega;rintro b (a|⟨_,a⟩);have:=i.oX b a;have:=g.le;omega;have:=g.oX b a;have:=i.le;omega;have:=g.le;have:=i.le;rintro h b (a|a|⟨j,a⟩);have:=g.mI h b a;omega;have:=i.mI h b a;omega;have:=g.oX h j;have:=i.qv b a;omega
def kn.yC{u l:Nat->Nat->Prop}{G s B mid z Y y Z:Nat}{S W R T:Nat->Prop}{P X:Nat->Nat->Prop}{Q O:Prop}(w:kn C ek u G s B mid Y y S W P Q)(F:kn C ek l G U mid z y Z R T X O):kn C ek (λg c=>u g c\/l g c\/g=U/\c=s) G s B z Y Z (λe=>S e\/R e) (λe=>W e\/T e) (λh e=>P h e\/X h e) (Q\/O):=by
 let ai:=w.B2;let ah:=F.B2;let ag:=w.Hi;generalize ae:(λg c=>u g c\/l g c\/g=U/\c=s)=t;let k:∀g c,t g c↔u g c\/l g c\/g=U/\c=s:=λg c=>aM;let K:∀g c,B<=g/\g<mid->Way t g c->(B<=c/\c<mid)/\Way u g c:=by
  intro g c J b
  induction b
  exact⟨J,.refl _⟩
  next b a A=>let⟨i,j⟩:=A;rcases(k _ _).1 a with a|a|a;have:=w.src _ _ a;exact⟨⟨this.2.1,this.2.2.1⟩,j.tail a⟩;have:=F.src _ _ a;omega;omega
 let L:∀g c,mid<=g/\g<z->Way t g c->(mid<=c/\c<z)/\Way l g c\/c=s/\Way l g U:=by
  intro g c J b
  induction b
  exact .inl ⟨J,.refl _⟩
  next b a A=>rcases A with⟨i,j⟩|⟨i,j⟩;rcases(k _ _).1 a with a|a|a;have:=w.src _ _ a;omega;have:=F.src _ _ a;exact .inl ⟨⟨this.2.1,this.2.2.1⟩,j.tail a⟩;simp_all;subst i;rcases(k _ _).1 a with a|a|a;have:=w.src _ _ a;omega;have:=F.src _ _ a;omega;omega
 let H:∀c,Way t G c->c=G\/(B<=c/\c<mid)/\Way u G c\/(mid<=c/\c<z)/\Way l G c\/c=s/\Way l G U:=by
  intro c b
  induction b
  omega
  next b a A=>rcases A with i|⟨i,j⟩|⟨i,j⟩|⟨i,j⟩;subst i;rcases(k _ _).1 a with a|a|a;have:=w.src _ _ a;exact .inr<|.inl ⟨⟨this.2.1,this.2.2.1⟩,.one a⟩;have:=F.src _ _ a;exact .inr<|.inr<|.inl ⟨⟨this.2.1,this.2.2.1⟩,.one a⟩;omega;rcases(k _ _).1 a with a|a|a;have:=w.src _ _ a;exact .inr<|.inl ⟨⟨this.2.1,this.2.2.1⟩,j.tail a⟩;have:=F.src _ _ a;omega;omega;rcases(k _ _).1 a with a|a|a;have:=w.src _ _ a;omega;have:=F.src _ _ a;exact .inr<|.inr<|.inl ⟨⟨this.2.1,this.2.2.1⟩,j.tail a⟩;simp_all;subst i;rcases(k _ _).1 a with a|a|a;have:=w.src _ _ a;omega;have:=F.src _ _ a;omega;omega
 let D:∀{g c},Way u g c->Way t g c:=λb=>b.mono λ_ _ i=>(k _ _).2<|.inl i;let I:∀{g c},Way l g c->Way t g c:=λb=>b.mono λ_ _ i=>(k _ _).2<|.inr<|.inl i;let N:∀{g},Way l g U->Way t g s:=λb=>(I b).tail<|(k _ _).2<|.inr<|.inr ⟨rfl,rfl⟩;refine⟨w.Hi,v,?_,?_,?_,?_,?_,?_,cA w.le F.le,?_,?_,?_⟩;intro g c a;rcases(k _ _).1 a with a|a|a;have:=w.src _ _ a;omega;have:=F.src _ _ a;omega;omega;intro h m o;rcases gh h y with a|a;let⟨i,j,ad,M⟩:=w.pl h m a;omega;let⟨i,j,ad,M⟩:=F.pl h a o;omega;intro e x q;rcases gh e y with a|a;let E:=w.pl e x a;constructor;intro b;rcases H _ b with i|⟨_,j⟩|⟨i,_⟩|⟨i,_⟩;omega;exact .inl<|(w.wf e x a).1 j;omega;omega;rintro(b|b);exact D<|(w.wf e x a).2 b;have:=F.qv e b;omega;let E:=F.pl e a q;constructor;intro b;rcases H _ b with i|⟨i,_⟩|⟨_,j⟩|⟨i,_⟩;omega;omega;exact .inr<|(F.wf e a q).1 j;omega;rintro(b|b);have:=w.qv e b;omega;exact I<|(F.wf e a q).2 b;constructor;intro b;rcases H _ b with i|⟨_,j⟩|⟨i,_⟩|⟨_,j⟩;omega;exact .inl<|w.wt.1 j;omega;exact .inr<|F.wt.1 j;rintro(b|b);exact D<|w.wt.2 b;exact N<|F.wt.2 b;intro h e m o x q;rcases gh h y with a|a<;>rcases gh e y with r|r;let p:=w.pl h m a;constructor;intro b;exact .inl<|(w.rR h e m a x r).1 (K _ _ p.2.2.2 b).2;rintro(b|b);exact D<|(w.rR h e m a x r).2 b;have:=F.mI h e b;omega;let p:=w.pl h m a;let E:=F.pl e r q;constructor;grind;rintro(b|b);have:=w.mI h e b;omega;have:=F.mI h e b;omega;let p:=F.pl h a o;let E:=w.pl e x r;constructor;grind;rintro(b|b);have:=w.mI h e b;omega;have:=F.mI h e b;omega;let p:=F.pl h a o;let E:=F.pl e r q;constructor;intro b;rcases L _ _ p.2.2.2 b with⟨_,j⟩|⟨i,_⟩;exact .inr<|(F.rR h e a o r q).1 j;omega;rintro(b|b);have:=w.mI h e b;omega;exact I<|(F.rR h e a o r q).2 b;intro h m o;rcases gh h y with a|a;let p:=w.pl h m a;constructor;intro b;exact .inl<|(w.wl h m a).1 (K _ _ p.2.2.2 b).2;rintro(b|b);exact D<|(w.wl h m a).2 b;have:=F.oX h b;omega;let p:=F.pl h a o;constructor;intro b;rcases L _ _ p.2.2.2 b with⟨i,_⟩|⟨_,j⟩;omega;exact .inr<|(F.wl h a o).1 j;rintro(b|b);have:=w.oX h b;omega;exact N<|(F.wl h a o).2 b;have:=w.le;have:=F.le;rintro e (b|b);have:=w.qv e b;omega;have:=F.qv e b;omega;have:=w.le;have:=F.le;rintro e (b|b);have:=w.oX e b;omega;have:=F.oX e b;omega;have:=w.le;have:=F.le;rintro h e (b|b);have:=w.mI h e b;omega;have:=F.mI h e b;omega
def kn.blank{G b:Nat}(w:G<U)a:kn C ek (a/\·=G/\·=U) G U U (U+1) b b (λ_=>False) (λ_=>False) (λ_ _=>False) a:=by
 refine⟨w,v,?_,?_,?_,?_,?_,?_,a1 _,?_,?_,?_⟩;omega;omega;omega;constructor;intro e;cases e;omega
 next _ g=>grind
 intro c;exact .one ⟨c,rfl,rfl⟩;omega;omega;simp;simp;simp
def kn.eY{G a:Nat}(w:G<U)(h:C a=U)(i:ek a=U+1):kn C ek (·=G/\·=U) G (U+1) U (U+2) a (a+1) (·=a) (·=a) (λ_ _=>False) False:=by
 let l:∀b,Way (·=G/\·=U) G b->b=G\/b=U:=by
  intro b e;cases e;omega
  next _ g=>omega
 let m:∀b,Way (·=G/\·=U) (U+1) b->b=U+1:=by
  intro b e
  induction e
  rfl
  next _ g o=>omega
 refine⟨w,v,?_,?_,?_,?_,?_,?_,jj _,?_,?_,?_⟩;omega;grind;intro c j k;obtain rfl:c=a:=v;exact⟨λ_=>rfl,λ_=>.one ⟨rfl,h⟩⟩;grind;grind;intro c j k;obtain rfl:c=a:=v;rw[i];exact⟨λ_=>rfl,λ_=>.refl _⟩;omega;omega;simp
def kn.star{q:Nat->Nat->Prop}{G e x J K:Nat}{A E:Nat->Prop}{I:Nat->Nat->Prop}{Q:Prop}(R:G<e)(F:kn C ek q e U (e+2) x J K A E I Q):kn C ek (λc a=>c=G/\a=e\/c=e/\a=e+1\/q c a\/c=U/\a=e) G (e+1) e x J K A E (λj k=>I j k\/E j/\A k) True:=by
 let W:=F.B2;generalize T:(λc a=>c=G/\a=e\/c=e/\a=e+1\/q c a\/c=U/\a=e)=r;let s:∀c a,r c a↔c=G/\a=e\/c=e/\a=e+1\/q c a\/c=U/\a=e:=λc a=>aM;let z:∀c a,c=e\/e+2<=c/\c<x->Way r c a->(e+2<=a/\a<x)/\(Way q c a\/Way q c U/\Way q e a)\/(a=e\/a=e+1)/\(c=e\/Way q c U):=by
  intro c a y g
  induction g
  rcases y with y|y;omega;exact .inl ⟨y,.inl<|.refl _⟩
  next g h B=>rcases(s _ _).1 h with h|h|h|h;omega;grind;let H:=F.src _ _ h;refine .inl ⟨⟨H.2.1,H.2.2.1⟩,?_⟩;rcases B with⟨_,b⟩|⟨i,b⟩;rcases b with b|⟨b,u⟩;exact .inl<|b.tail h;exact .inr ⟨b,u.tail h⟩;rcases i with i|i;subst i;rcases b with b|b;subst b;exact .inl<|.one h;exact .inr ⟨b,.one h⟩;omega;grind
 let P:∀a,Way r G a->a=G\/Way r e a:=by
  intro a g
  induction g
  omega
  next g h B=>rcases B with i|i;subst i;rcases(s _ _).1 h with w|w|w|w;obtain⟨_,rfl⟩:=w;exact .inr<|.refl _;omega;have:=F.src _ _ w;omega;omega;exact .inr<|i.tail h
 let t:∀{c a},Way q c a->Way r c a:=λg=>g.mono λ_ _ i=>(s _ _).2<|.inr<|.inr<|.inl i;let L:r G e:=(s _ _).2<|.inl ⟨rfl,rfl⟩;let N:r e (e+1):=(s _ _).2<|.inr<|.inl ⟨rfl,rfl⟩;let O:r U e:=(s _ _).2<|.inr<|.inr<|.inr ⟨rfl,rfl⟩;refine⟨R,v,?_,?_,?_,?_,?_,?_,F.le,F.qv,F.oX,?_⟩;intro c a h;rcases(s _ _).1 h with h|h|h|h;omega;omega;have:=F.src _ _ h;omega;omega;intro j l m;let⟨i,b,u,M⟩:=F.pl j l m;omega;intro k o p;let S:=F.pl k o p;constructor;intro g;rcases P _ g with i|i;omega;rcases z _ _ (.inl rfl) i with⟨_,b|⟨_,b⟩⟩|⟨b,_⟩;exact(F.wf k o p).1 b;exact(F.wf k o p).1 b;omega;intro g;exact .head L<|t<|(F.wf k o p).2 g;exact⟨λ_=>trivial,λ_=>.head L<|.one N⟩;intro j k l m o p;let D:=F.pl j l m;let S:=F.pl k o p;constructor;intro g;rcases z _ _ (.inr D.2.2.2) g with⟨_,b|⟨b,u⟩⟩|⟨b,_⟩;exact .inl<|(F.rR j k l m o p).1 b;exact .inr ⟨(F.wl j l m).1 b,(F.wf k o p).1 u⟩;omega;rintro(g|⟨i,b⟩);exact t<|(F.rR j k l m o p).2 g;exact(t<|(F.wl j l m).2 i).trans<|.head O<|t<|(F.wf k o p).2 b;intro j l m;let D:=F.pl j l m;constructor;intro g;rcases z _ _ (.inr D.2.2.2) g with⟨b,_⟩|⟨_,b⟩;omega;rcases b with b|b;omega;exact(F.wl j l m).1 b;intro g;exact(t<|(F.wl j l m).2 g).trans<|.head O<|.one N;rintro j k (g|⟨i,b⟩);exact F.mI j k g;exact⟨F.oX j i,F.qv k b⟩
end
def ao.ind{T:ao->Prop}(w:∀a,(∀b∈a.aq,T b)->T a):∀a,T a:=by
 let key:∀Y,∀a,SizeOf.sizeOf a<Y->T a:=by
  intro Y
  induction Y
  omega
  next Y e=>
   refineλa he=>w a λb c=>e b ?_
   have:SizeOf.sizeOf b<SizeOf.sizeOf a:=by cases a;have:=List.sizeOf_lt_of_mem c;simp[ao.aq] at this;simp;omega
   omega
 exactλa=>key _ a<|uM _
def jr{a:List ao}(w:U<a.length):(fy a)[U]?=some (bY (a.getD U default)):=by rw[agC w,tG]
theorem bZ{b:Type}{a:List b}{M:b}:U<a.length->a.getD U M∈a:=by simp_all
def mb(a:ao):Prop:=(1<=a.cc/\a.cc<=6)/\(a.cc<4->a.aq=[])/\(a.cc=6->a.aq.length=1/\0<=a.min/\a.min<=50/\(a.max=-1\/a.min<=a.max/\a.max<=50))/\a.aq.length<=3000/\(∀D∈a.set,0<=D.1/\D.1<=D.2/\D.2<=255)/\a.set.length<=256/\(∀b,0<b->b<a.set.length->(a.set.getD (b-1) default).2+2<=(a.set.getD b default).1)/\(a.cc≠3->a.set=[])/\(a.cc=3->a.set≠[])/\(a.cc≠6->a.min=0/\a.max=0)/\(a.cc=4\/a.cc=5->2<=a.aq.length)
mutual
def dx:ao->Prop|.mk F O b c a=>mb (.mk F O b c a)/\D9 a
def D9:List ao->Prop|[]=>True|a::b=>dx a/\D9 b
end
def XI:∀{a:List ao},D9 a↔∀b∈a,dx b|[]=>by simp[D9]|b::a=>by rw[D9,XI];simp
def nw{a:ao}:dx a↔mb a/\∀b∈a.aq,dx b:=by cases a;rw[dx,XI];rfl
mutual
def cr:ao->Nat|.mk F _ c a b=>if F=3 then 1 else if F=6 then Nat.min (dl b*(if a=-1 then(c+1).toNat else a.toNat)) 2001 else Nat.min (dl b) 2001
def dl:List ao->Nat|[]=>0|a::b=>cr a+dl b
end
mutual
def lW:ao->Bool|.mk F _ b _ a=>if F=2 then true else if F=4 then sc a else if F=5 then nh a else if F=6 then decide (b=0)||nh a else false
def sc:List ao->Bool|[]=>true|a::b=>lW a&&sc b
def nh:List ao->Bool|[]=>false|a::b=>lW a||nh b
end
structure aO where
 ag:List (List Nat)
 eY:List Int
 e3:List Nat
 ai:List au
 eF:List Nat
def ie(O:List (Int×Int)):au:=O.foldl (λa D=>a.add D.1.toNat D.2.toNat) bP
def aO.bc(Y:aO):aO:={Y with ag:=Y.ag++[[]],eY:=Y.eY++[-1]}
def aO.cx(Y:aO)(G a:Nat):aO:={Y with ag:=Y.ag.set G (Y.ag.getD G []++[a])}
def aO.sN(Y:aO)(C a:Nat)(O:au):aO:={Y with eY:=Y.eY.set C (Y.ai.length:Nat),e3:=Y.e3++[a],ai:=Y.ai++[O],eF:=Y.eF++[C]}
def gl(a:aO->Nat->aO×Nat):Nat->aO->Nat->aO×Nat|0,Y,G=>(Y,G)|F+1,Y,G=>gl a F (a Y G).1 (a Y G).2
def uf(a:aO->Nat->aO×Nat)(Y:aO)(G:Nat):aO:=(a (Y.bc.cx G Y.ag.length) G).1.cx (a (Y.bc.cx G Y.ag.length) G).2 Y.ag.length
def dk(a:aO->Nat->aO×Nat):Nat->aO->Nat->aO×Nat|0,Y,G=>(Y,G)|F+1,Y,G=>dk a F (uf a Y G) Y.ag.length
def jy(Y:aO)(G:Nat):aO:=(Y.bc.bc.cx G Y.ag.length).cx Y.ag.length<|Y.ag.length+1
def EP(a:aO->Nat->aO×Nat)(Y:aO)(G:Nat):aO:=(a (jy Y G) Y.ag.length).1.cx (a (jy Y G) Y.ag.length).2 Y.ag.length
def nB(a:aO->Nat->aO×Nat)(b c:Int)(Y:aO)(G:Nat):aO×Nat:=if c=-1 then(EP a (gl a b.toNat Y G).1 (gl a b.toNat Y G).2,(gl a b.toNat Y G).1.ag.length+1)
 else dk a (c-b).toNat (gl a b.toNat Y G).1 (gl a b.toNat Y G).2
mutual
def e8:ao->aO->Nat->aO×Nat
|.mk F O b c a,Y,G=>
 if cr (.mk F O b c a)=0 then((if lW (.mk F O b c a) then Y.bc.cx G Y.ag.length else Y.bc),Y.ag.length)
 else if F=3 then((Y.bc.bc.cx G Y.ag.length).sN Y.ag.length (Y.ag.length+1)<|ie O,Y.ag.length+1)
 else if F=4 then jI a Y G
 else if F=5 then(j7 a Y.bc G Y.ag.length,Y.ag.length)
 else if F=6 then u9 a b c Y G
 else(Y.bc.cx G Y.ag.length,Y.ag.length)
def jI:List ao->aO->Nat->aO×Nat|[],Y,G=>(Y,G)|a::b,Y,G=>jI b (e8 a Y G).1 (e8 a Y G).2
def j7:List ao->aO->Nat->Nat->aO|[],Y,_,_=>Y|a::c,Y,G,b=>j7 c ((e8 a Y G).1.cx (e8 a Y G).2 b) G b
def u9:List ao->Int->Int->aO->Nat->aO×Nat|[],_,_,Y,G=>(Y,G)|c::_,a,b,Y,G=>nB (e8 c) a b Y G
end
structure bf where
 first:List Nat
 last:List Nat
 empty:Bool
 none:Bool
structure aC where
 ai:List (List (Int×Int))
 bz:List (List Nat)
def iE(c:List (List Nat))(G e:List Nat):List (List Nat):=G.foldl (λa b=>a.set b<|c0 (a.getD b []) e) c
def oa(a b:bf):bf:=⟨if a.empty then c0 a.first b.first else a.first,if b.empty then c0 a.last b.last else b.last,a.empty&&b.empty,a.none||b.none⟩
def ns(a:aC)(b c:bf):aC:=⟨a.ai,iE a.bz b.last c.first⟩
def bf.jT(O:bf):bf:={O with empty:=true}
def iD(b:aC->aC×bf):Nat->aC->bf->aC×bf|0,a,P=>(a,P)|F+1,a,P=>iD b F (ns (b a).1 P (b a).2)<|oa P (b a).2
def mV(b:aC->aC×bf):Nat->aC->bf->aC×bf|0,a,P=>(a,P)|F+1,a,P=>mV b F (ns (b a).1 P (b a).2.jT)<|oa P (b a).2.jT
def Wg(a:aC)(O:bf):aC:=⟨a.ai,iE a.bz O.last O.first⟩
def nA(a:aC->aC×bf)(b e:Int)(c:aC):aC×bf:=if e=-1 then(ns (Wg (a (iD a b.toNat c ⟨[],[],true,false⟩).1).1 (a (iD a b.toNat c ⟨[],[],true,false⟩).1).2) (iD a b.toNat c ⟨[],[],true,false⟩).2 (a (iD a b.toNat c ⟨[],[],true,false⟩).1).2.jT,oa (iD a b.toNat c ⟨[],[],true,false⟩).2 (a (iD a b.toNat c ⟨[],[],true,false⟩).1).2.jT)
 else mV a (e-b).toNat (iD a b.toNat c ⟨[],[],true,false⟩).1 (iD a b.toNat c ⟨[],[],true,false⟩).2
mutual
def cB:ao->aC->aC×bf
|.mk F O c e b,a=>
 if cr (.mk F O c e b)=0 then(a,⟨[],[],lW<|.mk F O c e b,false⟩)
 else if F=3 then(⟨a.ai++[O],a.bz++[[]]⟩,⟨[a.ai.length],[a.ai.length],false,false⟩)
 else if F=4 then mz b a ⟨[],[],true,false⟩
 else if F=5 then nV b a ⟨[],[],false,false⟩
 else if F=6 then tn b c e a
 else(a,⟨[],[],true,false⟩)
def mz:List ao->aC->bf->aC×bf|[],a,P=>(a,P)|b::c,a,P=>mz c (ns (cB b a).1 P (cB b a).2)<|oa P (cB b a).2
def nV:List ao->aC->bf->aC×bf|[],a,P=>(a,P)|b::c,a,P=>nV c (cB b a).1 ⟨c0 P.first (cB b a).2.first,c0 P.last (cB b a).2.last,P.empty||(cB b a).2.empty,false⟩
def tn:List ao->Int->Int->aC->aC×bf|[],_,_,a=>(a,⟨[],[],true,false⟩)|e::_,b,c,a=>nA (cB e) b c a
end
def lY(a:ao):Nat:=if a.cc=3 then 1 else if a.cc=6 then Nat.min (dl a.aq*(if a.max=-1 then(a.min+1).toNat else a.max.toNat)) 2001 else Nat.min (dl a.aq) 2001
theorem tz a:cr a=lY a:=by cases a;rfl
theorem LV a:cr a<=2001:=by grind[tz,lY,Nat.min_le_right]
def SG{a:List ao}(w:U<a.length):dl (a.take (U+1))=dl (a.take U)+cr (a.getD U default):=by
 induction a generalizing U
 trivial
 next b a c=>
  cases U;simp[dl,Ci,cr]
  next U=>grind[dl,cr,default]
def LW a:dl a<=2001*a.length:=by
 induction a
 trivial
 next b a c=>grind[dl,List.length_cons,LV]
def oN(a:ao):Bool:=if a.cc=2 then true else if a.cc=4 then sc a.aq else if a.cc=5 then nh a.aq else if a.cc=6 then decide (a.min=0)||nh a.aq else false
def R0 a:lW a=oN a:=by cases a;rfl
theorem sk{a:List ao}:U<a.length->a.drop U=a.getD U default::a.drop (U+1):=by simp_all
def A8{a:List ao}(w:a.length=1):a=[a.getD 0 default]:=by obtain⟨b,rfl⟩:=Ce.1 w;rfl
def Pk:∀a,dx a->aA 129 [bY a] (q (cr a)):=by
 refine ao.ind λa D he=>?_;let⟨⟨⟨I,J⟩,K,m,L,M,N⟩,y⟩:=nw.1 he;let H:=LW a.aq;rw[tz];refine ff.of_wp (z:=gT) (o:=5000) [] (λ_=>(0,0)) ⟨[(0,bY a)],[],[]⟩ eW aZ gE ⟨func129,ax,rfl⟩ rfl rfl rfl rfl λs u C=>?_;let G:j2 a4 gT s fZ _ []:=⟨eW,aZ,u,gE,C⟩;refine dL a.aq.length (λb=>⟨[(1,g 1),(3,q<|Nat.min (dl<|a.aq.take b) 2001),(4,q b)],[(1,_)],[]⟩) (λb p=>?_) .r;apply j<;>intro x
 .let k:b<a.aq.length:=by rw[gA] at x;omega
  let E:=SG k;let F:=LV<|a.aq.getD b default;let l:Nat.min (dl<|a.aq.take b) 2001<=2001:=ach _ _;refine aJ b (bY<|a.aq.getD b default) ?_ (p:=jr k);refine az ?_ (i:=D _ (bZ k)<|y _<|bZ k);refine aL ?_;refine zn ((Nat.min (dl<|a.aq.take<|b+1) 2001:Nat)) ?_ (w:=aM);refine aL ?_;exact aB (b+1) (bo:=.r)
 obtain rfl:b=a.aq.length:=by grind[gA]
 rw[gq];let l:Nat.min (dl a.aq) 2001<=2001:=ach _ _;apply j<;>intro c
 .exact ae (w:=by rw[lY,ab c];rfl)
 refine fM ?_;apply j<;>intro e
 .let⟨O,P,Q,R⟩:=m e.1;let A:Nat.min (dl a.aq) 2001*(a.min+1).toNat<=2001*51:=yj l v;refine aL ?_;refine xC ((Nat.min (dl a.aq) 2001*(a.min+1).toNat:Nat)) ?_ (w:=aM);refine zn ((Nat.min (dl a.aq*(a.min+1).toNat) 2001:Nat)) ?_ (w:=aM);exact ae (w:=by rw[lY,aa c,ab e.1,ab e.2];rfl)
 apply j<;>intro h
 .cases m h;let B:¬a.max=-1:=λt=>e ⟨h,t⟩;let A:Nat.min (dl a.aq) 2001*a.max.toNat<=2001*50:=yj l v;refine xC ((Nat.min (dl a.aq) 2001*a.max.toNat:Nat)) ?_ (w:=aM);refine zn ((Nat.min (dl a.aq*a.max.toNat) 2001:Nat)) ?_ (w:=aM);exact ae (w:=by rw[lY,aa c,ab h,aa B];rfl)
 exact ae (w:=by rw[lY,aa c,aa h];rfl)
def aou:∀a,dx a->aA 189 [bY a] (.bool (lW a)):=by
 refine ao.ind λa u he=>?_;let⟨⟨⟨G,H⟩,I,A,J,K,L⟩,m⟩:=nw.1 he;rw[R0];refine ff.of_wp (z:=gT) (o:=5000) [] (λ_=>(0,0)) ⟨[(0,bY a)],[],[]⟩ eW aZ gE ⟨func189,ax,rfl⟩ rfl rfl rfl rfl λs B av=>?_;let C:j2 a4 gT s fZ _ []:=⟨eW,aZ,B,gE,av⟩;apply j<;>intro e
 .exact ae (w:=by rw[oN,ab e];rfl)
 apply j<;>intro h
 .refine eH a.aq.length (λb=>sc a.aq=sc (a.aq.drop b)) (λb=>⟨[(1,g 1),(3,q b)],[(1,_)],[]⟩) (λb p=>?_) rfl .r;apply j<;>intro x
  .let c:b<a.aq.length:=by rw[gA] at x;omega
   refine aJ b (bY<|a.aq.getD b default) ?_ (p:=jr c);refine az ?_ (i:=u _ (bZ c)<|m _<|bZ c);apply j<;>intro D
   .exact ae (w:=by rw[oN,aa e,ab h,p.2,sk c,sc,show lW (a.aq.getD b default)=false by simp_all];rfl)
   refine aL ?_;exact aB (b+1) ⟨v,by grind[sk,sc,lW,default]⟩ (bo:=.r)
  exact ae (w:=by rw[gA] at x;rw[oN,aa e,ab h,p.2,iv v];rfl)
 apply j<;>intro k
 .refine eH a.aq.length (λb=>nh a.aq=nh (a.aq.drop b)) (λb=>⟨[(1,g 1),(4,q b)],[(1,_)],[]⟩) (λb p=>?_) rfl .r;apply j<;>intro y
  .let c:b<a.aq.length:=by rw[gA] at y;omega
   refine aJ b (bY<|a.aq.getD b default) ?_ (p:=jr c);refine az ?_ (i:=u _ (bZ c)<|m _<|bZ c);apply j<;>intro E
   .exact ae (w:=by rw[oN,aa e,aa h,ab k,p.2,sk c,nh,show lW (a.aq.getD b default)=true by omega];rfl)
   refine aL ?_;exact aB (b+1) ⟨v,by grind[sk,nh,lW,default]⟩ (bo:=.r)
  exact ae (w:=by rw[gA] at y;rw[oN,aa e,aa h,ab k,p.2,iv v];rfl)
 apply j<;>intro l
 .let t:0<a.aq.length:=by have:=(A l).1;omega
  apply cs;intro F;refine gZ 0 (bY<|a.aq.getD 0 default) ?_ (p:=jr t) (av:=ax);refine bT ?_ (i:=u _ (bZ t)<|m _<|bZ t);exact rfl;exact ae (w:=by rw[oN,aa e,aa h,aa k,ab l,A8 (A l).1,nh,nh,Bool.or_false];rfl)
 exact ae (w:=by rw[oN,aa e,aa h,aa k,aa l];rfl)
def dg{a:List Nat}:U<a.length->(a.map q)[U]?=some (q (a.getD U 0)):=by simp_all
theorem EY{a:List Nat}:U<a.length->a.take (U+1)=a.take U++[a.getD U 0]:=by simp_all
theorem yT{a:List Nat}:U<a.length->a.drop U=a.getD U 0::a.drop (U+1):=by simp_all
theorem ar8{b c:List Nat}{a:Nat}(w:U<a):c0 (U::b) (a::c)=U::c0 b (a::c):=by rw[c0,ab w]
theorem ar9{b c:List Nat}{a:Nat}(w:¬U<a)(e:a<U):c0 (U::b) (a::c)=a::c0 (U::b) c:=by rw[c0,aa w,ab e]
def ar7{b c:List Nat}{a:Nat}:¬U<a->¬a<U->c0 (U::b) (a::c)=U::c0 b c:=by simp_all[c0,aa]
def B6 b c(C:b.length<=1000000)(D:c.length<=1000000):aA 133 [.f 1 (b.map q),.f 1 (c.map q)] (.f 1 ((c0 b c).map q)):=by
 refine aX func133 [] λs B=>?_;apply ay.dI 5 1 3 [5] none;refine cQ (List Nat×Nat×Nat) (λe=>⟨[(0,_),(1,_),(6,q e.2.1),(7,q e.2.2),(5,.d 5 0 (e.1.map q).length)],[(5,.n 1 3<|e.1.map q)],[]⟩) (λe=>e.2.1<=b.length/\e.2.2<=c.length/\e.1.length<=e.2.1+e.2.2/\c0 b c=e.1++c0 (b.drop e.2.1) (c.drop e.2.2)) (λe=>b.length-e.2.1+(c.length-e.2.2)) ([],0,0) (λ⟨P,a,F⟩ ⟨l,m,A,g⟩=>?_) ⟨c1 _,c1 _,a1 _,rfl⟩ .r;dsimp at l m A g⊢;refine dD ?_;apply j<;>intro E
 .refine c7 ?_;apply cs;intro I;apply b2;intro J;refine gZ a (q<|b.getD a 0) ?_ (p:=dg v);refine gZ F (q<|c.getD F 0) ?_ (p:=dg v);exact rfl;exact rfl;apply j<;>intro G
  .let h:a<b.length:=v;let x:(P++[b.getD a 0]).length<=a+1+F:=by rw[c_,pk];omega
   let p:a+1<=b.length:=h;let o:c0 b c=P++[b.getD a 0]++c0 (b.drop<|a+1) (c.drop F):=by rw[g,yT h,ge];rcases gh F c.length with i|i;grind[yT,ar8];grind[List.drop_eq_nil_of_le,ar6]
   refine aJ a (q<|b.getD a 0) ?_ (p:=dg v);refine dv ?_;refine eR ((P++[b.getD a 0]).map q) ?_ (aG:=af) (bq:=aK);apply dK<|(a+1:Nat);exact aB (P++[b.getD a 0],a+1,F) ⟨p,m,x,o⟩ aK .r
  let k:F<c.length:=v;let i:F+1<=c.length:=k;refine c7 ?_;apply cs;intro K;refine gZ F (q<|c.getD F 0) ?_ (p:=dg v);refine gZ a (q<|b.getD a 0) ?_ (p:=dg v);exact rfl;apply j<;>intro H
  .let y:(P++[c.getD F 0]).length<=a+(F+1):=by rw[c_,pk];omega
   let t:c0 b c=P++[c.getD F 0]++c0 (b.drop a) (c.drop<|F+1):=by rw[g,yT k,ge];rcases gh a b.length with w|w;grind[yT,ar9];grind[List.drop_eq_nil_of_le,JX]
   refine aJ F (q<|c.getD F 0) ?_ (p:=dg v);refine dv ?_;refine eR ((P++[c.getD F 0]).map q) ?_ (aG:=af) (bq:=aK);apply dK<|(F+1:Nat);exact aB (P++[c.getD F 0],a,F+1) ⟨l,i,y,t⟩ aK .r
  let h:a<b.length:=v;let p:a+1<=b.length:=h;let z:(P++[b.getD a 0]).length<=a+1+(F+1):=by rw[c_,pk];omega
  let u:c0 b c=P++[b.getD a 0]++c0 (b.drop<|a+1) (c.drop<|F+1):=by rw[g,yT h,yT k,ge,ar7 v v];rfl
  refine aJ a (q<|b.getD a 0) ?_ (p:=dg v);refine dv ?_;refine eR ((P++[b.getD a 0]).map q) ?_ (aG:=af) (bq:=aK);apply dK<|(a+1:Nat);apply dK<|(F+1:Nat);exact aB (P++[b.getD a 0],a+1,F+1) ⟨p,i,z,u⟩ aK .r
 rw[iv v,iv v,JX,gf] at g;rw[g];exact gB 5 ae
def iy(O:List (Int×Int)):V:=.f 2<|O.map fz
def nn(Y:Nat):V:=.agg [.d 5000 0 Y,.d 5001 0 Y,.bool false]
def xb{a:List (List Nat)}(w:U<a.length):(a.map bl)[U]?=some (bl (a.getD U [])):=by rw[ch,cg,bw w];rfl
def ef(a:List Nat):Prop:=hB a/\∀b∈a,b<2000
def ef.len{a:List Nat}(w:ef a):a.length<=2000:=by have:=Vb (mM:=0) (Y:=2000) w.1 λc b=>⟨c1 _,w.2 c b⟩;omega
theorem ef.nil:ef []:=⟨List.Pairwise.nil,λ_ w=>absurd w h2⟩
def ef.un{a b:List Nat}(c:ef a)(e:ef b):ef (c0 a b):=⟨tQ _ _ c.1 e.1,λg h=>((mO _ _ _).1 h).elim (c.2 g)<|e.2 g⟩
theorem ef.one{Y:Nat}(w:Y<2000):ef [Y]:=⟨Cg _ _,λb a=>by rw[cV] at a;omega⟩
def my(a:List (List Nat)):Prop:=∀b,ef<|a.getD b []
theorem tK{h:Type}{c:List h}{a:Nat}{g M:h}:(c.set U g).getD a M=if U=a/\a<c.length then g else c.getD a M:=by rw[cg,cg,oA];by_cases w:U=a;subst w;by_cases b:U<c.length;rw[ab rfl,ab b,ab ⟨rfl,b⟩];rfl;rw[ab rfl,aa b,aa λe=>b e.2];rw[s6 v];rw[aa w,aa λe=>w e.1]
def my.set{a:List (List Nat)}(w:my a){b:List Nat}(c:ef b)e:my (a.set e b):=by intro g;rw[tK];split;exact c;exact w g
def my.link{e:List Nat}(b:ef e):∀G{a:List (List Nat)},my a->my (iE a G e)|[],_,w=>w|c::G,_,w=>my.link b G<|w.set ((w c).un b) c
def Wf{b:List Nat}:∀G a,(iE a G b).length=a.length|[],a=>rfl|c::G,a=>by show(iE (a.set c _) G b).length=_;rw[Wf G];simp
def Wh{JL:List V}{bz:List (List Nat)}{G e1:List Nat}{Y:Nat}(o:Y=bz.length)(u:∀z∈G,z<bz.length)(A:bz.length<=2000)(w:my bz)(l:ef e1)(x:ef G):cK 191 [g 6000,.f 1 (G.map q),.f 1 (e1.map q)] [(6000,.cell 208 (nn Y)),(5000,.n 1 123 JL),(5001,.n 1 64 (bz.map bl))] (.tuple []) [(6000,.cell 208 (nn Y)),(5000,.n 1 123 JL),(5001,.n 1 64 ((iE bz G e1).map bl))]:=by
 refine cX func191 [] λF s B=>?_;let D:=x.len;refine cQ (Nat×List (List Nat)) (λb=>⟨[(0,_),(1,_),(2,_),(6,q b.1)],[(5000,.n 1 123 JL),(5001,.n 1 64<|b.2.map bl),(6000,.cell 208<|nn Y)],[]⟩) (λb=>b.1<=G.length/\b.2.length=Y/\my b.2/\iE bz G e1=iE b.2 (G.drop b.1) e1) (λb=>G.length-b.1) (0,bz) (λ⟨a,c⟩ ⟨y,m,h,k⟩=>?_) ⟨c1 _,o.symm,w,rfl⟩ .r;dsimp at y m h k⊢;apply j<;>intro C
 .let e:a<G.length:=v;let t:G.getD a 0<c.length:=by rw[m,o];exact u _<|bZ e
  let E:=((h<|G.getD a 0).un l).len;refine dC ?_;apply a_ λ_=>gZ a (q<|G.getD a 0) rfl (p:=dg e);apply a_ λ_=>gZ a (q<|G.getD a 0) rfl (p:=dg e);apply a_ λ_=>cz (G.getD a 0) rfl (p:=v);apply a_ λ_=>ft (bl<|c.getD (G.getD a 0) []) rfl (p:=xb t);apply a_ λ_=>bT rfl (i:=B6 (c.getD (G.getD a 0) []) e1 (by have:=(h<|G.getD a 0).len;omega) (by have:=l.len;omega));apply a_ λ_=>cz (G.getD a 0) rfl (p:=v);refine uE ((c.set (G.getD a 0)<|c0 (c.getD (G.getD a 0) []) e1).map bl) (bl<|c.getD (G.getD a 0) []) (bl<|c0 (c.getD (G.getD a 0) []) e1) ?_ (p:=xb t) (aG:=by rw[gN]);apply iK [];refine aL ?_;exact aB (a+1,c.set (G.getD a 0)<|c0 (c.getD (G.getD a 0) []) e1) ⟨e,by rw[lL];exact m,h.set ((h _).un l) _,by rw[k,yT e];rfl⟩ (by dsimp;omega) .r
 rw[iv v] at k;rw[k];exact cH
def sp(O:bf):V:=.agg [bl O.first,bl O.last,.bool O.empty,.bool O.none]
def F5(O:bf):Prop:=ef O.first/\ef O.last
def HM k c a b Y(p:Y=c.length)(l:∀q∈a.last,q<c.length)(m:c.length<=2000)(o:my c)(e:F5 a)(h:F5 b):cK 190 [g 6000,sp a,sp b] [(6000,.cell 208 (nn Y)),(5000,.n 1 123 k),(5001,.n 1 64 (c.map bl))] (sp (oa a b)) [(6000,.cell 208 (nn Y)),(5000,.n 1 123 k),(5001,.n 1 64 ((iE c a.last b.first).map bl))]:=by
 refine cX func190 [] λB s r=>?_;let x:=e.1.len;let y:=e.2.len;let z:=h.1.len;let A:=h.2.len;refine bk [(6000,6000),(5000,5000),(5001,5001)] ?_ (i:=Wh p l m o h.1 e.2);refine fM ?_;refine dD ?_;apply j<;>intro t
 focus refine az ?_ (i:=B6 a.first b.first v v)
 all_goals
  apply j<;>intro u
  focus refine az ?_ (i:=B6 a.last b.last v v)
  all_goals exact gX aZ (w:=by simp[oa, *];cases a.empty<;>cases a.none<;>rfl)
def jl(Y:aO)(a b:Nat):Prop:=b∈Y.ag.getD a []
structure oH(Y:aO):Prop where
 pl:Y.eY.length=Y.ag.length
 ek:Y.e3.length=Y.ai.length
 eF:Y.eF.length=Y.ai.length
 EZ:∀Z B,jl Y Z B->B<Y.ag.length
 Gg:∀A<Y.eF.length,Y.eF.getD A 0<Y.ag.length
 Gk:∀A<Y.e3.length,Y.e3.getD A 0<Y.ag.length
 BG:∀Z A:Nat,Y.eY.getD Z (-1)=(A:Int)↔A<Y.eF.length/\Y.eF.getD A 0=Z
 neg:∀Z, -1<=Y.eY.getD Z (-1)
structure wI(Y zm:aO):Prop where
 ag:Y.ag.length<=zm.ag.length
 eF:Y.eF<+:zm.eF
 ek:Y.e3<+:zm.e3
def FM(C ek:Nat->Nat)(Y:aO):Prop:=(∀a<Y.eF.length,C a=Y.eF.getD a 0)/\∀a<Y.e3.length,ek a=Y.e3.getD a 0
def YD{b:Type}{a o:List b}(w:a<+:o){M:b}:U<a.length->o.getD U M=a.getD U M:=by obtain⟨c,rfl⟩:=w;grind
theorem wI.trans{a b c:aO}(w:wI a b)(F:wI b c):wI a c:=⟨cA w.ag F.ag,w.eF.trans F.eF,w.ek.trans F.ek⟩
def FM.mono{C ek:Nat->Nat}{Y c:aO}(w:wI Y c)(F:FM C ek c):FM C ek Y:=⟨λb a=>(F.1 b<|h3 a w.eF.length_le).trans<|YD w.eF a,λb a=>(F.2 b<|h3 a w.ek.length_le).trans<|YD w.ek a⟩
theorem Di{e:Type}{b:List e}{a:Nat}{c M:e}:(b.set U c).getD a M=if U=a/\a<b.length then c else b.getD a M:=by grind
def vw{b:Type}{a o:List b}{M:b}:(a++o).getD U M=if U<a.length then a.getD U M else o.getD (U-a.length) M:=by grind
theorem C0{Y:aO}{a:Nat}:jl Y.bc U a↔jl Y U a:=by unfold jl aO.bc;grind
theorem yY{Y:aO}{G:Nat}(w:G<Y.ag.length)a b:jl (Y.cx G U) a b↔jl Y a b\/a=G/\b=U:=by unfold jl aO.cx;grind
def oY{Y:aO}:Y.bc.ag.length=Y.ag.length+1:=by simp[aO.bc]
theorem oZ{Y:aO}{G:Nat}:(Y.cx G U).ag.length=Y.ag.length:=by simp[aO.cx]
def zr{Y:aO}(w:oH Y):oH Y.bc:=by refine⟨by simp[aO.bc,w.pl],w.ek,w.eF,λa g e=>?_,λb c=>?_,λb c=>?_,λa b=>?_,λa=>?_⟩;rw[oY];exact wu<|w.EZ a g<|C0.1 e;rw[oY];exact wu<|w.Gg b c;rw[oY];exact wu<|w.Gk b c;show(Y.eY++[-1]).getD a _=_↔b<Y.eF.length/\Y.eF.getD b 0=a;rw[<-w.BG a b,vw];grind;show-1<=(Y.eY++[-1]).getD a _;rw[vw];split;exact w.neg a;grind
def xI{Y:aO}(w:oH Y){G:Nat}(i:G<Y.ag.length)(j:U<Y.ag.length):oH (Y.cx G U):=by refine⟨by rw[oZ];exact w.pl,w.ek,w.eF,λe g h=>?_,λb a=>?_,λb a=>?_,w.BG,w.neg⟩;rw[oZ];rcases(yY i e g).1 h with c|c;exact w.EZ e g c;omega;rw[oZ];exact w.Gg b a;rw[oZ];exact w.Gk b a
def C5{Y:aO}:wI Y Y.bc:=⟨by simp[oY,jj],z7 _,z7 _⟩
def w7{Y:aO}{G:Nat}:wI Y (Y.cx G U):=⟨by simp[oZ,a1],z7 _,z7 _⟩
def NE{b:List Nat}:∀G a,(iE a G b).length=a.length|[],a=>rfl|c::G,a=>by show(iE _ G b).length=_;rw[NE G];simp
def NF{c:List Nat}:∀G b a,a∉G->(iE b G c).getD a []=b.getD a []
|[],b,a,_=>rfl|g::G,b,a,w=>by
 show(iE _ G c).getD a []=_;rw[NF G _ a λe=>w<|ki _ e,Di,aa]
 (simp_all;omega)
theorem xt{g:List Nat}:∀G e a c,a<e.length->(c∈(iE e G g).getD a []↔c∈e.getD a []\/a∈G/\c∈g)|[],e,a,c,_=>by simp[iE]|h::G,e,a,c,w=>by show c∈(iE _ G g).getD a []↔_;rw[xt G _ a c b,Di,eT];by_cases rfl:h=a;rw[ab ⟨rfl,w⟩,mO];simp_all;grind
def ND{c:List Nat}(e:hB c):∀G b,(∀a,hB (b.getD a []))->∀a,hB ((iE b G c).getD a [])|[],b,w,a=>w a|g::G,b,w,a=>by refine ND e G _ (λa=>?_) a;grind[Di,tQ]
structure hh(pO Y:aO)(G e1:Nat)(g0 y:aC)(EG:bf):Prop where
 ok:oH Y
 ext:wI pO Y
 gs:y.ai.length=Y.ai.length
 iC:y.bz.length=Y.ai.length
 v6:∃new,y.ai=g0.ai++new/\Y.ai=pO.ai++new.map ie
 su:∀L<g0.bz.length,y.bz.getD L []=g0.bz.getD L []
 inc:∀L,hB (y.bz.getD L [])
 tR:hB EG.first
 xo:hB EG.last
 G:∀C ek,FM C ek Y->∃S:Nat->Nat->Prop,(∀Z B,jl Y Z B↔jl pO Z B\/S Z B)/\kn C ek S G e1 pO.ag.length Y.ag.length pO.ai.length Y.ai.length (·∈EG.first) (·∈EG.last) (λL A=>pO.ai.length<=L/\L<Y.ai.length/\A∈y.bz.getD L []) (EG.empty=true)
structure lj(Y:aO)(y:aC)(G:Nat):Prop where
 ok:oH Y
 G:G<Y.ag.length
 gs:y.ai.length=Y.ai.length
 iC:y.bz.length=Y.ai.length
 inc:∀L,hB (y.bz.getD L [])
def hh.B1{e Y:aO}{G:Nat}{a b:aC}{g:bf}(w:hh e Y G U a b g):U<Y.ag.length:=by let⟨h,_,c⟩:=w.G _ _ ⟨λ_ _=>rfl,λ_ _=>rfl⟩;exact c.B2.2
def hh.pre{c Y:aO}{G:Nat}{b a:aC}{e:bf}(w:hh c Y G U b a e):lj Y a U:=⟨w.ok,w.B1,w.gs,w.iC,w.inc⟩
def hh.JG{a Y:aO}{G:Nat}{b c:aC}{e:bf}(w:hh a Y G U b c e):a.ai.length<=Y.ai.length:=by cases w.v6;simp_all
theorem hh.join{l i q:aO}{G o:Nat}{p u m:aC}{c e:bf}(x:lj l p G)(w:hh l i G o p u c)(F:hh i q o U u m e):hh l q G U p (ns m c e) (oa c e):=by
 let z:∀a∈c.last,l.ai.length<=a/\a<i.ai.length:=by intro a k;let⟨L,_,I⟩:=w.G (i.eF.getD · 0) (i.e3.getD · 0) ⟨λ_ _=>rfl,λ_ _=>rfl⟩;exact I.oX a k
 let T:=w.JG;let W:=F.JG;refine⟨F.ok,w.ext.trans F.ext,F.gs,?_,?_,?_,?_,?_,?_,?_⟩;show(iE _ _ _).length=_;rw[NE];exact F.iC;let⟨J,N,O⟩:=w.v6;let⟨K,P,Q⟩:=F.v6;exact⟨J++K,by show m.ai=_;simp_all,b⟩;intro a k;show(iE _ _ _).getD a []=_;rw[NF _ _ _ (λH=>by have:=z a H;rw[x.iC] at k;omega),F.su a (by rw[w.iC];rw[x.iC] at k;omega),w.su a k];exact ND F.tR _ _ F.inc;show hB (if c.empty then c0 c.first e.first else c.first);split;exact tQ _ _ w.tR F.tR;exact w.tR;show hB (if e.empty then c0 c.last e.last else e.last);split;exact tQ _ _ w.xo F.xo;exact F.xo;intro C ek y;let⟨A,R,D⟩:=w.G C ek<|y.mono F.ext;let⟨B,S,E⟩:=F.G C ek y;refine⟨λr s=>A r s\/B r s,λr s=>aM,(D.ap1 E).congr (λ_ _=>lI) ?_ ?_ ?_ ?_⟩;intro g;show g∈(if c.empty then c0 c.first e.first else c.first)↔_;grind[mO];intro g;show g∈(if e.empty then c0 c.last e.last else e.last)↔_;split;simp_all[mO,or_comm];simp_all;intro a g;show l.ai.length<=a/\a<q.ai.length/\g∈(iE m.bz c.last e.first).getD a []↔_;constructor;rintro⟨h,j,fI⟩;rcases(xt _ _ a g (by rw[F.iC];exact j)).1 fI with t|t;rcases gh a i.ai.length with M|M;rw[F.su a (by rw[w.iC];exact M)] at t;simp_all;simp_all;simp_all;rintro(⟨h,j,fI⟩|⟨h,j,fI⟩|⟨h,j⟩);refine⟨h,v,(xt _ _ a g (by rw[F.iC];omega)).2<|.inl ?_⟩;rw[F.su a aM];exact fI;grind[xt];have:=z a h;exact⟨v,v,(xt _ _ a g (by rw[F.iC];omega)).2<|.inr ⟨h,j⟩⟩;show(c.empty&&e.empty)↔_;simp
def Acc(e Y:aO)(G g:Nat)(b c:aC)(a:bf):Prop:=Y=e/\g=G/\c=b/\a.first=[]/\a.last=[]/\a.empty\/hh e Y G g b c a
def hh.none{j Y:aO}{G:Nat}{e g c:aC}{a b:bf}(w:hh j Y G U e g a)(l:c=g)(h:b.first=a.first)(i:b.last=a.last)(k:b.empty=a.empty):hh j Y G U e c b:=by subst l;exact⟨w.ok,w.ext,w.gs,w.iC,w.v6,w.su,w.inc,by rw[h];exact w.tR,by rw[i];exact w.xo,by rw[h,i,k];exact w.G⟩
theorem Acc.join{e i j:aO}{G o k:Nat}{c g h:aC}{a b:bf}(m:lj e c G)(w:Acc e i G o c g a)(F:hh i j o k g h b):hh e j G k c (ns h a b) (oa a b):=by rcases w with⟨rfl,rfl,rfl,p,l,q⟩|w;apply F.none (by unfold ns;rw[l];rfl);grind[oa,JX];grind[oa,c0,JX];simp_all[oa,s2];exact w.join m F
def Acc.pre{c Y:aO}{G e:Nat}{a b:aC}{h:bf}(g:lj c a G)(w:Acc c Y G e a b h):lj Y b e:=by rcases w with⟨rfl,rfl,rfl,_⟩|w;exact g;exact w.pre
def wz(c:aO->Nat->aO×Nat)(b:aC->aC×bf):Prop:=∀Y G a,lj Y a G->hh Y (c Y G).1 G (c Y G).2 a (b a).1 (b a).2
def Vl{e:aO->Nat->aO×Nat}{c:aC->aC×bf}(j:wz e c){i:aO}{G:Nat}{g:aC}(h:lj i g G):∀F Y a b P,Acc i Y G a g b P->Acc i (gl e F Y a).1 G (gl e F Y a).2 g (iD c F b P).1 (iD c F b P).2|0,_,_,_,_,w=>w|F+1,Y,a,b,P,w=>Vl j h F _ _ _ _<|.inr<|w.join h<|j Y a b<|w.pre h
def Ox{c:aO->Nat->aO×Nat}{b:aC->aC×bf}(o:wz c b){Y:aO}{G:Nat}{a:aC}(w:lj Y a G):hh Y (uf c Y G) G Y.ag.length a (b a).1 (b a).2.jT:=by
 let h:G<Y.bc.ag.length:=by rw[oY];exact wu w.G
 let i:(Y.bc.cx G Y.ag.length).ag.length=Y.ag.length+1:=by rw[oZ,oY]
 let p:oH (Y.bc.cx G Y.ag.length):=xI (zr w.ok) h (by simp[oY,uM]);let F:=o _ G a ⟨p,by rw[i];exact wu w.G,w.gs,w.iC,w.inc⟩;let j:=F.B1;let r:=F.ext.ag;exists xI F.ok j v,((C5).trans w7).trans<|F.ext.trans w7,F.gs,F.iC,F.v6,F.su,F.inc,F.tR,F.xo;intro C ek m;let⟨q,l,g⟩:=F.G C ek m;rw[i] at g;let k:(uf c Y G).ag.length=(c _ G).1.ag.length:=oZ;rw[k];refine⟨_,λt u=>?_,((kn.blank w.G True).yC g).congr (λ_ _=>lI) ?_ ?_ ?_ ?_⟩;unfold uf;rw[yY j,l,yY h,C0];grind;intro e;show e∈(b a).2.first↔_;simp
 intro e;show e∈(b a).2.last↔_;simp;intro s e;rw[false_or];rfl;show true↔_;simp
def aqX{e:aO->Nat->aO×Nat}{c:aC->aC×bf}(q:wz e c){Y:aO}{G:Nat}{b:aC}(w:lj Y b G):hh Y (EP e Y G) G (Y.ag.length+1) b (Wg (c b).1 (c b).2) (c b).2.jT:=by
 let u:Y.bc.bc.ag.length=Y.ag.length+2:=by rw[oY,oY]
 let s:G<Y.bc.bc.ag.length:=by have:=w.G;omega
 let y:Y.ag.length<(Y.bc.bc.cx G Y.ag.length).ag.length:=by rw[oZ];omega
 let t:(jy Y G).ag.length=Y.ag.length+2:=by unfold jy;rw[oZ,oZ,u]
 let z:oH (jy Y G):=xI (xI (zr<|zr w.ok) s v) y (by grind[oZ]);let F:=q (jy Y G) Y.ag.length b ⟨z,v,w.gs,w.iC,w.inc⟩;let x:=F.B1;let J:=F.ext.ag;let A:oH (EP e Y G):=xI F.ok x v;let m:∀a∈(c b).2.last,Y.ai.length<=a/\a<(e (jy Y G) Y.ag.length).1.ai.length:=by intro a i;let⟨H,_,r⟩:=F.G _ _ ⟨λ_ _=>rfl,λ_ _=>rfl⟩;exact r.oX a i
 refine⟨A,(((C5).trans C5).trans<|(w7).trans w7).trans<|F.ext.trans w7,F.gs,?_,F.v6,?_,ND F.tR _ _ F.inc,F.tR,F.xo,?_⟩;show(iE _ _ _).length=_;rw[NE];exact F.iC;intro a i;show(iE _ _ _).getD a []=_;rw[NF _ _ _ (λj=>by have:=m a j;rw[w.iC] at i;omega)];exact F.su a i;intro C ek p;let⟨E,I,l⟩:=F.G C ek p;rw[t] at l;let o:(EP e Y G).ag.length=(e (jy Y G) Y.ag.length).1.ag.length:=oZ;rw[o];refine⟨_,λB D=>?_,(l.star w.G).congr (λ_ _=>lI) (λ_=>lI) (λ_=>lI) ?_ ?_⟩;show jl (aO.cx _ _ _) B D↔_;grind[jy,yY,C0];intro a k;show Y.ai.length<=a/\a<(e (jy Y G) Y.ag.length).1.ai.length/\k∈(iE (c b).1.bz (c b).2.last (c b).2.first).getD a []↔Y.ai.length<=a/\a<(e (jy Y G) Y.ag.length).1.ai.length/\_\/_;constructor;rintro⟨g,h,fI⟩;rcases(xt _ _ a k (by rw[F.iC];exact h)).1 fI with j|j;simp_all;simp_all;rintro(⟨g,h,fI⟩|⟨g,h⟩);grind[xt];have:=m a g;exact⟨this.1,this.2,(xt _ _ a k (by rw[F.iC];omega)).2<|.inr ⟨g,h⟩⟩;show true↔_;simp
def aiO{g:aO->Nat->aO×Nat}{e:aC->aC×bf}(j:wz g e){i:aO}{G:Nat}{h:aC}(c:lj i h G){F:Nat}Y a b P(w:Acc i Y G a h b P):hh i (gl g (F+1) Y a).1 G (gl g (F+1) Y a).2 h (iD e (F+1) b P).1 (iD e (F+1) b P).2:=by
 induction F generalizing Y a b P
 exact w.join c (j Y a b<|w.pre c)
 next F k=>exact k _ _ _ _<|.inr<|w.join c<|j Y a b<|w.pre c
theorem amc{g:aO->Nat->aO×Nat}{e:aC->aC×bf}(j:wz g e){i:aO}{G:Nat}{h:aC}(c:lj i h G)F Y a b P(w:Acc i Y G a h b P):hh i (dk g (F+1) Y a).1 G (dk g (F+1) Y a).2 h (mV e (F+1) b P).1 (mV e (F+1) b P).2:=by
 induction F generalizing Y a b P
 exact w.join c (Ox j<|w.pre c)
 next F k=>exact k _ _ _ _<|.inr<|w.join c<|Ox j<|w.pre c
def XX{e:aO->Nat->aO×Nat}{c:aC->aC×bf}(j:wz e c){h:aO}{G:Nat}{g:aC}(i:lj h g G):∀F Y a b P,hh h Y G a g b P->hh h (dk e F Y a).1 G (dk e F Y a).2 g (mV c F b P).1 (mV c F b P).2|0,_,_,_,_,w=>w|F+1,Y,a,b,P,w=>XX j i F _ _ _ _<|w.join i<|Ox j w.pre
def ao9{h:aO->Nat->aO×Nat}{g:aC->aC×bf}(e:wz h g){a b:Int}{Y:aO}{G:Nat}{c:aC}(w:lj Y c G)(l:b=-1\/0<b):hh Y (nB h a b Y G).1 G (nB h a b Y G).2 c (nA g a b c).1 (nA g a b c).2:=by let i:=Vl e w a.toNat Y G c ⟨[],[],true,false⟩<|.inl ⟨rfl,rfl,rfl,rfl,rfl,rfl⟩;unfold nB nA;split;exact i.join w<|aqX e<|i.pre w;by_cases k:0<a;obtain⟨F,j⟩:∃F,a.toNat=F+1:=⟨a.toNat-1,v⟩;rw[j];exact XX e w _ _ _ _ _<|aiO e w Y G c _<|.inl ⟨rfl,rfl,rfl,rfl,rfl,rfl⟩;obtain⟨F,j⟩:∃F,(b-a).toNat=F+1:=⟨(b-a).toNat-1,v⟩;grind[amc]
def LC{Y:aO}{G:Nat}{b:aC}(w:lj Y b G)(a:Bool):hh Y (if a then Y.bc.cx G Y.ag.length else Y.bc) G Y.ag.length b b ⟨[],[],a,false⟩:=by
 let e:G<Y.bc.ag.length:=by rw[oY];exact wu w.G
 let g:(if a then Y.bc.cx G Y.ag.length else Y.bc).ag.length=Y.ag.length+1:=by split;rw[oZ,oY];exact oY
 let c:(if a then Y.bc.cx G Y.ag.length else Y.bc).ai=Y.ai:=by split<;>rfl
 refine⟨?_,?_,by rw[c];exact w.gs,by rw[c];exact w.iC,aK,λ_ _=>rfl,w.inc,List.Pairwise.nil,List.Pairwise.nil,?_⟩;split;exact xI (zr w.ok) e (by simp[oY,uM]);exact zr w.ok;split;exact(C5).trans w7;simp[C5];intro C ek _;rw[g,c];refine⟨_,λh i=>?_,(kn.blank w.G<|a=true).congr (λ_ _=>lI) ?_ ?_ ?_ ?_⟩;grind[yY,C0];simp;simp
 (simp;omega)
 rfl
def ant{Y:aO}{G:Nat}{b:aC}(w:lj Y b G){O:List (Int×Int)}:hh Y ((Y.bc.bc.cx G Y.ag.length).sN Y.ag.length (Y.ag.length+1) (ie O)) G (Y.ag.length+1) b ⟨b.ai++[O],b.bz++[[]]⟩ ⟨[b.ai.length],[b.ai.length],false,false⟩:=by
 let q:Y.bc.bc.ag.length=Y.ag.length+2:=by rw[oY,oY]
 let p:G<Y.bc.bc.ag.length:=by have:=w.G;omega
 let g:oH (Y.bc.bc.cx G Y.ag.length):=xI (zr<|zr w.ok) p v;let i:(Y.bc.bc.cx G Y.ag.length).ag.length=Y.ag.length+2:=by rw[oZ,q]
 let r:(Y.bc.bc.cx G Y.ag.length).eY.length=Y.ag.length+2:=g.pl.trans i;let z:∀c a:Nat,(Y.bc.bc.cx G Y.ag.length).eY.getD c (-1)=a↔a<Y.eF.length/\Y.eF.getD a 0=c:=g.BG;refine⟨⟨?_,?_,?_,?_,?_,?_,?_,?_⟩,?_,?_,?_,?_,?_,?_,Cg _ _,Cg _ _,?_⟩;show(List.set _ _ _).length=_;rw[lL];exact g.pl;show(Y.e3++[_]).length=(Y.ai++[_]).length;simp[w.ok.ek];show(Y.eF++[_]).length=(Y.ai++[_]).length;simp[w.ok.eF];exact g.EZ;intro a s;show(Y.eF++[Y.ag.length]).getD a 0<(Y.bc.bc.cx G Y.ag.length).ag.length;rw[vw,i];split;rename_i e;have:=w.ok.Gg a e;omega;grind;intro a s;show(Y.e3++[Y.ag.length+1]).getD a 0<(Y.bc.bc.cx G Y.ag.length).ag.length;rw[vw,i];split;rename_i e;have:=w.ok.Gk a e;omega;grind;intro c a;show((Y.bc.bc.cx G Y.ag.length).eY.set Y.ag.length Y.ai.length).getD c (-1)=a↔a<(Y.eF++[Y.ag.length]).length/\(Y.eF++[Y.ag.length]).getD a 0=c;rw[Di,vw,r,c_,pk];let y:=w.ok.eF;split;rename_i e;obtain⟨rfl,_⟩:=e;constructor;grind;rintro⟨k,j⟩;split at j;rename_i e;have:=w.ok.Gg a e;omega;omega;grind;intro c;show-1<=((Y.bc.bc.cx G Y.ag.length).eY.set Y.ag.length Y.ai.length).getD c (-1);rw[Di];split;omega;exact g.neg c;refine⟨?_,Qp _ _,Qp _ _⟩;show Y.ag.length<=(Y.bc.bc.cx G Y.ag.length).ag.length;omega;show(b.ai++[O]).length=(Y.ai++[_]).length;simp[w.gs];show(b.bz++[[]]).length=(Y.ai++[_]).length;simp[w.iC];exists [O],rfl;grind;intro h;show hB ((b.bz++[[]]).getD h []);rw[vw];split;exact w.inc h;cases h-b.bz.length<;>exact List.Pairwise.nil;intro C ek l;let k:C Y.ai.length=Y.ag.length:=by have:=l.1 Y.ai.length (by show _<(Y.eF++[_]).length;simp[w.ok.eF]);rw[this];show(Y.eF++[_]).getD _ 0=_;rw[vw,aa (by rw[w.ok.eF];omega),w.ok.eF,ms];rfl
 let j:ek Y.ai.length=Y.ag.length+1:=by have:=l.2 Y.ai.length (by show _<(Y.e3++[_]).length;simp[w.ok.ek]);rw[this];show(Y.e3++[_]).getD _ 0=_;rw[vw,aa (by rw[w.ok.ek];omega),w.ok.ek,ms];rfl
 let m:((Y.bc.bc.cx G Y.ag.length).sN Y.ag.length (Y.ag.length+1)<|ie O).ai.length=Y.ai.length+1:=by show(Y.ai++[_]).length=_;simp
 let o:((Y.bc.bc.cx G Y.ag.length).sN Y.ag.length (Y.ag.length+1)<|ie O).ag.length=Y.ag.length+2:=i;rw[m,o];refine⟨_,λc t=>?_,(kn.eY (C:=C) (ek:=ek) w.G k j).congr (λ_ _=>lI) ?_ ?_ ?_ ?_⟩;show jl (Y.bc.bc.cx G Y.ag.length) c t↔_;grind[yY,C0];intro a;rw[cV,w.gs];intro a;rw[cV,w.gs];intro h a;constructor;rintro⟨u,x,fI⟩;have:h=Y.ai.length:=v;subst this;let lp:a∈(b.bz++[[]]).getD Y.ai.length []:=fI;rw[vw,aa (by rw[w.iC];omega),w.iC,ms] at lp;trivial;simp;simp
def adD{c Y e:aO}{G:Nat}{i m j:aC}{P g:bf}(s:lj c i G)(w:hh c Y G c.ag.length i m P)(F:hh Y e G U m j g):hh c (e.cx U c.ag.length) G c.ag.length i j ⟨c0 P.first g.first,c0 P.last g.last,P.empty||g.empty,false⟩:=by
 let t:=F.B1;let N:=w.B1;let L:=F.ext.ag;let O:=w.JG;let Q:=F.JG;refine⟨xI F.ok t v,(w.ext.trans F.ext).trans w7,F.gs,F.iC,?_,?_,F.inc,tQ _ _ w.tR F.tR,tQ _ _ w.xo F.xo,?_⟩;let⟨u,D,E⟩:=w.v6;let⟨x,H,I⟩:=F.v6;exact⟨u++x,b,by show e.ai=_;simp_all⟩;intro a p;rw[F.su a (by rw[w.iC];rw[s.iC] at p;omega),w.su a p];intro C ek o;let⟨y,J,q⟩:=w.G C ek<|o.mono<|F.ext.trans w7;let⟨z,K,r⟩:=F.G C ek o;rw[oZ];refine⟨_,λA B=>?_,(q.yC r).congr (λ_ _=>lI) (λk=>mO _ _ _) (λk=>mO _ _ _) ?_ ?_⟩;grind[yY];intro a k;show c.ai.length<=a/\a<e.ai.length/\k∈j.bz.getD a []↔_;constructor;rintro⟨h,l,fI⟩;rcases gh a _ with M|M;rw[F.su a (by rw[w.iC];exact M)] at fI;simp_all;simp_all;rintro(⟨h,l,fI⟩|⟨h,l,fI⟩);exists h,v;rw[F.su a aM];exact fI
 (simp_all;omega)
 simp
mutual
def Gp:∀a:ao,wz (e8 a) (cB a)|.mk F O i c g=>by intro Y G l w;rw[e8,cB];split;exact LC w _;rename_i b;split;exact ant w;rename_i h;split;rename_i j;refine RW g w (.inl ⟨rfl,rfl,rfl,rfl,rfl,rfl⟩)|>.2 ?_;rintro rfl;rw[cr,aa h,aa v] at b;exact b rfl;rename_i j;split;have:=LC w false;rw[aa af] at this;exact RX g w this;rename_i m;split;rename_i k;rw[cr,aa h,ab k] at b;refine aej g i c w (λa=>b (by rw[a,dl,wx];rfl)) ?_;rcases wj (c=-1) with a|a;exact .inl a;rw[aa a] at b;refine .inr ?_;rcases Int.lt_or_le 0 c with e|e;exact e;exact absurd (by rw[Int.toNat_of_nonpos e,Nat.mul_zero];rfl) b;have:=LC w true;rw[ab rfl] at this;exact this
def RW:∀(a:List ao){g:aO}{G:Nat}{e:aC}(h:lj g e G){Y:aO}{c:Nat}{b:aC}{P:bf},Acc g Y G c e b P->Acc g (jI a Y c).1 G (jI a Y c).2 e (mz a b P).1 (mz a b P).2/\(a≠[]->hh g (jI a Y c).1 G (jI a Y c).2 e (mz a b P).1 (mz a b P).2)|[],_,_,_,_,_,_,_,_,w=>⟨w,λb=>absurd rfl b⟩|l::a,g,G,e,h,Y,c,b,P,w=>by have i:=w.join h<|Gp l Y c b<|w.pre h;have j:=RW a h<|.inr i;rw[jI,mz];refine⟨j.1,λ_=>?_⟩;by_cases k:a=[];subst k;exact i;exact j.2 k
def RX:∀(c:List ao){a:aO}{G:Nat}{e:aC}(g:lj a e G){Y:aO}{b:aC}{P:bf},hh a Y G a.ag.length e b P->hh a (j7 c Y G a.ag.length) G a.ag.length e (nV c b P).1 (nV c b P).2|[],_,_,_,_,_,_,_,w=>w|h::c,a,G,e,g,Y,b,P,w=>by rw[j7,nV];exact RX c g<|adD g w<|Gp h Y G b ⟨w.ok,h3 g.G w.ext.ag,w.gs,w.iC,w.inc⟩
def aej:∀(b:List ao)(c a:Int){Y:aO}{G:Nat}{e:aC},lj Y e G->b≠[]->a=-1\/0<a->hh Y (u9 b c a Y G).1 G (u9 b c a Y G).2 e (tn b c a e).1 (tn b c a e).2|[],_,_,_,_,_,_,w,_=>absurd rfl w|g::b,c,a,Y,G,e,w,_,h=>by rw[u9,tn];exact ao9 (Gp g) w h
end
structure hg(y:aC):Prop where
 len:y.bz.length=y.ai.length
 p:y.ai.length<=2000
 bz:my y.bz
structure dQ(O:bf)(Y:Nat):Prop where
 ok:F5 O
 f:∀L∈O.first,L<Y
 l:∀L∈O.last,L<Y
def dQ.mono{O:bf}{Y:Nat}(w:dQ O Y)(c:Y<=U):dQ O U:=⟨w.ok,λb a=>h3 (w.f b a) c,λb a=>h3 (w.l b a) c⟩
theorem dQ.nil Y(a b:Bool):dQ ⟨[],[],a,b⟩ Y:=⟨⟨ef.nil,ef.nil⟩,λ_ w=>absurd w h2,λ_ w=>absurd w h2⟩
def dQ.jT{O:bf}{Y:Nat}(w:dQ O Y):dQ O.jT Y:=⟨w.ok,w.f,w.l⟩
theorem E5{b c:List Nat}{Y:Nat}(e:∀a∈b,a<Y)(g:∀a∈c,a<Y):∀a∈c0 b c,a<Y:=λa h=>((mO _ _ _).1 h).elim (e a)<|g a
theorem dQ.join{e a:bf}{Y:Nat}(b:dQ e Y)(c:dQ a Y):dQ (oa e a) Y:=by unfold oa;refine⟨⟨?_,?_⟩,?_,?_⟩;split;exact b.ok.1.un c.ok.1;exact b.ok.1;show ef (if a.empty then c0 _ _ else a.last);split;exact b.ok.2.un c.ok.2;exact c.ok.2;split;exact E5 b.f c.f;exact b.f;show∀g∈(if a.empty then c0 _ _ else a.last),g<Y;split;exact E5 b.l c.l;exact c.l
def hg.vH{a:aC}(b:hg a){G c:List Nat}(e:ef c):hg ⟨a.ai,iE a.bz G c⟩:=⟨(Wf G _).trans b.len,b.p,my.link e G b.bz⟩
theorem hg.join{b:aC}(g:hg b)c{a:bf}{Y:Nat}(e:dQ a Y):hg (ns b c a):=g.vH e.ok.1
def p4(c:aC->aC×bf)(b:Nat):Prop:=∀a,hg a->a.ai.length+b<=2000->hg (c a).1/\(c a).1.ai.length=a.ai.length+b/\dQ (c a).2 (a.ai.length+b)
def Ds{c:aC->aC×bf}{b:Nat}(i:p4 c b):∀F{a:aC}{P:bf},hg a->a.ai.length+F*b<=2000->dQ P a.ai.length->hg (iD c F a P).1/\(iD c F a P).1.ai.length=a.ai.length+F*b/\dQ (iD c F a P).2 (a.ai.length+F*b)|0,a,P,e,_,g=>⟨e,by rw[wx];rfl,by rw[wx];exact g⟩|F+1,a,P,e,m,g=>by rw[gg,td] at m⊢;let⟨k,l,h⟩:=i a e v;let j:(ns _ P (c a).2).ai.length=a.ai.length+b:=l;let o:=Ds i F (k.join P h) v (by rw[j];exact(g.mono v).join h);grind[iD]
theorem XU{c:aC->aC×bf}{b:Nat}(i:p4 c b):∀F{a:aC}{P:bf},hg a->a.ai.length+F*b<=2000->dQ P a.ai.length->hg (mV c F a P).1/\(mV c F a P).1.ai.length=a.ai.length+F*b/\dQ (mV c F a P).2 (a.ai.length+F*b)|0,a,P,e,_,g=>⟨e,by rw[wx];rfl,by rw[wx];exact g⟩|F+1,a,P,e,m,g=>by rw[gg,td] at m⊢;let⟨k,l,h⟩:=i a e v;let j:(ns _ P (c a).2.jT).ai.length=a.ai.length+b:=l;let o:=XU i F (k.join P h.jT) v (by rw[j];exact(g.mono v).join h.jT);grind[mV]
def ao6{e:aC->aC×bf}(k:p4 e U){a b:Int}{c:aC}(u:0<=a)(w:b=-1\/a<=b)(m:hg c)(h:c.ai.length+U*(if b=-1 then(a+1).toNat else b.toNat)<=2000):hg (nA e a b c).1/\(nA e a b c).1.ai.length=c.ai.length+U*(if b=-1 then(a+1).toNat else b.toNat)/\dQ (nA e a b c).2 (c.ai.length+U*(if b=-1 then(a+1).toNat else b.toNat)):=by unfold nA;by_cases g:b=-1;rw[ab g] at h⊢;rw[ab g];have i:(a+1).toNat=a.toNat+1:=v;rw[i,yi,wv,jk] at h⊢;have l:=Ds k a.toNat (P:=⟨[],[],true,false⟩) m v<|dQ.nil _ _ _;generalize iD e _ c _=o at l⊢;let⟨p,s,q⟩:=l;let⟨r,t,j⟩:=k o.1 p v;refine⟨(r.vH j.ok.1).join _ j.jT,?_,?_⟩;show(e o.1).1.ai.length=_;omega;exact(q.mono v).join (j.mono v).jT;rw[aa g] at h⊢;rw[aa g];have i:b.toNat=a.toNat+(b-a).toNat:=v;rw[i,yi,jk,jk U] at h⊢;have:=Ds k a.toNat (P:=⟨[],[],true,false⟩) m v<|dQ.nil _ _ _;grind[XU]
def Q6:∀{b:List ao}{a:aC}{P:bf},(∀c∈b,p4 (cB c) (cr c))->hg a->a.ai.length+dl b<=2000->dQ P a.ai.length->hg (mz b a P).1/\(mz b a P).1.ai.length=a.ai.length+dl b/\dQ (mz b a P).2 (a.ai.length+dl b)|[],a,P,_,h,_,i=>bB|c::b,a,P,g,h,m,i=>by rw[dl] at m⊢;let⟨k,l,e⟩:=g c (ji ..) a h v;let j:(ns _ P (cB c a).2).ai.length=a.ai.length+cr c:=l;let q:=Q6 (λp o=>g p<|ki _ o) (k.join P e) v (by rw[j];exact(i.mono v).join e);grind[mz]
def dQ.yC{c e:bf}{Y:Nat}(a:dQ c Y)(b:dQ e Y)(g h:Bool):dQ ⟨c0 c.first e.first,c0 c.last e.last,g,h⟩ Y:=⟨⟨a.ok.1.un b.ok.1,a.ok.2.un b.ok.2⟩,E5 a.f b.f,E5 a.l b.l⟩
def Ra:∀{b:List ao}{a:aC}{P:bf},(∀c∈b,p4 (cB c) (cr c))->hg a->a.ai.length+dl b<=2000->dQ P a.ai.length->hg (nV b a P).1/\(nV b a P).1.ai.length=a.ai.length+dl b/\dQ (nV b a P).2 (a.ai.length+dl b)|[],a,P,_,g,_,h=>bB|c::b,a,P,e,g,l,h=>by rw[dl] at l⊢;let⟨i,j,k⟩:=e c (ji ..) a g v;let p:=Ra (P:=⟨c0 _ _,c0 _ _,P.empty||(cB c a).2.empty,false⟩) (λo m=>e o<|ki _ m) i v (by rw[j];exact(h.mono v).yC k _ _);grind[nV]
def yz:∀a,dx a->p4 (cB a) (cr a):=ao.ind λa z he m i g=>by
 let⟨⟨⟨D,I⟩,A,B,J,K,L,M,N,E,G,H⟩,w⟩:=nw.1 he;let⟨F,O,h,e,c⟩:=a;dsimp[ao.cc,ao.aq,ao.min,ao.max,ao.set] at D I A B J K L M N E G H w z;have b:cr (.mk F O h e c)=if F=3 then 1 else if F=6 then Nat.min (dl c*(if e=-1 then(h+1).toNat else e.toNat)) 2001 else Nat.min (dl c) 2001:=tz<|.mk F O h e c
 rw[cB];by_cases l:cr (.mk F O h e c)=0;rw[ab l,l];exact⟨i,rfl,dQ.nil _ _ _⟩;rw[aa l];have p:∀k,cr (.mk F O h e c)=Nat.min k 2001->k=cr (.mk F O h e c):=λk S=>by grind
 have q:∀a∈c,p4 (cB a) (cr a):=λa u=>z a u<|w a u;by_cases r:F=3;rw[ab r] at b⊢;rw[b] at g⊢;have x:m.ai.length<2000:=v;refine⟨⟨by rw[c_,c_,i.len];rfl,aK,λj=>?_⟩,af,⟨⟨ef.one x,ef.one x⟩,λj y=>?_,λj y=>?_⟩⟩;show ef ((m.bz++[[]]).getD j []);rw[cg,lK];split;rw[<-cg];exact i.bz j;cases j-m.bz.length;exact ef.nil
 next T=>exact ef.nil
 rw[cV.1 y];omega;grind;rw[aa r] at b⊢;by_cases s:F=4;rw[ab s,aa v] at*;have:=p _ b;rw[<-this] at g⊢;exact Q6 q i g<|dQ.nil _ _ _;rw[aa s];by_cases t:F=5;rw[ab t];rw[aa v] at b;have:=p _ b;rw[<-this] at g⊢;exact Ra q i g<|dQ.nil _ _ _;rw[aa t];by_cases o:F=6;rw[ab o] at b⊢;let⟨P,Q,U,R⟩:=B o;obtain⟨k,rfl⟩:=Ce.1 P;have:=p _ b;rw[dl,dl,q2] at this;rw[<-this] at g⊢;rw[tn];exact ao6 (q k<|cV.2 rfl) Q (R.imp id (·.1)) i g;rw[aa o] at b⊢;have C:=A v;subst C;exfalso;rw[dl] at b;exact l<|b.trans aj
def QI(b:ao):Prop:=dx b->∀a:aC,hg a->a.ai.length+cr b<=2000->∀Y c:Nat,Y=a.ai.length->c=(cB b a).1.ai.length->cK 130 [g 6000,bY b] [(6000,.cell 208<|nn Y),(5000,.n 1 123<|a.ai.map iy),(5001,.n 1 64<|a.bz.map bl)]
 (sp (cB b a).2) [(6000,.cell 208<|nn c),(5000,.n 1 123<|(cB b a).1.ai.map iy),(5001,.n 1 64<|(cB b a).1.bz.map bl)]
def agW a:Ct 1 (a.map bl++[.aQ]) ((a++[[]]).map bl):=by refine⟨af,λe g h b c=>?_⟩;grind[List.getElem?_append_right,bl,Option.some.inj]
def K_ a b:cB a b=if cr a=0 then(b,⟨[],[],lW a,false⟩) else if a.cc=3 then(⟨b.ai++[a.set],b.bz++[[]]⟩,⟨[b.ai.length],[b.ai.length],false,false⟩) else if a.cc=4 then mz a.aq b ⟨[],[],true,false⟩ else if a.cc=5 then nV a.aq b ⟨[],[],false,false⟩ else if a.cc=6 then tn a.aq a.min a.max b else(b,⟨[],[],true,false⟩):=by cases a;rfl
theorem GA{a:ao}(b:a.cc≠3)(c:a.cc≠6):cr a<=2000->dl a.aq=cr a:=by have:=tz a;rw[lY,aa b,aa c] at this<;>grind
def SI{a:ao}(b:a.cc=6):cr a<=2000->dl a.aq*(if a.max=-1 then(a.min+1).toNat else a.max.toNat)=cr a:=by have:=tz a;rw[lY,aa v,ab b] at this<;>grind
def adm{c:ao}(a9:∀aN∈c.aq,dx aN->QI aN)(aR:dx c){h:aC}(aD:hg h)(bD:h.ai.length+cr c<=2000){Y:Nat}(aI:Y=h.ai.length)(ak:U=(cB c h).1.ai.length):cK 130 [g 6000,bY c] [(6000,.cell 208 (nn Y)),(5000,.n 1 123 (h.ai.map iy)),(5001,.n 1 64 (h.bz.map bl))] (sp (cB c h).2) [(6000,.cell 208 (nn U)),(5000,.n 1 123 ((cB c h).1.ai.map iy)),(5001,.n 1 64 ((cB c h).1.bz.map bl))]:=by
 refine cX func130 [2020,2027,2034] λb7 s bc=>?_;have bb:=bc.tM;have av:=bc.av;have bB:=yz c aR h aD bD;have k:=K_ c h;obtain⟨⟨⟨bV,bW⟩,bX,bI,b0,b1⟩,a6⟩:=nw.1 aR;have bR:=aD.len;have a0:cr c<=2000:=v;generalize cB c h=aN at bB k ak⊢;refine kN.mk nofun λ_=>?_;refine az ?_ (i:=Pk c aR);apply j<;>intro bM
 .rw[ab v] at k;subst k;obtain rfl:Y=U:=aI.trans ak.symm;refine az ?_ (i:=aou c aR);exact fA 1 4 [0,1] (gX aZ)
 rw[aa v] at k;apply j<;>intro bN
 .simp_all
 apply j<;>intro bO
 .simp_all
 apply j<;>intro bi
 .rw[ab bi] at k;subst k;rw[c_] at ak;have bQ:cr c=1:=by rw[tz,lY,ab bi]
  subst aI;have bu:V.agg [.d 5000 0 ((h.ai++[c.set]).map iy).length,.d 5001 0 (h.bz.map bl++[V.aQ]).length,.bool false]=nn U:=by rw[nn,show((h.ai++[c.set]).map iy).length=U by simp_all,show(h.bz.map bl++[V.aQ]).length=U by simp_all]
  apply j<;>intro bP
  .omega
  refine dC ?_;refine a_ (λ_=>jv rfl) ?_;refine jB 56 ((h.ai++[c.set]).map iy) ?_ (aG:=p3) (hlen:=af) (bq:=aM) (lu:=ax) (vA:=ax);refine eJ ?_;refine iK [(56,5000)] ?_;refine dv ?_;refine eR (h.bz.map bl++[.aQ]) ?_ (hlen:=b) (bq:=aM);refine dv ?_;refine dv ?_;exact ag2 1 5001 ((h.bz++[[]]).map bl) (agW h.bz)<|gX aZ (h9:=⟨cW some<|cW (bt.cell 208) bu,rfl,rfl,trivial⟩)
 apply j<;>intro bj
 .rw[aa v,ab bj] at k;have a3:=GA v v a0;refine ay.jL 1 6 [0,1] ?_;refine cP ?_;refine cQ (Nat×aC×bf×Nat) (λa=>⟨[(0,g 6000),(3,g 3),(4,g 4),(6,g 6),(7,q a.1)],[(3,.cell 126<|bY c),(4,.cell 210<|V.zero Do.z),(6,.cell 210<|sp a.2.2.1),(5000,.n 1 123<|a.2.1.ai.map iy),(5001,.n 1 64<|a.2.1.bz.map bl),(6000,.cell 208<|nn a.2.2.2)],[]⟩) (λa=>a.1<=c.aq.length/\hg a.2.1/\a.2.1.ai.length+dl (c.aq.drop a.1)<=2000/\dQ a.2.2.1 a.2.1.ai.length/\aN=mz (c.aq.drop a.1) a.2.1 a.2.2.1/\a.2.2.2=a.2.1.ai.length) (λa=>c.aq.length-a.1) (0,h,⟨[],[],true,false⟩,Y) (λa ap=>?_) ⟨c1 _,aD,aK,dQ.nil _ _ _,k,aI⟩;obtain⟨m,e,u,S⟩:=a;obtain⟨aH,H,Q,A,o,R⟩:=ap;dsimp only at aH H Q A o R⊢;apply j<;>intro bm
  .have B:m<c.aq.length:=by rw[gA] at bm;omega
   have a4:=sk B;rw[a4] at Q o;rw[dl] at Q;rw[mz] at o;have P:=a6 _<|bZ (M:=default) B;have K:=yz (c.aq.getD m default) P e H v;obtain⟨r,x⟩:∃r,r=(cB (c.aq.getD m default) e).1.ai.length:=⟨_,rfl⟩;have N:=a9 _ (bZ B) P P e H v S r R x;generalize cB (c.aq.getD m default) e=ag at o K x N;obtain⟨t,w⟩:=ag;dsimp only at o K x N;obtain⟨C,aw,L⟩:=K;have al:dQ w t.ai.length:=by rw[aw];exact L
   refine ay.GP [8,0] eW aZ bb gE av rfl ax ?_;refine a_ (λ_=>aJ m (bY<|c.aq.getD m default) rfl (p:=jr B)) ?_;refine Fe [(6000,6000),(5000,5000),(5001,5001)] [] ?_ (i:=N);refine Fe [(6000,6000),(5000,5000),(5001,5001)] [] ?_ (i:=HM (t.ai.map iy) t.bz u w r (x.trans C.len.symm) (λae ad=>by have:=A.l ae ad;rw[C.len];omega) (by rw[C.len]<;>omega) C.bz A.ok L.ok);refine eJ ?_;refine fm ?_;refine aL ?_;exact aB (m+1,ns t u w,oa u w,r) ⟨B,C.join u L,by show t.ai.length+dl (c.aq.drop (m+1))<=2000;omega,(A.mono (show e.ai.length<=t.ai.length by omega)).join al,o,x⟩ v
  rw[gA] at bm;rw[iv v,mz] at o;subst o;obtain rfl:S=U:=R.trans ak.symm;exact gX aZ
 rw[aa v,aa bj] at k;apply j<;>intro bn
 .rw[ab bn] at k;have a3:=GA v v a0;refine ay.jL 1 8 [0,1] ?_;refine cP ?_;refine cQ (Nat×aC×bf×Nat) (λa=>⟨[(0,g 6000),(3,g 3),(4,g 4),(8,g 8),(9,q a.1)],[(3,.cell 126<|bY c),(4,.cell 210<|V.zero Do.z),(8,.cell 210<|sp a.2.2.1),(5000,.n 1 123<|a.2.1.ai.map iy),(5001,.n 1 64<|a.2.1.bz.map bl),(6000,.cell 208<|nn a.2.2.2)],[]⟩) (λa=>a.1<=c.aq.length/\hg a.2.1/\a.2.1.ai.length+dl (c.aq.drop a.1)<=2000/\dQ a.2.2.1 a.2.1.ai.length/\aN=nV (c.aq.drop a.1) a.2.1 a.2.2.1/\a.2.2.2=a.2.1.ai.length) (λa=>c.aq.length-a.1) (0,h,⟨[],[],false,false⟩,Y) (λa ap=>?_) ⟨c1 _,aD,aK,dQ.nil _ _ _,k,aI⟩;obtain⟨m,e,u,S⟩:=a;obtain⟨aH,H,Q,A,o,R⟩:=ap;dsimp only at aH H Q A o R⊢;apply j<;>intro bd
  .have B:m<c.aq.length:=by rw[gA] at bd;omega
   have a4:=sk B;rw[a4] at Q o;rw[dl] at Q;rw[nV] at o;have P:=a6 _<|bZ (M:=default) B;have K:=yz (c.aq.getD m default) P e H v;obtain⟨r,x⟩:∃r,r=(cB (c.aq.getD m default) e).1.ai.length:=⟨_,rfl⟩;have N:=a9 _ (bZ B) P P e H v S r R x;generalize cB (c.aq.getD m default) e=ag at o K x N;obtain⟨t,w⟩:=ag;dsimp only at o K x N;obtain⟨C,aw,L⟩:=K;have al:dQ w t.ai.length:=by rw[aw];exact L
   have b5:=A.ok.1.len;have b6:=A.ok.2.len;have m1:=L.ok.1.len;have pX:=L.ok.2.len;refine aJ m (bY<|c.aq.getD m default) ?_ (p:=jr B);refine bk [(6000,6000),(5000,5000),(5001,5001)] ?_ (i:=N);refine dC ?_;refine a_ (λ_=>bT rfl (i:=B6 u.first w.first v v)) ?_;refine a_ (λ_=>bT rfl (i:=B6 u.last w.last v v)) ?_;refine Ji (λbv=>?_) λbv=>?_
   .refine eJ ?_;refine fm ?_;refine aL ?_;exact aB (m+1,t,⟨c0 u.first w.first,c0 u.last w.last,true,false⟩,r) ⟨B,C,aK,(A.mono<|show e.ai.length<=t.ai.length by omega).yC al _ _,b,x⟩ v
   refine eJ ?_;refine fm ?_;refine aL ?_;exact aB (m+1,t,⟨c0 u.first w.first,c0 u.last w.last,w.empty,false⟩,r) ⟨B,C,aK,(A.mono<|show e.ai.length<=t.ai.length by omega).yC al _ _,b,x⟩ v
  rw[gA] at bd;rw[iv v,nV] at o;subst o;obtain rfl:S=U:=R.trans ak.symm;exact gX aZ
 rw[aa bn] at k;have aU:c.cc=6:=v;rw[ab aU] at k;obtain⟨bK,b2,b3,b4⟩:=bI aU;have aS:=A8 bK;have aE:0<c.aq.length:=v;have P:=a6 _<|bZ (M:=default) aE;have bA:=a9 _ (bZ (M:=default) aE) P P;have bo:=SI aU a0;have bE:tn c.aq c.min c.max h=nA (cB (c.aq.getD 0 default)) c.min c.max h:=by generalize c.aq.getD 0 default=bJ at aS⊢;rw[aS];rfl
 have a3:dl c.aq=cr (c.aq.getD 0 default):=by generalize c.aq.getD 0 default=bJ at aS⊢;rw[aS,dl,dl];rfl
 rw[a3] at bo;rw[bE] at k;have aO:=yz (c.aq.getD 0 default) P;have bx:∃y X,y=cB (c.aq.getD 0 default)/\X=cr (c.aq.getD 0 default):=⟨_,_,rfl,rfl⟩;obtain⟨y,X,a5,a2⟩:=bx;rw[<-a5,<-a2] at aO;rw[<-a5] at k;rw[<-a2] at bo;have a8:∀e:aC,hg e->e.ai.length+X<=2000->∀S r:Nat,S=e.ai.length->r=(y e).1.ai.length->cK 130 [g 6000,bY (c.aq.getD 0 default)] [(6000,.cell 208 (nn S)),(5000,.n 1 123 (e.ai.map iy)),(5001,.n 1 64 (e.bz.map bl))] (sp (y e).2) [(6000,.cell 208 (nn r)),(5000,.n 1 123 ((y e).1.ai.map iy)),(5001,.n 1 64 ((y e).1.bz.map bl))]:=by rw[a5,a2];exact bA
 have aX:∀F:Nat,F<=(if c.max=-1 then(c.min+1).toNat else c.max.toNat)->h.ai.length+F*X<=2000:=λF bC=>by have:=Ck X bC;grind
 refine ay.jL 1 11 [0,1] ?_;refine cP ?_;refine cQ (Nat×aC×bf×Nat) (λa=>⟨[(0,g 6000),(3,g 3),(4,g 4),(11,g 11),(12,q a.1)],[(3,.cell 126<|bY c),(4,.cell 210<|V.zero Do.z),(11,.cell 210<|sp a.2.2.1),(5000,.n 1 123<|a.2.1.ai.map iy),(5001,.n 1 64<|a.2.1.bz.map bl),(6000,.cell 208<|nn a.2.2.2)],[]⟩) (λa=>a.1<=c.min.toNat/\hg a.2.1/\a.2.1.ai.length=h.ai.length+a.1*X/\dQ a.2.2.1 a.2.1.ai.length/\iD y c.min.toNat h ⟨[],[],true,false⟩=iD y (c.min.toNat-a.1) a.2.1 a.2.2.1/\a.2.2.2=a.2.1.ai.length) (λa=>c.min.toNat-a.1) (0,h,⟨[],[],true,false⟩,Y) (λa ap=>?_) ⟨c1 _,aD,af,dQ.nil _ _ _,rfl,aI⟩;obtain⟨m,e,u,S⟩:=a;obtain⟨aH,H,Q,A,o,R⟩:=ap;dsimp only at aH H Q A o R⊢;refine fM ?_;apply j<;>intro be
 .have B:m<c.min.toNat:=by simp[eg] at be;omega
  have aA:=aX (m+1) (by split<;>omega);rw[nP] at aA;rw[show c.min.toNat-m=c.min.toNat-(m+1)+1 by omega,iD] at o;have K:=aO e H v;obtain⟨r,x⟩:∃r,r=(y e).1.ai.length:=⟨_,rfl⟩;have N:=a8 e H v S r R x;generalize y e=ag at o K x N;obtain⟨t,w⟩:=ag;dsimp only at o K x N;obtain⟨C,aw,L⟩:=K;have al:dQ w t.ai.length:=by rw[aw];exact L
  refine ay.GP [7,0] eW aZ bb gE av rfl ax ?_;refine a_ (λ_=>aJ 0 (bY<|c.aq.getD 0 default) rfl (av:=ax) (p:=jr aE)) ?_;refine Fe [(6000,6000),(5000,5000),(5001,5001)] [] ?_ (i:=N);refine Fe [(6000,6000),(5000,5000),(5001,5001)] [] ?_ (i:=HM (t.ai.map iy) t.bz u w r (x.trans C.len.symm) (λae ad=>by have:=A.l ae ad;rw[C.len];omega) (by rw[C.len]<;>omega) C.bz A.ok L.ok);refine eJ ?_;refine fm ?_;refine aL ?_;exact aB (m+1,ns t u w,oa u w,r) ⟨B,C.join u L,by show t.ai.length=h.ai.length+(m+1)*X;grind,(A.mono<|show e.ai.length<=t.ai.length by omega).join al,o,x⟩ v
 have bp:m=c.min.toNat:=by simp[eg] at be;omega
 rw[bp,ms,iD] at o;rw[nA,o] at k;dsimp only at k;rw[bp] at Q;refine cQ (Int×aC×bf×Nat) (λa=>⟨[(0,g 6000),(3,g 3),(4,g 4),(11,g 11),(13,.int .i64 a.1)],[(3,.cell 126<|bY c),(4,.cell 210<|V.zero Do.z),(11,.cell 210<|sp a.2.2.1),(5000,.n 1 123<|a.2.1.ai.map iy),(5001,.n 1 64<|a.2.1.bz.map bl),(6000,.cell 208<|nn a.2.2.2)],[]⟩) (λa=>(c.min<=a.1/\(a.1<=c.max\/a.1=c.min))/\hg a.2.1/\a.2.1.ai.length=h.ai.length+a.1.toNat*X/\dQ a.2.2.1 a.2.1.ai.length/\mV y (c.max-c.min).toNat e u=mV y (c.max-a.1).toNat a.2.1 a.2.2.1/\a.2.2.2=a.2.1.ai.length) (λa=>(c.max-a.1).toNat) (c.min,e,u,S) (λa ap=>?_) ⟨⟨zY _,.inr rfl⟩,H,Q,A,rfl,R⟩;obtain⟨oT,T,am,ba⟩:=a;obtain⟨⟨bG,bF⟩,aF,bH,an,W,aT⟩:=ap;dsimp only at bF bG aF bH an W aT⊢;refine fM ?_;apply j<;>intro bg
 .have B:oT<c.max:=by simp[eg] at bg;omega
  have aA:=aX (oT.toNat+1) (by rw[aa v];omega);rw[nP] at aA;rw[show(c.max-oT).toNat=(c.max-(oT+1)).toNat+1 by omega,mV] at W;have ah:=aO T aF v;obtain⟨I,E⟩:∃I,I=(y T).1.ai.length:=⟨_,rfl⟩;have aj:=a8 T aF v ba I aT E;generalize y T=ag at W ah E aj;obtain⟨D,J⟩:=ag;dsimp only at W ah E aj;obtain⟨O,aV,Z⟩:=ah;have aW:dQ J D.ai.length:=by rw[aV];exact Z
  refine aJ 0 (bY<|c.aq.getD 0 default) ?_ (av:=ax) (p:=jr aE);refine bk [(6000,6000),(5000,5000),(5001,5001)] ?_ (i:=aj);refine bk [(6000,6000),(5000,5000),(5001,5001)] ?_ (i:=HM (D.ai.map iy) D.bz am J.jT I (E.trans O.len.symm) (λae ad=>by have:=an.l ae ad;rw[O.len];omega) (by rw[O.len]<;>omega) O.bz an.ok Z.jT.ok);refine aL ?_;exact aB (oT+1,ns D am J.jT,oa am J.jT,I) ⟨⟨v,.inl<|show oT+1<=c.max by omega⟩,O.join am Z.jT,by show D.ai.length=h.ai.length+(oT+1).toNat*X;rw[show(oT+1).toNat=oT.toNat+1 by omega,nP];omega,(an.mono (show T.ai.length<=D.ai.length by omega)).join aW.jT,W,E⟩ v
 have bU:c.max<=oT:=by simp[eg] at bg;omega
 rw[show(c.max-oT).toNat=0 by omega,mV] at W;apply j<;>intro aY
 .rw[ab aY] at k;have bS:oT=c.min:=v;rw[show(c.max-c.min).toNat=0 by omega,mV] at W;have br:e=T:=cW Prod.fst W;have bs:u=am:=cW Prod.snd W;rw[br,bs] at k;have aA:=aX (oT.toNat+1) (by rw[ab aY];omega);rw[nP] at aA;have ah:=aO T aF v;obtain⟨I,E⟩:∃I,I=(y T).1.ai.length:=⟨_,rfl⟩;have aj:=a8 T aF v ba I aT E;generalize y T=ag at k ah E aj;obtain⟨D,J⟩:=ag;dsimp only at k ah E aj;obtain⟨O,aV,Z⟩:=ah;have aW:dQ J D.ai.length:=by rw[aV];exact Z
  have aP:=O.vH (G:=J.last) Z.ok.1;subst k;obtain rfl:I=U:=E.trans ak.symm;refine aJ 0 (bY<|c.aq.getD 0 default) ?_ (av:=ax) (p:=jr aE);refine bk [(6000,6000),(5000,5000),(5001,5001)] ?_ (i:=aj);refine bk [(6000,6000),(5000,5000),(5001,5001)] ?_ (i:=Wh (JL:=(D.ai.map iy)) (bz:=D.bz) (G:=J.last) (e1:=J.first) (Y:=I) (E.trans O.len.symm) (λae ad=>by rw[O.len];exact aW.l ae ad) (by rw[O.len]<;>omega) O.bz Z.ok.1 Z.ok.2);refine bk [(6000,6000),(5000,5000),(5001,5001)] ?_ (i:=HM (D.ai.map iy) (iE D.bz J.last J.first) am J.jT I (E.trans aP.len.symm) (λae ad=>by have:=an.l ae ad;rw[aP.len]<;>grind) (by rw[aP.len]<;>grind) aP.bz an.ok Z.jT.ok);exact gX aZ
 rw[aa aY] at k;rw[W] at k;subst k;obtain rfl:ba=U:=aT.trans ak.symm;exact gX aZ
def adj:∀a,dx a->QI a:=ao.ind λa h he=>λ_ i e g Y j b c=>adm h he e g b c
def hq(O:List (Int×Int))(a:Int):Bool:=O.any λD=>decide (D.1<=a)&&decide (a<=D.2)
theorem Tl{a:List (Int×Int)}:U<a.length->a.drop U=a.getD U default::a.drop (U+1):=by simp_all
def aiG O b(bo:O.length<=1000000):aA 131 [.f 2 (O.map fz),.int .i64 b] (.bool (hq O b)):=by
 refine aX func131 [] λs h=>?_;refine eH O.length (λa=>hq O b=hq (O.drop a) b) (λa=>⟨[(0,_),(1,_),(5,q a)],[],[]⟩) (λa p=>?_) rfl .r;apply j<;>intro i
 .let c:a<O.length:=v;refine aJ a (fz<|O.getD a default) ?_ (p:=cv c);apply b2;refineλk=>gZ a (fz<|O.getD a default) ?_ (p:=cv c);exact rfl;apply j<;>intro e
  .let g:(decide ((O.getD a default).1<=b)&&decide (b<=(O.getD a default).2)):=by simpa[eg] using e
   exact ae (w:=by rw[p.2,Tl c,hq,uH,g];rfl)
  refine aL ?_;exact aB (a+1) ⟨v,by grind[Tl,hq]⟩ (bo:=.r)
 exact ae (w:=by rw[p.2,iv v];rfl)
section nq
structure da where
 of:List Nat
 mem:List (List Nat)
 c9:List Nat
def a8(w:da)(a:Nat):Nat:=w.of.getD a 0
def hE(b:List Nat)(c:List Nat)(a:Nat):List Nat:=c.filter λO=>decide (b.getD O 0=a)
def cM(a:List Nat)(b:List Nat):List Nat:=g7 [] (b.map λO=>a.getD O 0)
def nG(a:List Nat)(b:List Nat)(c:Nat):List Nat:=b.foldl (λP O=>P.set O c) a
def sh(e:List Nat)(c:List (List Nat))(b a:Nat):Nat:=if a∉e/\(c.getD a []).length<(c.getD b []).length then a else b
def uy(w:da)(a:Nat)(b:List Nat):da:=if b.length=(w.mem.getD a []).length then w
 else
  ⟨nG w.of b w.mem.length,(w.mem++[b]).set a<|(w.mem.getD a []).filter λO=>!decide ((nG w.of b w.mem.length).getD O 0=w.mem.length),w.c9++[sh w.c9 ((w.mem++[b]).set a<|(w.mem.getD a []).filter λO=>!decide ((nG w.of b w.mem.length).getD O 0=w.mem.length)) w.mem.length a]⟩
def JJ(c:List Nat)(e:List Nat)(w:da)(b:List Nat):da:=b.foldl (λw a=>uy w a<|hE c e a) w
def pa(w:da)(a:List Nat):da:=JJ w.of a w<|cM w.of a
theorem Jz{a:Nat}:∀part of,(nG of part a).length=of.length|[],of=>rfl|O::part,of=>by show(nG _ part a).length=_;rw[Jz _];simp
def ZO{c:Nat}:∀part of a,a<of.length->(nG of part c).getD a 0=if a∈part then c else of.getD a 0|[],of,a,_=>ax|O::part,of,a,e=>by show(nG _ part c).getD a 0=_;rw[ZO _ _ a b];grind
structure iT(Y:Nat)(w:da):Prop where
 len:w.of.length=Y
 lt:∀Z<Y,a8 w Z<w.mem.length
 mem:∀W Z,Z∈w.mem.getD W []↔Z<Y/\a8 w Z=W/\W<w.mem.length
 hs:∀W,(w.mem.getD W []).Nodup
 ne:∀W<w.mem.length,w.mem.getD W []≠[]
 pi:∀W∈w.c9,W<w.mem.length
 wn:w.c9.Nodup
def wA(Y:Nat)(g:List (List Nat))(w:da):Prop:=∀a b,a<Y->b<Y->(∀c∈g,a∈c↔b∈c)->(∀e∈w.c9,a8 w a=e↔a8 w b=e)->a8 w a=a8 w b
def tg(Y:Nat)(c w:da):Prop:=∀a b,a<Y->b<Y->a8 c a=a8 c b->a8 w a=a8 w b
theorem tg.refl Y w:tg Y w w:=λ_ _ _ _ a=>a
theorem tg.trans{Y:Nat}{a b c:da}(w:tg Y a b)(F:tg Y b c):tg Y a c:=λh i e g j=>F h i e g<|w h i e g j
def nK:∀{E W:List Nat},E.Nodup->(∀a∈E,a∈W)->E.length<=W.length|[],_,_,_=>c1 _|a::E,W,g,h=>by let⟨c,e⟩:=s9.1 g;have:=nK (W:=W.erase a) e λj i=>(Qk λk=>c b).2<|h j<|ki _ i;grind
def aq_{a b:List Nat}(e:a.Nodup)(h:∀c∈a,c∈b)(k:a.length≠b.length)(g:b.Nodup):∃c∈b,c∉a:=by rcases Classical.em (∀c∈b,c∈a) with w|w;let i:=nK e h;let j:=nK g w;omega;simp_all
structure acO(Y:Nat)(w fL:da)(W:Nat)(part:List Nat):Prop where
 ok:iT Y fL
 qu:tg Y fL w
 yP:∀wN,wA Y wN w->wA Y wN fL
 sep:∀Z B,Z<Y->B<Y->a8 fL Z=a8 fL B->a8 w Z=W->(Z∈part↔B∈part)
 sg:fL.c9.length+w.mem.length=w.c9.length+fL.mem.length
 grow:w.mem.length<=fL.mem.length
 hG:∀Ls≠W,Ls<w.mem.length->∀Z<Y,(a8 fL Z=Ls↔a8 w Z=Ls)
 val:∀Z B,Z<Y->B<Y->a8 w Z=a8 w B->(a8 w Z=W->(Z∈part↔B∈part))->a8 fL Z=a8 fL B
def aqM{Y:Nat}{w:da}(k:iT Y w){W:Nat}{g:List Nat}(K:W<w.mem.length)(t:∀a∈g,a<Y/\a8 w a=W)(E:g.Nodup)(S:g≠[]):acO Y w (uy w W g) W g:=by
 have N:∀a∈g,a∈w.mem.getD W []:=λa b=>(k.mem W a).2 ⟨(t a b).1,(t a b).2,K⟩;unfold uy;split;have J:∀a<Y,a8 w a=W->a∈g:=by intro a b B;rcases Classical.em (a∈g) with h|h;exact h;have:=nK (s9.2 ⟨h,E⟩) (W:=w.mem.getD W []) (λe i=>by rcases eT.1 i with rfl|i;exact(k.mem W _).2 ⟨b,B,K⟩;exact N e i);rw[kh] at this;omega
 refine⟨k,.refl Y w,λP D=>D,λa e b i j B=>?_,rfl,a1 _,λ_ _ _ _ _=>lI,λa e _ _ j _=>j⟩;exact⟨λ_=>J e i<|j▸B,λ_=>J a b B⟩;rename_i R;have L:∀a<Y,(nG w.of g w.mem.length).getD a 0=if a∈g then w.mem.length else a8 w a:=λa b=>ZO g w.of a (by rw[k.len];exact b)
 generalize X:nG w.of g w.mem.length=H at L;have Z:H.length=Y:=by rw[<-X,Jz,k.len]
 generalize M:(w.mem.getD W []).filter (λO=>!decide (H.getD O 0=w.mem.length))=y;have:∀a,a∈y↔a<Y/\a8 w a=W/\a∉g:=by intro a;rw[<-M,j1,k.mem];constructor;simp_all;grind
 have z:∀c,((w.mem++[g]).set W y).getD c []=if c=W then y else if c=w.mem.length then g else w.mem.getD c []:=by intro c;rw[cg,oA];by_cases j:W=c;subst j;rw[ab rfl,ab aK,ab rfl];rfl;grind
 have x:((w.mem++[g]).set W y).length=w.mem.length+1:=af;generalize ae:(w.mem++[g]).set W y=q at z x;generalize T:sh w.c9 q w.mem.length W=u;have G:u=W/\W∉w.c9\/u=w.mem.length:=by rw[<-T];unfold sh;split;rename_i h;exact .inl ⟨rfl,h.1⟩;exact .inr rfl
 have o:∀a<Y,a8 ⟨H,q,w.c9++[u]⟩ a=if a∈g then w.mem.length else a8 w a:=L
 have s:=k.lt;refine⟨⟨Z,?_,?_,?_,?_,?_,?_⟩,?_,?_,?_,?_,?_,?_,?_⟩;intro a b;rw[o a b];show _<q.length;rw[x];split;omega;have:=s a b;omega;intro c a;show a∈q.getD c []↔a<Y/\_/\c<q.length;rw[z,x];split;grind;rename_i j;split;grind;rw[k.mem];grind;intro c;show(q.getD c []).Nodup;rw[z];split;rw[<-M];exact(k.hs W).filter _;split;exact E;exact k.hs c;intro c r;show q.getD c []≠[];rw[z];split;let⟨a,ag,ah⟩:=aq_ E N R<|k.hs W;grind;split;exact S;apply k.ne c;have:c<q.length:=r;omega;intro c r;show c<q.length;rw[x];rcases ee.1 r with h|h;have:=k.pi c h;omega;rw[cV] at h;omega;show(w.c9++[u]).Nodup;refine pm.2 ⟨k.wn,af,λa b e i=>?_⟩;rw[cV] at i;subst i;intro j;subst j;rcases G with⟨rfl,h⟩|rfl;exact h b;have:=k.pi _ b;omega;intro a e b i j;rw[o a b,o e i] at j;split at j<;>split at j;rename_i m l;rw[(t a m).2,(t e l).2];have:=s e i;omega;have:=s a b;omega;exact j;intro P D a e b i cp A;have ad:∀c∈w.c9,a8 w a=c↔a8 w e=c:=by
  intro c r;have:=k.pi c r;by_cases j:c=W;subst j;have U:u=w.mem.length:=by rcases G with⟨rfl,h⟩|h;exact absurd r h;exact h
  have C:=A c<|uK _ r;have p:=A u<|uL _<|cV.2 rfl;rw[o a b,o e i] at C p;rw[U] at p;by_cases m:a∈g<;>by_cases l:e∈g;rw[(t a m).2,(t e l).2];rw[ab m,aa l] at p;have:=p.1 rfl;have:=s e i;omega;rw[aa m,ab l] at p;have:=p.2 rfl;have:=s a b;omega;rw[aa m,aa l] at C;exact C;have:=A c<|uK _ r;grind
 have I:=D a e b i cp ad;rw[o a b,o e i];have p:=A u<|uL _<|cV.2 rfl;rw[o a b,o e i] at p;have:=s a b;have:=s e i;by_cases m:a∈g<;>by_cases l:e∈g;rw[ab m,ab l];grind;rw[aa m,ab l] at p;have:=(t e l).2;rcases G with⟨rfl,_⟩|rfl;have:=p.1<|I.trans this;omega;have:=p.2 rfl;omega;rw[aa m,aa l];exact I;intro a e b i j _;rw[o a b,o e i] at j;have:=s a b;have:=s e i;split at j<;>split at j;rename_i m l;exact⟨λ_=>l,λ_=>m⟩;omega;omega;rename_i m l;exact⟨λh=>absurd h m,λh=>absurd h l⟩;show(w.c9++[u]).length+w.mem.length=w.c9.length+q.length;rw[x,c_,pk];omega;show w.mem.length<=q.length;omega;intro c Q r a b;rw[o a b];split;rename_i h;rw[(t a h).2];constructor;intro F;omega;intro F;exact absurd F.symm Q;exact lI;grind
theorem Bj{a b:List Nat}:(cM a b).Nodup:=wZ _ Kw
theorem zk{a b:List Nat}:U∈cM a b↔∃O∈b,a.getD O 0=U:=by simp[cM,vh]
structure acP(Y:Nat)(w fL:da)(ow:List Nat):Prop where
 ok:iT Y fL
 qu:tg Y fL w
 yP:∀wN,wA Y wN w->wA Y wN fL
 sep:∀Z B,Z<Y->B<Y->a8 fL Z=a8 fL B->(Z∈ow↔B∈ow)
 sg:fL.c9.length+w.mem.length=w.c9.length+fL.mem.length
 grow:w.mem.length<=fL.mem.length
 val:∀Z B,Z<Y->B<Y->a8 w Z=a8 w B->(Z∈ow↔B∈ow)->a8 fL Z=a8 fL B
structure wL(Y:Nat)(w fL:da)(ow kr:List Nat):Prop where
 ok:iT Y fL
 qu:tg Y fL w
 yP:∀wN,wA Y wN w->wA Y wN fL
 sep:∀Z B,Z<Y->B<Y->a8 fL Z=a8 fL B->a8 w Z∈kr->(Z∈ow↔B∈ow)
 sg:fL.c9.length+w.mem.length=w.c9.length+fL.mem.length
 grow:w.mem.length<=fL.mem.length
 hG:∀W∉kr,W<w.mem.length->∀Z<Y,(a8 fL Z=W↔a8 w Z=W)
 val:∀Z B,Z<Y->B<Y->a8 w Z=a8 w B->(Z∈ow↔B∈ow)->a8 fL Z=a8 fL B
theorem wL.nil{Y:Nat}{w:da}(c:iT Y w)e:wL Y w w e []:=⟨c,.refl Y w,λ_ F=>F,λ_ _ _ _ _ b=>absurd b h2,rfl,a1 _,λ_ _ _ _ _=>lI,λ_ _ _ _ a _=>a⟩
def wL.snoc{Y:Nat}{g w:da}(y:iT Y g){h l:List Nat}(p:∀O∈h,O<Y)(B:h.Nodup)(F:wL Y g w h l)(t:U∉l)(A:U∈cM g.of h):wL Y g (uy w U (hE g.of h U)) h (l++[U]):=by
 let⟨x,C,D⟩:=zk.1 A;let m:U<g.mem.length:=by rw[<-D];exact y.lt x<|p x C
 let hit:∀a,a∈hE g.of h U↔a∈h/\a8 g a=U:=by intro a;unfold hE;rw[j1,gV];rfl
 let c:=aqM F.ok (h3 m F.grow)
  (λa b=>⟨p a ((hit a).1 b).1,(F.hG U t m a<|p a ((hit a).1 b).1).2 ((hit a).1 b).2⟩) (B.filter _) (λk=>by grind[hE])
 refine⟨c.ok,c.qu.trans F.qu,λq z=>c.yP q<|F.yP q z,?_,?_,cA F.grow c.grow,?_,?_⟩;intro a j b i k G;let s:=c.qu a j b i k;rcases ee.1 G with e|e;exact F.sep a j b i s e;rw[cV] at e;let H:=F.qu a j b i s;have:=c.sep a j b i k<|(F.hG U t m a b).2 e;simp_all;have:=c.sg;have:=F.sg;omega;intro r o u a b;rw[ee,cV] at o;rw[c.hG r (λe=>o<|.inr e) (h3 u F.grow) a b];exact F.hG r (λe=>o<|.inl e) u a b;intro a j b i k E;refine c.val a j b i (F.val a j b i k E) λ_=>?_;simp_all
def Pz{Y:Nat}{e:da}(h:iT Y e){b:List Nat}(l:∀O∈b,O<Y)(k:b.Nodup):∀a c w,wL Y e w b c->(∀g∈a,g∈cM e.of b/\g∉c)->a.Nodup->wL Y e (JJ e.of b w a) b (c++a)
|[],c,w,F,_,_=>by rw[gf];exact F|g::a,c,w,F,j,p=>by let⟨s,q⟩:=s9.1 p;let i:=j g<|ji ..;have:=Pz h l k a _ _ (F.snoc h l k i.2 i.1) (λm o=>⟨(j m<|ki _ o).1,λr=>by simp_all⟩) q;rw[ge] at this;trivial
def Py{Y:Nat}{w:da}(j:iT Y w){ow:List Nat}(m:∀O∈ow,O<Y)(l:ow.Nodup):acP Y w (pa w ow) ow:=by let F:=Pz j m l _ [] w (.nil j _) (λp k=>⟨k,h2⟩) Bj;refine⟨F.ok,F.qu,F.yP,λb c g h e=>?_,F.sg,F.grow,F.val⟩;let o:∀i∈ow,a8 w i∈cM _ _:=λi ap=>zk.2 ⟨i,ap,rfl⟩;constructor;intro a;exact(F.sep b c g h e<|o b a).1 a;intro a;exact(F.sep b c g h e<|F.qu b c g h e▸o c a).2 a
def iT.count{Y:Nat}{w:da}(b:iT Y w):w.mem.length<=Y:=by
 let c:∀a:Fin _,∃g,g∈w.mem.getD a.1 []:=λa=>List.exists_mem_of_ne_nil _<|b.ne a.1 a.2;let j:((List.finRange _).map λa=>Classical.choose<|c a).Nodup:=by refine Kx.2<|(Qo _).imp λ{h a} i he=>i ?_;let e:=((b.mem _ _).1<|Fo<|c h).2.1;rw[he,((b.mem _ _).1<|Fo<|c a).2.1] at e;exact Fp e.symm
 have:=nK j (λg k=>by obtain⟨a,_,rfl⟩:=b4.1 k;exact fq.2 ((b.mem _ _).1<|Fo _).1);simp_all
variable{bv:Nat->Nat->Nat}{Y:Nat}
def Cz(bv:Nat->Nat->Nat)(Y o:Nat)(g:List (List Nat))(w:da):Prop:=∀c∈g,∀e<o,∀a b,a<Y->b<Y->a8 w a=a8 w b->(bv a e∈c↔bv b e∈c)
def Cz.qu{a:List (List Nat)}{w b:da}(F:Cz bv Y o a w)(l:tg Y b w):Cz bv Y o a b:=λi cp j m g h c e k=>F i cp j m g h c e<|l g h c e k
structure q9(bv:Nat->Nat->Nat)(Y o:Nat)(acc:Nat->Bool)(eqv:Nat->Nat->Prop)(w:da):Prop where
 ok:iT Y w
 acc:∀Z B,Z<Y->B<Y->a8 w Z=a8 w B->acc Z=acc B
 eq:∀Z B,Z<Y->B<Y->eqv Z B->a8 w Z=a8 w B
 C7:∃iS,wA Y iS w/\Cz bv Y o iS w
structure wE(bv:Nat->Nat->Nat)(Y o:Nat)(acc:Nat->Bool)(eqv:Nat->Nat->Prop)(own:List Nat)(t:Nat)(w:da):Prop where
 ok:iT Y w
 acc:∀Z B,Z<Y->B<Y->a8 w Z=a8 w B->acc Z=acc B
 eq:∀Z B,Z<Y->B<Y->eqv Z B->a8 w Z=a8 w B
 UW:∀Z B,Z<Y->B<Y->eqv Z B->(Z∈own↔B∈own)
 lt:∀Z∈own,Z<Y
 hs:own.Nodup
 C7:∃iS,wA Y (own::iS) w/\Cz bv Y o iS w
 part:∀M<t,∀Z B,Z<Y->B<Y->a8 w Z=a8 w B->(bv Z M∈own↔bv B M∈own)
def OQ(w:da):da:=⟨w.of,w.mem,w.c9.dropLast⟩
theorem iT.pop{w:da}(a:iT Y w):iT Y (OQ w):=⟨a.len,a.lt,a.mem,a.hs,a.ne,λb c=>a.pi b<|List.dropLast_subset _ c,a.wn.sublist<|List.dropLast_sublist _⟩
def q9.pop{j:Nat->Bool}{k:Nat->Nat->Prop}{w:da}(F:q9 bv Y o j k w){e:Nat}{z:List Nat}(y:w.c9=z++[e]):wE bv Y o j k (w.mem.getD e []) 0 (OQ w):=by refine⟨F.ok.pop,F.acc,F.eq,λc i a h q=>?_,λc a=>((F.ok.mem e c).1 a).1,F.ok.hs e,?_,λM a6=>absurd a6<|uO M⟩;have:=F.eq c i a h q;rw[F.ok.mem,F.ok.mem,this];omega;let⟨m,s,t⟩:=F.C7;refine⟨m,λc i a h cp x=>?_,t⟩;refine s c i a h (λp u=>cp p<|ki _ u) λg l=>?_;rw[y,ee,cV] at l;rcases l with r|r;exact x g (by show g∈w.c9.dropLast;simp_all);let A:=F.ok.pi g b;have:=cp _<|ji ..;rw[F.ok.mem,F.ok.mem] at this;omega
theorem wE.step{l:Nat->Bool}{h:Nat->Nat->Prop}(x:∀a b U,U<o->a<Y->b<Y->h a b->h (bv a U) (bv b U))(p:∀a U,a<Y->U<o->bv a U<Y){k:List Nat}{w:da}(F:wE bv Y o l h k U w)(j:U<o){i:List Nat}(t:∀a,a∈i↔a<Y/\bv a U∈k)(u:i.Nodup):wE bv Y o l h k (U+1) (pa w i):=by let O:=Py F.ok (λa c=>((t a).1 c).1) u;refine⟨O.ok,λa b c e g=>F.acc a b c e<|O.qu a b c e g,λa b c e g=>?_,F.UW,F.lt,F.hs,?_,?_⟩;apply O.val a b c e<|F.eq a b c e g;have:=F.UW _ _ (p a U c j) (p b U e j)<|x a b U j c e g;simp_all;let⟨q,r,s⟩:=F.C7;exact⟨q,O.yP _ r,s.qu O.qu⟩;intro M a6 a b c e g;rcases gh M U with m|m;exact F.part M m a b c e<|O.qu a b c e g;obtain rfl:M=U:=v;have:=O.sep a b c e g;simp_all
def wE.fin{b:Nat->Bool}{e:Nat->Nat->Prop}{k:List Nat}{w:da}(F:wE bv Y o b e k o w):q9 bv Y o b e w:=by let⟨p,r,s⟩:=F.C7;refine⟨F.ok,F.acc,F.eq,k::p,r,λq cp c h l m i j g=>?_⟩;rcases eT.1 cp with a|a;subst a;exact F.part c h l m i j g;exact s q a c h l m i j g
def q9.done{i:Nat->Bool}{j:Nat->Nat->Prop}(h:∀a U,a<Y->U<o->bv a U<Y){w:da}(F:q9 bv Y o i j w)(s:w.c9=[])(c:U<o){a b:Nat}(e:a<Y)(g:b<Y)(k:a8 w a=a8 w b):a8 w (bv a U)=a8 w (bv b U):=by let⟨p,l,m⟩:=F.C7;refine l _ _ (h a U e c) (h b U g c) (m · · U c a b e g k) λq r=>?_;simp_all
theorem q9.start{e:Nat->Bool}{j:Nat->Nat->Prop}(s:∀a c,a<Y->c<Y->j a c->e a=e c)(r:0<Y):q9 bv Y o e j (pa ⟨List.replicate Y 0,[List.range Y],[0]⟩ ((List.range Y).filter e)):=by
 let ap:∀a,a8 ⟨List.replicate Y 0,[List.range Y],[0]⟩ a=0:=by intro a;unfold a8;by_cases q:a<Y;simp_all;simp_all
 let m:iT Y ⟨List.replicate Y 0,[List.range Y],[0]⟩:=by
  refine⟨af,λa _=>b,λh a=>?_,λh=>?_,λh l=>?_,λh l=>?_,af⟩;grind;grind
  (simp_all;omega)
  simp_all
 let O:=Py m (ow:=(List.range Y).filter e) (λa g=>fq.1 (j1.1 g).1)<|List.nodup_range.filter _;let hm:∀a<Y,(a∈(List.range Y).filter e↔e a):=λa g=>aK;refine⟨O.ok,λa c g i k=>?_,λa c g i k=>?_,[],O.yP [] ?_,λp cp=>absurd cp h2⟩;have:=O.sep a c g i k;simp_all;apply O.val a c g i b;grind;intro a c _ _ _ _;simp_all
def vz(Y:Nat)(w:da):Nat:=w.c9.length+(Y-w.mem.length)
theorem aqN{w:da}(b:iT Y w){a:List Nat}(e:∀O∈a,O<Y)(c:a.Nodup):vz Y (pa w a)=vz Y w:=by let O:=Py b e c;let g:=O.ok.count;let h:=b.count;let i:=O.sg;grind[vz]
end nq
structure fH(E:a3):Prop where
 len:E.next.length<=100000
 acc:E.acc.length=E.next.length
 n:∀H<E.next.length,(E.next.getD H []).length=256
 start:E.start<E.next.length
 dst:∀H W,H<E.next.length->W<256->(E.next.getD H []).getD W 0<E.next.length
def c8(a:a3)(b:Nat):List Nat:=a.next.getD b []
def bX(a:a3)(b:Nat):List Nat:=bH (c8 a) [a.start] b
def jR(a:a3)(b c:Nat):List Nat:=g7 (bX a b)<|(c8 a<|(bX a b).getD b 0).take c
def g_(Y:Nat)(a:List Nat):List Bool:=(List.range Y).map λb=>decide (b∈a)
theorem Hy Y a:(g_ Y a).length=Y:=by simp[g_,aS,gM]
theorem Dk{Y:Nat}{a:List Nat}:U<Y->(g_ Y a)[U]?=some (decide (U∈a)):=by grind[g_,List.getElem?_range]
def Hz{Y:Nat}{N:List Nat}(w:U∉N):(g_ Y N).set U true=g_ Y (note N U):=by refine ho λc=>?_;rw[oA,Hy];by_cases a:c<Y;rw[Dk a,Dk a];by_cases b:U=c;subst b;rw[ab rfl,ab a];congr 1;symm;rw[gV,DY]<;>simp_all;rw[aa b];congr 1;rw[m4,gV,gV,DY]<;>grind;simp_all[g_,s6,Hy,note,aa]
def MF Y:g_ Y []=List.replicate Y false:=by refine ho λa=>?_;grind[Dk,List.getElem?_eq_none,Hy]
def PJ{a:a3}(w:fH a)(c:U<a.next.length):∀e∈c8 a U,e<a.next.length:=λe h=>by obtain⟨b,g,rfl⟩:=kj.1 h;have:(c8 a U).getD b 0<a.next.length:=w.dst U b c (by rw[<-w.n U c];exact g);simp_all
def mP{a:a3}(w:fH a)e:∀c∈bX a e,c<a.next.length:=qi (λc b=>by rw[cV.1 b];exact w.start) (λc b=>PJ w b) e
def tV b a:(bX b a).Nodup:=wS af a
def pH{a:List Nat}{Y:Nat}(w:a.Nodup)(e:∀c∈a,c<Y):a.length<=Y:=by have:=nK (W:=List.range Y) w λc g=>fq.2 b;simp_all
def NV{a:a3}(w:fH a)(i:U<(bX a U).length)g:(∀c∈jR a U g,c<a.next.length)/\(jR a U g).Nodup:=by refine⟨λc h=>?_,wZ _<|tV a U⟩;rcases(vh _ _ _).1 h with e|e;exact mP w U c e;exact PJ w (mP w U _ b) c<|p0 e
def akI{a:a3}(w:fH a)(c:U<(bX a U).length):jR a U 256=bX a (U+1):=by unfold jR;rw[q1 (by rw[c8,w.n _<|mP w U _ b];omega)];grind[u7,bX,List.getElem?_eq_getElem]
def akJ{a:a3}(w:fH a){c:Nat}(g:U<(bX a U).length)(e:c<256):jR a U (c+1)=note (jR a U c) ((c8 a ((bX a U).getD U 0)).getD c 0):=by unfold jR;let h:(c8 a<|(bX a U).getD U 0).length=256:=w.n _<|mP w U _ b;grind[List.take_add_one,List.getElem?_eq_getElem,g7,w0]
def akH{a:a3}(c:U<(bX a U).length)b:(jR a U b)[U]?=some ((bX a U).getD U 0):=by apply vT<|yR _ _;simp_all
def WS c(w:fH c)h(A:h=c.next.length):aA 192 [dW c] (.f 1 ((bX c h).map q)):=by
 refine aX func192 [] λs B=>?_;have:=w.start;have:=w.len;refine ja h h ((g_ h []).map aW) ?_ (p:=b) (jM:=b) (aG:=by rw[MF,yb];rfl);refine og ?_;refine cz c.start ?_ (p:=v);refine fl ((g_ h [c.start]).map aW) (aW false) (aW true) ?_ (p:=KQ) (aG:=by rw[<-gN,Hz (N:=[]) h2];rfl);refine dL h (λa=>⟨[(1,g 1),(5,q a),(3,.d 11 0 h),(4,.d 14 0 ((bX c a).map q).length)],[(1,.cell 131<|dW c),(11,.n 1 4<|(g_ h<|bX c a).map aW),(14,.n 1 3<|(bX c a).map q)],[]⟩) λa p=>?_;apply j<;>intro C
 .have i:a<(bX c a).length:=v;have:=pH (tV c a)<|mP w a;have m:(bX c a).getD a 0<c.next.length:=mP w a _<|bZ i;have:=w.n _ m;refine dL 256 (λe=>⟨[(1,g 1),(5,q a),(6,q e),(3,.d 11 0 h),(4,.d 14 0 ((jR c a e).map q).length)],[(1,.cell 131<|dW c),(11,.n 1 4<|(g_ h<|jR c a e).map aW),(14,.n 1 3<|(jR c a e).map q)],[]⟩) λe l=>?_;apply j<;>intro D
  .have l:e<256:=v;let⟨t,u⟩:=NV w i e;have k:=akJ w i l;have x:=akH i e;have:(c8 c ((bX c a).getD a 0)).getD e 0<c.next.length:=w.dst _ e m l;have:=pH u t;have:a<(jR c a e).length:=(dm.1 x).1;refine c7 ?_;refine cz a ?_ (p:=aK);refine ft (q<|(bX c a).getD a 0) ?_ (p:=b);refine aJ ((bX c a).getD a 0) (bl<|c8 c<|(bX c a).getD a 0) ?_ (p:=xb m);refine aJ e (q<|(c8 c<|(bX c a).getD a 0).getD e 0) ?_ (p:=dg (by grind[c8]));refine cz ((c8 c<|(bX c a).getD a 0).getD e 0) ?_ (p:=v);refine ft (aW<|decide ((c8 c<|(bX c a).getD a 0).getD e 0∈jR c a e)) ?_ (p:=KQ);apply j<;>intro o
   .have r:(c8 c ((bX c a).getD a 0)).getD e 0∉jR c a e:=by simpa using o
    have:jR c a (e+1)=jR c a e++[(c8 c ((bX c a).getD a 0)).getD e 0]:=by rw[k,note,aa r]
    have:(jR c a (e+1)).length<=c.next.length:=pH (NV w i<|e+1).2 (NV w i<|e+1).1;refine cz ((c8 c<|(bX c a).getD a 0).getD e 0) ?_ (p:=v);refine fl ((g_ h<|jR c a<|e+1).map aW) (aW false) (aW true) ?_ (p:=by grind[Dk,decide_eq_false]) (aG:=by rw[<-gN,Hz r,k]);refine dv ?_;refine eR ((jR c a<|e+1).map q) ?_ (aG:=aM) (bq:=aK);refine aL ?_;exact aB<|e+1
   have z:(c8 c ((bX c a).getD a 0)).getD e 0∈jR c a e:=by simpa using o
   rw[show jR c a e=jR c a (e+1) by rw[k,note,ab z]];refine aL ?_;exact aB<|e+1
  obtain rfl:e=256:=v;rw[akI w i];refine aL ?_;exact aB<|a+1
 have y:bX c h=bX c a:=py (show(bX c a).length<=a by omega) p;rw[y];exact gB 14 ae
def kK(c a:List Nat)(Y:Nat):Nat->List Nat|0=>List.replicate Y 0|b+1=>(kK c a Y b).set (c.getD (a.getD (a.length-1-b) 0) 0)<|a.getD (a.length-1-b) 0
theorem JH{cl N:List Nat}{Y:Nat}:∀a,(kK cl N Y a).length=Y|0=>s7 ..|a+1=>by rw[kK,lL,JH a]
def aaa{cl c:List Nat}{Y o:Nat}(g:0<o)(e:∀h∈c,h<o):∀b≤c.length,∀a,(kK cl c Y b).getD a 0<o|0,_,a=>by grind[kK]|b+1,i,a=>by rw[kK,tK];split;grind[bZ];exact aaa g e b v a
def tl(a:a3)(c:List Nat)(b:Nat):Bool:=a.acc.getD (c.getD b 0) false
def tk(b:a3)(P:List Nat)(a:Nat):Bool:=b.acc.getD (P.getD a 0) false
def qS(a:a3)(c g:List Nat)(e:Nat):List Nat:=(List.range 256).map λb=>c.getD ((c8 a<|g.getD e 0).getD b 0) 0
def dM(a:a3)(b c:List Nat)(Y:Nat):a3:=⟨b.getD a.start 0,(List.range Y).map<|tl a c,(List.range Y).map<|qS a b c⟩
def nX(P:List Nat)(Y:Nat):Nat->List Nat|0=>List.replicate Y 0|a+1=>(nX P Y a).set (P.getD a 0) a
def qR(c:a3)(P C:List Nat)(b:Nat):List Nat:=(List.range 256).map λa=>C.getD ((c8 c<|P.getD b 0).getD a 0) 0
def Oy(a:a3)(P C:List Nat):a3:=⟨0,(List.range P.length).map<|tk a P,(List.range P.length).map<|qR a P C⟩
def D2(c:a3)(b a:List Nat)(Y:Nat):a3:=Oy (dM c a (kK a b Y b.length) Y) (bX (dM c a (kK a b Y b.length) Y) Y)<|nX (bX (dM c a (kK a b Y b.length) Y) Y) Y (bX (dM c a (kK a b Y b.length) Y) Y).length
def hx(c:Nat->Nat)(b:Nat):List Nat:=(List.range 256).map λa=>if a<b then c a else 0
theorem Ph{a:Nat->Nat}:(hx a U).length=256:=ax
def Pg{a:Nat->Nat}:hx a 256=(List.range 256).map a:=gp λb p=>ab<|fq.1 p
def atc a:hx a 0=List.replicate 256 0:=by rfl
theorem Pj{a:Nat->Nat}(w:U<256):(hx a U).set U (a U)=hx a (U+1):=by refine ho λb=>?_;rw[oA,Ph];unfold hx;grind
def El{e g:Type}b(c:e->g)a:((List.range a).map b).map c++[c (b a)]=((List.range (a+1)).map b).map c:=by simp[r0,cD]
def vm(a:a3)(c g:List Nat)(e:Nat):Nat->Nat:=λb=>c.getD ((c8 a<|g.getD e 0).getD b 0) 0
def CH{a:List Bool}:U<a.length->(a.map aW)[U]?=some (aW (a.getD U false)):=by simp_all
def Io Y:List.replicate Y (V.zero MU.z)=(List.replicate Y 0).map q:=uP
def ET{a:a3}{b:Nat}(w:b<(c8 a U).length):((c8 a U).map q)[b]?=some (q ((c8 a U).getD b 0)):=dg w
def JO{a:a3}(w:fH a){W:Nat}(c:U<a.next.length)(b:W<256):W<(c8 a U).length/\(c8 a U).getD W 0<a.next.length:=⟨by rw[show(c8 a U).length=256 from w.n U c];exact b,w.dst U W c b⟩
def ES{a:a3}(w:U<a.next.length):(a.next.map bl)[U]?=some (bl (c8 a U)):=xb w
def ahB{a:a3}{c e:List Nat}{b:Nat}(w:(c8 a (e.getD U 0)).getD b 0<c.length):(c.map q)[(c8 a (e.getD U 0)).getD b 0]?=some (q (vm a c e U b)):=dg w
def acY{a:a3}{b:List Nat}(w:b.getD U 0<a.acc.length):(a.acc.map aW)[b.getD U 0]?=some (aW (tl a b U)):=CH w
def apr a b e c:hx (vm a b e c) 256=qS a b e c:=Pg
theorem Zy a b e c:(qS a b e c).length=256:=ax
theorem YZ{a:a3}{b c:List Nat}{Y:Nat}:U<Y->(dM a b c Y).next.getD U []=qS a b c U:=by grind[dM,List.getElem?_range]
def aof{E:a3}{a sm:List Nat}{Y:Nat}(b:∀g,a.getD g 0<Y)(j:Y<=100000):fH (dM E a sm Y):=by
 let c:(dM E a sm Y).next.length=Y:=by unfold dM;rw[aS,gM]
 refine⟨v,by simp[dM,aS,gM],λe p=>?_,by rw[c];exact b _,λe h p i=>?_⟩;grind[YZ,Zy];grind[YZ,qS,List.getElem?_range]
def vv(c:a3)(P C:List Nat)(b:Nat):Nat->Nat:=λa=>C.getD ((c8 c<|P.getD b 0).getD a 0) 0
def ahY{b:a3}{P C:List Nat}{a:Nat}(w:(c8 b (P.getD U 0)).getD a 0<C.length):(C.map q)[(c8 b (P.getD U 0)).getD a 0]?=some (q (vv b P C U a)):=dg w
def adM{a:a3}{P:List Nat}(w:P.getD U 0<a.acc.length):(a.acc.map aW)[P.getD U 0]?=some (aW (tk a P U)):=CH w
def app b P C a:hx (vv b P C a) 256=qR b P C a:=Pg
def apq b P C a:(qR b P C a).length=256:=ax
theorem Gf{P:List Nat}{Y:Nat}:∀a,(nX P Y a).length=Y|0=>s7 ..|a+1=>by rw[nX,lL,Gf a]
def gj(a:a3)(c:Nat)(b:UInt8):Nat:=(c8 a c).getD b.toNat 0
def fT(a:a3)(b:Nat):Bool:=a.acc.getD b false
def gG(a:a3):q_:=gH (gj a) (fT a) a.start
def nj:Nat:=100000
theorem LL:nj=100000:=rfl
attribute [irreducible] nj
noncomputable def iZ(a:q_):a3:=⟨0,(tv a nj).acc,(tv a nj).next⟩
theorem rN(w:U<256):(UInt8.ofNat U).toNat=U:=aK
def Jk{e g:Type}(a:List e)M(b:e->g):((List.range a.length).map λc=>b<|a.getD c M)=a.map b:=by refine ho λc=>?_;grind
def RP{succ zK:Nat->List Nat}{L:Nat->Prop}{bj:List Nat}(g:∀a∈bj,L a)(h:∀a,L a->∀c∈succ a,L c)(w:∀a,L a->zK a=succ a):bH zK bj U=bH succ bj U:=by have:=Lx (λa c _ _ e=>e) (zK:=zK) g h (λa i=>b) U;simp_all
def aos(b:List Nat):b.length=256->((List.range 256).map λa=>b.getD (UInt8.ofNat a).toNat 0)=b:=by
 let g:((List.range 256).map λa=>b.getD (UInt8.ofNat a).toNat 0)=(List.range 256).map λa=>b.getD a 0:=gp λa h=>by grind[rN]
 let e:=Jk b 0 λc=>c;grind[List.map_id']
theorem WR{a:a3}(w:fH a)(c:U∈bX a a.next.length){b:UInt8}:gj a U b∈bX a a.next.length:=by
 apply Au (pH (tV a a.next.length)<|mP w a.next.length) c _;let e:(c8 a U).length=256:=by have:=w.n U<|mP w _ U c;exact this
 exact bZ (by rw[e];exact b.toNat_lt)
def NX{E:a3}{H:Nat}:E.start∈bX E H:=(lU<|c1 H).subset (by simp[bH])
def aab{b a:List Nat}{Y:Nat}(k:∀l∈a,b.getD l 0<Y):∀e≤a.length,∀c,a.length-e<=c->c<a.length->(kK b a Y e).getD (b.getD (a.getD c 0) 0) 0∈a/\b.getD ((kK b a Y e).getD (b.getD (a.getD c 0) 0) 0) 0=b.getD (a.getD c 0) 0|0,_,c,j,g=>v|e+1,m,c,j,g=>by have:a.getD (a.length-1-e) 0∈a:=bZ v;rw[kK,tK];by_cases i:b.getD (a.getD (a.length-1-e) 0) 0=b.getD (a.getD c 0) 0;simp_all[ab,JH,bZ];rw[aa λh=>i h.1];refine aab k e v c ?_ g;grind
theorem aiD{P:List Nat}(w:P.Nodup):U<P.length->P.idxOf (P.getD U 0)=U:=by simp_all
def RD{P:List Nat}{Y:Nat}(g:P.Nodup)(e:∀h∈P,h<Y):∀b≤P.length,∀a<b,(nX P Y b).getD (P.getD a 0) 0=a|0,_,a,w=>v|b+1,i,a,w=>by rw[nX,tK];by_cases c:a=b;subst c;rw[ab ⟨rfl,by grind[Gf,bZ]⟩];rw[aa];exact RD g e b v a v;grind[aiD]
def adR{P:List Nat}{Y:Nat}(c:P.Nodup)(b:∀U∈P,U<Y)(e:U∈P):(nX P Y P.length).getD U 0=P.idxOf U:=by let a:=rX e;have:=RD c b _ (a1 _) _ a;simp_all
def alO{E:a3}(w:fH E){cl:List Nat}{Y:Nat}(h:∀a∈bX E E.next.length,cl.getD a 0<Y)(u:∀F<Y,∃a∈bX E E.next.length,cl.getD a 0=F)(J:Y<=100000)(B:uZ (·∈bX E E.next.length) (gj E) (fT E) (cl.getD · 0)):D2 E (bX E E.next.length) cl Y=iZ (gG E):=by
 generalize z:bX E E.next.length=g at h u B;have s:E.start∈g:=z▸NX;have r:∀a∈g,(kK cl g Y g.length).getD (cl.getD a 0) 0∈g/\cl.getD ((kK cl g Y g.length).getD (cl.getD a 0) 0) 0=cl.getD a 0:=λa e=>by have p:=rX e;have:=aab h g.length (a1 _) (g.idxOf a) v p;simp_all
 have j:=(B.tv (eZ:=λb=>(kK cl g Y g.length).getD b 0) r s nj).1;unfold D2;generalize O:kK cl g Y g.length=sm at r j;have:∀a∈g,a<E.next.length:=z▸mP w _;have I:∀a∈g,∀c,gj E a c∈g:=λa e c=>by grind[WR]
 have a6:∀b<Y,∀c,cl.getD (gj E (sm.getD b 0) c) 0<Y:=λb m c=>by obtain⟨a,e,rfl⟩:=u b m;exact h _<|I _ (r a e).1 c
 have C:∀b<Y,c8 (dM E cl sm Y) b=e7 (λb c=>cl.getD (gj E (sm.getD b 0) c) 0) b:=λb m=>by rw[c8,dM,cg,ch,wo m];rfl
 have l:∀H,bX (dM E cl sm Y) H=bH (e7 λb c=>cl.getD (gj E (sm.getD b 0) c) 0) [cl.getD E.start 0] H:=λH=>
  RP (L:=λb=>b<Y) (λa e=>by rw[cV.1 e];exact h _ s) (λa e=>EU (L:=λb=>b<Y) (λt c ap=>a6 t ap c) e) C
 have o:(bX (dM E cl sm Y) Y).Nodup:=tV _ Y;have i:∀a∈bX (dM E cl sm Y) Y,a<Y:=by rw[l Y];exact qi (L:=λb=>b<Y) (λa e=>by rw[cV.1 e];exact h _ s) (λa e=>EU (L:=λb=>b<Y) (λt c ap=>a6 t ap c) e) Y
 have A:=pH o i;have N:bH (e7 λb c=>cl.getD (gj E (sm.getD b 0) c) 0) [cl.getD E.start 0] nj=bX (dM E cl sm Y) Y:=by rw[l Y];exact py (H:=Y) (bJ:=nj) (by rw[<-l Y];exact A) (by rw[LL];exact J)
 rw[N] at j;have x:∀a∈bX (dM E cl sm Y) Y,∀G∈e7 (λb c=>cl.getD (gj E (sm.getD b 0) c) 0) a,G∈bX (dM E cl sm Y) Y:=λa e G Q=>by grind[Au]
 generalize bX (dM E cl sm Y) Y=P at o i A j x;unfold iZ;rw[show tv (gG E) nj=_ from j];unfold Oy yF;congr 1;show(List.range P.length).map (λH=>(dM E cl sm Y).acc.getD (P.getD H 0) false)=_;rw[Jk P 0 ((dM E cl sm Y).acc.getD · false)];refine gp λa e=>?_;rw[dM,cg,ch,wo<|i a e];rfl;show(List.range P.length).map (qR (dM E cl sm Y) P (nX P Y P.length) ·)=_;unfold qR;rw[Jk P 0 λa=>(List.range 256).map λc=>(nX P Y P.length).getD ((c8 (dM E cl sm Y) a).getD c 0) 0];refine gp λa e=>?_;have q:=aos (e7 (λb c=>cl.getD (gj E (sm.getD b 0) c) 0) a) (by rw[e7,aS,gM]);rw[C a<|i a e];have y:=x a e;generalize e7 (λb c=>cl.getD (gj E (sm.getD b 0) c) 0) a=D at q y⊢;have K:((List.range 256).map λc=>D.getD c 0)=D:=(gp λc k=>by rw[rN<|fq.1 k]).symm.trans q;have M:D.length=256:=by rw[<-q,aS,gM]
 conv=>rhs;rw[<-K]
 rw[ez];refine gp λc k=>?_;exact adR o i<|y _<|bZ (by rw[M];exact fq.1 k)
def GM{aD:Type} [DecidableEq aD]:∀(b a:List aD),(g7 a b).length<=a.length+b.length
|[],a=>by simp[Tb,yg]|Y::b,a=>by
 rw[GL];let c:=GM b<|note a Y;let e:(note a Y).length<=a.length+1:=by unfold note;split;omega;simp
 (simp;omega)
def nE(b:Nat->Nat):Nat->List (Nat×Nat)|0=>[]|a+1=>nE b a++(if a=0\/b a≠b (a-1) then[(a,b a)] else[])
def ls(b:List (Nat×Nat)):List Nat:=b.flatMap λa=>[a.1,a.2]
def T8:∀{a o:List (Nat×Nat)},ls a=ls o->a=o|[],[],_=>rfl|[],b::o,w=>bB|b::a,[],w=>bB|b::a,c::o,w=>by simp[ls,Ft,wm,List.cons.injEq] at w;rw[T8 w.2.2,Prod.ext w.1 w.2.1]
def Pf b:∀F,∀a∈nE b F,a.1<F|0,a,w=>absurd w h2|F+1,a,w=>by rcases ee.1 w with w|w;exact wu<|Pf b F a w;simp_all
def Pe{e a:Nat->Nat}:∀F,nE e F=nE a F->∀c<F,e c=a c|0,_,c,k=>v|F+1,w,c,k=>by rw[nE,nE] at w;by_cases i:F=0\/e F≠e (F-1);by_cases g:F=0\/a F≠a (F-1);rw[ab i,ab g] at w;let⟨j,l⟩:=P7 w rfl;rcases gh c F with h|h;exact Pe F j c h;grind;have:=Pf a F (F,e F) aM;omega;by_cases g:F=0\/a F≠a (F-1);have:=Pf e F (F,a F) b;omega;rw[aa i,aa g,gf,gf] at w;let m:=Pe F w;grind
def Zw{b c:Nat->Nat}:∀F,(∀a<F,b a=c a)->nE b F=nE c F|0,_=>rfl|F+1,w=>by rw[nE,nE,Zw F λa e=>w a v,w F v,w _ v]
def lC(c:a3)(a:List Nat)(b:Nat):List Nat:=a.getD b 0::ls (nE (λe=>a.getD ((c8 c b).getD e 0) 0) 256)
theorem EA{c:a3}{b:List Nat}{e:Nat}:lC c b U=lC c b e↔b.getD U 0=b.getD e 0/\∀a,b.getD (gj c U a) 0=b.getD (gj c e a) 0:=by unfold lC;rw[List.cons.injEq];refine QA lI ⟨λw a=>?_,λw=>?_⟩;exact Pe 256 (T8 w) _ a.toNat_lt;rw[Zw 256 λa g=>?_];have:=w<|UInt8.ofNat a;grind[gj,rN]
def e_{aD:Type} [DecidableEq aD](a:List aD)(b:aD):Nat:=a.idxOf b
def xl{aD:Type} [DecidableEq aD]{a:List aD}{b:aD}(w:b∈a):e_ a b<a.length:=rX w
theorem MX{aD:Type} [DecidableEq aD]{a:List aD}{b:aD}(w:e_ a b<a.length):a[e_ a b]=b:=Kp w
theorem vD{aD:Type} [DecidableEq aD]{a o:List aD}(w:a<+:o){b:aD}(c:b∈a):e_ o b=e_ a b:=anJ w c
theorem zd{aD:Type} [DecidableEq aD]{N:List aD}(w:N.Nodup){F:Nat}(a:F<N.length):e_ N N[F]=F:=List.Nodup.idxOf_getElem w F a
def ei(a:a3)(b e:List Nat)(c:Nat):List (List Nat):=g7 [] ((e.take c).map<|lC a b)
def gw(a:a3)(e c:List Nat):Nat->List Nat|0=>List.replicate a.next.length 0|b+1=>(gw a e c b).set (c.getD b 0)<|e_ (ei a e c<|b+1)<|lC a e<|c.getD b 0
theorem Bs{E:a3}{cl N:List Nat}:∀a,(gw E cl N a).length=E.next.length|0=>s7 ..|a+1=>by rw[gw,lL,Bs a]
theorem oy{b:Type}{a:List b}{M:b}:U<a.length->a.take (U+1)=a.take U++[a.getD U M]:=by simp_all
def VK{E:a3}{cl:List Nat}{a:List Nat}:U<a.length->ei E cl a (U+1)=note (ei E cl a U) (lC E cl (a.getD U 0)):=by grind[ei,oy,w0]
theorem ajj a b e c:(ei a b e c).Nodup:=wZ _ Kw
def Dw{a:a3}{b c:List Nat}{D:List Nat}:D∈ei a b c U↔∃e∈c.take U,lC a b e=D:=by unfold ei;rw[vh,b4];simp
def Xx{g:a3}{h e:List Nat}(k:∀a∈e,a<g.next.length):∀c≤e.length,∀a∈e.take c,(gw g h e c).getD a 0=e_ (ei g h e c) (lC g h a)|0,_,a,b=>bB|c+1,p,a,b=>by rw[gw,tK];by_cases i:e.getD c 0=a;rw[ab ⟨i,by grind[Bs,bZ]⟩,i];rw[aa λj=>i j.1];rw[oy (M:=0) v] at b;rcases ee.1 b with b|b;rw[Xx k c v a b,VK v];exact(vD Ok<|Dw.2 ⟨a,b,rfl⟩).symm;simp_all
def alX{E:a3}{cl a:List Nat}(b:∀Z∈a,Z<E.next.length){Z:Nat}(c:Z∈a):(gw E cl a a.length).getD Z 0=e_ (ei E cl a a.length) (lC E cl Z):=Xx b _ (a1 _) Z aK
def Xy{c:a3}{e a:List Nat}{o:Nat}(j:a.length<=o)(h:0<o):∀b≤a.length,∀g,(gw c e a b).getD g 0<o
|0,_,g=>by grind[gw]|b+1,p,g=>by
 rw[gw,tK];split;let i:lC c e (a.getD b 0)∈ei c e a (b+1):=Dw.2 ⟨_,by grind[oy],rfl⟩;let k:=xl i;let l:=by have:=GM (a.take (b+1)|>.map (lC c e)) [];rw[aS,m7] at this;let m:(ei c e a _).length<=0+min _ _:=this;omega
 omega;exact Xy j h b v g
structure wH(E:a3)(N cl:List Nat)(Y:Nat):Prop where
 len:cl.length=E.next.length
 acc:∀Z B,Z∈N->B∈N->cl.getD Z 0=cl.getD B 0->fT E Z=fT E B
 VW:∀Z B,Z∈N->B∈N->gH (gj E) (fT E) Z=gH (gj E) (fT E) B->cl.getD Z 0=cl.getD B 0
 sg:Y=0\/(∀Z∈N,cl.getD Z 0<Y)/\∀F<Y,∃Z∈N,cl.getD Z 0=F
 lt:∀Z,cl.getD Z 0<200000
def jJ(a:a3)(c:List Nat):Nat->List Nat|0=>List.replicate a.next.length 0|b+1=>if fT a (c.getD b 0) then(jJ a c b).set (c.getD b 0) 1 else jJ a c b
theorem Az{b:a3}{c:List Nat}:∀a,(jJ b c a).length=b.next.length|0=>s7 ..|a+1=>by rw[jJ];split;rw[lL,Az a];exact Az a
def LR{c:a3}{e:List Nat}:∀b a,(jJ c e b).getD a 0<200000|0,a=>by rw[jJ,cg,wq];grind|b+1,a=>by rw[jJ];split;rw[tK];split;omega;exact LR b a;exact LR b a
def Ss{e:a3}{c:List Nat}(i:∀a∈c,a<e.next.length):∀b≤c.length,∀a,(jJ e c b).getD a 0=if a∈c.take b/\fT e a then 1 else 0
|0,_,a=>by rw[jJ,cg,wq];grind|b+1,p,a=>by
 let k:=Ss i b v a;let j:a∈c.take (b+1)↔a∈c.take b\/a=c.getD b 0:=by rw[oy (M:=0) v];simp
 rw[jJ];split;rename_i h;rw[tK];by_cases g:c.getD b 0=a;rw[ab ⟨g,by grind[Az,bZ]⟩,ab ⟨j.2<|.inr g.symm,g▸h⟩];grind;grind
theorem wH.start{b:a3}{c:List Nat}(h:∀a∈c,a<b.next.length):wH b c (jJ b c c.length) 0:=by
 let j:∀a∈c,(jJ b c _).getD a 0=if fT b a then 1 else 0:=λa e=>by rw[Ss h _ (a1 _) a,gq];simp_all
 refine⟨Az _,λa g e i w=>?_,λa g e i w=>?_,.inl rfl,LR _⟩;grind;have:=KU w [];have:fT b a=fT b g:=this;grind
theorem wH.step{E:a3}(w:fH E){cl:List Nat}{Y:Nat}{a:List Nat}(j:a=bX E E.next.length)(F:wH E a cl Y):wH E a (gw E cl a a.length) (ei E cl a a.length).length/\Y<=(ei E cl a a.length).length/\0<(ei E cl a a.length).length/\(ei E cl a a.length).length<=a.length/\((ei E cl a a.length).length=Y->uZ (·∈a) (gj E) (fT E) ((gw E cl a a.length).getD · 0)/\(∀Z∈a,(gw E cl a a.length).getD Z 0<Y)/\∀F<Y,∃Z∈a,(gw E cl a a.length).getD Z 0=F):=by
 let H:∀Z∈a,Z<E.next.length:=j▸mP w _;let p:∀Z∈a,∀W,gj E Z W∈a:=λZ b W=>by rw[j] at b⊢;exact WR w b
 let K:E.start∈a:=j▸NX;let R:a.length<=E.next.length:=j▸pH (tV E E.next.length) (mP w E.next.length);let q:=λZ b=>alX (E:=E) (cl:=cl) H (Z:=Z) b;let r:∀Z∈a,lC E cl Z∈ei E cl a a.length:=λZ b=>Dw.2 ⟨Z,aK,rfl⟩;let i:∀Z c,Z∈a->c∈a->((gw E cl a a.length).getD Z 0=(gw E cl a a.length).getD c 0↔lC E cl Z=lC E cl c):=λZ c b g=>by rw[q Z b,q c g];refine⟨λe=>?_,λe=>by rw[e]⟩;let B:=xl<|r Z b;let P:=xl<|r c g;let O:(ei E cl a a.length)[e_ (ei E cl a a.length) (lC E cl Z)]=lC E cl Z:=MX B;grind[ei,e_,lC,MX]
 let k:∀Z∈a,(gw E cl a a.length).getD Z 0<(ei E cl a a.length).length:=λZ b=>by rw[q Z b];exact xl<|r Z b
 let x:∀F<(ei E cl a a.length).length,∃Z∈a,(gw E cl a a.length).getD Z 0=F:=λF D=>by let⟨Z,b,e⟩:=Dw.1<|fG D;grind[zd,ajj]
 let I:Y<=(ei E cl a a.length).length:=by
  rcases F.sg with e|⟨s,m⟩;omega;let y:∀h:Fin Y,∃Z∈a,cl.getD Z 0=h.1:=λh=>m h.1 h.2;let l:=λh:Fin Y=>Fo<|y h;let J:((List.finRange Y).map λh=>(gw E cl a a.length).getD (Classical.choose<|y h) 0).Nodup:=by refine Kx.2<|(Qo Y).imp λ{A h} C he=>C ?_;have:=(EA.1<|(i _ _ (l A).1 (l h).1).1 he).1;rw[(l A).2,(l h).2] at this;exact Fp this
  have:=nK (W:=List.range (ei E cl a a.length).length) J λT ap=>by grind
  simpa using this
 let u:∀Z c,Z∈a->c∈a->(gw E cl a a.length).getD Z 0=(gw E cl a a.length).getD c 0->fT E Z=fT E c:=λZ c b g e=>F.acc Z c b g (EA.1<|(i Z c b g).1 e).1;let z:∀Z c,Z∈a->c∈a->gH (gj E) (fT E) Z=gH (gj E) (fT E) c->(gw E cl a a.length).getD Z 0=(gw E cl a a.length).getD c 0:=λZ c b g e=>by refine(i Z c b g).2<|EA.2 ⟨F.VW Z c b g e,λW=>F.VW _ _ (p Z b W) (p c g W) ?_⟩;have:=cW (tD · W) e;trivial
 let G:(ei E cl a a.length).length<=a.length:=by have:=GM ((a.take a.length).map<|lC E cl) [];rw[aS,m7] at this;let Q:(ei E cl a a.length).length<=0+min a.length a.length:=this;omega
 refine⟨⟨Bs _,u,z,.inr ⟨k,x⟩,(Xy (o:=200000) (by have:=w.len;omega) v _<|a1 _)⟩,I,?_,G,λe=>⟨?_,e▸k,e▸x⟩⟩;grind;refine uZ.of (λZ W b=>p Z b W) (z · · · ·) (u · · · ·) λZ c W b g he=>?_;rcases F.sg with N|⟨s,m⟩;have:=k _ K;omega;let S:=apV (L:=λZ=>Z∈a) (t:=λZ=>cl.getD Z 0) (M:=λZ=>(gw E cl a a.length).getD Z 0) (Y:=Y) (e▸k · ·) m s λZ c b g e=>(EA.1<|(i Z c b g).1 e).1;grind[EA]
section
variable[DecidableEq aD]
def kU(bv:aD->UInt8->aD)(b:aD->Bool)(a:List aD):a3:=⟨0,a.map b,a.map λc=>(e7 bv c).map a.idxOf⟩
def Lq{bv:aD->UInt8->aD}{acc:aD->Bool}{a:List aD}(b:U<a.length):c8 (kU bv acc a) U=(e7 bv a[U]).map a.idxOf:=by grind[c8,kU,List.getElem?_eq_getElem]
theorem aaF bv(a:aD):(e7 bv a).length=256:=ax
def JP bv(a:aD):U<256->(e7 bv a)[U]?=some (bv a (UInt8.ofNat U)):=by grind[e7,List.getElem?_range]
def RH{bv:aD->UInt8->aD}{acc:aD->Bool}{a:List aD}(k:∀g∈a,∀h∈e7 bv g,h∈a)(l:a.length<=100000)(c:0<a.length):fH (kU bv acc a):=by let b:(kU bv acc a).next.length=a.length:=aS ..;refine⟨v,by rw[b];exact aS ..,λe p=>?_,by rw[b];exact c,λe i p j=>?_⟩;rw[b] at p;have:=Lq (bv:=bv) (acc:=acc) p;grind[c8,List.length_map,aaF];rw[b] at p⊢;have:=Lq (bv:=bv) (acc:=acc) p;rw[c8] at this;grind
theorem ad0{bv:aD->UInt8->aD}{e:aD->Bool}{a:List aD}{c:aD}(g:c∈a)b:gj (kU bv e a) (a.idxOf c) b=a.idxOf (bv c b):=by let p:=rX g;rw[gj,Lq p,cg,ch,JP bv _ b.toNat_lt];simp
def Lp{bv:aD->UInt8->aD}{acc:aD->Bool}{b:List aD}(h:∀a∈b,∀j∈e7 bv a,j∈b):∀c{a:aD},a∈b->nF (gj (kU bv acc b)) (b.idxOf a) c=b.idxOf (nF bv a c)/\nF bv a c∈b
|[],a,e=>⟨rfl,e⟩|g::c,a,e=>by let i:bv a g∈b:=h a e _ (by have:=dh<|JP bv a g.toNat_lt;simp_all);let k:=Lp (acc:=acc) h c i;grind[nF,gj,kU,ad0]
theorem adZ{bv:aD->UInt8->aD}{c:aD->Bool}{a:List aD}{b:aD}(e:b∈a):fT (kU bv c a) (a.idxOf b)=c b:=by let p:=rX e;rw[fT,kU,cg,ch,bw p];simp
def RG{bv:aD->UInt8->aD}{acc:aD->Bool}{c:List aD}(j:∀e∈c,∀a∈e7 bv e,a∈c){e:aD}(h:c[0]?=some e):gG (kU bv acc c)=gH bv acc e:=by
 obtain⟨a,g,rfl⟩:∃a g,c=a::g:=by
  cases c;cases h
  next a g=>simp
 obtain rfl:a=e:=b;let k:(a::g).idxOf a=0:=af;funext i;cases Lp (acc:=acc) j i (dh h);show fT _ (nF _ 0 i)=acc _;grind[adZ]
end
def nv(e:List (List (Int×Int)))(a:List Nat)(b:Nat):List Nat:=a.filter λc=>hq (e.getD c []) (b:Int)
def kT(b:List (List Nat))(c:List Nat):List Nat:=c.foldl (λa e=>c0 a<|b.getD e []) []
abbrev gz:=Option<|List Nat
def lD(a:aC)(O:bf):gz->List Nat|none=>O.first|some b=>kT a.bz b
def h6(a:aC)(O:bf)(c:gz)(b:UInt8):gz:=some<|nv a.ai (lD a O c) b.toNat
def oK(O:bf):gz->Bool|none=>O.empty|some a=>a.any λb=>decide (b∈O.last)
def b6(a:aC)(O:bf)(b:Nat):List gz:=bH (e7<|h6 a O) [none] b
def dz(a:aC)(O:bf)(b c:Nat):List gz:=g7 (b6 a O b)<|(e7 (h6 a O)<|(b6 a O b).getD b none).take c
def gm(a:List gz):List (List Nat):=a.filterMap id
def kp(a:List gz):Prop:=a=none::(gm a).map some
theorem kp.one:kp [none]:=rfl
def kp.mem{a:List gz}(w:kp a)b:some b∈a↔b∈gm a:=by simp[gm]
theorem kp.note{a:List gz}(w:kp a)b:kp (note a (some b))/\gm (note a (some b))=ey.note (gm a) b:=by unfold ey.note;by_cases c:some b∈a;rw[ab c,ab<|(w.mem b).1 c];trivial;grind[gm,kp]
theorem kp.g7:∀(a:List gz){e:List gz},kp e->(∀c∈a,c≠none)->kp (ey.g7 e a)|[],_,w,_=>w|none::a,_,_,b=>absurd rfl (b _ af)|some c::a,_,w,b=>by exact kp.g7 a (w.note c).1 λh g=>b h (by simp[g])
def aaG{b:aC}{O:bf}{e:gz}:∀a∈e7 (h6 b O) e,a≠none:=λa c=>by obtain⟨g,_,rfl⟩:=b4.1 c;exact nofun
def zH{b:aC}{O:bf}:∀a,kp (b6 b O a)|0=>kp.one|a+1=>by unfold b6;rw[bH];split;exact kp.g7 _ (zH a) aaG;exact zH a
def PB c O a b:kp (dz c O a b):=kp.g7 _ (zH a) λg e=>aaG g<|p0 e
def aam{a:aC}{O:bf}:(b6 a O U).Nodup:=wS af U
theorem aqP b O c a:(dz b O c a).Nodup:=wZ _ aam
theorem aaj a O b:dz a O b 0=b6 a O b:=ax
def PA{a:aC}{O:bf}:U<(b6 a O U).length->dz a O U 256=b6 a O (U+1):=by unfold dz;rw[q1 (by simp[aaF])];grind[u7,b6,List.getElem?_eq_getElem]
def aai{y:aC}{O:bf}{H:Nat}(a:U<256):dz y O H (U+1)=note (dz y O H U) (some (nv y.ai (lD y O ((b6 y O H).getD H none)) U)):=by unfold dz;rw[ab8,JP _ _ a];grind[g7,w0,h6,rN]
def PC{y:aC}{O:bf}{a:Nat}(c:U<(b6 y O U).length):a<=256->dz y O U a<+:b6 y O (U+1):=by
 rw[<-PA c];unfold dz;have:=by let b:=(Ch a<|(e7 (h6 y O)<|(b6 y O U).getD U none).take 256).symm;exact b
 grind[GK,yR]
def aal{a:aC}{O:bf}{b:Nat}(e:U<(b6 a O U).length)(c:U<=b):(b6 a O b)[U]?=some ((b6 a O U).getD U none):=by apply vT<|lU c;grind[b6,List.getElem?_eq_getElem]
def On{ai:List (List (Int×Int))}{a:List Nat}(w:ef a){W:Nat}:ef (nv ai a W):=⟨HF w.1,λc b=>w.2 c (j1.1 b).1⟩
def Lc{c:List (List Nat)}(g:my c){en:List Nat}:ef (kT c en):=by
 have:∀(b:List Nat) a,ef a->ef (b.foldl (λa e=>c0 a<|c.getD e []) a):=by
  intro b
  induction b
  simp
  next e b h=>exactλa w=>h _<|w.un<|g e
 exact this en [] .nil
def aap{a:aC}{O:bf}(b:my a.bz)(c:F5 O){A:gz}:ef (lD a O A):=by
 cases A;exact c.1
 next e=>exact Lc b
def u6(a:aC)(O:bf):a3:=kU (h6 a O) (oK O)<|b6 a O 3000
def EO{y:aC}{O:bf}(w:(b6 y O 3000).length<=3000):∀a∈b6 y O 3000,∀c∈e7 (h6 y O) a,c∈b6 y O 3000:=λa b=>Au w b
def aan{a:aC}{O:bf}:0<(b6 a O U).length:=by rw[zH U];simp
def RI{a:aC}{O:bf}(w:(b6 a O 3000).length<=3000):fH (u6 a O):=RH (EO w) v aan
def Lr{a:aC}{O:bf}(w:(b6 a O 3000).length<=3000):gG (u6 a O)=gH (h6 a O) (oK O) none:=RG (EO w) (by rw[zH _];rfl)
def oW(a:ao):q_:=gH (h6 (cB a ⟨[],[]⟩).1 (cB a ⟨[],[]⟩).2) (oK (cB a ⟨[],[]⟩).2) none
def w6:a3:=⟨0,[],[]⟩
noncomputable def gY(a:ao):a3×Int:=if 2000<cr a\/3000<(b6 (cB a ⟨[],[]⟩).1 (cB a ⟨[],[]⟩).2 3000).length\/300<(iZ<|oW a).next.length then(w6,3) else(iZ<|oW a,0)
def L3:List UInt8:=[48,49,50,51,52,53,54,55,56,57,97,98,99,100,101,102,103,104,105,106,107,108,109,110,111,112,113,114,115,116,117,118,119,120,121,122]
def oP(Y:Nat):UInt8:=L3.getD Y 0
theorem S3:∀a<36,∀b<36,oP a=oP b->a=b:=bB
theorem ago:∀a<36,oP a≠32:=bB
def hC(a:Nat):List UInt8:=if w:a<36 then[oP a] else hC (a/36)++[oP (a%36)]
 termination_by a
 decreasing_by omega
theorem AC(w:U<36):hC U=[oP U]:=by rw[hC,Ab w]
theorem yM(w:¬U<36):hC U=hC (U/36)++[oP (U%36)]:=by rw[hC,KV w]
def af8 a:0<(hC a).length:=by by_cases w:a<36;simp_all[AC,Nat.succ_pos];simp_all[yM,c_,Nat.succ_pos]
def LZ{aP:Nat}(w:aP<1679616):(hC aP).length<=4:=by
 let b:∀aP<36,(hC aP).length<=1:=λaP w=>by simp_all[AC,a1]
 let step:∀F,(∀aP<36^F,(hC aP).length<=F)->1<=F->∀aP<36^(F+1),(hC aP).length<=F+1:=λF g e aP c=>by by_cases a:aP<36;grind;rw[yM a,c_]<;>grind
 have:=step 3 (step 2 (step 1 (λaP c=>b aP v) v) v) v aP v;omega
def SQ:∀a,∀b∈hC a,b≠32:=by
 intro a
 induction a using Nat.strongRecOn
 next a c=>grind[AC,List.mem_singleton,ago,yM]
def af7:∀a b,hC a=hC b->a=b:=by
 intro a
 induction a using Nat.strongRecOn
 next a i=>intro b w;by_cases e:a<36;by_cases c:b<36;grind[AC,S3,List.cons.inj];have:=af8<|b/36;rw[AC e,yM c] at w;have:=cW List.length w;grind;by_cases c:b<36;grind;rw[yM e,yM c] at w;let⟨g,h⟩:=P7 w rfl;let j:=i _ v _ g;let k:=S3 _ v _ v (List.cons.inj h).1;omega
def kA(a:List Nat):List UInt8:=a.flatMap λY=>hC Y++[32]
def aqH{b a:List UInt8}(h:∀c∈b,c≠32)(i:∀c∈a,c≠32){D e:List UInt8}(w:b++32::D=a++32::e):b=a/\D=e:=by
 induction b generalizing a
 cases a;simp_all
 next g a=>simp_all
 next k b j=>
  cases a;simp_all
  next g a=>grind
def VE:∀{a o:List Nat},kA a=kA o->a=o
|[],[],_=>rfl|[],Y::o,w=>by simp[kA] at w|Y::a,[],w=>by simp[kA] at w|Y::a,F::o,w=>by
 let b:∀Y a,kA (Y::a)=hC Y++32::kA a:=λY a=>by simp[kA]
 rw[b,b] at w;let⟨c,e⟩:=aqH (SQ Y) (SQ F) w;rw[af7 Y F c,VE e]
def VF:∀{N:List Nat},(∀a∈N,a<1679616)->(kA N).length<=5*N.length|[],_=>a1 _|Y::N,w=>by let b:=LZ<|w Y af;let c:=VF (N:=N) λa e=>w a aM;grind[kA,List.length_append,List.length_cons,List.length_nil]
def wi:V:=.int .u8 0
theorem RB a c b:(List.replicate (a+1) wi++c.map bh).set a (bh b)=List.replicate a wi++(b::c).map bh:=by rw[Qq,ge,yc _ _ af,s7,ms];rfl
theorem adP{a:List UInt8}{Y:Nat}:Y=a.length->((List.replicate U wi++a.map bh).drop U).take Y=a.map bh:=by simp_all[List.drop_left',s7,q1,aS,a1]
def S2{Y:Nat}(w:Y<36):L3[Y]?=some (oP Y):=by rw[oP,cg,bw<|show Y<L3.length from w];rfl
def aiM:aA 197 [.int .i64 36] (.bool false):=by refine aX func197 [] λs a=>?_;refine g1 ?_;exact ae (w:=ax)
def ahf{h:List UInt8}(q:U<1679616)(z:h.length<=16000000):cK 139 [.d 5000 0 (h.map bh).length,.int .u64 (U:Nat),.int .i64 36,.bool false,.bool true] [(5000,.n 1 5 (h.map bh))] (.tuple [.d 5000 0 ((h++hC U).map bh).length,.str []]) [(5000,.n 1 5 ((h++hC U).map bh))]:=by
 refine cX func139 [] λD s y=>?_;let m:=LZ q;refine cs (λ_=>rfl)<|cs (λ_=>rfl)<|kN.mk nofun λ_=>?_;refine W0 ?_ (aG:=ax);refine kN.mk nofun λ_=>?_;refine az ?_ (i:=aiM);refine kN.mk nofun λ_=>?_;refine k4 _ ?_;refine cQ (Nat×List UInt8×Nat) (λc=>⟨[(0,_),(1,.int .u64 (c.1:Nat)),(3,_),(4,_),(10,_),(11,_),(12,g 12),(13,.int .i64 ((c.2.2:Nat):Int)),(17,_)],[(12,.n 1 289<|List.replicate c.2.2 wi++c.2.1.map bh),(5000,.n 1 5<|h.map bh)],[]⟩) (λc=>hC U=hC c.1++c.2.1/\c.1<1679616/\c.2.2+c.2.1.length=65) (λc=>c.1) (U,[],65) (λ⟨a,k,t⟩ ⟨l,u,x⟩=>?_) ⟨(gf _).symm,q,rfl⟩ .r;dsimp only at l u x⊢;let B:(hC a).length+k.length<=4:=by rw[l,c_] at m;exact m
 obtain⟨e,rfl⟩:∃e,t=e+1:=⟨t-1,v⟩;apply j<;>intro A
 .refine ia ((e:Nat):Int) ?_;refine DS ((a/36:Nat):Int) ?_ (w:=ax);refine lw (a%36) (oP<|a%36) ?_ (av:=by grind[J9]) (p:=S2 v);refine W5 ?_;refine fl (List.replicate e wi++(oP (a%36)::k).map bh) wi (bh<|oP<|a%36) ?_ (p:=aM) (aG:=by grind[RB]);exact aB (a/36,oP (a%36)::k,e) ⟨by grind[yM,List.append_assoc],v,aK⟩ v .r
 let o:a<36:=v;rw[AC o] at l;refine ia ((e:Nat):Int) ?_;refine lw a (oP a) ?_ (p:=S2 o);refine W5 ?_;refine fl (List.replicate e wi++(hC U).map bh) wi (bh<|oP a) ?_ (p:=aM) (aG:=by grind[RB]);refine kN.mk nofun λ_=>?_;refine kN.mk (λ_=>?_) nofun;refine Oc e 65 (k.length+1) ?_ (xi:=p2);refine eR ((h++hC U).map bh) ?_ (fC:=.d (uc:=12) (yV:=289) (xs:=List.replicate e wi++(hC U).map bh) rfl rfl rfl rfl rfl b (by intro M a6;rcases ee.1 a6 with a6|a6;rw[uJ a6];rfl;obtain⟨C,_,rfl⟩:=b4.1 a6;rfl)) (aG:=by rw[kk,adP b,cD]) (bq:=aK);exact cH
def acT{a:List UInt8}(c:U<1679616)(b:a.length<=16000000):cK 91 [.d 5000 0 (a.map bh).length,.int .u64 (U:Nat),.int .i64 36] [(5000,.n 1 5 (a.map bh))] (.d 5000 0 ((a++hC U).map bh).length) [(5000,.n 1 5 ((a++hC U).map bh))]:=by refine cX func91 [] λg s e=>?_;refine kN.mk nofun λ_=>?_;refine bk [(5000,5000)] ?_ (i:=ahf c b);exact cH
def acS{a:List UInt8}(c:U<1679616)(b:a.length<=16000000):cK 59 [.d 5000 0 (a.map bh).length,q U,.int .i64 36] [(5000,.n 1 5 (a.map bh))] (.d 5000 0 ((a++hC U).map bh).length) [(5000,.n 1 5 ((a++hC U).map bh))]:=by
 refine cX func59 [] λh s e=>?_;apply k4 _;apply j<;>intro g
 .omega
 refine bk [(5000,5000)] ?_ (i:=acT c b);exact cH
def adN a b(e:b<1679616)(c:a.length<=16000000):cK 37 [.d 5000 0 (a.map bh).length,q b,.int .i64 36] [(5000,.n 1 5 (a.map bh))] (.d 5000 0 ((a++hC b).map bh).length) [(5000,.n 1 5 ((a++hC b).map bh))]:=by refine cX func37 [] λh s g=>?_;refine bk [(5000,5000)] ?_ (i:=acS e c);exact cH
theorem VG{a:List Nat}:U<a.length->kA (a.take (U+1))=kA (a.take U)++hC (a.getD U 0)++[32]:=by grind[EY,kA]
def Nl N(bq:∀b∈N,b<1000000)(l:N.length<=3000):aA 132 [.f 1 (N.map q)] (.str (kA N)):=by
 refine aX func132 [] λs h=>?_;refine ay.dI 3 1 5 [3] none<|dL N.length (λa=>⟨[(0,_),(4,q a),(3,.d 3 0 ((kA<|N.take a).map bh).length)],[(3,.n 1 5<|(kA<|N.take a).map bh)],[]⟩) (λa p=>?_) .r;apply j<;>intro k
 .let c:a<N.length:=v;let g:=VF (N:=N.take a) λb e=>h3 (bq b<|p0 e) aj;rw[m7] at g;let e:=bq _<|bZ (M:=0) c;let a6:=LZ (aP:=N.getD a 0) v;refine aJ a (q<|N.getD a 0) ?_ (p:=dg c);refine bk [(5000,3)] (i:=adN (kA<|N.take a) (N.getD a 0) v v)<|dv ?_;refine eR ((kA<|N.take<|a+1).map bh) (aG:=by grind[VG,bh,V.const,V.leaf]) (bq:=by grind[List.length_map,VG,List.length_append,List.length_cons,List.length_nil])<|aL ?_;exact aB (a+1) (bo:=.r)
 obtain rfl:a=N.length:=v;exact Bl (kA N) (hlen:=af) (a0:=aM)<|ae
section
attribute [local irreducible] hx qS vm tl c8 qR vv tk
def alS(E:a3)(N cl:List Nat)(Y:Nat)(w:fH E)(bq:∀x∈N,x<E.next.length)(aj:N.length<=100000)(ad:cl.length=E.next.length)(y:∀x,cl.getD x 0<Y)(al:0<Y)(I:Y<=100000):aA 193 [dW E,.f 1 (N.map q),.f 1 (cl.map q),q Y] (dW (D2 E N cl Y)):=by
 refine aX func193 [2007,2017,2024] λs O=>?_;have M:=w.start;have ai:=w.len;refine ja Y Y ((List.replicate Y 0).map q) ?_ (aG:=Io Y);refine ia ((N.length:Int)-1-((0:Nat):Int)) ?_ (w:=af);refine dL N.length (λe=>⟨[(1,.f 1<|N.map q),(2,.f 1<|cl.map q),(3,q Y),(4,g 4),(8,g 8),(10,.int .i64<|(N.length:Int)-1-(e:Nat)),(9,.d 23 0 Y)],[(4,.cell 131<|dW E),(8,.cell 131<|V.zero nr.z),(23,.n 1 3<|(kK cl N Y e).map q)],[]⟩) λe ag=>?_;apply j<;>intro W
 .have ah:e<N.length:=v;have an:N.getD (N.length-1-e) 0<E.next.length:=bq _<|bZ v;refine dC ?_;refine a_ (λ_=>aJ (N.length-1-e) (q<|N.getD (N.length-1-e) 0) rfl (av:=v) (p:=dg v)) ?_;refine a_ (λ_=>aJ (N.getD (N.length-1-e) 0) (q<|cl.getD (N.getD (N.length-1-e) 0) 0) rfl (p:=dg v)) ?_;refine a_ (λ_=>aJ (N.length-1-e) (q<|N.getD (N.length-1-e) 0) rfl (av:=v) (p:=dg v)) ?_;refine a_ (λ_=>cz (cl.getD (N.getD (N.length-1-e) 0) 0) rfl (p:=y _)) ?_;refine uE ((kK cl N Y<|e+1).map q) (q<|(kK cl N Y e).getD (cl.getD (N.getD (N.length-1-e) 0) 0) 0) (q<|N.getD (N.length-1-e) 0) ?_ (p:=dg (by grind[JH])) (aG:=by rw[kK,gN]);refine fm ?_;refine ia ((N.length:Int)-1-((e+1:Nat):Int)) ?_ (w:=v);exact aB<|e+1
 obtain rfl:e=N.length:=v;have L:=JH (cl:=cl) (N:=N) (Y:=Y) N.length;have G:=aaa (Y:=Y) (cl:=cl) (FA (c1 _) M) bq N.length<|a1 _;generalize K:kK cl N Y N.length=sm at L G;refine aJ E.start (q<|cl.getD E.start 0) ?_ (p:=dg v);refine ay.dI 1100 1 64 [] (some (11,2)) ?_;refine ay.dI 1101 1 4 [] (some (11,1)) ?_;refine cP ?_;refine dL Y (λa=>⟨[(2,.f 1<|cl.map q),(3,q Y),(4,g 4),(8,g 8),(11,g 11),(12,q a),(9,.d 23 0 Y)],[(4,.cell 131<|dW E),(8,.cell 131<|V.zero nr.z),(11,.cell 131<|.agg [q (cl.getD E.start 0),.d 1101 0 (((List.range a).map<|tl E sm).map aW).length,.d 1100 0 (((List.range a).map<|qS E cl sm).map bl).length]),(23,.n 1 3<|sm.map q),(1100,.n 1 64<|((List.range a).map<|qS E cl sm).map bl),(1101,.n 1 4<|((List.range a).map<|tl E sm).map aW)],[]⟩) λa R=>?_;apply j<;>intro X
 .have ae:a<Y:=v;have u:sm.getD a 0<E.next.length:=G a;have am:=w.n _ u;refine ja 256 256 ((hx (vm E cl sm a) 0).map q) ?_ (aG:=QB);refine dL 256 (λc=>⟨[(2,.f 1<|cl.map q),(3,q Y),(4,g 4),(8,g 8),(11,g 11),(12,q a),(14,q c),(9,.d 23 0 Y),(13,.d 55 0 256)],[(4,.cell 131<|dW E),(8,.cell 131<|V.zero nr.z),(11,.cell 131<|.agg [q (cl.getD E.start 0),.d 1101 0 (((List.range a).map<|tl E sm).map aW).length,.d 1100 0 (((List.range a).map<|qS E cl sm).map bl).length]),(23,.n 1 3<|sm.map q),(55,.n 1 3<|(hx (vm E cl sm a) c).map q),(1100,.n 1 64<|((List.range a).map<|qS E cl sm).map bl),(1101,.n 1 4<|((List.range a).map<|tl E sm).map aW)],[]⟩) λc k=>?_;apply j<;>intro Z
  .have k:c<256:=v;have a6:=JO w u k;refine dC ?_;refine a_ (λ_=>cz a rfl (p:=v)) ?_;refine a_ (λ_=>ft (q<|sm.getD a 0) rfl (p:=dg v)) ?_;refine a_ (λ_=>aJ (sm.getD a 0) (bl<|c8 E<|sm.getD a 0) rfl (p:=ES u)) ?_;refine a_ (λ_=>aJ c (q<|(c8 E<|sm.getD a 0).getD c 0) rfl (p:=ET a6.1)) ?_;refine a_ (λ_=>aJ ((c8 E<|sm.getD a 0).getD c 0) (q<|vm E cl sm a c) rfl (p:=ahB v)) ?_;refine a_ (λ_=>cz c rfl (p:=v)) ?_;refine uE ((hx (vm E cl sm a)<|c+1).map q) (q<|(hx (vm E cl sm a) c).getD c 0) (q<|vm E cl sm a c) ?_ (p:=dg FG) (aG:=QE);refine fm ?_;refine aL ?_;exact aB<|c+1
  obtain rfl:c=256:=v;rw[apr];refine Bu 55 256 (ak:=(qS E cl sm a).map q) (by simp[Zy]) ?_;refine dv ?_;refine eR (((List.range<|a+1).map<|qS E cl sm).map bl) ?_ (aG:=El (qS E cl sm) bl a) (bq:=aM);refine dC ?_;refine a_ (λ_=>cz a rfl (p:=v)) ?_;refine a_ (λ_=>ft (q<|sm.getD a 0) rfl (p:=dg v)) ?_;refine a_ (λ_=>aJ (sm.getD a 0) (aW<|tl E sm a) rfl (p:=acY (by rw[w.acc]<;>omega))) ?_;refine a_ (λ_=>jv rfl) ?_;refine jB 94 (((List.range<|a+1).map<|tl E sm).map aW) ?_ (aG:=El (tl E sm) aW a) (bq:=aM) (lu:=ax) (vA:=ax);refine eJ ?_;refine iK [(94,1101)] ?_;refine aL ?_;exact aB<|a+1
 obtain rfl:a=Y:=v;have m:=aof (E:=E) (sm:=sm) y I;have o:(dM E cl sm a).next.length=a:=by unfold dM;rw[aS,gM]
 have A:=WS (dM E cl sm a) m a o.symm;have D:(bX (dM E cl sm a) a).Nodup:=tV _ a;have l:=mP m a;have B:=pH D l;rw[o] at l B;have J:D2 E N cl a=Oy (dM E cl sm a) (bX (dM E cl sm a) a) (nX (bX (dM E cl sm a) a) a (bX (dM E cl sm a) a).length):=by unfold D2;rw[K]
 rw[J];generalize bX (dM E cl sm a) a=P at A D l B⊢;refine ay.g9 1100 ?_;refine ay.g9 1101 ?_;refine cP ?_;refine az ?_ (i:=A);refine ja a a ((nX P a 0).map q) ?_ (aG:=Io a);refine dL P.length (λb=>⟨[(8,g 8),(11,g 11),(15,.f 1<|P.map q),(17,q b),(16,.d 99 0 a)],[(8,.cell 131<|V.zero nr.z),(11,.cell 131<|dW<|dM E cl sm a),(99,.n 1 3<|(nX P a b).map q)],[]⟩) λb p=>?_;apply j<;>intro S
 .have h:b<P.length:=v;have t:P.getD b 0<a:=l _<|bZ h;refine aJ b (q<|P.getD b 0) ?_ (p:=dg h);refine cz (P.getD b 0) ?_ (p:=t);refine fl ((nX P a<|b+1).map q) (q<|(nX P a b).getD (P.getD b 0) 0) (q b) ?_ (p:=dg (by grind[Gf])) (aG:=by rw[nX,gN]);refine aL ?_;exact aB<|b+1
 obtain rfl:b=P.length:=v;have H:=Gf (P:=P) (Y:=a) P.length;generalize Q:nX P a P.length=C at H;refine ay.dI 1200 1 64 [] (some (18,2)) ?_;refine ay.dI 1201 1 4 [] (some (18,1)) ?_;refine cP ?_;refine dL P.length (λb=>⟨[(8,g 8),(11,g 11),(15,.f 1<|P.map q),(18,g 18),(19,q b),(16,.d 99 0 a)],[(8,.cell 131<|V.zero nr.z),(11,.cell 131<|dW<|dM E cl sm a),(18,.cell 131<|.agg [.int .i64 0,.d 1201 0 (((List.range b).map<|tk (dM E cl sm a) P).map aW).length,.d 1200 0 (((List.range b).map<|qR (dM E cl sm a) P C).map bl).length]),(99,.n 1 3<|C.map q),(1200,.n 1 64<|((List.range b).map<|qR (dM E cl sm a) P C).map bl),(1201,.n 1 4<|((List.range b).map<|tk (dM E cl sm a) P).map aW)],[]⟩) (λb p=>?_) .r;apply j<;>intro T
 .have h:b<P.length:=v;have t:P.getD b 0<a:=l _<|bZ h;have F:P.getD b 0<(dM E cl sm a).next.length:=by rw[o];exact t
  refine ja 256 256 ((hx (vv (dM E cl sm a) P C b) 0).map q) ?_ (aG:=QB);refine dL 256 (λc=>⟨[(8,g 8),(11,g 11),(15,.f 1<|P.map q),(18,g 18),(19,q b),(21,q c),(16,.d 99 0 a),(20,.d 120 0 256)],[(8,.cell 131<|V.zero nr.z),(11,.cell 131<|dW<|dM E cl sm a),(18,.cell 131<|.agg [.int .i64 0,.d 1201 0 (((List.range b).map<|tk (dM E cl sm a) P).map aW).length,.d 1200 0 (((List.range b).map<|qR (dM E cl sm a) P C).map bl).length]),(99,.n 1 3<|C.map q),(120,.n 1 3<|(hx (vv (dM E cl sm a) P C b) c).map q),(1200,.n 1 64<|((List.range b).map<|qR (dM E cl sm a) P C).map bl),(1201,.n 1 4<|((List.range b).map<|tk (dM E cl sm a) P).map aW)],[]⟩) (λc k=>?_) .r;apply j<;>intro U
  .have k:c<256:=v;have a6:=JO m F k;rw[o] at a6;refine dC ?_;refine a_ (λ_=>aJ b (q<|P.getD b 0) rfl (p:=dg h)) ?_;refine a_ (λ_=>aJ (P.getD b 0) (bl<|c8 (dM E cl sm a)<|P.getD b 0) rfl (p:=ES F)) ?_;refine a_ (λ_=>aJ c (q<|(c8 (dM E cl sm a)<|P.getD b 0).getD c 0) rfl (p:=ET a6.1)) ?_;refine a_ (λ_=>cz ((c8 (dM E cl sm a)<|P.getD b 0).getD c 0) rfl (p:=a6.2)) ?_;refine a_ (λ_=>ft (q<|vv (dM E cl sm a) P C b c) rfl (p:=ahY v)) ?_;refine a_ (λ_=>cz c rfl (p:=v)) ?_;refine uE ((hx (vv (dM E cl sm a) P C b)<|c+1).map q) (q<|(hx (vv (dM E cl sm a) P C b) c).getD c 0) (q<|vv (dM E cl sm a) P C b c) ?_ (p:=dg FG) (aG:=QE);refine fm ?_;refine aL ?_;exact aB (c+1) (bo:=.r)
  obtain rfl:c=256:=v;rw[app];refine Bu 120 256 (ak:=(qR (dM E cl sm a) P C b).map q) (by simp[apq,dM]) ?_;refine dv ?_;refine eR (((List.range<|b+1).map<|qR (dM E cl sm a) P C).map bl) ?_ (aG:=El (qR (dM E cl sm a) P C) bl b) (bq:=aM);refine dC ?_;refine a_ (λ_=>aJ b (q<|P.getD b 0) rfl (p:=dg h)) ?_;refine a_ (λ_=>aJ (P.getD b 0) (aW<|tk (dM E cl sm a) P b) rfl (p:=adM (by rw[m.acc]<;>omega))) ?_;refine a_ (λ_=>jv rfl) ?_;refine jB 159 (((List.range<|b+1).map<|tk (dM E cl sm a) P).map aW) ?_ (aG:=El (tk (dM E cl sm a) P) aW b) (bq:=aM) (lu:=ax) (vA:=ax);refine eJ ?_;refine iK [(159,1201)] ?_;refine aL ?_;exact aB (b+1) (bo:=.r)
 obtain rfl:b=P.length:=v;exact gB 1200<|gB 1201<|cu aZ
end
section
def qC(D:List Nat):V:=.str<|kA D
def Dx:nR (λ_=>True) qC:=nR.str λ_ _ _ _ w=>VE w
def kc{aD:Type} [DecidableEq aD](c:Nat->Nat)(a:List aD)(b:aD):Nat:=if b∈a then c (e_ a b) else 0
def A6{aD:Type} [DecidableEq aD]{c:Nat->Nat}{a:List aD}{b:aD}(w:b∈a):kc c a b=c (e_ a b):=ab w
def sE{aD:Type} [DecidableEq aD](a:List aD)(b:aD):Bool:=decide (b∈a)
theorem pN{aD:Type} [DecidableEq aD]{a:List aD}{b:aD}:sE a b↔b∈a:=gV
def DF{aD:Type} [DecidableEq aD]{L:aD->Prop}{b:aD->V}{y:Nat->Nat}{c:Value}(e:nR L b){Z:aD}{hN:List aD}(g:L Z)(w:∀j∈hN,L j)(h:V.const c=q 0):pM (dY b (λi=>q<|y i) hN) (b Z) c true=.tuple [q (kc y hN Z),.bool (sE hN Z)]:=by rw[aja e g w];unfold kc;by_cases a:Z∈hN;rw[ab a,ab a];rfl;rw[aa a,aa a,h];rfl
def akg{aD:Type} [DecidableEq aD]{L:aD->Prop}{a:aD->V}{y:Nat->Nat}{i:Value}(b:nR L a){Z:aD}{hN:List aD}(e:L Z)(w:∀h∈hN,L h)(c:Z∈hN):pM (dY a (λg=>q<|y g) hN) (a Z) i false=q (y (e_ hN Z)):=by unfold pM;rw[aa af,Vw b e w,ab c];rfl
def HQ{b:Nat->V}{a:List (List Nat)}:k1 .string (dY qC b a):=Nh λ_ _=>rfl
def l0(a:a3)(c:List Nat)(e b:Nat):Nat:=c.getD ((c8 a e).getD b 0) 0
def Mu{a:a3}{c:List Nat}{b:Nat}(w:(c8 a U).getD b 0<c.length):(c.map q)[(c8 a U).getD b 0]?=some (q (l0 a c U b)):=dg w
def je(c:a3)(a:List Nat)(b e:Nat):List Nat:=a.getD b 0::ls (nE (l0 c a b) e)
def Pm a b c:je a b c 256=lC a b c:=rfl
def ZJ{b:a3}{c:List Nat}{a:Nat}:a=0\/l0 b c U a≠l0 b c U (a-1)->je b c U (a+1)=je b c U a++[a,l0 b c U a]:=by simp_all[je,nE,ab,ls,Qg]
def ZL{b:a3}{c:List Nat}{a:Nat}:¬(a=0\/l0 b c U a≠l0 b c U (a-1))->je b c U (a+1)=je b c U a:=by simp_all[je,nE,aa,gf]
theorem Zx a:∀F,(nE a F).length<=F|0=>a1 _|F+1=>by rw[nE,c_];have:=Zx a F;grind
theorem ahp a:(ls a).length=2*a.length:=by
 induction a
 rfl
 next c a b=>grind[ls,List.length_append,List.length_cons,List.length_nil]
theorem ZK a b c:U<=256->(je a b c U).length<=513:=by grind[je,List.length_cons,ahp,Zx,l0]
def Pn{g:a3}{e:List Nat}{h:Nat}(w:∀c,e.getD c 0<200000):∀b≤256,∀c∈je g e h b,c<1000000|0,_,c,a=>by grind[je,nE,ls]|b+1,j,c,a=>by by_cases i:b=0\/l0 g e h b≠l0 g e h (b-1);rw[ZJ i] at a;rcases ee.1 a with a|a;exact Pn w b v c a;grind[c8,l0];rw[ZL i] at a;exact Pn w b v c a
def Xz{c:a3}{e a:List Nat}{o:Nat}(k:(ei c e a a.length).length<=o)(i:0<o):∀b≤a.length,∀g,(gw c e a b).getD g 0<o
|0,_,g=>by grind[gw]|b+1,p,g=>by
 rw[gw,tK];split;let j:lC c e (a.getD b 0)∈ei c e a (b+1):=Dw.2 ⟨_,by grind[oy],rfl⟩;let l:=xl j;let m:(ei c e a<|b+1).length<=(ei c e a a.length).length:=by
  let h:a.take a.length=a.take (b+1)++a.drop (b+1):=by rw[gq,Ch]
  unfold ei;rw[h,cD,GK];exact(yR _ _).length_le
 omega;exact Xz k i b v g
attribute [local irreducible] l0 je c8 kA ei gw jJ kc bX
def apg(E:a3)(w:fH E):aA 134 [dW E] (dW (iZ (gG E))):=by
 refine aX func134 [2008,2020,2025] λs ag=>?_;have aC:=w.start;have aw:=w.len;have k:=mP w E.next.length;have Q:=pH (tV E E.next.length) k;have B:=WS E w E.next.length rfl;have u:=λcl Y=>alO (E:=E) (cl:=cl) (Y:=Y) w;have G:=λcl Y (F:wH E (bX E E.next.length) cl Y)=>F.step w rfl;have D:=wH.start k;have R:0<(bX E E.next.length).length:=Kr<|NX (E:=E) (H:=E.next.length);generalize bX E E.next.length=N at k Q B u G D R;refine az ?_ (i:=B);refine ja E.next.length E.next.length ((jJ E N 0).map q) ?_ (p:=af) (jM:=af) (aG:=by simp[jJ,Io]);refine dL N.length (λH=>⟨[(1,g 1),(2,g 2),(3,.f 1<|N.map q),(5,q H),(4,.d 20 0 E.next.length)],[(1,.cell 131<|dW E),(2,.cell 131<|V.zero nr.z),(20,.n 1 3<|(jJ E N H).map q)],[]⟩) λH p=>?_;apply j<;>intro aj
 .have a:H<N.length:=v;have c:N.getD H 0<E.next.length:=k _<|bZ a;refine c7 ?_;refine aJ H (q<|N.getD H 0) ?_ (p:=dg a);refine aJ (N.getD H 0) (aW<|fT E<|N.getD H 0) ?_ (p:=CH (by rw[w.acc]<;>omega));apply j<;>intro t
  .refine aJ H (q<|N.getD H 0) ?_ (p:=dg a);refine cz (N.getD H 0) ?_ (p:=c);refine fl ((jJ E N<|H+1).map q) (q<|(jJ E N H).getD (N.getD H 0) 0) (q 1) ?_ (p:=dg (by grind[Az])) (aG:=by rw[jJ,ab t,gN]);refine aL ?_;exact aB<|H+1
  rw[show jJ E N H=jJ E N (H+1) by rw[jJ,aa t]];refine aL ?_;exact aB<|H+1
 obtain rfl:H=N.length:=v;refine ay.xd 20 E.next.length (ak:=(jJ E N N.length).map q) (by simp[Az]) ?_;refine cP ?_;refine cQ (List Nat×Nat) (λh=>⟨[(1,g 1),(2,g 2),(3,.f 1<|N.map q),(4,.f 1<|h.1.map q),(6,q h.2)],[(1,.cell 131<|dW E),(2,.cell 131<|V.zero nr.z)],[]⟩) (λh=>wH E N h.1 h.2) (λh=>E.next.length+1-h.2) (jJ E N N.length,0) (λ⟨cl,Y⟩ ap=>?_) D;dsimp only at ap⊢;let⟨T,aE,aF,aH,U⟩:=G cl Y ap;have ao:=ap.len;have K:=ap.lt;refine ja E.next.length E.next.length ((gw E cl N 0).map q) ?_ (p:=af) (jM:=af) (aG:=by simp[gw,Io]);refine dL N.length (λH=>⟨[(1,g 1),(2,g 2),(3,.f 1<|N.map q),(4,.f 1<|cl.map q),(6,q Y),(8,.dj 45),(9,q H),(7,.d 44 0 E.next.length)],[(1,.cell 131<|dW E),(2,.cell 131<|V.zero nr.z),(44,.n 1 3<|(gw E cl N H).map q),(45,.map (dY qC (λe=>q<|id e)<|ei E cl N H) (ei E cl N H).length)],[]⟩) λH p=>?_;apply j<;>intro al
 .have a:H<N.length:=v;have c:N.getD H 0<E.next.length:=k _<|bZ a;have A:=VK (E:=E) (cl:=cl) a;refine aJ H (q<|N.getD H 0) ?_ (p:=dg a);refine aJ (N.getD H 0) (q<|cl.getD (N.getD H 0) 0) ?_ (p:=dg v);refine og ?_;refine dL 256 (λW=>⟨[(1,g 1),(2,g 2),(3,.f 1<|N.map q),(4,.f 1<|cl.map q),(6,q Y),(8,.dj 45),(9,q H),(11,q W),(7,.d 44 0 E.next.length),(10,.d 59 0 ((je E cl (N.getD H 0) W).map q).length)],[(1,.cell 131<|dW E),(2,.cell 131<|V.zero nr.z),(44,.n 1 3<|(gw E cl N H).map q),(59,.n 1 3<|(je E cl (N.getD H 0) W).map q),(45,.map (dY qC (λe=>q<|id e)<|ei E cl N H) (ei E cl N H).length)],[]⟩) λW r=>?_;apply j<;>intro am
  .have r:W<256:=v;have a6:=JO w c r;refine c7 ?_;apply cs;intro aq;have O:=JO w c (W:=W-1) v;refine aJ H (q<|N.getD H 0) ?_ (p:=dg a);refine aJ (N.getD H 0) (bl<|c8 E<|N.getD H 0) ?_ (p:=ES c);refine aJ W (q<|(c8 E<|N.getD H 0).getD W 0) ?_ (p:=ET a6.1);refine aJ ((c8 E<|N.getD H 0).getD W 0) (q<|l0 E cl (N.getD H 0) W) ?_ (p:=Mu v);refine aJ H (q<|N.getD H 0) ?_ (p:=dg a);refine aJ (N.getD H 0) (bl<|c8 E<|N.getD H 0) ?_ (p:=ES c);refine ia ((W-1:Nat):Int) ?_ (w:=v);refine aJ (W-1) (q<|(c8 E<|N.getD H 0).getD (W-1) 0) ?_ (p:=ET O.1);refine aJ ((c8 E<|N.getD H 0).getD (W-1) 0) (q<|l0 E cl (N.getD H 0)<|W-1) ?_ (p:=Mu v);exact rfl;apply j<;>intro an
   .have ah:W=0\/l0 E cl (N.getD H 0) W≠l0 E cl (N.getD H 0) (W-1):=v;refine dC ?_;refine a_ (λ_=>aJ H (q<|N.getD H 0) rfl (p:=dg a)) ?_;refine a_ (λ_=>aJ (N.getD H 0) (bl<|c8 E<|N.getD H 0) rfl (p:=ES c)) ?_;refine a_ (λ_=>aJ W (q<|(c8 E<|N.getD H 0).getD W 0) rfl (p:=ET a6.1)) ?_;refine a_ (λ_=>aJ ((c8 E<|N.getD H 0).getD W 0) (q<|l0 E cl (N.getD H 0) W) rfl (p:=Mu v)) ?_;refine a_ (λ_=>jv rfl) ?_;refine jB 115 ((je E cl (N.getD H 0)<|W+1).map q) ?_ (fC:=.f rfl rfl rfl rfl (by simp[q,V.cells];rfl)) (aG:=by simp_all[ZJ,cD]) (bq:=by grind[ZK]) (lu:=ax) (vA:=ax);refine iK [(115,59)] ?_;refine aL ?_;exact aB<|W+1
   have S:¬(W=0\/l0 E cl (N.getD H 0) W≠l0 E cl (N.getD H 0) (W-1)):=v;rw[<-ZL S];refine aL ?_;exact aB<|W+1
  obtain rfl:W=256:=v;refine ay.g9 59 ?_;refine cP ?_;refine az ?_ (i:=Nl (je E cl (N.getD H 0) 256) (Pn K 256<|a1 _) (by have:=ZK E cl (N.getD H 0)<|a1 256;omega));refine qG (.tuple [q (kc id (ei E cl N H)<|je E cl (N.getD H 0) 256),.bool<|sE (ei E cl N H)<|je E cl (N.getD H 0) 256]) ?_ HQ (dc:=DF (L:=λ_=>True) (y:=id) (hN:=ei E cl N H) (Z:=je E cl (N.getD H 0) 256) Dx trivial (λ_ _=>trivial) rfl);apply j<;>intro J
  focus
   have C:je E cl (N.getD H 0) 256∉ei E cl N H:=λI=>J<|pN.2 I;have l:ei E cl N (H+1)=ei E cl N H++[je E cl (N.getD H 0) 256]:=by rw[A,<-Pm,note,aa C]
   have x:je E cl (N.getD H 0) 256∈ei E cl N (H+1):=by rw[l];simp
   refine Oa (ei E cl N H).length ?_ (av:=Ni);refine vN (dY qC (λe=>q<|id e)<|ei E cl N<|H+1) (ei E cl N<|H+1).length ?_ HQ (hu:=by rw[l];exact Dv (L:=λ_=>True) (rP:=λe=>q<|id e) Dx trivial (λ_ _=>trivial) C)
  rotate_left
  focus
   have m:je E cl (N.getD H 0) 256∈ei E cl N H:=pN.1 b;have l:ei E cl N (H+1)=ei E cl N H:=by rw[A,<-Pm,note,ab m]
   rw[<-l] at m⊢;have x:=m
  all_goals refine dC ?_;refine a_ (λ_=>aJ H (q<|N.getD H 0) rfl (p:=dg a)) ?_;refine Kc [45] ?_;apply yt.mk;intro aD;refine qG (q<|e_ (ei E cl N<|H+1)<|je E cl (N.getD H 0) 256) ?_ HQ (dc:=akg (L:=λ_=>True) (y:=id) (hN:=ei E cl N<|H+1) (Z:=je E cl (N.getD H 0) 256) Dx trivial (λ_ _=>trivial) x);exact rfl;refine a_ (λ_=>cz (N.getD H 0) rfl (p:=c)) ?_;refine uE ((gw E cl N<|H+1).map q) (q<|(gw E cl N H).getD (N.getD H 0) 0) (q<|e_ (ei E cl N<|H+1)<|je E cl (N.getD H 0) 256) ?_ (p:=dg (by grind[Bs])) (aG:=by rw[gw,gN,Pm]);refine fm ?_;refine aL ?_;exact aB<|H+1
 obtain rfl:H=N.length:=v;refine ay.xd 44 E.next.length (ak:=(gw E cl N N.length).map q) (by simp[Bs]) ?_;refine cP ?_;refine Oa (ei E cl N N.length).length ?_ (av:=Ni);apply j<;>intro ai
 .have M:(ei E cl N N.length).length=Y:=v;let⟨X,ad,ae⟩:=U M;have P:=u (gw E cl N N.length) Y ad ae v X;rw[<-P];refine az ?_ (i:=alS E N (gw E cl N N.length) Y w k v (Bs (E:=E) (cl:=cl) (N:=N) N.length) (Xz (o:=Y) v v N.length<|a1 _) v v);exact cu aZ
 refine Oa (ei E cl N N.length).length ?_ (av:=Ni);exact aB (gw E cl N N.length,(ei E cl N N.length).length) T v
end
def QU(O:List (Int×Int)):Prop:=O.length<=256/\∀D∈O,0<=D.1/\D.1<=D.2/\D.2<=255
def sb(a:aC):Prop:=∀O∈a.ai,QU O
def u1(b:aC->aC×bf):Prop:=∀a,sb a->sb (b a).1
theorem M5{b:aC->aC×bf}(c:u1 b):∀F{a:aC}{P:bf},sb a->sb (iD b F a P).1|0,a,P,w=>w|F+1,a,P,w=>by exact M5 c F<|c a w
theorem XW{b:aC->aC×bf}(c:u1 b):∀F{a:aC}{P:bf},sb a->sb (mV b F a P).1|0,a,P,w=>w|F+1,a,P,w=>by exact XW c F<|c a w
def ao8{a:aC->aC×bf}(b:u1 a){c e:Int}:u1 (nA a c e):=λg w=>by unfold nA;split;exact b _<|M5 b _ w;grind[XW,M5]
theorem Q8:∀{N:List ao}{a:aC}{P:bf},(∀b∈N,u1 (cB b))->sb a->sb (mz N a P).1|[],a,P,_,w=>bB|b::N,a,P,c,w=>by exact Q8 (N:=N) (λg e=>c g<|ki _ e)<|c b (ji ..) a w
theorem Rc:∀{N:List ao}{a:aC}{P:bf},(∀b∈N,u1 (cB b))->sb a->sb (nV N a P).1|[],a,P,_,w=>bB|b::N,a,P,c,w=>by exact Rc (N:=N) (λg e=>c g<|ki _ e)<|c b (ji ..) a w
def ada{a:List ao}{c e:Int}(h:∀b∈a,u1 (cB b)):u1 (tn a c e):=λg w=>by
 cases a;trivial
 next b a=>exact ao8 (h b<|ji ..) g w
def adl:∀b,dx b->u1 (cB b):=ao.ind λb i he g w=>by let⟨⟨⟨k,p⟩,q,r,s,t,u,x,y,l,m,o⟩,h⟩:=nw.1 he;let j:=λe c=>i e c<|h e c;rw[K_];split;exact w;split;intro O a;rcases ee.1 a with a|a;exact w O a;rw[cV.1 a];trivial;split;grind[Q8];split;grind[Rc];split;exact ada j g w;omega
def aqI{a:aC}(w:sb a)b:QU (a.ai.getD b []):=by
 rw[cg];cases c:a.ai[b]?;trivial
 next O=>exact w O<|dh c
def ly(a:aC)(O:bf)(b c:Nat):Nat:=e_ (b6 a O<|b+1)<|h6 a O ((b6 a O b).getD b none)<|UInt8.ofNat c
def ot(a:aC)(O:bf)(b:Nat):List Nat:=hx (ly a O b) 256
def apK a O b:(ot a O b).length=256:=Ph
def alU{a:aC}{O:bf}(c:U<(b6 a O U).length){b:Nat}:h6 a O ((b6 a O U).getD U none) (UInt8.ofNat b)∈b6 a O (U+1):=by apply RQ (uM U) (aal c<|jj U) _;have:=dh<|JP (h6 a O) ((b6 a O U).getD U none) (UInt8.ofNat b).toNat_lt;grind[UInt8.ofNat_toNat]
def apu{a:aC}{O:bf}(w:(b6 a O U).length<=U)(l:U<=(b6 a O U).length)(m:U<=3000):b6 a O 3000=b6 a O U/\(List.range U).map (ot a O)=(u6 a O).next:=by
 let g:b6 a O _=b6 a O U:=py w m;let i:=Fz w l;refine⟨g,?_⟩;unfold u6 kU;rw[g];have:=Jk (b6 a O U) none λe=>(e7 (h6 a O) e).map<|e_<|b6 a O U;rw[i] at this;show(List.range U).map _=(b6 a O U).map λe=>(e7 _ e).map<|e_ _;rw[<-this];refine gp λb c=>?_;let c:=fq.1 c;let h:b<(b6 a O b).length:=by refine yh λj=>?_;have:b6 a O U=b6 a O b:=py j<|tb c;rw[this] at i;omega
 let k:(b6 a O U).getD b none=(b6 a O b).getD b none:=by rw[cg,aal h<|tb c];rfl
 rw[k,ot,Pg,e7,ez];refine gp λo p=>?_;exact(vD (lU<|show b+1<=U from c)<|alU h).symm
def aiv{aD:Type} [DecidableEq aD]{b a:aD}c:b≠a->e_ (b::c) a=e_ c a+1:=by grind[e_,beq_eq_false_iff_ne]
def aiw{aD m3:Type} [DecidableEq aD] [DecidableEq m3]{c:aD->m3}(w:∀a b,c a=c b->a=b)e a:e_ (e.map c) (c a)=e_ e a:=MY (λa b _ _ g=>w a b g) (λ_ _=>trivial) trivial
theorem U5{c:Type} [DecidableEq c]a(b:c):e_ (none::a.map some) (some b)=e_ a b+1:=by simp[aiv,aiw,lN]
def alV{y:aC}{O:bf}{H W:Nat}(j:H<(b6 y O H).length)(e:W<256){en:List Nat}(g:en=nv y.ai (lD y O ((b6 y O H).getD H none)) W)(h:en∉gm (dz y O H W)):dz y O H (W+1)=dz y O H W++[some en]/\gm (dz y O H (W+1))=gm (dz y O H W)++[en]/\(dz y O H W).length=ly y O H W:=by
 let b:=aai (y:=y) (O:=O) (H:=H) e;let c:=PB y O H W;rw[<-g] at b;let a:dz y O H (W+1)=dz y O H W++[some en]:=by rw[b,note,aa λi=>h<|(c.mem en).1 i]
 refine⟨a,?_,?_⟩;rw[b,(c.note en).2,note,aa h];let a6:h6 y O ((b6 y O H).getD H none) (UInt8.ofNat W)=some en:=by rw[h6,rN e,g]
 rw[ly,a6,vD (PC j<|show W+1<=256 by omega) (by rw[a];simp),a];have:=zd (N:=dz y O H W++[some en]) (F:=(dz y O H W).length) (by grind[aqP]) af;grind
def alW{y:aC}{O:bf}{H W:Nat}(i:H<(b6 y O H).length)(c:W<256){en:List Nat}(e:en=nv y.ai (lD y O ((b6 y O H).getD H none)) W)(g:en∈gm (dz y O H W)):dz y O H (W+1)=dz y O H W/\kc (·+1) (gm (dz y O H W)) en=ly y O H W:=by
 let h:=aai (y:=y) (O:=O) (H:=H) c;let b:=PB y O H W;rw[<-e] at h;let a:=(b.mem en).2 g;exists by rw[h,note,ab a]
 let a6:h6 y O ((b6 y O H).getD H none) (UInt8.ofNat W)=some en:=by rw[h6,rN c,e]
 rw[A6 g,ly,a6,vD (PC i<|show W<=256 by omega) a];let j:e_ (dz y O H W) (some en)=e_ (none::(gm (dz y O H W)).map some) (some en):=by rw[<-b]
 grind[U5,gm,dz]
def Gh:V:=.agg [.int .i64 0,.aQ,.aQ]
def PH(a:ao):V:=if 3000<(b6 (cB a ⟨[],[]⟩).1 (cB a ⟨[],[]⟩).2 3000).length then .tuple [Gh,.bool false] else .tuple [dW (u6 (cB a ⟨[],[]⟩).1 (cB a ⟨[],[]⟩).2),.bool true]
def Vc{a:List Nat}(w:hB a)(c:U<a.length):a.getD U 0∉a.take U:=λb=>by let⟨g,e,h⟩:=kj.1 b;rw[m7] at e;have:=z6.1 w g U v c v;simp_all
def T2{a:List Nat}{b:Nat->Bool}{F:Nat}:F<a.length->(a.take (F+1)).filter b=(a.take F).filter b++(if b (a.getD F 0) then[a.getD F 0] else[]):=by grind[EY]
def Ri{b:List (List Nat)}{a:List Nat}{F:Nat}:F<a.length->kT b (a.take (F+1))=c0 (kT b (a.take F)) (b.getD (a.getD F 0) []):=by grind[kT,EY]
def RA{a:List Nat}{b:Nat->Bool}{F:Nat}:F<a.length->(a.take (F+1)).any b=((a.take F).any b||b (a.getD F 0)):=by grind[EY]
def Rh{g:List (List Nat)}{Y:Nat}(i:∀e,∀a∈g.getD e [],a<Y){h:List Nat}:∀a∈kT g h,a<Y:=by
 have:∀(c b:List Nat),(∀a∈b,a<Y)->∀a∈c.foldl (λb e=>c0 b<|g.getD e []) b,a<Y:=by
  intro c
  induction c
  simp
  next e c j=>grind[E5]
 exact this h [] λ_ w=>absurd w h2
def km(a:aC):Prop:=∀b,∀c∈a.bz.getD b [],c<a.ai.length
def ym(c:aC->aC×bf)(b:Nat):Prop:=∀a,hg a->km a->a.ai.length+b<=2000->km (c a).1
def We{e:List Nat}{Y:Nat}(g:∀a∈e,a<Y):∀G{c:List (List Nat)},(∀b,∀a∈c.getD b [],a<Y)->∀b,∀a∈(iE c G e).getD b [],a<Y|[],_,w=>w|i::G,c,w=>by refine We g G λb a h=>?_;grind[tK,mO]
def km.vH{a:aC}(w:km a){G b:List Nat}(c:∀e∈b,e<a.ai.length):km ⟨a.ai,iE a.bz G b⟩:=We c G w
theorem M4{c:aC->aC×bf}{b:Nat}(h:p4 c b)(j:ym c b):∀F{a:aC}{P:bf},hg a->km a->a.ai.length+F*b<=2000->dQ P a.ai.length->km (iD c F a P).1|0,a,P,_,w,_,_=>w|F+1,a,P,i,w,m,o=>by rw[gg,td] at m;let⟨l,g,e⟩:=h a i v;let k:(ns _ P (c a).2).ai.length=a.ai.length+b:=g;exact M4 h j F (l.join P e) ((j a i w v).vH λq p=>by rw[g];exact e.f q p) v (by rw[k];exact(o.mono v).join e)
theorem XT{c:aC->aC×bf}{b:Nat}(h:p4 c b)(j:ym c b):∀F{a:aC}{P:bf},hg a->km a->a.ai.length+F*b<=2000->dQ P a.ai.length->km (mV c F a P).1|0,a,P,_,w,_,_=>w|F+1,a,P,i,w,m,o=>by rw[gg,td] at m;let⟨l,g,e⟩:=h a i v;let k:(ns _ P (c a).2.jT).ai.length=a.ai.length+b:=g;exact XT h j F (l.join P e.jT) ((j a i w v).vH λq p=>by rw[g];exact e.f q p) v (by rw[k];exact(o.mono v).join e.jT)
theorem ao5{c:aC->aC×bf}(g:p4 c U)(s:ym c U){a b:Int}{e:aC}(B:0<=a)(C:b=-1\/a<=b)(l:hg e)(w:km e)(h:e.ai.length+U*(if b=-1 then(a+1).toNat else b.toNat)<=2000):km (nA c a b e).1:=by
 unfold nA;by_cases k:b=-1;rw[ab k] at h;rw[ab k];have j:(a+1).toNat=a.toNat+1:=v;rw[j,yi,wv,jk] at h;have p:=Ds g a.toNat (P:=⟨[],[],true,false⟩) l v<|dQ.nil _ _ _;have o:=M4 g s a.toNat (P:=⟨[],[],true,false⟩) l w v<|dQ.nil _ _ _;generalize iD c _ e _=i at p o⊢;let⟨q,y,z⟩:=p;let⟨A,t,u⟩:=g i.1 q v;have r:∀m∈(c i.1).2.first,m<(c i.1).1.ai.length:=λm x=>by rw[t];exact u.f m x
 exact((s i.1 q o v).vH r).vH r;rw[aa k] at h;have j:b.toNat=a.toNat+(b-a).toNat:=v;rw[j,yi,jk,jk U] at h;have:=Ds g a.toNat (P:=⟨[],[],true,false⟩) l v<|dQ.nil _ _ _;grind[M4,dQ.nil,iD,XT]
theorem Q5:∀{N:List ao}{a:aC}{P:bf},(∀b∈N,p4 (cB b) (cr b))->(∀b∈N,ym (cB b) (cr b))->hg a->km a->a.ai.length+dl N<=2000->dQ P a.ai.length->km (mz N a P).1|[],a,P,_,_,e,w,_,l=>bB|b::N,a,P,j,k,e,w,p,l=>by rw[dl] at p;let⟨o,i,c⟩:=j b (ji ..) a e v;let m:(ns _ P (cB b a).2).ai.length=a.ai.length+cr b:=i;exact Q5 (N:=N) (λh g=>j h<|ki _ g) (λh g=>k h<|ki _ g) (o.join P c) ((k b (ji ..) a e w v).vH λr q=>by rw[i];exact c.f r q) v (by rw[m];exact(l.mono v).join c)
def Q_:∀{N:List ao}{a:aC}{P:bf},(∀b∈N,p4 (cB b) (cr b))->(∀b∈N,ym (cB b) (cr b))->hg a->km a->a.ai.length+dl N<=2000->dQ P a.ai.length->km (nV N a P).1|[],a,P,_,_,c,w,_,j=>bB|b::N,a,P,h,i,c,w,o,j=>by rw[dl] at o;let⟨k,l,m⟩:=h b (ji ..) a c v;exact Q_ (N:=N) (λg e=>h g<|ki _ e) (λg e=>i g<|ki _ e) k (i b (ji ..) a c w v) v (by rw[l];exact(j.mono v).yC m _ _)
def Re:∀a,dx a->ym (cB a) (cr a):=ao.ind λa r he g p w z=>by
 let⟨⟨⟨B,F⟩,G,u,H,I,J,K,L,C,D,E⟩,m⟩:=nw.1 he;have s:∀b∈a.aq,ym (cB b) (cr b):=λb e=>r b e<|m b e;have t:∀b∈a.aq,p4 (cB b) (cr b):=λb e=>yz b<|m b e;have k:cr a<=2000:=v;rw[K_];split;exact w;split;intro h i c;have c:i∈(g.bz++[[]]).getD h []:=c;show i<(g.ai++[a.set]).length;rw[c_];rw[cg,lK] at c;split at c;rw[<-cg] at c;have:=w h i c;omega;exfalso;cases l:h-g.bz.length;rw[l] at c;simp at c
 next A=>rw[l] at c;simp at c
 split;grind[GA,Q5,dQ.nil];split;have:=GA v v k;exact Q_ t s p w v<|dQ.nil _ _ _;split;rename_i j;have:=SI j k;let⟨y,M,N,O⟩:=u j;have o:=A8 y;have q:0<a.aq.length:=v;have hm:a.aq.getD 0 default∈a.aq:=bZ q;generalize a.aq.getD 0 default=x at o hm;have:dl a.aq=cr x:=by rw[o,dl,dl];rfl
 grind[tn,nA,cB,ao5,id];omega
section
def aqc{a:List (List (Int×Int))}:U<a.length->(a.map iy)[U]?=some (iy (a.getD U [])):=by simp_all
def ov(a:aC)(O:bf)(b:gz):V:=bl<|lD a O b
def rK(O:bf)(a:gz):V:=aW<|oK O a
theorem aqT{b:aC}{O:bf}{a:List gz}{c:gz}(w:a[U]?=some c):(a.map (ov b O))[U]?=some (bl (lD b O c)):=by rw[ch,w];rfl
def i6:Nat->Nat:=λa=>a+1
def PD{c:aC}{O:bf}{a:List gz}{e:gz}{b:List Nat}:a[U]?=some e->lD c O e=b->(a.map (ov c O))[U]?=some (bl b):=by grind[aqT]
def ajk{e:gz->V}{a:List gz}(g:kp a){b:List Nat}(i:b∉gm a):i_ (dY qC (λc=>q<|i6 c) (gm a)) (gm a).length (.str (kA b)) (q (a.map e).length)=(dY qC (λc=>q<|i6 c) (gm a++[b]),(gm a++[b]).length):=by
 let h:=by have:=cW List.length g;rw[kh,aS] at this;exact this
 rw[aS,h];exact Dv Dx trivial (λ_ _=>trivial) i
def VI{a:List (List Nat)}:k1 .string (dY qC (λb=>q<|i6 b) a):=HQ
def Dj:hg ⟨[],[]⟩:=⟨rfl,c1 _,λa=>by simp[ef.nil]⟩
def ahk:km ⟨[],[]⟩:=λb c a=>bB
def aib Y{a:List Nat}(w:hB a)(b:U<a.length):(g_ Y (a.take U)).set (a.getD U 0) true=g_ Y (a.take (U+1)):=by rw[Hz<|Vc w b,note,aa<|Vc w b,<-EY b]
theorem aaz{J:ao}(w:3000<(b6 (cB J ⟨[],[]⟩).1 (cB J ⟨[],[]⟩).2 3000).length):PH J=.tuple [Gh,.bool false]:=ab w
def aaA{J:ao}(w:(b6 (cB J ⟨[],[]⟩).1 (cB J ⟨[],[]⟩).2 3000).length<=3000):PH J=.tuple [dW (u6 (cB J ⟨[],[]⟩).1 (cB J ⟨[],[]⟩).2),.bool true]:=aa v
def aqS{y:aC}{O:bf}{W:Nat}(a:U<(b6 y O U).length):(dz y O U W)[U]?=some ((b6 y O U).getD U none):=by apply vT<|yR _ _;simp_all
def aao{a:aC}{O:bf}(e:a.ai.length=U)(c:km a)(g:dQ O U)b:∀h∈lD a O b,h<U:=by
 cases b;exact g.f
 next i=>exact Rh (e▸c · · ·)
def aqR a O b:ov a O (some b)=bl (kT a.bz b):=rfl
def aqO O a:rK O (some a)=aW (a.any λb=>decide (b∈O.last)):=rfl
def apJ a O b:hx (ly a O b) 256=ot a O b:=rfl
def XA c a b:(a.filter λe=>hq (c.getD e []) b)=nv c a b:=rfl
def ad1{aD:Type} [DecidableEq aD]{bv:aD->UInt8->aD}{a:aD->Bool}{b:List aD}:dW (kU bv a b)=.agg [.int .i64 0,.f 1 (b.map λc=>aW<|a c),.f 1 ((kU bv a b).next.map bl)]:=by simp[kU,dW,q]
def ad2 a O:dW (u6 a O)=.agg [.int .i64 0,.f 1 ((b6 a O 3000).map (rK O)),.f 1 ((u6 a O).next.map bl)]:=by exact ad1
attribute [local irreducible] b6 dz gm hx ly ot nv lD kT kA kc sE g_ hq ov rK oK
theorem ZB(J:ao)(r:dx J)(a0:cr J<=2000):aA 86 [bY J] (PH J):=by
 refine aX func86 [2004,2007,2012,2015,2028,2036] λs aU=>?_;obtain⟨o,D,cp⟩:=yz J r ⟨[],[]⟩ Dj aK;have G:=adl J r ⟨[],[]⟩ λO w=>absurd w h2;have C:=Re J r ⟨[],[]⟩ Dj ahk aK;have u:=adj J r r ⟨[],[]⟩ Dj aK 0 (cB J ⟨[],[]⟩).1.ai.length rfl rfl;have N:=aaz (J:=J);have Q:=aaA (J:=J);generalize cB J ⟨[],[]⟩=al at o D cp G C u N Q;obtain⟨y,O⟩:=al;dsimp only at o D cp G C u N Q;have aF:0+cr J=y.ai.length:=D.symm;rw[show(⟨[],[]⟩:aC).ai.length+cr J=y.ai.length from aF] at cp;generalize E:y.ai.length=c at cp u;have ba:y.bz.length=c:=o.len.trans E;have bd:=cp.ok.2.len;have aT:c<=2000:=by rw[<-E];exact o.p
 refine az ?_ (i:=Pk J r);apply j<;>intro a4
 .omega
 refine lB ⟨[(1,g 1),(2,g 2),(4,g 26)],[(1,.cell 126<|bY J),(2,.cell 131<|V.zero nr.z),(26,.cell 208<|.agg [.aQ,.aQ,.bool false])],[]⟩ ?_;refine ay.dI 1300 1 123 [] (some (26,0)) ?_;refine ay.dI 1301 1 64 [] (some (26,1)) ?_;refine cP ?_;refine bk [(6000,26),(5000,1300),(5001,1301)] ?_ (i:=u);refine kN.mk nofun λ_=>?_;refine ay.xd 1300 c (ak:=y.ai.map iy) aK ?_;refine ay.xd 1301 c (ak:=y.bz.map bl) aK ?_;refine cP ?_;refine ja c c ((g_ c []).map aW) ?_ (p:=aK) (jM:=aK) (aG:=by rw[MF,yb];rfl);refine dL O.last.length (λH=>⟨[(2,g 2),(4,g 26),(5,g 5),(7,q H),(6,.d 40 0 c)],[(2,.cell 131<|V.zero nr.z),(5,.cell 210<|sp O),(26,.cell 208<|.agg [.f 1 (y.ai.map iy),.f 1<|y.bz.map bl,.bool false]),(40,.n 1 4<|(g_ c<|O.last.take H).map aW)],[]⟩) λH p=>?_;apply j<;>intro a5
 .have k:H<O.last.length:=v;have A:O.last.getD H 0<c:=cp.l _<|bZ k;refine aJ H (q<|O.last.getD H 0) ?_ (p:=dg k);refine cz (O.last.getD H 0) ?_ (p:=A);refine fl ((g_ c<|O.last.take<|H+1).map aW) (aW<|decide (O.last.getD H 0∈O.last.take H)) (aW true) ?_ (p:=KQ) (aG:=by rw[<-aib c cp.ok.2.1 k,gN]);refine aL ?_;exact aB<|H+1
 obtain rfl:H=O.last.length:=v;rw[gq];refine ay.xd 40 c (ak:=(g_ c O.last).map aW) (by simp[Hy]) ?_;refine cP ?_;refine og ?_;refine og ?_;refine ay.dI 1302 1 64 [] (some (8,2)) ?_;refine cP ?_;refine cQ Nat (λH=>⟨[(2,g 2),(4,g 26),(6,.f 1<|(g_ c O.last).map aW),(8,g 8),(10,.dj 62),(11,q H),(9,.d 61 0 ((b6 y O H).map<|ov y O).length)],[(2,.cell 131<|V.zero nr.z),(8,.cell 131<|.agg [.int .i64 0,.d 57 0 ((b6 y O H).map<|rK O).length,.d 1302 0 (((List.range H).map<|ot y O).map bl).length]),(26,.cell 208<|.agg [.f 1 (y.ai.map iy),.f 1<|y.bz.map bl,.bool false]),(61,.n 1 64<|(b6 y O H).map<|ov y O),(57,.n 1 4<|(b6 y O H).map<|rK O),(1302,.n 1 64<|((List.range H).map<|ot y O).map bl),(62,.map (dY qC (λm=>q<|i6 m)<|gm<|b6 y O H) (gm<|b6 y O H).length)],[]⟩) (λH=>H<=(b6 y O H).length/\(b6 y O H).length<=3000) (λH=>3001-H) 0 (λH p=>?_) ⟨c1 _,by simp[b6,bH]⟩;apply j<;>intro a6
 .obtain⟨S,aw⟩:=p;have k:H<(b6 y O H).length:=v;have K:ef (lD y O ((b6 y O H).getD H none)):=aap o.bz cp.ok;have I:=aao E C cp<|(b6 y O H).getD H none;have am:=K.len;have av:=λW=>aqS (y:=y) (O:=O) (W:=W) k;have U:=λ(W:Nat) (e:W<256) (en:List Nat)=>alV (y:=y) (O:=O) (H:=H) (W:=W) k e (en:=en);have ag:=λ(W:Nat) (e:W<256) (en:List Nat)=>alW (y:=y) (O:=O) (H:=H) (W:=W) k e (en:=en);rw[<-aaj y O H];generalize P:lD y O ((b6 y O H).getD H none)=a at K I am U ag;refine ja 256 256 ((hx (ly y O H) 0).map q) ?_ (aG:=QB);refine eH 256 (λW=>(dz y O H W).length<=3000) (λW=>⟨[(2,g 2),(4,g 26),(6,.f 1<|(g_ c O.last).map aW),(8,g 8),(10,.dj 62),(11,q H),(13,q W),(9,.d 61 0 ((dz y O H W).map<|ov y O).length),(12,.d 69 0 256)],[(2,.cell 131<|V.zero nr.z),(8,.cell 131<|.agg [.int .i64 0,.d 57 0 ((dz y O H W).map<|rK O).length,.d 1302 0 (((List.range H).map<|ot y O).map bl).length]),(26,.cell 208<|.agg [.f 1 (y.ai.map iy),.f 1<|y.bz.map bl,.bool false]),(61,.n 1 64<|(dz y O H W).map<|ov y O),(69,.n 1 3<|(hx (ly y O H) W).map q),(57,.n 1 4<|(dz y O H W).map<|rK O),(1302,.n 1 64<|((List.range H).map<|ot y O).map bl),(62,.map (dY qC (λm=>q<|i6 m)<|gm<|dz y O H W) (gm<|dz y O H W).length)],[]⟩) (λW e=>?_) (by grind[aaj]);apply j<;>intro a8
  .obtain⟨an,M⟩:=e;have e:W<256:=v;have x:=av W;have bc:H<(dz y O H W).length:=(dm.1 x).1;refine ay.dI 14 1 3 [14] none ?_;refine dL a.length (λF=>⟨[(2,g 2),(4,g 26),(6,.f 1<|(g_ c O.last).map aW),(8,g 8),(10,.dj 62),(11,q H),(13,q W),(15,q F),(9,.d 61 0 ((dz y O H W).map<|ov y O).length),(12,.d 69 0 256),(14,.d 14 0 (((a.take F).filter λL=>hq (y.ai.getD L []) (W:Int)).map q).length)],[(2,.cell 131<|V.zero nr.z),(8,.cell 131<|.agg [.int .i64 0,.d 57 0 ((dz y O H W).map<|rK O).length,.d 1302 0 (((List.range H).map<|ot y O).map bl).length]),(26,.cell 208<|.agg [.f 1 (y.ai.map iy),.f 1<|y.bz.map bl,.bool false]),(61,.n 1 64<|(dz y O H W).map<|ov y O),(69,.n 1 3<|(hx (ly y O H) W).map q),(14,.n 1 3<|((a.take F).filter λL=>hq (y.ai.getD L []) (W:Int)).map q),(57,.n 1 4<|(dz y O H W).map<|rK O),(1302,.n 1 64<|((List.range H).map<|ot y O).map bl),(62,.map (dY qC (λm=>q<|i6 m)<|gm<|dz y O H W) (gm<|dz y O H W).length)],[]⟩) λF h=>?_;refine cz H ?_ (p:=aK);refine ft (bl a) ?_ (p:=PD x P);apply j<;>intro a9
   .have h:F<a.length:=v;have aN:a.getD F 0<c:=I _<|bZ h;refine c7 ?_;refine cz H ?_ (p:=aK);refine ft (bl a) ?_ (p:=PD x P);refine aJ F (q<|a.getD F 0) ?_ (p:=dg h);refine aJ (a.getD F 0) (iy<|y.ai.getD (a.getD F 0) []) ?_ (p:=aqc v);refine bT ?_ (i:=aiG (y.ai.getD (a.getD F 0) []) (W:Int) (by have:=(aqI G<|a.getD F 0).1;omega));apply j<;>intro a_
    .refine cz H ?_ (p:=aK);refine ft (bl a) ?_ (p:=PD x P);refine aJ F (q<|a.getD F 0) ?_ (p:=dg h);refine dv ?_;refine eR (((a.take<|F+1).filter λL=>hq (y.ai.getD L []) (W:Int)).map q) ?_ (fC:=.f rfl rfl rfl rfl (by simp[q,V.cells];rfl)) (aG:=by simp_all[T2,ab,cD]) (bq:=aM);refine aL ?_;exact aB<|F+1
    rw[show(a.take F).filter (λL=>hq (y.ai.getD L []) (W:Int))=(a.take<|F+1).filter (λL=>hq (y.ai.getD L []) (W:Int)) by simp_all[T2,aa,gf]];refine aL ?_;exact aB<|F+1
   obtain rfl:F=a.length:=v;rw[gq];have ad:=On (ai:=y.ai) K (W:=W);rw[XA];have Y:∀L∈nv y.ai a W,L<c:=λL A=>I L (j1.1 (by rw[<-XA] at A;exact A)).1;have T:=U W e (nv y.ai a W) rfl;have ae:=ag W e (nv y.ai a W) rfl;generalize nv y.ai a W=en at ad Y T ae;have be:=ad.len;refine ay.g9 14 ?_;refine cP ?_;refine az ?_ (i:=Nl en (λZ aO=>aM) v);refine qG (.tuple [q (kc i6 (gm<|dz y O H W) en),.bool<|sE (gm<|dz y O H W) en]) ?_ VI (dc:=DF (L:=λ_=>True) (y:=i6) (hN:=gm<|dz y O H W) (Z:=en) Dx trivial (λ_ _=>trivial) rfl);apply j<;>intro aq
   .have X:en∉gm (dz y O H W):=λah=>aq<|pN.2 ah;obtain⟨t,B,aj⟩:=T X;apply j<;>intro a2
    .have ap:3000<(b6 y O 3000).length:=by
      have aH:=(PC (y:=y) (O:=O) k<|show W+1<=256 by omega).length_le;have aI:=(lU (succ:=e7<|h6 y O) (bj:=[none])<|show H+1<=3000 by omega).length_le;have bf:(b6 y O (H+1)).length<=(b6 y O 3000).length:=by unfold b6;exact aI
      rw[t,c_,pk] at aH;omega
     rw[N ap];exact cu aZ
    refine az ?_ (i:=Nl en (λZ aO=>aM) v);refine vN (dY qC (λm=>q<|i6 m)<|gm<|dz y O H<|W+1) (gm<|dz y O H<|W+1).length ?_ VI (hu:=by rw[B];exact ajk (PB y O H W) X);refine ay.qs 1 [18] ?_;refine cP ?_;refine dL en.length (λF=>⟨[(2,g 2),(4,g 26),(6,.f 1<|(g_ c O.last).map aW),(8,g 8),(10,.dj 62),(11,q H),(13,q W),(14,.f 1<|en.map q),(16,q ((dz y O H W).map<|ov y O).length),(18,bl<|kT y.bz<|en.take F),(19,aW<|(en.take F).any λL=>decide (L∈O.last)),(20,q F),(9,.d 61 0 ((dz y O H W).map<|ov y O).length),(12,.d 69 0 256)],[(2,.cell 131<|V.zero nr.z),(8,.cell 131<|.agg [.int .i64 0,.d 57 0 ((dz y O H W).map<|rK O).length,.d 1302 0 (((List.range H).map<|ot y O).map bl).length]),(26,.cell 208<|.agg [.f 1 (y.ai.map iy),.f 1<|y.bz.map bl,.bool false]),(61,.n 1 64<|(dz y O H W).map<|ov y O),(69,.n 1 3<|(hx (ly y O H) W).map q),(57,.n 1 4<|(dz y O H W).map<|rK O),(1302,.n 1 64<|((List.range H).map<|ot y O).map bl),(62,.map (dY qC (λm=>q<|i6 m)<|gm<|dz y O H<|W+1) (gm<|dz y O H<|W+1).length)],[]⟩) λF h=>?_;apply j<;>intro a3
    .have h:F<en.length:=v;have aN:en.getD F 0<c:=Y _<|bZ h;have aV:=(Lc o.bz (en:=(en.take F))).len;have aY:=(o.bz<|en.getD F 0).len;refine c7 ?_;refine aJ F (q<|en.getD F 0) ?_ (p:=dg h);refine aJ (en.getD F 0) (bl<|y.bz.getD (en.getD F 0) []) ?_ (p:=xb v);refine bT ?_ (i:=B6 (kT y.bz<|en.take F) (y.bz.getD (en.getD F 0) []) v v);apply cs;intro bb;refine gZ F (q<|en.getD F 0) ?_ (p:=dg h);refine gZ (en.getD F 0) (aW<|decide (en.getD F 0∈O.last)) ?_ (p:=KQ);exact rfl;refine aL ?_;exact aB (F+1) (bo:=⟨⟨ax,ax,ax,ax,ax,ax,ax,ax,ax,(by rw[Ri h];rfl),(by rw[RA h];rfl),ax,ax,ax,trivial⟩,⟨ax,ax,ax,ax,ax,ax,ax,ax,trivial⟩,rfl,rfl⟩)
    obtain rfl:F=en.length:=v;rw[gq];refine dv ?_;refine eR ((dz y O H<|W+1).map<|ov y O) ?_ (aG:=by rw[t,cD,Kt,aqR]) (bq:=p2);refine dv ?_;refine eR ((dz y O H<|W+1).map<|rK O) ?_ (aG:=by rw[t,cD,Kt,aqO];rfl) (bq:=p2);refine cz W ?_ (p:=v)
    first|refine fl ((hx (ly y O H)<|W+1).map q) (q<|(hx (ly y O H) W).getD W 0) (q ((dz y O H W).map<|ov y O).length) ?_ (p:=dg FG) (aG:=by grind[List.length_map,List.map_set,Pj])|refine fl ((hx (ly y O H)<|W+1).map q) (q<|(hx (ly y O H) W).getD W 0) (q<|kc i6 (gm<|dz y O H<|W+1) en) ?_ (p:=dg (by rw[Ph];exact e)) (aG:=by rw[R,<-gN,Pj e])
    refine aL ?_;exact aB (W+1) ⟨v,p2⟩
   have aE:en∈gm (dz y O H W):=pN.1 b;obtain⟨t,B⟩:=ae aE;have R:kc i6 (gm (dz y O H W)) en=ly y O H W:=B;rw[<-t] at R⊢;refine cz W ?_ (p:=v)
   first|refine fl ((hx (ly y O H)<|W+1).map q) (q<|(hx (ly y O H) W).getD W 0) (q ((dz y O H W).map<|ov y O).length) ?_ (p:=dg FG) (aG:=by rw[aS,aj,<-gN,Pj e])|refine fl ((hx (ly y O H)<|W+1).map q) (q<|(hx (ly y O H) W).getD W 0) (q<|kc i6 (gm<|dz y O H<|W+1) en) ?_ (p:=dg FG) (aG:=QE)
   refine aL ?_;exact aB (W+1) ⟨v,b⟩
  obtain⟨an,M⟩:=e;obtain rfl:W=256:=v;rw[PA k,apJ];rw[PA k] at M;refine Bu 69 256 (ak:=(ot y O H).map q) (by simp[apK]) ?_;refine dv ?_;refine eR (((List.range<|H+1).map<|ot y O).map bl) ?_ (aG:=El (ot y O) bl H) (bq:=aM);refine aL ?_;exact aB (H+1) ⟨by grind[Ly,e7,h6,b6],M⟩
 obtain⟨S,aw⟩:=p;have aD:(b6 y O H).length<=H:=v;obtain⟨aP,aR⟩:=apu aD S v;rw[Q b,ad2,aP,<-aR];exact gB 57<|gB 1302<|cu aZ
end
section
section
variable{F:V->Prop}
def ali{l:TypeId}{c:Operand}{a:IntKind}{b:Int}{Y:Int}(i:F (.int a Y))(j:P.op=.unOp .neg l c:=by rfl)(k:val m O.h c=some (.int a b):=by rfl)(w:a.wrap (-b)=Y:=by rfl):c2 T z s m G P O F:=by subst w;exact .of rfl (λ_ e g u ad=>an8 j<|fp e g k (by grind[Op.operands]) rfl (u:=u) (ad:=ad)) i
def ala{t i y:TypeId}{b r:b0}{u p:Operand}{q o g Q:Nat}{S:List V}{N:IntKind}{w:Int}{a e:Nat}(E:F (.cU U o e))(G:P.op=.indexAddr t u p:=by rfl)(J:z.find t=some b:=by rfl)(a6:b.d=.array q i:=by rfl)(I:b.R=false:=by rfl)(B:z.find i=some r:=by rfl)(L:val m O.h u=some (.cU U o g):=by rfl)(A:bI O.c U=some (.n Q y S):=by rfl)(C:val m O.h p=some (.int N w):=by rfl)(M:w=(a:Int):=by first|rfl|omega)(D:a<q:=by exact FJ)(ii:e=g+a*r.size:=by first|rfl|(show _=0+_*1;omega)):c2 T z s m false P O F:=.lA (λl j k x=>by subst ii;let bu:=(l.find J).e6 I;rw[a6] at bu;obtain⟨W,H⟩:=iw _ A;exact YM bu (l.find B).K G (g3 j k L (by grind[Op.operands]) x) H (g3 j k C (by grind[Op.operands]) x) M D) E
end
def kv(a:Nat->Nat):V:=.vec 32 (.ints .u64<|(List.range 32).map λF=>((a F:Nat):Int)) []
def b5(a:List Nat):V:=kv<|cJ a
theorem agI a:(kv a).cells=(List.range 32).map λF=>V.int .u64 ((a F:Nat)):=by rfl
def L_{a:Nat->Nat}:(kv a).cells.length=32:=ax
theorem n4{a:List Nat}:(b5 a).cells.length=32:=L_
def CZ{a:Nat->Nat}{F:Nat}:F<32->(kv a).cells[F]?=some (.int .u64 ((a F:Nat))):=by grind[agI,List.getElem?_range]
def Ma{x y:Nat->Nat}{F:Nat}(c:F<32)(g:y F=U)(e:∀a≠F,y a=x a):(kv x).cells.set F (.int .u64 ((U:Nat)))=(kv y).cells:=by refine ho λb=>?_;rw[oA];by_cases p:b<32;rw[CZ p,CZ p,L_]<;>grind;simp_all[s6,L_,aa]
def qr{a:Nat->Nat}:(kv a).s1:=ax
def arW:∀a:Nat,a<64->2^a*285870213051353865%18446744073709551616/288230376151711744<64/\AD.getD (2^a*285870213051353865%18446744073709551616/288230376151711744) 0=a:=bB
def asJ{a:Nat}(b:U<18446744073709551616)(w:pq U a):a<64:=by refine jZ λc=>?_;have:=acs (i:=a)<|h3 b (by rw[show 18446744073709551616=2^64 from rfl];exact m9 v v);rw[w.one] at this<;>grind
def akZ{a o:Nat}:U*a%o=((U*a%o:Nat):Int):=ax
def arX:U<64->(AD.map (V.int .u8))[U]?=some (V.int .u8 (AD.getD U 0)):=by let a:AD.length=64:=rfl;simp_all
def arV{t:Nat}(i:U<18446744073709551616)(a:pq U t):aA 243 [.int .u64 U] (q t):=by
 refine aX func243 [] λs r=>?_;apply j<;>intro u
 .have:=a.pos;omega
 have l:=asJ i a;let⟨p,g⟩:=arW t l;have c:IntKind.u64.wrap (-U)=((2^64-U:Nat)):=by rw[J9];omega
 have k:lV .and .u64 U ((2^64-U:Nat))=((2^t:Nat)):=by rw[Lt (by grind[E1]) (by grind[E1]),a.only i]
 have o:IntKind.u64.wrap (((2^t:Nat))*285870213051353865)=((2^t*285870213051353865%18446744073709551616:Nat)):=by exact akZ
 generalize m:2^t*285870213051353865%18446744073709551616/288230376151711744=b at p g;have e:(IntKind.u64.wrap (lV .and .u64 U ((2^64-U:Nat))*285870213051353865)).fdiv (2^min (58:Int).toNat IntKind.u64.bits)=b:=by rw[k,o];have:=aqo (E:=2^t*285870213051353865%18446744073709551616) (t:=58) aj;rw[<-m];simp only[IntKind.bits];rw[show((58:Nat))=(58:Int) from rfl] at this;rw[this,acq]
 have h:=arX p;rw[g] at h;generalize x:((2^64-U:Nat))=y at c e;refine ali ?_ (w:=c);refine Ob b (w:=e)<|Bn (qk:=b) ?_;refine DO (.int .u8 t) (dc:=h)<|k4 t<|ae
theorem aqm{H:Nat}(w:H<64):IntKind.u64.wrap (1*2^min (H:Int).toNat IntKind.u64.bits)=((2^H:Nat)):=by
 let a:min (H:Int).toNat IntKind.u64.bits=H:=by simp[IntKind.bits];omega
 rw[a,Int.one_mul,J9];let b:2^H<18446744073709551616:=by exact acp v w
 grind
theorem arR(w:U<64):2^U<2^64:=acp v w
def WK{b:List Nat}{a:Nat}:a∈c0 b [U]↔a∈b\/a=U:=by rw[mO,cV]
def asC{b:List Nat}{a:Nat}(w:a≠U/64):cJ (c0 b [U]) a=cJ b a:=abn λe c=>by(simp[WK,absurd];omega)
def tT(a z:List Nat)(b F:Nat):Nat:=if F<b then cJ a F|||cJ z F else cJ a F
def aiY a z:kv (tT a z 32)=b5 (c0 a z):=by unfold b5 kv;congr 2;refine gp λF c=>?_;rw[tT,ab b,asA (mO a z ·)]
def ai0 a z(b:U<32):(kv (tT a z U)).cells.set U (.int .u64 ((cJ a U|||cJ z U:Nat)))=(kv (tT a z (U+1))).cells:=Ma b (by simp[tT,ab,uM]) λe c=>by unfold tT<;>grind
def aiZ a z:U<32->(kv (tT a z U)).cells[U]?=some (.int .u64 ((cJ a U:Nat))):=by simp_all[CZ,tT,aa,tc]
def tu(a z:List Nat)(b F:Nat):Nat:=if F<b then cJ a F&&&cJ z F else cJ a F
def Aw(a z:List Nat):List Nat:=a.filter λb=>decide (b∈z)
def WM{a z:List Nat}:U∈Aw a z↔U∈a/\U∈z:=by simp[Aw,j1,uR]
def aew a z:kv (tu a z 32)=b5 (Aw a z):=by unfold b5 kv;congr 2;refine gp λF c=>?_;rw[tu,ab b,asw λe=>WM]
def aey a z(b:U<32):(kv (tu a z U)).cells.set U (.int .u64 ((cJ a U&&&cJ z U:Nat)))=(kv (tu a z (U+1))).cells:=Ma b (by simp[tu,ab,uM]) λe c=>by unfold tu<;>grind
def aex a z:U<32->(kv (tu a z U)).cells[U]?=some (.int .u64 ((cJ a U:Nat))):=by simp_all[CZ,tu,aa,tc]
def G1 a{H:Nat}(b:H<32):(b5 a).cells[H]?=some (.int .u64 ((cJ a H:Nat))):=CZ b
attribute [local irreducible] cJ
def Yc{gP:List Nat}{H:Nat}(k:H<2000):cK 168 [g 6000,q H] [(6000,.cell 253 (b5 gP))] (.tuple []) [(6000,.cell 253 (b5 (c0 gP [H])))]:=by refine cX func168 [] λm s j=>?_;let i:=zS (gP:=gP) (F:=(H/64));let e:lV .or .u64 ((cJ gP (H/64):Nat)) ((2^(H%64):Nat))=((cJ gP (H/64)|||2^(H%64):Nat)):=RK i<|arR v;let a:=Ma (x:=cJ gP) (y:=cJ<|c0 gP [H]) (F:=H/64) v (asv λ_=>WK) λl c=>asC c;rw[<-e] at a;let h:=aqm (H:=H%64) v;let b:=G1 gP (H:=H/64) v;refine dC<|a_ (λ_=>Bo H 64 rfl) ?_;apply a_ λ_=>iF (H/64) (H/64) rfl (ii:=by show H/64=0+H/64*1;omega);refine a_ (λ_=>ga (.int .u64<|(cJ gP (H/64):Nat)) rfl (dc:=b))<|a_ (λ_=>Il H 64 rfl)<|a_ (λ_=>k4 ((H%64:Nat)) rfl) ?_;refine a_ (λ_=>alj rfl (w:=h))<|a_ (λ_=>iF (H/64) (H/64) rfl (ii:=by show H/64=0+H/64*1;omega)) ?_;refine wg (b5<|c0 gP [H]) (i2:=by grind[b5,n4]) (aG:=a)<|fm ?_;exact cH
end
section
attribute [local irreducible] cJ
def anp{b z:List Nat}:cK 276 [g 6000,.ref 32 [b5 z] 0 0] [(6000,.cell 253 (b5 b))] (.tuple []) [(6000,.cell 253 (b5 (c0 b z)))]:=by
 refine cX func276 [] λm s k=>?_;refine dL 32 (λa=>⟨[(0,g 6000),(1,.ref 32 [b5 z] 0 0),(5,q a)],[(6000,.cell 253<|kv<|tT b z a)],[]⟩) λa p=>?_;apply j<;>intro l
 .let c:a<32:=v;let e:=ai0 b z c;rw[<-RK zS zS] at e;let h:=aiZ b z c;let i:=G1 z c;refine dC ?_;apply a_ λ_=>iF a a rfl (ii:=by show a=0+a*1;omega);refine a_ (λ_=>ga (.int .u64<|(cJ b a:Nat)) rfl (dc:=h))<|a_ (λ_=>Bn (qk:=a) rfl (h9:=by show 0+a*1=a;omega)) ?_;refine a_ (λ_=>DO (.int .u64<|(cJ z a:Nat)) rfl i)<|a_ (λ_=>iF a a rfl (ii:=by show a=0+a*1;omega)) ?_;refine wg (kv<|tT b z<|a+1) (i2:=bB) (aG:=e)<|iK []<|aL<|aB<|a+1
 obtain rfl:a=32:=v;rw[aiY];exact cH
def ang b z:aA 225 [b5 b,.ref 32 [b5 z] 0 0] (b5 (Aw b z)):=by
 refine aX func225 [] λs k=>?_;refine jS (b5 []) (dA:=bL)<|dL 32 (λa=>⟨[(1,.ref 32 [b5 z] 0 0),(2,g 2),(4,g 4),(6,q a)],[(2,.cell 253<|kv<|tu b z a),(4,.cell 253<|b5 [])],[]⟩) λa p=>?_;apply j<;>intro l
 .let c:a<32:=v;let e:=aey b z c;rw[<-Lt (by rw[E1];grind[zS]) (by grind[E1,zS])] at e;let h:=aex b z c;let i:=G1 z c;refine dC ?_;apply a_ λ_=>iF a a rfl (ii:=by show a=0+a*1;omega);refine a_ (λ_=>ga (.int .u64<|(cJ b a:Nat)) rfl (dc:=h))<|a_ (λ_=>Bn (qk:=a) rfl (h9:=by show 0+a*1=a;omega)) ?_;refine a_ (λ_=>DO (.int .u64<|(cJ z a:Nat)) rfl i)<|a_ (λ_=>iF a a rfl (ii:=by show a=0+a*1;omega)) ?_;refine wg (kv<|tu b z<|a+1) (i2:=bB) (aG:=e)<|iK []<|aL<|aB<|a+1
 obtain rfl:a=32:=v;rw[aew];refine fb (av:=qr)<|iG (b5<|Aw b z) (h1:=n4) (dX:=n4)<|AO aZ<|.ln rfl rfl rfl rfl rfl qr n4 .nil
end
structure kP(Y:aO)(Vn J:Nat)(seen:List Bool)(R gP:List Nat)(W:Bool)(bJ H:Nat):Prop where
 len:seen.length=Y.ag.length
 src:seen.getD Vn false=true
 cx:∀Z,seen.getD Z false=true->ey.Way (jl Y) Vn Z
 uz:∀Z∈R,seen.getD Z false/\Z≠bJ
 hs:R.Nodup
 cl:∀Z,seen.getD Z false=true->Z∉R->Z≠bJ->∀B∈Y.ag.getD Z [],seen.getD B false=true
 tB:∀B,B∈(Y.ag.getD bJ []).take H->seen.getD B false=true
 inc:ef gP
 mem:∀A,A∈gP↔A<Y.eF.length/\seen.getD (Y.eF.getD A 0) false/\Y.eF.getD A 0∉R
 fin:W↔seen.getD J false/\J∉R
def rc(a:List Nat)(b:Int):List Nat:=if 0<=b then c0 a [b.toNat] else a
def WL{a:List Nat}{b:Int}:U∈rc a b↔U∈a\/b=U:=by grind[rc,mO,List.mem_singleton]
def aiH{a:List Nat}(w:hB a)b:hB (rc a b):=by grind[rc,tQ]
def Dh{a:List Bool}:a.getD U false=true->U<a.length:=by grind
theorem kP.start{Y:aO}(h:oH Y){J:Nat}(e:U<Y.ag.length):kP Y U J ((List.replicate Y.ag.length false).set U true) [U] [] false Y.ag.length 0:=by
 have c:∀a,((List.replicate Y.ag.length false).set U true).getD a false↔a=U:=λa=>by grind
 refine⟨af,(c U).2 rfl,λa b=>?_,λa b=>?_,af,λa b g=>?_,λk i=>?_,.nil,λj=>?_,?_⟩;rw[(c a).1 b];exact .refl _
 (simp_all;omega)
 simp_all;trivial;simp_all;simp_all
def kP.pop{Y:aO}(l:oH Y)(t:Y.eF.length<=2000){e a:Nat}{o:List Bool}{R j:List Nat}{k:Bool}(w:kP Y U e o (R++[a]) j k Y.ag.length 0):kP Y U e o R (rc j (Y.eY.getD a (-1))) (k||decide (a=e)) a 0:=by let u:=w.uz a af;let m:=pm.1 w.hs;let p:=λb=>m.2.2 a b a (cV.2 rfl) rfl;refine⟨w.len,w.src,w.cx,λi c=>⟨(w.uz i aM).1,λb=>p<|b▸c⟩,m.1,λi c r s=>?_,λy x=>?_,⟨aiH w.inc.1 _,λh q=>?_⟩,λh=>?_,?_⟩;refine w.cl i c (λb=>?_) λb=>?_;simp_all;have:=Dh c;have:=w.len;omega;trivial;rcases WL.1 q with g|g;exact w.inc.2 h g;have:=((l.BG a h).1 g).1;omega;rw[WL,w.mem,l.BG];grind;rw[m5,w.fin,uR];grind
def aaO{a:List Nat}{b:Nat}:U<a.length->b∈a.take (U+1)->b∈a.take U\/b=a.getD U 0:=by grind[oy,List.mem_singleton]
def kP.old{Y:aO}{h b a:Nat}{c:List Bool}{R e:List Nat}{g:Bool}(w:kP Y U h c R e g b a)(i:a<(Y.ag.getD b []).length)(j:c.getD ((Y.ag.getD b []).getD a 0) false=true):kP Y U h c R e g b (a+1):=⟨w.len,w.src,w.cx,w.uz,w.hs,w.cl,λl k=>(aaO i k).elim (w.tB l) (·▸j),w.inc,w.mem,w.fin⟩
def kP.new{Y:aO}(D:oH Y){r b e:Nat}{g:List Bool}{R p:List Nat}{q:Bool}(w:kP Y U r g R p q b e)(t:g.getD b false=true)(m:e<(Y.ag.getD b []).length)(u:¬g.getD ((Y.ag.getD b []).getD e 0) false):kP Y U r (g.set ((Y.ag.getD b []).getD e 0) true) (R++[(Y.ag.getD b []).getD e 0]) p q b (e+1):=by
 have s:jl Y b ((Y.ag.getD b []).getD e 0):=by rw[cg,bw m];exact fG m
 generalize E:(Y.ag.getD b []).getD e 0=i at*;have:i<g.length:=by rw[w.len];exact D.EZ _ _ s
 have h:∀a,(g.set i true).getD a false↔g.getD a false\/a=i:=λa=>by grind
 have x:∀a,a∈R++[i]↔a∈R\/a=i:=λa=>af;have:i≠b:=λl=>u<|l▸t;refine⟨by rw[lL];exact w.len,(h _).2<|.inl w.src,λa j=>?_,λa j=>?_,?_,λa j z A k o=>?_,λk o=>?_,w.inc,λF=>?_,?_⟩;rcases(h a).1 j with c|rfl;exact w.cx a c;exact(w.cx b t).tail s;rcases(x a).1 j with c|rfl;exact⟨(h a).2<|.inl (w.uz a c).1,(w.uz a c).2⟩;simp_all;exact pm.2 ⟨w.hs,af,λy B l C=>by rw[cV.1 C];exactλc=>u<|c▸(w.uz y B).1⟩;rcases(h a).1 j with c|rfl;exact(h k).2<|.inl<|w.cl a c (λl=>z<|(x a).2<|.inl l) A k o;simp_all;rcases aaO m o with c|c;exact(h k).2<|.inl<|w.tB k c;simp_all;rw[w.mem];grind;rw[w.fin];grind
def kP.done{Y:aO}{i c:Nat}{j:List Bool}{R e:List Nat}{g:Bool}(w:kP Y U i j R e g c (Y.ag.getD c []).length):kP Y U i j R e g Y.ag.length 0:=by refine⟨w.len,w.src,w.cx,λa b=>⟨(w.uz a b).1,λh=>?_⟩,w.hs,λa b k _=>?_,λm l=>?_,w.inc,w.mem,w.fin⟩;have:=Dh (w.uz a b).1;have:=w.len;omega;by_cases h:a=c;have:=w.tB;simp_all;exact w.cl a b k h;trivial
def kP.all{Y:aO}{i:Nat}{c:List Bool}{e:List Nat}{g:Bool}(w:kP Y U i c [] e g Y.ag.length 0)a:c.getD a false↔ey.Way (jl Y) U a:=by
 refine⟨w.cx a,λj=>?_⟩
 induction j
 exact w.src
 next _ h b=>refine w.cl _ b h2 (λk=>?_) _ h;have:=Dh b;have:=w.len;omega
def kP.end_{Y:aO}{e:Nat}{g:List Bool}{b:List Nat}{c:Bool}(w:kP Y U e g [] b c Y.ag.length 0):(∀a,a∈b↔a<Y.eF.length/\ey.Way (jl Y) U (Y.eF.getD a 0))/\(c=true↔ey.Way (jl Y) U e):=⟨λa=>by rw[w.mem,w.all];simp,by rw[w.fin,w.all];simp⟩
def B7(a:List Bool):Nat:=a.count false
def ar_{a:List Bool}:U<a.length->¬a.getD U false->B7 (a.set U true)+1=B7 a:=by grind[B7]
section
variable[DecidableEq aD](succ:aD->List aD)(bj:List aD)(M:aD)
def fx(a:Nat):aD:=(bH succ bj a).getD a M
def iX(a b:Nat):List aD:=g7 (bH succ bj a)<|(succ<|fx succ bj M a).take b
def k8(a b:Nat):Nat:=e_ (bH succ bj<|a+1)<|(succ<|fx succ bj M a).getD b M
variable{succ bj M}
theorem ts a:iX succ bj M a 0=bH succ bj a:=ax
theorem vd:U<(bH succ bj U).length->(bH succ bj U)[U]?=some (fx succ bj M U):=by grind[fx,List.getElem?_eq_getElem]
theorem Gl{a:Nat}:U<(bH succ bj U).length->(succ (fx succ bj M U)).length<=a->iX succ bj M U a=bH succ bj (U+1):=by grind[iX,List.take_of_length_le,u7,vd]
theorem Lw{a:Nat}:a<(succ (fx succ bj M U)).length->iX succ bj M U (a+1)=note (iX succ bj M U a) ((succ (fx succ bj M U)).getD a M):=by grind[iX,oy,w0]
theorem At(b:U<(bH succ bj U).length)a:iX succ bj M U a<+:bH succ bj (U+1):=by rw[u7<|vd (M:=M) b];grind[iX,List.take_append_drop,fx,GK,yR]
theorem aea(w:bj.Nodup)a b:(iX succ bj M a b).Nodup:=wZ _<|wS w a
theorem IF{a:Nat}(e:U<(bH succ bj U).length)(b:a<(succ (fx succ bj M U)).length)(c:(succ (fx succ bj M U)).getD a M∈iX succ bj M U a):iX succ bj M U (a+1)=iX succ bj M U a/\e_ (iX succ bj M U a) ((succ (fx succ bj M U)).getD a M)=k8 succ bj M U a:=by
 exists by rw[Lw b,note,ab c]
 grind[k8,vD,At]
theorem IE{a:Nat}(g:bj.Nodup)(i:U<(bH succ bj U).length)(h:a<(succ (fx succ bj M U)).length)(k:(succ (fx succ bj M U)).getD a M∉iX succ bj M U a):iX succ bj M U (a+1)=iX succ bj M U a++[(succ (fx succ bj M U)).getD a M]/\(iX succ bj M U a).length=k8 succ bj M U a:=by
 let e:iX succ bj M U (a+1)=iX succ bj M U a++[(succ<|fx succ bj M U).getD a M]:=by rw[Lw h,note,aa k]
 let c:=aea (succ:=succ) (M:=M) g U<|a+1;unfold k8;rw[vD (At (M:=M) i<|a+1) b];rw[e] at c⊢;let j:(iX succ bj M U a).length<(iX succ bj M U a++[(succ<|fx succ bj M U).getD a M]).length:=af;have:=zd c j;simp_all
theorem alY{a:Nat}(c:U<(bH succ bj U).length)(b:a<(succ (fx succ bj M U)).length):(succ (fx succ bj M U)).getD a M∈bH succ bj (U+1):=by apply (At (M:=M) c<|a+1).subset;rw[Lw b,DY];simp
def fY(c:Nat->Nat)(o b:Nat):List Nat:=(List.range o).map λa=>if a<b then c a else 0
theorem Jv b o a:(fY b o a).length=o:=by simp[fY,aS,gM]
theorem apo a o:fY a o 0=List.replicate o 0:=by refine ho λb=>?_;unfold fY;grind
theorem Ju a o:fY a o o=(List.range o).map a:=gp λb p=>ab<|fq.1 p
theorem Ez a{o:Nat}(w:U<o):(fY a o U).set U (a U)=fY a o (U+1):=by refine ho λb=>?_;unfold fY;grind
theorem Zz(l:bj.Nodup){o H:Nat}(k:∀c,(succ c).length=o)(j:H<=(bH succ bj H).length)(i:(bH succ bj H).length<=H):((List.range H).map λbJ=>fY (k8 succ bj M bJ) o o)=(bH succ bj H).map λc=>(succ c).map (e_<|bH succ bj H):=by
 let he:=Fz i j;refine ho λbJ=>?_;rw[ch,ch];by_cases h:bJ<H;rw[wo h];let e:bJ<(bH succ bj bJ).length:=by refine yh λa=>?_;have:=py (bJ:=H) a v;rw[this] at he;omega
 rw[vT (lU v)<|vd e];show some _=some _;congr 1;show fY _ o o=_;rw[Ju];refine ho λa=>?_;rw[ch,ch];by_cases F:a<o;let b:a<(succ<|fx succ bj M bJ).length:=by rw[k];exact F
 rw[wo F,bw b];show some _=some _;let g:(succ _)[a]=(succ (fx succ bj M bJ)).getD a M:=by rw[cg,bw b];rfl
 rw[g,vD (lU<|show bJ+1<=H by omega)<|alY e b];rfl;simp_all;simp_all
end
section
variable{B_:Type} [DecidableEq B_](key:Nat->B_)
def eQ(a:Nat):List B_:=g7 [] ((List.range a).map key)
def eV:Nat->List Nat|0=>[]|a+1=>if key a∈eQ key a then eV a else eV a++[a]
def ix(a:Nat):Nat:=e_ (eQ key 256)<|key a
theorem HT a:eQ key (a+1)=note (eQ key a) (key a):=by simp[eQ,r0,cD,w0]
theorem Bc:∀a,eQ key a=(eV key a).map key|0=>rfl|a+1=>by rw[HT,note,eV];split;exact Bc a;rw[cD,<-Bc a];rfl
theorem Dg:∀a,∀b∈eV key a,b<a|0,b,w=>absurd w h2|a+1,b,w=>by rw[eV] at w;split at w;exact wu<|Dg a b w;rcases ee.1 w with c|c;exact wu<|Dg a b c;simp_all
theorem AY:∀a,(eV key a).length<=a|0=>a1 _|a+1=>by have:=AY a;grind[eV,List.length_append,List.length_singleton]
theorem Nq{a:Nat}:U<a->key U∈eQ key a:=by grind[eQ,vh,List.mem_map_of_mem]
theorem VS a:(eQ key a).Nodup:=wZ _ Kw
theorem VT{a:Nat}:U<=a->eQ key U<+:eQ key a:=by
 induction a
 simp_all
 next a b=>grind[HT,trans,Ok]
theorem Dy a:(eQ key a).length=(eV key a).length:=by rw[Bc,aS]
attribute [irreducible] eV eQ
theorem afw:U<256->ix key U<(eV key 256).length:=by unfold ix;rw[<-Dy];simp_all[xl,Nq]
theorem afy(w:U<256):key ((eV key 256).getD (ix key U) 0)=key U:=by let a:=xl<|Nq key w;let b:=MX a;grind[eV,e_,ix,Bc,List.getElem?_eq_getElem]
theorem afx(w:U<(eV key 256).length):ix key ((eV key 256).getD U 0)=U:=by
 let a:U<(eQ key 256).length:=by rw[Dy];exact w
 let b:=zd (VS key 256) a;let c:=by
  have:(eQ key 256)[U]?=some (key ((eV key 256).getD U 0)):=by rw[Bc,ch,bw w,cg,bw w];rfl
  rw[bw a] at this;exact lN this
 grind[ix]
theorem L5{aD:Type} [DecidableEq aD]{b:Nat->aD}(g:∀e a,key e=key a->b e=b a)c:∀a,g7 c ((List.range a).map b)=g7 c ((eV key a).map b)|0=>by simp[eV]|a+1=>by rw[r0,cD,Kt,w0,L5 g c a,eV];split;rw[note,ab];grind[Bc,vh];rw[cD,Kt,w0]
end
structure dr where
 sf:List Nat
 fst:List Nat
 acc:List Bool
 bi:List (List Nat)
def g6(M:dr):a3:=⟨0,M.acc,M.bi.map λD=>(List.range 256).map λa=>D.getD (M.sf.getD a 0) 0⟩
structure dr.ok(M:dr):Prop where
 cl:M.sf.length=256
 lt:∀t<256,M.sf.getD t 0<M.fst.length
 aN:∀H<M.fst.length,M.fst.getD H 0<256/\M.sf.getD (M.fst.getD H 0) 0=H
 f2:M.fst.length<=256
 ac:M.acc.length=M.bi.length
 pO:0<M.bi.length
 DN:M.bi.length<=100000
 rw:∀H<M.bi.length,(M.bi.getD H []).length=M.fst.length
 aaU:∀H t,H<M.bi.length->t<M.fst.length->(M.bi.getD H []).getD t 0<M.bi.length
def i1(M:dr)(b a:Nat):Nat:=(M.bi.getD b []).getD a 0
def adY{M:dr}(b:U<M.bi.length):c8 (g6 M) U=(List.range 256).map λa=>i1 M U (M.sf.getD a 0):=by rw[c8,g6,cg,ch,bw b];grind[i1,List.getElem?_eq_getElem]
theorem yE{M:dr}(b:U<M.bi.length)a:gj (g6 M) U a=i1 M U (M.sf.getD a.toNat 0):=by rw[gj,adY b,cg,ch,wo a.toNat_lt];rfl
def dr.ok.CU{M:dr}(w:M.ok){a:Nat}(c:U<M.bi.length)(b:a<M.fst.length):i1 M U a<M.bi.length:=w.aaU U a c b
def C3(M:dr)(a b:Nat):Prop:=gH (gj<|g6 M) (fT<|g6 M) a=gH (gj<|g6 M) (fT<|g6 M) b
theorem dr.ok.step{M:dr}(w:M.ok)b c a(i:a<M.fst.length)(j:b<M.bi.length)(k:c<M.bi.length)(h:C3 M b c):C3 M (i1 M b a) (i1 M c a):=by
 let l:=w.aN a i;let g:∀e<M.bi.length,gj (g6 M) e (UInt8.ofNat<|M.fst.getD a 0)=i1 M e a:=λe ap=>by grind[yE,rN]
 unfold C3 at*;rw[<-g b j,<-g c k,<-DA,<-DA,h]
abbrev Ak(M:dr)(w:da):Prop:=q9 (i1 M) M.bi.length M.fst.length (fT<|g6 M) (C3 M) w
abbrev Cv(M:dr)(b:List Nat)(a:Nat)(w:da):Prop:=wE (i1 M) M.bi.length M.fst.length (fT<|g6 M) (C3 M) b a w
def Fb(M:dr):List Nat:=(List.range M.bi.length).filter λa=>M.acc.getD a false
theorem dr.ok.start{M:dr}(w:M.ok):Ak M (pa ⟨List.replicate M.bi.length 0,[List.range M.bi.length],[0]⟩ (Fb M)):=q9.start (λb c _ _ a=>KU a []) w.pO
def n8(M:dr)(b:List Nat)(a:Nat):List Nat:=b.flatMap λO=>(List.range M.bi.length).filter λc=>decide (i1 M c a=O)
theorem Hg{M:dr}{b:List Nat}{a:Nat}:a∈n8 M b U↔a<M.bi.length/\i1 M a U∈b:=by unfold n8;grind
def Hh{M:dr}{a:Nat}:∀{own:List Nat},own.Nodup->(n8 M own a).Nodup|[],_=>Kw|O::own,w=>by let⟨e,b⟩:=s9.1 w;refine pm.2 ⟨List.nodup_range.filter _,Hh b,λi g j h c=>?_⟩;grind[Hg]
def ahD{M:dr}{b:List Nat}{a:Nat}(c:a<b.length):n8 M (b.take (a+1)) U=n8 M (b.take a) U++(List.range M.bi.length).filter λe=>decide (i1 M e U=b.getD a 0):=by unfold n8;rw[oy c,Qg,Ft,abY,gf]
def Cv.next{M:dr}(a6:M.ok){b:List Nat}{w:da}(F:Cv M b U w)(a:U<M.fst.length):Cv M b (U+1) (pa w (n8 M b U)):=wE.step a6.step (λ_ _ c a=>a6.CU c a) F a (λ_=>Hg)<|Hh F.hs
def iL(w:da)(a:Nat):Nat:=(w.mem.getD a []).getD 0 0
def jA(M:dr)(w:da)(a:Nat):List Nat:=(List.range 256).map λb=>a8 w<|i1 M (iL w a)<|M.sf.getD b 0
def gS(M:dr)(w:da)(a:Nat):List Nat:=bH (jA M w) [a8 w 0] a
theorem iT.eZ{Y:Nat}{w:da}(F:iT Y w)(b:U<Y):iL w (a8 w U)<Y/\a8 w (iL w (a8 w U))=a8 w U:=by
 let a:=Kr<|(F.mem _ _).2 ⟨b,rfl,F.lt U b⟩;let c:iL w (a8 w U)∈w.mem.getD (a8 w U) []:=by unfold iL;rw[cg (l:=w.mem.getD _ []),bw a];exact fG a
 have:=(F.mem _ _).1 c;omega
def iT.Em{Y:Nat}{w:da}(F:iT Y w)(b:U<w.mem.length):iL w U<Y/\a8 w (iL w U)=U/\0<(w.mem.getD U []).length:=by
 let a:=ya.2<|F.ne U b;let c:iL w U∈w.mem.getD U []:=by unfold iL;rw[cg (l:=w.mem.getD U []),bw a];exact fG a
 have:=(F.mem _ _).1 c;omega
def aaD M w a:(jA M w a).length=256:=ax
def ara{M:dr}{w:da}{a:Nat}(c:a<256)b:(jA M w U).getD a b=a8 w (i1 M (iL w U) (M.sf.getD a 0)):=by grind[jA,List.getElem?_range]
section
variable{M:dr}(a6:M.ok){w:da}(F:Ak M w)
include a6 F
theorem aaE(c:U<w.mem.length):∀a∈jA M w U,a<w.mem.length:=λa g=>by obtain⟨b,e,rfl⟩:=b4.1 g;exact F.ok.lt _<|a6.CU (F.ok.Em c).1<|a6.lt b<|fq.1 e
theorem Oz c:∀b∈gS M w c,b<w.mem.length:=qi (λb a=>by rw[cV.1 a];exact F.ok.lt 0 a6.pO) (λb a=>aaE a6 F a) c
omit a6 F in
theorem amh(a:Nat):(gS M w a).Nodup:=wS af a
theorem Ea a:(gS M w a).length<=w.mem.length:=pH (amh a)<|Oz a6 F a
theorem YY(i:w.c9=[]):uZ (·<M.bi.length) (gj (g6 M)) (fT (g6 M)) (a8 w):=by
 refine uZ.of (λe b a=>?_) (F.eq · · · · ·) (F.acc · · · · ·) λe k b a c g=>?_;rw[yE a];exact a6.CU a<|a6.lt _ b.toNat_lt
 .rw[yE a,yE c];exact F.done (λe j a h=>a6.CU a h) i (a6.lt _ b.toNat_lt) a c g
theorem V7(o:w.c9=[])(l:(gS M w U).length<=U)(p:U<=100000):iZ (gG (g6 M))=⟨0,(gS M w U).map λa=>fT (g6 M)<|iL w a,(gS M w U).map λa=>(jA M w a).map<|e_<|gS M w U⟩:=by
 let i:=((YY a6 F o).tv (λc b=>F.ok.eZ b) a6.pO nj).1;let m:∀g,bH (e7 λh a=>a8 w<|gj _ _ a) _ g=gS M w g:=λg=>by refine RP (λc b=>by rw[cV.1 b];exact F.ok.lt 0 a6.pO) (λc b=>aaE a6 F b) λc b=>?_;refine gp λa e=>?_;show a8 w _=_;rw[yE (F.ok.Em b).1,rN<|fq.1 e]
 let k:gS M w nj=gS M w U:=py l (by grind[LL]);rw[m,k] at i;unfold iZ;rw[show tv (gG _) _=_ from i];congr 1;refine gp λc b=>?_;let j:e7 (λh a=>a8 w<|gj (g6 M) (iL w h) a) c=jA M w c:=by refine gp λa e=>?_;show a8 w _=_;rw[yE (F.ok.Em<|Oz a6 F U c b).1,rN<|fq.1 e]
 rw[j];rfl
theorem amg(q:w.c9=[])(o:(gS M w U).length<=U)(p:∀c<M.bi.length,∃b,nF (gj (g6 M)) 0 b=c):(gS M w U).length=w.mem.length:=by
 apply Fz<|Ea a6 F U;let e:=YY a6 F q;let key:∀b c,c<M.bi.length->a8 w c∈gS M w U->a8 w (nF (gj<|g6 M) c b)∈gS M w U:=by
  intro b
  induction b
  exactλc _ hm=>hm
  next a b r=>intro c h hm;let i:=e.step c a h;apply r _ i;let g:=F.ok.eZ h;let j:=(e.iff _ _ (e.step _ a g.1) i).2<|cW (tD · a)<|(e.iff _ _ g.1 h).1 g.2;rw[<-j,yE g.1];apply Au o hm _;exact b4.2 ⟨a.toNat,fq.2 a.toNat_lt,rfl⟩
 let l:∀a∈List.range _,a∈gS M w U:=λa m=>by let k:=F.ok.Em<|fq.1 m;let⟨b,s⟩:=p _ k.1;have:=key b 0 a6.pO<|(lU<|c1 U).subset (by simp[bH]);simp_all
 have:=nK List.nodup_range l;simp_all
end
def tW:aO:=⟨[[]],[-1],[],[],[]⟩
def Xi a b:¬jl tW a b:=by grind[jl,tW]
def als:lj tW ⟨[],[]⟩ 0:=by
 refine⟨⟨rfl,rfl,rfl,λa c w=>absurd w<|Xi a c,λb w=>absurd w<|uO b,λb w=>absurd w<|uO b,λa b=>?_,λa=>?_⟩,Cl,rfl,rfl,λe=>?_⟩;constructor;intro w;cases a;trivial
 next a=>trivial
 rintro⟨w,_⟩;trivial;cases a;trivial
 next a=>exact zY _
 simp
abbrev gi(a:ao):aO:=(e8 a tW 0).1
abbrev vl(a:ao):Nat:=(e8 a tW 0).2
abbrev cT(a:ao):aC:=(cB a ⟨[],[]⟩).1
abbrev ip(a:ao):bf:=(cB a ⟨[],[]⟩).2
structure acK(J:ao)(Y:aO)(Mg:Nat)(y:aC)(O:bf):Prop where
 ok:oH Y
 asY:Mg<Y.ag.length
 ahC:0<Y.ag.length
 k:Y.ai.length=y.ai.length
 ai:Y.ai=y.ai.map ie
 first:∀A,A∈O.first↔A<Y.eF.length/\ey.Way (jl Y) 0 (Y.eF.getD A 0)
 qs:O.empty↔ey.Way (jl Y) 0 Mg
 bz:∀L<Y.e3.length,∀A,A∈y.bz.getD L []↔A<Y.eF.length/\ey.Way (jl Y) (Y.e3.getD L 0) (Y.eF.getD A 0)
 last:∀L<Y.e3.length,(L∈O.last↔ey.Way (jl Y) (Y.e3.getD L 0) Mg)
def alt h:acK h (gi h) (vl h) (cT h) (ip h):=by
 have e:=Gp h _ 0 _ als;let⟨u,r,a⟩:=e.G _ _ ⟨λ_ _=>rfl,λ_ _=>rfl⟩;have s:=by funext m o;exact propext<|(r m o).trans ⟨λi=>i.elim (absurd · (Xi m o)) id,.inr⟩
 cases e.v6;have t:tW.ai.length=0:=rfl;rw[<-s,t] at a;have l:=e.ok.ek;have:=e.ok.eF;refine⟨e.ok,e.B1,h3 Cl e.ext.ag,e.gs.symm,?_,λg=>?_,a.wt.symm,λj c g=>?_,λj c=>?_⟩;simp_all;constructor;intro i;have:=(a.qv g i).2;exact⟨b,(a.wf g (c1 _) this).2 i⟩;rintro⟨q,k⟩;exact(a.wf g (c1 _) b).1 k;rw[l] at c;constructor;intro i;by_cases p:g<(gi h).ai.length;exact⟨b,(a.rR j g (c1 _) c (c1 _) p).2 ⟨c1 _,c,i⟩⟩;have:=(a.mI j g ⟨c1 _,c,i⟩).2.2;trivial;rintro⟨q,k⟩;exact((a.rR j g (c1 _) c (c1 _) b).1 k).2.2;rw[l] at c;exact(a.wl j (c1 _) c).symm
def M1{a z:List Nat}(c:hB a)(e:hB z)(w:∀b,b∈a↔b∈z):a=z:=M0 c e w
def ap4:∀b,(∀D∈b,0<=D.1/\D.1<=D.2/\D.2<=255)->∀a<256,(ie b).getD a false=hq b a:=by
 intro b h a g;have:∀b(O:au),(∀D∈b,0<=D.1/\D.1<=D.2/\D.2<=255)->O.length=256->(b.foldl (λ(c:au) D=>c.add D.1.toNat D.2.toNat) O).getD a false=(O.getD a false||hq b a):=by
  intro b
  induction b
  simp[hq]
  next D b j=>
   intro O w i;cases w D af;rw[Kn,j _ (λD k=>w D aM) (by show(List.mapIdx _ O).length=256;rw[List.length_mapIdx];exact i)];let e:(O.add D.1.toNat D.2.toNat).getD a false=(O.getD a false||decide (D.1<=a)&&decide (a<=D.2)):=by
    rw[cg,cg];show(List.mapIdx _ O)[a]?.getD _=_;rw[Qi,bw _];show(O[a]||_)=(O[a]||_);congr 2;simp
    (simp;omega)
   rw[e,show hq (D::b) a=(decide _&&decide _||hq b a) from rfl,Bool.or_assoc]
 rw[ie,this b _ h ax];have:bP.getD a false=false:=by unfold bP;rw[cg,wq,ab g];rfl
 simp_all
def eG(b:aC)(a:Nat):List UInt8:=b.ai.map λO=>if hq O (a:Int) then 1 else 0
def ajh{a:aC}{c:Nat}(w:eG a U=eG a c)b:hq (a.ai.getD b []) U=hq (a.ai.getD b []) c:=by
 unfold eG at w;rw[cg];cases g:a.ai[b]?;rfl
 next O=>
  let e:(a.ai.map λO=>if hq O U then(1:UInt8) else 0)[b]?=(a.ai.map λO=>if hq O c then 1 else 0)[b]?:=by rw[w]
  grind
def VH{a:aC}{c:Nat}(w:eG a U=eG a c)b:nv a.ai b U=nv a.ai b c:=Qe λe _=>ajh w e
def cf(a:aC):List Nat:=eV (eG a) 256
def jo(a:aC):List Nat:=(List.range 256).map<|ix<|eG a
theorem LQ{a:aC}:U<256->(jo a).getD U 0=ix (eG a) U:=by grind[jo,List.getElem?_range]
def Df a:(cf a).length<=256:=by simp[cf,AY]
theorem AX{a:aC}(b:U∈cf a):U<256:=by exact Dg _ 256 U b
def Sr{a:aC}(b:U<256):(jo a).getD U 0<(cf a).length:=by rw[LQ b,cf];exact afw _ b
def afb{a:aC}:U<(cf a).length->(jo a).getD ((cf a).getD U 0) 0=U:=by grind[LQ,AX,bZ,cf,afx]
def Gv a:(jo a).length=256:=ax
def zR(a:aC)(b:Nat):List Nat:=(List.range a.ai.length).filter λc=>hq (a.ai.getD c []) (b:Int)
def alZ{b:aC}{a:List Nat}(h:∀g∈a,g<b.ai.length)e c:c∈nv b.ai a e↔c∈a/\c∈zR b e:=by grind[nv,zR]
def dG(a:aC)(O:bf)(c:gz):List gz:=(cf a).map λb=>h6 a O c<|UInt8.ofNat b
def CP a O b(c:U<256):h6 a O b (UInt8.ofNat U)=some (nv a.ai (lD a O b) U):=by rw[h6,rN c]
theorem zI a O:∀b,bH (dG a O) [none] b=b6 a O b
|0=>rfl|b+1=>by
 cases h:(b6 a O b)[b]?;let i:=Qh.1 h;rw[Gm (by rw[zI a O b];exact i),zI a O b];exact(Gm i).symm
 next c=>rw[u7 (by rw[zI a O b];exact h),zI a O b];let l:b6 a O _=g7 _ _:=u7 h;rw[l];let j:e7 _ c=(List.range 256).map _:=gp λe g=>CP a O c<|fq.1 g;let k:dG a O c=(eV _ 256).map _:=gp λe g=>CP a O c<|Dg _ 256 e g;rw[j,k];exact(L5 _ (λe m w=>cW _<|VH w _) _ 256).symm
def ajg{a:aC}:U<256->eG a ((cf a).getD ((jo a).getD U 0) 0)=eG a U:=by grind[LQ,cf,afy]
def PG a O b:(dG a O b).length=(cf a).length:=by rw[dG,aS]
theorem aav{a:aC}{O:bf}{b:gz}{F:Nat}:F<(cf a).length->(dG a O b)[F]?=some (h6 a O b (UInt8.ofNat ((cf a).getD F 0))):=by grind[dG,List.getElem?_eq_getElem]
def aax{a:aC}{O:bf}{c:gz}b{F:Nat}:F<(cf a).length->((dG a O c).map (e_ b)).getD F 0=e_ b (h6 a O c (UInt8.ofNat ((cf a).getD F 0))):=by grind[aav]
def pC(b:aC)(O:bf)(a:List gz):dr:=⟨jo b,cf b,a.map<|oK O,a.map λc=>(dG b O c).map<|e_ a⟩
def S0 a O c:g6 (pC a O c)=kU (h6 a O) (oK O) c:=by unfold g6 pC kU;rw[ez];congr 1;refine gp λe _=>?_;show(List.range 256).map (λg=>((dG a O e).map _).getD ((jo a).getD g 0) 0)=(e7 _ e).map (e_ c);unfold e7;rw[ez];refine gp λg b=>?_;let b:=fq.1 b;let h:(jo a).getD g 0<(cf a).length:=Sr b;rw[aax c h,Function.comp_apply,CP a O e b,CP a O e<|AX<|bZ h,VH<|ajg b]
def S1{b:aC}{O:bf}{a:List gz}(c:U<a.length):(pC b O a).bi.getD U []=(dG b O a[U]).map (e_ a):=by grind[pC,List.getElem?_eq_getElem]
def agm{b:aC}{O:bf}{a:List gz}(w:a.length<=3000)(j:∀k∈a,∀l∈e7 (h6 b O) k,l∈a)(m:0<a.length):(pC b O a).ok:=by let e:(pC b O a).bi.length=a.length:=aS ..;refine⟨Gv b,λi c=>Sr c,λh p=>⟨AX<|bZ p,afb p⟩,Df b,by rw[e];exact aS ..,v,v,λh p=>?_,λh i p c=>?_⟩;rw[e] at p;rw[S1 p,aS,PG];rfl;rw[e] at p⊢;let g:=c;rw[S1 p,aax a g];refine xl<|j _ (fG p) _ ?_;exact b4.2 ⟨_,fq.2<|AX<|bZ g,rfl⟩
def agn{c:aC}{O:bf}{a:List gz}(l:∀r∈a,∃b,nF (h6 c O) none b=r)(m:∀e∈a,∀s∈e7 (h6 c O) e,s∈a)(i:kp a)(p:a.Nodup):∀e<(pC c O a).bi.length,∃b,nF (gj (g6 (pC c O a))) 0 b=e:=by
 intro e k;let o:(pC c O a).bi.length=a.length:=aS ..;rw[o] at k;rw[S0];let⟨b,q⟩:=l _<|fG k;have:=(Lp (acc:=oK O) m b (by rw[i];exact ji ..)).1;rw[q] at this;change nF _ (e_ a _) b=e_ a _ at this;let t:=by
  let j:0<a.length:=v;let g:a[0]?=some none:=by rw[i];rfl
  rw[bw j] at g;let h:=zd p j;rw[lN g] at h;exact h
 grind[zd]
def aqU c O e:∀a∈b6 c O e,∃b,nF (h6 c O) none b=a:=qi (λa h=>⟨[],(cV.1 h).symm⟩) (λa ⟨b,j⟩ k i=>by obtain⟨g,_,rfl⟩:=b4.1 i;exact⟨b++[UInt8.ofNat g],by grind[nF]⟩) e
