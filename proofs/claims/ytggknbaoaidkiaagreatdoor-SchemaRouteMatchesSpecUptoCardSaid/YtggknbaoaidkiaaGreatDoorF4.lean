import Derived.Test.YtggknbaoaidkiaaGreatDoorF3
set_option linter.all false
set_option maxHeartbeats 8000000
set_option maxRecDepth 100000
open Go.Proofs Go.Proofs.Tryz
open Go.Proofs.Tryz renaming prog->a4
namespace Go.ey
variable{ops:Array Oper}{t:Code}{s:a2}{e:Exit->am->Prop}{m:List (Nat×V)}{o:Nat}{P:Oper}{T:Program}{O:am}{z:bV}
variable{I:Nat}
section
attribute [local irreducible] cJ
def lr(b:List (List Nat))(a:List Bool)(c:List (List Nat)):V:=.agg [.f 32 (b.map b5),.f 1<|a.map aW,.f 32<|c.map b5]
def agJ{a:List (List Nat)}:I<a.length->(a.map b5)[I]?=some (b5 (a.getD I [])):=by simp_all
def ad5{a:List Bool}:I<a.length->(a.map aW)[I]?=some (aW (a.getD I false)):=by simp_all
def ank a{F:Nat}(w:F<32):oo (b5 a).cells F 1 false=some (.int .u64 ((cJ a F:Nat))):=by unfold oo;rw[G1 a w];rfl
def aq3{c:List (List Nat)}{a:List Bool}{j:List (List Nat)}{e:List Nat}{h:Bool}(k:I<c.length)(l:I<a.length):cK 275 [q I,g 6000,g 6001,g 6002] [(6000,.cell 253 (b5 e)),(6001,.cell 248 (g 6003)),(6002,.cell 4 (aW h)),(6003,.cell 251 (lr c a j))] (.tuple []) [(6000,.cell 253 (b5 (c0 e (c.getD I [])))),(6001,.cell 248 (g 6003)),(6002,.cell 4 (aW (h||a.getD I false))),(6003,.cell 251 (lr c a j))]:=by refine cX func275 [] λr s m=>?_;refine aJ I (b5<|c.getD I []) ?_ (p:=b);refine bk [(6000,6000)] ?_ (i:=anp);apply cs;refineλo=>gZ I (aW<|a.getD I false) ?_ (p:=b);exact rfl;exact cH
end
section
attribute [local irreducible] cJ
def adn{b:List (List Nat)}{a:List Nat}(w:I<a.length):kT b (a.take (I+1))=c0 (kT b (a.take I)) (b.getD (a.getD I 0) []):=Ri w
def adK{a:List Nat}{b:Nat->Bool}(w:I<a.length):(a.take (I+1)).any b=((a.take I).any b||b (a.getD I 0)):=RA w
structure jF(gP:List Nat)(F H:Nat):Prop where
 p:H<=gP.length
 mM:∀A∈gP.drop H,64*F<=A
 up:∀A∈gP.take H,A<64*(F+1)
theorem jF.start a:jF a 0 0:=⟨c1 _,λb _=>v,λb w=>bB⟩
theorem GQ{a:List Nat}:I<a.length->a.drop I=a.getD I 0::a.drop (I+1):=by simp_all
theorem jF.inc{a:List Nat}(b:ef a)c:hB (a.drop c):=b.1.sublist aM
def jF.ne{a:List Nat}{F:Nat}:jF a F I->cJ (a.drop I) F≠0->I<a.length:=by grind[List.drop_eq_nil_of_le,PW,absurd]
def jF.first{a:List Nat}{F:Nat}(b:ef a)(w:jF a F I)(c:cJ (a.drop I) F≠0):a.getD I 0/64=F:=by let e:=GQ<|w.ne c;let g:=jF.inc b I;let h:=w.mM;grind[asy]
theorem jF.low{a:List Nat}{F:Nat}(c:ef a)(w:jF a F I)(b:cJ (a.drop I) F≠0):pq (cJ (a.drop I) F) (a.getD I 0%64)/\cJ (a.drop I) F&&&cJ (a.drop I) F-1=cJ (a.drop (I+1)) F:=by let g:=w.first c b;let e:=GQ<|w.ne b;grind[jF.inc,abo,asx]
theorem jF.one{a:List Nat}{F:Nat}(i:ef a)(w:jF a F I)(h:cJ (a.drop I) F≠0):jF a F (I+1):=by
 have g:=w.ne h;have:=w.first i h;refine⟨g,λc b=>w.mM c ?_,λc b=>?_⟩;grind[GQ,List.mem_cons_of_mem];rw[oy (M:=0) g] at b;rcases ee.1 b with e|e;exact w.up c e
 (simp_all;omega)
def jF.next{a:List Nat}{F:Nat}(w:jF a F I)(b:cJ (a.drop I) F=0):jF a (F+1) I:=⟨w.p,asB w.mM b,λe c=>by have:=w.up e c;omega⟩
def jF.head{b:List Nat}{F:Nat}(w:jF b F I)(e:∀c∈b.take I,c<64*F):cJ b F=cJ (b.drop I) F:=abn λc g=>by constructor;intro a;rw[<-Ch I b] at a;rcases ee.1 a with a|a;have:=e c a;omega;exact a;exactλa=>(List.drop_sublist I b).subset a
def jF.fin{a:List Nat}(c:ef a)(w:jF a 32 I):I=a.length:=by refine Fz w.p<|KH λt=>?_;let e:=w.mM (a.getD I 0) (by grind[GQ,List.mem_cons_self]);let g:=c.2 (a.getD I 0) b;omega
def afv{a:Nat}(e:0<I)(w:I<2^64)(c:I&&&I-1=a):lV .and .u64 I (IntKind.u64.wrap (I-1))=a:=by
 let b:IntKind.u64.wrap (I-1)=(I-1):=by rw[J9];omega
 grind[Lt,E1]
def B8(a:Int):Nat->Int|0=>a|b+1=>lV .and .u64 (B8 a b)<|IntKind.u64.wrap<|B8 a b-1
def agK{l:List (List Nat)}{k:List Bool}{x:List (List Nat)}{a:List Nat}(u:ef a){r:List V}(M:r[I]?=some (b5 a))(H:∀e∈a,e<l.length)(J:∀e∈a,e<k.length):cK 274 [.cU 6004 I 0,.func (.func 275) [] [g 6000,g 6001,g 6002]] [(6004,.n 32 253 r),(6000,.cell 253 (b5 [])),(6001,.cell 248 (g 6003)),(6002,.cell 4 (aW false)),(6003,.cell 251 (lr l k x))] (.tuple []) [(6004,.n 32 253 r),(6000,.cell 253 (b5 (kT l a))),(6001,.cell 248 (g 6003)),(6002,.cell 4 (aW (a.any λe=>k.getD e false))),(6003,.cell 251 (lr l k x))]:=by
 refine cX func274 [] λT s P=>?_;refine cQ (Nat×Nat) (λh=>⟨[(1,.func (.func 275) [] [g 6000,g 6001,g 6002]),(6,.cU 6004 I 0),(7,q h.1)],[(6004,.n 32 253 r),(6000,.cell 253<|b5<|kT l<|a.take h.2),(6001,.cell 248<|g 6003),(6002,.cell 4<|aW<|(a.take h.2).any λe=>k.getD e false),(6003,.cell 251<|lr l k x)],[]⟩) (λh=>h.1<=32/\jF a h.1 h.2/\∀e∈a.take h.2,e<64*h.1) (λh=>32-h.1) (0,0) (λ⟨F,c⟩ ⟨R,y,N⟩=>?_) ⟨v,jF.start a,λe w=>bB⟩;apply j<;>intro Q
 .let L:F<32:=v;let B:=ank a L;rw[y.head N] at B;refine c7<|ala ?_ (ii:=by show F=0+F*1;omega);refine ft (D:=.int .u64<|(cJ (a.drop c) F:Nat)) (b5 a) ?_ (p:=M) (aR:=B);refine cQ Nat (λb=>⟨[(1,.func (.func 275) [] [g 6000,g 6001,g 6002]),(4,q F),(5,.int .u64<|B8 ((cJ (a.drop c) F:Nat)) b),(6,.cU 6004 I 0),(7,q F)],[(6004,.n 32 253 r),(6000,.cell 253<|b5<|kT l<|a.take<|c+b),(6001,.cell 248<|g 6003),(6002,.cell 4<|aW<|(a.take<|c+b).any λe=>k.getD e false),(6003,.cell 251<|lr l k x)],[]⟩) (λb=>jF a F (c+b)/\B8 ((cJ (a.drop c) F:Nat)) b=((cJ (a.drop<|c+b) F:Nat))) (λb=>a.length-(c+b)) 0 (λb ⟨o,E⟩=>?_) ⟨y,rfl⟩;apply j<;>intro K
  .let m:cJ (a.drop<|c+b) F≠0:=λt=>K v;let z:=o.ne m;let A:=o.low u m;let S:=o.first u m;let G:a.getD (c+b) 0∈a:=bZ z;let O:B8 ((cJ (a.drop c) F:Nat)) (b+1)=((cJ (a.drop<|c+(b+1)) F:Nat)):=by rw[B8,E];exact afv (Qv m) zS A.2
   let C:=arV zS A.1;rw[<-E] at C;apply xC<|(64*F:Nat);refine az ?_ (i:=C);apply dK<|(a.getD (c+b) 0:Nat);refine bk [(6000,6000),(6001,6001),(6002,6002),(6003,6003)] ?_ (i:=aq3 (H _ G)<|J _ G);rw[<-adn z,<-adK z];exact aB (b+1) ⟨o.one u m,O⟩ v
  let m:cJ (a.drop<|c+b) F=0:=v;refine aL ?_;exact aB (F+1,c+b) ⟨v,o.next m,o.up⟩ v
 obtain rfl:F=32:=v;obtain rfl:=y.fin u;rw[gq];exact cH
end
section
attribute [local irreducible] cJ
def asO b(e:List Bool)k a(m:ef a)h j(o:h[j]?=some (b5 a))(l:∀c∈a,c<b.length)(dX:∀c∈a,c<e.length):cK 226 [g 6003,.cU 6004 j 0] [(6004,.n 32 253 h),(6003,.cell 251 (lr b e k))] (.tuple [b5 (kT b a),aW (a.any λc=>e.getD c false)]) [(6004,.n 32 253 h),(6003,.cell 251 (lr b e k))]:=by refine cX func226 [] λq s p=>?_;refine jS (b5 []) ?_ (dA:=bL);refine bk [(6004,6004),(6000,4),(6001,2),(6002,5),(6003,6003)] (i:=agK m o l dX)<|dC ?_;refine a_ (λ_=>fb rfl (av:=qr))<|zW (b5<|kT b a) ?_ n4 (dX:=n4);refine asR<|fm ?_;exact pD aZ<|.ln rfl rfl rfl rfl rfl qr n4<|.cell rfl rfl rfl rfl rfl .nil
end
def Ka:bG a4 3 (.int .i64) 1 8:=⟨af,bL⟩
def x7:h4 a4 3 (.int .i64 0):=⟨bL,aj⟩
def rT:fi a4 3 1 8:=⟨bL⟩
def jh:bG a4 64 (.slice 3) 1 24:=⟨af,bL⟩
def uD:fi a4 64 1 24:=⟨bL⟩
def lG:bG a4 129 (.slice 64) 1 24:=⟨af,bL⟩
def J6:q8 a4 246 0 0 129 1:=⟨bL⟩
def dP.e1{T:Program}{s:a2}{P:Oper}{g:aw}{e c:V}{a b:bd}(w:dP T s P g e a)(h:e=c)(i:a=b):dP T s P g c b:=h▸i▸w
def ast(k m h i c b H e j:Nat)(r t M:V)(g:List V)(a:List Nat)(B:j=g.length)(p:g[H]?=some (.a7 c b 0 a.length))(A:a.length<=10000000):ff a4 fZ 221 [.own k m 0 0,.int .i64 (H:Nat),.int .i64 (e:Nat)] [(k,.n m 4 246 [.agg [.a7 h i 0 j,r,t,M]]),(h,.n i 1 64 g),(c,.n b 1 3 (a.map q))] (λD P=>D=.tuple []/\P=[(k,.n m 4 246 [.agg [.a7 h i 0 j,r,t,M]]),(h,.n i 1 64<|g.set H<|.a7 c (b+1) 0 (a++[e]).length),(c,.n (b+1) 1 3<|(a++[e]).map q)]):=by let z:H<g.length:=(dm.1 p).1;refine ff.XH (t:=_) ⟨func221,ax,rfl⟩ (Y:=22) rfl af rfl λs y u=>?_;refine CV [([],[]),([0],[]),([0],[]),([0],[]),([],[]),([],[]),([0],[]),([0],[]),([0],[]),([],[]),([1],[]),([1],[]),([],[]),([],[]),([],[2]),([1],[]),([],[1])] eW u ?_;refine bp.cw [] (λl w=>hX) ?_;refine bp.cw [0] (λl w=>BI (hk:=(w 0 aj).trans rfl)) ?_;refine bp.cw [0] (λl w=>BD J6 (hk:=(w 0 aj).trans rfl)) ?_;refine bp.cw [0] (λl w=>nz 0 lG (hk:=(w 0 aj).trans rfl)) ?_;refine bp.cw [] (λl w=>hX) ?_;refine bp.cw [] (λl w=>hX) ?_;refine bp.cw [0] (λl w=>BI (hk:=(w 0 aj).trans rfl)) ?_;refine bp.cw [0] (λl w=>BD J6 (hk:=(w 0 aj).trans rfl)) ?_;refine bp.cw [0] (λl w=>nz 0 lG (hk:=(w 0 aj).trans rfl)) ?_;refine bp.cw [] (λl w=>hX) ?_;refine bp.cw [1] (λl w=>pT 1 (H:=H) lG uD (hk:=(w 1 aj).trans rfl)) ?_;refine bp.cw [1] (λl w=>nz 1 (el:=.a7 c b 0 a.length) jh (hk:=(w 1 aj).trans rfl) (p:=aK)) ?_;refine bp.cw [] (λl w=>hX) ?_;refine bp.cw [] (λl w=>IR jh rT x7) ?_;refine bp.up [] 2 (c,.n (b+1) 1 3<|(a++[e]).map q) (D:=.a7 c (b+1) 0 (a++[e]).length) (λl w=>?_) ?_;refine dP.e1 (TC (len:=a.length) (off:=0) (fV:=a.map q) (j9:=[q e]) (o:=1) jh rT x7 (hk:=(w 2 aj).trans rfl) (fC:=JK (n:=[q e]) jh (h9:=λM a6=>by rw[cV.1 a6];rfl)) (zb:=v)) ?_ ?_;simp;simp[uI,q1,aS,a1,cD];refine bp.cw [1] (λl w=>pT 1 (H:=H) lG uD (hk:=(w 1 aj).trans rfl)) ?_;refine bp.up [] 1 (h,.n i 1 64<|g.set H<|.a7 c (b+1) 0 (a++[e]).length) (D:=.undef) (λl w=>?_) ?_;refine dP.e1 (C4 1 (H:=0+H) (t:=0) (fV:=g) (el:=.a7 c b 0 a.length) jh (hk:=(w 1 aj).trans rfl) (p:=aK)) rfl ?_;exact cW (λx=>l.set 1 (h,bM.n i 1 64<|g.set x<|.a7 c (b+1) 0 (a++[e]).length))<|kk H;refine bp.nil (?_:ey.FX _ _ _ _);exact TY (aI:=⟨rfl,rfl⟩)
def asr(i j c e H g h:Nat)(k t M:V)(a:List V)(y:h=a.length)(p:a[H]?=some .aQ):ff a4 fZ 221 [.own i j 0 0,.int .i64 (H:Nat),.int .i64 (g:Nat)] [(i,.n j 4 246 [.agg [.a7 c e 0 h,k,t,M]]),(c,.n e 1 64 a)] (λD P=>D=.tuple []/\∃b,P=[(i,.n j 4 246 [.agg [.a7 c e 0 h,k,t,M]]),(c,.n e 1 64<|a.set H<|.a7 b 1 0 1),(b,.n 1 1 3 [q g])]):=by let x:H<a.length:=(dm.1 p).1;refine ff.XH (t:=_) ⟨func221,ax,rfl⟩ (Y:=22) rfl af rfl λs u m=>?_;refine dE.vY 1 λb=>?_;refine CV [([],[]),([0],[]),([0],[]),([0],[]),([],[]),([],[]),([0],[]),([0],[]),([0],[]),([],[]),([1],[]),([1],[]),([],[]),([],[]),([],[2]),([1],[]),([],[1])] eW m ?_;refine bp.cw [] (λl w=>hX) ?_;refine bp.cw [0] (λl w=>BI (hk:=(w 0 aj).trans rfl)) ?_;refine bp.cw [0] (λl w=>BD J6 (hk:=(w 0 aj).trans rfl)) ?_;refine bp.cw [0] (λl w=>nz 0 lG (hk:=(w 0 aj).trans rfl)) ?_;refine bp.cw [] (λl w=>hX) ?_;refine bp.cw [] (λl w=>hX) ?_;refine bp.cw [0] (λl w=>BI (hk:=(w 0 aj).trans rfl)) ?_;refine bp.cw [0] (λl w=>BD J6 (hk:=(w 0 aj).trans rfl)) ?_;refine bp.cw [0] (λl w=>nz 0 lG (hk:=(w 0 aj).trans rfl)) ?_;refine bp.cw [] (λl w=>hX) ?_;refine bp.cw [1] (λl w=>pT 1 (H:=H) lG uD (hk:=(w 1 aj).trans rfl)) ?_;refine bp.cw [1] (λl w=>nz 1 (el:=.aQ) jh (hk:=(w 1 aj).trans rfl) (p:=aK)) ?_;refine bp.cw [] (λl w=>hX) ?_;refine bp.cw [] (λl w=>IR jh rT x7) ?_;refine bp.up [] 2 (b,.n 1 1 3 [q g]) (D:=.a7 b 1 0 1) (λl w=>?_) ?_;exact dP.e1 (TB (j9:=[q g]) (o:=1) jh rT x7 (hk:=(w 2 aj).trans rfl) (fC:=JK (n:=[q g]) jh (h9:=λM a6=>by rw[cV.1 a6];rfl)) (zb:=v)) rfl rfl;refine bp.cw [1] (λl w=>pT 1 (H:=H) lG uD (hk:=(w 1 aj).trans rfl)) ?_;refine bp.up [] 1 (c,.n e 1 64<|a.set H<|.a7 b 1 0 1) (D:=.undef) (λl w=>?_) ?_;refine dP.e1 (C4 1 (H:=0+H) (t:=0) (fV:=a) (el:=.aQ) jh (hk:=(w 1 aj).trans rfl) (p:=aK)) rfl ?_;exact cW (λr=>l.set 1 (c,bM.n e 1 64<|a.set r<|.a7 b 1 0 1))<|kk H;refine bp.nil (?_:ey.FX _ _ _ _);exact TY (aI:=⟨rfl,b,rfl⟩)
def ic(b:bn)(a O:Nat)(c:TypeId)(e:List V):Nat×bM:=((b a).1,.n (b a).2 O c e)
def X6(b:bn)(a:Nat)(c:List (V×V×Nat))(t:Nat):Nat×bM:=((b a).1,.map (b a).2 c t)
def IH(b:bn)(a:Nat):V:=.own (b a).1 (b a).2 0 0
def zq(b:bn)(a c:Nat):V:=.a7 (b a).1 (b a).2 0 c
structure cy where
 id:Nat
 al:Nat
 l:List Nat
instance:Inhabited cy:=⟨⟨0,0,[]⟩⟩
def ep(a:cy):V:=if a.l=[] then .aQ else .a7 a.id a.al 0 a.l.length
def oj(a:cy):bd:=if a.l=[] then[] else[(a.id,.n a.al 1 3<|a.l.map q)]
def bU(a:List cy):bd:=a.flatMap oj
def cZ(a:List cy):List (List Nat):=a.map cy.l
theorem DR a b:bU (a++b)=bU a++bU b:=Qg
theorem Ii b a:bU (b::a)=oj b++bU a:=Ft
theorem PO{b:Type}{a:List b}(w:I<a.length):a=a.take I++a[I]::a.drop (I+1):=by simp
def Pr{c:Type}{a:List c}(w:I<a.length)b:a.set I b=a.take I++b::a.drop (I+1):=by rw[ab6,ab w]
def DT(a b c e:Nat):V:=.agg [.d 5000 0 a,.d 5001 0 b,.d 5002 0 c,.d 5003 0 e]
def xE(a:List cy)(c b:List V)(e:List V):bb:=[(6000,.cell 246<|DT a.length c.length b.length e.length),(5000,.n 1 64<|a.map ep),(5001,.n 1 3 c),(5002,.n 1 3 b),(5003,.n 256 262 e)]
def ass a k j m c h(t:c<a.length)(G:∀i∈a,i.l.length<=10000000):kO a4 fZ 221 [g 6000,q c,q h] (bU a) (xE a k j m) (cZ ·=(cZ a).set c ((cZ a).getD c []++[h])) (λ_=>.tuple []) bU (xE · k j m):=by
 intro e;let J:∀{o:List cy},cZ o=(cZ a).set c ((cZ a).getD c []++[h])->o.length=a.length:=λ{o} w=>by grind[List.length_set,cZ,List.length_map]
 let I:(cZ a).getD c []=a[c].l:=by rw[cg,cZ,ch,bw t];rfl
 let D:∀p,p.l=a[c].l++[h]->cZ (a.set c p)=(cZ a).set c ((cZ a).getD c []++[h]):=λp x=>by grind[cZ,List.map_set]
 let K:(a.map ep)[c]?=some (ep a[c]):=by rw[ch,bw t];rfl
 let F:bU a=bU (a.take c)++(oj a[c]++bU (a.drop<|c+1)):=by rw[<-Ii,<-DR,<-PO t]
 let B:∀p,bU (a.set c p)=bU (a.take c)++(oj p++bU (a.drop<|c+1)):=λp=>by rw[Pr t,DR,Ii]
 let aH:bd:=[((e 5001).1,.n (e 5001).2 1 3 k),((e 5002).1,.n (e 5002).2 1 3 j),((e 5003).1,.n (e 5003).2 256 262 m)];let r:=bU<|a.take c;let s:=bU<|a.drop<|c+1;let y:∀o,ar e (xE o k j m)=[((e 6000).1,.n (e 6000).2 4 246 [.agg [.a7 (e 5000).1 (e 5000).2 0 o.length,.a7 (e 5001).1 (e 5001).2 0 k.length,.a7 (e 5002).1 (e 5002).2 0 j.length,.a7 (e 5003).1 (e 5003).2 0 m.length]]),((e 5000).1,.n (e 5000).2 1 64<|o.map ep)]++aH:=λo=>rfl;by_cases u:a[c].l=[];let E:ep a[c]=.aQ:=ab u;let A:oj a[c]=[]:=ab u;apply ff.frame (asr (e 6000).1 (e 6000).2 (e 5000).1 (e 5000).2 c h a.length (.a7 (e 5001).1 (e 5001).2 0 k.length) (.a7 (e 5002).1 (e 5002).2 0 j.length) (.a7 (e 5003).1 (e 5003).2 0 m.length) (a.map ep) af b)<|r++(s++aH);rw[y,F,A];refine pS λz=>?_;simp[Cd,Fs,Kl,r,s];omega;rintro H P ⟨rfl,i,rfl⟩;let x:cZ (a.set c ⟨i,1,[h]⟩)=_:=D ⟨i,1,[h]⟩ b;refine⟨bU (a.set c ⟨i,1,[h]⟩)++ar e (xE (a.set c ⟨i,1,[h]⟩) k j m),?_,_,e,x,cd.refl _ e,rfl,rfl⟩;rw[y,B,lL,gN,show oj ⟨i,1,[h]⟩=[(i,.n 1 1 3 [q h])] from rfl,show ep ⟨i,1,[h]⟩=.a7 i 1 0 1 from rfl];refine pS λz=>?_;simp[Cd,Fs,Kl,r,s];omega;let E:ep a[c]=.a7 a[c].id a[c].al 0 a[c].l.length:=aa u;let A:oj a[c]=[(a[c].id,.n a[c].al 1 3<|a[c].l.map q)]:=aa u;apply ff.frame (ast (e 6000).1 (e 6000).2 (e 5000).1 (e 5000).2 a[c].id a[c].al c h a.length (.a7 (e 5001).1 (e 5001).2 0 k.length) (.a7 (e 5002).1 (e 5002).2 0 j.length) (.a7 (e 5003).1 (e 5003).2 0 m.length) (a.map ep) a[c].l af b<|G _<|fG t)<|r++(s++aH);grind[pS];rintro H P ⟨rfl,rfl⟩;let x:cZ (a.set c ⟨a[c].id,a[c].al+1,a[c].l++[h]⟩)=_:=D ⟨a[c].id,a[c].al+1,a[c].l++[h]⟩ rfl;let C:¬a[c].l++[h]=[]:=af;refine⟨bU (a.set c ⟨a[c].id,a[c].al+1,a[c].l++[h]⟩)++ar e (xE (a.set c ⟨a[c].id,a[c].al+1,a[c].l++[h]⟩) k j m),?_,_,e,x,cd.refl _ e,rfl,rfl⟩;rw[y,B,lL,gN,show oj ⟨a[c].id,a[c].al+1,a[c].l++[h]⟩=[(a[c].id,.n (a[c].al+1) 1 3 ((a[c].l++[h]).map q))] from aa C,show ep ⟨a[c].id,a[c].al+1,a[c].l++[h]⟩=.a7 a[c].id (a[c].al+1) 0 (a[c].l++[h]).length from aa C];refine pS λz=>?_;simp[Cd,Fs,Kl,r,s];omega
def ai4 a b c e(bq:a.length<=10000000)(i:b.length<=10000000):cK 163 [g 6000] [(6000,.cell 246 (DT a.length b.length c.length e.length)),(5000,.n 1 64 a),(5001,.n 1 3 b),(5002,.n 1 3 c),(5003,.n 256 262 e)] (q a.length) [(6000,.cell 246 (DT (a++[V.aQ]).length (b++[V.int .i64 (-1)]).length c.length e.length)),(5000,.n 1 64 (a++[V.aQ])),(5001,.n 1 3 (b++[V.int .i64 (-1)])),(5002,.n 1 3 c),(5003,.n 256 262 e)]:=by refine cX func163 [] λj s h=>?_;refine dv ?_;refine eR _ ?_ (bq:=aK);refine dv ?_;refine eR _ ?_ (bq:=aK);exact ia _ (w:=af)<|cH
def Yi:∀a,dx a->aA 162 [bY a] (q (cr a)):=by
 refine ao.ind λa x he=>?_;let⟨⟨⟨M,N⟩,O,G,P,Q,R⟩,u⟩:=nw.1 he;let K:=LW a.aq;rw[tz];refine ff.of_wp (z:=gT) (o:=5000) [29] (λ_=>(0,0)) ⟨[(0,bY a)],[],[]⟩ eW aZ gE ⟨func162,ax,rfl⟩ rfl rfl rfl rfl λs B av=>?_;let J:j2 a4 gT s fZ _ [29]:=⟨eW,aZ,B,gE,av⟩;apply j<;>intro h
 .exact ae (w:=by rw[lY,ab h];rfl)
 apply j<;>intro k
 .let⟨H,S,T,U⟩:=G k;let m:0<a.aq.length:=v;let y:=LV<|a.aq.getD 0 default;let F:dl a.aq=cr (a.aq.getD 0 default):=by rw[A8 H,dl,dl];rfl
  refine gK Int (λt=>⟨[(1,g 1),(4,.int .i64 t)],[(1,.cell 126<|bY a)],[]⟩) (·=(if a.max=-1 then a.min+1 else a.max)) ?_ λt D=>?_
  .apply j<;>intro r
   .refine aL ?_;exact c3 (a.min+1) (ab r).symm
   exact c3 a.max (aa r).symm
  let E:t.toNat=(if a.max=-1 then(a.min+1).toNat else a.max.toNat):=by rw[D];split<;>rfl
  let L:cr (a.aq.getD 0 default)*t.toNat<=2001*51:=yj y v;let l:min ((cr (a.aq.getD 0 default)*t.toNat):Int) 2001=((lY a:Nat)):=by rw[lY,aa h,ab k,F,<-E];exact(show∀c:Nat,min (c:Int) 2001=((min c 2001:Nat)) by omega) _
  refine aJ 0 (bY<|a.aq.getD 0 default) ?_ (p:=jr m) (av:=ax);refine az ?_ (i:=x _ (bZ m)<|u _<|bZ m);refine xC ((cr (a.aq.getD 0 default)*t.toNat:Nat)) ?_ (w:=aM);refine zn ((lY a:Nat)) ?_ (w:=l);exact ae
 refine dL a.aq.length (λb=>⟨[(3,q<|dl<|a.aq.take b),(10,.f 5<|fy a.aq),(11,q (fy a.aq).length),(12,q b)],[],[]⟩) λb p=>?_;apply j<;>intro C
 .let e:b<a.aq.length:=by rw[gA] at C;omega
  let I:=SG e;let A:=LW<|a.aq.take<|b+1;rw[m7] at A;refine aJ b (bY<|a.aq.getD b default) ?_ (p:=jr e);refine az ?_ (i:=x _ (bZ e)<|u _<|bZ e);refine dK ((dl (a.aq.take<|b+1):Nat)) ?_ (w:=v);refine aL ?_;exact aB<|b+1
 obtain rfl:b=a.aq.length:=by grind[gA]
 rw[gq];let l:min ((dl a.aq):Int) 2001=((lY a:Nat)):=by rw[lY,aa h,aa k];exact(show∀c:Nat,min (c:Int) 2001=((min c 2001:Nat)) by omega) _
 refine zn ((lY a:Nat)) ?_ (w:=l);exact ae
def anf:∀a,dx a->aA 220 [bY a] (.bool (lW a)):=by
 refine ao.ind λa r he=>?_;let⟨⟨⟨E,F⟩,G,x,H,I,J⟩,l⟩:=nw.1 he;rw[R0];refine ff.of_wp (z:=gT) (o:=5000) [] (λ_=>(0,0)) ⟨[(0,bY a)],[],[]⟩ eW aZ gE ⟨func220,ax,rfl⟩ rfl rfl rfl rfl λs y av=>?_;let A:j2 a4 gT s fZ _ []:=⟨eW,aZ,y,gE,av⟩;apply j<;>intro e
 .exact ae (w:=by rw[oN,ab e];rfl)
 apply j<;>intro g
 .refine eH a.aq.length (λb=>sc a.aq=sc (a.aq.drop b)) (λb=>⟨[(14,.f 5<|fy a.aq),(15,q (fy a.aq).length),(16,q b)],[],[]⟩) (λb p=>?_) rfl;apply j<;>intro t
  .let c:b<a.aq.length:=by rw[gA] at t;omega
   refine aJ b (bY<|a.aq.getD b default) ?_ (p:=jr c);refine az ?_ (i:=r _ (bZ c)<|l _<|bZ c);apply j<;>intro B
   .exact ae (w:=by rw[oN,aa e,ab g,p.2,sk c,sc,show lW (a.aq.getD b default)=false by simp_all];rfl)
   refine aL ?_;exact aB (b+1) ⟨v,by grind[sk,sc,lW,default]⟩
  exact ae (w:=by rw[gA] at t;rw[oN,aa e,ab g,p.2,iv v];rfl)
 apply j<;>intro h
 .refine eH a.aq.length (λb=>nh a.aq=nh (a.aq.drop b)) (λb=>⟨[(27,.f 5<|fy a.aq),(28,q (fy a.aq).length),(29,q b)],[],[]⟩) (λb p=>?_) rfl;apply j<;>intro u
  .let c:b<a.aq.length:=by rw[gA] at u;omega
   refine aJ b (bY<|a.aq.getD b default) ?_ (p:=jr c);refine az ?_ (i:=r _ (bZ c)<|l _<|bZ c);apply j<;>intro C
   .exact ae (w:=by rw[oN,aa e,aa g,ab h,p.2,sk c,nh,show lW (a.aq.getD b default)=true by omega];rfl)
   refine aL ?_;exact aB (b+1) ⟨v,by grind[sk,nh,lW,default]⟩
  exact ae (w:=by rw[gA] at u;rw[oN,aa e,aa g,ab h,p.2,iv v];rfl)
 apply j<;>intro k
 .let m:0<a.aq.length:=by have:=(x k).1;omega
  apply cs;intro D;refine gZ 0 (bY<|a.aq.getD 0 default) ?_ (p:=jr m) (av:=ax);refine bT ?_ (i:=r _ (bZ m)<|l _<|bZ m);exact rfl;exact ae (w:=by rw[oN,aa e,aa g,aa h,ab k,A8 (x k).1,nh,nh,Bool.or_false];rfl)
 exact ae (w:=by rw[oN,aa e,aa g,aa h,aa k];rfl)
def aO.b8(a:aO):Nat:=a.ag.length+(a.ag.map List.length).sum+a.ai.length+a.e3.length
def r9(a:aO):Prop:=a.eY.length=a.ag.length
theorem xy(a:aO):a.bc.b8=a.b8+1:=by
 unfold aO.b8 aO.bc
 (simp;omega)
theorem aaI:∀(a:List (List Nat)) b c,(a.map List.length).sum<=((a.set b (a.getD b []++[c])).map List.length).sum|[],_,_=>a1 _|e::a,0,c=>by simp|e::a,b+1,c=>by have:=aaI a b c;simp_all
theorem Ia{Y:aO}{E W:Nat}:Y.b8<=(Y.cx E W).b8:=by grind[aO.b8,aO.cx,aaI,List.length_set]
def WN{c:aO}{b:List Nat}(w:b∈c.ag):b.length<=c.b8:=by
 have:∀{a:List _},b∈a->b.length<=(a.map List.length).sum:=λ{a} w=>by
  induction a
  cases w
  next e a g=>grind
 grind[aO.b8]
def V9{Y:aO}:Y.ag.length<=Y.b8:=by grind[aO.b8]
def aqd(a:aO):a.ai.length<=a.b8:=by grind[aO.b8]
def ad_{a:aO}:a.e3.length<=a.b8:=by simp[aO.b8]
structure lQ(Y zm:aO):Prop where
 b8:Y.b8<=zm.b8
 l6:r9 Y->r9 zm
 len:Y.ag.length<=zm.ag.length
theorem lQ.refl a:lQ a a:=⟨a1 _,id,a1 _⟩
theorem lQ.trans{a b t:aO}(w:lQ a b)(F:lQ b t):lQ a t:=⟨cA w.b8 F.b8,λc=>F.l6<|w.l6 c,cA w.len F.len⟩
def l2 a:lQ a a.bc:=⟨by simp[xy],λw=>by grind[r9,aO.bc,List.length_append],by simp[aO.bc,c_]⟩
def np a b c:lQ a (a.cx b c):=⟨Ia,λw=>by grind[r9,aO.cx,List.length_set],by simp[aO.cx,lL,a1]⟩
def UI{Y:aO}{E W:Nat}{O:au}:lQ Y (Y.sN E W O):=⟨(by(simp[aO.b8,aO.sN,c_];omega)),λw=>by grind[r9,aO.sN,List.length_set],a1 _⟩
theorem sz(a:aO):a.bc.ag.length=a.ag.length+1:=by simp[aO.bc,c_]
theorem x6(a:aO)b c:(a.cx b c).ag.length=a.ag.length:=by simp[aO.cx,lL]
def oF(c:aO->Nat->aO×Nat):Prop:=∀a b,lQ a (c a b).1/\(b<a.ag.length->(c a b).2<(c a b).1.ag.length)
def Hq{c:aO->Nat->aO×Nat}(w:oF c):∀F,oF (gl c F)|0,a,b=>⟨lQ.refl a,id⟩|F+1,a,b=>by obtain⟨g,h⟩:=w a b;obtain⟨i,j⟩:=Hq w F _ _;exact⟨g.trans i,λe=>j<|h e⟩
def UH{b:aO->Nat->aO×Nat}(w:oF b){a:aO}:lQ a (uf b a I)/\a.ag.length<(uf b a I).ag.length:=by obtain⟨c,_⟩:=w _ I;exists (((l2 a).trans<|np a.bc I a.ag.length).trans c).trans<|np _ _ _;unfold uf;have:=c.len;grind[x6,sz]
def Hr{a:aO->Nat->aO×Nat}(w:oF a):∀F,oF (dk a F)|0,b,c=>⟨lQ.refl b,id⟩|F+1,b,c=>by obtain⟨e,g⟩:=UH w;obtain⟨h,i⟩:=Hr w F _ _;exact⟨e.trans h,λ_=>i g⟩
def ME{Y:aO}{G:Nat}:lQ Y (jy Y G)/\(jy Y G).ag.length=Y.ag.length+2:=by exists (((l2 Y).trans<|l2 _).trans<|np _ _ _).trans (np _ _ _);simp[jy,x6,sz]
def ahV{b:aO->Nat->aO×Nat}(w:oF b){h i:Int}:oF (nB b h i):=λm j=>by obtain⟨c,l⟩:=Hq w _ m j;unfold nB;split;obtain⟨a,e⟩:=ME;obtain⟨g,_⟩:=w _ _;refine⟨((c.trans a).trans g).trans<|np _ _ _,λ_=>?_⟩;unfold EP;rw[x6];have:=g.len;omega;obtain⟨a,e⟩:=Hr w _ _ _;exact⟨c.trans a,λk=>e<|l k⟩
def MB:∀a,(∀b∈a,oF (e8 b))->oF (jI a)|[],_,e,c=>by simp[jI,lQ.refl,id]|g::a,w,e,c=>by obtain⟨i,j⟩:=w g af e c;obtain⟨k,l⟩:=MB a (λb m=>w b aM) _ _;exact⟨i.trans k,λh=>l<|j h⟩
def Hu:∀e,(∀h∈e,oF (e8 h))->∀b a c,lQ b (j7 e b a c)|[],_,b,a,c=>by simp[j7,lQ.refl]|g::e,w,b,a,c=>by let⟨i,k⟩:=w g af b a;let j:=Hu e (λh l=>w h aM) ((e8 g b a).1.cx (e8 g b a).2 c) a c;exact(i.trans<|np _ _ _).trans j
def Gq(b:ao)(a:aO)(c:Nat):aO×Nat:=if cr b=0 then((if lW b then a.bc.cx c a.ag.length else a.bc),a.ag.length)
 else if b.cc=3 then((a.bc.bc.cx c a.ag.length).sN a.ag.length (a.ag.length+1)<|ie b.set,a.ag.length+1)
 else if b.cc=4 then jI b.aq a c
 else if b.cc=5 then(j7 b.aq a.bc c a.ag.length,a.ag.length)
 else if b.cc=6 then u9 b.aq b.min b.max a c
 else(a.bc.cx c a.ag.length,a.ag.length)
def LD a c b:e8 a c b=Gq a c b:=by cases a;rfl
def xg:∀e,oF (e8 e):=ao.ind λe g a c=>by
 let i:lQ a (a.bc.cx c a.ag.length)/\a.ag.length<(a.bc.cx c a.ag.length).ag.length:=⟨(l2 a).trans<|np _ _ _,by simp[x6,sz]⟩;rw[LD,Gq];split;split;simp_all;simp[l2,sz,uM];split;refine⟨(((l2 a).trans<|l2 _).trans<|np _ _ _).trans UI,λ_=>?_⟩;show a.ag.length+1<(a.bc.bc.cx _ _).ag.length;simp[x6,sz];split;exact MB _ g a c;split;have:=Hu _ g a.bc c a.ag.length;exact⟨(l2 a).trans this,λ_=>by have:=this.len;grind[sz]⟩;split
 match j:e.aq with|[]=>simp[u9,lQ.refl,id]|h::k=>exact ahV (g h b) a c
 simp_all
def bg(O:au):V:=.vec 256 (.gW O) []
theorem fj{O:au}:(bg O).cells.length=O.length:=by show(O.map _++[]).length=_;simp
theorem GU O(w:I<O.length){a:Bool}:(bg O).cells.set I (.bool a)=(bg (O.set I a)).cells:=eu.ap6 w
theorem yW O(w:I<O.length):(bg O).cells[I]?=some (.bool (O.getD I false)):=eu.y_ w
def gt{O:au}(w:O.length=256):(eu.gW O).cells.length=256:=(eu.Nz).trans w
def nl{O:au}(w:O.length=256):(bg O).s1:=gt w
theorem eN:bP.length=256:=s7 ..
def hl:(bg bP).cells.length=256:=(fj).trans eN
def au.lT(O:au)(b t:Nat):au:=O.mapIdx λa c=>c||decide (b<=a)&&decide (a<t)
def ahc{g h:Type}{c e:Nat->g->h}{b:List g}(w:∀a(p:a<b.length),c a b[a]=e a b[a]):b.mapIdx c=b.mapIdx e:=by refine oz af λa i j=>?_;simp_all
theorem au.Lb(O:au)a t:(O.lT a t).length=O.length:=by simp[au.lT]
theorem au.Aq(O:au)a:O.lT a a=O:=by unfold au.lT;refine oz af λe b c=>?_;grind
theorem au.adf(O:au){t:Nat}(w:I<=t):(O.lT I t).set t true=O.lT I (t+1):=by unfold au.lT;refine oz af λc a b=>?_;grind
theorem au.La(O:au)b a:O.lT b (a+1)=O.add b a:=by unfold au.lT au.add<;>grind
theorem au.adi(O:au){a:Nat}(w:a<I):O.add I a=O:=by
 rw[<-au.La];have:O.lT I (a+1)=O.lT I I:=by refine ahc λb _=>?_;congr 1;rw[m4];simp;omega
 grind[au.Aq]
def au.hG(O:au)(c:Nat):au:=O.mapIdx λb a=>if b<c then !a else a
theorem au.Eb(O:au):O.hG 0=O:=by unfold au.hG;refine oz af λc a b=>?_;simp
def au.XY{O:au}(w:O.length<=I):O.hG I=O.others:=by unfold au.hG au.others;refine oz af λc a b=>?_;grind
theorem au.vP(O:au)a:(O.hG a).length=O.length:=by simp[au.hG]
theorem au.amn(O:au)(w:I<O.length):(O.hG I).set I (!O.getD I false)=O.hG (I+1):=by unfold au.hG;refine oz af λc a b=>?_;grind
def au.ky(O e:au)(c:Nat):au:=O.mapIdx λa b=>if a<c then b||e.getD a false else b
def au.M_(O a:au):O.ky a 0=O:=by unfold au.ky;refine oz af λe b c=>?_;simp
theorem au.A5(O b:au)a:(O.ky b a).length=O.length:=by simp[au.ky]
def au.M8(O:au){a:au}(w:O.length<=I)(e:a.length=O.length):O.ky a I=O.join a:=by unfold au.ky au.join;refine oz b λh c g=>?_;grind
theorem au.M9(O a:au):I<O.length->(O.ky a I).getD I false=O.getD I false:=by simp[au.ky,cg,Qi]
theorem au.ai1(O a:au)(w:I<O.length){b:Bool}(g:b=(O.getD I false||a.getD I false)):(O.ky a I).set I b=O.ky a (I+1):=by unfold au.ky;refine oz af λh c e=>?_;grind
def Tp{O:au}{t:Nat}:I<=t->t<O.length->(bg (O.lT I t)).cells.set t (.bool true)=(bg (O.lT I (t+1))).cells:=by grind[GU,au.Lb,au.adf]
def Tq{O:au}(w:I<O.length){a:Bool}:a=O.getD I false->(bg (O.hG I)).cells.set I (.bool !a)=(bg (O.hG (I+1))).cells:=by grind[GU,au.vP,au.amn]
theorem L9{O a:au}(w:I<O.length){b:Bool}:b=(O.getD I false||a.getD I false)->(bg (O.ky a I)).cells.set I (.bool b)=(bg (O.ky a (I+1))).cells:=by grind[GU,au.A5,au.ai1]
theorem au.tp(O:au)b a:(O.add b a).length=O.length:=by simp[au.add]
theorem au.vQ(O:au):O.others.length=O.length:=by simp[au.others]
theorem au.ai3(O a:au):a.length=O.length->(O.join a).length=O.length:=by grind[au.join]
open Go.Shelf Go.Proofs in
def HG(O:List UInt8)(t:UInt8):aA 326 [.str O,bh t] (.int .i64 (Go.Lib.indexByte O t)):=.Ha (.str<|.int .nil) (λb=>.int ..) λa=>by have:=Tryz.strings_IndexByte ⟨O.toArray⟩ t.toNat a;simp_all
def rg(O:au)a b(bo:O.length=256)(k:b<256):cK 222 [g 6000,q a,q b] [(6000,.cell 262 (bg O))] (.tuple []) [(6000,.cell 262 (bg (O.add a b)))]:=by
 refine cX func222 [] λm s h=>?_
 conv in bg O=>rw[<-au.Aq O a]
 refine cQ Nat (λt=>⟨[(0,_),(2,_),(6,q t)],[(6000,.cell 262<|bg _)],[]⟩) (λt=>a<=t/\(t<=b+1\/t=a)) (b+1-·) a (λt e=>?_) (bo:=.r);apply j<;>intro i
 .let l:=au.Lb O a t;apply iF t t;refine pP _ (i2:=KS) (aG:=Tp v v)<|aL ?_;exact aB (t+1) ⟨v,v⟩ (bo:=.r)
 let c:O.lT a t=O.add a b:=by rcases e.2 with w|w;have:t=b+1:=v;grind[au.La];grind[au.Aq,au.adi]
 rw[c];exact cH
def OB(O:au)(bo:O.length=256):aA 321 [bg O] (bg O.others):=by
 refine aX func321 [] λs b=>?_
 conv in bg O=>rw[<-au.Eb O]
 refine jS (bg bP) ?_ (dA:=ax);refine fb (av:=gt (by grind[au.Eb]))<|dL 256 (λa=>⟨[(1,g 1),(2,g 2),(5,_),(6,q a)],[(1,.cell 262<|bg<|O.hG a),(2,_)],[]⟩) (λa p=>?_) .r;apply j<;>intro c
 .refine N_ (D:=.bool<|O.getD a false) (bq:=by grind[au.Eb,eu.y_])<|iF a a ?_ (ii:=by show a=0+a*1;omega);refine pP (bg<|O.hG<|a+1) (i2:=by grind[fj,au.vP]) (aG:=Tq v rfl)<|aL ?_;exact aB (a+1) (bo:=.r)
 refine fb (av:=gt (by grind[au.vP]))<|iG (bg<|O.hG a) ?_ (h1:=by show(bg (O.hG a)).cells.length=256;grind[fj,au.vP]) (dX:=ax);exact AO aZ (.ln rfl rfl rfl rfl rfl (nl (by grind[au.vP])) (by rw[fj,au.vP];exact bo) .nil) (w:=by rw[au.XY v];rfl)
def aee(O c:au)(bo:O.length=256)(i:c.length=256):cK 350 [g 6000,bg c] [(6000,.cell 262 (bg O))] (.tuple []) [(6000,.cell 262 (bg (O.join c)))]:=by
 refine cX func350 [] λo s k=>?_
 conv in bg O=>rw[<-au.M_ O c]
 refine fb (av:=gt i)<|dL 256 (λa=>⟨[(0,_),(6,_),(7,q a)],[(6000,.cell 262<|bg<|O.ky c a)],[]⟩) (λa p=>?_) .r;apply j<;>intro l
 .let m:=au.A5 O c a;refine N_ (D:=.bool<|c.getD a false) (bq:=eu.y_ v)<|dC ?_;apply a_ λ_=>iF a a rfl (ii:=by show a=0+a*1;omega);refine a_ (λ_=>ga (.bool<|O.getD a false) rfl (dc:=by grind[au.M9,yW]))<|Ji (λh=>?_) λh=>?_
  all_goals apply a_ λ_=>iF a a rfl (ii:=by show a=0+a*1;omega);refine wg (bg<|O.ky c<|a+1) (i2:=KS) (aG:=L9 v b)<|iK []<|aL ?_;exact aB (a+1) (bo:=.r)
 let e:O.ky c a=O.join c:=au.M8 O v v;rw[e];exact cH
def Fc:cy:=⟨0,0,[]⟩
def kD(b:List cy)(a:aO):bb:=xE b (a.eY.map eB) (a.e3.map q)<|a.ai.map bg
def x5{c:List cy}{a:aO}(h:cZ c=a.ag)(i:a.b8<=10000000)b e(k:b<a.ag.length):kO a4 fZ 221 [g 6000,q b,q e] (bU c) (kD c a) (cZ ·=(a.cx b e).ag) (λ_=>.tuple []) bU (kD · (a.cx b e)):=by let w:=ass c (a.eY.map eB) (a.e3.map q) (a.ai.map bg) b e (by grind[cZ,List.length_map]) λl j=>cA (WN (by rw[<-h];exact List.mem_map_of_mem j)) i;rw[h] at w;exact w
def xq{hO:List cy}{Y:aO}(a:cZ hO=Y.ag)(p:Y.b8<=10000000)(l:r9 Y):kO a4 fZ 163 [g 6000] (bU hO) (kD hO Y) (cZ ·=Y.bc.ag) (λ_=>q Y.ag.length) bU (kD · Y.bc):=by
 intro m;let r:hO.length=Y.ag.length:=by rw[<-a,cZ,aS]
 let o:=V9 (Y:=Y);let w:=ai4 (hO.map ep) (Y.eY.map eB) (Y.e3.map q) (Y.ai.map bg) aK (by rw[aS,l];omega) m;let e:(hO++[Fc]).map ep=hO.map ep++[V.aQ]:=p3;let h:cZ (hO++[Fc])=Y.bc.ag:=by rw[cZ,cD,<-cZ,a];rfl
 let i:bU (hO++[Fc])=bU hO:=by rw[DR];exact gf _
 let j:Y.bc.eY.map eB=Y.eY.map eB++[V.int .i64 (-1)]:=by show(Y.eY++[-1]).map eB=_;rw[cD];rfl
 apply ff.frame w<|bU hO;refine pS λc=>?_
 (simp[kD,xE,aS,Cd];omega)
 rintro s P ⟨b,k,rfl,rfl⟩;refine⟨bU _++ar b (kD _ _),?_,hO++[Fc],b,h,k,?_,rfl⟩;rw[i];refine pS λc=>?_;unfold kD xE;rw[e,j,show(hO++[Fc]).length=(hO.map ep++[V.aQ]).length by simp];simp;exact s_ _ _;simp_all
section
attribute [local irreducible] cJ
def qy(a:aO):V:=.agg [.f 1 (a.ag.map bl),.f 1<|a.eY.map eB,.f 1<|a.e3.map q,.f 256<|a.ai.map bg]
def aqy{b:Type}{a:List b}(w:0<a.length):∃(o:List b)(c:b),a=o++[c]:=by exists a.dropLast,a.getLast aM;rw[abU]
structure acN where
 seen:List Bool
 R:List Nat
 S:List Nat
 b:Bool
 M7:List Nat
def U3{a:List Int}(w:I<a.length){b:Int}:a.getD I (-1)=b->(a.map eB)[I]?=some (eB b):=by simp_all
def apt{b a:List Nat}(w:b++[I]<+:a):(a.map q)[b.length]?=some (q I):=by obtain⟨c,rfl⟩:=w<;>simp_all
def aps{a b:List Nat}(w:a<+:b):((b.map q).drop 0).take (a.map q).length++[q I]=(a++[I]).map q:=by obtain⟨c,rfl⟩:=w<;>simp_all
def adb{a:List Nat}:rc a ((I:Nat))=c0 a [I]:=ax
theorem ade a{b:Int}(w:¬0<=b):rc a b=a:=aa w
def P0(a:aO)(b:Nat)(c:List (Nat×V))(e:bb):am:=⟨(0,g 6000)::(2,q b)::(6,g 6)::(8,.d 18 0 a.ag.length)::c,(6000,.cell 246<|qy a)::e,[]⟩
def Y9 Y(o:oH Y)(W:Y.eF.length<=2000)(aq:Y.ag.length<=10000000)(ad:∀a,(Y.ag.getD a []).length<=10000000)k J(I:k<Y.ag.length)z(E:Bool)(X:ef z)(az:∀l,l∈z↔l<Y.eF.length/\ey.Way (jl Y) k (Y.eF.getD l 0))(Z:E↔ey.Way (jl Y) k J):cK 165 [g 6000,q k,q J] [(6000,.cell 246 (qy Y))] (.tuple [b5 z,aW E]) [(6000,.cell 246 (qy Y))]:=by
 refine cX func165 [51] λaC s ap=>?_;have:(Y.ag.map bl).length=Y.ag.length:=aS ..;have al:=kP.start o (J:=J) I;refine jS (b5 []) ?_ (dA:=bL);refine ja Y.ag.length Y.ag.length ((List.replicate Y.ag.length false).map aW) ?_ (p:=v) (jM:=v) (aG:=uP);refine cz k ?_ (p:=I);refine fl (((List.replicate Y.ag.length false).set k true).map aW) (aW false) (aW true) ?_ (p:=b) (aG:=af);refine og ?_;refine cQ acN (λh=>P0 Y J [(7,aW h.b),(9,.d 23 0 (h.R.map q).length)] [(6,.cell 253<|b5 h.S),(18,.n 1 4<|h.seen.map aW),(23,.n 1 3<|h.M7.map q)]) (λh=>kP Y k J h.seen h.R h.S h.b Y.ag.length 0/\h.R<+:h.M7/\h.M7.length<=10000000) (λh=>2*B7 h.seen+h.R.length) ⟨(List.replicate Y.ag.length false).set k true,[k],[],false,[k]⟩ (λ⟨seen,R,m,w,T⟩ ⟨u,B,L⟩=>?_) ⟨al,z7 _,af⟩;dsimp at u B L⊢;have:=u.len;apply j<;>intro aw
 .obtain⟨R,a,rfl⟩:=aqy (show 0<R.length by omega);have N:=u.pop o W;rw[show decide (a=J)=decide (a=(J:Int)) from mu.2 v] at N;have M:=u.uz a af;have ah:a<Y.ag.length:=by have:=Dh M.1;omega
  have:Y.eY.length=Y.ag.length:=o.pl;have:=o.neg a;have:=ad a;have aj:=B.length_le;rw[c_,pk] at aj;have:((R++[a]).map q).length=R.length+1:=by rw[aS,c_];rfl
  apply ia R.length;refine cz R.length ?_ (p:=v);refine ft (q a) ?_ (p:=apt B);apply ia R.length;refine xD 0 R.length 0 (R.map q).length ?_ (bq:=rfl) (MN:=af);refine dD ?_;refine gK Unit (λam=>P0 Y J [(7,.bool<|w||decide (a=(J:Int))),(10,q a),(9,.d 23 0 (R.map q).length)] [(6,.cell 253<|b5<|rc m<|Y.eY.getD a<|-1),(18,.n 1 4<|seen.map aW),(23,.n 1 3<|T.map q)]) (λ_=>True) ?_ λam aA=>?_
  .refine aJ a (eB<|Y.eY.getD a<|-1) ?_ (p:=U3 v rfl);apply j<;>intro ax
   .obtain⟨l,H⟩:∃l,Y.eY.getD a (-1)=(l:Nat):=⟨(Y.eY.getD a<|-1).toNat,v⟩;have ak:l<2000:=by have:=((o.BG a l).1 H).1;omega
    refine aJ a (eB<|(l:Nat)) ?_ (p:=U3 v H);refine bk [(6000,6)] ?_ (i:=Yc ak);rw[<-adb,<-H];exact c3 ()
   rw[show b5 m=b5 (rc m (Y.eY.getD a (-1))) by grind[ade]];exact c3 ()
  refine aJ a (bl<|Y.ag.getD a []) ?_ (p:=xb ah);refine cQ (List Bool×List Nat×List Nat×Nat) (λc=>P0 Y J [(7,.bool<|w||decide (a=(J:Int))),(66,.f 1<|(Y.ag.getD a []).map q),(67,q ((Y.ag.getD a []).map q).length),(68,q c.2.2.2),(9,.d 23 0 (c.2.1.map q).length)] [(6,.cell 253<|b5<|rc m<|Y.eY.getD a<|-1),(18,.n 1 4<|c.1.map aW),(23,.n 1 3<|c.2.2.1.map q)]) (λc=>kP Y k J c.1 c.2.1 (rc m<|Y.eY.getD a<|-1) (w||decide (a=(J:Int))) a c.2.2.2/\c.2.1<+:c.2.2.1/\c.2.2.1.length<=10000000/\2*B7 c.1+c.2.1.length<=2*B7 seen+R.length/\c.1.getD a false/\c.2.2.2<=(Y.ag.getD a []).length) (λc=>(Y.ag.getD a []).length-c.2.2.2) (seen,R,T,0) (λ⟨r,y,Q,e⟩ ⟨x,C,F,P,G,ae⟩=>?_) ⟨N,(Qp R [a]).trans B,L,a1 _,M.1,c1 _⟩;dsimp at x C F P G ae⊢;have:=x.len;apply j<;>intro ay
  .have t:e<(Y.ag.getD a []).length:=v;have O:(Y.ag.getD a []).getD e 0<Y.ag.length:=o.EZ a _<|bZ t;refine aJ e (q<|(Y.ag.getD a []).getD e 0) ?_ (p:=dg t);refine cz ((Y.ag.getD a []).getD e 0) ?_ (p:=O);refine ft (aW<|r.getD ((Y.ag.getD a []).getD e 0) false) ?_ (p:=ad5 v);apply j<;>intro K
   .have D:¬r.getD ((Y.ag.getD a []).getD e 0) false:=by simpa using K
    have A:=x.new o G t D;have:=ar_ v D;have:y.length<Y.ag.length:=by
     have h1:=pH A.hs (Y:=Y.ag.length) λan dA=>by rw[<-A.len];exact Dh (A.uz an dA).1
     rw[c_,pk] at h1;omega
    refine cz ((Y.ag.getD a []).getD e 0) ?_ (p:=O);refine fl ((r.set ((Y.ag.getD a []).getD e 0) true).map aW) (aW false) (aW true) ?_ (p:=b) (aG:=af);refine dv ?_;refine W1 ?_ (xi:=aM) (aG:=aps C) (bq:=aK);refine aL ?_;exact aB (r.set ((Y.ag.getD a []).getD e 0) true,y++[(Y.ag.getD a []).getD e 0],y++[(Y.ag.getD a []).getD e 0],e+1) ⟨A,z7 _,aK,p2,aM,t⟩ aM
   have D:r.getD ((Y.ag.getD a []).getD e 0) false=true:=by simpa using K
   have ai:=x.old t D;refine aL ?_;exact aB (r,y,Q,e+1) ⟨ai,C,F,P,G,t⟩ aM
  obtain rfl:e=(Y.ag.getD a []).length:=v;exact aB ⟨r,y,rc m<|Y.eY.getD a<|-1,w||decide (a=(J:Int)),Q⟩ ⟨x.done,C,F⟩ aK
 obtain rfl:R=[]:=lJ v;let⟨ao,U⟩:=u.end_;obtain rfl:m=z:=M1 u.inc.1 X.1 λl=>b;obtain rfl:w=E:=m4.2<|U.trans Z.symm;refine fb ?_ (av:=qr);refine iG (b5 m) ?_ (h1:=n4) (dX:=n4);exact pD aZ<|.ln rfl rfl rfl rfl rfl qr n4<|.tmp rfl .nil
end
def FQ(c:ao):Prop:=∀(a:aO)(e:List cy)(b:Nat),cZ e=a.ag->r9 a->b<a.ag.length->(e8 c a b).1.b8<=10000000->kO a4 fZ 164 [g 6000,bY c,q b] (bU e) (kD e a) (cZ ·=(e8 c a b).1.ag) (λ_=>q (e8 c a b).2) bU (kD · (e8 c a b).1)
def zt{a:List cy}:(bU a++[]).Perm (bU a):=af
def HI{x:aO->Nat->aO×Nat}:∀F b a,gl x (F+1) b a=x (gl x F b a).1 (gl x F b a).2|0,_,_=>rfl|F+1,b,a=>by rw[gl,HI F];rfl
def IM{b:aO->Nat->aO×Nat}:∀F c a,dk b (F+1) c a=(uf b (dk b F c a).1 (dk b F c a).2,(dk b F c a).1.ag.length)|0,_,_=>rfl|F+1,c,a=>by rw[dk,IM F];rfl
def aiP{a:aO->Nat->aO×Nat}(w:oF a){F:Nat}(h:I<=F)e b:(gl a I e b).1.b8<=(gl a F e b).1.b8:=by
 induction F
 simp_all
 next F g=>rcases gh F I with c|c;grind;rw[HI];exact cA (g c) (w _ _).1.b8
def amd{a:aO->Nat->aO×Nat}(w:oF a){F:Nat}(h:I<=F)e b:(dk a I e b).1.b8<=(dk a F e b).1.b8:=by
 induction F
 simp_all
 next F g=>rcases gh F I with c|c;grind;rw[IM];exact cA (g c) (UH w).1.b8
def apa{a:aO->Nat->aO×Nat}(w:oF a)b g e c:(gl a b.toNat e c).1.b8<=(nB a b g e c).1.b8:=by unfold nB;split;obtain⟨h,j⟩:=ME;obtain⟨i,_⟩:=w _ _;exact((h.trans i).trans<|np _ _ _).b8;exact(Hr w _ _ _).1.b8
abbrev k5:List (Nat×Nat):=[(6000,6000),(5000,5000),(5001,5001),(5002,5002),(5003,5003)]
def apc(h:ao)(aE:dx h)(ak:h.cc=6){b:aO->Nat->aO×Nat}(P:e8 (h.aq.getD 0 default)=b)(t:FQ (h.aq.getD 0 default))(Y:aO)(u:List cy)(G:Nat)(aw:cZ u=Y.ag)(p:r9 Y)(S:G<Y.ag.length)(o:(nB b h.min h.max Y G).1.b8<=10000000):kO a4 fZ 223 [g 6000,bY h,q G] (bU u) (kD u Y) (λD:List cy=>cZ D=(nB b h.min h.max Y G).1.ag) (λ_=>q (nB b h.min h.max Y G).2) bU (λD=>kD D (nB b h.min h.max Y G).1):=by
 refine kO.of_wp (z:=gT) [2007,2008,2009,2010,2014,2015] eW aZ gE ⟨func223,ax,rfl⟩ rfl rfl rfl λbA s al av=>?_;have a_:j2 a4 gT s fZ _ [2007,2008,2009,2010,2014,2015]:=⟨eW,aZ,al,gE,av⟩;obtain⟨⟨⟨bn,bo⟩,bp,aN,bq,br,bs⟩,bm⟩:=nw.1 aE;obtain⟨a5,a6,a8,a9⟩:=aN ak;have H:0<h.aq.length:=v;have l:oF b:=P▸xg _;unfold FQ at t;rw[P] at t;have bk:=apa l h.min h.max Y G;obtain⟨hit,bl⟩:=Hq l h.min.toNat Y G;refine cQ (Nat×List cy) (λk=>⟨[(0,g 6000),(2,q (gl b k.1 Y G).2),(4,g 4),(11,.int .i64 h.min),(12,q k.1)],(4,.cell 126<|bY h)::kD k.2 (gl b k.1 Y G).1,bU k.2⟩) (λk=>k.1<=h.min.toNat/\cZ k.2=(gl b k.1 Y G).1.ag) (λk=>h.min.toNat-k.1) (0,u) (λ⟨m,J⟩ ⟨aM,B⟩=>?_) ⟨c1 _,aw⟩;dsimp only at aM B⊢;obtain⟨T,U⟩:=Hq l m Y G;apply j<;>intro bg
 .have aG:m<h.min.toNat:=v;have A:=aiP l (show m+1<=h.min.toNat by omega) Y G;rw[HI] at A;refine aJ 0 (bY<|h.aq.getD 0 default) ?_ (p:=jr H) (av:=ax);refine hQ k5 bU [] (λK w=>?_) (i:=t (gl b m Y G).1 J (gl b m Y G).2 B (T.l6 p) (U S) v);rw[<-HI (x:=b) m Y G] at w⊢;refine aL ?_;exact aB (m+1,K) ⟨v,w⟩ v
 obtain rfl:m=h.min.toNat:=v;rw[nB] at o⊢;generalize gl b h.min.toNat Y G=aj at*;obtain⟨a,c⟩:=aj;dsimp only at*;have y:=T.l6 p;have aF:=U S;apply j<;>intro R
 .rw[ab R] at o⊢;dsimp only at o⊢;obtain⟨aR,bu⟩:=ME (Y:=a) (G:=c);obtain⟨aS,aT⟩:=l (jy a c) a.ag.length;have aU:=np (b (jy a c) a.ag.length).1 (b (jy a c) a.ag.length).2 a.ag.length;have Z:=l2 a;have aV:=l2 a.bc;have aW:=np a.bc.bc c a.ag.length;have aX:=np (a.bc.bc.cx c a.ag.length) a.ag.length<|a.ag.length+1;have r:(b (jy a c) a.ag.length).1.b8<=10000000:=cA aU.b8 o;have ba:=aS.b8;have bf:(a.bc.bc.cx c a.ag.length).b8<=(jy a c).b8:=aX.b8;have bb:=Z.b8;have bd:=aV.b8;have be:=aW.b8;have X:=sz a;have aP:=sz a.bc;have bt:=x6 a.bc.bc c a.ag.length;refine hQ k5 bU [] (λK w=>?_) (i:=xq B v y);refine hQ k5 bU [] (λL ay=>?_) (i:=xq w v<|Z.l6 y);rw[X];refine lB ⟨[(0,g 6000),(4,g 4),(7,q a.ag.length),(8,.int .i64 ((a.ag.length+1:Nat):Int)),(2,q c)],(4,.cell 126<|bY h)::kD L a.bc.bc,bU L⟩ ?_;refine cP ?_;refine hQ k5 bU [] (λa2 az=>?_) (i:=x5 ay v c a.ag.length v);refine cP ?_;refine hQ k5 bU [] (λE aA=>?_) (i:=x5 az v a.ag.length (a.ag.length+1) v);refine lB ⟨[(0,g 6000),(4,g 4),(7,q a.ag.length),(8,.int .i64 ((a.ag.length+1:Nat):Int))],(4,.cell 126<|bY h)::kD E (jy a c),bU E⟩ ?_;refine cP ?_;refine aJ 0 (bY<|h.aq.getD 0 default) ?_ (p:=jr H) (av:=ax);refine hQ k5 bU [] (λa3 aC=>?_) (i:=t (jy a c) E a.ag.length aA (aR.l6 y) v r);refine hQ k5 bU [] (λF aD=>?_) (i:=x5 aC r _ a.ag.length<|aT v);refine lB ⟨[(0,g 6000),(4,g 4),(8,.int .i64 ((a.ag.length+1:Nat):Int))],(4,.cell 126<|bY h)::kD F ((b (jy a c) a.ag.length).1.cx (b (jy a c) a.ag.length).2 a.ag.length),bU F⟩ ?_;refine cP ?_;exact n7 F aD
 rw[aa R] at o⊢;refine g1 ?_;refine cQ (Nat×List cy) (λk=>⟨[(0,g 6000),(2,q (dk b k.1 a c).2),(4,g 4),(52,.int .i64<|h.max-h.min),(53,q k.1)],(4,.cell 126<|bY h)::kD k.2 (dk b k.1 a c).1,bU k.2⟩) (λk=>k.1<=(h.max-h.min).toNat/\cZ k.2=(dk b k.1 a c).1.ag) (λk=>(h.max-h.min).toNat-k.1) (0,J) (λ⟨e,ah⟩ ⟨aK,I⟩=>?_) ⟨c1 _,B⟩;dsimp only at aK I⊢;obtain⟨aI,aH⟩:=Hr l e a c;apply j<;>intro bi
 .have aG:e<(h.max-h.min).toNat:=v;have A:=amd l (show e+1<=(h.max-h.min).toNat by omega) a c;rw[IM] at A;have ad:=l2 (dk b e a c).1;have ae:=np (dk b e a c).1.bc (dk b e a c).2 (dk b e a c).1.ag.length;obtain⟨m1,pX⟩:=l ((dk b e a c).1.bc.cx (dk b e a c).2 (dk b e a c).1.ag.length) (dk b e a c).2;have PS:=np (b ((dk b e a c).1.bc.cx (dk b e a c).2 (dk b e a c).1.ag.length) (dk b e a c).2).1 (b ((dk b e a c).1.bc.cx (dk b e a c).2 (dk b e a c).1.ag.length) (dk b e a c).2).2 (dk b e a c).1.ag.length;have W:=aI.l6 y;have bj:=aH aF;have X:=sz (dk b e a c).1;have aP:=x6 (dk b e a c).1.bc (dk b e a c).2 (dk b e a c).1.ag.length;have bv:=ad.b8;have bx:=ae.b8;have bz:=m1.b8;have r:(b ((dk b e a c).1.bc.cx (dk b e a c).2 (dk b e a c).1.ag.length) (dk b e a c).2).1.b8<=10000000:=cA PS.b8<|cA A o;refine hQ k5 bU [] (λaY am=>?_) (i:=xq I v W);refine cP ?_;refine hQ k5 bU [] (λC an=>?_) (i:=x5 am v (dk b e a c).2 (dk b e a c).1.ag.length v);refine lB ⟨[(0,g 6000),(4,g 4),(9,q (dk b e a c).1.ag.length),(2,q (dk b e a c).2),(52,.int .i64<|h.max-h.min),(53,q e)],(4,.cell 126<|bY h)::kD C ((dk b e a c).1.bc.cx (dk b e a c).2 (dk b e a c).1.ag.length),bU C⟩ ?_;refine cP ?_;refine aJ 0 (bY<|h.aq.getD 0 default) ?_ (p:=jr H) (av:=ax);refine hQ k5 bU [] (λa0 ap=>?_) (i:=t ((dk b e a c).1.bc.cx (dk b e a c).2 (dk b e a c).1.ag.length) C (dk b e a c).2 an (ae.l6<|ad.l6 W) v r);refine hQ k5 bU [] (λai Q=>?_) (i:=x5 ap r _ (dk b e a c).1.ag.length<|pX v);have M:((b ((dk b e a c).1.bc.cx (dk b e a c).2 (dk b e a c).1.ag.length) (dk b e a c).2).1.cx (b ((dk b e a c).1.bc.cx (dk b e a c).2 (dk b e a c).1.ag.length) (dk b e a c).2).2 (dk b e a c).1.ag.length,(dk b e a c).1.ag.length)=dk b (e+1) a c:=(IM _ _ _).symm;have N:=cW Prod.fst M;have O:=cW Prod.snd M;dsimp only at N O;rw[N] at Q⊢;rw[O];refine aL ?_;exact aB (e+1,ai) ⟨v,Q⟩ v
 obtain rfl:e=(h.max-h.min).toNat:=v;exact n7 ah I
def KX:∀(b:List ao)(a:Nat)(_:a<b.length)(e:aO)(c:Nat),jI (b.take (a+1)) e c=e8 (b.getD a default) (jI (b.take a) e c).1 (jI (b.take a) e c).2|[],a,w,_,_=>by cases w|g::b,0,_,e,c=>by rfl|g::b,a+1,w,e,c=>by have:=KX b a (acg w) (e8 g e c).1 (e8 g e c).2;trivial
def K2:∀(c:List ao)(b:Nat)(_:b<c.length)(g:aO)(a e:Nat),j7 (c.take (b+1)) g a e=(e8 (c.getD b default) (j7 (c.take b) g a e) a).1.cx (e8 (c.getD b default) (j7 (c.take b) g a e) a).2 e|[],b,w,_,_,_=>by cases w|h::c,0,_,g,a,e=>by rfl|h::c,b+1,w,g,a,e=>by have:=K2 c b (acg w) ((e8 h g a).1.cx (e8 h g a).2 e) a e;trivial
def acE(a:List ao){F:Nat}(h:I<=F)(i:F<=a.length)(e:aO)(b:Nat):(jI (a.take I) e b).1.b8<=(jI (a.take F) e b).1.b8:=by induction F with|zero=>simp_all|succ F g=>rcases gh F I with c|c;grind;rw[KX a F v];exact cA (g c v) (xg _ _ _).1.b8
def acL(a:List ao){F:Nat}(i:I<=F)(j:F<=a.length)(e:aO)(b g:Nat):(j7 (a.take I) e b g).b8<=(j7 (a.take F) e b g).b8:=by induction F with|zero=>simp_all|succ F h=>rcases gh F I with c|c;grind;rw[K2 a F v];exact cA (h c v)<|cA (xg _ _ _).1.b8 Ia
def RZ(b:ao)(a:aO)(c:Nat)(e:cr b≠0):e8 b a c=if b.cc=3 then((a.bc.bc.cx c a.ag.length).sN a.ag.length (a.ag.length+1) (ie b.set),a.ag.length+1) else if b.cc=4 then jI b.aq a c else if b.cc=5 then(j7 b.aq a.bc c a.ag.length,a.ag.length) else if b.cc=6 then u9 b.aq b.min b.max a c else(a.bc.cx c a.ag.length,a.ag.length):=by rw[LD,Gq,aa e]
theorem RY(b:ao)(a:aO)(c:Nat)(e:cr b=0):e8 b a c=((if lW b then a.bc.cx c a.ag.length else a.bc),a.ag.length):=by rw[LD,Gq,ab e]
def afC{a:ao}(e:1<=a.cc)(g:a.cc<=6)(c:a.cc<4->a.aq=[])(b:cr a≠0):a.cc=3\/a.cc=4\/a.cc=5\/a.cc=6:=by have:a.cc=1\/a.cc=2\/a.cc=3\/a.cc=4\/a.cc=5\/a.cc=6:=v;rcases this with w|w|w;exfalso;apply b;rw[tz,lY,aa v,aa v,c v];rfl;exfalso;apply b;rw[tz,lY,aa v,aa v,c v];rfl;omega
def WD{b e:Type}{a:List b}{c:b->e}{M:b}(w:I<a.length):(a.map c)[I]?=some (c (a.getD I M)):=by simp_all
def I4(a:aO)(b:Nat):aO:={a with eY:=a.eY.set b (a.ai.length:Nat)}
def ap5{a:List (Int×Int)}(w:I<a.length):ie (a.take (I+1))=(ie (a.take I)).add (a.getD I default).1.toNat (a.getD I default).2.toNat:=by grind[List.take_succ_eq_append_getElem,ie,List.getElem?_eq_getElem]
theorem EE{a:List (Int×Int)}:(ie a).length=256:=by
 have:∀(a:List (Int×Int))(b:au),b.length=256->(a.foldl (λ(e:au) c=>e.add c.1.toNat c.2.toNat) b).length=256:=by
  intro a
  induction a with|nil=>simp|cons c a g=>exactλb w=>g _ (by show(List.mapIdx _ b).length=256;(simp;omega))
 exact this a _ ax
def ad9(O:au)(a:Int×Int)(b:O.length=256)(w:0<=a.1/\a.1<=a.2/\a.2<=255):cK 222 [g 6000,.int .i64 a.1,.int .i64 a.2] [(6000,.cell 262 (bg O))] (.tuple []) [(6000,.cell 262 (bg (O.add a.1.toNat a.2.toNat)))]:=by have:=rg O a.1.toNat a.2.toNat b v;grind[q,Int.toNat_of_nonneg]
def ael(a:ao)(F:dx a)(P:∀u∈a.aq,FQ u)(Y:aO)(B:List cy)(b:Nat)(C:cZ B=Y.ag)(p:r9 Y)(ad:b<Y.ag.length)(k:(e8 a Y b).1.b8<=10000000):kO a4 fZ 164 [g 6000,bY a,q b] (bU B) (kD B Y) (λI:List cy=>cZ I=(e8 a Y b).1.ag) (λ_=>q (e8 a Y b).2) bU (λI=>kD I (e8 a Y b).1):=by
 refine kO.of_wp (z:=gT) [2003,2009,2010,2011,2017] eW aZ gE ⟨func164,ax,rfl⟩ rfl rfl rfl λbl s al av=>?_;have aX:j2 a4 gT s fZ _ [2003,2009,2010,2011,2017]:=⟨eW,aZ,al,gE,av⟩;obtain⟨⟨⟨aE,aF⟩,aH,aI,bb,aN,bd⟩,a3⟩:=nw.1 F;obtain⟨ak,aW⟩:=xg a Y b;have K:Y.b8<=10000000:=cA ak.b8 k;have ah:=sz Y;refine az ?_ (i:=Yi a F);apply j<;>intro a0
 .have D:cr a=0:=v;rw[RY a Y b D] at k⊢;have Q:Y.bc.b8<=10000000:=by dsimp only at k;split at k;grind[Nat.le_trans,Ia];exact k
  refine hQ k5 bU [] (λr l=>?_) (i:=xq C K p);refine cP ?_;refine az ?_ (i:=anf a F);apply j<;>intro T
  .rw[ab T] at k⊢;refine hQ k5 bU [] (λx y=>?_) (i:=x5 l Q b Y.ag.length v);exact n7 x y
  rw[aa T] at k⊢;exact n7 r l
 have D:cr a≠0:=v;have a5:=afC aE aF aH D;rw[RZ a Y b D] at k⊢;apply j<;>intro U
 .rw[ab U] at k⊢;have aP:=sz Y.bc;have aR:=x6 Y.bc.bc b Y.ag.length;have aV:=(UI (Y:=(Y.bc.bc.cx b Y.ag.length)) (E:=Y.ag.length) (W:=(Y.ag.length+1)) (O:=(ie a.set))).b8;have bf:=(np Y.bc.bc b Y.ag.length).b8;have bi:=(l2 Y.bc).b8;have bj:=(l2 Y).b8;have ay:(Y.bc.bc.cx b Y.ag.length).b8<=10000000:=cA aV k;have a9:(Y.bc.bc.cx b Y.ag.length).eY.length=Y.ag.length+2:=by have w:r9 (Y.bc.bc.cx b Y.ag.length):=(np Y.bc.bc b Y.ag.length).l6<|(l2 Y.bc).l6<|(l2 Y).l6 p;unfold r9 at w;rw[w,aR,aP,ah]
  have a8:=(np Y.bc.bc b Y.ag.length).l6<|(l2 Y.bc).l6<|(l2 Y).l6 p;refine hQ k5 bU [] (λr l=>?_) (i:=xq C K p);refine hQ k5 bU [] (λx y=>?_) (i:=xq l v<|(l2 Y).l6 p);rw[ah];refine lB ⟨[(0,g 6000),(4,g 4),(2,q b),(8,q Y.ag.length),(9,.int .i64 ((Y.ag.length+1:Nat):Int))],(4,.cell 126<|bY a)::kD x Y.bc.bc,bU x⟩ ?_;refine cP ?_;have L:=x5 y v b Y.ag.length v;generalize Y.bc.bc.cx b Y.ag.length=e at*;refine hQ k5 bU [] (λt an=>?_) (i:=L);refine lB ⟨[(0,g 6000),(4,g 4),(2,q b),(8,q Y.ag.length),(9,.int .i64 ((Y.ag.length+1:Nat):Int))],[(4,.cell 126<|bY a),(6000,.cell 246<|DT t.length (e.eY.map eB).length (e.e3.map q).length (e.ai.map bg).length),(5000,.n 1 64<|t.map ep),(5001,.n 1 3<|e.eY.map eB),(5002,.n 1 3<|e.e3.map q),(5003,.n 256 262<|e.ai.map bg)],bU t⟩ ?_;refine cP ?_;refine dC ?_;refine a_ (λ_=>cz Y.ag.length rfl (p:=aK)) ?_;refine uE ((e.eY.set Y.ag.length (e.ai.length:Nat)).map eB) (eB<|e.eY.getD Y.ag.length 0) (q (e.ai.map bg).length) ?_ (p:=WD v) (aG:=by rw[gN,aS];rfl);refine fm ?_;rw[show(e.eY.map eB).length=((I4 e Y.ag.length).eY.map eB).length by simp[I4,lL]];refine cP ?_;refine jS (bg bP) ?_ (dA:=ax);refine dL a.set.length (λc=>⟨[(0,g 6000),(9,.int .i64 ((Y.ag.length+1:Nat):Int)),(10,g 10),(54,.f 2<|a.set.map fz),(55,q (a.set.map fz).length),(56,q c)],[(5000,.n 1 64<|t.map ep),(5001,.n 1 3<|(I4 e Y.ag.length).eY.map eB),(5002,.n 1 3<|e.e3.map q),(5003,.n 256 262<|e.ai.map bg),(10,.cell 262<|bg<|ie<|a.set.take c),(6000,.cell 246<|DT t.length ((I4 e Y.ag.length).eY.map eB).length (e.e3.map q).length (e.ai.map bg).length)],bU t⟩) λc p=>?_;apply j<;>intro a2
  .have m:c<a.set.length:=v;have aD:=aN (a.set.getD c default)<|bZ m;refine aJ c (fz<|a.set.getD c default) ?_ (p:=WD m);refine bk [(6000,10)] ?_ (i:=ad9 (ie<|a.set.take c) (a.set.getD c default) EE aD);rw[<-ap5 m];refine aL ?_;exact aB<|c+1
  obtain rfl:c=a.set.length:=v;rw[gq];have ba:=aqd e;have aY:e.e3.length<=10000000:=cA ad_ ay;refine cP ?_;refine dC ?_;refine a_ (λ_=>fb rfl (av:=by show((ie a.set).map V.bool).length=256;simp[EE])) ?_;refine a_ (λ_=>jv rfl (hlen:=λM a6=>by rw[cV.1 a6];show(bg (ie a.set)).cells.length=256;simp[fj,EE])) ?_;refine jB 74 ((e.ai++[ie a.set]).map bg) ?_ (ap:=ax) (fC:=.f rfl rfl rfl rfl λM a6=>by rw[cV.1 a6];show(bg (ie a.set)).cells.length=256;simp[fj,EE]) (aG:=p3) (bq:=aK);refine a_ (λ_=>jv rfl) ?_;refine jB 81 ((e.e3++[Y.ag.length+1]).map q) ?_ (aG:=p3) (bq:=aK);refine eJ ?_;refine eJ ?_;refine iK [(74,5003),(81,5002)] ?_;exact n7 t an
 rw[aa U] at k⊢;apply j<;>intro X
 .rw[ab X] at k⊢;rw[show a.aq=a.aq.take a.aq.length from(gq ..).symm] at k;refine cQ (Nat×List cy) (λh=>⟨[(0,g 6000),(2,q (jI (a.aq.take h.1) Y b).2),(90,.f 5<|fy a.aq),(91,q (fy a.aq).length),(92,q h.1)],kD h.2 (jI (a.aq.take h.1) Y b).1,bU h.2⟩) (λh=>h.1<=a.aq.length/\cZ h.2=(jI (a.aq.take h.1) Y b).1.ag) (λh=>a.aq.length-h.1) (0,B) (λ⟨c,A⟩ ⟨N,o⟩=>?_) ⟨c1 _,C⟩;dsimp only at N o⊢;obtain⟨G,aA⟩:=MB (a.aq.take c) (λu _=>xg u) Y b;apply j<;>intro Z
  .rw[gA] at Z;have m:c<a.aq.length:=v;have aC:=acE a.aq (show c+1<=a.aq.length by omega) (a1 _) Y b;have H:=KX a.aq c m Y b;refine aJ c (bY<|a.aq.getD c default) ?_ (p:=jr m);refine hQ k5 bU [] (λr l=>?_) (i:=P (a.aq.getD c default) (bZ m) (jI (a.aq.take c) Y b).1 A (jI (a.aq.take c) Y b).2 o (G.l6 p) (aA ad) aM);rw[<-H] at l⊢;refine aL ?_;exact aB (c+1,r) ⟨v,l⟩ v
  rw[gA] at Z;obtain rfl:c=a.aq.length:=v;rw[gq] at o⊢;exact n7 A o
 rw[aa X] at k⊢;apply j<;>intro R
 .rw[ab R] at k⊢;dsimp only at k⊢;have Q:Y.bc.b8<=10000000:=cA (Hu a.aq (λu _=>xg u) Y.bc b Y.ag.length).b8 k;refine hQ k5 bU [] (λaj am=>?_) (i:=xq C K p);rw[show a.aq=a.aq.take a.aq.length from(gq ..).symm] at k;refine cQ (Nat×List cy) (λh=>⟨[(0,g 6000),(2,q b),(15,q Y.ag.length),(107,.f 5<|fy a.aq),(108,q (fy a.aq).length),(109,q h.1)],kD h.2<|j7 (a.aq.take h.1) Y.bc b Y.ag.length,bU h.2⟩) (λh=>h.1<=a.aq.length/\cZ h.2=(j7 (a.aq.take h.1) Y.bc b Y.ag.length).ag) (λh=>a.aq.length-h.1) (0,aj) (λ⟨c,A⟩ ⟨N,o⟩=>?_) ⟨c1 _,am⟩;dsimp only at N o⊢;have G:=Hu (a.aq.take c) (λu _=>xg u) Y.bc b Y.ag.length;apply j<;>intro S
  .rw[gA] at S;have m:c<a.aq.length:=v;have aC:=acL a.aq (show c+1<=a.aq.length by omega) (a1 _) Y.bc b Y.ag.length;have H:=K2 a.aq c m Y.bc b Y.ag.length;have L:=Ia (Y:=(e8 (a.aq.getD c default) (j7 (a.aq.take c) Y.bc b Y.ag.length) b).1) (E:=(e8 (a.aq.getD c default) (j7 (a.aq.take c) Y.bc b Y.ag.length) b).2) (W:=Y.ag.length);rw[<-H] at L;obtain⟨be,aU⟩:=xg (a.aq.getD c default) (j7 (a.aq.take c) Y.bc b Y.ag.length) b;have ae:=G.len;refine aJ c (bY<|a.aq.getD c default) ?_ (p:=jr m);refine hQ k5 bU [] (λr l=>?_) (i:=P (a.aq.getD c default) (bZ m) (j7 (a.aq.take c) Y.bc b Y.ag.length) A b o (G.l6<|(l2 Y).l6 p) v v);refine hQ k5 bU [] (λx y=>?_) (i:=x5 l v _ Y.ag.length<|aU v);rw[<-H] at y⊢;refine aL ?_;exact aB (c+1,x) ⟨v,y⟩ v
  rw[gA] at S;obtain rfl:c=a.aq.length:=v;rw[gq] at o⊢;exact n7 A o
 have J:a.cc=6:=v;obtain⟨aT,_⟩:=aI J;have ae:0<a.aq.length:=v;have aw:u9 a.aq a.min a.max Y b=nB (e8 (a.aq.getD 0 default)) a.min a.max Y b:=by rw[A8 aT,u9];rfl
 rw[aa R,ab J,aw] at k⊢;refine hQ k5 bU [] (λr l=>?_) (i:=apc a F J rfl (P _<|bZ ae) Y B b C p ad k);exact n7 r l
def ob(a:aC)(t c:Nat):List UInt8:=(List.range a.ai.length).map λb=>if b<c/\hq (a.ai.getD b []) (t:Int) then 1 else 0
theorem VR(a:aC)(t b:Nat):(ob a t b).length=a.ai.length:=by rw[ob,aS,gM]
def ajo(a:aC)(t:Nat):ob a t 0=List.replicate a.ai.length 0:=by refine ho λb=>?_;unfold ob<;>grind
def ajl(a:aC)(t:Nat):ob a t a.ai.length=eG a t:=by refine ho λb=>?_;unfold ob eG<;>grind
def ajn(a:aC)(t:Nat)(b:¬hq (a.ai.getD I []) (t:Int)):ob a t I=ob a t (I+1):=by unfold ob<;>grind
def ajm(a:aC)(t b:Nat)(w:I<a.ai.length):∃c,((ob a t b).map bh)[I]?=some (bh c):=by refine⟨(ob a t b)[I]'(by grind[VR]),?_⟩;grind
def nT(b:aC):Prop:=∀O∈b.ai,∀a∈O,0<=a.1/\a.1<=a.2/\a.2<=255
def ZY{b:aO}{a:aC}(c:b.ai=a.ai.map ie)(w:I<a.ai.length):(b.ai.map bg)[I]?=some (bg (ie (a.ai.getD I []))):=by simp_all
def ZX{a:aC}(e:nT a){t:Nat}(w:I<a.ai.length)(c:t<256):(bg (ie (a.ai.getD I []))).cells[t]?=some (.bool (hq (a.ai.getD I []) (t:Int))):=by rw[yW _ (by grind[EE]),ap4 _ (e _ b) t c]
def aji(c:aO)(a:aC)(h:c.ai=a.ai.map ie)(m:nT a)(r:a.ai.length<=2000)(t:Nat)(h9:t<256):cK 167 [q t,g 6001] [(6001,.cell 243 (g 6002)),(6002,.cell 246 (qy c))] (.str (eG a t)) [(6001,.cell 243 (g 6002)),(6002,.cell 246 (qy c))]:=by
 refine cX func167 [] λC s u=>?_;let z:c.ai.length=a.ai.length:=by rw[h,aS]
 let y:(eG a t).length=a.ai.length:=by rw[eG,aS]
 let i:(c.ai.map bg).length=a.ai.length:=by rw[h,aS,aS]
 refine ja a.ai.length a.ai.length ((ob a t 0).map bh) ?_ (p:=cW Nat.cast i) (jM:=cW Nat.cast i) (aG:=by rw[ajo,yb];rfl);refine dL a.ai.length (λb=>⟨[(0,q t),(1,g 6001),(4,.d 11 0 a.ai.length),(16,q (c.ai.map bg).length),(17,q b)],[(11,.n 1 5<|(ob a t b).map bh),(6001,.cell 243<|g 6002),(6002,.cell 246<|qy c)],[]⟩) λb p=>?_;apply j<;>intro x
 .let e:b<a.ai.length:=v;let⟨o,w⟩:=ajm a t b e;let k:=ZX m e h9;refine aJ b (bg<|ie<|a.ai.getD b []) (p:=ZY h e)<|Bn (qk:=t) (bJ:=t) ?_ (h9:=by show 0+t*1=t;omega);refine DO (.bool<|hq (a.ai.getD b []) (t:Int)) ?_ k;apply j<;>intro l
  .refine cz b ?_ (p:=v);refine fl ((ob a t<|b+1).map bh) (bh o) (.int .u8 1) (p:=w) (aG:=(by rw[show V.int .u8 1=bh 1 from rfl,<-gN];refine ho λB=>?_;unfold ob<;>grind))<|aL<|aB<|b+1
  rw[ajn a t l];exact aL<|aB<|b+1
 obtain rfl:b=a.ai.length:=v;let A:((ob a t a.ai.length).map bh).length=a.ai.length:=by rw[aS,VR]
 exact Bl (eG a t) (hlen:=v) (a0:=by rw[uI,q1 v,ajl])<|cH
section
attribute [local semireducible] eV eQ
def fr(c:List Nat)(a b t:V):V:=.vec 256 (.ints .i64<|c.map λe=>((e:Nat):Int)) [a,b,t]
theorem SV{a:List Nat}(w:a.length=256)(b c t:V):(fr a b c t).cells.length=259:=by
 show((a.map _).map _++[b,c,t]).length=259
 (simp;omega)
def agf{a:List Nat}(w:a.length=256)(e:I<256)(b c t:V):(fr a b c t).cells[I]?=some (q (a.getD I 0)):=by show((a.map _).map _++[b,c,t])[I]?=_;rw[q0 aK,ch,ch,cg,bw v];rfl
def jp{a:List Nat}(w:a.length=256)(b c t:V)(F:Nat):(fr a b c t).cells[256+F]?=([b,c,t]:List V)[F]?:=eu.ahU (by show((a.map _).map _).length=256;(simp;omega))
theorem CQ{a:List Nat}(w:a.length=256){e:Nat}(g:I<256)(b c t:V):(fr a b c t).cells.set I (q e)=(fr (a.set I e) b c t).cells:=by show((a.map _).map _++[b,c,t]).set I _=((a.set I e).map _).map _++[b,c,t];rw[ab5 _ _ aK,gN,gN];rfl
def wW{a:List Nat}(w:a.length=256)(c e t b:V)(F:Nat):(fr a c e t).cells.set (256+F) b=(eu.ints .i64 (a.map λb=>((b:Nat):Int))).cells++([c,e,t]:List V).set F b:=eu.aqb (by show((a.map _).map _).length=256;(simp;omega))
def Ba(a:List UInt8):V:=.str a
def HR:nR (λ_=>True) Ba:=nR.str λ_ _ _ _ w=>w
def HS{b:Nat->V}(a:List (List UInt8)):k1 .string (dY Ba b a):=Nh λ_ _=>rfl
section
variable{B_:Type} [DecidableEq B_](key:Nat->B_)
theorem Sz{t:Nat}(e:t<256)(w:key t∉eQ key t):ix key t=(eV key t).length/\eV key (t+1)=eV key t++[t]/\eQ key (t+1)=eQ key t++[key t]:=by
 let a:eQ key (t+1)=eQ key t++[key t]:=by rw[HT,note,aa w]
 refine⟨?_,by rw[eV,aa w],a⟩;let hm:key t∈eQ key (t+1):=Nq key v;unfold ix;rw[vD (VT key<|show t+1<=256 by omega) hm];let b:=VS key<|t+1;rw[a] at b⊢;let c:(eQ key t).length<(eQ key t++[key t]).length:=af;have:=zd b c;grind[Dy]
theorem SA{t:Nat}(a:t<256)(w:key t∈eQ key t):e_ (eQ key t) (key t)=ix key t/\eV key (t+1)=eV key t/\eQ key (t+1)=eQ key t:=by refine⟨?_,by rw[eV,ab w],by rw[HT,note,ab w]⟩;grind[ix,vD,VT]
end
def afg(e:aO)(y:aC)(z:e.ai=y.ai.map ie)(x:nT y)(r:y.ai.length<=2000):cK 166 [g 6000,.func (.func 167) [] [g 6001]] [(6000,.cell 259 (fr (List.replicate 256 0) .aQ .aQ .aQ)),(6001,.cell 243 (g 6002)),(6002,.cell 246 (qy e))] (.tuple []) [(6000,.cell 259 (fr (jo y) (.f 1 ((cf y).map q)) .aQ .aQ)),(6001,.cell 243 (g 6002)),(6002,.cell 246 (qy e))]:=by
 refine cX func166 [2001] λE s A=>?_;refine ay.re 1400 1 3 6000 0 ?_;refine cP ?_;refine dL 256 (λt=>⟨[(0,g 6000),(1,.func (.func 167) [] [g 6001]),(4,.dj 9),(10,q t)],[(1400,.n 1 3<|(eV (eG y) t).map q),(6000,.cell 259<|fr (fY (ix<|eG y) 256 t) (.d 1400 0 ((eV (eG y) t).map q).length) .aQ .aQ),(6001,.cell 243<|g 6002),(6002,.cell 246<|qy e),(9,.map (dY Ba (λc=>q<|id c)<|eQ (eG y) t) (eQ (eG y) t).length)],[]⟩) λt B=>?_;apply j<;>intro C
 .let a:t<256:=v;let b:=Jv (ix<|eG y) 256 t;let D:=AY (eG y) t;refine bk [(6001,6001),(6002,6002)] ?_ (i:=aji e y z x r t a);refine qG (.tuple [q (kc id (eQ (eG y) t)<|eG y t),.bool<|sE (eQ (eG y) t)<|eG y t]) ?_ (HS _) (dc:=DF (L:=λ_=>True) (y:=id) (hN:=eQ (eG y) t) (Z:=eG y t) HR trivial (λ_ _=>trivial) rfl);apply j<;>intro u
  .let p:eG y t∉eQ (eG y) t:=λw=>by grind[pN,absurd]
   let⟨k,l,m⟩:=Sz (eG y) a p;let h:((eV (eG y) t).map q).length=ix (eG y) t:=by rw[aS,k]
   refine ga (.d 1400 0 ((eV (eG y) t).map q).length) ?_ (dc:=jp b _ _ _ 0);refine vN (dY Ba (λc=>q<|id c)<|eQ (eG y)<|t+1) (eQ (eG y)<|t+1).length ?_ (HS _) (hu:=by rw[m,aS,<-Dy];exact Dv (L:=λ_=>True) (rP:=λc=>q<|id c) HR trivial (λ_ _=>trivial) p);refine ga (.d 1400 0 ((eV (eG y) t).map q).length) ?_ (dc:=jp b _ _ _ 0);refine dv ?_;refine eR ((eV (eG y)<|t+1).map q) ?_ (aG:=by rw[l,cD];rfl) (bq:=p2);refine pP (fr (fY (ix<|eG y) 256 t) (.d 1400 0 ((eV (eG y)<|t+1).map q).length) .aQ .aQ) ?_ (i2:=wy) (aG:=wW b _ _ _ _ 0);refine iF t t ?_ (ii:=by show t=0+t*1;omega);refine pP (fr (fY (ix<|eG y) 256<|t+1) (.d 1400 0 ((eV (eG y)<|t+1).map q).length) .aQ .aQ) ?_ (i2:=wy) (aG:=by first|(rw[h,<-Ez _ a];exact CQ b a _ _ _)|(exact CQ b a _ _ _));refine aL ?_;exact aB<|t+1
  let o:eG y t∈eQ (eG y) t:=pN.1<|Cb.1 u;let⟨k,l,m⟩:=SA (eG y) a o;let h:kc id (eQ (eG y) t) (eG y t)=ix (eG y) t:=by rw[A6 o];exact k
  rw[h,<-l,<-m];refine iF t t ?_ (ii:=by show t=0+t*1;omega);refine pP (fr (fY (ix<|eG y) 256<|t+1) (.d 1400 0 ((eV (eG y)<|t+1).map q).length) .aQ .aQ) ?_ (i2:=wy) (aG:=by grind[Ez,CQ]);refine aL ?_;exact aB<|t+1
 obtain rfl:t=256:=v;rw[Ju];exact gB 1400 cH
end
def gk(b:List Nat)(a c:Nat):Bool:=decide (((b.getD c 0:Nat):Int)=((a:Nat):Int))
def vs(c:List Nat)(a:Nat)(b:List Nat):Int:=if b.any (gk c a) then((b.findIdx (gk c a):Nat):Int) else-1
def ha(e:List Nat)(a:Nat)(c:List Nat)(b:Nat):List Nat:=(c.take b).filter λg=>!gk e a g
theorem No{c:List Nat}{b:List Nat}{a:Nat}(w:a<b.length):ha c I b (a+1)=ha c I b a++(if gk c I (b.getD a 0) then[] else[b.getD a 0]):=by unfold ha;grind[oy,gk,List.filter_cons_of_pos,List.filter_cons_of_neg]
def WV{s a:List Nat}(w:s.length<=I):(s++a.drop s.length)[I]?=a[I]?:=by grind
def akQ{s a:List Nat}(w:s.length<a.length):(s++a.drop s.length).set s.length I=s++[I]++a.drop (s++[I]).length:=by rw[yc _ _ v,ms,iO w,Fv,ge,c_];rfl
def akP{s a:List Nat}(w:s.length<=a.length):(s++a.drop s.length).length=a.length:=b
theorem SZ(a:List Nat)(e:List V)(h c:Nat)(j:c<a.length):cK 306 [q c,g 6000,g 6001] [(6000,.cell 314 (g 6002)),(6001,.cell 3 (q h)),(6002,.cell 317 (.agg [.d 6003 0 a.length,.d 6004 0 e.length])),(6003,.n 1 3 (a.map q)),(6004,.n 1 64 e)] (.bool (gk a h c)) [(6000,.cell 314 (g 6002)),(6001,.cell 3 (q h)),(6002,.cell 317 (.agg [.d 6003 0 a.length,.d 6004 0 e.length])),(6003,.n 1 3 (a.map q)),(6004,.n 1 64 e)]:=by refine cX func306 [] λk s i=>?_;refine c7<|cz c ?_;refine ft (q<|a.getD c 0) ?_ (p:=b);exact cH
theorem aix(c:List Nat)(l:List V)(e:Nat)(a:List Nat)(o:Nat)(F:o=a.length)(D:∀x∈a,x<c.length)(E:a.length<=100000):cK 174 [.d 6005 0 o,.func (.func 306) [] [g 6000,g 6001]] [(6000,.cell 314 (g 6002)),(6001,.cell 3 (q e)),(6002,.cell 317 (.agg [.d 6003 0 c.length,.d 6004 0 l.length])),(6003,.n 1 3 (c.map q)),(6004,.n 1 64 l),(6005,.n 1 3 (a.map q))] (.int .i64 (vs c e a)) [(6000,.cell 314 (g 6002)),(6001,.cell 3 (q e)),(6002,.cell 317 (.agg [.d 6003 0 c.length,.d 6004 0 l.length])),(6003,.n 1 3 (c.map q)),(6004,.n 1 64 l),(6005,.n 1 3 (a.map q))]:=by
 refine cX func174 [] λG s B=>?_;refine eH a.length (λh=>∀k,k<h->gk c e (a.getD k 0)=false) (λh=>⟨[(0,.d 6005 0 o),(1,.func (.func 306) [] [g 6000,g 6001]),(7,q o),(8,q h)],[(6003,.n 1 3<|c.map q),(6004,.n 1 64 l),(6005,.n 1 3<|a.map q),(6000,.cell 314<|g 6002),(6001,.cell 3<|q e),(6002,.cell 317<|.agg [.d 6003 0 c.length,.d 6004 0 l.length])],[]⟩) (λh p=>?_) λk m=>absurd m<|uO k;apply j<;>intro C
 .let u:h<a.length:=v;refine cz h ?_ (p:=v);refine ft (q<|a.getD h 0) (p:=dg u)<|bk [(6000,6000),(6001,6001),(6002,6002),(6003,6003),(6004,6004)] ?_ (i:=SZ c l e (a.getD h 0) b);apply j<;>intro y
  .let z:a.findIdx (gk c e)=h:=by refine(List.findIdx_eq u).2 ⟨?_,λk m=>?_⟩;simp_all;grind
   let r:a.any (gk c e):=wk.2 ⟨_,bZ (M:=0) u,y⟩;rw[show vs c e a=((h:Nat):Int) by rw[vs,ab r,z]];exact cH
  exact aL<|aB (h+1) ⟨v,λk m=>by grind⟩
 let r:¬a.any (gk c e):=λt=>by let⟨x,A,w⟩:=wk.1 t;obtain⟨k,m,rfl⟩:=ab0 A<;>grind
 rw[show vs c e a=-1 by rw[vs,aa r]];exact cH
theorem agk(c:List Nat)(m:List V)(e:Nat)(a:List Nat)(B:I=a.length)(A:∀k∈a,k<c.length)(K:a.length<=100000):cK 305 [.d 6005 0 I,.func (.func 306) [] [g 6000,g 6001]] [(6000,.cell 314 (g 6002)),(6001,.cell 3 (q e)),(6002,.cell 317 (.agg [.d 6003 0 c.length,.d 6004 0 m.length])),(6003,.n 1 3 (c.map q)),(6004,.n 1 64 m),(6005,.n 1 3 (a.map q))] (.d 6005 0 (a.filter λk=>!gk c e k).length) [(6000,.cell 314<|g 6002),(6001,.cell 3<|q e),(6002,.cell 317<|.agg [.d 6003 0 c.length,.d 6004 0 m.length]),(6003,.n 1 3<|c.map q),(6004,.n 1 64 m),(6005,.n 1 3<|(a.filter λk=>!gk c e k).map q)]:=by
 refine cX func305 [] λY s Q=>?_;refine bk [(6000,6000),(6001,6001),(6002,6002),(6003,6003),(6004,6004),(6005,6005)] ?_ (i:=aix c m e a I B A K);apply j<;>intro E
 .have T:¬a.any (gk c e):=λt=>by simp_all[vs,ab]
  have o:(a.filter λk=>!gk c e k)=a:=Qf.2 λk D=>by simp_all
  rw[o,<-B];exact cH
 have M:a.any (gk c e):=jZ λt=>E (by rw[vs,aa t]);have o:=List.findIdx_lt_length_of_exists (p:=gk c e) (xs:=a) b;have y:ha c e a (a.findIdx (gk c e))=a.take (a.findIdx (gk c e)):=Qf.2 λk D=>by obtain⟨h,S,rfl⟩:=ab0 D<;>grind
 have z:ha c e a (a.findIdx (gk c e)+1)=a.take (a.findIdx (gk c e)):=by rw[No o,y,ab,gf];rw[cg,bw o];exact List.findIdx_getElem
 rw[show vs c e a=((a.findIdx (gk c e):Nat):Int) by rw[vs,ab M]];generalize a.findIdx (gk c e)=r at o y z⊢;have H:(ha c e a (r+1)).length=r:=by rw[z,m7];omega
 refine dK ((r+1:Nat):Int) ?_;refine cQ (Nat×Nat×List V) (λl=>⟨[(0,.d 6005 0 I),(1,.func (.func 306) [] [g 6000,g 6001]),(5,q l.2.1),(6,q l.1)],[(6003,.n 1 3<|c.map q),(6004,.n 1 64 m),(6005,.n 1 3 l.2.2),(6000,.cell 314<|g 6002),(6001,.cell 3<|q e),(6002,.cell 317<|.agg [.d 6003 0 c.length,.d 6004 0 m.length])],[]⟩) (λl=>l.1<=a.length/\l.2.1=(ha c e a l.1).length/\l.2.2=(ha c e a l.1++a.drop (ha c e a l.1).length).map q/\(ha c e a l.1).length<l.1) (λl=>a.length-l.1) (r+1,r,a.map q) (λ⟨h,W,X⟩ ap=>?_) ⟨o,H.symm,b,aK⟩;dsimp only at ap⊢;obtain⟨U,rfl,rfl,N⟩:=ap;have L:((ha c e a h++a.drop (ha c e a h).length).map q).length=a.length:=by rw[aS,akP v]
 apply j<;>intro R
 .have u:h<a.length:=v;have G:((ha c e a h++a.drop (ha c e a h).length).map q)[h]?=some (q (a.getD h 0)):=by rw[ch,WV v,cg,bw u];rfl
  have F:∃P,((ha c e a h++a.drop (ha c e a h).length).map q)[(ha c e a h).length]?=some (q P):=by refine⟨a.getD (ha c e a h).length 0,?_⟩;rw[ch,WV<|a1 _,cg,bw v];rfl
  let⟨O,w⟩:=F;refine cz h ?_ (p:=v);refine ft (q<|a.getD h 0) ?_ (p:=G);refine bk [(6000,6000),(6001,6001),(6002,6002),(6003,6003),(6004,6004)] ?_ (i:=SZ c m e (a.getD h 0)<|A _<|bZ u);apply j<;>intro x
  .have C:ha c e a (h+1)=ha c e a h++[a.getD h 0]:=by rw[No u,aa];simpa using x
   refine cz (ha c e a h).length ?_ (p:=v);refine fl ((ha c e a (h+1)++a.drop (ha c e a<|h+1).length).map q) (q O) (q<|a.getD h 0) ?_ (p:=w) (aG:=by rw[C,<-akQ v,gN]);refine dK (((ha c e a h).length+1:Nat):Int) ?_;refine aL ?_;exact aB (h+1,(ha c e a h).length+1,(ha c e a (h+1)++a.drop (ha c e a<|h+1).length).map q) ⟨v,b,rfl,b⟩ v
  have C:ha c e a (h+1)=ha c e a h:=by rw[No u,ab,gf];simpa using x
  refine aL ?_;exact aB (h+1,(ha c e a h).length,(ha c e a h++a.drop (ha c e a h).length).map q) ⟨v,b,b,aM⟩ v
 obtain rfl:h=a.length:=v;have J:ha c e a a.length=a.filter λk=>!gk c e k:=by unfold ha;rw[gq]
 rw[J] at N L⊢;refine xD (a.filter λk=>!gk c e k).length a.length (a.filter λk=>!gk c e k).length (a.length-(a.filter λk=>!gk c e k).length) ?_;refine W3 ((a.filter λk=>!gk c e k).map q) ?_ (aG:=af);refine xD 0 (a.filter λk=>!gk c e k).length 0 (a.filter λk=>!gk c e k).length ?_;exact cH
def cC(a:cy):V:=.a7 a.id a.al 0 (a.l.map q).length
def rC(a:cy):Nat×bM:=(a.id,.n a.al 1 3<|a.l.map q)
def cq(a:List cy):bd:=a.map rC
def agG:An cC (λa:cy=>.f 1<|a.l.map q) (λa=>[rC a]):=λa=>.inr ⟨a.id,a.al,1,3,a.l.map q,rfl,rfl,rfl⟩
def aku(a:List cy):a.flatMap (λb=>[rC b])=cq a:=by
 unfold cq
 induction a with|nil=>rfl|cons b a c=>(simp;omega)
def NR(a b:List cy):cq (a++b)=cq a++cq b:=cD
def DI{a:List cy}(w:I<a.length):rC (a.getD I default)∈cq a:=b4.2 ⟨_,bZ w,rfl⟩
def GW{a:List cy}(w:I<a.length):(a.map cC)[I]?=some (cC (a.getD I default)):=by simp_all
theorem vE{a:List cy}(w:I<a.length):(cZ a).getD I []=(a.getD I default).l:=by grind[cZ,List.getElem?_eq_getElem]
def zh(a:List cy):(cZ a).length=a.length:=aS ..
section
variable{F:V->Prop}
def W6{o u g:TypeId}{b:b0}{p:Operand}{c J j t:Nat}{r:List V}(A:F (q j))(B:(I,bM.n c t g r)∈O.l)(C:P.op=.call {callee:=.builtin .len,args:=#[p],argTypes:=#[o]}:=by rfl)(G:z.find o=some b:=by rfl)(a6:b.d=.slice u:=by rfl)(E:b.R=false:=by rfl)(H:val m O.h p=some (.a7 I c J j):=by rfl):c2 T z s m false P O F:=.lA (λy w x e=>by
 let bu:=(y.find G).e6 E;rw[a6] at bu;let⟨k,i⟩:=lg.1 B;let D:(O.a e).l[k]?=some (I,bM.n c t g r):=by show(O.l++ar e _)[k]?=_;rw[q0 (dm.1 i).1];exact i
 exact OZ bu C (g3 w x H (by grind[Op.operands,Call.operands]) e) D) A
end
section
variable{dF:am}
def ay.MI(dF:am)(w:∀b,dE T s t (O.a b) (λg R=>g=.normal/\(∀i j,(dF.a b).h.lookup i=some j->R.h.lookup i=some j)/\R.l.Perm (dF.a b).l))(z:e .normal dF):ay T s o t O e:=⟨λb B u p A m x=>by refine Code.wp_mono ?_<|w b p A m x;rintro g C E ⟨D,k,⟨rfl,q,r⟩,y⟩;let c:=y.wd q;exact⟨_,k,u b _ _ (cd.refl o b) z,⟨c.ci.perm r.symm,c.h,c.fk,c.size,c.defers⟩⟩⟩
theorem ay.Tk(b:bd)(z:∀y∈b,y∈O.l)(x:∃g,(b++g).Perm O.l)(w:ay T s o t {O with l:=b} e):ay T s o t O e:=⟨λk m r p j i a=>by let⟨g,u⟩:=x;refine w.run k m r p j i ⟨?_,a.h,a.fk,a.size,a.defers⟩;let q:Holds s i (b++ar k O.c++g) j:=a.ci.perm (by refine List.Perm.trans ?_<|Cc _ u;simp[zZ,rZ]);exact q.drop<|Qr _ _⟩
end
def pY(c:Nat)(F a:V):List (V×V×Nat)->List (V×V×Nat)|[]=>[(F,a,c)]|b::e=>if F.oV b.1 then(F,a,b.2.2)::e else b::pY c F a e
def wX(F:V):List (V×V×Nat)->List (V×V×Nat)|[]=>[]|b::a=>if F.oV b.1 then a else b::wX F a
def l1(F:V):List (V×V×Nat)->Option V|[]=>none|a::b=>if F.oV a.1 then some a.2.1 else l1 F b
def H8(F:V):∀(b:List (V×V×Nat))(a:Nat),kC b F (a+1)=(kC b F a).map λc=>(c.1+1,c.2)|[],a=>rfl|e::b,a=>by rw[kC,kC];split;rfl;exact H8 F b _
def NY(F:V):∀a:List (V×V×Nat),zl a F=l1 F a|[]=>rfl|c::a=>by let b:=NY F a;unfold zl at b⊢;rw[kC,l1];split;rfl;rw[H8,<-b];cases kC a F 0<;>rfl
def Ib(b:Nat)(F c:V):∀a:List (V×V×Nat),(i_ a b F c).1=pY b F c a|[]=>rfl|g::a=>by let e:=Ib b F c a;unfold i_ at e⊢;rw[kC,pY];by_cases w:F.oV g.1;simp_all;rw[aa w,aa w,H8,<-e]<;>grind
def WJ(F:V):∀a:List (V×V×Nat),nu a F=wX F a|[]=>rfl|c::a=>by let b:=WJ F a;unfold nu at b⊢;rw[kC,wX];by_cases w:F.oV c.1;simp_all;rw[aa w,aa w,H8,<-b]<;>grind
def l3(a:V):Bool:=a.isKey<|.int .i64
def U4{a:V}(w:l3 a):∃b,a=.int .i64 b:=by cases a<;>simp[l3,V.isKey] at w<;>simp_all
def oU{a b:V}(g:l3 a)(h:l3 b):a.oV b↔a=b:=by obtain⟨c,rfl⟩:=U4 g;obtain⟨e,rfl⟩:=U4 h;show(c==e)↔V.int _ c=V.int _ e;simp
open Classical in
def Hp{k:Nat}{F h a:V}(c:l3 F)(e:l3 a):∀{g:List (V×V×Nat)},(∀i∈g,l3 i.1)->l1 a (pY k F h g)=if F=a then some h else l1 a g
|[],_=>by
 show(if a.oV F then some h else none)=if F=a then some h else none
 by_cases b:F=a;simp_all[ab,oU];rw[aa λt=>b ((oU e c).1 t).symm,aa b]|i::g,w=>by let j:=w i af;rw[pY];by_cases t:F=i.1;rw[ab<|(oU c j).2 t,l1,l1];by_cases b:F=a;simp_all[ab,oU];rw[aa λM=>b ((oU e c).1 M).symm,aa b,aa λM=>b<|t.trans ((oU e j).1 M).symm];rw[aa λM=>t<|(oU c j).1 M,l1,l1,Hp c e λl m=>w l aM];by_cases b:F=a;simp_all[ab,aa,oU];simp_all
def J0{g:Nat}{F j:V}(i:l3 F):∀{c:List (V×V×Nat)},(∀a∈c,l3 a.1)->∀a∈pY g F j c,l3 a.1|[],_,a,b=>by grind[pY,List.mem_singleton]|e::c,w,a,b=>by rw[pY] at b;split at b;grind;rcases eT.1 b with rfl|h;simp_all;exact J0 i (λe k=>w e aM) a h
theorem abh{g:Nat}{F i:V}:∀{c:List (V×V×Nat)}{a:V×V×Nat},a∈pY g F i c->a.1=F\/∃e∈c,a.1=e.1|[],a,b=>by grind[pY,List.mem_singleton]|e::c,a,b=>by rw[pY] at b;split at b;grind;rcases eT.1 b with rfl|h;simp;rcases abh h with w|⟨k,ap,j⟩<;>grind
def abi{h:Nat}{F k:V}(g:l3 F):∀{e:List (V×V×Nat)},(∀c∈e,l3 c.1)->e.Pairwise (λc a=>c.1≠a.1)->(pY h F k e).Pairwise (λc a=>c.1≠a.1)|[],_,_=>by simp[pY,Cg]|a::e,w,j=>by let⟨l,i⟩:=p1.1 j;rw[pY];by_cases t:F=a.1;rw[ab<|(oU g<|w a af).2 t]<;>simp_all<;>omega;rw[aa λM=>t<|(oU g b).1 M];refine p1.2 ⟨λo ap=>?_,abi g (λa m=>w a aM) i⟩;grind[abh]
def L2{F:V}:∀a:List (V×V×Nat),(wX F a).Sublist a|[]=>.slnil|b::a=>by rw[wX];split;simp;exact .cons_cons _<|L2 (F:=F) a
theorem Uy{F:V}(c:l3 F):∀{b:List (V×V×Nat)},(∀a∈b,l3 a.1/\a.1≠F)->l1 F b=none|[],_=>rfl|e::b,w=>by rw[l1,aa λt=>(w e af).2 ((oU c (w e af).1).1 t).symm];exact Uy c λa g=>w a aM
open Classical in
def Ux{F a:V}(h:l3 F)(j:l3 a):∀{c:List (V×V×Nat)},(∀i∈c,l3 i.1)->c.Pairwise (λi b=>i.1≠b.1)->l1 a (wX F c)=if F=a then none else l1 a c|[],_,_=>by simp[wX,l1]|b::c,w,l=>by let⟨m,k⟩:=p1.1 l;let e:=w b af;rw[wX];by_cases t:F=b.1;rw[ab<|(oU h e).2 t];by_cases g:F=a;grind[Uy];rw[aa g,l1,aa λM=>g<|t.trans ((oU j e).1 M).symm];rw[aa λM=>t<|(oU h e).1 M,l1,l1,Ux h j (λb e=>w b aM) k];by_cases g:F=a;simp_all[ab,aa,oU];simp_all
structure lk(iB:List (V×V×Nat))(c9:List Nat):Prop where
 keys:∀Z∈iB,l3 Z.1
 hs:iB.Pairwise (λZ B=>Z.1≠B.1)
 get:∀W:Nat,l1 (q W) iB=if W∈c9 then some (aW true) else none
def lk.ok{a:List (V×V×Nat)}{b:List Nat}(w:lk a b):k1 (.int .i64) a:=w.keys
def In{a:Nat}(w:q I=q a):I=a:=by grind[q]
def lk.look{b:List (V×V×Nat)}{c:List Nat}(w:lk b c)(a:Nat){e:Value}(g:V.const e=aW false):pM b (q a) e false=aW (decide (a∈c)):=by unfold pM;rw[aa af,NY,w.get a]<;>grind
theorem lk.add{c:List (V×V×Nat)}{e:List Nat}(w:lk c e)(g a:Nat):lk (i_ c g (q a) (aW true)).1 (e++[a]):=by rw[Ib];refine⟨J0 rfl w.keys,abi rfl w.keys w.hs,λb=>?_⟩;rw[Hp rfl rfl w.keys,w.get b];by_cases t:a=b;simp_all;rw[aa λM=>t<|In M];grind
def lk.del{c:List (V×V×Nat)}{a:List Nat}(w:lk c (a++[I]))(h:I∉a):lk (nu c (q I)) a:=by rw[WJ];refine⟨λg e=>w.keys g<|(L2 _).subset e,w.hs.sublist<|L2 _,λb=>?_⟩;rw[Ux rfl rfl w.keys w.hs,w.get b];by_cases t:I=b;simp_all;rw[aa λM=>t<|In M];grind
def aie(a:List cy)(o:List Nat)(b:List Nat)(i:List (V×V×Nat))(h e c:Nat)(l:e<a.length)(m:c<a.length)(k:lk i b)(bq:b.length<=1000000):kO a4 fZ 277 [q e,q c,g 6000,g 6001,g 6003] (cq a) [(6000,.cell 355 (.dj 6006)),(6001,.cell 314 (g 6002)),(6002,.cell 317 (.agg [.d 6004 0 o.length,.d 6005 0 (a.map cC).length])),(6003,.cell 64 (.d 5002 0 (b.map q).length)),(6004,.n 1 3 (o.map q)),(6005,.n 1 64 (a.map cC)),(6006,.map i h),(5002,.n 1 3 (b.map q))] (λr:List (V×V×Nat)×Nat=>lk r.1<|b++[sh b (cZ a) e c]) (λ_=>.tuple []) (λ_=>cq a) (λr=>[(6000,.cell 355<|.dj 6006),(6001,.cell 314<|g 6002),(6002,.cell 317<|.agg [.d 6004 0 o.length,.d 6005 0 (a.map cC).length]),(6003,.cell 64<|.d 5002 0 ((b++[sh b (cZ a) e c]).map q).length),(6004,.n 1 3<|o.map q),(6005,.n 1 64<|a.map cC),(6006,.map r.1 r.2),(5002,.n 1 3<|(b++[sh b (cZ a) e c]).map q)]):=by
 refine kO.of_wp (z:=gT) [] eW aZ gE ⟨func277,ax,rfl⟩ rfl rfl rfl λC s x B=>?_;let y:(a.map cC).length=a.length:=aS ..;refine c7<|qG (aW<|decide (c∈b)) ?_ k.ok (dc:=k.look c rfl);apply b2;refineλA=>cz c ?_ (p:=v);refine ft (cC<|a.getD c default) ?_ (p:=GW m);refine W6 ?_<|DI m;refine cz e ?_ (p:=v);refine ft (cC<|a.getD e default) ?_ (p:=GW l);refine W6 ?_<|DI l;exact rfl;apply j<;>intro w
 .let u:sh b (cZ a) e c=c:=by unfold sh;rw[ab];rw[vE l,vE m];exact⟨w.1,v⟩
  rw[u];refine vN (i_ i h _<|aW true).1 (i_ i h _<|aW true).2 ?_ k.ok;refine dv ?_;refine eR ((b++[_]).map q) ?_ (aG:=p3) (bq:=aK);exact n7 (i_ i h (q c)<|aW true)<|k.add h c
 let u:sh b (cZ a) e c=e:=by unfold sh;rw[aa];rw[vE l,vE m];intro t;exact w ⟨t.1,v⟩
 rw[u];refine vN (i_ i h _<|aW true).1 (i_ i h _<|aW true).2 ?_ k.ok;refine dv ?_;refine eR ((b++[_]).map q) ?_ (aG:=p3) (bq:=aK);exact n7 (i_ i h (q e)<|aW true)<|k.add h e
structure pp(iB:List (V×V×Nat))(c4:List Nat)(eK:List cy):Prop where
 keys:∀Z∈iB,l3 Z.1
 len:eK.length=c4.length
 get:∀W:Nat,l1 (q W) iB=if W∈c4 then some (cC (eK.getD (c4.idxOf W) default)) else none
def pp.ok{a:List (V×V×Nat)}{c:List Nat}{b:List cy}(w:pp a c b):k1 (.int .i64) a:=w.keys
def zc(a:List Nat)(c:List cy)(b:Nat):V:=if b∈a then cC (c.getD (a.idxOf b) default) else .aQ
theorem pp.nil:pp [] [] []:=⟨λc a=>absurd a h2,rfl,λb=>ax⟩
def pp.look{e:List (V×V×Nat)}{c:List Nat}{b:List cy}(w:pp e c b)(a:Nat){g:Value}(h:V.const g=.aQ):pM e (q a) g false=zc c b a:=by unfold pM zc;rw[aa af,NY,w.get a];grind
def pp.new{g:List (V×V×Nat)}{a:List Nat}{e:List cy}(w:pp g a e)(j:I∉a)(i:Nat)(h:cy):pp (i_ g i (q I) (cC h)).1 (a++[I]) (e++[h]):=by
 rw[Ib];refine⟨J0 rfl w.keys,by rw[c_,c_,w.len];rfl,λc=>?_⟩;rw[Hp rfl rfl w.keys,w.get c];by_cases t:I=c;subst t;rw[ab rfl,ab af,ab1,aa j];simp[<-w.len];rw[aa λM=>t<|In M];by_cases b:c∈a;rw[ab b,ab (by simp[b]),ab1,ab b,cg,cg,q0 (by rw[w.len];exact rX b)]
 (simp_all;omega)
def pp.old{g:List (V×V×Nat)}{a:List Nat}{e:List cy}(w:pp g a e)(c:I∈a)(i:Nat)(h:cy):pp (i_ g i (q I) (cC h)).1 a (e.set (a.idxOf I) h):=by rw[Ib];refine⟨J0 rfl w.keys,by rw[lL,w.len],λb=>?_⟩;rw[Hp rfl rfl w.keys,w.get b];by_cases t:I=b;subst t;rw[ab rfl,ab c,cg,Qj (by rw[w.len];exact rX c)];rfl;rw[aa λM=>t<|In M];by_cases j:b∈a;have l:a.idxOf I≠a.idxOf b:=λm=>t (by have k:=Kp<|rX c;simp_all);simp_all;simp_all
theorem NW{of a:List Nat}(w:I<a.length):cM of (a.take (I+1))=if of.getD (a.getD I 0) 0∈cM of (a.take I) then cM of (a.take I) else cM of (a.take I)++[of.getD (a.getD I 0) 0]:=by unfold cM;rw[oy w,cD];exact w0
theorem HB{c a:List Nat}(w:I<a.length)(b:Nat):hE c (a.take (I+1)) b=hE c (a.take I) b++(if c.getD (a.getD I 0) 0=b then[a.getD I 0] else[]):=by unfold hE;rw[oy (M:=0) w,Qd];grind
theorem aim{a b:List Nat}(w:I∉cM a b):hE a b I=[]:=by grind[hE,List.filter_eq_nil_iff,zk]
theorem ail{a b:List Nat}(w:I∈cM a b):hE a b I≠[]:=by simp_all[zk,hE,j1,uR,h2]
def po(b c:List Nat)(a:Nat)(e:List cy):Prop:=cZ e=(cM b<|c.take a).map (hE b<|c.take a)
theorem po.at{b c:List Nat}{a:Nat}{g:List cy}(w:po b c a g){e:Nat}(h:e∈cM b (c.take a)):(cM b (c.take a)).idxOf e<g.length/\(g.getD ((cM b (c.take a)).idxOf e) default).l=hE b (c.take a) e:=by
 let i:=by have:=cW List.length w;rwa [zh,aS] at this
 let p:=rX h;refine⟨v,?_⟩;rw[<-vE v,w,cg,ch,bw p,Kp];rfl
theorem po.new{c a:List Nat}{e:List cy}(w:po c a I e)(h:I<a.length)(g:c.getD (a.getD I 0) 0∉cM c (a.take I))(i j:Nat):po c a (I+1) (e++[⟨i,j,[a.getD I 0]⟩]):=by unfold po at w⊢;rw[NW h,aa g,cD,show cZ _=cZ e++[[a.getD I 0]] by simp[cZ,cD],w];congr 1;refine gp λl k=>?_;rw[HB h,aa λt=>g b,gf];show[[a.getD I 0]]=[hE c _ _];rw[HB h,ab rfl,aim g,s8]
theorem po.old{b a:List Nat}{e:List cy}(w:po b a I e)(g:I<a.length){c:Nat}(o:b.getD (a.getD I 0) 0=c)(j:c∈cM b (a.take I)){h:cy}(p:h.l=hE b (a.take I) c++[a.getD I 0]):po b a (I+1) (e.set ((cM b (a.take I)).idxOf c) h):=by subst o;unfold po at w⊢;rw[NW g,ab j,show cZ _=(cZ e).set ((cM b (a.take I)).idxOf (b.getD (a.getD I 0) 0)) h.l by simp[cZ,gN],w,p];refine ho λm=>?_;rw[oA,aS];by_cases t:(cM b<|a.take I).idxOf (b.getD (a.getD I 0) 0)=m;subst t;let k:=rX j;rw[ab rfl,ab k,ch,bw k,Kp,iP,HB g,ab rfl];rw[aa t,ch,ch];rcases gh m _ with i|i;rw[bw i,iP,iP,HB g,aa,gf];grind[List.Nodup.idxOf_getElem,Bj];simp_all
def akw{a c:List cy}(e:I<a.length){b:Nat}(g:((a.getD I default).l.map q).length=b):Ao (cq a++cq c) (cC (a.getD I default)) b:=by exact .inr ⟨(a.getD I _).id,(a.getD I _).al,1,3,(a.getD I _).l.map q,by rw[<-g];rfl,uK _<|DI e⟩
def akx{c a:List cy}(e:I<a.length){b:Nat}(g:((a.getD I default).l.map q).length=b):Ao (cq c++cq a) (cC (a.getD I default)) b:=by exact .inr ⟨(a.getD I _).id,(a.getD I _).al,1,3,(a.getD I _).l.map q,by rw[<-g];rfl,uL _<|DI e⟩
def akt{a b:List cy}(c:I<a.length):(cq a++cq b)[I]?=some (rC (a.getD I default)):=by grind[cq,List.getElem?_eq_getElem]
def aky{a b:List cy}(e:I<a.length)(c:cy):(cq a++cq b).set I (rC c)=cq (a.set I c)++cq b:=by grind[List.set_append_left,cq,List.length_map,List.map_set]
def cp(w:da)(a:List Nat)(b:Nat):da:=JJ w.of a w<|(cM w.of a).take b
theorem ah9(w:da)(a:List Nat):cp w a (cM w.of a).length=pa w a:=by unfold cp;rw[gq];rfl
theorem aia{w:da}{a:List Nat}(b:I<(cM w.of a).length):cp w a (I+1)=uy (cp w a I) ((cM w.of a).getD I 0) (hE w.of a ((cM w.of a).getD I 0)):=by grind[cp,oy,JJ]
def ah_{w:da}(c:iT I w){a:List Nat}(h:∀O∈a,O<I)(g:a.Nodup)(b:Nat):wL I w (cp w a b) a ((cM w.of a).take b):=by have:=Pz c h g ((cM _ a).take b) [] w (.nil c a) (λi e=>⟨p0 e,h2⟩)<|(Bj).sublist<|ab9 ..;trivial
structure acH(Y:Nat)(w:da)(hz:List Nat)(bJ:Nat):Prop where
 ok:iT Y (cp w hz bJ)
 aei:(cM w.of hz).getD bJ 0<(cp w hz bJ).mem.length
 hit:∀Z∈hE w.of hz ((cM w.of hz).getD bJ 0),Z<Y
 sg:(cp w hz bJ).mem.length<=Y
def ah8{w:da}(e:iT I w){a:List Nat}(b:∀O∈a,O<I)(j:a.Nodup){c:Nat}(i:c<(cM w.of a).length):acH I w a c:=by let F:=ah_ e b j c;obtain⟨g,k,h⟩:=zk.1<|bZ i;refine⟨F.ok,h3 (by rw[<-h];exact e.lt g<|b g k) F.grow,λm l=>b m (j1.1 l).1,F.ok.count⟩
theorem akK{w:da}{a:List Nat}(b:I<(cM w.of a).length):(cM w.of a).idxOf ((cM w.of a).getD I 0)=I:=by grind[List.getElem?_eq_getElem,List.Nodup.idxOf_getElem,Bj]
theorem air{w:da}{a:List Nat}{b:List cy}(c:I<(cM w.of a).length):zc (cM w.of a) b ((cM w.of a).getD I 0)=cC (b.getD I default):=by unfold zc;rw[ab<|bZ c,akK c]
theorem po.full{b a:List Nat}{c:List cy}(w:po b a a.length c)(e:I<(cM b a).length):I<c.length/\(c.getD I default).l=hE b a ((cM b a).getD I 0):=by
 unfold po at w;rw[gq] at w;let g:=by have:=cW List.length w;rwa [zh,aS] at this
 refine⟨v,?_⟩;rw[<-vE v,w,cg,ch,cg,bw e];rfl
theorem ap3{b a:List Nat}{F:Nat}(c:F<a.length):nG b (a.take (F+1)) I=(nG b (a.take F) I).set (a.getD F 0) I:=by grind[oy,nG]
def WB(pre b a:List cy)(c:cy):(cq (pre++b)++cq (a++[c])).Perm (cq (pre++c::b)++cq a):=by unfold cq;grind[pS]
def ag1{T:Program}{s:a2}{o:Nat}{p:bn}{k:List ResultVar}{i:V->bd->Prop}{j:Exit}{O:am}(b:bd)(y:∃e,(b++e).Perm O.l)(w:g4 T s o p k i j {O with l:=b}):g4 T s o p k i j O:=⟨w.he,λq u r m g a=>by let⟨e,x⟩:=y;refine w.run q u r m g ⟨?_,a.h,a.fk,a.size,a.defers⟩;let t:Holds s g (b++ar q O.c++e) m:=a.ci.perm (by refine List.Perm.trans ?_<|Cc _ x;simp[ge,zZ,rZ]);exact t.drop<|Qr _ _⟩
def II(a:bn)(b i:List Nat)(c:List (V×V×Nat))(g:Nat)(e:List (V×V×Nat))(h:Nat):bd:=[ic a 6000 1 355 [.hF (a 6006).1 (a 6006).2],ic a 6001 1 314 [IH a 6002],ic a 6003 1 64 [zq a 5002 (b.map q).length],X6 a 6006 c g,ic a 5002 1 3<|b.map q,ic a 7 1 3<|i.map q,X6 a 20 e h]
def Bv(a:bn)(h F e:Nat)(g:List Nat)(b:List cy)(c:bd):bd:=ic a 3 1 314 [IH a 6002]::ic a 14 1 3 [q e]::ic a 6002 2 317 [.agg [zq a 6004 h,zq a 5001 F]]::ic a 6004 1 3 (g.map q)::ic a 5001 1 64 (b.map cC)::c
def ad4(b c e g h i:Nat×Nat):bn:=λa=>bif Nat.beq a 6000 then b else bif Nat.beq a 6001 then c else bif Nat.beq a 6002 then e else bif Nat.beq a 6003 then g else bif Nat.beq a 6004 then h else i
theorem agl(g:List Nat)(l:List V)(o:Nat)(i:List Nat)(s:∀p∈i,p<g.length)(t:i.length<=100000)(j k a b c e:Nat×Nat):ff a4 fZ 305 [.a7 e.1 e.2 0 (i.map q).length,.func (.func 306) [] [.own j.1 j.2 0 0,.own k.1 k.2 0 0]] [(j.1,.n j.2 1 314 [.own a.1 a.2 0 0]),(k.1,.n k.2 1 3 [q o]),(a.1,.n a.2 2 317 [.agg [.a7 b.1 b.2 0 g.length,.a7 c.1 c.2 0 l.length]]),(b.1,.n b.2 1 3 (g.map q)),(c.1,.n c.2 1 64 l),(e.1,.n e.2 1 3 (i.map q))] (λr P=>r=.a7 e.1 e.2 0 ((i.filter λp=>!gk g o p).map q).length/\P=[(j.1,.n j.2 1 314 [.own a.1 a.2 0 0]),(k.1,.n k.2 1 3 [q o]),(a.1,.n a.2 2 317 [.agg [.a7 b.1 b.2 0 g.length,.a7 c.1 c.2 0 l.length]]),(b.1,.n b.2 1 3<|g.map q),(c.1,.n c.2 1 64 l),(e.1,.n e.2 1 3<|(i.filter λp=>!gk g o p).map q)]):=by rw[aS,aS];refine ff.frame (agk g l o i rfl s t<|ad4 j k a b c e) [] ax ?_;rintro r P ⟨m,h,rfl,rfl⟩;refine⟨_,by rw[gf],?_,?_⟩;show V.a7 _ _ 0 _=_;rw[h.eq _ v];rfl;show[((m _).1,bM.n _ 1 314 [V.own _ _ 0 0]),((m _).1,bM.n _ 1 3 _),((m _).1,bM.n _ 2 317 [V.agg [.a7 _ _ 0 _,.a7 _ _ 0 _]]),((m _).1,bM.n _ 1 3 _),((m _).1,bM.n _ 1 64 l),((m _).1,bM.n _ 1 3 _)]=_;rw[h.eq _ v,h.eq 6001 v,h.eq _ v,h.eq _ v,h.eq _ v,h.eq _ v];rfl
def NI{g a:List (Nat×V)}(w:∀b∈a,g.lookup b.1=some b.2)(c:Nat)(e:V)(h:a.lookup c=some e):g.lookup c=some e:=by
 have:(c,e)∈a:=by induction a with|nil=>cases h|cons b j i=>grind
 grind
def abq:q8 a4 317 1 1 129 1:=⟨bL⟩
def abv:bG a4 314 (.pointer 317) 1 8:=⟨af,bL⟩
theorem aqL{w:da}{W:Nat}{part:List Nat}(h:¬part.length=(w.mem.getD W []).length){rE:List Nat}(i:nG w.of part w.mem.length=rE){a:List cy}(b:cZ a=w.mem){Z rU:cy}(c:Z.l=part)(e:rU.l=(w.mem.getD W []).filter λO=>!gk rE a.length O):(uy w W part).of=rE/\cZ ((a++[Z]).set W rU)=(uy w W part).mem/\(uy w W part).c9=w.c9++[sh w.c9 (cZ<|(a++[Z]).set W rU) a.length W]:=by
 let g:a.length=w.mem.length:=by rw[<-b,zh]
 let hm:cZ ((a++[Z]).set W rU)=(w.mem++[part]).set W ((w.mem.getD W []).filter λO=>!decide (rE.getD O 0=w.mem.length)):=by unfold cZ;rw[gN,cD,e,show a.map _=w.mem from b];show(w.mem++[Z.l]).set W _=_;rw[c];congr 1;refine Qe λO _=>?_;congr 1;exact mu.2 v
 unfold uy;simp_all
def anj{r:Type}{a:List r}{b c e g h i:r}(j:a[0]?=some b)(k:a[1]?=some c)(l:a[2]?=some e)(m:a[3]?=some g)(o:a[4]?=some h)(p:a[5]?=some i):∃q,a=b::c::e::g::h::i::q:=by
 match a,j,k,l,m,o,p with|s::t::u::w::x::y::q,j,k,l,m,o,p=>simp_all
def aag(o:Nat)(w:da)(hk:iT o w)(ca:o<=100000)(a:List Nat)(ah:∀O∈a,O<o)(aP:a.Nodup)(A:List cy)(aY:cZ A=w.mem)(T:List (V×V×Nat))(av:Nat)(bk:lk T w.c9):kO a4 fZ 278 [g 6002,.f 1 (a.map q),.func (.func 277) [] [g 6000,g 6001,g 6003]] (cq A) [(6000,.cell 355 (.dj 6006)),(6001,.cell 314 (g 6002)),(6002,.cell 317 (.agg [.d 6004 0 o,.d 5001 0 (A.map cC).length])),(6003,.cell 64 (.d 5002 0 (w.c9.map q).length)),(6004,.n 1 3 (w.of.map q)),(5001,.n 1 64 (A.map cC)),(6006,.map T av),(5002,.n 1 3 (w.c9.map q))] (λI:List cy×List (V×V×Nat)×Nat=>cZ I.1=(pa w a).mem/\lk I.2.1 (pa w a).c9) (λ_=>.tuple []) (λI=>cq I.1) (λI=>[(6000,.cell 355<|.dj 6006),(6001,.cell 314<|g 6002),(6002,.cell 317<|.agg [.d 6004 0 o,.d 5001 0 (I.1.map cC).length]),(6003,.cell 64<|.d 5002 0 ((pa w a).c9.map q).length),(6004,.n 1 3<|(pa w a).of.map q),(5001,.n 1 64<|I.1.map cC),(6006,.map I.2.1 I.2.2),(5002,.n 1 3<|(pa w a).c9.map q)]):=by
 refine kO.of_wp (z:=gT) [2004,2024] eW aZ gE ⟨func278,ax,rfl⟩ rfl rfl rfl λcj s aX be=>?_;have b5:j2 a4 gT s fZ _ [2004,2024]:=⟨eW,aZ,aX,gE,be⟩;have cb:(a.map q).length=a.length:=aS ..;have cc:a.length<=o:=by have:=nK aP (W:=List.range o) λZ ai=>fq.2<|ah Z ai;rwa [gM] at this
 apply j<;>intro b6
 .have w:a=[]:=Kq.1 v;subst w;rw[show pa w []=w from rfl];exact n7 (A,T,av) ⟨aY,bk⟩
 refine ay.dI 7 1 3 [7] none ?_;refine cP ?_;refine cQ (Nat×List cy×List (V×V×Nat)×Nat) (λh=>⟨[(2,.func (.func 277) [] [g 6000,g 6001,g 6003]),(3,g 3),(6,.dj 20),(7,.d 7 0 ((cM w.of<|a.take h.1).map q).length),(21,.f 1<|a.map q),(22,q (a.map q).length),(23,q h.1)],[(6004,.n 1 3<|w.of.map q),(5001,.n 1 64<|A.map cC),(5002,.n 1 3<|w.c9.map q),(7,.n 1 3<|(cM w.of<|a.take h.1).map q),(3,.cell 314<|g 6002),(6000,.cell 355<|.dj 6006),(6001,.cell 314<|g 6002),(6002,.cell 317<|.agg [.d 6004 0 o,.d 5001 0 (A.map cC).length]),(6003,.cell 64<|.d 5002 0 (w.c9.map q).length),(6006,.map T av),(20,.map h.2.2.1 h.2.2.2)],cq h.2.1++cq A⟩) (λh=>h.1<=a.length/\pp h.2.2.1 (cM w.of<|a.take h.1) h.2.1/\po w.of a h.1 h.2.1) (λh=>a.length-h.1) (0,[],[],0) (λ⟨H,m,y,bI⟩ ⟨bW,C,an⟩=>?_) ⟨c1 _,pp.nil,rfl⟩;dsimp only at bW C an⊢;apply j<;>intro b7
 .have Y:H<a.length:=v;obtain⟨W,X⟩:∃W,w.of.getD (a.getD H 0) 0=W:=⟨_,rfl⟩;have bS:a.getD H 0<o:=ah _<|bZ Y;have bi:w.of.length=o:=hk.len;have bE:(cM w.of (a.take (H+1))).length<=o:=by refine cA (nK Bj (W:=List.range w.mem.length) λZ ai=>?_) (by rw[gM];exact hk.count);let⟨ao,aO,aE⟩:=zk.1 ai;rw[fq,<-aE];exact hk.lt ao<|ah ao<|p0 aO
  have aH:=NW (of:=w.of) Y;rw[X] at aH;have b9:(hE w.of (a.take H) W).length<=o:=by refine cA (ab3 ..) ?_;rw[m7];omega
  refine aJ H (q<|a.getD H 0) ?_ (p:=dg Y);refine cz (a.getD H 0) ?_ (p:=bS);refine ft (q W) ?_ (p:=b);by_cases Q:W∈cM w.of (a.take H)
  .have ag:cM w.of (a.take (H+1))=cM w.of (a.take H):=by rw[aH,ab Q]
   let⟨az,aA⟩:=an.at Q;have P:∀h,V.const h=.aQ->pM y (q W) h false=cC (m.getD ((cM w.of (a.take H)).idxOf W) default):=λh ap=>by rw[C.look W ap];simp_all[zc,ab]
   obtain⟨F,ae⟩:∃F,(cM w.of (a.take H)).idxOf W=F:=⟨_,rfl⟩;obtain⟨Z,aD⟩:∃Z,m.getD F default=Z:=⟨_,rfl⟩;rw[ae,aD] at aA;simp only[ae,aD] at P;rw[ae] at az;have bJ:Ao (cq m++cq A) (cC Z) (Z.l.map q).length:=by rw[<-aD];exact akw az rfl
   have ce:(Z.l.map q).length=(hE w.of (a.take H) W).length:=by rw[aS,aA]
   have bx:(cq m++cq A)[F]?=some (Z.id,bM.n Z.al 1 3 (Z.l.map q)):=by rw[akt az,aD];rfl
   have bQ:(cq m++cq A).set F (Z.id,bM.n (Z.al+1) 1 3 (Z.l.map q++[q (a.getD H 0)]))=cq (m.set F ⟨Z.id,Z.al+1,hE w.of (a.take H) W++[a.getD H 0]⟩)++cq A:=by rw[<-aky az,rC,aA,cD];rfl
   have am:V.a7 Z.id (Z.al+1) 0 ((Z.l.map q).length+[q (a.getD H 0)].length)=cC ⟨Z.id,Z.al+1,hE w.of (a.take H) W++[a.getD H 0]⟩:=by unfold cC;rw[aA,cD,c_];rfl
   rw[<-ag];refine qG _ ?_ C.ok (dc:=P _ rfl);refine Ih ?_ bJ;apply j<;>intro bz
   .grind[absurd,List.length_eq_zero_iff,hE,List.length_map,ail]
   refine qG _ ?_ C.ok (dc:=P _ rfl);refine dv ?_;refine ak4 F ?_ bx bQ rfl p2;refine vN (i_ y bI (q W)<|cC ⟨Z.id,Z.al+1,hE w.of (a.take H) W++[a.getD H 0]⟩).1 (i_ y bI (q W)<|cC ⟨Z.id,Z.al+1,hE w.of (a.take H) W++[a.getD H 0]⟩).2 ?_ C.ok (hu:=b);refine aL ?_;exact aB (H+1,m.set F ⟨Z.id,Z.al+1,hE w.of (a.take H) W++[a.getD H 0]⟩,(i_ y bI (q W)<|cC ⟨Z.id,Z.al+1,hE w.of (a.take H) W++[a.getD H 0]⟩).1,(i_ y bI (q W)<|cC ⟨Z.id,Z.al+1,hE w.of (a.take H) W++[a.getD H 0]⟩).2) ⟨v,by rw[ag,<-ae];exact C.old Q bI _,by dsimp only;rw[<-ae];exact an.old Y X Q rfl⟩ v
  have ag:cM w.of (a.take (H+1))=cM w.of (a.take H)++[W]:=by rw[aH,aa Q]
  have P:∀h,V.const h=.aQ->pM y (q W) h false=.aQ:=λh ap=>by rw[C.look W ap];simp_all[zc,aa]
  have b_:(cM w.of (a.take H)).length+1<=o:=by have:=bE;rw[ag,c_] at this;exact this
  have bv:∀G:Nat,(cq (m++[⟨G,1,[a.getD H 0]⟩])++cq A).Perm (cq m++cq A++[(G,bM.n 1 1 3 [q (a.getD H 0)])]):=λG=>by rw[NR,ge,ge];exact zZ _ rZ
  have a0:=Q;rw[<-X] at a0;refine qG _ ?_ C.ok (dc:=P _ rfl);apply j<;>intro bz
  .refine dv ?_;refine eR ((cM w.of<|a.take<|H+1).map q) ?_ (aG:=b) (bq:=aK);refine qG _ ?_ C.ok (dc:=P _ rfl);refine dv ?_;refine ak2 (λG=>cq (m++[⟨G,1,[a.getD H 0]⟩])++cq A) (λG=>?_) bv af;refine vN (i_ y bI (q W)<|cC ⟨G,1,[a.getD H 0]⟩).1 (i_ y bI (q W)<|cC ⟨G,1,[a.getD H 0]⟩).2 ?_ C.ok;refine aL ?_;exact aB (H+1,m++[⟨G,1,[a.getD H 0]⟩],(i_ y bI (q W)<|cC ⟨G,1,[a.getD H 0]⟩).1,(i_ y bI (q W)<|cC ⟨G,1,[a.getD H 0]⟩).2) ⟨v,by rw[ag];exact C.new Q bI _,an.new Y a0 G 1⟩ v
  omega
 obtain rfl:H=a.length:=v;rw[gq] at C⊢;refine cQ (Nat×List cy×List cy×List (V×V×Nat)×Nat) (λh=>⟨[(2,.func (.func 277) [] [g 6000,g 6001,g 6003]),(3,g 3),(6,.dj 20),(52,.d 7 0 ((cM w.of a).map q).length),(53,q ((cM w.of a).map q).length),(54,q h.1)],[(7,.n 1 3<|(cM w.of a).map q),(6004,.n 1 3<|(cp w a h.1).of.map q),(5001,.n 1 64<|h.2.2.1.map cC),(5002,.n 1 3<|(cp w a h.1).c9.map q),(3,.cell 314<|g 6002),(6000,.cell 355<|.dj 6006),(6001,.cell 314<|g 6002),(6002,.cell 317<|.agg [.d 6004 0 o,.d 5001 0 (h.2.2.1.map cC).length]),(6003,.cell 64<|.d 5002 0 ((cp w a h.1).c9.map q).length),(20,.map y bI),(6006,.map h.2.2.2.1 h.2.2.2.2)],cq h.2.1++cq h.2.2.1⟩) (λh=>h.1<=(cM w.of a).length/\cZ h.2.2.1=(cp w a h.1).mem/\lk h.2.2.2.1 (cp w a h.1).c9/\∃pre,h.2.1=pre++m.drop h.1) (λh=>(cM w.of a).length-h.1) (0,m,A,T,av) (λ⟨c,b0,e,J,K⟩ ⟨bU,R,ak,pre,bn⟩=>?_) ⟨c1 _,aY,bk,[],rfl⟩;dsimp only at bU R ak bn⊢;subst bn;apply j<;>intro a2
 .try simp only[aS] at a2
  have ad:c<(cM w.of a).length:=v;have aq:=ah8 hk ah aP ad;have aC:=aia ad;let⟨aW,aw⟩:=an.full ad;have bb:zc (cM w.of a) m ((cM w.of a).getD c 0)=cC (m.getD c default):=air ad;have a9:m.drop c=m.getD c default::m.drop (c+1):=by rw[iO aW,cg,bw aW];rfl
  have b1:(cM w.of a).length<=o:=by refine cA (nK Bj (W:=List.range w.mem.length) λZ ai=>?_) (by rw[gM];exact hk.count);let⟨ao,aO,aE⟩:=zk.1 ai;rw[fq,<-aE];exact hk.lt ao<|ah ao aO
  have S:=aq.ok;have bs:=aq.aei;have aU:=aq.hit;have aV:=aq.sg;have ba:((cM w.of a).map q)[c]?=some (q ((cM w.of a).getD c 0)):=dg ad;obtain⟨x,bC⟩:∃x,cp w a c=x:=⟨_,rfl⟩;obtain⟨W,X⟩:∃W,(cM w.of a).getD c 0=W:=⟨_,rfl⟩;obtain⟨Z,bT⟩:∃Z,m.getD c default=Z:=⟨_,rfl⟩;simp only[X,bC,bT] at aw bb a9 aC ba S bs aU aV R ak⊢;rw[a9];have b3:e.length=x.mem.length:=by rw[<-R,zh]
  have P:∀h,V.const h=.aQ->pM y (q W) h false=cC Z:=λh ap=>by rw[C.look W ap,bb]
  obtain⟨k,am⟩:∃k,e.getD W default=k:=⟨_,rfl⟩;have aR:k.l=x.mem.getD W []:=by rw[<-am,<-vE v,R]
  have aN:(Z.id,bM.n Z.al 1 3 (Z.l.map q))∈cq (pre++Z::m.drop (c+1))++cq e:=uK _<|b4.2 ⟨Z,af,rfl⟩;have bj:Ao (cq (pre++Z::m.drop (c+1))++cq e) (cC Z) (Z.l.map q).length:=.inr ⟨Z.id,Z.al,1,3,Z.l.map q,rfl,aN⟩;have bO:Ao (cq (pre++Z::m.drop (c+1))++cq e) (cC k) (k.l.map q).length:=by rw[<-am];exact akx v rfl
  have bc:(e.map cC)[W]?=some (cC k):=by rw[<-am];exact GW v
  have bl:∀O∈Z.l,O<o:=λO N=>aU O b;have bi:x.of.length=o:=S.len;have bV:∀O∈k.l,O<o:=λO N=>by rw[aR] at N;exact((S.mem W O).1 N).1
  have ch:k.l.length<=o:=by have:=nK (E:=k.l) (W:=List.range o) (by rw[aR];exact S.hs W) λO N=>fq.2<|bV O N;rwa [gM] at this
  have cf:Z.l.length<=o:=by have:=nK (E:=Z.l) (W:=List.range o) (by rw[aw];exact aP.filter _) λO N=>fq.2<|bl O N;rwa [gM] at this
  refine cz c ?_ (p:=aK);refine ft (q W) ?_ (p:=ba);refine qG _ ?_ C.ok (dc:=P _ rfl);refine Ih ?_ bj;refine cz W ?_ (p:=aK);refine ft (cC k) ?_ (p:=bc);refine Ih ?_ bO;apply j<;>intro a3
  .try simp only[aS] at a3
   have bP:cp w a (c+1)=x:=by rw[aC,uy,ab p2]
   rw[<-bP];refine aL ?_;exact aB (c+1,pre++Z::m.drop (c+1),e,J,K) ⟨v,aM,aM,pre++[Z],af⟩ v
  try simp only[aS] at a3
  have bH:¬(hE w.of a W).length=(x.mem.getD W []).length:=by rw[<-aR,<-aw];omega
  obtain⟨u,aI⟩:∃u,(e.map cC).length=u:=⟨_,rfl⟩;have bB:u=e.length:=by rw[<-aI,aS]
  rw[aI];refine Ih ?_ bj;refine dL Z.l.length (λF=>⟨[(2,.func (.func 277) [] [g 6000,g 6001,g 6003]),(3,g 3),(6,.dj 20),(12,q W),(13,cC Z),(14,g 14),(52,.d 7 0 ((cM w.of a).map q).length),(53,q ((cM w.of a).map q).length),(54,q c),(77,cC Z),(78,q (Z.l.map q).length),(79,q F)],[(7,.n 1 3<|(cM w.of a).map q),(6004,.n 1 3<|(nG x.of (Z.l.take F) u).map q),(5001,.n 1 64<|e.map cC),(5002,.n 1 3<|x.c9.map q),(14,.cell 3<|q u),(3,.cell 314<|g 6002),(6000,.cell 355<|.dj 6006),(6001,.cell 314<|g 6002),(6002,.cell 317<|.agg [.d 6004 0 o,.d 5001 0 u]),(6003,.cell 64<|.d 5002 0 (x.c9.map q).length),(20,.map y bI),(6006,.map J K)],cq (pre++Z::m.drop (c+1))++cq e⟩) λF hk=>?_;apply j<;>intro a5
  .try simp only[aS] at a5
   have bd:F<Z.l.length:=v;refine alc F ?_ aN (p:=aK);refine ald (q<|Z.l.getD F 0) ?_ aN (show(Z.l.map q)[0+F]?=some (q (Z.l.getD F 0)) by simp_all);refine dC ?_;refine a_ (λ_=>cz (Z.l.getD F 0) rfl (p:=bl _<|bZ bd)) ?_;refine uE ((nG x.of (Z.l.take<|F+1) u).map q) (q<|(nG x.of (Z.l.take F) u).getD (Z.l.getD F 0) 0) (q u) ?_ (p:=dg (by grind[Jz,bZ])) (aG:=by rw[ap3 bd,gN]);refine fm ?_;refine aL ?_;exact aB (F+1)
  try simp only[aS] at a5
  obtain rfl:F=Z.l.length:=v;rw[gq];refine dC ?_;refine a_ (λ_=>jv rfl (hlen:=λM a6=>by rw[cV.1 a6];rfl)) ?_;refine jB 98 ((e++[Z]).map cC) ?_ (fC:=.f rfl rfl rfl rfl λM a6=>by rw[cV.1 a6];rfl) (hlen:=aI.symm) (aG:=af) (bq:=aK);refine eJ ?_;refine iK [(98,5001)] ?_;obtain⟨rE,bf⟩:∃rE,nG x.of Z.l u=rE:=⟨_,rfl⟩;rw[bf];obtain⟨rU,bm⟩:∃rU:cy,rU=⟨k.id,k.al,k.l.filter λO=>!gk rE u O⟩:=⟨_,rfl⟩;obtain⟨B,U⟩:∃B,(e++[Z]).set W rU=B:=⟨_,rfl⟩;have bg:rE.length=o:=by rw[<-bf,Jz,bi]
  let⟨bo,br,aT⟩:=aqL (w:=x) (W:=W) (part:=hE w.of a W) bH (rE:=rE) b R (Z:=Z) (rU:=rU) aw b;rw[<-aC,U] at br aT;rw[<-aC] at bo;rw[<-bB] at aT;have b2:B.length=e.length+1:=by rw[<-U,lL,c_];rfl
  have cd:x.c9.length<=o:=by have:=nK S.wn (W:=List.range o) λO N=>fq.2<|h3 (S.pi O N) aV;rwa [gM] at this
  have a8:=aie B rE x.c9 J K u W v v ak v;rw[bg,<-aT] at a8;subst bo;have bD:cZ B=(cp w a (c+1)).mem:=br;have aF:W<(e++[Z]).length:=by rw[c_];omega
  have b8:((e++[Z]).map cC)[W]?=some (cC k):=by rw[cD,q0 v];exact bc
  have bu:(e++[Z]).getD W default=k:=by rw[cg,q0 v,<-cg];exact am
  have bt:((e++[Z]).map cC).length=(B.map cC).length:=by rw[<-U,aS,aS,lL]
  refine ay.Tk (cq (pre++m.drop (c+1))++cq (e++[Z])) (λci bK=>(WB pre (m.drop<|c+1) e Z).subset bK) ⟨[],(by rw[gf];exact WB pre (m.drop<|c+1) e Z)⟩ ?_;refine lB ⟨[(2,.func (.func 277) [] [g 6000,g 6001,g 6003]),(3,g 3),(6,.dj 20),(12,q W),(14,g 14),(52,.d 7 0 ((cM w.of a).map q).length),(53,q ((cM w.of a).map q).length),(54,q c)],[(3,.cell 314<|g 6002),(14,.cell 3<|q u),(6002,.cell 317<|.agg [.d 6004 0 o,.d 5001 0 ((e++[Z]).map cC).length]),(6004,.n 1 3<|(cp w a<|c+1).of.map q),(5001,.n 1 64<|(e++[Z]).map cC),(6000,.cell 355<|.dj 6006),(6001,.cell 314<|g 6002),(6003,.cell 64<|.d 5002 0 (x.c9.map q).length),(6006,.map J K),(5002,.n 1 3<|x.c9.map q),(7,.n 1 3<|(cM w.of a).map q),(20,.map y bI)],cq (pre++m.drop (c+1))++cq (e++[Z])⟩ ?_;refine cP ?_;refine ay.MI ⟨[(2,.func (.func 277) [] [g 6000,g 6001,g 6003]),(3,g 3),(6,.dj 20),(12,q W),(14,g 14),(52,.d 7 0 ((cM w.of a).map q).length),(53,q ((cM w.of a).map q).length),(54,q c)],[(3,.cell 314<|g 6002),(14,.cell 3<|q u),(6002,.cell 317<|.agg [.d 6004 0 o,.d 5001 0 ((e++[Z]).map cC).length]),(6004,.n 1 3<|(cp w a<|c+1).of.map q),(5001,.n 1 64<|B.map cC),(6000,.cell 355<|.dj 6006),(6001,.cell 314<|g 6002),(6003,.cell 64<|.d 5002 0 (x.c9.map q).length),(6006,.map J K),(5002,.n 1 3<|x.c9.map q),(7,.n 1 3<|(cM w.of a).map q),(20,.map y bI)],cq (pre++m.drop (c+1))++cq B⟩ (λr=>?_) ?_;have bF:cq (e++[Z])=cq ((e++[Z]).take W)++rC k::cq ((e++[Z]).drop (W+1)):=by
   conv=>lhs;rw[PO aF]
   rw[NR,<-bu,cg,bw aF];rfl
  have bG:cq B=cq ((e++[Z]).take W)++rC rU::cq ((e++[Z]).drop (W+1)):=by rw[<-U,Pr aF,NR];rfl
  refine dE.perm (Bv r o ((e++[Z]).map cC).length u (cp w a<|c+1).of (e++[Z])<|(k.id,bM.n k.al 1 3<|(k.l).map q)::(cq (pre++m.drop (c+1))++(cq ((e++[Z]).take W)++cq ((e++[Z]).drop<|W+1))++II r x.c9 (cM w.of a) J K y bI)) ?_ ?_;show List.Perm _ (cq (pre++m.drop (c+1))++cq (e++[Z])++Bv r o ((e++[Z]).map cC).length u (cp w a (c+1)).of (e++[Z]) (II r x.c9 (cM w.of a) J K y bI));rw[bF];refine pS λE=>?_
  (simp[Cd,Fs,Kl,rC,Bv];omega)
  have bA:=agl (cp w a<|c+1).of ((e++[Z]).map cC) u k.l b v (r 3) (r 14) (r 6002) (r 6004) (r 5001) (k.id,k.al);rw[bg] at bA;refine CV [([0],[]),([2],[]),([2],[]),([2],[]),([],[]),([0],[]),([2],[]),([2],[]),([2],[]),([],[]),([4],[]),([4],[]),([],[]),([0,1,2,3,4],[5]),([4],[]),([],[4])] eW be ?_;refine bp.cw [0] (λl w=>nz 0 abv (hk:=(w 0 aj).trans rfl)) ?_;refine bp.cw [2] (λl w=>BI (F:=2) (hk:=(w 2 aj).trans rfl)) ?_;refine bp.cw [2] (λl w=>BD (F:=2) abq (hk:=(w 2 aj).trans rfl)) ?_;refine bp.cw [2] (λl w=>nz 2 lG (hk:=(w 2 aj).trans rfl)) ?_;refine bp.cw [] (λl w=>hX) ?_;refine bp.cw [0] (λl w=>nz 0 abv (hk:=(w 0 aj).trans rfl)) ?_;refine bp.cw [2] (λl w=>BI (F:=2) (hk:=(w 2 aj).trans rfl)) ?_;refine bp.cw [2] (λl w=>BD (F:=2) abq (hk:=(w 2 aj).trans rfl)) ?_;refine bp.cw [2] (λl w=>nz 2 lG (hk:=(w 2 aj).trans rfl)) ?_;refine bp.cw [] (λl w=>hX) ?_;refine bp.cw [4] (λl w=>pT 4 (H:=W) lG uD (hk:=(w 4 aj).trans rfl) (p:=aK)) ?_;refine bp.cw [4] (λl w=>nz 4 (el:=cC k) jh (hk:=(w 4 aj).trans rfl) (p:=b)) ?_;refine bp.cw [] (λl w=>Ya ax (Ge ax)<|Ge ax) ?_;refine bp.up [0,1,2,3,4] 5 (k.id,.n k.al 1 3<|(k.l.filter λO=>!gk (cp w a<|c+1).of u O).map q) (D:=.a7 k.id k.al 0 ((k.l.filter λO=>!gk (cp w a<|c+1).of u O).map q).length) (λl L=>?_) ?_;obtain⟨rest,rfl⟩:=anj ((L 0 aj).trans rfl) ((L 1 aj).trans rfl) ((L 2 aj).trans rfl) ((L 3 aj).trans rfl) ((L 4 aj).trans rfl)<|(L 5 aj).trans rfl;exact Mc (rest:=rest) (pass:=[ic r 3 1 314 [IH r 6002],ic r 14 1 3 [q u],ic r 6002 2 317 [.agg [zq r 6004 o,zq r 5001 ((e++[Z]).map cC).length]],ic r 6004 1 3<|(cp w a<|c+1).of.map q,ic r 5001 1 64<|(e++[Z]).map cC,(k.id,bM.n k.al 1 3<|(k.l).map q)]) (IU:=[ic r 3 1 314 [IH r 6002],ic r 14 1 3 [q u],ic r 6002 2 317 [.agg [zq r 6004 o,zq r 5001 ((e++[Z]).map cC).length]],ic r 6004 1 3<|(cp w a<|c+1).of.map q,ic r 5001 1 64<|(e++[Z]).map cC,(k.id,bM.n k.al 1 3<|(k.l.filter λO=>!gk (cp w a<|c+1).of u O).map q)]) rfl ⟨bL⟩ (first:=[]) rfl (Ge rfl) (x9 _) (by rw[aX];trivial)<|x9 _;refine bp.cw [4] (λl L=>pT 4 (H:=W) lG uD (hk:=(L 4 aj).trans rfl) (p:=aK)) ?_;refine bp.up [] 4 ((r 5001).1,.n (r 5001).2 1 64<|B.map cC) (D:=.undef) (λl L=>?_) ?_;refine dP.e1 (C4 4 (H:=0+W) (t:=0) (fV:=(e++[Z]).map cC) (el:=cC k) jh (hk:=(L 4 aj).trans rfl) (p:=b)) rfl ?_;show l.set 4 (ic r 5001 1 64 (((e++[Z]).map cC).set (0+W) (.a7 k.id k.al 0 ((k.l.filter λO=>!gk (cp w a<|c+1).of u O).map q).length)))=_;rw[<-U,gN,bm,kk];rfl;refine bp.nil ⟨rfl,λbX bY bR=>NI ?_ bX bY bR,?_⟩;refine j0.2 ⟨ax,j0.2 ⟨ax,j0.2 ⟨ax,j0.2 ⟨ax,j0.2 ⟨ax,j0.2 ⟨ax,j0.2 ⟨ax,j0.2 ⟨ax,λ_ x=>absurd x h2⟩⟩⟩⟩⟩⟩⟩⟩;show List.Perm (Bv r o ((e++[Z]).map cC).length u (cp w a (c+1)).of B ((k.id,bM.n k.al 1 3 ((k.l.filter λO=>!gk (cp w a<|c+1).of u O).map q))::(cq (pre++m.drop (c+1))++(cq ((e++[Z]).take W)++cq ((e++[Z]).drop<|W+1))++II r x.c9 (cM w.of a) J K y bI))) (cq (pre++m.drop (c+1))++cq B++Bv r o ((e++[Z]).map cC).length u (cp w a (c+1)).of B (II r x.c9 (cM w.of a) J K y bI));rw[bG,show rC rU=(k.id,bM.n k.al 1 3 ((k.l.filter λO=>!gk (cp w a<|c+1).of u O).map q)) by rw[bm];rfl];grind[pS,Bv];rw[bt];refine hQ [(6000,6000),(6001,6001),(6002,6002),(6003,6003),(6004,6004),(6005,5001),(6006,6006),(5002,5002)] (λ_=>cq (pre++m.drop (c+1))++cq B) (cq<|pre++m.drop (c+1)) (λI bN=>?_) (i:=a8) (vC:=rZ) (vB:=λ_ _=>rZ);refine aL ?_;exact aB (c+1,pre++m.drop (c+1),B,I.1,I.2) ⟨v,bD,bN,pre,rfl⟩ v
 try simp only[aS] at a2
 obtain rfl:c=(cM w.of a).length:=v;rw[ah9] at R ak⊢;exact ag1 (cq e) ⟨_,rZ⟩<|n7 (e,J,K) ⟨R,ak⟩
def C6(a:cy):V:=.f 1<|a.l.map q
def y4(a:cy):V:=if a.l=[] then .aQ else .f 1 (a.l.map q)
def Ty:An ep y4 oj:=λa=>by unfold oj y4 ep;grind
def aH.ahJ{s:a2}{o:List (Nat×V)}{k:Act}{p:World}{j:aF}{h i:Nat}{l:TypeId}{a:List cy}{b K4:bd}(w:aH s ⟨o,bU a++(I,.n h i l (a.map ep))::b⟩ k p j)(g:bW (r5 I h i (a.map C6)) b K4):∃q,aH s ⟨o,K4⟩ k p q:=by
 let⟨r,m⟩:=aH.nest Ty a [] [] b j w;let u:=by refine m.n2 (Oq:=(I,.n h i l<|a.map C6)::b) (aF.le.refl r) m.ci lO.eZ (lO.one (K:=1)) (λC z g=>⟨z,g,.refl _⟩) ?_;refine bW.n _ _ _ _ _ _ af (λy A B c e=>?_)<|bW.refl _;rw[s8,ch] at c;rw[ch] at e;cases x:a[y]? with|none=>simp_all|some D=>rw[x] at c e;cases c;cases e;unfold y4 C6;split;rename_i t;rw[t];exact .base _ _ .nil;exact .refl _
 exact aH.Um u g
def afZ{a:bb}{b:bt}(w:bI a I=some b):fJ a I b=a:=by grind[GD]
theorem ap7{l m i:Nat}{g h:List V}{e:Nat}(o:i=h.length)(w:g[e]?=some (.a7 I l 0 i))(c:Nat)(j k:V)(b:g[c]?=some j)(a:(g.set e (.f m h))[c]?=some k):eA (r5 I l m h) j k:=by subst o;rw[oA] at a;by_cases t:e=c;subst t;rw[ab rfl] at a;split at a;cases a;rw[w] at b;cases b;exact .base _ _ .d;trivial;rw[aa t] at a;rw[b] at a;cases a;exact .refl _
def CI(M:dr)(t:Nat):List (List Nat):=(List.range M.bi.length).map λa=>(List.range M.bi.length).filter λb=>decide (i1 M b t=a)
def qj(M:dr)(t:Nat):V:=.f 1<|(CI M t).map bl
def iJ(M:dr)(t:Nat):List V:=(List.range M.fst.length).map λa=>if a<t then qj M a else .aQ
def jU(M:dr):Nat->V->List V|0,_=>iJ M 0|t+1,P=>(iJ M t).set t P
def XZ{M:dr}{t:Nat}(a:I<M.fst.length):(iJ M t)[I]?=some (if I<t then qj M I else .aQ):=by grind[iJ,List.getElem?_range]
def amp{M:dr}{t:Nat}(b:t<M.fst.length):(iJ M t).set t (qj M t)=iJ M (t+1):=by refine ho λc=>?_;rw[oA];by_cases a:t=c;subst a;rw[ab rfl,XZ b,ab<|uM _,ab (by(simp[iJ,aS,gM];omega))];grind[List.getElem?_eq_none,iJ,List.length_map,List.length_range]
def amo(M:dr):iJ M M.fst.length=(List.range M.fst.length).map (qj M):=by(simp[iJ,gp,ab,fq];omega)
def FP(M:dr)(t:Nat)(P:V)(c:bd):Prop:=t=0/\c=[]\/∃b id e a,t=b+1/\b<M.fst.length/\P=.a7 id e 0 M.bi.length/\c=(id,.n e 1 64<|a.map ep)::bU a/\cZ a=CI M b
def aH.Hj{M:dr}{F:Nat}{P:V}(E:FP M F P O.l)(g:Nat){i:TypeId}(y:bI O.c g=some (.n I i (jU M F P))){b:bn}{k:Act}{t:World}{w:aF}(m:aH s (O.a b) k t w):∃q,aH s ((⟨O.h,fJ O.c g (.n I i (iJ M F)),[]⟩:am).a b) k t q:=by
 rcases E with⟨rfl,u⟩|⟨e,id,j,r,rfl,z,rfl,D,x⟩;rw[show bt.n I i (iJ M 0)=bt.n I i (jU M 0 P) from rfl,afZ y];have:O=⟨O.h,O.c,[]⟩:=by cases O;subst u;rfl
 grind;obtain⟨o,p,B,u⟩:=GD y;have H:(jU M (e+1) (.a7 id j 0 M.bi.length))[e]?=some (.a7 id j 0 M.bi.length):=by show((iJ M e).set e _)[e]?=_;rw[Qj];unfold iJ;rw[aS,gM];exact z
 have N:=by have:=cW List.length x;rw[zh] at this;unfold CI at this;rwa [aS,gM] at this
 have G:V.f 1 (r.map C6)=qj M e:=by unfold qj;rw[<-x,cZ,ez];rfl
 have A:ar b O.c=ar b o++((b g).1,.n (b g).2 I i (jU M (e+1) (.a7 id j 0 M.bi.length)))::ar b p:=by rw[B];simp[ar,cD];rfl
 have C:aH s ⟨cj b O.h,bU r++(id,.n j 1 64 (r.map ep))::(ar b o++((b g).1,.n (b g).2 I i (jU M (e+1) (.a7 id j 0 M.bi.length)))::ar b p)⟩ k t w:=by refine⟨m.ci.perm ?_,m.h,m.fk,m.size,m.defers⟩;show List.Perm _ (O.l++ar b _);rw[A,D];refine pS λk=>?_;simp[Cd,Fs];omega
 obtain⟨q,L⟩:=aH.ahJ (K4:=ar b o++((b g).1,.n _ I i _)::ar b p) C (by refine bW.nf ?_<|bW.refl _;exact bW.n _ _ _ _ _ _ af (ap7 aK H)<|bW.refl _);refine⟨q,?_⟩;have J:(jU M (e+1) (.a7 id j 0 M.bi.length)).set e (.f 1 (r.map C6))=iJ M (e+1):=by show((iJ M e).set e _).set e _=_;rw[yd,G,amp z]
 have K:ar b (fJ O.c g (.n I i (iJ M (e+1))))=ar b o++((b g).1,.n (b g).2 I i (iJ M (e+1)))::ar b p:=by rw[u];simp[ar,cD];rfl
 show aH s ⟨cj b _,[]++ar b _⟩ k t q;simp_all
def ay.Hj{M:dr}{F:Nat}{P:V}{b:bd}(q:FP M F P b)(a:Nat){i:Nat}{g:TypeId}(w:ay T s o t ⟨O.h,fJ O.c a (.n i g (iJ M F)),[]⟩ e)(y:bI O.c a=some (.n i g (jU M F P)):=by rfl)(p:O.l=b:=by rfl):ay T s o t O e:=⟨λA k r m z B u=>by subst p;let⟨j,x⟩:=aH.Hj q a y u;exact w.run A k r m z j x⟩
def ag3{k:bn}{j:List ResultVar}{e:V->bd->Prop}{i:Exit}{M:dr}{F:Nat}{P:V}{b:bd}(r:FP M F P b)(a:Nat){g:TypeId}(w:g4 T s o k j e i ⟨O.h,fJ O.c a (.n I g (iJ M F)),[]⟩)(y:bI O.c a=some (.n I g (jU M F P)):=by rfl)(q:O.l=b:=by rfl):g4 T s o k j e i O:=⟨w.he,λA x p z B t=>by subst q;let⟨m,u⟩:=aH.Hj r a y t;exact w.run A x p z m u⟩
def ay.aeA{b:Type}{L:b->Prop}{dd:b->am}(c:∀e:Exit->am->Prop,(∀a,L a->e .normal (dd a))->ay T s o t O e)(g:∀a,L a->e .normal (dd a)):ay T s o t O e:=c e g
theorem ay.vY(a:Nat)(w:∀m,ay T s o t {O with l:=O.l++[(m,.hY a)]} e):ay T s o t O e:=⟨λc g j i p b k=>(w b.n).run c g j i p _ (by have:=k.vY a;refine⟨this.ci.perm ?_,this.h,this.fk,this.size,this.defers⟩;show List.Perm (O.l++[(b.n,bM.hY a)]++ar c _) (O.l++ar c _++[(b.n,bM.hY a)]);grind[List.append_assoc,List.Perm.append_left,List.perm_append_comm])⟩
section
attribute [local irreducible] cJ
def qD(a:List Nat):V:=b5 a
def TA(a:Nat->Nat):(kv a).ints=(List.range 32).map λF=>((a F:Nat):Int):=by rfl
theorem VP:yq ef qD:=λg h c e=>by
 show decide ((b5 g).ints=(b5 h).ints)=decide _;refine mu.2 ⟨λw=>?_,λw=>by rw[w]⟩;unfold b5 at w;rw[TA,TA] at w;refine asz (Y:=32) c.1 e.1 (λb a=>by have:=c.2 b a;omega) (λb a=>by have:=e.2 b a;omega) λF j=>?_;let i:((List.range 32).map λF=>(cJ g F:Int))[F]?=((List.range 32).map λF=>(cJ h F:Int))[F]?:=by rw[w]
 grind
def Np{gP:List Nat}:oJ .u64 32 (qD gP):=⟨(List.range 32).map _,ax,.inr ⟨32,rfl⟩⟩
def VQ{b:Nat->V}{a:List (List Nat)}:rt .u64 32 (dY qD b a):=Vx λc _=>Np (gP:=c)
def aaN:q4 a4 253 .u64 32:=⟨178,32,256,8,8,⟨af,bL⟩,⟨af,bL⟩,⟨bL⟩⟩
def Wr{b:Type} [DecidableEq b]{L:b->Prop}{e:b->V}{y:Nat->Nat}{g:Value}(h:yq L e){Z:b}{a:List b}(i:L Z)(w:∀l∈a,L l)(j:V.const g=q 0):DG (dY e (λk=>q<|y k) a) (e Z) g true=.tuple [q (kc y a Z),.bool (sE a Z)]:=by rw[ajb h i w];unfold kc;by_cases c:Z∈a;rw[ab c,ab c];rfl;rw[aa c,aa c,j];rfl
abbrev ux(a:aC)(O:bf)(b t:Nat):List gz:=iX (dG a O) [none] none b t
abbrev cE(a:aC)(O:bf)(b t:Nat):List (List Nat):=gm<|ux a O b t
def aq8(b:aC)(O:bf){e:gz}:∀a∈dG b O e,a≠none:=λa c=>by obtain⟨g,_,rfl⟩:=b4.1 c;exact nofun
def BT(a:aC)(O:bf)(c t:Nat):kp (ux a O c t):=kp.g7 _ (by simp[zI,zH]) λe b=>aq8 a O e<|p0 b
def Jy{y:aC}{O:bf}(a t:Nat):(ux y O a t).length=(cE y O a t).length+1:=by have:=cW List.length<|BT y O a t;simp_all
def HN(y:aC)(O:bf)(a:Nat){t:Nat}(g:t<=256):(cE y O a t).length<=(cE y O a 0).length+256:=by
 let c:=Jy (y:=y) (O:=O) a t;let b:=Jy (y:=y) (O:=O) a 0;let e:(ux y O a t).length<=(bH (dG y O) [none] a).length+t:=by refine cA (GM _ _) ?_;rw[m7];omega
 rw[show ux y O a 0=bH _ _ a from ts a] at b;omega
def qH(a:aC)(b:List Nat)(t:Nat):List Nat:=nv a.ai b<|(cf a).getD t 0
def aay{a:aC}{O:bf}{t:Nat}{b:List Nat}(e:lD a O (fx (dG a O) [none] none I)=b)(c:t<(cf a).length):(dG a O (fx (dG a O) [none] none I)).getD t none=some (qH a b t):=by rw[cg,aav c];rw[CP a O _<|AX<|bZ c,e];rfl
theorem aer{b:aC}{a:List Nat}(c:ef a)(e:∀g∈a,g<b.ai.length)(t:Nat):Aw a (zR b ((cf b).getD t 0))=qH b a t:=M1 (HF c.1) (HF c.1) λh=>by rw[WM];exact(alZ e _ h).symm
def alT{y:aC}{a:List Nat}(b:ef a)(t:Nat):ef (qH y a t):=On b
def akL{a:aC}{O:bf}{t:Nat}{b:List Nat}(h:I<(bH (dG a O) [none] I).length)(c:lD a O (fx (dG a O) [none] none I)=b)(g:t<(cf a).length)(i:qH a b t∉cE a O I t):cE a O I (t+1)=cE a O I t++[qH a b t]/\(cE a O I t).length+1=k8 (dG a O) [none] none I t:=by
 have e:=aay c g;have j:(dG a O (fx (dG a O) [none] none I)).getD t none∉iX (dG a O) [none] none I t:=by rw[e];exactλw=>i<|((BT a O I t).mem _).1 w
 let⟨k,l⟩:=IE af h aM j;simp_all[Jy,cE,ux,gm,List.filterMap_append]
def akM{a:aC}{O:bf}{t:Nat}{b:List Nat}(k:I<(bH (dG a O) [none] I).length)(i:lD a O (fx (dG a O) [none] none I)=b)(j:t<(cf a).length)(g:qH a b t∈cE a O I t):cE a O I (t+1)=cE a O I t/\kc i6 (cE a O I t) (qH a b t)=k8 (dG a O) [none] none I t:=by
 let e:=aay i j;let l:(dG a O<|fx (dG a O) [none] none I).getD t none∈iX (dG a O) [none] none I t:=by rw[e];exact((BT a O I t).mem _).2 g
 let⟨m,c⟩:=IF k aM l;refine⟨aM,?_⟩;rw[e] at c;rw[A6 g,<-c];let h:=BT a O I t;show i6 _=e_ (ux a O I t) _;rw[h,U5];rfl
def jf(a:aC):List (List Nat):=(cf a).map<|zR a
def abm{a:aC}{t:Nat}(b:t<(cf a).length):(jf a).getD t []=zR a ((cf a).getD t 0):=by grind[jf,List.getElem?_eq_getElem]
def ahw(y:aC)(O:bf)(a:Nat)(p:a<(bH (dG y O) [none] a).length)(c:List Nat)(r:lD y O (fx (dG y O) [none] none a)=c)(z:ef c)(I:∀G∈c,G<y.ai.length)(D:∀t,∀H∈cE y O a t,ef H)(K:(cE y O a 0).length<=10000)(ac h:List V)(o:List (List Nat))(l:List Bool):cK 224 [g 6000,g 6001,g 6002,g 6003,g 6004] [(6000,.cell 253 (b5 c)),(6001,.cell 256 (g 6005)),(6002,.cell 248 (g 6006)),(6003,.cell 310 (.dj 6009)),(6005,.cell 259 (fr (jo y) (.f 1 ((cf y).map q)) (.d 6007 0 ac.length) (.d 6008 0 h.length))),(6006,.cell 251 (lr o l (jf y))),(6007,.n 1 4 ac),(6008,.n 1 64 h),(6004,.cell 249 (.d 5001 0 ((cE y O a 0).map b5).length)),(6009,.map (dY qD (λe=>q<|i6 e) (cE y O a 0)) (cE y O a 0).length),(5001,.n 32 253 ((cE y O a 0).map b5))] (.f 1 ((fY (k8 (dG y O) [none] none a) (cf y).length (cf y).length).map q)) [(6000,.cell 253 (b5 c)),(6001,.cell 256 (g 6005)),(6002,.cell 248 (g 6006)),(6003,.cell 310 (.dj 6009)),(6005,.cell 259 (fr (jo y) (.f 1<|(cf y).map q) (.d 6007 0 ac.length) (.d 6008 0 h.length))),(6006,.cell 251 (lr o l (jf y))),(6007,.n 1 4 ac),(6008,.n 1 64 h),(6004,.cell 249 (.d 5001 0 ((cE y O a (cf y).length).map b5).length)),(6009,.map (dY qD (λe=>q<|i6 e) (cE y O a (cf y).length)) (cE y O a (cf y).length).length),(5001,.n 32 253 ((cE y O a (cf y).length).map b5))]:=by
 refine cX func224 [] λU s J=>?_;have B:=Gv y;have hm:=Df y;have u:((cf y).map q).length=(cf y).length:=aS ..;refine ga (.f 1<|(cf y).map q) ?_ (dc:=jp B _ _ _ 0);refine ja (cf y).length (cf y).length ((fY (k8 (dG y O) [none] none a) (cf y).length 0).map q) ?_ (p:=cW Nat.cast u) (jM:=cW Nat.cast u) (aG:=QD);refine dL (cf y).length (λt=>⟨[(0,g 6000),(2,g 6002),(3,g 6003),(4,g 6004),(7,.d 17 0 (cf y).length),(19,q (cf y).length),(20,q t)],[(17,.n 1 3<|(fY (k8 (dG y O) [none] none a) (cf y).length t).map q),(6007,.n 1 4 ac),(6008,.n 1 64 h),(5001,.n 32 253<|(cE y O a t).map b5),(6000,.cell 253<|b5 c),(6001,.cell 256<|g 6005),(6002,.cell 248<|g 6006),(6003,.cell 310<|.dj 6009),(6004,.cell 249<|.d 5001 0 ((cE y O a t).map b5).length),(6005,.cell 259<|fr (jo y) (.f 1<|(cf y).map q) (.d 6007 0 ac.length)<|.d 6008 0 h.length),(6006,.cell 251<|lr o l<|jf y),(6009,.map (dY qD (λe=>q<|i6 e)<|cE y O a t) (cE y O a t).length)],[]⟩) λt L=>?_;apply j<;>intro N
 .have k:t<(cf y).length:=v;have S:=abm k;have T:t<(jf y).length:=by unfold jf;rw[aS];exact k
  have F:=alT (y:=y) z t;have P:=HN y O a (t:=t+1) v;refine ay.dI 1009 MS.size 253 [] none ?_;refine dC ?_;refine a_ (λ_=>fb rfl (av:=qr)) ?_;refine a_ (λ_=>aJ t (b5<|zR y<|(cf y).getD t 0) rfl (p:=b)) ?_;refine a_ (λ_=>bT rfl (i:=ang c<|zR y<|(cf y).getD t 0)) ?_;refine zV 1009 9 ?_;refine zW (b5<|qH y c t) ?_ n4 (MQ:=by grind[aer]) (dX:=ax);refine fm ?_;refine fb ?_ (av:=qr);refine W7 (.tuple [q (kc i6 (cE y O a t)<|qH y c t),.bool<|sE (cE y O a t)<|qH y c t]) ?_ aaN Np VQ (dc:=Wr VP F (D t) rfl);apply j<;>intro A
  focus
   have E:qH y c t∉cE y O a t:=λw=>by grind[pN,absurd]
   let⟨m,x⟩:=akL p r k E;have Q:=HN y O a (t:=t) v;have R:((cE y O a t).map b5).length=(cE y O a t).length:=aS ..;refine dK ((k8 (dG y O) [none] none a t:Nat):Int) ?_;refine fb ?_ (av:=qr);refine W8 (dY qD (λe=>q<|i6 e)<|cE y O a<|t+1) (cE y O a<|t+1).length ?_ aaN Np VQ (show vM (dY qD (λe=>q<|i6 e) (cE y O a t)) (cE y O a t).length (qD (qH y c t)) (q (k8 (dG y O) [none] none a t))=(dY qD (λe=>q<|i6 e) (cE y O a<|t+1),(cE y O a<|t+1).length) by grind[Vy,q,i6,VP]);refine fb ?_ (av:=qr);refine dv ?_ (hlen:=λM a6=>by rw[cV.1 a6];rfl);refine eR ((cE y O a<|t+1).map b5) ?_ (ap:=ax) (fC:=.f rfl rfl rfl rfl λM a6=>by rw[cV.1 a6];rfl) (aG:=by rw[m,cD];rfl) (bq:=aK)
  rotate_left
  focus have C:qH y c t∈cE y O a t:=pN.1<|Cb.1 A;let⟨m,x⟩:=akM p r k C;rw[x,<-m]
  all_goals refine cz t ?_ (p:=v);refine fl ((fY (k8 (dG y O) [none] none a) (cf y).length<|t+1).map q) (q 0) (q<|k8 (dG y O) [none] none a t) ?_ (p:=KR) (aG:=by grind[List.map_set,Ez]);refine aL ?_;exact aB<|t+1
 obtain rfl:t=(cf y).length:=v;exact y2 17 (cf y).length (show((fY (k8 (dG y O) [none] none a) (cf y).length (cf y).length).map q).length=(cf y).length by rw[aS,Jv]) cH
def Hm(a:aC)(c:List Nat)(ac b:List V)(h:List (List Nat))(e:List Bool):bb:=[(6000,.cell 253<|b5 c),(6001,.cell 256<|g 6005),(6002,.cell 248<|g 6006),(6003,.cell 310<|.dj 6009),(6005,.cell 259<|fr (jo a) (.f 1<|(cf a).map q) (.d 6007 0 ac.length)<|.d 6008 0 b.length),(6006,.cell 251<|lr h e<|jf a),(6007,.n 1 4 ac),(6008,.n 1 64 b)]
def AZ(a:List (List Nat)):bb:=[(6004,.cell 249<|.d 5001 0 (a.map b5).length),(6009,.map (dY qD (λb=>q<|i6 b) a) a.length),(5001,.n 32 253<|a.map b5)]
def Ug(a:aC)(O:bf)(b:Nat)(m:b<(bH (dG a O) [none] b).length){gP:List Nat}(i:lD a O (fx (dG a O) [none] none b)=gP)(k:ef gP)(j:∀p∈gP,p<a.ai.length)(o:∀t,∀r∈cE a O b t,ef r)(l:(cE a O b 0).length<=10000)(ac e:List V)(h:List (List Nat))(c:List Bool):cK 224 [g 6000,g 6001,g 6002,g 6003,g 6004] (Hm a gP ac e h c++AZ (cE a O b 0)) (.f 1 ((fY (k8 (dG a O) [none] none b) (cf a).length (cf a).length).map q)) (Hm a gP ac e h c++AZ (cE a O b (cf a).length)):=ahw a O b m gP i k j o l ac e h c
end
section
attribute [local irreducible] cJ
def K0(b:Nat)(e:gz):Prop:=∀a,e=some a->ef a/\∀c∈a,c<b
theorem aaw{a:aC}{O:bf}(h:a.ai.length=I)(i:my a.bz)(g:km a)(b:dQ O I)(A:gz):∀c∈dG a O A,K0 I c:=λc k o e=>by obtain⟨m,_,rfl⟩:=b4.1 k;cases e;exact⟨On<|aap i b.ok (A:=A),λl j=>aao h g b A l (j1.1 j).1⟩
def apQ{a:aC}{O:bf}(h:a.ai.length=I)(j:my a.bz)(g:km a)(i:dQ O I)(c t:Nat):∀b∈ux a O c t,K0 I b:=λb k=>by let m:∀b∈bH _ [none] c,K0 I b:=qi (λe l=>by rw[cV.1 l];exact nofun) (λe _=>aaw h j g i e) c;rcases(vh _ _ _).1 k with a|a;simp_all;grind[aaw,List.mem_of_mem_take]
def Nc{a:aC}{O:bf}(g:a.ai.length=I)(i:my a.bz)(e:km a)(h:dQ O I)(c t:Nat):∀b∈cE a O c t,ef b/\∀k∈b,k<I:=λb j=>
 apQ g i e h c t _ (((BT a O c t).mem b).2 j) b rfl
def Vs(a:aC)(O:bf)(b:I<(bH (dG a O) [none] I).length):cE a O I (cf a).length=cE a O (I+1) 0:=by unfold cE ux;simp_all[Gl,PG,a1,ts]
def Nb(y:aC)(O:bf)(a:Nat):(bH (dG y O) [none] a).length=(cE y O a 0).length+1:=by have:=Jy (y:=y) (O:=O) a 0;trivial
def af3(a:aC)(O:bf):lD a O (fx (dG a O) [none] none 0)=O.first:=rfl
def af2(a:aC)(O:bf)(e:I<(cE a O (I+1) 0).length):fx (dG a O) [none] none (I+1)=some ((cE a O (I+1) 0).getD I []):=by let b:=BT a O (I+1) 0;unfold kp at b;unfold fx;let c:bH _ _ _=ux a O (I+1) 0:=(ts _).symm;grind
def kS(a:aC)(O:bf)(b:Nat):List V:=(List.range b).map λc=>aW<|oK O<|fx (dG a O) [none] none c
def ma(a:aC)(O:bf)(b:Nat):List V:=(List.range b).map λc=>.f 1<|(fY (k8 (dG a O) [none] none c) (cf a).length (cf a).length).map q
def K6(b:aC)(O:bf)(a:Nat):(kS b O a).length=a:=by rw[kS,aS,gM]
def Ol(b:aC)(O:bf)(a:Nat):(ma b O a).length=a:=by rw[ma,aS,gM]
def acX(a:aC)(O:bf)(b:Nat):kS a O (b+1)=kS a O b++[aW (oK O (fx (dG a O) [none] none b))]:=by simp[kS,r0,cD]
def alN(a:aC)(O:bf)(b:Nat):ma a O (b+1)=ma a O b++[.f 1 ((fY (k8 (dG a O) [none] none b) (cf a).length (cf a).length).map q)]:=by simp[ma,r0,cD]
def aq9{a:aC}{O:bf}(e:I<=2999)(w:(cE a O (I+1) 0).length<=I)(g:I<(bH (dG a O) [none] (I+1)).length):b6 a O 3000=bH (dG a O) [none] (I+1)/\(b6 a O 3000).length=I+1:=by let b:=Nb a O<|I+1;let c:bH _ _ 3000=bH (dG a O) [none] (I+1):=py v v;grind[zI]
def acW{a:aC}{O:bf}{e:List gz}(g:e=bH (dG a O) [none] (I+1))(h:e.length=I+1):kS a O (I+1)=(pC a O e).acc.map aW:=by
 show _=(e.map _).map aW;refine ho λbJ=>?_;unfold kS;by_cases t:bJ<I+1;let b:bJ<e.length:=v;let c:bJ<(bH (dG a O) [none] bJ).length:=by refine yh λM=>?_;have:=py (bJ:=I+1) M v;rw[<-g] at this;rw[this] at b;omega
 have:=vT (lU<|show bJ<=I+1 by omega)<|vd (M:=none) c;simp_all;simp_all
def alM{a:aC}{O:bf}{H:Nat}{e:List gz}(b:e=bH (dG a O) [none] (H+1))(c:e.length=H+1):ma a O (H+1)=(pC a O e).bi.map bl:=by
 show _=(e.map _).map _;let h:(bH (dG a O) [none] (H+1)).length=H+1:=by rw[<-b,c]
 have:=Zz (bj:=[none]) (M:=none) (H:=H+1) af (λg=>PG a O g) v v;rw[b,<-this,ez];rfl
def kX(M:dr):V:=fr M.sf (.f 1<|M.fst.map q) (.f 1<|M.acc.map aW)<|.f 1<|M.bi.map bl
def iA(a:aC)(O:bf):List Bool:=(List.range a.ai.length).map λb=>decide (b∈O.last)
theorem TP(a:aC)(O:bf):(iA a O).length=a.ai.length:=by rw[iA,aS,gM]
def adJ{O:bf}{a:List Nat}(w:∀c∈a,c<I):(a.any λb=>((List.range I).map λb=>decide (b∈O.last)).getD b false)=oK O (some a):=by show _=a.any _;grind
def aaC(a:aC)(O:bf)(az:a.bz.length=a.ai.length)(ae:a.ai.length<=2000)(l:my a.bz)(k:km a)(i:dQ O a.ai.length){e:List gz}(E:e=b6 a O 3000){B:V}{z:bb}(K:e.length<=3000->B=.int .i64 0/\z=[(6000,.cell 259 (kX (pC a O e))),(6001,.cell 251 (lr a.bz (iA a O) (jf a)))])(L:3000<e.length->B=.int .i64 3/\z=[(6001,.cell 251 (lr a.bz (iA a O) (jf a)))]):cK 169 [g 6000,g 6001,b5 O.first,aW O.empty] [(6000,.cell 259 (fr (jo a) (.f 1 ((cf a).map q)) .aQ .aQ)),(6001,.cell 251 (lr a.bz (iA a O) (jf a)))] B z:=by
 refine cX func169 [2004,2010] λaE s F=>?_;have m:=F.tM;have r:=F.av;have h:=Gv a;have aj:(cE a O 0 0).length=0:=rfl;have D:(0:Nat)<(bH (dG a O) [none] 0).length:=Cl;have S:=λt C x=>(Nc rfl l k i 0 t C x).1;have Q:=HN a O 0 (t:=(cf a).length)<|Df a;have I:=Vs a O D;rw[I] at Q;refine ay.dI 1403 32 253 [] (some (10,0)) ?_;refine ay.re 1401 1 4 6000 1 ?_;refine ay.re 1402 1 64 6000 2 ?_;refine lB ⟨[(3,aW O.empty),(4,g 4),(5,g 5),(6,g 6),(10,g 10),(11,.func (.func 224) [] [g 4,g 5,g 9,g 10])],[(4,.cell 256<|g 6000),(5,.cell 248<|g 6001),(6,.cell 253<|b5 O.first),(9,.cell 310<|.dj 15),(10,.cell 249<|.d 1403 0 0),(15,.map [] 0),(1403,.n 32 253 []),(1401,.n 1 4 []),(1402,.n 1 64 []),(6000,.cell 259<|fr (jo a) (.f 1<|(cf a).map q) (.d 1401 0 0)<|.d 1402 0 0),(6001,.cell 251<|lr a.bz (iA a O)<|jf a)],[]⟩ ?_;refine cP ?_;refine ay.L6 [0,1,2,3,4,5,6,10,11,12,13,14,15,7,8,9,16,17,18,19,20,21,22] [0,1,2,3,4,5,6,13,14,15,7,8,9,10,11,12,16,17,18,19,20,21,22] [13] _ eW aZ m gE r ax (by conv=>lhs;reduce) ax ax ?_;refine a_ (λ_=>ga (.d 1402 0 0) rfl (dc:=jp h _ _ _ 2)) ?_;refine a_ (λ_=>ga (.d 1401 0 0) rfl (dc:=jp h _ _ _ 1)) ?_;refine a_ (λ_=>jv rfl) ?_;refine PZ ?_;refine Ff [(6000,6),(6001,4),(6002,5),(6003,9),(6004,10),(6005,6000),(6006,6001),(6007,1401),(6008,1402),(6009,15),(5001,1403)] [] (Hm a O.first [] [] a.bz<|iA a O) (AZ<|cE a O 0 0) (AZ<|cE a O 0 (cf a).length) ?_<|Ug a O 0 D (gP:=O.first) (af3 a O) i.ok.1 i.f S v [] [] a.bz<|iA a O;rw[I];refine a_ (λ_=>jv rfl) ?_;refine lH ?_;refine jB 26 (ma a O 1) ?_ (fC:=.f rfl rfl rfl rfl λM a6=>by rw[cV.1 a6];rfl) (aG:=ax) (bq:=by simp[Ol]);refine lH ?_;refine jB 33 (kS a O 1) ?_ (aG:=ax) (bq:=by simp[K6]);refine lH ?_;refine wg (fr (jo a) (.f 1<|(cf a).map q) (.d 1401 0 0)<|.d 26 0 (ma a O 1).length) ?_ (i2:=wy) (aG:=wW h _ _ _ _ 2);refine lH ?_;refine wg (fr (jo a) (.f 1<|(cf a).map q) (.d 33 0 (kS a O 1).length)<|.d 26 0 (ma a O 1).length) ?_ (i2:=wy) (aG:=wW h _ _ _ _ 1);refine iK [(26,1402),(33,1401)] ?_;refine cQ Nat (λc=>⟨[(4,g 4),(5,g 5),(10,g 10),(11,.func (.func 224) [] [g 4,g 5,g 9,g 10]),(12,q c)],[(1403,.n 32 253<|(cE a O (c+1) 0).map b5),(1401,.n 1 4<|kS a O<|c+1),(1402,.n 1 64<|ma a O<|c+1),(4,.cell 256<|g 6000),(5,.cell 248<|g 6001),(9,.cell 310<|.dj 15),(10,.cell 249<|.d 1403 0 ((cE a O (c+1) 0).map b5).length),(6000,.cell 259<|fr (jo a) (.f 1<|(cf a).map q) (.d 1401 0 (kS a O<|c+1).length)<|.d 1402 0 (ma a O<|c+1).length),(6001,.cell 251<|lr a.bz (iA a O)<|jf a),(15,.map (dY qD (λy=>q<|i6 y)<|cE a O (c+1) 0) (cE a O (c+1) 0).length)],[]⟩) (λc=>c<=(cE a O (c+1) 0).length/\(cE a O (c+1) 0).length<=3300/\c<=2999) (λc=>3000-c) 0 (λc ⟨an,ao,P⟩=>?_) ⟨c1 _,v,v⟩;have ap:=Nb a O<|c+1;have aw:((cE a O (c+1) 0).map b5).length=(cE a O (c+1) 0).length:=aS ..;apply j<;>intro ak
 .have o:c<(cE a O (c+1) 0).length:=v;have G:c+1<(bH (dG a O) [none] (c+1)).length:=v;obtain⟨ad,Z⟩:=Nc rfl l k i (c+1) 0 _<|bZ (M:=[]) o;have H:=af2 a O o;have am:=(Ly (succ:=dG a O) (bj:=[none])<|c+1).length_le;have aq:=Nb a O<|c+1+1;have R:=HN a O (c+1) (t:=(cf a).length)<|Df a;have J:=Vs a O G;rw[J] at R;have T:=λt C x=>(Nc rfl l k i (c+1) t C x).1;have W:(bH (dG a O) [none] (c+1)).length<=(b6 a O 3000).length:=by rw[<-zI];exact(lU v).length_le
  rw[<-E] at W;have Y:lD a O (fx (dG a O) [none] none (c+1))=kT a.bz ((cE a O (c+1) 0).getD c []):=by rw[H];rfl
  have N:kS a O (c+1+1)=kS a O (c+1)++[aW (oK O (some ((cE a O (c+1) 0).getD c [])))]:=by rw[acX,H]
  have U:=alN a O<|c+1;have ag:=K6 a O<|c+1;have aA:=Ol a O<|c+1;have ah:=K6 a O<|c+1+1;have aD:=Ol a O<|c+1+1;refine dK (((cE a O (c+1) 0).length+1:Nat):Int) ?_;apply j<;>intro al
  .obtain⟨rfl,rfl⟩:=L v;exact cH
  refine cP ?_;refine ay.dI 1013 MS.size 253 [] none ?_;refine ay.L6 [0,1,2,3,8,4,5,6,7,9,10] [0,1,2,3,5,6,7,8,4,9,10] [5] _ eW aZ m gE r ax (by conv=>lhs;reduce) ax ax ?_;refine a_ (λ_=>cz c rfl (p:=v)) ?_;refine lH ?_;refine zV 1013 13 ?_;refine PZ ?_;refine Ff [(6003,6001),(6004,1403)] [] [(6004,.n 32 253<|(cE a O (c+1) 0).map b5),(6003,.cell 251<|lr a.bz (iA a O)<|jf a)] [] [] ?_<|asO a.bz (iA a O) (jf a) ((cE a O (c+1) 0).getD c []) ad ((cE a O (c+1) 0).map b5) c (agJ o) (λA X=>b) λA X=>by grind[TP]
  rw[show(((cE a O (c+1) 0).getD c []).any λA=>(iA a O).getD A false)=oK O (some<|(cE a O (c+1) 0).getD c []) from adJ Z];refine lH ?_;refine zW (b5<|kT a.bz<|(cE a O (c+1) 0).getD c []) ?_ n4 (dX:=ax);refine fm ?_;refine lB ⟨[(4,g 4),(5,g 5),(10,g 10),(11,.func (.func 224) [] [g 4,g 5,g 9,g 10]),(12,q c),(13,g 13),(14,aW<|oK O<|some<|(cE a O (c+1) 0).getD c [])],[(13,.cell 253<|b5<|kT a.bz<|(cE a O (c+1) 0).getD c []),(4,.cell 256<|g 6000),(5,.cell 248<|g 6001),(9,.cell 310<|.dj 15),(10,.cell 249<|.d 1403 0 ((cE a O (c+1) 0).map b5).length),(15,.map (dY qD (λy=>q<|i6 y)<|cE a O (c+1) 0) (cE a O (c+1) 0).length),(1403,.n 32 253<|(cE a O (c+1) 0).map b5),(1401,.n 1 4<|kS a O<|c+1),(1402,.n 1 64<|ma a O<|c+1),(6000,.cell 259<|fr (jo a) (.f 1<|(cf a).map q) (.d 1401 0 (kS a O<|c+1).length)<|.d 1402 0 (ma a O<|c+1).length),(6001,.cell 251<|lr a.bz (iA a O)<|jf a)],[]⟩ ?_;refine ay.L6 [0,1,2,3,4,5,6,10,11,12,13,14,15,7,8,9,16,17,18,19,20,21,22] [0,1,2,3,4,5,6,13,14,15,7,8,9,10,11,12,16,17,18,19,20,21,22] [13] _ eW aZ m gE r ax (by conv=>lhs;reduce) ax ax ?_;refine a_ (λ_=>ga (.d 1402 0 (ma a O<|c+1).length) rfl (dc:=jp h _ _ _ 2)) ?_;refine a_ (λ_=>ga (.d 1401 0 (kS a O<|c+1).length) rfl (dc:=jp h _ _ _ 1)) ?_;refine a_ (λ_=>jv rfl) ?_;refine PZ ?_;refine Ff [(6000,13),(6001,4),(6002,5),(6003,9),(6004,10),(6005,6000),(6006,6001),(6007,1401),(6008,1402),(6009,15),(5001,1403)] [] (Hm a (kT a.bz<|(cE a O (c+1) 0).getD c []) (kS a O<|c+1) (ma a O<|c+1) a.bz<|iA a O) (AZ<|cE a O (c+1) 0) (AZ<|cE a O (c+1) (cf a).length) ?_<|Ug a O (c+1) G Y (Lc l) (Rh k) T v (kS a O<|c+1) (ma a O<|c+1) a.bz<|iA a O;rw[J];refine a_ (λ_=>jv rfl) ?_;refine lH ?_;refine jB 65 (ma a O<|c+1+1) ?_ (fC:=.f rfl rfl rfl rfl λM a6=>by rw[cV.1 a6];rfl) (aG:=U.symm) (bq:=v);refine lH ?_;refine jB 72 (kS a O<|c+1+1) ?_ (aG:=N.symm) (bq:=v);refine lH ?_;refine wg (fr (jo a) (.f 1<|(cf a).map q) (.d 1401 0 (kS a O<|c+1).length)<|.d 65 0 (ma a O<|c+1+1).length) ?_ (i2:=wy) (aG:=wW h _ _ _ _ 2);refine lH ?_;refine wg (fr (jo a) (.f 1<|(cf a).map q) (.d 72 0 (kS a O<|c+1+1).length)<|.d 65 0 (ma a O<|c+1+1).length) ?_ (i2:=wy) (aG:=wW h _ _ _ _ 1);refine iK [(65,1402),(72,1401)] ?_;refine aL ?_;exact aB (c+1) ⟨v,v,v⟩
 obtain⟨u,w⟩:=aq9 P (show(cE a O (c+1) 0).length<=c by omega) v;rw[<-E] at u w;obtain⟨rfl,rfl⟩:=K v;rw[acW u w,alM u w];exact gB 1401<|gB 1402 cH
end
def Kb:bG a4 357 (.slice 129) 1 24:=⟨af,bL⟩
def J_:fi a4 129 1 24:=⟨bL⟩
def nY(M:dr)(t a:Nat):List (List Nat):=(List.range M.bi.length).map λb=>(List.range a).filter λc=>decide (i1 M c t=b)
theorem LB(M:dr)(t a:Nat):(nY M t a).length=M.bi.length:=by simp[nY,aS,gM]
def aeh(M:dr)(t:Nat):nY M t 0=List.replicate M.bi.length []:=by unfold nY;refine oz af λc a b=>af
theorem aeg{M:dr}(t a:Nat)(c:i1 M a t<M.bi.length):nY M t (a+1)=(nY M t a).set (i1 M a t) ((nY M t a).getD (i1 M a t) []++[a]):=by
 refine ho λb=>?_;rw[oA,LB];let e:∀b,b<M.bi.length->∀a,(nY M t a)[b]?=some ((List.range a).filter λh=>decide (i1 M h t=b)):=λb j a=>by grind[nY,List.getElem?_range]
 by_cases g:i1 M a t=b;subst g;rw[ab rfl,ab c,e _ c,cg,e _ c,te,r0,Qd];simp;by_cases i:b<M.bi.length;grind[List.range_succ,List.filter_cons_of_neg];grind[List.getElem?_eq_none,LB]
def W_{a:List cy}{F:Nat}(w:F<a.length):bU a=bU (a.take F)++(oj (a.getD F default)++bU (a.drop (F+1))):=by grind[List.getElem?_eq_getElem,Ii,DR,PO]
def Xa{a:List cy}{F:Nat}(w:F<a.length)(b:cy):bU (a.set F b)=bU (a.take F)++(oj b++bU (a.drop (F+1))):=by rw[Pr w,DR,Ii]
def aef{M:dr}{t:Nat}{a:List Nat}(w:a∈nY M t I):a.length<=I:=by unfold nY at w;grind
def Fg(M:dr)(a:List (Nat×V))(b:bb)(c:bd):am:=⟨(0,g 6000)::(3,.d 12 0 M.fst.length)::(14,q M.fst.length)::(30,.f 1<|M.bi.map bl)::(31,q (M.bi.map bl).length)::a,(6000,.cell 259<|kX M)::b,c⟩
def ad8(M:dr)(a6:M.ok):cK 279 [g 6000] [(6000,.cell 259 (kX M))] (.f 1 ((List.range M.fst.length).map (qj M))) [(6000,.cell 259 (kX M))]:=by
 refine cX func279 [2004,2006] λaT s S=>?_;have aD:=S.tM;have Y:=S.av;have aH:=a6.f2;have aO:=a6.DN;refine ga (.f 1<|M.fst.map q) ?_ (dc:=jp a6.cl _ _ _ 0);refine ja M.fst.length M.fst.length (iJ M 0) ?_ (p:=cW Nat.cast<|aS ..) (jM:=cW Nat.cast<|aS ..) (aG:=by unfold iJ;refine oz af λH aA aC=>?_;simp;rfl);refine cQ (Nat×V×bd) (λh=>⟨[(0,g 6000),(3,.d 12 0 M.fst.length),(14,q M.fst.length),(15,q h.1)],[(12,.n 1 129<|jU M h.1 h.2.1),(6000,.cell 259<|kX M)],h.2.2⟩) (λh=>h.1<=M.fst.length/\FP M h.1 h.2.1 h.2.2) (λh=>M.fst.length-h.1) (0,.aQ,[]) (λ⟨t,P,az⟩ ⟨aw,K⟩=>?_) ⟨c1 _,.inl ⟨rfl,rfl⟩⟩;dsimp only at aw K⊢;apply j<;>intro aF
 .have k:t<M.fst.length:=v;have ao:(iJ M t)[t]?=some .aQ:=by rw[XZ k,aa<|tc _]
  refine ay.Hj K 12 ?_;refine cP ?_;refine ga (.f 1<|M.bi.map bl) ?_ (dc:=jp a6.cl _ _ _ 2);refine ja M.bi.length M.bi.length (List.replicate M.bi.length .aQ) ?_ (p:=cW Nat.cast<|aS ..) (jM:=cW Nat.cast<|aS ..) (aG:=ax);refine cz t ?_ (p:=k);refine al5 25 λid c=>?_;refine fl (jU M (t+1)<|.a7 id c 0 M.bi.length) .aQ (.a7 id c 0 M.bi.length) ?_ (p:=ao) (aG:=ax);obtain⟨m,G⟩:∃m:List cy,m=List.replicate M.bi.length ⟨0,0,[]⟩:=⟨_,rfl⟩;have Q:m.map ep=List.replicate M.bi.length .aQ:=by rw[G,yb];rfl
  have R:bU m=[]:=by rw[G];unfold bU;exact List.flatMap_eq_nil_iff.2 λaR x=>by rw[uJ x];rfl
  have ah:cZ m=nY M t 0:=by rw[aeh,G];unfold cZ;rw[yb]
  refine ay.Tk ((id,.n c 1 64<|m.map ep)::bU m) (λL Z=>(by rw[Q,R] at Z;exact Z)) ⟨[],(by rw[Q,R];rfl)⟩ ?_;refine cP ?_;refine ga (.f 1<|M.bi.map bl) ?_ (dc:=jp a6.cl _ _ _ 2);refine cQ (Nat×List cy) (λh=>Fg M [(4,q t),(15,q t),(32,q h.1)] [(12,.n 1 129<|jU M (t+1)<|.a7 id c 0 M.bi.length)] ((id,.n c 1 64<|h.2.map ep)::bU h.2)) (λh=>h.1<=M.bi.length/\cZ h.2=nY M t h.1) (λh=>M.bi.length-h.1) (0,m) (λ⟨H,a⟩ ⟨aq,B⟩=>?_) ⟨c1 _,ah⟩;dsimp only at aq B⊢;apply j<;>intro T
  .try simp only[aS] at T
   have X:H<M.bi.length:=v;have aP:=a6.rw H X;obtain⟨F,hk⟩:∃F,i1 M H t=F:=⟨_,rfl⟩;have E:F<M.bi.length:=by rw[<-hk];exact a6.aaU H t X k
   have aE:a.length=M.bi.length:=by rw[<-zh,B,LB]
   have r:F<a.length:=v;have ak:t<(M.bi.getD H []).length:=v;have C:((M.bi.getD H []).map q)[t]?=some (q F):=by rw[dg ak,<-hk];rfl
   have U:(a.map ep)[F]?=some (ep (a.getD F default)):=by rw[ch,cg,bw r];rfl
   have aM:F<(a.map ep).length:=by rw[aS];exact r
   have aI:(jU M (t+1) (.a7 id c 0 M.bi.length))[t]?=some (.a7 id c 0 M.bi.length):=by show((iJ M t).set t _)[t]?=_;rw[Qj];unfold iJ;rw[aS,gM];exact k
   have ad:∀O:cy,O.l=(a.getD F default).l++[H]->cZ (a.set F O)=nY M t (H+1):=λO aG=>by grind[aeg,vE,cZ,List.map_set]
   have aN:(a.getD F default).l.length<=100000:=by
    have:(a.getD F default).l∈nY M t H:=by rw[<-B];exact b4.2 ⟨_,bZ r,rfl⟩
    have:=aef this;omega
   refine aJ H (bl<|M.bi.getD H []) ?_ (p:=b);refine lB (Fg M [(4,q t),(5,q H),(6,.f 1<|(M.bi.getD H []).map q),(15,q t),(32,q H)] [(12,.n 1 129<|jU M (t+1)<|.a7 id c 0 M.bi.length)] ((id,.n c 1 64<|a.map ep)::bU a)) ?_;refine ay.aeA (L:=λy:List cy=>cZ y=nY M t (H+1)) (dd:=λy=>Fg M [(4,q t),(15,q t),(32,q H)] [(12,.n 1 129<|jU M (t+1)<|.a7 id c 0 M.bi.length)] ((id,.n c 1 64<|(y).map ep)::bU y)) (λe W=>?_) λy ag=>?_;by_cases x:(a.getD F default).l=[];refine ay.vY 1 λA=>?_;have am:ep (a.getD F default)=.aQ:=ab x;have ap:(a.map ep)[F]?=some .aQ:=by rw[U,am]
   have ae:=ad;rw[x] at ae;have ai:bU a=bU (a.take F)++bU (a.drop (F+1)):=by rw[W_ r,oj,ab x,s8]
   refine ay.MI (Fg M [(4,q t),(15,q t),(32,q H)] [(12,.n 1 129<|jU M (t+1)<|.a7 id c 0 M.bi.length)] ((id,.n c 1 64<|(a.set F ⟨A,1,[H]⟩).map ep)::bU (a.set F ⟨A,1,[H]⟩))) (λi=>?_)<|W _<|ae _ rfl;refine dE.perm (ic i 12 1 129 (jU M (t+1)<|.a7 id c 0 M.bi.length)::(id,bM.n c 1 64<|a.map ep)::(A,bM.hY 1)::(bU (a.take F)++bU (a.drop<|F+1)++[b7 i (6000,.cell 259<|kX M)])) ?_ ?_;show List.Perm _ ((id,bM.n c 1 64 (a.map ep))::bU a++[(A,bM.hY 1)]++([b7 i (6000,.cell 259 (kX M))]++[ic i 12 1 129 (jU M (t+1) (.a7 id c 0 M.bi.length))]));grind[pS];refine CV [([],[]),([],[]),([0],[]),([0],[]),([],[]),([],[]),([],[]),([],[]),([],[]),([],[]),([0],[]),([0],[]),([],[]),([],[]),([],[]),([],[]),([1],[]),([1],[]),([],[]),([],[]),([],[2]),([1],[]),([],[1])] eW Y ?_;refine bp.cw [] (λl w=>hX) ?_;refine bp.cw [] (λl w=>hX) ?_;refine bp.cw [0] (λl w=>pT 0 (H:=t) Kb J_ (hk:=(w 0 aj).trans rfl) (p:=k)) ?_;refine bp.cw [0] (λl w=>nz 0 (el:=.a7 id c 0 M.bi.length) lG (hk:=(w 0 aj).trans rfl) (p:=aK)) ?_;refine bp.cw [] (λl w=>hX) ?_;refine bp.cw [] (λl w=>hX) ?_;refine bp.cw [] (λl w=>I1 (H:=t) jh rT (p:=b)) ?_;refine bp.cw [] (λl w=>I5 Ka C (J:=q F)) ?_;refine bp.cw [] (λl w=>hX) ?_;refine bp.cw [] (λl w=>hX) ?_;refine bp.cw [0] (λl w=>pT 0 (H:=t) Kb J_ (hk:=(w 0 aj).trans rfl) (p:=k)) ?_;refine bp.cw [0] (λl w=>nz 0 (el:=.a7 id c 0 M.bi.length) lG (hk:=(w 0 aj).trans rfl) (p:=aK)) ?_;refine bp.cw [] (λl w=>hX) ?_;refine bp.cw [] (λl w=>hX) ?_;refine bp.cw [] (λl w=>I1 (H:=t) jh rT (p:=b)) ?_;refine bp.cw [] (λl w=>I5 Ka C (J:=q F)) ?_;refine bp.cw [1] (λl w=>pT 1 (H:=F) lG uD (hk:=(w 1 aj).trans rfl) (p:=E)) ?_;refine bp.cw [1] (λl w=>nz 1 (el:=.aQ) jh (hk:=(w 1 aj).trans rfl) (p:=b)) ?_;refine bp.cw [] (λl w=>hX) ?_;refine bp.cw [] (λl w=>IR jh rT x7 (hlen:=λz u=>by rw[cV.1 u];rfl)) ?_;refine bp.up [] 2 (A,.n 1 1 3 [q H]) (D:=.a7 A 1 0 1) (λl w=>dP.e1 (TB (A:=2) (j9:=[q H]) (o:=1) jh rT x7 (hk:=(w 2 aj).trans rfl) (fC:=JK (n:=[q H]) jh (h9:=λM a6=>by rw[cV.1 a6];rfl)) (zb:=v)) rfl rfl) ?_;refine bp.cw [1] (λl w=>pT 1 (H:=F) lG uD (hk:=(w 1 aj).trans rfl) (p:=E)) ?_;refine bp.up [] 1 (id,.n c 1 64<|(a.set F ⟨A,1,[H]⟩).map ep) (D:=.undef) (λl w=>?_) ?_;refine dP.e1 (C4 1 (H:=0+F) (t:=0) (fV:=a.map ep) (el:=.aQ) jh (hk:=(w 1 aj).trans rfl) (p:=b)) rfl ?_;show l.set 1 (id,bM.n c 1 64 ((a.map ep).set (0+F) (.a7 A 1 0 1)))=_;simp[gN,ep,aa,kk];refine bp.nil ⟨rfl,λN z u=>NI ?_ N z u,?_⟩;refine j0.2 ⟨ax,j0.2 ⟨ax,j0.2 ⟨ax,j0.2 ⟨ax,j0.2 ⟨ax,j0.2 ⟨ax,j0.2 ⟨ax,j0.2 ⟨ax,λ_ I=>absurd I h2⟩⟩⟩⟩⟩⟩⟩⟩;show List.Perm (ic i 12 1 129 (jU M (t+1) (.a7 id c 0 M.bi.length))::(id,bM.n c 1 64 ((a.set F ⟨A,1,[H]⟩).map ep))::(A,bM.n 1 1 3 [q H])::(bU (a.take F)++bU (a.drop (F+1))++[b7 i (6000,.cell 259 (kX M))])) ((id,bM.n c 1 64 ((a.set F ⟨A,1,[H]⟩).map ep))::bU (a.set F ⟨A,1,[H]⟩)++([b7 i (6000,.cell 259 (kX M))]++[ic i 12 1 129 (jU M (t+1) (.a7 id c 0 M.bi.length))]));rw[Xa r,show oj ⟨A,1,[H]⟩=[(A,bM.n 1 1 3 [q H])] from rfl];grind[pS];have an:ep (a.getD F default)=.a7 (a.getD F default).id (a.getD F default).al 0 (a.getD F default).l.length:=aa x;have ap:(a.map ep)[F]?=some (.a7 (a.getD F default).id (a.getD F default).al 0 (a.getD F default).l.length):=by rw[U,an]
   have ai:bU a=bU (a.take F)++([((a.getD F default).id,bM.n (a.getD F default).al 1 3 ((a.getD F default).l.map q))]++bU (a.drop (F+1))):=by rw[W_ r,oj,aa x]
   refine ay.MI (Fg M [(4,q t),(15,q t),(32,q H)] [(12,.n 1 129<|jU M (t+1)<|.a7 id c 0 M.bi.length)] ((id,.n c 1 64<|(a.set F ⟨(a.getD F default).id,(a.getD F default).al+1,(a.getD F default).l++[H]⟩).map ep)::bU (a.set F ⟨(a.getD F default).id,(a.getD F default).al+1,(a.getD F default).l++[H]⟩))) (λi=>?_)<|W _<|ad _ rfl;refine dE.perm (ic i 12 1 129 (jU M (t+1)<|.a7 id c 0 M.bi.length)::(id,bM.n c 1 64<|a.map ep)::((a.getD F default).id,bM.n (a.getD F default).al 1 3<|(a.getD F default).l.map q)::(bU (a.take F)++bU (a.drop<|F+1)++[b7 i (6000,.cell 259<|kX M)])) ?_ ?_;show List.Perm _ ((id,bM.n c 1 64 (a.map ep))::bU a++([b7 i (6000,.cell 259 (kX M))]++[ic i 12 1 129 (jU M (t+1) (.a7 id c 0 M.bi.length))]));grind[pS];refine CV [([],[]),([],[]),([0],[]),([0],[]),([],[]),([],[]),([],[]),([],[]),([],[]),([],[]),([0],[]),([0],[]),([],[]),([],[]),([],[]),([],[]),([1],[]),([1],[]),([],[]),([],[]),([],[2]),([1],[]),([],[1])] eW Y ?_;refine bp.cw [] (λl w=>hX) ?_;refine bp.cw [] (λl w=>hX) ?_;refine bp.cw [0] (λl w=>pT 0 (H:=t) Kb J_ (hk:=(w 0 aj).trans rfl) (p:=k)) ?_;refine bp.cw [0] (λl w=>nz 0 (el:=.a7 id c 0 M.bi.length) lG (hk:=(w 0 aj).trans rfl) (p:=aK)) ?_;refine bp.cw [] (λl w=>hX) ?_;refine bp.cw [] (λl w=>hX) ?_;refine bp.cw [] (λl w=>I1 (H:=t) jh rT (p:=b)) ?_;refine bp.cw [] (λl w=>I5 Ka C (J:=q F)) ?_;refine bp.cw [] (λl w=>hX) ?_;refine bp.cw [] (λl w=>hX) ?_;refine bp.cw [0] (λl w=>pT 0 (H:=t) Kb J_ (hk:=(w 0 aj).trans rfl) (p:=k)) ?_;refine bp.cw [0] (λl w=>nz 0 (el:=.a7 id c 0 M.bi.length) lG (hk:=(w 0 aj).trans rfl) (p:=aK)) ?_;refine bp.cw [] (λl w=>hX) ?_;refine bp.cw [] (λl w=>hX) ?_;refine bp.cw [] (λl w=>I1 (H:=t) jh rT (p:=b)) ?_;refine bp.cw [] (λl w=>I5 Ka C (J:=q F)) ?_;refine bp.cw [1] (λl w=>pT 1 (H:=F) lG uD (hk:=(w 1 aj).trans rfl) (p:=E)) ?_;refine bp.cw [1] (λl w=>nz 1 (el:=.a7 (a.getD F default).id (a.getD F default).al 0 (a.getD F default).l.length) jh (hk:=(w 1 aj).trans rfl) (p:=b)) ?_;refine bp.cw [] (λl w=>hX) ?_;refine bp.cw [] (λl w=>IR jh rT x7 (hlen:=λz u=>by rw[cV.1 u];rfl)) ?_;refine bp.up [] 2 ((a.getD F default).id,.n ((a.getD F default).al+1) 1 3<|((a.getD F default).l++[H]).map q) (D:=.a7 (a.getD F default).id ((a.getD F default).al+1) 0 ((a.getD F default).l++[H]).length) (λl w=>?_) ?_;refine dP.e1 (TC (A:=2) (len:=(a.getD F default).l.length) (off:=0) (fV:=(a.getD F default).l.map q) (j9:=[q H]) (o:=1) jh rT x7 (hk:=(w 2 aj).trans rfl) (fC:=JK (n:=[q H]) jh (h9:=λM a6=>by rw[cV.1 a6];rfl)) (zb:=v)) ?_ ?_;simp;show l.set 2 ((a.getD F default).id,bM.n ((a.getD F default).al+1) 1 3 ((((a.getD F default).l.map q).drop 0).take (a.getD F default).l.length++[q H]))=_;rw[uI,q1 (l:=(a.getD F default).l.map q) af,cD];rfl;refine bp.cw [1] (λl w=>pT 1 (H:=F) lG uD (hk:=(w 1 aj).trans rfl) (p:=E)) ?_;refine bp.up [] 1 (id,.n c 1 64<|(a.set F ⟨(a.getD F default).id,(a.getD F default).al+1,(a.getD F default).l++[H]⟩).map ep) (D:=.undef) (λl w=>?_) ?_;refine dP.e1 (C4 1 (H:=0+F) (t:=0) (fV:=a.map ep) (el:=.a7 (a.getD F default).id (a.getD F default).al 0 (a.getD F default).l.length) jh (hk:=(w 1 aj).trans rfl) (p:=b)) rfl ?_;show l.set 1 (id,bM.n c 1 64 ((a.map ep).set (0+F) (.a7 (a.getD F default).id ((a.getD F default).al+1) 0 ((a.getD F default).l++[H]).length)))=_;simp[gN,ep,default,aa,kk];refine bp.nil ⟨rfl,λN z u=>NI ?_ N z u,?_⟩;refine j0.2 ⟨ax,j0.2 ⟨ax,j0.2 ⟨ax,j0.2 ⟨ax,j0.2 ⟨ax,j0.2 ⟨ax,j0.2 ⟨ax,j0.2 ⟨ax,λ_ I=>absurd I h2⟩⟩⟩⟩⟩⟩⟩⟩;show List.Perm (ic i 12 1 129 (jU M (t+1) (.a7 id c 0 M.bi.length))::(id,bM.n c 1 64 ((a.set F ⟨(a.getD F default).id,(a.getD F default).al+1,(a.getD F default).l++[H]⟩).map ep))::((a.getD F default).id,bM.n ((a.getD F default).al+1) 1 3 (((a.getD F default).l++[H]).map q))::(bU (a.take F)++bU (a.drop (F+1))++[b7 i (6000,.cell 259 (kX M))])) ((id,bM.n c 1 64 ((a.set F ⟨(a.getD F default).id,(a.getD F default).al+1,(a.getD F default).l++[H]⟩).map ep))::bU (a.set F ⟨(a.getD F default).id,(a.getD F default).al+1,(a.getD F default).l++[H]⟩)++([b7 i (6000,.cell 259 (kX M))]++[ic i 12 1 129 (jU M (t+1) (.a7 id c 0 M.bi.length))]));rw[Xa r,show oj ⟨(a.getD F default).id,(a.getD F default).al+1,(a.getD F default).l++[H]⟩=[((a.getD F default).id,bM.n ((a.getD F default).al+1) 1 3 (((a.getD F default).l++[H]).map q))] from aa af];grind[pS];refine aL ?_;exact aB (H+1,y) ⟨v,ag⟩ v
  try simp only[aS] at T
  obtain rfl:H=M.bi.length:=v;refine aL ?_;exact aB (t+1,.a7 id c 0 M.bi.length,(id,.n c 1 64<|a.map ep)::bU a) ⟨v,.inr ⟨t,id,c,a,rfl,k,rfl,rfl,B⟩⟩ v
 obtain rfl:t=M.fst.length:=v;exact ag3 K 12<|y2 12 M.fst.length (show(iJ M M.fst.length).length=M.fst.length by simp[iJ,aS,gM]) (by rw[amo];exact cH)
def apD{T:Program}(M:Nat){a g:TypeId}{b:World}{c:Addr}{e:Nat}(h:T.underlying a=some (.slice g)):(Op.equalIn (M+1) a (.slice (some c) I e) (.slice none 0 0)).run T b=.ok false b:=by simp[Op.equalIn,run_underlying h]
def anY{T:Program}{s:a2}{P:Oper}{a:aw}{i r p E:TypeId}{o:Nat}{k b:Operand}{g j D h F O:Nat}{q:List V}(y:bG T i (.slice r) I o)(x:P.op=.binOp .eql i k b E)(B:a.val s k=some (.a7 g j D h))(t:a.l[F]?=some (g,.n j O p q))(C:a.val s b=some .aQ)(M:0<h):cb T s P a (.bool false):=.same λm U G e=>by let⟨Q,L,N,w⟩:=e.a7 B t;have c:=e.val C;generalize z:m.eval b=S at c;cases c;rcases w with⟨_,J,_⟩|⟨H,R,cap,K,A,_⟩;omega;refine⟨_,.bool _,?_⟩;simp only[execOp,x,A,z];rw[Sem.run_bind,tL ax<|AP (w:=apD 9999 y.u)];rfl
def ak7{F:am->Prop}{k:FuncId}{u y:Operand}{B:Array TypeId}{b j q:Nat}{g:TypeId}{i:List V}(r:V)(J:F (O.put P.dst r))(K:(I,bM.n b j g i)∈O.l)(M:ff T m k [.a7 I b 0 q] [(I,.n b j g i)] (λR Q=>R=r/\Q=[(I,.n b j g i)]))(L:P.op=.call {callee:=.value u,args:=#[y],argTypes:=B}:=by rfl)(G:val m O.h u=some (.func (.func k) [] []):=by rfl)(N:val m O.h y=some (.a7 I b 0 q):=by rfl)(W:r.plain:=by rfl)(E:iR T k:=by exact r2):fR T z s m o ops P O F:=⟨λU p w c X e H D=>by
 obtain⟨t,A,C⟩:=List.append_of_mem<|uK _ K;have x:([(I,bM.n b j g i)]++(t++A)).Perm (O.a c).l:=by show List.Perm _ (O.l++ar c _);rw[C];exact(@List.perm_middle _ _ t _).symm
 refine bS.n5 H (Mc (j9:=[.a7 I b 0 q]) L E (gn p w G c) ⟨gn p w N c,rfl⟩ x (p.symm▸M) x) ?_;have S:=D c _ (cd.refl o c) J;simp_all[am.kG,V.eC]⟩
def aln{F:V->Prop}{i p E:TypeId}{a:b0}{j k:Operand}{D g:Nat}{H:Nat}{o:TypeId}{G:List V}(t:F (.bool false))(u:0<g)(w:P.op=.binOp .eql i j k E:=by rfl)(B:val m O.h j=some (.d I D g):=by rfl)(C:val m O.h k=some .aQ:=by rfl)(A:z.find i=some a:=by rfl)(a6:a.d=.slice p:=by rfl)(y:a.R=false:=by rfl)(r:bI O.c I=some (.n H o G):=by rfl):c2 T z s m false P O F:=.lA (λq b e l=>by let bu:=(q.find A).e6 y;rw[a6] at bu;obtain⟨J,x⟩:=iw _ r;exact anY bu w (g3 b e B (by grind[Op.operands]) l) x (g3 b e C (by grind[Op.operands]) l) u) t
def afj(a:List Nat)(bq:a.length<=100000)(b:0<a.length):cK 69 [.d 6000 0 (a.map q).length] [(6000,.n 1 3 (a.map q))] (.f 1 (a.map q)) [(6000,.n 1 3 (a.map q))]:=by
 refine cX func69 [] λi s g=>?_;let c:0<(a.map q).length:=by rw[aS];exact b
 refine aln ?_ c;refine kN.mk nofun λ_=>?_;refine og ?_;refine eR (a.map q) ?_ (fC:=.d rfl rfl rfl rfl rfl v λh e=>(by obtain⟨_,_,rfl⟩:=b4.1 e;rfl)) (aG:=aM) (bq:=aK);exact gB 5 cH
def afk(a:cy)(e:a.l.length<=100000)(g:0<a.l.length):ff a4 fZ 69 [.a7 a.id a.al 0 (a.l.map q).length] [(a.id,.n a.al 1 3 (a.l.map q))] (λb P=>b=.f 1 (a.l.map q)/\P=[(a.id,.n a.al 1 3<|a.l.map q)]):=by refine ff.frame (afj a.l e g λ_=>(a.id,a.al)) [] ax ?_;rintro b P ⟨h,c,rfl,rfl⟩;refine⟨_,by rw[gf],rfl,?_⟩;show[((h _).1,bM.n _ 1 3 _)]=_;rw[c.eq _ v]
def rV(M:dr)(a:Nat):List Nat:=(List.range a).filter λb=>M.acc.getD b false
def abx(M:dr)(a:Nat):rV M (a+1)=rV M a++(if M.acc.getD a false then[a] else[]):=by unfold rV;rw[r0,Qd]<;>grind
def UL(M:dr):da:=⟨List.replicate M.bi.length 0,[List.range M.bi.length],[0]⟩
def ah6(e:0<I):iT I ⟨List.replicate I 0,[List.range I],[0]⟩:=by
 let ap:∀a,a8 ⟨List.replicate I 0,[List.range I],[0]⟩ a=0:=by intro a;unfold a8;by_cases w:a<I;simp_all;simp_all
 refine⟨af,λa _=>?_,λb a=>?_,λb=>?_,λb c=>?_,λb c=>?_,af⟩;simp_all;grind;grind
 (simp_all;omega)
 simp_all
def VB{M:TypeDesc}:k1 M ([]:List (V×V×Nat)):=λb a=>absurd a h2
def acR:lk [(q 0,aW true,0)] [0]:=by let w:lk [] []:=⟨λc a=>absurd a h2,List.Pairwise.nil,λb=>ax⟩;exact w.add 0 0
def q9.anB{M:dr}{w:da}(F:Ak M w){a:List Nat}(b:w.c9=a++[I]):Cv M (w.mem.getD I []) 0 ⟨w.of,w.mem,a⟩:=by have:=q9.pop F b;grind[OQ,List.dropLast_concat]
def IZ{a:List cy}:(cq a++[]).Perm (cq a):=af
def akv(a:List cy):(a.flatMap (λb=>[rC b])++[]).Perm (cq a):=by rw[gf,aku]
def Fh(M:dr)(a:List (Nat×V))(b:bb)(c:bd):am:=⟨(0,g 6000)::(3,g 3)::a,(3,.cell 314<|g 24)::(6000,.cell 259<|kX M)::b,c⟩
def adv(M:dr)(a6:M.ok):kO a4 fZ 227 [g 6000] [] [(6000,.cell 259 (kX M))] (λw:da=>Ak M w/\w.c9=[]) (λw=>.ref 2 [.agg [.f 1 (w.of.map q),.f 1<|w.mem.map bl]] 0 0) (λ_=>[]) (λ_=>[(6000,.cell 259<|kX M)]):=by
 refine kO.of_wp (z:=gT) [2003,2011,2015,2021,2026] eW aZ gE ⟨func227,ax,rfl⟩ rfl rfl rfl λbm s aw aP=>?_;let ba:j2 a4 gT s fZ _ [2003,2011,2015,2021,2026]:=⟨eW,aZ,aw,gE,aP⟩;let aj:=a6.DN;let aR:=a6.pO;let bb:=a6.f2;let y:=a6.cl;refine ga (.f 1<|M.bi.map bl) ?_ (dc:=jp y _ _ _ 2);refine ja M.bi.length M.bi.length ((List.replicate M.bi.length 0).map q) ?_ (p:=cW Nat.cast<|aS ..) (jM:=cW Nat.cast<|aS ..) (aG:=uP);refine ay.dI 4 1 3 [4] none ?_;refine cP ?_;refine ga (.f 1<|M.bi.map bl) ?_ (dc:=jp y _ _ _ 2);refine ja M.bi.length M.bi.length ((fY id M.bi.length 0).map q) ?_ (p:=cW Nat.cast<|aS ..) (jM:=cW Nat.cast<|aS ..) (aG:=QD);refine ga (.f 1<|M.bi.map bl) ?_ (dc:=jp y _ _ _ 2);refine dL M.bi.length (λa=>Fh M [(4,.d 4 0 ((rV M a).map q).length),(5,.d 30 0 M.bi.length),(35,q (M.bi.map bl).length),(36,q a)] [(22,.n 1 3<|(List.replicate M.bi.length 0).map q),(30,.n 1 3<|(fY id M.bi.length a).map q),(4,.n 1 3<|(rV M a).map q),(24,.cell 317<|.agg [.d 22 0 M.bi.length,.aQ])] []) λa p=>?_;apply j<;>intro Y
 .try simp only[aS] at Y
  let A:a<M.bi.length:=v;let aE:(M.acc.map aW)[a]?=some (aW<|M.acc.getD a false):=by rw[ch,cg,bw (by rw[a6.ac]<;>omega)];rfl
  let D:(rV M<|a+1).length<=a+1:=by have:=ab3 (λZ=>M.acc.getD Z false)<|List.range<|a+1;rwa [gM] at this
  refine cz a ?_ (p:=A);refine fl ((fY id M.bi.length<|a+1).map q) (q 0) (q a) ?_ (p:=KR) (aG:=QF);refine ga (.f 1<|M.acc.map aW) ?_ (dc:=jp y _ _ _ 1);refine aJ a (aW<|M.acc.getD a false) ?_ (p:=aE);apply j<;>intro ad
  .let ak:rV M (a+1)=rV M a++[a]:=by rw[abx,ab ad]
   refine dv ?_;refine eR ((rV M<|a+1).map q) ?_ (aG:=b) (bq:=aK);refine aL ?_;exact aB<|a+1
  let ak:rV M (a+1)=rV M a:=by rw[abx,aa ad,gf]
  rw[<-ak];refine aL ?_;exact aB (a+1)
 try simp only[aS] at Y
 obtain rfl:a=M.bi.length:=v;rw[show fY id M.bi.length M.bi.length=List.range M.bi.length by rw[Ju,Cf],show V.d 30 0 M.bi.length=V.d 30 0 ((List.range M.bi.length).map q).length by simp,show rV M M.bi.length=Fb M from rfl];refine ay.g9 4 ?_;refine ay.JY 30 λQ S=>?_;refine lB (Fh M [(4,.f 1<|(Fb M).map q),(5,.a7 Q S 0 ((List.range M.bi.length).map q).length)] [(24,.cell 317<|.agg [.d 22 0 M.bi.length,.aQ]),(22,.n 1 3<|(List.replicate M.bi.length 0).map q)] [(Q,.n S 1 3<|(List.range M.bi.length).map q)]) ?_;refine cP ?_;refine og ?_;refine og ?_;refine xB [(q 0,aW true,0)] 1 ?_ VB;let aU:=aag M.bi.length (UL M) (ah6 aR) aj (Fb M) (λZ a3=>fq.1 (j1.1 a3).1) (List.nodup_range.filter _) [⟨Q,S,List.range M.bi.length⟩] rfl [(q 0,aW true,0)] 1 acR;refine cP ?_;refine hQ [(6002,24),(6000,8),(6001,3),(6003,7),(6004,22),(6006,61),(5001,57),(5002,60)] (λR=>cq R.1) [] (λ⟨ao,am,aq⟩ ⟨B,C⟩=>?_) (i:=aU) (vC:=IZ) (vB:=λ_ _=>IZ);dsimp only at B C⊢;refine bk [(6000,6000)] ?_ (i:=ad8 M a6);refine cQ (da×List cy×List (V×V×Nat)×Nat) (λc=>Fh M [(7,g 7),(8,g 8),(9,.func (.func 277) [] [g 8,g 3,g 7]),(10,.f 1<|(List.range M.fst.length).map<|qj M)] [(22,.n 1 3<|c.1.of.map q),(57,.n 1 64<|c.2.1.map cC),(60,.n 1 3<|c.1.c9.map q),(7,.cell 64<|.d 60 0 (c.1.c9.map q).length),(8,.cell 355<|.dj 61),(24,.cell 317<|.agg [.d 22 0 M.bi.length,.d 57 0 (c.2.1.map cC).length]),(61,.map c.2.2.1 c.2.2.2)] (cq c.2.1)) (λc=>Ak M c.1/\cZ c.2.1=c.1.mem/\lk c.2.2.1 c.1.c9) (λc=>vz M.bi.length c.1) (pa (UL M)<|Fb M,ao,am,aq) (λ⟨w,k,I,bI⟩ ⟨m,x,G⟩=>?_) ⟨a6.start,B,C⟩;dsimp only at m x G⊢;apply j<;>intro ae
 .try simp only[aS] at ae
  let be:0<w.c9.length:=v;obtain⟨h,W,r⟩:∃h W,w.c9=h++[W]:=⟨w.c9.dropLast,w.c9.getLast aM,(abU _).symm⟩;let aC:W∈w.c9:=by rw[r];simp
  let az:=m.ok.pi W aC;let aA:W∉h:=by have:=m.ok.wn;rw[r] at this;exactλav=>(pm.1 this).2.2 W av W af rfl
  let a_:k.length=w.mem.length:=by rw[<-x,zh]
  let aD:=m.ok.count;let a0:lk (nu I<|q W) h:=by rw[r] at G;exact G.del aA
  let T:=q9.anB m r;let aN:vz M.bi.length ⟨w.of,w.mem,h⟩+1=vz M.bi.length w:=by unfold vz;rw[r,c_,pk];dsimp only;omega
  let a2:h.length<=100000:=by have:=nK m.ok.wn (W:=List.range M.bi.length) λO F=>fq.2<|h3 (m.ok.pi O F) aD;rw[gM,r,c_] at this;omega
  let bf:(h.map q).length<=100000:=by rw[aS];exact a2
  let bd:(h.map q++[W].map q).length=(h.map q).length+1:=by rw[c_];rfl
  obtain⟨e,P⟩:∃e,k.getD W default=e:=⟨_,rfl⟩;let D:e.l=w.mem.getD W []:=by rw[<-P,<-vE v,x]
  let bg:e.l.length<=M.bi.length:=by have:=nK (E:=e.l) (W:=List.range M.bi.length) (by rw[D];exact m.ok.hs W) λO F=>fq.2 (by rw[D] at F;exact((m.ok.mem W O).1 F).1);rwa [gM] at this
  let a5:0<e.l.length:=ya.2 (by rw[D];exact m.ok.ne W az);let aI:(k.map cC)[W]?=some (cC e):=by rw[<-P];exact GW v
  let aO:(e.id,bM.n e.al 1 3<|e.l.map q)∈cq k:=by rw[<-P];exact DI v
  rw[<-D] at T;rw[r,cD];refine ia ((h.map q).length:Nat) ?_ (w:=v);refine cz (h.map q).length ?_ (p:=v);refine ft (q W) ?_ (p:=af);refine ia ((h.map q).length:Nat) ?_ (w:=v);refine xD 0 (h.map q).length 0 (h.map q).length ?_ (dX:=v);refine alg (nu I<|q W) ?_ (UU:=G.ok);refine ay.af4 60 (h.map q) [q W] ?_ rfl;refine cP ?_;refine cz W ?_ (p:=aK);refine ft (cC e) ?_ (p:=aI);refine ak7 (.f 1<|e.l.map q) ?_ aO<|afk e v a5;refine ga (.f 1<|M.fst.map q) ?_ (dc:=jp y _ _ _ 0);refine cQ (Nat×da×List cy×List (V×V×Nat)×Nat) (λc=>Fh M [(7,g 7),(8,g 8),(9,.func (.func 277) [] [g 8,g 3,g 7]),(10,.f 1<|(List.range M.fst.length).map<|qj M),(12,.f 1<|e.l.map q),(98,q (M.fst.map q).length),(99,q c.1)] [(22,.n 1 3<|c.2.1.of.map q),(57,.n 1 64<|c.2.2.1.map cC),(60,.n 1 3<|c.2.1.c9.map q),(7,.cell 64<|.d 60 0 (c.2.1.c9.map q).length),(8,.cell 355<|.dj 61),(24,.cell 317<|.agg [.d 22 0 M.bi.length,.d 57 0 (c.2.2.1.map cC).length]),(61,.map c.2.2.2.1 c.2.2.2.2)] (cq c.2.2.1)) (λc=>c.1<=M.fst.length/\Cv M e.l c.1 c.2.1/\cZ c.2.2.1=c.2.1.mem/\lk c.2.2.2.1 c.2.1.c9/\vz M.bi.length c.2.1+1=vz M.bi.length w) (λc=>M.fst.length-c.1) (0,⟨w.of,w.mem,h⟩,k,nu I<|q W,bI) (λ⟨t,dX,u,H,J⟩ ⟨a9,o,L,N,a8⟩=>?_) ⟨c1 _,T,x,a0,aN⟩;dsimp only at a9 o L N a8⊢;apply j<;>intro U
  .try simp only[aS] at U
   let ag:t<M.fst.length:=v;let ah:∀O∈n8 M e.l t,O<M.bi.length:=λO K=>(Hg.1 K).1;let ai:(n8 M e.l t).Nodup:=Hh o.hs;let aF:((List.range M.fst.length).map<|qj M)[t]?=some (qj M t):=by rw[ch,wo ag];rfl
   refine ay.dI 14 1 3 [14] none ?_;refine cP ?_;refine dL e.l.length (λa=>Fh M [(7,g 7),(8,g 8),(9,.func (.func 277) [] [g 8,g 3,g 7]),(10,.f 1<|(List.range M.fst.length).map<|qj M),(12,.f 1<|e.l.map q),(13,q t),(14,.d 14 0 ((n8 M (e.l.take a) t).map q).length),(98,q (M.fst.map q).length),(99,q t),(102,.f 1<|e.l.map q),(103,q (e.l.map q).length),(104,q a)] [(22,.n 1 3<|dX.of.map q),(57,.n 1 64<|u.map cC),(60,.n 1 3<|dX.c9.map q),(14,.n 1 3<|(n8 M (e.l.take a) t).map q),(7,.cell 64<|.d 60 0 (dX.c9.map q).length),(8,.cell 355<|.dj 61),(24,.cell 317<|.agg [.d 22 0 M.bi.length,.d 57 0 (u.map cC).length]),(61,.map H J)] (cq u)) λa p=>?_;apply j<;>intro X
   .try simp only[aS] at X
    let A:a<e.l.length:=v;let aT:e.l.getD a 0<M.bi.length:=o.lt _<|bZ A;let aH:((CI M t).map bl)[e.l.getD a 0]?=some (bl<|(List.range M.bi.length).filter λZ=>decide (i1 M Z t=e.l.getD a 0)):=by unfold CI;rw[ch,ch,wo aT];rfl
    let bc:(n8 M (e.l.take<|a+1) t).length<=M.bi.length:=by have:=nK (E:=n8 M (e.l.take<|a+1) t) (W:=List.range M.bi.length) (Hh<|o.hs.sublist<|ab9 ..) λO K=>fq.2 (Hg.1 K).1;rwa [gM] at this
    refine aJ a (q<|e.l.getD a 0) ?_ (p:=dg A);refine aJ t (qj M t) ?_ (p:=aF);refine aJ (e.l.getD a 0) (bl<|(List.range M.bi.length).filter λZ=>decide (i1 M Z t=e.l.getD a 0)) ?_ (p:=aH);refine eR ((n8 M (e.l.take<|a+1) t).map q) ?_ (fC:=.f rfl rfl rfl rfl λbj aX=>(by obtain⟨_,_,rfl⟩:=b4.1 aX;rfl)) (aG:=by rw[ahD A,cD];rfl) (bq:=aK);refine aL ?_;exact aB (a+1)
   try simp only[aS] at X
   obtain rfl:a=e.l.length:=v;rw[gq];let aV:=aag M.bi.length dX o.ok aj (n8 M e.l t) ah ai u L H J N;refine Bt 14 ?_;refine hQ [(6002,24),(6000,8),(6001,3),(6003,7),(6004,22),(6006,61),(5001,57),(5002,60)] (λR=>cq R.1) [] (λ⟨ap,an,fI⟩ ⟨B,C⟩=>?_) (i:=aV) (vC:=IZ) (vB:=λ_ _=>IZ);dsimp only at B C⊢;refine aL ?_;exact aB (t+1,pa dX<|n8 M e.l t,ap,an,fI) ⟨v,o.next a6 ag,B,C,by rw[aqN o.ok ah ai]<;>omega⟩ v
  try simp only[aS] at U
  obtain rfl:t=M.fst.length:=v;exact aB (dX,u,H,J) ⟨o.fin,L,N⟩ aK
 try simp only[aS] at ae
 let aY:w.c9=[]:=Kq.1 v;exact ag4 agG k 57 [] (akv k)<|y2 22 M.bi.length (show(w.of.map q).length=M.bi.length by rw[aS];exact m.ok.len)<|y2 57 (k.map cC).length (show(k.map λZ:cy=>V.f 1<|Z.l.map q).length=(k.map cC).length by simp)<|Mh (Z:=.agg [.f 1 (w.of.map q),.f 1 (k.map λZ:cy=>V.f 1<|Z.l.map q)]) 24 2 (by rw[show k.map (λZ:cy=>V.f 1<|Z.l.map q)=w.mem.map bl by rw[<-x,cZ,ez];rfl];exact n7 w ⟨m,aY⟩)
mutual
def ao.parts:ao->Nat|.mk _ _ _ _ a=>1+ea a
def ea:List ao->Nat|[]=>0|a::b=>a.parts+ea b
end
mutual
def ao.fa:ao->Nat|.mk _ _ _ _ a=>1+k3 a
def k3:List ao->Nat|[]=>0|a::b=>max a.fa<|k3 b
end
mutual
def qO:ao->Int->Int|.mk _ _ _ _ a,b=>oq a b 1
def oq:List ao->Int->Int->Int|[],_,a=>a|c::e,b,a=>if a<=b then oq e b (a+qO c (b-a)) else a
end
def ao.parts_eq(a:ao):a.parts=1+ea a.aq:=by cases a;rfl
def ao.vF(a:ao):a.fa=1+k3 a.aq:=by cases a;rfl
def YH(a:ao)(o:Int):qO a o=oq a.aq o 1:=by cases a;rfl
def ao.Ye(a:ao):1<=a.parts:=by rw[a.parts_eq];omega
theorem anK{a:List ao}{o b:Int}(w:¬b<=o):oq a o b=b:=by cases a with|nil=>rfl|cons c a=>rw[oq,aa w]
def WO{c b:ao}(w:b∈c.aq):b.parts<c.parts:=by
 rw[c.parts_eq];have:∀a,b∈a->b.parts<=ea a:=by
  intro a
  induction a with|nil=>simp|cons e a g=>rw[ea]<;>grind
 grind
def akG{c b:ao}(w:b∈c.aq):b.fa<c.fa:=by
 rw[c.vF];have:∀a,b∈a->b.fa<=k3 a:=by
  intro a
  induction a with|nil=>simp|cons e a g=>rw[k3]<;>grind
 grind
def Nn(b:ao):b.aq.length<b.parts:=by
 rw[b.parts_eq];have:∀a,a.length<=ea a:=by
  intro a
  induction a with|nil=>trivial|cons c a e=>rw[ea,kh];have:=c.Ye;omega
 grind
def YI:∀e:ao,∀o:Int,(qO e o<=e.parts/\1<=qO e o)/\((e.parts:Int)<=o->qO e o=e.parts)/\(o<(e.parts:Int)->o<qO e o):=by
 refine ao.ind λe u o=>?_;rw[YH];let key:∀c,(∀g∈c,∀o,(qO g o<=g.parts/\1<=qO g o)/\(g.parts<=o->qO g o=g.parts)/\(o<g.parts->o<qO g o))->∀a,1<=a->(oq c o a<=a+ea c/\1<=oq c o a)/\(a+ea c<=o->oq c o a=a+ea c)/\(o<a+ea c->o<oq c o a):=by
  intro c
  induction c with|nil=>simp[oq,ea]|cons h c j=>intro w a s;rw[oq,ea];let⟨⟨bu,cG⟩,k,l⟩:=w h b<|o-a;let i:=j λg t=>w g b;split;let⟨⟨m,p⟩,q,r⟩:=i (a+qO h (o-a)) v<;>omega;omega
 rw[e.parts_eq]<;>simp_all
variable{I:Nat}
theorem Wy{a:List ao}(w:I<a.length):k3 (a.take (I+1))=max (k3 (a.take I)) (a.getD I default).fa:=by induction a generalizing I with|nil=>trivial|cons b a c=>grind[k3,max,default]
def agj:∀a:ao,a.parts<=1000000->∀b:Nat,b<=1000000->aA 126 [bY a,q b] (.bool (decide (b<a.fa))):=by
 refine ao.ind λa m C b B=>?_;let A:=a.vF;let y:=Nn a;refine ff.of_wp (z:=gT) (o:=5000) [] (λ_=>(0,0)) ⟨[(0,bY a),(1,q b)],[],[]⟩ eW aZ gE ⟨func126,ax,rfl⟩ rfl rfl rfl rfl λs k l=>?_;let t:j2 a4 gT s fZ _ []:=⟨eW,aZ,k,gE,l⟩;apply j<;>intro x
 .exact ae (w:=by rw[show decide (b<a.fa)=true by grind];rfl)
 refine eH a.aq.length (λc=>k3 (a.aq.take c)<b) (λc=>⟨[(1,_),(2,g 2),(5,q c)],[(2,_)],[]⟩) (λc p=>?_) (by grind[k3]) .r;apply j<;>intro h
 .let e:c<a.aq.length:=by rw[gA] at h;omega
  refine aJ c (bY<|a.aq.getD c default) ?_ (p:=jr e);refine ia ((b-1:Nat):Int)<|az ?_ (i:=m (a.aq.getD c default) (bZ e) (by have:=WO<|bZ (M:=default) e;omega) (b-1) v);apply j<;>intro u
  .exact ae (w:=by let hm:=akG<|bZ (M:=default) e;rw[show decide (b<a.fa)=true by grind];rfl)
  refine aL ?_;exact aB (c+1) ⟨v,by grind[Wy]⟩ (bo:=.r)
 rw[gA] at h;obtain rfl:c=a.aq.length:=v;exact ae (w:=by rw[show decide (b<a.fa)=false by grind];rfl)
def apv:∀a:ao,a.parts<=1000000->∀o:Int,0<=o->o<=1000000->aA 127 [bY a,.int .i64 o] (.int .i64 (qO a o)):=by
 refine ao.ind λa x E o C D=>?_;let B:=Nn a;rw[YH];refine ff.of_wp (z:=gT) (o:=5000) [] (λ_=>(0,0)) ⟨[(0,bY a),(1,.int .i64 o)],[],[]⟩ eW aZ gE ⟨func127,ax,rfl⟩ rfl rfl rfl rfl λs t w=>?_;let A:j2 a4 gT s fZ _ []:=⟨eW,aZ,t,gE,w⟩;refine cQ (Nat×Int) (λc=>⟨[(1,_),(2,g 2),(5,.int .i64 c.2),(6,q c.1)],[(2,_)],[]⟩) (λc=>c.1<=a.aq.length/\oq a.aq o 1=oq (a.aq.drop c.1) o c.2/\1<=c.2/\c.2<=2000000) (λc=>a.aq.length-c.1) (0,1) (λ⟨b,e⟩ ⟨H,m,I,J⟩=>?_) ⟨c1 _,rfl,zY 1,v⟩ .r;refine fM ?_;apply j<;>intro l
 .let k:(b:Int)<(fy a.aq).length/\e<=o:=by simpa[eg] using l
  let h:b<a.aq.length:=by have:=k.1;rw[gA] at this;omega
  let G:=(YI (a.aq.getD b default)<|o-e).1;let F:=WO<|bZ (M:=default) h;refine aJ b (bY<|a.aq.getD b default) ?_ (p:=jr h);refine g1<|az ?_ (i:=x (a.aq.getD b default) (bZ h) v (o-e) v v);refine aL<|aL ?_;exact aB (b+1,e+qO (a.aq.getD b default) (o-e)) ⟨h,by rw[m,sk h,oq,ab k.2],v,v⟩ v .r
 let k:¬((b:Int)<(fy a.aq).length/\e<=o):=by simpa[eg] using l
 rw[gA] at k;let u:oq (a.aq.drop b) o e=e:=by by_cases y:e<=o;grind[List.drop_eq_nil_of_le,oq];grind[anK]
 rw[m,u];exact ae
def v2{a:List (Int×Int)}(w:I<a.length):(a.map fz)[I]?=some (fz (a.getD I default)):=b
def XJ{a:ao}(w:mb a)(c:I<a.set.length):0<=(a.set.getD I default).1/\(a.set.getD I default).1<=(a.set.getD I default).2/\(a.set.getD I default).2<=255:=w.2.2.2.2.1 _ b
def am6(c:ao)(w:mb c):aA 188 [bY c] (.int .i64 0):=by
 refine aX func188 [] λs o=>?_;let i:=λ(a:Nat) (p:a<c.set.length)=>XJ w p;let⟨⟨T,X⟩,Y,Z,ad,ag,ah,m,ai,l,U,W⟩:=w;let Q:¬c.cc=3->c.set.length=0:=λh=>b;let R:c.cc=3->0<c.set.length:=λh=>ya.2<|l h;let O:c.cc<4->c.aq.length=0:=λh=>b;let D:=gA c.aq;refine dD ?_;apply j<;>intro t
 .omega
 refine fM ?_;apply cs;intro I;apply b2;intro J;refine dD ?_;exact rfl;exact rfl;apply cs;intro K;refine fM ?_;exact rfl;apply j<;>intro A
 .omega
 refine dD ?_;refine fM ?_;apply cs;intro L;refine fM ?_;exact rfl;apply cs;intro M;refine fM ?_;exact rfl;apply j<;>intro B
 .omega
 refine dL c.set.length (λa=>⟨[(1,g 1),(3,q a)],[(1,_)],[]⟩) (λa p=>?_) .r;apply j<;>intro C
 .let e:a<c.set.length:=v;let k:=i a e;refine c7 ?_;refine gZ a (fz<|c.set.getD a default) ?_ (p:=v2 e);apply cs;intro N;refine gZ a (fz<|c.set.getD a default) ?_ (p:=v2 e);refine gZ a (fz<|c.set.getD a default) ?_ (p:=v2 e);exact rfl;apply cs;intro E;refine gZ a (fz<|c.set.getD a default) ?_ (p:=v2 e);exact rfl;apply j<;>intro u
  .omega
  refine aL ?_;exact aB (a+1) (bo:=.r)
 apply b2;intro F;refine dD ?_;apply cs;intro G;apply b2;intro H;refine dD ?_;exact rfl;exact rfl;exact rfl;apply j<;>intro x
 .omega
 refine cQ Nat (λa=>⟨[(1,g 1),(4,q a)],[(1,_)],[]⟩) (λa=>1<=a) (λa=>1000-a) 1 (λa p=>?_) (a1 1) .r;apply j<;>intro y
 .let e:a<c.set.length:=v;let k:=i a e;let S:=i (a-1) v;let P:=m a v e;refine c7 ?_;refine gZ a (fz<|c.set.getD a default) ?_ (p:=v2 e);refine ia ((a-1:Nat):Int) ?_;refine gZ (a-1) (fz<|c.set.getD (a-1) default) ?_ (p:=v2 v);refine aL ?_;apply j<;>intro z
  .omega
  refine aL ?_;exact aB (a+1) (bo:=.r)
 exact ae
def am_:∀a:ao,dx a->aA 128 [bY a] (.int .i64 0):=by
 refine ao.ind λa t he=>?_;let⟨e,w⟩:=nw.1 he;let x:=e.2.2.2.1;refine ff.of_wp (z:=gT) (o:=5000) [] (λ_=>(0,0)) ⟨[(0,bY a)],[],[]⟩ eW aZ gE ⟨func128,ax,rfl⟩ rfl rfl rfl rfl λs h m=>?_;let u:j2 a4 gT s fZ _ []:=⟨eW,aZ,h,gE,m⟩;refine az (i:=am6 a e)<|dL a.aq.length (λc=>⟨[(1,g 1),(3,.int .i64 0),(4,q c)],[(1,_)],[]⟩) (λc p=>?_) .r;refine fM ?_;apply j<;>intro k
 .let l:c<a.aq.length:=by have:=k;rw[gA] at this;omega
  refine aJ c _ ?_ (p:=jr l);refine az (i:=t (a.aq.getD c default) b b)<|aL ?_;exact aB (c+1) (bo:=.r)
 exact ae
def Y0(a:ao)(w:dx a)(b:a.parts<=1000000):aA 85 [bY a] (.int .i64 (if 40<a.fa\/400<a.parts then 3 else 0)):=by
 refine aX func85 [] λs c=>?_;let h:=YI a 400;refine az ?_ (i:=agj a b 40 aj);apply cs;refineλg=>bT ?_ (i:=apv a b 400 aj aj);exact rfl;apply j<;>intro e
 .exact ae (w:=by rw[ab];rfl;omega)
 refine az ?_ (i:=am_ a w);exact ae (w:=by rw[aa];rfl;omega)
noncomputable def nZ(a:q_):a3×Int:=if 300<(iZ a).next.length then(w6,3) else(iZ a,0)
def Y1(a:ao)(b:dx a)(e:a.parts<=400)(c:a.fa<=40):aA 85 [bY a] (.int .i64 0):=by have:=Y0 a b v;grind
theorem apw(a:ao)(b:dx a)(e:2000<cr a):aA 86 [bY a] (.tuple [Gh,.bool false]):=by
 refine aX func86 [] λs c=>?_;refine az ?_ (i:=Pk a b);apply j<;>intro g
 .exact cu aZ
 omega
def aov(a:a3)(w:fH a):aA 87 [dW a] (.tuple [dW (nZ (gG a)).1,.int .i64 (nZ (gG a)).2]):=by
 refine aX func87 [] λs b=>?_;refine az ?_ (i:=apg a w);apply j<;>intro c
 .rw[show nZ _=(w6,3) from ab v];exact fA 1 2 [1,2] (cu aZ)
 rw[show nZ _=(iZ _,0) from aa v];exact cu aZ
theorem Y3(a:ao)(b:dx a)(e:a.parts<=400)(c:a.fa<=40)(g:aA 86 [bY a] (.tuple [Gh,.bool false])):aA 54 [bY a] (.tuple [dW w6,.int .i64 3]):=by refine aX func54 [] λs h=>?_;refine az ?_ (i:=Y1 a b e c);refine kN.mk nofun λ_=>?_;refine az ?_ (i:=g);refine kN.mk (λ_=>?_) nofun;exact fA 1 2 [1,2] (cu aZ)
def aoj(a:ao)(e:dx a)(h:a.parts<=400)(g:a.fa<=40){b:a3}(c:fH b)(j:aA 86 [bY a] (.tuple [dW b,.bool true])):aA 54 [bY a] (.tuple [dW (nZ (gG b)).1,.int .i64 (nZ (gG b)).2]):=by refine aX func54 [] λs k=>?_;refine az ?_ (i:=Y1 a e h g);refine kN.mk nofun λ_=>?_;refine az ?_ (i:=j);refine kN.mk nofun λ_=>?_;refine az ?_ (i:=aov b c);exact cu aZ
def aok{a:ao}(b:dx a)(h:a.parts<=400)(g:a.fa<=40):aA 54 [bY a] (.tuple [dW (gY a).1,.int .i64 (gY a).2]):=by
 unfold gY;by_cases i:2000<cr a;grind[Y3,apw];by_cases j:3000<(b6 (cB a ⟨[],[]⟩).1 (cB a ⟨[],[]⟩).2 3000).length;grind[Y3,aaz,ZB];let c:=ZB a b v;rw[aaA v] at c;have:=aoj a b h g (RI v) c;rw[Lr v] at this;let e:nZ (oW a)=if 2000<cr a\/3000<(b6 (cB a ⟨[],[]⟩).1 (cB a ⟨[],[]⟩).2 3000).length\/300<(iZ<|oW a).next.length then(w6,3) else(iZ<|oW a,0):=by unfold nZ;by_cases k:300<(iZ<|oW a).next.length;simp_all;simp_all[aa]
 rw[<-e];trivial
abbrev hW(M:dr)(w:da)(a t:Nat):List Nat:=iX (jA M w) [a8 w 0] 0 a t
abbrev xH(M:dr)(w:da)(a t:Nat):Nat:=k8 (jA M w) [a8 w 0] 0 a t
abbrev kf(M:dr)(w:da)(a:Nat):Nat:=fx (jA M w) [a8 w 0] 0 a
def CC(M:dr)(w:da)(a:Nat):Bool:=M.acc.getD (iL w<|kf M w a) false
def ZI(M:dr)(w:da)(a:Nat):List Nat:=fY (xH M w a) 256 256
def qe(M:dr)(w:da)(a:Nat):List V:=(List.range a).map λb=>aW<|CC M w b
def qU(M:dr)(w:da)(a:Nat):List V:=(List.range a).map λb=>bl<|ZI M w b
def ac5(M:dr)(w:da)(a:Nat):qe M w a++[aW (CC M w a)]=qe M w (a+1):=by simp[qe,r0,cD]
def apO(M:dr)(w:da)(a:Nat):qU M w a++[bl (ZI M w a)]=qU M w (a+1):=by simp[qU,r0,cD]
theorem ac4(M:dr)(w:da)(a:Nat):(qe M w a).length=a:=by simp[qe,aS,gM]
theorem apN(M:dr)(w:da)(a:Nat):(qU M w a).length=a:=by simp[qU,aS,gM]
def VN:nR (λ_=>True) q:=nR.nat
def VO{b:Nat->V}(a:List Nat):k1 (.int .i64) (dY q b a):=Nh λ_ _=>rfl
section
variable{M:dr}(a6:M.ok){w:da}(F:Ak M w)
include a6 F
theorem al2(a:I<(gS M w I).length)(t:Nat):(hW M w I t).length<=w.mem.length:=cA (At a t).length_le<|Ea a6 F _
theorem al3(a:I<(gS M w I).length):kf M w I<w.mem.length:=Oz a6 F I _<|dh<|vd a
theorem aeX(i:w.c9=[])(h:∀a,a<M.bi.length->∃b,nF (gj (g6 M)) 0 b=a):(iZ (gG (g6 M))).next.length=w.mem.length:=by let c:=Ea a6 F w.mem.length;let e:=F.ok.count;let g:=a6.DN;grind[V7,gS,List.length_map,amg]
theorem aeW(l:w.c9=[]){H:Nat}(h:H<=(gS M w H).length)(c:(gS M w H).length<=H):dW (iZ (gG (g6 M)))=.agg [.int .i64 0,.f 1 (qe M w H),.f 1 (qU M w H)]:=by
 have q:=F.ok.count;have r:=a6.DN;have s:=Ea a6 F H;rw[V7 a6 F l c v];have k:=Zz (succ:=jA M w) (bj:=[a8 w 0]) (M:=0) (o:=256) (H:=H) af (λb=>aaD M w b) h c;have e:(gS M w H).length=H:=v;have u:∀bJ,bJ<H->(gS M w H)[bJ]?=some (kf M w bJ):=by
  intro bJ x;have i:bJ<(bH (jA M w) [a8 w 0] bJ).length:=by refine yh λt=>?_;have g:gS M w H=gS M w bJ:=py (bJ:=H) t v;rw[g] at e;have:(bH (jA M w) [a8 w 0] bJ).length=H:=e;omega
  exact vT (lU v)<|vd (M:=0) i
 have j:gS M w H=(List.range H).map (kf M w):=by refine ho λbJ=>?_;by_cases t:bJ<H;simp_all;simp_all
 have m:((gS M w H).map λa=>fT (g6 M)<|iL w a).map aW=qe M w H:=by rw[j,ez,ez];rfl
 have p:((gS M w H).map λa=>(jA M w a).map<|e_<|gS M w H).map bl=qU M w H:=by show((bH (jA M w) [a8 w 0] H).map λb=>(jA M w b).map<|e_<|bH (jA M w) [a8 w 0] H).map bl=_;rw[<-k,ez];rfl
 show V.agg [.int .i64 0,.f 1 (((gS M w H).map λa=>fT (g6 M)<|iL w a).map aW),.f 1 (((gS M w H).map λa=>(jA M w a).map<|e_<|gS M w H).map bl)]=_;simp_all
end
def ajY(M:dr)(a6:M.ok)(dc:∀Z,Z<M.bi.length->∃ad,nF (gj (g6 M)) 0 ad=Z):cK 170 [g 6000] [(6000,.cell 259 (kX M))] (.tuple [dW (nZ (gG (g6 M))).1,.int .i64 (nZ (gG (g6 M))).2]) [(6000,.cell 259 (kX M))]:=by
 refine cX func170 [2004,2007,2023] λaA s ag=>?_;have aq:=a6.DN;have ao:=a6.pO;have x:=a6.cl;refine hQ [(6000,6000)] (λ_=>[]) [] (λw ⟨l,Y⟩=>?_) (i:=adv M a6) (vC:=x9 _) (vB:=λ_ _=>x9 _);have al:=l.ok.count;have ak:=aeX a6 l Y dc;apply j<;>intro E
 .try simp only[aS] at E
  rw[show nZ (gG (g6 M))=(w6,3) from ab v];exact fA 1 2 [1,2] (gX aZ)
 try simp only[aS] at E
 have an:w.mem.length<=300:=v;have av:=l.ok.len;have D:(w.of.map q)[0]?=some (q (a8 w 0)):=dg v;have ah:nZ (gG (g6 M))=(iZ (gG (g6 M)),0):=aa v;refine cP ?_;refine aJ 0 (q<|a8 w 0) ?_ (p:=D);refine xB (dY q (λh=>q<|id h)<|hW M w 0 0) 1 ?_ VB (hu:=ax);refine aJ 0 (q<|a8 w 0) ?_ (p:=D);refine og ?_;refine ay.dI 1500 1 4 [] (some (7,1)) ?_;refine ay.dI 1501 1 64 [] (some (7,2)) ?_;refine cP ?_;refine cQ Nat (λa=>⟨[(0,g 6000),(2,g 2),(4,.ref 2 [.agg [.f 1 (w.of.map q),.f 1<|w.mem.map bl]] 0 0),(5,.dj 24),(6,.d 38 0 ((hW M w a 0).map q).length),(7,g 7),(8,q a)],[(38,.n 1 3<|(hW M w a 0).map q),(1500,.n 1 4<|qe M w a),(1501,.n 1 64<|qU M w a),(2,.cell 131<|.agg [.int .i64 0,.aQ,.aQ]),(7,.cell 131<|.agg [.int .i64 0,.d 1500 0 (qe M w a).length,.d 1501 0 (qU M w a).length]),(6000,.cell 259<|kX M),(24,.map (dY q (λh=>q<|id h)<|hW M w a 0) (hW M w a 0).length)],[]⟩) (λa=>a<=(gS M w a).length) (λa=>300-a) 0 (λa p=>?_)<|c1 _;apply j<;>intro F
 .try simp only[aS] at F
  have ap:hW M w a 0=gS M w a:=ts a;have o:a<(gS M w a).length:=by rw[<-ap];omega
  have aw:=Ea a6 l a;have G:=al3 a6 l o;have r:=l.ok.Em G;have T:((hW M w a 0).map q)[a]?=some (q (kf M w a)):=by rw[ap,ch];show Option.map q (bH (jA M w) [a8 w 0] a)[a]?=_;rw[vd (M:=0) o];rfl
  have R:(w.mem.map bl)[kf M w a]?=some (bl (w.mem.getD (kf M w a) [])):=by rw[ch,cg,bw G];rfl
  have N:((w.mem.getD (kf M w a) []).map q)[0]?=some (q (iL w (kf M w a))):=dg r.2.2;have H:(jA M w (fx (jA M w) [a8 w 0] 0 a)).length=256:=aaD M w _;have S:(M.bi.map bl)[iL w (kf M w a)]?=some (bl (M.bi.getD (iL w (kf M w a)) [])):=by rw[ch,cg,bw r.1];rfl
  have O:(M.acc.map aW)[iL w (kf M w a)]?=some (aW (CC M w a)):=by unfold CC;rw[ch,cg,bw (by rw[a6.ac]<;>omega)];rfl
  refine c7 ?_;refine cz a ?_ (p:=aK);refine ft (q<|kf M w a) ?_ (p:=T);refine aJ (kf M w a) (bl<|w.mem.getD (kf M w a) []) ?_ (p:=R);refine aJ 0 (q<|iL w<|kf M w a) ?_ (p:=N);refine ja 256 256 ((fY (xH M w a) 256 0).map q) ?_ (aG:=ax);refine dL 256 (λt=>⟨[(0,g 6000),(2,g 2),(4,.ref 2 [.agg [.f 1 (w.of.map q),.f 1<|w.mem.map bl]] 0 0),(5,.dj 24),(6,.d 38 0 ((hW M w a t).map q).length),(7,g 7),(8,q a),(9,q<|iL w<|kf M w a),(10,.d 57 0 256),(59,q 256),(60,q t)],[(38,.n 1 3<|(hW M w a t).map q),(57,.n 1 3<|(fY (xH M w a) 256 t).map q),(1500,.n 1 4<|qe M w a),(1501,.n 1 64<|qU M w a),(2,.cell 131<|.agg [.int .i64 0,.aQ,.aQ]),(7,.cell 131<|.agg [.int .i64 0,.d 1500 0 (qe M w a).length,.d 1501 0 (qU M w a).length]),(6000,.cell 259<|kX M),(24,.map (dY q (λh=>q<|id h)<|hW M w a t) (hW M w a t).length)],[]⟩) λt ai=>?_;apply j<;>intro aj
  .have m:t<256:=v;obtain⟨k,z⟩:∃k,M.sf.getD t 0=k:=⟨_,rfl⟩;have K:k<M.fst.length:=by rw[<-z];exact a6.lt t m
   obtain⟨c,A⟩:∃c,i1 M (iL w (kf M w a)) k=c:=⟨_,rfl⟩;have az:c<M.bi.length:=by rw[<-A];exact a6.CU r.1 K
   have U:((M.bi.getD (iL w (kf M w a)) []).map q)[k]?=some (q c):=by rw[dg (by rw[a6.rw _ r.1]<;>omega),<-A];rfl
   have P:(w.of.map q)[c]?=some (q (a8 w c)):=dg v;have Q:(kX M).cells[t]?=some (q k):=by rw[<-z];exact agf x m _ _ _
   have I:(jA M w (fx (jA M w) [a8 w 0] 0 a)).getD t 0=a8 w c:=by rw[ara m];show a8 w (i1 M (iL w (kf M w a)) (M.sf.getD t 0))=_;rw[z,A]
   have ae:=al2 a6 l o<|t+1;refine c7 ?_;refine ga (.f 1<|M.bi.map bl) ?_ (dc:=jp x _ _ _ 2);refine aJ (iL w<|kf M w a) (bl<|M.bi.getD (iL w<|kf M w a) []) ?_ (p:=S);refine iF t t ?_ (ii:=by show t=0+t*1;omega);refine ga (q k) ?_ (dc:=Q);refine aJ k (q c) ?_ (p:=U);refine aJ c (q<|a8 w c) ?_ (p:=P);refine qG (.tuple [q (kc id (hW M w a t)<|a8 w c),.bool<|sE (hW M w a t)<|a8 w c]) ?_ (VO _) (dc:=DF (L:=λ_=>True) (y:=id) (hN:=hW M w a t) (Z:=a8 w c) VN trivial (λ_ _=>trivial) rfl);apply j<;>intro J
   focus
    have X:a8 w c∉hW M w a t:=λhm=>by grind[pN,absurd]
    obtain⟨u,B⟩:=IE (succ:=jA M w) (bj:=[a8 w 0]) (M:=0) af o (by rw[H];exact m) b;rw[I] at u;have e:((hW M w a t).map q).length=xH M w a t:=by rw[aS];exact B
    rw[e];refine vN (dY q (λh=>q<|id h)<|hW M w a<|t+1) (hW M w a<|t+1).length ?_ (VO _) (hu:=by rw[<-e,aS,show hW M w a (t+1)=hW M w a t++[a8 w c] from u];exact Dv (L:=λ_=>True) (rP:=λh=>q<|id h) VN trivial (λ_ _=>trivial) X);refine dv ?_;refine eR ((hW M w a<|t+1).map q) ?_ (hlen:=e.symm) (aG:=b) (bq:=aK)
   rotate_left
   focus
    have W:a8 w c∈hW M w a t:=pN.1<|Cb.1 J;obtain⟨u,B⟩:=IF (succ:=jA M w) (bj:=[a8 w 0]) (M:=0) o (by rw[H];exact m) b;have e:kc id (hW M w a t) (a8 w c)=xH M w a t:=by rw[A6 W,<-I];exact B
    rw[e,<-show hW M w a (t+1)=hW M w a t from u]
   all_goals refine cz t ?_ (p:=m);refine fl ((fY (xH M w a) 256<|t+1).map q) (q 0) (q<|xH M w a t) ?_ (p:=KR) (aG:=QF);refine aL ?_;exact aB<|t+1
  obtain rfl:t=256:=v;rw[show hW M w a 256=hW M w (a+1) 0 by simp_all[hW,Gl,a1,ts]];refine ay.xd 57 256 (show((fY (xH M w a) 256 256).map q).length=256 by rfl) ?_;refine cP ?_;refine dv ?_ (hlen:=λC e=>by rw[cV.1 e];rfl);refine eR (qU M w<|a+1) ?_ (fC:=.f rfl rfl rfl rfl λC e=>(by rw[cV.1 e];rfl)) (aG:=apO M w a) (bq:=by grind[apN]);refine dC ?_;refine a_ (λ_=>ga (.f 1<|M.acc.map aW) rfl (dc:=jp x _ _ _ 1)) ?_;refine a_ (λ_=>aJ (iL w<|kf M w a) (aW<|CC M w a) rfl (p:=O)) ?_;refine a_ (λ_=>jv rfl (hlen:=λC e=>by rw[cV.1 e];rfl)) ?_;refine jB 122 (qe M w<|a+1) ?_ (fC:=.f rfl rfl rfl rfl λC e=>(by rw[cV.1 e];rfl)) (aG:=ac5 M w a) (bq:=by grind[ac4]);refine eJ ?_;refine iK [(122,1500)] ?_;refine aL ?_;exact aB (a+1) (cA (acr o) (lU<|jj a).length_le)
 try simp only[aS] at F
 have ap:hW M w a 0=gS M w a:=ts a;have am:(gS M w a).length<=a:=by rw[<-ap];omega
 rw[show V.tuple [dW (nZ (gG (g6 M))).1,.int .i64 (nZ (gG (g6 M))).2]=.tuple [.agg [.int .i64 0,.f 1 (qe M w a),.f 1 (qU M w a)],.int .i64 0] by grind[aeW]];exact gB 1500<|gB 1501<|gX aZ
def aek:∀a:ao,dx a->FQ a:=ao.ind λa k he l e g h p j i=>
 ael a he (λc b=>k c b<|(nw.1 he).2 c b) l e g h p j i
theorem aaJ:∀(a:List (List Nat))(b c:Nat),((a.set b (a.getD b []++[c])).map List.length).sum<=(a.map List.length).sum+1
|[],_,_=>jj _|e::a,0,c=>by(simp;omega)|e::a,b+1,c=>by
 have:=aaJ a b c
 (simp_all;omega)
theorem vL(a:aO)(b c:Nat):(a.cx b c).b8<=a.b8+1:=by grind[aO.b8,aO.cx,aaJ,List.length_set]
theorem akW(a:aO)(b c:Nat)(O:au):(a.sN b c O).b8<=a.b8+2:=by(simp[aO.b8,aO.sN,c_,pk];omega)
def uU(c:aO->Nat->aO×Nat)(t:Nat):Prop:=∀a b,(c a b).1.b8<=a.b8+t
def uU.it{c:aO->Nat->aO×Nat}{t:Nat}(w:uU c t):∀(F:Nat)(a:aO)(b:Nat),(gl c F a b).1.b8<=a.b8+F*t|0,a,b=>yg _ _|F+1,a,b=>by rw[gl];let e:=uU.it w F (c a b).1 (c a b).2;let g:=w a b;grind
def uU.op{c:aO->Nat->aO×Nat}{t:Nat}(w:uU c t):∀(F:Nat)(a:aO)(b:Nat),(dk c F a b).1.b8<=a.b8+F*(t+3)
|0,a,b=>yg _ _|F+1,a,b=>by
 rw[dk];let g:=uU.op w F (uf c a b) a.ag.length;let h:(uf c a b).b8<=a.b8+(t+3):=by refine cA (vL _ _ _) ?_;let bu:=w (a.bc.cx b a.ag.length) b;let cG:=vL a.bc b a.ag.length;let e:=xy a;omega
 grind
theorem uU.eZ{e:aO->Nat->aO×Nat}{t:Nat}(w:uU e t)(a g:Int)(p:0<=a)(q:g=-1\/a<=g)(b:aO)(c:Nat):(nB e a g b c).1.b8<=b.b8+(if g=-1 then(a+1).toNat else g.toNat)*(t+3)+3:=by
 let m:=w.it a.toNat b c;unfold nB;by_cases h:g=-1;rw[ab h,ab h];refine cA (vL _ _ _) ?_;let bu:=w (jy (gl e a.toNat b c).1 (gl e a.toNat b c).2) (gl e a.toNat b c).1.ag.length;let cG:(jy (gl e a.toNat b c).1 (gl e a.toNat b c).2).b8<=(gl e a.toNat b c).1.b8+4:=by refine cA (vL _ _ _) ?_;let j:=vL (gl e a.toNat b c).1.bc.bc (gl e a.toNat b c).2 (gl e a.toNat b c).1.ag.length;let k:=xy (gl e a.toNat b c).1.bc;let l:=xy (gl e a.toNat b c).1;omega
 let i:(a+1).toNat=a.toNat+1:=v;grind[Nat.succ_mul,Nat.mul_le_mul_left];let o:=w.op (g-a).toNat (gl e a.toNat b c).1 (gl e a.toNat b c).2;let i:g.toNat=a.toNat+(g-a).toNat:=v;grind[Nat.add_mul,Nat.mul_le_mul_left]
def FZ(b:ao):Prop:=∀a,1<=a->cr b<=a->a<=2000->∀c e,(e8 b c e).1.b8+2<=c.b8+10*(b.parts*a)
def afB{a:List ao}{b:ao}(w:b∈a):cr b<=dl a:=by induction a with|nil=>trivial|cons c a e=>rw[dl];grind
def WY{c:Nat}(i:1<=c)(j:c<=2000):∀(e:List ao),(∀h∈e,FZ h/\cr h<=c)->∀a b,(jI e a b).1.b8<=a.b8+10*(ea e*c)|[],_,a,b=>by simp[jI,yg]|g::e,w,a,b=>by rw[jI,ea];let bu:=WY i j e (λh k=>w h<|ki _ k) (e8 g a b).1 (e8 g a b).2;let cG:=(w g<|ji ..).1 c i (w g<|ji ..).2 j a b;grind
def WZ{c:Nat}(j:1<=c)(k:c<=2000):∀(e:List ao),(∀i∈e,FZ i/\cr i<=c)->∀b a g,(j7 e b a g).b8<=b.b8+10*(ea e*c)|[],_,b,a,g=>by simp[j7,yg]|h::e,w,b,a,g=>by rw[j7,ea];let bu:=WZ j k e (λi l=>w i<|ki _ l) ((e8 h b a).1.cx (e8 h b a).2 g) a g;let cG:=(w h<|ji ..).1 c j (w h<|ji ..).2 k b a;grind[vL,e8,Nat.add_mul,Nat.mul_add]
def akV:∀c:ao,dx c->FZ c:=ao.ind λc x he j q Q r g i=>by
 let⟨⟨⟨W,X⟩,Y,L,_⟩,s⟩:=nw.1 he;let G:10*(c.parts*j)=10*j+10*(ea c.aq*j):=by rw[c.parts_eq,gg,td,yi]
 rw[G];by_cases m:cr c=0;grind[RY,lW,xy,vL];rw[RZ c g i m];let h:=tz c;unfold lY at h;by_cases y:c.cc=3;grind[xy,vL,akW,ie];rw[aa y] at h⊢;by_cases l:c.cc=6;rw[aa v,aa v,ab l];rw[ab l] at h;let⟨A,B,P,C⟩:=L l;let⟨a,k⟩:=Ce.1 A;let w:a∈c.aq:=by rw[k];exact ji ..
 let K:=x a w<|s a w;rw[k] at h⊢;let E:dl [a]=cr a:=by rw[dl,dl];rfl
 let H:ea [a]=a.parts:=by rw[ea,ea];rfl
 rw[E] at h;rw[H];obtain⟨e,u⟩:∃e,(if c.max=-1 then(c.min+1).toNat else c.max.toNat)=e:=⟨_,rfl⟩;rw[u] at h;let S:cr c=cr a*e:=by have:Nat.min (cr a*e) 2001=min (cr a*e) 2001:=rfl;rw[this] at h;omega
 let o:1<=cr a:=Qv λD=>m b;let I:1<=e:=Qv λD=>m b;let R:cr a<=cr a*e:=KF _ I;let T:e<=cr a*e:=Nat.le_mul_of_pos_left _ o;let U:10*(a.parts*cr a)>=2:=by have:=yj a.Ye o;omega
 let F:uU (e8 a) (10*(a.parts*cr a)-2):=λg i=>by have:=K (cr a) o (a1 _) v g i;omega
 let J:=F.eZ c.min c.max B (C.imp id And.left) g i;rw[u] at J;show(nB (e8 a) c.min c.max g i).1.b8+2<=_;let N:e*(10*(a.parts*cr a)-2+3)=10*(a.parts*(cr a*e))+e:=by rw[show 10*(a.parts*cr a)-2+3=10*(a.parts*cr a)+1 by omega,yi,wv];congr 1;rw[acn,jk e,nO]
 let O:a.parts*(cr a*e)<=a.parts*j:=Ck _ v;omega;rw[aa l] at h;let cp:dl c.aq<=j:=by have:Nat.min (dl c.aq) 2001=min (dl c.aq) 2001:=rfl;rw[this] at h;omega
 let t:∀a∈c.aq,FZ a/\cr a<=j:=λa k=>⟨x a k<|s a k,cA (afB k) cp⟩;by_cases p:c.cc=4;rw[ab p];have:=WY q r c.aq t g i;omega;rw[aa p];by_cases z:c.cc=5;rw[ab z];show(j7 c.aq g.bc i g.ag.length).b8+2<=_;let M:=xy g;have:=WZ q r c.aq t g.bc i g.ag.length;omega;grind[xy,vL]
def CN(a:List Nat)(t:Nat):List UInt8:=[UInt8.ofNat (a.getD t 0),UInt8.ofNat<|a.getD t 0/256]
def n3(a:a3)(t b:Nat):List UInt8:=(a.next.take b).flatMap λc=>CN c t
def LX{a:a3}{t:Nat}(w:I<a.next.length):n3 a t (I+1)=n3 a t I++CN (a.next.getD I []) t:=by unfold n3;grind[oy]
def afD(e:a3)(t b:Nat):(n3 e t b).length<=2*b:=by
 unfold n3;have:∀a:List _,(a.flatMap λc=>CN c t).length=2*a.length:=by
  intro a
  induction a with|nil=>rfl|cons c a g=>rw[Ft,c_,g,kh];show 2+_=_;omega
 grind
def aa5(a:Nat):IntKind.u8.wrap (a:Int)=((UInt8.ofNat a).toNat:Int):=by rfl
def afE(a:a3)(t:Nat)(i:fH a)(x:t<256):aA 232 [dW a,q t] (.str (n3 a t a.next.length)):=by
 refine aX func232 [] λs u=>?_;let m:=i.len;let A:(a.next.map bl).length<=100000:=by rw[aS];exact m
 refine DQ ?_;refine ja 0 (2*a.next.length) [] ?_ (jM:=af);refine dL a.next.length (λb=>⟨[(1,q t),(5,.d 12 0 ((n3 a t b).map bh).length),(14,.f 1<|a.next.map bl),(15,q (a.next.map bl).length),(16,q b)],[(12,.n 1 5<|(n3 a t b).map bh),(2,.cell 131<|dW a)],[]⟩) λb p=>?_;apply j<;>intro y
 .let g:b<a.next.length:=v;let l:(a.next.map bl)[b]?=some (bl<|a.next.getD b []):=by rw[ch,cg,bw g];rfl
  refine aJ b (bl<|a.next.getD b []) ?_ (p:=l);obtain⟨c,k⟩:∃c,(a.next.getD b []).getD t 0=c:=⟨_,rfl⟩;let h:((a.next.getD b []).map q)[t]?=some (q c):=by rw[dg (by rw[i.n b g]<;>omega),k]
  let o:n3 a t (b+1)=n3 a t b++[UInt8.ofNat c,UInt8.ofNat<|c/256]:=by rw[LX g,CN,k]
  let z:=afD a t<|b+1;refine dC ?_;refine a_ (λ_=>aJ t (q c) rfl (p:=h)) ?_;refine a_ (λ_=>W4 ((UInt8.ofNat c).toNat:Nat) rfl (av:=aa5 c))<|a_ (λ_=>aJ t (q c) rfl (p:=h)) ?_;refine a_ (λ_=>Ob ((c/256:Nat):Int) rfl (w:=(by show(c:Int).fdiv 256=_;grind)))<|a_ (λ_=>W4 ((UInt8.ofNat<|c/256).toNat:Nat) rfl (av:=aa5<|c/256))<|a_ (λ_=>jv rfl (hlen:=λr e=>by simp at e;rcases e with rfl|rfl<;>rfl))<|jB 33 ((n3 a t (b+1)).map bh) (fC:=.f rfl rfl rfl rfl λr e=>(by simp at e;rcases e with rfl|rfl<;>rfl)) (aG:=by rw[o,cD];rfl) (bq:=aK)<|iK [(33,12)]<|aL<|aB<|b+1
 obtain rfl:b=a.next.length:=v;exact Bl (n3 a t a.next.length) (hlen:=af) (a0:=aM)<|ae
def AK(a:Nat×Nat):V:=.agg [q a.1,q a.2]
def ajf(a:a3)(t:Nat)(c:fH a)(b:t<256):cK 231 [q t,g 6000] [(6000,.cell 131 (dW a))] (.str (n3 a t a.next.length)) [(6000,.cell 131 (dW a))]:=by refine cX func231 [] λh s e=>?_;refine az ?_ (i:=afE a t c b);exact cH
def acZ(a:a3)(b o:Nat)(c:fH a)(i:b<a.next.length):cK 233 [AK (b,o),g 6000] [(6000,.cell 131 (dW a))] (.bool (a.acc.getD b false)) [(6000,.cell 131 (dW a))]:=by
 refine cX func233 [] λj s e=>?_;let h:(a.acc.map aW)[b]?=some (aW<|a.acc.getD b false):=by rw[ch,cg,bw (by rw[c.acc]<;>omega)];rfl
 refine iF 0 0 ?_;refine aJ b _ ?_;exact cH
def W2{F:am->Prop}{l i:TypeId}{c g:b0}{k:Array (Nat×Operand)}{e:List (Nat×V)}{GC:List V}(y:F (O.put P.dst (.agg GC)))(A:P.op=.build l k:=by rfl)(E:z.find l=some c:=by rfl)(a6:c.d=.array I i:=by rfl)(D:c.R=false:=by rfl)(x:z.find i=some g:=by rfl)(C:pR m O.h k.toList=some e:=by rfl)(B:uk (e.map (·.2)):=by rfl)(w:oM (λH=>some (H*g.size,g.size)) (V.zero c.z).cells e=some GC:=by rfl)(j:(V.agg GC).plain:=by rfl):fR T z s m o ops P O F:=by obtain⟨L,q,J⟩:=ak6 (G:=true) rfl A E a6 D x C B w j;exact fR.pure j (λu r t p=>by let K:=cb.full (R:=O.a p)<|q u r t p _ b;grind[V.eC]) y
def aq4(a:a3)(b o t:Nat)(i:fH a)(e:b<a.next.length)(l:t<256):cK 235 [AK (b,o),q t,g 6000] [(6000,.cell 131 (dW a))] (AK ((a.next.getD b []).getD t 0,0)) [(6000,.cell 131 (dW a))]:=by refine cX func235 [] λm s k=>?_;let h:=dg (by rw[i.n b e]<;>omega);obtain⟨c,j⟩:∃c,(a.next.getD b []).getD t 0=c:=⟨_,rfl⟩;rw[j] at h⊢;refine jS _ ?_;refine iF 0 0 ?_;refine aJ b (bl<|a.next.getD b []) ?_ (p:=(by rw[ch,cg,bw e];rfl));refine aJ t _ ?_;exact W2 (GC:=[q c,q 0])<|gX aZ
section
attribute [local semireducible] eV eQ
def gF(a:a3)(t:Nat):List UInt8:=n3 a t a.next.length
def ec(a:a3):List Nat:=eV (gF a) 256
def tx(a:a3):List Nat:=(List.range 256).map<|ix<|gF a
def aff(a:a3)(u:fH a):cK 166 [g 6000,.func (.func 231) [] [g 6001]] [(6000,.cell 259 (fr (List.replicate 256 0) .aQ .aQ .aQ)),(6001,.cell 131 (dW a))] (.tuple []) [(6000,.cell 259 (fr (tx a) (.f 1 ((ec a).map q)) .aQ .aQ)),(6001,.cell 131 (dW a))]:=by
 refine cX func166 [2001] λC s x=>?_;refine ay.re 1400 1 3 6000 0 ?_;refine cP ?_;rw[show List.replicate 256 0=fY (ix (gF a)) 256 0 from(apo _ _).symm];refine dL 256 (λt=>⟨[(0,g 6000),(1,.func (.func 231) [] [g 6001]),(4,.dj 9),(10,q t)],[(1400,.n 1 3<|(eV (gF a) t).map q),(6000,.cell 259<|fr (fY (ix<|gF a) 256 t) (.d 1400 0 ((eV (gF a) t).map q).length) .aQ .aQ),(6001,.cell 131<|dW a),(9,.map (dY Ba (λe=>q<|id e)<|eQ (gF a) t) (eQ (gF a) t).length)],[]⟩) λt z=>?_;apply j<;>intro A
 .let b:t<256:=v;let c:=Jv (ix<|gF a) 256 t;let B:=AY (gF a) t;refine bk [(6000,6001)] ?_ (i:=ajf a t u b);refine qG (.tuple [q (kc id (eQ (gF a) t)<|gF a t),.bool<|sE (eQ (gF a) t)<|gF a t]) ?_ (HS _) (dc:=DF (L:=λ_=>True) (y:=id) (hN:=eQ (gF a) t) (Z:=gF a t) HR trivial (λ_ _=>trivial) rfl);apply j<;>intro h
  focus
   let r:gF a t∉eQ (gF a) t:=λw=>by rw[pN.2 w] at h;exact absurd h af
   let⟨l,m,o⟩:=Sz (gF a) b r;let k:((eV (gF a) t).map q).length=ix (gF a) t:=by rw[aS,l]
   refine ga (.d 1400 0 ((eV (gF a) t).map q).length) ?_ (dc:=jp c _ _ _ 0);refine vN (dY Ba (λe=>q<|id e)<|eQ (gF a)<|t+1) (eQ (gF a)<|t+1).length ?_ (HS _) (hu:=by rw[o,aS,<-Dy];exact Dv (L:=λ_=>True) (rP:=λe=>q<|id e) HR trivial (λ_ _=>trivial) r);refine ga (.d 1400 0 ((eV (gF a) t).map q).length) ?_ (dc:=jp c _ _ _ 0);refine dv ?_;refine eR ((eV (gF a)<|t+1).map q) ?_ (aG:=by rw[m,cD];rfl) (bq:=by rw[aS];have:=AY (gF a)<|t+1;omega);refine pP (fr (fY (ix<|gF a) 256 t) (.d 1400 0 ((eV (gF a)<|t+1).map q).length) .aQ .aQ) ?_ (i2:=by show 256<(fr _ _ _ _).cells.length;rw[SV c];omega) (aG:=wW c _ _ _ _ 0)
  rotate_left
  focus
   let p:gF a t∈eQ (gF a) t:=pN.1<|Cb.1 h;let⟨l,m,o⟩:=SA (gF a) b p;let k:kc id (eQ (gF a) t) (gF a t)=ix (gF a) t:=by rw[A6 p];exact l
   rw[k,<-m,<-o]
  all_goals refine iF t t ?_ (ii:=by show t=0+t*1;omega);refine pP (fr (fY (ix<|gF a) 256<|t+1) (.d 1400 0 ((eV (gF a)<|t+1).map q).length) .aQ .aQ) ?_ (i2:=by show t<(fr _ _ _ _).cells.length;rw[SV c];omega) (aG:=by first|(rw[k,<-Ez _ b];exact CQ c b _ _ _)|(rw[<-Ez _ b];exact CQ c b _ _ _));refine aL ?_;exact aB<|t+1
 obtain rfl:t=256:=v;rw[Ju];exact gB 1400 cH
end
def hy(a:a3)(c:Nat):List Nat:=(ec a).map λb=>(a.next.getD c []).getD b 0
abbrev fX(a:a3)(b t:Nat):List Nat:=iX (hy a) [a.start] 0 b t
abbrev mS(a:a3)(b t:Nat):Nat:=k8 (hy a) [a.start] 0 b t
abbrev qI(a:a3)(b:Nat):Nat:=fx (hy a) [a.start] 0 b
def Po(a:a3):(hy a I).length=(ec a).length:=by simp[hy,aS]
def apP{a:a3}{t:Nat}(b:t<(ec a).length):(hy a I).getD t 0=(a.next.getD I []).getD ((ec a).getD t 0) 0:=by grind[hy,List.getElem?_eq_getElem,ec]
def kd(a:Nat):V:=AK (a,0)
def PN:q4 a4 322 .i64 2:=⟨3,2,16,8,8,⟨af,bL⟩,⟨af,bL⟩,⟨bL⟩⟩
def Vz:yq (λ_=>True) kd:=λa b _ _=>by
 show decide ([(a:Int),0]=[(b:Int),0])=decide _
 (simp;omega)
def HO(a:Nat):oJ .i64 2 (kd a):=⟨[a,0],rfl,.inl rfl⟩
def VA{b:Nat->V}{a:List Nat}:rt .i64 2 (dY kd b a):=Vx λc _=>HO c
def ll(a:a3)(b:Nat):List V:=(List.range b).map λc=>aW<|a.acc.getD (qI a c) false
def BS(a:a3)(b:Nat):List Nat:=fY (mS a b) (ec a).length (ec a).length
def kI(a:a3)(b:Nat):List V:=(List.range b).map λc=>bl<|BS a c
def ac3(a:a3)(b:Nat):ll a b++[aW (a.acc.getD (qI a b) false)]=ll a (b+1):=by simp[ll,r0,cD]
def apM(a:a3)(b:Nat):kI a b++[bl (BS a b)]=kI a (b+1):=by simp[kI,r0,cD]
theorem ac2(b:a3)(a:Nat):(ll b a).length=a:=by simp[ll,aS,gM]
theorem ZM(b:a3)(a:Nat):(kI b a).length=a:=by simp[kI,aS,gM]
def Mz{a:a3}(w:I∈ec a):I<256:=by exact Dg _ 256 I w
def Un(a:a3):(ec a).length<=256:=AY _ 256
def XC{a:a3}(e:fH a)(g:Nat):∀c∈bH (hy a) [a.start] g,c<a.next.length:=qi (λc b=>by rw[cV.1 b];exact e.start) (λc b k i=>by obtain⟨j,h,rfl⟩:=b4.1 i;exact e.dst _ _ b<|Mz h) g
def D7{a:a3}(c:fH a)(b:Nat):(bH (hy a) [a.start] b).length<=a.next.length:=pH (wS af b)<|XC c b
def ahb(a:a3)(r:fH a)(W:a.next.length<=300):cK 234 [g 6000,kd a.start,.func (.func 233) [] [g 6001],.func (.func 235) [] [g 6001]] [(6000,.cell 259 (fr (tx a) (.f 1 ((ec a).map q)) .aQ .aQ)),(6001,.cell 131 (dW a))] (.tuple []) [(6000,.cell 259 (fr (tx a) (.f 1 ((ec a).map q)) (.f 1 (ll a (bH (hy a) [a.start] 300).length)) (.f 1 (kI a (bH (hy a) [a.start] 300).length)))),(6001,.cell 131 (dW a))]:=by
 refine cX func234 [2003,2019] λah s z=>?_;have H:=z.tM;have R:=z.av;have m:(tx a).length=256:=by rw[tx,aS,gM]
 have B:((ec a).map q).length=(ec a).length:=aS ..;have ag:=Un a;refine alb (dY kd (λe=>q<|id e)<|fX a 0 0) 1 ?_ PN (HO _) (λZ T=>absurd T h2) (show vM [] 0 (kd a.start) (q 0)=(dY kd (λe=>q<|id e) (fX a 0 0),1) from rfl);refine og ?_;refine ay.re 1601 1 4 6000 1 ?_;refine ay.re 1602 1 64 6000 2 ?_;refine cP ?_;refine cQ Nat (λc=>⟨[(0,g 6000),(2,.func (.func 233) [] [g 6001]),(3,.func (.func 235) [] [g 6001]),(8,.dj 18),(9,.d 22 0 ((fX a c 0).map kd).length),(10,q c)],[(22,.n 2 322<|(fX a c 0).map kd),(1601,.n 1 4<|ll a c),(1602,.n 1 64<|kI a c),(6000,.cell 259<|fr (tx a) (.f 1<|(ec a).map q) (.d 1601 0 (ll a c).length)<|.d 1602 0 (kI a c).length),(6001,.cell 131<|dW a),(18,.map (dY kd (λe=>q<|id e)<|fX a c 0) (fX a c 0).length)],[]⟩) (λc=>c<=(bH (hy a) [a.start] c).length) (λc=>300-c) 0 (λc p=>?_)<|c1 _;apply j<;>intro A
 .try simp only[aS] at A
  have ap:fX a c 0=bH (hy a) [a.start] c:=ts c;have o:c<(bH (hy a) [a.start] c).length:=by rw[<-ap];omega
  have J:=D7 r c;have K:=D7 r<|c+1;have C:qI a c<a.next.length:=XC r c _<|dh<|vd (M:=0) o;have P:((fX a c 0).map kd)[c]?=some (kd (qI a c)):=by rw[ap,ch,vd (M:=0) o];rfl
  have D:(hy a (fx (hy a) [a.start] 0 c)).length=(ec a).length:=Po a;refine cz c ?_ (p:=aK);refine ft (kd<|qI a c) ?_ (p:=P);refine jS (AK (0,0)) ?_;refine ga (.f 1<|(ec a).map q) ?_ (dc:=jp m _ _ _ 0);refine ja (ec a).length (ec a).length ((fY (mS a c) (ec a).length 0).map q) ?_ (p:=cW Nat.cast B) (jM:=cW Nat.cast B) (aG:=QD);refine ga (.f 1<|(ec a).map q) ?_ (dc:=jp m _ _ _ 0);refine dL (ec a).length (λt=>⟨[(0,g 6000),(2,.func (.func 233) [] [g 6001]),(3,.func (.func 235) [] [g 6001]),(8,.dj 18),(9,.d 22 0 ((fX a c t).map kd).length),(10,q c),(11,g 11),(12,.d 38 0 (ec a).length),(42,.f 1<|(ec a).map q),(43,q ((ec a).map q).length),(44,q t)],[(22,.n 2 322<|(fX a c t).map kd),(1601,.n 1 4<|ll a c),(1602,.n 1 64<|kI a c),(38,.n 1 3<|(fY (mS a c) (ec a).length t).map q),(6000,.cell 259<|fr (tx a) (.f 1<|(ec a).map q) (.d 1601 0 (ll a c).length)<|.d 1602 0 (kI a c).length),(6001,.cell 131<|dW a),(11,.cell 322<|kd<|qI a c),(18,.map (dY kd (λe=>q<|id e)<|fX a c t) (fX a c t).length)],[]⟩) λt Y=>?_;apply j<;>intro ad
  .have l:t<(ec a).length:=v;have X:(fX a c (t+1)).length<=a.next.length:=cA (At (M:=0) o<|t+1).length_le K;obtain⟨k,w⟩:∃k,(ec a).getD t 0=k:=⟨_,rfl⟩;have I:k<256:=by rw[<-w];exact Mz<|bZ l
   have O:((ec a).map q)[t]?=some (q k):=by rw[dg l,w]
   obtain⟨Z,G⟩:∃Z,(a.next.getD (qI a c) []).getD k 0=Z:=⟨_,rfl⟩;have E:=aq4 a (qI a c) 0 k r C I;rw[G] at E;have F:(hy a (fx (hy a) [a.start] 0 c)).getD t 0=Z:=by rw[apP l,w];exact G
   refine aJ t (q k) ?_ (p:=O);refine bk [(6000,6001)] ?_ (i:=E);refine jS (AK (0,0)) ?_;refine W7 (.tuple [q (kc id (fX a c t) Z),.bool<|sE (fX a c t) Z]) ?_ PN (HO _) VA (dc:=Wr (L:=λ_=>True) (y:=id) (Z:=Z) Vz trivial (λ_ _=>trivial) rfl);apply j<;>intro N
   focus
    have S:Z∉fX a c t:=λhm=>by grind[pN,absurd]
    obtain⟨u,x⟩:=IE (succ:=hy a) (bj:=[a.start]) (M:=0) af o (by rw[D];exact l) b;rw[F] at u;have h:((fX a c t).map kd).length=mS a c t:=by rw[aS];exact x
    rw[h];refine W8 (dY kd (λe=>q<|id e)<|fX a c<|t+1) (fX a c<|t+1).length ?_ PN (HO Z) VA (show vM (dY kd (λe=>q<|id e) (fX a c t)) (fX a c t).length (kd Z) (q (mS a c t))=(dY kd (λe=>q<|id e) (fX a c<|t+1),(fX a c<|t+1).length) by rw[<-h,aS,show fX a c (t+1)=fX a c t++[Z] from u];exact Vy (L:=λ_=>True) (rP:=λe=>q<|id e) Vz trivial (λ_ _=>trivial) S);refine dv ?_ (hlen:=λM a6=>by rw[cV.1 a6];rfl);refine eR ((fX a c<|t+1).map kd) ?_ (hlen:=h.symm) (ap:=ax) (fC:=.f rfl rfl rfl rfl λM a6=>by rw[cV.1 a6];rfl) (aG:=by rw[show fX a c (t+1)=fX a c t++[Z] from u,cD];rfl) (bq:=aK)
   rotate_left
   focus
    have Q:Z∈fX a c t:=pN.1<|Cb.1 N;obtain⟨u,x⟩:=IF (succ:=hy a) (bj:=[a.start]) (M:=0) o (by rw[D];exact l) b;have h:kc id (fX a c t) Z=mS a c t:=by rw[A6 Q,<-F];exact x
    rw[h,<-show fX a c (t+1)=fX a c t from u]
   all_goals refine cz t ?_ (p:=l);refine fl ((fY (mS a c) (ec a).length<|t+1).map q) (q 0) (q<|mS a c t) ?_ (p:=KR) (aG:=QF);refine aL ?_;exact aB<|t+1
  obtain rfl:t=(ec a).length:=v;rw[show fX a c (ec a).length=fX a (c+1) 0 by simp_all[fX,Gl,a1,ts]];refine ay.xd 38 (ec a).length (show((fY (mS a c) (ec a).length (ec a).length).map q).length=(ec a).length by rw[aS,Jv]) ?_;refine cP ?_;refine ga (.d 1602 0 (kI a c).length) ?_ (dc:=jp m _ _ _ 2);refine dv ?_ (hlen:=λU h=>by rw[cV.1 h];rfl);refine eR (kI a<|c+1) ?_ (fC:=.f rfl rfl rfl rfl λU h=>(by rw[cV.1 h];rfl)) (aG:=apM a c) (bq:=by grind[ZM]);refine pP (fr (tx a) (.f 1<|(ec a).map q) (.d 1601 0 (ll a c).length)<|.d 1602 0 (kI a<|c+1).length) ?_ (i2:=wy) (aG:=wW m _ _ _ _ 2);refine ay.GP [7] eW aZ H gE R rfl ax ?_;refine a_ (λ_=>ga (.d 1601 0 (ll a c).length) rfl (dc:=jp m _ _ _ 1)) ?_;refine Ff [(6000,6001)] [] [(6000,.cell 131<|dW a)] [] [] ?_<|acZ a (qI a c) 0 r C;refine a_ (λ_=>jv rfl) ?_;refine jB 94 (ll a<|c+1) ?_ (aG:=ac3 a c) (bq:=by grind[ac2]);refine wg (fr (tx a) (.f 1<|(ec a).map q) (.d 94 0 (ll a<|c+1).length)<|.d 1602 0 (kI a<|c+1).length) ?_ (i2:=wy) (aG:=wW m _ _ _ _ 1);refine iK [(94,1601)] ?_;refine aL ?_;exact aB (c+1) (cA (acr o) (lU<|jj c).length_le)
 try simp only[aS] at A
 have ap:fX a c 0=bH (hy a) [a.start] c:=ts c;have ae:(bH (hy a) [a.start] c).length<=c:=by rw[<-ap];omega
 have J:=D7 r c;rw[show(bH (hy a) [a.start] 300).length=c by grind[bH,hy,py]];exact gB 1601<|gB 1602 cH
def fE(a:a3):Nat:=(bH (hy a) [a.start] 300).length
def zC(a:a3):V:=fr (tx a) (.f 1<|(ec a).map q) (.f 1<|ll a<|fE a)<|.f 1<|kI a<|fE a
def anR(a:a3)(b:fH a)(c:a.next.length<=300):cK 172 [dW a] [] (g 6) [(6,.cell 259 (zC a))]:=by refine cX func172 [2002] λh s e=>?_;refine ay.Y_ 6 (fr (List.replicate 256 0) .aQ .aQ .aQ) ?_;refine cP ?_;refine bk [(6000,6),(6001,1)] ?_ (i:=aff a b);refine W2<|bk [(6000,6),(6001,1)] ?_ (i:=ahb a b c);exact cH
def SJ{a:a3}{e t:Nat}(l:∀c<a.next.length,∀m,(a.next.getD c []).getD m 0<65536):∀b,b<=a.next.length->n3 a e b=n3 a t b->∀c<b,(a.next.getD c []).getD e 0=(a.next.getD c []).getD t 0|0,_,_,_,i=>absurd i v|b+1,p,w,c,i=>by let h:=p;rw[LX h,LX h] at w;let⟨j,k⟩:=P7 w rfl;rcases gh c b with g|g;exact SJ l b v j c g;unfold CN at k;grind[UInt8.toNat_ofNat']
def ahS{a:List Nat}(w:I<a.length):a[I]=a.getD I 0:=b
def fH.ahT{a:a3}(e:fH a)(c:I<a.next.length)(g:Nat):(a.next.getD I []).getD g 0<a.next.length:=by rcases gh g 256 with b|b;exact e.dst _ _ c b;rw[cg,s6 (by rw[e.n I c];exact b)]<;>grind
theorem Pp{a:a3}(e:fH a)(m:a.next.length<=300):∀b,bH (hy a) [a.start] b=bX a b
|0=>rfl|b+1=>by
 let j:=Pp e m b;cases h:(bX a b)[b]? with
 |none=>grind[bX,List.getElem?_eq_none_iff,Gm,c8]|some c=>
  let i:=mP e b c aM;let k:c8 a c=(List.range 256).map λg=>(a.next.getD c []).getD g 0:=by unfold c8;refine oz (by rw[e.n c i,aS,gM]) λq l p=>?_;rw[List.getElem_map,List.getElem_range];exact ahS l
  rw[u7 (by rw[j];exact h),j,show bX a _=g7 _ _ from u7 h,k];exact(L5 _ (λg t w=>SJ (λr o c=>by have:=e.ahT o c;omega) _ v w c i) _ 256).symm
def dR(a:a3)(b t:Nat):Nat:=(fX a b t).length
theorem H3(a:a3)(b:Nat):dR a b 0=(bH (hy a) [a.start] b).length:=cW _<|ts b
def NP{a:a3}(b:I<dR a I 0):dR a I (ec a).length=dR a (I+1) 0:=by rw[H3] at b⊢;simp_all[dR,fX,Gl,Po,a1]
def NQ{a:a3}(c:fH a)(g:a.next.length<=300)(H:Nat):dR a H 0<=fE a:=by rw[H3];unfold fE;let e:=D7 c 300;rcases Nat.le_total H 300 with b|b;exact(lU b).length_le;rw[py (H:=300) v b]<;>simp_all
def Wz{a:a3}(g:fH a)(c:a.next.length<=300)(e:I<dR a I 0)(t:Nat):dR a I t<=fE a:=by let b:=NQ g c<|I+1;exact cA (At e t).length_le b
def ak1{a:a3}(c:fH a)(b:a.next.length<=300):fE a<=300:=cA (D7 c 300) b
def akr(a:a3):dR a 0 0=1:=ax
def aks{a:a3}{t:Nat}(b:I<dR a I 0)(e:t<(ec a).length):mS a I t=dR a I t/\dR a I (t+1)=dR a I t+1\/mS a I t<dR a I t/\dR a I (t+1)=dR a I t:=by rw[H3] at b;let g:(hy a<|fx (hy a) [a.start] 0 I).length=(ec a).length:=Po a;by_cases w:(hy a<|fx (hy a) [a.start] 0 I).getD t 0∈fX a I t;let⟨h,c⟩:=IF b v w;refine .inr ⟨?_,by simp_all[dR,fX]⟩;show k8 _ _ _ _ _<_;rw[<-c];exact rX w;simp_all[IE,hy,dR,fX,c_]
theorem XE{a:a3}(e:fH a)(c:a.next.length<=300)(b:Nat):qI a b=(bX a b).getD b 0:=by simp_all[qI,fx,Pp]
def WA{a:a3}(e:fH a)(c:a.next.length<=300)(b:Nat):dR a b 0=(bX a b).length:=by grind[H3,Pp]
theorem ahR(b:List Nat)(c e a:Nat):(b.set c e).getD a 0=if c=a/\a<b.length then e else b.getD a 0:=by grind
def Gt{a:List UInt8}(w:I<a.length):(a.map bh)[I]?=some (bh (a.getD I 0)):=by simp_all
def ape(c:List UInt8)(r:c.length<=100000):kO a4 fZ 236 [.d 6001 0 (c.map bh).length] [] [(6001,.n 1 5 (c.map bh))] (λh:List UInt8=>h.length=c.length) (λ_=>.tuple []) (λ_=>[]) (λh=>[(6001,.n 1 5<|h.map bh)]):=by
 refine kO.of_wp (z:=gT) [] eW aZ gE ⟨func236,ax,rfl⟩ rfl rfl rfl λx s i k=>?_;let l:j2 a4 gT s fZ _ []:=⟨eW,aZ,i,gE,k⟩;let t:(c.map bh).length=c.length:=aS ..;refine ia ((c.length:Int)-1-((0:Nat):Int)) (w:=v)<|cQ (Nat×List UInt8) (λg=>⟨[(0,.d 6001 0 (c.map bh).length),(2,q g.1),(3,.int .i64<|(c.length:Int)-1-g.1)],[(6001,.n 1 5<|g.2.map bh)],[]⟩) (λg=>g.2.length=c.length) (λg=>c.length-g.1) (0,c) (λ⟨b,a⟩ ap=>?_) rfl;apply j<;>intro m
 .let u:a.length=c.length:=ap;obtain⟨e,o⟩:∃e:Nat,(c.length:Int)-1-(b:Nat)=(e:Int):=⟨c.length-1-b,v⟩;refine dC ?_;refine a_ (λ_=>cz e rfl (p:=v)) ?_;refine a_ (λ_=>ft (bh<|a.getD e 0) rfl (p:=Gt v))<|a_ (λ_=>cz b rfl (p:=v)) ?_;refine a_ (λ_=>ft (bh<|a.getD b 0) rfl (p:=Gt v))<|a_ (λ_=>cz b rfl (p:=v)) ?_;refine uE ((a.set b<|a.getD e 0).map bh) (bh<|a.getD b 0) (bh<|a.getD e 0) ?_ (p:=Gt v) (aG:=List.map_set.symm);refine a_ (λ_=>cz e rfl (p:=v)) ?_;refine uE (((a.set b<|a.getD e 0).set e<|a.getD b 0).map bh) (bh<|(a.set b<|a.getD e 0).getD e 0) (bh<|a.getD b 0) (p:=Gt aK) (aG:=List.map_set.symm)<|iK []<|dK ((b+1:Nat):Int)<|ia ((c.length:Int)-1-((b+1:Nat):Int)) (w:=v)<|aB (b+1,(a.set b<|a.getD e 0).set e<|a.getD b 0) aK v
 exact n7 a ap
section
open Go.Shelf Go.RowKit Go.Lib Go.Sort
def aqf(a:Int):max (-1) (min 1 a)=ey.ex a:=by(simp[ey.ex];omega)
def Tryz.VC(b:Int)(a:World):Calls a4 257 #[.int .i64 b] a λc e=>c=.returned (.int .i64<|ey.ex b)/\e=a:=by
 go_wp2
 go_ret
 exact⟨by simp[aqf],rfl⟩
def mG(a:ba):List Value:=[.bool a.neg,.string ⟨a.a9.toArray⟩,.int .i64 a.exp]
def Tryz.Nk(b:ba)(a:World):Calls a4 256 #[.agg (mG b).toArray] a λc e=>c=.returned (.int .i64<|hb b)/\∃os,e=grow a os:=by
 unfold mG
 go_wp2
 all_goals go_ret
 all_goals refine⟨?_,_,alloc_eq_grow _ _⟩
 all_goals simp_all[hb]
def Tryz.aje(a b:ba)(h:World)(j:a.a9.length<=1000000/\-1000000<=a.exp/\a.exp<=1000000)(k:b.a9.length<=1000000/\-1000000<=b.exp/\b.exp<=1000000):Calls a4 258 #[.agg (mG a).toArray,.agg (mG b).toArray] h λe g=>e=.returned (.int .i64<|ox a b)/\∃os,g=grow h os:=by
 unfold mG
 go_enter func258,Tryz.ntmps258
 go_wp2_with (first|(refine((λi c=>Tryz.VC i c) _ _).mono ?_;rintro e g ⟨rfl,rfl⟩)|(refine((λc=>Tryz.strings_Compare ⟨a.a9.toArray⟩ ⟨b.a9.toArray⟩ c) _).mono ?_;rintro e g ⟨rfl,rfl⟩))
 all_goals go_ret
 all_goals refine⟨?_,_,by rw[alloc_eq_grow,alloc_eq_grow,grow_grow]⟩
 simp_all[ey.ex,ox,ab];simp_all[ey.ex,ox,aa]
theorem ae4{a e:World}{g:Array Obj}{b:Addr}{c:Value}(w:e=grow a g)(h:a.cell? b=some c):e.cell? b=some c:=by grind[World.cell?,Array.getElem?_eq_some_iff,cell?_grow]
def th(a b:World):Prop:=∃os,b=grow a os
def th.cell{a e:World}{b:Addr}{c:Value}(w:th a e)(g:a.cell? b=some c):e.cell? b=some c:=by let⟨os,w⟩:=w;grind[ae4]
def Y6{Y:ba}{b:World}{e:Ending->World->Prop}(w:∀a,th b a->e (.returned (.int .i64 (hb Y))) a):Calls a4 256 #[.agg (mG Y).toArray] b e:=(Tryz.Nk Y b).mono λg a ⟨he,c⟩=>he▸w a c
def abu{a:Int}(w:-9223372036854775808<=a/\a<=9223372036854775807):wrap64 a=a:=by grind[wrap64]
theorem amj{b a:ba}(c:hb b=hb a)(e:(hb a==0)):ey.ex 0=nx b a:=by grind[nx]
def amk{b a:ba}(c:hb b=hb a)(e:(hb a==0)=false):wrap64 (hb a*ox b a)=nx b a:=by have:=OA b a;simp_all[abu,nx,aa]
def aml{a b:ba}(c:¬hb a=hb b):ey.ex (wrap64 (hb a-hb b))=nx a b:=by let e:=Jl a;let g:=Jl b;rw[abu v,nx,ab<|.inl c]
def r6(a c:World):Prop:=∃b os,c=grow (a.drewN b) os
theorem r6.step{a b c:World}(w:r6 a b)(F:th b c):r6 a c:=by obtain⟨e,os,rfl⟩:=w;obtain⟨g,rfl⟩:=F;exact⟨e,_,grow_grow _ _ _⟩
theorem ah1{a b c e:World}(w:r6 a b)(h:th c e)(g:th b c):r6 a e:=(w.step g).step h
theorem ah2{a b c e t:World}(w:r6 a b)(i:th e t)(h:th c e)(g:th b c):r6 a t:=((w.step g).step h).step i
def Tryz.ajc(b c:ba)(g:World)(E:b.a9.length<=1000000/\-1000000<=b.exp/\b.exp<=1000000)(F:c.a9.length<=1000000/\-1000000<=c.exp/\c.exp<=1000000):Calls a4 208 #[.agg (mG b).toArray,.agg (mG c).toArray] g λj h=>j=.returned (.int .i64<|nx b c)/\∃I os,h=grow (g.drewN I) os:=by
 have G:=λr i=>Tryz.VC r i;have A:=λi=>Tryz.Nk b i;have B:=λi=>Tryz.Nk c i;have C:=λi=>Tryz.aje b c i E F;unfold mG at*
 go_enter func208,Tryz.ntmps208
 go_wp2_with (first|(go_at_call 257;rintro j h ⟨rfl,rfl⟩)|(go_at_call 256;refine(A _).mono ?_;rintro j h ⟨rfl,K,rfl⟩)|(go_at_call 256;refine(B _).mono ?_;rintro j h ⟨rfl,L,rfl⟩)|(go_at_call 258;refine(C _).mono ?_;rintro j h ⟨rfl,M,rfl⟩))
 have D:∀e,(g.alloc (.cells #[.bool b.neg,.string ⟨b.a9.toArray⟩,.int .i64 b.exp] 70)).alloc (.cells #[.bool c.neg,.string ⟨c.a9.toArray⟩,.int .i64 c.exp] 70)=e->e.drew.cell? ⟨g.heap.size,0,none⟩=some (.bool b.neg)/\e.drew.cell? ⟨g.heap.size,1,none⟩=some (.string ⟨b.a9.toArray⟩)/\e.drew.cell? ⟨g.heap.size,2,none⟩=some (.int .i64 b.exp)/\e.drew.cell? ⟨g.heap.size+1,0,none⟩=some (.bool c.neg)/\e.drew.cell? ⟨g.heap.size+1,1,none⟩=some (.string ⟨c.a9.toArray⟩)/\e.drew.cell? ⟨g.heap.size+1,2,none⟩=some (.int .i64 c.exp)/\r6 g e.drew:=by rintro _ rfl;have w:∀(e:World) b,e.drew.cell? b=e.cell? b:=λ_ _=>rfl;refine⟨?_,?_,?_,?_,?_,?_,1,_,by rw[alloc_eq_grow,alloc_eq_grow,grow_grow];rfl⟩<;>rw[w]<;>go_simp
 obtain⟨s,t,u,x,y,z,J⟩:=D _ rfl;generalize (g.alloc<|.cells #[.bool b.neg,.string ⟨b.a9.toArray⟩,.int .i64 b.exp] 70).alloc (.cells #[.bool c.neg,.string ⟨c.a9.toArray⟩,.int .i64 c.exp] 70)=e at*;clear A B
 go_region_with (first|(go_at_call_of 256 b.neg;refine Y6 (Y:=b) ?_;intro h a;first|(have k:=a.cell k;have l:=a.cell l;have m:=a.cell m;have o:=a.cell o;have p:=a.cell p;have q:=a.cell q)|(have k:=a.cell s;have l:=a.cell t;have m:=a.cell u;have o:=a.cell x;have p:=a.cell y;have q:=a.cell z))|(refine Y6 (Y:=c) ?_;intro h a;first|(have k:=a.cell k;have l:=a.cell l;have m:=a.cell m;have o:=a.cell o;have p:=a.cell p;have q:=a.cell q)|(have k:=a.cell s;have l:=a.cell t;have m:=a.cell u;have o:=a.cell x;have p:=a.cell y;have q:=a.cell z)))
 all_goals go_wp2_with (first|(go_at_call 257;refine(G _ _).mono ?_;rintro j h ⟨rfl,rfl⟩)|(go_at_call 258;refine(C _).mono ?_;rintro j h ⟨rfl,H⟩;change th _ h at H))
 all_goals go_ret
 all_goals refine And.intro (cW (λr=>Ending.returned<|Value.int .i64 r) ?_) ?_
 all_goals first|grind[amj]|exact amk ‹_› ‹_›|exact aml ‹_›|(change r6 _ _;grind[ah2,ah1])
def r_(a:ba):Prop:=a.a9.length<=1000000/\-1000000<=a.exp/\a.exp<=1000000
def Tryz.ajd(a b:ba){c:World}(k:r_ a)(l:r_ b):Calls a4 152 #[.agg (mG a).toArray,.agg (mG b).toArray] c λg e=>g=.returned (.int .i64<|nx a b)/\r6 c e:=by
 unfold mG at*
 go_enter func152,Tryz.ntmps152
 go_wp2_with (refine((λj=>Tryz.ajc a b j k l) _).mono ?_;rintro g e ⟨rfl,h⟩;change r6 _ e at h)
 go_ret
 refine⟨rfl,?_⟩;obtain⟨i,os,rfl⟩:=h;rw[alloc_eq_grow,alloc_eq_grow,grow_grow];exact⟨i,_,grow_grow (c.drewN i) _ _⟩
end
section
open Go.Shelf Go.RowKit Go.Lib Go.Sort
def p9:={a:ba//eb a/\r_ a}
instance:Inhabited p9:=⟨⟨⟨false,[48],0⟩,⟨aj,aj,.inl ⟨rfl,rfl,rfl⟩⟩,aj,aj,aj⟩⟩
def tw(a b:p9):Int:=nx a.1 b.1
def H2(a b:p9):ltOf tw a b=decide (aV a.1<aV b.1):=by unfold ltOf tw;rw[Bx a.2.1 b.2.1];congr 1;unfold ey.ex;refine propext ?_;split;constructor<;>intro<;>omega;split<;>(constructor<;>intro<;>omega)
def aaK:SWO (ltOf tw) where
 irrefl a:=by rw[H2];simp
 trans a e g b c:=by rw[H2] at*;simp at*;omega
 ntrans a e g b c:=by rw[H2] at*;simp at*;omega
def aoc{s:a2}{i:aF}{z:ey.bd}{h:World}(w:ey.Holds s i z h){F P e c:Nat}{J:TypeId}{B new:List V}{b:ey.Loc}{iS:Array Value}{Y:Nat}{os:Array Obj}(L:z[F]?=some (I,.n P e J B))(u:i.m I=some b)(r:b.a8=some c)(N:new.length=B.length)(Q:iS.size=new.length*e)(q:∀(a:Nat)(g:Value),iS[a]?=some g->g.oneCell')(a6:∀M∈new,M.cells.length=e)(X:∀(a t:Nat)(M p:V),new[a]?=some M->M.cells[t]?=some p->∃g,iS[a*e+t]?=some g/\aE i p g):ey.Holds s (i.fo I b) (z.set F (I,.n P e J new)) (grow (Sort.putRow _root_.id (Sort.ahead h Y) c b.base iS) os):=by
 let⟨an,O,Z⟩:=w.eO _ _<|dh L;rw[u] at O;cases O;obtain⟨ag,y,⟨C,_⟩|⟨ai,A,D,G,ap,H,W,ak,am⟩⟩:=Z;rw[r] at C;cases C;rw[r] at D;cases D;let R:c<h.heap.size:=(rW.1 G).1;let T:i.le (i.fo I b):=aF.i7 λao q=>by rw[u] at q;cases q;exact⟨rfl,a1 _,λ_=>rfl⟩
 let ae:(Sort.putRow _root_.id (Sort.ahead h Y) c b.base iS).heap.size=h.heap.size:=af;let K:∀o,o<h.heap.size->(grow (Sort.putRow _root_.id (Sort.ahead h Y) c b.base iS) os).heap[o]?=(h.heap.modify c<|onCells<|putCells _root_.id b.base iS)[o]?:=λo x=>heap_grow_old _ _ (by rw[ae];exact x);refine w.sY L u rfl (a1 _) (λ_=>rfl) (.inl rfl) ⟨rfl,rfl,rfl,?_,λo x U=>?_⟩ ⟨ag,y,.inr ⟨c,putCells _root_.id b.base iS A,r,?_,?_,?_,?_,?_,?_⟩⟩;simp[grow];rw[K o x,Fl,aa λJ=>U (by rw[r,J])];rw[K c R,Fl,ab rfl,G];rfl;simp[putCells,ap];rw[N];exact H;intro a g l;simp only[putCells,P2,z_] at l;obtain⟨p,ah,rfl⟩:=l;split;rename_i j;let k:a-b.base<iS.size:=v;refine q (a-b.base) _ ?_;rw[uS iS _ k];exact Fk k;exact W a p ah;intro a M j;rw[y];exact a6 M<|dh j;intro a t M p j E;let⟨g,l,ad⟩:=X a t M p j E;refine⟨g,?_,ad.mono T⟩;let al:a<new.length:=(dm.1 j).1;let aj:t<e:=by rw[<-a6 M (dh j)];exact(dm.1 E).1
 let k:a*e+t<iS.size:=(rW.1 l).1;rw[y] at H⊢;let S:b.base+(a*e+t)<A.size:=by rw[ap];rw[Q,N] at k;omega
 rw[ye];simp only[putCells,P2,Fk S,iP];rw[ab ⟨v,v⟩,acb,uS iS _ k];rw[Fk k] at l;exact l
def nI(a:List p9):List p9:=(pdq (ltOf tw) a.toArray 0 a.length (Lib.bitLen a.length) true true).toList
def Pw(a:List p9):(nI a).Perm a/\(nI a).Pairwise (λi j=>aV i.1<=aV j.1):=by
 have w:=pdq_sorts (ltOf tw) aaK a.toArray 0 a.length (Lib.bitLen a.length) true true (c1 _) (a1 _)<|Or.inl rfl;have e:(pdq (ltOf tw) a.toArray 0 a.length (Lib.bitLen a.length) true true).size=a.length:=by have:=w.1.1;simpa using this
 unfold nI;generalize pdq (ltOf tw) a.toArray 0 a.length (Lib.bitLen a.length) true true=M at w e;let⟨⟨q,r,b⟩,m⟩:=w;refine⟨?_,?_⟩;have k:(M.extract 0 a.length).toList=M.toList:=by rw[<-e];simp
 have l:(a.toArray.extract 0 a.length).toList=a:=af;rw[k,l] at b;exact b;rw[z6];intro g h p c o;simp only[uG] at p c;have:=m g h (c1 _) o v;rw[H2,r3,uS M h c,uS M g p] at this;simp only[abJ];omega
def isAgg26:∀a,(isAgg 70).run a4 a=.ok true a:=λa=>ey.bG.pV (size:=3) (bytes:=32) ⟨ar0,bL⟩ a
def sizeOf26:∀a,(Go.sizeOf 70).run a4 a=.ok 3 a:=(show ey.fi a4 70 3 32 from⟨bL⟩).io
def QM(c:Option Addr)(b:Nat)(a:World):Calls a4 156 #[.slice c 0 b,.func (.func 152) #[] #[]] a λe g=>e=.returned (.tuple #[])/\g=a:=AnyF.slices_SortFunc_none Tryz.V2 c b (.func (.func 152) #[] #[]) a
def aqD(b:List p9)(ak:b.length<=1000000):cK 156 [.d 6001 0 (b.map λY=>bx Y.1).length,.func (.func 152) [] []] [(6001,.n 3 70<|b.map λY=>bx Y.1)] (.tuple []) [(6001,.n 3 70<|(nI b).map λY=>bx Y.1)]:=by
 intro o x H j aY aV aq C _;obtain⟨z,B,rfl⟩:∃z B,H=[z,B]:=by
  match H,aV with|[az,p],_=>exact⟨az,p,rfl⟩
 have S:=aq 0 _ z rfl rfl;have ax:=aq 1 _ B rfl rfl;have aU:B=.func (.func 152) #[] #[]:=by
  change aE x (.func (.func 152) [] []) B at ax;cases ax with
  |func fn bj bk aZ H ak aM w a2=>
   have aB:aZ=[]:=by simpa using ak.symm
   have aC:H=[]:=by simpa using aM.symm
   rw[aB,aC]
 subst aU;have bf:nI b=nI b:=rfl;have D:(nI b).length=b.length:=(Pw b).1.length_eq;obtain⟨id,s,G⟩:∃id s,o 6001=(id,s):=⟨_,_,rfl⟩;have S:aE x (.a7 id s 0 (b.map λY=>bx Y.1).length) z:=by have:=S;simp only[V.a,V.jb,V.dZ,V.ew,G] at this;exact this
 have aO:ar o [(6001,bt.n 3 70 (b.map λY=>bx Y.1))]=[(id,.n s 3 70 (b.map λY=>bx Y.1))]:=by simp[ar,b7,bt.ad,G]
 rw[aO] at C⊢;let⟨m,hm,ao⟩:=C.eO id _<|cV.2 rfl;have none:b=[]->∀R cap,z=.slice R 0 cap->Calls a4 156 #[z,.func (.func 152) #[] #[]] j (λJ T=>∃u ay av X,J=.returned u/\(∃W,cd 5000 o W/\ay=(V.tuple []).a W/\av=ar W [(6001,.n 3 70<|(nI b).map λY=>bx Y.1)])/\aE X ay u/\ey.Holds ⟨j,aY,x,([(id,bM.n s 3 70<|b.map λY=>bx Y.1)]:ey.bd).map (·.1),fZ,0⟩ X av T):=by
  intro y R cap r;subst r;refine(QM R cap j).mono ?_;rintro J T ⟨rfl,rfl⟩;subst y;have aA:nI []=[]:=lJ D;refine⟨.tuple #[],.tuple [],_,x,rfl,⟨o,cd.refl _ o,rfl,rfl⟩,.tuple [] [] rfl λaX e u w=>by simp at w,?_⟩;have:ar o [(6001,bt.n 3 70 ((nI []).map λY=>bx Y.1))]=[(id,.n s 3 70 [])]:=by rw[aA];simp[ar,b7,bt.ad,G]
  rw[this];exact C
 cases S with
 |a7 _ _ _ _ bi u am bg a3 w=>
  rw[hm] at am;cases am;rcases w ao.1.symm with⟨a5,y,rfl⟩|⟨p,P,cap,K,rfl,aN,ba,aH⟩;exact none (lJ (by simpa using y)) _ _ rfl;rcases wj (b.length=0) with y|y;have al:b=[]:=lJ y;exact none al _ _ (by rw[al];rfl);obtain⟨_,aR,⟨g,_⟩|⟨a0,Z,ae,N,ap,ah,be,bb,an⟩⟩:=ao;rw[K] at g;cases g;rw[K] at ae;cases ae;rw[aS] at aN ah;obtain⟨rfl,a_⟩:P=m.base/\True:=by rcases aH with k|⟨k,_⟩;omega;exact⟨by rw[k];omega,trivial⟩
  rw[aR] at ah an;have aG:p<j.heap.size:=(rW.1 N).1;have aF:HoldsK (λe:p9=>mG e.1) 3 j p m.base b.toArray:=by
   intro c i;rw[size_flatK] at i;rw[get_flatK _ _ _ _ i];have ai:c/3<b.length:=by
    have:c<b.length*3:=by simpa using i
    omega
   have aL:(b.map λY=>bx Y.1)[c/3]?=some (bx b[c/3].1):=by rw[ch,bw ai];rfl
   have a6:b.toArray[c/3]! =b[c/3]:=by rw[uS b.toArray (c/3) (by simpa using ai)];rfl
   have L:∀h,Z[m.base+c]?=some h->j.cell? ⟨p,m.base+c,Option.none⟩=some h:=λh l=>by simp[World.cell?,N,l]
   refine⟨?_,by simp only[World.frozen?,N];simp⟩;rw[a6];have bc:c=c/3*3+c%3:=v;have get:∀t e,(bx b[c/3].1).cells[t]?=some e->t=c%3->∃h,Z[m.base+c]?=some h/\aE x e h:=by intro t e E k;let⟨h,l,q⟩:=an (c/3) t _ e aL E;refine⟨h,?_,q⟩;rw[<-l,k];congr 1;omega
   have g:c%3=0\/c%3=1\/c%3=2:=v;rcases g with g|g|g;let⟨h,l,q⟩:=get 0 (.bool b[c/3].1.neg) rfl g.symm;rw[g,L h l,Eo q];rfl;let⟨h,l,q⟩:=get 1 (.str b[c/3].1.a9) rfl g.symm;rw[g,L h l,O_ q];rfl;let⟨h,l,q⟩:=get 2 (.int .i64 b[c/3].1.exp) rfl g.symm;rw[g,L h l,O9 q];rfl
  have aD:∀args j,(callFunc 152 args).run a4 j=.ok (.enter 152 args) j:=enters_of func152 bL rfl;have aT:b.toArray.size<4611686018427387904:=aK;have ag:=AnyQ.slices_SortFunc_eq Tryz.V2 3 isAgg26 sizeOf26 (λe:p9=>mG e.1) (λ_=>rfl) (λe u r=>by simp[mG] at r;rcases r with rfl|rfl|rfl<;>rfl) tw aaK 152 #[] p m.base cap b.toArray j aD (λ_ _ _ _ e U=>Tryz.ajd e.1 U.1 e.2.2 U.2.2) aF aG aT;change Calls a4 156 _ _ _ at ag;have aW:Value.slice (some ⟨p,m.base,Option.none⟩) (b.map λY=>bx Y.1).length cap=.slice (some ⟨p,m.base,Option.none⟩) b.toArray.size cap:=af;rw[aW];refine ag.mono ?_;rintro J T ⟨rfl,Y,os,rfl⟩;have I:(pdq (ltOf tw) b.toArray 0 b.toArray.size (Lib.bitLen b.toArray.size) true true).toList=nI b:=by simp[nI]
  generalize pdq (ltOf tw) b.toArray 0 b.toArray.size (Lib.bitLen b.toArray.size) true true=M at I;have aJ:M.size=b.length:=by rw[<-uG,I,D]
  have aP:=aoc C (F:=0) (J:=70) (new:=(nI b).map λY=>bx Y.1) (iS:=flatK (λe:p9=>mG e.1) 3 M) (Y:=Y) (os:=os) rfl hm K (by simp[D]) (by simp[aJ,D]) ?_ (λe E=>by simp at E;obtain⟨aw,_,rfl⟩:=E;rfl) ?_;refine⟨.tuple #[],.tuple [],_,x.fo id m,rfl,⟨o,cd.refl _ o,rfl,rfl⟩,.tuple [] [] rfl λaX e u w=>by simp at w,?_⟩;have:ar o [(6001,bt.n 3 70 ((nI b).map λY=>bx Y.1))]=[(id,.n s 3 70 ((nI b).map λY=>bx Y.1))]:=by simp[ar,b7,bt.ad,G]
  rw[this];exact aP;intro c u r;have i:=(rW.1 r).1;rw[size_flatK] at i;have A:=get_flatK (λe:p9=>mG e.1) 3 M c i;rw[uS _ c (by simpa using i),(rW.1 r).2] at A;rw[A];have g:c%3=0\/c%3=1\/c%3=2:=v;rcases g with g|g|g<;>rw[g]<;>rfl;intro c t U e i k;simp only[ch,z_] at i;obtain⟨aw,Q,rfl⟩:=i;have aj:c<M.size:=by have:=(dm.1 Q).1;omega
  have aI:M[c]! =aw:=by rw[uS M c aj];rw[<-I,zX,Fk aj] at Q;exact lN Q
  have a8:t<3:=(dm.1 k).1;have O:c*3+t<M.size*3:=v;have A:=get_flatK (λe:p9=>mG e.1) 3 M (c*3+t) O;rw[show(c*3+t)/3=c by omega,show(c*3+t)%3=t by omega,aI,uS _ (c*3+t) (by simpa using O)] at A;refine⟨_,by rw[Fk (by simpa using O),A],?_⟩;have g:t=0\/t=1\/t=2:=v;rcases g with rfl|rfl|rfl;cases k;exact .bool _;cases k;exact .str _;cases k;exact .int ..
end
def qF(a:hM)(b:Int):Prop:=a.inf=true\/2*a.z+(if a.op then 1 else 0)<=b
def qz(a:hM)(b:Int):Prop:=a.inf=true\/b<=2*a.z-(if a.op then 1 else 0)
def rz(O:jm)(a:Int):Prop:=qF O.low a/\qz O.high a/\(O.nM=true->(2*bA:Int) ∣ a)
def Oj(O:jm):l_ O↔O.low.inf=false/\O.high.inf=false/\2*O.high.z-(if O.high.op then 1 else 0)<2*O.low.z+(if O.low.op then 1 else 0):=by unfold l_;let⟨⟨a,c,e⟩,⟨b,g,h⟩,i⟩:=O;cases a<;>cases b<;>simp;grind
def aqA{O:jm}(h:O.nM=false)(w:l_ O=false):∃c,rz O c:=by
 let a:¬l_ O:=by rw[w];simp
 rw[Oj] at a;unfold rz qF qz;cases g:O.low.inf with
 |true=>cases e:O.high.inf with|true=>simp_all|false=>exact⟨2*O.high.z-(if O.high.op then 1 else 0),.inl rfl,.inr v,b⟩
 |false=>refine⟨2*O.low.z+(if O.low.op then 1 else 0),.inr v,?_,b⟩;grind
theorem Xp{O:jm}{e:Int}(w:rz O e):l_ O=false:=by cases c:l_ O with|false=>rfl|true=>let⟨g,h,i⟩:=(Oj O).1 c;let⟨a,b,_⟩:=w;unfold qF at a;unfold qz at b;grind
def w2(a:Int):(bA:Int) ∣ cI a:=⟨a/bA,by simp[cI,Ki]⟩
theorem agA(a:Int):(bA:Int) ∣ kt a:=by simp[w2,kt,Int.mul_neg]
def V3{a k:Int}(b:(bA:Int) ∣ a):a<=cI k↔a<=k:=by let w:=w_ k;constructor;omega;let⟨c,g⟩:=w2 k;let⟨e,h⟩:=b;grind[Int.lt_of_mul_lt_mul_left,bA,Int.mul_add,Int.mul_le_mul_of_nonneg_left]
def ae2{a k:Int}(b:(bA:Int) ∣ a):kt k<=a↔k<=a:=by let w:=V3 (k:=-k)<|(Int.dvd_neg).2 b;grind[kt]
theorem T7{a k:Int}(h:(bA:Int) ∣ a)(w:a<k)(g:cI k=k):a<=cI k-bA:=by let⟨b,c⟩:=w2 k;let⟨i,e⟩:=h;rw[<-g,c,e] at w;have:=Int.lt_of_mul_lt_mul_left w v;rw[c,e,<-Int.mul_one bA,Int.mul_one,show bA*b-bA=bA*(b-1) by grind];exact Int.mul_le_mul_of_nonneg_left v v
theorem akp{a k:Int}(b:(bA:Int) ∣ a)(w:k<a)(c:kt k=k):kt k+bA<=a:=by have:=T7 (k:=-k) ((Int.dvd_neg).2 b) v (by grind[kt]);grind[kt]
def FN(a:hM):Prop:=a.inf=true\/a.op=false/\(bA:Int) ∣ a.z
theorem Tn{a:Int}(w:(bA:Int) ∣ a):(bA:Int) ∣ a+bA:=Int.dvd_add w<|Int.dvd_refl _
def To{a:Int}(w:(bA:Int) ∣ a):(bA:Int) ∣ a-bA:=Int.dvd_sub w<|Int.dvd_refl _
def afo{a:hM}:FN (ql a):=by unfold ql;split;rename_i w;exact .inl w;refine .inr ⟨rfl,?_⟩;grind[Tn,agA]
def afl{a:hM}:FN (lX a):=by unfold lX;split;rename_i w;exact .inl w;refine .inr ⟨rfl,?_⟩;split;simp[To,w2];simp[w2]
def MH{a:Int}(w:2*(bA:Int) ∣ a):∃b,a=2*b/\(bA:Int) ∣ b:=by let⟨t,c⟩:=w;exact⟨bA*t,aM,⟨t,rfl⟩⟩
theorem afq(a:hM){b:Int}(e:2*(bA:Int) ∣ b):qF (ql a) b↔qF a b:=by obtain⟨h,rfl,g⟩:=MH e;unfold ql;split;rfl;rename_i w;unfold qF;simp;rw[show(a.inf=true)=False by simp[w],false_or];let l:=ae2 (k:=a.z) g;by_cases c:a.op;by_cases he:kt a.z=a.z;rw[ab ⟨c,he⟩];grind[akp,p6];let m:a.z≠h:=λj=>he (by let i:=w_<|-a.z;grind[kt]);omega;simp_all
theorem afn(a:hM){b:Int}(e:2*(bA:Int) ∣ b):qz (lX a) b↔qz a b:=by obtain⟨h,rfl,g⟩:=MH e;unfold lX;split;rfl;rename_i w;unfold qz;simp;rw[show(a.inf=true)=False by simp[w],false_or];let l:=V3 (k:=a.z) g;by_cases c:a.op;by_cases he:cI a.z=a.z;rw[ab ⟨c,he⟩];grind[T7,p6];let m:a.z≠h:=λj=>he (by let i:=w_ a.z;omega);omega;simp_all
theorem aft(O:jm)(a:Int):rz (ty O) a↔qF O.low a/\qz O.high a/\2*(bA:Int) ∣ a:=by unfold rz ty;grind[afq,afn]
def Cq(O:jm):Prop:=O.nM=true->FN O.low/\FN O.high
def afr{O:jm}:Cq (ty O):=λ_=>⟨afo,afl⟩
def asF{O:jm}(a:Cq O)(k:O.nM)(w:l_ O=false):∃l,rz O l:=by
 let e:¬l_ O:=by rw[w];simp
 rw[Oj] at e;let⟨a,g⟩:=a k;unfold rz qF qz;cases o:O.low.inf with|true=>rcases g with c|⟨c,i⟩;exact⟨0,.inl rfl,.inl c,λ_=>⟨0,af⟩⟩;let⟨t,h⟩:=i;exact⟨2*O.high.z,.inl rfl,.inr b,λ_=>⟨t,aM⟩⟩|false=>rcases a with a|⟨m,j⟩;simp_all;let⟨t,h⟩:=j;refine⟨2*O.low.z,.inr b,?_,λ_=>⟨t,aM⟩⟩;grind
def aqz{O:jm}(c:Cq O):l_ O=false↔∃b,rz O b:=by
 constructor;intro w;cases a:O.nM with|false=>exact aqA a w|true=>simp_all[asF]
 grind[Xp]
theorem alA{O:jm}(w:l_ O)(a:Int):¬rz O a:=λb=>by grind[Xp]
def aq1{a b:Int}(c:(bA:Int) ∣ a)(e:(bA:Int) ∣ b)(w:a<b):a<=b-bA:=by obtain⟨g,rfl⟩:=c;obtain⟨h,rfl⟩:=e;grind[Int.lt_of_mul_lt_mul_left,bA,p6,Int.mul_le_mul_of_nonneg_left,Int.mul_add]
def acB{O:jm}(w:O.nM=false):Cq O:=λa=>b
def abr{c:ba}(w:eb c):J7 c↔(bA:Int) ∣ aV c:=by
 rw[Int.ofNat_dvd_left,xG];unfold J7;rw[gV];constructor;intro o;rw[show(c.exp+30).toNat=30+c.exp.toNat by omega,m8]
 (simp[bC,bA,acn];omega)
 intro a6;refine jZ λs=>?_;let⟨j,p,i⟩:=w;rcases i with⟨_,_,i⟩|⟨i,_,k⟩;omega;obtain⟨a,he⟩:∃a:Nat,c.exp=-(a+1):=⟨(-c.exp-1).toNat,v⟩;let⟨F,e⟩:=a6;rw[show(c.exp+30).toNat=29-a by omega,show bA=10^(29-a)*(10*10^a) by unfold bA;rw[show 30=29-a+(a+1) by omega,m8,oC 10 a,jk 10],jk _,nO] at e;let e:=acf (mr aj) e;rcases List.eq_nil_or_concat _ with g|⟨t,h,g⟩;trivial;let g:=by simpa using g
 rw[g] at e j k;rw[SY] at e;let q:=rl j h af;let m:h≠48:=λl=>k b;let r:h.toNat≠48:=λl=>m (by apply FC.1;trivial);grind
def di.jH(O:di)(b:Int):Bool:=if(O.C.any λa=>decide (2*aV a=b)) then O.on.getD (O.C.countP λa=>decide (2*aV a<b)) false
 else if 2*(bA:Int) ∣ b then(O.fW.getD (O.C.countP λa=>decide (2*aV a<b)) default).w
 else(O.fW.getD (O.C.countP λa=>decide (2*aV a<b)) default).o
def CR{a:Int}:2*(bA:Int) ∣ 2*a↔(bA:Int) ∣ a:=by constructor;rintro⟨t,b⟩;exact⟨t,aM⟩;rintro⟨t,b⟩;exact⟨t,aM⟩
def MJ(O:di){b:ba}(w:eb b):O.has b=O.jH (2*aV b):=by
 let c:(λa=>decide (2*aV a=2*aV b))=λa=>decide (aV a=aV b):=by funext a;refine mu.2 ?_;omega
 let e:(λa=>decide (2*aV a<2*aV b))=λa=>decide (aV a<aV b):=by funext a;refine mu.2 ?_;omega
 unfold di.has di.jH xh low j3.has;rw[c,e];split;rfl;have:=abr w;simp_all[aa,CR]
abbrev qc(c:List ba):Prop:=c.Pairwise λa b=>aV a<aV b
def u0.up{a:List ba}(w:u0 a):qc a:=by unfold qc;rw[z6];intro e g p c b;exact w.2 e g p c b
theorem yL:∀{c:List ba},qc c->∀(e:Int)(a:Nat)(p:a<c.length),2*aV c[a]<e↔a<c.countP λg=>decide (2*aV g<e)
|[],_,_,a,p=>bB|h::c,w,e,a,p=>by
 let⟨i,j⟩:=p1.1 w;rw[List.countP_cons];by_cases m:2*aV h<e;rw[ab b];cases a with|zero=>(simp;omega)|succ a=>simp;have:=yL j e a b;omega
 rw[aa b];let l:(c.countP λg=>decide (2*aV g<e))=0:=by rw[P9];intro g k;have:=i g k;simp;omega
 grind
def SH{a:List ba}(w:qc a){c:Int}(k:I<=a.length)(i:∀b(h:b<a.length),b<I->2*aV a[b]<c)(j:∀b(h:b<a.length),I<=b->c<=2*aV a[b]):(a.countP λe=>decide (2*aV e<c))=I:=by let l:(a.countP λe=>decide (2*aV e<c))<=a.length:=z0;rcases Cj (a.countP λe=>decide (2*aV e<c)) I with g|g|g;grind[yL,decide,aV];exact g;have:=(yL w c I v).2 g;grind
def sw(b:Bool->Bool->Bool)(a w:j3):j3:=⟨b a.o w.o,b a.w w.w⟩
def ku(e:Bool->Bool->Bool)(t:List ba)(a b:di):di:=⟨t,t.map λc=>e (a.has c)<|b.has c,(t.map λc=>sw e (a.fW.getD (low a.C c) default)<|b.fW.getD (low b.C c) default)++[sw e (a.fW.getD a.C.length default) (b.fW.getD b.C.length default)]⟩
def Z9{t c:List ba}(i:qc t)(g:∀a∈c,a∈t){b:Int}(j:∀a∈t,2*aV a≠b):(c.countP λa=>decide (2*aV a<b))=if w:(t.countP λa=>decide (2*aV a<b))<t.length then low c t[t.countP λa=>decide (2*aV a<b)] else c.length:=by split;refine List.countP_congr λa e=>?_;obtain⟨h,p,rfl⟩:=kj.1<|g a e;rw[gV,gV];rw[yL i b h p];constructor;grind[List.pairwise_iff_getElem];grind[Nat.lt_or_ge,decide,aV,List.pairwise_iff_getElem];rw[P8];intro a e;obtain⟨h,p,rfl⟩:=kj.1<|g a e;grind[decide_eq_true,yL]
def afF{h:Bool->Bool->Bool}{t:List ba}{c e:di}(j:qc t)(r:∀a∈t,eb a)(m:∀a∈c.C,a∈t)(o:∀a∈e.C,a∈t)(b:Int):(ku h t c e).jH b=h (c.jH b) (e.jH b):=by
 by_cases hit:∃a∈t,2*aV a=b;obtain⟨a,g,rfl⟩:=hit;obtain⟨k,p,rfl⟩:=kj.1 g;have A:(t.countP λa=>decide (2*aV a<2*aV t[k]))=k:=by refine SH j v (λi q D=>?_) λi q B=>?_;grind[List.pairwise_iff_getElem];rcases gh k i with w|w;grind[List.pairwise_iff_getElem];grind
 rw[<-MJ c (r _ g),<-MJ e (r _ g)];unfold di.jH;grind[ku,List.getElem?_eq_getElem];have s:∀a∈t,2*aV a≠b:=λa g l=>hit ⟨a,g,l⟩;have none:∀{N:List ba},(∀a∈N,a∈t)->¬(N.any λa=>decide (2*aV a=b)):=λE l=>by grind
 have u:=Z9 j m s;have x:=Z9 j o s;unfold di.jH;rw[aa<|none (N:=(ku h t c e).C) λa g=>g,aa<|none m,aa<|none o,u,x];have y:(ku h t c e).fW.getD ((ku h t c e).C.countP λa=>decide (2*aV a<b)) default=sw h (c.fW.getD (if w:(t.countP λa=>decide (2*aV a<b))<t.length then low c.C t[t.countP λa=>decide (2*aV a<b)] else c.C.length) default) (e.fW.getD (if w:(t.countP λa=>decide (2*aV a<b))<t.length then low e.C t[t.countP λa=>decide (2*aV a<b)] else e.C.length) default):=by simp only[ku];have z:(t.countP λa=>decide (2*aV a<b))<=t.length:=z0;generalize (t.countP λa=>decide (2*aV a<b))=i at z;by_cases q:i<t.length;grind;grind
 rw[y];by_cases a6:2*(bA:Int) ∣ b;simp only[ab a6,sw];simp only[aa a6,sw]
def aqG(O:eP)(a:Int):rz (ou O) a↔qF (kY O.low) a/\qz (kY O.high) a/\(O.nM=true->2*(bA:Int) ∣ a):=by grind[ou,aft,rz,absurd]
def aqE(O:eP):Cq (ou O):=by unfold ou;split;exact afr;exact acB rfl
def eP.s1(O:eP)(a:Int):Bool:=if 2*(bA:Int) ∣ a then true else !O.nM
def asD(O:eP)(a:Int):O.s1 a↔O.nM->2*(bA:Int) ∣ a:=by unfold eP.s1;grind
def Hs(O:eP)(a:Int):(if 2*(bA:Int) ∣ a then(gD O).w else(gD O).o)=O.s1 a:=rfl
def DX(a:Int):(if 2*(bA:Int) ∣ a then l8.w else l8.o)=false:=by split<;>rfl
def EN(O:eP){a:jE}(w:eb a.n):mi a (gD O)=(!a.op&&O.s1 (2*aV a.n)):=by unfold mi;unfold j3.has;have:=abr w;by_cases a6:(bA:Int) ∣ aV a.n;rw[ab<|this.2 a6];unfold eP.s1;rw[ab<|CR.2 a6];rfl;rw[aa λb=>a6<|this.1 b];unfold eP.s1;rw[aa λb=>a6<|CR.1 b];rfl
def Wo{a:jE}(w:a.has)(b:Int):qF (kY a) b↔2*aV a.n+(if a.op then 1 else 0)<=b:=by simp_all[kY,qF,ab]
def US{a:jE}(w:a.has)(b:Int):qz (kY a) b↔b<=2*aV a.n-(if a.op then 1 else 0):=by simp_all[kY,qz,ab]
def akb{a:jE}(w:¬a.has)(b:Int):qF (kY a) b:=by unfold kY qF;simp_all
theorem MM{a:jE}(w:¬a.has)(b:Int):qz (kY a) b:=by unfold kY qz;simp_all
def RC(a:j3)(b:Int):di.jH ⟨[],[],[a]⟩ b=if 2*(bA:Int) ∣ b then a.w else a.o:=rfl
def Lo(c:ba)(P:Bool)(b w:j3)(a:Int):di.jH ⟨[c],[P],[b,w]⟩ a=if 2*aV c=a then P else if 2*aV c<a then(if 2*(bA:Int) ∣ a then w.w else w.o) else if 2*(bA:Int) ∣ a then b.w else b.o:=by unfold di.jH;grind
def adQ{o b:ba}{P g:Bool}{c e w:j3}(k:aV o<aV b)(a:Int):di.jH ⟨[o,b],[P,g],[c,e,w]⟩ a=if 2*aV o=a then P else if 2*aV b=a then g else if 2*aV b<a then(if 2*(bA:Int) ∣ a then w.w else w.o) else if 2*aV o<a then(if 2*(bA:Int) ∣ a then e.w else e.o) else if 2*(bA:Int) ∣ a then c.w else c.o:=by
 let i:([o,b].countP λh=>decide (2*aV h<a))=if 2*aV b<a then 2 else if 2*aV o<a then 1 else 0:=by by_cases j:2*aV b<a;grind;grind
 unfold di.jH;grind
theorem aat{O:eP}(m:rL O)(c:Int):(jz O).jH c↔rz (ou O) c:=by
 rw[aqG,<-asD];let j:=λw=>DV<|m.1 w;let l:=λw=>DV<|m.2 w;by_cases a:O.low.has;by_cases b:O.high.has;let g:o4 O=ex (aV O.low.n-aV O.high.n):=by rw[o4,ab ⟨a,b⟩,Bx (j a)<|l b]
 rw[Wo a,US b];unfold jz;rw[g];by_cases k:0<ex (aV O.low.n-aV O.high.n);have:=JE.1 k;let h:vO.jH c=false:=by rw[show vO=⟨[],[],[l8]⟩ from rfl,RC,DX]
 (simp_all;omega)
 rw[aa k];by_cases i:ex (aV O.low.n-aV O.high.n)=0;rw[ab i];have:=zD.1 i;rw[Lo,DX,EN O<|j a];grind;rw[aa i,ab b];let o:aV O.low.n<aV O.high.n:=by have:¬0<aV O.low.n-aV O.high.n:=λe=>k<|JE.2 e;have:¬aV O.low.n-aV O.high.n=0:=λe=>i<|zD.2 e;omega
 let h:gR O=⟨[O.low.n],[mi O.low (gD O)],[l8,gD O]⟩:=by rw[gR,ab a]
 rw[h];show di.jH ⟨[O.low.n,O.high.n],[mi O.low (gD O),mi O.high (gD O)],[l8,gD O,l8]⟩ c↔_;rw[adQ o,DX,Hs,EN O<|j a,EN O<|l b];grind;let g:o4 O=-1:=by rw[o4,aa λe=>b e.2]
 rw[Wo a];unfold jz;rw[g,aa v,aa v,aa b,gR,ab a,Lo,DX,Hs,EN O<|j a];by_cases p:2*aV O.low.n=c;grind[MM];rw[aa p];by_cases q:2*aV O.low.n<c;grind[MM]
 (simp;omega)
 let g:o4 O=-1:=by rw[o4,aa λe=>a e.1]
 let h:gR O=⟨[],[],[gD O]⟩:=by rw[gR,aa a]
 let r:=akb a c;unfold jz;rw[g,aa v,aa v,h];by_cases b:O.high.has;rw[ab b,US b];show di.jH ⟨[O.high.n],[mi O.high (gD O)],[gD O,l8]⟩ c↔_;rw[Lo,DX,Hs,EN O<|l b];grind;simp_all[aa,RC,Hs,MM]
def zu:(b:List ba)->(∀a∈b,eb a/\r_ a)->List p9|[],_=>[]|c::b,w=>⟨c,w c af⟩::zu b (λa e=>w a (by simp[e]))
def I6{e:Type}(c:ba->e):∀(a:List ba)(w:∀b∈a,eb b/\r_ b),((zu a w).map λb=>c b.1)=a.map c|[],_=>rfl|g::a,w=>cW _<|I6 c a _
theorem anz(a:List ba)(w:∀b∈a,eb b/\r_ b):(zu a w).length=a.length:=by have:=cW List.length<|I6 id a w;simp_all
noncomputable def mh(b:List ba):List ba:=open Classical in if w:∀a∈b,eb a/\r_ a then(nI<|zu b w).map (λa=>a.1) else b
def aaf{N:List ba}:(mh N).Perm N:=by unfold mh;split;rename_i w;have b:=(Pw<|zu N w).1.map λa=>a.1;have c:=(I6 id N w).trans<|Cf N;simp_all;rfl
def aqC(a:List ba)(w:∀b∈a,eb b/\r_ b)(h:a.length<=1000000):cK 156 [.d 6001 0 (a.map bx).length,.func (.func 152) [] []] [(6001,.n 3 70 (a.map bx))] (.tuple []) [(6001,.n 3 70 ((mh a).map bx))]:=by
 have g:=aqD (zu a w) (by grind[anz]);have c:=I6 bx a w;have e:((nI (zu a w)).map λb=>bx b.1)=(mh a).map bx:=by unfold mh;rw[Ab w,ez];rfl
 simp_all
def SK{b:List ba}(m:b.Pairwise λe j=>aV e<=aV j)(i:∀c∈b,eb c):∀a,a<=b.length->qc (dV b a)/\∀c,c∈dV b a↔c∈b.take a
|0,_=>by simp[dV]|a+1,x=>by
 let⟨k,l⟩:=SK m i a v;let t:=z6.1 m;rw[dV,z9 v,xf<|show a<b.length by omega];split;rename_i w;rw[xf<|show a-1<b.length by omega] at w;refine⟨k,λc=>?_⟩;rw[l,ee,cV];refine⟨.inl,λh=>h.elim id λg=>?_⟩;rw[g,w.2];exact Qn.2 ⟨a-1,v,rfl⟩;rename_i w;refine⟨List.pairwise_append.2 ⟨k,Cg _ _,λe r j s=>?_⟩,λc=>?_⟩;obtain rfl:=cV.1 s;obtain⟨o,p,rfl⟩:=Qn.1<|(l e).1 r;rcases lM a with q|q;omega;rw[xf<|show a-1<b.length by omega] at w;let bu:=t (a-1) a v v v;let cG:aV _≠aV _:=λg=>w ⟨v,alw (i _<|fG _) (i _<|fG _) g.symm⟩;let u:aV b[o]<=aV b[a-1]:=by rcases gh o (a-1) with h|h;simp_all;grind
 omega;grind
noncomputable def kL(a b:List ba):List ba:=dV (mh [a,b].flatten) (mh [a,b].flatten).length
def IC{a:ba}(w:Small a):r_ a:=⟨by have:=w.1;omega,by have:=w.2.1;omega,by have:=w.2.2;omega⟩
theorem Mr{b c:List ba}{a:ba}:a∈[b,c].flatten↔a∈b\/a∈c:=af
def JW{a b:List ba}(g:u0 a)(h:u0 b):qc (kL a b)/\(∀e,e∈kL a b↔e∈a\/e∈b)/\(kL a b).length<=a.length+b.length:=by
 let w:∀c∈[a,b].flatten,eb c/\r_ c:=λc k=>by rcases Mr.1 k with w|w;exact⟨(g.1 c w).1,IC (g.1 c w).2⟩;exact⟨(h.1 c w).1,IC (h.1 c w).2⟩
 let i:=aaf (N:=[a,b].flatten);let⟨j,o⟩:=SK (by simp_all[mh,Ab,Kx,Pw]) (λe l=>(w e<|i.mem_iff.1 l).1) _<|a1 _;refine⟨j,λe=>?_,?_⟩;grind[kL,List.take_length,Mr];have:=SL (mh [a,b].flatten) (mh [a,b].flatten).length;let m:(mh [a,b].flatten).length=a.length+b.length:=by rw[i.length_eq];simp
 grind[kL]
def e5(b t:List ba)(a:Nat):Nat:=if w:a<t.length then low b t[a] else b.length
def Wv{b:List ba}(w:qc b)(c:ba)(a:Nat)(e:a<b.length):aV b[a]<aV c↔a<low b c:=by have:=yL w (2*aV c) a e;grind[low]
def NH(a t:List ba)(b:Nat):e5 a t b<=a.length:=by unfold e5;split;exact z0;omega
def Wl{a t:List ba}(e:qc a)(l:qc t)(q:∀s∈a,s∈t)(m:I<t.length):e5 a t (I+1)=e5 a t I+if e5 a t I<a.length/\a.getD (e5 a t I) default=t[I] then 1 else 0:=by
 let w:=z6.1 l;let j:e5 a t I=low a t[I]:=by unfold e5;rw[Ab m]
 rw[j];let u:=Wv e t[I];let y:low a t[I]<=a.length:=z0;let key:∀b(p:b<a.length),b<e5 a t (I+1)↔aV a[b]<aV t[I]\/a[b]=t[I]:=by
  intro b p;let⟨r,A,h⟩:=kj.1<|q _<|fG p;let o:aV a[b]<aV t[I]\/a[b]=t[I]↔r<=I:=by rw[<-h];constructor;grind;grind
  rw[o];unfold e5;split;rename_i x;rw[<-Wv e t[I+1] b p,<-h];grind;omega
 let z:=NH a t<|I+1;by_cases c:low a t[I]<a.length/\a.getD (low a t[I]) default=t[I];rw[ab c];rw[xf c.1] at c;let bu:=(key _ c.1).2<|.inr c.2;refine Fz (KH λk=>?_) bu;let i:low a t[I]+1<a.length:=v;let cG:=(key _ i).1 k;let g:=z6.1 e (low a t[I]) (low a t[I]+1) c.1 i v;rw[c.2] at g;rcases cG with cG|cG;omega;rw[cG] at g;omega;grind
theorem Wm{a t:List ba}(h:qc t)(c:∀b∈a,b∈t):e5 a t 0=0:=by unfold e5;split;unfold low;rw[P9];intro b g;obtain⟨j,i,rfl⟩:=kj.1<|c b g;grind[List.pairwise_iff_getElem];cases a with|nil=>rfl|cons e a=>have:=Kr<|c e af;omega
def tA(e:Bool->Bool->Bool)(b c:di)(a:ba):Bool:=e (b.has a)<|c.has a
def vb(e:Bool->Bool->Bool)(a b:di)(c:ba):j3:=sw e (a.fW.getD (low a.C c) default)<|b.fW.getD (low b.C c) default
def LG(c e:di)(a F:Nat)(b:FuncId)(l:Bool->Bool->Bool)(g:iR a4 b)(h:∀j k,aA b [.bool j,.bool k] (.bool (l j k)))(o:a<c.fW.length)(m:F<e.fW.length)(r:a<=1000000)(t:F<=1000000):aA 158 [.ref 3 [jK c] 0 0,.ref 1 [q a] 0 0,.ref 3 [jK e] 0 0,.ref 1 [q F] 0 0,.ref 1 [.func (.func b) [] []] 0 0] (fK (sw l (c.fW.getD a default) (e.fW.getD F default))):=by refine aX func158 [] λs u=>?_;refine ay.dI 1006 MR.size 232 [] none ?_;refine ay.dI 1007 MR.size 232 [] none ?_;refine dC ?_;refine a_ (λ_=>aJ a _ rfl) ?_;refine a_ (λ_=>aJ F _ rfl (p:=cv m)) ?_;refine zV 1006 6 ?_;refine zV 1007 7 ?_;refine eJ ?_;refine eJ ?_;refine fm ?_;refine dC ?_;refine a_ (λ_=>bT rfl (a0:=g) (i:=h _ _)) ?_;refine a_ (λ_=>bT rfl (a0:=g) (i:=h _ _)) ?_;refine eJ ?_;refine fm ?_;exact cu aZ
def afK(c a:di)(o:FuncId)(h:Bool->Bool->Bool)(H:iR a4 o)(I:∀k P,aA o [.bool k,.bool P] (.bool (h k P)))(u:c.ok)(a0:a.ok)(bq:c.C.length+a.C.length<=100000)(ah:0<c.C.length+a.C.length):aA 104 [jK c,jK a,.func (.func o) [] []] (jK (ku h (kL c.C a.C) c a)):=by
 refine aX func104 [2003,2007,2010,2011,2017] λs ai=>?_;obtain⟨J,D,ag⟩:=JW u.1 a0.1;have X:∀y∈[c.C,a.C].flatten,eb y/\r_ y:=λy W=>by rcases Mr.1 W with w|w;exact⟨(u.1.1 y w).1,IC (u.1.1 y w).2⟩;exact⟨(a0.1.1 y w).1,IC (a0.1.1 y w).2⟩
 have S:[c.C,a.C].flatten.length=c.C.length+a.C.length:=af;have az:(mh [c.C,a.C].flatten).length=c.C.length+a.C.length:=by rw[(aaf).length_eq,S]
 have L:∀k∈c.C,k∈kL c.C a.C:=λk m=>(D k).2<|.inl m;have M:∀k∈a.C,k∈kL c.C a.C:=λk m=>(D k).2<|.inr m;have K:kL c.C a.C=dV (mh [c.C,a.C].flatten) (mh [c.C,a.C].flatten).length:=rfl;generalize kL c.C a.C=t at J D ag L M K⊢;have al:(t.map bx).length=t.length:=aS _;have an:=u.2.2.2.1;have ao:=a0.2.2.2.1;have R:∀k∈t,eb k/\Small k:=λk m=>((D k).1 m).elim (u.1.1 k)<|a0.1.1 k;have Z:=λe=>NH c.C t e;have ad:=λe=>NH a.C t e;refine dv ?_;refine bk [(24,19)] ?_ (i:=afS [c.C,a.C] v v af);refine bk [(6001,19)] ?_ (i:=aqC [c.C,a.C].flatten X v);refine gK Unit (λk=>⟨[(3,g 3),(4,g 4),(5,g 5),(6,g 6),(7,.d 19 0 ((dV (mh [c.C,a.C].flatten) (mh [c.C,a.C].flatten).length).map bx).length)],[(3,.cell 96<|jK c),(4,.cell 96<|jK a),(5,.cell 188<|.func (.func o) [] []),(6,.cell 96<|V.zero xk.z),(19,.n 3 70<|(dV (mh [c.C,a.C].flatten) (mh [c.C,a.C].flatten).length).map bx)],[]⟩) (λ_=>True) ?_ λk m=>?_
 .refine bk [(5001,19)] ?_ (i:=afM (mh [c.C,a.C].flatten) ([c.C,a.C].flatten.map bx).length v b);exact c3 ()
 rw[<-K];refine ay.dI 1100 2 232 [] (some (8,2)) ?_;refine ay.dI 1101 1 4 [] (some (8,1)) ?_;refine cP ?_;refine cQ (Nat×Int×Int) (λl=>⟨[(3,g 3),(4,g 4),(5,g 5),(6,g 6),(8,g 8),(9,g 9),(10,g 10),(11,_),(27,_),(28,_),(29,q l.1)],[(3,_),(4,_),(5,_),(6,_),(8,.cell 96<|.agg [.d 19 0 (t.map bx).length,.d 1101 0 (((t.take l.1).map<|tA h c a).map aW).length,.d 1100 0 (((t.take l.1).map<|vb h c a).map fK).length]),(9,.cell 3<|.int .i64 l.2.1),(10,.cell 3<|.int .i64 l.2.2),(19,.n 3 70<|t.map bx),(1100,.n 2 232<|((t.take l.1).map<|vb h c a).map fK),(1101,.n 1 4<|((t.take l.1).map<|tA h c a).map aW)],[]⟩) (λl=>l.1<=t.length/\l.2.1=(e5 c.C t l.1:Nat)/\l.2.2=(e5 a.C t l.1:Nat)) (λl=>t.length-l.1) (0,0,0) (λ⟨e,aC,F⟩ ap=>?_) ⟨c1 _,by grind[Wm],by grind[Wm]⟩ .r;dsimp only at ap⊢;obtain⟨aq,rfl,rfl⟩:=ap;have av:=Z e;have aw:=ad e;have Y:(((t.take e).map (tA h c a)).map aW).length=e:=aK;have U:(((t.take e).map (vb h c a)).map fK).length=e:=aK;apply j<;>intro aj
 .have x:e<t.length:=v;have E:e5 c.C t e=low c.C t[e]:=by unfold e5;rw[Ab x]
  have G:e5 a.C t e=low a.C t[e]:=by unfold e5;rw[Ab x]
  have A:=R _<|fG x;have N:=Wl u.1.up J L x;have B:=Wl a0.1.up J M x;have O:=z9 x;refine cz e ?_;refine ft (bx t[e]) ?_ (p:=kB x);refine gK Unit (λk=>⟨[(3,g 3),(4,g 4),(5,g 5),(6,g 6),(8,g 8),(9,g 9),(10,g 10),(11,.func (.func 158) [] [g 3,g 9,g 4,g 10,g 5]),(13,g 13),(27,.d 19 0 (t.map bx).length),(28,q (t.map bx).length),(29,q e)],[(3,.cell 96<|jK c),(4,.cell 96<|jK a),(5,.cell 188<|.func (.func o) [] []),(6,.cell 96<|V.zero xk.z),(8,.cell 96<|.agg [.d 19 0 (t.map bx).length,.d 1101 0 (((t.take e).map<|tA h c a).map aW).length,.d 1100 0 (((t.take<|e+1).map<|vb h c a).map fK).length]),(9,.cell 3<|.int .i64 ((e5 c.C t e:Nat):Int)),(10,.cell 3<|.int .i64 ((e5 a.C t e:Nat):Int)),(13,.cell 70<|bx t[e]),(19,.n 3 70<|t.map bx),(1100,.n 2 232<|((t.take<|e+1).map<|vb h c a).map fK),(1101,.n 1 4<|((t.take e).map<|tA h c a).map aW)],[]⟩) (λ_=>True) ?_ λk m=>?_
  .refine dC ?_;refine Kc [3,9,4,10,5] ?_;apply yt.mk;intro ae;refine hR ?_ (i:=LG c a (e5 c.C t e) (e5 a.C t e) o h H I v v v v);exact rfl;refine a_ (λ_=>jv rfl) ?_;refine jB 38 (((t.take<|e+1).map<|vb h c a).map fK) ?_ (aG:=by rw[O,cD,cD,E,G];rfl) (bq:=aM) (lu:=bL) (vA:=bL);refine eJ ?_;refine iK [(38,1100)] ?_;exact c3 ()
  refine gK Unit (λk=>⟨[(3,g 3),(4,g 4),(5,g 5),(6,g 6),(8,g 8),(9,g 9),(10,g 10),(11,.func (.func 158) [] [g 3,g 9,g 4,g 10,g 5]),(13,g 13),(27,.d 19 0 (t.map bx).length),(28,q (t.map bx).length),(29,q e)],[(3,.cell 96<|jK c),(4,.cell 96<|jK a),(5,.cell 188<|.func (.func o) [] []),(6,.cell 96<|V.zero xk.z),(8,.cell 96<|.agg [.d 19 0 (t.map bx).length,.d 1101 0 (((t.take<|e+1).map<|tA h c a).map aW).length,.d 1100 0 (((t.take<|e+1).map<|vb h c a).map fK).length]),(9,.cell 3<|.int .i64 ((e5 c.C t e:Nat):Int)),(10,.cell 3<|.int .i64 ((e5 a.C t e:Nat):Int)),(13,.cell 70<|bx t[e]),(19,.n 3 70<|t.map bx),(1100,.n 2 232<|((t.take<|e+1).map<|vb h c a).map fK),(1101,.n 1 4<|((t.take<|e+1).map<|tA h c a).map aW)],[]⟩) (λ_=>True) ?_ λk m=>?_
  .refine dC ?_;refine a_ (λ_=>bT rfl (i:=Og c t[e] u A.1 A.2)) ?_;refine a_ (λ_=>bT rfl (i:=Og a t[e] a0 A.1 A.2)) ?_;refine a_ (λ_=>bT rfl (a0:=H) (i:=I (c.has t[e])<|a.has t[e])) ?_;refine a_ (λ_=>jv rfl) ?_;refine jB 51 (((t.take<|e+1).map<|tA h c a).map aW) ?_ (aG:=by rw[O,cD,cD];rfl) (bq:=aM) (lu:=ax) (vA:=ax);refine eJ ?_;refine iK [(51,1101)] ?_;exact c3 ()
  refine c7 ?_;apply b2;intro am;refine gZ (e5 c.C t e) (bx<|c.C.getD (e5 c.C t e) default) ?_ (p:=cv v);refine Ic (BM (c.C.getD (e5 c.C t e) default) t[e]) ?_;exact rfl;apply j<;>intro ak
  .rw[ab aM] at N;refine aL ?_;refine c7 ?_;apply b2;intro T;refine gZ (e5 a.C t e) (bx<|a.C.getD (e5 a.C t e) default) ?_ (p:=cv v);refine Ic (BM (a.C.getD (e5 a.C t e) default) t[e]) ?_;exact rfl;apply j<;>intro Q
   .rw[ab aM] at B;refine aL ?_;refine aL ?_;exact aB (e+1,((e5 c.C t e:Nat):Int)+1,((e5 a.C t e:Nat):Int)+1) ⟨v,aK,aK⟩ v .r
   rw[aa b] at B;refine aL ?_;exact aB (e+1,((e5 c.C t e:Nat):Int)+1,((e5 a.C t e:Nat):Int)) ⟨v,aK,aK⟩ v .r
  rw[aa b] at N;refine c7 ?_;apply b2;intro T;refine gZ (e5 a.C t e) (bx<|a.C.getD (e5 a.C t e) default) ?_ (p:=cv v);refine Ic (BM (a.C.getD (e5 a.C t e) default) t[e]) ?_;exact rfl;apply j<;>intro Q
  .rw[ab aM] at B;refine aL ?_;refine aL ?_;exact aB (e+1,((e5 c.C t e:Nat):Int),((e5 a.C t e:Nat):Int)+1) ⟨v,aK,aK⟩ v .r
  rw[aa b] at B;refine aL ?_;exact aB (e+1,((e5 c.C t e:Nat):Int),((e5 a.C t e:Nat):Int)) ⟨v,aK,aK⟩ v .r
 obtain rfl:e=t.length:=v;have E:e5 c.C t t.length=c.C.length:=by unfold e5;rw[KV v]
 have G:e5 a.C t t.length=a.C.length:=by unfold e5;rw[KV v]
 rw[gq] at Y U⊢;refine gK Unit (λk=>⟨[(6,g 6),(8,g 8)],[(6,.cell 96<|V.zero xk.z),(8,.cell 96<|.agg [.d 19 0 (t.map bx).length,.d 1101 0 ((t.map<|tA h c a).map aW).length,.d 1100 0 ((ku h t c a).fW.map fK).length]),(19,.n 3 70<|t.map bx),(1100,.n 2 232<|(ku h t c a).fW.map fK),(1101,.n 1 4<|(t.map<|tA h c a).map aW)],[]⟩) (λ_=>True) ?_ λk m=>?_
 .refine dC ?_;refine Kc [3,9,4,10,5] ?_;apply yt.mk;intro ae;refine hR ?_ (i:=LG c a (e5 c.C t t.length) (e5 a.C t t.length) o h H I v v v v);exact rfl;refine a_ (λ_=>jv rfl) ?_;refine jB 91 ((ku h t c a).fW.map fK) ?_ (aG:=by rw[E,G];show _=List.map fK (t.map (vb h c a)++[_]);simp) (bq:=by grind[ku]) (lu:=bL) (vA:=ax);refine eJ ?_;refine iK [(91,1100)] ?_;exact c3 ()
 refine gB 19 ?_;refine gB 1100 ?_;refine gB 1101 ?_;exact cu aZ
def di.mb(F:Nat)(O:di):Prop:=O.ok/\O.C.length<=F
def Ev{a:List ba}(w:qc a)(c:∀b∈a,eb b/\Small b):u0 a:=⟨c,λh i p g e=>z6.1 w h i p g e⟩
def alL:vO.mb 0:=⟨⟨Ev List.Pairwise.nil (by simp[vO]),by simp[vO],rfl,rfl,bB⟩,a1 _⟩
theorem aad{a:ba}(w:pv 30 a):Small a:=w.small aj
def JN{O:eP}(e:rL O):(jz O).mb 2:=by
 let p:O.low.has->eb _/\pv 30 _:=λw=>⟨DV<|e.1 w,Pv<|e.1 w⟩;let l:O.high.has->eb _/\pv 30 _:=λw=>⟨DV<|e.2 w,Pv<|e.2 w⟩;let one:∀(g:ba)(P:Bool)(a w:j3),eb g/\pv 30 g->di.mb 2 ⟨[g],[P],[a,w]⟩:=λg P a w s=>
  ⟨⟨Ev (Cg _ _) λq o=>by grind[aad],λq o=>b,rfl,rfl,af⟩,af⟩
 let zero:∀(a:j3),di.mb 2 ⟨[],[],[a]⟩:=λa=>⟨⟨Ev List.Pairwise.nil af,af,rfl,rfl,af⟩,af⟩;unfold jz;split;exact zero _;rename_i j;split;grind[XS];rename_i k;split;rename_i i;by_cases c:O.low.has;let h:gR O=⟨[O.low.n],[mi O.low (gD O)],[l8,gD O]⟩:=by rw[gR,ab c]
 rw[h];let m:o4 O=ex (aV O.low.n-aV O.high.n):=by rw[o4,ab ⟨c,i⟩,Bx (p c).1 (l i).1]
 rw[m] at j k;let r:aV O.low.n<aV O.high.n:=by have:¬0<aV _-aV _:=λa=>j<|JE.2 a;have:¬aV _-aV _=0:=λa=>k<|zD.2 a;omega
 refine⟨⟨Ev ?_ ?_,?_,rfl,rfl,af⟩,af⟩;grind;grind[aad];simp_all;let h:gR O=⟨[],[],[gD O]⟩:=by rw[gR,aa c]
 rw[h];exact one _ _ _ _<|l i;grind[gR]
def afH{abC:Bool->Bool->Bool}{F:Nat}{e g:di}(b:e.mb I)(c:g.mb F)(m:I+F<=100000):(ku abC (kL e.C g.C) e g).mb (I+F):=by let⟨j,i,m1⟩:=JW b.1.1 c.1.1;let k:=b.2;let l:=c.2;refine⟨⟨Ev j λa h=>((i a).1 h).elim (b.1.1.1 a)<|c.1.1.1 a,λa h=>((i a).1 h).elim (b.1.2.1 a)<|c.1.2.1 a,by simp[ku],by simp[ku],?_⟩,?_⟩;show(kL _ _).length<=_;omega;show(kL _ _).length<=_;omega
noncomputable def qZ(a:List eP):di:=a.foldl (λP O=>ku (λb c=>b||c) (kL P.C (jz O).C) P<|jz O) vO
def abb:∀(b:List eP)(P:di)(F:Nat),(∀O∈b,rL O)->P.mb F->F+2*b.length<=100000->(b.foldl (λP O=>ku (λa h=>a||h) (kL P.C (jz O).C) P<|jz O) P).mb (F+2*b.length)/\∀e,(b.foldl (λP O=>ku (λa h=>a||h) (kL P.C (jz O).C) P<|jz O) P).jH e=(P.jH e||b.any λO=>(jz O).jH e)|[],P,F,_,g,_=>⟨g,λe=>af⟩|O::b,P,F,l,g,o=>by let j:=JN<|l O af;rw[kh] at o⊢;let⟨q,m⟩:=abb b _ _ (λa c=>l a aM) (afH (abC:=λa h=>a||h) g j v) v;let⟨p,k,m1⟩:=JW g.1.1 j.1.1;rw[Kn];refine⟨aM,λe=>?_⟩;rw[m e,afF p (λa c=>((k a).1 c).elim (λi=>(g.1.1.1 a i).1) λi=>(j.1.1.1 a i).1) (λa c=>(k a).2<|.inl c) λa c=>(k a).2<|.inr c,uH,Bool.or_assoc]
def abc{N:List eP}(a:∀O∈N,rL O)(w:N.length<=1000):(qZ N).mb (2*N.length):=by have:=(abb N _ 0 a alL v).1;rwa [kk] at this
theorem ahN{O:di}(G:O.ok)(P:I<O.fW.length)(w:O.tO I):∃e,O.jH e:=by
 let⟨k,S,R,N,Q⟩:=G;let H:=k.up;let key:∀e,(∀a(b:a<O.C.length),a<I->2*aV O.C[a]<e)->(∀a(b:a<O.C.length),I<=a->e<2*aV O.C[a])->(if 2*(bA:Int) ∣ e then(O.fW.getD I default).w else(O.fW.getD I default).o)=true->O.jH e:=by
  intro e z A B;let u:(O.C.countP λl=>decide (2*aV l<e))=I:=SH H v z λa b g=>Int.le_of_lt<|A a b g;let E:¬(O.C.any λl=>decide (2*aV l=e)):=λm=>by let⟨l,J,s⟩:=wk.1 m;let s:=tf s;obtain⟨a,b,rfl⟩:=kj.1 J;grind
  unfold di.jH;rw[aa E,u];exact B
 let T:∀c:Int,¬2*(bA:Int) ∣ 2*c+1:=λc m=>by let⟨t,u⟩:=m;grind
 let r:∀a h(b:a<O.C.length)(y:h<O.C.length),a<=h->aV O.C[a]<=aV O.C[h]:=λa h b y w=>by rcases gh a h with F|F;have:=k.2 a h b y F;omega;grind
 unfold di.tO at w;rw[m5,jD] at w;rcases w with w|⟨w,j⟩
 .rcases lM O.C.length with p|p;refine⟨2*0+1,key _ (λa b=>v) (λa b=>v) ?_⟩;trivial;rcases gh I O.C.length with F|F;refine⟨2*(aV O.C[I]-1)+1,key _ (λa b i=>?_) (λa b g=>?_) ?_⟩;have:=k.2 a I b F i;omega;grind;simp_all;refine⟨2*aV O.C[O.C.length-1]+1,key _ (λa b i=>?_) (λa b g=>v) ?_⟩;have:=r a (O.C.length-1) b v v;omega;simp_all
 .let K:∀c,2*(bA:Int) ∣ 2*(cI c+bA):=λc=>CR.2<|Tn<|w2 c;let L:∀c,2*(bA:Int) ∣ 2*(cI c-bA):=λc=>CR.2<|To<|w2 c;let M:(0:Int)<bA:=by have:=p6;omega
  rcases lM O.C.length with p|p;refine⟨2*(cI 0+bA),key _ (λa b=>v) (λa b=>v) ?_⟩;trivial;rcases gh I O.C.length with F|F;rcases lM I with x|x;subst x;refine⟨(2:Int)*(cI (aV O.C[0])-(bA:Int)),key _ (λa b i=>v) (λa b g=>?_) ?_⟩;have:=r 0 a F b g;have:=w_<|aV O.C[0];omega;simp_all;let q:I-1<O.C.length:=v;unfold di.Fa at j;rw[aa v,xf q,xf F] at j;let j:=tf j;rw[(F8 (k.1 _<|fG q).1).2] at j;let D:=w_<|aV O.C[I-1];refine⟨2*(cI (aV O.C[I-1])+bA),key _ (λa b i=>?_) (λa b g=>?_) ?_⟩;grind;grind;simp_all;let q:O.C.length-1<O.C.length:=v;let D:=w_<|aV O.C[O.C.length-1];refine⟨2*(cI (aV O.C[O.C.length-1])+bA),key _ (λa b i=>?_) (λa b g=>v) ?_⟩;grind;simp_all
def ag0{O:di}(H:O.ok):O.empty↔∀e,O.jH e=false:=by
 let⟨g,U,S,N,R⟩:=id H;have I:=g.up;unfold di.empty;constructor;intro w e;split at w;cases w;rename_i E;have T:∀a,O.on.getD a false=false:=λa=>by grind
 unfold di.jH;split;simp_all;rename_i z;have B:(O.C.countP λo=>decide (2*aV o<e))<=O.C.length:=z0;have t:=λc (p:c<O.C.length)=>yL I e c p;generalize (O.C.countP λo=>decide (2*aV o<e))=c at B t;have l:O.tO c≠true:=λr=>E ⟨c,v,r⟩;unfold di.tO at l;rw[ne_eq,m5,jD] at l;have D:∀a(j:a<O.C.length),2*aV O.C[a]≠e:=λa j q=>z<|wk.2 ⟨_,fG j,oD q⟩;split;rename_i a6;cases A:(O.fW.getD c default).w with
 |false=>rfl|true=>
  exfalso;refine l<|.inr ⟨A,?_⟩;unfold di.Fa;split;rfl;have k:c-1<O.C.length:=v;have u:c<O.C.length:=v;rw[xf k,xf u];refine oD ?_;rw[(F8 (g.1 _<|fG k).1).2];obtain⟨x,rfl,J⟩:=MH a6;have bu:=(t (c-1) k).2 v;have cG:¬2*aV O.C[c]<2*x:=λr=>b;have K:=D c u;have y:cI (aV O.C[c-1])<x:=by have:=w_<|aV O.C[c-1];omega
  have L:=aq1 (w2 _) J y;omega
 simp_all;intro w;split;grind[ahN];cases s:O.on.contains true with
 |false=>rfl|true=>
  exfalso;rw[Kk] at s;let⟨a,j,q⟩:=kj.1 s;have h:a<O.C.length:=v;have:=MJ O (g.1 _<|fG h).1;have M:low O.C O.C[a]=a:=Wu v (λi m G=>g.2 i a m h G) λi m Q=>by rcases gh a i with F|F;have:=g.2 a i h m F;omega;grind
  have P:xh O.C O.C[a]:=wk.2 ⟨_,fG h,oD rfl⟩;simp_all[di.has,ab,cg,bw]
def aq6{O:eP}(a:rL O):(jz O).empty=l_ (ou O):=by
 rw[m4,ag0 (JN a).1];constructor;intro w;cases b:l_ _ with|true=>rfl|false=>let⟨e,c⟩:=(aqz<|aqE O).1 b;have:=(aat a e).2 c;simp_all
 grind[jz,absurd,aat,alA]
def aqB:aA 156 [.aQ,.func (.func 152) [] []] (.tuple []):=fg.al7 λh c q a e=>by
 match c,a with
 |[p,b],_=>
  have m:=e 0 _ p rfl rfl;have g:=e 1 _ b rfl rfl;cases m;have l:b=.func (.func 152) #[] #[]:=by
   change aE h (.func (.func 152) [] []) b at g;cases g with
   |func fn u y o c a k w r=>
    have i:o=[]:=by simpa using a.symm
    have j:c=[]:=by simpa using k.symm
    rw[i,j]
  subst l;exact⟨.tuple #[],.tuple [] [] rfl λs x t w=>by simp at w,ey.QM none 0 q⟩
def afL:aA 157 [.aQ] .aQ:=by refine aX func157 [] λs a=>?_;refine kN.mk (λ_=>?_) nofun;exact ae
def afI(a b:j3)(e:FuncId)(c:Bool->Bool->Bool)(m:iR a4 e)(o:∀k l,aA e [.bool k,.bool l] (.bool (c k l))):aA 104 [jK ⟨[],[],[a]⟩,jK ⟨[],[],[b]⟩,.func (.func e) [] []] (jK ⟨[],[],[sw c a b]⟩):=by
 refine aX func104 [2007,2017] λs p=>?_;refine dv ?_;refine az ?_ (i:=afR [[],[]] rfl af);refine az ?_ (i:=aqB);refine az ?_ (i:=afL);refine ay.dI 1100 2 232 [] (some (8,2)) ?_;refine cP ?_;refine cQ Nat (λh=>⟨[(3,g 3),(4,g 4),(5,g 5),(6,g 6),(8,g 8),(9,g 9),(10,g 10),(11,_),(27,_),(28,_),(29,q h)],[(3,_),(4,_),(5,_),(6,_),(8,.cell 96<|.agg [.aQ,.aQ,.d 1100 0 0]),(9,.cell 3<|.int .i64 0),(10,.cell 3<|.int .i64 0),(1100,.n 2 232 [])],[]⟩) (λh=>h=0) (λ_=>0) 0 (λh u=>?_) (bo:=.r);apply j<;>intro t
 .exfalso;omega
 refine gK Unit (λk=>⟨[(6,g 6),(8,g 8)],[(6,.cell 96<|V.zero xk.z),(8,.cell 96<|.agg [.aQ,.aQ,.d 1100 0 1]),(1100,.n 2 232<|[sw c a b].map fK)],[]⟩) (λ_=>True) ?_ λk w=>?_
 .refine dC ?_;refine Kc [3,9,4,10,5] ?_;apply yt.mk;intro x;refine hR ?_ (i:=LG ⟨[],[],[a]⟩ ⟨[],[],[b]⟩ 0 0 e c m o af af v v);exact rfl;refine a_ (λ_=>jv rfl) ?_;refine jB 91 ([sw c a b].map fK) ?_ (bq:=af) (lu:=bL) (vA:=bL);refine eJ ?_;refine iK [(91,1100)] ?_;exact c3 ()
 refine gB 1100 ?_;refine fA 3 6 [0] ?_;refine fA 1 6 [1] ?_;exact cu aZ
def afG(h:Bool->Bool->Bool){a b:di}(i:a.ok)(j:b.ok)(p:a.C=[])(q:b.C=[]):∃c e,a=⟨[],[],[c]⟩/\b=⟨[],[],[e]⟩/\ku h (kL a.C b.C) a b=⟨[],[],[sw h c e]⟩:=by
 let key:∀O:di,O.ok->O.C=[]->∃g,O=⟨[],[],[g]⟩:=by
  intro O r w;let⟨_,_,l,k,_⟩:=r;let⟨C,t,o⟩:=O;simp only at w l k;subst w;have:t=[]:=lJ l;subst this
  match o,k with|[g],_=>exact⟨g,rfl⟩
 obtain⟨c,rfl⟩:=key a i p;obtain⟨e,rfl⟩:=key b j q;refine⟨c,e,rfl,rfl,?_⟩;let s:=JW i.1 j.1;let m:kL [] []=[]:=lJ (by have:=s.2.2;simpa using this);show ku h (kL [] []) _ _=_;rw[m];rfl
def afJ(a b:di)(c:FuncId)(e:Bool->Bool->Bool)(h:iR a4 c)(k:∀l m,aA c [.bool l,.bool m] (.bool (e l m)))(i:a.ok)(j:b.ok)(t:a.C.length+b.C.length<=100000):aA 104 [jK a,jK b,.func (.func c) [] []] (jK (ku e (kL a.C b.C) a b)):=by rcases lM (a.C.length+b.C.length) with g|g;let⟨r,s,o,p,q⟩:=afG e i j (lJ v)<|lJ v;rw[q,o,p];exact afI r s c e h k;exact afK a b c e h k i j t g
def abd(N:List eP)(m:∀O∈N,rL O)(y:∀O∈N,Small O.low.n/\Small O.high.n)(B:N.length<=1000):aA 65 [.f 11 (N.map qq)] (jK (qZ N)):=by
 refine aX func65 [] λs z=>?_;refine az ?_ (i:=Xr);refine cQ (Nat×di) (λb=>⟨[(2,g 2),(3,g 3),(7,_),(8,_),(9,q b.1)],[(2,_),(3,.cell 96<|jK b.2)],[]⟩) (λb=>b.1<=N.length/\b.2=qZ (N.take b.1)) (λb=>N.length-b.1) (0,vO) (λ⟨a,l⟩ ap=>?_) ⟨c1 _,rfl⟩ .r;dsimp only at ap⊢;let⟨p,k⟩:=ap;apply j<;>intro A
 .let h:a<N.length:=v;let x:=m _<|fG h;let i:=abc (N:=N.take a) (λO w=>m O<|p0 w) yl;let o:=JN x;let D:(N.take a).length<=1000:=yl;let u:qZ (N.take<|a+1)=ku (λc e=>c||e) (kL (qZ<|N.take a).C (jz N[a]).C) (qZ<|N.take a) (jz N[a]):=by rw[z9 h];unfold qZ;rw[Km];rfl
  let t:=y _<|fG h;rw[<-k] at i;refine aJ a (qq N[a]) ?_ (p:=kB h);refine dC ?_;refine a_ (λ_=>bT rfl (i:=aau N[a] t.1 t.2)) ?_;refine a_ (λ_=>bT rfl (i:=afJ l (jz N[a]) 105 (λc e=>c||e) ⟨bL⟩ amf i.1 o.1 (by have:=i.2;have:=o.2;omega))) ?_;refine eJ ?_;refine fm ?_;refine aL ?_;exact aB (a+1,ku (λc e=>c||e) (kL l.C (jz N[a]).C) l<|jz N[a]) ⟨uQ,by dsimp only;rw[u,<-k]⟩ uQ .r
 obtain rfl:a=N.length:=v;rw[gq] at k;subst k;exact cu aZ
def Gr{a:jE}(w:lo a=0):CF a/\Small a.n:=by unfold lo at w;split at w;exact⟨λ_=>w,(Pv w).small aj⟩;rename_i g;split at w;cases w;rename_i e;have:a.n=⟨false,[],0⟩:=jZ λc=>e b;refine⟨λc=>absurd c g,?_⟩;rw[this];trivial
def pW(O:eP):Int:=if lo O.low≠0 then lo O.low else if lo O.high≠0 then lo O.high else if l_ (ou O) then 10 else 0
def JM{O:eP}(a:lo O.low=0)(b:lo O.high=0):rL O/\Small O.low.n/\Small O.high.n:=⟨⟨(Gr a).1,(Gr b).1⟩,(Gr a).2,(Gr b).2⟩
instance:Inhabited jE:=⟨⟨false,false,default⟩⟩
instance:Inhabited eP:=⟨⟨default,default,false⟩⟩
def Uu{a:List eP}(w:I<a.length):a.getD I default=a[I]:=b
def EQ(b:List eP):Nat->Int:=fB λa=>pW<|b.getD a default
def jx(O:dH):Int:=if O.gW<0\/3<O.gW then 9 else if 20<O.cN.length then 3 else EQ O.cN O.cN.length
def Br{O:dH}{a:Int}(e:¬(O.gW<0\/3<O.gW))(g:¬20<O.cN.length)(w:EQ O.cN I=0)(b:I<O.cN.length)(h:pW (O.cN.getD I default)=a)(c:a≠0):jx O=a:=by have:=ss w v _ b;simp_all[jx,aa,EQ]
def eP.gy(O:eP):Prop:=O.low.n.a9.length<=1048576/\O.high.n.a9.length<=1048576
def Sk(O:dH)(B:∀C∈O.cN,C.gy)(H:O.cN.length<=1000000):aA 64 [hD O] (.int .i64 (jx O)):=by
 refine aX func64 [] λs E=>?_;refine dD ?_;apply j<;>intro c
 .exact ae (w:=by rw[jx,ab c];rfl)
 apply j<;>intro F
 .exact ae (w:=by rw[jx,aa c,ab v];rfl)
 have h:¬20<O.cN.length:=v;refine eH O.cN.length (λb=>EQ O.cN b=0) (λb=>⟨[(23,_),(24,_),(25,q b)],[],[]⟩) (λb p=>?_) rfl .r;apply j<;>intro G
 .have e:b<O.cN.length:=v;have m:=B _<|fG e;rw[<-Uu e] at m;refine aJ b (qq<|O.cN.getD b default) ?_ (p:=cv e);refine dv ?_;refine eH 2 (λa=>(0<a->lo (O.cN.getD b default).low=0)/\(1<a->lo (O.cN.getD b default).high=0)) (λa=>⟨[(4,g 4),(23,_),(24,_),(25,_),(33,_),(34,_),(35,q a)],[(4,_)],[]⟩) (λa u=>?_) ⟨λw=>v,λw=>v⟩ .r;apply j<;>intro x
  .have y:a<2:=by have:((a:Nat):Int)<((2:Nat):Int):=x;omega
   refine aJ a (AJ<|if a=0 then(O.cN.getD b default).low else(O.cN.getD b default).high) ?_ (p:=by rcases(show a=0\/a=1 by omega) with w|w<;>subst w<;>rfl);refine az ?_ (i:=ae6 (if a=0 then(O.cN.getD b default).low else(O.cN.getD b default).high) (by split;exact m.1;exact m.2));apply j<;>intro k
   .exact ae (w:=by
     have z:a=0\/a=1:=by omega
     rcases z with rfl|rfl;rw[ab rfl] at k⊢;rw[Br c h p.2 e (by rw[pW,ab k]) k];rfl;rw[Br c h p.2 e (by simp_all[pW,aa,ab]) k];rfl)
   refine aL ?_;exact aB (a+1) ⟨v,λw=>by grind,λw=>by grind⟩ (bo:=.r)
  have y:¬a<2:=by have:¬((a:Nat):Int)<((2:Nat):Int):=x;omega
  have o:=u.2.1 v;have t:=u.2.2 v;have l:=JM o t;refine az ?_ (i:=aau (O.cN.getD b default) l.2.1 l.2.2);refine az ?_ (D:=.bool<|l_<|ou<|O.cN.getD b default) (i:=by rw[<-aq6 l.1];exact Is (JN l.1).1);apply j<;>intro A
  .exact ae (w:=by rw[Br c h p.2 e (by rw[pW,aa λw=>w o,aa λw=>w t,ab A]) aj];rfl)
  refine aL ?_;exact aB (b+1) ⟨v,pE p.2 (by simp_all[pW,aa])⟩ (bo:=.r)
 exact ae (w:=by rw[jx,aa c,aa h,show O.cN.length=b by omega,p.2];rfl)
def mT(O:dH)(a:Int):Int:=if O.gx=false then(if 0<O.bD.length\/O.rest≠0 then 2 else 0)
 else if nm O.bD a (-1)≠0 then nm O.bD a (-1) else if O.rest< -1\/a<=O.rest then 9 else 0
def Sl(O:dH)(c:Int)(g:O.bD.length<=1000000):aA 68 [hD O,.int .i64 c] (.int .i64 (mT O c)):=by
 refine aX func68 [] λs h=>?_;apply j<;>intro l
 .refine dD ?_;apply j<;>intro k
  .exact ae (w:=by rw[mT,ab b,ab v];rfl)
  exact ae (w:=by rw[mT,ab b,aa v];rfl)
 refine az ?_ (i:=ae7 c g);apply j<;>intro a
 .exact ae (w:=by rw[mT,aa b,ab a];rfl)
 refine dD ?_;apply j<;>intro e
 .exact ae (w:=by rw[mT,aa b,aa a,ab e];rfl)
 exact ae (w:=by rw[mT,aa b,aa a,aa e];rfl)
def zF(F a:Int):aA 27 [.int .i64 F,.int .i64 a] (.bool !hI a F):=by refine aX func27 [] λs b=>?_;exact b2 (λ_=>rfl)<|ae (w:=by refine cW V.bool ?_;unfold hI<;>grind)
def T0(b:List gr)(l k:Int)(B:b.length<=1000000):aA 30 [.f 3 (b.map cS),.int .i64 l,.int .i64 k] (.int .i64 (nm b l k)):=by
 refine aX func30 [] λs t=>?_;apply j<;>intro u
 .exact ae (w:=by rw[nm,ab v];rfl)
 let g:¬30<b.length:=v;refine eH b.length (λa=>fB (ka b l k) a=0) (λa=>⟨[(0,_),(1,_),(2,_),(7,q a)],[],[]⟩) (λa p=>?_) rfl .r;apply j<;>intro x
 .let c:a<b.length:=v;refine aJ a (cS<|b.getD a default) ?_ (p:=cv c);refine az ?_ (i:=aox (b.getD a default).name);apply j<;>intro e
  .exact ae (w:=by rw[xa g p.2 c (by rw[ka,ab e]) e];rfl)
  refine c7 ?_;apply b2;refineλy=>gZ a (cS<|b.getD a default) ?_ (p:=cv c);refine g1 ?_;refine gZ (a-1) (cS<|b.getD (a-1) default) ?_ (p:=cv v);exact rfl;apply j<;>intro h
  .exact ae (w:=by rw[xa g p.2 c (by rw[ka,aa e,ab h]) aj];rfl)
  refine aJ a (cS<|b.getD a default) ?_ (p:=cv c);apply cs;refineλz=>gZ a (cS<|b.getD a default) ?_ (p:=cv c);exact rfl;apply j<;>intro m
  .exact ae (w:=by rw[xa g p.2 c (by rw[ka,aa e,aa h,ab m]) aj];rfl)
  refine aJ a (cS<|b.getD a default) ?_ (p:=cv c);apply b2;intro A;refine gZ a (cS<|b.getD a default) ?_ (p:=cv c);exact rfl;apply j<;>intro o
  .exact ae (w:=by rw[xa g p.2 c (by rw[ka,aa e,aa h,aa m,ab o]) aj];rfl)
  refine aL ?_;exact aB (a+1) ⟨v,pE p.2 (by simp_all[ka,aa])⟩ (bo:=.r)
 exact ae (w:=by rw[nm,aa g,show b.length=a by omega,p.2];rfl)
structure qa where
 xL:List UInt8->Int
 sK:List UInt8->ao
 sJ:List UInt8->Int
 amy:List UInt8->Int
 HU:ao->Int
 Dz:ao->a3
 em:a3->Bool
structure F0(A:qa):Prop where
 read:∀O:List UInt8,O.length<=1048576->aA 53 [.str O] (.tuple [bY (A.sK O),.int .i64 (A.amy O),.int .i64 (A.xL O)])
 least:∀O:List UInt8,O.length<=1048576->A.xL O=0->aA 54 [bY (A.sK O)] (.tuple [dW (A.Dz (A.sK O)),.int .i64 (A.HU (A.sK O))])
def ir(a:qa)(O:dH):Int:=if O.h0=false/\O.d_≠[] then 2 else if O.h0 then(if a.xL O.d_≠0 then a.xL O.d_ else a.HU (a.sK O.d_)) else 0
def gd(b:qa)(O:dH)(a:Int):Int:=if jx O≠0 then jx O else if ir b O≠0 then ir b O else if jt O a≠0 then jt O a else mT O a
def zE{c:qa}{O:dH}{b U:Int}(w:jx O=U)(a:U≠0):gd c O b=U:=by rw[gd,w,ab a]
def EI{a:qa}{O:dH}{g U:Int}(e:jx O=0)(w:ir a O=U)(c:U≠0):gd a O g=U:=by rw[gd,e,aa λb=>b rfl,w,ab c]
def BV{c:qa}{O:dH}{b U:Int}(g:jx O=0)(h:ir c O=0)(w:jt O b=U)(e:U≠0):gd c O b=U:=by rw[gd,g,aa λa=>a rfl,h,aa λa=>a rfl,w,ab e]
def v7{c:qa}{O:dH}{b:Int}(e:jx O=0)(g:ir c O=0)(w:jt O b=0):gd c O b=mT O b:=by rw[gd,e,aa λa=>a rfl,g,aa λa=>a rfl,w,aa λa=>a rfl]
theorem Et{a F:Int}(b:0<=a):¬F=-1/\hI a F↔F< -1\/a<=F:=by(simp[hI,m5,gV];omega)
def adL{c:Int}{b:List Int}(w:∀a,a<b.length->hI c (b.getD a default)=false):¬b.any (hI c):=λe=>by let⟨j,g,h⟩:=wk.1 e;obtain⟨a,i,rfl⟩:=kj.1 g<;>simp_all
def dH.gy(O:dH):Prop:=(∀a∈O.cN,a.gy)/\O.cN.length<=1000000/\O.d_.length<=1048576/\O.du.length<=1048576/\O.bD.length<=1000000
def aql(o:qa)(H:F0 o)(O:dH)(e:Int)(P:O.gy)(N:0<=e):aA 28 [hD O,.int .i64 e] (.int .i64 (gd o O e)):=by
 refine aX func28 [70,91] λs X=>?_;let⟨S,ay,J,aC,T⟩:=P;refine dD ?_;apply j<;>intro l
 .exact ae (w:=by rw[zE (U:=9) (by rw[jx,ab l]) aj];rfl)
 apply j<;>intro al
 .exact ae (w:=by rw[zE (U:=3) (by rw[jx,aa l,ab v]) aj];rfl)
 have x:¬20<O.cN.length:=v;refine eH O.cN.length (λa=>EQ O.cN a=0) (λa=>⟨[(1,_),(2,g 2),(5,q a)],[(2,_)],[]⟩) (λa p=>?_) rfl .r;apply j<;>intro am
 .have k:a<O.cN.length:=v;have B:=S _<|fG k;rw[<-Uu k] at B;refine aJ a (qq<|O.cN.getD a default) ?_ (p:=cv k);refine az ?_ (i:=R2 (O.cN.getD a default).low B.1);apply j<;>intro t
  .exact ae (w:=by rw[zE (Br l x p.2 k (by rw[pW,ab t]) t) t];rfl)
  refine aJ a (qq<|O.cN.getD a default) ?_ (p:=cv k);refine az ?_ (i:=R2 (O.cN.getD a default).high B.2);apply j<;>intro y
  .exact ae (w:=by rw[zE (Br l x p.2 k (by rw[pW,aa t,ab y]) y) y];rfl)
  have I:=JM (jZ t)<|jZ y;refine aJ a (qq<|O.cN.getD a default) ?_ (p:=cv k);refine az ?_ (i:=aqJ (O.cN.getD a default) I.1);refine az ?_ (i:=alI (ou<|O.cN.getD a default) 2 v<|aqF I.1);apply j<;>intro an
  .exact ae (w:=by rw[zE (U:=10) (Br l x p.2 k (by simp_all[pW,aa,ab]) aj) aj];rfl)
  refine aL ?_;exact aB (a+1) ⟨v,pE p.2 (by simp_all[pW,aa])⟩ (bo:=.r)
 have c:jx O=0:=by rw[jx,aa l,aa x,show O.cN.length=a by omega,p.2]
 refine fM ?_;apply j<;>intro ao
 .exact ae (w:=by rw[EI (U:=2) c (by simp_all[ir,ab]) aj];rfl)
 refine gK Unit (λR=>⟨[(1,.int .i64 e),(2,g 2)],[(2,.cell 66<|hD O)],[]⟩) (λ_=>ir o O=0) ?_ λR h=>?_
 .apply j<;>intro D
  .refine az ?_ (i:=H.read O.d_ J);apply j<;>intro z
   .exact ae (w:=by rw[EI (U:=o.xL O.d_) c (by simp_all[ir,aa,ab]) z];rfl)
   refine az ?_ (i:=H.least O.d_ J<|jZ z);apply j<;>intro L
   .exact ae (w:=by rw[EI (U:=o.HU<|o.sK O.d_) c (by rw[ir,aa b,ab D,aa λw=>w<|jZ z]) L];rfl)
   exact c3 () (by rw[ir,aa b,ab D,aa λw=>w<|jZ z];omega)
  exact c3 () (by simp_all[ir,aa])
 refine gK Unit (λQ=>⟨[(1,.int .i64 e),(2,g 2)],[(2,.cell 66<|hD O)],[]⟩) (λ_=>jt O e=0) ?_ λQ u=>?_
 .apply j<;>intro ap
  .refine dD ?_;refine dD ?_;refine dD ?_;apply j<;>intro Y
   .exact ae (w:=by rw[BV (U:=2) c h (by simp_all[jt,ab]) aj];rfl)
   exact c3 () (by simp_all[jt,ab,aa])
  apply j<;>intro Z
  .exact ae (w:=by rw[BV (U:=3) c h (by rw[jt,aa b,ab v]) aj];rfl)
  refine eH O.du.length (λF=>∀m,m<F->hI e (O.du.getD m default)=false) (λF=>⟨[(1,_),(2,g 2),(13,q F)],[(2,_)],[]⟩) (λF M=>?_) (λm E=>v) .r;apply j<;>intro ad
  .have G:F<O.du.length:=v;refine aJ F (eB<|O.du.getD F default) ?_ (p:=cv G);refine az ?_ (i:=zF (O.du.getD F default) e);apply j<;>intro ag
   .exact ae (w:=by rw[BV (U:=9) c h (by rw[jt,aa b,aa v,ab<|wk.2 ⟨_,fG G,b⟩]) aj];rfl)
   refine aL ?_;exact aB (F+1) ⟨v,λm E=>by grind⟩ (bo:=.r)
  have C:¬O.du.any (hI e):=adL λm E=>M.2 m v;apply b2;intro aq;refine bT ?_ (i:=zF O.item e);exact rfl;refine dD ?_;refine dD ?_;apply cs;intro av;apply b2;intro aw;refine dD ?_;exact rfl;exact rfl;apply j<;>intro ah
  .exact ae (w:=by rw[BV (U:=9) c h (by rw[jt,aa b,aa v,aa C,ab b]) aj];rfl)
  exact c3 () (by rw[jt,aa b,aa v,aa C,aa b])
 apply j<;>intro ai
 .refine dD ?_;apply j<;>intro ak
  .exact ae (w:=by rw[v7 c h u,mT,ab b,ab v];rfl)
  exact ae (w:=by rw[v7 c h u,mT,ab b,aa v];rfl)
 refine az ?_ (i:=T0 O.bD e (-1) T);apply j<;>intro A
 .exact ae (w:=by rw[v7 c h u,mT,aa b,ab A];rfl)
 apply b2;intro ax;refine bT ?_ (i:=zF O.rest e);exact rfl;apply j<;>intro K
 .exact ae (w:=by rw[v7 c h u,mT,aa b,aa A,ab<|(Et N).1 b];rfl)
 exact ae (w:=by rw[v7 c h u,mT,aa b,aa A,aa λW=>K (by grind[Et])];rfl)
instance:Inhabited dH:=⟨⟨false,0,[],false,[],false,[],0,0,0,false,[],0⟩⟩
structure fh where
 b_:List dH
 root:Int
def qp(O:fh):V:=.agg [.f 13 (O.b_.map hD),.int .i64 O.root]
def gu(b:qa)(O:fh):Int:=if O.b_.length=0 then 13 else if 60<O.b_.length then 3 else if hI O.b_.length O.root then 9
 else fB (λa=>gd b (O.b_.getD a default) O.b_.length) O.b_.length
def fh.gy(O:fh):Prop:=(∀a∈O.b_,a.gy)/\O.b_.length<=1000000
theorem Ho{a:List dH}(w:I<a.length):a.getD I default=a[I]:=b
def aop{e:qa}(u:F0 e)(O:fh)(x:O.gy):aA 12 [qp O] (.int .i64 (gu e O)):=by
 refine aX func12 [] λs y=>?_;apply j<;>intro B
 .exact ae (w:=by rw[gu,ab v];rfl)
 apply j<;>intro z
 .exact ae (w:=by rw[gu,aa v,ab v];rfl)
 refine az ?_ (D:=.bool !hI O.b_.length O.root) (i:=by simp[zF]);apply j<;>intro t
 .exact ae (w:=by rw[gu,aa v,aa v,ab b];rfl)
 let h:¬O.b_.length=0:=v;let k:¬60<O.b_.length:=v;let l:¬hI O.b_.length O.root:=by simpa using t
 refine eH O.b_.length (λa=>fB (λa=>gd e (O.b_.getD a default) O.b_.length) a=0) (λa=>⟨[(1,g 1),(3,q a)],[(1,_)],[]⟩) (λa p=>?_) rfl .r;apply j<;>intro A
 .let c:a<O.b_.length:=v;refine c7<|aJ a (hD<|O.b_.getD a default) ?_ (p:=cv c);refine bT ?_ (D:=.int .i64<|gd e (O.b_.getD a default) O.b_.length) (i:=by rw[aS];exact aql e u (O.b_.getD a default) O.b_.length (by rw[Ho c];exact x.1 _<|fG c) v);apply j<;>intro m
  .exact ae (w:=by rw[gu,aa h,aa k,aa l,ss p.2 m _ c];rfl)
  refine aL ?_;exact aB (a+1) ⟨v,pE p.2<|jZ m⟩ (bo:=.r)
 exact ae (w:=by
  let o:fB (λa=>gd e (O.b_.getD a default) O.b_.length) O.b_.length=0:=by
   let c:O.b_.length=a:=by omega
   have:=p.2;rw[<-c] at this;exact this
  rw[gu,aa h,aa k,aa l,o];rfl)
def ajs(a:qa)(b:F0 a)(O:List UInt8)(c:O.length<=1048576)(w:a.xL O=0):aA 58 [.str O] (dW (a.Dz (a.sK O))):=by refine aX func58 [] λs e=>?_;refine az ?_ (i:=b.read O c);refine az ?_ (i:=b.least O c w);exact cu aZ
def xv{b e:Type}{a:List b}{c:b->e}{M:b}(w:I<a.length):(a.map c)[I]?=some (c (a.getD I M)):=by simp_all
def fv(c:Nat->List Bool->Bool)(b:List Bool):Nat->List Bool|0=>b|a+1=>if(fv c b a).getD a true=false/\c a (fv c b a) then(fv c b a).set a true else fv c b a
def rj(b:List Bool):Nat:=b.countP λa=>!a
def tI(c:Nat->List Bool->Bool)(b:Nat):Nat->List Bool->List Bool|0,a=>a|F+1,a=>if fv c a b=a then a else tI c b F (fv c a b)
def vp(c:Nat->List Bool->Bool)(b:Nat)(a:List Bool):List Bool:=tI c b (rj a+1) a
theorem OI(c:Nat->List Bool->Bool)(b:List Bool):∀a,(fv c b a).length=b.length|0=>rfl|a+1=>by rw[fv];split<;>simp[OI c b a]
theorem SF:∀{a:List Bool}{b:Nat},a.getD b true=false->rj (a.set b true)+1=rj a|[],b,w=>bB|c::a,0,w=>by grind[rj]|c::a,b+1,w=>by grind[rj]
theorem Ec(c:Nat->List Bool->Bool)(a:List Bool):∀b,rj (fv c a b)<=rj a/\(fv c a b=a\/rj (fv c a b)<rj a)|0=>⟨a1 _,.inl rfl⟩|b+1=>by let⟨e,g⟩:=Ec c a b;grind[fv,SF]
theorem T6(e:Nat->List Bool->Bool)(c:Nat):∀(F b:Nat)(a:List Bool),rj a<F->rj a<b->tI e c F a=tI e c b a|0,_,_,w,_=>v|_,0,_,_,w=>v|F+1,b+1,a,g,h=>by rw[tI,tI];split;rfl;rename_i w;have:=(Ec e a c).2.resolve_left w;exact T6 e c F b _ v v
theorem ahn{b:Nat->List Bool->Bool}{a:List Bool}(w:fv b a I≠a):vp b I a=vp b I (fv b a I):=by have:=(Ec b a I).2.resolve_left w;unfold vp;rw[tI,aa w];grind[T6]
theorem aho{b:Nat->List Bool->Bool}{a:List Bool}(w:fv b a I=a):vp b I a=a:=by simp_all[vp,tI,ab]
def anb{sm:Nat->List Bool->Bool}{N:List Bool}{H:Nat}(w:(fv sm N H).getD H true=false)(a:sm H (fv sm N H)):fv sm N (H+1)=(fv sm N H).set H true/\fv sm N (H+1)≠N:=by
 let b:fv sm N (H+1)=(fv sm N H).set H true:=by rw[fv,ab ⟨w,a⟩]
 grind[SF,Ec]
structure a3.ok(E:a3):Prop where
 pos:0<E.next.length
 len:E.next.length<=300
 acc:E.acc.length=E.next.length
 n:∀H,H<E.next.length->(E.next.getD H []).length=256
 start:E.start<E.next.length
 dst:∀H W,H<E.next.length->W<256->(E.next.getD H []).getD W 0<E.next.length
def a3.step(a:a3)(c:Nat)(b:UInt8):Nat:=(a.next.getD c []).getD b.toNat 0
def a3.run(a:a3)(b:Nat)(O:List UInt8):Nat:=O.foldl a.step b
def a3.has(a:a3)(O:List UInt8):Bool:=a.acc.getD (a.run a.start O) false
def a3.aq2{a:a3}(w:a.ok)(c:I<a.next.length)(b:UInt8):a.step I b<a.next.length:=w.dst I _ c b.toNat_lt
def a3.EB{a:a3}(w:a.ok):∀(O:List UInt8)(c:Nat),c<a.next.length->a.run c O<a.next.length|[],_,b=>b|e::O,c,b=>a3.EB w O _<|a.aq2 w b e
def a3.ZH(a:a3)(c:Nat)(O:List UInt8)(b:UInt8):a.run c (O++[b])=a.step (a.run c O) b:=by simp[a3.run,Km]
def aaP{O:List UInt8}(w:I<O.length):O.take (I+1)=O.take I++[O.getD I 0]:=by simp_all
def Ip{a:List Nat}(w:I<a.length):(a.map λb=>V.int .i64 (b:Nat))[I]?=some (.int .i64 ((a.getD I 0:Nat):Int)):=xv w
def apI(b:a3)(c:b.ok)(i:I<b.next.length)(O:List UInt8)(bo:O.length<=100000000):aA 90 [dW b,q I,.str O] (q (b.run I O)):=by
 refine aX func90 [] λs k=>?_;refine dL O.length (λa=>⟨[(1,q<|b.run I<|O.take a),(2,_),(3,g 3),(7,q a)],[(3,_)],[]⟩) (λa p=>?_) .r;apply j<;>intro m
 .let h:a<O.length:=v;let e:=a3.EB c (O.take a) I i;let o:=c.n _ e;let l:(O.getD a 0).toNat<256:=(O.getD a 0).toNat_lt;refine c7<|aJ (b.run I<|O.take a) (bl<|b.next.getD (b.run I<|O.take a) []) ?_ (p:=xv e);refine lw a (O.getD a 0) (p:=vx h)<|aJ (O.getD a 0).toNat (.int .i64 ((b.step (b.run I<|O.take a) (O.getD a 0):Nat):Int)) ?_ (p:=Ip v);exact aL<|aB (a+1) (bo:=⟨⟨(by rw[aaP h,a3.ZH];rfl),rfl,rfl,rfl,trivial⟩,⟨rfl,trivial⟩,rfl,rfl⟩)
 obtain rfl:a=O.length:=v;rw[gq];exact ae
def adp(b:a3)(c:b.ok)(O:List UInt8)(bo:O.length<=100000000):aA 135 [dW b,.str O] (q (b.run b.start O)):=by
 refine aX func135 [] λs i=>?_;refine dL O.length (λa=>⟨[(1,_),(2,g 2),(5,q<|b.run b.start<|O.take a),(10,_),(11,q a)],[(2,_)],[]⟩) (λa p=>?_) .r;apply j<;>intro l
 .let h:a<O.length:=v;let e:=a3.EB c (O.take a) b.start c.start;let m:=c.n _ e;let k:(O.getD a 0).toNat<256:=(O.getD a 0).toNat_lt;refine c7<|aJ (b.run b.start<|O.take a) (bl<|b.next.getD (b.run b.start<|O.take a) []) ?_ (p:=xv e);refine lw a (O.getD a 0) (p:=vx h)<|aJ (O.getD a 0).toNat (.int .i64 ((b.step (b.run b.start<|O.take a) (O.getD a 0):Nat):Int)) ?_ (p:=Ip v);exact aL<|aB (a+1) (bo:=⟨⟨rfl,rfl,(by rw[aaP h,a3.ZH];rfl),rfl,rfl,trivial⟩,⟨rfl,trivial⟩,rfl,rfl⟩)
 obtain rfl:a=O.length:=v;rw[gq];exact ae
def aoy(b:a3)(h:b.ok):aA 89 [dW b] (.int .i64 0):=by
 refine aX func89 [] λs o=>?_;let t:=h.acc;let G:=h.start;let F:=h.len;apply j<;>intro C
 .omega
 refine dD ?_;apply j<;>intro u
 .omega
 refine dL b.next.length (λe=>⟨[(1,g 1),(3,q e)],[(1,_)],[]⟩) (λe p=>?_) .r;apply j<;>intro w
 .let l:e<b.next.length:=v;let m:=h.n e l;refine aJ e (bl<|b.next.getD e []) ?_ (p:=xv l);apply j<;>intro x
  .omega
  refine aL ?_;exact aB (e+1) (bo:=.r)
 refine dD ?_;apply j<;>intro y
 .omega
 refine dL b.next.length (λa=>⟨[(1,g 1),(4,q a)],[(1,_)],[]⟩) (λa E=>?_) .r;apply j<;>intro z
 .let i:a<b.next.length:=v;let m:=h.n a i;refine dL 256 (λc=>⟨[(1,g 1),(4,_),(5,q c)],[(1,_)],[]⟩) (λc k=>?_) .r;apply j<;>intro A
  .let k:c<256:=v;let H:=h.dst a c i k;refine c7 ?_;refine aJ a (bl<|b.next.getD a []) ?_ (p:=xv i);refine aJ c (.int .i64 (((b.next.getD a []).getD c 0:Nat):Int)) ?_ (p:=Ip v);apply cs;intro D;refine gZ a (bl<|b.next.getD a []) ?_ (p:=xv i);refine gZ c (.int .i64 (((b.next.getD a []).getD c 0:Nat):Int)) ?_ (p:=Ip v);exact rfl;apply j<;>intro B
   .omega
   refine aL ?_;exact aB (c+1) (bo:=.r)
  refine aL ?_;exact aB (a+1) (bo:=.r)
 exact ae
def aor(a:a3)(c:a.ok)(O:List UInt8)(e:O.length<=100000000):aA 57 [dW a,.str O] (.tuple [.bool (a.has O),.int .i64 0]):=by
 refine aX func57 [] λs g=>?_;let l:=a3.EB c O _ c.start;let h:=c.acc;refine az ?_ (i:=aoy a c);apply j<;>intro k
 .omega
 refine c7<|bT (i:=apI a c c.start O e)<|aJ (a.run a.start O) (aW<|a.acc.getD (a.run a.start O) false) ?_ (p:=b);exact ae
section
def J5(b:a3):Nat->List (List UInt8)
|0=>List.replicate b.next.length []|a+1=>if(c8 b<|(bX b<|a/256).getD (a/256) 0).getD (a%256) 0∈jR b (a/256) (a%256) then J5 b a
 else(J5 b a).set ((c8 b<|(bX b<|a/256).getD (a/256) 0).getD (a%256) 0) ((J5 b a).getD ((bX b<|a/256).getD (a/256) 0) []++[UInt8.ofNat (a%256)])
def PV(a:a3)(c b:Nat):List (List UInt8):=J5 a<|256*c+b
def mF(a:a3):Bool:=!(bX a a.next.length).any (fT a)
def y5(a:a3):Nat:=(bX a a.next.length).findIdx<|fT a
def EH(a:a3):List UInt8:=if y5 a<(bX a a.next.length).length then(PV a (y5 a) 0).getD ((bX a a.next.length).getD (y5 a) 0) [] else[]
def WQ{a:a3}(w:fH a)(b:I<(bX a I).length):(bX a a.next.length).getD I 0=(bX a I).getD I 0/\I<(bX a a.next.length).length:=by
 let c:=pH (tV a I)<|mP w I;let e:(bX a a.next.length)[I]?=some ((bX a I).getD I 0):=by refine vT (lU<|show I<=a.next.length by omega) ?_;show(bX a I)[I]?=_;rw[cg,bw b];rfl
 grind
def aqj{E:a3}(w:fH E){H:Nat}(c:H<(bX E H).length)(j:∀a,a<H->fT E ((bX E E.next.length).getD a 0)=false)(g:fT E ((bX E H).getD H 0)):EH E=(PV E H 0).getD ((bX E H).getD H 0) []/\mF E=false:=by
 let⟨e,b⟩:=WQ w c;have h:y5 E=H:=by unfold y5;rw[List.findIdx_eq b];refine⟨?_,λa i=>?_⟩;simp_all;grind
 refine⟨by simp_all[EH,ab],?_⟩;grind[mF,Bool.not_eq_false',List.any_eq_true,bZ]
def aqk{E:a3}(i:∀a,a<(bX E E.next.length).length->fT E ((bX E E.next.length).getD a 0)=false):EH E=[]/\mF E:=by
 let g:∀b∈bX E E.next.length,fT E b=false:=λb c=>by obtain⟨a,h,rfl⟩:=kj.1 c<;>simp_all
 let e:¬y5 E<(bX E E.next.length).length:=λt=>by grind[y5,List.findIdx_lt_length]
 simp_all[EH,aa,mF,Fm,abT]
def a3.ok.wf{a:a3}(w:a.ok):fH a:=⟨by have:=w.len;omega,w.acc,w.n,w.start,w.dst⟩
theorem akN{a:a3}{b:Nat}(w:(bX a I).length<=I)(c:I<=b):bX a b=bX a I:=py w c
attribute [local irreducible] PV jR bX c8 g_ fT EH mF
end
section
attribute [local irreducible] dR fE ec
theorem UM(a F:Nat):(g_ a (List.range F)).set F true=g_ a (List.range (F+1)):=by rw[Hz λw=>absurd (fq.1 w) v,r0];congr 1;exact aa λw=>absurd (fq.1 w) v
theorem MG{F a:Nat}(w:a<I):((g_ I (List.range F)).map aW)[a]?=some (aW (decide (a<F))):=by simp_all[ch,Dk,aW,mu,fq]
def Ai(c b:List Nat)(e F:Nat):Prop:=c.length=e/\b.length=e/\(∀a,0<a->a<F->c.getD a 0<a)/\∀a,b.getD a 0<256
def Ai.new{b a:List Nat}{F e c:Nat}(w:Ai b a I F)(m:e<F)(l:c<256):Ai (b.set F e) (a.set F c) I (F+1):=by let⟨h,i,j,k⟩:=w;refine⟨aK,aK,λg p o=>?_,λg=>?_⟩;grind;grind[ahR]
def BU(a:a3)(F:Nat):(zC a).cells[256+F]?=[V.f 1 ((ec a).map q),V.f 1 (ll a (fE a)),V.f 1 (kI a (fE a))][F]?:=jp ax _ _ _ F
def ac6{a:a3}(w:I<fE a):(ll a (fE a))[I]?=some (aW (fT a (qI a I))):=by unfold ll;rw[ch,wo w];rfl
def apL{a:a3}{t:Nat}(w:t<(ec a).length):((BS a I).map q)[t]?=some (q (mS a I t)):=by unfold BS fY<;>simp_all
attribute [local irreducible] ll kI BS
def aqn(E:a3)(e:fH E)(l:E.next.length<=300):kO a4 fZ 173 [g 6000] [] [(6000,.cell 259 (zC E))] (λ_:List UInt8=>True) (λA=>.tuple [.str A,.bool !mF E]) (λ_=>[]) (λ_=>[(6000,.cell 259<|zC E)]):=by
 refine kO.of_wp (z:=gT) [2001] eW aZ gE ⟨func173,ax,rfl⟩ rfl rfl rfl λbe s ad av=>?_;have aI:j2 a4 gT s fZ _ [2001]:=⟨eW,aZ,ad,gE,av⟩;have y:=ZM E<|fE E;have bc:=ak1 e l;have a8:((ec E).map q).length=(ec E).length:=aS ..;have al:=akr E;have aU:=Un E;have bb:=NQ e l 0;have an:=λH=>aqj (E:=E) e (H:=H);have ao:=aqk (E:=E);refine cP ?_;refine ay.dI 1019 1 3 [] none ?_;refine ay.dI 1025 1 3 [] none ?_;refine dC ?_;refine a_ (λ_=>ga (.f 1<|kI E<|fE E) rfl (dc:=BU E 2)) ?_;refine abw 1019 19 (fE E) ((List.replicate (fE E) 0).map q) ?_ (p:=cW Nat.cast y) (jM:=cW Nat.cast y) (aG:=uP);refine a_ (λ_=>ga (.f 1<|kI E<|fE E) rfl (dc:=BU E 2)) ?_;refine abw 1025 25 (fE E) ((List.replicate (fE E) 0).map q) ?_ (p:=cW Nat.cast y) (jM:=cW Nat.cast y) (aG:=uP);refine fm ?_;refine ga (.f 1<|kI E<|fE E) ?_ (dc:=BU E 2);refine ja (fE E) (fE E) ((g_ (fE E)<|List.range 0).map aW) ?_ (p:=cW Nat.cast y) (jM:=cW Nat.cast y) (aG:=by rw[show List.range 0=[] from rfl,MF,yb];rfl);refine cz 0 ?_ (p:=v);refine fl ((g_ (fE E)<|List.range 1).map aW) (aW false) (aW true) ?_ (p:=by grind[MG]) (aG:=by rw[<-UM,gN]);refine og ?_;refine cQ (Nat×List Nat×List Nat) (λc=>⟨[(0,g 6000),(4,.d 19 0<|fE E),(5,.d 25 0<|fE E),(6,.d 31 0<|fE E),(7,.d 34 0 ((List.range<|dR E c.1 0).map q).length),(8,q c.1)],[(19,.n 1 3<|c.2.1.map q),(25,.n 1 3<|c.2.2.map q),(31,.n 1 4<|(g_ (fE E)<|List.range<|dR E c.1 0).map aW),(34,.n 1 3<|(List.range<|dR E c.1 0).map q),(6000,.cell 259<|zC E)],[]⟩) (λc=>Ai c.2.1 c.2.2 (fE E) (dR E c.1 0)/\c.1<=dR E c.1 0/\∀h,h<c.1->fT E ((bX E E.next.length).getD h 0)=false) (λc=>fE E-c.1) (0,List.replicate (fE E) 0,List.replicate (fE E) 0) (λ⟨H,D,r⟩ ap=>?_) ⟨⟨af,af,λaA aD aE=>b,λaA=>aM⟩,c1 _,λh jM=>absurd jM<|uO h⟩ ⟨⟨ax,ax,ax,ax,(by dsimp only;rw[al];rfl),ax,trivial⟩,⟨bL,bL,bL,bL,bL,trivial⟩,rfl,rfl⟩;apply j<;>intro S
 .simp only[aS,gM] at S;let⟨B,N,C⟩:=ap;dsimp only at B N C;have am:((List.range (dR E H 0)).map q).length=dR E H 0:=by rw[aS,gM]
  have m:H<dR E H 0:=v;have ba:=NQ e l H;let⟨aR,aT,ag,ah⟩:=id B;have X:H<(bX E H).length:=by rw[<-WA e l];exact m
  refine cz H ?_ (p:=aK);refine ft (q H) ?_ (p:=b);refine ga (.f 1<|ll E<|fE E) ?_ (dc:=BU E 1);refine aJ H (aW<|fT E<|qI E H) ?_ (p:=ac6 v);apply j<;>intro ae
  .have L:mF E=false:=(an H X C (by grind[XE])).2;rw[L];refine ay.dI 10 1 5 [10] none ?_;refine cQ (Nat×List UInt8) (λa=>⟨[(4,.d 19 0<|fE E),(5,.d 25 0<|fE E),(9,q a.1),(10,.d 10 0 (a.2.map bh).length)],[(10,.n 1 5<|a.2.map bh),(19,.n 1 3<|D.map q),(25,.n 1 3<|r.map q),(31,.n 1 4<|(g_ (fE E)<|List.range<|dR E H 0).map aW),(34,.n 1 3<|(List.range<|dR E H 0).map q),(6000,.cell 259<|zC E)],[]⟩) (λa=>a.1<dR E H 0/\a.2.length+a.1<=H) (λa=>a.1) (H,[]) (λ⟨O,A⟩ aG=>?_) ⟨m,af⟩;apply j<;>intro aO
   .let⟨I,P⟩:=aG;dsimp only at I P;have bd:O≠0:=λaC=>v;have aj:=ag O v I;have a0:=ah O;refine cz O ?_ (p:=v);refine ft (q<|r.getD O 0) ?_ (p:=dg v);refine k4 (((UInt8.ofNat<|r.getD O 0).toNat:Nat):Int) ?_ (av:=by rw[rN a0]) (qA:=by grind[rN,A1]);refine dv ?_;refine eR ((A++[UInt8.ofNat (r.getD O 0)]).map bh) ?_ (aG:=p3) (bq:=aK);refine cz O ?_ (p:=v);refine ft (q<|D.getD O 0) ?_ (p:=dg v);exact aB (D.getD O 0,A++[UInt8.ofNat (r.getD O 0)]) ⟨v,p2⟩ aj
   let⟨I,P⟩:=aG;dsimp only at I P;refine hQ [(6001,10)] (λ_=>[]) [] (λR aq=>?_) (i:=ape A v) (vC:=x9 _) (vB:=λ_ _=>x9 _);have aw:(A.map bh).length=R.length:=by rw[aS];exact aq.symm
   refine Bl R ?_ (hlen:=aw) (a0:=by grind[List.take_of_length_le]);exact n7 R trivial
  have aN:fT E ((bX E E.next.length).getD H 0)=false:=by rw[(WQ e X).1,<-XE e l];simpa using ae
  have ak:∀h,h<H+1->fT E ((bX E E.next.length).getD h 0)=false:=λh jM=>by grind
  refine ga (.f 1<|(ec E).map q) ?_ (dc:=BU E 0);refine cQ (Nat×List Nat×List Nat) (λa=>⟨[(0,g 6000),(4,.d 19 0<|fE E),(5,.d 25 0<|fE E),(6,.d 31 0<|fE E),(7,.d 34 0 ((List.range<|dR E H a.1).map q).length),(8,q H),(9,q H),(73,.f 1<|(ec E).map q),(74,q ((ec E).map q).length),(75,q a.1)],[(19,.n 1 3<|a.2.1.map q),(25,.n 1 3<|a.2.2.map q),(31,.n 1 4<|(g_ (fE E)<|List.range<|dR E H a.1).map aW),(34,.n 1 3<|(List.range<|dR E H a.1).map q),(6000,.cell 259<|zC E)],[]⟩) (λa=>Ai a.2.1 a.2.2 (fE E) (dR E H a.1)/\a.1<=(ec E).length/\dR E H 0<=dR E H a.1) (λa=>(ec E).length-a.1) (0,D,r) (λ⟨t,u,o⟩ aG=>?_) ⟨B,c1 _,a1 _⟩;apply j<;>intro T
  .try simp only[aS] at T
   let⟨x,K,G⟩:=aG;dsimp only at x K G;have F:t<(ec E).length:=v;have Y:=aks m F;have aH:=Wz e l m<|t+1;have aF:=Wz e l m t;let⟨aV,aX,aY,a2⟩:=id x;obtain⟨k,Q⟩:∃k,(ec E).getD t 0=k:=⟨_,rfl⟩;have a0:k<256:=by rw[<-Q];exact Mz<|bZ F
   have ai:((ec E).map q)[t]?=some (q k):=by rw[dg F,Q]
   refine aJ t (q k) ?_ (p:=ai);refine ga (.f 1<|kI E<|fE E) ?_ (dc:=BU E 2);refine aJ H (bl<|BS E H) ?_ (p:=(by grind[kI,List.getElem?_range]));refine aJ t (q<|mS E H t) ?_ (p:=apL F);refine cz (mS E H t) ?_ (p:=v);refine ft (aW<|decide (mS E H t<dR E H t)) ?_ (p:=MG v);apply j<;>intro U
   .have W:¬mS E H t<dR E H t:=by simpa using U
    obtain⟨Z,J⟩:mS E H t=dR E H t/\dR E H (t+1)=dR E H t+1:=Y.resolve_right λw=>W w.1;rw[Z];refine cz (dR E H t) ?_ (p:=v);refine fl ((g_ (fE E)<|List.range<|dR E H<|t+1).map aW) (aW false) (aW true) ?_ (p:=by rw[MG v,FK<|tc _]) (aG:=by grind[UM,List.map_set]);refine cz (dR E H t) ?_ (p:=v);refine fl ((u.set (dR E H t) H).map q) (q<|u.getD (dR E H t) 0) (q H) ?_ (p:=dg v) (aG:=List.map_set.symm);refine cz (dR E H t) ?_ (p:=v);refine fl ((o.set (dR E H t) k).map q) (q<|o.getD (dR E H t) 0) (q k) ?_ (p:=dg v) (aG:=List.map_set.symm);refine dv ?_ (hlen:=λM a6=>by rw[cV.1 a6];rfl);refine eR ((List.range<|dR E H<|t+1).map q) ?_ (fC:=.f rfl rfl rfl rfl λM a6=>by rw[cV.1 a6];rfl) (aG:=by grind[List.range_succ]) (bq:=aK);refine aL ?_;exact aB (t+1,u.set (dR E H t) H,o.set (dR E H t) k) ⟨by dsimp only;rw[J];exact x.new v a0,v,aK⟩ v
   have W:mS E H t<dR E H t:=by simpa using U
   have J:dR E H (t+1)=dR E H t:=(Y.resolve_left λw=>v).2;rw[<-J];refine aL ?_;exact aB (t+1,u,o) ⟨b,v,aK⟩ v
  try simp only[aS] at T
  let⟨x,K,G⟩:=aG;dsimp only at x K G;obtain rfl:t=(ec E).length:=v;rw[NP m];have az:Ai u o (fE E) (dR E (H+1) 0):=by rw[<-NP m];exact x
  have a5:=NP m;refine aL ?_;exact aB (H+1,u,o) ⟨az,aK,ak⟩ v
 simp only[aS,gM] at S;let⟨B,N,C⟩:=ap;dsimp only at B N C;have am:((List.range (dR E H 0)).map q).length=dR E H 0:=by rw[aS,gM]
 have aP:dR E H 0<=H:=v;have G:=WA e l H;have a9:=pH (tV E H)<|mP e H;have L:mF E:=(ao λh jM=>C h (by grind[bX,akN])).2;rw[L];exact n7 [] trivial
end
def X0{a:Nat}(w:I<a):hI (a:Int) (I:Int)=false:=by unfold hI;simp only[abR,r3];omega
def Sa(F a:Int):aA 228 [.int .i64 F,.ref 1 [.int .i64 a] 0 0] (.bool (hI a F)):=by refine aX func228 [] λs b=>?_;refine dD ?_;exact ae
def aeO(b:List Nat)(c:Nat)(o:b.length<=1000000)(w:∀k∈b,k<c):aA 174 [.f 1 (b.map q),.func (.func 228) [] [.ref 1 [q c] 0 0]] (.int .i64 (-1)):=by
 refine aX func174 [] λs l=>?_;refine dL b.length (λa=>⟨[(0,_),(1,_),(7,_),(8,q a)],[],[]⟩) (λa p=>?_) .r;apply j<;>intro m
 .let g:a<b.length:=v;let h:=w _<|bZ (M:=0) g;refine aJ a (q<|b.getD a 0) ?_ (p:=dg g);refine az ?_ (i:=Sa ((b.getD a 0:Nat):Int) (c:Int));apply j<;>intro e
  .exfalso;rw[X0 h] at e;exact Bool.noConfusion e
  refine aL ?_;exact aB (a+1) (bo:=.r)
 exact ae
def aeM(a:List Nat)(b:Nat)(c:a.length<=1000000)(w:∀e∈a,e<b):aA 110 [.f 1 (a.map q),.func (.func 228) [] [.ref 1 [q b] 0 0]] (.bool false):=by refine aX func110 [] λs g=>?_;refine az ?_ (i:=aeO a b c w);exact ae
def aeL(a:List Nat)(b:Nat)(c:a.length<=1000000)(w:∀e∈a,e<b):aA 230 [bl a,.ref 1 [.func (.func 228) [] [.ref 1 [q b] 0 0]] 0 0] (.bool false):=by refine aX func230 [] λs g=>?_;refine az ?_ (i:=aeM a b c w);exact ae
def aeP(b:List (List Nat))(c:Nat)(u:b.length<=1000000)(w:∀g∈b,g.length<=1000000/\∀m∈g,m<c):aA 280 [.f 1 (b.map bl),.func (.func 230) [] [.ref 1 [.func (.func 228) [] [.ref 1 [q c] 0 0]] 0 0]] (.int .i64 (-1)):=by
 refine aX func280 [] λs o=>?_;refine dL b.length (λa=>⟨[(0,_),(1,_),(7,_),(8,q a)],[],[]⟩) (λa p=>?_) .r;apply j<;>intro t
 .let e:a<b.length:=v;let⟨h,k⟩:=w _<|bZ (M:=[]) e;refine aJ a (bl<|b.getD a []) ?_ (p:=xb e);refine az ?_ (i:=aeL (b.getD a []) c h k);apply j<;>intro l
  .cases l
  refine aL ?_;exact aB (a+1) (bo:=.r)
 exact ae
def aeN(a:List (List Nat))(b:Nat)(e:a.length<=1000000)(w:∀c∈a,c.length<=1000000/\∀g∈c,g<b):aA 229 [.f 1 (a.map bl),.func (.func 230) [] [.ref 1 [.func (.func 228) [] [.ref 1 [q b] 0 0]] 0 0]] (.bool false):=by refine aX func229 [] λs h=>?_;refine az ?_ (i:=aeP a b e w);exact ae
def ae5(a:a3)(c:fH a)(B:a.next.length<=300):aA 171 [dW a] (.int .i64 0):=by
 refine aX func171 [2012,2013] λs C=>?_;let D:=c.acc;let y:=c.start;let o:(a.next.map bl).length=a.next.length:=aS ..;let E:(a.acc.map aW).length=a.acc.length:=aS ..;let w:∀k∈a.next,k.length<=1000000/\∀l∈k,l<a.next.length:=λk t=>by
  obtain⟨h,e,rfl⟩:=kj.1 t;let u:a.next[h]=a.next.getD h []:=by rw[cg,bw e];rfl
  rw[u];let A:=c.n h e;exact⟨v,λl z=>PJ c e l z⟩
 apply j<;>intro F
 .exfalso;omega
 refine dD ?_;apply j<;>intro G
 .exfalso;omega
 refine dL a.next.length (λb=>⟨[(1,g 1),(3,g 3),(24,_),(25,_),(26,q b)],[(1,.cell 131<|dW a),(3,.cell 3<|q (a.next.map bl).length)],[]⟩) (λb p=>?_) .r;apply j<;>intro H
 .let m:b<a.next.length:=v;let t:=c.n b m;let K:((a.next.getD b []).map q).length=(a.next.getD b []).length:=aS ..;refine aJ b (bl<|a.next.getD b []) ?_ (p:=xb m);apply j<;>intro I
  .exfalso;omega
  refine aL ?_;exact aB (b+1) (bo:=.r)
 refine ay.tJ 3 1 ?_;refine cP ?_;refine ay.tJ 6 1 ?_;refine cP ?_;refine az ?_ (i:=Sa ((a.start:Nat):Int) (((a.next.map bl).length:Nat):Int));rw[X0 (by rw[o];exact y)];apply cs;intro J;refine hR ?_ (i:=aeN a.next (a.next.map bl).length v (by rw[o];exact w));exact rfl;apply j<;>intro x
 .exfalso;simp at x
 exact ae
def amB{a:a3}(c:fH a)(b:a.next.length<=300):aA 108 [dW a] (.tuple [.bool (mF a),.int .i64 0]):=by refine aX func108 [] λs e=>?_;refine az ?_ (i:=ae5 a c b);refine kN.mk nofun λ_=>?_;refine bk [(6,14)] ?_ (i:=anR a c b);refine hQ [(6000,14)] (λ_=>[]) [] (λh g=>?_) (i:=aqn a c b) (vC:=x9 _) (vB:=λ_ _=>x9 _);exact ae (w:=by rw[Bool.not_not];rfl)
def Ac(b:aC->aC×bf):Prop:=∀a,nT a->nT (b a).1
def Vk{b:aC->aC×bf}(c:Ac b):∀(F:Nat)(a:aC)(P:bf),nT a->nT (iD b F a P).1|0,_,_,w=>w|F+1,a,P,w=>Vk c F _ _<|c a w
theorem XV{b:aC->aC×bf}(c:Ac b):∀(F:Nat)(a:aC)(P:bf),nT a->nT (mV b F a P).1|0,_,_,w=>w|F+1,a,P,w=>XV c F _ _<|c a w
theorem Q7:∀(b:List ao)(a:aC)(P:bf),(∀c∈b,Ac (cB c))->nT a->nT (mz b a P).1|[],_,_,_,w=>bB|c::b,a,P,e,w=>by exact Q7 b _ _ (λh g=>e h<|ki _ g)<|e c (ji ..) a w
theorem Rb:∀(b:List ao)(a:aC)(P:bf),(∀c∈b,Ac (cB c))->nT a->nT (nV b a P).1|[],_,_,_,w=>bB|c::b,a,P,e,w=>by exact Rb b _ _ (λh g=>e h<|ki _ g)<|e c (ji ..) a w
theorem ao7{c:aC->aC×bf}(e:Ac c)(b g:Int)(a:aC)(w:nT a):nT (nA c b g a).1:=by unfold nA;let h:=Vk e b.toNat a ⟨[],[],true,false⟩ w;split;exact e _ h;grind[XV]
def adk:∀a:ao,dx a->Ac (cB a):=ao.ind λa h he l w=>by
 let⟨⟨m,o,p,q,i,_⟩,e⟩:=nw.1 he;let⟨F,O,j,k,b⟩:=a;dsimp[ao.aq,ao.set] at i e h;rw[cB];split;exact w;split;intro c g;rcases ee.1 g with t|t;exact w c t;grind;split;grind[Q7];split;grind[Rb];split;cases b with|nil=>trivial|cons c b=>grind[tn,ao7,List.mem_cons_self]
 omega
def ahW{a:ao}(b:dx a):nT (cT a):=adk a b _ λO c=>absurd c h2
def uC(b:aC)(a c:Nat):List Nat:=(List.range c).filter λe=>hq (b.ai.getD e []) (a:Int)
def abl{b:aC}(e:I<=2000)(a:Nat):ef (uC b a I):=⟨HF List.pairwise_lt_range,λg c=>by have:=fq.1 (j1.1 c).1;omega⟩
def asp{a:aC}{b:Nat}(w:¬hq (a.ai.getD b []) (I:Int)):uC a I (b+1)=uC a I b:=by unfold uC;grind[List.range_succ,List.filter_cons_of_neg]
def asq{b:aC}{a:Nat}(c:a<2000)(w:hq (b.ai.getD a []) (I:Int)):c0 (uC b I a) [a]=uC b I (a+1):=by refine M1 (ef.un (abl v I)<|ef.one c).1 (abl v I).1 λe=>?_;rw[mO];unfold uC;grind
def ahe(c:List cy):Ct 1 (c.map y4) ((cZ c).map bl):=by refine⟨by simp[cZ,aS],λg h i e b=>?_⟩;unfold cZ at b;rw[ez,ch] at b;rw[ch] at e;cases w:c[g]? with|none=>simp_all|some a=>rw[w] at e b;cases lN e;cases lN b;show bl a.l=y4 a\/y4 a=.aQ/\bl a.l=.f 1 [];unfold y4;by_cases t:a.l=[];rw[ab t,t];exact .inr ⟨rfl,rfl⟩;rw[aa t];exact .inl rfl
def xF:aO:=⟨[],[],[],[],[]⟩
theorem alu:xF.b8<=10000000:=aj
def b1(b:List UInt8)(a:Nat)(c:UInt8):Bool:=decide ((a:Int)<b.length)&&decide (((b.getD a 0).toNat:Int)=c.toNat)
def ik(b:List UInt8)(a:Nat):Bool:=decide ((a:Int)<b.length)&&decide (32<=((b.getD a 0).toNat:Int))&&decide (((b.getD a 0).toNat:Int)<=126)
def eX(O:List UInt8)(a:UInt8):Bool:=O.any λt=>decide ((t.toNat:Int)=a.toNat)
def Uv{O:List UInt8}(w:I<O.length):O.getD I 0=O[I]:=by rw[cg,bw w];rfl
def Ru(a b:Bool):eg true a b=.bool (a&&b):=by cases a<;>rfl
theorem Rt(a b:Bool):eg false a b=.bool (a||b):=by cases a<;>rfl
def F4(b:List UInt8)(a:Q):Prop:=a.C<=100000/\b.length<=2000
def n9(b:List UInt8)(a:Q)(c:UInt8)(w:F4 b a):aA 125 [.ref 4 [ce b a] 0 0,bh c] (.bool (b1 b a.C c)):=by refine aX func125 [] λs h=>?_;let⟨e,g⟩:=w;refine c7 ?_;apply b2;intro i;refine mQ a.C ?_;exact rfl;exact ae (w:=by rw[cO,Ru];rfl)
def o8(h:List UInt8)(e:Q)(a c:Int):cK 84 [g 6000,.int .i64 a,.int .i64 c] [(6000,.cell 166 (ce h e))] (.tuple []) [(6000,.cell 166 (ce h (bE e a c)))]:=by
 refine cX func84 [] λk s i=>?_;apply j<;>intro b
 .rw[bE,ab b];exact cH
 rw[bE,aa b];exact cH
def OV(b:List UInt8)(a:Q)(w:F4 b a):aA 281 [.ref 4 [ce b a] 0 0] (.bool (ik b a.C)):=by refine aX func281 [] λs g=>?_;let⟨c,e⟩:=w;refine c7 ?_;apply b2;intro h;refine mQ a.C ?_;exact rfl;apply b2;intro i;refine mQ a.C ?_;exact rfl;exact ae (w:=by rw[cO,Ru];rfl)
def zs(O:List UInt8){b:UInt8}(bo:O.length<=100000):aA 285 [.str O,bh b] (.bool (eX O b)):=by
 refine aX func285 [] λs g=>?_;refine eH O.length (λa=>eX O b=eX (O.drop a) b) (λa=>⟨[(0,_),(1,_),(5,q a)],[],[]⟩) (λa p=>?_) rfl .r;apply j<;>intro h
 .let c:a<O.length:=v;refine lw a (O.getD a 0) ?_ (p:=vx c);apply j<;>intro e
  .exact ae (w:=by rw[p.2,iO c,eX,uH,<-Uv c,show decide (((O.getD a 0).toNat:Int)=b.toNat)=true by simpa using e];rfl)
  refine aL ?_;exact aB (a+1) ⟨v,by rw[p.2,iO c,eX,uH,<-Uv c,show decide (((O.getD a 0).toNat:Int)=b.toNat)=false by simpa using e];rfl⟩ (bo:=.r)
 exact ae (w:=by rw[p.2,iv v];rfl)
def S4(a:UInt8):Bool:=decide (48<=(a.toNat:Int))&&decide ((a.toNat:Int)<=57)
def mN(a F:UInt8):Bool:=if(F.toNat:Int)=100 then S4 a
 else if(F.toNat:Int)=119 then S4 a||decide (65<=(a.toNat:Int))&&decide ((a.toNat:Int)<=90)||decide (97<=(a.toNat:Int))&&decide ((a.toNat:Int)<=122)||decide ((a.toNat:Int)=95)
 else decide ((a.toNat:Int)=9)||decide ((a.toNat:Int)=10)||decide ((a.toNat:Int)=13)||decide ((a.toNat:Int)=32)
def WP(b F:UInt8):aA 308 [bh b,bh F] (.bool (mN b F)):=by
 refine aX func308 [] λs e=>?_;refine fM ?_;apply j<;>intro a
 .exact ae (w:=by rw[mN,ab a];rfl)
 apply j<;>intro c
 .apply cs;intro g;refine fM ?_;exact rfl;apply cs;intro h;refine fM ?_;exact rfl;refine dD ?_;exact ae (w:=by rw[mN,aa a,ab c];rfl)
 refine dD ?_;refine dD ?_;refine dD ?_;exact ae (w:=by rw[mN,aa a,aa c];rfl)
def wU(M:Int):Option au:=if M=100 then some (bP.add 48 57)
 else if M=119 then some ((((bP.add 48 57).add 65 90).add 97 122).add 95 95)
 else if M=115 then some (((bP.add 9 10).add 13 13).add 32 32) else none
theorem Sw{M:Int}{O:au}(w:wU M=some O):O.length=256:=by
 let a:=eN;unfold wU at w
 repeat' split at w
 grind[Option.some.inj,au.tp];grind[Option.some.inj,au.tp];grind[Option.some.inj,au.tp];simp_all
def j8(t:UInt8):au×Bool:=match wU (lV .or .u8 (t.toNat:Int) 32) with|none=>(bP,false)|some O=>if(t.toNat:Int)=68\/(t.toNat:Int)=87\/(t.toNat:Int)=83 then(O.others,true) else if(t.toNat:Int)=100\/(t.toNat:Int)=119\/(t.toNat:Int)=115 then(O,true) else(bP,false)
theorem AA{t:UInt8}:(j8 t).1.length=256:=by grind[j8,eN,Sw,au.vQ]
def afd(t:UInt8):aA 340 [bh t] (.tuple [bg (j8 t).1,.bool (j8 t).2]):=by
 refine aX func340 [1000,23,29] λs r=>?_;refine jS (bg bP) ?_ (dA:=ax);refine jS (bg bP) ?_ (dA:=ax);refine gK au (λa=>⟨[(0,bh t),(2,g 2),(4,g 4)],[(2,.cell 262<|bg bP),(4,.cell 262<|bg a)],[]⟩) (λa=>wU (lV .or .u8 (t.toNat:Int) 32)=some a) ?_ λa h=>?_
 .apply j<;>intro m
  .refine bk [(6000,4)] ?_ (i:=rg bP 48 57 eN aj);exact c3 (bP.add 48 57) (by rw[wU,ab m])
  apply j<;>intro p
  .refine bk [(6000,4)] ?_ (i:=rg bP 48 57 eN aj);refine bk [(6000,4)] ?_ (i:=rg (bP.add 48 57) 65 90 FF aj);refine bk [(6000,4)] ?_ (i:=rg ((bP.add 48 57).add 65 90) 97 122 FF aj);refine bk [(6000,4)] ?_ (i:=rg (((bP.add 48 57).add 65 90).add 97 122) 95 95 FF aj);exact c3 ((((bP.add 48 57).add 65 90).add 97 122).add 95 95) (by rw[wU,aa m,ab p])
  apply j<;>intro q
  .refine bk [(6000,4)] ?_ (i:=rg bP 9 10 eN aj);refine bk [(6000,4)] ?_ (i:=rg (bP.add 9 10) 13 13 FF aj);refine bk [(6000,4)] ?_ (i:=rg ((bP.add 9 10).add 13 13) 32 32 FF aj);exact c3 (((bP.add 9 10).add 13 13).add 32 32) (by simp_all[wU,aa,ab])
  refine fb ?_ (av:=gt eN);refine iG (bg bP) ?_ (h1:=hl) (dX:=hl);exact AO aZ (.ln rfl rfl rfl rfl rfl (nl eN) hl<|.tmp rfl .nil) (w:=by rw[j8,wU,aa m,aa p,aa q];rfl)
 let c:=Sw h;refine gK Bool (λk=>⟨[(2,g 2),(4,g 4),(22,bh t),(23,.bool k)],[(2,.cell 262<|bg bP),(4,.cell 262<|bg a)],[]⟩) (λk=>k=decide ((t.toNat:Int)=68\/(t.toNat:Int)=87\/(t.toNat:Int)=83)) ?_ λk o=>?_
 .apply j<;>intro b
  .exact c3 (decide ((t.toNat:Int)=68))<|mu.2 v
  apply j<;>intro b
  .exact c3 (decide ((t.toNat:Int)=87))<|mu.2 v
  exact c3 (decide ((t.toNat:Int)=83))<|mu.2 v
 apply j<;>intro b
 .refine fb ?_ (av:=gt c);refine az ?_ (i:=OB a c);refine iG (bg a.others) ?_ (h1:=(fj).trans<|(au.vQ a).trans c) (dX:=hl);exact AO aZ (.ln rfl rfl rfl rfl rfl (nl (by grind[au.vQ])) ((fj).trans<|(au.vQ a).trans c)<|.tmp rfl .nil) (w:=by rw[j8,h];simp only[o] at b;simp only[ab<|tf b];rfl)
 refine gK Bool (λl=>⟨[(2,g 2),(4,g 4),(29,.bool l)],[(2,.cell 262<|bg bP),(4,.cell 262<|bg a)],[]⟩) (λl=>l=decide ((t.toNat:Int)=100\/(t.toNat:Int)=119\/(t.toNat:Int)=115)) ?_ λl ap=>?_
 .apply j<;>intro e
  .exact c3 (decide ((t.toNat:Int)=100))<|mu.2 v
  apply j<;>intro e
  .exact c3 (decide ((t.toNat:Int)=119))<|mu.2 v
  exact c3 (decide ((t.toNat:Int)=115))<|mu.2 v
 apply j<;>intro e
 .refine fb ?_ (av:=gt c);refine iG (bg a) ?_ (h1:=(fj).trans c) (dX:=hl);exact AO aZ (.ln rfl rfl rfl rfl rfl (nl c) ((fj).trans c)<|.tmp rfl .nil) (w:=by rw[j8,h];simp only[o] at b;simp only[ap] at e;simp only[aa<|KW<|P5.2 b,ab<|tf e];rfl)
 refine XD (bg bP) ?_ (j9:=[]) rfl<|lS.JS (gt eN) bL;refine iG (bg bP) ?_ (h1:=hl) (dX:=hl);exact AO aZ (.ln rfl rfl rfl rfl rfl (nl eN) hl<|.tmp rfl .nil) (w:=by rw[j8,h];simp only[o] at b;simp only[ap] at e;simp only[aa<|KW<|P5.2 b,aa<|KW<|P5.2 e];rfl)
def o9(a:List (Int×Int))(b:Int):List (Int×Int):=a.set (a.length-1) ((a.getD (a.length-1) default).1,b)
def e0(O:au):Nat->List (Int×Int)|0=>[]|a+1=>if O.getD a false=false then e0 O a else if 0<a/\O.getD (a-1) false then o9 (e0 O a) (a:Int) else e0 O a++[((a:Int),(a:Int))]
theorem zA(a:List (Int×Int))(b:Int):(o9 a b).length=a.length:=by simp[o9]
def Ey(O:au)(a:Nat):(e0 O a).length<=a:=by induction a with|zero=>simp[e0]|succ a b=>rw[e0];split;omega;split;rw[zA];omega;simp;omega
theorem BO(O:au){a:Nat}(w:0<a)(b:O.getD (a-1) false=true):0<(e0 O a).length:=by cases a with|zero=>omega|succ a=>rw[e0];simp only[KA] at b;rw[aa (by rw[b];simp)];split;rename_i c;rw[zA];exact BO O c.1 c.2;simp
def hT(O:au):ao:=if O=bP then .mk 1 [] 0 0 [] else .mk 3 (e0 O 256) 0 0 []
def aot(O:au)(t:O.length=256):aA 339 [bg O] (.f 2 ((e0 O 256).map fz)):=by
 refine aX func339 [] λs u=>?_;refine fb ?_ (av:=gt t);refine ay.dI 3 2 283 [3] none ?_;refine cQ (Nat×List (Int×Int)) (λa=>⟨[(1,g 1),(6,bg O),(7,q a.1),(3,.d 3 0 (a.2.map fz).length)],[(1,.cell 262<|bg O),(3,.n 2 283<|a.2.map fz)],[]⟩) (λa=>a.1<=256/\a.2=e0 O a.1) (λa=>256-a.1) (0,[]) (λa b=>?_) ⟨v,rfl⟩;apply j<;>intro w
 .let y:a.1<256:=v;let r:=Ey O a.1;rw[<-b.2] at r;let z:(a.2.map fz).length=a.2.length:=aS _;let m:(List.map fz<|o9 a.2 (a.1:Nat)).length=(List.map fz a.2).length:=by simp[zA]
  refine N_ (H:=a.1) ?_ (D:=.bool<|O.getD a.1 false) (bq:=eu.y_ (N:=O) (H:=a.1) v (aaW:=[]));apply j<;>intro c
  .refine aL ?_;exact aB (a.1+1,a.2) ⟨by show a.1+1<=256;omega,b.2.trans (by rw[e0,ab (by simpa using c)])⟩ (by show 256-(a.1+1)<256-a.1;omega)
  apply b2;intro x;refine g1 ?_;refine iF (a.1-1) (a.1-1) ?_ (ii:=by show a.1-1=0+(a.1-1)*1;omega);refine ga (.bool<|O.getD (a.1-1) false) ?_ (dc:=yW O v);exact rfl;apply j<;>intro i
  .let k:0<a.1/\O.getD (a.1-1) false:=by simpa[qh] using i
   let⟨e,h⟩:=k;let o:=BO O e h;rw[<-b.2] at o;refine g1 ?_;refine cz (a.2.length-1) ?_ (p:=aK);refine fl ((o9 a.2 (a.1:Nat)).map fz) (fz<|a.2.getD (a.2.length-1) default) (fz ((a.2.getD (a.2.length-1) default).1,(a.1:Nat))) ?_ (p:=cv v) (aG:=by rw[o9,gN]);refine aL ?_;exact aB (a.1+1,o9 a.2 (a.1:Nat)) ⟨by show a.1+1<=256;omega,by show o9 _ _=e0 O (a.1+1);rw[e0,aa (by simpa using c),ab ⟨e,h⟩,b.2]⟩ (by show 256-(a.1+1)<256-a.1;omega) ⟨⟨bL,bL,bL,(by rw[m];rfl),trivial⟩,⟨bL,bL,trivial⟩,rfl,rfl⟩
  let l:¬(0<a.1/\O.getD (a.1-1) false):=by simpa[qh] using i
  refine dv ?_;refine eR ((a.2++[(((a.1:Nat):Int),((a.1:Nat):Int))]).map fz) ?_ (aG:=p3) (bq:=aK);refine aL ?_;exact aB (a.1+1,a.2++[(((a.1:Nat):Int),((a.1:Nat):Int))]) ⟨by show a.1+1<=256;omega,by show _++_=e0 O (a.1+1);rw[e0,aa (by simpa using c),aa l,b.2]⟩ (by show 256-(a.1+1)<256-a.1;omega)
 let he:e0 O 256=a.2:=by rw[b.2,show a.1=256 by omega]
 rw[he];exact gB 3 ae
def aod{O a:au}(m:O.length=256)(o:a.length=256):uT a4 262 ((eu.gW O).cells++[]) ((eu.gW a).cells++[]) (decide (O=a)):=by refine⟨λb p q t c e g h=>?_,bL⟩;rw[gf] at c e g h;have k:p=O.map Value.bool:=J1 (x:=V.bool) (λb s r w=>Eo w) (c.trans<|aS _) g;have l:q=a.map Value.bool:=J1 (x:=V.bool) (λb s r w=>Eo w) (e.trans<|aS _) h;subst k;subst l;exact ZF false Value.bool 9998 262 4 ((xZ:nU a4 262 U1).e6 rfl) ((xZ:nU a4 4 Dp).e6 rfl) rfl (xZ:nU a4 4 Dp).K (λi j=>by rw[Jw (M:=9998) ((xZ:nU a4 4 Dp).e6 rfl).u];cases i<;>cases j<;>rfl) O a m o
def CG(O:au)(a:O.length=256):aA 322 [bg O] (rn (hT O)):=by
 refine aX func322 [] λs c=>?_;refine fb ?_ (av:=gt a);refine XD (bg bP) ?_ (j9:=[]) rfl<|lS.JS (gt eN) bL;refine alp _ (aod a eN) ?_;apply j<;>intro b
 .exact fA 2 2 [1] (fA 5 2 [4] (cu aZ (w:=by rw[hT,ab b];rfl)))
 refine fb ?_ (av:=gt a);refine az ?_ (i:=aot O a);exact fA 5 2 [4] (cu aZ (w:=by rw[hT,aa b];rfl))
def Jt(O:au):∀(a:Nat),(∀b∈e0 O a,b.2<(a:Int))/\(0<a->O.getD (a-1) false=true->((e0 O a).getD ((e0 O a).length-1) default).2=(a:Int)-1)/\(O.getD (a-1) false=false->∀b∈e0 O a,b.2<(a:Int)-1)|0=>⟨λb w=>absurd w h2,λw=>absurd w af,λ_ b w=>absurd w h2⟩|a+1=>by let⟨e,g,h⟩:=Jt O a;rw[show a+1-1=a by omega,e0];by_cases j:O.getD a false=false;grind;by_cases c:0<a/\O.getD (a-1) false;let i:=BO O c.1 c.2;grind[zA,o9,List.getElem?_set_self];grind
theorem Zt(O:au)(a:Nat):0<(e0 O a).length/\((e0 O a).getD ((e0 O a).length-1) default).2=(a:Int)-1↔0<a/\O.getD (a-1) false:=by let⟨b,c,e⟩:=Jt O a;constructor;let g:=Ey O a;grind;grind[BO]
def apl(O:au)(a:Nat):e0 O a=[]↔∀b,b<a->O.getD b false=false:=by induction a with|zero=>simp[e0]|succ a e=>rw[e0];by_cases c:O.getD a false=false;grind;rw[aa c];constructor;intro w;split at w;grind[zA];simp_all;grind
def TV{O:au}(c:O.length=256):hT O=if(e0 O 256).length=0 then .mk 1 [] 0 0 [] else .mk 3 (e0 O 256) 0 0 []:=by
 have:O=bP↔(e0 O 256).length=0:=by rw[Kq,apl];constructor;grind[bP,List.getElem?_replicate_of_lt];refineλw=>ho λb=>?_;rcases gh b 256 with a|a;have:=w b a;rw[cg,bw v,te] at this;rw[bw v,this];exact(List.getElem?_replicate_of_lt a).symm;grind[List.getElem?_eq_none,eN]
 simp_all[hT,bP,ab,aa]
def WC(O:au)(o:O.length=256):aA 284 [bg O] (rn (hT O)):=by
 refine aX func284 [2002] λs y=>?_;refine ay.dI 1100 2 283 [] (some (3,1)) ?_;refine cP ?_;refine cQ (Nat×List (Int×Int)×Nat) (λh=>⟨[(1,g 1),(2,g 2),(3,g 3),(4,q h.1)],[(1,.cell 261<|bg O),(2,_),(3,.cell 126<|.agg [.int .i64 3,.d 1100 0 h.2.2,.int .i64 0,.int .i64 0,.aQ]),(1100,.n 2 283<|h.2.1.map fz)],[]⟩) (λh=>h.1<=256/\h.2.1=e0 O h.1/\h.2.2=(h.2.1.map fz).length) (λh=>256-h.1) (0,[],0) (λ⟨a,c,e⟩ ⟨t,i,k⟩=>?_) ⟨v,rfl,rfl⟩ .r;dsimp only at t i k⊢;rw[aS] at k;apply j<;>intro C
 .have m:=Ey O a;rw[<-i] at m;refine iF a a ?_ (ii:=by show a=0+a*1;omega);refine ga (.bool<|O.getD a false) ?_ (dc:=yW O v);apply j<;>intro z
  .refine aL ?_;exact aB (a+1,c,e) ⟨v,i.trans (by simp_all[e0,ab]),aK⟩ v .r
  apply b2;intro D;refine ia ((e-1:Nat):Int) ?_;refine cz (e-1) ?_;refine ft (fz<|c.getD (e-1) default) ?_ (p:=cv v);refine g1 ?_;exact rfl;apply j<;>intro A
  .have l:0<a/\O.getD (a-1) false:=(Zt O a).1 b;have E:=BO O l.1 l.2;refine ia ((e-1:Nat):Int) ?_;refine cz (e-1) ?_;refine fl ((o9 c (a:Nat)).map fz) (fz<|c.getD (e-1) default) (fz ((c.getD (e-1) default).1,(a:Nat))) ?_ (p:=cv v) (aG:=by rw[o9,gN,k]);refine aL ?_;exact aB (a+1,o9 c (a:Nat),e) ⟨v,by simp_all[e0,aa,ab],by grind[List.length_map,zA]⟩ v .r
  have x:¬(0<a/\O.getD (a-1) false):=λu=>by grind[Zt]
  refine dv ?_;refine eR ((c++[(((a:Nat):Int),((a:Nat):Int))]).map fz) ?_ (aG:=p3) (bq:=aM) (hlen:=aK);refine aL ?_;exact aB (a+1,c++[(((a:Nat):Int),((a:Nat):Int))],(List.map fz<|c++[(((a:Nat):Int),((a:Nat):Int))]).length) ⟨v,by simp_all[e0,aa],rfl⟩ v .r
 have he:e0 O 256=c:=by rw[i,show a=256 by omega]
 rw[TV o,he];apply j<;>intro B
 .exact fA 2 2 [1] (fA 5 2 [4] (cu aZ (w:=by rw[ab v];rfl)))
 exact y2 1100 e (show(c.map fz).length=e by(simp;omega))<|fA 5 2 [4] (cu aZ (w:=by rw[aa v];rfl))
def mg(F:Int)(a:List ao):ao:=if a.length=0 then .mk 2 [] 0 0 [] else if a.length=1 then a.getD 0 (.mk 0 [] 0 0 []) else .mk F [] 0 0 a
def hp(a:UInt8):Int:=Go.Lib.indexByte [48,49,50,51,52,53,54,55,56,57,97,98,99,100,101,102] a
def vS{X:List UInt8}{D:Q}(w:bF X D≠0):D.C<X.length/\D.no=0:=by unfold bF at w<;>grind
theorem aiK(a:List UInt8)(w:(0:UInt8)∉a):Go.Lib.indexByte a 0=-1:=by induction a with|nil=>rfl|cons c a b=>simp at w;rw[Go.Lib.indexByte,aa aM,b w.2];rfl
def M2(a:List UInt8)(t:UInt8):Go.Lib.indexByte a t<(a.length:Int)/\-1<=Go.Lib.indexByte a t:=by induction a with|nil=>simp[Go.Lib.indexByte]|cons b a c=>(simp[Go.Lib.indexByte,kh];omega)
def ze{c:List UInt8}{a:Q}(b:List UInt8)(g:(0:UInt8)∉b)(w:0<=Go.Lib.indexByte b (bF c a)):a.C<c.length/\a.no=0:=vS λe=>by grind[aiK]
def mJ(b:List UInt8)(a:Q):Nat×Q:=if hp (bF b a)<0 then(0,bE a a.C 6)
 else if hp (bF b a.step)<0 then(0,bE a.step a.step.C 6)
 else((hp<|bF b a).toNat*16+(hp<|bF b a.step).toNat,a.step.step)
def HA(t:UInt8):hp t<16/\-1<=hp t:=M2 _ t
theorem Dl{b:List UInt8}{a:Q}(w:¬hp (bF b a)<0):a.C<b.length/\a.no=0:=ze [48,49,50,51,52,53,54,55,56,57,97,98,99,100,101,102] aj (by grind[hp])
theorem Q.pQ{b:List UInt8}{a:Q}(w:a.ok b)(c:a.C<b.length):a.step.ok b:=⟨c,w.2⟩
theorem mU{a:List UInt8}{D:Q}(w:D.ok a){E Y:Int}:(bE D E Y).ok a:=by unfold bE;split;exact w;exact w
def Z2(F:Int)(a:List ao)(i:a.length<=16777216):aA 216 [.int .i64 F,.f 5 (fy a)] (rn (mg F a)):=by
 refine aX func216 [] λs e=>?_;rw[yX];apply j<;>intro h
 .exact fA 2 4 [1] (fA 5 4 [4] (cu aZ (w:=by rw[mg,ab v];rfl)))
 apply j<;>intro g
 .obtain⟨b,rfl⟩:∃b,a=[b]:=Ce.1 v;let⟨k,R,cG,c,l⟩:=b;refine aJ 0 _ ?_ (p:=rfl);exact cu aZ
 refine Xe 0 _ _ ?_;exact fA 2 4 [1] (cu aZ (w:=by show V.agg [_,_,_,_,.f 5 _]=_;rw[uI,Qw,gq,mg,aa v,aa v,rn,yX];rfl))
def aij(b:List UInt8)(c:Q)(w:c.ok b):cK 341 [g 6000] [(6000,.cell 242 (ce b c))] (q (mJ b c).1) [(6000,.cell 242 (ce b (mJ b c).2))]:=by
 refine cX func341 [] λD s x=>?_;have B:=w.2;refine cQ (Nat×Nat×Q) (λa=>⟨[(0,g 6000),(3,q a.2.1),(5,q a.1)],[(6000,.cell 242<|ce b a.2.2)],[]⟩) (λa=>a.2.2.ok b/\(a=(0,0,c)\/¬hp (bF b c)<0/\a=(1,(hp<|bF b c).toNat,c.step)\/¬hp (bF b c)<0/\¬hp (bF b c.step)<0/\a=(2,(hp<|bF b c).toNat*16+(hp<|bF b c.step).toNat,c.step.step))) (λa=>2-a.1) (0,0,c) (λa h=>?_) ⟨w,.inl rfl⟩;apply j<;>intro p
 .have z:a.2.1<16:=by have:=HA<|bF b c;rcases h.2 with e|⟨_,e⟩|⟨_,_,e⟩<;>rw[e] at p⊢<;>simp at p⊢<;>omega
  refine oO (i:=sM b a.2.2 h.1)<|az ?_ (i:=HG _ _);apply j<;>intro o
  .have m:hp (bF b a.2.2)<0:=o;have k:mJ b c=(0,bE a.2.2 a.2.2.C 6):=by rcases h.2 with e|⟨l,e⟩|⟨_,_,e⟩;simp_all[mJ,ab];simp_all[mJ,aa,ab];simp_all
   rw[k];refine bk [(6000,6000)] ?_ (i:=vn b a.2.2 a.2.2.C 6);exact cH
  have m:¬hp (bF b a.2.2)<0:=o;have y:=HA<|bF b a.2.2;let⟨r,A⟩:=Dl m;have t:a.2.2.step.ok b/\((a.1+1,a.2.1*16+(hp (bF b a.2.2)).toNat,a.2.2.step)=(0,0,c)\/¬hp (bF b c)<0/\(a.1+1,a.2.1*16+(hp (bF b a.2.2)).toNat,a.2.2.step)=(1,(hp (bF b c)).toNat,c.step)\/¬hp (bF b c)<0/\¬hp (bF b c.step)<0/\(a.1+1,a.2.1*16+(hp (bF b a.2.2)).toNat,a.2.2.step)=(2,(hp (bF b c)).toNat*16+(hp (bF b c.step)).toNat,c.step.step)):=by refine⟨Q.pQ h.1 r,.inr ?_⟩;rcases h.2 with e|⟨l,e⟩|⟨_,_,e⟩;simp_all;simp_all;simp_all
  refine DQ ?_;refine dK ((a.2.1*16+(hp<|bF b a.2.2).toNat:Nat):Int) ?_ (w:=by grind[hp,bF,Int.natCast_add]);refine dK ((a.2.2.C+1:Nat):Int) ?_;refine aL ?_;exact aB (a.1+1,a.2.1*16+(hp<|bF b a.2.2).toNat,a.2.2.step) t v
 have k:mJ b c=(a.2.1,a.2.2):=by rcases h.2 with e|⟨l,e⟩|⟨l,u,e⟩;simp_all;simp_all;simp_all[mJ,aa]
 rw[k];exact cH
