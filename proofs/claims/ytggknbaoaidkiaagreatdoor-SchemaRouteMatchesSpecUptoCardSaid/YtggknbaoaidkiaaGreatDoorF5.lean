import Derived.Test.YtggknbaoaidkiaaGreatDoorRows
import Derived.Test.YtggknbaoaidkiaaGreatDoorCards
import Derived.Test.YtggknbaoaidkiaaGreatDoorTie
import Derived.Test.YtggknbaoaidkiaaGreatDoorF4
set_option linter.all false
set_option maxHeartbeats 8000000
set_option maxRecDepth 100000
open Go.Proofs Go.Proofs.Tryz
open Go.Proofs.Tryz renaming prog->a4
namespace Go.ey
variable{T:Program}{eK:Type}{I:World}
theorem Gz{c:List UInt8}{a:Q}(b:(j8 (bF c a)).2):a.C<c.length/\a.no=0:=vS λe=>by rw[e] at b;exact absurd b aj
def zN{a:UInt8}:kZ .i64 (a.toNat:Nat):=by have:=a.toNat_lt;exact tP v v
structure FU where
 c:Nat
 s:au
 many:Bool
 r:Q
def df(b:List UInt8)(a:Q):FU:=if(j8<|bF b a).2 then⟨0,(j8<|bF b a).1,true,a.step⟩
 else if 0<=Go.Lib.indexByte [110,116,114] (bF b a) then⟨(([10,9,13]:List UInt8).getD (Go.Lib.indexByte [110,116,114] (bF b a)).toNat 0).toNat,bP,false,a.step⟩
 else if(bF b a).toNat=120 then⟨(mJ b a.step).1,bP,false,(mJ b a.step).2⟩
 else if(bF b a).toNat≠0/\0<=Go.Lib.indexByte [92,46,124,40,41,91,93,123,125,42,43,63,94,45] (bF b a) then⟨(bF b a).toNat,bP,false,a.step⟩
 else⟨0,bP,false,bE a a.C 6⟩
def Mj(X:List UInt8)(D:Q)(l:D.ok X):cK 323 [g 6000] [(6000,.cell 242 (ce X D))] (.tuple [q (df X D).c,bg (df X D).s,.bool (df X D).many]) [(6000,.cell 242 (ce X (df X D).r))]:=by
 refine cX func323 [] λA w x=>?_;let z:=l.2;refine jS (bg bP) ?_ (dA:=bL);refine oO ?_ (i:=sM X D l);refine az ?_ (i:=afd<|bF X D);refine jS (bg bP) ?_ (dA:=bL);refine iG (bg (j8<|bF X D).1) ?_ (h1:=(fj).trans AA) (dX:=hl);apply j<;>intro a
 .let⟨e,k⟩:=Gz a;rw[show df X D=⟨0,(j8 (bF X D)).1,true,D.step⟩ by rw[df,ab a]];refine dK ((D.C+1:Nat):Int) ?_;refine dC ?_;refine a_ (λ_=>fb rfl (av:=gt AA)) ?_;refine zW (bg (j8<|bF X D).1) ?_ ((fj).trans AA) (dX:=hl);refine fm ?_;exact pD aZ<|.tmp rfl<|.ln rfl rfl rfl rfl rfl (nl AA) ((fj).trans AA)<|.tmp rfl .nil
 let u:=M2 [110,116,114] (bF X D);simp only[kh,List.length_nil] at u;refine az ?_ (i:=HG _ _);apply j<;>intro b
 focus simp only[List.toList_toArray] at b;let⟨e,k⟩:=ze [110,116,114] aj b;rw[show df X D=⟨(([10,9,13]:List UInt8).getD (Go.Lib.indexByte [110,116,114] (bF X D)).toNat 0).toNat,bP,false,D.step⟩ by rw[df,aa a,ab b]];refine lw (Go.Lib.indexByte [110,116,114] (bF X D)).toNat (([10,9,13]:List UInt8).getD (Go.Lib.indexByte [110,116,114] (bF X D)).toNat 0) ?_ (av:=by show Go.Lib.indexByte [110,116,114] (bF X D)=_;omega) (p:=vx aK);refine k4 ((([10,9,13]:List UInt8).getD (Go.Lib.indexByte [110,116,114] (bF X D)).toNat 0).toNat:Nat) ?_ (qA:=zN);refine dK ((D.C+1:Nat):Int) ?_
 rotate_left
 focus
  apply j<;>intro m
  .let⟨e,k⟩:=vS (X:=X) (D:=D) (λt=>by rw[t] at m;exact absurd m aj);rw[show df X D=⟨(mJ X D.step).1,bP,false,(mJ X D.step).2⟩ by rw[df,aa a,aa b,ab v]];refine dK ((D.C+1:Nat):Int) ?_;refine dC ?_;refine asP [(6000,6000)] [(0,(6000,.cell 242<|ce X (mJ X D.step).2))] ?_ (i:=aij X D.step<|Q.pQ l e);refine a_ (λ_=>fb rfl (av:=gt eN)) ?_;refine zW (bg bP) ?_ hl (dX:=hl);refine fm ?_;exact pD aZ<|.tmp rfl<|.ln rfl rfl rfl rfl rfl (nl eN) hl<|.tmp rfl .nil
  apply b2;intro y;refine bT ?_ (i:=HG _ _);exact rfl;apply j<;>intro o
  .let h:(bF X D).toNat≠0/\0<=Go.Lib.indexByte [92,46,124,40,41,91,93,123,125,42,43,63,94,45] (bF X D):=by simpa[qh] using o
   let⟨e,k⟩:=ze [92,46,124,40,41,91,93,123,125,42,43,63,94,45] aj h.2;rw[show df X D=⟨(bF X D).toNat,bP,false,D.step⟩ by rw[df,aa a,aa b,aa v,ab h]];refine k4 ((bF X D).toNat:Nat) ?_ (qA:=zN);refine dK ((D.C+1:Nat):Int) ?_;refine dC ?_;refine a_ (λ_=>fb rfl (av:=gt eN)) ?_;refine zW (bg bP) ?_ hl (dX:=hl);refine fm ?_;exact pD aZ<|.tmp rfl<|.ln rfl rfl rfl rfl rfl (nl eN) hl<|.tmp rfl .nil
  let h:¬((bF X D).toNat≠0/\0<=Go.Lib.indexByte [92,46,124,40,41,91,93,123,125,42,43,63,94,45] (bF X D)):=by simpa[qh] using o
  rw[show df X D=⟨0,bP,false,bE D D.C 6⟩ by rw[df,aa a,aa b,aa v,aa h]];refine bk [(6000,6000)] ?_ (i:=vn X D D.C 6)
 all_goals refine dC ?_;refine a_ (λ_=>fb rfl (av:=gt eN)) ?_;refine zW (bg bP) ?_ hl (dX:=hl);refine fm ?_;exact pD aZ<|.tmp rfl<|.ln rfl rfl rfl rfl rfl (nl eN) hl<|.tmp rfl .nil
def ML:List UInt8:=[48,49,50,51,52,53,54,55,56,57,97,98,99,100,101,102]
def IP:List UInt8:=[92,46,124,40,41,91,93,123,125,42,43,63]
def tS:List UInt8:=[92,91,93,94,45]
def xj(a:UInt8):Int:=Go.Lib.indexByte ML a
def hU(b:List UInt8)(a:Nat):Int:=if a<b.length then xj (b.getD a 0) else-1
def aih:∀b:Fin 256,∀a:Fin 16,decide (((UInt8.ofNat b.1).toNat:Int)=((ML.getD a.1 0).toNat:Int))=decide (xj (UInt8.ofNat b.1)=(a.1:Nat)):=by decide+kernel
def aii:∀a:Fin 256,decide (xj (UInt8.ofNat a.1)<16)&&decide (-1<=xj (UInt8.ofNat a.1))=true:=by decide+kernel
def UP{a:UInt8}{b:Nat}(c:b<16):(a.toNat:Int)=((ML.getD b 0).toNat:Int)↔xj a=(b:Int):=by have:=aih ⟨a.toNat,a.toNat_lt⟩ ⟨b,c⟩;simp_all
def ais(a:UInt8):xj a<16/\-1<=xj a:=by have:=aii ⟨a.toNat,a.toNat_lt⟩;simp_all
def HC(b:List UInt8)(a:Nat):hU b a<16/\-1<=hU b a:=by unfold hU;split;simp[ais];omega
def rk(a:Int)(b:Nat):Int:=if 0<=a/\a<(b:Int) then a else-1
def oS(c:List UInt8)(a:Nat):Nat->Int|0=>0|b+1=>16*oS c a b+hU c (a+(b+1))
def Q.j4(a:Q)(b:Nat):Q:=⟨a.C+b,a.bad,a.no⟩
def nL(a:UInt8->Bool):au:=(List.range 256).map λb=>a<|UInt8.ofNat b
def B0{a:UInt8->Bool}:(nL a).length=256:=ax
theorem aaS(b:UInt8->Bool){a:Nat}(c:a<256):(nL b).getD a false=b (UInt8.ofNat a):=by grind[nL,List.getElem?_range]
structure wD where
 s:au
 n:Int
 r:Q
def mH(b:au)(a:Int)(c:Q):wD:=⟨if 0<=a then b.set a.toNat true else b,a,c.step⟩
def ih(b:List UInt8)(c:au)(a:Q):wD:=if ik b a.C=false then⟨c, -1,bE a a.C 6⟩
 else if(eX IP (b.getD a.C 0)||eX tS (b.getD a.C 0)) then mH c (b.getD a.C 0).toNat a
 else if((b.getD a.C 0).toNat:Int)=110 then mH c 10 a
 else if((b.getD a.C 0).toNat:Int)=116 then mH c 9 a
 else if((b.getD a.C 0).toNat:Int)=114 then mH c 13 a
 else if((b.getD a.C 0).toNat:Int)=120 then
  if hU b (a.C+1)<0 then⟨c, -1,bE (a.j4 1) (a.C+1:Nat) 6⟩
  else if hU b (a.C+2)<0 then⟨c, -1,bE (a.j4 2) (a.C+2:Nat) 6⟩
  else mH c (oS b a.C 2) (a.j4 2)
 else if eX [100,119,115] (b.getD a.C 0) then mH (c.join<|nL λe=>mN e<|b.getD a.C 0) (-1) a
 else if eX [68,87,83] (b.getD a.C 0) then mH (c.join<|nL λe=>!mN e (b.getD a.C 0+32)) (-1) a
 else⟨c, -1,bE a a.C 6⟩
def G6{X:List UInt8}{E:Nat}:∀{F:Nat},(∀a,a<F->0<=hU X (E+(a+1)))->0<=oS X E F/\oS X E F<16^F|0,_=>⟨zY 0,(by decide:(0:Int)<16^0)⟩|F+1,b=>by let⟨c,e⟩:=G6 (F:=F) λa h=>b a v;let g:=(HC X<|E+(F+1)).1;grind[oS,Int.pow_succ]
theorem age(a:Int):rk a 0=-1:=by simp[rk,aa]
theorem aga{a:Int}(b:a<16)(c:-1<=a):rk a 16=a:=by(simp[rk,ab,aa];omega)
theorem agc(a:Nat):rk (-1) a=-1:=ax
def au.HL{a b:au}(e:a.length=256)(c:b.length=256):(a.join b).length=256:=by(simp[au.join,List.length_zipWith];omega)
def zv{X:List UInt8}{E:Nat}(a:ik X E):E<X.length:=by simp_all[ik,jD,gV]
def Tr(a:au){b:Nat}(c:b<a.length):(bg a).cells.set b (.bool true)=(bg (a.set b true)).cells:=GU a c
theorem agd{a:Int}{b:Nat}(c:¬a=(b:Int)):rk a (b+1)=rk a b:=by(simp[rk,ab,aa];omega)
theorem agb{b:Int}{a:Nat}(c:b=(a:Int)):rk b (a+1)=(a:Int):=by(simp[rk,ab];omega)
def Fi(a:List (Nat×V))(b:bb):am:=⟨(0,g 6000)::(3,g 3)::(4,g 4)::a,(4,.cell 261<|bg bP)::b,[]⟩
def Zn(X:List UInt8)(h:au)(a:Q)(w:F4 X a)(bo:h.length=256):cK 283 [g 6000,bg h] [(6000,.cell 166 (ce X a))] (.tuple [bg (ih X h a).s,.int .i64 (ih X h a).n]) [(6000,.cell 166 (ce X (ih X h a).r))]:=by
 refine cX func283 [1000] λaH Y ae=>?_;let⟨h1,dX⟩:=id w;refine jS (bg bP) ?_ (dA:=ax);refine oO ?_ (i:=OV X a w);apply j<;>intro P
 .rw[show ih X h a=⟨h, -1,bE a a.C 6⟩ by simp_all[ih,ab]];refine bk [(6000,6000)] ?_ (i:=o8 X a a.C 6);refine fb ?_ (av:=gt bo);refine iG (bg h) ?_ (h1:=(fj).trans bo) (dX:=hl);exact pD aZ<|.ln rfl rfl rfl rfl rfl (nl bo) ((fj).trans bo)<|.tmp rfl .nil
 have L:¬ik X a.C=false:=by simpa using P
 have ai:=zv (X:=X) (E:=a.C) b;refine c7 ?_;refine mQ a.C ?_;refine gK (au×Int×Q) (λm=>Fi [(7,.int .i64 m.2.1)] [(3,.cell 261<|bg m.1),(6000,.cell 166<|ce X m.2.2)]) (λm=>ih X h a=mH m.1 m.2.1 m.2.2/\m.1.length=256/\(-1<=m.2.1/\m.2.1<256)/\m.2.2.C<=100002) ?_ λm ap=>?_
 .refine az ?_ (i:=zs IP aj);apply cs;intro aE;refine bT ?_ (i:=zs tS aj);exact rfl;apply j<;>intro R
  .refine k4 ((X.getD a.C 0).toNat:Nat) ?_ (qA:=zN);exact c3 (h,(X.getD a.C 0).toNat,a) ⟨by simp_all[ih,aa,ab,eg],bo,⟨af,by show((X.getD a.C 0).toNat:Int)<256;have:=(X.getD a.C 0).toNat_lt;omega⟩,aK⟩
  have B:¬(eX IP (X.getD a.C 0)||eX tS (X.getD a.C 0)):=by simpa[eg] using R
  apply j<;>intro D
  .exact c3 (h,10,a) ⟨FD,bo,⟨(by decide:(-1:Int)<=10),(by decide:(10:Int)<256)⟩,aK⟩
  apply j<;>intro F
  .exact c3 (h,9,a) ⟨FD,bo,⟨(by decide:(-1:Int)<=9),(by decide:(9:Int)<256)⟩,aK⟩
  apply j<;>intro G
  .exact c3 (h,13,a) ⟨FD,bo,⟨(by decide:(-1:Int)<=13),(by decide:(13:Int)<256)⟩,aK⟩
  apply j<;>intro H
  .refine eH 2 (λe=>∀x,x<e->0<=hU X (a.C+(x+1))) (λe=>Fi [(7,.int .i64<|oS X a.C e),(8,q e)] [(3,.cell 261<|bg h),(6000,.cell 166<|ce X<|a.j4 e)]) (λe z=>?_) λx K=>absurd K<|uO x;apply j<;>intro ay
   .have ah:(a.j4 (e+1)).C=a.C+(e+1):=rfl;have ag:(a.j4 e).C=a.C+e:=rfl;have O:=G6 z.2;have ak:oS X a.C e<16:=by have:e=0\/e=1:=v;rcases this with rfl|rfl;omega;omega
    have aF:=HC X<|a.C+(e+1);refine dK ((a.C+(e+1):Nat):Int) ?_ (w:=v);refine dL 16 (λc=>Fi [(7,.int .i64<|oS X a.C e),(8,q e),(9,.int .i64<|rk (hU X<|a.C+(e+1)) c),(10,q c)] [(3,.cell 261<|bg h),(6000,.cell 166<|ce X<|a.j4<|e+1)]) (λc p=>?_) ⟨⟨ax,ax,ax,ax,ax,(by rw[age];rfl),ax,trivial⟩,⟨ax,ax,ax,trivial⟩,rfl,rfl⟩;refine c7 ?_;refine fM ?_;apply j<;>intro aA
    .have J:c<16:=v;have A:a.C+(e+1)<X.length:=v;have M:hU X (a.C+(e+1))=xj (X.getD (a.C+(e+1)) 0):=by unfold hU;rw[ab A]
     refine c7 ?_;refine mQ (a.C+(e+1)) ?_ (av:=v) (p:=v);refine mQ c ?_ (p:=v);apply j<;>intro I
     .have dA:hU X (a.C+(e+1))=(c:Int):=by rw[M];exact(UP J).1 I
      refine aL ?_;exact aB (c+1) (bo:=⟨⟨ax,ax,ax,ax,ax,(by rw[agb dA];rfl),ax,trivial⟩,⟨ax,ax,ax,trivial⟩,rfl,rfl⟩)
     have dA:¬hU X (a.C+(e+1))=(c:Int):=by rw[M];exactλN=>I<|(UP J).2 N
     refine aL ?_;exact aB (c+1) (bo:=⟨⟨ax,ax,ax,ax,ax,(by rw[agd dA];rfl),ax,trivial⟩,⟨ax,ax,ax,trivial⟩,rfl,rfl⟩)
    have S:rk (hU X (a.C+(e+1))) c=hU X (a.C+(e+1)):=by by_cases A:a.C+(e+1)<X.length;grind[aga];simp_all[hU,aa,agc]
    rw[S];apply j<;>intro al
    .rw[show ih X h a=⟨h, -1,bE (a.j4 (e+1)) ((a.j4 (e+1)).C:Nat) 6⟩ by
      rw[ih,aa L,aa B,aa D,aa F,aa G,ab H];have:e=0\/e=1:=by omega
      rcases this with rfl|rfl<;>grind]
     refine bk [(6000,6000)] ?_ (i:=o8 X (a.j4<|e+1) ((a.j4<|e+1).C:Nat) 6);refine fb ?_ (av:=gt bo);refine iG (bg h) ?_ (h1:=(fj).trans bo) (dX:=hl);exact pD aZ<|.ln rfl rfl rfl rfl rfl (nl bo) ((fj).trans bo)<|.tmp rfl .nil
    refine xC (16*oS X a.C e) ?_;refine dK (oS X a.C<|e+1) ?_ (w:=ax) (h1:=by grind[oS]) (fL:=by grind[oS]);refine dK ((e+1:Nat):Int) ?_;exact aB (e+1) ⟨v,λx K=>aM⟩
   obtain rfl:e=2:=v;have O:=G6 z.2;have T:ih X h a=mH h (oS X a.C 2) (a.j4 2):=by have Z:0<=hU X (a.C+1):=z.2 0 aj;have ad:0<=hU X (a.C+2):=z.2 1 aj;rw[ih,aa L,aa B,aa D,aa F,aa G,ab H,aa v,aa v]
   exact c3 (h,oS X a.C 2,a.j4 2) ⟨T,bo,⟨aK,aK⟩,by show a.C+2<=100002;omega⟩
  refine az ?_ (i:=zs [100,119,115] aj);apply j<;>intro am
  .rw[show bg h=bg (h.ky (nL λk=>mN k<|X.getD a.C 0) 0) by rw[au.M_]];refine dL 256 (λc=>Fi [(6,bh<|X.getD a.C 0),(7,.int .i64<|-1),(11,q c)] [(3,.cell 261<|bg<|h.ky (nL λk=>mN k<|X.getD a.C 0) c),(6000,.cell 166<|ce X a)]) λc p=>?_;apply j<;>intro an
   .refine iF c c ?_ (ii:=by show c=0+c*1;omega);refine ga (.bool<|h.getD c false) ?_ (dc:=by grind[au.M9,yW,au.A5]);apply cs;intro aC;refine k4 ((UInt8.ofNat c).toNat:Nat) ?_ (av:=aK) (qA:=A1 v aK);refine bT ?_ (i:=WP (UInt8.ofNat c)<|X.getD a.C 0);exact rfl;refine iF c c ?_ (ii:=by show c=0+c*1;omega);refine pP (bg<|h.ky (nL λk=>mN k<|X.getD a.C 0)<|c+1) ?_ (i2:=by grind[fj,au.A5]) (aG:=by grind[Rt,L9,aaS]);refine aL ?_;exact aB<|c+1
   obtain rfl:c=256:=v;rw[au.M8 h v<|(B0).trans bo.symm];exact c3 (h.join<|nL λk=>mN k<|X.getD a.C 0, -1,a) ⟨FD,au.HL bo B0,⟨(by decide:(-1:Int)<=-1),(by decide:(-1:Int)<256)⟩,aK⟩
  refine az ?_ (i:=zs [68,87,83] aj);apply j<;>intro ao
  .rw[show bg h=bg (h.ky (nL λk=>!mN k (X.getD a.C 0+32)) 0) by rw[au.M_]];refine dL 256 (λc=>Fi [(6,bh<|X.getD a.C 0),(7,.int .i64<|-1),(12,q c)] [(3,.cell 261<|bg<|h.ky (nL λk=>!mN k (X.getD a.C 0+32)) c),(6000,.cell 166<|ce X a)]) λc p=>?_;apply j<;>intro aq
   .refine iF c c ?_ (ii:=by show c=0+c*1;omega);refine ga (.bool<|h.getD c false) ?_ (dc:=by grind[au.M9,yW,au.A5]);apply cs;intro aD;refine k4 ((UInt8.ofNat c).toNat:Nat) ?_ (av:=aK) (qA:=A1 v aK);refine bT ?_ (i:=WP (UInt8.ofNat c)<|X.getD a.C 0+32);exact rfl;refine iF c c ?_ (ii:=by show c=0+c*1;omega);refine pP (bg<|h.ky (nL λk=>!mN k (X.getD a.C 0+32))<|c+1) ?_ (i2:=by grind[fj,au.A5]) (aG:=by grind[Rt,L9,aaS]);refine aL ?_;exact aB<|c+1
   obtain rfl:c=256:=v;rw[au.M8 h v<|(B0).trans bo.symm];exact c3 (h.join<|nL λk=>!mN k (X.getD a.C 0+32), -1,a) ⟨FD,au.HL bo B0,⟨(by decide:(-1:Int)<=-1),(by decide:(-1:Int)<256)⟩,aK⟩
  rw[show ih X h a=⟨h, -1,bE a a.C 6⟩ by simp_all[ih,aa]];refine bk [(6000,6000)] ?_ (i:=o8 X a a.C 6);refine fb ?_ (av:=gt bo);refine iG (bg h) ?_ (h1:=(fj).trans bo) (dX:=hl);exact pD aZ<|.ln rfl rfl rfl rfl rfl (nl bo) ((fj).trans bo)<|.tmp rfl .nil
 let⟨o,l,y⟩:=m;let⟨he,t,⟨U,W⟩,dc⟩:=ap;dsimp only at he t U W dc⊢;rw[he];refine dK ((y.C+1:Nat):Int) ?_;apply j<;>intro aw
 .rw[show mH o l y=⟨o.set l.toNat true,l,y.step⟩ by rw[mH,ab v]];have u:(o.set l.toNat true).length=256:=by rw[lL];exact t
  refine iF l.toNat l.toNat ?_ (ii:=by show l.toNat=0+l.toNat*1;omega);refine pP (bg<|o.set l.toNat true) ?_ (i2:=KS) (aG:=Tr o v)
  first|refine fb ?_ (av:=gt u)|refine fb ?_ (av:=gt t)
  first|refine iG (bg<|o.set l.toNat true) ?_ (h1:=(fj).trans u) (dX:=hl)|refine iG (bg o) ?_ (h1:=(fj).trans t) (dX:=hl)
  exact pD aZ<|.ln rfl rfl rfl rfl rfl (nl u) ((fj).trans u)<|.tmp rfl .nil
 rw[show mH o l y=⟨o,l,y.step⟩ by rw[mH,aa v]]
 first|refine fb ?_ (av:=gt u)|refine fb ?_ (av:=gt t)
 first|refine iG (bg<|o.set l.toNat true) ?_ (h1:=(fj).trans u) (dX:=hl)|refine iG (bg o) ?_ (h1:=(fj).trans t) (dX:=hl)
 exact pD aZ<|.ln rfl rfl rfl rfl rfl (nl t) ((fj).trans t)<|.tmp rfl .nil
theorem qV{b:List UInt8}{a:Q}{e:UInt8}(g:a.ok b)(c:dN b a e):a.C<b.length/\a.no=0/\bF b a=e:=by unfold dN at c;split at c;cases c;let h:=g.1;grind[UInt8.toNat_inj]
theorem gb{a:List UInt8}{b:Q}{t:UInt8}(c:b.ok a):(ah a b t).ok a:=by grind[ah,Q.pQ,qV]
def D_{a:List UInt8}{b:Q}{c:UInt8}(e:b.ok a):(fF a b c).ok a:=by grind[fF,Q.pQ,qV,mU]
theorem aif{a:List UInt8}{b:Q}(g:b.ok a):(mJ a b).2.ok a/\(mJ a b).1<256:=by unfold mJ;let c:=HA<|bF a b;let e:=HA<|bF a b.step;grind[Q.pQ,Dl,mU,hp,bF]
theorem sq{X:List UInt8}{D:Q}(e:D.ok X):(df X D).r.ok X/\(df X D).c<256/\(df X D).s.length=256:=by unfold df;split;grind[Q.pQ,Gz,AA];split;rename_i a;exact⟨Q.pQ e (ze _ aj a).1,UInt8.toNat_lt _,eN⟩;split;let h:=(vS (X:=X) (D:=D) λg=>b).1;grind[aif,Q.pQ,eN];split;rename_i a;exact⟨Q.pQ e (ze _ aj a.2).1,UInt8.toNat_lt _,eN⟩;grind[mU,eN]
def hv(b:List UInt8)(a:Q)(c:List UInt8):Nat×Q:=if((bF b a).toNat<32\/126<(bF b a).toNat)\/0<=Go.Lib.indexByte c (bF b a) then(0,bE a a.C 6) else((bF b a).toNat,a.step)
theorem xP{X:List UInt8}{D:Q}{EJ:List UInt8}(e:D.ok X):(hv X D EJ).2.ok X/\(hv X D EJ).1<256:=by unfold hv;split;grind[mU];let c:=(vS (X:=X) (D:=D) λa=>b).1;grind[Q.pQ,UInt8.toNat_lt]
def mL:List UInt8:=[92,91,93,94,45]
def l4(b:au)(c:Nat)(low high:Nat)(a:Q):au×Q:=if a.no≠0 then(b,a) else if high<low then(b,bE a c 9) else(b.add low high,a)
def n_(a:List UInt8)(g:au)(e:Nat)(low:Nat)(b:Q):au×Q:=if dN a b 45 then
  if dN a (ah a b 45) 92 then
   l4 g e low (df a<|ah a (ah a b 45) 92).c (if(df a<|ah a (ah a b 45) 92).many then bE (df a<|ah a (ah a b 45) 92).r (ah a (ah a b 45) 92).C 6 else(df a<|ah a (ah a b 45) 92).r)
  else l4 g e low (hv a (ah a (ah a b 45) 92) mL).1 (hv a (ah a (ah a b 45) 92) mL).2
 else l4 g e low low (ah a b 45)
def hV(a:List UInt8)(e:au)(b:Q):au×Q:=if dN a b 92 then
  if(df a<|ah a b 92).many then(e.join (df a<|ah a b 92).s,(df a<|ah a b 92).r)
  else n_ a e b.C (df a<|ah a b 92).c (df a<|ah a b 92).r
 else n_ a e b.C (hv a (ah a b 92) mL).1 (hv a (ah a b 92) mL).2
def OP(X:List UInt8)(D:Q)(a:List UInt8)(e:D.ok X):cK 324 [g 6000,.str a] [(6000,.cell 242 (ce X D))] (q (hv X D a).1) [(6000,.cell 242 (ce X (hv X D a).2))]:=by
 refine cX func324 [] λt h l=>?_;have s:=e.2;refine oO ?_ (i:=sM X D e);refine dD ?_;apply cs;refineλp=>bT ?_ (i:=HG _ _);exact rfl;apply j<;>intro o
 .have c:((bF X D).toNat<32\/126<(bF X D).toNat)\/0<=Go.Lib.indexByte a (bF X D):=by first|omega|(omega)
  rw[show hv X D a=(0,bE D D.C 6) by rw[hv,ab c]];refine bk [(6000,6000)] ?_ (i:=vn X D D.C 6);exact cH
 have c:¬(((bF X D).toNat<32\/126<(bF X D).toNat)\/0<=Go.Lib.indexByte a (bF X D)):=by first|omega|(omega)
 let⟨m,r⟩:=vS (X:=X) (D:=D) λk=>b;rw[show hv X D a=((bF X D).toNat,D.step) by rw[hv,aa c]];refine dK ((D.C+1:Nat):Int)<|k4 ((bF X D).toNat:Nat) (qA:=zN)<|cH
def aiS(a:List UInt8)(h:au)(e:Q)(w:e.ok a)(B:h.length=256):cK 338 [g 6000,g 6001] [(6000,.cell 242 (ce a e)),(6001,.cell 262 (bg h))] (.tuple []) [(6000,.cell 242 (ce a (hV a h e).2)),(6001,.cell 262 (bg (hV a h e).1))]:=by
 refine cX func338 [19,35] λM G H=>?_;let L:=w.2;let o:=gb (t:=92) w;let m:=sq o;let A:=xP (EJ:=mL) o;refine gK (Nat×Q) (λb=>⟨[(0,g 6000),(1,g 6001),(4,q e.C),(5,q b.1)],[(6000,.cell 242<|ce a b.2),(6001,.cell 262<|bg h)],[]⟩) (λb=>hV a h e=n_ a h e.C b.1 b.2/\b.2.ok a/\b.1<256) ?_ λb dA=>?_
 .refine bk [(6000,6000)] ?_ (i:=pd a e 92 w);apply j<;>intro x
  .refine bk [(6000,6000)] ?_ (i:=Mj a (ah a e 92) o);refine jS (bg bP) ?_ (dA:=ax);refine iG (bg (df a<|ah a e 92).s) ?_ (h1:=(fj).trans m.2.2) (dX:=hl);apply j<;>intro D
   .rw[show hV a h e=(h.join (df a (ah a e 92)).s,(df a (ah a e 92)).r) by simp_all[hV,ab]];refine fb ?_ (av:=gt m.2.2);refine bk [(6000,6001)] ?_ (i:=aee h (df a<|ah a e 92).s B m.2.2);exact cH
   exact c3 ((df a<|ah a e 92).c,(df a<|ah a e 92).r) ⟨by rw[hV,ab x,aa D],m.1,m.2.1⟩
  refine bk [(6000,6000)] ?_ (i:=OP a (ah a e 92) mL o);exact c3 ((hv a (ah a e 92) mL).1,(hv a (ah a e 92) mL).2) ⟨by rw[hV,aa x],A.1,A.2⟩
 let u:=gb (t:=45) dA.2.1;refine gK (Nat×Q) (λk=>⟨[(0,g 6000),(1,g 6001),(4,q e.C),(5,q b.1),(9,q k.1)],[(6000,.cell 242<|ce a k.2),(6001,.cell 262<|bg h)],[]⟩) (λk=>n_ a h e.C b.1 b.2=l4 h e.C b.1 k.1 k.2/\k.2.ok a/\k.1<256) ?_ λk F=>?_
 .refine bk [(6000,6000)] ?_ (i:=pd a b.2 45 dA.2.1);apply j<;>intro y
  .let p:=gb (t:=92) u;let l:=sq p;let z:=xP (EJ:=mL) p;refine bk [(6000,6000)] ?_ (i:=pd a (ah a b.2 45) 92 u);apply j<;>intro E
   .refine bk [(6000,6000)] ?_ (i:=Mj a (ah a (ah a b.2 45) 92) p);refine jS (bg bP) ?_ (dA:=ax);refine iG (bg (df a<|ah a (ah a b.2 45) 92).s) ?_ (h1:=(fj).trans l.2.2) (dX:=hl);apply j<;>intro I
    .refine bk [(6000,6000)] ?_ (i:=vn a (df a<|ah a (ah a b.2 45) 92).r (ah a (ah a b.2 45) 92).C 6);exact c3 ((df a<|ah a (ah a b.2 45) 92).c,bE (df a<|ah a (ah a b.2 45) 92).r (ah a (ah a b.2 45) 92).C 6) ⟨by simp_all[n_,ab],mU l.1,l.2.1⟩
    exact c3 ((df a<|ah a (ah a b.2 45) 92).c,(df a<|ah a (ah a b.2 45) 92).r) ⟨by simp_all[n_,ab,aa],l.1,l.2.1⟩
   refine bk [(6000,6000)] ?_ (i:=OP a (ah a (ah a b.2 45) 92) mL p);exact c3 ((hv a (ah a (ah a b.2 45) 92) mL).1,(hv a (ah a (ah a b.2 45) 92) mL).2) ⟨by rw[n_,ab y,aa E],z.1,z.2⟩
  exact c3 (b.1,ah a b.2 45) ⟨by rw[n_,aa y],u,dA.2.2⟩
 apply j<;>intro J
 .rw[show hV a h e=(h,k.2) by simp_all[l4,ab]];exact cH
 apply j<;>intro K
 .rw[show hV a h e=(h,bE k.2 e.C 9) by simp_all[l4,aa,ab]];refine bk [(6000,6000)] ?_ (i:=vn a k.2 e.C 9);exact cH
 rw[show hV a h e=(h.add b.1 k.1,k.2) by simp_all[l4,aa]];refine bk [(6000,6001)] ?_ (i:=rg h b.1 k.1 B F.2.2);exact cH
def hK(b:List UInt8)(c:au)(a:Q):wD:=if(!ik b a.C||!b1 b a.C 92&&eX tS (b.getD a.C 0)) then⟨c, -1,bE a a.C 6⟩
 else if b1 b a.C 92 then ih b c a.step
 else⟨c.set (b.getD a.C 0).toNat true,(b.getD a.C 0).toNat,a.step⟩
structure FT(X:List UInt8)(D:Q)(Z:wD):Prop where
 len:Z.s.length=256
 mM:-1<=Z.n
 p:Z.n<256
 ok:Z.r.ok X
 j4:D.no=0->Z.r.no=0->D.C<Z.r.C
def Q.ok.qK{c:List UInt8}{b:Q}(a:b.ok c):F4 c b:=⟨by have:=a.1;have:=a.2;omega,a.2⟩
theorem AR(a:Q)(b c:Int):(bE a b c).C=a.C:=by grind[bE]
theorem gC{b:Q}{a Y:Int}(c:Y≠0):(bE b a Y).no≠0:=by grind[bE]
def y6{c:List UInt8}{g:au}{a:Int}{b e:Q}(m:g.length=256)(i:-1<=a)(j:a<256)(k:b.C<c.length)(l:c.length<=2000)(h:e.C<=b.C):FT c e (mH g a b):=by refine⟨?_,i,j,⟨k,l⟩,λ_ _=>Nat.lt_succ_of_le h⟩;grind[mH,List.length_set]
def UZ{X:List UInt8}{E:Nat}(a:0<=hU X E):E<X.length:=by grind[hU]
def G7{X:List UInt8}{O:au}{D:Q}(j:D.ok X)(g:O.length=256):FT X D (ih X O D):=by
 have a:=j.2;have e:∀{c:Q}{E:Int},c.ok X->FT X D ⟨O, -1,bE c E 6⟩:=λ{c E} k=>⟨g,zY _,(by decide:(-1:Int)<256),mU k (E:=E) (Y:=6),λ_ h=>absurd h<|gC aj⟩;unfold ih;split;simp_all;have i:=zv (X:=X) (E:=D.C) b;have o:((X.getD D.C 0).toNat:Int)<256:=by have:=(X.getD D.C 0).toNat_lt;omega
 split;simp_all[y6,a1];split;simp_all[y6,a1];split;simp_all[y6,a1];split;simp_all[y6,a1];split;split;exact e ⟨i,a⟩;have l:=UZ (X:=X) (E:=D.C+1) v;split;exact e ⟨l,a⟩;have m:=UZ (X:=X) (E:=D.C+2) v;have p:=G6 (X:=X) (E:=D.C) (F:=2) λr q=>by grind
 exact y6 g v v m a (by show D.C<=D.C+2;omega);split;simp_all[y6,au.HL,B0,a1];split;simp_all[y6,au.HL,B0,a1];simp_all
def i5{b:List UInt8}{a:Nat}{c:UInt8}(e:b1 b a c):a<b.length/\((b.getD a 0).toNat:Int)=c.toNat:=by unfold b1 at e<;>grind
def EL{X:List UInt8}{O:au}{D:Q}(a:D.ok X)(e:O.length=256):FT X D (hK X O D):=by
 unfold hK;split;exact⟨e,zY _,(by decide:-1<256),mU a,λ_ b=>absurd b<|gC aj⟩;let i:ik X D.C:=by cases b:ik X _ with|true=>rfl|false=>simp_all
 let c:=zv i;split;have:=G7 (D:=D.step) ⟨c,a.2⟩ e;exact⟨this.len,this.mM,this.p,this.ok,λg h=>by have:=this.j4 g h;let j:D.step.C=D.C+1:=rfl;omega⟩;refine⟨aK,?_,?_,⟨c,a.2⟩,λ_ _=>uM _⟩;simp;show((X.getD _ 0).toNat:Int)<256;have:=(X.getD D.C 0).toNat_lt;omega
def ZA(X:List UInt8)(O:au)(D:Q)(b:D.ok X)(a:O.length=256):cK 307 [g 6000,bg O] [(6000,.cell 166 (ce X D))] (.tuple [bg (hK X O D).s,.int .i64 (hK X O D).n]) [(6000,.cell 166 (ce X (hK X O D).r))]:=by
 refine cX func307 [] λx p t=>?_;let⟨h1,dX⟩:=id b;refine jS (bg bP) ?_ (dA:=ax);refine c7 ?_;refine hR ?_ (i:=OV X D b.qK);apply cs;intro o;refine hR ?_ (i:=n9 X D 92 b.qK);apply b2;intro w;have h:ik X D.C:=by simpa using o
 have k:=zv h;refine mQ D.C ?_;refine bT ?_ (i:=zs tS aj);exact rfl;exact rfl;apply j<;>intro l
 .have e:(!ik X D.C||!b1 X D.C 92&&eX tS (X.getD D.C 0)):=by simpa[eg] using l
  rw[show hK X O D=⟨O, -1,bE D D.C 6⟩ by rw[hK,ab e]];refine bk [(6000,6000)] ?_ (i:=o8 X D D.C 6);refine fb ?_ (av:=gt a);refine iG (bg O) ?_ (h1:=(fj).trans a) (dX:=hl);exact pD aZ<|.ln rfl rfl rfl rfl rfl (nl a) ((fj).trans a)<|.tmp rfl .nil
 have e:¬(!ik X D.C||!b1 X D.C 92&&eX tS (X.getD D.C 0)):=by simpa[eg] using l
 have h:ik X D.C:=by cases q:ik X D.C with|true=>rfl|false=>simp_all
 have k:=zv h;refine oO ?_ (i:=n9 X D 92 b.qK);apply j<;>intro m
 .have he:=G7 (X:=X) (O:=O) (D:=D.step) ⟨k,b.2⟩ a;rw[show hK X O D=ih X O D.step by rw[hK,aa e,ab m]];refine dK ((D.C+1:Nat):Int) ?_;refine fb ?_ (av:=gt a);refine bk [(6000,6000)] ?_ (i:=Zn X O D.step ⟨by show D.C+1<=100000;omega,b.2⟩ a);refine iG (bg (ih X O D.step).s) ?_ (h1:=(fj).trans he.len) (dX:=hl);exact pD aZ<|.ln rfl rfl rfl rfl rfl (nl he.len) ((fj).trans he.len)<|.tmp rfl .nil
 have c:(O.set (X.getD D.C 0).toNat true).length=256:=by rw[lL];exact a
 have u:=(X.getD D.C 0).toNat_lt;rw[show hK X O D=⟨O.set (X.getD D.C 0).toNat true,(X.getD D.C 0).toNat,D.step⟩ by simp_all[hK,aa]];refine c7 ?_;refine mQ D.C ?_;refine k4 ((X.getD D.C 0).toNat:Nat) ?_ (qA:=zN);refine dK ((D.C+1:Nat):Int) ?_;refine iF (X.getD D.C 0).toNat (X.getD D.C 0).toNat ?_ (ii:=by show(X.getD D.C 0).toNat=0+(X.getD D.C 0).toNat*1;omega);refine pP (bg<|O.set (X.getD D.C 0).toNat true) ?_ (i2:=KS) (aG:=Tr O v);refine fb ?_ (av:=gt c);refine iG (bg<|O.set (X.getD D.C 0).toNat true) ?_ (h1:=(fj).trans c) (dX:=hl);exact pD aZ<|.ln rfl rfl rfl rfl rfl (nl c) ((fj).trans c)<|.tmp rfl .nil
def AI:List UInt8:=[100,119,115,68,87,83]
def CM(c:Nat)(b:Int)(a:wD):au×Q:=if a.r.no=0/\a.n<b then(a.s,bE a.r c 9)
 else if a.r.no=0 then(a.s.add b.toNat a.n.toNat,a.r) else(a.s,a.r)
def ri(b:List UInt8)(c:Nat)(a:wD):au×Q:=if a.r.no≠0\/b1 b a.r.C 45=false then(a.s,a.r)
 else if a.n<0 then(a.s,bE a.r a.r.C 6)
 else if(a.r.C+2<b.length/\b1 b (a.r.C+1) 92)/\eX AI (b.getD (a.r.C+2) 0) then(a.s,bE a.r.step (a.r.C+2:Nat) 6)
 else CM c a.n (hK b a.s a.r.step)
def rh(b:List UInt8)(c:au)(a:Q):au×Q:=ri b a.C<|hK b c a
def i0(c:List UInt8):Nat->au->Q->au×Q|0,b,a=>(b,a)|e+1,b,a=>if a.no=0/\b1 c a.C 93=false then i0 c e (rh c b a).1 (rh c b a).2 else(b,a)
theorem CL{e:List UInt8}{b:Nat}{c:au}{a:Q}(g:¬(a.no=0/\b1 e a.C 93=false)):i0 e b c a=(c,a):=by cases b with|zero=>rfl|succ b=>rw[i0,aa g]
def kW(b:List UInt8)(a:Q):Q:=if b1 b a.C 94 then a.step else a
def va(a:List UInt8)(b:Q):ao×Q:=(hT<|if b1 a b.C 94 then(i0 a (a.length+1) bP<|kW a b).1.others else(i0 a (a.length+1) bP<|kW a b).1,(i0 a (a.length+1) bP<|kW a b).2.step)
structure acF(X:List UInt8)(D:Q)(Z:au×Q):Prop where
 len:Z.1.length=256
 ok:Z.2.ok X
 j4:D.no=0->Z.2.no=0->D.C<Z.2.C
def Gy{X:List UInt8}{O:au}{D:Q}(e:D.ok X)(m:O.length=256):acF X D (rh X O D):=by
 let b:=EL e m;unfold rh ri;split;exact⟨b.len,b.ok,b.j4⟩;let l:b1 X (hK X O D).r.C 45:=by cases a:b1 X _ 45 with|true=>rfl|false=>simp_all
 let i:=(i5 l).1;split;exact⟨b.len,mU b.ok,λ_ a=>absurd a<|gC aj⟩;split;exact⟨b.len,mU (D:=(hK X O D).r.step) ⟨i,e.2⟩,λ_ a=>absurd a<|gC aj⟩;let c:=EL (D:=(hK X O D).r.step) ⟨i,e.2⟩ b.len;unfold CM;let g:(hK X O D).r.no=0:=by rcases wj ((hK X O D).r.no=0) with a|a;exact a;omega
 let h:D.no=0->(hK X _ _).r.no=0->D.C<(hK X (hK X O D).s (hK X O D).r.step).r.C:=λj k=>by let o:=b.j4 j g;let p:=c.j4 g k;let q:(hK X O D).r.step.C=(hK X O D).r.C+1:=rfl;omega
 split;exact⟨c.len,mU c.ok,λ_ a=>absurd a<|gC aj⟩;split;exact⟨(au.tp ..).trans c.len,c.ok,h⟩;exact⟨c.len,c.ok,h⟩
def Sy{X:List UInt8}:∀{F:Nat}{b:au}{a:Q},a.ok X->b.length=256->(i0 X F b a).2.ok X/\(i0 X F b a).1.length=256|0,b,a,c,e=>⟨c,e⟩|F+1,b,a,c,e=>by rw[i0];split;have:=Gy c e;exact Sy this.ok this.len;trivial
theorem au.amm(b:au){a:Nat}(c:a<b.length):(b.hG a).getD a false=b.getD a false:=by simp[au.hG,cg,Qi,bw]
def Ke(b:List UInt8)(a:Q)(c:List (Nat×V))(e:bb):am:=⟨(0,g 6000)::(2,g 2)::(3,g 3)::(4,.bool<|b1 b a.C 94)::c,e,[]⟩
def afe(X:List UInt8)(D:Q)(ae:D.ok X)(aE:D.no=0):cK 282 [g 6000] [(6000,.cell 166 (ce X D))] (rn (va X D).1) [(6000,.cell 166 (ce X (va X D).2))]:=by
 refine cX func282 [12,115] λbi a3 a6=>?_;let⟨h1,dX⟩:=id ae;have aP:(kW X D).ok X/\(kW X D).no=0:=by unfold kW;split;rename_i h;exact⟨⟨(i5 h).1,dX⟩,aE⟩;trivial
 refine jS (bg bP) ?_ (dA:=ax);refine oO ?_ (i:=n9 X D 94 ae.qK);refine gK Unit (λF=>Ke X D [] [(2,.cell 126<|V.zero jN.z),(3,.cell 261<|bg bP),(6000,.cell 166<|ce X<|kW X D)]) (λ_=>True) ?_ λF dA=>?_
 .apply j<;>intro N
  .refine dK ((D.C+1:Nat):Int) ?_;rw[kW,ab N];exact c3 ()
  rw[kW,aa N];exact c3 ()
 refine cQ (au×Q×Nat) (λm=>Ke X D [] [(2,.cell 126<|V.zero jN.z),(3,.cell 261<|bg m.1),(6000,.cell 166<|ce X m.2.1)]) (λm=>m.1.length=256/\m.2.1.ok X/\(m.2.1.no=0->X.length<m.2.1.C+m.2.2)/\i0 X (X.length+1) bP (kW X D)=i0 X m.2.2 m.1 m.2.1) (λm=>m.2.2) (bP,kW X D,X.length+1) (λ⟨O,e,t⟩ ⟨x,E,ai,J⟩=>?_) ⟨eN,aP.1,λ_=>aK,rfl⟩;dsimp only at x E ai J⊢;have be:=E.1;apply b2;intro a9;refine hR ?_ (i:=n9 X e 93 E.qK);exact rfl;apply j<;>intro R
 .have G:e.no=0/\b1 X e.C 93=false:=by simpa[eg] using R
  have Z:=G.1;have bc:=ai Z;have A:i0 X (X.length+1) bP (kW X D)=i0 X (t-1) (rh X O e).1 (rh X O e).2:=by obtain⟨ak,rfl⟩:∃ak,t=ak+1:=⟨t-1,v⟩;rw[J,i0,ab G];rfl
  have cp:=Gy (X:=X) (O:=O) E x;have dA:=EL (X:=X) (O:=O) E x;unfold rh at A cp;refine fb ?_ (av:=gt x);refine bk [(6000,6000)] ?_ (i:=ZA X O e E x);generalize hK X O e=F at dA A cp⊢;let⟨l,y,c⟩:=F;let⟨B,aR,aS,ag,aT⟩:=dA;dsimp only at B aR aS ag aT⊢;refine iG (bg l) ?_ (h1:=(fj).trans B) (dX:=(fj).trans x);apply cs;intro a_;refine hR ?_ (i:=n9 X c 45 ag.qK);exact rfl;apply j<;>intro aI
  .have w:ri X e.C ⟨l,y,c⟩=(l,c):=by rw[ri,ab b]
   rw[w] at cp;exact aB (l,c,t-1) ⟨cp.len,cp.ok,λh=>aM,A.trans (by rw[w])⟩ aK
  have H:¬(c.no≠0\/b1 X c.C 45=false):=by simpa[eg] using aI
  have bf:c.no=0:=jZ λh=>H<|.inl h;have aF:b1 X c.C 45:=by cases h:b1 X c.C 45 with|true=>rfl|false=>simp_all
  have U:=(i5 aF).1;apply j<;>intro I
  .have w:ri X e.C ⟨l,y,c⟩=(l,bE c c.C 6):=by rw[ri,aa H,ab I]
   rw[w] at cp;refine bk [(6000,6000)] ?_ (i:=o8 X c c.C 6);exact aB (l,bE c c.C 6,t-1) ⟨cp.len,cp.ok,λh=>absurd h<|gC aj,A.trans (by rw[w])⟩ aK
  refine dK ((c.C+1:Nat):Int) ?_;refine c7 ?_;refine dK ((c.C+2:Nat):Int) ?_;apply b2;intro ba;refine hR ?_ (i:=n9 X c.step 92 ⟨by show c.C+1<=100000;omega,dX⟩);exact rfl;apply b2;intro bb;refine dK ((c.C+2:Nat):Int) ?_;refine mQ (c.C+2) ?_ (p:=v);refine bT ?_ (i:=zs AI aj);exact rfl;apply j<;>intro S
  .have w:ri X e.C ⟨l,y,c⟩=(l,bE c.step (c.C+2:Nat) 6):=by rw[ri,aa H,aa I,ab];have:=S;simp[eg] at this;exact⟨⟨aK,this.1.2⟩,this.2⟩
   rw[w] at cp;refine dK ((c.C+2:Nat):Int) ?_;refine bk [(6000,6000)] ?_ (i:=o8 X c.step (c.C+2:Nat) 6);exact aB (l,bE c.step (c.C+2:Nat) 6,t-1) ⟨cp.len,cp.ok,λh=>absurd h<|gC aj,A.trans (by rw[w])⟩ aK
  have L:ri X e.C ⟨l,y,c⟩=CM e.C y (hK X l c.step):=by rw[ri,aa H,aa I,aa];intro h;refine S ?_;simp[eg];have aC:c.C+2<X.length:=h.1.1;exact⟨⟨v,h.1.2⟩,h.2⟩
  have aG:=EL (X:=X) (O:=l) (D:=c.step) ⟨U,dX⟩ B;refine fb ?_ (av:=gt B);refine bk [(6000,6000)] ?_ (i:=ZA X l c.step ⟨U,dX⟩ B);generalize hK X l c.step=a2 at aG L⊢;let⟨u,o,s⟩:=a2;let⟨ah,aU,aV,aW,aX⟩:=aG;dsimp only at ah aU aV aW aX⊢;obtain⟨k,aN⟩:∃k:Nat,y=(k:Int):=⟨y.toNat,v⟩;subst aN;refine iG (bg u) ?_ (h1:=(fj).trans ah) (dX:=(fj).trans B);refine gK Unit (λF=>Ke X D [(6,q k),(7,.int .i64 o)] [(2,.cell 126<|V.zero jN.z),(3,.cell 261<|bg u),(6000,.cell 166<|ce X<|if s.no=0/\o<(k:Int) then bE s e.C 9 else s)]) (λ_=>True) ?_ λF dA=>?_
  .refine fM ?_;apply j<;>intro a8
   .refine bk [(6000,6000)] ?_ (i:=o8 X s e.C 9);rw[ab v];exact c3 ()
   rw[aa v];exact c3 ()
  generalize ad:(if s.no=0/\o<(k:Int) then bE s e.C 9 else s)=r;have aO:r.no=0->((k:Nat):Int)<=o+1:=λh=>by
   rcases wj (s.no=0/\o<(k:Int)) with ao|ao;grind[absurd,gC]
   (simp_all;omega)
  rw[show bg u=bg (u.lT k k) by rw[au.Aq]];refine cQ Nat (λa=>Ke X D [(7,.int .i64 o),(8,q a)] [(2,.cell 126<|V.zero jN.z),(3,.cell 261<|bg<|u.lT k a),(6000,.cell 166<|ce X r)]) (λa=>k<=a/\(r.no≠0->a=k)/\(r.no=0->(a:Int)<=o+1)) (λa=>256-a) k (λa p=>?_) ⟨a1 _,λ_=>rfl,aO⟩;refine fM ?_;apply j<;>intro P
  .have T:(a:Int)<=o/\r.no=0:=by simpa[eg] using P
   refine iF a a ?_ (ii:=by show a=0+a*1;omega);refine pP (bg<|u.lT k<|a+1) ?_ (i2:=by grind[fj,au.Lb]) (aG:=Tp (O:=u) v v);refine dK ((a+1:Nat):Int) ?_;exact aB (a+1) ⟨v,λh=>absurd T.2 h,λ_=>v⟩
  have T:¬((a:Int)<=o/\r.no=0):=by simpa[eg] using P
  have M:ri X e.C ⟨l,(k:Int),c⟩=(u.lT k a,r):=by
   let⟨aC,a5,aD⟩:=p;rw[L,CM];by_cases an:s.no=0/\o<(k:Int);grind[au.Aq];rw[aa an] at ad⊢;by_cases K:s.no=0;rw[ab K];have fI:r.no=0:=by rw[<-ad];exact K
   have lp:=aD fI;have R8:a=o.toNat+1:=v;grind[au.La,Int.toNat_natCast];simp_all[aa,au.Aq]
  rw[M] at cp;exact aB (u.lT k a,r,t-1) ⟨cp.len,cp.ok,λh=>by have a4:e.C<r.C:=cp.j4 Z h;(simp;omega),A.trans (by rw[M])⟩ aK
 have G:¬(e.no=0/\b1 X e.C 93=false):=by simpa[eg] using R
 rw[CL G] at J;refine dK ((e.C+1:Nat):Int) ?_;rw[show bg O=bg (O.hG 0) by rw[au.Eb]];refine eH 256 (λa=>b1 X D.C 94=false->a=0) (λa=>⟨[(2,g 2),(3,g 3),(4,.bool<|b1 X D.C 94),(9,q a)],[(2,.cell 126<|V.zero jN.z),(3,.cell 261<|bg<|O.hG a),(6000,.cell 166<|ce X e.step)],[]⟩) (λa p=>?_) λ_=>rfl;refine fM ?_;apply j<;>intro aH
 .refine iF a a ?_ (ii:=by show a=0+a*1;omega);refine ga (.bool<|O.getD a false) ?_ (dc:=by grind[au.amm,yW,au.vP]);refine iF a a ?_ (ii:=by show a=0+a*1;omega);refine pP (bg<|O.hG<|a+1) ?_ (i2:=by grind[fj,au.vP]) (aG:=Tq (O:=O) v rfl);refine dK ((a+1:Nat):Int) ?_;exact aB (a+1) ⟨v,λh=>b⟩
 have aL:¬((a:Int)<256/\b1 X D.C 94):=by simpa[eg] using aH
 have bd:(if b1 X D.C 94 then O.others else O)=O.hG a:=by by_cases h:b1 X D.C 94;have:¬(a:Int)<256:=λe=>aL ⟨e,h⟩;rw[ab h,au.XY (O:=O) v];simp_all[aa,au.Eb]
 have Y:(O.hG a).length=256:=by rw[au.vP];exact x
 have W:=WC (O.hG a) Y;obtain⟨aw,aA,ap,aq,ay,aJ⟩:∃t a0 al am aY,hT (O.hG a)=.mk t a0 al am aY:=by cases hT (O.hG a)<;>simp_all
 rw[aJ] at W;rw[show va X D=(.mk aw aA ap aq ay,e.step) by grind[va]];refine fb ?_ (av:=gt Y);refine az ?_ (i:=W);exact gX aZ
def Q.ko(a b:Q):Prop:=(a.no≠0->b=a)/\(a.no=0->b.no≠0\/a.C<=b.C)
def Q.jG(a b:Q):Prop:=(a.no≠0->b=a)/\(a.no=0->b.no≠0\/a.C<b.C)
theorem Q.ko.refl(a:Q):a.ko a:=⟨λ_=>rfl,λ_=>.inr<|a1 _⟩
def Q.jG.le{c b:Q}(a:c.jG b):c.ko b:=⟨a.1,λe=>(a.2 e).imp id tb⟩
theorem Q.ko.trans{g c h:Q}(j:g.ko c)(b:c.ko h):g.ko h:=by refine⟨λa=>?_,λa=>?_⟩;have:=j.1 a;subst this;exact b.1 a;rcases j.2 a with e|e;have:=b.1 e;simp_all;by_cases i:c.no=0;exact(b.2 i).imp id λk=>cA e k;have:=b.1 i;simp_all
theorem Q.jG.trans{g c h:Q}(j:g.jG c)(b:c.ko h):g.jG h:=by refine⟨λa=>?_,λa=>?_⟩;have:=j.1 a;subst this;exact b.1 a;rcases j.2 a with e|e;have:=b.1 e;simp_all;by_cases i:c.no=0;exact(b.2 i).imp id λk=>h3 e k;have:=b.1 i;simp_all
def Q.ko.sX{g c h:Q}(j:g.ko c)(b:c.jG h):g.jG h:=by refine⟨λa=>?_,λa=>?_⟩;have:=j.1 a;subst this;exact b.1 a;rcases j.2 a with e|e;have:=b.1 e;simp_all;by_cases i:c.no=0;exact(b.2 i).imp id λk=>FA e k;have:=b.1 i;simp_all
def vJ{c:Q}{e b:Int}(g:b≠0):c.jG (bE c e b):=by unfold bE;refine⟨λa=>aa a,λa=>.inl ?_⟩;simp_all
def ry{a:Q}(c:a.no=0):a.jG a.step:=⟨λb=>absurd c b,λ_=>.inr<|uM _⟩
theorem oc{b:List UInt8}{a:Q}{t:UInt8}(e:a.ok b):a.ko (ah b a t):=by unfold ah;split;rename_i c;exact(ry (qV e c).2.1).le;exact .refl a
def DH{b:List UInt8}{a:Q}{c:UInt8}(g:a.ok b):a.jG (fF b a c):=by unfold fF;split;rename_i e;exact ry (qV g e).2.1;simp[vJ]
def NO{X:List UInt8}{a:Q}{c:List UInt8}:a.jG (hv X a c).2:=by unfold hv;split;simp[vJ];exact ry (vS (X:=X) λe=>b).2
def akq{e:List UInt8}{b:Q}:b.jG (mJ e b).2:=by unfold mJ;split;simp[vJ];rename_i a;split;exact(ry (Dl a).2).trans (vJ aj).le;rename_i c;exact(ry (Dl a).2).trans (ry (Dl c).2).le
def Bh{X:List UInt8}{c:Q}:c.jG (df X c).r:=by unfold df;split;rename_i a;exact ry (Gz a).2;split;rename_i a;exact ry (ze _ aj a).2;split;exact(ry (vS (X:=X) λe=>b).2).trans akq.le;split;rename_i a;exact ry (ze _ aj a.2).2;simp[vJ]
def Nu{g:au}{b e c:Nat}{a:Q}:a.ko (l4 g b e c a).2:=by unfold l4;split;exact .refl a;split;exact(vJ aj).le;exact .refl a
theorem aiR{h:List UInt8}{b:au}{c g e:Nat}{a:Q}(i:a.ok h)(j:b.length=256):(l4 b c g e a).2.ok h/\(l4 b c g e a).1.length=256:=by grind[l4,mU,au.tp,trans]
def V4{g:List UInt8}{j:au}{h i:Nat}{a:Q}(e:a.ok g):a.ko (n_ g j h i a).2:=by let b:=oc (t:=45) e;unfold n_;split;let c:=b.trans<|oc (t:=92)<|gb (t:=45) e;split;refine c.trans<|.trans ?_ Nu;split;exact Bh.le.trans (vJ aj).le;exact Bh.le;exact c.trans<|NO.le.trans Nu;exact b.trans Nu
theorem aiQ{a:List UInt8}{c:au}{e g:Nat}{b:Q}(h:b.ok a)(j:c.length=256):(n_ a c e g b).2.ok a/\(n_ a c e g b).1.length=256:=by let i:=gb (t:=45) h;let k:=gb (t:=92) i;grind[n_,aiR,mU,sq,xP]
def NN{g:List UInt8}{O:au}{b:Q}(c:b.ok g):b.jG (hV g O b).2:=by let a:=oc (t:=92) c;let e:=gb (t:=92) c;unfold hV;split;split;exact a.sX Bh;exact(a.sX Bh).trans<|V4 (sq e).1;exact(a.sX NO).trans<|V4 (xP e).1
def Dt{a:List UInt8}{c:au}{b:Q}(e:b.ok a)(g:c.length=256):(hV a c b).2.ok a/\(hV a c b).1.length=256:=by let h:=gb (t:=92) e;unfold hV;grind[sq,au.ai3,trans,aiQ,xP]
def DK(b:List UInt8)(a:Q):Nat:=if a.no=0 then b.length+1-a.C else 0
def akE{b:List UInt8}{a c:Q}(i:a.jG c)(e:a.no=0)(h:a.ok b):DK b c<DK b a:=by have:=h.1;unfold DK;split;rcases i.2 e with g|g;omega;omega;omega
def m0:Nat->List UInt8->au->Q->au×Q|0,_,b,a=>(b,a)|e+1,c,b,a=>if a.no=0/\(bF c a).toNat≠93 then m0 e c (hV c b a).1 (hV c b a).2 else(b,a)
def ZR{b:Nat}{e:List UInt8}{c:au}{a:Q}(g:¬(a.no=0/\(bF e a).toNat≠93)):m0 b e c a=(c,a):=by cases b with|zero=>rfl|succ b=>rw[m0,aa g]
def JA{g:List UInt8}:∀{F:Nat}{c:au}{a:Q},a.ok g->c.length=256->(m0 F g c a).2.ok g/\(m0 F g c a).1.length=256/\a.ko (m0 F g c a).2|0,c,a,b,e=>⟨b,e,.refl a⟩|F+1,c,a,b,e=>by rw[m0];split;obtain⟨h,i,j⟩:=JA (Dt b e).1 (Dt b e).2;exact⟨h,i,(NN b).le.trans j⟩;exact⟨b,e,.refl a⟩
def nH(a:List UInt8)(b:Q):ao×Q:=(hT<|if dN a b 94 then(m0 (a.length+1) a bP<|ah a b 94).1.others else(m0 (a.length+1) a bP<|ah a b 94).1,fF a (m0 (a.length+1) a bP<|ah a b 94).2 93)
def y3(c:ao):∃e h a b g,c=.mk e h a b g:=by let⟨e,h,a,b,g⟩:=c;simp
def ap_(b:List UInt8)(c:Q)(m:c.ok b):cK 320 [g 6000] [(6000,.cell 242 (ce b c))] (rn (nH b c).1) [(6000,.cell 242 (ce b (nH b c).2))]:=by
 refine cX func320 [21] λE r u=>?_;let p:=gb (t:=94) m;refine jS (bg bP) ?_ (dA:=ax);refine bk [(6000,6000)] ?_ (i:=pd b c 94 m);refine cQ (au×Q×Nat) (λa=>⟨[(0,g 6000),(2,g 2),(3,g 3),(4,.bool<|dN b c 94)],[(2,.cell 126<|V.zero jN.z),(3,.cell 262<|bg a.1),(6000,.cell 242<|ce b a.2.1)],[]⟩) (λa=>a.2.1.ok b/\a.1.length=256/\m0 (b.length+1) b bP (ah b c 94)=m0 a.2.2 b a.1 a.2.1/\DK b a.2.1<=a.2.2) (λa=>a.2.2) (bP,ah b c 94,b.length+1) (λa dA=>?_) ⟨p,eN,rfl,by grind[DK]⟩;apply b2;intro y;refine hR ?_ (i:=sM b a.2.1 dA.1);exact rfl;apply j<;>intro w
 .let h:a.2.1.no=0/\(bF b a.2.1).toNat≠93:=by first|omega|(omega)
  let A:=akE (NN (O:=a.1) dA.1) h.1 dA.1;let q:a.2.2=a.2.2-1+1:=v;refine bk [(6000,6000),(6001,3)] ?_ (i:=aiS b a.1 a.2.1 dA.1 dA.2.1);exact aB ((hV b a.1 a.2.1).1,(hV b a.1 a.2.1).2,a.2.2-1) ⟨(Dt dA.1 dA.2.1).1,(Dt dA.1 dA.2.1).2,by rw[dA.2.2.1,q,m0,ab h];rfl,aK⟩ aK
 let h:¬(a.2.1.no=0/\(bF b a.2.1).toNat≠93):=by first|omega|(omega)
 let o:=dA.2.2.1.trans<|ZR h;refine bk [(6000,6000)] ?_ (i:=Of b a.2.1 93 dA.1);refine gK au (λe=>⟨[(2,g 2),(3,g 3)],[(2,.cell 126<|V.zero jN.z),(3,.cell 262<|bg e),(6000,.cell 242<|ce b<|fF b a.2.1 93)],[]⟩) (λe=>(nH b c).1=hT e/\e.length=256) ?_ λe k=>?_
 .apply j<;>intro x
  .refine fb ?_ (av:=gt dA.2.1);refine az ?_ (i:=OB a.1 dA.2.1);refine iG (bg a.1.others) ?_ (h1:=(fj).trans<|(au.vQ _).trans dA.2.1) (dX:=(fj).trans dA.2.1);exact c3 a.1.others ⟨by rw[nH,o];simp_all,(au.vQ _).trans dA.2.1⟩
  exact c3 a.1 ⟨by rw[nH,o];simp_all,dA.2.1⟩
 refine fb ?_ (av:=gt k.2);let⟨B,D,bu,s,C,he⟩:=y3<|hT e;let l:=CG e k.2;rw[he] at l;refine az ?_ (i:=l);rw[k.1,he,show(nH b c).2=fF b a.2.1 93 by grind[nH]];exact gX aZ
def dw(c:List UInt8)(e:Nat):Nat->Nat->Q->Nat×Q|0,b,a=>(b,a)|g+1,b,a=>if 48<=(bF c a).toNat/\(bF c a).toNat<=57/\(a.C=e\/0<b) then dw c e g (b*10+((bF c a).toNat-48)) a.step else(b,a)
def eS(b:List UInt8)(a:Q)(c:Nat):Nat×Q:=((dw b a.C 2 0 a).1,if(dw b a.C 2 0 a).2.C=a.C then bE (dw b a.C 2 0 a).2 (dw b a.C 2 0 a).2.C 6
 else if 50<(dw b a.C 2 0 a).1\/(dw b a.C 2 0 a).1<c then bE (dw b a.C 2 0 a).2 a.C 9 else(dw b a.C 2 0 a).2)
theorem CS{c:List UInt8}{a:Q}(g:48<=(bF c a).toNat):a.C<c.length/\a.no=0:=vS λe=>b
def Xt{e:List UInt8}{g:Nat}:∀{c b:Nat}{a:Q},a.ok e->(dw e g c b a).2.ok e/\a.ko (dw e g c b a).2/\(dw e g c b a).1<10^c*(b+1)/\a.C<=(dw e g c b a).2.C
|0,b,a,h=>⟨h,.refl a,by show b<10^0*(b+1);omega,a1 _⟩|c+1,b,a,h=>by
 rw[dw];split;rename_i m;obtain⟨l,o⟩:=CS m.1;obtain⟨i,j,k,p⟩:=Xt<|Q.pQ h l;refine⟨i,(ry o).le.trans j,h3 k ?_,by have:a.step.C=a.C+1:=rfl;omega⟩;rw[oC,nO];exact Ck _ v;refine⟨h,.refl a,?_,a1 _⟩;have:1<=10^(c+1):=Nat.one_le_pow _ _ aj
 calc b<1*(b+1):=v
  _<=_:=hA _ this
theorem D4{b:List UInt8}{a:Q}{least:Nat}(h:a.ok b):(eS b a least).2.ok b/\(eS b a least).1<100/\a.jG (eS b a least).2:=by obtain⟨j,c,g,k⟩:=Xt h;let e:=g;unfold eS at e⊢;refine⟨?_,e,?_⟩;grind[mU];show Q.jG a (if _ then _ else _);split;exact c.sX<|vJ aj;split;exact c.sX<|vJ aj;exact⟨c.1,λi=>.inr v⟩
def iY(a:List UInt8)(b:Q):Nat×Int×Q:=if dN a (eS a b 0).2 44 then
  if(bF a<|ah a (eS a b 0).2 44).toNat≠125 then
   ((eS a b 0).1,((eS a (ah a (eS a b 0).2 44) (eS a b 0).1).1:Nat),fF a (eS a (ah a (eS a b 0).2 44) (eS a b 0).1).2 125)
  else((eS a b 0).1, -1,fF a (ah a (eS a b 0).2 44) 125)
 else((eS a b 0).1,((eS a b 0).1:Nat),fF a (ah a (eS a b 0).2 44) 125)
def Xv(b:List UInt8){D:Q}(c:Nat)(k:D.ok b):cK 325 [g 6000,q c] [(6000,.cell 242 (ce b D))] (q (eS b D c).1) [(6000,.cell 242 (ce b (eS b D c).2))]:=by
 refine cX func325 [] λX H I=>?_;let S:=k.2;let K:=k.1;refine cQ (Nat×Q×Nat) (λa=>⟨[(0,g 6000),(1,q c),(5,q D.C),(6,q a.1)],[(6000,.cell 242<|ce b a.2.1)],[]⟩) (λa=>a.2.1.ok b/\dw b D.C 2 0 D=dw b D.C a.2.2 a.1 a.2.1/\a.2.1.C+a.2.2=D.C+2/\a.2.2<=2/\a.1<100/\(a.2.2=2->a.1=0)/\(a.2.2=1->a.1<10)) (λa=>a.2.2) (0,D,2) (λa e=>?_) ⟨k,rfl,rfl,a1 _,acv _,λ_=>rfl,λ_=>acv _⟩;refine dK ((D.C+2:Nat):Int) ?_;apply b2;intro N;refine hR ?_ (i:=sM b a.2.1 e.1);exact rfl;apply b2;intro O;refine hR ?_ (i:=sM b a.2.1 e.1);exact rfl;apply b2;intro P;refine dD ?_;exact rfl;apply j<;>intro w
 .let r:a.2.1.C<D.C+2/\48<=(bF b a.2.1).toNat/\(bF b a.2.1).toNat<=57/\(a.2.1.C=D.C\/0<a.1):=by first|omega|(simp[qh] at w;omega)
  let⟨J,o,t,u⟩:=r;let⟨s,R⟩:=CS o;let⟨l,m,z,A,B,E,F⟩:=e;let p:a.2.2=a.2.2-1+1:=v;let T:a.1<10:=by rcases(show a.2.2=1\/a.2.2=2 by omega) with h|h;omega;omega
  let x:a.1*10+((bF b a.2.1).toNat-48)<100:=v;let G:a.2.1.step.ok b/\dw b D.C 2 0 D=dw b D.C (a.2.2-1) (a.1*10+((bF b a.2.1).toNat-48)) a.2.1.step/\a.2.1.step.C+(a.2.2-1)=D.C+2/\a.2.2-1<=2/\a.1*10+((bF b a.2.1).toNat-48)<100/\(a.2.2-1=2->a.1*10+((bF b a.2.1).toNat-48)=0)/\(a.2.2-1=1->a.1*10+((bF b a.2.1).toNat-48)<10):=⟨Q.pQ l s,m.trans (by rw[p,dw,ab ⟨o,t,u⟩];rfl),by show a.2.1.C+1+_=_;omega,v,x,λh=>v,λh=>v⟩;let y:IntKind.u8.wrap (((bF b a.2.1).toNat:Nat)-48:Int)=(((bF b a.2.1).toNat-48:Nat):Int):=by rw[IntKind.wrap_u8];omega
  refine DQ ?_;refine oO ?_ (i:=sM b a.2.1 l);refine k4 (((bF b a.2.1).toNat-48:Nat):Int) ?_ (av:=y) (qA:=tP v v);refine dK ((a.1*10+((bF b a.2.1).toNat-48):Nat):Int) ?_;refine dK ((a.2.1.C+1:Nat):Int) ?_;exact aB (a.1*10+((bF b a.2.1).toNat-48),a.2.1.step,a.2.2-1) G aK
 let⟨l,m,z,A,B,E,F⟩:=e;let U:dw b D.C 2 0 D=(a.1,a.2.1):=m.trans (by
  rcases p:a.2.2 with _|W;rfl
  (simp[dw,aa];omega))
 apply j<;>intro L
 .rw[show eS b D c=(a.1,bE a.2.1 a.2.1.C 6) by unfold eS;grind];refine bk [(6000,6000)] ?_ (i:=vn b a.2.1 a.2.1.C 6);exact cH
 refine dD ?_;apply j<;>intro M
 .rw[show eS b D c=(a.1,bE a.2.1 D.C 9) by unfold eS;grind];refine bk [(6000,6000)] ?_ (i:=vn b a.2.1 D.C 9);exact cH
 rw[show eS b D c=(a.1,a.2.1) by unfold eS;grind];exact cH
def aet(a:List UInt8)(D:Q)(k:D.ok a):cK 304 [g 6000] [(6000,.cell 242 (ce a D))] (.tuple [q (iY a D).1,.int .i64 (iY a D).2.1]) [(6000,.cell 242 (ce a (iY a D).2.2))]:=by
 refine cX func304 [8] λr m o=>?_;let h:=D4 (least:=0) k;let c:=gb (t:=44) h.1;refine bk [(6000,6000)] ?_ (i:=Xv a (D:=D) 0 k);refine gK (Int×Q) (λb=>⟨[(0,g 6000),(2,q (eS a D 0).1),(3,.int .i64 b.1)],[(6000,.cell 242<|ce a b.2)],[]⟩) (λb=>iY a D=((eS a D 0).1,b.1,fF a b.2 125)/\b.2.ok a) ?_ λb l=>?_
 .refine bk [(6000,6000)] ?_ (i:=pd a (eS a D 0).2 44 h.1);apply j<;>intro e
  .refine oO ?_ (i:=sM a _ c);apply j<;>intro p
   .refine bk [(6000,6000)] ?_ (i:=Xv a (eS a D 0).1 c);exact c3 (((eS a _ (eS a D 0).1).1:Nat),(eS a _ (eS a D 0).1).2) ⟨by rw[iY,ab e,ab v],(D4 (least:=(eS a D 0).1) c).1⟩
   exact c3 (-1,ah a (eS a D 0).2 44) ⟨by rw[iY,ab e,aa v],c⟩
  exact c3 (((eS a D 0).1:Nat),ah a (eS a D 0).2 44) ⟨by rw[iY,aa e],c⟩
 refine bk [(6000,6000)] ?_ (i:=Of a b.2 125 l.2);rw[l.1];exact cH
def gJ(b:List UInt8)(a:Q):Int×Q:=if(dw b a.C 2 0 a).2.C=a.C then(-1,(dw b a.C 2 0 a).2)
 else(((dw b a.C 2 0 a).1:Nat),if 50<(dw b a.C 2 0 a).1 then bE (dw b a.C 2 0 a).2 a.C 9 else(dw b a.C 2 0 a).2)
def D5{X:List UInt8}{x:Nat}:∀{F Y:Nat}{D:Q},D.ok X->(dw X x F Y D).2.ok X/\D.C<=(dw X x F Y D).2.C/\(dw X x F Y D).2.no=D.no
|0,Y,D,a=>⟨a,a1 _,rfl⟩|F+1,Y,D,a=>by
 rw[dw];split;rename_i g;obtain⟨h,i⟩:=CS g.1;obtain⟨b,c,e⟩:=D5<|Q.pQ a h;exact⟨b,cA (jj _) c,e⟩
 (simp;omega)
def ID{b:List UInt8}{a:Q}(c:a.ok b):(gJ b a).2.ok b/\a.C<=(gJ b a).2.C/\-1<=(gJ b a).1:=by let e:=D5 (x:=a.C) (F:=2) (Y:=0) c;unfold gJ;grind[dw,mU,AR]
theorem qM{a:List UInt8}{D:Q}(b:D.no=0)(c:D.C<a.length):bF a D=a.getD D.C 0:=by(simp[bF,ab];omega)
def IX{b:List UInt8}{a:Q}(c:¬a.C<b.length):bF b a=0:=by(simp[bF,aa];omega)
def Xu(a:List UInt8)(c:Q)(w:c.ok a)(D:c.no=0):cK 286 [g 6000] [(6000,.cell 166 (ce a c))] (.int .i64 (gJ a c).1) [(6000,.cell 166 (ce a (gJ a c).2))]:=by
 refine cX func286 [] λam R W=>?_;let J:=w.2;let X:=w.1;refine cQ (Nat×Q×Nat) (λe=>⟨[(0,g 6000),(3,q c.C),(4,q e.1)],[(6000,.cell 166<|ce a e.2.1)],[]⟩) (λe=>e.2.1.ok a/\dw a c.C 2 0 c=dw a c.C e.2.2 e.1 e.2.1/\e.2.1.C+e.2.2=c.C+2/\e.2.2<=2/\e.1<100/\(e.2.2=2->e.1=0)/\(e.2.2=1->e.1+48=(a.getD c.C 0).toNat/\e.1<10/\c.C<a.length)/\e.2.1.no=0) (λe=>e.2.2) (0,c,2) (λ⟨h,b,k⟩ ⟨L,m,M,N,O,y,P,o⟩=>?_) ⟨w,rfl,rfl,a1 2,v,λ_=>rfl,λB=>absurd B<|show¬2=1 by decide,D⟩;dsimp only at L m M N O y P o⊢;refine c7 ?_<|aj6 (by decide+kernel);apply b2;intro ad;refine mQ b.C ?_ (p:=v);exact rfl;apply b2;intro ae;refine mQ b.C ?_ (p:=v);exact rfl;apply b2;intro ag;refine ia ((b.C-c.C:Nat):Int) ?_ (w:=v);exact rfl;apply b2;intro ah;apply b2;intro ai;refine mQ c.C ?_ (p:=v);exact rfl;exact rfl;apply j<;>intro E
 .let G:(((b.C<a.length/\48<=(a.getD b.C 0).toNat)/\(a.getD b.C 0).toNat<=57)/\b.C-c.C<2)/\¬(c.C<b.C/\(a.getD c.C 0).toNat=48):=by first|omega|(simp[eg] at E;omega)
  let⟨⟨⟨⟨r,s⟩,t⟩,T⟩,U⟩:=G;let I:=qM o r;let u:k=k-1+1:=v;let x:k=1\/k=2:=v;let F:b.C=c.C\/0<h:=by rcases x with l|l;omega;omega
  let aj:h<10:=by rcases x with l|l;omega;omega
  let H:b.step.ok a/\dw a c.C 2 0 c=dw a c.C (k-1) (h*10+((a.getD b.C 0).toNat-48)) b.step/\b.step.C+(k-1)=c.C+2/\k-1<=2/\h*10+((a.getD b.C 0).toNat-48)<100/\(k-1=2->h*10+((a.getD b.C 0).toNat-48)=0)/\(k-1=1->h*10+((a.getD b.C 0).toNat-48)+48=(a.getD c.C 0).toNat/\h*10+((a.getD b.C 0).toNat-48)<10/\c.C<a.length)/\b.step.no=0:=by
   let l:b.step.C=b.C+1:=rfl;refine⟨⟨r,J⟩,m.trans (by rw[u,dw,I,ab ⟨s,t,F⟩];rfl),v,v,v,λl=>v,λl=>?_,o⟩;let S:=y v;let z:b.C=c.C:=v;let A:a.getD b.C 0=a.getD c.C 0:=by rw[z]
   rw[A] at s t⊢;exact⟨v,v,v⟩
  let K:IntKind.u8.wrap (((a.getD b.C 0).toNat:Nat)-48:Int)=(((a.getD b.C 0).toNat-48:Nat):Int):=by rw[IntKind.wrap_u8];omega
  refine c7 ?_;refine xC ((10*h:Nat):Int) ?_;refine mQ b.C ?_;refine k4 (((a.getD b.C 0).toNat-48:Nat):Int) ?_ (av:=K) (qA:=tP v v);refine dK ((h*10+((a.getD b.C 0).toNat-48):Nat):Int) ?_;refine dK ((b.C+1:Nat):Int) ?_;exact aB (h*10+((a.getD b.C 0).toNat-48),b.step,k-1) H aK
 let ak:dw a c.C 2 0 c=(h,b):=m.trans (by rcases u:k with _|al;rfl;rw[dw,aa];grind[CS,qM]);apply j<;>intro Y
 .rw[show gJ a c=(-1,b) by unfold gJ<;>grind];exact cH
 apply j<;>intro Z
 .rw[show gJ a c=(((h:Nat):Int),bE b c.C 9) by unfold gJ<;>grind];refine bk [(6000,6000)] ?_ (i:=o8 a b c.C 9);exact cH
 rw[show gJ a c=(((h:Nat):Int),b) by unfold gJ<;>grind];exact cH
def rp(e:List UInt8)(c b:Int)(a:Q):Int×Int×Q:=(c,b,(if b1 e a.C 125 then a else bE a a.C 6).step)
def v8(b:List UInt8)(c:Int)(a:Q):Int×Int×Q:=if a.no=0/\b1 b a.C 44 then
  rp b c (gJ b a.step).1 (if 0<=(gJ b a.step).1/\(gJ b a.step).1<c then bE (gJ b a.step).2 (a.C+1:Nat) 9 else(gJ b a.step).2)
 else rp b c c a
def pf(a:List UInt8)(b:Q):Int×Int×Q:=v8 a (gJ a b).1 (if(gJ a b).1<0 then bE (gJ a b).2 (gJ a b).2.C 6 else(gJ a b).2)
def arE(a:List UInt8)(l:Q)(r:l.ok a)(A:l.no=0):cK 241 [g 6000] [(6000,.cell 166 (ce a l))] (.tuple [.int .i64 (pf a l).1,.int .i64 (pf a l).2.1]) [(6000,.cell 166 (ce a (pf a l).2.2))]:=by
 refine cX func241 [10,26,52] λX K L=>?_;have G:=r.2;have o:=ID r;refine bk [(6000,6000)] ?_ (i:=Xu a l r A);unfold pf;generalize gJ a l=m at o⊢;let⟨h,k⟩:=m;let⟨w,S,P⟩:=o;have T:=w.1;refine gK Unit (λm=>⟨[(0,g 6000),(4,.int .i64 h)],[(6000,.cell 166<|ce a<|if h<0 then bE k k.C 6 else k)],[]⟩) (λ_=>True) ?_ λm o=>?_
 .apply j<;>intro u
  .refine bk [(6000,6000)] ?_ (i:=o8 a k k.C 6);rw[ab u];exact c3 ()
  rw[aa u];exact c3 ()
 generalize F:(if h<0 then bE k k.C 6 else k)=e;have q:e.ok a:=by rw[<-F];split;grind[mU];exact w
 have U:=q.1;refine gK (Int×Q) (λc=>⟨[(0,g 6000),(4,.int .i64 h),(5,.int .i64 c.1)],[(6000,.cell 166<|ce a c.2)],[]⟩) (λc=>v8 a h e=rp a h c.1 c.2/\c.2.ok a) ?_ λc ap=>?_
 .apply b2;intro O;refine hR ?_ (i:=n9 a e 44 q.qK);exact rfl;apply j<;>intro D
  .have t:e.no=0/\b1 a e.C 44:=by simpa[eg] using D
   have E:=(i5 t.2).1;have x:e.step.ok a:=⟨E,G⟩;have p:=ID x;refine dK ((e.C+1:Nat):Int) ?_;refine bk [(6000,6000)] ?_ (i:=Xu a e.step x t.1);generalize R:gJ a e.step=J at p⊢;let⟨z,s⟩:=J;refine fM ?_;apply j<;>intro M
   .refine bk [(6000,6000)] ?_ (i:=o8 a s (e.C+1:Nat) 9);exact c3 (z,bE s (e.C+1:Nat) 9) ⟨by simp_all[v8,ab,eg],mU p.1⟩
   exact c3 (z,s) ⟨by simp_all[v8,ab,aa,eg],p.1⟩
  exact c3 (h,e) ⟨by simp_all[v8,aa,eg],q⟩
 let⟨H,y⟩:=ap;have W:=y.1;rw[H];refine gK Unit (λm=>⟨[(0,g 6000),(4,.int .i64 h),(5,.int .i64 c.1)],[(6000,.cell 166<|ce a<|if b1 a c.2.C 125 then c.2 else bE c.2 c.2.C 6)],[]⟩) (λ_=>True) ?_ λm o=>?_
 .refine oO ?_ (i:=n9 a c.2 125 y.qK);apply j<;>intro N
  .refine bk [(6000,6000)] ?_ (i:=o8 a c.2 c.2.C 6);rw[aa v];exact c3 ()
  rw[ab b];exact c3 ()
 unfold rp;have B:(if b1 a c.2.C 125 then c.2 else bE c.2 c.2.C 6).C=c.2.C:=by split;rfl;simp[AR]
 generalize (if b1 a c.2.C 125 then c.2 else bE c.2 c.2.C 6)=I at B⊢;refine dK ((I.C+1:Nat):Int) ?_;exact cH
def Mq(c:Bool)(a b:V):V:=match c with|true=>a|false=>b
def ay.TN{T:Program}{h:a2}{l:Nat}{k:Code}{i:Exit->am->Prop}(b:V->am)(a m:Nat)(j:List Nat)(g:List V)(c:Bool)(o:(b .aQ).jL a m j=b (.f a []))(p:c->g=[])(e:ay T h l k (b (.f a g)) i):ay T h l k (b (Mq c .aQ (.f a g))) i:=by cases c with|false=>exact e|true=>rw[p rfl] at e;exact ay.jL a m j<|o▸e
def By:List UInt8:=[92,46,124,40,41,91,93,123,125,42,43,63]
def j6(c:Q->ao×Q)(b:List UInt8)(a:Q):ao×Q:=if ik b a.C=false then(.mk 0 [] 0 0 [],bE a a.C 6)
 else if((b.getD a.C 0).toNat:Int)=40 then((c a.step).1,(if b1 b (c a.step).2.C 41 then(c a.step).2 else bE (c a.step).2 (c a.step).2.C 6).step)
 else if((b.getD a.C 0).toNat:Int)=91 then va b a.step
 else if((b.getD a.C 0).toNat:Int)=46 then(.mk 3 [(0,255)] 0 0 [],a.step)
 else if((b.getD a.C 0).toNat:Int)=92 then(hT (ih b bP a.step).s,(ih b bP a.step).r)
 else if eX By (b.getD a.C 0) then(.mk 0 [] 0 0 [],bE a a.C 6)
 else(.mk 3 [(((b.getD a.C 0).toNat:Int),((b.getD a.C 0).toNat:Int))] 0 0 [],a.step)
def la(b:List UInt8):Nat->ao->Q->ao×Q
|0,c,a=>(c,a)|e+1,c,a=>
 if a.no=0 then
  if b1 b a.C 42 then la b e (.mk 6 [] 0 (-1) [c]) a.step
  else if b1 b a.C 43 then la b e (.mk 6 [] 1 (-1) [c]) a.step
  else if b1 b a.C 63 then la b e (.mk 6 [] 0 1 [c]) a.step
  else if b1 b a.C 123 then la b e (.mk 6 [] (pf b a.step).1 (pf b a.step).2.1 [c]) (pf b a.step).2.2
  else(c,a)
 else(c,a)
def rG(b:Q->ao×Q)(a:List UInt8)(c:Q):ao×Q:=la a (a.length+2) (j6 b a c).1 (j6 b a c).2
def xN(b:List UInt8)(a:Q):Prop:=((a.no=0/\a.C<b.length)/\b1 b a.C 124=false)/\b1 b a.C 41=false
instance(b:List UInt8)(a:Q):Decidable (xN b a):=by unfold xN;exact inferInstance
def om(e:Q->ao×Q)(c:List UInt8):Nat->List ao->Q->List ao×Q|0,b,a=>(b,a)|g+1,b,a=>if xN c a then om e c g (b++[(rG e c a).1]) (rG e c a).2 else(b,a)
def kE(b:Q->ao×Q)(a:List UInt8)(c:Q):ao×Q:=(mg 4 (om b a (a.length+1) [] c).1,(om b a (a.length+1) [] c).2)
def nW(e:Q->ao×Q)(c:List UInt8):Nat->List ao->Q->List ao×Q|0,b,a=>(b,a)|g+1,b,a=>if a.no=0/\b1 c a.C 124 then nW e c g (b++[(kE e c a.step).1]) (kE e c a.step).2 else(b,a)
def db(a:List UInt8):Nat->Q->ao×Q|0,c=>(.mk 2 [] 0 0 [],c)|b+1,c=>(mg 5 (nW (db a b) a (a.length+2) [(kE (db a b) a c).1] (kE (db a b) a c).2).1,(nW (db a b) a (a.length+2) [(kE (db a b) a c).1] (kE (db a b) a c).2).2)
structure oG(X:List UInt8)(Y:Nat)(D mc:Q):Prop where
 ok:mc.no=0->mc.C<=X.length/\D.C<mc.C
 p:mc.C<=X.length+Y+2
structure ra(X:List UInt8)(Y:Nat)(D mc:Q):Prop where
 ok:mc.no=0->mc.C<=X.length/\D.C<=mc.C
 p:mc.C<=X.length+Y+2
def Ae(b:List UInt8)(c:Nat)(e:Q->ao×Q):Prop:=∀a:Q,a.ok b->a.no=0->b.length-a.C<c->ra b c a (e a).2
def Sx{c:List UInt8}:∀{g:Nat}{b:au}{a:Q},a.ok c->b.length=256->a.no=0->(i0 c g b a).2.no=0->a.C<=(i0 c g b a).2.C|0,b,a,_,_,_=>λ_=>a1 _|g+1,b,a,j,k,i=>by rw[i0];split;intro l;let e:=Gy j k;by_cases h:(rh c b a).2.no=0;exact cA (tb<|e.j4 i h)<|Sx e.ok e.len h l;grind[CL,absurd];simp
def LS{e:List UInt8}:∀{F:Nat}{c:au}{a:Q},a.ok e->c.length=256->(a.no=0->e.length<a.C+F)->(i0 e F c a).2.no=0->b1 e (i0 e F c a).2.C 93|0,c,a,h,_,j,b=>by have:=j b;have:=h.1;omega|F+1,c,a,h,l,j,b=>by rw[i0] at b⊢;split;rename_i i;rw[ab i] at b;let g:=Gy h l;exact LS g.ok g.len (λk=>by have:=g.j4 i.1 k;omega) b;simp_all
def afc{X:List UInt8}{a:Q}{Y:Nat}(i:a.ok X)(h:a.no=0):oG X Y a (va X a).2:=by
 let b:(kW X a).ok X/\(kW X a).no=0/\a.C<=(kW X a).C:=by unfold kW;split;rename_i g;exact⟨⟨(i5 g).1,i.2⟩,h,jj _⟩;simp_all
 refine⟨λe=>?_,by show(i0 X _ _ _).2.C+1<=_;have:=(Sy (X:=X) (F:=X.length+1) b.1 eN).1.1;omega⟩;let c:=e;let j:=Sx b.1 eN b.2.1 c;have:=(i5<|LS b.1 eN (λ_=>v) c).1;show(i0 X _ _ _).2.C+1<=X.length/\a.C<(i0 X _ _ _).2.C+1;omega
def MZ{b:Prop} [Decidable b]{a:Q}{c e:Int}:(if b then a else bE a c e).C=a.C:=by grind[AR]
def U8{a:Prop} [Decidable a]{b:Q}{e c:Int}(g:c≠0)(h:(if a then b else bE b e c).no=0):a/\b.no=0:=by grind[absurd,gC]
def RF{X:List UInt8}{Y:Nat}{c:Q->ao×Q}(q:Ae X Y c){a:Q}(l:a.ok X)(g:a.no=0)(s:X.length-a.C<Y+1):oG X (Y+1) a (j6 c X a).2:=by
 let r:oG X (Y+1) a (bE a a.C 6):=⟨λe=>absurd e<|gC aj,by rw[AR];have:=l.1;omega⟩;unfold j6;split;exact r;let k:=zv (X:=X) (E:=a.C) b;let h:a.step.ok X:=⟨k,l.2⟩;let u:a.step.C=a.C+1:=rfl;let t:oG X (Y+1) a a.step:=⟨λ_=>⟨k,v⟩,v⟩;split;let j:=q a.step h g v;refine⟨λe=>?_,?_⟩;let i:=U8 aj (show(if b1 X (c a.step).2.C 41 then(c a.step).2 else bE (c a.step).2 (c a.step).2.C 6).no=0 from e);let m:=j.ok i.2;let o:=(i5 i.1).1;show(if b1 X (c a.step).2.C 41 then(c a.step).2 else bE (c a.step).2 (c a.step).2.C 6).C+1<=X.length/\a.C<(if b1 X (c a.step).2.C 41 then(c a.step).2 else bE (c a.step).2 (c a.step).2.C 6).C+1;grind;show(if b1 X (c a.step).2.C 41 then(c a.step).2 else bE (c a.step).2 (c a.step).2.C 6).C+1<=_;rw[MZ];have:=j.p;omega;split;have:=afc (Y:=Y+1) h g;exact⟨λe=>by have:=this.ok e;omega,this.p⟩;split;omega;split;have:=G7 (X:=X) (O:=bP) h eN;refine⟨λe=>?_,by have:=this.ok.1;(simp;omega)⟩;let m:=this.j4 g e;let o:=this.ok.1
 (simp;omega)
 grind
def aaV{a:List UInt8}{D:Q}{Y:Nat}(i:D.ok a):ra a Y D (pf a D).2.2:=by
 have q:=ID i;have p:∀{e g:Int}{b:Q},b.ok a->D.C<=b.C->ra a Y D (rp a e g b).2.2:=λ{e g b} l s=>by refine⟨λh=>?_,?_⟩;have j:=U8 aj (show(if b1 a _ 125 then b else bE b _ 6).no=0 from h);have:=(i5 j.1).1;show(if b1 a _ 125 then b else bE b _ 6).C+1<=a.length/\D.C<=(if b1 a _ 125 then b else bE b _ 6).C+1;grind;show(if b1 a _ 125 then b else bE b _ 6).C+1<=_;rw[MZ];have:=l.1;omega
 have m:(if(gJ a D).1<0 then bE (gJ a D).2 (gJ a D).2.C 6 else(gJ a D).2).ok a/\D.C<=(if(gJ a D).1<0 then bE (gJ a D).2 (gJ a D).2.C 6 else(gJ a D).2).C:=by split;grind[mU,AR];simp_all
 unfold pf v8;generalize (if(gJ a D).1<0 then bE _ _ 6 else(gJ a D).2)=c at m⊢;split;rename_i k;have o:c.step.ok a:=⟨(i5 k.2).1,i.2⟩;have r:=ID o;have h:c.step.C=c.C+1:=rfl;grind[mU,AR];simp_all
def En{c:List UInt8}{Y:Nat}{h:Q}(e:c.length<=2000):∀{l:Nat}{a:ao}{D:Q},oG c Y h D->oG c Y h (la c l a D).2
|0,a,D,g=>g|l+1,a,D,g=>by rw[la];let r:∀{i:UInt8},D.no=0->b1 c D.C i->oG c Y h D.step:=λ{i} a b=>⟨λ_=>by have:=(i5 b).1;have:=g.ok a;let j:D.step.C=D.C+1:=rfl;omega,by have:=(i5 b).1;let j:D.step.C=D.C+1:=rfl;omega⟩;split;rename_i m;split;rename_i b;exact En e aM;split;rename_i b;exact En e aM;split;rename_i b;exact En e aM;split;rename_i b;let k:=aaV (Y:=Y) (D:=D.step) ⟨(i5 b).1,e⟩;refine En e ⟨λa=>?_,k.p⟩;let o:=k.ok a;let q:=g.ok m;let j:D.step.C=D.C+1:=rfl;omega;omega;omega
def Ys{b:List UInt8}{c:Nat}{e:Q->ao×Q}(i:Ae b c e){a:Q}(g:a.ok b)(h:a.no=0)(j:b.length-a.C<c+1):oG b (c+1) a (rG e b a).2:=En g.2<|RF i g h j
def Yl{a:List UInt8}{e:Nat}{c:Q->ao×Q}(k:Ae a e c){h:Q}(l:a.length<=2000)(r:a.length-h.C<e+1):∀{F:Nat}{N:List ao}{b:Q},ra a (e+1) h b->ra a (e+1) h (om c a F N b).2/\(om c a F N b).1.length<=N.length+F
|0,N,b,g=>⟨g,a1 _⟩|F+1,N,b,g=>by
 rw[om];split;rename_i o;let i:=o.1.1.1;let q:=g.ok i;let j:=Ys k ⟨q.1,l⟩ i v;let⟨s,t⟩:=Yl k l r (F:=F) (N:=N++[(rG c a b).1]) ⟨λm=>by have:=j.ok m;omega,j.p⟩
 (simp_all;omega)
 (simp;omega)
def IW{a:List UInt8}{c:Nat}{e:Q->ao×Q}(g:Ae a c e){D:Q}(b:D.ok a)(h:a.length-D.C<c+1):ra a (c+1) D (kE e a D).2:=(Yl g b.2 h ⟨λ_=>⟨b.1,a1 _⟩,by have:=b.1;omega⟩).1
def Ro{a:List UInt8}{c:Nat}{b:Q->ao×Q}(j:Ae a c b){g:Q}(k:a.length<=2000)(m:a.length-g.C<c+1):∀{F:Nat}{N:List ao}{D:Q},ra a (c+1) g D->ra a (c+1) g (nW b a F N D).2/\(nW b a F N D).1.length<=N.length+F
|0,N,D,e=>⟨e,a1 _⟩|F+1,N,D,e=>by
 rw[nW];split;rename_i h;let q:=e.ok h.1;let o:D.step.C=D.C+1:=rfl;let i:=IW j (D:=D.step) ⟨(i5 h.2).1,k⟩ v;let⟨r,s⟩:=Ro j k m (F:=F) (N:=N++[(kE b a D.step).1]) ⟨λl=>by have:=i.ok l;omega,i.p⟩
 (simp_all;omega)
 (simp;omega)
def yD{X:List UInt8}:∀b,Ae X b (db X b)|0,g,_,_,a=>absurd a v|b+1,g,c,h,a=>by let e:=yD (X:=X) b;exact(Ro e c.2 a<|IW e c a).1
def Cs(b:List UInt8)(c:Nat):Prop:=∀a:Q,a.ok b->a.no=0->b.length-a.C<c->cK 83 [g 6000] [(6000,.cell 166<|ce b a)] (bY (db b c a).1) [(6000,.cell 166<|ce b (db b c a).2)]
def adT(X:List UInt8)(c:Nat)(S:c<=10000)(G:Cs X c)(a:Q)(t:a.ok X)(m:a.no=0)(T:X.length-a.C<c+1):cK 240 [g 6000] [(6000,.cell 166 (ce X a))] (bY (j6 (db X c) X a).1) [(6000,.cell 166 (ce X (j6 (db X c) X a).2))]:=by
 refine cX func240 [39] λU I J=>?_;have q:=t.2;have K:=t.1;refine oO ?_ (i:=OV X a t.qK);apply j<;>intro B
 .rw[show j6 (db X c) X a=(.mk 0 [] 0 0 [],bE a a.C 6) by simp_all[j6,ab]];refine bk [(6000,6000)] ?_ (i:=o8 X a a.C 6);exact fA 2 2 [1] (fA 5 2 [4] (gX aZ))
 have D:¬ik X a.C=false:=by simpa using B
 have y:=zv (X:=X) (E:=a.C) b;have k:a.step.ok X:=⟨y,q⟩;refine c7 ?_;refine mQ a.C ?_;apply j<;>intro A
 .have h:=G a.step k m (by have l:a.step.C=a.C+1:=rfl;omega);have w:=yD c a.step k m (by have l:a.step.C=a.C+1:=rfl;omega);rw[show j6 (db X c) X a=((db X c a.step).1,(if b1 X (db X c a.step).2.C 41 then(db X c a.step).2 else bE (db X c a.step).2 (db X c a.step).2.C 6).step) by rw[j6,aa D,ab A]];refine dK ((a.C+1:Nat):Int) ?_;refine bk [(6000,6000)] ?_ (i:=h);generalize db X c a.step=u at w⊢;let⟨l,e⟩:=u;have F:=w.p;dsimp only at F⊢;refine gK Unit (λu=>⟨[(0,g 6000),(2,g 2),(4,g 4)],[(2,.cell 126<|V.zero jN.z),(4,.cell 126<|bY l),(6000,.cell 166<|ce X<|if b1 X e.C 41 then e else bE e e.C 6)],[]⟩) (λ_=>True) ?_ λu dA=>?_
  .refine oO ?_ (i:=n9 X e 41 ⟨v,q⟩);apply j<;>intro L
   .refine bk [(6000,6000)] ?_ (i:=o8 X e e.C 6);rw[aa v];exact c3 ()
   rw[ab b];exact c3 ()
  have x:(if b1 X e.C 41 then e else bE e e.C 6).C=e.C:=MZ;generalize (if b1 X e.C 41 then e else bE e e.C 6)=H at x⊢;refine dK ((H.C+1:Nat):Int) ?_;exact gX aZ
 apply j<;>intro M
 .have h:=afe X a.step k m;rw[tG] at h;rw[show j6 (db X c) X a=va X a.step by simp_all[j6,aa,ab]];refine dK ((a.C+1:Nat):Int) ?_;refine bk [(6000,6000)] ?_ (i:=h);exact gX aZ
 apply j<;>intro N
 .rw[show j6 (db X c) X a=(.mk 3 [(0,255)] 0 0 [],a.step) by simp_all[j6,aa,ab]];refine dK ((a.C+1:Nat):Int) ?_;refine dv ?_;exact fA 5 2 [4] (gX aZ)
 apply j<;>intro P
 .have o:=G7 (X:=X) (O:=bP) k eN;have h:=WC (ih X bP a.step).s o.len;rw[tG] at h;rw[show j6 (db X c) X a=(hT (ih X bP a.step).s,(ih X bP a.step).r) by simp_all[j6,aa,ab]];refine jS (bg bP) ?_ (dA:=ax);refine dK ((a.C+1:Nat):Int) ?_;refine fb ?_ (av:=gt eN);refine bk [(6000,6000)] ?_ (i:=Zn X bP a.step ⟨by show a.C+1<=100000;omega,q⟩ eN);refine iG (bg (ih X bP a.step).s) ?_ (h1:=(fj).trans o.len) (dX:=hl);refine fb ?_ (av:=gt o.len);refine az ?_ (i:=h);exact gX aZ
 refine az ?_ (i:=zs By aj);apply j<;>intro R
 .rw[show j6 (db X c) X a=(.mk 0 [] 0 0 [],bE a a.C 6) by simp_all[j6,aa,ab]];refine bk [(6000,6000)] ?_ (i:=o8 X a a.C 6);exact fA 2 2 [1] (fA 5 2 [4] (gX aZ))
 rw[show j6 (db X c) X a=(.mk 3 [(((X.getD a.C 0).toNat:Int),((X.getD a.C 0).toNat:Int))] 0 0 [],a.step) by simp_all[j6,aa]];refine dK ((a.C+1:Nat):Int) ?_;refine k4 ((X.getD a.C 0).toNat:Nat) ?_ (qA:=zN);refine k4 ((X.getD a.C 0).toNat:Nat) ?_ (qA:=zN);refine dv ?_;exact fA 5 2 [4] (gX aZ)
def Zi{g:List UInt8}{a:Nat}{c:ao}{b:Q}(e:¬b.no=0):la g a c b=(c,b):=by cases a with|zero=>rfl|succ a=>rw[la,aa e]
structure QQ(X:List UInt8)(Y:Nat)(D mc:Q)(k:Nat):Prop where
 lim:oG X (Y+1) D mc
 k:mc.no=0->X.length<mc.C+k
def anm(X:List UInt8)(Y:Nat)(ak:Y<=10000)(aw:Cs X Y)(c:Q)(E:c.ok X)(P:c.no=0)(T:X.length-c.C<Y+1):cK 187 [g 6000] [(6000,.cell 166 (ce X c))] (bY (rG (db X Y) X c).1) [(6000,.cell 166 (ce X (rG (db X Y) X c).2))]:=by
 refine cX func187 [2002] λaP aI aJ=>?_;have W:=E.2;have aL:=E.1;have M:=RF (yD (X:=X) Y) E P T;refine bk [(6000,6000)] ?_ (i:=adT X Y ak aw c E P T);generalize B:rG (db X Y) X c=G;unfold rG at B;generalize j6 (db X Y) X c=aH at M B⊢;let⟨⟨az,aD,dT,ae,aA⟩,aC⟩:=aH;dsimp only at M B⊢;refine cQ (ao×Q×Nat×Bool) (λe=>⟨[(0,g 6000),(2,g 2),(3,g 3)],[(2,.cell 126<|V.zero jN.z),(3,.cell 126<|.agg [.int .i64 e.1.cc,Mq e.2.2.2 .aQ<|.f 2<|e.1.set.map fz,.int .i64 e.1.min,.int .i64 e.1.max,.f 5<|fy e.1.aq]),(6000,.cell 166<|ce X e.2.1)],[]⟩) (λe=>QQ X Y c e.2.1 e.2.2.1/\la X e.2.2.1 e.1 e.2.1=G/\(e.2.2.2=true->e.1.set=[])) (λe=>e.2.2.1) (.mk az aD dT ae aA,aC,X.length+2,false) (λ⟨⟨o,r,l,m,q⟩,a,k,cI⟩ ⟨⟨L,S⟩,F,ax⟩=>?_) ⟨⟨M,λu=>aK⟩,B,λh=>by cases h⟩;dsimp only[ao.cc,ao.set,ao.min,ao.max,ao.aq] at L S F ax⊢;have aM:=L.p;refine ay.TN (λad=>⟨[(0,g 6000),(2,g 2),(3,g 3)],[(2,.cell 126<|V.zero jN.z),(3,.cell 126<|.agg [.int .i64 o,ad,.int .i64 l,.int .i64 m,.f 5<|fy q]),(6000,.cell 166<|ce X a)],[]⟩) 2 3 [1] (r.map fz) cI rfl (λh=>b) ?_;refine cP ?_;apply j<;>intro w
 .have al:=L.ok w;have aN:=S w;have D:a.ok X:=⟨al.1,W⟩;have aj:la X k (.mk o r l m q) a=(if b1 X a.C 42 then la X (k-1) (.mk 6 [] 0 (-1) [.mk o r l m q]) a.step
    else if b1 X a.C 43 then la X (k-1) (.mk 6 [] 1 (-1) [.mk o r l m q]) a.step
    else if b1 X a.C 63 then la X (k-1) (.mk 6 [] 0 1 [.mk o r l m q]) a.step
    else if b1 X a.C 123 then la X (k-1) (.mk 6 [] (pf X a.step).1 (pf X a.step).2.1 [.mk o r l m q]) (pf X a.step).2.2
    else(.mk o r l m q,a)):=by obtain⟨Z,rfl⟩:∃Z,k=Z+1:=⟨k-1,v⟩;rw[la,ab w];rfl
  have t:∀{O:UInt8},b1 X a.C O->oG X (Y+1) c a.step/\a.C<a.step.C:=λ{O} h=>by have:=(i5 h).1;have ag:a.step.C=a.C+1:=rfl;exact⟨⟨λ_=>v,v⟩,v⟩
  have A:∀(s:Q)(H:ao),oG X (Y+1) c s/\(s.no=0->a.C<s.C)->la X k (.mk o r l m q) a=la X (k-1) H s->QQ X Y c s (k-1)/\la X (k-1) H s=G:=λs H ah ai=>⟨⟨ah.1,λu=>v⟩,ai▸F⟩;refine oO ?_ (i:=n9 X a 42 D.qK);apply j<;>intro I
  .have am:oG X (Y+1) c a.step/\(a.step.no=0->a.C<a.step.C):=⟨(t I).1,λ_=>(t I).2⟩;refine dK ((a.C+1:Nat):Int) ?_;refine dv ?_;exact aB (.mk 6 [] 0 (-1) [.mk o r l m q],a.step,k-1,true) (have h:=A a.step _ am b;⟨h.1,h.2,λ_=>rfl⟩) aK
  refine oO ?_ (i:=n9 X a 43 D.qK);apply j<;>intro J
  .have an:oG X (Y+1) c a.step/\(a.step.no=0->a.C<a.step.C):=⟨(t J).1,λ_=>(t J).2⟩;refine dK ((a.C+1:Nat):Int) ?_;refine dv ?_;exact aB (.mk 6 [] 1 (-1) [.mk o r l m q],a.step,k-1,true) (have h:=A a.step _ an b;⟨h.1,h.2,λ_=>rfl⟩) aK
  refine oO ?_ (i:=n9 X a 63 D.qK);apply j<;>intro K
  .have ap:oG X (Y+1) c a.step/\(a.step.no=0->a.C<a.step.C):=⟨(t K).1,λ_=>(t K).2⟩;refine dK ((a.C+1:Nat):Int) ?_;refine dv ?_;exact aB (.mk 6 [] 0 1 [.mk o r l m q],a.step,k-1,true) (have h:=A a.step _ ap b;⟨h.1,h.2,λ_=>rfl⟩) aK
  refine oO ?_ (i:=n9 X a 123 D.qK);apply j<;>intro R
  .have U:a.step.ok X:=⟨(i5 R).1,W⟩;have x:=aaV (Y:=Y+1) U;refine dK ((a.C+1:Nat):Int) ?_;refine bk [(6000,6000)] ?_ (i:=arE X a.step U w);generalize aO:pf X a.step=aG at x⊢;let⟨aF,aE,y⟩:=aG;have av:oG X (Y+1) c y/\(y.no=0->a.C<y.C):=by have ag:a.step.C=a.C+1:=rfl;exact⟨⟨λu=>by have:=x.ok u;(simp_all;omega),x.p⟩,λu=>by have:=x.ok u;(simp_all;omega)⟩
   dsimp only at x⊢;refine dv ?_;exact aB (.mk 6 [] aF aE [.mk o r l m q],y,k-1,true) (have h:=A y _ av b;⟨h.1,h.2,λ_=>rfl⟩) aK
  have N:G=(.mk o r l m q,a):=by rw[<-F,aj,aa I,aa J,aa K,aa R]
  rw[N];exact gX aZ
 have N:G=(.mk o r l m q,a):=by rw[<-F,Zi w]
 rw[N];exact gX aZ
def Yk{g:Q->ao×Q}{e:List UInt8}{a:Nat}{c:List ao}{b:Q}(h:¬xN e b):om g e a c b=(c,b):=by cases a with|zero=>rfl|succ a=>rw[om,aa h]
def Rn{g:Q->ao×Q}{e:List UInt8}{b:Nat}{c:List ao}{a:Q}(h:¬(a.no=0/\b1 e a.C 124)):nW g e b c a=(c,a):=by cases b with|zero=>rfl|succ b=>rw[nW,aa h]
def Tt(b:List ao)(a:ao):fy b++[bY a]=fy (b++[a]):=by simp[yX,cD,tG]
def Ym(X:List UInt8)(a:Nat)(K:a<=10000)(N:Cs X a)(k:Q)(w:k.ok X)(S:k.no=0)(ad:X.length-k.C<a+1):cK 124 [g 6000] [(6000,.cell 166 (ce X k))] (bY (kE (db X a) X k).1) [(6000,.cell 166 (ce X (kE (db X a) X k).2))]:=by
 refine cX func124 [] λag R T=>?_;have u:=w.2;have U:=w.1;generalize r:om (db X a) X (X.length+1) [] k=O;refine ay.dI 3 5 126 [3] none ?_;refine cQ (List ao×Q×Nat) (λc=>⟨[(0,g 6000),(2,g 2),(3,.d 3 0 (fy c.1).length)],[(2,.cell 126<|V.zero jN.z),(3,.n 5 126<|fy c.1),(6000,.cell 166<|ce X c.2.1)],[]⟩) (λc=>ra X (a+1) k c.2.1/\om (db X a) X c.2.2 c.1 c.2.1=O/\(c.2.1.no=0->X.length<c.2.1.C+c.2.2)/\c.1.length+c.2.2<=X.length+1) (λc=>c.2.2) ([],k,X.length+1) (λ⟨e,h,o⟩ ⟨bq,m,D,J⟩=>?_) ⟨⟨λ_=>⟨w.1,a1 _⟩,aK⟩,r,λ_=>aK,af⟩;dsimp only at bq m D J⊢;have ae:=bq.p;refine c7 ?_;refine fM ?_;apply b2;intro W;refine hR ?_ (i:=n9 X h 124 ⟨v,u⟩);exact rfl;apply b2;intro Y;refine hR ?_ (i:=n9 X h 41 ⟨v,u⟩);exact rfl;apply j<;>intro y
 .have E:xN X h:=by have:=y;simp[eg] at this;exact⟨⟨⟨this.1.1.1,v⟩,this.1.2⟩,this.2⟩
  have s:=E.1.1.1;have M:=bq.ok s;have F:h.ok X:=⟨M.1,u⟩;have Z:=D s;have l:=Ys (yD (X:=X) a) F s v;have x:om (db X a) X o e h=om (db X a) X (o-1) (e++[(rG (db X a) X h).1]) (rG (db X a) X h).2:=by obtain⟨G,rfl⟩:∃G,o=G+1:=⟨o-1,v⟩;rw[om,ab E];rfl
  refine bk [(6000,6000)] ?_ (i:=anm X a K N h F s v);generalize rG (db X a) X h=P at l x⊢;let⟨t,H⟩:=P;dsimp only at l x⊢;have I:ra X (a+1) k H:=⟨λq=>by have:=l.ok q;omega,l.p⟩;refine dv ?_;refine eR (fy<|e++[t]) ?_ (aG:=Tt e t) (bq:=KO);exact aB (e++[t],H,o-1) ⟨I,b,λq=>by have:=l.ok q;(simp;omega),aK⟩ aK
 have L:¬xN X h:=λq=>y (by simp[eg];trivial);rw[Yk L] at m;apply j<;>intro A
 .rw[gA] at A;rw[show kE (db X a) X k=(.mk 2 [] 0 0 [],h) by rw[kE,r,<-m,mg,ab<|show e.length=0 by omega]];exact fA 2 2 [1] (fA 5 2 [4] (gX aZ))
 rw[gA] at A;apply j<;>intro B
 .rw[gA] at B;rw[show kE (db X a) X k=(e.getD 0 default,h) by rw[kE,r,<-m,mg,aa<|show¬e.length=0 by omega,ab (show e.length=1 by omega)]<;>grind];refine cz 0 ?_ (av:=ax) (p:=by grind[gA]);refine ft (bY<|e.getD 0 default) ?_ (p:=jr v);exact gX aZ
 rw[gA] at B;rw[show kE (db X a) X k=(.mk 4 [] 0 0 e,h) by rw[kE,r,<-m,mg,aa<|show¬e.length=0 by omega,aa (show¬e.length=1 by omega)]];exact gB 3<|fA 2 2 [1] (gX aZ)
def adC(X:List UInt8)(a:Nat)(E:a<=10000)(K:Cs X a)(k:Q)(q:k.ok X)(S:k.no=0)(F:X.length-k.C<a+1):cK 83 [g 6000] [(6000,.cell 166 (ce X k))] (bY (db X (a+1) k).1) [(6000,.cell 166 (ce X (db X (a+1) k).2))]:=by
 refine cX func83 [] λan ag ah=>?_;have J:=q.2;have ai:=q.1;have G:=IW (yD (X:=X) a) q F;generalize l:db X (a+1) k=x;rw[db] at l;refine bk [(6000,6000)] ?_ (i:=Ym X a E K k q S F);generalize kE (db X a) X k=w at G l⊢;let⟨⟨M,R,dT,y,N⟩,O⟩:=w;generalize ad:nW (db X a) X (X.length+2) [.mk M R dT y N] O=ae at l;refine og ?_;refine cQ (List ao×Q×Nat) (λe=>⟨[(0,g 6000),(2,g 2),(3,.d 6 0 (fy e.1).length)],[(2,.cell 126<|V.zero jN.z),(6,.n 5 126<|fy e.1),(6000,.cell 166<|ce X e.2.1)],[]⟩) (λe=>ra X (a+1) k e.2.1/\nW (db X a) X e.2.2 e.1 e.2.1=ae/\(e.2.1.no=0->X.length<e.2.1.C+e.2.2)/\e.1.length+e.2.2<=X.length+3/\0<e.1.length) (λe=>e.2.2) ([.mk M R dT y N],O,X.length+2) (λ⟨h,c,o⟩ ⟨bq,u,U,Y,W⟩=>?_) ⟨G,ad,λ_=>aK,aK,af⟩;dsimp only at bq u U Y W⊢;have ak:=bq.p;apply b2;intro aj;refine hR ?_ (i:=n9 X c 124 ⟨v,J⟩);exact rfl;apply j<;>intro B
 .have t:c.no=0/\b1 X c.C 124:=by simpa[eg] using B
  have H:=t.1;have al:=bq.ok H;have I:c.step.ok X:=⟨(i5 t.2).1,J⟩;have am:c.step.C=c.C+1:=rfl;have m:=IW (yD (X:=X) a) I v;have A:nW (db X a) X o h c=nW (db X a) X (o-1) (h++[(kE (db X a) X c.step).1]) (kE (db X a) X c.step).2:=by obtain⟨L,rfl⟩:∃L,o=L+1:=⟨o-1,v⟩;rw[nW,ab t];rfl
  refine dK ((c.C+1:Nat):Int) ?_;refine bk [(6000,6000)] ?_ (i:=Ym X a E K c.step I H v);generalize kE (db X a) X c.step=w at m A⊢;let⟨r,P⟩:=w;dsimp only at m A⊢;have T:ra X (a+1) k P:=⟨λs=>by have:=m.ok s;omega,m.p⟩;refine dv ?_;refine eR (fy<|h++[r]) ?_ (aG:=Tt h r) (bq:=KO);exact aB (h++[r],P,o-1) ⟨T,b,λs=>by have:=m.ok s;(simp;omega),aK,af⟩ aK
 have Z:¬(c.no=0/\b1 X c.C 124):=by simpa[eg] using B
 rw[Rn Z] at u;rw[<-u] at l;apply j<;>intro D
 .rw[gA] at D;rw[show x=(h.getD 0 default,c) by rw[<-l,mg,aa<|show¬h.length=0 by omega,ab (show h.length=1 by omega)]<;>simp_all];refine cz 0 ?_ (av:=ax) (p:=by grind[gA]);refine ft (bY<|h.getD 0 default) ?_ (p:=jr v);exact gX aZ
 rw[gA] at D;rw[show x=(.mk 5 [] 0 0 h,c) by rw[<-l,mg,aa<|show¬h.length=0 by omega,aa (show¬h.length=1 by omega)]];exact gB 6<|fA 2 2 [1] (gX aZ)
def Rp(b:List UInt8):∀a,a<=10000->Cs b a|0,_=>λe _ _ c=>absurd c v|a+1,c=>λe i g h=>adC b a v (Rp b a v) e i g h
def o5:List UInt8:=[92,46,124,40,41,91,93,123,125,42,43,63]
def hi(e:Q->ao×Q)(a:List UInt8)(b:Q):ao×Q:=if dN a b 40 then((e<|ah a b 40).1,fF a (e<|ah a b 40).2 41)
 else if dN a (ah a b 40) 91 then nH a (ah a (ah a b 40) 91)
 else if dN a (ah a (ah a b 40) 91) 46 then(hT bP.others,ah a (ah a (ah a b 40) 91) 46)
 else if dN a (ah a (ah a (ah a b 40) 91) 46) 92 then
  if(df a<|ah a (ah a (ah a (ah a b 40) 91) 46) 92).many then(hT (df a<|ah a (ah a (ah a (ah a b 40) 91) 46) 92).s,(df a<|ah a (ah a (ah a (ah a b 40) 91) 46) 92).r)
  else(hT<|bP.add (df a<|ah a (ah a (ah a (ah a b 40) 91) 46) 92).c (df a<|ah a (ah a (ah a (ah a b 40) 91) 46) 92).c,(df a<|ah a (ah a (ah a (ah a b 40) 91) 46) 92).r)
 else(hT<|bP.add (hv a (ah a (ah a (ah a (ah a b 40) 91) 46) 92) o5).1 (hv a (ah a (ah a (ah a (ah a b 40) 91) 46) 92) o5).1,(hv a (ah a (ah a (ah a (ah a b 40) 91) 46) 92) o5).2)
def kg(a:List UInt8):Nat->ao->Q->ao×Q
|0,c,b=>(c,b)|e+1,c,b=>
 if dN a b 42 then kg a e (.mk 6 [] 0 (-1) [c]) (ah a b 42)
 else if dN a (ah a b 42) 43 then kg a e (.mk 6 [] 1 (-1) [c]) (ah a (ah a b 42) 43)
 else if dN a (ah a (ah a b 42) 43) 63 then kg a e (.mk 6 [] 0 1 [c]) (ah a (ah a (ah a b 42) 43) 63)
 else if dN a (ah a (ah a (ah a b 42) 43) 63) 123 then
  kg a e (.mk 6 [] ((iY a<|ah a (ah a (ah a (ah a b 42) 43) 63) 123).1:Nat) (iY a<|ah a (ah a (ah a (ah a b 42) 43) 63) 123).2.1 [c]) (iY a<|ah a (ah a (ah a (ah a b 42) 43) 63) 123).2.2
 else(c,ah a (ah a (ah a (ah a b 42) 43) 63) 123)
def kF(b:Q->ao×Q)(a:List UInt8)(c:Q):ao×Q:=kg a (a.length+2) (hi b a c).1 (hi b a c).2
def ui(b:List UInt8)(a:Q):Prop:=((a.no=0/\a.C<b.length)/\(bF b a).toNat≠124)/\(bF b a).toNat≠41
instance(b:List UInt8)(a:Q):Decidable (ui b a):=by unfold ui;exact inferInstance
def ij(e:Q->ao×Q)(c:List UInt8):Nat->List ao->Q->List ao×Q|0,b,a=>(b,a)|g+1,b,a=>if ui c a then ij e c g (b++[(kF e c a).1]) (kF e c a).2 else(b,a)
def hJ(b:Q->ao×Q)(a:List UInt8)(c:Q):ao×Q:=(mg 4 (ij b a (a.length+1) [] c).1,(ij b a (a.length+1) [] c).2)
def h5(e:Q->ao×Q)(a:List UInt8):Nat->List ao->Q->List ao×Q|0,c,b=>(c,b)|g+1,c,b=>if dN a b 124 then h5 e a g (c++[(hJ e a<|ah a b 124).1]) (hJ e a<|ah a b 124).2 else(c,ah a b 124)
def c6(a:List UInt8):Nat->Q->ao×Q|0,c=>(.mk 2 [] 0 0 [],c)|b+1,c=>(mg 5 (h5 (c6 a b) a (a.length+2) [(hJ (c6 a b) a c).1] (hJ (c6 a b) a c).2).1,(h5 (c6 a b) a (a.length+2) [(hJ (c6 a b) a c).1] (hJ (c6 a b) a c).2).2)
def Wx{b:List UInt8}{a:Q}{c:UInt8}(g:a.ok b)(e:dN b a c):a.jG (ah b a c):=by unfold ah;rw[ab e];exact ry (qV g e).2.1
def hL{c:List UInt8}{a:Q}{b:UInt8}(e:¬dN c a b):ah c a b=a:=by simp_all[ah,aa]
def Gs{b:List UInt8}{c:Q}(j:c.ok b):(iY b c).2.2.ok b/\c.jG (iY b c).2.2:=by have e:=D4 (least:=0) j;unfold iY;generalize eS b c 0=i at e⊢;have a:=gb (t:=44) e.1;have g:=e.2.2.trans<|oc (t:=44) e.1;generalize ah b i.2 44=k at a g⊢;have h:=D4 (least:=i.1) a;split;split;exact⟨D_ h.1,(g.trans h.2.2.le).trans (DH h.1).le⟩;exact⟨D_ a,g.trans (DH a).le⟩;exact⟨D_ a,g.trans (DH a).le⟩
def ZP{b:List UInt8}{a:Q}(e:a.ok b):(nH b a).2.ok b/\a.jG (nH b a).2:=by obtain⟨c,_,g⟩:=JA (gb (t:=94) e) eN;exact⟨D_ c,((oc e).trans g).sX<|DH c⟩
def nQ(b:List UInt8)(e:Nat)(c:Q->ao×Q):Prop:=∀a:Q,a.ok b->b.length-a.C<e->(c a).2.ok b/\a.ko (c a).2
def CE{b:List UInt8}{p:Nat}{h:Q->ao×Q}(r:nQ b p h){a:Q}(g:a.ok b)(w:b.length-a.C<p+1):(hi h b a).2.ok b/\a.jG (hi h b a).2:=by
 let i:=gb (t:=40) g;let e:=gb (t:=91) i;let l:=(oc (t:=40) g).trans<|oc (t:=91) i;let j:=gb (t:=46) e;let k:=gb (t:=92) j;let m:=(l.trans<|oc (t:=46) e).trans<|oc (t:=92) j;unfold hi;split;rename_i c;let u:=(qV g c).1;let s:(ah b a 40).C=a.C+1:=by unfold ah;rw[ab c];rfl
 let⟨o,q⟩:=r (ah b a 40) i v;exact⟨D_ o,((Wx g c).trans q).trans (DH o).le⟩;split;exact⟨(ZP e).1,l.sX (ZP e).2⟩;split;rename_i c;exact⟨j,l.sX<|Wx e c⟩;split;split;exact⟨(sq k).1,m.sX Bh⟩;exact⟨(sq k).1,m.sX Bh⟩;exact⟨(xP k).1,m.sX NO⟩
def uv{i:List UInt8}:∀{k:Nat}{b:ao}{a:Q},a.ok i->(kg i k b a).2.ok i/\a.ko (kg i k b a).2|0,b,a,c=>⟨c,.refl a⟩|k+1,b,a,c=>by let e:=gb (t:=42) c;let l:=oc (t:=42) c;let g:=gb (t:=43) e;let m:=l.trans<|oc (t:=43) e;let h:=gb (t:=63) g;let o:=m.trans<|oc (t:=63) g;let p:=gb (t:=123) h;let q:=o.trans<|oc (t:=123) h;let j:=Gs p;rw[kg];split;exact⟨(uv e).1,l.trans (uv e).2⟩;split;exact⟨(uv g).1,m.trans (uv g).2⟩;split;exact⟨(uv h).1,o.trans (uv h).2⟩;split;exact⟨(uv j.1).1,(q.trans j.2.le).trans (uv j.1).2⟩;simp_all
def I3{a:List UInt8}{g:Nat}{c:Q->ao×Q}(i:nQ a g c){b:Q}(k:b.ok a)(j:a.length-b.C<g+1):(kF c a b).2.ok a/\b.jG (kF c a b).2:=by let⟨e,h⟩:=CE i k j;exact⟨(uv e).1,h.trans (uv e).2⟩
def IV{b:List UInt8}{j:Nat}{c:Q->ao×Q}(i:nQ b j c):∀{F:Nat}{N:List ao}{a:Q},a.ok b->b.length-a.C<j+1->(ij c b F N a).2.ok b/\a.ko (ij c b F N a).2/\(ij c b F N a).1.length<=N.length+F
|0,N,a,e,_=>⟨e,.refl a,a1 _⟩|F+1,N,a,e,r=>by
 rw[ij];split;rename_i p;obtain⟨h,g⟩:=I3 i e r;by_cases l:(kF c b a).2.no=0;let t:=(g.2 p.1.1.1).resolve_left v;obtain⟨m,o,s⟩:=IV i h v;exact⟨m,g.le.trans o,p2⟩;let k:ij c b F (N++[(kF c b a).1]) (kF c b a).2=(N++[(kF c b a).1],(kF c b a).2):=by cases F with|zero=>rfl|succ F=>rw[ij,aa λq=>l q.1.1.1]
 rw[k];exact⟨h,g.le,af⟩;exact⟨e,.refl a,af⟩
def xM{a:List UInt8}{i:Nat}{c:Q->ao×Q}(e:nQ a i c){b:Q}(h:b.ok a)(g:a.length-b.C<i+1):(hJ c a b).2.ok a/\b.ko (hJ c a b).2:=⟨(IV e h g).1,(IV e h g).2.1⟩
def Li{b:List UInt8}{j:Nat}{e:Q->ao×Q}(i:nQ b j e):∀{F:Nat}{N:List ao}{a:Q},a.ok b->(a.no=0->b.length-a.C<j+1)->(h5 e b F N a).2.ok b/\a.ko (h5 e b F N a).2
|0,N,a,c,_=>⟨c,.refl a⟩|F+1,N,a,c,s=>by
 rw[h5];split;rename_i g;let p:=qV c g;let r:(ah b a 124).C=a.C+1:=by unfold ah;rw[ab g];rfl
 obtain⟨k,h⟩:=xM i (gb (t:=124) c) v;obtain⟨l,m⟩:=Li i k (λq=>by rcases h.2 (by unfold ah;rw[ab g];exact p.2.1) with o|o;omega;omega);exact⟨l,((oc c).trans h).trans m⟩;grind[gb,oc]
def tr{X:List UInt8}:∀a,nQ X a (c6 X a)
|0,h,_,c=>absurd c (uO _)|a+1,h,m,c=>by let g:=tr (X:=X) a;obtain⟨i,b⟩:=xM g m c;obtain⟨j,k⟩:=Li g i (λo=>by by_cases e:h.no=0;rcases b.2 e with l|l;omega;omega;rw[b.1 e];omega);exact⟨j,b.trans k⟩
def Cr(a:List UInt8)(c:Nat):Prop:=∀b:Q,b.ok a->a.length-b.C<c->cK 159 [g 6000] [(6000,.cell 242<|ce a b)] (rn (c6 a c b).1) [(6000,.cell 242<|ce a (c6 a c b).2)]
def Kd(a:List (Nat×V))(b:bb):am:=⟨(0,g 6000)::(2,g 2)::(3,g 3)::a,(3,.cell 262<|bg bP)::b,[]⟩
def adW(a:List UInt8)(k:Nat)(I:Cr a k)(b:Q)(y:b.ok a)(R:a.length-b.C<k+1):cK 303 [g 6000] [(6000,.cell 242 (ce a b))] (rn (hi (c6 a k) a b).1) [(6000,.cell 242 (ce a (hi (c6 a k) a b).2))]:=by
 refine cX func303 [2004,2008,2010,2012,2013] λT J K=>?_;let S:=y.2;let A:=gb (t:=40) y;let D:=gb (t:=91) A;let E:=gb (t:=46) D;let B:=gb (t:=92) E;let he:=sq B;let H:=xP (EJ:=o5) B;refine jS (bg bP) ?_ (dA:=ax);refine gK Unit (λw=>Kd [(14,.bool<|dN a b 40)] [(2,.cell 126<|V.zero jN.z),(6000,.cell 242<|ce a<|ah a b 40)]) (λ_=>True) ?_ λw dA=>?_
 .refine bk [(6000,6000)] ?_ (i:=pd a b 40 y);exact c3 ()
 apply j<;>intro x
 .let L:=(qV y x).1;let M:(ah a b 40).C=b.C+1:=by unfold ah;rw[ab x];rfl
  let e:=I (ah a b 40) A v;let G:=(tr k (ah a b 40) A v).1;let⟨o,u,l,m,p,h⟩:=y3 (c6 a k<|ah a b 40).1;rw[show hi (c6 a k) a b=(.mk o u l m p,fF a (c6 a k (ah a b 40)).2 41) by rw[hi,ab x,h]];rw[h] at e;refine bk [(6000,6000)] ?_ (i:=e);refine bk [(6000,6000)] ?_ (i:=Of a _ 41 G);exact gX aZ
 refine gK Unit (λw=>Kd [(22,.bool<|dN a (ah a b 40) 91)] [(2,.cell 126<|V.zero jN.z),(6000,.cell 242<|ce a<|ah a (ah a b 40) 91)]) (λ_=>True) ?_ λw dA=>?_
 .refine bk [(6000,6000)] ?_ (i:=pd a _ 91 A);exact c3 ()
 apply j<;>intro F
 .let⟨o,u,l,m,p,h⟩:=y3 (nH a<|ah a (ah a b 40) 91).1;let e:=ap_ a (ah a (ah a b 40) 91) D;rw[h] at e;rw[show hi (c6 a k) a b=(.mk o u l m p,(nH a (ah a (ah a b 40) 91)).2) by rw[hi,aa x,ab F,<-h]];refine bk [(6000,6000)] ?_ (i:=e);exact gX aZ
 refine gK Unit (λw=>Kd [(27,.bool<|dN a (ah a (ah a b 40) 91) 46)] [(2,.cell 126<|V.zero jN.z),(6000,.cell 242<|ce a<|ah a (ah a (ah a b 40) 91) 46)]) (λ_=>True) ?_ λw dA=>?_
 .refine bk [(6000,6000)] ?_ (i:=pd a _ 46 D);exact c3 ()
 apply j<;>intro N
 .let⟨o,u,l,m,p,h⟩:=y3<|hT bP.others;let e:=CG bP.others<|(au.vQ _).trans eN;rw[h] at e;rw[show hi (c6 a k) a b=(.mk o u l m p,ah a (ah a (ah a b 40) 91) 46) by simp_all[hi,aa,ab]];refine fb ?_ (av:=gt eN);refine az ?_ (i:=OB bP eN);refine az ?_ (i:=e);exact gX aZ
 refine gK Unit (λw=>Kd [(33,.bool<|dN a (ah a (ah a (ah a b 40) 91) 46) 92)] [(2,.cell 126<|V.zero jN.z),(6000,.cell 242<|ce a<|ah a (ah a (ah a (ah a b 40) 91) 46) 92)]) (λ_=>True) ?_ λw dA=>?_
 .refine bk [(6000,6000)] ?_ (i:=pd a _ 92 E);exact c3 ()
 apply j<;>intro O
 .refine gK Unit (λw=>⟨[(2,g 2),(3,g 3),(5,q (df a<|ah a (ah a (ah a (ah a b 40) 91) 46) 92).c),(6,g 6),(7,.bool (df a<|ah a (ah a (ah a (ah a b 40) 91) 46) 92).many)],[(2,.cell 126<|V.zero jN.z),(3,.cell 262<|bg bP),(6,.cell 262<|bg (df a<|ah a (ah a (ah a (ah a b 40) 91) 46) 92).s),(6000,.cell 242<|ce a (df a<|ah a (ah a (ah a (ah a b 40) 91) 46) 92).r)],[]⟩) (λ_=>True) ?_ λw dA=>?_
  .refine bk [(6000,6000)] ?_ (i:=Mj a _ B);refine jS (bg bP) ?_ (dA:=ax);refine iG (bg (df a<|ah a (ah a (ah a (ah a b 40) 91) 46) 92).s) ?_ (h1:=(fj).trans he.2.2) (dX:=hl);exact c3 ()
  apply j<;>intro P
  .let⟨o,u,l,m,p,h⟩:=y3<|hT (df a<|ah a (ah a (ah a (ah a b 40) 91) 46) 92).s;let e:=CG (df a<|ah a (ah a (ah a (ah a b 40) 91) 46) 92).s he.2.2;rw[h] at e;rw[show hi (c6 a k) a b=(.mk o u l m p,(df a (ah a (ah a (ah a (ah a b 40) 91) 46) 92)).r) by simp_all[hi,aa,ab]];refine fb ?_ (av:=gt he.2.2);refine az ?_ (i:=e);exact gX aZ
  let⟨o,u,l,m,p,h⟩:=y3<|hT<|bP.add (df a<|ah a (ah a (ah a (ah a b 40) 91) 46) 92).c (df a<|ah a (ah a (ah a (ah a b 40) 91) 46) 92).c;let e:=CG (bP.add (df a<|ah a (ah a (ah a (ah a b 40) 91) 46) 92).c (df a<|ah a (ah a (ah a (ah a b 40) 91) 46) 92).c)<|(au.tp ..).trans eN;rw[h] at e;rw[show hi (c6 a k) a b=(.mk o u l m p,(df a (ah a (ah a (ah a (ah a b 40) 91) 46) 92)).r) by simp_all[hi,aa,ab]];refine bk [(6000,3)] ?_ (i:=rg bP _ _ eN he.2.1);refine fb ?_ (av:=gt<|(au.tp ..).trans eN);refine az ?_ (i:=e);exact gX aZ
 let⟨o,u,l,m,p,h⟩:=y3<|hT<|bP.add (hv a (ah a (ah a (ah a (ah a b 40) 91) 46) 92) o5).1 (hv a (ah a (ah a (ah a (ah a b 40) 91) 46) 92) o5).1;let e:=CG (bP.add (hv a (ah a (ah a (ah a (ah a b 40) 91) 46) 92) o5).1 (hv a (ah a (ah a (ah a (ah a b 40) 91) 46) 92) o5).1)<|(au.tp ..).trans eN;rw[h] at e;rw[show hi (c6 a k) a b=(.mk o u l m p,(hv a (ah a (ah a (ah a (ah a b 40) 91) 46) 92) o5).2) by simp_all[hi,aa]];refine bk [(6000,6000)] ?_ (i:=OP a _ o5 B);refine bk [(6000,3)] ?_ (i:=rg bP _ _ eN H.2);refine fb ?_ (av:=gt<|(au.tp ..).trans eN);refine az ?_ (i:=e);exact gX aZ
def Zh{b:List UInt8}{c:Nat}{e:ao}{a:Q}(h:¬dN b a 42)(i:¬dN b a 43)(j:¬dN b a 63)(g:¬dN b a 123):kg b c e a=(e,a):=by cases c with|zero=>rfl|succ c=>rw[kg,hL h,hL i,hL j,aa h,aa i,aa j,aa g,hL g]
structure QP(X:List UInt8)(mc:Q)(k:Nat):Prop where
 ok:mc.ok X
 k:mc.no=0->X.length<mc.C+k
def anl(X:List UInt8)(o:Nat)(ad:Cr X o)(p:Q)(F:p.ok X)(L:X.length-p.C<o+1):cK 272 [g 6000] [(6000,.cell 242 (ce X p))] (bY (kF (c6 X o) X p).1) [(6000,.cell 242 (ce X (kF (c6 X o) X p).2))]:=by
 refine cX func272 [2002] λaA ap aw=>?_;have Y:=F.2;have ax:=F.1;have I:=CE (tr (X:=X) o) F L;have M:=adW X o ad p F L;rw[tG] at M;refine bk [(6000,6000)] ?_ (i:=M);generalize D:kF (c6 X o) X p=P;unfold kF at D;generalize hi (c6 X o) X p=an at I D⊢;obtain⟨⟨ae,aj,dT,T,ag⟩,R⟩:=an;dsimp only at I D⊢;refine cQ (ao×Q×Nat×Bool) (λc=>⟨[(0,g 6000),(2,g 2),(3,g 3)],[(2,.cell 126<|V.zero jN.z),(3,.cell 126<|.agg [.int .i64 c.1.cc,Mq c.2.2.2 .aQ<|.f 2<|c.1.set.map fz,.int .i64 c.1.min,.int .i64 c.1.max,.f 5<|fy c.1.aq]),(6000,.cell 242<|ce X c.2.1)],[]⟩) (λc=>QP X c.2.1 c.2.2.1/\kg X c.2.2.1 c.1 c.2.1=P/\(c.2.2.2=true->c.1.set=[])) (λc=>c.2.2.1) (.mk ae aj dT T ag,R,X.length+2,false) (λ⟨⟨u,x,r,s,w⟩,a,b,cI⟩ ⟨⟨l,H⟩,A,O⟩=>?_) ⟨⟨I.1,λJ=>by show X.length<R.C+(X.length+2);omega⟩,D,λy=>by cases y⟩;dsimp only[ao.cc,ao.set,ao.min,ao.max,ao.aq] at l H A O⊢;have az:=l.1;have h:∀{t:UInt8},dN X a t->b=b-1+1/\QP X (ah X a t) (b-1)/\2<=b:=λ{t} y=>by
  have B:=qV l y;have U:=H B.2.1;have G:ah X a t=a.step:=by unfold ah;rw[ab y]
  rw[G];exact⟨v,⟨⟨B.1,Y⟩,λ_=>by show X.length<a.C+1+(b-1);omega⟩,v⟩
 refine ay.TN (λS=>⟨[(0,g 6000),(2,g 2),(3,g 3)],[(2,.cell 126<|V.zero jN.z),(3,.cell 126<|.agg [.int .i64 u,S,.int .i64 r,.int .i64 s,.f 5<|fy w]),(6000,.cell 242<|ce X a)],[]⟩) 2 3 [1] (x.map fz) cI rfl (λy=>by rw[O y];rfl) ?_;refine cP ?_;refine bk [(6000,6000)] ?_ (i:=pd X a 42 l);apply j<;>intro e
 .refine dv ?_;exact aB (.mk 6 [] 0 (-1) [.mk u x r s w],ah X a 42,b-1,true) ⟨(h e).2.1,by rw[<-A,(h e).1,kg,ab e];rfl,λ_=>rfl⟩ (by have:=(h e).2.2;show b-1<b;omega)
 rw[hL e];refine bk [(6000,6000)] ?_ (i:=pd X a 43 l);apply j<;>intro k
 .refine dv ?_;exact aB (.mk 6 [] 1 (-1) [.mk u x r s w],ah X a 43,b-1,true) ⟨(h k).2.1,by rw[<-A,(h k).1,kg,hL e,aa e,ab k];rfl,λ_=>rfl⟩ (by have:=(h k).2.2;show b-1<b;omega)
 rw[hL k];refine bk [(6000,6000)] ?_ (i:=pd X a 63 l);apply j<;>intro m
 .refine dv ?_;exact aB (.mk 6 [] 0 1 [.mk u x r s w],ah X a 63,b-1,true) ⟨(h m).2.1,by rw[<-A,(h m).1,kg,hL e,hL k,aa e,aa k,ab m];rfl,λ_=>rfl⟩ (by have:=(h m).2.2;show b-1<b;omega)
 rw[hL m];refine bk [(6000,6000)] ?_ (i:=pd X a 123 l);apply j<;>intro q
 .have N:=gb (t:=123) l;have K:=Gs N;refine bk [(6000,6000)] ?_ (i:=aet X (ah X a 123) N);have E:(iY X (ah X a 123)).2.2.ok X/\((iY X (ah X a 123)).2.2.no=0->X.length<(iY X (ah X a 123)).2.2.C+(b-1)):=⟨K.1,λJ=>by
   have B:=qV l q;have U:=H B.2.1;have G:(ah X a 123).C=a.C+1/\(ah X a 123).no=0:=by unfold ah;rw[ab q];exact⟨rfl,B.2.1⟩
   have av:=(K.2.2 G.2).resolve_left λt=>t J;omega⟩
  generalize Z:iY X (ah X a 123)=am at E⊢;obtain⟨al,ak,ai⟩:=am;dsimp only at E⊢;refine dv ?_;exact aB (.mk 6 [] (al:Nat) ak [.mk u x r s w],ai,b-1,true) ⟨⟨E.1,E.2⟩,by rw[<-A,(h q).1,kg,hL e,hL k,hL m,aa e,aa k,aa m,ab q,Z];rfl,λ_=>rfl⟩ (by have:=(h q).2.2;show b-1<b;omega)
 rw[hL q];have W:P=(.mk u x r s w,a):=by rw[<-A,Zh e k m q]
 rw[W];exact gX aZ
def OK{g:Q->ao×Q}{e:List UInt8}{a:Nat}{c:List ao}{b:Q}(h:¬ui e b):ij g e a c b=(c,b):=by cases a with|zero=>rfl|succ a=>rw[ij,aa h]
def Tu(b:List ao)(a:ao):fy b++[bY a]=fy (b++[a]):=by simp[yX,cD,tG]
def Yj(X:List UInt8)(c:Nat)(K:Cr X c)(e:Q)(t:e.ok X)(U:X.length-e.C<c+1):cK 214 [g 6000] [(6000,.cell 242 (ce X e))] (bY (hJ (c6 X c) X e).1) [(6000,.cell 242 (ce X (hJ (c6 X c) X e).2))]:=by
 refine cX func214 [] λY N O=>?_;have W:=t.2;have P:=t.1;generalize I:ij (c6 X c) X (X.length+1) [] e=L;refine ay.dI 3 5 126 [3] none ?_;refine cQ (List ao×Q×Nat) (λa=>⟨[(0,g 6000),(2,g 2),(3,.d 3 0 (fy a.1).length)],[(2,.cell 126<|V.zero jN.z),(3,.n 5 126<|fy a.1),(6000,.cell 242<|ce X a.2.1)],[]⟩) (λa=>a.2.1.ok X/\e.ko a.2.1/\ij (c6 X c) X a.2.2 a.1 a.2.1=L/\(a.2.1.no=0->X.length<a.2.1.C+a.2.2)/\a.1.length+a.2.2<=X.length+1) (λa=>a.2.2) ([],e,X.length+1) (λ⟨l,h,m⟩ ⟨p,q,B,E,G⟩=>?_) ⟨t,.refl e,I,λ_=>aK,af⟩;dsimp only at p q B E G⊢;refine c7 ?_;refine fM ?_;apply b2;intro R;refine hR ?_ (i:=sM X h p);exact rfl;apply b2;intro S;refine hR ?_ (i:=sM X h p);exact rfl;apply j<;>intro x
 .have A:ui X h:=by have:=x;exact⟨⟨⟨this.1.1.1,v⟩,v⟩,v⟩
  have J:=A.1.1.1;have T:e.C<=h.C:=by rcases wj (e.no=0) with k|k;rcases q.2 k with r|r<;>simp_all;rw[q.1 k]<;>simp_all
  have o:=I3 (tr (X:=X) c) p v;have w:ij (c6 X c) X m l h=ij (c6 X c) X (m-1) (l++[(kF (c6 X c) X h).1]) (kF (c6 X c) X h).2:=by obtain⟨D,rfl⟩:∃D,m=D+1:=⟨m-1,v⟩;rw[ij,ab A];rfl
  refine bk [(6000,6000)] ?_ (i:=anl X c K h p v);generalize kF (c6 X c) X h=M at o w⊢;let⟨s,u⟩:=M;dsimp only at o w⊢;have F:u.no=0->X.length<u.C+(m-1):=λk=>by have:=(o.2.2 J).resolve_left λr=>r k;omega
  refine dv ?_;refine eR (fy<|l++[s]) ?_ (aG:=Tu l s) (bq:=KO);exact aB (l++[s],u,m-1) ⟨o.1,q.trans o.2.le,b,F,aK⟩ aK
 have H:¬ui X h:=λk=>x (by simp[eg];exact⟨⟨⟨k.1.1.1,by have:=k.1.1.2;omega⟩,by have:=k.1.2;omega⟩,by have:=k.2;omega⟩);rw[OK H] at B;have y:=Z2 4 l v;rw[tG] at y;rw[show hJ (c6 X c) X e=(mg 4 l,h) by grind[hJ]];refine Bt 3 ?_;refine az ?_ (i:=y);exact gX aZ
def adB(X:List UInt8)(a:Nat)(H:Cr X a)(h:Q)(x:h.ok X)(E:X.length-h.C<a+1):cK 159 [g 6000] [(6000,.cell 242 (ce X h))] (bY (c6 X (a+1) h).1) [(6000,.cell 242 (ce X (c6 X (a+1) h).2))]:=by
 refine cX func159 [] λak ad ae=>?_;have ai:=x.2;have w:=xM (tr (X:=X) a) x E;generalize u:c6 X (a+1) h=N;rw[c6] at u;refine bk [(6000,6000)] ?_ (i:=Yj X a H h x E);generalize hJ (c6 X a) X h=A at w u⊢;let⟨⟨J,M,dT,B,K⟩,L⟩:=A;generalize T:h5 (c6 X a) X (X.length+2) [.mk J M dT B K] L=Z at u;refine og ?_;refine cQ (List ao×Q×Nat) (λc=>⟨[(0,g 6000),(2,g 2),(3,.d 6 0 (fy c.1).length)],[(2,.cell 126<|V.zero jN.z),(6,.n 5 126<|fy c.1),(6000,.cell 242<|ce X c.2.1)],[]⟩) (λc=>c.2.1.ok X/\h.ko c.2.1/\h5 (c6 X a) X c.2.2 c.1 c.2.1=Z/\(c.2.1.no=0->X.length<c.2.1.C+c.2.2)/\c.1.length+c.2.2<=X.length+3) (λc=>c.2.2) ([.mk J M dT B K],L,X.length+2) (λ⟨l,e,k⟩ ⟨q,r,Y,P,S⟩=>?_) ⟨w.1,w.2,T,λ_=>aK,aK⟩;dsimp only at q r Y P S⊢;refine bk [(6000,6000)] ?_ (i:=pd X e 124 q);apply j<;>intro m
 .have O:=qV q m;have U:=O.2.1;have G:=gb (t:=124) q;have W:(ah X e 124).C=e.C+1/\(ah X e 124).no=0:=by unfold ah;rw[ab m];exact⟨rfl,U⟩
  have ag:h.C<=e.C:=by rcases wj (h.no=0) with o|o;rcases r.2 o with t|t<;>simp_all;rw[r.1 o]<;>simp_all
  have p:=xM (tr (X:=X) a) G v;have D:h5 (c6 X a) X k l e=h5 (c6 X a) X (k-1) (l++[(hJ (c6 X a) X (ah X e 124)).1]) (hJ (c6 X a) X (ah X e 124)).2:=by obtain⟨I,rfl⟩:∃I,k=I+1:=⟨k-1,v⟩;rw[h5,ab m];rfl
  refine bk [(6000,6000)] ?_ (i:=Yj X a H (ah X e 124) G v);generalize hJ (c6 X a) X (ah X e 124)=A at p D⊢;let⟨s,y⟩:=A;dsimp only at p D⊢;have R:y.no=0->X.length<y.C+(k-1):=λo=>by have:=(p.2.2 W.2).resolve_left λt=>t o;omega
  refine dv ?_;refine eR (fy<|l++[s]) ?_ (aG:=Tu l s) (bq:=KO);exact aB (l++[s],y,k-1) ⟨p.1,(r.trans<|oc q).trans p.2,b,R,aK⟩ aK
 rw[hL m];have aj:h5 (c6 X a) X k l e=(l,e):=by cases k with|zero=>rfl|succ k=>rw[h5,aa m,hL m]
 have F:=Z2 5 l v;rw[tG] at F;rw[show N=(mg 5 l,e) by grind];refine Bt 6 ?_;refine az ?_ (i:=F);exact gX aZ
def Rm(b:List UInt8):∀a,Cr b a|0=>λc _ e=>absurd e v|a+1=>λc h g=>by rw[tG];exact adB b a (Rm b a) c h g
def uF:ao:=.mk 0 [] 0 0 []
def sO(a:ao)(b:Q):ao×Int×Int:=if b.no≠0 then(uF,b.bad,b.no) else if 40<a.fa\/400<a.parts then(uF,0,3) else(a,0,0)
def fO(a:List UInt8):ao×Int×Int:=if 2000<a.length then(uF,0,3)
 else sO (db a (a.length+1) ⟨0,0,0⟩).1 (if(db a (a.length+1) ⟨0,0,0⟩).2.no=0/\(db a (a.length+1) ⟨0,0,0⟩).2.C<a.length then bE (db a (a.length+1) ⟨0,0,0⟩).2 (db a (a.length+1) ⟨0,0,0⟩).2.C 6 else(db a (a.length+1) ⟨0,0,0⟩).2)
def aon(X:List UInt8)(J:X.length<=1048576)(F:X.length<=2000->(db X (X.length+1) ⟨0,0,0⟩).2.no=0->dx (db X (X.length+1) ⟨0,0,0⟩).1/\(db X (X.length+1) ⟨0,0,0⟩).1.parts<=1000000):aA 53 [.str X] (.tuple [bY (fO X).1,.int .i64 (fO X).2.1,.int .i64 (fO X).2.2]):=by
 refine aX func53 [30] λG H=>?_;apply j<;>intro I
 .rw[show fO X=(uF,0,3) by rw[fO,ab v]];exact fA 2 2 [1] (fA 5 2 [4] (cu aZ))
 have y:X.length<=2000:=v;have q:(⟨0,0,0⟩:Q).ok X:=⟨c1 _,y⟩;have D:=Rp X (X.length+1) v ⟨0,0,0⟩ q rfl (by show X.length-0<X.length+1;omega);have r:=yD (X:=X) (X.length+1) ⟨0,0,0⟩ q rfl (by show X.length-0<X.length+1;omega);have s:=F y;generalize e:fO X=rd;rw[fO,aa v] at e;refine bk [(6000,14)] ?_ (i:=D);generalize db X (X.length+1) ⟨0,0,0⟩=u at r s e⊢;let⟨⟨h,l,dT,b,k⟩,a⟩:=u;have E:=r.p;dsimp only at r s e E⊢;refine gK Unit (λu=>⟨[(2,g 2),(5,g 14),(6,g 6)],[(2,.cell 126<|V.zero jN.z),(6,.cell 126<|bY<|.mk h l dT b k),(14,.cell 166<|ce X<|if a.no=0/\a.C<X.length then bE a a.C 6 else a)],[]⟩) (λ_=>True) ?_ λu K=>?_
 .refine fM ?_;apply j<;>intro w
  .refine bk [(6000,14)] ?_ (i:=o8 X a a.C 6);rw[ab (by first|omega|(simp[eg] at w;omega))];exact c3 ()
  rw[aa (by first|omega|(simp[eg] at w;omega))];exact c3 ()
 have A:(if a.no=0/\a.C<X.length then bE a a.C 6 else a).no=0->a.no=0:=λc=>by split at c;exact absurd c<|gC aj;exact c
 generalize (if a.no=0/\a.C<X.length then bE a a.C 6 else a)=t at A e⊢;apply j<;>intro o
 .rw[show rd=(uF,t.bad,t.no) by rw[<-e,sO,ab o]];refine dC ?_;refine eJ ?_;refine fm ?_;exact fA 2 2 [1] (fA 5 2 [4] (cu aZ))
 have q:t.no=0:=by simpa using o
 have B:=s<|A q;refine az ?_ (i:=Y0 (.mk h l dT b k) B.1 B.2);apply j<;>intro x
 .have m:40<(ao.mk h l dT b k).fa\/400<(ao.mk h l dT b k).parts:=jZ λc=>x<|aa c;rw[ab m];rw[show rd=(uF,0,3) by rw[<-e,sO,aa o,ab m]];exact fA 2 2 [1] (fA 5 2 [4] (cu aZ))
 have m:¬(40<(ao.mk h l dT b k).fa\/400<(ao.mk h l dT b k).parts):=λc=>x (by rw[ab c];decide);rw[show rd=(.mk h l dT b k,0,0) by rw[<-e,sO,aa o,aa m]];exact cu aZ
def ae8(a:ao)(l:mb a):aA 273 [bY a] (.int .i64 0):=by
 refine aX func273 [] λq r=>?_;let⟨⟨C,F⟩,o,G,H,I,J,K,p,m,D,E⟩:=l;let A:¬a.cc=3->a.set.length=0:=λc=>by rw[p c];rfl
 let B:a.cc=3->0<a.set.length:=λc=>ya.2<|m c;let z:a.cc<4->a.aq.length=0:=λc=>by rw[o c];rfl
 let y:=gA a.aq;apply j<;>intro i
 all_goals
  apply j<;>intro i
  .apply cs;intro e;refine fM ?_;exact rfl;apply cs;intro g;apply b2;intro h;refine dD ?_;exact rfl;exact rfl;apply j<;>intro b
   .exfalso;first|omega|(simp[eg] at b;omega)
   first|(exfalso;omega)|(exact ae)
  apply j<;>intro s
  .apply j<;>intro t
   .exfalso;omega
   apply cs;intro e;refine fM ?_;exact rfl;apply cs;intro g;apply b2;intro h;refine dD ?_;exact rfl;exact rfl;apply j<;>intro b
   .exfalso;first|omega|(simp[eg] at b;omega)
   first|(exfalso;omega)|(exact ae)
  apply j<;>intro k
  all_goals
   apply j<;>intro k
   .apply j<;>intro u
    .exfalso;omega
    apply cs;intro e;refine fM ?_;exact rfl;apply cs;intro g;apply b2;intro h;refine dD ?_;exact rfl;exact rfl;apply j<;>intro b
    .exfalso;first|omega|(simp[eg] at b;omega)
    first|(exfalso;omega)|(exact ae)
   apply j<;>intro w
   .apply j<;>intro x
    .exfalso;omega
    apply cs;intro e;refine fM ?_;exact rfl;apply cs;intro g;apply b2;intro h;refine dD ?_;exact rfl;exact rfl;apply j<;>intro b
    .exfalso;first|omega|(simp[eg] at b;omega)
    first|(exfalso;omega)|(exact ae)
   first|(exfalso;omega)|(exact ae)
def ae9(b:ao)(h:mb b):aA 219 [bY b] (.int .i64 0):=by
 refine aX func219 [] λs t=>?_;let e:=λ(a:Nat) (p:a<b.set.length)=>XJ h p;refine az ?_ (i:=ae8 b h);apply j<;>intro u
 .exfalso;omega
 let⟨⟨E,I⟩,J,K,L,M,N,o,O,F,G,H⟩:=h;refine dL b.set.length (λa=>⟨[(1,g 1),(13,_),(14,_),(15,q a)],[(1,_)],[]⟩) (λa p=>?_) .r;apply j<;>intro w
 .let c:a<b.set.length:=v;let m:=e a c;refine aJ a (fz<|b.set.getD a default) ?_ (p:=v2 c);refine dD ?_;refine dD ?_;apply j<;>intro k
  .exfalso;first|omega|(simp[eg] at k;omega)
  refine aL ?_;exact aB (a+1) (bo:=.r)
 apply b2;intro z;refine dD ?_;apply cs;intro A;apply b2;intro B;refine dD ?_;exact rfl;exact rfl;exact rfl;apply j<;>intro l
 .exfalso;first|omega|(simp[eg] at l;omega)
 refine cQ Nat (λa=>⟨[(1,g 1),(6,q a)],[(1,_)],[]⟩) (λa=>1<=a) (λa=>1000-a) 1 (λa p=>?_) (a1 1) .r;apply j<;>intro x
 .let c:a<b.set.length:=v;let m:=e a c;let D:=e (a-1) v;let C:=o a v c;refine c7 ?_;refine gZ a (fz<|b.set.getD a default) ?_ (p:=v2 c);refine ia ((a-1:Nat):Int) ?_;refine gZ (a-1) (fz<|b.set.getD (a-1) default) ?_ (p:=v2 v);refine aL ?_;apply j<;>intro y
  .exfalso;omega
  refine aL ?_;exact aB (a+1) (bo:=.r)
 exact ae
def afa{b:ao}(k:mb b){e:Nat}(a:Nat){c:Nat}(o:a<=1000000000):cK 218 [bY b,q e,g 6000,g 6001,g 6002] [(6000,.cell 3 (q a)),(6001,.cell 3 (q c)),(6002,.cell 29 (.int .i64 0))] (.tuple []) [(6000,.cell 3 (.int .i64 ((a+1:Nat):Int))),(6001,.cell 3 (.int .i64 ((max c e:Nat):Int))),(6002,.cell 29 (.int .i64 0))]:=by
 refine cX func218 [] λp l m=>?_;refine dK ((a+1:Nat):Int) ?_;refine DP ((max c e:Nat):Int) ?_;apply j<;>intro h
 .refine az ?_ (i:=ae9 b k);exact cH
 exact absurd rfl h
def anO{b:List ao}{a:Nat}(e:a<b.length):ea (b.take (a+1))=ea (b.take a)+(b.getD a default).parts:=by
 induction b generalizing a
 trivial
 next c b g=>
  cases a;simp[ea,Ci]
  next a=>grind[ea,default]
def anL b a:ea (b.take a)<=ea b:=by
 induction b generalizing a
 simp
 next c b e=>
  cases a;simp[Ci,ea,c1]
  next a=>grind[ea]
def QX(a:ao):Prop:=dx a->∀b c e:Nat,c+a.parts<=1000000000->b+a.parts<=1000000000->cK 217 [bY a,q b,.func (.func 218) [] [g 6000,g 6001,g 6002]] [(6000,.cell 3<|q c),(6001,.cell 3<|q e),(6002,.cell 29<|.int .i64 0)]
 (.tuple []) [(6000,.cell 3<|.int .i64 ((c+a.parts:Nat):Int)),(6001,.cell 3<|.int .i64 ((max e (b+k3 a.aq):Nat):Int)),(6002,.cell 29<|.int .i64 0)]
def asl{a:ao}(t:∀u∈a.aq,QX u)(m:dx a){b e h:Nat}(A:e+a.parts<=1000000000)(z:b+a.parts<=1000000000):cK 217 [bY a,q b,.func (.func 218) [] [g 6000,g 6001,g 6002]] [(6000,.cell 3 (q e)),(6001,.cell 3 (q h)),(6002,.cell 29 (.int .i64 0))] (.tuple []) [(6000,.cell 3 (.int .i64 ((e+a.parts:Nat)))),(6001,.cell 3 (.int .i64 ((max h (b+k3 a.aq):Nat)))),(6002,.cell 29 (.int .i64 0))]:=by
 refine cX func217 [] λE w x=>?_;let⟨s,o⟩:=nw.1 m;let D:=a.parts_eq;let y:=Nn a;refine bk [(6000,6000),(6001,6001),(6002,6002)] ?_ (i:=afa s e v);rw[show max h b=max (max h b) (b+k3 (a.aq.take 0)) by simp[Ci,k3],show e+1=e+1+ea (a.aq.take 0) by rfl];refine dL a.aq.length (λc=>⟨[(1,q b),(2,.func (.func 218) [] [g 6000,g 6001,g 6002]),(13,.f 5<|fy a.aq),(14,q (fy a.aq).length),(15,q c)],[(6000,.cell 3<|.int .i64<|(e+1+ea (a.aq.take c):Nat)),(6001,.cell 3<|.int .i64<|(max (max h b) (b+k3 (a.aq.take c)):Nat)),(6002,.cell 29<|.int .i64 0)],[]⟩) λc p=>?_;apply j<;>intro l
 .let k:c<a.aq.length:=by rw[gA] at l;omega
  let B:=anO k;let C:=anL a.aq<|c+1;let r:=Wy k;refine aJ c (bY<|a.aq.getD c default) ?_ (p:=jr k);refine dK ((b+1:Nat))<|bk [(6000,6000),(6001,6001),(6002,6002)] ?_ (i:=t (a.aq.getD c default) (bZ k) (o _<|bZ k) (b+1) (e+1+ea (a.aq.take c)) (max (max h b)<|b+k3 (a.aq.take c)) v v);rw[show e+1+ea (a.aq.take c)+(a.aq.getD c default).parts=e+1+ea (a.aq.take (c+1)) by omega,show max (max (max h b) (b+k3 (a.aq.take c))) (b+1+k3 (a.aq.getD c default).aq)=max (max h b) (b+k3 (a.aq.take (c+1))) by rw[r,(a.aq.getD c default).vF];omega];exact aL<|aB<|c+1
 rw[gA] at l;obtain rfl:c=a.aq.length:=v;rw[gq,show max (max h b) (b+k3 a.aq)=max h (b+k3 a.aq) by omega,show e+1+ea a.aq=e+a.parts by omega];exact cH
def asj:∀a,QX a:=ao.ind λa e he h i g c b=>asl e he c b
def Sm a(w:dx a)(h:a.parts<=1000000):aA 161 [bY a] (.int .i64 (if 40<a.fa\/400<a.parts then 3 else 0)):=by
 refine aX func161 [] λb c=>?_;let g:=a.vF;refine bk [(6000,3),(6001,4),(6002,5)] ?_ (i:=asj a w 1 0 0 v v);refine dD ?_;apply j<;>intro e
 .exact ae (w:=by rw[ab];rfl;omega)
 exact ae (w:=by rw[aa];rfl;omega)
def vU(a:List UInt8):ao×Int×Int:=if 2000<a.length then(uF,0,3)
 else sO (c6 a (a.length+1) ⟨0,0,0⟩).1 (if(c6 a (a.length+1) ⟨0,0,0⟩).2.C<a.length then bE (c6 a (a.length+1) ⟨0,0,0⟩).2 (c6 a (a.length+1) ⟨0,0,0⟩).2.C 6 else(c6 a (a.length+1) ⟨0,0,0⟩).2)
theorem ahd(X:List UInt8)(H:X.length<=1048576)(B:X.length<=2000->(c6 X (X.length+1) ⟨0,0,0⟩).2.no=0->dx (c6 X (X.length+1) ⟨0,0,0⟩).1/\(c6 X (X.length+1) ⟨0,0,0⟩).1.parts<=1000000):aA 106 [.str X] (.tuple [bY (vU X).1,.int .i64 (vU X).2.1,.int .i64 (vU X).2.2]):=by
 refine aX func106 [22] λD E=>?_;apply j<;>intro G
 .rw[show vU X=(uF,0,3) by rw[vU,ab v]];exact fA 2 2 [1] (fA 5 2 [4] (cu aZ))
 have s:X.length<=2000:=v;have k:(⟨0,0,0⟩:Q).ok X:=⟨c1 _,s⟩;have u:=Rm X (X.length+1) ⟨0,0,0⟩ k v;rw[tG] at u;have t:=tr (X:=X) (X.length+1) ⟨0,0,0⟩ k v;have o:=B s;generalize l:vU X=rd;rw[vU,aa v] at l;refine bk [(6000,13)] ?_ (i:=u);generalize c6 X (X.length+1) ⟨0,0,0⟩=q at t o l⊢;let⟨⟨c,h,dT,b,e⟩,a⟩:=q;dsimp only at t o l⊢;refine gK Unit (λq=>⟨[(2,g 2),(5,g 13),(6,g 6)],[(2,.cell 126<|V.zero jN.z),(6,.cell 126<|bY<|.mk c h dT b e),(13,.cell 242<|ce X<|if a.C<X.length then bE a a.C 6 else a)],[]⟩) (λ_=>True) ?_ λq I=>?_
 .apply j<;>intro F
  .refine bk [(6000,13)] ?_ (i:=vn X a a.C 6);rw[ab v];exact c3 ()
  rw[aa v];exact c3 ()
 have w:(if a.C<X.length then bE a a.C 6 else a).no=0->a.no=0:=λm=>by grind[absurd,gC]
 generalize (if a.C<X.length then bE a a.C 6 else a)=p at w l⊢;apply j<;>intro A
 .rw[show rd=(uF,p.bad,p.no) by simp_all[sO,ab]];refine dC ?_;refine eJ ?_;refine fm ?_;exact fA 2 2 [1] (fA 5 2 [4] (cu aZ))
 have k:p.no=0:=by simpa using A
 have x:=o<|w k;refine az ?_ (i:=Sm (.mk c h dT b e) x.1 x.2);apply j<;>intro r
 .have y:40<(ao.mk c h dT b e).fa\/400<(ao.mk c h dT b e).parts:=jZ λm=>r<|aa m;rw[show rd=(uF,0,3) by simp_all[sO,aa,ab]];exact fA 2 2 [1] (fA 5 2 [4] (cu aZ))
 have y:¬(40<(ao.mk c h dT b e).fa\/400<(ao.mk c h dT b e).parts):=λm=>r v;rw[show rd=(.mk c h dT b e,0,0) by simp_all[sO,aa]];exact cu aZ
section
attribute [local irreducible] e8 cB
def aoh(a:ao)(c:dx a)(j:cr a<=2000):hg (cT a)/\(cT a).ai.length=cr a/\dQ (ip a) (cT a).ai.length/\km (cT a):=by
 let⟨e,g,i⟩:=yz a c _ Dj aK;let h:=by simpa using g
 refine⟨e,h,b,Re a c _ Dj (λl m k=>?_) aK⟩;trivial
def aen{a:ao}(e:¬2000<cr a)(g:(b6 (cT a) (ip a) 3000).length<=3000):nZ (gG (g6 (pC (cT a) (ip a) (b6 (cT a) (ip a) 3000))))=gY a:=by rw[S0,show kU _ _ _=u6 _ _ from rfl,Lr g];unfold nZ gY;show(if 300<(iZ (oW a)).next.length then _ else _)=_;by_cases c:300<(iZ (oW a)).next.length;simp_all;rw[aa c,aa λb=>b.elim e λb=>b.elim (λb=>absurd b aM) c];rfl
def JQ{e h:Type}(c:e->h)(g:e){b:List e}{a:Nat}(i:a<b.length):(b.take a).map c++[c (b.getD a g)]=(b.take (a+1)).map c:=by grind[List.take_add_one,List.getElem?_eq_getElem]
def amE{a:ao}(r:dx a)(aF:a.parts<=400)(bq:a.fa<=40):aA 107 [bY a] (.tuple [dW (gY a).1,.int .i64 (gY a).2]):=by
 refine aX func107 [2007,2008,2009,2010,2016,2017,2018,2030,2031] λad ah=>?_;refine az ?_ (i:=Sm a r v);rw[aa v];apply j<;>intro ak
 .omega
 refine az ?_ (i:=Yi a r);apply j<;>intro al
 .have ap:gY a=(w6,3):=ab<|.inl v;rw[ap];exact fA 1 2 [1,2] (cu aZ)
 have C:cr a<=2000:=v;obtain⟨dp,ae,s,x⟩:=aoh a r C;have c:=alt a;have F:=ahW r;have w:(gi a).b8<=10000000:=by have:=akV a r 2000 v C v tW 0;have dX:tW.b8=1:=rfl;rw[dX] at this;show(e8 a tW 0).1.b8<=_;omega
 have E:(gi a).ag.length<=10000000:=cA V9 w;have A:(gi a).e3.length=(cT a).ai.length:=by rw[c.ok.ek,c.k]
 have aj:((gi a).e3.map q).length=(gi a).e3.length:=aS ..;have z:(gi a).eF.length<=2000:=by rw[c.ok.eF,c.k];exact dp.p
 have D:∀bJ,((gi a).ag.getD bJ []).length<=10000000:=λbJ=>by rcases gh bJ (gi a).ag.length with b|b;exact cA (WN<|bZ b) w;simp_all
 have aH:((gi a).ai.map bg).length=(cT a).ai.length:=by rw[aS,c.k]
 have Q:=TP (cT a)<|ip a;have aE:=c.k;refine ay.dI 1700 1 64 [] (some (32,0)) ?_;refine ay.dI 1701 1 3 [] (some (32,1)) ?_;refine ay.dI 1702 1 3 [] (some (32,2)) ?_;refine ay.dI 1703 256 262 [] (some (32,3)) ?_;refine lB ⟨[(1,g 1),(2,g 2),(5,g 5)],[(1,.cell 126<|bY a),(2,.cell 131<|.agg [.int .i64 0,.aQ,.aQ]),(5,.cell 243<|g 32),(32,.cell 246<|.agg [.d 1700 0 ([]:List cy).length,.d 1701 0 (xF.eY.map eB).length,.d 1702 0 (xF.e3.map q).length,.d 1703 0 (xF.ai.map bg).length]),(1700,.n 1 64<|([]:List cy).map ep),(1701,.n 1 3<|xF.eY.map eB),(1702,.n 1 3<|xF.e3.map q),(1703,.n 256 262<|xF.ai.map bg)],[]⟩ ?_;refine cP ?_;refine hQ [(6000,32),(5000,1700),(5001,1701),(5002,1702),(5003,1703)] bU [] (λJ L=>?_) (i:=xq (hO:=[]) (Y:=xF) rfl alu rfl) (vC:=zt) (vB:=λ_ _=>zt);refine cP ?_;refine hQ [(6000,32),(5000,1700),(5001,1701),(5002,1702),(5003,1703)] bU [] (λh y=>?_) (i:=aek a r tW J 0 L rfl Cl w) (vC:=zt) (vB:=λ_ _=>zt);refine lB ⟨[(1,g 1),(2,g 2),(5,g 5),(6,q 0),(7,q<|vl a)],[(1,.cell 126<|bY a),(2,.cell 131<|.agg [.int .i64 0,.aQ,.aQ]),(5,.cell 243<|g 32),(32,.cell 246<|.agg [.d 1700 0 h.length,.d 1701 0 ((gi a).eY.map eB).length,.d 1702 0 ((gi a).e3.map q).length,.d 1703 0 ((gi a).ai.map bg).length]),(1700,.n 1 64<|h.map ep),(1701,.n 1 3<|(gi a).eY.map eB),(1702,.n 1 3<|(gi a).e3.map q),(1703,.n 256 262<|(gi a).ai.map bg)],bU h⟩ ?_;refine ay.Hk Ty h 1700 [] zt ?_;refine ay.w5 1 1700 ((cZ h).map bl) (Mf rfl<|ahe h) ?_;have X:((gi a).ag.map bl).length=h.length:=by rw[aS,<-show cZ h=(gi a).ag from y];unfold cZ;rw[aS]
 rw[show cZ h=(gi a).ag from y];refine ay.xd 1700 h.length X ?_;refine ay.g9 1701 ?_;refine ay.g9 1702 ?_;refine ay.g9 1703 ?_;refine lB ⟨[(1,g 1),(2,g 2),(5,g 5),(6,q 0),(7,q<|vl a)],[(1,.cell 126<|bY a),(2,.cell 131<|.agg [.int .i64 0,.aQ,.aQ]),(5,.cell 243<|g 32),(32,.cell 246<|qy<|gi a)],[]⟩ ?_;refine cP ?_;refine ay.dI 1710 32 253 [] (some (40,0)) ?_;refine ay.dI 1711 1 4 [] (some (40,1)) ?_;refine cP ?_;refine dL (gi a).e3.length (λH=>⟨[(2,g 2),(5,g 5),(6,q 0),(7,q<|vl a),(8,g 40),(44,.f 1<|(gi a).e3.map q),(45,q ((gi a).e3.map q).length),(46,q H)],[(1710,.n 32 253<|((cT a).bz.take H).map b5),(1711,.n 1 4<|((iA (cT a)<|ip a).take H).map aW),(1,.cell 126<|bY a),(2,.cell 131<|.agg [.int .i64 0,.aQ,.aQ]),(5,.cell 243<|g 32),(32,.cell 246<|qy<|gi a),(40,.cell 251<|.agg [.d 1710 0 (((cT a).bz.take H).map b5).length,.d 1711 0 (((iA (cT a)<|ip a).take H).map aW).length,.aQ])],[]⟩) λH p=>?_;apply j<;>intro am
 .have m:H<(gi a).e3.length:=v;have U:H<(cT a).bz.length:=by rw[dp.len,<-A];exact m
  have T:H<(iA (cT a) (ip a)).length:=by rw[Q,<-A];exact m
  have S:(iA (cT a) (ip a)).getD H false=decide (H∈(ip a).last):=by unfold iA;rw[cg,ch,wo v];rfl
  have N:(iA (cT a) (ip a)).getD H false↔ey.Way (jl (gi a)) ((gi a).e3.getD H 0) (vl a):=by rw[S,gV];exact c.last H m
  have W:=dp.p;refine aJ H (q<|(gi a).e3.getD H 0) ?_ (p:=dg m);refine bk [(6000,32)] ?_ (i:=Y9 (gi a) c.ok z E D ((gi a).e3.getD H 0) (vl a) (c.ok.Gk H m) ((cT a).bz.getD H []) ((iA (cT a)<|ip a).getD H false) (dp.bz H) (c.bz H m) N);refine jS (b5 []) ?_ (dA:=ax);refine iG (b5<|(cT a).bz.getD H []) ?_ (h1:=n4) (dX:=n4);refine dC ?_;refine a_ (λ_=>fb rfl (av:=qr)) ?_;refine a_ (λ_=>jv rfl) ?_;refine lH ?_;refine jB 65 (((cT a).bz.take<|H+1).map b5) ?_ (ap:=ax) (fC:=.f rfl rfl rfl rfl λK u=>by rw[cV.1 u];rfl) (aG:=JQ b5 [] U) (bq:=aK);refine a_ (λ_=>jv rfl) ?_;refine lH ?_;refine jB 72 (((iA (cT a)<|ip a).take<|H+1).map aW) ?_ (aG:=JQ aW false T) (bq:=aK);refine lH ?_;refine eJ ?_;refine lH ?_;refine eJ ?_;refine iK [(65,1710),(72,1711)] ?_;refine aL ?_;exact aB<|H+1
 obtain rfl:H=(gi a).e3.length:=v;rw[q1 (i:=(gi a).e3.length) (l:=(cT a).bz) (by rw[dp.len];omega),q1 (i:=(gi a).e3.length) (l:=iA (cT a)<|ip a) v];refine ay.g9 1710 ?_;refine ay.g9 1711 ?_;refine cP ?_;refine ay.Y_ 79 (fr (List.replicate 256 0) .aQ .aQ .aQ) ?_;refine cP ?_;refine bk [(6000,79),(6001,5),(6002,32)] ?_ (i:=afg (gi a) (cT a) c.ai F dp.p);refine ay.dI 1712 32 253 [] (some (40,2)) ?_;have aC:((cf (cT a)).map q).length=(cf (cT a)).length:=aS ..;have aw:=Df<|cT a;have aI:(jf (cT a)).length=(cf (cT a)).length:=by unfold jf;rw[aS]
 refine cP ?_;refine ga (.f 1<|(cf<|cT a).map q) ?_ (dc:=jp (Gv _) _ _ _ 0);refine dL (cf<|cT a).length (λb=>⟨[(2,g 2),(5,g 5),(6,q 0),(7,q<|vl a),(8,g 40),(13,g 79),(86,.f 1<|(cf<|cT a).map q),(87,q ((cf<|cT a).map q).length),(88,q b)],[(1712,.n 32 253<|((jf<|cT a).take b).map b5),(1,.cell 126<|bY a),(2,.cell 131<|.agg [.int .i64 0,.aQ,.aQ]),(5,.cell 243<|g 32),(32,.cell 246<|qy<|gi a),(40,.cell 251<|.agg [.f 32 ((cT a).bz.map b5),.f 1<|(iA (cT a)<|ip a).map aW,.d 1712 0 (((jf<|cT a).take b).map b5).length]),(79,.cell 259<|fr (jo<|cT a) (.f 1<|(cf<|cT a).map q) .aQ .aQ)],[]⟩) λb h9=>?_;apply j<;>intro an
 .have m:b<(cf (cT a)).length:=v;obtain⟨e,t⟩:∃e,(cf (cT a)).getD b 0=e:=⟨_,rfl⟩;have M:e<256:=by rw[<-t];exact AX<|bZ m
  have R:((cf (cT a)).map q)[b]?=some (q e):=by rw[dg m,t]
  have W:=dp.p;have Z:(jf (cT a)).getD b []=uC (cT a) e (cT a).ai.length:=by rw[abm m,t];rfl
  refine aJ b (q e) ?_ (p:=R);refine jS (b5 []) ?_ (dA:=ax);refine dL (cT a).ai.length (λbJ=>⟨[(2,g 2),(5,g 5),(6,q 0),(7,q<|vl a),(8,g 40),(13,g 79),(15,q e),(16,g 16),(86,.f 1<|(cf<|cT a).map q),(87,q ((cf<|cT a).map q).length),(88,q b),(96,q ((gi a).ai.map bg).length),(97,q bJ)],[(1712,.n 32 253<|((jf<|cT a).take b).map b5),(1,.cell 126<|bY a),(2,.cell 131<|.agg [.int .i64 0,.aQ,.aQ]),(5,.cell 243<|g 32),(32,.cell 246<|qy<|gi a),(16,.cell 253<|b5<|uC (cT a) e bJ),(40,.cell 251<|.agg [.f 32 ((cT a).bz.map b5),.f 1<|(iA (cT a)<|ip a).map aW,.d 1712 0 (((jf<|cT a).take b).map b5).length]),(79,.cell 259<|fr (jo<|cT a) (.f 1<|(cf<|cT a).map q) .aQ .aQ)],[]⟩) λbJ aD=>?_;apply j<;>intro aq
  .have G:bJ<(cT a).ai.length:=v;have O:=ZX F G M;refine aJ bJ (bg<|ie<|(cT a).ai.getD bJ []) ?_ (p:=ZY c.ai G);refine Bn (qk:=e) (bJ:=e) ?_ (h9:=by show 0+e*1=e;omega);refine DO (.bool<|hq ((cT a).ai.getD bJ []) (e:Int)) ?_ O;apply j<;>intro B
   .refine bk [(6000,16)] ?_ (i:=Yc (gP:=(uC (cT a) e bJ)) (H:=bJ) v);rw[asq v B];refine aL ?_;exact aB<|bJ+1
   rw[<-asp B];refine aL ?_;exact aB<|bJ+1
  obtain rfl:bJ=(cT a).ai.length:=v;rw[<-Z];refine dC ?_;refine a_ (λ_=>fb rfl (av:=qr)) ?_;refine a_ (λ_=>jv rfl) ?_;refine lH ?_;refine jB 119 (((jf<|cT a).take<|b+1).map b5) ?_ (ap:=ax) (fC:=.f rfl rfl rfl rfl λK u=>by rw[cV.1 u];rfl) (aG:=JQ b5 [] v) (bq:=aK);refine lH ?_;refine eJ ?_;refine iK [(119,1712)] ?_;refine aL ?_;exact aB<|b+1
 obtain rfl:b=(cf (cT a)).length:=v;rw[q1 (i:=(cf<|cT a).length) (l:=jf<|cT a) v];refine ay.g9 1712 ?_;refine cP ?_;refine bk [(6000,32)] ?_ (i:=Y9 (gi a) c.ok z E D 0 (vl a) c.ahC (ip a).first (ip a).empty s.ok.1 c.first c.qs);refine jS (b5 []) ?_ (dA:=ax);refine iG (b5 (ip a).first) ?_ (h1:=n4) (dX:=n4);refine lB ⟨[(2,g 2),(8,g 40),(13,g 79),(18,g 18),(19,aW (ip a).empty)],[(2,.cell 131<|.agg [.int .i64 0,.aQ,.aQ]),(18,.cell 253<|b5 (ip a).first),(40,.cell 251<|lr (cT a).bz (iA (cT a)<|ip a)<|jf<|cT a),(79,.cell 259<|fr (jo<|cT a) (.f 1<|(cf<|cT a).map q) .aQ .aQ)],[]⟩ ?_;refine cP ?_;refine fb ?_ (av:=qr);by_cases o:(b6 (cT a) (ip a) 3000).length<=3000
 .skip
  refine bk [(6000,79),(6001,40)] ?_ (i:=aaC (cT a) (ip a) dp.len dp.p dp.bz x s rfl (λ_=>⟨rfl,rfl⟩) λI=>absurd o v);apply j<;>intro P
  .omega
  refine bk [(6000,79)] ?_ (i:=ajY (pC (cT a) (ip a)<|b6 (cT a) (ip a) 3000) (agm o (EO o) aan)<|agn (aqU _ _ _) (EO o) (zH _) aam);rw[aen v o];exact cu aZ
 skip
 refine bk [(6000,79),(6001,40)] ?_ (i:=aaC (cT a) (ip a) dp.len dp.p dp.bz x s rfl (λI=>absurd I v) λ_=>⟨rfl,rfl⟩);apply j<;>intro P
 .rw[show gY a=(w6,3) from ab<|.inr<|.inl<|yh o];exact fA 1 2 [1,2] (cu aZ)
 omega
end
def g5(a b:Q):Prop:=a.no=0/\b=a\/a.no≠0/\b.no=a.no/\b.bad=a.bad
theorem g5.refl a:g5 a a:=by by_cases b:a.no=0;exact .inl ⟨b,rfl⟩;exact .inr ⟨b,rfl,rfl⟩
def g5.fail{b c:Q}(g:b.no=0)(h:c.no=0){a:Int}{Y:Int}(e:Y≠0):g5 (bE b a Y) (bE c a Y):=by unfold bE;rw[ab g,ab h];exact .inr ⟨e,rfl,rfl⟩
def g5.no{a b:Q}(e:g5 a b):a.no=0↔b.no=0:=by rcases e with⟨c,rfl⟩|⟨c,g,_⟩;rfl;omega
def g5.eq{a c:Q}(e:g5 a c)(g:a.no=0):c=a:=by rcases e with⟨_,b⟩|⟨b,_⟩;exact b;omega
theorem g5.step{a c:Q}(h:g5 a c)(i:a.no≠0):g5 a c.step:=by rcases h with⟨b,_⟩|⟨b,e,g⟩;omega;exact .inr ⟨b,e,g⟩
def sr{a:Q}{b c:Int}:a.no≠0->bE a b c=a:=by simp_all[bE,aa]
theorem sW{c:List UInt8}{a:Q}{b:UInt8}:a.no≠0->dN c a b=false:=by(simp[dN,ab];omega)
def PP{c:List UInt8}{a:Q}{b:UInt8}:a.no≠0->ah c a b=a:=by simp_all[ah,sW,aa]
theorem iq{b:List UInt8}{a:Q}(g:a.ok b)(e:a.no=0)c:dN b a c=b1 b a.C c:=by let i:=g.1;unfold dN b1;by_cases h:a.C<b.length;rw[qM e h];grind;grind
def sV{b:List UInt8}{a:Q}(g:a.ok b)(e:a.no=0){c:UInt8}:b1 b a.C c->ah b a c=a.step:=by simp_all[ah,iq,ab]
def Ir{g:List UInt8}{c b:Q}(k:c.no=0->c.ok g)(e:g5 c b){h:UInt8}:g5 (fF g c h) (if b1 g b.C h then b else bE b b.C 6).step:=by unfold fF;by_cases a:c.no=0;have i:=e.eq a;subst i;rw[iq (k a) a];split;exact .refl _;exact(g5.fail a a aj).step<|gC aj;rw[sW a,aa af,sr a];split;exact e.step a;rw[sr λj=>a<|e.no.2 j];exact e.step a
def x1{T:UInt8->Bool}(b:∀c:Fin 256,T (UInt8.ofNat c.1))a:T a:=by have:=b ⟨a.toNat,a.toNat_lt⟩;simp_all
def OC:List UInt8:=[92,46,124,40,41,91,93,123,125,42,43,63,94,45]
theorem PQ a:(j8 a).2=(eX [100,119,115] a||eX [68,87,83] a):=by have:=x1 (T:=λa=>(j8 a).2==(eX [100,119,115] a||eX [68,87,83] a)) bB a;simp_all
theorem arq a(c:eX [100,119,115] a):(j8 a).1=nL λb=>mN b a:=by have:=x1 (T:=λa=>!eX [100,119,115] a||decide ((j8 a).1=nL λb=>mN b a)) (by decide+kernel) a;simp_all
theorem ars(a:UInt8)(c:eX [68,87,83] a):(j8 a).1=nL λb=>!mN b (a+32):=by have:=x1 (T:=λa=>!eX [68,87,83] a||decide ((j8 a).1=nL λb=>!mN b (a+32))) (by decide+kernel) a;simp_all
def pG(a:UInt8):Nat:=if(eX IP a||eX tS a) then 1 else if(a.toNat:Int)=110 then 2 else if(a.toNat:Int)=116 then 3 else if(a.toNat:Int)=114 then 4 else if(a.toNat:Int)=120 then 5
 else if eX [100,119,115] a then 6 else if eX [68,87,83] a then 7 else 0
def A_(a:UInt8):Nat:=if(j8 a).2 then(if eX [100,119,115] a then 6 else 7)
 else if 0<=Go.Lib.indexByte [110,116,114] a then(if(([10,9,13]:List UInt8).getD (Go.Lib.indexByte [110,116,114] a).toNat 0).toNat=10 then 2 else if(([10,9,13]:List UInt8).getD (Go.Lib.indexByte [110,116,114] a).toNat 0).toNat=9 then 3 else 4)
 else if a.toNat=120 then 5
 else if a.toNat≠0/\0<=Go.Lib.indexByte OC a then 1 else 0
def art(a:UInt8):pG a=A_ a:=by have:=x1 (T:=λa=>pG a==A_ a) (by decide+kernel) a;simp_all
def aru(a:UInt8)(b:pG a≠0):32<=(a.toNat:Int)/\(a.toNat:Int)<=126:=by have:=x1 (T:=λa=>decide (pG a=0)||decide (32<=(a.toNat:Int))&&decide ((a.toNat:Int)<=126)) (by decide+kernel) a;simp_all
def arv(a:UInt8):decide (0<=Go.Lib.indexByte mL a)=eX tS a:=by have:=x1 (T:=λa=>decide (0<=Go.Lib.indexByte mL a)==eX tS a) (by decide+kernel) a;simp_all
def arw(a:UInt8):decide (0<=Go.Lib.indexByte o5 a)=eX By a:=by have:=x1 (T:=λa=>decide (0<=Go.Lib.indexByte o5 a)==eX By a) (by decide+kernel) a;simp_all
theorem Xn(a:Nat):bP.getD a false=false:=by grind[bP,List.getElem?_replicate_of_lt,List.getElem?_eq_none,List.length_replicate]
def adh{b:au}{e c a:Nat}(g:a<b.length):(b.add e c).getD a false=(b.getD a false||decide (e<=a)&&decide (a<=c)):=by grind[au.add,List.getElem?_eq_getElem]
theorem Ow{t a:Nat}(b:a<256):(bP.add t t).getD a false=decide (a=t):=by rw[adh bB,Xn,P6];grind
def Zu{a:Nat}(e:a<256):∀b,b<=256->e0 (bP.add a a) b=if b<=a then[] else[((a:Int),(a:Int))]|0,_=>ax|b+1,g=>by rw[e0,Ow v,Zu e b v];by_cases c:b=a;subst c;rw[aa af,Ow v];grind;grind
def arx(a:UInt8):hT (bP.add a.toNat a.toNat)=.mk 3 [((a.toNat:Int),(a.toNat:Int))] 0 0 []:=by have b:=a.toNat_lt;rw[hT,aa,Zu b 256<|a1 _,aa v];have c:=Ow (t:=a.toNat) b;grind[Xn]
def ary:hT bP.others=.mk 3 [(0,255)] 0 0 []:=by rw[hT,aa bB,show e0 _ 256=[(0,255)] by decide+kernel]
theorem aaR(a:UInt8):eX AI a=(eX [100,119,115] a||eX [68,87,83] a):=by have:=x1 (T:=λa=>eX AI a==(eX [100,119,115] a||eX [68,87,83] a)) bB a;simp_all
def UO{c:List UInt8}{b:Q}(e:b.no=0):hp (bF c b)=hU c b.C:=by unfold hU;by_cases a:b.C<c.length;rw[qM e a,ab a];rfl;rw[IX a,aa a];decide
structure FV(Z:FU)(B:wD)(EC:au):Prop where
 r:g5 Z.r B.r
 many:Z.r.no=0->Z.many->B.n=-1/\B.s=EC.join Z.s
 one:Z.r.no=0->Z.many=false->B.n=(Z.c:Nat)/\B.s=EC.set Z.c true
theorem AQ{b:FU}{e:wD}{h:au}(c:b.r.no≠0)(g:g5 b.r e.r):FV b e h:=⟨g,λa=>absurd a c,λa=>absurd a c⟩
def Mp{c:au}{a:Nat}{b:Q}:mH c a b=⟨c.set a true,a,b.step⟩:=by rfl
def T3{b:au}{a:Q}:mH b (-1) a=⟨b, -1,a.step⟩:=by rfl
def TU{e:List UInt8}{O:au}{b:Q}(I:b.ok e)(t:b.no=0):FV (df e b) (ih e O b) O:=by
 have S:=I.1;have M:g5 (bE b b.C 6) (bE b b.C 6):=.refl _;have fn:(bE b b.C 6).no≠0:=gC aj;by_cases y:b.C<e.length;have z:=qM t y;generalize F:e.getD b.C 0=a at z;have c:=art a;have A:=PQ a;have T:=aru a;have q:pG a≠0->¬ik e b.C=false:=λg=>by simp_all[ik,jD,gV]
 unfold df ih;rw[z,F];by_cases h:(j8 a).2;rw[ab h];have i:A_ a=if eX [100,119,115] a then 6 else 7:=by unfold A_;rw[ab h]
 have j:pG a≠0:=by rw[c,i];split<;>decide
 rw[aa<|q j];rw[i] at c;unfold pG at c;split at c;grind;rename_i k;rw[aa k];split at c;grind;rename_i r;rw[aa r];split at c;grind;rename_i s;rw[aa s];split at c;grind;rename_i w;rw[aa w];split at c;grind;rename_i K;rw[aa K];by_cases x:eX [100,119,115] a;rw[ab x,T3];exact⟨.refl _,λ_ _=>⟨rfl,by grind[arq]⟩,λ_ g=>by cases g⟩;rw[aa x];have L:eX [68,87,83] a:=by rw[A] at h;simpa[x] using h
 rw[ab L,T3];exact⟨.refl _,λ_ _=>⟨rfl,by grind[ars]⟩,λ_ g=>by cases g⟩;rw[aa h];have U:¬eX [100,119,115] a/\¬eX [68,87,83] a:=by rw[A] at h;simpa using h
 have i:A_ a=(if 0<=Go.Lib.indexByte [110,116,114] a then(if(([10,9,13]:List UInt8).getD (Go.Lib.indexByte [110,116,114] a).toNat 0).toNat=10 then 2 else if(([10,9,13]:List UInt8).getD (Go.Lib.indexByte [110,116,114] a).toNat 0).toNat=9 then 3 else 4)
  else if a.toNat=120 then 5 else if a.toNat≠0/\0<=Go.Lib.indexByte OC a then 1 else 0):=by unfold A_;rw[aa h]
 rw[i] at c;clear i;by_cases m:0<=Go.Lib.indexByte [110,116,114] a;rw[ab m];rw[ab m] at c;have J:(([10,9,13]:List UInt8).getD (Go.Lib.indexByte [110,116,114] a).toNat 0).toNat=10\/(([10,9,13]:List UInt8).getD (Go.Lib.indexByte [110,116,114] a).toNat 0).toNat=9\/(([10,9,13]:List UInt8).getD (Go.Lib.indexByte [110,116,114] a).toNat 0).toNat=13:=by have G:=(M2 [110,116,114] a).1;simp only[kh,List.length_nil] at G;have:(Go.Lib.indexByte [110,116,114] a).toNat=0\/(Go.Lib.indexByte [110,116,114] a).toNat=1\/(Go.Lib.indexByte [110,116,114] a).toNat=2:=v;rcases this with l|l|l<;>rw[l]<;>decide
 generalize (([10,9,13]:List UInt8).getD (Go.Lib.indexByte [110,116,114] a).toNat 0).toNat=B at c J;have j:pG a≠0:=by rw[c];split<;>(try split)<;>decide
 rw[aa<|q j];unfold pG at c;have N:∀{u:Nat},B=u->FV ⟨B,bP,false,b.step⟩ (mH O (u:Int) b) O:=λ{u} l=>by subst l;rw[Mp];exact⟨.refl _,λ_ g=>(by cases g),λ_ _=>⟨rfl,rfl⟩⟩
 grind;rw[aa m];rw[aa m] at c;by_cases fI:a.toNat=120;rw[ab fI];rw[ab fI] at c;have j:pG a≠0:=by rw[c];decide
 rw[aa<|q j];unfold pG at c;split at c;omega;rename_i k;rw[aa k];split at c;omega;rename_i r;rw[aa r];split at c;omega;rename_i s;rw[aa s];split at c;omega;rename_i w;rw[aa w,ab v];unfold mJ;have D:hp (bF e b.step)=hU e (b.C+1):=UO t;have i:hp (bF e b.step.step)=hU e (b.C+2):=UO t;have P:=HC e<|b.C+1;have R:=HC e<|b.C+2;rw[D,i];by_cases o:hU e (b.C+1)<0;rw[ab o,ab o];exact AQ (gC aj)<|.refl _;rw[aa o,aa o];by_cases p:hU e (b.C+2)<0;rw[ab p,ab p];exact AQ (gC aj)<|.refl _;rw[aa p,aa p];have E:oS e b.C 2=(((hU e (b.C+1)).toNat*16+(hU e (b.C+2)).toNat:Nat):Int):=by show 16*(16*0+hU e (b.C+1))+hU e (b.C+2)=_;omega
 rw[E,Mp];exact⟨.refl _,λ_ g=>(by cases g),λ_ _=>⟨rfl,rfl⟩⟩;rw[aa fI];rw[aa fI] at c;by_cases lp:a.toNat≠0/\0<=Go.Lib.indexByte OC a;rw[ab<|show a.toNat≠0/\0<=Go.Lib.indexByte [92,46,124,40,41,91,93,123,125,42,43,63,94,45] a from lp];rw[ab lp] at c;have j:pG a≠0:=by rw[c];decide
 rw[aa<|q j];unfold pG at c;split at c;rename_i k;rw[ab k,Mp];exact⟨.refl _,λ_ g=>(by cases g),λ_ _=>⟨rfl,rfl⟩⟩;grind;rw[aa<|show¬(a.toNat≠0/\0<=Go.Lib.indexByte [92,46,124,40,41,91,93,123,125,42,43,63,94,45] a) from lp];rw[aa lp] at c;unfold pG at c;split at c;omega;rename_i k;split at c;omega;rename_i r;split at c;omega;rename_i s;split at c;omega;simp_all[aa,AQ];have H:ik e b.C=false:=by unfold ik;rw[show decide ((b.C:Int)<e.length)=false by(simp;omega)];rfl
 rw[ih,ab H,show df e b=⟨0,bP,false,bE b b.C 6⟩ by unfold df;rw[IX y,aa aj,aa aj,aa aj,aa aj]];grind[AQ]
def iM(a:List UInt8)(b:Q):FU:=if dN a b 92 then df a (ah a b 92) else⟨(hv a (ah a b 92) mL).1,bP,false,(hv a (ah a b 92) mL).2⟩
def Z4{a:List UInt8}{O:au}{c:Q}(j:c.ok a)(i:c.no=0):FV (iM a c) (hK a O c) O:=by
 unfold iM hK;rw[iq j i];by_cases g:b1 a c.C 92;let h:=i5 g;let q:ik a c.C:=by unfold ik;let o:((a.getD _ 0).toNat:Int)=92:=h.2;rw[jD,jD,gV,gV,gV];omega
 rw[ab g,aa b,ab g,sV j i g];exact TU ⟨h.1,j.2⟩ i;rw[aa g,hL (by grind[iq])];unfold hv;by_cases h:c.C<a.length;rw[qM i h];generalize m:a.getD _ 0=e;let p:=arv e;let r:ik a c.C=(decide (32<=(e.toNat:Int))&&decide ((e.toNat:Int)<=126)):=by unfold ik;rw[m,show decide _=true by(simp;omega),s2]
 by_cases k:(e.toNat<32\/126<e.toNat)\/0<=Go.Lib.indexByte mL e;rw[ab k,ab];exact AQ (gC aj)<|.refl _;grind;rw[aa k,aa,aa g];exact⟨.refl _,λ_ l=>(by cases l),λ_ _=>⟨rfl,rfl⟩⟩;grind;rw[IX h,ab<|.inl<|.inl aj,ab];exact AQ (gC aj)<|.refl _;grind[ik,decide,decide_eq_false_iff_not]
def Z3{a:List UInt8}{b:Q}(e:b.ok a):(iM a b).c<256/\(iM a b).r.ok a/\(iM a b).s.length=256:=by unfold iM;grind[gb,sq,xP,mL,eN]
def ZT{b:au}(g:b.length=256){a:Nat}:b.set a true=b.add a a:=by unfold au.add;refine oz af λh c e=>?_;grind
def ap2{c:au}(h:c.length=256){a b:Nat}(i:a<=b):au.add ((c.set a true).set b true) a b=c.add a b:=by unfold au.add;refine oz af λj e g=>?_;grind
def Vm(b:List UInt8)(e:au)(a:Q):hV b e a=if(iM b a).many then(e.join (iM b a).s,(iM b a).r) else n_ b e a.C (iM b a).c (iM b a).r:=by unfold hV iM;grind
def M6(a:List UInt8)(h:au)(g e:Nat)(b:Q):n_ a h g e b=if dN a b 45 then l4 h g e (iM a (ah a b 45)).c (if(iM a (ah a b 45)).many then bE (iM a (ah a b 45)).r (ah a (ah a b 45) 92).C 6 else(iM a (ah a b 45)).r) else l4 h g e e (ah a b 45):=by unfold n_;split;unfold iM;grind;rfl
def QW(a b:au×Q):Prop:=g5 a.2 b.2/\(a.2.no=0->a.1=b.1)
def afz{X:List UInt8}{O:au}{D:Q}(m:D.ok X)(A:O.length=256)(S:D.no=0):QW (hV X O D) (rh X O D)\/(hV X O D).2.no=0/\b1 X (hV X O D).2.C 45/\(rh X O D).2.no=6/\(rh X O D).2.bad=((hV X O D).2.C:Nat):=by
 have y:=Z4 (O:=O) m S;have F:=Z3 m;have I:=EL (O:=O) m A;rw[Vm];unfold rh;generalize iM X D=ao at y F⊢;generalize hK X O D=av at y I⊢;let⟨q,aC,M,a⟩:=ao;let⟨aq,aD,B⟩:=av;let⟨k,K,L⟩:=y;let⟨U,l,W⟩:=F;dsimp only at k K L U l W⊢;have az:aq.length=256:=I.len;unfold ri;dsimp only;by_cases e:a.no=0;have s:=(k.eq e).symm;subst s;cases M with
 |true=>
  obtain⟨rfl,rfl⟩:=K e rfl
  (try rw[ab rfl])
  by_cases j:b1 X a.C 45;simp_all[aa,ab,bE];refine .inl ?_;rw[ab<|.inr b];exact⟨.refl _,λ_=>rfl⟩|false=>
  obtain⟨rfl,rfl⟩:=L e rfl;rw[aa af,M6];refine .inl ?_;by_cases j:b1 X a.C 45;have T:=i5 j;have o:dN X a 45:=by rw[iq l e];exact j
  have ad:¬(a.no≠0\/b1 X a.C 45=false):=by rintro(N|N);omega;simp_all
  rw[ab o,sV l e j,aa ad,aa<|show¬((q:Nat):Int)<0 by omega];have g:a.step.ok X:=⟨T.1,m.2⟩;have z:=Z4 (O:=O.set q true) g e;have G:=Z3 g;have ai:(ah X a.step 92).C=if b1 X (a.C+1) 92 then a.C+2 else a.C+1:=by unfold ah;rw[iq g e];show(if b1 X (a.C+1) 92 then a.step.step else a.step).C=_;split<;>rfl
  by_cases hm:(iM X a.step).many
  .have i:b1 X (a.C+1) 92/\(j8 (bF X a.step.step)).2:=by unfold iM at hm;rw[iq g e] at hm;by_cases c:b1 X a.step.C 92;rw[ab c,sV g e c] at hm;refine⟨c,?_⟩;unfold df at hm;grind;simp_all
   have t:=(Gz i.2).1;have P:a.step.step.C=a.C+2:=rfl;rw[P] at t;have x:bF X a.step.step=X.getD (a.C+2) 0:=qM (D:=a.step.step) e t;have Z:eX AI (X.getD (a.C+2) 0):=by rw[aaR,<-PQ,<-x];exact i.2
   rw[ab hm,ab ⟨⟨t,i.1⟩,Z⟩,ai,ab i.1];have ag:(iM X a.step).r.no=0:=by unfold iM;rw[iq g e,ab<|show b1 X a.step.C 92=true from i.1,sV g e i.1];unfold df;rw[ab i.2];exact e
   unfold l4;rw[ab<|show(bE (iM X a.step).r (a.C+2:Nat) 6).no≠0 from gC aj];exact⟨g5.fail ag (show a.step.no=0 from e) (Y:=6) aj,λc=>absurd c<|gC (Y:=6) aj⟩
  have ae:¬((a.C+2<X.length/\b1 X (a.C+1) 92)/\eX AI (X.getD (a.C+2) 0)):=by rintro⟨⟨R,E⟩,ay⟩;refine hm ?_;unfold iM;rw[iq g e,ab<|show b1 X a.step.C 92=true from E,sV g e E];unfold df;have x:bF X a.step.step=X.getD (a.C+2) 0:=qM (D:=a.step.step) e R;rw[x,ab (by grind[PQ,aaR])]
  rw[aa hm,aa ae];have w:(iM X a.step).many=false:=by simpa using hm
  generalize iM X a.step=am at z G w⊢;generalize hK X (O.set q true) a.step=ap at z⊢;let⟨aw,aF,aE,ax⟩:=am;let⟨aB,aA,an⟩:=ap;let⟨p,al,J⟩:=z;dsimp only at p al J G w⊢;unfold l4 CM;dsimp only;by_cases h:ax.no=0;have s:=(p.eq h).symm;subst s;obtain⟨rfl,rfl⟩:=J h w;rw[aa λc=>c h];by_cases u:aw<q;rw[ab u,ab ⟨h,v⟩];exact⟨.refl _,λc=>absurd c<|gC aj⟩;rw[aa u,aa λc=>u v,ab h,Fr,Fr];exact⟨.refl _,λ_=>(ap2 A v).symm⟩;have H:¬an.no=0:=λc=>h<|p.no.2 c;rw[ab h,aa λc=>H c.1,aa H];exact⟨p,λc=>absurd c h⟩;have o:¬dN X a 45:=by rw[iq l e];exact j
  rw[aa o,hL o,ab<|.inr b];unfold l4;rw[aa λc=>c e,aa<|tc _];exact⟨.refl _,λ_=>(ZT A).symm⟩
 have ak:B.no≠0:=λc=>e<|k.no.2 c;rw[ab<|show B.no≠0\/b1 X B.C 45=false from .inl ak];refine .inl ?_;cases M with|true=>(try rw[ab rfl]);exact⟨k,λc=>absurd c e⟩|false=>rw[aa af,M6,aa Cn,PP e];unfold l4;rw[ab e];exact⟨k,λc=>absurd c e⟩
def Pq{h:List UInt8}{g:Nat}{b:au}{a:Q}(e:a.no≠0):m0 g h b a=(b,a):=ZR λc=>e c.1
def OL{b:List UInt8}{a:Q}(g:a.ok b)(c:a.no=0):(bF b a).toNat≠93↔b1 b a.C 93=false:=by
 unfold b1;by_cases e:a.C<b.length;rw[qM c e,Ca,r3,r3]
 (simp;omega)
 simp_all[IX,Ca,r3]
def akO{b:List UInt8}{O:au}{a:Q}(j:a.ok b)(c:a.no=0)(k:b1 b a.C 45):(hV b O a).2.no=6/\(hV b O a).2.bad=(a.C:Nat):=by
 have e:=i5 k;have i:=by exact FC.1<|Int.ofNat_inj.1 e.2
 have h:¬b1 b a.C 92:=λg=>by have:=(i5 g).2;simp_all
 rw[Vm];unfold iM;rw[iq j c,aa h,aa af,hL (by grind[iq])];unfold hv;rw[qM c e.1,i,ab<|.inr aj];rw[M6,aa (by simp[sW,gC]),PP<|gC aj];unfold l4;unfold bE;simp_all
def Wt{X:List UInt8}:∀(g:Nat){kz:Nat}{O:au}{a:Q},a.ok X->O.length=256->(a.no=0->X.length<a.C+g)->(a.no=0->X.length<a.C+kz)->QW (m0 g X O a) (i0 X kz O a)
|g,kz,O,a,i,o,x,y=>by
 by_cases e:a.no=0;let z:=i.1;obtain⟨k,rfl⟩:∃k,g=k+1:=⟨g-1,v⟩;obtain⟨q,rfl⟩:∃q,kz=q+1:=⟨kz-1,v⟩;rw[m0,i0];by_cases m:b1 X a.C 93=false;rw[ab ⟨e,(OL i e).2 m⟩,ab ⟨e,m⟩];let p:=Dt i o;let A:=(NN (O:=O) i).2 e;rcases afz (X:=X) (O:=O) i o e with⟨h,l⟩|⟨h,l,t,u⟩;by_cases c:(hV X O a).2.no=0;rw[h.eq c,<-l c];exact Wt k p.1 p.2 (λ_=>v) λ_=>v;rw[Pq c,CL λj=>c<|h.no.2 j.1];trivial;let w:=p.1.1;let s:b1 X (hV X O a).2.C 93=false:=by have:=(i5 l).2;unfold b1;rw[Ca,r3,r3];refine .inr ?_;rw[this];decide
 obtain⟨r,rfl⟩:∃r,k=r+1:=⟨k-1,v⟩;rw[m0,ab ⟨h,(OL p.1 h).2 s⟩];let hm:=akO (O:=(hV X O a).1) p.1 h l;rw[Pq v,CL λj=>v];refine⟨.inr ⟨aK,b,b⟩,λj=>?_⟩;simp_all;rw[aa λc=>m<|(OL i e).1 c.2,aa λc=>m c.2];exact⟨.refl _,λ_=>rfl⟩;rw[Pq e,CL λj=>e j.1];exact⟨.refl _,λ_=>rfl⟩
 termination_by g=>g
def yo(a b:ao×Q):Prop:=g5 a.2 b.2/\(a.2.no=0->a.1=b.1)
theorem ap8{a:List UInt8}{c:Q}(j:c.ok a)(h:c.no=0):yo (nH a c) (va a c):=by
 unfold nH va;have s:ah a c 94=kW a c:=by unfold ah kW;rw[iq j h]
 rw[iq j h,s];have k:(kW a c).ok a/\(kW a c).no=0:=by unfold kW;split;rename_i e;exact⟨⟨(i5 e).1,j.2⟩,h⟩;trivial
 have i:=Wt (a.length+1) (kz:=a.length+1) k.1 eN (λ_=>v) λ_=>v;have q:=JA (F:=a.length+1) k.1 eN;have p:=LS (F:=a.length+1) k.1 eN λ_=>v;generalize m0 _ a _ _=g at i q⊢;generalize i0 a _ _ _=t at i p⊢;let⟨o,w⟩:=i;by_cases e:g.2.no=0;have m:=o.eq e;have r:=p b;rw[m] at r;have l:fF a g.2 93=t.2.step:=by unfold fF;rw[iq q.1 e,ab r,m]
 refine⟨?_,λ_=>?_⟩;grind[g5,fF,step];simp_all;have l:fF a g.2 93=g.2:=by unfold fF;rw[sW e,aa af,sr e]
 refine⟨?_,λu=>?_⟩;rw[l];exact o.step e;simp_all
def KY(a:Nat×Int×Q)(b:Int×Int×Q):Prop:=g5 a.2.2 b.2.2/\(a.2.2.no=0->((a.1:Nat):Int)=b.1/\a.2.1=b.2.1)
def alQ{X:List UInt8}{D:Q}(J:D.ok X)(T:D.no=0):KY (iY X D) (pf X D):=by
 have j:=D5 (X:=X) (x:=D.C) (F:=2) (Y:=0) J;have k:(dw X D.C 2 0 D).2.no=0:=j.2.2.trans T;unfold iY pf;have O:eS X D 0=((dw X D.C 2 0 D).1,if(dw X D.C 2 0 D).2.C=D.C then bE (dw X D.C 2 0 D).2 (dw X D.C 2 0 D).2.C 6 else if 50<(dw X D.C 2 0 D).1 then bE (dw X D.C 2 0 D).2 D.C 9 else(dw X D.C 2 0 D).2):=by unfold eS;congr 1;split;rfl;simp
 rw[O];unfold gJ;generalize dw X D.C 2 0 D=ad at j k⊢;let⟨Y,a⟩:=ad;dsimp at j k⊢;have G:∀{c:Q},c.no≠0->∀{t:Q},g5 c t->∀(o N:Int) h,KY (if dN X c 44 then(if(bF X (ah X c 44)).toNat≠125 then(h,(eS X (ah X c 44) h).1,fF X (eS X (ah X c 44) h).2 125) else(h, -1,fF X (ah X c 44) 125)) else(h,h,fF X (ah X c 44) 125)) (v8 X o t):=λ{c} g {t} he o N h=>by
  have r:t.no≠0:=λe=>g<|he.no.2 e;rw[sW g,aa af,PP g];unfold v8;rw[aa λe=>r e.1];unfold rp;have p:fF X c 125=c:=by unfold fF;rw[sW g,aa af,sr g]
  refine⟨?_,λb=>?_⟩;show g5 (fF X c 125) _;rw[p];split;exact he.step g;rw[sr r];exact he.step g;simp_all
 by_cases ap:a.C=D.C;rw[ab ap,ab ap];dsimp only;rw[ab<|show(-1)<0 by decide];exact G (gC aj) (.refl _) (-1) 0 Y;rw[aa ap,aa ap];dsimp;rw[aa<|show¬(Y:Int)<0 by omega];by_cases H:50<Y;rw[ab H];exact G (gC aj) (.refl _) Y 0 Y;rw[aa H];unfold v8;rw[iq j.1 k];by_cases i:b1 X a.C 44;have W:=i5 i;have B:a.step.ok X:=⟨W.1,J.2⟩;rw[ab i,sV j.1 k i,ab<|show a.no=0/\b1 X a.C 44=true from⟨k,i⟩];have s:=D5 (X:=X) (x:=a.step.C) (F:=2) (Y:=0) B;have I:(dw X a.step.C 2 0 a.step).2.no=0:=s.2.2.trans k;have z:(bF X a.step).toNat=125->dw X a.step.C 2 0 a.step=(0,a.step):=λe=>by(simp[dw,aa];omega)
 have A:(dw X a.step.C 2 0 a.step).2.C=a.step.C->(dw X a.step.C 2 0 a.step).2=a.step:=λe=>by rw[dw] at e⊢;split at e;rename_i b;have:a.step.step.C<=(dw X a.step.C 1 (0*10+((bF X a.step).toNat-48)) a.step.step).2.C:=(D5 (X:=X) (x:=a.step.C) (F:=1) (Y:=0*10+((bF X a.step).toNat-48)) (D:=a.step.step)<|Q.pQ B (CS b.1).1).2.1;have:a.step.step.C=a.step.C+1:=rfl;omega;grind
 by_cases y:(bF X a.step).toNat=125;rw[aa<|show¬(bF X a.step).toNat≠125 fromλb=>b y];have P:=z y;unfold gJ;rw[P];dsimp only;rw[ab<|show a.step.C=a.step.C from rfl];dsimp only;rw[aa<|show¬(0<=-1/\(-1:Int)<Y) fromλb=>absurd b.1 aj];unfold rp;exact⟨Ir (λ_=>B)<|.refl _,λ_=>⟨rfl,rfl⟩⟩;rw[ab<|show(bF X a.step).toNat≠125 from y];have R:eS X a.step Y=((dw X a.step.C 2 0 a.step).1,if(dw X a.step.C 2 0 a.step).2.C=a.step.C then bE (dw X a.step.C 2 0 a.step).2 (dw X a.step.C 2 0 a.step).2.C 6
  else if 50<(dw X a.step.C 2 0 a.step).1\/(dw X a.step.C 2 0 a.step).1<Y then bE (dw X a.step.C 2 0 a.step).2 a.step.C 9 else(dw X a.step.C 2 0 a.step).2):=rfl
 rw[R];unfold gJ;generalize dw X a.step.C 2 0 a.step=ae at s I z A⊢;let⟨h,c⟩:=ae;dsimp at s I z A⊢;have w:∀{o F7:Int}{l u:Q}{K L:Int}{M:Nat},l.no≠0->g5 l u->KY (M,K,fF X l 125) (rp X o L u):=λ{o F7 l u K L M} g he=>by
  have r:u.no≠0:=λe=>g<|he.no.2 e;unfold rp;have p:fF X l 125=l:=by unfold fF;rw[sW g,aa af,sr g]
  refine⟨?_,λb=>?_⟩;show g5 (fF X l 125) _;rw[p];split;exact he.step g;rw[sr r];exact he.step g;simp_all
 by_cases E:c.C=a.step.C;have S:=A E;subst S;rw[ab<|show a.step.C=a.step.C from rfl,ab<|show a.step.C=a.step.C from rfl];dsimp only;rw[aa<|show¬(0<=-1/\(-1:Int)<Y) fromλb=>absurd b.1 aj];have U:¬b1 X a.step.C 125:=λe=>by have:=i5 e;grind[qM,Int.ofNat_inj]
 unfold rp;rw[aa U];have p:fF X (bE a.step a.step.C 6) 125=bE a.step a.step.C 6:=by unfold fF;rw[sW<|gC aj,aa af,sr<|gC aj]
 refine⟨?_,λb=>?_⟩;show g5 (fF X (bE a.step a.step.C 6) 125) _;rw[p];exact(g5.refl _).step<|gC aj;grind[fF,bE,absurd,gC];rw[aa E,aa E];dsimp;have:a.step.C=a.C+1:=rfl;by_cases q:50<h;rw[ab<|.inl q,ab q];by_cases m:0<=(h:Int)/\((h:Nat))<(Y:Int);rw[ab m,sr<|gC aj];exact w (F7:=0) (gC aj)<|.refl _;rw[aa m];exact w (F7:=0) (gC aj)<|.refl _;rw[aa q];by_cases m:h<Y;rw[ab<|.inr m,ab ⟨v,v⟩];exact w (F7:=0) (gC aj)<|.refl _;rw[aa λb=>b.elim q m,aa λb=>m (by have:=b.2;omega)];unfold rp;exact⟨Ir (λ_=>s.1)<|.refl _,λ_=>⟨rfl,rfl⟩⟩;have Z:¬dN X a 44:=by rw[iq j.1 k];exact i
 rw[aa i,hL Z,aa λe=>i e.2];unfold rp;exact⟨Ir (λ_=>j.1)<|.refl _,λ_=>⟨rfl,rfl⟩⟩
def alH{a:au}(b:a.length=256):bP.join a=a:=by
 unfold au.join bP;rw[<-b];clear b
 induction a
 rfl
 next e a c=>rw[kh,List.replicate_succ,List.zipWith_cons_cons,c,P6]
def Af(b:List UInt8)(g:Nat)(c e:Q->ao×Q):Prop:=∀a:Q,a.ok b->a.no=0->b.length-a.C<g->yo (c a) (e a)
def M3{b:List UInt8}{a:Nat}(e:a<b.length)c:b1 b a c=decide ((b.getD a 0).toNat=c.toNat):=by
 unfold b1
 (simp_all;omega)
def Xg{e:List UInt8}{a:Q}{b:UInt8}(g:(fF e a b).no=0):a.no=0:=by by_cases c:a.no=0;exact c;simp_all[fF,sW,aa,sr]
def adU{e:List UInt8}{F:Nat}{A I:Q->ao×Q}(R:nQ e F A)(T:Af e F A I){b:Q}(U:b.ok e)(q:b.no=0)(B:b.C<e.length)(ag:e.length-b.C<F+1):yo (hi A e b) (j6 I e b):=by
 have L:=qM q B;have u:b.step.ok e:=⟨B,U.2⟩;have:b.step.no=0:=q;have:b.step.C=b.C+1:=rfl;have X:∀h,b1 e b.C h=decide ((e.getD b.C 0).toNat=h.toNat):=M3 B;have M:ik e b.C=(decide (32<=((e.getD b.C 0).toNat:Int))&&decide (((e.getD b.C 0).toNat:Int)<=126)):=by unfold ik;rw[oD v,s2]
 unfold hi j6;generalize ae:e.getD b.C 0=a at L X M⊢;have j:∀h,dN e b h=decide (a.toNat=h.toNat):=λh=>by grind[iq]
 have H:∀h,a.toNat=h.toNat->ah e b h=b.step:=λh g=>by simp_all[ah,ab,oD]
 have y:∀h,¬a.toNat=h.toNat->ah e b h=b:=λh g=>by simp_all[ah,aa,FK]
 have G:∀w,a.toNat=w->32<=w->w<=126->¬ik e b.C=false:=λw Y Z ad=>by(simp_all;omega)
 by_cases l:a.toNat=(40:UInt8).toNat;have k:a.toNat=40:=l;rw[j,ab<|oD l,H 40 l,aa<|G 40 k aj aj,ab<|show(a.toNat:Int)=40 by omega];have i:=T b.step u q v;refine⟨Ir (λ_=>(R b.step u v).1) i.1,λg=>i.2<|Xg g⟩;have:¬a.toNat=40:=l;rw[j 40,aa aK,y 40 l];have Dq:¬(a.toNat:Int)=40:=v;by_cases J:a.toNat=(91:UInt8).toNat;grind[ap8];have:¬a.toNat=91:=J;rw[j 91,aa aK,y 91 J];have E:¬(a.toNat:Int)=91:=v;by_cases m:a.toNat=(46:UInt8).toNat;have k:a.toNat=46:=m;rw[j 46,ab<|oD m,H 46 m,aa<|G 46 k aj aj,aa Dq,aa E,ab<|show(a.toNat:Int)=46 by omega];refine⟨.refl _,λ_=>?_⟩;simp[ary];have:¬a.toNat=46:=m;rw[j 46,aa aK,y 46 m];have N:¬(a.toNat:Int)=46:=v;by_cases o:a.toNat=(92:UInt8).toNat;have k:a.toNat=92:=o;rw[j 92,ab<|oD o,H 92 o,aa<|G 92 k aj aj,aa Dq,aa E,aa N,ab<|show(a.toNat:Int)=92 by omega];have i:=TU (O:=bP) u q;have K:=(sq u).2.2;generalize df e b.step=z at i K⊢;generalize ih e bP b.step=P at i⊢;cases hm:z.many with|true=>rw[ab rfl];exact⟨i.r,λg=>by show hT z.s=hT P.s;rw[(i.many g hm).2,alH K]⟩|false=>rw[aa af];refine⟨i.r,λg=>?_⟩;have:P.s=bP.add z.c z.c:=(i.one g hm).2.trans<|ZT eN;simp_all
 have:¬a.toNat=92:=o;rw[j 92,aa aK,y 92 o];have W:¬(a.toNat:Int)=92:=v;have x:=arw a;unfold hv;rw[L];by_cases p:ik e b.C=false;rw[ab p];have D:a.toNat<32\/126<a.toNat:=by
  rw[M] at p;rcases Ca.1 p with g|g
  (simp_all;omega)
  (simp_all;omega)
 rw[ab<|show(a.toNat<32\/126<a.toNat)\/0<=Go.Lib.indexByte o5 a from .inl D];exact⟨.refl _,λg=>absurd g<|gC aj⟩;rw[aa p,aa Dq,aa E,aa N,aa W];have D:¬(a.toNat<32\/126<a.toNat):=λg=>p (by(simp_all;omega));by_cases t:eX By a;rw[ab t];rw[t,gV] at x;rw[ab<|show(a.toNat<32\/126<a.toNat)\/0<=Go.Lib.indexByte o5 a from .inr x];exact⟨.refl _,λg=>absurd g<|gC aj⟩;rw[aa t];have S:eX By a=false:=by simpa using t
 rw[S,r3] at x;rw[aa<|show¬((a.toNat<32\/126<a.toNat)\/0<=Go.Lib.indexByte o5 a) fromλg=>g.elim D x];refine⟨.refl _,λ_=>?_⟩;simp[arx]
def ao_{e:List UInt8}{c:Nat}{b:ao}{a:Q}(g:¬a.no=0):kg e c b a=(b,a):=Zh Cn Cn Cn Cn
def Ep{e:List UInt8}:∀h{o:Nat}{s r:ao}{a u:Q},(a.no=0->a.ok e)->g5 a u->(a.no=0->s=r)->(a.no=0->e.length<a.C+h)->(a.no=0->e.length<a.C+o)->yo (kg e h s a) (la e o r u)
|h,o,s,r,a,u,c,x,he,H,I=>by
 by_cases b:a.no=0;have c:=c b;have:=c.1;have F:=he b;have G:=(x.eq b).symm;subst F;subst G;obtain⟨m,rfl⟩:∃m,h=m+1:=⟨h-1,v⟩;obtain⟨z,rfl⟩:∃z,o=z+1:=⟨o-1,v⟩;have:a.step.C=a.C+1:=rfl;have p:∀{q:UInt8},b1 e a.C q->a.step.ok e:=λg=>⟨(i5 g).1,c.2⟩;rw[kg,la,ab b];by_cases j:b1 e a.C 42;rw[iq c b,ab j,ab j,sV c b j];exact Ep m (λ_=>p j) (.refl _) (λ_=>rfl) (λ_=>v) λ_=>v;have B:¬dN e a 42:=by rw[iq c b];exact j
 rw[aa B,aa j,hL B];by_cases k:b1 e a.C 43;rw[iq c b,ab k,ab k,sV c b k];exact Ep m (λ_=>p k) (.refl _) (λ_=>rfl) (λ_=>v) λ_=>v;have D:¬dN e a 43:=by rw[iq c b];exact k
 rw[aa D,aa k,hL D];by_cases l:b1 e a.C 63;rw[iq c b,ab l,ab l,sV c b l];exact Ep m (λ_=>p l) (.refl _) (λ_=>rfl) (λ_=>v) λ_=>v;have E:¬dN e a 63:=by rw[iq c b];exact l
 rw[aa E,aa l,hL E];by_cases i:b1 e a.C 123;rw[iq c b,ab i,ab i,sV c b i];have y:=p i;have w:=alQ y b;have t:=Gs y;refine Ep m (λ_=>t.1) w.1 (λg=>?_) (λg=>?_) λg=>?_;have:=w.2 g
 (simp;omega)
 have:=(t.2.2 b).resolve_left (· g);omega;have:=(t.2.2 b).resolve_left (· g);omega;have A:¬dN e a 123:=by rw[iq c b];exact i
 rw[aa A,aa i,hL A];trivial;rw[ao_ b,Zi λq=>b<|x.no.2 q];trivial
 termination_by h=>h
def ann{a:List UInt8}{e:Nat}{c g:Q->ao×Q}(h:nQ a e c)(o:Af a e c g){b:Q}(j:b.ok a)(l:b.no=0)(m:b.C<a.length)(i:a.length-b.C<e+1):yo (kF c a b) (rG g a b):=by have k:=adU h o j l m i;exact Ep _ (λ_=>(CE h j i).1) k.1 k.2 (λ_=>v) λ_=>v
def XP{c:List UInt8}{b:Q}:ui c b↔xN c b:=by unfold ui xN;by_cases a:b.no=0/\b.C<c.length;rw[qM a.1 a.2,M3 a.2,M3 a.2,r3,r3];rfl;omega
def Yo{c:List UInt8}{r:Nat}{h o:Q->ao×Q}(p:nQ c r h)(u:Af c r h o):∀g{kz:Nat}{N l:List ao}{a m:Q},(a.no=0->a.ok c)->g5 a m->(a.no=0->N=l)->(a.no=0->c.length<a.C+g)->(a.no=0->c.length<a.C+kz)->(a.no=0->c.length-a.C<r+1)->g5 (ij h c g N a).2 (om o c kz l m).2/\((ij h c g N a).2.no=0->(ij h c g N a).1=(om o c kz l m).1)|g,kz,N,l,a,m,i,he,z,B,D,A=>by by_cases e:a.no=0;have i:=i e;have:=i.1;have t:=A e;have x:=z e;have y:=(he.eq e).symm;subst x;subst y;obtain⟨q,rfl⟩:∃q,g=q+1:=⟨g-1,v⟩;obtain⟨w,rfl⟩:∃w,kz=w+1:=⟨kz-1,v⟩;rw[ij,om];by_cases j:ui c a;rw[ab j,ab<|XP.1 j];have s:=ann p u i e j.1.1.2 t;have k:=I3 p i t;refine Yo p u q (λ_=>k.1) s.1 (λb=>by rw[s.2 b]) (λb=>?_) (λb=>?_) λb=>?_;have:=(k.2.2 e).resolve_left (· b);omega;have:=(k.2.2 e).resolve_left (· b);omega;have:=(k.2.2 e).resolve_left (· b);omega;rw[aa j,aa λb=>j<|XP.2 b];trivial;rw[OK λb=>e b.1.1.1,Yk λb=>e<|he.no.2 b.1.1.1];trivial
 termination_by g=>g
def Yn{a:List UInt8}{g:Nat}{e h:Q->ao×Q}(j:nQ a g e)(m:Af a g e h){c i:Q}(o:c.no=0->c.ok a)(k:g5 c i)(l:c.no=0->a.length-c.C<g+1):yo (hJ e a c) (kE h a i):=by have p:=Yo j m (a.length+1) (kz:=a.length+1) (N:=[]) o k (λ_=>rfl) (λ_=>v) (λ_=>v) l;unfold hJ kE;exact⟨p.1,λq=>b⟩
theorem Lh{h:Q->ao×Q}{g:List UInt8}{a:Nat}{e:List ao}{b:Q}(c:¬dN g b 124):h5 h g a e b=(e,b):=by
 cases a;rfl
 next a=>rw[h5,aa c,hL c]
def Rq{b:List UInt8}{r:Nat}{j o:Q->ao×Q}(p:nQ b r j)(t:Af b r j o):∀g{kz:Nat}{N l:List ao}{a m:Q},(a.no=0->a.ok b)->g5 a m->(a.no=0->N=l)->(a.no=0->b.length<a.C+g)->(a.no=0->b.length<a.C+kz)->(a.no=0->b.length-a.C<r+1)->g5 (h5 j b g N a).2 (nW o b kz l m).2/\((h5 j b g N a).2.no=0->(h5 j b g N a).1=(nW o b kz l m).1)
|g,kz,N,l,a,m,h,he,A,B,D,E=>by
 by_cases e:a.no=0;have h:=h e;have:=h.1;have y:=A e;have z:=(he.eq e).symm;subst y;subst z;obtain⟨q,rfl⟩:∃q,g=q+1:=⟨g-1,v⟩;obtain⟨x,rfl⟩:∃x,kz=x+1:=⟨kz-1,v⟩;rw[h5,nW];by_cases i:b1 b a.C 124;have u:a.step.ok b:=⟨(i5 i).1,h.2⟩;have:a.step.C=a.C+1:=rfl;rw[iq h e,ab i,ab<|show a.no=0/\b1 b _ 124=true from⟨e,i⟩,sV h e i];have s:=Yn p t (λ_=>u) (.refl _) λ_=>v;have k:=xM p u v;refine Rq p t q (λ_=>k.1) s.1 (λc=>by rw[s.2 c]) (λc=>?_) (λc=>?_) λc=>?_;have:=(k.2.2 e).resolve_left (· c);omega;have:=(k.2.2 e).resolve_left (· c);omega;have:=(k.2.2 e).resolve_left (· c);omega;have w:¬dN b a 124:=by rw[iq h e];exact i
 rw[aa w,aa<|show¬(a.no=0/\b1 b _ 124) fromλc=>i c.2,hL w];trivial;rw[Lh Cn,Rn λc=>e<|he.no.2 c.1];trivial
 termination_by g=>g
def Lj{X:List UInt8}:∀a,Af X a (c6 X a) (db X a)
|0=>λl _ _ g=>absurd g (uO _)|a+1=>λl j o g=>by have k:=Lj (X:=X) a;have e:=tr (X:=X) a;have h:=Yn e k (λ_=>j) (.refl _) λ_=>v;have i:=xM e j g;have p:=Rq e k (X.length+2) (kz:=X.length+2) (N:=[(hJ _ X l).1]) (λ_=>i.1) h.1 (λc=>by rw[h.2 c]) (λ_=>v) (λ_=>v) (λc=>by rcases i.2.2 o with m|m;omega;omega);rw[c6,db];exact⟨p.1,λc=>b⟩
theorem aoA X:vU X=fO X:=by
 unfold vU fO;by_cases i:2000<X.length;simp_all;rw[aa i,aa i];have g:=Lj (X:=X) (X.length+1) ⟨0,0,0⟩ ⟨c1 _,v⟩ rfl v;generalize c6 X _ _=l at g⊢;generalize db X _ _=m at g⊢;obtain⟨p,a⟩:=l;obtain⟨q,r⟩:=m;obtain⟨e,h⟩:=g;dsimp at e h⊢;by_cases c:a.no=0;rw[e.eq c,h c];simp_all;have j:(if a.C<X.length then bE a a.C 6 else a)=a:=by split;exact sr c;rfl
 have k:=λb=>c<|e.no.2 b;rw[j,aa λb=>k b.1];unfold sO;rcases e with⟨b,_⟩|⟨_,o,fI⟩;omega;simp_all
def ZQ{a:List (Int×Int)}{c:Int}{b:Nat}:b<a.length->(o9 a c).getD b default=if b=a.length-1 then((a.getD (a.length-1) default).1,c) else a.getD b default:=by unfold o9;grind
def Zv{b:au}:∀a,(∀h∈e0 b a,0<=h.1/\h.1<=h.2)/\∀e,0<e->e<(e0 b a).length->((e0 b a).getD (e-1) default).2+2<=((e0 b a).getD e default).1
|0=>⟨λh g=>bB,λe _ g=>bB⟩|a+1=>by
 obtain⟨m,o⟩:=Zv a;obtain⟨s,t,q⟩:=Jt b a;have u:=Ey b a;rw[e0];by_cases x:b.getD a false=false;rw[ab x];exists m;rw[aa x];by_cases j:0<a/\b.getD (a-1) false;rw[ab j];have z:=BO b j.1 j.2;generalize e0 b a=c at m o s t q u z⊢;have:c.getD (c.length-1) default∈c:=bZ v;refine⟨λh p=>?_,λe r k=>?_⟩;unfold o9 at p;rcases List.mem_or_eq_of_mem_set p with g|g;grind;grind;rw[zA] at k;have:=o e r k;rw[ZQ v,ZQ k,aa v];by_cases i:e=c.length-1;rw[ab i,<-i];exact this;rw[aa i];exact this;rw[aa j];have w:0<(e0 b a).length->b.getD (a-1) false=false:=λg=>by cases y:b.getD (a-1) false;rfl;exact absurd ⟨v,y⟩ j
 generalize e0 b a=c at m o s t q u w⊢;refine⟨λh p=>?_,λe r k=>?_⟩;rcases ee.1 p with g|g;exact m h g;rw[cV.1 g];exact⟨by show(0:Int)<=a;omega,zY _⟩;rw[c_,pk] at k;rw[cg,q0 v,<-cg];by_cases i:e=c.length;subst i;have hm:c.getD (c.length-1) default∈c:=bZ v;have:=q (w v) _ hm;rw[cg (l:=c++_),s5<|a1 _,ms];show(c.getD (c.length-1) default).2+2<=a;omega;rw[cg (l:=c++_),q0 v,<-cg];exact o e r v
def Ov{b:Int}{c:List (Int×Int)}{a:List ao}(g:mb (.mk b c 0 0 a))(e:∀h∈a,dx h):dx (.mk b c 0 0 a):=nw.2 ⟨g,e⟩
def XK{a:Int}(e:a=1\/a=2):dx (.mk a [] 0 0 []):=by refine Ov ⟨⟨?_,?_⟩,λ_=>rfl,λb=>?_,?_,λj g=>?_,?_,λi _ c=>?_,λ_=>rfl,λb=>?_,λ_=>⟨rfl,rfl⟩,λb=>?_⟩ λk h=>bB;show 1<=a;omega;show a<=6;omega;have:a=6:=b;omega;show 0<=3000;omega;trivial;show 0<=256;omega;trivial;have:a=3:=b;omega;have:a=4\/a=5:=b;omega
theorem Ou{a:au}(j:a.length=256):dx (hT a)/\(hT a).parts=1:=by rw[TV j];split;exists XK (.inl rfl);obtain⟨h,i⟩:=Zv 256;refine⟨Ov ⟨⟨by show 1<=3;omega,by show 3<=6;omega⟩,λ_=>rfl,λb=>absurd (show(3:Int)=6 from b) aj,by show 0<=3000;omega,λe c=>?_,Ey a 256,i,λb=>absurd rfl<|show(3:Int)≠3 from b,λ_ g=>?_,λ_=>⟨rfl,rfl⟩,λb=>?_⟩ λl k=>bB,rfl⟩;have:=h e c;have:=(Jt a 256).1 e c;omega;have:e0 a 256=[]:=g;simp_all;have:(3:Int)=4\/(3:Int)=5:=b;omega
theorem IJ{e:ao}{b c:Int}(j:dx e)(g:0<=b)(h:b<=50)(i:c=-1\/b<=c/\c<=50):dx (.mk 6 [] b c [e]):=by refine nw.2 ⟨⟨⟨by show 1<=6;omega,by show 6<=6;omega⟩,λa=>absurd (show(6:Int)<4 from a) aj,λ_=>⟨rfl,g,h,i⟩,by show 1<=3000;omega,λq o=>?_,by show 0<=256;omega,λp _ m=>?_,λ_=>rfl,λa=>absurd (show(6:Int)=3 from a) aj,λa=>absurd rfl<|show(6:Int)≠6 from a,λa=>?_⟩,λl k=>?_⟩;trivial;trivial;have:(6:Int)=4\/(6:Int)=5:=a;omega;rw[cV.1<|show l∈[e] from k];exact j
def XM{a:Int}{c:List ao}(j:a=4\/a=5)(e:∀h∈c,dx h)(g:c.length<=3000):dx (mg a c):=by unfold mg;split;exact XK<|.inr rfl;split;simp_all;refine Ov ⟨⟨by show 1<=a;omega,by show a<=6;omega⟩,λb=>?_,λb=>?_,g,λm k=>?_,by show 0<=256;omega,λl _ i=>?_,λ_=>rfl,λb=>?_,λ_=>⟨rfl,rfl⟩,λ_=>?_⟩ e;have:a<4:=b;omega;have:a=6:=b;omega;trivial;trivial;have:a=3:=b;omega;show 2<=c.length;omega
theorem anN{a:List ao}(b:a.length=1):(a.getD 0 (.mk 0 [] 0 0 [])).parts=ea a:=by obtain⟨c,rfl⟩:=Ce.1 b;rfl
def YJ:∀b a,ea (b++a)=ea b+ea a|[],a=>by rw[s8,ea,kk]|c::b,a=>by rw[wm,ea,ea,YJ b a,ye]
theorem YK b a:ea (b++[a])=ea b+a.parts:=by simp[YJ,ea,q2]
def Z1 b a:(mg b a).parts<=max 1 (ea a+(if 2<=a.length then 1 else 0)):=by unfold mg;split;show 1+ea []<=_;grind[ea];split;grind[anN];rw[ao.parts_eq,ab v];show 1+ea a<=_;omega
theorem anM{a:List ao}(b:a.length=0):ea a=0:=by rw[Kq.1 b,ea]
def Q.jG.no{a c:Q}(e:a.jG c)(g:c.no=0):a.no=0:=by by_cases b:a.no=0;exact b;have:=e.1 b;simp_all
theorem zM{c:List UInt8}{a:Q}{b:UInt8}:(ah c a b).no=a.no:=by unfold ah;split<;>rfl
def Ad(c:List UInt8)(e:Nat)(b:Q->ao×Q):Prop:=∀a:Q,a.ok c->c.length-a.C<e->(b a).2.no=0->dx (b a).1/\(b a).1.parts+3*a.C<=3*(b a).2.C+1
def ap9{a:List UInt8}{b:Q}(c:b.ok a):dx (nH a b).1/\(nH a b).1.parts=1:=by have:=JA (F:=a.length+1) (gb (t:=94) c) eN;grind[nH,Ou,au.vQ]
def Iq{c:List UInt8}{a:Q}{t:UInt8}(b:(fF c a t).no=0):a.no=0/\(fF c a t).C=a.C+1:=by exists Xg b;unfold fF at b⊢;split at b;rename_i e;rw[ab e];rfl;grind[absurd,gC]
def adV{b:List UInt8}{i:Nat}{c:Q->ao×Q}(q:nQ b i c)(r:Ad b i c){a:Q}(h:a.ok b)(s:b.length-a.C<i+1)(e:(hi c b a).2.no=0):dx (hi c b a).1/\(hi c b a).1.parts+2+3*a.C<=3*(hi c b a).2.C:=by
 have j:=(CE q h s).2;have:=(j.2<|j.no e).resolve_left (· e);have one:dx _/\(hi c b a).1.parts=1->dx (hi c b a).1/\(hi c b a).1.parts+2+3*a.C<=3*(hi c b a).2.C:=λo=>⟨o.1,v⟩;have k:=gb (t:=40) h;have l:=gb (t:=91) k;have:=gb (t:=92)<|gb (t:=46) l;by_cases g:dN b a 40;have m:hi c b a=((c (ah b a 40)).1,fF b (c (ah b a 40)).2 41):=by unfold hi;rw[ab g]
 rw[m] at e⊢;have:=(qV h g).1;have:(ah b a 40).C=a.C+1:=by unfold ah;rw[ab g];rfl
 have p:=Iq e;have:=r _ k v p.1
 (simp_all;omega)
 apply one;unfold hi;rw[aa g];split;exact ap9 l;split;simp[Ou,au.vQ,trans,eN];grind[Ou,sq,au.tp,trans,eN]
theorem Om{c:List UInt8}{b:Q}{a:Nat}:(eS c b a).2.no=0->(eS c b a).1<=50/\a<=(eS c b a).1:=by grind[eS,absurd,gC]
theorem aes{b:List UInt8}{a:Q}(i:a.ok b)(c:(iY b a).2.2.no=0):(iY b a).1<=50/\((iY b a).2.1=-1\/(((iY b a).1:Nat))<=(iY b a).2.1/\(iY b a).2.1<=50):=by
 unfold iY at c⊢;split at c;rename_i e;rw[ab e];split at c;have g:=(Iq c).1;grind[Om,zM,D4,eS,gb];rename_i h;rw[aa h];have g:=(Iq c).1;exact⟨(Om<|(zM).symm.trans g).1,.inl rfl⟩;rename_i e;rw[aa e];have:=(Om<|(zM).symm.trans (Iq (t:=125) c).1).1
 (simp;omega)
theorem Jp{a:ao}{b c:Int}:(ao.mk 6 [] b c [a]).parts=1+a.parts:=by rfl
def Er{c:List UInt8}{p:Nat}:∀g{h:ao}{a:Q},a.ok c->(a.no=0->dx h/\h.parts+2+p<=3*a.C)->(kg c g h a).2.no=0->dx (kg c g h a).1/\(kg c g h a).1.parts+2+p<=3*(kg c g h a).2.C
|0,h,a,_,he,b=>he b|g+1,h,a,s,he,b=>by
 have q:=gb (t:=42) s;have o:=gb (t:=43) q;have j:=gb (t:=63) o;have k:=gb (t:=123) j;have i:=Gs k;have:∀{a:Q}{t:UInt8},dN c a t->(ah c a t).C=a.C+1:=λ{a t} e=>by unfold ah;rw[ab e];rfl
 rw[kg] at b⊢;by_cases l:dN c a 42;rw[ab l] at b⊢;refine Er g q (λe=>?_) b;have:=he<|(zM).symm.trans e;exact⟨IJ this.1 aj aj<|.inl rfl,by grind[Jp]⟩;rw[aa l] at b⊢;rw[hL l] at b o j k i⊢;by_cases m:dN c a 43;rw[ab m] at b⊢;refine Er g o (λe=>?_) b;have:=he<|(zM).symm.trans e;exact⟨IJ this.1 aj aj<|.inl rfl,by grind[Jp]⟩;rw[aa m] at b⊢;rw[hL m] at b j k i⊢;by_cases fI:dN c a 63;rw[ab fI] at b⊢;refine Er g j (λe=>?_) b;grind[zM,IJ,Jp];rw[aa fI] at b⊢;rw[hL fI] at b k i⊢;by_cases lp:dN c a 123;rw[ab lp] at b⊢;refine Er g i.1 (λe=>?_) b;have r:=i.2.no e;have:=(i.2.2 r).resolve_left (· e);grind[zM,aes,IJ,Int.natCast_nonneg,Jp];simp_all[aa,hL]
def ano{a:List UInt8}{e:Nat}{c:Q->ao×Q}(g:nQ a e c)(k:Ad a e c){b:Q}(i:b.ok a)(h:a.length-b.C<e+1)(j:(kF c a b).2.no=0):dx (kF c a b).1/\(kF c a b).1.parts+2+3*b.C<=3*(kF c a b).2.C:=Er _ (CE g i h).1 (adV g k i h ·) j
def Yq{b:List UInt8}{k:Nat}{e:Q->ao×Q}(j:nQ b k e)(o:Ad b k e):∀g{c:List ao}{a:Q},a.ok b->(a.no=0->b.length-a.C<k+1)->(a.no=0->∀i∈c,dx i)->(ij e b g c a).2.no=0->(∀i∈(ij e b g c a).1,dx i)/\ea (ij e b g c a).1+2*(ij e b g c a).1.length+3*a.C<=ea c+2*c.length+3*(ij e b g c a).2.C
|0,c,a,_,_,p,h=>⟨p h,a1 _⟩|g+1,c,a,s,q,p,h=>by rw[ij] at h⊢;by_cases m:ui b a;rw[ab m] at h⊢;have r:=m.1.1.1;have u:=I3 j s<|q r;by_cases l:(kF e b a).2.no=0;have:=ano j o s (q r) l;have:=Yq j o g u.1 (λ_=>v) (λ_ i w=>by grind) h;grind[YK,List.length_append,List.length_singleton];rw[OK λt=>l t.1.1.1] at h;trivial;simp_all
def Yp{a:List UInt8}{g:Nat}{c:Q->ao×Q}(h:nQ a g c)(o:Ad a g c){b:Q}(e:b.ok a)(i:a.length-b.C<g+1)(j:(hJ c a b).2.no=0):dx (hJ c a b).1/\(hJ c a b).1.parts+3*b.C<=3*(hJ c a b).2.C+1:=by have k:=Yq h o _ e (λ_=>i) (λ_ q p=>bB) j;have l:=IV h (F:=a.length+1) (N:=[]) e i;have:=Z1 4 (ij c a (a.length+1) [] b).1;have:=e.2;have m:=l.2.2;simp at m;unfold hJ;exists XM (.inl rfl) k.1 v;grind[ea,List.length_nil,mg,ij]
def Rs{b:List UInt8}{l:Nat}{e:Q->ao×Q}(j:nQ b l e)(m:Ad b l e):∀g{c:List ao}{a:Q},a.ok b->(a.no=0->b.length-a.C<l+1)->(a.no=0->∀i∈c,dx i)->(h5 e b g c a).2.no=0->(∀i∈(h5 e b g c a).1,dx i)/\ea (h5 e b g c a).1+2*(h5 e b g c a).1.length+3*a.C<=ea c+2*c.length+3*(h5 e b g c a).2.C/\(h5 e b g c a).1.length<=c.length+g
|0,c,a,_,_,o,h=>⟨o h,a1 _,a1 _⟩|g+1,c,a,p,u,o,h=>by
 rw[h5] at h⊢;by_cases k:dN b a 124;rw[ab k] at h⊢;have:=qV p k;have q:=gb (t:=124) p;have:(ah b a 124).C=a.C+1:=by unfold ah;rw[ab k];rfl
 have s:=xM j q v;by_cases r:(hJ e b<|ah b a 124).2.no=0;have:=Yp j m q v r;have:=Rs j m g s.1 (λ_=>v) (λ_ i w=>by grind) h;grind[YK,List.length_append,List.length_singleton];grind[Lh,sW,absurd];simp_all[aa,hL,a1,yg]
def Rr{X:List UInt8}:∀a,Ad X a (c6 X a)
|0=>λc _ h _=>absurd h (uO _)|a+1=>λc j h o=>by
 have m:=Rr (X:=X) a;have g:=tr (X:=X) a;have l:=xM g j h;have:=j.2;have k:(h5 _ X _ _ _).2.no=0:=o;have e:(hJ (c6 X a) X c).2.no=0:=by by_cases e:(hJ (c6 X a) X c).2.no=0;exact e;grind[Lh,sW,absurd]
 have:=Yp g m j h e;have i:=Rs g m _ l.1 (λ_=>v) (λ_ s r=>b) k;have:=Z1 5 (h5 (c6 X a) X (X.length+2) [(hJ (c6 X a) X c).1] (hJ (c6 X a) X c).2).1;have p:=i.2.1;have q:=i.2.2;rw[pk] at q;rw[ea,ea,pk] at p;exists XM (.inr rfl) i.1 v;have:=by have:=(Li g (F:=X.length+2) (N:=[(hJ (c6 X a) X c).1]) l.1 λ_=>v).2;exact(this.2 e).resolve_left (· k)
 grind[h5,c6,hJ,anM]
theorem aoX{a:List UInt8}(g:a.length<=2000)(e:(c6 a (a.length+1) ⟨0,0,0⟩).2.no=0):dx (c6 a (a.length+1) ⟨0,0,0⟩).1/\(c6 a (a.length+1) ⟨0,0,0⟩).1.parts<=6001:=by
 have c:(⟨0,0,0⟩:Q).ok a:=⟨c1 _,g⟩;have b:a.length-(⟨0,0,0⟩:Q).C<a.length+1:=v;have:=Rr _ _ c b e;have:=(tr _ _ c b).1.1
 (simp_all;omega)
def alB{a:List UInt8}:(db a (a.length+1) ⟨0,0,0⟩).2.no=0->a.length<=2000->yo (c6 a (a.length+1) ⟨0,0,0⟩) (db a (a.length+1) ⟨0,0,0⟩):=λ_ b=>
 Lj _ _ ⟨c1 _,b⟩ rfl v
theorem UX{a:List UInt8}:a.length<=2000->(c6 a (a.length+1) ⟨0,0,0⟩).2.no=0->dx (c6 a (a.length+1) ⟨0,0,0⟩).1/\(c6 a (a.length+1) ⟨0,0,0⟩).1.parts<=1000000:=λc b=>by grind[aoX]
def UY{X:List UInt8}:X.length<=2000->(db X (X.length+1) ⟨0,0,0⟩).2.no=0->dx (db X (X.length+1) ⟨0,0,0⟩).1/\(db X (X.length+1) ⟨0,0,0⟩).1.parts<=1000000:=λe a=>by have b:=alB a e;have c:=b.1.no.2 a;rw[<-b.2 c];grind[UX]
def aoW a:a.length<=1048576->aA 106 [.str a] (.tuple [bY (fO a).1,.int .i64 (fO a).2.1,.int .i64 (fO a).2.2]):=by grind[ahd,UX,aoA]
def BN{X:List UInt8}(b:(fO X).2.2=0):dx (fO X).1/\(fO X).1.parts<=400/\(fO X).1.fa<=40:=by
 unfold fO at b⊢;split at b;trivial;have e:=UY (X:=X) v;generalize db X _ _=g at b e⊢;obtain⟨c,a⟩:=g;have:a.no=0/\(sO c (if a.no=0/\a.C<X.length then bE a a.C 6 else a)).1=c/\c.fa<=40/\c.parts<=400:=by generalize h:(if a.no=0/\a.C<X.length then bE a _ 6 else a)=i at b⊢;unfold sO at b⊢;split at b;trivial;grind
 grind
noncomputable def dB:qa:=⟨λa=>(fO a).2.2,λa=>(fO a).1,λa=>(fO a).2.1,λa=>(fO a).2.1,λb=>(gY b).2,λb=>(gY b).1,mF⟩
def Yh:F0 dB:=⟨λc b=>aon c b UY,λc b a=>aok (BN a).1 (BN a).2.1 (BN a).2.2⟩
theorem aeV{a:a3}(r:fH a)(p:(iZ (gG a)).next.length<=300):(iZ (gG a)).ok/\gG (iZ (gG a))=gG a:=by
 classical
 have i:iZ (gG a)=kU tD D1 _:=rfl;have q:=by
  have:(iZ (gG a)).next.length=(sA (gG a) nj).length:=by exact aS ..
  omega
 have g:∀h∈sA _ _,∀m∈e7 tD h,m∈sA (gG a) nj:=λh k=>Au (by grind[sA,gG,nj,LL]) k;have e:(sA _ _)[0]?=some _:=vT (lU (succ:=e7 tD) (bj:=[gG a])<|c1 nj) rfl;have j:=(dm.1 e).1;have c:=RH (acc:=D1) g v j;rw[i];refine⟨⟨?_,?_,c.acc,c.n,c.start,c.dst⟩,?_⟩;show 0<(List.map _ _).length;(simp;omega);trivial;rw[RG g e];funext I;have:∀(I:List _)(b:q_),D1 (nF tD b I)=b I:=by
  intro I
  induction I with|nil=>exactλb=>rfl|cons o I l=>exactλb=>l _
 exact this I _
def NK{a:ao}(h:dx a)(b:(gY a).2=0):(gY a).1.ok/\gG (gY a).1=oW a:=by
 unfold gY at b⊢;split at b;cases b;rename_i g;have c:=by refine KH λe=>g<|.inr<|.inl e
 have j:=RI c;have i:gG _=oW a:=Lr c;grind[aeV]
section
noncomputable def mR(a:List UInt8):Int:=if(fO a).2.2≠0 then(fO a).2.2 else(gY (fO a).1).2
def fU:Option (a3×List UInt8)->V|none=>.gv|some (a,b)=>.ref 5 [.agg [q a.start,.f 1<|a.acc.map aW,.f 1<|a.next.map bl,.str b,.bool true]] 0 0
noncomputable def ju(a:List UInt8):Option (a3×List UInt8):=if mR a≠0 then none else if mF (gY (fO a).1).1 then none else some ((gY (fO a).1).1,a)
attribute [local irreducible] fO gY mF
def Yu{a:List UInt8}(r:a.length<=1048576):aA 66 [.str a] (.tuple [fU (ju a),.int .i64 (mR a)]):=by
 refine aX func66 [] λs t=>?_;refine az ?_ (i:=aoW a r);apply j<;>intro k
 .have b:=by simpa using k
  have c:mR a=(fO a).2.2:=ab b;have e:ju a=none:=ab v;rw[e,c];exact ae
 have b:¬(fO a).2.2≠0:=by simpa using k
 obtain⟨g,o,p⟩:=BN<|Cb.1 b;have c:mR a=(gY (fO a).1).2:=aa b;refine az ?_ (i:=amE g o p);apply j<;>intro q
 .have e:ju a=none:=ab v;rw[e,c];exact ae
 have h:=by simpa using q
 obtain⟨i,_⟩:=NK g h;rw[c,h];have m:ju a=if mF _ then none else some _:=aa v
 refine az ?_ (i:=amB i.wf i.len);apply j<;>intro l
 .rw[m,ab l];exact ae
 rw[m,aa l];exact Mh 36 5 ae
theorem afh(a:List Int)(bq:a.length<=1048576)(b:a.map eB≠[]):aA 69 [.f 1 (a.map eB)] (.f 1 (a.map eB)):=by
 refine aX func69 [] λe g=>?_;refine alm ?_ b;apply j<;>intro h
 .trivial
 refine og ?_;refine eR _ ?_ (fC:=.f rfl rfl rfl rfl λi c=>(by obtain⟨_,_,rfl⟩:=b4.1 c;rfl)) (bq:=aK);exact gB 5 ae
open Go.RowKit
theorem afi:aA 69 [.f 1 []] (.f 1 []):=by
 intro h F I t w x y K;obtain⟨a,rfl⟩:∃a,F=[a]:=Ce.1 w;have D:aE h (.f 1 []) a:=x 0 _ _ rfl rfl;have q:∀{b:Ending}{e:World}{l:Value},b=.returned l->aE h (.f 1 []) l->Below I.heap.size I e->∃a k j g,b=.returned a/\(k=V.f 1 []/\j=[])/\aE g k a/\Holds ⟨I,t,h,([]:bd).map (·.1),fZ,0⟩ g j e:=λ{b e l} he C c=>
  ⟨l,.f 1 [],[],h,he,⟨rfl,rfl⟩,C,y.grown ⟨c.os,c.tape,c.output,c.size,λE p _=>c.block E p⟩⟩
 have zero:∀(m:Addr)(i:Nat),a=.slice (some m) 0 i->Calls a4 69 [a].toArray I (λb e=>∃a k j g,b=.returned a/\(k=V.f 1 []/\j=[])/\aE g k a/\Holds ⟨I,t,h,([]:bd).map (·.1),fZ,0⟩ g j e):=λm i B=>by subst B;refine(Tryz.slices_Clone_int_zero m i I).mono ?_;rintro b e ⟨l,he,⟨_,A⟩,L,c⟩;rcases A with⟨rfl,_⟩|⟨u,cap,J,rfl,_,_,_,z,_⟩;trivial;exact q he (.f 1 [] u 0 cap (λ_ _=>.bool false) v z (λs o r=>bB) (λs i o G r=>bB) λs i o G r=>bB) c
 cases D with|slnil=>refine(Tryz.slices_Clone_int_nil 0 0 I).mono ?_;rintro b e ⟨he,rfl⟩;exact q he (.slnil 1) (.refl _ _)|sT=>exact zero _ 0 rfl|f _ _ H base cap=>simp_all
def St(a:List Int)(b:a.length<=1048576):aA 69 [.f 1 (a.map eB)] (.f 1 (a.map eB)):=by grind[eB,afi,afh]
structure cm where
 null:Bool
 gW:Int
 cN:di
 eo:Option (a3×List UInt8)
 list:Bool
 du:List Int
 item:Int
 min:Int
 max:Int
 ib:Bool
 bD:List gr
 rest:Int
def e4(a:cm)(e c b:V):V:=.agg [.bool a.null,.int .i64 a.gW,.f 3<|a.cN.C.map bx,.f 1<|a.cN.on.map aW,.f 2<|a.cN.fW.map fK,e,.bool a.list,c,.int .i64 a.item,.int .i64 a.min,.int .i64 a.max,.bool a.ib,b,.int .i64 a.rest]
def h8(a:cm):V:=e4 a (fU a.eo) (.f 1<|a.du.map eB)<|.f 3<|a.bD.map cS
def cm.elem(a:cm)(b:Nat):Int:=if b<a.du.length then a.du.getD b 0 else a.item
def cm.plain(a:cm):Bool:=a.null||decide (0<a.gW)||a.eo.isSome||!a.cN.empty
def vK(b:List Bool)(a:Int):Bool:=decide (0<=a)&&b.getD a.toNat false
def cm.zi(a:cm):Nat:=if a.min<=a.du.length then a.min.toNat else a.du.length+1
def cm.fD(a:cm)(b:List Bool):Bool:=a.list&&(List.range a.zi).all λc=>vK b<|a.elem c
def AE(b:List Bool)(a:gr):Bool:=a.Bk&&!b.getD a.shape.toNat false
def cm.aj7{a:cm}{b:List Bool}{c:Nat}(e:c<a.zi)(g:vK b (a.elem c)=false):a.fD b=false:=by grind[cm.fD,Bool.and_eq_false_iff,List.all_eq_false]
def cm.Wj{a:cm}{b:List Bool}(e:a.list)(g:∀c,c<a.zi->vK b (a.elem c)):a.fD b:=by simp_all[cm.fD,s2,kM,fq]
def cm.ajX{b:cm}{a:Nat}(c:(a:Int)<b.min)(e:a<=b.du.length):a<b.zi:=by grind[cm.zi]
def cm.gx(a:cm)(b:List Bool):Bool:=a.ib&&!a.bD.any (AE b)
def agT(c:cm){B3:V}(e:V)(a:Nat):aA 112 [.ref 14 [e4 c B3 (.f 1 (c.du.map eB)) e] 0 0,q a] (.int .i64 (c.elem a)):=by
 refine aX func112 [] λg h=>?_;apply j<;>intro i
 .refine aJ a (eB<|c.du.getD a 0) ?_ (p:=b);exact ae (w:=by rw[cm.elem,ab v];rfl)
 exact ae (w:=by rw[cm.elem,aa v];rfl)
def anv(a:cm)(c b:V)(e:a.cN.ok):aA 111 [.ref 14 [e4 a .gv c b] 0 0] (.bool (a.null||decide (0<a.gW)||false||!a.cN.empty)):=by refine aX func111 [] λg h=>?_;refine dD ?_;apply cs;refineλj=>Ij<|rfl;apply cs;refineλk=>hR ?_ (i:=Is e);exact rfl;exact ae
theorem anw(a:cm)(b:a3)(h:List UInt8)(e c:V)(g:a.cN.ok):aA 111 [.ref 14 [e4 a (fU (some (b,h))) e c] 0 0] (.bool (a.null||decide (0<a.gW)||true||!a.cN.empty)):=by refine aX func111 [] λj k=>?_;refine dD ?_;apply cs;refineλl=>Ij<|rfl;apply cs;refineλm=>hR ?_ (i:=Is g);exact rfl;exact ae
def aqK(a:cm){c b:V}(e:a.cN.ok):aA 111 [.ref 14 [e4 a (fU a.eo) c b] 0 0] (.bool a.plain):=by unfold cm.plain;cases g:a.eo with|none=>exact anv a c b e|some h=>grind[anw]
def Wi(a:cm){B3 m l:V}(F:a.list->m=.f 1 (a.du.map eB))(e:List Bool)(G:a.list->0<=a.min/\∀x, -1<=a.elem x/\a.elem x<e.length)(N:a.du.length<=1048576):aA 71 [.ref 14 [e4 a B3 m l] 0 0,.f 1 (e.map aW)] (.bool (a.fD e)):=by
 refine aX func71 [] λK L=>?_;apply j<;>intro z
 .rw[show a.fD e=false by grind[cm.fD]];exact ae
 have h:a.list:=by simpa using z
 obtain rfl:=F h;obtain⟨J,E⟩:=G h;refine cQ Nat (λb=>⟨[(0,.ref 14 [e4 a B3 (.f 1<|a.du.map eB) l] 0 0),(1,.f 1<|e.map aW),(15,.int .i64 a.min),(16,q b)],[],[]⟩) (λb=>(b:Int)<=a.min/\b<=a.du.length/\∀c,c<b->vK e (a.elem c)) (λb=>a.du.length-b) 0 (λb s=>?_) ⟨J,c1 _,λc k=>absurd k<|uO c⟩;apply j<;>intro A
 .obtain⟨H,t,u⟩:=s;obtain⟨C,D⟩:=E b;obtain⟨g,r⟩:∃g,a.elem b=g:=⟨_,rfl⟩;have i:=agT a (B3:=B3) l b;rw[r] at i C D;have I:(b:Int)<a.min:=A;refine az ?_ (i:=i);apply cs;refineλO=>aJ g.toNat (aW<|e.getD g.toNat false) ?_ (p:=CH v);exact rfl;apply j<;>intro B
  .have w:vK e (a.elem b)=false:=by unfold vK;rcases B with y|y;simp_all;simp_all
   rw[cm.aj7 (cm.ajX I t) w];exact ae
  have w:vK e (a.elem b):=by unfold vK;rw[r,jD,gV];exact⟨v,by simp_all⟩
  have o:∀c,c<b+1->vK e (a.elem c):=λc k=>by grind
  apply j<;>intro M
  .rw[cm.Wj h λc k=>o c (by grind[cm.zi])];exact ae
  exact aL<|aB (b+1) ⟨v,v,o⟩
 obtain⟨H,t,u⟩:=s;rw[cm.Wj h λc k=>u c (by grind[cm.zi])];exact ae
def xm{c:Type}(b:c->Bool):List c->Nat->Int|[],_=>-1|e::g,a=>if b e then(a:Nat) else xm b g (a+1)
def U6{c:Type}{L:c->Bool}:∀(a:List c)(b:Nat),a.any L=decide (0<=xm L a b)|[],b=>rfl|e::a,b=>by rw[uH,xm];cases g:L e;exact U6 (L:=L) a _;rfl
def C8(b:Nat)(a:gr):Prop:=a.Bk=true->0<=a.shape/\a.shape<b
def agh(a:gr)(b:List Bool)(e:C8 b.length a):aA 113 [cS a,.ref 1 [.f 1 (b.map aW)] 0 0] (.bool (AE b a)):=by refine aX func113 [] λg h=>?_;apply b2;refineλc=>aJ a.shape.toNat _ ?_ (p:=CH (by have:=e c;omega)) (av:=by have:=e c;omega);exact rfl;exact ae
def aiy(c:List gr)(e:List Bool)(s:c.length<=1000000)(w:∀h∈c,C8 e.length h):aA 175 [.f 3 (c.map cS),.func (.func 113) [] [.ref 1 [.f 1 (e.map aW)] 0 0]] (.int .i64 (xm (AE e) c 0)):=by
 refine aX func175 [] λk l=>?_;refine eH c.length (λa=>xm (AE e) c 0=xm (AE e) (c.drop a) a) (λa=>⟨[(0,_),(1,_),(7,_),(8,q a)],[],[]⟩) (λa p=>?_) (bo:=.r);apply j<;>intro o
 .have g:a<c.length:=v;refine aJ a (cS<|c.getD a default) ?_ (p:=b);refine az ?_ (i:=agh (c.getD a _) e<|w _ b);apply j<;>intro m
  .exact ae (w:=by rw[p.2,iO g,xm,ab b];rfl)
  refine aL ?_;exact aB (a+1) ⟨v,by rw[p.2,iO g,xm,aa b]⟩
 exact ae (w:=by rw[p.2,iv v];rfl)
def afU{a:List gr}(b:List Bool)(e:a.length<=1000000)(w:∀c∈a,C8 b.length c):aA 114 [.f 3 (a.map cS),.func (.func 113) [] [.ref 1 [.f 1 (b.map aW)] 0 0]] (.bool (a.any (AE b))):=by refine aX func114 [] λg h=>?_;refine az ?_ (i:=aiy a b e w);exact ae (w:=by rw[U6 a 0];rfl)
def XF(a:cm){m e c:V}(h:a.ib->c=.f 3 (a.bD.map cS))(b:List Bool)(k:a.bD.length<=1000000)(l:∀g∈a.bD,C8 b.length g):aA 72 [.ref 14 [e4 a m e c] 0 0,.f 1 (b.map aW)] (.bool (a.gx b)):=by refine aX func72 [2001] λo p=>?_;refine ay.tJ 3 1<|cP ?_;apply b2;intro j;obtain rfl:=h j;refine hR ?_ (i:=afU b k l);exact rfl;exact ae
end
section
instance:Inhabited cm:=⟨⟨false,0,⟨[],[],[]⟩,none,false,[],0,0,0,false,[],0⟩⟩
structure F2(hO:Nat)(O:cm):Prop where
 cN:O.cN.ok
 NJ:O.list->0<=O.min/\∀F, -1<=O.elem F/\O.elem F<hO
 cI:O.du.length<=1048576
 Td:O.bD.length<=1000000
 fd:∀x∈O.bD,C8 hO x
def cm.some(a:cm)(b:List Bool):Bool:=a.plain||a.fD b||a.gx b
def lc(a:List cm)(b:Nat)(c:List Bool):Bool:=(a.getD b default).some c
def eL(a:List cm):List Bool:=vp (lc a) a.length<|List.replicate a.length false
def adt(a:List cm):(eL a).length=a.length:=by
 unfold eL vp;have g:∀(b:Nat)(c:List _),(tI (lc a) a.length b c).length=c.length:=by
  intro b
  induction b with|zero=>intro c;rfl|succ b e=>grind[tI,OI]
 simp_all
def Yf{b:Nat->List Bool->Bool}{a:List Bool}:fv b a 0=a:=rfl
def anc{b:Nat->List Bool->Bool}{c:List Bool}{a:Nat}(e:¬((fv b c a).getD a true=false/\b a (fv b c a))):fv b c (a+1)=fv b c a:=by rw[fv,aa e]
def anQ{a:List cm}{b:Nat}(c:b<a.length):(a.map h8)[b]?=some (e4 (a.getD b default) (fU (a.getD b default).eo) (.f 1 ((a.getD b default).du.map eB)) (.f 3 ((a.getD b default).bD.map cS))):=cv c
def ahQ{a:List cm}{c:Nat}(e:c<a.length):a.getD c default=a[c]:=b
attribute [local irreducible] e4 cm.fD cm.gx cm.plain vp fv
def adx(a:List cm)(l:Int)(D:∀G∈a,F2 a.length G)(S:a.length<=1000000):cK 70 [g 6000] [(6000,.cell 78 (.agg [.d 6001 0 (a.map h8).length,.int .i64 l])),(6001,.n 14 100 (a.map h8))] (.f 1 ((eL a).map aW)) [(6000,.cell 78 (.agg [.d 6001 0 (a.map h8).length,.int .i64 l])),(6001,.n 14 100 (a.map h8))]:=by
 refine cX func70 [] λW J L=>?_;have u:(a.map h8).length=a.length:=aS ..;refine ja a.length a.length ((List.replicate a.length false).map aW) ?_ (p:=cW Nat.cast u) (jM:=cW Nat.cast u) (aG:=uP);refine cQ (List Bool×Bool) (λe=>⟨[(0,g 6000),(3,.d 12 0 a.length),(4,.bool e.2)],[(12,.n 1 4<|e.1.map aW),(6001,.n 14 100<|a.map h8),(6000,.cell 78<|.agg [.d 6001 0 (a.map h8).length,.int .i64 l])],[]⟩) (λe=>e.1.length=a.length/\(e.2=true->vp (lc a) a.length e.1=eL a)/\(e.2=false->e.1=eL a)) (λe=>2*rj e.1+(if e.2 then 1 else 0)) (List.replicate a.length false,true) (λ⟨c,y⟩ ⟨F,T,E⟩=>?_) ⟨s7,λ_=>rfl,λr=>by cases r⟩;apply j<;>intro z
 .refine cQ (Nat×List Bool×Bool) (λI=>⟨[(0,g 6000),(3,.d 12 0 a.length),(4,.bool I.2.2),(18,q (a.map h8).length),(19,q I.1)],[(12,.n 1 4<|I.2.1.map aW),(6001,.n 14 100<|a.map h8),(6000,.cell 78<|.agg [.d 6001 0 (a.map h8).length,.int .i64 l])],[]⟩) (λI=>I.1<=a.length/\I.2.1=fv (lc a) c I.1/\I.2.2=decide (fv (lc a) c I.1≠c)) (λI=>a.length-I.1) (0,c,false) (λ⟨H,U,t⟩ x=>?_) ⟨c1 _,(Yf).symm,by simp[Yf]⟩ ⟨⟨ax,ax,rfl,ax,ax,trivial⟩,⟨ax,ax,ax,trivial⟩,rfl,rfl⟩;dsimp only at x⊢;obtain⟨p,rfl,O⟩:=x;have s:(fv (lc a) c H).length=a.length:=by rw[OI];exact F
  have w:((fv (lc a) c H).map aW).length=a.length:=by rw[aS];exact s
  apply j<;>intro M
  .have C:H<a.length:=v;have k:H<(a.map h8).length:=v;have h:=D (a.getD H default) b;have o:=anQ C;refine cz H ?_ (p:=k);refine cz H ?_;refine ft (aW<|(fv (lc a) c H).getD H true) ?_ (p:=xv v);apply b2;intro P;refine hR ?_ (i:=fg.zy (aqK (a.getD H default) h.cN) o) (tN:=.cons (.n rfl k) .nil);apply cs;intro Q;refine hR ?_ (i:=fg.zy (Wi (a.getD H default) (λ_=>rfl) (fv (lc a) c H) (by rw[s];exact h.NJ) h.cI) o) (tN:=.cons (.n rfl k)<|.cons (.f rfl w.symm) .nil);exact rfl;apply cs;intro R;refine hR ?_ (i:=fg.zy (XF (a.getD H default) (λ_=>rfl) (fv (lc a) c H) h.Td (by rw[s];exact h.fd)) o) (tN:=.cons (.n rfl k)<|.cons (.f rfl w.symm) .nil);exact rfl;exact rfl;apply j<;>intro A
   .have m:=anb (sm:=lc a) (N:=c) (H:=H) b (by simp_all[lc,cm.some,m5]);refine cz H ?_;refine fl (((fv (lc a) c H).set H true).map aW) (aW<|(fv (lc a) c H).getD H true) (aW true) ?_ (p:=xv v) (aG:=af);refine aL ?_;exact aB (H+1,(fv (lc a) c H).set H true,true) ⟨v,m.1.symm,aM⟩ v
   have m:fv (lc a) c (H+1)=fv (lc a) c H:=anc λK=>A ⟨b,by simp_all[lc,cm.some,m5]⟩;refine aL ?_;exact aB (H+1,fv (lc a) c H,t) ⟨v,m.symm,b⟩ v
  obtain rfl:H=a.length:=v;exact aB (fv (lc a) c a.length,t) ⟨v,λr=>by
   grind[ahn],λr=>by grind[aho]⟩ (by grind[Ec,lc])
 have B:y=false:=by simpa using z
 rw[<-E B];exact y2 (ak:=c.map aW) 12 a.length aK cH
end
section
def jV(b:List Bool)(a:cm):cm:=if a.list/\a.fD b=false then{a with list:=false,du:=[],item:=-1,min:=0,max:=0} else a
def rH(b:List Bool)(a:cm):cm:=if a.ib/\a.gx b=false then{a with ib:=false,bD:=[],rest:=-1} else a
def g2(a:List Bool)(b:cm):cm:=rH a<|jV a b
def vr(b:List Bool)(a:cm):V:=if a.list/\a.fD b=false then .aQ else .f 1 (a.du.map eB)
def AS(a:List Bool)(b:cm):V:=if(jV a b).ib/\(jV a b).gx a=false then .aQ else .f 3 (b.bD.map cS)
def sl(b:List Bool)(a:cm):V:=e4 (g2 b a) (fU a.eo) (vr b a)<|AS b a
def jd(c:List Bool)(a:List cm)(b:Nat):List V:=(a.take b).map (sl c)++(a.drop b).map h8
def anH(b:List Bool)(a:List cm)(c:Nat):(jd b a c).length=a.length:=by(simp[jd,c_,aS,m7,z2];omega)
def anG{c:List Bool}{b:List cm}{a:Nat}(e:a<b.length):(jd c b a)[a]?=some (h8 (b.getD a default)):=by unfold jd<;>grind
def anI(c:List Bool){b:List cm}{a:Nat}(e:a<b.length):(jd c b a).set a (sl c (b.getD a default))=jd c b (a+1):=by
 have g:((b.take a).map (sl c)).length=a:=by rw[aS,m7];omega
 unfold jd;rw[yc _ _ v,g,ms,iO e,gU,Fv,ab8,bw e,cD,ahQ e,ge];rfl
def anF(b:List Bool)(a:List cm):jd b a a.length=a.map (sl b):=by simp[jd,gq,Qa,rY,gf]
def OT{b:List Bool}{a:cm}(c:a.list/\a.fD b=false):jV b a={a with list:=false,du:=[],item:=-1,min:=0,max:=0}:=ab c
def OS{b:List Bool}{a:cm}(c:¬(a.list=true/\a.fD b=false)):jV b a=a:=aa c
def OU{b:List Bool}{a:cm}(c:a.ib/\a.gx b=false):rH b a={a with ib:=false,bD:=[],rest:=-1}:=ab c
def YA{b:List Bool}{a:cm}(c:¬(a.ib=true/\a.gx b=false)):rH b a=a:=aa c
def anE(b:List Bool)(a:cm):(jV b a).bD=a.bD/\(jV b a).ib=a.ib:=by unfold jV<;>grind
def aqa{e:Type}{a:List e}{b:Nat}{c:e}(g:a[b]?=some c):a=a.set b c:=by refine ho λh=>?_;grind
def zB{c:List V}{a:Nat}(e:a<c.length){Z:V}:(c.set a Z)[a]?=some Z:=b
attribute [local irreducible] cm.fD cm.gx jd eL fU
def anP(c:List cm)(w:Int)(r:Nat)(R:r=c.length)(L:∀a∈c,F2 c.length a)(N:c.length<=1000000):cK 41 [g 6000] [(6000,.cell 78 (.agg [.d 6001 0 r,.int .i64 w])),(6001,.n 14 100 (c.map h8))] (.f 1 ((eL c).map aW)) [(6000,.cell 78 (.agg [.d 6001 0 r,.int .i64 w])),(6001,.n 14 100 (c.map (sl (eL c))))]:=by
 refine cX func41 [31] λae T U=>?_;have P:(c.map h8).length=c.length:=aS ..;have F:=adt c;refine bk [(6000,6000),(6001,6001)] ?_ (i:=R.trans P.symm▸adx c w L N);refine dL c.length (λe=>⟨[(0,g 6000),(3,.f 1<|(eL c).map aW),(12,q r),(13,q e)],[(6001,.n 14 100<|jd (eL c) c e),(6000,.cell 78<|.agg [.d 6001 0 r,.int .i64 w])],[]⟩) λe p=>?_;apply j<;>intro W
 .have K:e<c.length:=v;have ad:(jd (eL c) c e).length=c.length:=by rw[anH]
  have l:e<(jd (eL c) c e).length:=v;have u:=L (c.getD e default) b;have t:(jd (eL c) c e)[e]?=some (h8 (c.getD e default)):=anG K;have z:=anI (eL c) K;obtain⟨a,Q⟩:∃a,c.getD e default=a:=⟨_,rfl⟩;rw[Q] at u t z;have D:=anE (eL c) a;obtain⟨h,x⟩:∃h,jV (eL c) a=h:=⟨_,rfl⟩;obtain⟨s,A⟩:∃s,rH (eL c) h=s:=⟨_,rfl⟩;obtain⟨k,B⟩:∃k,vr (eL c) a=k:=⟨_,rfl⟩;obtain⟨m,J⟩:∃m,AS (eL c) a=m:=⟨_,rfl⟩;rw[show sl (eL c) a=e4 s (fU a.eo) k m by grind[sl,g2]] at z;rw[x] at D;refine cz e ?_ (p:=v);refine gK (List V) (λI=>⟨[(0,g 6000),(3,.f 1<|(eL c).map aW),(5,.cU 6001 e 0),(12,q r),(13,q e)],[(6001,.n 14 100 I),(6000,.cell 78<|.agg [.d 6001 0 r,.int .i64 w])],[]⟩) (λI=>I=(jd (eL c) c e).set e (e4 h (fU a.eo) k<|.f 3<|a.bD.map cS)) ?_ λI S=>?_
  .refine ft (h8 a) ?_ (p:=t);apply b2;intro X;refine hR ?_ (i:=fg.zy (Wi a (λ_=>rfl) (eL c) (by rw[F];exact u.NJ) u.cI) t) (tN:=.cons (.n rfl l)<|.cons (.pl rfl) .nil);exact rfl;apply j<;>intro G
   .have o:a.list/\a.fD (eL c)=false:=⟨G.1,b⟩;refine fl ((jd (eL c) c e).set e<|e4 {a with list:=false} (fU a.eo) (.f 1<|a.du.map eB)<|.f 3<|a.bD.map cS) (h8 a) _ ?_ (p:=t);refine fl ((jd (eL c) c e).set e<|e4 {a with list:=false} (fU a.eo) .aQ<|.f 3<|a.bD.map cS) (e4 {a with list:=false} (fU a.eo) (.f 1<|a.du.map eB) (.f 3<|a.bD.map cS)) _ ?_ (p:=zB l) (aG:=yd ..);refine fl ((jd (eL c) c e).set e<|e4 {a with list:=false,item:=-1} (fU a.eo) .aQ<|.f 3<|a.bD.map cS) (e4 {a with list:=false} (fU a.eo) .aQ (.f 3<|a.bD.map cS)) _ ?_ (p:=zB l) (aG:=yd ..);refine fl ((jd (eL c) c e).set e<|e4 {a with list:=false,item:=-1,min:=0} (fU a.eo) .aQ<|.f 3<|a.bD.map cS) (e4 {a with list:=false,item:=-1} (fU a.eo) .aQ (.f 3<|a.bD.map cS)) _ ?_ (p:=zB l) (aG:=yd ..);refine fl ((jd (eL c) c e).set e<|e4 h (fU a.eo) k<|.f 3<|a.bD.map cS) (e4 {a with list:=false,item:=-1,min:=0} (fU a.eo) .aQ<|.f 3<|a.bD.map cS) (e4 h (fU a.eo) k (.f 3<|a.bD.map cS)) ?_ (p:=zB l) (MK:=by rw[<-x,<-B,OT o,show vr (eL c) a=.aQ from ab o];rfl) (MO:=by rw[<-x,<-B,OT o,show vr (eL c) a=.aQ from ab o];rfl) (aG:=yd ..);exact c3 ((jd (eL c) c e).set e<|e4 h (fU a.eo) k<|.f 3<|a.bD.map cS) rfl
   have o:¬(a.list=true/\a.fD (eL c)=false):=λE=>G ⟨E.1,b⟩;exact c3 (jd (eL c) c e) (by rw[<-x,<-B,OS o,show vr (eL c) a=.f 1 (a.du.map eB) from aa o];exact aqa t)
  obtain rfl:=S;have C:=zB l (Z:=(e4 h (fU a.eo) k<|.f 3<|a.bD.map cS));have O:e<((jd (eL c) c e).set e (e4 h (fU a.eo) k (.f 3 (a.bD.map cS)))).length:=by rw[lL];exact l
  refine ft (e4 h (fU a.eo) k<|.f 3<|a.bD.map cS) ?_ (p:=C);apply b2;intro Y;refine hR ?_ (i:=fg.zy (XF h (λ_=>aM) (eL c) (by rw[D.1];exact u.Td) (by rw[D.1,F];exact u.fd)) C) (tN:=.cons (.n rfl O)<|.cons (.pl rfl) .nil);exact rfl;apply j<;>intro H
  .have y:h.ib/\h.gx (eL c)=false:=⟨H.1,b⟩;have M:m=.aQ:=by rw[<-J];exact ab b
   refine fl ((jd (eL c) c e).set e<|e4 {h with ib:=false} (fU a.eo) k<|.f 3<|a.bD.map cS) (e4 h (fU a.eo) k (.f 3<|a.bD.map cS)) _ ?_ (p:=C) (aG:=yd ..);refine fl ((jd (eL c) c e).set e<|e4 {h with ib:=false} (fU a.eo) k .aQ) (e4 {h with ib:=false} (fU a.eo) k (.f 3<|a.bD.map cS)) _ ?_ (p:=zB l) (aG:=yd ..);refine fl ((jd (eL c) c e).set e<|e4 s (fU a.eo) k m) (e4 {h with ib:=false} (fU a.eo) k .aQ) (e4 s (fU a.eo) k m) ?_ (p:=zB l) (MK:=by rw[<-A,OU y,M];rfl) (MO:=by rw[<-A,OU y,M];rfl) (aG:=yd ..);rw[z];refine aL ?_;exact aB<|e+1
  have y:¬(h.ib=true/\h.gx (eL c)=false):=λE=>H ⟨E.1,b⟩;rw[show e4 h (fU a.eo) k (.f 3 (a.bD.map cS))=e4 s (fU a.eo) k m by rw[<-A,YA y,<-J];congr 1;exact(aa b).symm,z];refine aL ?_;exact aB<|e+1
 obtain rfl:e=c.length:=v;rw[anF];exact cH
end
def ag9(a:UInt8):List UInt8:=if a=126 then[126,48] else if a=47 then[126,49] else[a]
def PF(a:List UInt8):List UInt8:=47::a.flatMap ag9
structure iQ where
 C:List UInt8
 cc:Int
def Tx(a:iQ):V:=.agg [.str a.C,.int .i64 a.cc]
structure QV(O:dH):Prop where
 R:∀Z∈O.cN,rL Z
 n20:O.cN.length<=20
 d_:O.d_.length<=1048576
 anh:O.h0->dB.xL O.d_=0/\dB.HU (dB.sK O.d_)=0
 G:O.du.length<=1048576
 cI:O.bD.length<=1000000
def Ns{a:dH}(g:QV a)(e:a.h0):(dB.Dz (dB.sK a.d_)).ok:=by obtain⟨b,c⟩:=g.anh e;exact(NK (BN b).1 c).1
def RE(a:dH)(b:Nat):Int:=if b<a.du.length then a.du.getD b 0 else a.item
def G8{b:List gr}{a:Nat}(c:a<b.length):(b.map cS)[a]?=some (cS (b.getD a default)):=cv c
def G9{e:Type}(c:gr->e){b:List gr}{a:Nat}(g:a<b.length):(b.take (a+1)).map c=(b.take a).map c++[c (b.getD a default)]:=by grind[oy,default]
theorem vo{e:Nat->Int}:∀{b:Nat},fB e b=0->∀a,a<b->e a=0|0,_,a,p=>v|b+1,g,a,p=>by rw[fB] at g;split at g;omega;rename_i h;rcases gh a b with c|c;exact vo (Kg h) a c;grind
def BW{c:qa}{a:dH}{b:Int}(e:gd c a b=0):jx a=0/\ir c a=0/\jt a b=0/\mT a b=0:=by unfold gd at e;omega
theorem aqZ{b:eP}(a:pW b=0):rL b/\l_ (ou b)=false:=by unfold pW at a;split at a;omega;split at a;omega;simp_all[JM,Kg]
def D6{b:dH}(a:jx b=0):(0<=b.gW/\b.gW<=3)/\b.cN.length<=20/\∀c∈b.cN,rL c/\l_ (ou c)=false:=by unfold jx at a;split at a;cases a;split at a;cases a;refine⟨v,v,λc e=>?_⟩;obtain⟨g,p,rfl⟩:=kj.1 e;have:=vo a g p;grind[aqZ]
def ahq{b:List gr}{c e:Int}{a:Nat}(g:a<b.length)(h:ka b c e a=0):b[a].shape<c:=by grind[ka,absurd]
def Pt{a:dH}{g:Int}(u:a.gy)(C:0<=g)(t:gd dB a g=0):QV a/\(∀i,a.fD->RE a i<g)/\(∀j∈a.bD,j.shape<g)/\a.rest<g+1/\(a.gx=true->a.rest<g)/\(a.gx=false->a.bD=[]/\a.rest=0)/\(a.gx=true->a.bD.length<=30):=by
 obtain⟨E,F,w,x,y⟩:=u;obtain⟨r,s,c,h⟩:=BW t;obtain⟨z,m,o⟩:=D6 r;refine⟨⟨λj k=>(o j k).1,m,w,λD=>?_,x,y⟩,λi B=>?_,?_⟩;unfold ir at s
 (simp_all;omega)
 unfold jt at c;rw[aa b] at c;split at c;cases c;split at c;cases c;split at c;cases c;unfold RE;split;simp_all[hI,m5,gV];by_cases A:a.item=-1;omega;simp_all[hI,m5,gV];unfold mT at h;by_cases l:a.gx=false
 (simp_all;omega)
 rw[aa l] at h;split at h;omega;rename_i e;split at h;cases h;have e:=Kg e;unfold nm at e;split at e;cases e;refine⟨λj k=>?_,v,λ_=>v,λq=>absurd q l,λ_=>v⟩;obtain⟨i,p,rfl⟩:=kj.1 k;have:=vo e i p;exact ahq p this
section
noncomputable def ks(a:dH):cm:=⟨a.null,a.gW,qZ a.cN,if a.h0 then ju a.d_ else none,a.fD,if a.fD then a.du else[],if a.fD then a.item else-1,if a.fD then a.min else 0,if a.fD then a.max else 0,a.gx,if a.gx then a.bD else[],if a.gx then a.rest else-1⟩
def P1:V:=.agg [.bool false,.int .i64 0,.aQ,.aQ,.aQ,.gv,.bool false,.aQ,.int .i64 0,.int .i64 0,.int .i64 0,.bool false,.aQ,.int .i64 0]
noncomputable def vc(a:dH)(b:Int):V:=if gd dB a b=0 then .tuple [h8 (ks a),.int .i64 0] else .tuple [P1,.int .i64<|gd dB a b]
def B9:V:=.agg [.bool false,.int .i64 0,.aQ,.aQ,.aQ,.gv,.bool false,.aQ,.int .i64 0,.int .i64 0,.int .i64 0,.bool false,.aQ,.int .i64 0]
noncomputable def x3(a:dH)(i g:V)(h b c:Int)(e:V)(j:Int):V:=.agg [.bool a.null,.int .i64 a.gW,.f 3<|(qZ a.cN).C.map bx,.f 1<|(qZ a.cN).on.map aW,.f 2<|(qZ a.cN).fW.map fK,i,.bool a.fD,g,.int .i64 h,.int .i64 b,.int .i64 c,.bool a.gx,e,.int .i64 j]
def wV{c:dH}{b a:Int}(g:gd dB c b=a)(e:a≠0):vc c b=.tuple [P1,.int .i64 a]:=by simp_all[vc,aa]
theorem JR{a:dH}(c:a.h0):ir dB a=mR a.d_:=by unfold ir mR;rw[aa b,ab c];rfl
theorem aq0{a:eP}(c:pW a=0):Small a.low.n/\Small a.high.n:=by unfold pW at c;have e:lo a.low=0:=jZ λb=>v;have g:lo a.high=0:=jZ λb=>v;simp_all[JM]
def Xw{c:dH}(a:jx c=0):∀b∈c.cN,Small b.low.n/\Small b.high.n:=by unfold jx at a;split at a;cases a;split at a;cases a;intro b e;obtain⟨g,p,rfl⟩:=kj.1 e;have:=vo a g p;grind[aq0]
def aj9(a:List UInt8):mR a≠0/\ju a=none\/mR a=0/\ju a=none\/mR a=0/\∃b,ju a=some (b,a):=by unfold ju<;>grind
attribute [local irreducible] qZ ju mR gd jx ir jt mT
def arz{a:dH}(c:a.h0=false)(b:a.d_≠[]):ir dB a=2:=by simp_all[ir,ab]
def arA{a:dH}(g:(if a.h0 then ju a.d_ else none)=none)(e:¬(¬a.h0/\¬a.d_=[]))(b:a.h0=false\/a.h0/\mR a.d_=0):ir dB a=0:=by rcases b with b|⟨b,c⟩;simp_all[ir,aa];grind[JR]
def aka(a:dH)(e:(if a.h0 then ju a.d_ else none)=none)(g:a.h0)(h:a.d_.length<=1048576):mR a.d_≠0/\aA 66 [.str a.d_] (.tuple [.gv,.int .i64 (mR a.d_)])\/mR a.d_=0/\aA 66 [.str a.d_] (.tuple [.gv,.int .i64 0]):=by rw[ab g] at e;have b:=Yu h;rw[e] at b;by_cases c:mR a.d_=0;rw[c] at b;exact .inr ⟨c,b⟩;exact .inl ⟨c,b⟩
def AB{a:dH}{e:Int}(i:gd dB a e=0){b c:Bool}(g:a.fD=b)(h:a.gx=c):vc a e=.tuple [x3 a (fU (if a.h0 then ju a.d_ else none)) (bif b then .f 1 (a.du.map eB) else .f 1 []) (bif b then a.item else-1) (bif b then a.min else 0) (bif b then a.max else 0) (bif c then .f 3 (a.bD.map cS) else .f 3 []) (bif c then a.rest else-1),.int .i64 0]:=by unfold vc;grind[h8,ks,e4,x3]
theorem aeJ(a:dH)(k:Int)(M:a.gy)(m:(if a.h0 then ju a.d_ else none)=none):aA 40 [hD a,.int .i64 k] (vc a k):=by
 refine aX func40 [42,2022,2027] λS W=>?_;obtain⟨O,P,Q,B,R⟩:=id M;refine az ?_ (i:=Sk a O P);apply j<;>intro D
 .rw[wV (zE rfl v) v];exact cu aZ
 have h:jx a=0:=by simpa using D
 obtain⟨T,U,C⟩:=D6 h;refine fM ?_;apply j<;>intro E
 .have K:ir dB a=2:=arz b b;rw[wV (EI h K aj) aj];exact cu aZ
 refine ay.dI 1007 MV.size 100 [] none ?_;refine dC ?_;refine a_ (λ_=>bT rfl (i:=abd a.cN (λN L=>(C N L).1) (Xw h) v)) ?_;refine zV 1007 7 ?_;refine eJ ?_;refine fm ?_;refine gK Unit (λ_u=>⟨[(1,.int .i64 k),(2,g 2),(4,g 4),(7,g 7)],[(2,.cell 66<|hD a),(4,.cell 100 B9),(7,.cell 100<|x3 a .gv .aQ (-1) 0 0 .aQ<|-1)],[]⟩) (λ_=>ir dB a=0) ?_ λ_u u=>?_
 .apply j<;>intro F
  focus
   have A:a.h0:=by simpa using F
   rcases aka a m A Q with⟨w,x⟩|⟨w,x⟩
   .skip
    refine az ?_ (i:=x);apply j<;>intro G
    .rw[wV (EI h (JR A) w) w];exact cu aZ
    omega
   skip
   refine az ?_ (i:=x);apply j<;>intro G
   .omega
  all_goals exact c3 ()<|arA m E b
 refine az ?_ (i:=Si a k B);apply j<;>intro H
 .rw[wV (BV h u rfl v) v];exact cu aZ
 have z:jt a k=0:=by simpa using H
 refine az ?_ (i:=Sl a k R);apply j<;>intro I
 .rw[wV (v7 h u z) v];exact cu aZ
 have cp:gd dB a k=0:=by rw[v7 h u z];simpa using I
 apply j<;>intro y
 focus
  have s:a.fD:=by simpa using y
  refine dC ?_;refine a_ (λ_=>bT rfl (i:=St a.du B)) ?_;refine eJ ?_;refine eJ ?_;refine eJ ?_;refine eJ ?_;refine fm ?_;apply j<;>intro r
  .have o:a.gx:=by simpa using r
   refine ay.dI 1720 3 152 [] (some (7,12)) ?_;refine cP ?_;refine dL a.bD.length (λc=>⟨[(4,g 4),(7,g 7),(90,.f 3<|a.bD.map cS),(91,q (a.bD.map cS).length),(92,q c)],[(1720,.n 3 152<|(a.bD.take c).map cS),(4,.cell 100 B9),(7,.cell 100<|x3 a .gv (.f 1<|a.du.map eB) a.item a.min a.max (.d 1720 0 ((a.bD.take c).map cS).length) a.rest)],[]⟩) λc p=>?_;apply j<;>intro J
   .have l:c<a.bD.length:=v;refine aJ c (cS<|a.bD.getD c default) ?_ (p:=G8 l);refine dv ?_ (hlen:=λt e=>by rw[cV.1 e];rfl);refine eR ((a.bD.take<|c+1).map cS) ?_ (fC:=.f rfl rfl rfl rfl λt e=>by rw[cV.1 e];rfl) (aG:=(G9 cS l).symm) (bq:=aK);refine aL ?_;exact aB<|c+1
   obtain rfl:c=a.bD.length:=v;rw[gq]
   first|refine ay.g9 1720 ?_|skip
   refine ay.jL 1 7 [7] ?_;refine ay.jL 3 7 [12] ?_;rw[AB cp s o,m];refine cP ?_;exact cu aZ
 rotate_left
 focus
  have s:a.fD=false:=by simpa using y
  apply j<;>intro r
  .have o:a.gx:=by simpa using r
   refine ay.dI 1720 3 152 [] (some (7,12)) ?_;refine cP ?_;refine dL a.bD.length (λc=>⟨[(4,g 4),(7,g 7),(90,.f 3<|a.bD.map cS),(91,q (a.bD.map cS).length),(92,q c)],[(1720,.n 3 152<|(a.bD.take c).map cS),(4,.cell 100 B9),(7,.cell 100<|x3 a .gv .aQ (-1) 0 0 (.d 1720 0 ((a.bD.take c).map cS).length) a.rest)],[]⟩) λc p=>?_;apply j<;>intro J
   .have l:c<a.bD.length:=v;refine aJ c (cS<|a.bD.getD c default) ?_ (p:=G8 l);refine dv ?_ (hlen:=λt e=>by rw[cV.1 e];rfl);refine eR ((a.bD.take<|c+1).map cS) ?_ (fC:=.f rfl rfl rfl rfl λt e=>by rw[cV.1 e];rfl) (aG:=(G9 cS l).symm) (bq:=aK);refine aL ?_;exact aB<|c+1
   obtain rfl:c=a.bD.length:=v;rw[gq]
   first|refine ay.g9 1720 ?_|skip
   refine ay.jL 1 7 [7] ?_;refine ay.jL 3 7 [12] ?_;rw[AB cp s o,m];refine cP ?_;exact cu aZ
 all_goals
  have o:a.gx=false:=by simpa using r
  first|refine ay.g9 1720 ?_|skip
  refine ay.jL 1 7 [7] ?_;refine ay.jL 3 7 [12] ?_;rw[AB cp s o,m];refine cP ?_;exact cu aZ
def aeK(a:dH)(h:Int)(H:a.gy)(c:a3)(T:a.h0)(E:aA 66 [.str a.d_] (.tuple [fU (some (c,a.d_)),.int .i64 0]))(F:ir dB a=0)(u:(if a.h0 then ju a.d_ else none)=some (c,a.d_)):aA 40 [hD a,.int .i64 h] (vc a h):=by
 refine aX func40 [42,2022,2027] λM P=>?_;obtain⟨J,K,U,y,L⟩:=id H;refine az ?_ (i:=Sk a J K);apply j<;>intro A
 .rw[wV (zE rfl v) v];exact cu aZ
 have l:jx a=0:=by simpa using A
 obtain⟨N,O,z⟩:=D6 l;refine fM ?_;apply j<;>intro Q
 .simp_all
 refine ay.dI 1007 MV.size 100 [] none ?_;refine dC ?_;refine a_ (λ_=>bT rfl (i:=abd a.cN (λI G=>(z I G).1) (Xw l) v)) ?_;refine zV 1007 7 ?_;refine eJ ?_;refine fm ?_;refine gK Unit (λ_u=>⟨[(1,.int .i64 h),(2,g 2),(4,g 4),(7,g 7)],[(2,.cell 66<|hD a),(4,.cell 100 B9),(7,.cell 100<|x3 a (.ref 5 [.agg [q c.start,.f 1<|c.acc.map aW,.f 1<|c.next.map bl,.str a.d_,.bool true]] 0 0) .aQ (-1) 0 0 .aQ<|-1)],[]⟩) (λ_=>ir dB a=0) ?_ λ_u t=>?_
 .apply j<;>intro R
  .refine az ?_ (i:=E);apply j<;>intro S
   .omega
   exact c3 () F
  trivial
 refine az ?_ (i:=Si a h y);apply j<;>intro B
 .rw[wV (BV l t rfl v) v];exact cu aZ
 have x:jt a h=0:=by simpa using B
 refine az ?_ (i:=Sl a h L);apply j<;>intro C
 .rw[wV (v7 l t x) v];exact cu aZ
 have cp:gd dB a h=0:=by rw[v7 l t x];simpa using C
 apply j<;>intro w
 focus
  have r:a.fD:=by simpa using w
  refine dC ?_;refine a_ (λ_=>bT rfl (i:=St a.du y)) ?_;refine eJ ?_;refine eJ ?_;refine eJ ?_;refine eJ ?_;refine fm ?_;apply j<;>intro o
  .have m:a.gx:=by simpa using o
   refine ay.dI 1720 3 152 [] (some (7,12)) ?_;refine cP ?_;refine dL a.bD.length (λb=>⟨[(4,g 4),(7,g 7),(90,.f 3<|a.bD.map cS),(91,q (a.bD.map cS).length),(92,q b)],[(1720,.n 3 152<|(a.bD.take b).map cS),(4,.cell 100 B9),(7,.cell 100<|x3 a (.ref 5 [.agg [q c.start,.f 1<|c.acc.map aW,.f 1<|c.next.map bl,.str a.d_,.bool true]] 0 0) (.f 1<|a.du.map eB) a.item a.min a.max (.d 1720 0 ((a.bD.take b).map cS).length) a.rest)],[]⟩) λb p=>?_;apply j<;>intro D
   .have k:b<a.bD.length:=v;refine aJ b (cS<|a.bD.getD b default) ?_ (p:=G8 k);refine dv ?_ (hlen:=λs e=>by rw[cV.1 e];rfl);refine eR ((a.bD.take<|b+1).map cS) ?_ (fC:=.f rfl rfl rfl rfl λs e=>by rw[cV.1 e];rfl) (aG:=(G9 cS k).symm) (bq:=aK);refine aL ?_;exact aB<|b+1
   obtain rfl:b=a.bD.length:=v;rw[gq]
   first|refine ay.g9 1720 ?_|skip
   refine ay.jL 1 7 [7] ?_;refine ay.jL 3 7 [12] ?_;rw[AB cp r m,u];refine cP ?_;exact cu aZ
 rotate_left
 focus
  have r:a.fD=false:=by simpa using w
  apply j<;>intro o
  .have m:a.gx:=by simpa using o
   refine ay.dI 1720 3 152 [] (some (7,12)) ?_;refine cP ?_;refine dL a.bD.length (λb=>⟨[(4,g 4),(7,g 7),(90,.f 3<|a.bD.map cS),(91,q (a.bD.map cS).length),(92,q b)],[(1720,.n 3 152<|(a.bD.take b).map cS),(4,.cell 100 B9),(7,.cell 100<|x3 a (.ref 5 [.agg [q c.start,.f 1<|c.acc.map aW,.f 1<|c.next.map bl,.str a.d_,.bool true]] 0 0) .aQ (-1) 0 0 (.d 1720 0 ((a.bD.take b).map cS).length) a.rest)],[]⟩) λb p=>?_;apply j<;>intro D
   .have k:b<a.bD.length:=v;refine aJ b (cS<|a.bD.getD b default) ?_ (p:=G8 k);refine dv ?_ (hlen:=λs e=>by rw[cV.1 e];rfl);refine eR ((a.bD.take<|b+1).map cS) ?_ (fC:=.f rfl rfl rfl rfl λs e=>by rw[cV.1 e];rfl) (aG:=(G9 cS k).symm) (bq:=aK);refine aL ?_;exact aB<|b+1
   obtain rfl:b=a.bD.length:=v;rw[gq]
   first|refine ay.g9 1720 ?_|skip
   refine ay.jL 1 7 [7] ?_;refine ay.jL 3 7 [12] ?_;rw[AB cp r m,u];refine cP ?_;exact cu aZ
 all_goals
  have m:a.gx=false:=by simpa using o
  first|refine ay.g9 1720 ?_|skip
  refine ay.jL 1 7 [7] ?_;refine ay.jL 3 7 [12] ?_;rw[AB cp r m,u];refine cP ?_;exact cu aZ
end
section
noncomputable def hZ(a:fh):List cm:=a.b_.map ks
noncomputable def MA(a:fh):V:=.ref 2 [.agg [.f 14 ((hZ a).map<|sl<|eL<|hZ a),.int .i64 a.root]] 0 0
noncomputable def qm(a:fh):V:=if gu dB a≠0 then .tuple [.gv,.int .i64<|gu dB a] else .tuple [MA a,.int .i64 0]
structure acQ(O:dH)(hO:Int):Prop where
 du:O.fD->O.du.length<=10/\∀Z∈O.du,0<=Z/\Z<hO
 item:O.fD->-1<=O.item/\O.item<hO
 akT:O.fD->(0<=O.min/\O.min<=1000)/\(O.max=-1\/O.min<=O.max/\O.max<=1000)
 Hb:O.gx->O.bD.length<=30/\∀H,H<O.bD.length->ka O.bD hO (-1) H=0
 rest:O.gx->-1<=O.rest/\O.rest<hO
def X1{b a:Int}(c:¬hI b a):0<=a/\a<b:=by simp_all[hI,m5,gV]
def Z7{a:dH}{e:Int}(x:0<e)(s:gd dB a e=0):acQ a e:=by
 obtain⟨u,w,c,r⟩:=BW s;have i:a.fD->(a.du.length<=10/\∀j∈a.du,0<=j/\j<e)/\(-1<=a.item/\a.item<e)/\(0<=a.min/\a.min<=1000)/\(a.max=-1\/a.min<=a.max/\a.max<=1000):=λg=>by unfold jt at c;rw[aa b] at c;split at c;cases c;split at c;cases c;split at c;cases c;rename_i t p q;refine⟨⟨v,λj y=>X1 λk=>p b⟩,?_,⟨v,v⟩,?_⟩;by_cases o:a.item=-1;omega;have:=X1 λk=>q<|.inl<|.inl<|.inl ⟨o,k⟩;omega;omega
 have l:a.gx->(a.bD.length<=30/\∀m,m<a.bD.length->ka a.bD e (-1) m=0)/\-1<=a.rest/\a.rest<e:=λh=>by unfold mT at r;grind[nm,vo]
 exact⟨λg=>(i g).1,λg=>(i g).2.1,λg=>(i g).2.2,λh=>(l h).1,λh=>(l h).2⟩
def Uc{b:List gr}{c:Int}{a:Nat}(g:a<b.length)(e:ka b c (-1) a=0):pe b[a].name=0/\(-1<=b[a].shape/\b[a].shape<c)/\(b[a].Bk=true->0<=b[a].shape):=by unfold ka at e<;>grind
def aeI{a:dH}{g:Nat}(B:0<g)(o:a.gy)(i:gd dB a g=0):F2 g (ks a):=by
 have e:=Z7 v i;obtain⟨s,t,j⟩:=D6 (BW i).1;obtain⟨C,D,E,F,G⟩:=o;refine⟨(abc (λr m=>(j r m).1) v).1,λb=>?_,?_,?_,λk h hm=>?_⟩;have b:a.fD:=b;obtain⟨u,w⟩:=e.du b;have x:=e.item b;have y:=(e.akT b).1;refine⟨by show 0<=(if a.fD then a.min else 0);omega,λc=>?_⟩;have he:(ks a).elem c=if c<a.du.length then a.du.getD c 0 else a.item:=by show(if c<(if a.fD then a.du else[]).length then(if a.fD then a.du else[]).getD c 0 else(if a.fD then a.item else-1))=_;rw[ab b,ab b]
 grind[bZ];show(if a.fD then a.du else[]).length<=_;grind;show(if a.gx then a.bD else[]).length<=_;grind;change k∈(if a.gx then a.bD else[]) at h;split at h;rename_i l;obtain⟨q,p,rfl⟩:=kj.1 h;obtain⟨_,z,A⟩:=Uc p ((e.Hb l).2 q p)<;>simp_all;trivial
def afO(a:dH)(e:Int)(h:a.gy):aA 40 [hD a,.int .i64 e] (vc a e):=by cases m:(if a.h0 then ju a.d_ else none) with|none=>grind[aeJ]|some o=>have k:a.h0:=Kg λl=>b;rcases aj9 a.d_ with⟨_,c⟩|⟨_,c⟩|⟨j,i,c⟩;simp_all;simp_all;have g:=Yu h.2.2.1;rw[j,c] at g;exact aeK a e h i k g (by grind[JR]) b
def afY(a:dH)(b:Int)(j:a.gy):gd dB a b≠0/\aA 40 [hD a,.int .i64 b] (.tuple [P1,.int .i64 (gd dB a b)])\/gd dB a b=0/\(ks a).eo=none/\aA 40 [hD a,.int .i64 b] (.tuple [e4 (ks a) .gv (.f 1 ((ks a).du.map eB)) (.f 3 ((ks a).bD.map cS)),.int .i64 0])\/gd dB a b=0/\∃e g,(ks a).eo=some (e,g)/\aA 40 [hD a,.int .i64 b] (.tuple [e4 (ks a) (fU (some (e,g))) (.f 1 ((ks a).du.map eB)) (.f 3 ((ks a).bD.map cS)),.int .i64 0]):=by
 have c:=afO a b j;unfold vc at c;split at c;rename_i h;unfold h8 at c;cases i:(ks a).eo with|none=>rw[i] at c;exact .inr (.inl ⟨h,rfl,c⟩)|some k=>grind
 simp_all
def Z8{a:fh}(b:gu dB a=0)(i:a.gy):∀e∈hZ a,F2 (hZ a).length e:=λe h=>by obtain⟨j,c,rfl⟩:=b4.1 h;have g:(hZ a).length=a.b_.length:=aS ..;rw[g];refine aeI (Kr c) (i.1 j c) ?_;unfold gu at b;split at b;cases b;split at b;cases b;obtain⟨k,p,rfl⟩:=kj.1 c;grind[vo,Ho]
attribute [local irreducible] ks gd vc gu qZ
def SP(a:fh)(ap:a.gy):aA 25 [qp a] (qm a):=by
 refine aX func25 [2008] λC F=>?_;have h:(a.b_.map hD).length=a.b_.length:=aS ..;have K:(hZ a).length=a.b_.length:=aS ..;apply j<;>intro J
 .have e:gu dB a=13:=by unfold gu;rw[ab v]
  rw[show qm a=.tuple [.gv,.int .i64 13] by simp_all[qm,ab]];exact ae
 apply j<;>intro G
 .have e:gu dB a=3:=by unfold gu;rw[aa v,ab v]
  rw[show qm a=.tuple [.gv,.int .i64 3] by simp_all[qm,ab]];exact ae
 refine dD ?_;apply j<;>intro H
 .have e:gu dB a=9:=by unfold gu;rw[aa v,aa v,ab (by(simp[hI,m5,gV];omega))]
  rw[show qm a=.tuple [.gv,.int .i64 9] by simp_all[qm,ab]];exact ae
 have s:¬a.b_.length=0:=v;have t:¬60<a.b_.length:=v;have u:¬hI a.b_.length a.root:=by unfold hI;rw[m5,gV,gV];omega
 have m:gu dB a=fB (λc=>gd dB (a.b_.getD c default) a.b_.length) a.b_.length:=by unfold gu;rw[aa s,aa t,aa u]
 refine ay.dI 1730 14 100 [] (some (34,0)) ?_;refine cP ?_;refine eH a.b_.length (λc=>fB (λc=>gd dB (a.b_.getD c default) a.b_.length) c=0) (λc=>⟨[(1,g 1),(4,g 34),(36,.f 13<|a.b_.map hD),(37,q (a.b_.map hD).length),(38,q c)],[(1730,.n 14 100<|((hZ a).take c).map h8),(1,.cell 24<|qp a),(34,.cell 78<|.agg [.d 1730 0 (((hZ a).take c).map h8).length,.int .i64 a.root])],[]⟩) (λc p=>?_) rfl;apply j<;>intro I
 .have o:c<a.b_.length:=v;have A:=afY (a.b_.getD c default) (((a.b_.map hD).length:Nat):Int)<|ap.1 _ b;have r:=JQ h8 default (show c<(hZ a).length by omega);rw[show(hZ a).getD c default=ks (a.b_.getD c default) by grind[hZ,List.getElem?_eq_getElem,Ho]] at r;refine aJ c (hD<|a.b_.getD c default) ?_ (p:=cv o);rcases A with⟨cp,i⟩|⟨cp,k,i⟩|⟨cp,D,L,k,i⟩
  .skip
   refine az ?_ (i:=i);apply j<;>intro y
   .have x:¬gd dB (a.b_.getD c default) a.b_.length=0:=by rw[<-h];exact cp
    have e:gu dB a=gd dB (a.b_.getD c default) (((a.b_.map hD).length:Nat):Int):=by rw[m,ss p.2 x _ o,h]
    rw[show qm a=.tuple [.gv,.int .i64 (gd dB (a.b_.getD c default) (((a.b_.map hD).length:Nat):Int))] by simp_all[qm,ab]];exact ae
   omega
  all_goals
   have w:gd dB (a.b_.getD c default) a.b_.length=0:=by rw[<-h];exact cp
   refine az ?_ (i:=i);apply j<;>intro y
   .omega
   refine dC ?_;refine a_ (λ_=>jv rfl) ?_;refine lH ?_;refine jB 60 (((hZ a).take<|c+1).map h8) ?_ (ap:=ax) (fC:=.f rfl rfl rfl rfl λE B=>by rw[cV.1 B];rfl) (aG:=by rw[<-r];unfold h8;rw[k];rfl) (bq:=aK);refine lH ?_;refine eJ ?_;refine iK [(60,1730)] ?_;refine aL ?_;exact aB (c+1) ⟨v,pE p.2 w⟩
 obtain rfl:c=a.b_.length:=v;have z:gu dB a=0:=by rw[m];exact p.2
 rw[q1 (i:=a.b_.length) (l:=hZ a) v];refine bk [(6000,34),(6001,1730)] ?_ (i:=anP (hZ a) a.root ((hZ a).map h8).length (aS ..) (Z8 z ap) v);rw[show qm a=.tuple [MA a,.int .i64 0] by(simp[qm,aa];omega)];exact y2 1730 ((hZ a).map h8).length (show((hZ a).map (sl (eL (hZ a)))).length=_ by simp)<|Mh 34 2 ae
end
section
open Go.RowKit
def na(a:Int):List (Nat×V):=[(0,Ur),(2,Uq),(5,.ref 1 [.int .i64 a] 0 0)]
def UB(a:Int):dp (na a):=rfl
theorem UV{j:World}{i:Nat->Prop}{b:aF}{e:List Nat}{l k:List (Nat×V)}{g:Nat}{c:aF}{h:bd}{I:World}(a:Holds ⟨j,i,b,e,l,g⟩ c h I):Holds ⟨j,i,b,e,k,g⟩ c h I:=⟨a.le,⟨a.G.os,a.G.tape,a.G.output,a.G.size,a.G.block⟩,a.k0,a.k6,a.k7,a.own,a.i4,a.kb,a.eO,a.jw,a.i9,a.inj⟩
def XL(p:Int){T:Program}{b:FuncId}{e:List V}{c:bd}{a:V->bd->Prop}(o:ff T fZ b e c a):ff T (na p) b e c a:=by
 refineλg r I q i j k l=>(o g r I q i j (UV k) λh s m=>l h s (by unfold fZ at m;unfold na<;>grind)).mono ?_
 grind[UV]
def sI(b:Int){T:Program}{a:FuncId}{e:List V}{c:V}(g:fg T fZ a e c):fg T (na b) a e c:=XL b g
def XN(b:Int){T:Program}{a:FuncId}{h:List V}{c e:bb}{g:V}(i:ps T fZ a h c g e):ps T (na b) a h c g e:=λj=>XL b<|i j
end
def RU:∀{e c g:List UInt8},Op.bytesLess e c->Op.bytesLess c g->Op.bytesLess e g|_,c,[],_,h=>by grind[Op.bytesLess]|[],_,_::_,_,_=>rfl|_::_,[],_::_,h,_=>bB|i::e,j::c,k::g,a,b=>by simp[Op.bytesLess,m5,jD,KN] at a b⊢;rcases a with a|⟨rfl,a⟩;grind;rcases b with b|⟨rfl,b⟩;simp_all;exact .inr ⟨rfl,RU a b⟩
def K3{g:Type}(e:g->List UInt8)(a:List g):Prop:=∀b c(p:b<a.length)(h:c<a.length),b<c->Op.bytesLess (e a[b]) (e a[c])
def akj{a:Type}(b:a->List UInt8)(c:List a)(e:List UInt8):Nat:=c.countP λg=>Op.bytesLess (b g) e
def Ub(a:List gr)(e:Int)(b:List UInt8):gr:=if(a.any λc=>decide (c.name=b)) then a.getD (akj gr.name a b) default else⟨b,e,false⟩
def VU(a:a3)(h:List UInt8){c:List UInt8}(e:a.ok)(g:c.length<=100000000):aA 56 [fU (some (a,h)),.str c] (.bool (a.has c)):=by refine aX func56 [] λk l=>?_;refine Ij ?_;apply b2;refineλq=>bT (i:=(by refine aX func88 [] λj m=>?_;have r:=a3.EB e c _ e.start;have o:=e.acc;refine c7<|bT (i:=adp a e c g)<|aJ (a.run a.start c) (aW<|a.acc.getD (a.run a.start c) false) ?_ (p:=b);exact ae))<|rfl;exact ae
structure pu(O:fh):Prop where
 K:O.gy
 kV:gu dB O=0
def pu.len{a:fh}(g:pu a):0<a.b_.length/\a.b_.length<=60/\0<=a.root/\a.root<a.b_.length/\∀e∈a.b_,gd dB e a.b_.length=0:=by have b:=g.kV;unfold gu at b;split at b;cases b;split at b;cases b;split at b;cases b;rename_i i j c;unfold hI at c;rw[m5,gV,gV] at c;refine⟨v,v,v,v,λe h=>?_⟩;obtain⟨k,p,rfl⟩:=kj.1 h;grind[vo,Ho]
section
open Go.Lib Go.Sort
theorem Bm a(c:a<18446744073709551616):nDigits a<=20:=by rcases lM a with rfl|b;rw[nDigits_small v];omega;have:=numDigits_eq a b c;split at this<;>omega
def amx:IQ=pow10Tab.map λa=>a:=by decide+kernel
theorem aiL{a:Nat}(c:a<20):(IQ.map (V.int .u64))[a]?=some (.int .u64 ((10^a:Nat))):=by have b:=pow10Tab_at a c;rw[cg,bw (by rw[pow10Tab_length];exact c)] at b;simp[te] at b;rw[ch,amx,ch,bw (by rw[pow10Tab_length];exact c),b];rfl
def ajZ{a:Nat}(c:a<18446744073709551616):aA 195 [.int .u64 a] (q (Lib.bitLen a)):=.ofInt (λb=>.int _ _) λI=>by have:=Tryz.bits_Len64 a I v v;rwa [show((a:Int)).toNat=a by omega] at this
def ake{a:Nat}(b:a<=64):aA 194 [.int .i64 a] (q (l10 a)):=.ofInt (λc=>.int _ _)<|Tryz.internal_strconv_log10Pow2 a b
def aeo{a:Bool}:aA 196 [.bool a] (.int .i64 (if a then 1 else 0)):=.ofBool (λb=>.int _ _)<|Tryz.internal_strconv_bool2_int a
theorem aiN{H:Nat}(a:H<100):aA 136 [.int .i64 H] (.str (decDigits H)):=.ofInt (λb=>.str _)<|Tryz.internal_strconv_small H a
def alP a(e:1<=a)(b:a<18446744073709551616):aA 137 [.int .u64 (a:Nat)] (q (nDigits a)):=by refine aX func137 [] λj l=>?_;obtain⟨h,k⟩:=numDigits_eq a e b;have:=Bm a b;have g:Lib.bitLen a<=64:=bitLen_le a 64 (a1 _) b;refine az ?_ (i:=ajZ b);refine az ?_ (i:=ake g);apply Bn (qk:=l10<|Lib.bitLen a);refine ale (.int .u64<|(10^l10 (Lib.bitLen a):Nat)) ?_<|aiL v;refine az ?_ (i:=aeo);refine dK (nDigits a) ?_ (w:=by rw[<-h];simp only[uR];by_cases c:10^l10 (Lib.bitLen a)<=a;rw[ab c,ab (by exact_mod_cast c)];push_cast;rfl;rw[aa c,aa (by exact_mod_cast c)];push_cast;rfl);exact ae
end
section
open Go.Lib
end
section
open Go.Lib
structure iU where
 s:cm
 G:V
 cI:V
def mE(a:iU):V:=e4 a.s (fU a.s.eo) a.G a.cI
instance:Inhabited iU:=⟨⟨default,.aQ,.aQ⟩⟩
structure Al(hO:Nat)(Z:iU):Prop where
 cN:Z.s.cN.ok
 gW:0<=Z.s.gW/\Z.s.gW<=3
 eo:∀E X,Z.s.eo=some (E,X)->E.ok
 as5:Z.s.list->Z.G=.f 1 (Z.s.du.map eB)
 as4:Z.s.ib->Z.cI=.f 3 (Z.s.bD.map cS)
 el:Z.s.list->∀F, -1<=Z.s.elem F/\Z.s.elem F<hO
 atb:Z.s.ib->K3 gr.name Z.s.bD/\Z.s.bD.length<=30
 fd:Z.s.ib->∀x∈Z.s.bD,pe x.name=0/\-1<=x.shape/\x.shape<hO
 rest:Z.s.ib->-1<=Z.s.rest/\Z.s.rest<hO
def rs:List (V×V×Nat):=[(q 1,.func (.func 94) [] [],0),(q 2,.func (.func 95) [] [],1),(q 3,.func (.func 96) [] [],2),(q 4,.func (.func 97) [] [],3),(q 5,.func (.func 98) [] [],4),(q 6,.func (.func 99) [] [],5)]
def agF(a:List iU)(e:Int)(c:Bool)(b:Nat):V:=.agg [.ref 2 [.agg [.f 14 (a.map mE),.int .i64 e]] 0 0,.dj 6001,.d 5001 0 b,.bool c]
def HJ(b:List iU)(e:Int)(c:Bool)(a:List iQ):bb:=[(6000,.cell 144<|agF b e c (a.map Tx).length),(6001,.map rs 6),(5001,.n 2 293<|a.map Tx)]
def uV(j:Int)(a:List iU)(c:Int)(b:Bool)(e:FuncId)(k:List V)(i h:List iQ):Prop:=ps a4 (na j) e (g 6000::k) (HJ a c b i) (.tuple [])<|HJ a c b h
abbrev A3:List (Nat×Nat):=[(6000,6000),(6001,6001),(5001,5001)]
def RS(a:Int)(b:Bool):Bool:=if b then decide (2<=a) else decide (Int.tmod a 2=1)
def Wn(c:cm)(a:List UInt8)(b:Nat):List iQ:=if(b:Int)<c.min then[⟨a,4⟩] else[]
def UQ(a:cm)(b:List UInt8)(c:Nat):List iQ:=if a.max≠-1/\a.max<(c:Int) then[⟨b,5⟩] else[]
def N5(b:cm)(c:List UInt8)(e:List (List UInt8)):Nat->List iQ|0=>[]|a+1=>N5 b c e a++(if(b.bD.getD a default).Bk/\(e.any λg=>decide (g=(b.bD.getD a default).name))=false then[⟨c++PF (b.bD.getD a default).name,7⟩] else[])
def JU(b:Option (a3×List UInt8))(a e:List UInt8):List iQ:=match b with|none=>[⟨a,1⟩]|some c=>if c.1.has e then[] else[⟨a,3⟩]
def hn(a:List iU)(b:Int):cm:=(a.getD b.toNat default).s
mutual
def xp(a:List iU)(k:Bool)(b:Int)(c:List UInt8):br->List iQ->List iQ
|.mk h l num m i j,e=>
 if h=1 then e++(if(hn a b).null then[] else[⟨c,1⟩])
 else if h=2 then e++(if RS (hn a b).gW l then[] else[⟨c,1⟩])
 else if h=3 then e++(if(hn a b).cN.empty then[⟨c,1⟩] else if(hn a b).cN.has num then[] else[⟨c,2⟩])
 else if h=4 then e++JU (hn a b).eo c m
 else if h=5 then(if(hn a b).list=false then e++[⟨c,1⟩] else Du a k (hn a b).elem (λg=>c++[47]++decDigits g) i 0 (e++Wn (hn a b) c i.length++UQ (hn a b) c i.length))
 else if(hn a b).ib=false then e++[⟨c,1⟩]
 else Du a k (λg=>(Ub (hn a b).bD (hn a b).rest<|j.getD g []).shape) (λg=>c++PF (j.getD g [])) i 0 (e++N5 (hn a b) c j (hn a b).bD.length)
def Du(h:List iU)(e:Bool)(g:Nat->Int)(c:Nat->List UInt8):List br->Nat->List iQ->List iQ|[],_,a=>a|j::i,b,a=>if(e&&decide (0<a.length)) then a else Du h e g c i (b+1) (if g b=-1 then a++[⟨c b,6⟩] else xp h e (g b) (c b) j a)
end
def DZ{g:Int}{e:List iU}{i:Int}{h:Bool}(a:List iQ)(b:List UInt8)(c:Int)(bq:a.length<=10000000):uV g e i h 142 [.str b,.int .i64 c] a (a++[iQ.mk b c]):=by refine cX func142 [] λl j k=>?_;refine dv ?_;refine eR ((a++[iQ.mk b c]).map _) ?_ (bq:=aK);exact cH
def ai2{l:Int}{h:List iU}{o:Int}{m:Bool}(a:List iQ){k:Nat}{g:iU}(x:Al k g)(p:br)(e:List UInt8)(w:a.length<=9999999){c:List iQ}(r:c=a++(if g.s.null then[] else[⟨e,1⟩])):uV l h o m 94 [.ref 14 [mE g] 0 0,iz p,.str e] a c:=by
 refine cX func94 [] λy q t=>?_;apply j<;>intro u
 .refine bk A3 ?_ (i:=DZ a e 1 v);obtain rfl:c=a++[⟨e,1⟩]:=b;exact cH
 obtain rfl:c=a:=b;exact cH
def as_{k:Int}{o:List iU}{r:Int}{q:Bool}(a:List iQ){p:Nat}{h:iU}(m:Al p h)(g:br)(c:List UInt8)(l:jc g.num=0)(C:a.length<=9999999){e:List iQ}(y:e=a++(if h.s.cN.empty then[⟨c,1⟩] else if h.s.cN.has g.num then[] else[⟨c,2⟩])):uV k o r q 96 [.ref 14 [mE h] 0 0,iz g,.str c] a e:=by
 refine cX func96 [] λD t z=>?_;refine az ?_ (i:=sI k<|Is m.cN);apply j<;>intro B
 .refine bk A3 ?_ (i:=DZ a c 1 v);obtain rfl:e=a++[⟨c,1⟩]:=b;exact cH
 refine c7 ?_;refine bT ?_ (i:=sI k<|Og _ g.num m.cN (DV l) (by obtain⟨_,u,w,x,_⟩:=D3 l;exact⟨v,v,v⟩));apply j<;>intro A
 .refine bk A3 ?_ (i:=DZ a c 2 v);obtain rfl:e=a++[⟨c,2⟩]:=b;exact cH
 obtain rfl:e=a:=b;exact cH
def ai5{l:Int}{g:List iU}{o:Int}{m:Bool}(a:List iQ)(p:cm){j h:V}(e:br)(t:e.text.length<=100000000)(b:List UInt8)(s:a.length<=9999999)(c:List iQ)(k:c=a++[⟨b,1⟩]):uV l g o m 97 [.ref 14 [e4 p .gv j h] 0 0,iz e,.str b] a c:=by refine cX func97 [] λu q r=>?_;refine Xb ?_;refine kN.mk (λ_=>?_) nofun;refine bk A3 ?_ (i:=DZ a b 1 v);obtain rfl:=k;exact cH
def ai7{k:Int}{m:List iU}{t:Int}{s:Bool}(a:List iQ)(u:cm){p o:V}(h:br)(r:h.text.length<=100000000)(e:List UInt8)(g:a3)(l:List UInt8)(q:g.ok)(A:a.length<=9999999)(c:List iQ)(x:c=a++(if g.has h.text then[] else[⟨e,3⟩])):uV k m t s 97 [.ref 14 [e4 u (fU (some (g,l))) p o] 0 0,iz h,.str e] a c:=by
 refine cX func97 [] λB w y=>?_;refine Xb ?_;refine kN.mk nofun λ_=>?_;refine c7 ?_;refine bT ?_ (i:=sI k<|VU g l q r);apply j<;>intro z
 .refine bk A3 ?_ (i:=DZ a e 3 v);obtain rfl:c=a++[⟨e,3⟩]:=b;exact cH
 obtain rfl:c=a:=b;exact cH
def ai6{q:Int}{m:List iU}{t:Int}{r:Bool}(b:List iQ){o:Nat}{a:iU}(p:Al o a)(c:br)(g:List UInt8)(l:c.text.length<=100000000)(k:b.length<=9999999){e:List iQ}(h:e=b++JU a.s.eo g c.text):uV q m t r 97 [.ref 14 [mE a] 0 0,iz c,.str g] b e:=by unfold mE;cases j:a.s.eo with|none=>rw[j] at h;exact ai5 b a.s c l g k e h|some i=>rw[j] at h;exact ai7 b a.s c l g i.1 i.2 (p.eo i.1 i.2 j) k e h
def Vo(a:List iU)(i:Bool)(c:Int)(e:List UInt8)(b:br)(g:List iQ):xp a i c e b g=if b.cc=1 then g++(if(hn a c).null then[] else[⟨e,1⟩]) else if b.cc=2 then g++(if RS (hn a c).gW b.bool then[] else[⟨e,1⟩]) else if b.cc=3 then g++(if(hn a c).cN.empty then[⟨e,1⟩] else if(hn a c).cN.has b.num then[] else[⟨e,2⟩]) else if b.cc=4 then g++JU (hn a c).eo e b.text else if b.cc=5 then(if(hn a c).list=false then g++[⟨e,1⟩] else Du a i (hn a c).elem (λh=>e++[47]++decDigits h) b.list 0 (g++Wn (hn a c) e b.list.length++UQ (hn a c) e b.list.length)) else if(hn a c).ib=false then g++[⟨e,1⟩] else Du a i (λh=>(Ub (hn a c).bD (hn a c).rest<|b.keys.getD h []).shape) (λh=>e++PF (b.keys.getD h [])) b.list 0 (g++N5 (hn a c) e b.keys (hn a c).bD.length):=by cases b;rfl
end
section
open Go.Lib
end
section
open Go.Lib
def RV:∀{c e:List UInt8},Op.bytesLess c e=false->¬c=e->Op.bytesLess e c|[],[],_,a=>absurd rfl a|[],_::_,a,_=>by simp[Op.bytesLess] at a|_::_,[],_,_=>rfl|h::c,i::e,a,m=>by simp only[Op.bytesLess,abR,r3,Ca,beq_eq_false_iff_ne,m5,jD,uR,KN] at a⊢;obtain⟨k,b⟩:=a;have l:i<=h:=UInt8.not_lt.1 k;rcases UInt8.lt_or_eq_of_le l with g|g;exact .inl g;subst g;refine .inr ⟨rfl,?_⟩;rcases b with b|b;exact absurd rfl b;exact RV b λj=>m (by rw[j])
end
section
open Go.Lib
def Vq{a:TypeDesc}(c:∀e:Nat,(q e).isKey a):k1 a rs:=λg b=>by simp only[rs,eT,h2,or_false] at b;rcases b with rfl|rfl|rfl|rfl|rfl|rfl<;>exact c _
def Vp{k:Int}{a:List iU}{m:Int}{l:Bool}{c:br}{F:Nat}(w:F<6)(s:c.cc=F+1){b:Nat}(t:b<a.length){e:List UInt8}{j o:List iQ}(r:uV k a m l (94+F) [.ref 14 [mE (a.getD b default)] 0 0,iz c,.str e] j o):uV k a m l 63 [.int .i64 b,iz c,.str e] j o:=by refine cX func63 [2000] λx u h=>?_;have q:F=0\/F=1\/F=2\/F=3\/F=4\/F=5:=v;refine ay.cut (bm:=Unit) (λ_=>⟨[(0,g 6000),(1,.int .i64 b),(3,.str e),(6,g 6)],(6,.cell 73<|iz c)::HJ a m l j,[]⟩) (λ_=>True) (aha eW aZ h.tM (UB k) h.av (c4:=[2000]) ?_) λ_ _=>?_;exact c3 (gP:=λ_=>⟨[(0,g 6000),(1,.int .i64 b),(3,.str e),(6,g 6)],(6,.cell 73<|iz c)::HJ a m l j,[]⟩) (L:=λ_=>True) ();refine ay.GP [19] eW aZ h.tM (UB k) h.av rfl (by decide+kernel) ?_;refine a_ (λ_=>qG (.func (.func<|94+F) [] []) rfl (Vq λ_=>rfl) (dc:=by rw[s];rcases q with rfl|rfl|rfl|rfl|rfl|rfl<;>rfl)) ?_;refine a_ (λ_=>aJ b (mE<|a.getD b default) rfl (p:=cv t)) ?_;refine Fe A3 [] ?_ (i:=r) (a0:=by rcases q with rfl|rfl|rfl|rfl|rfl|rfl<;>exact⟨bL⟩);refine fm ?_;exact cH
end
section
open Go.Lib
def A4{a:TypeDesc}(g:Nat)(b:∀e:Nat,(q e).isKey a):k1 a (rs.take g):=λh c=>Vq b h<|p0 c
def ai8(a:Int):ps a4 (na a) 62 [] [] (.dj 1) [(1,.map rs 6)]:=by refine cX func62 [] λe b c=>?_;refine xB (rs.take 1) 1 ?_<|A4 0 λ_=>rfl;refine xB (rs.take 2) 2 ?_<|A4 1 λ_=>rfl;refine xB (rs.take 3) 3 ?_<|A4 2 λ_=>rfl;refine xB (rs.take 4) 4 ?_<|A4 3 λ_=>rfl;refine xB (rs.take 5) 5 ?_<|A4 4 λ_=>rfl;refine xB (rs.take 6) 6 ?_<|A4 5 λ_=>rfl;exact cH
end
section
open Go.Lib
def apf{j:Type}{e:j->List UInt8}{c:List j}(i:∀a(p:a+1<c.length),Op.bytesLess (e (c[a]'v)) (e c[a+1])):K3 e c:=λa b p h l=>by induction b with|zero=>omega|succ b k=>rcases gh a b with g|g;exact RU (k v g)<|i b h;obtain rfl:a=b:=v;exact i a h
def ahr{b:List gr}{k:Int}{a:Nat}(j:a+1<b.length)(c:ka b k (-1) (a+1)=0):Op.bytesLess (b[a]'v).name b[a+1].name:=by
 have i:b.getD (a+1) default=b[a+1]:=by rw[cg,bw j];rfl
 have h:b.getD a default=b[a]'v:=by rw[cg,bw v];rfl
 unfold ka at c;rw[i,KA,h] at c;split at c;rename_i e;exact absurd c e;split at c;cases c;rename_i e;have e:¬(Op.bytesLess b[a+1].name (b[a]'v).name=true\/b[a+1].name=(b[a]'v).name):=λg=>e ⟨v,g⟩;exact RV (by cases c:Op.bytesLess b[a+1].name (b[a]'v).name;rfl;exact absurd (.inl c) e) λg=>e<|.inr g
def I8(b:List Bool)(a:cm):(g2 b a).null=a.null/\(g2 b a).gW=a.gW/\(g2 b a).cN=a.cN/\(g2 b a).eo=a.eo:=by
 have c:(jV b a).null=a.null/\(jV b a).gW=a.gW/\(jV b a).cN=a.cN/\(jV b a).eo=a.eo:=by unfold jV;split<;>exact⟨rfl,rfl,rfl,rfl⟩
 unfold g2 rH;split<;>exact c
def YB{b:List Bool}{a:cm}(e:(g2 b a).list):a.list/\¬(a.list=true/\a.fD b=false)/\(g2 b a).du=a.du/\(g2 b a).item=a.item/\(g2 b a).min=a.min/\(g2 b a).max=a.max:=by
 have l:∀c:cm,(rH b c).list=c.list/\(rH b c).du=c.du/\(rH b c).item=c.item/\(rH b c).min=c.min/\(rH b c).max=c.max:=λc=>by unfold rH;split<;>exact⟨rfl,rfl,rfl,rfl,rfl⟩
 obtain⟨m,h,i,j,k⟩:=l<|jV b a;have e:(rH b (jV b a)).list:=e;rw[m] at e;by_cases g:a.list/\a.fD b=false;rw[OT g] at e;cases e;rw[OS g] at e h i j k;unfold g2;rw[OS g];exact⟨e,g,h,i,j,k⟩
def I9{b:List Bool}{a:cm}(c:(g2 b a).ib):a.ib/\¬((jV b a).ib=true/\(jV b a).gx b=false)/\(g2 b a).bD=a.bD/\(g2 b a).rest=a.rest:=by
 have g:(jV b a).ib=a.ib/\(jV b a).bD=a.bD/\(jV b a).rest=a.rest:=by unfold jV;split<;>exact⟨rfl,rfl,rfl⟩
 obtain⟨h,i,j⟩:=g;by_cases e:(jV b a).ib/\(jV b a).gx b=false;unfold g2 at c;rw[OU e] at c;cases c;unfold g2 at c⊢;rw[YA e] at c⊢;exact⟨h▸c,e,i,j⟩
def Na(a:List Bool)(b:cm):iU:=⟨g2 a b,vr a b,AS a b⟩
noncomputable def fQ(a:fh):List iU:=(hZ a).map<|Na<|eL<|hZ a
def aiX(b:fh):(fQ b).map mE=(hZ b).map (sl (eL (hZ b))):=by unfold fQ;rw[ez];refine gp λa _=>?_;show e4 (g2 _ a) (fU (g2 _ a).eo) (vr _ a) (AS _ a)=sl _ a;rw[(I8 _ a).2.2.2];rfl
def HK(a:fh):(fQ a).length=a.b_.length:=by unfold fQ hZ;rw[aS,aS]
def Vr{k:fh}(q:pu k):∀A∈fQ k,Al (fQ k).length A:=λA I=>by
 rw[HK];obtain⟨b,x,rfl⟩:=b4.1 I;obtain⟨c,y,i⟩:=b4.1 x;obtain⟨U,W,X,Y,N⟩:=q.len;have s:=Z8 q.kV q.K _ x;rw[show(hZ k).length=k.b_.length from aS ..] at s;have t:=N c y;have m:=Z7 v t;have F:=(Pt (q.K.1 c y) v t).1;obtain⟨B,Q,R⟩:=D6 (BW t).1;obtain⟨T,J,L,M⟩:=I8 (eL<|hZ k) b;refine⟨?_,?_,λw z a=>?_,λa=>?_,λa=>?_,λa l=>?_,λa=>?_,λa D o=>?_,λa=>?_⟩;show(g2 _ b).cN.ok;rw[L];exact s.cN;show 0<=(g2 _ b).gW/\(g2 _ b).gW<=3;rw[J,<-i];exact B;have a:(g2 _ b).eo=some (w,z):=a;rw[M,<-i] at a;have a:(if c.h0 then ju c.d_ else none)=some (w,z):=a;split at a;rename_i H;have G:(gY (fO c.d_).1).1.ok:=Ns F H;unfold ju at a;split at a;cases a;split at a;cases a;injection a with a;injection a with E S;rw[<-E];exact G
 cases a;obtain⟨e,j,g,_⟩:=YB a;show vr _ b=.f 1 ((g2 _ b).du.map eB);rw[g];unfold vr;rw[aa j];obtain⟨e,j,g,_⟩:=I9 a;show AS _ b=.f 3 ((g2 _ b).bD.map cS);rw[g];unfold AS;rw[aa j];obtain⟨e,j,g,r,_⟩:=YB a;have C:(g2 (eL (hZ k)) b).elem l=b.elem l:=by unfold cm.elem;rw[g,r]
 show-1<=(g2 _ b).elem l/\(g2 _ b).elem l<_;rw[C];exact(s.NJ e).2 l;obtain⟨e,j,g,_⟩:=I9 a;show K3 gr.name (g2 _ b).bD/\(g2 _ b).bD.length<=30;have h:c.gx:=by rw[<-i] at e;exact e
 rw[g,<-i,show(ks c).bD=c.bD from ab h];exact⟨apf λu p=>ahr p<|(m.Hb h).2 (u+1) p,(m.Hb h).1⟩;obtain⟨e,j,g,_⟩:=I9 a;have h:c.gx:=by rw[<-i] at e;exact e
 have o:D∈(g2 _ b).bD:=o;rw[g,<-i,show(ks c).bD=c.bD from ab h] at o;obtain⟨u,p,rfl⟩:=kj.1 o;obtain⟨O,P,_⟩:=Uc p<|(m.Hb h).2 u p;exact⟨O,P⟩;obtain⟨e,j,g,r⟩:=I9 a;have h:c.gx:=by rw[<-i] at e;exact e
 show-1<=(g2 _ b).rest/\(g2 _ b).rest<_;rw[r,<-i,show(ks c).rest=c.rest from ab h];exact m.rest h
noncomputable def F9(a:fh)(b:br):Bool:=decide ((xp (fQ a) true a.root [] b []).length=0)
def afP{a:fh}(c:a.gy)(b:gu dB a≠0):aA 25 [qp a] (.tuple [.gv,.int .i64 (gu dB a)]):=by have:=SP a c;unfold qm at this;rwa [ab b] at this
def SO{a:fh}(c:a.gy)(b:gu dB a=0):aA 25 [qp a] (.tuple [.ref 2 [.agg [.f 14 ((fQ a).map mE),.int .i64 a.root]] 0 0,.int .i64 0]):=by have:=SP a c;unfold qm MA at this;rw[aa (by rw[b];simp)] at this;rwa [aiX]
def afQ{a:fh}(c:a.gy):gu dB a≠0/\aA 25 [qp a] (.tuple [.gv,.int .i64 (gu dB a)])\/gu dB a=0/\aA 25 [qp a] (.tuple [.ref 2 [.agg [.f 14 ((fQ a).map mE),.int .i64 a.root]] 0 0,.int .i64 0]):=by by_cases b:gu dB a=0;exact .inr ⟨b,SO c b⟩;exact .inl ⟨b,afP c b⟩
attribute [local irreducible] fQ gu xp x4
end
section
open Go.Lib
def aaB{e:Type} [DecidableEq e]:∀{a W:List e},a.Nodup->(∀c∈a,c∈W)->a.length<=W.length|[],_,_,_=>c1 _|c::a,W,i,j=>by obtain⟨g,h⟩:=s9.1 i;have:=aaB (W:=W.erase c) h λl k=>(Qk λm=>g b).2<|j l<|ki _ k;grind
def aeU{g:Type}{a:g->UInt8->g}(b:g->Bool){c:g}{e:List g}(t:c∈e)(s:∀k∈e,∀i,a k i∈e):(iZ (gH a b c)).next.length<=e.length:=by
 classical
 have m:∀h∈sA (gH a b c) nj,h∈e.map (gH a b):=by refine qi (λh j=>?_) (λh j=>EU (λq i l=>?_) j) _;grind;obtain⟨k,u,rfl⟩:=b4.1 l;rw[DA];grind
 have o:(sA (gH a b c) nj).Nodup:=by exact wS af _
 have p:=aaB o m;rw[aS] at p;have r:(iZ (gH a b c)).next.length=(sA (gH a b c) nj).length:=by show(kU tD D1 _).next.length=_;unfold kU;rw[aS]
 omega
def arb{b:Type}{e:b->UInt8->b}{c:b}(a:UInt8):e c a∈e7 e c:=by refine b4.2 ⟨a.toNat,fq.2 a.toNat_lt,?_⟩;simp
def TO{a:a3}(g:fH a)(h:mF a)(I:List UInt8):gG a I=false:=by
 have j:∀b∈bX a _,∀c,gj a b c∈bX a _:=λb e c=>by refine Au (pH (tV a a.next.length)<|mP g a.next.length) e _ ?_;refine bZ ?_;show c.toNat<(a.next.getD b []).length;rw[g.n b<|mP g _ b e];exact c.toNat_lt
 have i:∀(I:List _)(b:Nat),b∈bX a a.next.length->nF (gj a) b I∈bX a a.next.length:=by
  intro I
  induction I with|nil=>intro b e;exact e|cons c I k=>intro b e;exact k _<|j b e c
 have:=i I _<|(lU (succ:=c8 a) (bj:=[a.start])<|c1 _).subset (by show a.start∈[a.start];simp);unfold mF at h;rw[Fm,abT] at h;show fT a _=false;simp_all
def Yg(a:dH):dB.Dz (dB.sK a.d_)=(gY (fO a.d_).1).1:=rfl
def arB(a:dH)(c:a.h0):ir dB a=if(fO a.d_).2.2≠0 then(fO a.d_).2.2 else(gY (fO a.d_).1).2:=by unfold ir;rw[aa b,ab c];rfl
def j_:ao:=(fO [97,43]).1
def O6:(fO [97,43]).2.2=0:=ax
theorem afA:cr j_<=2000:=bB
theorem aqQ:(b6 (cB j_ ⟨[],[]⟩).1 (cB j_ ⟨[],[]⟩).2 4).length<=4:=by decide+kernel
theorem VX:oW j_ [97,97]:=by decide+kernel
def GX:j_=(fO [97,43]).1:=rfl
def UN(a:a3)(I:List UInt8):a.has I=gG a I:=rfl
attribute [local irreducible] j_ b6 fO gY mF oW
theorem aak:(b6 (cB j_ ⟨[],[]⟩).1 (cB j_ ⟨[],[]⟩).2 3000).length<=4:=by grind[aqQ,b6,py]
theorem aeY:(iZ (oW j_)).next.length<=300:=by
 have g:=aak;have b:none∈b6 (cB j_ ⟨[],[]⟩).1 (cB j_ ⟨[],[]⟩).2 3000:=by unfold b6;exact(lU<|c1 _).subset bB
 have:=aeU (oK (cB j_ ⟨[],[]⟩).2) b λe c a=>EO (y:=(cB j_ ⟨[],[]⟩).1) (O:=(cB j_ ⟨[],[]⟩).2) v e c _<|arb a;grind[oW]
def NL:(gY j_).2=0:=by unfold gY;rw[aa];grind[afA,aak,aeY]
def sS:dH:=⟨false,0,[],true,[97,43],false,[],0,0,0,false,[],0⟩
def lb:fh:=⟨[sS],0⟩
def rm:br:=.mk 4 false ⟨false,[],0⟩ [97,97] [] []
def yS:br:=.mk 1 false ⟨false,[],0⟩ [] [] []
def Sn:gu dB lb=0:=by
 unfold gu;rw[aa aj,aa aj,aa aj];show fB (λa=>gd dB (lb.b_.getD a default) 1) 1=0;rw[fB,fB,aa af];show gd dB sS 1=0;have c:ir dB sS=0:=by rw[arB sS rfl,show sS.d_=[97,43] from rfl,aa (by rw[O6];simp),<-GX];exact NL
 have b:jx sS=0:=aj;simp_all[jt,sS,mT,gd]
def aaL:lb.gy:=⟨λc a=>by rw[cV.1 a];exact⟨λe b=>(by cases b),aj,aj,aj,aj⟩,aj⟩
def agt:x4 rm=0/\rm.K<=1048576/\rm.kV=0:=⟨aj,aj,aj⟩
def agu:x4 yS=0/\yS.K<=1048576/\yS.kV=0:=⟨aj,aj,aj⟩
def apX:pu lb:=⟨aaL,Sn⟩
def al8:dx j_:=by simp[GX,BN,O6]
def Nt:(gY j_).1.ok/\gG (gY j_).1=oW j_:=NK al8 NL
def aic:(gY j_).1.has [97,97]:=by simp[UN,Nt,VX]
theorem agZ:mF (gY j_).1=false:=by cases a:mF _ with|false=>rfl|true=>have:=TO Nt.1.wf a [97,97];simp_all[Nt,VX]
def aiV:(fQ lb).getD 0 default=Na (eL (hZ lb)) (ks sS):=by unfold fQ hZ;simp[cg,ch,lb]
def alz:mR [97,43]=0:=by unfold mR;rw[aa (by rw[O6];simp),<-GX];exact NL
def aj8:ju [97,43]=some ((gY j_).1,[97,43]):=by unfold ju;rw[alz,aa af,<-GX,agZ,aa af]
theorem af0:(ks sS).eo=ju [97,43]:=by show(if sS.h0 then ju sS.d_ else none)=_;exact ab rfl
def arT:(hn (fQ lb) lb.root).eo=some ((gY j_).1,[97,43]):=by unfold hn;rw[show lb.root.toNat=0 from rfl,aiV,<-aj8,<-af0];exact(I8 _ _).2.2.2
def arU:∃a:a3,a.has [97,97]/\(hn (fQ lb) lb.root).eo=some (a,[97,43]):=⟨_,aic,arT⟩
def arS(b:a3×List UInt8)(a c:List UInt8):JU (some b) a c=if b.1.has c then[] else[⟨a,3⟩]:=rfl
def ac0:F9 lb rm:=by obtain⟨c,a,b⟩:=arU;unfold F9;rw[gV,Vo,aa<|show¬rm.cc=1 by decide,aa (show¬rm.cc=2 by decide),aa (show¬rm.cc=3 by decide),ab (show rm.cc=4 from rfl),b,arS,show rm.text=[97,97] from rfl,ab a];rfl
def ac1:F9 lb yS=false:=by trivial
attribute [local irreducible] fQ gu xp x4
def aiT{m:Int}{a:List iU}{o:Int}(j:∀p∈a,Al a.length p){c:br}(e:c.cc=1\/c.cc=4)(l:c.K<=1048576){b:Nat}(h:b<a.length):uV m a o true 63 [.int .i64 b,iz c,.str []] [] (xp a true b [] c []):=by
 have k:hn a b=(a.getD b default).s:=by unfold hn;rw[show((b:Nat):Int).toNat=b from rfl]
 have i:=j _<|bZ (M:=(default:iU)) h;have q:=br.EV l;have g:=Vo a true b [] c [];rw[k] at g;rcases e with e|e;refine Vp (F:=0) v e h<|ai2 [] i c [] aj ?_;rw[g,ab e];refine Vp (F:=3) v e h<|ai6 [] i c [] v aj ?_;rw[g,aa v,aa v,aa v,ab e]
def ahM(c:Int)(a:List iU)(e:Int)(h:∀m∈a,Al a.length m){b:br}(j:b.cc=1\/b.cc=4)(l:b.K<=1048576){Y:Nat}(k:Y<a.length):fg a4 (na c) 39 [.ref 2 [.agg [.f 14 (a.map mE),.int .i64 e]] 0 0,.int .i64 Y,iz b] (.bool (decide ((xp a true Y [] b []).length=0))):=by refine aX func39 [2002] λo p=>?_;refine bk [(1,9)] ?_ (i:=ai8 c);refine lB ⟨[(1,.int .i64 Y),(5,g 5),(6,.bool false),(7,g 11)],[(5,.cell 73<|iz b),(11,.cell 144<|.agg [.ref 2 [.agg [.f 14 (a.map mE),.int .i64 e]] 0 0,.dj 9,.aQ,.bool true]),(9,.map rs 6)],[]⟩ ?_;refine ay.dI 1101 2 293 [] (some (11,2)) ?_;refine cP ?_;refine bk [(6000,11),(6001,9),(5001,1101)] ?_ (i:=aiT h j l k);exact ae (w:=by rw[aS];show V.bool (decide (((xp a true Y [] b []).length:Int)=0))=_;congr 1;exact mu.2 v)
def Sb(a:Int){U:br}(g:U.cc=1\/U.cc=4)(b:x4 U=0/\U.K<=1048576/\U.kV=0):fg a4 (na a) 24 [qp lb,iz U] (.tuple [.bool (F9 lb U),.int .i64 0]):=by refine aX func24 [] λh k=>?_;refine az ?_ (i:=sI a<|SO aaL Sn);apply j<;>intro c;exact absurd rfl c;refine az ?_ (i:=sI a<|asf U b.2.1);apply j<;>intro e;exact absurd b.1 e;refine c7 ?_;refine bT ?_ (i:=ahM a (fQ lb) lb.root (Vr apX) g b.2.1 (Y:=0) (by rw[HK];decide));exact ae
def aeQ(a:Int):fg a4 (na a) 24 [qp lb,iz rm] (.tuple [.bool true,.int .i64 0]):=by have b:=Sb a (U:=rm) (.inr rfl) agt;rwa [ac0] at b
def aeS(a:Int):fg a4 (na a) 24 [qp lb,iz yS] (.tuple [.bool false,.int .i64 0]):=by have b:=Sb a (U:=yS) (.inl rfl) agu;rwa [ac1] at b
def nS(c e:V):Prop:=∀(a:aF)(b:Value),aE a c b->aE a e b
def uW:List V->List V->Prop|[],[]=>True|b::a,e::c=>nS b e/\uW a c|_,_=>False
def nS.rfl'(a:V):nS a a:=λ_ _ b=>b
theorem nS.nil(a:Nat):nS .aQ (.f a []):=λc e b=>by cases b;exact .slnil a
def uW.len:∀{b c:List V},uW b c->b.length=c.length|[],[],_=>rfl|_::_,_::_,a=>by rw[kh,kh,uW.len a.2]|[],_::_,a=>a.elim|_::_,[],a=>a.elim
def uW.get:∀{i j:List V},uW i j->∀(g:Nat)(c e:V),i[g]?=some c->j[g]?=some e->nS c e|[],[],_,g,c,e,b,_=>by simp at b|k::i,l::j,a,0,c,e,b,h=>by simp at b h;subst b;subst h;exact a.1|k::i,l::j,a,g+1,c,e,b,h=>uW.get a.2 g c e (by simpa using b) (by simpa using h)|[],_::_,a,_,_,_,_,_=>a.elim|_::_,[],a,_,_,_,_,_=>a.elim
def nS.agg{b c:List V}(g:uW b c):nS (.agg b) (.agg c):=λj t p=>by
 cases p with
 |agg _ q s k m=>
  have l:=g.len;refine .agg c q v k λa r i h o=>?_;have e:a<b.length:=by rw[l];exact(dm.1 h).1
  exact g.get a _ r (bw e) h j i<|m a _ i (bw e) o
def nS.aqr(k:Nat){e j:List V}(q:uW e j):nS (.f k [.agg e]) (.f k [.agg j]):=λs C A=>by
 cases A with
 |f _ _ t base cap val w x z u y=>
  have o:=q.len;have r:∀(a:Nat)(g:V),j[a]?=some g->∃i,e[a]?=some i/\nS i g:=λa g h=>by
   have p:a<e.length:=by rw[o];exact(dm.1 h).1
   exact⟨e[a],bw p,q.get a _ g (bw p) h⟩
  exact aE.f k [.agg j] t base cap val w x (λc m b=>by
   cases c with|zero=>simp at b;subst b;have:=z 0 (.agg e) rfl;show j.length=k;rw[<-o];exact this|succ c=>simp at b) (λc a m g b h=>by
   cases c with|zero=>simp at b;subst b;obtain⟨i,l,_⟩:=r a g h;exact u 0 a (.agg e) i rfl l|succ c=>simp at b) (λc a m g b h=>by cases c with|zero=>simp at b;subst b;obtain⟨i,l,B⟩:=r a g h;exact B s _ (y 0 a (.agg e) i rfl l)|succ c=>simp at b)
def XO{T:Program}{e:List (Nat×V)}{g:FuncId}{l o k m j:V}(s:fg T e g [l,o] j)(t:nS k l)(u:nS m o):fg T e g [k,m] j:=λc x I w p h q r=>s c x I w p (λa y b ap i=>by cases a with|zero=>simp at ap;subst ap;exact t c b (h 0 _ b rfl i)|succ a=>cases a with|zero=>simp at ap;subst ap;exact u c b (h 1 _ b rfl i)|succ a=>simp at ap) q r
def Im:V:=.agg [.f 13 [.agg [.bool false,.int .i64 0,.aQ,.bool true,.str [97,43],.bool false,.aQ,.int .i64 0,.int .i64 0,.int .i64 0,.bool false,.aQ,.int .i64 0]],.int .i64 0]
def Ig(a:Int)(b:List UInt8):V:=.agg [.int .i64 a,.bool false,.bool false,.str [],.int .i64 0,.str b,.aQ,.aQ]
def Xc:nS Im (qp lb):=.agg ⟨.aqr 13 ⟨.rfl' _,.rfl' _,.nil 11,.rfl' _,.rfl' _,.rfl' _,.nil 1,.rfl' _,.rfl' _,.rfl' _,.rfl' _,.nil 3,.rfl' _,trivial⟩,.rfl' _,trivial⟩
def ak9:nS (Ig 4 [97,97]) (iz rm):=.agg ⟨.rfl' _,.rfl' _,.rfl' _,.rfl' _,.rfl' _,.rfl' _,.nil 8,.nil 1,trivial⟩
def ak_:nS (Ig 1 []) (iz yS):=.agg ⟨.rfl' _,.rfl' _,.rfl' _,.rfl' _,.rfl' _,.rfl' _,.nil 8,.nil 1,trivial⟩
def aeR(a:Int):fg a4 (na a) 24 [Im,Ig 4 [97,97]] (.tuple [.bool true,.int .i64 0]):=XO (aeQ a) Xc ak9
def aeT(a:Int):fg a4 (na a) 24 [Im,Ig 1 []] (.tuple [.bool false,.int .i64 0]):=XO (aeS a) Xc ak_
def ajt(a:Int):fg a4 (na a) 10 [] (.bool true):=by refine aX func10 [2002] λb c=>?_;refine dv ?_;refine lB ⟨[(0,.bool false),(1,g 1)],[(1,.cell 24 Im)],[]⟩ ?_;refine cP ?_;refine az ?_ (i:=aeR a);refine az ?_ (i:=aeT a);refine fM ?_;refine fM ?_;refine fM ?_;exact ae
end
section
structure gO where
 hc:fh
 ops:List eE
def lZ(a:gO):V:=.agg [.f 13 (a.hc.b_.map hD),.int .i64 a.hc.root,.f 6<|a.ops.map dn]
def xK(a:gO)(b:Nat):Int:=iI (a.ops.getD b default) (a.ops.take b) a.hc.b_.length
noncomputable def i3(a:gO):Int:=if gu dB a.hc≠0 then gu dB a.hc else if 40<a.ops.length then 3 else fB (xK a) a.ops.length
noncomputable def vu(a:fh):V:=.ref 2 [.agg [.f 14 ((fQ a).map mE),.int .i64 a.root]] 0 0
structure gO.gy(H:gO):Prop where
 hc:H.hc.gy
 len:H.ops.length<=1000000
 ops:∀P∈H.ops,P.gy
theorem amG(a:gO)(c:a.gy)(b:Nat)(g:b<a.ops.length)(e:Nat)(h:e=a.hc.b_.length):aA 26 [dn (a.ops.getD b default),.f 6 ((a.ops.map dn).take b),.int .i64 e] (.int .i64 (xK a b)):=by subst h;rw[<-z4];exact amF _ _ _ (by rw[m7];have:=c.len;omega) (c.ops _<|bZ g) λj i=>c.ops j<|p0 i
attribute [local irreducible] fQ gu iI
theorem SC(a:gO)(u:a.gy)(o:V)(k:∀s,i3 a=s->s≠0->o=.tuple [.gv,.int .i64 s])(w:i3 a=0->o=.tuple [vu a.hc,.int .i64 0]):aA 11 [lZ a] o:=by
 refine aX func11 [] λy B=>?_;rcases afQ u.hc with⟨c,i⟩|⟨c,i⟩;refine az ?_ (i:=i);apply j<;>intro e;rw[k _ (by rw[i3,ab c]) c];exact ae;exact absurd c e;refine az ?_ (i:=i);apply j<;>intro e;exact absurd rfl e;apply j<;>intro z;rw[k 3 (by rw[i3,aa (by rw[c];simp),ab v]) aj];exact ae;have t:i3 a=fB (xK a) a.ops.length:=by rw[i3,aa (by rw[c];simp),aa v]
 have x:((fQ a.hc).map mE).length=a.hc.b_.length:=by rw[aS,HK]
 refine eH a.ops.length (λb=>fB (xK a) b=0) (λb=>⟨[(1,g 1),(4,vu a.hc),(23,.f 6<|a.ops.map dn),(24,q (a.ops.map dn).length),(25,q b)],[(1,.cell 27<|lZ a)],[]⟩) (λb l=>?_) rfl .r;apply j<;>intro A
 .have m:b<a.ops.length:=v;refine aJ b (dn<|a.ops.getD b default) ?_ (p:=cv m);refine c7 ?_;refine Xd 0 b ?_;refine bT ?_ (i:=amG a u b m _ x);apply j<;>intro h;rw[k _ (by rw[t,ss l.2 h _ m]) h];exact ae;refine aL ?_;exact aB (b+1) ⟨v,pE l.2<|jZ h⟩ (bo:=.r)
 rw[w (by rw[t,show a.ops.length=b by omega];exact l.2)];exact ae
theorem SD(a:gO)(e:a.gy):i3 a≠0/\aA 11 [lZ a] (.tuple [.gv,.int .i64 (i3 a)])\/i3 a=0/\aA 11 [lZ a] (.tuple [vu a.hc,.int .i64 0]):=by by_cases c:i3 a=0;exact .inr ⟨c,SC a e _ (λh b g=>absurd (b▸c) g) λ_=>rfl⟩;exact .inl ⟨c,SC a e _ (λh b _=>by rw[b]) λb=>absurd b c⟩
theorem amD(a:gO)(b:a.gy):aA 4 [lZ a] (.int .i64 (i3 a)):=by refine aX func4 [] λc e=>?_;rcases SD a b with⟨w,i⟩|⟨w,i⟩;refine az ?_ (i:=i);exact ae;refine az ?_ (i:=i);exact ae (w:=by rw[w];rfl)
end
section
noncomputable def wa(b:fh)(a:Nat)(c:List UInt8):Bool:=(b.b_.getD a default).h0&&(gY (fO (b.b_.getD a default).d_).1).1.has c
noncomputable def uh(c:fh)(a:dS)(b:List UInt8):Bool:=if a.ht then wa c a.shape.toNat b else decide (a.text=b)
noncomputable def st(a:fh):List dS->List (List UInt8)->Bool|e::b,g::c=>uh a e g&&st a b c|_,_=>true
noncomputable def qw(c:fh)(a:List dS)(b:List (List UInt8)):Bool:=decide (a.length=b.length)&&st c a b
def G_{e:fh}{b:List dS}{c:List (List UInt8)}{a:Nat}(g:a<b.length)(h:a<c.length):st e (b.drop a) (c.drop a)=(uh e (b.getD a default) (c.getD a default)&&st e (b.drop (a+1)) (c.drop (a+1))):=by rw[iO g,iO h,st];simp[cg,bw g,bw h]
def T5{h:fh}{b:List dS}{c:List (List UInt8)}{a:Nat}(e:b.length<=a):st h (b.drop a) (c.drop a):=by rw[iv e,st];intro _ _ _ _ g;cases g
def Cx(c:Nat)(b:List dS):Prop:=∀a∈b,a.ht->0<=a.shape/\a.shape<(c:Int)
def aiW{a:fh}(g:pu a){b:Nat}(e:b<a.b_.length):((fQ a).getD b default).s.eo=if(a.b_.getD b default).h0 then ju (a.b_.getD b default).d_ else none:=by
 have c:(fQ a).getD b default=Na (eL (hZ a)) (ks (a.b_.getD b default)):=by unfold fQ hZ;simp[cg,ch,bw e]
 rw[c];exact(I8 _ _).2.2.2
def aj_{k:fh}(e:pu k){b:dH}(i:b∈k.b_)(h:b.h0)(l:List UInt8):(match ju b.d_ with|none=>false|some j=>j.1.has l)=(gY (fO b.d_).1).1.has l:=by
 have g:=e.len.2.2.2.2 b i;have m:mR b.d_=0:=by rw[<-JR h];exact(BW g).2.1
 unfold ju;rw[aa (by rw[m];simp)];split;rename_i a;split at a;rename_i he;have c:=Ns (Pt (e.K.1 b i) v g).1 h;rw[Yg] at c;rw[UN,TO c.wf he];cases a;rename_i j a;split at a;cases a;injection a with a;rw[<-a]
def arF{b:fh}(g:pu b){c:Nat}(e:c<b.b_.length)(h:List UInt8):(match((fQ b).getD c default).s.eo with|none=>false|some i=>i.1.has h)=wa b c h:=by rw[aiW g e,wa];by_cases a:(b.b_.getD c default).h0;rw[ab a,aj_ g (bZ e) a,a,s2];rw[aa a,(Kf _).mp a];rfl
def ajp(b:List UInt8):aA 56 [.gv,.str b] (.bool false):=by refine aX func56 [] λc e=>?_;refine Ij ?_;refine b2 (B:=false) (λa=>absurd rfl a) ?_;exact ae
attribute [local irreducible] fQ wa
def arp{b:fh}(m:pu b)(a:Int)(x:0<=a)(y:a<b.b_.length)(c:List UInt8)(r:c.length<=100000000):aA 35 [vu b,.int .i64 a,.str c] (.bool (wa b a.toNat c)):=by
 obtain⟨a,rfl⟩:∃t:Nat,a=(t:Int):=⟨a.toNat,v⟩;have l:a<b.b_.length:=v;have j:a<(fQ b).length:=by rw[HK];exact l
 have o:=Vr m _<|bZ (M:=(default:iU)) j;have q:=arF m l c;rw[show((a:Nat):Int).toNat=a from rfl,<-q];refine aX func35 [] λw z=>?_;cases k:((fQ b).getD a default).s.eo with
 |none=>
  refine aJ a (e4 ((fQ b).getD a default).s .gv ((fQ b).getD a default).G ((fQ b).getD a default).cI) ?_ (p:=by
   have h:mE ((fQ b).getD a default)=e4 ((fQ b).getD a default).s .gv ((fQ b).getD a default).G ((fQ b).getD a default).cI:=by unfold mE;rw[k];rfl
   rw[<-h];exact cv j)
  refine az ?_ (i:=ajp c);exact ae|some u=>
  obtain⟨e,g⟩:=u;refine aJ a (e4 ((fQ b).getD a default).s (fU<|some (e,g)) ((fQ b).getD a default).G ((fQ b).getD a default).cI) ?_ (p:=by
   have h:mE ((fQ b).getD a default)=e4 ((fQ b).getD a default).s (fU (some (e,g))) ((fQ b).getD a default).G ((fQ b).getD a default).cI:=by unfold mE;rw[k]
   rw[<-h];exact cv j)
  refine az ?_ (i:=VU e g (o.eo e g k) r);exact ae
def am5{c:fh}(h:pu c)(a:dS)(g:a.ht->0<=a.shape/\a.shape<(c.b_.length:Int))(e:List UInt8)(k:e.length<=100000000):aA 34 [dU a,.str e,.ref 1 [vu c] 0 0] (.bool (uh c a e)):=by refine aX func34 [] λl m=>?_;apply j<;>intro b;refine az ?_ (i:=arp h a.shape (g b).1 (g b).2 e k);exact ae (w:=by rw[uh,ab b];rfl);exact ae (w:=by rw[uh,aa b];rfl)
def ag6{e:fh}(bo:pu e)(a:List dS)(c:List (List UInt8))(x:a.length<=1048576)(y:c.length<=1048576)(k:Cx e.b_.length a)(l:∀m∈c,m.length<=100000000):aA 33 [.f 3 (a.map dU),.f 1 (c.map V.str),.func (.func 34) [] [.ref 1 [vu e] 0 0]] (.bool (qw e a c)):=by
 refine aX func33 [] λo u=>?_;apply j<;>intro s;exact ae (w:=by rw[qw,show decide (a.length=c.length)=false by simp;omega];rfl);have he:a.length=c.length:=v;rw[qw,show decide (a.length=c.length)=true by simp[he],s2];refine eH a.length (λb=>st e a c=st e (a.drop b) (c.drop b)) (λb=>⟨[(0,.f 3<|a.map dU),(1,.f 1<|c.map V.str),(2,.func (.func 34) [] [.ref 1 [vu e] 0 0]),(6,.bool false),(15,.f 3<|a.map dU),(16,q (a.map dU).length),(17,q b)],[],[]⟩) (λb p=>?_) rfl .r;apply j<;>intro t
 .have h:b<a.length:=v;refine aJ b (dU<|a.getD b default) ?_ (p:=cv v);refine aJ b (.str<|c.getD b default) ?_ (p:=cv v);refine az ?_ (i:=am5 bo (a.getD b default) (k _<|bZ h) (c.getD b default)<|l _<|bZ v);apply j<;>intro g;exact ae (w:=by rw[p.2,G_ v v];rw[show uh e (a.getD b default) (c.getD b default)=false by simpa using g];rfl);refine aL ?_;exact aB (b+1) ⟨v,by rw[p.2,G_ v v];rw[show uh e (a.getD b default) (c.getD b default)=true by simpa using g];rfl⟩ (bo:=.r)
 exact ae (w:=by rw[p.2,T5 v];rfl)
def amC{c:fh}(h:pu c)(a:eE)(b:List (List UInt8))(o:a.path.length<=1000000)(e:b.length<=1048576)(g:Cx c.b_.length a.path)(j:∀k∈b,k.length<=100000000):aA 17 [vu c,dn a,.f 1 (b.map V.str)] (.bool (qw c a.path b)):=by refine aX func17 [] λl m=>?_;refine CJ ?_ (i:=ag6 h a.path b v e g j);exact ae
end
section
open Go.Lib
end
section
open Go.Lib
end
section
open Go.Lib
end
section
open Go.Lib
def ahy(a:Nat)(c:a<18446744073709551616):cK 138 [.d 6000 0 (nDigits a),.int .u64 a] [(6000,.n 1 220 (List.replicate 24 mm))] (.tuple []) [(6000,.n 1 220 (List.replicate 0 mm++((decDigits a).map bh++List.replicate (24-0-nDigits a) mm)))]:=ahu rfl (by grind[Bm]) (λa8 g cap b I h e=>Tryz.internal_strconv_formatBase10 a8 g cap a b I e (by grind[lt_pow_nDigits]) c (by grind[Bm]))<|nDigits_pos a
def aeB{b:List UInt8}:∀a∈b.map bh,a.cells.length=1:=λa c=>by obtain⟨e,_,rfl⟩:=b4.1 c;rfl
def adX(c:List UInt8)(aP:Nat)(e:aP<18446744073709551616)(m:c.length<=9000000000000):cK 91 [.d 5000 0 (c.map bh).length,.int .u64 (aP:Nat),.int .i64 10] [(5000,.n 1 5 (c.map bh))] (.d 5000 0 ((c++decDigits aP).map bh).length) [(5000,.n 1 5 ((c++decDigits aP).map bh))]:=by
 refine cX func91 [] λr k l=>?_;have q:=Bm aP e;have p:(decDigits aP).length=nDigits aP:=decDigits_length aP;refine kN.mk (λ_=>?_) nofun;apply j<;>intro o
 .have h:aP<100:=v;refine k4 (aP:Nat)<|az ?_ (i:=aiN (H:=aP) h);refine Ie ((c++decDigits aP).map bh) ?_ (aG:=af) (bq:=aK);exact cH
 refine W0 (Y:=24) (aP:=.int .u8 0) (ak:=(List.replicate 24 mm)) ?_ (ap:=ax) (aG:=ax);refine az ?_ (i:=alP aP v e);refine Oc 0 (nDigits aP) (nDigits aP) (xi:=bB)<|bk [(6000,7)] ?_ (i:=ahy aP e);refine Oc 0 (nDigits aP) (nDigits aP) ?_ (xi:=aK);refine Ie ((c++decDigits aP).map bh) ?_ (fC:=.d (uc:=7) (yV:=220) (xs:=List.replicate 0 mm++((decDigits aP).map bh++List.replicate (24-0-nDigits aP) mm)) rfl rfl rfl rfl rfl aK (by intro g a;rcases ee.1 a with a|a;trivial;rcases ee.1 a with a|a;exact aeB g a;rw[uJ a];rfl)) (aG:=b) (bq:=aK);exact cH
def adr(a:List UInt8)(b:Nat)(g:b<9223372036854775808)(c:a.length<=9000000000000):cK 59 [.d 5000 0 (a.map bh).length,.int .i64 (b:Nat),.int .i64 10] [(5000,.n 1 5 (a.map bh))] (.d 5000 0 ((a++decDigits b).map bh).length) [(5000,.n 1 5 ((a++decDigits b).map bh))]:=by
 refine cX func59 [] λl e h=>?_;refine k4 _ ?_;apply j<;>intro k
 .omega
 refine bk [(5000,5000)] ?_ (i:=adX a b v c);exact cH
def ads(a:List UInt8)(b:Nat)(c:b<9223372036854775808)(e:a.length<=9000000000000):cK 37 [.d 5000 0 (a.map bh).length,.int .i64 (b:Nat),.int .i64 10] [(5000,.n 1 5 (a.map bh))] (.d 5000 0 ((a++decDigits b).map bh).length) [(5000,.n 1 5 ((a++decDigits b).map bh))]:=by refine cX func37 [] λj g h=>?_;refine bk [(5000,5000)] ?_ (i:=adr a b c e);exact cH
def lE(a:Nat):List UInt8:=decDigits a++[32]
def EX{aP:Nat}(a:aP<18446744073709551616):(lE aP).length<=21:=by grind[lE,List.length_append,decDigits_length,Bm]
def Vd(b:List UInt8)(a:Nat)(j:a<9223372036854775808)(p:b.length<=8000000000000){e:Nat}(l:e=(b.map bh).length):cK 22 [g 6000,.int .i64 (a:Nat)] [(6000,.cell 34 (.agg [.d 5001 0 e])),(5001,.n 1 5 (b.map bh))] (.tuple []) [(6000,.cell 34 (.agg [.d 5001 0 ((b++lE a).map bh).length])),(5001,.n 1 5 ((b++lE a).map bh))]:=by
 subst l;have r:=Bm a v;have q:(decDigits a).length=nDigits a:=decDigits_length a;have k:b++lE a=b++decDigits a++[32]:=by rw[lE,ge]
 rw[k];refine cX func22 [] λs m o=>?_;refine al4 6000 [0]<|bk [(5000,5001)] ?_ (i:=ads b a j v);refine dv ?_ (hlen:=λh c=>by rw[cV.1 c];rfl);refine Ie ((b++decDigits a++[32]).map bh) ?_ (fC:=.f rfl rfl rfl rfl λh c=>by rw[cV.1 c];rfl) (aG:=by rw[@cD _ _ _ (b++decDigits a) _];rfl) (bq:=aK);exact cH
def Vf(b a:List UInt8)(p:a.length<=100000000000)(m:b.length<=5000000000000){h:Nat}(j:h=(b.map bh).length):cK 23 [g 6000,.str a] [(6000,.cell 34 (.agg [.d 5001 0 h])),(5001,.n 1 5 (b.map bh))] (.tuple []) [(6000,.cell 34 (.agg [.d 5001 0 ((b++(lE a.length++a)).map bh).length])),(5001,.n 1 5 ((b++(lE a.length++a)).map bh))]:=by
 subst j;have bq:=EX (aP:=a.length) v;obtain⟨c,e⟩:∃c,c=b++lE a.length:=⟨_,rfl⟩;have o:c.length<=5000000000021:=by rw[e,c_];omega
 rw[<-ge,<-e];refine cX func23 [] λq k l=>?_;refine bk [(6000,6000),(5001,5001)] ?_ (i:=Vd b a.length v v rfl);rw[<-e];refine Ie ((c++a).map bh) ?_ (aG:=af) (bq:=aK);exact cH
end
abbrev ti:=List UInt8×List UInt8
def oR(a:ti):V:=.agg [.str a.1,.str a.2]
def pc(b:List ti):List UInt8:=b.flatMap λa=>(lE a.1.length++a.1)++(lE a.2.length++a.2)
def arn{b:List ti}{a:Nat}(c:a<b.length):pc (b.take (a+1))=pc (b.take a)++((lE b[a].1.length++b[a].1)++(lE b[a].2.length++b[a].2)):=by grind[pc,List.take_add_one,List.getElem?_eq_getElem]
def arm{N:List ti}{hN:Nat}(c:∀a∈N,a.1.length<=hN/\a.2.length<=hN/\hN<=100000000000):(pc N).length<=(2*hN+42)*N.length:=by induction N with|nil=>exact c1 _|cons a N g=>have h:=c a b;have i:=g λe l=>c e b;have j:=EX (aP:=a.1.length) v;have k:=EX (aP:=a.2.length) v;grind[pc,List.length_append,List.length_cons,Nat.mul_add]
def Ve(N:List ti)(c:List UInt8)(E:c.length<=1000)(I:N.length<=1000)(x:∀k∈N,k.1.length<=1300000/\k.2.length<=1300000)(w:Nat)(y:w=(c.map bh).length):cK 8 [g 6000,.f 2 (N.map oR)] [(6000,.cell 34 (.agg [.d 5001 0 w])),(5001,.n 1 5 (c.map bh))] (.tuple []) [(6000,.cell 34 (.agg [.d 5001 0 ((c++lE N.length++pc N).map bh).length])),(5001,.n 1 5 ((c++lE N.length++pc N).map bh))]:=by
 subst y;have t:(N.map oR).length=N.length:=aS ..;have z:=EX (aP:=N.length) v;rw[<-t];rw[<-t] at z;obtain⟨b,o⟩:∃b,b=c++lE (N.map oR).length:=⟨_,rfl⟩;have G:b.length<=1021:=by rw[o,c_];omega
 rw[<-o];obtain⟨r,s⟩:∃r,r=b++pc N:=⟨_,rfl⟩;rw[<-s];refine cX func8 [] λM A D=>?_;refine bk [(6000,6000),(5001,5001)] ?_ (i:=Vd c (N.map oR).length v v rfl);rw[<-o];rw[show b=b++pc (N.take 0) by simp[pc,abY,gf]];refine dL N.length (λa=>⟨[(0,g 6000),(1,.f 2<|N.map oR),(4,q a)],[(5001,.n 1 5<|(b++pc (N.take a)).map bh),(6000,.cell 34<|.agg [.d 5001 0 ((b++pc (N.take a)).map bh).length])],[]⟩) λa p=>?_;apply j<;>intro F
 .have h:a<N.length:=v;have H:=x _<|fG h;have J:=arm (N:=N.take a) (hN:=1300000) λk hm=>aM;have K:(N.take a).length<=1000:=yl;obtain⟨e,l⟩:∃e,e=b++pc (N.take a):=⟨_,rfl⟩;have B:e.length<=1400000000000:=by rw[l,c_];omega
  have u:b++pc (N.take (a+1))=e++(lE N[a].1.length++N[a].1)++(lE N[a].2.length++N[a].2):=by rw[arn h,l];simp only[ge]
  have L:=EX (aP:=N[a].1.length) v;obtain⟨eK,m⟩:∃eK,eK=e++(lE N[a].1.length++N[a].1):=⟨_,rfl⟩;have C:eK.length<=1500000000000:=by rw[m,c_,c_];omega
  rw[<-m] at u;rw[<-l];refine aJ a (oR N[a]) ?_ (p:=kB h);refine bk [(6000,6000),(5001,5001)] ?_ (i:=Vf e N[a].1 v v rfl);rw[<-m];refine aJ a (oR N[a]) ?_ (p:=kB h);refine bk [(6000,6000),(5001,5001)] ?_ (i:=Vf eK N[a].2 v v rfl);rw[<-u];refine aL ?_;exact aB<|a+1
 obtain rfl:a=N.length:=v;rw[gq,<-s];exact cH
def od(a:List UInt8):Bool:=decide (1000<a.length)
def akf(a:List UInt8)(e:a.length<=100000000):aA 16 [.str a] (.bool (od a)):=by refine aX func16 [] λb c=>?_;exact ae (w:=by simp only[cO,od];congr 1;exact mu.2 v)
def aiB(c:List (List UInt8))(q:c.length<=1048576)(g:∀h∈c,h.length<=100000000):aA 32 [.f 1 (c.map V.str),.func (.func 16) [] []] (.int .i64 (mK od c 0)):=by
 refine aX func32 [] λk l=>?_;refine eH c.length (λa=>mK od c 0=mK od (c.drop a) a) (λa=>⟨[(0,_),(1,_),(7,_),(8,.int _ (a:Nat))],[],[]⟩) (λa p=>?_) (bo:=.r);apply j<;>intro o
 .have e:a<c.length:=v;refine aJ a (.str<|c.getD a default) ?_ (p:=cv e);refine az ?_ (i:=akf (c.getD a default)<|g _<|bZ e);apply j<;>intro m
  .exact ae (w:=by rw[p.2,iO e,mK,ab b];rfl)
  refine aL ?_;exact aB (a+1) ⟨v,by rw[p.2,iO e,mK,aa b]⟩
 exact ae (w:=by rw[p.2,iv v];rfl)
def adH(a:List (List UInt8))(b:a.length<=1048576)(c:∀e∈a,e.length<=100000000):aA 15 [.f 1 (a.map V.str),.func (.func 16) [] []] (.bool (a.any od)):=by refine aX func15 [] λg h=>?_;refine az ?_ (i:=aiB a b c);exact ae (w:=by rw[HE a 0];rfl)
noncomputable def jn(a:gO)(c:List UInt8)(e:List (List UInt8)):Nat->Int|0=>-1|b+1=>if((a.ops.getD b default).method=c/\qw a.hc (a.ops.getD b default).path e)/\(jn a c e b<0\/pA (a.ops.getD b default).path (a.ops.getD (jn a c e b).toNat default).path) then(b:Int) else jn a c e b
def qN(b:List dS)(c:List (List UInt8)):Nat->List ti|0=>[]|a+1=>qN b c a++if(b.getD a default).ht then[((b.getD a default).text,c.getD a default)] else[]
def Jb{E:List dS}{path:List (List UInt8)}:∀a,(qN E path a).length<=a|0=>a1 _|a+1=>by rw[qN,c_];have:=Jb (E:=E) (path:=path) a;split<;>simp<;>omega
theorem yH{H:gO}{o:List UInt8}{path:List (List UInt8)}:∀a,0<=jn H o path a->(jn H o path a).toNat<a/\qw H.hc (H.ops.getD (jn H o path a).toNat default).path path|0,b=>by rw[jn] at b;omega|a+1,b=>by rw[jn] at b⊢;split;rename_i c;exact⟨v,c.1.2⟩;rename_i c;rw[aa c] at b;have:=yH a b;exact⟨v,this.2⟩
theorem RN{H:gO}{o:List UInt8}{path:List (List UInt8)}(a:Nat):jn H o path a<(a:Int):=by by_cases b:0<=jn H o path a;have:=(yH a b).1;omega;omega
def AT{e:fh}{a:List dS}{b:List (List UInt8)}(c:qw e a b):a.length=b.length:=by rw[qw,jD,gV] at c;exact c.1
noncomputable def kH(a:gO)(c:List UInt8)(b:List (List UInt8)):Int:=if i3 a≠0 then i3 a else if l7 pg 10 c=false then 8 else if 10<b.length\/b.any od then 3 else if jn a c b a.ops.length<0 then 4 else 0
noncomputable def BQ(a:gO)(b:List UInt8)(c:List (List UInt8)):Int:=if kH a b c=0 then jn a b c a.ops.length else 0
noncomputable def qT(a:gO)(c:List UInt8)(b:List (List UInt8)):List ti:=if kH a c b=0 then qN (a.ops.getD (jn a c b a.ops.length).toNat default).path b b.length else[]
noncomputable def xU(a:gO)(b:List UInt8)(c:List (List UInt8)):V:=.tuple [.int .i64 (BQ a b c),.f 2<|(qT a b c).map oR,.int .i64<|kH a b c]
theorem v3{b:gO}{c:List UInt8}{e:List (List UInt8)}{J:Int}(g:kH b c e=J)(a:J≠0):xU b c e=.tuple [.int .i64 0,.f 2 [],.int .i64 J]:=by rw[xU,BQ,qT,g,aa a,aa a];rfl
theorem ZC{a:gO}{e:List UInt8}{b:List (List UInt8)}{c:Int}{pr:List ti}(i:kH a e b=0)(h:jn a e b a.ops.length=c)(g:qN (a.ops.getD c.toNat default).path b b.length=pr):xU a e b=.tuple [.int .i64 c,.f 2 (pr.map oR),.int .i64 0]:=by rw[xU,BQ,qT,i,ab rfl,ab rfl,h,g]
structure acI(H:gO):Prop where
 hc:pu H.hc
 ops:∀P∈H.ops,Cx H.hc.b_.length P.path
def ane{e:List dS}{g:Nat}(a:mW e g=0):Cx g e:=λm j k=>by unfold mW at a;split at a;cases a;split at a;rename_i b;obtain⟨l,c,rfl⟩:=kj.1 j;have:=vo b l c;rw[ny,cg,bw c] at this;simp only[te] at this;unfold vR at this;split at this;cases this;split at this;cases this;rename_i i;have:=Cp.1 λh=>i ⟨k,h⟩;omega;rename_i b;exact absurd a b
def ame{e:eE}{g:List eE}{c:Int}(a:iI e g c=0):mW e.path c=0:=by unfold iI at a;split at a;cases a;split at a;cases a;split at a;cases a;split at a;rename_i b;exact absurd a b;rename_i b;exact jZ b
theorem U9{c:gO}(h:c.gy)(a:i3 c=0):acI c:=by unfold i3 at a;split at a;rename_i b;exact absurd a b;rename_i b;split at a;cases a;refine⟨⟨h.hc,jZ b⟩,λj g=>?_⟩;obtain⟨i,e,rfl⟩:=kj.1 g;have:=vo a i e;rw[xK,cg,bw e] at this;exact ane<|ame this
section
attribute [local irreducible] fQ i3 qw l7 pA jn xU
theorem amJ(H:gO)(ap:H.gy)(o:List UInt8)(R:o.length<=100000000)(path:List (List UInt8))(ah:path.length<=1048576)(F:∀W∈path,W.length<=100000000):aA 6 [lZ H,.str o,.f 1 (path.map V.str)] (xU H o path):=by
 refine aX func6 [] λX Z=>?_;rcases SD H ap with⟨k,i⟩|⟨k,i⟩;refine az ?_ (i:=i);apply j<;>intro w;rw[v3 (J:=i3 H) (by rw[kH,ab k]) k];exact vk 2 [7] ae;exact absurd k w;have u:¬i3 H≠0:=by rw[k];simp
 obtain⟨T,S⟩:=U9 ap k;refine az ?_ (i:=i);apply j<;>intro w;exact absurd rfl w;refine az ?_ (i:=X7 o R);apply j<;>intro z;rw[v3 (J:=8) (by rw[kH,aa u,ab (by simpa using z)]) aj];exact vk 2 [7] ae;have y:¬l7 pg 10 o=false:=by simpa using z
 apply cs;intro _;refine bT ?_ (i:=adH path v F);exact rfl;apply j<;>intro A;rw[v3 (J:=3) (by rw[kH,aa u,aa y,ab<|A.imp (λU=>v) id]) aj];exact vk 2 [7] ae;have G:¬(10<path.length\/path.any od):=λI=>A<|I.imp (λU=>v) id;refine cQ (Nat×Int) (λb=>⟨[(1,.str o),(2,.f 1<|path.map V.str),(3,g 3),(9,vu H.hc),(11,.int .i64 b.2),(38,.f 6<|H.ops.map dn),(39,q (H.ops.map dn).length),(40,q b.1)],[(3,.cell 27<|lZ H)],[]⟩) (λb=>b.1<=H.ops.length/\b.2=jn H o path b.1) (λb=>H.ops.length-b.1) (0, -1) (λ⟨a,e⟩ h=>?_) ⟨c1 _,by rw[jn]⟩ .r;dsimp only at h⊢;obtain⟨h,c⟩:=h;have ag:=ap.len;have O:=RN (H:=H) (o:=o) (path:=path) a;rw[<-c] at O;apply j<;>intro Y
 .have B:a<H.ops.length:=v;have C:=bZ (M:=(default:eE)) B;have D:=ap.ops _ C;refine aJ a (dn<|H.ops.getD a default) ?_ (p:=cv B);refine c7 ?_;apply b2;intro _;refine bT ?_ (i:=amC T (H.ops.getD a default) path D.2.2.1 v (S _ C) F);exact rfl;apply b2;intro s;apply cs;intro K;have m:=yH (H:=H) (o:=o) (path:=path) a (by rw[<-c];omega);rw[<-c] at m;refine aJ e.toNat (dn<|H.ops.getD e.toNat default) ?_ (p:=cv v);refine bT ?_ (i:=amA (H.ops.getD a default) (H.ops.getD e.toNat default) (by rw[AT s.2,AT m.2]) D.2.2.1);exact rfl;exact rfl;apply j<;>intro l;refine aL ?_;exact aB (a+1,(a:Int)) ⟨v,by rw[jn,ab (by rw[<-c];exact l)]⟩ v .r;refine aL ?_;exact aB (a+1,e) ⟨v,by rw[jn,aa (by rw[<-c];exact l)];exact c⟩ v .r
 obtain rfl:a=H.ops.length:=v;apply j<;>intro s;rw[v3 (J:=4) (by rw[kH,aa u,aa y,aa G,ab (by rw[<-c];exact s)]) aj];exact vk 2 [7] ae;have L:kH H o path=0:=by rw[kH,aa u,aa y,aa G,aa (by rw[<-c];exact s)]
 have m:=yH (H:=H) (o:=o) (path:=path) H.ops.length (by rw[<-c];omega);rw[<-c] at m;obtain⟨E,x⟩:∃E,E=(H.ops.getD e.toNat default).path:=⟨_,rfl⟩;have ad:E.length=path.length:=by rw[x];exact AT m.2
 refine aJ e.toNat (dn<|H.ops.getD e.toNat default) ?_ (p:=cv v);refine ay.dI 1014 2 59 [14] none ?_;refine cQ (Nat×List ti) (λb=>⟨[(2,.f 1<|path.map V.str),(11,.int .i64 e),(14,.d 1014 0 (b.2.map oR).length),(77,.f 3<|(H.ops.getD e.toNat default).path.map dU),(78,q ((H.ops.getD e.toNat default).path.map dU).length),(79,q b.1)],[(1014,.n 2 59<|b.2.map oR)],[]⟩) (λb=>b.1<=E.length/\b.2=qN E path b.1) (λb=>E.length-b.1) (0,[]) (λ⟨a,pr⟩ h=>?_) ⟨c1 _,rfl⟩ .r;rw[<-x];dsimp only at h⊢;obtain⟨h,t⟩:=h;have N:=Jb (E:=E) (path:=path) a;rw[<-t] at N;apply j<;>intro K
 .have Q:a<E.length:=v;refine aJ a (dU<|E.getD a default) ?_ (p:=cv Q);apply j<;>intro l
  .refine dC ?_;refine a_ (λ_=>aJ a (.str<|path.getD a default) rfl (p:=cv v)) ?_;refine a_ (λ_=>jv rfl) ?_;refine lH ?_;refine jB 95 ((pr++[((E.getD a default).text,path.getD a default)]).map oR) ?_ (ap:=ax) (fC:=.f rfl rfl rfl rfl λM P=>by rw[cV.1 P];rfl) (aG:=p3) (bq:=aK);refine iK [(95,1014)] ?_;refine aL ?_;exact aB (a+1,pr++[((E.getD a default).text,path.getD a default)]) ⟨v,by rw[qN,ab l,t]⟩ v
  refine aL ?_;exact aB (a+1,pr) ⟨v,by rw[qN,aa l,gf,t]⟩ v
 rw[ZC L c.symm (pr:=pr) (by rw[<-x,t,show a=path.length by omega])];exact gB 1014<|ae
end
section
def X3{b a:Int}:hI b a↔a<0\/b<=a:=by rw[hI,m5,gV,gV]
def Gd{a:List eE}{e:eE->Bool}{b c:Nat}(i:b<=a.length)(g:(a.take b).any e=((a.take b).drop c).any e)(h:c<b):(a.take b).any e=(e (a.getD c default)||((a.take b).drop (c+1)).any e):=by rw[g,iO yl,uH];simp[cg,bw<|show c<a.length by omega]
def Ry{b:List eE}{c:eE->Bool}{a e:Nat}(g:(b.take a).any c=((b.take a).drop e).any c)(h:a<=e):(b.take a).any c=false:=by rw[g,iv yl];rfl
def Rx{a:List dS}{e:dS->Bool}{b c:Nat}(i:b<=a.length)(g:(a.take b).any e=((a.take b).drop c).any e)(h:c<b):(a.take b).any e=(e (a.getD c default)||((a.take b).drop (c+1)).any e):=by rw[g,iO yl,uH];simp[cg,bw<|show c<a.length by omega]
def adI{b:List dS}{c:dS->Bool}{a e:Nat}(g:(b.take a).any c=((b.take a).drop e).any c)(h:a<=e):(b.take a).any c=false:=by rw[g,iv yl];rfl
attribute [local irreducible] l7 nm o6
def aol(c:List eE)(h:Nat)(e:Int)(W:h<c.length)(aC:c.length<=1000000)(Z:∀a∈c,a.gy)(L:0<=e):aA 13 [.f 6 (c.map dn),q h,.int .i64 e] (.int .i64 (iI (c.getD h default) (c.take h) e)):=by
 obtain⟨a,X⟩:∃a,a=c.getD h default:=⟨_,rfl⟩;have Y:=bZ (M:=(default:eE)) W;rw[<-X] at Y⊢;have am:=Z a Y;obtain⟨aD,aE,an,ao,aF⟩:=id am;refine aX func13 [] λap ax=>?_;refine aJ h (dn a) ?_ (p:=by rw[X];exact cv W);refine az ?_ (i:=aom a.name v);apply j<;>intro S;exact ae (w:=by rw[iI,ab (by simpa using S)];rfl);have t:¬l7 ue 30 a.name=false:=by simpa using S
 refine eH h (λb=>(c.take h).any (v4 a)=((c.take h).drop b).any (v4 a)) (λb=>⟨[(0,.f 6<|c.map dn),(1,q h),(2,.int .i64 e),(7,g 7),(8,q b)],[(7,.cell 53<|dn a)],[]⟩) (λb p=>?_) rfl .r;apply j<;>intro aq
 .have C:b<h:=v;refine c7 ?_;refine aJ b (dn<|c.getD b default) ?_ (p:=cv v);apply j<;>intro B;exact ae (w:=by rw[iI,aa t,ab (by rw[Gd v p.2 C,v4,oD B];rfl)];rfl);refine aL ?_;exact aB (b+1) ⟨v,by rw[Gd v p.2 C,v4,FK B];rfl⟩ (bo:=.r)
 have y:¬(c.take h).any (v4 a):=by rw[Ry p.2 v];simp
 refine az ?_ (i:=Y4 a.method v);apply j<;>intro B;exact ae (w:=by rw[iI,aa t,aa y,ab (by simpa using B)];rfl);have z:¬l7 pg 10 a.method=false:=by simpa using B
 have G:∀s,mW a.path e=s->s≠0->iI a (c.take h) e=s:=λs I J=>by rw[iI,aa t,aa y,aa z,I,ab J]
 apply j<;>intro av;exact ae (w:=by rw[G 3 (by rw[mW,ab v]) aj];rfl);have H:¬10<a.path.length:=v;refine eH a.path.length (λb=>fB (ny a.path e) b=0) (λb=>⟨[(0,.f 6<|c.map dn),(1,q h),(2,.int .i64 e),(7,g 7),(9,q b)],[(7,.cell 53<|dn a)],[]⟩) (λb p=>?_) rfl .r;apply j<;>intro u
 .have l:b<a.path.length:=v;refine aJ b (dU<|a.path.getD b default) ?_ (p:=cv l);apply cs;intro _;exact rfl;apply j<;>intro x;exact ae (w:=by rw[G 8 (Ee H p.2 l (by rw[ny,vR,ab x]) aj) aj];rfl);apply b2;intro _;refine bT ?_ (i:=zF (a.path.getD b default).shape e);exact rfl;apply cs;intro _;apply b2;intro _;exact rfl;exact rfl;apply j<;>intro o;exact ae (w:=by rw[G 9 (Ee H p.2 l (by rw[ny,vR,aa x];rcases o with⟨ah,ai⟩|m;rw[ab ⟨ah,by rw[<-X3];simpa using ai⟩];rw[aa λk=>m.1 k.1,ab m]) aj) aj];rfl)
  refine aL ?_;exact aB (b+1) ⟨v,pE p.2 (by rw[ny,vR,aa x,aa λk=>o<|.inl ⟨k.1,by simpa using X3.2 k.2⟩,aa λk=>o<|.inr k])⟩ (bo:=.r)
 have Q:fB (ny a.path e) a.path.length=0:=by rw[show a.path.length=b by omega];exact p.2
 refine eH a.path.length (λb=>fB (v_ a.path) b=0) (λb=>⟨[(0,.f 6<|c.map dn),(1,q h),(2,.int .i64 e),(7,g 7),(11,q b)],[(7,.cell 53<|dn a)],[]⟩) (λb p=>?_) rfl .r;apply j<;>intro u
 .have l:b<a.path.length:=v;refine eH b (λF=>(a.path.take b).any (qY<|a.path.getD b default)=((a.path.take b).drop F).any (qY<|a.path.getD b default)) (λF=>⟨[(0,.f 6<|c.map dn),(1,q h),(2,.int .i64 e),(7,g 7),(11,q b),(12,q F)],[(7,.cell 53<|dn a)],[]⟩) (λF K=>?_) rfl .r;apply j<;>intro x
  .have U:F<b:=v;refine c7 ?_;refine aJ b (dU<|a.path.getD b default) ?_ (p:=cv l);apply b2;intro _;refine aJ F (dU<|a.path.getD F default) ?_ (p:=cv v);exact rfl;apply b2;intro _;refine aJ b (dU<|a.path.getD b default) ?_ (p:=cv l);refine aJ F (dU<|a.path.getD F default) ?_ (p:=cv v);exact rfl;apply j<;>intro o;exact ae (w:=by
    rw[G 5 (by
     have R:v_ a.path b=5:=by rw[v_,ab (by rw[Rx v K.2 U,qY,o.1.1,o.1.2,oD o.2];rfl)]
     rw[mW,aa H,ab Q,ss p.2 (by rw[R];decide) _ l,R]) aj]
    rfl)
   refine aL ?_;exact aB (F+1) ⟨v,by rw[Rx v K.2 U];rw[show qY (a.path.getD b default) (a.path.getD F default)=false by rw[<-Kf,qY,jD,jD,gV];exact o];rfl⟩ (bo:=.r)
  refine aL ?_;exact aB (b+1) ⟨v,pE p.2 (by rw[v_,aa (by rw[adI K.2 v];simp)])⟩ (bo:=.r)
 have al:mW a.path e=0:=by rw[mW,aa H,ab Q,show a.path.length=b by omega,p.2]
 have D:¬mW a.path e≠0:=by rw[al];simp
 refine az ?_ (i:=T0 a.query e 0 ao);apply j<;>intro u;exact ae (w:=by rw[iI,aa t,aa y,aa z,aa D,ab u];rfl);apply b2;intro _;refine bT ?_ (i:=zF a.body e);exact rfl;apply j<;>intro x;exact ae (w:=by rw[iI,aa t,aa y,aa z,aa D,aa u,ab<|(Et L).1 (by simpa using x)];rfl);have O:¬(a.body< -1\/e<=a.body):=λk=>x (by simpa using(Et L).2 k);have E:∀s,px a.j5 e=s->s≠0->iI a (c.take h) e=s:=λs I J=>by rw[iI,aa t,aa y,aa z,aa D,aa u,aa O,I,ab J]
 apply j<;>intro o;exact ae (w:=by rw[E 13 (by rw[px,ab v]) aj];rfl);apply j<;>intro aw;exact ae (w:=by rw[E 3 (by rw[px,aa v,ab v]) aj];rfl);have bu:¬a.j5.length=0:=v;have cG:¬10<a.j5.length:=v;refine eH a.j5.length (λb=>fB (sP a.j5 e) b=0) (λb=>⟨[(0,.f 6<|c.map dn),(1,q h),(2,.int .i64 e),(7,g 7),(14,q b)],[(7,.cell 53<|dn a)],[]⟩) (λb p=>?_) rfl .r;apply j<;>intro ak
 .have l:b<a.j5.length:=v;refine aJ b (sn<|a.j5.getD b default) ?_ (p:=cv l);apply cs;intro _;exact rfl;apply cs;intro _;apply b2;intro _;refine bT ?_ (i:=zF (a.j5.getD b default).shape e);exact rfl;exact rfl;have N:=Et (F:=(a.j5.getD b default).shape) L;apply j<;>intro A;exact ae (w:=by rw[E 9 (Gc bu cG p.2 l (by rw[sP,ab];rcases A with m|m;exact .inl<|.inl m;rcases N.1 (by simpa using m) with m|m;exact .inl<|.inr m;exact .inr m) aj) aj];rfl)
  have ad:¬((((a.j5.getD b default).status<100\/599<(a.j5.getD b default).status)\/(a.j5.getD b default).shape< -1)\/e<=(a.j5.getD b default).shape):=λk=>A (by rcases k with(k|k)|k;exact .inl k;exact .inr (by simpa using N.2 (.inl k));exact .inr (by simpa using N.2 (.inr k)));refine c7 ?_;apply b2;intro ay;refine g1 ?_;refine aJ (b-1) (sn<|a.j5.getD (b-1) default) ?_ (p:=cv v);exact rfl;apply j<;>intro T;exact ae (w:=by rw[E 10 (Gc bu cG p.2 l (by rw[sP,aa ad,ab T]) aj) aj];rfl);refine aL ?_;exact aB (b+1) ⟨v,pE p.2 (by rw[sP,aa ad,aa T])⟩ (bo:=.r)
 have ag:¬px a.j5 e≠0:=by rw[px,aa bu,aa cG,show a.j5.length=b by omega,p.2];simp
 refine eH h (λb=>(c.take h).any (λP=>o6 P a)=((c.take h).drop b).any (λP=>o6 P a)) (λb=>⟨[(0,.f 6<|c.map dn),(1,q h),(7,g 7),(16,q b)],[(7,.cell 53<|dn a)],[]⟩) (λb p=>?_) rfl .r;apply j<;>intro ak
 .have C:b<h:=v;have l:b<c.length:=v;refine c7 ?_;refine aJ b (dn<|c.getD b default) ?_ (p:=cv l);refine bT ?_ (i:=aoq (c.getD b default) a (Z _<|bZ l).2.2.1 an);apply j<;>intro A;exact ae (w:=by rw[iI,aa t,aa y,aa z,aa D,aa u,aa O,aa ag,ab (by rw[Gd v p.2 C,A];rfl)];rfl);refine aL ?_;exact aB (b+1) ⟨v,by rw[Gd v p.2 C,show o6 (c.getD b default) a=false by simpa using A];rfl⟩ (bo:=.r)
 exact ae (w:=by rw[iI,aa t,aa y,aa z,aa D,aa u,aa O,aa ag,aa (by rw[Ry p.2 v];simp)];rfl)
end
section
attribute [local irreducible] gu iI
theorem Y2(a:gO)(h:a.gy):aA 5 [lZ a] (.int .i64 (i3 a)):=by
 refine aX func5 [] λo t=>?_;refine az ?_ (i:=aop Yh a.hc h.hc);apply j<;>intro c;exact ae (w:=by rw[i3,ab c];rfl);apply j<;>intro p;exact ae (w:=by rw[i3,aa c,ab v];rfl);have l:i3 a=fB (xK a) a.ops.length:=by rw[i3,aa c,aa v]
 refine eH a.ops.length (λb=>fB (xK a) b=0) (λb=>⟨[(1,g 1),(4,q b)],[(1,.cell 27<|lZ a)],[]⟩) (λb e=>?_) rfl .r;apply j<;>intro s
 .have m:b<a.ops.length:=v;refine az ?_ (D:=.int .i64<|xK a b) (i:=by rw[aS];exact aol a.ops b a.hc.b_.length m h.len h.ops v);apply j<;>intro k;exact ae (w:=by rw[l,ss e.2 k _ m];rfl);refine aL ?_;exact aB (b+1) ⟨v,pE e.2<|jZ k⟩ (bo:=.r)
 exact ae (w:=by rw[l,show a.ops.length=b by omega,e.2];rfl)
attribute [local irreducible] fO gY i3
def arC{e:fh}(k:pu e)(a:Int)(x:0<=a)(y:a<e.b_.length)(h:List UInt8)(r:h.length<=100000000):aA 36 [qp e,.int .i64 a,.str h] (.bool (wa e a.toNat h)):=by
 obtain⟨a,rfl⟩:∃t:Nat,a=(t:Int):=⟨a.toNat,v⟩;have l:a<e.b_.length:=v;rw[show((a:Nat):Int).toNat=a from rfl,wa];have hm:=bZ (M:=(default:dH)) l;generalize s:e.b_.getD a default=c at hm⊢;refine aX func36 [] λu z=>?_;have p:(e.b_.map hD)[a]?=some (hD c):=by rw[<-s];exact cv l
 refine aJ a (hD c) ?_ (p:=p);apply j<;>intro g;exact ae (w:=by rw[show c.h0=false by simpa using g];rfl);have g:c.h0:=by simpa using g
 have m:=k.len.2.2.2.2 c hm;have q:dB.xL c.d_=0:=by have w:=(BW m).2.1;unfold ir at w;rw[aa b,ab g] at w;split at w;exact w;rename_i o;exact jZ o
 refine aJ a (hD c) ?_ (p:=p);refine az ?_ (i:=ajs dB Yh c.d_ (k.K.1 c hm).2.2.1 q);refine az ?_ (i:=aor (dB.Dz<|dB.sK c.d_) (Ns (Pt (k.K.1 c hm) v m).1 g) h r);exact ae (w:=by rw[Yg,g,s2];rfl)
attribute [local irreducible] wa
def am7{O:fh}{L:dS}{X:List UInt8}:((¬L.ht/\¬L.text=X)\/(L.ht=true/\¬wa O L.shape.toNat X))↔uh O L X=false:=by unfold uh;by_cases a:L.ht=true<;>simp[a]
theorem aoi(e:gO)(bo:pu e.hc)(c:eE)(b:List (List UInt8))(D:c.path.length<=1048576)(E:b.length<=1048576)(u:Cx e.hc.b_.length c.path)(x:∀X∈b,X.length<=100000000):aA 20 [lZ e,dn c,.f 1 (b.map V.str)] (.bool (qw e.hc c.path b)):=by
 refine aX func20 [] λz C=>?_;apply j<;>intro A;exact ae (w:=by rw[qw,show decide (c.path.length=b.length)=false by simp;omega];rfl);have he:c.path.length=b.length:=v;rw[qw,show decide (c.path.length=b.length)=true by simp[he],s2];refine eH b.length (λa=>st e.hc c.path b=st e.hc (c.path.drop a) (b.drop a)) (λa=>⟨[(2,.f 1<|b.map V.str),(3,g 3),(4,g 4),(7,q a)],[(3,.cell 27<|lZ e),(4,.cell 53<|dn c)],[]⟩) (λa m=>?_) rfl .r;apply j<;>intro B
 .have k:a<b.length:=v;have l:a<c.path.length:=v;have s:=u _<|bZ (M:=(default:dS)) l;have y:=x _<|bZ (M:=(default:List UInt8)) k;refine aJ a (dU<|c.path.getD a default) ?_ (p:=cv l);refine c7 ?_;apply b2;intro _;refine aJ a (.str<|b.getD a default) ?_ (p:=cv k);exact rfl;apply cs;intro _;apply b2;intro o;refine aJ a (.str<|b.getD a default) ?_ (p:=cv k);refine bT ?_ (i:=arC bo (c.path.getD a default).shape (s o).1 (s o).2 (b.getD a default) y);exact rfl;exact rfl;have t:=am7 (O:=e.hc) (L:=c.path.getD a default) (X:=b.getD a default);apply j<;>intro h;exact ae (w:=by rw[m.2,G_ l k,t.1 h];rfl);have h:uh e.hc (c.path.getD a default) (b.getD a default):=by rw[t] at h;simpa using h
  refine aL ?_;exact aB (a+1) ⟨v,by rw[m.2,G_ l k,h,s2]⟩ (bo:=.r)
 exact ae (w:=by rw[m.2,T5 v];rfl)
attribute [local irreducible] qw l7 pA jn xU
theorem aoo(H:gO)(ap:H.gy)(o:List UInt8)(O:o.length<=100000000)(path:List (List UInt8))(Y:path.length<=1048576)(Q:∀R∈path,R.length<=100000000):aA 7 [lZ H,.str o,.f 1 (path.map V.str)] (xU H o path):=by
 refine aX func7 [] λS U=>?_;refine az ?_ (i:=Y2 H ap);apply j<;>intro k;rw[v3 (J:=i3 H) (by rw[kH,ab k]) k];exact vk 2 [7] ae;obtain⟨bo,P⟩:=U9 ap<|jZ k;refine az ?_ (i:=Y4 o O);apply j<;>intro z;rw[v3 (J:=8) (by rw[kH,aa k,ab (by simpa using z)]) aj];exact vk 2 [7] ae;have x:¬l7 pg 10 o=false:=by simpa using z
 apply j<;>intro T;rw[v3 (J:=3) (by rw[kH,aa k,aa x,ab v]) aj];exact vk 2 [7] ae;refine eH path.length (λa=>path.any od=(path.drop a).any od) (λa=>⟨[(1,.str o),(2,.f 1<|path.map V.str),(3,g 3),(10,q a)],[(3,.cell 27<|lZ H)],[]⟩) (λa e=>?_) rfl .r;apply j<;>intro F
 .have t:a<path.length:=v;have y:path.any od=(od (path.getD a default)||(path.drop (a+1)).any od):=by rw[e.2,iO t,uH,cg,bw t];rfl
  refine aJ a (.str<|path.getD a default) ?_ (p:=cv t);apply j<;>intro l;rw[v3 (J:=3) (by rw[kH,aa k,aa x,ab<|.inr (by rw[y,od,oD v];rfl)]) aj];exact vk 2 [7] ae;refine aL ?_;exact aB (a+1) ⟨v,by rw[y,od,FK v];rfl⟩ (bo:=.r)
 have D:¬(10<path.length\/path.any od):=by rw[e.2,iv v];simp;omega
 refine cQ (Nat×Int) (λb=>⟨[(1,.str o),(2,.f 1<|path.map V.str),(3,g 3),(11,.int .i64 b.2),(12,q b.1)],[(3,.cell 27<|lZ H)],[]⟩) (λb=>b.1<=H.ops.length/\b.2=jn H o path b.1) (λb=>H.ops.length-b.1) (0, -1) (λ⟨a,h⟩ e=>?_) ⟨c1 _,by rw[jn]⟩ .r;dsimp only at e⊢;obtain⟨e,c⟩:=e;have X:=ap.len;have L:=RN (H:=H) (o:=o) (path:=path) a;rw[<-c] at L;apply j<;>intro F
 .have A:a<H.ops.length:=v;have B:=bZ (M:=(default:eE)) A;have C:=ap.ops _ B;refine aJ a (dn<|H.ops.getD a default) ?_ (p:=cv A);refine c7 ?_;apply b2;intro _;refine bT ?_ (i:=aoi H bo (H.ops.getD a default) path (cA C.2.2.1 aj) v (P _ B) Q);exact rfl;apply b2;intro l;apply cs;intro G;have s:=yH (H:=H) (o:=o) (path:=path) a (by rw[<-c];omega);rw[<-c] at s;refine aJ h.toNat (dn<|H.ops.getD h.toNat default) ?_ (p:=cv v);refine bT ?_ (i:=aog (H.ops.getD a default) (H.ops.getD h.toNat default) (by rw[AT l.2,AT s.2]) C.2.2.1);exact rfl;exact rfl;apply j<;>intro m;refine aL ?_;exact aB (a+1,(a:Int)) ⟨v,by rw[jn,ab (by rw[<-c];exact m)]⟩ v .r;refine aL ?_;exact aB (a+1,h) ⟨v,by rw[jn,aa (by rw[<-c];exact m)];exact c⟩ v .r
 obtain rfl:a=H.ops.length:=v;apply j<;>intro l;rw[v3 (J:=4) (by rw[kH,aa k,aa x,aa D,ab (by rw[<-c];exact l)]) aj];exact vk 2 [7] ae;have I:kH H o path=0:=by rw[kH,aa k,aa x,aa D,aa (by rw[<-c];exact l)]
 have s:=yH (H:=H) (o:=o) (path:=path) H.ops.length (by rw[<-c];omega);rw[<-c] at s;obtain⟨E,w⟩:∃E,E=(H.ops.getD h.toNat default).path:=⟨_,rfl⟩;have W:E.length=path.length:=by rw[w];exact AT s.2
 refine ay.dI 1014 2 59 [14] none ?_;refine cQ (Nat×List ti) (λb=>⟨[(2,.f 1<|path.map V.str),(3,g 3),(11,.int .i64 h),(14,.d 1014 0 (b.2.map oR).length),(15,q b.1)],[(1014,.n 2 59<|b.2.map oR),(3,.cell 27<|lZ H)],[]⟩) (λb=>b.1<=path.length/\b.2=qN E path b.1) (λb=>path.length-b.1) (0,[]) (λ⟨a,pr⟩ e=>?_) ⟨c1 _,rfl⟩ .r;dsimp only at e⊢;obtain⟨e,u⟩:=e;have K:=Jb (E:=E) (path:=path) a;rw[<-u] at K;apply j<;>intro G
 .have t:a<path.length:=v;refine aJ h.toNat (dn<|H.ops.getD h.toNat default) ?_ (p:=cv v);refine aJ a (dU<|E.getD a default) ?_ (p:=by rw[w];exact cv (by rw[<-w];omega));apply j<;>intro m
  .refine dC ?_;refine a_ (λ_=>aJ a (.str<|path.getD a default) rfl (p:=cv t)) ?_;refine a_ (λ_=>jv rfl) ?_;refine lH ?_;refine jB 104 ((pr++[((E.getD a default).text,path.getD a default)]).map oR) ?_ (ap:=ax) (fC:=.f rfl rfl rfl rfl λM N=>by rw[cV.1 N];rfl) (aG:=p3) (bq:=aK);refine iK [(104,1014)] ?_;refine aL ?_;exact aB (a+1,pr++[((E.getD a default).text,path.getD a default)]) ⟨v,by rw[qN,ab m,u]⟩ v
  refine aL ?_;exact aB (a+1,pr) ⟨v,by rw[qN,aa m,gf,u]⟩ v
 rw[ZC I c.symm (pr:=pr) (by rw[<-w,u,show a=path.length by omega])];exact gB 1014<|ae
end
section
def aaZ(a:List UInt8):aA 9 [.ref 1 [.agg [.f 1 (a.map bh)]] 0 0] (.str a):=by refine aX func9 [] λb c=>?_;exact ak8 a<|ae
def YG{c:List dS}{g:List (List UInt8)}{hN:Nat}(j:∀l∈c,l.text.length<=hN)(k:∀m∈g,m.length<=hN):∀b,∀e∈qN c g b,e.1.length<=hN/\e.2.length<=hN
|0,e,a=>by cases a|b+1,e,a=>by
 rw[qN,ee] at a;rcases a with a|a;exact YG j k b e a;split at a;rw[cV] at a;subst a;constructor;by_cases i:b<c.length;exact j _<|bZ i;have h:c.getD b default=default:=by rw[cg,s6 v];rfl
 show(c.getD b default).text.length<=hN;rw[h];exact c1 _;by_cases i:b<g.length;exact k _<|bZ i;have h:g.getD b default=default:=by rw[cg,s6 v];rfl
 show(g.getD b default).length<=hN;rw[h];exact c1 _;cases a
attribute [local irreducible] i3 kH BQ qT
def aju(e:Int)(a:gO)(l:a.gy)(c:List UInt8)(o:c.length<=100000000)(b:List (List UInt8))(p:b.length<=1048576)(q:∀s∈b,s.length<=100000000)(k:(qT a c b).length<=1000/\∀m∈qT a c b,m.1.length<=1300000/\m.2.length<=1300000):fg a4 (na e) 3 [lZ a,.str c,.f 1 (b.map V.str)] (.bool true):=by refine aX func3 [2004,2008] λt x=>?_;refine c7 ?_;refine bT ?_ (i:=sI e<|amD a l);refine bT ?_ (i:=sI e<|Y2 a l);apply j<;>intro r;exact absurd rfl r;refine lB ⟨[(1,.str c),(2,.f 1<|b.map V.str),(3,g 3),(7,g 21),(8,g 23)],[(3,.cell 27<|lZ a),(21,.cell 34<|.agg [.aQ]),(23,.cell 34<|.agg [.aQ])],[]⟩ ?_;refine ay.dI 1101 1 5 [] (some (21,0)) ?_;refine ay.dI 1102 1 5 [] (some (23,0)) ?_;refine cP ?_;refine az ?_ (i:=sI e<|amJ a l c o b p q);refine az ?_ (i:=sI e<|aoo a l c o b p q);refine bk [(6000,21),(5001,1101)] ?_ (i:=XN e<|Ve (qT a c b) [] aj k.1 k.2 0 rfl);refine bk [(6000,23),(5001,1102)] ?_ (i:=XN e<|Ve (qT a c b) [] aj k.1 k.2 0 rfl);generalize u:([]++lE (qT a c b).length++pc (qT a c b))=h;refine ay.g9 1101 ?_;refine ay.g9 1102 ?_;refine lB ⟨[(7,g 21),(8,g 23),(9,.int .i64<|BQ a c b),(12,.int .i64<|BQ a c b),(11,.int .i64<|kH a c b),(14,.int .i64<|kH a c b)],[(21,.cell 34<|.agg [.f 1 (h.map bh)]),(23,.cell 34<|.agg [.f 1 (h.map bh)])],[]⟩ ?_;refine cP ?_;apply b2;intro _;exact rfl;apply b2;intro _;refine hR ?_ (i:=sI e<|aaZ h);refine hR ?_ (i:=sI e<|aaZ h);exact rfl;apply b2;intro _;refine bT ?_ (i:=ajt e);exact rfl;exact ae (w:=by simp[cO,eg])
end
def aF.start(I:World):aF:=⟨λc e=>match I.cell? ⟨c,e,none⟩ with|some b=>if b.oneCell' then some b else none|none=>none,λ_=>none,λ_=>none,0,λ_ _=>rfl,λc e b a=>by split at a;split at a;rename_i g;simp only[fc] at a;subst a;exact g;cases a;cases a⟩
theorem aF.PE{I:World}{b c:Nat}{a:Value}(g:I.cell? ⟨b,c,none⟩=some a)(e:a.oneCell'):(aF.start I).I b c=some a:=by grind[aF.start]
def aF.aqY{I:World}{a b:Nat}{c:Value}(e:(aF.start I).I a b=some c):I.cell? ⟨a,b,none⟩=some c:=by grind[aF.start]
theorem Holds.start(I:World)(b:List (Nat×V))(c:Nat):Holds ⟨I,λ_=>False,aF.start I,[],b,c⟩ (aF.start I) [] I:=⟨aF.le.refl _,⟨rfl,rfl,rfl,a1 _,λ_ _ _=>rfl⟩,λ_ _ a _=>a,λ_ _ _ a=>.inl a,λ_ _ a=>.inl a,(λ_ _ a=>by cases a),λ_ _ _ a=>aF.aqY a,(λ_ _ _ a=>by cases a),(λ_ _ a=>by cases a),af,(λ_ _ _ _ a=>by cases a),(λ_ _ _ _ _ _ _ a=>by cases a)⟩
def WE{g h:Type}{i:g->Option h}:∀{e:List g}{a:List h},e.mapM i=some a->a.length=e.length|[],a,c=>b|m::e,a,c=>by simp[z3,acw,acx,Option.pure_def,fc] at c;obtain⟨k,_,l,j,rfl⟩:=c;simp[WE j]
section
variable{cY:TypeId×Value->eK}{held:Bool}
def sa(I:World)(e:List V)(b:List Value):Prop:=e.length=b.length/\(∀a∈b,a.oneCell')/\∀(c:Nat)(g:V)(a:Value),e[c]?=some g->b[c]?=some a->aE (aF.start I) g a
theorem sa.one{b:V}{a:Value}(g:aE (aF.start I) b a)(c:a.oneCell'):sa I [b] [a]:=⟨rfl,aM,λi k j h e=>by grind⟩
def LO{e:Addr}{c:Nat}{b:List Value}(g:I.cells? 0 e c=some b):b.length=c/\∀a,a<c->∃h,b[a]?=some h/\I.cell? (e.add a)=some h:=by refine⟨by rw[WE g];simp,λa p=>?_⟩;obtain⟨i,j,k⟩:=Go.Lib.mapM_at g a a aM;simp_all
def QS{c:Type}(cY:TypeId×Value->eK)(T:Program)(I:World)(k:TypeId)(i:c->Prop)(g:c->V):Prop:=∀(h:Nat)(a:List Value)(e:DataW eK)(j:List MemPlace),DataW.trod cY T I 0 (λ_=>true) true h k a=some (e,j)->∃b,i b/\sa I (g b).cells a
def aoZ{e:TypeId}(i:T.underlying e=some .bool):QS cY T I e (λ_=>True) V.bool:=by
 intro b g h j c;cases b with
 |zero=>trivial|succ b=>
  unfold DataW.trod at c;split at c
  all_goals first
   |(rename_i a _;exact⟨a,trivial,.one (.bool a) rfl⟩)|simp_all|simp_all
def ao0{e:TypeId}{b:IntKind}(j:T.underlying e=some (.int b)):QS cY T I e (kZ b) (V.int b):=by intro c h i k a;cases c with|zero=>trivial|succ c=>unfold DataW.trod at a;split at a<;>simp_all;rename_i g _;refine⟨g,?_,.one (.int _ _) rfl⟩;have:=a.1.2;simp[Lit.wf,jD,uR] at this;trivial
structure Frame(kq F6:World):Prop where
 os:F6.os=kq.os
 output:F6.output=kq.output
 size:kq.heap.size<=F6.heap.size
 block:∀F,F<kq.heap.size->F6.heap[F]?=kq.heap[F]?
def Frame.same{a e:World}(h:Frame a e){c:MemPlace}(g:c.block<a.heap.size):a.sameAt e c:=by cases c with|cell b i=>exact World.cell?_of_block (h.block b g)|map b=>exact h.block b g
def Frame.kept{c b:World}(a:Frame c b)(g:MemPlace->Prop):c.keptBut b g:=by refine⟨a.os,a.output,λe p=>?_⟩;rw[a.block e p];grind
def Frame.frozen{a b:World}(g:Frame a b){W c:Nat}(e:W<a.heap.size):b.frozen? ⟨W,c,none⟩=a.frozen? ⟨W,c,none⟩:=by simp[World.frozen?];rw[g.block W e]
theorem aa3(p:laidOutB T){h m:World}(o:Frame h m){t:Nat->Bool}:∀{e:List TypeId}{l:List Value}{i:List (DataW eK)}{b:List MemPlace},(∀g∈e,T.readableRec g/\g<T.types.size)->DataW.TrodAll cY T h 0 (λ_=>true) true e l i b->(∀c∈b,c.block<h.heap.size)->(∀c∈b,t c.block)->DataW.TrodAll cY T m 0 t true e l i b|[],[],[],b,_,j,_,_=>j|g::e,D::l,B::i,b,s,j,q,r=>by obtain⟨c,z,u,w,rfl⟩:=j;refine⟨c,z,?_,aa3 p o (λA C=>s A aM) w (λa k=>q a aM) λa k=>r a aM,rfl⟩;obtain⟨x,y⟩:=s g af;exact Go.WideElems.Trod_stays p x y u (λa k=>o.same<|q a aM) λa k=>r a aM
def ajv{g:Func}{a:ChangeSpec}{p F H D:Bool}{k i:World}{args:Array Value}{c q:List (DataW eK)}{E:List MemPlace}{B:TypeId}(P:laidOutB T)(R:∀C∈g.params.toList,T.readableRec C/\C<T.types.size)(K:a.vars=[])(y:g.resultTypes=#[B])(s:T.underlying B=some .bool)(w:(a.fn eK c).results=[.lit (.bool true)]/\(a.fn eK c).args=c/\(a.fn eK c).vars=[])(l:DataW.Whole cY T g.params.toList a.vars p k args.toList c q E)(u:Frame k i):a.post cY T g p F H D k args (.bool true) i:=by
 have x:=l.lt;have G:=l;obtain⟨h,M,N,O,rfl,ap,I⟩:=l;obtain⟨rfl,rfl⟩:q=[]/\M=[]:=by grind[DataW.TrodVars]
 simp at x ap I G;have r:∀e,(∀j∈h,e j.block)->DataW.TrodAll cY T i 0 e true g.params.toList args.toList (a.fn eK (c++[])).args h:=λe Q=>by grind[aa3]
 have z:∀(W:Nat)(e:Nat->Bool)(t:Bool),DataW.TrodAll cY T i W e t g.resultTypes.toList ((Value.bool _).resultList g.resultTypes.size) (a.fn eK (c++[])).results []:=λW e t=>by rw[gf,w.1,y];exact⟨[],[],Go.RowKit.shut_bool s _,rfl,rfl⟩
 have A:∀e,DataW.TrodVars cY T i e a.vars (a.fn eK (c++[])).vars []:=λe=>by rw[gf,K,w.2.2];rfl
 have J:∀j∈h,(λW=>decide (W<k.heap.size)) j.block:=λj o=>b;refine⟨c,[],h,[],h,[],?_,z _ _ _,r _ J,A _,World.keptBut_mono (λj o=>⟨o,.inr<|.inl o⟩)<|u.kept _,λ_=>?_⟩;omega;refine⟨Go.RowKit.ok_one y rfl<|Go.RowKit.okWide_bool_mk s _,_,_,[]++h++[],⟨[]++h,[],Go.ChangeShapes.trodAll_append (r _ λ_ _=>rfl)<|z _ _ _,A _,rfl,?_,?_⟩,?_⟩;intro W L m;simp at m;rw[u.frozen (W:=W)<|x _ m];exact ap W L m;simp_all;simp_all
def Zk{l:World}{i b:Nat}{k:IntKind}{c:List Int}(r:c.length=b)(p:∀m,m<c.length->l.cell? ⟨i,m,none⟩=some (.int k (c.getD m 0))):aE (aF.start l) (.ref b [.agg (c.map (V.int k))] 0 0) (.pointer (some ⟨i,0,none⟩)):=by
 have s:aE (aF.start l) (.ref b [.agg (c.map (V.int k))] 0 0) (.pointer (some ⟨i,0+0*b+0,none⟩)):=by
  refine .ref b _ 0 0 i 0 (λ_ a=>.int k<|c.getD a 0) ?_ ?_ ?_;grind[V.cells];intro h a o q e g;cases h with
  |zero=>
   simp at e;subst e;have j:=by have:=(dm.1 g).1;simpa[V.cells] using this
   have:=p a j;rw[show 0+0*b+a=a by omega];exact aF.PE this rfl|succ h=>trivial
  intro h a o q e g;cases h with
  |zero=>
   simp at e;subst e;have j:=by have:=(dm.1 g).1;simpa[V.cells] using this
   simp[V.cells,ch,bw j,iP,fc] at g;subst g;rw[cg,bw j];exact .int _ _|succ h=>trivial
 simp_all
def fg.calls{i:List (Nat×V)}{o:FuncId}{k:List V}{r:V}(j:fg T i o k r){b:World}{g:List Value}(u:g.length=k.length)(w:∀(q:Nat)(c:V)(a:Value),k[q]?=some c->g[q]?=some a->aE (aF.start b) c a)(s:∀p c,(p,c)∈i->aE (aF.start b) c (.pointer (some ⟨p,0,none⟩))):Calls T o g.toArray b λm l=>∃a h,m=.returned a/\aE h r a/\Frame b l:=by refine(j _ g b _ u w (Holds.start b i 0) s).mono ?_;rintro m l ⟨a,A,z,h,rfl,⟨rfl,rfl⟩,x,e⟩;exact⟨a,h,rfl,x,e.G.os,e.G.output,e.G.size,λy t=>e.G.block y t λj=>j⟩
def VV{k:String×DataW Unit}{a:List (String×DataW Unit)}(h:laidMet T (k::a) I):laidMet T a I:=by obtain⟨p,⟨o,r,l,m,q,j,_,_,_,_,g,rfl⟩,e,c⟩:=h;exact⟨j,g,(pm.1 e).2.1,λb i hm=>c b i<|uL _ hm⟩
end
section
open Go.Proofs.YtggknbaoaidkiaaGreatDoor
open Go.Lib
section
variable{cY:TypeId×Value->eK}
theorem LH:∀a:DataW eK,1<=Rows.uptoBulk a:=λa=>by cases a with|lit b=>cases b<;>(simp[Rows.uptoBulk])|nil=>simp[Rows.uptoBulk]|_=>simp[Rows.uptoBulk]
def Ax:∀{N:List (DataW eK)}{M:DataW eK},M∈N->Rows.uptoBulk M<=Rows.uptoBulkAll N|[],_,a=>by cases a|b::N,M,a=>by rw[Rows.uptoBulkAll];rcases eT.1 a with rfl|a;omega;have:=Ax a;omega
def aez{N:List Nat}{x:Nat->Nat}{y:Nat->DataW eK}(c:∀a∈N,x a<=Rows.uptoBulk (y a)):(N.map x).sum<=Rows.uptoBulkAll (N.map y):=by induction N with|nil=>simp|cons b N e=>grind[Rows.uptoBulkAll,List.mem_cons_self,List.mem_cons_of_mem]
def hP{c:Type}(cY:TypeId×Value->eK)(T:Program)(I:World)(g:Nat)(m:TypeId)(l:c->Prop)(h:c->Nat)(i:c->V):Prop:=∀(j:Nat)(e:List Value)(a:DataW eK)(k:List MemPlace),Rows.uptoBulk a<=g->DataW.trod cY T I 0 (λ_=>true) true j m e=some (a,k)->∃b,l b/\h b<=Rows.uptoBulk a/\sa I (i b).cells e
def uq{b:Nat}{a:TypeId}(h:T.underlying a=some .bool):hP cY T I b a (λ_=>True) (λ_=>1) V.bool:=λj c e i _ g=>by obtain⟨m,k,l⟩:=aoZ h _ c e i g;grind[LH]
def qQ{c:Nat}{b:TypeId}{a:IntKind}(i:T.underlying b=some (.int a)):hP cY T I c b (kZ a) (λ_=>1) (V.int a):=λk e g j _ h=>by obtain⟨o,l,m⟩:=ao0 i _ e g j h;grind[LH]
def xS{hO:Nat}{h:TypeId}(r:T.underlying h=some .string):hP cY T I hO h (λ_:List UInt8=>True) (λl=>l.length+1) V.str:=by
 intro e m o s _ k;cases e with
 |zero=>trivial|succ e=>
  unfold DataW.trod at k;have p:∀(a:ByteArray)(b:DataW eK)(g:List MemPlace),some (.lit (.string a.data.toList),[])=some (b,g)->∃i:List _,True/\i.length+1<=Rows.uptoBulk b/\sa I (V.str i).cells [Value.string a]:=λa b g c=>by
   injection c with c;injection c with j q;subst j
   refine⟨a.data.toList,trivial,KG ax,.one ?_ rfl⟩;have:=aE.str (S:=aF.start I) a.data.toList;omega
  grind
def xR{A:Type} [Inhabited A]{G:Nat}{P g:TypeId}{E:A->Prop}{s:A->Nat}{m:A->V}{J:Nat}(aj:T.underlying P=some (.slice g))(ah:T.cellsOf g=J)(ap:J≠0)(Y:hP cY T I G g E s m):hP cY T I (G+1) P (λN:List A=>∀e∈N,E e) (λN=>(N.map s).sum+1) (λN=>.f J<|N.map m):=by
 intro ao an M av R ag;subst ah;rcases Go.Deep.open_slice aj ag with⟨rfl,o⟩|⟨C,len,cap,q,al,i,Q,rfl,_,aq,X,hm,o,Z⟩;exact⟨[],af,by simp[LH],.one (.slnil _) rfl⟩;simp only[FL] at hm;subst hm;have L:M=.slice ((List.range len).map i) ((List.range (q-len)).map λb=>i<|len+b):=cW Prod.fst o;have S:∀a,a<q->Rows.uptoBulk (i a)<=G:=λa p=>by rw[L,Rows.uptoBulk] at R;rcases gh a len with y|y;have:=Ax (N:=(List.range len).map i) (M:=i a)<|b4.2 ⟨a,fq.2 y,rfl⟩;omega;have:=Ax (N:=(List.range<|q-len).map λb=>i<|len+b) (M:=i a)<|b4.2 ⟨a-len,fq.2 v,by rw[show len+(a-len)=a by omega]⟩;omega
 have ad:∀a,a<q->∃e k,(E e/\s e<=Rows.uptoBulk (i a))/\I.cells? 0 (C.add (a*T.cellsOf g)) (T.cellsOf g)=some k/\sa I (m e).cells k:=λa p=>by obtain⟨k,h,w⟩:=Z a p;obtain⟨e,j,H,t⟩:=Y al k (i a) (Q a) (S a p) w;grind
 let c:Nat->A:=λa=>if ak:a<q then Classical.choose (ad a ak) else default
 have B:∀a,a<q->∃k,(E (c a)/\s (c a)<=Rows.uptoBulk (i a))/\I.cells? 0 (C.add (a*T.cellsOf g)) (T.cellsOf g)=some k/\sa I (m (c a)).cells k:=λa p=>by grind
 refine⟨(List.range len).map c,λe o=>?_,?_,?_⟩;simp only[b4,fq] at o;obtain⟨a,p,rfl⟩:=o;obtain⟨_,h,_⟩:=B a v;exact h.1;rw[L,Rows.uptoBulk];have:=aez (N:=List.range len) (x:=λa=>s<|c a) (y:=i) λa p=>by obtain⟨_,h,_⟩:=B a (by have:=fq.1 p;omega);exact h.2
 have g:((List.range len).map c).map s=(List.range len).map λa=>s (c a):=by rw[ez];rfl
 show(((List.range len).map c).map s).sum+1<=_;rw[g];omega;refine .one ?_ rfl;by_cases U:q=0;subst U;have:len=0:=v;subst this;exact .sT _ C;obtain⟨D,F,am⟩:=C;have ai:am=none:=by obtain⟨k,_,h,_⟩:=B 0 v;obtain⟨_,w⟩:=LO h;obtain⟨r,_,j⟩:=w 0 v;simp only[wx,Addr.add,FL] at j;unfold World.cell? at j;split at j;split at j;cases j;rename_i t;simpa using t;cases j
 subst ai;have ae:(((List.range len).map c).map m).length=len:=af;have O:aE (aF.start I) (.f (T.cellsOf g) (((List.range len).map c).map m)) (.slice (some ⟨D,F,none⟩) (((List.range len).map c).map m).length q):=by
  have get:∀(b:Nat)(M:V),(((List.range len).map c).map m)[b]?=some M->b<len/\M=m (c b):=by
   intro b M u;have z:b<len:=by have:=(dm.1 u).1;simpa using this
   refine⟨z,?_⟩;simp[z] at u;exact u.symm
  have cell:∀(b l:Nat)(e:V),b<len->(m (c b)).cells[l]?=some e->∃r,I.cell? ⟨D,F+b*T.cellsOf g+l,none⟩=some r/\r.oneCell'/\aE (aF.start I) e r:=by
   intro b l e z o;obtain⟨k,_,h,t⟩:=B b v;obtain⟨w,j⟩:=LO h;have W:l<T.cellsOf g:=by rw[<-w,<-t.1];exact(dm.1 o).1
   obtain⟨r,H,K⟩:=j l W;rw[Addr.add_lit,Addr.add_lit] at K;exact⟨r,K,t.2.1 r<|dh H,t.2.2 l e r o H⟩
  refine .f _ _ D F q (λb l=>(I.cell? ⟨D,F+b*T.cellsOf g+l,none⟩).getD undef) v X ?_ ?_ ?_;intro b M u;obtain⟨z,rfl⟩:=get b M u;obtain⟨k,_,h,t⟩:=B b v;rw[t.1,(LO h).1];grind[aF.PE];intro b l M e u o;obtain⟨z,rfl⟩:=get b M u;obtain⟨r,h,w,j⟩:=cell b l e z o;rw[h];exact j
 rw[ae] at O;exact O
def aoV{h m:List V}{i j:List Value}(b:sa I h i)(g:sa I m j):sa I (h++m) (i++j):=by refine⟨by rw[c_,c_,b.1,g.1],λc a=>?_,λk l c e a=>?_⟩;rcases ee.1 a with a|a;exact b.2.1 c a;exact g.2.1 c a;by_cases p:k<h.length;rw[q0 p] at e;rw[q0 (by rw[<-b.1];exact p)] at a;exact b.2.2 k l c e a;rw[s5 v] at e;rw[s5 (by rw[<-b.1];omega),<-b.1] at a;exact g.2.2 _ l c e a
def F3{e:Type}(cY:TypeId×Value->eK)(T:Program)(I:World)(h:Nat)(k:List (TypeId×Nat))(o m:Nat)(p:e->Prop)(i:e->Nat)(j:e->List V):Prop:=∀(l:Nat)(g:List Value)(b:List (DataW eK×List MemPlace)),Rows.uptoBulkAll (b.map (·.1))<=h->(k.mapM λa=>DataW.trod cY T I 0 (λ_=>true) true l a.1<|(g.drop a.2).take<|T.cellsOf a.1)=some b->∃c,p c/\i c<=Rows.uptoBulkAll (b.map (·.1))/\sa I (j c) ((g.drop o).take m)
def ut{a b:Nat}:F3 cY T I a [] b 0 (λ_:Unit=>True) (λ_=>0) (λ_=>[]):=λe c j _ _=>⟨(),trivial,c1 _,by exact⟨rfl,af,λh k i g=>bB⟩⟩
def gc{g h:Type}{i e m w:Nat}{c:TypeId}{k:List (TypeId×Nat)}{x:g->Prop}{o:g->Nat}{q:g->V}{y:h->Prop}{p:h->Nat}{r:h->List V}(D:hP cY T I i c x o q)(M:T.cellsOf c=m)(E:F3 cY T I i k (e+m) w y p r):F3 cY T I i ((c,e)::k) e (m+w) (λa:g×h=>x a.1/\y a.2) (λa=>o a.1+p a.2) (λa=>(q a.1).cells++r a.2):=by
 intro s j N F b;rw[z3] at b;cases t:DataW.trod cY T I 0 (λ_=>true) true s c ((j.drop e).take<|T.cellsOf c) with
 |none=>simp_all|some H=>
  rw[t] at b;cases u:k.mapM λl=>DataW.trod cY T I 0 (λ_=>true) true s l.1 ((j.drop l.2).take<|T.cellsOf l.1) with
  |none=>simp_all|some G=>
   rw[u] at b;injection b with b;subst b
   obtain⟨C,pl⟩:=H;simp[gU,Rows.uptoBulkAll] at F;obtain⟨z,bu,cG,J⟩:=D _ _ C pl v t;obtain⟨B,A,K,L⟩:=E _ j G v u;refine⟨(z,B),⟨bu,A⟩,by(simp[gU,Rows.uptoBulkAll];omega),?_⟩;simp_all[List.take_add,List.drop_drop,aoV]
def ER(T:Program)(e:TypeId)(c:List (TypeId×Nat)):Bool:=match T.underlying e with|some (.struct b)=>decide (b.toList.map (λa=>(a.type,a.offset))=c)|_=>false
def WF{e:Type}(c:TypeId->Nat->Option e):∀b:List Field,(b.mapM λa=>c a.type a.offset)=(b.map λa=>(a.type,a.offset)).mapM λa=>c a.1 a.2|[]=>rfl|a::b=>by rw[z3,gU,z3,WF c b]
def ur{l:Type}{m s:Nat}{c:TypeId}{j:List (TypeId×Nat)}{t:l->Prop}{p:l->Nat}{q:l->List V}(B:ER T c j)(F:T.cellsOf c=s)(C:F3 cY T I m j 0 s t p q):hP cY T I (m+1) c t (λe=>p e+1) (λe=>.agg<|q e):=by
 intro h b w D y A;obtain⟨g,G,z⟩:∃g,T.underlying c=some (.struct g)/\g.toList.map (λa=>(a.type,a.offset))=j:=by unfold ER at B;grind
 cases h with
 |zero=>trivial|succ h=>
  unfold DataW.trod at A;have i:(if b.length=T.cellsOf c then(g.toList.mapM λa=>DataW.trod cY T I 0 (λ_=>true) true h a.type<|(b.drop a.offset).take<|T.cellsOf a.type).map λk=>(.agg<|k.map (·.1),k.flatMap (·.2)) else none)=some (w,D):=by all_goals simp_all
  rw[WF λo u=>DataW.trod cY T I 0 _ _ _ o<|(b.drop u).take<|T.cellsOf o,z] at i;split at i;cases hm:j.mapM λa=>DataW.trod cY T I 0 (λ_=>true) true h a.1 ((b.drop a.2).take<|T.cellsOf a.1) with|none=>simp_all|some k=>rw[hm] at i;obtain⟨rfl,rfl⟩:=i;rw[Rows.uptoBulk] at y⊢;obtain⟨e,x,E,r⟩:=C _ b k v hm;refine⟨e,x,aK,?_⟩;rw[uI,q1 v] at r;exact r
  trivial
def hP.e1{b c:Type}{i h:Nat}{p:TypeId}{g:b->Prop}{j:b->Nat}{l:b->V}{o:c->Prop}{k:c->Nat}{m:c->V}(w:hP cY T I i p g j l)(e:b->c)(s:h<=i)(E:∀a,g a->o (e a))(C:∀a,g a->k (e a)<=j a)(D:∀a,(m (e a)).cells=(l a).cells):hP cY T I h p o k m:=λy q r x t u=>by obtain⟨a,z,A,B⟩:=w _ q r x (cA t s) u;grind
end
end
section
open Go.Lib
def m1:Tryz.prog.underlying 3=some (.int .i64):=af
def pX:Tryz.prog.underlying 4=some .bool:=af
def wb:Tryz.prog.underlying 9=some .string:=af
def arY:Tryz.prog.underlying 22=some (.slice 66):=af
def aa4:Tryz.prog.underlying 28=some (.slice 9):=af
def ar3:Tryz.prog.underlying 63=some (.slice 113):=af
def u64:Tryz.prog.underlying 64=some (.slice 3):=af
def ar4:Tryz.prog.underlying 50=some (.slice 136):=af
def fI:Tryz.prog.cellsOf 3=1:=bL
def lp:Tryz.prog.cellsOf 4=1:=bL
def yK:Tryz.prog.cellsOf 9=1:=bL
def aeC:Tryz.prog.cellsOf 22=1:=bL
def R6:Tryz.prog.cellsOf 24=2:=bL
def R7:Tryz.prog.cellsOf 70=3:=bL
def aeG:Tryz.prog.cellsOf 63=1:=bL
def aeH:Tryz.prog.cellsOf 64=1:=bL
def R9:Tryz.prog.cellsOf 50=1:=bL
def R_:Tryz.prog.cellsOf 66=13:=bL
def R4:Tryz.prog.cellsOf 136=3:=bL
def LK:Tryz.prog.cellsOf 111=5:=bL
def R5:Tryz.prog.cellsOf 113=11:=bL
def ba.dt(a:ba):Nat:=a.a9.length+1
def jE.dt(a:jE):Nat:=a.n.a9.length+3
def eP.dt(a:eP):Nat:=a.low.n.a9.length+a.high.n.a9.length+6
def gr.dt(a:gr):Nat:=a.name.length+3
def dH.dt(a:dH):Nat:=(a.cN.map eP.dt).sum+a.d_.length+a.du.length+(a.bD.map gr.dt).sum+8
def fh.dt(a:fh):Nat:=(a.b_.map dH.dt).sum+1
def aaH:∀a:List Int,a.length<=(a.map λ_=>1).sum|[]=>a1 _|b::a=>by have:=aaH a;(simp;omega)
section
variable{cY:TypeId×Value->eK}
def aoF(b:Nat):hP cY a4 I b 70 (λ_:ba=>True) ba.dt bx:=(ur bL R7<|gc (uq pX) lp<|gc (xS wb) yK<|gc (qQ m1) fI ut).e1
 (λa=>⟨a.1,a.2.1,a.2.2.1⟩) (jj b) (λ_ _=>trivial) (λa _=>by show a.2.1.length+1<=1+(a.2.1.length+1+(1+0))+1;omega) λ_=>rfl
def Y7(b:Nat):hP cY a4 I b 111 (λ_:jE=>True) jE.dt AJ:=(ur bL LK<|gc (uq pX) lp<|gc (uq pX) lp<|gc (aoF b) R7 ut).e1
 (λa=>⟨a.1,a.2.1,a.2.2.1⟩) (jj b) (λ_ _=>trivial) (λa _=>by show a.2.2.1.a9.length+3<=1+(1+(a.2.2.1.a9.length+1+0))+1;omega) λ_=>rfl
def aoP(b:Nat):hP cY a4 I b 113 (λ_:eP=>True) eP.dt qq:=(ur bL R5<|gc (Y7 b) LK<|gc (Y7 b) LK<|gc (uq pX) lp ut).e1
 (λa=>⟨a.1,a.2.1,a.2.2.1⟩) (jj b) (λ_ _=>trivial) (λa _=>by show a.1.n.a9.length+a.2.1.n.a9.length+6<=a.1.n.a9.length+3+(a.2.1.n.a9.length+3+(1+0))+1;omega) λ_=>rfl
def aoB(b:Nat):hP cY a4 I b 136 (λ_:gr=>True) gr.dt cS:=(ur bL R4<|gc (xS wb) yK<|gc (qQ m1) fI<|gc (uq pX) lp ut).e1
 (λa=>⟨a.1,a.2.1,a.2.2.1⟩) (jj b) (λ_ _=>trivial) (λa _=>by show a.1.length+3<=a.1.length+1+(1+(1+0))+1;omega) λ_=>rfl
def aoQ(a:Nat):hP cY a4 I a 63 (λ_:List eP=>True) (λb=>(b.map eP.dt).sum+1) (λb=>.f 11<|b.map qq):=(xR ar3 R5 aj<|aoP a).e1 id (jj a) (λ_ _=>trivial) (λ_ _=>a1 _) λ_=>rfl
def aoE(b:Nat):hP cY a4 I b 64 (λ_:List Int=>True) (λa=>a.length+1) (λa=>.f 1<|a.map eB):=(xR u64 fI aj<|qQ m1).e1 id (jj b) (λ_ _=>trivial) (λa _=>Nat.succ_le_succ<|aaH a) λ_=>rfl
def Y8(a:Nat):hP cY a4 I a 50 (λ_:List gr=>True) (λb=>(b.map gr.dt).sum+1) (λb=>.f 3<|b.map cS):=(xR ar4 R4 aj<|aoB a).e1 id (jj a) (λ_ _=>trivial) (λ_ _=>a1 _) λ_=>rfl
def aoR(b:Nat):hP cY a4 I b 28 (λ_:List (List UInt8)=>True) (λa=>(a.map λc=>c.length+1).sum+1) (λa=>.f 1<|a.map V.str):=(xR aa4 yK aj<|xS wb).e1 id (jj b) (λ_ _=>trivial) (λ_ _=>a1 _) λ_=>rfl
def aoN(b:Nat):hP cY a4 I b 66 (λ_:dH=>True) dH.dt hD:=(ur bL R_
 (gc (uq pX) lp<|gc (qQ m1) fI<|gc (aoQ b) aeG<|gc (uq pX) lp<|gc (xS wb) yK<|gc (uq pX) lp<|gc (aoE b) aeH<|gc (qQ m1) fI<|gc (qQ m1) fI<|gc (qQ m1) fI<|gc (uq pX) lp<|gc (Y8 b) R9<|gc (qQ m1) fI ut)).e1
 (λa=>⟨a.1,a.2.1,a.2.2.1,a.2.2.2.1,a.2.2.2.2.1,a.2.2.2.2.2.1,a.2.2.2.2.2.2.1,a.2.2.2.2.2.2.2.1,a.2.2.2.2.2.2.2.2.1,a.2.2.2.2.2.2.2.2.2.1,a.2.2.2.2.2.2.2.2.2.2.1,a.2.2.2.2.2.2.2.2.2.2.2.1,a.2.2.2.2.2.2.2.2.2.2.2.2.1⟩) (jj b) (λ_ _=>trivial)
 (λa _=>by(simp[dH.dt];omega)) λ_=>rfl
def aoO(a:Nat):hP cY a4 I a 22 (λ_:List dH=>True) (λb=>(b.map dH.dt).sum+1) (λb=>.f 13<|b.map hD):=(xR arY R_ aj<|aoN a).e1 id (jj a) (λ_ _=>trivial) (λ_ _=>a1 _) λ_=>rfl
def aoM(b:Nat):hP cY a4 I b 24 (λ_:fh=>True) fh.dt qp:=(ur bL R6<|gc (aoO b) aeC<|gc (qQ m1) fI ut).e1
 (λa=>⟨a.1,a.2.1⟩) (jj b) (λ_ _=>trivial) (λa _=>by show(a.1.map _).sum+1<=(a.1.map _).sum+1+(1+0)+1;omega) λ_=>rfl
end
theorem BZ{b:Type}{a:List b}{x:b->Nat}{c:b}(e:c∈a):x c<=(a.map x).sum:=by induction a with|nil=>cases e|cons g a h=>grind
def xY{a:Type}{N:List a}{x:a->Nat}{t:Nat}(e:∀b,t<=x b):t*N.length<=(N.map x).sum:=by induction N with|nil=>simp|cons c N g=>grind[List.length_cons,Nat.mul_add]
def aaq(a:eP):a.dt=a.low.n.a9.length+a.high.n.a9.length+6:=rfl
theorem Mk(a:gr):a.dt=a.name.length+3:=rfl
def apY{b:fh}(h:b.dt<=1048576):b.gy/\∀a∈b.b_,∀x∈a.bD,x.name.length<=2000000:=by
 unfold fh.dt at h;have c:∀a∈b.b_,a.dt<=1048575:=λa c=>by grind[BZ,dH.dt]
 have m:=xY (N:=b.b_) (x:=dH.dt) (t:=8) λa=>by simp[dH.dt]
 refine⟨⟨λa hm=>?_,v⟩,λa hm x l=>?_⟩;have g:=c a hm;unfold dH.dt at g;have j:=xY (N:=a.cN) (x:=eP.dt) (t:=6) λe=>by simp[aaq]
 have k:=xY (N:=a.bD) (x:=gr.dt) (t:=3) λe=>by simp[Mk]
 refine⟨λe i=>?_,v,v,v,v⟩;have:=BZ (x:=eP.dt) i;rw[aaq] at this;exact⟨v,v⟩;grind[dH.dt,BZ,gr.dt,Mk]
end
section
open Go.Proofs.YtggknbaoaidkiaaGreatDoor
open Go.Lib Go.ChangeShapes Go.WideShapes Go.ChangeAt Go.RowKit
def asc:Tryz.prog.underlying 25=some (.slice 53):=af
def asd:Tryz.prog.underlying 49=some (.slice 57):=af
def ase:Tryz.prog.underlying 51=some (.slice 83):=af
def af5:Tryz.prog.cellsOf 25=1:=bL
def af6:Tryz.prog.cellsOf 27=3:=bL
def af9:Tryz.prog.cellsOf 49=1:=bL
def af_:Tryz.prog.cellsOf 51=1:=bL
def SR:Tryz.prog.cellsOf 53=6:=bL
def SS:Tryz.prog.cellsOf 57=3:=bL
def SU:Tryz.prog.cellsOf 83=2:=bL
def dS.dt(a:dS):Nat:=a.text.length+3
def eE.dt(a:eE):Nat:=a.name.length+a.method.length+(a.path.map dS.dt).sum+(a.query.map gr.dt).sum+(a.j5.map λ_=>2).sum+6
def gO.dt(a:gO):Nat:=a.hc.dt+(a.ops.map eE.dt).sum+2
section
variable{cY:TypeId×Value->eK}
def aoI(b:Nat):hP cY a4 I b 57 (λ_:dS=>True) dS.dt dU:=(ur bL SS<|gc (xS wb) yK<|gc (uq pX) lp<|gc (qQ m1) fI ut).e1
 (λa=>⟨a.1,a.2.1,a.2.2.1⟩) (jj b) (λ_ _=>trivial) (λa _=>by show a.1.length+3<=(a.1.length+1)+(1+(1+0))+1;omega) λ_=>rfl
def aoK(b:Nat):hP cY a4 I b 83 (λ_:wK=>True) (λ_=>2) sn:=(ur bL SU<|gc (qQ m1) fI<|gc (qQ m1) fI ut).e1
 (λa=>⟨a.1,a.2.1⟩) (jj b) (λ_ _=>trivial) (λa _=>by show 2<=1+(1+0)+1;omega) λ_=>rfl
def aoJ(a:Nat):hP cY a4 I a 49 (λ_:List dS=>True) (λb=>(b.map dS.dt).sum+1) (λb=>.f 3<|b.map dU):=(xR asd SS aj<|aoI a).e1 id (jj a) (λ_ _=>trivial) (λ_ _=>a1 _) λ_=>rfl
def aoL(a:Nat):hP cY a4 I a 51 (λ_:List wK=>True) (λb=>(b.map λ_=>2).sum+1) (λb=>.f 2<|b.map sn):=(xR ase SU aj<|aoK a).e1 id (jj a) (λ_ _=>trivial) (λ_ _=>a1 _) λ_=>rfl
def aoG(b:Nat):hP cY a4 I b 53 (λ_:eE=>True) eE.dt dn:=(ur bL SR<|gc (xS wb) yK<|gc (xS wb) yK<|gc (aoJ b) af9<|gc (Y8 b) R9<|gc (qQ m1) fI<|gc (aoL b) af_ ut).e1
 (λa=>⟨a.1,a.2.1,a.2.2.1,a.2.2.2.1,a.2.2.2.2.1,a.2.2.2.2.2.1⟩) (jj b) (λ_ _=>trivial) (λa _=>by(simp[eE.dt];omega)) λ_=>rfl
def aoH(a:Nat):hP cY a4 I a 25 (λ_:List eE=>True) (λb=>(b.map eE.dt).sum+1) (λb=>.f 6<|b.map dn):=(xR asc SR aj<|aoG a).e1 id (jj a) (λ_ _=>trivial) (λ_ _=>a1 _) λ_=>rfl
def aoC(b:Nat):hP cY a4 I b 27 (λ_:gO=>True) gO.dt lZ:=(ur bL af6<|gc (aoM b) R6<|gc (aoH b) af5 ut).e1
 (λa=>⟨a.1,a.2.1⟩) (jj b) (λ_ _=>trivial) (λa _=>by show a.1.dt+(a.2.1.map eE.dt).sum+2<=a.1.dt+((a.2.1.map eE.dt).sum+1+0)+1;omega) λ_=>rfl
end
theorem aiF{H:gO}(k:H.dt<=1048576):H.gy/\∀a∈H.ops,∀h∈a.path,h.text.length<=1048576:=by
 unfold gO.dt at k;have g:∀a∈H.ops,a.dt<=1048576:=λa b=>by have:=BZ (x:=eE.dt) b;omega
 have o:=xY (N:=H.ops) (x:=eE.dt) (t:=6) λp=>by simp[eE.dt]
 refine⟨⟨(apY v).1,v,λa b=>?_⟩,λa b h j=>?_⟩;have c:=g a b;unfold eE.dt at c;have e:=xY (N:=a.path) (x:=dS.dt) (t:=3) λi=>by simp[dS.dt]
 have l:=xY (N:=a.query) (x:=gr.dt) (t:=3) λi=>by simp[Mk]
 have m:=xY (N:=a.j5) (x:=λ_=>2) (t:=2) λi=>a1 _;exact⟨v,v,v,v,v⟩;have c:=g a b;unfold eE.dt at c;have e:=BZ (x:=dS.dt) j;unfold dS.dt at e c;omega
def aq7{N:List (List UInt8)}(g:(N.map λa=>a.length+1).sum+1<=1048576):N.length<=1000000+48576/\∀b∈N,b.length<=1048576:=by have e:=xY (N:=N) (x:=λa=>a.length+1) (t:=1) λh=>v;refine⟨v,λb c=>?_⟩;have:=BZ (x:=λa:List UInt8=>a.length+1) c;omega
theorem apx{H:gO}{o:List UInt8}{path:List (List UInt8)}(h:∀j∈H.ops,∀k∈j.path,k.text.length<=1048576)(i:∀l∈path,l.length<=1048576):(qT H o path).length<=1000/\∀b∈qT H o path,b.1.length<=1300000/\b.2.length<=1300000:=by unfold qT;split;rename_i a;unfold kH at a;split at a;rename_i e;exact absurd a e;split at a;cases a;split at a;cases a;rename_i e;split at a;cases a;rename_i m;have g:=(yH (H:=H) (o:=o) (path:=path) H.ops.length v).1;have p:=Jb (E:=(H.ops.getD (jn H o path H.ops.length).toNat default).path) (path:=path) path.length;refine⟨v,λb c=>?_⟩;have:=YG (hN:=1048576) (h _<|bZ g) i _ b c;omega;exact⟨aj,λb c=>by cases c⟩
end
section
open Go.Proofs.YtggknbaoaidkiaaGreatDoor
open Go.Lib Go.ChangeShapes Go.WideShapes Go.ChangeAt Go.RowKit
def UC:Tryz.prog.globalNamed "internal/strconv.uint64pow10" =some 0:=ax
def UD:Tryz.prog.globalNamed "math/bits.deBruijn64tab" =some 2:=ax
def ah3:(Tryz.prog.globals[0]?).map (·.type)=some 287:=ax
def ah4:(Tryz.prog.globals[2]?).map (·.type)=some 367:=ax
def ar1:Tryz.prog.underlying 287=some (.array 20 178):=af
def ar2:Tryz.prog.underlying 367=some (.array 64 5):=af
def arZ:Tryz.prog.underlying 178=some (.int .u64):=af
def PS:Tryz.prog.underlying 5=some (.int .u8):=af
def aeE:Tryz.prog.cellsOf 287=20:=bL
def aeF:Tryz.prog.cellsOf 367=64:=bL
def aeD:Tryz.prog.cellsOf 178=1:=bL
def R8:Tryz.prog.cellsOf 5=1:=bL
def aro{a:World}(c:laidMetH a4 Rows.schemaRouteMatchesSpecUptoRow.laid a):Lib.TabIs a4 a "math/bits.deBruijn64tab" .u8 AD/\Lib.TabIs a4 a "internal/strconv.uint64pow10" .u64 IQ:=by have b:=VV c;exact⟨Lib.tabIs_of_head UD ah4 ar2 PS R8 aeF b,Lib.tabIs_of_head UC ah3 ar1 arZ aeD aeE<|VV b⟩
theorem apb{j:World}{h:Nat}{e:IntKind}{g:Int}(l:j.cell? ⟨h,0,none⟩=some (.int e g)):aE (aF.start j) (.ref 1 [.int e g] 0 0) (.pointer (some ⟨h,0,none⟩)):=by
 have:=aE.ref 1 [.int e g] 0 0 h 0 (λ_ _=>.int e g) (λb k a=>by
  cases b with|zero=>simp at a;subst a;rfl|succ b=>trivial) (λb c k m a i=>by
  cases b with
  |zero=>simp at a;subst a;cases c with|zero=>exact aF.PE l rfl|succ c=>trivial
  |succ b=>trivial) (λb c k m a i=>by
  cases b with
  |zero=>simp at a;subst a;cases c with|zero=>simp[V.cells] at i;subst i;exact .int _ _|succ c=>trivial
  |succ b=>trivial)
 omega
def ahX{a:World}{h:Int}(k:laidMetH a4 Rows.schemaRouteMatchesSpecUptoRow.laid a)(l:a.cell? ⟨5,0,none⟩=some (.int .i64 h)):∀b e,(b,e)∈na h->aE (aF.start a) e (.pointer (some ⟨b,0,none⟩)):=by obtain⟨i,j⟩:=aro k;intro b e g;simp[na,eT,h2,or_false] at g;rcases g with⟨rfl,rfl⟩|⟨rfl,rfl⟩|⟨rfl,rfl⟩;exact Zk aj λc p=>j.cell UC c p;exact Zk aj λc p=>i.cell UD c p;grind[apb]
def ajq:laidOutB a4:=bL
def Pl:Tryz.prog.readableRec 27/\Tryz.prog.readableRec 9/\Tryz.prog.readableRec 28:=⟨bL,bL,bL⟩
def NM:27<Tryz.prog.types.size/\9<Tryz.prog.types.size/\28<Tryz.prog.types.size:=⟨tf af,tf af,tf af⟩
def aoz{T:Program}{eK:Type}{k:Type}{cY:TypeId×Value->eK}{c:World}{b:TypeId}{o:List (TypeId×Nat)}{q:k->Prop}{l:k->Nat}{j:k->List V}(z:ER T b o)(B:∀r,hP cY T c r b q l (λa=>.agg<|j a)){i:Value}{e:DataW eK}{p:List MemPlace}(x:Value.okWide T c .any 0 b i)(w:DataW.Trod cY T c 0 (λ_=>true) true b i e p):∃a,q a/\l a<=Rows.uptoBulk e/\aE (aF.start c) (.agg (j a)) i:=by
 obtain⟨g,A,_⟩:∃g,T.underlying b=some (.struct g)/\g.toList.map (λm=>(m.type,m.offset))=o:=by unfold ER at z;grind
 obtain⟨s,rfl,_⟩:=okWide_struct A x;obtain⟨C,y⟩:=w;obtain⟨a,t,u,h⟩:=B _ _ _ e p (a1 _) y;refine⟨a,t,u,?_⟩;have:=aE.agg (j a) s.toList h.1 h.2.1 h.2.2;omega
def aoD{eK:Type}{cY:TypeId×Value->eK}{c:World}(b:Nat):hP cY a4 c b 27 (λ_:gO=>True) gO.dt (λa=>.agg [.f 13 (a.hc.b_.map hD),.int .i64 a.hc.root,.f 6<|a.ops.map dn]):=aoC b
def aqW:ER a4 27 [(24,0),(25,2)]:=bL
def aoS{eK:Type}{cY:TypeId×Value->eK}{a:World}{b:Value}{c:DataW eK}{g:List MemPlace}(i:Value.okWide a4 a .any 0 27 b)(h:DataW.Trod cY a4 a 0 (λ_=>true) true 27 b c g):∃e:gO,True/\e.dt<=Rows.uptoBulk c/\aE (aF.start a) (lZ e) b:=@aoz _ eK gO cY a 27 _ _ _ _ aqW aoD b c g i h
def aoT{eK:Type}{cY:TypeId×Value->eK}{c:World}{e:Value}{a:DataW eK}{g:List MemPlace}(l:Value.okWide a4 c .any 0 9 e)(k:DataW.Trod cY a4 c 0 (λ_=>true) true 9 e a g):∃b:List UInt8,b.length+1<=Rows.uptoBulk a/\aE (aF.start c) (.str b) e:=by obtain⟨o,rfl⟩:=okWide_string wb l;obtain⟨m,j⟩:=k;obtain⟨b,_,h,i⟩:=xS (hO:=Rows.uptoBulk a) wb _ _ a g (a1 _) j;exact⟨b,h,i.2.2 0 _ _ rfl rfl⟩
def aoU{eK:Type}{cY:TypeId×Value->eK}{a:World}{e:Value}{b:DataW eK}{h:List MemPlace}(c:Value.okWide a4 a .any 0 28 e)(l:DataW.Trod cY a4 a 0 (λ_=>true) true 28 e b h):∃g:List (List UInt8),(g.map λc=>c.length+1).sum+1<=Rows.uptoBulk b/\aE (aF.start a) (.f 1<|g.map V.str) e:=by obtain⟨p,len,cap,rfl⟩:=okWide_slice aa4 c;obtain⟨o,k⟩:=l;obtain⟨m,_,i,j⟩:=aoR _ _ _ b h (a1 _) k;exact⟨m,i,j.2.2 0 _ _ rfl rfl⟩
def afX(eK:Type)(cY:TypeId×Value->eK)(a:World)(args:Array Value)(m c:List (DataW eK))(x:List MemPlace)(k:∀(r:Nat) e b,Tryz.f3.params[r]?=some e->args[r]?=some b->Value.okWide a4 a .any 0 e b)(p:DataW.Whole cY a4 Tryz.f3.params.toList Rows.schemaRouteMatchesSpecSpec.vars false a args.toList m c x)(G:Rows.uptoSmall eK (m++c))(D:laidMetH a4 Rows.schemaRouteMatchesSpecUptoRow.laid a)(K:a.ShapedOpen a4):Calls a4 3 args a λo l=>∃b,o=.returned b/\Rows.schemaRouteMatchesSpecSpec.post cY a4 Tryz.f3 false true false false a args b l:=by have E:=p;have ah:=tf G;obtain⟨av,aA,C,ae,rfl,ai,aj⟩:=p;have B:=C;obtain⟨t,aF,g,W,an,aw,ag,rfl,rfl,y,O⟩:=trodAll_cons B;obtain⟨u,aG,h,X,ao,ay,rfl,rfl,rfl,z,P⟩:=trodAll_cons O;obtain⟨w,aH,i,Y,aq,az,rfl,rfl,rfl,A,Q⟩:=trodAll_cons P;obtain⟨rfl,rfl,rfl⟩:=trodAll_nil Q;obtain rfl:args=#[t,u,w]:=aM;obtain⟨L,hm⟩:=Tryz.ajT.s1_3 a K;obtain⟨H,_,aB,aC⟩:=aoS (k 0 27 t rfl rfl) y;obtain⟨mt,aD,aE⟩:=aoT (k 1 9 u rfl rfl) z;obtain⟨s,Z,ad⟩:=aoU (k 2 28 w rfl rfl) A;have S:=Ax (N:=[g,h,i]++c) (M:=g) af;have T:=Ax (N:=[g,h,i]++c) (M:=h) af;have U:=Ax (N:=[g,h,i]++c) (M:=i) af;obtain⟨ap,I⟩:=aiF (H:=H) v;obtain⟨ak,q⟩:=aq7 (N:=s) v;refine((aju L H ap mt v s v (λe j=>by have:=q e j;omega)<|apx I q).calls rfl (λH aI b am al=>?_)<|ahX D hm).mono ?_;grind;rintro o l ⟨b,R,rfl,J,F⟩;cases J;exact⟨_,rfl,ajv ajq (λe j=>by simp at j;rcases j with rfl|rfl|rfl;exact⟨Pl.1,NM.1⟩;exact⟨Pl.2.1,NM.2.1⟩;exact⟨Pl.2.2,NM.2.2⟩) rfl ax pX ⟨rfl,rfl,rfl⟩ E F⟩
end
