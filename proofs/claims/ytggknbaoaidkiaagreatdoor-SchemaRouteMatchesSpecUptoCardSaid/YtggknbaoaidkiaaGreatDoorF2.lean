import Derived.Test.YtggknbaoaidkiaaGreatDoorF1
set_option linter.all false
set_option maxHeartbeats 8000000
set_option maxRecDepth 100000
open Go.Proofs Go.Proofs.Tryz
open Go.Proofs.Tryz renaming prog->a4
namespace Go.ey
variable{ops:Array Oper}{J:Bool}{t:Code}{e:Exit->am->Prop}{c4 Rd:List Nat}{N bK:List Oper}{ak:List V}{M Y A:Nat}{an:bn}{P:Oper}{R:aw}{O:am}{F:am->Prop}{bm:Type}{X:TypeId}
section
variable{T:Program}{z:bV}{s:a2}{m:List (Nat×V)}{o:Nat}{F:V->Prop}{D:V}
def g3(b:s.G=m)(c:dp m){Z:Operand}{M:V}(w:val m O.h Z=some M)(e:Z∈P.op.operands.toList)u{ad:bd}:(⟨cR P (cj u O.h),ad⟩:aw).val s Z=some (M.a u):=by grind[uB,cR,wc,vZ]
def gn(b:s.G=m)(c:dp m){Z:Operand}{M:V}(w:val m O.h Z=some M)u:(O.a u).val s Z=some (M.a u):=uB (b▸c)<|b.symm▸w
theorem c2.lA(w:e2 T z->s.G=m->dp m->∀u,cb T s P ⟨cR P (cj u O.h),(O.a u).l⟩ (D.a u))(b:F D):c2 T z s m false P O F:=⟨D,λg c e u ad i=>by simp_all,b⟩
def cz{X J q:TypeId}{o:b0}{Z k:Operand}{b l:Nat}{xs:List V}{h_:IntKind}{Y:Int}a(y:F (.cU b a 0))(j:P.op=.indexAddr X Z k:=by rfl)(B:eU z X (.slice J):=by exact fe)(w:z.find J=some o:=by rfl)(C:val m O.h Z=some (.d b 0 l):=by rfl)(t:bI O.c b=some (.n o.size q xs):=by rfl)(x:val m O.h k=some (.int h_ Y):=by rfl)(av:Y=(a:Int):=by first|rfl|omega)(p:a<l:=by exact r1):c2 T z s m false P O F:=.lA (λi e g u=>by obtain⟨_,_,r⟩:=B.dO i;obtain⟨A,aI⟩:=iw _ t;have:=Jc r (i.find w).K j (g3 e g C (by rw[j];simp[Op.operands]) u) aI (g3 e g x (by grind[Op.operands]) u) av p;rw[kk] at this;trivial) y
def N9{X J p:TypeId}{o:b0}{Z j:Operand}{b l k:Nat}{xs:List V}{h_:IntKind}{Y:Int}a(y:F (.cU b (l+a) 0))(C:P.op=.indexAddr X Z j:=by rfl)(D:eU z X (.slice J):=by exact fe)(t:z.find J=some o:=by rfl)(E:val m O.h Z=some (.d b l k):=by rfl)(r:bI O.c b=some (.n o.size p xs):=by rfl)(x:val m O.h j=some (.int h_ Y):=by rfl)(B:Y=(a:Int):=by first|rfl|omega)(w:a<k:=by exact r1):c2 T z s m false P O F:=.lA (λi e g u=>by obtain⟨_,_,q⟩:=D.dO i;obtain⟨A,aI⟩:=iw _ r;exact Jc q (i.find t).K C (g3 e g E (by grind[Op.operands]) u) aI (g3 e g x (by grind[Op.operands]) u) B w) y
def ft{X J:TypeId}{e:b0}{Z:Operand}{q o t K:Nat}{xs:List V}i(C:F D)(g:P.op=.load X Z:=by rfl)(G:z.find X=some e:=by rfl)(H:val m O.h Z=some (.cU q o t):=by rfl)(B:bI O.c q=some (.n K J xs):=by rfl)(p:xs[o]?=some i:=by exact Da)(aR:oo i.cells t e.size e.agg=some D:=by rfl)(E:D.plain:=by rfl):c2 T z s m false P O F:=.lA (λy w x u=>by let aI:=y.find G;let⟨A,j⟩:=iw (u:=u) O.l B;rw[V.eC E];let k:=g3 w x H (by rw[g];simp[Op.operands]) u (ad:=(O.a u).l);cases b:e.agg with|true=>rw[b] at aR;obtain⟨rfl,r⟩:=BE aR;exact OE (aI.yA b) g k j p rfl r|false=>rw[b] at aR;exact Ei (aI.e6<|aI.pb b) (aI.hs.resolve_left aM) g k j p (BF aR).1) C
def xD{X J B:TypeId}{w:b0}{Z:Operand}{t r:Option Operand}{k q j:Nat}{xs:List V}{y x:Int}(b a p o:Nat)(H:F (.d k p o))(I:P.op=.slice X Z t r none:=by rfl)(M:eU z X (.slice J):=by exact fe)(E:z.find J=some w:=by rfl)(i:val m O.h Z=some (.d k q j):=by rfl)(D:bI O.c k=some (.n w.size B xs):=by rfl)(bq:pz m O.h t 0=some y:=by rfl)(G:pz m O.h r j=some x:=by rfl)(Q:y=(b:Int):=by first|rfl|omega)(N:x=(a:Int):=by first|rfl|omega)(C:b<=a:=by omega)(dX:a<=j:=by exact r1)(L:p=q+b:=by first|rfl|omega)(MN:o=a-b:=by first|rfl|omega):c2 T z s m false P O F:=.lA (λl e g u=>by subst L MN;obtain⟨_,_,bu⟩:=M.dO l;obtain⟨A,aI⟩:=iw _ D;exact am2 bu (l.find E).K I (g3 e g i (by grind[Op.operands]) u) aI (sd e g bq Q λZ i=>by grind[Op.operands]) (sd e g G N λZ i=>by grind[Op.operands]) C dX) H
def Bl{q l J r:TypeId}{i b j:b0}{Z:Operand}{o p g:Nat}{xs:List V}a(K:F (.str a))(L:P.op=.convert q l Z:=by rfl)(M:z.find q=some i:=by rfl)(H:z.find l=some b:=by rfl)(t:i.d=.slice J:=by rfl)(w:b.d=.string:=by rfl)(x:i.R=false:=by rfl)(y:b.R=false:=by rfl)(I:z.find J=some j:=by rfl)(B:j.d=.int .u8:=by rfl)(C:j.R=false:=by rfl)(N:val m O.h Z=some (.d o p g):=by rfl)(G:bI O.c o=some (.n 1 r xs):=by rfl)(hlen:g=a.length:=by first|rfl|simp)(a0:(xs.drop p).take g=a.map bh:=by first|rfl|simp):c2 T z s m false P O F:=.lA (λe D E u=>by let bu:=(e.find M).e6 x;let cG:=(e.find H).e6 y;let k:=(e.find I).e6 C;rw[t] at bu;rw[w] at cG;rw[B] at k;obtain⟨A,aI⟩:=iw _ G;exact amM bu k cG L (g3 D E N (by grind[Op.operands]) u) aI hlen a0) K
def ak8{k j J:TypeId}{c a e:b0}{Z:Operand}{G:Bool}i(B:F (.str i))(C:P.op=.convert k j Z:=by rfl)(D:z.find k=some c:=by rfl)(y:z.find j=some a:=by rfl)(l:c.d=.slice J:=by rfl)(o:a.d=.string:=by rfl)(p:c.R=false:=by rfl)(q:a.R=false:=by rfl)(A:z.find J=some e:=by rfl)(r:e.d=.int .u8:=by rfl)(t:e.R=false:=by rfl)(E:val m O.h Z=some (.f 1<|i.map bh):=by rfl):c2 T z s m G P O F:=.of rfl (λb w x u ad=>by let bu:=(b.find D).e6 p;let cG:=(b.find y).e6 q;let g:=(b.find A).e6 t;rw[l] at bu;rw[o] at cG;rw[r] at g;exact amN bu g cG C<|fp w x E (by grind[Op.operands]) rfl) B
end
section
variable{T:Program}{s:a2}{u:bn}
def aH.WW{O:am}{B L:bt}{D8:Option Nat}{U oQ:V}(ev:∀X≠M,an X=u X)(p:(an M).1=(u M).1)(aR:bI O.c M=some L)(t:eA fS U (oQ.a an)):∃F,(O.a u).l[F]?=some ((u M).1,L.ad u (u M).2)/\∀{E:Act}{I:World}{b:aF},aH s (({(O.a u) with l:=(O.a u).l.set F ((u M).1,B.ad an (an M).2)}).put D8 U) E I b->aH s (((O.H9 M B).put D8 oQ).a an) E I b:=by
 let⟨F,r,j,g,o⟩:=af1 ev p B aR;refine⟨O.l.length+F,by show(O.l++ar u _)[_]?=_;grind,λ{E I b} w=>?_⟩;let J:(O.a u).l.set (O.l.length+F) ((u M).1,B.ad an (an M).2)=O.l++(ar u O.c).set F ((u M).1,B.ad an (an M).2):=by show(O.l++ar u _).set _ _=_;rw[List.set_append,aa v,show O.l.length+F-O.l.length=F by omega]
 rw[J] at w;let i:=bW.nf o<|bW.refl O.l;cases D8;let e:aH s ⟨cj u _,O.l++j⟩ E I b:=⟨w.ci.drop<|s3 (s4 _) g,w.h,w.fk,w.size,w.defers⟩;exact e.n2 (aF.le.refl b) e.ci fS.eZ fS.one (Bg ev _) i
 next m=>let e:aH s ⟨(m,U)::cj u _,O.l++j⟩ E I b:=⟨w.ci.drop<|s3 (s4 _) g,w.h,w.fk,w.size,w.defers⟩;refine e.n2 (aF.le.refl b) e.ci fS.eZ fS.one (λX k ap=>?_) i;simp[am.put,cj,gU,oB] at ap⊢;cases q:X==m with|true=>simp_all|false=>rw[q] at ap;exact Bg ev _ X k ap
end
section
variable{T:Program}{z:bV}{s:a2}{m:List (Nat×V)}{o:Nat}{D:V}
def fl{X J:TypeId}{k:b0}{L Z:Operand}{j i t K:Nat}{xs:List V}{b:V}ak g q(I:F ({O with c:=fJ O.c j (.n K J ak)}.put P.dst .undef))(M:P.op=.store X L Z:=by rfl)(W:z.find X=some k:=by rfl)(aR:val m O.h L=some (.cU j i t):=by rfl)(Y:val m O.h Z=some b:=by rfl)(D:bI O.c j=some (.n K J xs):=by rfl)(p:xs[i]?=some g:=by exact Da)(Q:b.plain:=by rfl)(G:b.fits:=by rfl)(U:b.cells.length=k.size:=by rfl)(E:t+k.size<=g.cells.length:=by exact QH)(MK:g.nJ t b.cells=q:=by rfl)(MO:q.cells=g.cells.take t++b.cells++g.cells.drop (t+k.size):=by rfl)(aG:xs.set i q=ak:=by exact aar):fR T z s m o ops P O F:=⟨λC w x u N e H B=>by
 subst aG MK;obtain⟨A,R,S⟩:=se _ u D;let y:=gn w x Y u;rw[V.eC Q] at y;apply bS.n5 H<|yZ (C.find W).K M (gn w x aR u) R p y G U E MO;let r:=B u _ (cd.refl o u) I;rw[am.kG] at r;let ad:=S<|.n K J<|xs.set i<|g.nJ t b.cells;have:{O.a u with l:=(O.a u).l.set A ((u j).1,.n (u j).2 K J<|xs.set i<|g.nJ t b.cells)}=({O with c:=fJ O.c j (.n K J<|xs.set i<|g.nJ t b.cells)}).a u:=by show(⟨_,_⟩:aw)=⟨_,_⟩;congr 1
 rw[this];exact r⟩
inductive kQ(z:bV)(m:List (Nat×V))(O:am):Operand->TypeId->Nat->List V->Prop
|f {B:Operand} {b3 J:TypeId} {iN:b0} {K:Nat} {n:List V} (aG:val m O.h B=some (.f K n)) (aU:z.find b3=some iN) (a6:iN.d=.slice J) (MP:iN.R=false) (h9:∀M∈n,M.cells.length=K):kQ z m O B b3 K n|nil {B:Operand} {b3 J:TypeId} {iN:b0} {K:Nat} (aG:val m O.h B=some .aQ) (aU:z.find b3=some iN) (a6:iN.d=.slice J) (MP:iN.R=false):kQ z m O B b3 K []|str {B:Operand} {b3:TypeId} {iN:b0} {kr:List UInt8} (aG:val m O.h B=some (.str kr)) (aU:z.find b3=some iN) (a6:iN.d=.string) (MP:iN.R=false):kQ z m O B b3 1 (kr.map bh)|d {B:Operand} {b3 J yV:TypeId} {iN:b0} {K uc off len:Nat} {xs:List V} (aG:val m O.h B=some (.d uc off len)) (aU:z.find b3=some iN) (a6:iN.d=.slice J) (MP:iN.R=false) (h9:bI O.c uc=some (.n K yV xs)) (xi:off+len<=xs.length) (as2:∀M∈xs,M.cells.length=K):
 kQ z m O B b3 K ((xs.drop off).take len)
def kQ.src(j:e2 T z)(h:s.G=m)(i:dp m){B:Operand}{b3:TypeId}{K:Nat}{k:List V}(w:kQ z m O B b3 K k)u:iW T s (O.a u) B b3 K k.length k:=by cases w with|f g e b c l=>let E:=(j.find e).e6 c;rw[b] at E;exact iW.f E (gn h i g u) l|nil g e b c=>let E:=(j.find e).e6 c;rw[b] at E;exact iW.nil E (gn h i g u)|str g e b c=>let E:=(j.find e).e6 c;rw[b] at E;rw[aS];exact iW.str E (gn h i g u)|d g e b c l p o=>rename_i J r x t q len xs;let E:=(j.find e).e6 c;rw[b] at E;obtain⟨A,aI⟩:=iw _ l;have:((xs.drop q).take len).length=len:=aK;rw[this];exact iW.a7 E (gn h i g u) aI p o
def yI{Y W:Nat}(a:Y<=16777216)(b:Nat.ble W 8388608):Y*W<=140737488355328:=by
 calc Y*W<=16777216*8388608:=yj a (mq b)
  _=140737488355328:=aj
def W1{X b3 J:TypeId}{g:b0}{Z B:Operand}{b p j:Nat}{xs k:List V}{ak:List V}(C:F ((O.H9 b (.n g.size J ak)).put P.dst (.d b 0 ak.length)))(E:P.op=.call {callee:=.builtin .append,args:=#[Z,B],argTypes:=#[X,b3]}:=by rfl)(i:eU z X (.slice J):=by exact fe)(x:z.find J=some g:=by rfl)(H:val m O.h Z=some (.d b p j):=by rfl)(w:bI O.c b=some (.n g.size J xs):=by rfl)(G:kQ z m O B b3 g.size k:=by exact Co)(xi:p+j<=xs.length:=by exact KT)(I:g.z.cells.size=g.size:=by rfl)(a0:Nat.ble g.bytes 8388608:=by rfl)(aG:(xs.drop p).take j++k=ak:=by first|rfl|(simp;done))(bq:ak.length<=16777216:=by exact r1)(D:Nat.blt b (o+1000):=by rfl):fR T z s m o ops P O F:=⟨λl q r u N e y t=>by
 obtain⟨_,_,bu⟩:=i.dO l;have cG:=l.find x;have:j+k.length=ak.length:=by rw[<-aG];simp;omega
 have:b<o+1000:=mq (show Nat.ble (b+1) (o+1000)=true from D);let an:=eD u b ((u b).1,(u b).2+1);obtain⟨A,aI,L⟩:=aH.WW (s:=s) (O:=O) (u:=u) (an:=an) (M:=b) (D8:=P.dst) (oQ:=.d b 0 ak.length) (λX i=>hd i) (B:=.n g.size J ak) (by grind[iu]) w (by simp[V.a,V.jb,V.dZ,V.ew,an,iu];exact .refl _);apply bS.n5 y<|C1 bu cG.K cG.ld I E (gn q r H u) aI xi (G.src l q r u) (by(simp[maxLen];omega)) (by simp_all[yI]);have:=t an _ ⟨λX _=>by grind[eD],λX i=>hd v⟩ C;grind[iu,bt.ad,bS.qW]⟩
def eR{X b3 J:TypeId}{a:b0}{Z B:Operand}{e i:Nat}{xs g:List V}ak(l:F ((O.H9 e (.n a.size J ak)).put P.dst (.d e 0 ak.length)))(q:P.op=.call {callee:=.builtin .append,args:=#[Z,B],argTypes:=#[X,b3]}:=by rfl)(r:eU z X (.slice J):=by exact fe)(k:z.find J=some a:=by rfl)(t:val m O.h Z=some (.d e 0 i):=by rfl)(j:bI O.c e=some (.n a.size J xs):=by rfl)(fC:kQ z m O B b3 a.size g:=by exact Co)(hlen:i=xs.length:=by first|rfl|(simp;done))(ap:a.z.cells.size=a.size:=by rfl)(a0:Nat.ble a.bytes 8388608:=by rfl)(aG:xs++g=ak:=by exact Lk)(bq:ak.length<=16777216:=by exact r1)(p:Nat.blt e (o+1000):=by rfl):fR T z s m o ops P O F:=W1 l q r k t j fC v ap a0 b bq p
def iW.more{R:aw}{Z:Operand}{b3:TypeId}{K Y:Nat}{b:List V}{c:bd}(w:iW T s R Z b3 K Y b)(g:R.l.Sublist c):iW T s ⟨R.h,c⟩ Z b3 K Y b:=⟨w.len,w.cells,w.D0,λE I e a=>w.run E I e ⟨a.ci.drop g,a.h,a.fk,a.size,a.defers⟩⟩
def ja{X J:TypeId}{b:b0}{Z B:Operand}{M:Nat}{h_ S:IntKind}{k l:Int}(Y t:Nat)ak(ad:F (O.fresh M (.n b.size J ak) (.d M 0 Y)))(G:P.op=.makeSlice X Z B:=by rfl)(r:P.dst=some M:=by rfl)(C:Nat.blt M o:=by rfl)(c:eU z X (.slice J):=by exact fe)(w:z.find J=some b:=by rfl)(L:val m O.h Z=some (.int h_ k):=by rfl)(p:k=(Y:Int):=by first|rfl|omega)(Q:val m O.h B=some (.int S l):=by rfl)(jM:l=(t:Int):=by first|rfl|omega)(D:Y<=t:=by first|exact a1 _|omega)(R:b.z.cells.size=b.size:=by rfl)(a0:Nat.ble b.bytes 8388608:=by rfl)(H:0<b.size:=by decide)(y:t<=16777216:=by omega)(aG:List.replicate Y (V.zero b.z)=ak:=by rfl):fR T z s m o ops P O F:=⟨λj g i u N e x W=>by obtain⟨_,_,bu⟩:=c.dO j;have cG:=j.find w;have:=mq (show Nat.ble _ o=true from C);refine bS.makeSlice x bu cG.K cG.ld R G (gn g i L u) p (gn g i Q u) jM D (by(simp[maxLen];omega)) (cA (yI y a0) aj) H λA=>?_;rw[r];apply bS.qW λE I U q=>aH.fresh (an:=eD u M (A,0)) (λX c=>hd c) (oQ:=.d M 0 Y) (B:=.n _ J _) (by simp[V.a,V.jb,V.dZ,V.ew,iu];exact .refl _) (by simp[b7,iu];exact .same _ .nil) q;grind[cd.of,hd]⟩
end
def vt(M K:Nat)(ak:List V):V->V
|.d X b len=>match Nat.beq X M with
 |true=>.f K ak|false=>.d X b len
|.cU X a t=>match Nat.beq X M with
 |true=>.undef|false=>.cU X a t
|.dj X=>match Nat.beq X M with
 |true=>.undef|false=>.dj X
|.nt X=>match Nat.beq X M with
 |true=>.undef|false=>.nt X
|.jP X a t=>match Nat.beq X M with
 |true=>.undef|false=>.jP X a t
|Z=>Z
abbrev Hn(M K:Nat)(ak:List V):V->V:=vG<|vt M K ak
def Mx(M Y:Nat):V->Prop
|.d X a len=>match Nat.beq X M with
 |true=>a=0/\len=Y|false=>True
|_=>True
abbrev ahA(M Y:Nat):V->Prop:=Eg<|Mx M Y
def AW(M Y:Nat)(Z:V):Prop:=match Z.plain with|true=>True|false=>ahA M Y Z
def vq(M Y:Nat):List (Nat×V)->Prop|[]=>True|(_,Z)::D=>AW M Y Z/\vq M Y D
def bt.ahz(M Y:Nat):bt->Prop|.cell _ Z=>AW M Y Z|_=>True
def sv(M Y:Nat):bb->Prop|[]=>True|(F,L)::D=>match Nat.beq M F with|true=>sv M Y D|false=>L.ahz M Y/\sv M Y D
inductive r5(id al K:Nat)(ak:List V):V->V->Prop|d:r5 id al K ak (.a7 id al 0 ak.length) (.f K ak)|mj (Z B:V) (w:fS Z B):r5 id al K ak Z B
theorem r5.one{id al K:Nat}{ak:List V}:uX (r5 id al K ak):=λZ B w=>by cases w with|d=>trivial|mj _ _ w=>exact fS.one _ _ w
section
variable{u:bn}{K:Nat}
def ahK Z(aR:Mx M ak.length Z):eA (r5 (u M).1 (u M).2 K ak) (Z.ew u) ((vt M K ak Z).ew u):=by cases Z with|d X b len=>simp[vt,Mx] at aR⊢;split at aR;rename_i w;have:=mo w;subst this;obtain⟨rfl,rfl⟩:=aR;exact .base _ _ .d;exact .refl _|cU X a t=>simp[vt];split;exact .base _ _<|.mj _ _<|.own ..;exact .refl _|dj X=>simp[vt];split;exact .base _ _<|.mj _ _<|.hF ..;exact .refl _|nt X=>simp[vt];split;exact .base _ _<|.mj _ _<|.own ..;exact .refl _|jP X a t=>simp[vt];split;exact .base _ _<|.mj _ _<|.own ..;exact .refl _|_=>exact .refl _
omit u in
def Uo:yr (vt M K ak):=λZ=>by cases Z<;>first|exact .inl rfl|(simp only[vt];split<;>first|exact .inl rfl|exact .inr ⟨rfl,rfl⟩)
def Up{Z:V}(aR:AW M ak.length Z):eA (r5 (u M).1 (u M).2 K ak) (Z.a u) ((Hn M K ak Z).a u):=DB Uo .n1 ahK λJ=>by rwa [AW,J] at aR
def My{Y F:Nat}{J:TypeId}{Z:V}:∀{N:bb},sv M Y N->(F,bt.cell J Z)∈N->F≠M->AW M Y Z|(b,L)::D,w,hm,a=>by rw[sv] at w;rcases eT.1 hm with J|hm;cases J;split at w;rename_i J;exact absurd (mo J).symm a;exact w.1;split at w;exact My w hm a;exact My w.2 hm a
def Ul{Y:Nat}:∀{N:List (Nat×V)}{X:Nat}{Z:V},vq M Y N->N.lookup X=some Z->AW M Y Z|(F,B)::D,X,Z,⟨b,a⟩,w=>by rw[oB] at w;split at w;simp_all;exact Ul a w
end
def am.g9(O:am)(M K:Nat)(ak:List V):am:=⟨xx (Hn M K ak) O.h,o3 M (Hn M K ak) O.c,O.l⟩
theorem aH.g9{s:a2}{O:am}{u:bn}{M K:Nat}{J:TypeId}{ak:List V}{E:Act}{I:World}{k:aF}(q:bI O.c M=some (.n K J ak))(x:vq M ak.length O.h)(t:sv M ak.length O.c)(w:aH s (O.a u) E I k):∃e,aH s ((O.g9 M K ak).a u) E I e:=by
 let⟨F,m,P,o,p⟩:=WX (y:=Hn M K ak) (an:=u) (DC Uo) (λ_ _=>rfl) q λF J Z i g=>Up (u:=u)<|My t i g;let g:(O.a u).l[O.l.length+F]?=some ((u M).1,.n (u M).2 K J ak):=by show(O.l++ar u O.c)[_]?=_;rw[s5 v,show O.l.length+F-O.l.length=F by omega];exact m
 let⟨e,z,hm,j,N,H,D,A,r⟩:=w.ci.freeze g;let he:(O.a u).l.eraseIdx (O.l.length+F)=O.l++(ar u O.c).eraseIdx F:=by show(O.l++ar u O.c).eraseIdx _=_;rw[abX v];congr 2;omega
 rw[he] at j;refine⟨e,aH.n2 w z (j.drop<|s3 (s4 _) o) (λZ B a0 U C=>?_) r5.one (λX B G=>?_)<|bW.nf p<|bW.refl O.l⟩;cases a0 with|d=>have:=p8.key b D A r _ _ (p8.a7 0 _ v) U C;simp_all|mj _ _ L=>grind[fS.eZ]
 exact N2 (λX Z i=>Up<|Ul x i) X B G
theorem gB{T:Program}{s:a2}{o:Nat}{g:bn}{e:List ResultVar}{a:V->bd->Prop}{b:Exit}{O:am}M{K:Nat}{J:TypeId}{ak:List V}(w:g4 T s o g e a b (O.g9 M K ak))(m:bI O.c M=some (.n K J ak):=by rfl)(q:vq M ak.length O.h:=by repeat (first|exact trivial|refine And.intro ?_ ?_|exact rfl|(simp;done)))(p:sv M ak.length O.c:=by repeat (first|exact trivial|refine And.intro ?_ ?_|exact rfl|(simp;done))):g4 T s o g e a b O:=⟨w.he,λu l E I r j=>by let⟨i,k⟩:=aH.g9 m q p j;exact w.run u l E I i k⟩
theorem Bt{T:Program}{z:bV}{s:a2}{m:List (Nat×V)}{o:Nat}{ops:Array Oper}{P:Oper}{O:am}{F:am->Prop}M{K:Nat}{J:TypeId}{ak:List V}(w:fR T z s m o ops P (O.g9 M K ak) F)(t:kx ops.toList (O.g9 M K ak).h P=some true:=by rfl)(p:bI O.c M=some (.n K J ak):=by rfl)(x:vq M ak.length O.h:=by repeat (first|exact trivial|refine And.intro ?_ ?_|exact rfl|(simp;done)))(q:sv M ak.length O.c:=by repeat (first|exact trivial|refine And.intro ?_ ?_|exact rfl|(simp;done))):fR T z s m o ops P O F:=⟨λl b g u N e _ i=>by intro r E I y j;let⟨a,k⟩:=aH.g9 p x q j;exact w.run l b g u N e (by have:=rr u t;omega) i r E I a k⟩
def aH.Xj{s:a2}{R:aw}{E:Act}{I:World}{a:aF}(w:aH s R E I a)O J:aH s ⟨R.h,R.l++[(a.n,.n 0 O J [])]⟩ E I (a.fo a.n ⟨none,0,0,0,O⟩):=by
 let e:a.le (a.fo a.n ⟨none,0,0,0,O⟩):=aF.i7 λj b=>by rw[a.fresh _<|a1 _] at b;cases b
 exact⟨w.ci.new (ke:=.n 0 O J []) (ck:=⟨none,0,0,0,O⟩) (aT:=I) (.inl rfl) ⟨rfl,rfl,rfl,a1 _,λ_ _ _=>rfl⟩ ⟨rfl,rfl,.inl ⟨rfl,rfl⟩⟩,λX Z c=>by let⟨U,b,i⟩:=w.h X Z c;exact⟨U,b,i.mono e⟩,λg Z c=>(w.fk g Z c).mono e,w.size,w.defers⟩
inductive mv(A:Nat):V->V->Prop|nil:mv A .aQ (.a7 A 0 0 0)|mj (Z B:V) (w:fS Z B):mv A Z B
theorem mv.one{A:Nat}:uX (mv A):=λZ B w=>by cases w with|nil=>trivial|mj _ _ w=>exact fS.one _ _ w
def tm(M:Nat):V->V|.aQ=>.d M 0 0|Z=>Z
def wO(M:Nat)(a:List Nat):List (Nat×V)->List (Nat×V)|[]=>[]|(X,Z)::D=>match gI X a with|true=>(X,tm M<|v1 M Z)::wO M a D|false=>(X,v1 M Z)::wO M a D
def wP(M t:Nat):V->V
|.agg a=>match a[t]? with
 |some Z=>.agg (a.set t<|tm M Z)|none=>.agg a
|.vec Y E a=>match Nat.blt t Y with
 |true=>.vec Y E a|false=>match a[t-Y]? with
  |some Z=>.vec Y E (a.set (t-Y)<|tm M Z)|none=>.vec Y E a
|Z=>tm M Z
def K7(M t:Nat):bt->bt|.cell J Z=>.cell J (wP M t Z)|Z=>Z
def yw(M:Nat):Option (Nat×Nat)->bb->bb|none,N=>N|some _,[]=>[]|some (X,t),(F,L)::D=>match Nat.beq X F with|true=>(F,K7 M t L)::D|false=>(F,L)::yw M (some (X,t)) D
def am.dI(O:am)(M K:Nat)(J:TypeId)(b:List Nat)(a:Option (Nat×Nat)):am:=⟨wO M b O.h,yw M a (nC M O.c)++[(M,.n K J [])],O.l⟩
section
variable{u:bn}(ev:∀X,X≠M->an X=u X)(aI:an M=(A,0))
include aI
theorem Q0 Z:eA (mv A) (Z.a an) ((tm M Z).a an):=by cases Z with|aQ=>simp[tm,V.a,V.jb,V.dZ,V.ew,aI];exact .base _ _ .nil|_=>exact .refl _
theorem QZ Z:eA (mv A) (Z.dZ an) ((tm M Z).dZ an):=by cases Z with|aQ=>simp[tm,V.dZ,V.ew,aI];exact .base _ _ .nil|_=>exact .refl _
theorem ac9 t Z:eA (mv A) (Z.a an) ((wP M t Z).a an):=by
 by_cases k:∃c,Z=.agg c;obtain⟨c,rfl⟩:=k;simp[wP];split;refine .agg _ _ af λl E W e a0=>?_;simp only[ch,z_] at e a0;obtain⟨h,g,rfl⟩:=e;obtain⟨i,b,rfl⟩:=a0;rw[oA] at b;split at b;grind[QZ];rw[g] at b;cases b;exact .refl _;exact .refl _;by_cases j:∃Y E c,Z=.vec Y E c;obtain⟨Y,E,c,rfl⟩:=j;simp[wP];split;exact .refl _;split;refine .vec _ _ _ _ af λl E W e a0=>?_;simp only[ch,z_] at e a0;obtain⟨h,g,rfl⟩:=e;obtain⟨i,b,rfl⟩:=a0;rw[oA] at b;split at b;grind[QZ];rw[g] at b;cases b;exact .refl _;exact .refl _;have:wP M t Z=tm M Z:=by cases Z<;>first|rfl|simp_all|simp_all
 grind[Q0]
omit aI in
theorem ac8(t:Nat)(Z:V):(wP M t Z).cells.length=Z.cells.length:=by cases Z with|agg a=>grind[wP,V.cells]|vec Y E a=>grind[wP,V.cells]|_=>rfl
theorem ac7 t F L{N a:bd}(w:bW (mv A) N a):bW (mv A) (b7 an (F,L)::N) (b7 an (F,K7 M t L)::a):=by
 unfold b7;cases L
 next J Z=>simp[K7,bt.ad,ac8];exact .BP (ac9 aI t Z) w
 next O J xs=>exact .same _ w
 next b clock=>exact .same _ w
 next b clock seen=>exact .same _ w
theorem Q1:∀a N,bW (mv A) (ar an N) (ar an (yw M a N))|none,N=>by cases N<;>exact bW.refl _|some _,[]=>.nil|some (X,t),(F,L)::D=>by rw[yw];split;exact ac7 aI t F L<|bW.refl _;exact .same _<|Q1 _ D
end
def K8{M:Nat}{a:List Nat}:∀N X,(wO M a N).lookup X=(N.lookup X).map λZ=>match gI X a with
 |true=>tm M (v1 M Z)|false=>v1 M Z
|[],_=>rfl|(F,Z)::D,X=>by rw[wO];cases w:X==F;let b:∀B,List.lookup X ((F,B)::wO M a D)=(wO M a D).lookup X:=λB=>aM;rw[oB,w];split<;>rw[b,K8 D X];grind
def aH.dI{s:a2}{O:am}{u:bn}{E:Act}{I:World}{b:aF}M K J y i(w:aH s (O.a u) E I b):∃(A:Nat)(m:aF),aH s ((O.dI M K J y i).a (eD u M (A,0))) E I m:=by
 let e:=w.Xj K J;let ev:∀X≠M,eD u M (b.n,0) X=u X:=λX r=>hd r;let⟨x,q,o⟩:=Ew (u:=u) (an:=eD u M (b.n,0)) (M:=M) ev O.c;let j:aH s ⟨cj u O.h,O.l++x++[(b.n,.n 0 K J [])]⟩ E I (b.fo b.n ⟨none,0,0,0,K⟩):=⟨e.ci.drop<|s3 (s3 (s4 _) q)<|s4 _,e.h,e.fk,e.size,e.defers⟩;let k:=j.n2 (aF.le.refl _) j.ci fS.eZ fS.one (Bg ev O.h)<|bW.nf (bW.refl _)<|bW.nf o<|bW.refl O.l;refine⟨b.n,_,k.n2 (aF.le.refl _) k.ci (ct:=mv b.n) (λZ B a0 U t=>?_) mv.one (λX B g=>?_) ?_⟩;cases a0 with|nil=>cases t;exact .a7 _ _ _ _ _ _ (b.kJ _ _) (a1 _) rfl λ_=>.inl ⟨rfl,rfl,rfl⟩|mj _ _ C=>grind[fS.eZ]
 rw[am.dI,jQ,K8] at g;rw[jQ,H_];cases p:O.h.lookup X;simp_all
 next Z=>rw[p] at g;simp[iP,fc] at g;exists _,rfl;subst g;split;simp[Q0,iu];exact .refl _
 show bW (mv b.n) _ (O.l++ar (eD u M (b.n,0)) (yw M i (nC M O.c)++[(M,.n K J [])]));let z:ar (eD u M (b.n,0)) (yw M i (nC M O.c)++[(M,.n K J [])])=ar (eD u M (b.n,0)) (yw M i (nC M O.c))++[(b.n,.n 0 K J [])]:=by simp[ar,cD,gU,rY,b7,bt.ad,iu]
 grind[bW.nf,bW.refl,Q1,iu,o3]
def ay.dI{T:Program}{s:a2}{o:Nat}{t:Code}{O:am}{e:Exit->am->Prop}M K J c b(w:ay T s o t (O.dI M K J c b) e)(a:Nat.blt M o:=by rfl):ay T s o t O e:=⟨λu h i E I q j=>by let⟨A,g,k⟩:=aH.dI M K J c b j;let a:=mq (show Nat.ble _ o=true from a);let l:cd o u (eD u M (A,0)):=.of λX r=>hd v;exact w.run _ h (λan J p m aI=>i an J p (l.trans m) aI) E I g k⟩
theorem ay.g9{T:Program}{s:a2}{o:Nat}{t:Code}{O:am}{e:Exit->am->Prop}M{K:Nat}{J:TypeId}{ak:List V}(w:ay T s o t (O.g9 M K ak) e)(k:bI O.c M=some (.n K J ak):=by rfl)(m:vq M ak.length O.h:=by repeat (first|exact trivial|refine And.intro ?_ ?_|exact rfl|(simp;done)))(l:sv M ak.length O.c:=by repeat (first|exact trivial|refine And.intro ?_ ?_|exact rfl|(simp;done))):ay T s o t O e:=⟨λu b g E I p i=>by let⟨a,j⟩:=aH.g9 k m l i;exact w.run u b g E I a j⟩
def kO(T:Program)(m:List (Nat×V))(x:FuncId)(xs:List V)(ad:bd)(os:bb){b:Type}(L:b->Prop)(D:b->V)(e:b->bd)(bN:b->bb):Prop:=∀u:bn,ff T m x (xs.map<|V.a u) (ad++ar u os) (λg c=>∃E an,L E/\cd 5000 u an/\g=(D E).a an/\c=e E++ar an (bN E))
def ps(T:Program)(m:List (Nat×V))(x:FuncId)(xs:List V)(os:bb)(D:V)(bN:bb):Prop:=∀u:bn,ff T m x (xs.map<|V.a u) (ar u os) (λc b=>∃an,cd 5000 u an/\c=D.a an/\b=ar an bN)
def Ln x:∀xs a,ng a (xs.map x)=(ng a xs).map λL=>(L.1,x L.2)|[],_=>rfl|Z::xs,a=>by simp[gU,ng,Ln x xs _]
section
variable{T:Program}{z:bV}{s:a2}{m:List (Nat×V)}{o:Nat}
def ps.of_wp{x:FuncId}{c:Func}{t:Code}{e:List ResultVar}{xs:List V}{os bN:bb}{D:V}{Y:Nat}c4(j:T.follows .mixedOrders)(h:e2 T z)(g:dp m)(i:FY T x c t)(k:c.ntmps=Y)(q:Nat.ble xs.length Y)(l:c.results.toList=e)(w:∀u s,s.G=m->s.n=Y->jg T z s m 5000 Y c4 t ⟨ng 0 xs,os,[]⟩ (g4 T s 5000 u e (λp o=>∃an,cd 5000 u an/\p=D.a an/\o=ar an bN))):ps T m x xs os D bN:=λu=>ff.of_wp c4 u _ j h g i k b l
 (by rw[Ln];rfl)<|w u
def V.Bq:V->Bool|.tuple _=>false|_=>true
theorem V.aly{u:bn}{Z:V}(w:Z.Bq):Z.a u=Z.jb u:=by cases Z<;>first|rfl|cases w
theorem ata{u:bn}{b:List V}(w:ds V.Bq b):cO (b.map (V.a u))=(cO b).a u:=by
 match b,w with|[],_=>rfl|[Z],_=>rfl|Z::B::N,w=>show V.tuple _=V.tuple _;grind[List.map_congr_left,V.aly,nd]
def cH{i:bn}{g:List ResultVar}{J:Exit}{O:am}{e:List V}{D:V}{bN:bb}(p:xT O.h g=some e:=by rfl)(j:qb bN O.c:=by repeat (first|exact trivial|refine And.intro rfl ?_))(m:lx bN:=by rfl)(t:ds V.Bq e:=by rfl)(u:O.l=[]:=by rfl)(k:J=.ret\/J=.normal:=by exact q3)(w:cO e=D:=by rfl):g4 T s o i g (λr q=>∃an,cd o i an/\r=D.a an/\q=ar an bN) J O:=Mi bN (⟨·,·,KP,b⟩) p j m k
end
def cF:List (Nat×Nat)->Nat->Nat|[],Y=>Y|(E,W)::N,Y=>match Nat.beq Y E with|true=>W|false=>cF N Y
def Jr(ca:Nat->Nat):V->V|.cU X a t=>.cU (ca X) a t|.d X b len=>.d (ca X) b len|.dj X=>.dj (ca X)|.nt X=>.nt (ca X)|.jP X a t=>.jP (ca X) a t|Z=>Z
abbrev nD(ca:Nat->Nat):V->V:=vG<|Jr ca
abbrev bt.im(ca:Nat->Nat):bt->bt:=bt.mp<|nD ca
def yB(L:Nat->Bool):V->Bool|.cU X _ _=>L X|.d X _ _=>L X|.dj X=>L X|.nt X=>L X|.jP X _ _=>L X|_=>true
def CD(L:Nat->Bool):V->Bool
|.func _ xs ak=>match ds (yB L) xs with
 |true=>ds (yB L) ak|false=>false
|Z=>yB L Z
def Le(L:Nat->Bool):V->Bool|.agg a=>ds (CD L) a|.vec _ _ a=>ds (CD L) a|Z=>CD L Z
def Rj(L:Nat->Bool):V->Bool|.tuple N=>ds (Le L) N|Z=>Le L Z
def mA(L:Nat->Bool)(Z:V):Bool:=match Z.plain with|true=>true|false=>Rj L Z
def bt.As(L:Nat->Bool):bt->Bool|.cell _ Z=>mA L Z|_=>true
section
variable{ca:Nat->Nat}{L:Nat->Bool}{u:bn}(w:∀X,L X->an (ca X)=u X)
include w
theorem apj{Z:V}(aR:yB L Z):(Jr ca Z).ew an=Z.ew u:=by cases Z<;>first|rfl|simp[Jr,V.ew,w _ aR]
omit w in
theorem Rk{Z:V}(aR:Rj L Z):Eg (λZ=>yB L Z=true) Z:=by
 let b:∀Z,CD L Z->BC (λZ=>yB L Z=true) Z:=λZ aR=>by
  cases Z<;>first|exact aR|skip
  rw[CD] at aR;split at aR;rename_i J;exact⟨pw.2<|nd.1 J,pw.2<|nd.1 aR⟩;cases aR
 let c:∀Z,Le L Z->Ef (λZ=>yB L Z=true) Z:=λZ aR=>by have:=b Z;cases Z<;>first|exact this aR|exact pw.2 λZ a=>b Z<|nd.1 aR Z a
 have:=c Z;cases Z<;>first|exact this aR|exact pw.2 λZ a=>c Z<|nd.1 aR Z a
omit w in
theorem Zs:yr (Jr ca):=λZ=>by cases Z<;>first|exact .inl rfl|exact .inr ⟨rfl,rfl⟩
theorem Ex{Z:V}(aR:mA L Z):(nD ca Z).a an=Z.a u:=(DB Zs .eq (λZ b=>(apj w b).symm) λJ=>Rk (by rwa [mA,J] at aR)).symm
omit w in
theorem apk(Z:V):(nD ca Z).cells.length=Z.cells.length:=DC Zs Z
theorem bt.Js{F:Nat}{A:bt}(a:L F)(aR:A.As L):b7 an (ca F,A.im ca)=b7 u (F,A):=by unfold b7;simp[w F a];cases A with|cell J Z=>simp[bt.mp,bt.ad,apk];rw[Ex w aR]|_=>rfl
end
theorem Lg{L:Nat->Bool}{u an:bn}(w:∀X,L X->an X=u X){Z:V}(aR:mA L Z):Z.a an=Z.a u:=by cases J:Z.plain;rw[mA,J] at aR;rw[Iv,Iv];exact Wb .eq (λZ b=>by cases Z<;>first|rfl|simp[V.ew,w _ b])<|Rk aR;rw[V.eC J,V.eC J]
theorem bt.F_{L:Nat->Bool}{u an:bn}(w:∀X,L X->an X=u X){F:Nat}{A:bt}(a:L F)(aR:A.As L):b7 an (F,A)=b7 u (F,A):=by unfold b7;rw[w F a];cases A with|cell J Z=>simp[bt.ad];rw[Lg w aR]|_=>rfl
def Jm:bb->Nat->bb|[],_=>[]|(F,L)::D,X=>match Nat.beq X F with|true=>D|false=>(F,L)::Jm D X
def CA(ca:Nat->Nat):bb->bb->bb->Prop|[],N,a=>N=a|(Y,L)::os,N,a=>bI N (ca Y)=some (L.im ca)/\CA ca os (Jm N<|ca Y) a
def Zd:∀{N:bb}{X:Nat}{L:bt},bI N X=some L->N.Perm ((X,L)::Jm N X)
|[],X,L,w=>bB|(F,A)::D,X,L,w=>by
 unfold bI at w;rw[Jm];split at w;simp_all
 .rename_i he;rw[he];exact(List.Perm.cons _<|Zd w).trans<|List.Perm.swap _ _ _
def CA.perm{ca:Nat->Nat}:∀{os N a:bb},CA ca os N a->N.Perm (os.map (λL=>(ca L.1,L.2.im ca))++a)|[],N,a,w=>by cases w;rfl|(Y,L)::os,N,a,⟨b,c⟩=>(Zd b).trans<|List.Perm.cons _ c.perm
def A9(L:Nat->Bool):List (Nat×V)->List (Nat×V)|[]=>[]|(X,Z)::D=>(X,match mA L Z with|true=>Z|false=>.undef)::A9 L D
def VJ{L:Nat->Bool}:∀N X,(A9 L N).lookup X=(N.lookup X).map λZ=>match mA L Z with|true=>Z|false=>.undef
|[],_=>rfl|(F,Z)::D,X=>by rw[A9,oB,oB];cases w:X==F;exact VJ D X;rfl
def lm(L:Nat->Bool):bb->Bool|[]=>true|(F,A)::D=>match L F,A.As L with|true,true=>lm L D|_,_=>false
def qg{L:Nat->Bool}:∀{N:bb},lm L N->∀A∈N,L A.1/\A.2.As L|(F,A)::D,w,B,a=>by rw[lm] at w;split at w;rcases eT.1 a with rfl|a;trivial;exact qg w B a;trivial
def o2(W:Nat)(ca:Nat->Nat):bb->List Nat|[]=>[]|(Y,_)::D=>match Nat.blt Y W with|true=>ca Y::o2 W ca D|false=>o2 W ca D
def hj(a:List Nat)(X:Nat):Bool:=match gI X a with|true=>false|false=>true
def tX(E W o t:Nat)(ca:Nat->Nat):bb->Bool
|[]=>true|(Y,_)::D=>match Nat.blt Y E with
 |true=>match Nat.blt (ca Y) o with|true=>tX E W o t ca D|false=>false
 |false=>match Nat.blt Y W with
  |true=>match Nat.blt (ca Y) t with|true=>tX E W o t ca D|false=>false
  |false=>tX E W o t ca D
def yG(ca:Nat->Nat)(a u:bn):bb->bn|[],X=>u X|(Y,_)::D,X=>match Nat.beq X (ca Y) with|true=>a Y|false=>yG ca a u D X
def RM{ca:Nat->Nat}{a u:bn}:∀{N:bb},lx (N.map λL=>(ca L.1,L.2))->∀A∈N,yG ca a u N (ca A.1)=a A.1
|(Y,L)::D,w,A,aI=>by simp[gU,lx,jD] at w;rw[yG];rcases eT.1 aI with rfl|aI;simp;split;rename_i he;let he:=mo he;have:gI (ca Y) ((D.map λL=>(ca L.1,L.2)).map (·.1)):=oe.2 (by grind);grind;exact RM w.2 A aI
def Gj{ca:Nat->Nat}{jC u:bn}:∀N X,yG ca jC u N X=u X\/∃A∈N,X=ca A.1/\yG ca jC u N X=jC A.1|[],X=>.inl rfl|(Y,L)::D,X=>by rw[yG];split;simp_all;rcases Gj (ca:=ca) (jC:=jC) (u:=u) D X with w|⟨A,a,b,c⟩;simp_all;grind
theorem Av{E W:Nat}:Nat.blt E W↔E<W:=⟨λw=>mq<|show Nat.ble _ W=true from w,λw=>Nat.ble_eq_true_of_le<|show E+1<=W from w⟩
def DU{E W o t:Nat}(a:o<=t){ca:Nat->Nat}:∀{N:bb},tX E W o t ca N->∀A∈N,(A.1<E->ca A.1<o)/\(A.1<W->ca A.1<t)
|(Y,L)::D,w,A,aI=>by
 rw[tX] at w;split at w;split at w;rcases eT.1 aI with rfl|aI
 (simp_all;omega)
 exact DU a w A aI;trivial;have:¬Y<E:=λb=>by grind[Av]
 split at w;split at w;rcases eT.1 aI with rfl|aI
 (simp_all;omega)
 exact DU a w A aI;trivial;rcases eT.1 aI with rfl|aI;grind[absurd,Av];exact DU a w A aI
theorem N1{W:Nat}{ca:Nat->Nat}:∀{N:bb}{A:Nat×bt},A∈N->A.1<W->ca A.1∈o2 W ca N|(Y,L)::D,A,aI,a=>by rw[o2];rcases eT.1 aI with rfl|aI;grind[Av];split;exact ki _<|N1 aI a;exact N1 aI a
def jO(N:bb)(X:Nat):Bool:=gI X<|N.map (·.1)
def RL{o:Nat}{a:List (Nat×Nat)}{u c:bn}{bN:bb}(j:cd 5000 (λY=>u<|cF a Y) c)(m:lx (bN.map λL=>(cF a L.1,L.2)))(l:tX 5000 6000 o (o+1000) (cF a) bN):∃k,cd o u k/\(∀X,jO bN X->k (cF a X)=c X)/\∀X,hj (o2 6000 (cF a) bN) X->k X=u X:=by refine⟨yG (cF a) c u bN,⟨λX i=>?_,λX i=>?_⟩,λX i=>?_,λX i=>?_⟩;rcases Gj (ca:=cF a) (jC:=c) (u:=u) bN X with w|⟨A,h,e,g⟩;grind;rw[g];have:=(DU (yg o 1000) l A h).1;rw[j.id A.1 (by rcases gh A.1 5000 with b|b;have:=this b;omega;exact b),e];rcases Gj (ca:=cF a) (jC:=c) (u:=u) bN X with w|⟨A,h,e,g⟩;exact w;rw[g];have:=(DU (yg o 1000) l A h).2;rw[j.eq A.1 (by rcases gh A.1 6000 with b|b;have:=this b;omega;exact b),e];obtain⟨A,aI,rfl⟩:=b4.1<|oe.1 i;exact RM m A aI;rcases Gj (ca:=cF a) (jC:=c) (u:=u) bN X with w|⟨A,h,e,g⟩;exact w;rw[g];by_cases p:A.1<6000;grind[oe,N1,hj];rw[j.eq A.1 v,e]
def Z_{u:bn}{N:List V}(w:ds V.jX N):N.map (V.ew u)=N.map (V.a u):=gp λZ b=>V.BY<|nd.1 w Z b
def OJ{u:bn}{e:List (Nat×Nat)}{os:bb}{xs first g b:List V}(c:xs.map (nD (cF e))=first++g++b)(j:ds (mA (jO os)) xs)(h:ds V.jX first)(i:ds V.jX b):first.map (V.ew u)++g.map (V.a u)++b.map (V.ew u)=xs.map (V.a λY=>u<|cF e Y):=by rw[Z_ h,Z_ i,<-cD,<-cD,<-c,ez];exact gp λZ c=>Ex (u:=λY=>u<|cF e Y) (an:=u) (L:=jO os) (λX _=>rfl)<|nd.1 j Z c
def Ed{u jC:bn}{a:List (Nat×Nat)}{os:bb}{L:Nat->Bool}(w:∀X,L X->u (cF a X)=jC X)(b:lm L os):ar jC os=ar u (os.map λL=>(cF a L.1,L.2.im<|cF a)):=by simp only[ar,ez];exact gp λA aI=>(bt.Js w (qg b A aI).1 (qg b A aI).2).symm
section
variable{T:Program}{z:bV}{s:a2}{m:List (Nat×V)}{o:Nat}{D:V}
def hQ k{mw:Type}(r:mw->bd){L:mw->Prop}{D:mw->V}{ad:bd}{rD:mw->bd}p{x:FuncId}{ai:Operand}{args:Array Operand}{av:Array TypeId}{first S aj xs:List V}{os b:bb}{bN:mw->bb}(aF:∀E,L E->F ((⟨A9 (hj (o2 6000 (cF k) (bN E))) O.h,b++(bN E).map (λL=>(cF k L.1,L.2.im<|cF k)),r E⟩:am).put P.dst (nD (cF k) (D E))))(aJ:P.op=.call {callee:=.value ai,args:=args,argTypes:=av}:=by rfl)(aC:val m O.h ai=some (.func (.func x) first S):=by rfl)(az:jY m O.h args.toList=some aj:=by rfl)(i:kO T m x xs ad os L D rD bN)(vC:(ad++p).Perm O.l:=by exact zt)(vB:∀E,L E->(rD E++p).Perm (r E):=by exactλ_ _=>zt)(q:xs.map (nD<|cF k)=first++aj++S:=by rfl)(aU:ds (mA<|jO os) xs:=by rfl)(aR:CA (cF k) os O.c b:=by repeat (first|exact rfl|refine And.intro rfl ?_))(aK:lm (jO os) os:=by rfl)(aO:ds V.jX first:=by rfl)(aP:ds V.jX S:=by rfl)(H:∀E,lx ((bN E).map λL=>(cF k L.1,L.2)):=by intro _;rfl)(J:∀E,tX 5000 6000 o (o+1000) (cF k) (bN E):=by intro _;rfl)(K:∀E,mA (jO<|bN E) (D E):=by intro _;rfl)(Q:∀E,lm (jO<|bN E) (bN E):=by intro _;rfl)(y:∀E,lm (hj<|o2 6000 (cF k)<|bN E) b:=by intro _;rfl)(a0:iR T x:=by exact r2):fR T z s m o ops P O F:=⟨λaW C al u N e aE ay=>by
 let ca:=cF k;let jC:bn:=λY=>u<|ca Y;let aD:=gn C al aC u;let aB:=zQ (s:=s) (C▸al) (u:=u) (h:=O.h) (ad:=O.l++ar u O.c)<|C.symm▸az;let aV:=OJ (u:=u) q aU aO aP;let aM:=Ed (u:=u) (jC:=jC) (λX _=>rfl) aK;let aN:(ad++ar jC os++(p++ar u b)).Perm (O.a u).l:=by
  rw[aM];let ak:=(aR.perm.map<|b7 u).symm;rw[cD] at ak;show(_++(p++_)).Perm (O.l++_);let W:(ad++ar u (os.map λL=>(ca L.1,L.2.im ca))++(p++ar u b)).Perm (ad++p++(ar u (os.map λL=>(ca L.1,L.2.im ca))++ar u b)):=by rw[ge,ge];apply zZ _;rw[<-ge,<-ge];exact Cc _ rZ
  exact W.trans<|List.Perm.append vC ak
 apply bS.call (R:=O.a u) aE aJ a0 aD aB aN (by rw[aV];exact C.symm▸i jC);rintro aZ aY ⟨dT,w,aq,aA,rfl,rfl⟩;let H:=H dT;let J:=J dT;let K:=K dT;let Q:=Q dT;let y:=y dT;let⟨t,ax,ao,aG⟩:=RL aA H J;refine bS.qW (λE I ah g=>?_)<|ay t _ ax<|aF dT aq;let ap:∀X B,(cj t<|A9 (hj<|o2 6000 ca<|bN dT) O.h).lookup X=some B->∃Z,(cj u O.h).lookup X=some Z/\(B=Z\/B=.undef):=λX B j=>by
  rw[jQ,VJ] at j;rw[jQ];cases aH:O.h.lookup X;simp_all
  next Z=>rw[aH] at j;simp[iP,fc] at j;exists _,rfl;subst j;split;grind[Lg];exact .inr rfl
 let aX:(nD ca<|D dT).a t=(D dT).a w:=Ex ao K;let aL:r dT++ar t (b++(bN dT).map λL=>(ca L.1,L.2.im ca))=r dT++(ar u b++ar w (bN dT)):=by simp only[ar,cD,ez];congr 2;exact gp λA aI=>bt.F_ aG (qg y A aI).1 (qg y A aI).2;simpa[ar] using(Ed ao Q).symm
 let an:Holds s ah (r dT++ar t (b++(bN dT).map λL=>(ca L.1,L.2.im ca))) I:=by
  let dJ:Holds s ah (rD dT++ar w (bN dT)++(p++ar u b)) I:=by have:=g.ci;cases G:P.dst<;>rw[G] at this<;>exact this
  apply dJ.perm;rw[aL];let W:(rD dT++ar w (bN dT)++(p++ar u b)).Perm (rD dT++p++(ar u b++ar w (bN dT))):=by rw[ge,ge];apply zZ _;apply List.perm_append_comm.trans;rw[ge]
  exact(W.trans<|Cc _<|vB dT aq).symm
 cases G:P.dst;rw[G] at g;refine⟨an,λX B j=>?_,g.fk,g.size,g.defers⟩;let⟨Z,q,ag⟩:=ap X B j;let⟨U,ae,aT⟩:=g.h X Z q;rcases ag with rfl|rfl;simp_all;exact⟨U,ae,.undef U⟩
 next M=>rw[G] at g;refine⟨an,λX B j=>?_,g.fk,g.size,g.defers⟩;let dJ:=g.h X;simp[am.a,am.put,aw.put,cj,gU,oB] at j dJ;cases aS:X==M with|true=>grind|false=>rw[aS] at j dJ;let⟨Z,q,ag⟩:=ap X B j;let⟨U,ae,aT⟩:=dJ Z q;rcases ag with rfl|rfl;simp_all;exact⟨U,ae,.undef U⟩⟩
def bk a{x:FuncId}{g:Operand}{args:Array Operand}{k:Array TypeId}{first b j xs:List V}{os bN e:bb}(C:F ((⟨A9 (hj (o2 6000 (cF a) bN)) O.h,e++bN.map (λL=>(cF a L.1,L.2.im<|cF a)),O.l⟩:am).put P.dst (nD (cF a) D)))(E:P.op=.call {callee:=.value g,args:=args,argTypes:=k}:=by rfl)(B:val m O.h g=some (.func (.func x) first b):=by rfl)(A:jY m O.h args.toList=some j:=by rfl)(i:ps T m x xs os D bN)(K:xs.map (nD<|cF a)=first++j++b:=by rfl)(M:ds (mA<|jO os) xs:=by rfl)(J:CA (cF a) os O.c e:=by repeat (first|exact rfl|refine And.intro rfl ?_))(G:lm (jO os) os:=by rfl)(H:ds V.jX first:=by rfl)(I:ds V.jX b:=by rfl)(p:lx (bN.map λL=>(cF a L.1,L.2)):=by rfl)(q:tX 5000 6000 o (o+1000) (cF a) bN:=by rfl)(r:mA (jO bN) D:=by rfl)(t:lm (jO bN) bN:=by rfl)(y:lm (hj<|o2 6000 (cF a) bN) e:=by rfl)(a0:iR T x:=by exact r2):fR T z s m o ops P O F:=hQ a (mw:=Unit) (λ_=>O.l) (L:=λ_=>True) (D:=λ_=>D) (ad:=[]) (rD:=λ_=>[]) O.l (bN:=λ_=>bN) (λ_ _=>C) E B A (λu=>(i u).mono λ_ _ ⟨W,w⟩=>⟨(),W,trivial,w⟩) (.refl _) (λ_ _=>.refl _) K M J G H I (λ_=>p) (λ_=>q) (λ_=>r) (λ_=>t) (λ_=>y) a0
end
section
variable{T:Program}{s:a2}
def aqt{I:World}{E:Act}{p:aF}(t:aH s R E I p){len cap e a b:Nat}{k:Option Operand}{j l:Operand}{F m:IntKind}{o i:Int}(w:ni s R k 0 e)(u:R.val s j=some (.int F o))(h:o=(a:Int))(z:R.val s l=some (.int m i))(x:i=(b:Int))(q:e<=a)(r:a<=b)(c:b<=cap):(Instr.sliceBounds true len cap (k.map E.eval) (some (E.eval j)) (some (E.eval l))).run T I=.ok (e,a,b) I:=by
 have g:∀L o F Y,R.val s L=some (.int F o)->o=Y->E.eval L=.int F Y:=by intro L o F Y aR h;have c:=t.val aR;generalize E.eval L=U at c;cases c;rw[h]
 rw[g j o F a u h,g l i m b z x];cases k;simp_all[ni,Instr.sliceBounds,xV]
 next L=>let⟨h_,A,aR,y⟩:=w;simp[Instr.sliceBounds,g L A h_ e aR y,xV c,xV r,xV q]
def amZ{X J:TypeId}{K bs cL O:Nat}{Z:Operand}{q:Option Operand}{p r:Operand}{e:List V}{a b c:Nat}{F Y:IntKind}{o m:Int}(G:bG T X (.slice J) K bs)(y:fi T J O cL)(D:P.op=.slice X Z q (some p) (some r))(M:R.val s Z=some (.f O e))(A:ni s R q 0 a)(z:R.val s p=some (.int F o))(B:o=(b:Int))(N:R.val s r=some (.int Y m))(C:m=(c:Int))(w:a<=b)(x:b<=c)(j:c<=e.length):cb T s P R (.f O ((e.drop a).take (b-a))):=.same λE I S k=>by
 have i:=k.val M;generalize H:E.eval Z=U at i;have:((e.drop a).take (b-a)).length=b-a:=aK;have run:∀base cap,U=.slice base e.length cap->e.length<=cap->(execOp E.eval P).run T I=.ok (.value (.slice (if c=a then base else base.map (·.add (a*O))) (b-a) (c-a))) I:=by intro base cap L l;simp[execOp,D,Instr.sliceAt,H,L,iP,Sem.run_bind,run_underlying G.u,Result.andThen_ok,Instr.slice,aqt (T:=T) k (len:=e.length) (cap:=cap) A z B N C w x v,y.io,Sem.run_pure]
 cases i with
 |slnil=>
  have:a=0/\b=0/\c=0:=by simp at j;omega
  obtain⟨rfl,rfl,rfl⟩:=this;refine⟨_,?_,run none 0 rfl<|a1 _⟩;simpa using aE.slnil (S:=S) O|sT _ h=>
  have:a=0/\b=0/\c=0:=by simp at j;omega
  obtain⟨rfl,rfl,rfl⟩:=this;refine⟨_,?_,run (some h) 0 rfl<|a1 _⟩;simpa using aE.sT (S:=S) O h|f _ _ W base cap val l ah aj ad ai=>
  refine⟨_,?_,run _ cap rfl l⟩;have:∀g,b-a=0\/g=base+a*O->aE S (.f O ((e.drop a).take (b-a))) (.slice (some ⟨W,g,none⟩) ((e.drop a).take (b-a)).length (c-a)):=by intro g ae;refine .f O _ W g (c-a) (λQ t=>val (a+Q) t) v v ?_ ?_ ?_;grind;grind;grind
  by_cases ag:c=a;simp_all;simp[iP,Addr.add_lit];simp_all
end
section
variable{T:Program}{z:bV}{s:a2}{m:List (Nat×V)}{o:Nat}{G:Bool}{F:V->Prop}{D:V}
def Xe{X J:TypeId}{j:b0}{Z:Operand}{p:Option Operand}{o q:Operand}{i:List V}{t r w:Int}{R S:IntKind}(e c g:Nat)(D:F (.f j.size ((i.drop e).take (c-e))))(I:P.op=.slice X Z p (some o) (some q):=by rfl)(L:eU z X (.slice J):=by exact fe)(B:z.find J=some j:=by rfl)(l:val m O.h Z=some (.f j.size i):=by rfl)(E:pz m O.h p 0=some t:=by rfl)(C:val m O.h o=some (.int R r):=by rfl)(H:val m O.h q=some (.int S w):=by rfl)(N:t=(e:Int):=by first|rfl|omega)(M:r=(c:Int):=by first|rfl|omega)(Q:w=(g:Int):=by first|rfl|omega)(x:e<=c:=by omega)(y:c<=g:=by omega)(A:g<=i.length:=by exact r1):c2 T z s m G P O F:=.of rfl (λk a b u ad=>by obtain⟨_,_,bu⟩:=L.dO k;exact amZ bu (k.find B).K I (fp a b l (by grind[Op.operands]) rfl) (sd a b E N λZ l=>by grind[Op.operands]) (fp a b C (by grind[Op.operands]) rfl) M (fp a b H (by grind[Op.operands]) rfl) Q x y A) D
end
section
variable{T:Program}{z:bV}{s:a2}{m:List (Nat×V)}{o:Nat}{D:V}
def V8(Y:Nat):List V->Prop|[]=>True|Z::N=>Z.cells.length=Y/\V8 Y N
def Nx{Y:Nat}:∀{N:List V},V8 Y N->∀M∈N,M.cells.length=Y|B::N,⟨b,c⟩,M,a=>by rcases eT.1 a with rfl|a;exact b;exact Nx c M a
def og{X J:TypeId}{c:b0}{Y M:Nat}{j:Array (Nat×Operand)}{b:List V}(R:F (O.fresh M (.n c.size J b) (.d M 0 Y)))(G:P.op=.buildSlice X Y j:=by rfl)(t:P.dst=some M:=by rfl)(C:Nat.blt M o:=by rfl)(g:eU z X (.slice J):=by exact fe)(w:z.find J=some c:=by rfl)(r:rO m O.h j.toList 0=some b:=by rfl)(D:Y=b.length:=by rfl)(y:∀M∈b,M.cells.length=c.size:=by first|exact XR rfl|exact Nx (by repeat (first|exact trivial|refine And.intro rfl ?_))|(simp[V.cells,V.const,V.leaf];done))(q:Nat.ble (Y*c.size) 16777216:=by rfl)(H:0<c.size:=by decide):fR T z s m o ops P O F:=⟨λi k l u N e x Q=>by obtain⟨_,_,bu⟩:=g.dO i;have cG:=i.find w;have:=mq (show Nat.ble _ o=true from C);refine bS.buildSlice x bu cG.K cG.ld G (J4 k l r) D y (cA (mq q) aj) H λA=>?_;rw[t];apply bS.qW λE I L p=>aH.fresh (an:=eD u M (A,0)) (λX g=>hd g) (oQ:=.d M 0 Y) (B:=.n _ J b) (by simp[V.a,V.jb,V.dZ,V.ew,iu];exact .refl _) (by simp[b7,iu];exact .same _ .nil) p;grind[cd.of,hd]⟩
end
section
variable{T:Program}{z:bV}{s:a2}{m:List (Nat×V)}{o:Nat}{G:Bool}{F:V->Prop}{D:V}
def Il{X dq:TypeId}{Z B:Operand}{E W:Int}L A(b:F (.int .i64 ((L%A:Nat):Int)))(c:P.op=.binOp .rem X Z B dq:=by rfl)(e:val m O.h Z=some (.int .i64 E):=by rfl)(g:val m O.h B=some (.int .i64 W):=by rfl)(a:E=(L:Int):=by first|rfl|omega)(a0:W=(A:Int):=by first|rfl|omega)(dJ:A≠0:=by omega):c2 T z s m G P O F:=by subst a a0;exact Ik _ b c e g rfl v
def Bo{X dq:TypeId}{Z B:Operand}{E W:Int}L A(e:F (.int .i64 ((L/A:Nat):Int)))(g:P.op=.binOp .quo X Z B dq:=by rfl)(i:val m O.h Z=some (.int .i64 E):=by rfl)(j:val m O.h B=some (.int .i64 W):=by rfl)(c:E=(L:Int):=by first|rfl|omega)(a0:W=(A:Int):=by first|rfl|omega)(dJ:A≠0:=by omega)(aR:L<9223372036854775808:=by omega):c2 T z s m G P O F:=by
 subst c a0;have a:L/A<=L:=KD _ _;have b:kZ .i64 (L/A:Nat):=by generalize L/A=t at a;exact tP v v
 exact DS _ e g i j rfl v b
end
def y2{T:Program}{s:a2}{o:Nat}{g:bn}{e:List ResultVar}{a:V->bd->Prop}{b:Exit}{O:am}M Y{K:Nat}{J:TypeId}{ak:List V}(l:ak.length=Y)(w:g4 T s o g e a b (O.g9 M K ak))(i:bI O.c M=some (.n K J ak):=by rfl)(k:vq M Y O.h:=by repeat (first|exact trivial|refine And.intro ?_ ?_|exact rfl))(j:sv M Y O.c:=by repeat (first|exact trivial|refine And.intro ?_ ?_|exact rfl)):g4 T s o g e a b O:=by grind[gB]
def Bu{T:Program}{z:bV}{s:a2}{m:List (Nat×V)}{o:Nat}{ops:Array Oper}{P:Oper}{O:am}{F:am->Prop}M Y{K:Nat}{J:TypeId}{ak:List V}(i:ak.length=Y)(w:fR T z s m o ops P (O.g9 M K ak) F)(e:kx ops.toList (O.g9 M K ak).h P=some true:=by rfl)(a:bI O.c M=some (.n K J ak):=by rfl)(g:vq M Y O.h:=by repeat (first|exact trivial|refine And.intro ?_ ?_|exact rfl))(b:sv M Y O.c:=by repeat (first|exact trivial|refine And.intro ?_ ?_|exact rfl)):fR T z s m o ops P O F:=by grind[Bt]
def ay.xd{T:Program}{s:a2}{o:Nat}{t:Code}{O:am}{e:Exit->am->Prop}M Y{K:Nat}{J:TypeId}{ak:List V}(i:ak.length=Y)(w:ay T s o t (O.g9 M K ak) e)(a:bI O.c M=some (.n K J ak):=by rfl)(g:vq M Y O.h:=by repeat (first|exact trivial|refine And.intro ?_ ?_|exact rfl))(b:sv M Y O.c:=by repeat (first|exact trivial|refine And.intro ?_ ?_|exact rfl)):ay T s o t O e:=by grind[ay.g9]
def arG:V->List Nat|.cU X _ _=>[X]|.d X _ _=>[X]|.dj X=>[X]|.nt X=>[X]|.jP X _ _=>[X]|_=>[]
def ac_(X:Nat)(N:List Nat):List Nat:=match gI X N with|true=>N|false=>X::N
def Q9:List Nat->List Nat->List Nat|[],N=>N|X::D,N=>ac_ X<|Q9 D N
def Oe(m:List (Nat×V))(a:List (Nat×V)):List Operand->List Nat|[]=>[]|Z::D=>match val m a Z with|some M=>Q9 (arG M) (Oe m a D)|none=>Oe m a D
def ahH:Op->Bool|.move _|.assign _|.pick .. |.extract .. |.unOp .. |.binOp .. |.build .. |.makeFunc .. |.field .. |.buildSlice .. =>true|.convert .. =>false|_=>false
def Xf(m:List (Nat×V))(a:List (Nat×V))(P:Op):List Nat:=match ahH P with|true=>[]|false=>Oe m a P.operands.toList
def o7:bb->Nat->Nat->Option Nat|[],_,_=>none|(F,_)::D,X,a=>match Nat.beq X F with|true=>some a|false=>o7 D X<|a+1
def xQ(a:bb):List Nat->List Nat|[]=>[]|X::D=>match o7 a X 0 with|some L=>L::xQ a D|none=>xQ a D
def rq:bb->Nat->Option (Nat×bt)|[],_=>none|A::_,0=>some A|_::D,Y+1=>rq D Y
theorem Ut:∀N Y,rq N Y=N[Y]?|[],Y=>ax|A::D,0=>ax|A::D,Y+1=>by rw[rq,Ut D Y];simp
def kw(a:bb):List Nat->Option bb
|[]=>some []|L::D=>match rq a L with
 |some A=>match kw a D with|some N=>some (A::N)|none=>none
 |none=>none
def rJ:bb->Nat->Nat×bt->bb|[],_,_=>[]|_::D,0,A=>A::D|Z::D,Y+1,A=>Z::rJ D Y A
theorem ED:∀N Y A,rJ N Y A=N.set Y A|[],Y,A=>ax|Z::D,0,A=>ax|Z::D,Y+1,A=>by rw[rJ,ED D Y A];simp
def jW:bb->List (Nat×Nat×bt)->bb|c,[]=>c|c,(L,A)::D=>jW (rJ c L A) D
def oi:List Nat->Bool|[]=>true|Z::N=>match gI Z N with|true=>false|false=>oi N
theorem IB:∀{N:List Nat},oi N->N.Nodup|[],_=>af|Z::N,w=>by rw[oi] at w;split at w;cases w;rw[s9];exact⟨λa=>by grind[oe],IB w⟩
def za{a:bb}:∀{aH:List Nat}{rd:bb},kw a aH=some rd->aH.length=rd.length/\∀(b L:Nat) A,aH[b]?=some L->rd[b]?=some A->a[L]?=some A|[],rd,w=>by grind[kw]|L::aH,rd,w=>by unfold kw at w;split at w;split at w;rename_i N c;simp at w;cases za c;grind[Ut];simp_all;simp_all
def qf(L:Nat->Bool):List (Nat×V)->Bool|[]=>true|(_,Z)::D=>match mA L Z with|true=>qf L D|false=>false
def Lf{L:Nat->Bool}{u an:bn}(w:∀X,L X->an X=u X):∀{N:List (Nat×V)},qf L N->cj an N=cj u N|[],_=>rfl|(F,Z)::D,b=>by rw[qf] at b;split at b;rename_i c;show(F,Z.a an)::cj an D=(F,Z.a u)::cj u D;rw[Lg w c,Lf w b];simp_all
def rf(L:Nat->Bool)(skip:List Nat):bb->Nat->Bool|[],_=>true|(F,A)::D,a=>match gI a skip with|true=>rf L skip D (a+1)|false=>match L F,A.As L with|true,true=>rf L skip D (a+1)|_,_=>false
def Ga{L:Nat->Bool}{skip:List Nat}:∀{N:bb}{c:Nat},rf L skip N c->∀a A,N[a]?=some A->c+a∉skip->L A.1/\A.2.As L
|[],_,_,a,A,w,_=>aM|(F,Z)::D,c,w,a,A,g,h=>by
 rw[rf] at w;cases a;grind[absurd,oe]
 next a=>
  let e:=by split at w;exact w;grind
  exact Ga e a A b aM
section
variable(T:Program)(z:bV)(s:a2)(m:List (Nat×V))(o:Nat)
inductive li(ops:Array Oper)(P:Oper)(O:am)(Rd:List Nat)(F:c5->am->Prop):Prop
|mk (wJ:List Nat) (kq:List (Nat×Nat×bt)) (D:V) (rd wr:bb) (sG:List Nat)
 (aio:oi (wJ++kq.map (·.1))) (dc:kw O.c wJ=some rd) (hw:kw O.c (kq.map (·.1))=some wr)
 (bq:sG=[]\/qf (hj sG) O.h) (h9:sG=[]\/rf (hj sG) (kq.map (·.1)) O.c 0)
 (run:e2 T z->s.G=m->dp m->∀u,∃an,cd o u an/\(∀X,hj sG X->an X=u X)/\(∀(H:Nat)(A:Nat×bt)(Ek:Nat×Nat×bt),wr[H]?=some A->kq[H]?=some Ek->(an Ek.2.1).1=(u A.1).1)/\∀ad,dP T s P ⟨cR P (cj u O.h),ad++(ar u rd++ar u wr)⟩ (D.a an) (ad++(ar u rd++ar an (kq.map (·.2)))))
 (hk:F (wJ,kq.map (·.1)) ({O with c:=jW O.c kq}.put P.dst D)):li ops P O Rd F
def Wk:List (Nat×Bool)->Nat->Option Bool|[],_=>none|(a,W)::D,X=>match Nat.beq X a with|true=>some W|false=>Wk D X
def Jo(a b:Nat):List (Nat×V)->List (Nat×V)|[]=>[]|(X,Z)::D=>(X,nD (cF [(a,b)]) Z)::Jo a b D
def Jn(a b:Nat):bb->bb|[]=>[]|(X,A)::D=>(cF [(a,b)] X,A.im<|cF [(a,b)])::Jn a b D
def am.O8(b a:Nat)(O:am):am:=⟨Jo b a<|xu a O.h,Jn b a<|nC a O.c,O.l⟩
def am.vW:List (Nat×Nat)->am->am|[],O=>O|(a,b)::D,O=>am.vW D<|O.O8 a b
def HD(o c:Nat)(b t:bb)(e a:Nat):Bool:=match Nat.blt a o with|true=>true|false=>match Nat.blt a c,o7 b a 0,o7 t e 0 with|true,some L,some g=>Nat.beq L g|_,_,_=>false
def vV(o e:Nat)(b t:bb):List (Nat×Nat)->am->Bool|[],_=>true|(g,a)::D,O=>match HD o e b t g a,gI a (D.map (·.1)),qf (hj [a]) (xu a O.h),lm (hj [a]) (nC a O.c) with|true,false,true,true=>vV o e b t D (O.O8 g a)|_,_,_,_=>false
inductive wB(o:Nat)(bK:List Oper)(aN:List c5)(EC O:am)(e:am->Prop):Prop|mk (Zq:List (Nat×Nat)) (m6:Nat):qE bK aN->vV o m6 EC.c O.c Zq O->m6=o+1000->e (O.vW Zq)->wB o bK aN EC O e
inductive KZ(W:Bool)(mw ct:Prop):Prop|mk:(W=true->mw)->(W=false->ct)->KZ W mw ct
def Gi:Bool->Bool->Bool|true,true=>true|false,false=>true|_,_=>false
theorem RJ{E W:Bool}:Gi E W↔E=W:=by cases E<;>cases W<;>simp[Gi]
def Db:List Nat->(List Nat->Prop)->Prop|[],F=>F []|Z::D,F=>Db D λa=>F<|Z::a
theorem Mw:∀N F,Db N F↔F N|[],F=>lI|Z::D,F=>by rw[Db,Mw D]
def nN(bK:List Oper):Nat->List Oper->List (Nat×Bool)->List c5->am->(List c5->am->Prop)->Prop
|0,_,_,_,_,_=>False|_+1,[],_,acc,O,F=>F acc O|Y+1,P::N,b,acc,O,F=>match P.guard with
 |none=>Db (xQ O.c<|Xf m O.h P.op) (λa=>match kw O.c a with|none=>False|some rd=>match oi a with|false=>False|true=>match qX z m O.h rd P with|some D=>He (Ld z P.op) D (λD=>nN bK Y N b (acc++[(a,[])]) (O.put P.dst D) F)|none=>li T z s m o bK.toArray P O a λcI g=>nN bK Y N b (acc++[cI]) g F)|some (e,I)=>match ud bK e with
  |none=>False|some j=>match j.dst with
   |none=>False|some M=>match eM O.h M with
    |some (.tuple [])=>nN bK Y N b (acc++[([],[])]) (O.put P.dst<|.tuple []) F|some (.bool W)=>match Wk b e with|none=>KZ W (nN bK Y (P::N) ((e,true)::b) acc {O with h:=(M,.bool true)::O.h} F) (nN bK Y (P::N) ((e,false)::b) acc {O with h:=(M,.bool false)::O.h} F)|some i=>match Gi i W with|false=>False|true=>match Gi W I with|false=>nN bK Y N b (acc++[([],[])]) (O.put P.dst<|.tuple []) F|true=>Db (xQ O.c<|Xf m O.h P.op) (λa=>match kw O.c a with|none=>False|some rd=>match oi a with|false=>False|true=>match qX z m O.h rd P with|some D=>He (Ld z P.op) D (λD=>nN bK Y N b (acc++[(a,[])]) (O.put P.dst D) F)|none=>li T z s m o bK.toArray P O a λcI g=>nN bK Y N b (acc++[cI]) g F)
    |_=>False
end
section
variable{T:Program}{z:bV}{s:a2}{m:List (Nat×V)}{o:Nat}
def am.ej(u:bn)(O:am):aw:=⟨cj u O.h,ar u O.c++O.l⟩
def am.BK u(O:am)X Z:(O.put X Z).ej u=(O.ej u).put X (Z.a u):=by cases X<;>rfl
theorem wT{u:bn}{a:bb}{L:Nat}{A:Nat×bt}{ad:bd}:a[L]?=some A->(ar u a++ad)[L]?=some (b7 u A):=by grind[ar]
theorem ZZ:∀a c,(jW c a).length=c.length|[],_=>rfl|(L,A)::D,c=>by rw[jW,ZZ D,ED];simp
theorem EF{F:Nat}:∀{a:List (Nat×Nat×bt)}{c:bb},F∉a.map (·.1)->(jW c a)[F]?=c[F]?|[],_,_=>rfl|(L,A)::D,c,w=>by rw[jW,EF λe=>w b,ED,oA,aa λJ=>w (by simp[J])]
theorem JC{F:Nat}{Z:Nat×bt}:∀{a:List (Nat×Nat×bt)}{c:bb},(a.map (·.1)).Nodup->(F,Z)∈a->F<c.length->(jW c a)[F]?=some Z|[],_,_,w,_=>aM|(L,A)::D,c,b,w,e=>by simp at b;rw[jW];rcases eT.1 w with w|w;grind[EF,ED];exact JC b.2 w (by grind[ED])
def abg{F:Nat}{Z:Nat×bM}:∀{a:qd}{ad:bd},(a.map (·.1)).Nodup->(F,Z)∈a->F<ad.length->(eI ad a)[F]?=some Z|[],_,_,w,_=>aM|A::D,ad,c,w,e=>by simp at c;rw[eI];rcases eT.1 w with w|w;grind[zO];exact abg c.2 w b
def Z0{u an:bn}{a:List (Nat×Nat×bt)}{c:bb}{ad:bd}{h:List Nat}(o:(a.map (·.1)).Nodup)(m:∀L∈a.map (·.1),L<c.length)(ev:∀X,hj h X->an X=u X)(g:h=[]\/rf (hj h) (a.map (·.1)) c 0):eI (ar u c++ad) (a.map λA=>(A.1,b7 an A.2))=ar an (jW c a)++ad:=by refine ho λF=>?_;by_cases i:F∈a.map (·.1);obtain⟨A,aI,rfl⟩:=b4.1 i;rw[abg aM (b4.2 ⟨A,aI,rfl⟩) FH];grind[wT,JC];rw[zO b];rcases gh F c.length with k|l;let e:=bw k;let j:=EF (c:=c) i;rw[wT e,wT<|j.trans e];rcases g with rfl|g;have:=funext λX=>ev X rfl;grind;cases Ga g F _ e b;grind[bt.F_];grind[List.getElem?_append_right,ar,ZZ]
def js(u:bn)(t:bb):List Nat:=t.map λA=>(u A.1).1
def li.ok(W:e2 T z)(S:s.G=m)(U:dp m){ops:Array Oper}{P:Oper}{O:am}{Rd:List Nat}{F:c5->am->Prop}(w:li T z s m o ops P O Rd F)u:∃(cI:c5)(B:qd)(D:V)(an:bn)(y:am),cd o u an/\F cI y/\js an y.c=js u O.c/\(∀A∈B,A.1∈cI.2)/\(∀l,l.length=(O.ej u).l.length->(∀F,F∈cI.1\/F∈cI.2->l[F]?=(O.ej u).l[F]?)->dP T s P ⟨cR P (O.ej u).h,l⟩ D (eI l B))/\({(O.ej u) with l:=eI (O.ej u).l B}).put P.dst D=y.ej an:=by
 let⟨k,b,D,rd,e,aD,ao,ap,av,t,q,run,aj⟩:=w;let⟨an,R,ev,hid,aq⟩:=run W S U u;let H:=IB ao;let⟨aB,Y⟩:=za ap;let⟨al,r⟩:=za av;simp[aS] at al;let ad:js an (({O with c:=jW O.c b}).put P.dst D).c=js u O.c:=by
  let I:(({O with c:=jW O.c b}).put P.dst D).c=jW O.c b:=by cases P.dst<;>rfl
  rw[I];refine ho λg=>?_;rw[js,js,ch,ch];by_cases p:g∈b.map (·.1);obtain⟨A,aI,rfl⟩:=b4.1 p;let⟨x,ah⟩:=lg.1 aI;let ai:x<e.length:=by have:=(dm.1 ah).1;omega
  let Q:=r x A.1 e[x] aM<|bw ai;let aA:(jW O.c b)[A.1]?=some A.2:=JC (pm.1 H).2.1 aI (dm.1 Q).1;grind;rw[EF p];cases ak:O.c[g]?;rfl
  next Z=>simp[iP,fc];rcases q with rfl|q;rw[ev Z.1 rfl];rw[ev Z.1 (Ga q g Z ak aM).1]
 refine⟨_,b.map λA=>(A.1,b7 an A.2),D.a an,an,_,R,aj,ad,?_,λl aC E=>?_,?_⟩;grind;let lP:qd:=(k.zip rd).map λA=>(A.1,b7 u A.2);let i:List (Nat×(Nat×bM)×Nat×bM):=(b.zip e).map λA=>(A.1.1,b7 u A.2,b7 an A.1.2);let ay:lP.map (·.1)=k:=by simp[lP,ez,ig];exact ws v
 let J:lP.map (·.2)=ar u rd:=by
  simp[lP,ez,ig,ar];have:(k.zip rd).map (λZ=>b7 u Z.2)=((k.zip rd).map Prod.snd).map (b7 u):=by simp[ez,ig]
  rw[this,Fu v]
 let az:i.map (·.1)=b.map (·.1):=by
  simp[i,ez,ig];have:(b.zip e).map (λZ=>Z.1.1)=((b.zip e).map Prod.fst).map (·.1):=by simp[ez,ig]
  rw[this,ws v]
 let K:i.map (·.2.1)=ar u e:=by
  simp[i,ez,ig,ar];have:(b.zip e).map (λZ=>b7 u Z.2)=((b.zip e).map Prod.snd).map (b7 u):=by simp[ez,ig]
  rw[this,Fu v]
 let M:i.map (·.2.2)=ar an (b.map (·.2)):=by
  simp[i,ez,ig,ar];have:(b.zip e).map (λZ=>b7 an Z.1.2)=((b.zip e).map Prod.fst).map (λA=>b7 an A.2):=by simp[ez,ig]
  rw[this,ws v]
 let N:i.map (λA=>(A.1,A.2.2))=b.map λA=>(A.1,b7 an A.2):=by
  simp[i,ez,ig];have:(b.zip e).map (λZ=>(Z.1.1,b7 an Z.1.2))=((b.zip e).map Prod.fst).map (λA=>(A.1,b7 an A.2)):=by simp[ez,ig]
  rw[this,ws v]
 rw[<-N];refine dP.C lP i aM ?_ ?_ ?_ (λax=>by rw[J,K,M];exact aq ax);intro A aI;obtain⟨Z,j,rfl⟩:=b4.1 aI;let⟨g,p⟩:=lg.1 j;rw[z1] at p;have:=Y g _ _ p.1 p.2;rw[E Z.1<|.inl<|dh p.1];exact wT this;intro A aI;obtain⟨Z,j,rfl⟩:=b4.1 aI;let⟨g,p⟩:=lg.1 j;rw[z1] at p;have:=r g Z.1.1 Z.2 (by rw[ch,p.1];rfl) p.2;rw[E Z.1.1<|.inr<|b4.2 ⟨Z.1,dh p.1,rfl⟩];exact wT this;intro A aI;obtain⟨Z,j,rfl⟩:=b4.1 aI;let⟨g,p⟩:=lg.1 j;rw[z1] at p;exact hid g Z.2 Z.1 p.2 p.1;let ag:∀L∈b.map (·.1),L<O.c.length:=by
  intro L aR;let⟨g,p⟩:=lg.1 aR;let ae:g<e.length:=by have:=(dm.1 p).1;simp at this;omega
  have:=r g L e[g] p<|bw ae;exact(dm.1 this).1
 rw[am.BK];show(⟨cj u O.h,eI (ar u O.c++O.l) _⟩:aw).put P.dst (D.a an)=(⟨cj an O.h,ar an (jW O.c b)++O.l⟩:aw).put P.dst (D.a an);rw[Z0 (pm.1 H).2.1 ag ev q];rcases t with rfl|t;have:an=u:=funext λX=>ev X rfl;rw[this];rw[Lf ev t]
def arQ(k:e2 T z)(g:s.G=m)(j:dp m){P:Oper}{O:am}{b:List Nat}{e:bb}{D:V}(r:kw O.c b=some e)(E:oi b)(w:qX z m O.h e P=some D)u:∀l,l.length=(O.ej u).l.length->(∀F,F∈b\/F∈[]->l[F]?=(O.ej u).l[F]?)->dP T s P ⟨cR P (O.ej u).h,l⟩ (D.a u) (eI l []):=by
 intro l _ o;let⟨B,q⟩:=za r;let lP:=(b.zip e).map λA=>(A.1,b7 u A.2);let y:lP.map (·.1)=b:=by simp[lP,ez];exact ws v
 let i:lP.map (·.2)=ar u e:=by simp[lP,ez,ig,ar];have:(b.zip e).map (λZ=>b7 u Z.2)=((b.zip e).map Prod.snd).map (b7 u):=af;rw[this,Fu v]
 refine dP.C lP [] (by grind[IB]) ?_ af af λH=>?_;intro A aI;obtain⟨Z,t,rfl⟩:=b4.1 aI;let⟨x,p⟩:=lg.1 t;rw[z1] at p;have:=q x _ _ p.1 p.2;rw[o Z.1<|.inl<|dh p.1];exact wT this;simp[i,rY,gf];exact aa2 k (g▸j)<|g.symm▸w
def Ht{bK:List Oper}{O:am}{P:Oper}{W:Bool}u(w:kx bK O.h P=some W):(O.ej u).guard bK.toArray P=some W:=by have:=rr u w;exact this
def UF{bK:List Oper}{O:am}{P:Oper}u(w:P.guard=none):(O.ej u).guard bK.toArray P=some true:=Ht u (by grind[kx])
def PY(aF:e2 T z)(aD:s.G=m)(aE:dp m){bK:List Oper}:∀Y N(q:List (Nat×Bool)) acc O F,nN T z s m o bK Y N q acc O F->∀u(e:List c5->aw->Prop),(∀an aN r,cd o u an->F aN r->js an r.c=js u O.c->∀R,(∀X Z,(r.ej an).h.lookup X=some Z->R.h.lookup X=some Z)->R.l=(r.ej an).l->e aN R)->∀a,(∀X Z,(O.ej u).h.lookup X=some Z->a.h.lookup X=some Z)->a.l=(O.ej u).l->∃aN,bp T s bK.toArray N aN a (·=.normal/\e (acc++aN) ·):=by
 intro Y
 induction Y
 intro N q acc O F w;exact w.elim
 next Y ai=>
  intro N q acc O F w u e B a t k;cases N;exact⟨[],bp.nil ⟨rfl,by rw[gf];exact B u acc O (cd.refl o u) w rfl a t k⟩⟩
  next P N=>
   have aZ:∀X Z,(cR P (O.ej u).h).lookup X=some Z->(cR P a.h).lookup X=some Z:=λX Z p=>by let⟨y,L⟩:=Eu p;have:=t X Z L;have j:gQ (O.ej u) a:=⟨t,k.symm⟩;exact j.cR P X Z p
   have aG:∀W,(O.ej u).guard bK.toArray P=some W->a.guard bK.toArray P=some W:=λW a0=>gQ.guard (dd:=O.ej u) (R:=a) ⟨t,k.symm⟩ a0;have aC:∀{cI:c5}{aP:qd}{D:V}{al:aw},(O.ej u).guard bK.toArray P=some true->(∀A∈aP,A.1∈cI.2)->(∀l,l.length=(O.ej u).l.length->(∀F,F∈cI.1\/F∈cI.2->l[F]?=(O.ej u).l[F]?)->dP T s P ⟨cR P (O.ej u).h,l⟩ D (eI l aP))->({(O.ej u) with l:=eI (O.ej u).l aP}).put P.dst D=al->(∀x,(∀X Z,al.h.lookup X=some Z->x.h.lookup X=some Z)->x.l=al.l->∃aN,bp T s bK.toArray N aN x (·=.normal/\e (acc++cI::aN) ·))->∃aN,bp T s bK.toArray (P::N) aN a (·=.normal/\e (acc++aN) ·):=by intro cI aP D al g aA av aH j;let⟨aN,ae⟩:=j (({a with l:=eI a.l aP}).put P.dst D) (by rw[<-aH];have aB:gQ ⟨(O.ej u).h,eI (O.ej u).l aP⟩ ⟨a.h,eI a.l aP⟩:=⟨t,by rw[k]⟩;exact(aB.put P.dst D).h) (by rw[<-aH];cases P.dst<;>(show eI _ _=eI _ _;rw[k]));refine⟨cI::aN,bp.lq aP (aG _ g) aA (λl a4 a3=>?_) ae⟩;have y:=av l b λF j=>b;intro E I aM U aO aR aT;exact y E I aM ⟨U.ci,λX Z p=>U.h X Z<|aZ X Z p,U.fk,U.size,U.defers⟩ aO aR aT
   have aL:∀{D:V},(O.ej u).guard bK.toArray P=some true->∀{K:List Nat}{rd:bb},kw O.c K=some rd->oi K->qX z m O.h rd P=some D->∀i,nN T z s m o bK Y N i (acc++[(K,[])]) (O.put P.dst D) F->∃aN,bp T s bK.toArray (P::N) aN a (·=.normal/\e (acc++aN) ·):=by intro D g K rd ah aY az i j;refine aC (cI:=(K,[])) (aP:=[]) g af (arQ aF aD aE ah aY az u) rfl λx y L=>?_;let⟨aN,ae⟩:=ai N i _ (O.put P.dst D) F j u e (λak aN aj ad Q S=>B ak aN aj ad Q<|S.trans (by cases P.dst<;>rfl)) x (by rw[am.BK];exact y) (by rw[L,am.BK];rfl);exact⟨aN,b⟩
   have aJ:(O.ej u).guard bK.toArray P=some true->∀Rd i,li T z s m o bK.toArray P O Rd (λcI r=>nN T z s m o bK Y N i (acc++[cI]) r F)->∃aN,bp T s bK.toArray (P::N) aN a (·=.normal/\e (acc++aN) ·):=by intro g Rd i j;let⟨cI,aP,D,an,r,aS,aX,aW,aA,av,a2⟩:=j.ok aF aD aE u;refine aC g aA av a2 λx y L=>?_;let⟨aN,ae⟩:=ai N i _ r F aX an e (λak aN aj ad Q S=>B ak aN aj (aS.trans ad) Q<|S.trans aW) x y L;exact⟨aN,by simpa using ae⟩
   have aK:(O.ej u).guard bK.toArray P=some false->∀i,nN T z s m o bK Y N i (acc++[([],[])]) (O.put P.dst (.tuple [])) F->∃aN,bp T s bK.toArray (P::N) aN a (·=.normal/\e (acc++aN) ·):=by intro g i j;let⟨aN,ae⟩:=ai N i _ _ F j u e (λak aN aj ad Q S=>B ak aN aj ad Q<|S.trans (by cases P.dst<;>rfl)) (a.put P.dst<|.tuple []) (by rw[am.BK];have aB:gQ (O.ej u) a:=⟨t,k.symm⟩;exact(aB.put P.dst<|.tuple []).h) (by rw[am.BK];cases P.dst<;>exact k);exact⟨([],[])::aN,bp.skip (aG _ g) b⟩
   unfold nN at w;split at w;rename_i ag;have g:=UF (bK:=bK) (O:=O) u ag;rw[Mw] at w;split at w;exact w.elim;rename_i rd ay;split at w;grind;rename_i aq;split at w;rename_i D ah;rw[Dc] at w;exact aL g ay aq ah q w;exact aJ g _ q w;rename_i a5 I ag;split at w;exact w.elim;rename_i a6 ax;split at w;exact w.elim;rename_i M ap;split at w;rename_i H;exact aK (Ht u (by unfold kx;rw[ag];simp[ax,ap,H])) q w;rename_i W H;split at w;cases w
   next az aV=>
    have aI:∀ao,W=ao->∀X Z,(({O with h:=(M,.bool ao)::O.h}).ej u).h.lookup X=some Z->a.h.lookup X=some Z:=by
     intro ao aU X Z p;apply t X Z;simp[am.ej,cj,gU,oB] at p⊢;split at p;rename_i he;have:X=M:=by simpa using he
     subst this;rw[pL] at H;have:=jQ u O.h X;rw[H] at this;simp[cj] at this;rw[this,aU];exact p;exact p
    cases a0:W with|true=>exact ai (P::N) _ acc _ F (az a0) u e B a (aI true a0) k|false=>exact ai (P::N) _ acc _ F (aV a0) u e B a (aI false a0) k
   split at w;exact w.elim;split at w;rename_i C;have:W≠I:=λJ=>by rw[RJ.2 J] at C;cases C
   refine aK (Ht u ?_) q w;unfold kx;rw[ag];simp[ax,ap,H];cases W<;>cases I<;>first|rfl|exact absurd rfl this
   rename_i C;have C:=RJ.1 C;have g:(O.ej u).guard bK.toArray P=some true:=Ht u (by unfold kx;rw[ag];simp[ax,ap,H];subst C;cases W<;>rfl);rw[Mw] at w;split at w;exact w.elim;rename_i rd ay;split at w;exact w.elim;rename_i aq;split at w;rename_i D ah;rw[Dc] at w;exact aL g ay aq ah q w;exact aJ g _ q w;exact w.elim
def Zf{u c:bn}{g b:Nat}(w:∀X,hj [b] X->c (cF [(g,b)] X)=u X):∀{N:List (Nat×V)},qf (hj [b]) N->cj c (Jo g b N)=cj u N|[],_=>rfl|(F,Z)::D,e=>by rw[qf] at e;split at e;rename_i h;show(F,(nD _ Z).a c)::cj c _=(F,Z.a u)::cj u D;rw[Ex w h,Zf w e];simp_all
def Ze{u b:bn}{e a:Nat}(w:∀X,hj [a] X->b (cF [(e,a)] X)=u X):∀{N:bb},lm (hj [a]) N->ar b (Jn e a N)=ar u N|[],_=>rfl|(F,A)::D,c=>by rw[lm] at c;split at c;rename_i g h;show b7 b _::ar b _=b7 u _::ar u D;rw[bt.Js w g h,Ze w c];simp_all
def OR:∀{N:bb}{X a L:Nat},o7 N X a=some L->a<=L/\∃A,N[L-a]?=some A/\A.1=X|[],_,_,_,w=>by grind[o7]|(F,Z)::D,X,a,L,w=>by rw[o7] at w;split at w;simp_all;cases OR w;grind
theorem aiu{q:Nat}{c t:bb}{h b:Nat}{u an:bn}(w:HD o q c t h b)(k:cd o u an)(l:js an t=js u c):o<=b->(an h).1=(an b).1:=by intro hm;unfold HD at w;split at w;grind[Av];split at w;rename_i L r _ i j;have aR:=mo w;subst aR;let⟨_,Z,e,m⟩:=OR i;let⟨_,B,g,p⟩:=OR j;have a:=cW (·[L]?) l;simp[js,ch] at a;rw[Qw] at e g;rw[e,g] at a;simp at a;rw[m,p] at a;rw[a,k.id b hm];simp_all
def Zg{h:Nat}{a t:bb}{u an:bn}(e:cd o u an)(g:js an t=js u a):∀{c:List (Nat×Nat)}{O:am},vV o h a t c O->∀A∈c,o<=A.2->(an A.1).1=(an A.2).1|[],_,_,A,aI=>b|(i,j)::D,O,w,A,aI=>by rw[vV] at w;split at w;rcases eT.1 aI with aI|aI;grind[aiu];exact Zg e g w A aI;simp_all
def aH.vW{C:Nat}(K:C=o+1000){F t:bb}:∀p{O:am}{u:bn}{E:Act}{I:World}{g:aF},(∀A∈p,o<=A.2->(u A.1).1=(u A.2).1)->vV o C F t p O->aH s (O.a u) E I g->∃e,cd o u e/\aH s ((O.vW p).a e) E I g
|[],O,u,E,I,g,_,_,w=>⟨u,cd.refl o u,w⟩|(i,b)::D,O,u,E,I,g,hid,m,w=>by
 rw[vV] at m;split at m;rename_i j q G H;let⟨S,Q,R⟩:=Ew (u:=u) (an:=u) (M:=b) (λ_ _=>rfl) O.c;let y:aH s ⟨cj u<|xu b O.h,O.l++ar u (nC b O.c)⟩ E I g:=by let r:aH s ⟨cj u O.h,O.l++S⟩ E I g:=⟨w.ci.drop<|s3 (s4 _) Q,w.h,w.fk,w.size,w.defers⟩;exact r.n2 (aF.le.refl g) r.ci fS.eZ fS.one (Bg (λ_ _=>rfl) O.h)<|bW.nf R<|bW.refl O.l
 let e:=eD u b<|u i;let ev:∀X,hj [b] X->e (cF [(i,b)] X)=u X:=by
  intro X B;simp[cF];split;grind[Nat.eq_of_beq_eq_true,eD];let z:X≠b:=λJ=>by simp_all[hj,gI]
  grind[eD]
 let J:⟨cj u<|xu b O.h,O.l++ar u (nC b O.c)⟩=(O.O8 i b).a e:=by show _=(⟨cj e (Jo i b (xu b O.h)),O.l++ar e (Jn i b (nC b O.c))⟩:aw);rw[Zf ev G,Ze ev H]
 rw[J] at y;let x:cd o u e:=by refine⟨λX B=>?_,λX B=>?_⟩;by_cases P:X=b;subst P;show(eD u X (u i) X).1=_;simp_all[iu];grind[eD,hd];refine hd λrfl=>?_;unfold HD at j;split at j;rename_i k;have:=Av.1 k;omega;split at j;rename_i k _ _;have:=Av.1 k;omega;cases j
 let N:∀A∈D,o<=A.2->(e A.1).1=(e A.2).1:=by
  intro A aI hm;let z:A.1≠b:=λJ=>by have:b∈D.map (·.1):=b4.2 ⟨A,aI,J⟩;rw[oe.2 this] at q;cases q
  show(eD u b (u i) A.1).1=_;rw[hd z,x.id A.2 hm];exact hid A (by simp[aI]) hm
 let⟨T,L,U⟩:=aH.vW K D N m y;exists T,x.trans L;simp_all
def r4(o:Nat)(u:bn)(O:am)(e:Exit->am->Prop)(R:aw):Prop:=∃an a g b,cd o u an/\b=o+1000/\js an a.c=js u O.c/\vV o b O.c a.c g a/\e .normal (a.vW g)/\(∀X Z,(a.ej an).h.lookup X=some Z->R.h.lookup X=some Z)/\R.l=(a.ej an).l
def r4.fin{t:Code}{u:bn}{O:am}{e:Exit->am->Prop}{i:Exit->aw->Prop}(z:dE T s t (O.ej u) (·=.normal/\r4 o u O e ·))(q:∀an J g,cd o u an->e J g->i J (g.a an)):dE T s t (O.a u) i:=by intro E I m c;refine Code.wp_mono ?_<|z E I m ⟨c.ci.perm rZ,c.h,c.fk,c.size,c.defers⟩;rintro J D K ⟨H,l,⟨rfl,an,g,B,G,j,p,x,k,aI,A,y⟩,r⟩;let b:=r.wd A;rw[y] at b;let⟨C,w,F⟩:=aH.vW p B (Zg j x k) k ⟨b.ci.perm rZ,b.h,b.fk,b.size,b.defers⟩;exists _,l,q C _ _ (j.trans w) aI
def ay.agx(l:T.follows .mixedOrders)(i:e2 T z)(c:s.G=m)(g:dp m)(B:s.n=Y){id:Nat}{ops:Array Oper}{O:am}{e:Exit->am->Prop}(x:qo Y ops.toList)(k:pK ops.toList)(w:nN T z s m o ops.toList 4000 ops.toList [] [] O (wB o ops.toList · O · (e .normal))):ay T s o (.region id ops true) O e:=⟨λu q h=>by
 let J:ops=ops.toList.toArray:=by simp
 let⟨aN,p,b,_,a⟩:=PY i c g _ _ [] [] O _ w u (qE ops.toList ·=true/\r4 o u O e ·)
  (λan aN I t j y R E C=>by
   cases j
   next H F A D r aI=>grind[r4]) _ (λ_ _ w=>w) rfl
 exact r4.fin (dE.Th (id:=id) l (by grind[yU]) k a.1 ⟨p,b,rfl,a.2⟩) h⟩
end
section
variable{T:Program}{z:bV}{s:a2}{m:List (Nat×V)}{o:Nat}{F:c5->am->Prop}
inductive yt(T:Program)(z:bV)(s:a2)(m:List (Nat×V))(P:Oper)(h:List (Nat×V))(rd:bb)(F:V->Prop):Prop|mk (D:V):(∀ad,c2 T z s m false P ⟨h,rd,ad⟩ (·=D))->F D->yt T z s m P h rd F
def asQ{a:bb}(w:yt T z s m P O.h a (λD=>F (Rd,[])<|O.put P.dst D))(l:kw O.c Rd=some a:=by rfl)(p:oi Rd:=by rfl):li T z s m o ops P O Rd F:=by let⟨D,b,k⟩:=w;refine .mk Rd [] D a [] [] aK l rfl (.inl rfl) (.inl rfl) (λj g i u=>⟨u,cd.refl o u,λ_ _=>rfl,λq A r w _=>bB,λad=>?_⟩) k;obtain⟨t,e,rfl⟩:=b ad;have:=e j g i u _<|.inr rfl;show dP T s P ⟨cR P _,ad++(ar u a++[])⟩ _ (ad++(ar u a++[]));rw[gf];trivial
def sZ(b:s.G=m)(c:dp m){Z:Operand}{M:V}(w:val m O.h Z=some M)(e:Z∈P.op.operands.toList){u:bn}{ad:bd}:(⟨cR P (cj u O.h),ad⟩:aw).val s Z=some (M.a u):=g3 b c w e u
def xr{bm:Type}{N:List bm}{Z:bm}:(N++[Z])[N.length]?=some Z:=af
def V.alJ:V->Bool|.agg _|.vec .. =>false|_=>true
def ZV{bm:Type}N(Z B:bm):(N++[Z]).set N.length B=N++[B]:=af
def eJ{X J:TypeId}{k:b0}{L Z:Operand}{i t j:Nat}{e:List V}{g:V}(C:F ([],[j]) ({O with c:=rJ O.c j (i,.cell J<|.agg<|e.take t++g.cells++e.drop (t+g.cells.length))}.put P.dst .undef))(E:P.op=.store X L Z:=by rfl)(G:z.find X=some k:=by rfl)(aR:val m O.h L=some (.cU i 0 t):=by rfl)(H:val m O.h Z=some g:=by rfl)(N:o7 O.c i 0=some j:=by rfl)(M:rq O.c j=some (i,.cell J<|.agg e):=by rfl)(r:g.fits:=by rfl)(I:g.cells.length=k.size:=by rfl)(l:Nat.ble (t+k.size) e.length:=by rfl):li T z s m o ops P O Rd F:=by
 refine .mk [] [(j,(i,.cell J _))] .undef [] [(i,.cell J<|.agg e)] [] rfl rfl yk (.inl rfl) (.inl rfl)
  (λy p q u=>⟨u,cd.refl o u,λ_ _=>rfl,λS A U aI Q=>by grind,λad=>?_⟩) C
 let l:=mq l;let D:(e.take t++g.cells++e.drop (t+g.cells.length)).length=e.length:=aK;let B:=V.oh (u:=u) r;show dP T s P _ _ (ad++[((u i).1,.n (u i).2 (V.agg _).cells.length J [(V.agg _).a u])]);let w:((V.agg e).a u).nJ t (g.a u).cells=(V.agg (e.take t++g.cells++e.drop (t+g.cells.length))).a u:=by show V.agg _=V.agg _;rw[B,aS,cD,cD,z4,Ks]
 let x:(V.agg _).cells.length=(V.agg e).cells.length:=D;have:=yZ (s:=s) (R:=⟨cR P<|cj u O.h,ad++[((u i).1,.n (u i).2 (V.agg e).cells.length J [(V.agg e).a u])]⟩) (F:=ad.length) (y.find G).K E (sZ p q aR (by grind[Op.operands])) xr (el:=(V.agg e).a u) rfl (sZ p q H (by grind[Op.operands])) (V.ub r) b (by rw[V.ua];exact l)
  (show(e.map (V.dZ u)).take t++(g.a u).cells++(e.map (V.dZ u)).drop _=(e.map (V.dZ u)).take t++(g.a u).cells++(e.map (V.dZ u)).drop (t+k.size) by simp_all)
 simp[ZV] at this;rw[w] at this;rw[x];trivial
def asR{X J:TypeId}{q:b0}{L Z:Operand}{e j:Nat}{g i:V}(x:F ([],[j]) ({O with c:=rJ O.c j (e,.cell J i)}.put P.dst .undef))(y:P.op=.store X L Z:=by rfl)(C:z.find X=some q:=by rfl)(aR:val m O.h L=some (.cU e 0 0):=by rfl)(D:val m O.h Z=some i:=by rfl)(M:o7 O.c e 0=some j:=by rfl)(H:rq O.c j=some (e,.cell J g):=by rfl)(E:g.alJ:=by rfl)(p:i.one:=by rfl)(w:i.fits:=by rfl)(G:q.size=1:=by rfl):li T z s m o ops P O Rd F:=by
 refine .mk [] [(j,(e,.cell J i))] .undef [] [(e,.cell J g)] [] rfl rfl yk (.inl rfl) (.inl rfl)
  (λt k l u=>⟨u,cd.refl o u,λ_ _=>rfl,λQ A S aI N=>by grind,λad=>?_⟩) x
 let dJ:g.cells=[g]:=by cases g<;>first|rfl|trivial
 let r:(i.a u).cells=[i.a u]:=Bw<|V.Iy p;let I:(g.a u).cells.length=1:=by rw[V.ua,dJ];rfl
 let B:(g.a u).nJ 0 (i.a u).cells=i.a u:=by
  rw[r];unfold V.nJ;split;cases g<;>first|trivial|trivial
  rfl
 show dP T s P ⟨cR P _,ad++[((u e).1,.n (u e).2 _ J _)]⟩ _ (ad++[((u e).1,.n (u e).2 _ J _)]);have:=yZ (s:=s) (R:=⟨cR P _,ad++[((u e).1,.n (u e).2 g.cells.length J [g.a u])]⟩) (t.find C).K y (sZ k l aR (by grind[Op.operands])) xr rfl (sZ k l D (by grind[Op.operands])) (V.ub w) b v
  aM
 simp at this;rw[B] at this;rw[Bw p];rw[dJ] at this⊢;trivial
def uE{X J:TypeId}{j:b0}{L Z:Operand}{a i t K g:Nat}{xs:List V}{b:V}ak e k(D:F ([],[g]) ({O with c:=rJ O.c g (a,.n K J ak)}.put P.dst .undef))(r:P.op=.store X L Z:=by rfl)(I:z.find X=some j:=by rfl)(aR:val m O.h L=some (.cU a i t):=by rfl)(M:val m O.h Z=some b:=by rfl)(Q:o7 O.c a 0=some g:=by rfl)(N:rq O.c g=some (a,.n K J xs):=by rfl)(p:xs[i]?=some e:=by exact Da)(E:b.plain:=by rfl)(C:b.fits:=by rfl)(H:b.cells.length=j.size:=by rfl)(y:t+j.size<=e.cells.length:=by exact QH)(B:e.nJ t b.cells=k:=by rfl)(G:k.cells=e.cells.take t++b.cells++e.cells.drop (t+j.size):=by rfl)(aG:xs.set i k=ak:=by exact aar):li T z s m o ops P O Rd F:=by
 subst aG B;refine .mk [] [(g,(a,.n K J _))] _ [] [(a,.n K J xs)] [] rfl rfl yk (.inl rfl) (.inl rfl)
  (λx l q u=>⟨u,cd.refl o u,λ_ _=>rfl,λi A S aI R=>by grind,λad=>?_⟩) D
 let w:=sZ l q M (by rw[r];simp[Op.operands]) (u:=u) (ad:=(ad++[((u a).1,bM.n (u a).2 K J xs)]));rw[V.eC E] at w;have:=yZ (x.find I).K r (sZ l q aR (by grind[Op.operands])) xr p w C H y G;simp at this;trivial
def kQ.more{i:bb}{ad:bd}{B:Operand}{b3:TypeId}{K:Nat}{j:List V}(w:kQ z m ⟨O.h,i,[]⟩ B b3 K j):kQ z m ⟨O.h,i,ad⟩ B b3 K j:=by cases w with|f e c a b g=>exact .f e c a b g|nil e c a b=>exact .nil e c a b|str e c a b=>exact .str e c a b|d e c a b g l k=>exact .d e c a b g l k
theorem kQ.cR{i:bb}{ad:bd}{B:Operand}{b3:TypeId}{K:Nat}{j:List V}(w:kQ z m ⟨O.h,i,ad⟩ B b3 K j)(o:B∈P.op.operands.toList):kQ z m ⟨ey.cR P O.h,i,ad⟩ B b3 K j:=by
 let J:∀{M:V},val m O.h B=some M->val m (ey.cR P O.h) B=some M:=λw=>by grind[wc]
 cases w with|f e c a b g=>exact .f (J e) c a b g|nil e c a b=>exact .nil (J e) c a b|str e c a b=>exact .str (J e) c a b|d e c a b g l k=>exact .d (J e) c a b g l k
def Pc(L:Nat):List Nat->List Nat|[]=>[]|Z::D=>match Nat.beq Z L with|true=>Pc L D|false=>Z::Pc L D
def jB{X b3 J:TypeId}{e:b0}{Z B:Operand}{b r i:Nat}{l:List Nat}{j:bb}{xs k:List V}g ak(D:F (l,[i]) ({O with c:=rJ O.c i (g,.n e.size J ak)}.put P.dst (.d g 0 ak.length)))(G:P.op=.call {callee:=.builtin .append,args:=#[Z,B],argTypes:=#[X,b3]}:=by rfl)(q:eU z X (.slice J):=by exact fe)(C:z.find J=some e:=by rfl)(L:val m O.h Z=some (.d b 0 r):=by rfl)(U:o7 O.c b 0=some i:=by rfl)(N:rq O.c i=some (b,.n e.size J xs):=by rfl)(M:Pc i Rd=l:=by rfl)(H:kw O.c l=some j:=by rfl)(E:oi (l++[i]):=by rfl)(fC:kQ z m ⟨O.h,j,[]⟩ B b3 e.size k:=by exact Co)(hlen:r=xs.length:=by first|rfl|(simp;done))(ap:e.z.cells.size=e.size:=by rfl)(a0:Nat.ble e.bytes 8388608:=by rfl)(aG:xs++k=ak:=by exact Lk)(bq:ak.length<=16777216:=by exact r1)(S:Nat.blt g o:=by rfl)(lu:qf (hj [g]) O.h:=by kernel_rfl)(vA:rf (hj [g]) [i] O.c 0:=by kernel_rfl)(Q:Nat.beq b g=false:=by rfl):li T z s m o ops P O Rd F:=by
 refine .mk l [(i,(g,.n e.size J ak))] (.d g 0 ak.length) j [(b,.n e.size J xs)] [g] E H yk (.inr lu) (.inr vA)
  (λp w x u=>⟨eD u g ((u b).1,(u b).2+1),cd.of λX q=>hd p2,λX q=>hd λJ=>QC,λY A ae aI W=>by grind[eD],λad=>?_⟩) D
 obtain⟨_,_,bu⟩:=q.dO p;have cG:=p.find C;have:r+k.length=ak.length:=by rw[<-aG,hlen];simp
 let R:aw:=⟨cR P<|cj u O.h,ad++ar u j++[((u b).1,.n (u b).2 e.size J xs)]⟩;have I:iW T s R B b3 e.size k.length k:=by
  have dJ:kQ z m ⟨O.h,j,ad⟩ B b3 e.size k:=fC.more;have t:=(kQ.cR (P:=P) (O:=O) dJ (by grind[Op.operands,Call.operands])).src p w x u;have y:(⟨cR P O.h,j,ad⟩:am).a u=⟨cR P (cj u O.h),ad++ar u j⟩:=by show(⟨cj u (cR P O.h),_⟩:aw)=_;rw[vZ]
  rw[y] at t;exact t.more<|Qr _ _
 have:=C1 (s:=s) (R:=R) bu cG.K cG.ld ap G (sZ w x L (by grind[Op.operands,Call.operands])) xr v I (by(simp[maxLen];omega)) (by simp_all[yI]);simp[R,ZV] at this;have:(V.d g 0 ak.length).a (eD u g ((u b).1,(u b).2+1))=.a7 (u b).1 ((u b).2+1) 0 ak.length:=by simp[V.a,V.jb,V.dZ,V.ew,eD]
 have:ar (eD u g ((u b).1,(u b).2+1)) [(g,bt.n e.size J ak)]=[((u b).1,.n ((u b).2+1) e.size J ak)]:=by simp[ar,b7,bt.ad,eD]
 show dP T s P ⟨cR P (cj u O.h),ad++(ar u j++[((u b).1,.n (u b).2 e.size J xs)])⟩ _ _;simp_all
end
inductive lO(K:Nat):V->V->Prop|nil:lO K .aQ (.f K [])
theorem lO.one{K:Nat}:uX (lO K):=λZ B w=>by cases w;trivial
theorem lO.eZ{K:Nat}{a:aF}:∀Z B,lO K Z B->∀U,aE a Z U->aE a B U:=λZ B w U b=>by cases w;cases b;exact .slnil K
def y0(K:Nat):V->V|.aQ=>.f K []|Z=>Z
def AM(K:Nat)(a:List Nat):List (Nat×V)->List (Nat×V)|[]=>[]|(X,Z)::D=>match gI X a with|true=>(X,y0 K Z)::AM K a D|false=>(X,Z)::AM K a D
def w4(K:Nat)(b:List Nat):V->V|.agg N=>.agg (w3 N 0)|Z=>y0 K Z
 where w3:List V->Nat->List V|[],_=>[]|Z::D,a=>match gI a b with|true=>y0 K Z::w3 D (a+1)|false=>Z::w3 D (a+1)
def Me(K:Nat)(a:List Nat):bt->bt|.cell J Z=>.cell J (w4 K a Z)|Z=>Z
def G2(K X:Nat)(a:List Nat):bb->bb|[]=>[]|(F,L)::D=>match Nat.beq X F with|true=>(F,Me K a L)::D|false=>(F,L)::G2 K X a D
def am.qs(O:am)(K:Nat)(a:List Nat):am:={O with h:=AM K a O.h}
def am.jL(O:am)(K X:Nat)(a:List Nat):am:={O with c:=G2 K X a O.c}
section
variable{u:bn}{K:Nat}
def TI{Z:V}:eA (lO K) (Z.a u) ((y0 K Z).a u):=by cases Z<;>first|exact .refl _|exact .base _ _ .nil
def agU{Z:V}:eA (lO K) (Z.dZ u) ((y0 K Z).dZ u):=by cases Z<;>first|exact .refl _|exact .base _ _ .nil
def TJ{pB:List Nat}:∀N a b,(w4.w3 K pB N a)[b]?=(N[b]?).map λZ=>match gI (a+b) pB with|true=>y0 K Z|false=>Z
|[],a,b=>ax|Z::D,a,0=>by grind[w4.w3]|Z::D,a,b+1=>by have:=TJ (pB:=pB) D (a+1) b;grind[w4.w3,List.getElem?_cons_succ]
def Md{b:List Nat}:∀N a,(w4.w3 K b N a).length=N.length|[],a=>ax|Z::D,a=>by rw[w4.w3];split<;>simp[Md D]
def agY{a:List Nat}Z:(w4 K a Z).cells.length=Z.cells.length:=by cases Z<;>first|rfl|simp[w4,V.cells,Md]
def agV{e:List Nat}{F:Nat}{L:bt}{N c:bd}(w:bW (lO K) N c):bW (lO K) (b7 u (F,L)::N) (b7 u (F,Me K e L)::c):=by
 cases L with
 |cell J Z=>simp[Me,b7,bt.ad,agY];exact .BP (by
  cases Z with
  |agg N=>
   refine .agg _ _ (by simp[Md]) λh Z B b a=>?_;rw[ch] at b a;rw[TJ] at a;cases g:N[h]?;simp_all
   next k=>rw[g] at b a;simp at b a;subst b;subst a;split;exact agU;exact .refl _|_=>exact TI) w|_=>exact .same _ w
def TK{a:List Nat}{X:Nat}:∀N,bW (lO K) (ar u N) (ar u (G2 K X a N))|[]=>.nil|(F,L)::D=>by rw[G2];split;exact agV<|bW.refl _;exact .same _<|TK D
def TL{JT:List Nat}:∀N X,(AM K JT N).lookup X=(N.lookup X).map λZ=>match gI X JT with|true=>y0 K Z|false=>Z
|[],_=>rfl|(F,Z)::D,X=>by rw[AM];cases w:X==F with|true=>grind|false=>let a:=TL (JT:=JT) D X;grind
def aH.qs{s:a2}{O:am}{E:Act}{I:World}{c:aF}e(w:aH s (O.a u) E I c):aH s ((O.qs K e).a u) E I c:=w.n2 (aF.le.refl c) w.ci lO.eZ lO.one (λX B b=>by
 change (cj u<|AM K e _).lookup X=some B at b;rw[jQ,TL] at b;show∃Z,(cj u _).lookup X=some Z/\_;rw[jQ];cases g:O.h.lookup X;simp_all
 next Z=>rw[g] at b;simp at b;subst b;exists _,rfl;split;exact TI;exact .refl _)<|bW.refl _
def aH.jL{s:a2}{O:am}{E:Act}{I:World}{b:aF}X c(w:aH s (O.a u) E I b):aH s ((O.jL K X c).a u) E I b:=w.n2 (aF.le.refl b) w.ci lO.eZ lO.one (λX B e=>⟨B,e,.refl _⟩)<|bW.nf (TK _)<|bW.refl _
end
section
variable{T:Program}{z:bV}{s:a2}{m:List (Nat×V)}{o:Nat}
def ay.qs{t:Code}{e:Exit->am->Prop}K a(w:ay T s o t (O.qs K a) e):ay T s o t O e:=⟨λu c g E I b h=>w.run u c g E I b<|aH.qs a h⟩
def ay.jL{t:Code}{e:Exit->am->Prop}K X a(w:ay T s o t (O.jL K X a) e):ay T s o t O e:=⟨λu c g E I b h=>w.run u c g E I b<|aH.jL X a h⟩
def vk{g:bn}{c:List ResultVar}{a:V->bd->Prop}{b:Exit}K e(w:g4 T s o g c a b (O.qs K e)):g4 T s o g c a b O:=⟨w.he,λu j E I h i=>w.run u j E I h<|aH.qs e i⟩
def fA{g:bn}{e:List ResultVar}{a:V->bd->Prop}{c:Exit}K X b(w:g4 T s o g e a c (O.jL K X b)):g4 T s o g e a c O:=⟨w.he,λu j E I h i=>w.run u j E I h<|aH.jL X b i⟩
end
section
variable{T:Program}{s:a2}
def Wp{X:TypeId}{M:TypeDesc}{K bs:Nat}{Z:Operand}{id al a t F O:Nat}{J:TypeId}{e:List V}{b D:V}(z:bG T X M K bs)(p:lv M=false)(B:R.val s Z=some (.own id al a t))(r:R.l[F]?=some (id,.n al O J e))(q:e[a]?=some b)(k:b.cells[t]?=some D){E:Act}{I:World}{c:aF}(j:aH s R E I c):∃U,aE c D U/\(do loadVar X (<-asAddr (E.eval Z))).run T I=.ok U I:=by
 let⟨N,W,S,w,a0,y,A⟩:=j.own B r;obtain⟨_,_,⟨L,_⟩|⟨C,G,g,o,ap,Q,H,P,u⟩⟩:=w;simp_all;rw[a0] at g;cases g;let⟨i,h,x⟩:=u a t b D q k;rw[y] at h;let m:I.cell? ⟨W,N.base+a*O+t,none⟩=some i:=by simp[World.cell?,o,h]
 exact⟨i,x,by simp[A,asAddr,loadVar,z.pV,p,m]⟩
def Wq{X:TypeId}{M:TypeDesc}{Y bs:Nat}{Z:Operand}{id al b t F O:Nat}{J:TypeId}{m:List V}{c:V}{sD:List V}(q:bG T X M Y bs)(z:lv M)(ah:R.val s Z=some (.own id al b t))(C:R.l[F]?=some (id,.n al O J m))(A:m[b]?=some c)(D:(c.cells.drop t).take Y=sD)(H:sD.length=Y){E:Act}{I:World}{h:aF}(u:aH s R E I h):∃U,aE h (.agg sD) U/\(do loadVar X (<-asAddr (E.eval Z))).run T I=.ok U I:=by
 let⟨N,W,aq,L,a0,ad,ae⟩:=u.own ah C;obtain⟨_,_,⟨j,_⟩|⟨ak,i,o,y,ap,ao,am,an,K⟩⟩:=L;simp_all;rw[a0] at o;cases o;let x:∀a<Y,∃Z,c.cells[t+a]?=some Z/\sD[a]?=some Z:=by
  intro a e;let p:a<sD.length:=v;refine⟨sD[a],?_,bw p⟩;let j:((c.cells.drop t).take Y)[a]?=some sD[a]:=by rw[D];exact bw p
  rw[lf,ab e,pZ] at j;exact j
 let ag:∀a<Y,∃g,i[N.base+b*O+t+a]?=some g/\∀Z,sD[a]?=some Z->aE h Z g:=by intro a e;let⟨Z,ai,aj⟩:=x a e;let⟨g,k,Q⟩:=K b (t+a) c Z A ai;rw[ad] at k;refine⟨g,aM,λB r=>by rw[aj] at r;cases r;exact Q⟩
 let G:∀a<Y,I.cell? ((⟨W,N.base+b*O+t,none⟩:Addr).add a)=some ((λa=>(i[N.base+b*O+t+a]?).getD undef) a):=by intro a e;let⟨g,k,_⟩:=ag a e;rw[Addr.add_lit];simp[World.cell?,y,k]
 let S:=run_loadCells (P:=T) (w:=I) ⟨W,N.base+b*O+t,none⟩ Y _ G;refine⟨.agg ((List.range Y).map λa=>(i[N.base+b*O+t+a]?).getD undef).toArray,.agg sD _ (by simp[H]) ?_ ?_,?_⟩;grind;grind;simp[ae,asAddr,loadVar,q.pV,z,q.io,S]
end
def vX(z:bV)(a:List (Nat×V))(b:bb):List ResultVar->Option (List V)
|[]=>some []|.tmp X::D=>match eM a X with
 |some Z=>match vX z a b D with|some xs=>some (Z::xs)|none=>none
 |none=>none
|.cell W X::D=>match eM a W with
 |some (.cU e 0 0)=>match bI b e with
  |some (.cell _ J)=>match z.find X with
   |some c=>match J.fits,oo J.cells 0 c.size c.agg with
    |true,some Z=>match vX z a b D with|some xs=>some (Z::xs)|none=>none
    |_,_=>none
   |none=>none
  |_=>none
 |_=>none
section
variable{T:Program}{z:bV}{s:a2}{o:Nat}{u:bn}
def Pb(q:e2 T z){E:Act}{I:World}{o:aF}(w:aH s (O.a u) E I o):∀{hY:List ResultVar}{i:List V},vX z O.h O.c hY=some i->∃g,g.length=(i.map (V.a u)).length/\(hY.mapM (rI E.tmps)).run T I=.ok g I/\∀(m:Nat) Z U,(i.map (V.a u))[m]?=some Z->g[m]?=some U->aE o Z U
|[],i,e=>by simp[vX] at e;simp_all|.tmp X::D,i,e=>by unfold vX at e;split at e;rename_i Z ak;split at e;rename_i xs r;simp[fc] at e;subst e;let⟨g,H,x,K⟩:=Pb q w r;let⟨U,aj,P⟩:=w.h X (Z.a u) (by show(cj u O.h).lookup X=_;grind[jQ,pL]);refine⟨U::g,b,?_,λm B ag Y S=>?_⟩;simp_all[rI,x8];grind;trivial;trivial|.cell W X::D,i,e=>by
 unfold vX at e;split at e;rename_i ae a0;split at e;rename_i J G L;split at e;rename_i C R;split at e;rename_i Z N k;split at e;rename_i xs r;simp[fc] at e;subst e;let⟨g,H,x,K⟩:=Pb q w r;let⟨F,y⟩:=iw (u:=u) O.l L;let A:(O.a u).val s (.tmp W)=some ((V.cU ae 0 0).a u):=by show(cj u O.h).lookup W=_;rw[jQ,<-pL,a0];rfl
 let aI:=q.find R;let ai:=V.oh (u:=u) N;let ad:∃U,aE o (Z.a u) U/\(do loadVar X (<-asAddr (E.eval<|.tmp W))).run T I=.ok U I:=by cases j:C.agg with|true=>rw[j] at k;obtain⟨rfl,x⟩:=BE k;let⟨M,ah,t,p⟩:=(aI.yA j).dO;refine Wq t p A y rfl (sD:=((G.cells.drop 0).take C.size).map<|V.dZ u) ?_ b w;simp_all|false=>rw[j] at k;let⟨t,p⟩:=BF k;rw[V.Bp p];exact Wp (aI.e6<|aI.pb j) (aI.hs.resolve_left aM) A y rfl b w
 let⟨U,P,Q⟩:=ad;refine⟨U::g,b,?_,λm B ag Y S=>?_⟩;have:(rI E.tmps (.cell W X)).run T I=.ok U I:=Q;simp_all;grind;trivial;trivial;trivial;trivial;trivial
def TQ{j:bn}{g:List ResultVar}{b:V->bd->Prop}{J:Exit}{i:List V}{CK:bb}(r:e2 T z)(aI:∀u,cd o j u->b (cO (i.map (V.a u))) (O.l++ar u CK))(B:vX z O.h O.c g=some i:=by rfl)(x:qb CK O.c:=by repeat (first|exact trivial|refine And.intro rfl ?_))(A:lx CK:=by rfl)(y:J=.ret\/J=.normal:=by exact q3):g4 T s o j g b J O:=by refine⟨y,λu t E I k e=>?_⟩;let⟨C,m,p,q⟩:=Pb r e B;refine⟨C,_,O.l++ar u _,k,m,p,q,?_,aI u t⟩;have:=aH.zJ (O:=⟨[],O.c,O.l⟩) (dF:=⟨[],CK,O.l⟩) ⟨trivial,x,A,rfl⟩<|aH.wd e λX Z w=>bB;exact this.ci
def cu{k:bn}{b:List ResultVar}{J:Exit}{a:List V}{D:V}(e:e2 T z)(j:vX z O.h O.c b=some a:=by rfl)(aR:uk a:=by rfl)(i:O.l=[]:=by rfl)(g:J=.ret\/J=.normal:=by exact q3)(w:cO a=D:=by rfl):g4 T s o k b (·=D/\·=[]) J O:=TQ (CK:=[]) e (λu _=>⟨by grind[OO],by rw[i];rfl⟩) j trivial rfl g
def gX{i:bn}{g:List ResultVar}{J:Exit}{e:List V}{D:V}{bN:bb}(j:e2 T z)(p:vX z O.h O.c g=some e:=by rfl)(h9:qb bN O.c:=by repeat (first|exact trivial|refine And.intro rfl ?_))(m:lx bN:=by rfl)(t:ds V.Bq e:=by rfl)(u:O.l=[]:=by rfl)(k:J=.ret\/J=.normal:=by exact q3)(w:cO e=D:=by rfl):g4 T s o i g (λr q=>∃an,cd o i an/\r=D.a an/\q=ar an bN) J O:=TQ j (⟨·,·,KP,b⟩) p h9 m k
end
section
variable{T:Program}{s:a2}
end
section
variable{T:Program}{z:bV}{s:a2}{m:List (Nat×V)}{o:Nat}{G:Bool}{F:V->Prop}
end
section
variable{T:Program}{z:bV}{s:a2}{m:List (Nat×V)}{o:Nat}{G:Bool}{F:V->Prop}
def abk{a b:List (Nat×V)}:∀{N:List (Nat×Operand)}{Y:Nat},(∀Z∈N,val m b Z.2=val m a Z.2)->rO m b N Y=rO m a N Y|[],_,_=>rfl|(c,Z)::D,Y,w=>by rw[rO,rO,w (c,Z) af,abk λB e=>w B aM]
def jv{X J:TypeId}{c:b0}{Y:Nat}{e:Array (Nat×Operand)}{b:List V}(q:F (.f c.size b))(t:P.op=.buildSlice X Y e:=by rfl)(y:eU z X (.slice J):=by exact fe)(p:z.find J=some c:=by rfl)(w:rO m O.h e.toList 0=some b:=by rfl)(r:Y=b.length:=by rfl)(hlen:∀M∈b,M.cells.length=c.size:=by first|exact XR rfl|exact Nx (by repeat (first|exact trivial|refine And.intro rfl ?_))|(simp[V.cells,V.const,V.leaf];done))(o:Y*c.size<=2^24:=by decide)(x:0<c.size:=by decide):c2 T z s m G P O F:=.of rfl (λi k l u ad=>by
 obtain⟨_,_,bu⟩:=y.dO i;have cG:=i.find p;have j:rO m (cR P O.h) e.toList 0=some b:=by rw[abk λZ A=>wc m (by simp[Op.operands,b4];grind)];exact w
 have g:=J4 (O:=⟨cR P _,[],ad⟩) k l (u:=u) j;have J:(⟨cR P O.h,[],ad⟩:am).a u=⟨cR P (cj u O.h),ad⟩:=by show(⟨cj u _,ad++[]⟩:aw)=_;rw[vZ,gf]
 rw[J] at g;exact OX bu cG.K cG.ld t g r hlen o x) q
end
section
variable{T:Program}{s:a2}
def X8{X J:TypeId}{C K bs O cL:Nat}{k:Value}{h:Array (Nat×Operand)}{c:List (Nat×V)}{a:List V}(t:bG T X (.array C J) K bs)(r:fi T J O cL)(i:h4 T X k)(p:P.op=.build X h)(q:rF s R h.toList=some c)(a0:oM (λz=>some (z*O,O)) (V.zero k).cells c=some a):cb T s P R (.agg a):=.same λE I j m=>by let⟨G,o⟩:=rF.get q;let⟨D,F,e⟩:=Mn c (h.toList.map λL=>(L.1,E.eval L.2)) _ _ a b (λB L A l g=>by let⟨Z,w,x,y⟩:=o B L l;rw[ch,w] at g;simp at g;subst g;exact⟨rfl,(m.val x).DD y⟩) (nb.zero i j) a0;exists .agg _,.agg a D e.1.symm e.2.1 e.2.2;simp[execOp,p,Instr.build,Sem.run_bind,i.run,Result.andThen_ok,run_underlying t.u,r.io];simp_all
end
section
variable{T:Program}{z:bV}{s:a2}{m:List (Nat×V)}{o:Nat}{G:Bool}{F:V->Prop}
def ana{N:List (Nat×Operand)}(w:∀Z∈N,Z.2∈P.op.operands.toList):pR m (cR P O.h) N=pR m O.h N:=OH m λZ a=>wc m<|w Z a
def WG{b:List (Nat×V)}(w:uk (b.map (·.2)))u:b.map (λL=>(L.1,L.2.a u))=b:=by
 induction b
 rfl
 next M b c=>grind[uk,V.eC]
def ak6{X J:TypeId}{b i:b0}{D:Nat}{g:Array (Nat×Operand)}{a:List (Nat×V)}{c:List V}(t:F (.agg c))(w:P.op=.build X g:=by rfl)(l:z.find X=some b:=by rfl)(q:b.d=.array D J:=by rfl)(B:b.R=false:=by rfl)(r:z.find J=some i:=by rfl)(A:pR m O.h g.toList=some a:=by rfl)(y:uk (a.map (·.2)):=by rfl)(a0:oM (λC=>some (C*i.size,i.size)) (V.zero b.z).cells a=some c:=by rfl)(x:(V.agg c).plain:=by rfl):c2 T z s m G P O F:=.of x (λe k p u ad=>by
 let bu:=(e.find l).e6 B;rw[q] at bu;let o:pR m (cR P O.h) g.toList=some a:=by rw[ana λZ E=>by simp[Op.operands,b4];grind];exact A
 obtain⟨j,_⟩:=IT (k▸p)<|k.symm▸o;rw[WG y,<-vZ] at j;exact X8 bu (e.find r).K (e.find l).ld w j a0) t
end
section
variable{T:Program}{m:List (Nat×V)}{x:FuncId}{xs:List V}{os bN:bb}{D:V}
end
section
variable{T:Program}{s:a2}
def Holds.apm{a:aF}{i:bd}{I:World}(w:Holds s a i I){F id al O:Nat}{J j:TypeId}{p:List V}{Z:V}{b:List Value}(l:i[F]?=some (id,.n al O J p))(h:nb a Z b)(r:b.length=O):Holds s (a.fo id ⟨some I.heap.size,0,al+1,O,O⟩) (i.set F (id,.n (al+1) O j [Z])) (I.alloc (.cells b.toArray j))/\a.le (a.fo id ⟨some I.heap.size,0,al+1,O,O⟩):=by
 let⟨N,hm,c⟩:=w.eO _ _<|dh l;let m:a.le (a.fo id ⟨some I.heap.size,0,al+1,O,O⟩):=aF.i7 λx k=>by rw[hm] at k;cases k;exact⟨c.2.1,by rw[c.1];simp,λJ=>by rw[c.1] at J;grind⟩
 refine⟨w.sY l hm c.2.1 (by rw[c.1];simp) (λJ=>by rw[c.1] at J;grind) (.inr ⟨I.heap.size,rfl,a1 _⟩) ?_ ?_,m⟩;simp[World.grownBy_alloc];refine⟨rfl,rfl,.inr ⟨I.heap.size,b.toArray,rfl,heap_alloc_new I _,v,af,?_,?_,?_⟩⟩;intro e U u;exact h.2.1 U<|dh (by simpa using u);intro e M g;cases e;simp at g;subst g;rw[<-h.1,r]
 next e=>trivial
 intro e t M B g o;cases e;simp at g;subst g;let q:t<b.length:=by rw[h.1];exact(dm.1 o).1
 refine⟨b[t],af,(h.2.2 t B _ o<|bw q).mono m⟩
 next e=>trivial
def agP{X:TypeId}{k:Value}{O F id al:Nat}{J:TypeId}{c:List V}(j:P.op=.alloc X)(b:h4 T X k)(m:k.cells.size=O)(h:R.l[F]?=some (id,.n al O J c)):dP T s P R (.own id (al+1) 0 0) (R.l.set F (id,.n (al+1) O X [V.zero k])):=.of λE I a e=>by obtain⟨g,i⟩:=e.ci.apm h (nb.zero b a) (by simpa using m);refine⟨.pointer<|some ⟨I.heap.size,0,none⟩,_,_,.own id _ 0 0,_,i,?_,g,.inl ?_,rfl,rfl⟩;exact .own _ _ _ _ _ _ (a.kJ _ _) (a1 _) rfl λ_=>⟨I.heap.size,rfl,af⟩;simp[execOp,j,Instr.alloc,b.run,newVar,newRow]
end
section
variable{T:Program}{z:bV}{s:a2}{m:List (Nat×V)}{o:Nat}{F:c5->am->Prop}
def zV{X J:TypeId}{g:b0}{i:Nat}{xs:List V}{k:V}b e(p:F ([],[i]) ({O with c:=rJ O.c i (e,.cell X k)}.put P.dst (.cU e 0 0)))(t:P.op=.alloc X:=by rfl)(j:z.find X=some g:=by rfl)(M:V.zero g.z=k:=by rfl)(K:o7 O.c b 0=some i:=by rfl)(G:rq O.c i=some (b,.n g.size J xs):=by rfl)(x:g.z.cells.size=g.size:=by rfl)(y:k.cells.length=g.size:=by rfl)(w:k.plain:=by rfl)(I:Nat.blt e o:=by rfl)(r:qf (hj [e]) O.h:=by kernel_rfl)(q:rf (hj [e]) [i] O.c 0:=by kernel_rfl)(H:Nat.beq b e=false:=by rfl):li T z s m o ops P O Rd F:=by
 refine .mk [] [(i,(e,.cell X k))] _ [] [(b,.n g.size J xs)] [e] ax rfl yk (.inr r) (.inr q)
  (λl D E u=>⟨eD u e ((u b).1,(u b).2+1),cd.of λX j=>hd p2,λX j=>hd λJ=>QC,λN A Q aI L=>by grind[eD],λad=>?_⟩) p
 have:=agP (s:=s) (R:=⟨cR P<|cj u O.h,ad++[((u b).1,.n (u b).2 _ J xs)]⟩) t (l.find j).ld x xr;let B:(V.cU e 0 0).a (eD u e ((u b).1,(u b).2+1))=.own (u b).1 ((u b).2+1) 0 0:=by simp[V.a,V.jb,V.dZ,V.ew,eD]
 let C:ar (eD u e ((u b).1,(u b).2+1)) [(e,bt.cell X k)]=[((u b).1,.n ((u b).2+1) g.size X [k])]:=by simp[ar,gU,rY,b7,bt.ad,iu,V.eC w,y]
 show dP T s P ⟨cR P _,ad++([]++[((u b).1,.n _ g.size J xs)])⟩ _ (ad++([]++ar _ _));simp_all
end
section
variable{T:Program}{z:bV}{s:a2}{m:List (Nat×V)}{G:Bool}{F:V->Prop}{dq:TypeId}{Z B:Operand}{E W:Int}
end
section
variable{T:Program}{b3 dO J:TypeId}{K bs O cL PL LI:Nat}{k:Value}{h_:IntKind}{I:World}
def apA(j:bG T X (.slice J) K bs)(a:fi T J O cL)(o:h4 T J k)(m:bG T b3 (.int h_) PL LI)(r:0<Y)(s:0<O)(c:Y<=maxLen)(i:Y*cL<=140737488355328):(Builtin.append_ #[X,b3] dO #[.slice none 0 0,.int .i64 Y]).run T I=.ok (.slice (some ⟨I.heap.size,0,none⟩) Y (grownCap I Y 0 J)) (I.drew.alloc (.cells (Builtin.zeroCells k.cells Y++Builtin.zeroCells k.cells (grownCap I Y 0 J-Y)) J)):=by
 let⟨t,p,_,h⟩:=a.zf;let q:=o.run I.drew;let e:¬9223372036854775807<Y:=by simp[maxLen] at c;omega
 let b:=by have:=growslice_fits (need:=Y) (old:=0) v i;omega
 let l:IntKind.i64.wrap Y=Y:=by simp only[IntKind.wrap,IntKind.bits];simp;omega
 let g:=by omega
 simp[Builtin.append_,run_underlying j.u,a.io,run_underlying m.u,typeInfo,p,h,v,e,b,Question.forced,newRow,q,grownCap,asInt,asIntOf,l,g,v,Builtin.firstCells];grind[Nat.mul_ne_zero]
end
section
variable{T:Program}{s:a2}{e:Exit->aw->Prop}
theorem asS{k:Array Value}{o O a t:Nat}(h:k.size=O)(b:a<o)(c:t<O):(Builtin.zeroCells k o)[a*O+t]?=k.toList[t]?:=by
 let e:a*O+t<o*O:=by have:=hA O (show a+1<=o from b);rw[nP] at this;omega
 let g:(a*O+t)%O=t:=by rw[s_,Nat.add_mul_mod_self_right,uN c]
 unfold Builtin.zeroCells;simp_all
def aby{k:Array Value}{o:Nat}(b:∀U∈k.toList,U.oneCell'):∀U∈Builtin.zeroCells k o,U.oneCell':=by intro U a;simp[Builtin.zeroCells] at a;grind[Nat.mod_lt]
def bS.adO{X b3 J:TypeId}{K bs O cL PL LI:Nat}{k:Value}{Z B:Operand}{h_:IntKind}{Y x:Nat}(ai:x<=Y)(ag:R.guard ops P=some true)(ao:bG T X (.slice J) K bs)(ae:fi T J O cL)(H:h4 T J k)(Q:k.cells.size=O)(aq:bG T b3 (.int h_) PL LI)(al:P.op=.call {callee:=.builtin .append,args:=#[Z,B],argTypes:=#[X,b3]})(j:R.val s Z=some .aQ)(av:R.val s B=some (.int .i64 (Y:Int)))(ak:0<Y)(G:Y<=maxLen)(W:Y*cL<=140737488355328)(an:0<O)(w:∀A,bS T s ops N (({R with l:=R.l++[(A,.n 0 O J<|List.replicate x<|V.zero k)]}:aw).put P.dst<|.a7 A 0 0 Y) e):bS T s ops (P::N) R e:=.lq ag λE I b o=>by
 have g:=o.val j;have y:=o.val av;generalize ap:E.eval Z=aA at g;generalize a:E.eval B=U at y;cases g;cases y;have q:=nb.zero H b;have L:k.cells.toList.length=O:=by simpa using Q
 have r:=apA (dO:=P.type) ao ae H aq (I:=I) ak an G W;have p:=grownCap_ge I Y 0 J;have C:=grownCap_le_maxLen I Y 0 J G;generalize grownCap I Y 0 J=m at r p C;generalize D:Builtin.zeroCells k.cells Y++Builtin.zeroCells k.cells (m-Y)=c at r;have ad:c.size=m*O:=by rw[<-D,P3,size_zeroCells,size_zeroCells,Q,<-gg];congr 1;omega
 have am:∀U∈c,U.oneCell':=by intro U a;rw[<-D,Array.mem_append] at a;rcases a with a|a<;>exact aby q.2.1 U a
 have:∀u t,u<Y->t<O->c[u*O+t]?=k.cells.toList[t]?:=λu t ay z=>by grind[Array.getElem?_append_left,size_zeroCells,asS]
 have F:b.le (b.fo b.n ⟨some I.heap.size,0,0,c.size,O⟩):=aF.i7 λaz g=>by rw[b.fresh _<|a1 _] at g;cases g
 have ax:(V.zero k).cells.length=O:=by rw[<-q.1,L]
 have ah:=o.ci.new (ke:=.n 0 O J<|List.replicate x<|V.zero k) (ck:=⟨some I.heap.size,0,0,c.size,O⟩) (aT:=I.drew.alloc<|.cells c J) (.inr ⟨I.heap.size,rfl,a1 _⟩) (have i:=World.grownBy_alloc I.drew (.cells c J) none;⟨i.os,i.tape,i.output,i.size,i.block⟩)
  ⟨rfl,rfl,.inr ⟨I.heap.size,c,rfl,heap_alloc_new I.drew _,rfl,by rw[s7,ad];simp[kk];exact hA _<|cA ai p,λS U a=>am U<|abK a,λS M h=>aM,λS t M Z h j=>by
   rw[wq] at h;split at h<;>simp at h;subst h;have z:t<O:=by rw[<-ax];exact(dm.1 j).1
   have aj:t<k.cells.toList.length:=by rw[L];exact z
   refine⟨k.cells.toList[t],?_,(q.2.2 t Z _ j<|bw aj).mono F⟩;grind⟩⟩
 refine⟨.slice (some ⟨I.heap.size,0,none⟩) Y m,_,_,.a7 b.n 0 0 Y,_,F,?_,ah,.inl ?_,w b.n⟩;exact .a7 _ _ _ _ _ _ (b.kJ _ _) (a1 _) rfl λ_=>.inr ⟨I.heap.size,0,m,rfl,rfl,p,C,.inr ⟨af,aM⟩⟩;simp[execOp,al,Sem.run_bind,resolve,Ku,gU,rY,Sem.run_pure,Result.andThen_ok,invoke,builtin,ap,a,r]
end
section
variable{T:Program}{z:bV}{s:a2}{m:List (Nat×V)}{o:Nat}
def ak5{X b3 J:TypeId}{i b:b0}{Z B:Operand}{M:Nat}{h_:IntKind}{q:Int}Y r ak(aj:F (O.fresh M (.n b.size J ak) (.d M 0 Y)))(Q:P.op=.call {callee:=.builtin .append,args:=#[Z,B],argTypes:=#[X,b3]}:=by rfl)(w:P.dst=some M:=by rfl)(p:Nat.blt M o:=by rfl)(g:eU z X (.slice J):=by exact fe)(W:z.find b3=some i:=by rfl)(x:i.d=.int h_:=by rfl)(U:i.R=false:=by rfl)(y:z.find J=some b:=by rfl)(ad:val m O.h Z=some .aQ:=by rfl)(ae:val m O.h B=some (.int .i64 q):=by rfl)(D:q=(Y:Int):=by first|rfl|omega)(L:0<Y:=by omega)(ag:b.z.cells.size=b.size:=by rfl)(a0:Nat.ble b.bytes 8388608:=by rfl)(S:0<b.size:=by decide)(H:Y<=16777216:=by omega)(G:r<=Y:=by omega)(al:List.replicate r (V.zero b.z)=ak:=by rfl):fR T z s m o ops P O F:=⟨λc k l u N e C ai=>by obtain⟨_,_,bu⟩:=g.dO c;have j:=(c.find W).e6 U;rw[x] at j;have cG:=c.find y;have p:=mq (show Nat.ble _ o=true from p);subst D;refine bS.adO G C bu cG.K cG.ld ag j Q (gn k l ad u) (gn k l ae u) L (by(simp[maxLen];omega)) (yI H a0) S λA=>?_;rw[w];refine bS.qW (λE I ah t=>aH.fresh (an:=eD u M (A,0)) (λX g=>hd g) (oQ:=.d M 0 Y) (B:=.n _ J _) (by simp[V.a,V.jb,V.dZ,V.ew,iu];exact .refl _) (by simp[b7,iu];exact .same _ .nil) t) ?_;grind[cd.of,hd]⟩
end
section
variable{T:Program}{z:bV}{s:a2}{m:List (Nat×V)}{G:Bool}{F:V->Prop}
def anX{X J:TypeId}{K bs:Nat}{Z:Operand}{R:aw}(e:bG T X (.slice J) K bs)(c:P.op=.call {callee:=.builtin .cap,args:=#[Z],argTypes:=#[X]})(h:R.val s Z=some .aQ):cb T s P R (.int .i64 0):=.same λE I i b=>by have a:=b.val h;generalize g:E.eval Z=U at a;cases a;exact⟨_,.int _ _,by simp[execOp,c,g,resolve,invoke,builtin,Builtin.cap_,run_underlying e.u,goInt]⟩
def N8{X J:TypeId}{Z:Operand}(e:F (.int .i64 0))(g:P.op=.call {callee:=.builtin .cap,args:=#[Z],argTypes:=#[X]}:=by rfl)(i:eU z X (.slice J):=by exact fe)(j:val m O.h Z=some .aQ:=by rfl):c2 T z s m G P O F:=.of rfl (λc a b u ad=>by obtain⟨_,_,bu⟩:=i.dO c;exact anX bu g<|fp a b j (by grind[Op.operands,Call.operands]) rfl) e
end
section
variable{T:Program}{z:bV}{s:a2}{m:List (Nat×V)}{G:Bool}{F:V->Prop}
def am1{X J:TypeId}{K bs cL O:Nat}{Z:Operand}{e c:Option Operand}{R:aw}(l:bG T X (.slice J) K bs)(h:fi T J O cL)(k:P.op=.slice X Z e c none)(o:R.val s Z=some .aQ)(j:ni s R e 0 0)(i:ni s R c 0 0):cb T s P R .aQ:=.same λE I g b=>by
 have a:=b.val o;generalize m:E.eval Z=U at a;cases a;exists .slice _ 0 0,by first|exact .aQ|exact aE.leaf g _
 simp[execOp,k,Instr.sliceAt,m,run_underlying l.u,Instr.slice,EK (T:=T) b (W:=true) (len:=0) (cap:=0) j i (a1 _)<|a1 _,h.io]
def alk{X J:TypeId}{y:b0}{Z:Operand}{i g:Option Operand}{k j:Int}(p:F .aQ)(r:P.op=.slice X Z i g none:=by rfl)(t:eU z X (.slice J):=by exact fe)(l:z.find J=some y:=by rfl)(c:val m O.h Z=some .aQ:=by rfl)(q:pz m O.h i 0=some k:=by rfl)(o:pz m O.h g 0=some j:=by rfl)(x:k=((0:Nat):Int):=by first|rfl|omega)(w:j=((0:Nat):Int):=by first|rfl|omega):c2 T z s m G P O F:=.of rfl (λe a b u ad=>by obtain⟨_,_,bu⟩:=t.dO e;exact am1 bu (e.find l).K r (fp a b c (by grind[Op.operands]) rfl) (sd a b q x λZ c=>by grind[Op.operands])<|sd a b o w λZ c=>by grind[Op.operands]) p
end
section
variable{T:Program}{z:bV}{s:a2}{m:List (Nat×V)}{o:Nat}
def anU{X b3 J:TypeId}{K bs O cL:Nat}{Z B:Operand}{R:aw}(l:bG T X (.slice J) K bs)(g:fi T J O cL)(k:P.op=.call {callee:=.builtin .append,args:=#[Z,B],argTypes:=#[X,b3]})(o:R.val s Z=some .aQ)(e:iW T s R B b3 O 0 []):cb T s P R .aQ:=.same λE I a c=>by
 have b:=c.val o;generalize m:E.eval Z=U at b;cases b;let⟨p,q,t,h,j,r⟩:=e.run E I a c;have i:p=[]:=lJ v;subst i;exists .slice _ 0 0,by first|exact .aQ|exact aE.leaf a _
 simp[execOp,k,m,Sem.run_bind,resolve,Ku,gU,rY,Sem.run_pure,Result.andThen_ok,invoke,builtin,ZD (dO:=P.type) l g e.D0 h rfl<|j I rfl]
def ak3{X b3 J:TypeId}{e:b0}{Z B:Operand}(i:F (O.put P.dst .aQ))(j:P.op=.call {callee:=.builtin .append,args:=#[Z,B],argTypes:=#[X,b3]}:=by rfl)(l:eU z X (.slice J):=by exact fe)(g:z.find J=some e:=by rfl)(p:val m O.h Z=some .aQ:=by rfl)(k:kQ z m O B b3 e.size []:=by first|exact .f rfl rfl rfl rfl af|exact .nil rfl rfl rfl rfl|exact .str rfl rfl rfl rfl):fR T z s m o ops P O F:=.pure rfl (λa b c u=>by obtain⟨_,_,bu⟩:=l.dO a;exact anU bu (a.find g).K j (gn b c p u)<|k.src a b c u) i
end
def iV.take{e:aF}{I:World}{N:Loc}{al O:Nat}{J:TypeId}{b:List V}(w:iV e I N (.n al O J b))Y:iV e I N (.n al O J (b.take Y)):=by
 let⟨j,k,g⟩:=w;exists j,k;rcases g with⟨g,s⟩|⟨W,i,a0,l,ap,o,p,m,q⟩;simp_all;let h:∀(a:Nat) M,(b.take Y)[a]?=some M->b[a]?=some M:=λa M c=>by grind
 refine .inr ⟨W,i,a0,l,ap,?_,p,λa M c=>m a M<|h a M c,λa t M Z c r=>q a t M Z (h a M c) r⟩;refine cA (Ky (hA _ ?_) _) o
 (simp;omega)
section
variable{T:Program}{s:a2}{e:Exit->aw->Prop}
def agQ{X J j:TypeId}{K bs O:Nat}{k:Value}{Z:Operand}{id al a e F:Nat}{z:List V}(H:bG T X (.slice J) K bs)(ah:h4 T J k)(aC:k.cells.size=O)(G:P.op=.call {callee:=.builtin .clear,args:=#[Z],argTypes:=#[X]})(aB:R.val s Z=some (.a7 id al a e))(D:R.l[F]?=some (id,.n al O j z)):dP T s P R .undef (R.l.set F (id,.n al O j<|z.take a)):=.of λE I g A=>by
 let⟨c,Q,ad,w⟩:=A.a7 aB D;let q:g.le (g.fo id c):=aF.i7 λaR ak=>b;let same:(execOp E.eval P).run T I=.ok (.value<|.tuple #[]) I->∃U aT x aj ai,g.le x/\aE x aj U/\Holds s x ai aT/\((execOp E.eval P).run T I=.ok (.value U) aT\/U=undef/\(execOp E.eval P).run T I=.ok .skip aT)/\aj=V.undef/\ai=R.l.set F (id,.n al O j<|z.take a):=λaw=>
  ⟨.tuple #[],I,g.fo id c,.undef,_,q,.undef _,A.ci.sY D Q rfl (a1 _) (λ_=>rfl) (.inl rfl) (aT:=I) ⟨rfl,rfl,rfl,a1 _,λ_ _ _=>rfl⟩<|(ad.take a).mono q λ_ _=>rfl,.inl aw,rfl,rfl⟩
 rcases w with⟨_,rfl,r⟩|⟨W,aS,cap,a0,r,aN,aL,m⟩;exact same (by simp[execOp,G,r,resolve,invoke,builtin,Builtin.clear_,run_underlying H.u]);rcases lM e with rfl|aO;exact same (by simp[execOp,G,r,resolve,invoke,builtin,Builtin.clear_,run_underlying H.u]);rcases m with m|⟨rfl,m⟩;omega;obtain⟨aA,o,⟨aH,_⟩|⟨aG,i,M,N,ay,an,ak,am,Y⟩⟩:=ad;simp_all;rw[a0] at M;cases M;rw[o] at m an Y;generalize C:(Builtin.zeroCells k.cells e).toList=h;let aI:h.length=e*O:=by rw[<-C,uG,size_zeroCells,aC]
 let aq:∀U∈h,U.oneCell':=by intro U ae;rw[<-C] at ae;exact aby (kM.1 ah.one · ·) U (by simpa using ae)
 let aP:c.base+a*O+e*O<=i.size:=by rw[ay];refine cA ?_ m;rw[ye,<-gg];exact Ky (hA _ v) _
 let ax:=run_storeCells_at T W (c.base+a*O) j h 0 i I N v aq;simp[q2] at ax;refine⟨.tuple #[],_,g.fo id c,.undef,_,q,.undef _,A.ci.sY D Q rfl (a1 _) (λ_=>rfl) (.inl rfl) (aT:=I.setRow W (i.toList.take (c.base+a*O)++h++i.toList.drop (c.base+a*O+h.length)).toArray)
   ⟨rfl,rfl,rfl,af,λh_ aM S=>setRow_other I W h_ _ λJ=>S b⟩ ?_,.inl ?_,rfl,rfl⟩
 refine⟨aA,o,.inr ⟨W,_,a0,setRow_heap I W i _ j _ N,?_,?_,?_,?_,?_⟩⟩
 (simp;omega)
 grind;grind;grind;intro t y L B p ag;rw[lf] at p;split at p;rename_i ao;let⟨aD,az,av⟩:=Y t y L B p ag;let aJ:y<O:=by rw[<-o,<-am t L p];exact(dm.1 ag).1
 refine⟨aD,?_,av.mono q⟩;let ap:c.base+t*O+y<c.base+a*O:=by have:(t+1)*O<=a*O:=hA _ ao;rw[nP] at this;omega
 rw[o,x_,ge,q0 aK,lf,ab ap,zX];exact az;trivial;let S:¬e=0:=v;simp[execOp,G,r,Sem.run_bind,resolve,Ku,gU,rY,Sem.run_pure,Result.andThen_ok,invoke,builtin,Builtin.clear_];simp[run_underlying H.u,ah.run,C,o];simp_all
end
section
variable{T:Program}{z:bV}{s:a2}{m:List (Nat×V)}{o:Nat}
def W3{X J i:TypeId}{b:b0}{Z:Operand}{g j K:Nat}{xs:List V}ak(B:F ({O with c:=fJ O.c g (.n b.size i ak)}.put P.dst .undef))(C:P.op=.call {callee:=.builtin .clear,args:=#[Z],argTypes:=#[X]}:=by rfl)(G:eU z X (.slice J):=by exact fe)(x:z.find J=some b:=by rfl)(H:val m O.h Z=some (.d g j K):=by rfl)(w:bI O.c g=some (.n b.size i xs):=by rfl)(I:b.z.cells.size=b.size:=by rfl)(aG:xs.take j=ak:=by rfl):fR T z s m o ops P O F:=⟨λp q r u N e y t=>by
 subst aG;obtain⟨_,_,bu⟩:=G.dO p;obtain⟨A,D,E⟩:=se _ u w;refine bS.n5 y (agQ bu (p.find x).ld I C (gn q r H u) D) ?_;have k:=t u _ (cd.refl o u) B;rw[am.kG] at k;have L:=E<|.n b.size i<|xs.take j;have:{O.a u with l:=(O.a u).l.set A ((u g).1,.n (u g).2 b.size i<|xs.take j)}=({O with c:=fJ O.c g (.n b.size i<|xs.take j)}).a u:=by show(⟨_,_⟩:aw)=⟨_,_⟩;congr 1
 rw[this];exact k⟩
end
def V.ls:V->Bool|.agg N=>ds V.flat N|.vec _ _ N=>ds V.flat N|Z=>Z.flat
theorem aE.ls{l k:aF}{Z:V}{U:Value}(w:aE l Z U)(b:Z.ls):aE k Z U:=by
 by_cases m:∃N,Z=.agg N;obtain⟨N,rfl⟩:=m;cases w with|agg xs p e c g=>exact .agg _ _ e c λi B j a h=>(g i B j a h).flat<|nd.1 b B<|dh a
 by_cases a0:∃Y E N,Z=.vec Y E N;obtain⟨Y,E,N,rfl⟩:=a0;let b:ds _ N:=b;cases w with|vec _ _ xs p o e c g=>refine .vec Y E _ _ o e c λi B j a h=>(g i B j a h).flat ?_;rcases ee.1 (dh a) with hm|hm;cases E<;>(simp only[eu.cells,b4] at hm;obtain⟨_,_,rfl⟩:=hm;rfl);grind[nd]
 apply w.flat;cases Z<;>first|exact b|simp_all|simp_all
theorem V.Ms{Z:V}(w:Z.ls){u:bn}:Z.a u=Z:=by
 let c:∀B:V,B.flat->B.dZ u=B:=λB b=>by cases B<;>first|rfl|trivial
 let e:∀B:V,B.flat->B.jb u=B:=λB b=>by cases B<;>first|rfl|trivial
 cases Z with
 |agg N=>let w:ds _ N:=w;show V.agg _=_;grind[u4]|vec Y E N=>let w:ds _ N:=w;show V.vec Y E _=_;grind[u4]|tuple N=>show V.tuple _=_;congr 1;simp[V.ls,V.flat,kM] at w;refine(gp λB b=>?_).trans<|Cf N;have:=w B b;cases B<;>first|rfl|trivial
 |_=>first|rfl|(simp[V.ls,V.flat] at w)
section
variable{T:Program}{s:a2}{D:V}
def OY{x:FuncId}{k:Operand}{args:Array Operand}{r:Array TypeId}{first j m o:List V}(N:P.op=.call {callee:=.value k,args:=args,argTypes:=r})(a0:iR T x)(L:R.val s k=some (.func (.func x) first j))(A:mB s R args.toList m)(H:p5 (oI R.l) (first++m++j) o)(O:fg T s.G x o D)(Q:D.ls):cb T s P R D:=by intro E I h c ai aj z;refine Sc N a0 L A c λae al S=>?_;let⟨g,q,hm,u,y,X⟩:=Holds.view R.l h c.ci;let⟨ak,F⟩:=H.get;let K:Holds ⟨I,λ_=>False,g,[],s.G,0⟩ g [] I:=⟨aF.le.refl _,⟨rfl,rfl,rfl,a1 _,λ_ _ _=>rfl⟩,λ_ _ w _=>w,λ_ _ _ w=>.inl w,λ_ _ w=>.inl w,λ_ _ w=>bB,u,y,λ_ _ w=>bB,af,λ_ _ _ _ w=>bB,λ_ _ _ _ _ _ _ w=>bB⟩;refine(O g ae I _ b ?_ K λt Z i=>(c.fk t Z i).mono q).mono ?_;intro e B U ad Y;let⟨Z,i,C⟩:=F e B ad;exact C.eZ X U<|(S e Z U i Y).mono q;rintro J ag ⟨U,an,am,ah,he,⟨rfl,rfl⟩,W,M⟩;let a:=M.G;exact⟨U,he,z U ag h (aF.le.refl h) (W.ls Q)<|c.ci.grown ⟨a.os,a.tape,a.output,a.size,λe p _=>a.block e p λw=>w⟩⟩
end
inductive wM(c:bb):V->V->Prop|cell {X t Y:Nat} {J:TypeId} {Z:V} (w:bI c X=some (.cell J Z)) (aR:Z.plain) (av:Z.cells.length=Y):wM c (.cU X 0 t) (.ref Y [Z] 0 t)|n {X H t K:Nat} {J:TypeId} {xs:List V} (w:bI c X=some (.n K J xs)) (p:H<xs.length):wM c (.cU X H t) (.ref K xs H t)|f {X len K:Nat} {J:TypeId} {xs:List V} (w:bI c X=some (.n K J xs)) (bq:len=xs.length):wM c (.d X 0 len) (.f K xs)|pl {Z:V} (w:Z.plain):wM c Z Z
inductive u3(c:bb):List V->List V->Prop|nil:u3 c [] []|cons {Z B:V} {xs ak:List V} (w:wM c Z B) (X:u3 c xs ak):u3 c (Z::xs) (B::ak)
def wM.n1{b:bb}{Z B:V}(w:wM b Z B)ad u:eA (oI (ad++ar u b)) (Z.a u) B:=by
 cases w
 next w aR e=>subst e;obtain⟨A,aI⟩:=iw ad w;let aI:(ad++ar u b)[A]?=some ((u _).1,bM.n _ _ _ _):=aI;rw[V.eC aR] at aI;exact oI.own A 0 _ aI af
 next w p=>obtain⟨A,aI⟩:=iw ad w;exact oI.own A _ _ aI p
 next w c=>obtain⟨A,aI⟩:=iw ad w;exact oI.all A aI c
 next w=>rw[V.eC w];exact .refl _
def u3.n1{b:bb}ad u:∀{xs ak:List V},u3 b xs ak->p5 (oI (ad++ar u b)) (xs.map (V.a u)) ak|_,_,.nil=>rfl|_,_,.cons w X=>⟨w.n1 ad u,u3.n1 ad u X⟩
section
variable{T:Program}{z:bV}{s:a2}{m:List (Nat×V)}{o:Nat}{F:V->Prop}{D:V}
def PT(c:s.G=m)(e:dp m){N:List Operand}{b:List V}(w:jY m O.h N=some b)(g:∀Z∈N,Z∈P.op.operands.toList)u{ad:bd}:mB s ⟨cR P (cj u O.h),ad⟩ N (b.map (V.a u)):=by grind[zQ,cR,J3,wc,vZ]
def hR{x:FuncId}{g:Operand}{args:Array Operand}{y:Array TypeId}{first b j k:List V}(C:F D)(q:P.op=.call {callee:=.value g,args:=args,argTypes:=y}:=by rfl)(B:val m O.h g=some (.func (.func x) first b):=by rfl)(A:jY m O.h args.toList=some j:=by rfl)(i:fg T m x k D)(tN:u3 O.c (first++j++b) k:=by exact acy)(r:D.ls:=by rfl)(G:ds V.jX first:=by rfl)(H:ds V.jX b:=by rfl)(a0:iR T x:=by exact r2):c2 T z s m false P O F:=.lA (λI e o u=>by rw[V.Ms r];let t:∀{N:List V},ds _ N->N.map _=N.map (V.a u):=λ{N} E=>gp λZ w=>V.BY<|nd.1 E Z w;let p:=tN.n1 O.l u;rw[cD,cD,<-t G,<-t H] at p;exact OY q a0 (g3 e o B (by rw[q];simp[Op.operands,Call.operands]) u) (PT e o A (λZ w=>by grind[Op.operands,Call.operands]) u) p (e.symm▸i) r) C
end
section
variable{T:Program}{z:bV}{s:a2}{m:List (Nat×V)}{o:Nat}{F:c5->am->Prop}
def Kc q{a:List Nat}{b:bb}(w:yt T z s m P O.h b (λD=>F (a,[])<|O.put P.dst D))(aR:xQ O.c q=a:=by rfl)(p:kw O.c a=some b:=by rfl)(r:oi a:=by rfl):li T z s m o ops P O Rd F:=by let⟨D,e,l⟩:=w;refine .mk a [] D b [] [] aK p rfl (.inl rfl) (.inl rfl) (λk i j u=>⟨u,cd.refl o u,λ_ _=>rfl,λt A x w _=>bB,λad=>?_⟩) l;obtain⟨y,g,rfl⟩:=e ad;have:=g k i j u _<|.inr rfl;show dP T s P ⟨cR P _,ad++(ar u b++[])⟩ _ (ad++(ar u b++[]));rw[gf];trivial
end
section
variable{T:Program}{s:a2}
def YM{X J j:TypeId}{h K bs i cL:Nat}{Z a:Operand}{id al g t F O b:Nat}{m:List V}{h_:IntKind}{k:Int}(A:bG T X (.array h J) K bs)(o:fi T J i cL)(x:P.op=.indexAddr X Z a)(D:R.val s Z=some (.own id al g t))(r:R.l[F]?=some (id,.n al O j m))(p:R.val s a=some (.int h_ k))(G:k=(b:Int))(q:b<h):cb T s P R (.own id al g (t+b*i)):=.same λE I H e=>by let⟨N,W,w,y,a0,z,C⟩:=e.own D r;have c:=e.val p;generalize B:E.eval a=L at c;cases c;subst G;refine⟨.pointer _,.own _ _ _ _ N _ w (by rw[y.1];omega) rfl λ_=>⟨W,a0,rfl⟩,?_⟩;simp[execOp,x,C,B,Instr.indexAt,Instr.sureAddr,asIntOf,run_underlying A.u,o.io,q,Addr.add_lit,z]
end
def ZU{bm:Type}{N:List bm}{t:Nat}{Z:bm}:t<N.length->N.set t Z=N.take t++[Z]++N.drop (t+1):=by simp_all[ab6,ab]
section
variable{T:Program}{z:bV}{s:a2}{m:List (Nat×V)}{o:Nat}{F:V->Prop}{D:V}
def iF{X J:TypeId}{q:b0}{Z o:Operand}{b p t:Nat}{A:bt}{h_:IntKind}{k:Int}(a e:Nat)(C:F (.cU b 0 e))(D:P.op=.indexAddr X Z o:=by rfl)(G:eU z X (.array p J):=by exact fe)(x:z.find J=some q:=by rfl)(H:val m O.h Z=some (.cU b 0 t):=by rfl)(w:bI O.c b=some A:=by rfl)(aI:∃g r,A=.cell g r:=by exact⟨_,_,rfl⟩)(y:val m O.h o=some (.int h_ k):=by rfl)(I:k=(a:Int):=by first|rfl|omega)(B:a<p:=by exact FJ)(ii:e=t+a*q.size:=by first|rfl|(simp only[kk];exact(wv _).symm)|omega):c2 T z s m false P O F:=.lA (λl i j u=>by subst ii;obtain⟨g,r,rfl⟩:=aI;obtain⟨_,_,bu⟩:=G.dO l;obtain⟨L,E⟩:=iw _ w;exact YM bu (l.find x).K D (g3 i j H (by grind[Op.operands]) u) E (g3 i j y (by grind[Op.operands]) u) I B) C
end
section
variable{T:Program}{z:bV}{s:a2}{m:List (Nat×V)}{o:Nat}
end
section
variable{T:Program}{z:bV}{s:a2}{m:List (Nat×V)}{o:Nat}{F:c5->am->Prop}
end
section
variable{T:Program}{z:bV}{s:a2}{m:List (Nat×V)}{o:Nat}{D:V}
def abj(c:s.G=m)(e:dp m){N:List Operand}{b:List V}(w:jY m O.h N=some b){u:bn}:mB s (O.a u) N (b.map (V.a u)):=zQ (c▸e)<|c.symm▸w
def oO{x:FuncId}{j:Operand}{args:Array Operand}{w:Array TypeId}{first b k p:List V}(Q:F (O.put P.dst D))(E:P.op=.call {callee:=.value j,args:=args,argTypes:=w}:=by rfl)(A:val m O.h j=some (.func (.func x) first b):=by rfl)(y:jY m O.h args.toList=some k:=by rfl)(i:fg T m x p D)(J:u3 O.c (first++k++b) p:=by exact acy)(G:D.ls:=by rfl)(H:ds V.jX first:=by rfl)(I:ds V.jX b:=by rfl)(a0:iR T x:=by exact r2):fR T z s m o ops P O F:=⟨λM g q u N e B L=>by apply bS.pure (D:=D) B;let t:∀{N:List V},ds _ N->N.map _=N.map (V.a u):=λ{N} C=>gp λZ K=>V.BY<|nd.1 C Z K;let r:=J.n1 O.l u;rw[cD,cD,<-t H,<-t I] at r;exact OY E a0 (gn g q A u) (abj g q y) r (g.symm▸i) G;grind[cd.refl,am.kG,V.Ms]⟩
end
section
variable{T:Program}{z:bV}{s:a2}{m:List (Nat×V)}{o:Nat}{F:V->Prop}
end
section
variable{T:Program}{z:bV}{s:a2}{m:List (Nat×V)}{o:Nat}
end
section
variable{T:Program}{z:bV}{s:a2}{o:Nat}{u:bn}
theorem anu{b:List V}(w:∀Z∈b,Z.plain)u:b.map (V.a u)=b:=(gp λZ c=>V.eC<|w Z c).trans<|Cf b
end
inductive CB(c:bb):V->V->Prop|Lv {Z B:V} (w:wM c Z B):CB c Z B|fn {x:Fn} {ak wh:List V} (w:u3 c ak wh) (bo:ds V.jX ak):CB c (.func x [] ak) (.func x [] wh)
inductive yv(c:bb):List V->List V->Prop|nil:yv c [] []|cons {Z B:V} {xs ak:List V} (w:CB c Z B) (X:yv c xs ak):yv c (Z::xs) (B::ak)
def p5.len{a:V->V->Prop}{xs ak:List V}(w:p5 a xs ak):xs.length=ak.length:=w.get.1
def p5.at{c:V->V->Prop}:∀{xs ak:List V},p5 c xs ak->∀(a:Nat) Z B,xs[a]?=some Z->ak[a]?=some B->eA c Z B
|[],ak,w,a,Z,B,e,_=>bB|Z::xs,[],w,_,_,_,_,_=>w.elim|Z::xs,B::ak,w,a,E,W,b,a0=>by
 cases a;simp at b a0;subst b;subst a0;exact w.1
 next a=>exact p5.at w.2 a E W (by simpa using b) (by simpa using a0)
def CB.n1{c:bb}{Z B:V}(w:CB c Z B)ad u:eA (oI (ad++ar u c)) (Z.a u) B:=by
 cases w
 next w=>exact w.n1 ad u
 next w g=>rename_i x ak i;let b:=w.n1 ad u;rw[(gp λZ e=>V.BY<|nd.1 g Z e).symm] at b;exact .func x [] [] _ _ rfl (λh Z B e _=>bB) b.len (b.at · · · · ·)
def yv.n1{b:bb}ad u:∀{xs ak:List V},yv b xs ak->p5 (oI (ad++ar u b)) (xs.map (V.a u)) ak|_,_,.nil=>rfl|_,_,.cons w X=>⟨w.n1 ad u,yv.n1 ad u X⟩
section
variable{T:Program}{z:bV}{s:a2}{m:List (Nat×V)}{o:Nat}{D:V}
def CJ{x:FuncId}{j:Operand}{args:Array Operand}{w:Array TypeId}{first b k p:List V}(Q:F (O.put P.dst D))(E:P.op=.call {callee:=.value j,args:=args,argTypes:=w}:=by rfl)(A:val m O.h j=some (.func (.func x) first b):=by rfl)(y:jY m O.h args.toList=some k:=by rfl)(i:fg T m x p D)(J:yv O.c (first++k++b) p:=by repeat (first|exact .nil|refine .cons (.Lv<|.pl rfl) ?_|refine .cons (.Lv<|.cell rfl rfl rfl) ?_|refine .cons (.Lv<|.f rfl (by first|rfl|simp)) ?_|refine .cons (.fn (.cons (.cell rfl rfl rfl) .nil) rfl) ?_|refine .cons (.fn (.cons (.cell rfl rfl rfl)<|.cons (.cell rfl rfl rfl) .nil) rfl) ?_))(G:D.ls:=by rfl)(H:ds V.jX first:=by rfl)(I:ds V.jX b:=by rfl)(a0:iR T x:=by exact r2):fR T z s m o ops P O F:=⟨λM g q u N e B L=>by apply bS.pure (D:=D) B;let t:∀{N:List V},ds _ N->N.map _=N.map (V.a u):=λ{N} C=>gp λZ K=>V.BY<|nd.1 C Z K;let r:=J.n1 O.l u;rw[cD,cD,<-t H,<-t I] at r;exact OY E a0 (gn g q A u) (abj g q y) r (g.symm▸i) G;grind[cd.refl,am.kG,V.Ms]⟩
end
def lS(Z B:V):Prop:=∀a U,aE a Z U->aE a B U
theorem lS.refl Z:lS Z Z:=λ_ _ w=>w
def lS.JS{Y:Nat}{E:eu}{xs ak:List V}(e:E.cells.length=Y)(b:xs=E.cells++ak):lS (.agg xs) (.vec Y E ak):=λj U h=>by subst b;cases h with|agg _ i c a g=>exact .vec Y E ak i e c a g
def lS.Ot{Y:Nat}{E:eu}{xs ak:List V}(b:xs=E.cells++ak):lS (.vec Y E ak) (.agg xs):=λi U g=>by subst b;cases g with|vec _ _ _ h j c a e=>exact .agg _ h c a e
section
variable{T:Program}
end
def cb.le{T:Program}{s:a2}{P:Oper}{R:aw}{D b:V}(w:cb T s P R D)(l:lS D b):cb T s P R b:=λE I c j e g i=>w E I c j e g λU o a h m k=>i U o a h (l a U m) k
def Holds.Za{s:a2}{c:aF}{ad:bd}{I:World}{A U k:Nat}{J:TypeId}{Z B:V}(w:Holds s c (ad++[(A,.n U k J [Z])]) I)(o:Z.cells=B.cells):Holds s c (ad++[(A,.n U k J [B])]) I:=by
 let g:∀{id:Nat}{P:bM},(id,P)∈ad++[(A,.n U k J [B])]->∃b,(id,b)∈ad++[(A,.n U k J [Z])]/\∀{c:aF}{I:World}{N:Loc},iV c I N b->iV c I N P:=by
  intro id P hm;rcases ee.1 hm with hm|hm;grind;simp at hm;obtain⟨rfl,rfl⟩:=hm;refine⟨_,uL _<|cV.2 rfl,λ{c I N} w=>?_⟩;exists w.1,w.2.1;rcases w.2.2 with⟨a,i⟩|⟨W,p,a,i,j,l,r,u,x⟩;cases i;refine .inr ⟨W,p,a,i,j,l,r,λh M e=>?_,λh t M E e m=>?_⟩;cases h;simp at e;subst e;rw[<-o];exact u 0 Z rfl
  next h=>trivial
  cases h;simp at e;subst e;rw[<-o] at m;exact x 0 t Z E rfl m
  next h=>trivial
 let z:(ad++[(A,bM.n U k J [B])]).map (·.1)=(ad++[(A,bM.n U k J [Z])]).map (·.1):=af;exact⟨w.le,w.G,w.k0,w.k6,w.k7,λid P hm=>by let⟨b,a,_⟩:=g hm;exact w.own id b a,w.i4,w.kb,λid P hm=>by let⟨b,a,i⟩:=g hm;let⟨N,j,l⟩:=w.eO id b a;simp_all,by rw[z];exact w.jw,λid P N W hm=>by let⟨b,a,_⟩:=g hm;exact w.i9 id b N W a,λid P C b N D W hm y=>by let⟨L,a,_⟩:=g hm;let⟨F,q,_⟩:=g y;exact w.inj id L C F N D W a q⟩
theorem eu.Nz{N:List Bool}:(eu.gW N).cells.length=N.length:=aS _
theorem eu.y_{N:List Bool}{H:Nat}(w:H<N.length){aaW:List V}:((eu.gW N).cells++aaW)[H]?=some (.bool (N.getD H false)):=by rw[q0 (by grind[eu.Nz])];show(N.map _)[H]?=_;simp_all
def eu.ap6{N:List Bool}{a:Nat}(w:a<N.length){W:Bool}{b:List V}:((eu.gW N).cells++b).set a (.bool W)=(eu.gW (N.set a W)).cells++b:=by rw[List.set_append,ab (by grind[eu.Nz])];show(N.map _).set a _++_=(N.set a W).map _++_;simp
def eu.ahU{E:eu}{Y a:Nat}(w:E.cells.length=Y){b:List V}:(E.cells++b)[Y+a]?=b[a]?:=by grind
def eu.aqb{E:eu}{Y a:Nat}(w:E.cells.length=Y){b:List V}{Z:V}:(E.cells++b).set (Y+a) Z=E.cells++b.set a Z:=by simp_all
section
variable{T:Program}{s:a2}
def amY{X J:TypeId}{M:TypeDesc}{l K bs Y cL b p N:Nat}{E:eu}{m:List V}{Z e:Operand}{D:V}{F:IntKind}{k:Int}{a:Nat}(A:bG T X (.array l J) K bs)(r:bG T J M Y cL)(q:lv M=false)(z:fi T J b p)(x:P.op=.index X Z e)(H:R.val s Z=some (.vec N E m))(w:R.val s e=some (.int F k))(L:k=(a:Int))(t:a<l)(i:(E.cells++m)[a*b]?=some D):cb T s P R D:=.same λE I O h=>by
 have c:=h.val H;have g:=h.val w;generalize C:E.eval Z=U at c;generalize B:E.eval e=S at g;subst L;cases g;cases c with
 |vec _ _ _ o Q G c y=>
  have j:a*b<o.length:=by rw[<-G];exact(dm.1 i).1
  refine⟨o[a*b],y _ _ _ i<|bw j,?_⟩;simp[execOp,x,C,B,Instr.index,asIntOf,run_underlying A.u,z.io,t,part,r.pV,q,j]
end
section
variable{T:Program}{z:bV}{s:a2}{m:List (Nat×V)}{o:Nat}{F:V->Prop}
def fb{X J:TypeId}{e:b0}{Z:Operand}{g Y:Nat}{E:eu}{a:List V}(r:F (.vec Y E a))(i:P.op=.load X Z:=by rfl)(x:z.find X=some e:=by rfl)(p:e.agg:=by rfl)(y:val m O.h Z=some (.cU g 0 0):=by rfl)(q:bI O.c g=some (.cell J<|.vec Y E a):=by rfl)(av:E.cells.length=Y:=by first|assumption|(simp[eu.cells];done)|(simp[eu.cells];omega))(t:Y+a.length=e.size:=by rfl)(aR:(V.vec Y E a).plain:=by rfl):c2 T z s m false P O F:=.lA (λo j k u=>by
 obtain⟨A,b⟩:=iw _ q;let b:(O.l++ar u _)[A]?=some ((u g).1,bM.n _ _ J _):=b;rw[V.eC aR] at b⊢;let w:(E.cells++a).length=e.size:=by rw[c_,av,t]
 refine cb.le (OE ((o.find x).yA p) i (g3 j k y (by rw[i];simp[Op.operands]) u) b rfl ?_ w)<|lS.JS av rfl;show((E.cells++a).drop 0).take _=_;grind) r
def DO{X:TypeId}{e:b0}{Z:Operand}{K t a:Nat}{c:List V}{B:V}{G:Bool}D(l:F D)(dc:B.cells[t]?=some D:=by first|rfl|exact eu.y_ Aa|exact eu.Uz _ _ _ Aa _)(o:P.op=.load X Z:=by rfl)(p:z.find X=some e:=by rfl)(k:e.agg=false:=by rfl)(q:val m O.h Z=some (.ref K c a t):=by rfl)(r:c[a]?=some B:=by exact Da)(aR:D.plain:=by rfl):c2 T z s m G P O F:=.of aR (λj g i u ad=>by let aI:=j.find p;exact X_ (aI.e6<|aI.pb k) (aI.hs.resolve_left b) o (fp g i q (by grind[Op.operands]) rfl) r dc) l
def ga{X J:TypeId}{i:b0}{Z:Operand}{e t:Nat}{L B:V}D(x:F D)(g:P.op=.load X Z:=by rfl)(E:z.find X=some i:=by rfl)(G:val m O.h Z=some L:=by rfl)(y:L=.cU e 0 t\/L=.jP e 0 t:=by exact q3)(r:bI O.c e=some (.cell J B):=by rfl)(q:i.agg=false:=by rfl)(dc:B.cells[t]?=some D:=by first|rfl|exact eu.y_ Aa|exact eu.Uz _ _ _ Aa _|exact kB Aa)(w:B.fits:=by rfl)(j:D.one:=by rfl):c2 T z s m false P O F:=.lA (λp k o u=>by let aI:=p.find E;obtain⟨A,C⟩:=iw _ r;rw[V.Bp j];let H:=g3 k o G (by rw[g];simp[Op.operands]) u (ad:=(O.a u).l);exact Ei (aI.e6<|aI.pb q) (aI.hs.resolve_left b) g (by rcases y with rfl|rfl<;>exact H) C rfl (by rw[V.oh w,ch,dc];rfl)) x
def N_{X J:TypeId}{e:b0}{Z l:Operand}{Y:Nat}{E:eu}{g:List V}{D:V}{o:Nat}{h_:IntKind}{k:Int}{G:Bool}{H:Nat}(t:F D)(w:P.op=.index X Z l:=by rfl)(y:eU z X (.array o J):=by exact fe)(c:z.find J=some e:=by rfl)(p:e.agg=false:=by rfl)(A:val m O.h Z=some (.vec Y E g):=by rfl)(r:val m O.h l=some (.int h_ k):=by rfl)(B:k=(H:Int):=by first|rfl|omega)(q:H<o:=by exact FJ)(bq:(E.cells++g)[H]?=some D:=by first|exact eu.y_ Aa|exact eu.Uz _ _ _ Aa _)(aR:(V.vec Y E g).plain:=by rfl)(x:D.plain:=by rfl)(C:e.size=1:=by rfl):c2 T z s m G P O F:=.of x (λa i j u ad=>by obtain⟨_,_,bu⟩:=y.dO a;exact amY bu ((a.find c).e6<|(a.find c).pb p) ((a.find c).hs.resolve_left b) (a.find c).K w (fp i j A (by grind[Op.operands]) aR) (fp i j r (by grind[Op.operands]) rfl) B q b) t
end
section
variable{T:Program}{z:bV}{s:a2}{m:List (Nat×V)}{o:Nat}
def Xm{Z:V}{u:bn}(w:Z.one):Z.dZ u=Z.a u:=(V.Bp w).symm
def pP{X J:TypeId}{p:b0}{L Z:Operand}{j t:Nat}{k B g:V}i(Q:F ({O with c:=fJ O.c j (.cell J i)}.put P.dst .undef))(S:P.op=.store X L Z:=by rfl)(ag:z.find X=some p:=by rfl)(aR:val m O.h L=some k:=by rfl)(ah:val m O.h Z=some g:=by rfl)(U:k=.cU j 0 t\/k=.jP j 0 t:=by exact q3)(D:bI O.c j=some (.cell J B):=by rfl)(i2:t<B.cells.length)(aG:B.cells.set t g=i.cells)(G:B.fits:=by rfl)(H:i.fits:=by rfl)(q:g.one:=by rfl)(ae:p.size=1:=by rfl):fR T z s m o ops P O F:=⟨λC w x u N e M y=>by
 obtain⟨A,W,Y⟩:=se _ u D;have E:(g.a u).cells=[g.a u]:=Bw<|V.Iy q;have ad:(i.a u).cells=(B.a u).cells.take t++(g.a u).cells++(B.a u).cells.drop (t+p.size):=by rw[V.oh H,<-aG,V.oh G,E,ae,ZU i2,cD,cD,z4,Ks,<-Xm q];rfl
 have I:g.fits:=by cases g<;>first|rfl|trivial
 apply bS.n5 M<|C2 (C.find ag).K S (by have:=gn w x aR u;rcases U with rfl|rfl<;>exact this) W rfl (gn w x ah u) (V.ub I) b (by(simp[V.ua];omega)) ad;have r:=y u _ (cd.refl o u) Q;rw[am.kG] at r;have:=Y<|.cell J i;have R:B.cells.length=i.cells.length:=by rw[<-aG,lL]
 have:({(O.a u) with l:=(O.a u).l.set A ((u j).1,.n (u j).2 B.cells.length J<|([B.a u]).set 0<|i.a u)})=({O with c:=fJ O.c j (.cell J i)}).a u:=by rw[R];show(⟨_,_⟩:aw)=⟨_,_⟩;congr 1
 rw[this];exact r⟩
def jS{X:TypeId}{g:b0}{M:Nat}Z(D:F (O.fresh M (.cell X Z) (.cU M 0 0)))(t:P.op=.alloc X:=by rfl)(q:P.dst=some M:=by rfl)(j:Nat.blt M o:=by rfl)(c:z.find X=some g:=by rfl)(dA:Z.cells=(V.zero g.z).cells:=by rfl)(aR:Z.plain:=by rfl)(C:Z.fits:=by rfl):fR T z s m o ops P O F:=⟨λp x y u N e r B=>by
 let j:=mq (show Nat.ble _ o=true from j);refine bS.alloc r t (p.find c).ld rfl λA=>?_;rw[q];let w:g.z.cells.size=Z.cells.length:=by rw[dA,V.abz]
 refine bS.qW (dd:=({O.a u with l:=(O.a u).l++[(A,.n 0 _ X [Z.a u])]}:aw).put (some M) _) (λE I k b=>?_)<|bS.qW (λE I k b=>aH.fresh (λX c=>hd c) (oQ:=.cU M 0 0) (by simp[V.a,V.jb,V.dZ,V.ew,iu];exact .refl _) LN b) ?_;rw[V.eC aR];refine⟨?_,b.h,b.fk,b.size,b.defers⟩;let i:=b.ci;rw[w] at i;exact i.Za dA.symm;grind[cd.of,hd]⟩
end
def vy(M K:Nat)(ak:List V):V->V
|.d X b len=>match Nat.beq X M with
 |true=>.undef|false=>.d X b len
|.cU X a t=>match Nat.beq X M with
 |true=>match a with|0=>.ref K ak 0 t|_+1=>.undef
 |false=>.cU X a t
|.dj X=>match Nat.beq X M with
 |true=>.undef|false=>.dj X
|.nt X=>match Nat.beq X M with
 |true=>.undef|false=>.nt X
|.jP X a t=>match Nat.beq X M with
 |true=>.undef|false=>.jP X a t
|Z=>Z
abbrev Hv(M K:Nat)(ak:List V):V->V:=vG<|vy M K ak
inductive yp(id al K:Nat)(ak:List V):V->V->Prop|cU (t:Nat) (w:0<ak.length):yp id al K ak (.own id al 0 t) (.ref K ak 0 t)|mj (Z B:V) (w:fS Z B):yp id al K ak Z B
theorem yp.one{id al K:Nat}{ak:List V}:uX (yp id al K ak):=λZ B w=>by cases w with|cU=>exists rfl|mj _ _ w=>exact fS.one _ _ w
section
variable{u:bn}{K:Nat}(dJ:0<ak.length)
include dJ
theorem ah5 Z:eA (yp (u M).1 (u M).2 K ak) (Z.ew u) ((vy M K ak Z).ew u):=by
 cases Z with
 |d X b len=>simp[vy];split;exact .base _ _<|.mj _ _<|.a7 ..;exact .refl _|cU X a t=>
  simp[vy];split;rename_i w;have:=mo w;subst this;cases a;exact .base _ _ (.cU t dJ)
  next a=>exact .base _ _<|.mj _ _<|.own ..
  exact .refl _|dj X=>simp[vy];split;exact .base _ _<|.mj _ _<|.hF ..;exact .refl _|nt X=>simp[vy];split;exact .base _ _<|.mj _ _<|.own ..;exact .refl _|jP X a t=>simp[vy];split;exact .base _ _<|.mj _ _<|.own ..;exact .refl _|_=>exact .refl _
omit dJ in
theorem UJ:yr (vy M K ak):=λZ=>by cases Z<;>first|exact .inl rfl|(simp only[vy];split<;>first|exact .inl rfl|exact .inr ⟨rfl,rfl⟩|(split<;>exact .inr ⟨rfl,rfl⟩))
theorem UK Z:eA (yp (u M).1 (u M).2 K ak) (Z.a u) ((Hv M K ak Z).a u):=DB UJ .n1 (λZ _=>ah5 dJ Z) λ_=>ON (λ_=>trivial) Z
end
def am.tJ(O:am)(M K:Nat)(ak:List V):am:=⟨xx (Hv M K ak) O.h,o3 M (Hv M K ak) O.c,O.l⟩
def aH.tJ{s:a2}{O:am}{u:bn}{M K:Nat}{J:TypeId}{Z:V}{E:Act}{I:World}{i:aF}(p:bI O.c M=some (.cell J Z))(aR:Z.plain)(C:Z.cells.length=K)(w:aH s (O.a u) E I i):∃e,aH s ((O.tJ M K [Z]).a u) E I e:=by
 subst C;let g:0<[Z].length:=Cl;let⟨F,j,Q,m,o⟩:=WX (y:=Hv M Z.cells.length [Z]) (an:=u) (DC UJ) (λ_ _=>rfl) p λ_ _ Z _ _=>UK (u:=u) g Z;let x:(O.a u).l[O.l.length+F]?=some ((u M).1,.n (u M).2 Z.cells.length J [Z]):=by show(O.l++ar u O.c)[_]?=_;rw[s5 v,show O.l.length+F-O.l.length=F by omega,j];simp[bt.ad,V.eC aR]
 let⟨e,z,hm,h,N,L,G,A,q⟩:=w.ci.freeze x;let he:(O.a u).l.eraseIdx (O.l.length+F)=O.l++(ar u O.c).eraseIdx F:=by show(O.l++ar u O.c).eraseIdx _=_;rw[abX v];congr 2;omega
 rw[he] at h;let r:=h.drop<|s3 (s4 _) m;refine⟨e,aH.n2 w z r (λB k a0 U D=>?_) yp.one (λX B H=>?_)<|bW.nf o<|bW.refl O.l⟩;cases a0 with|cU t dJ=>exact p8.key b G A q _ _ (p8.own 0 t Cl) U D|mj _ _ P=>grind[fS.eZ]
 exact N2 (λX Z _=>UK g Z) X B H
def Mh{T:Program}{s:a2}{o:Nat}{g:bn}{e:List ResultVar}{a:V->bd->Prop}{b:Exit}{O:am}M K{J:TypeId}{Z:V}(w:g4 T s o g e a b (O.tJ M K [Z]))(l:bI O.c M=some (.cell J Z):=by rfl)(aR:Z.plain:=by rfl)(m:Z.cells.length=K:=by rfl):g4 T s o g e a b O:=⟨w.he,λu k E I p i=>by let⟨h,j⟩:=aH.tJ l aR m i;exact w.run u k E I h j⟩
def ay.tJ{T:Program}{s:a2}{o:Nat}{O:am}{t:Code}{e:Exit->am->Prop}M K{J:TypeId}{Z:V}(w:ay T s o t (O.tJ M K [Z]) e)(j:bI O.c M=some (.cell J Z):=by rfl)(aR:Z.plain:=by rfl)(k:Z.cells.length=K:=by rfl):ay T s o t O e:=⟨λu b g E I l h=>by let⟨a,i⟩:=aH.tJ j aR k h;exact w.run u b g E I a i⟩
section
variable{T:Program}{s:a2}{D:V}
def Mc{x:FuncId}{c:Operand}{args:Array Operand}{k:Array TypeId}{first b j9:List V}{pass IU rest a:bd}(w:P.op=.call {callee:=.value c,args:=args,argTypes:=k})(a0:iR T x)(u:R.val s c=some (.func (.func x) first b))(t:mB s R args.toList j9)(z:(pass++rest).Perm R.l)(y:ff T s.G x (first++j9++b) pass (·=D/\·=IU))(aR:(IU++rest).Perm a):dP T s P R D a:=λE I h r i j q=>
 p7.call (q6:=λe ad=>e=D/\ad=a) w a0 u t z y (by rintro D P ⟨rfl,rfl⟩;exists _,aR.symm,rfl) E I h r i j (by rintro e ad U A g ⟨rfl,rfl⟩ m o p;exact q U A g m o p)
end
def Dm:bb->Bool|[]=>true|(Y,_)::D=>match Nat.ble 6000 Y with|true=>Dm D|false=>false
def UT:∀{N:bb},Dm N->∀A∈N,6000<=A.1|(Y,L)::D,w,A,aI=>by rw[Dm] at w;split at w;rcases eT.1 aI with rfl|aI;simp_all;exact UT w A aI;simp_all
section
variable{T:Program}{z:bV}{s:a2}{m:List (Nat×V)}{o:Nat}{F:c5->am->Prop}{D:V}
def asP e b{x:FuncId}{t:Operand}{args:Array Operand}{E:Array TypeId}{first g l xs:List V}{os bN:bb}(R:F ([],b.map (·.1)) ({O with c:=jW O.c b}.put P.dst D))(y:P.op=.call {callee:=.value t,args:=args,argTypes:=E}:=by rfl)(M:val m O.h t=some (.func (.func x) first g):=by rfl)(I:jY m O.h args.toList=some l:=by rfl)(i:ps T m x xs os D bN)(C:xs.map (nD<|cF e)=first++l++g:=by rfl)(ak:ds (mA<|jO os) xs:=by rfl)(W:lm (jO os) os:=by rfl)(aj:kw O.c (b.map (·.1))=some (os.map λL=>(cF e L.1,L.2.im<|cF e)):=by rfl)(H:b.map (·.2)=bN.map (λL=>(cF e L.1,L.2.im<|cF e)):=by rfl)(S:oi (b.map (·.1)):=by rfl)(U:bN.map (·.1)=os.map (·.1):=by rfl)(Q:Dm bN:=by rfl)(k:lm (jO bN) bN:=by rfl)(B:D.plain:=by rfl)(ag:ds V.jX first:=by rfl)(ah:ds V.jX g:=by rfl)(a0:iR T x:=by exact r2):li T z s m o ops P O Rd F:=by
 refine .mk [] b D [] (os.map λL=>(cF e L.1,L.2.im<|cF e)) [] S rfl aj (.inl rfl) (.inl rfl) (λap p w u=>⟨u,cd.refl o u,λ_ _=>rfl,λr A j aI q=>?_,λad=>?_⟩) R;let an:(b.map (·.2))[r]?=some j.2:=by rw[ch,q];rfl
 rw[ch] at aI;let ao:(bN.map (·.1))[r]?=(os.map (·.1))[r]?:=by rw[U]
 grind;let ca:=cF e;let jC:bn:=λY=>u<|ca Y;let N:=g3 p w M (by rw[y];simp[Op.operands,Call.operands]) u (ad:=(ad++ar u (os.map λL=>(ca L.1,L.2.im ca))));let K:=PT (P:=P) p w I (λZ C=>by grind[Op.operands,Call.operands]) u (ad:=(ad++ar u (os.map λL=>(ca L.1,L.2.im ca))));let al:=OJ (u:=u) C ak ag ah;let av:=Ed (u:=u) (jC:=jC) (λX _=>rfl) W;let aq:ar u (b.map (·.2))=ar jC bN:=by rw[H];exact(Ed (λX _=>rfl) k).symm
 let ae:ff T s.G x (first.map (V.ew u)++l.map (V.a u)++g.map (V.ew u)) (ar jC os) (·=D/\·=ar jC bN):=by rw[al];refine(p.symm▸i jC).mono λax aw=>?_;rintro⟨am,J,rfl,rfl⟩;exists V.eC B;simp only[ar];refine gp λA aI=>?_;refine bt.F_ (L:=jO bN) (λX ai=>?_) (qg k A aI).1 (qg k A aI).2;obtain⟨j,q,rfl⟩:=b4.1<|oe.1 ai;have:=UT Q j q;exact J.eq j.1 v
 show dP T s P ⟨cR P (cj u O.h),ad++([]++ar u (os.map λL=>(ca L.1,L.2.im ca)))⟩ _ (ad++([]++ar u (b.map (·.2))));rw[V.eC B,s8,s8];refine Mc y a0 N K (pass:=ar jC os) (IU:=ar jC bN) (rest:=ad) ?_ ae ?_;grind[List.perm_append_comm];grind[List.perm_append_comm]
def wg{X J:TypeId}{p:b0}{L Z:Operand}{e t j:Nat}{l B g:V}i(H:F ([],[j]) ({O with c:=rJ O.c j (e,.cell J i)}.put P.dst .undef))(x:P.op=.store X L Z:=by rfl)(R:z.find X=some p:=by rfl)(aR:val m O.h L=some l:=by rfl)(S:val m O.h Z=some g:=by rfl)(M:l=.cU e 0 t\/l=.jP e 0 t:=by exact q3)(W:o7 O.c e 0=some j:=by rfl)(U:rq O.c j=some (e,.cell J B):=by rfl)(i2:t<B.cells.length)(aG:B.cells.set t g=i.cells)(D:B.fits:=by rfl)(E:i.fits:=by rfl)(q:g.one:=by rfl)(Q:p.size=1:=by rfl):li T z s m o ops P O Rd F:=by
 refine .mk [] [(j,(e,.cell J i))] _ [] [(e,.cell J B)] [] rfl rfl yk (.inl rfl) (.inl rfl)
  (λy r w u=>⟨u,cd.refl o u,λ_ _=>rfl,λae A ag aI Y=>by grind,λad=>?_⟩) H
 let C:(g.a u).cells=[g.a u]:=Bw<|V.Iy q;let N:(i.a u).cells=(B.a u).cells.take t++(g.a u).cells++(B.a u).cells.drop (t+p.size):=by rw[V.oh E,<-aG,V.oh D,C,Q,ZU i2,cD,cD,z4,Ks,<-Xm q];rfl
 let G:g.fits:=by cases g<;>first|rfl|grind[V.one]
 let I:i.cells.length=B.cells.length:=by rw[<-aG,lL]
 let k:=sZ r w aR (by rw[x];simp[Op.operands]) (u:=u) (ad:=(ad++[((u e).1,bM.n (u e).2 B.cells.length J [B.a u])]));let k:aw.val s ⟨cR P<|cj u O.h,ad++[((u e).1,bM.n (u e).2 B.cells.length J [B.a u])]⟩ L=some (.own (u e).1 (u e).2 0 t):=by rcases M with rfl|rfl<;>exact k
 have:=C2 (y.find R).K x k xr rfl (sZ r w S (by grind[Op.operands])) (V.ub G) b FI N;simp at this;show dP T s P _ _ (ad++[((u e).1,.n _ _ J _)]);rw[I];exact this
def zW{X J:TypeId}{j:b0}{L Z:Operand}{b i:Nat}{B g:V}e(w:F ([],[i]) ({O with c:=rJ O.c i (b,.cell J e)}.put P.dst .undef))(q:g.cells.length=j.size)(y:P.op=.store X L Z:=by rfl)(D:z.find X=some j:=by rfl)(aR:val m O.h L=some (.cU b 0 0):=by rfl)(E:val m O.h Z=some g:=by rfl)(H:o7 O.c b 0=some i:=by rfl)(G:rq O.c i=some (b,.cell J B):=by rfl)(MQ:e.cells=g.cells:=by rfl)(dX:B.cells.length=j.size)(p:g.fits:=by rfl)(t:e.fits:=by rfl):li T z s m o ops P O Rd F:=by
 refine .mk [] [(i,(b,.cell J e))] _ [] [(b,.cell J B)] [] rfl rfl yk (.inl rfl) (.inl rfl)
  (λr k l u=>⟨u,cd.refl o u,λ_ _=>rfl,λM A N aI I=>by grind,λad=>?_⟩) w
 let C:(e.a u).cells=(B.a u).cells.take 0++(g.a u).cells++(B.a u).cells.drop (0+j.size):=by rw[Ci,s8,kk,iv (by simp_all[V.ua,a1]),gf,V.oh t,V.oh p,MQ]
 have:=C2 (R:=⟨cR P _,ad++[((u b).1,.n _ B.cells.length J [B.a u])]⟩) (r.find D).K y (sZ k l aR (by grind[Op.operands])) xr rfl (sZ k l E (by grind[Op.operands])) (V.ub p) FI FI C;simp at this;show dP T s P _ _ (ad++[((u b).1,.n _ _ J _)]);let x:e.cells.length=B.cells.length:=by rw[MQ,q,dX]
 rw[x];exact this
end
section
variable{T:Program}{z:bV}{s:a2}{m:List (Nat×V)}{o:Nat}
def iG{X J:TypeId}{j:b0}{L Z:Operand}{g:Nat}{B i:V}b(E:F ({O with c:=fJ O.c g (.cell J b)}.put P.dst .undef))(H:P.op=.store X L Z:=by rfl)(R:z.find X=some j:=by rfl)(aR:val m O.h L=some (.cU g 0 0):=by rfl)(S:val m O.h Z=some i:=by rfl)(y:bI O.c g=some (.cell J B):=by rfl)(t:b.cells=i.cells:=by rfl)(h1:i.cells.length=j.size)(dX:B.cells.length=j.size)(r:i.fits:=by rfl)(C:b.fits:=by rfl):fR T z s m o ops P O F:=⟨λx p q u N e D w=>by
 obtain⟨A,I,M⟩:=se _ u y;let Q:(b.a u).cells=(B.a u).cells.take 0++(i.a u).cells++(B.a u).cells.drop (0+j.size):=by rw[Ci,s8,kk,iv (by simp_all[V.ua,a1]),gf,V.oh C,V.oh r,t]
 apply bS.n5 D<|C2 (x.find R).K H (gn p q aR u) I rfl (gn p q S u) (V.ub r) FI FI Q;let k:=w u _ (cd.refl o u) E;rw[am.kG] at k;let U:=M<|.cell J b;let G:B.cells.length=b.cells.length:=by rw[t,h1,dX]
 have:({(O.a u) with l:=(O.a u).l.set A ((u g).1,.n (u g).2 B.cells.length J<|([B.a u]).set 0<|b.a u)})=({O with c:=fJ O.c g (.cell J b)}).a u:=by rw[G];show(⟨_,_⟩:aw)=⟨_,_⟩;congr 1
 rw[this];exact k⟩
end
section
variable{T:Program}{z:bV}{s:a2}{m:List (Nat×V)}{o:Nat}
def XD{X J:TypeId}{a c:b0}{D:Nat}{k:Array (Nat×Operand)}{j9:List (Nat×V)}{e:List V}Z(r:F (O.put P.dst Z))(a0:oM (λC=>some (C*c.size,c.size)) (V.zero a.z).cells j9=some e)(B:lS (.agg e) Z)(t:P.op=.build X k:=by rfl)(j:z.find X=some a:=by rfl)(p:a.d=.array D J:=by rfl)(A:a.R=false:=by rfl)(q:z.find J=some c:=by rfl)(y:pR m O.h k.toList=some j9:=by rfl)(x:uk (j9.map (·.2)):=by rfl)(w:Z.plain:=by rfl):fR T z s m o ops P O F:=.pure w (λb i l u=>by let bu:=(b.find j).e6 A;rw[p] at bu;obtain⟨g,_⟩:=IT (i▸l)<|i.symm▸y;rw[WG x] at g;exact cb.le (X8 bu (b.find q).K (b.find j).ld t g a0) B) r
end
section
variable{T:Program}{z:bV}{s:a2}{m:List (Nat×V)}{G:Bool}{F:V->Prop}
def bR.asi{X:TypeId}{Z B:Operand}{Y i:Nat}{E b:eu}{N c:List V}{W:Bool}(w:uT T X (E.cells++N) (b.cells++c) W):bR T .eql X Z B (.vec Y E N) (.vec i b c) (.bool W):=by intro a U e I g h;exact bR.Rg w a U e I (lS.Ot rfl a U g)<|lS.Ot rfl a e h
def alp{X dq:TypeId}{Z B:Operand}{Y g:Nat}{E a:eu}{N b:List V}(W:Bool)(w:uT T X (E.cells++N) (a.cells++b) W)(i:F (.bool W))(j:P.op=.binOp .eql X Z B dq:=by rfl)(o:val m O.h Z=some (.vec Y E N):=by rfl)(p:val m O.h B=some (.vec g a b):=by rfl)(k:(V.vec Y E N).plain:=by rfl)(l:(V.vec g a b).plain:=by rfl):c2 T z s m G P O F:=.of rfl (λq c e u ad=>ul j (fp c e o (by grind[Op.operands]) k) (fp c e p (by grind[Op.operands]) l)<|bR.asi w) i
end
def J1{bm:Type}{x:bm->V}{e:bm->Value}(g:∀a Z U,aE a (x Z) U->U=e Z){a:aF}:∀{N:List bm}{ph:List Value},ph.length=N.length->(∀(c:Nat) Z U,(N.map x)[c]?=some Z->ph[c]?=some U->aE a Z U)->ph=N.map e|[],ph,w,_=>b|Z::N,[],w,_=>aM|Z::N,i::ph,w,h=>by rw[gU,g a Z i<|h 0 _ i rfl rfl,J1 g (N:=N) (ph:=ph) b λc B U k j=>h (c+1) B U b b]
def adz{bm:Type} [DecidableEq bm]M:∀(xs ak:List bm),xs.length=ak.length->((List.range xs.length).all λa=>decide (xs.getD a M=ak.getD a M))=decide (xs=ak):=λxs ak w=>by rw[m4,gV,kM];constructor;intro e;refine oz w λa b c=>?_;simp_all;simp_all
def ZF{T:Program}{I:World}{bm:Type} [DecidableEq bm](e:bm)c M X J{Y K bs t cL:Nat}{g:TypeDesc}(o:bG T X (.array Y J) K bs)(i:bG T J g 1 cL)(h:lv g=false)(m:fi T J 1 t)(l:∀E W,(Op.equalIn (M+1) J (c E) (c W)).run T I=.ok (decide (E=W)) I)(xs ak:List bm)(k:xs.length=Y)(q:ak.length=Y):(Op.equalIn (M+2) X (.agg (xs.map c).toArray) (.agg (ak.map c).toArray)).run T I=.ok (decide (xs=ak)) I:=by
 rw[<-adz e xs ak (k.trans q.symm),k,List.range_eq_range',Op.equalIn];simp only[Sem.run_bind,run_underlying o.u,Result.andThen_ok,m.io,Std.Legacy.Range.forIn_eq_forIn_range',Std.Legacy.Range.size,Qw,KA,Fx];have j:∀a∈List.range' 0 Y 1,a<Y:=λa p=>b;generalize List.range' 0 Y 1=N at j⊢
 induction N
 simp
 next a N w=>
  have:a<Y:=j a af;have r:(part J (xs.map c).toArray (a*1)).run T I=.ok (c (xs.getD a e)) I:=by unfold part;simp[Sem.run_bind,i.pV,h];simp[bw<|show a<xs.length by omega]
  have s:(part J (ak.map c).toArray (a*1)).run T I=.ok (c (ak.getD a e)) I:=by unfold part;simp[Sem.run_bind,i.pV,h];simp[bw<|show a<ak.length by omega]
  simp only[List.forIn_cons,Sem.run_bind,r,s,l,Result.andThen_ok,Kj];cases a0:decide (xs.getD a e=ak.getD a e);simp;simp_all
def V.s1:V->Prop|.agg _=>True|.vec Y E _=>E.cells.length=Y|_=>False
theorem V.asE{Z:V}(w:Z.s1)u:lS (.agg (Z.a u).cells) (Z.a u):=by cases Z with|agg N=>exact lS.refl _|vec Y E N=>exact lS.JS w rfl|_=>exact w.elim
inductive rb(z:bV)(h:List (Nat×V))(c:bb):List ResultVar->List V->Prop|nil:rb z h c [] []|tmp {X:Nat} {D:List ResultVar} {Z:V} {xs:List V} (w:eM h X=some Z) (A:rb z h c D xs):rb z h c (.tmp X::D) (Z::xs)|ln {W uc:Nat} {X J:TypeId} {iN:b0} {D:List ResultVar} {el:V} {xs:List V} (w:eM h W=some (.cU uc 0 0)) (h9:bI c uc=some (.cell J el)) (aU:z.find X=some iN) (as1:iN.agg) (aik:el.fits) (hw:el.s1) (bq:el.cells.length=iN.size) (A:rb z h c D xs):rb z h c (.cell W X::D) (el::xs)|cell {W uc:Nat} {X J:TypeId} {iN:b0} {D:List ResultVar} {el Z:V} {xs:List V} (w:eM h W=some (.cU uc 0 0)) (h9:bI c uc=some (.cell J el)) (aU:z.find X=some iN) (aik:el.fits) (aR:oo el.cells 0 iN.size iN.agg=some Z) (A:rb z h c D xs):rb z h c (.cell W X::D) (Z::xs)
section
variable{T:Program}{z:bV}{s:a2}{o:Nat}{u:bn}
theorem rb.run(ad:e2 T z){E:Act}{I:World}{m:aF}(w:aH s (O.a u) E I m){R:List ResultVar}{K:List V}(al:rb z O.h O.c R K):∃e,e.length=(K.map (V.a u)).length/\(R.mapM (rI E.tmps)).run T I=.ok e I/\∀(j:Nat) Z U,(K.map (V.a u))[j]?=some Z->e[j]?=some U->aE m Z U:=by
 let step:∀{W o:Nat}{X J:TypeId}{g:b0}{D:List ResultVar}{i Z:V}{xs:List V},eM O.h W=some (.cU o 0 0)->bI O.c o=some (.cell J i)->z.find X=some g->i.fits->g.agg/\lS (.agg<|((i.cells.drop 0).take g.size).map<|V.dZ u) (Z.a u)/\((i.cells.drop 0).take g.size).length=g.size\/g.agg=false/\i.cells[0]?=some Z/\Z.one->(∃e,e.length=(xs.map<|V.a u).length/\(D.mapM<|rI E.tmps).run T I=.ok e I/\∀(j:Nat) Z U,(xs.map<|V.a u)[j]?=some Z->e[j]?=some U->aE m Z U)->∃e,e.length=((Z::xs).map<|V.a u).length/\((ResultVar.cell W X::D).mapM<|rI E.tmps).run T I=.ok e I/\∀(j:Nat) B U,((Z::xs).map<|V.a u)[j]?=some B->e[j]?=some U->aE m B U:=by
  intro W o X J g D i Z xs a0 ag an ah ak ai;obtain⟨e,A,q,Y⟩:=ai;obtain⟨F,L⟩:=iw (u:=u) O.l ag;let Q:(O.a u).val s (.tmp W)=some ((V.cU o 0 0).a u):=by show(cj u O.h).lookup W=_;rw[jQ,<-pL,a0];rfl
  let aI:=ad.find an;let x:=V.oh (u:=u) ah;let aq:∃U,aE m (Z.a u) U/\(do loadVar X (<-asAddr (E.eval<|.tmp W))).run T I=.ok U I:=by rcases ak with⟨k,aj,q⟩|⟨k,t,p⟩;obtain⟨M,aw,y,S⟩:=(aI.yA k).dO;obtain⟨U,H,P⟩:=Wq y S Q L rfl (sD:=((i.cells.drop 0).take g.size).map<|V.dZ u) b (by rw[aS];exact q) w;exists U,aj m U H;rw[V.Bp p];exact Wp (aI.e6<|aI.pb k) (aI.hs.resolve_left (by simp[k])) Q L rfl b w
  obtain⟨U,am,P⟩:=aq;refine⟨U::e,by simpa using A,?_,λj B av ap ao=>?_⟩;simp[z3,Sem.run_bind];have:(rI E.tmps (.cell W X)).run T I=.ok U I:=P;rw[this];simp[q];grind
 induction al
 simp
 next X D Z xs ay _ r=>obtain⟨e,A,q,Y⟩:=r;obtain⟨U,H,am⟩:=w.h X (Z.a u) (by show(cj u O.h).lookup X=_;grind[jQ,pL]);refine⟨U::e,by simpa using A,?_,λj B av ap ao=>?_⟩;simp[z3,Sem.run_bind];simp[rI,x8,H,q];grind
 next W o X J g D i xs a0 x G ae C ax N _ r=>
  let y:(i.cells.drop 0).take g.size=i.cells:=by rw[uI,<-N,gq]
  refine step a0 x G C (.inl ⟨ae,?_,by rw[y];exact N⟩) r;grind[V.oh,V.asE]
 next W o X J g D i Z xs a0 x G C aR _ r=>refine step a0 x G C ?_ r;cases k:g.agg with|true=>rw[k] at aR;obtain⟨t,p⟩:=BE aR;exact .inl ⟨rfl,by rw[t];exact lS.refl _,p⟩|false=>rw[k] at aR;obtain⟨t,p⟩:=BF aR;exact .inr ⟨rfl,t,p⟩
def TR{k:bn}{i:List ResultVar}{e:V->bd->Prop}{J:Exit}{j:List V}b(t:e2 T z)(C:rb z O.h O.c i j)(aI:∀u,cd o k u->e (cO (j.map (V.a u))) (O.l++ar u b))(y:qb b O.c:=by repeat (first|exact trivial|refine And.intro rfl ?_))(B:lx b:=by rfl)(A:J=.ret\/J=.normal:=by exact q3):g4 T s o k i e J O:=by refine⟨A,λu x E I m g=>?_⟩;let⟨D,p,q,r⟩:=C.run t g;refine⟨D,_,O.l++ar u _,m,p,q,r,?_,aI u x⟩;have:=aH.zJ (O:=⟨[],O.c,O.l⟩) (dF:=⟨[],b,O.l⟩) ⟨trivial,y,B,rfl⟩<|aH.wd (N:=[]) g λX Z w=>aM;exact this.ci
def AO{p:bn}{b:List ResultVar}{J:Exit}{a:List V}{D:V}(e:e2 T z)(j:rb z O.h O.c b a)(aR:ds V.plain a:=by rfl)(i:O.l=[]:=by rfl)(g:J=.ret\/J=.normal:=by exact q3)(w:cO a=D:=by rfl):g4 T s o p b (λm k=>m=D/\k=[]) J O:=TR [] e j (λu _=>⟨by grind[anu,nd],by rw[i];rfl⟩) trivial rfl g
def pD{i:bn}{g:List ResultVar}{J:Exit}{e:List V}{D:V}{bN:bb}(j:e2 T z)(r:rb z O.h O.c g e)(y:ds V.Bq e:=by rfl)(m:qb bN O.c:=by repeat (first|exact trivial|refine And.intro rfl ?_))(q:lx bN:=by rfl)(A:O.l=[]:=by rfl)(p:J=.ret\/J=.normal:=by exact q3)(w:cO e=D:=by rfl):g4 T s o i g (λx t=>∃an,cd o i an/\x=D.a an/\t=ar an bN) J O:=TR bN j r (λu k=>⟨u,k,KP,b⟩) m q p
end
def Vg(Z:Nat)(N:List Nat):List Nat:=if N.contains Z then N else Z::N
def GF:List Nat->List Nat|[]=>[]|Z::N=>Vg Z<|GF N
def H6:∀{N:List Nat}{Z:Nat},Z∈GF N↔Z∈N|[],Z=>lI|B::N,Z=>by rw[GF,Vg];split;rename_i w;rw[H6,eT];constructor;simp_all;rintro(rfl|a);exact H6.1 (by simpa using w);omega;rw[eT,eT,H6]
def I_:List Oper->List (List Nat)->List (List Nat)|[],acc=>acc|P::N,acc=>I_ N<|acc++[GF ((P.after.toList.filter<|Region.binds .any).flatMap λJ=>J.on::acc.getD J.on [])]
def ZN(E W:List (List Nat)):Prop:=E.length=W.length/\∀a Z,Z∈E.getD a []↔Z∈W.getD a []
def YE:∀N E W,ZN E W->ZN (I_ N E) (zw N W)
|[],E,W,w=>w|P::N,E,W,w=>by
 refine YE N _ _ ⟨by simp[w.1],λb Z=>?_⟩;rw[cg,cg,lK,lK,w.1];split;exact w.2 b Z;cases b-W.length;simp only[Ko,te];rw[H6,Ql,Ql];constructor;rintro⟨J,he,a⟩;exists J,he;rw[eT] at a⊢;rw[<-w.2];exact a;rintro⟨J,he,a⟩;exists J,he;rw[eT] at a⊢;rw[w.2];exact a
 next F=>simp
def Wd(N:List Oper):Bool:=let g:=I_ N []
 N.zipIdx.all λ(a,b)=>(a.after.toList.all λJ=>!Region.binds .any J||J.on<b)&&
  (N.take b).zipIdx.all λ(c,e)=>(match c.dst with|some X=>!((looks N.toArray a).contains X||a.dst==some X)|none=>true)&&(match a.dst with|some X=>!(looks N.toArray c).contains X|none=>true)||(g.getD b []).contains e
def aj6{N:List Oper}(w:Wd N):pK N:=by
 let c:∀a b,((I_ N []).getD a []).contains b=((zw N []).getD a []).contains b:=λa b=>by rw[m4,Kk,Kk];exact(YE N [] [] ⟨rfl,λ_ _=>lI⟩).2 a b
 unfold Wd at w;simp only[c] at w;exact w
section
variable{T:Program}{s:a2}
def adS{l:bd}(e c:qd)(Q:(e.map (·.1)++c.map (·.1)).Nodup)(D:∀A∈e,l[A.1]?=some A.2)(r:∀A∈c,l[A.1]?=some A.2)(m:(l.map (·.1)).Nodup):∃i:bd,(∀L∈i++(e.map (·.2)++c.map (·.2)),L∈l)/\((i++(e.map (·.2)++c.map (·.2))).map (·.1)).Nodup/\∀(a:List (Nat×(Nat×bM)×Nat×bM)),(a.map λA=>(A.1,A.2.1))=c->(∀A∈a,A.2.2.1=A.2.1.1)->∀{p:aF}{x:World},Holds s p (i++(e.map (·.2)++a.map (·.2.2))) x->Holds s p (eI l<|a.map λA=>(A.1,A.2.2)) x:=by
 let j:=e.map (·.2)++c.map (·.2);let i:=l.filter λL=>!(j.map (·.1)).contains L.1;have y:∀L∈j,∃F∈e.map (·.1)++c.map (·.1),l[F]?=some L:=by intro L aR;rcases ee.1 aR with aR|aR;obtain⟨A,aI,rfl⟩:=b4.1 aR;exact⟨A.1,ee.2<|.inl<|b4.2 ⟨A,aI,rfl⟩,D A aI⟩;grind
 have:(j.map (·.1)).Nodup:=by
  have P:∀(g:List (Nat×Nat×bM)),(g.map (·.1)).Nodup->(∀A∈g,l[A.1]?=some A.2)->((g.map (·.2)).map (·.1)).Nodup:=by
   intro g
   induction g
   simp
   next A g O=>intro h1 b;simp only[gU,s9] at h1⊢;refine⟨λI=>?_,O h1.2 λZ t=>b Z (by simp[t])⟩;let⟨B,u,w⟩:=b4.1 I;obtain⟨k,ap,rfl⟩:=b4.1 u;have:=zp m (b k (by simp[ap])) (b A af) w;exact h1.1<|this▸b4.2 ⟨k,ap,rfl⟩
  have:=P (e++c) aK (by intro A aI;rcases ee.1 aI with aI|aI;exact D A aI;exact r A aI);simpa[j,cD,ez,ig] using this
 have:(i.map (·.1)).Nodup:=m.sublist<|List.filter_sublist.map _;refine⟨i,?_,?_,λa q K p x J=>J.sub ?_ ?_⟩;intro L aR;rcases ee.1 aR with aR|aR;exact(j1.1 aR).1;let⟨F,_,h⟩:=y L aR;exact dh h;grind;have E:∀A∈a,l[A.1]?=some A.2.1:=λA aI=>r (A.1,A.2.1) (by rw[<-q];exact b4.2 ⟨A,aI,rfl⟩);have M:c.map (·.1)=a.map (·.1):=by rw[<-q];simp[ez,ig]
 intro L aR;let⟨F,h⟩:=lg.1 aR;rcases E6 h with⟨h1,b⟩|h1;by_cases z:L.1∈j.map (·.1);let⟨B,u,w⟩:=b4.1 z;let⟨R,sx,C⟩:=y B u;have N:=zp m C b w;subst N;have rfl:B=L:=by rw[C] at b;exact lN b
 rcases ee.1 sx with sx|sx;grind;rw[M] at sx;exact absurd (by simpa[ez,ig] using sx) h1;exact ee.2<|.inl<|j1.2 ⟨dh b,by simpa usingλZ t=>z<|b4.2 ⟨(L.1,Z),t,rfl⟩⟩;let⟨A,aI,o⟩:=b4.1 h1;refine ee.2<|.inr<|ee.2<|.inr<|b4.2 ⟨A,aI,?_⟩;exact cW Prod.snd o;have E:∀A∈a,l[A.1]?=some A.2.1:=λA aI=>r (A.1,A.2.1) (by rw[<-q];exact b4.2 ⟨A,aI,rfl⟩);have:(eI l (a.map λA=>(A.1,A.2.2))).map (·.1)=l.map (·.1):=by
  refine ho λF=>?_;rw[ch,ch];have:=zP (a.map λA=>(A.1,A.2.2)) l;cases h:(eI l<|a.map λA=>(A.1,A.2.2))[F]?;have:=Qh.1 h;rw[s6 v]
  next Z=>rcases E6 h with⟨_,b⟩|h1;rw[b];let⟨A,aI,o⟩:=b4.1 h1;have G:A.1=F:=cW Prod.fst o;have H:A.2.2=Z:=cW Prod.snd o;rw[<-G,E A aI];simp[<-H,K A aI]
 rw[this];exact m
end
section
variable(T:Program)(z:bV)(s:a2)(m:List (Nat×V))(o:Nat)
def Ar(bK:List Oper)(b:Nat):Bool:=let c:=zw bK []
 (List.range bK.length).all λa=>a<=b||(c.getD a []).contains b
theorem ado{bK:List Oper}{c:Nat}(w:Ar bK c):∀a,c<a->a<bK.length->Reach bK.toArray a c:=by let e:=Ja (ops:=bK.toArray) bK [] (λa P g=>b) λh a w=>bB;unfold Ar at w;grind
def qn(a:List Nat)(N:List (Nat×V)):List (Nat×V):=match a with|[]=>N|_=>N.filter λL=>! gI L.1 a
theorem ahl{a:List Nat}{X:Nat}(a0:gI X a):∀N:List (Nat×V),(N.filter λL=>! gI L.1 a).lookup X=none|[]=>rfl|W::N=>by grind
theorem Mo{a:List Nat}{X:Nat}{Z:V}:∀{N:List (Nat×V)},(N.filter λL=>! gI L.1 a).lookup X=some Z->N.lookup X=some Z
|[],w=>w|(F,B)::N,w=>by cases hm:gI X a with|true=>grind[ahl]|false=>rw[List.filter_cons] at w;split at w;rw[oB] at w⊢;split at w;exact w;exact Mo w;rw[oB];split;simp_all;exact Mo w
theorem agy{a:List Nat}{N:List (Nat×V)}{X:Nat}{Z:V}(w:(qn a N).lookup X=some Z):N.lookup X=some Z:=by
 cases a;exact w
 next E a=>exact Mo w
inductive uY(bK:List Oper)(P:Oper)(acc:List c5)(O:am)(F:List c5->am->Prop):Prop
|mk (wJ:List Nat) (kq:List (Nat×Nat×bt)) (D:V) (rd wr:bb) (sG VM:List Nat)
 (aio:oi (wJ++kq.map (·.1))) (dc:kw O.c wJ=some rd) (hw:kw O.c (kq.map (·.1))=some wr)
 (bq:sG=[]\/qf (hj sG) (qn VM O.h)) (h9:sG=[]\/rf (hj sG) (kq.map (·.1)) O.c 0)
 (as6:P.guard=none) (as0:Ar bK acc.length) (as7:qE bK (acc++[(wJ,kq.map (·.1))]))
 (run:e2 T z->s.G=m->dp m->∀u ad,p7 T s P ⟨cR P (cj u O.h),ad++(ar u rd++ar u wr)⟩ (λmc rD=>∃an,cd o u an/\(∀X,hj sG X->an X=u X)/\(∀(H:Nat)(A:Nat×bt)(Ek:Nat×Nat×bt),wr[H]?=some A->kq[H]?=some Ek->(an Ek.2.1).1=(u A.1).1)/\mc=D.a an/\rD=ad++(ar u rd++ar an (kq.map (·.2)))))
 (hk:F (acc++[(wJ,kq.map (·.1))]) ({O with h:=qn VM O.h,c:=jW O.c kq}.put P.dst D)):uY bK P acc O F
def Bd(Y:Nat)(N:List c5)(a:Prop):Prop:=match Nat.beq N.length Y with|true=>a|false=>False
def zU(bK:List Oper):List Nat->List Oper->List c5->am->(List c5->am->Prop)->Prop|[],N,acc,O,F=>nN T z s m o bK 4000 N [] acc O F|t::b,N,acc,O,F=>match N.drop t with|[]=>False|P::a=>nN T z s m o bK 4000 (N.take t) [] acc O λacc c=>Bd (bK.length-(a.length+1)) acc<|uY T z s m o bK P acc c (zU bK b a · · F)
end
section
variable{T:Program}{z:bV}{s:a2}{m:List (Nat×V)}{o:Nat}
def Ny{Y:Nat}{N:List c5}{a:Prop}:Bd Y N a->N.length=Y/\a:=by grind[Bd,Nat.eq_of_beq_eq_true]
def uY.ok(aF:e2 T z)(aB:s.G=m)(aD:dp m){bK:List Oper}{P:Oper}{acc:List c5}{O:am}{F:List c5->am->Prop}(w:uY T z s m o bK P acc O F)(u:bn):∃(cI:c5)(S:am),F (acc++[cI]) S/\P.guard=none/\Ar bK acc.length/\qE bK (acc++[cI])/\∀l,l.length=(O.ej u).l.length->(∀F,F∈cI.1\/F∈cI.2->l[F]?=(O.ej u).l[F]?)->p7 T s P ⟨cR P (O.ej u).h,l⟩ (λD ad=>∃M:hf,(∃an,cd o u an/\js an S.c=js u O.c/\(∀A∈M.2,A.1∈cI.2)/\gQ (S.ej an) (({O.ej u with l:=eI (O.ej u).l M.2}:aw).put P.dst M.1))/\D=M.1/\ad=eI l M.2):=by
 let⟨t,b,D,rd,e,a6,k,aV,aW,R,N,C,aH,aG,aU,run,aO⟩:=w;let ah:=IB aV;let⟨a4,aJ⟩:=za aW;let⟨aT,J⟩:=za R;simp only[aS] at aT;refine⟨(t,b.map (·.1)),_,aO,aH,aG,aU,λl a5 Y E I al j ao ap aE=>?_⟩;let lP:qd:=(t.zip rd).map λA=>(A.1,b7 u A.2);let r:qd:=(b.zip e).map λA=>(A.1.1,b7 u A.2);let a2:lP.map (·.1)=t:=by simp only[lP,ez,ig];exact ws v
 let Q:lP.map (·.2)=ar u rd:=by
  simp only[lP,ez,ig,ar];have:(t.zip rd).map (λZ=>b7 u Z.2)=((t.zip rd).map Prod.snd).map (b7 u):=by simp[ez,ig]
  rw[this,Fu v]
 let a3:r.map (·.1)=b.map (·.1):=by
  simp only[r,ez,ig];have:(b.zip e).map (λZ=>Z.1.1)=((b.zip e).map Prod.fst).map (·.1):=by simp[ez,ig]
  rw[this,ws v]
 let av:r.map (·.2)=ar u e:=by
  simp only[r,ez,ig,ar];have:(b.zip e).map (λZ=>b7 u Z.2)=((b.zip e).map Prod.snd).map (b7 u):=by simp[ez,ig]
  rw[this,Fu v]
 let⟨aZ,ai,aj,aY⟩:=adS (s:=s) (l:=l) lP r aM (by intro A aI;obtain⟨Z,i,rfl⟩:=b4.1 aI;let⟨g,p⟩:=lg.1 i;rw[z1] at p;have:=aJ g _ _ p.1 p.2;rw[Y Z.1<|.inl<|dh p.1];exact wT this) (by intro A aI;obtain⟨Z,i,rfl⟩:=b4.1 aI;let⟨g,p⟩:=lg.1 i;rw[z1] at p;have:=J g Z.1.1 Z.2 aM p.2;rw[Y Z.1.1<|.inr<|b4.2 ⟨Z.1,dh p.1,rfl⟩];exact wT this) j.ci.jw
 rw[Q,av] at ai aj;refine run aF aB aD u aZ E I al ⟨j.ci.sub ai aj,j.h,j.fk,j.size,j.defers⟩ ao ap ?_;rintro a8 ad U a0 ak ⟨an,aA,ev,hid,rfl,rfl⟩ aC aX aK;let q:List (Nat×(Nat×bM)×Nat×bM):=(b.zip e).map λA=>(A.1.1,b7 u A.2,b7 an A.1.2);let ax:q.map (·.2.2)=ar an (b.map (·.2)):=by
  simp only[q,ez,ig,ar];have:(b.zip e).map (λZ=>b7 an Z.1.2)=((b.zip e).map Prod.fst).map (λA=>b7 an A.2):=by simp[ez,ig]
  rw[this,ws v]
 let ay:q.map (λA=>(A.1,A.2.2))=b.map λA=>(A.1,b7 an A.2):=by
  simp only[q,ez,ig];have:(b.zip e).map (λZ=>(Z.1.1,b7 an Z.1.2))=((b.zip e).map Prod.fst).map (λA=>(A.1,b7 an A.2)):=by simp[ez,ig]
  rw[this,ws v]
 let ae:=aY q (by grind[List.map_map,Function.comp_def]) (by intro A aI;obtain⟨Z,i,rfl⟩:=b4.1 aI;let⟨g,p⟩:=lg.1 i;rw[z1] at p;exact hid g Z.2 Z.1 p.2 p.1) (by rw[Q,ax];exact aK);rw[ay] at ae;refine aE _ _ U a0 ak ⟨(D.a an,b.map λA=>(A.1,b7 an A.2)),⟨an,aA,?_,?_,?_⟩,rfl,rfl⟩ aC aX ae;let aq:(({O with h:=qn k O.h,c:=jW O.c b}:am).put P.dst D).c=jW O.c b:=by cases P.dst<;>rfl
 rw[aq];refine ho λg=>?_;rw[js,js,ch,ch];by_cases p:g∈b.map (·.1);obtain⟨A,aI,rfl⟩:=b4.1 p;let⟨y,K⟩:=lg.1 aI;let ag:y<e.length:=by have:=(dm.1 K).1;omega
 let W:=J y A.1 e[y] (by rw[ch,K];rfl)<|bw ag;let az:(jW O.c b)[A.1]?=some A.2:=JC (pm.1 ah).2.1 aI (dm.1 W).1;rw[W,az];simp only[iP,fc];exact hid y e[y] A (bw ag) K;rw[EF p];cases aP:O.c[g]? with|none=>rfl|some Z=>simp only[iP,fc];rcases C with rfl|C;rw[ev Z.1 rfl];rw[ev Z.1 (Ga C g Z aP (by simpa using p)).1]
 intro A aI;obtain⟨Z,i,rfl⟩:=b4.1 aI;exact b4.2 ⟨Z,i,rfl⟩;let aN:∀L∈b.map (·.1),L<O.c.length:=by
  intro L aR;let⟨g,p⟩:=lg.1 aR;let aL:g<e.length:=by have:=(dm.1 p).1;simp at this;omega
  have:=J g L e[g] p<|bw aL;exact(dm.1 this).1
 rw[am.BK];show gQ ((⟨cj an (qn k O.h),ar an (jW O.c b)++O.l⟩:aw).put P.dst (D.a an)) ((⟨cj u O.h,eI (ar u O.c++O.l) _⟩:aw).put P.dst (D.a an));rw[Z0 (pm.1 ah).2.1 aN ev C];let R:gQ (⟨cj an<|qn k O.h,ar an (jW O.c b)++O.l⟩:aw) (⟨cj u O.h,ar an (jW O.c b)++O.l⟩:aw):=by
  refine⟨λX Z i=>?_,rfl⟩;let i:(cj an<|qn k O.h).lookup X=some Z:=i;let x:(cj u<|qn k O.h).lookup X=some Z:=by rcases N with rfl|N;have:an=u:=funext λX=>ev X rfl;rw[<-this];exact i;rw[<-Lf ev N];exact i
  show(cj u O.h).lookup X=some Z;rw[jQ] at x⊢;cases H:(qn k O.h).lookup X with|none=>rw[H] at x;cases x|some B=>rw[H] at x;rw[agy H];exact x
 exact R.put P.dst<|D.a an
def p7.asH{P:Oper}{c e:List (Nat×V)}{g:bd}{b:V->bd->Prop}(m:∀X Z,e.lookup X=some Z->c.lookup X=some Z)(w:p7 T s P ⟨e,g⟩ b):p7 T s P ⟨c,g⟩ b:=λE I i a j k l=>
 w E I i ⟨a.ci,λX Z o=>a.h X Z<|m X Z o,a.fk,a.size,a.defers⟩ j k l
def asN(Q:e2 T z)(J:s.G=m)(K:dp m){bK:List Oper}(q:aw):∀(r:List Nat)(N:List Oper)(acc:List c5)(O:am)(F:List c5->am->Prop),zU T z s m o bK r N acc O F->∀(u:bn)(j:aw->Prop),(∀an aN g,cd o u an->F aN g->js an g.c=js u O.c->∀R,(∀X Z,(g.ej an).h.lookup X=some Z->R.h.lookup X=some Z)->R.l=(g.ej an).l->aN.length=bK.length/\qE bK aN/\j R)->∀(a:List hf)(bj:List Oper),bK=bj++N->bj.length=a.length->acc.length=a.length->gQ (O.ej u) (bQ bK a (λ_=>true) 0 q)->lR T s bK q j a acc:=by
 intro r
 induction r with
 |nil=>
  intro N acc O F w u j L a bj H p ae C;let⟨aN,mf,y,_,aC,aD,aE⟩:=PY Q J K 4000 N [] acc O F w u (λaN R=>aN.length=bK.length/\qE bK aN/\j R) L (bQ bK a (λ_=>true) 0 q) C.h C.l.symm;let E:aN.length=N.length:=by rw[c_,H,c_] at aC;omega
  refine lR.run (ru:=N) (hr:=[]) (bj:=bj) (mf:=mf) (y8:=aN) aK p E y λI=>?_;refine .leaf ?_ (NC aD) ?_;simp_all;rw[pt.bQ (hr:=[]) aK p y rfl];exact aE|cons t r aH=>
  intro N acc O F w u j L a bj H p ae C;rw[zU] at w;split at w;trivial;rename_i P hr B;let aj:N=N.take t++P::hr:=by rw[<-B];exact(Ch t N).symm
  let⟨aN,mf,y,_,b,e,bu,cG,al,ap,i⟩:=PY Q J K 4000 (N.take t) [] acc O _ w u (λaN R=>∃b e,cd o u b/\js b e.c=js u O.c/\aN.length=bK.length-(hr.length+1)/\uY T z s m o bK P aN e (λacc D=>zU T z s m o bK r hr acc D F)/\gQ (e.ej b) R)
   (λan aN g S k U R Y W=>⟨an,g,S,U,(Ny k).1,(Ny k).2,Y,W.symm⟩) (bQ bK a (λ_=>true) 0 q) C.h C.l.symm
  let aP:bK.length=bj.length+((N.take t).length+(hr.length+1)):=by have:=cW List.length aj;rw[c_,kh] at this;rw[H,c_,this]
  let E:aN.length=(N.take t).length:=by rw[c_] at al;omega
  refine lR.run (ru:=N.take t) (hr:=P::hr) (bj:=bj) (mf:=mf) (y8:=aN) aM p E y λI=>?_;let aF:=pt.bQ (N:=bK) (hr:=P::hr) aM p y rfl;rw[<-aF] at i;let ai:(a++mf).length=(bj++N.take t).length:=by rw[c_,c_,I,p]
  let ah:bK=bj++N.take t++P::hr:=by rw[ge,<-aj];exact H
  let ag:bK[(a++mf).length]?=some P:=by rw[ai,ah,s5<|a1 _,ms];rfl
  let aO:(acc++aN).length=(a++mf).length:=by rw[c_,c_,ae,E,I]
  let⟨cI,D,ao,aq,aJ,av,ax⟩:=ap.ok Q J K b;refine .many (x:=cI) (q6:=λM=>∃an,cd o b an/\js an D.c=js b e.c/\(∀A∈M.2,A.1∈cI.2)/\gQ (D.ej an) (({e.ej b with l:=eI (e.ej b).l M.2}:aw).put P.dst M.1)) ag (NC av) (by grind[ado]) (λM B=>by let⟨_,_,_,w,_⟩:=B;exact w) (i.guard<|UF b aq) (λl ay az=>?_) λM B=>?_;exact(ax l (by rw[ay,i.l]) λF k=>by rw[az F k,i.l]).asH<|i.cR P;let⟨aI,aA,aB,aL,ad⟩:=B;refine aH hr _ D F ao aI j (λan aN g S k U R Y W=>L an aN g ((bu.trans aA).trans S) k (U.trans<|aB.trans cG) R Y W) _ (bj++N.take t++[P]) (by rw[ah];simp) (by rw[c_,<-ai,@c_ _<|a++mf];rfl) aK ?_;rw[Jh ag];let ak:gQ (⟨(e.ej b).h,eI (e.ej b).l M.2⟩:aw) ⟨(bQ bK (a++mf) (λ_=>true) 0 q).h,eI (bQ bK (a++mf) (λ_=>true) 0 q).l M.2⟩:=⟨i.h,by rw[i.l]⟩;exact⟨λX Z aG=>(ak.put P.dst M.1).h X Z<|ad.h X Z aG,ad.l.trans (ak.put P.dst M.1).l⟩
def Tg{N:List Oper}{O:am}{a:List Nat}{e:Exit->am->Prop}(h:e2 T z)(c:s.G=m)(g:dp m)(w:zU T z s m o N a N [] O (λaN b=>Bd N.length aN<|wB o N aN O b<|e .normal))(u:bn):lR T s N (O.ej u) (r4 o u O e) [] []:=asN h c g (O.ej u) a _ [] O _ w u _
 (λan aN b l i p R x r=>by let⟨y,j⟩:=Ny i;cases j with|mk B A q t k aI=>grind[r4]) [] [] rfl rfl rfl (by simp[bQ,gQ.refl])
def ay.GP(a:List Nat)(k:T.follows .mixedOrders)(h:e2 T z)(b:s.G=m)(c:dp m)(l:s.n=Y){id:Nat}{ops:Array Oper}{O:am}{e:Exit->am->Prop}(i:qo Y ops.toList)(j:pK ops.toList)(w:zU T z s m o ops.toList a ops.toList [] O (λaN q=>Bd ops.toList.length aN<|wB o ops.toList aN O q<|e .normal)):ay T s o (.region id ops true) O e:=⟨λu r g=>by
 let J:ops=ops.toList.toArray:=by simp
 let p:=Tg h b c w u;exact r4.fin (dE.Zc (id:=id) (e:=λJ R=>J=.normal/\r4 o u O e R) k (by rw[l];exact yU i) j (by simpa using p)) g⟩
end
def Se(u:bn)(E W:bb):ar u (E++W)=ar u E++ar u W:=by simp[ar,cD]
def UR(X:Nat):Bool:=Nat.ble 6000 X
section
variable{T:Program}{z:bV}{s:a2}{m:List (Nat×V)}{o:Nat}{acc:List c5}{F:List c5->am->Prop}{D:V}
def abB{bm u:Type}:∀{E:List bm}{W:List u},E.length=W.length->(E.zip W).map Prod.fst=E/\(E.zip W).map Prod.snd=W|[],[],_=>⟨rfl,rfl⟩|Z::E,B::W,w=>by let⟨a,c⟩:=abB (E:=E) (W:=W) b;simp_all|[],_::_,w=>bB|_::_,[],w=>bB
def Ff(b:List (Nat×Nat))(H:List Nat){x:FuncId}{t:Operand}{args:Array Operand}{ak:Array TypeId}{first r M xs:List V}(a os bN:bb){ys i:List Nat}{e:List (Nat×Nat×bt)}(aD:F (acc++[(ys,e.map (·.1))]) ({O with h:=qn H O.h,c:=jW O.c e}.put P.dst (nD (cF b) D)))(aL:ps T m x xs (a++os) D (a++bN))(S:P.op=.call {callee:=.value t,args:=args,argTypes:=ak}:=by rfl)(aC:P.guard=none:=by rfl)(aB:val m O.h t=some (.func (.func x) first r):=by rfl)(az:jY m O.h args.toList=some M:=by rfl)(ae:xs.map (nD<|cF b)=first++M++r:=by rfl)(aV:ds (mA<|jO<|a++os) xs:=by rfl)(a5:xQ O.c (a.map λL=>cF b L.1)=ys:=by rfl)(aU:kw O.c ys=some (a.map λL=>(cF b L.1,L.2.im<|cF b)):=by rfl)(aR:xQ O.c (os.map λL=>cF b L.1)=i:=by rfl)(W:kw O.c i=some (os.map λL=>(cF b L.1,L.2.im<|cF b)):=by rfl)(ay:i.zip (bN.map λL=>(cF b L.1,L.2.im<|cF b))=e:=by rfl)(R:bN.map (·.1)=os.map (·.1):=by rfl)(aH:os.all (λL=>Nat.ble 5000 L.1):=by rfl)(a4:Dm a:=by rfl)(U:lm UR a:=by rfl)(G:lm (jO<|a++os) (a++os):=by rfl)(aO:ds V.jX first:=by rfl)(aP:ds V.jX r:=by rfl)(aK:oi (ys++i):=by rfl)(al:qf (hj<|o2 6000 (cF b)<|a++bN) (qn H O.h):=by rfl)(am:lx ((a++bN).map λL=>(cF b L.1,L.2)):=by rfl)(ap:mA (jO<|a++bN) D:=by rfl)(K:lm (jO<|a++bN) (a++bN):=by rfl)(aq:rf (hj<|o2 6000 (cF b)<|a++bN) (e.map (·.1)) O.c 0:=by rfl)(ao:tX 5000 6000 o (o+1000) (cF b) (a++bN):=by rfl)(aA:Ar bK acc.length:=by kernel_rfl)(aG:qE bK (acc++[(ys,e.map (·.1))]):=by kernel_rfl)(a0:iR T x:=by exact r2):uY T z s m o bK P acc O F:=by
 let aF:i.length=(bN.map λL=>(cF b L.1,L.2.im<|cF b)).length:=by let w:=(za W).1;let g:=cW List.length R;simp only[aS] at w g⊢;omega
 let⟨ag,ai⟩:=abB aF;rw[ay] at ag ai;let ah:e.map (·.1)=i:=ag;let aj:e.map (·.2)=bN.map λL=>(cF b L.1,L.2.im<|cF b):=ai;refine .mk ys e (nD (cF b) D) _ _ (o2 6000 (cF b)<|a++bN) H (by rw[ah];exact aK) aU (by rw[ah];exact W) (.inr al) (.inr aq) aC aA aG (λa3 y Q u ad=>?_) aD;let ca:=cF b;let q:bn:=λY=>u<|ca Y;let aM:ar q (a++os)=ar u (a.map λL=>(ca L.1,L.2.im ca))++ar u (os.map λL=>(ca L.1,L.2.im ca)):=by rw[<-Se,<-cD];exact Ed (λX _=>rfl) G
 let aX:=OJ (u:=u) ae aV aO aP;let aJ:t∈P.op.operands.toList:=by rw[S];simp[Op.operands,Call.operands]
 refine p7.call (pass:=ar q<|a++os) (rest:=ad) S a0 (g3 y Q aB aJ u) (PT y Q az (λZ ae=>by grind[Op.operands,Call.operands]) u) ?_ (by rw[aX];exact y.symm▸aL q) ?_;rw[aM];exact rZ;rintro a8 a6 ⟨J,C,rfl,rfl⟩;let⟨I,ax,E,aE⟩:=RL C am ao;refine⟨_,rZ,I,ax,aE,λp A a2 aI aN=>?_,(Ex E ap).symm,?_⟩;let g:(e.map (·.2))[p]?=some a2.2:=by rw[ch,aN];rfl
 rw[aj,ch] at g;rw[ch] at aI;cases j:bN[p]? with
 |none=>rw[j] at g;cases g|some Z=>
  cases k:os[p]? with
  |none=>rw[k] at aI;cases aI|some B=>
   rw[j] at g;rw[k] at aI;simp only[iP,fc] at g aI;let aY:Z.1=B.1:=by let l:=cW (λN=>N[p]?) R;simp only[ch,j,k,iP,fc] at l;exact l
   let aW:Z∈bN:=dh j;let aZ:B∈os:=dh k;let l:5000<=B.1:=mq<|kM.1 aH B aZ;rw[<-g,<-aI];show(I (ca Z.1)).1=(u (ca B.1)).1;rw[E Z.1<|oe.2<|b4.2 ⟨Z,uL _ aW,rfl⟩,aY,C.id B.1 l]
 let av:ar J a=ar u (a.map λL=>(ca L.1,L.2.im ca)):=by simp only[ar,ez];refine gp λA aI=>?_;let w:=bt.Js (u:=q) (an:=u) (L:=jO<|a++os) (ca:=ca) (λX _=>rfl) (qg G A<|uK _ aI).1 (qg G A<|uK _ aI).2;show b7 J A=b7 u (ca A.1,A.2.im ca);rw[w];exact bt.F_ (L:=UR) (λX aT=>C.eq X (by have:=mq (show Nat.ble 6000 X=true from aT);omega)) (qg U A aI).1 (qg U A aI).2
 let aw:ar J bN=ar I (e.map (·.2)):=by rw[aj];simp only[ar,ez];exact gp λA aI=>(bt.Js E (qg K A<|uL _ aI).1 (qg K A<|uL _ aI).2).symm
 rw[Se,av,aw]
def Fe(a:List (Nat×Nat))(j:List Nat){x:FuncId}{k:Operand}{args:Array Operand}{p:Array TypeId}{first g l xs:List V}{os bN:bb}{e:List Nat}{b:List (Nat×Nat×bt)}(H:F (acc++[([],b.map (·.1))]) ({O with h:=qn j O.h,c:=jW O.c b}.put P.dst (nD (cF a) D)))(N:P.op=.call {callee:=.value k,args:=args,argTypes:=p}:=by rfl)(G:P.guard=none:=by rfl)(E:val m O.h k=some (.func (.func x) first g):=by rfl)(B:jY m O.h args.toList=some l:=by rfl)(i:ps T m x xs os D bN)(W:xs.map (nD<|cF a)=first++l++g:=by rfl)(X:ds (mA<|jO os) xs:=by rfl)(aR:xQ O.c (os.map λL=>cF a L.1)=e:=by rfl)(U:kw O.c e=some (os.map λL=>(cF a L.1,L.2.im<|cF a)):=by rfl)(A:e.zip (bN.map λL=>(cF a L.1,L.2.im<|cF a))=b:=by rfl)(K:bN.map (·.1)=os.map (·.1):=by rfl)(J:os.all (λL=>Nat.ble 5000 L.1):=by rfl)(Q:lm (jO os) os:=by rfl)(R:ds V.jX first:=by rfl)(S:ds V.jX g:=by rfl)(M:oi e:=by rfl)(q:qf (hj<|o2 6000 (cF a) bN) (qn j O.h):=by rfl)(r:lx (bN.map λL=>(cF a L.1,L.2)):=by rfl)(u:mA (jO bN) D:=by rfl)(w:lm (jO bN) bN:=by rfl)(y:rf (hj<|o2 6000 (cF a) bN) (b.map (·.1)) O.c 0:=by rfl)(t:tX 5000 6000 o (o+1000) (cF a) bN:=by rfl)(C:Ar bK acc.length:=by kernel_rfl)(I:qE bK (acc++[([],b.map (·.1))]):=by kernel_rfl)(a0:iR T x:=by exact r2):uY T z s m o bK P acc O F:=Ff a j [] os bN (ys:=[]) H i N G E B W X rfl rfl aR U A K J rfl rfl Q R S M q r u w y t C I a0
end
def Ct(K:Nat)(xs ak:List V):Prop:=xs.length=ak.length/\∀(a:Nat)(Z B:V),xs[a]?=some Z->ak[a]?=some B->B=Z\/Z=.aQ/\B=.f K []
def agX(ak:List V):bt->bt|.n k J _=>.n k J ak|Z=>Z
def G3(X:Nat)(ak:List V):bb->bb|[]=>[]|(F,L)::D=>match Nat.beq X F with|true=>(F,agX ak L)::D|false=>(F,L)::G3 X ak D
def y1(K X:Nat)(ak:List V):bb->Prop
|[]=>False|(F,L)::D=>match Nat.beq X F with
 |true=>match L with|.n _ _ xs=>Ct K xs ak|_=>False
 |false=>y1 K X ak D
def am.w5(O:am)(X:Nat)(ak:List V):am:={O with c:=G3 X ak O.c}
section
variable{u:bn}{K:Nat}
def TM{X:Nat}{ak:List V}:∀{N:bb},y1 K X ak N->bW (lO K) (ar u N) (ar u (G3 X ak N))|[],w=>w.elim|(F,L)::D,w=>by unfold y1 at w;rw[G3];split at w;split at w;rename_i k J xs;refine bW.n _ _ _ _ xs ak w.1 (λc Z B a b=>?_)<|bW.refl _;rcases w.2 c Z B a b with rfl|⟨rfl,rfl⟩;exact .refl _;exact .base _ _ .nil;trivial;exact .same _<|TM w
def aH.w5{s:a2}{O:am}{E:Act}{I:World}{b:aF}{X:Nat}{ak:List V}(e:y1 K X ak O.c)(w:aH s (O.a u) E I b):aH s ((O.w5 X ak).a u) E I b:=w.n2 (aF.le.refl b) w.ci lO.eZ lO.one (λX B g=>⟨B,g,.refl _⟩)<|bW.nf (TM e)<|bW.refl _
end
section
variable{T:Program}{z:bV}{s:a2}{m:List (Nat×V)}{o:Nat}
theorem Mf{K X k:Nat}{J:TypeId}{xs ak:List V}:∀{N:bb},bI N X=some (.n k J xs)->Ct K xs ak->y1 K X ak N|[],w,_=>bB|(F,L)::D,w,b=>by rw[bI] at w;unfold y1;split at w;simp_all;rename_i a;rw[a];exact Mf w b
def ag2{g:bn}{e:List ResultVar}{a:V->bd->Prop}{b:Exit}(K X:Nat){k:Nat}{J:TypeId}{xs:List V}(ak:List V)(m:Ct K xs ak)(w:g4 T s o g e a b (O.w5 X ak))(l:bI O.c X=some (.n k J xs):=by rfl):g4 T s o g e a b O:=⟨w.he,λu j E I h i=>w.run u j E I h<|aH.w5 (Mf l m) i⟩
def ay.w5{t:Code}{e:Exit->am->Prop}(K X:Nat)(ak:List V)(i:y1 K X ak O.c)(w:ay T s o t (O.w5 X ak) e):ay T s o t O e:=⟨λu b g E I a h=>w.run u b g E I a<|aH.w5 i h⟩
end
section
variable{T:Program}{z:bV}{s:a2}{m:List (Nat×V)}{o:Nat}
def qG{r er j:TypeId}{e x:b0}{L Z:Operand}{w y:Nat}{t:Bool}{g:List (V×V×Nat)}{b:V}{F:V->Prop}(D:V)(E:F D)(H:k1 e.d g)(p:P.op=.lookup r L Z t:=by rfl)(N:eU z r (.map er j):=by exact fe)(J:z.find er=some e:=by rfl)(I:e.R=false:=by rfl)(C:z.find j=some x:=by rfl)(aR:val m O.h L=some (.dj w):=by rfl)(B:bI O.c w=some (.map g y):=by rfl)(Q:val m O.h Z=some b:=by rfl)(G:b.isKey e.d:=by rfl)(dc:pM g b x.z t=D:=by rfl)(M:D.plain:=by rfl)(K:b.plain:=by rfl):c2 T z s m false P O F:=.lA (λi k o u=>by subst dc;obtain⟨_,_,bu⟩:=N.dO i;obtain⟨A,aI⟩:=iw _ B;rw[V.eC M];have q:=g3 k o Q (by rw[p];simp[Op.operands]) u (ad:=(O.a u).l);rw[V.eC K] at q;exact an5 bu ((i.find J).e6 I) (i.find C).ld p (g3 k o aR (by grind[Op.operands]) u) aI q G H) E
def Oa{b er i:TypeId}{L:Operand}{e g:Nat}{a:List (V×V×Nat)}{F:V->Prop}(Y:Nat)(p:F (.int .i64 (Y:Nat)))(q:P.op=.call {callee:=.builtin .len,args:=#[L],argTypes:=#[b]}:=by rfl)(r:eU z b (.map er i):=by exact fe)(aR:val m O.h L=some (.dj e):=by rfl)(o:bI O.c e=some (.map a g):=by rfl)(av:a.length=Y:=by rfl):c2 T z s m false P O F:=.lA (λl j k u=>by subst av;obtain⟨_,_,bu⟩:=r.dO l;obtain⟨A,aI⟩:=iw _ o;exact an1 bu q (g3 j k aR (by grind[Op.operands,Call.operands]) u) aI) p
def vN{E er G:TypeId}{k:b0}{L Z B:Operand}{b w:Nat}{q:List (V×V×Nat)}{j p:V}{F:am->Prop}(i:List (V×V×Nat))(g:Nat)(K:F ({O with c:=fJ O.c b (.map i g)}.put P.dst .undef))(Q:k1 k.d q)(W:P.op=.mapUpdate E L Z B:=by rfl)(ag:eU z E (.map er G):=by exact fe)(U:z.find er=some k:=by rfl)(S:k.R=false:=by rfl)(aR:val m O.h L=some (.dj b):=by rfl)(I:bI O.c b=some (.map q w):=by rfl)(ah:val m O.h Z=some j:=by rfl)(ai:val m O.h B=some p:=by rfl)(M:j.isKey k.d:=by rfl)(hu:i_ q w j p=(i,g):=by rfl)(X:j.plain:=by rfl)(Y:p.plain:=by rfl):fR T z s m o ops P O F:=⟨λy r t u N e J H=>by
 obtain⟨_,_,bu⟩:=ag.dO y;obtain⟨A,ad,ae⟩:=se _ u I;have C:=gn r t ah u;rw[V.eC X] at C;have D:=gn r t ai u;rw[V.eC Y] at D;refine bS.n5 J (TG bu ((y.find U).e6 S) W (gn r t aR u) ad C D M Q) ?_;have x:=H u _ (cd.refl o u) K;rw[am.kG] at x;have aj:=ae<|.map i g;rw[hu];have:{O.a u with l:=(O.a u).l.set A ((u b).1,.map (u b).2 i g)}=({O with c:=fJ O.c b (.map i g)}).a u:=by show(⟨_,_⟩:aw)=⟨_,_⟩;congr 1
 rw[this];exact x⟩
def alg{y er B Y:TypeId}{k:b0}{L Z:Operand}{i j:Nat}{g:List (V×V×Nat)}{b:V}{F:am->Prop}(p:List (V×V×Nat))(G:F ({O with c:=fJ O.c i (.map p j)}.put P.dst (.tuple [])))(K:P.op=.call {callee:=.builtin .delete,args:=#[L,Z],argTypes:=#[y,Y]}:=by rfl)(U:eU z y (.map er B):=by exact fe)(J:z.find er=some k:=by rfl)(I:k.R=false:=by rfl)(aR:val m O.h L=some (.dj i):=by rfl)(D:bI O.c i=some (.map g j):=by rfl)(X:val m O.h Z=some b:=by rfl)(H:b.isKey k.d:=by rfl)(UU:k1 k.d g)(W:nu g b=p:=by rfl)(M:b.plain:=by rfl):fR T z s m o ops P O F:=⟨λw r t u N e E C=>by
 subst W;obtain⟨_,_,bu⟩:=U.dO w;obtain⟨A,Q,S⟩:=se _ u D;have x:=gn r t X u;rw[V.eC M] at x;refine bS.n5 E (agR bu ((w.find J).e6 I) K (gn r t aR u) Q x H UU) ?_;have q:=C u _ (cd.refl o u) G;rw[am.kG] at q;have ad:=S<|.map (nu g b) j;have:{O.a u with l:=(O.a u).l.set A ((u i).1,.map (u i).2 (nu g b) j)}=({O with c:=fJ O.c i (.map (nu g b) j)}).a u:=by show(⟨_,_⟩:aw)=⟨_,_⟩;congr 1
 rw[this];exact q⟩
end
section
variable[DecidableEq bm]
def pF(b:bm->V)(c:Nat->V):Nat->List bm->List (V×V×Nat)|_,[]=>[]|a,Z::N=>(b Z,c a,a)::pF b c (a+1) N
def dY(b:bm->V)(c:Nat->V)(a:List bm):List (V×V×Nat):=pF b c 0 a
def nR(L:bm->Prop)(a:bm->V):Prop:=∀Z B,L Z->L B->(a Z).oV (a B)=decide (Z=B)
theorem Nd{L:bm->Prop}{e:bm->V}{i:Nat->V}(g:nR L e){Z:bm}(h:L Z):∀(a:List bm)(b c:Nat),(∀B∈a,L B)->kC (pF e i b a) (e Z) c=if Z∈a then some (c+a.idxOf Z,i (b+a.idxOf Z)) else none|[],b,c,_=>rfl|B::a,b,c,w=>by rw[pF,kC,g Z B h<|w B af,Nd g h a _ _ λk ap=>w k aM];grind
def Vw{L:bm->Prop}{b:bm->V}{c:Nat->V}(e:nR L b){Z:bm}{a:List bm}(g:L Z)(w:∀B∈a,L B):zl (dY b c a) (b Z)=if Z∈a then some (c (a.idxOf Z)) else none:=by grind[zl,dY,Nd]
def Ng(c:bm->V)(e:Nat->V)(Z:bm):∀(a:List bm)(b:Nat),pF c e b (a++[Z])=pF c e b a++[(c Z,e (b+a.length),b+a.length)]|[],b=>rfl|B::a,b=>by rw[wm,pF,pF,Ng c e Z a _,kh,show b+1+a.length=b+(a.length+1) by omega];rfl
def Vv(c:bm->V)(e:Nat->V):∀(a:List bm)(b:Nat),(pF c e b a).length=a.length|[],_=>rfl|B::a,b=>by rw[pF,kh,Vv c e a,kh]
def Ni{b:bm->V}{c:Nat->V}{a:List bm}:(dY b c a).length=a.length:=Vv b c a 0
def Dv{L:bm->Prop}{b:bm->V}{rP:Nat->V}(c:nR L b){Z:bm}{a:List bm}(g:L Z)(w:∀B∈a,L B)(e:Z∉a):i_ (dY b rP a) a.length (b Z) (rP a.length)=(dY b rP (a++[Z]),(a++[Z]).length):=by unfold i_ dY;rw[Nd c g a 0 0 w,aa e,Ng,c_];simp
def Vt{e:bm->V}{g:Nat->V}{M:TypeDesc}:∀(b:List bm)(c:Nat),(∀B∈b,(e B).isKey M)->k1 M (pF e g c b)|[],_,_=>λZ a=>absurd a h2|B::b,c,w=>λZ a=>by rcases eT.1 a with rfl|a;simp_all;exact Vt b _ (λk ap=>w k aM) Z a
def Nh{b:bm->V}{c:Nat->V}{M:TypeDesc}{a:List bm}(w:∀B∈a,(b B).isKey M):k1 M (dY b c a):=Vt a 0 w
def nR.str{L:bm->Prop}{x:bm->List UInt8}(w:∀Z B,L Z->L B->x Z=x B->Z=B):nR L (λZ=>.str<|x Z):=λZ B a b=>by show(x Z==x B)=_;grind
def nR.nat{F:IntKind}:nR (λ_=>True) (λY:Nat=>.int F (Y:Nat)):=λZ B _ _=>by show((Z:Int)==B)=_;grind
def aja{L:bm->Prop}{b:bm->V}{c:Nat->V}{k:Value}(e:nR L b){Z:bm}{a:List bm}(g:L Z)(w:∀B∈a,L B):pM (dY b c a) (b Z) k true=.tuple [if Z∈a then c (a.idxOf Z) else V.const k,.bool (decide (Z∈a))]:=by unfold pM;rw[ab rfl,Vw e g w];grind
end
section
variable{T:Program}{z:bV}{s:a2}{m:List (Nat×V)}{o:Nat}
def W0{X:TypeId}{g:b0}{M Y:Nat}{aP:Value}{F:am->Prop}{ak:List V}(x:F (O.fresh M (.n 1 X ak) (.cU M 0 0)))(l:P.op=.alloc X:=by rfl)(j:P.dst=some M:=by rfl)(c:Nat.blt M o:=by rfl)(b:z.find X=some g:=by rfl)(ap:g.z=.agg (Array.replicate Y aP):=by rfl)(p:aP.oneCell':=by rfl)(aG:List.replicate Y (V.leaf aP)=ak:=by rfl):fR T z s m o ops P O F:=⟨λi r t u N e k w=>by let c:=mq (show Nat.ble _ o=true from c);refine bS.adA (J:=X) k l (ap▸(i.find b).ld.ap) p λA=>?_;rw[j];refine bS.qW (λE I q h=>aH.fresh (an:=eD u M (A,0)) (λX b=>hd b) (oQ:=.cU M 0 0) (B:=.n 1 X _) (by simp[V.a,V.jb,V.dZ,V.ew,iu];exact .refl _) (by simp[b7,iu];exact .same _ .nil) h) ?_;grind[cd.of,hd]⟩
def W5{X J q:TypeId}{p:b0}{Z l:Operand}{b o j:Nat}{xs:List V}{h_:IntKind}{k:Int}{F:V->Prop}{a:Nat}(y:F (.cU b (j+a) 0))(A:P.op=.indexAddr X Z l:=by rfl)(C:eU z X (.array o J):=by exact fe)(t:z.find J=some p:=by rfl)(D:val m O.h Z=some (.cU b j 0):=by rfl)(r:bI O.c b=some (.n p.size q xs):=by rfl)(w:val m O.h l=some (.int h_ k):=by rfl)(E:k=(a:Int):=by first|rfl|omega)(x:a<o:=by exact FJ):c2 T z s m false P O F:=.lA (λi e g u=>by obtain⟨_,_,bu⟩:=C.dO i;obtain⟨G,B⟩:=iw _ r;exact amV bu (i.find t).K A (g3 e g D (by grind[Op.operands]) u) B (g3 e g w (by grind[Op.operands]) u) E x) y
def Oc{X J y:TypeId}{t:b0}{Z:Operand}{r q:Option Operand}{l a k:Nat}{xs:List V}{x w:Int}{F:V->Prop}(e b p:Nat)(H:F (.d l (k+e) p))(N:P.op=.slice X Z r q none:=by rfl)(R:eU z X (.array a J):=by exact fe)(E:z.find J=some t:=by rfl)(j:val m O.h Z=some (.cU l k 0):=by rfl)(D:bI O.c l=some (.n t.size y xs):=by rfl)(I:pz m O.h r 0=some x:=by rfl)(G:pz m O.h q a=some w:=by rfl)(S:x=(e:Int):=by first|rfl|omega)(Q:w=(b:Int):=by first|rfl|omega)(B:e<=b:=by omega)(C:b<=a:=by exact r1)(xi:k+a<=xs.length:=by exact r1)(L:a<=maxLen:=by decide)(M:p=b-e:=by first|rfl|omega):c2 T z s m false P O F:=.lA (λo g i u=>by subst M;obtain⟨_,_,bu⟩:=R.dO o;obtain⟨A,aI⟩:=iw _ D;exact am0 bu (o.find E).K N (g3 g i j (by grind[Op.operands]) u) aI (sd g i I S (λZ j=>by grind[Op.operands]) (u:=u)) (sd g i G Q (λZ j=>by grind[Op.operands]) (u:=u)) B C xi L) H
end
section
variable{T:Program}{z:bV}{s:a2}{m:List (Nat×V)}{o:Nat}
def asM{a:Option (Nat×Bool)}{D:V}(g:ml T z s m o c4 J bK Y a N (O.put P.dst D) F)(i:qX z m O.h O.c P=some D)(e:xe a P.guard)(b:kx bK O.h P=some true):ml T z s m o c4 J bK (Y+1) a (P::N) O F:=by grind[ml,Dc]
end
section
open Go.Sort Go.Lib
def ahv{T:Program}{m:List (Nat×V)}{x:FuncId}{e Y L E_:Nat}{z:TypeId}(u:Y=nDigits e)(aK:L+Y<=24)(ao:∀(a8 w cap:Nat)(M:Array UInt8)(I:World),M.size=Y->Go.Sort.Holds qt I a8 w M->Calls T x #[.slice (some ⟨a8,w,none⟩) M.size cap,.int .u64 e] I λJ ai=>J=.returned (.tuple #[])/\∃(F ag:Nat)(c:Array UInt8),ai=(putRow qt I a8 w c).drewN F/\FmtInv M.size e 0 ag c)(dJ:0<Y)(A:Nat):ff T m x [.a7 A E_ L Y,.int .u64 e] [(A,.n E_ 1 z<|List.replicate 24 mm)] (λD P=>D=.tuple []/\P=[(A,.n E_ 1 z<|List.replicate L mm++((decDigits e).map bh++List.replicate (24-L-Y) mm))]):=by
 intro l ah I a4 y C G aN;obtain⟨a5,a6,rfl⟩:∃E W,ah=[E,W]:=by
  match ah,y with|[E,W],_=>simp
 have aB:=C 0 _ _ rfl rfl;have aC:=C 1 _ _ rfl rfl;cases aC;let⟨N,X,ae,j,al⟩:=G.eO A (.n E_ 1 z<|List.replicate 24 mm)<|cV.2 rfl;rcases al with⟨_,aO⟩|⟨W,g,a0,o,ap,aq,aZ,aU,aA⟩;trivial;cases aB with
 |a7 _ _ _ _ aI U hm a2 aP aj=>
  obtain rfl:N=aI:=by simpa[X] using hm
  rcases aj ae.symm with⟨_,aR,_⟩|⟨aJ,P,cap,H,rfl,aV,aT,q⟩;omega;rw[a0] at H;cases H;have ay:P=N.base+L:=by rcases q with q|⟨q,_⟩;omega;grind
  subst ay;have aL:N.base+24<=g.size:=by have:=aq;simp[j] at this;omega
  have O:∀a,a<24->g[N.base+a]?=some (qt 0):=by intro a i;let⟨U,h,aD⟩:=aA a 0 mm mm aM rfl;simp only[j,wv,q2] at h;rw[h];cases aD;rfl
  have ak:Go.Sort.Holds qt I W (N.base+L) (Array.replicate Y (0:UInt8)):=by
   intro a i;have s:a<Y:=by simpa using i
   refine⟨?_,by grind[World.frozen?]⟩;simp only[World.cell?,o];show g[N.base+L+a]?=_;rw[show N.base+L+a=N.base+(L+a) by omega,O (L+a) v,uS _ a i];simp
  have K:=ao W (N.base+L) cap (Array.replicate Y (0:UInt8)) I af ak;simp only[abL] at K;refine K.mono ?_;rintro J ai ⟨rfl,F,ag,c,rfl,r⟩;have an:c.size=Y:=r.size;have ax:∀a(i:a<Y),∃Z,(decDigits e)[a]?=some Z/\c[a]! =Z:=by
   intro a i;have s:a<(decDigits e).length:=by rw[decDigits_length,<-u];exact i
   rw[u] at r;exact⟨_,bw s,(row_is_numeral r a s).symm⟩
  have aX:W<I.heap.size:=(rW.1 o).1;have av:((putRow qt I W (N.base+L) c).drewN F).heap[W]?=some (.cells (putCells qt (N.base+L) c g) z (0,0)):=by show(I.heap.modify W _)[W]?=_;rw[Fl,ab rfl,o];rfl
  have aW:l.le (l.fo A N):=aF.i7 λa3 y=>aM;have ad:∀a,(putCells qt (N.base+L) c g)[a]?=(g[a]?).map λZ=>if N.base+L<=a/\a<N.base+L+c.size then qt c[a-(N.base+L)]! else Z:=by intro a;unfold putCells;rw[P2]
  refine⟨_,.tuple [],_,l.fo A N,rfl,⟨rfl,rfl⟩,.tuple [] [] rfl af,?_⟩;have Q:(decDigits e).length=Y:=by rw[decDigits_length,u]
  refine G.sY (F:=0) rfl X rfl (a1 _) (λ_=>rfl) (.inl rfl) ?_ ?_;rw[a0];refine⟨rfl,rfl,rfl,?_,λaH p aY=>?_⟩;simp;show(I.heap.modify W _)[aH]?=_;grind;refine⟨ae,j,.inr ⟨W,_,a0,av,?_,?_,?_,?_,?_⟩⟩
  (simp[putCells];omega)
  grind;intro a U h;rw[ad] at h;cases am:g[a]? with|none=>grind|some Z=>rw[am] at h;simp only[iP,fc] at h;subst h;split;rfl;grind
  intro a M b;rw[j];rcases ee.1 (dh b) with hm|hm;rw[uJ hm];rfl;rcases ee.1 hm with hm|hm;obtain⟨Z,_,rfl⟩:=b4.1 hm;rfl;rw[uJ hm];rfl;intro a t M Z b k;have aw:=(dm.1 b).1;simp only[c_,aS,s7,Q] at aw;have az:M.cells=[M]:=by rcases ee.1 (dh b) with hm|hm;rw[uJ hm];rfl;rcases ee.1 hm with hm|hm;obtain⟨B,_,rfl⟩:=b4.1 hm;rfl;rw[uJ hm];rfl
  rw[az] at k;cases t with|succ t=>simp at k|zero=>simp at k;subst k;rw[j,wv,q2,ad,O a v];rw[lK,s7] at b;split at b;rename_i S;rw[wq,ab S] at b;simp at b;subst b;refine⟨qt 0,?_,.int _ _⟩;simp only[iP];rw[aa v];rename_i S;rw[lK] at b;simp only[aS,Q] at b;split at b;rename_i R;let⟨B,aE,aG⟩:=ax (a-L) R;rw[ch,aE] at b;simp at b;subst b;refine⟨qt B,?_,.int _ _⟩;rw[an];simp only[iP];rw[ab v,show N.base+a-(N.base+L)=a-L by omega,aG];rename_i R;rw[wq] at b;split at b;simp at b;subst b;refine⟨qt 0,?_,.int _ _⟩;simp only[iP];rw[aa v];cases b
section
variable{T:Program}{z:bV}{s:a2}{m:List (Nat×V)}{F:V->Prop}
def Bn{X J:TypeId}{l:b0}{Z i:Operand}{b:List V}{K j a t qk:Nat}{h_:IntKind}{k:Int}{G:Bool}{bJ:Nat}(r:F (.ref K b a qk))(w:P.op=.indexAddr X Z i:=by rfl)(x:eU z X (.array j J):=by exact fe)(o:z.find J=some l:=by rfl)(y:val m O.h Z=some (.ref K b a t):=by rfl)(p:val m O.h i=some (.int h_ k):=by rfl)(A:k=(bJ:Int):=by first|rfl|omega)(q:bJ<j:=by exact FJ)(h9:t+bJ*l.size=qk:=by first|rfl|(show 0+_*1=_;omega))(aR:(V.ref K b a qk).plain:=by rfl):c2 T z s m G P O F:=by subst h9;exact .of aR (λg c e u ad=>by obtain⟨_,_,bu⟩:=x.dO g;exact amU bu (g.find o).K w (fp c e y (by grind[Op.operands]) rfl (u:=u) (ad:=ad)) (fp c e p (by grind[Op.operands]) rfl (u:=u) (ad:=ad)) A q) r
def ahu{T:Program}{m:List (Nat×V)}{x:FuncId}{b Y L:Nat}{z:TypeId}(i:Y=nDigits b)(g:L+Y<=24)(h:∀(a8 c cap:Nat)(M:Array UInt8)(I:World),M.size=Y->Go.Sort.Holds qt I a8 c M->Calls T x #[.slice (some ⟨a8,c,none⟩) M.size cap,.int .u64 b] I λJ k=>J=.returned (.tuple #[])/\∃(F j:Nat)(e:Array UInt8),k=(putRow qt I a8 c e).drewN F/\FmtInv M.size b 0 j e)(dJ:0<Y):ps T m x [.d 6000 L Y,.int .u64 b] [(6000,.n 1 z<|List.replicate 24 mm)] (.tuple []) [(6000,.n 1 z<|List.replicate L mm++((decDigits b).map bh++List.replicate (24-L-Y) mm))]:=by
 intro W;let ap:∀F,(List.replicate F mm).map (λU=>U.a W)=List.replicate F mm:=λF=>uP;let l:ar W [(6000,bt.n 1 z<|List.replicate 24 mm)]=[((W 6000).1,.n (W 6000).2 1 z<|List.replicate 24 mm)]:=by simp[ar,gU,rY,b7,bt.ad]
 refine ff.mono (ahv (T:=T) (m:=m) (x:=x) (z:=z) (E_:=(W 6000).2) i g h dJ (W 6000).1) ?_;rintro D P ⟨rfl,rfl⟩;refine⟨W,cd.refl _ W,rfl,?_⟩;rfl
end
section
variable{T:Program}{z:bV}{s:a2}{m:List (Nat×V)}{o:Nat}
def ale{c:Option (Nat×Bool)}{X:TypeId}{b:b0}{Z:Operand}{K t:Nat}{a:List V}(D:V)(q:ml T z s m o c4 J bK Y c N (O.put P.dst D) F)(l:a[t]?=some D)(r:P.op=.load X Z:=by rfl)(w:z.find X=some b:=by rfl)(x:val m O.h Z=some (.ref K [.agg a] 0 t):=by rfl)(i:Nat.blt 30 K=false:=by rfl)(g:b.agg=false:=by rfl)(e:D.one:=by rfl)(u:D.plain:=by rfl)(k:xe c P.guard:=by rfl)(j:kx bK O.h P=some true:=by rfl):ml T z s m o c4 J bK (Y+1) c (P::N) O F:=by
 refine asM q ?_ k j;let y:(V.agg a).fits:=rfl;let aR:oo (V.agg a).cells t b.size b.agg=some D:=by rw[g];unfold oo;let p:(V.agg a).cells[t]?=some D:=l;simp[p,e]
 unfold qX;rw[r];simp[w,x,i,Ko,aR,u]
end
section
variable{T:Program}{z:bV}{s:a2}{m:List (Nat×V)}{o:Nat}
def aha(g:T.follows .mixedOrders)(c:e2 T z)(a:s.G=m)(b:dp m)(h:s.n=Y){t:Code}{O:am}{e:Exit->am->Prop}(w:jg T z s m o Y c4 t O e):ay T s o t O e:=rQ g c a b h t O e w
end
end
section
variable{T:Program}{z:bV}{s:a2}{m:List (Nat×V)}{o:Nat}
def kO.of_wp{x:FuncId}{e:Func}{t:Code}{h:List ResultVar}{xs:List V}{ad:bd}{os:bb}{c:Type}{L:c->Prop}{D:c->V}{g:c->bd}{bN:c->bb}{Y:Nat}(c4:List Nat)(l:T.follows .mixedOrders)(j:e2 T z)(i:dp m)(k:FY T x e t)(o:e.ntmps=Y)(y:Nat.ble xs.length Y)(p:e.results.toList=h)(w:∀(u:bn)(s:a2),s.G=m->s.n=Y->jg T z s m 5000 Y c4 t ⟨ng 0 xs,os,ad⟩ (g4 T s 5000 u h (λr q=>∃E an,L E/\cd 5000 u an/\r=(D E).a an/\q=g E++ar an (bN E)))):kO T m x xs ad os L D g bN:=λu=>ff.of_wp c4 u _ l j i k o b p
 (by rw[Ln];rfl)<|w u
def n7{j:bn}{i:List ResultVar}{J:Exit}{O:am}{e:List V}{b:Type}{L:b->Prop}{D:b->V}{g:b->bd}{bN:b->bb}(E:b)(aR:L E)(t:xT O.h i=some e:=by rfl)(m:qb (bN E) O.c:=by repeat (first|exact trivial|refine And.intro rfl ?_))(q:lx (bN E):=by rfl)(z:ds V.Bq e:=by rfl)(r:O.l=g E:=by rfl)(p:J=.ret\/J=.normal:=by exact q3)(w:cO e=D E:=by rfl):g4 T s o j i (λy x=>∃E an,L E/\cd o j an/\y=(D E).a an/\x=g E++ar an (bN E)) J O:=Mi _ (λu k=>⟨E,u,aR,k,KP,by rw[r]⟩) t m q p
end
section
variable{T:Program}{z:bV}{s:a2}{m:List (Nat×V)}{o:Nat}
end
section
variable{T:Program}{s:a2}{aN:List c5}{e:Exit->aw->Prop}{D:V}
def bp.cw(a:List Nat)(i:∀l:bd,(∀F∈a,l[F]?=R.l[F]?)->cb T s P ⟨cR P R.h,l⟩ D)(w:bp T s ops N aN (R.put P.dst D) e)(c:R.guard ops P=some true:=by rfl):bp T s ops (P::N) ((a,[])::aN) R e:=bp.lq [] c (λA aI=>by cases aI) (λl _ b=>i l λF g=>b F<|.inl g) w
def bp.up(a:List Nat)(A:Nat)(Z:Nat×bM)(i:∀l:bd,(∀F∈a++[A],l[F]?=R.l[F]?)->dP T s P ⟨cR P R.h,l⟩ D (l.set A Z))(w:bp T s ops N aN (({R with l:=R.l.set A Z}:aw).put P.dst D) e)(g:R.guard ops P=some true:=by rfl):bp T s ops (P::N) ((a,[A])::aN) R e:=bp.lq [(A,Z)] g (λB k=>b) (λl _ c=>i l λF j=>c F b) w
theorem CV{id Y:Nat}{N:List Oper}(aN:List c5)(g:T.follows .mixedOrders)(i:s.n=Y)(w:bp T s N.toArray N aN R e)(h:mD Y N:=by rfl)(a:pK N:=by decide+kernel)(c:qE N aN:=by decide+kernel):dE T s (.region id N.toArray true) R e:=dE.Th (aN:=aN) g b a c w
end
def ff.frame{T:Program}{m:List (Nat×V)}{x:FuncId}{xs:List V}{h g:bd}{e b:V->bd->Prop}(w:ff T m x xs h e)(i:bd)(aR:(h++i).Perm g)(aI:∀D P,e D P->∃a,(P++i).Perm a/\b D a):ff T m x xs g b:=by intro k z I A l o p q;let c:=p.perm aR;refine(w k z I _ l o (c.enter m 0) q).mono ?_;rintro J B ⟨U,D,P,j,he,r,t,s⟩;let⟨a,u,y⟩:=aI _ _ r;exact⟨U,D,a,j,he,y,t,(c.leave s).perm u.symm⟩
theorem pS{N o:bd}(w:∀[DecidableEq (Nat×bM)](E:Nat×bM),N.count E=o.count E):N.Perm o:=by
 haveI:DecidableEq (Nat×bM):=λE W=>Classical.propDecidable _
 grind
section
open Go.MapKept
def V.aaY:V->Int|.int _ Y=>Y|_=>0
def V.ints(Z:V):List Int:=Z.cells.map V.aaY
def oJ(F:IntKind)(Y:Nat)(Z:V):Prop:=∃N:List Int,N.length=Y/\(Z=.agg (N.map<|.int F)\/∃k,Z=.vec k (.ints F N) [])
def Ll(Z B:V):Bool:=decide (Z.ints=B.ints)
def Vh(F:IntKind)(N:List Int):(N.map (V.int F)).map V.aaY=N:=by rw[ez];exact(gp λZ _=>rfl).trans<|Cf N
theorem Zj{a:aF}{F:IntKind}{N:List Int}{U:Value}(w:aE a (.agg (N.map (.int F))) U):U=.agg (N.map (Value.int F)).toArray:=by cases w with|agg _ h g e c=>have:=J1 (λa Z U w=>by cases w;rfl) b c;grind
theorem oJ.eZ{a:aF}{F:IntKind}{Y:Nat}{Z:V}{U:Value}(w:oJ F Y Z)(c:aE a Z U):Z.ints.length=Y/\U=.agg (Z.ints.map (Value.int F)).toArray:=by
 obtain⟨N,e,rfl|⟨k,rfl⟩⟩:=w;have:(V.agg _).ints=N:=Vh F N;grind[Zj];have:(V.vec k (.ints F N) []).ints=N:=by show(N.map _++[]).map _=N;rw[gf];exact Vh F N
 let b:=lS.Ot rfl a U c;rw[show(eu.ints F N).cells++[]=N.map _ from gf _] at b;grind[Zj]
structure q4(T:Program)(er:TypeId)(F:IntKind)(Y:Nat):Prop where
 h:∃J K bs arh cL,bG T er (.array Y J) K bs/\bG T J (.int F) 1 cL/\fi T J 1 arh
def sF:List (V×V×Nat)->V->Nat->Option (Nat×V)|[],_,_=>none|Z::D,F,a=>if Ll F Z.1 then some (a,Z.2.1) else sF D F (a+1)
def rt(F:IntKind)(Y:Nat)(a:List (V×V×Nat)):Prop:=∀Z∈a,oJ F Y Z.1
def vM(a:List (V×V×Nat))(b:Nat)(F U:V):List (V×V×Nat)×Nat:=rA (sF a F 0) a b F U
def DL(a:List (V×V×Nat))(F:V):Option V:=(sF a F 0).map (·.2)
section
variable{T:Program}{er:TypeId}{F:IntKind}
def am8{I:World}{J:TypeId}{cL:Nat}(a:bG T J (.int F) 1 cL)(xs:List Int){H:Nat}(b:H<xs.length):(part J (xs.map (Value.int F)).toArray (H*1)).run T I=.ok (.int F (xs.getD H 0)) I:=by unfold part;simp[Sem.run_bind,a.pV,lv];simp_all
theorem apB(w:q4 T er F Y){I:World}(a:Bool){N:List Int}(i:N.length=Y):(Instr.checkKey a 10000 er (.agg (N.map (Value.int F)).toArray)).run T I=.ok () I:=by
 let⟨J,K,bs,q,cL,g,he,e⟩:=w.h;rw[show 10000=9998+2 from rfl,Instr.checkKey];have j:∀H∈List.range' 0 Y 1,H<Y:=λH p=>b;have m:∀D:List Nat,(∀H∈D,H<Y)->(forIn D PUnit.unit λH (_:PUnit)=>do
   Instr.checkKey a (9998+1) J (<-part J (N.map<|Value.int F).toArray (H*(<-sizeOf J)))
   pure (ForInStep.yield PUnit.unit)).run T I=.ok PUnit.unit I:=by
  intro D k
  induction D with
  |nil=>rfl|cons H D l=>
   have o:=am8 (I:=I) he N (H:=H) b;have c:(Instr.checkKey a (9998+1) J (.int F (N.getD H 0))).run T I=.ok () I:=by rw[Instr.checkKey];simp only[Sem.run_bind,run_underlying he.u];rfl
   simp[List.forIn_cons,Sem.run_bind,e.io,c];simp_all
 simp[Sem.run_bind,run_underlying g.u,Fx];simp_all
theorem apG(w:q4 T er F Y){I:World}{N o:List Int}(a:N.length=Y)(b:o.length=Y):(Op.equal er (.agg (N.map (Value.int F)).toArray) (.agg (o.map (Value.int F)).toArray)).run T I=.ok (decide (N=o)) I:=by let⟨J,K,bs,g,cL,e,he,c⟩:=w.h;have:=ZF (I:=I) 0 (Value.int F) (Op.maxDepth-2) er J e he rfl c (λE W=>by rw[Op.equalIn];simp[run_underlying he.u];rfl) N o a b;exact this
def apH{I:World}(N:List Int):(Instr.keyThatStays (.agg (N.map (Value.int F)).toArray) (.agg (N.map (Value.int F)).toArray)).run T I=.ok (.agg (N.map (Value.int F)).toArray) I:=by
 have:Instr.sameBits 10000 (.agg (N.map (Value.int F)).toArray) (.agg (N.map (Value.int F)).toArray):=by
  rw[show 10000=9998+2 from rfl,Instr.sameBits]
  induction N with|nil=>rfl|cons Z N a=>grind[Instr.sameBits]
 simp_all[Instr.keyThatStays,ab]
def kl.tail{c:aF}{Z:V×V×Nat}{D:List (V×V×Nat)}{J:MapEntry}{e:List MapEntry}(w:kl c (Z::D) (J::e).toArray):kl c D e.toArray:=⟨by simpa using w.len,λa B x g h=>w.key (a+1) B x b b,λa B x g h=>w.val (a+1) B x b b,λa B x g h=>w.born (a+1) B x b b⟩
theorem ZG(w:q4 T er F Y){I:World}{j:aF}{Z:V}{e:Value}(o:oJ F Y Z)(m:aE j Z e):∀(h:List (V×V×Nat))(c:List MapEntry)(a:Nat),rt F Y h->kl j h c.toArray->sF h Z a=none/\(Instr.findAsking er e c a).run T I=.ok none I\/∃(g:Nat)(k:V×V×Nat)(J:MapEntry),a<=g/\sF h Z a=some (g,k.2.1)/\(Instr.findAsking er e c a).run T I=.ok (some (g,J.val)) I/\h[g-a]?=some k/\c[g-a]?=some J/\e=J.key
|[],[],a,_,_=>.inl ⟨rfl,rfl⟩|[],_::_,_,_,he=>by have:=he.len;simp_all|_::_,[],_,_,he=>by have:=he.len;simp_all|k::D,J::c,a,l,he=>by
 let⟨r,E⟩:=o.eZ m;let⟨s,G⟩:=(l k af).eZ<|he.key 0 k J rfl rfl;let u:=apG w (I:=I) r s;rw[sF,Instr.findAsking];unfold Ll;by_cases t:Z.ints=k.1.ints;rw[oD t] at u⊢;refine .inr ⟨a,k,J,a1 _,rfl,?_,af,af,b⟩;simp_all;let K:∀i,(Instr.findAsking er e c<|a+1).run T I=i->((do if<-Op.equal er e J.key then pure (some (a,J.val)) else Instr.findAsking er e c (a+1))).run T I=i:=λi H=>by simp_all
 rcases ZG w (I:=I) o m D c (a+1) (λB L=>l B aM) he.tail with⟨p,q⟩|⟨g,B,x,y,p,q,z,A,C⟩;simp_all;grind
theorem kl.ahm(w:q4 T er F Y){I:World}{g:aF}{Z:V}{b:Value}{c:List (V×V×Nat)}{a:Array MapEntry}(q:kl g c a)(p:oJ F Y Z)(m:aE g Z b)(l:rt F Y c):sF c Z 0=none/\(Instr.findKey er b a.toList).run T I=.ok none I\/∃(e:Nat)(k:V×V×Nat)(J:MapEntry),sF c Z 0=some (e,k.2.1)/\(Instr.findKey er b a.toList).run T I=.ok (some (e,J.val)) I/\c[e]?=some k/\a[e]?=some J/\b=J.key:=by
 let⟨J,K,bs,s,cL,o,_,_⟩:=w.h;let dJ:=ZG w (I:=I) p m _ _ 0 l v;let r:∀D,(Instr.findAsking er b a.toList 0).run T I=D->(Instr.findKey er b a.toList).run T I=D:=λD i=>by unfold Instr.findKey;simp[Sem.run_bind,run_underlying o.u,Result.andThen_ok];cases j:a.toList with|nil=>rw[j] at i;exact i|cons x aN=>grind[Instr.findNow,Instr.sameNow]
 grind
end
section
variable{T:Program}{s:a2}
def r7.XG{c:IntKind}{e:Nat}{I:World}{g:aF}{b:V}{m:Value}{er:TypeId}{a:List (V×V×Nat)}{h:Array MapEntry}(i:q4 T er c e)(j:oJ c e b)(p:rt c e a)(q:kl g a h)(l:aE g b m):r7 T er I m a h (sF a b 0):=by let⟨o,k⟩:=j.eZ l;exact⟨λem=>by rw[k];exact apB i em o,by rw[k];exact apH _,q.ahm i j l p⟩
def TH{i er k:TypeId}{g:IntKind}{h:Nat}{x j:Nat}{L Z B:Operand}{id al F c:Nat}{b:List (V×V×Nat)}{a e:V}(r:bG T i (.map er k) x j)(m:q4 T er g h)(t:P.op=.mapUpdate i L Z B)(aR:R.val s L=some (.hF id al))(o:R.l[F]?=some (id,.map al b c))(u:R.val s Z=some a)(w:R.val s B=some e)(p:oJ g h a)(q:rt g h b):dP T s P R .undef (R.l.set F (id,.map al (vM b c a e).1 (vM b c a e).2)):=TF r t aR o u w<|r7.XG m p q
def DG(b:List (V×V×Nat))(a:V)(k:Value)(c:Bool):V:=if c then .tuple [(DL b a).getD (V.const k),.bool (DL b a).isSome] else(DL b a).getD (V.const k)
def an6{h er g:TypeId}{c:IntKind}{e:Nat}{y i:Nat}{L Z:Operand}{id al F j:Nat}{b:List (V×V×Nat)}{a:V}{k:Value}{t:Bool}(r:bG T h (.map er g) y i)(m:q4 T er c e)(x:h4 T g k)(u:P.op=.lookup h L Z t)(aR:R.val s L=some (.hF id al))(o:R.l[F]?=some (id,.map al b j))(w:R.val s Z=some a)(p:oJ c e a)(q:rt c e b):cb T s P R (DG b a k t):=YP r x u aR o w<|r7.XG m p q
end
section
variable{T:Program}{z:bV}{s:a2}{m:List (Nat×V)}{o:Nat}
def W7{w er j:TypeId}{y:b0}{L Z:Operand}{x B:Nat}{t:Bool}{e:List (V×V×Nat)}{b:V}{g:IntKind}{i:Nat}{F:V->Prop}(D:V)(G:F D)(J:q4 T er g i)(H:oJ g i b)(I:rt g i e)(q:P.op=.lookup w L Z t:=by rfl)(N:eU z w (.map er j):=by exact fe)(E:z.find j=some y:=by rfl)(aR:val m O.h L=some (.dj x):=by rfl)(C:bI O.c x=some (.map e B):=by rfl)(Q:val m O.h Z=some b:=by rfl)(dc:DG e b y.z t=D:=by rfl)(M:D.plain:=by rfl)(K:b.plain:=by rfl):c2 T z s m false P O F:=.lA (λp k o u=>by subst dc;obtain⟨_,_,bu⟩:=N.dO p;obtain⟨A,aI⟩:=iw _ C;rw[V.eC M];have r:=g3 k o Q (by rw[q];simp[Op.operands]) u (ad:=(O.a u).l);rw[V.eC K] at r;exact an6 bu J (p.find E).ld q (g3 k o aR (by grind[Op.operands]) u) aI r H I) G
def W8{E er G:TypeId}{L Z B:Operand}{b x:Nat}{p:List (V×V×Nat)}{j k:V}{t:IntKind}{w:Nat}{F:am->Prop}(i:List (V×V×Nat))(g:Nat)(M:F ({O with c:=fJ O.c b (.map i g)}.put P.dst .undef))(S:q4 T er t w)(Q:oJ t w j)(R:rt t w p)(ag:vM p x j k=(i,g))(U:P.op=.mapUpdate E L Z B:=by rfl)(ae:eU z E (.map er G):=by exact fe)(aR:val m O.h L=some (.dj b):=by rfl)(J:bI O.c b=some (.map p x):=by rfl)(ah:val m O.h Z=some j:=by rfl)(ai:val m O.h B=some k:=by rfl)(W:j.plain:=by rfl)(X:k.plain:=by rfl):fR T z s m o ops P O F:=⟨λI q r u N e K H=>by
 obtain⟨_,_,bu⟩:=ae.dO I;obtain⟨A,Y,ad⟩:=se _ u J;have C:=gn q r ah u;rw[V.eC W] at C;have D:=gn q r ai u;rw[V.eC X] at D;refine bS.n5 K (TH bu S U (gn q r aR u) Y C D Q R) ?_;have y:=H u _ (cd.refl o u) M;rw[am.kG] at y;have aj:=ad<|.map i g;rw[ag];have:{O.a u with l:=(O.a u).l.set A ((u b).1,.map (u b).2 i g)}=({O with c:=fJ O.c b (.map i g)}).a u:=by show(⟨_,_⟩:aw)=⟨_,_⟩;congr 1
 rw[this];exact y⟩
end
section
variable[DecidableEq bm]
def yq(L:bm->Prop)(a:bm->V):Prop:=∀Z B,L Z->L B->Ll (a Z) (a B)=decide (Z=B)
theorem Nf{L:bm->Prop}{e:bm->V}{i:Nat->V}(g:yq L e){Z:bm}(h:L Z):∀(a:List bm)(b c:Nat),(∀B∈a,L B)->sF (pF e i b a) (e Z) c=if Z∈a then some (c+a.idxOf Z,i (b+a.idxOf Z)) else none|[],b,c,_=>rfl|B::a,b,c,w=>by rw[pF,sF,g Z B h<|w B af,Nf g h a _ _ λk ap=>w k aM];grind
def ai9{L:bm->Prop}{b:bm->V}{c:Nat->V}(e:yq L b){Z:bm}{a:List bm}(g:L Z)(w:∀B∈a,L B):DL (dY b c a) (b Z)=if Z∈a then some (c (a.idxOf Z)) else none:=by grind[DL,dY,Nf]
theorem Vy{L:bm->Prop}{b:bm->V}{rP:Nat->V}(c:yq L b){Z:bm}{a:List bm}(g:L Z)(w:∀B∈a,L B)(e:Z∉a):vM (dY b rP a) a.length (b Z) (rP a.length)=(dY b rP (a++[Z]),(a++[Z]).length):=by unfold vM dY;rw[Nf c g a 0 0 w,aa e,Ng,c_];simp[rA]
def Vu{e:bm->V}{g:Nat->V}{F:IntKind}{Y:Nat}:∀(b:List bm)(c:Nat),(∀B∈b,oJ F Y (e B))->rt F Y (pF e g c b)|[],_,_=>λZ a=>absurd a h2|B::b,c,w=>λZ a=>by rcases eT.1 a with rfl|a;simp_all;exact Vu b _ (λk ap=>w k aM) Z a
def Vx{b:bm->V}{c:Nat->V}{F:IntKind}{Y:Nat}{a:List bm}(w:∀B∈a,oJ F Y (b B)):rt F Y (dY b c a):=Vu a 0 w
def ajb{L:bm->Prop}{b:bm->V}{c:Nat->V}{k:Value}(e:yq L b){Z:bm}{a:List bm}(g:L Z)(w:∀B∈a,L B):DG (dY b c a) (b Z) k true=.tuple [if Z∈a then c (a.idxOf Z) else V.const k,.bool (decide (Z∈a))]:=by unfold DG;rw[ab rfl,ai9 e g w];grind
end
def aH.Um{s:a2}{e:List (Nat×V)}{E:Act}{I:World}{g:aF}{id al K:Nat}{J:TypeId}{ak:List V}{c rD:bd}(w:aH s ⟨e,(id,.n al K J ak)::c⟩ E I g)(k:bW (r5 id al K ak) c rD):∃a,aH s ⟨e,rD⟩ E I a:=by let⟨a,j,hm,i,N,q,o,l,h⟩:=w.ci.freeze (F:=0) rfl;refine⟨a,aH.n2 w j i (λZ B a0 U m=>?_) r5.one (λX B p=>⟨B,p,.refl _⟩) k⟩;cases a0 with|d=>have:=p8.key b o l h _ _ (p8.a7 0 _ v) U m;simp_all|mj _ _ r=>grind[fS.eZ]
section
variable(U x:bm->V)(ad:bm->bd)
def An:Prop:=∀Z,ad Z=[]/\x Z=U Z\/∃(id al K:Nat)(J:TypeId)(ak:List V),ad Z=[(id,.n al K J ak)]/\U Z=.a7 id al 0 ak.length/\x Z=.f K ak
variable{U x ad}
theorem aH.nest{s:a2}{m:List (Nat×V)}{E:Act}{I:World}{j al k:Nat}{J:TypeId}(i:An U x ad):∀(a:List bm)(c:List V)(b e:bd)(g:aF),aH s ⟨m,a.flatMap ad++(b++(j,.n al k J (c++a.map U))::e)⟩ E I g->∃o,aH s ⟨m,b++(j,.n al k J (c++a.map x))::e⟩ E I o
|[],c,b,e,g,w=>⟨g,w⟩|Z::a,c,b,e,g,w=>by
 rw[Ft,gU] at w;rcases i Z with⟨h,l⟩|⟨id,C,K,z,ak,h,l,q⟩;rw[h,s8] at w;have:=aH.nest i a (c++[U Z]) b e g (by rw[ge];exact w);simp_all;rw[h] at w;let⟨p,r⟩:=aH.Um (rD:=a.flatMap ad++(b++(j,.n al k J<|c++[x Z]++a.map U)::e)) w (by
  refine bW.nf ?_<|bW.refl _;refine bW.nf ?_<|bW.refl b;refine bW.n _ _ _ _ _ _ af (λu L A aR aI=>?_)<|bW.refl _;rw[ge] at aI;by_cases t:u=c.length;subst t;rw[s5<|a1 _,ms] at aR aI;simp at aR aI;rw[<-aR,<-aI,l,q];exact .base _ _ .d;have:L=A:=by rw[lK] at aR aI;split at aR;simp_all;grind
  rw[this];exact .refl _)
 let⟨y,B⟩:=aH.nest i a _ b e p r;grind
end
section
variable{T:Program}{s:a2}{o:Nat}
theorem GD{N:bb}{A:Nat}{L:bt}(w:bI N A=some L):∃a b,N=a++(A,L)::b/\∀B,fJ N A B=a++(A,B)::b:=by induction N with|nil=>grind[bI]|cons Z D c=>let⟨F,k⟩:=Z;rw[bI] at w;split at w;rename_i he;obtain rfl:=mo he;cases lN w;exact⟨[],D,rfl,λB=>by simp[fJ]⟩;grind[fJ]
def aH.Hk{bm:Type}{U x:bm->V}{ad:bm->bd}(z:An U x ad)(b:List bm)(A:Nat){k:Nat}{J:TypeId}(i:bd){u:bn}{E:Act}{I:World}{o:aF}(e:aH s (O.a u) E I o)(y:(b.flatMap ad++i).Perm O.l)(w:bI O.c A=some (.n k J (b.map U))):∃g,aH s ((⟨O.h,fJ O.c A (.n k J (b.map x)),i⟩:am).a u) E I g:=by
 let⟨j,m,q,r⟩:=GD w;have t:aH s ⟨cj u O.h,b.flatMap ad++(i++ar u j++((u A).1,.n (u A).2 k J ([]++b.map U))::ar u m)⟩ E I o:=by
  refine⟨e.ci.perm ?_,e.h,e.fk,e.size,e.defers⟩;show List.Perm _ (O.l++ar u _);have p:ar u O.c=ar u j++((u A).1,.n (u A).2 k J ([]++b.map U))::ar u m:=by rw[q];simp[ar,cD];rfl
  rw[p,ge,<-ge];exact Cc _ y
 let⟨g,C⟩:=aH.nest z b [] _ _ o t;refine⟨g,?_⟩;have B:ar u (fJ O.c A (.n k J (b.map x)))=ar u j++((u A).1,.n (u A).2 k J ([]++b.map x))::ar u m:=by rw[r];simp[ar,cD];rfl
 show aH s ⟨cj u _,i++ar u _⟩ E I g;simp_all
def ay.Hk{bm:Type}{U x:bm->V}{ad:bm->bd}(y:An U x ad)(a:List bm)(A:Nat){k:Nat}{J:TypeId}(b:bd)(r:(a.flatMap ad++b).Perm O.l)(w:ay T s o t ⟨O.h,fJ O.c A (.n k J (a.map x)),b⟩ e)(q:bI O.c A=some (.n k J (a.map U)):=by rfl):ay T s o t O e:=⟨λu i j E I z m=>by let⟨g,p⟩:=aH.Hk y a A _ m r q;exact w.run u i j E I g p⟩
def ag4{j:bn}{g:List ResultVar}{b:V->bd->Prop}{e:Exit}{bm:Type}{U x:bm->V}{ad:bm->bd}(z:An U x ad)(a:List bm)(A:Nat){k:Nat}{J:TypeId}(i:bd)(y:(a.flatMap ad++i).Perm O.l)(w:g4 T s o j g b e ⟨O.h,fJ O.c A (.n k J (a.map x)),i⟩)(t:bI O.c A=some (.n k J (a.map U)):=by rfl):g4 T s o j g b e O:=⟨w.he,λu r E I B p=>by let⟨m,q⟩:=aH.Hk z a A _ p y t;exact w.run u r E I m q⟩
def B4(X id al:Nat):V->V
|.d a c len=>match Nat.beq a X with
 |true=>.a7 id al c len|false=>.d a c len
|.cU a b t=>match Nat.beq a X with
 |true=>.own id al b t|false=>.cU a b t
|Z=>Z
abbrev E4(X id al:Nat):V->V:=vG<|B4 X id al
abbrev B5(X id al:Nat):List (Nat×V)->List (Nat×V):=xx<|E4 X id al
abbrev x2(X id al:Nat):bb->bb:=o3 X<|E4 X id al
theorem aa6{X id al:Nat}:yr (B4 X id al):=λZ=>by cases Z<;>first|exact .inl rfl|(simp only[B4];split<;>first|exact .inl rfl|exact .inr ⟨rfl,rfl⟩)
section
variable{u:bn}{X id al:Nat}(a0:u X=(id,al))
include a0
theorem ar5(Z:V):(B4 X id al Z).ew u=Z.ew u:=by cases Z with|d a c len=>simp[B4];split;rename_i w;obtain rfl:=mo w;grind[V.ew];rfl|cU a b t=>simp[B4];split;rename_i w;obtain rfl:=mo w;grind[V.ew];rfl|_=>rfl
theorem aba(Z:V):(E4 X id al Z).a u=Z.a u:=(DB aa6 .eq (L:=λ_=>True) (λZ _=>(ar5 a0 Z).symm) λ_=>ON (λ_=>trivial) Z).symm
theorem aa_:∀N:List (Nat×V),cj u (B5 X id al N)=cj u N|[]=>rfl|(F,Z)::D=>by show(F,(E4 X id al Z).a u)::cj u _=(F,Z.a u)::cj u D;rw[aba a0,aa_ D]
end
def aa9{u:bn}{X id al F:Nat}(a0:u X=(id,al))(L:bt):b7 u (F,L.mp (E4 X id al))=b7 u (F,L):=by unfold b7;cases L with|cell J Z=>simp[bt.mp,bt.ad,DC aa6,aba a0]|n O J xs=>rfl|map a clock=>rfl|iter a clock seen=>rfl
def xJ(X:Nat):bb->Bool|[]=>false|(F,_)::D=>match Nat.beq X F with|true=>Iz X D|false=>xJ X D
 where Iz (X:Nat):bb->Bool|[]=>true|(F,_)::D=>!Nat.beq X F&&Iz X D
def aa7{u:bn}{X id al:Nat}(a0:u X=(id,al)):∀{N:bb},xJ.Iz X N->ar u (x2 X id al N)=ar u N|[],_=>rfl|(F,L)::D,w=>by rw[xJ.Iz,jD,Fm] at w;rw[x2,o3,w.1];show b7 u _::ar u _=_;rw[aa9 a0,aa7 a0 w.2];rfl
def aa8{u:bn}{X id al k:Nat}{J:TypeId}{ak:List V}(a0:u X=(id,al)):∀{N:bb},xJ X N->bI N X=some (.n k J ak)->((id,bM.n al k J ak)::ar u (x2 X id al N)).Perm (ar u N)
|[],w,_=>by cases w|(F,L)::D,w,a=>by
 rw[xJ] at w;rw[bI] at a;rw[x2,o3];split at w;rename_i b;rw[b] at a⊢;cases lN a;obtain rfl:=mo b;rw[aa7 a0 w];show List.Perm _ (((u X).1,bM.n _ k J ak)::ar u D);rw[a0]
 .rename_i b;rw[b] at a⊢;show List.Perm (_::b7 u _::ar u _) _;rw[aa9 a0];exact(List.Perm.swap _ _ _).trans<|List.Perm.cons _<|aa8 a0 w a
def aH.JY{X k:Nat}{J:TypeId}{ak:List V}(m:bI O.c X=some (.n k J ak))(j:xJ X O.c){u:bn}{E:Act}{I:World}{e:aF}(b:aH s (O.a u) E I e):aH s ((⟨B5 X (u X).1 (u X).2 O.h,x2 X (u X).1 (u X).2 O.c,O.l++[((u X).1,.n (u X).2 k J ak)]⟩:am).a u) E I e:=by refine⟨b.ci.perm ?_,λi Z o=>b.h i Z ?_,b.fk,b.size,b.defers⟩;show(O.l++[((u X).1,bM.n _ k J ak)]++ar u _).Perm _;rw[ge];exact zZ _<|aa8 (u:=u) rfl j m;let g:(cj u _).lookup i=some Z:=o;rw[aa_ (u:=u) rfl] at g;exact g
def ay.JY(X:Nat){k:Nat}{J:TypeId}{ak:List V}(w:∀id al,ay T s o t ⟨B5 X id al O.h,x2 X id al O.c,O.l++[(id,.n al k J ak)]⟩ e)(m:bI O.c X=some (.n k J ak):=by rfl)(g:xJ X O.c:=by rfl):ay T s o t O e:=⟨λu b i E I a j=>(w _ _).run u b i E I a<|aH.JY m g j⟩
end
section
variable{T:Program}{z:bV}{s:a2}{m:List (Nat×V)}{o:Nat}
def al5(X:Nat){k:Nat}{J:TypeId}{ak:List V}(w:∀id al,fR T z s m o ops P ⟨B5 X id al O.h,x2 X id al O.c,O.l++[(id,.n al k J ak)]⟩ F)(x:∀id al,kx ops.toList (B5 X id al O.h) P=some true:=by intro _ _;rfl)(r:bI O.c X=some (.n k J ak):=by rfl)(b:xJ X O.c:=by rfl):fR T z s m o ops P O F:=⟨λq g i u N e _ j=>by intro t E I a p;exact(w _ _).run q g i u N e (by have:=rr (O:=(⟨B5 X _ (u X).2 _,x2 X (u X).1 (u X).2 O.c,O.l++[((u X).1,.n (u X).2 k J ak)]⟩:am)) u<|x (u X).1 _;omega) j t E I a<|aH.JY r b p⟩
end
end
def wQ(M:Nat):Nat->List V->List V|_,[]=>[]|0,.aQ::D=>.d M 0 0::D|0,Z::D=>Z::D|F+1,Z::D=>Z::wQ M F D
def Q2(M F:Nat):bt->bt|.cell J (.vec Y E a)=>.cell J (.vec Y E<|wQ M F a)|Z=>Z
def yx(M X F:Nat):bb->bb|[]=>[]|(a,L)::D=>match Nat.beq X a with|true=>(a,Q2 M F L)::D|false=>(a,L)::yx M X F D
def am.re(O:am)(M K:Nat)(J:TypeId)(X F:Nat):am:=⟨wO M [] O.h,yx M X F (nC M O.c)++[(M,.n K J [])],O.l⟩
def K9(M:Nat):∀(F:Nat)(N:List V),(wQ M F N).length=N.length|_,[]=>by cases ‹Nat›<;>rfl|0,Z::D=>by cases Z<;>rfl|F+1,Z::D=>by rw[wQ,kh,K9 M F D];rfl
section
variable(aI:an M=(A,0))
include aI
theorem Q4:∀(F:Nat)(N:List V)(a:Nat)(Z B:V),(N.map (V.dZ an))[a]?=some Z->((wQ M F N).map (V.dZ an))[a]?=some B->eA (mv A) Z B
|F,[],a,Z,B,c,_=>bB|0,k::D,a,Z,B,c,b=>by
 cases a with
 |zero=>
  let e:=lN c;cases k with
  |aQ=>
   let g:=lN b;rw[<-e,<-g];let J:(V.d M 0 0).dZ an=.a7 A 0 0 0:=by simp[V.dZ,V.ew,aI]
   rw[J];exact .base _ _ .nil|_=>let g:=lN b;rw[<-e,<-g];exact .refl _
 |succ a=>
  have:(D.map (V.dZ an))[a]?=some B:=by cases k<;>exact b
  let e:(D.map _)[a]?=some Z:=c;rw[this] at e;cases lN e;exact .refl _
|F+1,k::D,a,Z,B,c,b=>by rw[wQ] at b;cases a with|zero=>rw[<-lN c,<-lN b];exact .refl _|succ a=>exact Q4 F D a Z B c b
theorem Q3(X F:Nat):∀(N:bb),bW (mv A) (ar an N) (ar an (yx M X F N))
|[]=>.nil|(i,L)::D=>by
 rw[yx];split;show bW _ _ (b7 an _::ar an D);unfold b7;cases L with
 |cell J Z=>
  cases Z with
  |vec Y E a=>
   let c:(V.vec Y E<|wQ M F a).cells.length=(V.vec Y E a).cells.length:=by show(E.cells++wQ M F a).length=(E.cells++a).length;rw[c_,c_,K9]
   simp[Q2,bt.ad,c];refine .BP ?_<|bW.refl _;exact .vec Y E _ _ (by simp[aS,K9]) λh Z B e g=>Q4 aI F a h Z B e g|_=>exact bW.refl _
 |n O J xs=>exact bW.refl _|map b clock=>exact bW.refl _|iter b clock seen=>exact bW.refl _
 exact .same _<|Q3 X F D
end
def aH.re{s:a2}{O:am}{u:bn}{E:Act}{I:World}{b:aF}(M K:Nat)(J:TypeId)(X F:Nat)(w:aH s (O.a u) E I b):∃(A:Nat)(k:aF),aH s ((O.re M K J X F).a (eD u M (A,0))) E I k:=by
 let e:=w.Xj K J;let ev:∀X,X≠M->eD u M (b.n,0) X=u X:=λX q=>hd q;let⟨t,p,m⟩:=Ew (u:=u) (an:=eD u M (b.n,0)) (M:=M) ev O.c;let i:aH s ⟨cj u O.h,O.l++t++[(b.n,.n 0 K J [])]⟩ E I (b.fo b.n ⟨none,0,0,0,K⟩):=⟨e.ci.drop<|s3 (s3 (s4 _) p)<|s4 _,e.h,e.fk,e.size,e.defers⟩;let j:=i.n2 (aF.le.refl _) i.ci fS.eZ fS.one (Bg ev O.h)<|bW.nf (bW.refl _)<|bW.nf m<|bW.refl O.l;refine⟨b.n,_,j.n2 (aF.le.refl _) j.ci (ct:=mv b.n) (λZ B a0 U r=>?_) mv.one (λX B g=>?_) ?_⟩;cases a0 with|nil=>cases r;exact .a7 _ _ _ _ _ _ (b.kJ _ _) (a1 _) rfl λ_=>.inl ⟨rfl,rfl,rfl⟩|mj _ _ y=>grind[fS.eZ]
 rw[am.re,jQ,K8] at g;rw[jQ,H_];cases o:O.h.lookup X with|none=>simp_all|some Z=>rw[o] at g;simp only[iP,fc] at g;refine⟨_,rfl,?_⟩;subst g;split;trivial;exact .refl _
 show bW (mv b.n) _ (O.l++ar (eD u M (b.n,0)) (yx M X F (nC M O.c)++[(M,.n K J [])]));let x:ar (eD u M (b.n,0)) (yx M X F (nC M O.c)++[(M,.n K J [])])=ar (eD u M (b.n,0)) (yx M X F (nC M O.c))++[(b.n,.n 0 K J [])]:=by simp only[ar,cD,gU,rY,b7,bt.ad,iu]
 grind[bW.nf,bW.refl,Q3,iu,o3]
def ay.re{T:Program}{s:a2}{o:Nat}{t:Code}{O:am}{e:Exit->am->Prop}(M K:Nat)(J:TypeId)(X F:Nat)(w:ay T s o t (O.re M K J X F) e)(a:Nat.blt M o:=by rfl):ay T s o t O e:=⟨λu c g E I m h=>by let⟨A,b,i⟩:=aH.re M K J X F h;let a:=mq (show Nat.ble _ o=true from a);let j:cd o u (eD u M (A,0)):=.of λX p=>hd v;exact w.run _ c (λan J l k aI=>g an J l (j.trans k) aI) E I b i⟩
def uu(A:List Nat)(P:Oper):Oper:={P with after:=⟨P.after.toList.map λJ=>{J with on:=A.getD J.on 0}⟩,guard:=P.guard.map λa=>(A.getD a.1 0,a.2)}
def k9(L A:List Nat)(N:List Oper):List Oper:=L.map λa=>uu A<|N.getD a default
def I0(L A:List Nat)(N:List Oper):Bool:=Nat.beq L.length N.length&&Nat.beq A.length N.length&&(List.range N.length).all (λa=>Nat.blt (L.getD a 0) N.length&&Nat.blt (A.getD a 0) N.length&&Nat.beq (A.getD (L.getD a 0) 0) a&&Nat.beq (L.getD (A.getD a 0) 0) a)&&
 N.all λP=>P.after.toList.all (λJ=>Nat.blt J.on N.length)&&(match P.guard with|none=>true|some b=>Nat.blt b.1 N.length)
structure QO(L A:List Nat)(N:List Oper):Prop where
 pl:L.length=N.length
 BJ:∀H,H<N.length->L.getD H 0<N.length/\A.getD H 0<N.length/\A.getD (L.getD H 0) 0=H/\L.getD (A.getD H 0) 0=H
 on:∀P∈N,∀J∈P.after.toList,J.on<N.length
 ahP:∀P∈N,∀y,P.guard=some y->y.1<N.length
def ani{L A:List Nat}{N:List Oper}(w:I0 L A N):QO L A N:=by unfold I0 at w;simp only[jD,kM,fq] at w;let⟨⟨⟨c,i⟩,e⟩,b⟩:=w;refine⟨mo c,λg p=>?_,λP a J he=>mq<|(b P a).1 J he,λP a h j=>?_⟩;let⟨⟨⟨E,W⟩,t⟩,M⟩:=e g p;simp_all;have:=(b P a).2;simp_all
section
variable{T:Program}{L A:List Nat}(aR:QO L A N)
include aR
theorem IY:(k9 L A N).length=N.length:=by rw[k9,aS,aR.pl]
theorem OM{a:Nat}(c:a<N.length):(k9 L A N)[A.getD a 0]?=some (uu A N[a]):=by
 let⟨_,b,_,e⟩:=aR.BJ a c;let aI:A.getD a 0<L.length:=by rw[aR.pl];exact b
 grind[k9,List.getElem?_eq_getElem]
theorem aoe{a b:Nat}(c:a<N.length)(e:b<N.length)(w:A.getD a 0=A.getD b 0):a=b:=by have g:=(aR.BJ a c).2.2.2;have h:=(aR.BJ b e).2.2.2;simp_all
theorem ao4(b:Array Value){a:Nat}(c:a<N.length):yielded (k9 L A N).toArray b (A.getD a 0)=yielded N.toArray b a:=by unfold yielded;grind[k9,uu,OM,List.getElem?_eq_getElem]
theorem ao3{a:Nat}(g:a<N.length)(e:Array Value):Region.wanted (uu A N[a]) (yielded (k9 L A N).toArray e)=Region.wanted N[a] (yielded N.toArray e):=by
 unfold Region.wanted;cases c:N[a].guard with
 |none=>grind[uu,guard]|some b=>
  have:(uu A N[a]).guard=some (A.getD b.1 0,b.2):=by unfold uu;rw[c];rfl
  let h:=aR.ahP _ (fG g) _ c;grind[ao4]
theorem O7{h i:Array Bool}(q:h.size=N.length)(r:i.size=N.length)(k:∀a,a<N.length->f_ i (A.getD a 0)=f_ h a){a:Nat}(e:a<N.length):A.getD a 0∈Region.ready .any (k9 L A N).toArray i↔a∈Region.ready .any N.toArray h:=by
 let l:∀(b:Array Bool)(c:Nat),b.size=N.length->c<N.length->b.getD c true=f_ b c:=λb c j g=>by grind[f_,Array.getD_eq_getD_getElem?]
 let o:∀(b:Array Bool)(c:Nat),b.getD c false=f_ b c:=λb c=>rfl;let⟨_,g,_,_⟩:=aR.BJ a e;rw[Region.ready,Region.ready,j1,j1];let j:(k9 L A N).toArray[A.getD a 0]?=some (uu A N[a]):=by rw[x_];exact OM aR e
 let m:N.toArray[a]?=some N[a]:=by rw[x_];exact bw e
 rw[j,m,l _ _ r g,l _ _ q e,k a e];simp only[iP,te,fq,z8,IY aR];refine QA ⟨λ_=>e,λ_=>g⟩ ?_;rw[jD,jD];refine QA lI ?_;let p:=aR.on _<|fG e;rw[abE,abE];constructor;intro w J he;let hm:({J with on:=A.getD J.on 0}:Edge)∈(uu A N[a]).after:=by exact ab4.2<|b4.2 ⟨J,Array.mem_toList_iff.2 he,rfl⟩
 have:=w _ hm;let t:Region.binds .any ({J with on:=A.getD J.on 0}:Edge)=Region.binds .any J:=rfl;rw[o,<-k J.on (p J (by simpa using he))];exact this;intro w J he;obtain⟨s,u,rfl⟩:=b4.1<|ab4.1<|show J∈(N[a].after.toList.map λJ=>({J with on:=A.getD J.on 0}:Edge)).toArray from he
 grind[Region.binds]
theorem asK{e:Exit->Act->World->Prop}:∀(g:Nat)(listed a:Array Bool)(E:Act)(I:World),listed.size=N.length->a.size=N.length->(∀H,H<N.length->f_ a (A.getD H 0)=f_ listed H)->wpAny T .any (k9 L A N).toArray e g a E I->wpAny T .any N.toArray e g listed E I:=by
 let u:∀{listed a:Array Bool},listed.size=N.length->a.size=N.length->(∀H,H<N.length->f_ a (A.getD H 0)=f_ listed H)->(Region.ready .any N.toArray listed=[]↔Region.ready .any (k9 L A N).toArray a=[]):=by
  intro listed a i j h;rw[abW,abW];constructor;intro w H p;let c:H<N.length:=by rw[Region.ready,j1] at p;have:=fq.1 p.1;rw[z8,IY aR] at this;exact this
  let⟨q,_,r,_⟩:=aR.BJ H c;grind[O7];intro w H p;let c:H<N.length:=by rw[Region.ready,j1] at p;have:=fq.1 p.1;rw[z8] at this;exact this
  exact w _<|(O7 aR i j h c).2 p
 intro g
 induction g with
 |zero=>intro listed a E I i j h w;exact⟨(u i j h).2 w.1,w.2⟩|succ g D=>
  intro listed a E I i j h w;refine⟨λC=>w.1<|(u i j h).1 C,λH p=>?_⟩;let c:H<N.length:=by rw[Region.ready,j1] at p;have:=fq.1 p.1;rw[z8] at this;exact this
  let nq:=w.2 _<|(O7 aR i j h c).2 p;let⟨_,F,_,_⟩:=aR.BJ H c;let s:∀k l,wpAny T .any (k9 L A N).toArray e g (a.setIfInBounds (A.getD H 0) true) k l->wpAny T .any N.toArray e g (listed.setIfInBounds H true) k l:=λk l z=>by refine D _ _ k l b aK (λy x=>?_) z;rw[NS a v,NS listed (H:=H) v,h y x];by_cases J:y=H;simp_all;rw[aa λt=>J<|aoe aR x c t,aa J]
  let q:(k9 L A N).toArray[A.getD H 0]?=some (uu A N[H]):=by rw[x_];exact OM aR c
  let r:N.toArray[H]?=some N[H]:=by rw[x_];exact bw c
  unfold wpOp at nq⊢;rw[q] at nq;rw[r];dsimp only at nq⊢;rw[ao3 aR c] at nq;split at nq;rename_i m;rw[ab m];rcases nq with nq|⟨nq,B⟩;left;exact Oper.wp_mono (o:=N[H]) s nq;exact .inr ⟨nq,B⟩;rename_i m;rw[aa m];exact s _ _ nq
end
section
variable{T:Program}{s:a2}
theorem dE.ao2{id:Nat}{L A:List Nat}{N:List Oper}{R:aw}{e:Exit->aw->Prop}(m:T.follows .mixedOrders)(o:I0 L A N)(l:mD s.n (k9 L A N))(j:pK (k9 L A N))(w:lR T s (k9 L A N) R (e .normal) [] []):dE T s (.region id N.toArray true) R e:=by
 let aR:=ani o;intro E I k c;refine wp_region_any m ?_;let g:∀Y a,f_ (Array.replicate Y false) a=false:=by intro Y a;simp[f_,x8,abH];split<;>rfl
 refine asK aR _ _ (Array.replicate (k9 L A N).length false) E _ af (by rw[abL,IY aR]) (λi _=>b) ?_;refine w.any l (HY j).1 (HY j).2 rfl _ _ E _ k af ?_ ?_ (λa _=>g _ a) ⟨c1 _,λi P D _ w=>bB,λi M w=>bB⟩ ?_;have:m2 (k9 L A N).length (Array.replicate (k9 L A N).length false)=List.range (k9 L A N).length:=by rw[m2,Qf];intro a q;rw[g];rfl
 grind[List.length_range,IY];intro i P p;simp_all;rw[Jf _ _ _ _ λa _=>g _ a];exact⟨c.ci.grown ⟨rfl,rfl,rfl,a1 _,λ_ _ _=>rfl⟩,c.h,c.fk,c.size,c.defers⟩
end
section
variable{T:Program}{z:bV}{s:a2}{m:List (Nat×V)}{o:Nat}
def ay.L6(L A b:List Nat)(a:List Oper)(p:T.follows .mixedOrders)(i:e2 T z)(c:s.G=m)(g:dp m)(q:s.n=Y){id:Nat}{ops:Array Oper}{O:am}{e:Exit->am->Prop}(r:I0 L A ops.toList)(l:k9 L A ops.toList=a)(j:qo Y a)(k:pK a)(w:zU T z s m o a b a [] O (λaN x=>Bd a.length aN<|wB o a aN O x<|e .normal)):ay T s o (.region id ops true) O e:=⟨λu y h=>by
 subst l;let J:ops=ops.toList.toArray:=by simp
 let t:=Tg i c g w u;exact r4.fin (dE.ao2 (id:=id) (e:=λJ R=>J=.normal/\r4 o u O e R) p r (by rw[q];exact yU j) k (by simpa using t)) h⟩
end
section
variable{T:Program}{z:bV}{s:a2}{m:List (Nat×V)}{o:Nat}
def HV(O:am)(F:am->Prop):Prop:=xc O.h λN=>xc O.c λt=>F ⟨N,t,O.l⟩
def VY(O:am)(F:am->Prop):HV O F↔F O:=by simp[HV,AV]
def lH{ops:Array Oper}{P:Oper}{O:am}{Rd:List Nat}{F:c5->am->Prop}(w:li T z s m o ops P O Rd (λx a=>HV a<|F x)):li T z s m o ops P O Rd F:=by simp_all[VY]
def PZ{bK:List Oper}{P:Oper}{acc:List c5}{O:am}{F:List c5->am->Prop}(w:uY T z s m o bK P acc O (λx a=>HV a<|F x)):uY T z s m o bK P acc O F:=by simp_all[VY]
end
section
variable{T:Program}{z:bV}{s:a2}{m:List (Nat×V)}{o:Nat}
def Ao(ad:bd)(U:V)(Y:Nat):Prop:=U=.aQ/\Y=0\/∃id al k J ak,U=.a7 id al 0 Y/\(id,bM.n al k J ak)∈ad
def Oi{u:bn}{id:Nat}{b:bM}(w:(id,b)∈O.l):∃A:Nat,(O.a u).l[A]?=some (id,b):=by let⟨A,aI⟩:=lg.1 w;exact⟨A,by show(O.l++ar u _)[A]?=_;grind⟩
def Ih{F:V->Prop}{X J:TypeId}{Z:Operand}{U:V}{Y:Nat}(i:F (.int .i64 (Y:Nat)))(p:Ao O.l U Y)(c:P.op=.call {callee:=.builtin .len,args:=#[Z],argTypes:=#[X]}:=by rfl)(e:val m O.h Z=some U:=by rfl)(o:eU z X (.slice J):=by exact fe):c2 T z s m false P O F:=.lA (λg a b u=>by obtain⟨_,_,bu⟩:=o.dO g;rcases p with⟨rfl,rfl⟩|⟨id,al,k,q,ak,rfl,j⟩;exact O0 bu c (g3 a b e (by grind[Op.operands,Call.operands]) u) rfl;obtain⟨A,aI⟩:=Oi j;exact OZ bu c (g3 a b e (by grind[Op.operands,Call.operands]) u) aI) i
def alc{F:V->Prop}{X J:TypeId}{o:b0}{Z g:Operand}{id al j i k:Nat}{q:TypeId}{ak:List V}{h_:IntKind}{Y:Int}(a:Nat)(w:F (.own id al (j+a) 0))(x:(id,bM.n al k q ak)∈O.l)(B:P.op=.indexAddr X Z g:=by rfl)(C:eU z X (.slice J):=by exact fe)(r:z.find J=some o:=by rfl)(D:val m O.h Z=some (.a7 id al j i):=by rfl)(t:val m O.h g=some (.int h_ Y):=by rfl)(y:Y=(a:Int):=by first|rfl|omega)(p:a<i:=by omega)(E:k=o.size:=by rfl):c2 T z s m false P O F:=.lA (λe b c u=>by obtain⟨_,_,bu⟩:=C.dO e;subst E;obtain⟨A,aI⟩:=Oi x;exact Jc bu (e.find r).K B (g3 b c D (by grind[Op.operands]) u) aI (g3 b c t (by grind[Op.operands]) u) y p) w
def ald{F:V->Prop}{X:TypeId}{a:b0}{Z:Operand}{id al c k:Nat}{e:TypeId}{ak:List V}(D:V)(p:F D)(q:(id,bM.n al k e ak)∈O.l)(w:ak[c]?=some D)(r:P.op=.load X Z:=by rfl)(y:z.find X=some a:=by rfl)(x:a.R=false:=by rfl)(o:lv a.d=false:=by rfl)(B:val m O.h Z=some (.own id al c 0):=by rfl)(C:D.cells=[D]:=by rfl)(t:D.plain:=by rfl):c2 T z s m false P O F:=.lA (λj g i u=>by obtain⟨A,aI⟩:=Oi q;rw[V.eC t];exact Ei ((j.find y).e6 x) o r (g3 g i B (by grind[Op.operands]) u) aI w b) p
def ak4{F:am->Prop}{X b3 J:TypeId}{b:b0}{Z B:Operand}{id al g k:Nat}{xs c:List V}(A:Nat){j:bd}(C:F ({O with l:=j}.put P.dst (.a7 id (al+1) 0<|g+c.length)))(aI:O.l[A]?=some (id,bM.n al k J xs))(H:O.l.set A (id,bM.n (al+1) k J (xs++c))=j)(E:g=xs.length)(D:g+c.length<=16777216)(G:P.op=.call {callee:=.builtin .append,args:=#[Z,B],argTypes:=#[X,b3]}:=by rfl)(M:eU z X (.slice J):=by exact fe)(x:z.find J=some b:=by rfl)(Q:val m O.h Z=some (.a7 id al 0 g):=by rfl)(L:kQ z m O B b3 b.size c:=by exact Co)(R:b.z.cells.size=b.size:=by rfl)(a0:Nat.ble b.bytes 8388608:=by rfl)(S:k=b.size:=by rfl):fR T z s m o ops P O F:=⟨λi q r u N e y w=>by
 subst S;obtain⟨_,_,bu⟩:=M.dO i;have cG:=i.find x;have t:=(dm.1 aI).1;have I:(O.a u).l[A]?=some (id,bM.n al b.size J xs):=by show(O.l++ar u _)[A]?=_;rw[q0 t];exact aI
 refine bS.n5 y (C1 bu cG.K cG.ld R G (gn q r Q u) I v (L.src i q r u) (by(simp[maxLen];omega))<|yI D a0) ?_;have p:=w u _ (cd.refl o u) C;rw[am.kG] at p;have:{O.a u with l:=(O.a u).l.set A (id,bM.n (al+1) b.size J<|(xs.drop 0).take g++c)}=({O with l:=j}).a u:=by rw[uI,E,gq,<-H];show(⟨_,_⟩:aw)=⟨_,_⟩;congr 1;show(O.l++ar u _).set A _=_;rw[ab5 _ _ t]
 rw[this];exact p⟩
def ak2{F:am->Prop}{X b3 J:TypeId}{b:b0}{Z B:Operand}{c:List V}{k:Nat}(t:Nat->bd)(G:∀A,F ({O with l:=t A}.put P.dst (.a7 A 1 0 c.length)))(Q:∀A,(t A).Perm (O.l++[(A,bM.n 1 k J c)]))(L:c.length<=16777216)(M:P.op=.call {callee:=.builtin .append,args:=#[Z,B],argTypes:=#[X,b3]}:=by rfl)(U:eU z X (.slice J):=by exact fe)(C:z.find J=some b:=by rfl)(W:val m O.h Z=some .aQ:=by rfl)(S:kQ z m O B b3 b.size c:=by exact Co)(Y:b.z.cells.size=b.size:=by rfl)(a0:Nat.ble b.bytes 8388608:=by rfl)(ae:k=b.size:=by rfl):fR T z s m o ops P O F:=⟨λi p q u N e D y=>by
 obtain⟨_,_,bu⟩:=U.dO i;have cG:=i.find C;refine bS.vY b.size λA=>?_;have H:((O.a u).l++[(A,bM.hY b.size)])[(O.a u).l.length]?=some (A,.hY b.size):=by simp
 refine bS.n5 D (TE bu cG.K cG.ld Y M (gn p q W u) H (iW.more (R:=O.a u) (S.src i p q u) af) (by(simp[maxLen];omega))<|yI L a0) ?_;have x:((O.a u).l++[(A,bM.hY b.size)]).set (O.a u).l.length (A,.n 1 b.size J c)=(O.a u).l++[(A,.n 1 b.size J c)]:=by simp
 rw[x];have j:=y u _ (cd.refl o u)<|G A;rw[am.kG] at j;refine bS.qW (λE I ad g=>⟨g.ci.perm ?_,?_,g.fk,g.size,g.defers⟩) j;have:∀(R:aw) X Z,(R.put X Z).l=R.l:=λR X Z=>by cases X<;>rfl
 rw[this,this];show List.Perm _ (O.l++ar u _++[(A,bM.n 1 _ J c)]);refine(Cc _<|Q A).trans ?_;grind[List.append_assoc,List.Perm.append_left,List.perm_append_comm];have w:=g.h;cases r:P.dst with|none=>rw[r] at w;exact w|some X=>rw[r] at w;exact w⟩
end
section
variable{T:Program}{z:bV}{s:a2}{m:List (Nat×V)}{o:Nat}
def dP.ins{R:aw}{D:V}{ad:bd}{X:TypeId}{L Z B:Operand}(a:P.op=.insert X L Z B)(w:dP T s {P with op:=.mapUpdate X L Z B} R D ad):dP T s P R D ad:=by let⟨M,op,dO,e,b,c⟩:=P;subst a;trivial
def xB{E er G:TypeId}{k:b0}{L Z B:Operand}{b w:Nat}{q:List (V×V×Nat)}{j p:V}{F:am->Prop}(i:List (V×V×Nat))(g:Nat)(K:F ({O with c:=fJ O.c b (.map i g)}.put P.dst .undef))(Q:k1 k.d q)(W:P.op=.insert E L Z B:=by rfl)(ag:eU z E (.map er G):=by exact fe)(U:z.find er=some k:=by rfl)(S:k.R=false:=by rfl)(aR:val m O.h L=some (.dj b):=by rfl)(I:bI O.c b=some (.map q w):=by rfl)(ah:val m O.h Z=some j:=by rfl)(ai:val m O.h B=some p:=by rfl)(M:j.isKey k.d:=by rfl)(hu:i_ q w j p=(i,g):=by rfl)(X:j.plain:=by rfl)(Y:p.plain:=by rfl):fR T z s m o ops P O F:=⟨λy r t u N e J H=>by
 obtain⟨_,_,bu⟩:=ag.dO y;obtain⟨A,ad,ae⟩:=se _ u I;have C:=gn r t ah u;rw[V.eC X] at C;have D:=gn r t ai u;rw[V.eC Y] at D;refine bS.n5 J (dP.ins W<|TG bu ((y.find U).e6 S) rfl (gn r t aR u) ad C D M Q) ?_;have x:=H u _ (cd.refl o u) K;rw[am.kG] at x;have aj:=ae<|.map i g;rw[hu];have:{O.a u with l:=(O.a u).l.set A ((u b).1,.map (u b).2 i g)}=({O with c:=fJ O.c b (.map i g)}).a u:=by show(⟨_,_⟩:aw)=⟨_,_⟩;congr 1
 rw[this];exact x⟩
end
section
variable{T:Program}{s:a2}{o:Nat}
def iV.cut{e:aF}{I:World}{N:Loc}{al k:Nat}{J:TypeId}{ak c:List V}(w:iV e I N (.n al k J (ak++c))):iV e I N (.n al k J ak):=by
 let⟨o,p,q⟩:=w;refine⟨o,p,?_⟩;rcases q with⟨x,y⟩|⟨W,m,bu,cG,h,u,i,j,l⟩;simp_all;let g:∀{a:Nat}{M:V},ak[a]?=some M->(ak++c)[a]?=some M:=λ{a M} b=>by grind
 refine .inr ⟨W,m,bu,cG,h,?_,i,λa M b=>j a M<|g b,λa t M Z b r=>l a t M Z (g b) r⟩;have:ak.length*N.s<=(ak++c).length*N.s:=hA _ af;omega
def ay.af4(A:Nat){k:Nat}{J:TypeId}(ak g:List V)(w:ay T s o t {O with c:=fJ O.c A (.n k J ak)} e)(B:bI O.c A=some (.n k J<|ak++g)):ay T s o t O e:=⟨λu q z E I i a=>by
 let⟨b,p,x,y⟩:=GD B;refine w.run u q z E I i ⟨?_,a.h,a.fk,a.size,a.defers⟩;let j:ar u O.c=ar u b++((u A).1,bM.n (u A).2 k J<|ak++g)::ar u p:=by rw[x];simp[ar,cD];rfl
 let C:(O.l++ar u O.c)[(O.l++ar u b).length]?=some ((u A).1,bM.n (u A).2 k J<|ak++g):=by rw[j,<-ge,s5<|a1 _,ms];rfl
 let m:=Holds.setObj (show Holds s i (O.l++ar u _) I from a.ci) C λN=>iV.cut;let r:(O.l++ar u O.c).set (O.l++ar u b).length ((u A).1,bM.n (u A).2 k J ak)=O.l++ar u (fJ O.c A<|.n k J ak):=by rw[y,j];simp only[ar,cD];rw[<-ge,yc _ _<|a1 _,ms,<-ge];rfl
 rw[r] at m;exact m⟩
end
section
variable{T:Program}{z:bV}{s:a2}{m:List (Nat×V)}{o:Nat}
def alb{E er G:TypeId}{L Z B:Operand}{b x:Nat}{p:List (V×V×Nat)}{j k:V}{t:IntKind}{w:Nat}{F:am->Prop}(i:List (V×V×Nat))(g:Nat)(M:F ({O with c:=fJ O.c b (.map i g)}.put P.dst .undef))(S:q4 T er t w)(Q:oJ t w j)(R:rt t w p)(ag:vM p x j k=(i,g))(U:P.op=.insert E L Z B:=by rfl)(ae:eU z E (.map er G):=by exact fe)(aR:val m O.h L=some (.dj b):=by rfl)(J:bI O.c b=some (.map p x):=by rfl)(ah:val m O.h Z=some j:=by rfl)(ai:val m O.h B=some k:=by rfl)(W:j.plain:=by rfl)(X:k.plain:=by rfl):fR T z s m o ops P O F:=⟨λI q r u N e K H=>by
 obtain⟨_,_,bu⟩:=ae.dO I;obtain⟨A,Y,ad⟩:=se _ u J;have C:=gn q r ah u;rw[V.eC W] at C;have D:=gn q r ai u;rw[V.eC X] at D;refine bS.n5 K (dP.ins U<|TH bu S rfl (gn q r aR u) Y C D Q R) ?_;have y:=H u _ (cd.refl o u) M;rw[am.kG] at y;have aj:=ad<|.map i g;rw[ag];have:{O.a u with l:=(O.a u).l.set A ((u b).1,.map (u b).2 i g)}=({O with c:=fJ O.c b (.map i g)}).a u:=by show(⟨_,_⟩:aw)=⟨_,_⟩;congr 1
 rw[this];exact y⟩
end
def ZW{bm:Type}:∀{N:List bm}{F:Nat}{E:bm},N[F]?=some E->∃a b,N=a++E::b/\∀W,N.set F W=a++W::b|[],_,_,w=>bB|Z::N,0,E,w=>by simp at w;subst w;exact⟨[],N,rfl,λW=>rfl⟩|Z::N,F+1,E,w=>by obtain⟨a,b,c,e⟩:=ZW (by simpa using w);grind
def ay.Y_{T:Program}{s:a2}{o:Nat}{O:am}{t:Code}{e:Exit->am->Prop}(M:Nat){J:TypeId}{Z:V}(B:V)(w:ay T s o t {O with c:=fJ O.c M (.cell J B)} e)(G:bI O.c M=some (.cell J Z):=by rfl)(k:Z.cells=B.cells:=by kernel_rfl)(H:Z.plain:=by kernel_rfl)(K:B.plain:=by kernel_rfl):ay T s o t O e:=⟨λu q D E I b a=>w.run u q D E I b (by
 obtain⟨F,A,C⟩:=se _ u G;refine⟨?_,a.h,a.fk,a.size,a.defers⟩;show Holds s b (O.l++ar u _) I;rw[<-C _];let g:=a.ci;obtain⟨m,p,r,x⟩:=ZW A;rw[x];change Holds s b (O.l++ar u _) I at g;rw[r] at g;let y:((u M).1,bt.ad u (u M).2<|.cell J Z)=((u M).1,bM.n (u M).2 Z.cells.length J [Z]):=by show(_,bM.n _ _ _ _)=_;rw[V.eC H]
 let z:((u M).1,bt.ad u (u M).2<|.cell J B)=((u M).1,bM.n (u M).2 Z.cells.length J [B]):=by show(_,bM.n _ _ _ _)=_;rw[V.eC K,k]
 let hm:∀E,(m++p++[E]).Perm (m++E::p):=λE=>by simp[zZ,rZ]
 let i:=g.perm<|hm _;rw[y] at i;let j:=i.Za k;rw[<-z] at j;exact j.perm (hm _).symm)⟩
section
variable{T:Program}{s:a2}
def Holds.apn{c:aF}{h:bd}{I:World}(w:Holds s c h I){F id al O Y:Nat}{J yV:TypeId}{u:List V}{Z:V}{k a:List Value}(j:h[F]?=some (id,.n al O J u))(l:nb c Z k)(o:k.length=O)(D:a.length=Y*O)(z:∀U∈a,U.oneCell')(E:∀(q t:Nat),q<Y->t<O->a[q*O+t]?=k[t]?):Holds s (c.fo id ⟨some I.heap.size,0,al+1,a.length,O⟩) (h.set F (id,.n (al+1) O yV (List.replicate Y Z))) (I.alloc (.cells a.toArray yV))/\c.le (c.fo id ⟨some I.heap.size,0,al+1,a.length,O⟩):=by
 let⟨N,hm,e⟩:=w.eO _ _<|dh j;let m:c.le (c.fo id ⟨some I.heap.size,0,al+1,a.length,O⟩):=aF.i7 λG i=>by rw[hm] at i;cases i;exact⟨e.2.1,by rw[e.1];simp,λJ=>by rw[e.1] at J;grind⟩
 let B:Z.cells.length=O:=by rw[<-l.1,o]
 refine⟨w.sY j hm e.2.1 (by rw[e.1];simp) (λJ=>by rw[e.1] at J;grind) (.inr ⟨I.heap.size,rfl,a1 _⟩) ?_ ?_,m⟩;simp[World.grownBy_alloc];refine⟨rfl,rfl,.inr ⟨I.heap.size,a.toArray,rfl,heap_alloc_new I _,af,b,λr U A=>z U<|dh (by simpa using A),λr M g=>aM,λr t M C g p=>?_⟩⟩;rw[wq] at g;split at g<;>simp at g;subst g;let x:t<O:=by rw[<-B];exact(dm.1 p).1
 let y:t<k.length:=by rw[o];exact x
 refine⟨k[t],?_,(l.2.2 t C _ p<|bw y).mono m⟩;simp_all
def agS{X J H:TypeId}{K bs O cL:Nat}{k:Value}{Z B:Operand}{F G:IntKind}{Y:Nat}{C D:Int}{A id al:Nat}{L:List V}(ak:bG T X (.slice J) K bs)(p:fi T J O cL)(z:h4 T J k)(ax:k.cells.size=O)(aD:P.op=.makeSlice X Z B)(aq:R.val s Z=some (.int F C))(ag:C=(Y:Int))(av:R.val s B=some (.int G D))(q:D=(Y:Int))(i:Y<=maxLen)(N:Y*cL<=2^48)(w:0<O)(ah:R.l[A]?=some (id,.n al O H L)):dP T s P R (.a7 id (al+1) 0 Y) (R.l.set A (id,.n (al+1) O J (List.replicate Y (V.zero k)))):=.of λE I j h=>by
 subst ag;subst q;have m:=h.val aq;have o:=h.val av;generalize x:E.eval Z=az at m;generalize c:E.eval B=U at o;cases m;cases o;have r:=nb.zero z j;let⟨aH,an,aG,am⟩:=p.zf;have aw:k.cells.toList.length=O:=by simpa using ax
 let a:List Value:=(List.replicate Y k.cells.toList).flatten;have W:a.length=Y*O:=by rw[AU (O:=O) _ λU c=>b];simp
 have ad:∀(e t:Nat),e<Y->t<O->a[e*O+t]?=k.cells.toList[t]?:=λe t q Q=>
  C_ (O:=O) _ (λU c=>b) e t _ b Q
 have aj:∀U∈a,U.oneCell':=by intro U c;simp only[a,Qm] at c;let⟨az,x,y⟩:=c;rw[uJ x] at y;exact r.2.1 U y
 have aF:(Instr.makeSlice X (.int F Y) (.int G Y)).run T I=.ok (.slice (some ⟨I.heap.size,0,none⟩) Y Y) (I.alloc (.cells a.toArray J)):=by
  have ao:IntKind.i64.wrap (Y:Int)=Y:=rS (by simp only[maxLen] at i;grind[kZ,IntKind.min,IntKind.max,IntKind.signed,IntKind.bits]);have ap:IntKind.i64.wrap (Y:Int)=Y:=rS (by simp only[maxLen] at i;grind[kZ,IntKind.min,IntKind.max,IntKind.signed,IntKind.bits]);have aA:¬(cL:Int)*(Y:Int)>2^48:=by
   have:((Y*cL:Nat):Int)<=2^48:=by exact_mod_cast N
   rw[jk] at this
   push_cast at this;omega
  simp only[Instr.makeSlice,Sem.run_bind,run_underlying ak.u,Result.andThen_ok,asInt,asIntOf,Sem.run_pure,typeInfo,run_program,an,am,ao,ap];rw[aa b];simp only[Sem.run_bind,run_askRoom,Result.andThen_ok,p.io,Fr];have M:∀g:Array Value,g=k.cells->Array.map (λZ=>g[Z%g.size]!) (Array.range<|Y*O)=a.toArray:=by
   intro g ay;subst ay;apply Fj;apply ho;intro A;simp only[ch];by_cases aI:A<Y*O;have aE:A=A/O*O+A%O:=by rw[jk];exact(ta A O).symm
   have aC:A/O<Y:=(Fw w).2 aI;have aB:A%O<O:=pn _ w;grind;simp_all
  by_cases dJ:Y*O=0;rw[ab dJ];have S:a=[]:=lJ v;simp only[dJ,S];simp[newRow,Array.range];rw[aa dJ];simp only[Sem.run_bind,z.run,Result.andThen_ok,Sem.run_pure,M k.cells rfl];rfl
 let⟨ae,ai⟩:=h.ci.apn (yV:=J) ah r aw W aj ad;refine⟨.slice (some ⟨I.heap.size,0,none⟩) Y Y,_,_,.a7 id (al+1) 0 Y,_,ai,?_,ae,.inl (by grind[execOp,Sem.run_bind,Result.andThen_ok,Sem.run_pure]),rfl,rfl⟩;exact .a7 _ _ _ _ _ _ (j.kJ _ _) (a1 _) rfl λ_=>.inr ⟨I.heap.size,0,Y,rfl,rfl,a1 _,i,.inr ⟨af,aM⟩⟩
end
section
variable{T:Program}{z:bV}{s:a2}{m:List (Nat×V)}{o:Nat}{F:c5->am->Prop}
def abw{X J j:TypeId}{e:b0}{i:Nat}{xs:List V}{Z B:Operand}{h_ N:IntKind}{q x:Int}(b g Y:Nat)(ak:List V)(C:F ([],[i]) ({O with c:=rJ O.c i (g,.n e.size J ak)}.put P.dst (.d g 0 Y)))(k:P.op=.makeSlice X Z B:=by rfl)(l:eU z X (.slice J):=by exact fe)(y:z.find J=some e:=by rfl)(I:val m O.h Z=some (.int h_ q):=by rfl)(p:q=(Y:Int):=by first|rfl|omega)(L:val m O.h B=some (.int N x):=by rfl)(jM:x=(Y:Int):=by first|rfl|omega)(M:e.z.cells.size=e.size:=by rfl)(a0:Nat.ble e.bytes 8388608:=by rfl)(H:0<e.size:=by decide)(D:Y<=16777216:=by omega)(aG:List.replicate Y (V.zero e.z)=ak:=by rfl)(ag:o7 O.c b 0=some i:=by rfl)(U:rq O.c i=some (b,.n e.size j xs):=by rfl)(ae:Nat.blt g o:=by rfl)(G:qf (hj [g]) O.h:=by kernel_rfl)(E:rf (hj [g]) [i] O.c 0:=by kernel_rfl)(W:Nat.beq b g=false:=by rfl):li T z s m o ops P O Rd F:=by
 subst aG;refine .mk [] [(i,(g,.n e.size J _))] _ [] [(b,.n e.size j xs)] [g] ax rfl yk (.inr G) (.inr E)
  (λw r t u=>⟨eD u g ((u b).1,(u b).2+1),cd.of λX l=>hd p2,λX l=>hd λJ=>QC,λq A ai aI ah=>by grind[eD],λad=>?_⟩) C
 obtain⟨_,_,bu⟩:=l.dO w;have cG:=w.find y;have:=agS (s:=s) (R:=⟨cR P _,ad++[((u b).1,.n (u b).2 e.size j xs)]⟩) bu cG.K cG.ld M k (g3 r t I (by rw[k];simp[Op.operands]) u) p (g3 r t L (by rw[k];simp[Op.operands]) u) jM (by(simp[maxLen];omega)) (cA (yI D a0) aj) H xr;have Q:(V.d g 0 Y).a (eD u g ((u b).1,(u b).2+1))=.a7 (u b).1 ((u b).2+1) 0 Y:=by simp[V.a,V.jb,V.dZ,V.ew,eD]
 have S:ar (eD u g ((u b).1,(u b).2+1)) [(g,bt.n e.size J (List.replicate Y (V.zero e.z)))]=[((u b).1,.n ((u b).2+1) e.size J (List.replicate Y (V.zero e.z)))]:=by simp only[ar,gU,rY,b7,bt.ad,iu]
 show dP T s P ⟨cR P _,ad++([]++[((u b).1,.n (u b).2 e.size j xs)])⟩ _ (ad++([]++ar _ _));simp_all
end
section
variable{T:Program}{z:bV}{s:a2}{m:List (Nat×V)}{o:Nat}
def apE{T:Program}(M:Nat){X J:TypeId}{I:World}{E:Option Addr}{Y a:Nat}(b:T.underlying X=some (.slice J)):(Op.equalIn (M+1) X (.slice E Y a) (.slice none 0 0)).run T I=.ok E.isNone I:=by cases E<;>simp[Op.equalIn,run_underlying b]
def anZ{R:aw}{X J dq:TypeId}{K bs:Nat}{Z B:Operand}{F:Nat}{N:List V}(g:bG T X (.slice J) K bs)(e:P.op=.binOp .eql X Z B dq)(j:R.val s Z=some (.f F N))(k:R.val s B=some .aQ)(m:N≠[]):cb T s P R (.bool false):=.same λE I l c=>by have a:=c.val j;have b:=c.val k;generalize h:E.eval Z=o at a;generalize i:E.eval B=U at b;cases b;cases a with|slnil=>trivial|sT=>trivial|f _ _ W base cap=>refine⟨_,.bool _,?_⟩;simp only[execOp,e,i,h];rw[Sem.run_bind,tL ax<|AP (w:=apE 9999 g.u)];rfl
def alm{F:V->Prop}{G:Bool}{X J dq:TypeId}{Z B:Operand}{K:Nat}{N:List V}(e:F (.bool false))(g:N≠[])(i:P.op=.binOp .eql X Z B dq:=by rfl)(k:val m O.h Z=some (.f K N):=by rfl)(l:val m O.h B=some .aQ:=by rfl)(j:eU z X (.slice J):=by exact fe):c2 T z s m G P O F:=.of rfl (λc a b u ad=>by obtain⟨_,_,bu⟩:=j.dO c;exact anZ bu i (fp a b k (by grind[Op.operands]) rfl (u:=u) (ad:=ad)) (fp a b l (by grind[Op.operands]) rfl (u:=u) (ad:=ad)) g) e
end
section
variable{T:Program}{z:bV}{s:a2}{m:List (Nat×V)}{o:Nat}{F:V->Prop}
end
section
variable{T:Program}{s:a2}{o:Nat}
end
def aE.zy{S:aF}{K a t:Nat}{b:List V}{Z:V}{U:Value}(w:aE S (.ref K b a t) U)(k:b[a]?=some Z):aE S (.ref K [Z] 0 t) U:=by
 cases w with
 |ref _ _ _ _ W base val j h i=>
  have:=aE.ref (S:=S) K [Z] 0 t W (base+a*K) (λ_ t=>val a t) (λe M c=>by
   grind) (λe t M B c g=>by grind) (λe t M B c g=>by grind)
  simp_all
def fg.zy{T:Program}{m:List (Nat×V)}{x:FuncId}{K c t:Nat}{a:List V}{Z:V}{xs:List V}{D:V}(w:fg T m x (.ref K [Z] 0 t::xs) D)(o:a[c]?=some Z):fg T m x (.ref K a c t::xs) D:=λg q I p h i j k=>w g q I p h (λe B U b l=>by cases e with|zero=>simp at b;subst b;exact aE.zy (i 0 _ U rfl l) o|succ e=>grind) j k
section
variable{T:Program}{z:bV}{s:a2}{m:List (Nat×V)}{o:Nat}
def aeb{Y W:Nat}(a:Y<=10000000000000)(b:Nat.ble W 8):Y*W<=140737488355328:=by
 calc Y*W<=10000000000000*8:=yj a (mq b)
  _<=140737488355328:=aj
def Ie{X b3 J:TypeId}{g:b0}{Z B:Operand}{b k:Nat}{xs i:List V}(ak:List V)(D:F ((O.H9 b (.n g.size J ak)).put P.dst (.d b 0 ak.length)))(E:P.op=.call {callee:=.builtin .append,args:=#[Z,B],argTypes:=#[X,b3]}:=by rfl)(j:eU z X (.slice J):=by exact fe)(y:z.find J=some g:=by rfl)(G:val m O.h Z=some (.d b 0 k):=by rfl)(x:bI O.c b=some (.n g.size J xs):=by rfl)(fC:kQ z m O B b3 g.size i:=by exact Co)(r:k=xs.length:=by first|rfl|(simp;done))(H:g.z.cells.size=g.size:=by rfl)(a0:Nat.ble g.bytes 8:=by rfl)(aG:xs++i=ak:=by exact Lk)(bq:ak.length<=10000000000000:=by exact r1)(t:Nat.blt b (o+1000):=by rfl):fR T z s m o ops P O F:=⟨λl p q u N e C w=>by
 obtain⟨_,_,bu⟩:=j.dO l;have cG:=l.find y;have aG:(xs.drop 0).take k++i=ak:=by rw[uI,r,gq];exact aG
 have r:k+i.length=ak.length:=by rw[<-aG];simp;omega
 have t:b<o+1000:=mq (show Nat.ble (b+1) (o+1000)=true from t);let an:=eD u b ((u b).1,(u b).2+1);obtain⟨A,aI,L⟩:=aH.WW (s:=s) (O:=O) (u:=u) (an:=an) (M:=b) (D8:=P.dst) (oQ:=.d b 0 ak.length) (U:=.a7 (u b).1 ((u b).2+1) 0 ak.length) (λX j=>hd j) (B:=.n g.size J ak) (by grind[iu]) x (by simp only[V.a,V.jb,V.dZ,V.ew,an,iu];exact .refl _);refine bS.n5 C (C1 bu cG.K cG.ld H E (gn p q G u) aI v (fC.src l p q u) (by(simp[maxLen];omega)) (by simp_all[aeb])) ?_;have I:=w an _ ⟨λX _=>by grind[eD],λX j=>hd v⟩ D;grind[iu,bt.ad,bS.qW]⟩
inductive q7:V->V->Prop|mk (E W t M:Nat):q7 (.a7 E W t M) .undef
theorem q7.eZ{a:aF}:∀Z B,q7 Z B->∀U,aE a Z U->aE a B U:=λZ B w U _=>by cases w;exact .undef U
theorem q7.one:uX q7:=λZ B w=>by cases w;trivial
def C9:V->V|.d _ _ _=>.undef|Z=>Z
def w9(b:List Nat):V->V|.agg N=>.agg (w8 N 0)|Z=>C9 Z
 where
 w8:List V->Nat->List V
 |[],_=>[]|Z::D,a=>match gI a b with|true=>C9 Z::w8 D (a+1)|false=>Z::w8 D (a+1)
def Mm(a:List Nat):bt->bt|.cell J Z=>.cell J (w9 a Z)|Z=>Z
def tH(X:Nat)(a:List Nat):bb->bb|[]=>[]|(F,L)::D=>match Nat.beq X F with|true=>(F,Mm a L)::D|false=>(F,L)::tH X a D
def am.tH(O:am)(X:Nat)(a:List Nat):am:={O with c:=ey.tH X a O.c}
section
variable{u:bn}
def ahh{Z:V}:eA q7 (Z.a u) ((C9 Z).a u):=by cases Z<;>first|exact .refl _|exact .base _ _<|.mk _ _ _ _
def ahg(Z:V):eA q7 (Z.dZ u) ((C9 Z).dZ u):=by cases Z<;>first|exact .refl _|exact .base _ _<|.mk _ _ _ _
def TW{pB:List Nat}:∀(N:List V)(a b:Nat),(w9.w8 pB N a)[b]?=(N[b]?).map λZ=>match gI (a+b) pB with|true=>C9 Z|false=>Z
|[],a,b=>ax|Z::D,a,0=>by grind[w9.w8]|Z::D,a,b+1=>by have:=TW (pB:=pB) D (a+1) b;grind[w9.w8,List.getElem?_cons_succ]
def Ml{b:List Nat}:∀(N:List V)(a:Nat),(w9.w8 b N a).length=N.length|[],a=>ax|Z::D,a=>by rw[w9.w8];split<;>simp[Ml D]
def ahj{a:List Nat}(Z:V):(w9 a Z).cells.length=Z.cells.length:=by cases Z<;>first|rfl|simp[w9,V.cells,Ml]
def ahi{e:List Nat}(F:Nat)(L:bt){N c:bd}(w:bW q7 N c):bW q7 (b7 u (F,L)::N) (b7 u (F,Mm e L)::c):=by
 cases L with
 |cell J Z=>simp[Mm,b7,bt.ad,ahj];exact .BP (by
  cases Z with
  |agg N=>refine .agg _ _ (by simp[Ml]) λh Z B b a=>?_;rw[ch] at b a;rw[TW] at a;cases g:N[h]? with|none=>simp_all|some k=>rw[g] at b a;simp at b a;subst b;subst a;split;exact ahg k;exact .refl _
  |_=>exact ahh) w|_=>exact .same _ w
def TX{a:List Nat}{X:Nat}:∀(N:bb),bW q7 (ar u N) (ar u (tH X a N))|[]=>.nil|(F,L)::D=>by rw[tH];split;exact ahi F L<|bW.refl _;exact .same _<|TX D
def aH.tH{s:a2}{O:am}{E:Act}{I:World}{b:aF}(X:Nat)(c:List Nat)(w:aH s (O.a u) E I b):aH s ((O.tH X c).a u) E I b:=w.n2 (aF.le.refl b) w.ci q7.eZ q7.one (λX B e=>⟨B,e,.refl _⟩)<|bW.nf (TX _)<|bW.refl _
end
def al4{ops:Array Oper}{P:Oper}{F:am->Prop}(X:Nat)(a:List Nat)(w:fR T z s m o ops P (O.tH X a) F)(p:kx ops.toList (O.tH X a).h P=some true:=by rfl):fR T z s m o ops P O F:=⟨λk c g u N e _ i=>λl E I b j=>w.run k c g u N e bB i l E I b<|aH.tH X a j⟩
end
structure j2(T:Program)(z:bV)(s:a2)(m:List (Nat×V))(Y:Nat)(c4:List Nat):Prop where
 hm:T.follows .mixedOrders
 Hx:e2 T z
 tM:s.G=m
 Hw:dp m
 av:s.n=Y
section
variable{T:Program}{z:bV}{s:a2}{m:List (Nat×V)}{o:Nat}
def kR.Bb{a O:am}(b:Ap a.h O.h:=by repeat (first|exact trivial|refine⟨bL,?_⟩))(e:qb a.c O.c:=by repeat (first|exact trivial|refine⟨bL,?_⟩))(g:lx a.c:=by rfl)(i:a.l=O.l:=by rfl):kR a O:=⟨b,e,g,i⟩
def kR.r{a O:am}(b:Ap a.h O.h:=by repeat (first|exact trivial|refine⟨rfl,?_⟩))(e:qb a.c O.c:=by repeat (first|exact trivial|refine⟨rfl,?_⟩))(g:lx a.c:=by rfl)(i:a.l=O.l:=by rfl):kR a O:=⟨b,e,g,i⟩
def FO{bm:Type}(c:bm->am)(L:bm->Prop)(b:bm->Nat)(Z:bm)(O:am):Prop:=∃a,L a/\b a<b Z/\kR (c a) O
def QK{bm:Type}(a:bm->am)(L:bm->Prop)(O:am):Prop:=∃Z,L Z/\kR (a Z) O
def aB{bm:Type}{c:bm->am}{L:bm->Prop}{b:bm->Nat}{Z:bm}{O:am}a(aR:L a:=by first|omega|trivial|(dsimp only;omega))(e:b a<b Z:=by first|omega|(dsimp only;omega))(bo:kR (c a) O:=by exact .Bb):FO c L b Z O:=⟨a,aR,e,bo⟩
def c3{bm:Type}{gP:bm->am}{L:bm->Prop}{O:am}a(aR:L a:=by trivial)(b:kR (gP a) O:=by exact .Bb):QK gP L O:=⟨a,aR,b⟩
def cP{t:Code}(w:match t with|.seq E W=>jg T z s m o Y c4 E O (rM (jg T z s m o Y c4 W · e) e)|_=>False)(Z:j2 T z s m Y c4:=by assumption):ay T s o t O e:=ag_ Z.hm Z.Hx Z.tM Z.Hw Z.av w
def cQ bm{t:Code}a L g(b:bm)(c:∀Z,L Z->jg T z s m o Y c4 t (a Z) (rM (FO a L g Z ·) e))(dJ:L b:=by first|trivial|omega|(simp;done))(bo:kR (a b) O:=by exact .Bb)(Z:j2 T z s m Y c4:=by assumption):ay T s o (.loop t) O e:=asI Z.hm Z.Hx Z.tM Z.Hw Z.av dJ bo c
def eH{t:Code}b(L:Nat->Prop)a(c:∀Z,Z<=b/\L Z->jg T z s m o Y c4 t (a Z) (rM (FO a (λZ=>Z<=b/\L Z) (λZ=>b-Z) Z ·) e))(dJ:L 0:=by first|trivial|omega|(simp;done))(bo:kR (a 0) O:=by exact .Bb)(Z:j2 T z s m Y c4:=by assumption):ay T s o (.loop t) O e:=cQ _ a _ _ 0 c ⟨c1 _,dJ⟩ bo Z
def dL{t:Code}b a(g:∀Z≤b,jg T z s m o Y c4 t (a Z) (rM (FO a (λZ=>Z<=b) (λZ=>b-Z) Z ·) e))(c:kR (a 0) O:=by exact .Bb)(Z:j2 T z s m Y c4:=by assumption):ay T s o (.loop t) O e:=cQ _ a _ _ 0 g (c1 _) c Z
def gK bm{E W:Code}a(L:bm->Prop)(w:jg T z s m o Y c4 E O (rM (QK a L ·) e))(F:∀Z,L Z->jg T z s m o Y c4 W (a Z) e)(Z:j2 T z s m Y c4:=by assumption):ay T s o (.seq E W) O e:=asu Z.hm Z.Hx Z.tM Z.Hw Z.av w F
def lB{t:Code}a(w:ay T s o t a e)(b:kR a O:=by exact .Bb):ay T s o t O e:=w.zT b
class lh(W:Bool)(L:outParam Prop):Prop where
 iff:W↔L
instance{W:Bool}:lh W (W=true):=⟨.rfl⟩
instance{L:Prop}{a:Decidable L}:lh (@decide L a) L:=⟨gV⟩
class nc{bm:Type}(E:bm)(W:outParam bm):Prop where
 h:E=W
instance{bm:Type}{E:bm}:nc E E:=⟨rfl⟩
instance{bm u:Type}{N:List bm}{x:bm->u}:nc (((N.map x).length:Nat):Int) (N.length:Int):=⟨by rw[aS]⟩
instance{bm:Type}{N:List bm}:nc N.toArray.toList N:=⟨rfl⟩
instance{E W a b:Int} [w:nc E a] [F:nc W b]:nc (E+W) (a+b):=⟨by rw[w.h,F.h]⟩
instance{E W a b:Int} [w:nc E a] [F:nc W b]:nc (E-W) (a-b):=⟨by rw[w.h,F.h]⟩
instance{E W a b:Int} [w:nc E a] [F:nc W b]{c:Decidable (E<W)}:lh (@decide (E<W) c) (a<b):=⟨by rw[gV,w.h,F.h]⟩
instance{E W a b:Int} [w:nc E a] [F:nc W b]{c:Decidable (E<=W)}:lh (@decide (E<=W) c) (a<=b):=⟨by rw[gV,w.h,F.h]⟩
instance{bm:Type}{E W a b:bm} [w:nc E a] [F:nc W b]{c:Decidable (E=W)}:lh (@decide (E=W) c) (a=b):=⟨by rw[gV,w.h,F.h]⟩
instance{bm:Type}{E W a b:bm} [w:nc E a] [F:nc W b]{c:Decidable ¬E=W}:lh (@decide (¬E=W) c) ¬a=b:=⟨by rw[gV,w.h,F.h]⟩
instance{E W:Bool}{L A:Prop} [w:lh E L] [F:lh W A]:lh (E&&W) (L/\A):=⟨by rw[jD,w.iff,F.iff]⟩
instance{E W:Bool}{L A:Prop} [w:lh E L] [F:lh W A]:lh (E||W) (L\/A):=⟨by rw[m5,w.iff,F.iff]⟩
instance{E:Bool}{L:Prop} [w:lh E L]:lh (!E) ¬L:=⟨by rw[<-w.iff];simp⟩
def j{W:Bool}{a b L:Prop} [a0:lh W L](e:L->a)(c:¬L->b):kN W a b:=.mk (λw=>e<|a0.iff.1 w) (λw=>c λaR=>by rw[a0.iff.2 aR] at w;cases w)
def b2{W:Bool}{a:Bool->Prop}{b:Bool->Prop}{L:Prop}{B:Bool} [a0:lh W L](w:L->a B)(F:b B):Aj W true a b:=.mk B (λc=>w<|a0.iff.1 c) F
def cs{W:Bool}{a:Bool->Prop}{b:Bool->Prop}{L:Prop}{B:Bool} [a0:lh W L](w:¬L->a B)(F:b B):Aj W false a b:=.mk B (λc=>w λaR=>by rw[a0.iff.2 aR] at c;cases c) F
def fM{W:Bool}{a:Bool->Prop}{b:Bool->Prop}{L:Prop}{B:Bool} [lh W L](F:b B)(w:L->a B:=by exactλ_=>rfl):Aj W true a b:=b2 w F
def dD{W:Bool}{a:Bool->Prop}{b:Bool->Prop}{L:Prop}{B:Bool} [lh W L](F:b B)(w:¬L->a B:=by exactλ_=>rfl):Aj W false a b:=cs w F
def Ji{W:Bool}{b c L:Prop} [a0:lh W L](w:L->b)(F:¬L->c):KZ W b c:=.mk (λa=>w<|a0.iff.1 a) (λa=>F λaR=>by rw[a0.iff.2 aR] at a;cases a)
theorem dC{id:Nat}{ops:Array Oper}(w:nN T z s m o ops.toList 4000 ops.toList [] [] O (wB o ops.toList · O · (e .normal)))(Z:j2 T z s m Y c4:=by assumption)(b:pK ops.toList:=by decide+kernel)(a:qo Y ops.toList:=by rfl):ay T s o (.region id ops true) O e:=ay.agx Z.hm Z.Hx Z.tM Z.Hw Z.av a b w
def iK{bK:List Oper}{aN:List c5}{b:am}{e:am->Prop}a(w:e (O.vW a))(g:qE bK aN:=by kernel_rfl)(h:vV 5000 6000 b.c O.c a O:=by kernel_rfl):wB 5000 bK aN b O e:=⟨a,6000,g,h,rfl,w⟩
def fm{bK:List Oper}{aN:List c5}{a:am}{e:am->Prop}(w:e (O.vW []))(b:qE bK aN:=by kernel_rfl)(g:vV 5000 6000 a.c O.c [] O:=by kernel_rfl):wB 5000 bK aN a O e:=iK [] w b g
def c7{bK:List Oper}{a:Prop}(w:a)(b:pK bK:=by decide+kernel):FR bK a:=.mk b w
def a_{P:Oper}{Rd:List Nat}{F:c5->am->Prop}{ops:Array Oper}{D:V}(w:∀ad,c2 T z s m false P ⟨O.h,(kw O.c Rd).getD [],ad⟩ (·=D))(a:F (Rd,[]) (O.put P.dst D))(e:kw O.c Rd=some ((kw O.c Rd).getD []):=by rfl)(b:oi Rd:=by rfl):li T z s m o ops P O Rd F:=asQ ⟨D,w,a⟩ e b
end
abbrev g(X:Nat):V:=.cU X 0 0
def q(Y:Nat):V:=.int .i64 Y
def aX{g:FuncId}{b:Func}{m:List (Nat×V)}{xs:List V}{D:V}{t:Code}(i:Tryz.prog.funcs[g]?=some b)c4(w:∀s,j2 a4 gT s m b.ntmps c4->jg a4 gT s m 5000 b.ntmps c4 t ⟨ng 0 xs,[],[]⟩ (g4 a4 s 5000 (λ_=>(0,0)) b.results.toList λo l=>o=D/\l=[]))(c:(b.name== "runtime.NumGoroutine")=false:=by kernel_rfl)(e:b.body=some t:=by rfl)(h:dp m:=by rfl)(k:Nat.ble xs.length b.ntmps:=by rfl)(j:(⟨ng 0 xs,[],[]⟩:am).a (λ_=>(0,0))=⟨ng 0 xs,[]⟩:=by rfl):fg a4 m g xs D:=ff.of_wp c4 _ ⟨ng 0 xs,[],[]⟩ eW aZ h ⟨i,c,e⟩ rfl k rfl j λs c e=>w s ⟨eW,aZ,c,h,e⟩
def cX{g:FuncId}{b:Func}{m:List (Nat×V)}{xs:List V}{os bN:bb}{D:V}{t:Code}(i:Tryz.prog.funcs[g]?=some b)c4(w:∀u s,j2 a4 gT s m b.ntmps c4->jg a4 gT s m 5000 b.ntmps c4 t ⟨ng 0 xs,os,[]⟩ (g4 a4 s 5000 u b.results.toList (λl k=>∃an,cd 5000 u an/\l=D.a an/\k=ar an bN)))(c:(b.name== "runtime.NumGoroutine")=false:=by kernel_rfl)(e:b.body=some t:=by rfl)(h:dp m:=by rfl)(j:Nat.ble xs.length b.ntmps:=by rfl):ps a4 m g xs os D bN:=ps.of_wp c4 eW aZ h ⟨i,c,e⟩ rfl j rfl λu s c e=>w u s ⟨eW,aZ,c,h,e⟩
def aY(Y:Nat):List Nat:=if w:Y=0 then[] else Y%10000::aY (Y/10000)
 termination_by Y
 decreasing_by omega
theorem nk:aY 0=[]:=by simp[aY]
theorem tF{Y:Nat}(w:0<Y):aY Y=Y%10000::aY (Y/10000):=by rw[aY,KV v]
theorem yQ{Y:Nat}:aY Y=[]↔Y=0:=by constructor;grind[tF];rintro rfl;exact nk
def S_{L:Nat->Prop}(dJ:L 0)(w:∀Y,0<Y->L (Y/10000)->L Y):∀Y,L Y:=by
 intro Y
 induction Y using Nat.strongRecOn
 next Y a=>rcases lM Y with rfl|aR;exact dJ;grind
def ags:∀Y,∀M∈aY Y,M<10000:=S_ (by simp[nk]) λY aR b M a=>by rw[tF aR] at a;grind
def fP:List Nat->Nat|[]=>0|M::N=>M+10000*fP N
theorem asn:∀Y,fP (aY Y)=Y:=S_ (by simp[nk,fP]) λY aR a=>by grind[tF,fP]
def asm E W:fP (E++W)=fP E+10000^E.length*fP W:=by
 induction E
 simp[fP]
 next M E a=>simp[wm,fP,oC];grind
def aso{N:List Nat}(w:∀M∈N,M<10000):fP N<10000^N.length:=by
 induction N
 trivial
 next M N b=>let a:=w M af;grind[fP,List.length_cons,Nat.pow_succ]
def v9:List Nat->List Nat|[]=>[]|M::N=>match v9 N with|[]=>if M=0 then[] else[M]|o=>M::o
def aa0:∀N,(∀M∈N,M<10000)->v9 N=aY (fP N)
|[],_=>by simp[v9,fP,nk]|M::N,w=>by
 have:=w M af;have b:=aa0 N λZ c=>w Z aM;rw[v9,b];split;rename_i dJ;have dJ:=yQ.1 dJ;rw[fP,dJ];split;simp_all;rw[tF v,show(M+10000*0)/10000=0 by omega,nk];grind;rename_i o dJ;rw[fP];have:0<fP N:=by rcases lM _ with a|a;exact absurd (yQ.2 a) (by simpa using dJ);exact a
 rw[tF (Y:=M+10000*fP N) v,show(M+10000*fP N)/10000=fP N by omega,show(M+10000*fP N)%10000=M by omega]
theorem PR:∀N Y,Y<=N.length->(∀a,Y<=a->a<N.length->N[a]?=some 0)->(Y=0\/∃M≠0,N[Y-1]?=some M)->v9 N=N.take Y
|[],Y,_,_,_=>by simp[v9]|M::N,0,_,w,_=>by let c:=w 0 (a1 _) af;let h:=PR N 0 (c1 _) (λa _ p=>by have:=w (a+1) (c1 _) b;trivial)<|.inl rfl;grind[v9]|M::N,Y+1,e,w,g=>by
 simp at e;rw[v9,PR N Y v (λa c p=>by have:=w (a+1) v b;trivial) (by grind)];cases Y;simp_all
 next Y=>
  cases N;trivial
  next J N=>simp
theorem S9 Y a:(aY Y)[a]?=if 0<Y/10000^a then some (Y/10000^a%10000) else none:=by
 revert Y
 induction a
 intro Y;rcases lM Y with rfl|aR;simp[nk];grind[tF]
 next a b=>intro Y;rcases lM Y with rfl|aR;simp[nk];rw[tF aR,List.getElem?_cons_succ,b,KB,oC,jk]
theorem CT{Y a:Nat}:a<(aY Y).length↔0<Y/10000^a:=by let w:=S9 Y a;grind
theorem agr Y a:(aY Y).getD a 0=Y/10000^a%10000:=by rw[cg,S9];grind
theorem vg{Y H:Nat}(w:H<(aY Y).length):(aY Y)[H]=Y/10000^H%10000:=by have:=agr Y H;simp_all
theorem w1 Y a:Y/10000^(a+1)=Y/10000^a/10000:=by rw[oC,KB]
def mC{Y F:Nat}:Y<10000^F->(aY Y).length<=F:=by grind[Nat.lt_or_ge,aY,CT,Nat.div_eq_of_lt]
theorem wY Y:Y<10000^(aY Y).length:=by let w:¬(aY Y).length<(aY Y).length:=tc _;rw[CT] at w;rcases gh Y _ with a|a;exact a;simp_all
theorem sj{E W:Nat}(w:E<=W):(aY E).length<=(aY W).length:=mC<|FA w<|wY W
def Ww{E W:Nat}:(aY E).length<(aY W).length->E<W:=by grind[Nat.lt_or_ge,sj]
def E9:∀N a Z B,N[a]?=some B->fP (N.set a Z)+B*10000^a=fP N+Z*10000^a|[],a,Z,B,w=>bB|M::N,0,Z,B,w=>by grind[fP]|M::N,a+1,Z,B,w=>by let b:=E9 N a Z B bB;grind[fP,Nat.pow_succ,Nat.mul_assoc,Nat.mul_comm]
def PU Y:fP (List.replicate Y 0)=0:=by
 induction Y
 rfl
 next Y a=>grind[fP]
def H7{N:List Nat}{a Z:Nat}(w:∀M∈N,M<10000):Z<10000->∀M∈N.set a Z,M<10000:=by grind
def bA:Nat:=10^30
theorem p6:0<bA:=aj
structure m_ where
 neg:Bool
 num:Nat
 cn:Nat
 deriving DecidableEq
def k2(b:Bool)(num a:Nat):m_:=if num=0 then⟨false,0,1⟩ else⟨b,num/Nat.gcd num a,a/Nat.gcd num a⟩
def bO(k:Int):m_:=k2 (decide (k<0)) k.natAbs bA
theorem akn{E W t M:Nat}(a0:0<W)(r:0<M)(w:E*M=t*W):E/Nat.gcd E W=t/Nat.gcd t M/\W/Nat.gcd E W=M/Nat.gcd t M:=by
 let g:0<Nat.gcd E W:=KE _ a0;let h:0<Nat.gcd t M:=KE _ r;let⟨c,o⟩:=Qt E W;let⟨a,p⟩:=Fy E W;let⟨e,q⟩:=Qt t M;let⟨b,s⟩:=Fy t M;let i:E/Nat.gcd E W=c:=by rw[KC g o]
 let j:W/Nat.gcd E W=a:=by rw[KC g p]
 let k:t/Nat.gcd t M=e:=by rw[KC h q]
 let l:M/Nat.gcd t M=b:=by rw[KC h s]
 let u:Nat.Coprime c a:=by rw[<-i,<-j];exact acd g
 let x:Nat.Coprime e b:=by rw[<-k,<-l];exact acd h
 let B:=by
  let m:Nat.gcd E W*Nat.gcd t M*(c*b)=Nat.gcd E W*Nat.gcd t M*(e*a):=by
   calc Nat.gcd E W*Nat.gcd t M*(c*b)=Nat.gcd E W*c*(Nat.gcd t M*b):=by ac_rfl
    _=E*M:=aM
    _=t*W:=w
    _=Nat.gcd t M*e*(Nat.gcd E W*a):=aM
    _=_:=by ac_rfl
  exact acf (ww g h) m
 let y:0<a:=by rcases lM a with dJ|dJ;grind;exact dJ
 let z:a ∣ b:=(ab_ u).dvd_of_dvd_mul_left (by grind[Nat.dvd_mul_left]);let A:b ∣ a:=(ab_ x).dvd_of_dvd_mul_left (by grind[Nat.dvd_mul_left]);grind[Nat.dvd_antisymm,Nat.eq_of_mul_eq_mul_right]
def Bf{b:Bool}{num a:Nat}{k:Int}(c:0<a)(w:num*bA=k.natAbs*a)(e:num≠0->b=decide (k<0)):k2 b num a=bO k:=by
 unfold bO k2;let ap:k.natAbs=0↔num=0:=by constructor;grind[Nat.mul_eq_zero,absurd,p6];grind[Nat.mul_eq_zero]
 by_cases dJ:num=0;grind;grind[akn,p6]
theorem vj k:0<(bO k).cn:=by unfold bO k2;split;trivial;simp[Nat.div_pos,Nat.le_of_dvd,p6,Fy,KE]
def CY k:(bO k).num*bA=k.natAbs*(bO k).cn:=by
 unfold bO k2;split
 (simp;omega)
 cases Qt k.natAbs bA;cases Fy k.natAbs bA;grind[bA,Nat.gcd,Nat.div_eq_of_eq_mul_right]
def GV{k:Int}:(bO k).neg=decide (k<0):=by grind[bO,k2]
def Tw{k:Int}:(bO k).num=0↔k=0:=by let w:=CY k;let a:=vj k;constructor;grind[Nat.mul_eq_zero];rintro rfl;rfl
def agD k:(bO k).cn<=bA:=by unfold bO k2;split;trivial;simp[KD]
def agE k:(bO k).num/(bO k).cn=k.natAbs/bA:=by rw[<-ack _ _ p6,CY k,jk _ bA,ack _ _<|vj k]
def Tv{k:Int}:(bO k).num%(bO k).cn=0↔k.natAbs%bA=0:=by
 let w:=CY k;let b:=vj k;rw[<-ace,<-ace];constructor;rintro⟨t,a⟩;exists t;have:k.natAbs*(bO k).cn=bA*t*(bO k).cn:=by rw[<-w,a];ac_rfl
 grind[Nat.eq_of_mul_eq_mul_right];rintro⟨t,a⟩;exists t;grind[bO,bA,Nat.eq_of_mul_eq_mul_right,p6]
def BH(E W:m_):m_:=if E.neg=W.neg then k2 E.neg (E.num*W.cn+W.num*E.cn) (E.cn*W.cn)
 else if W.num*E.cn<=E.num*W.cn then k2 E.neg (E.num*W.cn-W.num*E.cn) (E.cn*W.cn)
 else k2 W.neg (W.num*E.cn-E.num*W.cn) (E.cn*W.cn)
theorem Yv Z B:BH (bO Z) (bO B)=bO (Z+B):=by
 let j:=CY Z;let k:=CY B;let c:=ww (vj Z)<|vj B;let a:(bO Z).num*(bO B).cn*bA=Z.natAbs*((bO Z).cn*(bO B).cn):=by
  calc (bO Z).num*(bO B).cn*bA=(bO Z).num*bA*(bO B).cn:=by ac_rfl
   _=_:=aM
 let b:(bO B).num*(bO Z).cn*bA=B.natAbs*((bO Z).cn*(bO B).cn):=by
  calc (bO B).num*(bO Z).cn*bA=(bO B).num*bA*(bO Z).cn:=by ac_rfl
   _=_:=aM
 let h:(bO B).num*(bO Z).cn<=(bO Z).num*(bO B).cn↔B.natAbs<=Z.natAbs:=by rw[<-acm (w:=p6),a,b,acm (w:=c)]
 unfold BH;rw[GV,GV];by_cases g:decide (Z<0)=decide (B<0);rw[ab g];refine Bf c ?_ λdJ=>?_;rw[gg,a,b,<-gg];grind
 (simp_all;omega)
 rw[aa g];by_cases e:(bO B).num*(bO Z).cn<=(bO Z).num*(bO B).cn;rw[ab e];refine Bf c ?_ λdJ=>?_;rw[KK,a,b,<-KK];grind;let i:Z.natAbs≠B.natAbs:=λw=>by grind[Nat.eq_of_mul_eq_mul_right,p6]
 (simp;omega)
 rw[aa e];refine Bf c ?_ λdJ=>?_;rw[KK,a,b,<-KK];grind
 (simp;omega)
def DM(E:m_):m_:=if E.num=0 then E else{E with neg:=!E.neg}
def NZ Z:DM (bO Z)=bO (-Z):=by unfold DM;by_cases w:Z=0;subst w;rfl;rw[aa λdJ=>w<|Tw.1 dJ];unfold bO k2;grind
def ex(k:Int):Int:=if k=0 then 0 else if k<0 then-1 else 1
def BX(E:m_):Int:=if E.num=0 then 0 else if E.neg then-1 else 1
def aqp k:BX (bO k)=ex k:=by unfold BX ex;simp[GV,ab,Tw,aa]
def ako(a:Bool)Y:k2 a Y 1=bO (if a then-(Y*bA:Nat) else(Y*bA:Nat)):=by refine Bf Nat.one_pos ?_ λdJ=>?_;omega;grind[bA,Nat.mul_pos,p6]
def GO(x:m_):m_:=k2 x.neg (if x.neg/\x.num%x.cn≠0 then x.num/x.cn+1 else x.num/x.cn) 1
def agv k:GO (bO k)=bO (k/bA*bA):=by
 unfold GO;rw[ako,agE,GV];congr 1;by_cases ap:k<0;simp only[ap,decide_true,true_and,FL];by_cases hm:(bO k).num%(bO k).cn=0;rw[aa v];let a:=Tv.1 hm;grind[bA,Int.neg_mul,Int.mul_comm,Int.mul_ediv_cancel];rw[ab hm];let a:k.natAbs%bA≠0:=λw=>hm<|Tv.2 w;let e:=pn k.natAbs p6;have:k/bA=-((k.natAbs/bA)+1):=by
  let b:k=-((k.natAbs/bA:Nat)+1)*bA+(bA-k.natAbs%bA):=by
   let c:=by exact_mod_cast ta k.natAbs bA
   rw[Int.neg_mul,Int.add_mul,Int.one_mul,Ki _];omega
  apply (cW (·/(bA:Int)) b).trans;rw[Int.add_comm,Int.add_mul_ediv_right _ _ v,Int.ediv_eq_zero_of_lt v v];omega
 grind;grind
def IQ:List Int:=[1,10,100,1000,10000,100000,1000000,10000000,100000000,1000000000,10000000000,100000000000,1000000000000,10000000000000,100000000000000,1000000000000000,10000000000000000,100000000000000000,1000000000000000000,10000000000000000000]
def AD:List Int:=[0,1,56,2,57,49,28,3,61,58,42,50,38,29,17,4,62,47,59,36,45,43,51,22,53,39,33,30,24,18,12,5,63,55,48,27,60,41,37,16,46,35,44,21,52,32,23,11,54,26,40,15,34,20,31,10,25,14,19,9,13,8,7,6]
def Ur:V:=.ref 20 [.agg (IQ.map<|V.int .u64)] 0 0
def Uq:V:=.ref 64 [.agg (AD.map<|V.int .u8)] 0 0
def fZ:List (Nat×V):=[(0,Ur),(2,Uq)]
def gE:dp fZ:=rfl
abbrev aA:=fg a4 fZ
abbrev cK:=ps a4 fZ
structure ba where
 neg:Bool
 a9:List UInt8
 exp:Int
 deriving DecidableEq,Inhabited
def ar0:Tryz.prog.underlying 70=some (.struct #[⟨ "Neg",4,0,false, "", "",0⟩,⟨ "Digits",9,1,false, "", "",8⟩,⟨ "Exp",3,2,false, "", "",24⟩]):=af
def BR{T:Program}{X:TypeId}{M:TypeDesc}{K bs:Nat}(e:bG T X M K bs)(c:lv M=false){a:Array Value}{b:Nat}{U:Value}(g:a[b]?=some U)I:(part X a b).run T I=.ok U I:=by unfold part;simp[Sem.run_bind,e.pV,c];simp[g]
def apF{T:Program}{M:Nat}{X:TypeId}{I:World}{E W:ByteArray}(a:T.underlying X=some .string):(Op.equalIn (M+1) X (.string E) (.string W)).run T I=.ok (E==W) I:=by simp[Op.equalIn,run_underlying a]
def apC{T:Program}{M:Nat}{X:TypeId}{I:World}{F:IntKind}{E W:Int}(a:T.underlying X=some (.int F)):(Op.equalIn (M+1) X (.int F E) (.int F W)).run T I=.ok (E==W) I:=by simp[Op.equalIn,run_underlying a]
def ad7(E W:ByteArray):(E==W)=decide (E=W):=by let⟨E⟩:=E;let⟨W⟩:=W;rw[m4];constructor;intro w;have w:(E==W):=w;simp_all;intro w;simp at w;subst w;show(E==E);simp
def ag5 M(E W c e:_)t g I:(Op.equalIn (M+1+1) 70 (.agg #[.bool E,.string W,.int .i64 t]) (.agg #[.bool c,.string e,.int .i64 g])).run a4 I=.ok (decide (E=c/\W=e/\t=g)) I:=by let a:=(xZ:nU a4 4 Dp).e6 rfl;let b:=(xZ:nU a4 9 U2).e6 rfl;let h:=(xZ:nU a4 3 MU).e6 rfl;rw[Op.equalIn];simp[BR a rfl _,BR a rfl _,BR b rfl _,BR b rfl _,BR h rfl _,BR h rfl _,Jw a.u,apF b.u,apC _,ad7];grind
def Eo{a:aF}{W:Bool}{U:Value}(w:aE a (.bool W) U):U=.bool W:=by cases w;rfl
def O9{a:aF}{F:IntKind}{Y:Int}{U:Value}(w:aE a (.int F Y) U):U=.int F Y:=by cases w;rfl
def O_{a:aF}{N:List UInt8}{U:Value}(w:aE a (.str N) U):U=.string ⟨N.toArray⟩:=by cases w;rfl
def YX(E W c e:_){t qk:Int}:uT a4 70 [.bool E,.str W,.int .i64 t] [.bool c,.str e,.int .i64 qk] (decide (E=c/\W=e/\t=qk)):=by
 refine⟨λr l q I g h a b=>?_,af⟩
 match l,q,g,h with|[i,j,k],[m,o,p],_,_=>let dT:=Eo<|a 0 _ i rfl rfl;let bu:=O_<|a 1 _ j rfl rfl;let cG:=O9<|a 2 _ k rfl rfl;let s:=Eo<|b 0 _ m rfl rfl;let u:=O_<|b 1 _ o rfl rfl;let w:=O9<|b 2 _ p rfl rfl;simp_all[ag8,ag5]
def bx(Y:ba):V:=.agg [.bool Y.neg,.str Y.a9,.int .i64 Y.exp]
inductive br where|mk (cc:Int) (bool:Bool) (num:ba) (text:List UInt8) (list:List br) (keys:List (List UInt8))
namespace br
def cc:br->Int|.mk E _ _ _ _ _=>E
def bool:br->Bool|.mk _ E _ _ _ _=>E
def num:br->ba|.mk _ _ E _ _ _=>E
def text:br->List UInt8|.mk _ _ _ E _ _=>E
def list:br->List br|.mk _ _ _ _ E _=>E
def keys:br->List (List UInt8)|.mk _ _ _ _ _ E=>E
end br
mutual
def AL:br->V|.mk F W Y X N a=>.agg [.int .i64 F,.bool W,.bool Y.neg,.str Y.a9,.int .i64 Y.exp,.str X,.f 8<|G0 N,.f 1<|a.map V.str]
def G0:List br->List V|[]=>[]|U::N=>AL U::G0 N
end
def Tz:∀N,G0 N=N.map AL|[]=>rfl|U::N=>by rw[G0,gU,Tz N]
def iz(U:br):V:=.agg [.int .i64 U.cc,.bool U.bool,.bool U.num.neg,.str U.num.a9,.int .i64 U.num.exp,.str U.text,.f 8<|U.list.map AL,.f 1<|U.keys.map V.str]
def agH U:AL U=iz U:=by cases U;rw[AL,Tz];rfl
def UA{N:List br}{a:Nat}(w:a<N.length):(N.map AL)[a]?=some (iz N[a]):=by rw[kB w,agH]
def br.K:br->Nat|.mk _ _ Y X N a=>1+Y.a9.length+X.length+uA N+(a.map λF=>F.length+1).sum
 where uA:List br->Nat|[]=>0|U::N=>U.K+uA N
def br.arl{N:List br}{U:br}(w:U∈N):U.K<=br.K.uA N:=by
 induction N
 trivial
 next E N a=>rw[br.K.uA];grind
def br.ark N:N.length<=br.K.uA N:=by
 induction N
 simp
 next E N a=>
  rw[br.K.uA,kh];have:1<=E.K:=by cases E;rw[br.K];omega
  omega
def br.aaM(U:br):U.K=1+U.num.a9.length+U.text.length+br.K.uA U.list+(U.keys.map λF=>F.length+1).sum:=by cases U;rfl
def are{N:List (List UInt8)}:N.length<=(N.map λF=>F.length+1).sum:=by
 induction N
 simp
 next E N a=>(simp;omega)
def arf{N:List (List UInt8)}{F:List UInt8}(w:F∈N):F.length<(N.map λF=>F.length+1).sum:=by
 induction N
 trivial
 next E N a=>grind
def br.EV{U:br}{Y:Nat}(w:U.K<=Y):U.num.a9.length<Y/\U.text.length<Y/\U.list.length<Y/\U.keys.length<Y/\(∀Z∈U.list,Z.K<Y)/\(∀F∈U.keys,F.length<Y)/\br.K.uA U.list<Y:=by rw[U.aaM] at w;let c:=br.ark U.list;let e:=are (N:=U.keys);exact⟨v,v,v,v,λZ b=>by have:=br.arl b;omega,λF a=>by have:=arf a;omega,v⟩
def br.ind{L:br->Prop}(w:∀U,(∀Z∈U.list,L Z)->L U):∀U,L U:=by
 let e:∀Y(U:br),U.K<=Y->L U:=by
  intro Y
  induction Y with|zero=>intro U a;cases U;grind[br.K]|succ Y c=>intro U a;refine w U λZ b=>c Z ?_;have:=(br.EV a).2.2.2.2.1 Z b;omega
 exactλU=>e _ U<|a1 _
def br.iH:br->Nat|.mk _ _ _ _ N _=>1+l9 N
 where l9:List br->Nat|[]=>0|U::N=>U.iH+l9 N
def br.fa:br->Nat|.mk _ _ _ _ N _=>pI N+1
 where pI:List br->Nat|[]=>0|U::N=>max U.fa<|pI N
def br.IA(U:br):U.iH=1+br.iH.l9 U.list:=by cases U;rfl
def br.vF(U:br):U.fa=br.fa.pI U.list+1:=by cases U;rfl
theorem Xo(E W:List br):br.iH.l9 (E++W)=br.iH.l9 E+br.iH.l9 W:=by induction E with|nil=>simp[br.iH.l9]|cons Z E a=>(simp[wm,br.iH.l9];omega)
theorem aj0(E W:List br):br.fa.pI (E++W)=max (br.fa.pI E) (br.fa.pI W):=by induction E with|nil=>rfl|cons Z E a=>(simp[wm,br.fa.pI];omega)
theorem aaQ{bm:Type}{N:List bm}{a:Nat}(w:a<N.length):N.take (a+1)=N.take a++[N[a]]:=z9 w
def alE{N:List br}{H:Nat}(w:H<N.length):br.iH.l9 (N.take (H+1))=br.iH.l9 (N.take H)+N[H].iH:=by grind[aaQ,Xo,br.iH.l9]
def aj1{N:List br}{H:Nat}(w:H<N.length):br.fa.pI (N.take (H+1))=max (br.fa.pI (N.take H)) N[H].fa:=by grind[aaQ,aj0,br.fa.pI]
def alG:∀U:br,U.iH<=U.K:=br.ind λU a=>by
 rw[U.IA,U.aaM];have:∀N,(∀Z∈N,Z.iH<=Z.K)->br.iH.l9 N<=br.K.uA N:=by
  intro N
  induction N with|nil=>trivial|cons E N b=>grind[br.iH.l9,br.K.uA]
 grind
def aj2:∀U:br,U.fa<=U.iH:=br.ind λU a=>by
 rw[U.IA,U.vF];have:∀N,(∀Z∈N,Z.fa<=Z.iH)->br.fa.pI N<=br.iH.l9 N:=by
  intro N
  induction N with|nil=>trivial|cons E N b=>grind[br.iH.l9,br.fa.pI]
 grind
def alF(N:List br)(a:Nat):br.iH.l9 (N.take a)<=br.iH.l9 N:=by grind[Xo,List.take_append_drop]
def akF:∀U:br,U.K<=1048576->aA 92 [iz U] (.tuple [q U.iH,q U.fa]):=by
 refine br.ind λU k h=>?_;let b:=br.EV h;let g:=alG U;let c:=aj2 U;refine ff.of_wp (z:=gT) (o:=5000) [] (λ_=>(0,0)) ⟨[(0,iz U)],[],[]⟩ eW aZ gE ⟨func92,ax,rfl⟩ rfl rfl rfl rfl λs a e=>?_;let u:j2 a4 gT s fZ _ []:=⟨eW,aZ,a,gE,e⟩;refine dL U.list.length (λH=>⟨[(2,q<|1+br.iH.l9 (U.list.take H)),(3,q<|br.fa.pI<|U.list.take H),(9,_),(10,_),(11,q H)],[],[]⟩) (λH p=>?_) .r;apply j<;>intro x
 .let y:=b.2.2.2.2.1 U.list[H] (fG v);let l:=alE (N:=U.list) (H:=H) v;let m:=aj1 (N:=U.list) (H:=H) v;let t:=alF U.list<|H+1;rw[U.IA] at g;refine aJ H _ ?_ (p:=UA v);refine az ?_ (i:=k U.list[H] (fG v) v);refine dK ((1+br.iH.l9 (U.list.take<|H+1):Nat):Int) ?_;refine DP ((br.fa.pI (U.list.take<|H+1):Nat):Int) ?_;refine aL ?_;exact aB (H+1) (bo:=.r)
 obtain rfl:H=U.list.length:=v;rw[gq];rw[U.vF] at c;refine dK ((U.fa:Nat):Int) ?_ (w:=by rw[U.vF];omega) (fL:=by rw[U.vF];omega);exact ae (w:=by rw[U.IA];rfl)
def ae_(U:br)(a:U.K<=1048576):aA 60 [iz U] (.int .i64 (if 20000<U.iH\/60<U.fa then 3 else 0)):=by
 refine aX func60 [] λs b=>?_;refine az ?_ (i:=akF U a);refine dD ?_;apply j<;>intro c
 .exact ae (w:=by rw[ab v];rfl)
 exact ae (w:=by rw[aa v];rfl)
def eh(W:UInt8):Bool:=decide (48<=W.toNat)&&decide (W.toNat<=57)
def jc(Y:ba):Int:=if Y.a9=[]\/Y.a9.all eh=false then 2
 else if Y.a9=[48] then(if Y.neg\/Y.exp≠0 then 2 else 0)
 else if Y.a9.getD 0 0=48\/Y.a9.getD (Y.a9.length-1) 0=48 then 2
 else if 30<Y.a9.length\/Y.exp< -30\/30<Y.exp then 3 else 0
def pe(O:List UInt8):Int:=if 10000<O.length then 3 else 0
def A7(b:Option (List UInt8)):List (List UInt8)->Int|[]=>0|F::a=>if pe F≠0 then pe F else if(match b with|some A=>Op.bytesLess F A||decide (F=A)|none=>false)=true then 10 else A7 (some F) a
def xW(U:br):Bool:=U.bool&&decide (U.cc≠2)||decide ¬U.num=⟨false,[],0⟩&&decide (U.cc≠3)||decide (U.text≠[])&&decide (U.cc≠4)||decide (U.keys≠[])&&decide (U.cc≠6)||
 (if U.cc=6 then decide (U.keys.length≠U.list.length) else decide (U.list≠[])&&decide (U.cc≠5))
def rB(U:br):Int:=if U.cc<1\/6<U.cc then 7
 else if xW U then 2
 else if U.cc=3 then jc U.num
 else if U.cc=4 then pe U.text
 else A7 none U.keys
def br.kV:br->Int|.mk F W Y X N a=>if rB (.mk F W Y X N a)≠0 then rB (.mk F W Y X N a) else Ay N
 where Ay:List br->Int|[]=>0|U::N=>if U.kV≠0 then U.kV else Ay N
def br.Sp(U:br):U.kV=if rB U≠0 then rB U else br.kV.Ay U.list:=by cases U;rfl
def x4(U:br):Int:=if 20000<U.iH\/60<U.fa then 3 else U.kV
def alR(Y:ba):Y=⟨false,[],0⟩↔Y.neg=false/\Y.a9=[]/\Y.exp=0:=by constructor;simp_all;cases Y;simp_all
theorem GR{bm:Type}{N:List bm}{a:Nat}(w:a<N.length):N.drop a=N[a]::N.drop (a+1):=iO w
def YF{bm:Type}{N:List bm}{a:Nat}(w:a<N.length)(b:0<a):N[a-1]?=some N[a-1]:=bw _
def LP(O:List UInt8):aA 76 [.str O] (.int .i64 (pe O)):=by
 refine aX func76 [] λs a=>?_;apply j<;>intro b
 .exact ae (w:=by rw[pe,ab v];rfl)
 exact ae (w:=by rw[pe,aa v];rfl)
def aox(O:List UInt8):aA 55 [.str O] (.int .i64 (pe O)):=by
 refine aX func55 [] λs a=>?_;apply j<;>intro b
 .exact ae (w:=by rw[pe,ab v];rfl)
 exact ae (w:=by rw[pe,aa v];rfl)
def agp(W:UInt8):aA 116 [bh W] (.bool (eh W)):=by refine aX func116 [] λs a=>?_;refine fM ?_;exact ae (w:=by simp[cO,eg];congr 2<;>((simp;omega)))
theorem Gb{L:UInt8->Bool}{N:List UInt8}{a:Nat}(w:a<N.length):(N.drop a).all L=(L N[a]&&(N.drop (a+1)).all L):=by grind[GR]
theorem E3{W:UInt8}:(W.toNat:Int)=48↔W=48:=by constructor;intro w;apply FC.1;(simp;omega);simp_all
def aow(Y:ba)(y:Y.a9.length<=1048576):aA 79 [bx Y] (.int .i64 (jc Y)):=by
 refine aX func79 [] λs m=>?_;apply j<;>intro l
 .exact ae (w:=by rw[jc,ab<|.inl l];rfl)
 have z:0<Y.a9.length:=ya.2 l;refine eH Y.a9.length (λa=>Y.a9.all eh=(Y.a9.drop a).all eh) (λa=>⟨[(1,g 1),(3,_),(4,q a)],[(1,_)],[]⟩) (λa p=>?_) rfl .r;apply j<;>intro o
 .refine lw _ _ ?_;refine az ?_ (i:=agp Y.a9[a]);apply j<;>intro h
  .have e:Y.a9.all eh=false:=by rw[p.2,Gb v];simp at h;rw[h];simp
   exact ae (w:=by rw[jc,ab<|.inr e];rfl)
  refine aL ?_;exact aB (a+1) ⟨v,by grind[Gb]⟩ (bo:=.r)
 have e:Y.a9.all eh:=by rw[p.2,iv v];rfl
 apply j<;>intro c
 .refine dD ?_;apply j<;>intro k
  .exact ae (w:=by rw[jc,aa b,ab c,ab k];rfl)
  exact ae (w:=by rw[jc,aa b,ab c,aa k];rfl)
 refine mQ 0 ?_;apply cs;intro x;refine g1 ?_;refine mQ (Y.a9.length-1) ?_;exact rfl;apply j<;>intro t
 .exact ae (w:=by rw[jc,aa b,aa c,ab (by grind[E3])];rfl)
 refine dD ?_;refine dD ?_;apply j<;>intro u
 .exact ae (w:=by rw[jc,aa b,aa c,aa (by grind[E3]),ab v];rfl)
 exact ae (w:=by rw[jc,aa b,aa c,aa (by grind[E3]),aa v];rfl)
def V_{bm:Type}{N:List bm}:(0:Int)<(N.length:Int)↔N≠[]:=by simp[ya]
def aq5(U:br)(l:U.K<=1048576):aA 140 [iz U] (.bool (xW U)):=by
 refine aX func140 [] λs a=>?_;let ap:=(alR U.num).symm;let i:(0:Int)<(U.keys.length:Int)↔U.keys≠[]:=V_;let k:(0:Int)<(U.list.length:Int)↔U.list≠[]:=V_;refine fM ?_;apply j<;>intro e
 .exact ae (w:=by simp only[cO,V.const,V.leaf,eg,xW,V.bool.injEq];grind)
 refine N6 (YX _ _ _ _) ?_;refine fM ?_;apply j<;>intro b
 .exact ae (w:=by simp only[cO,V.const,V.leaf,eg,xW,V.bool.injEq];grind)
 refine fM ?_;apply j<;>intro c
 .exact ae (w:=by simp only[cO,V.const,V.leaf,eg,xW,V.bool.injEq];grind)
 refine fM ?_;apply j<;>intro g
 .exact ae (w:=by simp only[cO,V.const,V.leaf,eg,xW,V.bool.injEq];grind)
 apply j<;>intro h
 .exact ae (w:=by simp only[cO,V.const,V.leaf,eg,xW,V.bool.injEq];grind)
 refine fM ?_;exact ae (w:=by simp only[cO,V.const,V.leaf,eg,xW,V.bool.injEq];grind)
def ue(W:UInt8):Bool:=decide (97<=W)&&decide (W<=122)||decide (48<=W)&&decide (W<=57)||decide (W=45)
def pg(W:UInt8):Bool:=decide (65<=W)&&decide (W<=90)
def l7(T:UInt8->Bool)(F:Nat)(O:List UInt8):Bool:=O.all T&&decide (O≠[])&&decide (O.length<=F)
def Ix{T:UInt8->Bool}{F:Nat}{O:List UInt8}{a:Nat}(w:O.all T=(O.drop a).all T)(b:a<O.length)(a0:T O[a]=false):l7 T F O=false:=by rw[l7,w,Gb b,a0];rfl
def Iw{T:UInt8->Bool}{O:List UInt8}{a:Nat}(w:O.all T=(O.drop a).all T)(b:a<O.length)(a0:T O[a]):O.all T=(O.drop (a+1)).all T:=by rw[w,Gb b,a0];rfl
def Iu{T:UInt8->Bool}{F:Nat}{O:List UInt8}{a:Nat}(w:O.all T=(O.drop a).all T)(b:O.length<=a):l7 T F O=(decide (O≠[])&&decide (O.length<=F)):=by rw[l7,w,iv b];rfl
def abe{W:UInt8}(w:(W.toNat:Int)<65\/90<(W.toNat:Int)):pg W=false:=by rw[pg,Ca];rcases w with w|w;left;simp[KL];omega;right;simp[KL];omega
def abf{W:UInt8}(w:¬((W.toNat:Int)<65\/90<(W.toNat:Int))):pg W:=by simp[pg,KL];omega
def IL{W:UInt8}:ue W↔(97<=(W.toNat:Int)/\(W.toNat:Int)<=122\/48<=(W.toNat:Int)/\(W.toNat:Int)<=57)\/(W.toNat:Int)=45:=by have J:W=45↔W.toNat=45:=⟨λw=>by rw[w];rfl,λw=>FC.1 w⟩;simp[ue,KL,J];omega
def Y4(O:List UInt8)(bo:O.length<=100000000):aA 19 [.str O] (.bool (l7 pg 10 O)):=by
 refine aX func19 [] λs g=>?_;refine eH O.length (λa=>O.all pg=(O.drop a).all pg) (λa=>⟨[(0,.str O),(2,.bool false),(3,q a)],[],[]⟩) (λa p=>?_) rfl .r;apply j<;>intro e
 .refine lw a O[a] ?_;apply cs;intro c;refine lw a O[a] ?_;exact rfl;apply j<;>intro b;exact ae (w:=by rw[Ix p.2 v<|abe b];rfl);refine aL ?_;exact aB (a+1) ⟨v,Iw p.2 v<|abf b⟩ (bo:=.r)
 apply b2;intro c;exact rfl;exact ae (w:=by rw[Iu p.2 v];simp[cO,eg];congr 1;exact mu.2 v)
def X7(O:List UInt8)(bo:O.length<=100000000):aA 14 [.str O] (.bool (l7 pg 10 O)):=by
 refine aX func14 [] λs g=>?_;refine eH O.length (λa=>O.all pg=(O.drop a).all pg) (λa=>⟨[(0,.str O),(2,.bool false),(5,q O.length),(6,q a)],[],[]⟩) (λa p=>?_) rfl .r;apply j<;>intro e
 .refine lw a O[a] ?_;apply cs;intro c;refine lw a O[a] ?_;exact rfl;apply j<;>intro b;exact ae (w:=by rw[Ix p.2 v<|abe b];rfl);refine aL ?_;exact aB (a+1) ⟨v,Iw p.2 v<|abf b⟩ (bo:=.r)
 apply b2;intro c;exact rfl;exact ae (w:=by rw[Iu p.2 v];simp[cO,eg];congr 1;exact mu.2 v)
def aom(O:List UInt8)(bo:O.length<=100000000):aA 29 [.str O] (.bool (l7 ue 30 O)):=by
 refine aX func29 [] λs g=>?_;refine eH O.length (λa=>O.all ue=(O.drop a).all ue) (λa=>⟨[(0,.str O),(2,.bool false),(3,q a)],[],[]⟩) (λa p=>?_) rfl .r;apply j<;>intro e
 .refine lw a O[a] ?_;apply b2;intro b;exact rfl;apply cs;intro b;apply b2;intro b;exact rfl;exact rfl;apply cs;intro b;exact rfl;apply j<;>intro c;exact ae (w:=by rw[Ix p.2 v (by rw[<-Kf,IL];exact c)];rfl);refine aL ?_;exact aB (a+1) ⟨v,Iw p.2 v<|IL.2<|Kh.1 c⟩ (bo:=.r)
 apply b2;intro b;exact rfl;exact ae (w:=by rw[Iu p.2 v];simp[cO,eg];congr 1;exact mu.2 v)
def amH(O:List UInt8)(bo:O.length<=100000000):aA 42 [.str O] (.bool (l7 ue 30 O)):=by
 refine aX func42 [] λs g=>?_;refine eH O.length (λa=>O.all ue=(O.drop a).all ue) (λa=>⟨[(0,.str O),(2,.bool false),(6,q O.length),(7,q a)],[],[]⟩) (λa p=>?_) rfl .r;apply j<;>intro c
 .refine lw a O[a] ?_;apply cs;intro b;exact rfl;apply b2;intro b;apply cs;intro b;exact rfl;exact rfl;apply b2;intro b;exact rfl;apply j<;>intro e;exact ae (w:=by rw[Ix p.2 v (by rw[<-Kf,IL];omega)];rfl);refine aL ?_;exact aB (a+1) ⟨v,Iw p.2 v<|IL.2 v⟩ (bo:=.r)
 apply b2;intro b;exact rfl;exact ae (w:=by rw[Iu p.2 v];simp[cO,eg];congr 1;exact mu.2 v)
def e9(a:List Nat):V:=.f 1<|a.map q
theorem tE{Y H:Nat}(w:¬H<(aY Y).length):Y/10000^H=0:=by simp_all[CT,Nat.eq_zero_of_not_pos]
def S8{E:List Nat}{A Y:Nat}(w:E++aY A=aY Y):E.length<=(aY Y).length:=by grind
theorem agB{N:List Nat}{Y:Nat}:V.f 1 ((N.map q).take Y)=e9 (N.take Y):=by rw[e9,z4]
def arO(N:List Nat)(k:N.length<=1048576):aA 238 [e9 N] (e9 (v9 N)):=by
 refine aX func238 [] λs g=>?_;let e:(N.map q).length=N.length:=aS _;refine cQ Nat (λY=>⟨[(0,_),(3,q Y)],[],[]⟩) (λY=>Y<=N.length/\∀a,Y<=a->a<N.length->N[a]?=some 0) (λY=>Y) _ (λY l=>?_) ⟨KG e,λa b c=>v⟩ .r;apply b2;refineλi=>g1 ?_;refine gZ (Y-1) (q<|N.getD (Y-1) 0) ?_ (p:=aM);exact rfl;apply j<;>intro h
 .exact ia _<|aB (Y-1) ⟨v,λa b c=>by grind⟩ (bo:=.r)
 refine Xe 0 Y Y ?_;exact ae (w:=by show V.f 1 _=_;grind[agB,PR,Nat.eq_zero_or_pos,List.getElem?_eq_getElem])
def qJ(Y:Nat)(h:Y<9223372036854775808):aA 181 [q Y] (e9 (aY Y)):=by
 refine aX func181 [] λs c=>?_;let g:(aY Y).length<=5:=mC v;refine ay.dI 3 1 3 [3] none<|cQ (List Nat×Nat) (λk=>⟨[(0,q k.2),(3,.d 3 0 (k.1.map q).length)],[(3,.n 1 3<|k.1.map q)],[]⟩) (λk=>k.2<=Y/\k.1++aY k.2=aY Y) (λk=>k.2) ([],Y) λ⟨a,A⟩ ap=>?_;let b:=S8 ap.2;dsimp at ap b⊢;apply j<;>intro e
 .refine Ik _<|dv ?_;refine eR ((a++[A%10000]).map q)<|DS (A/10000:Nat)<|aB (a++[A%10000],A/10000) ⟨v,by grind[tF]⟩ v
 exact gB 3<|ae (w:=by
  obtain rfl:A=0:=by omega
  rw[cO,e9,<-ap.2,nk,gf];rfl)
def LU(E W:Nat)(z:(aY E).length<=1048576)(A:(aY W).length<=1048576):aA 183 [e9 (aY E),e9 (aY W)] (.int .i64 (if E<W then-1 else if W<E then 1 else 0)):=by
 refine aX func183 [] λs m=>?_;let b:((aY E).map q).length=(aY E).length:=aS _;apply j<;>intro o
 .apply j<;>intro t
  .exact ae (w:=by rw[cO,ab<|Ww v];rfl)
  exact ae (w:=by have:=Ww (E:=W) (W:=E) v;rw[cO,aa v,ab this];rfl)
 refine g1 ?_;refine cQ Nat (λa=>⟨[(0,_),(1,_),(5,.int .i64 ((a:Nat)-1:Int))],[],[]⟩) (λa=>a<=(aY E).length/\E/10000^a=W/10000^a) (λa=>a) ((aY E).map q).length (λa c=>?_) ⟨KG b,by rw[b,tE<|tc _];rw[show(aY E).length=(aY W).length by omega,tE (tc _)]⟩ .r;apply j<;>intro u
 .let h:E/10000^a=E/10000^(a-1)/10000:=by obtain⟨F,rfl⟩:∃F,a=F+1:=⟨a-1,v⟩;exact w1 E F
  let i:W/10000^a=W/10000^(a-1)/10000:=by obtain⟨F,rfl⟩:∃F,a=F+1:=⟨a-1,v⟩;exact w1 W F
  let k:=vg (Y:=E) (H:=a-1) v;let l:=vg (Y:=W) (H:=a-1) v;let e:E/10000^(a-1)<W/10000^(a-1)->E<W:=λw=>by grind[Nat.div_le_div_right]
  let g:W/10000^(a-1)<E/10000^(a-1)->W<E:=λw=>by grind[Nat.div_le_div_right]
  refine c7 ?_;refine aJ (a-1) _ ?_ (p:=kB v);refine aJ (a-1) _ ?_ (p:=kB v);apply j<;>intro x
  .exact ae (w:=by rw[cO,ab<|e v];rfl)
  refine c7 ?_;refine aJ (a-1) _ ?_ (p:=kB v);refine aJ (a-1) _ ?_ (p:=kB v);apply j<;>intro y
  .exact ae (w:=by have:=g v;rw[cO,aa v,ab this];rfl)
  refine ia (((a-1:Nat):Int)-1) ?_;exact aB (a-1) ⟨v,v⟩ (bo:=.r)
 exact ae (w:=by
  obtain rfl:a=0:=by omega
  have:=c.2;simp at this;subst this;rw[cO,aa v,aa v];rfl)
def L4{E W F:Nat}(a:(aY E).length<=F)(a0:(aY W).length<=F):(aY (E+W)).length<=F+1:=by refine mC ?_;let b:=h3 (wY E)<|m9 v a;let c:=h3 (wY W)<|m9 v a0;rw[oC];omega
def AH{E W F N:Nat}(c:(aY E).length<=F)(a0:(aY W).length<=N):(aY (E*W)).length<=F+N:=by refine mC ?_;let a:=h3 (wY E)<|m9 v c;let b:=h3 (wY W)<|m9 v a0;rw[m8];rcases lM W with rfl|e;simp;exact ww (mr v)<|mr v;exact aco a (tb b)<|mr v
def Rf(E W:Nat)(y:(aY E).length<=100000)(z:(aY W).length<=100000):aA 182 [e9 (aY E),e9 (aY W)] (e9 (aY (E+W))):=by
 refine aX func182 [] λs B=>?_;have K:((aY E).map q).length=(aY E).length:=aS _;have L:((aY W).map q).length=(aY W).length:=aS _;have J:=L4 y z;refine ay.dI 5 1 3 [5] none ?_;refine cQ (Nat×Nat×List Nat) (λk=>⟨[(0,_),(1,_),(6,q k.2.1),(7,q k.1),(5,.d 5 0 (k.2.2.map q).length)],[(5,.n 1 3<|k.2.2.map q)],[]⟩) (λk=>k.2.1<=1/\k.2.2.length=k.1/\k.2.2++aY (E/10000^k.1+W/10000^k.1+k.2.1)=aY (E+W)) (λk=>(aY<|E+W).length-k.1) (0,0,[]) (λ⟨H,t,out⟩ ap=>?_) ⟨aj,rfl,af⟩ .r;dsimp only at ap⊢;have G:=S8 ap.2.2;let⟨C,o,ap⟩:=ap;have c:=tE (Y:=E) (H:=H);have e:=tE (Y:=W) (H:=H);have u:=w1 E H;have x:=w1 W H;generalize l:E/10000^H=a at ap c u;generalize m:W/10000^H=b at ap e x;refine dD ?_;refine dD ?_;apply j<;>intro g
 .have A:0<a+b+t:=by rcases g with(w|w)|w;have:=CT.1 (show H<(aY E).length by omega);rw[l] at this;omega;have:=CT.1 (show H<(aY W).length by omega);rw[m] at this;omega;omega
  have I:H<(aY (E+W)).length:=by rw[<-ap,c_,tF A,o];simp
  apply j<;>intro D
  focus have h:=vg (Y:=E) (H:=H) v;rw[l] at h;refine aJ H _ ?_ (p:=kB v);refine aL ?_
  rotate_left
  focus have h:=c v
  all_goals
   apply j<;>intro F
   focus have i:=vg (Y:=W) (H:=H) v;rw[m] at i;refine aJ H _ ?_ (p:=kB v);refine aL ?_
   rotate_left
   focus have i:=e v
   all_goals refine Il (t+a%10000+b%10000) 10000 ?_;refine dv ?_;refine eR ((out++[(t+a%10000+b%10000)%10000]).map q) ?_ (aG:=by simp[q]) (bq:=aK);refine Bo (t+a%10000+b%10000) 10000 ?_;refine aL ?_;exact aB (H+1,(t+a%10000+b%10000)/10000,out++[(t+a%10000+b%10000)%10000]) ⟨uQ,by simp[o],by dsimp only;rw[u,x,<-ap,tF (Y:=a+b+t) v,ge];congr 1;rw[show(a+b+t)%10000=(t+a%10000+b%10000)%10000 by omega,show(a+b+t)/10000=a/10000+b/10000+(t+a%10000+b%10000)/10000 by omega];rfl⟩ uQ .r
 refine gB 5 ?_;exact ae (w:=by
  have dJ:a+b+t=0:=by rw[c λw=>g<|.inl<|.inl v,e λw=>g<|.inl<|.inr v];omega
  rw[dJ,nk,gf] at ap;rw[cO,<-ap];rfl)
def E0(N:List Nat)(Y:Nat)(b:N.length<=1048576)(a:∀M∈N,M<10000)(c:fP N=Y):aA 238 [e9 N] (e9 (aY Y)):=by have:=arO N b;rwa [aa0 N a,c] at this
def NA(N:List Nat):(N.map q).length=N.length:=aS _
def PI(E W:Nat)(O:W<=E)(ad:(aY E).length<=100000):aA 184 [e9 (aY E),e9 (aY W)] (e9 (aY (E-W))):=by
 refine aX func184 [] λs Q=>?_;have ag:((aY E).map q).length=(aY E).length:=aS _;have ah:((aY W).map q).length=(aY W).length:=aS _;refine ja (aY E).length (aY E).length ((List.replicate (aY E).length 0).map q) ?_ (aG:=uP);refine cQ (Nat×Nat×List Nat) (λk=>⟨[(0,_),(1,_),(6,q k.2.1),(7,q k.1),(5,.d 11 0 (aY E).length)],[(11,.n 1 3<|k.2.2.map q)],[]⟩) (λk=>k.1<=(aY E).length/\k.2.1<=1/\k.2.2.length=(aY E).length/\(∀M∈k.2.2,M<10000)/\(∀l,k.1<=l->l<(aY E).length->k.2.2[l]?=some 0)/\fP k.2.2+E/10000^k.1*10000^k.1=E-W+(W/10000^k.1+k.2.1)*10000^k.1) (λk=>(aY E).length-k.1) (0,0,List.replicate (aY E).length 0) (λ⟨H,t,a⟩ ap=>?_) ⟨c1 _,c1 _,af,λM P=>by rw[uJ P];omega,λl _ w=>by rw[wq,ab w],by simp[PU];omega⟩ .r;dsimp only at ap⊢;let⟨X,R,B,A,u,h⟩:=ap;have L:=tE (Y:=W) (H:=H);have C:=w1 E H;have D:=w1 W H;have K:10000^(H+1)=10000^H*10000:=oC ..;generalize G:E/10000^H=e at h C;generalize I:W/10000^H=b at h L D;apply j<;>intro S
 .have N:=vg (Y:=E) (H:=H) v;rw[G] at N;refine aJ H _ ?_ (p:=kB v);refine g1 ?_;apply j<;>intro T
  focus have F:=vg (Y:=W) (H:=H) v;rw[I] at F;refine aJ H _ ?_ (p:=kB v);refine g1 ?_
  rotate_left
  focus have F:=L v
  all_goals
   apply j<;>intro U
   .refine aL ?_;refine cz H ?_;refine fl ((a.set H<|(10000+e%10000-b%10000-t)%10000).map q) (q 0) (.int .i64 _) ?_ (p:=by rw[ch,u H (a1 _) v];rfl) (aG:=by rw[gN];simp only[q];congr 2;omega);refine aL ?_;exact aB (H+1,1,a.set H<|(10000+e%10000-b%10000-t)%10000) ⟨uQ,uQ,by simp[B],H7 A v,λl o g=>by
     dsimp only at o⊢;rw[abZ v];exact u l v g,by
     dsimp only;rw[C,D,K];have J:∀Z m:Nat,e+(b/10000+m)*10000=b+t+e/10000*10000+Z->fP (a.set H Z)=fP a+Z*10000^H->fP (a.set H Z)+e/10000*(10000^H*10000)=E-W+(b/10000+m)*(10000^H*10000):=λZ m g y=>by rw[y];generalize 10000^H=x at h;have z:=cW (·*x) g;simp only[gg,nO] at z h⊢;rw[jk x 10000];omega
     refine J _ _ v ?_;simpa using E9 a H _ 0 (u H (a1 _) v)⟩ uQ .r
   refine cz H ?_;refine fl ((a.set H<|(10000+e%10000-b%10000-t)%10000).map q) (q 0) (.int .i64 _) ?_ (p:=by rw[ch,u H (a1 _) v];rfl) (aG:=by rw[gN];simp only[q];congr 2;omega);refine aL ?_;exact aB (H+1,0,a.set H<|(10000+e%10000-b%10000-t)%10000) ⟨uQ,uQ,by simp[B],H7 A v,λl o g=>by
    dsimp only at o⊢;rw[abZ v];exact u l v g,by
    dsimp only;rw[C,D,K];have J:∀Z m:Nat,e+(b/10000+m)*10000=b+t+e/10000*10000+Z->fP (a.set H Z)=fP a+Z*10000^H->fP (a.set H Z)+e/10000*(10000^H*10000)=E-W+(b/10000+m)*(10000^H*10000):=λZ m g y=>by rw[y];generalize 10000^H=x at h;have z:=cW (·*x) g;simp only[gg,nO] at z h⊢;rw[jk x 10000];omega
    refine J _ _ v ?_;simpa using E9 a H _ 0 (u H (a1 _) v)⟩ uQ .r
 refine Bu 11 (aY E).length (by rw[NA,B]) ?_;refine az ?_ (i:=E0 a (E-W) v A (by
  obtain rfl:H=(aY E).length:=by omega
  have o:=tE (Y:=E)<|tc _;have g:=Nat.div_le_div_right (c:=10000^(aY E).length) O;have y:=aso A;rw[G] at o g;rw[I] at g;rw[B] at y;have z:b=0:=by omega
  rw[o,z] at h;rcases(show t=0\/t=1 by omega) with rfl|rfl;simpa using h;simp only[wx,kk,td] at h;omega))
 exact ae
def akY{E W H N:Nat}(a0:W<10000^N):E%10000^(H+1)*W<10000^(H+1+N):=by rw[m8 _ _ N];let a:E%10000^(H+1)<10000^(H+1):=pn _ aM;simp_all[aco,tb,mr]
def ak0{U e P t c B Y a b:Nat}(i:e+P*a=U+Y%10000*a)(j:Y=P+t+c*(b%10000)):e+Y/10000*(a*10000)+c*(b/10000)*(a*10000)=U+t*a+c*b*a:=by let g:=ta Y 10000;let h:=ta b 10000;grind
def xz(E W:Nat)(al:(aY E).length<=50000)(am:(aY W).length<=50000):aA 178 [e9 (aY E),e9 (aY W)] (e9 (aY (E*W))):=by
 refine aX func178 [] λs J=>?_;have an:((aY E).map q).length=(aY E).length:=aS _;have ao:((aY W).map q).length=(aY W).length:=aS _;generalize S:(aY E).length+(aY W).length=c;refine aL ?_;refine ja c c ((List.replicate c 0).map q) ?_ (aG:=uP);refine cQ (Nat×List Nat) (λk=>⟨[(0,_),(1,_),(6,q k.1),(5,.d 15 0 c)],[(15,.n 1 3<|k.2.map q)],[]⟩) (λk=>k.1<=(aY E).length/\k.2.length=c/\(∀M∈k.2,M<10000)/\fP k.2=E%10000^k.1*W) (λk=>(aY E).length-k.1) (0,List.replicate c 0) (λ⟨H,l⟩ ap=>?_) ⟨c1 _,af,λM ah=>b,by simp[PU,Nat.mod_one]⟩ .r;dsimp only at ap⊢;let⟨ai,y,x,O⟩:=ap;apply j<;>intro Z
 .have C:=vg (Y:=E) (H:=H) v;have J:=akY (E:=E) (H:=H)<|wY W;have U:E%10000^(H+1)*W=fP l+E/10000^H%10000*W*10000^H:=by rw[Nat.mod_pow_succ,O,gg,jk<|10000^H,nO,nO,jk (10000^H) W]
  generalize R:E/10000^H%10000=h at*;refine cQ (Nat×Nat×List Nat) (λB=>⟨[(0,_),(1,_),(6,_),(7,q B.2.1),(8,q B.1),(5,.d 15 0 c)],[(15,.n 1 3<|B.2.2.map q)],[]⟩) (λB=>B.2.1<10000/\B.1<=(aY W).length+1/\B.2.2.length=c/\(∀M∈B.2.2,M<10000)/\fP B.2.2+B.2.1*10000^(H+B.1)+h*(W/10000^B.1)*10000^(H+B.1)=E%10000^(H+1)*W) (λB=>(aY W).length+1-B.1) (0,0,l) (λ⟨F,t,a⟩ aG=>?_) ⟨af,v,y,x,aM⟩ .r;dsimp only at aG⊢;let⟨ag,ak,L,o,P⟩:=aG;refine dD ?_;apply j<;>intro u
  .have aj:F<=(aY W).length:=by
    rcases gh (aY W).length F with w|w;exfalso;have K:1<=t:=by rcases u with D|D<;>omega
    have Q:1*10000^(H+F)<=t*10000^(H+F):=hA _ K;grind;exact w
   have z:H+F<a.length:=v;have N:a[H+F]?=some a[H+F]:=bw z;have aq:a[H+F]<10000:=o _<|fG z;obtain⟨c4,g⟩:∃c4,c4=h*(W/10000^F%10000):=⟨_,rfl⟩;have T:c4<=9999*9999:=by rw[g];exact yj v v
   obtain⟨e,I⟩:∃e,e=a[H+F]+t+c4:=⟨_,rfl⟩;have G:e=a[H+F]+t+h*(W/10000^F%10000):=by rw[I,g]
   refine aL ?_;refine cz (H+F) ?_;refine ft (q a[H+F]) ?_ (p:=aM);refine aL ?_;apply j<;>intro ad
   focus
    have m:=vg (Y:=W) (H:=F) v;have A:(aY E)[H]*(aY W)[F]=c4:=by rw[g,C,m]
    refine c7 ?_;refine aJ _ _ ?_ (p:=kB v);refine aJ _ _ ?_ (p:=kB v);refine xC (c4:Int) ?_ (w:=v);refine aL ?_
   rotate_left
   focus have m:=tE (Y:=W) (H:=F) v;have A:c4=0:=by rw[g,m];simp
   all_goals refine aL ?_;refine Il e 10000 ?_;refine cz (H+F) ?_;refine fl ((a.set (H+F)<|e%10000).map q) (q a[H+F]) (.int .i64 _) ?_ (p:=aM) (aG:=by rw[gN];rfl);refine Bo e 10000 ?_;refine aL ?_;exact aB (F+1,e/10000,a.set (H+F)<|e%10000) ⟨aK,v,aM,H7 o v,by dsimp only;rw[w1,show H+(F+1)=H+F+1 by omega,oC 10000 (H+F),<-P];exact ak0 (B:=0) (E9 a (H+F) (e%10000) _ N) G⟩ v .r
  refine aL ?_;exact aB (H+1,a) ⟨v,L,o,by dsimp only;have X:=tE (Y:=W) (H:=F) λw=>u<|.inl v;grind⟩ v .r
 refine Bu 15 c (by rw[NA,y]) ?_;refine az ?_ (i:=E0 l (E*W) v x (by grind[Nat.mod_eq_of_lt,wY]));exact ae
def aae(E Y:Nat)(a:(aY E).length<=50000)(b:Y<9223372036854775808):aA 239 [e9 (aY E),q Y] (e9 (aY (E*Y))):=by refine aX func239 [] λs c=>?_;refine az (i:=qJ Y b)<|az ?_ (i:=xz E Y a<|cA (mC (F:=5) v) v);exact ae
def ait{N:List Nat}:∀M∈N.map q,M.cells.length=1:=λM a=>by obtain⟨Z,_,rfl⟩:=b4.1 a;rfl
def GN(E W:Nat)(a0:0<W)(am:(aY E).length<=5000)(u:(aY W).length<=5000):aA 186 [e9 (aY E),e9 (aY W)] (.tuple [e9 (aY (E/W)),e9 (aY (E%W))]):=by
 refine aX func186 [] λs O=>?_;let S:((aY E).map q).length=(aY E).length:=aS _;refine ja (aY E).length (aY E).length ((List.replicate (aY E).length 0).map q) ?_ (aG:=uP);refine g1 ?_;refine ay.qs 1 [7] ?_;refine cQ (Nat×List Nat×Nat) (λk=>⟨[(0,_),(1,_),(7,e9<|aY k.2.2),(8,.int .i64 ((k.1:Nat)-1:Int)),(6,.d 14 0 (aY E).length)],[(14,.n 1 3<|k.2.1.map q)],[]⟩) (λk=>k.1<=(aY E).length/\k.2.1.length=(aY E).length/\(∀M∈k.2.1,M<10000)/\(∀F,F<k.1->k.2.1[F]?=some 0)/\fP k.2.1=E/10000^k.1/W*10000^k.1/\k.2.2=E/10000^k.1%W) (λk=>k.1) (((aY E).map q).length,List.replicate (aY E).length 0,0) (λ⟨a,l,x⟩ ap=>?_) ⟨KG S,af,λM m=>b,λa w=>b,by simp[tE,tc,PU],by simp[tE,tc,Nat.zero_mod]⟩ ⟨⟨rfl,rfl,(by dsimp only;rw[nk];rfl),rfl,rfl,trivial⟩,⟨rfl,trivial⟩,rfl,rfl⟩;dsimp only at ap⊢;let⟨ak,Q,I,P,X,o⟩:=ap;apply j<;>intro ah
 .let aj:0<a:=v;let R:a-1<(aY E).length:=v;let K:=vg (Y:=E) (H:=a-1) R;let y:E/10000^a=E/10000^(a-1)/10000:=by obtain⟨F,rfl⟩:∃F,a=F+1:=⟨a-1,v⟩;exact w1 E F
  let ad:10000^a=10000^(a-1)*10000:=by obtain⟨F,rfl⟩:∃F,a=F+1:=⟨a-1,v⟩;exact oC ..
  obtain⟨g,t⟩:∃g,g=E/10000^(a-1):=⟨_,rfl⟩;rw[<-t] at K y;obtain⟨e,O⟩:∃e,e=g%10000+10000*(g/10000%W):=⟨_,rfl⟩;let C:g=e+W*(g/10000/W*10000):=by
   let z:=ta g 10000;let L:=ta (g/10000) W;let Z:W*(g/10000/W*10000)=10000*(W*(g/10000/W)):=by rw[<-nO,jk]
   omega
  let D:e<W*10000:=by let z:=pn (g/10000) a0;let L:=pn g (show 0<10000 by omega);omega
  obtain⟨A,h⟩:∃A,A=e/W:=⟨_,rfl⟩;let aI:A<10000:=by rw[h];exact Nat.div_lt_of_lt_mul D
  let T:W*A<=e:=by rw[h];exact Nat.mul_div_le e W
  let aq:E/10000^(a-1)/W=g/10000/W*10000+A:=by
   rw[<-t,h]
   conv=>lhs;rw[C]
   rw[Nat.add_mul_div_left _ _ a0,s_]
  let U:e-W*A=E/10000^(a-1)%W:=by
   rw[<-t,h]
   conv=>rhs;rw[C]
   rw[Nat.add_mul_mod_self_left];have:=ta e W;omega
  let ag:(aY e).length<=5002:=by refine cA (sj<|tb D) ?_;exact cA (AH (N:=2) u<|mC v) v
  rw[y] at X o;let av:(aY x).length<=5000:=by rw[o];exact cA (sj<|tb<|pn _ a0) u
  refine aJ (a-1) _ ?_ (p:=kB v);refine og ?_;refine eR (((aY E)[a-1]::aY x).map q) ?_ (fC:=.f rfl rfl rfl rfl ait) (bq:=aM);refine Bt 26 ?_;refine az ?_ (i:=E0 ((aY E)[a-1]::aY x) e aM (by intro M m;rcases eT.1 m with rfl|m;omega;exact ags _ M m) (by grind[fP,asn]));refine cQ (Nat×Nat) (λB=>⟨[(0,_),(1,_),(7,_),(8,_),(9,q B.1),(10,q B.2),(6,.d 14 0 (aY E).length)],[(14,.n 1 3<|l.map q)],[]⟩) (λB=>B.1<=A/\A<=B.2/\B.2<=9999) (λB=>B.2-B.1) (0,9999) (λ⟨c,p⟩ aG=>?_) ⟨c1 _,v,a1 _⟩ .r;dsimp only at aG⊢;apply j<;>intro ai
  .refine aL ?_;refine aL ?_;refine Bo (c+p+1) 2 ?_;refine az ?_ (i:=aae W ((c+p+1)/2) v v);refine az ?_ (i:=LU (W*((c+p+1)/2)) e (cA (AH (N:=2) u<|mC v) v) v);apply j<;>intro G
   .let an:W*((c+p+1)/2)<=e:=by revert G;generalize W*((c+p+1)/2)=J;split;omega;omega
    exact aB ((c+p+1)/2,p) ⟨by dsimp only;rw[h];exact(Nat.le_div_iff_mul_le a0).2 aM,aG.2.1,aG.2.2⟩ v .r
   let ao:A<(c+p+1)/2:=by rw[h];refine(Fw a0).2 ?_;rw[jk];revert G;generalize W*((c+p+1)/2)=J;split;omega;omega
   refine ia (((c+p+1)/2-1:Nat):Int) ?_;exact aB (c,(c+p+1)/2-1) ⟨aG.1,v,v⟩ v .r
  obtain rfl:c=A:=v;refine cz (a-1) ?_;refine fl ((l.set (a-1) c).map q) (q 0) (.int .i64 _) ?_ (p:=aM) (aG:=by rw[gN];rfl);refine az ?_ (i:=aae W c v v);refine az ?_ (i:=PI e (W*c) T v);refine ia (((a-1:Nat):Int)-1) ?_;exact aB (a-1,l.set (a-1) c,e-W*c) ⟨v,aM,H7 I aI,λF al=>by grind,by dsimp only;let z:=E9 l (a-1) c 0<|P (a-1) v;grind,U⟩ v .r
 refine Bu 14 (aY E).length (by rw[NA,Q]) ?_;refine az ?_ (i:=E0 l (E/W) v I (by grind));exact ae (w:=by
  obtain rfl:a=0:=by omega
  rw[Nat.pow_zero,Fx] at o;rw[o];rfl)
def I7{E F Y:Nat}(w:(aY E).length<=F):(aY (E^Y)).length<=F*Y+1:=by refine mC ?_;let a:=h3 (wY E)<|m9 v w;let b:E^Y<=(10000^F)^Y:=Nat.pow_le_pow_left v Y;grind[Nat.pow_mul,Nat.lt_of_le_of_lt,Nat.pow_lt_pow_right]
def ahO(E W:Nat)(e:(aY E).length<=5000)(g:(aY W).length<=5000):aA 237 [e9 (aY E),e9 (aY W)] (e9 (aY (Nat.gcd E W))):=by
 refine aX func237 [] λs b=>?_;refine cQ (Nat×Nat) (λk=>⟨[(0,e9<|aY k.1),(1,e9<|aY k.2)],[],[]⟩) (λk=>Nat.gcd k.1 k.2=Nat.gcd E W/\(aY k.1).length<=5000/\(aY k.2).length<=5000) (λk=>k.2) (E,W) λ⟨Z,B⟩ ap=>?_;apply j<;>intro c
 .let a:0<B:=by rcases lM B with rfl|w;grind[nk];exact w
  refine az ?_ (i:=GN Z B a ap.2.1 ap.2.2);exact aB (B,Z%B) ⟨by grind[Nat.gcd_comm,Nat.gcd_rec],ap.2.2,cA (sj<|tb<|pn _ a) ap.2.2⟩<|pn _ a
 exact ae (w:=by
  let a:B=0:=by rcases lM B with w|w;exact w;grind[aY,yQ,List.eq_nil_of_length_eq_zero]
  grind[Nat.gcd_zero_right,cO])
def Yz(Y:Nat)(r:Y<=64):aA 180 [e9 (aY 10),q Y] (e9 (aY (10^Y))):=by
 refine aX func180 [] λs h=>?_;refine az (i:=qJ 1 v)<|cQ (Nat×Nat×Nat) (λk=>⟨[(0,e9<|aY<|10^k.2.1),(1,q k.2.2),(5,e9<|aY k.1)],[],[]⟩) (λk=>k.1*(10^k.2.1)^k.2.2=10^Y/\k.2.1<=128/\k.2.1*k.2.2<=64/\0<k.2.1) (λk=>k.2.2) (1,1,Y) (λ⟨P,J,F⟩ ap=>?_) ⟨af,af,aK,af⟩;dsimp only at ap⊢;apply j<;>intro m
 .let he:J<=64:=by have:J*1<=J*F:=Ck _ v;omega
  let p:F<=64:=by have:1*F<=J*F:=hA _ v;omega
  let b:(J+J)*(F/2)<=64:=by
   let c:(J+J)*(F/2)=J*(2*(F/2)):=by rw[<-Nat.mul_two,nO]
   let g:J*(2*(F/2))<=J*F:=Ck _ v;omega
  let a:(aY 10).length<=1:=mC aj;let o:(aY<|10^J).length<=129:=cA (I7 (Y:=J) a) v;let e:P<=10^Y:=by rw[<-ap.1];exact KF _<|mr<|mr v
  let t:(aY P).length<=129:=cA (sj e)<|cA (I7 (Y:=Y) a) v;refine Il F 2 ?_;apply j<;>intro l
  .refine az (i:=xz P (10^J) v v)<|az (i:=by have:=xz (10^J) (10^J) v v;rw[<-m8] at this;exact this)<|Bo F 2<|aB (P*10^J,J+J,F/2) ⟨by rw[<-ap.1,nO,<-KJ,<-KJ,<-m8]<;>grind,aK,b,aK⟩ aK
  refine az (i:=by have:=xz (10^J) (10^J) v v;rw[<-m8] at this;exact this)<|Bo F 2<|aB (P,J+J,F/2) ⟨by
   rw[<-ap.1,<-KJ,<-KJ];let c:F=2*(F/2):=by omega
   grind,aK,b,aK⟩ aK
 exact ae (w:=by simp_all[Nat.pow_zero,wv,cO])
def h7(x:m_):V:=.agg [.bool x.neg,e9<|aY x.num,e9<|aY x.cn]
def vI(o:Bool)(num a:Nat)(h:0<a)(m:(aY num).length<=5000)(e:(aY a).length<=5000):aA 177 [.bool o,e9 (aY num),e9 (aY a)] (h7 (k2 o num a)):=by
 refine aX func177 [] λs q=>?_;let p:(aY 1).length<=1:=mC aj;let c:0<Nat.gcd num a:=KE _ h;let l:(aY<|Nat.gcd num a).length<=5000:=cA (sj<|Nat.le_of_dvd h<|Fy _ _) e;apply j<;>intro r
 .let b:num=0:=by rcases lM num with w|w;exact w;grind[aY,yQ,List.eq_nil_of_length_eq_zero]
  refine az ?_ (i:=qJ 1 v);exact fA 1 6 [1]<|cu aZ (w:=by rw[cO,k2,ab b,h7,nk];rfl)
 let b:num≠0:=λw=>by grind[nk]
 refine az (i:=ahO num a m e)<|az (i:=qJ 1 v)<|az ?_ (i:=LU (Nat.gcd num a) 1 v v);apply j<;>intro g
 .let k:1<Nat.gcd num a:=by revert g;split;omega;omega
  refine az ?_ (i:=GN num (Nat.gcd num a) c m l);refine az ?_ (i:=GN a (Nat.gcd num a) c e l);exact cu aZ (w:=by rw[cO,k2,aa b];rfl)
 let k:Nat.gcd num a=1:=by revert g c;split;omega;omega
 exact cu aZ (w:=by rw[cO,k2,aa b,k,Fx,Fx];rfl)
def am9(k:Int)(M:Nat)(l:-1000000000000000000<k)(m:k<1000000000000000000)(a:0<M)(h:M<1000000000000000000):aA 185 [.int .i64 k,q M] (h7 (k2 (decide (k<0)) k.natAbs M)):=by
 refine aX func185 [] λs e=>?_;let b:(aY k.natAbs).length<=5000:=cA (mC (F:=5) v) v;let c:(aY M).length<=5000:=cA (mC (F:=5) v) v;apply j<;>intro g
 .refine W9 (k.natAbs:Int)<|az (i:=qJ k.natAbs v)<|az (i:=qJ M v)<|az ?_ (i:=vI true k.natAbs M a b c);exact cu aZ (w:=by rw[oD v];rfl)
 refine az (i:=by have:=qJ k.natAbs v;rw[q,show((k.natAbs:Nat):Int)=k by omega] at this;exact this)<|az (i:=qJ M v)<|az ?_ (i:=vI false k.natAbs M a b c);exact cu aZ (w:=by rw[FK v];rfl)
def CX{k:Int}{F:Nat}(w:(aY k.natAbs).length<=F)(a:8<=F):(aY (bO k).num).length<=F/\(aY (bO k).cn).length<=8:=⟨cA (sj (by unfold bO k2;split;simp;simp[KD])) w,cA (sj<|agD k)<|mC aj⟩
def o1(k:Int):Prop:=(aY k.natAbs).length<=200
def akU{k:Int}(w:k.natAbs<10000^100):o1 k:=cA (mC w) v
def PX:aA 122 [q 1] (h7 (bO bA)):=by refine aX func122 [] λs a=>?_;refine az ?_ (i:=by have:=am9 1 1 aj aj aj aj;exact this);exact cu aZ
def aqq(x:m_):aA 117 [h7 x] (.int .i64 (BX x)):=by
 refine aX func117 [] λs b=>?_;apply j<;>intro c
 .let dJ:x.num=0:=by rcases lM _ with w|w;exact w;grind[aY,yQ,List.eq_nil_of_length_eq_zero]
  exact ae (w:=by rw[cO,BX,ab dJ];rfl)
 let dJ:x.num≠0:=λw=>by grind[nk]
 apply j<;>intro a
 .exact ae (w:=by rw[cO,BX,aa dJ,ab a];rfl)
 exact ae (w:=by rw[cO,BX,aa dJ,aa a];rfl)
def N0(x:m_):aA 176 [h7 x] (h7 (DM x)):=by
 refine aX func176 [] λs a=>?_;apply j<;>intro b
 .let dJ:x.num≠0:=λw=>by grind[nk]
  exact cu aZ (w:=by rw[cO,DM,aa dJ];rfl)
 let dJ:x.num=0:=by rcases lM _ with w|w;exact w;grind[aY,yQ,List.eq_nil_of_length_eq_zero]
 exact cu aZ (w:=by rw[cO,DM,ab dJ];rfl)
theorem Yw(x a:m_)(o:0<x.cn)(p:0<a.cn)(l:(aY x.num).length<=300)(g:(aY x.cn).length<=300)(m:(aY a.num).length<=300)(h:(aY a.cn).length<=300):aA 121 [h7 x,h7 a] (h7 (BH x a)):=by
 refine aX func121 [] λs t=>?_;let e:0<x.cn*a.cn:=ww o p;let q:=AH l h;let r:=AH m g;let u:=AH g h;let y:=L4 (E:=x.num*a.cn) (W:=a.num*x.cn) q r;refine c7 ?_;refine bT ?_ (i:=xz x.num a.cn v v);refine bT ?_ (i:=xz a.num x.cn v v);refine bT ?_ (i:=xz x.cn a.cn v v);refine If ?_;apply j<;>intro c
 .refine dC ?_;refine a_ (λ_=>bT rfl (i:=Rf (x.num*a.cn) (a.num*x.cn) v v)) ?_;refine a_ (λ_=>bT rfl (i:=vI x.neg (x.num*a.cn+a.num*x.cn) (x.cn*a.cn) e v v)) ?_;refine eJ ?_;refine fm ?_;exact cu aZ (w:=by rw[cO,BH,ab c];rfl)
 refine az ?_ (i:=LU (x.num*a.cn) (a.num*x.cn) v v);apply j<;>intro k
 .let b:a.num*x.cn<=x.num*a.cn:=by revert k;split;omega;omega
  refine dC ?_;refine a_ (λ_=>bT rfl (i:=PI (x.num*a.cn) (a.num*x.cn) b v)) ?_;refine a_ (λ_=>bT rfl (i:=vI x.neg (x.num*a.cn-a.num*x.cn) (x.cn*a.cn) e (cA (sj<|Nat.sub_le _ _) v) v)) ?_;refine eJ ?_;refine fm ?_;exact cu aZ (w:=by rw[cO,BH,aa c,ab b];rfl)
 let b:¬a.num*x.cn<=x.num*a.cn:=by revert k;split;omega;omega
 refine dC ?_;refine a_ (λ_=>bT rfl (i:=PI (a.num*x.cn) (x.num*a.cn) v v)) ?_;refine a_ (λ_=>bT rfl (i:=vI a.neg (a.num*x.cn-x.num*a.cn) (x.cn*a.cn) e (cA (sj<|Nat.sub_le _ _) v) v)) ?_;refine eJ ?_;refine fm ?_;exact cu aZ (w:=by rw[cO,BH,aa c,aa b];rfl)
def NB(Z B:Int)(a:o1 Z)(b:o1 B):aA 118 [h7 (bO Z),h7 (bO B)] (h7 (bO (Z-B))):=by refine aX func118 [] λs g=>?_;let⟨bu,cG⟩:=CX (k:=Z) (F:=200) a v;let⟨c,e⟩:=CX (k:=-B) (F:=200) (by rw[Int.natAbs_neg];exact b) v;refine dC ?_;refine a_ (λ_=>bT rfl (i:=by have:=N0<|bO B;rw[NZ] at this;exact this)) ?_;refine a_ (λ_=>bT rfl (i:=by have:=Yw (bO Z) (bO<|-B) (vj Z) (vj _) v v v v;rw[Yv,<-Int.sub_eq_add_neg] at this;exact this)) ?_;refine eJ<|fm ?_;exact cu aZ
def ami(Z B:Int)(a:o1 Z)(b:o1 B):aA 80 [h7 (bO Z),h7 (bO B)] (.int .i64 (ex (Z-B))):=by refine aX func80 [] λs c=>?_;refine az (i:=NB Z B a b)<|az ?_ (i:=by have:=aqq<|bO<|Z-B;rw[aqp] at this;exact this);exact ae
def anx(Z B:Int)(a:o1 Z)(b:o1 B):aA 121 [h7 (bO Z),h7 (bO B)] (h7 (bO (Z+B))):=by let⟨bu,cG⟩:=CX a v;let⟨c,e⟩:=CX b v;grind[Yw,bO,vj,Yv]
structure hM where
 inf:Bool
 op:Bool
 z:Int
def hM.G(J:hM):m_:=if J.inf then⟨false,0,0⟩ else bO J.z
def hM.De{J:hM}(w:J.inf=false):J.G=bO J.z:=by simp_all[hM.G,aa]
structure jm where
 low:hM
 high:hM
 nM:Bool
def cI(k:Int):Int:=k/(bA:Int)*bA
def kt(k:Int):Int:=-cI (-k)
def l_(O:jm):Bool:=if(O.low.inf||O.high.inf) then false else decide (O.high.z<O.low.z)||decide (O.low.z=O.high.z)&&(O.low.op||O.high.op)
def ql(J:hM):hM:=if J.inf then J else⟨false,false,if J.op/\kt J.z=J.z then kt J.z+bA else kt J.z⟩
def lX(J:hM):hM:=if J.inf then J else⟨false,false,if J.op/\cI J.z=J.z then cI J.z-bA else cI J.z⟩
def ty(O:jm):jm:=⟨ql O.low,lX O.high,true⟩
def wG(F:Nat):Nat:=10^100+F*10^31
def md(F:Nat)(k:Int):Prop:=k.natAbs<=wG F
def hM.md(F:Nat)(J:hM):Prop:=ey.md F J.z
def jm.md(F:Nat)(O:jm):Prop:=O.low.md F/\O.high.md F
def QL{E W:Nat}(w:E<=W):wG E<=wG W:=Ky (hA _ w) _
def xw{E W:Nat}{k:Int}(w:E<=W)(F:md E k):md W k:=cA F<|QL w
def jm.xw{E W:Nat}{O:jm}(w:E<=W)(F:O.md E):O.md W:=⟨ey.xw w F.1,ey.xw w F.2⟩
theorem K1(F:Nat):wG (F+1)=wG F+10*bA:=by(simp[wG,bA,gg,td];omega)
def w_(k:Int):cI k<=k/\k<cI k+bA:=by
 unfold cI
 (simp[Int.emod_nonneg,bA,abS,Ki];omega)
def H4{F:Nat}{k:Int}(w:md F k):md (F+1) (cI k):=by unfold md at*;rw[K1];have:=w_ k;omega
def WI{F:Nat}{k:Int}(w:md F k):md F (-k):=by grind[md,Int.natAbs_neg]
def NT{F:Nat}{k:Int}(w:md F k):md (F+1) (kt k):=WI<|H4<|WI w
def akC{F:Nat}{k:Int}(w:md F k):md (F+1) (k+bA):=by grind[md,K1]
def akD{F:Nat}{k:Int}(w:md F k):md (F+1) (k-bA):=by grind[md,K1]
theorem akB:md 0 bA:=by simp[md,wG,bA]
def afp{F:Nat}{J:hM}(w:J.md F):(ql J).md (F+2):=by unfold ql;split;exact xw v w;split;exact akC<|NT w;exact xw v<|NT w
def afm{F:Nat}{J:hM}(w:J.md F):(lX J).md (F+2):=by unfold lX;split;exact xw v w;split;exact akD<|H4 w;exact xw v<|H4 w
def afs{F:Nat}{O:jm}(w:O.md F):(ty O).md (F+2):=⟨afp w.1,afm w.2⟩
def zj{F:Nat}{k:Int}(w:md F k)(a:F<=1000):o1 k:=by refine akU<|FA w<|FA (QL a) ?_;decide+kernel
def Ts(J:hM):V:=.agg [.bool J.inf,.bool J.op,.bool J.G.neg,e9<|aY J.G.num,e9<|aY J.G.cn]
def GZ(O:jm):V:=.agg [.bool O.low.inf,.bool O.low.op,.bool O.low.G.neg,e9<|aY O.low.G.num,e9<|aY O.low.G.cn,.bool O.high.inf,.bool O.high.op,.bool O.high.G.neg,e9<|aY O.high.G.num,e9<|aY O.high.G.cn,.bool O.nM]
structure jE where
 has:Bool
 op:Bool
 n:ba
structure eP where
 low:jE
 high:jE
 nM:Bool
def AJ(W:jE):V:=.agg [.bool W.has,.bool W.op,.bool W.n.neg,.str W.n.a9,.int .i64 W.n.exp]
def qq(O:eP):V:=.agg [.bool O.low.has,.bool O.low.op,.bool O.low.n.neg,.str O.low.n.a9,.int .i64 O.low.n.exp,.bool O.high.has,.bool O.high.op,.bool O.high.n.neg,.str O.high.n.a9,.int .i64 O.high.n.exp,.bool O.nM]
def IN{x a:m_}{Z B:Int}(b:x=bO Z)(c:a=bO B)(e:o1 Z)(g:o1 B):aA 80 [h7 x,h7 a] (.int .i64 (ex (Z-B))):=by subst b c;exact ami Z B e g
theorem JE{k:Int}:0<ex k↔0<k:=by unfold ex;split;omega;split<;>omega
def aqg{k:Int}:ex k<0↔k<0:=by unfold ex;split;omega;split<;>omega
theorem zD{k:Int}:ex k=0↔k=0:=by unfold ex;split;omega;split<;>omega
def Tf(k:Int)(h:o1 k):aA 123 [h7 (bO k)] (h7 (bO (cI k))):=by
 refine aX func123 [] λs m=>?_;let⟨bu,cG⟩:=CX (k:=k) (F:=200) h v;let e:=vj k;let g:=cA (sj<|KD (bO k).num (bO k).cn) bu;let l:(aY 1).length<=1:=mC aj;let o:=L4 (F:=200) g (W:=1) v;let he:=agv k;refine az ?_ (i:=GN (bO k).num (bO k).cn e v v);refine fM ?_;apply j<;>intro c
 focus let a:(bO k).neg/\(bO k).num%(bO k).cn≠0:=⟨c.1,λw=>by have:=c.2;rw[w,nk] at this;simp at this⟩;rw[GO,ab a] at he;let b:=vI (bO k).neg ((bO k).num/(bO k).cn+1) 1 v v v;rw[he] at b;refine az ?_ (i:=qJ 1 v);refine az ?_ (i:=Rf ((bO k).num/(bO k).cn) 1 v v)
 rotate_left
 focus let a:¬((bO k).neg=true/\(bO k).num%(bO k).cn≠0):=λw=>c ⟨w.1,by have:(aY ((bO k).num%(bO k).cn)).length≠0:=λa=>w.2<|yQ.1<|lJ a;omega⟩;rw[GO,aa a] at he;let b:=vI (bO k).neg ((bO k).num/(bO k).cn) 1 v v v;rw[he] at b
 all_goals refine dC ?_;refine a_ (λ_=>bT rfl (i:=qJ 1 v)) ?_;refine a_ (λ_=>bT rfl (i:=b)) ?_;refine eJ ?_;refine fm ?_;exact cu aZ
def asb(k:Int)(b:o1 k):aA 120 [h7 (bO k)] (h7 (bO (kt k))):=by refine aX func120 [] λs a=>?_;refine az ?_ (i:=by have:=N0<|bO k;rw[NZ] at this;exact this);refine az ?_ (i:=Tf (-k) (by unfold o1 at*;rwa [Int.natAbs_neg]));refine az ?_ (i:=by have:=N0<|bO<|cI<|-k;rw[NZ] at this;exact this);exact cu aZ
def asa{x:m_}{Z:Int}(a:x=bO Z)(b:o1 Z):aA 120 [h7 x] (h7 (bO (kt Z))):=by subst a;exact asb Z b
def Te{x:m_}{Z:Int}(a:x=bO Z)(b:o1 Z):aA 123 [h7 x] (h7 (bO (cI Z))):=by subst a;exact Tf Z b
def Sv{k:Int}:(ex (kt k-k)=0)=(kt k=k):=by rw[zD];exact propext ⟨λw=>v,λw=>v⟩
def Gx{k:Int}:(ex (cI k-k)=0)=(cI k=k):=by rw[zD];exact propext ⟨λw=>v,λw=>v⟩
def afu(O:jm)(F:Nat)(C:F<=900)(k:O.md F):aA 82 [GZ O] (GZ (ty O)):=by
 refine aX func82 [] λs A=>?_;let u:=zj k.1 v;let l:=zj k.2 v;let x:=zj (NT k.1) v;let m:=zj (H4 k.2) v;let q:=zj akB v;apply j<;>intro r
 .let p:O.low.inf=false:=by simpa using r
  let t:=hM.De p;refine az ?_ (i:=asa t u);apply b2;intro B;refine bT ?_ (i:=IN rfl t x u);exact rfl;apply j<;>intro o
  focus
   let e:ql O.low=⟨false,false,kt O.low.z+bA⟩:=by rw[ql,aa (by simp[p]),ab ⟨o.1,by have:=o.2;rwa [Sv] at this⟩]
   refine dC ?_;refine a_ (λ_=>bT rfl (i:=PX)) ?_;refine a_ (λ_=>bT rfl (i:=anx _ _ x q)) ?_;refine eJ ?_;refine fm ?_
  rotate_left
  focus let e:ql O.low=⟨false,false,kt O.low.z⟩:=by rw[ql,aa (by simp[p]),aa λw=>o ⟨w.1,by rw[Sv];exact w.2⟩]
  all_goals
   apply j<;>intro g
   .let a:O.high.inf=false:=by simpa using g
    let h:=hM.De a;refine az ?_ (i:=Te h l);apply b2;intro y;refine bT ?_ (i:=IN rfl h m l);exact rfl;apply j<;>intro c
    focus
     let b:lX O.high=⟨false,false,cI O.high.z-bA⟩:=by rw[lX,aa (by simp[a]),ab ⟨c.1,by have:=c.2;rwa [Gx] at this⟩]
     refine dC ?_;refine a_ (λ_=>bT rfl (i:=PX)) ?_;refine a_ (λ_=>bT rfl (i:=NB _ _ m q)) ?_;refine eJ ?_;refine fm ?_
    rotate_left
    focus let b:lX O.high=⟨false,false,cI O.high.z⟩:=by rw[lX,aa (by simp[a]),aa λw=>c ⟨w.1,by rw[Gx];exact w.2⟩]
    all_goals exact cu aZ (w:=by rw[cO];unfold ty;rw[e,b];rfl)
   let a:O.high.inf:=by simpa using g
   let b:lX O.high=O.high:=by rw[lX,ab a]
   exact cu aZ (w:=by rw[cO];unfold ty;rw[e,b];rfl)
 let p:O.low.inf:=by simpa using r
 let e:ql O.low=O.low:=by rw[ql,ab p]
 apply j<;>intro g
 .let a:O.high.inf=false:=by simpa using g
  let h:=hM.De a;refine az ?_ (i:=Te h l);apply b2;intro y;refine bT ?_ (i:=IN rfl h m l);exact rfl;apply j<;>intro c
  focus
   let b:lX O.high=⟨false,false,cI O.high.z-bA⟩:=by rw[lX,aa (by simp[a]),ab ⟨c.1,by have:=c.2;rwa [Gx] at this⟩]
   refine dC ?_;refine a_ (λ_=>bT rfl (i:=PX)) ?_;refine a_ (λ_=>bT rfl (i:=NB _ _ m q)) ?_;refine eJ ?_;refine fm ?_
  rotate_left
  focus let b:lX O.high=⟨false,false,cI O.high.z⟩:=by rw[lX,aa (by simp[a]),aa λw=>c ⟨w.1,by rw[Gx];exact w.2⟩]
  all_goals exact cu aZ (w:=by rw[cO];unfold ty;rw[e,b];rfl)
 let a:O.high.inf:=by simpa using g
 let b:lX O.high=O.high:=by rw[lX,ab a]
 exact cu aZ (w:=by rw[cO];unfold ty;rw[e,b];rfl)
def alI(O:jm)(F:Nat)(h:F<=900)(a:O.md F):aA 51 [GZ O] (.bool (l_ O)):=by
 refine aX func51 [] λs c=>?_;refine dD ?_;apply j<;>intro b
 .exact ae (w:=by rw[cO,l_,ab aK];rfl)
 let p:=by simpa using b
 refine az ?_ (i:=IN (hM.De p.1) (hM.De p.2) (zj a.1 v)<|zj a.2 v);apply cs;intro e;apply b2;refineλg=>cs (λ_=>rfl)<|rfl;exact rfl;exact ae (w:=by rw[cO,l_,aa aM];show V.bool _=_;congr 1;grind[JE,zD])
def bC(N:List UInt8):Nat:=N.foldl (λY W=>10*Y+(W.toNat-48)) 0
theorem L1:∀(N:List UInt8)(Y:Nat),N.foldl (λY W=>10*Y+(W.toNat-48)) Y=Y*10^N.length+bC N|[],Y=>by simp[bC]|W::N,Y=>by let a:=L1 N<|10*Y+(W.toNat-48);let b:=L1 N<|10*0+(W.toNat-48);let J:bC (W::N)=N.foldl _ _:=rfl;grind
def yN(E W:List UInt8):bC (E++W)=bC E*10^W.length+bC W:=by grind[bC,L1]
theorem GH:bC []=0:=rfl
def SY(E:List UInt8)(W:UInt8):bC (E++[W])=10*bC E+(W.toNat-48):=by simp[bC,Km]
theorem AF:∀N:List UInt8,(∀W∈N,W.toNat<=57)->bC N<10^N.length
|[],_=>bB|W::N,w=>by
 let a:=w W af;let b:=AF N λZ e=>w Z aM;rw[show W::N=[W]++N from rfl,yN,c_,m8];let c:bC [W]*10^N.length<=9*10^N.length:=hA _ (by simp[bC];omega)
 (simp;omega)
def lz(b:Bool)(U:Nat)(a:Int):Int:=if b then-((U*10^(a+30).toNat:Nat):Int) else((U*10^(a+30).toNat:Nat):Int)
def IG{b:Bool}{U:Nat}{a:Int}:(lz b U a).natAbs=U*10^(a+30).toNat:=by grind[lz]
def Oo{b:Bool}{U:Nat}{a:Int}(w:U≠0):b=decide (lz b U a<0):=by let aR:0<U*10^(a+30).toNat:=ww v<|mr v;grind[lz]
def ahG{a:Bool}{U J:Nat}:k2 a (U*10^J) 1=bO (lz a U (J:Int)):=by refine Bf Nat.one_pos ?_ λw=>?_;rw[IG,wv,show((J:Int)+30).toNat=J+30 by omega,m8,nO];rfl;exact Oo λc=>w b
def ahE{a:Bool}{U J:Nat}(b:J<=30):k2 a U (10^J)=bO (lz a U (-(J:Int))):=by refine Bf (mr v) ?_ λw=>Oo w;rw[IG,show(-(J:Int)+30).toNat=30-J by omega,nO,<-m8,show 30-J+J=30 by omega];rfl
