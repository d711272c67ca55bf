/- Whether rules may be: the program's Check. -/
import Derived.Test.YtincjochpkdnfaaGreatDoorV16
import Derived.Test.YtincjochpkdnfaaGreatDoorV18
set_option linter.all false
set_option maxHeartbeats 8000000
set_option maxRecDepth 100000
namespace Go.Proofs.YtincjochpkdnfaaGreatDoor
section
open Go.RowKit
def B7{l:List b5}{j:Nat}(h:j<l.length)(b:l.length<=64)(a:fp l[j]=true):eY l=6:=by
 unfold eY;rw[Hk (by omega),Hl (JO.2 ⟨_,Ht h,a⟩)]
def x5{l:List b5}(a:l.length<=64)(h:∀r∈l,fp r=false):eY l=0:=kB.2 ⟨a,h⟩
def tM{l:List b5}{j:Nat}(h:j<l.length)(b:fp l[j]=false)(ha:∀r∈l.take j,fp r=false):∀r∈l.take (j+1),fp r=false:=by
 rw[HQ h];intro r a;rw[Hu,H0]at a
 rcases a with a|rfl
 ·exact ha r a
 ·exact b
def su(l:List b5)(H:∀r∈l,r.Ok)(v:Value)(w:World)(h:Sl w v l.length 7 (l.flatMap cR)):
    Calls Tryz.prog 62 #[v] w λe w'=>e=.returned (.int .i64 (eY l:Nat))/\Kp ae w w':=by
 have U:=h.max;obtain⟨P,cap,rfl⟩:∃P cap,v=.slice P l.length cap:=by obtain⟨P,cap,rfl,_⟩:=h.is;exact⟨_,_,rfl⟩
 have Y:=aa h;have Z:=aa H;clear h H;by_cases I:64<l.length
 ·have n:eY l=20:=by unfold eY;rw[Hl I]
  have J:=aa n;obtain⟨c,o⟩:∃c,eY l=c:=⟨_,rfl⟩
  rw[o]at n ⊢
  subst n;have Q:(64:Int)<l.length:=by omega
  clear o;go_enter Tryz.func62,Tryz.ntmps62;go_wp2;go_ret;exact⟨rfl,Kp.refl _ _⟩
 ·have Q:¬(64:Int)<l.length:=by omega
  obtain⟨c,o⟩:∃c,eY l=c:=⟨_,rfl⟩
  rw[o];have J:=aa o;clear o;go_enter Tryz.func62,Tryz.ntmps62;go_wp2_with fail;go_loopw [10] (λi wr=>∃j:Nat,i=.int .i64 j/\j<=l.length/\Hid ((∀r∈l.take j,fp r=false)/\Kp ae w wr)) (λi _=>l.length-(intOf i).toNat)
  case atStart=>exact⟨0,rfl,Hv _,by simp,Kp.refl _ _⟩
  case round=>
   obtain⟨j,rfl,hj,K⟩:=hrel;by_cases C:j<l.length
   ·obtain⟨g,off,V,R,n⟩:=(Y.out.old K.out.2).at eM (by decide) j C;injection R with R _ e3;subst R e3;have ac:(j:Int)<l.length:=by omega
    have t:=B7 C (by omega);have k:=λh=>tM C h K.out.1;obtain⟨r,E⟩:∃r,l[j]=r:=⟨_,rfl⟩
    have u:=Z.out r (by rw[<-E];exact Ht C);rw[E]at n t k
    have y:=aa t;have F:=aa k;have c0:wr.cell? ⟨g,off+j*7,none⟩=some (.int .u32 r.s.1):=n 0 _ rfl;have c1:=n 1 _ rfl;have c2:=n 2 _ rfl;have c3:=n 3 _ rfl;have c4:=n 4 _ rfl;have c5:=n 5 _ rfl;have c6:=n 6 _ rfl;have p:=aa (λW=>hr r.s.1 r.s.2 W u.s.1 u.s.2);have q:=aa (λW=>hr r.d.1 r.d.2 W u.d.1 u.d.2);have N:=aa (ag.new wr (cR r) 108);have D:=aa (K.out.2.alloc (.cells (cR r).toArray 108));clear n E t k u;cases B:bs r.s.1 r.s.2 with
    |false=>
     have z:fp r=true:=by unfold fp;rw[B];rfl
     have G:=aa (J.out.symm.trans (y.out z));rw[B]at p
     clear z B q;go_wp2_with fail;refine(p.out _).mono ?_;rintro e w1 ⟨rfl,a⟩;have m:=aa (D.out.trans a);clear a;go_wp2_with fail;go_ret;exact⟨by rw[G.out];rfl,m.out⟩
    |true=>
     rw[B]at p
     cases hd:bs r.d.1 r.d.2 with
     |false=>
      have z:fp r=true:=by unfold fp;rw[B,hd];rfl
      have G:=aa (J.out.symm.trans (y.out z));rw[hd]at q
      clear z B hd;go_wp2_with fail;refine(p.out _).mono ?_;rintro e w1 ⟨rfl,a⟩;have m:=aa (D.out.trans a);have r2:=(N.out.kp a (λx=>x)).aq;have O:=(N.out.kp a (λx=>x)).aK;clear a;go_wp2_with fail;refine(q.out _).mono ?_;rintro e X ⟨rfl,b⟩;have A:=aa (m.out.trans b);clear b;go_wp2_with fail;go_ret;exact⟨by rw[G.out];rfl,A.out⟩
     |true=>
      rw[hd]at q
      by_cases L:r.lo<=r.hi
      ·have z:fp r=false:=jl.2 ⟨B,hd,L⟩;have ad:=aa (F.out z);have M:¬r.hi<r.lo:=by omega
       clear z B hd;go_wp2_with fail;refine(p.out _).mono ?_;rintro e w1 ⟨rfl,a⟩;have m:=aa (D.out.trans a);have f:=aa (N.out.kp a (λx=>x));have r2:=f.out.aq;have O:=f.out.aK;clear a;go_wp2_with fail;refine(q.out _).mono ?_;rintro e X ⟨rfl,b⟩;have A:=aa (m.out.trans b);have r4:=(f.out.kp b (λx=>x)).a_;have r5:=(f.out.kp b (λx=>x)).bN;clear b r2 O;go_wp2_with fail;go_roundw
       case rel=>exact⟨j+1,by go_num,by omega,ad.out,A.out⟩
       case measure=>simp[intOf];omega
      ·have z:fp r=true:=by unfold fp;rw[B,hd,HN L];rfl
       have G:=aa (J.out.symm.trans (y.out z));have M:r.hi<r.lo:=by omega
       clear z B hd;go_wp2_with fail;refine(p.out _).mono ?_;rintro e w1 ⟨rfl,a⟩;have m:=aa (D.out.trans a);have f:=aa (N.out.kp a (λx=>x));have r2:=f.out.aq;have O:=f.out.aK;clear a;go_wp2_with fail;refine(q.out _).mono ?_;rintro e X ⟨rfl,b⟩;have A:=aa (m.out.trans b);have r4:=(f.out.kp b (λx=>x)).a_;have r5:=(f.out.kp b (λx=>x)).bN;clear b r2 O;go_wp2_with fail;go_ret;exact⟨by rw[G.out];rfl,A.out⟩
   ·have S:j=l.length:=by omega
    subst S;have T:=K.out.1;rw[H9]at T
    have G:=aa (J.out.symm.trans (x5 (by omega) T));clear T;go_wp2_with fail;go_ret;exact⟨by rw[G.out];rfl,K.out.2⟩
end
section
open Go Go.RowKit Go.Shelf Go.Maps
structure jC where
 c:ey
 rl:List b5
 ax:Nat
 bD:Nat
 aJ:Nat
 y:Nat
def cx(pc:jC)(v u:Value):List Value:=er pc.c v++[u,.int .u64 pc.ax,.int .u64 pc.bD,.int .u64 pc.aJ,.int .u8 pc.y]
structure jC.Ok (pc:jC):Prop where
 c:pc.c.ok
 rl:∀r∈pc.rl,r.Ok
 ax:pc.ax<18446744073709551616
 bD:pc.bD<18446744073709551616
 aJ:pc.aJ<18446744073709551616
 y:pc.y<256
structure jC.Good (pc:jC):Prop where
 dr:dr pc.c=0
 rules:eY pc.rl=0
 ax:pc.ax=0\/0<pc.bD\/0<pc.aJ
 y:pc.y<=63
def q_(pc:jC)(g:pc.Ok)(q:pc.Good)(v u:Value)(w:World)(D:Sl w v pc.c.av.length 5 (pc.c.av.flatMap cv))(hu:Sl w u pc.rl.length 7 (pc.rl.flatMap cR)):
    Calls Tryz.prog 37 #[.agg (cx pc v u).toArray] w λe w'=>e=.returned (.int .i64 0)/\Kp ae w w':=by
 have R:=aa (λW (k:Kp ae w W)=>by have:=yW pc.c g.c v W (D.old k);rw[q.dr]at this;exact this);have S:=aa (λW (k:Kp ae w W)=>by have:=su pc.rl g.rl u W (hu.old k);rw[q.rules]at this;exact this);have b:=q.ax;have hy:=q.y;obtain⟨d,cap,rfl⟩:∃d cap,v=.slice d pc.c.av.length cap:=by obtain⟨d,cap,rfl,_⟩:=D.is;exact⟨_,_,rfl⟩
 obtain⟨r,f,rfl⟩:∃d cap,u=.slice d pc.rl.length cap:=by obtain⟨d,cap,rfl,_⟩:=hu.is;exact⟨_,_,rfl⟩
 have s:=ag.new w (cx pc (.slice d pc.c.av.length cap) (.slice r pc.rl.length f)) 82;have t:=aa s;have h:=aa ((Kp.refl ae w).alloc (.cells (cx pc (.slice d pc.c.av.length cap) (.slice r pc.rl.length f)).toArray 82));clear g q D hu s;obtain⟨c,rl,ax,bD,aJ,y⟩:=pc;obtain⟨rk,bk,lv,qu,V,bt,sh,mt,rt,X,fl⟩:=c;simp only[cx,er,IT,Im]at*;have T:¬(63:Int)<y:=by omega
 go_enter Tryz.func37,Tryz.ntmps37;go_wp2_with fail;refine(R.out _ h.out).mono ?_;rintro e w1 ⟨rfl,i⟩;have j:=aa (h.out.trans i);have l:=aa (t.out.kp i (λx=>x));have a:=l;have E:=a.out.ai;have F:=a.out.aj;have G:=a.out.aq;have H:=a.out.aK;have I:=a.out.a_;have J:=a.out.bN;have K:=a.out.du;have L:=a.out.eN;have M:=a.out.eu;have N:=a.out.ea;have m:=a.out.eR;have n:=a.out.ik;have z:=a.out.hK;have A:=a.out.hL;have B:=a.out.jU;have C:=a.out.jV;clear i t h a;go_wp2_with fail;refine(S.out _ j.out).mono ?_;rintro e Y ⟨rfl,o⟩;have p:=aa (j.out.trans o);have O:=aa (l.out.kp o (λx=>x));have a:=O;clear E F G H I J K L M N m n z A B C;have E:=a.out.ai;have F:=a.out.aj;have G:=a.out.aq;have H:=a.out.aK;have I:=a.out.a_;have J:=a.out.bN;have K:=a.out.du;have L:=a.out.eN;have M:=a.out.eu;have N:=a.out.ea;have m:=a.out.eR;have n:=a.out.ik;have z:=a.out.hK;have A:=a.out.hL;have B:=a.out.jU;have C:=a.out.jV;clear o l j a E F G H I J K L M N m n;by_cases Z:ax=0
 ·have P:¬(0:Int)<ax:=by omega
  clear b;go_wp2_with fail;go_ret;exact⟨rfl,p.out⟩
 ·have P:(0:Int)<ax:=by omega
  by_cases h1:bD=0
  ·have Q:(bD:Int)=0:=by omega
   have U:¬(aJ:Int)=0:=by omega
   clear b;go_wp2_with fail;go_ret;exact⟨rfl,p.out⟩
  ·have Q:¬(bD:Int)=0:=by omega
   clear b;go_wp2_with fail;go_ret;exact⟨rfl,p.out⟩
def fU(pc:jC):Int:=
 if dr pc.c≠0 then dr pc.c else if eY pc.rl≠0 then(eY pc.rl:Nat)else if 0<pc.ax/\pc.bD=0/\pc.aJ=0 then 28 else if 63<pc.y then 6 else 0
def nW{pc:jC}(h:fU pc=0):pc.Good:=by
 unfold fU at h;split at h
 ·contradiction
 ·rename_i b;split at h
  ·rename_i a;exact absurd (by omega) a
  ·rename_i a;split at h
   ·contradiction
   ·rename_i c;split at h
    ·contradiction
    ·rename_i d;exact⟨Decidable.byContradiction b,Decidable.byContradiction a,by omega,by omega⟩
def B8(pc:jC)(h:pc.Ok)(v u:Value)(w:World)(N:Sl w v pc.c.av.length 5 (pc.c.av.flatMap cv))(hu:Sl w u pc.rl.length 7 (pc.rl.flatMap cR)):
    Calls Tryz.prog 37 #[.agg (cx pc v u).toArray] w λe w'=>e=.returned (.int .i64 (fU pc))/\Kp ae w w':=by
 by_cases A:fU pc=0
 ·rw[A];exact q_ pc h (nW A) v u w N hu
 have O:=aa (λW (k:Kp ae w W)=>yW pc.c h.c v W (N.old k));have P:=aa (λW (k:Kp ae w W)=>su pc.rl h.rl u W (hu.old k));obtain⟨j,cap,rfl⟩:∃j cap,v=.slice j pc.c.av.length cap:=by obtain⟨j,cap,rfl,_⟩:=N.is;exact⟨_,_,rfl⟩
 obtain⟨B,l,rfl⟩:∃j cap,u=.slice j pc.rl.length cap:=by obtain⟨j,cap,rfl,_⟩:=hu.is;exact⟨_,_,rfl⟩
 have C:=ag.new w (cx pc (.slice j pc.c.av.length cap) (.slice B pc.rl.length l)) 82;have D:=aa C;have m:=aa ((Kp.refl ae w).alloc (.cells (cx pc (.slice j pc.c.av.length cap) (.slice B pc.rl.length l)).toArray 82));have n:Hid (fU pc=if dr pc.c≠0 then dr pc.c else if eY pc.rl≠0 then(eY pc.rl:Nat)else if 0<pc.ax/\pc.bD=0/\pc.aJ=0 then 28 else if 63<pc.y then 6 else 0):=aa rfl;obtain⟨z,E⟩:∃z,fU pc=z:=⟨_,rfl⟩
 rw[E]at n A ⊢
 obtain⟨c1,F⟩:∃c1,dr pc.c=c1:=⟨_,rfl⟩
 obtain⟨G,H⟩:∃G,eY pc.rl=G:=⟨_,rfl⟩
 rw[F]at O n
 rw[H]at P n
 have af:=aa A;clear h A N hu C E F H;obtain⟨c,rl,ax,bD,aJ,y⟩:=pc;obtain⟨rk,bk,lv,qu,pk,bt,sh,mt,rt,bu,fl⟩:=c;simp only[cx,er,IT,Im]at*;go_enter Tryz.func37,Tryz.ntmps37;go_wp2_with fail;refine(O.out _ m.out).mono ?_;rintro e w1 ⟨rfl,o⟩;have i:=aa (m.out.trans o);have p:=aa (D.out.kp o (λx=>x));have a:=p;have R:=a.out.ai;have S:=a.out.aj;have T:=a.out.aq;have U:=a.out.aK;have V:=a.out.a_;have X:=a.out.bN;have Y:=a.out.du;have Z:=a.out.eN;have y8:=a.out.eu;have y9:=a.out.ea;have q:=a.out.eR;have r:=a.out.ik;have I:=a.out.hK;have J:=a.out.hL;have K:=a.out.jU;have L:=a.out.jV;clear o D m a;by_cases h1:c1=0
 case neg=>
  have b:Hid (z=c1):=aa (by rw[n.out,Hl h1]);clear n O P;go_wp2_with fail;go_ret;exact⟨by rw[b.out];rfl,i.out⟩
 have b:=aa (n.out.trans (Hk (λe=>e h1)));subst h1;clear n O;go_wp2_with fail;refine(P.out _ i.out).mono ?_;rintro e w2 ⟨rfl,s⟩;have f:=aa (i.out.trans s);have ac:=aa (p.out.kp s (λx=>x));have a:=ac;clear R S T U V X Y Z y8 y9 q r I J K L P;have R:=a.out.ai;have S:=a.out.aj;have T:=a.out.aq;have U:=a.out.aK;have V:=a.out.a_;have X:=a.out.bN;have Y:=a.out.du;have Z:=a.out.eN;have y8:=a.out.eu;have y9:=a.out.ea;have q:=a.out.eR;have r:=a.out.ik;have I:=a.out.hK;have J:=a.out.hL;have K:=a.out.jU;have L:=a.out.jV;clear s p i a R S T U V X Y Z y8 y9 q r;by_cases h2:G=0
 case neg=>
  have hd:¬(G:Int)=0:=by omega
  have d:Hid (z=(G:Nat)):=aa (by rw[b.out,Hl h2]);clear b;go_wp2_with fail;go_ret;exact⟨by rw[d.out];rfl,f.out⟩
 have d:=aa (b.out.trans (Hk (λe=>e h2)));subst h2;clear b;by_cases M:0<ax/\bD=0/\aJ=0
 ·obtain⟨e1,e2,e3⟩:=M;have g:Hid (z=28):=aa (by rw[d.out,Hl ⟨e1,e2,e3⟩]);have g1:(0:Int)<ax:=by omega
  subst e2 e3;clear d;go_wp2_with fail;go_ret;exact⟨by rw[g.out];rfl,f.out⟩
 ·have g:=aa (d.out.trans (Hk M));have Q:63<y:=Decidable.byContradiction λQ=>af.out (by rw[g.out,Hk Q]);have t:Hid (z=6):=aa (by rw[g.out,Hl Q]);have g4:(63:Int)<y:=by omega
  clear d g Q;by_cases h0:ax=0
  ·subst h0;clear M;go_wp2_with fail;go_ret;exact⟨by rw[t.out];rfl,f.out⟩
  ·have ah:(0:Int)<ax:=by omega
   by_cases hn:bD=0
   ·have ad:(bD:Int)=0:=by omega
    have ak:¬(aJ:Int)=0:=by omega
    clear M h0;go_wp2_with fail;go_ret;exact⟨by rw[t.out];rfl,f.out⟩
   ·have ad:¬(bD:Int)=0:=by omega
    clear M h0;go_wp2_with fail;go_ret;exact⟨by rw[t.out];rfl,f.out⟩
end
section
open Go Go.RowKit Go.Shelf Go.ChangeShapes Go.WideShapes Go.ChangeAt
structure jR where
 kind:Nat
 head:e_
 body:ByteArray
 fC:Nat
instance:Inhabited jR:=⟨⟨0,default,ByteArray.empty,0⟩⟩
def iW(a:jR):List Value:=[.int .u8 a.kind,.int .u8 a.head.ds,.int .u16 a.head.id,.int .u8 a.head.bG,.int .u32 a.head.s,.int .u32 a.head.d,.int .u16 a.head.sp,.int .u16 a.head.p,.string a.body,.int .u64 a.fC]
def mz(a:jR):(iW a).length=10:=rfl
structure jR.Ok (a:jR):Prop where
 kind:a.kind<256
 head:a.head.Fit
 fC:a.fC<18446744073709551616
def tN:Tryz.prog.cellsOf 40=1:=by kernel_rfl
def tO:Tryz.prog.cellsOf 39=1:=by kernel_rfl
def B9:Tryz.prog.cellsOf 5=1:=by kernel_rfl
def Gd:Tryz.prog.cellsOf 42=7:=by kernel_rfl
def zY{i:Int}(h:(Lit.int .u32 i).wf=true):0<=i/\i<4294967296:=by
 simp[Lit.wf,IntKind.min,IntKind.max,IntKind.signed,IntKind.bits]at h
 omega
def wQ{i:Int}(h:(Lit.int .u16 i).wf=true):0<=i/\i<65536:=by
 simp[Lit.wf,IntKind.min,IntKind.max,IntKind.signed,IntKind.bits]at h
 omega
def b8{i:Int}(h:(Lit.int .u8 i).wf=true):0<=i/\i<256:=by
 simp[Lit.wf,IntKind.min,IntKind.max,IntKind.signed,IntKind.bits]at h
 omega
def Eu:Tryz.prog.cellsOf 44=10:=by kernel_rfl
def jN:Tryz.prog.cellsOf 38=1:=by kernel_rfl
def G3:Tryz.prog.cellsOf 9=1:=by kernel_rfl
section
variable {H:Type} {enc:TypeId×Value->H} {w:World} {base:Nat} {spare:Nat->Bool} {held:Bool}
def kj{cs:List Value}{o:Nat}{v:Value}(h:(cs.drop o).take 1=[v]):cs[o]? =some v:=by
 have:((cs.drop o).take 1)[0]? =some v:=by rw[h];rfl
 rw[JK,Hl (by omega),Ke]at this
 simpa using this
def cJ{α:Type}{xs:List α}{i n:Nat}(h:xs.length=n)(hi:i<n):∃y,xs[i]? =some y:=⟨xs[i]'(by omega),Hn _⟩
def e6{k:IntKind}{t:TypeId}(ht:Tryz.prog.underlying t=some (.int k)){m o:Nat}{cs:List Value}{y:DataW H×List MemPlace}(h:DataW.trod enc Tryz.prog w base spare held m t ((cs.drop o).take 1)=some y):∃i,cs[o]? =some (.int k i)/\(Lit.int k i).wf=true:=by
 obtain⟨i,e,_,w0⟩:=HU ht h;exact⟨i,kj e,w0⟩
def mA{i:Int}(h:(Lit.int .u64 i).wf=true):0<=i/\i<18446744073709551616:=by
 simp[Lit.wf,IntKind.min,IntKind.max,IntKind.signed,IntKind.bits]at h
 omega
def zZ(n:Nat)(cs:List Value)(x:DataW H×List MemPlace)(h:DataW.trod enc Tryz.prog w base spare held n 42 cs=some x):∃a:e_,a.Fit/\cs=cj a:=by
 obtain⟨hlen,hf⟩:=ho Tryz.underlying42 Gd (by decide) (by intro f hf;simp at hf;rcases hf with rfl|rfl|rfl|rfl|rfl|rfl|rfl;(exact B9);(exact tO);(exact B9);(exact tN);(exact tN);(exact tO);exact tO) h;match cs,hlen with
 | [c0,c1,r,s,t,u,v],_=>
  obtain⟨K,L,y⟩:=hf 0 _ c0 rfl rfl;obtain⟨n1,M,z⟩:=hf 1 _ c1 rfl rfl;obtain⟨n2,N,A⟩:=hf 2 _ r rfl rfl;obtain⟨n3,O,B⟩:=hf 3 _ s rfl rfl;obtain⟨n4,P,C⟩:=hf 4 _ t rfl rfl;obtain⟨n5,Q,D⟩:=hf 5 _ u rfl rfl;obtain⟨n6,R,E⟩:=hf 6 _ v rfl rfl;obtain⟨i0,b,_,w0⟩:=HU Tryz.underlying5 y;obtain⟨i1,c,_,w1⟩:=HU Tryz.underlying39 z;obtain⟨i2,d,_,F⟩:=HU Tryz.underlying5 A;obtain⟨i3,e,_,w3⟩:=HU Tryz.underlying40 B;obtain⟨i4,g,_,G⟩:=HU Tryz.underlying40 C;obtain⟨i5,i,_,I⟩:=HU Tryz.underlying39 D;obtain⟨i6,j,_,J⟩:=HU Tryz.underlying39 E;simp at b c d e g i j;subst b c d e g i j;have S:=b8 w0;have b1:=wQ w1;have b2:=b8 F;have T:=zY w3;have U:=zY G;have V:=wQ I;have W:=wQ J;obtain⟨k,rfl⟩:∃a:Nat,i0=a:=⟨i0.toNat,by omega⟩
  obtain⟨l,rfl⟩:∃a:Nat,i1=a:=⟨i1.toNat,by omega⟩
  obtain⟨x2,rfl⟩:∃a:Nat,i2=a:=⟨i2.toNat,by omega⟩
  obtain⟨m,rfl⟩:∃a:Nat,i3=a:=⟨i3.toNat,by omega⟩
  obtain⟨o,rfl⟩:∃a:Nat,i4=a:=⟨i4.toNat,by omega⟩
  obtain⟨p,rfl⟩:∃a:Nat,i5=a:=⟨i5.toNat,by omega⟩
  obtain⟨q,rfl⟩:∃a:Nat,i6=a:=⟨i6.toNat,by omega⟩
  exact⟨⟨k,l,x2,m,o,p,q⟩,⟨⟨by show m<_;omega,by show o<_;omega,by show q<_;omega⟩,by show k<_;omega,by show l<_;omega,by show x2<_;omega,by show p<_;omega⟩,rfl⟩
def B_{t:TypeId}(ht:Tryz.prog.underlying t=some .string){m o:Nat}{cs:List Value}{y:DataW H×List MemPlace}(h:DataW.trod enc Tryz.prog w base spare held m t ((cs.drop o).take 1)=some y):∃s,cs[o]? =some (.string s):=by
 obtain⟨s,e,_⟩:=DataW.trod_string ht h;exact⟨s,kj e⟩
def tP(n:Nat)(cs:List Value)(x:DataW H×List MemPlace)(h:DataW.trod enc Tryz.prog w base spare held n 44 cs=some x):∃a:jR,a.Ok/\cs=iW a:=by
 obtain⟨xs,m,_,_,d,hlen,hf⟩:=Jv Tryz.underlying44 h;rw[Eu]at d
 have g0:DataW.trod enc Tryz.prog w base spare held m 5 ((cs.drop 0).take (Tryz.prog.cellsOf 5))=xs[0]? :=hf 0 _ rfl;have g1:DataW.trod enc Tryz.prog w base spare held m 42 ((cs.drop 1).take (Tryz.prog.cellsOf 42))=xs[1]? :=hf 1 _ rfl;have g2:DataW.trod enc Tryz.prog w base spare held m 9 ((cs.drop 8).take (Tryz.prog.cellsOf 9))=xs[2]? :=hf 2 _ rfl;have g3:DataW.trod enc Tryz.prog w base spare held m 38 ((cs.drop 9).take (Tryz.prog.cellsOf 38))=xs[3]? :=hf 3 _ rfl;have b:xs.length=4:=hlen;obtain⟨v,e⟩:=cJ b (show 0<4 by omega);obtain⟨y,f⟩:=cJ b (show 1<4 by omega);obtain⟨z,g⟩:=cJ b (show 2<4 by omega);obtain⟨A,i⟩:=cJ b (show 3<4 by omega);rw[B9,e]at g0
 rw[Gd,f]at g1
 rw[G3,g]at g2
 rw[jN,i]at g3
 obtain⟨i0,a0,w0⟩:=e6 Tryz.underlying5 g0;obtain⟨hd,c,a1⟩:=zZ _ _ _ g1;obtain⟨s,a2⟩:=B_ Tryz.underlying9 g2;obtain⟨i3,a3,w3⟩:=e6 Tryz.underlying38 g3;have B:=b8 w0;have C:=mA w3;obtain⟨k,rfl⟩:∃a:Nat,i0=a:=⟨i0.toNat,by omega⟩
 obtain⟨t,rfl⟩:∃a:Nat,i3=a:=⟨i3.toNat,by omega⟩
 refine⟨⟨k,hd,s,t⟩,⟨by show k<_;omega,c,by show t<_;omega⟩,?_⟩;match cs,d with
 | [c0,c1,D,E,F,G,I,J,K,L],_=>
  simp[cj]at a0 a1 a2 a3
  obtain⟨j,l,o,p,q,r,u⟩:=a1;subst a0 a2 a3 j l o p q r u;rfl
end
def fV(a:jR):ByteArray:=if a.kind%8=3\/63<a.head.ds then a.body else tx (eP a.head (bl a.body))
def Cb(h:e_)(hd:63<h.ds)(b:ByteArray)(w:World):
    Calls Tryz.prog 27 #[.agg (cj h).toArray,.string b] w λe w'=>e=.returned (.tuple #[.string ⟨#[]⟩,.int .i64 6])/\Kp ae w w':=by
 obtain⟨ds,id,bG,s,d,sp,p⟩:=h;have i1:(63:Int)<ds:=by have:63<ds:=hd;omega
 have c:=aa (ag.new w [.int .u8 ds,.int .u16 id,.int .u8 bG,.int .u32 s,.int .u32 d,.int .u16 sp,.int .u16 p] 42);have a:=aa ((Kp.refl ae w).alloc (.cells #[.int .u8 ds,.int .u16 id,.int .u8 bG,.int .u32 s,.int .u32 d,.int .u16 sp,.int .u16 p] 42));clear hd;simp only[cj];go_enter Tryz.func27,Tryz.ntmps27;go_wp2_with fail;go_ret2;exact⟨rfl,a.out⟩
def wy(a:jR)(ok:a.Ok)(i:a.body.size<=6000)(w:World):
    Calls Tryz.prog 10 #[.agg (iW a).toArray] w λe w'=>e=.returned (.string (fV a))/\Kp ae w w':=by
 obtain⟨k,⟨ds,id,bG,s,d,sp,p⟩,bo,t⟩:=a;have n:bo.size<=6000:=i;have c:=aa (ag.new w [.int .u8 k,.int .u8 ds,.int .u16 id,.int .u8 bG,.int .u32 s,.int .u32 d,.int .u16 sp,.int .u16 p,.string bo,.int .u64 t] 44);have f:=aa ((Kp.refl ae w).alloc (.cells #[.int .u8 k,.int .u8 ds,.int .u16 id,.int .u8 bG,.int .u32 s,.int .u32 d,.int .u16 sp,.int .u16 p,.string bo,.int .u64 t] 44));have o:((k%8:Nat):Int)=(k:Int)%8:=by omega
 refine al ?_;intro PP l;by_cases hd:63<ds
 ·have hp:=λW=>Cb ⟨ds,id,bG,s,d,sp,p⟩ hd bo W;simp only[cj]at hp;have b:=aa hp;have h:Hid (fV ⟨k,⟨ds,id,bG,s,d,sp,p⟩,bo,t⟩=bo):=aa (by unfold fV;rw[Hl (.inr hd)]);clear hp hd i ok;simp only[iW];go_enter Tryz.func10,Tryz.ntmps10;go_wp2_with fail;refine(b.out _).mono ?_;rintro e w1 ⟨rfl,k1⟩;have g:=aa (f.out.trans k1);have c0:=(c.out.kp k1 (λx=>x)).ai;have m:=(c.out.kp k1 (λx=>x)).eu;clear k1 b f;by_cases q:(k:Int)%8=3;all_goals
   go_wp2_with fail;exact l.out _ _ ⟨by rw[h.out];rfl,g.out⟩
 ·have hp:=λW=>r0 ⟨ds,id,bG,s,d,sp,p⟩ ok.head (by show ds<=63;omega) bo (by omega) W;simp only[cj]at hp;obtain⟨x,j⟩:∃x,tx (eP ⟨ds,id,bG,s,d,sp,p⟩ (bl bo))=x:=⟨_,rfl⟩
  rw[j]at hp
  have b:=aa hp;by_cases q:(k:Int)%8=3
  ·have h:Hid (fV ⟨k,⟨ds,id,bG,s,d,sp,p⟩,bo,t⟩=bo):=aa (by unfold fV;rw[Hl (.inl (by show k%8=3;omega))]);clear hp hd i ok j;simp only[iW];go_enter Tryz.func10,Tryz.ntmps10;go_wp2_with fail;refine(b.out _).mono ?_;rintro e w1 ⟨rfl,k1⟩;have g:=aa (f.out.trans k1);have c0:=(c.out.kp k1 (λx=>x)).ai;have m:=(c.out.kp k1 (λx=>x)).eu;clear k1 b f;go_wp2_with fail;exact l.out _ _ ⟨by rw[h.out];rfl,g.out⟩
  ·have h:Hid (fV ⟨k,⟨ds,id,bG,s,d,sp,p⟩,bo,t⟩=x):=aa (by unfold fV;rw[Hk (by show ¬(k%8=3\/63<ds);omega)];exact j);clear hp hd i ok j;simp only[iW];go_enter Tryz.func10,Tryz.ntmps10;go_wp2_with fail;refine(b.out _).mono ?_;rintro e w1 ⟨rfl,k1⟩;have g:=aa (f.out.trans k1);have c0:=(c.out.kp k1 (λx=>x)).ai;have m:=(c.out.kp k1 (λx=>x)).eu;clear k1 b f;go_wp2_with fail;exact l.out _ _ ⟨by rw[h.out];rfl,g.out⟩
end
section
open Go Go.RowKit Go.Shelf
def z1{w:World}{v:Value}{l:List jR}(h:Sl w v l.length 10 (l.flatMap iW))(i:Nat)(hi:i<l.length):∃b off cap,v=.slice (some ⟨b,off,none⟩) l.length cap/\∀k u,(iW l[i])[k]? =some u->w.cell? ⟨b,off+i*10+k,none⟩=some u:=by
 obtain⟨_,_,m,cap,rfl,a⟩:=h;have key:∀k u,(iW l[i])[k]? =some u->(l.flatMap iW)[i*10+k]? =some u:=λk u hu=>by
  have d:k<10:=by have:=(HD.1 hu).1;rw[mz]at this;exact this
  rw[flat_get iW 10 mz l i k d,Hn hi];exact hu
 obtain⟨b,off,rfl,_⟩:=a _ _ (key 0 _ rfl);refine⟨b,off,cap,rfl,λk u hu=> ?_⟩;obtain⟨n,c,e,f⟩:=a _ _ (key k u hu);injection e with e;injection e with g j _;subst g j;rw[Ky];exact f
end
end Go.Proofs.YtincjochpkdnfaaGreatDoor
