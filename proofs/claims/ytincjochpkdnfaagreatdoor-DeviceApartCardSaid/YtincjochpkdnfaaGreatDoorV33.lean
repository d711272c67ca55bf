/- far of layer 37: what is not too far is short. -/
import Derived.Test.YtincjochpkdnfaaGreatDoorV29
set_option linter.all false
set_option maxHeartbeats 4000000
set_option maxRecDepth 100000
namespace Go.Proofs.YtincjochpkdnfaaGreatDoor
section
open Go Go.RowKit Go.Shelf
def Ar(cs:List Value)(hlen:cs.length=16)(n1 n2:Nat)(a1 a2:Option Addr)(c1 C:Nat)(d:cs[10]? =some (.slice a1 n1 c1))(f:cs[11]? =some (.slice a2 n2 C))(v:Value)(l:List jR)(w:World)(p:Sl w v l.length 10 (l.flatMap iW)):
    Calls Tryz.prog 17 #[.agg cs.toArray,v] w λe w'=>(∃b,e=.returned (.bool b)/\(b=false->l.length<=120/\(∀a∈l,a.body.size<=6000)/\n1<=64/\n2<=100))/\Kp ae w w':=by
 obtain⟨r,cap,rfl⟩:∃r cap,v=.slice r l.length cap:=by obtain⟨_,_,r,cap,rfl,_⟩:=p;exact⟨_,_,rfl⟩
 have t:=aa (ag.new w cs 68);have g:Hid (Kp ae w (w.alloc (.cells cs.toArray 68))):=(Kp.refl ae w).alloc _;have D:=aa (p.old g.out);have M:=p.max;have E:=t.out.cell 10 d;have F:=t.out.cell 11 f;clear p d f t;refine al ?_;intro PP k;go_enter Tryz.func17,Tryz.ntmps17;go_upto_region 1 with fail;generalize w.alloc (.cells cs.toArray 68)=w0 at*;go_wp2_with fail;go_loopw [9,5] (λi0 G wr=>∃(i s:Nat),i0=.int .i64 i/\G=.int .i64 s/\i<=l.length/\s<=6000/\Hid (∀a∈l.take i,a.body.size<=s)/\wr=w0) (λi0 _ _=>l.length-(intOf i0).toNat)
 case atStart=>exact⟨0,0,rfl,rfl,Hv _,Hv _,aa (λa ha=>by cases ha),rfl⟩
 case round=>
  obtain⟨i,s,rfl,rfl,hi,H,q,rfl⟩:=hrel;by_cases m:i<l.length
  ·have u:(i:Int)<l.length:=by omega
   obtain⟨b,off,B,x,c⟩:=z1 D.out i m;injection x with x _ I;subst x I;have d8:=c 8 _ rfl;obtain⟨bo,h⟩:∃bo,l[i].body=bo:=⟨_,rfl⟩
   rw[h]at d8
   have j:Hid (∀a∈l.take (i+1),a.body.size<=max s bo.size):=aa (λa ha=>by
    rw[HQ m]at ha
    rcases Hu.1 ha with e|e
    ·have:=q.out a e;omega
    ·simp only[H0]at e
     subst e;rw[h];omega)
   clear c h q;by_cases hsz:bo.size<=10000
   ·have hm:min (bo.size:Int) 10000=bo.size:=by omega
    by_cases hf:6000<s+(1+bo.size)
    ·have n:(6000:Int)<(s:Int)+(1+bo.size):=by omega
     go_wp2_with fail;exact k.out _ _ ⟨⟨true,rfl,λe=>by cases e⟩,g.out⟩
    ·have n:¬(6000:Int)<(s:Int)+(1+bo.size):=by omega
     go_wp2_with fail;go_roundw
     case rel=>exact⟨i+1,s+(1+bo.size),by go_num,by go_num,by omega,by omega,aa (λa ha=>by have:=j.out a ha;omega),trivial⟩
     case measure=>simp[intOf];omega
   ·have hm:min (bo.size:Int) 10000=10000:=by omega
    have n:(6000:Int)<(s:Int)+10001:=by omega
    go_wp2_with fail;exact k.out _ _ ⟨⟨true,rfl,λe=>by cases e⟩,g.out⟩
  ·have y:i=l.length:=by omega
   subst y;have u:¬(l.length:Int)<l.length:=by omega
   have j:Hid (∀a∈l,a.body.size<=6000):=aa (λa ha=>by have:=q.out a (by rw[H9];exact ha);omega);clear q;by_cases o:l.length<=120
   ·have J:¬(120:Int)<l.length:=by omega
    by_cases K:n2<=100
    ·have z:¬(100:Int)<n2:=by omega
     by_cases L:n1<=64
     ·have A:¬(64:Int)<n1:=by omega
      go_wp2_with fail;exact k.out _ _ ⟨⟨_,rfl,λ_=>⟨o,j.out,L,K⟩⟩,g.out⟩
     ·have A:(64:Int)<n1:=by omega
      go_wp2_with fail;exact k.out _ _ ⟨⟨true,rfl,λe=>by cases e⟩,g.out⟩
    ·have z:(100:Int)<n2:=by omega
     go_wp2_with fail;exact k.out _ _ ⟨⟨true,rfl,λe=>by cases e⟩,g.out⟩
   ·have J:(120:Int)<l.length:=by omega
    go_wp2_with fail;exact k.out _ _ ⟨⟨true,rfl,λe=>by cases e⟩,g.out⟩
def As(w:World):Sl w (.slice none 0 0) ([]:List jR).length 10 (([]:List jR).flatMap iW):=⟨rfl,Hv _,none,0,rfl,λi v h=>by cases h⟩
def De(d:List fi)(nr:Nat)(ar:Option Addr)(cr:Nat)(room batch:Int)(l:List jR)(w:World)(hm:∀q∈d,Sl w q.v q.pc.c.av.length 5 (q.pc.c.av.flatMap cv)/\Sl w q.u q.pc.rl.length 7 (q.pc.rl.flatMap cR))(pv v:Value)(r:Sl w pv d.length 16 (d.flatMap bE))(hs:Sl w v l.length 10 (l.flatMap iW)):
    Calls Tryz.prog 5 #[.agg #[pv,.slice ar nr cr,.int .i64 room,.int .i64 batch],v] w λe w'=>(∃b,e=.returned (.bool b)/\(b=false->(∀q∈d,q.pc.c.av.length<=64/\q.pc.rl.length<=100)/\l.length<=120/\(∀a∈l,a.body.size<=6000)/\d.length<=12/\nr<=60))/\Kp ae w w':=by
 obtain⟨ap,cp,rfl⟩:∃ap cp,pv=.slice ap d.length cp:=by obtain⟨ao,cap,rfl,_⟩:=r.is;exact⟨_,_,rfl⟩
 have an:=aa r;have aD:=aa hm;have aE:=aa hs;have I:=aa (ag.new w [.slice ap d.length cp,.slice ar nr cr,.int .i64 room,.int .i64 batch] 25);have J:=aa ((Kp.refl ae w).alloc (.cells #[.slice ap d.length cp,.slice ar nr cr,.int .i64 room,.int .i64 batch] 25));have aF:=r.max;clear r hm hs;refine al ?_;intro PP z;have s:Hid (∀W,Kp ae w W->PP (.returned (.bool true)) W):=aa (λW k=>z.out _ _ ⟨⟨true,rfl,λe=>by cases e⟩,k⟩);go_enter Tryz.func5,Tryz.ntmps5;go_wp2_with fail;go_loopw [10] (λi0 wr=>∃j:Nat,i0=.int .i64 j/\j<=d.length/\Hid (Kp ae w wr)/\Hid (ag wr w.heap.size [.slice ap d.length cp,.slice ar nr cr,.int .i64 room,.int .i64 batch] 25)/\Hid (∀q∈d.take j,q.pc.c.av.length<=64/\q.pc.rl.length<=100)) (λi0 _=>d.length-(intOf i0).toNat)
 case atStart=>exact⟨0,rfl,Hv _,J,I,aa (λq h=>by simp at h)⟩
 case round=>
  clear J I;obtain⟨j,rfl,hj,K,L,ak⟩:=hrel;obtain⟨y,aq⟩:∃y:World,y=wr:=⟨_,rfl⟩
  subst aq;by_cases A:j<d.length
  ·obtain⟨g,off,aB,e1,hc⟩:=(an.out.old K.out).at iX (by decide) j A;injection e1 with e1 _ e3;subst e1 e3;have au:(j:Int)<d.length:=by omega
   have o:=Ht A
   have t:=aa (λ(h:d[j].pc.c.av.length<=64/\d[j].pc.rl.length<=100) (q:fi) (G:q∈d.take (j+1))=>show q.pc.c.av.length<=64/\q.pc.rl.length<=100 from by
    rw[HQ A,Hu,H0]at G
    rcases G with G|rfl
    ·exact ak.out q G
    ·exact h)
   obtain⟨q,M⟩:∃q,d[j]=q:=⟨_,rfl⟩
   rw[M]at hc o t
   obtain⟨B,C⟩:=aD.out q o;have N:=aa (kP q B.one C.one);obtain⟨a1,c1,O⟩:∃a1 c1,q.v=.slice a1 q.pc.c.av.length c1:=by obtain⟨ao,cap,e,_⟩:=B.is;exact⟨_,_,e⟩
   obtain⟨a2,c2,P⟩:∃a2 c2,q.u=.slice a2 q.pc.rl.length c2:=by obtain⟨ao,cap,e,_⟩:=C.is;exact⟨_,_,e⟩
   have Q:=aa (λW=>Ar (bE q) rfl q.pc.c.av.length q.pc.rl.length a1 a2 c1 c2 (by rw[<-O];rfl) (by rw[<-P];rfl) (.slice none 0 0) [] W (As W));have R:Hid (y.rangeAt g (off+j*16) (bE q)):=aa hc;clear o M B C hc O P ak;have aC:=aa (ag.new y (bE qd) 68);have D:=aa ((Kp.refl ae y).alloc (.cells (bE qd).toArray 68));have S:=aa (L.out.kp D.out (λx=>x));have T:w.heap.size≠y.heap.size:=by have:=L.out.lt;omega
   clear L
   go_wp2_with(first
    |(refine wpList_load_mid rfl 68 (.tmp 12) rfl g (off+j*16) rfl (bE q) _ R.out Tryz.underlying68 rfl hJ ?_)
    |(refine aV rfl 68 (.tmp 6) (.tmp 13) rfl aC.out (bE q) rfl rfl rfl hJ N.out ?_;intro W4 U E;have V:=aa U;have X:=aa (S.out.kp E T);have Y:Hid (Kp ae y W4):=aa (D.out.then E (λi h1 h2=>by omega));clear U E aC D S R)
    |(refine wpList_load_mid rfl 68 (.tmp 6) rfl y.heap.size 0 rfl (bE q) _ V.out.range Tryz.underlying68 rfl hJ ?_))
   refine(Q.out _).mono ?_;rintro e H ⟨⟨b,rfl,p⟩,m⟩;have Z:Hid (Kp ae w H):=aa ((K.out.trans Y.out).trans m);have aw:=aa (X.out.kp m (λx=>x));have f:=aa p;clear m p X V Y K Q T N;cases b with
   |true=>
    have n:=aa (s.out H Z.out);clear t f s z;go_wp2_with fail;exact n.out
   |false=>
    have ax:=aa (t.out (f.out rfl).2.2);clear t f;go_wp2_with fail;go_roundw
    case rel=>exact⟨j+1,by go_num,by omega,Z,aw,ax⟩
    case measure=>simp[intOf];omega
  ·have ac:j=d.length:=by omega
   have au:¬(j:Int)<d.length:=by omega
   have ad:Hid (∀q∈d,q.pc.c.av.length<=64/\q.pc.rl.length<=100):=aa (λq G=>ak.out q (by rw[ac,H9];exact G));have af:=aa (λW (k:Kp ae w W)=>Ar [.int .i64 0,.int .i64 0,.int .i64 0,.int .i64 0,.int .i64 0,.int .u64 0,.int .i64 0,.int .u64 0,.int .u64 0,.int .u64 0,.slice none 0 0,.slice none 0 0,.int .u64 0,.int .u64 0,.int .u64 0,.int .u8 0] rfl 0 0 none none 0 0 rfl rfl v l W (aE.out.old k));clear ak ac;go_wp2_with fail;refine(af.out _ K.out).mono ?_;rintro e H ⟨⟨b,rfl,p⟩,m⟩;have F:=L.out.kp m (λx=>x);have d0:=F.ai;have d1:=F.aj;have ah:=aa (K.out.trans m);have n:=aa (s.out H ah.out);have f:=aa p;clear m p F L af s;cases b with
   |true=>
    clear f z;go_wp2_with fail;exact n.out
   |false=>
    by_cases ay:d.length<=12
    ·have g1:¬(12:Int)<d.length:=by omega
     by_cases az:nr<=60
     ·have g2:¬(60:Int)<nr:=by omega
      have aA:=aa (z.out (.returned (.bool false)) H ⟨⟨false,rfl,λ_=>⟨ad.out,(f.out rfl).1,(f.out rfl).2.1,ay,az⟩⟩,ah.out⟩);clear f z n ad;go_wp2_with fail;have hb:(decide ((12:Int)<d.length)||decide ((60:Int)<nr))=false:=by rw[HN (show ¬(12:Int)<d.length by omega),HN (show ¬(60:Int)<nr by omega)];rfl
      show PP (.returned (.bool (decide ((12:Int)<d.length)||decide ((60:Int)<nr)))) H;rw[hb];exact aA.out
     ·have g2:(60:Int)<nr:=by omega
      clear f z;go_wp2_with fail;exact n.out
    ·have g1:(12:Int)<d.length:=by omega
     clear f z;go_wp2_with fail;exact n.out
end
end Go.Proofs.YtincjochpkdnfaaGreatDoor
