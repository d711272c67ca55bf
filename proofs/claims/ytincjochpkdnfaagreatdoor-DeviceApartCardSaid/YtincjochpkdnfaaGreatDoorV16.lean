/- math/bits' table out of a row's list; a world for the witness. -/
import Derived.Test.YtincjochpkdnfaaGreatDoorV11
import Derived.Test.YtincjochpkdnfaaGreatDoorV14
import Derived.Test.YtincjochpkdnfaaGreatDoorCards
import Derived.Test.YtincjochpkdnfaaGreatDoorTie
import Derived.Deep.DeepHandedRow
import Derived.Lib.LaidTab
import Derived.Shelf.Spec.BitsCarry
set_option linter.all false
set_option maxHeartbeats 4000000
set_option maxRecDepth 100000
namespace Go.Proofs.YtincjochpkdnfaaGreatDoor
section
open Go.RowKit
def zD:ownKnob Tryz.prog.godebug=none:=by kernel_rfl
def C6:Tryz.prog.globalNamed "math/bits.deBruijn64tab"=some 0:=by kernel_rfl
def xQ:(Tryz.prog.globals[0]?).map (·.type)=some 303:=by kernel_rfl
def xR:Tryz.prog.cellsOf 303=64:=by kernel_rfl
def zE:Tryz.prog.cellsOf 5=1:=by kernel_rfl
def we:List Int:=[0,1,56,2,57,49,28,3,61,58,42,50,38,29,17,4,62,47,59,36,45,43,51,22,53,39,33,30,24,18,12,5,63,55,48,27,60,41,37,16,46,35,44,21,52,32,23,11,54,26,40,15,34,20,31,10,25,14,19,9,13,8,7,6]
def wh{W:World}(h:laidMetH Tryz.prog [("math/bits.deBruijn64tab",Rows.laid_math_bits_deBruijn64tab)] W):dH W:=by
 have ht:Lib.TabIs Tryz.prog W "math/bits.deBruijn64tab" .u8 we:=Lib.tabIs_of_head (rest:=[]) C6 xQ Tryz.underlying303 Tryz.underlying5 zE xR h
 intro j a;have:=ht.cell C6 j a;have e:we.getD j 0=((Lib.deBruijn64tab.getD j 0:Nat):Int):=(by decide:∀j,j<64->we.getD j 0=((Lib.deBruijn64tab.getD j 0:Nat):Int)) j a;rw[this,e]
noncomputable def h0 (os:Os):World:=
 {World.holding Tryz.prog os ⟨#[],#[],[]⟩with heap:=(World.holding Tryz.prog os ⟨#[],#[],[]⟩).heap.modify 0 λ
  | .cells _ t frozen=>.cells (we.map λz=>Value.int .u8 z).toArray t frozen
  |o=>o}
def qX(os:Os)(args:Array Value):laidMet Tryz.prog [("math/bits.deBruijn64tab",Rows.laid_math_bits_deBruijn64tab)] ((h0 os).forCall (λ_ _=>0) ⟨#[],args,[]⟩).memory:=
 laidMet_of_run' 8 (by kernel_rfl) (by kernel_rfl)
end
section
open Go Go.RowKit Go.Conc
def xS:∃i,Tryz.prog.info? 9=some i/\i.bytes=16:=by
 have h:(Tryz.prog.info? 9).map (·.bytes)=some 16:=by kernel_rfl
 obtain⟨i,hi,a⟩:=Ja.1 h;exact⟨i,hi,a⟩
def F1(n:Nat)(b:1<=n)(c:n<=4096)(w:World):(Instr.makeChan 130 (.int .i64 n)).run Tryz.prog w=.ok (.chan (some w.heap.size)) (w.alloc (.chan n #[] false 0 0 false)):=by
 obtain⟨i,hi,a⟩:=xS;simpa using run_makeChan (P:=Tryz.prog) (w:=w) Tryz.underlying130 hi .i64 n (by omega) (by rw[a];omega)
def F2(n:Nat)(a:1<=n)(b:n<=4096)(w:World):Calls Tryz.prog 23 #[.int .i64 n] w λe w'=>e=.returned (.tuple #[.pointer (some ⟨w.heap.size+1,0,none⟩),.int .i64 0])/\iz w' (w.heap.size+1) w.heap.size n []/\Kp ae w w':=by
 have c:=F1 n a b;have i1:¬(n:Int)<1:=by omega
 have i2:¬(4096:Int)<n:=by omega
 have d:Hid (ag ((w.alloc (.chan n #[] false 0 0 false)).alloc (.cells #[.chan (some w.heap.size),.bool false] 132)) (w.heap.size+1) [.chan (some w.heap.size),.bool false] 132):=by
  have:=ag.new (w.alloc (.chan n #[] false 0 0 false)) [.chan (some w.heap.size),.bool false] 132;rw[HB]at this
  exact this
 have f:=aa (((Kp.refl ae w).alloc (.chan n #[] false 0 0 false)).alloc (.cells #[.chan (some w.heap.size),.bool false] 132));have g:Hid (((w.alloc (.chan n #[] false 0 0 false)).alloc (.cells #[.chan (some w.heap.size),.bool false] 132)).heap[w.heap.size]? =some (.chan n #[] false 0 0 false)):=by
  show _=_;rw[Kw _ _ _ (by rw[HB];omega)];exact cz _ _
 go_enter Tryz.func23,Tryz.ntmps23;go_wp2;go_ret2;exact⟨rfl,⟨d.out,⟨0,0,g.out⟩,by omega⟩,f.out⟩
def D9{w:World}{bb cb cap:Nat}{l:List ByteArray}(h:iz w bb cb cap l)(n:Nat)(V:n<=1000):
    Calls Tryz.prog 55 #[.pointer (some ⟨bb,0,none⟩),.int .i64 n] w λe w'=>∃v,e=.returned v/\w'.ownsRow w.heap.size 9 1 v (min n l.length) (strs (l.take n))/\iz w' bb cb cap (l.drop n)/\Kp (λb=>b=cb) w w':=by
 have i:=aa h;have x:Hid (w.ownsRow w.heap.size 9 1 (.slice none 0 0) 0 (strs (l.take 0))):=aa ⟨by simp[strs],.inl ⟨rfl,rfl⟩⟩;have N:=h.top.lt;have O:=aa h.ne;have P:cb<w.heap.size:=by obtain⟨s,r,Q⟩:=h.ch;exact(Ih.1 Q).1
 clear h;refine al ?_;intro PP F;go_enter Tryz.func55,Tryz.ntmps55;go_wp2_with fail;go_loopw [5] (λv0 wr=>∃k:Nat,k<=n/\k<=l.length/\Hid (wr.ownsRow w.heap.size 9 1 v0 k (strs (l.take k)))/\Hid (iz wr bb cb cap (l.drop k))/\Hid (Kp (λb=>b=cb) w wr)) (λv0 _=>n-(match v0 with| .slice _ m _=>m|_=>0))
 case atStart=>exact⟨0,by omega,by omega,x,by rw[JJ];exact i,aa (Kp.refl _ _)⟩
 case round=>
  clear x i;obtain⟨k,W,R,o,i,q⟩:=hrel;obtain⟨X,xc,rfl⟩:=aN o.out;by_cases S:k<n
  ·have T:(k:Int)<n:=by omega
   by_cases z:k<l.length
   ·have c:l.drop k=l[k]::l.drop (k+1):=by rw[Ii z]
    have ht:=DS l[k] (by rw[<-c];exact i.out);have A:=aa ht;have G:Hid (strs (l.take (k+1))=strs (l.take k)++[.string l[k]]):=by
     show _=_;rw[HQ z,jh]
    have hsz:=q.out.size;obtain⟨y,hy⟩:∃y,l[k]=y:=⟨_,rfl⟩
    rw[hy]at A G
    clear ht c hy i;go_wp2_with fail;refine(A.out).mono ?_;rintro e L ⟨rfl,B,t⟩;have C:=aa B;have u:=aa (q.out.trans t);have j:=aa (au o.out t (λb U e=>by have:=(an o.out U).1;omega));have M:=u.out.size;clear B t o q A;go_wp2_with(at_builtin;refine eW yv (.tmp 19) (.tmp 21) rfl rfl w.heap.size (j.out.alloc _) [.string y] rfl rfl rfl (cz _ _) rfl (by omega) (by omega) (by simp;omega) ?_);intro g D w3 d a;have H:Hid (w3.ownsRow w.heap.size 9 1 (.slice (some ⟨g,0,none⟩) (k+1) D) (k+1) (strs (l.take (k+1)))):=by rw[G.out];exact d
    have I:Hid (Kp (λb=>b=cb) w w3):=aa ((u.out.alloc _).grown a (λb e=>.inr (an j.out e).1));have p:Kp (λb=>w.heap.size<=b) L w3:=((Kp.refl _ _).alloc _).grown a (λb e=>.inl (an j.out e).1);have J:=aa (C.out.kp p (by omega) (by omega));clear d a p C u j G;go_wp2_with fail;go_roundw
    case rel=>exact⟨k+1,by omega,by omega,H,J,I⟩
    case measure=>simp;omega
   ·have E:k=l.length:=by omega
    have c:l.drop k=[]:=Jr (by omega);have ht:=uT (l:=[]) (by have:=i.out;rw[c]at this;exact this);have A:=aa ht
    have f:=aa (F.out _ _ ⟨_,rfl,by
     have:=o.out;rw[IJ (by omega)]at this
     rw[IJ (by omega),show min n l.length=k by omega]
     exact this,by have:=i.out;rw[c]at this;rw[Jr (by omega)];exact this,q.out⟩)
    clear ht c i o q F E;go_wp2_with fail;refine(A.out).mono ?_;rintro e L ⟨rfl,rfl⟩;go_wp2_with fail;exact f.out
  ·have K:k=n:=by omega
   subst K
   have f:=aa (F.out _ _ ⟨_,rfl,by
    have:=o.out;rw[show min k l.length=k by omega]
    exact this,i.out,q.out⟩)
   clear i o q F;go_wp2_with fail;exact f.out
end
section
open Go Go.RowKit Go.Shelf
def cd(m:Mt):List Value:=[.int .u64 m.ax,.int .u64 m.bD,.int .u64 m.aJ,.int .u64 m.a,.int .u64 m.b]
def b9:(Tryz.prog.info? 121).map (·.size)=some 5:=by kernel_rfl
def zF(m:Mt)(h:iv m=0)(w:World):Calls Tryz.prog 74 #[.agg (cd m).toArray] w λe w'=>e=.returned (.int .i64 0)/\Kp ae w w':=by
 obtain⟨c,d,g,i⟩:=de.1 h;obtain⟨r,n,f,a,b⟩:=m;simp only at c d g i;have k:((r:Int)==0)=false:=by rw[HM];omega
 have l:¬(n:Int)<a:=by omega
 have o:¬(f:Int)<b:=by omega
 simp only[cd];clear h;by_cases p:n=0
 ·have j:((n:Int)==0)=true:=by rw[Iq];omega
  have q:((f:Int)==0)=false:=by rw[HM];omega
  clear c d g i;go_enter Tryz.func74,Tryz.ntmps74;go_wp2;go_ret;exact⟨rfl,(Kp.refl ae w).alloc _⟩
 ·have j:((n:Int)==0)=false:=by rw[HM];omega
  clear c d g i;go_enter Tryz.func74,Tryz.ntmps74;go_wp2;go_ret;exact⟨rfl,(Kp.refl ae w).alloc _⟩
def D_(r n f:Nat)(v:0<r)(l:0<n\/0<f)(w:World):Calls Tryz.prog 43 #[.int .u64 r,.int .u64 n,.int .u64 f] w λe w'=>e=.returned (.tuple #[.agg (cd ⟨r,n,f,n,f⟩).toArray,.int .i64 0])/\Kp ae w w':=by
 have t:=aa (λW=>zF ⟨r,n,f,n,f⟩ (de.2 ⟨v,l,Hm _,Hm _⟩) W);have b:=(ag.new w (cd Mt.zero) 121).alloc (.cells (cd ⟨r,n,f,n,f⟩).toArray 121);have a:=ag.new (w.alloc (.cells (cd Mt.zero).toArray 121)) (cd ⟨r,n,f,n,f⟩) 121;have u:(w.alloc (.cells (cd Mt.zero).toArray 121)).heap.size=w.heap.size+1:=by simp
 rw[u]at a
 have c:=aa (((Kp.refl ae w).alloc (.cells (cd Mt.zero).toArray 121)).alloc (.cells (cd ⟨r,n,f,n,f⟩).toArray 121));have d:=aa b;have g:=aa a;clear b a u;simp only[cd,Mt.zero]at*;go_enter Tryz.func43,Tryz.ntmps43;go_wp2_with fail;refine(t.out _).mono ?_;rintro e z ⟨rfl,k⟩;have m:=aa (d.out.kp k (λx=>x));have o:=aa (g.out.kp k (λx=>x));have p:=aa (c.out.trans k);clear k d g c t
 go_wp2_with(first
    |(refine dc rfl 121 (.tmp 8) rfl o.out _ rfl Tryz.underlying121 rfl b9 ?_)
    |(refine aV rfl 121 (.tmp 6) (.tmp 22) rfl m.out [.int .u64 r,.int .u64 n,.int .u64 f,.int .u64 n,.int .u64 f] rfl rfl rfl b9 rfl ?_
      intro y h j;have q:=aa h;have s:Hid (Kp ae w y):=aa (p.out.then j (λi hi e=>by have e:i=w.heap.size:=e;omega))
      clear h j))
 exact cO (by exact rfl) q.out _ Tryz.underlying121 rfl b9 (by exact rfl) ⟨rfl,s.out⟩
def kh{w b:World}{cs c:List Value}{t:TypeId}{v:Value}{o:Nat}(h:ag b w.heap.size cs t)(d:ag b (w.heap.size+1) c t)(k:Kp ae w b):
    ag (b.setCell ⟨w.heap.size,o,none⟩ v) w.heap.size (cs.set o v) t/\ag (b.setCell ⟨w.heap.size,o,none⟩ v) (w.heap.size+1) c t/\Kp ae w (b.setCell ⟨w.heap.size,o,none⟩ v):=
 ⟨h.set o v,d.bJ (a:=⟨w.heap.size,o,none⟩) (by show w.heap.size+1≠w.heap.size;omega) v,k.set (p:=⟨w.heap.size,o,none⟩) (.inr (Hm _)) v⟩
def F3(m:Mt)(x:Nat)(L:m.Lt)(h:iv m=0)(w:World):Calls Tryz.prog 89 #[.agg (cd m).toArray,.int .u64 x,.int .i64 1] w λe w'=>e=.returned (.tuple #[.agg (cd (eT m x).1).toArray,.int .i64 (eT m x).2])/\Kp ae w w':=by
 have E:=aa (λW=>zF m h W);have J:=L.a;have lb:=L.b;clear L h;obtain⟨r,n,f,a,b⟩:=m;simp only at J lb;by_cases F:x<=a
 ·have B:(x:Int)<=a:=by omega
  obtain⟨q,G⟩:∃q,a-x=q:=⟨_,rfl⟩
  have M:(a:Int)-x=q:=by omega
  have hw:IntKind.u64.wrap (q:Int)=q:=by rw[HO];omega
  have C:Hid (eT ⟨r,n,f,a,b⟩ x=(⟨r,n,f,q,b⟩,1)):=by show _=_;unfold eT;rw[Hl F,<-G]
  rw[C.out];clear G F J lb C;have g:=(ag.new w [.int .u64 r,.int .u64 n,.int .u64 f,.int .u64 a,.int .u64 b] 121).alloc (.cells (cd Mt.zero).toArray 121);have d:=ag.new (w.alloc (.cells #[.int .u64 r,.int .u64 n,.int .u64 f,.int .u64 a,.int .u64 b] 121)) (cd Mt.zero) 121;have B:(w.alloc (.cells #[.int .u64 r,.int .u64 n,.int .u64 f,.int .u64 a,.int .u64 b] 121)).heap.size=w.heap.size+1:=by simp
  rw[B]at d
  have j:=aa (((Kp.refl ae w).alloc (.cells #[.int .u64 r,.int .u64 n,.int .u64 f,.int .u64 a,.int .u64 b] 121)).alloc (.cells (cd Mt.zero).toArray 121));have k:=aa g;have l:=aa d;clear g d B;simp only[cd,Mt.zero]at*;go_enter Tryz.func89,Tryz.ntmps89;go_wp2_with fail;refine(E.out _).mono ?_;rintro e N ⟨rfl,t⟩;have c:=aa (k.out.kp t (λx=>x));have u:=aa (l.out.kp t (λx=>x));have y:=aa (j.out.trans t);clear t k l j E;have O:=c.out.aK;have P:=c.out.fz 3;have H:=kh (o:=3) (v:=.int .u64 (q:Int)) c.out u.out y.out;have D:=aa H;clear H
  go_wp2_with(first
   |(refine dc rfl 121 (.tmp 3) rfl D.out.1 _ rfl Tryz.underlying121 rfl b9 ?_)
   |(refine aV rfl 121 (.tmp 6) (.tmp 31) rfl D.out.2.1 [.int .u64 r,.int .u64 n,.int .u64 f,.int .u64 q,.int .u64 b] rfl rfl rfl b9 rfl ?_
     intro I p s;have z:=aa p;have A:Hid (Kp ae w I):=aa (D.out.2.2.then s (λi hi e=>by have e:i=w.heap.size+1:=e;omega))
     clear p s))
  exact cO (by exact rfl) z.out _ Tryz.underlying121 rfl b9 (by exact rfl) ⟨rfl,A.out⟩
 ·have B:¬(x:Int)<=a:=by omega
  by_cases K:x<=b
  ·have Q:(x:Int)<=b:=by omega
   obtain⟨q,G⟩:∃q,b-x=q:=⟨_,rfl⟩
   have M:(b:Int)-x=q:=by omega
   have hw:IntKind.u64.wrap (q:Int)=q:=by rw[HO];omega
   have C:Hid (eT ⟨r,n,f,a,b⟩ x=(⟨r,n,f,a,q⟩,2)):=by show _=_;unfold eT;rw[Hk F,Hl K,<-G]
   rw[C.out];clear G F K J lb C;have g:=(ag.new w [.int .u64 r,.int .u64 n,.int .u64 f,.int .u64 a,.int .u64 b] 121).alloc (.cells (cd Mt.zero).toArray 121);have d:=ag.new (w.alloc (.cells #[.int .u64 r,.int .u64 n,.int .u64 f,.int .u64 a,.int .u64 b] 121)) (cd Mt.zero) 121;have B:(w.alloc (.cells #[.int .u64 r,.int .u64 n,.int .u64 f,.int .u64 a,.int .u64 b] 121)).heap.size=w.heap.size+1:=by simp
   rw[B]at d
   have j:=aa (((Kp.refl ae w).alloc (.cells #[.int .u64 r,.int .u64 n,.int .u64 f,.int .u64 a,.int .u64 b] 121)).alloc (.cells (cd Mt.zero).toArray 121));have k:=aa g;have l:=aa d;clear g d B;simp only[cd,Mt.zero]at*;go_enter Tryz.func89,Tryz.ntmps89;go_wp2_with fail;refine(E.out _).mono ?_;rintro e N ⟨rfl,t⟩;have c:=aa (k.out.kp t (λx=>x));have u:=aa (l.out.kp t (λx=>x));have y:=aa (j.out.trans t);clear t k l j E;have O:=c.out.aK;have R:=c.out.a_;have P:=c.out.fz 4;have H:=kh (o:=4) (v:=.int .u64 (q:Int)) c.out u.out y.out;have D:=aa H;clear H
   go_wp2_with(first
    |(refine dc rfl 121 (.tmp 3) rfl D.out.1 _ rfl Tryz.underlying121 rfl b9 ?_)
    |(refine aV rfl 121 (.tmp 6) (.tmp 46) rfl D.out.2.1 [.int .u64 r,.int .u64 n,.int .u64 f,.int .u64 a,.int .u64 q] rfl rfl rfl b9 rfl ?_
      intro I p s;have z:=aa p;have A:Hid (Kp ae w I):=aa (D.out.2.2.then s (λi hi e=>by have e:i=w.heap.size+1:=e;omega))
      clear p s))
   exact cO (by exact rfl) z.out _ Tryz.underlying121 rfl b9 (by exact rfl) ⟨rfl,A.out⟩
  ·have Q:¬(x:Int)<=b:=by omega
   have C:Hid (eT ⟨r,n,f,a,b⟩ x=(⟨r,n,f,a,b⟩,3)):=by show _=_;unfold eT;rw[Hk F,Hk K]
   rw[C.out];clear F K J lb C;have g:=(ag.new w [.int .u64 r,.int .u64 n,.int .u64 f,.int .u64 a,.int .u64 b] 121).alloc (.cells (cd Mt.zero).toArray 121);have d:=ag.new (w.alloc (.cells #[.int .u64 r,.int .u64 n,.int .u64 f,.int .u64 a,.int .u64 b] 121)) (cd Mt.zero) 121;have B:(w.alloc (.cells #[.int .u64 r,.int .u64 n,.int .u64 f,.int .u64 a,.int .u64 b] 121)).heap.size=w.heap.size+1:=by simp
   rw[B]at d
   have j:=aa (((Kp.refl ae w).alloc (.cells #[.int .u64 r,.int .u64 n,.int .u64 f,.int .u64 a,.int .u64 b] 121)).alloc (.cells (cd Mt.zero).toArray 121));have k:=aa g;have l:=aa d;clear g d B;simp only[cd,Mt.zero]at*;go_enter Tryz.func89,Tryz.ntmps89;go_wp2_with fail;refine(E.out _).mono ?_;rintro e N ⟨rfl,t⟩;have c:=aa (k.out.kp t (λx=>x));have u:=aa (l.out.kp t (λx=>x));have y:=aa (j.out.trans t);clear t k l j E;have O:=c.out.aK;have R:=c.out.a_
   go_wp2_with(first
    |(refine dc rfl 121 (.tmp 3) rfl c.out _ rfl Tryz.underlying121 rfl b9 ?_)
    |(refine aV rfl 121 (.tmp 6) (.tmp 47) rfl u.out [.int .u64 r,.int .u64 n,.int .u64 f,.int .u64 a,.int .u64 b] rfl rfl rfl b9 rfl ?_
      intro I p s;have z:=aa p;have A:Hid (Kp ae w I):=aa (y.out.then s (λi hi e=>by have e:i=w.heap.size+1:=e;omega))
      clear p s))
   exact cO (by exact rfl) z.out _ Tryz.underlying121 rfl b9 (by exact rfl) ⟨rfl,A.out⟩
def xT{r n f a b t hi lo:Nat}(d:r*t=hi*18446744073709551616+lo)(c:hi=0)(h:lo<=n-a):eJ ⟨r,n,f,a,b⟩ t=⟨r,n,f,a+lo,b⟩:=by
 subst c;have e:r*t=lo:=by omega
 unfold eJ;simp only[e];rw[Hl h]
def xU{r n f a b t hi lo R bo:Nat}(p:r*t=hi*18446744073709551616+lo)(q:lo<18446744073709551616)(w:n-a<18446744073709551616)(hf:f<18446744073709551616)(k:b<=f)(l:¬(hi=0/\lo<=n-a))(x:(lo+18446744073709551616-(n-a))%18446744073709551616=R)(c:(if lo<n-a then 1 else 0)=bo):
    eJ ⟨r,n,f,a,b⟩ t=⟨r,n,f,n,b+min (if bo<hi then 18446744073709551615 else R) (f-b)⟩:=by
 generalize hd:n-a=d at*;have e:¬r*t<=d:=by
  intro h;rw[p]at h
  rcases Js hi with m|m
  ·subst m;exact l ⟨rfl,by omega⟩
  ·omega
 obtain⟨E,s⟩:∃E,r*t-d=E:=⟨_,rfl⟩
 have hm:∀X,(E<18446744073709551615->X=E)->(18446744073709551615<=E->18446744073709551615<=X)->min (b+E) f=b+min X (f-b):=λX u v=>by
  rcases HW E 18446744073709551615 with h|h
  ·rw[u h];omega
  ·have:=v h;omega
 unfold eJ;simp only[hd];rw[Hk e,s];congr 1;apply hm
 ·intro h;by_cases i:lo<d
  ·rw[Hl i]at c
   have j:hi=1:=by
    rcases HW hi 2 with o|o
    ·rcases Js hi with g|g
     ·exact absurd ⟨g,by omega⟩ l
     ·omega
    ·exfalso;have:=I0 18446744073709551616 o;omega
   subst j c;rw[Hk (by omega)];omega
  ·rw[Hk i]at c
   have j:hi=0:=by
    rcases Js hi with g|g
    ·exact g
    ·exfalso;have:=I0 18446744073709551616 g;omega
   subst j c;rw[Hk (by omega)];omega
 ·intro h;by_cases k:bo<hi
  ·rw[Hl k];exact Hm _
  ·rw[Hk k];have j:hi<=bo:=by omega
   by_cases i:lo<d
   ·rw[Hl i]at c
    subst c;have:=I0 18446744073709551616 j;omega
   ·rw[Hk i]at c
    subst c;have:hi=0:=by omega
    subst this;omega
def Ea(m:Mt)(t:Nat)(hl:m.Lt)(h:iv m=0)(ht:t<18446744073709551616)(w:World):Calls Tryz.prog 54 #[.agg (cd m).toArray,.int .u64 t] w λe w'=>e=.returned (.agg (cd (eJ m t)).toArray)/\Kp ae w w':=by
 have Z:=aa (λW=>zF m h W);have hz:=de.1 h;obtain⟨lr,ln,lf,la,lb⟩:=hl;obtain⟨r,n,f,a,b⟩:=m;simp only at lr ln lf la lb hz;obtain⟨d,hd⟩:∃d,n-a=d:=⟨_,rfl⟩
 have al:(n:Int)-a=d:=by omega
 have an:IntKind.u64.wrap (d:Int)=d:=by rw[HO];omega
 have hm:=λW=>Tryz.bits_Mul64 r t lr ht W;obtain⟨hi,M⟩:∃hi,r*t/18446744073709551616=hi:=⟨_,rfl⟩
 obtain⟨lo,N⟩:∃lo,r*t%18446744073709551616=lo:=⟨_,rfl⟩
 rw[M,N]at hm
 have ac:=aa hm;have hr:r*t=hi*18446744073709551616+lo:=by omega
 have s:lo<18446744073709551616:=by omega
 clear hm M N h;by_cases O:hi=0/\lo<=d
 ·obtain⟨h0,O⟩:=O;have e0:(hi:Int)=0:=by omega
  have L:(lo:Int)<=d:=by omega
  obtain⟨q,P⟩:∃q,a+lo=q:=⟨_,rfl⟩
  have ao:(a:Int)+lo=q:=by omega
  have hw:IntKind.u64.wrap (q:Int)=q:=by rw[HO];omega
  have Q:Hid (eJ ⟨r,n,f,a,b⟩ t=⟨r,n,f,q,b⟩):=aa (by rw[xT hr h0 (by omega),P]);rw[Q.out];clear P h0 O lr ln lf la lb hz hd hr s Q;have u:=(ag.new w [.int .u64 r,.int .u64 n,.int .u64 f,.int .u64 a,.int .u64 b] 121).alloc (.cells (cd Mt.zero).toArray 121);have l:=ag.new (w.alloc (.cells #[.int .u64 r,.int .u64 n,.int .u64 f,.int .u64 a,.int .u64 b] 121)) (cd Mt.zero) 121;have L:(w.alloc (.cells #[.int .u64 r,.int .u64 n,.int .u64 f,.int .u64 a,.int .u64 b] 121)).heap.size=w.heap.size+1:=by simp
  rw[L]at l
  have y:=aa (((Kp.refl ae w).alloc (.cells #[.int .u64 r,.int .u64 n,.int .u64 f,.int .u64 a,.int .u64 b] 121)).alloc (.cells (cd Mt.zero).toArray 121));have z:=aa u;have A:=aa l;clear u l L;simp only[cd,Mt.zero]at*;go_enter Tryz.func54,Tryz.ntmps54;go_wp2_with fail;refine(Z.out _).mono ?_;rintro e w2 ⟨rfl,F⟩;have c:=aa (z.out.kp F (λx=>x));have H:=aa (A.out.kp F (λx=>x));have I:=aa (y.out.trans F);clear F z A y Z;have y0:=c.out.ai;have y1:=c.out.aj;have y3:=c.out.aK;have yf:=c.out.fz 3;have S:=kh (o:=3) (v:=.int .u64 (q:Int)) c.out H.out I.out;have E:=aa S;clear S
  go_wp2_with(first
   |(go_at_call 83;refine(ac.out _).mono ?_;rintro e w' ⟨rfl,rfl⟩)
   |(refine dc rfl 121 (.tmp 2) rfl E.out.1 _ rfl Tryz.underlying121 rfl b9 ?_)
   |(refine aV rfl 121 (.tmp 4) (.tmp 38) rfl E.out.2.1 [.int .u64 r,.int .u64 n,.int .u64 f,.int .u64 q,.int .u64 b] rfl rfl rfl b9 rfl ?_
     intro T g k;have B:=aa g;have C:Hid (Kp ae w T):=aa (E.out.2.2.then k (λi hi e=>by have e:i=w.heap.size+1:=e;omega))
     clear g k))
  exact iI (by exact rfl) B.out _ Tryz.underlying121 rfl b9 (by exact rfl) ⟨rfl,C.out⟩
 ·obtain⟨R,hR⟩:∃R,(lo+18446744073709551616-d)%18446744073709551616=R:=⟨_,rfl⟩
  obtain⟨bo,J⟩:∃bo:Nat,(if lo<d then 1 else 0)=bo:=⟨_,rfl⟩
  have ak:Hid (∀W,(callFunc 84 #[.int .u64 lo,.int .u64 d,.int .u64 0]).run Tryz.prog W=.ok (.value (.tuple #[.int .u64 R,.int .u64 bo])) W):=aa (λW=>by
   rw[run_callFunc_extern Tryz.func84 (by kernel_rfl) (by kernel_rfl) (by kernel_rfl) (e:=sub64Entry) (by kernel_rfl),show(Value.int .u64 0)=.int .u64 ((0:Nat):Int)from rfl,run_sub64 lo d 0 (by omega)];rw[J6,hR,<-J];simp only[Ig]
   split<;>rfl)
  have hE:=xU (n:=n) (a:=a) (f:=f) (b:=b) (R:=R) (bo:=bo) hr s (by omega) lf hz.2.2.2 (by omega) (by rw[hd];exact hR) (by rw[hd];exact J);obtain⟨R2,K⟩:∃R2,(if bo<hi then 18446744073709551615 else R)=R2:=⟨_,rfl⟩
  obtain⟨fb,U⟩:∃fb,f-b=fb:=⟨_,rfl⟩
  obtain⟨V,X⟩:∃V,min R2 fb=V:=⟨_,rfl⟩
  obtain⟨q,P⟩:∃q,b+V=q:=⟨_,rfl⟩
  have ad:=hz.2.2.2;rw[K,U,X,P]at hE
  have Q:=aa hE;rw[Q.out];have f1:(f:Int)-b=fb:=by omega
  have f2:IntKind.u64.wrap (fb:Int)=fb:=by rw[HO];omega
  have f3:min (R2:Int) fb=V:=by omega
  have f4:(b:Int)+V=q:=by omega
  have f5:IntKind.u64.wrap (q:Int)=q:=by rw[HO];omega
  have af:Hid (¬(hi=0/\lo<=d)):=aa O;have Y:=aa K;clear hE Q O lr ln lf la lb hz ad hd hr s hR J K U X P;have u:=(ag.new w [.int .u64 r,.int .u64 n,.int .u64 f,.int .u64 a,.int .u64 b] 121).alloc (.cells (cd Mt.zero).toArray 121);have l:=ag.new (w.alloc (.cells #[.int .u64 r,.int .u64 n,.int .u64 f,.int .u64 a,.int .u64 b] 121)) (cd Mt.zero) 121;have L:(w.alloc (.cells #[.int .u64 r,.int .u64 n,.int .u64 f,.int .u64 a,.int .u64 b] 121)).heap.size=w.heap.size+1:=by simp
  rw[L]at l
  have y:=aa (((Kp.refl ae w).alloc (.cells #[.int .u64 r,.int .u64 n,.int .u64 f,.int .u64 a,.int .u64 b] 121)).alloc (.cells (cd Mt.zero).toArray 121));have z:=aa u;have A:=aa l;clear u l L;simp only[cd,Mt.zero]at*;go_enter Tryz.func54,Tryz.ntmps54;go_wp2_with fail;refine(Z.out _).mono ?_;rintro e w2 ⟨rfl,F⟩;have c:=aa (z.out.kp F (λx=>x));have H:=aa (A.out.kp F (λx=>x));have I:=aa (y.out.trans F);clear F z A y Z;have y0:=c.out.ai;have y1:=c.out.aj;have y2:=c.out.aq;have y3:=c.out.aK;have y4:=c.out.a_;have yf:=λj=>c.out.fz j;have G:=kh (o:=3) (v:=.int .u64 (n:Int)) c.out H.out I.out;have S:=kh (o:=4) (v:=.int .u64 (q:Int)) G.1 G.2.1 G.2.2;have E:=aa S;clear S G;have p:((hi:Int)=0/\¬(lo:Int)<=d)\/¬(hi:Int)=0:=by
   have:=af.out;by_cases e:(hi:Int)=0
   ·exact .inl ⟨e,λe2=>this ⟨by omega,by omega⟩⟩
   ·exact .inr e
  by_cases hb:bo<hi
  ·have ah:(bo:Int)<hi:=by omega
   have D:(R2:Int)=18446744073709551615:=by have:=Y.out;rw[Hl hb]at this;omega
   rw[D]at f3
   have hs:=ak.out;have g1:¬(hi:Int)=0:=by omega
   all_goals
    clear hb D p
    go_wp2_with(first
      |(go_at_call 83;refine(ac.out _).mono ?_;rintro e w' ⟨rfl,rfl⟩)
      |(refine dc rfl 121 (.tmp 2) rfl E.out.1 _ rfl Tryz.underlying121 rfl b9 ?_)
      |(refine aV rfl 121 (.tmp 4) (.tmp 62) rfl E.out.2.1 [.int .u64 r,.int .u64 n,.int .u64 f,.int .u64 n,.int .u64 q] rfl rfl rfl b9 rfl ?_
        intro T g k;have B:=aa g;have C:Hid (Kp ae w T):=aa (E.out.2.2.then k (λi hi e=>by have e:i=w.heap.size+1:=e;omega))
        clear g k))
    exact iI (by exact rfl) B.out _ Tryz.underlying121 rfl b9 (by exact rfl) ⟨rfl,C.out⟩
  ·have ah:¬(bo:Int)<hi:=by omega
   have D:R2=R:=by have:=Y.out;rw[Hk hb]at this;omega
   rw[D]at f3
   have hs:=ak.out;rcases p with⟨g1,g2⟩|g1;all_goals
    clear hb D
    go_wp2_with(first
      |(go_at_call 83;refine(ac.out _).mono ?_;rintro e w' ⟨rfl,rfl⟩)
      |(refine dc rfl 121 (.tmp 2) rfl E.out.1 _ rfl Tryz.underlying121 rfl b9 ?_)
      |(refine aV rfl 121 (.tmp 4) (.tmp 62) rfl E.out.2.1 [.int .u64 r,.int .u64 n,.int .u64 f,.int .u64 n,.int .u64 q] rfl rfl rfl b9 rfl ?_
        intro T g k;have B:=aa g;have C:Hid (Kp ae w T):=aa (E.out.2.2.then k (λi hi e=>by have e:i=w.heap.size+1:=e;omega))
        clear g k))
    exact iI (by exact rfl) B.out _ Tryz.underlying121 rfl b9 (by exact rfl) ⟨rfl,C.out⟩
end
end Go.Proofs.YtincjochpkdnfaaGreatDoor
