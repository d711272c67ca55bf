/- A document's configuration turned into a device's, whatever it is (layer 37). -/
import Derived.Test.YtincjochpkdnfaaGreatDoorV29
set_option linter.all false
set_option maxHeartbeats 2000000
set_option maxRecDepth 100000
namespace Go.Proofs.YtincjochpkdnfaaGreatDoor
section
open Go Go.RowKit Go.Shelf
structure mG (w wr:World) (A:List Value) (room batch:Int) (v1 v2:Value):Prop where
 kp:Kp ae w wr
 a:ag wr w.heap.size A 25
 b:ag wr (w.heap.size+1) [.slice none 0 0,.slice none 0 0,.int .i64 0,.int .i64 0] 36
 c:ag wr (w.heap.size+2) [v1,v2,.int .i64 room,.int .i64 batch] 36
def mG.qh{T:Nat->Prop}{w wr f:World}{A:List Value}{room batch:Int}{v1 v2:Value}(h:mG w wr A room batch v1 v2)(k:Kp T wr f)(d:∀x,T x->w.heap.size+3<=x):mG w f A room batch v1 v2:=
 ⟨h.kp.then k (λx g e=>by have:=d x e;omega),h.a.kp k (λe=>by have:=d _ e;omega),h.b.kp k (λe=>by have:=d _ e;omega),h.c.kp k (λe=>by have:=d _ e;omega)⟩
def mG.Gv{w wr:World}{A:List Value}{room batch:Int}{v1 v2:Value}(h:mG w wr A room batch v1 v2)(v:Value):mG w (wr.setCell ⟨w.heap.size+2,0,none⟩ v) A room batch v v2:=
 ⟨h.kp.set (.inr (by show w.heap.size<=w.heap.size+2;omega)) _,h.a.kp (fQ _ _ _ _) (by omega),h.b.kp (fQ _ _ _ _) (by omega),h.c.set 0 v⟩
def mG.Gw{w wr:World}{A:List Value}{room batch:Int}{v1 v2:Value}(h:mG w wr A room batch v1 v2)(v:Value):mG w (wr.setCell ⟨w.heap.size+2,1,none⟩ v) A room batch v1 v:=
 ⟨h.kp.set (.inr (by show w.heap.size<=w.heap.size+2;omega)) _,h.a.kp (fQ _ _ _ _) (by omega),h.b.kp (fQ _ _ _ _) (by omega),h.c.set 1 v⟩
def mG.sz{w wr:World}{A:List Value}{room batch:Int}{v1 v2:Value}(h:mG w wr A room batch v1 v2):w.heap.size+3<=wr.heap.size:=h.c.lt
def vy(f:List fi)(d:List bX)(room batch:Int)(w:World)(h8:f.length<=100)(h4:d.length<=5000)(hm:∀q∈f,Sl w q.v q.pc.c.av.length 5 (q.pc.c.av.flatMap cv)/\Sl w q.u q.pc.rl.length 7 (q.pc.rl.flatMap cR))(pv rv:Value)(Y:Sl w pv f.length 16 (f.flatMap bE))(Z:Sl w rv d.length 3 (d.flatMap fw)):
    Calls Tryz.prog 8 #[.agg #[pv,rv,.int .i64 room,.int .i64 batch]] w λe w'=>∃aD aE,e=.returned (.agg #[aD,aE,.int .i64 room,.int .i64 batch])/\Sl w' aD f.length 16 (f.flatMap bE)/\Sl w' aE d.length 3 (d.flatMap fw)/\Kp ae w w':=by
 obtain⟨ap,cp,rfl⟩:∃ap cp,pv=.slice ap f.length cp:=by obtain⟨ao,cap,rfl,_⟩:=Y.is;exact⟨_,_,rfl⟩
 obtain⟨J,K,rfl⟩:∃J K,rv=.slice J d.length K:=by obtain⟨ao,cap,rfl,_⟩:=Z.is;exact⟨_,_,rfl⟩
 have aF:=aa Y;have aX:=aa Z;have a9:=aa hm;have aG:mG w (((w.alloc (.cells #[.slice ap f.length cp,.slice J d.length K,.int .i64 room,.int .i64 batch] 25)).alloc (.cells Hc 36)).alloc (.cells #[.slice none 0 0,.slice none 0 0,.int .i64 room,.int .i64 batch] 36)) [.slice ap f.length cp,.slice J d.length K,.int .i64 room,.int .i64 batch] room batch (.slice none 0 0) (.slice none 0 0):=by
  have hb:=(ag.new (w.alloc (.cells #[.slice ap f.length cp,.slice J d.length K,.int .i64 room,.int .i64 batch] 25)) [.slice none 0 0,.slice none 0 0,.int .i64 0,.int .i64 0] 36).alloc (.cells #[.slice none 0 0,.slice none 0 0,.int .i64 room,.int .i64 batch] 36);have z:=ag.new ((w.alloc (.cells #[.slice ap f.length cp,.slice J d.length K,.int .i64 room,.int .i64 batch] 25)).alloc (.cells Hc 36)) [.slice none 0 0,.slice none 0 0,.int .i64 room,.int .i64 batch] 36;rw[HB]at hb
  rw[HB,HB]at z
  exact⟨(((Kp.refl ae w).alloc _).alloc _).alloc _,((ag.new w _ _).alloc _).alloc _,hb,z⟩
 have ac:=aa aG;clear aG;clear Y Z hm;refine al ?_;intro PP ba;go_enter Tryz.func8,Tryz.ntmps8;go_wp2_with fail;obtain⟨w1,aH⟩:∃w1,(((w.alloc (.cells #[.slice ap f.length cp,.slice J d.length K,.int .i64 room,.int .i64 batch] 25)).alloc (.cells Hc 36)).alloc (.cells #[.slice none 0 0,.slice none 0 0,.int .i64 room,.int .i64 batch] 36))=w1:=⟨_,rfl⟩
 rw[aH]at ac ⊢
 have aI:Hid (w1.ownsRow (w.heap.size+3) 82 16 (.slice none 0 0) 0 ((f.take 0).flatMap bE)):=aa ⟨rfl,.inl ⟨rfl,rfl⟩⟩;clear aH;go_loopw [16] (λi0 wr=>∃(j:Nat) (v1:Value),i0=.int .i64 j/\j<=f.length/\Hid (mG w wr [.slice ap f.length cp,.slice J d.length K,.int .i64 room,.int .i64 batch] room batch v1 (.slice none 0 0))/\Hid (wr.ownsRow (w.heap.size+3) 82 16 v1 j ((f.take j).flatMap bE))) (λi0 _=>f.length-(intOf i0).toNat)
 case atStart=>exact⟨0,_,rfl,Hv _,ac,aI⟩
 case round=>
  clear ac aI;obtain⟨j,v1,rfl,hj,p,I⟩:=hrel;obtain⟨L,aY⟩:∃L:World,L=wr:=⟨_,rfl⟩
  subst aY;obtain⟨S,vc,rfl⟩:=aN I.out;by_cases ad:j<f.length
  ·obtain⟨g,off,aJ,A,z⟩:=(aF.out.old p.out.kp).at iX (by decide) j ad;injection A with A _ T;subst A T;have aZ:(j:Int)<f.length:=by omega
   obtain⟨q,M⟩:∃q,f[j]=q:=⟨_,rfl⟩
   have U:q∈f:=by rw[<-M];exact Ht ad
   have B:Hid (f.take (j+1)=f.take j++[q]):=aa (by rw[HQ ad,M]);rw[M]at z
   have C:=a9.out q U;have V:=kP q C.1.one C.2.one;obtain⟨W,qv,qu⟩:=q;simp only at C;obtain⟨xo,xc,rfl⟩:∃ao cap,qv=.slice ao W.c.av.length cap:=by obtain⟨ao,cap,rfl,_⟩:=C.1.is;exact⟨_,_,rfl⟩
   obtain⟨yo,yc,rfl⟩:∃ao cap,qu=.slice ao W.rl.length cap:=by obtain⟨ao,cap,rfl,_⟩:=C.2.is;exact⟨_,_,rfl⟩
   have af:=aa V;have ah:=Ak W xo W.c.av.length xc yo W.rl.length yc;obtain⟨Q,hQ⟩:∃Q:fi,Q=⟨W,.slice xo W.c.av.length xc,.slice yo W.rl.length yc⟩:=⟨_,rfl⟩
   rw[<-hQ]at ah z af B
   have a0:=aa ah;have aL:Hid (L.rangeAt g (off+j*16) (bE Q)):=aa z;have a_:=aa (ag.new L (bE qd) 68);have aM:=aa ((Kp.refl ae L).alloc (.cells (bE qd).toArray 68));have a2:=p.out.sz;clear M U C V z hQ ah
   go_wp2_with(first
    |(refine wpList_load_mid rfl 68 (.tmp 18) rfl g (off+j*16) rfl (bE Q) _ aL.out Tryz.underlying68 rfl hJ ?_)
    |(refine aV rfl 68 (.tmp 5) (.tmp 19) rfl a_.out (bE Q) rfl rfl rfl hJ af.out ?_;intro N D aO;have aP:=aa D;have O:Hid (Kp ae L N):=aa (aM.out.then aO (λi h1 h2=>by omega));have n:=aa (p.out.qh O.out (λ_ e=>e.elim));have s:=aa (au I.out O.out (λ_ _ e=>e));have c0:=n.out.c.ai;have z0:=n.out.c.fz 0;have bb:=O.out.size;clear D aO a_ aM aL p I O)
    |(refine wpList_load_mid rfl 68 (.tmp 5) rfl L.heap.size 0 rfl (bE Q) _ aP.out.range Tryz.underlying68 rfl hJ ?_)
    |(refine vs rfl (.tmp 22) rfl (a0.out _) rfl ?_)
    |(at_builtin;refine eW Gn (.tmp 21) (.tmp 23) rfl rfl (w.heap.size+3) (s.out.alloc (.cells (bE Q).toArray 82)) (bE Q) rfl rfl rfl (cz _ _) af.out (by omega) (by omega) (by simp;omega) ?_))
   intro g3 l w3 h m;have k3:Kp (λb=>(Value.slice S j vc).ownBlock=some b) _ w3:=(Kp.refl _ _).grown m (λb e=>.inl e);have o:=(n.out.qh ((Kp.refl ae N).alloc (.cells (bE Q).toArray 82)) (λ_ e=>e.elim)).qh k3 (λx e=>(an s.out e).1);have ak:=aa (o.Gv (.slice (some ⟨g3,0,none⟩) (j+1) l))
   have aw:Hid ((w3.setCell ⟨w.heap.size+2,0,none⟩ (.slice (some ⟨g3,0,none⟩) (j+1) l)).ownsRow (w.heap.size+3) 82 16 (.slice (some ⟨g3,0,none⟩) (j+1) l) (j+1) ((f.take (j+1)).flatMap bE)):=aa (by
    rw[B.out,JH];have e: [Q].flatMap bE=bE Q:=by simp
    rw[e]
    exact au h (fQ _ _ _ _) (λb A E=>by have:=(an h A).1;have T:b=w.heap.size+2:=E;omega))
   have s0:=o.c.ai;have y0:=o.c.fz 0;clear h m k3 o n s aP B c0 z0;go_wp2_with fail;go_roundw
   case rel=>exact⟨j+1,_,by go_num,by omega,ak,aw⟩
   case measure=>simp[intOf];omega
  ·have a3:j=f.length:=by omega
   subst a3;have aZ:¬(f.length:Int)<f.length:=by omega
   have aQ:Hid (L.ownsRow (w.heap.size+3) 82 16 (.slice S f.length vc) f.length (f.flatMap bE)):=aa (by have:=I.out;rw[H9]at this;exact this);have a1:=p.out.a.aj;have aR:Hid (L.ownsRow (w.heap.size+3) 92 3 (.slice none 0 0) 0 ((d.take 0).flatMap fw)):=aa ⟨rfl,.inl ⟨rfl,rfl⟩⟩;have aS:Hid (∀b,(Value.slice S f.length vc).ownBlock=some b->(Value.slice none 0 0).ownBlock≠some b):=aa (λb _ e=>by cases e);clear I aF a9;go_wp2_with fail;clear a1;go_loopw [30] (λi0 wr=>∃(k:Nat) (v2:Value),i0=.int .i64 k/\k<=d.length/\Hid (mG w wr [.slice ap f.length cp,.slice J d.length K,.int .i64 room,.int .i64 batch] room batch (.slice S f.length vc) v2)/\Hid (wr.ownsRow (w.heap.size+3) 82 16 (.slice S f.length vc) f.length (f.flatMap bE))/\Hid (wr.ownsRow (w.heap.size+3) 92 3 v2 k ((d.take k).flatMap fw))/\Hid (∀b,(Value.slice S f.length vc).ownBlock=some b->v2.ownBlock≠some b)) (λi0 _=>d.length-(intOf i0).toNat)
   case atStart=>exact⟨0,_,rfl,Hv _,p,aQ,aR,aS⟩
   case round=>
    clear p aQ aR aS;obtain⟨k,v2,rfl,hk,p,P,I,ax⟩:=hrel;obtain⟨wp,a4⟩:∃wp:World,wp=wr:=⟨_,rfl⟩
    subst a4;obtain⟨xo,xc,rfl⟩:=aN I.out;by_cases X:k<d.length
    ·obtain⟨g,off,aJ,A,z⟩:=(aX.out.old p.out.kp).at ni (by decide) k X;injection A with A _ T;subst A T;have a5:(k:Int)<d.length:=by omega
     obtain⟨r,ay⟩:∃r,d[k]=r:=⟨_,rfl⟩
     have B:Hid (d.take (k+1)=d.take k++[r]):=aa (by rw[HQ X,ay]);rw[ay]at z
     obtain⟨F,rb,rx⟩:=r;have c0:wp.cell? ⟨g,off+k*3,none⟩=some (.int .u32 F):=z 0 _ rfl;have c1:wp.cell? ⟨g,off+k*3+1,none⟩=some (.int .i64 rb):=z 1 _ rfl;have c2:wp.cell? ⟨g,off+k*3+2,none⟩=some (.int .i64 rx):=z 2 _ rfl;have a6:=Al F rb rx;clear ay z;go_upto_region 10 with fail;have R:Kp ae wp (wp.alloc (.cells #[.int .u32 F,.int .i64 rb,.int .i64 rx] 74)):=(Kp.refl ae wp).alloc _;have D:=ag.new wp [.int .u32 F,.int .i64 rb,.int .i64 rx] 74;have n:=aa (p.out.qh R (λ_ e=>e.elim));have t:=aa (au P.out R (λ_ _ e=>e));have s:=aa (au I.out R (λ_ _ e=>e));obtain⟨N,az⟩:∃N,wp.alloc (.cells #[.int .u32 F,.int .i64 rb,.int .i64 rx] 74)=N:=⟨_,rfl⟩
     obtain⟨aA,G⟩:∃aA,wp.heap.size=aA:=⟨_,rfl⟩
     have y:ag N aA [.int .u32 F,.int .i64 rb,.int .i64 rx] 74:=by rw[<-az,<-G];exact D
     rw[az]at n t s ⊢
     rw[G];have b0:=y.ai;have b1:=y.aj;have b2:=y.aq;have d1:=n.out.c.aj;have a2:=n.out.sz;clear R D az G y p P I c0 c1 c2;go_wp2_with(at_builtin;refine fk Gp (.tmp 35) (.tmp 37) rfl rfl (w.heap.size+3) (s.out.alloc (.cells #[.int .u32 F,.int .i64 rb,.int .i64 rx] 92)) [.int .u32 F,.int .i64 rb,.int .i64 rx] rfl rfl rfl (cz _ _) rfl (by omega) (by omega) (by simp;omega) ?_);intro g3 l w3 h m aT;have k3:Kp (λb=>(Value.slice xo k xc).ownBlock=some b) _ w3:=(Kp.refl _ _).grown m (λb e=>.inl e);have ka:Kp ae N (N.alloc (.cells #[.int .u32 F,.int .i64 rb,.int .i64 rx] 92)):=(Kp.refl ae N).alloc _;have o:=(n.out.qh ka (λ_ e=>e.elim)).qh k3 (λx e=>(an s.out e).1);have H:=au (au t.out ka (λ_ _ e=>e)) k3 (λb e E=>ax.out b e E);have ak:=aa (o.Gw (.slice (some ⟨g3,0,none⟩) (k+1) l));have aU:=aa (au H (fQ w3 (w.heap.size+2) 1 (.slice (some ⟨g3,0,none⟩) (k+1) l)) (λb A E=>by have:=(an H A).1;have T:b=w.heap.size+2:=E;omega));have aW:Hid (∀b,(Value.slice S f.length vc).ownBlock=some b->(Value.slice (some ⟨g3,0,none⟩) (k+1) l).ownBlock≠some b):=aa λb e E=>by
      have T:g3=b:=by simpa[Value.ownBlock]using E
      subst T;rcases aT with e4|e4
      ·exact ax.out _ e e4
      ·have:=(an t.out e).2;omega
     have aw:Hid ((w3.setCell ⟨w.heap.size+2,1,none⟩ (.slice (some ⟨g3,0,none⟩) (k+1) l)).ownsRow (w.heap.size+3) 92 3 (.slice (some ⟨g3,0,none⟩) (k+1) l) (k+1) ((d.take (k+1)).flatMap fw)):=aa (by
      rw[B.out,JH];have e: [(⟨F,rb,rx⟩:bX)].flatMap fw=[.int .u32 F,.int .i64 rb,.int .i64 rx]:=by simp[fw]
      rw[e]
      exact au h (fQ _ _ _ _) (λb A E=>by have:=(an h A).1;have T:b=w.heap.size+2:=E;omega))
     have s1:=o.c.aj;have y1:=o.c.fz 1;clear h m k3 o n s B b0 b1 b2 d1 ka H t ax aT a6;go_wp2_with fail;go_roundw
     case rel=>exact⟨k+1,_,by go_num,by omega,ak,aU,aw,aW⟩
     case measure=>simp[intOf];omega
    ·have a7:k=d.length:=by omega
     subst a7;have a5:¬(d.length:Int)<d.length:=by omega
     have c0:=p.out.c.ai;have c1:=p.out.c.aj;have c2:=p.out.c.aq;have c3:=p.out.c.aK;have bc:=p.out.sz
     go_wp2_with(refine aV rfl 36 (.tmp 2) (.tmp 41) rfl p.out.b [.slice S f.length vc,.slice xo d.length xc,.int .i64 room,.int .i64 batch] rfl rfl rfl wE rfl ?_
                 intro W5 a8 aB)
     refine dk (by exact rfl) a8 _ Tryz.underlying36 rfl wE (by exact rfl) ?_;refine ba.out _ _ ⟨_,_,rfl,gG (au P.out aB (λb e E=>by have:=(an P.out e).1;omega)),?_,p.out.kp.then aB (λx hx e=>by omega)⟩;have aC:=I.out;rw[H9]at aC
     exact gG (au aC aB (λb e E=>by have:=(an aC e).1;omega))
end
end Go.Proofs.YtincjochpkdnfaaGreatDoor
