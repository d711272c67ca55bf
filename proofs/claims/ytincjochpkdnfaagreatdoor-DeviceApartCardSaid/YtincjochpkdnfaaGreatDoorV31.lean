/- In of a device (layer 37). -/
import Derived.Test.YtincjochpkdnfaaGreatDoorV29
set_option linter.all false
set_option maxHeartbeats 4000000
set_option maxRecDepth 100000
namespace Go.Proofs.YtincjochpkdnfaaGreatDoor
section
open Go Go.RowKit Go.Shelf
def nu:(Tryz.prog.info? 72).map (·.size)=some 2:=by kernel_rfl
def wH{w:World}{d:aX}(h:c2 w d)(s:ByteArray)(hs:s.size<=100000)(he:aS (bl s)=0)(hd:(aL (bl s)).d<4294967296)(i:Nat)(hi:i<d.ls.length)(M:dx (d.T.az (aL (bl s)).d none)=i)(N:fv (d.T.az (aL (bl s)).d none)=true)(hq:d.ls[i].q.length<d.room):
    Calls Tryz.prog 9 #[.pointer (some ⟨d.db,0,none⟩),.string s] w λe w'=>e=.returned (.tuple #[.int .i64 i,.int .i64 0])/\c2 w' {d with ls:=d.ls.set i {d.ls[i]with q:=d.ls[i].q++[s]}}/\Kp (λb=>b=d.ls[i].xc) w w':=by
 have ak:=aa (λW=>dC s hs he W);have HF:=aa (λW (k:Kp ae w W)=>ti.lE W d.tb d.T d.n (h.tab.old k).blk (h.tab.old k).mem h.tab.wf (aL (bl s)).d hd);rw[M,N]at HF
 obtain⟨H,hH⟩:∃H,aL (bl s)=H:=⟨_,rfl⟩
 rw[hH]at ak HF
 obtain⟨y,r⟩:∃y,bz (d.T.az H.d none)=y:=⟨_,rfl⟩
 rw[r]at HF
 obtain⟨an,ao⟩:=y;clear hH M N hd he r;have ax:=aa h;obtain⟨g,sc,hv,aq⟩:=aY h.row (by omega);have l:=h.row;rw[hv]at l
 have z:=bu l i (u:=.pointer (some ⟨d.ls[i].lb,0,none⟩)) (by
  have:=flat_get lO 1 ko d.ls i 0 (by decide);rw[Iu,Ig]at this
  rw[this,Hn hi];rfl)
 have hl:=h.ln _ (Ht hi);have l1:=hl.top.cell 1 (v:=.pointer (some ⟨d.ls[i].xb,0,none⟩)) rfl;have ar:=aa hl;have t0:w.cell? ⟨d.db,0,none⟩=some d.v:=h.top.ai;have t1:w.cell? ⟨d.db,1,none⟩=some (.pointer (some ⟨d.tb,0,none⟩)):=h.top.aj;rw[hv]at t0
 obtain⟨lb,O⟩:∃lb,d.ls[i].lb=lb:=⟨_,rfl⟩
 obtain⟨xb,A⟩:∃xb,d.ls[i].xb=xb:=⟨_,rfl⟩
 obtain⟨db,m⟩:∃db,d.db=db:=⟨_,rfl⟩
 obtain⟨tb,B⟩:∃tb,d.tb=tb:=⟨_,rfl⟩
 obtain⟨nl,P⟩:∃nl,d.ls.length=nl:=⟨_,rfl⟩
 have aC:(i:Int)<nl:=by omega
 have C:=aa A;have au:=aa m;rw[O]at z l1
 rw[A]at l1
 rw[m,B]at t1
 rw[m,P]at t0
 rw[B]at HF
 rw[m];have aA:=aa hq;have Q:=aa hi;obtain⟨ds,id,bG,sr,dd,sp,dp⟩:=H;simp only[cj]at ak HF;clear h hl O A hq aq m B P l hv;refine al ?_;intro PP aB;go_enter Tryz.func9,Tryz.ntmps9;go_wp2_with fail;refine(ak.out _).mono ?_;rintro e w1 ⟨rfl,D⟩;have R:=aa D;have av:=D.cell t1 (λx=>x);clear D;go_upto_region 6 with fail;have E:Kp ae w1 (w1.alloc (.cells #[.int .u8 ds,.int .u16 id,.int .u8 bG,.int .u32 sr,.int .u32 dd,.int .u16 sp,.int .u16 dp] 42)):=(Kp.refl ae w1).alloc _;have S:=(ag.new w1 [.int .u8 ds,.int .u16 id,.int .u8 bG,.int .u32 sr,.int .u32 dd,.int .u16 sp,.int .u16 dp] 42).a_;obtain⟨W2,F⟩:∃W2,w1.alloc (.cells #[.int .u8 ds,.int .u16 id,.int .u8 bG,.int .u32 sr,.int .u32 dd,.int .u16 sp,.int .u16 dp] 42)=W2:=⟨_,rfl⟩
 obtain⟨L,G⟩:∃L,w1.heap.size=L:=⟨_,rfl⟩
 have t:W2.cell? ⟨L,4,none⟩=some (.int .u32 dd):=by rw[<-F,<-G];exact S
 rw[F]at E ⊢
 rw[G];have o:=aa (R.out.trans E);have t12:=o.out.cell t1 (λx=>x);have U:=aa (λW (k:Kp ae W2 W)=>HF.out W (o.out.trans k));clear E S F G t1 av ak R HF;refine c5 [9,10] [0,1,2,3,4,5,6,7,8,9,10] 11 12 ([.int .u32 0,.int .i64 0]) 72 (by kernel_rfl) (by kernel_rfl) (λc a d u w h=>by cases d<;>exact h) rfl rfl (λ_ _=>by kernel_rfl) ?_;simp only[pick,aO];show dJ _ _ _ _ _ _
 repeat((first
    |refine ay (by rfl) (by as_aux_lemma=>intro W hK;have e0:=hK.cell t12 (λx=>x);have e1:=hK.cell t (λx=>x);go_simp;exact rfl) ?_
    |refine ah (by rfl) ?_
    |refine aR (by rfl) (by as_aux_lemma=>intro W;go_simp;exact⟨rfl,rfl⟩) (by intro W hK;with_reducible first|exact U.out W hK) ?_);simp only[Act.put,aH])
 show ∀b W,_->_->_->wpList _ _ _ _ _ _;simp only[Act.put,aH];intro b3 W3 V X Y;have Z:=aa X;have ac:=aa (o.out.trans Y);have aD:w.heap.size<=b3:=Hy o.out.size V;clear X Y V o t12 t U;go_wp2_with(refine aV rfl 72 (.tmp 9) (.tmp 38) rfl Z.out [.int .u32 an,.int .i64 ao] rfl rfl rfl nu rfl ?_;intro W4 aw ad;have j:Hid (Kp ae w W4):=aa (ac.out.then ad (λi h1 h2=>by omega));have s0:=j.out.cell t0 (λx=>x);have s1:=j.out.cell z (λx=>x);have s2:=j.out.cell l1 (λx=>x);clear aw ad Z ac t0 z l1);have I:=DR (ar.out.bx.old j.out) aA.out s;rw[C.out]at I
 refine I.mono ?_;rintro e w5 ⟨rfl,J,p⟩;have f:=ar.out.old j.out;rw[<-C.out]at J
 have hm:iY w5 d.room {d.ls[i]with q:=d.ls[i].q++[s]}:=
  {top:=f.top.kp p f.d2,po:=f.po.kp p (λb L e=>f.d5 (by rw[show b=d.ls[i].xc from e]at L;exact L)) (λb h1 h2 e=>(f.d6 b h1 h2).2.2 e),bx:=J,nrf:=f.nrf,d1:=f.d1,d2:=f.d2,d3:=f.d3,d4:=f.d4,d5:=f.d5,d6:=f.d6}
 have K:=(ax.out.old j.out).upd Q.out {d.ls[i]with q:=d.ls[i].q++[s]} p (λx _ e=>.inr (.inr (.inl e))) hm rfl (λx hx=>.inl hx);rw[au.out]at K
 have af:=aa (aB.out (.returned (.tuple #[.int .i64 i,.int .i64 0])) w5 ⟨rfl,K,(j.out.mono (λ_ _ h=>h.elim)).trans p⟩);clear hm K;clear I J p f ar aB ax aA C s0 s1 s2 Q j;go_wp2_with fail;exact af.out
def vv(w:World)(o:Obj){n:Nat}(h:n=w.heap.size):(w.alloc o).heap[n]? =some o:=by subst h;exact cz w o
def pX(pb xb:Nat):List Value:=.pointer (some ⟨pb,0,none⟩)::.pointer (some ⟨xb,0,none⟩)::List.replicate 32 (.int .u64 0)
def vw(pb xb:Nat)(W:World):(Instr.build 91 #[(0,.pointer (some ⟨pb,0,none⟩)),(1,.pointer (some ⟨xb,0,none⟩))]).run Tryz.prog W=.ok (.agg (pX pb xb).toArray) W:=by kernel_rfl
def vx(b:Nat)(W:World):(Instr.buildSlice 76 1 #[(0,.pointer (some ⟨b,0,none⟩))]).run Tryz.prog W=.ok (.slice (some ⟨W.heap.size,0,none⟩) 1 1) (W.alloc (.cells #[.pointer (some ⟨b,0,none⟩)] 89)):=by kernel_rfl
def Gu(c:List fi)(a:List Rt)(room batch:Nat)(w:World)(hp:sv w c)(h1:1<=c.length)(h8:c.length<=8)(aL:1<=room/\room<=4096)(bM:1<=batch/\batch<=64)(pv rv:Value)(Z:Sl w pv c.length 16 (c.flatMap bE))(aM:Sl w rv a.length 3 (a.flatMap ra))(PO:fi->Po)
    (aO:∀W,Kp ae w W->Calls Tryz.prog 20 #[.agg #[pv,rv,.int .i64 room,.int .i64 batch]] W λe w'=>e=.returned (.int .i64 0)/\Kp ae W w')
    (aP:∀W,Kp ae w W->Calls Tryz.prog 21 #[.agg #[pv,rv,.int .i64 room,.int .i64 batch]] W λe w'=>∃tb T n,e=.returned (.tuple #[.pointer (some ⟨tb,0,none⟩),.int .i64 0])/\ti.bV w' W.heap.size tb T n/\cr a T/\Kp ae W w')
    (N:∀q∈c,∀W,Kp ae w W->Calls Tryz.prog 22 #[.agg (bE q).toArray] W λe w'=>∃f,e=.returned (.tuple #[.pointer (some ⟨f.pb,0,none⟩),.int .i64 0])/\cW w' f (PO q)/\(∀b,f.all b->W.heap.size<=b)/\W.heap.size<=f.lo/\Kp ae W w'):
    Calls Tryz.prog 7 #[.agg #[pv,rv,.int .i64 room,.int .i64 batch]] w λe w'=>∃d:aX,e=.returned (.tuple #[.pointer (some ⟨d.db,0,none⟩),.int .i64 0])/\c2 w' d/\cr a d.T/\d.room=room/\d.batch=batch/\d.ls.map aC=c.map (λq=>(PO q,[],g_))/\w.heap.size<=d.db/\Kp ae w w':=by
 have aQ:=aa aO;have aR:=aa aP;obtain⟨ap,cp,rfl⟩:∃ap cp,pv=.slice ap c.length cp:=by obtain⟨ao,cap,rfl,_⟩:=Z.is;exact⟨_,_,rfl⟩
 have bN:=aa Z;have aS:=aa hp;have aT:=aa N;obtain⟨ar,aH,rfl⟩:∃ar aH,rv=.slice ar a.length aH:=by obtain⟨ao,cap,rfl,_⟩:=aM.is;exact⟨_,_,rfl⟩
 have aU:=aa (ag.new w [.slice ap c.length cp,.slice ar a.length aH,.int .i64 room,.int .i64 batch] 36);have ac:=aa ((Kp.refl ae w).alloc (.cells #[.slice ap c.length cp,.slice ar a.length aH,.int .i64 room,.int .i64 batch] 36));have aW:=aa aL;clear Z aM hp aL bM h1 N aO aP;refine al ?_;intro PP b1;go_enter Tryz.func7,Tryz.ntmps7;go_wp2_with fail;refine(aQ.out _ ac.out).mono ?_;rintro e w1 ⟨rfl,ad⟩;have af:=aa (ac.out.trans ad);have p:=aa (aU.out.kp ad (λx=>x));have c0:=p.out.ai;have c1:=p.out.aj;have aY:=p.out.aq;have c3:=p.out.aK;clear ad ac aU aQ;go_upto_region 5 with fail;have aZ:=ag.new w1 [.slice none 0 0,.pointer none,.int .i64 batch] 79;have D:Kp ae w1 (w1.alloc (.cells #[.slice none 0 0,.pointer none,.int .i64 batch] 79)):=(Kp.refl ae w1).alloc _;have s:(w1.alloc (.cells #[.slice none 0 0,.pointer none,.int .i64 batch] 79)).heap.size=w1.heap.size+1:=HB _ _;obtain⟨W2,E⟩:∃W2,w1.alloc (.cells #[.slice none 0 0,.pointer none,.int .i64 batch] 79)=W2:=⟨_,rfl⟩
 obtain⟨db,F⟩:∃db,w1.heap.size=db:=⟨_,rfl⟩
 have ah:=af.out.size;have o:=p.out.lt;rw[E]at D s
 have O:ag W2 db [.slice none 0 0,.pointer none,.int .i64 batch] 79:=by rw[<-E,<-F];exact aZ
 rw[F]at ah o s
 rw[E,F];have a0:=aa O;have ak:=aa (af.out.trans D);have u:=aa (p.out.kp D (λx=>x));have bO:=aa s;have a4:=aa ah;have bP:=aa o;clear c0 c1 aY c3 aZ D s E F ah o O af p;have c0:=u.out.ai;have c1:=u.out.aj;have aY:=u.out.aq;have c3:=u.out.aK;go_wp2_with fail;refine(aR.out _ ak.out).mono ?_;rintro e w3 ⟨tb,T,n,rfl,hT,a5,z⟩;have aI:=aa hT;have a6:=aa a5;have G:=aa (a0.out.kp z (λx=>x));have a7:=aa (u.out.kp z (λx=>x));have a8:=aa (ak.out.trans z);have P:=aa z.size;have p1:=G.out.aj;have z1:=G.out.fz 1;clear hT a5 z a0 u ak aR c0 c1 aY c3;go_upto_region 6 with fail;have ks:Kp (λx=>x=db) w3 (w3.setCell ⟨db,1,none⟩ (.pointer (some ⟨tb,0,none⟩))):=fQ _ _ _ _;have o:=bP.out;have hsz:=bO.out;have bQ:=P.out;have a9:w3.heap.size<=(w3.setCell ⟨db,1,none⟩ (.pointer (some ⟨tb,0,none⟩))).heap.size:=ks.size
 have H:Hid (Cr w (w3.setCell ⟨db,1,none⟩ (.pointer (some ⟨tb,0,none⟩))) w.heap.size [.slice ap c.length cp,.slice ar a.length aH,.int .i64 room,.int .i64 batch] db batch room a [] ⟨db,tb,W2.heap.size,w3.heap.size,n,batch,room,.slice none 0 0,T,[]⟩):=aa
    ⟨⟨G.out.set 1 _,⟨rfl,.inl ⟨rfl,rfl⟩⟩,np aI.out ks (λe=>by have e2:tb=db:=e;have:=aI.out.tlow;omega) (λb hb e=>by have e2:b=db:=e;have:=aI.out.low b hb;omega),by show db<W2.heap.size;omega,aI.out.blk.lt,aI.out.mem.lt,a9,(λl hl=>(by cases hl)),(λl hl=>(by cases hl)),List.Pairwise.nil⟩,
      a8.out.set (.inr a4.out) _,a7.out.kp ks (by show ¬w.heap.size=db;omega),o,rfl,rfl,rfl,a6.out,rfl,a4.out⟩
 obtain⟨W4,a_⟩:∃W4,w3.setCell ⟨db,1,none⟩ (.pointer (some ⟨tb,0,none⟩))=W4:=⟨_,rfl⟩
 rw[a_]at H ⊢
 have bb:=aa H.out.cf;have c0:=bb.out.ai;clear ks o hsz bQ a9 a_ p1 z1 G a7 a8 P aI a6 bb;have b7:=vw;go_wp2_with fail;go_loopw [32] (λbR wr=>∃(j:Nat) (d:aX),bR=.int .i64 j/\j<=c.length/\Hid (Cr w wr w.heap.size [.slice ap c.length cp,.slice ar a.length aH,.int .i64 room,.int .i64 batch] db batch room a ((c.take j).map (λq=>(PO q,[],g_))) d)) (λi0 _=>c.length-(intOf i0).toNat)
 case atStart=>exact⟨0,_,rfl,Hv _,H⟩
 case round=>
  clear H c0;obtain⟨j,d,rfl,hj,k⟩:=hrel;obtain⟨Q,bS⟩:∃Q:World,Q=wr:=⟨_,rfl⟩
  subst bS;by_cases av:j<c.length
  ·obtain⟨g,off,b2,e1,hc⟩:=(bN.out.old k.out.kp).at iX (by decide) j av;injection e1 with e1 _ e3;subst e1 e3;have bT:(j:Int)<c.length:=by omega
   have t:=Ht av;obtain⟨q,aw⟩:∃q,c[j]=q:=⟨_,rfl⟩
   have bU:Hid (c.take (j+1)=c.take j++[q]):=aa (by rw[HQ av,aw]);rw[aw]at hc t
   have ax:=(aS.out.old k.out.kp).mem q t;have bc:=aa (kP q ax.1.one ax.2.one);have be:=aa (aT.out q t);have bf:Hid (Q.rangeAt g (off+j*16) (bE q)):=aa hc;have b3:=aa (ag.new Q (bE qd) 82);have bg:=aa ((Kp.refl ae Q).alloc (.cells (bE qd).toArray 82));clear t aw ax hc
   go_wp2_with(first
    |(refine wpList_load_mid rfl 82 (.tmp 34) rfl g (off+j*16) rfl (bE q) _ bf.out Tryz.underlying82 rfl kO ?_)
    |(refine aV rfl 82 (.tmp 7) (.tmp 35) rfl b3.out (bE q) rfl rfl rfl kO bc.out ?_;intro W4 bh bi;have bj:=aa bh;have ay:Hid (Kp ae Q W4):=aa (bg.out.then bi (λi h1 h2=>by omega));clear bh bi b3 bg bf)
    |(refine wpList_load_mid rfl 82 (.tmp 7) rfl Q.heap.size 0 rfl (bE q) _ bj.out.range Tryz.underlying82 rfl kO ?_))
   refine(be.out _ (k.out.kp.trans ay.out)).mono ?_;rintro e y ⟨f,rfl,I,bl,R,az⟩;have S:=aa I;have J:=aa (λb (hb:f.all b)=>I.lt hb);have bm:=aa I.hi;have bn:=aa bl;have bp:=aa R;have bq:=aa (ay.out.trans az);have br:=aa az.size;have b4:=aa ay.out.size;have bs:=aa (k.out.cf.kp bq.out (λx=>x));have aY:=bs.out.aq;obtain⟨pb,aA⟩:∃pb,f.pb=pb:=⟨_,rfl⟩
   have bu:=aa aA;rw[aA];clear I bl R az be bc bj bs aA;go_wp2_with fail;refine(F2 room aW.out.1 aW.out.2 _).mono ?_;rintro e m ⟨rfl,bv,K⟩;have A:=aa bv;have L:=aa (bq.out.trans K);have U:=aa (S.out.old K);have bw:=aa K.size;have aB:=aa (k.out.dv.top.kp L.out (λx=>x));obtain⟨lb,bz⟩:∃lb,m.heap.size=lb:=⟨_,rfl⟩
   have b8:=aa bz;obtain⟨xb,B⟩:∃xb,y.heap.size+1=xb:=⟨_,rfl⟩
   have bA:=aa B;obtain⟨bB,tb,Cq,d_,n,bL,bW,v,T,ls⟩:=d;obtain rfl:bB=db:=k.out.EJ;have M:=aa (au k.out.dv.row L.out (λ_ _ x=>x));simp only at M;obtain⟨ao,sc,rfl⟩:=aN M.out;have aD:=aB;simp only[Gm]at aD;have t0:=aD.out.ai;rw[B]at A ⊢
   clear bv K aY S aD B bz;have b9:=vx;have aE:=aa ((M.out.alloc (.cells (pX pb xb).toArray 91)).alloc (.cells #[.pointer (some ⟨m.heap.size,0,none⟩)] 89));have b5:ls.length<=8:=by
    have:=HC List.length k.out.EK;simp only[Hq,HG]at this;omega
   have b_:d_<=m.heap.size:=Hy k.out.dv.hsz L.out.size;have C:Kp ae m ((m.alloc (.cells (pX pb xb).toArray 91)).alloc (.cells #[.pointer (some ⟨m.heap.size,0,none⟩)] 89)):=((Kp.refl ae m).alloc _).alloc _;have bC:=((ag.new m (pX pb xb) 91).alloc (.cells #[.pointer (some ⟨m.heap.size,0,none⟩)] 89))
   have bX:=A.out.top.lt;have o:=A.out.EH;have bY:=bw.out;have bZ:=br.out;have h4:=b4.out;have B:=bA.out;have bD:iY ((m.alloc (.cells (pX pb xb).toArray 91)).alloc (.cells #[.pointer (some ⟨m.heap.size,0,none⟩)] 89)) room ⟨m.heap.size,xb,y.heap.size,f,PO q,[],g_⟩:=
    ⟨by have:=bC;rw[<-bu.out]at this ⊢;exact this,U.out.old C,A.out.old C,rfl,by show m.heap.size≠xb;omega,by show m.heap.size≠y.heap.size;omega,λh=>absurd (show m.heap.size<y.heap.size from J.out _ h) (by omega),
       λh=>absurd (show xb<y.heap.size from J.out _ h) (by omega),λh=>absurd (show y.heap.size<y.heap.size from J.out _ h) (by omega),λx h1 h2=>by
        have h3:f.hi<=y.heap.size:=bm.out;have h2:x<f.hi:=h2
        exact⟨by show x≠m.heap.size;omega,by show x≠xb;omega,by show x≠y.heap.size;omega⟩⟩
   have V:∀x,Ln.aJ ⟨m.heap.size,xb,y.heap.size,f,PO q,[],g_⟩ x->Q.heap.size<=x:=λx hx=>by
    rcases hx with(h|h|h|h)|⟨h,_⟩
    ·have h:x=m.heap.size:=h;omega
    ·have h:x=xb:=h;omega
    ·have h:x=y.heap.size:=h;omega
    ·have:=bn.out x h;omega
    ·have:=bp.out;have h:f.lo<=x:=h;omega
   have bF:=L.out.trans C;have bG:=aa (λ(w7:World) (g7 X:Nat) a1 a2 a3=>Aj (w7:=w7) (g:=g7) (cap:=X) k.out ⟨m.heap.size,xb,y.heap.size,f,PO q,[],g_⟩ bF bD V a1 a2 a3);have bH:=aa (aB.out.kp C (λx=>x));have b6:bB<d_:=Nat.lt_trans k.out.dv.lo k.out.dv.lh;have bI:∀b,(Value.slice ao ls.length sc).ownBlock=some b->d_<=b:=λb e=>(an aE.out e).1;clear C bC bX o bY bZ h4 B bD V bF U A aB bw br b4 bA bu J bm bn bp M k aS;go_wp2_with(at_builtin;refine fk EI (.tmp 51) (.tmp 56) rfl rfl d_ aE.out [.pointer (some ⟨m.heap.size,0,none⟩)] rfl rfl rfl (vv _ _ (by rw[HB])) rfl (by omega) (by omega) (by rw[HB,HB];omega) ?_);intro g7 X w7 Y r bJ;have aF:=bH.out.kp ((Kp.refl (λx=>(Value.slice ao ls.length sc).ownBlock=some x) _).grown r (λb e=>.inl e)) (λe=>by have:=bI _ e;omega);have cc:=aa (bG.out _ _ _ r Y (by rw[HB,HB];exact bJ));have t0:=aF.ai;have z0:=aF.fz 0;clear Y r bJ aF bG bH bI aE;go_wp2_with fail;go_roundw
   case rel=>exact⟨j+1,_,by go_num,by omega,by rw[bU.out,HE];exact cc⟩
   case measure=>simp[intOf];omega
  ·have b0:j=c.length:=by omega
   have bT:¬(j:Int)<c.length:=by omega
   have aG:=k.out.EK;rw[b0,H9]at aG
   have bK:=aa (b1.out _ _ ⟨d,by rw[k.out.EJ],k.out.dv,k.out.pu,k.out.ro,k.out.ba,aG,k.out.wd,k.out.kp⟩);clear k b1 aG;go_wp2_with fail;exact bK.out
end
end Go.Proofs.YtincjochpkdnfaaGreatDoor
