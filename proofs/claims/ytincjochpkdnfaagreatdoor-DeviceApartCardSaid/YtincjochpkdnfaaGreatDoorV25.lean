/- A shaper's dequeue (layer 26). Printed by wip/shd.py. -/
import Derived.Test.YtincjochpkdnfaaGreatDoorV20
set_option linter.all false
set_option maxHeartbeats 8000000
set_option maxRecDepth 100000
namespace Go.Proofs.YtincjochpkdnfaaGreatDoor
section
open Go Go.RowKit Go.Shelf
def Cf{w:World}{f:gg}{s:Sh}{r fl id ln:Nat}(h:et w f s)(C:od w f.all)(hp:aM s.bk=(⟨r,⟨fl,id,ln⟩⟩,true))(bn:¬s.tok<ln):
    Calls Tryz.prog 79 #[.pointer (some ⟨f.sb,0,none⟩)] w λe w'=>e=.returned (.agg (bO s).1.toArray)/\eQ w f (bO s).2 w':=by
 have hq:bO s=(gZ 2 0 fl id ln r gF,{s with tok:=s.tok-ln,bk:=h2 s.bk,g:=fq s.g fl ln,r:=lz s.r r}):=by unfold bO;rw[hp,Hk (λe=>Bool.noConfusion e),Hk bn]
 obtain⟨bp,D,cA,cB⟩:r<18446744073709551616/\fl<4294967296/\id<4294967296/\ln<18446744073709551616:=by
  have l:=h.ok.xY;have u:aU s.bk≠ []:=λe=>by unfold aM at hp;rw[e]at hp;cases hp
  obtain⟨i0,l0,bq⟩:=List.exists_cons_of_ne_nil u;have h3:=l i0 (by rw[bq];exact HX);unfold aM at hp;rw[bq]at hp
  injection hp with hp _;rw[hp]at h3
  exact h3
 have P:=aa (sn h.ok h.gate.ok);rw[hq]at P ⊢
 clear hq;have c7:=aa h.ok;obtain⟨t5,x5,gu,ge,gp,hv,br⟩:=h.back.c;have M:=aa br;have aZ:=h.back;rw[hv]at aZ
 have cU:=aa h.gate;have cV:=aa h.ranks;have aD:=aa aZ;have c8:=h.top.lt;have c0:=h.top.ai;have c1:=h.top.aj;have c2:=h.top.aq;have c3:=h.top.aK;have c4:=h.top.a_;have c5:=h.top.bN;have H:=aa h.top;have a0:=aa h.sg;have a1:=aa h.sr;have a2:=aa h.sk;have a3:=aa h.gr;have ak:=aa h.gk;have an:=aa h.rk;have ao:=aa (λb hb=>h.gate.lt (b:=b) hb);have au:=aa (λb hb=>h.ranks.lt (b:=b) hb);have av:=aa (λb hb=>h.back.lt (b:=b) hb);have cC:0<w.heap.size:=Iy w _ (C.tab 0 (by decide));have cD:=aa (λW (F:Nat->Prop) (k:eC W F (.iface t5 x5) s.g.c.aB.toNat s.bk) (kk:Kp ae w W) (hF:∀z,F z->f.Fb z)=>by have:=M.out.nU W F _ _ k ⟨C.tab.kp kk (λx=>x),λe=>C.ne (.inr (.inr (.inr (hF _ e))))⟩;rw[hp]at this;exact this);rw[hv]at c5
 have cW:=aa hv;obtain⟨ax,aw⟩:∃x,s.ax=x:=⟨_,rfl⟩
 obtain⟨aP,Q⟩:∃x,s.aP=x:=⟨_,rfl⟩
 obtain⟨tok,E⟩:∃x,s.tok=x:=⟨_,rfl⟩
 obtain⟨y,aE⟩:∃x,s.tok-ln=x:=⟨_,rfl⟩
 have a4:Hid (∀W,Calls Tryz.prog 107 #[.agg #[.int .u64 ax,.int .u64 aP,.int .u64 tok],.int .u64 ln] W λe w'=>e=.returned (.tuple #[.agg #[.int .u64 ax,.int .u64 aP,.int .u64 y],.bool true])/\Kp ae W w'):=aa (λW=>by
  have:=yT ax aP tok ln (by rw[<-aw];exact h.ok.ax.1) (by rw[<-Q];exact h.ok.aP.1) (by rw[<-E,<-Q];exact h.ok.tok) (by rw[<-E];omega) (by rw[<-E];have:=h.ok.tok;have:=h.ok.aP.2;omega) W;rw[<-E,aE]at this
  rw[<-E];exact this)
 have bs:=aa (λW (F:Nat->Prop) (k:eC W F (.iface t5 x5) s.g.c.aB.toNat s.bk) (kk:Kp (λz=>z=f.sb\/f.Fb z) w W) (hF:∀z,F z->f.Fb z\/w.heap.size<=z)=>M.out.pop W F _ _ k ⟨C.tab.kp kk (λe=>C.ne (e.elim .inl (λh=>.inr (.inr (.inr h))))),λe=>by rcases hF _ e with h|h;exact C.ne (.inr (.inr (.inr h)));omega⟩ (by rw[hp]));have cE:=aa (λW (k:eh W f.Fg f.gb s.g)=>FV k fl ln D);have cF:=aa (λW (k:fN W f.Fr f.rb s.r)=>DH k r bp);have cG:=aa (zT s.g fl ln);unfold h8 at H;rw[aw,Q,E]at H
 refine al ?_;intro PP cX;have cH:Hid (∀(f:gg) (s2:Sh),s2.ax=s.ax->s2.aP=s.aP->s2.tok=y->s2.now=s.now->s2.ref=s.ref->h8 s2 f=[.pointer (some ⟨f.gb,0,none⟩),.pointer (some ⟨f.rb,0,none⟩),.int .u64 ax,.int .u64 aP,.int .u64 y,f.v,.int .u64 s.now]++s.ref.map e0):=aa (λf s2 l u h3 h4 h5=>by unfold h8;rw[l,u,h3,h4,h5,aw,Q]);clear h br hp aZ hv C cC aw Q E bn bp D cA cB;obtain⟨sb,gb,rb,v,Fg,Fr,Fb⟩:=f;simp only at*;rw[aE]at P cX
 have bu:=ag.new w G9 150;have bv:=aa bu;have a5:=ag.new (w.alloc (.cells G8 150)) G9 150;have e1:(w.alloc (.cells G8 150)).heap.size=w.heap.size+1:=by simp
 rw[e1]at a5
 have bw:=aa a5;have bA:=aa (((Kp.refl ae w).alloc (.cells G8 150)).alloc (.cells G8 150));clear bu a5 e1;go_enter Tryz.func79,Tryz.ntmps79
 go_wp2_with(first
    |(refine aW rfl 150 (.tmp 3) (.tmp 8) rfl bw.out G_ rfl rfl rfl bj rfl ?_
      intro W2 bB bC;have a6:=aa bB;have a7:=aa bC;clear bB bC;have az:Kp ae w W2:=bA.out.then a7.out (λb hb e=>by omega);have bD:=aa ((bv.out.alloc (.cells G8 150)).kp a7.out (λe=>by omega));have a8:=aa az;have d5:=az.cell c5 (λx=>x);have R:=M.out.me W2;have a9:=M.out.ce;have bE:=aa (aD.out.old az);have cI:=a6.out.lt
      clear bv bw bA a7 az))
 refine(cD.out W2 Fb bE.out a8.out (λ_ h=>h)).mono ?_;rintro e W3 ⟨rfl,F3,bF,S,bG⟩;have ba:Hid (∀z,F3 z->Fb z\/w.heap.size+1<z):=aa (λz hz=>(bG z hz).imp_right (λh=>by omega));have m:=av.out;have bb:=aa (a6.out.kp S (λhb=>by have:=m _ hb;omega));have bH:=aa (bD.out.kp S (λhb=>by have:=m _ hb;omega));have T:Kp Fb w W3:=(a8.out.mono (λ_ _ x=>x.elim)).trans S;have bI:=aa (H.out.kp T a2.out);have aA:=aa (cU.out.kp T (λz l u=>ak.out z l u));have aC:=aa (cV.out.kp T (λz l u=>an.out z l u));have bc:=aa bF;have bJ:=aa T;have cJ:=bb.out.lt;have bK:=S.size;clear bF S bG R a9 d5 m a6 bD a8 bE cU cV aD H cI c0 c1 c2 c3 c4 c5 T;go_upto_region 3 with fail;have ka:Kp ae W3 (W3.alloc (.cells #[.int .u32 fl,.int .u32 id,.int .u64 ln] 148)):=(Kp.refl ae W3).alloc _;have be:ag (W3.alloc (.cells #[.int .u32 fl,.int .u32 id,.int .u64 ln] 148)) W3.heap.size [.int .u32 fl,.int .u32 id,.int .u64 ln] 148:=ag.new W3 _ _;obtain⟨U,bL⟩:∃U,W3.alloc (.cells #[.int .u32 fl,.int .u32 id,.int .u64 ln] 148)=U:=⟨_,rfl⟩
 rw[bL]at ka be ⊢
 have A:=aa be;have bM:=aa (bb.out.kp ka (λx=>x));have bP:=aa (bH.out.kp ka (λx=>x));have N:=aa (bI.out.kp ka (λx=>x));have bQ:=aa (aA.out.old ka);have bR:=aa (aC.out.old ka);have bS:=aa (bc.out.old ka);have bT:=aa (bJ.out.trans (ka.mono (λ_ _ x=>x.elim)));have cK:=A.out.lt;have V:Hid (∀z,F3 z->z<W3.heap.size):=aa (λz hz=>bc.out.lt hz);obtain⟨pb,bU⟩:∃pb,W3.heap.size=pb:=⟨_,rfl⟩
 rw[bU]at A V cJ bK cK ⊢
 clear bL ka be bb bH bI aA aC bc bJ bU;have d2:=N.out.aq;have d3:=N.out.aK;have d4:=N.out.a_;have p2:=A.out.aq;have cL:=aa d2;have cM:=aa d3;have cN:=aa d4;have cO:=aa p2;go_wp2_with fail;have cY:=N.out.lt;go_cut [6,7]from 22 (λs6 s7 wc=>∃qb,Hid (U.heap.size<=qb)/\s6=.bool true/\s7=.pointer (some ⟨qb,0,none⟩)/\Hid (ag wc qb [.int .u64 ax,.int .u64 aP,.int .u64 y] 172)/\Hid (Kp ae U wc))
 case first=>
  go_region_law (first
   |(refine jB (w:=(U.drew.alloc (.cells #[.int .u64 0,.int .u64 0,.int .u64 0] 172))) rfl (by go_simp) (a4.out _) ?_;intro w6 X;have hB:ag w6 U.heap.size [.int .u64 0,.int .u64 0,.int .u64 0] 172:=(ag.new U.drew [.int .u64 0,.int .u64 0,.int .u64 0] 172).kp X (λx=>x);have n0:=hB.ai;have n1:=hB.aj;have n2:=hB.aq;have nz:=λj=>hB.fz j)
   |(refine jB (w:=U.drew) rfl (by go_simp) (a4.out _) ?_;intro w6 X))
  all_goals
   go_wp2_with fail;go_meet
   case rel=>
    first
     |exact⟨w6.heap.size,aa X.size,rfl,rfl,aa (ag.new w6 _ _),aa (((Kp.refl ae U).drew.trans X).alloc _)⟩
     |exact⟨U.heap.size,aa (Hm _),rfl,rfl,aa (((hB.set 0 _).set 1 _).set 2 _),aa (((((((Kp.refl ae U).drew.alloc _).trans X)).set (.inr (Hm _)) _).set (.inr (Hm _)) _).set (.inr (Hm _)) _)⟩
 case rest=>
 obtain⟨qb,bV,rfl,rfl,bf,aF⟩:=hcut;have n:=aF.out;have c9:=bV.out;obtain⟨W7,bW⟩:∃W7,wc=W7:=⟨_,rfl⟩
 rw[bW]at bf n ⊢
 have Y:=bf;have aG:=aa (A.out.kp n (λx=>x));have bX:=aa (bM.out.kp n (λx=>x));have bY:=aa (bP.out.kp n (λx=>x));have O:=aa (N.out.kp n (λx=>x));have bZ:=aa (bQ.out.old n);have b0:=aa (bR.out.old n);have b1:=aa (bS.out.old n);have b6:=aa (bT.out.trans (n.mono (λ_ _ x=>x.elim)));clear bW aF bV bf n d2 d3 d4 p2 cL cM cN cO A bM bP N bQ bR bS bT a4;have q0:=Y.out.ai;have q1:=Y.out.aj;have q2:=Y.out.aq;have d2:=O.out.aq;have d3:=O.out.aK;have d4:=O.out.a_;have dz:=λj=>O.out.fz j;have c_:sb<qb:=by omega
 have da:=Y.out.lt;have db:qb≠sb:=by omega
 go_upto_region 11 with fail;have bg:ag (((W7.setCell ⟨sb,2,none⟩ (.int .u64 ax)).setCell ⟨sb,3,none⟩ (.int .u64 aP)).setCell ⟨sb,4,none⟩ (.int .u64 y)) sb ([.pointer (some ⟨gb,0,none⟩),.pointer (some ⟨rb,0,none⟩),.int .u64 ax,.int .u64 aP,.int .u64 y,v,.int .u64 s.now]++s.ref.map e0) 174:=((O.out.set 2 (.int .u64 ax)).set 3 (.int .u64 aP)).set 4 (.int .u64 y);have o:Kp (λz=>z=sb) W7 (((W7.setCell ⟨sb,2,none⟩ (.int .u64 ax)).setCell ⟨sb,3,none⟩ (.int .u64 aP)).setCell ⟨sb,4,none⟩ (.int .u64 y)):=(((Kp.refl (λz=>z=sb) W7).set (p:=⟨sb,2,none⟩) (.inl rfl) _).set (p:=⟨sb,3,none⟩) (.inl rfl) _).set (p:=⟨sb,4,none⟩) (.inl rfl) _;obtain⟨W8,b7⟩:∃W8,((W7.setCell ⟨sb,2,none⟩ (.int .u64 ax)).setCell ⟨sb,3,none⟩ (.int .u64 aP)).setCell ⟨sb,4,none⟩ (.int .u64 y)=W8:=⟨_,rfl⟩
 rw[b7]at bg o ⊢
 have a:=ao.out;have d:=au.out;have m:=av.out;have q:=ba.out;have I:=V.out;have Z:¬F3 sb:=λh=>by rcases q _ h with h|h;exact a2.out h;omega
 have b8:∀z,Fg z->¬F3 z:=λz l u=>by rcases q _ u with h|h;exact ak.out z l h;(have:=a z l;omega)
 have b9:∀z,Fr z->¬F3 z:=λz l u=>by rcases q _ u with h|h;exact an.out z l h;(have:=d z l;omega)
 have bh:=aa bg;have aI:=aa (aG.out.kp o (λe=>by omega));have b_:=aa (bX.out.kp o (λe=>by omega));have cc:=aa (bY.out.kp o (λe=>by omega));have cd:=aa (bZ.out.kp o (λz hz e=>a0.out (e▸hz)));have cf:=aa (b0.out.kp o (λz hz e=>a1.out (e▸hz)));have cg:=aa (b1.out.kp o (λz hz e=>Z (e▸hz)));have bi:Hid (Kp (λz=>z=sb\/Fb z) w W8):=aa ((b6.out.mono (λz _ h=>.inr h)).trans (o.mono (λz _ h=>.inl h)));have aA:=aa b8;have aC:=aa b9;have cP:=aa Z;have d5:=bh.out.bN;have dc:=o.size;rw[cW.out]at d5
 have R:=M.out.mp W8;have a9:=M.out.cp;clear b7 bg o q0 q1 q2 d2 d3 d4 dz Y O aG bX bY bZ b0 b1 b6 a d m q I Z b8 b9;go_wp2_with fail;refine(bs.out W8 F3 cg.out bi.out (λz h=>(ba.out z h).imp_right (λh=>by omega))).mono ?_;rintro e W9 ⟨rfl,F9,ch,B,cj⟩;have a:=ao.out;have d:=au.out;have m:=av.out;have q:=ba.out;have I:=V.out;have cQ:Hid (∀z,F9 z->Fb z\/w.heap.size+1<z):=aa (λz hz=>by rcases cj z hz with h|h;exact q z h;exact .inr (by omega));have bl:=aa (bh.out.kp B cP.out);have J:=aa (aI.out.kp B (λh=>by have:=I _ h;omega));have ck:=aa (b_.out.kp B (λh=>by rcases q _ h with h|h;(have:=m _ h;omega);omega));have cl:=aa (cc.out.kp B (λh=>by rcases q _ h with h|h;(have:=m _ h;omega);omega));have cm:=aa (cd.out.kp B aA.out);have cn:=aa (cf.out.kp B aC.out);have cR:=aa ch;have cS:Hid (Kp (λz=>z=sb\/Fb z) w W9):=aa (bi.out.then B (λi hi h=>by rcases q _ h with h|h;exact .inr h;omega));have d0:=bl.out.ai;have p0:=J.out.ai;have p2:=J.out.aq;clear ch B cj R a9 d5 bh aI b_ cc cd cf cg bi a d m q I bs;go_wp2_with fail;refine ar 8 (by kernel_rfl) (λ_ _ _ _ _ h=>h) ?_;simp only[aO]
 repeat((first
    |refine ay (by rfl) (by as_aux_lemma=>intro W hK;have df:=hK.cell d0 (λx=>x);have e1:=hK.cell p0 (λx=>x);have e2:=hK.cell p2 (λx=>x);go_simp;exact rfl) ?_
    |refine ah (by rfl) ?_);simp only[Act.put,aH])
 intro cT ac;have aJ:=aa (cm.out.old ac);have aL:=aa ac;clear ac d0 p0 p2;go_wp2_with fail;refine(cE.out cT aJ.out).mono ?_;rintro e cq ⟨rfl,aN,aQ⟩;have K:Kp Fg W9 cq:=(aL.out.mono (λ_ _ x=>x.elim)).trans aQ;have ad:=aa (bl.out.kp K a0.out);have aR:=aa (cn.out.kp K (λz l u=>a3.out z u l));have aS:=aa aN;have aT:=aa K;have d1:=ad.out.aj;clear aN aQ K aJ aL cm cn;go_wp2_with fail;refine(cF.out cq aR.out).mono ?_;rintro e af ⟨rfl,aV,L⟩;have a:=ao.out;have d:=au.out;have kD:Kp (λz=>Fg z\/Fr z) W9 af:=(aT.out.mono (λz _ h=>.inl h)).trans (L.mono (λz _ h=>.inr h));have dd:=aa kD;have G:=aa (J.out.kp kD (λh=>by rcases h with h|h;(have:=a _ h;omega);(have:=d _ h;omega)));have t:=aa (ck.out.kp kD (λh=>by rcases h with h|h;(have:=a _ h;omega);(have:=d _ h;omega)));have cr:=aa (cl.out.kp kD (λh=>by rcases h with h|h;(have:=a _ h;omega);(have:=d _ h;omega)));have cs:=aa (aS.out.kp L (λz l u=>a3.out z l u));have ct:=aa (ad.out.kp L a1.out);have cu:=aa aV;have p0:=G.out.ai;have p1:=G.out.aj;have p2:=G.out.aq;have b2:=t.out.aq;have b3:=t.out.aK;have b4:=t.out.a_;have b5:=t.out.bN;have bz:=λj=>t.out.fz j;have cZ:w.heap.size+1≠pb:=by omega
 have c6:pb≠w.heap.size+1:=by omega
 have cv:=aa ((((t.out.set 2 (.int .u32 fl)).set 3 (.int .u32 id)).set 4 (.int .u64 ln)).set 5 (.int .u64 r));have ks:Kp (λz=>z=w.heap.size+1) af ((((af.setCell ⟨w.heap.size+1,2,none⟩ (.int .u32 fl)).setCell ⟨w.heap.size+1,3,none⟩ (.int .u32 id)).setCell ⟨w.heap.size+1,4,none⟩ (.int .u64 ln)).setCell ⟨w.heap.size+1,5,none⟩ (.int .u64 r)):=((((Kp.refl (λz=>z=w.heap.size+1) af).set (p:=⟨w.heap.size+1,2,none⟩) (.inl rfl) _).set (p:=⟨w.heap.size+1,3,none⟩) (.inl rfl) _).set (p:=⟨w.heap.size+1,4,none⟩) (.inl rfl) _).set (p:=⟨w.heap.size+1,5,none⟩) (.inl rfl) _;have cw:=aa (cr.out.kp ks (λe=>by omega));have de:=aa ks;clear aV L kD ks a d d1 bl J ck cl ad aR aS aT
 go_wp2_with(first
    |(refine wpList_load_mid rfl 150 (.tmp 3) rfl (w.heap.size+1) 0 rfl ((((G_.set 2 (.int .u32 fl)).set 3 (.int .u32 id)).set 4 (.int .u64 ln)).set 5 (.int .u64 r)) _ (λj v hv=>by rw[HR];exact cv.out.cell j hv) Tryz.underlying150 rfl bj ?_)
    |(refine aW rfl 150 (.tmp 2) (.tmp 64) rfl cw.out ((((G_.set 2 (.int .u32 fl)).set 3 (.int .u32 id)).set 4 (.int .u64 ln)).set 5 (.int .u64 r)) rfl rfl rfl bj rfl ?_
      intro bm aX aY;have cx:=aa aX;have cy:=aa aY
      clear aX aY))
 have a:=ao.out;have d:=au.out;have m:=av.out;have cz:=cQ.out;have kt:Kp (λz=>w.heap.size<=z/\z<=w.heap.size+1) af bm:=(de.out.mono (λz _ e=>by omega)).trans (cy.out.mono (λz _ e=>by omega));have kb:Kp (λz=>Fg z\/Fr z\/(w.heap.size<=z/\z<=w.heap.size+1)) W9 bm:=(dd.out.mono (λz _ h=>by rcases h with h|h;exact .inl h;exact .inr (.inl h))).trans (kt.mono (λz _ h=>.inr (.inr h)));have D:∀z,F9 z->Fb z\/w.heap.size<=z:=λz hz=>(cz z hz).imp_right (λh=>by omega);refine dk (by exact rfl) cx.out _ Tryz.underlying150 rfl bj (by exact rfl) (cX.out _ _ ⟨rfl,⟨sb,gb,rb,v,Fg,Fr,F9⟩,?_,?_,?_,rfl⟩)
 ·exact {top:=by rw[cH.out];exact ct.out.kp kt (λh=>by omega);all_goals rfl
         gate:=cs.out.kp kt (λz hz h=>by have:=a z hz;omega)
         ranks:=cu.out.kp kt (λz hz h=>by have:=d z hz;omega)
         back:=by
          show eC bm F9 v (fq s.g fl ln).c.aB.toNat _;rw[cG.out,cW.out]
          exact cR.out.kp kb (λz hz h=>by
           rcases cz z hz with h'|h'
           ·rcases h with h|h|h
            ·exact ak.out z h h'
            ·exact an.out z h h'
            ·have:=m z h';omega
           ·rcases h with h|h|h
            ·have:=a z h;omega
            ·have:=d z h;omega
            ·omega)
         sg:=a0.out
         sr:=a1.out
         sk:=λh=>by rcases D _ h with h|h;exact a2.out h;(simp only at h;omega)
         gr:=a3.out
         gk:=λz l u=>by rcases D z u with h|h;exact ak.out z l h;(have:=a z l;omega)
         rk:=λz l u=>by rcases D z u with h|h;exact an.out z l h;(have:=d z l;omega)
         ok:=P.out}
 ·exact((cS.out.mono (λz _ h=>by rcases h with h|h;exact .inl h;exact .inr (.inl h)):Kp (λz=>z=sb\/Fb z\/Fg z\/Fr z) w W9).then kb (λz hz h=>by
   rcases h with h|h|h
   ·exact .inr (.inr (.inl h))
   ·exact .inr (.inr (.inr h))
   ·omega)).mono (λz _ h=>by
    rcases h with h|h|h|h
    ·exact .inl h
    ·exact .inr (.inr (.inr h))
    ·exact .inr (.inl h)
    ·exact .inr (.inr (.inl h)))
 ·intro z hz;rcases hz with h|h|h|h
  ·exact .inl (.inl h)
  ·exact .inl (.inr (.inl h))
  ·exact .inl (.inr (.inr (.inl h)))
  ·rcases D z h with h|h
   ·exact .inl (.inr (.inr (.inr h)))
   ·exact .inr (by omega)
end
end Go.Proofs.YtincjochpkdnfaaGreatDoor
