/- The trie of layer 32: a node laid below another one. -/
import Derived.Test.YtincjochpkdnfaaGreatDoorV13
import Derived.Test.YtincjochpkdnfaaGreatDoorV14
import Derived.Test.YtincjochpkdnfaaGreatDoorV15
set_option linter.all false
set_option maxHeartbeats 8000000
set_option maxRecDepth 100000
namespace Go.Proofs.YtincjochpkdnfaaGreatDoor
section
open Go.RowKit
abbrev dY:TypeId:=285
def gK(T:Tr)(a:Px):Prop:=match T with| .nil=>False| .node _ kp _ _ _ _=>bT kp a=true
def pC(T:Tr):Prop:=∀(w:World) (nb:Nat) (a:Px) (nx:Nat),gK T a->cy w T->T.WF->T.aw.Nodup->ag w nb (bM a true nx .nil .nil) dY->nb∉T.aw->dt a->a∉T.bq->
 Calls Tryz.prog 126 #[T.ptr,.pointer (some ⟨nb,0,none⟩)] w λe w'=>e=.returned (.tuple #[])/\∃fb,w.heap.size<=fb/\cy w' (T.lay nb a nx fb)/\Kp (λb=>b∈T.aw\/b=nb) w w'
def pE{k2:Nat}{a:Px}{u2:Bool}{x2:Nat}{l2 r2:Tr}{b:Px}(h:bT a b=true)(nb nx fb:Nat):((Tr.node k2 a u2 x2 l2 r2).lay nb b nx fb).ptr=.pointer (some ⟨k2,0,none⟩):=by
 unfold Tr.lay;rw[Hl h];split<;>rfl
def r9{W:World}{k2:Nat}{c:Px}{u2:Bool}{x2:Nat}{l2 r2:Tr}{b:Px}{nb nx a:Nat}(fb:Nat)(h:bT c b=false)(d:bF c b=b)(ha:aZ b c.1=a)(e:ag W nb ((bM b true nx .nil .nil).set (4+a) (.pointer (some ⟨k2,0,none⟩))) dY)(f:cy W (.node k2 c u2 x2 l2 r2)):
    cy W ((Tr.node k2 c u2 x2 l2 r2).lay nb b nx fb)/\((Tr.node k2 c u2 x2 l2 r2).lay nb b nx fb).ptr=.pointer (some ⟨nb,0,none⟩):=by
 unfold Tr.lay;rw[Hk (by rw[h];decide),Hl d,ha];have g:=bn b c.1;rw[ha]at g
 rcases g with rfl|rfl
 ·exact⟨⟨e,f,trivial⟩,rfl⟩
 ·exact⟨⟨e,trivial,f⟩,rfl⟩
def m_{W:World}{k2:Nat}{b:Px}{u2:Bool}{x2:Nat}{l2 r2:Tr}{a c:Px}{nb nx fb a1 a2:Nat}(d:dt b)(e:dt a)(k:bT b a=false)(h:bF b a=c)(f:c≠a)(i:aZ c a.1=a1)(l:aZ c b.1=a2)
    (m:ag W fb (((bM c false 0 .nil .nil).set (4+a1) (.pointer (some ⟨nb,0,none⟩))).set (4+a2) (.pointer (some ⟨k2,0,none⟩))) dY) (o:ag W nb (bM a true nx .nil .nil) dY) (n:cy W (.node k2 b u2 x2 l2 r2)):
    cy W ((Tr.node k2 b u2 x2 l2 r2).lay nb a nx fb)/\((Tr.node k2 b u2 x2 l2 r2).lay nb a nx fb).ptr=.pointer (some ⟨fb,0,none⟩):=by
 subst h;have j:=mQ d e k (oR d e f);rw[i,l]at j
 have t1:=bn (bF b a) a.1;have t2:=bn (bF b a) b.1;rw[i]at t1
 rw[l]at t2
 unfold Tr.lay;rw[Hk (by rw[k];decide),Hk f,i];have g:cy W (.node nb a true nx .nil .nil):=⟨o,trivial,trivial⟩
 rcases t1 with rfl|rfl
 ·rcases t2 with rfl|rfl
  ·exact absurd rfl j
  ·exact⟨⟨m,g,n⟩,rfl⟩
 ·rcases t2 with rfl|rfl
  ·exact⟨⟨m,n,g⟩,rfl⟩
  ·exact absurd rfl j
def q0{cs:List Value}{i:Nat}{v:Value}(h:cs[i]? =some v):cs.set i v=cs:=by
 obtain⟨hi,rfl⟩:=HD.1 h;exact KJ hi
def jx{w:World}{b:Nat}{u v x:Value}{a:Addr}(h:w.cell? a=some x)(c:a.block≠b):((w.setCell ⟨b,0,none⟩ u).setCell ⟨b,1,none⟩ v).cell? a=some x:=
 (((Kp.refl (λi=>i=b) w).set (p:=⟨b,0,none⟩) (.inl rfl) u).set (p:=⟨b,1,none⟩) (.inl rfl) v).cell h c
def pF(w:World)(y nb nx s:Nat)(kp f:Px)(cs:List Value)(t:Tr)(hB:ag w y cs dY)(aI:cs[1]? =some (.int .i64 kp.2))(hs:aZ kp f.1=s)(hk:cs[4+s]? =some t.ptr)(be:kp.2<=31)
    (hM:cy w t) (hw:t.WF) (aJ:t.aw.Nodup) (aK:y∉t.aw) (hN:ag w nb (bM f true nx .nil .nil) dY) (aL:nb∉t.aw) (aM:nb≠y) (A:dt f) (aN:f∉t.bq) (ih:pC t):
    Calls Tryz.prog 126 #[.pointer (some ⟨y,0,none⟩),.pointer (some ⟨nb,0,none⟩)] w λe w'=>e=.returned (.tuple #[])/\∃fb,w.heap.size<=fb/\cy w' (t.lay nb f nx fb)/\ag w' y (cs.set (4+s) (t.lay nb f nx fb).ptr) dY/\Kp (λb=>b∈t.aw\/b=nb\/b=y) w w':=by
 have bN:s<2:=by have:=bn kp f.1;omega
 have GS:=aa (λW (k:Kp ae w W)=>aF (ff W y kp ((hB.kp k (λx=>x)).cell 1 aI) be f.1 A.2));rw[hs]at GS
 have z:=hB.cell (4+s) hk;have m0:=hN.ai;have bG:=aa hB;have bH:=aa hM;have bI:=aa hw;have bf:=aa aJ;have al:=aa aK;have bK:=aa hN;have aP:=aa aL;have J:=aa aM;have aQ:=aa aN;have bg:=aa ih;have bi:=aa hk;clear hB aI hM hw aJ aK hN aL aM aN ih hk hs;go_enter Tryz.func126,Tryz.ntmps126;go_wp2_with fail;refine ar 10 (by kernel_rfl) (λ_ _ _ _ _ h=>h) ?_;simp only[aO]
 repeat((first
    |refine ay (by rfl) (by as_aux_lemma=>intro W j;have e0:=j.cell m0 (λx=>x);go_simp;exact rfl) ?_
    |refine ah (by rfl) ?_
    |refine aR (by rfl) (by as_aux_lemma=>intro W;go_simp;exact⟨rfl,rfl⟩) (by intro W j;with_reducible first|exact GS.out W j) ?_);simp only[Act.put,aH])
 intro W1 G;have z:=G.cell z (λx=>x);have X:=aa (bG.out.kp G (λx=>x));have K:=aa (bK.out.kp G (λx=>x));have an:=aa (bH.out.old G);have Y:=aa G;clear G m0 GS bG bK bH;cases t with
 |nil=>
  simp only[Tr.ptr]at z;have f4:=X.out.fz (4+s);go_wp2_with fail;refine HT (If rfl _ _ _) rfl ?_;have o:Kp (λb=>b=y) W1 (W1.setCell ⟨y,4+s,none⟩ (.pointer (some ⟨nb,0,none⟩))):=(Kp.refl (λb=>b=y) W1).set (p:=⟨y,4+s,none⟩) (.inl rfl) _;exact⟨rfl,w.heap.size,Hm _,⟨K.out.kp o J.out,trivial,trivial⟩,X.out.set (4+s) _,(Y.out.mono (λ_ _ x=>x.elim)).trans (o.mono (λ_ _ x=>.inr (.inr x)))⟩
 |node k2 n u2 x2 l2 r2=>
  obtain⟨ao,bj,bl⟩:=an.out;have B:=bI.out.1;have d0:=ao.ai;have d1:=ao.aj;have H:=K.out.ai;have n1:=K.out.aj;have aq:n≠f:=λe=>aQ.out (by rw[e];simp[Tr.bq]);have aS:decide (n=f)=false:=HN aq;have EQ:=C3 n f;simp only[aS]at EQ;simp only[Tr.ptr]at z;have bO:=(a8.1 B.1).1;have bL:=(a8.1 A.1).1;have aT:=aa (λW=>iN n.1 f.1 n.2 f.2 W B.2 A.2 (by omega) (by omega));have bP:=aa aq;clear ao bj bl aS aq;go_wp2_with fail;go_region;go_wp2_with fail;cases hc:bT n f with
  |true=>
   rw[show gj n.1 n.2 f.1 f.2=true from hc]at aT
   have L:=aa hc;refine ar 9 (by kernel_rfl) (λ_ _ _ _ _ h=>h) ?_;simp only[aO]
   repeat((first
    |refine ay (by rfl) (by as_aux_lemma=>intro W j;have e0:=j.cell d0 (λx=>x);have e1:=j.cell d1 (λx=>x);have e2:=j.cell H (λx=>x);have e3:=j.cell n1 (λx=>x);go_simp;exact rfl) ?_
    |refine ah (by rfl) ?_
    |refine aR (by rfl) (by as_aux_lemma=>intro W;go_simp;exact⟨rfl,rfl⟩) (by intro W j;with_reducible first|exact aT.out W) ?_);simp only[Act.put,aH])
   intro W2 l;replace l:=(Kp.refl ae W1).drew.trans l;have M:=aa l;have bQ:=aa (bg.out W2 nb f nx hc (an.out.old l) bI.out bf.out (K.out.kp l (λx=>x)) aP.out A aQ.out);clear l d0 d1 H n1 hc EQ z
   go_wp2_with(go_at_call 126;refine bQ.out.mono ?_;rintro e w3 ⟨rfl,fb,aU,aV,N⟩
               have au:=aa N;have O:=aa aV;have bm:=aa aU;clear N aV aU)
   refine HT (If rfl _ _ _) rfl ?_;refine⟨rfl,fb,Hy Y.out.size (Hy M.out.size bm.out),O.out,?_,?_⟩
   ·rw[pE L.out,q0 (v:=.pointer (some ⟨k2,0,none⟩)) bi.out];exact(X.out.kp M.out (λx=>x)).kp au.out (λh=>h.elim al.out (λe=>J.out e.symm))
   ·exact((Y.out.trans M.out).mono (λ_ _ x=>x.elim)).trans (au.out.mono (λ_ _ x=>x.imp_right .inl))
  |false=>
   rw[show gj n.1 n.2 f.1 f.2=false from hc]at aT
   have L:=aa hc;refine ar 9 (by kernel_rfl) (λ_ _ _ _ _ h=>h) ?_;simp only[aO]
   repeat((first
    |refine ay (by rfl) (by as_aux_lemma=>intro W j;have e0:=j.cell d0 (λx=>x);have e1:=j.cell d1 (λx=>x);have e2:=j.cell H (λx=>x);have e3:=j.cell n1 (λx=>x);go_simp;exact rfl) ?_
    |refine ah (by rfl) ?_
    |refine aR (by rfl) (by as_aux_lemma=>intro W;go_simp;exact⟨rfl,rfl⟩) (by intro W j;with_reducible first|exact aT.out W) ?_);simp only[Act.put,aH])
   intro W2 l;replace l:=(Kp.refl ae W1).drew.trans l;have M:=aa l;have d0:=l.cell d0 (λx=>x);have d1:=l.cell d1 (λx=>x);have H:=l.cell H (λx=>x);have n1:=l.cell n1 (λx=>x);have z:=l.cell z (λx=>x);have aW:=aa (λW=>tr W n f B A);clear l hc EQ aT;go_wp2_with fail;refine c5 [] [0,1,2,3,4,5,6,7,8] 9 10 ([.int .u32 0,.int .i64 0]) 72 (by kernel_rfl) (by kernel_rfl) (λc a d u w h=>by cases d<;>exact h) rfl rfl (λ_ _=>by kernel_rfl) ?_;simp only[pick,aO];show dJ _ _ _ _ _ _
   repeat((first
    |refine ay (by rfl) (by as_aux_lemma=>intro W j;have e0:=j.cell d0 (λx=>x);have e1:=j.cell d1 (λx=>x);have e2:=j.cell H (λx=>x);have e3:=j.cell n1 (λx=>x);go_simp;exact rfl) ?_
    |refine ah (by rfl) ?_
    |refine aR (by rfl) (by as_aux_lemma=>intro W;go_simp;exact⟨rfl,rfl⟩) (by intro W j;with_reducible first|exact aW.out W) ?_);simp only[Act.put,aH])
   show ∀b W,_->_->_->wpList _ _ _ _ _ _;simp only[Act.put,aH];intro g w3 aX I N;have z0:w3.cell? ⟨g,0,none⟩=some (.int .u32 0):=I.ai;have z1:w3.cell? ⟨g,1,none⟩=some (.int .i64 0):=I.aj;have y0:w3.frozen? ⟨g,0,none⟩=false:=I.fz 0;have y1:w3.frozen? ⟨g,1,none⟩=false:=I.fz 1;have P:=aa (show W2.heap.size<=g/\ag w3 g [.int .u32 0,.int .i64 0] 72/\Kp ae W2 w3 from⟨aX,I,N⟩);clear aX I N;go_wp2_with fail;have C:Kp ae W2 ((w3.setCell ⟨g,0,none⟩ (.int .u32 (bF n f).1)).setCell ⟨g,1,none⟩ (.int .i64 (bF n f).2)):=(P.out.2.2.set (p:=⟨g,0,none⟩) (.inr P.out.1) _).set (p:=⟨g,1,none⟩) (.inr P.out.1) _;have Q:ag ((w3.setCell ⟨g,0,none⟩ (.int .u32 (bF n f).1)).setCell ⟨g,1,none⟩ (.int .i64 (bF n f).2)) g [.int .u32 (bF n f).1,.int .i64 (bF n f).2] 72:=(P.out.2.1.set 0 _).set 1 _;obtain⟨D,aY⟩:∃W,(w3.setCell ⟨g,0,none⟩ (.int .u32 (bF n f).1)).setCell ⟨g,1,none⟩ (.int .i64 (bF n f).2)=W:=⟨_,rfl⟩
   rw[aY]at C Q ⊢
   clear aY z0 z1 y0 y1 P;have au:=aa C;have bR:=aa Q;have R:=M.out.trans C;have O:=aa (an.out.old R);have Z:=aa (K.out.kp R (λx=>x));have av:=aa (X.out.kp R (λx=>x));have S:=aa (Y.out.trans R);have hl:bh n f<n.2:=oq B A L.out;have bp:(bF n f).2<n.2:=hl;have a0:=jj (q:=f) B.1;have d0:=C.cell d0 (λx=>x);have z:=C.cell z (λx=>x);have H:=C.cell H (λx=>x);have n1:=C.cell n1 (λx=>x);have c0:=Q.ai;have c1:=Q.aj;obtain⟨c,ax⟩:∃c,bF n f=c:=⟨_,rfl⟩
   rw[ax]at c0 c1 bp a0
   have a3:=aa ax;have bX:=aa hl;clear C Q R ax hl d1 aW;by_cases E:c=f
   ·have hd:decide (c=f)=true:=Hz E;have NQ:=qN c f;simp only[hd]at NQ;have az:=aa E;have a4:f.2<=31:=by rw[<-E];omega
    obtain⟨a,ha⟩:∃a,aZ f n.1=a:=⟨_,rfl⟩
    have bS:a<2:=by have:=bn f n.1;omega
    have a5:=aa (λW (k:Kp ae D W)=>aF (ff W nb f ((Z.out.kp k (λx=>x)).aj) a4 n.1 B.2));rw[ha]at a5
    have bU:=aa ha;clear hd E ha;go_wp2_with fail;go_region;go_wp2_with fail;refine ar 11 (by kernel_rfl) (λ_ _ _ _ _ h=>h) ?_;simp only[aO]
    repeat((first
      |refine ay (by rfl) (by as_aux_lemma=>intro W j;have e0:=j.cell d0 (λx=>x);go_simp;exact rfl) ?_
      |refine ah (by rfl) ?_
      |refine aR (by rfl) (by as_aux_lemma=>intro W;go_simp;exact⟨rfl,rfl⟩) (by intro W j;with_reducible first|exact a5.out W ((Kp.refl ae D).drew.trans j)) ?_);simp only[Act.put,aH])
    intro W4 r;replace r:=(Kp.refl ae D).drew.trans r;have U:=aa r;have aA:=aa (Z.out.kp r (λx=>x));have a6:=aa (av.out.kp r (λx=>x));have br:=aa (O.out.old r);obtain⟨v,hv⟩:∃v,(bM f true nx .nil .nil)[4+a]? =some v:=⟨_,Hn (by simp[bM];omega)⟩
    have m4:=aA.out.cell (4+a) hv;have y4:=aA.out.fz (4+a);have b5:=r.cell z (λx=>x);have y5:=a6.out.fz (4+s);have bs:nb≠y:=J.out;have bu:y≠nb:=λe=>J.out e.symm;clear r z d0 H n1 c0 c1 NQ hv;go_wp2_with fail;go_end0;have o:Kp (λb=>b=nb\/b=y) W4 ((W4.setCell ⟨nb,4+a,none⟩ (.pointer (some ⟨k2,0,none⟩))).setCell ⟨y,4+s,none⟩ (.pointer (some ⟨nb,0,none⟩))):=((Kp.refl (λb=>b=nb\/b=y) W4).set (p:=⟨nb,4+a,none⟩) (.inl (.inl rfl)) _).set (p:=⟨y,4+s,none⟩) (.inl (.inr rfl)) _;obtain⟨m,pe⟩:=r9 (nx:=nx) (u2:=u2) (x2:=x2) (l2:=l2) (r2:=r2) w.heap.size L.out (a3.out.trans az.out) bU.out ((aA.out.set (4+a) (.pointer (some ⟨k2,0,none⟩))).bJ (a:=⟨y,4+s,none⟩) bs (.pointer (some ⟨nb,0,none⟩))) (br.out.kp o (λb hb e=>e.elim (λe=>aP.out (e▸hb)) (λe=>al.out (e▸hb))));refine⟨rfl,w.heap.size,Hm _,m,?_,(((S.out.trans U.out).mono (λ_ _ x=>x.elim)).trans (o.mono (λ_ _ x=>.inr x)))⟩;rw[pe];exact(a6.out.bJ (a:=⟨nb,4+a,none⟩) bu _).set (4+s) _
   ·have hd:decide (c=f)=false:=HN E;have NQ:=qN c f;simp only[hd]at NQ;have az:=aa E;obtain⟨a1,h1⟩:∃a,aZ c f.1=a:=⟨_,rfl⟩
    obtain⟨a2,h2⟩:∃a,aZ c n.1=a:=⟨_,rfl⟩
    have l1:a1<2:=by have:=bn c f.1;omega
    have bV:a2<2:=by have:=bn c n.1;omega
    have bv:=aa h1;have bw:=aa h2;clear hd E;go_wp2_with fail;go_region;go_wp2_with fail;have r:Kp ae D (D.alloc (.cells #[.int .u32 c.1,.int .i64 c.2,.bool false,.int .u64 0,.pointer none,.pointer none] 285)).drew:=((Kp.refl ae D).alloc _).drew;have hG:ag (D.alloc (.cells #[.int .u32 c.1,.int .i64 c.2,.bool false,.int .u64 0,.pointer none,.pointer none] 285)).drew D.heap.size (bM c false 0 .nil .nil) dY:=(ag.new D (bM c false 0 .nil .nil) dY).drew;obtain⟨W4,a7⟩:∃W,(D.alloc (.cells #[.int .u32 c.1,.int .i64 c.2,.bool false,.int .u64 0,.pointer none,.pointer none] 285)).drew=W:=⟨_,rfl⟩
    have gn:nb≠D.heap.size:=IW Z.out.lt;have gk:y≠D.heap.size:=IW av.out.lt;have gt:∀b∈(Tr.node k2 n u2 x2 l2 r2).aw,b≠D.heap.size:=λb hb=>IW (O.out.lt b hb);have gw:w.heap.size<=D.heap.size:=S.out.size;obtain⟨g2,aB⟩:∃g,D.heap.size=g:=⟨_,rfl⟩
    rw[aB]at hG gn gk gt gw ⊢
    rw[a7]at r hG ⊢
    have a9:=aa gt;have a_:=aa gw;have bz:=aa aB;have aC:=aa (λW (k:Kp ae W4 W)=>aF (ff W g2 c ((hG.kp k (λx=>x)).aj) (by omega) f.1 A.2));rw[h1]at aC
    have U:=aa r;have bW:=aa hG;have H:=r.cell H (λx=>x);have d0:=r.cell d0 (λx=>x);have z:=r.cell z (λx=>x);clear a7 aB r hG gt gw h1 c0 c1 n1 NQ;refine ar 11 (by kernel_rfl) (λ_ _ _ _ _ h=>h) ?_;simp only[aO]
    repeat((first
      |refine ay (by rfl) (by as_aux_lemma=>intro W j;have e0:=j.cell H (λx=>x);go_simp;exact rfl) ?_
      |refine ah (by rfl) ?_
      |refine aR (by rfl) (by as_aux_lemma=>intro W;go_simp;exact⟨rfl,rfl⟩) (by intro W j;with_reducible first|exact aC.out W j) ?_);simp only[Act.put,aH])
    intro W5 V;have bA:=aa V;have aD:=aa (bW.out.kp V (λx=>x));obtain⟨v,hv⟩:∃v,(bM c false 0 .nil .nil)[4+a1]? =some v:=⟨_,Hn (by simp[bM];omega)⟩
    have m4:=aD.out.cell (4+a1) hv;have y4:=aD.out.fz (4+a1);have d0:=V.cell d0 (λx=>x);have z:=V.cell z (λx=>x);clear V hv H aC;go_wp2_with fail;have o:Kp (λb=>b=g2) W5 (W5.setCell ⟨g2,4+a1,none⟩ (.pointer (some ⟨nb,0,none⟩))):=(Kp.refl (λb=>b=g2) W5).set (p:=⟨g2,4+a1,none⟩) (.inl rfl) _;have ac:=aD.out.set (4+a1) (.pointer (some ⟨nb,0,none⟩));obtain⟨W6,ba⟩:∃W,W5.setCell ⟨g2,4+a1,none⟩ (.pointer (some ⟨nb,0,none⟩))=W:=⟨_,rfl⟩
    rw[ba]at o ac ⊢
    have af:∀i,i<D.heap.size->i≠g2:=λi hi=>by rw[<-bz.out];omega
    have ak:Kp ae D W6:=(U.out.trans bA.out).then o (λi hi e=>absurd e (af i hi));have d0:=o.cell d0 (a9.out k2 (by simp[Tr.aw]));have z:=o.cell z gk;have aE:=aa (λW (k:Kp ae W6 W)=>aF (ff W g2 c ((ac.kp k (λx=>x)).cell 1 (by rw[HL (by omega)];rfl)) (by omega) n.1 B.2));rw[h2]at aE
    have bB:=aa ac;have bb:=aa ak;clear ba o ac af ak m4 y4 h2;refine ar 11 (by kernel_rfl) (λ_ _ _ _ _ h=>h) ?_;simp only[aO]
    repeat((first
      |refine ay (by rfl) (by as_aux_lemma=>intro W j;have e0:=j.cell d0 (λx=>x);go_simp;exact rfl) ?_
      |refine ah (by rfl) ?_
      |refine aR (by rfl) (by as_aux_lemma=>intro W;go_simp;exact⟨rfl,rfl⟩) (by intro W j;with_reducible first|exact aE.out W j) ?_);simp only[Act.put,aH])
    intro W7 ad;have F:=aa (bb.out.trans ad);have aG:=aa (bB.out.kp ad (λx=>x));obtain⟨v2,hv⟩:∃v,((bM c false 0 .nil .nil).set (4+a1) (.pointer (some ⟨nb,0,none⟩)))[4+a2]? =some v:=⟨_,Hn (by simp[bM];omega)⟩
    have m4:=aG.out.cell (4+a2) hv;have y4:=aG.out.fz (4+a2);have bc:=aa (av.out.kp F.out (λx=>x));have bC:=aa (Z.out.kp F.out (λx=>x));have bD:=aa (O.out.old F.out);have b5:=ad.cell z (λx=>x);have y5:=bc.out.fz (4+s);have bE:g2≠y:=λe=>gk e.symm;clear ad hv z d0 aE;go_wp2_with fail;go_end0;have o:Kp (λb=>b=g2\/b=y) W7 ((W7.setCell ⟨g2,4+a2,none⟩ (.pointer (some ⟨k2,0,none⟩))).setCell ⟨y,4+s,none⟩ (.pointer (some ⟨g2,0,none⟩))):=((Kp.refl (λb=>b=g2\/b=y) W7).set (p:=⟨g2,4+a2,none⟩) (.inl (.inl rfl)) _).set (p:=⟨y,4+s,none⟩) (.inl (.inr rfl)) _;obtain⟨m,pe⟩:=m_ (nx:=nx) (u2:=u2) (x2:=x2) (l2:=l2) (r2:=r2) B A L.out a3.out az.out bv.out bw.out ((aG.out.set (4+a2) (.pointer (some ⟨k2,0,none⟩))).bJ (a:=⟨y,4+s,none⟩) bE (.pointer (some ⟨g2,0,none⟩))) (bC.out.kp o (λe=>e.elim gn J.out)) (bD.out.kp o (λb hb e=>e.elim (a9.out b hb) (λe=>al.out (e▸hb))));refine⟨rfl,g2,a_.out,m,?_,?_⟩
    ·rw[pe];exact(bc.out.bJ (a:=⟨g2,4+a2,none⟩) gk _).set (4+s) _
    ·exact((S.out.trans F.out).mono (T:=λb=>b∈(Tr.node k2 n u2 x2 l2 r2).aw\/b=nb\/b=y) (λ_ _ x=>x.elim)).then o (λi hi e=>e.elim (λe=>by have:=a_.out;omega) (λe=>.inr (.inr e)))
def vi(T:Tr):pC T:=by
 induction T with
 |nil=>intro w nb j nx t;exact t.elim
 |node A kp B C u v F G=>
  intro w nb j nx t H hw m D a k d;obtain⟨E,n,o⟩:=H;obtain⟨I,w1,M,w3,J⟩:=hw;simp only[Tr.aw,H6,Hu,not_or,Ib]at m;obtain⟨⟨p,q⟩,x,y,g⟩:=m;simp only[Tr.aw,Ho,Hu,not_or]at a;simp only[Tr.bq,Ho,Hu,not_or]at d;have f:bT kp j=true:=t;have K:kp.2<j.2:=by
   rcases HW kp.2 j.2 with h|h
   ·exact h
   ·exact absurd (iL f (by have:=lX f;omega)).symm d.1
  have L:=(a8.1 k.1).1;rcases bn kp j.1 with s|s
  ·refine(pF w A nb nx 0 kp j (bM kp B C u v) u E rfl s rfl (by omega) n w3 x p D a.2.1 a.1 k d.2.1 F).mono ?_;rintro e w' ⟨he,fb,l,hm,z,r⟩;refine⟨he,fb,l,?_,r.mono (λi _ hi=> ?_)⟩
   ·unfold Tr.lay;rw[Hl f,Hl s];refine⟨z,hm,o.kp r (λb c h=> ?_)⟩;rcases h with h|h|h
    ·exact g b h b c rfl
    ·subst h;exact a.2.2 c
    ·subst h;exact q c
   ·rcases hi with h|h|h
    ·left;simp[Tr.aw,h]
    ·right;exact h
    ·left;simp[Tr.aw,h]
  ·refine(pF w A nb nx 1 kp j (bM kp B C u v) v E rfl s rfl (by omega) o J y q D a.2.2 a.1 k d.2.2 G).mono ?_;rintro e w' ⟨he,fb,l,hm,z,r⟩;refine⟨he,fb,l,?_,r.mono (λi _ hi=> ?_)⟩
   ·unfold Tr.lay;rw[Hl f,Hk (by omega)];refine⟨z,n.kp r (λb c h=> ?_),hm⟩;rcases h with h|h|h
    ·exact g b c b h rfl
    ·subst h;exact a.2.1 c
    ·subst h;exact p c
   ·rcases hi with h|h|h
    ·left;simp[Tr.aw,h]
    ·right;exact h
    ·left;simp[Tr.aw,h]
def Tr.at_mem{T:Tr}{p:Px}{b:Nat}{u:Bool}{x:Nat}(h:T.at_ p=some (b,u,x)):b∈T.aw:=by
 induction T with
 |nil=>cases h
 |node d kp e f g i a c=>
  unfold Tr.at_ at h;simp only[Tr.aw,Ho,Hu];split at h
  ·cases h;exact .inl rfl
  ·split at h
   ·cases h
   ·split at h
    ·exact .inr (.inl (a h))
    ·exact .inr (.inr (c h))
def cy.at_{w:World}{T:Tr}{p:Px}{b:Nat}{u:Bool}{x:Nat}(a:cy w T)(h:T.at_ p=some (b,u,x)):∃l r,ag w b (bM p u x l r) dY:=by
 induction T with
 |nil=>cases h
 |node j kp k m n o c d=>
  obtain⟨f,g,i⟩:=a;unfold Tr.at_ at h;split at h
  ·rename_i e;cases h;subst e;exact⟨_,_,f⟩
  ·split at h
   ·cases h
   ·split at h
    ·exact c g h
    ·exact d i h
def Tr.iV(T:Tr)(p:Px)(y:Nat):(T.dR p y).ptr=T.ptr:=by
 cases T with
 |nil=>rfl
 |node a kp b c d e=>
  unfold Tr.dR;split
  ·rfl
  ·split<;>rfl
def pG{w w':World}{T:Tr}{p:Px}{b:Nat}{u:Bool}{y x:Nat}(r:cy w T)(f:T.aw.Nodup)(h:T.at_ p=some (b,u,y))(d:Kp (λi=>i=b) w w')
    (s:∀cs,ag w b cs dY->ag w' b ((cs.set 2 (.bool true)).set 3 (.int .u64 x)) dY):cy w' (T.dR p x):=by
 induction T with
 |nil=>cases h
 |node z kp A B C D t v=>
  obtain⟨k,l,m⟩:=r;simp only[Tr.aw,H6,Hu,not_or,Ib]at f;obtain⟨⟨g,j⟩,n,o,c⟩:=f;unfold Tr.at_ at h;unfold Tr.dR;split at h
  ·rename_i e;cases h;rw[Hl e];exact⟨s _ k,l.kp d (λi hi e=>g (e▸hi)),m.kp d (λi hi e=>j (e▸hi))⟩
  ·rename_i e;rw[Hk e];split at h
   ·cases h
   ·split at h
    ·rename_i q;rw[Hl q];have a:=Tr.at_mem h;refine⟨?_,t l n h,m.kp d (λi hi e=>c b a i hi e.symm)⟩;unfold bM;rw[Tr.iV];exact k.kp d (λe=>g (e▸a))
    ·rename_i q;rw[Hk q];have a:=Tr.at_mem h;refine⟨?_,l.kp d (λi hi e=>c i hi b a e),v m o h⟩;unfold bM;rw[Tr.iV];exact k.kp d (λe=>j (e▸a))
abbrev r_:TypeId:=287
structure bV (w:World) (base tb:Nat) (T:Tr) (n:Nat):Prop where
 blk:ag w tb [T.ptr,.int .i64 n] r_
 mem:cy w T
 wf:T.WF
 nd:T.aw.Nodup
 out:tb∉T.aw
 low:∀b∈T.aw,base<=b
 tlow:base<=tb
 blow:base<=w.heap.size
 root:∀p,dt p->gK T p
def bV.old{w w':World}{base tb n:Nat}{T:Tr}(h:bV w base tb T n)(k:Kp ae w w'):bV w' base tb T n:=
 ⟨h.blk.kp k (λx=>x),h.mem.old k,h.wf,h.nd,h.out,h.low,h.tlow,Hy h.blow k.size,h.root⟩
def q1{p:Px}(hp:dt p):bT (0,0) p=true:=by
 rw[gS];refine⟨hp.1,Hv _,iM.2 ⟨a8.2 ⟨by decide,by simp⟩,?_⟩⟩;have:=hp.2;show p.1/4294967296=0/4294967296;omega
def nQ{T:Tr}{a:Px}(h:gK T a)(nb nx fb:Nat)(q:Px):gK (T.lay nb a nx fb) q=gK T q:=by
 cases T with
 |nil=>exact h.elim
 |node c kp d e f g=>
  have b:bT kp a=true:=h;unfold Tr.lay;rw[Hl b];split<;>rfl
def nR(T:Tr)(p:Px)(x:Nat)(q:Px):gK (T.dR p x) q=gK T q:=by
 cases T with
 |nil=>rfl
 |node a kp b c d e=>
  unfold Tr.dR;split
  ·rfl
  ·split<;>rfl
def q2{T:Tr}{a:Px}(h:gK T a)(nb nx fb:Nat):(T.lay nb a nx fb).ptr=T.ptr:=by
 cases T with
 |nil=>exact h.elim
 |node b kp c d e f=>exact pE h nb nx fb
def q3{T:Tr}{p:Px}(h:T.at_ p=none):eg T p=.pointer none:=by unfold eg;rw[h]
def q4{T:Tr}{p:Px}{b:Nat}{u:Bool}{y:Nat}(h:T.at_ p=some (b,u,y)):eg T p=.pointer (some ⟨b,0,none⟩):=by unfold eg;rw[h]
def bV.laid{c w':World}{base tb n n' x fb:Nat}{T:Tr}{p:Px}(h:bV c base tb T n)(hp:dt p)(ha:T.at_ p=none)(l:c.heap.size+1<=fb)(d:ag w' tb [T.ptr,.int .i64 n'] r_)(hm:cy w' (T.lay c.heap.size p x fb))(m:c.heap.size<=w'.heap.size):bV w' base tb (T.put c.heap.size p x fb) n':=by
 have e:T.put c.heap.size p x fb=T.lay c.heap.size p x fb:=by unfold Tr.put;rw[ha]
 rw[e];have j:p∉T.bq:=λhm=>by
  obtain⟨b,u,y,a,_⟩:=Tr.hR h.wf hm;rw[ha]at a;cases a
 have g:=h.mem.lt;have o:=h.blk.lt;obtain⟨F,hF,f⟩:=Tr.qy T p c.heap.size x fb;have i:∀b,b∈(T.lay c.heap.size p x fb).aw->b=fb\/b=c.heap.size\/b∈T.aw:=λb d=>by
  have:=f.mem_iff.1 d;rw[Hu,Ho]at this
  rcases this with a|a|a
  ·left;rcases hF with rfl|rfl
   ·cases a
   ·simpa using a
  ·exact .inr (.inl a)
  ·exact .inr (.inr a)
 refine⟨by rw[q2 (h.root p hp)];exact d,hm,Tr.ot h.wf hp j _ _ _,?_,?_,?_,h.tlow,Hy h.blow m,λq r=>by rw[nQ (h.root p hp)];exact h.root q r⟩
 ·rw[f.nodup_iff];have a:(c.heap.size::T.aw).Nodup:=H6.2 ⟨λd=>Jt _ (g _ d),h.nd⟩;rcases hF with rfl|rfl
  ·exact a
  ·refine H6.2 ⟨λd=> ?_,a⟩;rcases Ho.1 d with k|k
   ·omega
   ·have:=g _ k;omega
 ·intro d;rcases i _ d with a|a|a
  ·omega
  ·omega
  ·exact h.out a
 ·intro b d;have:=h.blow;rcases i _ d with a|a|a
  ·omega
  ·omega
  ·exact h.low b a
def bV.dR{a w':World}{base tb n n' x nb fb b y:Nat}{T:Tr}{p:Px}(h:bV a base tb T n)(ha:T.at_ p=some (b,false,y))(c:ag w' tb [T.ptr,.int .i64 n'] r_)(hm:cy w' (T.dR p x))(d:a.heap.size<=w'.heap.size):bV w' base tb (T.put nb p x fb) n':=by
 have e:T.put nb p x fb=T.dR p x:=by unfold Tr.put;rw[ha]
 rw[e];exact⟨by rw[Tr.iV];exact c,hm,Tr.oo h.wf _ _,by rw[Tr.hC];exact h.nd,by rw[Tr.hC];exact h.out,by rw[Tr.hC];exact h.low,h.tlow,Hy h.blow d,λq f=>by rw[nR];exact h.root q f⟩
def bV.count{w:World}{base tb n:Nat}{T:Tr}(h:bV w base tb T n):bV (w.setCell ⟨tb,1,none⟩ (.int .i64 ((n:Int)+1))) base tb T (n+1):=by
 have a:Kp (λi=>i=tb) w (w.setCell ⟨tb,1,none⟩ (.int .i64 ((n:Int)+1))):=(Kp.refl (λi=>i=tb) w).set (p:=⟨tb,1,none⟩) (.inl rfl) _;exact⟨h.blk.set 1 _,h.mem.kp a (λb c e=>h.out (e▸c)),h.wf,h.nd,h.out,h.low,h.tlow,Hy h.blow a.size,h.root⟩
def wo(w:World)(base tb n x:Nat)(T:Tr)(h:bV w base tb T n)(p:Px)(hp:dt p)(hn:n<4096):
    Calls Tryz.prog 102 #[.pointer (some ⟨tb,0,none⟩),.agg #[.int .u32 p.1,.int .i64 p.2],.int .u64 x] w λe w'=>∃c nb fb n',e=.returned (.int .i64 c)/\n'<=n+1/\bV w' base tb (T.put nb p x fb) n'/\Kp (λb=>base<=b) w w':=by
 have a:=(Kp.refl ae w).alloc (.cells #[.int .u32 p.1,.int .i64 p.2] 72);have B:ag (w.alloc (.cells #[.int .u32 p.1,.int .i64 p.2] 72)) w.heap.size [.int .u32 p.1,.int .i64 p.2] 72:=ag.new w [.int .u32 p.1,.int .i64 p.2] _;have al:=(a8.1 hp.1).1;have Q:=aa (λW=>hr p.1 p.2 W hp.2 (by omega));rw[show bs p.1 p.2=true from hp.1]at Q
 have H1:=aa (h.old a);have HF:=aa (r3 (w.alloc (.cells #[.int .u32 p.1,.int .i64 p.2] 72)) tb T n (h.old a).blk (h.old a).mem h.wf p hp);obtain⟨q,S⟩:∃q,T.ptr=.pointer (some ⟨q,0,none⟩):=by
  have:=h.root p hp;cases T with
  |nil=>exact this.elim
  |node kb kp ku kx kl kr=>exact⟨kb,rfl⟩
 have c0:=(h.old a).blk.ai;rw[S]at c0
 have z:=B.ai;have A:=B.aj;have R:=aa h;have U:=aa B;have af:=aa S;clear h a B S;rcases ha:T.at_ p with _|⟨b,u,y⟩
 ·rw[q3 ha]at HF
  have G:=aa ha;clear ha;go_enter Tryz.func102,Tryz.ntmps102
  go_wp2_with(first
   |(go_at_call 125;refine HF.out.mono ?_;rintro e w1 ⟨rfl,a⟩
     have o:=aa (H1.out.old a);have H:=aa (U.out.kp a (λx=>x));have c0:=a.cell c0 (λx=>x);have z:=a.cell z (λx=>x);have A:=a.cell A (λx=>x)
     have s:=aa a;clear a)
   |(go_at_call 39;refine(Q.out _).mono ?_;rintro e g ⟨rfl,f⟩
     have d:=aa (o.out.old f);have V:=aa (H.out.kp f (λx=>x));have c0:=f.cell c0 (λx=>x);have z:=f.cell z (λx=>x);have A:=f.cell A (λx=>x);have c1:=d.out.blk.aj
     have t:=aa f;clear f))
  have E:=d.out.root p hp;have M:p∉T.bq:=λhm=>by
   obtain⟨b,u,y,h1,_⟩:=Tr.hR d.out.wf hm;rw[G.out]at h1;cases h1
  have ah:=aa (λW (k:Kp ae g W) (I:ag W g.heap.size (bM p true x .nil .nil) dY)=>vi T W g.heap.size p x E (d.out.mem.old k) d.out.wf d.out.nd I (λI=>Jt _ (d.out.mem.lt _ I)) hp M);rw[af.out]at ah
  have an:tb≠g.heap.size:=IW d.out.blk.lt;clear M E;go_region_held3 (λw'=>w'.cell? ⟨tb,0,none⟩=some (.pointer (some ⟨q,0,none⟩))/\w'.cell? ⟨w.heap.size,0,none⟩=some (.int .u32 p.1)/\w'.cell? ⟨w.heap.size,1,none⟩=some (.int .i64 p.2)) (go_keep)
   ((go_at_call 126
     refine(ah.out _ ((Kp.refl ae g).alloc _).drew (ag.new g (bM p true x .nil .nil) dY).drew).mono ?_;rintro e w5 ⟨rfl,fb,N,O,P⟩;have j:Kp (λb=>b∈T.aw) g w5:=(((Kp.refl (λb=>b∈T.aw) g).alloc _).drew).then P (λi hi e=>e.elim (λh=>h) (λe=>absurd e (IW hi)));have v:=d.out.blk.kp j d.out.out;have e0:=v.cell 0 (show some T.ptr=_ by rw[af.out]);have e1:=v.aj;have y1:=v.fz 1;have J:=V.out.kp j (λI=>Jt _ (R.out.mem.lt _ I));have e2:=J.ai;have e3:=J.aj;clear J
     have X:=aa O;have F:=aa j;have Y:=aa N;have Z:=aa v;clear O j N v P))
  have hw:IntKind.i64.wrap ((n:Int)+1)=(n:Int)+1:=by rw[H3];omega
  go_wp2_with fail;go_ret;have hf:g.heap.size+1<=fb:=by have:=Y.out;rwa [show(g.alloc (.cells (bM p true x .nil .nil).toArray dY)).drew.heap.size=g.heap.size+1 from HB _ _]at this
  have hM:=d.out.laid (n':=n) hp G.out hf Z.out X.out F.out.size;refine⟨0,g.heap.size,fb,n+1,rfl,Hm _,hM.count,?_⟩;have ac:Kp ae w g:=(((Kp.refl ae w).alloc _).trans s.out).trans t.out;exact((ac.mono (T:=λb=>base<=b) (λ_ _ x=>x.elim)).trans (F.out.mono (λi _ hi=>d.out.low i hi))).set (p:=⟨tb,1,none⟩) (.inl d.out.tlow) _
 ·have C:=cy.at_ R.out.mem ha;obtain⟨l,r,C⟩:=C;have ak:=aa C;rw[q4 ha]at HF
  have G:=aa ha;have K:=Tr.at_mem ha;have ao:=R.out.mem.lt b K;have ad:b≠tb:=λe=>R.out.out (e▸K);clear C ha K;cases u with
  |true=>
   go_enter Tryz.func102,Tryz.ntmps102
   go_wp2_with(first
    |(go_at_call 125;refine HF.out.mono ?_;rintro e w1 ⟨rfl,a⟩
      have o:=aa (H1.out.old a);have H:=aa (U.out.kp a (λx=>x));have z:=a.cell z (λx=>x);have A:=a.cell A (λx=>x);have L:=aa ((ak.out.alloc (.cells #[.int .u32 p.1,.int .i64 p.2] 72)).kp a (λx=>x))
      have s:=aa (((Kp.refl ae w).alloc _).trans a);clear a c0)
    |(go_at_call 39;refine(Q.out _).mono ?_;rintro e g ⟨rfl,f⟩
      have d:=aa (o.out.old f);have m:=aa (L.out.kp f (λx=>x));have n1:=m.out.aq
      have t:=aa (s.out.trans f);clear f z A))
   go_ret;have e:T.put 0 p x 0=T:=by unfold Tr.put;rw[G.out]
   exact⟨8,0,0,n,rfl,by omega,by rw[e];exact d.out,t.out.mono (λ_ _ x=>x.elim)⟩
  |false=>
   go_enter Tryz.func102,Tryz.ntmps102;have hw:IntKind.i64.wrap ((n:Int)+1)=(n:Int)+1:=by rw[H3];omega
   go_wp2_with(first
    |(go_at_call 125;refine HF.out.mono ?_;rintro e w1 ⟨rfl,a⟩
      have o:=aa (H1.out.old a);have H:=aa (U.out.kp a (λx=>x));have z:=a.cell z (λx=>x);have A:=a.cell A (λx=>x);have L:=aa ((ak.out.alloc (.cells #[.int .u32 p.1,.int .i64 p.2] 72)).kp a (λx=>x))
      have s:=aa (((Kp.refl ae w).alloc _).trans a);clear a c0)
    |(go_at_call 39;refine(Q.out _).mono ?_;rintro e g ⟨rfl,f⟩
      have d:=aa (o.out.old f);have m:=aa (L.out.kp f (λx=>x));have n1:=m.out.aq;have n2:=m.out.aK;have z1:=m.out.fz 2;have z2:=m.out.fz 3;have c1:=d.out.blk.aj;have y1:=d.out.blk.fz 1
      have t:=aa (s.out.trans f);clear f z A))
   go_ret;have D:Kp (λi=>i=b) g ((g.setCell ⟨b,2,none⟩ (.bool true)).setCell ⟨b,3,none⟩ (.int .u64 x)):=((Kp.refl (λi=>i=b) g).set (p:=⟨b,2,none⟩) (.inl rfl) _).set (p:=⟨b,3,none⟩) (.inl rfl) _;have hM:=d.out.dR (nb:=0) (fb:=0) (x:=x) G.out (d.out.blk.kp D (λe=>ad e.symm)) (pG d.out.mem d.out.nd G.out D (λcs I=>(I.set 2 _).set 3 _)) D.size;refine⟨0,0,0,n+1,rfl,Hm _,hM.count,?_⟩;exact((t.out.mono (T:=λb=>base<=b) (λ_ _ x=>x.elim)).trans (D.mono (λi _ hi=>by subst hi;exact d.out.low _ (Tr.at_mem G.out)))).set (p:=⟨tb,1,none⟩) (.inl d.out.tlow) _
def wq(w:World):Calls Tryz.prog 101 #[] w λe w'=>∃tb T,e=.returned (.pointer (some ⟨tb,0,none⟩))/\bV w' w.heap.size tb T 0/\Kp ae w w'/\∃b,T=.node b (0,0) false 0 .nil .nil:=by
 go_enter Tryz.func101,Tryz.ntmps101;go_wp2;go_ret;have c:ag (w.alloc (.cells (bM (0,0) false 0 .nil .nil).toArray dY)) w.heap.size (bM (0,0) false 0 .nil .nil) dY:=ag.new w (bM (0,0) false 0 .nil .nil) dY;have a:=ag.new (w.alloc (.cells (bM (0,0) false 0 .nil .nil).toArray dY)) [.pointer (some ⟨w.heap.size,0,none⟩),.int .i64 ((0:Nat):Int)] r_;rw[HB]at a
 refine⟨w.heap.size+1,.node w.heap.size (0,0) false 0 .nil .nil,rfl,?_,((Kp.refl ae w).alloc _).alloc _,w.heap.size,rfl⟩;refine⟨a,⟨c.alloc _,trivial,trivial⟩,(cU.start [] w.heap.size).wf,by simp[Tr.aw],by simp[Tr.aw],by simp[Tr.aw],by omega,?_,λp hp=>q1 hp⟩;rw[HB,HB];omega
def cR(r:b5):List Value:=[.int .u32 r.s.1,.int .i64 r.s.2,.int .u32 r.d.1,.int .i64 r.d.2,.int .u16 r.lo,.int .u16 r.hi,.int .u32 r.fl]
def eM(r:b5):(cR r).length=7:=rfl
def cX(r:b5):Nat×Int:=r.s
def cY(r:b5):Nat×Int:=r.d
def C7(s d:Nat×Int)(lo hi fl:Nat)(w:World):Calls Tryz.prog 71 #[.agg #[.int .u32 s.1,.int .i64 s.2,.int .u32 d.1,.int .i64 d.2,.int .u16 lo,.int .u16 hi,.int .u32 fl]] w λe w'=>e=.returned (.agg #[.int .u32 s.1,.int .i64 s.2])/\Kp ae w w':=by
 have a:=(ag.new (w.alloc (.cells #[.int .u32 s.1,.int .i64 s.2,.int .u32 d.1,.int .i64 d.2,.int .u16 lo,.int .u16 hi,.int .u32 fl] 108)) [.int .u32 s.1,.int .i64 s.2] 72)
 rw[HB]at a
 have b:=aa a;clear a;go_enter Tryz.func71,Tryz.ntmps71;go_wp2;refine mV (by rfl) b.out _ Tryz.underlying72 rfl (by kernel_rfl) (by rfl) ?_;exact⟨rfl,((Kp.refl ae w).alloc _).alloc _⟩
def C8(s d:Nat×Int)(lo hi fl:Nat)(w:World):Calls Tryz.prog 72 #[.agg #[.int .u32 s.1,.int .i64 s.2,.int .u32 d.1,.int .i64 d.2,.int .u16 lo,.int .u16 hi,.int .u32 fl]] w λe w'=>e=.returned (.agg #[.int .u32 d.1,.int .i64 d.2])/\Kp ae w w':=by
 have a:=(ag.new (w.alloc (.cells #[.int .u32 s.1,.int .i64 s.2,.int .u32 d.1,.int .i64 d.2,.int .u16 lo,.int .u16 hi,.int .u32 fl] 108)) [.int .u32 d.1,.int .i64 d.2] 72)
 rw[HB]at a
 have b:=aa a;clear a;go_enter Tryz.func72,Tryz.ntmps72;go_wp2;refine mV (by rfl) b.out _ Tryz.underlying72 rfl (by kernel_rfl) (by rfl) ?_;exact⟨rfl,((Kp.refl ae w).alloc _).alloc _⟩
def kF(b:Nat)(a:b<64):IntKind.u64.wrap ((2:Int)^b)=((2^b:Nat):Int):=by
 have h:2^b<2^64:=Jb (by decide) a;rw[HO];have e:(2:Int)^b=((2^b:Nat):Int):=by simp
 rw[e];generalize 2^b=y at*;omega
def lI{f:Nat->Bool}{k:Nat}(a:k<64)(h:f k=true):bits BinOp.or IntKind.u64 ((bitsOf f k:Nat):Int) (IntKind.u64.wrap ((2:Int)^k))=((bitsOf f (k+1):Nat):Int):=by
 rw[kF k a];have e:bitsOf f (k+1)=bitsOf f k|||2^k:=by simp only[bitsOf,h]
 rw[e];exact bits_or_u64_nat _ _ (HP (jk f k) (ID (by decide) (J1 a))) (Jb (n:=64) (by decide) a)
def lJ{f:Nat->Bool}{k:Nat}(h:f k=false):bitsOf f (k+1)=bitsOf f k:=by simp[bitsOf,h]
end
section
open Go Go.RowKit Go.Shelf
def BQ{Q:World->Prop}{w:World}{a r fl id ln:Nat}(H:∀W,Kp ae w W->Calls Tryz.prog 191 #[.pointer (some ⟨a,0,none⟩),.int .u64 r,.agg #[.int .u32 fl,.int .u32 id,.int .u64 ln]] W λe w'=>(∃x:Bool,e=.returned (.bool x))/\Q w'):
    Calls Tryz.prog 188 #[.agg #[.pointer (some ⟨a,0,none⟩)],.int .u64 r,.agg #[.int .u32 fl,.int .u32 id,.int .u64 ln]] w λe w'=>e=.returned (.tuple #[])/\Q w':=by
 have H:=aa H;have c:=aa (((Kp.refl ae w).alloc (.cells #[.pointer (some ⟨a,0,none⟩)] 213)).alloc (.cells #[.int .u32 fl,.int .u32 id,.int .u64 ln] 148));go_enter Tryz.func188,Tryz.ntmps188;go_wp2_with fail;refine(H.out _ c.out).mono ?_;rintro e w' ⟨⟨x,rfl⟩,b⟩;have d:=aa b;clear b;go_wp2_with fail;go_end0;exact⟨rfl,d.out⟩
def Ee{Q:World->Prop}{w:World}{a:Nat}(H:∀W,Kp ae w W->Calls Tryz.prog 190 #[.pointer (some ⟨a,0,none⟩)] W λe w'=>(∃x y z,e=.returned (.tuple #[x,y,z]))/\Q w'):
    Calls Tryz.prog 187 #[.agg #[.pointer (some ⟨a,0,none⟩)]] w λe w'=>e=.returned (.tuple #[])/\Q w':=by
 have H:=aa H;have c:=aa ((Kp.refl ae w).alloc (.cells #[.pointer (some ⟨a,0,none⟩)] 213));go_enter Tryz.func187,Tryz.ntmps187;go_wp2_with fail;refine(H.out _ c.out).mono ?_;rintro e w' ⟨⟨x,y,z,rfl⟩,b⟩;have d:=aa b;clear b;go_wp2_with fail;go_end0;exact⟨rfl,d.out⟩
def BR{w:World}{c r fl id ln:Nat}{is:Bool}(H:∀W,Kp ae w W->Calls Tryz.prog 189 #[.pointer (some ⟨c,0,none⟩)] W λe w'=>e=.returned (.tuple #[.int .u64 r,.agg #[.int .u32 fl,.int .u32 id,.int .u64 ln],.bool is])/\Kp ae W w'):
    Calls Tryz.prog 186 #[.agg #[.pointer (some ⟨c,0,none⟩)]] w λe w'=>e=.returned (.tuple #[.int .u64 r,.agg #[.int .u32 fl,.int .u32 id,.int .u64 ln],.bool is])/\Kp ae w w':=by
 have H:=aa H;have f:=aa (((Kp.refl ae w).alloc (.cells #[.pointer (some ⟨c,0,none⟩)] 213)).alloc (.cells #[.int .u32 0,.int .u32 0,.int .u64 0] 148))
 have g:Hid (ag ((w.alloc (.cells #[.pointer (some ⟨c,0,none⟩)] 213)).alloc (.cells #[.int .u32 0,.int .u32 0,.int .u64 0] 148)) (w.heap.size+1) [.int .u32 0,.int .u32 0,.int .u64 0] 148):=aa (by
  have:=ag.new (w.alloc (.cells #[.pointer (some ⟨c,0,none⟩)] 213)) [.int .u32 0,.int .u32 0,.int .u64 0] 148
  simpa using this)
 go_enter Tryz.func186,Tryz.ntmps186;go_wp2_with fail;refine(H.out _ f.out).mono ?_;rintro e h ⟨rfl,b⟩;have a:=aa (g.out.kp b (λx=>x));have d:=aa (f.out.trans b);clear b;have i:=a.out.ai;have b1:=a.out.aj;have b2:=a.out.aq;have bf:=λj=>a.out.fz j;go_wp2_with fail;exact dA (by exact rfl) ((((a.out.set 0 (.int .u32 (fl:Int))).set 1 (.int .u32 (id:Int))).set 2 (.int .u64 (ln:Int)))) _ Tryz.underlying148 rfl c7 (by exact rfl) ⟨rfl,(((d.out.set (p:=⟨w.heap.size+1,0,none⟩) (.inr (H4 _)) _).set (p:=⟨w.heap.size+1,1,none⟩) (.inr (H4 _)) _).set (p:=⟨w.heap.size+1,2,none⟩) (.inr (H4 _)) _)⟩
def BS{Q:World->Prop}{w:World}{a r fl id ln:Nat}(H:∀W,Kp ae w W->Calls Tryz.prog 231 #[.pointer (some ⟨a,0,none⟩),.int .u64 r,.agg #[.int .u32 fl,.int .u32 id,.int .u64 ln]] W λe w'=>(∃x:Int,e=.returned (.tuple #[.int .i64 x,.bool true]))/\Q w'):
    Calls Tryz.prog 228 #[.agg #[.pointer (some ⟨a,0,none⟩)],.int .u64 r,.agg #[.int .u32 fl,.int .u32 id,.int .u64 ln]] w λe w'=>e=.returned (.tuple #[])/\Q w':=by
 have H:=aa H;have c:=aa (((Kp.refl ae w).alloc (.cells #[.pointer (some ⟨a,0,none⟩)] 223)).alloc (.cells #[.int .u32 fl,.int .u32 id,.int .u64 ln] 148));go_enter Tryz.func228,Tryz.ntmps228;go_wp2_with fail;refine(H.out _ c.out).mono ?_;rintro e w' ⟨⟨x,rfl⟩,b⟩;have d:=aa b;clear b;go_wp2_with fail;go_end0;exact⟨rfl,d.out⟩
def Ef{Q:World->Prop}{w:World}{a:Nat}(H:∀W,Kp ae w W->Calls Tryz.prog 230 #[.pointer (some ⟨a,0,none⟩)] W λe w'=>(∃x y z,e=.returned (.tuple #[x,y,z]))/\Q w'):
    Calls Tryz.prog 227 #[.agg #[.pointer (some ⟨a,0,none⟩)]] w λe w'=>e=.returned (.tuple #[])/\Q w':=by
 have H:=aa H;have c:=aa ((Kp.refl ae w).alloc (.cells #[.pointer (some ⟨a,0,none⟩)] 223));go_enter Tryz.func227,Tryz.ntmps227;go_wp2_with fail;refine(H.out _ c.out).mono ?_;rintro e w' ⟨⟨x,y,z,rfl⟩,b⟩;have d:=aa b;clear b;go_wp2_with fail;go_end0;exact⟨rfl,d.out⟩
def BT{w:World}{c r fl id ln:Nat}{is:Bool}(H:∀W,Kp ae w W->Calls Tryz.prog 229 #[.pointer (some ⟨c,0,none⟩)] W λe w'=>e=.returned (.tuple #[.int .u64 r,.agg #[.int .u32 fl,.int .u32 id,.int .u64 ln],.bool is])/\Kp ae W w'):
    Calls Tryz.prog 226 #[.agg #[.pointer (some ⟨c,0,none⟩)]] w λe w'=>e=.returned (.tuple #[.int .u64 r,.agg #[.int .u32 fl,.int .u32 id,.int .u64 ln],.bool is])/\Kp ae w w':=by
 have H:=aa H;have f:=aa (((Kp.refl ae w).alloc (.cells #[.pointer (some ⟨c,0,none⟩)] 223)).alloc (.cells #[.int .u32 0,.int .u32 0,.int .u64 0] 148))
 have g:Hid (ag ((w.alloc (.cells #[.pointer (some ⟨c,0,none⟩)] 223)).alloc (.cells #[.int .u32 0,.int .u32 0,.int .u64 0] 148)) (w.heap.size+1) [.int .u32 0,.int .u32 0,.int .u64 0] 148):=aa (by
  have:=ag.new (w.alloc (.cells #[.pointer (some ⟨c,0,none⟩)] 223)) [.int .u32 0,.int .u32 0,.int .u64 0] 148
  simpa using this)
 go_enter Tryz.func226,Tryz.ntmps226;go_wp2_with fail;refine(H.out _ f.out).mono ?_;rintro e h ⟨rfl,b⟩;have a:=aa (g.out.kp b (λx=>x));have d:=aa (f.out.trans b);clear b;have i:=a.out.ai;have b1:=a.out.aj;have b2:=a.out.aq;have bf:=λj=>a.out.fz j;go_wp2_with fail;exact dA (by exact rfl) ((((a.out.set 0 (.int .u32 (fl:Int))).set 1 (.int .u32 (id:Int))).set 2 (.int .u64 (ln:Int)))) _ Tryz.underlying148 rfl c7 (by exact rfl) ⟨rfl,(((d.out.set (p:=⟨w.heap.size+1,0,none⟩) (.inr (H4 _)) _).set (p:=⟨w.heap.size+1,1,none⟩) (.inr (H4 _)) _).set (p:=⟨w.heap.size+1,2,none⟩) (.inr (H4 _)) _)⟩
inductive fy
 |hp (n:Nat) (S:List (En Pk))
 |qu (bs:List Nat) (Qs:List (List It))
 |ca (n:Nat) (I:List It)
def aU:fy->List It
 | .hp _ S=>S.map cV
 | .qu _ a=>a.flatten
 | .ca _ I=>I
def aM(s:fy):It×Bool:=iQ (aU s)
def cq:fy->Nat
 | .hp n _=>n
 | .qu _ _=>0
 | .ca n _=>n
def e5:fy->Nat->Pk->fy
 | .hp n S,r,p=>.hp (n+1) (dU S ⟨r,n,p⟩)
 | .qu a b,r,p=>.qu (gq a r) (jd a b r ⟨r,p⟩)
 | .ca n I,r,p=>.ca (n+1) (e2 I ⟨r,p⟩)
def nS(a:List (List It)):List (List It):=match gh a with
 |some i=>a.set i (a.getD i []).tail
 |none=>a
def h2:fy->fy
 | .hp n S=>.hp n S.tail
 | .qu a b=>.qu a (nS b)
 | .ca n I=>.ca n I.tail
def k9:fy->Prop
 | .hp _ _=>True
 | .qu a b=>a.length=b.length/\1<=a.length
 | .ca _ _=>True
def lK{b:List (List It)}{i:Nat}{q:It}{Q:List It}(h:b[i]? =some (q::Q))(c:∀j,j<i->b[j]? =some []):b.flatten=q::(Q++(b.drop (i+1)).flatten)/\(b.set i Q).flatten=Q++(b.drop (i+1)).flatten:=by
 induction b generalizing i with
 |nil=>simp at h
 |cons a r d=>
  cases i with
  |zero=>
   simp only[Jd,Option.some.injEq]at h;subst h;simp
  |succ i=>
   have ha:a=[]:=by have:=c 0 (by omega);simpa using this
   subst ha;obtain⟨e,f⟩:=d (i:=i) (by simpa using h) (λj g=>by have:=c (j+1) (by omega);simpa using this);simp only[Ks,Im,IE,List.drop_succ_cons];exact⟨e,f⟩
def q5{a:List (List It)}(h:gh a=none):a.flatten=[]:=by
 rw[List.flatten_eq_nil_iff];intro l b;obtain⟨i,hi,rfl⟩:=JA b;have:=oH h i hi;rw[Hn hi]at this
 exact Option.some.inj this
def tJ(c:List Nat)(a:List (List It)):aM (.qu c a)=iA a:=by
 show iQ a.flatten=_;unfold iA;cases h:gh a with
 |none=>rw[q5 h];rfl
 |some i=>
  obtain⟨q,Q,b,d⟩:=gu h;rw[(lK b d).1];simp only[Hx,b,I3];rfl
def zN(n:Nat)(S:List (En Pk)):aM (.hp n S)=((⟨(hg S).1.ao,(hg S).1.x⟩:It),(hg S).2):=by
 cases S<;>rfl
def pH(s:fy):aU (h2 s)=(aU s).tail:=by
 cases s with
 |hp n S=>cases S<;>rfl
 |ca n I=>rfl
 |qu d a=>
  show(nS a).flatten=a.flatten.tail;unfold nS;cases h:gh a with
  |none=>simp[q5 h]
  |some i=>
   obtain⟨q,Q,b,c⟩:=gu h;simp only[Hx,b,I3,Kr];rw[(lK b c).1,(lK b c).2,Kr]
def pI{b:List (List It)}{i:Nat}{Q:List It}(h:b[i]? =some Q)(x:It):(b.set i (Q++[x])).flatten.Perm (x::b.flatten):=by
 induction b generalizing i with
 |nil=>simp at h
 |cons a r c=>
  cases i with
  |zero=>
   simp only[Jd,Option.some.injEq]at h;subst h;simp only[I7,Ks,Ir,KK];exact II
  |succ i=>
   simp only[IE,Ks];exact((c (by simpa using h)).append_left a).trans II
def nT{s:fy}(h:k9 s)(r:Nat)(p:Pk):(aU (e5 s r p)).Perm ((⟨r,p⟩:It)::aU s):=by
 cases s with
 |hp n S=>exact(dE ⟨r,n,p⟩ S).map cV
 |ca n I=>exact jw _ _
 |qu a b=>
  obtain⟨c,d⟩:=h;have hi:e8 a r (a.length-1)<b.length:=by have:=ku a r (a.length-1);omega
  show(jd a b r ⟨r,p⟩).flatten.Perm _;unfold jd;have:b[e8 a r (a.length-1)]? =some (b.getD (e8 a r (a.length-1)) []):=by
   rw[Hx,Hn hi];rfl
  exact pI this _
def tK{s:fy}(h:k9 s)(r:Nat)(p:Pk):k9 (e5 s r p):=by
 cases s with
 |hp n S=>trivial
 |ca n I=>trivial
 |qu a b=>
  obtain⟨c,d⟩:=h;refine⟨?_,?_⟩
  ·show(gq a r).length=(jd a b r ⟨r,p⟩).length;rw[hY];unfold jd;rw[Hr];exact c
  ·show 1<=(gq a r).length;rw[hY];exact d
def wu{s:fy}(h:k9 s):k9 (h2 s):=by
 cases s with
 |hp n S=>trivial
 |ca n I=>trivial
 |qu b c=>
  obtain⟨a,d⟩:=h;refine⟨?_,d⟩;show b.length=(nS c).length;unfold nS;split
  ·rw[Hr];exact a
  ·exact a
def BU(s:fy)(r:Nat)(p:Pk):cq (e5 s r p)<=cq s+1:=by cases s<;>simp[e5,cq]
def Eg(s:fy):cq (h2 s)=cq s:=by cases s<;>rfl
def vj(b:List Nat)(a:List (List It)):(aU (.qu b a)).length=eO a:=by
 show a.flatten.length=eO a;unfold eO;rw[List.length_flatten]
def qc(b:Nat):Value:=.iface 213 (.agg #[.pointer (some ⟨b,0,none⟩)])
def sa(b:Nat):Value:=.iface 223 (.agg #[.pointer (some ⟨b,0,none⟩)])
def zO(c:ey)(v:Value)(w:World)(d:c.back=1)(i:1<=c.aB)(j:c.aB<=4096):
    Calls Tryz.prog 66 #[.agg (er c v).toArray] w λe w'=>∃b F,e=.returned (qc b)/\Hp w' F b c.aB.toNat 0 []/\(∀b,F b->w.heap.size<=b)/\Kp ae w w':=by
 obtain⟨rk,bk,lv,qu,f,bt,sh,mt,rt,g,fl⟩:=c;simp only at d i j;subst d;obtain⟨p,rfl⟩:∃p:Nat,f=p:=⟨f.toNat,by omega⟩
 have k:=aa (λW=>zs p (by omega) (by omega) W);have l:=aa (ag.new w [.int .i64 rk,.int .i64 1,.int .i64 lv,.int .i64 qu,.int .i64 p,.int .u64 bt,.int .i64 sh,.int .u64 mt,.int .u64 rt,.int .u64 g,v] 65);have a:=aa ((Kp.refl ae w).alloc (.cells #[.int .i64 rk,.int .i64 1,.int .i64 lv,.int .i64 qu,.int .i64 p,.int .u64 bt,.int .i64 sh,.int .u64 mt,.int .u64 rt,.int .u64 g,v] 65));refine al ?_;intro PP m;simp only[er]at*;go_enter Tryz.func66,Tryz.ntmps66;go_wp2_with fail;refine(k.out _).mono ?_;rintro e r ⟨b,F,rfl,hp,hF,h⟩;have n:=aa hp;have HF:=aa hF;have o:=aa (a.out.trans h);clear hp hF h;go_wp2_with fail;exact m.out _ _ ⟨b,F,rfl,by simpa using n.out,λx q=>by have:=HF.out x q;have:=a.out.size;omega,o.out⟩
def Eh(c:ey)(v:Value)(w:World)(d:c.back=3)(i:1<=c.aB)(j:c.aB<=4096)(k:1<=c.aD)(l:c.aD<=32):
    Calls Tryz.prog 66 #[.agg (er c v).toArray] w λe w'=>∃b F,e=.returned (sa b)/\Qu w' F b c.aB.toNat (List.replicate c.aD.toNat 0) (List.replicate c.aD.toNat [])/\(∀b,F b->w.heap.size<=b)/\Kp ae w w':=by
 obtain⟨rk,bk,lv,qu,f,bt,sh,mt,rt,g,fl⟩:=c;simp only at d i j k l;subst d;obtain⟨p,rfl⟩:∃p:Nat,f=p:=⟨f.toNat,by omega⟩
 obtain⟨n,rfl⟩:∃n:Nat,qu=n:=⟨qu.toNat,by omega⟩
 have m:=aa (λW=>FX p n (by omega) (by omega) (by omega) (by omega) W);have o:=aa (ag.new w [.int .i64 rk,.int .i64 3,.int .i64 lv,.int .i64 n,.int .i64 p,.int .u64 bt,.int .i64 sh,.int .u64 mt,.int .u64 rt,.int .u64 g,v] 65);have a:=aa ((Kp.refl ae w).alloc (.cells #[.int .i64 rk,.int .i64 3,.int .i64 lv,.int .i64 n,.int .i64 p,.int .u64 bt,.int .i64 sh,.int .u64 mt,.int .u64 rt,.int .u64 g,v] 65));refine al ?_;intro PP q;simp only[er]at*;go_enter Tryz.func66,Tryz.ntmps66;go_wp2_with fail;refine(m.out _).mono ?_;rintro e u ⟨b,F,rfl,hp,hF,h⟩;have r:=aa hp;have HF:=aa hF;have s:=aa (a.out.trans h);clear hp hF h;go_wp2_with fail;exact q.out _ _ ⟨b,F,rfl,by simpa using r.out,λx t=>by have:=HF.out x t;have:=a.out.size;omega,s.out⟩
end
section
open Go Go.RowKit Go.Shelf
open flowOwn (Th Tf)
def gY(f:dF):Th:=⟨0,0,f.cap⟩
def hj(c:ey):Ga:=⟨c,c.av.map gY⟩
def xX(l:List dF):e1 l (l.map gY)=l.map (λf=>(f.id,gY f)):=by
 unfold e1;induction l with
 |nil=>rfl
 |cons a r b=>simp only[HA,KZ,b]
def nc(l:List dF):aE (l.map gY)=0:=by
 unfold aE;induction l with
 |nil=>rfl
 |cons a r b=>simp only[HA,IK,b];rfl
def q6(l:List dF):cN (l.map gY)=0:=by
 unfold cN;induction l with
 |nil=>rfl
 |cons a r b=>simp only[HA,IK,b];rfl
def ng{c:ey}(d:c.ok)(h:eX c=0):(hj c).Ok:=
 ⟨d,h,by show(c.av.map gY).length=c.av.length;rw[Hq],λi x f a b=>by
  rw[show(hj c).st=c.av.map gY from rfl,H2]at a
  rw[show(hj c).c.av=c.av from rfl]at b
  rw[b]at a;injection a with a;rw[<-a];rfl,λx e=>by
  obtain⟨f,_,rfl⟩:=Hw.1 e;exact⟨JS _,Hv _⟩,by show cN (c.av.map gY)<=_;rw[q6];exact Hv _,by
  show aE (c.av.map gY)<=c.aB;rw[nc];unfold eX at h;split at h
  ·omega
  ·omega⟩
structure zP (w wr:World) (cs:List Value) (tb:Nat) (l:List dF) (k:Nat) (F:Nat->Prop):Prop where
 tab:∃E,Tf wr F tb 64 E/\E.Perm ((l.take k).map (λf=>(f.id,gY f)))
 cfg:ag wr w.heap.size cs 65
 new:∀b,F b->w.heap.size<b
 kp:Kp ae w wr
def zP.step{w wr W w1:World}{cs:List Value}{tb k:Nat}{l:List dF}{F c:Nat->Prop}{E:List (Nat×Th)}(h:zP w wr cs tb l k F)(d:Kp ae wr W)(ht:Tf w1 c tb 64 E)(i:k<l.length)(j:E.Perm ((l[k].id,gY l[k])::(l.take k).map (λf=>(f.id,gY f))))(a:Kp F W w1)(m:Nw W F c):zP w w1 cs tb l (k+1) c:=by
 have n:=h.cfg.lt;have o:=d.size;have p:=h.kp.size;refine⟨⟨E,ht,j.trans ?_⟩,(h.cfg.kp d (λx=>x)).kp a (λx=>by have:=h.new _ x;omega),λb e=> ?_,(h.kp.trans d).then a (λb e x=>by have:=h.new b x;omega)⟩
 ·rw[HQ i,HE];exact JB (l₁:=[(l[k].id,gY l[k])])
 ·rcases m b e with g|g
  ·exact h.new b g
  ·omega
def F9(c:ey)(hc:c.ok)(hE:eX c=0)(v:Value)(w:World)(h:Sl w v c.av.length 5 (c.av.flatMap cv)):Calls Tryz.prog 67 #[.agg (er c v).toArray] w λe w'=>∃gb F,e=.returned (.tuple #[.pointer (some ⟨gb,0,none⟩),.int .i64 0])/\eh w' F gb (hj c)/\(∀b,F b->w.heap.size<=b)/\Kp ae w w':=by
 have J:=aa (λW (k:Kp ae w W)=>by have:=CY c hc v W (h.old k);rw[hE]at this;exact this);have K:=aa (ng hc hE);obtain⟨r,cap,rfl⟩:∃r cap,v=.slice r c.av.length cap:=by obtain⟨r,cap,rfl,_⟩:=h.is;exact⟨_,_,rfl⟩
 have s:c.av.length<=64/\(c.av.map (·.id)).Nodup:=by
  have:=K.out.o5.2.2.2.2.2.2;unfold dM at this;split at this
  ·cases this
  ·split at this
   ·rename_i C;rename_i h3;exact⟨by have e:(hj c).c.av=c.av:=rfl;rw[e]at h3;omega,C⟩
   ·cases this
 have ak:=s.1;have ac:=aa s.2;have L:Hid (∀f∈c.av,f.id<4294967296):=aa (λf hf=>(hc.av f hf).id);have an:=aa h;have M:=aa (ag.new w (er c (.slice r c.av.length cap)) 65);have t:=aa ((Kp.refl ae w).alloc (.cells (er c (.slice r c.av.length cap)).toArray 65));refine al ?_;intro PP ar;clear h hE s hc;obtain⟨rk,bk,lv,qu,pk,bt,sh,mt,rt,bu,fl⟩:=c;simp only[er]at*;go_enter Tryz.func67,Tryz.ntmps67;go_wp2_with fail;refine(J.out _ t.out).mono ?_;rintro e w1 ⟨rfl,u⟩;have N:=aa (M.out.kp u (λx=>x));have ad:=aa (t.out.trans u);clear u M t J;go_wp2_with fail;refine(flowOwn.Fy 64 (by decide) (by decide) w1).mono ?_;rintro e w2 ⟨F,tb,rfl,ht,hF,z⟩;have A:=N.out.kp z (λx=>x);have af:=A.eR;have au:=N.out.lt;have O:Hid (zP w w2 [.int .i64 rk,.int .i64 bk,.int .i64 lv,.int .i64 qu,.int .i64 pk,.int .u64 bt,.int .i64 sh,.int .u64 mt,.int .u64 rt,.int .u64 bu,.slice r fl.length cap] tb fl 0 F):=
  aa ⟨⟨[],ht,by simp⟩,A,λb q=>by have:=hF b q;omega,ad.out.trans z⟩
 clear ht hF z A;go_wp2_with fail;clear af;go_loopw [21] (λi0 wr=>∃(k:Nat) (F:Nat->Prop),i0=.int .i64 k/\k<=fl.length/\Hid (zP w wr [.int .i64 rk,.int .i64 bk,.int .i64 lv,.int .i64 qu,.int .i64 pk,.int .u64 bt,.int .i64 sh,.int .u64 mt,.int .u64 rt,.int .u64 bu,.slice r fl.length cap] tb fl k F)) (λi0 _=>fl.length-(intOf i0).toNat)
 case atStart=>exact⟨0,_,rfl,Hv _,O⟩
 case round=>
  clear O;obtain⟨k,F,rfl,hk,g⟩:=hrel;by_cases o:k<fl.length
  ·have aw:(k:Int)<fl.length:=by omega
   obtain⟨gx,ox,cx,ah,j⟩:=(an.out.old g.out.kp).at fo (by decide) k o;injection ah with ah _ e3;subst ah e3
   have m:=aa (λ(E:List (Nat×Th)) (W:World) (k0:Kp ae wr W) (D:Tf wr F tb 64 E) (hp:E.Perm ((fl.take k).map (λf=>(f.id,gY f))))=>flowOwn.yZ (D.kp k0 (λ_ _ x=>x)) fl[k].id (L.out _ (Ht o)) (gY fl[k]) (λy hy=>by
    have G:=(hp.mem_iff.1 hy)
    obtain⟨f,hf,he⟩:=Hw.1 G;simp only[Prod.mk.injEq]at he;obtain⟨i,hi,rfl⟩:=JA hf;rw[HG]at hi
    have hn:=IM.1 ac.out i k (by rw[Hq];omega) (by rw[Hq];exact o) (by omega);simp only[Ip]at hn;rw[List.getElem_take]at he
    exact hn he.1) (by have:=hp.length_eq;rw[Hq,HG]at this;omega))
   have l:=aa (λ(E:List (Nat×Th)) (W w1:World) (H:Nat->Prop) (k0:Kp ae wr W) (ht:Tf w1 H tb 64 ((fl[k].id,gY fl[k])::E)) (hp:E.Perm ((fl.take k).map (λf=>(f.id,gY f)))) (G:Kp F W w1) (C:Nw W F H)=>g.out.step k0 ht o (hp.cons _) G C);obtain⟨f,hf⟩:∃f,fl[k]=f:=⟨_,rfl⟩
   simp only[hf]at j m l;have d0:=j 0 _ rfl;have d1:=j 1 _ rfl;have d2:=j 2 _ rfl;have d3:=j 3 _ rfl;have d4:=j 4 _ rfl;simp only[Ig]at d0;have P:=aa ((Kp.refl ae wr).alloc (.cells #[.int .u32 f.id,.int .u64 f.cost,.int .u64 f.bY,.int .u64 f.size,.int .u64 f.cap] 106));clear j hf;obtain⟨E,D,I⟩:=g.out.tab;have B:=aa (m.out E _ P.out D I);have Q:=aa (λw1 H ht G C=>l.out E _ w1 H P.out ht I G C);clear D I m l;simp only[flowOwn.en,gY]at B;go_wp2_with fail;refine B.out.mono ?_;rintro e w5 ⟨rfl,H,R,T,U⟩;have ax:=aa (Q.out w5 H R T U);clear R T U B Q d0 d1 d2 d3 d4;go_wp2_with fail;go_roundw
   case rel=>exact⟨k+1,_,by go_num,by omega,ax⟩
   case measure=>simp[intOf];omega
  ·obtain rfl:k=fl.length:=by omega
   have h0:=g.out.cfg.ai;have G:=g.out.cfg.aj;have C:=g.out.cfg.aq;have h3:=g.out.cfg.aK;have h4:=g.out.cfg.a_;have h5:=g.out.cfg.bN;have h6:=g.out.cfg.du;have h7:=g.out.cfg.eN;have h8:=g.out.cfg.eu;have h9:=g.out.cfg.ea;have ay:=g.out.cfg.eR;have hz:=g.out.cfg.fz 10;go_wp2_with fail;obtain⟨E,D,I⟩:=g.out.tab;have V:Tf wr F tb 64 (e1 fl (fl.map gY)):=by
    rw[xX];rw[IJ (Hm _)]at I
    obtain⟨sb,S,n,a,b,c,d⟩:=D;exact⟨sb,S,n,a,b,c,d.trans I⟩
   have X:Kp (λb=>b=w.heap.size) wr (wr.setCell ⟨w.heap.size,10,none⟩ (.slice none 0 0)):=(Kp.refl (λb=>b=w.heap.size) wr).set (p:=⟨w.heap.size,10,none⟩) (.inl rfl) _;have hsz:(wr.setCell ⟨w.heap.size,10,none⟩ (.slice none 0 0)).heap.size=wr.heap.size:=by simp[World.setCell]
   have Y:=(Kp.refl ae (wr.setCell ⟨w.heap.size,10,none⟩ (.slice none 0 0))).alloc (.cells #[.int .i64 rk,.int .i64 bk,.int .i64 lv,.int .i64 qu,.int .i64 pk,.int .u64 bt,.int .i64 sh,.int .u64 mt,.int .u64 rt,.int .u64 bu,.slice none 0 0,.int .i64 0,.int .u64 0,.pointer (some ⟨tb,0,none⟩)] 233);have Z:=ag.new (wr.setCell ⟨w.heap.size,10,none⟩ (.slice none 0 0)) [.int .i64 rk,.int .i64 bk,.int .i64 lv,.int .i64 qu,.int .i64 pk,.int .u64 bt,.int .i64 sh,.int .u64 mt,.int .u64 rt,.int .u64 bu,.slice none 0 0,.int .i64 0,.int .u64 0,.pointer (some ⟨tb,0,none⟩)] 233;rw[hsz]at Z
   have hle:=g.out.kp.size;refine ar.out _ _ ⟨wr.heap.size,λb=>b=wr.heap.size\/F b,rfl,⟨F,tb,rfl,?_,(V.kp X (λb q e=>by have:=g.out.new b q;omega)).kp Y (λ_ _ x=>x),λhF=> ?_,K.out⟩,λb q=> ?_,(g.out.kp.then X (λb q e=>by omega)).trans Y⟩
   ·unfold gC hj;simp only[nc,q6];exact Z
   ·have:=V.lt hF;omega
   ·rcases q with rfl|q
    ·exact hle
    ·have:=g.out.new b q;omega
end
section
open Go.RowKit
def mx{r:b5}(h:r.Ok):qA (cX r):=h.s
def pJ(l:List b5){j:Nat}(h:j<l.length):(l.map (λr=>bU (cX r))).getD j (0,0)=bU (cX l[j]):=by
 rw[cn _ (by simpa using h)];simp
structure pK (w wr:World) (l:List b5) (v:Value) (tb n j:Nat) (T:Tr):Prop where
 tab:bV wr w.heap.size tb T n
 at_:cU (l.map (λr=>bU (cX r))) j T
 kp:Kp ae w wr
 hN:n<=j
def pK.old{w wr w':World}{l:List b5}{v:Value}{tb n j:Nat}{T:Tr}(h:pK w wr l v tb n j T)(k:Kp ae wr w'):pK w w' l v tb n j T:=⟨h.tab.old k,h.at_,h.kp.trans k,h.hN⟩
def sc(l:List b5)(ac:∀r∈l,r.Ok)(hr:∀r∈l,bs (cX r).1 (cX r).2=true)(hn:l.length<=64)(v:Value)(w:World)(h:Sl w v l.length 7 (l.flatMap cR)):
    Calls Tryz.prog 70 #[v,.func (.func 71) #[] #[]] w λe w'=>∃tb T n,e=.returned (.pointer (some ⟨tb,0,none⟩))/\bV w' w.heap.size tb T n/\gJ (l.map (λr=>bU (cX r))) T/\Kp ae w w':=by
 obtain⟨ao,cap,rfl⟩:∃ao cap,v=.slice ao l.length cap:=by obtain⟨ao,cap,rfl,_⟩:=h.is;exact⟨_,_,rfl⟩
 have a3:=aa h;have ad:=aa ac;have a4:=aa hr;have aL:=aa (λW=>wq W);clear h ac hr;go_enter Tryz.func70,Tryz.ntmps70
 go_wp2_with(go_at_call 101;refine(aL.out _).mono ?_;rintro e w1 ⟨tb,T,rfl,hT,af,b1,ak⟩
             have a5:Hid (pK w w1 l (.slice ao l.length cap) tb 0 0 T):=⟨hT,by rw[ak];exact cU.start _ _,af,Hm _⟩
             clear hT af ak)
 go_loopw [14] (λi wr=>∃(j n:Nat) (T:Tr),i=.int .i64 j/\j<=l.length/\Hid (pK w wr l (.slice ao l.length cap) tb n j T)) (λi _=>l.length-(intOf i).toNat)
 case atStart=>exact⟨0,0,T,rfl,Hv _,a5.out⟩
 case round=>
  clear a5;obtain⟨j,n,T1,rfl,hj,M⟩:=hrel;obtain⟨z,aM⟩:∃z:World,z=wr:=⟨_,rfl⟩
  subst aM;by_cases F:j<l.length
  ·obtain⟨g,off,a6,G,p⟩:=(a3.out.old M.out.kp).at eM (by decide) j F;injection G with G _ e3;subst G e3;have a9:(j:Int)<l.length:=by omega
   obtain⟨r,A⟩:∃r,l[j]=r:=⟨_,rfl⟩
   have u:r∈l:=by rw[<-A];exact Ht F
   rw[A]at p
   have c0:z.cell? ⟨g,off+j*7,none⟩=some (.int .u32 r.s.1):=p 0 _ rfl;have c1:=p 1 _ rfl;have c2:=p 2 _ rfl;have c3:=p 3 _ rfl;have c4:=p 4 _ rfl;have c5:=p 5 _ rfl;have c6:=p 6 _ rfl;have ba:=aa A;have a7:=aa u;have al:=(lZ (a4.out r u) (mx (ad.out r u)))
   have H:=aa al;have an:=aa (pJ l (j:=j) F |>.trans (by rw[A]));clear p A u al;go_wp2_with fail;have N:Kp ae z (z.alloc (.cells #[.int .u32 r.s.1,.int .i64 r.s.2,.int .u32 r.d.1,.int .i64 r.d.2,.int .u16 r.lo,.int .u16 r.hi,.int .u32 r.fl] 108)):=(Kp.refl ae z).alloc _;have I:ag (z.alloc (.cells #[.int .u32 r.s.1,.int .i64 r.s.2,.int .u32 r.d.1,.int .i64 r.d.2,.int .u16 r.lo,.int .u16 r.hi,.int .u32 r.fl] 108)) z.heap.size (cR r) 108:=ag.new z (cR r) _;obtain⟨W0,au⟩:∃W,z.alloc (.cells #[.int .u32 r.s.1,.int .i64 r.s.2,.int .u32 r.d.1,.int .i64 r.d.2,.int .u16 r.lo,.int .u16 r.hi,.int .u32 r.fl] 108)=W:=⟨_,rfl⟩
   obtain⟨g7,av⟩:∃g,z.heap.size=g:=⟨_,rfl⟩
   rw[au]at N I ⊢
   rw[av]at I ⊢
   have aw:=aa I;have ax:=aa (M.out.old N);obtain⟨f,hf⟩:∃f:Nat->Bool,f=λi=>bT ((l.map (λr=>bU (cX r))).getD i (0,0)) (bU (cX r)):=⟨_,rfl⟩
   have HF:=aa hf;have O:Hid (∀W,Calls Tryz.prog 71 #[.agg #[.int .u32 r.s.1,.int .i64 r.s.2,.int .u32 r.d.1,.int .i64 r.d.2,.int .u16 r.lo,.int .u16 r.hi,.int .u32 r.fl]] W λe w'=>e=.returned (.agg #[.int .u32 (cX r).1,.int .i64 (cX r).2])/\Kp ae W w'):=λW=>C7 r.s r.d r.lo r.hi r.fl W;clear au av N I hf c0 c1 c2 c3 c4 c5 c6;go_loopw [8,20] (λm i wr=>∃k:Nat,i=.int .i64 k/\k<=l.length/\m=.int .u64 (bitsOf f k:Nat)/\Hid (Kp ae W0 wr)) (λ_ i _=>l.length-(intOf i).toNat)
   case atStart=>exact⟨0,rfl,Hv _,rfl,Kp.refl _ _⟩
   case round=>
    obtain⟨k,rfl,hk,rfl,Z⟩:=hrel;by_cases P:k<l.length
    ·obtain⟨g,off,a8,G,p⟩:=(a3.out.old (ax.out.kp.trans Z.out)).at eM (by decide) k P;injection G with G _ e3;cases G;subst e3;have bb:(k:Int)<l.length:=by omega
     have az:k<64:=by omega
     obtain⟨o,ho⟩:∃o,l[k]=o:=⟨_,rfl⟩
     have J:o∈l:=by rw[<-ho];exact Ht P
     rw[ho]at p
     have c0:wr.cell? ⟨g,off+k*7,none⟩=some (.int .u32 o.s.1):=p 0 _ rfl;have c1:=p 1 _ rfl;have c2:=p 2 _ rfl;have c3:=p 3 _ rfl;have c4:=p 4 _ rfl;have c5:=p 5 _ rfl;have c6:=p 6 _ rfl;have aN:=aa (lZ (a4.out o J) (mx (ad.out o J)));have aP:=aa (pJ l (j:=k) P |>.trans (by rw[ho]));have Q:f k=gj (cX o).1 (cX o).2 (cX r).1 (cX r).2:=by
      rw[HF.out];show bT ((l.map (λr=>bU (cX r))).getD k (0,0)) (bU (cX r))=_;rw[aP.out];unfold bT;rw[aN.out.2,H.out.2];rfl
     have bo:=mx (ad.out o J);have K:Hid (∀W,Calls Tryz.prog 71 #[.agg #[.int .u32 o.s.1,.int .i64 o.s.2,.int .u32 o.d.1,.int .i64 o.d.2,.int .u16 o.lo,.int .u16 o.hi,.int .u32 o.fl]] W λe w'=>e=.returned (.agg #[.int .u32 (cX o).1,.int .i64 (cX o).2])/\Kp ae W w'):=λW=>C7 o.s o.d o.lo o.hi o.fl W;have B:=aa (λW=>iN (cX o).1 (cX r).1 (cX o).2 (cX r).2 W bo.1 (mx (ad.out r a7.out)).1 ⟨bo.2.1,bo.2.2⟩ (mx (ad.out r a7.out)).2);rw[<-Q]at B
     obtain⟨b7,aQ⟩:∃W,W=wr:=⟨_,rfl⟩
     subst aQ;have q:=aa (aw.out.kp Z.out (λx=>x));have R:Kp ae b7 (b7.alloc (.cells #[.int .u32 o.s.1,.int .i64 o.s.2,.int .u32 o.d.1,.int .i64 o.d.2,.int .u16 o.lo,.int .u16 o.hi,.int .u32 o.fl] 108)):=(Kp.refl ae b7).alloc _;have t:ag (b7.alloc (.cells #[.int .u32 o.s.1,.int .i64 o.s.2,.int .u32 o.d.1,.int .i64 o.d.2,.int .u16 o.lo,.int .u16 o.hi,.int .u32 o.fl] 108)) b7.heap.size (cR o) 108:=ag.new b7 (cR o) _;have b:=aa (q.out.kp R (λx=>x));have bc:=aa t;have aA:=aa R;have r0:=b.out.ai;have r1:=b.out.aj;have r2:=b.out.aq;have r3:=b.out.aK;have r4:=b.out.a_;have r5:=b.out.bN;have r6:=b.out.du;have o0:=t.ai;have o1:=t.aj;have o2:=t.aq;have o3:=t.aK;have o4:=t.a_;have o5:=t.bN;have o6:=t.du;clear R t p ho J bo;cases y:f k with
     |true=>
      have aS:=lI az y;rw[y]at B
      obtain⟨m,hm⟩:∃m,bitsOf f k=m:=⟨_,rfl⟩
      obtain⟨m',S⟩:∃m,bitsOf f (k+1)=m:=⟨_,rfl⟩
      rw[hm,S]at aS
      have U:=aa S;simp only[hm];clear hm S y Q;go_wp2_with fail;refine ar 6 (by kernel_rfl) (λ_ _ _ _ _ h=>h) ?_;simp only[aO]
      repeat((first
          |refine ay (by rfl) (by as_aux_lemma=>intro W a;have e0:=a.cell r0 (λx=>x);have G:=a.cell r1 (λx=>x);have e2:=a.cell r2 (λx=>x);have e3:=a.cell r3 (λx=>x);have e4:=a.cell r4 (λx=>x);have e5:=a.cell r5 (λx=>x);have e6:=a.cell r6 (λx=>x);have f0:=a.cell o0 (λx=>x);have f1:=a.cell o1 (λx=>x);have f2:=a.cell o2 (λx=>x);have f3:=a.cell o3 (λx=>x);have f4:=a.cell o4 (λx=>x);have f5:=a.cell o5 (λx=>x);have f6:=a.cell o6 (λx=>x);go_simp;exact rfl) ?_
          |refine ah (by rfl) ?_
          |refine aR (by rfl) (by as_aux_lemma=>intro W;go_simp;exact⟨rfl,rfl⟩) (by intro W a;with_reducible first|exact K.out W|exact O.out W) ?_);simp only[Act.put,aH])
      intro W5 C;have V:=aa ((Z.out.trans aA.out).trans C);clear C r0 r1 r2 r3 r4 r5 r6 o0 o1 o2 o3 o4 o5 o6 c0 c1 c2 c3 c4 c5 c6 K;go_wp2_with(go_at_call 91;refine(B.out _).mono ?_;rintro e w6 ⟨rfl,D⟩;have X:=aa (V.out.trans D);clear D);go_roundw
      case rel=>exact⟨k+1,by go_num,by omega,by rw[U.out],X.out⟩
      case measure=>simp[intOf];omega
     |false=>
      have aB:=lJ y;have aT:=aa aB;rw[y]at B
      obtain⟨m,hm⟩:∃m,bitsOf f k=m:=⟨_,rfl⟩
      have U:=aa hm;simp only[hm];clear hm aB y Q;go_wp2_with fail;refine ar 6 (by kernel_rfl) (λ_ _ _ _ _ h=>h) ?_;simp only[aO]
      repeat((first
          |refine ay (by rfl) (by as_aux_lemma=>intro W a;have e0:=a.cell r0 (λx=>x);have G:=a.cell r1 (λx=>x);have e2:=a.cell r2 (λx=>x);have e3:=a.cell r3 (λx=>x);have e4:=a.cell r4 (λx=>x);have e5:=a.cell r5 (λx=>x);have e6:=a.cell r6 (λx=>x);have f0:=a.cell o0 (λx=>x);have f1:=a.cell o1 (λx=>x);have f2:=a.cell o2 (λx=>x);have f3:=a.cell o3 (λx=>x);have f4:=a.cell o4 (λx=>x);have f5:=a.cell o5 (λx=>x);have f6:=a.cell o6 (λx=>x);go_simp;exact rfl) ?_
          |refine ah (by rfl) ?_
          |refine aR (by rfl) (by as_aux_lemma=>intro W;go_simp;exact⟨rfl,rfl⟩) (by intro W a;with_reducible first|exact K.out W|exact O.out W) ?_);simp only[Act.put,aH])
      intro W5 C;have V:=aa ((Z.out.trans aA.out).trans C);clear C r0 r1 r2 r3 r4 r5 r6 o0 o1 o2 o3 o4 o5 o6 c0 c1 c2 c3 c4 c5 c6 K;go_wp2_with(go_at_call 91;refine(B.out _).mono ?_;rintro e w6 ⟨rfl,D⟩;have X:=aa (V.out.trans D);clear D);go_roundw
      case rel=>exact⟨k+1,by go_num,by omega,by rw[aT.out,U.out],X.out⟩
      case measure=>simp[intOf];omega
    ·have aU:k=l.length:=by omega
     subst aU;have E:bitsOf f l.length=j9 (l.map (λr=>bU (cX r))) (bU (cX r)):=by rw[HF.out];unfold j9;rw[Hq]
     have Y:=aa (ax.out.old Z.out);have aV:=aa (λW (k:Kp ae wr W)=>wo W w.heap.size tb n (j9 (l.map (λr=>bU (cX r))) (bU (cX r))) T1 (Y.out.tab.old k) (bU (cX r)) H.out.1 (by have:=Y.out.hN;omega));have aC:(bU (cX r)).1=(cX r).1:=rfl;rw[H.out.2,<-E,aC]at aV
     have L:=aa E;have q:=aa (aw.out.kp Z.out (λx=>x));have r0:=q.out.ai;have r1:=q.out.aj;have r2:=q.out.aq;have r3:=q.out.aK;have r4:=q.out.a_;have r5:=q.out.bN;have r6:=q.out.du;clear E aC;obtain⟨m,hm⟩:∃m,bitsOf f l.length=m:=⟨_,rfl⟩
     rw[hm]at aV L
     simp only[hm];clear hm
     go_wp2_with(first
      |(go_at_call 71;refine(O.out _).mono ?_;rintro e w2 ⟨rfl,aD⟩;have aE:=aa aD;clear aD)
      |(go_at_call 102;refine(aV.out _ aE.out).mono ?_;rintro e w3 ⟨c,nb,fb,n',rfl,aF,aG,aI⟩
        have aW:=aa aG;have aX:=aa aF;have aY:=aa aI;clear aG aF aI))
     have aJ:cU (l.map (λr=>bU (cX r))) (j+1) (T1.put nb (bU (cX r)) m fb):=by
      have:=M.out.at_.put (k:=j) (by rw[Hq];exact F) (by rw[an.out];exact H.out.1) nb fb;rw[an.out]at this
      rw[L.out];exact this
     have aZ:=aa aJ;have a0:Hid (Kp ae w wr):=Y.out.kp;have a1:=aa ((a0.out.trans aE.out).then aY.out (λi hi e=>by omega));clear aJ;go_roundw
     case rel=>exact⟨j+1,n',_,by go_num,by omega,aW.out,aZ.out,a1.out,Hy aX.out (Nat.succ_le_succ M.out.hN)⟩
     case measure=>simp[intOf];omega
  ·have a2:j=l.length:=by omega
   subst a2;go_wp2_with fail;go_ret;refine⟨tb,T1,n,rfl,M.out.tab,?_,M.out.kp⟩;have:=M.out.at_;have e:l.length=(l.map (λr=>bU (cX r))).length:=(Hq ..).symm;rw[e]at this
   exact this.full
def my{r:b5}(h:r.Ok):qA (cY r):=h.d
def pL(l:List b5){j:Nat}(h:j<l.length):(l.map (λr=>bU (cY r))).getD j (0,0)=bU (cY l[j]):=by
 rw[cn _ (by simpa using h)];simp
structure pM (w wr:World) (l:List b5) (v:Value) (tb n j:Nat) (T:Tr):Prop where
 tab:bV wr w.heap.size tb T n
 at_:cU (l.map (λr=>bU (cY r))) j T
 kp:Kp ae w wr
 hN:n<=j
def pM.old{w wr w':World}{l:List b5}{v:Value}{tb n j:Nat}{T:Tr}(h:pM w wr l v tb n j T)(k:Kp ae wr w'):pM w w' l v tb n j T:=⟨h.tab.old k,h.at_,h.kp.trans k,h.hN⟩
def sd(l:List b5)(ac:∀r∈l,r.Ok)(hr:∀r∈l,bs (cY r).1 (cY r).2=true)(hn:l.length<=64)(v:Value)(w:World)(h:Sl w v l.length 7 (l.flatMap cR)):
    Calls Tryz.prog 70 #[v,.func (.func 72) #[] #[]] w λe w'=>∃tb T n,e=.returned (.pointer (some ⟨tb,0,none⟩))/\bV w' w.heap.size tb T n/\gJ (l.map (λr=>bU (cY r))) T/\Kp ae w w':=by
 obtain⟨ao,cap,rfl⟩:∃ao cap,v=.slice ao l.length cap:=by obtain⟨ao,cap,rfl,_⟩:=h.is;exact⟨_,_,rfl⟩
 have a3:=aa h;have ad:=aa ac;have a4:=aa hr;have aL:=aa (λW=>wq W);clear h ac hr;go_enter Tryz.func70,Tryz.ntmps70
 go_wp2_with(go_at_call 101;refine(aL.out _).mono ?_;rintro e w1 ⟨tb,T,rfl,hT,af,b1,ak⟩
             have a5:Hid (pM w w1 l (.slice ao l.length cap) tb 0 0 T):=⟨hT,by rw[ak];exact cU.start _ _,af,Hm _⟩
             clear hT af ak)
 go_loopw [14] (λi wr=>∃(j n:Nat) (T:Tr),i=.int .i64 j/\j<=l.length/\Hid (pM w wr l (.slice ao l.length cap) tb n j T)) (λi _=>l.length-(intOf i).toNat)
 case atStart=>exact⟨0,0,T,rfl,Hv _,a5.out⟩
 case round=>
  clear a5;obtain⟨j,n,T1,rfl,hj,M⟩:=hrel;obtain⟨z,aM⟩:∃z:World,z=wr:=⟨_,rfl⟩
  subst aM;by_cases F:j<l.length
  ·obtain⟨g,off,a6,G,p⟩:=(a3.out.old M.out.kp).at eM (by decide) j F;injection G with G _ e3;subst G e3;have a9:(j:Int)<l.length:=by omega
   obtain⟨r,A⟩:∃r,l[j]=r:=⟨_,rfl⟩
   have u:r∈l:=by rw[<-A];exact Ht F
   rw[A]at p
   have c0:z.cell? ⟨g,off+j*7,none⟩=some (.int .u32 r.s.1):=p 0 _ rfl;have c1:=p 1 _ rfl;have c2:=p 2 _ rfl;have c3:=p 3 _ rfl;have c4:=p 4 _ rfl;have c5:=p 5 _ rfl;have c6:=p 6 _ rfl;have ba:=aa A;have a7:=aa u;have al:=(lZ (a4.out r u) (my (ad.out r u)))
   have H:=aa al;have an:=aa (pL l (j:=j) F |>.trans (by rw[A]));clear p A u al;go_wp2_with fail;have N:Kp ae z (z.alloc (.cells #[.int .u32 r.s.1,.int .i64 r.s.2,.int .u32 r.d.1,.int .i64 r.d.2,.int .u16 r.lo,.int .u16 r.hi,.int .u32 r.fl] 108)):=(Kp.refl ae z).alloc _;have I:ag (z.alloc (.cells #[.int .u32 r.s.1,.int .i64 r.s.2,.int .u32 r.d.1,.int .i64 r.d.2,.int .u16 r.lo,.int .u16 r.hi,.int .u32 r.fl] 108)) z.heap.size (cR r) 108:=ag.new z (cR r) _;obtain⟨W0,au⟩:∃W,z.alloc (.cells #[.int .u32 r.s.1,.int .i64 r.s.2,.int .u32 r.d.1,.int .i64 r.d.2,.int .u16 r.lo,.int .u16 r.hi,.int .u32 r.fl] 108)=W:=⟨_,rfl⟩
   obtain⟨g7,av⟩:∃g,z.heap.size=g:=⟨_,rfl⟩
   rw[au]at N I ⊢
   rw[av]at I ⊢
   have aw:=aa I;have ax:=aa (M.out.old N);obtain⟨f,hf⟩:∃f:Nat->Bool,f=λi=>bT ((l.map (λr=>bU (cY r))).getD i (0,0)) (bU (cY r)):=⟨_,rfl⟩
   have HF:=aa hf;have O:Hid (∀W,Calls Tryz.prog 72 #[.agg #[.int .u32 r.s.1,.int .i64 r.s.2,.int .u32 r.d.1,.int .i64 r.d.2,.int .u16 r.lo,.int .u16 r.hi,.int .u32 r.fl]] W λe w'=>e=.returned (.agg #[.int .u32 (cY r).1,.int .i64 (cY r).2])/\Kp ae W w'):=λW=>C8 r.s r.d r.lo r.hi r.fl W;clear au av N I hf c0 c1 c2 c3 c4 c5 c6;go_loopw [8,20] (λm i wr=>∃k:Nat,i=.int .i64 k/\k<=l.length/\m=.int .u64 (bitsOf f k:Nat)/\Hid (Kp ae W0 wr)) (λ_ i _=>l.length-(intOf i).toNat)
   case atStart=>exact⟨0,rfl,Hv _,rfl,Kp.refl _ _⟩
   case round=>
    obtain⟨k,rfl,hk,rfl,Z⟩:=hrel;by_cases P:k<l.length
    ·obtain⟨g,off,a8,G,p⟩:=(a3.out.old (ax.out.kp.trans Z.out)).at eM (by decide) k P;injection G with G _ e3;cases G;subst e3;have bb:(k:Int)<l.length:=by omega
     have az:k<64:=by omega
     obtain⟨o,ho⟩:∃o,l[k]=o:=⟨_,rfl⟩
     have J:o∈l:=by rw[<-ho];exact Ht P
     rw[ho]at p
     have c0:wr.cell? ⟨g,off+k*7,none⟩=some (.int .u32 o.s.1):=p 0 _ rfl;have c1:=p 1 _ rfl;have c2:=p 2 _ rfl;have c3:=p 3 _ rfl;have c4:=p 4 _ rfl;have c5:=p 5 _ rfl;have c6:=p 6 _ rfl;have aN:=aa (lZ (a4.out o J) (my (ad.out o J)));have aP:=aa (pL l (j:=k) P |>.trans (by rw[ho]));have Q:f k=gj (cY o).1 (cY o).2 (cY r).1 (cY r).2:=by
      rw[HF.out];show bT ((l.map (λr=>bU (cY r))).getD k (0,0)) (bU (cY r))=_;rw[aP.out];unfold bT;rw[aN.out.2,H.out.2];rfl
     have bo:=my (ad.out o J);have K:Hid (∀W,Calls Tryz.prog 72 #[.agg #[.int .u32 o.s.1,.int .i64 o.s.2,.int .u32 o.d.1,.int .i64 o.d.2,.int .u16 o.lo,.int .u16 o.hi,.int .u32 o.fl]] W λe w'=>e=.returned (.agg #[.int .u32 (cY o).1,.int .i64 (cY o).2])/\Kp ae W w'):=λW=>C8 o.s o.d o.lo o.hi o.fl W;have B:=aa (λW=>iN (cY o).1 (cY r).1 (cY o).2 (cY r).2 W bo.1 (my (ad.out r a7.out)).1 ⟨bo.2.1,bo.2.2⟩ (my (ad.out r a7.out)).2);rw[<-Q]at B
     obtain⟨b7,aQ⟩:∃W,W=wr:=⟨_,rfl⟩
     subst aQ;have q:=aa (aw.out.kp Z.out (λx=>x));have R:Kp ae b7 (b7.alloc (.cells #[.int .u32 o.s.1,.int .i64 o.s.2,.int .u32 o.d.1,.int .i64 o.d.2,.int .u16 o.lo,.int .u16 o.hi,.int .u32 o.fl] 108)):=(Kp.refl ae b7).alloc _;have t:ag (b7.alloc (.cells #[.int .u32 o.s.1,.int .i64 o.s.2,.int .u32 o.d.1,.int .i64 o.d.2,.int .u16 o.lo,.int .u16 o.hi,.int .u32 o.fl] 108)) b7.heap.size (cR o) 108:=ag.new b7 (cR o) _;have b:=aa (q.out.kp R (λx=>x));have bc:=aa t;have aA:=aa R;have r0:=b.out.ai;have r1:=b.out.aj;have r2:=b.out.aq;have r3:=b.out.aK;have r4:=b.out.a_;have r5:=b.out.bN;have r6:=b.out.du;have o0:=t.ai;have o1:=t.aj;have o2:=t.aq;have o3:=t.aK;have o4:=t.a_;have o5:=t.bN;have o6:=t.du;clear R t p ho J bo;cases y:f k with
     |true=>
      have aS:=lI az y;rw[y]at B
      obtain⟨m,hm⟩:∃m,bitsOf f k=m:=⟨_,rfl⟩
      obtain⟨m',S⟩:∃m,bitsOf f (k+1)=m:=⟨_,rfl⟩
      rw[hm,S]at aS
      have U:=aa S;simp only[hm];clear hm S y Q;go_wp2_with fail;refine ar 6 (by kernel_rfl) (λ_ _ _ _ _ h=>h) ?_;simp only[aO]
      repeat((first
          |refine ay (by rfl) (by as_aux_lemma=>intro W a;have e0:=a.cell r0 (λx=>x);have G:=a.cell r1 (λx=>x);have e2:=a.cell r2 (λx=>x);have e3:=a.cell r3 (λx=>x);have e4:=a.cell r4 (λx=>x);have e5:=a.cell r5 (λx=>x);have e6:=a.cell r6 (λx=>x);have f0:=a.cell o0 (λx=>x);have f1:=a.cell o1 (λx=>x);have f2:=a.cell o2 (λx=>x);have f3:=a.cell o3 (λx=>x);have f4:=a.cell o4 (λx=>x);have f5:=a.cell o5 (λx=>x);have f6:=a.cell o6 (λx=>x);go_simp;exact rfl) ?_
          |refine ah (by rfl) ?_
          |refine aR (by rfl) (by as_aux_lemma=>intro W;go_simp;exact⟨rfl,rfl⟩) (by intro W a;with_reducible first|exact K.out W|exact O.out W) ?_);simp only[Act.put,aH])
      intro W5 C;have V:=aa ((Z.out.trans aA.out).trans C);clear C r0 r1 r2 r3 r4 r5 r6 o0 o1 o2 o3 o4 o5 o6 c0 c1 c2 c3 c4 c5 c6 K;go_wp2_with(go_at_call 91;refine(B.out _).mono ?_;rintro e w6 ⟨rfl,D⟩;have X:=aa (V.out.trans D);clear D);go_roundw
      case rel=>exact⟨k+1,by go_num,by omega,by rw[U.out],X.out⟩
      case measure=>simp[intOf];omega
     |false=>
      have aB:=lJ y;have aT:=aa aB;rw[y]at B
      obtain⟨m,hm⟩:∃m,bitsOf f k=m:=⟨_,rfl⟩
      have U:=aa hm;simp only[hm];clear hm aB y Q;go_wp2_with fail;refine ar 6 (by kernel_rfl) (λ_ _ _ _ _ h=>h) ?_;simp only[aO]
      repeat((first
          |refine ay (by rfl) (by as_aux_lemma=>intro W a;have e0:=a.cell r0 (λx=>x);have G:=a.cell r1 (λx=>x);have e2:=a.cell r2 (λx=>x);have e3:=a.cell r3 (λx=>x);have e4:=a.cell r4 (λx=>x);have e5:=a.cell r5 (λx=>x);have e6:=a.cell r6 (λx=>x);have f0:=a.cell o0 (λx=>x);have f1:=a.cell o1 (λx=>x);have f2:=a.cell o2 (λx=>x);have f3:=a.cell o3 (λx=>x);have f4:=a.cell o4 (λx=>x);have f5:=a.cell o5 (λx=>x);have f6:=a.cell o6 (λx=>x);go_simp;exact rfl) ?_
          |refine ah (by rfl) ?_
          |refine aR (by rfl) (by as_aux_lemma=>intro W;go_simp;exact⟨rfl,rfl⟩) (by intro W a;with_reducible first|exact K.out W|exact O.out W) ?_);simp only[Act.put,aH])
      intro W5 C;have V:=aa ((Z.out.trans aA.out).trans C);clear C r0 r1 r2 r3 r4 r5 r6 o0 o1 o2 o3 o4 o5 o6 c0 c1 c2 c3 c4 c5 c6 K;go_wp2_with(go_at_call 91;refine(B.out _).mono ?_;rintro e w6 ⟨rfl,D⟩;have X:=aa (V.out.trans D);clear D);go_roundw
      case rel=>exact⟨k+1,by go_num,by omega,by rw[aT.out,U.out],X.out⟩
      case measure=>simp[intOf];omega
    ·have aU:k=l.length:=by omega
     subst aU;have E:bitsOf f l.length=j9 (l.map (λr=>bU (cY r))) (bU (cY r)):=by rw[HF.out];unfold j9;rw[Hq]
     have Y:=aa (ax.out.old Z.out);have aV:=aa (λW (k:Kp ae wr W)=>wo W w.heap.size tb n (j9 (l.map (λr=>bU (cY r))) (bU (cY r))) T1 (Y.out.tab.old k) (bU (cY r)) H.out.1 (by have:=Y.out.hN;omega));have aC:(bU (cY r)).1=(cY r).1:=rfl;rw[H.out.2,<-E,aC]at aV
     have L:=aa E;have q:=aa (aw.out.kp Z.out (λx=>x));have r0:=q.out.ai;have r1:=q.out.aj;have r2:=q.out.aq;have r3:=q.out.aK;have r4:=q.out.a_;have r5:=q.out.bN;have r6:=q.out.du;clear E aC;obtain⟨m,hm⟩:∃m,bitsOf f l.length=m:=⟨_,rfl⟩
     rw[hm]at aV L
     simp only[hm];clear hm
     go_wp2_with(first
      |(go_at_call 72;refine(O.out _).mono ?_;rintro e w2 ⟨rfl,aD⟩;have aE:=aa aD;clear aD)
      |(go_at_call 102;refine(aV.out _ aE.out).mono ?_;rintro e w3 ⟨c,nb,fb,n',rfl,aF,aG,aI⟩
        have aW:=aa aG;have aX:=aa aF;have aY:=aa aI;clear aG aF aI))
     have aJ:cU (l.map (λr=>bU (cY r))) (j+1) (T1.put nb (bU (cY r)) m fb):=by
      have:=M.out.at_.put (k:=j) (by rw[Hq];exact F) (by rw[an.out];exact H.out.1) nb fb;rw[an.out]at this
      rw[L.out];exact this
     have aZ:=aa aJ;have a0:Hid (Kp ae w wr):=Y.out.kp;have a1:=aa ((a0.out.trans aE.out).then aY.out (λi hi e=>by omega));clear aJ;go_roundw
     case rel=>exact⟨j+1,n',_,by go_num,by omega,aW.out,aZ.out,a1.out,Hy aX.out (Nat.succ_le_succ M.out.hN)⟩
     case measure=>simp[intOf];omega
  ·have a2:j=l.length:=by omega
   subst a2;go_wp2_with fail;go_ret;refine⟨tb,T1,n,rfl,M.out.tab,?_,M.out.kp⟩;have:=M.out.at_;have e:l.length=(l.map (λr=>bU (cY r))).length:=(Hq ..).symm;rw[e]at this
   exact this.full
end
end Go.Proofs.YtincjochpkdnfaaGreatDoor
