/- What head of package calq does (layer 11): the first rank in the window, or behind it; the window turns there. -/
import Derived.Test.YtincjochpkdnfaaGreatDoorV17
set_option linter.all false
set_option maxHeartbeats 4000000
set_option maxRecDepth 100000
namespace Go.Proofs.YtincjochpkdnfaaGreatDoor
namespace cq
open Go Go.RowKit Go.Shelf
def Ei{w:World}{cb:Nat}{f:c8}{room nb na:Nat}{c:hh}{I:List It}{x:It}{T:List It}(h:cD w cb f room nb na c.base c.B c.A c.P c.m)(O:bR (bg f.k) room c I)(hd:Dn (bg f.k) c)(hB:c.B=[])(aw:room<=4096)(u:I=x::T)(hT:dH w)(hg:¬f.all cb 0):
    Calls Tryz.prog 203 #[.pointer (some ⟨cb,0,none⟩)] w λe w'=>e=.returned (.tuple #[.int .u64 x.ao,.bool true])/\
     ∃f' c',cD w' cb f' room nb na c'.base c'.B c'.A c'.P c'.m/\cK w cb f w' f'/\bR (bg f'.k) room c' I/\Dn (bg f'.k) c'/\c'.base=x.ao/\c'.B=[]:=by
 have aU:=aa (FE _ _ _ _ _ _ h.set);have bb:=O.zH h.set.sorted;have c0:=h.top.ai;refine al ?_;intro PP aG;by_cases t:c.m=[]
 ·obtain⟨a,A',T2,hA,an⟩:∃a A' T2,c.A=a::A'/\I=cV a::T2:=by
   rcases O.qV hd hB t with⟨_,E⟩|E
   ·rw[u]at E;cases E
   ·exact E
  have aI:x=cV a:=by rw[u]at an;injection an
  have aW:((c.m.length:Int)==0)=true:=by rw[t];rfl
  have aX:=O.D6 (s:=a) (by rw[hA];simp);have aK:=O.zM a (by rw[hA];simp);have aL:=O.pj a (by rw[hA];simp);have Q:=aa (λW (k:Kp ae w W)=>mi (h.old k).aJ);rw[hA]at Q
  have c4:=h.top.a_
  have r:=aa (λW (k:Kp ae w W)=>vh (h.old k) O hd hB aw a.ao aL aK (λi hi=>by
   have E:=O.gf;rw[an]at E hi
   exact fg E hi))
  have aV:=aa hg;have aM:=aa hT;have aN:=aa u;have aP:=aa aI;have bc:=aa hd;have aY:=O.hZ;clear h O hd hB t hg hT u an aI hA aX aL;obtain⟨aZ,ac,⟨fl,id,ln⟩⟩:=a;simp only at aK r;have Q:Hid (∀W,Kp ae w W->Calls Tryz.prog 189 #[.pointer (some ⟨f.ab,0,none⟩)] W λe w'=>e=.returned (.tuple #[.int .u64 (aZ:Int),.agg #[.int .u32 (fl:Int),.int .u32 (id:Int),.int .u64 (ln:Int)],.bool true])/\Kp ae W w'):=Q;generalize c.m.length=ml at*;go_enter Tryz.func203,Tryz.ntmps203;go_wp2_with fail;refine aU.out.mono ?_;rintro e w1 ⟨rfl,rfl⟩;go_wp2_with fail;refine(Q.out w (Kp.refl _ _)).mono ?_;rintro e w1 ⟨rfl,k1⟩;have R:=aa (k1.alloc (.cells #[.int .u32 (fl:Int),.int .u32 (id:Int),.int .u64 (ln:Int)] 148));clear k1 Q aU;go_wp2_with fail;refine(r.out _ R.out).mono ?_;rintro e J ⟨rfl,g,c1,q1,q2,q3,q4,q5,q6,q7⟩;have hm:=q1;have l:=q3;have C:=q4;have D:=q6;have S:=q7;have K:cK w cb f J g:=(cK.old R.out).trans q2;have U:dH J:=aM.out.kp K.kp aV.out;have u:=aN.out;have t:c1.m≠ []:=λe=>by
   rcases q3.qV q4 q6 e with⟨_,E⟩|⟨a,A2,T3,E,h3⟩
   ·rw[u]at E;cases E
   ·have h4:=q4 a (by rw[E];simp);rw[u,aP.out]at h3
    injection h3 with h3 _;have h5:aZ=a.ao:=HC It.ao h3;have h6:c1.base=aZ:=q5;rw[q7]at h4
    omega
  clear q1 q2 q3 q4 q5 q6 q7 c0 c4 R r aP aV aM aN bc aY;have V:c1.m≠ []:=t;obtain⟨d,X,T',k,rr,g1,g2,g3,g4,g5,g6,g7,g8,g9⟩:=l.qW C D V hm.set.sorted;have ax:X=x:=by rw[u]at g4;injection g4 with g4 _;exact g4.symm
  subst ax;have hz:=mv hm.k3;have Y:=iT (show 0<bg g.k by omega) c1.base;have az:=mr (sz:=bg g.k) Y ⟨g2,g3⟩;have aA:=l.e9 X (by rw[u];simp);have a0:=l.base;obtain⟨v,j⟩:∃n:Nat,d=n:=⟨d.toNat,by omega⟩
  obtain⟨fn,b⟩:∃n:Nat,bC (bg g.k) c1.base=n:=⟨(bC (bg g.k) c1.base).toNat,by omega⟩
  obtain⟨o,p⟩:∃n:Nat,fT (bg g.k) fn v=n:=⟨(fT (bg g.k) fn v).toNat,by rw[<-b,<-j];omega⟩
  rw[b,j,p]at g5
  rw[b,j]at g1
  rw[b,j,p]at az
  rw[j]at g2 g3 g7 g8
  rw[b]at Y
  have Z:=aa (by have:=qY hm c1.base;rw[b]at this;exact this);have ad:=aa (λW (L:Kp ae J W)=>(by have:=zc _ _ _ _ _ (fn:Int) W (hm.old L).set hm.k3.2 (U.kp L (λx=>x)) (by omega);rw[g1]at this;exact aF this:Calls Tryz.prog 215 #[.pointer (some ⟨g.sp,0,none⟩),.int .i64 (fn:Int)] W λe w'=>e=.returned (.tuple #[.int .i64 (v:Int),.bool true])/\Kp ae W w'));have af:=aa (λW (L:Kp ae J W)=>(hm.old L).size);have c0:=hm.top.ai;have y:=hm.top.aq;have w1:IntKind.i64.wrap ((v:Int)-fn)=(v:Int)-fn:=by rw[H3];omega
  have w2:IntKind.i64.wrap ((v:Int)-fn+(bg g.k:Nat))=(v:Int)-fn+(bg g.k:Nat):=by rw[H3];omega
  have w3:((v:Int)-fn+(bg g.k:Nat))%((bg g.k:Nat):Int)=(o:Int):=p;have w5:Int.tmod ((v:Int)-fn+(bg g.k:Nat)) ((bg g.k:Nat):Int)=(o:Int):=by rw[KY (by omega)];exact p
  have w6:(bg g.k=0)=False:=by simp;omega
  have w4:IntKind.u64.wrap ((c1.base:Int)+o)=(c1.base:Int)+o:=by rw[HO];omega
  have w7:IntKind.u64.wrap (o:Int)=(o:Int):=by rw[HO];omega
  have ag:(0:Int)<=(v:Int)-fn+(bg g.k:Nat):=by omega
  have a1:=aa hm;have aB:=aa l;have aj:=aa C;have aC:=aa D;have ak:=aa K;have a2:=aa S;have a3:=aa g7;have a4:=aa g8;have a5:=aa g9;have G:Hid (X.ao=c1.base+o):=aa (by rw[g5];omega);have r:=aa (λW (L:Kp ae J W)=>vh (hm.old L) l C D aw X.ao (by rw[G.out];omega) aA (λi hi=>by rw[u]at hi;have E:=l.gf;rw[u]at E;exact fg E hi));have a6:=aa u;clear hm l C D K S V t g1 g4 g5 g7 g8 g9 b j p U u;generalize hsz:bg g.k=z at*;have F:=aa hsz;clear hsz;go_wp2_with fail;refine Z.out.mono ?_;rintro e W1 ⟨rfl,k1⟩;have R:=aa k1;have c0:=k1.cell c0 (λx=>x);have y:=k1.cell y (λx=>x);clear k1 Z;go_wp2_with fail;refine(ad.out _ R.out).mono ?_;rintro e W2 ⟨rfl,k2⟩;have aD:=aa (R.out.trans k2);have c0:=k2.cell c0 (λx=>x);have y:=k2.cell y (λx=>x);clear k2 R ad;go_wp2_with fail;refine(af.out _ aD.out).mono ?_;rintro e W3 ⟨rfl,k3⟩;have aQ:=aa (aD.out.trans k3);have c0:=k3.cell c0 (λx=>x);have y:=k3.cell y (λx=>x);clear k3 aD af;go_wp2_with fail;refine ar 13 (by kernel_rfl) (λ_ _ _ _ _ h=>h) ?_;simp only[aO]
  repeat((first
   |refine ay (by rfl) (by as_aux_lemma=>intro W hK;have e2:=hK.cell y (λx=>x);have e3:=w1;have e4:=w2;have e5:=w3;have e6:=w4;have e7:=ag;have e8:=w5;have be:=w6;have a7:=w7;go_simp;exact rfl) ?_
   |refine ah (by rfl) ?_);simp only[Act.put,aH])
  intro W4 H;have au:=aa (aQ.out.trans H);have y:=H.cell y (λx=>x);clear H aQ c0;have q:((X.ao:Nat):Int)=(c1.base:Int)+o:=by rw[G.out];omega
  simp only[q]at r aG;have a8:=aa q;clear q;by_cases ho:o=0
  ·have aE:(((c1.base:Int)+o) != (c1.base:Int))=false:=by simp[ho]
   have p:(((c1.base:Int)+o)==(c1.base:Int))=true:=by simp[ho]
   clear r;go_wp2_with fail;refine aG.out _ _ ⟨rfl,g,c1,a1.out.old au.out,ak.out.trans (cK.old au.out),by rw[F.out];exact aB.out,by rw[F.out];exact aj.out,by rw[G.out,ho];rfl,aC.out⟩
  ·have aE:(((c1.base:Int)+o) != (c1.base:Int))=true:=by simp;omega
   have p:(((c1.base:Int)+o)==(c1.base:Int))=false:=by simp;omega
   go_wp2_with fail;refine(r.out W4 au.out).mono ?_;rintro e W5 ⟨rfl,f5,c5,q1,q2,q3,q4,q5,q6,q7⟩;have Q1:=aa q1;have Q2:=aa q2;have Q3:=aa q3;have Q4:=aa q4;have Q5:=aa q5;have Q6:=aa q6;clear q1 q2 q3 q4 q5 q6 q7 r y;go_wp2_with fail;refine aG.out _ _ ⟨rfl,f5,c5,Q1.out,(ak.out.trans (cK.old au.out)).trans Q2.out,Q3.out,Q4.out,Q5.out,Q6.out⟩
 ·have aW:((c.m.length:Int)==0)=false:=by
   have:=K5.2 t;simp;omega
  have a9:=aa h;have aR:=aa O;have ba:=aa hd;have aS:=aa hB;have aT:=aa t;have aV:=aa hg;have aM:=aa hT;have aN:=aa u;clear h O hd hB t hg hT u;generalize c.m.length=ml at*;go_enter Tryz.func203,Tryz.ntmps203;go_wp2_with fail;refine aU.out.mono ?_;rintro e w1 ⟨rfl,rfl⟩;go_upto_region 6 with fail;obtain⟨J,av⟩:∃J,w=J:=⟨_,rfl⟩
  obtain⟨g,M⟩:∃g,g=f:=⟨_,rfl⟩
  obtain⟨c1,N⟩:∃c1,c1=c:=⟨_,rfl⟩
  have hm:cD J cb g room nb na c1.base c1.B c1.A c1.P c1.m:=by rw[M,N,<-av];exact a9.out
  have l:bR (bg g.k) room c1 I:=by rw[M,N];exact aR.out
  have C:Dn (bg g.k) c1:=by rw[M,N];exact ba.out
  have D:c1.B=[]:=by rw[N];exact aS.out
  have t:c1.m≠ []:=by rw[N];exact aT.out
  have K:cK w cb f J g:=by rw[M,<-av];exact cK.refl _ _ _
  have S:g.k=f.k:=by rw[M]
  have U:dH J:=by rw[<-av];exact aM.out
  have u:=aN.out;have bf:=aa av;clear M N c0 aU aN aM aV aT aS ba aR a9;have V:c1.m≠ []:=t;obtain⟨d,X,T',k,rr,g1,g2,g3,g4,g5,g6,g7,g8,g9⟩:=l.qW C D V hm.set.sorted;have ax:X=x:=by rw[u]at g4;injection g4 with g4 _;exact g4.symm
  subst ax;have hz:=mv hm.k3;have Y:=iT (show 0<bg g.k by omega) c1.base;have az:=mr (sz:=bg g.k) Y ⟨g2,g3⟩;have aA:=l.e9 X (by rw[u];simp);have a0:=l.base;obtain⟨v,j⟩:∃n:Nat,d=n:=⟨d.toNat,by omega⟩
  obtain⟨fn,b⟩:∃n:Nat,bC (bg g.k) c1.base=n:=⟨(bC (bg g.k) c1.base).toNat,by omega⟩
  obtain⟨o,p⟩:∃n:Nat,fT (bg g.k) fn v=n:=⟨(fT (bg g.k) fn v).toNat,by rw[<-b,<-j];omega⟩
  rw[b,j,p]at g5
  rw[b,j]at g1
  rw[b,j,p]at az
  rw[j]at g2 g3 g7 g8
  rw[b]at Y
  have Z:=aa (by have:=qY hm c1.base;rw[b]at this;exact this);have ad:=aa (λW (L:Kp ae J W)=>(by have:=zc _ _ _ _ _ (fn:Int) W (hm.old L).set hm.k3.2 (U.kp L (λx=>x)) (by omega);rw[g1]at this;exact aF this:Calls Tryz.prog 215 #[.pointer (some ⟨g.sp,0,none⟩),.int .i64 (fn:Int)] W λe w'=>e=.returned (.tuple #[.int .i64 (v:Int),.bool true])/\Kp ae W w'));have af:=aa (λW (L:Kp ae J W)=>(hm.old L).size);have c0:=hm.top.ai;have y:=hm.top.aq;have w1:IntKind.i64.wrap ((v:Int)-fn)=(v:Int)-fn:=by rw[H3];omega
  have w2:IntKind.i64.wrap ((v:Int)-fn+(bg g.k:Nat))=(v:Int)-fn+(bg g.k:Nat):=by rw[H3];omega
  have w3:((v:Int)-fn+(bg g.k:Nat))%((bg g.k:Nat):Int)=(o:Int):=p;have w5:Int.tmod ((v:Int)-fn+(bg g.k:Nat)) ((bg g.k:Nat):Int)=(o:Int):=by rw[KY (by omega)];exact p
  have w6:(bg g.k=0)=False:=by simp;omega
  have w4:IntKind.u64.wrap ((c1.base:Int)+o)=(c1.base:Int)+o:=by rw[HO];omega
  have w7:IntKind.u64.wrap (o:Int)=(o:Int):=by rw[HO];omega
  have ag:(0:Int)<=(v:Int)-fn+(bg g.k:Nat):=by omega
  have a1:=aa hm;have aB:=aa l;have aj:=aa C;have aC:=aa D;have ak:=aa K;have a2:=aa S;have a3:=aa g7;have a4:=aa g8;have a5:=aa g9;have G:Hid (X.ao=c1.base+o):=aa (by rw[g5];omega);have r:=aa (λW (L:Kp ae J W)=>vh (hm.old L) l C D aw X.ao (by rw[G.out];omega) aA (λi hi=>by rw[u]at hi;have E:=l.gf;rw[u]at E;exact fg E hi));have a6:=aa u;clear hm l C D K S V t g1 g4 g5 g7 g8 g9 b j p U u;generalize hsz:bg g.k=z at*;have F:=aa hsz;clear hsz;go_wp2_with fail;refine Z.out.mono ?_;rintro e W1 ⟨rfl,k1⟩;have R:=aa k1;have c0:=k1.cell c0 (λx=>x);have y:=k1.cell y (λx=>x);clear k1 Z;go_wp2_with fail;refine(ad.out _ R.out).mono ?_;rintro e W2 ⟨rfl,k2⟩;have aD:=aa (R.out.trans k2);have c0:=k2.cell c0 (λx=>x);have y:=k2.cell y (λx=>x);clear k2 R ad;go_wp2_with fail;refine(af.out _ aD.out).mono ?_;rintro e W3 ⟨rfl,k3⟩;have aQ:=aa (aD.out.trans k3);have c0:=k3.cell c0 (λx=>x);have y:=k3.cell y (λx=>x);clear k3 aD af;go_wp2_with fail;refine ar 13 (by kernel_rfl) (λ_ _ _ _ _ h=>h) ?_;simp only[aO]
  repeat((first
   |refine ay (by rfl) (by as_aux_lemma=>intro W hK;have e2:=hK.cell y (λx=>x);have e3:=w1;have e4:=w2;have e5:=w3;have e6:=w4;have e7:=ag;have e8:=w5;have be:=w6;have a7:=w7;go_simp;exact rfl) ?_
   |refine ah (by rfl) ?_);simp only[Act.put,aH])
  intro W4 H;have au:=aa (aQ.out.trans H);have y:=H.cell y (λx=>x);clear H aQ c0;have q:((X.ao:Nat):Int)=(c1.base:Int)+o:=by rw[G.out];omega
  simp only[q]at r aG;have a8:=aa q;clear q;by_cases ho:o=0
  ·have aE:(((c1.base:Int)+o) != (c1.base:Int))=false:=by simp[ho]
   have p:(((c1.base:Int)+o)==(c1.base:Int))=true:=by simp[ho]
   clear r;go_wp2_with fail;refine aG.out _ _ ⟨rfl,g,c1,a1.out.old au.out,ak.out.trans (cK.old au.out),by rw[F.out];exact aB.out,by rw[F.out];exact aj.out,by rw[G.out,ho];rfl,aC.out⟩
  ·have aE:(((c1.base:Int)+o) != (c1.base:Int))=true:=by simp;omega
   have p:(((c1.base:Int)+o)==(c1.base:Int))=false:=by simp;omega
   go_wp2_with fail;refine(r.out W4 au.out).mono ?_;rintro e W5 ⟨rfl,f5,c5,q1,q2,q3,q4,q5,q6,q7⟩;have Q1:=aa q1;have Q2:=aa q2;have Q3:=aa q3;have Q4:=aa q4;have Q5:=aa q5;have Q6:=aa q6;clear q1 q2 q3 q4 q5 q6 q7 r y;go_wp2_with fail;refine aG.out _ _ ⟨rfl,f5,c5,Q1.out,(ak.out.trans (cK.old au.out)).trans Q2.out,Q3.out,Q4.out,Q5.out,Q6.out⟩
def bR.wv{sz room:Nat}{c:hh}{x:It}{T:List It}(h:bR sz room c (x::T))(hd:Dn sz c)(e:c.base=x.ao):∃k r,c.R.q (bC sz x.ao)=k::r/\c.R.find k=some x.x:=by
 have f:=h.hZ;have a:=h.mn x.ao (by omega) (by omega);rw[hd.xs (by omega),HH,gX,Hl rfl]at a
 cases b:c.R.q (bC sz x.ao)with
 |nil=>unfold bp at a;rw[b]at a;cases a
 |cons k r=>
  refine⟨k,r,rfl,?_⟩;unfold bp at a;rw[b,HA]at a
  injection a with d _;exact d.symm
def pN{S:PS Pk}{R:RP Pk}(h:Rel S R){j:Nat}(c:j<S.qs.length){k:Int}{r:List Int}(d:R.q (j:Int)=k::r):iB S j=k/\0<=k:=by
 obtain⟨hd,b,e⟩:∃hd b,S.qs[j]? =some (hd,b):=⟨_,_,(HD.2 ⟨c,rfl⟩)⟩
 have a:=(h.queue j hd b e).1;rw[d]at a
 exact⟨by unfold iB;rw[e];exact a.1,a.1▸a.2.1⟩
def zQ{S:PS Pk}{R:RP Pk}(h:Rel S R){k:Int}{x:Pk}(hf:R.find k=some x):∃c,tk S k=some c/\c.x=x:=by
 have:=h.find k;rw[hf]at this
 obtain⟨c,a,e⟩:=Ja.1 this;exact⟨c,a,e⟩
def vk{w:World}{cb:Nat}{f:c8}{room nb na:Nat}{c:hh}(h:cD w cb f room nb na c.base c.B c.A c.P c.m)(q:bR (bg f.k) room c [])(n:room<=4096):
    Calls Tryz.prog 200 #[.pointer (some ⟨cb,0,none⟩)] w λe w'=>e=.returned (.tuple #[.int .u64 0,.agg #[.int .u32 0,.int .u32 0,.int .u64 0],.bool false])/\Kp ae w w':=by
 have l:=aa (λW (k:Kp ae w W)=>pz (h.old k) q n);have l:Hid (∀W,Kp ae w W->Calls Tryz.prog 195 #[.pointer (some ⟨cb,0,none⟩)] W λe w'=>e=.returned (.int .i64 0)/\Kp ae W w'):=l;clear h q;have b:Hid (Kp ae w ((w.alloc (.cells #[.int .u32 0,.int .u32 0,.int .u64 0] 148)).alloc (.cells #[.int .u32 0,.int .u32 0,.int .u64 0] 148))):=((Kp.refl ae w).alloc _).alloc _;have g:=aa ((ag.new w [.int .u32 0,.int .u32 0,.int .u64 0] 148).alloc (.cells #[.int .u32 0,.int .u32 0,.int .u64 0] 148));have i:Hid (ag ((w.alloc (.cells #[.int .u32 0,.int .u32 0,.int .u64 0] 148)).alloc (.cells #[.int .u32 0,.int .u32 0,.int .u64 0] 148)) (w.heap.size+1) [.int .u32 0,.int .u32 0,.int .u64 0] 148):=by
  have:=ag.new (w.alloc (.cells #[.int .u32 0,.int .u32 0,.int .u64 0] 148)) [.int .u32 0,.int .u32 0,.int .u64 0] 148;simp only[HB]at this;exact this
 refine al ?_;intro PP r;go_enter Tryz.func200,Tryz.ntmps200;go_upto_region 2 with fail;generalize (w.alloc (.cells #[.int .u32 0,.int .u32 0,.int .u64 0] 148)).alloc (.cells #[.int .u32 0,.int .u32 0,.int .u64 0] 148)=w0 at*;go_wp2_with fail;refine(l.out _ b.out).mono ?_;rintro e w1 ⟨rfl,k1⟩;have o:=aa (b.out.trans k1);have a:=aa (g.out.kp k1 (λx=>x));have d:=aa (i.out.kp k1 (λx=>x));have s:=d.out.ai;have t:=d.out.aj;have x2:=d.out.aq;have u:=a.out.ai;have r1:=a.out.aj;have r2:=a.out.aq;have fz:=λj=>a.out.fz j;clear k1 b g i l;go_wp2_with fail;go_region
 all_goals
    go_wp2_with fail;exact dA (by exact rfl) ((((a.out.set 0 (.int .u32 0)).set 1 (.int .u32 0)).set 2 (.int .u64 0)).drew) _ Tryz.underlying148 rfl c7 (by exact rfl) (r.out _ _ ⟨rfl,(((o.out.set (p:=⟨w.heap.size,0,none⟩) (.inr (Hm _)) _).set (p:=⟨w.heap.size,1,none⟩) (.inr (Hm _)) _).set (p:=⟨w.heap.size,2,none⟩) (.inr (Hm _)) _).drew⟩)
def q7{w:World}{cb:Nat}{f:c8}{room nb na:Nat}{c:hh}{I:List It}(h:cD w cb f room nb na c.base c.B c.A c.P c.m)(o:bR (bg f.k) room c I)(q:room<=4096){b:En Pk}{D:List (En Pk)}(s:c.B=b::D):
    Calls Tryz.prog 200 #[.pointer (some ⟨cb,0,none⟩)] w λe w'=>e=.returned (.tuple #[.int .u64 b.ao,.agg (ix b.x).toArray,.bool true])/\Kp ae w w':=by
 have E:=aa (λW (k:Kp ae w W)=>pz (h.old k) o q);obtain⟨T,z⟩:=o.mY s;have hz:((I.length:Int)==0)=false:=by rw[z,Hs];simp;omega
 have F:=h.top.aK;have a:=aa (λW (k:Kp ae w W)=>mi (h.old k).low);rw[s]at a
 obtain⟨r,J,⟨fl,id,ln⟩⟩:=b;have a:Hid (∀W,Kp ae w W->Calls Tryz.prog 189 #[.pointer (some ⟨f.bb,0,none⟩)] W λe w'=>e=.returned (.tuple #[.int .u64 (r:Int),.agg #[.int .u32 (fl:Int),.int .u32 (id:Int),.int .u64 (ln:Int)],.bool true])/\Kp ae W w'):=a;show Calls _ _ _ _ λe w'=>e=.returned (.tuple #[.int .u64 (r:Int),.agg #[.int .u32 (fl:Int),.int .u32 (id:Int),.int .u64 (ln:Int)],.bool true])/\_;clear h o s z;generalize I.length=li at*;have l:Hid (Kp ae w ((w.alloc (.cells #[.int .u32 0,.int .u32 0,.int .u64 0] 148)).alloc (.cells #[.int .u32 0,.int .u32 0,.int .u64 0] 148))):=((Kp.refl ae w).alloc _).alloc _;have t:=aa ((ag.new w [.int .u32 0,.int .u32 0,.int .u64 0] 148).alloc (.cells #[.int .u32 0,.int .u32 0,.int .u64 0] 148));have u:Hid (ag ((w.alloc (.cells #[.int .u32 0,.int .u32 0,.int .u64 0] 148)).alloc (.cells #[.int .u32 0,.int .u32 0,.int .u64 0] 148)) (w.heap.size+1) [.int .u32 0,.int .u32 0,.int .u64 0] 148):=by
  have:=ag.new (w.alloc (.cells #[.int .u32 0,.int .u32 0,.int .u64 0] 148)) [.int .u32 0,.int .u32 0,.int .u64 0] 148;simp only[HB]at this;exact this
 refine al ?_;intro PP G;go_enter Tryz.func200,Tryz.ntmps200;go_upto_region 2 with fail;generalize (w.alloc (.cells #[.int .u32 0,.int .u32 0,.int .u64 0] 148)).alloc (.cells #[.int .u32 0,.int .u32 0,.int .u64 0] 148)=w0 at*;go_wp2_with fail;refine(E.out _ l.out).mono ?_;rintro e w1 ⟨rfl,k1⟩;have g:=aa (l.out.trans k1);have n:=aa (t.out.kp k1 (λx=>x));have v:=aa (u.out.kp k1 (λx=>x));have H:=g.out.cell F (λx=>x);go_wp2_with fail;refine(a.out _ g.out).mono ?_;rintro e C ⟨rfl,k2⟩;have y:=aa ((g.out.trans k2).alloc (.cells #[.int .u32 (fl:Int),.int .u32 (id:Int),.int .u64 (ln:Int)] 148));have d:=aa ((n.out.kp k2 (λx=>x)).alloc (.cells #[.int .u32 (fl:Int),.int .u32 (id:Int),.int .u64 (ln:Int)] 148));have i:=aa (ag.new C [.int .u32 (fl:Int),.int .u32 (id:Int),.int .u64 (ln:Int)] 148);clear k2 g n v a H;go_upto_region 6 with fail;generalize C.alloc (.cells #[.int .u32 (fl:Int),.int .u32 (id:Int),.int .u64 (ln:Int)] 148)=w3 at*;have K:=i.out.ai;have L:=i.out.aj;have x2:=i.out.aq;have M:=d.out.ai;have r1:=d.out.aj;have r2:=d.out.aq;have fz:=λj=>d.out.fz j;go_region
 all_goals
    go_wp2_with fail;exact dA (by exact rfl) ((((d.out.set 0 (.int .u32 (fl:Int))).set 1 (.int .u32 (id:Int))).set 2 (.int .u64 (ln:Int))).drew) _ Tryz.underlying148 rfl c7 (by exact rfl) (G.out _ _ ⟨rfl,(((y.out.set (p:=⟨w.heap.size,0,none⟩) (.inr (Hm _)) _).set (p:=⟨w.heap.size,1,none⟩) (.inr (Hm _)) _).set (p:=⟨w.heap.size,2,none⟩) (.inr (Hm _)) _).drew⟩)
def q8{w:World}{cb:Nat}{f:c8}{room nb na:Nat}{c:hh}{I:List It}{x:It}{T:List It}(h:cD w cb f room nb na c.base c.B c.A c.P c.m)(hR:bR (bg f.k) room c I)(hd:Dn (bg f.k) c)(hB:c.B=[])(J:room<=4096)(hI:I=x::T)(hT:dH w)(hg:¬f.all cb 0):
    Calls Tryz.prog 200 #[.pointer (some ⟨cb,0,none⟩)] w λe w'=>e=.returned (.tuple #[.int .u64 x.ao,.agg (ix x.x).toArray,.bool true])/\
     ∃f' l,cD w' cb f' room nb na l.base l.B l.A l.P l.m/\cK w cb f w' f'/\bR (bg f'.k) room l I/\Dn (bg f'.k) l/\l.base=x.ao/\l.B=[]:=by
 have au:=aa (λW (k:Kp ae w W)=>pz (h.old k) hR J);have hz:((I.length:Int)==0)=false:=by rw[hI,Hs];simp;omega
 have c3:=h.top.aK;have a:=aa (λW (k:Kp ae w W)=>mi (h.old k).low);rw[hB]at a
 have a:Hid (∀W,Kp ae w W->Calls Tryz.prog 189 #[.pointer (some ⟨f.bb,0,none⟩)] W λe w'=>e=.returned (.tuple #[.int .u64 0,.agg #[.int .u32 0,.int .u32 0,.int .u64 0],.bool false])/\Kp ae W w'):=a;have K:=aa (λW (k:Kp ae w W)=>Ei (h.old k) hR hd hB J hI (hT.kp k (λx=>x)) hg);have an:=aa hI;have L:¬f.all cb w.heap.size:=λe=>by have:=h.xW e;omega
 clear h hR hB hI hd hT hg;generalize I.length=li at*;obtain⟨G,⟨fl,id,ln⟩⟩:=x;show Calls _ _ _ _ λe w'=>e=.returned (.tuple #[.int .u64 (G:Int),.agg #[.int .u32 (fl:Int),.int .u32 (id:Int),.int .u64 (ln:Int)],.bool true])/\_;have M:Hid (Kp ae w ((w.alloc (.cells #[.int .u32 0,.int .u32 0,.int .u64 0] 148)).alloc (.cells #[.int .u32 0,.int .u32 0,.int .u64 0] 148))):=((Kp.refl ae w).alloc _).alloc _;have ac:=aa ((ag.new w [.int .u32 0,.int .u32 0,.int .u64 0] 148).alloc (.cells #[.int .u32 0,.int .u32 0,.int .u64 0] 148));have ad:Hid (ag ((w.alloc (.cells #[.int .u32 0,.int .u32 0,.int .u64 0] 148)).alloc (.cells #[.int .u32 0,.int .u32 0,.int .u64 0] 148)) (w.heap.size+1) [.int .u32 0,.int .u32 0,.int .u64 0] 148):=by
  have:=ag.new (w.alloc (.cells #[.int .u32 0,.int .u32 0,.int .u64 0] 148)) [.int .u32 0,.int .u32 0,.int .u64 0] 148;simp only[HB]at this;exact this
 refine al ?_;intro PP av;go_enter Tryz.func200,Tryz.ntmps200;go_upto_region 2 with fail;generalize (w.alloc (.cells #[.int .u32 0,.int .u32 0,.int .u64 0] 148)).alloc (.cells #[.int .u32 0,.int .u32 0,.int .u64 0] 148)=w0 at*;go_wp2_with fail;refine(au.out _ M.out).mono ?_;rintro e w1 ⟨rfl,k1⟩;have o:=aa (M.out.trans k1);have N:=aa (ac.out.kp k1 (λx=>x));have af:=aa (ad.out.kp k1 (λx=>x));have y3:=o.out.cell c3 (λx=>x);go_wp2_with fail;refine(a.out _ o.out).mono ?_;rintro e w2 ⟨rfl,k2⟩;have s:=aa ((o.out.trans k2).alloc (.cells #[.int .u32 0,.int .u32 0,.int .u64 0] 148));have t:=aa ((N.out.kp k2 (λx=>x)).alloc (.cells #[.int .u32 0,.int .u32 0,.int .u64 0] 148));clear k2 o N af a y3 c3;go_upto_region 5 with fail;generalize w2.alloc (.cells #[.int .u32 0,.int .u32 0,.int .u64 0] 148)=w3 at*;go_wp2_with fail;refine(K.out _ s.out).mono ?_;rintro e O ⟨rfl,f4,c4,H,q2,d,q4,q5,q6⟩;have u:=t.out.kp q2.kp L;have Q:=aa u;rw[an.out]at d
 obtain⟨k,rr,hq,hf⟩:=d.wv q4 q5;obtain⟨j,hj⟩:∃j:Nat,G%bg f4.k=j:=⟨_,rfl⟩
 have q:bC (bg f4.k) G=(j:Int):=by unfold bC;rw[hj]
 have v:j<c4.P.qs.length:=by have:=d.day G;rw[q]at this;omega
 have R:c4.P.qs.length<=262144:=by rw[d.qs];exact d.hZ.2
 simp only at hq hf;rw[q]at hq
 obtain⟨ar,ah⟩:=pN d.rel v hq;obtain⟨kn,rfl⟩:∃n:Nat,k=n:=⟨k.toNat,by omega⟩
 obtain⟨ce,S,U⟩:=zQ d.rel hf;have V:=aa (λW (X:Kp ae O W)=>(by have:=qY (H.old X) G;rw[q]at this;exact this));have Y:=aa (λW (X:Kp ae O W)=>(by have:=vf W _ _ _ _ _ (H.old X).h1 d.rel j v R;rw[ar,Hk (by omega),Hz (by omega)]at this;exact aF this:Calls Tryz.prog 204 #[.pointer (some ⟨f4.pp,0,none⟩),.int .i64 (j:Int)] W λe w'=>e=.returned (.tuple #[.int .i64 (kn:Int),.bool true])/\Kp ae W w'));have Z:=aa (λW (X:Kp ae O W)=>(by have:=F7 W _ _ _ _ (H.old X).h1 kn ce S d.rel.len;rw[U]at this;exact this:Calls Tryz.prog 206 #[.pointer (some ⟨f4.pp,0,none⟩),.int .i64 (kn:Int)] W λe w'=>e=.returned (.tuple #[.agg #[.int .u32 (fl:Int),.int .u32 (id:Int),.int .u64 (ln:Int)],.bool true])/\Kp ae W w'));have c1:=H.top.aj;have aw:=u.lt;have Q1:=aa H;have Q2:=aa ((cK.old s.out).trans q2);have Q3:=aa d;have Q4:=aa q4;have Q5:Hid (c4.base=G):=aa q5;have Q6:=aa q6;have r:¬f4.all cb w.heap.size:=λe=>by
  rcases q2.nw _ e with h|h
  ·exact L h
  ·have:=t.out.lt;omega
 have ak:=aa r;clear H q2 d q4 q5 q6 u hq hf ar ah S U q hj v R K t s r;go_wp2_with fail
 go_region_held3 (λw'=>w'.cell? ⟨cb,1,none⟩=some (.pointer (some ⟨f4.pp,0,none⟩))) (go_keep)
    (first
     |(go_at_call 205;refine(V.out _ (Kp.refl ae O).drew).mono ?_;rintro e w5 ⟨rfl,y⟩
       have c1:=y.cell c1 (λx=>x);have z:=aa ((Kp.refl ae O).drew.trans y)
       clear y)
     |(go_at_call 204;refine(Y.out _ z.out).mono ?_;rintro e w6 ⟨rfl,C⟩
       have c1:=C.cell c1 (λx=>x);have D:=aa (z.out.trans C)
       clear C))
 go_wp2_with fail;refine(Z.out _ D.out).mono ?_;rintro e w7 ⟨rfl,k7⟩;have E:=aa ((D.out.trans k7).alloc (.cells #[.int .u32 (fl:Int),.int .u32 (id:Int),.int .u64 (ln:Int)] 148));have g:=aa (Q.out.kp E.out (λx=>x));have F:=aa (ag.new w7 [.int .u32 (fl:Int),.int .u32 (id:Int),.int .u64 (ln:Int)] 148);clear k7 V Y Z z D Q c1;go_upto_region 10 with fail;generalize w7.alloc (.cells #[.int .u32 (fl:Int),.int .u32 (id:Int),.int .u64 (ln:Int)] 148)=w8 at*;have x0:=F.out.ai;have x1:=F.out.aj;have x2:=F.out.aq;have r0:=g.out.ai;have r1:=g.out.aj;have r2:=g.out.aq;have fz:=λj=>g.out.fz j;go_region
 all_goals
    go_wp2_with fail;have ks:Kp (λb=>b=w.heap.size) w8 ((((w8.setCell ⟨w.heap.size,0,none⟩ (.int .u32 (fl:Int))).setCell ⟨w.heap.size,1,none⟩ (.int .u32 (id:Int))).setCell ⟨w.heap.size,2,none⟩ (.int .u64 (ln:Int))).drew):=((((Kp.refl (λb=>b=w.heap.size) w8).set (p:=⟨w.heap.size,0,none⟩) (.inl rfl) _).set (p:=⟨w.heap.size,1,none⟩) (.inl rfl) _).set (p:=⟨w.heap.size,2,none⟩) (.inl rfl) _).drew;refine dA (by exact rfl) ((((g.out.set 0 (.int .u32 (fl:Int))).set 1 (.int .u32 (id:Int))).set 2 (.int .u64 (ln:Int))).drew) _ Tryz.underlying148 rfl c7 (by exact rfl) (av.out _ _ ⟨rfl,f4,c4,(Q1.out.old E.out).kp ks (λb hb e=>ak.out (by rw[<-e];exact hb)),?_,by rw[an.out];exact Q3.out,Q4.out,Q5.out,Q6.out⟩);have t8:cK w cb f w8 f4:=Q2.out.trans (cK.old E.out);exact⟨t8.kp.then ks (λi hi e=>by omega),t8.nw⟩
def vm{S:PS Pk}{R:RP Pk}(h:Rel S R){j:Nat}(c:j<S.qs.length)(d:R.q (j:Int)=[]):iB S j= -1:=by
 obtain⟨hd,a,e⟩:∃hd a,S.qs[j]? =some (hd,a):=⟨_,_,(HD.2 ⟨c,rfl⟩)⟩
 have b:=(h.queue j hd a e).1;rw[d]at b
 unfold iB;rw[e];exact b
def zR{w:World}{cb:Nat}{f:c8}{room nb na:Nat}{c:hh}{I:List It}(h:cD w cb f room nb na c.base c.B c.A c.P c.m)(L:bR (bg f.k) room c I)(E:room<=4096){b:En Pk}{F:List (En Pk)}(D:c.B=b::F):
    Calls Tryz.prog 201 #[.pointer (some ⟨cb,0,none⟩)] w λe w'=>(∃x y z,e=.returned (.tuple #[x,y,z]))/\∃G,cD w' cb G room nb na c.base F c.A c.P c.m/\cK w cb f w' G/\G.k=f.k:=by
 have g:=aa (λW (k:Kp ae w W)=>q7 (h.old k) L E D);have H:=h.top.aK;have M:=aa (λW (k:Kp ae w W)=>aF (r8 (h.old k).low));have l:=aa (λW (k:Kp ae w W)=>(by have:=(h.old k).low;rw[D]at this;exact vb this));have R:(0:Int)<c.B.length:=by rw[D,Hs];omega
 have S:=aa h;have q:¬f.all cb w.heap.size:=λe=>by have:=h.xW e;omega
 clear h L D;generalize c.B.length=lb at*;obtain⟨r,V,⟨fl,id,ln⟩⟩:=b;have g:Hid (∀W,Kp ae w W->Calls Tryz.prog 200 #[.pointer (some ⟨cb,0,none⟩)] W λe w'=>e=.returned (.tuple #[.int .u64 (r:Int),.agg #[.int .u32 (fl:Int),.int .u32 (id:Int),.int .u64 (ln:Int)],.bool true])/\Kp ae W w'):=g;have l:Hid (∀W,Kp ae w W->Calls Tryz.prog 190 #[.pointer (some ⟨f.bb,0,none⟩)] W λe w'=>e=.returned (.tuple #[.int .u64 (r:Int),.agg #[.int .u32 (fl:Int),.int .u32 (id:Int),.int .u64 (ln:Int)],.bool true])/\Hp w' f.FB f.bb room nb F/\Kp f.FB W w'):=l;have o:Hid (Kp ae w (w.alloc (.cells #[.int .u32 0,.int .u32 0,.int .u64 0] 148))):=(Kp.refl ae w).alloc _;have s:=aa (ag.new w [.int .u32 0,.int .u32 0,.int .u64 0] 148);refine al ?_;intro PP T;go_enter Tryz.func201,Tryz.ntmps201;go_upto_region 1 with fail;generalize w.alloc (.cells #[.int .u32 0,.int .u32 0,.int .u64 0] 148)=w0 at*;go_wp2_with fail;refine(g.out _ o.out).mono ?_;rintro e w1 ⟨rfl,k1⟩;have n:=aa ((o.out.trans k1).alloc (.cells #[.int .u32 (fl:Int),.int .u32 (id:Int),.int .u64 (ln:Int)] 148));have t:=aa ((s.out.kp k1 (λx=>x)).alloc (.cells #[.int .u32 (fl:Int),.int .u32 (id:Int),.int .u64 (ln:Int)] 148));clear k1 o s g;go_upto_region 2 with fail;generalize w1.alloc (.cells #[.int .u32 (fl:Int),.int .u32 (id:Int),.int .u64 (ln:Int)] 148)=X at*;have N:=n.out.cell H (λx=>x);go_wp2_with fail;refine(M.out _ n.out).mono ?_;rintro e w3 ⟨rfl,k3⟩;have a:=aa (n.out.trans k3);have u:=aa (t.out.kp k3 (λx=>x));have N:=a.out.cell H (λx=>x);clear k3 n t M H;go_wp2_with fail;refine(l.out _ a.out).mono ?_;rintro e J ⟨rfl,O,K⟩;have v:=aa ((S.out.old a.out).wk O K (Nw.refl _ _));have C:=aa ((cK.old (cb:=cb) (f:=f) a.out).trans v.out.2);have d:=aa (u.out.kp K (λe=>q ⟨f.FB,by simp[c8.parts],e⟩));have Y:=d.out.ai;have r1:=d.out.aj;have r2:=d.out.aq;have fz:=λj=>d.out.fz j;clear O K l a u N;go_wp2_with fail;have Q:Kp (λb=>b=w.heap.size) J (((J.setCell ⟨w.heap.size,0,none⟩ (.int .u32 (fl:Int))).setCell ⟨w.heap.size,1,none⟩ (.int .u32 (id:Int))).setCell ⟨w.heap.size,2,none⟩ (.int .u64 (ln:Int))):=(((Kp.refl (λb=>b=w.heap.size) J).set (p:=⟨w.heap.size,0,none⟩) (.inl rfl) _).set (p:=⟨w.heap.size,1,none⟩) (.inl rfl) _).set (p:=⟨w.heap.size,2,none⟩) (.inl rfl) _;refine dA (by exact rfl) (((d.out.set 0 (.int .u32 (fl:Int))).set 1 (.int .u32 (id:Int))).set 2 (.int .u64 (ln:Int))) _ Tryz.underlying148 rfl c7 (by exact rfl) (T.out _ _ ⟨⟨_,_,_,rfl⟩,_,v.out.1.kp Q (λb U e=>q (by rw[<-e];exact U)),⟨C.out.kp.then Q (λi hi e=>by omega),C.out.nw⟩,rfl⟩)
def zS{w:World}{cb:Nat}{f:c8}{room nb na:Nat}{c:hh}{I:List It}{x:It}{T:List It}(h:cD w cb f room nb na c.base c.B c.A c.P c.m)(hR:bR (bg f.k) room c I)(hd:Dn (bg f.k) c)(hB:c.B=[])(bj:room<=4096)(hI:I=x::T)(hT:dH w)(hg:¬f.all cb 0):
    Calls Tryz.prog 201 #[.pointer (some ⟨cb,0,none⟩)] w λe w'=>(∃x y z,e=.returned (.tuple #[x,y,z]))/\∃O o,cD w' cb O room nb na o.base o.B o.A o.P o.m/\cK w cb f w' O/\bR (bg O.k) room o T/\Dn (bg O.k) o:=by
 have Q:=aa (λW (k:Kp ae w W)=>q8 (h.old k) hR hd hB bj hI (hT.kp k (λx=>x)) hg);have an:¬f.all cb w.heap.size:=λe=>by have:=h.xW e;omega
 clear h hR hB hd hT hg;have bv:=aa hI;clear hI;obtain⟨S,⟨fl,id,ln⟩⟩:=x
 have Q:Hid (∀W,Kp ae w W->Calls Tryz.prog 200 #[.pointer (some ⟨cb,0,none⟩)] W λe w'=>e=.returned (.tuple #[.int .u64 (S:Int),.agg #[.int .u32 (fl:Int),.int .u32 (id:Int),.int .u64 (ln:Int)],.bool true])/\
  ∃O o,cD w' cb O room nb na o.base o.B o.A o.P o.m/\cK W cb f w' O/\bR (bg O.k) room o I/\Dn (bg O.k) o/\o.base=S/\o.B=[]):=Q
 have ao:Hid (Kp ae w (w.alloc (.cells #[.int .u32 0,.int .u32 0,.int .u64 0] 148))):=(Kp.refl ae w).alloc _;have U:=aa (ag.new w [.int .u32 0,.int .u32 0,.int .u64 0] 148);refine al ?_;intro PP bu;go_enter Tryz.func201,Tryz.ntmps201;go_upto_region 1 with fail;generalize w.alloc (.cells #[.int .u32 0,.int .u32 0,.int .u64 0] 148)=w0 at*;go_wp2_with fail;refine(Q.out _ ao.out).mono ?_;rintro e w1 ⟨rfl,f1,c1,L,q2,E,q4,q5,q6⟩;have ka:Kp ae w1 (w1.alloc (.cells #[.int .u32 (fl:Int),.int .u32 (id:Int),.int .u64 (ln:Int)] 148)):=(Kp.refl ae w1).alloc _;have aL:=aa (L.old ka);have aM:=aa (((cK.old ao.out).trans q2).trans (cK.old (cb:=cb) (f:=f1) ka));have aN:=aa ((U.out.kp q2.kp an).kp ka (λx=>x));have aO:=aa (ag.new w1 [.int .u32 (fl:Int),.int .u32 (id:Int),.int .u64 (ln:Int)] 148);have bw:w.heap.size<w1.heap.size:=(U.out.kp q2.kp an).lt;have ar:¬f1.all cb w1.heap.size:=λe=>by have:=L.xW e;omega
 have d:¬f1.all cb w.heap.size:=λe=>by
  rcases q2.nw _ e with h|h
  ·exact an h
  ·have:=U.out.lt;omega
 rw[bv.out]at E
 obtain⟨k,rr,hq,hf⟩:=E.wv q4 q5;obtain⟨j,hj⟩:∃j:Nat,S%bg f1.k=j:=⟨_,rfl⟩
 have J:bC (bg f1.k) S=(j:Int):=by unfold bC;rw[hj]
 have au:j<c1.P.qs.length:=by have:=E.day S;rw[J]at this;omega
 have av:c1.P.qs.length<=262144:=by rw[E.qs];exact E.hZ.2
 simp only at hq hf;rw[J]at hq
 obtain⟨bz,bl⟩:=pN E.rel au hq;obtain⟨kn,rfl⟩:∃n:Nat,k=n:=⟨k.toNat,by omega⟩
 obtain⟨px,S1,S2,R2,o1,o2,o3,o4,o5,o6,o7,o8,o9,aP,V,aQ,aR⟩:=BF E.rel s_ (j:Int) hq;rw[hf]at o1
 injection o1 with o1;subst o1;have G:j<S2.qs.length:=by rw[o7];exact au
 have aS:=λm' a7=>E.BH q4 q5 (P':=S2) (R':=R2) (m':=m') (by show c1.R.q (bC (bg f1.k) S)≠ [];rw[J,hq];simp) o5 o6 o7 o9 aP (by show ∀e,bp R2 e=if e=bC (bg f1.k) S then _ else _;rw[J];exact aR) a7;have X:=aa aS;have aT:=aa (λW (hk:Kp ae w1 W)=>(by have:=qY (L.old hk) S;rw[J]at this;exact this));have aU:=aa (λW (hk:Kp ae w1 W)=>F8 W _ _ _ _ _ (L.old hk).h1 E.rel j kn av o2);have aV:=aa (λW vc (hp:bH W f1.pp f1.pq vc S1)=>Ed W _ _ _ _ _ hp o4 kn o3);have aw:=aa (λW vc (hp:bH W f1.pp f1.pq vc S2)=>vf W _ _ _ _ _ hp o5 j G (by rw[o7];exact av));have bm:=aa (E.zH L.set.sorted);have aW:=aa (λW (hk:Kp ae w1 W)=>(by have:=aF (r8 (L.old hk).low);rw[q6]at this;exact this:Calls Tryz.prog 184 #[.pointer (some ⟨f1.bb,0,none⟩)] W λe w'=>e=.returned (.int .i64 0)/\Kp ae W w'));have ah:∀e:Int,(e∈if rr=[]then dG c1.m (j:Int)else c1.m)↔R2.q e≠ []:=λe=>by
  by_cases e1:e=(j:Int)
  ·rw[e1,V];by_cases r:rr=[]
   ·rw[Hl r,r,hQ];simp
   ·rw[Hk r];simp only[r,ne_eq,not_false_iff,iff_true];rw[E.days,hq];simp
  ·rw[aQ e e1,<-E.days];split
   ·rw[hQ];simp[e1]
   ·exact Iff.rfl
 have Y:=aa ah;have ax:=aa (λ(r:rr=[])=>vm o5 G (by rw[V];exact r));have ay:=aa (λ(a:Int) (t:List Int) (r:rr=a::t)=>pN o5 G (by rw[V];exact r));have aX:(j:Int)∈c1.m:=(E.days _).2 (by rw[hq];simp);have bA:=aa aX;have aY:=L.top.aj;have aZ:=L.top.ai;have a0:=L.top.aK;have bB:=L.top.lt;have Q5:Hid (c1.base=S):=aa q5;clear L q2 E q4 q5 q6 hq hf bz bl J hj au av o2 o3 o4 o5 o6 o7 o8 o9 aP V aQ aR aS ah aX G Q ao U;go_upto_region 2 with fail;have d1:=ka.cell aY (λx=>x);have d0:=ka.cell aZ (λx=>x);have d3:=ka.cell a0 (λx=>x);have az:=aa ka;clear ka aY aZ a0;generalize w1.alloc (.cells #[.int .u32 (fl:Int),.int .u32 (id:Int),.int .u64 (ln:Int)] 148)=w2 at*;go_wp2_with fail;refine(aW.out _ az.out).mono ?_;rintro e w3 ⟨rfl,k3⟩;have aA:=aa (az.out.trans k3);have d1:=k3.cell d1 (λx=>x);have d0:=k3.cell d0 (λx=>x);have a1:=aa (aL.out.old k3);have a2:=aa (aM.out.trans (cK.old k3));have a3:=aa (aN.out.kp k3 (λx=>x));have a4:=aa (aO.out.kp k3 (λx=>x));clear k3 az aL aM aN aO d3 aW;go_wp2_with fail;refine(aT.out _ aA.out).mono ?_;rintro e w4 ⟨rfl,k4⟩;have a5:=aa (aA.out.trans k4);have d1:=k4.cell d1 (λx=>x);have d0:=k4.cell d0 (λx=>x);have aB:=aa (a1.out.old k4);have a6:=aa (a2.out.trans (cK.old k4));have a8:=aa (a3.out.kp k4 (λx=>x));have aC:=aa (a4.out.kp k4 (λx=>x));clear k4 aA a1 a2 a3 a4 aT;go_wp2_with fail;refine(aU.out _ a5.out).mono ?_;rintro e w5 ⟨rfl,a9,p5,k5,n5⟩;have aD:∀(z:Nat),¬f1.all cb z->¬PF f1.pp f1.pq f1.vc z:=λz hz e=>hz ⟨PF f1.pp f1.pq f1.vc,by simp[c8.parts],e⟩;have s:¬PF f1.pp f1.pq f1.vc cb:=aB.out.fh.ne (i:=0) (j:=2) rfl rfl (by decide) cb rfl;have aE:=aa (aB.out.mw p5 k5 n5);have Z:=aa aE.out.1;have a_:=aa (a6.out.trans aE.out.2);have ba:=aa (a8.out.kp k5 (aD _ d));have bc:=aa (aC.out.kp k5 (aD _ ar));have d1:=k5.cell d1 s;have d0:=k5.cell d0 s;have N5:=aa n5;have bn:=k5.size;have bq:=aC.out.lt;clear p5 k5 n5 aE aB a6 a8 aC a5 aU s;have H:∀(z:Nat),¬f1.all cb z->z<w4.heap.size->¬PF f1.pp f1.pq a9 z:=λz hz hl e=>by
  rcases N5.out z e with h|h
  ·exact aD z hz h
  ·omega
 go_wp2_with fail;refine(aV.out _ _ Z.out.h1).mono ?_;rintro e w6 ⟨rfl,l,p6,k6,n6⟩;have s:¬PF f1.pp f1.pq a9 cb:=Z.out.fh.ne (i:=0) (j:=2) rfl rfl (by decide) cb rfl;have aG:=aa (Z.out.mw p6 k6 n6);have u:Hid (cD w6 cb {f1 with vc:=l} room nb na c1.base c1.B c1.A S2 c1.m):=aa aG.out.1;have ac:Hid (cK w cb f w6 {f1 with vc:=l}):=aa (a_.out.trans aG.out.2);have ad:=aa (ba.out.kp k6 (H _ d (by omega)));have af:=aa (bc.out.kp k6 (H _ ar (by omega)));have d1:=k6.cell d1 s;have d0:=k6.cell d0 s;have ak:¬PF f1.pp f1.pq l w.heap.size:=λe=>by
  rcases n6 _ e with h|h
  ·exact H _ d (by omega) h
  ·omega
 have br:=aa ak;clear p6 k6 n6 aG Z a_ ba bc N5 bn bq H s aV ak;go_wp2_with fail;have bs:¬({f1 with vc:=l}:c8).all cb w.heap.size:=λe=>by
  obtain⟨F,hF,hb⟩:=e;simp only[c8.parts,Ho,H5,Ia]at hF;rcases hF with rfl|rfl|rfl|rfl|rfl
  ·exact d ⟨λb=>b=cb,by simp[c8.parts],hb⟩
  ·exact d ⟨Fp f1.sp f1.sl f1.sB f1.k,by simp[c8.parts],hb⟩
  ·exact br.out hb
  ·exact d ⟨f1.FB,by simp[c8.parts],hb⟩
  ·exact d ⟨f1.FA,by simp[c8.parts],hb⟩
 have be:=aa bs;refine(aw.out w6 _ u.out.h1).mono ?_;rintro e w7 ⟨rfl,rfl⟩;by_cases r:rr=[]
 ·have bf:=ax.out r;rw[bf,Hl rfl];obtain⟨m8,v⟩:∃m8,dG c1.m (j:Int)=m8:=⟨_,rfl⟩
  have M:=aa (X.out m8 (by rw[<-v];have:=Y.out;rw[Hl r]at this;exact this));have aH:=aa (DQ _ _ _ _ _ (j:Int) w6 u.out.set u.out.k3.2 (by have:=bm.out;omega));rw[v]at aH
  clear bf r v ax ay Y X aw;go_wp2_with fail;refine aH.out.mono ?_;rintro e C ⟨rfl,s8,k8⟩;have aI:=aa (u.out.wj s8 k8);have aJ:Hid (cD C cb {f1 with vc:=l} room nb na c1.base c1.B c1.A S2 m8):=aa aI.out.1;have N:Hid (cK w cb f C {f1 with vc:=l}):=aa (ac.out.trans aI.out.2);have bh:∀z:Nat,¬f1.all cb z->¬Fp f1.sp f1.sl f1.sB f1.k z:=λz hz e=>hz ⟨Fp f1.sp f1.sl f1.sB f1.k,by simp[c8.parts],e⟩;have g:=aa (ad.out.kp k8 (bh _ d));have D:=aa (af.out.kp k8 (bh _ ar));clear s8 k8 aI u ac ad af aH d0 d1;have y0:=D.out.ai;have y1:=D.out.aj;have y2:=D.out.aq;have r0:=g.out.ai;have r1:=g.out.aj;have r2:=g.out.aq;have fz:=λj=>g.out.fz j;go_wp2_with fail;go_region;all_goals
   go_wp2_with fail;have ks:Kp (λb=>b=w.heap.size) C ((((C.setCell ⟨w.heap.size,0,none⟩ (.int .u32 (fl:Int))).setCell ⟨w.heap.size,1,none⟩ (.int .u32 (id:Int))).setCell ⟨w.heap.size,2,none⟩ (.int .u64 (ln:Int))).drew):=((((Kp.refl (λb=>b=w.heap.size) C).set (p:=⟨w.heap.size,0,none⟩) (.inl rfl) _).set (p:=⟨w.heap.size,1,none⟩) (.inl rfl) _).set (p:=⟨w.heap.size,2,none⟩) (.inl rfl) _).drew;exact dA (by exact rfl) ((((g.out.set 0 (.int .u32 (fl:Int))).set 1 (.int .u32 (id:Int))).set 2 (.int .u64 (ln:Int))).drew) _ Tryz.underlying148 rfl c7 (by exact rfl) (bu.out _ _ ⟨⟨_,_,_,rfl⟩,{f1 with vc:=l},{c1 with P:=S2,R:=R2,m:=m8},aJ.out.kp ks (λb hb e=>be.out (by rw[<-e];exact hb)),⟨N.out.kp.then ks (λi hi e=>by omega),N.out.nw⟩,M.out.1,M.out.2⟩)
 ·obtain⟨a,t,bi⟩:∃a t,rr=a::t:=by cases rr with|nil=>exact absurd rfl r|cons a t=>exact⟨a,t,rfl⟩
  obtain⟨bf,h2⟩:=ay.out a t bi;rw[bf,Hk (by omega),Hz (by omega)];obtain⟨m8,v⟩:∃m8,c1.m=m8:=⟨_,rfl⟩
  have M:=aa (X.out m8 (by rw[<-v];have:=Y.out;rw[Hk r]at this;exact this));obtain⟨C,K⟩:∃C,w6=C:=⟨_,rfl⟩
  have aJ:Hid (cD C cb {f1 with vc:=l} room nb na c1.base c1.B c1.A S2 m8):=aa (by rw[<-K,<-v];exact u.out);have N:Hid (cK w cb f C {f1 with vc:=l}):=aa (by rw[<-K];exact ac.out);have g:Hid (ag C w.heap.size [.int .u32 0,.int .u32 0,.int .u64 0] 148):=aa (by rw[<-K];exact ad.out);have D:Hid (ag C w1.heap.size [.int .u32 (fl:Int),.int .u32 (id:Int),.int .u64 (ln:Int)] 148):=aa (by rw[<-K];exact af.out);rw[K];clear bf h2 r bi v ax ay Y X aw K u ac ad af d0 d1;go_wp2_with fail;have y0:=D.out.ai;have y1:=D.out.aj;have y2:=D.out.aq;have r0:=g.out.ai;have r1:=g.out.aj;have r2:=g.out.aq;have fz:=λj=>g.out.fz j;go_wp2_with fail;go_region;all_goals
   go_wp2_with fail;have ks:Kp (λb=>b=w.heap.size) C ((((C.setCell ⟨w.heap.size,0,none⟩ (.int .u32 (fl:Int))).setCell ⟨w.heap.size,1,none⟩ (.int .u32 (id:Int))).setCell ⟨w.heap.size,2,none⟩ (.int .u64 (ln:Int))).drew):=((((Kp.refl (λb=>b=w.heap.size) C).set (p:=⟨w.heap.size,0,none⟩) (.inl rfl) _).set (p:=⟨w.heap.size,1,none⟩) (.inl rfl) _).set (p:=⟨w.heap.size,2,none⟩) (.inl rfl) _).drew;exact dA (by exact rfl) ((((g.out.set 0 (.int .u32 (fl:Int))).set 1 (.int .u32 (id:Int))).set 2 (.int .u64 (ln:Int))).drew) _ Tryz.underlying148 rfl c7 (by exact rfl) (bu.out _ _ ⟨⟨_,_,_,rfl⟩,{f1 with vc:=l},{c1 with P:=S2,R:=R2,m:=m8},aJ.out.kp ks (λb hb e=>be.out (by rw[<-e];exact hb)),⟨N.out.kp.then ks (λi hi e=>by omega),N.out.nw⟩,M.out.1,M.out.2⟩)
def BV{w:World}{F:Nat->Prop}{cb room n:Nat}{I:List It}(h:Ca w F cb room n I)(q:dH w)(r:¬F 0):
    Calls Tryz.prog 200 #[.pointer (some ⟨cb,0,none⟩)] w λe w'=>e=.returned (.tuple #[.int .u64 (iQ I).1.ao,.agg #[.int .u32 (iQ I).1.x.cE,.int .u32 (iQ I).1.x.id,.int .u64 (iQ I).1.x.len],.bool (iQ I).2])/\∃p,Ca w' p cb room n I/\Kp F w w'/\Nw w F p:=by
 obtain⟨f,nb,na,c,rfl,g,a,k,l,m,d⟩:=h;cases j:I with
 |nil=>
  rw[j]at a
  refine(vk g a d).mono ?_;rintro e w' ⟨rfl,i⟩;exact⟨rfl,_,⟨f,nb,na,c,rfl,g.old i,a,k,l,m,d⟩,i.mono (λ_ _ x=>x.elim),Nw.refl _ _⟩
 |cons x T=>
  rw[<-j];cases o:c.B with
  |nil=>
   refine(q8 g a k o d j q r).mono ?_;rintro e w' ⟨rfl,s,t,a1,a2,a3,a4,_,_⟩;exact⟨by rw[j];rfl,_,⟨s,nb,na,t,rfl,a1,a3,a4,l,m,d⟩,a2.kp,a2.nw⟩
  |cons b v=>
   obtain⟨y,u⟩:=a.mY o;refine(q7 g a d o).mono ?_;rintro e w' ⟨rfl,i⟩;exact⟨by rw[u];rfl,_,⟨f,nb,na,c,rfl,g.old i,a,k,l,m,d⟩,i.mono (λ_ _ x=>x.elim),Nw.refl _ _⟩
def Ej{w:World}{F:Nat->Prop}{cb room n:Nat}{x:It}{T:List It}(h:Ca w F cb room n (x::T))(p:dH w)(q:¬F 0):
    Calls Tryz.prog 201 #[.pointer (some ⟨cb,0,none⟩)] w λe w'=>(∃x y z,e=.returned (.tuple #[x,y,z]))/\∃j,Ca w' j cb room n T/\Kp F w w'/\Nw w F j:=by
 obtain⟨f,nb,na,c,rfl,k,d,l,m,o,a⟩:=h;cases g:c.B with
 |nil=>
  refine(zS k d l g a rfl p q).mono ?_;rintro e w' ⟨he,i,r,a1,a2,a3,a4⟩;exact⟨he,_,⟨i,nb,na,r,rfl,a1,a3,a4,m,o,a⟩,a2.kp,a2.nw⟩
 |cons b s=>
  have hp:=d.BI l g;refine(zR k d a g).mono ?_;rintro e w' ⟨he,i,a1,a2,a3⟩;exact⟨he,_,⟨i,nb,na,{c with B:=s},rfl,a1,by rw[a3];exact hp.1,by rw[a3];exact hp.2,m,o,a⟩,a2.kp,a2.nw⟩
end cq
end Go.Proofs.YtincjochpkdnfaaGreatDoor
