/- A port's Arrive: through the meter, into the shaper (layer 36). Printed by wip/pod.py. -/
import Derived.Test.YtincjochpkdnfaaGreatDoorV29
set_option linter.all false
set_option maxHeartbeats 2000000
set_option maxRecDepth 100000
namespace Go.Proofs.YtincjochpkdnfaaGreatDoor
section
open Go Go.RowKit Go.Shelf Go.Maps
def iZ{l:List b5}(h:∀r∈l,r.Ok){x:p_}{fl:Nat}(hf:eS l x=some fl):fl<4294967296:=by
 unfold eS at hf;cases a:l.find? (λr=>ou r x)with
 |none=>rw[a]at hf;cases hf
 |some r=>
  rw[a]at hf
  simp only[JG,Option.some.injEq]at hf;rw[<-hf];exact(h r (Kk a)).fl
def jI{fl id n:Nat}(a:fl<4294967296)(b:id<4294967296)(c:n<18446744073709551616):(⟨1,fl,id,n,0⟩:kW).ok:=
 ⟨⟨by show(-9223372036854775808:Int)<=1;decide,by show(1:Int)<=9223372036854775807;decide⟩,a,b,c,by show 0<18446744073709551616;decide⟩
def kR(s:Sh)(fl id ln:Nat):(bQ s fl id ln).1[1]? =some (.int .i64 (bP s.g fl ln)):=by
 unfold bQ;split
 ·rename_i h;rw[h];rfl
 ·rfl
def z42:List Value:=gZ 0 0 0 0 0 0 gF
def rr{w:World}{f:dy}{p:Po}(h:cW w f p)(hT:dH w)(s:ByteArray)(hs:s.size<=100000)(he:aS (bl s)=0)(fl:Nat)(hf:eS p.rl (aL (bl s)).n=some fl)(ho:ef (bl s)=0)(G:kn p s.size)(hc:(cZ p.m s.size).2=1)(hn:cq p.s.bk<9223372036854775807)(q:p.num+1<4294967296)(Y:bP p.s.g fl s.size=0):
    Calls Tryz.prog 34 #[.pointer (some ⟨f.pb,0,none⟩),.string s] w λe w'=>e=.returned (.tuple #[.int .u32 ((p.num:Int)+1),.int .i64 0])/\fZ w f {p with m:=(cZ p.m s.size).1,s:=(bQ p.s fl (p.num+1) s.size).2,num:=p.num+1,wt:=λk=>if k=p.num+1 then dw (bl s)else p.wt k} w':=by
 have Z:=iZ h.ok.oe hf;have a5:=aa (λW=>dC s hs he W);have bh:=aa (λW=>mc s hs ho W);have hlen:(dw (bl s)).length=s.size:=by rw[kq he,aG]
 have K:=λW (k:Kp ae w W)=>lM W f.tb p.rl h.ok.oe h.ok.dr ((h.old k).ru.rt) (hT.kp k (λx=>x)) (aL (bl s)) (fj _);rw[hf]at K
 have HF:=aa K;have r:=aa (λW (k:Kp ae w W)=>G W f (h.old k).top);rw[hc]at r
 have M:=kr h.ok.qf s.size;obtain⟨m',ac⟩:∃m',(cZ p.m s.size).1=m':=⟨_,rfl⟩
 rw[ac]at r M ⊢
 have hy:=h.ok.y;obtain⟨L,hL⟩:∃L,dw (bl s)=L:=⟨_,rfl⟩
 rw[hL]at bh hlen ⊢
 have a7:L.length<=100000:=by omega
 clear hL;have U:=aa (λW (k:et W f.sf p.s)=>jG ⟨1,fl,p.num+1,s.size,0⟩ (.inl rfl) k (λe=>absurd (show(1:Int)=2 from e) (by decide)) (jI Z q (by omega)) hn);have B:∃vs,(bQ p.s fl (p.num+1) s.size).1=vs/\vs[1]? =some (.int .i64 (bP p.s.g fl s.size))/\mE vs:=⟨_,rfl,kR _ _ _ _,pT _ _ _ _⟩
 obtain⟨vs,B,ad,af,a_⟩:=B;have ak:h9 p.s ⟨1,fl,p.num+1,s.size,0⟩=bQ p.s fl (p.num+1) s.size:=by unfold h9;rw[Hl rfl]
 rw[ak,B]at U
 obtain⟨s',an⟩:∃s',(bQ p.s fl (p.num+1) s.size).2=s':=⟨_,rfl⟩
 rw[an]at U ⊢
 obtain⟨cd,ao⟩:∃cd,bP p.s.g fl s.size=cd:=⟨_,rfl⟩
 rw[ao]at Y ad
 have bi:=aa h;have a6:=aa h.top;obtain⟨pb,N⟩:∃pb,f.pb=pb:=⟨_,rfl⟩
 rw[N]at a6 r ⊢
 have a:=aa N;obtain⟨H,hH⟩:∃H,aL (bl s)=H:=⟨_,rfl⟩
 rw[hH]at a5 HF
 have c0:=a6.out.ai;simp only[cj,p8,pO,pP]at a5 HF U;rw[show((p.num+1:Nat):Int)=(p.num:Int)+1 by omega]at U
 obtain⟨ds,id,bG,sr,d,sp,dp⟩:=H;simp only at a5 HF;refine al ?_;intro PP bm;clear h he N hH hT hf K ho G hc ac B ak an ao;go_enter Tryz.func34,Tryz.ntmps34;go_wp2_with fail;refine(a5.out _).mono ?_;rintro e w1 ⟨rfl,aq⟩;have au:=aa (ag.new w1 [.int .u8 ds,.int .u16 id,.int .u8 bG,.int .u32 sr,.int .u32 d,.int .u16 sp,.int .u16 dp] 42);have C:=aa (aq.alloc (.cells #[.int .u8 ds,.int .u16 id,.int .u8 bG,.int .u32 sr,.int .u32 d,.int .u16 sp,.int .u16 dp] 42));have d1:=(a6.out.kp C.out (λx=>x)).aj;clear aq c0;go_upto_region 6 with fail;refine ar 10 (by kernel_rfl) (λ_ _ _ _ _ h=>h) ?_;simp only[aO]
 repeat((first
    |refine bc (by exact rfl) (fm au.out _ Tryz.underlying42 rfl dO rfl rfl) ?_
    |refine ay (by rfl) (by as_aux_lemma=>intro W hK;have e1:=hK.cell d1 (λx=>x);go_simp;exact rfl) ?_
    |refine ah (by rfl) ?_
    |refine aR (by rfl) (by as_aux_lemma=>intro W;go_simp;exact⟨rfl,rfl⟩) (by intro W hK;with_reducible first|exact HF.out W (C.out.trans hK)) ?_);simp only[Act.put,aH])
 intro W2 av;have aw:=aa (C.out.trans av);clear av au C d1;go_wp2_with fail;refine(bh.out _).mono ?_;rintro e w3 ⟨rfl,ax⟩;have D:=aa (aw.out.trans ax);clear ax aw;go_wp2_with fail;refine(r.out _ D.out).mono ?_;rintro e w4 ⟨rfl,t,O⟩;have az:cW w4 f {p with m:=m'}:=(bi.out.old D.out).vq (by rw[a.out];exact t) (by rw[a.out];exact O) M;have aA:=aa az;have aB:Hid (Kp f.all w w4):=aa ((D.out.mono (λ_ _ x=>x.elim)).trans (O.mono (λb _ e=>.inl (by rw[a.out];exact e))));have c7:=t.eN;have c9:=t.ea;have c0:=t.ai;clear t O az M bi D r a6;go_wp2_with fail;have P:=aA;have Q:=aB;clear aA aB c7;refine(U.out _ P.out.sh).mono ?_;rintro e V ⟨rfl,aC⟩;obtain⟨f',aD,R,aE,ba⟩:=P.out.mF aC;have aF:=aa aD;have aI:=aa (Q.out.trans R);have bb:=aa (aE.trans (Nw.refl V _) R.size);have aJ:ag (V.alloc (.cells G8 150)) V.heap.size z42 150:=ag.new V z42 150;have aK:=aa aJ;have aM:=Q.out.size;have be:=aa aM;clear aC aD R aE ba aJ c0 c9 U P Q aM
 go_upto_region 22 with(first
    |(refine aV rfl 150 (.tmp 14) (.tmp 84) rfl aK.out vs (by rw[af];rfl) rfl rfl (by rw[af];exact bj) a_ ?_
      intro X u aN;have b1:=u.cell 1 ad;have c:Kp ae V X:=((Kp.refl ae V).alloc (.cells G8 150)).then aN (λi h1 h2=>by omega);have o:=aa (aF.out.old c);have aP:=aa (aI.out.trans (c.mono (λ_ _ x=>x.elim)));have aQ:=aa c
      clear u aN c aF aI aK))
 have u:=o.out.top;obtain⟨bn,DD,I,aT,aU⟩:=o.out.mp.is;have J:=aa I;have aW:pb≠f.mb:=by have:=o.out.n1;rw[<-a.out];exact this
 have j:ag X pb (fY {p with m:=m',s:=s'} {f with sf:=f'}) 123:=by rw[<-a.out];exact u
 have a9:=j.ea;have z9:=j.fz 9;have aX:=aa j;clear u I j;go_upto_region 23 with fail;have E:ag (X.setCell ⟨pb,9,none⟩ (.int .u32 ((p.num:Int)+1))) pb ((fY {p with m:=m',s:=s'} {f with sf:=f'}).set 9 (.int .u32 ((p.num:Int)+1))) 123:=aX.out.set 9 _;have F:=fQ X pb 9 (.int .u32 ((p.num:Int)+1));have S:=oz J.out F (λe=>aW e.symm);obtain⟨W8,aY⟩:∃W8,X.setCell ⟨pb,9,none⟩ (.int .u32 ((p.num:Int)+1))=W8:=⟨_,rfl⟩
 rw[aY]at E F S ⊢
 have a8:=E.eu;have aZ:=aa E;have a0:=aa F;have T:=aa S;have bf:Hid (keyOf Tryz.prog 40 (.int .u32 ((p.num:Int)+1))=some (kU ((p.num+1:Nat):Int))):=aa (by have:=oA (p.num+1) q;rw[show((p.num+1:Nat):Int)=(p.num:Int)+1 by omega]at this ⊢;exact this);have bg:Hid (plainElem (H:=Unit) Tryz.prog 9 (.string (tx L))=some (.lit (.string L),[])):=aa (by have:=nn (tx L) (by rw[eb];omega);rw[cP]at this;exact this);clear a9 z9 b1 E F S aY aX J;go_wp2_with(at_mapUpdate;refine wpList_mapUpdate_own _ rfl _ _ _ 117 rfl 40 9 (int_keyed Tryz.underlying40) Tryz.underlying117 (plainElem (H:=Unit) Tryz.prog 9) f.mb bn DD rfl T.out (by unfold maxLen;have h3:bn<=p.num:=aT;omega) _ _ _ rfl rfl bf.out (.lit (.string L)) [] bg.out ?_);intro w9 v l;have z:Kp (λb=>b=f.mb) W8 w9:=(Kp.refl _ _).grown l (λk e=>.inl (Option.some.inj e).symm);have a1:=aZ.out.kp z aW;have A:Kp (λb=>b=f.pb\/b=f.mb) X w9:=(a0.out.mono (λb _ e=>.inl (by rw[a.out];exact e))).trans (z.mono (λb _ e=>.inr e));have a2:=jS.put T.out aU aT (p.num+1) L v
 have a3:=cW.wait o.out (num:=p.num+1) (wt:=λk=>if k=p.num+1 then L else p.wt k) (by rw[a.out];exact a1) a2 A q (λb=>by
  show(if b=p.num+1 then L else p.wt b).length<=_;split
  ·exact a7
  ·exact o.out.ok.wl b)
 have a4:=aa (bm.out _ w9 ⟨rfl,{f with sf:=f'},a3,aP.out.then A (λb hb e=>by rcases e with e|e;exact .inl e;exact .inr (.inl e)),λb hb=>by
  rcases bb.out b hb with e|e
  ·exact .inl e
  ·exact .inr (by have:=be.out;omega),rfl,rfl,rfl⟩)
 clear v l z a1 A a2 a3 o aP bm aQ aZ a0 T aU a8;go_wp2_with fail;exact a4.out
def Am{w:World}{f:dy}{p:Po}(h:cW w f p)(hT:dH w)(s:ByteArray)(hs:s.size<=100000)(he:aS (bl s)=0)(fl:Nat)(hf:eS p.rl (aL (bl s)).n=some fl)(ho:ef (bl s)=0)(r:kn p s.size)(hc:(cZ p.m s.size).2=1)(hn:cq p.s.bk<9223372036854775807)(G:p.num+1<4294967296)(I:bP p.s.g fl s.size≠0):
    Calls Tryz.prog 34 #[.pointer (some ⟨f.pb,0,none⟩),.string s] w λe w'=>e=.returned (.tuple #[.int .u32 0,.int .i64 (bP p.s.g fl s.size)])/\fZ w f {p with m:=(cZ p.m s.size).1,s:=(bQ p.s fl (p.num+1) s.size).2} w':=by
 have J:=iZ h.ok.oe hf;have az:=aa (λW=>dC s hs he W);have aM:=aa (λW=>mc s hs ho W);have hlen:(dw (bl s)).length=s.size:=by rw[kq he,aG]
 have t:=λW (k:Kp ae w W)=>lM W f.tb p.rl h.ok.oe h.ok.dr ((h.old k).ru.rt) (hT.kp k (λx=>x)) (aL (bl s)) (fj _);rw[hf]at t
 have HF:=aa t;have c:=aa (λW (k:Kp ae w W)=>r W f (h.old k).top);rw[hc]at c
 have u:=kr h.ok.qf s.size;obtain⟨m',K⟩:∃m',(cZ p.m s.size).1=m':=⟨_,rfl⟩
 rw[K]at c u ⊢
 have hy:=h.ok.y;obtain⟨L,hL⟩:∃L,dw (bl s)=L:=⟨_,rfl⟩
 rw[hL]at aM hlen
 have aQ:L.length<=100000:=by omega
 clear hL;have E:=aa (λW (k:et W f.sf p.s)=>jG ⟨1,fl,p.num+1,s.size,0⟩ (.inl rfl) k (λe=>absurd (show(1:Int)=2 from e) (by decide)) (jI J G (by omega)) hn);have l:∃M,(bQ p.s fl (p.num+1) s.size).1=M/\M[1]? =some (.int .i64 (bP p.s.g fl s.size))/\mE M:=⟨_,rfl,kR _ _ _ _,pT _ _ _ _⟩
 obtain⟨M,l,N,O,aB⟩:=l;have P:h9 p.s ⟨1,fl,p.num+1,s.size,0⟩=bQ p.s fl (p.num+1) s.size:=by unfold h9;rw[Hl rfl]
 rw[P,l]at E
 obtain⟨s',Q⟩:∃s',(bQ p.s fl (p.num+1) s.size).2=s':=⟨_,rfl⟩
 rw[Q]at E ⊢
 obtain⟨cd,R⟩:∃cd,bP p.s.g fl s.size=cd:=⟨_,rfl⟩
 rw[R]at I N ⊢
 have aN:=aa h;have aA:=aa h.top;obtain⟨pb,v⟩:∃pb,f.pb=pb:=⟨_,rfl⟩
 rw[v]at aA c ⊢
 have z:=aa v;obtain⟨H,hH⟩:∃H,aL (bl s)=H:=⟨_,rfl⟩
 rw[hH]at az HF
 have c0:=aA.out.ai;simp only[cj,p8,pO,pP]at az HF E;rw[show((p.num+1:Nat):Int)=(p.num:Int)+1 by omega]at E
 obtain⟨ds,id,bG,sr,d,sp,dp⟩:=H;simp only at az HF;refine al ?_;intro PP aT;clear h he v hH hT hf t ho r hc K l P Q R;go_enter Tryz.func34,Tryz.ntmps34;go_wp2_with fail;refine(az.out _).mono ?_;rintro e w1 ⟨rfl,S⟩;have T:=aa (ag.new w1 [.int .u8 ds,.int .u16 id,.int .u8 bG,.int .u32 sr,.int .u32 d,.int .u16 sp,.int .u16 dp] 42);have o:=aa (S.alloc (.cells #[.int .u8 ds,.int .u16 id,.int .u8 bG,.int .u32 sr,.int .u32 d,.int .u16 sp,.int .u16 dp] 42));have d1:=(aA.out.kp o.out (λx=>x)).aj;clear S c0;go_upto_region 6 with fail;refine ar 10 (by kernel_rfl) (λ_ _ _ _ _ h=>h) ?_;simp only[aO]
 repeat((first
    |refine bc (by exact rfl) (fm T.out _ Tryz.underlying42 rfl dO rfl rfl) ?_
    |refine ay (by rfl) (by as_aux_lemma=>intro W hK;have e1:=hK.cell d1 (λx=>x);go_simp;exact rfl) ?_
    |refine ah (by rfl) ?_
    |refine aR (by rfl) (by as_aux_lemma=>intro W;go_simp;exact⟨rfl,rfl⟩) (by intro W hK;with_reducible first|exact HF.out W (o.out.trans hK)) ?_);simp only[Act.put,aH])
 intro W2 U;have V:=aa (o.out.trans U);clear U T o d1;go_wp2_with fail;refine(aM.out _).mono ?_;rintro e w3 ⟨rfl,X⟩;have q:=aa (V.out.trans X);clear X V;go_wp2_with fail;refine(c.out _ q.out).mono ?_;rintro e w4 ⟨rfl,j,A⟩;have Y:cW w4 f {p with m:=m'}:=(aN.out.old q.out).vq (by rw[z.out];exact j) (by rw[z.out];exact A) u;have Z:=aa Y;have ac:Hid (Kp f.all w w4):=aa ((q.out.mono (λ_ _ x=>x.elim)).trans (A.mono (λb _ e=>.inl (by rw[z.out];exact e))));have c7:=j.eN;have c9:=j.ea;have c0:=j.ai;clear j A Y u aN q c aA;go_wp2_with fail;have B:=Z;have C:=ac;clear Z ac c7;refine(E.out _ B.out.sh).mono ?_;rintro e F ⟨rfl,ad⟩;obtain⟨f',af,D,ak,aC⟩:=B.out.mF ad;have an:=aa af;have ao:=aa (C.out.trans D);have aD:=aa (ak.trans (Nw.refl F _) D.size);have aq:ag (F.alloc (.cells G8 150)) F.heap.size z42 150:=ag.new F z42 150;have au:=aa aq;have av:=C.out.size;have aE:=aa av;clear ad af D ak aC aq c0 c9 E B C av
 go_wp2_with(first
    |(refine aV rfl 150 (.tmp 14) (.tmp 84) rfl au.out M (by rw[O];rfl) rfl rfl (by rw[O];exact bj) aB ?_
      intro W7 aw ax;have b1:=aw.cell 1 N;have a:Kp ae F W7:=((Kp.refl ae F).alloc (.cells G8 150)).then ax (λi h1 h2=>by omega);have aF:=aa (an.out.old a);have aI:=aa (ao.out.trans (a.mono (λ_ _ x=>x.elim)));have aP:=aa a
      clear aw ax a an ao au))
 go_upto_region 21 with fail;have aJ:=aa (aF.out.old (Kp.drewN (Kp.refl ae _) 1));have aK:=aa (aI.out.drewN 1);go_region
 all_goals
    go_wp2_with fail
 exact aT.out _ _ ⟨rfl,{f with sf:=f'},aJ.out,aK.out,λb hb=>by
  rcases aD.out b hb with e|e
  ·exact .inl e
  ·exact .inr (by have:=aE.out;omega),rfl,rfl,rfl⟩
def yc{w:World}{f:dy}{p:Po}(h:cW w f p)(hT:dH w)(s:ByteArray)(hs:s.size<=100000)(he:aS (bl s)=0)(fl:Nat)(hf:eS p.rl (aL (bl s)).n=some fl)(ho:ef (bl s)=0)(I:kn p s.size)(hc:(cZ p.m s.size).2=2)(hn:cq p.s.bk<9223372036854775807)(q:p.num+1<4294967296)(ac:bP p.s.g fl s.size=0):
    Calls Tryz.prog 34 #[.pointer (some ⟨f.pb,0,none⟩),.string s] w λe w'=>e=.returned (.tuple #[.int .u32 ((p.num:Int)+1),.int .i64 0])/\fZ w f {p with m:=(cZ p.m s.size).1,s:=(bQ p.s fl (p.num+1) s.size).2,num:=p.num+1,wt:=λk=>if k=p.num+1 then gD (dw (bl s)) p.y else p.wt k} w':=by
 have ad:=iZ h.ok.oe hf;have bb:=aa (λW=>dC s hs he W);have bu:=aa (λW=>mc s hs ho W);have hlen:(dw (bl s)).length=s.size:=by rw[kq he,aG]
 have M:=λW (k:Kp ae w W)=>lM W f.tb p.rl h.ok.oe h.ok.dr ((h.old k).ru.rt) (hT.kp k (λx=>x)) (aL (bl s)) (fj _);rw[hf]at M
 have HF:=aa M;have r:=aa (λW (k:Kp ae w W)=>I W f (h.old k).top);rw[hc]at r
 have N:=kr h.ok.qf s.size;obtain⟨m',af⟩:∃m',(cZ p.m s.size).1=m':=⟨_,rfl⟩
 rw[af]at r N ⊢
 have hy:=h.ok.y;have ak:(tx (dw (bl s))).size<=100000:=by rw[eb];omega
 have O:=λW=>zf (tx (dw (bl s))) p.y ak (by omega) W;rw[cP]at O
 have an:=aa O;have ao:=rj (dw (bl s)) p.y;obtain⟨L,hL⟩:∃L,gD (dw (bl s)) p.y=L:=⟨_,rfl⟩
 rw[hL]at an ao ⊢
 have bf:L.length<=100000:=by omega
 clear O ao hL ak;have X:=aa (λW (k:et W f.sf p.s)=>jG ⟨1,fl,p.num+1,s.size,0⟩ (.inl rfl) k (λe=>absurd (show(1:Int)=2 from e) (by decide)) (jI ad q (by omega)) hn);have C:∃vs,(bQ p.s fl (p.num+1) s.size).1=vs/\vs[1]? =some (.int .i64 (bP p.s.g fl s.size))/\mE vs:=⟨_,rfl,kR _ _ _ _,pT _ _ _ _⟩
 obtain⟨vs,C,aq,au,bg⟩:=C;have av:h9 p.s ⟨1,fl,p.num+1,s.size,0⟩=bQ p.s fl (p.num+1) s.size:=by unfold h9;rw[Hl rfl]
 rw[av,C]at X
 obtain⟨s',aw⟩:∃s',(bQ p.s fl (p.num+1) s.size).2=s':=⟨_,rfl⟩
 rw[aw]at X ⊢
 obtain⟨cd,ax⟩:∃cd,bP p.s.g fl s.size=cd:=⟨_,rfl⟩
 rw[ax]at ac aq
 have bq:=aa h;have be:=aa h.top;obtain⟨pb,P⟩:∃pb,f.pb=pb:=⟨_,rfl⟩
 rw[P]at be r ⊢
 have a:=aa P;obtain⟨H,hH⟩:∃H,aL (bl s)=H:=⟨_,rfl⟩
 rw[hH]at bb HF
 have c0:=be.out.ai;simp only[cj,p8,pO,pP]at bb HF X;rw[show((p.num+1:Nat):Int)=(p.num:Int)+1 by omega]at X
 obtain⟨ds,id,bG,sr,d,sp,dp⟩:=H;simp only at bb HF;refine al ?_;intro PP br;clear h he P hH hT hf M ho I hc af C av aw ax;go_enter Tryz.func34,Tryz.ntmps34;go_wp2_with fail;refine(bb.out _).mono ?_;rintro e w1 ⟨rfl,az⟩;have aA:=aa (ag.new w1 [.int .u8 ds,.int .u16 id,.int .u8 bG,.int .u32 sr,.int .u32 d,.int .u16 sp,.int .u16 dp] 42);have D:=aa (az.alloc (.cells #[.int .u8 ds,.int .u16 id,.int .u8 bG,.int .u32 sr,.int .u32 d,.int .u16 sp,.int .u16 dp] 42));have d1:=(be.out.kp D.out (λx=>x)).aj;clear az c0;go_upto_region 6 with fail;refine ar 10 (by kernel_rfl) (λ_ _ _ _ _ h=>h) ?_;simp only[aO]
 repeat((first
    |refine bc (by exact rfl) (fm aA.out _ Tryz.underlying42 rfl dO rfl rfl) ?_
    |refine ay (by rfl) (by as_aux_lemma=>intro W hK;have e1:=hK.cell d1 (λx=>x);go_simp;exact rfl) ?_
    |refine ah (by rfl) ?_
    |refine aR (by rfl) (by as_aux_lemma=>intro W;go_simp;exact⟨rfl,rfl⟩) (by intro W hK;with_reducible first|exact HF.out W (D.out.trans hK)) ?_);simp only[Act.put,aH])
 intro W2 aB;have aC:=aa (D.out.trans aB);clear aB aA D d1;go_wp2_with fail;refine(bu.out _).mono ?_;rintro e w3 ⟨rfl,aD⟩;have E:=aa (aC.out.trans aD);clear aD aC;go_wp2_with fail;refine(r.out _ E.out).mono ?_;rintro e w4 ⟨rfl,t,Q⟩;have aE:cW w4 f {p with m:=m'}:=(bq.out.old E.out).vq (by rw[a.out];exact t) (by rw[a.out];exact Q) N;have aF:=aa aE;have aI:Hid (Kp f.all w w4):=aa ((E.out.mono (λ_ _ x=>x.elim)).trans (Q.mono (λb _ e=>.inl (by rw[a.out];exact e))));have c7:=t.eN;have c9:=t.ea;have c0:=t.ai;clear t Q aE N bq E r be;go_wp2_with fail;refine(an.out _).mono ?_;rintro e w5 ⟨rfl,u⟩;have R:=aa (aF.out.old u);have S:Hid (Kp f.all w w5):=aa (aI.out.trans (u.mono (λ_ _ x=>x.elim)));have c0:=u.cell c0 (λx=>x);have c9:=u.cell c9 (λx=>x);clear u aF aI c7;go_wp2_with fail;refine(X.out _ R.out.sh).mono ?_;rintro e Y ⟨rfl,aJ⟩;obtain⟨f',aK,T,aM,bh⟩:=R.out.mF aJ;have aN:=aa aK;have aP:=aa (S.out.trans T);have bi:=aa (aM.trans (Nw.refl Y _) T.size);have aQ:ag (Y.alloc (.cells G8 150)) Y.heap.size z42 150:=ag.new Y z42 150;have aT:=aa aQ;have aU:=S.out.size;have bm:=aa aU;clear aJ aK T aM bh aQ c0 c9 X R S aU
 go_upto_region 22 with(first
    |(refine aV rfl 150 (.tmp 14) (.tmp 84) rfl aT.out vs (by rw[au];rfl) rfl rfl (by rw[au];exact bj) bg ?_
      intro Z v aW;have b1:=v.cell 1 aq;have c:Kp ae Y Z:=((Kp.refl ae Y).alloc (.cells G8 150)).then aW (λi h1 h2=>by omega);have o:=aa (aN.out.old c);have aX:=aa (aP.out.trans (c.mono (λ_ _ x=>x.elim)));have aY:=aa c
      clear v aW c aN aP aT))
 have v:=o.out.top;obtain⟨bs,DD,J,aZ,a0⟩:=o.out.mp.is;have K:=aa J;have a1:pb≠f.mb:=by have:=o.out.n1;rw[<-a.out];exact this
 have j:ag Z pb (fY {p with m:=m',s:=s'} {f with sf:=f'}) 123:=by rw[<-a.out];exact v
 have a9:=j.ea;have z9:=j.fz 9;have a2:=aa j;clear v J j;go_upto_region 23 with fail;have F:ag (Z.setCell ⟨pb,9,none⟩ (.int .u32 ((p.num:Int)+1))) pb ((fY {p with m:=m',s:=s'} {f with sf:=f'}).set 9 (.int .u32 ((p.num:Int)+1))) 123:=a2.out.set 9 _;have G:=fQ Z pb 9 (.int .u32 ((p.num:Int)+1));have U:=oz K.out G (λe=>a1 e.symm);obtain⟨W8,a3⟩:∃W8,Z.setCell ⟨pb,9,none⟩ (.int .u32 ((p.num:Int)+1))=W8:=⟨_,rfl⟩
 rw[a3]at F G U ⊢
 have a8:=F.eu;have a4:=aa F;have a5:=aa G;have V:=aa U;have bn:Hid (keyOf Tryz.prog 40 (.int .u32 ((p.num:Int)+1))=some (kU ((p.num+1:Nat):Int))):=aa (by have:=oA (p.num+1) q;rw[show((p.num+1:Nat):Int)=(p.num:Int)+1 by omega]at this ⊢;exact this);have bp:Hid (plainElem (H:=Unit) Tryz.prog 9 (.string (tx L))=some (.lit (.string L),[])):=aa (by have:=nn (tx L) (by rw[eb];omega);rw[cP]at this;exact this);clear a9 z9 b1 F G U a3 a2 K;go_wp2_with(at_mapUpdate;refine wpList_mapUpdate_own _ rfl _ _ _ 117 rfl 40 9 (int_keyed Tryz.underlying40) Tryz.underlying117 (plainElem (H:=Unit) Tryz.prog 9) f.mb bs DD rfl V.out (by unfold maxLen;have h3:bs<=p.num:=aZ;omega) _ _ _ rfl rfl bn.out (.lit (.string L)) [] bp.out ?_);intro w9 z l;have A:Kp (λb=>b=f.mb) W8 w9:=(Kp.refl _ _).grown l (λk e=>.inl (Option.some.inj e).symm);have a6:=a4.out.kp A a1;have B:Kp (λb=>b=f.pb\/b=f.mb) Z w9:=(a5.out.mono (λb _ e=>.inl (by rw[a.out];exact e))).trans (A.mono (λb _ e=>.inr e));have a7:=jS.put V.out a0 aZ (p.num+1) L z
 have a_:=cW.wait o.out (num:=p.num+1) (wt:=λk=>if k=p.num+1 then L else p.wt k) (by rw[a.out];exact a6) a7 B q (λb=>by
  show(if b=p.num+1 then L else p.wt b).length<=_;split
  ·exact bf
  ·exact o.out.ok.wl b)
 have ba:=aa (br.out _ w9 ⟨rfl,{f with sf:=f'},a_,aX.out.then B (λb hb e=>by rcases e with e|e;exact .inl e;exact .inr (.inl e)),λb hb=>by
  rcases bi.out b hb with e|e
  ·exact .inl e
  ·exact .inr (by have:=bm.out;omega),rfl,rfl,rfl⟩)
 clear z l A a6 B a7 a_ o aX br aY a4 a5 V a0 a8;go_wp2_with fail;exact ba.out
def An{w:World}{f:dy}{p:Po}(h:cW w f p)(hT:dH w)(s:ByteArray)(hs:s.size<=100000)(he:aS (bl s)=0)(fl:Nat)(hf:eS p.rl (aL (bl s)).n=some fl)(ho:ef (bl s)=0)(t:kn p s.size)(hc:(cZ p.m s.size).2=2)(hn:cq p.s.bk<9223372036854775807)(J:p.num+1<4294967296)(K:bP p.s.g fl s.size≠0):
    Calls Tryz.prog 34 #[.pointer (some ⟨f.pb,0,none⟩),.string s] w λe w'=>e=.returned (.tuple #[.int .u32 0,.int .i64 (bP p.s.g fl s.size)])/\fZ w f {p with m:=(cZ p.m s.size).1,s:=(bQ p.s fl (p.num+1) s.size).2} w':=by
 have M:=iZ h.ok.oe hf;have aE:=aa (λW=>dC s hs he W);have aX:=aa (λW=>mc s hs ho W);have hlen:(dw (bl s)).length=s.size:=by rw[kq he,aG]
 have u:=λW (k:Kp ae w W)=>lM W f.tb p.rl h.ok.oe h.ok.dr ((h.old k).ru.rt) (hT.kp k (λx=>x)) (aL (bl s)) (fj _);rw[hf]at u
 have HF:=aa u;have c:=aa (λW (k:Kp ae w W)=>t W f (h.old k).top);rw[hc]at c
 have v:=kr h.ok.qf s.size;obtain⟨m',N⟩:∃m',(cZ p.m s.size).1=m':=⟨_,rfl⟩
 rw[N]at c v ⊢
 have hy:=h.ok.y;have O:(tx (dw (bl s))).size<=100000:=by rw[eb];omega
 have z:=λW=>zf (tx (dw (bl s))) p.y O (by omega) W;rw[cP]at z
 have P:=aa z;have Q:=rj (dw (bl s)) p.y;obtain⟨L,hL⟩:∃L,gD (dw (bl s)) p.y=L:=⟨_,rfl⟩
 rw[hL]at P Q
 have aY:L.length<=100000:=by omega
 clear z Q hL O;have G:=aa (λW (k:et W f.sf p.s)=>jG ⟨1,fl,p.num+1,s.size,0⟩ (.inl rfl) k (λe=>absurd (show(1:Int)=2 from e) (by decide)) (jI M J (by omega)) hn);have o:∃R,(bQ p.s fl (p.num+1) s.size).1=R/\R[1]? =some (.int .i64 (bP p.s.g fl s.size))/\mE R:=⟨_,rfl,kR _ _ _ _,pT _ _ _ _⟩
 obtain⟨R,o,S,T,aI⟩:=o;have U:h9 p.s ⟨1,fl,p.num+1,s.size,0⟩=bQ p.s fl (p.num+1) s.size:=by unfold h9;rw[Hl rfl]
 rw[U,o]at G
 obtain⟨s',V⟩:∃s',(bQ p.s fl (p.num+1) s.size).2=s':=⟨_,rfl⟩
 rw[V]at G ⊢
 obtain⟨cd,X⟩:∃cd,bP p.s.g fl s.size=cd:=⟨_,rfl⟩
 rw[X]at K S ⊢
 have aU:=aa h;have aF:=aa h.top;obtain⟨pb,A⟩:∃pb,f.pb=pb:=⟨_,rfl⟩
 rw[A]at aF c ⊢
 have B:=aa A;obtain⟨H,hH⟩:∃H,aL (bl s)=H:=⟨_,rfl⟩
 rw[hH]at aE HF
 have c0:=aF.out.ai;simp only[cj,p8,pO,pP]at aE HF G;rw[show((p.num+1:Nat):Int)=(p.num:Int)+1 by omega]at G
 obtain⟨ds,id,bG,sr,d,sp,dp⟩:=H;simp only at aE HF;refine al ?_;intro PP aZ;clear h he A hH hT hf u ho t hc N o U V X;go_enter Tryz.func34,Tryz.ntmps34;go_wp2_with fail;refine(aE.out _).mono ?_;rintro e w1 ⟨rfl,Y⟩;have Z:=aa (ag.new w1 [.int .u8 ds,.int .u16 id,.int .u8 bG,.int .u32 sr,.int .u32 d,.int .u16 sp,.int .u16 dp] 42);have q:=aa (Y.alloc (.cells #[.int .u8 ds,.int .u16 id,.int .u8 bG,.int .u32 sr,.int .u32 d,.int .u16 sp,.int .u16 dp] 42));have d1:=(aF.out.kp q.out (λx=>x)).aj;clear Y c0;go_upto_region 6 with fail;refine ar 10 (by kernel_rfl) (λ_ _ _ _ _ h=>h) ?_;simp only[aO]
 repeat((first
    |refine bc (by exact rfl) (fm Z.out _ Tryz.underlying42 rfl dO rfl rfl) ?_
    |refine ay (by rfl) (by as_aux_lemma=>intro W hK;have e1:=hK.cell d1 (λx=>x);go_simp;exact rfl) ?_
    |refine ah (by rfl) ?_
    |refine aR (by rfl) (by as_aux_lemma=>intro W;go_simp;exact⟨rfl,rfl⟩) (by intro W hK;with_reducible first|exact HF.out W (q.out.trans hK)) ?_);simp only[Act.put,aH])
 intro W2 ac;have ad:=aa (q.out.trans ac);clear ac Z q d1;go_wp2_with fail;refine(aX.out _).mono ?_;rintro e w3 ⟨rfl,af⟩;have r:=aa (ad.out.trans af);clear af ad;go_wp2_with fail;refine(c.out _ r.out).mono ?_;rintro e w4 ⟨rfl,j,C⟩;have ak:cW w4 f {p with m:=m'}:=(aU.out.old r.out).vq (by rw[B.out];exact j) (by rw[B.out];exact C) v;have an:=aa ak;have ao:Hid (Kp f.all w w4):=aa ((r.out.mono (λ_ _ x=>x.elim)).trans (C.mono (λb _ e=>.inl (by rw[B.out];exact e))));have c7:=j.eN;have c9:=j.ea;have c0:=j.ai;clear j C ak v aU r c aF;go_wp2_with fail;refine(P.out _).mono ?_;rintro e w5 ⟨rfl,l⟩;have D:=aa (an.out.old l);have E:Hid (Kp f.all w w5):=aa (ao.out.trans (l.mono (λ_ _ x=>x.elim)));have c0:=l.cell c0 (λx=>x);have c9:=l.cell c9 (λx=>x);clear l an ao c7;go_wp2_with fail;refine(G.out _ D.out.sh).mono ?_;rintro e I ⟨rfl,aq⟩;obtain⟨f',au,F,av,aJ⟩:=D.out.mF aq;have aw:=aa au;have ax:=aa (E.out.trans F);have aK:=aa (av.trans (Nw.refl I _) F.size);have az:ag (I.alloc (.cells G8 150)) I.heap.size z42 150:=ag.new I z42 150;have aA:=aa az;have aB:=E.out.size;have aM:=aa aB;clear aq au F av aJ az c0 c9 G D E aB
 go_wp2_with(first
    |(refine aV rfl 150 (.tmp 14) (.tmp 84) rfl aA.out R (by rw[T];rfl) rfl rfl (by rw[T];exact bj) aI ?_
      intro W7 aC aD;have b1:=aC.cell 1 S;have a:Kp ae I W7:=((Kp.refl ae I).alloc (.cells G8 150)).then aD (λi h1 h2=>by omega);have aN:=aa (aw.out.old a);have aP:=aa (ax.out.trans (a.mono (λ_ _ x=>x.elim)));have aW:=aa a
      clear aC aD a aw ax aA))
 go_upto_region 21 with fail;have aQ:=aa (aN.out.old (Kp.drewN (Kp.refl ae _) 1));have aT:=aa (aP.out.drewN 1);go_region
 all_goals
    go_wp2_with fail
 exact aZ.out _ _ ⟨rfl,{f with sf:=f'},aQ.out,aT.out,λb hb=>by
  rcases aK.out b hb with e|e
  ·exact .inl e
  ·exact .inr (by have:=aM.out;omega),rfl,rfl,rfl⟩
def pW:(⟨2,0,0,0,0⟩:kW).ok:=
 ⟨⟨by show(-9223372036854775808:Int)<=2;decide,by show(2:Int)<=9223372036854775807;decide⟩,by show 0<4294967296;decide,by show 0<4294967296;decide,by show 0<18446744073709551616;decide,by show 0<18446744073709551616;decide⟩
def wF{w:World}{f:dy}{p:Po}(h:cW w f p)(d:od w f.sf.all)(c:Int)(S:¬c=0)(n:(bO p.s).1[1]? =some (.int .i64 c))(o:(bO p.s).2=p.s)(T:cq p.s.bk<9223372036854775807):
    Calls Tryz.prog 35 #[.pointer (some ⟨f.pb,0,none⟩)] w λe w'=>e=.returned (.tuple #[.string ⟨#[]⟩,.int .i64 c])/\fZ w f p w':=by
 have q:=aa (λW (k:et W f.sf p.s) (U:Kp ae w W)=>jG ⟨2,0,0,0,0⟩ (.inr (.inl rfl)) k (λ_=>⟨d.tab.kp U (λx=>x),d.ne⟩) pW T);have r:h9 p.s ⟨2,0,0,0,0⟩=bO p.s:=by unfold h9;rw[Hk (by decide),Hl rfl]
 obtain⟨G,g⟩:∃G,(bO p.s).1=G:=⟨_,rfl⟩
 have b:=vp p.s;rw[g]at n b
 obtain⟨t,H⟩:=b;rw[r,g]at q
 obtain⟨I,j⟩:∃I,(bO p.s).2=I:=⟨_,rfl⟩
 rw[j]at q
 have Q:=aa h;have c0:=h.top.ai;obtain⟨pb,l⟩:∃pb,f.pb=pb:=⟨_,rfl⟩
 rw[l]at c0 ⊢
 have V:=aa l;simp only[p8]at q;refine al ?_;intro PP X;have J:Hid (({p with s:=I}:Po)=p):=aa (by rw[<-j,o]);clear h l g r j o d;go_enter Tryz.func35,Tryz.ntmps35;go_wp2_with fail;refine(q.out _ Q.out.sh (Kp.refl ae _)).mono ?_;rintro e u ⟨rfl,v⟩;obtain⟨Y,y,z,A,K⟩:=Q.out.mF v;have B:=aa y;have C:=aa z;have L:=aa A;have D:ag (u.alloc (.cells G8 150)) u.heap.size z42 150:=ag.new u z42 150;have E:=aa D;clear v y z A K D c0 q
 go_wp2_with(first
    |(refine aV rfl 150 (.tmp 4) (.tmp 20) rfl E.out G (by rw[t];rfl) rfl rfl (by rw[t];exact bj) H ?_
      intro Z m F;have b1:=m.cell 1 n;have ac:=aa m;have a:Kp ae u Z:=((Kp.refl ae u).alloc (.cells G8 150)).then F (λi h1 h2=>by omega);have M:=aa (B.out.old a);have N:=aa (C.out.trans (a.mono (λ_ _ x=>x.elim)));have R:=aa a
      clear m F a B C E))
 go_upto_region 5 with fail;have O:=aa (M.out.old (Kp.drewN (Kp.refl ae _) 1));have P:=aa (N.out.drewN 1);go_region
 all_goals
    go_wp2_with fail;exact X.out _ _ ⟨rfl,{f with sf:=Y},by have:=O.out;rw[J.out]at this;exact this,P.out,L.out,rfl,rfl,rfl⟩
def yd{s:fy}(h:(aM s).2=true):(aM s).1∈aU s:=by
 unfold aM at*;cases b:aU s with
 |nil=>rw[b]at h;cases h
 |cons a r=>simp[iQ]
def tX{w:World}{f:dy}{p:Po}(h:cW w f p)(v:od w f.sf.all)(id:Nat)(hid:id<4294967296)(E:(bO p.s).1[1]? =some (.int .i64 0))(F:(bO p.s).1[3]? =some (.int .u32 id))(hn:cq p.s.bk<9223372036854775807):
    Calls Tryz.prog 35 #[.pointer (some ⟨f.pb,0,none⟩)] w λe w'=>e=.returned (.tuple #[.string (tx (p.wt id)),.int .i64 0])/\fZ w f {p with s:=(bO p.s).2,wt:=λk=>if k=id then[]else p.wt k} w':=by
 have G:=aa (λW (k:et W f.sf p.s) (kk:Kp ae w W)=>jG ⟨2,0,0,0,0⟩ (.inr (.inl rfl)) k (λ_=>⟨v.tab.kp kk (λx=>x),v.ne⟩) pW hn);have I:h9 p.s ⟨2,0,0,0,0⟩=bO p.s:=by unfold h9;rw[Hk (by decide),Hl rfl]
 obtain⟨vs,n⟩:∃vs,(bO p.s).1=vs:=⟨_,rfl⟩
 have q:=vp p.s;rw[n]at E q
 obtain⟨J,ao⟩:=q;rw[I,n]at G
 obtain⟨s',y⟩:∃s',(bO p.s).2=s':=⟨_,rfl⟩
 rw[y]at G
 have ax:=aa h;have c0:=h.top.ai;obtain⟨pb,z⟩:∃pb,f.pb=pb:=⟨_,rfl⟩
 rw[z]at c0 ⊢
 have aq:=aa z;simp only[p8]at G;rw[n]at F
 rw[y];refine al ?_;intro PP az;have au:=aa (oA id hid);clear h z n I y v;go_enter Tryz.func35,Tryz.ntmps35;go_wp2_with fail;refine(G.out _ ax.out.sh (Kp.refl ae _)).mono ?_;rintro e K ⟨rfl,L⟩;obtain⟨f',M,N,O,av⟩:=ax.out.mF L;have P:=aa M;have Q:=aa N;have aw:=aa O;have R:ag (K.alloc (.cells G8 150)) K.heap.size z42 150:=ag.new K z42 150;have S:=aa R;clear L M N O av R c0 G
 go_upto_region 4 with(first
    |(refine aV rfl 150 (.tmp 4) (.tmp 20) rfl S.out vs (by rw[J];rfl) rfl rfl (by rw[J];exact bj) ao ?_
      intro W7 A T;have b1:=A.cell 1 E;have U:=aa A;have d:Kp ae K W7:=((Kp.refl ae K).alloc (.cells G8 150)).then T (λi h1 h2=>by omega);have o:=aa (P.out.old d);have V:=aa (Q.out.trans (d.mono (λ_ _ x=>x.elim)));have X:=aa d
      clear A T d P Q S))
 have r:ag W7 pb (fY {p with s:=s'} {f with sf:=f'}) 123:=by rw[<-aq.out];exact o.out.top
 have a8:=r.eu;have b3:=U.out.cell 3 F;have aA:=aa (o.out.mp.look id hid);clear r;go_upto_region 6 with fail;refine ar 8 (by kernel_rfl) (λ_ _ _ _ _ h=>h) ?_;simp only[aO]
 repeat((first
    |refine ay (by rfl) (by as_aux_lemma=>intro W D;have e1:=D.cell a8 (λx=>x);have e2:=D.cell b3 (λx=>x);have e3:=aA.out W D;go_simp;exact rfl) ?_
    |refine ah (by rfl) ?_);simp only[Act.put,aH])
 intro W8 l;have Y:=aa (o.out.old l);have Z:=aa (V.out.trans (l.mono (λ_ _ x=>x.elim)));have d8:=l.cell a8 (λx=>x);have d3:=l.cell b3 (λx=>x);clear l o V aA a8 b3 b1 U;go_upto_region 7 with fail;refine ar 7 (by kernel_rfl) (λ_ _ _ _ _ h=>h) ?_;simp only[aO]
 repeat((first
    |refine ay (by rfl) (by as_aux_lemma=>intro W D;have e1:=D.cell d8 (λx=>x);have e2:=D.cell d3 (λx=>x);go_simp;exact rfl) ?_
    |refine ah (by rfl) ?_);simp only[Act.put,aH])
 intro W9 B;have c:=aa (Y.out.old B);have ac:=aa (Z.out.trans (B.mono (λ_ _ x=>x.elim)));obtain⟨nn,DD,t,ad,af⟩:=c.out.mp.is;have u:=aa t;clear B Y Z d8 d3 t;refine wpList_delete_own _ rfl _ _ 117 40 rfl 9 (int_keyed Tryz.underlying40) Tryz.underlying117 (plainElem (H:=Unit) Tryz.prog 9) f.mb nn DD rfl u.out _ _ rfl au.out ?_;intro C g a;have j:Kp (λb=>b=f.mb) W9 C:=(Kp.refl _ _).grown a.grown (λk e=>.inl (Option.some.inj e).symm);have aj:=jS.del (w:=W9) af ad id g;have m:Kp (λb=>b=f.pb\/b=f.mb) W9 C:=j.mono (λb _ e=>.inr e)
 have ak:=cW.wait c.out (num:=p.num) (wt:=λk=>if k=id then[]else p.wt k) (c.out.top.kp j c.out.n1) aj m c.out.ok.num (λb=>by
  show(if b=id then[]else p.wt b).length<=_;split
  ·exact Hv _
  ·exact c.out.ok.wl b)
 have an:=aa (az.out _ C ⟨rfl,{f with sf:=f'},ak,ac.out.then j (λb hb e=>.inr (.inl e)),aw.out,rfl,rfl,rfl⟩);clear g a j m aj ak c ac az X u af ad;go_wp2_with fail;exact an.out
end
section
open Go Go.RowKit Go.Shelf
structure h5 (w wr:World) (l:Ln) (room:Nat) (q':List ByteArray) (f:dy) (p:Po):Prop where
 ln:iY wr room {l with f:=f,p:=p,q:=q'}
 kp:Kp l.all w wr
 nw:Nw w l.f.all f.all
 pb:f.pb=l.f.pb
 lo:f.lo=l.f.lo
 hi:f.hi=l.f.hi
def h5.tI{w wr i:World}{l:Ln}{room:Nat}{g:List ByteArray}{f:dy}{p j:Po}(h:h5 w wr l room g f p)(t:fZ wr f j i):∃d,h5 w i l room g d j/\Kp f.all wr i/\Nw wr f.all d.all:=by
 obtain⟨d,hm,k,m,r,s,u⟩:=t;have c:=h.ln;have n3:∀x,x<wr.heap.size->¬f.all x->¬d.all x:=λx n hf o=>by
  rcases m x o with e|e
  ·exact hf e
  ·omega
 have t0:l.lb<wr.heap.size:=c.top.lt;have t1:l.xb<wr.heap.size:=c.bx.top.lt;have t2:l.xc<wr.heap.size:=c.bx.EH;refine⟨d,⟨⟨?_,hm,c.bx.kp k c.d4 c.d5,c.nrf,c.d1,c.d2,n3 _ t0 c.d3,n3 _ t1 c.d4,n3 _ t2 c.d5,λx a b=>c.d6 x (by show f.lo<=x;rw[<-s];exact a) (by show x<f.hi;rw[<-u];exact b)⟩,?_,?_,r.trans h.pb,s.trans h.lo,u.trans h.hi⟩,k,m⟩
 ·have:=c.top.kp k c.d3;have e:sy {l with f:=d,p:=j,q:=g}=sy {l with f:=f,p:=p,q:=g}:=by
   show Value.pointer (some ⟨d.pb,0,none⟩)::_=Value.pointer (some ⟨f.pb,0,none⟩)::_;rw[r]
  show ag i l.lb (sy {l with f:=d,p:=j,q:=g}) _;rw[e];exact this
 ·refine h.kp.then k (λx n e=> ?_);rcases h.nw x e with v|v
  ·exact .inr (.inr (.inr v))
  ·omega
 ·intro x n;rcases m x n with e|e
  ·exact h.nw x e
  ·exact .inr (Hy h.kp.size e)
def iY.box{w w':World}{room:Nat}{l:Ln}{c:List ByteArray}(h:iY w room l)(k:Kp (λb=>b=l.xc) w w')(a:iz w' l.xb l.xc room c):iY w' room {l with q:=c}:=
 {top:=h.top.kp k h.d2,po:=h.po.kp k (λb a e=>h.d5 (by rw[show b=l.xc from e]at a;exact a)) (λb d f e=>(h.d6 b d f).2.2 e),bx:=a,nrf:=h.nrf,d1:=h.d1,d2:=h.d2,d3:=h.d3,d4:=h.d4,d5:=h.d5,d6:=h.d6}
def h5.tab{w wr:World}{l:Ln}{room:Nat}{a:List ByteArray}{f:dy}{p:Po}(h:h5 w wr l room a f p)(b:dH w)(c:¬l.all 0):dH wr:=b.kp h.kp c
def h5.from{w w1 wr:World}{l:Ln}{room:Nat}{a:List ByteArray}{f:dy}{p:Po}(h:h5 w1 wr l room a f p)(k:Kp (λb=>b=l.xc) w w1):h5 w wr l room a f p:=
 ⟨h.ln,(k.mono (λx _ e=>.inr (.inr (.inl e)))).trans h.kp,λb c=>by
  rcases h.nw b c with e|e
  ·exact .inl e
  ·exact .inr (Hy k.size e),h.pb,h.lo,h.hi⟩
end
section
open Go Go.RowKit Go.Shelf Go.Maps
def n0{t:Nat}(h:t<18446744073709551616):(⟨3,0,0,0,t⟩:kW).ok:=
 ⟨⟨by show(-9223372036854775808:Int)<=3;decide,by show(3:Int)<=9223372036854775807;decide⟩,by show 0<4294967296;decide,by show 0<4294967296;decide,by show 0<18446744073709551616;decide,h⟩
def Cu{w:World}{f:dy}{p:Po}(h:cW w f p)(n:p.m.ax=0)(t:Nat)(ht:t<18446744073709551616)(C:cq p.s.bk<9223372036854775807):
    Calls Tryz.prog 28 #[.pointer (some ⟨f.pb,0,none⟩),.int .u64 t] w λe w'=>e=.returned (.tuple #[])/\fZ w f (h4 p t) w':=by
 have l:=aa (λW (k:et W f.sf p.s)=>jG ⟨3,0,0,0,t⟩ (.inr (.inr (.inl rfl))) k (λe=>absurd (show(3:Int)=2 from e) (by decide)) (n0 ht) C);obtain⟨A,d⟩:∃A,(h9 p.s ⟨3,0,0,0,t⟩).1=A:=⟨_,rfl⟩
 obtain⟨o,a⟩:∃o,(h9 p.s ⟨3,0,0,0,t⟩).2=o:=⟨_,rfl⟩
 rw[d,a]at l
 have q:Hid (h4 p t= {p with s:=o}):=aa (by unfold h4;rw[a,Hl n]);have B:=aa h;have c0:=h.top.ai;obtain⟨pb,b⟩:∃pb,f.pb=pb:=⟨_,rfl⟩
 rw[b]at c0 ⊢
 have r:=aa b;have u:=aa n;simp only[p8]at l;refine al ?_;intro PP D;clear h b d a n;go_enter Tryz.func28,Tryz.ntmps28;go_wp2_with fail;refine(l.out _ B.out.sh).mono ?_;rintro e E ⟨rfl,g⟩;obtain⟨F,c,i,j,v⟩:=B.out.mF g;have x:=aa c;have y:=aa i;have z:=aa j;have G:E.cell? ⟨pb,2,none⟩=some (.int .u64 0):=by
  have:=c.top.aq;rw[<-r.out,this];show some (Value.int .u64 ((p.m.ax:Nat):Int))=_;rw[u.out];rfl
 clear g c i j v c0 l;go_wp2_with fail;go_end0;exact D.out _ _ ⟨rfl,{f with sf:=F},by rw[q.out];exact x.out,y.out,z.out,rfl,rfl,rfl⟩
def rs{w:World}{b:Nat}{p:Po}{f:dy}(c:ag w b (fY p f) 123):w.rangeAt b 2 (cd p.m):=λj v a=>c.cell (2+j) (by
 have d:j<5:=(HD.1 a).1;match j,d,a with
 |0,_,a=>exact a
 |1,_,a=>exact a
 |2,_,a=>exact a
 |3,_,a=>exact a
 |4,_,a=>exact a)
def sC(m:Mt):∀v∈cd m,v.oneCell'=true:=HV.1 rfl
def EM(p:Po)(n:Nat)(hm:p.m.Ok)(z:0<p.m.ax):kn p n:=λw f h=>by
 have e:cZ p.m n=eT p.m n:=by unfold cZ;rw[Hk (by omega)]
 rw[e];have i:=aa (λW=>F3 p.m n hm.lt (hm.dr z) W);have a:=aa (rs h);have A:=h.aq;have F:¬(p.m.ax:Int)=0:=by omega
 obtain⟨m2,c⟩:∃m2,(eT p.m n).1=m2:=⟨_,rfl⟩
 obtain⟨k,q⟩:∃k,(eT p.m n).2=k:=⟨_,rfl⟩
 rw[c,q]at i
 rw[c,q];have B:Hid (cL (fY p f) 2 (cd m2)=fY {p with m:=m2} f):=aa rfl;have C:=aa (sC m2);obtain⟨pb,j⟩:∃pb,f.pb=pb:=⟨_,rfl⟩
 rw[j]at A h a ⊢
 have D:=aa h;obtain⟨em,d⟩:∃em,cd p.m=em:=⟨_,rfl⟩
 have r:Hid ((Tryz.prog.info? 121).map (·.size)=some em.length):=aa (by rw[<-d];exact b9);rw[d]at i a
 have s:Hid (2+5<=(fY p f).length):=aa (by show 7<=10;decide);clear h hm z e c q j d;obtain⟨r2,n2,f2,a2,b2⟩:=m2;simp only[cd]at i B C;go_enter Tryz.func59,Tryz.ntmps59;go_wp2_with(refine wpList_load_mid rfl 121 (.tmp 16) rfl pb 2 rfl em _ a.out Tryz.underlying121 rfl r.out ?_);refine(i.out _).mono ?_;rintro e E ⟨rfl,k2⟩;have l:=aa (D.out.kp k2 (λx=>x));have G:=aa (ag.new E [.int .u64 r2,.int .u64 n2,.int .u64 f2,.int .u64 a2,.int .u64 b2] 121);have t:=aa (l.out.alloc (.cells #[.int .u64 r2,.int .u64 n2,.int .u64 f2,.int .u64 a2,.int .u64 b2] 121));have u:=aa (k2.trans ((Kp.refl ae E).alloc (.cells #[.int .u64 r2,.int .u64 n2,.int .u64 f2,.int .u64 a2,.int .u64 b2] 121)));clear k2 D i a A l
 go_wp2_with(first
    |(refine dc rfl 121 (.tmp 5) rfl G.out _ rfl Tryz.underlying121 rfl b9 ?_)
    |(refine ev rfl 121 (.tmp 25) (.tmp 23) rfl t.out 2 [.int .u64 r2,.int .u64 n2,.int .u64 f2,.int .u64 a2,.int .u64 b2] rfl rfl b9 s.out C.out ?_
      intro H g _ o;rw[B.out]at g
      have v:=aa g;have y:Hid (Kp (λb=>b=pb) w H):=aa (o (λb=>b=pb) w (u.out.mono (λ_ _ x=>x.elim)) (.inl rfl))
      clear g o))
 go_ret;exact⟨rfl,v.out,y.out⟩
def Gq(p:Po)(n:Nat)(hm:p.m.Ok):kn p n:=by
 rcases Js p.m.ax with h|h
 ·exact Ae p n h
 ·exact EM p n hm h
def vt{m:Mt}(h:m.Ok)(a:0<m.ax)(t:Nat):(eJ m t).Ok:=
 ⟨(oX h.lt (h.dr a) t).1,λ_=>(oX h.lt (h.dr a) t).2⟩
def Cv{w:World}{f:dy}{p:Po}(h:cW w f p)(I:0<p.m.ax)(t:Nat)(ht:t<18446744073709551616)(hn:cq p.s.bk<9223372036854775807):
    Calls Tryz.prog 28 #[.pointer (some ⟨f.pb,0,none⟩),.int .u64 t] w λe w'=>e=.returned (.tuple #[])/\fZ w f (h4 p t) w':=by
 have J:=aa (λW (k:et W f.sf p.s)=>jG ⟨3,0,0,0,t⟩ (.inr (.inr (.inl rfl))) k (λe=>absurd (show(3:Int)=2 from e) (by decide)) (n0 ht) hn);obtain⟨Y,q⟩:∃Y,(h9 p.s ⟨3,0,0,0,t⟩).1=Y:=⟨_,rfl⟩
 obtain⟨g,i⟩:∃g,(h9 p.s ⟨3,0,0,0,t⟩).2=g:=⟨_,rfl⟩
 rw[q,i]at J
 have r:Hid (h4 p t= {p with s:=g,m:=eJ p.m t}):=aa (by unfold h4;rw[i,Hk (by omega)]);have K:=aa (λW=>Ea p.m t h.ok.qf.lt (h.ok.qf.dr I) ht W);have u:=aa (vt h.ok.qf I t);have Z:=aa h;have c0:=h.top.ai;obtain⟨pb,j⟩:∃pb,f.pb=pb:=⟨_,rfl⟩
 rw[j]at c0 ⊢
 have a:=aa j;have L:=aa I;obtain⟨em,c⟩:∃em,cd p.m=em:=⟨_,rfl⟩
 have M:Hid ((Tryz.prog.info? 121).map (·.size)=some em.length):=aa (by rw[<-c];exact b9);rw[c]at K
 have N:=aa c;obtain⟨m2,v⟩:∃m2,eJ p.m t=m2:=⟨_,rfl⟩
 rw[v]at K r u
 have ad:=aa (sC m2);simp only[p8]at J;refine al ?_;intro PP ae;clear h j q i I c v;go_enter Tryz.func28,Tryz.ntmps28;go_wp2_with fail;refine(J.out _ Z.out.sh).mono ?_;rintro e y ⟨rfl,z⟩;obtain⟨o,l,A,B,O⟩:=Z.out.mF z;have P:=aa l;have Q:=aa A;have C:=aa B;have af:(0:Int)<p.m.ax:=by have:=L.out;omega
 have d:=l.top;have R:Hid (y.rangeAt pb 2 em):=aa (by rw[<-a.out,<-N.out];exact rs d);have c2:y.cell? ⟨pb,2,none⟩=some (.int .u64 p.m.ax):=by rw[<-a.out];exact d.aq
 have D:Hid (ag y pb (fY {p with s:=g} {f with sf:=o}) 123):=aa (by rw[<-a.out];exact d);have ac:Hid (cL (fY {p with s:=g} {f with sf:=o}) 2 (cd m2)=fY {p with s:=g,m:=m2} {f with sf:=o}):=aa rfl;have E:Hid (2+5<=(fY {p with s:=g} {f with sf:=o}).length):=aa (by show 7<=10;decide);obtain⟨cs,F⟩:∃cs,fY {p with s:=g} {f with sf:=o}=cs:=⟨_,rfl⟩
 rw[F]at D ac E
 clear z l A B O c0 J d F
 go_wp2_with(first
    |(refine wpList_load_mid rfl 121 (.tmp 29) rfl pb 2 rfl em _ R.out Tryz.underlying121 rfl M.out ?_)
    |(go_at_call 54;refine(K.out _).mono ?_;rintro e w7 ⟨rfl,S⟩;have T:=aa (D.out.kp S (λx=>x));have U:=aa S;clear S)
    |(refine ev rfl 121 (.tmp 34) (.tmp 32) rfl T.out 2 (cd m2) rfl rfl b9 E.out ad.out ?_
      intro W8 n _ G;rw[ac.out]at n
      have V:=aa n;have H:Hid (Kp (λb=>b=pb) y W8):=aa (G (λb=>b=pb) y (U.out.mono (λ_ _ x=>x.elim)) (.inl rfl))
      clear n G))
 go_end0;have X:=P.out.vq (m:=m2) (by have:=V.out;rw[<-a.out]at this;exact this) (by rw[a.out];exact H.out) u.out;refine ae.out _ _ ⟨rfl,{f with sf:=o},by rw[r.out];exact X,Q.out.steps C.out (H.out.mono (λb _ e=>.inl (e.trans a.out.symm))),C.out,rfl,rfl,rfl⟩
def EN{w:World}{f:dy}{p:Po}(h:cW w f p)(t:Nat)(ht:t<18446744073709551616)(b:cq p.s.bk<9223372036854775807):
    Calls Tryz.prog 28 #[.pointer (some ⟨f.pb,0,none⟩),.int .u64 t] w λe w'=>e=.returned (.tuple #[])/\fZ w f (h4 p t) w':=by
 rcases Js p.m.ax with a|a
 ·exact Cu h a t ht b
 ·exact Cv h a t ht b
def nt{w w':World}{f:dy}{p:Po}(h:cW w f p)(k:Kp ae w w'):fZ w f p w':=⟨f,h.old k,k.mono (λ_ _ x=>x.elim),Nw.refl _ _,rfl,rfl,rfl⟩
def Gr{w:World}{f:dy}{p:Po}(h:cW w f p)(a:od w f.sf.all)(d:cq p.s.bk<9223372036854775807):
    Calls Tryz.prog 35 #[.pointer (some ⟨f.pb,0,none⟩)] w λe w'=>e=.returned (.tuple #[.string (tx (cm p).1.1),.int .i64 (cm p).1.2])/\fZ w f (cm p).2 w':=by
 unfold cm;by_cases b:(aM p.s.bk).2=false
 ·rw[Hl b];have hd:bO p.s=(gZ 2 18 0 0 0 0 gF,p.s):=by unfold bO;rw[Hl b]
  exact wF h a 18 (by decide) (by rw[hd];rfl) (by rw[hd]) d
 ·rw[Hk b];by_cases c:p.s.tok<(aM p.s.bk).1.x.len
  ·rw[Hl c];have hd:bO p.s=(gZ 2 19 0 0 0 0 gF,p.s):=by unfold bO;rw[Hk b,Hl c]
   exact wF h a 19 (by decide) (by rw[hd];rfl) (by rw[hd]) d
  ·rw[Hk c];have hid:(aM p.s.bk).1.x.id<4294967296:=(h.sh.ok.xY _ (yd (by simpa using b))).2.2.1;have hd:(bO p.s).1=gZ 2 0 (aM p.s.bk).1.x.cE (aM p.s.bk).1.x.id (aM p.s.bk).1.x.len (aM p.s.bk).1.ao gF:=by unfold bO;rw[Hk b,Hk c]
   exact tX h a (aM p.s.bk).1.x.id hid (by rw[hd];rfl) (by rw[hd];rfl) d
def Ao{w:World}{f:dy}{p:Po}(h:cW w f p)(N:dH w)(s:ByteArray)(O:s.size<=100000)(he:aS (bl s)=0)(fl:Nat)(hf:eS p.rl (aL (bl s)).n=some fl)(P:ef (bl s)=0)(i:kn p s.size)(Q:(cZ p.m s.size).2=3):
    Calls Tryz.prog 34 #[.pointer (some ⟨f.pb,0,none⟩),.string s] w λe w'=>e=.returned (.tuple #[.int .u32 0,.int .i64 21])/\fZ w f {p with m:=(cZ p.m s.size).1} w':=by
 have R:=iZ h.ok.oe hf;have I:=aa (λW=>dC s O he W);have S:=aa (λW=>mc s O P W);have hlen:(dw (bl s)).length=s.size:=by rw[kq he,aG]
 have j:=λW (k:Kp ae w W)=>lM W f.tb p.rl h.ok.oe h.ok.dr ((h.old k).ru.rt) (N.kp k (λx=>x)) (aL (bl s)) (fj _);rw[hf]at j
 have HF:=aa j;have a:=aa (λW (k:Kp ae w W)=>i W f (h.old k).top);rw[Q]at a
 have r:=kr h.ok.qf s.size;obtain⟨m',t⟩:∃m',(cZ p.m s.size).1=m':=⟨_,rfl⟩
 rw[t]at a r ⊢
 have hy:=h.ok.y;obtain⟨L,T⟩:∃L,dw (bl s)=L:=⟨_,rfl⟩
 rw[T]at S hlen
 have Y:L.length<=100000:=by omega
 clear T;have Z:=aa h;have J:=aa h.top;obtain⟨pb,l⟩:∃pb,f.pb=pb:=⟨_,rfl⟩
 rw[l]at J a ⊢
 have o:=aa l;obtain⟨H,U⟩:∃H,aL (bl s)=H:=⟨_,rfl⟩
 rw[U]at I HF
 have c0:=J.out.ai;simp only[cj,pO,pP]at I HF;obtain⟨ds,id,bG,sr,d,sp,V⟩:=H;simp only at I HF;refine al ?_;intro PP X;clear h he l U N hf j P i Q t;go_enter Tryz.func34,Tryz.ntmps34;go_wp2_with fail;refine(I.out _).mono ?_;rintro e w1 ⟨rfl,u⟩;have v:=aa (ag.new w1 [.int .u8 ds,.int .u16 id,.int .u8 bG,.int .u32 sr,.int .u32 d,.int .u16 sp,.int .u16 V] 42);have c:=aa (u.alloc (.cells #[.int .u8 ds,.int .u16 id,.int .u8 bG,.int .u32 sr,.int .u32 d,.int .u16 sp,.int .u16 V] 42));have d1:=(J.out.kp c.out (λx=>x)).aj;clear u c0;go_upto_region 6 with fail;refine ar 10 (by kernel_rfl) (λ_ _ _ _ _ h=>h) ?_;simp only[aO]
 repeat((first
    |refine bc (by exact rfl) (fm v.out _ Tryz.underlying42 rfl dO rfl rfl) ?_
    |refine ay (by rfl) (by as_aux_lemma=>intro W K;have e1:=K.cell d1 (λx=>x);go_simp;exact rfl) ?_
    |refine ah (by rfl) ?_
    |refine aR (by rfl) (by as_aux_lemma=>intro W;go_simp;exact⟨rfl,rfl⟩) (by intro W K;with_reducible first|exact HF.out W (c.out.trans K)) ?_);simp only[Act.put,aH])
 intro W2 z;have A:=aa (c.out.trans z);clear z v c d1;go_wp2_with fail;refine(S.out _).mono ?_;rintro e w3 ⟨rfl,B⟩;have g:=aa (A.out.trans B);clear B A;go_wp2_with fail;refine(a.out _ g.out).mono ?_;rintro e M ⟨rfl,C,q⟩;have D:cW M f {p with m:=m'}:=(Z.out.old g.out).vq (by rw[o.out];exact C) (by rw[o.out];exact q) r;have E:=aa D;have F:Hid (Kp f.all w M):=aa ((g.out.mono (λ_ _ x=>x.elim)).trans (q.mono (λb _ e=>.inl (by rw[o.out];exact e))));have G:=aa (X.out (.returned (.tuple #[.int .u32 0,.int .i64 21])) M ⟨rfl,f,E.out,F.out,Nw.refl _ _,rfl,rfl,rfl⟩);clear C q D X E F g;go_wp2_with fail;exact G.out
def Gs{w:World}{f:dy}{p:Po}(h:cW w f p)(k:dH w)(s:ByteArray)(i:s.size<=100000)(o:cq p.s.bk<9223372036854775807)(b:p.num+1<4294967296):
    Calls Tryz.prog 34 #[.pointer (some ⟨f.pb,0,none⟩),.string s] w λe w'=>e=.returned (.tuple #[.int .u32 (dm p (bl s)).1.1,.int .i64 (dm p (bl s)).1.2])/\fZ w f (dm p (bl s)).2 w':=by
 have hsz:(bl s).length=s.size:=by unfold bl;simp
 have d:=Gq p s.size h.ok.qf;unfold dm;by_cases he:aS (bl s)=0
 ·rw[Hk (by simp[he])];cases hf:eS p.rl (aL (bl s)).n with
  |none=>
   refine(yb h k s i he hf).mono ?_;rintro e w' ⟨rfl,a⟩;exact⟨rfl,nt h a⟩
  |some fl=>
   simp only;by_cases j:ef (bl s)=0
   ·rw[Hk (by simp[j]),hsz];rcases Cs p.m s.size with c|c|c
    ·rw[Hk (by rw[c];decide)];have l:vo (bl s) (cZ p.m s.size).2 p.y=dw (bl s):=by rw[c];rfl
     by_cases hm:bP p.s.g fl s.size=0
     ·rw[Hl hm,l];refine(rr h k s i he fl hf j d c o b hm).mono ?_;rintro e w' ⟨rfl,a⟩;exact⟨by simp,a⟩
     ·rw[Hk hm];refine(Am h k s i he fl hf j d c o b hm).mono ?_;rintro e w' ⟨rfl,a⟩;exact⟨rfl,a⟩
    ·rw[Hk (by rw[c];decide)];have l:vo (bl s) (cZ p.m s.size).2 p.y=gD (dw (bl s)) p.y:=by rw[c];rfl
     by_cases hm:bP p.s.g fl s.size=0
     ·rw[Hl hm,l];refine(yc h k s i he fl hf j d c o b hm).mono ?_;rintro e w' ⟨rfl,a⟩;exact⟨by simp,a⟩
     ·rw[Hk hm];refine(An h k s i he fl hf j d c o b hm).mono ?_;rintro e w' ⟨rfl,a⟩;exact⟨rfl,a⟩
    ·rw[Hl c];refine(Ao h k s i he fl hf j d c).mono ?_;rintro e w' ⟨rfl,a⟩;exact⟨rfl,a⟩
   ·rw[Hl (by simpa using j)];refine(Ad h k s i he fl hf j).mono ?_;rintro e w' ⟨rfl,a⟩;exact⟨rfl,nt h a⟩
 ·rw[Hl (by simpa using he)];refine(ya h s i he).mono ?_;rintro e w' ⟨rfl,a⟩;exact⟨rfl,nt h a⟩
def kS:(Tryz.prog.info? 56).map (·.size)=some 36:=by kernel_rfl
def Gt{w:World}{f:dy}{p:Po}(h:cW w f p):Calls Tryz.prog 36 #[.pointer (some ⟨f.pb,0,none⟩)] w λe w'=>e=.returned (.int .u32 p.num)/\w=w':=by
 have a:=h.top.ea;clear h;go_enter Tryz.func36,Tryz.ntmps36;go_wp2;go_ret;exact⟨rfl,rfl⟩
def hA:List dF:=[⟨1,1,10,0,5000⟩,⟨2,1,20,0,50⟩]
def cS:ey:=⟨2,1,1,2,9,5000,0,1000,1000,1000,hA⟩
def qg:List b5:=[⟨(0,0),(0,0),0,65535,1⟩]
def og:jC:=⟨cS,qg,0,0,0,0⟩
def Ap(w:World):Calls Tryz.prog 18 #[] w λe w'=>∃b b2,e=.returned (.agg (cx og (.slice (some ⟨b,0,none⟩) 2 2) (.slice (some ⟨b2,0,none⟩) 1 1)).toArray)/\ag w' b (hA.flatMap cv) 106/\ag w' b2 (qg.flatMap cR) 108/\w.heap.size<=b/\w.heap.size<=b2/\Kp ae w w':=by
 have Z:Hid (∀W,Calls Tryz.prog 33 #[] W λe w'=>∃b,e=.returned (.agg #[.int .i64 2,.int .i64 1,.int .i64 1,.int .i64 2,.int .i64 9,.int .u64 100,.int .i64 0,.int .u64 10,.int .u64 1,.int .u64 10,.slice (some ⟨b,0,none⟩) 2 2])/\
  ag w' b [.int .u32 1,.int .u64 1,.int .u64 10,.int .u64 0,.int .u64 50,.int .u32 2,.int .u64 1,.int .u64 20,.int .u64 0,.int .u64 50] 106/\W.heap.size<=b/\Kp ae W w'):=aa (λW=>EL W)
 have t:=aa (ag.new w [.int .i64 0,.int .i64 0,.int .i64 0,.int .i64 0,.int .i64 0,.int .u64 0,.int .i64 0,.int .u64 0,.int .u64 0,.int .u64 0,.slice none 0 0,.slice none 0 0,.int .u64 0,.int .u64 0,.int .u64 0,.int .u8 0] 68);have u:=aa ((Kp.refl ae w).alloc (.cells #[.int .i64 0,.int .i64 0,.int .i64 0,.int .i64 0,.int .i64 0,.int .u64 0,.int .i64 0,.int .u64 0,.int .u64 0,.int .u64 0,.slice none 0 0,.slice none 0 0,.int .u64 0,.int .u64 0,.int .u64 0,.int .u8 0] 68));go_enter Tryz.func18,Tryz.ntmps18;go_wp2_with fail;refine(Z.out _).mono ?_;rintro e w1 ⟨b,rfl,c,hle,o⟩;have v:=aa c;have p:=aa (t.out.kp o (λx=>x));have y:=aa (u.out.trans o);have L:=c.lt;have Y:=c.a_;have z4:=c.fz 4;rw[HB]at hle
 have z:=aa hle;clear c hle o t u;go_upto_region 3 with fail;have d:Kp ae w1 (w1.alloc (.cells #[.int .i64 2,.int .i64 1,.int .i64 1,.int .i64 2,.int .i64 9,.int .u64 5000,.int .i64 0,.int .u64 1000,.int .u64 1000,.int .u64 1000,.slice (some ⟨b,0,none⟩) 2 2] 65)):=(Kp.refl _ _).alloc _;have A:=ag.new w1 [.int .i64 2,.int .i64 1,.int .i64 1,.int .i64 2,.int .i64 9,.int .u64 5000,.int .i64 0,.int .u64 1000,.int .u64 1000,.int .u64 1000,.slice (some ⟨b,0,none⟩) 2 2] 65;obtain⟨q,k⟩:∃q,w1.alloc (.cells #[.int .i64 2,.int .i64 1,.int .i64 1,.int .i64 2,.int .i64 9,.int .u64 5000,.int .i64 0,.int .u64 1000,.int .u64 1000,.int .u64 1000,.slice (some ⟨b,0,none⟩) 2 2] 65)=q:=⟨_,rfl⟩
 obtain⟨cb,r⟩:∃cb,w1.heap.size=cb:=⟨_,rfl⟩
 rw[k]at d
 have f:ag q cb [.int .i64 2,.int .i64 1,.int .i64 1,.int .i64 2,.int .i64 9,.int .u64 5000,.int .i64 0,.int .u64 1000,.int .u64 1000,.int .u64 1000,.slice (some ⟨b,0,none⟩) 2 2] 65:=by rw[<-k,<-r];exact A
 rw[k,r];have B:=aa f;have l:=aa (v.out.kp d (λx=>x));have C:=aa (p.out.kp d (λx=>x));have D:=aa (y.out.trans d);have m:b<cb:=by omega
 have M:=aa m;have Y:=l.out.a_;have z4:=l.out.fz 4;have N:=f.eR;have E:=p.out.lt;have O:=aa E;clear d A f k r v p y L m E;go_upto_region 4 with fail;have hle:=z.out;have m:=M.out;have P:=fQ q b 4 (.int .u64 5000);have n:ag (q.setCell ⟨b,4,none⟩ (.int .u64 5000)) b [.int .u32 1,.int .u64 1,.int .u64 10,.int .u64 0,.int .u64 5000,.int .u32 2,.int .u64 1,.int .u64 20,.int .u64 0,.int .u64 50] 106:=l.out.set 4 (.int .u64 5000);have a:=B.out.kp P (by omega);have g:=C.out.kp P (by omega);have j:Kp ae w (q.setCell ⟨b,4,none⟩ (.int .u64 5000)):=D.out.set (.inr (by show w.heap.size<=b;omega)) _;obtain⟨F,G⟩:∃F,q.setCell ⟨b,4,none⟩ (.int .u64 5000)=F:=⟨_,rfl⟩
 rw[G]at n a g j ⊢
 have ac:=aa a;have ad:=aa n;have af:=aa g;have ah:=aa j;have Q:=aa (ag.new F [.int .u32 0,.int .i64 0,.int .u32 0,.int .i64 0,.int .u16 0,.int .u16 65535,.int .u32 1] 108);have R:=aa (g.alloc (.cells Hd 108));have S:=aa (n.alloc (.cells Hd 108));have T:=aa (j.alloc (.cells Hd 108));have H:=j.size;have U:=aa H;have I:=g.lt;have V:=aa I;have y0:=a.ai;have y1:=a.aj;have y2:=a.aq;have y3:=a.aK;have y4:=a.a_;have y5:=a.bN;have y6:=a.du;have y7:=a.eN;have y8:=a.eu;have y9:=a.ea;have ak:=a.eR;have al:∀W,(Instr.buildSlice 66 1 #[(0,.agg Hd)]).run Tryz.prog W=.ok (.slice (some ⟨W.heap.size,0,none⟩) 1 1) (W.alloc (.cells Hd 108)):=λ_=>by kernel_rfl
 clear P n a g j G Y z4 N hle m H I C l D B
 go_wp2_with(refine aV rfl 68 (.tmp 0) (.tmp 14) rfl R.out (cx og (.slice (some ⟨b,0,none⟩) 2 2) (.slice (some ⟨F.heap.size,0,none⟩) 1 1)) rfl rfl rfl (by kernel_rfl) rfl ?_
             intro W5 J K;have X:=aa J;have s:=aa K
             clear J K)
 have h1:=z.out;have h2:=O.out;have h3:=U.out;have h4:=V.out;exact dk (by exact rfl) X.out _ Tryz.underlying68 rfl (by kernel_rfl) (by exact rfl) ⟨b,F.heap.size,rfl,S.out.kp s.out (by omega),Q.out.kp s.out (by omega),by omega,by omega,T.out.then s.out (λi h e=>by omega)⟩
def dn(c:ey):fy:=if c.back=1 then .hp 0 []else if c.back=2 then .ca 0 []else .qu (List.replicate c.aD.toNat 0) (List.replicate c.aD.toNat [])
def vu{α:Type}(n:Nat):(List.replicate n ([]:List α)).flatten=[]:=by
 induction n with
 |zero=>rfl
 |succ n a=>rw[JE,Ks,a];rfl
def kT(c:ey):aU (dn c)=[]:=by
 unfold dn;split
 ·rfl
 ·split
  ·rfl
  ·exact vu _
def Cw{c:ey}(h:eX c=0):1<=c.aB/\c.aB<=4096:=by
 by_cases a:c.aB<1\/4096<c.aB\/c.bytes=0\/c.share<0\/16<c.share
 ·rw[qI a]at h;exact absurd h (by decide)
 ·omega
def ye{c:ey}(h:dr c=0):(1<=c.back/\c.back<=3)/\1<=c.levels/\c.levels<=3:=by
 by_cases a:c.ao<1\/3<c.ao\/c.back<1\/3<c.back
 ·rw[qJ a]at h;exact absurd h (by decide)
 ·by_cases b:c.levels<1\/3<c.levels
  ·rw[tg a b]at h;exact absurd h (by decide)
  ·omega
def tY{c:ey}(h:dr c=0):k9 (dn c):=by
 obtain⟨-,a,-⟩:=jy h;unfold dn;split
 ·trivial
 ·split
  ·trivial
  ·refine⟨by rw[Ic,Ic],by rw[Ic];omega⟩
def Aq(c:ey)(k:dr c=0)(v:Value)(w:World):
    Calls Tryz.prog 66 #[.agg (er c v).toArray] w λe w'=>∃v Fb,e=.returned v/\eC w' Fb v c.aB.toNat (dn c)/\(∀b,Fb b->w.heap.size<=b)/\Kp ae w w':=by
 obtain⟨-,⟨l,m⟩,h,-⟩:=jy k;obtain⟨i,j⟩:=Cw h;obtain⟨⟨b1,b2⟩,n,l2⟩:=ye k;by_cases a:c.back=1
 ·have e:dn c=.hp 0 []:=by unfold dn;rw[Hl a]
  rw[e];exact(zO c v w a i j).mono λe w' ⟨b,F,a,d,f,g⟩=>⟨qc b,F,a,⟨b,rfl,d⟩,f,g⟩
 ·by_cases d:c.back=2
  ·have e:dn c=.ca 0 []:=by unfold dn;rw[Hk a,Hl d]
   rw[e];exact(El c v w d i j n l2).mono λe w' ⟨b,F,a,d,f,g⟩=>⟨se b,F,a,⟨b,rfl,d⟩,f,g⟩
  ·have e:dn c=.qu (List.replicate c.aD.toNat 0) (List.replicate c.aD.toNat []):=by unfold dn;rw[Hk a,Hk d]
   rw[e];exact(Eh c v w (by omega) i j l m).mono λe w' ⟨b,F,a,d,f,g⟩=>⟨sa b,F,a,⟨b,rfl,d⟩,f,g⟩
def wG:Mt.zero.Ok:=⟨⟨by decide,by decide,by decide,by decide,by decide⟩,λh=>absurd h (by decide)⟩
def yf{pc:jC}(a:pc.Ok)(b:pc.Good):(jH pc).Ok:=by
 unfold jH;by_cases h:pc.ax=0
 ·rw[Hl h];exact wG
 ·rw[Hk h];have d:=b.ax;exact⟨⟨a.ax,a.bD,a.aJ,a.bD,a.aJ⟩,λc=>de.2 ⟨c,by show 0<pc.bD\/0<pc.aJ;omega,Hm _,Hm _⟩⟩
def wa(pc:jC)(j:pc.Ok)(Z:pc.Good)(v u:Value)(w:World)(hv:Sl w v pc.c.av.length 5 (pc.c.av.flatMap cv))(hu:Sl w u pc.rl.length 7 (pc.rl.flatMap cR))(st:fy)(aP:aU st=[])(aQ:k9 st)
    (C:∀W,Kp ae w W->Calls Tryz.prog 66 #[.agg (er pc.c v).toArray] W λe w'=>∃v Fb,e=.returned v/\eC w' Fb v pc.c.aB.toNat st/\(∀b,Fb b->W.heap.size<=b)/\Kp ae W w'):
    Calls Tryz.prog 22 #[.agg (cx pc v u).toArray] w λe w'=>∃f,e=.returned (.tuple #[.pointer (some ⟨f.pb,0,none⟩),.int .i64 0])/\cW w' f (dZ pc st)/\(∀b,f.all b->w.heap.size<=b)/\w.heap.size<=f.lo/\Kp ae w w':=by
 have bS:= @run_makeMap Tryz.prog;have bT:=aa (λW (k:Kp ae w W)=>q_ pc j Z v u W (hv.old k) (hu.old k));have bU:=aa (λW (k:Kp ae w W)=>Eo pc.c j.c Z.dr v W (hv.old k) st aP aQ (λW' k'=>C W' (k.trans k')));have bV:=aa (λW (k:Kp ae w W)=>Ey pc.rl j.rl Z.rules u W (hu.old k));have aR:Hid (Po.Ok ⟨jz pc.c st,pc.rl,Mt.zero,pc.y,λ_=>[],0⟩):=aa ⟨j.rl,Z.rules,wG,Z.y,by show(0:Nat)<_;decide,λb=>by show([]:List UInt8).length<=_;decide⟩;have K:Hid (jH pc).Ok:=aa (yf j Z);have ar:=aa (λh W=>D_ pc.ax pc.bD pc.aJ h (by rcases Z.ax with e|e;(exact absurd h (by omega));exact e) W);have L:Hid (pc.ax=0->dZ pc st=⟨jz pc.c st,pc.rl,Mt.zero,pc.y,λ_=>[],0⟩):=aa (λhr=>by unfold dZ jH;rw[Hl hr]);have M:Hid (0<pc.ax->dZ pc st=⟨jz pc.c st,pc.rl,⟨pc.ax,pc.bD,pc.aJ,pc.bD,pc.aJ⟩,pc.y,λ_=>[],0⟩):=aa (λhr=>by unfold dZ jH;rw[Hk (by omega)]);have N:Hid (0<pc.ax->jH pc=⟨pc.ax,pc.bD,pc.aJ,pc.bD,pc.aJ⟩):=aa (λhr=>by unfold jH;rw[Hk (by omega)]);have hy:=j.y;obtain⟨ao,cap,rfl⟩:∃ao cap,v=.slice ao pc.c.av.length cap:=by obtain⟨ao,cap,rfl,_⟩:=hv.is;exact⟨_,_,rfl⟩
 obtain⟨aS,ac,rfl⟩:∃ao cap,u=.slice ao pc.rl.length cap:=by obtain⟨ao,cap,rfl,_⟩:=hu.is;exact⟨_,_,rfl⟩
 have aT:=aa (ag.new w (cx pc (.slice ao pc.c.av.length cap) (.slice aS pc.rl.length ac)) 82);have au:=aa ((Kp.refl ae w).alloc (.cells (cx pc (.slice ao pc.c.av.length cap) (.slice aS pc.rl.length ac)).toArray 82));obtain⟨po,aV⟩:∃po,dZ pc st=po:=⟨_,rfl⟩
 rw[aV]at L M ⊢
 obtain⟨aW,ad⟩:∃aW,jH pc=aW:=⟨_,rfl⟩
 rw[ad]at K N
 refine al ?_;intro PP bL;clear j Z hv hu aP aQ C aV ad;obtain⟨c,rl,ax,bD,aJ,y⟩:=pc;simp only at hy;obtain⟨sc,aX⟩:∃sc,jz c st=sc:=⟨_,rfl⟩
 simp only[aX]at*;clear aX;obtain⟨rk,bk,lv,qu,pk,bt,sh,mt,rt,bu,fl⟩:=c;simp only[cx,er,IT,Im]at*;go_enter Tryz.func22,Tryz.ntmps22;go_wp2_with fail;refine(bT.out _ au.out).mono ?_;rintro e w1 ⟨rfl,aw⟩;have aY:=aa (au.out.trans aw);have O:=aa (aT.out.kp aw (λx=>x));have a:=O;have y0:=a.out.ai;have y1:=a.out.aj;have y2:=a.out.aq;have y3:=a.out.aK;have y4:=a.out.a_;have y5:=a.out.bN;have y6:=a.out.du;have y7:=a.out.eN;have y8:=a.out.eu;have y9:=a.out.ea;have l:=a.out.eR;have n:=a.out.ik;have o:=a.out.hK;have p:=a.out.hL;have q:=a.out.jU;have r:=a.out.jV;have aZ:=aY.out.size;have bv:=O.out.lt;clear aw aT au a;go_upto_region 5 with fail;have P:Kp ae w1 ((w1.alloc (.map #[] 0)).alloc (.cells #[.pointer none,.pointer none,.int .u64 0,.int .u64 0,.int .u64 0,.int .u64 0,.int .u64 0,.int .u8 y,.map (some w1.heap.size),.int .u32 0] 123)):=((Kp.refl ae w1).alloc _).alloc _;have A:ag ((w1.alloc (.map #[] 0)).alloc (.cells #[.pointer none,.pointer none,.int .u64 0,.int .u64 0,.int .u64 0,.int .u64 0,.int .u64 0,.int .u8 y,.map (some w1.heap.size),.int .u32 0] 123)) (w1.heap.size+1) [.pointer none,.pointer none,.int .u64 0,.int .u64 0,.int .u64 0,.int .u64 0,.int .u64 0,.int .u8 y,.map (some w1.heap.size),.int .u32 0] 123:=by
  have:=ag.new (w1.alloc (.map #[] 0)) [.pointer none,.pointer none,.int .u64 0,.int .u64 0,.int .u64 0,.int .u64 0,.int .u64 0,.int .u8 y,.map (some w1.heap.size),.int .u32 0] 123;rw[HB]at this
  exact this
 have Q:jS ((w1.alloc (.map #[] 0)).alloc (.cells #[.pointer none,.pointer none,.int .u64 0,.int .u64 0,.int .u64 0,.int .u64 0,.int .u64 0,.int .u8 y,.map (some w1.heap.size),.int .u32 0] 123)) w1.heap.size 0 (λ_=>[]):=(Cp w1).kp ((Kp.refl ae _).alloc _) (λx=>x);obtain⟨W2,ay⟩:∃W2,(w1.alloc (.map #[] 0)).alloc (.cells #[.pointer none,.pointer none,.int .u64 0,.int .u64 0,.int .u64 0,.int .u64 0,.int .u64 0,.int .u8 y,.map (some w1.heap.size),.int .u32 0] 123)=W2:=⟨_,rfl⟩
 obtain⟨mb,R⟩:∃mb,w1.heap.size=mb:=⟨_,rfl⟩
 obtain⟨pb,D⟩:∃pb,w1.heap.size+1=pb:=⟨_,rfl⟩
 rw[ay]at P A Q
 rw[D]at A
 rw[R]at A Q aZ bv
 rw[ay,D,R];rw[R]at D
 have a0:=aa (aY.out.trans P);have az:=aa (O.out.kp P (λx=>x));have bw:=aa A;have bz:=aa Q;have a1:=aa D;have bW:=A.lt;have a:=az;clear y0 y1 y2 y3 y4 y5 y6 y7 y8 y9 l n o p q r P A Q ay R D O;have y0:=a.out.ai;have y1:=a.out.aj;have y2:=a.out.aq;have y3:=a.out.aK;have y4:=a.out.a_;have y5:=a.out.bN;have y6:=a.out.du;have y7:=a.out.eN;have y8:=a.out.eu;have y9:=a.out.ea;have l:=a.out.eR;have n:=a.out.ik;have o:=a.out.hK;have p:=a.out.hL;have q:=a.out.jU;have r:=a.out.jV;clear a;go_wp2_with fail;refine(bU.out _ a0.out).mono ?_;rintro e w3 ⟨f,rfl,a2,a3,B⟩;have af:=aa a2;have bA:=aa a3;have a4:=aa (a0.out.trans B);have a5:=aa (az.out.kp B (λx=>x));have S:=aa (bw.out.kp B (λx=>x));have a6:=aa (bz.out.kp B (λx=>x));have a7:=aa B;have p0:=S.out.ai;have z0:=S.out.fz 0;clear y0 y1 y2 y3 y4 y5 y6 y7 y8 y9 l n o p q r a2 a3 B az;go_upto_region 6 with fail;have E:∀b,f.all b->pb<b:=λb d=>by have:=bA.out b d;omega
 have aA:pb=mb+1:=a1.out.symm;have J:Kp (λb=>b=pb) w3 (w3.setCell ⟨pb,0,none⟩ (.pointer (some ⟨f.sb,0,none⟩))):=fQ _ _ _ _;have T:ag (w3.setCell ⟨pb,0,none⟩ (.pointer (some ⟨f.sb,0,none⟩))) pb [.pointer (some ⟨f.sb,0,none⟩),.pointer none,.int .u64 0,.int .u64 0,.int .u64 0,.int .u64 0,.int .u64 0,.int .u8 y,.map (some mb),.int .u32 0] 123:=S.out.set 0 (.pointer (some ⟨f.sb,0,none⟩));have aC:=a5.out.kp J (by omega);have aD:=a6.out.kp J (by omega);have z:=af.out.kp J (λb d=>by have:=E b d;omega);have aE:Kp ae w (w3.setCell ⟨pb,0,none⟩ (.pointer (some ⟨f.sb,0,none⟩))):=a4.out.set (.inr (by show w.heap.size<=pb;omega)) _;have bM:Kp ae W2 w3:=a7.out;obtain⟨g,aF⟩:∃g,w3.setCell ⟨pb,0,none⟩ (.pointer (some ⟨f.sb,0,none⟩))=g:=⟨_,rfl⟩
 have bO:w3.heap.size=g.heap.size:=by rw[<-aF];simp[World.setCell]
 rw[aF]at T aC aD z aE ⊢
 have a8:=aa T;have aG:=aa aC;have a9:=aa aD;have ah:=aa z;have ba:=aa aE;have F:=aa E;have bb:∀b,f.all b->b<g.heap.size:=λb d=>z.lt d;have bc:=aa bb;have bP:=T.lt;have a:=aG;clear aA p0 z0 T aC aD z aE J aF S a6 af a4 a5 E bb;have y0:=a.out.ai;have y1:=a.out.aj;have y2:=a.out.aq;have y3:=a.out.aK;have y4:=a.out.a_;have y5:=a.out.bN;have y6:=a.out.du;have y7:=a.out.eN;have y8:=a.out.eu;have y9:=a.out.ea;have l:=a.out.eR;have n:=a.out.ik;have o:=a.out.hK;have p:=a.out.hL;have q:=a.out.jU;have r:=a.out.jV;clear a y0 y1 y2 y3 y4 y5 y6 y7 y8 y9;go_wp2_with fail;refine(bV.out _ ba.out).mono ?_;rintro e s ⟨tb,rfl,be,t⟩;have U:=aa (a8.out.kp t (λx=>x));have bf:=aa (aG.out.kp t (λx=>x));have bg:=aa (a9.out.kp t (λx=>x));have ak:=aa (ah.out.old t);have an:=aa be;have bB:=aa (ba.out.trans t);have bX:=t.size;have p1:=U.out.aj;have z1:=U.out.fz 1;clear l n o p q r be t a8 aG a9 ah;go_upto_region 7 with fail;have aA:pb=mb+1:=a1.out.symm;have J:Kp (λb=>b=pb) s (s.setCell ⟨pb,1,none⟩ (.pointer (some ⟨tb,0,none⟩))):=fQ _ _ _ _;have V:=U.out.set 1 (.pointer (some ⟨tb,0,none⟩));have aH:=bf.out.kp J (by omega);have aI:=bg.out.kp J (by omega);have G:=ak.out.kp J (λb d=>by have:=F.out b d;omega);have H:=an.out.kp J (λb h1 h2=>by omega);have aL:Kp ae w (s.setCell ⟨pb,1,none⟩ (.pointer (some ⟨tb,0,none⟩))):=bB.out.set (.inr (by show w.heap.size<=pb;omega)) _;have bC:(s.setCell ⟨pb,1,none⟩ (.pointer (some ⟨tb,0,none⟩))).heap.size=s.heap.size:=by simp[World.setCell]
 obtain⟨W6,bh⟩:∃W6,s.setCell ⟨pb,1,none⟩ (.pointer (some ⟨tb,0,none⟩))=W6:=⟨_,rfl⟩
 rw[bh]at V aH aI G H aL bC ⊢
 have bi:cW W6 ⟨pb,mb,tb,g.heap.size,s.heap.size,f⟩ ⟨sc,rl,Mt.zero,y,λ_=>[],0⟩:=by
  refine⟨?_,?_,?_,?_,?_,?_,?_,?_,?_,?_,?_,aR.out⟩
  ·exact V
  ·exact G
  ·exact H
  ·exact aI
  ·show pb≠mb;omega
  ·intro h;have:=F.out _ h;exact absurd this (Jt _)
  ·intro h;have h2:pb<mb:=F.out _ h;omega
  ·rintro⟨h1,h2⟩;have h3:g.heap.size<=pb:=h1;omega
  ·rintro⟨h1,h2⟩;have h3:g.heap.size<=mb:=h1;omega
  ·intro b d;rintro⟨h1,h2⟩;have h3:g.heap.size<=b:=h1;have:=bc.out b d;omega
  ·show s.heap.size<=_;omega
 have I:Hid (∀W,cW W ⟨pb,mb,tb,g.heap.size,s.heap.size,f⟩ po->Kp ae w W->PP (.returned (.tuple #[.pointer (some ⟨pb,0,none⟩),.int .i64 0])) W):=aa (λW hm k=>bL.out _ _ ⟨⟨pb,mb,tb,g.heap.size,s.heap.size,f⟩,rfl,hm,
    λb d=>by
     rcases d with d|d|d
     ·have h3:b=pb:=d;omega
     ·have h3:b=mb:=d;omega
     ·have:=F.out b d;omega,by show _<=g.heap.size;omega,k⟩)
 have a:=aa aH;have X:=aa bi;have Y:=aa aL;have bE:Hid (w.heap.size<=pb):=aa (by omega);have aM:=aa V;clear aA p1 z1 V aH aI G H aL J bh bL aR U bf bg ak an F bc bi;have y0:=a.out.ai;have y1:=a.out.aj;have y2:=a.out.aq;have y3:=a.out.aK;have y4:=a.out.a_;have y5:=a.out.bN;have y6:=a.out.du;have y7:=a.out.eN;have y8:=a.out.eu;have y9:=a.out.ea;have l:=a.out.eR;have n:=a.out.ik;have o:=a.out.hK;have p:=a.out.hL;have q:=a.out.jU;have r:=a.out.jV;clear a y0 y1 y2 y3 y4 y5 y6 y7 y8 y9 l n;by_cases hr:ax=0
 ·have bF:¬(0:Int)<ax:=by omega
  have hq:=L.out hr;have bG:=aa (I.out W6 (by rw[hq];exact X.out) Y.out);clear hr hq I L M X Y ar K N aM;go_wp2_with fail;exact bG.out
 ·have bF:(0:Int)<ax:=by omega
  have hq:=M.out (by omega);have aN:=K.out;rw[N.out (by omega)]at aN
  have bj:=aa aN;have bH:=aa hq;have aO:=aa (ar.out (by omega));have bQ:=aa (sC ⟨ax,bD,aJ,bD,aJ⟩);simp only[cd]at aO bQ;clear hr hq aN L M ar K N;go_wp2_with fail;refine(aO.out _).mono ?_;rintro e w7 ⟨rfl,k7⟩;have bI:=aa (aM.out.kp k7 (λx=>x));have bl:=aa (X.out.old k7);have bJ:=aa (Y.out.trans k7);have bR:Hid (cL (fY ⟨sc,rl,Mt.zero,y,λ_=>[],0⟩ ⟨pb,mb,tb,g.heap.size,s.heap.size,f⟩) 2 (cd ⟨ax,bD,aJ,bD,aJ⟩)=fY ⟨sc,rl,⟨ax,bD,aJ,bD,aJ⟩,y,λ_=>[],0⟩ ⟨pb,mb,tb,g.heap.size,s.heap.size,f⟩):=aa rfl;have bm:Hid (ag w7 pb (fY ⟨sc,rl,Mt.zero,y,λ_=>[],0⟩ ⟨pb,mb,tb,g.heap.size,s.heap.size,f⟩) 123):=aa bl.out.top;have bn:Hid (2+5<=(fY ⟨sc,rl,Mt.zero,y,λ_=>[],0⟩ ⟨pb,mb,tb,g.heap.size,s.heap.size,f⟩).length):=aa (by show 7<=10;decide);obtain⟨cs,bp⟩:∃cs,fY ⟨sc,rl,Mt.zero,y,λ_=>[],0⟩ ⟨pb,mb,tb,g.heap.size,s.heap.size,f⟩=cs:=⟨_,rfl⟩
  rw[bp]at bm bR bn
  clear k7 bp X Y aM bI aO o p q r;go_wp2_with(refine ev rfl 121 (.tmp 49) (.tmp 46) rfl bm.out 2 [.int .u64 ax,.int .u64 bD,.int .u64 aJ,.int .u64 bD,.int .u64 aJ] rfl rfl b9 bn.out bQ.out ?_;intro W8 bq _ br;have bK:=aa (bR.out▸bq);have bs:Hid (Kp (λb=>b=pb) w7 W8):=aa (br (λb=>b=pb) w7 (Kp.refl _ _) (.inl rfl));clear bq br);exact I.out _ (by rw[bH.out];exact bl.out.vq (m:=⟨ax,bD,aJ,bD,aJ⟩) bK.out bs.out bj.out) (bJ.out.then bs.out (λi hi e=>by have e:i=pb:=e;have:=bE.out;omega))
end
end Go.Proofs.YtincjochpkdnfaaGreatDoor
