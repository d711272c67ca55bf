/- A shaper's small parts: refuse, stats, known (layer 26). -/
import Derived.Test.YtincjochpkdnfaaGreatDoorV20
set_option linter.all false
set_option maxHeartbeats 8000000
set_option maxRecDepth 100000
namespace Go.Proofs.YtincjochpkdnfaaGreatDoor
section
open Go Go.RowKit Go.Shelf
def z7(s:Sh)(f:gg)(k:Nat)(x:Value):(h8 s f).set (7+k) x=[.pointer (some ⟨f.gb,0,none⟩),.pointer (some ⟨f.rb,0,none⟩),.int .u64 s.ax,.int .u64 s.aP,.int .u64 s.tok,f.v,.int .u64 s.now]++(s.ref.map e0).set k x:=by
 unfold h8;rw[Kq _ _ (by simp)];simp
def Cg(s:Sh)(f:gg){k:Nat}(h:k<s.ref.length):(h8 s f)[7+k]? =some (.int .u64 (s.ref.getD k 0)):=by
 unfold h8;rw[Jg (by simp)];simp only[Hs,Jj,HR,Kb,H2,Hn h,JG,Hx,I3];rfl
def z8(s:Sh)(f:gg)(k:Nat):(h8 s f).set (7+k) (.int .u64 (cH (s.ref.getD k 0) 1))=h8 (k_ s k) f:=by
 rw[z7];unfold h8 k_;show _++(s.ref.map e0).set k (e0 (cH (s.ref.getD k 0) 1))=_++(s.ref.set k (cH (s.ref.getD k 0) 1)).map e0;rw[Is]
def wz(g:Ga)(id n:Nat):bP g id n=((bP g id n).toNat:Int)/\(bP g id n).toNat<32:=by
 have h:bP g id n=0\/bP g id n=12\/bP g id n=13\/bP g id n=14\/bP g id n=15\/bP g id n=16\/bP g id n=17:=by
  have hf:fO g id n=0\/fO g id n=12\/fO g id n=13\/fO g id n=14\/fO g id n=15\/fO g id n=16:=by
   unfold fO;split
   ·omega
   ·split
    ·omega
    ·split
     ·omega
     ·split
      ·omega
      ·split<;>omega
  unfold bP;split
  ·omega
  ·split<;>omega
 rcases h with h|h|h|h|h|h|h<;>rw[h]<;>decide
def lN(W:World):(sizeOf (Tryz.prog.elem 54)).run Tryz.prog W=.ok 1 W:=by kernel_rfl
def x7{w:World}{sb:Nat}{cs:List Value}(d:ag w sb cs 174)(k x:Nat)(s:k<32)(f:cs[7+k]? =some (.int .u64 x))(j:x<18446744073709551616):
    Calls Tryz.prog 82 #[.pointer (some ⟨sb,0,none⟩),.int .i64 k] w λe w'=>e=.returned (.int .i64 k)/\ag w' sb (cs.set (7+k) (.int .u64 (cH x 1))) 174/\Kp (λb=>b=sb) w w':=by
 have c0:=d.cell (7+k) f;have m:=aa d;have n:=aa f;have o:Hid (∀W,Calls Tryz.prog 56 #[.int .u64 x,.int .u64 1] W λe w'=>e=.returned (.int .u64 (cH x 1))/\Kp ae W w'):=λW=>(sT x 1 j (by decide) W).mono λe w' h=>⟨h.1,h.2▸Kp.refl ae _⟩
 have g:(k:Int)<32:=by omega
 have q:∀W,(Instr.indexAt 54 (.pointer (some ⟨sb,7,none⟩)) (.int .i64 k)).run Tryz.prog W=.ok (.pointer (some ⟨sb,7+k,none⟩)) W:=λW=>by
  have h:=run_indexAt_array (P:=Tryz.prog) (w:=W) 54 ⟨sb,7,none⟩ .i64 k (by kernel_rfl);rw[h,Hl ⟨by omega,by rw[show Tryz.prog.arrayLen 54=32 by kernel_rfl];exact g⟩,lN];simp[Result.andThen,Addr.add]
 clear d f j;go_enter Tryz.func82,Tryz.ntmps82;go_wp2_with fail;refine ar 12 (by kernel_rfl) (λ_ _ _ _ _ h=>h) ?_;simp only[aO]
 repeat((first
    |refine ay (by rfl) (by as_aux_lemma=>intro W l;have t:=l.cell c0 (λx=>x);go_simp;exact rfl) ?_
    |refine ah (by rfl) ?_
    |refine aR (by rfl) (by as_aux_lemma=>intro W;go_simp;exact⟨rfl,rfl⟩) (by intro W l;with_reducible first|exact o.out W) ?_);simp only[Act.put,aH])
 intro r a;have c:=aa (m.out.kp a (λx=>x));have i:=aa a;have d0:=c.out.cell (7+k) n.out;have u:=c.out.fz (7+k);clear a;go_wp2_with fail;go_ret;exact⟨rfl,c.out.set _ _,((i.out.mono (λ_ _ x=>x.elim)):Kp (λb=>b=sb) w r).set (p:=⟨sb,7+k,none⟩) (.inl rfl) _⟩
def ox(l:List Nat)(h:l.length=32):∃a0 a1 a2 a3 a4 a5 a6 a7 m a9 a b a12 c d e f g i j a20 a21 a22 a23 a24 a25 a26 a27 a28 k a30 a31,l=[a0,a1,a2,a3,a4,a5,a6,a7,m,a9,a,b,a12,c,d,e,f,g,i,j,a20,a21,a22,a23,a24,a25,a26,a27,a28,k,a30,a31]:=by
 match l,h with
 | [a0,a1,a2,a3,a4,a5,a6,a7,m,a9,a,b,a12,c,d,e,f,g,i,j,a20,a21,a22,a23,a24,a25,a26,a27,a28,k,a30,a31],_=>exact⟨a0,a1,a2,a3,a4,a5,a6,a7,m,a9,a,b,a12,c,d,e,f,g,i,j,a20,a21,a22,a23,a24,a25,a26,a27,a28,k,a30,a31,rfl⟩
def pQ:(Tryz.prog.info? 56).map (·.size)=some 36:=by kernel_rfl
def z_:(Tryz.prog.info? 54).map (·.size)=some 32:=by kernel_rfl
def Ch{w:World}{f:gg}{s:Sh}(h:et w f s):
    Calls Tryz.prog 81 #[.pointer (some ⟨f.sb,0,none⟩)] w λe w'=>e=.returned (.agg (bZ s).toArray)/\Kp ae w w':=by
 have R:=aa (λW (k:Kp ae w W)=>Br (h.gate.old k));obtain⟨a0,a1,a2,a3,a4,a5,a6,a7,A,a9,a,b,a12,c,d,i,l,m,n,o,a20,a21,a22,a23,a24,a25,a26,a27,a28,p,a30,a31,M⟩:=ox s.ref h.ok.len;have K:=h.top;have B:bZ s=[.int .u64 s.now,.int .u64 s.tok,.int .i64 (aE s.g.st),.int .u64 (cN s.g.st),.int .u64 a0,.int .u64 a1,.int .u64 a2,.int .u64 a3,.int .u64 a4,.int .u64 a5,.int .u64 a6,.int .u64 a7,.int .u64 A,.int .u64 a9,.int .u64 a,.int .u64 b,.int .u64 a12,.int .u64 c,.int .u64 d,.int .u64 i,.int .u64 l,.int .u64 m,.int .u64 n,.int .u64 o,.int .u64 a20,.int .u64 a21,.int .u64 a22,.int .u64 a23,.int .u64 a24,.int .u64 a25,.int .u64 a26,.int .u64 a27,.int .u64 a28,.int .u64 p,.int .u64 a30,.int .u64 a31]:=by unfold bZ;rw[M];rfl
 unfold h8 at K;rw[M]at K
 have q:Hid (ag w f.sb [.pointer (some ⟨f.gb,0,none⟩),.pointer (some ⟨f.rb,0,none⟩),.int .u64 s.ax,.int .u64 s.aP,.int .u64 s.tok,f.v,.int .u64 s.now,.int .u64 a0,.int .u64 a1,.int .u64 a2,.int .u64 a3,.int .u64 a4,.int .u64 a5,.int .u64 a6,.int .u64 a7,.int .u64 A,.int .u64 a9,.int .u64 a,.int .u64 b,.int .u64 a12,.int .u64 c,.int .u64 d,.int .u64 i,.int .u64 l,.int .u64 m,.int .u64 n,.int .u64 o,.int .u64 a20,.int .u64 a21,.int .u64 a22,.int .u64 a23,.int .u64 a24,.int .u64 a25,.int .u64 a26,.int .u64 a27,.int .u64 a28,.int .u64 p,.int .u64 a30,.int .u64 a31] 174):=aa K;have c0:=q.out.ai;have U:=q.out.lt;rw[B];clear h M B K;generalize s.now=now at*;generalize s.tok=tok at*;generalize aE s.g.st=sp at*;generalize cN s.g.st=C at*;generalize f.sb=sb at*;generalize f.gb=gb at*;have D:=ag.new w [.int .u64 0,.int .u64 0,.int .i64 0,.int .u64 0,.int .u64 0,.int .u64 0,.int .u64 0,.int .u64 0,.int .u64 0,.int .u64 0,.int .u64 0,.int .u64 0,.int .u64 0,.int .u64 0,.int .u64 0,.int .u64 0,.int .u64 0,.int .u64 0,.int .u64 0,.int .u64 0,.int .u64 0,.int .u64 0,.int .u64 0,.int .u64 0,.int .u64 0,.int .u64 0,.int .u64 0,.int .u64 0,.int .u64 0,.int .u64 0,.int .u64 0,.int .u64 0,.int .u64 0,.int .u64 0,.int .u64 0,.int .u64 0] 56;have E:=aa D;have r:=aa ((Kp.refl ae w).alloc (.cells #[.int .u64 0,.int .u64 0,.int .i64 0,.int .u64 0,.int .u64 0,.int .u64 0,.int .u64 0,.int .u64 0,.int .u64 0,.int .u64 0,.int .u64 0,.int .u64 0,.int .u64 0,.int .u64 0,.int .u64 0,.int .u64 0,.int .u64 0,.int .u64 0,.int .u64 0,.int .u64 0,.int .u64 0,.int .u64 0,.int .u64 0,.int .u64 0,.int .u64 0,.int .u64 0,.int .u64 0,.int .u64 0,.int .u64 0,.int .u64 0,.int .u64 0,.int .u64 0,.int .u64 0,.int .u64 0,.int .u64 0,.int .u64 0] 56));clear D;refine al ?_;intro PP V;go_enter Tryz.func81,Tryz.ntmps81;go_wp2_with fail;refine(R.out _ r.out).mono ?_;rintro e X ⟨rfl,t⟩;have u:=aa (q.out.kp (r.out.trans t) (λx=>x));have F:=aa (E.out.kp t (λx=>x));have G:=aa (r.out.trans t);have S:=u.out.a_;have T:=u.out.du;have H:Hid (∀W,Kp ae X W->(Instr.loadAt 54 (.pointer (some ⟨sb,7,none⟩))).run Tryz.prog W=.ok (.agg #[.int .u64 a0,.int .u64 a1,.int .u64 a2,.int .u64 a3,.int .u64 a4,.int .u64 a5,.int .u64 a6,.int .u64 a7,.int .u64 A,.int .u64 a9,.int .u64 a,.int .u64 b,.int .u64 a12,.int .u64 c,.int .u64 d,.int .u64 i,.int .u64 l,.int .u64 m,.int .u64 n,.int .u64 o,.int .u64 a20,.int .u64 a21,.int .u64 a22,.int .u64 a23,.int .u64 a24,.int .u64 a25,.int .u64 a26,.int .u64 a27,.int .u64 a28,.int .u64 p,.int .u64 a30,.int .u64 a31]) W):=λW L=>run_loadAt_mid W sb 7 54 [.int .u64 a0,.int .u64 a1,.int .u64 a2,.int .u64 a3,.int .u64 a4,.int .u64 a5,.int .u64 a6,.int .u64 a7,.int .u64 A,.int .u64 a9,.int .u64 a,.int .u64 b,.int .u64 a12,.int .u64 c,.int .u64 d,.int .u64 i,.int .u64 l,.int .u64 m,.int .u64 n,.int .u64 o,.int .u64 a20,.int .u64 a21,.int .u64 a22,.int .u64 a23,.int .u64 a24,.int .u64 a25,.int .u64 a26,.int .u64 a27,.int .u64 a28,.int .u64 p,.int .u64 a30,.int .u64 a31] _ (λj v Y=>L.cell (u.out.cell (7+j) (by rw[Nat.add_comm 7 j];exact Y)) (λx=>x)) Tryz.underlying54 rfl z_;clear t R q E r c0;go_wp2_with fail;refine ar 15 (by kernel_rfl) (λ_ _ _ _ _ h=>h) ?_;simp only[aO]
 repeat((first
    |refine bc (by exact rfl) (bL rfl rfl H.out) ?_
    |refine ay (by rfl) (by as_aux_lemma=>intro W L;have Z:=L.cell S (λx=>x);have e1:=L.cell T (λx=>x);go_simp;exact rfl) ?_
    |refine ah (by rfl) ?_);simp only[Act.put,aH])
 intro W3 y;have N:=aa (F.out.kp y (λx=>x));have O:=aa (G.out.trans y);clear y u F G S T H;refine wS rfl 56 _ rfl (.agg #[.int .u64 now,.int .u64 tok,.int .i64 sp,.int .u64 C,.int .u64 a0,.int .u64 a1,.int .u64 a2,.int .u64 a3,.int .u64 a4,.int .u64 a5,.int .u64 a6,.int .u64 a7,.int .u64 A,.int .u64 a9,.int .u64 a,.int .u64 b,.int .u64 a12,.int .u64 c,.int .u64 d,.int .u64 i,.int .u64 l,.int .u64 m,.int .u64 n,.int .u64 o,.int .u64 a20,.int .u64 a21,.int .u64 a22,.int .u64 a23,.int .u64 a24,.int .u64 a25,.int .u64 a26,.int .u64 a27,.int .u64 a28,.int .u64 p,.int .u64 a30,.int .u64 a31]) (run_build _ _ _ _ (by kernel_rfl)) ?_;refine aW rfl 56 (.tmp 2) (.tmp 28) rfl N.out [.int .u64 now,.int .u64 tok,.int .i64 sp,.int .u64 C,.int .u64 a0,.int .u64 a1,.int .u64 a2,.int .u64 a3,.int .u64 a4,.int .u64 a5,.int .u64 a6,.int .u64 a7,.int .u64 A,.int .u64 a9,.int .u64 a,.int .u64 b,.int .u64 a12,.int .u64 c,.int .u64 d,.int .u64 i,.int .u64 l,.int .u64 m,.int .u64 n,.int .u64 o,.int .u64 a20,.int .u64 a21,.int .u64 a22,.int .u64 a23,.int .u64 a24,.int .u64 a25,.int .u64 a26,.int .u64 a27,.int .u64 a28,.int .u64 p,.int .u64 a30,.int .u64 a31] rfl rfl rfl pQ rfl ?_;intro W4 I J;have P:=aa I;have Q:=aa J;clear I J;go_wp2_with fail;refine dk (by exact rfl) P.out _ Tryz.underlying56 rfl pQ (by exact rfl) (V.out _ _ ⟨rfl,O.out.then Q.out (λz hz e=>by omega)⟩)
def fW(k:Int):Int:=if k<0\/5<k then 0 else k
def oy(k:Int)(w:World):Calls Tryz.prog 77 #[.int .i64 k] w λe w'=>e=.returned (.int .i64 (fW k))/\w=w':=by
 by_cases a:k<0
 ·have e:fW k=0:=by unfold fW;rw[Hl (.inl a)]
  rw[e];go_enter Tryz.func77,Tryz.ntmps77;go_wp2;go_ret;exact⟨rfl,rfl⟩
 ·by_cases b:5<k
  ·have e:fW k=0:=by unfold fW;rw[Hl (.inr b)]
   rw[e];go_enter Tryz.func77,Tryz.ntmps77;go_wp2;go_ret;exact⟨rfl,rfl⟩
  ·have e:fW k=k:=by unfold fW;rw[Hk (by omega)]
   rw[e];go_enter Tryz.func77,Tryz.ntmps77;go_wp2;go_ret;exact⟨rfl,rfl⟩
def EA{w:World}{f:gg}{s:Sh}(kind:Int)(fl id ln tk:Nat)(h:et w f s)(hm:bP s.g fl ln≠0)(hid:fl<4294967296)(u:id<4294967296)(O:ln<18446744073709551616):
    Calls Tryz.prog 78 #[.pointer (some ⟨f.sb,0,none⟩),.agg #[.int .i64 kind,.int .u32 fl,.int .u32 id,.int .u64 ln,.int .u64 tk]] w λe w'=>e=.returned (.agg (bQ s fl id ln).1.toArray)/\eQ w f (bQ s fl id ln).2 w':=by
 have y:=aa (wx h.ok h.gate.ok h.ranks.ok hid u O);obtain⟨c,hc,d⟩:∃c:Nat,bP s.g fl ln=c/\c<32:=⟨(bP s.g fl ln).toNat,wz s.g fl ln⟩
 have hq:bQ s fl id ln=(gZ 1 c fl id ln 0 gF,k_ s c):=by unfold bQ;rw[Hk hm,hc];rfl
 rw[hq]at y ⊢
 clear hq;have a2:=aa h.ok;have P:=h.ok.now;have Q:=aa h.back;have a0:=aa h.gate;have a3:=aa h.ranks;have a4:=aa h.top;have a5:=h.top.lt;have c0:=h.top.ai;have D:=aa h.sg;have R:=aa h.sr;have S:=aa h.sk;have T:=aa h.gr;have U:=aa h.gk;have aJ:=aa h.rk;have V:=aa (λb n=>h.gate.lt (b:=b) n);have aK:=aa (λb n=>h.ranks.lt (b:=b) n);have aL:=aa (λb n=>h.back.lt (b:=b) n);have X:=aa (λW (k:eh W f.Fg f.gb s.g)=>by have:=FU k fl ln hid;rw[hc,show iR s.g fl ln=s.g by unfold iR;rw[Hk hm]]at this;exact this);have a6:(c:Int)≠0:=λe=>hm (by rw[hc];exact e);have a:c<s.ref.length:=by rw[h.ok.len];exact d
 have E:s.ref.getD c 0<18446744073709551616:=by rw[Hx,Hn a];exact h.ok.ref _ (Ht a)
 have Y:(h8 s f)[7+c]? =some (.int .u64 (s.ref.getD c 0)):=Cg s f a;have Z:=aa (λW (k:ag W f.sb (h8 s f) 174)=>x7 k c (s.ref.getD c 0) d Y E);have aM:Hid ((h8 s f).set (7+c) (.int .u64 (cH (s.ref.getD c 0) 1))=h8 (k_ s c) f):=aa (z8 s f c);have ac:=aa h.top;refine al ?_;intro PP a7;clear h hm hid u O P d a E Y hc;obtain⟨sb,gb,rb,v,Fg,Fr,Fb⟩:=f;simp only at*;generalize a8:h8 s ⟨sb,gb,rb,v,Fg,Fr,Fb⟩=cs at*;have F:=ag.new (w.alloc (.cells #[.int .i64 kind,.int .u32 fl,.int .u32 id,.int .u64 ln,.int .u64 tk] 153)) G9 150;have e1:(w.alloc (.cells #[.int .i64 kind,.int .u32 fl,.int .u32 id,.int .u64 ln,.int .u64 tk] 153)).heap.size=w.heap.size+1:=by simp
 rw[e1]at F
 have ad:=aa F;have G:=ag.new ((w.alloc (.cells #[.int .i64 kind,.int .u32 fl,.int .u32 id,.int .u64 ln,.int .u64 tk] 153)).alloc (.cells G8 150)) [.int .u32 fl,.int .u32 id,.int .u64 ln] 148;have H:=ag.new (((w.alloc (.cells #[.int .i64 kind,.int .u32 fl,.int .u32 id,.int .u64 ln,.int .u64 tk] 153)).alloc (.cells G8 150)).alloc (.cells #[.int .u32 fl,.int .u32 id,.int .u64 ln] 148)) G9 150;have af:=((((Kp.refl ae w).alloc (.cells #[.int .i64 kind,.int .u32 fl,.int .u32 id,.int .u64 ln,.int .u64 tk] 153)).alloc (.cells G8 150)).alloc (.cells #[.int .u32 fl,.int .u32 id,.int .u64 ln] 148)).alloc (.cells G8 150);have e2:((w.alloc (.cells #[.int .i64 kind,.int .u32 fl,.int .u32 id,.int .u64 ln,.int .u64 tk] 153)).alloc (.cells G8 150)).heap.size=w.heap.size+2:=by simp
 have e3:(((w.alloc (.cells #[.int .i64 kind,.int .u32 fl,.int .u32 id,.int .u64 ln,.int .u64 tk] 153)).alloc (.cells G8 150)).alloc (.cells #[.int .u32 fl,.int .u32 id,.int .u64 ln] 148)).heap.size=w.heap.size+3:=by simp
 rw[e2]at G
 rw[e3]at H
 have ak:=aa G;have an:=aa H;have ao:=aa af;clear F G H af e1 e2 e3;go_enter Tryz.func78,Tryz.ntmps78
 go_wp2_with(first
    |(refine aW rfl 150 (.tmp 6) (.tmp 16) rfl an.out [.int .i64 1,.int .i64 0,.int .u32 fl,.int .u32 id,.int .u64 ln,.int .u64 0,.int .u64 0,.int .u64 0,.int .i64 0,.int .u64 0,.int .u64 0,.int .u64 0,.int .u64 0,.int .u64 0,.int .u64 0,.int .u64 0,.int .u64 0,.int .u64 0,.int .u64 0,.int .u64 0,.int .u64 0,.int .u64 0,.int .u64 0,.int .u64 0,.int .u64 0,.int .u64 0,.int .u64 0,.int .u64 0,.int .u64 0,.int .u64 0,.int .u64 0,.int .u64 0,.int .u64 0,.int .u64 0,.int .u64 0,.int .u64 0,.int .u64 0,.int .u64 0,.int .u64 0,.int .u64 0,.int .u64 0,.int .u64 0] rfl rfl rfl bj rfl ?_
      intro W4 au av;have aw:=aa au;have o:=aa av
      clear au av))
 have I:Kp ae w W4:=ao.out.then o.out (λb n e=>by omega);have q:=aa ((ak.out.alloc (.cells G8 150)).kp o.out (λe=>by omega));have aN:=aa (((ad.out.alloc (.cells #[.int .u32 fl,.int .u32 id,.int .u64 ln] 148)).alloc (.cells G8 150)).kp o.out (λe=>by omega));have ax:=aa I;have d0:=I.cell c0 (λx=>x);have p0:=q.out.ai;have p2:=q.out.aq;clear ad ak an ao o I;go_wp2_with fail;refine ar 8 (by kernel_rfl) (λ_ _ _ _ _ h=>h) ?_;simp only[aO]
 repeat((first
    |refine ay (by rfl) (by as_aux_lemma=>intro W hK;have e0:=hK.cell d0 (λx=>x);have e1:=hK.cell p0 (λx=>x);have e2:=hK.cell p2 (λx=>x);go_simp;exact rfl) ?_
    |refine ah (by rfl) ?_);simp only[Act.put,aH])
 intro W5 l;have J:=aa (ax.out.trans l);have aP:=aa (q.out.kp l (λx=>x));have az:=aa (aw.out.kp l (λx=>x));have aA:=aa (a0.out.old J.out);have aQ:=aa (aN.out.kp l (λx=>x));clear l d0 p0 p2 q aw ax;go_wp2_with fail;refine(X.out W5 aA.out).mono ?_;rintro e W6 ⟨rfl,aB,r⟩;have K:Kp Fg w W6:=(J.out.mono (λ_ _ x=>x.elim)).trans r;have aR:=aa K;have m:=V.out;have aS:=aa aB;have L:=aa (az.out.kp r (λn=>by have:=m _ n;omega));have aC:=aa (aQ.out.kp r (λn=>by have:=m _ n;omega));have aD:=aa (ac.out.kp K D.out);clear aB r K m X a0 az aP J aA;go_wp2_with fail;refine(Z.out W6 aD.out).mono ?_;rintro e W7 ⟨rfl,aE,t⟩;have hsz:=L.out.lt;have aT:=aa aE;have aU:=aa t;have M:=aa (L.out.kp t (λe=>by omega));have aV:=aa (aC.out.kp t (λe=>by omega));have b1:=M.out.aj;have bz:=M.out.fz 1;have aX:=aa (M.out.set 1 (.int .i64 c));have ks:Kp (λz=>z=w.heap.size+3) W7 (W7.setCell ⟨w.heap.size+3,1,none⟩ (.int .i64 c)):=(Kp.refl (λz=>z=w.heap.size+3) W7).set (p:=⟨w.heap.size+3,1,none⟩) (.inl rfl) _;have aY:=aa (aV.out.kp ks (λe=>by omega));have a1:=aa ks;clear aE t ks Z aD L aC
 go_wp2_with(first
    |(refine wpList_load_mid rfl 150 (.tmp 6) rfl (w.heap.size+3) 0 rfl ([.int .i64 1,.int .i64 0,.int .u32 fl,.int .u32 id,.int .u64 ln,.int .u64 0,.int .u64 0,.int .u64 0,.int .i64 0,.int .u64 0,.int .u64 0,.int .u64 0,.int .u64 0,.int .u64 0,.int .u64 0,.int .u64 0,.int .u64 0,.int .u64 0,.int .u64 0,.int .u64 0,.int .u64 0,.int .u64 0,.int .u64 0,.int .u64 0,.int .u64 0,.int .u64 0,.int .u64 0,.int .u64 0,.int .u64 0,.int .u64 0,.int .u64 0,.int .u64 0,.int .u64 0,.int .u64 0,.int .u64 0,.int .u64 0,.int .u64 0,.int .u64 0,.int .u64 0,.int .u64 0,.int .u64 0,.int .u64 0].set 1 (.int .i64 c)) _ (λj v hv=>by rw[HR];exact aX.out.cell j hv) Tryz.underlying150 rfl bj ?_)
    |(refine aW rfl 150 (.tmp 4) (.tmp 32) rfl aY.out ([.int .i64 1,.int .i64 0,.int .u32 fl,.int .u32 id,.int .u64 ln,.int .u64 0,.int .u64 0,.int .u64 0,.int .i64 0,.int .u64 0,.int .u64 0,.int .u64 0,.int .u64 0,.int .u64 0,.int .u64 0,.int .u64 0,.int .u64 0,.int .u64 0,.int .u64 0,.int .u64 0,.int .u64 0,.int .u64 0,.int .u64 0,.int .u64 0,.int .u64 0,.int .u64 0,.int .u64 0,.int .u64 0,.int .u64 0,.int .u64 0,.int .u64 0,.int .u64 0,.int .u64 0,.int .u64 0,.int .u64 0,.int .u64 0,.int .u64 0,.int .u64 0,.int .u64 0,.int .u64 0,.int .u64 0,.int .u64 0].set 1 (.int .i64 c)) rfl rfl rfl bj rfl ?_
      intro aZ A B;have aF:=aa A;have C:=aa B
      clear A B))
 have m:=V.out;have E:=aK.out;have a9:=aL.out;have aG:Kp (λz=>z=sb\/w.heap.size<=z) W6 aZ:=((aU.out.mono (λz _ h=>.inl h)).trans (a1.out.mono (λz _ h=>.inr (by omega)))).trans (C.out.mono (λz _ h=>.inr (by omega)));have N:=((aR.out.mono (λz _ h=>.inr h)):Kp (λz=>z=sb\/Fg z) w W6).then aG (λi hi h=>.inl (h.resolve_right (by omega)));have aI:=aT.out;rw[aM.out]at aI
 refine dk (by exact rfl) aF.out _ Tryz.underlying150 rfl bj (by exact rfl) (a7.out _ _ ⟨rfl,⟨sb,gb,rb,v,Fg,Fr,Fb⟩,?_,?_,Nw.refl _ _,rfl⟩)
 ·exact {top:=(aI.kp a1.out (λe=>by omega)).kp C.out (λe=>by omega)
         gate:=aS.out.kp aG (λz hz h=>by rcases h with h|h;(subst h;exact D.out hz);(have:=m z hz;omega))
         ranks:=a3.out.kp N (λz hz h=>by rcases h with h|h;(subst h;exact R.out hz);exact T.out z h hz)
         back:=Q.out.kp N (λz hz h=>by rcases h with h|h;(subst h;exact S.out hz);exact U.out z h hz)
         sg:=D.out
         sr:=R.out
         sk:=S.out
         gr:=T.out
         gk:=U.out
         rk:=aJ.out
         ok:=y.out}
 ·exact N.mono (λz _ h=>by rcases h with h|h;exact .inl h;exact .inr (.inl h))
end
end Go.Proofs.YtincjochpkdnfaaGreatDoor
