/- What Take of package pool does, at packets (for the calendar). -/
import Derived.Test.YtincjochpkdnfaaGreatDoorV11
import Derived.Test.YtincjochpkdnfaaGreatDoorV14
import Derived.Test.YtincjochpkdnfaaGreatDoorV15
set_option linter.all false
set_option maxHeartbeats 4000000
set_option maxRecDepth 100000
namespace Go.Proofs.YtincjochpkdnfaaGreatDoor
namespace cq
open Go Go.RowKit Go.Shelf
def xV:PC Pk:=⟨s_,0,false,false⟩
def F4:Value:=.agg Hg
def GY:gL Tryz.prog 308 371 F4 6 24:=⟨Tryz.underlying308,by kernel_rfl,rfl,by decide⟩
def r7(c:PC Pk):(Tryz.prog.info? 371).map (·.size)=some (cx c).length:=by rw[hI];kernel_rfl
def bH.grow{w Z w1:World}{p f g cap m:Nat}{vc:Value}{S:PS Pk}(h:bH w p f vc S)(hz:Kp ae w Z)(c:PC Pk)(hm:S.cs.length=m)
    (a:w1.ownsRow 0 371 6 (.slice (some ⟨g,0,none⟩) (m+1) cap) (m+1) (S.cs.flatMap cx++cx c)) (i:Z.grownBy w1 vc.ownBlock):
    bH (w1.setCell ⟨p,0,none⟩ (.slice (some ⟨g,0,none⟩) (m+1) cap)) p f (.slice (some ⟨g,0,none⟩) (m+1) cap) {S with cs:=S.cs++[c]}:=by
 subst hm;obtain⟨n1,n2,n3⟩:=h.ne;have ht:=(h.top.kp hz (λx=>x)).grown i (λe=>n2 e.symm);have j:=(h.aD.kp hz (λx=>x)).grown i (λe=>n3 e.symm);have d:=aA a ht (by decide);refine⟨ht.set 0 _,?_,j.bJ n1.symm _⟩;have e:(S.cs++[c]).flatMap cx=S.cs.flatMap cx++cx c:=by simp
 simp only[HK,Hs,Jj,HR];rw[e];exact cG a (λb k e=>d (by rw[k,e])) _
def Eb(w:World)(p I:Nat)(vc:Value)(S:PS Pk)(R:RP Pk)(x:Pk)(h:bH w p I vc S)(P:Rel S R)(hn:(R.items.length:Int)<S.aT):
    Calls Tryz.prog 219 #[.pointer (some ⟨p,0,none⟩),.agg (ix x).toArray] w λe w'=>e=.returned (.tuple #[.int .i64 (S.take x).2.1,.bool true])/\r5 w w' p I vc (S.take x).1:=by
 have c0:=h.top.ai;have Q:=h.top.aq;have G:=h.top.aK;have H:=h.top.a_;have hl:=P.len;have aX:=P.iu;have bb:S.n<S.aT:=by rw[P.n];exact hn
 have bc:0<=S.n:=by rw[P.n];omega
 have be:(S.n≥S.aT)=False:=by simp;omega
 have bf:=h.top.lt;unfold PS.take;rw[Hk (by omega)];have J:=aa (ag.new w (ix x) 148);have K:Hid (Kp ae w (w.alloc (.cells (ix x).toArray 148))):=(Kp.refl _ _).alloc _;refine al ?_;intro PP ax;by_cases T:S.free= -1
 ·rw[Hl T]at ax
  obtain⟨U,cap,rfl⟩:=aN h.cells;have az:=aa h;rw[T]at G
  have bg:=aa T;clear h T P;generalize hN:S.cs.length=N at*;have ac:=aa hN;clear hN;obtain⟨fl,id,ln⟩:=x;show Calls Tryz.prog _ #[.pointer (some ⟨p,0,none⟩),.agg #[.int .u32 (fl:Int),.int .u32 (id:Int),.int .u64 (ln:Int)]] w _;go_enter Tryz.func219,Tryz.ntmps219;go_upto_region 1 with fail;have c:Hid (Kp ae w (w.alloc (.cells #[.int .u32 (fl:Int),.int .u32 (id:Int),.int .u64 (ln:Int)] 148))):=K.out;have o:Hid (ag (w.alloc (.cells #[.int .u32 (fl:Int),.int .u32 (id:Int),.int .u64 (ln:Int)] 148)) w.heap.size [.int .u32 (fl:Int),.int .u32 (id:Int),.int .u64 (ln:Int)] 148):=J.out;clear K J;generalize w.alloc (.cells #[.int .u32 (fl:Int),.int .u32 (id:Int),.int .u64 (ln:Int)] 148)=w0 at*;have B:=aa (az.out.old c.out);have c0:=c.out.cell c0 (λx=>x);have Q:=c.out.cell Q (λx=>x);have G:=c.out.cell G (λx=>x);have H:=c.out.cell H (λx=>x);refine ar 12 (by kernel_rfl) (λ_ _ _ _ _ h=>h) ?_;simp only[aO]
  repeat((first
   |refine ay (by rfl) (by as_aux_lemma=>intro W r;have e2:=r.cell Q (λx=>x);have e4:=r.cell H (λx=>x);go_simp;exact rfl) ?_
   |refine ah (by rfl) ?_);simp only[Act.put,aH])
  intro W1 d;have d0:=d.cell c0 (λx=>x);have d3:=d.cell G (λx=>x);have d4:=d.cell H (λx=>x);have f:=aa (B.out.old d);have q:=aa (o.out.kp d (λx=>x));have y:=aa (c.out.trans d);have aB:=q.out.lt;have hsz:=y.out.size;have N1:Hid (some p≠(Value.slice U N cap).ownBlock):=λe=>aA f.out.cells f.out.top (by decide) e.symm;have N2:Hid (some w.heap.size≠(Value.slice U N cap).ownBlock):=λe=>aA f.out.cells q.out (by decide) e.symm;have aC:Hid (W1.ownsRow 0 371 6 (.slice U N cap) N (S.cs.flatMap cx)):=by have:=f.out.cells;rw[ac.out]at this;exact this
  clear d c0 Q G H B o c az;go_wp2_with(at_builtin;refine fk GY (.tmp 36) (.tmp 38) rfl rfl 0 (v:=.slice U N cap) (aC.out.alloc _) (cx xV) rfl rfl rfl (fr:=(0,0)) (cz _ _) rfl (by omega) (by omega) (by simp) ?_;intro g u w3 V l aD;have ad:=(f.out.top.alloc (.cells Hg 371)).grown l N1.out;have af:=ad.fz 0;have aY:=ad.ai);have aE:ag w3 w.heap.size [.int .u32 (fl:Int),.int .u32 (id:Int),.int .u64 (ln:Int)] 148:=(q.out.alloc (.cells Hg 371)).grown l N2.out;have aF:(Value.slice U N cap).ownBlock=some g\/w.heap.size<=g:=aD.imp_right (λe=>by rw[e];simp;omega);have aG:Kp (PF p I (.slice U N cap)) w w3:=((y.out.mono (λ_ _ x=>x.elim)).alloc _).grown l (λk e=>.inl (.inr (.inr e)));have aI:=f.out.grow (Z:=W1.alloc (.cells Hg 371)) ((Kp.refl ae W1).alloc _) xV ac.out V l;have aJ:=aE.bJ (a:=⟨p,0,none⟩) (by show w.heap.size≠p;omega) (.slice (some ⟨g,0,none⟩) (N+1) u);have aL:=aG.set (p:=⟨p,0,none⟩) (.inl (.inl rfl)) (.slice (some ⟨g,0,none⟩) (N+1) u);have ak:=aa aI;have L:=aa aJ;have aM:=aa aL;have a9:=aa aF;clear aI aJ aL aE aF aG V l aD ad af aY d0 d3 d4 f q y aC N1 N2;generalize w3.setCell ⟨p,0,none⟩ (.slice (some ⟨g,0,none⟩) (N+1) u)=w4 at*;have f0:=ak.out.top.ai;have x0:=L.out.ai;have x1:=L.out.aj;have x2:=L.out.aq;refine ar 8 (by kernel_rfl) (λ_ _ _ _ _ h=>h) ?_;simp only[aO]
  repeat((first
   |refine ic (by exact rfl) 371 _ rfl (.agg #[.int .u32 (fl:Int),.int .u32 (id:Int),.int .u64 (ln:Int),.int .i32 (-1),.bool true,.bool false]) (λ_=>by kernel_rfl) ?_
   |refine ay (by rfl) (by as_aux_lemma=>intro W r;have e0:=r.cell f0 (λx=>x);have e1:=r.cell x0 (λx=>x);have e2:=r.cell x1 (λx=>x);have e3:=r.cell x2 (λx=>x);have e5:((N:Int)<(N:Int)+1)=True:=(by simp;try omega);go_simp;exact rfl) ?_
   |refine ah (by rfl) ?_);simp only[Act.put,aH])
  intro W5 s;have t:=aa (ak.out.old s);have C:=aa (aM.out.trans (s.mono (λ_ _ x=>x.elim)));have hlen:N+1=(S.cs++[xV]).length:=by rw[HK,ac.out];rfl
  have X:=aa hlen;clear s hlen f0 x0 x1 x2 ak L aM;have D:W5.ownsRow 0 371 6 (.slice (some ⟨g,0,none⟩) (N+1) u) (N+1) ((S.cs++[xV]).flatMap cx):=by
   have:=t.out.cells;rw[<-X.out]at this;exact this
  refine bS rfl 371 (.tmp 60) (.tmp 59) rfl cx 6 hI (S.cs++[xV]) D N (by rw[<-X.out];omega) ⟨⟨fl,id,ln⟩,-1,true,false⟩ rfl rfl rfl (r7 _) rfl ?_;intro W6 ho hk;have m:=t.out.zA N _ ho hk;have Y:(S.cs++[xV]).set N (⟨⟨fl,id,ln⟩,-1,true,false⟩:PC Pk)=S.cs++[⟨⟨fl,id,ln⟩,-1,true,false⟩]:=by rw[<-ac.out];simp
  simp only[Y]at m
  have E:Kp (PF p I (.slice U N cap)) w W6:=C.out.then hk (λi hi e=>by
   subst e;rcases a9.out with h|h
   ·exact .inr (.inr h)
   ·omega)
  have an:=aa m;have au:=aa E;have g4:=m.top.a_;have aZ:=m.top.fz 4;have z:PF p I (.slice U N cap) p:=.inl rfl;have av:=aa z;clear m E ho hk Y D t C z;go_wp2_with fail;refine ax.out _ _ ⟨rfl,_,an.out.qC (S.n+1),au.out.set (.inl av.out) _,λb A=> ?_⟩;rcases A with rfl|rfl|A
  ·exact .inl (.inl rfl)
  ·exact .inl (.inr (.inl rfl))
  ·have A:some g=some b:=A;injection A with A;subst A;exact a9.out.imp_left (λh=>.inr (.inr h))
 ·rw[Hk T]at ax
  have F:=P.oV;have a0:0<=S.free/\S.free<S.cs.length:=by
   cases A:R.back.getLast? with
   |none=>rw[A]at F;exact absurd F T
   |some b=>
    rw[A]at F
    have:=P.fJ b (List.mem_of_getLast? A);have e:S.free=b:=F;rw[e];exact⟨this.1,this.2.1⟩
  obtain⟨i,hi⟩:∃i:Nat,S.free=i:=⟨S.free.toNat,by omega⟩
  have aP:i<S.cs.length:=by omega
  have a1:(S.free== -1)=false:=by simpa using T
  rw[hi]at a1 G
  obtain⟨g,cap,rfl,a2,a3,a4,M,a5,a6⟩:=h.cell i S.cs[i] (by simp[aP]);have az:=aa h;have aQ:nx S.cs S.free.toNat=S.cs[i].next:=by unfold nx;rw[hi];simp[aP]
  rw[aQ,hi]at ax
  have bh:=aa hi;have ba:p≠g:=λe=>h.ne.2.1 (by rw[e];rfl);clear h P T a0 aQ hi a2 a3 a4 a5 a6 F;generalize S.cs[i].next=fn at*;generalize hN:S.cs.length=N at*;have ac:=aa hN;clear hN;obtain⟨fl,id,ln⟩:=x;show Calls Tryz.prog _ #[.pointer (some ⟨p,0,none⟩),.agg #[.int .u32 (fl:Int),.int .u32 (id:Int),.int .u64 (ln:Int)]] w _;go_enter Tryz.func219,Tryz.ntmps219;go_upto_region 1 with fail;have c:Hid (Kp ae w (w.alloc (.cells #[.int .u32 (fl:Int),.int .u32 (id:Int),.int .u64 (ln:Int)] 148))):=K.out;have o:Hid (ag (w.alloc (.cells #[.int .u32 (fl:Int),.int .u32 (id:Int),.int .u64 (ln:Int)] 148)) w.heap.size [.int .u32 (fl:Int),.int .u32 (id:Int),.int .u64 (ln:Int)] 148):=J.out;clear K J;generalize w.alloc (.cells #[.int .u32 (fl:Int),.int .u32 (id:Int),.int .u64 (ln:Int)] 148)=w0 at*;have B:=aa (az.out.old c.out);have c0:=c.out.cell c0 (λx=>x);have Q:=c.out.cell Q (λx=>x);have G:=c.out.cell G (λx=>x);have H:=c.out.cell H (λx=>x);have M:=c.out.cell M (λx=>x);refine ar 12 (by kernel_rfl) (λ_ _ _ _ _ h=>h) ?_;simp only[aO]
  repeat((first
   |refine ay (by rfl) (by as_aux_lemma=>intro W r;have e2:=r.cell Q (λx=>x);have e4:=r.cell H (λx=>x);go_simp;exact rfl) ?_
   |refine ah (by rfl) ?_);simp only[Act.put,aH])
  intro W1 d;have d0:=d.cell c0 (λx=>x);have d3:=d.cell G (λx=>x);have d4:=d.cell H (λx=>x);have de:=d.cell M (λx=>x);have f:=aa (B.out.old d);have q:=aa (o.out.kp d (λx=>x));have y:=aa (c.out.trans d);have aB:=q.out.lt;have af:=f.out.top.fz 3;clear d c0 Q G H M B o c az;go_wp2_with fail;have a7:w.heap.size≠p:=by omega
  have aR:=f.out.tC fn;have aS:=q.out.bJ (a:=⟨p,3,none⟩) a7 (.int .i32 fn);have z:PF p I (.slice (some ⟨g,0,none⟩) N cap) p:=.inl rfl;have aU:PF p I (.slice (some ⟨g,0,none⟩) N cap) g:=.inr (.inr rfl);have aV:Kp (PF p I (.slice (some ⟨g,0,none⟩) N cap)) w (W1.setCell ⟨p,3,none⟩ (.int .i32 fn)):=(y.out.mono (λ_ _ x=>x.elim)).set (.inl z) _;have aw:=aa aR;have O:=aa aS;have aW:=aa aV;have av:=aa z;have a8:=aa aU;clear aR aS aV z aU f q y d0 d3 d4 de af;generalize W1.setCell ⟨p,3,none⟩ (.int .i32 fn)=w4 at*;have f0:=aw.out.top.ai;have x0:=O.out.ai;have x1:=O.out.aj;have x2:=O.out.aq;refine ar 8 (by kernel_rfl) (λ_ _ _ _ _ h=>h) ?_;simp only[aO]
  repeat((first
   |refine ic (by exact rfl) 371 _ rfl (.agg #[.int .u32 (fl:Int),.int .u32 (id:Int),.int .u64 (ln:Int),.int .i32 (-1),.bool true,.bool false]) (λ_=>by kernel_rfl) ?_
   |refine ay (by rfl) (by as_aux_lemma=>intro W r;have e0:=r.cell f0 (λx=>x);have e1:=r.cell x0 (λx=>x);have e2:=r.cell x1 (λx=>x);have e3:=r.cell x2 (λx=>x);have e5:((i:Int)<(N:Int))=True:=(by simp;omega);go_simp;exact rfl) ?_
   |refine ah (by rfl) ?_);simp only[Act.put,aH])
  intro W5 s;have t:=aa (aw.out.old s);have C:=aa (aW.out.trans (s.mono (λ_ _ x=>x.elim)));clear s f0 x0 x1 x2 aw O aW;have D:W5.ownsRow 0 371 6 (.slice (some ⟨g,0,none⟩) N cap) N (S.cs.flatMap cx):=by
   have:=t.out.cells;simp only[ac.out]at this;exact this
  refine bS rfl 371 (.tmp 60) (.tmp 59) rfl cx 6 hI S.cs D i (by rw[ac.out];omega) ⟨⟨fl,id,ln⟩,-1,true,false⟩ rfl rfl rfl (r7 _) rfl ?_;intro W6 ho hk;have m:=t.out.zA i _ ho hk;have E:Kp (PF p I (.slice (some ⟨g,0,none⟩) N cap)) w W6:=C.out.trans (hk.mono (λj hj e=>by subst e;exact a8.out));have an:=aa m;have au:=aa E;have g4:=m.top.a_;have aZ:=m.top.fz 4;clear m E ho hk D t C;go_wp2_with fail;exact ax.out _ _ ⟨rfl,_,an.out.qC (S.n+1),au.out.set (.inl av.out) _,λb A=>.inl A⟩
attribute [local go_sem] Oper.semAt_some
def zG(w:World)(p b:Nat)(vc:Value)(S:PS Pk)(R:RP Pk)(h:bH w p b vc S)(I:Rel S R)(j i:Nat)(J:j<S.qs.length)(K:S.qs.length<=262144)(hS:(S.append j i).2=0):
    Calls Tryz.prog 220 #[.pointer (some ⟨p,0,none⟩),.int .i64 j,.int .i64 i] w λe w'=>e=.returned (.int .i64 0)/\r5 w w' p b vc (S.append j i).1:=by
 have c0:=h.top.ai;have c1:=h.top.aj;have Q:=I.len;have N:=aa (C5 w p b vc S h j J K);obtain⟨hd,v,x⟩:∃hd v,S.qs[j]? =some (hd,v):=⟨_,_,(HD.2 ⟨J,rfl⟩)⟩
 obtain⟨c,s,k⟩:∃c,tk S i=some c/\c.queued=false:=by
  unfold PS.append at hS;rw[Hk (by omega)]at hS
  cases s:tk S i with
  |none=>rw[s]at hS;cases hS
  |some c=>
   refine⟨c,rfl,?_⟩;rw[s]at hS
   simp only at hS;cases y:c.queued with
   |false=>rfl
   |true=>rw[y]at hS;simp at hS
 have O:=aa (r6 w p b vc S h i (by rw[s];rfl) Q);obtain⟨_,k1,y,_⟩:=di s;simp only[HZ]at y;have hi:i<S.cs.length:=by omega
 obtain⟨g,cap,rfl,_,_,_,T,_,L⟩:=h.cell i c y;obtain⟨e0,e1⟩:=h.end j hd v x;obtain⟨n1,n2,n3⟩:=h.ne;have U:p≠g:=λe=>n2 (by rw[e];rfl);have V:b≠g:=λe=>n3 (by rw[e];rfl);have fg:=λj=>gH h.cells j;have fq:=λj=>h.aD.fz j;have M:=aa h;rw[k]at L
 have q:PF p b (.slice (some ⟨g,0,none⟩) S.cs.length cap) g:=.inr (.inr rfl);have r:PF p b (.slice (some ⟨g,0,none⟩) S.cs.length cap) b:=.inr (.inl rfl);have a:=((M.out.lH i c {c with next:= -1} 3 (.int .i32 (-1)) (by omega) y rfl).lH i {c with next:= -1} {c with next:= -1,queued:=true} 5 (.bool true) (by omega) (by simp[hi]) rfl)
 have f:=(((Kp.refl (PF p b (.slice (some ⟨g,0,none⟩) S.cs.length cap)) w).set (p:=⟨g,i*6+3,none⟩) (.inl q) (.int .i32 (-1))).set (p:=⟨g,i*6+5,none⟩) (.inl q) (.bool true))
 simp only[J5]at a;have u:ek S.cs i (-1) true=S.cs.set i {c with next:= -1,queued:=true}:=by unfold ek;rw[y]
 have C:Hid (Nw w (PF p b (.slice (some ⟨g,0,none⟩) S.cs.length cap)) (PF p b (.slice (some ⟨g,0,none⟩) S.cs.length cap))):=Nw.refl _ _;by_cases D:hd= -1
 ·subst D;have hS:S.append j i=({S with cs:=ek S.cs i (-1) true,qs:=S.qs.set j (i,i)},0):=by
   unfold PS.append;rw[Hk (by omega),s];simp[k,x]
  rw[hS,u];have l:=((a.pn j (-1,v) ((i:Int),v) 0 (.int .i32 i) (by omega) x rfl).pn j ((i:Int),v) ((i:Int),(i:Int)) 1 (.int .i32 i) (by omega) (by simp[J]) rfl)
  have o:=((f.set (p:=⟨b,j*2+0,none⟩) (.inl r) (.int .i32 i)).set (p:=⟨b,j*2+1,none⟩) (.inl r) (.int .i32 i))
  simp only[J5,Ig]at l o;have z:=aa l;have A:=aa o;clear h I hS s k l o a f u q r x y n1 n2 n3 M;generalize S.qs.length=n at*;generalize S.cs.length=m at*;go_enter Tryz.func220,Tryz.ntmps220;go_wp2_with(first|(go_at_call 216;refine(N.out).mono ?_;rintro e w' ⟨rfl,rfl⟩)|(go_at_call 217;refine(O.out).mono ?_;rintro e w' ⟨rfl,rfl⟩));go_region;go_wp2;go_ret;exact⟨rfl,_,z.out.drew,A.out.drew,C.out⟩
 ·have W:(hd== -1)=false:=by simpa using D
  rcases I.ends x with⟨e,_⟩|⟨_,d,_,_,ht,B⟩
  ·exact absurd e D
  obtain⟨t0,t1,E,_⟩:=di ht;obtain⟨t,rfl⟩:∃t:Nat,v=t:=⟨v.toNat,by omega⟩
  have F:t≠i:=λe=>by subst e;rw[s]at ht;cases ht;rw[k]at B;cases B
  have X:t<S.cs.length:=by omega
  simp only[HZ]at E;obtain⟨Y,G,P,_,_,_,Z,_,_⟩:=h.cell t d E;obtain⟨rfl,rfl⟩:g=Y/\cap=G:=by cases P;exact⟨rfl,rfl⟩
  clear P;have H:gy (ek S.cs i (-1) true) t i=(S.cs.set i {c with next:= -1,queued:=true}).set t {d with next:=i}:=by
   rw[u];unfold gy;rw[HL (λe=>F e.symm),E]
  have hS:S.append j i=({S with cs:=gy (ek S.cs i (-1) true) t i,qs:=S.qs.set j (hd,i)},0):=by
   unfold PS.append;rw[Hk (by omega),s];simp[k,x,D]
  rw[hS,H];have l:=((a.lH t d {d with next:=i} 3 (.int .i32 i) (by omega) (by simp only;rw[HL (λe=>F e.symm)];exact E) rfl).pn j (hd,(t:Int)) (hd,(i:Int)) 1 (.int .i32 i) (by omega) x rfl)
  have o:=((f.set (p:=⟨g,t*6+3,none⟩) (.inl q) (.int .i32 i)).set (p:=⟨b,j*2+1,none⟩) (.inl r) (.int .i32 i))
  have z:=aa l;have A:=aa o;clear h I hS s k l o a f u H q r x y n1 n2 n3 M ht B E D;generalize S.qs.length=n at*;generalize S.cs.length=m at*;go_enter Tryz.func220,Tryz.ntmps220;go_wp2_with(first|(go_at_call 216;refine(N.out).mono ?_;rintro e w' ⟨rfl,rfl⟩)|(go_at_call 217;refine(O.out).mono ?_;rintro e w' ⟨rfl,rfl⟩));go_region;go_wp2;go_region;go_wp2;go_ret;exact⟨rfl,_,z.out.drew.drew,A.out.drew.drew,C.out⟩
end cq
namespace cq
open Go Go.RowKit Go.Shelf
def tD(l:List (Nat->Prop)):Prop:=l.Pairwise (λF G=>∀b,F b->¬G b)
def tD.ne{l:List (Nat->Prop)}(h:tD l){i j:Nat}{F G:Nat->Prop}(hi:l[i]? =some F)(f:l[j]? =some G)(e:i≠j):∀b,F b->¬G b:=by
 obtain⟨c,rfl⟩:=HD.1 hi;obtain⟨d,rfl⟩:=HD.1 f;rcases Nat.lt_or_gt_of_ne e with a|a
 ·exact IM.1 h i j c d a
 ·exact λb hf g=>IM.1 h j i d c a b g hf
def tD.set{l:List (Nat->Prop)}{w:World}{i:Nat}{F G:Nat->Prop}(h:tD l)(hi:l[i]? =some F)(j:Nw w F G)(d:∀H∈l,∀b,H b->b<w.heap.size):tD (l.set i G):=by
 unfold tD;rw[IM];intro a b ha g k z hz c;rw[Hr]at ha g
 rw[List.getElem_set]at hz c
 split at hz
 ·rename_i e;rw[Hk (by omega)]at c
  rcases j z hz with f|f
  ·exact h.ne hi (Hn g) (by omega) z f c
  ·have:=d _ (Ht g) z c;omega
 ·rename_i e;split at c
  ·rename_i m;rcases j z c with f|f
   ·exact h.ne (Hn ha) hi (by omega) z hz f
   ·have:=d _ (Ht ha) z hz;omega
  ·exact h.ne (Hn ha) (Hn g) (by omega) z hz c
structure c8 where
 sp:Nat
 sl:Nat
 k:Nat
 sB:Nat->Nat
 pp:Nat
 pq:Nat
 vc:Value
 bb:Nat
 ab:Nat
 FB:Nat->Prop
 FA:Nat->Prop
def c8.parts(f:c8)(cb:Nat):List (Nat->Prop):=[λb=>b=cb,Fp f.sp f.sl f.sB f.k,PF f.pp f.pq f.vc,f.FB,f.FA]
def c8.all(f:c8)(cb:Nat):Nat->Prop:=λb=>∃F∈f.parts cb,F b
def bg(k:Nat):Nat:=64^k
def mv{k:Nat}(h:1<=k/\k<=3):64<=bg k/\bg k<=262144:=by
 have:k=1\/k=2\/k=3:=by omega
 rcases this with rfl|rfl|rfl<;>decide
structure cD (w:World) (cb:Nat) (f:c8) (room nb na base:Nat) (B A:List (En Pk)) (P:PS Pk) (m:List Int):Prop where
 top:ag w cb [.pointer (some ⟨f.sp,0,none⟩),.pointer (some ⟨f.pp,0,none⟩),.int .u64 base,.pointer (some ⟨f.bb,0,none⟩),.pointer (some ⟨f.ab,0,none⟩),.int .i64 room] 271
 set:SR w f.sp f.k f.sl f.sB m
 h1:bH w f.pp f.pq f.vc P
 low:Hp w f.FB f.bb room nb B
 aJ:Hp w f.FA f.ab room na A
 k3:1<=f.k/\f.k<=3
 fh:tD (f.parts cb)
section
variable {w w':World} {cb:Nat} {f:c8} {room nb na base:Nat} {B A:List (En Pk)} {P:PS Pk} {m:List Int}
def cD.lt(h:cD w cb f room nb na base B A P m):∀F∈f.parts cb,∀b,F b->b<w.heap.size:=by
 intro F hF b a;simp only[c8.parts,Ho,H5,Ia]at hF;rcases hF with rfl|rfl|rfl|rfl|rfl
 ·have a:b=cb:=a;rw[a];exact h.top.lt
 ·exact h.set.lt a
 ·exact h.h1.lt a
 ·exact h.low.lt a
 ·exact h.aJ.lt a
def cD.xW(h:cD w cb f room nb na base B A P m){b:Nat}(a:f.all cb b):b<w.heap.size:=by
 obtain⟨F,hF,a⟩:=a;exact h.lt F hF b a
def cD.kp{T:Nat->Prop}(h:cD w cb f room nb na base B A P m)(k:Kp T w w')(c:∀b,f.all cb b->¬T b):cD w' cb f room nb na base B A P m:=
 ⟨h.top.kp k (c _ ⟨λb=>b=cb,by simp[c8.parts],rfl⟩),h.set.kp k (λb a=>c b ⟨_,by simp[c8.parts],a⟩),h.h1.kp k (λb a=>c b ⟨PF f.pp f.pq f.vc,by simp[c8.parts],a⟩),h.low.kp k (λb a=>c b ⟨f.FB,by simp[c8.parts],a⟩),h.aJ.kp k (λb a=>c b ⟨f.FA,by simp[c8.parts],a⟩),h.k3,h.fh⟩
def cD.old(h:cD w cb f room nb na base B A P m)(k:Kp ae w w'):cD w' cb f room nb na base B A P m:=h.kp k (λ_ _ x=>x)
structure cK (w:World) (cb:Nat) (f:c8) (w':World) (f':c8):Prop where
 kp:Kp (f.all cb) w w'
 nw:Nw w (f.all cb) (f'.all cb)
def cK.refl(w:World)(cb:Nat)(f:c8):cK w cb f w f:=⟨Kp.refl _ _,Nw.refl _ _⟩
def cK.old(k:Kp ae w w'):cK w cb f w' f:=⟨k.mono (λ_ _ x=>x.elim),Nw.refl _ _⟩
def cK.trans{a:World}{b f2:c8}(h:cK w cb f w' b)(g:cK w' cb b a f2):cK w cb f a f2:=⟨h.kp.steps h.nw g.kp,h.nw.trans g.nw h.kp.size⟩
def cD.part(h:cD w cb f room nb na base B A P m){i:Nat}{F:Nat->Prop}(hi:(f.parts cb)[i]? =some F)(k:Kp F w w'):Kp (f.all cb) w w':=k.mono (λb _ a=>⟨F,IV hi,a⟩)
def mZ{d:c8}{i:Nat}{F G:Nat->Prop}(hi:(f.parts cb)[i]? =some F)(he:d.parts cb=(f.parts cb).set i G)(h:Nw w F G):Nw w (f.all cb) (d.all cb):=by
 rintro b ⟨H,e,g⟩;rw[he]at e
 rcases Il e with a|a
 ·exact .inl ⟨H,a,g⟩
 ·subst a;rcases h b g with c|c
  ·exact .inl ⟨F,IV hi,c⟩
  ·exact .inr c
def cD.mw(h:cD w cb f room nb na base B A P m){a:Value}{P':PS Pk}(hp:bH w' f.pp f.pq a P')(k:Kp (PF f.pp f.pq f.vc) w w')(b:Nw w (PF f.pp f.pq f.vc) (PF f.pp f.pq a)):
    cD w' cb {f with vc:=a} room nb na base B A P' m/\cK w cb f w' {f with vc:=a}:=by
 have hi:(f.parts cb)[2]? =some (PF f.pp f.pq f.vc):=rfl;have he:({f with vc:=a}:c8).parts cb=(f.parts cb).set 2 (PF f.pp f.pq a):=rfl;refine⟨⟨h.top.kp k (h.fh.ne (i:=0) rfl hi (by decide) cb rfl),h.set.kp k (h.fh.ne (i:=1) rfl hi (by decide)),hp,h.low.kp k (h.fh.ne (i:=3) rfl hi (by decide)),h.aJ.kp k (h.fh.ne (i:=4) rfl hi (by decide)),h.k3,?_⟩,h.part hi k,mZ hi he b⟩;rw[he];exact h.fh.set hi b h.lt
def cD.wj(h:cD w cb f room nb na base B A P m){m':List Int}(hp:SR w' f.sp f.k f.sl f.sB m')(k:Kp (Fp f.sp f.sl f.sB f.k) w w'):cD w' cb f room nb na base B A P m'/\cK w cb f w' f:=by
 have hi:(f.parts cb)[1]? =some (Fp f.sp f.sl f.sB f.k):=rfl;exact⟨⟨h.top.kp k (h.fh.ne (i:=0) rfl hi (by decide) cb rfl),hp,h.h1.kp k (h.fh.ne (i:=2) rfl hi (by decide)),h.low.kp k (h.fh.ne (i:=3) rfl hi (by decide)),h.aJ.kp k (h.fh.ne (i:=4) rfl hi (by decide)),h.k3,h.fh⟩,h.part hi k,Nw.refl _ _⟩
def cD.wk(h:cD w cb f room nb na base B A P m){a:Nat->Prop}{c:List (En Pk)}{b:Nat}(hp:Hp w' a f.bb room b c)(k:Kp f.FB w w')(d:Nw w f.FB a):
    cD w' cb {f with FB:=a} room b na base c A P m/\cK w cb f w' {f with FB:=a}:=by
 have hi:(f.parts cb)[3]? =some f.FB:=rfl;have he:({f with FB:=a}:c8).parts cb=(f.parts cb).set 3 a:=rfl;refine⟨⟨h.top.kp k (h.fh.ne (i:=0) rfl hi (by decide) cb rfl),h.set.kp k (h.fh.ne (i:=1) rfl hi (by decide)),h.h1.kp k (h.fh.ne (i:=2) rfl hi (by decide)),hp,h.aJ.kp k (h.fh.ne (i:=4) rfl hi (by decide)),h.k3,?_⟩,h.part hi k,mZ hi he d⟩;rw[he];exact h.fh.set hi d h.lt
def cD.wm(h:cD w cb f room nb na base B A P m){a:Nat->Prop}{c:List (En Pk)}{b:Nat}(hp:Hp w' a f.ab room b c)(k:Kp f.FA w w')(d:Nw w f.FA a):
    cD w' cb {f with FA:=a} room nb b base B c P m/\cK w cb f w' {f with FA:=a}:=by
 have hi:(f.parts cb)[4]? =some f.FA:=rfl;have he:({f with FA:=a}:c8).parts cb=(f.parts cb).set 4 a:=rfl;refine⟨⟨h.top.kp k (h.fh.ne (i:=0) rfl hi (by decide) cb rfl),h.set.kp k (h.fh.ne (i:=1) rfl hi (by decide)),h.h1.kp k (h.fh.ne (i:=2) rfl hi (by decide)),h.low.kp k (h.fh.ne (i:=3) rfl hi (by decide)),hp,h.k3,?_⟩,h.part hi k,mZ hi he d⟩;rw[he];exact h.fh.set hi d h.lt
def cD.tE(h:cD w cb f room nb na base B A P m)(r:Nat):cD (w.setCell ⟨cb,2,none⟩ (.int .u64 r)) cb f room nb na r B A P m/\cK w cb f (w.setCell ⟨cb,2,none⟩ (.int .u64 r)) f:=by
 have hi:(f.parts cb)[0]? =some (λb=>b=cb):=rfl;have k:Kp (λb=>b=cb) w (w.setCell ⟨cb,2,none⟩ (.int .u64 r)):=(Kp.refl (λb=>b=cb) w).set (p:=⟨cb,2,none⟩) (.inl rfl) _;exact⟨⟨h.top.set 2 _,h.set.kp k (h.fh.ne (i:=1) rfl hi (by decide)),h.h1.kp k (h.fh.ne (i:=2) rfl hi (by decide)),h.low.kp k (h.fh.ne (i:=3) rfl hi (by decide)),h.aJ.kp k (h.fh.ne (i:=4) rfl hi (by decide)),h.k3,h.fh⟩,h.part hi k,Nw.refl _ _⟩
def cD.size(h:cD w cb f room nb na base B A P m):Calls Tryz.prog 119 #[.pointer (some ⟨f.sp,0,none⟩)] w λe w'=>e=.returned (.int .i64 (bg f.k:Nat))/\Kp ae w w':=
 (zb _ _ _ _ _ _ h.set h.k3.2).mono λe w' ⟨a,b⟩=>⟨a,ks b⟩
def qY(h:cD w cb f room nb na base B A P m)(r:Nat):
    Calls Tryz.prog 205 #[.pointer (some ⟨cb,0,none⟩),.int .u64 r] w λe w'=>e=.returned (.int .i64 (bC (bg f.k) r))/\Kp ae w w':=by
 have c0:=h.top.ai;have b:=aa h.size;have hz:=mv h.k3;clear h;generalize bg f.k=z at*;have c:Hid (bC z r=(r:Int)%(z:Int)):=by show _=_;unfold bC;omega
 have hm:((r:Int)%(z:Int))<262144/\0<=((r:Int)%(z:Int)):=⟨by have:=Int.emod_lt_of_pos (r:Int) (show(0:Int)<z by omega);omega,Int.emod_nonneg _ (by omega)⟩
 refine al ?_;intro PP d;go_enter Tryz.func205,Tryz.ntmps205;go_wp2_with(go_at_call 119;refine(b.out).mono ?_;rintro e w' ⟨rfl,a⟩;have g:=aa a;clear a);exact d.out _ _ ⟨by rw[c.out];rfl,g.out⟩
end
end cq
namespace cq
open Go Go.RowKit Go.Shelf
def r8{w:World}{F:Nat->Prop}{a room n:Nat}{S:List (En Pk)}(h:Hp w F a room n S):Calls Tryz.prog 184 #[.pointer (some ⟨a,0,none⟩)] w λe w'=>e=.returned (.int .i64 S.length)/\w=w':=by
 obtain⟨vc,l,rfl,hm,b,c,d⟩:=h;rw[<-b.len];exact yQ w 0 a vc n room l hm
section
variable {w w':World} {cb:Nat} {f:c8} {room nb na base:Nat} {B A:List (En Pk)} {P:PS Pk} {m:List Int}
def F5(h:cD w cb f room nb na base B A P m)(I:List It)(c:(I.length:Int)=P.n+B.length+A.length)(s:0<=P.n)(t:I.length<=4096):
    Calls Tryz.prog 195 #[.pointer (some ⟨cb,0,none⟩)] w λe w'=>e=.returned (.int .i64 I.length)/\Kp ae w w':=by
 have c1:=h.top.aj;have d:=h.top.aK;have g:=h.top.a_;have j:=aa (λW (k:Kp ae w W)=>aF (F0 W _ _ _ _ (h.h1.old k)));have l:=aa (λW (k:Kp ae w W)=>aF (r8 (h.low.old k)));have o:=aa (λW (k:Kp ae w W)=>aF (r8 (h.aJ.old k)));clear h;have p:Hid (P.n+B.length+A.length=(I.length:Int)):=c.symm;have u:(B.length:Int)<=4096:=by omega
 have ha:(A.length:Int)<=4096:=by omega
 have hp:P.n<=4096:=by omega
 clear c;generalize B.length=lb at*;generalize A.length=i at*;generalize I.length=li at*;generalize P.n=n at*;refine al ?_;intro PP b;have w1:IntKind.i64.wrap (n+(lb:Int))=n+lb:=by rw[H3];omega
 have q:IntKind.i64.wrap (n+(lb:Int)+i)=n+lb+i:=by rw[H3];omega
 go_enter Tryz.func195,Tryz.ntmps195;go_wp2_with fail;refine ar 17 (by kernel_rfl) (λ_ _ _ _ _ h=>h) ?_;simp only[aO]
 repeat((first
    |refine ay (by rfl) (by as_aux_lemma=>intro W a;have v:=a.cell c1 (λx=>x);have y:=a.cell d (λx=>x);have z:=a.cell g (λx=>x);have C:=w1;have D:=q;go_simp;exact rfl) ?_
    |refine ah (by rfl) ?_
    |refine aR (by rfl) (by as_aux_lemma=>intro W;go_simp;exact⟨rfl,rfl⟩) (by intro W a;with_reducible first|exact j.out W a|exact l.out W a|exact o.out W a) ?_);simp only[Act.put,aH])
 intro W a;have r:=aa a;clear a c1 d g;go_wp2_with fail;exact b.out _ _ ⟨by rw[<-p.out];rfl,r.out⟩
def py(h:cD w cb f room nb na base B A P m)(r:Nat)(s:r<18446744073709551616)(n:base<18446744073709551616):
    Calls Tryz.prog 211 #[.pointer (some ⟨cb,0,none⟩),.int .u64 r] w λe w'=>e=.returned (.bool (decide (base<=r/\r<base+bg f.k)))/\Kp ae w w':=by
 have c0:=h.top.ai;have g:=h.top.aq;have l:=aa (λW (k:Kp ae w W)=>(h.old k).size);have hz:=mv h.k3;clear h;generalize bg f.k=z at*;refine al ?_;intro PP i;by_cases t:base<=r
 ·have b:((r:Int)≥base)=True:=by simp;omega
  obtain⟨d,hd⟩:∃d:Nat,r-base=d:=⟨_,rfl⟩
  have iQ:IntKind.u64.wrap ((r:Int)-base)=(d:Int):=by rw[HO];omega
  have c:Hid (decide (base<=r/\r<base+z)=decide ((d:Int)<z)):=by show _=_;rw[IQ];omega
  rw[c.out]at i
  clear c;go_enter Tryz.func211,Tryz.ntmps211;go_wp2_with fail;refine ar 20 (by kernel_rfl) (λ_ _ _ _ _ h=>h) ?_;simp only[aO]
  repeat((first
   |refine ay (by rfl) (by as_aux_lemma=>intro W a;have o:=a.cell c0 (λx=>x);have p:=a.cell g (λx=>x);have u:=iQ;have q:=b;go_simp;exact rfl) ?_
   |refine ah (by rfl) ?_
   |refine aR (by rfl) (by as_aux_lemma=>intro W;go_simp;exact⟨rfl,rfl⟩) (by intro W a;with_reducible first|exact l.out W a) ?_);simp only[Act.put,aH])
  intro W a;have j:=aa a;clear a c0 g;go_wp2_with fail;exact i.out _ _ ⟨rfl,j.out⟩
 ·have b:((r:Int)≥base)=False:=by simp;omega
  have c:Hid (decide (base<=r/\r<base+z)=false):=by show _=_;simp;omega
  rw[c.out]at i
  clear c;go_enter Tryz.func211,Tryz.ntmps211;go_wp2_with fail;refine ar 20 (by kernel_rfl) (λ_ _ _ _ _ h=>h) ?_;simp only[aO]
  repeat((first
   |refine ay (by rfl) (by as_aux_lemma=>intro W a;have o:=a.cell c0 (λx=>x);have p:=a.cell g (λx=>x);have q:=b;go_simp;exact rfl) ?_
   |refine ah (by rfl) ?_
   |refine aR (by rfl) (by as_aux_lemma=>intro W;go_simp;exact⟨rfl,rfl⟩) (by intro W a;with_reducible first|exact l.out W a) ?_);simp only[Act.put,aH])
  intro W a;have j:=aa a;clear a c0 g;go_wp2_with fail;exact i.out _ _ ⟨rfl,j.out⟩
end
end cq
namespace cq
open Go Go.RowKit Go.Shelf
structure ve (sz:Nat) (c:hh) (x:Pk) (r:Nat) (P':PS Pk) (R':RP Pk) (m':List Int):Prop where
 a1:Rel P' R'
 a2:P'.aT=c.P.aT
 a3:P'.qs.length=c.P.qs.length
 a4:R'.items.length=c.R.items.length+1
 a5:R'.bA.length=c.R.bA.length+1
 a6:∀e,bp R' e=bp c.R e++(if e=bC sz r then[some x]else[])
 a7:∀d:Int,d∈m'↔R'.q d≠ []
def tF:∀ {m l:List Int},m.Nodup->(∀x∈m,x∈l)->m.length<=l.length
 | [],_,_,_=>Hv _
 |a::m,l,b,c=>by
  rw[H6]at b
  have ha:=c a (by simp);have f:=tF (m:=m) (l:=l.erase a) b.2 (λx d=>(List.mem_erase_of_ne (λe=>b.1 (by rw[<-e];exact d))).2 (c x (by simp[d])));rw[List.length_erase_of_mem ha]at f
  have:0<l.length:=Lf ha;rw[Hs];omega
def bR.zH{sz room:Nat}{c:hh}{I:List It}(h:bR sz room c I)(j:c.m.Pairwise (·< ·)):c.m.length<=room:=by
 have k:=tF (m:=c.m) (l:=c.R.bA.map (·.1)) (j.imp (λ {a b} n e=>by omega)) (λd hd=>by
  have f:=(h.days d).1 hd;unfold RP.q at f;cases hf:c.R.bA.filter (λp=>p.1==d)with
  |nil=>rw[hf]at f;exact absurd rfl f
  |cons p r=>
   have i:p∈c.R.bA.filter (λp=>p.1==d):=by rw[hf];simp
   have g:=Ie.1 i
   exact Hw.2 ⟨p,g.1,by simpa using g.2⟩)
 rw[Hq]at k
 have f:=h.len;have i:=h.oc;have g:=h.cap;omega
def tG{S:PS Pk}{q k:Int}{S':PS Pk}(h:S.append q k=(S',0)):0<=k:=by
 unfold PS.append at h;split at h
 ·cases h
 ·cases a:tk S k with
  |none=>rw[a]at h;cases h
  |some c=>exact(di a).1
def zI{w:World}{cb:Nat}{f:c8}{room nb na:Nat}{c:hh}{A:List (En Pk)}{I:List It}(h:cD w cb f room nb na c.base c.B A c.P c.m)(t:bR (bg f.k) room c I)(hn:c.R.items.length<room)(aK:room<=4096)(x:Pk)(r:Nat):
    Calls Tryz.prog 212 #[.pointer (some ⟨cb,0,none⟩),.int .u64 r,.agg (ix x).toArray] w λe w'=>e=.returned (.tuple #[])/\
     ∃f' P' R' m',cD w' cb f' room nb na c.base c.B A P' m'/\cK w cb f w' f'/\(f'.k=f.k/\f'.ab=f.ab)/\ve (bg f.k) c x r P' R' m':=by
 obtain⟨k,P',R',aB,L,h3,h4,h5,h6,h7,h8,h9⟩:=t.FY x r hn;obtain⟨k,rfl⟩:∃i:Nat,k=i:=⟨k.toNat,by have:=tG L;omega⟩
 have aE:=aa (ve.mk h3 h4 h5 h6 h7 h8 h9);have c1:=h.top.aj;have aL:=h.top.lt;have aC:=aa (λW (u:Kp ae w W)=>Eb W _ _ _ _ c.R x (h.old u).h1 t.rel (by rw[t.aT];omega));rw[aB]at aC
 obtain⟨j,hj⟩:∃j:Nat,r%bg f.k=j:=⟨_,rfl⟩
 have v:bC (bg f.k) r=(j:Int):=by unfold bC;rw[hj]
 have X:j<c.P.qs.length:=by have:=t.day r;rw[v]at this;omega
 have Y:c.P.qs.length<=262144:=by rw[t.qs];exact t.hZ.2
 rw[v]at L
 have Z:=t.rel.take x;obtain⟨Pt,o⟩:∃Pt,(c.P.take x).1=Pt:=⟨_,rfl⟩
 have M:Pt.qs.length=c.P.qs.length:=by rw[<-o];unfold PS.take;split;rfl;split<;>rfl
 have ac:=aa (λW vc (hp:bH W f.pp f.pq vc Pt)=>by
  have:=zG W _ _ _ _ _ (by rw[<-o]at hp;exact hp) Z.1 j k (by rw[o,M];exact X) (by rw[o,M];exact Y) (by rw[L])
  rw[L]at this;exact this)
 have y:=aa v;rw[o]at aC
 have aD:=aa h;have N:=aa t;clear L Z h3 h4 h5 h6 h7 h8 h9;clear h t aB o M X Y hj v;obtain⟨fl,id,ln⟩:=x;simp only[ix]at*;refine al ?_;intro PP aM;go_enter Tryz.func212,Tryz.ntmps212;go_upto_region 1 with fail;have z:=aa (ag.new w [.int .u32 (fl:Int),.int .u32 (id:Int),.int .u64 (ln:Int)] 148);have p:Hid (Kp ae w (w.alloc (.cells #[.int .u32 (fl:Int),.int .u32 (id:Int),.int .u64 (ln:Int)] 148))):=(Kp.refl ae w).alloc _;generalize w.alloc (.cells #[.int .u32 (fl:Int),.int .u32 (id:Int),.int .u64 (ln:Int)] 148)=w0 at*;have O:=p.out.cell c1 (λx=>x);have x0:=z.out.ai;have x1:=z.out.aj;have x2:=z.out.aq;have ad:¬PF f.pp f.pq f.vc cb:=aD.out.fh.ne (i:=0) (j:=2) rfl rfl (by decide) cb rfl;have C:¬PF f.pp f.pq f.vc w.heap.size:=λe=>by have:=aD.out.h1.lt e;omega
 clear c1
 go_region_held3 (λw'=>w'.cell? ⟨cb,1,none⟩=some (.pointer (some ⟨f.pp,0,none⟩))/\w'.cell? ⟨w.heap.size,0,none⟩=some (.int .u32 (fl:Int))/\w'.cell? ⟨w.heap.size,1,none⟩=some (.int .u32 (id:Int))/\w'.cell? ⟨w.heap.size,2,none⟩=some (.int .u64 (ln:Int))) (go_keep)
    ((go_at_call 219;refine(aC.out _ p.out.drew).mono ?_;rintro e w3 ⟨rfl,aF,af,a,ah⟩
      have O:=a.cell O ad;have x0:=a.cell x0 C;have x1:=a.cell x1 C;have x2:=a.cell x2 C;have D:=aa (((aD.out.old p.out).old (Kp.refl ae w0).drew).mw af a ah)
      clear af a ah))
 obtain⟨f3,l⟩:∃f3:c8,f3= {f with vc:=aF}:=⟨_,rfl⟩
 have a:f3.k=f.k:=by rw[l]
 have b:f3.pp=f.pp:=by rw[l]
 have d:f3.pq=f.pq:=by rw[l]
 have G:f3.sp=f.sp:=by rw[l]
 have H:f3.ab=f.ab:=by rw[l]
 rw[<-l]at D
 have q:=aa D.out.1;have ak:Hid (cK w cb f w3 f3):=aa ((cK.old (p.out.trans (Kp.refl ae w0).drew)).trans D.out.2);have an:=aa (λW (u:Kp ae w3 W)=>by have:=qY (q.out.old u) r;rw[a,y.out]at this;exact this);have J:=aa (λW (u:Kp ae w3 W)=>by have:=ac.out W f3.vc (by have:=(q.out.old u).h1;rw[b,d]at this;exact this);exact this);have ao:¬PF f.pp f.pq f3.vc cb:=by have:=q.out.fh.ne (i:=0) (j:=2) rfl rfl (by decide) cb rfl;rw[b,d]at this;exact this
 clear D l ac aC z p x0 x1 x2 ad C aD;go_wp2_with fail
 go_region_held3 (λw'=>w'.cell? ⟨cb,1,none⟩=some (.pointer (some ⟨f.pp,0,none⟩))) (go_keep)
    (first
     |(go_at_call 205;refine(an.out _ (Kp.refl ae w3).drew).mono ?_;rintro e w4 ⟨rfl,Q⟩
       have O:=Q.cell O (λx=>x);have E:=aa ((Kp.refl ae w3).drew.trans Q)
       clear Q)
     |(go_at_call 220;refine(J.out _ E.out).mono ?_;rintro e V ⟨rfl,aG,ar,g,au⟩
       have O:=g.cell O ao;have F:=aa ((q.out.old E.out).mw (by rw[b,d];exact ar) (by rw[b,d];exact g) (by rw[b,d];exact au))
       clear ar g au))
 obtain⟨f5,s⟩:∃f5:c8,f5= {f3 with vc:=aG}:=⟨_,rfl⟩
 have g:f5.k=f.k:=by rw[s];exact a
 have K:f5.ab=f.ab:=by rw[s];exact H
 have av:f5.sp=f.sp:=by rw[s];exact G
 rw[<-s]at F
 have n:=aa F.out.1;have aH:Hid (cK w cb f V f5):=aa ((ak.out.trans (cK.old E.out)).trans F.out.2);have aw:=aa (λW (u:Kp ae V W)=>by have:=qY (n.out.old u) r;rw[g,y.out]at this;exact this);have ax:=n.out.set;have ay:nO f5.k c.m (j:Int)= !decide ((j:Int)∈c.m):=by
  have aB:=N.out.day r;rw[y.out,N.out.qs]at aB
  have L:zd f5.k (j:Int)=true:=by
   unfold zd xD;rw[g];have h3:((64^f.k:Nat):Int)=(bg f.k:Int):=rfl;rw[h3];simp;omega
  unfold nO;rw[L,J2]
 have aI:=aa (λW (u:Kp ae V W)=>by
  have:=FF _ _ _ _ _ (j:Int) W (n.out.old u).set n.out.k3.2 (by have:=N.out.zH ax.sorted;omega)
  rw[ay]at this;exact this)
 have c0:V.cell? ⟨cb,0,none⟩=some (.pointer (some ⟨f5.sp,0,none⟩)):=n.out.top.ai;have aJ:=aa (And.intro g K);clear F s J q ak an E ao O ax ay g av a b d G H K;go_wp2_with fail
 go_region_held3 (λw'=>w'.cell? ⟨cb,0,none⟩=some (.pointer (some ⟨f5.sp,0,none⟩))) (go_keep)
    (first
     |(go_at_call 205;refine(aw.out _ (Kp.refl ae V).drew).mono ?_;rintro e w6 ⟨rfl,S⟩
       have c0:=S.cell c0 (λx=>x);have T:=aa ((Kp.refl ae V).drew.trans S)
       clear S)
     |(go_at_call 221;refine(aI.out _ T.out).mono ?_;rintro e w7 ⟨rfl,az,U⟩
       have c0:w7.cell? ⟨cb,0,none⟩=some (.pointer (some ⟨f5.sp,0,none⟩)):=U.cell c0 (n.out.fh.ne (i:=0) (j:=1) rfl rfl (by decide) cb rfl);have aA:=aa ((n.out.old T.out).wj az U)
       clear az U))
 go_wp2_with fail;refine HT (If rfl _ _ _) rfl ?_;refine aM.out _ _ ⟨rfl,f5,P',R',_,aA.out.1,(aH.out.trans (cK.old T.out)).trans aA.out.2,aJ.out,?_⟩;have h:=aE.out;rw[y.out]at h
 by_cases hd:(j:Int)∈c.m
 ·rw[Hl hd]at h
  simp only[hd,decide_true,JP,Jo,Jp];exact h
 ·rw[Hk hd]at h
  simp only[hd,decide_false,Bool.not_false,if_true];exact h
end cq
namespace cq
open Go Go.RowKit Go.Shelf
def Ca(w:World)(F:Nat->Prop)(cb room n:Nat)(I:List It):Prop:=∃(f:c8) (nb na:Nat) (c:hh),F=f.all cb/\cD w cb f room nb na c.base c.B c.A c.P c.m/\bR (bg f.k) room c I/\Dn (bg f.k) c/\nb<=n/\na<=n/\room<=4096
def Ca.kp{T:Nat->Prop}{w w':World}{F:Nat->Prop}{cb room n:Nat}{I:List It}(h:Ca w F cb room n I)(k:Kp T w w')(a:∀b,F b->¬T b):Ca w' F cb room n I:=by
 obtain⟨f,nb,na,c,rfl,d,e⟩:=h;exact⟨f,nb,na,c,rfl,d.kp k a,e⟩
def Ca.old{w w':World}{F:Nat->Prop}{cb room n:Nat}{I:List It}(h:Ca w F cb room n I)(k:Kp ae w w'):Ca w' F cb room n I:=h.kp k (λ_ _ x=>x)
def Ca.lt{w:World}{F:Nat->Prop}{cb room n:Nat}{I:List It}(h:Ca w F cb room n I){b:Nat}(hF:F b):b<w.heap.size:=by
 obtain⟨f,nb,na,c,rfl,a,d⟩:=h;exact a.xW hF
section
variable {w:World} {cb:Nat} {f:c8} {room nb na:Nat} {c:hh} {I:List It}
def bR.F6(a:bR (bg f.k) room c I):(I.length:Int)=c.P.n+c.B.length+c.A.length:=by
 have b:=a.len;have d:=a.rel.n;omega
def pz(h:cD w cb f room nb na c.base c.B c.A c.P c.m)(a:bR (bg f.k) room c I)(b:room<=4096):
    Calls Tryz.prog 195 #[.pointer (some ⟨cb,0,none⟩)] w λe w'=>e=.returned (.int .i64 I.length)/\Kp ae w w':=
 F5 h I a.F6 (by rw[a.rel.n];omega) (by have:=a.cap;omega)
def BK(h:cD w cb f room nb na c.base c.B c.A c.P c.m)(o:bR (bg f.k) room c I)(hd:Dn (bg f.k) c)(hl:I.length<room)(y:room<=4096)(au:nb<9223372036854775807)(av:na<9223372036854775807)(r fl id ln:Nat)(hr:r<18446744073709551616)(hI:I≠ []):
    Calls Tryz.prog 202 #[.pointer (some ⟨cb,0,none⟩),.int .u64 r,.agg #[.int .u32 fl,.int .u32 id,.int .u64 ln]] w λe w'=>e=.returned (.bool true)/\
     ∃O T U C,cD w' cb O room T U C.base C.B C.A C.P C.m/\cK w cb f w' O/\bR (bg O.k) room C (e2 I ⟨r,⟨fl,id,ln⟩⟩)/\Dn (bg O.k) C/\T<=nb+1/\U<=na+1:=by
 have c5:=h.top.bN;have c3:=h.top.aK;have c4:=h.top.a_;have c2:=h.top.aq;have V:=aa (ag.new w [.int .u32 (fl:Int),.int .u32 (id:Int),.int .u64 (ln:Int)] 148);have p:Hid (Kp ae w (w.alloc (.cells #[.int .u32 (fl:Int),.int .u32 (id:Int),.int .u64 (ln:Int)] 148))):=(Kp.refl ae w).alloc _;have aw:=aa (λW (k:Kp ae w W)=>pz (h.old k) o y);have aC:=h.top.lt;have ax:((I.length:Int)≥room)=False:=by simp;omega
 have aA:=aa h;have D:=aa o;have E:=aa hd;have aD:=o.base;have X:0<I.length:=K5.2 hI;have hz:((I.length:Int)==0)=false:=by simp;omega
 have aB:=aa (λW (k:Kp ae w W)=>py (h.old k) r hr o.base);have Y:c.R.items.length<room:=by have:=o.len;omega
 have q:=aa (λW (k:Kp ae w W)=>zI (h.old k) o Y y ⟨fl,id,ln⟩ r);have Z:c.B.length<room:=by have:=o.len;omega
 have ac:c.A.length<room:=by have:=o.len;omega
 have s:=aa (λW (k:Kp ae w W)=>r4 (h.old k).low Z au r fl id ln);have t:=aa (λW (k:Kp ae w W)=>r4 (h.old k).aJ ac av r fl id ln);have F:=aa hl;have hsz:=o.hZ;refine al ?_;intro PP az;clear h o hd hl hI X Y Z ac y;generalize ad:I.length=li at*;generalize af:c.base=Q at*;generalize v:bg f.k=z at*;have G:=aa ad;have g:=aa af;have i:=aa v;clear ad af v;go_enter Tryz.func202,Tryz.ntmps202;go_upto_region 1 with fail;generalize w.alloc (.cells #[.int .u32 (fl:Int),.int .u32 (id:Int),.int .u64 (ln:Int)] 148)=w0 at*;have e5:=p.out.cell c5 (λx=>x);refine ar 10 (by kernel_rfl) (λ_ _ _ _ _ h=>h) ?_;simp only[aO]
 repeat((first
    |refine ay (by rfl) (by as_aux_lemma=>intro W j;have y5:=j.cell e5 (λx=>x);have y6:=ax;go_simp;exact rfl) ?_
    |refine ah (by rfl) ?_
    |refine aR (by rfl) (by as_aux_lemma=>intro W;go_simp;exact⟨rfl,rfl⟩) (by intro W j;with_reducible first|exact aw.out W (p.out.trans j)) ?_);simp only[Act.put,aH])
 intro W1 H;have J:=aa (p.out.trans H);have ak:=aa (V.out.kp H (λx=>x));clear H p V e5 c5;go_wp2_with fail;refine(aw.out _ J.out).mono ?_;rintro e w2 ⟨rfl,k2⟩;have K:=aa (J.out.trans k2);have an:=aa (ak.out.kp k2 (λx=>x));clear k2 J ak aw;go_wp2_with fail;refine(aB.out _ K.out).mono ?_;rintro e w3 ⟨rfl,k3⟩;have b:=aa (K.out.trans k3);have a:=aa (an.out.kp k3 (λx=>x));clear k3 K an aB;by_cases h1:Q<=r/\r<Q+z
 ·rw[Hz h1];have L:=a.out.ai;have M:=a.out.aj;have x2:=a.out.aq;go_wp2_with fail;refine(q.out _ b.out).mono ?_;rintro e w4 ⟨rfl,O,P',R',m',hm,ht,hk,u⟩;have aE:=aa hm;have T4:=aa ht;have S:=aa hk;have N:=aa u;clear hm ht hk u q s t L M x2;go_wp2_with fail;have hp:=D.out.tA E.out (x:=⟨r,⟨fl,id,ln⟩⟩) (by rw[g.out];exact h1.1) (by rw[g.out];exact h1.2) hr (by rw[G.out];exact F.out) N.out.a1 N.out.a2 N.out.a3 N.out.a4 N.out.a5 N.out.a6 N.out.a7;refine az.out _ _ ⟨rfl,O,nb,na,{c with P:=P',R:=R',m:=m'},by have:=aE.out;rw[<-g.out]at this;exact this,(cK.old b.out).trans T4.out,by rw[S.out.1,i.out];exact hp.1,by rw[S.out.1,i.out];exact hp.2,by omega,by omega⟩
 ·rw[HN h1];have d2:=b.out.cell c2 (λx=>x);by_cases h2:r<Q
  ·have u:((r:Int)<Q)=True:=by simp;omega
   have L:=a.out.ai;have M:=a.out.aj;have x2:=a.out.aq;go_wp2_with fail;have d3:=b.out.cell c3 (λx=>x);refine ar 6 (by kernel_rfl) (λ_ _ _ _ _ h=>h) ?_;simp only[aO]
   repeat((first
     |refine ay (by rfl) (by as_aux_lemma=>intro W j;have y3:=j.cell d3 (λx=>x);have y0:=j.cell L (λx=>x);have y1:=j.cell M (λx=>x);have y2:=j.cell x2 (λx=>x);go_simp;exact rfl) ?_
     |refine ah (by rfl) ?_);simp only[Act.put,aH])
   intro W4 l;have d:=aa (b.out.trans l);clear l b a L M x2 d2 d3;go_wp2_with fail;refine(s.out _ d.out).mono ?_;rintro e w5 ⟨rfl,F',n,k5,n5⟩;have ao:=aa ((aA.out.old d.out).wk n k5 n5);have S:=aa (cK.old (cb:=cb) (f:=f) d.out);clear n k5 n5 s t q d;go_wp2_with fail;have hp:=D.out.zt E.out (e:=⟨r,nb,⟨fl,id,ln⟩⟩) (by rw[g.out];exact h2) (by rw[G.out];exact F.out);refine az.out _ _ ⟨rfl,{f with FB:=F'},nb+1,na,{c with B:=dU c.B ⟨r,nb,⟨fl,id,ln⟩⟩},by have:=ao.out.1;rw[<-g.out]at this;exact this,S.out.trans ao.out.2,by show bR (bg f.k) _ _ _;rw[i.out];exact hp.1,by show Dn (bg f.k) _;rw[i.out];exact hp.2,Hm _,by omega⟩
  ·have u:((r:Int)<Q)=False:=by simp;omega
   have L:=a.out.ai;have M:=a.out.aj;have x2:=a.out.aq;go_wp2_with fail;have d4:=b.out.cell c4 (λx=>x);refine ar 6 (by kernel_rfl) (λ_ _ _ _ _ h=>h) ?_;simp only[aO]
   repeat((first
     |refine ay (by rfl) (by as_aux_lemma=>intro W j;have y3:=j.cell d4 (λx=>x);have y0:=j.cell L (λx=>x);have y1:=j.cell M (λx=>x);have y2:=j.cell x2 (λx=>x);go_simp;exact rfl) ?_
     |refine ah (by rfl) ?_);simp only[Act.put,aH])
   intro W4 l;have d:=aa (b.out.trans l);clear l b a L M x2 d2 d4;go_wp2_with fail;refine(t.out _ d.out).mono ?_;rintro e w5 ⟨rfl,F',n,k5,n5⟩;have ao:=aa ((aA.out.old d.out).wm n k5 n5);have S:=aa (cK.old (cb:=cb) (f:=f) d.out);clear n k5 n5 s t q d;go_wp2_with fail;have hp:=D.out.zu E.out (e:=⟨r,na,⟨fl,id,ln⟩⟩) (by rw[g.out];show Q+z<=r;omega) hr (by rw[G.out];exact F.out);refine az.out _ _ ⟨rfl,{f with FA:=F'},nb,na+1,{c with A:=dU c.A ⟨r,na,⟨fl,id,ln⟩⟩},by have:=ao.out.1;rw[<-g.out]at this;exact this,S.out.trans ao.out.2,by show bR (bg f.k) _ _ _;rw[i.out];exact hp.1,by show Dn (bg f.k) _;rw[i.out];exact hp.2,by omega,Hm _⟩
end
end cq
namespace cq
open Go Go.RowKit Go.Shelf
section
variable {w:World} {cb:Nat} {f:c8} {room nb na:Nat} {c:hh} {I:List It}
def BL(h:cD w cb f room nb na c.base c.B c.A c.P c.m)(j:bR (bg f.k) room c [])(hd:Dn (bg f.k) c)(G:0<room)(o:room<=4096)(r fl id ln:Nat)(E:r<18446744073709551616):
    Calls Tryz.prog 202 #[.pointer (some ⟨cb,0,none⟩),.int .u64 r,.agg #[.int .u32 fl,.int .u32 id,.int .u64 ln]] w λe w'=>e=.returned (.bool true)/\
     ∃t p,cD w' cb t room nb na p.base p.B p.A p.P p.m/\cK w cb f w' t/\bR (bg t.k) room p [⟨r,⟨fl,id,ln⟩⟩]/\Dn (bg t.k) p:=by
 obtain⟨I,u⟩:∃I:List It,I=[]:=⟨_,rfl⟩
 rw[<-u]at j
 have H:I.length<room:=by rw[u];exact G
 have V:=h.top.bN;have c3:=h.top.aK;have c4:=h.top.a_;have X:=h.top.aq;have v:=aa (ag.new w [.int .u32 (fl:Int),.int .u32 (id:Int),.int .u64 (ln:Int)] 148);have l:Hid (Kp ae w (w.alloc (.cells #[.int .u32 (fl:Int),.int .u32 (id:Int),.int .u64 (ln:Int)] 148))):=(Kp.refl ae w).alloc _;have J:=aa (λW (k:Kp ae w W)=>pz (h.old k) j o);have ad:=h.top.lt;have K:((I.length:Int)≥room)=False:=by simp;omega
 have Y:=aa h;have L:=aa j;have af:=aa hd;have ak:=j.base;have hz:((I.length:Int)==0)=true:=by rw[u];rfl
 rw[u]at j
 clear H;have d:=j.BG r E;have M:=h.top.fz 2;have y:c.R.items.length<room:=by have:=j.len;simp at this;omega
 have Z:=aa (λW (hm:cD W cb f room nb na r c.B c.A c.P c.m)=>py hm r E E);have z:=aa (λW (hm:cD W cb f room nb na r c.B c.A c.P c.m)=>zI (c:= {c with base:=r}) hm d.1 y o ⟨fl,id,ln⟩ r);have hsz:=j.hZ;have an:=aa d;have N:=aa (λP' R' m' (b:ve (bg f.k) {c with base:=r} ⟨fl,id,ln⟩ r P' R' m')=>d.1.tA d.2 (x:=⟨r,⟨fl,id,ln⟩⟩) (Hm r) (by show r<r+bg f.k;omega) E G b.a1 b.a2 b.a3 b.a4 b.a5 b.a6 b.a7);have O:decide (r<=r/\r<r+bg f.k)=true:=by simp;omega
 refine al ?_;intro PP ao;clear h j hd G u o d y L;generalize I.length=li at*;go_enter Tryz.func202,Tryz.ntmps202;go_upto_region 1 with fail;generalize w.alloc (.cells #[.int .u32 (fl:Int),.int .u32 (id:Int),.int .u64 (ln:Int)] 148)=w0 at*;have e5:=l.out.cell V (λx=>x);refine ar 10 (by kernel_rfl) (λ_ _ _ _ _ h=>h) ?_;simp only[aO]
 repeat((first
    |refine ay (by rfl) (by as_aux_lemma=>intro W Q;have y5:=Q.cell e5 (λx=>x);have y6:=K;go_simp;exact rfl) ?_
    |refine ah (by rfl) ?_
    |refine aR (by rfl) (by as_aux_lemma=>intro W;go_simp;exact⟨rfl,rfl⟩) (by intro W Q;with_reducible first|exact J.out W (l.out.trans Q)) ?_);simp only[Act.put,aH])
 intro W1 q;have s:=aa (l.out.trans q);have C:=aa (v.out.kp q (λx=>x));clear q l v e5 V;go_wp2_with fail;refine(J.out _ s.out).mono ?_;rintro e w2 ⟨rfl,k2⟩;have g:=aa (s.out.trans k2);have D:=aa (C.out.kp k2 (λx=>x));clear k2 s C J;have d2:=g.out.cell X (λx=>x);have S:=(Y.out.old g.out).top.fz 2;go_wp2_with fail;have n:=aa ((Y.out.old g.out).tE r);have T:w.heap.size≠cb:=by omega
 have i:=aa (D.out.bJ (a:=⟨cb,2,none⟩) T (.int .u64 (r:Int)));have T3:Hid (cK w cb f (w2.setCell ⟨cb,2,none⟩ (.int .u64 (r:Int))) f):=aa ((cK.old g.out).trans n.out.2);generalize w2.setCell ⟨cb,2,none⟩ (.int .u64 (r:Int))=w3 at*;refine(Z.out _ n.out.1).mono ?_;rintro e w4 ⟨rfl,F⟩;have U:=aa (n.out.1.old F);have T4:=aa (T3.out.trans (cK.old F));have i:=aa (i.out.kp F (λx=>x));rw[O];clear F g D Z n T3 d2 S X M;have x0:=i.out.ai;have x1:=i.out.aj;have x2:=i.out.aq;go_wp2_with fail;refine(z.out _ U.out).mono ?_;rintro e w5 ⟨rfl,t,P',R',m',hm,ht,hk,b⟩;have au:=aa hm;have T5:=aa ht;have ac:=aa hk;have L5:=aa b;clear hm ht hk b z x0 x1 x2;go_wp2_with fail;have hp:=N.out P' R' m' L5.out;exact ao.out _ _ ⟨rfl,t,{c with base:=r,P:=P',R:=R',m:=m'},au.out,T4.out.trans T5.out,by rw[ac.out.1];exact hp.1,by rw[ac.out.1];exact hp.2⟩
end
def BM{w:World}{F:Nat->Prop}{cb room n:Nat}{I:List It}(h:Ca w F cb room n I)(j:I.length<room)(q:n<9223372036854775807)(r fl id ln:Nat)(k:r<18446744073709551616):
    Calls Tryz.prog 202 #[.pointer (some ⟨cb,0,none⟩),.int .u64 r,.agg #[.int .u32 fl,.int .u32 id,.int .u64 ln]] w λe w'=>e=.returned (.bool true)/\
     ∃l,Ca w' l cb room (n+1) (e2 I ⟨r,⟨fl,id,ln⟩⟩)/\Kp F w w'/\Nw w F l:=by
 obtain⟨f,nb,na,c,rfl,m,o,p,s,t,a⟩:=h;cases I with
 |nil=>
  refine(BL m o p (by simpa using j) a r fl id ln k).mono ?_;rintro e w' ⟨he,b,d,a1,a2,a3,a4⟩;exact⟨he,_,⟨b,nb,na,d,rfl,a1,a3,a4,by omega,by omega,a⟩,a2.kp,a2.nw⟩
 |cons x T=>
  refine(BK m o p j a (by omega) (by omega) r fl id ln k (by simp)).mono ?_;rintro e w' ⟨he,b,g,i,d,a1,a2,a3,a4,a5,a6⟩;exact⟨he,_,⟨b,g,i,d,rfl,a1,a3,a4,by omega,by omega,a⟩,a2.kp,a2.nw⟩
end cq
namespace cq
open Go Go.RowKit Go.Shelf
def zJ(room sz:Nat):PS Pk:=⟨[],List.replicate sz (-1,-1),room,-1,0⟩
def tH(room sz:Nat):RP Pk:=⟨room,sz,[],[],[],0⟩
def zK(room sz:Nat):hh:=⟨0,[],[],zJ room sz,tH room sz,[]⟩
def BN(room sz:Nat)(l:1<=room)(m:room<=4096):Rel (zJ room sz) (tH room sz) where
 aT:=rfl
 iu:=⟨by show(1:Int)<=room;omega,by show(room:Int)<=4096;omega⟩
 aD:=by show(sz:Int)=((List.replicate sz ((-1:Int),(-1:Int))).length:Int);rw[Ic]
 never:=rfl
 room:=by show(0:Int)<=room;omega
 count:=rfl
 n:=rfl
 find:=λh=>by unfold tk zJ RP.find tH;simp
 hq:=List.Pairwise.nil
 jm:=λp hp=>by cases hp
 free:=rfl
 kD:=List.Pairwise.nil
 fJ:=λb d=>by cases d
 queue:=λq hd e f=>by
  have a:(List.replicate sz ((-1:Int),(-1:Int)))[q]? =some (hd,e):=f;rw[I2]at a
  split at a
  ·injection a with a;injection a with g i;subst g i;exact⟨rfl,rfl⟩
  ·cases a
 dz:=List.Pairwise.nil
 jn:=λp hp=>by cases hp
 queued:=λh c j=>by have:=(di j).2.2.1;cases this
 dN:=λh k=>by cases k
def BO(room sz:Nat)(b:1<=room)(c:room<=4096)(a:64<=sz/\sz<=262144):bR sz room (zK room sz) [] where
 rel:=BN room sz b c
 qs:=Ic
 aT:=rfl
 hZ:=a
 base:=by show 0<_;decide
 gf:=List.Pairwise.nil
 e9:=λi hi=>by cases hi
 low:=λr e=>rfl
 mn:=λr _ _=>rfl
 aJ:=λr _=>rfl
 bin:=λs a=>by cases a
 pj:=λs a=>by cases a
 sB:=List.Pairwise.nil
 sA:=List.Pairwise.nil
 days:=λd=>by show d∈([]:List Int)↔RP.q (tH room sz) d≠ [];unfold RP.q tH;simp
 len:=rfl
 oc:=rfl
 cap:=Hv _
def Ec(room lv:Nat)(r:1<=room)(n:room<=4096)(f:1<=lv/\lv<=3)(w:World):
    Calls Tryz.prog 94 #[.int .i64 room,.int .i64 lv] w λe w'=>∃cb F,e=.returned (.tuple #[.pointer (some ⟨cb,0,none⟩),.int .i64 0])/\Ca w' F cb room 0 []/\(∀b,F b->w.heap.size<=b)/\Kp ae w w':=by
 have A:=aa (λW=>zs room r n W);have S:=aa (λW=>FD lv W f.1 f.2);have hz:=mv f;have T:=aa (λW p bl B (h:SR W p lv bl B [])=>(zb p lv bl B [] W h f.2).mono (R':=λe w'=>e=.returned (.int .i64 (bg lv:Nat))/\Kp ae W w') λe w' ⟨a,b⟩=>⟨a,ks b⟩);have t:=aa (λW=>wa (room:Int) (bg lv) W (by omega) (by omega) hz.2);have U:=aa (BO room (bg lv) r n hz);have V:=aa f;have X:=aa n;refine al ?_;intro PP Y;clear r n f;generalize d:bg lv=z at*;have u:=aa d;clear d;go_enter Tryz.func94,Tryz.ntmps94;go_wp2_with fail;refine(A.out w).mono ?_;rintro e w1 ⟨bb,FB,rfl,C,f1,k1⟩;have D:=aa C;have Z:=aa f1;have E:=aa k1;clear C f1 k1;go_wp2_with fail;refine(S.out w1).mono ?_;rintro e v ⟨sp,sl,sB,rfl,G,f2,k2⟩;have x:=aa G;have H:=aa f2;have y:=aa k2;clear G f2 k2;go_wp2_with fail;refine(A.out v).mono ?_;rintro e w3 ⟨ab,FA,rfl,I,f3,k3⟩;have J:=aa I;have K:=aa f3;have i:=aa k3;clear I f3 k3;go_wp2_with fail;refine(T.out w3 sp sl sB (x.out.old i.out)).mono ?_;rintro e L ⟨rfl,M⟩;have j:=aa M;clear M;go_wp2_with fail;refine(t.out L).mono ?_;rintro e g ⟨pp,pq,rfl,N,f5,g5,O⟩;have P:=aa N;have Q:=aa f5;have R:=aa g5;have k:=aa O;clear N f5 g5 O;go_wp2_with fail;have l:Kp ae g (g.alloc (.cells #[.pointer (some ⟨sp,0,none⟩),.pointer (some ⟨pp,0,none⟩),.int .u64 0,.pointer (some ⟨bb,0,none⟩),.pointer (some ⟨ab,0,none⟩),.int .i64 room] 271)):=(Kp.refl ae g).alloc _;have m:=((((E.out.trans y.out).trans i.out).trans j.out).trans k.out).trans l;have s1:=E.out.size;have s2:=y.out.size;have s3:=i.out.size;have s4:=j.out.size;have s5:=k.out.size;refine Y.out _ _ ⟨g.heap.size,_,rfl,⟨⟨sp,sl,lv,sB,pp,pq,.slice none 0 0,bb,ab,FB,FA⟩,0,0,zK room z,rfl,?_,?_,(λs hs=>by cases hs),Hm _,Hm _,X.out⟩,?_,m⟩
 ·refine⟨ag.new _ _ _,x.out.old (((i.out.trans j.out).trans k.out).trans l),P.out.old l,D.out.old ((((y.out.trans i.out).trans j.out).trans k.out).trans l),J.out.old ((j.out.trans k.out).trans l),V.out,?_⟩;have b1:∀b,FB b->b<w1.heap.size:=λb c=>D.out.lt c;have b2:∀b,Fp sp sl sB lv b->w1.heap.size<=b/\b<v.heap.size:=λb c=>⟨H.out b c,x.out.lt c⟩
  have o:∀b,FA b->v.heap.size<=b/\b<w3.heap.size:=λb c=>⟨K.out b c,J.out.lt c⟩
  have q:∀b,PF pp pq (.slice none 0 0) b->L.heap.size<=b/\b<g.heap.size:=λb c=>by
   refine⟨?_,P.out.lt c⟩;rcases c with rfl|rfl|c
   ·exact Q.out
   ·exact R.out
   ·cases c
  unfold tD c8.parts;simp only[HJ,Ho,H5,Ia,forall_eq_or_imp,forall_eq];refine⟨⟨λh=> ?_,λh=> ?_,λh=> ?_,λh=> ?_⟩,⟨λb e h=> ?_,λb e h=> ?_,λb e h=> ?_⟩,⟨λb e h=> ?_,λb e h=> ?_⟩,(λb e h=> ?_),(λa ha=>ha.elim),List.Pairwise.nil⟩
  ·have:=b2 _ h;omega
  ·have:=q _ h;omega
  ·have:=b1 _ h;omega
  ·have:=o _ h;omega
  ·have:=b2 b e;have:=q b h;omega
  ·have:=b2 b e;have:=b1 b h;omega
  ·have:=b2 b e;have:=o b h;omega
  ·have:=q b e;have:=b1 b h;omega
  ·have:=q b e;have:=o b h;omega
  ·have:=b1 b e;have:=o b h;omega
 ·show bR (bg lv) room (zK room z) [];rw[u.out];exact U.out
 ·rintro b ⟨F,hF,c⟩;simp only[c8.parts,Ho,H5,Ia]at hF;rcases hF with rfl|rfl|rfl|rfl|rfl
  ·have c:b=g.heap.size:=c;omega
  ·have:=H.out b c;omega
  ·rcases c with rfl|rfl|c
   ·have:=Q.out;omega
   ·have:=R.out;omega
   ·cases c
  ·exact Z.out b c
  ·have:=K.out b c;omega
attribute [local go_sem] Oper.semAt_some
def iB(S:PS Pk)(j:Nat):Int:=match S.qs[j]? with|some (h,_)=>h|none=> -1
def vf(w:World)(p d:Nat)(vc:Value)(S:PS Pk)(R:RP Pk)(h:bH w p d vc S)(f:Rel S R)(j:Nat)(g:j<S.qs.length)(k:S.qs.length<=262144):
    Calls Tryz.prog 204 #[.pointer (some ⟨p,0,none⟩),.int .i64 j] w λe w'=>e=.returned (.tuple #[.int .i64 (if iB S j= -1 then 0 else iB S j),.bool (decide (iB S j≠ -1))])/\w=w':=by
 have c1:=h.top.aj;have i:=aa (C5 w p d vc S h j g k);obtain⟨hd,a,e⟩:∃hd a,S.qs[j]? =some (hd,a):=⟨_,_,(HD.2 ⟨g,rfl⟩)⟩
 obtain⟨m,o⟩:=h.end j hd a e;have c:=f.Dt (hd,a) (IV e);simp only at c;have HF:iB S j=hd:=by unfold iB;rw[e]
 rw[HF];clear h f e HF;generalize S.qs.length=n at*;by_cases b:hd= -1
 ·subst b;go_enter Tryz.func204,Tryz.ntmps204;go_wp2_with(go_at_call 216;refine(i.out).mono ?_;rintro e w' ⟨rfl,rfl⟩);go_ret2;exact⟨rfl,rfl⟩
 ·have l:(hd== -1)=false:=by simpa using b
  rw[Hk b,Hz b];go_enter Tryz.func204,Tryz.ntmps204;go_wp2_with(go_at_call 216;refine(i.out).mono ?_;rintro e w' ⟨rfl,rfl⟩);go_ret2;exact⟨rfl,rfl⟩
def F7(w:World)(p l:Nat)(vc:Value)(S:PS Pk)(h:bH w p l vc S)(i:Nat)(c:PC Pk)(a:tk S i=some c)(m:S.cs.length<=4096):
    Calls Tryz.prog 206 #[.pointer (some ⟨p,0,none⟩),.int .i64 i] w λe w'=>e=.returned (.tuple #[.agg (ix c.x).toArray,.bool true])/\Kp ae w w':=by
 have n:=aa (λW (k:Kp ae w W)=>r6 W p l vc S (h.old k) i (by rw[a];rfl) m);have c0:=h.top.ai;have o:=h.top.lt;obtain⟨_,r,b,_⟩:=di a;simp only[HZ]at b;obtain⟨g,cap,rfl,d,f,j,_,_,_⟩:=h.cell i c b;have q:=(an h.cells rfl).2;clear h a b;obtain⟨⟨fl,id,ln⟩,nx,tb,s⟩:=c;show Calls _ _ _ _ λe w'=>e=.returned (.tuple #[.agg #[.int .u32 (fl:Int),.int .u32 (id:Int),.int .u64 (ln:Int)],.bool true])/\Kp ae w w';simp only at d f j;generalize S.cs.length=N at*;go_enter Tryz.func206,Tryz.ntmps206;go_wp2_with fail;refine(n.out _ (((Kp.refl ae w).alloc _).alloc _)).mono ?_;rintro e t ⟨rfl,rfl⟩;go_wp2_with fail;exact cO (by exact rfl) ((ag.new w [.int .u32 (fl:Int),.int .u32 (id:Int),.int .u64 (ln:Int)] 148).alloc _) _ Tryz.underlying148 rfl c7 (by exact rfl) ⟨rfl,(((Kp.refl ae w).alloc _).alloc _)⟩
def F8(w:World)(p k:Nat)(vc:Value)(S:PS Pk)(R:RP Pk)(h:bH w p k vc S)(B:Rel S R)(j i:Nat)(G:S.qs.length<=262144){F:PS Pk}(hS:S.pop j=(F,(i:Int),true)):
    Calls Tryz.prog 208 #[.pointer (some ⟨p,0,none⟩),.int .i64 j] w λe w'=>e=.returned (.tuple #[.int .i64 i,.bool true])/\r5 w w' p k vc F:=by
 have c0:=h.top.ai;have c1:=h.top.aj;have Q:=B.len;obtain⟨C,o,q⟩:j<S.qs.length/\∃o,S.qs[j]? =some ((i:Int),o):=by
  unfold PS.pop at hS;split at hS
  ·cases hS
  ·rename_i T;have C:j<S.qs.length:=by omega
   refine⟨C,?_⟩;obtain⟨hd,o,q⟩:∃hd o,S.qs[j]? =some (hd,o):=⟨_,_,(HD.2 ⟨C,rfl⟩)⟩
   simp only[HZ,q]at hS;split at hS
   ·cases hS
   ·injection hS with _ hS;injection hS with hS _;exact⟨o,by rw[q,hS]⟩
 have r:¬(i:Int)= -1:=by omega
 have K:=aa (by have:=vf w p k vc S R h B j C G;unfold iB at this;rw[q]at this;simp only at this;rw[Hk r,Hz r]at this;exact this);rcases B.ends q with⟨e,_⟩|⟨c,_,H,D,_,_⟩
 ·exact absurd e r
 obtain⟨U,k1,x,_⟩:=di H;simp only[HZ]at x;have hi:i<S.cs.length:=by omega
 obtain⟨V,W⟩:=h.end j i o q;obtain⟨g,cap,rfl,_,_,_,I,_,L⟩:=h.cell i c x;obtain⟨n1,n2,n3⟩:=h.ne;have M:p≠k:=n1;have N:p≠g:=λe=>n2 (by rw[e];rfl);have O:k≠g:=λe=>n3 (by rw[e];rfl);have X:=λj=>gH h.cells j;have Y:=λj=>h.aD.fz j;have J:=aa h;have l:PF p k (.slice (some ⟨g,0,none⟩) S.cs.length cap) g:=.inr (.inr rfl);have t:PF p k (.slice (some ⟨g,0,none⟩) S.cs.length cap) k:=.inr (.inl rfl);have u:nx S.cs i=c.next:=by unfold nx;rw[x]
 have v:ek S.cs i (-1) false=S.cs.set i {c with next:= -1,queued:=false}:=by unfold ek;rw[x]
 have d:=(J.out.pn j ((i:Int),o) (c.next,o) 0 (.int .i32 c.next) (by omega) q rfl)
 have f:=((Kp.refl (PF p k (.slice (some ⟨g,0,none⟩) S.cs.length cap)) w).set (p:=⟨k,j*2+0,none⟩) (.inl t) (.int .i32 c.next))
 have E:Hid (Nw w (PF p k (.slice (some ⟨g,0,none⟩) S.cs.length cap)) (PF p k (.slice (some ⟨g,0,none⟩) S.cs.length cap))):=Nw.refl _ _;by_cases y:c.next= -1
 ·have s:F= {S with cs:=S.cs.set i {c with next:= -1,queued:=false},qs:=S.qs.set j (-1,-1)}:=by
   have:S.pop j=({S with cs:=S.cs.set i {c with next:= -1,queued:=false},qs:=S.qs.set j (-1,-1)},(i:Int),true):=by
    unfold PS.pop;rw[Hk (by omega)];simp[q,u,y,v]
   rw[this]at hS;injection hS with hS _;exact hS.symm
  rw[s];have a:=((d.pn j (c.next,o) (c.next,-1) 1 (.int .i32 (-1)) (by omega) (by simp[C]) rfl).lH i c {c with next:= -1} 3 (.int .i32 (-1)) (by omega) x rfl).lH i {c with next:= -1} {c with next:= -1,queued:=false} 5 (.bool false) (by omega) (by simp[hi]) rfl;have b:=(((f.set (p:=⟨k,j*2+1,none⟩) (.inl t) (.int .i32 (-1))).set (p:=⟨g,i*6+3,none⟩) (.inl l) (.int .i32 (-1))).set (p:=⟨g,i*6+5,none⟩) (.inl l) (.bool false))
  simp only[J5,Ig,y]at a b;rw[y]at I
  have z:=aa a;have A:=aa b;clear h B hS s H D a b d f v l t q x n1 n2 n3 J u y r;generalize S.qs.length=n at*;generalize S.cs.length=m at*;go_enter Tryz.func208,Tryz.ntmps208;go_wp2_with(go_at_call 204;refine(K.out).mono ?_;rintro e w' ⟨rfl,rfl⟩);go_region;go_wp2;go_ret2;exact⟨rfl,_,z.out.drew,A.out.drew,E.out⟩
 ·have s:F= {S with cs:=S.cs.set i {c with next:= -1,queued:=false},qs:=S.qs.set j (c.next,o)}:=by
   have:S.pop j=({S with cs:=S.cs.set i {c with next:= -1,queued:=false},qs:=S.qs.set j (c.next,o)},(i:Int),true):=by
    unfold PS.pop;rw[Hk (by omega)];simp[q,u,y,v]
   rw[this]at hS;injection hS with hS _;exact hS.symm
  have P:(c.next== -1)=false:=by simpa using y
  rw[s];have a:=(d.lH i c {c with next:= -1} 3 (.int .i32 (-1)) (by omega) x rfl).lH i {c with next:= -1} {c with next:= -1,queued:=false} 5 (.bool false) (by omega) (by simp[hi]) rfl;have b:=((f.set (p:=⟨g,i*6+3,none⟩) (.inl l) (.int .i32 (-1))).set (p:=⟨g,i*6+5,none⟩) (.inl l) (.bool false))
  simp only[J5,Ig]at a b;have z:=aa a;have A:=aa b;clear h B hS s H D a b d f v l t q x n1 n2 n3 J u y r;generalize S.qs.length=n at*;generalize S.cs.length=m at*;go_enter Tryz.func208,Tryz.ntmps208;go_wp2_with(go_at_call 204;refine(K.out).mono ?_;rintro e w' ⟨rfl,rfl⟩);go_region;go_wp2;go_ret2;exact⟨rfl,_,z.out.drew,A.out.drew,E.out⟩
def Ed(w:World)(p B:Nat)(vc:Value)(S:PS Pk)(R:RP Pk)(h:bH w p B vc S)(C:Rel S R)(i:Nat){S2:PS Pk}{x:Pk}(hS:S.hl s_ i=(S2,x,0)):
    Calls Tryz.prog 209 #[.pointer (some ⟨p,0,none⟩),.int .i64 i] w λe w'=>e=.returned (.tuple #[.agg (ix x).toArray,.int .i64 0])/\r5 w w' p B vc S2:=by
 obtain⟨c,f,s⟩:∃c,tk S i=some c/\c.queued=false:=by
  unfold PS.hl at hS;cases f:tk S i with
  |none=>rw[f]at hS;cases hS
  |some c=>
   rw[f]at hS
   refine⟨c,rfl,?_⟩;cases E:c.queued with
   |false=>rfl
   |true=>simp only[E,if_true]at hS;cases hS
 have ac:S2= {S with cs:=S.cs.set i ⟨s_,S.free,false,false⟩,free:=i,n:=S.n-1}/\x=c.x:=by
  unfold PS.hl at hS;rw[f]at hS
  simp only[s,Jo,Jp,HZ]at hS;injection hS with h1 F;injection F with F _;exact⟨h1.symm,F.symm⟩
 obtain⟨rfl,rfl⟩:=ac;have aC:=C.len;have ax:=aa (λW (k:Kp ae w W)=>r6 W p B vc S (h.old k) i (by rw[f];rfl) aC);have c0:=h.top.ai;have aE:=h.top.lt;obtain⟨_,h1,E,_⟩:=di f;simp only[HZ]at E;obtain⟨g,cap,rfl,G,H,I,_,_,J⟩:=h.cell i c E;rw[s]at J
 have aF:=(an h.cells rfl).2;have aG: -4096<=S.n/\S.n<=4096:=by have:=C.n;have:=C.count;have:=C.iu;have:=C.room;omega
 have hi:i<S.cs.length:=by omega
 have az:=aa h;have aA:p≠g:=λe=>h.ne.2.1 (by rw[e];rfl);clear h f E hS s C;obtain⟨⟨fl,id,ln⟩,aI,tb,qb⟩:=c;simp only at G H I;show Calls _ _ _ _ λe w'=>e=.returned (.tuple #[.agg #[.int .u32 (fl:Int),.int .u32 (id:Int),.int .u64 (ln:Int)],.int .i64 0])/\_;generalize hN:S.cs.length=N at*;have aB:=aa hN;clear hN;refine al ?_;intro PP aJ;go_enter Tryz.func209,Tryz.ntmps209;go_wp2_with fail;refine(ax.out _ (((Kp.refl ae w).alloc _).alloc _)).mono ?_;rintro e w2 ⟨rfl,rfl⟩;go_wp2_with fail;have t:Hid (Kp ae w (((w.alloc (.cells #[.int .u32 0,.int .u32 0,.int .u64 0] 148)).alloc (.cells #[.int .u32 0,.int .u32 0,.int .u64 0] 148)).alloc (.cells #[.int .u32 (fl:Int),.int .u32 (id:Int),.int .u64 (ln:Int)] 148))):=(((Kp.refl ae w).alloc _).alloc _).alloc _;have K:=aa (((ag.new w [.int .u32 0,.int .u32 0,.int .u64 0] 148).alloc (.cells #[.int .u32 0,.int .u32 0,.int .u64 0] 148)).alloc (.cells #[.int .u32 (fl:Int),.int .u32 (id:Int),.int .u64 (ln:Int)] 148));have L:Hid (ag (((w.alloc (.cells #[.int .u32 0,.int .u32 0,.int .u64 0] 148)).alloc (.cells #[.int .u32 0,.int .u32 0,.int .u64 0] 148)).alloc (.cells #[.int .u32 (fl:Int),.int .u32 (id:Int),.int .u64 (ln:Int)] 148)) (w.heap.size+1+1) [.int .u32 (fl:Int),.int .u32 (id:Int),.int .u64 (ln:Int)] 148):=by
  have:=ag.new ((w.alloc (.cells #[.int .u32 0,.int .u32 0,.int .u64 0] 148)).alloc (.cells #[.int .u32 0,.int .u32 0,.int .u64 0] 148)) [.int .u32 (fl:Int),.int .u32 (id:Int),.int .u64 (ln:Int)] 148;simp only[HB]at this;exact this
 generalize ((w.alloc (.cells #[.int .u32 0,.int .u32 0,.int .u64 0] 148)).alloc (.cells #[.int .u32 0,.int .u32 0,.int .u64 0] 148)).alloc (.cells #[.int .u32 (fl:Int),.int .u32 (id:Int),.int .u64 (ln:Int)] 148)=W2 at*;have o:=aa (az.out.old t.out);have f0:=o.out.top.ai;have f3:=o.out.top.aK;refine ar 11 (by kernel_rfl) (λ_ _ _ _ _ h=>h) ?_;simp only[aO]
 repeat((first
    |refine ic (by exact rfl) 371 _ rfl (.agg #[.int .u32 0,.int .u32 0,.int .u64 0,.int .i32 S.free,.bool false,.bool false]) (λ_=>by kernel_rfl) ?_
    |refine ay (by rfl) (by as_aux_lemma=>intro W D;have e0:=D.cell f0 (λx=>x);have e3:=D.cell f3 (λx=>x);have e5:((i:Int)<(N:Int))=True:=(by simp;omega);go_simp;exact rfl) ?_
    |refine ah (by rfl) ?_);simp only[Act.put,aH])
 intro W5 m;have u:=aa (o.out.old m);have M:=aa (t.out.trans m);have O:=aa (K.out.kp m (λx=>x));have P:=aa (L.out.kp m (λx=>x));clear m f0 f3 o t K L;have Q:W5.ownsRow 0 371 6 (.slice (some ⟨g,0,none⟩) N cap) N (S.cs.flatMap cx):=by
  have:=u.out.cells;simp only[aB.out]at this;exact this
 refine bS rfl 371 (.tmp 46) (.tmp 45) rfl cx 6 hI S.cs Q i (by rw[aB.out];omega) ⟨s_,S.free,false,false⟩ rfl rfl rfl (r7 _) rfl ?_;intro W6 ho f;have d:=u.out.zA i _ ho f;have T:PF p B (.slice (some ⟨g,0,none⟩) N cap) g:=.inr (.inr rfl);have y:PF p B (.slice (some ⟨g,0,none⟩) N cap) p:=.inl rfl;have z:Kp (PF p B (.slice (some ⟨g,0,none⟩) N cap)) w W6:=(M.out.mono (λ_ _ x=>x.elim)).trans (f.mono (λj hj e=>by subst e;exact T));have ad:=aa d;have af:=aa z;have U:=aa (O.out.kp f (λe=>by omega));have A:=aa (P.out.kp f (λe=>by omega));have aL:=A.out.lt;have V:=(d.tC (i:Int)).qC (S.n-1);have X:=(z.set (p:=⟨p,3,none⟩) (.inl y) (.int .i32 (i:Int))).set (p:=⟨p,4,none⟩) (.inl y) (.int .i64 (S.n-1));have Y:=aa V;have aj:=aa X;have g3:=d.top.aK;have g4:=d.top.a_;have ak:=d.top.fz 3;have ao:=d.top.fz 4;clear d z ho f Q u M O P V X T y az ax c0 G H I J;have q:p≠w.heap.size:=by omega
 have r:p≠w.heap.size+1+1:=by omega
 have Z:=aa ((U.out.bJ (a:=⟨p,3,none⟩) q.symm (.int .i32 (i:Int))).bJ (a:=⟨p,4,none⟩) q.symm (.int .i64 (S.n-1)));have aq:=aa ((A.out.bJ (a:=⟨p,3,none⟩) r.symm (.int .i32 (i:Int))).bJ (a:=⟨p,4,none⟩) r.symm (.int .i64 (S.n-1)));go_upto_region 12 with fail;generalize (W6.setCell ⟨p,3,none⟩ (.int .i32 (i:Int))).setCell ⟨p,4,none⟩ (.int .i64 (S.n-1))=W7 at*;clear g3 g4 ak ao ad af U A
 go_wp2_with(first
    |(refine dc rfl 148 (.tmp 7) rfl aq.out _ rfl Tryz.underlying148 rfl c7 ?_)
    |(refine b0 rfl 148 (.tmp 4) (.tmp 59) rfl Z.out [.int .u32 (fl:Int),.int .u32 (id:Int),.int .u64 (ln:Int)] rfl rfl c7 rfl (by intro v hv;simp at hv;rcases hv with rfl|rfl|rfl<;>rfl) ?_))
 intro W8 l _ D
 have au:=aa (Y.out.kp (D (λb=>b=w.heap.size) W7 (Kp.refl _ _) (.inl rfl)) (λb l e=>by
  rcases l with l|l|l
  ·omega
  ·have:=Y.out.aD;subst l e;have F:=Z.out.inj this;exact absurd F.2 (by decide)
  ·have l:some g=some b:=l;injection l with l
   omega))
 have av:=aa (D _ _ aj.out (.inr (Hm _)));have aw:=aa l;clear l D;go_wp2_with fail;exact cO (by exact rfl) aw.out _ Tryz.underlying148 rfl c7 (by exact rfl) (aJ.out _ _ ⟨rfl,_,au.out,av.out,Nw.refl _ _⟩)
end cq
namespace cq
open Go Go.RowKit Go.Shelf
section
variable {w:World} {cb:Nat} {f:c8} {room nb na:Nat} {c:hh} {I:List It}
def iC(z:Nat)(c:hh):Bool:=match c.A with| []=>false|a::_=>decide (a.ao<c.base+z)
def zL(h:cD w cb f room nb na c.base c.B c.A c.P c.m)(q:bR (bg f.k) room c I)(bx:Nat)(s:ag w bx [.pointer (some ⟨cb,0,none⟩)] 214)(i:∀a∈c.A,a.ao<18446744073709551616):
    Calls Tryz.prog 222 #[.pointer (some ⟨bx,0,none⟩)] w λe w'=>e=.returned (.tuple #[.int .u64 (hg c.A).1.ao,.bool (iC (bg f.k) c)])/\Kp ae w w':=by
 have F:=h.top.a_;have C:=s.ai;have b:=aa (mi h.aJ);have t:=s.lt;have u:=aa (λW (k:Kp ae w W) r D=>py (h.old k) r D q.base);refine al ?_;intro PP p;have v:=aa i;have g:=aa q.pj;clear h q s i;cases d:c.A with
 |nil=>
  have j:iC (bg f.k) c=false:=by unfold iC;rw[d]
  rw[j,d]at p
  rw[d]at b
  have b:Hid (Calls Tryz.prog 189 #[.pointer (some ⟨f.ab,0,none⟩)] w λe w'=>e=.returned (.tuple #[.int .u64 0,.agg #[.int .u32 0,.int .u32 0,.int .u64 0],.bool false])/\Kp ae w w'):=b;clear j u v g d;go_enter Tryz.func222,Tryz.ntmps222;go_wp2_with fail;refine b.out.mono ?_;rintro e w1 ⟨rfl,k1⟩;have l:=aa (k1.alloc (.cells #[.int .u32 0,.int .u32 0,.int .u64 0] 148));clear k1 b;go_wp2_with fail;exact p.out _ _ ⟨rfl,l.out⟩
 |cons a G=>
  have j:iC (bg f.k) c=decide (a.ao<c.base+bg f.k):=by unfold iC;rw[d]
  rw[j,d]at p
  rw[d]at b
  have n:=g.out a (by rw[d];simp);have o:=v.out a (by rw[d];simp);have y:Hid (decide (c.base<=a.ao/\a.ao<c.base+bg f.k)=decide (a.ao<c.base+bg f.k)):=by show _=_;rw[IQ];omega
  obtain⟨r,H,⟨fl,id,ln⟩⟩:=a;simp only at n o y;have b:Hid (Calls Tryz.prog 189 #[.pointer (some ⟨f.ab,0,none⟩)] w λe w'=>e=.returned (.tuple #[.int .u64 (r:Int),.agg #[.int .u32 (fl:Int),.int .u32 (id:Int),.int .u64 (ln:Int)],.bool true])/\Kp ae w w'):=b;clear j v g d n;go_enter Tryz.func222,Tryz.ntmps222;go_wp2_with fail;refine b.out.mono ?_;rintro e w1 ⟨rfl,k1⟩;have l:=aa (k1.alloc (.cells #[.int .u32 (fl:Int),.int .u32 (id:Int),.int .u64 (ln:Int)] 148));have b1:=k1.cell C (λx=>x);have z:bx<w1.heap.size:=HP t k1.size;clear k1 b;go_wp2_with fail;refine(u.out _ l.out r o).mono ?_;rintro e J ⟨rfl,k2⟩;rw[y.out];have E:=aa (l.out.trans k2);clear k2 l u;go_wp2_with fail;exact p.out _ _ ⟨rfl,E.out⟩
end
def vg(w:World)(a:Nat):Nat:=match w.cell? ⟨a,0,none⟩with|some (.slice _ n _)=>n|_=>0
def qZ{w:World}{F:Nat->Prop}{a room n:Nat}{S:List (En Pk)}(h:Hp w F a room n S):vg w a=S.length:=by
 obtain⟨vc,l,rfl,hm,b,c,d⟩:=h;obtain⟨e,cap,rfl⟩:=aN hm.row;unfold vg;rw[hm.top.ai,<-b.len]
def bR.zM{sz room:Nat}{c:hh}{I:List It}(h:bR sz room c I):∀a∈c.A,a.ao<18446744073709551616:=λa ha=>by
 obtain⟨i,hi,e⟩:=h.D6 ha;rw[<-e];exact h.e9 i hi
structure BP (w1:World) (cb bx:Nat) (f:c8) (room nb na r:Nat) (I:List It) (wr:World) (f':c8) (c':hh):Prop where
 mem:cD wr cb f' room nb na c'.base c'.B c'.A c'.P c'.m
 tI:cK w1 cb f wr f'
 rel:bR (bg f'.k) room c' I
 base:c'.base=r
 low:c'.B=[]
 k:f'.k=f.k
 ab:f'.ab=f.ab
 box:ag wr bx [.pointer (some ⟨cb,0,none⟩)] 214
def vh{w:World}{cb:Nat}{f:c8}{room nb na:Nat}{c:hh}{I:List It}(h:cD w cb f room nb na c.base c.B c.A c.P c.m)(hR:bR (bg f.k) room c I)(hd:Dn (bg f.k) c)(hB:c.B=[])(an:room<=4096)(r:Nat)(h1:c.base<=r)(hr:r<18446744073709551616)(b:∀i∈I,r<=i.ao):
    Calls Tryz.prog 214 #[.pointer (some ⟨cb,0,none⟩),.int .u64 r] w λe w'=>e=.returned (.tuple #[])/\
     ∃j g,cD w' cb j room nb na g.base g.B g.A g.P g.m/\cK w cb f w' j/\bR (bg j.k) room g I/\Dn (bg j.k) g/\g.base=r/\g.B=[]/\j.k=f.k:=by
 have v:=aa (hR.FZ hd hB h1 hr b);have aE:=aa h;have J:=aa (ag.new w [.pointer (some ⟨cb,0,none⟩)] 214);have U:Hid (Kp ae w (w.alloc (.cells #[.pointer (some ⟨cb,0,none⟩)] 214))):=(Kp.refl ae w).alloc _;have hsz:(w.alloc (.cells #[.pointer (some ⟨cb,0,none⟩)] 214)).heap.size=w.heap.size+1:=HB _ _;have au:¬f.all cb w.heap.size:=λe=>by have:=h.xW e;omega
 have aF:=h.top.lt;have av:=aa hB;refine al ?_;intro PP aG;clear h hR hd hB h1 b;go_enter Tryz.func214,Tryz.ntmps214;go_upto_region 1 with fail;generalize w.alloc (.cells #[.pointer (some ⟨cb,0,none⟩)] 214)=w1 at*;have y:=aa (aE.out.old U.out);have b0:=J.out.ai;have c2:=y.out.top.aq;have aw:=y.out.top.fz 2;have aH:w.heap.size<w1.heap.size:=by omega
 go_wp2_with fail;have z:=aa (y.out.tE r);have ax:w.heap.size≠cb:=by omega
 have K:=aa (J.out.bJ (a:=⟨cb,2,none⟩) ax (.int .u64 (r:Int)));generalize w1.setCell ⟨cb,2,none⟩ (.int .u64 (r:Int))=w2 at*;have V:=aa (zL (c:= {c with base:=r}) z.out.1 v.out w.heap.size K.out v.out.zM);refine V.out.mono ?_;rintro e w3 ⟨rfl,k3⟩;have W:BP w1 cb w.heap.size f room nb na r I w3 f {c with base:=r}:=⟨z.out.1.old k3,z.out.2.trans (cK.old k3),v.out,rfl,av.out,rfl,rfl,K.out.kp k3 (λx=>x)⟩
 have ay:=aa W;clear k3 W V z K y b0 c2 aw v J;go_wp2_with fail;go_loopw [5,6] (λs5 s6 wr=>∃j g,s5=.int .u64 ((hg g.A).1.ao:Nat)/\s6=.bool (iC (bg j.k) g)/\Hid (BP w1 cb w.heap.size f room nb na r I wr j g)) (λ_ _ wr=>vg wr f.ab)
 case atStart=>exact⟨f,{c with base:=r},rfl,rfl,ay.out⟩
 case round=>
  obtain⟨j,g,rfl,rfl,b⟩:=hrel;by_cases d:iC (bg j.k) g=true
  ·obtain⟨a,t,u,L⟩:∃a t,g.A=a::t/\a.ao<g.base+bg j.k:=by
    unfold iC at d;cases u:g.A with
    |nil=>rw[u]at d;cases d
    |cons a t=>rw[u]at d;exact⟨a,t,rfl,Ji d⟩
   have C:=aa d;clear d;obtain⟨ar,ac,⟨fl,id,ln⟩⟩:=a;simp only at L;have X:(hg g.A).1.ao=ar:=by rw[u];rfl
   rw[C.out,X];have p:Hp wr j.FA j.ab room na (⟨ar,ac,⟨fl,id,ln⟩⟩::t):=by have:=b.out.mem.aJ;rw[u]at this;exact this
   have M:=qZ p;rw[b.out.ab]at M
   have az:=aa M;have D:=aa (vb p);have D:Hid (Calls Tryz.prog 190 #[.pointer (some ⟨j.ab,0,none⟩)] wr λe w'=>e=.returned (.tuple #[.int .u64 (ar:Int),.agg #[.int .u32 (fl:Int),.int .u32 (id:Int),.int .u64 (ln:Int)],.bool true])/\Hp w' j.FA j.ab room na t/\Kp j.FA wr w'):=D;have aI:=aa u;have aA:=aa L;have b0:=b.out.box.ai;have c4:=b.out.mem.top.a_;have Y:g.R.items.length<room:=by have h1:=b.out.rel.len;have S:=b.out.rel.cap;rw[u,Hs]at h1;omega
   have aB:=aa Y;clear u L X p M Y C;go_wp2_with fail;refine D.out.mono ?_;rintro e w4 ⟨rfl,p4,k4⟩;have N:=aa (b.out.mem.wm p4 k4 (Nw.refl _ _));have q:¬j.all cb w.heap.size:=λe=>by
    rcases b.out.tI.nw _ e with h|h
    ·exact au h
    ·omega
   have E:=b.out.box.kp k4 (λe=>q ⟨j.FA,by simp[c8.parts],e⟩);have Z:=aa (N.out.1.old ((Kp.refl ae w4).alloc (.cells #[.int .u32 (fl:Int),.int .u32 (id:Int),.int .u64 (ln:Int)] 148)));have ad:=aa (N.out.2.trans (cK.old ((Kp.refl ae w4).alloc (.cells #[.int .u32 (fl:Int),.int .u32 (id:Int),.int .u64 (ln:Int)] 148))));have af:=aa (E.alloc (.cells #[.int .u32 (fl:Int),.int .u32 (id:Int),.int .u64 (ln:Int)] 148));have b4:=E.ai;have aK:=E.lt;have ah:=aa (zI (A:=t) Z.out b.out.rel aB.out an ⟨fl,id,ln⟩ ar);have aC:=aa q;clear p4 k4 E N D b0 c4 q;go_wp2_with fail;refine ah.out.mono ?_;rintro e w6 ⟨rfl,f6,P6,R6,m6,aj,O,F,n⟩;have G:=b.out.rel.sink aI.out aA.out n.a1 n.a2 n.a3 n.a4 n.a5 n.a6 n.a7;rw[<-F.1]at G
   obtain⟨T,o⟩:∃T:hh,T= {g with A:=t,P:=P6,R:=R6,m:=m6}:=⟨_,rfl⟩
   rw[<-o]at G
   have H:=af.out.kp O.kp aC.out;have s:BP w1 cb w.heap.size f room nb na r I w6 f6 T:=⟨by rw[o];exact aj,(b.out.tI.trans ad.out).trans O,G,by rw[o];exact b.out.base,by rw[o];exact b.out.low,F.1.trans b.out.k,F.2.trans b.out.ab,H⟩
   have l:=aa s;have ak:=aa (zL s.mem s.rel w.heap.size H s.rel.zM);have aD:Hid (T.A=t):=aa (by rw[o]);have b6:=H.ai;clear aj O F n G H s o ah af Z ad b4;go_wp2_with fail;refine ak.out.mono ?_;rintro e w7 ⟨rfl,k7⟩;have Q:Hid (BP w1 cb w.heap.size f room nb na r I w7 f6 T):=aa ⟨l.out.mem.old k7,l.out.tI.trans (cK.old k7),l.out.rel,l.out.base,l.out.low,l.out.k,l.out.ab,l.out.box.kp k7 (λx=>x)⟩;clear k7 ak l b6;go_wp2_with fail;go_roundw
   case rel=>exact⟨f6,T,rfl,rfl,Q.out⟩
   case measure=>
    have S:=qZ Q.out.mem.aJ;rw[Q.out.ab,aD.out]at S
    have h3:=az.out;rw[Hs]at h3
    omega
  ·have d:iC (bg j.k) g=false:=by simpa using d
   rw[d];have C:=aa d;clear d;go_wp2_with fail;go_end0;refine aG.out _ _ ⟨rfl,j,g,b.out.mem,(cK.old U.out).trans b.out.tI,b.out.rel,b.out.rel.done (λa t u=> ?_),b.out.base,b.out.low,b.out.k⟩;have S:=C.out;unfold iC at S;rw[u]at S
   have:=of_decide_eq_false S;omega
end cq
end Go.Proofs.YtincjochpkdnfaaGreatDoor
