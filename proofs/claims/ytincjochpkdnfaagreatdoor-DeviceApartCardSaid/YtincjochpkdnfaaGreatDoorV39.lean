/- A device asked: its lanes, Boxed, Refused, Stats, Tick (layer 37). -/
import Derived.Test.YtincjochpkdnfaaGreatDoorV34
import Derived.Test.YtincjochpkdnfaaGreatDoorV36
import Derived.Test.YtincjochpkdnfaaGreatDoorV37
import Derived.Conc.LoneSelectN
set_option linter.all false
set_option maxHeartbeats 2000000
set_option maxRecDepth 100000
namespace Go.Proofs.YtincjochpkdnfaaGreatDoor
section
open Go Go.RowKit Go.Shelf
def GG{w:World}{bb cb cap:Nat}{l:List ByteArray}(h:iz w bb cb cap l):Calls Tryz.prog 31 #[.pointer (some ⟨bb,0,none⟩)] w λe w'=>e=.returned (.int .i64 l.length)/\w=w':=by
 obtain⟨s,r,a⟩:=h.ch;have c0:=h.top.ai;have b:∀ty,(Builtin.len_ #[130] ty #[.chan (some cb)]).run Tryz.prog w=.ok (.int .i64 l.length) w:=λty=>by
  rw[Go.Conc.run_len_chan _ ty Tryz.underlying130 a];simp[goInt,strs]
 clear h a;go_enter Tryz.func31,Tryz.ntmps31;go_wp2;go_ret;exact⟨rfl,rfl⟩
def vC{w:World}{d:aX}(h:c2 w d)(i:Nat)(hi:i<d.ls.length):Calls Tryz.prog 30 #[.pointer (some ⟨d.db,0,none⟩),.int .i64 i] w λe w'=>e=.returned (.pointer (some ⟨d.ls[i].lb,0,none⟩))/\w=w':=by
 obtain⟨g,n,k,l⟩:=aY h.row (by omega);have a:=h.row;rw[k]at a
 have m:=bu a i (u:=.pointer (some ⟨d.ls[i].lb,0,none⟩)) (by
  have:=flat_get lO 1 ko d.ls i 0 (by decide);rw[Iu,Ig]at this
  rw[this,Hn hi];rfl)
 have t0:w.cell? ⟨d.db,0,none⟩=some d.v:=h.top.ai;rw[k]at t0
 obtain⟨lb,c⟩:∃lb,d.ls[i].lb=lb:=⟨_,rfl⟩
 obtain⟨db,b⟩:∃db,d.db=db:=⟨_,rfl⟩
 obtain⟨j,f⟩:∃j,d.ls.length=j:=⟨_,rfl⟩
 rw[c]at m ⊢
 rw[b,f]at t0
 rw[b];have o:¬(i:Int)<0:=by omega
 have p:¬(j:Int)<=i:=by omega
 have q:(i:Int)<j:=by omega
 clear h a k l c b f hi;go_enter Tryz.func30,Tryz.ntmps30;go_wp2;go_ret;exact⟨rfl,rfl⟩
def sG{w:World}{d:aX}(h:c2 w d)(i:Nat)(hi:i<d.ls.length):Calls Tryz.prog 14 #[.pointer (some ⟨d.db,0,none⟩),.int .i64 i] w λe w'=>e=.returned (.int .i64 d.ls[i].q.length)/\w=w':=by
 have j:=aa (vC h i hi);have f:=h.ln _ (Ht hi);have l:=f.top.cell 1 (v:=.pointer (some ⟨d.ls[i].xb,0,none⟩)) rfl;have k:=aa (GG f.bx);obtain⟨lb,a⟩:∃lb,d.ls[i].lb=lb:=⟨_,rfl⟩
 obtain⟨xb,b⟩:∃xb,d.ls[i].xb=xb:=⟨_,rfl⟩
 obtain⟨db,c⟩:∃db,d.db=db:=⟨_,rfl⟩
 obtain⟨q,g⟩:∃q,d.ls[i].q=q:=⟨_,rfl⟩
 rw[a,c]at j
 rw[a,b]at l
 rw[b,g]at k
 rw[c,g];clear h f a b c g hi;go_enter Tryz.func14,Tryz.ntmps14;go_wp2_with fail;refine j.out.mono ?_;rintro e w1 ⟨rfl,rfl⟩;go_wp2_with fail;refine k.out.mono ?_;rintro e w1 ⟨rfl,rfl⟩;go_wp2_with fail;go_ret;exact⟨rfl,rfl⟩
def yj{w:World}{d:aX}(h:c2 w d)(i:Nat)(hi:i<d.ls.length)(k:Nat)(c:k<32):Calls Tryz.prog 16 #[.pointer (some ⟨d.db,0,none⟩),.int .i64 i,.int .i64 k] w λe w'=>e=.returned (.int .u64 (d.ls[i].rf.getD k 0:Nat))/\w=w':=by
 have j:=aa (vC h i hi);have f:=h.ln _ (Ht hi);have l2:=f.top.cell (2+k) (wI _ (by rw[f.nrf];exact c));obtain⟨lb,a⟩:∃lb,d.ls[i].lb=lb:=⟨_,rfl⟩
 obtain⟨x,g⟩:∃x,d.ls[i].rf.getD k 0=x:=⟨_,rfl⟩
 obtain⟨db,b⟩:∃db,d.db=db:=⟨_,rfl⟩
 rw[a,b]at j
 rw[a,g]at l2
 rw[b,g];have l:=Df lb k c;have m:¬(k:Int)<0:=by omega
 have n:¬(32:Int)<=k:=by omega
 clear h f a g b hi c;go_enter Tryz.func16,Tryz.ntmps16;go_wp2_with fail;refine j.out.mono ?_;rintro e w1 ⟨rfl,rfl⟩;go_wp2_with fail;go_ret;exact⟨rfl,rfl⟩
def c2.one{w w':World}{d:aX}(h:c2 w d)(i:Nat)(hi:i<d.ls.length){n:Po}(t:fZ w d.ls[i].f n w'):∃c,c2 w' {d with ls:=d.ls.set i {d.ls[i]with f:=c,p:=n}}/\Kp d.all w w'/\(∀x,({d with ls:=d.ls.set i {d.ls[i]with f:=c,p:=n}}:aX).all x->d.all x\/w.heap.size<=x)/\(∀x,({d with ls:=d.ls.set i {d.ls[i]with f:=c,p:=n}}:aX).aJ x->d.aJ x\/w.heap.size<=x):=by
 have a:d.ls[i]∈d.ls:=Ht hi;have s:=h.ln _ a;have u:h5 w w d.ls[i] d.room d.ls[i].q d.ls[i].f d.ls[i].p:=⟨s,Kp.refl _ _,Nw.refl _ _,rfl,rfl,rfl⟩
 obtain⟨c,l,r,v⟩:=u.tI t;have j:∀x,Ln.all {d.ls[i]with f:=c,p:=n} x->d.ls[i].all x\/w.heap.size<=x:=λx g=>by
  rcases g with e|e|e|e
  ·exact .inl (.inl e)
  ·exact .inl (.inr (.inl e))
  ·exact .inl (.inr (.inr (.inl e)))
  ·rcases v x e with o|o
   ·exact .inl (.inr (.inr (.inr o)))
   ·exact .inr o
 have k:∀x,Ln.aJ {d.ls[i]with f:=c,p:=n} x->d.ls[i].aJ x\/w.heap.size<=x:=λx g=>by
  rcases g with e|⟨o,y⟩
  ·rcases j x e with e|e
   ·exact .inl (.inl e)
   ·exact .inr e
  ·exact .inl (.inr ⟨by have:=l.lo;exact(show d.ls[i].f.lo=c.lo from this.symm)▸o,by have:=l.hi;exact(show d.ls[i].f.hi=c.hi from this.symm)▸y⟩)
 refine⟨c,h.upd hi _ r (λx _ e=>.inr (.inr (.inr e))) l.ln rfl k,r.mono (λb _ e=>⟨_,a,.inr (.inr (.inr e))⟩),λx ⟨m,hm,g⟩=> ?_,λx ⟨m,hm,g⟩=> ?_⟩
 ·rcases Il hm with hm|rfl
  ·exact .inl ⟨m,hm,g⟩
  ·exact(j x g).imp_left λe=>⟨_,a,e⟩
 ·rcases Il hm with hm|rfl
  ·exact .inl ⟨m,hm,g⟩
  ·exact(k x g).imp_left λe=>⟨_,a,e⟩
def AD(ls:List Ln)(i:Nat)(hi:i<ls.length)(a:dy):(ls.set i {ls[i]with f:=a,p:=ls[i].p}).map aC=ls.map aC:=by
 rw[Is];show(ls.map aC).set i (aC ls[i])=_;rw[show aC ls[i]=(ls.map aC)[i]'(by rw[Hq];exact hi) by rw[Ip],KJ]
def sH{w:World}{d:aX}(h:c2 w d)(i:Nat)(hi:i<d.ls.length)(hn:cq d.ls[i].p.s.bk<9223372036854775807):Calls Tryz.prog 15 #[.pointer (some ⟨d.db,0,none⟩),.int .i64 i] w λe w'=>e=.returned (.agg (bZ d.ls[i].p.s).toArray)/\∃ls,c2 w' {d with ls:=ls}/\ls.map aC=d.ls.map aC/\Kp d.all w w'/\(∀x,({d with ls:=ls}:aX).all x->d.all x\/w.heap.size<=x)/\(∀x,({d with ls:=ls}:aX).aJ x->d.aJ x\/w.heap.size<=x):=by
 have U:Hid (∀W,Kp ae w W->Calls Tryz.prog 30 #[.pointer (some ⟨d.db,0,none⟩),.int .i64 i] W λe w'=>e=.returned (.pointer (some ⟨(d.ls[i]'hi).lb,0,none⟩))/\W=w'):=aa (λW k=>vC (h.old k) i hi);have Q:=h.ln _ (Ht hi);have R:=Q.top.cell 0 (v:=.pointer (some ⟨d.ls[i].f.pb,0,none⟩)) rfl;have V:=aa (λW (k:Kp ae w W)=>CF (Q.po.old k) hn);have hlen:d.ls[i].p.s.ref.length=32:=Q.po.sh.ok.len;obtain⟨l,c⟩:=pU hlen;have H:=aa h;have A:=aa (λb (S:d.all b)=>show b<w.heap.size from by obtain⟨m,hm,e⟩:=S;exact(h.ln m hm).lt (.inl e));have B:=aa (λb (S:d.aJ b)=>show b<w.heap.size from by obtain⟨m,hm,e⟩:=S;exact(h.ln m hm).lt e);obtain⟨lb,n⟩:∃lb,(d.ls[i]'hi).lb=lb:=⟨_,rfl⟩
 obtain⟨pb,o⟩:∃pb,(d.ls[i]'hi).f.pb=pb:=⟨_,rfl⟩
 obtain⟨db,q⟩:∃db,d.db=db:=⟨_,rfl⟩
 obtain⟨T,g⟩:∃T,bZ (d.ls[i]'hi).p.s=T:=⟨_,rfl⟩
 rw[n,q]at U
 rw[n,o]at R
 rw[o,g]at V
 rw[g]at l c
 have r:=aa l;have C:=aa c;have t:=aa (ag.new w gF 56);have a:=aa ((Kp.refl ae w).alloc (.cells gF.toArray 56));rw[g];have u:∀PP:Ending->World->Prop,(∀e w',e=.returned (.agg T.toArray)->(∃ls,c2 w' {d with ls:=ls}/\ls.map aC=d.ls.map aC/\Kp d.all w w'/\(∀x,({d with ls:=ls}:aX).all x->d.all x\/w.heap.size<=x)/\(∀x,({d with ls:=ls}:aX).aJ x->d.aJ x\/w.heap.size<=x))->PP e w')->Calls Tryz.prog 15 #[.pointer (some ⟨db,0,none⟩),.int .i64 i] w PP:=by
  intro PP ak;clear h Q n o q g hlen l c hn;go_enter Tryz.func15,Tryz.ntmps15;go_upto_region 1 with fail;rw[t_];obtain⟨X,y⟩:∃X,w.alloc (.cells gF.toArray 56)=X:=⟨_,rfl⟩
  rw[y]at t a ⊢
  have z:Hid (X.heap.size=w.heap.size+1):=aa (by rw[<-y,HB]);have R:=a.out.cell R (λx=>x);clear y;go_wp2_with fail;refine(U.out _ a.out).mono ?_;rintro e w1 ⟨rfl,rfl⟩;go_wp2_with fail;refine(V.out _ a.out).mono ?_;rintro e w2 ⟨rfl,D⟩;obtain⟨f',E,Y,F,G⟩:=(H.out.old a.out).one i hi D;have I:¬d.all w.heap.size:=λe=>by have:=A.out _ e;omega
  have Z:=aa (t.out.kp Y I);have ac:=aa E;have ad:=aa Y;have af:=aa F;have J:=aa G;clear D E Y F G R U V t I;go_wp2_with(refine aV rfl 56 (.tmp 4) (.tmp 15) rfl Z.out T (by rw[r.out];rfl) rfl rfl (by rw[r.out];exact kS) C.out ?_;intro W7 K L;have ah:=aa K;have M:=aa L;clear K L);have ai:∀m∈d.ls.set i {d.ls[i]'hi with f:=f',p:=(d.ls[i]'hi).p},¬m.aJ w.heap.size:=λm hm e=>by
   rcases J.out _ ⟨m,hm,e⟩with N|N
   ·have:=B.out _ N;omega
   ·rw[z.out]at N;omega
  have O:=ac.out.qh M.out (λx e=>by have e:x=w.heap.size:=e;have:=H.out.hsz;show d.d_<=x;omega) (λx e N=>by have e:x=w.heap.size:=e;subst e;have:=(an H.out.row N).2;omega) (λx e m hm P=>by have e:x=w.heap.size:=e;subst e;exact ai m hm P);have aj:Kp d.all w W7:=((a.out.mono (λ_ _ x=>x.elim)).trans ad.out).then M.out (λb S e=>by have e:b=w.heap.size:=e;omega);exact dk (by exact rfl) ah.out _ Tryz.underlying56 rfl (by rw[r.out];exact kS) (by exact rfl) (ak _ _ rfl ⟨_,O,AD _ _ hi _,aj,λx P=>(af.out x P).imp_right (λe=>by rw[z.out]at e;omega),λx P=>(J.out x P).imp_right (λe=>by rw[z.out]at e;omega)⟩)
 have j:=u _ (λe w' h1 h2=>And.intro h1 h2);rw[<-q]at j
 exact j
structure dK (w w':World) (d:aX) (ls:List Ln):Prop where
 dv:c2 w' {d with ls:=ls}
 kp:Kp d.all w w'
 na:∀x,({d with ls:=ls}:aX).all x->d.all x\/w.heap.size<=x
 nf:∀x,({d with ls:=ls}:aX).aJ x->d.aJ x\/w.heap.size<=x
def dK.refl{w:World}{d:aX}(h:c2 w d):dK w w d d.ls:=⟨h,Kp.refl _ _,λ_ h=>.inl h,λ_ h=>.inl h⟩
def dK.old{w w' a:World}{d:aX}{ls:List Ln}(h:dK w w' d ls)(k:Kp ae w' a):dK w a d ls:=
 ⟨h.dv.old k,h.kp.then k (λ_ _ e=>e.elim),h.na,h.nf⟩
def dK.trans{w w1 c:World}{d:aX}{ls a:List Ln}(h:dK w w1 d ls)(g:dK w1 c {d with ls:=ls} a):dK w c d a:=by
 have hz:=h.kp.size;refine⟨g.dv,h.kp.then g.kp (λx b e=> ?_),λx b=> ?_,λx b=> ?_⟩
 ·rcases h.na x e with e|e
  ·exact e
  ·omega
 ·rcases g.na x b with e|e
  ·exact h.na x e
  ·exact .inr (by omega)
 ·rcases g.nf x b with e|e
  ·exact h.nf x e
  ·exact .inr (by omega)
def mJ(t:Nat)(l:ct):ct:=(h4 l.1 t,l.2.1,l.2.2)
structure E3 (w wr:World) (d:aX) (t i:Nat) (ls:List Ln):Prop where
 AE:dK w wr d ls
 len:ls.length=d.ls.length
 done:ls.map aC=((d.ls.take i).map aC).map (mJ t)++(d.ls.drop i).map aC
def sI{w:World}{d:aX}(h:c2 w d)(t:Nat)(ht:t<18446744073709551616)(hn:d.ls.length<=8)(hb:∀l∈d.ls,cq l.p.s.bk<=1000000):
    Calls Tryz.prog 11 #[.pointer (some ⟨d.db,0,none⟩),.int .u64 t] w λe w'=>e=.returned (.tuple #[])/\∃ls,dK w w' d ls/\ls.map aC=(d.ls.map aC).map (mJ t):=by
 obtain⟨ao,sc,S⟩:=aN h.row;have t0:w.cell? ⟨d.db,0,none⟩=some d.v:=h.top.ai;rw[S]at t0
 have G:Hid (E3 w w d t 0 d.ls):=aa ⟨dK.refl h,rfl,by simp⟩;have ag:=aa S;have H:=aa h;have ah:=aa hb;obtain⟨m,n⟩:∃m,d.ls.length=m:=⟨_,rfl⟩
 obtain⟨db,o⟩:∃db,d.db=db:=⟨_,rfl⟩
 have b:=aa n;have aj:=aa o;rw[n,o]at t0
 rw[n]at hn
 rw[show(Value.pointer (some ⟨d.db,0,none⟩))=.pointer (some ⟨db,0,none⟩) by rw[o]];clear h S n o hb;refine al ?_;intro PP O;replace O:=aa O.out;go_enter Tryz.func11,Tryz.ntmps11;go_wp2_with fail;go_loopw [13] (λi0 wr=>∃i:Nat,i0=.int .i64 i/\i<=m/\Hid (∃ls,E3 w wr d t i ls)) (λi0 _=>m-(intOf i0).toNat)
 case atStart=>exact⟨0,rfl,Hv _,aa ⟨d.ls,G.out⟩⟩
 case round=>
  clear G t0;obtain⟨i,rfl,hi,r⟩:=hrel;obtain⟨F,T⟩:∃F:World,F=wr:=⟨_,rfl⟩
  subst T;by_cases I:i<m
  ·have U:(i:Int)<m:=by omega
   obtain⟨ls,a⟩:=r.out;have c:i<ls.length:=by rw[a.len,b.out];exact I
   have hid:i<d.ls.length:=by rw[b.out];exact I
   obtain⟨g,cap,C,V⟩:=aY H.out.row (by rw[b.out];omega);have X:Value.slice ao m sc=.slice (some ⟨g,0,none⟩) m cap:=by
    have:=ag.out.symm.trans C;rw[b.out]at this;exact this
   injection X with J _ e3;subst J e3;have j:F.ownsRow d.d_ 89 1 d.v ls.length (ls.flatMap lO):=a.AE.dv.row;rw[C,a.len]at j
   have hc:=bu j i (u:=.pointer (some ⟨ls[i].lb,0,none⟩)) (by
    have:=flat_get lO 1 ko ls i 0 (by decide);rw[Iu,Ig]at this
    rw[this,Hn c];rfl)
   have D:iY F d.room ls[i]:=a.AE.dv.ln _ (Ht c);have P:=D.top.cell 0 (v:=.pointer (some ⟨ls[i].f.pb,0,none⟩)) rfl;have y:aC ls[i]=aC d.ls[i]:=by
    have J:(ls.map aC)[i]'(by rw[Hq];exact c)=aC ls[i]:=Ip ..;have Q:(ls.map aC)[i]? =((d.ls.drop i).map aC)[0]? :=by
     rw[a.done,Jg (by rw[Hq,Hq,HG];omega),Hq,Hq,HG,show i-min i d.ls.length=0 by omega]
    rw[Ii hid,HA,Jd,Hn (by rw[Hq];exact c),J]at Q
    exact Option.some.inj Q
   have z:ls[i].p=d.ls[i].p:=HC (λx:ct=>x.1) y;have k:=aa (EN D.po t ht (by rw[z];have:=ah.out _ (Ht hid);omega));have ak:=aa a;have Y:=aa y
   have E:Hid (∀R W,fZ F ls[i].f R W->R=h4 d.ls[i].p t->∃Z,E3 w W d t (i+1) Z):=aa (λR W A e=>by
    obtain⟨f',ac,hk,ad,ae⟩:=a.AE.dv.one i c A;refine⟨_,a.AE.trans ⟨ac,hk,ad,ae⟩,by rw[Hr];exact a.len,?_⟩;have hL:(((d.ls.take i).map aC).map (mJ t)).length=i:=by rw[Hq,Hq,HG];omega
    rw[Is,a.done,HQ hid,HE,HE,Ii hid,HA,Kq _ _ (by omega),hL,Jn,I7,Ir];congr 1;show(R,ls[i].q,ls[i].rf)::_=mJ t (aC d.ls[i])::_;rw[e,<-y];unfold mJ aC;rw[z]
    rfl)
   obtain⟨lb,K⟩:∃lb,ls[i].lb=lb:=⟨_,rfl⟩
   obtain⟨f0,L⟩:∃f0,ls[i].f=f0:=⟨_,rfl⟩
   rw[z]at k
   rw[L]at P k E
   rw[K]at hc P
   obtain⟨pb,M⟩:∃pb,f0.pb=pb:=⟨_,rfl⟩
   rw[M]at P k
   clear a C V j D y z r K L ak Y M;go_wp2_with fail;refine(k.out).mono ?_;rintro e w2 ⟨rfl,A⟩;have an:=aa (E.out _ _ A rfl);clear A k E hc P c;go_wp2_with fail;go_roundw
   case rel=>exact⟨i+1,by go_num,by omega,an⟩
   case measure=>simp[intOf];omega
  ·have af:i=m:=by omega
   subst af;have U:¬(i:Int)<i:=by omega
   have B:Hid (PP (.returned (.tuple #[])) F):=aa (by
    obtain⟨ls,a⟩:=r.out;have J:d.ls.take i=d.ls:=IJ (by rw[b.out];exact Hm _);have Q:d.ls.drop i=[]:=Jr (by rw[b.out];exact Hm _);have N:=a.done;rw[J,Q,Ik,HH]at N
    exact O.out _ _ ⟨rfl,ls,a.AE,N⟩)
   clear O r;go_wp2_with fail;first|exact B.out|(go_end0;exact B.out)
def dS(T:Tr)(room:Nat)(L:List ct)(x:List UInt8):Nat×Int:=
 if aS x≠0 then(0,aS x)
 else if fv (T.az (aL x).d none)=false then(0,7)
 else match L[dx (T.az (aL x).d none)]? with
 |none=>(0,7)
 |some l=>if room<=l.2.1.length then(0,20)else(dx (T.az (aL x).d none),0)
def ub(a:Nat):∀(n:Nat) (L:List (Px×Nat)),L.length=n->(∃e∈L,b3 e.1 a=true)->∃e∈L,b3 e.1 a=true/\∀c∈L,b3 c.1 a=true->c.1.2<=e.1.2:=by
 intro n;induction n with
 |zero=>intro L h ⟨e,d,_⟩;rw[IA h]at d;cases d
 |succ n k=>
  intro L h ⟨e,d,j⟩;match L,h with
  |y::r,h=>
   by_cases i:∃e∈r,b3 e.1 a=true
   ·obtain⟨m,m1,m2,m3⟩:=k r (by simpa using h) i;by_cases hy:b3 y.1 a=true/\m.1.2<=y.1.2
    ·refine⟨y,HX ..,hy.1,λc b f=> ?_⟩;rcases Ho.1 b with rfl|b
     ·exact Hm _
     ·exact Hy (m3 c b f) hy.2
    ·refine⟨m,Iz _ m1,m2,λc b f=> ?_⟩;rcases Ho.1 b with rfl|b
     ·rcases HW m.1.2 c.1.2 with g|g
      ·exact absurd ⟨f,J1 g⟩ hy
      ·exact g
     ·exact m3 c b f
   ·refine⟨y,HX ..,?_,λc b f=> ?_⟩
    ·rcases Ho.1 d with rfl|d
     ·exact j
     ·exact absurd ⟨e,d,j⟩ i
    ·rcases Ho.1 b with rfl|b
     ·exact Hm _
     ·exact absurd ⟨c,b,f⟩ i
def vD{l:List Rt}{T:Tr}(h:cr l T)(b:∀r∈l,dt r.1)(c:(l.map (·.1)).Nodup)(a:Nat)(hu:fv (T.az a none)=true):∃e∈l,T.az a none=some e:=by
 obtain⟨hw,he⟩:=jD h b c;by_cases d:∃e∈T.br,b3 e.1 a=true
 ·obtain⟨m,m1,m2,m3⟩:=ub a _ T.br rfl d;exact⟨m,(he m).1 m1,Tr.ji hw m1 m2 m3⟩
 ·rw[Tr.gx (λe f=>by
   cases g:b3 e.1 a with
   |false=>rfl
   |true=>exact absurd ⟨e,f,g⟩ d)]at hu
  exact absurd hu (by decide)
def pZ{a:jR}(b:a.body.size<=6000):(fV a).size<=6028:=by
 unfold fV;split
 ·omega
 ·have:(eP a.head (bl a.body)).length=28+(bl a.body).length:=by
   unfold eP ih kb;simp only[HK,rJ];omega
  rw[eb,this,aG];omega
def AF{w:World}{d:aX}(h:c2 w d)(s:ByteArray)(i:s.size<=100000)(n:∀a,fv (d.T.az a none)=true->dx (d.T.az a none)<d.ls.length):
    Calls Tryz.prog 9 #[.pointer (some ⟨d.db,0,none⟩),.string s] w λe w'=>e=.returned (.tuple #[.int .i64 (dS d.T d.room (d.ls.map aC) (bl s)).1,.int .i64 (dS d.T d.room (d.ls.map aC) (bl s)).2])/\∃ls,dK w w' d ls/\((dS d.T d.room (d.ls.map aC) (bl s)).2≠0/\(dS d.T d.room (d.ls.map aC) (bl s)).1=0/\ls=d.ls\/(dS d.T d.room (d.ls.map aC) (bl s)).2=0/\∃hi:(dS d.T d.room (d.ls.map aC) (bl s)).1<d.ls.length,ls=d.ls.set (dS d.T d.room (d.ls.map aC) (bl s)).1 {d.ls[(dS d.T d.room (d.ls.map aC) (bl s)).1]'hi with q:=(d.ls[(dS d.T d.room (d.ls.map aC) (bl s)).1]'hi).q++[s]}):=by
 by_cases he:aS (bl s)=0
 ·have hd:(aL (bl s)).d<4294967296:=uD _ _;by_cases hu:fv (d.T.az (aL (bl s)).d none)=true
  ·have f:=n _ hu;have l:(d.ls.map aC)[dx (d.T.az (aL (bl s)).d none)]? =some (aC d.ls[dx (d.T.az (aL (bl s)).d none)]):=by rw[H2,Hn f];rfl
   by_cases j:d.room<=d.ls[dx (d.T.az (aL (bl s)).d none)].q.length
   ·have e:dS d.T d.room (d.ls.map aC) (bl s)=(0,20):=by
     unfold dS;rw[Hk (by simpa using he),Hk (by rw[hu];decide),l];exact Hl j
    rw[e];refine(Az h s i he hd _ f rfl hu j).mono ?_;rintro e w' ⟨rfl,g⟩;exact⟨rfl,d.ls,(dK.refl h).old g,.inl ⟨by decide,rfl,rfl⟩⟩
   ·have e:dS d.T d.room (d.ls.map aC) (bl s)=(dx (d.T.az (aL (bl s)).d none),0):=by
     unfold dS;rw[Hk (by simpa using he),Hk (by rw[hu];decide),l];exact Hk j
    rw[e];refine(wH h s i he hd _ f rfl hu (by omega)).mono ?_;rintro e w' ⟨rfl,k,g⟩;refine⟨rfl,_,⟨k,g.mono (λb _ e=>⟨_,Ht f,.inr (.inr (.inl e))⟩),λx ⟨m,hm,c⟩=> ?_,λx ⟨m,hm,c⟩=> ?_⟩,.inr ⟨rfl,f,rfl⟩⟩
    ·rcases Il hm with hm|rfl
     ·exact .inl ⟨m,hm,c⟩
     ·exact .inl ⟨_,Ht f,c⟩
    ·rcases Il hm with hm|rfl
     ·exact .inl ⟨m,hm,c⟩
     ·exact .inl ⟨_,Ht f,c⟩
  ·have hu:fv (d.T.az (aL (bl s)).d none)=false:=by revert hu;cases fv (d.T.az (aL (bl s)).d none)<;>simp
   have e:dS d.T d.room (d.ls.map aC) (bl s)=(0,7):=by
    unfold dS;rw[Hk (by simpa using he),Hl hu]
   rw[e];refine(Ay h s i he hd hu).mono ?_;rintro e w' ⟨rfl,g⟩;exact⟨rfl,d.ls,(dK.refl h).old g,.inl ⟨by decide,rfl,rfl⟩⟩
 ·have e:dS d.T d.room (d.ls.map aC) (bl s)=(0,aS (bl s)):=by
   unfold dS;rw[Hl he]
  rw[e];refine(Ax h s i he).mono ?_;rintro e w' ⟨rfl,g⟩;exact⟨rfl,d.ls,(dK.refl h).old g,.inl ⟨he,rfl,rfl⟩⟩
end
end Go.Proofs.YtincjochpkdnfaaGreatDoor
