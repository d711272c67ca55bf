/- A table of rules in memory; New. -/
import Derived.Test.YtincjochpkdnfaaGreatDoorV21
import Derived.Test.YtincjochpkdnfaaGreatDoorV22
set_option linter.all false
set_option maxHeartbeats 8000000
set_option maxRecDepth 100000
namespace Go.Proofs.YtincjochpkdnfaaGreatDoor
section
open Go.RowKit
def Ex:gL Tryz.prog 186 40 (.int .u32 0) 1 4:=⟨Tryz.underlying186,by kernel_rfl,rfl,by decide⟩
abbrev Cc:TypeId:=188
def nY(r:b5):Value:=.int .u32 r.fl
structure tS (w:World) (tb:Nat) (l:List b5):Prop where
 is:∃(base base' sb db sn dn:Nat) (S D:Tr) (zs:List Nat) (pv fv:Value),ag w tb [.pointer (some ⟨sb,0,none⟩),.pointer (some ⟨db,0,none⟩),pv,fv] Cc/\bV w base sb S sn/\bV w base' db D dn/\
  gJ (l.map (λr=>bU (cX r))) S/\gJ (l.map (λr=>bU (cY r))) D/\kC l zs/\zs.length<=129/\Sl w pv zs.length 2 ((eH l zs).flatMap ki)/\Sl w fv l.length 1 (l.flatMap λr=>[nY r])
def tS.old{w w':World}{tb:Nat}{l:List b5}(h:tS w tb l)(k:Kp ae w w'):tS w' tb l:=by
 obtain⟨base,a,sb,db,b,c,S,D,d,pv,e,f,g,i,j,m,n,o,p,q⟩:=h.is;exact⟨base,a,sb,db,b,c,S,D,d,pv,e,f.kp k (λx=>x),g.old k,i.old k,j,m,n,o,p.old k,q.old k⟩
def bV.kp{F:Nat->Prop}{w w':World}{base tb n:Nat}{T:Tr}(h:bV w base tb T n)(k:Kp F w w')(a:¬F tb)(c:∀b∈T.aw,¬F b):bV w' base tb T n:=
 ⟨h.blk.kp k a,h.mem.kp k c,h.wf,h.nd,h.out,h.low,h.tlow,Hy h.blow k.size,h.root⟩
structure vn (w:World) (lo hi tb:Nat) (l:List b5):Prop where
 is:∃(base base' sb db sn dn:Nat) (S D:Tr) (zs:List Nat) (pv fv:Value),ag w tb [.pointer (some ⟨sb,0,none⟩),.pointer (some ⟨db,0,none⟩),pv,fv] Cc/\bV w base sb S sn/\bV w base' db D dn/\
  gJ (l.map (λr=>bU (cX r))) S/\gJ (l.map (λr=>bU (cY r))) D/\kC l zs/\zs.length<=129/\Sl w pv zs.length 2 ((eH l zs).flatMap ki)/\Sl w fv l.length 1 (l.flatMap λr=>[nY r])/\
  lo<=base/\lo<=base'/\lo<=tb/\tb<hi/\sb<hi/\db<hi/\(∀b∈S.aw,b<hi)/\(∀b∈D.aw,b<hi)/\(∀b,pv.ownBlock=some b->lo<=b/\b<hi)/\(∀b,fv.ownBlock=some b->lo<=b/\b<hi)
def vn.rt{w:World}{lo hi tb:Nat}{l:List b5}(h:vn w lo hi tb l):tS w tb l:=by
 obtain⟨base,a,sb,db,b,c,S,D,d,pv,e,f,g,i,j,k,m,n,o,p,_⟩:=h.is;exact⟨base,a,sb,db,b,c,S,D,d,pv,e,f,g,i,j,k,m,n,o,p⟩
def vn.kp{F:Nat->Prop}{w w':World}{lo hi tb:Nat}{l:List b5}(h:vn w lo hi tb l)(k:Kp F w w')(hF:∀b,lo<=b->b<hi->¬F b):vn w' lo hi tb l:=by
 obtain⟨base,a,sb,db,j,m,S,D,n,pv,o,p,f,g,q,r,s,t,u,v,a1,a2,a3,a4,a5,a6,a7,i,a9,c⟩:=h.is
 exact⟨base,a,sb,db,j,m,S,D,n,pv,o,p.kp k (hF _ a3 a4),f.kp k (hF _ (Hy a1 f.tlow) a5) (λb d=>hF b (Hy a1 (f.low b d)) (a7 b d)),g.kp k (hF _ (Hy a2 g.tlow) a6) (λb d=>hF b (Hy a2 (g.low b d)) (i b d)),q,r,s,t,
    u.kp k (λb _ e=>hF b (a9 b e).1 (a9 b e).2),v.kp k (λb _ e=>hF b (c b e).1 (c b e).2),a1,a2,a3,a4,a5,a6,a7,i,a9,c⟩
structure N3 (W3 wr:World) (tb:Nat) (a b pv:Value) (l:List b5) (fv:Value) (j:Nat):Prop where
 blk:ag wr tb [a,b,pv,fv] Cc
 own:wr.ownsRow (W3.heap.size+1) 40 1 fv j ((l.take j).map nY)
 kp:Kp ae W3 wr
def Ey(l:List b5)(t:∀r∈l,r.Ok)(o:eY l=0)(v:Value)(w:World)(h:Sl w v l.length 7 (l.flatMap cR)):
    Calls Tryz.prog 42 #[v] w λe w'=>∃tb,e=.returned (.tuple #[.pointer (some ⟨tb,0,none⟩),.int .i64 0])/\vn w' w.heap.size w'.heap.size tb l/\Kp ae w w':=by
 have aI:=aa (su l t v w h);rw[o]at aI
 have hz:=kB.1 o;have hn:=hz.1;obtain⟨Q,cap,rfl⟩:∃Q cap,v=.slice Q l.length cap:=by obtain⟨Q,cap,rfl,_⟩:=h.is;exact⟨_,_,rfl⟩
 have aL:=aa h;have ai:=aa (λW k=>sc l t (λr hr=>(jl.1 (hz.2 r hr)).1) hn (.slice Q l.length cap) W (h.old (w':=W) k));have aj:=aa (λW k=>sd l t (λr hr=>(jl.1 (hz.2 r hr)).2.1) hn (.slice Q l.length cap) W (h.old (w':=W) k));have ak:=aa (λW k=>Et l t hn (.slice Q l.length cap) W (h.old (w':=W) k));clear h o hz t;go_enter Tryz.func42,Tryz.ntmps42;go_wp2_with(go_at_call 62;refine aI.out.mono ?_;rintro e w1 ⟨rfl,U⟩;have J:=aa U;clear U);refine(ai.out _ J.out).mono ?_;rintro e w2 ⟨sb,S,sn,rfl,hS,V,X⟩;have al:=aa hS;have aq:=aa V;have K:=aa (J.out.trans X);clear hS V X;go_wp2_with fail;refine(aj.out _ K.out).mono ?_;rintro e w3 ⟨db,D,dn,rfl,R,Y,L⟩;have ar:=aa (al.out.old L);have av:=aa R;have aw:=aa Y;have M:=aa (K.out.trans L);clear R Y L;go_wp2_with fail;refine(ak.out _ M.out).mono ?_;rintro e F ⟨rv,T,rfl,Z,ax,a,E⟩;have ay:=aa (ar.out.old E);have az:=aa (av.out.old E);have aA:=aa (gG a);have aB:=aa (λb e=>an (b:=b) a e);have ac:=aa Z;have N:=aa (M.out.trans E);obtain⟨po,m,rfl⟩:=aN a;clear Z a E;have u:Hid (N3 F (F.alloc (.cells #[.pointer (some ⟨sb,0,none⟩),.pointer (some ⟨db,0,none⟩),.slice po T.length m,.slice none 0 0] 188)) F.heap.size (.pointer (some ⟨sb,0,none⟩)) (.pointer (some ⟨db,0,none⟩)) (.slice po T.length m) l (.slice none 0 0) 0):=
  ⟨ag.new F [.pointer (some ⟨sb,0,none⟩),.pointer (some ⟨db,0,none⟩),.slice po T.length m,.slice none 0 0] _,⟨by simp,.inl ⟨rfl,rfl⟩⟩,(Kp.refl _ _).alloc _⟩
 go_wp2_with fail;obtain⟨tb,p⟩:∃g,F.heap.size=g:=⟨_,rfl⟩
 have y:=aa p;have u:=aa u.out;rw[p]at u ⊢
 clear p;go_loopw [23] (λi wr=>∃(j:Nat) (fv:Value),i=.int .i64 j/\j<=l.length/\Hid (N3 F wr tb (.pointer (some ⟨sb,0,none⟩)) (.pointer (some ⟨db,0,none⟩)) (.slice po T.length m) l fv j)) (λi _=>l.length-(intOf i).toNat)
 case atStart=>exact⟨0,_,rfl,Hv _,u.out⟩
 case round=>
  clear u;obtain⟨j,fv,rfl,hj,q⟩:=hrel;by_cases ad:j<l.length
  ·obtain⟨g,off,aJ,e1,o⟩:=(aL.out.old (N.out.trans q.out.kp)).at eM (by decide) j ad;injection e1 with e1 _ e3;subst e1 e3;have aM:(j:Int)<l.length:=by omega
   obtain⟨r,O⟩:∃r,l[j]=r:=⟨_,rfl⟩
   rw[O]at o
   have c0:wr.cell? ⟨g,off+j*7,none⟩=some (.int .u32 r.s.1):=o 0 _ rfl;have c1:=o 1 _ rfl;have c2:=o 2 _ rfl;have c3:=o 3 _ rfl;have c4:=o 4 _ rfl;have c5:=o 5 _ rfl;have c6:=o 6 _ rfl;have aC:=aa O;clear o O;go_wp2_with fail;obtain⟨fo,G,rfl⟩:=aN q.out.own;have z:Kp ae wr (wr.alloc (.cells #[.int .u32 r.s.1,.int .i64 r.s.2,.int .u32 r.d.1,.int .i64 r.d.2,.int .u16 r.lo,.int .u16 r.hi,.int .u32 r.fl] 108)):=(Kp.refl ae wr).alloc _;have A:ag (wr.alloc (.cells #[.int .u32 r.s.1,.int .i64 r.s.2,.int .u32 r.d.1,.int .i64 r.d.2,.int .u16 r.lo,.int .u16 r.hi,.int .u32 r.fl] 108)) wr.heap.size (cR r) 108:=ag.new wr (cR r) _;obtain⟨W5,af⟩:∃W,wr.alloc (.cells #[.int .u32 r.s.1,.int .i64 r.s.2,.int .u32 r.d.1,.int .i64 r.d.2,.int .u16 r.lo,.int .u16 r.hi,.int .u32 r.fl] 108)=W:=⟨_,rfl⟩
   obtain⟨gr,ah⟩:∃g,wr.heap.size=g:=⟨_,rfl⟩
   rw[af]at z A ⊢
   rw[ah]at A ⊢
   have B:=aa (q.out.blk.kp z (λx=>x));have C:=aa (au (S:=ae) q.out.own z (λ_ _ h=>h));have aD:=aa (q.out.kp.trans z);have t3:=B.out.aK;have y3:=B.out.fz 3;have r6:=A.du;have hsz:=B.out.lt;have aO:=aa A;have p:=y.out;have H:some tb≠(Value.slice fo j G).ownBlock:=λe=>by have:=(an C.out e.symm).1;omega
   have aE:=aa H;rw[p]at C
   clear af z A ah p c0 c1 c2 c3 c4 c5 c6 H;go_region_law ((refine oF Ex (.tmp 31) (.tmp 34) rfl rfl (tb+1) (v:=.slice fo j G) ((C.out.alloc _).drew) [.int .u32 r.fl] rfl rfl rfl (fr:=(0,0)) (lf _ _ _ (by simp)) rfl (by omega) (by omega) (by simp;omega) ?_);intro g6 I w6 n c;have f:=((B.out.alloc (.cells #[.int .u32 r.fl] 40)).drew).grown c aE.out;have t3:=f.aK;have y3:=f.fz 3)
   all_goals
    have HF:Hid (N3 F (w6.setCell ⟨tb,3,none⟩ (.slice (some ⟨g6,0,none⟩) (j+1) I)) tb (.pointer (some ⟨sb,0,none⟩)) (.pointer (some ⟨db,0,none⟩)) (.slice po T.length m) l (.slice (some ⟨g6,0,none⟩) (j+1) I) (j+1)):=by
     have e:(l.take (j+1)).map nY=(l.take j).map nY++[.int .u32 r.fl]:=by
      rw[HQ ad,aC.out,HE];rfl
     refine⟨f.set 3 _,?_,?_⟩
     ·rw[y.out,e];exact cG n (λb hb e2=>by have h1:=(an n hb).1;have e3:b=tb:=e2;omega) _
     ·refine(((aD.out.alloc _).drew).grown c (λk hk=>.inr (by have:=(an C.out hk).1;have:=y.out;omega))).set (.inr (by show F.heap.size<=tb;have:=y.out;omega)) _
    clear n c f t3 y3 r6 B C;go_wp2_with fail;go_roundw
    case rel=>exact⟨j+1,_,by go_num,by omega,HF.out⟩
    case measure=>simp[intOf];omega
  ·have aF:j=l.length:=by omega
   subst aF;have a:=q.out.own;rw[H9]at a
   have P:=gG a;have hz:∀l:List b5,l.map nY=l.flatMap (λr=>[nY r]):=λl=>by induction l<;>simp_all
   rw[hz]at P
   have aG:=aa P;have aH:=aa (λb e=>an (b:=b) a e);clear a P hz;go_wp2_with fail;go_ret2;have e1:=J.out.size;have e2:=K.out.size;have e3:=M.out.size;have e4:=N.out.size;have e5:=q.out.kp.size;have e6:=y.out;have hS:=ay.out.old q.out.kp;have R:=az.out.old q.out.kp;have hb:=q.out.blk
   exact⟨tb,rfl,⟨w1.heap.size,w2.heap.size,sb,db,sn,dn,S,D,T,_,fv,hb,hS,R,aq.out,aw.out,ac.out,ax,aA.out.old q.out.kp,aG.out,
    e1,e2,by omega,hb.lt,hS.blk.lt,R.blk.lt,hS.mem.lt,R.mem.lt,λb e=>by have:=aB.out b e;omega,λb e=>by have:=aH.out b e;omega⟩,N.out.trans q.out.kp⟩
def e_.n(h:e_):p_:=⟨h.s,h.d,h.p⟩
structure x6 (w:World) (tb b0 b1:Nat) (a b fv pv:Value) (l:List b5) (zs:List Nat) (h:e_):Prop where
 box:ag w b0 [.pointer (some ⟨tb,0,none⟩)] 119
 hd:ag w b1 (cj h) 42
 blk:ag w tb [a,b,pv,fv] Cc
 nj:Sl w pv zs.length 2 ((eH l zs).flatMap ki)
def x6.old{w w':World}{tb c b1:Nat}{a b d pv:Value}{l:List b5}{e:List Nat}{h:e_}(H:x6 w tb c b1 a b d pv l e h)(k:Kp ae w w'):x6 w' tb c b1 a b d pv l e h:=
 ⟨H.box.kp k (λx=>x),H.hd.kp k (λx=>x),H.blk.kp k (λx=>x),H.nj.old k⟩
def kl{l:List b5}{a:List Nat}{i:Nat}(h:i<a.length):∃b:i<(eH l a).length,(eH l a)[i]=(a.getD i 0,j_ l (a.getD i 0)):=by
 refine⟨by unfold eH;simpa using h,?_⟩;unfold eH;rw[Ip,cn _ h]
def Cd(w:World)(tb j b1:Nat)(a b m pv:Value)(l:List b5)(c:List Nat)(h:e_)(H:x6 w tb j b1 a b m pv l c h)(i:Nat)(hi:i<c.length):
    Calls Tryz.prog 140 #[.int .i64 i,.pointer (some ⟨j,0,none⟩),.pointer (some ⟨b1,0,none⟩)] w λe w'=>e=.returned (.bool (decide (h.p<c.getD i 0)))/\Kp ae w w':=by
 have o:=H.box.ai;have q:=H.hd.du;have r:=H.blk.aq;obtain⟨d,he⟩:=kl (l:=l) hi;obtain⟨g,off,k,rfl,f⟩:=H.nj.at h3 (by decide) i d;rw[he]at f
 obtain⟨z,hz⟩:∃z,c.getD i 0=z:=⟨_,rfl⟩
 rw[hz]at f ⊢
 have c0:w.cell? ⟨g,off+i*2,none⟩=some (.int .u16 z):=f 0 _ rfl;have n:(i:Int)<c.length:=by omega
 clear H f he hz d;go_enter Tryz.func140,Tryz.ntmps140;go_wp2_with fail;go_region;go_wp2_with fail;go_ret;exact⟨by simp,(Kp.refl _ _).drew⟩
def mC(w:World)(tb v b1:Nat)(a b C pv:Value)(l:List b5)(d:List Nat)(h:e_)(H:x6 w tb v b1 a b C pv l d h)(q:d.Pairwise (·< ·))(N:d.length<=1000000):
    Calls Tryz.prog 139 #[.int .i64 d.length,.func (.func 140) #[] #[.pointer (some ⟨v,0,none⟩),.pointer (some ⟨b1,0,none⟩)]] w λe w'=>e=.returned (.int .i64 (ee d h.p:Nat))/\Kp ae w w':=by
 have hle:=oU d h.p;have f:=mR q h.p;obtain⟨c,D⟩:∃c,ee d h.p=c:=⟨_,rfl⟩
 rw[D]at hle f ⊢
 have F:=aa H;have G:=aa f;clear D H q f;go_enter Tryz.func139,Tryz.ntmps139;go_wp2_with fail;go_loopw [5,6] (λx y wr=>∃i j:Nat,x=.int .i64 i/\y=.int .i64 j/\i<=c/\c<=j/\j<=d.length/\Hid (Kp ae w wr)) (λx y _=>(intOf y).toNat-(intOf x).toNat)
 case atStart=>exact⟨0,d.length,rfl,rfl,Hv _,hle,Hm _,Kp.refl _ _⟩
 case round=>
  obtain⟨i,j,rfl,rfl,hi,I,z,t⟩:=hrel;by_cases J:i<j
  ·obtain⟨m,hm⟩:∃m,(i+j)/2=m:=⟨_,rfl⟩
   have r:m<d.length:=by omega
   have K:i<=m/\m<j:=by omega
   have L:((i:Int)+(j:Int))/2=(m:Int):=by omega
   have u:=aa (λW k=>Cd W tb v b1 a b C pv l d h (F.out.old (t.out.trans (k:Kp ae wr W))) m r);have E:(i:Int)<j:=by omega
   have n:=G.out m r;by_cases s:m<c
   ·have hd:decide (h.p<d.getD m 0)=false:=by rw[Io];have:=n.2 s;omega
    rw[hd]at u
    clear hd n hm;go_wp2_with(go_at_call 140;refine(u.out _ (by first|exact Kp.refl _ _|exact(Kp.refl _ _).drew)).mono ?_;rintro e M ⟨rfl,g⟩;have o:=aa (t.out.trans g);clear g);go_roundw
    case rel=>exact⟨m+1,j,by go_num,rfl,by omega,I,z,o.out⟩
    case measure=>simp[intOf];omega
   ·have hd:decide (h.p<d.getD m 0)=true:=by
     rw[HI];rcases HW h.p (d.getD m 0)with A|A
     ·exact A
     ·exact absurd (n.1 A) s
    rw[hd]at u
    clear hd n hm;go_wp2_with(go_at_call 140;refine(u.out _ (by first|exact Kp.refl _ _|exact(Kp.refl _ _).drew)).mono ?_;rintro e M ⟨rfl,g⟩;have o:=aa (t.out.trans g);clear g);go_roundw
    case rel=>exact⟨i,m,rfl,by go_num,by omega,by omega,by omega,o.out⟩
    case measure=>simp[intOf];omega
  ·have B:i=c:=by omega
   subst B;go_wp2_with fail;go_ret;exact⟨rfl,t.out⟩
def kN(o:Option (Px×Nat)):dx o=vO o:=by cases o<;>rfl
def Ez(w:World)(tb:Nat)(l:List b5)(aw:∀r∈l,r.Ok)(I:eY l=0)(H:tS w tb l)(h:e_)(hh:h.Ok):
    Calls Tryz.prog 113 #[.pointer (some ⟨tb,0,none⟩),.agg #[.int .u8 h.ds,.int .u16 h.id,.int .u8 h.bG,.int .u32 h.s,.int .u32 h.d,.int .u16 h.sp,.int .u16 h.p]] w λe w'=>e=.returned (.int .u64 (bitsOf (ed l h.n) l.length:Nat))/\Kp ae w w':=by
 obtain⟨base,aN,sb,db,sn,dn,S,D,y,pv,fv,h1,h2,aP,O,h5,h6,aQ,h7,h8⟩:=H.is;obtain⟨po,z,rfl⟩:∃po z,pv=.slice po y.length z:=by obtain⟨po,z,rfl,_⟩:=h7.is;exact⟨_,_,rfl⟩
 have hz:=kB.1 I;have N:∀(f:Nat->Bool) (k:Nat),k<=64->bitsOf f k<18446744073709551616:=λf k hk=>HP (jk f k) (show 2^k<=2^64 from ID (by decide) hk);have ax:dx (S.az h.s none)<18446744073709551616:=by rw[kN,ie O];exact N _ _ (by rw[Hq];exact hz.1)
 have aF:dx (D.az h.d none)<18446744073709551616:=by rw[kN,ie h5];exact N _ _ (by rw[Hq];exact hz.1)
 have Q:=yG aw hz.2 O h5 h6 h.n hh.p;have aG:=(vP h6 aw hh.p).1;have aH:=h6.up;have ay:j_ l (y.getD (ee y h.p-1) 0)<18446744073709551616:=N _ _ hz.1;obtain⟨c,aA⟩:∃c,ee y h.p=c+1:=⟨ee y h.p-1,by omega⟩
 have ak:c<y.length:=by have:=oU y h.p;omega
 have T:dx (S.az h.s none)&&&dx (D.az h.d none)&&&j_ l (y.getD c 0)=bitsOf (ed l h.n) l.length:=by
  rw[kN,kN];have e:ee y h.n.p-1=c:=by show ee y h.p-1=c;omega
  rw[e]at Q
  exact Q
 rw[aA,J4]at ay
 have a12:=JY _ _ ax aF;have a3:=JY (dx (S.az h.s none)&&&dx (D.az h.d none)) _ (IL Nat.and_le_left ax) ay;rw[T]at a3
 obtain⟨x3,U⟩:∃x,j_ l (y.getD c 0)=x:=⟨_,rfl⟩
 rw[U]at a3
 obtain⟨R,hR⟩:∃R,bitsOf (ed l h.n) l.length=R:=⟨_,rfl⟩
 rw[hR]at a3 ⊢
 obtain⟨x1,V⟩:∃x,dx (S.az h.s none)=x:=⟨_,rfl⟩
 obtain⟨x2,X⟩:∃x,dx (D.az h.d none)=x:=⟨_,rfl⟩
 rw[V,X]at a12 a3
 obtain⟨aR,av⟩:∃x,x1&&&x2=x:=⟨_,rfl⟩
 rw[av]at a12 a3
 have aO:=aa V;have aI:=aa X;have al:=aa U;have an:=aa aA;clear Q T ax aF ay hR V X U aA av N;have ao:y.length<=1000000:=by omega
 have k0:Kp ae w ((w.alloc (.cells #[.pointer (some ⟨tb,0,none⟩)] 119)).alloc (.cells #[.int .u8 h.ds,.int .u16 h.id,.int .u8 h.bG,.int .u32 h.s,.int .u32 h.d,.int .u16 h.sp,.int .u16 h.p] 42)):=((Kp.refl ae w).alloc _).alloc _;have Y:x6 ((w.alloc (.cells #[.pointer (some ⟨tb,0,none⟩)] 119)).alloc (.cells #[.int .u8 h.ds,.int .u16 h.id,.int .u8 h.bG,.int .u32 h.s,.int .u32 h.d,.int .u16 h.sp,.int .u16 h.p] 42)) tb w.heap.size (w.heap.size+1) (.pointer (some ⟨sb,0,none⟩)) (.pointer (some ⟨db,0,none⟩)) fv (.slice po y.length z) l y h:=by
  refine⟨(ag.new w [.pointer (some ⟨tb,0,none⟩)] _).alloc _,?_,h1.kp k0 (λx=>x),h7.old k0⟩;have:=ag.new (w.alloc (.cells #[.pointer (some ⟨tb,0,none⟩)] 119)) (cj h) 42;rw[HB]at this
  exact this
 have aB:=aa Y;have ar:=aa (h2.old k0);have aC:=aa (aP.old k0);have aD:=aa k0;have au:=aa aH;have G:=Y.box.ai;have Z:=Y.hd.aK;have t0:=Y.blk.ai;clear Y h1 h2 aP O h5 h6 h7 h8 aG aH hz I aw k0 H;go_enter Tryz.func113,Tryz.ntmps113;go_wp2_with fail;obtain⟨v,aJ⟩:∃W,(w.alloc (.cells #[.pointer (some ⟨tb,0,none⟩)] 119)).alloc (.cells #[.int .u8 h.ds,.int .u16 h.id,.int .u8 h.bG,.int .u32 h.s,.int .u32 h.d,.int .u16 h.sp,.int .u16 h.p] 42)=W:=⟨_,rfl⟩
 rw[aJ]at G Z t0 aB ar aC aD ⊢
 clear aJ;have aL:=aa (λW (k:Kp ae v W)=>lE W sb S sn (ar.out.old k).blk (ar.out.old k).mem ar.out.wf h.s hh.s);simp only[aO.out]at aL;have N1:=World.new_ne v ⟨w.heap.size,0,none⟩ G;have N2:=World.new_ne v ⟨w.heap.size+1,3,none⟩ Z;have N3:=World.new_ne v ⟨tb,0,none⟩ t0
 go_region_held3 (λw'=>w'.cell? ⟨w.heap.size,0,none⟩=some (.pointer (some ⟨tb,0,none⟩))/\w'.cell? ⟨w.heap.size+1,3,none⟩=some (.int .u32 h.s)/\w'.cell? ⟨tb,0,none⟩=some (.pointer (some ⟨sb,0,none⟩))) (first|exact⟨jx e0 P,jx F e4,jx e2 e5⟩|go_keep)
    ((go_at_call 138;refine(aL.out _ (by first|exact(Kp.refl ae v).drew|exact((Kp.refl ae v).drew.alloc _)|exact((Kp.refl ae v).alloc _).drew)).mono ?_;rintro e w3 ⟨rfl,b⟩
      have m:Kp ae v w3:=by first|exact(Kp.refl ae v).drew.trans b|exact((Kp.refl ae v).drew.alloc _).trans b|exact((Kp.refl ae v).alloc _).drew.trans b
      have e0:=m.cell G (λx=>x);have F:=m.cell Z (λx=>x);have e2:=m.cell t0 (λx=>x);have P:(⟨w.heap.size,0,none⟩:Addr).block≠v.heap.size:=N1.symm;have e4:(⟨w.heap.size+1,3,none⟩:Addr).block≠v.heap.size:=N2.symm;have e5:(⟨tb,0,none⟩:Addr).block≠v.heap.size:=N3.symm;first
       |(have o:=(ag.new v.drew [.int .u32 0,.int .i64 0] 72).kp b (λx=>x)
         have z0:w3.cell? ⟨v.heap.size,0,none⟩=some (.int .u32 0):=o.ai;have z1:w3.cell? ⟨v.heap.size,1,none⟩=some (.int .i64 0):=o.aj;have y0:w3.frozen? ⟨v.heap.size,0,none⟩=false:=o.fz 0;have y1:w3.frozen? ⟨v.heap.size,1,none⟩=false:=o.fz 1
         clear o)
       |skip
      have aM:=aa b;have J:=aa m;clear b m))
 ·have A:Kp ae v (w3.alloc (.cells #[.int .u32 (bz (S.az h.s none)).1,.int .i64 (bz (S.az h.s none)).2] 72)):=J.out.alloc _;obtain⟨a,ac⟩:∃W,w3.alloc (.cells #[.int .u32 (bz (S.az h.s none)).1,.int .i64 (bz (S.az h.s none)).2] 72)=W:=⟨_,rfl⟩
  rw[ac]at A ⊢
  clear ac G Z t0 N1 N2 N3;have B:=aa (aB.out.old A);have K:=aa (aC.out.old A);have ad:=aa (aD.out.trans A);have af:=aa (λW (k:Kp ae a W)=>lE W db D dn (K.out.old k).blk (K.out.old k).mem K.out.wf h.d hh.d);simp only[aI.out]at af;have G:=B.out.box.ai;have O:=B.out.hd.a_;have t1:=B.out.blk.aj;have N1:=World.new_ne a ⟨w.heap.size,0,none⟩ G;have N2:=World.new_ne a ⟨w.heap.size+1,4,none⟩ O;have N3:=World.new_ne a ⟨tb,1,none⟩ t1;clear A;go_wp2_with fail;go_region_held3 (λw'=>w'.cell? ⟨w.heap.size,0,none⟩=some (.pointer (some ⟨tb,0,none⟩))/\w'.cell? ⟨w.heap.size+1,4,none⟩=some (.int .u32 h.d)/\w'.cell? ⟨tb,1,none⟩=some (.pointer (some ⟨db,0,none⟩))) (first|exact⟨jx e0 P,jx F e4,jx e2 e5⟩|go_keep)
   ((go_at_call 138;refine(af.out _ (by first|exact(Kp.refl ae a).drew|exact((Kp.refl ae a).drew.alloc _)|exact((Kp.refl ae a).alloc _).drew)).mono ?_;rintro e w3 ⟨rfl,b⟩
     have m:Kp ae a w3:=by first|exact(Kp.refl ae a).drew.trans b|exact((Kp.refl ae a).drew.alloc _).trans b|exact((Kp.refl ae a).alloc _).drew.trans b
     have e0:=m.cell G (λx=>x);have F:=m.cell O (λx=>x);have e2:=m.cell t1 (λx=>x);have P:(⟨w.heap.size,0,none⟩:Addr).block≠a.heap.size:=N1.symm;have e4:(⟨w.heap.size+1,4,none⟩:Addr).block≠a.heap.size:=N2.symm;have e5:(⟨tb,1,none⟩:Addr).block≠a.heap.size:=N3.symm;first
      |(have o:=(ag.new a.drew [.int .u32 0,.int .i64 0] 72).kp b (λx=>x)
        have z0:w3.cell? ⟨a.heap.size,0,none⟩=some (.int .u32 0):=o.ai;have z1:w3.cell? ⟨a.heap.size,1,none⟩=some (.int .i64 0):=o.aj;have y0:w3.frozen? ⟨a.heap.size,0,none⟩=false:=o.fz 0;have y1:w3.frozen? ⟨a.heap.size,1,none⟩=false:=o.fz 1
        clear o)
      |skip
     have aM:=aa b;have J:=aa m;clear b m))
  ·have i:Kp ae a (w3.alloc (.cells #[.int .u32 (bz (D.az h.d none)).1,.int .i64 (bz (D.az h.d none)).2] 72)):=J.out.alloc _;obtain⟨W2,C⟩:∃W,w3.alloc (.cells #[.int .u32 (bz (D.az h.d none)).1,.int .i64 (bz (D.az h.d none)).2] 72)=W:=⟨_,rfl⟩
   rw[C]at i ⊢
   clear C;have j:=aa (B.out.old i);have L:=aa (ad.out.trans i);have G:=j.out.box.ai;have t2:=j.out.blk.aq;have q:=aa (mC W2 tb w.heap.size (w.heap.size+1) (.pointer (some ⟨sb,0,none⟩)) (.pointer (some ⟨db,0,none⟩)) fv (.slice po y.length z) l y h j.out au.out ao);rw[an.out]at q
   clear i O t1;go_wp2_with fail;refine q.out.mono ?_;rintro e w5 ⟨rfl,t⟩;have u:=aa (j.out.old t);have M:=aa (L.out.trans t);have G:=u.out.box.ai;have t2:=u.out.blk.aq;obtain⟨E,he⟩:=kl (l:=l) ak;obtain⟨g,off,ah,F,I⟩:=u.out.nj.at h3 (by decide) c E;injection F with F _ P;subst F P;rw[he,al.out]at I
   have p1:w5.cell? ⟨g,off+c*2+1,none⟩=some (.int .u64 x3):=I 1 _ rfl;have hw:IntKind.i64.wrap (c:Int)=(c:Int):=by rw[H3];omega
   have aE:(c:Int)<y.length:=by omega
   clear t I he E q;go_wp2_with fail;go_ret;exact⟨rfl,M.out⟩
  ·have i:Kp ae a ((w3.setCell ⟨a.heap.size,0,none⟩ (.int .u32 (bz (D.az h.d none)).1)).setCell ⟨a.heap.size,1,none⟩ (.int .i64 (bz (D.az h.d none)).2)):=(J.out.set (p:=⟨a.heap.size,0,none⟩) (.inr (Hm _)) _).set (p:=⟨a.heap.size,1,none⟩) (.inr (Hm _)) _;obtain⟨W2,C⟩:∃W,(w3.setCell ⟨a.heap.size,0,none⟩ (.int .u32 (bz (D.az h.d none)).1)).setCell ⟨a.heap.size,1,none⟩ (.int .i64 (bz (D.az h.d none)).2)=W:=⟨_,rfl⟩
   rw[C]at i ⊢
   clear C;have j:=aa (B.out.old i);have L:=aa (ad.out.trans i);have G:=j.out.box.ai;have t2:=j.out.blk.aq;have q:=aa (mC W2 tb w.heap.size (w.heap.size+1) (.pointer (some ⟨sb,0,none⟩)) (.pointer (some ⟨db,0,none⟩)) fv (.slice po y.length z) l y h j.out au.out ao);rw[an.out]at q
   clear i O t1;go_wp2_with fail;refine q.out.mono ?_;rintro e w5 ⟨rfl,t⟩;have u:=aa (j.out.old t);have M:=aa (L.out.trans t);have G:=u.out.box.ai;have t2:=u.out.blk.aq;obtain⟨E,he⟩:=kl (l:=l) ak;obtain⟨g,off,ah,F,I⟩:=u.out.nj.at h3 (by decide) c E;injection F with F _ P;subst F P;rw[he,al.out]at I
   have p1:w5.cell? ⟨g,off+c*2+1,none⟩=some (.int .u64 x3):=I 1 _ rfl;have hw:IntKind.i64.wrap (c:Int)=(c:Int):=by rw[H3];omega
   have aE:(c:Int)<y.length:=by omega
   clear t I he E q;go_wp2_with fail;go_ret;exact⟨rfl,M.out⟩
 ·have A:Kp ae v ((w3.setCell ⟨v.heap.size,0,none⟩ (.int .u32 (bz (S.az h.s none)).1)).setCell ⟨v.heap.size,1,none⟩ (.int .i64 (bz (S.az h.s none)).2)):=(J.out.set (p:=⟨v.heap.size,0,none⟩) (.inr (Hm _)) _).set (p:=⟨v.heap.size,1,none⟩) (.inr (Hm _)) _;obtain⟨a,ac⟩:∃W,(w3.setCell ⟨v.heap.size,0,none⟩ (.int .u32 (bz (S.az h.s none)).1)).setCell ⟨v.heap.size,1,none⟩ (.int .i64 (bz (S.az h.s none)).2)=W:=⟨_,rfl⟩
  rw[ac]at A ⊢
  clear ac G Z t0 N1 N2 N3;have B:=aa (aB.out.old A);have K:=aa (aC.out.old A);have ad:=aa (aD.out.trans A);have af:=aa (λW (k:Kp ae a W)=>lE W db D dn (K.out.old k).blk (K.out.old k).mem K.out.wf h.d hh.d);simp only[aI.out]at af;have G:=B.out.box.ai;have O:=B.out.hd.a_;have t1:=B.out.blk.aj;have N1:=World.new_ne a ⟨w.heap.size,0,none⟩ G;have N2:=World.new_ne a ⟨w.heap.size+1,4,none⟩ O;have N3:=World.new_ne a ⟨tb,1,none⟩ t1;clear A;go_wp2_with fail;go_region_held3 (λw'=>w'.cell? ⟨w.heap.size,0,none⟩=some (.pointer (some ⟨tb,0,none⟩))/\w'.cell? ⟨w.heap.size+1,4,none⟩=some (.int .u32 h.d)/\w'.cell? ⟨tb,1,none⟩=some (.pointer (some ⟨db,0,none⟩))) (first|exact⟨jx e0 P,jx F e4,jx e2 e5⟩|go_keep)
   ((go_at_call 138;refine(af.out _ (by first|exact(Kp.refl ae a).drew|exact((Kp.refl ae a).drew.alloc _)|exact((Kp.refl ae a).alloc _).drew)).mono ?_;rintro e w3 ⟨rfl,b⟩
     have m:Kp ae a w3:=by first|exact(Kp.refl ae a).drew.trans b|exact((Kp.refl ae a).drew.alloc _).trans b|exact((Kp.refl ae a).alloc _).drew.trans b
     have e0:=m.cell G (λx=>x);have F:=m.cell O (λx=>x);have e2:=m.cell t1 (λx=>x);have P:(⟨w.heap.size,0,none⟩:Addr).block≠a.heap.size:=N1.symm;have e4:(⟨w.heap.size+1,4,none⟩:Addr).block≠a.heap.size:=N2.symm;have e5:(⟨tb,1,none⟩:Addr).block≠a.heap.size:=N3.symm;first
      |(have o:=(ag.new a.drew [.int .u32 0,.int .i64 0] 72).kp b (λx=>x)
        have z0:w3.cell? ⟨a.heap.size,0,none⟩=some (.int .u32 0):=o.ai;have z1:w3.cell? ⟨a.heap.size,1,none⟩=some (.int .i64 0):=o.aj;have y0:w3.frozen? ⟨a.heap.size,0,none⟩=false:=o.fz 0;have y1:w3.frozen? ⟨a.heap.size,1,none⟩=false:=o.fz 1
        clear o)
      |skip
     have aM:=aa b;have J:=aa m;clear b m))
  ·have i:Kp ae a (w3.alloc (.cells #[.int .u32 (bz (D.az h.d none)).1,.int .i64 (bz (D.az h.d none)).2] 72)):=J.out.alloc _;obtain⟨W2,C⟩:∃W,w3.alloc (.cells #[.int .u32 (bz (D.az h.d none)).1,.int .i64 (bz (D.az h.d none)).2] 72)=W:=⟨_,rfl⟩
   rw[C]at i ⊢
   clear C;have j:=aa (B.out.old i);have L:=aa (ad.out.trans i);have G:=j.out.box.ai;have t2:=j.out.blk.aq;have q:=aa (mC W2 tb w.heap.size (w.heap.size+1) (.pointer (some ⟨sb,0,none⟩)) (.pointer (some ⟨db,0,none⟩)) fv (.slice po y.length z) l y h j.out au.out ao);rw[an.out]at q
   clear i O t1;go_wp2_with fail;refine q.out.mono ?_;rintro e w5 ⟨rfl,t⟩;have u:=aa (j.out.old t);have M:=aa (L.out.trans t);have G:=u.out.box.ai;have t2:=u.out.blk.aq;obtain⟨E,he⟩:=kl (l:=l) ak;obtain⟨g,off,ah,F,I⟩:=u.out.nj.at h3 (by decide) c E;injection F with F _ P;subst F P;rw[he,al.out]at I
   have p1:w5.cell? ⟨g,off+c*2+1,none⟩=some (.int .u64 x3):=I 1 _ rfl;have hw:IntKind.i64.wrap (c:Int)=(c:Int):=by rw[H3];omega
   have aE:(c:Int)<y.length:=by omega
   clear t I he E q;go_wp2_with fail;go_ret;exact⟨rfl,M.out⟩
  ·have i:Kp ae a ((w3.setCell ⟨a.heap.size,0,none⟩ (.int .u32 (bz (D.az h.d none)).1)).setCell ⟨a.heap.size,1,none⟩ (.int .i64 (bz (D.az h.d none)).2)):=(J.out.set (p:=⟨a.heap.size,0,none⟩) (.inr (Hm _)) _).set (p:=⟨a.heap.size,1,none⟩) (.inr (Hm _)) _;obtain⟨W2,C⟩:∃W,(w3.setCell ⟨a.heap.size,0,none⟩ (.int .u32 (bz (D.az h.d none)).1)).setCell ⟨a.heap.size,1,none⟩ (.int .i64 (bz (D.az h.d none)).2)=W:=⟨_,rfl⟩
   rw[C]at i ⊢
   clear C;have j:=aa (B.out.old i);have L:=aa (ad.out.trans i);have G:=j.out.box.ai;have t2:=j.out.blk.aq;have q:=aa (mC W2 tb w.heap.size (w.heap.size+1) (.pointer (some ⟨sb,0,none⟩)) (.pointer (some ⟨db,0,none⟩)) fv (.slice po y.length z) l y h j.out au.out ao);rw[an.out]at q
   clear i O t1;go_wp2_with fail;refine q.out.mono ?_;rintro e w5 ⟨rfl,t⟩;have u:=aa (j.out.old t);have M:=aa (L.out.trans t);have G:=u.out.box.ai;have t2:=u.out.blk.aq;obtain⟨E,he⟩:=kl (l:=l) ak;obtain⟨g,off,ah,F,I⟩:=u.out.nj.at h3 (by decide) c E;injection F with F _ P;subst F P;rw[he,al.out]at I
   have p1:w5.cell? ⟨g,off+c*2+1,none⟩=some (.int .u64 x3):=I 1 _ rfl;have hw:IntKind.i64.wrap (c:Int)=(c:Int):=by rw[H3];omega
   have aE:(c:Int)<y.length:=by omega
   clear t I he E q;go_wp2_with fail;go_ret;exact⟨rfl,M.out⟩
def Ge(w:World)(tb:Nat)(l:List b5)(H:tS w tb l):Calls Tryz.prog 112 #[.pointer (some ⟨tb,0,none⟩)] w λe w'=>e=.returned (.int .i64 l.length)/\w=w':=by
 obtain⟨base,a,sb,db,m,n,S,D,o,pv,p,b,d,f,g,h,i,j,k,c⟩:=H.is;obtain⟨q,cap,rfl,_⟩:=c.is;have r:=b.aK;clear b d f g h i k c H;go_enter Tryz.func112,Tryz.ntmps112;go_wp2;go_ret;exact⟨rfl,rfl⟩
def pO(o:Option Nat):Nat:=match o with|none=>0|some i=>i
def pP(o:Option Nat):Bool:=match o with|none=>false|some _=>true
def Ce(w:World)(tb:Nat)(l:List b5)(A:∀r∈l,r.Ok)(C:eY l=0)(H:tS w tb l)(v:dH w)(h:e_)(D:h.Ok):
    Calls Tryz.prog 87 #[.pointer (some ⟨tb,0,none⟩),.agg #[.int .u8 h.ds,.int .u16 h.id,.int .u8 h.bG,.int .u32 h.s,.int .u32 h.d,.int .u16 h.sp,.int .u16 h.p]] w λe w'=>e=.returned (.tuple #[.int .i64 (pO (ir l h.n):Nat),.bool (pP (ir l h.n))])/\Kp ae w w':=by
 have q:=(Kp.refl ae w).alloc (.cells #[.int .u8 h.ds,.int .u16 h.id,.int .u8 h.bG,.int .u32 h.s,.int .u32 h.d,.int .u16 h.sp,.int .u16 h.p] 42);have y:=aa (Ge _ tb l (H.old q));have z:=aa (Ez _ tb l A C (H.old q) h D);have E:=aa v;have i:=aa q;have hz:=(kB.1 C).1;obtain⟨R,g⟩:∃R,bitsOf (ed l h.n) l.length=R:=⟨_,rfl⟩
 have m:R<18446744073709551616:=by rw[<-g];exact HP (jk _ _) (show 2^l.length<=2^64 from ID (by decide) hz)
 rw[g]at z
 by_cases o:l.length=0
 ·have hf:ir l h.n=none:=nK.2 (λj I=>by omega);rw[hf];rw[o]at y
  clear H v q g;go_enter Tryz.func87,Tryz.ntmps87;go_wp2_with(go_at_call 112;refine y.out.mono ?_;rintro e w1 ⟨rfl,rfl⟩);go_ret2;exact⟨rfl,i.out⟩
 ·by_cases a:R=0
  ·have hf:ir l h.n=none:=sX (by rw[g,a]);rw[hf];rw[a]at z
   have B:¬(l.length:Int)=0:=by omega
   clear H v q g m a o;go_enter Tryz.func87,Tryz.ntmps87
   go_wp2_with(first
    |(go_at_call 112;refine y.out.mono ?_;rintro e w1 ⟨rfl,rfl⟩)
    |(go_at_call 113;refine z.out.mono ?_;rintro e F ⟨rfl,b⟩;have f:=aa b;clear b))
   go_ret2;exact⟨rfl,i.out.trans f.out⟩
  ·have hf:ir l h.n=some (Lib.ctz 64 R):=by rw[<-g];exact ux hz (by rw[g];exact a)
   rw[hf];have t:=aa (λW (k:Kp ae w W)=>tz R m W (E.out.kp k (λx=>x)));have B:¬(l.length:Int)=0:=by omega
   have G:¬(R:Int)=0:=by omega
   obtain⟨c,u⟩:∃c,Lib.ctz 64 R=c:=⟨_,rfl⟩
   rw[u]at t ⊢
   clear H v q g m a o u;go_enter Tryz.func87,Tryz.ntmps87
   go_wp2_with(first
    |(go_at_call 112;refine y.out.mono ?_;rintro e w1 ⟨rfl,rfl⟩)
    |(go_at_call 113;refine z.out.mono ?_;rintro e F ⟨rfl,b⟩;have f:=aa (i.out.trans b);clear b)
    |(go_at_call 114;refine(t.out _ f.out).mono ?_;rintro e w3 ⟨rfl,rfl⟩))
   go_ret2;exact⟨rfl,f.out⟩
def lM(w:World)(tb:Nat)(l:List b5)(k:∀r∈l,r.Ok)(z:eY l=0)(H:tS w tb l)(m:dH w)(h:e_)(A:h.Ok):
    Calls Tryz.prog 57 #[.pointer (some ⟨tb,0,none⟩),.agg #[.int .u8 h.ds,.int .u16 h.id,.int .u8 h.bG,.int .u32 h.s,.int .u32 h.d,.int .u16 h.sp,.int .u16 h.p]] w λe w'=>e=.returned (.tuple #[.int .u32 (pO (eS l h.n):Nat),.bool (pP (eS l h.n))])/\Kp ae w w':=by
 have c:=(Kp.refl ae w).alloc (.cells #[.int .u8 h.ds,.int .u16 h.id,.int .u8 h.bG,.int .u32 h.s,.int .u32 h.d,.int .u16 h.sp,.int .u16 h.p] 42);have HF:=aa (Ce _ tb l k z (H.old c) (m.kp c (λx=>x)) h A);have B:=aa (H.old c);have f:=aa c;rw[uy];cases hf:ir l h.n with
 |none=>
  rw[hf]at HF
  simp only[pO,pP]at HF;clear H m c hf;go_enter Tryz.func57,Tryz.ntmps57;go_wp2_with(go_at_call 87;refine HF.out.mono ?_;rintro e w1 ⟨rfl,a⟩;have b:=aa (f.out.trans a);clear a);go_ret2;exact⟨rfl,b.out⟩
 |some i=>
  rw[hf]at HF
  simp only[pO,pP]at HF;obtain⟨hi,_,_⟩:=nJ.1 hf;have C:(i:Int)<l.length:=by omega
  simp only[JG];have hle:l.getD i default=l[i]:=cn _ hi;obtain⟨x,o⟩:∃x,(l.getD i default).fl=x:=⟨_,rfl⟩
  rw[o];have E:Hid (l[i].fl=x):=by show _=_;rw[<-hle];exact o
  clear H m c hf hle o;go_enter Tryz.func57,Tryz.ntmps57
  go_wp2_with(go_at_call 87;refine HF.out.mono ?_;rintro e w1 ⟨rfl,a⟩;have b:=aa (f.out.trans a);have q:=aa (B.out.old a);clear a
              obtain⟨base,t,sb,db,N,O,S,D,P,pv,Q,v,F,G,I,J,K,u,L,y⟩:=q.out.is;obtain⟨g,off,cap,rfl,j⟩:=y.at (enc:=λr=>[nY r]) (λ_=>rfl) (by decide) i hi;have R:=v.aK;have M:w1.cell? ⟨g,off+i*1,none⟩=some (.int .u32 l[i].fl):=j 0 _ rfl;rw[Iu,E.out]at M
              clear v F G I J K L y j u)
  go_ret2;exact⟨rfl,b.out⟩
end
end Go.Proofs.YtincjochpkdnfaaGreatDoor
