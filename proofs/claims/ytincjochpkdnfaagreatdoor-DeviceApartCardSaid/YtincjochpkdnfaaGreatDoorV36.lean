/- A device's New, whatever the configuration (layer 37). -/
import Derived.Test.YtincjochpkdnfaaGreatDoorV30
import Derived.Test.YtincjochpkdnfaaGreatDoorV31
set_option linter.all false
set_option maxHeartbeats 4000000
set_option maxRecDepth 100000
namespace Go.Proofs.YtincjochpkdnfaaGreatDoor
section
open Go Go.RowKit Go.Shelf
def EV{n:Nat}{r:bX}(h:c9 n r=true):ra r.rt=fw r:=by
 obtain⟨_,c,_,d,_⟩:=kk h;obtain⟨a,b,x⟩:=r;simp only at c d;show[Value.int .u32 a,Value.int .i64 ((b.toNat:Nat):Int),Value.int .i64 ((x.toNat:Nat):Int)]=[Value.int .u32 a,Value.int .i64 b,Value.int .i64 x];rw[show((b.toNat:Nat):Int)=b by omega,show((x.toNat:Nat):Int)=x by omega]
def tZ{n:Nat}:∀ {l:List bX},(∀r∈l,c9 n r=true)->(l.map bX.rt).flatMap ra=l.flatMap fw
 | [],_=>rfl
 |r::l,h=>by
  rw[HA,Iv,Iv,EV (h r (HX ..)),tZ (λx a=>h x (Iz _ a))]
def re.ok{n:Nat}{l:List bX}(h:re n l)(e:∀r∈l,r.Ok)(hlen:l.length<=4096):Ev (l.map bX.rt) n:=by
 have c:∀r∈l.map bX.rt,dt r.1:=λr b=>by
  obtain⟨g,d,rfl⟩:=Hw.1 b;exact mB (h.fF g d) (e g d)
 refine⟨λr b=>⟨c r b,?_⟩,λk T f i=> ?_,by rw[Hq];exact hlen⟩
 ·obtain⟨g,d,rfl⟩:=Hw.1 b;obtain⟨_,_,_,m,o⟩:=kk (h.fF g d);show g.x.toNat<n;omega
 ·have a:=h.nd;rw[<-Jq k (l.map bX.rt),HE,Ib]at a
  rw[tQ i (λr b=>c r (List.mem_of_mem_take b)) a.1,Hk];intro j;refine a.2.2 _ j (l.map bX.rt)[k].1 ?_ rfl;refine Hw.2 ⟨_,?_,rfl⟩;rw[Ii f];exact HX ..
def wK{n:Nat}:∀ {l:List bX} {S:List Px},fx n S l=0->(∀r∈l,c9 n r=true)/\(l.map bX.px).Nodup/\∀r∈l,r.px∉S
 | [],S,_=>⟨λ_ h=>(by cases h),List.nodup_nil,λ_ h=>(by cases h)⟩
 |r::l,S,h=>by
  unfold fx at h;split at h
  ·contradiction
  ·rename_i c;split at h
   ·contradiction
   ·rename_i d;obtain⟨i1,i2,i3⟩:=wK h;refine⟨λx a=> ?_,?_,λx a=> ?_⟩
    ·rcases Ho.1 a with rfl|a
     ·revert c;cases c9 n x<;>simp
     ·exact i1 x a
    ·rw[HA,H6];refine⟨λb=> ?_,i2⟩;obtain⟨y,e,f⟩:=Hw.1 b;exact i3 y e (by rw[f];exact HX ..)
    ·rcases Ho.1 a with rfl|a
     ·exact d
     ·exact λb=>i3 x a (Iz _ b)
def mI{n:Nat}{l:List bX}(h:fx n [] l=0):re n l:=by
 obtain⟨a,b,_⟩:=wK h;refine⟨a,?_⟩;rw[I6];exact b
def wL(b:List fi)(a:List bX)(room batch:Int)(w:World)(hp:mD w b)(o:∀r∈a,r.Ok)(hlen:a.length<=4096)(pv j:Value)(c:Sl w pv b.length 16 (b.flatMap bE))(d:Sl w j a.length 3 (a.flatMap fw))(p:nk b a room batch≠0):
    Calls Tryz.prog 7 #[.agg #[pv,j,.int .i64 room,.int .i64 batch]] w λe w'=>e=.returned (.tuple #[.pointer none,.int .i64 (nk b a room batch)])/\Kp ae w w':=by
 have f:=aa (λW (k:Kp ae w W)=>tT b a room batch W (hp.old k) o hlen pv j (c.old k) (d.old k));obtain⟨E,h⟩:∃E,nk b a room batch=E:=⟨_,rfl⟩
 rw[h]at f p ⊢
 obtain⟨ap,cp,rfl⟩:∃ap cp,pv=.slice ap b.length cp:=by obtain⟨q,cap,rfl,_⟩:=c.is;exact⟨_,_,rfl⟩
 obtain⟨l,m,rfl⟩:∃l m,j=.slice l a.length m:=by obtain⟨q,cap,rfl,_⟩:=d.is;exact⟨_,_,rfl⟩
 have g:=aa ((Kp.refl ae w).alloc (.cells #[.slice ap b.length cp,.slice l a.length m,.int .i64 room,.int .i64 batch] 36));clear hp o hlen c d h;go_enter Tryz.func7,Tryz.ntmps7;go_wp2_with fail;refine(f.out _ g.out).mono ?_;rintro e w1 ⟨rfl,i⟩;have n:=aa (g.out.trans i);clear i g f;go_wp2_with fail;go_ret2;exact⟨rfl,n.out⟩
def sF(f:List fi)(a:List bX)(room batch:Int)(w:World)(hp:mD w f)(p:∀r∈a,r.Ok)(hlen:a.length<=4096)(pv l:Value)(i:Sl w pv f.length 16 (f.flatMap bE))(j:Sl w l a.length 3 (a.flatMap fw))(s:nk f a room batch=0):
    Calls Tryz.prog 7 #[.agg #[pv,l,.int .i64 room,.int .i64 batch]] w λe w'=>∃d:aX,e=.returned (.tuple #[.pointer (some ⟨d.db,0,none⟩),.int .i64 0])/\c2 w' d/\cr (a.map bX.rt) d.T/\d.room=room.toNat/\d.batch=batch.toNat/\d.ls.map aC=f.map (λq=>(dZ q.pc (dn q.pc.c),[],g_))/\w.heap.size<=d.db/\Kp ae w w':=by
 have b:=nl s;have t:=mI b.x9;have m:((room.toNat:Nat):Int)=room:=by have:=b.rm;omega
 have o:((batch.toNat:Nat):Int)=batch:=by have:=b.bt;omega
 obtain⟨ap,cp,rfl⟩:∃ap cp,pv=.slice ap f.length cp:=by obtain⟨D,cap,rfl,_⟩:=i.is;exact⟨_,_,rfl⟩
 have h:=Gu f (a.map bX.rt) room.toNat batch.toNat w ⟨λq g=>⟨hp.ok q g,b.fF q g⟩,hp.mem⟩ b.n8.1 b.n8.2 (by have:=b.rm;omega) (by have:=b.bt;omega) _ l i (by rw[Hq,tZ t.fF];exact j) (λq=>dZ q.pc (dn q.pc.c))
    (λW k=>by rw[m,o];have:=tT f a room batch W (hp.old k) p hlen _ l (i.old k) (j.old k);rw[s]at this;exact this)
    (λW k=>by
     rw[m,o];refine(tR a f.length room batch p hlen ap cp l W (j.old k)).mono ?_;rintro e w' ⟨⟨x,_⟩|⟨_,_,tb,T,n,y,z,A⟩,B⟩
     ·exact absurd b.x9 x
     ·exact⟨tb,T,n,y,z,A,B⟩)
    (λq g W k=>wa q.pc (hp.ok q g) (b.fF q g) q.v q.u W ((hp.mem q g).1.old k) ((hp.mem q g).2.old k) (dn q.pc.c) (kT _) (tY (b.fF q g).dr) (λC _=>Aq q.pc.c (b.fF q g).dr q.v C))
 rw[m,o]at h
 exact h
def Ax{w:World}{d:aX}(h:c2 w d)(s:ByteArray)(i:s.size<=100000)(he:aS (bl s)≠0):
    Calls Tryz.prog 9 #[.pointer (some ⟨d.db,0,none⟩),.string s] w λe w'=>e=.returned (.tuple #[.int .i64 0,.int .i64 (aS (bl s))])/\Kp ae w w':=by
 have c:=aa (λW=>l_ s i he W);obtain⟨E,g⟩:∃E,aS (bl s)=E:=⟨_,rfl⟩
 rw[g]at c he ⊢
 have t1:w.cell? ⟨d.db,1,none⟩=some (.pointer (some ⟨d.tb,0,none⟩)):=h.top.aj;obtain⟨db,a⟩:∃db,d.db=db:=⟨_,rfl⟩
 rw[a]at t1 ⊢
 clear g h a;simp only[cj,lA]at c;go_enter Tryz.func9,Tryz.ntmps9;go_wp2_with fail;refine(c.out _).mono ?_;rintro e w1 ⟨rfl,b⟩;have f:=aa b;clear b t1;go_wp2_with fail;go_ret2;exact⟨rfl,f.out.alloc _⟩
def Ay{w:World}{d:aX}(h:c2 w d)(s:ByteArray)(Z:s.size<=100000)(he:aS (bl s)=0)(hd:(aL (bl s)).d<4294967296)(v:fv (d.T.az (aL (bl s)).d none)=false):
    Calls Tryz.prog 9 #[.pointer (some ⟨d.db,0,none⟩),.string s] w λe w'=>e=.returned (.tuple #[.int .i64 0,.int .i64 7])/\Kp ae w w':=by
 have K:=aa (λW=>dC s Z he W);have HF:=aa (λW (k:Kp ae w W)=>ti.lE W d.tb d.T d.n (h.tab.old k).blk (h.tab.old k).mem h.tab.wf (aL (bl s)).d hd);rw[v]at HF
 obtain⟨H,V⟩:∃H,aL (bl s)=H:=⟨_,rfl⟩
 rw[V]at K HF
 obtain⟨l,g⟩:∃l,bz (d.T.az H.d none)=l:=⟨_,rfl⟩
 rw[g]at HF
 obtain⟨O,P⟩:=l;obtain⟨X,y⟩:∃X,dx (d.T.az H.d none)=X:=⟨_,rfl⟩
 rw[y]at HF
 clear V v hd he g y;have t1:w.cell? ⟨d.db,1,none⟩=some (.pointer (some ⟨d.tb,0,none⟩)):=h.top.aj;obtain⟨db,m⟩:∃db,d.db=db:=⟨_,rfl⟩
 obtain⟨tb,o⟩:∃tb,d.tb=tb:=⟨_,rfl⟩
 rw[m,o]at t1
 rw[o]at HF
 rw[m];obtain⟨ds,id,bG,sr,L,sp,Q⟩:=H;simp only[cj]at K HF;clear h m o;refine al ?_;intro PP Y;go_enter Tryz.func9,Tryz.ntmps9;go_wp2_with fail;refine(K.out _).mono ?_;rintro e w1 ⟨rfl,p⟩;have z:=aa p;have R:=p.cell t1 (λx=>x);clear p;go_upto_region 6 with fail;have q:Kp ae w1 (w1.alloc (.cells #[.int .u8 ds,.int .u16 id,.int .u8 bG,.int .u32 sr,.int .u32 L,.int .u16 sp,.int .u16 Q] 42)):=(Kp.refl ae w1).alloc _;have A:=(ag.new w1 [.int .u8 ds,.int .u16 id,.int .u8 bG,.int .u32 sr,.int .u32 L,.int .u16 sp,.int .u16 Q] 42).a_;obtain⟨M,r⟩:∃M,w1.alloc (.cells #[.int .u8 ds,.int .u16 id,.int .u8 bG,.int .u32 sr,.int .u32 L,.int .u16 sp,.int .u16 Q] 42)=M:=⟨_,rfl⟩
 obtain⟨S,t⟩:∃S,w1.heap.size=S:=⟨_,rfl⟩
 have j:M.cell? ⟨S,4,none⟩=some (.int .u32 L):=by rw[<-r,<-t];exact A
 rw[r]at q ⊢
 rw[t];have f:=aa (z.out.trans q);have t12:=f.out.cell t1 (λx=>x);have B:=aa (λW (k:Kp ae M W)=>HF.out W (f.out.trans k));clear q A r t t1 R K z HF;refine c5 [9,10] [0,1,2,3,4,5,6,7,8,9,10] 11 12 ([.int .u32 0,.int .i64 0]) 72 (by kernel_rfl) (by kernel_rfl) (λc a d u w h=>by cases d<;>exact h) rfl rfl (λ_ _=>by kernel_rfl) ?_;simp only[pick,aO];show dJ _ _ _ _ _ _
 repeat((first
    |refine ay (by rfl) (by as_aux_lemma=>intro W N;have e0:=N.cell t12 (λx=>x);have e1:=N.cell j (λx=>x);go_simp;exact rfl) ?_
    |refine ah (by rfl) ?_
    |refine aR (by rfl) (by as_aux_lemma=>intro W;go_simp;exact⟨rfl,rfl⟩) (by intro W N;with_reducible first|exact B.out W N) ?_);simp only[Act.put,aH])
 show ∀b W,_->_->_->wpList _ _ _ _ _ _;simp only[Act.put,aH];intro b3 W3 C D E;have F:=aa D;have G:=aa (f.out.trans E);have ac:w.heap.size<=b3:=Hy f.out.size C;clear D E C f t12 j B;go_wp2_with(refine aV rfl 72 (.tmp 9) (.tmp 38) rfl F.out [.int .u32 O,.int .i64 P] rfl rfl rfl nu rfl ?_;intro W4 U I;have J:=aa (Y.out (.returned (.tuple #[.int .i64 0,.int .i64 7])) W4 ⟨rfl,G.out.then I (λi h1 h2=>by omega)⟩);clear U I F G Y);exact J.out
def Az{w:World}{d:aX}(h:c2 w d)(s:ByteArray)(hs:s.size<=100000)(he:aS (bl s)=0)(hd:(aL (bl s)).d<4294967296)(i:Nat)(hi:i<d.ls.length)(F:dx (d.T.az (aL (bl s)).d none)=i)(G:fv (d.T.az (aL (bl s)).d none)=true)(hq:d.room<=d.ls[i].q.length):
    Calls Tryz.prog 9 #[.pointer (some ⟨d.db,0,none⟩),.string s] w λe w'=>e=.returned (.tuple #[.int .i64 0,.int .i64 20])/\Kp ae w w':=by
 have X:=aa (λW=>dC s hs he W);have HF:=aa (λW (k:Kp ae w W)=>ti.lE W d.tb d.T d.n (h.tab.old k).blk (h.tab.old k).mem h.tab.wf (aL (bl s)).d hd);rw[F,G]at HF
 obtain⟨H,hH⟩:∃H,aL (bl s)=H:=⟨_,rfl⟩
 rw[hH]at X HF
 obtain⟨r,o⟩:∃r,bz (d.T.az H.d none)=r:=⟨_,rfl⟩
 rw[o]at HF
 obtain⟨ac,ad⟩:=r;clear hH F G hd he o;have av:=aa h;obtain⟨g,sc,hv,af⟩:=aY h.row (by omega);have j:=h.row;rw[hv]at j
 have t:=bu j i (u:=.pointer (some ⟨d.ls[i].lb,0,none⟩)) (by
  have:=flat_get lO 1 ko d.ls i 0 (by decide);rw[Iu,Ig]at this
  rw[this,Hn hi];rfl)
 have hl:=h.ln _ (Ht hi);have Y:=hl.top.cell 1 (v:=.pointer (some ⟨d.ls[i].xb,0,none⟩)) rfl;have aq:=aa hl;have t0:w.cell? ⟨d.db,0,none⟩=some d.v:=h.top.ai;have t1:w.cell? ⟨d.db,1,none⟩=some (.pointer (some ⟨d.tb,0,none⟩)):=h.top.aj;rw[hv]at t0
 obtain⟨lb,I⟩:∃lb,d.ls[i].lb=lb:=⟨_,rfl⟩
 obtain⟨xb,y⟩:∃xb,d.ls[i].xb=xb:=⟨_,rfl⟩
 obtain⟨db,l⟩:∃db,d.db=db:=⟨_,rfl⟩
 obtain⟨tb,z⟩:∃tb,d.tb=tb:=⟨_,rfl⟩
 obtain⟨nl,J⟩:∃nl,d.ls.length=nl:=⟨_,rfl⟩
 have aw:(i:Int)<nl:=by omega
 have K:=aa y;have ax:=aa l;rw[I]at t Y
 rw[y]at Y
 rw[l,z]at t1
 rw[l,J]at t0
 rw[z]at HF
 rw[l];have ar:=aa hq;have ak:=aa hi;obtain⟨ds,id,bG,sr,Z,sp,dp⟩:=H;simp only[cj]at X HF;clear h hl I y hq af l z J j hv;refine al ?_;intro PP au;go_enter Tryz.func9,Tryz.ntmps9;go_wp2_with fail;refine(X.out _).mono ?_;rintro e w1 ⟨rfl,A⟩;have L:=aa A;have an:=A.cell t1 (λx=>x);clear A;go_upto_region 6 with fail;have B:Kp ae w1 (w1.alloc (.cells #[.int .u8 ds,.int .u16 id,.int .u8 bG,.int .u32 sr,.int .u32 Z,.int .u16 sp,.int .u16 dp] 42)):=(Kp.refl ae w1).alloc _;have M:=(ag.new w1 [.int .u8 ds,.int .u16 id,.int .u8 bG,.int .u32 sr,.int .u32 Z,.int .u16 sp,.int .u16 dp] 42).a_;obtain⟨W2,C⟩:∃W2,w1.alloc (.cells #[.int .u8 ds,.int .u16 id,.int .u8 bG,.int .u32 sr,.int .u32 Z,.int .u16 sp,.int .u16 dp] 42)=W2:=⟨_,rfl⟩
 obtain⟨hb,D⟩:∃hb,w1.heap.size=hb:=⟨_,rfl⟩
 have p:W2.cell? ⟨hb,4,none⟩=some (.int .u32 Z):=by rw[<-C,<-D];exact M
 rw[C]at B ⊢
 rw[D];have m:=aa (L.out.trans B);have t12:=m.out.cell t1 (λx=>x);have N:=aa (λW (k:Kp ae W2 W)=>HF.out W (m.out.trans k));clear B M C D t1 an X L HF;refine c5 [9,10] [0,1,2,3,4,5,6,7,8,9,10] 11 12 ([.int .u32 0,.int .i64 0]) 72 (by kernel_rfl) (by kernel_rfl) (λc a d u w h=>by cases d<;>exact h) rfl rfl (λ_ _=>by kernel_rfl) ?_;simp only[pick,aO];show dJ _ _ _ _ _ _
 repeat((first
    |refine ay (by rfl) (by as_aux_lemma=>intro W hK;have e0:=hK.cell t12 (λx=>x);have e1:=hK.cell p (λx=>x);go_simp;exact rfl) ?_
    |refine ah (by rfl) ?_
    |refine aR (by rfl) (by as_aux_lemma=>intro W;go_simp;exact⟨rfl,rfl⟩) (by intro W hK;with_reducible first|exact N.out W hK) ?_);simp only[Act.put,aH])
 show ∀b W,_->_->_->wpList _ _ _ _ _ _;simp only[Act.put,aH];intro b3 W3 O P Q;have R:=aa P;have S:=aa (m.out.trans Q);have aA:w.heap.size<=b3:=Hy m.out.size O;clear P Q O m t12 p N;go_wp2_with(refine aV rfl 72 (.tmp 9) (.tmp 38) rfl R.out [.int .u32 ac,.int .i64 ad] rfl rfl rfl nu rfl ?_;intro W4 ao U;have f:Hid (Kp ae w W4):=aa (S.out.then U (λi h1 h2=>by omega));have s0:=f.out.cell t0 (λx=>x);have s1:=f.out.cell t (λx=>x);have s2:=f.out.cell Y (λx=>x);clear ao U R S t0 t Y);have E:=uS (aq.out.bx.old f.out) ar.out s;rw[K.out]at E
 refine E.mono ?_;rintro e w5 ⟨rfl,rfl⟩;have V:=aa (au.out (.returned (.tuple #[.int .i64 0,.int .i64 20])) W4 ⟨rfl,f.out⟩);clear E aq au av ar K s0 s1 s2 ak f;go_wp2_with fail;exact V.out
end
end Go.Proofs.YtincjochpkdnfaaGreatDoor
