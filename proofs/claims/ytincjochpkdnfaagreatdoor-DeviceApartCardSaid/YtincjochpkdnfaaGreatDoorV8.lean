/- Heaps (layer 9): entries' cells; which is ahead. -/
import Derived.Test.YtincjochpkdnfaaGreatDoorV1
import Derived.Test.YtincjochpkdnfaaGreatDoorV2
import Derived.Deep.RegionHeld3
import Derived.Deep.Cut
set_option linter.all false
set_option maxHeartbeats 4000000
set_option maxRecDepth 100000
namespace Go.Proofs.YtincjochpkdnfaaGreatDoor
section
open Go Go.RowKit Go.Shelf
structure Pk where
 cE:Nat
 id:Nat
 len:Nat
def ix(p:Pk):List Value:=[.int .u32 p.cE,.int .u32 p.id,.int .u64 p.len]
def eK(e:En Pk):List Value:=[.int .u64 e.ao,.int .u64 e.bK]++ix e.x
def dj(e:En Pk):(eK e).length=5:=rfl
def l5(a b:En Pk)(w:World):Calls Tryz.prog 194 #[.agg (eK a).toArray,.agg (eK b).toArray] w λe w'=>e=.returned (.bool (ec a b))/\Kp ae w w':=by
 obtain⟨c,ca,⟨fa,f,g⟩⟩:=a;obtain⟨rb,cb,⟨fb,h,lb⟩⟩:=b;show Calls Tryz.prog 194 #[.agg #[.int .u64 (c:Int),.int .u64 (ca:Int),.int .u32 (fa:Int),.int .u32 (f:Int),.int .u64 (g:Int)],.agg #[.int .u64 (rb:Int),.int .u64 (cb:Int),.int .u32 (fb:Int),.int .u32 (h:Int),.int .u64 (lb:Int)]] w _;by_cases k:c<rb
 ·have d:Hid (ec (⟨c,ca,⟨fa,f,g⟩⟩:En Pk) ⟨rb,cb,⟨fb,h,lb⟩⟩=true):=by show _=_;simp[ec,k]
  have i:(c:Int)<rb:=by omega
  go_enter Tryz.func194,Tryz.ntmps194;go_wp2;go_ret;exact⟨by rw[d.out];rfl,((Kp.refl _ _).alloc _).alloc _⟩
 ·have i:¬(c:Int)<rb:=by omega
  by_cases l:c=rb
  ·subst l;by_cases m:ca<cb
   ·have d:Hid (ec (⟨c,ca,⟨fa,f,g⟩⟩:En Pk) ⟨c,cb,⟨fb,h,lb⟩⟩=true):=by show _=_;simp[ec,m]
    have j:(ca:Int)<cb:=by omega
    go_enter Tryz.func194,Tryz.ntmps194;go_wp2;go_ret;exact⟨by rw[d.out];rfl,((Kp.refl _ _).alloc _).alloc _⟩
   ·have d:Hid (ec (⟨c,ca,⟨fa,f,g⟩⟩:En Pk) ⟨c,cb,⟨fb,h,lb⟩⟩=false):=by show _=_;simp[ec,m]
    have j:¬(ca:Int)<cb:=by omega
    go_enter Tryz.func194,Tryz.ntmps194;go_wp2;go_ret;exact⟨by rw[d.out];rfl,((Kp.refl _ _).alloc _).alloc _⟩
  ·have d:Hid (ec (⟨c,ca,⟨fa,f,g⟩⟩:En Pk) ⟨rb,cb,⟨fb,h,lb⟩⟩=false):=by show _=_;simp[ec,k,l]
   have n:((c:Int)==rb)=false:=by simp;omega
   go_enter Tryz.func194,Tryz.ntmps194;go_wp2;go_ret;exact⟨by rw[d.out];rfl,((Kp.refl _ _).alloc _).alloc _⟩
def iy{base:Nat}{e:TypeId}{size n g cap:Nat}:∀(a:List Value) (o:Nat) (w:World) (xs:List Value),w.ownsRow base e size (.slice (some ⟨g,0,none⟩) n cap) n xs->
    (w.setCells g o a).ownsRow base e size (.slice (some ⟨g,0,none⟩) n cap) n (cL xs o a)
 | [],_,_,_,h=>h
 |v::r,o,_,_,h=>iy r (o+1) _ _ (iG h o v)
def bS{P:Program}{ops:Array Oper}{rest:List Oper}{op:Oper}{a:Act}{Q:Exit->Act->World->Prop}(d:op.guard=none)(ty:TypeId)(x y:Operand)(p:op.op=.store ty x y){α:Type}(enc:α->List Value)(size:Nat)(hlen:∀a,(enc a).length=size){w:World}{g B n cap:Nat}{e:TypeId}(l:List α)
    (f:w.ownsRow B e size (.slice (some ⟨g,0,none⟩) n cap) n (l.flatMap enc)) (i:Nat) (hi:i<l.length) (v:α) {o:Nat} (k:o=i*size)
    (q:a.eval x=.pointer (some ⟨g,o,none⟩)) (hy:a.eval y=.agg (enc v).toArray) (c:(P.info? ty).map (·.size)=some (enc v).length) (r:(enc v).all (·.oneCell')=true)
    (h:∀m,m.ownsRow B e size (.slice (some ⟨g,0,none⟩) n cap) n ((l.set i v).flatMap enc)->Kp (λb=>b=g) w m->wpList P ops Q rest (a.put op.dst undef) m):wpList P ops Q (op::rest) a w:=by
 subst k;refine wpList_store_mid d ty x y p g (i*size) (enc v).toArray q hy ?_ (by rw[HY];exact c) (by simpa using r) ?_
 ·intro j s;rw[HY,hlen]at s
  refine⟨?_,gH f _⟩;have t:(l.flatMap enc).length=l.length*size:=cA enc size hlen l;have:i*size+size<=l.length*size:=by
   have:=I0 size (show i+1<=l.length by omega);rw[Nat.add_mul,Nat.one_mul]at this;exact this
  rw[bu f (i*size+j) (Hn (show i*size+j<(l.flatMap enc).length by omega))];rfl
 ·refine h _ ?_ (eE (S:=λb=>b=g) (.inl rfl) _ _ _ (Kp.refl _ _));have:=iy (enc v).toArray.toList (i*size) _ _ f;rw[eD enc size hlen l i v hi];exact this
def bL{w0:World}{ty:TypeId}{o:Oper}{x:Operand}{a:Act}{b off:Nat}{v:Value}(c:o.op=.load ty x)(d:a.eval x=.pointer (some ⟨b,off,none⟩))
    (h:∀W,Kp ae w0 W->(Instr.loadAt ty (.pointer (some ⟨b,off,none⟩))).run Tryz.prog W=.ok v W):∀W,Kp ae w0 W->(execOp a.eval o).run Tryz.prog W=.ok (.value v) W:=λW e=>by
 have f:=h W e;unfold execOp;simp only[c,d,IG,IP,IC,f]
def fM(e:En Pk):(Tryz.prog.info? 359).map (·.size)=some (eK e).length:=by rw[dj];kernel_rfl
def b7{w:World}{B g cap n:Nat}{m:List (En Pk)}(h:w.ownsRow B 359 5 (.slice (some ⟨g,0,none⟩) n cap) n (m.flatMap eK))(i:Nat)(hi:i<m.length):
    ∀W,Kp ae w W->(Instr.loadAt 359 (.pointer (some ⟨g,i*5,none⟩))).run Tryz.prog W=.ok (.agg (eK m[i]).toArray) W:=λW b=>
 run_loadAt_mid W g (i*5) 359 (eK m[i]) _ (λj v a=>b.cell (bu h (i*5+j) (by
  have c:j<5:=by have:=(HD.1 a).1;rwa [dj]at this
  rw[flat_get eK 5 dj m i j c,Hn hi];exact a)) id) Tryz.underlying359 rfl (fM _)
def GM(z:En Pk){B K g cap n:Nat}{u1 u2:Value}(l:List (En Pk))(L:l.length=n)(hn:n<=100000)(i:Nat)(hU:ql z l i)(hi:i<n)(w:World)
    (o:ag w K [.slice (some ⟨g,0,none⟩) n cap,u1,u2] 263) (M:w.ownsRow B 359 5 (.slice (some ⟨g,0,none⟩) n cap) n (l.flatMap eK)):
    Calls Tryz.prog 193 #[.pointer (some ⟨K,0,none⟩),.int .i64 i] w λe w'=>e=.returned (.tuple #[])/\∃N,ej z N/\N.Perm l/\w'.ownsRow B 359 5 (.slice (some ⟨g,0,none⟩) n cap) n (N.flatMap eK)/\Kp (λb=>b=g) w w':=by
 have O:g≠K:=λe=>aA M o (by decide) (by rw[e];rfl);have ae:=aa o;have v:=aa M;have k:=aa hU;clear o M hU;go_enter Tryz.func193,Tryz.ntmps193;go_wp2_with fail;go_loopw [1] (λi0 wr=>∃(i:Nat) (m:List (En Pk)),i0=.int .i64 i/\i<n/\m.length=n/\Hid (ql z m i/\m.Perm l)/\Hid (wr.ownsRow B 359 5 (.slice (some ⟨g,0,none⟩) n cap) n (m.flatMap eK))/\Hid (Kp (λb=>b=g) w wr)) (λi0 _=>(intOf i0).toNat)
 case atStart=>exact⟨i,l,rfl,hi,L,aa ⟨k.out,List.Perm.refl _⟩,v,aa (Kp.refl _ _)⟩
 case round=>
  obtain⟨i,m,rfl,hi,hm,k,v,G⟩:=hrel;have c0:_=some (Value.slice (some ⟨g,0,none⟩) n cap):=(ae.out.kp G.out (λe=>O e.symm)).ai;by_cases h0:i=0
  ·subst h0;have P:=aa (sQ k.out.1 (.inl rfl));go_wp2_with fail;go_end0;exact⟨rfl,m,P.out,k.out.2,v.out,G.out⟩
  ·have af:(0:Int)<(i:Int):=by omega
   obtain⟨p,hp⟩:∃p,(i-1)/2=p:=⟨_,rfl⟩
   have aj:((i:Int)-1)/2=(p:Int):=by omega
   have ak:p<i:=by omega
   have Q:=aa hp;have al:(p:Int)<n:=by omega
   have an:(i:Int)<n:=by omega
   have L1:=aa (b7 v.out i (by omega));have L2:=aa (b7 v.out p (by omega));have H:=aa (cM (z:=z) (l:=m) (i:=i) (by omega));have I:=aa (cM (z:=z) (l:=m) (i:=p) (by omega));obtain⟨a,ha⟩:∃a,m[i]'(by omega)=a:=⟨_,rfl⟩
   obtain⟨b,q⟩:∃b,m[p]'(by omega)=b:=⟨_,rfl⟩
   rw[ha]at L1 H
   rw[q]at L2 I
   have R:=aa (λW=>l5 a b W);have S:=aa ha;have T:=aa q;clear ha q hp h0;go_wp2_with fail;refine df [] [0,1,2,3,4,5,6,7,8,9,10,11,12,13,14] 15 (by kernel_rfl) (by kernel_rfl) (λc a d u w h=>by cases d<;>exact h) ?_;simp only[pick,aO];show dJ _ _ _ _ _ _
   repeat(first
      |(refine bc (by exact rfl) (bL rfl rfl L1.out) ?_;simp only[Act.put,aH])
      |(refine bc (by exact rfl) (bL rfl rfl L2.out) ?_;simp only[Act.put,aH])
      |(refine bc (by exact rfl) (by as_aux_lemma=>intro W J;have e0:=J.cell c0 id;go_simp;exact rfl) ?_;simp only[Act.put,aH])
      |(refine ah (by exact rfl) ?_;simp only[Act.put,aH])
      |(refine ui (by exact rfl) (by as_aux_lemma=>intro W;go_simp;exact⟨rfl,rfl⟩) (by intro W J;with_reducible first|exact R.out W) ?_;simp only[Act.put,aH]))
   show ∀W,_->wpList _ _ _ _ _ _;intro W2 f;have y:=aa f;have j:=aa (au v.out f (λ_ _ x=>x));have c2:=f.cell c0 id;clear f c0;cases A:ec a b with
   |false=>
    have P:=aa (sQ k.out.1 (.inr (by rw[Q.out,H.out,I.out];exact A)));have r:Hid (Kp (λb=>b=g) w W2):=aa (G.out.trans (y.out.mono (λ_ _ x=>x.elim)));go_wp2;refine HT (If rfl _ _ _) rfl ?_;exact⟨rfl,m,P.out,k.out.2,j.out,r.out⟩
   |true=>
    have L3:=aa (b7 j.out i (by omega));have L4:=aa (b7 j.out p (by omega));rw[S.out]at L3
    rw[T.out]at L4
    go_wp2_with fail;refine df [9] [0,1,2,3,4,5,6,7,8,10,11,12,13,14,15,16,17,18,19,20,21,22,23] 24 (by kernel_rfl) (by kernel_rfl) (λc a d u w h=>by cases d<;>exact h) ?_;simp only[pick,aO];refine ib (by exact rfl) (by as_aux_lemma=>intro W;go_simp;exact rfl) ?_;simp only[Act.put,aH];show dJ _ _ _ _ _ _
    repeat(first
     |(refine bc (by exact rfl) (bL rfl rfl L3.out) ?_;simp only[Act.put,aH])
     |(refine bc (by exact rfl) (bL rfl rfl L4.out) ?_;simp only[Act.put,aH])
     |(refine bc (by exact rfl) (by as_aux_lemma=>intro W J;have e0:=J.cell c2 id;go_simp;exact rfl) ?_;simp only[Act.put,aH])
     |(refine ah (by exact rfl) ?_;simp only[Act.put,aH]))
    show ∀W,_->wpList _ _ _ _ _ _;intro W3 s;have U:=aa (au j.out s (λ_ _ x=>x));have r:Hid (Kp (λb=>b=g) w W3):=aa (G.out.trans ((y.out.trans s).mono (λ_ _ x=>x.elim)));clear s c2;have V:Hid ((m.set i b).set p a=swp z m i p):=by
     show _=_;unfold swp;rw[H.out,I.out]
    have C:=aa (yu k.out.1 (by omega) (by omega) (by rw[Q.out,H.out,I.out];exact A));rw[Q.out]at C
    have X:=aa ((kv (z:=z) (l:=m) (i:=i) (p:=p) (by omega) (by omega) (by omega)).trans k.out.2)
    go_wp2_with(first
     |(refine bS rfl 359 (.tmp 50) (.tmp 42) rfl eK 5 dj m U.out i (by omega) b rfl rfl rfl (fM b) rfl ?_
       intro W4 D E;have Y:=aa D;have Z:Hid (Kp (λb=>b=g) w W4):=aa (r.out.trans E)
       clear D E)
     |(refine bS rfl 359 (.tmp 51) (.tmp 49) rfl eK 5 dj (m.set i b) Y.out p (by rw[Hr];omega) a rfl rfl rfl (fM a) rfl ?_
       intro W5 t F;rw[V.out]at t
       have ac:=aa t;have ad:Hid (Kp (λb=>b=g) w W5):=aa (Z.out.trans F)
       clear t F))
    go_roundw
    case rel=>exact⟨p,swp z m i p,rfl,by omega,by rw[gO];exact hm,aa ⟨C.out,X.out⟩,ac,ad⟩
    case measure=>simp[intOf];omega
def Dw(z:En Pk){B hb g cap n:Nat}{u1 u2:Value}(l:List (En Pk))(az:l.length=n)(hn:n<=100000)(i:Nat)(hU:jf z l i)(hi:i<=n)(w:World)
    (aj:ag w hb [.slice (some ⟨g,0,none⟩) n cap,u1,u2] 263) (ho:w.ownsRow B 359 5 (.slice (some ⟨g,0,none⟩) n cap) n (l.flatMap eK)):
    Calls Tryz.prog 192 #[.pointer (some ⟨hb,0,none⟩),.int .i64 i] w λe w'=>e=.returned (.tuple #[])/\∃l',ej z l'/\l'.Perm l/\w'.ownsRow B 359 5 (.slice (some ⟨g,0,none⟩) n cap) n (l'.flatMap eK)/\Kp (λb=>b=g) w w':=by
 have aB:g≠hb:=λe=>aA ho aj (by decide) (by rw[e];rfl);have aG:=aa aj;have ak:=aa ho;have I:=aa hU;clear aj ho hU;go_enter Tryz.func192,Tryz.ntmps192;go_wp2_with fail;go_loopw [1] (λi0 wr=>∃(i:Nat) (m:List (En Pk)),i0=.int .i64 i/\i<=n/\m.length=n/\Hid (jf z m i/\m.Perm l)/\Hid (wr.ownsRow B 359 5 (.slice (some ⟨g,0,none⟩) n cap) n (m.flatMap eK))/\Hid (Kp (λb=>b=g) w wr)) (λi0 _=>n+1-(intOf i0).toNat)
 case atStart=>exact⟨i,l,rfl,hi,az,aa ⟨I.out,List.Perm.refl _⟩,ak,aa (Kp.refl _ _)⟩
 case round=>
  obtain⟨i,m,rfl,hi,hm,I,ak,ax⟩:=hrel;have c0:_=some (Value.slice (some ⟨g,0,none⟩) n cap):=(aG.out.kp ax.out (λe=>aB e.symm)).ai;by_cases hu:n<=2*i+1
  ·have aC:(n:Int)<=2*(i:Int)+1:=by omega
   have al:=aa (jg I.out.1 (λj Z h0 t=>by omega));go_wp2_with fail;refine HT (If rfl _ _ _) rfl ?_;exact⟨rfl,m,al.out,I.out.2,ak.out,ax.out⟩
  ·have aC:¬((n:Int)<=2*(i:Int)+1):=by omega
   obtain⟨u,aI⟩:∃u,2*i+1=u:=⟨_,rfl⟩
   have aJ:2*(i:Int)+1=(u:Int):=by omega
   have aK:u<n:=by omega
   have aL:(u:Int)<n:=by omega
   by_cases hv:u+1<n
   ·have an:(u:Int)+1<n:=by omega
    have L1:=aa (b7 ak.out (u+1) (by omega));have L2:=aa (b7 ak.out u (by omega));have E1:=aa (cM (z:=z) (l:=m) (i:=u+1) (by omega));have E2:=aa (cM (z:=z) (l:=m) (i:=u) (by omega));obtain⟨a,ha⟩:∃a,m[u+1]'(by omega)=a:=⟨_,rfl⟩
    obtain⟨b,ao⟩:∃b,m[u]'(by omega)=b:=⟨_,rfl⟩
    rw[ha]at L1 E1
    rw[ao]at L2 E2
    have aD:=aa (λW=>l5 a b W);clear ha ao;have aE:Hid (IntKind.i64.wrap ((u:Int)+1)=(u:Int)+1):=aa (by rw[H3];omega);have aF:Hid (decide ((u:Int)+1<n)=true):=aa (by simpa using an);have aM:Hid (((u:Int)+1).toNat=u+1):=aa (by omega);go_wp2_with fail;refine ar 25 (by kernel_rfl) (λ_ _ _ _ _ h=>h) ?_;simp only[aO]
    repeat((first
      |refine bc (by exact rfl) (bL rfl rfl L1.out) ?_
      |refine bc (by exact rfl) (bL rfl rfl L2.out) ?_
      |refine ay (by rfl) (by as_aux_lemma=>intro W v;have e0:=v.cell c0 (λx=>x);have e1:=aE.out;have e2:=aF.out;have e3:=aM.out;go_simp;exact rfl) ?_
      |refine ah (by rfl) ?_
      |refine aR (by rfl) (by as_aux_lemma=>intro W;go_simp;exact⟨rfl,rfl⟩) (by intro W v;with_reducible first|exact aD.out W) ?_);simp only[Act.put,aH])
    intro W2 A;have s:=aa (au ak.out A (λ_ _ x=>x));have Y:=A.cell c0 (λx=>x);have ac:Hid (Kp (λb=>b=g) w W2):=aa (ax.out.trans (A.mono (λ_ _ x=>x.elim)));clear A c0;cases ad:ec a b with
    |true=>
     have C:Hid (∀j,j<m.length->0<j->(j-1)/2=i->ec (b_ z m j) (b_ z m (u+1))=false):=aa (λj Z h0 t=>by
      have:j=u\/j=u+1:=by omega
      rcases this with rfl|rfl
      ·rw[E1.out,E2.out];exact lj ad
      ·exact iJ _)
     obtain⟨q,hq⟩:∃q,u+1=q:=⟨_,rfl⟩
     have aN:(u:Int)+1=(q:Int):=by omega
     have aq:q<n:=by omega
     rw[hq]at C
     clear ad E1 E2 L1 L2;have L:Hid ((q-1)/2=i):=aa (by omega);have ae:(q:Int)<n:=by omega
     have af:(i:Int)<n:=by omega
     have L5:=aa (b7 s.out q (by omega));have L6:=aa (b7 s.out i (by omega));have J:=aa (cM (z:=z) (l:=m) (i:=q) (by omega));have K:=aa (cM (z:=z) (l:=m) (i:=i) (by omega));obtain⟨x,M⟩:∃x,m[q]'(by omega)=x:=⟨_,rfl⟩
     obtain⟨y,hy⟩:∃y,m[i]'(by omega)=y:=⟨_,rfl⟩
     rw[M]at L5 J
     rw[hy]at L6 K
     have av:=aa M;have aw:=aa hy;have N:=aa (λW=>l5 x y W);clear M hy;go_wp2_with fail;refine ar 15 (by kernel_rfl) (λ_ _ _ _ _ h=>h) ?_;simp only[aO]
     repeat((first
      |refine bc (by exact rfl) (bL rfl rfl L5.out) ?_
      |refine bc (by exact rfl) (bL rfl rfl L6.out) ?_
      |refine ay (by rfl) (by as_aux_lemma=>intro W v;have e0:=v.cell Y (λx=>x);go_simp;exact rfl) ?_
      |refine ah (by rfl) ?_
      |refine aR (by rfl) (by as_aux_lemma=>intro W;go_simp;exact⟨rfl,rfl⟩) (by intro W v;with_reducible first|exact N.out W) ?_);simp only[Act.put,aH])
     intro W3 f;have k:=aa (au s.out f (λ_ _ x=>x));have c3:=f.cell Y (λx=>x);have D:Hid (Kp (λb=>b=g) w W3):=aa (ac.out.trans (f.mono (λ_ _ x=>x.elim)));clear f Y;cases E:ec x y with
     |false=>
      have al:=aa (jg I.out.1 (λj Z h0 t=>by
       have h1:=C.out j Z h0 t;have h2:=E;rw[<-J.out,<-K.out]at h2
       exact gv h1 h2))
      go_wp2;refine HT (If rfl _ _ _) rfl ?_;exact⟨rfl,m,al.out,I.out.2,k.out,D.out⟩
     |true=>
      have L7:=aa (b7 k.out q (by omega));have L8:=aa (b7 k.out i (by omega));rw[av.out]at L7
      rw[aw.out]at L8
      have O:Hid ((m.set i x).set q y=swp z m i q):=by
       show _=_;unfold swp;rw[J.out,K.out]
      have P:=aa (lk I.out.1 (by omega) L.out (by omega) (by rw[J.out,K.out];exact E) C.out);have Q:=aa ((kv (z:=z) (l:=m) (i:=i) (p:=q) (by omega) (by omega) (by omega)).trans I.out.2);go_wp2_with fail;refine df [9] [0,1,2,3,4,5,6,7,8,10,11,12,13,14,15,16,17,18,19,20,21,22,23] 24 (by kernel_rfl) (by kernel_rfl) (λc a d u w h=>by cases d<;>exact h) ?_;simp only[pick,aO]
      repeat(first
       |(refine ib (by exact rfl) (by as_aux_lemma=>intro W;go_simp;exact rfl) ?_;simp only[Act.put,aH])
       |(refine ja (by exact rfl) ?_;simp only[Act.put,aH]))
      show dJ _ _ _ _ _ _
      repeat((first
       |refine bc (by exact rfl) (bL rfl rfl L7.out) ?_
       |refine bc (by exact rfl) (bL rfl rfl L8.out) ?_
       |refine ay (by rfl) (by as_aux_lemma=>intro W v;have e0:=v.cell c3 (λx=>x);go_simp;exact rfl) ?_
       |refine ah (by rfl) ?_);simp only[Act.put,aH])
      show ∀W,_->wpList _ _ _ _ _ _;intro W4 o;have R:=aa (au k.out o (λ_ _ x=>x));have S:Hid (Kp (λb=>b=g) w W4):=aa (D.out.trans (o.mono (λ_ _ x=>x.elim)));clear o c3
      go_wp2_with(first
       |(refine bS rfl 359 (.tmp 83) (.tmp 75) rfl eK 5 dj m R.out i (by omega) x rfl rfl rfl (fM x) rfl ?_
         intro W5 F G;have T:=aa F;have U:Hid (Kp (λb=>b=g) w W5):=aa (S.out.trans G)
         clear F G)
       |(refine bS rfl 359 (.tmp 84) (.tmp 82) rfl eK 5 dj (m.set i x) T.out q (by rw[Hr];omega) y rfl rfl rfl (fM y) rfl ?_
         intro W6 r H;rw[O.out]at r
         have V:=aa r;have X:Hid (Kp (λb=>b=g) w W6):=aa (U.out.trans H)
         clear r H))
      go_roundw
      case rel=>exact⟨q,swp z m i q,rfl,by omega,by rw[gO];exact hm,aa ⟨P.out,Q.out⟩,V,X⟩
      case measure=>simp[intOf];omega
    |false=>
     have C:Hid (∀j,j<m.length->0<j->(j-1)/2=i->ec (b_ z m j) (b_ z m u)=false):=aa (λj Z h0 t=>by
      have:j=u\/j=u+1:=by omega
      rcases this with rfl|rfl
      ·exact iJ _
      ·rw[E1.out,E2.out];exact ad)
     obtain⟨q,hq⟩:∃q,q=u:=⟨_,rfl⟩
     have aq:q<n:=by omega
     subst hq;clear ad E1 E2 L1 L2;have L:Hid ((q-1)/2=i):=aa (by omega);have ae:(q:Int)<n:=by omega
     have af:(i:Int)<n:=by omega
     have L5:=aa (b7 s.out q (by omega));have L6:=aa (b7 s.out i (by omega));have J:=aa (cM (z:=z) (l:=m) (i:=q) (by omega));have K:=aa (cM (z:=z) (l:=m) (i:=i) (by omega));obtain⟨x,M⟩:∃x,m[q]'(by omega)=x:=⟨_,rfl⟩
     obtain⟨y,hy⟩:∃y,m[i]'(by omega)=y:=⟨_,rfl⟩
     rw[M]at L5 J
     rw[hy]at L6 K
     have av:=aa M;have aw:=aa hy;have N:=aa (λW=>l5 x y W);clear M hy;go_wp2_with fail;refine ar 15 (by kernel_rfl) (λ_ _ _ _ _ h=>h) ?_;simp only[aO]
     repeat((first
      |refine bc (by exact rfl) (bL rfl rfl L5.out) ?_
      |refine bc (by exact rfl) (bL rfl rfl L6.out) ?_
      |refine ay (by rfl) (by as_aux_lemma=>intro W v;have e0:=v.cell Y (λx=>x);go_simp;exact rfl) ?_
      |refine ah (by rfl) ?_
      |refine aR (by rfl) (by as_aux_lemma=>intro W;go_simp;exact⟨rfl,rfl⟩) (by intro W v;with_reducible first|exact N.out W) ?_);simp only[Act.put,aH])
     intro W3 f;have k:=aa (au s.out f (λ_ _ x=>x));have c3:=f.cell Y (λx=>x);have D:Hid (Kp (λb=>b=g) w W3):=aa (ac.out.trans (f.mono (λ_ _ x=>x.elim)));clear f Y;cases E:ec x y with
     |false=>
      have al:=aa (jg I.out.1 (λj Z h0 t=>by
       have h1:=C.out j Z h0 t;have h2:=E;rw[<-J.out,<-K.out]at h2
       exact gv h1 h2))
      go_wp2;refine HT (If rfl _ _ _) rfl ?_;exact⟨rfl,m,al.out,I.out.2,k.out,D.out⟩
     |true=>
      have L7:=aa (b7 k.out q (by omega));have L8:=aa (b7 k.out i (by omega));rw[av.out]at L7
      rw[aw.out]at L8
      have O:Hid ((m.set i x).set q y=swp z m i q):=by
       show _=_;unfold swp;rw[J.out,K.out]
      have P:=aa (lk I.out.1 (by omega) L.out (by omega) (by rw[J.out,K.out];exact E) C.out);have Q:=aa ((kv (z:=z) (l:=m) (i:=i) (p:=q) (by omega) (by omega) (by omega)).trans I.out.2);go_wp2_with fail;refine df [9] [0,1,2,3,4,5,6,7,8,10,11,12,13,14,15,16,17,18,19,20,21,22,23] 24 (by kernel_rfl) (by kernel_rfl) (λc a d u w h=>by cases d<;>exact h) ?_;simp only[pick,aO]
      repeat(first
       |(refine ib (by exact rfl) (by as_aux_lemma=>intro W;go_simp;exact rfl) ?_;simp only[Act.put,aH])
       |(refine ja (by exact rfl) ?_;simp only[Act.put,aH]))
      show dJ _ _ _ _ _ _
      repeat((first
       |refine bc (by exact rfl) (bL rfl rfl L7.out) ?_
       |refine bc (by exact rfl) (bL rfl rfl L8.out) ?_
       |refine ay (by rfl) (by as_aux_lemma=>intro W v;have e0:=v.cell c3 (λx=>x);go_simp;exact rfl) ?_
       |refine ah (by rfl) ?_);simp only[Act.put,aH])
      show ∀W,_->wpList _ _ _ _ _ _;intro W4 o;have R:=aa (au k.out o (λ_ _ x=>x));have S:Hid (Kp (λb=>b=g) w W4):=aa (D.out.trans (o.mono (λ_ _ x=>x.elim)));clear o c3
      go_wp2_with(first
       |(refine bS rfl 359 (.tmp 83) (.tmp 75) rfl eK 5 dj m R.out i (by omega) x rfl rfl rfl (fM x) rfl ?_
         intro W5 F G;have T:=aa F;have U:Hid (Kp (λb=>b=g) w W5):=aa (S.out.trans G)
         clear F G)
       |(refine bS rfl 359 (.tmp 84) (.tmp 82) rfl eK 5 dj (m.set i x) T.out q (by rw[Hr];omega) y rfl rfl rfl (fM y) rfl ?_
         intro W6 r H;rw[O.out]at r
         have V:=aa r;have X:Hid (Kp (λb=>b=g) w W6):=aa (U.out.trans H)
         clear r H))
      go_roundw
      case rel=>exact⟨q,swp z m i q,rfl,by omega,by rw[gO];exact hm,aa ⟨P.out,Q.out⟩,V,X⟩
      case measure=>simp[intOf];omega
   ·have an:¬((u:Int)+1<n):=by omega
    have C:Hid (∀j,j<m.length->0<j->(j-1)/2=i->ec (b_ z m j) (b_ z m u)=false):=aa (λj Z h0 t=>by
     have:j=u:=by omega
     subst this;exact iJ _)
    have aE:Hid (IntKind.i64.wrap ((u:Int)+1)=(u:Int)+1):=aa (by rw[H3];omega);have aF:Hid (decide ((u:Int)+1<n)=false):=aa (by simpa using an);go_wp2_with fail;refine ar 25 (by kernel_rfl) (λ_ _ _ _ _ h=>h) ?_;simp only[aO]
    repeat((first
      |refine ay (by rfl) (by as_aux_lemma=>intro W v;have e0:=v.cell c0 (λx=>x);have e1:=aE.out;have e2:=aF.out;go_simp;exact rfl) ?_
      |refine ah (by rfl) ?_);simp only[Act.put,aH])
    intro W2 A;have s:=aa (au ak.out A (λ_ _ x=>x));have Y:=A.cell c0 (λx=>x);have ac:Hid (Kp (λb=>b=g) w W2):=aa (ax.out.trans (A.mono (λ_ _ x=>x.elim)));clear A c0;obtain⟨q,hq⟩:∃q,q=u:=⟨_,rfl⟩
    have aq:q<n:=by omega
    subst hq;have L:Hid ((q-1)/2=i):=aa (by omega);have ae:(q:Int)<n:=by omega
    have af:(i:Int)<n:=by omega
    have L5:=aa (b7 s.out q (by omega));have L6:=aa (b7 s.out i (by omega));have J:=aa (cM (z:=z) (l:=m) (i:=q) (by omega));have K:=aa (cM (z:=z) (l:=m) (i:=i) (by omega));obtain⟨x,M⟩:∃x,m[q]'(by omega)=x:=⟨_,rfl⟩
    obtain⟨y,hy⟩:∃y,m[i]'(by omega)=y:=⟨_,rfl⟩
    rw[M]at L5 J
    rw[hy]at L6 K
    have av:=aa M;have aw:=aa hy;have N:=aa (λW=>l5 x y W);clear M hy;go_wp2_with fail;refine ar 15 (by kernel_rfl) (λ_ _ _ _ _ h=>h) ?_;simp only[aO]
    repeat((first
      |refine bc (by exact rfl) (bL rfl rfl L5.out) ?_
      |refine bc (by exact rfl) (bL rfl rfl L6.out) ?_
      |refine ay (by rfl) (by as_aux_lemma=>intro W v;have e0:=v.cell Y (λx=>x);go_simp;exact rfl) ?_
      |refine ah (by rfl) ?_
      |refine aR (by rfl) (by as_aux_lemma=>intro W;go_simp;exact⟨rfl,rfl⟩) (by intro W v;with_reducible first|exact N.out W) ?_);simp only[Act.put,aH])
    intro W3 f;have k:=aa (au s.out f (λ_ _ x=>x));have c3:=f.cell Y (λx=>x);have D:Hid (Kp (λb=>b=g) w W3):=aa (ac.out.trans (f.mono (λ_ _ x=>x.elim)));clear f Y;cases E:ec x y with
    |false=>
     have al:=aa (jg I.out.1 (λj Z h0 t=>by
      have h1:=C.out j Z h0 t;have h2:=E;rw[<-J.out,<-K.out]at h2
      exact gv h1 h2))
     go_wp2;refine HT (If rfl _ _ _) rfl ?_;exact⟨rfl,m,al.out,I.out.2,k.out,D.out⟩
    |true=>
     have L7:=aa (b7 k.out q (by omega));have L8:=aa (b7 k.out i (by omega));rw[av.out]at L7
     rw[aw.out]at L8
     have O:Hid ((m.set i x).set q y=swp z m i q):=by
      show _=_;unfold swp;rw[J.out,K.out]
     have P:=aa (lk I.out.1 (by omega) L.out (by omega) (by rw[J.out,K.out];exact E) C.out);have Q:=aa ((kv (z:=z) (l:=m) (i:=i) (p:=q) (by omega) (by omega) (by omega)).trans I.out.2);go_wp2_with fail;refine df [9] [0,1,2,3,4,5,6,7,8,10,11,12,13,14,15,16,17,18,19,20,21,22,23] 24 (by kernel_rfl) (by kernel_rfl) (λc a d u w h=>by cases d<;>exact h) ?_;simp only[pick,aO]
     repeat(first
      |(refine ib (by exact rfl) (by as_aux_lemma=>intro W;go_simp;exact rfl) ?_;simp only[Act.put,aH])
      |(refine ja (by exact rfl) ?_;simp only[Act.put,aH]))
     show dJ _ _ _ _ _ _
     repeat((first
      |refine bc (by exact rfl) (bL rfl rfl L7.out) ?_
      |refine bc (by exact rfl) (bL rfl rfl L8.out) ?_
      |refine ay (by rfl) (by as_aux_lemma=>intro W v;have e0:=v.cell c3 (λx=>x);go_simp;exact rfl) ?_
      |refine ah (by rfl) ?_);simp only[Act.put,aH])
     show ∀W,_->wpList _ _ _ _ _ _;intro W4 o;have R:=aa (au k.out o (λ_ _ x=>x));have S:Hid (Kp (λb=>b=g) w W4):=aa (D.out.trans (o.mono (λ_ _ x=>x.elim)));clear o c3
     go_wp2_with(first
      |(refine bS rfl 359 (.tmp 83) (.tmp 75) rfl eK 5 dj m R.out i (by omega) x rfl rfl rfl (fM x) rfl ?_
        intro W5 F G;have T:=aa F;have U:Hid (Kp (λb=>b=g) w W5):=aa (S.out.trans G)
        clear F G)
      |(refine bS rfl 359 (.tmp 84) (.tmp 82) rfl eK 5 dj (m.set i x) T.out q (by rw[Hr];omega) y rfl rfl rfl (fM y) rfl ?_
        intro W6 r H;rw[O.out]at r
        have V:=aa r;have X:Hid (Kp (λb=>b=g) w W6):=aa (U.out.trans H)
        clear r H))
     go_roundw
     case rel=>exact⟨q,swp z m i q,rfl,by omega,by rw[gO];exact hm,aa ⟨P.out,Q.out⟩,V,X⟩
     case measure=>simp[intOf];omega
def o0{P:Program}{t e:TypeId}{z:Value}{size bytes:Nat}(T:gL P t e z size bytes){ops:Array Oper}{o:Oper}{a:Act}{w:World}{K:Act->World->Prop}{Q:Exit->Act->World->Prop}{E:Prop}(s x:Operand)
    (p:o.guard=none) (C:o.op=.call {callee:=.builtin .append,args:=#[s,x],argTypes:=#[t,t]}) (base:Nat) {v:Value} {n:Nat} {xs:List Value} (l:w.ownsRow base e size v n xs)
    {b c:Nat} (news:List Value) (D:a.eval s=v) (F:a.eval x=.slice (some ⟨b,0,none⟩) 1 c) (G:news.length=size) {fr:Nat×Nat} (m:w.heap[b]? =some (.cells news.toArray e fr)) (H:news.all (·.oneCell')=true)
    (f:(n+1)*bytes<=140737488355328) (I:n<9223372036854775807) (k:base<=w.heap.size)
    (h:∀g cap w',w'.ownsRow base e size (.slice (some ⟨g,0,none⟩) (n+1) cap) (n+1) (xs++news)->w.grownBy w' v.ownBlock->(v.ownBlock=some g\/g=w.heap.size)->K (a.put o.dst (.slice (some ⟨g,0,none⟩) (n+1) cap)) w'):
    if Region.wanted o (yielded ops a.tmps)=true then Oper.wp P o a w K Q else E:=by
 have hw:Region.wanted o (yielded ops a.tmps)=true:=by simp[Region.wanted,p]
 rw[Hl hw];obtain⟨i,hi,q,r,y⟩:=Ju T.info
 obtain⟨M,w',J,d,L,B,A⟩:=run_append_own_at (P:=P) w base t o.type e i z size bytes T.ht hi q r y T.hz T.pos v n xs l ⟨b,0,none⟩ 1 c news (by simpa using G) (by
  intro j u hu;have e:(⟨b,0,none⟩:Addr).add j=⟨b,j,none⟩:=by unfold Addr.add;split<;>simp_all
  rw[e];simp[World.cell?,m,hu]) (by simpa using H) (by unfold maxLen;omega) f k
 unfold Oper.wp execOp;simp only[C,resolve,invoke,builtin,IG,IP,IC,Kc,HA,Ik,D,F,J];rcases d.2 with⟨_,N⟩|⟨g,cap,cur,rfl,_⟩
 ·omega
 ·exact h g cap w' d L (by rcases A with e|e;(exact .inl (e.symm.trans rfl));exact .inr (by simpa[Value.ownBlock]using e))
structure gT (w:World) (B hb:Nat) (vc:Value) (bK room:Nat) (l:List (En Pk)):Prop where
 top:ag w hb [vc,.int .u64 bK,.int .i64 room] 263
 row:w.ownsRow B 359 5 vc l.length (l.flatMap eK)
def HF(a:Nat)(vc:Value):Nat->Prop:=λb=>b=a\/vc.ownBlock=some b
def gT.kp{S:Nat->Prop}{w w':World}{B a:Nat}{vc:Value}{bK room:Nat}{l:List (En Pk)}(h:gT w B a vc bK room l)(k:Kp S w w')(c:∀b,HF a vc b->¬S b):gT w' B a vc bK room l:=
 ⟨h.top.kp k (c _ (.inl rfl)),au h.row k (λb a=>c b (.inr a))⟩
def gT.old{w w':World}{B a:Nat}{vc:Value}{bK room:Nat}{l:List (En Pk)}(h:gT w B a vc bK room l)(k:Kp ae w w'):gT w' B a vc bK room l:=h.kp k (λ_ _ x=>x)
def gT.lt{w:World}{B a:Nat}{vc:Value}{bK room:Nat}{l:List (En Pk)}(h:gT w B a vc bK room l){b:Nat}(a:HF a vc b):b<w.heap.size:=by
 rcases a with rfl|a
 ·exact h.top.lt
 ·exact(an h.row a).2
def yQ(w:World)(B a:Nat)(vc:Value)(bK room:Nat)(l:List (En Pk))(h:gT w B a vc bK room l):Calls Tryz.prog 184 #[.pointer (some ⟨a,0,none⟩)] w λe w'=>e=.returned (.int .i64 l.length)/\w=w':=by
 have c:=h.top.ai;obtain⟨b,cap,rfl⟩:=aN h.row;clear h;go_enter Tryz.func184,Tryz.ntmps184;go_wp2;go_ret;exact⟨rfl,rfl⟩
def Fm(room:Nat)(d:1<=room)(f:room<=4096)(w:World):Calls Tryz.prog 93 #[.int .i64 room] w λe w'=>∃a,e=.returned (.tuple #[.pointer (some ⟨a,0,none⟩),.int .i64 0])/\gT w' w.heap.size a (.slice none 0 0) 0 room []/\w.heap.size<=a/\Kp ae w w':=by
 have b:¬(room:Int)<1:=by omega
 have c:¬(room:Int)>4096:=by omega
 go_enter Tryz.func93,Tryz.ntmps93;go_wp2;go_ret2;exact⟨_,rfl,⟨ag.new _ _ _,rfl,.inl ⟨rfl,rfl⟩⟩,Hm _,(Kp.refl _ _).alloc _⟩
def s_:Pk:=⟨0,0,0⟩
def iO:En Pk:=⟨0,0,s_⟩
def Fo:Value:=.agg #[.int .u64 0,.int .u64 0,.int .u32 0,.int .u32 0,.int .u64 0]
def GN:gL Tryz.prog 261 359 Fo 5 32:=⟨Tryz.underlying261,by kernel_rfl,rfl,by decide⟩
def Dx(w:World)(B c:Nat)(vc:Value)(bK room:Nat)(l:List (En Pk))(h:gT w B c vc bK room l)(hB:B<=w.heap.size)(hl:l.length<room)(hr:room<=4096)(hc:bK<9223372036854775807)(W:ej iO l)(r:Nat)(x:Pk):
    Calls Tryz.prog 191 #[.pointer (some ⟨c,0,none⟩),.int .u64 r,.agg (ix x).toArray] w λe w'=>e=.returned (.bool true)/\∃s y,gT w' B c s (bK+1) room y/\ej iO y/\y.Perm (l++[⟨r,bK,x⟩])/\
     Kp (HF c vc) w w'/\(s.ownBlock=vc.ownBlock\/∃g,s.ownBlock=some g/\w.heap.size<=g):=by
 obtain⟨fl,id,ln⟩:=x;obtain⟨o,cap,rfl⟩:=aN h.row;have ad:=aa h;have c0:=h.top.ai;have c1:=h.top.aj;have c2:=h.top.aq;have af:=aa (wV (z:=iO) (⟨r,bK,⟨fl,id,ln⟩⟩:En Pk) W);have ah:=h.top.lt;clear h W;generalize E:l.length=n at*;have ak:((n:Int)≥room)=False:=by simp;omega
 show Calls Tryz.prog _ #[.pointer (some ⟨c,0,none⟩),.int .u64 r,.agg #[.int .u32 (fl:Int),.int .u32 (id:Int),.int .u64 (ln:Int)]] w _;go_enter Tryz.func191,Tryz.ntmps191;go_wp2;go_quiet (fail)
 go_wp2_with fail;have t:=aa (((Kp.refl ae w).alloc (.cells #[.int .u32 (fl:Int),.int .u32 (id:Int),.int .u64 (ln:Int)] 148)).drewN nq);have i:=aa ((ag.new w [.int .u32 (fl:Int),.int .u32 (id:Int),.int .u64 (ln:Int)] 148).drewN nq);generalize (w.alloc (.cells #[.int .u32 (fl:Int),.int .u32 (id:Int),.int .u64 (ln:Int)] 148)).drewN nq=F at*;have d:=aa (ad.out.old t.out);have X:=t.out.size;have d0:=d.out.top.ai;have d1:=d.out.top.aj;have x0:=i.out.ai;have x1:=i.out.aj;have x2:=i.out.aq;have N1:Hid (some c≠(Value.slice o n cap).ownBlock):=λe=>aA d.out.row d.out.top (by decide) e.symm;have N2:Hid (some w.heap.size≠(Value.slice o n cap).ownBlock):=λe=>aA d.out.row i.out (by decide) e.symm;have G:Hid (F.ownsRow B 359 5 (.slice o n cap) n (l.flatMap eK)):=by have:=d.out.row;rw[E]at this;exact this
 have N3:Hid (w.heap.size≠c):=by show _≠_;omega
 have Y:c<F.heap.size:=by omega
 have Z:w.heap.size<F.heap.size:=i.out.lt;clear c0 c1 c2;go_cut []from 21 (λwc=>∃g j,Hid (ag wc c [.slice (some ⟨g,0,none⟩) (n+1) j,.int .u64 bK,.int .i64 room] 263)/\Hid (wc.ownsRow B 359 5 (.slice (some ⟨g,0,none⟩) (n+1) j) (n+1) ((l++[(⟨r,bK,⟨fl,id,ln⟩⟩:En Pk)]).flatMap eK))/\Hid (Kp (HF c (.slice o n cap)) w wc)/\Hid ((Value.slice o n cap).ownBlock=some g\/w.heap.size<=g))
 case first=>
  go_region_law ((refine o0 GN (.tmp 25) (.tmp 33) rfl rfl B (v:=.slice o n cap) ((G.out.alloc _).drew) (eK ⟨r,bK,⟨fl,id,ln⟩⟩) rfl rfl rfl (fr:=(0,0)) (lf _ _ _ (by simp)) rfl (by omega) (by omega) (by simp;omega) ?_);intro g3 f w3 q m H;have p:=((d.out.top.alloc (.cells #[.int .u64 (r:Int),.int .u64 (bK:Int),.int .u32 (fl:Int),.int .u32 (id:Int),.int .u64 (ln:Int)] 359)).drew).grown m N1.out;have al:=p.fz 0;have an:=p.ai)
  all_goals
   have I:=cG q (a:=⟨c,0,none⟩) (λb u e=>aA q p (by decide) (by rw[u,e])) (.slice (some ⟨g3,0,none⟩) (n+1) f);have J:=p.set 0 (.slice (some ⟨g3,0,none⟩) (n+1) f);have K:Kp (HF c (.slice o n cap)) w (w3.setCell ⟨c,0,none⟩ (.slice (some ⟨g3,0,none⟩) (n+1) f)):=((((t.out.mono (λ_ _ x=>x.elim)).alloc _).drew).grown m (λk e=>.inl (.inr e))).set (.inl (.inl rfl)) _;have L:(Value.slice o n cap).ownBlock=some g3\/w.heap.size<=g3:=H.imp_right (λe=>by rw[e];simp;omega);go_wp2_with fail;go_meet
   case rel=>exact⟨g3,f,aa J,aa (by show World.ownsRow _ _ _ _ _ _ _;rw[JH];simpa using I),aa K,aa L⟩
 case rest=>
  obtain⟨g,j,A,M,ar,ac⟩:=hcut;have b0:=A.out.ai;have b1:=A.out.aj;have fz:=A.out.fz 1;have av:IntKind.u64.wrap ((bK:Int)+1)=(bK:Int)+1:=by rw[HO];omega
  have C:=aa (A.out.set 1 (.int .u64 ((bK:Int)+1)));have N:=aa (cG M.out (a:=⟨c,1,none⟩) (λb u e=>aA M.out A.out (by decide) (by rw[u,e])) (.int .u64 ((bK:Int)+1)));have O:Hid (Kp (HF c (.slice o n cap)) w (wc.setCell ⟨c,1,none⟩ (.int .u64 ((bK:Int)+1)))):=aa (ar.out.set (.inl (.inl rfl)) _);go_wp2_with fail;refine(GM iO (n:=n+1) (l++[(⟨r,bK,⟨fl,id,ln⟩⟩:En Pk)]) (by simp[E]) (by omega) n af.out (by omega) _ C.out N.out).mono ?_;rintro e w6 ⟨rfl,y,h1,h2,h3,P⟩;have Q:c≠g:=λe=>aA M.out A.out (by decide) (by rw[e];rfl);have R:=aa (C.out.kp P (λe=>Q e));have S:=aa h1;have D:=aa h2;have T:=aa h3
  have U:Hid (Kp (HF c (.slice o n cap)) w w6):=aa (O.out.then P (λb au hg=>by
   subst hg;rcases ac.out with e|e
   ·exact .inr e
   ·omega))
  clear h1 h2 h3 P b0 b1 fz;go_wp2_with fail;go_ret;have V:y.length=n+1:=by rw[D.out.length_eq];simp[E]
  refine⟨rfl,_,y,⟨by have:=R.out;simpa using this,by rw[V];exact T.out⟩,S.out,D.out,U.out,?_⟩;rcases ac.out with e|e
  ·exact .inl e.symm
  ·exact .inr ⟨g,rfl,e⟩
def c7:(Tryz.prog.info? 148).map (·.size)=some 3:=by kernel_rfl
def dA{P:Program}{f:Func}{s u1 u2:Tmp}{ty:TypeId}(hf:f.results=#[.tmp u1,.cell s ty,.tmp u2]){R:Ending->World->Prop}{W:World}{g:Nat}{cs:List Value}{t:TypeId}{T:Array Value}(b:ag W g cs t)(d:TypeDesc)(hu:P.underlying ty=some d)(hd:(match d with| .struct _| .array _ _=>true|_=>false)=true)
    (hi:(P.info? ty).map (·.size)=some cs.length) (c:T.getD s undef=.pointer (some ⟨g,0,none⟩)) (e:R (.returned (.tuple #[T.getD u1 undef,.agg cs.toArray,T.getD u2 undef])) W):bodyPost P f R Exit.ret {tmps:=T,defers:=[]} W:=by
 refine HT (v:=.tuple #[T.getD u1 undef,.agg cs.toArray,T.getD u2 undef]) ?_ rfl e;have a:T[s]?.getD undef=.pointer (some ⟨g,0,none⟩):=by simpa using c
 simp[results,hf,a,asAddr,Jy W g t ty cs.toArray (0,0) d b.is hu hd (by rw[HY];exact hi)]
def uF(w:World)(B a:Nat)(vc:Value)(bK room:Nat)(h:gT w B a vc bK room []):
    Calls Tryz.prog 189 #[.pointer (some ⟨a,0,none⟩)] w λe w'=>e=.returned (.tuple #[.int .u64 0,.agg (ix s_).toArray,.bool false])/\Kp ae w w':=by
 have b:=aa (λW (k:Kp ae w W)=>yQ W B a vc bK room [] (h.old k));clear h;show Calls _ _ _ _ λe w'=>e=.returned (.tuple #[.int .u64 0,.agg #[.int .u32 0,.int .u32 0,.int .u64 0],.bool false])/\Kp ae w w';go_enter Tryz.func189,Tryz.ntmps189;go_wp2_with fail;refine(b.out _ (((Kp.refl ae w).alloc _).alloc _)).mono ?_;rintro e c ⟨rfl,rfl⟩;go_wp2_with fail;go_region
 all_goals
    go_wp2_with fail;exact dA (by exact rfl) (((ag.new w [.int .u32 0,.int .u32 0,.int .u64 0] 148).alloc _).drew) _ Tryz.underlying148 rfl c7 (by exact rfl) ⟨rfl,(((Kp.refl ae w).alloc _).alloc _).drew⟩
def o1(w:World)(B b:Nat)(vc:Value)(bK room:Nat)(l:List (En Pk))(h:gT w B b vc bK room l)(c:0<l.length)(q:l.length<=100000):
    Calls Tryz.prog 189 #[.pointer (some ⟨b,0,none⟩)] w λe w'=>e=.returned (.tuple #[.int .u64 (b_ iO l 0).ao,.agg (ix (b_ iO l 0).x).toArray,.bool true])/\Kp ae w w':=by
 have f:=aa (λW (k:Kp ae w W)=>yQ W B b vc bK room l (h.old k));obtain⟨g,cap,rfl,s⟩:=aY h.row c;rw[cM c];have a:∀k u,(eK l[0])[k]? =some u->w.cell? ⟨g,k,none⟩=some u:=λk u hu=>by
  have:=bu h.row (i:=0*5+k) (u:=u) (by
   rw[flat_get eK 5 dj _ _ _ (by have:=(HD.1 hu).1;simpa[eK,ix]using this),Hn c];exact hu)
  simpa using this
 have c0:=h.top.ai;have j:=h.top.lt;have m:=(an h.row rfl).2;generalize l[0]=d at*;obtain⟨r,t,⟨fl,id,ln⟩⟩:=d;have d:=a 0 _ rfl;have v:=a 2 _ rfl;have y:=a 3 _ rfl;have z:=a 4 _ rfl;have o:((l.length:Int)==0)=false:=by rw[HM];omega
 have p:(0:Int)<l.length:=by omega
 clear h a;generalize l.length=n at*;show Calls _ _ _ _ λe w'=>e=.returned (.tuple #[.int .u64 (r:Int),.agg #[.int .u32 (fl:Int),.int .u32 (id:Int),.int .u64 (ln:Int)],.bool true])/\Kp ae w w';go_enter Tryz.func189,Tryz.ntmps189;go_wp2_with fail;refine(f.out _ (((Kp.refl ae w).alloc _).alloc _)).mono ?_;rintro e A ⟨rfl,rfl⟩;go_wp2_with fail;go_region
 all_goals
    go_wp2_with fail;exact dA (by exact rfl) (((ag.new w [.int .u32 (fl:Int),.int .u32 (id:Int),.int .u64 (ln:Int)] 148).alloc _).drew) _ Tryz.underlying148 rfl c7 (by exact rfl) ⟨rfl,(((Kp.refl ae w).alloc _).alloc _).drew⟩
def xh{w:World}{base:Nat}{e:TypeId}{size n g cap:Nat}{xs:List Value}(h:w.ownsRow base e size (.slice (some ⟨g,0,none⟩) n cap) n xs)(k:Nat)(c:k<=n):w.ownsRow base e size (.slice (some ⟨g,0,none⟩) k cap) k (xs.take (k*size)):=by
 have a:k*size<=n*size:=I0 _ c;refine⟨by rw[HG,h.1];omega,?_⟩;rcases h.2 with⟨h,_⟩|⟨o,b,cur,d,f,i,p,j,l,m⟩
 ·cases h
 ·cases d;refine .inr ⟨g,cap,cur,rfl,f,i,by omega,j,l,?_⟩;rw[<-m,List.take_take,Nat.min_eq_left a]
def ta{w:World}{base:Nat}{e:TypeId}{size n g cap:Nat}{xs:List Value}(h:w.ownsRow base e size (.slice (some ⟨g,0,none⟩) n cap) n xs):n<=cap/\cap<=maxLen:=by
 rcases h.2 with⟨h,_⟩|⟨f,a,cur,b,i,j,c,d,k,l⟩
 ·cases h
 ·cases b;exact⟨c,d⟩
def uG{α:Type}(enc:α->List Value)(size:Nat)(b:∀a,(enc a).length=size)(l:List α)(k:Nat)(c:k<=l.length):(l.flatMap enc).take (k*size)=(l.take k).flatMap enc:=by
 have e:l=l.take k++l.drop k:=(Jq k l).symm;have hlen:((l.take k).flatMap enc).length=k*size:=by rw[cA enc size b];rw[HG];congr 1;omega
 conv=>lhs;rw[e,JH]
 rw[<-hlen,List.take_left'];rfl
def Fq(w:World)(B f:Nat)(vc:Value)(bK room:Nat)(l:List (En Pk))(h:gT w B f vc bK room l)(h0:0<l.length)(h1:l.length<=100000)(hH:ej iO l):
    Calls Tryz.prog 190 #[.pointer (some ⟨f,0,none⟩)] w λe w'=>e=.returned (.tuple #[.int .u64 (b_ iO l 0).ao,.agg (ix (b_ iO l 0).x).toArray,.bool true])/\
     ∃M C,gT w' B f M bK room C/\ej iO C/\(b_ iO l 0::C).Perm l/\Kp (HF f vc) w w'/\M.ownBlock=vc.ownBlock:=by
 have aU:=aa (λW (k:Kp ae w W)=>o1 W B f vc bK room l (h.old k) h0 h1);obtain⟨g,cap,rfl,hg⟩:=aY h.row h0;obtain⟨n,hn⟩:∃n,l.length=n:=⟨_,rfl⟩
 rw[hn]at h0 h1
 obtain⟨q,hq⟩:∃q,n-1=q:=⟨_,rfl⟩
 have aX:(n:Int)-1=(q:Int):=by omega
 have z:=ta h.row;rw[hn]at z
 have aZ:(q:Int)<=cap:=by omega
 have a0:(q:Int)<n:=by omega
 have a1:(0:Int)<n:=by omega
 have u:g≠f:=λe=>aA h.row h.top (by decide) (by rw[e];rfl);have aV:=aa h;have a2:=aa hn;have a3:=aa hH;clear h hH z;rw[hn]at aV
 obtain⟨e0,v⟩:∃e0,b_ iO l 0=e0:=⟨_,rfl⟩
 rw[v]at aU
 rw[v];have N:=aa v;clear v;obtain⟨r,cm,⟨fl,id,ln⟩⟩:=e0;go_enter Tryz.func190,Tryz.ntmps190;go_wp2_with fail;refine(aU.out _ ((Kp.refl ae w).alloc _)).mono ?_;rintro e O ⟨rfl,D⟩;have P:=aa ((ag.new w [.int .u32 0,.int .u32 0,.int .u64 0] 148).kp D (λx=>x));have Q:=aa (((Kp.refl ae w).alloc (.cells #[.int .u32 0,.int .u32 0,.int .u64 0] 148)).trans D);have E:=aa (aV.out.old Q.out);have A:w.heap.size<O.heap.size:=P.out.lt;have c2:=E.out.top.ai;have R:=E.out.top.lt;clear D;simp only[ix];go_wp2_with fail;have az:=aa (Q.out.alloc (.cells #[.int .u32 (fl:Int),.int .u32 (id:Int),.int .u64 (ln:Int)] 148));have F:=aa (E.out.old ((Kp.refl ae O).alloc (.cells #[.int .u32 (fl:Int),.int .u32 (id:Int),.int .u64 (ln:Int)] 148)));have aB:=aa (P.out.alloc (.cells #[.int .u32 (fl:Int),.int .u32 (id:Int),.int .u64 (ln:Int)] 148));have S:=aa (ag.new O [.int .u32 (fl:Int),.int .u32 (id:Int),.int .u64 (ln:Int)] 148);obtain⟨y,hy⟩:∃y,O.heap.size=y:=⟨_,rfl⟩
 rw[hy]at S A ⊢
 have a4:w.heap.size<y:=A;generalize O.alloc (.cells #[.int .u32 (fl:Int),.int .u32 (id:Int),.int .u64 (ln:Int)] 148)=W3 at*;have i:Hid (W3.ownsRow B 359 5 (.slice (some ⟨g,0,none⟩) n cap) n (l.flatMap eK)):=by have:=F.out.row;rw[a2.out]at this;exact this
 clear c2 R;have c3:=F.out.top.ai;have L1:=aa (b7 i.out q (by omega));refine ar 11 (by kernel_rfl) (λ_ _ _ _ _ h=>h) ?_;simp only[aO]
 repeat((first
    |refine bc (by exact rfl) (bL rfl rfl L1.out) ?_
    |refine ay (by rfl) (by as_aux_lemma=>intro W hK;have e0:=hK.cell c3 (λx=>x);go_simp;exact rfl) ?_
    |refine ah (by rfl) ?_);simp only[Act.put,aH])
 intro W4 d;have G:=aa (au i.out d (λ_ _ x=>x));have aC:=aa (F.out.top.kp d (λx=>x));have T:=aa (aB.out.kp d (λx=>x));have U:=aa (S.out.kp d (λx=>x));have aD:Hid (Kp ae w W4):=aa (az.out.trans d);clear d c3;obtain⟨a,ha⟩:∃a,l[q]'(by omega)=a:=⟨_,rfl⟩
 rw[ha];have a5:=aa ha;clear ha
 go_wp2_with(first
    |(refine bS rfl 359 (.tmp 33) (.tmp 32) rfl eK 5 dj l G.out 0 (by omega) a rfl rfl rfl (fM a) rfl ?_
      intro W5 V m;have H:=aa V;have X:=aa (aC.out.kp m (λe=>u e.symm));have Y:=aa (T.out.kp m (λe=>aA G.out T.out (by decide) (by rw[e];rfl)));have Z:=aa (U.out.kp m (λe=>aA G.out U.out (by decide) (by rw[e];rfl)));have aE:Hid (Kp (λb=>b=g) w W5):=aa ((aD.out.mono (λ_ _ x=>x.elim)).trans m);have c5:=X.out.ai
      clear V m)
    |(refine bS rfl 359 (.tmp 40) (.tmp 39) rfl eK 5 dj (l.set 0 a) H.out q (by rw[Hr];omega) iO rfl rfl rfl (fM iO) rfl ?_
      intro W6 ac o;have aF:=aa ac;have s:=aa (X.out.kp o (λe=>u e.symm));have ad:=aa (Y.out.kp o (λe=>aA H.out Y.out (by decide) (by rw[e];rfl)));have af:=aa (Z.out.kp o (λe=>aA H.out Z.out (by decide) (by rw[e];rfl)));have aG:Hid (Kp (λb=>b=g) w W6):=aa (aE.out.trans o);have c6:=s.out.ai;have aI:=s.out.fz 0
      clear ac o c5))
 have aW:Hid (jf iO ((l.set 0 a).take q) 0/\((⟨r,cm,⟨fl,id,ln⟩⟩:En Pk)::(l.set 0 a).take q).Perm l):=by
  show _/\_;by_cases aJ:1<l.length
  ·have hd:=sR a3.out aJ;have e1:b_ iO l (l.length-1)=a:=by
    have e2:l.length-1=q:=by omega
    rw[e2,cM (by omega)];exact a5.out
   rw[e1,N.out]at hd
   have e2:l.length-1=q:=by omega
   rw[e2]at hd
   exact hd
  ·have aK:q=0:=by omega
   subst aK;rw[Je];refine⟨⟨λj L=>by simp at L,λj L=>by simp at L⟩,?_⟩;obtain⟨b,aL⟩:=List.length_eq_one_iff.1 (show l.length=1 by omega);have h3:=N.out;rw[aL]at h3 ⊢
   have h4:b=_:=h3;rw[h4]
 have a6:Hid (((l.set 0 a).set q iO).take q=(l.set 0 a).take q):=by
  show _=_;apply IZ;intro j;by_cases L:j<q
  ·rw[JT L,JT L,HL (by omega)]
  ·rw[H_ (by rw[HG];omega),H_ (by rw[HG];omega)]
 have I:Hid ((W6.setCell ⟨f,0,none⟩ (.slice (some ⟨g,0,none⟩) q cap)).ownsRow B 359 5 (.slice (some ⟨g,0,none⟩) q cap) q (((l.set 0 a).take q).flatMap eK)):=by
  show World.ownsRow _ _ _ _ _ _ _;have h2:=xh aF.out q (by omega);rw[uG eK 5 dj _ _ (by simp;omega),a6.out]at h2
  exact cG h2 (λb aM e=>by cases aM;exact u e) _
 have ak:=aa (s.out.set 0 (.slice (some ⟨g,0,none⟩) q cap));have al:=aa (ad.out.bJ (a:=⟨f,0,none⟩) (e3 ad.out s.out (by decide)) (.slice (some ⟨g,0,none⟩) q cap));have an:=aa (af.out.bJ (a:=⟨f,0,none⟩) (e3 af.out s.out (by decide)) (.slice (some ⟨g,0,none⟩) q cap));have aN:Hid (Kp (HF f (.slice (some ⟨g,0,none⟩) n cap)) w (W6.setCell ⟨f,0,none⟩ (.slice (some ⟨g,0,none⟩) q cap))):=aa ((aG.out.mono (λb _ e=>.inr (by rw[e];rfl))).set (.inl (.inl rfl)) _);have J:((l.set 0 a).take q).length=q:=by rw[HG,Hr];omega
 refine(Dw iO (n:=q) _ J (by omega) 0 aW.out.1 (by omega) _ ak.out I.out).mono ?_;rintro e w8 ⟨rfl,C,g1,g2,g3,g4⟩;have av:=aa (ak.out.kp g4 (λe=>u e.symm));have c:=aa (al.out.kp g4 (λe=>aA I.out al.out (by decide) (by rw[e];rfl)));have K:=aa (an.out.kp g4 (λe=>aA I.out an.out (by decide) (by rw[e];rfl)));have aP:Hid (Kp (HF f (.slice (some ⟨g,0,none⟩) n cap)) w w8):=aa (aN.out.trans (g4.mono (λb _ e=>.inr (by rw[e];rfl))));have aQ:=aa g1;have aR:Hid (((⟨r,cm,⟨fl,id,ln⟩⟩:En Pk)::C).Perm l):=aa ((List.Perm.cons _ g2).trans aW.out.2);have aS:Hid (C.length=q):=aa (by rw[g2.length_eq,J]);have aw:=aa g3;have y0:=K.out.ai;have y1:=K.out.aj;have y2:=K.out.aq;have x0:=c.out.ai;have x1:=c.out.aj;have x2:=c.out.aq;have xf:=λj=>c.out.fz j;have a7:w.heap.size≠y:=by omega
 clear g1 g2 g3 g4 J c6 aI;go_wp2_with fail;go_region
 all_goals
    go_wp2_with fail;have t:Kp (λb=>b=w.heap.size) w8 (((w8.setCell ⟨w.heap.size,0,none⟩ (.int .u32 (fl:Int))).setCell ⟨w.heap.size,1,none⟩ (.int .u32 (id:Int))).setCell ⟨w.heap.size,2,none⟩ (.int .u64 (ln:Int))).drew:=((((Kp.refl (λb=>b=w.heap.size) w8).set (p:=⟨w.heap.size,0,none⟩) (.inl rfl) _).set (p:=⟨w.heap.size,1,none⟩) (.inl rfl) _).set (p:=⟨w.heap.size,2,none⟩) (.inl rfl) _).drew;have aT:g≠w.heap.size:=λe=>aA aw.out c.out (by decide) (by rw[e];rfl);refine dA (by exact rfl) ((((c.out.set 0 (.int .u32 (fl:Int))).set 1 (.int .u32 (id:Int))).set 2 (.int .u64 (ln:Int))).drew) _ Tryz.underlying148 rfl c7 (by exact rfl) ⟨rfl,.slice (some ⟨g,0,none⟩) q cap,C,⟨?_,?_⟩,aQ.out,aR.out,?_,rfl⟩
    ·exact av.out.kp t (e3 av.out c.out (by decide))
    ·rw[aS.out];exact au aw.out t (λb ax=>by cases ax;exact aT)
    ·exact aP.out.then t (λb ax e=>by omega)
structure It where
 ao:Nat
 x:Pk
def dL(i:It):List Value:=[.int .u64 i.ao,.int .u32 i.x.cE,.int .u32 i.x.id,.int .u64 i.x.len]
def eB(i:It):(dL i).length=4:=rfl
def iP:It:=⟨0,s_⟩
def eL(i:It):(Tryz.prog.info? 317).map (·.size)=some (dL i).length:=by rw[eB];kernel_rfl
def GQ:gL Tryz.prog 329 317 (.agg #[.int .u64 0,.int .u32 0,.int .u32 0,.int .u64 0]) 4 24:=⟨Tryz.underlying329,by kernel_rfl,rfl,by decide⟩
structure kX (w:World) (rb:Nat) (v:Value) (S:List It) (fr n room:Nat):Prop where
 top:ag w rb [v,.int .i64 fr,.int .i64 n,.int .i64 room] 331
 row:w.ownsRow 0 317 4 v S.length (S.flatMap dL)
def mS(rb:Nat)(v:Value):Nat->Prop:=λb=>b=rb\/v.ownBlock=some b
def kX.kp{T:Nat->Prop}{w w':World}{rb:Nat}{v:Value}{S:List It}{fr n room:Nat}(h:kX w rb v S fr n room)(k:Kp T w w')(a:∀b,mS rb v b->¬T b):kX w' rb v S fr n room:=
 ⟨h.top.kp k (a _ (.inl rfl)),au h.row k (λb c=>a b (.inr c))⟩
def kX.old{w w':World}{rb:Nat}{v:Value}{S:List It}{fr n room:Nat}(h:kX w rb v S fr n room)(k:Kp ae w w'):kX w' rb v S fr n room:=h.kp k (λ_ _ x=>x)
def Dy(room:Nat)(c:1<=room)(d:room<=65536)(w:World):Calls Tryz.prog 142 #[.int .i64 room] w λe w'=>∃rb,e=.returned (.tuple #[.pointer (some ⟨rb,0,none⟩),.int .i64 0])/\kX w' rb (.slice none 0 0) [] 0 0 room/\w.heap.size<=rb/\Kp ae w w':=by
 have a:¬(room:Int)<1:=by omega
 have b:¬(65536:Int)<room:=by omega
 go_enter Tryz.func142,Tryz.ntmps142;go_wp2;go_ret2;exact⟨_,rfl,⟨ag.new _ _ _,rfl,.inl ⟨rfl,rfl⟩⟩,Hm _,(Kp.refl _ _).alloc _⟩
def uH{w:World}{rb:Nat}{v:Value}{S:List It}{fr n room:Nat}(h:kX w rb v S fr n room):Calls Tryz.prog 236 #[.pointer (some ⟨rb,0,none⟩)] w λe w'=>e=.returned (.int .i64 n)/\w=w':=by
 have c:=h.top.aq;clear h;go_enter Tryz.func236,Tryz.ntmps236;go_wp2;go_ret;exact⟨rfl,rfl⟩
def AX{w:World}{rb:Nat}{v:Value}{S:List It}{fr n room:Nat}(h:kX w rb v S fr n room)(d:n<=room)(f:room<=65536):Calls Tryz.prog 239 #[.pointer (some ⟨rb,0,none⟩)] w λe w'=>e=.returned (.int .i64 (room-n:Nat))/\Kp ae w w':=by
 have c:=h.top.aq;have g:=h.top.aK;obtain⟨q,a⟩:∃q,room-n=q:=⟨_,rfl⟩
 have b:(room:Int)-n=q:=by omega
 rw[a];clear h a;go_enter Tryz.func239,Tryz.ntmps239;go_wp2_with fail;go_region
 all_goals
    go_wp2_with fail;go_ret;exact⟨rfl,(Kp.refl ae w).drew⟩
def l6{w:World}{rb:Nat}{v:Value}{S:List It}{fr n room:Nat}(h:kX w rb v S fr n room)(hf:fr<S.length)(hS:S.length<=65536)(i:Nat)(hi:i<=S.length):Calls Tryz.prog 238 #[.pointer (some ⟨rb,0,none⟩),.int .i64 i] w λe w'=>e=.returned (.int .i64 (fE S.length fr i))/\Kp ae w w':=by
 have c0:=h.top.ai;have c1:=h.top.aj;obtain⟨g,cap,rfl,_⟩:=aY h.row (by omega);have hm:=yt hf hi;have a:Hid (((fr:Int)+i).tmod (S.length:Int)=(fE S.length fr i:Nat)):=by
  show _=_;rw[<-hm,KY (by omega)];simp
 have d:(0:Int)<S.length:=by omega
 have b:=je hf hi;clear h hm;generalize fE S.length fr i=R at*;generalize S.length=N at*;have c:=a.out;go_enter Tryz.func238,Tryz.ntmps238;go_wp2_with fail;go_region
 all_goals
    go_wp2_with fail;go_ret
    trace_state
    exact⟨rfl,(Kp.refl ae w).drew⟩
def nN{w:World}{g:Nat}{cs:List Value}{t:TypeId}(size n:Nat)(h:ag w g cs t)(a:cs.length=n*size)(b:n<=maxLen):w.ownsRow 0 t size (.slice (some ⟨g,0,none⟩) n n) n cs:=
 ⟨a,.inr ⟨g,n,cs.toArray,rfl,Hv _,h.is,Hm _,b,by simpa using a,by rw[IJ (by simp[a])]⟩⟩
def tc{w:World}{B g cap n:Nat}{m:List It}(h:w.ownsRow B 317 4 (.slice (some ⟨g,0,none⟩) n cap) n (m.flatMap dL))(i:Nat)(x:It)(b:m[i]? =some x):
    ∀W,Kp ae w W->(Instr.loadAt 317 (.pointer (some ⟨g,i*4,none⟩))).run Tryz.prog W=.ok (.agg (dL x).toArray) W:=λW c=>
 run_loadAt_mid W g (i*4) 317 (dL x) _ (λj v a=>c.cell (bu h (i*4+j) (by
  have d:j<4:=by have:=(HD.1 a).1;rwa [eB]at this
  rw[flat_get dL 4 eB m i j d,b];exact a)) (λx=>x)) Tryz.underlying317 rfl (eL _)
structure Dz (w wr:World) (rb:Nat) (v:Value) (S:List It) (fr n room nb:Nat) (Q S2:List It) (M i:Nat):Prop where
 old:kX wr rb v S fr n room
 new:wr.ownsRow 0 317 4 (.slice (some ⟨nb,0,none⟩) M M) M (S2.flatMap dL)
 len:S2.length=M
 get:∀j,j<i->S2[j]? =Q[j]?
 kp:Kp ae w wr
 Fs:w.heap.size<=nb
def xi{w:World}{rb:Nat}{v:Value}{S:List It}{fr n room:Nat}(h:kX w rb v S fr n room)(b:n<S.length):Calls Tryz.prog 240 #[.pointer (some ⟨rb,0,none⟩)] w λe w'=>e=.returned (.tuple #[])/\Kp ae w w':=by
 have c0:=h.top.ai;have c:=h.top.aq;obtain⟨d,cap,rfl⟩:=aN h.row;have a:(n:Int)<S.length:=by omega
 clear h;go_enter Tryz.func240,Tryz.ntmps240;go_wp2_with fail;go_region
 all_goals
    go_wp2_with fail;refine HT (If rfl _ _ _) rfl ?_;exact⟨rfl,(Kp.refl ae w).drew⟩
def AY{w:World}{rb:Nat}{v:Value}{S:List It}{fr n room:Nat}{Q:List It}(h:kX w rb v S fr n room)(ok:hk S fr n room Q)(hn:n=S.length)(a:n<room)(aC:room<=4096):Calls Tryz.prog 240 #[.pointer (some ⟨rb,0,none⟩)] w λe w'=>e=.returned (.tuple #[])/\∃nb S2 M,n<M/\M<=room/\S2.length=M/\(∀j,j<n->S2[j]? =Q[j]?)/\kX w' rb (.slice (some ⟨nb,0,none⟩) M M) S2 0 n room/\w.heap.size<=nb/\Kp (λb=>b=rb) w w':=by
 have c0:=h.top.ai;have c2:=h.top.aq;have c3:=h.top.aK;obtain⟨ao,cap,rfl⟩:=aN h.row;have aD:¬(n:Int)<S.length:=by omega
 obtain⟨M,hM⟩:∃M,min (max (2*S.length) 4) room=M:=⟨_,rfl⟩
 have H:min (max (2*(S.length:Int)) 4) (room:Int)=(M:Int):=by omega
 have al:n<M:=by omega
 have av:M<=room:=by omega
 have aE:0<M:=by omega
 have aF:S.length<=4096:=by omega
 have I:Hid (∀b,mS rb (.slice ao S.length cap) b->b<w.heap.size):=aa (λb s=>by
  rcases s with rfl|s
  ·exact h.top.lt
  ·exact(an h.row s).2)
 have aG:=aa h;have y:=aa ok;have aS:=aa hn;have aw:=aa H;have J:=λW=>ew GQ dL eB iP rfl M (by omega) (by omega) W;clear h ok hM H;generalize K:S.length=N at*;have c:=aa K;have ax:Hid (IntKind.i64.wrap (2*(N:Int))=2*(N:Int)):=aa (by rw[H3];omega);clear K;go_enter Tryz.func240,Tryz.ntmps240;go_wp2_with fail;refine ar 9 (by kernel_rfl) (λ_ _ _ _ _ h=>h) ?_;simp only[aO]
 repeat((first
    |refine ay (by rfl) (by as_aux_lemma=>intro W l;have e0:=l.cell c2 (λx=>x);have e1:=l.cell c0 (λx=>x);go_simp;exact rfl) ?_
    |refine ah (by rfl) ?_);simp only[Act.put,aH])
 intro W2 d;have L:=aa (aG.out.old d);have O:=aa d;have d0:=d.cell c0 (λx=>x);have d3:=d.cell c3 (λx=>x);clear d c0 c2 c3;go_wp2_with fail;refine ar 12 (by kernel_rfl) (λ_ _ _ _ _ h=>h) ?_;simp only[aO]
 repeat((first
    |refine ay (by rfl) (by as_aux_lemma=>intro W l;have e0:=l.cell d0 (λx=>x);have e1:=l.cell d3 (λx=>x);have e2:=aw.out;have e3:=ax.out;go_simp;exact rfl) ?_
    |refine ah (by rfl) ?_);simp only[Act.put,aH])
 intro z A;have m:=aa (L.out.old A);have B:=aa (O.out.trans A);clear A d0 d3;have t:=J z;clear J;obtain⟨G,o⟩:∃G,(List.replicate M iP).flatMap dL=G:=⟨_,rfl⟩
 rw[o]at t
 have d2:=m.out.top.aq;have P:=m.out.top.lt;have C:=(Kp.refl ae z).alloc (.cells G.toArray 317);have az:Hid (Dz w (z.alloc (.cells G.toArray 317)) rb (.slice ao N cap) S fr n room z.heap.size Q (List.replicate M iP) M 0):=by
  refine⟨m.out.old C,?_,Ic,λj hj=>by omega,B.out.trans C,B.out.size⟩;rw[o];exact nN 4 M (ag.new z G _) (by rw[<-o,cA dL 4 eB,Ic]) (by unfold maxLen;omega)
 clear C o;go_wp2_with fail;generalize z.alloc (.cells G.toArray 317)=W4 at*;obtain⟨nb,R⟩:∃nb,z.heap.size=nb:=⟨_,rfl⟩
 rw[R]at az ⊢
 clear t d2 P R m B L O;go_loopw [31] (λi0 wr=>∃(i:Nat) (S2:List It),i0=.int .i64 i/\i<=n/\Hid (Dz w wr rb (.slice ao N cap) S fr n room nb Q S2 M i)) (λi0 _=>n-(intOf i0).toNat)
 case atStart=>exact⟨0,_,rfl,Hv _,az.out⟩
 case round=>
  clear az;obtain⟨i,S2,rfl,hi,a⟩:=hrel;by_cases T:i<n
  ·have aI:(i:Int)<n:=by omega
   have aJ:(i:Int)<M:=by omega
   have D:fr<S.length:=y.out.oI (by rw[c.out];omega);have U:=je (i:=i) D (by rw[c.out];omega);have u:=aa (λW (k:Kp ae wr W)=>l6 (a.out.old.old k) D (by rw[c.out];omega) i (by rw[c.out];omega));have E:=y.out.get i T;obtain⟨x,hx⟩:∃x,Q[i]? =some x:=⟨_,Hn (by rw[y.out.len];exact T)⟩
   rw[hx]at E
   obtain⟨g0,aB,e0,_⟩:=aY a.out.old.row (by rw[c.out];omega);injection e0 with e1 e2 e3;subst e1 e3;have f:=a.out.old.row;rw[c.out]at f
   have V:=aa (tc f _ x E);clear f;have c0:=a.out.old.top.ai;rw[c.out]at U u V
   generalize fE N fr i=q at*;have aL:(q:Int)<N:=by omega
   have aM:=aa hx;clear E D hx e2;go_wp2_with fail;refine ar 11 (by kernel_rfl) (λ_ _ _ _ _ h=>h) ?_;simp only[aO]
   repeat((first
    |refine bc (by exact rfl) (bL rfl rfl V.out) ?_
    |refine ay (by rfl) (by as_aux_lemma=>intro W l;have e0:=l.cell c0 (λx=>x);go_simp;exact rfl) ?_
    |refine ah (by rfl) ?_
    |refine aR (by rfl) (by as_aux_lemma=>intro W;go_simp;exact⟨rfl,rfl⟩) (by intro W l;with_reducible first|exact u.out W l) ?_);simp only[Act.put,aH])
   intro W5 r;have X:=aa (a.out.old.old r);have Y:=aa (au a.out.new r (λ_ _ x=>x));have Z:=aa (a.out.kp.trans r);clear r c0
   go_wp2_with(first
    |(refine bS rfl 317 (.tmp 45) (.tmp 44) rfl dL 4 eB S2 Y.out i (by rw[a.out.len];omega) x rfl rfl rfl (eL x) rfl ?_
      intro W6 ac ad;have af:=aa ac;have F:=aa ad
      clear ac ad))
   have g:=a.out.Fs;have aP:Hid (Dz w W6 rb (.slice (some ⟨g0,0,none⟩) N cap) S fr n room nb Q (S2.set i x) M (i+1)):=by
    refine⟨X.out.kp F.out (λb s e=> ?_),af.out,by rw[Hr];exact a.out.len,λj hj=> ?_,Z.out.then F.out (λb s e=>by omega),g⟩
    ·have:=I.out b s;omega
    ·by_cases e:j=i
     ·subst e;rw[H8 (by rw[a.out.len];omega),aM.out]
     ·rw[HL (λe2=>e e2.symm)];exact a.out.get j (by omega)
   clear X Y Z af F;go_roundw
   case rel=>exact⟨i+1,_,by go_num,by omega,aP.out⟩
   case measure=>simp[intOf];omega
  ·have aA:i=n:=by omega
   subst aA;have c0:=a.out.old.top.ai;have c1:=a.out.old.top.aj;have cf:=λj=>a.out.old.top.fz j;go_wp2_with fail;go_end0;have ak:Kp (λb=>b=rb) wr ((wr.setCell ⟨rb,0,none⟩ (.slice (some ⟨nb,0,none⟩) M M)).setCell ⟨rb,1,none⟩ (.int .i64 0)):=((Kp.refl (λb=>b=rb) wr).set (p:=⟨rb,0,none⟩) (.inl rfl) _).set (p:=⟨rb,1,none⟩) (.inl rfl) _;have aQ:=I.out rb (.inl rfl);have g:=a.out.Fs;refine⟨rfl,nb,S2,M,al,av,a.out.len,a.out.get,⟨(a.out.old.top.set 0 _).set 1 _,?_⟩,g,(a.out.kp.mono (λ_ _ x=>x.elim)).trans ak⟩;rw[a.out.len];exact au a.out.new ak (λb s e=>by have h9:nb=b:=Option.some.inj s;omega)
def Rg(w:World)(F:Nat->Prop)(rb room:Nat)(Q:List It):Prop:=∃v S fr n,F=mS rb v/\kX w rb v S fr n room/\hk S fr n room Q/\room<=4096
def Rg.kp{T:Nat->Prop}{w w':World}{F:Nat->Prop}{rb room:Nat}{Q:List It}(h:Rg w F rb room Q)(k:Kp T w w')(a:∀b,F b->¬T b):Rg w' F rb room Q:=by
 obtain⟨v,S,fr,n,rfl,hm,ok,c⟩:=h;exact⟨v,S,fr,n,rfl,hm.kp k a,ok,c⟩
def Rg.old{w w':World}{F:Nat->Prop}{rb room:Nat}{Q:List It}(h:Rg w F rb room Q)(k:Kp ae w w'):Rg w' F rb room Q:=h.kp k (λ_ _ x=>x)
def Rg.lt{w:World}{F:Nat->Prop}{rb room:Nat}{Q:List It}(h:Rg w F rb room Q){b:Nat}(a:F b):b<w.heap.size:=by
 obtain⟨v,S,fr,n,rfl,hm,ok,c⟩:=h;rcases a with rfl|a
 ·exact hm.top.lt
 ·exact(an hm.row a).2
def DC{w:World}{F:Nat->Prop}{rb room:Nat}{Q:List It}(h:Rg w F rb room Q)(hl:Q.length<room)(x:It):Calls Tryz.prog 235 #[.pointer (some ⟨rb,0,none⟩),.agg (dL x).toArray] w λe w'=>e=.returned (.bool true)/\∃F',Rg w' F' rb room (Q++[x])/\Kp F w w'/\Nw w F F':=by
 obtain⟨v,S,fr,n,rfl,hm,ok,u⟩:=h;obtain⟨r,⟨fl,id,ln⟩⟩:=x;rw[ok.len]at hl
 have ao:=aa (λW (k:Kp ae w W)=>AX (hm.old k) (by omega) (by omega));obtain⟨R,hR⟩:∃R,room-n=R:=⟨_,rfl⟩
 have aw:((R:Int)==0)=false:=by rw[HM];omega
 rw[hR]at ao
 clear hR;have av:=aa hm;have G:=aa ok;clear hm;show Calls Tryz.prog _ #[.pointer (some ⟨rb,0,none⟩),.agg #[.int .u64 (r:Int),.int .u32 (fl:Int),.int .u32 (id:Int),.int .u64 (ln:Int)]] w _;go_enter Tryz.func235,Tryz.ntmps235;go_wp2_with fail;refine(ao.out _ ((Kp.refl ae w).alloc _)).mono ?_;rintro e w1 ⟨rfl,I⟩;have Z:=aa ((ag.new w [.int .u64 (r:Int),.int .u32 (fl:Int),.int .u32 (id:Int),.int .u64 (ln:Int)] 317).kp I (λx=>x));have J:=((Kp.refl ae w).alloc (.cells #[.int .u64 (r:Int),.int .u32 (fl:Int),.int .u32 (id:Int),.int .u64 (ln:Int)] 317)).trans I;have K:=aa (av.out.old J);have L:=aa J;clear I J;have ax:rb<w.heap.size:=av.out.top.lt;go_wp2_with fail;by_cases N:n<S.length
 ·refine(xi K.out N).mono ?_;rintro e W1 ⟨rfl,hk⟩;have a:=aa (K.out.old hk);have j:=aa (Z.out.kp hk (λx=>x));have O:Hid (Kp (mS rb v) w W1):=aa ((L.out.trans hk).mono (λ_ _ x=>x.elim));have g:Hid (Nw w (mS rb v) (mS rb v)):=aa (Nw.refl _ _);obtain⟨l,af⟩:∃l,l=S:=⟨_,rfl⟩
  obtain⟨B,H⟩:∃f,f=fr:=⟨_,rfl⟩
  subst af H;have d:=G;have P:=N;have m:=d.out.oI (by omega);have ak:l.length<=4096:=by have:=d.out.fits;omega
  clear hk;have o:=aa (λW (k:Kp ae W1 W)=>l6 (a.out.old k) m (by omega) n (by omega));have C:=je (i:=n) m (by omega);have s:=aa (d.out.put P ⟨r,⟨fl,id,ln⟩⟩);have c0:=a.out.top.ai;have c2:=a.out.top.aq;have b0:=j.out.ai;have b1:=j.out.aj;have b2:=j.out.aq;have b3:=j.out.aK;obtain⟨g1,cap1,e1,_⟩:=aY a.out.row (by omega);subst e1;obtain⟨q,hq⟩:∃q,fE l.length B n=q:=⟨_,rfl⟩
  rw[hq]at C s o
  clear hq;have al:(q:Int)<l.length:=by omega
  go_wp2_with fail;refine ar 11 (by kernel_rfl) (λ_ _ _ _ _ h=>h) ?_;simp only[aO]
  repeat((first
   |refine ay (by rfl) (by as_aux_lemma=>intro W t;have e0:=t.cell c0 (λx=>x);have e1:=t.cell c2 (λx=>x);have e2:=t.cell b0 (λx=>x);have e3:=t.cell b1 (λx=>x);have e4:=t.cell b2 (λx=>x);have e5:=t.cell b3 (λx=>x);go_simp;exact rfl) ?_
   |refine ah (by rfl) ?_
   |refine aR (by rfl) (by as_aux_lemma=>intro W;go_simp;exact⟨rfl,rfl⟩) (by intro W t;with_reducible first|exact o.out W t) ?_);simp only[Act.put,aH])
  intro W5 y;have c:=aa (a.out.old y);have T:=aa (O.out.trans (y.mono (λ_ _ x=>x.elim)));clear y c0 c2 b0 b1 b2 b3
  go_wp2_with(first
   |(refine bS rfl 317 (.tmp 21) (.tmp 20) rfl dL 4 eB l c.out.row q (by omega) ⟨r,⟨fl,id,ln⟩⟩ rfl rfl rfl (eL _) rfl ?_
     intro U D z;have V:=aa D;have A:=aa (c.out.top.kp z (λe=>aA c.out.row c.out.top (by decide) (by rw[e];rfl)));have X:=aa z;have d2:=A.out.aq;have df:=A.out.fz 2
     clear D z))
  go_ret;have E:Kp (λb=>b=rb) U (U.setCell ⟨rb,2,none⟩ (.int .i64 ((n:Int)+1))):=(Kp.refl (λb=>b=rb) U).set (p:=⟨rb,2,none⟩) (.inl rfl) _;have an:g1≠rb:=λe=>aA c.out.row c.out.top (by decide) (by rw[e];rfl);refine⟨rfl,_,⟨.slice (some ⟨g1,0,none⟩) l.length cap1,l.set q ⟨r,⟨fl,id,ln⟩⟩,B,n+1,rfl,⟨A.out.set 2 _,?_⟩,s.out,u⟩,?_,?_⟩
  ·rw[Hr];exact au V.out E (λb Y e=>by have h9:g1=b:=Option.some.inj Y;omega)
  ·exact(T.out.steps g.out ((X.out.mono (λb _ e=>.inr (by rw[e];rfl))).trans (E.mono (λb _ e=>.inl e))))
  ·exact g.out
 ·have ac:n=S.length:=by have:=G.out.hN;omega
  refine(AY K.out G.out ac hl u).mono ?_;rintro e W1 ⟨rfl,nb,l,M,a1,a2,a3,a4,a5,a6,a7⟩;have az:w.heap.size<=w1.heap.size:=L.out.size;have a:=aa a5;have j:=aa (Z.out.kp a7 (λe=>by omega));have O:Hid (Kp (mS rb v) w W1):=aa ((L.out.mono (λ_ _ x=>x.elim)).trans (a7.mono (λb _ e=>.inl e)))
  have g:Hid (Nw w (mS rb v) (mS rb (.slice (some ⟨nb,0,none⟩) M M))):=aa (λb Y=>by
   rcases Y with rfl|Y
   ·exact .inl (.inl rfl)
   ·have h9:nb=b:=Option.some.inj Y
    exact .inr (by omega))
  have d:=aa (G.out.Fh (S2:=l) (by omega) (by omega) a4);obtain⟨B,H⟩:∃f,f=0:=⟨_,rfl⟩
  obtain⟨v1,ad⟩:∃v1,v1=Value.slice (some ⟨nb,0,none⟩) M M:=⟨_,rfl⟩
  rw[<-ad]at a g
  rw[<-H]at d a
  have P:n<l.length:=by omega
  have m:=d.out.oI (by omega);have ak:l.length<=4096:=by omega
  clear a4 a5 a6 a7 H ad ac N a3 a1 a2;have o:=aa (λW (k:Kp ae W1 W)=>l6 (a.out.old k) m (by omega) n (by omega));have C:=je (i:=n) m (by omega);have s:=aa (d.out.put P ⟨r,⟨fl,id,ln⟩⟩);have c0:=a.out.top.ai;have c2:=a.out.top.aq;have b0:=j.out.ai;have b1:=j.out.aj;have b2:=j.out.aq;have b3:=j.out.aK;obtain⟨g1,cap1,e1,_⟩:=aY a.out.row (by omega);subst e1;obtain⟨q,hq⟩:∃q,fE l.length B n=q:=⟨_,rfl⟩
  rw[hq]at C s o
  clear hq;have al:(q:Int)<l.length:=by omega
  go_wp2_with fail;refine ar 11 (by kernel_rfl) (λ_ _ _ _ _ h=>h) ?_;simp only[aO]
  repeat((first
   |refine ay (by rfl) (by as_aux_lemma=>intro W t;have e0:=t.cell c0 (λx=>x);have e1:=t.cell c2 (λx=>x);have e2:=t.cell b0 (λx=>x);have e3:=t.cell b1 (λx=>x);have e4:=t.cell b2 (λx=>x);have e5:=t.cell b3 (λx=>x);go_simp;exact rfl) ?_
   |refine ah (by rfl) ?_
   |refine aR (by rfl) (by as_aux_lemma=>intro W;go_simp;exact⟨rfl,rfl⟩) (by intro W t;with_reducible first|exact o.out W t) ?_);simp only[Act.put,aH])
  intro W5 y;have c:=aa (a.out.old y);have T:=aa (O.out.trans (y.mono (λ_ _ x=>x.elim)));clear y c0 c2 b0 b1 b2 b3
  go_wp2_with(first
   |(refine bS rfl 317 (.tmp 21) (.tmp 20) rfl dL 4 eB l c.out.row q (by omega) ⟨r,⟨fl,id,ln⟩⟩ rfl rfl rfl (eL _) rfl ?_
     intro U D z;have V:=aa D;have A:=aa (c.out.top.kp z (λe=>aA c.out.row c.out.top (by decide) (by rw[e];rfl)));have X:=aa z;have d2:=A.out.aq;have df:=A.out.fz 2
     clear D z))
  go_ret;have E:Kp (λb=>b=rb) U (U.setCell ⟨rb,2,none⟩ (.int .i64 ((n:Int)+1))):=(Kp.refl (λb=>b=rb) U).set (p:=⟨rb,2,none⟩) (.inl rfl) _;have an:g1≠rb:=λe=>aA c.out.row c.out.top (by decide) (by rw[e];rfl);refine⟨rfl,_,⟨.slice (some ⟨g1,0,none⟩) l.length cap1,l.set q ⟨r,⟨fl,id,ln⟩⟩,B,n+1,rfl,⟨A.out.set 2 _,?_⟩,s.out,u⟩,?_,?_⟩
  ·rw[Hr];exact au V.out E (λb Y e=>by have h9:g1=b:=Option.some.inj Y;omega)
  ·exact(T.out.steps g.out ((X.out.mono (λb _ e=>.inr (by rw[e];rfl))).trans (E.mono (λb _ e=>.inl e))))
  ·exact g.out
def vT(p:Option Addr)(w:World)(f:∀W,Kp ae w W->Calls Tryz.prog 236 #[.pointer p] W λe w'=>e=.returned (.int .i64 0)/\W=w'):Calls Tryz.prog 237 #[.pointer p,.int .i64 0] w λe w'=>e=.returned (.tuple #[.agg (dL iP).toArray,.bool false])/\Kp ae w w':=by
 have f:=aa f;show Calls _ _ _ _ λe w'=>e=.returned (.tuple #[.agg #[.int .u64 0,.int .u32 0,.int .u32 0,.int .u64 0],.bool false])/\Kp ae w w';have a:=aa ((ag.new w [.int .u64 0,.int .u32 0,.int .u32 0,.int .u64 0] 317).alloc (.cells #[.int .u64 0,.int .u32 0,.int .u32 0,.int .u64 0] 317));have c:=ag.new (w.alloc (.cells #[.int .u64 0,.int .u32 0,.int .u32 0,.int .u64 0] 317)) [.int .u64 0,.int .u32 0,.int .u32 0,.int .u64 0] 317;rw[HB]at c
 have b:=aa c;have d:=aa (((Kp.refl ae w).alloc (.cells #[.int .u64 0,.int .u32 0,.int .u32 0,.int .u64 0] 317)).alloc (.cells #[.int .u64 0,.int .u32 0,.int .u32 0,.int .u64 0] 317));clear c;go_enter Tryz.func237,Tryz.ntmps237;go_wp2_with fail;refine(f.out _ d.out).mono ?_;rintro e w1 ⟨rfl,rfl⟩;have g:=b.out.ai;have h:=b.out.aj;have x2:=b.out.aq;have i:=b.out.aK;have k:=a.out.ai;have l:=a.out.aj;have m:=a.out.aq;have n:=a.out.aK;have o:=λj=>a.out.fz j;go_wp2_with fail;exact cO (by exact rfl) a.out _ Tryz.underlying317 rfl (eL iP) (by exact rfl) ⟨rfl,d.out⟩
def xj(w:World):Calls Tryz.prog 236 #[.pointer none] w λe w'=>e=.returned (.int .i64 0)/\w=w':=by
 go_enter Tryz.func236,Tryz.ntmps236;go_wp2;go_ret;exact⟨rfl,rfl⟩
def xk{w:World}{F:Nat->Prop}{rb room:Nat}{q:It}{Q:List It}(h:Rg w F rb room (q::Q)):Calls Tryz.prog 237 #[.pointer (some ⟨rb,0,none⟩),.int .i64 0] w λe w'=>e=.returned (.tuple #[.agg (dL q).toArray,.bool true])/\Kp ae w w':=by
 obtain⟨v,S,fr,n,rfl,hm,ok,p⟩:=h;have I:0<n:=by have:=ok.len;rw[Hs]at this;omega
 have J:(0:Int)<n:=by omega
 have K:=ok.hN;have r:=ok.oI (by omega);have E:=ok.fits;have G:=(ok.take iP).1;have s:fE S.length fr 0=fr:=by unfold fE;rw[Hl (by omega)];omega
 have L:=aa (λW (k:Kp ae w W)=>uH (hm.old k));have b:=λW (k:Kp ae w W)=>l6 (hm.old k) r (by omega) 0 (by omega);rw[s]at b
 have i:∀W,Kp ae w W->Calls Tryz.prog 238 #[.pointer (some ⟨rb,0,none⟩),.int .i64 0] W λe w'=>e=.returned (.int .i64 fr)/\Kp ae W w':=b;have t:=aa i;obtain⟨g,cap,rfl,_⟩:=aY hm.row (by omega);have u:=aa (tc hm.row fr q G);have c0:=hm.top.ai;have M:(fr:Int)<S.length:=by omega
 have O:=aa hm;clear i b s G hm ok;generalize S.length=N at*;have j:=aa ((ag.new w [.int .u64 0,.int .u32 0,.int .u32 0,.int .u64 0] 317).alloc (.cells #[.int .u64 0,.int .u32 0,.int .u32 0,.int .u64 0] 317));have d:=ag.new (w.alloc (.cells #[.int .u64 0,.int .u32 0,.int .u32 0,.int .u64 0] 317)) [.int .u64 0,.int .u32 0,.int .u32 0,.int .u64 0] 317;rw[HB]at d
 have y:=aa d;have a:=aa (((Kp.refl ae w).alloc (.cells #[.int .u64 0,.int .u32 0,.int .u32 0,.int .u64 0] 317)).alloc (.cells #[.int .u64 0,.int .u32 0,.int .u32 0,.int .u64 0] 317));clear d;go_enter Tryz.func237,Tryz.ntmps237;go_wp2_with fail;obtain⟨z,c⟩:∃z,(w.alloc (.cells #[.int .u64 0,.int .u32 0,.int .u32 0,.int .u64 0] 317)).alloc (.cells #[.int .u64 0,.int .u32 0,.int .u32 0,.int .u64 0] 317)=z:=⟨_,rfl⟩
 rw[c]at j y a
 simp only[List.toArray]at c;change Calls _ _ _ ((w.alloc (.cells #[.int .u64 0,.int .u32 0,.int .u32 0,.int .u64 0] 317)).alloc (.cells #[.int .u64 0,.int .u32 0,.int .u32 0,.int .u64 0] 317)) _;rw[c];clear c;refine(L.out z a.out).mono ?_;rintro e w1 ⟨rfl,rfl⟩;have d0:=a.out.cell c0 (λx=>x);clear c0;go_wp2_with fail;refine ar 9 (by kernel_rfl) (λ_ _ _ _ _ h=>h) ?_;simp only[aO]
 repeat((first
    |refine bc (by exact rfl) (bL rfl rfl (λW k=>u.out W (a.out.trans k))) ?_
    |refine ay (by rfl) (by as_aux_lemma=>intro W A;have s:=A.cell d0 (λx=>x);go_simp;exact rfl) ?_
    |refine ah (by rfl) ?_
    |refine aR (by rfl) (by as_aux_lemma=>intro W;go_simp;exact⟨rfl,rfl⟩) (by intro W A;with_reducible first|exact t.out W (a.out.trans A)) ?_);simp only[Act.put,aH])
 intro P f;have l:=aa (j.out.kp f (λx=>x));have B:=aa (a.out.trans f);clear f d0;refine b0 (by exact rfl) 317 (.tmp 4) (.tmp 24) (by exact rfl) l.out (dL q) (by exact rfl) (by exact rfl) (eL q) rfl (by intro v H;simp only[dL,Ho,H5,Ia]at H;rcases H with rfl|rfl|rfl|rfl<;>rfl) ?_;intro R m _ o;have C:=aa m;have D:=aa (o ae w B.out (.inr (Hm _)));clear m o;simp only[Act.put];go_wp2_with fail;exact cO (by exact rfl) C.out _ Tryz.underlying317 rfl (eL q) (by exact rfl) ⟨rfl,D.out⟩
def rV(q:It):∀v∈dL q,v.oneCell'=true:=by
 intro v a;simp only[dL,Ho,H5,Ia]at a;rcases a with rfl|rfl|rfl|rfl<;>rfl
def td(p:Option Addr)(w:World)(q:It)(is:Bool)(d:∀W,Kp ae w W->Calls Tryz.prog 237 #[.pointer p,.int .i64 0] W λe w'=>e=.returned (.tuple #[.agg (dL q).toArray,.bool is])/\Kp ae W w'):Calls Tryz.prog 233 #[.pointer p] w λe w'=>e=.returned (.tuple #[.agg (dL q).toArray,.bool is])/\Kp ae w w':=by
 have d:=aa d;have k:=aa (ag.new w [.int .u64 0,.int .u32 0,.int .u32 0,.int .u64 0] 317);have j:=aa ((Kp.refl ae w).alloc (.cells #[.int .u64 0,.int .u32 0,.int .u32 0,.int .u64 0] 317));go_enter Tryz.func233,Tryz.ntmps233;go_wp2_with fail;refine(d.out _ j.out).mono ?_;rintro e w1 ⟨rfl,a⟩;have f:=aa (k.out.kp a (λx=>x));have g:=aa (j.out.trans a);clear a
 go_wp2_with(first
    |(refine b0 rfl 317 (.tmp 2) (.tmp 6) rfl f.out (dL q) rfl rfl (eL q) rfl (rV q) ?_
      intro l b _ c;have h:=aa b;have i:=aa (c ae w g.out (.inr (Hm _)))
      clear b c))
 exact cO (by exact rfl) h.out _ Tryz.underlying317 rfl (eL q) (by exact rfl) ⟨rfl,i.out⟩
def iQ:List It->It×Bool
 | []=>(iP,false)
 |q::_=>(q,true)
def vU{w:World}{F:Nat->Prop}{rb room:Nat}{Q:List It}(h:Rg w F rb room Q):Calls Tryz.prog 233 #[.pointer (some ⟨rb,0,none⟩)] w λe w'=>e=.returned (.tuple #[.agg (dL (iQ Q).1).toArray,.bool (iQ Q).2])/\Kp ae w w':=by
 refine td _ w _ _ (λW k=> ?_);cases Q with
 |nil=>
  refine vT _ W (λc k'=> ?_);obtain⟨v,S,fr,n,rfl,hm,ok,a⟩:=h;have b:n=0:=ok.len.symm;subst b;exact uH (hm.old (k.trans k'))
 |cons q Q=>exact xk (h.old k)
def uI(w:World):Calls Tryz.prog 233 #[.pointer none] w λe w'=>e=.returned (.tuple #[.agg (dL iP).toArray,.bool false])/\Kp ae w w':=
 td _ w _ _ (λW _=>vT _ W (λa _=>xj a))
end
end Go.Proofs.YtincjochpkdnfaaGreatDoor
