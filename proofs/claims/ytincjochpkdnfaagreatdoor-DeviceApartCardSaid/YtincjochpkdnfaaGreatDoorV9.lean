/- Walks for layer 24: which flows may be (layers 16), the program's and the document's. -/
import Derived.Test.YtincjochpkdnfaaGreatDoorV1
import Derived.Test.YtincjochpkdnfaaGreatDoorV2
set_option linter.all false
set_option maxHeartbeats 4000000
set_option maxRecDepth 100000
namespace Go.Proofs.YtincjochpkdnfaaGreatDoor
section
open Go Go.RowKit Go.Shelf
def eU(x:Nat):Value:=.int .u32 x
def Ft:gL Tryz.prog 186 40 (.int .u32 0) 1 4:=⟨Tryz.underlying186,by kernel_rfl,rfl,by decide⟩
def CX:gL Tryz.prog 63 106 (.agg #[.int .u32 0,.int .u64 0,.int .u64 0,.int .u64 0,.int .u64 0]) 5 40:=⟨Tryz.underlying63,by kernel_rfl,rfl,by decide⟩
def vV:gL Tryz.prog 236 38 (.int .u64 0) 1 8:=⟨Tryz.underlying236,by kernel_rfl,rfl,by decide⟩
def AZ{xs:List Nat}{i:Nat}(h:i<xs.length):(xs.map eU)[i]? =some (.int .u32 (xs[i]:Int)):=by
 rw[H2,Hn h];rfl
def A0(xs:List Nat)(x:Nat)(v:Value)(w:World)(h:Sl w v xs.length 1 (xs.map eU)):Calls Tryz.prog 144 #[v,.int .u32 x] w λe w'=>(∃r:Int,e=.returned (.int .i64 r)/\(0<=r↔x∈xs))/\Kp ae w w':=by
 obtain⟨g,cap,rfl⟩:∃g cap,v=.slice g xs.length cap:=by obtain⟨g,cap,rfl,_⟩:=h.is;exact⟨_,_,rfl⟩
 have y:=h.max;have z:=aa h;clear h;go_enter Tryz.func144,Tryz.ntmps144;go_wp2;go_loopw [8] (λi0 wr=>∃k:Nat,i0=.int .i64 k/\k<=xs.length/\Hid ((∀(j:Nat) (s:j<xs.length),j<k->x≠xs[j])/\Kp ae w wr)) (λi0 _=>xs.length-(intOf i0).toNat)
 case atStart=>exact⟨0,rfl,by omega,λj _ h=>by omega,Kp.refl _ _⟩
 case round=>
  obtain⟨k,rfl,D,a⟩:=hrel;by_cases c:k<xs.length
  ·have A:(k:Int)<xs.length:=by omega
   obtain⟨B,t,l,m⟩:=(z.out.old a.out.2).is;injection l with l _ C;subst l C;obtain⟨b,off,rfl,n⟩:=m k _ (AZ c);by_cases d:x=xs[k]
   ·have f:(x:Int)=(xs[k]:Nat):=by rw[<-d]
    have o:((x:Int)==((xs[k]:Nat):Int))=true:=by rw[Iq];exact f
    have p:Hid (x∈xs):=by show _∈_;rw[d];exact Ht c
    clear d m f;go_wp2;go_ret;exact⟨⟨_,rfl,⟨λ_=>p.out,λ_=>by omega⟩⟩,a.out.2⟩
   ·have o:((x:Int)==((xs[k]:Nat):Int))=false:=by rw[HM];omega
    have p:=aa d;clear d m;go_wp2;go_roundw
    case rel=>exact⟨k+1,by go_num,by omega,λj s h=>by
     rcases HW j k with u|u
     ·exact a.out.1 j s u
     ·have:j=k:=by omega
      subst this;exact p.out,a.out.2⟩
    case measure=>simp[intOf];omega
  ·have q:k=xs.length:=by omega
   subst q;go_wp2;go_ret;refine⟨⟨_,rfl,⟨λh=>by omega,λh=> ?_⟩⟩,a.out.2⟩;obtain⟨i,hi,e⟩:=JX.1 h;exact absurd e.symm (a.out.1 i hi hi)
def uJ(xs:List Nat)(x:Nat)(v:Value)(w:World)(h:Sl w v xs.length 1 (xs.map eU)):Calls Tryz.prog 124 #[v,.int .u32 x] w λe w'=>e=.returned (.bool (decide (x∈xs)))/\Kp ae w w':=by
 have a:=aa (A0 xs x v w h);clear h;go_enter Tryz.func124,Tryz.ntmps124;go_wp2_with fail;refine(a.out).mono ?_;rintro e w1 ⟨⟨r,rfl,b⟩,k1⟩;have c:=aa k1;have hd:decide (0<=r)=decide (x∈xs):=by rw[IQ];exact b
 have d:=aa hd;clear b hd k1 a;go_wp2;go_ret;exact⟨by rw[<-d.out];rfl,c.out⟩
def dV(l:List dF):List Nat:=l.map (·.id)
def o2(l:List dF)(k:Nat)(h:k<l.length):dV (l.take (k+1))=dV (l.take k)++[l[k].id]:=by
 unfold dV;rw[HQ h,HE];rfl
def xl(l:List dF)(k:Nat)(h:k<=l.length):(dV (l.take k)).length=k:=by unfold dV;rw[Hq,HG];omega
def te{xs:List Nat}{x:Nat}(h:xs.Nodup)(d:x∉xs):(xs++[x]).Nodup:=by
 rw[Ib];exact⟨h,by simp,λa ha b c=>by simp at c;subst c;exact λe=>d (e▸ha)⟩
def uK{l:List dF}{k:Nat}(h:k<l.length)(b:l[k].id∈dV (l.take k)):¬(dV l).Nodup:=by
 intro a;have e:dV l=dV (l.take (k+1))++dV (l.drop (k+1)):=by unfold dV;rw[<-HE,Jq]
 rw[e,o2 l k h,Ib]at a
 have:=(Ib.1 a.1).2.2 _ b l[k].id (by simp);exact this rfl
def vW(l:List dF)(U:l.length<=64)(v:Value)(w:World)(h:Sl w v l.length 5 (l.flatMap cv)):Calls Tryz.prog 98 #[v] w λe w'=>e=.returned (.bool (!decide (dV l).Nodup))/\Kp ae w w':=by
 obtain⟨D,cap,rfl⟩:∃D cap,v=.slice D l.length cap:=by obtain⟨D,cap,rfl,_⟩:=h.is;exact⟨_,_,rfl⟩
 have N:=aa h;clear h;go_enter Tryz.func98,Tryz.ntmps98;go_wp2;go_loopw [3,8] (λO i0 wr=>∃(k:Nat) (v3:Value),v3=O/\i0=.int .i64 k/\k<=l.length/\Hid (wr.ownsRow w.heap.size 40 1 v3 k ((dV (l.take k)).map eU)/\(dV (l.take k)).Nodup/\Kp ae w wr)) (λ_ i0 _=>l.length-(intOf i0).toNat)
 case atStart=>exact⟨0,_,rfl,rfl,by omega,⟨rfl,.inl ⟨rfl,rfl⟩⟩,List.nodup_nil,Kp.refl _ _⟩
 case round=>
  obtain⟨k,v3,rfl,rfl,V,i⟩:=hrel;by_cases m:k<l.length
  ·have P:(k:Int)<l.length:=by omega
   obtain⟨W,X,Y,E,a⟩:=(N.out.old i.out.2.2).at fo (by decide) k m;injection E with E _ Q;subst E Q;obtain⟨f,hf⟩:∃f,l[k]=f:=⟨_,rfl⟩
   have n:=o2 l k m;have F:Hid (f.id∈dV (l.take k)->¬(dV l).Nodup):=by show _->_;rw[<-hf];exact uK m
   rw[hf]at a n
   have d0:=a 0 _ rfl;have d1:=a 1 _ rfl;have d2:=a 2 _ rfl;have d3:=a 3 _ rfl;have d4:=a 4 _ rfl;simp only[Ig]at d0;have r:=xl l k (by omega);have s:=aa n;have G:=aa r;have R:=i.out.2.2.size;clear a hf n r;go_wp2_with fail;have t:=(Kp.refl ae wr).alloc (.cells (cv f).toArray 106);have u:=ag.new wr (cv f) 106;have d:Kp ae wr (wr.alloc (.cells #[.int .u32 f.id,.int .u64 f.cost,.int .u64 f.bY,.int .u64 f.size,.int .u64 f.cap] 106)):=t;have j:ag (wr.alloc (.cells #[.int .u32 f.id,.int .u64 f.cost,.int .u64 f.bY,.int .u64 f.size,.int .u64 f.cap] 106)) wr.heap.size (cv f) 106:=u;clear t u d0 d1 d2 d3 d4;generalize wr.alloc (.cells #[.int .u32 f.id,.int .u64 f.cost,.int .u64 f.bY,.int .u64 f.size,.int .u64 f.cap] 106)=w1 at*;have y:=aa d;have z:=aa j;have o:=aa (au i.out.1 d (λ_ _ x=>x));clear d j;have M:=aa (uJ (dV (l.take k)) f.id v3 w1 (by have:=gG o.out;rw[G.out];exact this));refine(M.out).mono ?_;rintro e Z ⟨rfl,k2⟩;have p:=aa (y.out.trans k2);have H:=aa (z.out.kp k2 (λx=>x));have I:=aa (au o.out k2 (λ_ _ x=>x));have S:=(i.out.2.2.trans p.out).size;clear k2 M z y o;have c0:=H.out.ai;cases q:decide (f.id∈dV (l.take k))with
   |true=>
    have A:=aa (F.out (Ji q));clear q;go_wp2;go_ret;exact⟨by rw[HN A.out];rfl,i.out.2.2.trans p.out⟩
   |false=>
    have A:=aa (te i.out.2.1 (of_decide_eq_false q));clear q
    go_wp2_with(first
     |(refine eW Ft (.tmp 16) (.tmp 19) rfl rfl w.heap.size (v:=v3) (I.out.alloc _) [.int .u32 f.id] rfl rfl rfl (fr:=(0,0)) (cz _ _) rfl (by omega) (by omega) (by simp;omega) ?_;intro g8 B T g c
       have C:=((i.out.2.2.trans p.out).alloc (.cells #[.int .u32 f.id] 40)).grown c (λb q=>.inr (an i.out.1 q).1);have J:=aa C;have K:Hid (T.ownsRow w.heap.size 40 1 (.slice (some ⟨g8,0,none⟩) (k+1) B) (k+1) ((dV (l.take (k+1))).map eU)):=by show World.ownsRow _ _ _ _ _ _ _;rw[s.out,HE];exact g
       clear g c C))
    go_roundw
    case rel=>exact⟨k+1,_,rfl,by go_num,by omega,K.out,by rw[s.out];exact A.out,J.out⟩
    case measure=>simp[intOf];omega
  ·have L:k=l.length:=by omega
   subst L;have A:Hid ((dV l).Nodup):=by have:=i.out.2.1;rw[H9]at this;exact this
   go_wp2;go_ret;exact⟨by rw[Hz A.out];rfl,i.out.2.2⟩
def qH(w:World)(e:TypeId)(sz:Nat):(w.alloc (.cells #[] e)).ownsRow w.heap.size e sz (.slice (some ⟨w.heap.size,0,none⟩) 0 0) 0 []:=
 ⟨by simp,.inr ⟨w.heap.size,0,#[],rfl,Hm _,cz _ _,Hm _,by unfold maxLen;omega,by simp,by simp⟩⟩
def jr(w:World)(o:Obj){n:Nat}(h:n=w.heap.size):(w.alloc o).heap[n]? =some o:=by subst h;exact cz w o
def vX(l:List dF):(l.flatMap cv).all (·.oneCell')=true:=by
 rw[HV];intro v a;obtain⟨r,_,a⟩:=List.mem_flatMap.1 a;simp only[cv,Ho,H5,Ia]at a;rcases a with rfl|rfl|rfl|rfl|rfl<;>rfl
def A1(l:List dF)(s:l.length<=64)(v:Value)(w:World)(h:Sl w v l.length 5 (l.flatMap cv)):Calls Tryz.prog 99 #[v] w λe w'=>(∃d n cap,e=.returned (.slice d n cap))/\Kp ae w w':=by
 obtain⟨d,cap,rfl⟩:∃d cap,v=.slice d l.length cap:=by obtain⟨d,cap,rfl,_⟩:=h.is;exact⟨_,_,rfl⟩
 have p:=aa h;clear h;have j:=aa (vX l);cases d with
 |none=>
  have f:∀W:World,(binOp BinOp.eql 63 (.slice none l.length cap) (.slice none 0 0)).run Tryz.prog W=.ok (.bool true) W:=λ_=>by kernel_rfl
  go_enter Tryz.func99,Tryz.ntmps99;go_wp2;go_ret;exact⟨⟨_,_,_,rfl⟩,Kp.refl _ _⟩
 |some ad=>
  have f:∀W:World,(binOp BinOp.eql 63 (.slice (some ad) l.length cap) (.slice none 0 0)).run Tryz.prog W=.ok (.bool false) W:=λ_=>by kernel_rfl
  have g:=p.out.old ((Kp.refl ae w).alloc (.cells #[] 106));have k:=aa g;clear g;go_enter Tryz.func99,Tryz.ntmps99
  go_wp2_with(first
   |(refine qk CX (.tmp 5) (.tmp 6) rfl rfl w.heap.size (qH w 106 5) rfl rfl k.out j.out (by omega) (by omega) (by simp) ?_;intro t u c a
     have i:=((Kp.refl ae w).alloc (.cells #[] 106)).grown a (λb q=>.inr (by cases q;exact Hm _));obtain⟨r,o,rfl⟩:=aN c;have m:=aa i
     clear c a i))
  go_ret;exact⟨⟨_,_,_,rfl⟩,m.out⟩
structure DD (w wr:World) (rb:Nat) (fv v2:Value) (k:Nat):Prop where
 blk:ag wr rb [.int .i64 2,fv,v2,.int .u64 0] 238
 own:wr.ownsRow w.heap.size 38 1 v2 k (List.replicate k (.int .u64 0))
 kp:Kp ae w wr
def DE(l:List dF)(v:Value)(w:World)(h:Sl w v l.length 5 (l.flatMap cv)):Calls Tryz.prog 68 #[.int .i64 2,v] w λe w'=>(∃p,e=.returned (.tuple #[p,.int .i64 (dM l)]))/\Kp ae w w':=by
 obtain⟨F,cap,rfl⟩:∃F cap,v=.slice F l.length cap:=by obtain⟨F,cap,rfl,_⟩:=h.is;exact⟨_,_,rfl⟩
 have U:=aa h;have X:=h.max;clear h;by_cases V:l.length=0
 ·have y:Hid (dM l=29):=by show _=_;unfold dM;rw[Hl (.inl V)]
  have C:((l.length:Int)==0)=true:=by rw[Iq];omega
  have e2:(l.length==0)=true:=by rw[Iq];omega
  rw[V]at U ⊢
  clear X C e2;go_enter Tryz.func68,Tryz.ntmps68;go_wp2;go_ret2;exact⟨⟨_,by rw[y.out];rfl⟩,Kp.refl _ _⟩
 ·have C:((l.length:Int)==0)=false:=by rw[HM];omega
  by_cases G:64<l.length
  ·have y:Hid (dM l=29):=by show _=_;unfold dM;rw[Hl (.inr G)]
   have H:(64:Int)<l.length:=by omega
   clear V;go_enter Tryz.func68,Tryz.ntmps68;go_wp2;go_ret2;exact⟨⟨_,by rw[y.out];rfl⟩,Kp.refl _ _⟩
  ·have H:¬(64:Int)<l.length:=by omega
   have n:Hid (dM l=if(dV l).Nodup then 0 else 30):=by show _=_;unfold dM;rw[Hk (by omega)];rfl
   have aj:=aa (vW l (by omega) (.slice F l.length cap) w U.out);have I:=aa (λW hs=>A1 l (by omega) (.slice F l.length cap) W hs);have ak:l.length<=64:=by omega
   clear V G;go_enter Tryz.func68,Tryz.ntmps68;go_wp2_with fail;refine(aj.out).mono ?_;rintro e w1 ⟨rfl,k1⟩;have z:=aa k1;clear k1 aj;by_cases D:(dV l).Nodup
   ·have y:Hid (dM l=0):=by show _=_;rw[n.out,Hl D]
    have hd:(!decide (dV l).Nodup)=false:=by simp[D]
    rw[hd];clear hd n D;go_wp2_with fail;refine(I.out _ (U.out.old z.out)).mono ?_;rintro e E ⟨⟨o,fn,q,rfl⟩,k2⟩;have A:=aa (z.out.trans k2);clear k2 I;go_wp2_with fail;have J:=A.out.size;have K:=ag.new E [.int .i64 2,.slice o fn q,.slice none 0 0,.int .u64 0] 238;have L:=A.out.alloc (.cells #[.int .i64 2,.slice o fn q,.slice none 0 0,.int .u64 0] 238);have s:Kp ae w (E.alloc (.cells #[.int .i64 2,.slice o fn q,.slice none 0 0,.int .u64 0] 238)):=L;have g:ag (E.alloc (.cells #[.int .i64 2,.slice o fn q,.slice none 0 0,.int .u64 0] 238)) E.heap.size [.int .i64 2,.slice o fn q,.slice none 0 0,.int .u64 0] 238:=K;clear L K;generalize E.alloc (.cells #[.int .i64 2,.slice o fn q,.slice none 0 0,.int .u64 0] 238)=w3 at*;obtain⟨rb,M⟩:∃rb,E.heap.size=rb:=⟨_,rfl⟩
    rw[M]at g J ⊢
    have N:Hid (DD w w3 rb (.slice o fn q) (.slice none 0 0) 0):=⟨g,⟨rfl,.inl ⟨rfl,rfl⟩⟩,s⟩
    clear g s M A;go_loopw [36] (λi0 wr=>∃(k:Nat) (v2:Value),i0=.int .i64 k/\k<=l.length/\Hid (DD w wr rb (.slice o fn q) v2 k)) (λi0 _=>l.length-(intOf i0).toNat)
    case atStart=>exact⟨0,_,rfl,by omega,N.out⟩
    case round=>
     clear N;obtain⟨k,v2,rfl,hk,t⟩:=hrel;by_cases Y:k<l.length
     ·have al:(k:Int)<l.length:=by omega
      obtain⟨gx,ox,cx,C,d⟩:=(U.out.old t.out.kp).at fo (by decide) k Y;injection C with C _ e3;subst C e3;obtain⟨f,hf⟩:∃f,l[k]=f:=⟨_,rfl⟩
      rw[hf]at d
      have d0:=d 0 _ rfl;have d1:=d 1 _ rfl;have d2:=d 2 _ rfl;have d3:=d 3 _ rfl;have d4:=d 4 _ rfl;simp only[Ig]at d0;have ar:=t.out.kp.size;have B:=t.out.blk.alloc (.cells #[.int .u32 f.id,.int .u64 f.cost,.int .u64 f.bY,.int .u64 f.size,.int .u64 f.cap] 106);have c2:=B.aq;have u:=B.alloc (.cells #[.int .u64 0] 38);have Z:=aa u;have O:=aa (au (S:=ae) t.out.own (((Kp.refl ae wr).alloc (.cells #[.int .u32 f.id,.int .u64 f.cost,.int .u64 f.bY,.int .u64 f.size,.int .u64 f.cap] 106)).alloc (.cells #[.int .u64 0] 38)) (λ_ _ x=>x));have ac:=aa ((t.out.kp.alloc (.cells #[.int .u32 f.id,.int .u64 f.cost,.int .u64 f.bY,.int .u64 f.size,.int .u64 f.cap] 106)).alloc (.cells #[.int .u64 0] 38));have ad:=aa (aA t.out.own t.out.blk (by decide));clear d hf B u
      go_wp2_with(first
         |(refine eW vV (.tmp 48) (.tmp 50) rfl rfl w.heap.size (v:=v2) O.out [.int .u64 0] rfl rfl rfl (fr:=(0,0)) (jr _ _ (by simp)) rfl (by omega) (by omega) (by simp;omega) ?_;intro g8 i w8 j c
           have P:=ac.out.grown c (λb hb=>.inr (an O.out hb).1);have r:=Z.out.grown c (λe=>ad.out e.symm);have x2:=r.aq;have z2:=r.fz 2;have af:=aa P;have Q:=aa r;have R:=aa j
           clear j c P r))
      have m:=cG R.out (a:=⟨rb,2,none⟩) (λb hb e=>aA R.out Q.out (by decide) (by rw[hb];exact HC some e)) (.slice (some ⟨g8,0,none⟩) (k+1) i);have T:DD w (w8.setCell ⟨rb,2,none⟩ (.slice (some ⟨g8,0,none⟩) (k+1) i)) rb (.slice o fn q) (.slice (some ⟨g8,0,none⟩) (k+1) i) (k+1):=
       ⟨Q.out.set 2 _,by rw[List.replicate_succ'];exact m,af.out.set (p:=⟨rb,2,none⟩) (.inr J) _⟩
      have ah:=aa T;clear m T;go_roundw
      case rel=>exact⟨k+1,_,by go_num,by omega,ah.out⟩
      case measure=>simp[intOf];omega
     ·have ai:k=l.length:=by omega
      subst ai;go_wp2;go_ret2;exact⟨⟨_,by rw[y.out];rfl⟩,t.out.kp⟩
   ·have y:Hid (dM l=30):=by show _=_;rw[n.out,Hk D]
    have hd:(!decide (dV l).Nodup)=true:=by simp[D]
    rw[hd];clear hd n D;go_wp2;go_ret2;exact⟨⟨_,by rw[y.out];rfl⟩,z.out⟩
def hV(a b:Nat):Nat:=if a*b<18446744073709551616 then a*b else 18446744073709551615
def yR(a b:Nat):hV a b<18446744073709551616:=by unfold hV;split<;>omega
def Fu(a b:Nat)(ha:a<18446744073709551616)(w:World):Calls Tryz.prog 133 #[.int .u64 a,.int .u64 b] w λe w'=>e=.returned (.int .u64 (a-b:Nat))/\w=w':=by
 by_cases h:a<b
 ·have f:(a:Int)<b:=by omega
  have e:a-b=0:=by omega
  rw[e];go_enter Tryz.func133,Tryz.ntmps133;go_wp2;go_ret;exact⟨rfl,rfl⟩
 ·have f:¬(a:Int)<b:=by omega
  obtain⟨c,d⟩:∃c,a-b=c:=⟨_,rfl⟩
  have g:(a:Int)-b=c:=by omega
  have hw:IntKind.u64.wrap (c:Int)=c:=by rw[HO];omega
  rw[d];clear d;go_enter Tryz.func133,Tryz.ntmps133;go_wp2;go_ret;exact⟨rfl,rfl⟩
def Fv(a b:Nat)(ha:a<18446744073709551616)(k:b<18446744073709551616)(w:World):Calls Tryz.prog 137 #[.int .u64 a,.int .u64 b] w λe w'=>e=.returned (.int .u64 (hV a b))/\w=w':=by
 have hm:=Tryz.bits_Mul64 a b ha k w;obtain⟨hi,d⟩:∃hi,a*b/18446744073709551616=hi:=⟨_,rfl⟩
 obtain⟨lo,c⟩:∃lo,a*b%18446744073709551616=lo:=⟨_,rfl⟩
 rw[d,c]at hm
 have i:=aa hm;by_cases h:0<hi
 ·have l:(0:Int)<hi:=by omega
  have f:Hid (hV a b=18446744073709551615):=by
   show _=_;unfold hV;rw[Hk];intro m;have:=KI m;omega
  clear hm d c;go_enter Tryz.func137,Tryz.ntmps137;go_wp2_with(go_at_call 83;refine i.out.mono ?_;rintro e w' ⟨rfl,rfl⟩);go_ret;exact⟨by rw[f.out];rfl,rfl⟩
 ·have l:¬(0:Int)<hi:=by omega
  have f:Hid (hV a b=lo):=by
   show _=_;unfold hV;have n:a*b/18446744073709551616=0:=by omega
   have j:a*b<18446744073709551616:=by
    rcases Nat.div_eq_zero_iff.1 n with g|g
    ·cases g
    ·exact g
   rw[Hl j,<-c,IH j]
  clear hm d c;go_enter Tryz.func137,Tryz.ntmps137;go_wp2_with(go_at_call 83;refine i.out.mono ?_;rintro e w' ⟨rfl,rfl⟩);go_ret;exact⟨by rw[f.out];rfl,rfl⟩
def tf(a b c:Nat)(ha:a<18446744073709551616)(d:b<18446744073709551616)(f:c<18446744073709551616)(w:World):Calls Tryz.prog 110 #[.int .u64 a,.int .u64 b,.int .u64 c] w λe w'=>e=.returned (.int .u64 (cH a (hV b c)))/\w=w':=by
 have g:=aa (λW=>Fv b c d f W);have h:=aa (λW=>sT a (hV b c) ha (yR b c) W);generalize hV b c=m at*;generalize cH a m=r at*;go_enter Tryz.func110,Tryz.ntmps110;go_wp2_with fail;refine(g.out _).mono ?_;rintro e w1 ⟨rfl,rfl⟩;go_wp2_with fail;refine(h.out _).mono ?_;rintro e i ⟨rfl,rfl⟩;go_wp2_with fail;go_ret;exact⟨rfl,rfl⟩
def ov:(Tryz.prog.info? 172).map (·.size)=some 3:=by kernel_rfl
def kG(r b t:Nat)(f:0<r)(g:0<b)(h:t<=b)(w:World):Calls Tryz.prog 100 #[.agg #[.int .u64 r,.int .u64 b,.int .u64 t]] w λe w'=>e=.returned (.int .i64 0)/\Kp ae w w':=by
 have a:((r:Int)==0)=false:=by rw[HM];omega
 have c:((b:Int)==0)=false:=by rw[HM];omega
 have d:¬(b:Int)<t:=by omega
 go_enter Tryz.func100,Tryz.ntmps100;go_wp2;go_ret;exact⟨rfl,(Kp.refl ae w).alloc _⟩
def A2(r b:Nat)(i:0<r)(k:0<b)(w:World):Calls Tryz.prog 69 #[.int .u64 r,.int .u64 b] w λe w'=>e=.returned (.tuple #[.agg #[.int .u64 r,.int .u64 b,.int .u64 b],.int .i64 0])/\Kp ae w w':=by
 go_enter Tryz.func69,Tryz.ntmps69;go_wp2_with fail;refine(kG r b b i k (Hm _) _).mono ?_;rintro e l ⟨rfl,g⟩;have f:(w.alloc (.cells #[.int .u64 0,.int .u64 0,.int .u64 0] 172)).heap.size=w.heap.size+1:=by simp
 have a:=aa (((ag.new w [.int .u64 0,.int .u64 0,.int .u64 0] 172).alloc (.cells #[.int .u64 r,.int .u64 b,.int .u64 b] 172)).kp g (λx=>x));have c:=(ag.new (w.alloc (.cells #[.int .u64 0,.int .u64 0,.int .u64 0] 172)) [.int .u64 r,.int .u64 b,.int .u64 b] 172).kp g (λx=>x);rw[f]at c
 have d:=aa c;have h:=aa ((((Kp.refl ae w).alloc (.cells #[.int .u64 0,.int .u64 0,.int .u64 0] 172)).alloc (.cells #[.int .u64 r,.int .u64 b,.int .u64 b] 172)).trans g);clear c g f;have m:=d.out.ai;have n:=d.out.aj;have o:=d.out.aq;have q:=a.out.ai;have s:=a.out.aj;have x2:=a.out.aq;have t:=λj=>a.out.fz j;go_wp2_with fail;exact cO (by exact rfl) (((a.out.set 0 (.int .u64 r)).set 1 (.int .u64 b)).set 2 (.int .u64 b)) _ Tryz.underlying172 rfl ov (by exact rfl) ⟨rfl,((h.out.set (p:=⟨w.heap.size,0,none⟩) (.inr (Hm _)) _).set (p:=⟨w.heap.size,1,none⟩) (.inr (Hm _)) _).set (p:=⟨w.heap.size,2,none⟩) (.inr (Hm _)) _⟩
def kd(r b t n:Nat):Nat:=min (cH t (hV r n)) b
def DF(r b t n:Nat)(F:0<r)(G:0<b)(H:t<=b)(I:r<18446744073709551616)(N:b<18446744073709551616)(J:n<18446744073709551616)(w:World):Calls Tryz.prog 80 #[.agg #[.int .u64 r,.int .u64 b,.int .u64 t],.int .u64 n] w λe w'=>e=.returned (.agg #[.int .u64 r,.int .u64 b,.int .u64 (kd r b t n)])/\Kp ae w w':=by
 have D:=aa (λW=>tf t r n (by omega) I J W);obtain⟨m,hm⟩:∃m,cH t (hV r n)=m:=⟨_,rfl⟩
 have E:kd r b t n=min m b:=by unfold kd;rw[hm]
 rw[hm]at D
 obtain⟨q,s⟩:∃q,min m b=q:=⟨_,rfl⟩
 rw[E,s];have K:Hid (min (m:Int) b=(q:Int)):=aa (by rw[<-s];omega);clear hm E s;go_enter Tryz.func80,Tryz.ntmps80;go_wp2_with fail;refine(kG r b t F G H _).mono ?_;rintro e O ⟨rfl,l⟩;have k:(w.alloc (.cells #[.int .u64 r,.int .u64 b,.int .u64 t] 172)).heap.size=w.heap.size+1:=by simp
 have f:=aa (((ag.new w [.int .u64 r,.int .u64 b,.int .u64 t] 172).alloc (.cells #[.int .u64 0,.int .u64 0,.int .u64 0] 172)).kp l (λx=>x));have i:=(ag.new (w.alloc (.cells #[.int .u64 r,.int .u64 b,.int .u64 t] 172)) [.int .u64 0,.int .u64 0,.int .u64 0] 172).kp l (λx=>x);rw[k]at i
 have u:=aa i;have v:=aa ((((Kp.refl ae w).alloc (.cells #[.int .u64 r,.int .u64 b,.int .u64 t] 172)).alloc (.cells #[.int .u64 0,.int .u64 0,.int .u64 0] 172)).trans l);clear i l k;go_wp2_with fail;have y:=f.out.ai;have z:=f.out.aj;have A:=f.out.aq;refine ar 10 (by kernel_rfl) (λ_ _ _ _ _ h=>h) ?_;simp only[aO]
 repeat((first
    |refine ay (by rfl) (by as_aux_lemma=>intro W o;have P:=o.cell y (λx=>x);have Q:=o.cell z (λx=>x);have R:=o.cell A (λx=>x);have S:=K.out;go_simp;exact rfl) ?_
    |refine ah (by rfl) ?_
    |refine aR (by rfl) (by as_aux_lemma=>intro W;go_simp;exact⟨rfl,rfl⟩) (by intro W o;with_reducible first|exact(D.out W).mono λ_ _ h=>⟨h.1,h.2▸Kp.refl _ _⟩) ?_);simp only[Act.put,aH])
 intro L g;have d:=aa (f.out.kp g (λx=>x));have c:=aa (u.out.kp g (λx=>x));have B:=aa (v.out.trans g);clear g y z A;have y:=d.out.ai;have z:=d.out.aj;have A:=d.out.aq;have T:=λj=>d.out.fz j;have U:=c.out.ai;have V:=c.out.aj;have x2:=c.out.aq;have X:=λj=>c.out.fz j;go_wp2_with fail;have C:Kp ae w (L.setCell ⟨w.heap.size,2,none⟩ (.int .u64 (q:Int))):=B.out.set (p:=⟨w.heap.size,2,none⟩) (.inr (Hm _)) _;have M:=(((c.out.bJ (a:=⟨w.heap.size,2,none⟩) (by show w.heap.size+1≠w.heap.size;omega) (.int .u64 (q:Int))).set 0 (.int .u64 r)).set 1 (.int .u64 b)).set 2 (.int .u64 (q:Int));exact iI (by exact rfl) M _ Tryz.underlying172 rfl ov (by exact rfl) ⟨rfl,((C.set (p:=⟨w.heap.size+1,0,none⟩) (.inr (by show _<=w.heap.size+1;omega)) _).set (p:=⟨w.heap.size+1,1,none⟩) (.inr (by show _<=w.heap.size+1;omega)) _).set (p:=⟨w.heap.size+1,2,none⟩) (.inr (by show _<=w.heap.size+1;omega)) _⟩
def yS(r b t n:Nat)(i:0<r)(k:0<b)(l:t<=b)(o:t<n)(w:World):Calls Tryz.prog 107 #[.agg #[.int .u64 r,.int .u64 b,.int .u64 t],.int .u64 n] w λe w'=>e=.returned (.tuple #[.agg #[.int .u64 r,.int .u64 b,.int .u64 t],.bool false])/\Kp ae w w':=by
 have m:(t:Int)<n:=by omega
 go_enter Tryz.func107,Tryz.ntmps107;go_wp2_with fail;refine(kG r b t i k l _).mono ?_;rintro e q ⟨rfl,g⟩;have f:(w.alloc (.cells #[.int .u64 r,.int .u64 b,.int .u64 t] 172)).heap.size=w.heap.size+1:=by simp
 have c:=aa (((ag.new w [.int .u64 r,.int .u64 b,.int .u64 t] 172).alloc (.cells #[.int .u64 0,.int .u64 0,.int .u64 0] 172)).kp g (λx=>x));have d:=(ag.new (w.alloc (.cells #[.int .u64 r,.int .u64 b,.int .u64 t] 172)) [.int .u64 0,.int .u64 0,.int .u64 0] 172).kp g (λx=>x);rw[f]at d
 have a:=aa d;have h:=aa ((((Kp.refl ae w).alloc (.cells #[.int .u64 r,.int .u64 b,.int .u64 t] 172)).alloc (.cells #[.int .u64 0,.int .u64 0,.int .u64 0] 172)).trans g);clear d g f;have s:=c.out.ai;have u:=c.out.aj;have v:=c.out.aq;have y:=λj=>c.out.fz j;have z:=a.out.ai;have A:=a.out.aj;have x2:=a.out.aq;have B:=λj=>a.out.fz j;go_wp2_with fail;exact cO (by exact rfl) (((a.out.set 0 (.int .u64 r)).set 1 (.int .u64 b)).set 2 (.int .u64 t)) _ Tryz.underlying172 rfl ov (by exact rfl) ⟨rfl,((h.out.set (p:=⟨w.heap.size+1,0,none⟩) (.inr (by show _<=w.heap.size+1;omega)) _).set (p:=⟨w.heap.size+1,1,none⟩) (.inr (by show _<=w.heap.size+1;omega)) _).set (p:=⟨w.heap.size+1,2,none⟩) (.inr (by show _<=w.heap.size+1;omega)) _⟩
def yT(r b t n:Nat)(m:0<r)(o:0<b)(s:t<=b)(A:n<=t)(ht:t<18446744073709551616)(w:World):Calls Tryz.prog 107 #[.agg #[.int .u64 r,.int .u64 b,.int .u64 t],.int .u64 n] w λe w'=>e=.returned (.tuple #[.agg #[.int .u64 r,.int .u64 b,.int .u64 (t-n:Nat)],.bool true])/\Kp ae w w':=by
 have u:¬(t:Int)<n:=by omega
 obtain⟨q,l⟩:∃q,t-n=q:=⟨_,rfl⟩
 have v:(t:Int)-n=q:=by omega
 have hw:IntKind.u64.wrap (q:Int)=q:=by rw[HO];omega
 rw[l];clear l;go_enter Tryz.func107,Tryz.ntmps107;go_wp2_with fail;refine(kG r b t m o s _).mono ?_;rintro e y ⟨rfl,h⟩;have g:(w.alloc (.cells #[.int .u64 r,.int .u64 b,.int .u64 t] 172)).heap.size=w.heap.size+1:=by simp
 have d:=aa (((ag.new w [.int .u64 r,.int .u64 b,.int .u64 t] 172).alloc (.cells #[.int .u64 0,.int .u64 0,.int .u64 0] 172)).kp h (λx=>x));have f:=(ag.new (w.alloc (.cells #[.int .u64 r,.int .u64 b,.int .u64 t] 172)) [.int .u64 0,.int .u64 0,.int .u64 0] 172).kp h (λx=>x);rw[g]at f
 have c:=aa f;have i:=aa ((((Kp.refl ae w).alloc (.cells #[.int .u64 r,.int .u64 b,.int .u64 t] 172)).alloc (.cells #[.int .u64 0,.int .u64 0,.int .u64 0] 172)).trans h);clear f h g;have B:=d.out.ai;have C:=d.out.aj;have D:=d.out.aq;have E:=λj=>d.out.fz j;have F:=c.out.ai;have G:=c.out.aj;have x2:=c.out.aq;have H:=λj=>c.out.fz j;go_wp2_with fail;have k:Kp ae w (y.setCell ⟨w.heap.size,2,none⟩ (.int .u64 (q:Int))):=i.out.set (p:=⟨w.heap.size,2,none⟩) (.inr (Hm _)) _;have z:=(((c.out.bJ (a:=⟨w.heap.size,2,none⟩) (by show w.heap.size+1≠w.heap.size;omega) (.int .u64 (q:Int))).set 0 (.int .u64 r)).set 1 (.int .u64 b)).set 2 (.int .u64 (q:Int));exact cO (by exact rfl) z _ Tryz.underlying172 rfl ov (by exact rfl) ⟨rfl,((k.set (p:=⟨w.heap.size+1,0,none⟩) (.inr (by show _<=w.heap.size+1;omega)) _).set (p:=⟨w.heap.size+1,1,none⟩) (.inr (by show _<=w.heap.size+1;omega)) _).set (p:=⟨w.heap.size+1,2,none⟩) (.inr (by show _<=w.heap.size+1;omega)) _⟩
def A3(f:dF)(id y:Nat)(w:World)(h:w.cell? ⟨y,0,none⟩=some (.int .u32 id))(hy:y<w.heap.size):
    Calls Tryz.prog 132 #[.agg #[.int .u32 f.id,.int .u64 f.cost,.int .u64 f.bY,.int .u64 f.size,.int .u64 f.cap],.pointer (some ⟨y,0,none⟩)] w λe w'=>e=.returned (.bool (decide (f.id=id)))/\Kp ae w w':=by
 by_cases a:f.id=id
 ·have b:((f.id:Int)==(id:Int))=true:=by rw[Iq];omega
  rw[Hz a];clear a;go_enter Tryz.func132,Tryz.ntmps132;go_wp2;go_ret;exact⟨rfl,(Kp.refl ae w).alloc _⟩
 ·have b:((f.id:Int)==(id:Int))=false:=by rw[HM];omega
  rw[HN a];clear a;go_enter Tryz.func132,Tryz.ntmps132;go_wp2;go_ret;exact⟨rfl,(Kp.refl ae w).alloc _⟩
def A4(l:List dF)(id y:Nat)(v:Value)(w:World)(hS:Sl w v l.length 5 (l.flatMap cv))(h:w.cell? ⟨y,0,none⟩=some (.int .u32 id)):
    Calls Tryz.prog 131 #[v,.func (.func 132) #[] #[.pointer (some ⟨y,0,none⟩)]] w λe w'=>e=.returned (.int .i64 (findF l id))/\Kp ae w w':=by
 obtain⟨z,cap,rfl⟩:∃z cap,v=.slice z l.length cap:=by obtain⟨z,cap,rfl,_⟩:=hS.is;exact⟨_,_,rfl⟩
 have D:=hS.max;have G:=aa hS;have H:=aa h;clear hS h;go_enter Tryz.func131,Tryz.ntmps131;go_wp2_with fail;go_loopw [8] (λi wr=>∃j:Nat,i=.int .i64 j/\j<=l.length/\Hid ((∀q (I:q<j) (A:q<l.length),(l[q]'A).id≠id)/\Kp ae w wr)) (λi _=>l.length-(intOf i).toNat)
 case atStart=>exact⟨0,rfl,Hv _,λq I=>by omega,Kp.refl _ _⟩
 case round=>
  obtain⟨j,rfl,M,f⟩:=hrel;by_cases s:j<l.length
  ·obtain⟨g,off,E,B,m⟩:=(G.out.old f.out.2).at fo (by decide) j s;injection B with B _ J;subst B J;have K:(j:Int)<l.length:=by omega
   have k:∀i (hi:i<j),(l[i]'(by omega)).id≠id:=λi hi=>f.out.1 i hi (by omega);have c:=λe=>wW l id j s k e;have d:l[j].id≠id->∀i (hi:i<j+1) (n:i<l.length),(l[i]'n).id≠id:=λe i hi n=>by
    by_cases L:i=j
    ·subst L;exact e
    ·exact f.out.1 i (by omega) n
   obtain⟨o,F⟩:∃o,l[j]=o:=⟨_,rfl⟩
   rw[F]at m c d
   have c0:wr.cell? ⟨g,off+j*5,none⟩=some (.int .u32 o.id):=m 0 _ rfl;have c1:=m 1 _ rfl;have N:=m 2 _ rfl;have O:=m 3 _ rfl;have P:=m 4 _ rfl;have p:=f.out.2.cell H.out (λx=>x);have u:=aa (A3 o id y wr p (Iy _ _ p));clear m F k p;by_cases a:o.id=id
   ·rw[Hz a]at u
    have t:=aa (c a);clear a c d;go_wp2_with(go_at_call 132;refine u.out.mono ?_;rintro e w1 ⟨rfl,b⟩;have r:=aa (f.out.2.trans b);clear b);go_ret;exact⟨by rw[t.out];rfl,r.out⟩
   ·rw[HN a]at u
    have t:=aa (d a);clear a c d;go_wp2_with(go_at_call 132;refine u.out.mono ?_;rintro e w1 ⟨rfl,b⟩;have r:=aa (f.out.2.trans b);clear b);go_roundw
    case rel=>exact⟨j+1,by go_num,by omega,t.out,r.out⟩
    case measure=>simp[intOf];omega
  ·have C:j=l.length:=by omega
   have t:=aa (sS l id (λi hi=>f.out.1 i (by omega) hi));subst C;go_wp2_with fail;go_ret;exact⟨by rw[t.out];rfl,f.out.2⟩
def A5(l:List dF)(y:l.length<=64)(z:0<l.length)(v:Value)(w:World)(h:Sl w v l.length 5 (l.flatMap cv)):Calls Tryz.prog 99 #[v] w λe w'=>∃n,e=.returned n/\w'.ownsRow w.heap.size 106 5 n l.length (l.flatMap cv)/\Kp ae w w':=by
 obtain⟨d,cap,rfl⟩:∃d cap,v=.slice d l.length cap:=by obtain⟨d,cap,rfl,_⟩:=h.is;exact⟨_,_,rfl⟩
 have r:=aa h;have i:=aa (vX l);cases d with
 |none=>
  exfalso;obtain⟨d,o,e,s⟩:=h.is;have hlen:=h.len;obtain⟨b,off,t,_⟩:=s 0 _ (Hn (show 0<(l.flatMap cv).length by omega));cases e;cases t
 |some ad=>
  clear h;have p:∀W:World,(binOp BinOp.eql 63 (.slice (some ad) l.length cap) (.slice none 0 0)).run Tryz.prog W=.ok (.bool false) W:=λ_=>by kernel_rfl
  have f:=r.out.old ((Kp.refl ae w).alloc (.cells #[] 106));have j:=aa f;clear f;go_enter Tryz.func99,Tryz.ntmps99
  go_wp2_with(first
   |(refine qk CX (.tmp 5) (.tmp 6) rfl rfl w.heap.size (qH w 106 5) rfl rfl j.out i.out (by omega) (by omega) (by simp) ?_;intro A B a c
     have g:=((Kp.refl ae w).alloc (.cells #[] 106)).grown c (λb u=>.inr (by cases u;exact Hm _));obtain⟨x,q,rfl⟩:=aN a;have k:=aa g;have m:=aa a
     clear a c g))
  go_ret;exact⟨_,rfl,by have:=m.out;simpa using this,k.out⟩
structure Rk where
 kind:Int
 fl:List dF
 tags:List Nat
 eZ:Nat
def k8(kind:Int)(f:dF):Nat:=if kind=3 then f.size else 0
structure Rk.Ok (r:Rk):Prop where
 kind:1<=r.kind/\r.kind<=3
 len:r.tags.length=r.fl.length
 few:1<=r.fl.length/\r.fl.length<=64
 DG:∀f∈r.fl,f.ok
 tok:∀t∈r.tags,t<18446744073709551616
 A6:r.eZ<18446744073709551616
def e0(n:Nat):Value:=.int .u64 n
def fN(w:World)(F:Nat->Prop)(rb:Nat)(r:Rk):Prop:=∃v1 v2,F=(λb=>b=rb\/v1.ownBlock=some b\/v2.ownBlock=some b)/\ag w rb [.int .i64 r.kind,v1,v2,.int .u64 r.eZ] 238/\
 w.ownsRow 0 106 5 v1 r.fl.length (r.fl.flatMap cv)/\w.ownsRow 0 38 1 v2 r.tags.length (r.tags.map e0)/\r.Ok
def fN.kp{T:Nat->Prop}{w w':World}{F:Nat->Prop}{rb:Nat}{r:Rk}(h:fN w F rb r)(k:Kp T w w')(c:∀b,F b->¬T b):fN w' F rb r:=by
 obtain⟨v1,v2,rfl,a,d,e,ok⟩:=h;exact⟨v1,v2,rfl,a.kp k (c _ (.inl rfl)),au d k (λb a=>c b (.inr (.inl a))),au e k (λb a=>c b (.inr (.inr a))),ok⟩
def fN.old{w w':World}{F:Nat->Prop}{rb:Nat}{r:Rk}(h:fN w F rb r)(k:Kp ae w w'):fN w' F rb r:=h.kp k (λ_ _ x=>x)
def fN.lt{w:World}{F:Nat->Prop}{rb:Nat}{r:Rk}(h:fN w F rb r){b:Nat}(a:F b):b<w.heap.size:=by
 obtain⟨v1,v2,rfl,c,d,e,ok⟩:=h;rcases a with rfl|a|a
 ·exact c.lt
 ·exact(an d a).2
 ·exact(an e a).2
def fN.ok{w:World}{F:Nat->Prop}{rb:Nat}{r:Rk}(h:fN w F rb r):r.Ok:=by
 obtain⟨_,_,_,_,_,_,ok⟩:=h;exact ok
structure A7 (w wr:World) (rb:Nat) (kind:Int) (l:List dF) (fv v2:Value) (k:Nat):Prop where
 blk:ag wr rb [.int .i64 kind,fv,v2,.int .u64 0] 238
 A8:wr.ownsRow w.heap.size 106 5 fv l.length (l.flatMap cv)
 own:wr.ownsRow w.heap.size 38 1 v2 k (((l.take k).map (k8 kind)).map e0)
 kp:Kp ae w wr
def Fw(kind:Int)(hk:1<=kind/\kind<=3)(l:List dF)(v:Value)(w:World)(h:Sl w v l.length 5 (l.flatMap cv))(K:dM l=0)(N:∀f∈l,f.ok):Calls Tryz.prog 68 #[.int .i64 kind,v] w λe w'=>∃F rb,e=.returned (.tuple #[.pointer (some ⟨rb,0,none⟩),.int .i64 0])/\fN w' F rb ⟨kind,l,l.map (k8 kind),0⟩/\(∀b,F b->w.heap.size<=b)/\Kp ae w w':=by
 obtain⟨ao,cap,rfl⟩:∃ao cap,v=.slice ao l.length cap:=by obtain⟨ao,cap,rfl,_⟩:=h.is;exact⟨_,_,rfl⟩
 have aF:=aa h;have hlen:1<=l.length/\l.length<=64/\(dV l).Nodup:=by
  unfold dM at K;split at K
  ·omega
  ·split at K
   ·rename_i h1 h2;exact⟨by omega,by omega,h2⟩
   ·omega
 have af:=aa N;have aH:¬kind<1:=by omega
 have aI:¬3<kind:=by omega
 have e1:((l.length:Int)==0)=false:=by rw[HM];omega
 have aG:¬(64:Int)<l.length:=by omega
 have ay:=aa (vW l hlen.2.1 (.slice ao l.length cap) w h);have ah:=aa (λW hs=>A5 l hlen.2.1 (by omega) (.slice ao l.length cap) W hs);have hd:(!decide (dV l).Nodup)=false:=by simp[hlen.2.2]
 rw[hd]at ay
 have ai:l.length<=64:=hlen.2.1;have az:=aa hlen.1;clear h K N hlen hd;have aB:=aa hk;clear hk;go_enter Tryz.func68,Tryz.ntmps68;go_wp2_with fail;refine(ay.out).mono ?_;rintro e w1 ⟨rfl,k1⟩;have Q:=aa k1;clear k1 ay;go_wp2_with fail;refine(ah.out _ (aF.out.old Q.out)).mono ?_;rintro e R ⟨fv,rfl,T,k2⟩;obtain⟨u,y,aC⟩:=aN T;subst aC;have U:=aa (Q.out.trans k2);have aj:=aa (gm T Q.out.size);clear k2 ah T;go_wp2_with fail;have L:=U.out.size;have z:ag (R.alloc (.cells #[.int .i64 kind,.slice u l.length y,.slice none 0 0,.int .u64 0] 238)) R.heap.size [.int .i64 kind,.slice u l.length y,.slice none 0 0,.int .u64 0] 238:=ag.new R [.int .i64 kind,.slice u l.length y,.slice none 0 0,.int .u64 0] 238;have O:Kp ae w (R.alloc (.cells #[.int .i64 kind,.slice u l.length y,.slice none 0 0,.int .u64 0] 238)):=U.out.alloc (.cells #[.int .i64 kind,.slice u l.length y,.slice none 0 0,.int .u64 0] 238);have ak:=au aj.out ((Kp.refl ae R).alloc (.cells #[.int .i64 kind,.slice u l.length y,.slice none 0 0,.int .u64 0] 238)) (λ_ _ x=>x);generalize R.alloc (.cells #[.int .i64 kind,.slice u l.length y,.slice none 0 0,.int .u64 0] 238)=w3 at*;obtain⟨rb,al⟩:∃rb,R.heap.size=rb:=⟨_,rfl⟩
 rw[al]at z L ⊢
 have ar:Hid (A7 w w3 rb kind l (.slice u l.length y) (.slice none 0 0) 0):=⟨z,ak,⟨rfl,.inl ⟨rfl,rfl⟩⟩,O⟩
 clear z O ak al U aj;go_loopw [36] (λi0 wr=>∃(k:Nat) (v2:Value),i0=.int .i64 k/\k<=l.length/\Hid (A7 w wr rb kind l (.slice u l.length y) v2 k)) (λi0 _=>l.length-(intOf i0).toNat)
 case atStart=>exact⟨0,_,rfl,by omega,ar.out⟩
 case round=>
  clear ar;obtain⟨k,v2,rfl,hk,A⟩:=hrel;by_cases av:k<l.length
  ·have aJ:(k:Int)<l.length:=by omega
   obtain⟨gx,ox,cx,e1,q⟩:=(aF.out.old A.out.kp).at fo (by decide) k av;injection e1 with e1 _ e3;subst e1 e3;have B:Hid (((l.take (k+1)).map (k8 kind)).map e0=((l.take k).map (k8 kind)).map e0++[.int .u64 (k8 kind l[k])]):=by
    show _=_;rw[HQ av,HE,HE];rfl
   obtain⟨f,hf⟩:∃f,l[k]=f:=⟨_,rfl⟩
   rw[hf]at q B
   have d0:=q 0 _ rfl;have d1:=q 1 _ rfl;have d2:=q 2 _ rfl;have d3:=q 3 _ rfl;have d4:=q 4 _ rfl;simp only[Ig]at d0;have aK:=A.out.kp.size;obtain⟨tg,C⟩:∃tg,k8 kind f=tg:=⟨_,rfl⟩
   rw[C]at B
   have V:=A.out.blk.alloc (.cells #[.int .u32 f.id,.int .u64 f.cost,.int .u64 f.bY,.int .u64 f.size,.int .u64 f.cap] 106);have c2:=V.aq;have P:=V.alloc (.cells #[.int .u64 tg] 38);have X:=aa P;have M:=((Kp.refl ae wr).alloc (.cells #[.int .u32 f.id,.int .u64 f.cost,.int .u64 f.bY,.int .u64 f.size,.int .u64 f.cap] 106)).alloc (.cells #[.int .u64 tg] 38);have D:=aa (au (S:=ae) A.out.own M (λ_ _ x=>x));have Y:=aa (au (S:=ae) A.out.A8 M (λ_ _ x=>x));have Z:=aa (A.out.kp.trans M);have aw:=aa (aA A.out.own A.out.blk (by decide));have ax:=aa (jW A.out.A8 A.out.own (by decide));clear q hf V P M;by_cases h3:kind=3
   ·have s:f.size=tg:=by rw[<-C];unfold k8;rw[Hl h3]
    have aD:(kind==3)=true:=by rw[Iq];exact h3
    rw[<-s]at B X D Y Z
    clear C s h3
    go_wp2_with(first
       |(refine eW vV (.tmp 48) (.tmp 50) rfl rfl w.heap.size (v:=v2) D.out [.int .u64 f.size] rfl rfl rfl (fr:=(0,0)) (jr _ _ (by simp)) rfl (by omega) (by omega) (by simp;omega) ?_;intro g8 d w8 g c
         have E:=Z.out.grown c (λb m=>.inr (an D.out m).1);have o:=X.out.grown c (λe=>aw.out e.symm);have G:=nG Y.out c (λb m e=>ax.out b m e);have x2:=o.aq;have z2:=o.fz 2;have ac:=aa E;have r:=aa o;have H:=aa g;have I:=aa G
         clear g c E o G))
    have i:=cG H.out (a:=⟨rb,2,none⟩) (λb m e=>aA H.out r.out (by decide) (by rw[m];exact HC some e)) (.slice (some ⟨g8,0,none⟩) (k+1) d);have j:=cG I.out (a:=⟨rb,2,none⟩) (λb m e=>aA I.out r.out (by decide) (by rw[m];exact HC some e)) (.slice (some ⟨g8,0,none⟩) (k+1) d);have J:A7 w (w8.setCell ⟨rb,2,none⟩ (.slice (some ⟨g8,0,none⟩) (k+1) d)) rb kind l (.slice u l.length y) (.slice (some ⟨g8,0,none⟩) (k+1) d) (k+1):=
     ⟨r.out.set 2 _,j,by rw[B.out];exact i,ac.out.set (p:=⟨rb,2,none⟩) (.inr L) _⟩
    have ad:=aa J;clear i J j;go_roundw
    case rel=>exact⟨k+1,_,by go_num,by omega,ad.out⟩
    case measure=>simp[intOf];omega
   ·have s:0=tg:=by rw[<-C];unfold k8;rw[Hk h3]
    have aD:(kind==3)=false:=by rw[HM];exact h3
    subst s;clear C h3
    go_wp2_with(first
       |(refine eW vV (.tmp 48) (.tmp 50) rfl rfl w.heap.size (v:=v2) D.out [.int .u64 0] rfl rfl rfl (fr:=(0,0)) (jr _ _ (by simp)) rfl (by omega) (by omega) (by simp;omega) ?_;intro g8 d w8 g c
         have E:=Z.out.grown c (λb m=>.inr (an D.out m).1);have o:=X.out.grown c (λe=>aw.out e.symm);have G:=nG Y.out c (λb m e=>ax.out b m e);have x2:=o.aq;have z2:=o.fz 2;have ac:=aa E;have r:=aa o;have H:=aa g;have I:=aa G
         clear g c E o G))
    have i:=cG H.out (a:=⟨rb,2,none⟩) (λb m e=>aA H.out r.out (by decide) (by rw[m];exact HC some e)) (.slice (some ⟨g8,0,none⟩) (k+1) d);have j:=cG I.out (a:=⟨rb,2,none⟩) (λb m e=>aA I.out r.out (by decide) (by rw[m];exact HC some e)) (.slice (some ⟨g8,0,none⟩) (k+1) d);have J:A7 w (w8.setCell ⟨rb,2,none⟩ (.slice (some ⟨g8,0,none⟩) (k+1) d)) rb kind l (.slice u l.length y) (.slice (some ⟨g8,0,none⟩) (k+1) d) (k+1):=
     ⟨r.out.set 2 _,j,by rw[B.out];exact i,ac.out.set (p:=⟨rb,2,none⟩) (.inr L) _⟩
    have ad:=aa J;clear i J j;go_roundw
    case rel=>exact⟨k+1,_,by go_num,by omega,ad.out⟩
    case measure=>simp[intOf];omega
  ·have aE:k=l.length:=by omega
   subst aE;go_wp2;go_ret2;have n:=A.out;refine⟨_,rb,rfl,⟨.slice u l.length y,v2,rfl,n.blk,gm n.A8 (Hv _),?_,⟨aB.out,by simp,⟨az.out,ai⟩,af.out,λt ht=> ?_,by show 0<_;omega⟩⟩,λb m=> ?_,n.kp⟩
   ·have:=gm n.own (Hv _);rw[H9]at this
    simpa using this
   ·obtain⟨f,hf,rfl⟩:=Hw.1 ht;have:=af.out f hf;unfold k8;split
    ·exact this.size
    ·omega
   ·rcases m with rfl|m|m
    ·exact L
    ·exact(an n.A8 m).1
    ·exact(an n.own m).1
def er(c:ey)(v:Value):List Value:=[.int .i64 c.ao,.int .i64 c.back,.int .i64 c.levels,.int .i64 c.aD,.int .i64 c.aB,.int .u64 c.bytes,.int .i64 c.share,.int .u64 c.ei,.int .u64 c.ax,.int .u64 c.aP,v]
def qI{c:ey}(h:c.aB<1\/4096<c.aB\/c.bytes=0\/c.share<0\/16<c.share):eX c=25:=by unfold eX;rw[Hl h]
def xm{c:ey}(h:¬(c.aB<1\/4096<c.aB\/c.bytes=0\/c.share<0\/16<c.share))(a:18446744073709551615/2^c.share.toNat<c.bytes):eX c=25:=by unfold eX;rw[Hk h,Hl a]
def yU{c:ey}(h:¬(c.aB<1\/4096<c.aB\/c.bytes=0\/c.share<0\/16<c.share))(a:¬18446744073709551615/2^c.share.toNat<c.bytes)(b:c.ei<1\/65535<c.ei):eX c=26:=by unfold eX;rw[Hk h,Hk a,Hl b]
def A9{c:ey}(h:¬(c.aB<1\/4096<c.aB\/c.bytes=0\/c.share<0\/16<c.share))(a:¬18446744073709551615/2^c.share.toNat<c.bytes)(b:¬(c.ei<1\/65535<c.ei)):eX c=dM c.av:=by unfold eX;rw[Hk h,Hk a,Hk b]
def lim(s:Nat):Nat:=18446744073709551615/2^s
def CY(c:ey)(t:c.ok)(v:Value)(w:World)(h:Sl w v c.av.length 5 (c.av.flatMap cv)):Calls Tryz.prog 90 #[.agg (er c v).toArray] w λe w'=>e=.returned (.int .i64 (eX c))/\Kp ae w w':=by
 have D:=aa (λW K=>DE c.av v W K);have H1:=aa (@qI c);have u:=aa (@xm c);have o:=aa (@yU c);have x:=aa (@A9 c);have E:=aa h;have F:=t.bytes;have G:=t.ei;unfold hO at F G;obtain⟨rk,bk,lv,qu,f,bt,sh,mt,rt,y,fl⟩:=c;unfold er;simp only at D H1 u o x E F G ⊢;clear h t;by_cases L:f<1
 ·have a:=aa (H1.out (.inl L));go_enter Tryz.func90,Tryz.ntmps90;go_wp2;go_ret;exact⟨by rw[a.out];rfl,(Kp.refl _ _).alloc _⟩
 ·by_cases M:4096<f
  ·have a:=aa (H1.out (.inr (.inl M)));go_enter Tryz.func90,Tryz.ntmps90;go_wp2;go_ret;exact⟨by rw[a.out];rfl,(Kp.refl _ _).alloc _⟩
  ·by_cases l:bt=0
   ·have a:=aa (H1.out (.inr (.inr (.inl l))));subst l;go_enter Tryz.func90,Tryz.ntmps90;go_wp2;go_ret;exact⟨by rw[a.out];rfl,(Kp.refl _ _).alloc _⟩
   ·have N:((bt:Int)==0)=false:=by rw[HM];omega
    by_cases O:sh<0
    ·have a:=aa (H1.out (.inr (.inr (.inr (.inl O)))));clear l;go_enter Tryz.func90,Tryz.ntmps90;go_wp2;go_ret;exact⟨by rw[a.out];rfl,(Kp.refl _ _).alloc _⟩
    ·by_cases P:16<sh
     ·have a:=aa (H1.out (.inr (.inr (.inr (.inr P)))));clear l;go_enter Tryz.func90,Tryz.ntmps90;go_wp2;go_ret;exact⟨by rw[a.out];rfl,(Kp.refl _ _).alloc _⟩
     ·obtain⟨s,rfl⟩:∃s:Nat,sh=s:=⟨sh.toNat,by omega⟩
      have q:Hid (¬(f<1\/4096<f\/bt=0\/(s:Int)<0\/16<(s:Int))):=by show ¬_;omega
      rw[HZ]at u o x
      have H:s<=16:=by omega
      clear l;have I:(18446744073709551615:Int)/2^s=(lim s:Nat):=by unfold lim;rw[Int.natCast_ediv,Int.natCast_pow];rfl
      have g:=ag.new w (er ⟨rk,bk,lv,qu,f,bt,s,mt,rt,y,fl⟩ v) 65;have i:=(Kp.refl ae w).alloc (.cells (er ⟨rk,bk,lv,qu,f,bt,s,mt,rt,y,fl⟩ v).toArray 65);unfold er at g i;have Q:=aa I;have m:=aa g;have n:=aa i;clear I g i;go_enter Tryz.func90,Tryz.ntmps90;go_wp2;go_quiet (fail)
      rw[Q.out];have j:=m.out.drewN nq;have b:=aa (n.out.drewN nq);have S:=j.eN;have R:=j.eR;clear j m n;generalize (w.alloc (.cells #[.int .i64 rk,.int .i64 bk,.int .i64 lv,.int .i64 qu,.int .i64 f,.int .u64 bt,.int .i64 s,.int .u64 mt,.int .u64 rt,.int .u64 y,v] 65)).drewN nq=w1 at*;by_cases r:lim s<bt
      ·have a:=aa (u.out q.out r);have d:decide (((lim s:Nat):Int)<(bt:Int))=true:=by rw[decide_eq_true_iff];omega
       rw[d];clear d r;go_wp2;go_ret;exact⟨by rw[a.out];rfl,b.out⟩
      ·have d:decide (((lim s:Nat):Int)<(bt:Int))=false:=by rw[Io];omega
       have k:=aa r;rw[d];clear d r;by_cases z:mt<1
       ·have a:=aa (o.out q.out k.out (.inl z));have A:(mt:Int)<1:=by omega
        go_wp2;go_ret;exact⟨by rw[a.out];rfl,b.out⟩
       ·have A:¬(mt:Int)<1:=by omega
        by_cases J:65535<mt
        ·have a:=aa (o.out q.out k.out (.inr J));have B:(65535:Int)<mt:=by omega
         clear z;go_wp2;go_ret;exact⟨by rw[a.out];rfl,b.out⟩
        ·have a:=aa (x.out q.out k.out (by omega));have B:¬(65535:Int)<mt:=by omega
         clear z J;go_wp2_with fail;refine(D.out _ (E.out.old b.out)).mono ?_;rintro e T ⟨⟨p,rfl⟩,k2⟩;have C:=aa (b.out.trans k2);clear k2;go_wp2;go_ret;exact⟨by rw[a.out];rfl,C.out⟩
def qJ{c:ey}(h:c.ao<1\/3<c.ao\/c.back<1\/3<c.back):dr c=22:=by unfold dr;rw[Hl h]
def tg{c:ey}(h:¬(c.ao<1\/3<c.ao\/c.back<1\/3<c.back))(a:c.levels<1\/3<c.levels):dr c=23:=by unfold dr;rw[Hk h,Hl a]
def yV{c:ey}(h:¬(c.ao<1\/3<c.ao\/c.back<1\/3<c.back))(a:¬(c.levels<1\/3<c.levels))(b:c.aD<1\/32<c.aD):dr c=24:=by unfold dr;rw[Hk h,Hk a,Hl b]
def xn{c:ey}(h:¬(c.ao<1\/3<c.ao\/c.back<1\/3<c.back))(a:¬(c.levels<1\/3<c.levels))(b:¬(c.aD<1\/32<c.aD)):dr c=if eX c≠0 then eX c else if c.ax=0 then 27 else if c.aP<c.ei then 28 else 0:=by unfold dr;rw[Hk h,Hk a,Hk b]
def yW(c:ey)(o:c.ok)(v:Value)(w:World)(h:Sl w v c.av.length 5 (c.av.flatMap cv)):Calls Tryz.prog 61 #[.agg (er c v).toArray] w λe w'=>e=.returned (.int .i64 (dr c))/\Kp ae w w':=by
 have p:=aa (λW E=>CY c o v W E);have H1:=aa (@qJ c);have u:=aa (@tg c);have y:=aa (@yV c);have z:=aa (@xn c);have B:=aa h;have C:=o.ei;have b8:=o.ax;have D:=o.aP;unfold hO at C b8 D;obtain⟨ad,q⟩:∃a,eX c=a:=⟨_,rfl⟩
 rw[q]at p z
 clear q;obtain⟨rk,bk,lv,qu,n,bt,sh,mt,rt,f,fl⟩:=c;unfold er at p ⊢;simp only at p H1 u y z B C b8 D ⊢;clear h o;by_cases F:rk<1
 ·have b:=aa (H1.out (.inl F));go_enter Tryz.func61,Tryz.ntmps61;go_wp2;go_ret;exact⟨by rw[b.out];rfl,(Kp.refl _ _).alloc _⟩
 ·by_cases G:3<rk
  ·have b:=aa (H1.out (.inr (.inl G)));go_enter Tryz.func61,Tryz.ntmps61;go_wp2;go_ret;exact⟨by rw[b.out];rfl,(Kp.refl _ _).alloc _⟩
  ·by_cases H:bk<1
   ·have b:=aa (H1.out (.inr (.inr (.inl H))));go_enter Tryz.func61,Tryz.ntmps61;go_wp2;go_ret;exact⟨by rw[b.out];rfl,(Kp.refl _ _).alloc _⟩
   ·by_cases I:3<bk
    ·have b:=aa (H1.out (.inr (.inr (.inr I))));go_enter Tryz.func61,Tryz.ntmps61;go_wp2;go_ret;exact⟨by rw[b.out];rfl,(Kp.refl _ _).alloc _⟩
    ·have d:Hid (¬(rk<1\/3<rk\/bk<1\/3<bk)):=by show ¬_;omega
     by_cases J:lv<1
     ·have b:=aa (u.out d.out (.inl J));go_enter Tryz.func61,Tryz.ntmps61;go_wp2;go_ret;exact⟨by rw[b.out];rfl,(Kp.refl _ _).alloc _⟩
     ·by_cases K:3<lv
      ·have b:=aa (u.out d.out (.inr K));go_enter Tryz.func61,Tryz.ntmps61;go_wp2;go_ret;exact⟨by rw[b.out];rfl,(Kp.refl _ _).alloc _⟩
      ·have k:Hid (¬(lv<1\/3<lv)):=by show ¬_;omega
       by_cases L:qu<1
       ·have b:=aa (y.out d.out k.out (.inl L));go_enter Tryz.func61,Tryz.ntmps61;go_wp2;go_ret;exact⟨by rw[b.out];rfl,(Kp.refl _ _).alloc _⟩
       ·by_cases M:32<qu
        ·have b:=aa (y.out d.out k.out (.inr M));go_enter Tryz.func61,Tryz.ntmps61;go_wp2;go_ret;exact⟨by rw[b.out];rfl,(Kp.refl _ _).alloc _⟩
        ·have g:=aa (z.out d.out k.out (by omega));have l:=ag.new w (er ⟨rk,bk,lv,qu,n,bt,sh,mt,rt,f,fl⟩ v) 65;have m:=(Kp.refl ae w).alloc (.cells (er ⟨rk,bk,lv,qu,n,bt,sh,mt,rt,f,fl⟩ v).toArray 65);unfold er at l m;have r:=aa l;have s:=aa m;clear l m H1 u y z;go_enter Tryz.func61,Tryz.ntmps61;go_wp2_with fail;refine(p.out _ (B.out.old s.out)).mono ?_;rintro e P ⟨rfl,k2⟩;have i:=aa (s.out.trans k2);have j:=r.out.kp k2 (λx=>x);have Q:=j.eN;have R:=j.eu;have S:=j.ea;clear k2 j r p;by_cases ha:ad=0
         ·subst ha;by_cases t:rt=0
          ·subst t;have b:Hid (dr ⟨rk,bk,lv,qu,n,bt,sh,mt,0,f,fl⟩=27):=by show _=_;rw[g.out];rfl
           go_wp2;go_ret;exact⟨by rw[b.out];rfl,i.out⟩
          ·have N:((rt:Int)==0)=false:=by rw[HM];omega
           by_cases hm:f<mt
           ·have b:Hid (dr ⟨rk,bk,lv,qu,n,bt,sh,mt,rt,f,fl⟩=28):=by show _=_;rw[g.out,Hk (by simp),Hk t,Hl hm]
            have A:(f:Int)<mt:=by omega
            clear t hm;go_wp2;go_ret;exact⟨by rw[b.out];rfl,i.out⟩
           ·have b:Hid (dr ⟨rk,bk,lv,qu,n,bt,sh,mt,rt,f,fl⟩=0):=by show _=_;rw[g.out,Hk (by simp),Hk t,Hk hm]
            have A:¬(f:Int)<mt:=by omega
            clear t hm;go_wp2;go_ret;exact⟨by rw[b.out];rfl,i.out⟩
         ·have b:Hid (dr ⟨rk,bk,lv,qu,n,bt,sh,mt,rt,f,fl⟩=ad):=by show _=_;rw[g.out,Hl ha]
          have O:(ad != 0)=true:=by simpa using ha
          clear ha;go_wp2;go_ret;exact⟨by rw[b.out];rfl,i.out⟩
def Rk.at(r:Rk)(id:Nat):Nat:=(findF r.fl id).toNat
def Rk.tag(r:Rk)(id:Nat):Nat:=r.tags.getD (r.at id) 0
def Rk.f(r:Rk)(id:Nat):dF:=r.fl.getD (r.at id) default
def Rk.setTag(r:Rk)(id t:Nat):Rk:= {r with tags:=r.tags.set (r.at id) t}
def dI(r:Rk)(now id n:Nat):Nat×Rk:=
 if r.kind=1 then(max r.eZ (r.tag id),r.setTag id (cH (max r.eZ (r.tag id)) (hV (r.f id).cost n)))
 else if r.kind=2 then(cH now (r.f id).bY,r)else(r.tag id,r.setTag id (r.tag id-n))
def lz(r:Rk)(ao:Nat):Rk:=if r.kind=1 then {r with eZ:=ao}else r
def Rk.Ok.setTag{r:Rk}(h:r.Ok)(id t:Nat)(ht:t<18446744073709551616):(r.setTag id t).Ok:=
 ⟨h.kind,by show(r.tags.set _ _).length=_;rw[Hr];exact h.len,h.few,h.DG,λx b=>by
  rcases Il b with a|a
  ·exact h.tok x a
  ·rw[a];exact ht,h.A6⟩
def Rk.Ok.tag{r:Rk}(h:r.Ok)(id:Nat):r.tag id<18446744073709551616:=by
 unfold Rk.tag;rw[Hx];by_cases a:r.at id<r.tags.length
 ·rw[Hn a];exact h.tok _ (Ht a)
 ·rw[H_ (by omega)];simp
def A_{w:World}{rb:Nat}{cs:List Value}(kind:Int)(x:Nat)(a:ag w rb cs 238)(d:cs[0]? =some (.int .i64 kind))(c:∃u,cs[3]? =some u):
    Calls Tryz.prog 109 #[.pointer (some ⟨rb,0,none⟩),.int .u64 x] w λe w'=>e=.returned (.tuple #[])/\ag w' rb (if kind=1 then cs.set 3 (.int .u64 x)else cs) 238/\Kp (λb=>b=rb) w w':=by
 obtain⟨u,c⟩:=c;have c0:=a.cell 0 d;have i:=a.cell 3 c;have cf:=a.fz 3;have f:=aa a;clear a d c;by_cases h:kind=1
 ·have g:(kind==1)=true:=by rw[Iq];exact h
  rw[Hl h];clear h;go_enter Tryz.func109,Tryz.ntmps109;go_wp2;go_end0;exact⟨rfl,f.out.set 3 _,(Kp.refl (λb=>b=rb) w).set (p:=⟨rb,3,none⟩) (.inl rfl) _⟩
 ·have g:(kind==1)=false:=by rw[HM];exact h
  rw[Hk h];clear h;go_enter Tryz.func109,Tryz.ntmps109;go_wp2;go_end0;exact⟨rfl,f.out,Kp.refl _ _⟩
def DH{w:World}{F:Nat->Prop}{rb:Nat}{r:Rk}(h:fN w F rb r)(x:Nat)(j:x<18446744073709551616):
    Calls Tryz.prog 109 #[.pointer (some ⟨rb,0,none⟩),.int .u64 x] w λe w'=>e=.returned (.tuple #[])/\fN w' F rb (lz r x)/\Kp F w w':=by
 obtain⟨v1,v2,rfl,a,f,g,ok⟩:=h;refine(A_ r.kind x a rfl ⟨_,rfl⟩).mono ?_;rintro e w' ⟨he,c,d⟩;have n1:=aA f a (by decide);have n2:=aA g a (by decide);refine⟨he,?_,d.mono (λb _ e=>.inl e)⟩;unfold lz;by_cases i:r.kind=1
 ·rw[Hl i]at c ⊢
  exact⟨v1,v2,rfl,c,au f d (λb a e=>n1 (by rw[a,e])),au g d (λb a e=>n2 (by rw[a,e])),⟨ok.kind,ok.len,ok.few,ok.DG,ok.tok,j⟩⟩
 ·rw[Hk i]at c ⊢
  exact⟨v1,v2,rfl,c,au f d (λb a e=>n1 (by rw[a,e])),au g d (λb a e=>n2 (by rw[a,e])),ok⟩
def Ba{w:World}{rb:Nat}
 (g1 g2 cap1 b m1 m2 q:Nat) (kind:Int) (eZ tag cost bY now id n:Nat) (c0:w.cell? ⟨rb,0,none⟩=some (.int .i64 kind)) (c1:w.cell? ⟨rb,1,none⟩=some (.slice (some ⟨g1,0,none⟩) m1 cap1)) (i:w.cell? ⟨rb,2,none⟩=some (.slice (some ⟨g2,0,none⟩) m2 b)) (j:w.cell? ⟨rb,3,none⟩=some (.int .u64 eZ)) (l:w.cell? ⟨g2,q,none⟩=some (.int .u64 tag)) (m:w.cell? ⟨g1,q*5+1,none⟩=some (.int .u64 cost)) (cb:w.cell? ⟨g1,q*5+2,none⟩=some (.int .u64 bY)) (p:q<m1) (r:q<m2) (hm:m1<=64/\m2<=64) (f:w.frozen? ⟨g2,q,none⟩=false)
 (g:∀W y,Kp ae w W->W.cell? ⟨y,0,none⟩=some (.int .u32 id)->Calls Tryz.prog 131 #[.slice (some ⟨g1,0,none⟩) m1 cap1,.func (.func 132) #[] #[.pointer (some ⟨y,0,none⟩)]] W λe w'=>e=.returned (.int .i64 q)/\Kp ae W w')
 (s:kind=2) (o:now<18446744073709551616) (c:bY<18446744073709551616):
    Calls Tryz.prog 106 #[.pointer (some ⟨rb,0,none⟩),.int .u64 now,.int .u32 id,.int .u64 n] w λe w'=>e=.returned (.tuple #[.int .u64 (cH now bY),.int .i64 0])/\Kp ae w w':=by
 subst s;have t:=aa (λW=>sT now bY o c W);generalize cH now bY=R at*;have g:=aa (λW (k:Kp ae w W) (y:W.cell? ⟨w.heap.size,0,none⟩=some (.int .u32 (id:Int)))=>g W w.heap.size k y);have u:(q:Int)<m1:=by omega
 have v:(q:Int)<m2:=by omega
 clear o c f;have z:rb<w.heap.size:=Iy _ _ c0;go_enter Tryz.func106,Tryz.ntmps106;go_wp2_with fail;refine(g.out _ ((Kp.refl ae w).alloc _) ?_).mono ?_
 ·exact(ag.new w [.int .u32 id] 40).ai
 rintro e w1 ⟨rfl,d⟩;have a:=((Kp.refl ae w).alloc (.cells #[.int .u32 (id:Int)] 40)).trans d;have h:=aa a;have d0:=a.cell c0 (λx=>x);have d1:=a.cell c1 (λx=>x);have d2:=a.cell i (λx=>x);have d3:=a.cell j (λx=>x);have A:=a.cell l (λx=>x);have B:=a.cell m (λx=>x);have db:=a.cell cb (λx=>x);clear d a c0 c1 i j l m cb;go_wp2_with fail;refine(t.out _).mono ?_;rintro e w3 ⟨rfl,rfl⟩;go_wp2_with fail;go_ret2;exact⟨rfl,h.out⟩
def Bb{w:World}{rb:Nat}
 (g1 g2 cap1 d m1 m2 q:Nat) (kind:Int) (eZ tag cost bY now id n:Nat) (c0:w.cell? ⟨rb,0,none⟩=some (.int .i64 kind)) (c1:w.cell? ⟨rb,1,none⟩=some (.slice (some ⟨g1,0,none⟩) m1 cap1)) (r:w.cell? ⟨rb,2,none⟩=some (.slice (some ⟨g2,0,none⟩) m2 d)) (s:w.cell? ⟨rb,3,none⟩=some (.int .u64 eZ)) (i:w.cell? ⟨g2,q,none⟩=some (.int .u64 tag)) (t:w.cell? ⟨g1,q*5+1,none⟩=some (.int .u64 cost)) (cb:w.cell? ⟨g1,q*5+2,none⟩=some (.int .u64 bY)) (z:q<m1) (A:q<m2) (hm:m1<=64/\m2<=64) (b:w.frozen? ⟨g2,q,none⟩=false)
 (j:∀W y,Kp ae w W->W.cell? ⟨y,0,none⟩=some (.int .u32 id)->Calls Tryz.prog 131 #[.slice (some ⟨g1,0,none⟩) m1 cap1,.func (.func 132) #[] #[.pointer (some ⟨y,0,none⟩)]] W λe w'=>e=.returned (.int .i64 q)/\Kp ae W w')
 (B:kind=3) (ht:tag<18446744073709551616):
    Calls Tryz.prog 106 #[.pointer (some ⟨rb,0,none⟩),.int .u64 now,.int .u32 id,.int .u64 n] w λe w'=>e=.returned (.tuple #[.int .u64 tag,.int .i64 0])/\∃W,Kp ae w W/\w'=W.setCell ⟨g2,q,none⟩ (.int .u64 (tag-n:Nat)):=by
 subst B;have u:=aa (λW=>Fu tag n ht W)
 have C:Hid (∀W,Kp ae w W->W.frozen? ⟨g2,q,none⟩=false):=aa (λW k=>by
  have l:=Iy _ _ i;have:=k.block g2 l (λx=>x);unfold World.frozen? at b ⊢
  simp only[this];exact b)
 obtain⟨R,v⟩:∃R,tag-n=R:=⟨_,rfl⟩
 rw[v]at u ⊢
 have j:=aa (λW (k:Kp ae w W) (y:W.cell? ⟨w.heap.size,0,none⟩=some (.int .u32 (id:Int)))=>j W w.heap.size k y);have D:(q:Int)<m1:=by omega
 have E:(q:Int)<m2:=by omega
 clear ht v b;have F:rb<w.heap.size:=Iy _ _ c0;go_enter Tryz.func106,Tryz.ntmps106;go_wp2_with fail;refine(j.out _ ((Kp.refl ae w).alloc _) ?_).mono ?_
 ·exact(ag.new w [.int .u32 id] 40).ai
 rintro e w1 ⟨rfl,f⟩;have a:=((Kp.refl ae w).alloc (.cells #[.int .u32 (id:Int)] 40)).trans f;have m:=aa a;have d0:=a.cell c0 (λx=>x);have d1:=a.cell c1 (λx=>x);have d2:=a.cell r (λx=>x);have d3:=a.cell s (λx=>x);have o:=a.cell i (λx=>x);have G:=a.cell t (λx=>x);have db:=a.cell cb (λx=>x);clear f a c0 c1 r s i t cb;go_wp2_with fail;refine ar 8 (by kernel_rfl) (λ_ _ _ _ _ h=>h) ?_;simp only[aO]
 repeat((first
    |refine ay (by rfl) (by as_aux_lemma=>intro W p;have I:=p.cell d2 (λx=>x);have J:=p.cell o (λx=>x);go_simp;exact rfl) ?_
    |refine ah (by rfl) ?_
    |refine aR (by rfl) (by as_aux_lemma=>intro W;go_simp;exact⟨rfl,rfl⟩) (by intro W p;with_reducible first|exact(u.out W).mono λ_ _ h=>⟨h.1,h.2▸Kp.refl _ _⟩) ?_);simp only[Act.put,aH])
 intro H c;have g:=aa (m.out.trans c);have f0:=c.cell o (λx=>x);have fz:=C.out H g.out;clear c d0 d1 d2 d3 o G db;go_wp2_with fail;go_ret2;exact⟨rfl,_,g.out,rfl⟩
def Bc{w:World}{rb:Nat}
 (g1 g2 cap1 d m1 m2 q:Nat) (kind:Int) (eZ tag cost bY now id n:Nat) (c0:w.cell? ⟨rb,0,none⟩=some (.int .i64 kind)) (c1:w.cell? ⟨rb,1,none⟩=some (.slice (some ⟨g1,0,none⟩) m1 cap1)) (s:w.cell? ⟨rb,2,none⟩=some (.slice (some ⟨g2,0,none⟩) m2 d)) (t:w.cell? ⟨rb,3,none⟩=some (.int .u64 eZ)) (l:w.cell? ⟨g2,q,none⟩=some (.int .u64 tag)) (u:w.cell? ⟨g1,q*5+1,none⟩=some (.int .u64 cost)) (cb:w.cell? ⟨g1,q*5+2,none⟩=some (.int .u64 bY)) (D:q<m1) (E:q<m2) (hm:m1<=64/\m2<=64) (b:w.frozen? ⟨g2,q,none⟩=false)
 (m:∀W y,Kp ae w W->W.cell? ⟨y,0,none⟩=some (.int .u32 id)->Calls Tryz.prog 131 #[.slice (some ⟨g1,0,none⟩) m1 cap1,.func (.func 132) #[] #[.pointer (some ⟨y,0,none⟩)]] W λe w'=>e=.returned (.int .i64 q)/\Kp ae W w')
 (F:kind=1) (ht:tag<18446744073709551616) (G:eZ<18446744073709551616) (f:cost<18446744073709551616) (v:n<18446744073709551616):
    Calls Tryz.prog 106 #[.pointer (some ⟨rb,0,none⟩),.int .u64 now,.int .u32 id,.int .u64 n] w λe w'=>e=.returned (.tuple #[.int .u64 (max eZ tag:Nat),.int .i64 0])/\∃W,Kp ae w W/\w'=W.setCell ⟨g2,q,none⟩ (.int .u64 (cH (max eZ tag) (hV cost n))):=by
 subst F;have o:=aa (λW=>tf (max eZ tag) cost n (by omega) f v W)
 have H:Hid (∀W,Kp ae w W->W.frozen? ⟨g2,q,none⟩=false):=aa (λW k=>by
  have p:=Iy _ _ l;have:=k.block g2 p (λx=>x);unfold World.frozen? at b ⊢
  simp only[this];exact b)
 obtain⟨M,z⟩:∃M,max eZ tag=M:=⟨_,rfl⟩
 have I:max (eZ:Int) (tag:Int)=(M:Int):=by omega
 rw[z]at o ⊢
 obtain⟨R,A⟩:∃R,cH M (hV cost n)=R:=⟨_,rfl⟩
 rw[A]at o ⊢
 have m:=aa (λW (k:Kp ae w W) (y:W.cell? ⟨w.heap.size,0,none⟩=some (.int .u32 (id:Int)))=>m W w.heap.size k y);have J:(q:Int)<m1:=by omega
 have K:(q:Int)<m2:=by omega
 clear ht A b z G f v;have L:rb<w.heap.size:=Iy _ _ c0;go_enter Tryz.func106,Tryz.ntmps106;go_wp2_with fail;refine(m.out _ ((Kp.refl ae w).alloc _) ?_).mono ?_
 ·exact(ag.new w [.int .u32 id] 40).ai
 rintro e w1 ⟨rfl,g⟩;have a:=((Kp.refl ae w).alloc (.cells #[.int .u32 (id:Int)] 40)).trans g;have r:=aa a;have d0:=a.cell c0 (λx=>x);have d1:=a.cell c1 (λx=>x);have d2:=a.cell s (λx=>x);have d3:=a.cell t (λx=>x);have B:=a.cell l (λx=>x);have C:=a.cell u (λx=>x);have db:=a.cell cb (λx=>x);clear g a c0 c1 s t l u cb;go_wp2_with fail;refine ar 16 (by kernel_rfl) (λ_ _ _ _ _ h=>h) ?_;simp only[aO]
 repeat((first
    |refine ay (by rfl) (by as_aux_lemma=>intro W j;have O:=j.cell d2 (λx=>x);have P:=j.cell d1 (λx=>x);have Q:=j.cell C (λx=>x);go_simp;exact rfl) ?_
    |refine ah (by rfl) ?_
    |refine aR (by rfl) (by as_aux_lemma=>intro W;go_simp;exact⟨rfl,rfl⟩) (by intro W j;with_reducible first|exact(o.out W).mono λ_ _ h=>⟨h.1,h.2▸Kp.refl _ _⟩) ?_);simp only[Act.put,aH])
 intro N c;have i:=aa (r.out.trans c);have f0:=c.cell B (λx=>x);have fz:=H.out N i.out;clear c d0 d1 d2 d3 B C db;go_wp2_with fail;go_ret2;exact⟨rfl,_,i.out,rfl⟩
def DI{w:World}{F:Nat->Prop}{rb:Nat}{r:Rk}(h:fN w F rb r)(now id n:Nat)(B:now<18446744073709551616)(K:n<18446744073709551616)(P:0<=findF r.fl id):
    Calls Tryz.prog 106 #[.pointer (some ⟨rb,0,none⟩),.int .u64 now,.int .u32 id,.int .u64 n] w λe w'=>e=.returned (.tuple #[.int .u64 (dI r now id n).1,.int .i64 0])/\fN w' F rb (dI r now id n).2/\(dI r now id n).1<18446744073709551616/\Kp F w w':=by
 obtain⟨v1,v2,rfl,d,A,l,ok⟩:=h;have L:=ky r.fl id;obtain⟨q,C⟩:∃q,r.at id=q:=⟨_,rfl⟩
 have D:findF r.fl id=(q:Int):=by have:(findF r.fl id).toNat=q:=C;omega
 have i:q<r.fl.length:=by omega
 have j:q<r.tags.length:=by rw[ok.len];exact i
 obtain⟨g1,cap1,M,_⟩:=aY A (by omega);obtain⟨g2,g,N,_⟩:=aY l (by omega);subst M N;have hf:r.f id=r.fl[q]:=by unfold Rk.f;rw[C,Hx,Hn i];rfl
 have E:r.tag id=r.tags[q]:=by unfold Rk.tag;rw[C,Hx,Hn j];rfl
 have o:=ok.DG _ (Ht i)
 have c:∀k u,(cv r.fl[q])[k]? =some u->w.cell? ⟨g1,q*5+k,none⟩=some u:=λk u hu=>bu A _ (by
  rw[flat_get cv 5 fo _ _ _ (by have:=(HD.1 hu).1;rwa [fo]at this),Hn i];exact hu)
 have t:w.cell? ⟨g2,q,none⟩=some (.int .u64 r.tags[q]):=bu l _ (by rw[H2,Hn j];rfl);have v:=ok.tok _ (Ht j);have G:Sl w (.slice (some ⟨g1,0,none⟩) r.fl.length cap1) r.fl.length 5 (r.fl.flatMap cv):=gG A;have H:∀W y,Kp ae w W->W.cell? ⟨y,0,none⟩=some (.int .u32 id)->Calls Tryz.prog 131 #[.slice (some ⟨g1,0,none⟩) r.fl.length cap1,.func (.func 132) #[] #[.pointer (some ⟨y,0,none⟩)]] W λe w'=>e=.returned (.int .i64 q)/\Kp ae W w':=λW y k hy=>by
  have:=A4 r.fl id y _ W (G.old k) hy;rw[D]at this;exact this
 have z:=jW A l (by decide);have I:=aA l d (by decide);have s:∀T,T<18446744073709551616->∀w',(∃W,Kp ae w W/\w'=W.setCell ⟨g2,q,none⟩ (.int .u64 (T:Nat)))->fN w' (λb=>b=rb\/(Value.slice (some ⟨g1,0,none⟩) r.fl.length cap1).ownBlock=some b\/(Value.slice (some ⟨g2,0,none⟩) r.tags.length g).ownBlock=some b) rb (r.setTag id T)/\Kp (λb=>b=rb\/(Value.slice (some ⟨g1,0,none⟩) r.fl.length cap1).ownBlock=some b\/(Value.slice (some ⟨g2,0,none⟩) r.tags.length g).ownBlock=some b) w w':=λT O w' ⟨W,m,hw⟩=>by
  subst hw;have a1:=(d.kp m (λx=>x)).bJ (a:=⟨g2,q,none⟩) (λe=>I (by rw[e];rfl)) (.int .u64 (T:Int));have a2:=cG (au A m (λ_ _ x=>x)) (a:=⟨g2,q,none⟩) (λb d e=>z b d (by rw[e];rfl)) (.int .u64 (T:Int));have a3:=iG (au l m (λ_ _ x=>x)) q (.int .u64 (T:Int));refine⟨⟨_,_,?_,a1,a2,?_,ok.setTag id T O⟩,?_⟩
  ·rfl
  ·show World.ownsRow _ _ _ _ _ (r.tags.set _ _).length _;rw[Hr];have e:(r.setTag id T).tags.map e0=(r.tags.map e0).set q (.int .u64 (T:Int)):=by
    show(r.tags.set (r.at id) T).map e0=_;rw[C,Is];rfl
   rw[e];exact a3
  ·exact(m.mono (λ_ _ x=>x.elim)).set (p:=⟨g2,q,none⟩) (.inl (.inr (.inr rfl))) _
 have J:max r.eZ r.tags[q]<18446744073709551616:=by have:=ok.A6;omega
 unfold dI;rw[hf,E];by_cases k1:r.kind=1
 ·rw[Hl k1];refine(Bc g1 g2 cap1 g r.fl.length r.tags.length q r.kind r.eZ r.tags[q] r.fl[q].cost r.fl[q].bY now id n (d.ai) (d.aj) (d.aq) (d.aK) t (c 1 _ rfl) (c 2 _ rfl) i j ⟨ok.few.2,by rw[ok.len];exact ok.few.2⟩ (gH l _) H k1 v ok.A6 o.cost K).mono ?_;rintro e w' ⟨he,hw⟩;obtain⟨a,b⟩:=s _ (j3 _ _) w' hw;exact⟨he,a,J,b⟩
 ·rw[Hk k1];by_cases k2:r.kind=2
  ·rw[Hl k2];refine(Ba g1 g2 cap1 g r.fl.length r.tags.length q r.kind r.eZ r.tags[q] r.fl[q].cost r.fl[q].bY now id n (d.ai) (d.aj) (d.aq) (d.aK) t (c 1 _ rfl) (c 2 _ rfl) i j ⟨ok.few.2,by rw[ok.len];exact ok.few.2⟩ (gH l _) H k2 B o.bY).mono ?_;rintro e w' ⟨he,m⟩;exact⟨he,⟨_,_,rfl,d.kp m (λx=>x),au A m (λ_ _ x=>x),au l m (λ_ _ x=>x),ok⟩,j3 _ _,m.mono (λ_ _ x=>x.elim)⟩
  ·rw[Hk k2];have k3:r.kind=3:=by have:=ok.kind;omega
   refine(Bb g1 g2 cap1 g r.fl.length r.tags.length q r.kind r.eZ r.tags[q] r.fl[q].cost r.fl[q].bY now id n (d.ai) (d.aj) (d.aq) (d.aK) t (c 1 _ rfl) (c 2 _ rfl) i j ⟨ok.few.2,by rw[ok.len];exact ok.few.2⟩ (gH l _) H k3 v).mono ?_;rintro e w' ⟨he,hw⟩;obtain⟨a,b⟩:=s _ (by omega) w' hw;exact⟨he,a,v,b⟩
end
end Go.Proofs.YtincjochpkdnfaaGreatDoor
