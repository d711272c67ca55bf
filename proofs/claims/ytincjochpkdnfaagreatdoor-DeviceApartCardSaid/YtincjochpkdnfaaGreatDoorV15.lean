/- A heap (layer 9) as the list of what waits, in order. -/
import Derived.Test.YtincjochpkdnfaaGreatDoorV3
import Derived.Test.YtincjochpkdnfaaGreatDoorV8
set_option linter.all false
set_option maxHeartbeats 1000000
namespace Go.Proofs.YtincjochpkdnfaaGreatDoor
section
open Go Go.RowKit Go.Shelf
def Hp(w:World)(F:Nat->Prop)(a room n:Nat)(S:List (En Pk)):Prop:=∃vc l,F=HF a vc/\gT w 0 a vc n room l/\lV iO n l S/\S.length<=room/\room<=4096
def Hp.kp{T:Nat->Prop}{w w':World}{F:Nat->Prop}{a room n:Nat}{S:List (En Pk)}(h:Hp w F a room n S)(k:Kp T w w')(c:∀b,F b->¬T b):Hp w' F a room n S:=by
 obtain⟨vc,l,rfl,hm,d⟩:=h;exact⟨vc,l,rfl,hm.kp k c,d⟩
def Hp.old{w w':World}{F:Nat->Prop}{a room n:Nat}{S:List (En Pk)}(h:Hp w F a room n S)(k:Kp ae w w'):Hp w' F a room n S:=h.kp k (λ_ _ x=>x)
def Hp.lt{w:World}{F:Nat->Prop}{a room n:Nat}{S:List (En Pk)}(h:Hp w F a room n S){b:Nat}(hF:F b):b<w.heap.size:=by
 obtain⟨vc,l,rfl,hm,c⟩:=h;exact hm.lt hF
def zs(room:Nat)(d:1<=room)(c:room<=4096)(w:World):Calls Tryz.prog 93 #[.int .i64 room] w λe w'=>∃a F,e=.returned (.tuple #[.pointer (some ⟨a,0,none⟩),.int .i64 0])/\Hp w' F a room 0 []/\(∀b,F b->w.heap.size<=b)/\Kp ae w w':=by
 refine(Fm room d c w).mono ?_;rintro e w' ⟨a,he,hm,f,g⟩;refine⟨a,_,he,⟨.slice none 0 0,[],rfl,⟨hm.top,rfl,.inl ⟨rfl,rfl⟩⟩,lV.nil _ _,Hv _,c⟩,λb h=> ?_,g⟩;rcases h with rfl|h
 ·exact f
 ·simp[Value.ownBlock]at h
def r4{w:World}{F:Nat->Prop}{c room n:Nat}{S:List (En Pk)}(h:Hp w F c room n S)(p:S.length<room)(q:n<9223372036854775807)(r fl id ln:Nat):
    Calls Tryz.prog 191 #[.pointer (some ⟨c,0,none⟩),.int .u64 r,.agg #[.int .u32 fl,.int .u32 id,.int .u64 ln]] w λe w'=>e=.returned (.bool true)/\∃m,Hp w' m c room (n+1) (dU S ⟨r,n,⟨fl,id,ln⟩⟩)/\Kp F w w'/\Nw w F m:=by
 obtain⟨vc,l,rfl,hm,f,y,o⟩:=h;refine(Dx w 0 c vc n room l hm (Hv _) (by rw[f.len];exact p) o q f.heap r ⟨fl,id,ln⟩).mono ?_;rintro e w' ⟨he,d,s,i,t,hp,u,j⟩;have v:=f.push rfl hp t;refine⟨he,HF c d,⟨d,s,rfl,i,v,?_,o⟩,u,λb a=> ?_⟩
 ·rw[(dE _ S).length_eq,Hs];omega
 ·rcases a with rfl|a
  ·exact .inl (.inl rfl)
  ·rcases j with j|⟨g,x,k⟩
   ·exact .inl (.inr (by rw[<-j];exact a))
   ·rw[x]at a;injection a with a;subst a;exact .inr k
def hg(S:List (En Pk)):En Pk×Bool:=match S with| []=>(iO,false)|s::_=>(s,true)
def mi{w:World}{F:Nat->Prop}{a room n:Nat}{S:List (En Pk)}(h:Hp w F a room n S):
    Calls Tryz.prog 189 #[.pointer (some ⟨a,0,none⟩)] w λe w'=>e=.returned (.tuple #[.int .u64 (hg S).1.ao,.agg (ix (hg S).1.x).toArray,.bool (hg S).2])/\Kp ae w w':=by
 obtain⟨vc,l,rfl,hm,b,i,j⟩:=h;cases S with
 |nil=>
  have d:l=[]:=IA (by rw[b.len];rfl);subst d;exact uF w 0 a vc n room hm
 |cons s T=>
  have c:0<l.length:=by rw[b.len,Hs];omega
  obtain⟨k,f⟩:=b.head c;injection f with g m;have:=o1 w 0 a vc n room l hm c (by rw[b.len];omega);rw[<-g]at this
  exact this
def vb{w:World}{F:Nat->Prop}{c room n:Nat}{s:En Pk}{T:List (En Pk)}(h:Hp w F c room n (s::T)):
    Calls Tryz.prog 190 #[.pointer (some ⟨c,0,none⟩)] w λe w'=>e=.returned (.tuple #[.int .u64 s.ao,.agg (ix s.x).toArray,.bool true])/\Hp w' F c room n T/\Kp F w w':=by
 obtain⟨vc,l,rfl,hm,a,k,m⟩:=h;have i:0<l.length:=by rw[a.len,Hs];omega
 obtain⟨v,j⟩:=a.head i;have d:=j;injection j with o p;subst p;refine(Fq w 0 c vc n room l hm i (by rw[a.len];omega) a.heap).mono ?_;rintro e w' ⟨he,f,q,g,r,hp,t,u⟩;rw[<-o]at he
 refine⟨he,⟨f,q,?_,g,a.pop d hp r,by rw[Hs]at k;omega,m⟩,t⟩;funext b;unfold HF;rw[u]
end
section
open Go Go.RowKit
def cV(e:En Pk):It:=⟨e.ao,e.x⟩
def at_(I:List It)(r:Nat):List It:=I.filter (λi=>decide (i.ao=r))
def gW(I:List It):Prop:=I.Pairwise (λa b=>a.ao<=b.ao)
def e2:List It->It->List It
 | [],x=>[x]
 |y::l,x=>if x.ao<y.ao then x::y::l else y::e2 l x
def jw(x:It):∀I:List It,(e2 I x).Perm (x::I)
 | []=>List.Perm.refl _
 |y::l=>by
  unfold e2;split
  ·exact List.Perm.refl _
  ·exact((jw x l).cons y).trans (List.Perm.swap _ _ _)
def hE(x:It)(I:List It):(e2 I x).length=I.length+1:=by rw[(jw x I).length_eq,Hs]
def kK{x y:It}{I:List It}:y∈e2 I x↔y=x\/y∈I:=by rw[(jw x I).mem_iff,Ho]
def hG{x:It}:∀ {I:List It},gW I->gW (e2 I x)
 | [],_=>by unfold e2 gW;simp
 |y::l,h=>by
  unfold gW at h;rw[HJ]at h
  unfold e2;split
  ·rename_i b;unfold gW;rw[HJ,HJ];refine⟨λa ha=> ?_,h.1,h.2⟩;rcases Ho.1 ha with rfl|ha
   ·omega
   ·have:=h.1 a ha;omega
  ·rename_i b;have c:=hG (x:=x) (I:=l) h.2;unfold gW at c ⊢;rw[HJ];refine⟨λa ha=> ?_,c⟩;rcases kK.1 ha with rfl|ha
   ·omega
   ·exact h.1 a ha
def at_nil{I:List It}{r:Nat}:at_ I r=[]↔∀i∈I,i.ao≠r:=by
 unfold at_;rw[KT];simp
def kg(x:It)(I:List It)(r:Nat):at_ (x::I) r=if x.ao=r then x::at_ I r else at_ I r:=by
 unfold at_;rw[List.filter_cons];simp
def tw{x:It}(r:Nat):∀ {I:List It},gW I->at_ (e2 I x) r=at_ I r++(if x.ao=r then[x]else[])
 | [],_=>by unfold e2;rw[kg];simp[at_]
 |y::l,h=>by
  unfold gW at h;rw[HJ]at h
  unfold e2;split
  ·rename_i a;rw[kg];by_cases e:x.ao=r
   ·have:at_ (y::l) r=[]:=by
     rw[at_nil];intro i hi;rcases Ho.1 hi with rfl|hi
     ·omega
     ·have:=h.1 i hi;omega
    rw[Hl e,Hl e,this];rfl
   ·rw[Hk e,Hk e,HH]
  ·rw[kg,kg,tw r h.2];split<;>rfl
def hH(e:En Pk):∀S:List (En Pk),(dU S e).map cV=e2 (S.map cV) (cV e)
 | []=>rfl
 |y::l=>by
  unfold dU;simp only[HA];unfold e2;show _=if e.ao<y.ao then _ else _;split
  ·rfl
  ·rw[HA,hH e l]
end
namespace cq
open Go Go.RowKit
section
variable {α:Type}
def bp(R:RP α)(q:Int):List (Option α):=(R.q q).map R.find
def dX{R:RP α}{q:Int}:bp R q=[]↔R.q q=[]:=by unfold bp;simp
def mj{k:Int}:∀ {l:List Int},l.Nodup->k∈l->(l.filter (·!= k)).length+1=l.length
 | [],_,h=>by cases h
 |a::r,c,hm=>by
  rw[H6]at c
  by_cases e:a=k
  ·subst e;have:r.filter (·!= a)=r:=by rw[JF];intro b d;simp;rintro rfl;exact c.1 d
   rw[KS (by simp),this];rfl
  ·have f:k∈r:=by
    rcases Ho.1 hm with h|h
    ·exact absurd h.symm e
    ·exact h
   rw[KQ (by simpa using e),Hs,mj c.2 f];rfl
def kI{S:PS α}{R:RP α}(h:Rel S R)(x:α)(u:(R.items.length:Int)<S.aT)(d:Int)(hd:0<=d/\d<S.qs.length):
    ∃k S' R',(S.take x).2=(k,true)/\(S.take x).1.append d k=(S',0)/\Rel S' R'/\S'.aT=S.aT/\S'.qs.length=S.qs.length/\R'.items.length=R.items.length+1/\R'.bA.length=R.bA.length+1/\
     ∀e,bp R' e=bp R e++(if e=d then[some x]else[]):=by
 obtain⟨t1,t2⟩:=h.take x;obtain⟨k,R1,r,i,j,o,s⟩:∃k R1,R.take x=(R1,k,true)/\R1.items=R.items++[(k,x)]/\R1.bA=R.bA/\R1.aD=R.aD/\R1.aT=R.aT:=by
  unfold RP.take;rw[Hk (by rw[h.aT];omega)];cases R.back.getLast? with
  |none=>exact⟨_,_,rfl,rfl,rfl,rfl,rfl⟩
  |some b=>exact⟨_,_,rfl,rfl,rfl,rfl,rfl⟩
 rw[r]at t1 t2
 have f:=t1.hq;rw[i,HE,Ib]at f
 have g:∀p∈R.items,p.1≠k:=λp hp=>f.2.2 p.1 (Hw.2 ⟨p,hp,rfl⟩) k (by simp);have hf:∀e,R1.find e=if e=k then some x else R.find e:=λe=>jo R1 R.items k x e i g;have l:R.find k=none:=by
  cases m:R.find k with
  |none=>rfl
  |some y=>exact absurd rfl (g _ (lx m))
 have a:k∉R.bA.map (·.2):=λhm=>by
  obtain⟨c,t⟩:=I5.1 (h.dN k hm);have:=h.find k;rw[t,l]at this;cases this
 obtain⟨a1,a2⟩:=t1.append d k;have ha:R1.append d k=({R1 with bA:=R1.bA++[(d,k)]},0):=by
  unfold RP.append;rw[Hk (by rw[o,h.aD];omega),hf,Hl rfl];simp only;rw[Hk (by rw[j];exact a)]
 rw[ha]at a1 a2
 refine⟨k,((S.take x).1.append d k).1,{R1 with bA:=R1.bA++[(d,k)]},t2,?_,a1,?_,?_,?_,?_,λe=> ?_⟩
 ·exact Prod.ext rfl a2
 ·rw[<-a1.aT,<-h.aT];exact s
 ·have b1:=a1.aD;have b2:=h.aD;simp only at b1;rw[o,b2]at b1;omega
 ·show R1.items.length=_;rw[i];simp
 ·show(R1.bA++[(d,k)]).length=_;rw[j];simp
 ·unfold bp;rw[vQ];have n:R1.q e=R.q e:=by unfold RP.q;rw[j]
  have hm:(R.q e).map (RP.find {R1 with bA:=R1.bA++[(d,k)]})=(R.q e).map R.find:=by
   refine Jc (λz hz=> ?_);show R1.find z=_;rw[hf,Hk (λm=>a (by rw[<-m];exact q_in hz))]
  rw[n];split
  ·rw[HE,hm];congr 1;show[R1.find k]=_;rw[hf,Hl rfl]
  ·rw[hm,HH]
def BF{S:PS α}{R:RP α}(h:Rel S R)(z:α)(d:Int){k:Int}{r:List Int}(m:R.q d=k::r):
    ∃x A S2 R2,R.find k=some x/\S.pop d=(A,k,true)/\A.hl z k=(S2,x,0)/\Rel A {R with bA:=R.bA.filter (λp=>p.2 != k)}/\Rel S2 R2/\S2.aT=S.aT/\S2.qs.length=S.qs.length/\A.qs.length=S.qs.length/\
     R2.items.length+1=R.items.length/\R2.bA.length+1=R.bA.length/\R2.q d=r/\(∀e,e≠d->R2.q e=R.q e)/\∀e,bp R2 e=if e=d then(bp R e).tail else bp R e:=by
 obtain⟨s,B⟩:=h.pop d;have hp:R.pop d=({R with bA:=R.bA.filter (λp=>p.2 != k)},k,true):=by unfold RP.pop;rw[m]
 rw[hp]at s B
 have g:k∈R.bA.map (·.2):=q_in (q:=d) (by rw[m];simp);obtain⟨c,H⟩:=I5.1 (h.dN k g);have n:R.find k=some c.x:=by rw[<-h.find k,H];rfl
 obtain⟨g1,g2⟩:=s.hl z k;have t:k∉(R.bA.filter (λp=>p.2 != k)).map (·.2):=λhm=>by
  obtain⟨p,hp,e⟩:=Hw.1 hm;have:=(Ie.1 hp).2;simp[e]at this
 have I:RP.hl {R with bA:=R.bA.filter (λp=>p.2 != k)} z k=({R with bA:=R.bA.filter (λp=>p.2 != k),items:=R.items.filter (λp=>p.1 != k),back:=R.back++[k]},c.x,0):=by
  unfold RP.hl;have:RP.find {R with bA:=R.bA.filter (λp=>p.2 != k)} k=some c.x:=n;rw[this];simp only;rw[Hk t]
 rw[I]at g1 g2
 have b:(R.q d).Nodup:=by unfold RP.q;exact h.dz.sublist (J3.map _)
 have i:∀l:List Int,k∉l->l.filter (·!= k)=l:=λl J=>by
  rw[JF];intro a ha;simp;rintro rfl;exact J ha
 have u:RP.q {R with bA:=R.bA.filter (λp=>p.2 != k)} d=r:=by
  rw[kE R h.dz,m];rw[m,H6]at b
  rw[KS (by simp),i r b.1]
 have o:∀e,e≠d->RP.q {R with bA:=R.bA.filter (λp=>p.2 != k)} e=R.q e:=λe he=>by
  rw[kE R h.dz];refine i _ (λhm=>he ?_);have j:k∈R.q d:=by rw[m];simp
  unfold RP.q at hm j;obtain⟨s,C,f⟩:=Hw.1 hm;obtain⟨B,D,v⟩:=Hw.1 j;have m1:=(Ie.1 C);have m2:=(Ie.1 D)
  have:=fK h.dz m1.1 m2.1 (f.trans v.symm);subst this;have a1:=m1.2;have a2:=m2.2;simp at a1 a2;exact a1.symm.trans a2
 have w:∀e,e≠k->RP.find {R with bA:=R.bA.filter (λp=>p.2 != k),items:=R.items.filter (λp=>p.1 != k),back:=R.back++[k]} e=R.find e:=λe he=>by
  unfold RP.find;simp only;rw[List.find?_filter];congr 2;funext p
  by_cases f:p.1=e
  ·simp[f,he]
  ·simp[f]
 refine⟨c.x,(S.pop d).1,(PS.hl (S.pop d).1 z k).1,_,n,Prod.ext rfl B,Prod.ext rfl g2,s,g1,?_,?_,?_,?_,?_,u,o,λe=> ?_⟩
 ·rw[<-g1.aT,<-h.aT]
 ·have b1:=g1.aD;have b2:=h.aD;simp only at b1;rw[b2]at b1;omega
 ·have b1:=s.aD;have b2:=h.aD;simp only at b1;rw[b2]at b1;omega
 ·exact nL R.items k c.x h.hq (lx n)
 ·have E:=mj h.dz g;rw[KX]at E
  simp only[Hq]at E;exact E
 ·unfold bp;split
  ·rename_i f;subst f;have v:RP.q {R with bA:=R.bA.filter (λp=>p.2 != k),items:=R.items.filter (λp=>p.1 != k),back:=R.back++[k]} e=r:=u;rw[v,m,HA,Kr];refine Jc (λy hy=>w y (λF=> ?_));rw[m,H6]at b
   exact b.1 (by rw[<-F];exact hy)
  ·rename_i f;have v:RP.q {R with bA:=R.bA.filter (λp=>p.2 != k),items:=R.items.filter (λp=>p.1 != k),back:=R.back++[k]} e=R.q e:=o e f;rw[v];refine Jc (λy hy=>w y (λF=> ?_));have G:=o e f;rw[kE R h.dz]at G
   rw[<-G,Ie]at hy
   simp[F]at hy
end
end cq
namespace cq
open Go Go.RowKit
structure hh where
 base:Nat
 B:List (En Pk)
 A:List (En Pk)
 P:PS Pk
 R:RP Pk
 m:List Int
def xs(I:List It)(r:Nat):List (Option Pk):=(at_ I r).map (λi=>some i.x)
def ml{I:List It}{r:Nat}:xs I r=[]↔∀i∈I,i.ao≠r:=by unfold xs;rw[List.map_eq_nil_iff,at_nil]
def gX(x:It)(I:List It)(r:Nat):xs (x::I) r=if x.ao=r then some x.x::xs I r else xs I r:=by
 unfold xs;rw[kg];split<;>rfl
def e4{x:It}{I:List It}(h:gW I)(r:Nat):xs (e2 I x) r=xs I r++(if x.ao=r then[some x.x]else[]):=by
 unfold xs;rw[tw r h,HE];split<;>rfl
def pg{I:List It}{r:Nat}{i:It}(hi:i∈I)(a:i.ao=r):xs I r≠ []:=λh=>ml.1 h i hi a
def mm{I:List It}{r:Nat}(h:xs I r≠ []):∃i∈I,i.ao=r:=by
 apply Classical.byContradiction;intro a;exact h (ml.2 (λi hi b=>a ⟨i,hi,b⟩))
def bC(sz r:Nat):Int:=((r%sz:Nat):Int)
structure bR (sz room:Nat) (c:hh) (I:List It):Prop where
 rel:Rel c.P c.R
 qs:c.P.qs.length=sz
 aT:c.P.aT=(room:Int)
 hZ:64<=sz/\sz<=262144
 base:c.base<18446744073709551616
 gf:gW I
 e9:∀i∈I,i.ao<18446744073709551616
 low:∀r,r<c.base->xs I r=xs (c.B.map cV) r
 mn:∀r,c.base<=r->r<c.base+sz->xs I r=bp c.R (bC sz r)++xs (c.A.map cV) r
 aJ:∀r,c.base+sz<=r->xs I r=xs (c.A.map cV) r
 bin:∀s∈c.B,s.ao<c.base
 pj:∀s∈c.A,c.base<=s.ao
 sB:gW (c.B.map cV)
 sA:gW (c.A.map cV)
 days:∀d:Int,d∈c.m↔c.R.q d≠ []
 len:I.length=c.B.length+c.R.items.length+c.A.length
 oc:c.R.bA.length=c.R.items.length
 cap:I.length<=room
def Dn(sz:Nat)(c:hh):Prop:=∀s∈c.A,c.base+sz<=s.ao
def pk{S:List (En Pk)}{i:It}:i∈S.map cV↔∃s∈S,cV s=i:=by simp
def Dn.xs{sz:Nat}{c:hh}(h:Dn sz c){r:Nat}(b:r<c.base+sz):xs (c.A.map cV) r=[]:=by
 rw[ml];intro i hi e;obtain⟨s,a,rfl⟩:=pk.1 hi;have:=h s a;have d:s.ao=r:=e;omega
section
variable {sz room:Nat} {c:hh} {I:List It}
def bR.day(h:bR sz room c I)(r:Nat):0<=bC sz r/\bC sz r<(c.P.qs.length:Int):=by
 have:=h.hZ;have a:=Iw r (show 0<sz by omega);unfold bC;rw[h.qs];omega
def bR.C4(h:bR sz room c I){d:Int}(hd:d∈c.m):0<=d/\d<sz:=by
 have a:=(h.days d).1 hd;apply Classical.byContradiction;intro b;exact a (h.rel.yI (by rw[h.qs];exact b))
def mo{base r c:Nat}(f:base<=r)(g:r<base+sz)(h:base<=c)(i:c<base+sz)(e:bC sz r=bC sz c):r=c:=by
 unfold bC at e;have e:r%sz=c%sz:=by omega
 have a:=I8 r sz;have b:=I8 c sz;rw[e]at a
 rcases Ki (r/sz) (c/sz)with d|d|d
 ·have:=Nat.mul_le_mul_left sz (show r/sz+1<=c/sz by omega);rw[Nat.mul_add,Iu]at this;omega
 ·rw[d]at a;omega
 ·have:=Nat.mul_le_mul_left sz (show c/sz+1<=r/sz by omega);rw[Nat.mul_add,Iu]at this;omega
def bR.FY(h:bR sz room c I)(x:Pk)(r:Nat)(t:c.R.items.length<room):
    ∃k P' R',(c.P.take x).2=(k,true)/\(c.P.take x).1.append (bC sz r) k=(P',0)/\Rel P' R'/\P'.aT=c.P.aT/\P'.qs.length=c.P.qs.length/\R'.items.length=c.R.items.length+1/\R'.bA.length=c.R.bA.length+1/\
     (∀e,bp R' e=bp c.R e++(if e=bC sz r then[some x]else[]))/\∀d:Int,d∈(if bC sz r∈c.m then c.m else eP c.m (bC sz r))↔R'.q d≠ []:=by
 obtain⟨k,P',R',f,g,i,j,l,n,o,a⟩:=kI h.rel x (by rw[h.aT];omega) (bC sz r) (h.day r);refine⟨k,P',R',f,g,i,j,l,n,o,a,λd=> ?_⟩;have p:=a d;have s:(R'.q d≠ [])↔bp R' d≠ []:=by rw[ne_eq,ne_eq,dX]
 have b:d∈c.m↔bp c.R d≠ []:=by rw[h.days d,ne_eq,ne_eq,dX]
 rw[s,p];by_cases e:d=bC sz r
 ·rw[Hl e];have:bp c.R d++[some x]≠ []:=by simp
  simp only[this,ne_eq,not_false_iff,iff_true];split
  ·rw[e];assumption
  ·rw[hB];exact .inl e
 ·rw[Hk e,HH];split
  ·exact b
  ·rw[hB,or_iff_right e];exact b
def bR.tA(h:bR sz room c I)(hd:Dn sz c){x:It}(f:c.base<=x.ao)(g:x.ao<c.base+sz)(j:x.ao<18446744073709551616)(l:I.length<room){P':PS Pk}{R':RP Pk}{m':List Int}
    (a1:Rel P' R') (a2:P'.aT=c.P.aT) (a3:P'.qs.length=c.P.qs.length) (a4:R'.items.length=c.R.items.length+1) (a5:R'.bA.length=c.R.bA.length+1)
    (a6:∀e,bp R' e=bp c.R e++(if e=bC sz x.ao then[some x.x]else[])) (a7:∀d:Int,d∈m'↔R'.q d≠ []):
    bR sz room {c with P:=P',R:=R',m:=m'} (e2 I x)/\Dn sz {c with P:=P',R:=R',m:=m'}:=by
 refine⟨⟨a1,a3.trans h.qs,a2.trans h.aT,h.hZ,h.base,hG h.gf,λi hi=> ?_,λr a=> ?_,λr a b=> ?_,λr a=> ?_,h.bin,h.pj,h.sB,h.sA,a7,?_,?_,by rw[hE];omega⟩,hd⟩
 ·rcases kK.1 hi with rfl|hi
  ·exact j
  ·exact h.e9 i hi
 ·have a:r<c.base:=a;rw[e4 h.gf,Hk (by omega),HH];exact h.low r a
 ·have a:c.base<=r:=a;have b:r<c.base+sz:=b;show _=bp R' _++xs (c.A.map cV) r;rw[e4 h.gf,h.mn r a b,a6,hd.xs b,HH,HH];by_cases e:x.ao=r
  ·rw[Hl e,Hl (by rw[e])]
  ·rw[Hk e,Hk (λk=>e (mo f g a b k.symm))]
 ·have a:c.base+sz<=r:=a;rw[e4 h.gf,Hk (by omega),HH];exact h.aJ r a
 ·rw[hE];have:=h.len;show _=_+R'.items.length+_;rw[a4];show _=c.B.length+_+c.A.length;omega
 ·show R'.bA.length=R'.items.length;rw[a4,a5,h.oc]
def bR.zt(h:bR sz room c I)(hd:Dn sz c){e:En Pk}(d:e.ao<c.base)(j:I.length<room):bR sz room {c with B:=dU c.B e} (e2 I (cV e))/\Dn sz {c with B:=dU c.B e}:=by
 have f:(cV e).ao=e.ao:=rfl;have g:=h.base;refine⟨⟨h.rel,h.qs,h.aT,h.hZ,h.base,hG h.gf,λi hi=> ?_,λr a=> ?_,λr a b=> ?_,λr a=> ?_,λs b=> ?_,h.pj,?_,h.sA,h.days,?_,h.oc,by rw[hE];omega⟩,hd⟩
 ·rcases kK.1 hi with rfl|hi
  ·rw[f];omega
  ·exact h.e9 i hi
 ·show _=xs ((dU c.B e).map cV) r;rw[e4 h.gf,hH,e4 h.sB,h.low r a]
 ·have a:c.base<=r:=a;rw[e4 h.gf,Hk (by omega),HH];exact h.mn r a b
 ·have a:c.base+sz<=r:=a;rw[e4 h.gf,Hk (by omega),HH];exact h.aJ r a
 ·rcases Ho.1 ((dE e c.B).mem_iff.1 b)with rfl|b
  ·exact d
  ·exact h.bin s b
 ·show gW ((dU c.B e).map cV);rw[hH];exact hG h.sB
 ·rw[hE];have:=h.len;show _=(dU c.B e).length+_+_;rw[(dE e c.B).length_eq,Hs];show _=_+c.R.items.length+c.A.length;omega
def bR.zu(h:bR sz room c I)(hd:Dn sz c){e:En Pk}(d:c.base+sz<=e.ao)(f:e.ao<18446744073709551616)(j:I.length<room):bR sz room {c with A:=dU c.A e} (e2 I (cV e))/\Dn sz {c with A:=dU c.A e}:=by
 have k:(cV e).ao=e.ao:=rfl;have g:=h.hZ;have hm:∀s,s∈dU c.A e->s=e\/s∈c.A:=λs a=>Ho.1 ((dE e c.A).mem_iff.1 a);refine⟨⟨h.rel,h.qs,h.aT,h.hZ,h.base,hG h.gf,λi hi=> ?_,λr b=> ?_,λr b a=> ?_,λr b=> ?_,h.bin,λs a=> ?_,h.sB,?_,h.days,?_,h.oc,by rw[hE];omega⟩,λs a=> ?_⟩
 ·rcases kK.1 hi with rfl|hi
  ·exact f
  ·exact h.e9 i hi
 ·have b:r<c.base:=b;rw[e4 h.gf,Hk (by omega),HH];exact h.low r b
 ·have b:c.base<=r:=b;have a:r<c.base+sz:=a;show _=bp c.R _++xs ((dU c.A e).map cV) r;rw[e4 h.gf,hH,e4 h.sA,Hk (by omega),HH,HH];exact h.mn r b a
 ·show _=xs ((dU c.A e).map cV) r;rw[e4 h.gf,hH,e4 h.sA,h.aJ r b]
 ·rcases hm s a with rfl|a
  ·show c.base<=_;omega
  ·exact h.pj s a
 ·show gW ((dU c.A e).map cV);rw[hH];exact hG h.sA
 ·rw[hE];have:=h.len;show _=_+_+(dU c.A e).length;rw[(dE e c.A).length_eq,Hs];show _=c.B.length+c.R.items.length+_;omega
 ·rcases hm s a with rfl|a
  ·exact d
  ·exact hd s a
def bR.BG(h:bR sz room c [])(r:Nat)(g:r<18446744073709551616):bR sz room {c with base:=r} []/\Dn sz {c with base:=r}:=by
 have e:=h.len;have f:c.B=[]:=IA (by simp at e;omega);have b:c.A=[]:=IA (by simp at e;omega);have j:c.R.bA=[]:=IA (by rw[h.oc];simp at e;omega);have l:∀r,xs ([]:List It) r=[]:=λ_=>rfl;have k:∀d,bp c.R d=[]:=λd=>by rw[dX];unfold RP.q;rw[j];rfl
 refine⟨⟨h.rel,h.qs,h.aT,h.hZ,g,List.Pairwise.nil,(λi hi=>by cases hi),λr _=> ?_,λr _ _=> ?_,λr _=> ?_,λs a=> ?_,λs a=> ?_,h.sB,h.sA,h.days,h.len,h.oc,h.cap⟩,λs a=> ?_⟩
 ·show _=xs (c.B.map cV) r;rw[f];rfl
 ·show _=bp c.R _++xs (c.A.map cV) r;rw[b,k];rfl
 ·show _=xs (c.A.map cV) r;rw[b];rfl
 ·have a:s∈c.B:=a;rw[f]at a;cases a
 ·have a:s∈c.A:=a;rw[b]at a;cases a
 ·have a:s∈c.A:=a;rw[b]at a;cases a
def qT{S:List (En Pk)}{s:En Pk}(a:s∈S):xs (S.map cV) s.ao≠ []:=pg (i:=cV s) (pk.2 ⟨s,a,rfl⟩) rfl
def bR.D6(h:bR sz room c I){s:En Pk}(a:s∈c.A):∃i∈I,i.ao=s.ao:=by
 refine mm ?_;have b:=h.pj s a;by_cases d:s.ao<c.base+sz
 ·rw[h.mn _ b d];intro e;exact qT a (Li.1 e).2
 ·rw[h.aJ _ (by omega)];exact qT a
def bR.FZ(h:bR sz room c I)(hd:Dn sz c)(g:c.B=[]){r:Nat}(p:c.base<=r)(l:r<18446744073709551616)(f:∀i∈I,r<=i.ao):bR sz room {c with base:=r} I:=by
 refine⟨h.rel,h.qs,h.aT,h.hZ,l,h.gf,h.e9,λa d=> ?_,λa d b=> ?_,λa d=> ?_,λs b=> ?_,λs b=> ?_,h.sB,h.sA,h.days,h.len,h.oc,h.cap⟩
 ·have d:a<r:=d;show _=xs (c.B.map cV) a;rw[g];show _=[];rw[ml];intro i hi e;have:=f i hi;omega
 ·have d:r<=a:=d;have b:a<r+sz:=b;by_cases m:a<c.base+sz
  ·exact h.mn a (by omega) m
  ·show _=bp c.R _++xs (c.A.map cV) a;rw[h.aJ a (by omega)];have hz:=h.hZ;have hm:=Iw (a-c.base) (show 0<sz by omega);have j:bC sz (c.base+(a-c.base)%sz)=bC sz a:=by
    unfold bC;have:a=c.base+(a-c.base):=by omega
    rw[Nat.add_mod_mod,<-this]
   have n:c.base+(a-c.base)%sz<r:=by
    apply Classical.byContradiction;intro q;have:=mo (base:=r) (by omega) (by omega) d b j;omega
   have k:=h.mn (c.base+(a-c.base)%sz) (by omega) (by omega);have o:xs I (c.base+(a-c.base)%sz)=[]:=by
    rw[ml];intro i hi e;have:=f i hi;omega
   rw[o,j]at k
   rw[(Li.1 k.symm).1];rfl
 ·have d:r+sz<=a:=d;exact h.aJ a (by omega)
 ·have b:s∈c.B:=b;rw[g]at b;cases b
 ·show r<=s.ao;obtain⟨i,hi,e⟩:=h.D6 b;rw[<-e];exact f i hi
def bR.sink(h:bR sz room c I){a:En Pk}{f:List (En Pk)}(i:c.A=a::f)(l:a.ao<c.base+sz){P':PS Pk}{R':RP Pk}{m':List Int}
    (a1:Rel P' R') (a2:P'.aT=c.P.aT) (a3:P'.qs.length=c.P.qs.length) (a4:R'.items.length=c.R.items.length+1) (a5:R'.bA.length=c.R.bA.length+1)
    (a6:∀e,bp R' e=bp c.R e++(if e=bC sz a.ao then[some a.x]else[])) (a7:∀d:Int,d∈m'↔R'.q d≠ []):
    bR sz room {c with A:=f,P:=P',R:=R',m:=m'} I:=by
 have n:=h.pj a (by rw[i];simp);have j:=h.sA;rw[i,HA]at j
 have k:∀r,xs (c.A.map cV) r=if a.ao=r then some a.x::xs (f.map cV) r else xs (f.map cV) r:=λr=>by rw[i,HA,gX];rfl
 refine⟨a1,a3.trans h.qs,a2.trans h.aT,h.hZ,h.base,h.gf,h.e9,h.low,λr b g=> ?_,λr b=> ?_,h.bin,λs g=>h.pj s (by rw[i];exact Ho.2 (.inr g)),h.sB,(HJ.1 j).2,a7,?_,?_,h.cap⟩
 ·have b:c.base<=r:=b;have g:r<c.base+sz:=g;show _=bp R' _++xs (f.map cV) r;rw[h.mn r b g,a6,k];by_cases e:a.ao=r
  ·rw[Hl e,Hl (by rw[e]),Ir];rfl
  ·rw[Hk e,Hk (λo=>e (mo n l b g o.symm)),HH]
 ·have b:c.base+sz<=r:=b;show _=xs (f.map cV) r;rw[h.aJ r b,k,Hk (by omega)]
 ·have:=h.len;rw[i,Hs]at this;show _=c.B.length+R'.items.length+f.length;rw[a4];omega
 ·show R'.bA.length=R'.items.length;rw[a4,a5,h.oc]
def bR.done(h:bR sz room c I)(g:∀a f,c.A=a::f->c.base+sz<=a.ao):Dn sz c:=by
 cases e:c.A with
 |nil=>intro s b;rw[e]at b;cases b
 |cons a f=>
  intro s b;have i:=g a f e;have d:=h.sA;rw[e,HA]at d
  rw[e]at b
  rcases Ho.1 b with rfl|b
  ·exact i
  ·have:=(HJ.1 d).1 (cV s) (pk.2 ⟨s,b,rfl⟩);have:a.ao<=s.ao:=this;omega
end
end cq
namespace cq
open Go Go.RowKit
def fT(sz:Nat)(f d:Int):Int:=(d-f+sz)%sz
def mq{sz:Nat}{f d:Int}(a:0<=f)(b:f<=d)(c:d<sz):fT sz f d=d-f:=by
 unfold fT;rw[Int.add_emod_right,Int.emod_eq_of_lt (by omega) (by omega)]
def kL{sz:Nat}{f d:Int}(a:0<=d)(b:d<f)(c:f<sz):fT sz f d=d-f+sz:=by
 unfold fT;rw[Int.emod_eq_of_lt (by omega) (by omega)]
def mr{sz:Nat}{f d:Int}(a:0<=f/\f<sz)(b:0<=d/\d<sz):0<=fT sz f d/\fT sz f d<sz:=by
 by_cases h:f<=d
 ·rw[mq a.1 h b.2];omega
 ·rw[kL b.1 (by omega) a.2];omega
def tB{sz base o:Nat}(a:0<sz)(d:o<sz):bC sz (base+o)=if bC sz base+o<sz then bC sz base+o else bC sz base+o-sz:=by
 unfold bC;have e:=Iw base a;have b:(base+o)%sz=(base%sz+o)%sz:=by rw[Nat.mod_add_mod]
 rw[b];by_cases h:base%sz+o<sz
 ·rw[IH h,Hl (by omega)];omega
 ·have c:(base%sz+o)%sz=base%sz+o-sz:=by
   rw[Nat.mod_eq_sub_mod (by omega),IH (by omega)]
  rw[c,Hk (by omega)];omega
def iT{sz:Nat}(a:0<sz)(r:Nat):0<=bC sz r/\bC sz r<sz:=by
 have:=Iw r a;unfold bC;omega
def zv{sz base o:Nat}(a:0<sz)(c:o<sz):fT sz (bC sz base) (bC sz (base+o))=o:=by
 have b:=iT a base;rw[tB a c];split
 ·rw[mq b.1 (by omega) (by omega)];omega
 ·rw[kL (by omega) (by omega) b.2];omega
def zw{sz base:Nat}(b:0<sz){d:Int}(hd:0<=d/\d<sz):bC sz (base+(fT sz (bC sz base) d).toNat)=d:=by
 have a:=iT b base;have e:=mr a hd;have c:=tB (base:=base) b (show(fT sz (bC sz base) d).toNat<sz by omega);rw[c];by_cases h:bC sz base<=d
 ·rw[mq a.1 h hd.2];rw[Hl (by omega)];omega
 ·rw[kL hd.1 (by omega) a.2];rw[Hk (by omega)];omega
def vd{sz:Nat}{m:List Int}(g:m.Pairwise (·< ·))(hm:m≠ [])(c:∀d∈m,0<=d/\d<(sz:Int)){f:Int}(hf:0<=f/\f<(sz:Int)):
    (ez m f).2=true/\(ez m f).1∈m/\∀d∈m,fT sz f (ez m f).1<=fT sz f d:=by
 unfold ez;cases a:m.find? (λy=>decide (f<=y))with
 |some y=>
  have hy:f<=y:=by have:=List.find?_some a;simpa using this
  have b:=Kk a;refine⟨rfl,b,λd hd=> ?_⟩;have e:=c d hd;have i:=c y b;show fT sz f y<=_;rw[mq hf.1 hy i.2];by_cases h:f<=d
  ·rw[mq hf.1 h e.2];have:y<=d:=by
    obtain⟨_,o,l2,j,n⟩:=Le.1 a;rw[j]at hd g
    rcases Hu.1 hd with hd|hd
    ·have:=n d hd;simp at this;omega
    ·rcases Ho.1 hd with rfl|hd
     ·exact JS _
     ·have:=(HJ.1 (IN.1 g).2.1).1 d hd;omega
   omega
  ·rw[kL e.1 (by omega) hf.2];omega
 |none=>
  cases m with
  |nil=>exact absurd rfl hm
  |cons y r=>
   rw[JD]at a
   refine⟨rfl,by simp,λd hd=> ?_⟩;have e:=c d hd;have i:=c y (by simp);have k:=a d hd;have l:=a y (by simp);simp at k l;show fT sz f y<=_;rw[kL e.1 k hf.2,kL i.1 l hf.2];rcases Ho.1 hd with rfl|hd
   ·omega
   ·have:=(HJ.1 g).1 d hd;omega
section
variable {sz room:Nat} {c:hh} {I:List It}
def fg{x:It}{T:List It}(h:gW (x::T)){i:It}(hi:i∈x::T):x.ao<=i.ao:=by
 rcases Ho.1 hi with rfl|hi
 ·exact Hm _
 ·exact(HJ.1 h).1 i hi
def zy{x:It}{T:List It}{v:Pk}{l:List (Option Pk)}(h:xs (x::T) x.ao=some v::l):x.x=v/\xs T x.ao=l:=by
 rw[gX,Hl rfl]at h
 injection h with a b;injection a with a;exact⟨a,b⟩
def qU{S:List (En Pk)}{s:En Pk}{S':List (En Pk)}(hS:S=s::S')(d:gW (S.map cV)){x:It}{T:List It}(f:gW (x::T))
    (g:xs (x::T) s.ao=xs (S.map cV) s.ao) (a:xs (x::T) x.ao=xs (S.map cV) x.ao):x=cV s:=by
 subst hS;have a1:xs (x::T) s.ao≠ []:=by rw[g];exact qT (by simp)
 obtain⟨i,hi,e⟩:=mm a1;have b1:=fg f hi;have a2:xs ((s::S').map cV) x.ao≠ []:=by rw[<-a];exact pg (i:=x) (by simp) rfl
 obtain⟨j,h,l⟩:=mm a2;have b2:=fg d h;have b2:s.ao<=j.ao:=b2;have b:x.ao=s.ao:=by omega
 rw[HA]at a
 have k:xs (cV s::S'.map cV) x.ao=some s.x::xs (S'.map cV) x.ao:=by
  rw[gX,Hl (show(cV s).ao=x.ao from b.symm)];rfl
 rw[k]at a
 have c:=(zy a).1;obtain⟨m,n⟩:=x;simp only at b c;subst b c;rfl
def bR.mY(h:bR sz room c I){b:En Pk}{g:List (En Pk)}(a:c.B=b::g):∃T,I=cV b::T:=by
 have f:=h.bin b (by rw[a];simp);cases I with
 |nil=>
  have d:=h.low _ f;exact absurd d.symm (qT (by rw[a];simp))
 |cons x T=>
  refine⟨T,?_⟩;have d:=h.low _ f;obtain⟨i,hi,e⟩:=mm (I:=x::T) (r:=b.ao) (by rw[d];exact qT (by rw[a];simp));have j:=fg h.gf hi;rw[qU a h.sB h.gf d (h.low _ (by omega))]
def bR.zz(h:bR sz room c I)(b:c.B=[]){i:It}(hi:i∈I):c.base<=i.ao:=by
 apply Classical.byContradiction;intro d;have a:=h.low i.ao (by omega);rw[b]at a
 exact pg hi rfl a
def bR.qV(h:bR sz room c I)(hd:Dn sz c)(k:c.B=[])(hm:c.m=[]):(c.A=[]/\I=[])\/∃a j T,c.A=a::j/\I=cV a::T:=by
 have l:∀d,c.R.q d=[]:=λd=>by
  apply Classical.byContradiction;intro n;have:=(h.days d).2 n;rw[hm]at this;cases this
 cases g:c.A with
 |nil=>
  left;refine⟨rfl,IA ?_⟩;have e:c.R.bA=[]:=by
   cases he:c.R.bA with
   |nil=>rfl
   |cons p r=>
    have:=l p.1;unfold RP.q at this;rw[he,KQ (by simp)]at this
    simp at this
  have b:=h.len;have f:=h.oc;rw[k,g]at b;rw[e]at f
  simp at b f;rw[b,<-f]
 |cons a j=>
  right;have ha:=hd a (by rw[g];simp);have b:=h.aJ a.ao ha;cases I with
  |nil=>exact absurd b.symm (qT (by rw[g];simp))
  |cons x T=>
   refine⟨a,j,T,rfl,?_⟩;have s:=h.zz k (i:=x) (by simp);have f:c.base+sz<=x.ao:=by
    apply Classical.byContradiction;intro n;have o:=h.mn x.ao s (by omega);rw[hd.xs (by omega),HH,dX.2 (l _)]at o
    exact pg (i:=x) (by simp) rfl o
   rw[qU g h.sA h.gf b (h.aJ _ f)]
def bR.qW(h:bR sz room c I)(hd:Dn sz c)(z:c.B=[])(hm:c.m≠ [])(A:c.m.Pairwise (·< ·)):
    ∃d x T k r,ez c.m (bC sz c.base)=(d,true)/\0<=d/\d<(sz:Int)/\I=x::T/\x.ao=c.base+(fT sz (bC sz c.base) d).toNat/\x.ao<c.base+sz/\bC sz x.ao=d/\c.R.q d=k::r/\c.R.find k=some x.x:=by
 have G:=h.hZ;have j:0<sz:=by omega
 have hf:=iT j c.base;obtain⟨f1,f2,f3⟩:=vd A hm (λd hd=>h.C4 hd) hf;obtain⟨d,l⟩:∃d,(ez c.m (bC sz c.base)).1=d:=⟨_,rfl⟩
 rw[l]at f2 f3
 have f:=h.C4 f2;have H:=mr hf f;obtain⟨o,n⟩:∃o:Nat,(fT sz (bC sz c.base) d).toNat=o:=⟨_,rfl⟩
 have b:bC sz (c.base+o)=d:=by rw[<-n];exact zw j f
 have C:o<sz:=by omega
 have hw:=h.mn (c.base+o) (by omega) (by omega);rw[b,hd.xs (by omega),HH]at hw
 have p:bp c.R d≠ []:=λe=>(h.days d).1 f2 (dX.1 e);obtain⟨i,hi,D⟩:=mm (I:=I) (r:=c.base+o) (by rw[hw];exact p);cases I with
 |nil=>cases hi
 |cons x T=>
  have E:=fg h.gf hi;have s:=h.zz z (i:=x) (by simp);have a:=h.mn x.ao s (by omega);rw[hd.xs (by omega),HH]at a
  have t:bC sz x.ao∈c.m:=by
   rw[h.days];intro e;rw[dX.2 e]at a
   exact pg (i:=x) (by simp) rfl a
  have u:=f3 _ t;have v:x.ao=c.base+(x.ao-c.base):=by omega
  rw[v,zv j (by omega)]at u
  have g:x.ao=c.base+o:=by omega
  rw[g]at a
  rw[b]at a
  cases w:c.R.q d with
  |nil=>exact absurd (dX.2 w) p
  |cons k r=>
   refine⟨d,x,T,k,r,Prod.ext l f1,f.1,f.2,rfl,by rw[n];exact g,by omega,by rw[g];exact b,w,?_⟩;have y:bp c.R d=c.R.find k::r.map c.R.find:=by unfold bp;rw[w];rfl
   rw[y,<-g]at a
   rw[gX,Hl rfl]at a
   injection a with F J;exact F.symm
def bR.BH{x:It}{T:List It}(h:bR sz room c (x::T))(hd:Dn sz c)(n:c.base=x.ao){P':PS Pk}{R':RP Pk}{m':List Int}(g:c.R.q (bC sz x.ao)≠ [])
    (a1:Rel P' R') (a2:P'.aT=c.P.aT) (a3:P'.qs.length=c.P.qs.length) (a4:R'.items.length+1=c.R.items.length) (a5:R'.bA.length+1=c.R.bA.length)
    (a6:∀e,bp R' e=if e=bC sz x.ao then(bp c.R e).tail else bp c.R e) (a7:∀d:Int,d∈m'↔R'.q d≠ []):
    bR sz room {c with P:=P',R:=R',m:=m'} T/\Dn sz {c with P:=P',R:=R',m:=m'}:=by
 have o:=h.hZ;have j:∀r,xs (x::T) r=if x.ao=r then some x.x::xs T r else xs T r:=λr=>gX _ _ _;refine⟨⟨a1,a3.trans h.qs,a2.trans h.aT,h.hZ,h.base,(HJ.1 h.gf).2,λi hi=>h.e9 i (by simp[hi]),λr b=> ?_,λr b f=> ?_,λr b=> ?_,h.bin,h.pj,h.sB,h.sA,a7,?_,?_,by have:=h.cap;rw[Hs]at this;omega⟩,hd⟩
 ·have b:r<c.base:=b;have a:=h.low r b;rw[j,Hk (by omega)]at a;exact a
 ·have b:c.base<=r:=b;have f:r<c.base+sz:=f;have a:=h.mn r b f;show _=bp R' _++xs (c.A.map cV) r;rw[j]at a
  rw[a6];by_cases e:x.ao=r
  ·rw[Hl e]at a
   rw[Hl (by rw[e])];cases ht:bp c.R (bC sz r)with
   |nil=>rw[<-e]at ht;exact absurd (dX.1 ht) g
   |cons t l=>
    rw[ht]at a
    injection a
  ·rw[Hk e]at a
   rw[Hk (λk=>e (mo (base:=c.base) (by omega) (by omega) b f k.symm))];exact a
 ·have b:c.base+sz<=r:=b;have a:=h.aJ r b;rw[j,Hk (by omega)]at a;exact a
 ·have a:=h.len;rw[Hs]at a;show _=c.B.length+R'.items.length+c.A.length;omega
 ·have a:=h.oc;show R'.bA.length=R'.items.length;omega
def bR.BI{x:It}{T:List It}(h:bR sz room c (x::T))(hd:Dn sz c){b:En Pk}{f:List (En Pk)}(g:c.B=b::f):bR sz room {c with B:=f} T/\Dn sz {c with B:=f}:=by
 obtain⟨o,e⟩:=h.mY g;injection e with m n;subst m n;have p:=h.bin b (by rw[g];simp);have j:=h.sB;rw[g,HA]at j
 have k:∀r,xs (cV b::T) r=if b.ao=r then some b.x::xs T r else xs T r:=λr=>gX _ _ _;have hy:∀r,xs (c.B.map cV) r=if b.ao=r then some b.x::xs (f.map cV) r else xs (f.map cV) r:=λr=>by rw[g,HA,gX];rfl
 refine⟨⟨h.rel,h.qs,h.aT,h.hZ,h.base,(HJ.1 h.gf).2,λi hi=>h.e9 i (by simp[hi]),λr d=> ?_,λr d l=> ?_,λr d=> ?_,λs l=>h.bin s (by rw[g];exact Ho.2 (.inr l)),h.pj,(HJ.1 j).2,h.sA,h.days,?_,h.oc,by have:=h.cap;rw[Hs]at this;omega⟩,hd⟩
 ·have a:=h.low r d;rw[k,hy]at a
  split at a
  ·injection a
  ·exact a
 ·have d:c.base<=r:=d;have a:=h.mn r d l;rw[k,Hk (by omega)]at a;exact a
 ·have d:c.base+sz<=r:=d;have a:=h.aJ r d;rw[k,Hk (by omega)]at a;exact a
 ·have a:=h.len;rw[Hs,g,Hs]at a;show _=f.length+c.R.items.length+c.A.length;omega
end
end cq
namespace cq
open Go Go.RowKit Go.Shelf
def cx(c:PC Pk):List Value:=[.int .u32 c.x.cE,.int .u32 c.x.id,.int .u64 c.x.len,.int .i32 c.next,.bool c.taken,.bool c.queued]
def hI(c:PC Pk):(cx c).length=6:=rfl
def iU(p:Int×Int):List Value:=[.int .i32 p.1,.int .i32 p.2]
def kM(p:Int×Int):(iU p).length=2:=rfl
structure bH (w:World) (p bq:Nat) (vc:Value) (S:PS Pk):Prop where
 top:ag w p [vc,.slice (some ⟨bq,0,none⟩) S.qs.length S.qs.length,.int .i64 S.aT,.int .i32 S.free,.int .i64 S.n] 310
 cells:w.ownsRow 0 371 6 vc S.cs.length (S.cs.flatMap cx)
 aD:ag w bq (S.qs.flatMap iU) 312
def PF(p a:Nat)(vc:Value):Nat->Prop:=λb=>b=p\/b=a\/vc.ownBlock=some b
def bH.kp{S':Nat->Prop}{w w':World}{p a:Nat}{vc:Value}{S:PS Pk}(h:bH w p a vc S)(K:Kp S' w w')(c:∀b,PF p a vc b->¬S' b):bH w' p a vc S:=
 ⟨h.top.kp K (c _ (.inl rfl)),au h.cells K (λb d=>c b (.inr (.inr d))),h.aD.kp K (c _ (.inr (.inl rfl)))⟩
def bH.old{w w':World}{p a:Nat}{vc:Value}{S:PS Pk}(h:bH w p a vc S)(K:Kp ae w w'):bH w' p a vc S:=h.kp K (λ_ _ h=>h)
def bH.lt{w:World}{p c:Nat}{vc:Value}{S:PS Pk}(h:bH w p c vc S){b:Nat}(a:PF p c vc b):b<w.heap.size:=by
 rcases a with rfl|rfl|a
 ·exact h.top.lt
 ·exact h.aD.lt
 ·exact(an h.cells a).2
def bH.ne{w:World}{p a:Nat}{vc:Value}{S:PS Pk}(h:bH w p a vc S):p≠a/\vc.ownBlock≠some p/\vc.ownBlock≠some a:=
 ⟨e3 h.top h.aD (by decide),aA h.cells h.top (by decide),aA h.cells h.aD (by decide)⟩
def bH.tC{w:World}{p a:Nat}{vc:Value}{S:PS Pk}(h:bH w p a vc S)(f:Int):bH (w.setCell ⟨p,3,none⟩ (.int .i32 f)) p a vc {S with free:=f}:=
 ⟨h.top.set 3 _,cG h.cells (λb c e=>h.ne.2.1 (by rw[c,e])) _,h.aD.bJ h.ne.1.symm _⟩
def bH.qC{w:World}{p a:Nat}{vc:Value}{S:PS Pk}(h:bH w p a vc S)(n:Int):bH (w.setCell ⟨p,4,none⟩ (.int .i64 n)) p a vc {S with n:=n}:=
 ⟨h.top.set 4 _,cG h.cells (λb c e=>h.ne.2.1 (by rw[c,e])) _,h.aD.bJ h.ne.1.symm _⟩
def bH.len{w:World}{p a:Nat}{b:Option Addr}{m cap:Nat}{S:PS Pk}(h:bH w p a (.slice b m cap) S):m=S.cs.length:=by obtain⟨_,_,e⟩:=aN h.cells;cases e;rfl
def bH.lH{w:World}{p b g m cap:Nat}{S:PS Pk}(h:bH w p b (.slice (some ⟨g,0,none⟩) m cap) S)(i:Nat)(c a:PC Pk)(j:Nat)(v:Value)(d:j<6)(hi:S.cs[i]? =some c)(ha:cx a=(cx c).set j v):
    bH (w.setCell ⟨g,i*6+j,none⟩ v) p b (.slice (some ⟨g,0,none⟩) m cap) {S with cs:=S.cs.set i a}:=by
 obtain⟨n1,n2,n3⟩:=h.ne;have hm:=h.len;subst hm;refine⟨h.top.bJ (λe=>n2 (by rw[e];rfl)) _,?_,h.aD.bJ (λe=>n3 (by rw[e];rfl)) _⟩;simp only[Hr];rw[oG cx 6 hI S.cs i a c j v d hi ha];exact iG h.cells _ _
def bH.zA{w a:World}{p d g m cap:Nat}{S:PS Pk}(h:bH w p d (.slice (some ⟨g,0,none⟩) m cap) S)(i:Nat)(c:PC Pk)
    (j:a.ownsRow 0 371 6 (.slice (some ⟨g,0,none⟩) m cap) m ((S.cs.set i c).flatMap cx)) (f:Kp (λb=>b=g) w a):
    bH a p d (.slice (some ⟨g,0,none⟩) m cap) {S with cs:=S.cs.set i c}:=by
 obtain⟨n1,n2,n3⟩:=h.ne;have hm:=h.len;subst hm;refine⟨h.top.kp f (λe=>n2 (by rw[e];rfl)),?_,h.aD.kp f (λe=>n3 (by rw[e];rfl))⟩;simp only[Hr];exact j
def bH.pn{w:World}{p a:Nat}{vc:Value}{S:PS Pk}(h:bH w p a vc S)(i:Nat)(c d:Int×Int)(j:Nat)(v:Value)(f:j<2)(hi:S.qs[i]? =some c)(ha:iU d=(iU c).set j v):
    bH (w.setCell ⟨a,i*2+j,none⟩ v) p a vc {S with qs:=S.qs.set i d}:=by
 obtain⟨n1,n2,n3⟩:=h.ne;refine⟨?_,cG h.cells (λb g e=>n3 (by rw[g,e])) _,?_⟩
 ·simp only[Hr];exact h.top.bJ n1 _
 ·show ag _ a ((S.qs.set i d).flatMap iU) _;rw[oG iU 2 kM S.qs i d c j v f hi ha];exact h.aD.set _ _
def bH.drew{w:World}{p a:Nat}{vc:Value}{S:PS Pk}(h:bH w p a vc S):bH w.drew p a vc S:=h.old (Kp.refl _ _).drew
def bH.cell{w:World}{p d:Nat}{vc:Value}{S:PS Pk}(h:bH w p d vc S)(i:Nat)(c:PC Pk)(b:S.cs[i]? =some c):∃g cap,vc=.slice (some ⟨g,0,none⟩) S.cs.length cap/\
    w.cell? ⟨g,i*6,none⟩=some (.int .u32 c.x.cE)/\w.cell? ⟨g,i*6+1,none⟩=some (.int .u32 c.x.id)/\w.cell? ⟨g,i*6+2,none⟩=some (.int .u64 c.x.len)/\w.cell? ⟨g,i*6+3,none⟩=some (.int .i32 c.next)/\w.cell? ⟨g,i*6+4,none⟩=some (.bool c.taken)/\w.cell? ⟨g,i*6+5,none⟩=some (.bool c.queued):=by
 have hi:i<S.cs.length:=(HD.1 b).1;obtain⟨g,cap,rfl,e⟩:=aY h.cells (by omega);have a:∀k u,(cx c)[k]? =some u->w.cell? ⟨g,i*6+k,none⟩=some u:=λk u hu=>by
  refine bu h.cells _ ?_;rw[flat_get cx 6 hI _ _ _ (by have:=(HD.1 hu).1;simpa[cx]using this),b];exact hu
 exact⟨g,cap,rfl,a 0 _ rfl,a 1 _ rfl,a 2 _ rfl,a 3 _ rfl,a 4 _ rfl,a 5 _ rfl⟩
def bH.end{w:World}{p a:Nat}{vc:Value}{S:PS Pk}(h:bH w p a vc S)(i:Nat)(hd b:Int)(hi:S.qs[i]? =some (hd,b)):
    w.cell? ⟨a,i*2,none⟩=some (.int .i32 hd)/\w.cell? ⟨a,i*2+1,none⟩=some (.int .i32 b):=by
 have c:∀k u,k<2->(iU (hd,b))[k]? =some u->w.cell? ⟨a,i*2+k,none⟩=some u:=λk u d hu=>by
  refine h.aD.cell _ ?_;rw[flat_get iU 2 kM _ _ _ d,hi];exact hu
 exact⟨c 0 _ (by omega) rfl,c 1 _ (by omega) rfl⟩
def r5(w w':World)(p b:Nat)(vc:Value)(S':PS Pk):Prop:=∃a,bH w' p b a S'/\Kp (PF p b vc) w w'/\Nw w (PF p b vc) (PF p b a)
def F0(w:World)(p a:Nat)(vc:Value)(S:PS Pk)(h:bH w p a vc S):Calls Tryz.prog 207 #[.pointer (some ⟨p,0,none⟩)] w λe w'=>e=.returned (.int .i64 S.n)/\w=w':=by
 have c:=h.top.a_;clear h;go_enter Tryz.func207,Tryz.ntmps207;go_wp2;go_ret;exact⟨rfl,rfl⟩
def r6(w:World)(p j:Nat)(vc:Value)(S:PS Pk)(h:bH w p j vc S)(i:Nat)(b:(tk S i).isSome=true)(l:S.cs.length<=4096):
    Calls Tryz.prog 217 #[.pointer (some ⟨p,0,none⟩),.int .i64 i] w λe w'=>e=.returned (.bool true)/\w=w':=by
 have c0:=h.top.ai;obtain⟨c,d⟩:=I5.1 b;obtain⟨_,m,a,f⟩:=di d;simp only[HZ]at a;obtain⟨g,cap,rfl,_,_,_,_,k,_⟩:=h.cell i c a;rw[f]at k
 clear h a f d b;generalize S.cs.length=N at*;go_enter Tryz.func217,Tryz.ntmps217;go_wp2;go_ret;exact⟨rfl,rfl⟩
def C5(w:World)(p a:Nat)(vc:Value)(S:PS Pk)(h:bH w p a vc S)(q:Nat)(b:q<S.qs.length)(c:S.qs.length<=262144):
    Calls Tryz.prog 216 #[.pointer (some ⟨p,0,none⟩),.int .i64 q] w λe w'=>e=.returned (.bool true)/\w=w':=by
 have c1:=h.top.aj;clear h;generalize S.qs.length=n at*;go_enter Tryz.func216,Tryz.ntmps216;go_wp2;go_ret;exact⟨rfl,rfl⟩
def D7(z:Value)(n:Nat):madeCells #[z,z] n=(List.replicate n z).toArray:=by
 apply JL
 ·simp[madeCells]
 ·intro i a b;have:i%2=0\/i%2=1:=by omega
  rcases this with h|h<;>simp[madeCells,h]
def D8:(Tryz.prog.info? 312).map (λi=>(i.zero,i.size,i.bytes))=some (some (.agg #[.int .i32 0,.int .i32 0]),2,8):=by kernel_rfl
def ps(n:Nat)(h:n<=262144)(w:World):(Instr.makeSlice 307 (.int .i64 (n:Int)) (.int .i64 (n:Int))).run Tryz.prog w=.ok (.slice (some ⟨w.heap.size,0,none⟩) n n) (w.alloc (.cells (List.replicate (n*2) (.int .i32 0)).toArray 312)):=by
 obtain⟨i,hi,a⟩:=Ja.1 D8;simp only[Prod.mk.injEq]at a;obtain⟨hz,c,d⟩:=a;have b:=run_make (P:=Tryz.prog) w 307 312 i _ Tryz.underlying307 hi hz .i64 .i64 n n (by omega) (JS _) (by rw[d];omega) (by omega);rw[c]at b
 simp only[HZ]at b;rw[b,<-D7];rfl
def qz(j n:Nat):List (Int×Int):=(List.range n).map (λi=>if i<j then((-1:Int),(-1:Int))else(0,0))
def hv(j n:Nat):(qz j n).length=n:=by simp[qz]
def hx(j n i:Nat)(h:i<n):(qz j n)[i]? =some (if i<j then(-1,-1)else(0,0)):=by simp[qz,h]
def zB(n:Nat):(qz 0 n).flatMap iU=List.replicate (n*2) (.int .i32 0):=by
 have:qz 0 n=List.replicate n (0,0):=by
  apply IZ;intro i;by_cases h:i<n
  ·rw[hx 0 n i h,I2];simp[h]
  ·rw[H_ (by rw[hv];omega),H_ (by simp;omega)]
 rw[this];induction n with
 |zero=>rfl
 |succ n a=>rw[JE,Iv,a (by apply IZ;intro i;by_cases h:i<n;(rw[hx 0 n i h,I2];simp[h]);rw[H_ (by rw[hv];omega),H_ (by simp;omega)])];rw[show(n+1)*2=n*2+1+1 by omega,JE,JE];rfl
def BJ(j n:Nat)(h:j<n):(qz j n).set j (-1,-1)=qz (j+1) n:=by
 apply IZ;intro i;by_cases hi:i<n
 ·by_cases e:i=j
  ·subst e;rw[H8 (by rw[hv];omega),hx _ _ _ hi,Hl (by omega)]
  ·rw[HL (λz=>e z.symm),hx _ _ _ hi,hx _ _ _ hi];by_cases a:i<j
   ·rw[Hl a,Hl (by omega)]
   ·rw[Hk a,Hk (by omega)]
 ·rw[H_ (by simp[hv];omega),H_ (by rw[hv];omega)]
def zC(n:Nat):qz n n=List.replicate n (-1,-1):=by
 apply IZ;intro i;by_cases h:i<n
 ·rw[hx n n i h,I2,Hl h,Hl h]
 ·rw[H_ (by rw[hv];omega),H_ (by simp;omega)]
def SN(aT:Int)(j n:Nat):PS Pk:=⟨[],qz j n,aT,-1,0⟩
def wa(aT:Int)(n:Nat)(w:World)(f:1<=aT)(s:aT<=4096)(o:n<=262144):
    Calls Tryz.prog 118 #[.int .i64 aT,.int .i64 n] w λe w'=>∃p l,e=.returned (.tuple #[.pointer (some ⟨p,0,none⟩),.int .i64 0])/\bH w' p l (.slice none 0 0) ⟨[],List.replicate n (-1,-1),aT,-1,0⟩/\w.heap.size<=p/\w.heap.size<=l/\Kp ae w w':=by
 have d:=ps n o;have g:Hid (bH ((w.alloc (.cells (List.replicate (n*2) (.int .i32 0)).toArray 312)).alloc (.cells #[.slice none 0 0,.slice (some ⟨w.heap.size,0,none⟩) n n,.int .i64 aT,.int .i32 (-1),.int .i64 0] 310)) (w.heap.size+1) w.heap.size (.slice none 0 0) (SN aT 0 n)):=by
  refine⟨?_,World.ownsRow_nil _ _ _ _,?_⟩
  ·simp only[SN,hv];have:=ag.new (w.alloc (.cells (List.replicate (n*2) (.int .i32 0)).toArray 312)) [.slice none 0 0,.slice (some ⟨w.heap.size,0,none⟩) n n,.int .i64 aT,.int .i32 (-1),.int .i64 0] 310;simpa using this
  ·simp only[SN,zB];exact(ag.new _ _ _).alloc _
 go_enter Tryz.func118,Tryz.ntmps118;go_wp2;go_loopw [32] (λc wr=>∃j:Nat,j<=n/\c=.int .i64 j/\Hid (bH wr (w.heap.size+1) w.heap.size (.slice none 0 0) (SN aT j n)/\Kp ae w wr)) (λc _=>n-(intOf c).toNat)
 case atStart=>exact⟨0,Hv _,rfl,g.out,((Kp.refl _ _).alloc _).alloc _⟩
 case round=>
  obtain⟨j,t,rfl,b⟩:=hrel;by_cases a:j<n
  ·have c1:=b.out.1.top.aj;simp only[SN,hv]at c1;have fz:=λk=>b.out.1.aD.fz k;have u:=b.out.1.aD.cell (j*2) (v:=.int .i32 0) (by rw[show j*2=j*2+0 from rfl,flat_get iU 2 kM _ _ _ (by omega)];simp only[SN];rw[hx _ _ _ a];simp[iU]);have x:=b.out.1.aD.cell (j*2+1) (v:=.int .i32 0) (by rw[flat_get iU 2 kM _ _ _ (by omega)];simp only[SN];rw[hx _ _ _ a];simp[iU]);have m:(SN aT j n).qs[j]? =some (0,0):=by simp only[SN];rw[hx _ _ _ a,Hk (by omega)]
   have h:=(b.out.1.pn j (0,0) (-1,0) 0 (.int .i32 (-1)) (by omega) m rfl).pn j (-1,0) (-1,-1) 1 (.int .i32 (-1)) (by omega) (by simp[SN,hv,a]) rfl;have i:=(b.out.2.set (p:=⟨w.heap.size,j*2+0,none⟩) (.inr (Hm _)) (.int .i32 (-1))).set (p:=⟨w.heap.size,j*2+1,none⟩) (.inr (Hm _)) (.int .i32 (-1));simp only[SN,J5,BJ j n a,Ig]at h i;have q:=aa h;have r:=aa i;clear h i m d;go_wp2;go_roundw
   case rel=>exact⟨j+1,by omega,rfl,q.out,r.out⟩
   case measure=>simp[intOf];omega
  ·obtain rfl:j=n:=by omega
   have f:=b.out.1;simp only[SN,zC]at f;have c1:=b.out.1.top.aj;have H1:=aa f;clear f d;go_wp2;go_ret2;exact⟨_,_,rfl,H1.out,by omega,Hm _,b.out.2⟩
end cq
end Go.Proofs.YtincjochpkdnfaaGreatDoor
