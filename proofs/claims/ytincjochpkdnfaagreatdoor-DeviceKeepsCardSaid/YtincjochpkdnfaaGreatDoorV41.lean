/- A shaper in plain Lean: what its gate counts is what waits, flow by flow (layer 26). Names no function of the program. -/
import Derived.Test.YtincjochpkdnfaaGreatDoorV40
set_option linter.all false
set_option maxHeartbeats 16000000
set_option maxRecDepth 100000
namespace Go.Proofs.YtincjochpkdnfaaGreatDoor
section
open flowOwn (Th)
def p0(l:List It)(id:Nat):Nat:=(l.map λi=>if i.x.cE=id then 1 else 0).sum
def p1(l:List It)(id:Nat):Nat:=(l.map λi=>if i.x.cE=id then i.x.len else 0).sum
def lQ(i:It)(l:List It)(id:Nat):p0 (i::l) id=(if i.x.cE=id then 1 else 0)+p0 l id:=rfl
def lR(i:It)(l:List It)(id:Nat):p1 (i::l) id=(if i.x.cE=id then i.x.len else 0)+p1 l id:=rfl
def vE{l a:List It}(h:l.Perm a)(id:Nat):p0 l id=p0 a id:=(h.map _).sum_nat
def vF{l a:List It}(h:l.Perm a)(id:Nat):p1 l id=p1 a id:=(h.map _).sum_nat
def nz:∀(l:List dF) (id:Nat),0<=findF l id->∃f,l[(findF l id).toNat]? =some f/\f.id=id
 | [],_,h=>absurd h (by unfold findF;decide)
 |f::r,id,h=>by
  by_cases a:f.id=id
  ·exact⟨f,by unfold findF;rw[Hl a];rfl,a⟩
  ·unfold findF at h;rw[Hk a]at h
   by_cases b:findF r id<0
   ·rw[Hl b]at h;exact absurd h (by decide)
   ·obtain⟨g,c,d⟩:=nz r id (by omega);refine⟨g,?_,d⟩;unfold findF;rw[Hk a,Hk b,show(findF r id+1).toNat=(findF r id).toNat+1 by omega,IX];exact c
def CM{g:Ga}{a b:Nat}(ha:0<=g.at a)(h:0<=g.at b)(e:(g.at a).toNat=(g.at b).toNat):a=b:=by
 obtain⟨f,d,i⟩:=nz g.c.av a ha;obtain⟨m,j,k⟩:=nz g.c.av b h;have l:(findF g.c.av a).toNat=(findF g.c.av b).toNat:=e;rw[l,j]at d
 injection d with d;rw[<-i,<-k,d]
def AH{g:Ga}(ok:g.Ok){id:Nat}(a:0<=g.at id)(x:Th){k:Nat}(b:0<=g.at k):(g.put id x).x k=if k=id then x else g.x k:=by
 obtain⟨c,_⟩:=ok.js a;show((g.st.set (g.at id).toNat x)[(g.at k).toNat]?).getD ⟨0,0,0⟩=_;by_cases e:k=id
 ·subst e;rw[Hl rfl,H8 c];rfl
 ·rw[Hk e,HL (λd=>e (CM b a d.symm))];rfl
structure kZ (s:Sh):Prop where
 wf:k9 s.bk
 uc:s.g.Ok
 eq:aE s.g.st=(aU s.bk).length
 pf:∀id,0<=s.g.at id->(s.g.x id).p=p0 (aU s.bk) id/\(s.g.x id).b=p1 (aU s.bk) id
 pr:∀i∈aU s.bk,0<=s.g.at i.x.cE
def E4{s:Sh}(h:kZ s)(fl id ln:Nat):kZ (bQ s fl id ln).2/\aE (bQ s fl id ln).2.g.st=aE s.g.st+(if bP s.g fl ln=0 then 1 else 0):=by
 by_cases hm:bP s.g fl ln=0
 ·have hp:=nT h.wf (dI s.r s.now fl ln).1 ⟨fl,id,ln⟩;obtain⟨c,d⟩:=kI h.uc (kf hm);have hi:iR s.g fl ln=s.g.lay fl ln:=by unfold iR;rw[Hl hm]
  have l:=q9 h.uc (n:=ln) c;have e:(bQ s fl id ln).2= {s with g:=iR s.g fl ln,r:=(dI s.r s.now fl ln).2,bk:=e5 s.bk (dI s.r s.now fl ln).1 ⟨fl,id,ln⟩}:=by unfold bQ;rw[Hl hm]
  rw[e,Hl hm,hi];refine⟨⟨tK h.wf _ _,d,?_,λk a=> ?_,λi f=> ?_⟩,l⟩
  ·show aE (s.g.lay fl ln).st=((aU (e5 s.bk _ _)).length:Nat);rw[l,hp.length_eq,Hs,h.eq];omega
  ·have a:0<=s.g.at k:=a;obtain⟨m,o⟩:=h.pf k a;show((s.g.lay fl ln).x k).p=p0 (aU (e5 s.bk _ _)) k/\((s.g.lay fl ln).x k).b=p1 (aU (e5 s.bk _ _)) k;rw[vE hp,vF hp,lQ,lR];unfold Ga.lay;rw[AH h.uc c _ a];by_cases e:k=fl
   ·subst e;rw[Hl rfl,Hl rfl,Hl rfl];exact⟨by show(s.g.x k).p+1=_;rw[m];omega,by show(s.g.x k).b+ln=_;rw[o];exact Nat.add_comm _ _⟩
   ·rw[Hk e,Hk (λj=>e j.symm),Hk (λj=>e j.symm)];exact⟨by rw[m];simp,by rw[o];simp⟩
  ·rcases Ho.1 (hp.mem_iff.1 f)with e|e
   ·subst e;exact c
   ·exact h.pr i e
 ·have e:(bQ s fl id ln).2=k_ s (bP s.g fl ln).toNat:=by unfold bQ;rw[Hk hm]
  rw[e,Hk hm];exact⟨⟨h.wf,h.uc,h.eq,h.pf,h.pr⟩,by show aE s.g.st=_;omega⟩
def E5{s:Sh}(h:kZ s)(t:¬(aM s.bk).2=false)(y:¬s.tok<(aM s.bk).1.x.len):kZ (bO s).2/\aE (bO s).2.g.st=aE s.g.st-1:=by
 obtain⟨i,l,c⟩:∃i l,aU s.bk=i::l:=by
  cases he:aU s.bk with
  |nil=>exact absurd (by unfold aM;rw[he];rfl) t
  |cons i l=>exact⟨i,l,rfl⟩
 have u:(aM s.bk).1=i:=by unfold aM;rw[c];rfl
 have a:aU (h2 s.bk)=l:=by rw[pH,c];rfl
 have v:=h.pr i (by rw[c];exact HX ..);obtain⟨B,C⟩:=h.pf i.x.cE v;rw[c,lQ,Hl rfl]at B
 rw[c,lR,Hl rfl]at C
 have D:jM s.g i.x.cE i.x.len=0:=by
  unfold jM;rw[Hk (by omega),Hk (by omega)]
 have o:fq s.g i.x.cE i.x.len=s.g.put i.x.cE ⟨(s.g.x i.x.cE).p-1,(s.g.x i.x.cE).b-i.x.len,(s.g.x i.x.cE).m⟩:=by unfold fq;rw[Hl D]
 have w:=zq h.uc i.x.cE i.x.len;obtain⟨g1,g2⟩:=h.uc.js v;have z:aE (fq s.g i.x.cE i.x.len).st=aE s.g.st-1:=by
  rw[o];show aE (s.g.st.set _ _)=_;rw[hD _ _ _ g1,<-g2];show aE s.g.st-(s.g.x i.x.cE).p+((s.g.x i.x.cE).p-1)=_;omega
 have d:(bO s).2.g=fq s.g i.x.cE i.x.len:=by unfold bO;rw[Hk t,Hk y,u]
 have f:(bO s).2.bk=h2 s.bk:=by unfold bO;rw[Hk t,Hk y]
 refine⟨⟨by rw[f];exact wu h.wf,by rw[d];exact w,?_,λk n=> ?_,λj A=> ?_⟩,by rw[d];exact z⟩
 ·rw[d,f,z,a,h.eq,c,Hs];omega
 ·rw[d,f,a];rw[d,o]at n
  have n:0<=s.g.at k:=n;obtain⟨q,r⟩:=h.pf k n;rw[c,lQ]at q
  rw[c,lR]at r
  rw[o,AH h.uc v _ n];by_cases e:k=i.x.cE
  ·subst e;rw[Hl rfl]at q r ⊢
   exact⟨by show(s.g.x i.x.cE).p-1=_;omega,by show(s.g.x i.x.cE).b-i.x.len=_;omega⟩
  ·rw[Hk (λf=>e f.symm)]at q r
   rw[Hk e];exact⟨by rw[q];omega,by rw[r];omega⟩
 ·rw[f,a]at A
  rw[d,o];exact h.pr j (by rw[c];exact Iz _ A)
end
section
def E6(p:Po)(x:List UInt8)(h:kZ p.s):kZ (dm p x).2.s/\aE (dm p x).2.s.g.st=aE p.s.g.st+(if(dm p x).1.2=0 then 1 else 0):=by
 unfold dm;split
 ·exact⟨h,by show aE p.s.g.st=aE p.s.g.st+0;omega⟩
 ·split
  ·exact⟨h,by show aE p.s.g.st=_+(if(7:Int)=0 then 1 else 0);rw[Hk (by decide)];omega⟩
  ·split
   ·exact⟨h,by show aE p.s.g.st=aE p.s.g.st+0;omega⟩
   ·split
    ·exact⟨h,by show aE p.s.g.st=_+(if(21:Int)=0 then 1 else 0);rw[Hk (by decide)];omega⟩
    ·rename_i fl _ _ _;have he:=E4 h fl (p.num+1) x.length;split
     ·rename_i hm;rw[Hl hm]at he
      exact⟨he.1,by show aE (bQ _ _ _ _).2.g.st=_+(if(0:Int)=0 then 1 else 0);rw[Hl rfl];exact he.2⟩
     ·rename_i hm;rw[Hk hm]at he
      exact⟨he.1,by show aE (bQ _ _ _ _).2.g.st=aE p.s.g.st+0;exact he.2⟩
def E7(p:Po)(h:kZ p.s):kZ (cm p).2.s/\aE (cm p).2.s.g.st=aE p.s.g.st-(if(cm p).1.2=0 then 1 else 0):=by
 unfold cm;split
 ·exact⟨h,by show aE p.s.g.st=_-(if(18:Int)=0 then 1 else 0);rw[Hk (by decide)];omega⟩
 ·rename_i a;split
  ·exact⟨h,by show aE p.s.g.st=_-(if(19:Int)=0 then 1 else 0);rw[Hk (by decide)];omega⟩
  ·rename_i b;have he:=E5 h a b;exact⟨he.1,by show aE (bO p.s).2.g.st=_-(if(0:Int)=0 then 1 else 0);rw[Hl rfl];exact he.2⟩
def CN(p:Po)(t:Nat)(h:kZ p.s):kZ (h4 p t).s/\aE (h4 p t).s.g.st=aE p.s.g.st:=⟨⟨h.wf,h.uc,h.eq,h.pf,h.pr⟩,rfl⟩
def n9{l:List Nat}{x:Nat}(h:x∈l):x<=l.sum:=by
 induction l with
 |nil=>cases h
 |cons a r b=>
  rw[IK];rcases Ho.1 h with rfl|h
  ·omega
  ·have:=b h;omega
def yk{rf:List Nat}{c:Int}(d:c≠0)(g:0<=c)(h:c<32)(i:rf.length=32)(j:rf.sum<18446744073709551615):(eV rf c).sum=rf.sum+1:=by
 have b:c.toNat<rf.length:=by omega
 unfold eV;rw[Hk d];have e:=qK rf c.toNat (cH (rf.getD c.toNat 0) 1) b;have f:rf.getD c.toNat 0=rf[c.toNat]:=by rw[Hx,Hn b];rfl
 have hm:=n9 (Ht b);rw[f]at e ⊢
 have a:cH rf[c.toNat] 1=rf[c.toNat]+1:=by unfold cH;rw[Hl (by omega)]
 rw[a]at e ⊢
 omega
def sJ:∀(l:List ByteArray) (p:Po) (rf:List Nat),kZ p.s->rf.length=32->rf.sum+l.length<18446744073709551615->kZ (ep p rf l).1.s/\aE (ep p rf l).1.s.g.st+(ep p rf l).2.sum=aE p.s.g.st+rf.sum+l.length
 | [],p,rf,h,_,_=>⟨h,by show aE p.s.g.st+(rf.sum:Nat)=aE p.s.g.st+rf.sum+((0:Nat):Int);omega⟩
 |x::r,p,rf,h,d,f=>by
  rw[Hs]at f
  have a:=E6 p (bl x) h;have e:=rp p (bl x);rw[jF,Hs];by_cases b:(dm p (bl x)).1.2=0
  ·have c:eV rf (dm p (bl x)).1.2=rf:=by unfold eV;rw[Hl b]
   rw[Hl b]at a
   rw[c];have:=sJ r (dm p (bl x)).2 rf a.1 d (by omega);exact⟨this.1,by rw[this.2,a.2];omega⟩
  ·have c:=yk b e.1 e.2 d (by omega);rw[Hk b]at a
   have:=sJ r (dm p (bl x)).2 (eV rf (dm p (bl x)).1.2) a.1 (by rw[pS];exact d) (by rw[c];omega);exact⟨this.1,by rw[this.2,a.2,c];omega⟩
def CO(n:Nat):∀p,kZ p.s->kZ (cF n p).2.s/\aE (cF n p).2.s.g.st+(cF n p).1.length=aE p.s.g.st:=by
 induction n with
 |zero=>intro p h;exact⟨h,by show aE p.s.g.st+((0:Nat):Int)=_;omega⟩
 |succ n c=>
  intro p h;have a:=E7 p h;by_cases b:(cm p).1.2=0
  ·rw[Hl b]at a
   rw[kQ b];have:=c (cm p).2 a.1;refine⟨this.1,?_⟩;show aE (cF n (cm p).2).2.s.g.st+((tx (cm p).1.1::(cF n (cm p).2).1).length:Nat)=_;rw[Hs];have d:=this.2;rw[a.2]at d
   omega
  ·rw[Hk b]at a
   rw[km b];exact⟨a.1,by show aE (cm p).2.s.g.st+((0:Nat):Int)=_;rw[a.2];omega⟩
def c3(l:ct):Int:=l.2.1.length+aE l.1.s.g.st+(l.2.2.sum:Nat)
structure yl (l:ct):Prop where
 sx:kZ l.1.s
 rl:l.2.2.length=32
def E8{batch:Nat}{l:ct}(h:yl l)(d:l.2.2.sum+l.2.1.length<18446744073709551615):yl (fX batch l).2/\c3 (fX batch l).2+(fX batch l).1.length=c3 l:=by
 have a:=sJ (l.2.1.take batch) l.1 l.2.2 h.sx h.rl (by rw[HG];omega);have b:=CO batch (ep l.1 l.2.2 (l.2.1.take batch)).1 a.1;refine⟨⟨b.1,(tV _ _ _).trans h.rl⟩,?_⟩;show((l.2.1.drop batch).length:Int)+aE (cF batch _).2.s.g.st+((ep l.1 l.2.2 (l.2.1.take batch)).2.sum:Nat)+((cF batch _).1.length:Nat)=l.2.1.length+aE l.1.s.g.st+(l.2.2.sum:Nat);have c:=a.2;have e:=b.2;rw[HG]at c
 rw[IU];omega
def E9{t:Nat}{l:ct}(h:yl l):yl (mJ t l)/\c3 (mJ t l)=c3 l:=⟨⟨(CN l.1 t h.sx).1,h.rl⟩,rfl⟩
def p2:∀(l:List dF),aE (l.map gY)=0
 | []=>rfl
 |f::r=>by
  show(gY f).p+aE (r.map gY)=0;rw[p2 r];rfl
def E_{pc:jC}(a:pc.Ok)(d:pc.Good):kZ (dZ pc (dn pc.c)).s:=by
 have hi:=kT pc.c;refine⟨tY d.dr,ng a.c (jy d.dr).2.2.1,?_,λid e=> ?_,λi h=> ?_⟩
 ·show aE (pc.c.av.map gY)=((aU (dn pc.c)).length:Nat);rw[hi,p2];rfl
 ·show((hj pc.c).x id).p=p0 (aU (dn pc.c)) id/\((hj pc.c).x id).b=p1 (aU (dn pc.c)) id;rw[hi];show((((pc.c.av.map gY)[((hj pc.c).at id).toNat]?).getD ⟨0,0,0⟩).p=0)/\((((pc.c.av.map gY)[((hj pc.c).at id).toNat]?).getD ⟨0,0,0⟩).b=0);rw[H2];cases pc.c.av[((hj pc.c).at id).toNat]? with
  |none=>exact⟨rfl,rfl⟩
  |some f=>exact⟨rfl,rfl⟩
 ·have h:i∈aU (dn pc.c):=h;rw[hi]at h;cases h
end
section
open Go Go.RowKit Go.Shelf
def CP:gL Tryz.prog 59 3 (.int .i64 0) 1 8:=⟨Tryz.underlying59,by kernel_rfl,rfl,by decide⟩
def GH(x:Int):List Value:=[.int .i64 x]
def jK(a:List Int):List Value:=a.map λx=>Value.int .i64 x
structure k0 (w0 wr:World) (d:aX) (cin:Nat) (ls:List Ln) (vs:List Int):Prop where
 dv:c2 wr {d with ls:=ls}
 blk:ag wr cin (jK vs) 3
 kp:Kp ae w0 wr
 CQ:∀x,({d with ls:=ls}:aX).aJ x->w0.heap.size<=x
 wO:w0.heap.size<=cin
 cth:d.d_<=cin
 cvo:d.v.ownBlock≠some cin
 out:¬({d with ls:=ls}:aX).aJ cin
 ll:ls.length=d.ls.length
 vl:vs.length=d.ls.length
def k0.next{w0 wr w':World}{d:aX}{cin:Nat}{ls a:List Ln}{b:List Int}(h:k0 w0 wr d cin ls b)(g:dK wr w' {d with ls:=ls} a)(f:a.length=ls.length):k0 w0 w' d cin a b:=by
 have hz:=h.kp.size;have i:=h.blk.lt;refine⟨g.dv,h.blk.kp g.kp (λe=>h.out (aX.h6 e)),h.kp.then g.kp (λx c e=>by have:=h.CQ x (aX.h6 e);omega),λx c=> ?_,h.wO,h.cth,h.cvo,λe=> ?_,f.trans h.ll,h.vl⟩
 ·rcases g.nf x c with e|e
  ·exact h.CQ x e
  ·omega
 ·rcases g.nf cin e with e|e
  ·exact h.out e
  ·omega
def k0.old{w0 wr w':World}{d:aX}{cin:Nat}{ls:List Ln}{a:List Int}(h:k0 w0 wr d cin ls a)(k:Kp ae wr w'):k0 w0 w' d cin ls a:=h.next ((dK.refl h.dv).old k) rfl
def vG(a:List Int)(k:Nat)(v:Int):(jK a).set k (.int .i64 v)=jK (a.set k v):=by unfold jK;rw[Is]
def nA(a:List Int){k:Nat}(h:k<a.length):(jK a)[k]? =some (.int .i64 a[k]):=by unfold jK;rw[H2,Hn h];rfl
def k0.Dj{w0 wr:World}{d:aX}{cin:Nat}{ls:List Ln}{a:List Int}(h:k0 w0 wr d cin ls a)(k:Nat)(v:Int):k0 w0 (wr.setCell ⟨cin,k,none⟩ (.int .i64 v)) d cin ls (a.set k v):=by
 have c:Kp (λb=>b=cin) wr (wr.setCell ⟨cin,k,none⟩ (.int .i64 v)):=(Kp.refl (λb=>b=cin) wr).set (p:=⟨cin,k,none⟩) (.inl rfl) _;refine⟨h.dv.qh c (λx e=>e▸h.cth) (λx e=>e▸h.cvo) (λx e l g f=>h.out (e▸⟨l,g,f⟩)),?_,h.kp.then c (λx f e=>by have e:x=cin:=e;have:=h.wO;omega),h.CQ,h.wO,h.cth,h.cvo,h.out,h.ll,by rw[Hr];exact h.vl⟩;have:=h.blk.set k (.int .i64 v);rw[vG]at this
 exact this
def i_(l:List (Nat×ByteArray))(i:Nat):Nat:=(l.map λo=>if o.1=i then 1 else 0).sum
def lS(o:Nat×ByteArray)(l:List (Nat×ByteArray))(i:Nat):i_ (o::l) i=(if o.1=i then 1 else 0)+i_ l i:=rfl
def ym(a b:List (Nat×ByteArray))(i:Nat):i_ (a++b) i=i_ a i+i_ b i:=by unfold i_;rw[HE,Kt]
def yn(l:List ByteArray)(j i:Nat):i_ (l.map λs=>(j,s)) i=if j=i then l.length else 0:=by
 induction l with
 |nil=>simp[i_]
 |cons a r b=>
  rw[HA,lS,b,Hs];split<;>omega
def p3(b:Nat):∀(L:List ct) (j i:Nat),i_ (b4 b j L) i=if h:j<=i/\i-j<L.length then(fX b (L[i-j]'h.2)).1.length else 0
 | [],j,i=>by rw[dif_neg (by simp)];rfl
 |l::r,j,i=>by
  show i_ (_++b4 b (j+1) r) i=_;rw[ym,yn,p3 b r (j+1) i];by_cases e:j=i
  ·subst e;rw[Hl rfl,dif_neg (by omega),dif_pos ⟨Hm _,by rw[Jn,Hs];omega⟩];simp
  ·rw[Hk e];by_cases h:j<=i/\i-j<(l::r).length
   ·have a:i-j=(i-(j+1))+1:=by omega
    have c:i-(j+1)<r.length:=by have:=h.2;rw[Hs]at this;omega
    rw[dif_pos h,dif_pos ⟨by omega,c⟩,HR];congr 2;simp only[a,Kg]
   ·rw[dif_neg h,dif_neg (λd=>h ⟨by omega,by rw[Hs];omega⟩)]
def ud(b:Nat):∀(L:List ct) (j:Nat) (o:Nat×ByteArray),o∈b4 b j L->o.1<j+L.length
 | [],_,_,h=>by cases h
 |l::r,j,o,h=>by
  rcases Hu.1 (show o∈(_++b4 b (j+1) r)from h)with h|h
  ·obtain⟨s,_,rfl⟩:=Hw.1 h;show j<j+(l::r).length;rw[Hs];omega
  ·have:=ud b r (j+1) o h;rw[Hs];omega
structure jT (N:Nat) (l:ct):Prop where
 x:yl l
 b:h_ N l
 c:c3 l<=N
def mK{l:ct}(h:yl l):(l.2.1.length:Int)<=c3 l/\((l.2.2.sum:Nat):Int)+l.2.1.length<=c3 l/\0<=aE l.1.s.g.st:=by
 have:=h.sx.eq;unfold c3;omega
def jT.step{N:Nat}{batch:Nat}{l:ct}(e:N<=1000000)(h:jT N l)(f:batch<=64):jT (N+64) (fX batch l).2/\c3 (fX batch l).2+(fX batch l).1.length=c3 l:=by
 have g:=mK h.x;have i:=h.c;have a:=E8 (batch:=batch) h.x (by omega);have j:=Ah batch l;refine⟨⟨a.1,⟨by have:=h.b.bk;omega,by have:=h.b.num;omega,λx d=>h.b.q x (List.mem_of_mem_drop d),pV _ _ h.b.rf⟩,by omega⟩,a.2⟩
def jT.tick{N t:Nat}{l:ct}(h:jT N l):jT (N+64) (mJ t l)/\c3 (mJ t l)=c3 l:=
 ⟨⟨(E9 h.x).1,⟨by have:=h.b.bk;show cq l.1.s.bk<=_;omega,by have:=h.b.num;show l.1.num<=_;omega,h.b.q,h.b.rf⟩,by have:=h.c;show c3 l<=_;omega⟩,rfl⟩
def jT.more{N:Nat}{l:ct}(h:jT N l):jT (N+64) l:=⟨h.x,⟨by have:=h.b.bk;omega,by have:=h.b.num;omega,h.b.q,h.b.rf⟩,by have:=h.c;omega⟩
def jT.put{N:Nat}{l:ct}(h:jT N l)(s:ByteArray)(d:s.size<=100000):jT (N+64) (l.1,l.2.1++[s],l.2.2)/\c3 (l.1,l.2.1++[s],l.2.2)=c3 l+1:=by
 have e:c3 (l.1,l.2.1++[s],l.2.2)=c3 l+1:=by
  unfold c3;show(((l.2.1++[s]).length:Nat):Int)+aE l.1.s.g.st+((l.2.2.sum:Nat):Int)=_;rw[HK,KH];omega
 refine⟨⟨⟨h.x.sx,h.x.rl⟩,⟨by have:=h.b.bk;show cq l.1.s.bk<=_;omega,by have:=h.b.num;show l.1.num<=_;omega,λx a=> ?_,h.b.rf⟩,by have:=h.c;rw[e];omega⟩,e⟩;rcases Hu.1 (show x∈l.2.1++[s]from a)with a|a
 ·exact h.b.q x a
 ·rw[H0.1 a];exact d
def Fa(s:Sh)(h:s.ref.length=32)(W:World):(Instr.field 56 (.agg (bZ s).toArray) 2).run Tryz.prog W=.ok (.int .i64 (aE s.g.st)) W:=by
 unfold bZ;obtain⟨a0,a1,a2,a3,a4,a5,a6,a7,n,a9,a,b,a12,c,d,f,i,j,k,l,a20,a21,a22,a23,a24,a25,a26,a27,a28,m,a30,a31,e⟩:=ox s.ref h;rw[e];kernel_rfl
def Fc(n:Nat):(List.replicate n (0:Int)).flatMap GH=jK (List.replicate n 0):=by
 induction n with
 |zero=>rfl
 |succ n a=>rw[JE,Iv,a];rfl
def jT.zero{pc:jC}(a:pc.Ok)(d:pc.Good):jT 0 (dZ pc (dn pc.c),[],g_)/\c3 (dZ pc (dn pc.c),[],g_)=0:=by
 have b:=E_ a d;have f:aE (dZ pc (dn pc.c)).s.g.st=0:=by rw[b.eq];show((aU (dn pc.c)).length:Int)=0;rw[kT];rfl
 have hz:g_.sum=0:=by decide
 have e:c3 (dZ pc (dn pc.c),[],g_)=0:=by
  unfold c3;show((0:Nat):Int)+aE (dZ pc (dn pc.c)).s.g.st+((g_.sum:Nat):Int)=0;rw[f,hz];rfl
 exact⟨⟨⟨b,rfl⟩,Di pc,by rw[e];exact JS _⟩,e⟩
structure iD (N:Nat) (ls:List Ln) (vs:List Int):Prop where
 k:∀l∈ls,jT N (aC l)
 v:vs=ls.map λl=>c3 (aC l)
def oD{ls:List Ln}{P:ct->Prop}(h:∀x∈ls.map aC,P x):∀l∈ls,P (aC l):=λl a=>h _ (Hw.2 ⟨l,a,rfl⟩)
def sK{ls:List Ln}{P:ct->Prop}(h:∀l∈ls,P (aC l)):∀x∈ls.map aC,P x:=λx a=>by
 obtain⟨l,b,rfl⟩:=Hw.1 a;exact h l b
def iD.same{N:Nat}{ls a:List Ln}{b:List Int}(h:iD N ls b)(e:a.map aC=ls.map aC):iD N a b:=
 ⟨oD (by rw[e];exact sK h.k),by
  have c:a.map (λl=>c3 (aC l))=(a.map aC).map c3:=by rw[I6];rfl
  have d:ls.map (λl=>c3 (aC l))=(ls.map aC).map c3:=by rw[I6];rfl
  rw[c,e,<-d];exact h.v⟩
def iD.tick{N t:Nat}{ls a:List Ln}{b:List Int}(h:iD N ls b)(e:a.map aC=(ls.map aC).map (mJ t)):iD (N+64) a b:=by
 refine⟨oD (λx c=> ?_),?_⟩
 ·rw[e]at c
  obtain⟨y,hy,rfl⟩:=Hw.1 c;exact(sK h.k y hy).tick.1
 ·have d:a.map (λl=>c3 (aC l))=(a.map aC).map c3:=by rw[I6];rfl
  rw[d,e,I6,h.v,I6];rfl
def iD.more{N:Nat}{ls:List Ln}{a:List Int}(h:iD N ls a):iD (N+64) ls a:=⟨λl b=>(h.k l b).more,h.v⟩
def iD.put{N:Nat}{ls:List Ln}{a:List Int}(h:iD N ls a)(s:ByteArray)(e:s.size<=100000)(i:Nat)(hi:i<ls.length)(f:i<a.length):iD (N+64) (ls.set i {ls[i]with q:=ls[i].q++[s]}) (a.set i (a[i]+1)):=by
 have d:=(h.k _ (Ht hi)).put s e;refine⟨λl b=> ?_,?_⟩
 ·rcases Il b with b|rfl
  ·exact(h.k l b).more
  ·exact d.1
 ·have c:a[i]=c3 (aC ls[i]):=by simp only[h.v,Ip]
  rw[Is,c]
  conv=>lhs;rw[h.v]
  congr 1;exact d.2.symm
structure qi (N batch k:Nat) (L:List ct) (ls2:List Ln) (vs:List Int):Prop where
 k2:∀l∈ls2,jT N (aC l)
 st:ls2.map aC=dD batch L
 vl:vs.length=L.length
 v:∀i (hi:i<vs.length) (h2:i<ls2.length),vs[i]=c3 (aC ls2[i])+i_ ((b4 batch 0 L).drop k) i
def qi.start{N batch:Nat}{ls a:List Ln}{b:List Int}(d:N<=1000000)(f:batch<=64)(h:iD N ls b)(e:a.map aC=dD batch (ls.map aC)):qi (N+64) batch 0 (ls.map aC) a b:=by
 refine⟨oD (λx g=> ?_),e,by rw[h.v,Hq,Hq],λi hi j=> ?_⟩
 ·rw[e]at g
  obtain⟨y,hy,rfl⟩:=Hw.1 g;exact((sK h.k y hy).step d f).1
 ·have c:i<ls.length:=by rw[h.v,Hq]at hi;exact hi
  have l:aC a[i]=(fX batch (aC ls[i])).2:=by
   have a1:(a.map aC)[i]'(by rw[Hq];exact j)=aC a[i]:=Ip ..;rw[<-a1];simp only[e,dD,Ip]
  have n:=((h.k _ (Ht c)).step d f).2;have m:b[i]=c3 (aC ls[i]):=by simp only[h.v,Ip]
  rw[JJ,p3,dif_pos ⟨Hv _,by rw[Hq];omega⟩,l,m];simp only[J6,Ip];omega
def qi.next{N batch k:Nat}{L:List ct}{a:List Ln}{b:List Int}(h:qi N batch k L a b){p:Nat}{s:ByteArray}(g:(b4 batch 0 L)[k]? =some (p,s))(hp:p<b.length):qi N batch (k+1) L a (b.set p (b[p]-1)):=by
 obtain⟨c,d⟩:=HD.1 g;refine⟨h.k2,h.st,by rw[Hr];exact h.vl,λi hi j=> ?_⟩;rw[Hr]at hi
 have f:=h.v i hi j;rw[Ii c,d,lS]at f
 rw[List.getElem_set];by_cases e:p=i
 ·subst e;rw[Hl rfl]at f ⊢
  omega
 ·rw[Hk e]at f ⊢
  omega
def qi.done{N batch k:Nat}{L:List ct}{a:List Ln}{b:List Int}(h:qi N batch k L a b)(d:(b4 batch 0 L).length<=k):iD N a b:=by
 have e:a.length=L.length:=by have:=HC List.length h.st;rw[Hq]at this;unfold dD at this;rw[Hq]at this;exact this
 refine⟨h.k2,K3 (by rw[Hq,h.vl,e]) λi f c=> ?_⟩;rw[Hq]at c
 rw[Ip,h.v i f c,Jr d];show _+((0:Nat):Int)=_;omega
def Fe{w0 wr:World}{d:aX}{cin N A i db:Nat}{ls:List Ln}{h:List Int}(r:k0 w0 wr d cin ls h)(C:iD N ls h)(V:N<=10000)(L:i<A)(t:d.ls.length=A)(D:d.db=db):
    ∃(bx:Nat) (l:Int) (J:List Value) (rf:List Nat),
     Calls Tryz.prog 14 #[.pointer (some ⟨db,0,none⟩),.int .i64 i] wr (λe w'=>e=.returned (.int .i64 bx)/\wr=w')/\
     Calls Tryz.prog 15 #[.pointer (some ⟨db,0,none⟩),.int .i64 i] wr (λe w'=>e=.returned (.agg J.toArray)/\∃a,k0 w0 w' d cin a h/\iD N a h/\
      ∀k:Nat,k<32->Calls Tryz.prog 16 #[.pointer (some ⟨db,0,none⟩),.int .i64 i,.int .i64 k] w' λe M=>e=.returned (.int .u64 (rf.getD k 0:Nat))/\w'=M)/\
     (∀W,(Instr.field 56 (.agg J.toArray) 2).run Tryz.prog W=.ok (.int .i64 l) W)/\
     rf.length=32/\
     (0<=(bx:Int)+l/\(bx:Int)+l<=10000/\0<=l/\l<=10000/\rf.sum<=10000/\(bx:Int)+l+(rf.sum:Nat)<=10000)/\
     (∀w':World,ag w' cin (jK h) 3->w'.cell? ⟨cin,i,none⟩=some (.int .i64 ((bx:Int)+l+(rf.sum:Nat)))):=by
 have O:ls.length=A:=r.ll.trans t;have P:h.length=A:=r.vl.trans t;have f:i<ls.length:=by omega
 have m:Value.pointer (some ⟨({d with ls:=ls}:aX).db,0,none⟩)=Value.pointer (some ⟨db,0,none⟩):=HC (λx:Nat=>Value.pointer (some ⟨x,0,none⟩)) D;have u:=sG r.dv i f;rw[m]at u
 have j:=C.k ls[i] (Ht f);have w:=sH r.dv i f (by have:=j.b.bk;have K:cq ls[i].p.s.bk<=N:=this;show cq ls[i].p.s.bk<_;omega);rw[m]at w
 have E:=mK j.x;have F:=j.c;have n:c3 (aC ls[i])=ls[i].q.length+aE ls[i].p.s.g.st+(ls[i].rf.sum:Nat):=rfl;have Q:(aC ls[i]).2.1=ls[i].q:=rfl;have K:(aC ls[i]).2.2=ls[i].rf:=rfl;have R:(aC ls[i]).1.s.g.st=ls[i].p.s.g.st:=rfl;rw[Q,K,R,n]at E
 rw[n]at F
 have G:i<h.length:=by omega
 have H:h[i]=ls[i].q.length+aE ls[i].p.s.g.st+(ls[i].rf.sum:Nat):=by rw[<-n];simp only[C.v,Ip]
 refine⟨ls[i].q.length,aE ls[i].p.s.g.st,bZ ls[i].p.s,ls[i].rf,u,w.mono ?_,Fa ls[i].p.s (r.dv.ln _ (Ht f)).po.sh.ok.len,j.x.rl,by omega,λw' S=>by rw[<-H];exact S.cell i (nA h G)⟩;rintro e w' ⟨rfl,a,g2,g3,g4,g5,g6⟩;have I:a.length=ls.length:=by have:=HC List.length g3;rw[Hq,Hq]at this;exact this
 have y:=r.next ⟨g2,g4,g5,g6⟩ I;refine⟨rfl,a,y,C.same g3,λk T=> ?_⟩;have o:i<a.length:=by omega
 have z:a[i].rf=ls[i].rf:=by
  have B:(a.map aC)[i]? =some (aC a[i]):=by rw[H2,Hn o];rfl
  have U:(ls.map aC)[i]? =some (aC ls[i]):=by rw[H2,Hn f];rfl
  rw[g3,U]at B
  injection B with B;exact(HC (λx:ct=>x.2.2) B).symm
 have:=yj y.dv i o k T;rw[show Value.pointer (some ⟨({d with ls:=a}:aX).db,0,none⟩)=Value.pointer (some ⟨db,0,none⟩)from m,show(({d with ls:=a}:aX).ls[i]'o).rf=ls[i].rf from z]at this
 exact this
def CR(ps:List fi)(D:List bX)(room batch:Int)(l:List jR)(bP:∀a∈l,a.Ok)(ho:∀r∈D,r.Ok)(pv rv v:Value)(w:World)(a6:mD w ps)(aP:Sl w pv ps.length 16 (ps.flatMap bE))(a7:Sl w rv D.length 3 (D.flatMap fw))(hs:Sl w v l.length 10 (l.flatMap iW))(hT:dH w):
    Calls Tryz.prog 4 #[.agg #[pv,rv,.int .i64 room,.int .i64 batch],v] w λe w'=>e=.returned (.bool true)/\Kp ae w w':=by
 obtain⟨ap,cp,rfl⟩:∃ap cp,pv=.slice ap ps.length cp:=by obtain⟨ao,cap,rfl,_⟩:=aP.is;exact⟨_,_,rfl⟩
 obtain⟨ar,cr,rfl⟩:∃ar cr,rv=.slice ar D.length cr:=by obtain⟨ao,cap,rfl,_⟩:=a7.is;exact⟨_,_,rfl⟩
 obtain⟨ao,cap,rfl⟩:∃ao cap,v=.slice ao l.length cap:=by obtain⟨_,_,ao,cap,rfl,_⟩:=hs;exact⟨_,_,rfl⟩
 have bQ:=aa (λW (k:Kp ae w W)=>De ps D.length ar cr room batch l W (λq I=>(a6.old k).mem q I) _ _ (aP.old k) (hs.old k));have a8:=aa (λW (k:Kp ae w W)=>wN W (hT.kp k (λx=>x)));have ak:=aa a6;have bR:=aa aP;have bS:=aa a7;have dQ:=aa hs;have dJ:=aa hT;have cY:=aa bP;have cX:=aa ho;have bT:=aa (ag.new w [.slice ap ps.length cp,.slice ar D.length cr,.int .i64 room,.int .i64 batch] 25);have a9:=aa ((Kp.refl ae w).alloc (.cells #[.slice ap ps.length cp,.slice ar D.length cr,.int .i64 room,.int .i64 batch] 25));clear a6 aP a7 hs hT bP ho;refine al ?_;intro PP dL;have aB:Hid (∀W,Kp ae w W->PP (.returned (.bool true)) W):=aa (λW k=>dL.out _ _ ⟨rfl,k⟩);clear dL;go_enter Tryz.func4,Tryz.ntmps4;go_wp2_with fail;refine(bQ.out _ a9.out).mono ?_;rintro e w1 ⟨⟨b,rfl,bU⟩,ba⟩;have Y:=aa (a9.out.trans ba);have bb:=aa bU;have Z:=aa (bT.out.kp ba (λx=>x));clear ba bU bQ bT;cases b with
 |true=>
  clear bb Z;go_wp2_with fail;refine(a8.out _ Y.out).mono ?_;rintro e w4 ⟨rfl,Q⟩;have aD:=aa (aB.out w4 (Y.out.trans Q));clear Q;go_wp2_with fail;exact aD.out
 |false=>
  obtain⟨bc,dM,aE,dR,dT⟩:=bb.out rfl;have bV:=aa aE;have d0:=Z.out.ai;have d1:=Z.out.aj;have d2:=Z.out.aq;have d3:=Z.out.aK;have bW:=aa (vy ps D room batch w1 (by omega) (by omega) ((ak.out.old Y.out).mem) _ _ (bR.out.old Y.out) (bS.out.old Y.out));clear bb bc aE;go_wp2_with fail;refine(bW.out).mono ?_;rintro e w2 ⟨bY,bZ,rfl,af,ah,be⟩;have J:=aa (Y.out.trans be);have bf:=aa (Z.out.kp be (λx=>x));clear be d0 d1 d2 d3 bW Z;by_cases hE:nk ps D room batch=0
  case neg=>
   have hn:=wL ps D room batch w2 (ak.out.old J.out) cX.out (by omega) bY bZ af ah hE;obtain⟨E,b_⟩:∃E,nk ps D room batch=E:=⟨_,rfl⟩
   rw[b_]at hn hE
   have cc:=aa hn;clear hn b_ af ah bf bV;go_wp2_with fail;refine(cc.out).mono ?_;rintro e w3 ⟨rfl,M⟩;have aF:=aa (J.out.trans M);clear M cc;go_wp2_with fail;refine(a8.out _ aF.out).mono ?_;rintro e w4 ⟨rfl,Q⟩;have aD:=aa (aB.out w4 (aF.out.trans Q));clear Q;go_wp2_with fail;exact aD.out
  have cc:=aa (sF ps D room batch w2 (ak.out.old J.out) cX.out (by omega) bY bZ af ah hE);have bO:=aa (nl hE);clear af ah hE bR bS;go_wp2_with fail;refine(cc.out).mono ?_;rintro e w3 ⟨d,rfl,S,cd,cZ,cf,F,aQ,M⟩;have aF:=aa (J.out.trans M);have cg:=bf.out.kp M (λx=>x);have d0:=cg.ai;have bg:d.ls.length=ps.length:=by have:=HC List.length F;rw[Hq,Hq]at this;exact this
  obtain⟨C,av⟩:∃C,ps.length=C:=⟨_,rfl⟩
  have ch:=ew CP GH (λ_=>rfl) 0 rfl C (by omega) (by omega) w3;rw[Fc]at ch
  have cj:=M.size;have ck:=J.out.size;have c2:=S.lh;have c4:=S.lo;have bh:k0 w (w3.alloc (.cells (jK (List.replicate C 0)).toArray 3)) d w3.heap.size d.ls (List.replicate C 0):=
   {dv:=S.old ((Kp.refl ae w3).alloc _),blk:=ag.new w3 _ _,kp:=aF.out.alloc _,
    CQ:=λx ⟨m,hm,V⟩=>by have:=(S.at_ m hm x V).1;omega,
    wO:=aF.out.size,cth:=S.hsz,cvo:=λe=>by have:=(an S.row e).2;omega,
    out:=λ⟨m,hm,V⟩=>by have:=(S.ln m hm).lt V;omega,ll:=rfl,vl:=by rw[Ic,bg,av]}
  have cl:iD (64*0) d.ls (List.replicate C 0):=by
   refine⟨oD (λx V=> ?_),?_⟩
   ·rw[F]at V
    obtain⟨q,I,rfl⟩:=Hw.1 V;exact(jT.zero (ak.out.ok q I) (bO.out.fF q I)).1
   ·have e1:d.ls.map (λl=>c3 (aC l))=(d.ls.map aC).map c3:=by rw[I6];rfl
    rw[e1,F,I6,<-av];refine K3 (by rw[Ic,Hq]) λi h1 h2=> ?_;rw[List.getElem_replicate,Ip];rw[Hq]at h2
    exact(jT.zero (ak.out.ok _ (Ht h2)) (bO.out.fF _ (Ht h2))).2.symm
  have cm:=aa (AG cd (mI bO.out.x9) cX.out);have cn:d.batch<=64:=by rw[cf];have:=bO.out.bt;omega
  have c5:C<=8/\1<=C:=by have:=bO.out.n8;omega
  have c6:0<w.heap.size:=oC dJ.out;have c7:Hid (0<d.d_):=aa (by omega);obtain⟨cin,aW⟩:∃cin,w3.heap.size=cin:=⟨_,rfl⟩
  rw[aW]at bh ch
  have cs:=aa bh;have ct:=aa cl;have aw:=aa (bg.trans av);rw[av]at cm d0
  rw[av];obtain⟨db,aG⟩:∃db,d.db=db:=⟨_,rfl⟩
  have cu:=aa aG;have bi:Hid (Value.pointer (some ⟨d.db,0,none⟩)=Value.pointer (some ⟨db,0,none⟩)):=aa (by rw[cu.out]);rw[aG];have bj:=aa cn;clear bh cl S cd cZ cf F aQ M cg bf bg av cj ck c2 c4 cn c6 aG cc ak bO J Y a9 cX aW;go_wp2_with fail;go_loopg [40] l.length (λg c8 wr=>∃(j:Nat) (ls:List Ln) (vs:List Int),j<=l.length/\c8=.int .i64 j/\g=l.length-j/\Hid (k0 w wr d cin ls vs)/\Hid (iD (64*j) ls vs))
  case atStart=>exact⟨0,d.ls,_,Hv _,rfl,rfl,cs,ct⟩
  case round=>
   clear cs ct d0;obtain⟨j,ls,vs,hj,rfl,cv,z,A⟩:=hrel;have c9:=aa cv;clear cv;by_cases aR:j<l.length
   ·have c_:(j:Int)<l.length:=by omega
    obtain⟨ab,off,dN,e1,f⟩:=z1 (dQ.out.old z.out.kp) j aR;injection e1 with e1 _ e3;subst e1 e3;obtain⟨a,ha⟩:∃a,l[j]=a:=⟨_,rfl⟩
    have bm:=cY.out a (by rw[<-ha];exact Ht aR);have bn:=bV.out a (by rw[<-ha];exact Ht aR);rw[ha]at f
    have aS:=λW=>wy a bm bn W;have bp:=pZ bn;obtain⟨y,hy⟩:∃y,fV a=y:=⟨_,rfl⟩
    rw[hy]at aS bp
    obtain⟨kd,⟨ds,id,bG,sr,dd,sp,dp⟩,bo,tk⟩:=a;have ax:tk<18446744073709551616:=bm.fC;have d0:wr.cell? ⟨ab,off+j*10,none⟩=some (.int .u8 kd):=f 0 _ rfl;have d1:wr.cell? ⟨ab,off+j*10+1,none⟩=some (.int .u8 ds):=f 1 _ rfl;have d2:wr.cell? ⟨ab,off+j*10+2,none⟩=some (.int .u16 id):=f 2 _ rfl;have d3:wr.cell? ⟨ab,off+j*10+3,none⟩=some (.int .u8 bG):=f 3 _ rfl;have d4:wr.cell? ⟨ab,off+j*10+4,none⟩=some (.int .u32 sr):=f 4 _ rfl;have d5:wr.cell? ⟨ab,off+j*10+5,none⟩=some (.int .u32 dd):=f 5 _ rfl;have d6:wr.cell? ⟨ab,off+j*10+6,none⟩=some (.int .u16 sp):=f 6 _ rfl;have d7:wr.cell? ⟨ab,off+j*10+7,none⟩=some (.int .u16 dp):=f 7 _ rfl;have d8:wr.cell? ⟨ab,off+j*10+8,none⟩=some (.string bo):=f 8 _ rfl;have d9:wr.cell? ⟨ab,off+j*10+9,none⟩=some (.int .u64 tk):=f 9 _ rfl;simp only[iW]at aS;have cw:=aa aS;have cx:=aa (z.out.old ((Kp.refl ae wr).alloc (.cells #[.int .u8 kd,.int .u8 ds,.int .u16 id,.int .u8 bG,.int .u32 sr,.int .u32 dd,.int .u16 sp,.int .u16 dp,.string bo,.int .u64 tk] 44)));have G:=aa (ag.new wr [.int .u8 kd,.int .u8 ds,.int .u16 id,.int .u8 bG,.int .u32 sr,.int .u32 dd,.int .u16 sp,.int .u16 dp,.string bo,.int .u64 tk] 44);have cy:=aa bp;have da:=aa ax;clear f aS hy bp ha bm bn z ax;go_upto_block 2 with(fail)
    generalize wr.alloc (.cells #[.int .u8 kd,.int .u8 ds,.int .u16 id,.int .u8 bG,.int .u32 sr,.int .u32 dd,.int .u16 sp,.int .u16 dp,.string bo,.int .u64 tk] 44)=wx at*;generalize wr.heap.size=q0 at*;clear d0 d1 d2 d3 d4 d5 d6 d7 d8 d9;have z:=cx;clear cx;go_cut [] (λwc=>∃(ls:List Ln) (vs:List Int),Hid (k0 w wc d cin ls vs)/\Hid (iD (64*(j+1)) ls vs))
    case first=>
     have b0:=G.out.ai;have b3:=G.out.ea;have b1:=G.out.aj;have b2:=G.out.aq;have dc:=G.out.aK;have b5:=G.out.a_;have b6:=G.out.bN;have b7:=G.out.du;have b8:=G.out.eN;have b9:=G.out.eu;have H:ls.length=C:=z.out.ll.trans aw.out;have N:vs.length=C:=z.out.vl.trans aw.out;have cz:((kd:Int)%8=0\/(kd:Int)%8=1\/(kd:Int)%8=2\/(kd:Int)%8=3)\/(kd:Int)%8=7\/((kd:Int)%8=4\/(kd:Int)%8=5\/(kd:Int)%8=6):=by omega
     rcases cz with I|I|I
     ·obtain⟨R,hR⟩:∃R,dS d.T d.room (ls.map aC) (bl y)=R:=⟨_,rfl⟩
      have ac:∀W,Kp ae wx W->Calls Tryz.prog 9 #[.pointer (some ⟨d.db,0,none⟩),.string y] W λe w'=>e=.returned (.tuple #[.int .i64 R.1,.int .i64 R.2])/\∃h,dK W w' {d with ls:=ls} h/\(R.2≠0/\R.1=0/\h=ls\/R.2=0/\∃hi:R.1<ls.length,h=ls.set R.1 {ls[R.1]'hi with q:=(ls[R.1]'hi).q++[y]}):=λW k=>by
       subst hR;exact AF (z.out.old k).dv y (by have:=cy.out;omega) (λa hu=>by show _<ls.length;rw[H];exact cm.out a hu)
      obtain⟨at_,er⟩:=R;rw[bi.out]at ac
      simp only at ac;have aH:=aa ac;clear ac hR;rcases I with I|I|I|I;all_goals
       have ay:=aa (HC (Value.int .u8) I);go_wp2_with fail;refine(cw.out _).mono ?_;rintro e w2 ⟨rfl,k2⟩;have J:=aa k2;clear k2 b0 b1 b2 b3 dc b5 b6 b7 b8 b9;go_wp2_with fail;refine(aH.out _ J.out).mono ?_;rintro e w3 ⟨rfl,h,K,bq⟩;rcases bq with⟨he,rfl,rfl⟩|⟨rfl,hi,rfl⟩
       ·have br:=aa ((z.out.old J.out).next K rfl);have dU:¬(C:Int)<=0:=by omega
        clear K aH z H N;go_wp2_with fail;try rw[<-ay.out]
        go_meet;exact⟨_,_,br,aa A.out.more⟩
       ·have aT:=(z.out.old J.out).next K (by rw[Hr]);have U:at_<vs.length:=by rw[N,<-H];exact hi
        have bs:=A.out.put y (by have:=cy.out;omega) at_ hi U;have aI:vs[at_]=c3 (aC ls[at_]):=by simp only[A.out.v,Ip]
        have bv:=mK (A.out.k _ (Ht hi)).x;have bw:=(A.out.k _ (Ht hi)).c;have c0:=aT.blk.cell at_ (nA vs U);have z0:=aT.blk.fz at_;have ad:=aT.Dj at_ (vs[at_]+1);obtain⟨x,V⟩:∃x,vs[at_]=x:=⟨_,rfl⟩
        rw[V]at c0 aI bs ad
        have de:0<=x/\x<=10000:=by omega
        have df:IntKind.i64.wrap (x+1)=x+1:=I4 _ (by omega);have cA:(at_:Int)<C:=by omega
        have cB:¬(C:Int)<=at_:=by omega
        have cC:¬(at_:Int)<0:=by omega
        have bz:=aa ad;have aJ:=aa bs;clear K aH z aT ad bs aI bv bw V U H N;go_wp2_with fail;try rw[<-ay.out]
        go_meet;exact⟨_,_,bz,aJ⟩
     ·have ay:=aa (HC (Value.int .u8) I);have cD:∀m∈ls,cq m.p.s.bk<=1000000:=λm hm=>by have:=(A.out.k m hm).b.bk;have h2:cq m.p.s.bk<=64*j:=this;omega
      have ax:=sI z.out.dv tk da.out (by show ls.length<=8;omega) cD;rw[show Value.pointer (some ⟨({d with ls:=ls}:aX).db,0,none⟩)=Value.pointer (some ⟨db,0,none⟩)from bi.out]at ax
      have cE:=aa ax;clear ax cD b0 b1 b2 dc b5 b6 b7 b8 b9;go_wp2_with fail;refine cE.out.mono ?_;rintro e w2 ⟨rfl,h,K,F⟩;have az:h.length=ls.length:=by have:=HC List.length F;rw[Hq,Hq,Hq]at this;exact this
      have br:=aa (z.out.next K az);have aJ:=aa (A.out.tick (t:=tk) F);clear K F az cE z H N;go_wp2_with fail;try rw[<-ay.out]
      go_meet;exact⟨_,_,br,aJ⟩
     ·have cF:Hid (dH wx):=aa (dJ.out.kp z.out.kp (λx=>x));have F:=oB (n:=64*j) z.out.dv cF.out c7.out (by show ls.length<=8;omega) bj.out (λm hm=>(A.out.k m hm).b) (by omega);rw[show Value.pointer (some ⟨({d with ls:=ls}:aX).db,0,none⟩)=Value.pointer (some ⟨db,0,none⟩)from bi.out]at F
      obtain⟨O,hO⟩:∃O,b4 d.batch 0 (ls.map aC)=O:=⟨_,rfl⟩
      have aZ:Calls Tryz.prog 13 #[.pointer (some ⟨db,0,none⟩)] wx λe w'=>∃v h,e=.returned v/\w'.ownsRow wx.heap.size 61 2 v O.length (O.flatMap f_)/\dK wx w' {d with ls:=ls} h/\h.map aC=dD d.batch (ls.map aC):=F.mono λe w' ⟨v,h,h1,h2,h3,h4,h5,h6,h7,_⟩=>⟨v,h,h1,by rw[<-hO];exact h2,⟨h3,h5,h6,h7⟩,h4⟩
      have cG:=aa aZ;have bA:=aa hO;have dg:O.length<=64*8:=by rw[<-hO];have:=jJ d.batch (ls.map aC) 0;rw[Hq,H]at this;have h2:d.batch*C<=64*8:=K6 bj.out c5.1;omega
      have dh:Hid (∀o∈O,o.1<C):=aa (λo ho=>by rw[<-hO]at ho;have:=ud d.batch (ls.map aC) 0 o ho;rw[Hq,H]at this;omega);clear F aZ hO cF b0 b1 b2 b3 dc b5 b6 b7 b8 b9;rcases I with I|I|I;all_goals
       have ay:=aa (HC (Value.int .u8) I);go_wp2_with fail;refine cG.out.mono ?_;rintro e w2 ⟨v,h,rfl,aL,K,bB⟩;obtain⟨so,sc,rfl⟩:=aN aL;have az:h.length=ls.length:=by have:=HC List.length bB;rw[Hq]at this;unfold dD at this;rw[Hq,Hq]at this;exact this
       have aM:=aa (z.out.next K az);have P:Hid (qi (64*j+64) d.batch 0 (ls.map aC) h vs):=aa (qi.start (by omega) bj.out A.out bB);have cH:=aa aL;have di:Hid (cin<wx.heap.size):=aa z.out.blk.lt;have dV:h.length=C:=az.trans H;clear aL K bB az cG z H N;go_wp2_with fail;go_loopw [50] (λi0 wr=>∃(k:Nat) (B:List Int),i0=.int .i64 k/\k<=O.length/\Hid (k0 w wr d cin h B)/\Hid (qi (64*j+64) d.batch k (ls.map aC) h B)/\Hid (wr.ownsRow wx.heap.size 61 2 (.slice so O.length sc) O.length (O.flatMap f_))) (λi0 _=>O.length-(intOf i0).toNat)
       case atStart=>exact⟨0,vs,rfl,Hv _,aM,P,cH⟩
       case round=>
        clear aM P cH;obtain⟨k,B,rfl,hk,z,P,bC⟩:=hrel;obtain⟨wo,dj⟩:∃wo:World,wo=wr:=⟨_,rfl⟩
        subst dj;by_cases aO:k<O.length
        ·have bD:(k:Int)<O.length:=by omega
         obtain⟨g,dO,e1,dk⟩:=aY bC.out (by omega);injection e1 with e1 _ e3;subst e1 e3;obtain⟨o,ho⟩:∃o,O[k]=o:=⟨_,rfl⟩
         have hp:=dh.out o (by rw[<-ho];exact Ht aO);have dm:=bu bC.out (k*2) (u:=.int .i64 o.1) (by rw[show k*2=k*2+0 from rfl,flat_get f_ 2 nv O k 0 (by decide),Hn aO,ho];rfl);have bc:=bu bC.out (k*2+1) (u:=.string o.2) (by rw[flat_get f_ 2 nv O k 1 (by decide),Hn aO,ho];rfl);have a0:(b4 d.batch 0 (ls.map aC))[k]? =some o:=by rw[bA.out,Hn aO,ho]
         obtain⟨p,s⟩:=o;simp only at hp dm bc;have N:B.length=C:=z.out.vl.trans aw.out;have U:p<B.length:=by omega
         have aI:=P.out.v p U (by omega);have bF:=P.out.k2 h[p] (Ht (by omega));have bv:=mK bF.x;have bw:=bF.c;have dn:i_ ((b4 d.batch 0 (ls.map aC)).drop k) p<=64*8:=by
          refine Hy ?_ dg;rw[bA.out];have key:∀L:List (Nat×ByteArray),i_ L p<=L.length:=λL=>by
           induction L with
           |nil=>exact Hm _
           |cons a r ih=>rw[lS,Hs];split<;>omega
          refine Hy (key _) ?_;rw[IU];omega
         have bH:=P.out.next a0 U;have aU:=z.out.old ((Kp.refl ae wo).alloc (.cells #[.int .i64 p,.string s] 61));have c0:=aU.blk.cell p (nA B U);have z0:=aU.blk.fz p;have ad:=aU.Dj p (B[p]-1);have cI:=au bC.out ((Kp.refl ae wo).alloc (.cells #[.int .i64 p,.string s] 61)) (λ_ _ x=>x);have bI:=au cI ((Kp.refl (λb=>b=cin) _).set (p:=⟨cin,p,none⟩) (.inl rfl) (.int .i64 (B[p]-1))) (λb e e2=>by have e2:b=cin:=e2;have:=(an bC.out e).1;have:=di.out;omega);obtain⟨x,V⟩:∃x,B[p]=x:=⟨_,rfl⟩
         rw[V]at c0 aI bH ad bI
         have de:0<=x/\x<=20000:=by omega
         have df:IntKind.i64.wrap (x-1)=x-1:=I4 _ (by omega);have cA:(p:Int)<C:=by omega
         have cB:¬(C:Int)<=p:=by omega
         have cC:¬(p:Int)<0:=by omega
         have bz:=aa ad;have dq:=aa bH;have dr:=aa bI;clear dk ho a0 aI bF bv bw dn bH aU ad cI bI V U N z P bC;go_wp2_with fail;go_roundw
         case rel=>exact⟨k+1,_,by go_num,by omega,bz,dq,dr⟩
         case measure=>simp[intOf];omega
        ·have dt:k=O.length:=by omega
         subst dt;have bD:¬(O.length:Int)<O.length:=by omega
         have aJ:Hid (iD (64*(j+1)) h B):=aa (by have:=P.out.done (by rw[bA.out];exact Hm _);rw[Nat.mul_succ];exact this);clear P bC aO;go_wp2_with fail;try rw[<-ay.out]
         go_meet;exact⟨_,_,z,aJ⟩
    case rest=>
     obtain⟨h,B,aM,cJ⟩:=hcut;rename_i wc;generalize wc=w5 at*;clear z A G cw;go_wp2_with fail;go_loopg [116] C (λg cK wr=>∃(i:Nat) (ls:List Ln),i<=C/\cK=.int .i64 i/\g=C-i/\Hid (k0 w wr d cin ls B)/\Hid (iD (64*(j+1)) ls B))
     case atStart=>exact⟨0,h,Hv _,rfl,rfl,aM,cJ⟩
     case round=>
      clear aM cJ;obtain⟨i,ls,hi,rfl,ac,z,A⟩:=hrel;have aH:=aa ac;clear ac;have H:ls.length=C:=z.out.ll.trans aw.out;have N:B.length=C:=z.out.vl.trans aw.out;by_cases dw:i<C
      ·have cL:(i:Int)<C:=by omega
       obtain⟨bx,pk,sc,rf,aQ,cM,bJ,cN,cO,cP⟩:=Fe z.out A.out (by omega) dw aw.out cu.out;have dx:IntKind.i64.wrap ((bx:Int)+pk)=(bx:Int)+pk:=I4 _ (by omega);have dy:=aa bJ;have dP:=aa aQ;have cQ:=aa cM;have a1:=aa cN;have dz:=aa cO;have dA:=aa cP;clear aQ cM bJ cN cO cP z A H N;go_wp2_with fail;refine dP.out.mono ?_;rintro e w6 ⟨rfl,rfl⟩;go_wp2_with fail;refine cQ.out.mono ?_;rintro e w6 ⟨rfl,dW,cR,cS,a2⟩;have cT:=aa cR;have dB:=aa cS;have dC:=aa a2;have bJ:=dy.out;clear cR cS a2 cQ dP;go_wp2_with fail;go_loopw [127,15] (λe0 n0 wr=>∃k:Nat,e0=.int .i64 k/\k<=32/\n0=.int .i64 ((bx:Int)+pk+((rf.take k).sum:Nat))/\wr=w6) (λe0 _ _=>32-(intOf e0).toNat)
       case atStart=>exact⟨0,rfl,Hv _,by simp,rfl⟩
       case round=>
        obtain⟨k,rfl,hk,rfl,rfl⟩:=hrel;obtain⟨sm,aA⟩:∃sm,(rf.take k).sum=sm:=⟨_,rfl⟩
        rw[aA];have a3:sm<=rf.sum:=by
         rw[<-aA];have:=Jq k rf;have h2:(rf.take k).sum+(rf.drop k).sum=rf.sum:=by rw[<-Kt,this]
         omega
        by_cases a4:k<32
        ·have bD:(k:Int)<32:=by omega
         have aV:k<rf.length:=by rw[a1.out];exact a4
         have V:=dC.out k a4;obtain⟨x,bK⟩:∃x,rf.getD k 0=x:=⟨_,rfl⟩
         rw[bK]at V
         have bL:rf[k]=x:=by rw[<-bK,Hx,Hn aV];rfl
         have bM:(rf.take (k+1)).sum=sm+x:=by rw[HQ aV,Kt,aA,bL];simp
         have dE:x<=rf.sum:=by rw[<-bL];exact n9 (Ht aV)
         have I:=dz.out;have cU:sm+x<=rf.sum:=by
          rw[<-bM];have:=Jq (k+1) rf;have h2:(rf.take (k+1)).sum+(rf.drop (k+1)).sum=rf.sum:=by rw[<-Kt,this]
          omega
         have dX:IntKind.i64.wrap (x:Int)=x:=I4 _ (by omega);have dY:IntKind.i64.wrap ((bx:Int)+pk+sm+x)=(bx:Int)+pk+sm+x:=I4 _ (by omega);have dZ:=aa V;have dF:=aa bM;clear V bK aV bL bM dE I cU aA a3;go_wp2_with fail;refine dZ.out.mono ?_;rintro e w7 ⟨rfl,rfl⟩;go_wp2_with fail;go_roundw
         case rel=>exact⟨k+1,by go_num,by omega,by rw[dF.out];congr 1;omega,trivial⟩
         case measure=>simp[intOf];omega
        ·have M:k=32:=by omega
         subst M;have bD:¬(32:Int)<32:=by omega
         have a5:rf.sum=sm:=by rw[<-aA,IJ (by rw[a1.out];exact Hm _)]
         have c0:=dA.out _ cT.out.blk;rw[a5]at c0
         obtain⟨X,hX⟩:∃X:Int,(bx:Int)+pk+(sm:Nat)=X:=⟨_,rfl⟩
         rw[hX]at c0
         rw[hX];clear aA a3 a5 hX dx;go_wp2_with fail;go_roundg (C-(i+1))
         case measure=>have:=aH.out;omega
         case rel=>exact⟨i+1,_,by omega,by go_num,rfl,cT,dB⟩
      ·have cV:i=C:=by omega
       subst cV;have cL:¬(i:Int)<i:=by omega
       go_wp2_with fail;go_roundg (l.length-(j+1))
       case measure=>have:=c9.out;omega
       case rel=>exact⟨j+1,_,_,by omega,by go_num,rfl,z,A⟩
   ·have dG:j=l.length:=by omega
    subst dG;have c_:¬(l.length:Int)<l.length:=by omega
    have cW:=aa (a8.out wr z.out.kp);have dI:=aa z.out.kp;clear z A aR;go_wp2_with fail;refine cW.out.mono ?_;rintro e w4 ⟨rfl,Q⟩;have aD:=aa (aB.out w4 (dI.out.trans Q));clear Q;go_wp2_with fail;exact aD.out
end
end Go.Proofs.YtincjochpkdnfaaGreatDoor
