/- math/bits.TrailingZeros64. -/
import Derived.Test.YtincjochpkdnfaaGreatDoorV0
import Derived.Test.YtincjochpkdnfaaGreatDoorProg
import Derived.Lib.TrailingZeros
import Derived.Sort.LotD5
set_option linter.all false
set_option maxHeartbeats 1000000
namespace Go.Proofs.YtincjochpkdnfaaGreatDoor
section
open Go.RowKit
def dH(w:World):Prop:=∀j,j<64->w.cell? ⟨0,j,none⟩=some (.int .u8 (Lib.deBruijn64tab.getD j 0))
def dH.kp{S:Nat->Prop}{w w':World}(h:dH w)(k:Kp S w w')(a:¬S 0):dH w':=λj b=>k.cell (h j b) a
def yC(x k idx:Nat)(w:World)(b:((x:Int)==0)=false)
    (key:IntKind.u64.wrap (bits BinOp.and IntKind.u64 (x:Int) (IntKind.u64.wrap (-(x:Int)))*285870213051353865)/288230376151711744=(idx:Int))
    (hi:idx<64) (c:k<64) (a:w.cell? ⟨0,idx,none⟩=some (.int .u8 k)):
    Calls Tryz.prog 114 #[.int .u64 x] w λe w'=>e=.returned (.int .i64 k)/\w=w':=by
 go_enter Tryz.func114,Tryz.ntmps114;go_wp2_with(simp only[key]);go_ret;exact⟨rfl,rfl⟩
def yD(w:World):Calls Tryz.prog 114 #[.int .u64 0] w λe w'=>e=.returned (.int .i64 64)/\w=w':=by
 go_enter Tryz.func114,Tryz.ntmps114;go_wp2;go_ret;exact⟨rfl,rfl⟩
def AP(x a:Nat)(c:x<18446744073709551616)(d:x≠0)(b:x&&&(18446744073709551616-x)=a):
    IntKind.u64.wrap (bits BinOp.and IntKind.u64 (x:Int) (IntKind.u64.wrap (-(x:Int)))*285870213051353865)/288230376151711744=((a*285870213051353865%18446744073709551616/288230376151711744:Nat):Int):=by
 have e:IntKind.u64.wrap (-(x:Int))=((18446744073709551616-x:Nat):Int):=by rw[HO];omega
 rw[e,JY x _ c (by omega),b,HO];omega
def tz(x:Nat)(f:x<18446744073709551616)(w:World)(h:dH w):
    Calls Tryz.prog 114 #[.int .u64 x] w λe w'=>e=.returned (.int .i64 (Lib.ctz 64 x))/\w=w':=by
 by_cases b:x=0
 ·subst b;exact yD w
 ·obtain⟨m,hm,g⟩:=Lib.ctzFrom_spec 64 x (by omega) f;have e:Lib.ctz 64 x=Lib.ctzFrom 64 x:=by simp[Lib.ctz,b]
  have c:x&&&(18446744073709551616-x)=2^Lib.ctzFrom 64 x:=by
   have:=Lib.and_neg 64 (Lib.ctzFrom 64 x) m (by rw[<-hm];exact f);rw[<-hm]at this;exact this
  rw[e];obtain⟨hi,d⟩:=Lib.deBruijn64_at _ g;have a:=h _ hi;rw[d]at a
  exact yC x _ _ w (by simp;omega) (AP x _ f b c) hi g a
end
section
def bs(a:Nat)(b:Int):Bool:=decide (0<=b)&&decide (b<=32)&&decide (a%2^(32-b.toNat)=0)
def hasB(a:Nat)(b:Int)(x:Nat):Bool:=bs a b&&decide (x/2^(32-b.toNat)=a/2^(32-b.toNat))
def gj(a:Nat)(b:Int)(a':Nat)(c:Int):Bool:=bs a' c&&decide (b<=c)&&hasB a b a'
def cg{a:Nat}{b:Int}:bs a b=true↔0<=b/\b<=32/\a%2^(32-b.toNat)=0:=by unfold bs;simp[and_assoc]
def eF{a:Nat}{b:Int}{x:Nat}:hasB a b x=true↔bs a b=true/\x/2^(32-b.toNat)=a/2^(32-b.toNat):=by unfold hasB;simp
def eG{a:Nat}{b:Int}{a':Nat}{c:Int}:gj a b a' c=true↔bs a' c=true/\b<=c/\hasB a b a'=true:=by unfold gj;simp[and_assoc]
def lp{b a:Int}(c:0<=b)(h:b<=a)(d:a<=32):2^(32-b.toNat)=2^(32-a.toNat)*2^(a.toNat-b.toNat):=by
 rw[<-Jl];congr 1;omega
def vM{b a:Int}(c:0<=b)(h:b<=a)(d:a<=32){x y:Nat}(e:x/2^(32-a.toNat)=y/2^(32-a.toNat)):x/2^(32-b.toNat)=y/2^(32-b.toNat):=by
 rw[lp c h d,<-IS,<-IS,e]
def AQ{a a' x:Nat}{b d:Int}(h:hasB a b x=true)(c:hasB a' d x=true)(e:b<=d):gj a b a' d=true:=by
 rw[eF,cg]at h c
 rw[eG,eF,cg,cg];refine⟨c.1,e,h.1,?_⟩;have:=vM h.1.1 e c.1.2.1 c.2;rw[<-this];exact h.2
def vN{a a' x:Nat}{b d:Int}(h:gj a b a' d=true)(c:hasB a' d x=true):hasB a b x=true:=by
 rw[eG,eF,cg,cg]at h
 rw[eF,cg]at c
 rw[eF,cg];exact⟨h.2.2.1,(vM h.2.2.1.1 h.2.1 c.1.2.1 c.2).trans h.2.2.2⟩
abbrev Px:=Nat×Nat
def b3(p:Px)(x:Nat):Bool:=hasB p.1 p.2 x
def bT(p q:Px):Bool:=gj p.1 p.2 q.1 q.2
def fH(p:Px):Bool:=bs p.1 p.2
def aZ(p:Px)(a:Nat):Nat:=a/2^(31-p.2)%2
def bn(p:Px)(a:Nat):aZ p a=0\/aZ p a=1:=by unfold aZ;omega
def AR{p:Px}{x:Nat}(h:b3 p x=true):p.2<=32:=by
 unfold b3 at h;rw[eF,cg]at h;omega
def yE{p:Px}{x:Nat}(h:b3 p x=true):x/2^(32-p.2)=p.1/2^(32-p.2):=by
 unfold b3 at h;rw[eF]at h;have:=h.2
 rwa [HZ]at this
def lW{p q:Px}{a:Nat}(b:p.2<q.2)(h:b3 q a=true):aZ p a=aZ p q.1:=by
 have hle:=AR h;have hd:=yE h;have e:2^(31-p.2)=2^(32-q.2)*2^(q.2-p.2-1):=by rw[<-Jl];congr 1;omega
 unfold aZ;rw[e,<-IS,<-IS,hd]
def oM{p q:Px}{a:Nat}(h:bT p q=true)(b:b3 q a=true):b3 p a=true:=vN h b
def w5{p q r:Px}(a:p.2<q.2)(h:bT q r=true):aZ p r.1=aZ p q.1:=by
 have:b3 q r.1=true:=by unfold bT at h;rw[eG]at h;exact h.2.2
 exact lW a this
def uv{p q r:Px}(c:bT p q=true)(d:bT q r=true):bT p r=true:=by
 unfold bT at*;have a:=eG.1 d;have b:=eG.1 c;rw[eG];exact⟨a.1,Int.le_trans b.2.1 a.2.1,vN c a.2.2⟩
def lX{p q:Px}(h:bT p q=true):p.2<=q.2:=by unfold bT at h;rw[eG]at h;omega
def iL{p q:Px}(h:bT p q=true)(he:p.2=q.2):p=q:=by
 obtain⟨g,a⟩:=p;obtain⟨i,j⟩:=q;simp only at he;subst he;unfold bT at h;rw[eG,eF,cg,cg]at h
 obtain⟨⟨_,_,b⟩,_,⟨_,_,c⟩,d⟩:=h;simp only[HZ]at b c d;congr 1;have e:=I8 g (2^(32-a));have f:=I8 i (2^(32-a));rw[c]at e
 rw[b]at f
 rw[<-e,<-f,d]
def oN{p q:Px}{a:Nat}(h:b3 p a=true)(b:b3 q a=true)(c:p.2<=q.2):bT p q=true:=AQ h b (by omega)
inductive Tr where
 |nil:Tr
 |node (b:Nat) (p:Px) (used:Bool) (x:Nat) (l r:Tr):Tr
def Tr.bq:Tr->List Px
 | .nil=>[]
 | .node _ p _ _ l r=>p::(l.bq++r.bq)
def Tr.br:Tr->List (Px×Nat)
 | .nil=>[]
 | .node _ p u x l r=>(match u with|true=>[(p,x)]|false=>[])++(l.br++r.br)
def Tr.aw:Tr->List Nat
 | .nil=>[]
 | .node b _ _ _ l r=>b::(l.aw++r.aw)
def dt(p:Px):Prop:=fH p=true/\p.1<4294967296
structure fI (p:Px) (s:Nat) (q:Px):Prop where
 rO:bT p q=true
 lt:p.2<q.2
 side:aZ p q.1=s
def Tr.WF:Tr->Prop
 | .nil=>True
 | .node _ p _ _ l r=>dt p/\(∀q∈l.bq,fI p 0 q)/\(∀q∈r.bq,fI p 1 q)/\l.WF/\r.WF
def Tr.dg{t:Tr}{e:Px×Nat}(h:e∈t.br):e.1∈t.bq:=by
 induction t with
 |nil=>cases h
 |node b p u x l r a c=>
  simp only[Tr.br,Hu]at h;simp only[Tr.bq,Ho,Hu];rcases h with h|h|h
  ·cases u with
   |true=>simp only[H0]at h;subst h;exact .inl rfl
   |false=>cases h
  ·exact .inr (.inl (a h))
  ·exact .inr (.inr (c h))
def Tr.az:Tr->Nat->Option (Px×Nat)->Option (Px×Nat)
 | .nil,_,acc=>acc
 | .node _ p u x l r,a,acc=>match b3 p a with
   |false=>acc
   |true=>if aZ p a=0 then l.az a (match u with|true=>some (p,x)|false=>acc)else r.az a (match u with|true=>some (p,x)|false=>acc)
def Tr.gx{t:Tr}{a:Nat}{acc:Option (Px×Nat)}(h:∀e∈t.br,b3 e.1 a=false):t.az a acc=acc:=by
 induction t generalizing acc with
 |nil=>rfl
 |node b p u x l r c d=>
  simp only[Tr.br,Hu]at h;unfold Tr.az;cases hp:b3 p a with
  |false=>rfl
  |true=>
   have hu:u=false:=by
    cases u with
    |false=>rfl
    |true=>have:=h (p,x) (.inl (by simp));rw[hp]at this;cases this
   subst hu;simp only;split
   ·exact c (λe he=>h e (.inr (.inl he)))
   ·exact d (λe he=>h e (.inr (.inr he)))
def Tr.ji{t:Tr}(hw:t.WF){a:Nat}{acc:Option (Px×Nat)}{e:Px×Nat}(he:e∈t.br)(ha:b3 e.1 a=true)(hm:∀d∈t.br,b3 d.1 a=true->d.1.2<=e.1.2):t.az a acc=some e:=by
 induction t generalizing acc with
 |nil=>cases he
 |node b p u x l r n o=>
  obtain⟨_,w1,j,w3,s⟩:=hw;simp only[Tr.br,Hu]at he hm;have low:∀q,(q∈l.bq\/q∈r.bq)->b3 q a=true->b3 p a=true/\p.2<q.2:=λq f h=>by
   rcases f with f|f
   ·exact⟨oM (w1 q f).rO h,(w1 q f).lt⟩
   ·exact⟨oM (j q f).rO h,(j q f).lt⟩
  unfold Tr.az;rcases he with he|he|he
  ·cases u with
   |false=>cases he
   |true=>
    simp only[H0]at he;subst he;simp only at ha hm;rw[ha];simp only;have i:∀d,(d∈l.br\/d∈r.br)->b3 d.1 a=false:=λd c=>by
     cases m:b3 d.1 a with
     |false=>rfl
     |true=>
      have v:=(low d.1 (c.imp Tr.dg Tr.dg) m).2;have w:=hm d (.inr c) m;omega
    split
    ·exact Tr.gx (λd c=>i d (.inl c))
    ·exact Tr.gx (λd c=>i d (.inr c))
  ·have g:=(low e.1 (.inl (Tr.dg he)) ha).1;have k:=lW (p:=p) (w1 _ (Tr.dg he)).lt ha;rw[(w1 _ (Tr.dg he)).side]at k
   rw[g];simp only;rw[Hl k];exact n w3 he (λd c=>hm d (.inr (.inl c)))
  ·have g:=(low e.1 (.inr (Tr.dg he)) ha).1;have k:=lW (p:=p) (j _ (Tr.dg he)).lt ha;rw[(j _ (Tr.dg he)).side]at k
   rw[g];simp only;rw[Hk (by omega)];exact o s he (λd c=>hm d (.inr (.inr c)))
def Tr.at_:Tr->Px->Option (Nat×Bool×Nat)
 | .nil,_=>none
 | .node b p u x l r,q=>if p=q then some (b,u,x)else if q.2<=p.2\/bT p q=false then none else if aZ p q.1=0 then l.at_ q else r.at_ q
def Tr.oO{t:Tr}{q:Px}(a:q∉t.bq):t.at_ q=none:=by
 induction t with
 |nil=>rfl
 |node b p u x l r c d=>
  simp only[Tr.bq,Ho,Hu,not_or]at a;unfold Tr.at_;rw[Hk (λe=>a.1 e.symm)];split
  ·rfl
  ·split
   ·exact c a.2.1
   ·exact d a.2.2
def Tr.hR{t:Tr}(hw:t.WF){q:Px}(c:q∈t.bq):∃b u x,t.at_ q=some (b,u,x)/\b∈t.aw/\(u=true->(q,x)∈t.br)/\(u=false->∀y,(q,y)∉t.br):=by
 induction t with
 |nil=>cases c
 |node b p u x l r z A=>
  obtain⟨_,w1,g,w3,B⟩:=hw;have ne:∀f,(f∈l.bq\/f∈r.bq)->p≠f:=λf h e=>by
   subst e;rcases h with h|h
   ·have:=(w1 _ h).lt;omega
   ·have:=(g _ h).lt;omega
  simp only[Tr.bq,Ho,Hu]at c;by_cases d:p=q
  ·subst d;refine⟨b,u,x,by unfold Tr.at_;rw[Hl rfl],by simp[Tr.aw],λhu=>by subst hu;simp[Tr.br],λhu y hy=> ?_⟩;subst hu;simp only[Tr.br,Im,Hu]at hy;rcases hy with hy|hy
   ·exact ne _ (.inl (Tr.dg hy)) rfl
   ·exact ne _ (.inr (Tr.dg hy)) rfl
  ·have a:∀y,(q,y)∈(Tr.node b p u x l r).br↔(q,y)∈l.br\/(q,y)∈r.br:=λy=>by
    simp only[Tr.br,Hu];constructor
    ·rintro(h|h)
     ·cases u with
      |true=>simp only[H0,Prod.mk.injEq]at h;exact absurd h.1.symm d
      |false=>cases h
     ·exact h
    ·exact .inr
   rcases c with c|c|c
   ·exact absurd c.symm d
   ·obtain⟨i,j,k,m,n,o,s⟩:=z w3 c;have hu:=w1 q c;have v:∀y,(q,y)∉r.br:=λy hy=>by have:=(g _ (Tr.dg hy)).side;rw[hu.side]at this;cases this
    refine⟨i,j,k,?_,by simp[Tr.aw,n],λh=>(a _).2 (.inl (o h)),λh y hy=>((a y).1 hy).elim (s h y) (v y)⟩;unfold Tr.at_;rw[Hk d,Hk (by rw[hu.rO];have:=hu.lt;simp;omega),Hl hu.side,m]
   ·obtain⟨i,j,k,m,n,o,s⟩:=A B c;have hu:=g q c;have w:∀y,(q,y)∉l.br:=λy hy=>by have:=(w1 _ (Tr.dg hy)).side;rw[hu.side]at this;cases this
    refine⟨i,j,k,?_,by simp[Tr.aw,n],λh=>(a _).2 (.inr (o h)),λh y hy=>((a y).1 hy).elim (w y) (s h y)⟩;unfold Tr.at_;rw[Hk d,Hk (by rw[hu.rO];have:=hu.lt;simp;omega),Hk (by rw[hu.side];omega),m]
def Tr.dR:Tr->Px->Nat->Tr
 | .nil,_,_=>.nil
 | .node b p u x l r,q,y=>if p=q then .node b p true y l r else if aZ p q.1=0 then .node b p u x (l.dR q y) r else .node b p u x l (r.dR q y)
def Tr.sW(t:Tr)(q:Px)(y:Nat):(t.dR q y).bq=t.bq:=by
 induction t with
 |nil=>rfl
 |node b p u x l r a c=>
  unfold Tr.dR;split
  ·rfl
  ·split
   ·simp only[Tr.bq,a]
   ·simp only[Tr.bq,c]
def Tr.hC(t:Tr)(q:Px)(y:Nat):(t.dR q y).aw=t.aw:=by
 induction t with
 |nil=>rfl
 |node b p u x l r a c=>
  unfold Tr.dR;split
  ·rfl
  ·split
   ·simp only[Tr.aw,a]
   ·simp only[Tr.aw,c]
def Tr.oo{t:Tr}(h:t.WF)(q:Px)(y:Nat):(t.dR q y).WF:=by
 induction t with
 |nil=>exact h
 |node b p u x l r e f=>
  obtain⟨a,w1,c,w3,d⟩:=h;unfold Tr.dR;split
  ·exact⟨a,w1,c,w3,d⟩
  ·split
   ·exact⟨a,by rw[Tr.sW];exact w1,c,e w3,d⟩
   ·exact⟨a,w1,by rw[Tr.sW];exact c,w3,f d⟩
def Tr.qw{t:Tr}(hw:t.WF){q:Px}(a:q∈t.bq)(d:∀y,(q,y)∉t.br)(y:Nat):(t.dR q y).br.Perm ((q,y)::t.br):=by
 induction t with
 |nil=>cases a
 |node b p u x l r e f=>
  obtain⟨_,w1,g,w3,h⟩:=hw;unfold Tr.dR;by_cases c:p=q
  ·subst c;rw[Hl rfl];have hu:u=false:=by
    cases u with
    |false=>rfl
    |true=>exact absurd (by simp[Tr.br]) (d x)
   subst hu;simp[Tr.br]
  ·rw[Hk c];simp only[Tr.bq,Ho,Hu]at a;rcases a with a|a|a
   ·exact absurd a.symm c
   ·rw[Hl (w1 q a).side];simp only[Tr.br]at d ⊢;have:=e w3 a (λy hy=>d y (by simp[hy]));refine((this.append_right r.br).append_left _).trans ?_;exact II
   ·rw[Hk (by rw[(g q a).side];omega)];simp only[Tr.br]at d ⊢;have:=f h a (λy hy=>d y (by simp[hy]));refine((this.append_left l.br).append_left _).trans ?_;refine(II.append_left _).trans ?_;exact II
end
section
open Go.Sort (bitsLen)
def lr(x y m:Nat):x^^^y<2^m↔x/2^m=y/2^m:=by
 have e:(x^^^y)/2^m=(x/2^m)^^^(y/2^m):=by
  rw[<-JZ,<-JZ,<-JZ,Nat.shiftRight_xor_distrib]
 have hp:0<2^m:=KN m;constructor
 ·intro h;rw[KI h]at e
  have a:(x/2^m)^^^((x/2^m)^^^(y/2^m))=y/2^m:=by rw[<-Nat.xor_assoc,Nat.xor_self,Nat.zero_xor]
  rw[<-e,Nat.xor_zero]at a
  exact a
 ·intro h;rw[h,Nat.xor_self]at e
  exact(Nat.div_eq_zero_iff_lt hp).1 e
def bh(p q:Px):Nat:=min (32-bitsLen (p.1^^^q.1)) (min p.2 q.2)
def bF(p q:Px):Px:=(p.1/2^(32-bh p q)*2^(32-bh p q),bh p q)
def a8{p:Px}:fH p=true↔p.2<=32/\p.1%2^(32-p.2)=0:=by
 unfold fH;rw[cg];simp only[HZ];constructor
 ·rintro⟨_,h,a⟩;exact⟨by omega,a⟩
 ·rintro⟨h,a⟩;exact⟨by omega,by omega,a⟩
def iM{p:Px}{x:Nat}:b3 p x=true↔fH p=true/\x/2^(32-p.2)=p.1/2^(32-p.2):=by
 unfold b3 fH;rw[eF];simp only[HZ]
def gS{p q:Px}:bT p q=true↔fH q=true/\p.2<=q.2/\b3 p q.1=true:=by
 unfold bT fH b3;rw[eG];constructor
 ·rintro⟨h,b,a⟩;exact⟨h,by omega,a⟩
 ·rintro⟨h,b,a⟩;exact⟨h,by omega,a⟩
def oP{p q:Px}(hp:dt p)(a:dt q)(n:Nat)(b:n<=bh p q):p.1/2^(32-n)=q.1/2^(32-n):=by
 have c:bitsLen (p.1^^^q.1)<=32:=by
  rw[Go.Sort.bitsLen_le_iff];exact J0 (n:=32) hp.2 a.2
 rw[<-lr,<-Go.Sort.bitsLen_le_iff];unfold bh at b;have:=(a8.1 hp.1).1;omega
def lY(p q:Px):bh p q<=p.2/\bh p q<=q.2:=by unfold bh;omega
def jj{p q:Px}(hp:fH p=true):fH (bF p q)=true:=by
 rw[a8];have:=(a8.1 hp).1;have:=lY p q;exact⟨by show bh p q<=32;omega,Nat.mul_mod_left _ _⟩
def j8{p q:Px}(hp:dt p)(b:dt q):bT (bF p q) p=true/\bT (bF p q) q=true:=by
 have c:=jj (q:=q) hp.1;have d:=lY p q;have a:0<2^(32-bh p q):=KN _;refine⟨gS.2 ⟨hp.1,d.1,iM.2 ⟨c,?_⟩⟩,gS.2 ⟨b.1,d.2,iM.2 ⟨c,?_⟩⟩⟩
 ·exact(KO _ a).symm
 ·show q.1/2^(32-bh p q)=_;rw[<-oP hp b _ (Hm _)];exact(KO _ a).symm
def w6{p q:Px}(hp:fH p=true)(h:bh p q=p.2):bF p q=p:=by
 obtain⟨b,c⟩:=p;have a:=(a8.1 hp).2;simp only at h a;unfold bF;rw[h];congr 1;have:=I8 b (2^(32-c));rw[a,IY]at this
 exact this
def oq{p q:Px}(hp:dt p)(b:dt q)(h:bT p q=false):bh p q<p.2:=by
 have:=(lY p q).1;rcases HW (bh p q) p.2 with a|a
 ·exact a
 ·have e:=w6 (q:=q) hp.1 (by omega);have:=(j8 hp b).2;rw[e,h]at this;cases this
def mQ{p q:Px}(hp:dt p)(d:dt q)(g:bT p q=false)(h:bh p q<q.2):aZ (bF p q) p.1≠aZ (bF p q) q.1:=by
 intro e;have i:=oq hp d g;have f:=(a8.1 hp.1).1;have c:=oP hp d _ (Hm _);unfold aZ at e;have j:p.1/2^(31-bh p q)%2=q.1/2^(31-bh p q)%2:=e;have a:2^(32-bh p q)=2^(31-bh p q)*2:=by rw[<-Ij];congr 1;omega
 rw[a,<-IS,<-IS]at c
 have b:p.1/2^(31-bh p q)=q.1/2^(31-bh p q):=by omega
 rw[<-lr,<-Go.Sort.bitsLen_le_iff]at b
 have k:bh p q=min (32-bitsLen (p.1^^^q.1)) (min p.2 q.2):=rfl;omega
def uw{p k q:Px}{s:Nat}(f:fI p s k)(g:fI p s q)(ok:k.1<4294967296)(n:q.1<4294967296):fI p s (bF k q):=by
 have h:=gS.1 f.rO;have l:=gS.1 g.rO;have b:=h.1;have i:=l.1;have j:=j8 ⟨b,ok⟩ ⟨i,n⟩;have m:=(a8.1 b).1;have a:p.2<bh k q:=by
  have d1:=(iM.1 h.2.2).2;have d2:=(iM.1 l.2.2).2;have s1:=f.side;have s2:=g.side;unfold aZ at s1 s2;have r:=f.lt;have l2:=g.lt;have c:2^(32-p.2)=2^(31-p.2)*2:=by rw[<-Ij];congr 1;omega
  have o:k.1/2^(32-p.2)=q.1/2^(32-p.2):=d1.trans d2.symm;rw[c,<-IS,<-IS]at o
  have d:k.1/2^(31-p.2)=q.1/2^(31-p.2):=by omega
  rw[<-lr,<-Go.Sort.bitsLen_le_iff]at d
  unfold bh;omega
 have e:=(gS.1 j.1).2.2;refine⟨oN h.2.2 e (J1 a),a,?_⟩;rw[<-lW (p:=p) (q:=bF k q) a e];exact f.side
def Tr.lay:Tr->Nat->Px->Nat->Nat->Tr
 | .nil,nb,a,nx,_=>.node nb a true nx .nil .nil
 | .node b kp c d e f,nb,a,nx,fb=>
  if bT kp a=true then
   if aZ kp a.1=0 then .node b kp c d (e.lay nb a nx fb) f else .node b kp c d e (f.lay nb a nx fb)
  else if bF kp a=a then
   if aZ a kp.1=0 then .node nb a true nx (.node b kp c d e f) .nil else .node nb a true nx .nil (.node b kp c d e f)
  else if aZ (bF kp a) a.1=0 then .node fb (bF kp a) false 0 (.node nb a true nx .nil .nil) (.node b kp c d e f)
  else .node fb (bF kp a) false 0 (.node b kp c d e f) (.node nb a true nx .nil .nil)
def Tr.oQ{t:Tr}(hw:t.WF){p d:Px}{s nb nx fb:Nat}(h:∀k∈t.bq,fI p s k)(f:fI p s d)(n:d.1<4294967296):∀q∈(t.lay nb d nx fb).bq,fI p s q:=by
 induction t with
 |nil=>intro q a;simp only[Tr.lay,Tr.bq,HH,H0]at a;subst a;exact f
 |node g kp i j l m o r=>
  obtain⟨ok,w1,v,w3,u⟩:=hw;have c:=h kp (by simp[Tr.bq]);intro q a;have e:q∈(Tr.node g kp i j l m).bq->fI p s q:=h q;unfold Tr.lay at a;split at a
  ·split at a
   ·simp only[Tr.bq,Ho,Hu]at a;rcases a with rfl|a|a
    ·exact c
    ·exact o w3 (λk c=>h k (by simp[Tr.bq,c])) q a
    ·exact h q (by simp[Tr.bq,a])
   ·simp only[Tr.bq,Ho,Hu]at a;rcases a with rfl|a|a
    ·exact c
    ·exact h q (by simp[Tr.bq,a])
    ·exact r u (λk c=>h k (by simp[Tr.bq,c])) q a
  ·split at a
   ·have b:q=d\/q∈(Tr.node g kp i j l m).bq:=by
     split at a
     ·simp only[Tr.bq,Ho,Hu,H5,Ia]at a ⊢;exact a
     ·simp only[Tr.bq,Ho,Hu,H5,false_or]at a ⊢;exact a
    rcases b with rfl|b
    ·exact f
    ·exact e b
   ·have b:q=bF kp d\/q=d\/q∈(Tr.node g kp i j l m).bq:=by
     split at a
     ·simp only[Tr.bq,Ho,Hu,H5,Ia]at a ⊢;exact a
     ·simp only[Tr.bq,Ho,Hu,H5,Ia]at a ⊢;rcases a with h|h|h
      ·exact .inl h
      ·exact .inr (.inr h)
      ·exact .inr (.inl h)
    rcases b with rfl|rfl|b
    ·exact uw c f ok.2 n
    ·exact f
    ·exact e b
def oR{p q:Px}(hp:dt p)(b:dt q)(h:bF p q≠q):bh p q<q.2:=by
 have:=(lY p q).2;rcases HW (bh p q) q.2 with a|a
 ·exact a
 ·exact absurd (iL (j8 hp b).2 (show bh p q=q.2 by omega)) h
def lu{p k q:Px}(h:bT k q=true)(b:bT p k=true)(a:p.2<k.2):fI p (aZ p k.1) q:=
 ⟨uv b h,HP a (lX h),w5 a h⟩
def Tr.oS{b:Nat}{p:Px}{u:Bool}{x:Nat}{l r:Tr}(h:(Tr.node b p u x l r).WF):∀q∈(Tr.node b p u x l r).bq,bT p q=true:=by
 obtain⟨ok,w1,c,_,_⟩:=h;intro q a;simp only[Tr.bq,Ho,Hu]at a;rcases a with rfl|a|a
 ·exact gS.2 ⟨ok.1,Hm _,iM.2 ⟨ok.1,rfl⟩⟩
 ·exact(w1 q a).rO
 ·exact(c q a).rO
def Tr.ot{t:Tr}(hw:t.WF){a:Px}(j:dt a)(d:a∉t.bq)(nb nx fb:Nat):(t.lay nb a nx fb).WF:=by
 induction t with
 |nil=>exact⟨j,(λq e=>by cases e),(λq e=>by cases e),trivial,trivial⟩
 |node y kp z A B C E F=>
  have i:=hw;obtain⟨ok,w1,D,w3,w⟩:=hw;simp only[Tr.bq,Ho,Hu,not_or]at d;unfold Tr.lay;by_cases p:bT kp a=true
  ·rw[Hl p];have l:kp.2<a.2:=by
    rcases HW kp.2 a.2 with h|h
    ·exact h
    ·exact absurd (iL p (by have:=lX p;omega)).symm d.1
   by_cases f:aZ kp a.1=0
   ·rw[Hl f];exact⟨ok,Tr.oQ w3 w1 ⟨p,l,f⟩ j.2,D,E w3 d.2.1,w⟩
   ·rw[Hk f];have r:aZ kp a.1=1:=(bn kp a.1).resolve_left f;exact⟨ok,w1,Tr.oQ w D ⟨p,l,r⟩ j.2,w3,F w d.2.2⟩
  ·rw[Hk p];have u:bT kp a=false:=by cases h:bT kp a with|true=>exact absurd h p|false=>rfl
   by_cases m:bF kp a=a
   ·rw[Hl m];have k:bT a kp=true:=by have:=(j8 ok j).1;rwa [m]at this
    have l:a.2<kp.2:=by
     rcases HW a.2 kp.2 with h|h
     ·exact h
     ·exact absurd (iL k (by have:=lX k;omega)) d.1
    have g:∀q∈(Tr.node y kp z A B C).bq,fI a (aZ a kp.1) q:=λq e=>lu (Tr.oS i q e) k l;by_cases f:aZ a kp.1=0
    ·rw[Hl f];rw[f]at g
     exact⟨j,g,λq e=>(by cases e),i,trivial⟩
    ·rw[Hk f];rw[(bn a kp.1).resolve_left f]at g
     exact⟨j,λq e=>(by cases e),g,trivial,i⟩
   ·rw[Hk m];have G:=oq ok j u;have l2:=oR ok j m;have v:=j8 ok j;have n:=mQ ok j u l2
    have o:dt (bF kp a):=⟨jj ok.1,by
     show kp.1/2^(32-bh kp a)*2^(32-bh kp a)<4294967296
     have H:=Nat.div_mul_le_self kp.1 (2^(32-bh kp a));have I:=ok.2;omega⟩
    have s:(Tr.node nb a true nx .nil .nil).WF:=⟨j,λq e=>(by cases e),λq e=>(by cases e),trivial,trivial⟩
    have b:∀q∈(Tr.node y kp z A B C).bq,fI (bF kp a) (aZ (bF kp a) kp.1) q:=λq e=>lu (Tr.oS i q e) v.1 G;have c:∀q∈(Tr.node nb a true nx .nil .nil).bq,fI (bF kp a) (aZ (bF kp a) a.1) q:=λq e=>lu (Tr.oS s q e) v.2 l2;by_cases f:aZ (bF kp a) a.1=0
    ·rw[Hl f];rw[f]at c n
     rw[(bn _ _).resolve_left n]at b
     exact⟨o,c,b,s,i⟩
    ·rw[Hk f];have r:=(bn (bF kp a) a.1).resolve_left f;rw[r]at c n
     have x:aZ (bF kp a) kp.1=0:=(bn _ _).resolve_right n;rw[x]at b
     exact⟨o,b,c,i,s⟩
def Tr.qx(t:Tr)(a:Px)(nb nx fb:Nat):(t.lay nb a nx fb).br.Perm ((a,nx)::t.br):=by
 induction t with
 |nil=>exact List.Perm.refl _
 |node f kp g h b c d e=>
  unfold Tr.lay;split
  ·split
   ·simp only[Tr.br];refine((d.append_right c.br).append_left _).trans ?_;exact II
   ·simp only[Tr.br];refine((e.append_left b.br).append_left _).trans ?_;refine(II.append_left _).trans ?_;exact II
  ·split
   ·split
    ·simp only[Tr.br,HH];exact List.Perm.refl _
    ·simp only[Tr.br,Im];exact List.Perm.refl _
   ·split
    ·simp only[Tr.br,HH,Im];exact List.Perm.refl _
    ·simp only[Tr.br,HH,Im];exact JB
def Tr.qy(t:Tr)(f:Px)(nb nx fb:Nat):∃F,(F=[]\/F=[fb])/\(t.lay nb f nx fb).aw.Perm (F++nb::t.aw):=by
 induction t with
 |nil=>exact⟨[],.inl rfl,List.Perm.refl _⟩
 |node b kp j k c d g h=>
  unfold Tr.lay;split
  ·split
   ·obtain⟨F,hF,hp⟩:=g;refine⟨F,hF,?_⟩;simp only[Tr.aw];refine(((hp.append_right d.aw).cons b)).trans ?_;rw[Ir,IT];refine(II (a:=b) (l₁:=F) (l₂:=nb::(c.aw++d.aw))).symm.trans ?_;exact List.Perm.append_left F (List.Perm.swap _ _ _)
   ·obtain⟨F,hF,hp⟩:=h;refine⟨F,hF,?_⟩;simp only[Tr.aw];refine((hp.append_left c.aw).cons b).trans ?_;have e:(b::(c.aw++(F++nb::d.aw))).Perm (F++(nb::b::(c.aw++d.aw))):=by
     have i:(c.aw++(F++nb::d.aw)).Perm (F++(nb::(c.aw++d.aw))):=by
      rw[<-Ir];refine(JB.append_right _).trans ?_;rw[Ir];exact List.Perm.append_left F II
     refine(i.cons b).trans ?_;refine(II (a:=b) (l₁:=F) (l₂:=nb::(c.aw++d.aw))).symm.trans ?_;exact List.Perm.append_left F (List.Perm.swap _ _ _)
    exact e
  ·split
   ·refine⟨[],.inl rfl,?_⟩;split
    ·simp only[Tr.aw,HH,Im];exact List.Perm.refl _
    ·simp only[Tr.aw,Im];exact List.Perm.refl _
   ·refine⟨[fb],.inr rfl,?_⟩;split
    ·simp only[Tr.aw,HH,Im,IT];exact List.Perm.refl _
    ·simp only[Tr.aw,HH,Im,IT];refine List.Perm.cons _ ?_;exact JB (l₁:=b::(c.aw++d.aw)) (l₂:=[nb])
end
section
def cn{α:Type}(d:α){l:List α}{i:Nat}(h:i<l.length):l.getD i d=l[i]:=by simp[List.getD,h]
def bitsOf(f:Nat->Bool):Nat->Nat
 |0=>0
 |k+1=>bitsOf f k|||(match f k with|true=>2^k|false=>0)
def dd(f:Nat->Bool)(k i:Nat):(bitsOf f k).testBit i=(decide (i<k)&&f i):=by
 induction k with
 |zero=>simp[bitsOf]
 |succ k a=>
  simp only[bitsOf,Nat.testBit_or,a];by_cases h:i=k
  ·subst h;cases hf:f i<;>simp[JV]
  ·have b:decide (i<k+1)=decide (i<k):=by rw[IQ];omega
   rw[b];cases hf:f k with
   |true=>simp only[JV];simp[show ¬k=i by omega]
   |false=>simp
def jk(f:Nat->Bool)(k:Nat):bitsOf f k<2^k:=by
 apply Nat.lt_pow_two_of_testBit;intro i hi;rw[dd];simp[show ¬i<k by omega]
def iq{f g:Nat->Bool}{k:Nat}(h:∀i,i<k->f i=g i):bitsOf f k=bitsOf g k:=by
 apply JC;intro i;rw[dd,dd];by_cases hi:i<k
 ·rw[h i hi]
 ·simp[hi]
def nI(f g:Nat->Bool)(k:Nat):bitsOf f k&&&bitsOf g k=bitsOf (λi=>f i&&g i) k:=by
 apply JC;intro i;rw[JU,dd,dd,dd];cases decide (i<k)<;>simp
def rP{f:Nat->Bool}{k:Nat}(h:∀i,i<k->f i=false):bitsOf f k=0:=by
 apply JC;intro i;rw[dd,Nat.zero_testBit];by_cases hi:i<k
 ·rw[h i hi];simp
 ·simp[hi]
def hT(f:Nat->Bool)(k:Nat):Option Nat:=(List.range k).find? f
def k6{f:Nat->Bool}{k i:Nat}:hT f k=some i↔i<k/\f i=true/\∀j,j<i->f j=false:=by
 unfold hT;rw[List.find?_range_eq_some];simp only[H7,Bool.not_eq_eq_eq_not,JP];constructor
 ·rintro⟨a,b,c⟩;exact⟨b,a,c⟩
 ·rintro⟨a,b,c⟩;exact⟨b,a,c⟩
def k7{f:Nat->Bool}{k:Nat}:hT f k=none↔∀j,j<k->f j=false:=by
 unfold hT;simp[List.find?_range_eq_none]
def sX{f:Nat->Bool}{k:Nat}(h:bitsOf f k=0):hT f k=none:=by
 rw[k7];intro j a;have:=dd f k j;rw[h,Nat.zero_testBit]at this
 simpa[a]using this.symm
def ux{f:Nat->Bool}{k:Nat}(l:k<=64)(h:bitsOf f k≠0):hT f k=some (Lib.ctz 64 (bitsOf f k)):=by
 have b:bitsOf f k<2^64:=HP (jk f k) (ID (by decide) l);obtain⟨m,hm,n⟩:=Lib.ctzFrom_spec 64 (bitsOf f k) (KP h) b;have e:Lib.ctz 64 (bitsOf f k)=Lib.ctzFrom 64 (bitsOf f k):=by unfold Lib.ctz;rw[Hk h]
 rw[e];generalize Lib.ctzFrom 64 (bitsOf f k)=c at hm n;have d:∀i,(bitsOf f k).testBit i=(decide (i≥c)&&(2*m+1).testBit (i-c)):=λi=>by
  rw[hm,Nat.testBit_two_pow_mul]
 rw[k6];have a:=d c;rw[dd,Jn]at a
 simp only[ge_iff_le,Hm,decide_true,J2]at a;have o:(2*m+1).testBit 0=true:=by rw[Nat.testBit_zero];simp
 rw[o,HS,HI]at a
 refine⟨a.1,a.2,λj p=> ?_⟩;have g:=d j;rw[dd]at g
 simpa[show ¬c<=j by omega,show j<k by omega]using g
def j9(a:List Px)(p:Px):Nat:=bitsOf (λi=>bT (a.getD i (0,0)) p) a.length
structure gJ (ps:List Px) (T:Tr):Prop where
 wf:T.WF
 oT:∀e∈T.br,e.1∈ps/\e.2=j9 ps e.1
 all:∀p∈ps,∃e∈T.br,e.1=p
def yF{e:List Px}{a:Nat}(h:∃p∈e,b3 p a=true):∃p∈e,b3 p a=true/\∀q∈e,b3 q a=true->q.2<=p.2:=by
 induction e with
 |nil=>obtain⟨p,hp,_⟩:=h;cases hp
 |cons q e k=>
  by_cases c:∃p∈e,b3 p a=true
  ·obtain⟨p,hp,l,i⟩:=k c;by_cases j:b3 q a=true/\p.2<q.2
   ·refine⟨q,by simp,j.1,λr c b=> ?_⟩;rcases Ho.1 c with rfl|c
    ·exact Hm _
    ·have:=i r c b;omega
   ·refine⟨p,by simp[hp],l,λr c b=> ?_⟩;rcases Ho.1 c with rfl|c
    ·rcases HW p.2 r.2 with g|g
     ·exact absurd ⟨b,g⟩ j
     ·exact g
    ·exact i r c b
  ·obtain⟨p,hp,f⟩:=h;rcases Ho.1 hp with rfl|hp
   ·refine⟨p,by simp,f,λr d b=> ?_⟩;rcases Ho.1 d with rfl|d
    ·exact Hm _
    ·exact absurd ⟨r,d,b⟩ c
   ·exact absurd ⟨p,hp,f⟩ c
def vO(o:Option (Px×Nat)):Nat:=match o with|none=>0|some e=>e.2
def ie{c:List Px}{T:Tr}(h:gJ c T)(a:Nat):vO (T.az a none)=bitsOf (λi=>b3 (c.getD i (0,0)) a) c.length:=by
 by_cases g:∃p∈c,b3 p a=true
 ·obtain⟨p,hp,d,hm⟩:=yF g;obtain⟨e,he,rfl⟩:=h.all p hp;rw[Tr.ji h.wf he d (λk j=>hm _ (h.oT k j).1)];show e.2=_;rw[(h.oT e he).2];unfold j9;apply iq;intro i hi;have b:c.getD i (0,0)∈c:=by rw[cn _ hi];exact Ht _
  rw[Kh];constructor
  ·intro l;exact oM l d
  ·intro f;exact oN f d (hm _ b f)
 ·rw[Tr.gx (λe he=>by
   cases f:b3 e.1 a with
   |false=>rfl
   |true=>exact absurd ⟨e.1,(h.oT e he).1,f⟩ g)]
  show 0=_;rw[rP];intro i hi;have b:c.getD i (0,0)∈c:=by rw[cn _ hi];exact Ht _
  cases f:b3 (c.getD i (0,0)) a with
  |false=>rfl
  |true=>exact absurd ⟨_,b,f⟩ g
structure cU (ps:List Px) (k:Nat) (T:Tr):Prop where
 wf:T.WF
 oT:∀e∈T.br,e.1∈ps.take k/\e.2=j9 ps e.1
 all:∀p∈ps.take k,∃e∈T.br,e.1=p
def cU.full{a:List Px}{T:Tr}(h:cU a a.length T):gJ a T:=by
 refine⟨h.wf,λe he=> ?_,λp hp=>h.all p (by rw[H9];exact hp)⟩;have:=h.oT e he
 rwa [H9]at this
def cU.start(c:List Px)(b:Nat):cU c 0 (.node b (0,0) false 0 .nil .nil):=by
 refine⟨⟨⟨by decide,by decide⟩,(λq a=>by cases a),(λq a=>by cases a),trivial,trivial⟩,λe he=> ?_,λp hp=> ?_⟩
 ·simp[Tr.br]at he
 ·simp at hp
def take_one{a:List Px}{k:Nat}(b:k<a.length):a.take (k+1)=a.take k++[a.getD k (0,0)]:=by
 rw[List.take_add_one,Hn b,cn _ b];rfl
def cU.there{a:List Px}{k:Nat}{T:Tr}(h:cU a k T)(b:k<a.length){y:Nat}(ht:(a.getD k (0,0),y)∈T.br):cU a (k+1) T:=by
 refine⟨h.wf,λe he=> ?_,λp hp=> ?_⟩
 ·rw[take_one b];have:=h.oT e he;exact⟨IF _ this.1,this.2⟩
 ·rw[take_one b,Hu,H0]at hp
  rcases hp with hp|rfl
  ·exact h.all p hp
  ·exact⟨_,ht,rfl⟩
def cU.more{b:List Px}{k:Nat}{T c:Tr}(h:cU b k T)(f:k<b.length)(hw:c.WF)(hp:c.br.Perm ((b.getD k (0,0),j9 b (b.getD k (0,0)))::T.br)):cU b (k+1) c:=by
 refine⟨hw,λe he=> ?_,λp a=> ?_⟩
 ·rw[take_one f];rcases Ho.1 (hp.mem_iff.1 he)with rfl|he
  ·exact⟨by simp,rfl⟩
  ·have:=h.oT e he;exact⟨IF _ this.1,this.2⟩
 ·rw[take_one f,Hu,H0]at a
  rcases a with a|rfl
  ·obtain⟨e,he,d⟩:=h.all p a;exact⟨e,hp.mem_iff.2 (Iz _ he),d⟩
  ·exact⟨_,hp.mem_iff.2 (HX ..),rfl⟩
def Tr.put(T:Tr)(nb:Nat)(p:Px)(x fb:Nat):Tr:=
 match T.at_ p with
 |some (_,true,_)=>T
 |some (_,false,_)=>T.dR p x
 |none=>T.lay nb p x fb
def cU.put{a:List Px}{k:Nat}{T:Tr}(h:cU a k T)(c:k<a.length)(d:dt (a.getD k (0,0)))(nb fb:Nat):cU a (k+1) (T.put nb (a.getD k (0,0)) (j9 a (a.getD k (0,0))) fb):=by
 unfold Tr.put;by_cases hm:a.getD k (0,0)∈T.bq
 ·obtain⟨b,u,x,e,i,f,g⟩:=Tr.hR h.wf hm;rw[e];cases u with
  |true=>exact h.there c (f rfl)
  |false=>exact h.more c (Tr.oo h.wf _ _) (Tr.qw h.wf hm (g rfl) _)
 ·rw[Tr.oO hm];exact h.more c (Tr.ot h.wf d hm _ _ _) (Tr.qx _ _ _ _ _)
structure b5 where
 s:Nat×Int
 d:Nat×Int
 lo:Nat
 hi:Nat
 fl:Nat
instance:Inhabited b5:=⟨⟨(0,0),(0,0),0,0,0⟩⟩
def qA(p:Nat×Int):Prop:=p.1<4294967296∧ -9223372036854775808<=p.2/\p.2<=9223372036854775807
structure b5.Ok (r:b5):Prop where
 s:qA r.s
 d:qA r.d
 lo:r.lo<65536
 hi:r.hi<65536
 fl:r.fl<4294967296
structure p_ where
 s:Nat
 d:Nat
 p:Nat
def fp(r:b5):Bool:= !(bs r.s.1 r.s.2&&bs r.d.1 r.d.2&&decide (r.lo<=r.hi))
def eY(l:List b5):Nat:=if 64<l.length then 20 else if l.any fp=true then 6 else 0
def sY(r:b5)(p:Nat):Bool:=decide (r.lo<=p)&&decide (p<=r.hi)
def ou(r:b5)(h:p_):Bool:=hasB r.s.1 r.s.2 h.s&&hasB r.d.1 r.d.2 h.d&&sY r h.p
def ed(l:List b5)(h:p_)(i:Nat):Bool:=ou (l.getD i default) h
def ir(l:List b5)(h:p_):Option Nat:=hT (ed l h) l.length
def kB{l:List b5}:eY l=0↔l.length<=64/\∀r∈l,fp r=false:=by
 unfold eY;by_cases h:64<l.length
 ·rw[Hl h];constructor
  ·intro a;omega
  ·intro a;omega
 ·rw[Hk h];by_cases a:l.any fp=true
  ·rw[Hl a];constructor
   ·intro d;omega
   ·rintro⟨_,d⟩;rw[JO]at a
    obtain⟨r,c,b⟩:=a;rw[d r c]at b;cases b
  ·rw[Hk a];simp only[true_iff];refine⟨by omega,λr c=> ?_⟩;cases b:fp r with
   |false=>rfl
   |true=>exact absurd (JO.2 ⟨r,c,b⟩) a
def jl{r:b5}:fp r=false↔bs r.s.1 r.s.2=true/\bs r.d.1 r.d.2=true/\r.lo<=r.hi:=by
 unfold fp;cases bs r.s.1 r.s.2<;>cases bs r.d.1 r.d.2<;>simp
def cc(l:List b5):List Nat:=0::l.flatMap (λr=>r.lo::(if r.hi<65535 then[r.hi+1]else[]))
def j_(l:List b5)(p:Nat):Nat:=bitsOf (λi=>sY (l.getD i default) p) l.length
def eH(l:List b5)(a:List Nat):List (Nat×Nat):=a.map (λf=>(f,j_ l f))
structure kC (l:List b5) (zs:List Nat):Prop where
 up:zs.Pairwise (·< ·)
 mem:∀x,x∈zs↔x∈cc l
def ee(a:List Nat)(p:Nat):Nat:=(a.filter (λf=>decide (f<=p))).length
def mR{b:List Nat}(h:b.Pairwise (·< ·))(p:Nat):∀i,i<b.length->(b.getD i 0<=p↔i<ee b p):=by
 induction b with
 |nil=>intro i hi;simp at hi
 |cons z b d=>
  rw[HJ]at h
  intro i hi;by_cases hz:z<=p
  ·have e:ee (z::b) p=ee b p+1:=by unfold ee;rw[KQ (by simpa using hz)];rfl
   rw[e];cases i with
   |zero=>simp[hz]
   |succ i=>simp only[KR];rw[d h.2 i (by simpa using hi)];omega
  ·have e:ee (z::b) p=0:=by
    unfold ee;rw[KS (by simpa using hz),List.length_eq_zero_iff,KT];intro a ha;have:=h.1 a ha;simp;omega
   rw[e];cases i with
   |zero=>simp;omega
   |succ i=>
    simp only[KR,KU,iff_false];have c:i<b.length:=by simpa using hi
    have:b.getD i 0∈b:=by rw[cn _ c];exact Ht _
    have:=h.1 _ this;omega
def oU(a:List Nat)(p:Nat):ee a p<=a.length:=List.length_filter_le _ _
def ka{l:List b5}{x:Nat}:x∈cc l↔x=0\/∃r∈l,x=r.lo\/(r.hi<65535/\x=r.hi+1):=by
 unfold cc;rw[Ho,List.mem_flatMap];refine or_congr Iff.rfl ⟨?_,?_⟩
 ·rintro⟨r,b,a⟩;refine⟨r,b,?_⟩;rw[Ho]at a
  refine a.imp_right λa=> ?_;split at a
  ·rename_i c;exact⟨c,by simpa using a⟩
  ·cases a
 ·rintro⟨r,b,a⟩;refine⟨r,b,?_⟩;rw[Ho];refine a.imp_right λa=> ?_;rw[Hl a.1];simpa using a.2
def vP{l:List b5}{b:List Nat}(h:kC l b)(j:∀r∈l,r.Ok){p:Nat}(hp:p<65536):0<ee b p/\j_ l (b.getD (ee b p-1) 0)=j_ l p:=by
 have m:0∈b:=(h.mem 0).2 (ka.2 (.inl rfl));have e:0<ee b p:=by
  unfold ee;apply Lf (a:=0);rw[Ie];exact⟨m,by simp⟩
 refine⟨e,?_⟩;have hle:=oU b p;have c:=(mR h.up p (ee b p-1) (by omega)).2 (by omega);have key:∀x∈b,x<=p->x<=b.getD (ee b p-1) 0:=λx n k=>by
  obtain⟨i,hi,rfl⟩:=JA n;have g:=(mR h.up p i hi).1 (by rw[cn _ hi];exact k);rw[cn _ (by omega)];rcases HW i (ee b p-1)with d|d
  ·exact J1 (IM.1 h.up i (ee b p-1) hi (by omega) d)
  ·have:i=ee b p-1:=by omega
   subst this;exact Hm _
 generalize b.getD (ee b p-1) 0=f at c key;unfold j_;apply iq;intro i hi;have hm:l.getD i default∈l:=by rw[cn _ hi];exact Ht _
 generalize l.getD i default=r at hm;have s:=j r hm;unfold sY;have o:r.lo<=f↔r.lo<=p:=by
  constructor
  ·intro g;omega
  ·intro g;exact key _ ((h.mem _).2 (ka.2 (.inr ⟨r,hm,.inl rfl⟩))) g
 have q:f<=r.hi↔p<=r.hi:=by
  constructor
  ·intro g;rcases HW r.hi p with d|d
   ·have:=key _ ((h.mem _).2 (ka.2 (.inr ⟨r,hm,.inr ⟨by omega,rfl⟩⟩))) d;omega
   ·exact d
  ·intro g;omega
 rw[IQ.2 o,IQ.2 q]
def bU(q:Nat×Int):Px:=(q.1,q.2.toNat)
def lZ{q:Nat×Int}(h:bs q.1 q.2=true)(b:qA q):dt (bU q)/\((bU q).2:Int)=q.2:=by
 have a:=cg.1 h;refine⟨⟨?_,b.1⟩,?_⟩
 ·unfold fH bU;rw[KV a.1];exact h
 ·show((q.2.toNat:Nat):Int)=q.2;exact KV a.1
def qB{q:Nat×Int}(h:bs q.1 q.2=true)(a:Nat):b3 (bU q) a=hasB q.1 q.2 a:=by
 have b:=cg.1 h;unfold b3 bU;rw[KV b.1]
def yG{l:List b5}{S D:Tr}{b:List Nat}(c:∀r∈l,r.Ok)(e:∀r∈l,fp r=false)(hS:gJ (l.map (λr=>bU r.s)) S)(f:gJ (l.map (λr=>bU r.d)) D)(hz:kC l b)(h:p_)(hp:h.p<65536):
    vO (S.az h.s none)&&&vO (D.az h.d none)&&&j_ l (b.getD (ee b h.p-1) 0)=bitsOf (ed l h) l.length:=by
 rw[ie hS,ie f,(vP hz c hp).2];unfold j_;simp only[Hq];rw[nI,nI];apply iq;intro i hi;have hm:l.getD i default∈l:=by rw[cn _ hi];exact Ht _
 have a:=jl.1 (e _ hm);have g:(l.map (λr=>bU r.s)).getD i (0,0)=bU (l.getD i default).s:=by
  rw[cn _ (by simpa using hi),cn _ hi];simp
 have j:(l.map (λr=>bU r.d)).getD i (0,0)=bU (l.getD i default).d:=by
  rw[cn _ (by simpa using hi),cn _ hi];simp
 rw[g,j,qB a.1,qB a.2.1];rfl
def nJ{l:List b5}{h:p_}{i:Nat}:ir l h=some i↔i<l.length/\ed l h i=true/\∀j,j<i->ed l h j=false:=k6
def nK{l:List b5}{h:p_}:ir l h=none↔∀j,j<l.length->ed l h j=false:=k7
def eS(l:List b5)(h:p_):Option Nat:=(l.find? (λr=>ou r h)).map (·.fl)
def uy(l:List b5)(h:p_):eS l h=(ir l h).map (λi=>(l.getD i default).fl):=by
 unfold eS;cases hf:ir l h with
 |none=>
  have:=nK.1 hf
  rw[JD.2 (λr d=>by
   obtain⟨i,hi,rfl⟩:=JA d;have a:=this i hi;unfold ed at a;rw[cn _ hi]at a
   simp[a])]
  rfl
 |some i=>
  obtain⟨hi,b,a⟩:=nJ.1 hf;have e:l.find? (λr=>ou r h)=some l[i]:=by
   rw[List.find?_eq_some_iff_getElem];unfold ed at b;rw[cn _ hi]at b
   refine⟨b,i,hi,rfl,λj f=> ?_⟩;have c:=a j f;unfold ed at c;rw[cn _ (by omega)]at c
   simp[c]
  rw[e];show some l[i].fl=some (l.getD i default).fl;rw[cn _ hi]
def maskN(b:Nat):Nat:=2^32-2^(32-b)
def sZ(k:Nat)(h:k<=32):2^32-2^k=(2^(32-k)-1)*2^k:=by
 rw[Nat.sub_mul,<-Jl,Nat.one_mul,show 32-k+k=32 by omega]
def w8(a k:Nat)(ha:a<2^32)(h:k<=32):a&&&(2^32-2^k)=a/2^k*2^k:=by
 rw[sZ k h,<-Nat.shiftLeft_eq,<-Nat.shiftLeft_eq,<-JZ];apply JC;intro i;rw[JU,Nat.testBit_shiftLeft,Nat.testBit_shiftLeft,Nat.testBit_two_pow_sub_one,Ld];by_cases hi:k<=i
 ·simp only[hi,decide_true,J2];rw[show k+(i-k)=i by omega];by_cases b:i<32
  ·have:i-k<32-k:=by omega
   simp[this]
  ·have c:a.testBit i=false:=Lb (HP ha (ID (by decide) (by omega)));simp[c]
 ·simp[hi]
def w9(a k:Nat):a&&&(2^k-1)=a%2^k:=KM a k
end
namespace cq
open Go.RowKit
variable {α:Type}
structure PC (α:Type) where
 x:α
 next:Int
 taken:Bool
 queued:Bool
structure PS (α:Type) where
 cs:List (PC α)
 qs:List (Int×Int)
 aT:Int
 free:Int
 n:Int
structure RP (α:Type) where
 aT:Int
 aD:Int
 items:List (Int×α)
 bA:List (Int×Int)
 back:List Int
 never:Int
def tk(S:PS α)(h:Int):Option (PC α):=if 0<=h then(S.cs[h.toNat]?).filter (·.taken)else none
def RP.find(R:RP α)(h:Int):Option α:=(R.items.find? (λp=>p.1==h)).map (·.2)
def RP.q(R:RP α)(q:Int):List Int:=(R.bA.filter (λp=>p.1==q)).map (·.2)
def nx(cs:List (PC α))(i:Nat):Int:=match cs[i]? with|some c=>c.next|none=> -1
def b6(f:Nat->Int):Int->List Int->Prop
 |a,[]=>a= -1
 |a,h::r=>a=h/\0<=h/\b6 f (f h.toNat) r
def b6.ig{f:Nat->Int}:∀ {l:List Int} {a:Int},b6 f a l->∀z∈l,0<=z
 | [],_,_,z,hz=>by simp at hz
 |h::r,a,b,z,hz=>by
  rcases Ho.1 hz with rfl|hz
  ·exact b.2.1
  ·exact b.2.2.ig z hz
def b6.congr{f g:Nat->Int}:∀ {l:List Int} {a:Int},b6 f a l->(∀z∈l,g z.toNat=f z.toNat)->b6 g a l
 | [],_,h,_=>h
 |h::r,a,b,c=>⟨b.1,b.2.1,by rw[c h (by simp)];exact b.2.2.congr (λz hz=>c z (by simp[hz]))⟩
def b6.snoc{f g:Nat->Int}:∀ {l:List Int} {a t h:Int},b6 f a (l++[t])->(l++[t]).Nodup->(∀z∈l,g z.toNat=f z.toNat)->g t.toNat=h->0<=h->g h.toNat= -1->b6 g a (l++[t]++[h])
 | [],a,t,h,b,_,_,ht,c,d=>⟨b.1,b.2.1,by rw[ht];exact⟨rfl,c,d⟩⟩
 |z::r,a,t,h,b,i,e,ht,c,d=>by
  refine⟨b.1,b.2.1,?_⟩;rw[e z (by simp)];exact b6.snoc b.2.2 (H6.1 i).2 (λy hy=>e y (by simp[hy])) ht c d
def b6.head{f:Nat->Int}{a:Int}{l:List Int}(h:b6 f a l):a=l.head?.getD (-1):=by
 cases l with
 |nil=>exact h
 |cons z r=>exact h.1
structure Rel (S:PS α) (R:RP α):Prop where
 aT:R.aT=S.aT
 iu:1<=S.aT/\S.aT<=4096
 aD:R.aD=S.qs.length
 never:R.never=S.cs.length
 room:(S.cs.length:Int)<=S.aT
 count:R.items.length+R.back.length=S.cs.length
 n:S.n=R.items.length
 find:∀h,(tk S h).map (·.x)=R.find h
 hq:(R.items.map (·.1)).Nodup
 jm:∀p∈R.items,0<=p.1/\p.1<S.cs.length
 free:b6 (nx S.cs) S.free R.back.reverse
 kD:R.back.Nodup
 fJ:∀b∈R.back,0<=b/\b<S.cs.length/\R.find b=none
 queue:∀(q:Nat) (hd tl:Int),S.qs[q]? =some (hd,tl)->b6 (nx S.cs) hd (R.q q)/\tl=(R.q q).getLast?.getD (-1)
 dz:(R.bA.map (·.2)).Nodup
 jn:∀p∈R.bA,0<=p.1/\p.1<S.qs.length
 queued:∀h c,tk S h=some c->(c.queued=true↔h∈R.bA.map (·.2))
 dN:∀h∈R.bA.map (·.2),(tk S h).isSome=true
def di{S:PS α}{h:Int}{c:PC α}(e:tk S h=some c):0<=h/\h<S.cs.length/\S.cs[h.toNat]? =some c/\c.taken=true:=by
 unfold tk at e;split at e
 ·rename_i a;rw[Option.filter_eq_some_iff]at e
  have:=(HD.1 e.1).1;exact⟨a,by omega,e.1,e.2⟩
 ·cases e
def lx{R:RP α}{h:Int}{x:α}(e:R.find h=some x):(h,x)∈R.items:=by
 unfold RP.find at e;obtain⟨p,hp,rfl⟩:=Ja.1 e;have d:=Kk hp;have c:=List.find?_some hp;simp at c;obtain⟨a,b⟩:=p;simp at c;subst c;exact d
def uz{R:RP α}{h:Int}(e:R.find h=none):∀p∈R.items,p.1≠h:=by
 unfold RP.find at e;rw[K8,JD]at e
 intro p hp;simpa using e p hp
def l0(cs:List (PC α))(i j:Nat)(c:PC α):nx (cs.set i c) j=if i=j/\i<cs.length then c.next else nx cs j:=by
 unfold nx;by_cases h:i=j
 ·subst h;by_cases a:i<cs.length
  ·simp[a]
  ·rw[La (by omega)];simp[a]
 ·rw[HL h];simp[h]
def yH(cs:List (PC α))(c:PC α)(j:Nat)(h:j≠cs.length):nx (cs++[c]) j=nx cs j:=by
 unfold nx;by_cases a:j<cs.length
 ·rw[Jf a]
 ·rw[H_ (by simp;omega),H_ (by omega)]
def PS.take(S:PS α)(x:α):PS α×Int×Bool:=
 if S.aT<=S.n then(S,0,false)
 else if S.free= -1 then({S with cs:=S.cs++[⟨x,-1,true,false⟩],n:=S.n+1},S.cs.length,true)
 else({S with cs:=S.cs.set S.free.toNat ⟨x,-1,true,false⟩,free:=nx S.cs S.free.toNat,n:=S.n+1},S.free,true)
def RP.take(R:RP α)(x:α):RP α×Int×Bool:=
 if R.aT<=R.items.length then(R,0,false)
 else match R.back.getLast? with
    |none=>({R with items:=R.items++[(R.never,x)],never:=R.never+1},R.never,true)
    |some h=>({R with items:=R.items++[(h,x)],back:=R.back.dropLast},h,true)
def jo(R:RP α)(l:List (Int×α))(h:Int)(x:α)(a:Int)(b:R.items=l++[(h,x)])(c:∀p∈l,p.1≠h):R.find a=if a=h then some x else(l.find? (λp=>p.1==a)).map (·.2):=by
 unfold RP.find;rw[b,List.find?_append];by_cases e:a=h
 ·subst e;have:l.find? (λp=>p.1==a)=none:=by rw[JD];intro p hp;simpa using c p hp
  simp[this]
 ·have d:¬h=a:=λz=>e z.symm;simp[e,d]
def Rel.oV{S:PS α}{R:RP α}(h:Rel S R):S.free=R.back.getLast?.getD (-1):=by
 have:=h.free.head;rw[List.head?_reverse]at this;exact this
def Rel.take{S:PS α}{R:RP α}(h:Rel S R)(x:α):Rel (S.take x).1 (R.take x).1/\(S.take x).2=(R.take x).2:=by
 unfold PS.take RP.take;by_cases hf:S.aT<=S.n
 ·have u:R.aT<=R.items.length:=by rw[h.aT,<-h.n];exact hf
  rw[Hl hf,Hl u];exact⟨h,rfl⟩
 ·have u:¬R.aT<=R.items.length:=by rw[h.aT,<-h.n];exact hf
  rw[Hk hf,Hk u];have s:=h.oV;cases o:R.back.getLast? with
  |none=>
   have d:R.back=[]:=by simpa using o
   rw[o]at s
   have f:S.free= -1:=s;rw[Hl f];have hlen:=h.count;rw[d]at hlen
   simp at hlen;have I:(S.cs.length:Int)<S.aT:=by have:=h.n;omega
   have m:∀p∈R.items,p.1≠R.never:=λp hp e=>by have:=(h.jm p hp).2;rw[e,h.never]at this;omega
   have j:∀i:Int,tk {S with cs:=S.cs++[⟨x,-1,true,false⟩],n:=S.n+1} i=if i=R.never then some ⟨x,-1,true,false⟩else tk S i:=λi=>by
    unfold tk;by_cases hi:0<=i
    ·rw[Hl hi,Hl hi];by_cases e:i=R.never
     ·rw[Hl e,e,h.never];simp
     ·rw[Hk e];have K:i.toNat≠S.cs.length:=λz=>e (by rw[h.never];omega);by_cases w:i.toNat<S.cs.length
      ·simp only;rw[Jf w]
      ·simp only;rw[H_ (by simp;omega),H_ (by omega)]
    ·rw[Hk hi,Hk hi];rw[Hk (λe=>hi (by rw[e,h.never];omega))]
   have g:∀a l,b6 (nx S.cs) a l->(∀z∈l,z<S.cs.length)->b6 (nx (S.cs++[⟨x,-1,true,false⟩])) a l:=λa l g w=>g.congr (λz hz=>yH _ _ _ (by have:=w z hz;have:=g.ig z hz;omega));refine⟨⟨h.aT,h.iu,h.aD,by simp[h.never],by simp;omega,by simp[d];omega,by simp[h.n],λi=> ?_,?_,λp hp=> ?_,?_,h.kD,?_,λq hd B C=> ?_,h.dz,h.jn,λi c hi=> ?_,λi hi=> ?_⟩,by rw[h.never]⟩
   ·rw[j,jo _ R.items R.never x i rfl m];split
    ·rfl
    ·exact h.find i
   ·simp only[HE,HA,Ik];rw[Ib];refine⟨h.hq,by simp,λa ha b o=> ?_⟩;simp at o;subst o;obtain⟨p,hp,rfl⟩:=Hw.1 ha;exact m p hp
   ·rcases Hu.1 hp with hp|hp
    ·have:=h.jm p hp;simp;omega
    ·simp at hp;subst hp;simp[h.never];omega
   ·show b6 _ S.free R.back.reverse;rw[d,f];rfl
   ·intro b o;rw[show R.back=[]from d]at o;simp at o
   ·obtain⟨D,E⟩:=h.queue q hd B C;refine⟨g _ _ D (λz hz=> ?_),E⟩;have v:z∈R.bA.map (·.2):=by
     unfold RP.q at hz;obtain⟨p,hp,rfl⟩:=Hw.1 hz;exact Hw.2 ⟨p,(Ie.1 hp).1,rfl⟩
    obtain⟨c,g⟩:=I5.1 (h.dN z v);exact(di g).2.1
   ·rw[j]at hi
    split at hi
    ·rename_i e;cases hi;refine⟨(λe=>by cases e),λhm=> ?_⟩;obtain⟨c,g⟩:=I5.1 (h.dN i hm);have:=(di g).2.1;rw[e,h.never]at this;omega
    ·exact h.queued i c hi
   ·show(tk _ i).isSome=true;rw[j];split
    ·rfl
    ·exact h.dN i hi
  |some b=>
   rw[o]at s
   have f:S.free=b:=s;have F:b∈R.back:=List.mem_of_getLast? o;obtain⟨L,b1,b2⟩:=h.fJ b F;rw[Hk (by omega)];have t:R.back=R.back.dropLast++[b]:=by
    obtain⟨M,G⟩:=List.getLast?_eq_some_iff.1 o;rw[G];simp
   have m:∀p∈R.items,p.1≠b:=uz b2;have k:=h.free;rw[t,List.reverse_append]at k
   have d:=h.kD;rw[t]at d
   have r:b∉R.back.dropLast:=λhm=>by
    rw[Ib]at d
    exact d.2.2 b hm b (by simp) rfl
   have j:∀i:Int,tk {S with cs:=S.cs.set b.toNat ⟨x,-1,true,false⟩,free:=nx S.cs b.toNat,n:=S.n+1} i=if i=b then some ⟨x,-1,true,false⟩else tk S i:=λi=>by
    unfold tk;by_cases hi:0<=i
    ·rw[Hl hi,Hl hi];by_cases e:i=b
     ·rw[Hl e,e];simp[show b.toNat<S.cs.length by omega]
     ·rw[Hk e];simp only;rw[HL (by omega)]
    ·rw[Hk hi,Hk hi,Hk (by omega)]
   have y:tk S b=none:=by
    have:=h.find b;rw[b2]at this;simpa using this
   have g:∀a l,b6 (nx S.cs) a l->b∉l->b6 (nx (S.cs.set b.toNat ⟨x,-1,true,false⟩)) a l:=λa l g w=>g.congr (λz hz=>by
    rw[l0,Hk];rintro⟨e,_⟩;have:=g.ig z hz
    exact w (by rw[show b=z by omega];exact hz))
   rw[f];refine⟨⟨h.aT,h.iu,h.aD,by simp[h.never],by simpa using h.room,?_,by simp[h.n],λi=> ?_,?_,λp hp=> ?_,?_,?_,λc g=> ?_,λq hd B C=> ?_,h.dz,h.jn,λi c hi=> ?_,λi hi=> ?_⟩,rfl⟩
   ·have:=h.count;rw[t]at this
    simp at this ⊢;omega
   ·rw[j,jo _ R.items b x i rfl m];split
    ·rfl
    ·exact h.find i
   ·simp only[HE,HA,Ik];rw[Ib];refine⟨h.hq,by simp,λa ha N A=> ?_⟩;simp at A;subst A;obtain⟨p,hp,rfl⟩:=Hw.1 ha;exact m p hp
   ·rcases Hu.1 hp with hp|hp
    ·have:=h.jm p hp;simp;omega
    ·simp at hp;subst hp;simp;omega
   ·exact g _ _ k.2.2 (by simpa using r)
   ·exact(Ib.1 d).1
   ·have H:c∈R.back:=by rw[t];exact Hu.2 (.inl g)
    obtain⟨c0,c1,J⟩:=h.fJ c H;refine⟨c0,by simpa using c1,?_⟩;rw[jo _ R.items b x c rfl m,Hk (λe=>r (by rw[<-e];exact g))];exact J
   ·obtain⟨D,E⟩:=h.queue q hd B C;refine⟨g _ _ D (λhz=> ?_),E⟩;have v:b∈R.bA.map (·.2):=by
     unfold RP.q at hz;obtain⟨p,hp,e⟩:=Hw.1 hz;exact Hw.2 ⟨p,(Ie.1 hp).1,e⟩
    have:=h.dN b v;rw[y]at this;cases this
   ·rw[j]at hi
    split at hi
    ·rename_i e;cases hi;refine⟨(λe=>by cases e),λhm=> ?_⟩;have:=h.dN i hm;rw[e,y]at this;cases this
    ·exact h.queued i c hi
   ·show(tk _ i).isSome=true;rw[j];split
    ·rfl
    ·exact h.dN i hi
def PS.hl(S:PS α)(z:α)(h:Int):PS α×α×Int:=
 match tk S h with
 |none=>(S,z,7)
 |some c=>if c.queued then(S,z,9)else({S with cs:=S.cs.set h.toNat ⟨z,S.free,false,false⟩,free:=h,n:=S.n-1},c.x,0)
def RP.hl(R:RP α)(z:α)(h:Int):RP α×α×Int:=
 match R.find h with
 |none=>(R,z,7)
 |some x=>if h∈R.bA.map (·.2)then(R,z,9)else({R with items:=R.items.filter (λp=>p.1 != h),back:=R.back++[h]},x,0)
def rQ{S S':PS α}{b:Int}{c:PC α}(d:0<=b)(f:b<S.cs.length)(a:S'.cs=S.cs.set b.toNat c)(i:Int):tk S' i=if i=b then(if c.taken then some c else none)else tk S i:=by
 unfold tk;rw[a];by_cases hi:0<=i
 ·rw[Hl hi,Hl hi];by_cases e:i=b
  ·rw[Hl e,e,H8 (by omega),KW]
  ·rw[Hk e,HL (by omega)]
 ·rw[Hk hi,Hk hi,Hk (by omega)]
def oW{cs:List (PC α)}{b:Int}{c:PC α}{a:Int}{l:List Int}(g:0<=b)(d:b6 (nx cs) a l)(f:b∉l):b6 (nx (cs.set b.toNat c)) a l:=d.congr (λz hz=>by
 rw[l0,Hk];rintro⟨e,_⟩;have:=d.ig z hz
 exact f (by rw[show b=z by omega];exact hz))
def q_in{R:RP α}{q z:Int}(h:z∈R.q q):z∈R.bA.map (·.2):=by
 unfold RP.q at h;obtain⟨p,hp,rfl⟩:=Hw.1 h;exact Hw.2 ⟨p,(Ie.1 hp).1,rfl⟩
def nL(l:List (Int×α))(h:Int)(x:α)(b:(l.map (·.1)).Nodup)(hm:(h,x)∈l):(l.filter (λp=>p.1 != h)).length+1=l.length:=by
 induction l with
 |nil=>simp at hm
 |cons a r d=>
  simp only[HA,H6]at b;rcases Ho.1 hm with rfl|hm
  ·have e:(r.filter (λp=>p.1 != h))=r:=by
    rw[JF];intro p hp;simp;rintro rfl;exact b.1 (Hw.2 ⟨p,hp,rfl⟩)
   simp[e]
  ·have c:a.1≠h:=by rintro e;exact b.1 (Hw.2 ⟨_,hm,e.symm⟩)
   simp[c,d b.2 hm]
def Rel.hl{S:PS α}{R:RP α}(h:Rel S R)(z:α)(k:Int):Rel (S.hl z k).1 (R.hl z k).1/\(S.hl z k).2=(R.hl z k).2:=by
 unfold PS.hl RP.hl;have f:=h.find k;cases ht:tk S k with
 |none=>
  rw[ht]at f
  rw[<-f];exact⟨h,rfl⟩
 |some c=>
  rw[ht]at f
  obtain⟨o,k1,k2,k3⟩:=di ht;rw[<-f];have w:=h.queued k c ht;by_cases g:c.queued=true
  ·simp only[JG];rw[Hl g,Hl (w.1 g)];exact⟨h,rfl⟩
  ·have m:k∉R.bA.map (·.2):=λe=>g (w.2 e);simp only[JG];rw[Hk g,Hk m];have r:(k,c.x)∈R.items:=lx (by simpa using f.symm);have y:=nL R.items k c.x h.hq r;have j:=λi=>rQ (S':= {S with cs:=S.cs.set k.toNat ⟨z,S.free,false,false⟩,free:=k,n:=S.n-1}) (S:=S) (b:=k) (c:=⟨z,S.free,false,false⟩) o k1 rfl i;simp only[Jo,Jp]at j;have s:k∉R.back:=λhm=>by have:=(h.fJ k hm).2.2;rw[<-f]at this;cases this
   have d:∀i,RP.find {R with items:=R.items.filter (λp=>p.1 != k),back:=R.back++[k]} i=if i=k then none else R.find i:=λi=>by
    unfold RP.find;by_cases e:i=k
    ·rw[Hl e];have:(R.items.filter (λp=>p.1 != k)).find? (λp=>p.1==i)=none:=by
      rw[JD];intro p hp;have:=(Ie.1 hp).2;simp at this ⊢;rw[e];exact this
     simp only[this];rfl
    ·rw[Hk e];simp only;rw[List.find?_filter];congr 2;funext p
     by_cases t:p.1=i
     ·have:p.1≠k:=λu=>e (t.symm.trans u);simp[t];exact λu=>e u
     ·simp[t]
   refine⟨⟨h.aT,h.iu,h.aD,by simp[h.never],by simpa using h.room,?_,?_,λi=> ?_,?_,λp hp=> ?_,?_,?_,λb l=> ?_,λq hd A v=> ?_,h.dz,h.jn,λi B hi=> ?_,λi hi=> ?_⟩,rfl⟩
   ·have:=h.count;simp;omega
   ·have:=h.n;show S.n-1=_;simp only;omega
   ·rw[j,d];split
    ·rfl
    ·exact h.find i
   ·exact h.hq.sublist (J3.map _)
   ·have:=h.jm p (Ie.1 hp).1;simpa using this
   ·show b6 _ k (R.back++[k]).reverse;rw[List.reverse_append];refine⟨rfl,o,?_⟩;have e:nx (S.cs.set k.toNat ⟨z,S.free,false,false⟩) k.toNat=S.free:=by rw[l0,Hl ⟨rfl,by omega⟩]
    show b6 _ (nx _ k.toNat) _;simp only[e];exact oW o h.free (by simpa using s)
   ·show(R.back++[k]).Nodup;rw[Ib];exact⟨h.kD,by simp,λa ha b l=>by simp at l;subst l;rintro rfl;exact s ha⟩
   ·rcases Hu.1 l with l|l
    ·obtain⟨C,b1,b2⟩:=h.fJ b l;exact⟨C,by simpa using b1,by rw[d,b2];split<;>rfl⟩
    ·simp at l;subst l;exact⟨o,by simpa using k1,by rw[d,Hl rfl]⟩
   ·obtain⟨D,E⟩:=h.queue q hd A v;exact⟨oW o D (λhm=>m (q_in hm)),E⟩
   ·rw[j]at hi
    split at hi
    ·cases hi
    ·exact h.queued i B hi
   ·show(tk _ i).isSome=true;rw[j,Hk (λe=>m (by rw[<-e];exact hi))];exact h.dN i hi
def gy(cs:List (PC α))(i:Nat)(v:Int):List (PC α):=match cs[i]? with|some c=>cs.set i {c with next:=v}|none=>cs
def ek(cs:List (PC α))(i:Nat)(v:Int)(b:Bool):List (PC α):=match cs[i]? with|some c=>cs.set i {c with next:=v,queued:=b}|none=>cs
def PS.append(S:PS α)(q k:Int):PS α×Int:=
 if ¬(0<=q/\q<S.qs.length)then(S,6)else
 match tk S k with
 |none=>(S,7)
 |some c=>if c.queued then(S,8)else
  match S.qs[q.toNat]? with
  |none=>(S,0)
  |some (hd,a)=>
   if hd= -1 then({S with cs:=ek S.cs k.toNat (-1) true,qs:=S.qs.set q.toNat (k,k)},0)
   else({S with cs:=gy (ek S.cs k.toNat (-1) true) a.toNat k,qs:=S.qs.set q.toNat (hd,k)},0)
def RP.append(R:RP α)(q k:Int):RP α×Int:=
 if ¬(0<=q/\q<R.aD)then(R,6)else
 match R.find k with
 |none=>(R,7)
 |some _=>if k∈R.bA.map (·.2)then(R,8)else({R with bA:=R.bA++[(q,k)]},0)
def w_(cs:List (PC α))(i j:Nat)(v:Int)(hi:i<cs.length):nx (gy cs i v) j=if i=j then v else nx cs j:=by
 unfold gy;rw[Hn hi];simp only;rw[l0];by_cases h:i=j<;>simp[h];intro a;exact absurd (h▸hi) (by omega)
def l1(cs:List (PC α))(i j:Nat)(v:Int)(b:Bool)(hi:i<cs.length):nx (ek cs i v b) j=if i=j then v else nx cs j:=by
 unfold ek;rw[Hn hi];simp only;rw[l0];by_cases h:i=j<;>simp[h];intro a;exact absurd (h▸hi) (by omega)
def uA(cs:List (PC α))(i:Nat)(v:Int):(gy cs i v).length=cs.length:=by unfold gy;split<;>simp
def eI(cs:List (PC α))(i:Nat)(v:Int)(b:Bool):(ek cs i v b).length=cs.length:=by unfold ek;split<;>simp
def xa{S S':PS α}{t v:Int}(ht:0<=t)(b:t<S.cs.length)(a:S'.cs=gy S.cs t.toNat v)(i:Int):tk S' i=if i=t then(tk S i).map (λc=> {c with next:=v})else tk S i:=by
 unfold gy at a;rw[Hn (by omega:t.toNat<S.cs.length)]at a
 rw[rQ ht b a i];by_cases e:i=t
 ·subst e;rw[Hl rfl,Hl rfl];unfold tk;rw[Hl ht,Hn (by omega:i.toNat<S.cs.length),KW];split<;>rfl
 ·rw[Hk e,Hk e]
def s0{S S':PS α}{t v:Int}{b:Bool}(ht:0<=t)(d:t<S.cs.length)(a:S'.cs=ek S.cs t.toNat v b)(i:Int):tk S' i=if i=t then(tk S i).map (λc=> {c with next:=v,queued:=b})else tk S i:=by
 unfold ek at a;rw[Hn (by omega:t.toNat<S.cs.length)]at a
 rw[rQ ht d a i];by_cases e:i=t
 ·subst e;rw[Hl rfl,Hl rfl];unfold tk;rw[Hl ht,Hn (by omega:i.toNat<S.cs.length),KW];split<;>rfl
 ·rw[Hk e,Hk e]
def fK{β j:Type}{f:β->j}:∀ {l:List β} {a b:β},(l.map f).Nodup->a∈l->b∈l->f a=f b->a=b
 | [],_,_,_,h,_,_=>by simp at h
 |c::r,a,b,i,ha,k,e=>by
  simp only[HA,H6]at i;rcases Ho.1 ha with rfl|d<;>rcases Ho.1 k with rfl|g
  ·rfl
  ·exact absurd (Hw.2 ⟨b,g,e.symm⟩) i.1
  ·exact absurd (Hw.2 ⟨a,d,e⟩) i.1
  ·exact fK i.2 d g e
def vQ(R:RP α)(q k a:Int):RP.q {R with bA:=R.bA++[(q,k)]} a=if a=q then R.q a++[k]else R.q a:=by
 unfold RP.q;simp only[List.filter_append,HE];by_cases e:a=q
 ·subst e;simp
 ·have:¬q=a:=λh=>e h.symm;simp[e,this]
def Rel.append{S:PS α}{R:RP α}(h:Rel S R)(q k:Int):Rel (S.append q k).1 (R.append q k).1/\(S.append q k).2=(R.append q k).2:=by
 unfold PS.append RP.append;by_cases T:0<=q/\q<(S.qs.length:Int)
 ·have A:0<=q/\q<R.aD:=by rw[h.aD];exact T
  rw[Hk (by simpa using T),Hk (by simpa using A)];have B:=h.find k;cases ht:tk S k with
  |none=>rw[ht]at B;rw[<-B];exact⟨h,rfl⟩
  |some c=>
   rw[ht]at B
   obtain⟨k0,k1,k2,k3⟩:=di ht;rw[<-B];have U:=h.queued k c ht;simp only[JG];by_cases H:c.queued=true
   ·rw[Hl H,Hl (U.1 H)];exact⟨h,rfl⟩
   ·have I:k∉R.bA.map (·.2):=λe=>H (U.2 e);rw[Hk H,Hk I];obtain⟨⟨hd,o⟩,V⟩:∃p,S.qs[q.toNat]? =some p:=⟨S.qs[q.toNat]'(by omega),by simp⟩
    simp only[V];obtain⟨m,W⟩:=h.queue q.toNat hd o V;have L:((q.toNat:Nat):Int)=q:=by omega
    rw[L]at m W
    have M:∀w,k∉R.q w:=λw hm=>I (q_in hm);have common:∀(f:List (PC α)) (s:Int),f.length=S.cs.length->(∀i,i≠k->∀c,tk {S with cs:=f,qs:=S.qs.set q.toNat (s,k)} i=some c->∃c0,tk S i=some c0/\c0.queued=c.queued)->
     (∀i,(tk {S with cs:=f,qs:=S.qs.set q.toNat (s,k)} i).map (·.x)=(tk S i).map (·.x))->(∀c,tk {S with cs:=f,qs:=S.qs.set q.toNat (s,k)} k=some c->c.queued=true)->
     b6 (nx f) S.free R.back.reverse->(∀w,w≠q->∀a,b6 (nx S.cs) a (R.q w)->b6 (nx f) a (R.q w))->b6 (nx f) s (R.q q++[k])->
     Rel {S with cs:=f,qs:=S.qs.set q.toNat (s,k)} {R with bA:=R.bA++[(q,k)]}:=by
     intro f s C hA hB hC hD hE hF;refine⟨h.aT,h.iu,by simp[h.aD],by simp[h.never,C],by simpa[C]using h.room,by simpa[C]using h.count,h.n,λi=>(hB i).trans (h.find i),h.hq,by simpa[C]using h.jm,hD,h.kD,(λb hb=>by have:=h.fJ b hb;exact⟨this.1,by show b<(f.length:Int);rw[C];exact this.2.1,this.2.2⟩),λw ah ai y=> ?_,?_,λp hp=> ?_,λi K hi=> ?_,λi hi=> ?_⟩
     ·rw[vQ];by_cases e:w=q.toNat
      ·subst e;simp only at y;rw[H8 (by omega)]at y
       cases y;rw[Hl L,L];exact⟨hF,by simp⟩
      ·simp only at y;rw[HL (λz=>e z.symm)]at y
       obtain⟨P,Q⟩:=h.queue w ah ai y;rw[Hk (by omega)];exact⟨hE _ (by omega) _ P,Q⟩
     ·simp only[HE,HA,Ik];rw[Ib];exact⟨h.dz,by simp,λa ha b hb=>by simp at hb;subst hb;rintro rfl;exact I ha⟩
     ·rcases Hu.1 hp with hp|hp
      ·have:=h.jn p hp;simpa using this
      ·simp at hp;subst hp;simpa using T
     ·simp only[HE,HA,Ik,Hu,H0];by_cases e:i=k
      ·subst e;exact⟨λ_=>.inr rfl,λ_=>hC K hi⟩
      ·obtain⟨c0,P,Q⟩:=hA i e K hi;rw[<-Q,h.queued i c0 P];exact⟨.inl,λhh=>hh.resolve_right e⟩
     ·have N:i∈R.bA.map (·.2)\/i=k:=by simpa using hi
      have hs:((tk {S with cs:=f,qs:=S.qs.set q.toNat (s,k)} i).map (·.x)).isSome=true:=by
       rw[hB];rcases N with N|rfl
       ·simpa using h.dN i N
       ·simp[ht]
      simpa using hs
    have g:=λ(S':PS α) (e:S'.cs=ek S.cs k.toNat (-1) true) i=>s0 (S:=S) (S':=S') (t:=k) (v:= -1) (b:=true) k0 k1 e i;have X:k∉R.back:=λhm=>by have:=(h.fJ k hm).2.2;rw[<-B]at this;cases this
    have Y:∀a l,b6 (nx S.cs) a l->k∉l->b6 (nx (ek S.cs k.toNat (-1) true)) a l:=λa l Z C=>Z.congr (λz hz=>by
     rw[l1 _ _ _ _ _ (by omega),Hk]
     intro e;have:=Z.ig z hz;exact C (by rw[show k=z by omega];exact hz))
    by_cases O:hd= -1
    ·rw[Hl O];have ac:R.q q=[]:=by
      cases C:R.q q with
      |nil=>rfl
      |cons a r=>rw[C]at m;have P:=m.1;have Q:=m.2.1;omega
     refine⟨common _ k (eI _ _ _ _) (λi hi K d=> ?_) (λi=> ?_) (λK d=> ?_) (Y _ _ h.free (by simpa using X)) (λw _ a ha=>Y _ _ ha (M w)) ?_,rfl⟩
     ·rw[g _ rfl i,Hk hi]at d;exact⟨K,d,rfl⟩
     ·rw[g _ rfl i];split
      ·cases tk S i<;>rfl
      ·rfl
     ·rw[g _ rfl k,Hl rfl,ht]at d;simp at d;subst d;rfl
     ·rw[ac];exact⟨rfl,k0,by show nx _ _= -1;rw[l1 _ _ _ _ _ (by omega),Hl rfl]⟩
    ·rw[Hk O];have ad:R.q q≠ []:=by
      intro e;rw[e]at m;exact O m
     obtain⟨l0,t,D⟩:∃l0 t,R.q q=l0++[t]:=⟨(R.q q).dropLast,(R.q q).getLast ad,(K_ ad).symm⟩
     have aj:o=t:=by rw[W,D];simp
     subst aj;have E:o∈R.q q:=by rw[D];simp
     have ae:=q_in E;obtain⟨ct,af⟩:=I5.1 (h.dN o ae);obtain⟨t0,t1,t2,t3⟩:=di af;have ag:o≠k:=λe=>I (e▸ae);have F:=λ(S':PS α) (e:S'.cs=gy (ek S.cs k.toNat (-1) true) o.toNat k) i=>xa (S:= {S with cs:=ek S.cs k.toNat (-1) true}) (S':=S') (t:=o) (v:=k) t0 (by simp[eI];exact t1) e i;have ak:o∉R.back:=λhm=>by have:=(h.fJ o hm).2.2;rw[<-h.find o,af]at this;cases this
     have J:∀j,nx (gy (ek S.cs k.toNat (-1) true) o.toNat k) j=if o.toNat=j then k else if k.toNat=j then -1 else nx S.cs j:=λj=>by
      rw[w_ _ _ _ _ (by rw[eI];omega)];split
      ·rfl
      ·rw[l1 _ _ _ _ _ (by omega)]
     have G:∀a l,b6 (nx S.cs) a l->k∉l->o∉l->b6 (nx (gy (ek S.cs k.toNat (-1) true) o.toNat k)) a l:=λa l Z C al=>Z.congr (λz hz=>by
      have:=Z.ig z hz
      rw[J,Hk (λe=>al (by rw[show o=z by omega];exact hz)),Hk (λe=>C (by rw[show k=z by omega];exact hz))])
     have u:(R.q q).Nodup:=by
      unfold RP.q;exact h.dz.sublist (J3.map _)
     refine⟨common _ hd (by rw[uA,eI]) (λi hi K d=> ?_) (λi=> ?_) (λK d=> ?_) (G _ _ h.free (by simpa using X) (by simpa using ak)) (λw A a ha=>G _ _ ha (M w) (λhm=> ?_)) ?_,rfl⟩
     ·rw[F _ rfl i,g _ rfl i,Hk hi]at d
      split at d
      ·obtain⟨c0,P,Q⟩:=Ja.1 d;exact⟨c0,P,by rw[<-Q]⟩
      ·exact⟨K,d,rfl⟩
     ·rw[F _ rfl i,g _ rfl i];split<;>split<;>(cases tk S i<;>rfl)
     ·rw[F _ rfl k,g _ rfl k,Hk (λe=>ag e.symm),Hl rfl,ht]at d;simp at d;subst d;rfl
     ·
      unfold RP.q at hm E;obtain⟨p1,an,e1⟩:=Hw.1 hm;obtain⟨p2,ao,e2⟩:=Hw.1 E;have m1:=(Ie.1 an);have m2:=(Ie.1 ao)
      have:=fK h.dz m1.1 m2.1 (e1.trans e2.symm);subst this;have a1:=m1.2;have a2:=m2.2;simp at a1 a2;exact A (a1.symm.trans a2)
     ·rw[D]at m u
      have aq:=G;rw[D];refine b6.snoc m u (λz hz=> ?_) (by rw[J,Hl rfl]) k0 (by rw[J,Hk (by omega),Hl rfl]);have ar:=m.ig z (Hu.2 (.inl hz));have au:z≠o:=λe=>by rw[Ib]at u;exact u.2.2 z hz o (by simp) e
      have av:z≠k:=λe=>M q (by rw[D,<-e];exact Hu.2 (.inl hz));rw[J,Hk (by omega),Hk (by omega)]
 ·have A:¬(0<=q/\q<R.aD):=by rw[h.aD];exact T
  rw[Hl T,Hl A];exact⟨h,rfl⟩
def PS.pop(S:PS α)(q:Int):PS α×Int×Bool:=
 if ¬(0<=q/\q<S.qs.length)then(S,0,false)else
 match S.qs[q.toNat]? with
 |none=>(S,0,false)
 |some (hd,a)=>
  if hd= -1 then(S,0,false)
  else({S with cs:=ek S.cs hd.toNat (-1) false,qs:=S.qs.set q.toNat (nx S.cs hd.toNat,if nx S.cs hd.toNat= -1 then -1 else a)},hd,true)
def RP.pop(R:RP α)(q:Int):RP α×Int×Bool:=
 match R.q q with
 | []=>(R,0,false)
 |h::_=>({R with bA:=R.bA.filter (λp=>p.2 != h)},h,true)
def Rel.yI{S:PS α}{R:RP α}(h:Rel S R){q:Int}(a:¬(0<=q/\q<(S.qs.length:Int))):R.q q=[]:=by
 unfold RP.q;have:R.bA.filter (λp=>p.1==q)=[]:=by
  rw[KT];intro p hp e;have:=h.jn p hp;simp at e;subst e;exact a this
 rw[this];rfl
def kE(R:RP α)(b:(R.bA.map (·.2)).Nodup)(k a:Int):RP.q {R with bA:=R.bA.filter (λp=>p.2 != k)} a=(R.q a).filter (·!= k):=by
 unfold RP.q;simp only[List.filter_filter,KX];congr 1;congr 1;funext p
 simp only[Function.comp];rw[Bool.and_comm]
def Rel.pop{S:PS α}{R:RP α}(h:Rel S R)(q:Int):Rel (S.pop q).1 (R.pop q).1/\(S.pop q).2=(R.pop q).2:=by
 unfold PS.pop RP.pop;by_cases J:0<=q/\q<(S.qs.length:Int)
 ·rw[Hk (by simpa using J)];obtain⟨⟨hd,X⟩,E⟩:∃p,S.qs[q.toNat]? =some p:=⟨S.qs[q.toNat]'(by omega),by simp⟩
  simp only[E];obtain⟨f,A⟩:=h.queue q.toNat hd X E;have F:((q.toNat:Nat):Int)=q:=by omega
  rw[F]at f A
  cases o:R.q q with
  |nil=>
   rw[o]at f
   rw[Hl (show hd= -1 from f)];exact⟨h,rfl⟩
  |cons k r=>
   have u:(R.q q).Nodup:=by
    unfold RP.q;exact h.dz.sublist (J3.map _)
   rw[o]at f A u
   obtain⟨rfl,Y,K⟩:=f;rw[Hk (by omega)];have L:hd∈R.bA.map (·.2):=q_in (q:=q) (by rw[o];simp);obtain⟨c,G⟩:=I5.1 (h.dN hd L);obtain⟨_,k1,k2,k3⟩:=di G;have H:hd∉r:=(H6.1 u).1;have M:hd∉R.back:=λhm=>by have:=(h.fJ hd hm).2.2;rw[<-h.find hd,G]at this;cases this
   have B:∀a l,b6 (nx S.cs) a l->hd∉l->b6 (nx (ek S.cs hd.toNat (-1) false)) a l:=λa l G o=>G.congr (λz hz=>by
    rw[l1 _ _ _ _ _ (by omega),Hk]
    intro e;have:=G.ig z hz;exact o (by rw[show hd=z by omega];exact hz))
   have g:=λ(S':PS α) (e:S'.cs=ek S.cs hd.toNat (-1) false) i=>s0 (S:=S) (S':=S') (t:=hd) (v:= -1) (b:=false) Y k1 e i;have s:∀C,C≠q->hd∉R.q C:=λC N hm=>by
    have w:hd∈R.q q:=by rw[o];simp
    unfold RP.q at hm w;obtain⟨p1,O,Z⟩:=Hw.1 hm;obtain⟨p2,P,Q⟩:=Hw.1 w;have m1:=(Ie.1 O);have m2:=(Ie.1 P)
    have:=fK h.dz m1.1 m2.1 (Z.trans Q.symm);subst this;have a1:=m1.2;have a2:=m2.2;simp at a1 a2;exact N (a1.symm.trans a2)
   have x:∀l:List Int,hd∉l->l.filter (·!= hd)=l:=λl o=>by
    rw[JF];intro a ha;simp;rintro rfl;exact o ha
   have j:(R.bA.filter (λp=>p.2 != hd)).map (·.2)=(R.bA.map (·.2)).filter (·!= hd):=by rw[KX];rfl
   refine⟨⟨h.aT,h.iu,by simp[h.aD],by simp[h.never,eI],by simpa[eI]using h.room,by simpa[eI]using h.count,h.n,λi=> ?_,h.hq,by simpa[eI]using h.jm,B _ _ h.free (by simpa using M),h.kD,(λb hb=>by have:=h.fJ b hb;exact⟨this.1,by simpa[eI]using this.2.1,this.2.2⟩),λC T U d=> ?_,?_,λp hp=> ?_,λi V hi=> ?_,λi hi=> ?_⟩,rfl⟩
   ·rw[g _ rfl i];split
    ·rw[<-show R.find i=RP.find {R with bA:=R.bA.filter (λp=>p.2 != hd)} i from rfl,<-h.find i];cases tk S i<;>rfl
    ·exact h.find i
   ·rw[kE R h.dz];by_cases e:C=q.toNat
    ·subst e;simp only at d;rw[H8 (by omega)]at d
     cases d;rw[F,o];have Q:(hd::r).filter (·!= hd)=r:=by simp[x r H]
     rw[Q];refine⟨B _ _ K H,?_⟩;have m:=K.head;cases r with
     |nil=>rw[Hl (show nx S.cs hd.toNat= -1 from m)];rfl
     |cons y r'=>
      have hy:=K.2.1;rw[Hk (by rw[m];simp;omega),A];simp[List.getLast?_cons_cons]
    ·simp only at d;rw[HL (λz=>e z.symm)]at d
     obtain⟨W,h2⟩:=h.queue C T U d;have I:=s C (by omega);rw[x _ I];exact⟨B _ _ W I,h2⟩
   ·show((R.bA.filter (λp=>p.2 != hd)).map (·.2)).Nodup;rw[j];exact h.dz.sublist J3
   ·have:=h.jn p (Ie.1 hp).1;simpa using this
   ·show V.queued=true↔i∈(R.bA.filter (λp=>p.2 != hd)).map (·.2);rw[j,Ie];rw[g _ rfl i]at hi
    by_cases e:i=hd
    ·rw[Hl e]at hi
     obtain⟨c0,W,rfl⟩:=Ja.1 hi;simp[e]
    ·rw[Hk e]at hi
     rw[h.queued i V hi];simp[e]
   ·have D:i∈(R.bA.filter (λp=>p.2 != hd)).map (·.2):=hi;rw[j,Ie]at D
    rw[g _ rfl i,Hk (by simpa using D.2)];exact h.dN i D.1
 ·rw[Hl J,h.yI J];exact⟨h,rfl⟩
def Rel.ends{α:Type}{S:PS α}{R:RP α}(h:Rel S R){q:Nat}{hd a:Int}(j:S.qs[q]? =some (hd,a)):
    (hd= -1/\a= -1/\R.q q=[])\/∃c d,tk S hd=some c/\c.queued=true/\tk S a=some d/\d.queued=true:=by
 obtain⟨k,e⟩:=h.queue q hd a j;have f:=k.head;cases g:R.q q with
 |nil=>left;rw[g]at e f;exact⟨f,e,rfl⟩
 |cons z r=>
  right;have hz:hd∈R.q q:=by rw[f,g];simp
  have ht:a∈R.q q:=by
   rw[e,g,List.getLast?_eq_some_getLast (by simp)];exact List.getLast_mem _
  have a1:=h.dN _ (q_in hz);have a2:=h.dN _ (q_in ht);obtain⟨c,i⟩:=I5.1 a1;obtain⟨d,b⟩:=I5.1 a2;exact⟨c,d,i,(h.queued _ c i).2 (q_in hz),b,(h.queued _ d b).2 (q_in ht)⟩
def Rel.Dt{α:Type}{S:PS α}{R:RP α}(h:Rel S R):∀x∈S.qs,-1<=x.1/\x.1<=4096:=by
 intro x a;obtain⟨i,hi⟩:=List.getElem?_of_mem a;obtain⟨hd,e⟩:=x;have f:=h.room;have g:=h.iu.2;rcases h.ends hi with⟨rfl,_⟩|⟨c,d,b,_⟩
 ·simp
 ·have:=di b;simp only;omega
def Rel.len{α:Type}{S:PS α}{R:RP α}(h:Rel S R):S.cs.length<=4096:=by
 have a:=h.room;have b:=h.iu.2;omega
end cq
end Go.Proofs.YtincjochpkdnfaaGreatDoor
