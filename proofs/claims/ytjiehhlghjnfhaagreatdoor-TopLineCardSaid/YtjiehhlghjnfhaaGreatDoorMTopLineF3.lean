/- The trie of layer 32 and the rules of layer 34 in plain Lean, no program in sight: the longest prefix in use that has an address; one more prefix laid or put; which rule is the first that holds; which are dead. -/
import Derived.Test.YtjiehhlghjnfhaaGreatDoorMTopLineF2
import Derived.Sort.LotD5
import Derived.Lib.TrailingZeros
import Derived.Test.YtjiehhlghjnfhaaGreatDoorMTopLineF0
import Derived.Test.YtjiehhlghjnfhaaGreatDoorProg
import Derived.Deep.QuietTactic
import Derived.BigQuiet
import Derived.Laws.BitsAllLaws
import Derived.Test.YtjiehhlghjnfhaaGreatDoorMTopLineF1
import Derived.Shelf.Spec.TrailingZeros
set_option linter.unusedVariables false
set_option linter.unusedSimpArgs false
set_option maxHeartbeats 1000000
namespace Go.Proofs.YtjiehhlghjnfhaaGreatDoor
abbrev Px:=Nat×Nat
def fB (p:Px) (x:Nat):Bool:=hasB p.1 p.2 x
def dL (p q:Px):Bool:=qO p.1 p.2 q.1 q.2
def lu (p:Px):Bool:=cO p.1 p.2
def bH (p:Px) (a:Nat):Nat:=a/2^(31-p.2)%2
theorem dD (p:Px) (a:Nat):bH p a=0∨bH p a=1:=by unfold bH;omega
theorem Y2 {p:Px} {x:Nat} (h:fB p x=true):p.2≤32:=by
 unfold fB at h;rw[jM,dK]at h;omega
theorem Ve {p:Px} {x:Nat} (h:fB p x=true):x/2^(32-p.2)=p.1/2^(32-p.2):=by
 unfold fB at h;rw[jM]at h;have:=h.2
 rwa [Int.toNat_natCast]at this
theorem zA {p q:Px} {a:Nat} (hb:p.2<q.2) (h:fB q a=true):bH p a=bH p q.1:=by
 have hle:=Y2 h;have hd:=Ve h;have e:2^(31-p.2)=2^(32-q.2)*2^(q.2-p.2-1):=by rw[←Nat.pow_add];congr 1;omega
 unfold bH;rw[e,←Nat.div_div_eq_div_mul,←Nat.div_div_eq_div_mul,hd]
theorem DK {p q:Px} {a:Nat} (h:dL p q=true) (h':fB q a=true):fB p a=true:=Qq h h'
theorem Sm {p q r:Px} (hb:p.2<q.2) (h:dL q r=true):bH p r.1=bH p q.1:=by
 have:fB q r.1=true:=by unfold dL at h;rw[jO]at h;exact h.2.2
 exact zA hb this
theorem NZ {p q r:Px} (h1:dL p q=true) (h2:dL q r=true):dL p r=true:=by
 unfold dL at*;have h2':=jO.1 h2;have h1':=jO.1 h1;rw[jO];exact⟨h2'.1,Int.le_trans h1'.2.1 h2'.2.1,Qq h1 h2'.2.2⟩
theorem Dh {p q:Px} (h:dL p q=true):p.2≤q.2:=by unfold dL at h;rw[jO]at h;omega
theorem wL {p q:Px} (h:dL p q=true) (he:p.2=q.2):p=q:=by
 obtain⟨p1,p2⟩:=p;obtain⟨q1,q2⟩:=q;simp only at he;subst he;unfold dL at h;rw[jO,jM,dK,dK]at h;obtain⟨⟨_,_,h1⟩,_,⟨_,_,h2⟩,h3⟩:=h;simp only[Int.toNat_natCast]at h1 h2 h3;congr 1
 have e1:=Nat.div_add_mod p1 (2^(32-p2));have e2:=Nat.div_add_mod q1 (2^(32-p2));rw[h2]at e1;rw[h1]at e2;rw[←e1,←e2,h3]
theorem DL {p q:Px} {a:Nat} (h:fB p a=true) (h':fB q a=true) (hb:p.2≤q.2):dL p q=true:=Y1 h h' (by omega)
inductive Tr where
 |nil:Tr
 |node (b:Nat) (p:Px) (used:Bool) (x:Nat) (l r:Tr):Tr
def Tr.dE:Tr→List Px
 | .nil=>[]
 | .node _ p _ _ l r=>p::(l.dE++r.dE)
def Tr.bP:Tr→List (Px×Nat)
 | .nil=>[]
 | .node _ p u x l r=>(match u with|true=>[(p,x)]|false=>[])++(l.bP++r.bP)
def Tr.aU:Tr→List Nat
 | .nil=>[]
 | .node b _ _ _ l r=>b::(l.aU++r.aU)
def nH (p:Px):Prop:=lu p=true∧p.1<4294967296
structure Under (p:Px) (s:Nat) (q:Px):Prop where
 II:dL p q=true
 lt:p.2<q.2
 side:bH p q.1=s
def Tr.WF:Tr→Prop
 | .nil=>True
 | .node _ p _ _ l r=>nH p∧(∀q∈l.dE,Under p 0 q)∧(∀q∈r.dE,Under p 1 q)∧l.WF∧r.WF
theorem Tr.gV {t:Tr} {e:Px×Nat} (h:e∈t.bP):e.1∈t.dE:=by
 induction t with
 |nil=>cases h
 |node b p u x l r hl hr=>
  simp only[Tr.bP,List.mem_append]at h;simp only[Tr.dE,List.mem_cons,List.mem_append];rcases h with h|h|h
  ·cases u with
   |true=>simp only[List.mem_singleton]at h;subst h;exact .inl rfl
   |false=>cases h
  ·exact .inr (.inl (hl h))
  ·exact .inr (.inr (hr h))
def Tr.best:Tr→Nat→Option (Px×Nat)→Option (Px×Nat)
 | .nil,_,acc=>acc
 | .node _ p u x l r,a,acc=>match fB p a with
   |false=>acc
   |true=>if bH p a=0 then l.best a (match u with|true=>some (p,x)|false=>acc)else r.best a (match u with|true=>some (p,x)|false=>acc)
theorem Tr.yj {t:Tr} {a:Nat} {acc:Option (Px×Nat)} (h:∀e∈t.bP,fB e.1 a=false):t.best a acc=acc:=by
 induction t generalizing acc with
 |nil=>rfl
 |node b p u x l r hl hr=>
  simp only[Tr.bP,List.mem_append]at h;unfold Tr.best;cases hp:fB p a with
  |false=>rfl
  |true=>
   have hu:u=false:=by
    cases u with
    |false=>rfl
    |true=>have:=h (p,x) (.inl (by simp));rw[hp]at this;cases this
   subst hu;simp only;split
   ·exact hl (fun e he=>h e (.inr (.inl he)))
   ·exact hr (fun e he=>h e (.inr (.inr he)))
theorem Tr.N7 {t:Tr} (hw:t.WF) {a:Nat} {acc:Option (Px×Nat)} {e:Px×Nat} (he:e∈t.bP) (ha:fB e.1 a=true) (hm:∀e'∈t.bP,fB e'.1 a=true→e'.1.2≤e.1.2):t.best a acc=some e:=by
 induction t generalizing acc with
 |nil=>cases he
 |node b p u x l r hl hr=>
  obtain⟨_,w1,w2,w3,w4⟩:=hw;simp only[Tr.bP,List.mem_append]at he hm;have low:∀q,(q∈l.dE∨q∈r.dE)→fB q a=true→fB p a=true∧p.2<q.2:=fun q hq hqa=>by
   rcases hq with hq|hq
   ·exact⟨DK (w1 q hq).II hqa,(w1 q hq).lt⟩
   ·exact⟨DK (w2 q hq).II hqa,(w2 q hq).lt⟩
  unfold Tr.best;rcases he with he|he|he
  ·cases u with
   |false=>cases he
   |true=>
    simp only[List.mem_singleton]at he;subst he;simp only at ha hm;rw[ha];simp only;have hno:∀e',(e'∈l.bP∨e'∈r.bP)→fB e'.1 a=false:=fun e' he'=>by
     cases hh:fB e'.1 a with
     |false=>rfl
     |true=>
      have h1:=(low e'.1 (he'.imp Tr.gV Tr.gV) hh).2;have h2:=hm e' (.inr he') hh;omega
    split
    ·exact Tr.yj (fun e' he'=>hno e' (.inl he'))
    ·exact Tr.yj (fun e' he'=>hno e' (.inr he'))
  ·have hpa:=(low e.1 (.inl (Tr.gV he)) ha).1;have hs:=zA (p:=p) (w1 _ (Tr.gV he)).lt ha;rw[(w1 _ (Tr.gV he)).side]at hs;rw[hpa];simp only;rw[if_pos hs];exact hl w3 he (fun e' he'=>hm e' (.inr (.inl he')))
  ·have hpa:=(low e.1 (.inr (Tr.gV he)) ha).1;have hs:=zA (p:=p) (w2 _ (Tr.gV he)).lt ha;rw[(w2 _ (Tr.gV he)).side]at hs;rw[hpa];simp only;rw[if_neg (by omega)];exact hr w4 he (fun e' he'=>hm e' (.inr (.inr he')))
end Go.Proofs.YtjiehhlghjnfhaaGreatDoor
namespace Go.Proofs.YtjiehhlghjnfhaaGreatDoor
def Tr.at_:Tr→Px→Option (Nat×Bool×Nat)
 | .nil,_=>none
 | .node b p u x l r,q=>if p=q then some (b,u,x)else if q.2≤p.2∨dL p q=false then none else if bH p q.1=0 then l.at_ q else r.at_ q
theorem Tr.Vf {t:Tr} {q:Px} (hq:q∉t.dE):t.at_ q=none:=by
 induction t with
 |nil=>rfl
 |node b p u x l r hl hr=>
  simp only[Tr.dE,List.mem_cons,List.mem_append,not_or]at hq;unfold Tr.at_;rw[if_neg (fun e=>hq.1 e.symm)];split
  ·rfl
  ·split
   ·exact hl hq.2.1
   ·exact hr hq.2.2
theorem Tr.DN {t:Tr} (hw:t.WF) {q:Px} (hq:q∈t.dE):∃b u x,t.at_ q=some (b,u,x)∧b∈t.aU∧(u=true→(q,x)∈t.bP)∧(u=false→∀y,(q,y)∉t.bP):=by
 induction t with
 |nil=>cases hq
 |node b p u x l r hl hr=>
  obtain⟨_,w1,w2,w3,w4⟩:=hw;have ne:∀q',(q'∈l.dE∨q'∈r.dE)→p≠q':=fun q' h e=>by
   subst e;rcases h with h|h
   ·have:=(w1 _ h).lt;omega
   ·have:=(w2 _ h).lt;omega
  simp only[Tr.dE,List.mem_cons,List.mem_append]at hq;by_cases hpq:p=q
  ·subst hpq;refine⟨b,u,x,by unfold Tr.at_;rw[if_pos rfl],by simp[Tr.aU],fun hu=>by subst hu;simp[Tr.bP],fun hu y hy=> ?_⟩;subst hu;simp only[Tr.bP,List.nil_append,List.mem_append]at hy;rcases hy with hy|hy
   ·exact ne _ (.inl (Tr.gV hy)) rfl
   ·exact ne _ (.inr (Tr.gV hy)) rfl
  ·have hent:∀y,(q,y)∈(Tr.node b p u x l r).bP↔(q,y)∈l.bP∨(q,y)∈r.bP:=fun y=>by
    simp only[Tr.bP,List.mem_append];constructor
    ·rintro(h|h)
     ·cases u with
      |true=>simp only[List.mem_singleton,Prod.mk.injEq]at h;exact absurd h.1.symm hpq
      |false=>cases h
     ·exact h
    ·exact .inr
   rcases hq with hq|hq|hq
   ·exact absurd hq.symm hpq
   ·obtain⟨b',u',x',h1,h2,h3,h4⟩:=hl w3 hq;have hu:=w1 q hq;have hnr:∀y,(q,y)∉r.bP:=fun y hy=>by have:=(w2 _ (Tr.gV hy)).side;rw[hu.side]at this;cases this
    refine⟨b',u',x',?_,by simp[Tr.aU,h2],fun h=>(hent _).2 (.inl (h3 h)),fun h y hy=>((hent y).1 hy).elim (h4 h y) (hnr y)⟩;unfold Tr.at_;rw[if_neg hpq,if_neg (by rw[hu.II];have:=hu.lt;simp;omega),if_pos hu.side,h1]
   ·obtain⟨b',u',x',h1,h2,h3,h4⟩:=hr w4 hq;have hu:=w2 q hq;have hnl:∀y,(q,y)∉l.bP:=fun y hy=>by have:=(w1 _ (Tr.gV hy)).side;rw[hu.side]at this;cases this
    refine⟨b',u',x',?_,by simp[Tr.aU,h2],fun h=>(hent _).2 (.inr (h3 h)),fun h y hy=>((hent y).1 hy).elim (hnl y) (h4 h y)⟩;unfold Tr.at_;rw[if_neg hpq,if_neg (by rw[hu.II];have:=hu.lt;simp;omega),if_neg (by rw[hu.side];omega),h1]
def Tr.jZ:Tr→Px→Nat→Tr
 | .nil,_,_=>.nil
 | .node b p u x l r,q,y=>if p=q then .node b p true y l r else if bH p q.1=0 then .node b p u x (l.jZ q y) r else .node b p u x l (r.jZ q y)
theorem Tr.J8 (t:Tr) (q:Px) (y:Nat):(t.jZ q y).dE=t.dE:=by
 induction t with
 |nil=>rfl
 |node b p u x l r hl hr=>
  unfold Tr.jZ;split
  ·rfl
  ·split
   ·simp only[Tr.dE,hl]
   ·simp only[Tr.dE,hr]
theorem Tr.AY (t:Tr) (q:Px) (y:Nat):(t.jZ q y).aU=t.aU:=by
 induction t with
 |nil=>rfl
 |node b p u x l r hl hr=>
  unfold Tr.jZ;split
  ·rfl
  ·split
   ·simp only[Tr.aU,hl]
   ·simp only[Tr.aU,hr]
theorem Tr.Qr {t:Tr} (h:t.WF) (q:Px) (y:Nat):(t.jZ q y).WF:=by
 induction t with
 |nil=>exact h
 |node b p u x l r hl hr=>
  obtain⟨h0,w1,w2,w3,w4⟩:=h;unfold Tr.jZ;split
  ·exact⟨h0,w1,w2,w3,w4⟩
  ·split
   ·exact⟨h0,by rw[Tr.J8];exact w1,w2,hl w3,w4⟩
   ·exact⟨h0,w1,by rw[Tr.J8];exact w2,w3,hr w4⟩
theorem Tr.Sr {t:Tr} (hw:t.WF) {q:Px} (hq:q∈t.dE) (hn:∀y,(q,y)∉t.bP) (y:Nat):(t.jZ q y).bP.Perm ((q,y)::t.bP):=by
 induction t with
 |nil=>cases hq
 |node b p u x l r hl hr=>
  obtain⟨_,w1,w2,w3,w4⟩:=hw;unfold Tr.jZ;by_cases hpq:p=q
  ·subst hpq;rw[if_pos rfl];have hu:u=false:=by
    cases u with
    |false=>rfl
    |true=>exact absurd (by simp[Tr.bP]) (hn x)
   subst hu;simp[Tr.bP]
  ·rw[if_neg hpq];simp only[Tr.dE,List.mem_cons,List.mem_append]at hq;rcases hq with hq|hq|hq
   ·exact absurd hq.symm hpq
   ·rw[if_pos (w1 q hq).side];simp only[Tr.bP]at hn ⊢;have:=hl w3 hq (fun y hy=>hn y (by simp[hy]));refine((this.append_right r.bP).append_left _).trans ?_;exact List.perm_middle
   ·rw[if_neg (by rw[(w2 q hq).side];omega)];simp only[Tr.bP]at hn ⊢;have:=hr w4 hq (fun y hy=>hn y (by simp[hy]));refine((this.append_left l.bP).append_left _).trans ?_;refine(List.perm_middle.append_left _).trans ?_;exact List.perm_middle
end Go.Proofs.YtjiehhlghjnfhaaGreatDoor
namespace Go.Proofs.YtjiehhlghjnfhaaGreatDoor
open Go.Sort (bitsLen)
theorem yl (x y m:Nat):x^^^y<2^m↔x/2^m=y/2^m:=by
 have e:(x^^^y)/2^m=(x/2^m)^^^(y/2^m):=by
  rw[←Nat.shiftRight_eq_div_pow,←Nat.shiftRight_eq_div_pow,←Nat.shiftRight_eq_div_pow,Nat.shiftRight_xor_distrib]
 have hp:0<2^m:=Nat.two_pow_pos m;constructor
 ·intro h;rw[Nat.div_eq_of_lt h]at e;have h2:(x/2^m)^^^((x/2^m)^^^(y/2^m))=y/2^m:=by rw[←Nat.xor_assoc,Nat.xor_self,Nat.zero_xor]
  rw[←e,Nat.xor_zero]at h2;exact h2
 ·intro h;rw[h,Nat.xor_self]at e;exact(Nat.div_eq_zero_iff_lt hp).1 e
def bC (p q:Px):Nat:=min (32-bitsLen (p.1^^^q.1)) (min p.2 q.2)
def bQ (p q:Px):Px:=(p.1/2^(32-bC p q)*2^(32-bC p q),bC p q)
theorem di {p:Px}:lu p=true↔p.2≤32∧p.1%2^(32-p.2)=0:=by
 unfold lu;rw[dK];simp only[Int.toNat_natCast];constructor
 ·rintro⟨_,h,h2⟩;exact⟨by omega,h2⟩
 ·rintro⟨h,h2⟩;exact⟨by omega,by omega,h2⟩
theorem sK {p:Px} {x:Nat}:fB p x=true↔lu p=true∧x/2^(32-p.2)=p.1/2^(32-p.2):=by
 unfold fB lu;rw[jM];simp only[Int.toNat_natCast]
theorem nI {p q:Px}:dL p q=true↔lu q=true∧p.2≤q.2∧fB p q.1=true:=by
 unfold dL lu fB;rw[jO];constructor
 ·rintro⟨h,h2,h3⟩;exact⟨h,by omega,h3⟩
 ·rintro⟨h,h2,h3⟩;exact⟨h,by omega,h3⟩
theorem DR {p q:Px} (hp:nH p) (hq:nH q) (n:Nat) (hn:n≤bC p q):p.1/2^(32-n)=q.1/2^(32-n):=by
 have h32:bitsLen (p.1^^^q.1)≤32:=by
  rw[Go.Sort.bitsLen_le_iff];exact Nat.xor_lt_two_pow (n:=32) hp.2 hq.2
 rw[←yl,←Go.Sort.bitsLen_le_iff];unfold bC at hn;have:=(di.1 hp.1).1;omega
theorem zB (p q:Px):bC p q≤p.2∧bC p q≤q.2:=by unfold bC;omega
theorem ui {p q:Px} (hp:lu p=true):lu (bQ p q)=true:=by
 rw[di];have:=(di.1 hp).1;have:=zB p q;exact⟨by show bC p q≤32;omega,Nat.mul_mod_left _ _⟩
theorem vI {p q:Px} (hp:nH p) (hq:nH q):dL (bQ p q) p=true∧dL (bQ p q) q=true:=by
 have hr:=ui (q:=q) hp.1;have hl:=zB p q;have hpos:0<2^(32-bC p q):=Nat.two_pow_pos _;refine⟨nI.2 ⟨hp.1,hl.1,sK.2 ⟨hr,?_⟩⟩,nI.2 ⟨hq.1,hl.2,sK.2 ⟨hr,?_⟩⟩⟩
 ·exact(Nat.mul_div_cancel _ hpos).symm
 ·show q.1/2^(32-bC p q)=_;rw[←DR hp hq _ (Nat.le_refl _)];exact(Nat.mul_div_cancel _ hpos).symm
theorem Su {p q:Px} (hp:lu p=true) (h:bC p q=p.2):bQ p q=p:=by
 obtain⟨p1,p2⟩:=p;have h2:=(di.1 hp).2;simp only at h h2;unfold bQ;rw[h];congr 1
 have:=Nat.div_add_mod p1 (2^(32-p2));rw[h2,Nat.mul_comm]at this;exact this
theorem Di {p q:Px} (hp:nH p) (hq:nH q) (h:dL p q=false):bC p q<p.2:=by
 have:=(zB p q).1;rcases Nat.lt_or_ge (bC p q) p.2 with h1|h1
 ·exact h1
 ·have e:=Su (q:=q) hp.1 (by omega);have:=(vI hp hq).2;rw[e,h]at this;cases this
theorem GK {p q:Px} (hp:nH p) (hq:nH q) (h1:dL p q=false) (h2:bC p q<q.2):bH (bQ p q) p.1≠bH (bQ p q) q.1:=by
 intro e;have l1:=Di hp hq h1;have Vg:=(di.1 hp.1).1;have hag:=DR hp hq _ (Nat.le_refl _);unfold bH at e;have e':p.1/2^(31-bC p q)%2=q.1/2^(31-bC p q)%2:=e;have J9:2^(32-bC p q)=2^(31-bC p q)*2:=by rw[←Nat.pow_succ];congr 1;omega
 rw[J9,←Nat.div_div_eq_div_mul,←Nat.div_div_eq_div_mul]at hag;have hall:p.1/2^(31-bC p q)=q.1/2^(31-bC p q):=by omega
 rw[←yl,←Go.Sort.bitsLen_le_iff]at hall;have hc:bC p q=min (32-bitsLen (p.1^^^q.1)) (min p.2 q.2):=rfl;omega
theorem N8 {p k q:Px} {s:Nat} (hk:Under p s k) (hq:Under p s q) (ok:k.1<4294967296) (oq:q.1<4294967296):Under p s (bQ k q):=by
 have ck:=nI.1 hk.II;have cq:=nI.1 hq.II;have hkr:=ck.1;have hqr:=cq.1;have hcc:=vI ⟨hkr,ok⟩ ⟨hqr,oq⟩;have aa1:=(di.1 hkr).1;have hlt:p.2<bC k q:=by
  have d1:=(sK.1 ck.2.2).2;have d2:=(sK.1 cq.2.2).2;have s1:=hk.side;have s2:=hq.side;unfold bH at s1 s2;have l1:=hk.lt;have l2:=hq.lt;have J9:2^(32-p.2)=2^(31-p.2)*2:=by rw[←Nat.pow_succ];congr 1;omega
  have hh:k.1/2^(32-p.2)=q.1/2^(32-p.2):=d1.trans d2.symm;rw[J9,←Nat.div_div_eq_div_mul,←Nat.div_div_eq_div_mul]at hh;have hall:k.1/2^(31-p.2)=q.1/2^(31-p.2):=by omega
  rw[←yl,←Go.Sort.bitsLen_le_iff]at hall;unfold bC;omega
 have hck:=(nI.1 hcc.1).2.2;refine⟨DL ck.2.2 hck (Nat.le_of_lt hlt),hlt,?_⟩;rw[←zA (p:=p) (q:=bQ k q) hlt hck];exact hk.side
def Tr.lay:Tr→Nat→Px→Nat→Nat→Tr
 | .nil,nb,np,nx,_=>.node nb np true nx .nil .nil
 | .node kb kp ku kx kl kr,nb,np,nx,fb=>
  if dL kp np=true then
   if bH kp np.1=0 then .node kb kp ku kx (kl.lay nb np nx fb) kr else .node kb kp ku kx kl (kr.lay nb np nx fb)
  else if bQ kp np=np then
   if bH np kp.1=0 then .node nb np true nx (.node kb kp ku kx kl kr) .nil else .node nb np true nx .nil (.node kb kp ku kx kl kr)
  else if bH (bQ kp np) np.1=0 then .node fb (bQ kp np) false 0 (.node nb np true nx .nil .nil) (.node kb kp ku kx kl kr)
  else .node fb (bQ kp np) false 0 (.node kb kp ku kx kl kr) (.node nb np true nx .nil .nil)
theorem Tr.DT {t:Tr} (hw:t.WF) {p np:Px} {s nb nx fb:Nat} (h:∀k∈t.dE,Under p s k) (hn:Under p s np) (oq:np.1<4294967296):∀q∈(t.lay nb np nx fb).dE,Under p s q:=by
 induction t with
 |nil=>intro q hq;simp only[Tr.lay,Tr.dE,List.append_nil,List.mem_singleton]at hq;subst hq;exact hn
 |node kb kp ku kx kl kr hl hr=>
  obtain⟨ok,w1,w2,w3,w4⟩:=hw;have hk:=h kp (by simp[Tr.dE]);intro q hq;have hin:q∈(Tr.node kb kp ku kx kl kr).dE→Under p s q:=h q;unfold Tr.lay at hq;split at hq
  ·split at hq
   ·simp only[Tr.dE,List.mem_cons,List.mem_append]at hq;rcases hq with rfl|hq|hq
    ·exact hk
    ·exact hl w3 (fun k hk=>h k (by simp[Tr.dE,hk])) q hq
    ·exact h q (by simp[Tr.dE,hq])
   ·simp only[Tr.dE,List.mem_cons,List.mem_append]at hq;rcases hq with rfl|hq|hq
    ·exact hk
    ·exact h q (by simp[Tr.dE,hq])
    ·exact hr w4 (fun k hk=>h k (by simp[Tr.dE,hk])) q hq
  ·split at hq
   ·have hq':q=np∨q∈(Tr.node kb kp ku kx kl kr).dE:=by
     split at hq
     ·simp only[Tr.dE,List.mem_cons,List.mem_append,List.not_mem_nil,or_false]at hq ⊢;exact hq
     ·simp only[Tr.dE,List.mem_cons,List.mem_append,List.not_mem_nil,false_or]at hq ⊢;exact hq
    rcases hq' with rfl|hq'
    ·exact hn
    ·exact hin hq'
   ·have hq':q=bQ kp np∨q=np∨q∈(Tr.node kb kp ku kx kl kr).dE:=by
     split at hq
     ·simp only[Tr.dE,List.mem_cons,List.mem_append,List.not_mem_nil,or_false]at hq ⊢;exact hq
     ·simp only[Tr.dE,List.mem_cons,List.mem_append,List.not_mem_nil,or_false]at hq ⊢;rcases hq with h|h|h
      ·exact .inl h
      ·exact .inr (.inr h)
      ·exact .inr (.inl h)
    rcases hq' with rfl|rfl|hq'
    ·exact N8 hk hn ok.2 oq
    ·exact hn
    ·exact hin hq'
end Go.Proofs.YtjiehhlghjnfhaaGreatDoor
namespace Go.Proofs.YtjiehhlghjnfhaaGreatDoor
open Go.Sort (bitsLen)
theorem J_ {p q:Px} (hp:nH p) (hq:nH q) (h:bQ p q≠q):bC p q<q.2:=by
 have:=(zB p q).2;rcases Nat.lt_or_ge (bC p q) q.2 with h1|h1
 ·exact h1
 ·exact absurd (wL (vI hp hq).2 (show bC p q=q.2 by omega)) h
theorem yt {p k q:Px} (h:dL k q=true) (hk:dL p k=true) (hb:p.2<k.2):Under p (bH p k.1) q:=
 ⟨NZ hk h,Nat.lt_of_lt_of_le hb (Dh h),Sm hb h⟩
theorem Tr.DU {b:Nat} {p:Px} {u:Bool} {x:Nat} {l r:Tr} (h:(Tr.node b p u x l r).WF):∀q∈(Tr.node b p u x l r).dE,dL p q=true:=by
 obtain⟨ok,w1,w2,_,_⟩:=h;intro q hq;simp only[Tr.dE,List.mem_cons,List.mem_append]at hq;rcases hq with rfl|hq|hq
 ·exact nI.2 ⟨ok.1,Nat.le_refl _,sK.2 ⟨ok.1,rfl⟩⟩
 ·exact(w1 q hq).II
 ·exact(w2 q hq).II
theorem Tr.Qv {t:Tr} (hw:t.WF) {np:Px} (hn:nH np) (hnot:np∉t.dE) (nb nx fb:Nat):(t.lay nb np nx fb).WF:=by
 induction t with
 |nil=>exact⟨hn,(fun q hq=>by cases hq),(fun q hq=>by cases hq),trivial,trivial⟩
 |node kb kp ku kx kl kr hl hr=>
  have hw0:=hw;obtain⟨ok,w1,w2,w3,w4⟩:=hw;simp only[Tr.dE,List.mem_cons,List.mem_append,not_or]at hnot;unfold Tr.lay;by_cases hc:dL kp np=true
  ·rw[if_pos hc];have hlt:kp.2<np.2:=by
    rcases Nat.lt_or_ge kp.2 np.2 with h|h
    ·exact h
    ·exact absurd (wL hc (by have:=Dh hc;omega)).symm hnot.1
   by_cases hs:bH kp np.1=0
   ·rw[if_pos hs];exact⟨ok,Tr.DT w3 w1 ⟨hc,hlt,hs⟩ hn.2,w2,hl w3 hnot.2.1,w4⟩
   ·rw[if_neg hs];have hs1:bH kp np.1=1:=(dD kp np.1).resolve_left hs;exact⟨ok,w1,Tr.DT w4 w2 ⟨hc,hlt,hs1⟩ hn.2,w3,hr w4 hnot.2.2⟩
  ·rw[if_neg hc];have hcf:dL kp np=false:=by cases h:dL kp np with|true=>exact absurd h hc|false=>rfl
   by_cases hcn:bQ kp np=np
   ·rw[if_pos hcn];have hcov:dL np kp=true:=by have:=(vI ok hn).1;rwa [hcn]at this
    have hlt:np.2<kp.2:=by
     rcases Nat.lt_or_ge np.2 kp.2 with h|h
     ·exact h
     ·exact absurd (wL hcov (by have:=Dh hcov;omega)) hnot.1
    have hall:∀q∈(Tr.node kb kp ku kx kl kr).dE,Under np (bH np kp.1) q:=fun q hq=>yt (Tr.DU hw0 q hq) hcov hlt
    by_cases hs:bH np kp.1=0
    ·rw[if_pos hs];rw[hs]at hall;exact⟨hn,hall,fun q hq=>(by cases hq),hw0,trivial⟩
    ·rw[if_neg hs];rw[(dD np kp.1).resolve_left hs]at hall;exact⟨hn,fun q hq=>(by cases hq),hall,trivial,hw0⟩
   ·rw[if_neg hcn];have l1:=Di ok hn hcf;have l2:=J_ ok hn hcn;have hcc:=vI ok hn;have hsd:=GK ok hn hcf l2
    have aa2:nH (bQ kp np):=⟨ui ok.1,by
     show kp.1/2^(32-bC kp np)*2^(32-bC kp np)<4294967296
     have h1:=Nat.div_mul_le_self kp.1 (2^(32-bC kp np));have h2:=ok.2;omega⟩
    have hnw:(Tr.node nb np true nx .nil .nil).WF:=⟨hn,fun q hq=>(by cases hq),fun q hq=>(by cases hq),trivial,trivial⟩;have IJ:∀q∈(Tr.node kb kp ku kx kl kr).dE,Under (bQ kp np) (bH (bQ kp np) kp.1) q:=fun q hq=>yt (Tr.DU hw0 q hq) hcc.1 l1
    have IK:∀q∈(Tr.node nb np true nx .nil .nil).dE,Under (bQ kp np) (bH (bQ kp np) np.1) q:=fun q hq=>yt (Tr.DU hnw q hq) hcc.2 l2
    by_cases hs:bH (bQ kp np) np.1=0
    ·rw[if_pos hs];rw[hs]at IK hsd;rw[(dD _ _).resolve_left hsd]at IJ;exact⟨aa2,IK,IJ,hnw,hw0⟩
    ·rw[if_neg hs];have hs1:=(dD (bQ kp np) np.1).resolve_left hs;rw[hs1]at IK hsd;have hs0:bH (bQ kp np) kp.1=0:=(dD _ _).resolve_right hsd;rw[hs0]at IJ;exact⟨aa2,IJ,IK,hw0,hnw⟩
theorem Tr.Sv (t:Tr) (np:Px) (nb nx fb:Nat):(t.lay nb np nx fb).bP.Perm ((np,nx)::t.bP):=by
 induction t with
 |nil=>exact List.Perm.refl _
 |node kb kp ku kx kl kr hl hr=>
  unfold Tr.lay;split
  ·split
   ·simp only[Tr.bP];refine((hl.append_right kr.bP).append_left _).trans ?_;exact List.perm_middle
   ·simp only[Tr.bP];refine((hr.append_left kl.bP).append_left _).trans ?_;refine(List.perm_middle.append_left _).trans ?_;exact List.perm_middle
  ·split
   ·split
    ·simp only[Tr.bP,List.append_nil];exact List.Perm.refl _
    ·simp only[Tr.bP,List.nil_append];exact List.Perm.refl _
   ·split
    ·simp only[Tr.bP,List.append_nil,List.nil_append];exact List.Perm.refl _
    ·simp only[Tr.bP,List.append_nil,List.nil_append];exact List.perm_append_comm
theorem Tr.Sz (t:Tr) (np:Px) (nb nx fb:Nat):∃F,(F=[]∨F=[fb])∧(t.lay nb np nx fb).aU.Perm (F++nb::t.aU):=by
 induction t with
 |nil=>exact⟨[],.inl rfl,List.Perm.refl _⟩
 |node kb kp ku kx kl kr hl hr=>
  unfold Tr.lay;split
  ·split
   ·obtain⟨F,hF,hp⟩:=hl;refine⟨F,hF,?_⟩;simp only[Tr.aU];refine(((hp.append_right kr.aU).cons kb)).trans ?_;rw[List.append_assoc,List.cons_append];refine(List.perm_middle (a:=kb) (l₁:=F) (l₂:=nb::(kl.aU++kr.aU))).symm.trans ?_;exact List.Perm.append_left F (List.Perm.swap _ _ _)
   ·obtain⟨F,hF,hp⟩:=hr;refine⟨F,hF,?_⟩;simp only[Tr.aU];refine((hp.append_left kl.aU).cons kb).trans ?_;have e:(kb::(kl.aU++(F++nb::kr.aU))).Perm (F++(nb::kb::(kl.aU++kr.aU))):=by
     have h1:(kl.aU++(F++nb::kr.aU)).Perm (F++(nb::(kl.aU++kr.aU))):=by
      rw[←List.append_assoc];refine(List.perm_append_comm.append_right _).trans ?_;rw[List.append_assoc];exact List.Perm.append_left F List.perm_middle
     refine(h1.cons kb).trans ?_;refine(List.perm_middle (a:=kb) (l₁:=F) (l₂:=nb::(kl.aU++kr.aU))).symm.trans ?_;exact List.Perm.append_left F (List.Perm.swap _ _ _)
    exact e
  ·split
   ·refine⟨[],.inl rfl,?_⟩;split
    ·simp only[Tr.aU,List.append_nil,List.nil_append];exact List.Perm.refl _
    ·simp only[Tr.aU,List.nil_append];exact List.Perm.refl _
   ·refine⟨[fb],.inr rfl,?_⟩;split
    ·simp only[Tr.aU,List.append_nil,List.nil_append,List.cons_append];exact List.Perm.refl _
    ·simp only[Tr.aU,List.append_nil,List.nil_append,List.cons_append];refine List.Perm.cons _ ?_;exact List.perm_append_comm (l₁:=kb::(kl.aU++kr.aU)) (l₂:=[nb])
end Go.Proofs.YtjiehhlghjnfhaaGreatDoor
namespace Go.Proofs.YtjiehhlghjnfhaaGreatDoor
theorem getD_at {α:Type} (d:α) {l:List α} {i:Nat} (h:i<l.length):l.getD i d=l[i]:=by simp[List.getD,h]
def bitsOf (f:Nat→Bool):Nat→Nat
 |0=>0
 |k+1=>bitsOf f k|||(match f k with|true=>2^k|false=>0)
theorem gm (f:Nat→Bool) (k i:Nat):(bitsOf f k).testBit i=(decide (i<k)&&f i):=by
 induction k with
 |zero=>simp[bitsOf]
 |succ k ih=>
  simp only[bitsOf,Nat.testBit_or,ih];by_cases h:i=k
  ·subst h;cases hf:f i<;>simp[Nat.testBit_two_pow]
  ·have h2:decide (i<k+1)=decide (i<k):=by rw[decide_eq_decide];omega
   rw[h2];cases hf:f k with
   |true=>simp only[Nat.testBit_two_pow];simp[show ¬k=i by omega]
   |false=>simp
theorem uj (f:Nat→Bool) (k:Nat):bitsOf f k<2^k:=by
 apply Nat.lt_pow_two_of_testBit
 intro i hi;rw[gm];simp[show ¬i<k by omega]
theorem ry {f g:Nat→Bool} {k:Nat} (h:∀i,i<k→f i=g i):bitsOf f k=bitsOf g k:=by
 apply Nat.eq_of_testBit_eq;intro i
 rw[gm,gm];by_cases hi:i<k
 ·rw[h i hi]
 ·simp[hi]
theorem BK (f g:Nat→Bool) (k:Nat):bitsOf f k&&&bitsOf g k=bitsOf (fun i=>f i&&g i) k:=by
 apply Nat.eq_of_testBit_eq;intro i
 rw[Nat.testBit_and,gm,gm,gm];cases decide (i<k)<;>simp
theorem IL {f:Nat→Bool} {k:Nat} (h:∀i,i<k→f i=false):bitsOf f k=0:=by
 apply Nat.eq_of_testBit_eq;intro i
 rw[gm,Nat.zero_testBit];by_cases hi:i<k
 ·rw[h i hi];simp
 ·simp[hi]
def pI (f:Nat→Bool) (k:Nat):Option Nat:=(List.range k).find? f
theorem xQ {f:Nat→Bool} {k i:Nat}:pI f k=some i↔i<k∧f i=true∧∀j,j<i→f j=false:=by
 unfold pI;rw[List.find?_range_eq_some];simp only[List.mem_range,Bool.not_eq_eq_eq_not,Bool.not_true];constructor
 ·rintro⟨h1,h2,h3⟩;exact⟨h2,h1,h3⟩
 ·rintro⟨h1,h2,h3⟩;exact⟨h2,h1,h3⟩
theorem xR {f:Nat→Bool} {k:Nat}:pI f k=none↔∀j,j<k→f j=false:=by
 unfold pI;simp[List.find?_range_eq_none]
theorem Ko {f:Nat→Bool} {k:Nat} (h:bitsOf f k=0):pI f k=none:=by
 rw[xR];intro j hj;have:=gm f k j;rw[h,Nat.zero_testBit]at this;simpa[hj]using this.symm
theorem N9 {f:Nat→Bool} {k:Nat} (hk:k≤64) (h:bitsOf f k≠0):pI f k=some (Lib.ctz 64 (bitsOf f k)):=by
 have hlt:bitsOf f k<2^64:=Nat.lt_of_lt_of_le (uj f k) (Nat.pow_le_pow_right (by decide) hk);obtain⟨m,hm,hc⟩:=Lib.ctzFrom_spec 64 (bitsOf f k) (Nat.pos_of_ne_zero h) hlt;have e:Lib.ctz 64 (bitsOf f k)=Lib.ctzFrom 64 (bitsOf f k):=by unfold Lib.ctz;rw[if_neg h]
 rw[e];generalize Lib.ctzFrom 64 (bitsOf f k)=c at hm hc;have hb:∀i,(bitsOf f k).testBit i=(decide (i≥c)&&(2*m+1).testBit (i-c)):=fun i=>by
  rw[hm,Nat.testBit_two_pow_mul]
 rw[xQ];have h0:=hb c;rw[gm,Nat.sub_self]at h0;simp only[ge_iff_le,Nat.le_refl,decide_true,Bool.true_and]at h0;have h1:(2*m+1).testBit 0=true:=by rw[Nat.testBit_zero];simp
 rw[h1,Bool.and_eq_true,decide_eq_true_eq]at h0;refine⟨h0.1,h0.2,fun j hj=> ?_⟩;have h2:=hb j;rw[gm]at h2;simpa[show ¬c≤j by omega,show j<k by omega]using h2
def vJ (ps:List Px) (p:Px):Nat:=bitsOf (fun i=>dL (ps.getD i (0,0)) p) ps.length
structure ng (ps:List Px) (T:Tr):Prop where
 wf:T.WF
 sets:∀e∈T.bP,e.1∈ps∧e.2=vJ ps e.1
 all:∀p∈ps,∃e∈T.bP,e.1=p
theorem Vh {ps:List Px} {a:Nat} (h:∃p∈ps,fB p a=true):∃p∈ps,fB p a=true∧∀q∈ps,fB q a=true→q.2≤p.2:=by
 induction ps with
 |nil=>obtain⟨p,hp,_⟩:=h;cases hp
 |cons q ps ih=>
  by_cases hr:∃p∈ps,fB p a=true
  ·obtain⟨p,hp,h1,h2⟩:=ih hr;by_cases hq:fB q a=true∧p.2<q.2
   ·refine⟨q,by simp,hq.1,fun r hr hra=> ?_⟩;rcases List.mem_cons.1 hr with rfl|hr
    ·exact Nat.le_refl _
    ·have:=h2 r hr hra;omega
   ·refine⟨p,by simp[hp],h1,fun r hr hra=> ?_⟩;rcases List.mem_cons.1 hr with rfl|hr
    ·rcases Nat.lt_or_ge p.2 r.2 with h3|h3
     ·exact absurd ⟨hra,h3⟩ hq
     ·exact h3
    ·exact h2 r hr hra
  ·obtain⟨p,hp,hpa⟩:=h;rcases List.mem_cons.1 hp with rfl|hp
   ·refine⟨p,by simp,hpa,fun r hr' hra=> ?_⟩;rcases List.mem_cons.1 hr' with rfl|hr'
    ·exact Nat.le_refl _
    ·exact absurd ⟨r,hr',hra⟩ hr
   ·exact absurd ⟨p,hp,hpa⟩ hr
def Qw (o:Option (Px×Nat)):Nat:=match o with|none=>0|some e=>e.2
theorem qP {ps:List Px} {T:Tr} (h:ng ps T) (a:Nat):Qw (T.best a none)=bitsOf (fun i=>fB (ps.getD i (0,0)) a) ps.length:=by
 by_cases hx:∃p∈ps,fB p a=true
 ·obtain⟨p,hp,hpa,hm⟩:=Vh hx;obtain⟨e,he,rfl⟩:=h.all p hp;rw[Tr.N7 h.wf he hpa (fun e' he'=>hm _ (h.sets e' he').1)];show e.2=_;rw[(h.sets e he).2];unfold vJ;apply ry
  intro i hi;have hmem:ps.getD i (0,0)∈ps:=by rw[getD_at _ hi];exact List.getElem_mem _
  rw[Bool.eq_iff_iff];constructor
  ·intro hc;exact DK hc hpa
  ·intro hh;exact DL hh hpa (hm _ hmem hh)
 ·rw[Tr.yj (fun e he=>by
   cases hh:fB e.1 a with
   |false=>rfl
   |true=>exact absurd ⟨e.1,(h.sets e he).1,hh⟩ hx)]
  show 0=_;rw[IL];intro i hi;have hmem:ps.getD i (0,0)∈ps:=by rw[getD_at _ hi];exact List.getElem_mem _
  cases hh:fB (ps.getD i (0,0)) a with
  |false=>rfl
  |true=>exact absurd ⟨_,hmem,hh⟩ hx
end Go.Proofs.YtjiehhlghjnfhaaGreatDoor
namespace Go.Proofs.YtjiehhlghjnfhaaGreatDoor
structure fK (ps:List Px) (k:Nat) (T:Tr):Prop where
 wf:T.WF
 sets:∀e∈T.bP,e.1∈ps.take k∧e.2=vJ ps e.1
 all:∀p∈ps.take k,∃e∈T.bP,e.1=p
theorem fK.full {ps:List Px} {T:Tr} (h:fK ps ps.length T):ng ps T:=by
 refine⟨h.wf,fun e he=> ?_,fun p hp=>h.all p (by rw[List.take_length];exact hp)⟩;have:=h.sets e he
 rwa [List.take_length]at this
theorem fK.start (ps:List Px) (b:Nat):fK ps 0 (.node b (0,0) false 0 .nil .nil):=by
 refine⟨⟨⟨by decide,by decide⟩,(fun q hq=>by cases hq),(fun q hq=>by cases hq),trivial,trivial⟩,fun e he=> ?_,fun p hp=> ?_⟩
 ·simp[Tr.bP]at he
 ·simp at hp
theorem take_one {ps:List Px} {k:Nat} (hk:k<ps.length):ps.take (k+1)=ps.take k++[ps.getD k (0,0)]:=by
 rw[List.take_add_one,List.getElem?_eq_getElem hk,getD_at _ hk];rfl
theorem fK.there {ps:List Px} {k:Nat} {T:Tr} (h:fK ps k T) (hk:k<ps.length) {y:Nat} (ht:(ps.getD k (0,0),y)∈T.bP):fK ps (k+1) T:=by
 refine⟨h.wf,fun e he=> ?_,fun p hp=> ?_⟩
 ·rw[take_one hk];have:=h.sets e he;exact⟨List.mem_append_left _ this.1,this.2⟩
 ·rw[take_one hk,List.mem_append,List.mem_singleton]at hp;rcases hp with hp|rfl
  ·exact h.all p hp
  ·exact⟨_,ht,rfl⟩
theorem fK.more {ps:List Px} {k:Nat} {T T':Tr} (h:fK ps k T) (hk:k<ps.length) (hw:T'.WF) (hp:T'.bP.Perm ((ps.getD k (0,0),vJ ps (ps.getD k (0,0)))::T.bP)):fK ps (k+1) T':=by
 refine⟨hw,fun e he=> ?_,fun p hpp=> ?_⟩
 ·rw[take_one hk];rcases List.mem_cons.1 (hp.mem_iff.1 he)with rfl|he
  ·exact⟨by simp,rfl⟩
  ·have:=h.sets e he;exact⟨List.mem_append_left _ this.1,this.2⟩
 ·rw[take_one hk,List.mem_append,List.mem_singleton]at hpp;rcases hpp with hpp|rfl
  ·obtain⟨e,he,hee⟩:=h.all p hpp;exact⟨e,hp.mem_iff.2 (List.mem_cons_of_mem _ he),hee⟩
  ·exact⟨_,hp.mem_iff.2 (List.mem_cons_self ..),rfl⟩
def Tr.put (T:Tr) (nb:Nat) (p:Px) (x fb:Nat):Tr:=
 match T.at_ p with
 |some (_,true,_)=>T
 |some (_,false,_)=>T.jZ p x
 |none=>T.lay nb p x fb
theorem fK.put {ps:List Px} {k:Nat} {T:Tr} (h:fK ps k T) (hk:k<ps.length) (hok:nH (ps.getD k (0,0))) (nb fb:Nat):fK ps (k+1) (T.put nb (ps.getD k (0,0)) (vJ ps (ps.getD k (0,0))) fb):=by
 unfold Tr.put;by_cases hm:ps.getD k (0,0)∈T.dE
 ·obtain⟨b,u,x,h1,h2,h3,h4⟩:=Tr.DN h.wf hm;rw[h1];cases u with
  |true=>exact h.there hk (h3 rfl)
  |false=>exact h.more hk (Tr.Qr h.wf _ _) (Tr.Sr h.wf hm (h4 rfl) _)
 ·rw[Tr.Vf hm];exact h.more hk (Tr.Qv h.wf hok hm _ _ _) (Tr.Sv _ _ _ _ _)
end Go.Proofs.YtjiehhlghjnfhaaGreatDoor
namespace Go.Proofs.YtjiehhlghjnfhaaGreatDoor
structure dI where
 s:Nat×Int
 d:Nat×Int
 lo:Nat
 hi:Nat
 fl:Nat
instance:Inhabited dI:=⟨⟨(0,0),(0,0),0,0,0⟩⟩
def Kq (p:Nat×Int):Prop:=p.1<4294967296∧ -9223372036854775808≤p.2∧p.2≤9223372036854775807
structure dI.Ok (r:dI):Prop where
 s:Kq r.s
 d:Kq r.d
 lo:r.lo<65536
 hi:r.hi<65536
 fl:r.fl<4294967296
structure DV where
 s:Nat
 d:Nat
 p:Nat
def badR (r:dI):Bool:= !(cO r.s.1 r.s.2&&cO r.d.1 r.d.2&&decide (r.lo≤r.hi))
def oC (l:List dI):Nat:=if 64<l.length then 20 else if l.any badR=true then 6 else 0
def Kr (r:dI) (p:Nat):Bool:=decide (r.lo≤p)&&decide (p≤r.hi)
def Dj (r:dI) (h:DV):Bool:=hasB r.s.1 r.s.2 h.s&&hasB r.d.1 r.d.2 h.d&&Kr r h.p
def iZ (l:List dI) (h:DV) (i:Nat):Bool:=Dj (l.getD i default) h
def rC (l:List dI) (h:DV):Option Nat:=pI (iZ l h) l.length
theorem wM {l:List dI}:oC l=0↔l.length≤64∧∀r∈l,badR r=false:=by
 unfold oC;by_cases h:64<l.length
 ·rw[if_pos h];constructor
  ·intro h2;omega
  ·intro h2;omega
 ·rw[if_neg h];by_cases h2:l.any badR=true
  ·rw[if_pos h2];constructor
   ·intro h3;omega
   ·rintro⟨_,h3⟩;rw[List.any_eq_true]at h2;obtain⟨r,hr,hb⟩:=h2;rw[h3 r hr]at hb;cases hb
  ·rw[if_neg h2];simp only[true_iff];refine⟨by omega,fun r hr=> ?_⟩;cases hb:badR r with
   |false=>rfl
   |true=>exact absurd (List.any_eq_true.2 ⟨r,hr,hb⟩) h2
theorem bad_false {r:dI}:badR r=false↔cO r.s.1 r.s.2=true∧cO r.d.1 r.d.2=true∧r.lo≤r.hi:=by
 unfold badR;cases cO r.s.1 r.s.2<;>cases cO r.d.1 r.d.2<;>simp
def dG (l:List dI):List Nat:=0::l.flatMap (fun r=>r.lo::(if r.hi<65535 then[r.hi+1]else[]))
def vK (l:List dI) (p:Nat):Nat:=bitsOf (fun i=>Kr (l.getD i default) p) l.length
def runsOf (l:List dI) (zs:List Nat):List (Nat×Nat):=zs.map (fun f=>(f,vK l f))
structure wO (l:List dI) (zs:List Nat):Prop where
 up:zs.Pairwise (·< ·)
 mem:∀x,x∈zs↔x∈dG l
def upTo (zs:List Nat) (p:Nat):Nat:=(zs.filter (fun f=>decide (f≤p))).length
theorem AZ {zs:List Nat} (h:zs.Pairwise (·< ·)) (p:Nat):∀i,i<zs.length→(zs.getD i 0≤p↔i<upTo zs p):=by
 induction zs with
 |nil=>intro i hi;simp at hi
 |cons z zs ih=>
  rw[List.pairwise_cons]at h;intro i hi;by_cases hz:z≤p
  ·have e:upTo (z::zs) p=upTo zs p+1:=by unfold upTo;rw[List.filter_cons_of_pos (by simpa using hz)];rfl
   rw[e];cases i with
   |zero=>simp[hz]
   |succ i=>simp only[List.getD_cons_succ];rw[ih h.2 i (by simpa using hi)];omega
  ·have e:upTo (z::zs) p=0:=by
    unfold upTo;rw[List.filter_cons_of_neg (by simpa using hz),List.length_eq_zero_iff,List.filter_eq_nil_iff];intro a ha;have:=h.1 a ha;simp;omega
   rw[e];cases i with
   |zero=>simp;omega
   |succ i=>
    simp only[List.getD_cons_succ,Nat.not_lt_zero,iff_false];have hi':i<zs.length:=by simpa using hi
    have:zs.getD i 0∈zs:=by rw[getD_at _ hi'];exact List.getElem_mem _
    have:=h.1 _ this;omega
theorem DW (zs:List Nat) (p:Nat):upTo zs p≤zs.length:=List.length_filter_le _ _
theorem vM {l:List dI} {x:Nat}:x∈dG l↔x=0∨∃r∈l,x=r.lo∨(r.hi<65535∧x=r.hi+1):=by
 unfold dG;rw[List.mem_cons,List.mem_flatMap];refine or_congr Iff.rfl ⟨?_,?_⟩
 ·rintro⟨r,hr,hx⟩;refine⟨r,hr,?_⟩;rw[List.mem_cons]at hx;refine hx.imp_right fun hx=> ?_
  split at hx
  ·rename_i hh;exact⟨hh,by simpa using hx⟩
  ·cases hx
 ·rintro⟨r,hr,hx⟩;refine⟨r,hr,?_⟩;rw[List.mem_cons];refine hx.imp_right fun hx=> ?_
  rw[if_pos hx.1];simpa using hx.2
theorem Qx {l:List dI} {zs:List Nat} (h:wO l zs) (hok:∀r∈l,r.Ok) {p:Nat} (hp:p<65536):0<upTo zs p∧vK l (zs.getD (upTo zs p-1) 0)=vK l p:=by
 have h0:0∈zs:=(h.mem 0).2 (vM.2 (.inl rfl));have hpos:0<upTo zs p:=by
  unfold upTo;apply List.length_pos_of_mem (a:=0)
  rw[List.mem_filter];exact⟨h0,by simp⟩
 refine⟨hpos,?_⟩;have hle:=DW zs p;have hlast:=(AZ h.up p (upTo zs p-1) (by omega)).2 (by omega);have key:∀x∈zs,x≤p→x≤zs.getD (upTo zs p-1) 0:=fun x hx hxp=>by
  obtain⟨i,hi,rfl⟩:=List.getElem_of_mem hx;have h1:=(AZ h.up p i hi).1 (by rw[getD_at _ hi];exact hxp);rw[getD_at _ (by omega)];rcases Nat.lt_or_ge i (upTo zs p-1)with h2|h2
  ·exact Nat.le_of_lt (List.pairwise_iff_getElem.1 h.up i (upTo zs p-1) hi (by omega) h2)
  ·have:i=upTo zs p-1:=by omega
   subst this;exact Nat.le_refl _
 generalize zs.getD (upTo zs p-1) 0=f at hlast key;unfold vK;apply ry
 intro i hi;have hm:l.getD i default∈l:=by rw[getD_at _ hi];exact List.getElem_mem _
 generalize l.getD i default=r at hm;have hr:=hok r hm;unfold Kr;have e1:r.lo≤f↔r.lo≤p:=by
  constructor
  ·intro h1;omega
  ·intro h1;exact key _ ((h.mem _).2 (vM.2 (.inr ⟨r,hm,.inl rfl⟩))) h1
 have e2:f≤r.hi↔p≤r.hi:=by
  constructor
  ·intro h1;rcases Nat.lt_or_ge r.hi p with h2|h2
   ·have:=key _ ((h.mem _).2 (vM.2 (.inr ⟨r,hm,.inr ⟨by omega,rfl⟩⟩))) h2;omega
   ·exact h2
  ·intro h1;omega
 rw[decide_eq_decide.2 e1,decide_eq_decide.2 e2]
def dm (q:Nat×Int):Px:=(q.1,q.2.toNat)
theorem zC {q:Nat×Int} (h:cO q.1 q.2=true) (hl:Kq q):nH (dm q)∧((dm q).2:Int)=q.2:=by
 have h1:=dK.1 h;refine⟨⟨?_,hl.1⟩,?_⟩
 ·unfold lu dm;rw[Int.toNat_of_nonneg h1.1];exact h
 ·show((q.2.toNat:Nat):Int)=q.2;exact Int.toNat_of_nonneg h1.1
theorem GL {q:Nat×Int} (h:cO q.1 q.2=true) (a:Nat):fB (dm q) a=hasB q.1 q.2 a:=by
 have h1:=dK.1 h;unfold fB dm;rw[Int.toNat_of_nonneg h1.1]
theorem Vj {l:List dI} {S D:Tr} {zs:List Nat} (hok:∀r∈l,r.Ok) (hb:∀r∈l,badR r=false) (hS:ng (l.map (fun r=>dm r.s)) S) (hD:ng (l.map (fun r=>dm r.d)) D) (hz:wO l zs) (h:DV) (hp:h.p<65536):
 Qw (S.best h.s none)&&&Qw (D.best h.d none)&&&vK l (zs.getD (upTo zs h.p-1) 0)=bitsOf (iZ l h) l.length:=by
 rw[qP hS,qP hD,(Qx hz hok hp).2];unfold vK;simp only[List.length_map];rw[BK,BK];apply ry
 intro i hi;have hm:l.getD i default∈l:=by rw[getD_at _ hi];exact List.getElem_mem _
 have hbr:=bad_false.1 (hb _ hm);have e1:(l.map (fun r=>dm r.s)).getD i (0,0)=dm (l.getD i default).s:=by
  rw[getD_at _ (by simpa using hi),getD_at _ hi];simp
 have e2:(l.map (fun r=>dm r.d)).getD i (0,0)=dm (l.getD i default).d:=by
  rw[getD_at _ (by simpa using hi),getD_at _ hi];simp
 rw[e1,e2,GL hbr.1,GL hbr.2.1];rfl
theorem BL {l:List dI} {h:DV} {i:Nat}:rC l h=some i↔i<l.length∧iZ l h i=true∧∀j,j<i→iZ l h j=false:=xQ
theorem BM {l:List dI} {h:DV}:rC l h=none↔∀j,j<l.length→iZ l h j=false:=xR
def jg (l:List dI) (h:DV):Option Nat:=(l.find? (fun r=>Dj r h)).map (·.fl)
theorem N_ (l:List dI) (h:DV):jg l h=(rC l h).map (fun i=>(l.getD i default).fl):=by
 unfold jg;cases hf:rC l h with
 |none=>
  have:=BM.1 hf
  rw[List.find?_eq_none.2 (fun r hr=>by
   obtain⟨i,hi,rfl⟩:=List.getElem_of_mem hr;have h2:=this i hi;unfold iZ at h2;rw[getD_at _ hi]at h2
   simp[h2])]
  rfl
 |some i=>
  obtain⟨hi,h1,h2⟩:=BL.1 hf;have e:l.find? (fun r=>Dj r h)=some l[i]:=by
   rw[List.find?_eq_some_iff_getElem];unfold iZ at h1;rw[getD_at _ hi]at h1;refine⟨h1,i,hi,rfl,fun j hj=> ?_⟩;have h3:=h2 j hj;unfold iZ at h3;rw[getD_at _ (by omega)]at h3;simp[h3]
  rw[e];show some l[i].fl=some (l.getD i default).fl;rw[getD_at _ hi]
end Go.Proofs.YtjiehhlghjnfhaaGreatDoor
namespace Go.Proofs.YtjiehhlghjnfhaaGreatDoor
def maskN (b:Nat):Nat:=2^32-2^(32-b)
theorem Kt (k:Nat) (h:k≤32):2^32-2^k=(2^(32-k)-1)*2^k:=by
 rw[Nat.sub_mul,←Nat.pow_add,Nat.one_mul,show 32-k+k=32 by omega]
theorem SA (a k:Nat) (ha:a<2^32) (h:k≤32):a&&&(2^32-2^k)=a/2^k*2^k:=by
 rw[Kt k h,←Nat.shiftLeft_eq,←Nat.shiftLeft_eq,←Nat.shiftRight_eq_div_pow];apply Nat.eq_of_testBit_eq
 intro i;rw[Nat.testBit_and,Nat.testBit_shiftLeft,Nat.testBit_shiftLeft,Nat.testBit_two_pow_sub_one,Nat.testBit_shiftRight];by_cases hi:k≤i
 ·simp only[hi,decide_true,Bool.true_and];rw[show k+(i-k)=i by omega];by_cases h32:i<32
  ·have:i-k<32-k:=by omega
   simp[this]
  ·have h1:a.testBit i=false:=Nat.testBit_lt_two_pow (Nat.lt_of_lt_of_le ha (Nat.pow_le_pow_right (by decide) (by omega)));simp[h1]
 ·simp[hi]
theorem SB (a k:Nat):a&&&(2^k-1)=a%2^k:=Nat.and_two_pow_sub_one_eq_mod a k
end Go.Proofs.YtjiehhlghjnfhaaGreatDoor
namespace Go.Proofs.YtjiehhlghjnfhaaGreatDoor
open Go.RowKit
theorem SC:∀k,k≤32→4294967295*2^(32-k)%4294967296=maskN k:=by decide
theorem SE (k:Nat) (hk:k≤32):(4294967295*2^(32-k)%4294967296:Int)=(maskN k:Int):=by
 rw[←SC k hk];simp
theorem Ku (k:Nat):maskN k<4294967296:=by
 unfold maskN;have:0<2^(32-k):=Nat.pow_pos (by decide);omega
def ji (b:Int):Nat:=(min (max b 0) 32).toNat
theorem GN {b:Int} (h0:0≤b) (h1:b≤32):ji b=b.toNat:=by unfold ji;omega
theorem Oa (b:Int) (w:World) (hb: -9223372036854775808≤b∧b≤9223372036854775807):Calls Tryz.prog 161 #[.int .i64 b] w fun e w'=>e=.returned (.int .u32 (maskN (ji b)))∧w=w':=by
 by_cases h0:b<0
 ·have hc:Hid (ji b=0):=by unfold Hid ji;omega
  go_enter Tryz.func161,Tryz.ntmps161
  go_wp2
  all_goals
   first
        |omega
        |(go_ret;exact⟨gB (by rw[hc.out];rfl),rfl⟩)
        |(go_ret;exact⟨gB (by rw[hc.out,show min (max b 0) (32:Int)=0 by omega];rfl),rfl⟩)
 ·by_cases h1:32<b
  ·have hc:Hid (ji b=32):=by unfold Hid ji;omega
   go_enter Tryz.func161,Tryz.ntmps161
   go_wp2
   all_goals
        first
         |omega
         |(go_ret;exact⟨gB (by rw[hc.out];rfl),rfl⟩)
         |(go_ret;exact⟨gB (by rw[hc.out,show min (max b 0) (32:Int)=32 by omega];rfl),rfl⟩)
  ·obtain⟨k,rfl⟩:∃k:Nat,b=k:=⟨b.toNat,by omega⟩
   have hc:Hid (ji k=k):=by unfold Hid ji;omega
   have hm:=ae (SE k (by omega))
   go_enter Tryz.func161,Tryz.ntmps161
   go_wp2
   all_goals
        first
         |omega
         |(go_ret;exact⟨gB (by rw[hc.out];exact hm.out),rfl⟩)
         |(go_ret;exact⟨gB (by rw[hc.out,show(32-min (k:Int) 32).toNat=32-k by omega];exact hm.out),rfl⟩)
theorem Kv (a:Nat) (ha:a<4294967296) {b:Int} (h0:0≤b) (h1:b≤32):bits .andNot .u32 (a:Int) (maskN (ji b):Int)=((a%2^(32-b.toNat):Nat):Int):=by
 rw[u32_andNot_nat a _ ha (Ku _),GN h0 h1];congr 1
 unfold maskN;have h2:2^(32-b.toNat)≤2^32:=Nat.pow_le_pow_right (by decide) (by omega);have h3:0<2^(32-b.toNat):=Nat.pow_pos (by decide);rw[show 4294967295-(2^32-2^(32-b.toNat))=2^(32-b.toNat)-1 by omega];exact SB a _
theorem GU (x:Nat) (hx:x<4294967296) {b:Int} (h0:0≤b) (h1:b≤32):bits .and .u32 (x:Int) (maskN (ji b):Int)=((x/2^(32-b.toNat)*2^(32-b.toNat):Nat):Int):=by
 rw[u32_and_nat x _ hx (Ku _),GN h0 h1];congr 1
 exact SA x _ hx (by omega)
theorem Vk (a n:Nat):((a:Int)%2^n==0)=decide (a%2^n=0):=by
 have h:(a:Int)%2^n=((a%2^n:Nat):Int):=by simp
 rw[h,Bool.eq_iff_iff];simp only[beq_iff_eq,decide_eq_true_eq];omega
theorem wP (a:Nat) (b:Int) (w:World) (ha:a<4294967296) (hb: -9223372036854775808≤b∧b≤9223372036854775807):Calls Tryz.prog 100 #[.agg #[.int .u32 a,.int .i64 b]] w fun e w'=>e=.returned (.bool (cO a b))∧Kp none' w w':=by
 have hM:=ae (fun W=>Oa b W hb);by_cases h0:0≤b
 ·by_cases h1:b≤32
  ·have hr:=Kv a ha h0 h1;have hf:Hid (cO a b=decide (a%2^(32-b.toNat)=0)):=by unfold Hid cO;simp[h0,h1]
   have HR:=ae hr;obtain⟨m,hm⟩:∃m:Int,(maskN (ji b):Int)=m:=⟨_,rfl⟩
   rw[hm]at hM hr;clear hm
   go_enter Tryz.func100,Tryz.ntmps100
   go_wp2
   go_quiet ((go_at_call 161;exact YT (hM.out _)))
   go_wp2
   go_ret
   exact⟨iH (by rw[hf.out];exact Vk a _),((Kp.refl _ _).alloc _).drewN _⟩
  ·have hf:Hid (cO a b=false):=by unfold Hid cO;simp[h0,h1]
   have hd:decide (b≤32)=false:=by simpa using h1
   go_enter Tryz.func100,Tryz.ntmps100
   go_wp2
   go_quiet (fail)
   go_wp2
   go_ret
   exact⟨iH hf.out.symm,((Kp.refl _ _).alloc _).drewN _⟩
 ·have hf:Hid (cO a b=false):=by unfold Hid cO;simp[h0]
  have hd:decide (0≤b)=false:=by simpa using h0
  go_enter Tryz.func100,Tryz.ntmps100
  go_wp2
  go_quiet (fail)
  go_wp2
  go_ret
  exact⟨iH hf.out.symm,((Kp.refl _ _).alloc _).drewN _⟩
def Tr.ptr:Tr→Value
 | .nil=>.pointer none
 | .node b _ _ _ _ _=>.pointer (some ⟨b,0,none⟩)
def fM (p:Px) (u:Bool) (x:Nat) (l r:Tr):List Value:=[.int .u32 p.1,.int .i64 p.2,.bool u,.int .u64 x,l.ptr,r.ptr]
def kJ (w:World):Tr→Prop
 | .nil=>True
 | .node b p u x l r=>ag w b (fM p u x l r) 375∧kJ w l∧kJ w r
theorem kJ.kp {S:Nat→Prop} {w w':World} {t:Tr} (h:kJ w t) (k:Kp S w w') (hS:∀b∈t.aU,¬S b):kJ w' t:=by
 induction t with
 |nil=>trivial
 |node b p u x l r hl hr=>
  obtain⟨h1,h2,h3⟩:=h;exact⟨h1.kp k (hS b (by simp[Tr.aU])),hl h2 (fun b' hb=>hS b' (by simp[Tr.aU,hb])),hr h3 (fun b' hb=>hS b' (by simp[Tr.aU,hb]))⟩
theorem kJ.old {w w':World} {t:Tr} (h:kJ w t) (k:Kp none' w w'):kJ w' t:=h.kp k (fun _ _ x=>x)
set_option maxRecDepth 100000 in
theorem rD (w:World) (b:Nat) (p:Px) (c:w.cell? ⟨b,1,none⟩=some (.int .i64 p.2)) (h31:p.2≤31) (a:Nat) (ha:a<4294967296):
 Calls Tryz.prog 223 #[.pointer (some ⟨b,0,none⟩),.int .u32 a] w fun e w'=>e=.returned (.int .i64 (bH p a:Nat))∧w=w':=by
 obtain⟨k,hk⟩:∃k,31-p.2=k:=⟨_,rfl⟩
 have hki:(31:Int)-(p.2:Int)=(k:Int):=by omega
 have hs:bH p a=a/2^k%2:=by unfold bH;rw[hk]
 rw[hs];obtain⟨q,hq⟩:∃q,a/2^k=q:=⟨_,rfl⟩
 rw[hq];have yu:q<4294967296:=by rw[←hq];exact Nat.lt_of_le_of_lt (Nat.div_le_self _ _) ha
 have hqi:(a:Int)/2^k=(q:Int):=by rw[←hq];push_cast;rfl
 have aa1:k≤31:=by omega
 obtain⟨n,hn⟩:∃n,p.2=n:=⟨_,rfl⟩
 rw[hn]at c hki;obtain⟨s,zD⟩:∃s,q%2=s:=⟨_,rfl⟩
 have hs1:s≤1:=by omega
 have afg:bits .and .u32 (q:Int) 1=(s:Int):=by
  have:=bits_and_u32_nat q 1 yu (by omega);rw[Nat.and_one_is_mod,zD]at this;exact this
 rw[zD];clear hs hk hq hn h31 zD
 go_enter Tryz.func223,Tryz.ntmps223
 go_wp2
 go_ret
 exact⟨rfl,rfl⟩
end Go.Proofs.YtjiehhlghjnfhaaGreatDoor
