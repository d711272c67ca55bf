/- Rings (layer 6) in plain Lean. -/
import Derived.WalkKit
import Derived.Test.YtjiehhlghjnfhaaGreatDoorMTopLineF0
import Derived.Test.YtjiehhlghjnfhaaGreatDoorShelf
import Derived.Test.YtjiehhlghjnfhaaGreatDoorMTopLineF1
import Derived.Deep.MidRow
set_option linter.unusedVariables false
set_option linter.unusedSimpArgs false
set_option maxHeartbeats 1000000
namespace Go.Proofs.YtjiehhlghjnfhaaGreatDoor
variable {α:Type}
def lD (a fr i:Nat):Nat:=if fr+i<a then fr+i else fr+i-a
theorem uw {a fr i:Nat} (h:fr<a) (hi:i≤a):lD a fr i<a:=by unfold lD;split<;>omega
theorem VN {a fr i:Nat} (h:fr<a) (hi:i≤a):(fr+i)%a=lD a fr i:=by
 unfold lD;by_cases h1:fr+i<a
 ·rw[if_pos h1,Nat.mod_eq_of_lt h1]
 ·rw[if_neg h1,Nat.mod_eq_sub_mod (by omega),Nat.mod_eq_of_lt (by omega)]
theorem KO {a fr i j:Nat} (h:fr<a) (hi:i<a) (hj:j<a) (e:lD a fr i=lD a fr j):i=j:=by
 unfold lD at e;split at e<;>split at e<;>omega
theorem Ti {a fr i:Nat} (h:fr<a) (hi:i+1≤a):lD a (lD a fr 1) i=lD a fr (i+1):=by
 unfold lD;split<;>split<;>split<;>omega
structure RgOk (S:List α) (fr n room:Nat) (Q:List α):Prop where
 len:Q.length=n
 uY:n≤S.length
 fits:S.length≤room
 frb:fr<S.length∨(S.length=0∧fr=0)
 get:∀i,i<n→S[lD S.length fr i]? =Q[i]?
theorem RgOk.nil (room:Nat):RgOk ([]:List α) 0 0 room []:=⟨rfl,Nat.le_refl _,Nat.zero_le _,.inr ⟨rfl,rfl⟩,fun i h=>by omega⟩
theorem RgOk.Ea {S:List α} {fr n room:Nat} {Q:List α} (h:RgOk S fr n room Q) (hn:0<S.length):fr<S.length:=by rcases h.frb with h|h;exact h;omega
theorem RgOk.put {S:List α} {fr n room:Nat} {Q:List α} (h:RgOk S fr n room Q) (hn:n<S.length) (x:α):RgOk (S.set (lD S.length fr n) x) fr (n+1) room (Q++[x]):=by
 have hf:=h.Ea (by omega);have hl:(S.set (lD S.length fr n) x).length=S.length:=List.length_set;refine⟨by simp[h.len],by rw[hl];omega,by rw[hl];exact h.fits,by rw[hl];exact .inl hf,fun i hi=> ?_⟩;rw[hl];by_cases e:i=n
 ·subst e;rw[List.getElem?_set_self (uw (a:=S.length) (i:=i) hf (by omega)),List.getElem?_append_right (by rw[h.len];exact Nat.le_refl _),h.len];simp
 ·rw[List.getElem?_set_ne (fun e2=>e (KO hf (by omega) (by omega) e2.symm)),List.getElem?_append_left (by rw[h.len];omega)];exact h.get i (by omega)
theorem RgOk.take {S:List α} {fr n room:Nat} {q:α} {Q:List α} (h:RgOk S fr n room (q::Q)) (z:α):S[fr]? =some q∧RgOk (S.set fr z) (lD S.length fr 1) (n-1) room Q:=by
 have hn:=h.len;rw[List.length_cons]at hn;have hnl:=h.uY;have hf:=h.Ea (by omega);have h0:=h.get 0 (by omega);have e0:lD S.length fr 0=fr:=by unfold lD;rw[if_pos (by omega)];omega
 rw[e0]at h0;refine⟨by simpa using h0,by omega,by rw[List.length_set];omega,by rw[List.length_set];exact h.fits,.inl (by rw[List.length_set];exact uw hf (by omega)),fun i hi=> ?_⟩;rw[List.length_set,Ti hf (by omega)];have h1:=h.get (i+1) (by omega);rw[List.getElem?_cons_succ]at h1;rw[List.getElem?_set_ne,h1];intro e;have:(0:Nat)=i+1:=KO hf (by omega) (by omega) (by rw[e0];exact e);omega
theorem RgOk.anew {S S2:List α} {fr n room:Nat} {Q:List α} (h:RgOk S fr n room Q) (h1:n<S2.length) (h2:S2.length≤room) (h3:∀i,i<n→S2[i]? =Q[i]?):RgOk S2 0 n room Q:=
 ⟨h.len,by omega,h2,.inl (by omega),fun i hi=>by
  have:lD S2.length 0 i=i:=by unfold lD;rw[if_pos (by omega)];omega
  rw[this];exact h3 i hi⟩
end Go.Proofs.YtjiehhlghjnfhaaGreatDoor
namespace Go.Proofs.YtjiehhlghjnfhaaGreatDoor
structure En (α:Type) where
 rank:Nat
 came:Nat
 x:α
variable {α:Type}
def jb (a b:En α):Bool:=decide (a.rank<b.rank)||(decide (a.rank=b.rank)&&decide (a.came<b.came))
theorem vP {a b:En α}:jb a b=true↔a.rank<b.rank∨(a.rank=b.rank∧a.came<b.came):=by unfold jb;simp
theorem Eb {a b:En α}:jb a b=false↔¬(a.rank<b.rank∨(a.rank=b.rank∧a.came<b.came)):=by rw[←vP];simp
theorem mM {a b c:En α} (h:jb a b=false) (g:jb b c=false):jb a c=false:=by
 rw[Eb]at*;omega
theorem yE {a b:En α} (h:jb a b=true):jb b a=false:=by
 rw[vP]at h;rw[Eb];omega
theorem sN (a:En α):jb a a=false:=by rw[Eb];omega
def dH (z:En α) (l:List (En α)) (i:Nat):En α:=(l[i]?).getD z
theorem eH {z:En α} {l:List (En α)} {i:Nat} (h:i<l.length):dH z l i=l[i]:=by unfold dH;simp[h]
def swp (z:En α) (l:List (En α)) (i p:Nat):List (En α):=(l.set i (dH z l p)).set p (dH z l i)
theorem nN (z:En α) (l:List (En α)) (i p:Nat):(swp z l i p).length=l.length:=by simp[swp]
theorem nO {z:En α} {l:List (En α)} {i p:Nat} (hi:i<l.length) (hp:p<l.length) (j:Nat):dH z (swp z l i p) j=if j=p then dH z l i else if j=i then dH z l p else dH z l j:=by
 unfold swp;by_cases h1:j=p
 ·subst h1;rw[if_pos rfl,eH (by simpa using hp)];simp
 ·rw[if_neg h1];by_cases h2:j=i
  ·subst h2;rw[if_pos rfl,eH (by simpa using hi),List.getElem_set_ne (fun e=>h1 e.symm)];simp
  ·rw[if_neg h2];unfold dH;rw[List.getElem?_set_ne (fun e=>h1 e.symm),List.getElem?_set_ne (fun e=>h2 e.symm)]
theorem set_perm {l:List (En α)} {i:Nat} (h:i<l.length) (a:En α):(l[i]::l.set i a).Perm (a::l):=by
 induction l generalizing i with
 |nil=>simp at h
 |cons b l ih=>
  cases i with
  |zero=>simp only[List.getElem_cons_zero,List.set_cons_zero];exact List.Perm.swap _ _ _
  |succ i=>
   simp only[List.getElem_cons_succ,List.set_cons_succ];have:=ih (i:=i) (by simpa using h);exact(List.Perm.swap _ _ _).trans ((this.cons b).trans (List.Perm.swap _ _ _))
theorem wU {z:En α} {l:List (En α)} {i p:Nat} (hi:i<l.length) (hp:p<l.length) (hne:i≠p):(swp z l i p).Perm l:=by
 have h1:=set_perm hi (dH z l p);have hp2:p<(l.set i (dH z l p)).length:=by simpa using hp
 have h2:=set_perm hp2 (dH z l i);have e1:(l.set i (dH z l p))[p]=l[p]:=List.getElem_set_ne hne _;rw[e1]at h2;have e2:dH z l i=l[i]:=eH hi;have e3:dH z l p=l[p]:=eH hp;have h3:(l[p]::swp z l i p).Perm (l[p]::l):=by
  have h4:(l[p]::swp z l i p).Perm (l[i]::l.set i (dH z l p)):=by
   unfold swp;rw[e2]at h2 ⊢;exact h2
  rw[e3]at h1 h4;exact h4.trans h1
 exact(List.perm_cons _).1 h3
def jk (z:En α) (l:List (En α)):Prop:=∀i,i<l.length→0<i→jb (dH z l i) (dH z l ((i-1)/2))=false
def G6 (z:En α) (l:List (En α)) (i:Nat):Prop:=(∀j,j<l.length→0<j→j≠i→jb (dH z l j) (dH z l ((j-1)/2))=false)∧
 ∀j,j<l.length→0<j→(j-1)/2=i→0<i→jb (dH z l j) (dH z l ((i-1)/2))=false
theorem KP {z:En α} {l:List (En α)} {i:Nat} (h:G6 z l i) (hs:i=0∨jb (dH z l i) (dH z l ((i-1)/2))=false):jk z l:=by
 intro j hj h0;by_cases e:j=i
 ·subst e;rcases hs with hs|hs
  ·omega
  ·exact hs
 ·exact h.1 j hj h0 e
theorem VO {z:En α} {l:List (En α)} {i:Nat} (h:G6 z l i) (hi:i<l.length) (h0:0<i) (ha:jb (dH z l i) (dH z l ((i-1)/2))=true):G6 z (swp z l i ((i-1)/2)) ((i-1)/2):=by
 obtain⟨p,hp⟩:∃p,(i-1)/2=p:=⟨_,rfl⟩
 rw[hp]at ha ⊢;have hpi:p<i:=by omega
 have hpl:p<l.length:=by omega
 have hno:=yE ha;refine⟨fun j hj hj0 hne=> ?_,fun j hj hj0 hjp hp0=> ?_⟩
 ·rw[nN]at hj;rw[nO hi hpl,nO hi hpl,if_neg hne];by_cases e:j=i
  ·subst e;rw[if_pos rfl,if_pos hp];exact hno
  ·rw[if_neg e];by_cases e1:(j-1)/2=p
   ·rw[if_pos e1];have h1:=h.1 j hj hj0 e;rw[e1]at h1;exact mM h1 hno
   ·rw[if_neg e1];by_cases e2:(j-1)/2=i
    ·rw[if_pos e2];have h1:=h.2 j hj hj0 e2 h0
     rwa [hp]at h1
    ·rw[if_neg e2];exact h.1 j hj hj0 e
 ·rw[nN]at hj;rw[nO hi hpl,nO hi hpl];have hpp:(p-1)/2≠p:=by omega
  have adG:(p-1)/2≠i:=by omega
  rw[if_neg hpp,if_neg adG];have hp1:=h.1 p hpl hp0 (by omega);by_cases e:j=p
  ·omega
  ·rw[if_neg e];by_cases e1:j=i
   ·rw[if_pos e1];exact hp1
   ·rw[if_neg e1];have h1:=h.1 j hj hj0 e1;rw[hjp]at h1;exact mM h1 hp1
def uy (z:En α) (l:List (En α)) (i:Nat):Prop:=(∀j,j<l.length→0<j→(j-1)/2≠i→jb (dH z l j) (dH z l ((j-1)/2))=false)∧
 ∀j,j<l.length→0<j→(j-1)/2=i→0<i→jb (dH z l j) (dH z l ((i-1)/2))=false
theorem uz {z:En α} {l:List (En α)} {i:Nat} (h:uy z l i) (hs:∀j,j<l.length→0<j→(j-1)/2=i→jb (dH z l j) (dH z l i)=false):jk z l:=by
 intro j hj h0;by_cases e:(j-1)/2=i
 ·rw[e];exact hs j hj h0 e
 ·exact h.1 j hj h0 e
theorem yF {z:En α} {l:List (En α)} {i u:Nat} (h:uy z l i) (hu:u<l.length) (Zd:(u-1)/2=i) (h0:0<u) (ha:jb (dH z l u) (dH z l i)=true) (hb:∀j,j<l.length→0<j→(j-1)/2=i→jb (dH z l j) (dH z l u)=false):uy z (swp z l i u) u:=by
 have hiu:i<u:=by omega
 have hil:i<l.length:=by omega
 have hno:=yE ha;refine⟨fun j hj hj0 hne=> ?_,fun j hj hj0 hju hu0=> ?_⟩
 ·rw[nN]at hj;rw[nO hil hu,nO hil hu,if_neg hne];by_cases e:j=u
  ·subst e;rw[if_pos rfl,if_pos Zd];exact hno
  ·rw[if_neg e];by_cases e1:j=i
   ·subst e1;have e2:(j-1)/2≠j:=by omega
    rw[if_pos rfl,if_neg e2];exact h.2 u hu h0 Zd hj0
   ·rw[if_neg e1];by_cases e2:(j-1)/2=i
    ·rw[if_pos e2];exact hb j hj hj0 e2
    ·rw[if_neg e2];exact h.1 j hj hj0 e2
 ·rw[nN]at hj;rw[nO hil hu,nO hil hu,Zd,if_neg (by omega),if_pos rfl];have e:j≠u:=by omega
  have e1:j≠i:=by omega
  rw[if_neg e1,if_neg (show ¬i=u by omega)];have h1:=h.1 j hj hj0 (by omega)
  rwa [hju]at h1
theorem BN {z:En α} {l:List (En α)} (h:jk z l):∀(n j:Nat),j≤n→j<l.length→jb (dH z l j) (dH z l 0)=false
 |0,j,hn,_=>by
  have:j=0:=by omega
  subst this;exact sN _
 |n+1,j,hn,hj=>by
  by_cases e:j=0
  ·subst e;exact sN _
  ·exact mM (h j hj (by omega)) (BN h n ((j-1)/2) (by omega) (by omega))
def IZ (S:List (En α)):Prop:=S.Pairwise fun a b=>jb a b=true
def iQ:List (En α)→En α→List (En α)
 | [],e=>[e]
 |y::l,e=>if e.rank<y.rank then e::y::l else y::iQ l e
theorem iw (e:En α):∀S:List (En α),(iQ S e).Perm (e::S)
 | []=>List.Perm.refl _
 |y::l=>by
  unfold iQ;split
  ·exact List.Perm.refl _
  ·exact((iw e l).cons y).trans (List.Perm.swap _ _ _)
theorem G7 {e:En α}:∀ {S:List (En α)},IZ S→(∀s∈S,s.came<e.came)→IZ (iQ S e)
 | [],_,_=>by unfold iQ IZ;simp
 |y::l,h,hc=>by
  unfold IZ at h;rw[List.pairwise_cons]at h;unfold iQ;split
  ·rename_i hlt
   unfold IZ;rw[List.pairwise_cons,List.pairwise_cons];refine⟨fun a ha=> ?_,h.1,h.2⟩;rcases List.mem_cons.1 ha with rfl|ha
   ·rw[vP];exact .inl hlt
   ·have h1:=h.1 a ha;rw[vP]at h1 ⊢;omega
  ·rename_i hlt
   have ih:=G7 (e:=e) (S:=l) h.2 (fun s hs=>hc s (by simp[hs]));unfold IZ at ih ⊢;rw[List.pairwise_cons];refine⟨fun a ha=> ?_,ih⟩;rcases List.mem_cons.1 ((iw e l).mem_iff.1 ha)with rfl|ha
   ·have:=hc y (by simp);rw[vP];omega
   ·exact h.1 a ha
structure zK (z:En α) (n:Nat) (l S:List (En α)):Prop where
 heap:jk z l
 perm:l.Perm S
 lS:IZ S
 came:∀s∈S,s.came<n
theorem zK.nil (z:En α) (n:Nat):zK z n [] []:=⟨fun i h=>by simp at h,List.Perm.refl _,List.Pairwise.nil,fun s h=>by cases h⟩
theorem zK.len {z:En α} {n:Nat} {l S:List (En α)} (h:zK z n l S):l.length=S.length:=h.perm.length_eq
theorem zK.head {z:En α} {n:Nat} {l S:List (En α)} (h:zK z n l S) (h0:0<l.length):∃T,S=dH z l 0::T:=by
 cases S with
 |nil=>have:=h.len;rw[List.length_nil]at this;omega
 |cons s T=>
  refine⟨T,?_⟩;have h1:s∈l:=h.perm.mem_iff.2 (by simp);obtain⟨j,hj,e⟩:=List.getElem_of_mem h1;have h2:=BN h.heap j j (Nat.le_refl _) hj;rw[eH hj,e]at h2;have h3:dH z l 0∈s::T:=h.perm.mem_iff.1 (by rw[eH h0];exact List.getElem_mem h0);rcases List.mem_cons.1 h3 with h3|h3
  ·rw[h3]
  ·have:=h.lS;unfold IZ at this;rw[List.pairwise_cons]at this;rw[this.1 _ h3]at h2;cases h2
theorem zK.push {z:En α} {n:Nat} {l l' S:List (En α)} {e:En α} (h:zK z n l S) (hn:e.came=n) (hp:l'.Perm (l++[e])) (hh:jk z l'):zK z (n+1) l' (iQ S e):=by
 refine⟨hh,?_,G7 h.lS (fun s hs=>by rw[hn];exact h.came s hs),fun s hs=> ?_⟩
 ·have h1:(l++[e]).Perm (e::l):=List.perm_append_comm;exact hp.trans (h1.trans ((h.perm.cons e).trans (iw e S).symm))
 ·rcases List.mem_cons.1 ((iw e S).mem_iff.1 hs)with rfl|hs
  ·omega
  ·have:=h.came s hs;omega
theorem zK.pop {z:En α} {n:Nat} {l l' S T:List (En α)} (h:zK z n l S) (hS:S=dH z l 0::T) (hp:(dH z l 0::l').Perm l) (hh:jk z l'):zK z n l' T:=by
 subst hS;refine⟨hh,(List.perm_cons _).1 (hp.trans h.perm),?_,fun s hs=>h.came s (by simp[hs])⟩;have:=h.lS;unfold IZ at this;rw[List.pairwise_cons]at this;exact this.2
theorem Tj {z:En α} {l:List (En α)} (e:En α) (h:jk z l):G6 z (l++[e]) l.length:=by
 have hat:∀j,j<l.length→dH z (l++[e]) j=dH z l j:=fun j hj=>by unfold dH;rw[List.getElem?_append_left hj]
 refine⟨fun j hj h0 hne=> ?_,fun j hj h0 hjp _=> ?_⟩
 ·rw[List.length_append,List.length_singleton]at hj;rw[hat j (by omega),hat _ (by omega)];exact h j (by omega) h0
 ·rw[List.length_append,List.length_singleton]at hj;omega
theorem KQ {z:En α} {l:List (En α)} (h:jk z l) (h0:1<l.length):uy z ((l.set 0 (dH z l (l.length-1))).take (l.length-1)) 0∧(dH z l 0::(l.set 0 (dH z l (l.length-1))).take (l.length-1)).Perm l:=by
 have hat:∀j,0<j→j<l.length-1→dH z ((l.set 0 (dH z l (l.length-1))).take (l.length-1)) j=dH z l j:=fun j hj hjl=>by
  unfold dH;rw[List.getElem?_take_of_lt hjl,List.getElem?_set_ne (by omega)]
 refine⟨⟨fun j hj hj0 hne=> ?_,fun j hj hj0 hjp h1=>by omega⟩,?_⟩
 ·rw[List.length_take,List.length_set]at hj;rw[hat j hj0 (by omega),hat _ (by omega) (by omega)];exact h j (by omega) hj0
 ·match l,h0 with
  |a::b::r,_=>
   have hl:(a::b::r).length-1=r.length+1:=by simp
   have e1:dH z (a::b::r) 0=a:=rfl;obtain⟨q,c,hq⟩:∃q c,b::r=q++[c]:=⟨(b::r).dropLast,(b::r).getLast (by simp),(List.dropLast_concat_getLast (by simp)).symm⟩
   have hlen:q.length=r.length:=by have:=congrArg List.length hq;simp at this;omega
   have e2:dH z (a::b::r) (r.length+1)=c:=by
    unfold dH;rw[List.getElem?_cons_succ,hq,List.getElem?_append_right (by omega),hlen];simp
   rw[hl,e1,e2,List.set_cons_zero,List.take_succ_cons,hq,←hlen,List.take_append_of_le_length (Nat.le_refl _),List.take_length];exact(List.Perm.cons a (List.perm_append_comm (l₁:=q) (l₂:=[c])).symm)
end Go.Proofs.YtjiehhlghjnfhaaGreatDoor
namespace Go.Proofs.YtjiehhlghjnfhaaGreatDoor
open Go Go.RowKit Go.Shelf
structure Pk where
 jU:Nat
 id:Nat
 len:Nat
def rG (p:Pk):List Value:=[.int .u32 p.jU,.int .u32 p.id,.int .u64 p.len]
def jP (e:En Pk):List Value:=[.int .u64 e.rank,.int .u64 e.came]++rG e.x
theorem gI (e:En Pk):(jP e).length=5:=rfl
theorem zL (a b:En Pk) (w:World):Calls Tryz.prog 279 #[.agg (jP a).toArray,.agg (jP b).toArray] w fun e w'=>e=.returned (.bool (jb a b))∧Kp none' w w':=by
 obtain⟨ra,ca,⟨fa,ia,la⟩⟩:=a;obtain⟨rb,cb,⟨fb,ib,lb⟩⟩:=b;show Calls Tryz.prog 279 #[.agg #[.int .u64 (ra:Int),.int .u64 (ca:Int),.int .u32 (fa:Int),.int .u32 (ia:Int),.int .u64 (la:Int)],.agg #[.int .u64 (rb:Int),.int .u64 (cb:Int),.int .u32 (fb:Int),.int .u32 (ib:Int),.int .u64 (lb:Int)]] w _;by_cases h1:ra<rb
 ·have HA:Hid (jb (⟨ra,ca,⟨fa,ia,la⟩⟩:En Pk) ⟨rb,cb,⟨fb,ib,lb⟩⟩=true):=by show _=_;simp[jb,h1]
  have h1':(ra:Int)<rb:=by omega
  go_enter Tryz.func279,Tryz.ntmps279
  go_wp2
  go_ret
  exact⟨by rw[HA.out];rfl,((Kp.refl _ _).alloc _).alloc _⟩
 ·have h1':¬(ra:Int)<rb:=by omega
  by_cases h2:ra=rb
  ·subst h2;by_cases h3:ca<cb
   ·have HA:Hid (jb (⟨ra,ca,⟨fa,ia,la⟩⟩:En Pk) ⟨ra,cb,⟨fb,ib,lb⟩⟩=true):=by show _=_;simp[jb,h3]
    have h3':(ca:Int)<cb:=by omega
    go_enter Tryz.func279,Tryz.ntmps279
    go_wp2
    go_ret
    exact⟨by rw[HA.out];rfl,((Kp.refl _ _).alloc _).alloc _⟩
   ·have HA:Hid (jb (⟨ra,ca,⟨fa,ia,la⟩⟩:En Pk) ⟨ra,cb,⟨fb,ib,lb⟩⟩=false):=by show _=_;simp[jb,h3]
    have h3':¬(ca:Int)<cb:=by omega
    go_enter Tryz.func279,Tryz.ntmps279
    go_wp2
    go_ret
    exact⟨by rw[HA.out];rfl,((Kp.refl _ _).alloc _).alloc _⟩
  ·have HA:Hid (jb (⟨ra,ca,⟨fa,ia,la⟩⟩:En Pk) ⟨rb,cb,⟨fb,ib,lb⟩⟩=false):=by show _=_;simp[jb,h1,h2]
   have h2':((ra:Int)==rb)=false:=by simp;omega
   go_enter Tryz.func279,Tryz.ntmps279
   go_wp2
   go_ret
   exact⟨by rw[HA.out];rfl,((Kp.refl _ _).alloc _).alloc _⟩
theorem rH {base:Nat} {e:TypeId} {size n g cap:Nat}:∀(vs:List Value) (o:Nat) (w:World) (xs:List Value),w.ownsRow base e size (.slice (some ⟨g,0,none⟩) n cap) n xs→
 (w.setCells g o vs).ownsRow base e size (.slice (some ⟨g,0,none⟩) n cap) n (gG xs o vs)
 | [],_,_,_,h=>h
 |v::r,o,_,_,h=>rH r (o+1) _ _ (r_ h o v)
theorem dh {P:Program} {ops:Array Oper} {rest:List Oper} {op:Oper} {a:Act} {Q:Exit→Act→World→Prop} (hgd:op.guard=none) (ty:TypeId) (x y:Operand) (ho:op.op=.store ty x y) {α:Type} (enc:α→List Value) (size:Nat) (hlen:∀a,(enc a).length=size) {w:World} {g B n cap:Nat} {e:TypeId} (l:List α)
 (hb:w.ownsRow B e size (.slice (some ⟨g,0,none⟩) n cap) n (l.flatMap enc)) (i:Nat) (hi:i<l.length) (v:α) {o:Nat} (ho2:o=i*size)
 (hx:a.eval x=.pointer (some ⟨g,o,none⟩)) (hy:a.eval y=.agg (enc v).toArray) (DC:(P.info? ty).map (·.size)=some (enc v).length) (h1:(enc v).all (·.oneCell')=true)
 (h:∀W2,W2.ownsRow B e size (.slice (some ⟨g,0,none⟩) n cap) n ((l.set i v).flatMap enc)→Kp (fun b=>b=g) w W2→wpList P ops Q rest (a.put op.dst undef) W2):wpList P ops Q (op::rest) a w:=by
 subst ho2;refine wpList_store_mid hgd ty x y ho g (i*size) (enc v).toArray hx hy ?_ (by rw[List.size_toArray];exact DC) (by simpa using h1) ?_
 ·intro j hj;rw[List.size_toArray,hlen]at hj;refine⟨?_,mZ hb _⟩;have hl:(l.flatMap enc).length=l.length*size:=dQ enc size hlen l;have:i*size+size≤l.length*size:=by
   have:=Nat.mul_le_mul_right size (show i+1≤l.length by omega);rw[Nat.add_mul,Nat.one_mul]at this;exact this
  rw[eY hb (i*size+j) (List.getElem?_eq_getElem (show i*size+j<(l.flatMap enc).length by omega))];rfl
 ·refine h _ ?_ (jK (S:=fun b=>b=g) (.inl rfl) _ _ _ (Kp.refl _ _));have:=rH (enc v).toArray.toList (i*size) _ _ hb;rw[jJ enc size hlen l i v hi];exact this
theorem bW {w0:World} {ty:TypeId} {o:Oper} {x:Operand} {a:Act} {b off:Nat} {v:Value} (ho:o.op=.load ty x) (hx:a.eval x=.pointer (some ⟨b,off,none⟩))
 (h:∀W,Kp none' w0 W→(Instr.loadAt ty (.pointer (some ⟨b,off,none⟩))).run Tryz.prog W=.ok v W):∀W,Kp none' w0 W→(execOp a.eval o).run Tryz.prog W=.ok (.value v) W:=fun W hK=>by
 have h2:=h W hK;unfold execOp;simp only[ho,hx,Sem.run_bind,Sem.run_pure,Result.andThen_ok,h2]
theorem lF (e:En Pk):(Tryz.prog.info? 459).map (·.size)=some (jP e).length:=by rw[gI];kernel_rfl
theorem dF {w:World} {B g cap n:Nat} {m:List (En Pk)} (h:w.ownsRow B 459 5 (.slice (some ⟨g,0,none⟩) n cap) n (m.flatMap jP)) (i:Nat) (hi:i<m.length):
 ∀W,Kp none' w W→(Instr.loadAt 459 (.pointer (some ⟨g,i*5,none⟩))).run Tryz.prog W=.ok (.agg (jP m[i]).toArray) W:=fun W hK=>
 run_loadAt_mid W g (i*5) 459 (jP m[i]) _ (fun j v hv=>hK.cell (eY h (i*5+j) (by
  have hj:j<5:=by have:=(List.getElem?_eq_some_iff.1 hv).1;rwa [gI]at this
  rw[flat_get jP 5 gI m i j hj,List.getElem?_eq_getElem hi];exact hv)) id) Tryz.underlying459 rfl (lF _)
set_option maxRecDepth 100000 in
theorem hUp (z:En Pk) {B hb g cap n:Nat} {u1 u2:Value} (l:List (En Pk)) (hln:l.length=n) (hn:n≤100000) (i:Nat) (hU:G6 z l i) (hi:i<n) (w:World)
 (hbk:ag w hb [.slice (some ⟨g,0,none⟩) n cap,u1,u2] 353) (ho:w.ownsRow B 459 5 (.slice (some ⟨g,0,none⟩) n cap) n (l.flatMap jP)):
 Calls Tryz.prog 278 #[.pointer (some ⟨hb,0,none⟩),.int .i64 i] w fun e w'=>e=.returned (.tuple #[])∧∃l',jk z l'∧l'.Perm l∧w'.ownsRow B 459 5 (.slice (some ⟨g,0,none⟩) n cap) n (l'.flatMap jP)∧Kp (fun b=>b=g) w w':=by
 have hne:g≠hb:=fun e=>az ho hbk (by decide) (by rw[e];rfl)
 have HB:=ae hbk;have HO:=ae ho;have HU:=ae hU;clear hbk ho hU
 go_enter Tryz.func278,Tryz.ntmps278
 go_wp2_with fail
 go_loopw [1] (fun i0 wr=>∃(i:Nat) (m:List (En Pk)),i0=.int .i64 i∧i<n∧m.length=n∧Hid (G6 z m i∧m.Perm l)∧Hid (wr.ownsRow B 459 5 (.slice (some ⟨g,0,none⟩) n cap) n (m.flatMap jP))∧Hid (Kp (fun b=>b=g) w wr)) (fun i0 _=>(intOf i0).toNat)
 case atStart=>exact⟨i,l,rfl,hi,hln,ae ⟨HU.out,List.Perm.refl _⟩,HO,ae (Kp.refl _ _)⟩
 case round=>
  obtain⟨i,m,rfl,hi,hm,HU,HO,HK⟩:=hrel;have c0:_=some (Value.slice (some ⟨g,0,none⟩) n cap):=(HB.out.kp HK.out (fun e=>hne e.symm)).cell 0 rfl;by_cases h0:i=0
  ·subst h0;have HH:=ae (KP HU.out.1 (.inl rfl))
   go_wp2_with fail
   go_end0
   exact⟨rfl,m,HH.out,HU.out.2,HO.out,HK.out⟩
  ·have h0':(0:Int)<(i:Int):=by omega
   obtain⟨p,hp⟩:∃p,(i-1)/2=p:=⟨_,rfl⟩
   have hpq:((i:Int)-1)/2=(p:Int):=by omega
   have hpi:p<i:=by omega
   have HP:=ae hp;have hpn:(p:Int)<n:=by omega
   have hin:(i:Int)<n:=by omega
   have L1:=ae (dF HO.out i (by omega));have L2:=ae (dF HO.out p (by omega));have E1:=ae (eH (z:=z) (l:=m) (i:=i) (by omega));have E2:=ae (eH (z:=z) (l:=m) (i:=p) (by omega));obtain⟨a,ha⟩:∃a,m[i]'(by omega)=a:=⟨_,rfl⟩
   obtain⟨b,hb2⟩:∃b,m[p]'(by omega)=b:=⟨_,rfl⟩
   rw[ha]at L1 E1;rw[hb2]at L2 E2;have HAH:=ae (fun W=>zL a b W);have HAE:=ae ha;have HBE:=ae hb2;clear ha hb2 hp h0
   go_wp2_with fail
   refine af [] [0,1,2,3,4,5,6,7,8,9,10,11,12,13,14] 15 (by kernel_rfl) (by kernel_rfl) (fun c a d u w h=>by cases d<;>exact h) ?_;simp only[pick,bn];show aA _ _ _ _ _ _
   repeat(first
        |(refine ah (by exact rfl) (bW rfl rfl L1.out) ?_;simp only[Act.put,aY])
        |(refine ah (by exact rfl) (bW rfl rfl L2.out) ?_;simp only[Act.put,aY])
        |(refine ah (by exact rfl) (by as_aux_lemma=>intro W hK;have e0:=hK.cell c0 id;go_simp;exact rfl) ?_;simp only[Act.put,aY])
        |(refine ai (by exact rfl) ?_;simp only[Act.put,aY])
        |(refine au (by exact rfl) (by as_aux_lemma=>intro W;go_simp;exact⟨rfl,rfl⟩) (by intro W hK;with_reducible first|exact HAH.out W) ?_;simp only[Act.put,aY]))
   show ∀W,_→wpList _ _ _ _ _ _
   intro W2 hK2;have ak:=ae hK2;have gq:=ae (aK HO.out hK2 (fun _ _ x=>x));have c2:=hK2.cell c0 id;clear hK2 c0;cases hah:jb a b with
   |false=>
    have HH:=ae (KP HU.out.1 (.inr (by rw[HP.out,E1.out,E2.out];exact hah)));have aF:Hid (Kp (fun b=>b=g) w W2):=ae (HK.out.trans (ak.out.mono (fun _ _ x=>x.elim)))
    go_wp2
    refine bodyPost_ret (results_none rfl _ _ _) rfl ?_;exact⟨rfl,m,HH.out,HU.out.2,gq.out,aF.out⟩
   |true=>
    have L3:=ae (dF gq.out i (by omega));have L4:=ae (dF gq.out p (by omega));rw[HAE.out]at L3;rw[HBE.out]at L4
    go_wp2_with fail
    refine af [9] [0,1,2,3,4,5,6,7,8,10,11,12,13,14,15,16,17,18,19,20,21,22,23] 24 (by kernel_rfl) (by kernel_rfl) (fun c a d u w h=>by cases d<;>exact h) ?_;simp only[pick,bn];refine qI (by exact rfl) (by as_aux_lemma=>intro W;go_simp;exact rfl) ?_;simp only[Act.put,aY];show aA _ _ _ _ _ _
    repeat(first
     |(refine ah (by exact rfl) (bW rfl rfl L3.out) ?_;simp only[Act.put,aY])
     |(refine ah (by exact rfl) (bW rfl rfl L4.out) ?_;simp only[Act.put,aY])
     |(refine ah (by exact rfl) (by as_aux_lemma=>intro W hK;have e0:=hK.cell c2 id;go_simp;exact rfl) ?_;simp only[Act.put,aY])
     |(refine ai (by exact rfl) ?_;simp only[Act.put,aY]))
    show ∀W,_→wpList _ _ _ _ _ _
    intro W3 hK3;have pF:=ae (aK gq.out hK3 (fun _ _ x=>x));have aF:Hid (Kp (fun b=>b=g) w W3):=ae (HK.out.trans ((ak.out.trans hK3).mono (fun _ _ x=>x.elim)));clear hK3 c2;have uZ:Hid ((m.set i b).set p a=swp z m i p):=by
     show _=_;unfold swp;rw[E1.out,E2.out]
    have KR:=ae (VO HU.out.1 (by omega) (by omega) (by rw[HP.out,E1.out,E2.out];exact hah));rw[HP.out]at KR;have Ot:=ae ((wU (z:=z) (l:=m) (i:=i) (p:=p) (by omega) (by omega) (by omega)).trans HU.out.2)
    go_wp2_with(first
     |(refine dh rfl 459 (.tmp 50) (.tmp 42) rfl jP 5 gI m pF.out i (by omega) b rfl rfl rfl (lF b) rfl ?_
       intro W4 Ou hk4;have rJ:=ae Ou;have aH:Hid (Kp (fun b=>b=g) w W4):=ae (aF.out.trans hk4)
       clear Ou hk4)
     |(refine dh rfl 459 (.tmp 51) (.tmp 49) rfl jP 5 gI (m.set i b) rJ.out p (by rw[List.length_set];omega) a rfl rfl rfl (lF a) rfl ?_
       intro W5 yG hk5;rw[uZ.out]at yG;have uA:=ae yG;have a_:Hid (Kp (fun b=>b=g) w W5):=ae (aH.out.trans hk5)
       clear yG hk5))
    go_roundw
    case rel=>exact⟨p,swp z m i p,rfl,by omega,by rw[nN];exact hm,ae ⟨KR.out,Ot.out⟩,uA,a_⟩
    case measure=>simp[intOf];omega
set_option maxRecDepth 100000 in
theorem aco (z:En Pk) {B hb g cap n:Nat} {u1 u2:Value} (l:List (En Pk)) (hln:l.length=n) (hn:n≤100000) (i:Nat) (hU:uy z l i) (hi:i≤n) (w:World)
 (hbk:ag w hb [.slice (some ⟨g,0,none⟩) n cap,u1,u2] 353) (ho:w.ownsRow B 459 5 (.slice (some ⟨g,0,none⟩) n cap) n (l.flatMap jP)):
 Calls Tryz.prog 277 #[.pointer (some ⟨hb,0,none⟩),.int .i64 i] w fun e w'=>e=.returned (.tuple #[])∧∃l',jk z l'∧l'.Perm l∧w'.ownsRow B 459 5 (.slice (some ⟨g,0,none⟩) n cap) n (l'.flatMap jP)∧Kp (fun b=>b=g) w w':=by
 have hne:g≠hb:=fun e=>az ho hbk (by decide) (by rw[e];rfl)
 have HB:=ae hbk;have HO:=ae ho;have HU:=ae hU;clear hbk ho hU
 go_enter Tryz.func277,Tryz.ntmps277
 go_wp2_with fail
 go_loopw [1] (fun i0 wr=>∃(i:Nat) (m:List (En Pk)),i0=.int .i64 i∧i≤n∧m.length=n∧Hid (uy z m i∧m.Perm l)∧Hid (wr.ownsRow B 459 5 (.slice (some ⟨g,0,none⟩) n cap) n (m.flatMap jP))∧Hid (Kp (fun b=>b=g) w wr)) (fun i0 _=>n+1-(intOf i0).toNat)
 case atStart=>exact⟨i,l,rfl,hi,hln,ae ⟨HU.out,List.Perm.refl _⟩,HO,ae (Kp.refl _ _)⟩
 case round=>
  obtain⟨i,m,rfl,hi,hm,HU,HO,HK⟩:=hrel;have c0:_=some (Value.slice (some ⟨g,0,none⟩) n cap):=(HB.out.kp HK.out (fun e=>hne e.symm)).cell 0 rfl;by_cases hu:n≤2*i+1
  ·have hu':(n:Int)≤2*(i:Int)+1:=by omega
   have HH:=ae (uz HU.out.1 (fun j hj h0 hji=>by omega))
   go_wp2_with fail
   refine bodyPost_ret (results_none rfl _ _ _) rfl ?_;exact⟨rfl,m,HH.out,HU.out.2,HO.out,HK.out⟩
  ·have hu':¬((n:Int)≤2*(i:Int)+1):=by omega
   obtain⟨u,hue⟩:∃u,2*i+1=u:=⟨_,rfl⟩
   have Zd:2*(i:Int)+1=(u:Int):=by omega
   have hun:u<n:=by omega
   have huz:(u:Int)<n:=by omega
   by_cases hv:u+1<n
   ·have hv':(u:Int)+1<n:=by omega
    have L1:=ae (dF HO.out (u+1) (by omega));have L2:=ae (dF HO.out u (by omega));have E1:=ae (eH (z:=z) (l:=m) (i:=u+1) (by omega));have E2:=ae (eH (z:=z) (l:=m) (i:=u) (by omega));obtain⟨a,ha⟩:∃a,m[u+1]'(by omega)=a:=⟨_,rfl⟩
    obtain⟨b,hb2⟩:∃b,m[u]'(by omega)=b:=⟨_,rfl⟩
    rw[ha]at L1 E1;rw[hb2]at L2 E2;have HAH:=ae (fun W=>zL a b W);clear ha hb2;have HW:Hid (IntKind.i64.wrap ((u:Int)+1)=(u:Int)+1):=ae (by rw[IntKind.wrap_i64];omega);have HV:Hid (decide ((u:Int)+1<n)=true):=ae (by simpa using hv');have HI:Hid (((u:Int)+1).toNat=u+1):=ae (by omega)
    go_wp2_with fail
    refine af [] [0,1,2,3,4,5,6,7,8,9,10,11,12,13,14,15,16,17,18,19,20,21,22,23,24] 25 (by kernel_rfl) (by kernel_rfl) (fun c a d u w h=>by cases d<;>exact h) ?_;simp only[pick,bn];show aA _ _ _ _ _ _
    repeat((first
     |refine ah (by exact rfl) (bW rfl rfl L1.out) ?_
     |refine ah (by exact rfl) (bW rfl rfl L2.out) ?_
     |refine ah (by exact rfl) (by as_aux_lemma=>intro W hK;have e0:=hK.cell c0 (fun x=>x);have e1:=HW.out;have e2:=HV.out;have e3:=HI.out;go_simp;exact rfl) ?_
     |refine ai (by exact rfl) ?_
     |refine au (by exact rfl) (by as_aux_lemma=>intro W;go_simp;exact⟨rfl,rfl⟩) (by intro W hK;with_reducible first|exact HAH.out W) ?_);simp only[Act.put,aY])
    show ∀W,_→wpList _ _ _ _ _ _
    intro W2 hK2;have gq:=ae (aK HO.out hK2 (fun _ _ x=>x));have c2:=hK2.cell c0 (fun x=>x);have ak:Hid (Kp (fun b=>b=g) w W2):=ae (HK.out.trans (hK2.mono (fun _ _ x=>x.elim)));clear hK2 c0;cases hab:jb a b with
    |true=>
     have uB:Hid (∀j,j<m.length→0<j→(j-1)/2=i→jb (dH z m j) (dH z m (u+1))=false):=ae (fun j hj h0 hji=>by
      have:j=u∨j=u+1:=by omega
      rcases this with rfl|rfl
      ·rw[E1.out,E2.out];exact yE hab
      ·exact sN _)
     obtain⟨q,hq⟩:∃q,u+1=q:=⟨_,rfl⟩
     have hqz:(u:Int)+1=(q:Int):=by omega
     have hqn:q<n:=by omega
     rw[hq]at uB;clear hab E1 E2 L1 L2;have VP:Hid ((q-1)/2=i):=ae (by omega);have abg:(q:Int)<n:=by omega
     have hin':(i:Int)<n:=by omega
     have L5:=ae (dF gq.out q (by omega));have L6:=ae (dF gq.out i (by omega));have E5:=ae (eH (z:=z) (l:=m) (i:=q) (by omega));have E6:=ae (eH (z:=z) (l:=m) (i:=i) (by omega));obtain⟨x,hx⟩:∃x,m[q]'(by omega)=x:=⟨_,rfl⟩
     obtain⟨y,hy⟩:∃y,m[i]'(by omega)=y:=⟨_,rfl⟩
     rw[hx]at L5 E5;rw[hy]at L6 E6;have HX:=ae hx;have HY:=ae hy;have VQ:=ae (fun W=>zL x y W);clear hx hy
     go_wp2_with fail
     refine af [] [0,1,2,3,4,5,6,7,8,9,10,11,12,13,14] 15 (by kernel_rfl) (by kernel_rfl) (fun c a d u w h=>by cases d<;>exact h) ?_;simp only[pick,bn];show aA _ _ _ _ _ _
     repeat((first
      |refine ah (by exact rfl) (bW rfl rfl L5.out) ?_
      |refine ah (by exact rfl) (bW rfl rfl L6.out) ?_
      |refine ah (by exact rfl) (by as_aux_lemma=>intro W hK;have e0:=hK.cell c2 (fun x=>x);go_simp;exact rfl) ?_
      |refine ai (by exact rfl) ?_
      |refine au (by exact rfl) (by as_aux_lemma=>intro W;go_simp;exact⟨rfl,rfl⟩) (by intro W hK;with_reducible first|exact VQ.out W) ?_);simp only[Act.put,aY])
     show ∀W,_→wpList _ _ _ _ _ _
     intro W3 hK3;have pF:=ae (aK gq.out hK3 (fun _ _ x=>x));have c3:=hK3.cell c2 (fun x=>x);have aF:Hid (Kp (fun b=>b=g) w W3):=ae (ak.out.trans (hK3.mono (fun _ _ x=>x.elim)));clear hK3 c2;cases hah:jb x y with
     |false=>
      have HH:=ae (uz HU.out.1 (fun j hj h0 hji=>by
       have h1:=uB.out j hj h0 hji;have h2:=hah;rw[←E5.out,←E6.out]at h2
       exact mM h1 h2))
      go_wp2
      refine bodyPost_ret (results_none rfl _ _ _) rfl ?_;exact⟨rfl,m,HH.out,HU.out.2,pF.out,aF.out⟩
     |true=>
      have L7:=ae (dF pF.out q (by omega));have L8:=ae (dF pF.out i (by omega));rw[HX.out]at L7;rw[HY.out]at L8;have uZ:Hid ((m.set i x).set q y=swp z m i q):=by
       show _=_;unfold swp;rw[E5.out,E6.out]
      have KR:=ae (yF HU.out.1 (by omega) VP.out (by omega) (by rw[E5.out,E6.out];exact hah) uB.out);have Ot:=ae ((wU (z:=z) (l:=m) (i:=i) (p:=q) (by omega) (by omega) (by omega)).trans HU.out.2)
      go_wp2_with fail
      refine af [9] [0,1,2,3,4,5,6,7,8,10,11,12,13,14,15,16,17,18,19,20,21,22,23] 24 (by kernel_rfl) (by kernel_rfl) (fun c a d u w h=>by cases d<;>exact h) ?_;simp only[pick,bn]
      repeat(first
            |(refine qI (by exact rfl) (by as_aux_lemma=>intro W;go_simp;exact rfl) ?_;simp only[Act.put,aY])
            |(refine uf (by exact rfl) ?_;simp only[Act.put,aY]))
      show aA _ _ _ _ _ _
      repeat((first
            |refine ah (by exact rfl) (bW rfl rfl L7.out) ?_
            |refine ah (by exact rfl) (bW rfl rfl L8.out) ?_
            |refine ah (by exact rfl) (by as_aux_lemma=>intro W hK;have e0:=hK.cell c3 (fun x=>x);go_simp;exact rfl) ?_
            |refine ai (by exact rfl) ?_);simp only[Act.put,aY])
      show ∀W,_→wpList _ _ _ _ _ _
      intro W4 hK4;have rJ:=ae (aK pF.out hK4 (fun _ _ x=>x));have aH:Hid (Kp (fun b=>b=g) w W4):=ae (aF.out.trans (hK4.mono (fun _ _ x=>x.elim)));clear hK4 c3
      go_wp2_with(first
            |(refine dh rfl 459 (.tmp 83) (.tmp 75) rfl jP 5 gI m rJ.out i (by omega) x rfl rfl rfl (lF x) rfl ?_
              intro W5 yG hk5;have uA:=ae yG;have a_:Hid (Kp (fun b=>b=g) w W5):=ae (aH.out.trans hk5)
              clear yG hk5)
            |(refine dh rfl 459 (.tmp 84) (.tmp 82) rfl jP 5 gI (m.set i x) uA.out q (by rw[List.length_set];omega) y rfl rfl rfl (lF y) rfl ?_
              intro W6 pV hk6;rw[uZ.out]at pV;have xH:=ae pV;have b_:Hid (Kp (fun b=>b=g) w W6):=ae (a_.out.trans hk6)
              clear pV hk6))
      go_roundw
      case rel=>exact⟨q,swp z m i q,rfl,by omega,by rw[nN];exact hm,ae ⟨KR.out,Ot.out⟩,xH,b_⟩
      case measure=>simp[intOf];omega
    |false=>
     have uB:Hid (∀j,j<m.length→0<j→(j-1)/2=i→jb (dH z m j) (dH z m u)=false):=ae (fun j hj h0 hji=>by
      have:j=u∨j=u+1:=by omega
      rcases this with rfl|rfl
      ·exact sN _
      ·rw[E1.out,E2.out];exact hab)
     obtain⟨q,hq⟩:∃q,q=u:=⟨_,rfl⟩
     have hqn:q<n:=by omega
     subst hq;clear hab E1 E2 L1 L2;have VP:Hid ((q-1)/2=i):=ae (by omega);have abg:(q:Int)<n:=by omega
     have hin':(i:Int)<n:=by omega
     have L5:=ae (dF gq.out q (by omega));have L6:=ae (dF gq.out i (by omega));have E5:=ae (eH (z:=z) (l:=m) (i:=q) (by omega));have E6:=ae (eH (z:=z) (l:=m) (i:=i) (by omega));obtain⟨x,hx⟩:∃x,m[q]'(by omega)=x:=⟨_,rfl⟩
     obtain⟨y,hy⟩:∃y,m[i]'(by omega)=y:=⟨_,rfl⟩
     rw[hx]at L5 E5;rw[hy]at L6 E6;have HX:=ae hx;have HY:=ae hy;have VQ:=ae (fun W=>zL x y W);clear hx hy
     go_wp2_with fail
     refine af [] [0,1,2,3,4,5,6,7,8,9,10,11,12,13,14] 15 (by kernel_rfl) (by kernel_rfl) (fun c a d u w h=>by cases d<;>exact h) ?_;simp only[pick,bn];show aA _ _ _ _ _ _
     repeat((first
      |refine ah (by exact rfl) (bW rfl rfl L5.out) ?_
      |refine ah (by exact rfl) (bW rfl rfl L6.out) ?_
      |refine ah (by exact rfl) (by as_aux_lemma=>intro W hK;have e0:=hK.cell c2 (fun x=>x);go_simp;exact rfl) ?_
      |refine ai (by exact rfl) ?_
      |refine au (by exact rfl) (by as_aux_lemma=>intro W;go_simp;exact⟨rfl,rfl⟩) (by intro W hK;with_reducible first|exact VQ.out W) ?_);simp only[Act.put,aY])
     show ∀W,_→wpList _ _ _ _ _ _
     intro W3 hK3;have pF:=ae (aK gq.out hK3 (fun _ _ x=>x));have c3:=hK3.cell c2 (fun x=>x);have aF:Hid (Kp (fun b=>b=g) w W3):=ae (ak.out.trans (hK3.mono (fun _ _ x=>x.elim)));clear hK3 c2;cases hah:jb x y with
     |false=>
      have HH:=ae (uz HU.out.1 (fun j hj h0 hji=>by
       have h1:=uB.out j hj h0 hji;have h2:=hah;rw[←E5.out,←E6.out]at h2
       exact mM h1 h2))
      go_wp2
      refine bodyPost_ret (results_none rfl _ _ _) rfl ?_;exact⟨rfl,m,HH.out,HU.out.2,pF.out,aF.out⟩
     |true=>
      have L7:=ae (dF pF.out q (by omega));have L8:=ae (dF pF.out i (by omega));rw[HX.out]at L7;rw[HY.out]at L8;have uZ:Hid ((m.set i x).set q y=swp z m i q):=by
       show _=_;unfold swp;rw[E5.out,E6.out]
      have KR:=ae (yF HU.out.1 (by omega) VP.out (by omega) (by rw[E5.out,E6.out];exact hah) uB.out);have Ot:=ae ((wU (z:=z) (l:=m) (i:=i) (p:=q) (by omega) (by omega) (by omega)).trans HU.out.2)
      go_wp2_with fail
      refine af [9] [0,1,2,3,4,5,6,7,8,10,11,12,13,14,15,16,17,18,19,20,21,22,23] 24 (by kernel_rfl) (by kernel_rfl) (fun c a d u w h=>by cases d<;>exact h) ?_;simp only[pick,bn]
      repeat(first
            |(refine qI (by exact rfl) (by as_aux_lemma=>intro W;go_simp;exact rfl) ?_;simp only[Act.put,aY])
            |(refine uf (by exact rfl) ?_;simp only[Act.put,aY]))
      show aA _ _ _ _ _ _
      repeat((first
            |refine ah (by exact rfl) (bW rfl rfl L7.out) ?_
            |refine ah (by exact rfl) (bW rfl rfl L8.out) ?_
            |refine ah (by exact rfl) (by as_aux_lemma=>intro W hK;have e0:=hK.cell c3 (fun x=>x);go_simp;exact rfl) ?_
            |refine ai (by exact rfl) ?_);simp only[Act.put,aY])
      show ∀W,_→wpList _ _ _ _ _ _
      intro W4 hK4;have rJ:=ae (aK pF.out hK4 (fun _ _ x=>x));have aH:Hid (Kp (fun b=>b=g) w W4):=ae (aF.out.trans (hK4.mono (fun _ _ x=>x.elim)));clear hK4 c3
      go_wp2_with(first
            |(refine dh rfl 459 (.tmp 83) (.tmp 75) rfl jP 5 gI m rJ.out i (by omega) x rfl rfl rfl (lF x) rfl ?_
              intro W5 yG hk5;have uA:=ae yG;have a_:Hid (Kp (fun b=>b=g) w W5):=ae (aH.out.trans hk5)
              clear yG hk5)
            |(refine dh rfl 459 (.tmp 84) (.tmp 82) rfl jP 5 gI (m.set i x) uA.out q (by rw[List.length_set];omega) y rfl rfl rfl (lF y) rfl ?_
              intro W6 pV hk6;rw[uZ.out]at pV;have xH:=ae pV;have b_:Hid (Kp (fun b=>b=g) w W6):=ae (a_.out.trans hk6)
              clear pV hk6))
      go_roundw
      case rel=>exact⟨q,swp z m i q,rfl,by omega,by rw[nN];exact hm,ae ⟨KR.out,Ot.out⟩,xH,b_⟩
      case measure=>simp[intOf];omega
   ·have hv':¬((u:Int)+1<n):=by omega
    have uB:Hid (∀j,j<m.length→0<j→(j-1)/2=i→jb (dH z m j) (dH z m u)=false):=ae (fun j hj h0 hji=>by
     have:j=u:=by omega
     subst this;exact sN _)
    have HW:Hid (IntKind.i64.wrap ((u:Int)+1)=(u:Int)+1):=ae (by rw[IntKind.wrap_i64];omega);have HV:Hid (decide ((u:Int)+1<n)=false):=ae (by simpa using hv')
    go_wp2_with fail
    refine af [] [0,1,2,3,4,5,6,7,8,9,10,11,12,13,14,15,16,17,18,19,20,21,22,23,24] 25 (by kernel_rfl) (by kernel_rfl) (fun c a d u w h=>by cases d<;>exact h) ?_;simp only[pick,bn];show aA _ _ _ _ _ _
    repeat((first
     |refine ah (by exact rfl) (by as_aux_lemma=>intro W hK;have e0:=hK.cell c0 (fun x=>x);have e1:=HW.out;have e2:=HV.out;go_simp;exact rfl) ?_
     |refine ai (by exact rfl) ?_);simp only[Act.put,aY])
    show ∀W,_→wpList _ _ _ _ _ _
    intro W2 hK2;have gq:=ae (aK HO.out hK2 (fun _ _ x=>x));have c2:=hK2.cell c0 (fun x=>x);have ak:Hid (Kp (fun b=>b=g) w W2):=ae (HK.out.trans (hK2.mono (fun _ _ x=>x.elim)));clear hK2 c0;obtain⟨q,hq⟩:∃q,q=u:=⟨_,rfl⟩
    have hqn:q<n:=by omega
    subst hq;have VP:Hid ((q-1)/2=i):=ae (by omega);have abg:(q:Int)<n:=by omega
    have hin':(i:Int)<n:=by omega
    have L5:=ae (dF gq.out q (by omega));have L6:=ae (dF gq.out i (by omega));have E5:=ae (eH (z:=z) (l:=m) (i:=q) (by omega));have E6:=ae (eH (z:=z) (l:=m) (i:=i) (by omega));obtain⟨x,hx⟩:∃x,m[q]'(by omega)=x:=⟨_,rfl⟩
    obtain⟨y,hy⟩:∃y,m[i]'(by omega)=y:=⟨_,rfl⟩
    rw[hx]at L5 E5;rw[hy]at L6 E6;have HX:=ae hx;have HY:=ae hy;have VQ:=ae (fun W=>zL x y W);clear hx hy
    go_wp2_with fail
    refine af [] [0,1,2,3,4,5,6,7,8,9,10,11,12,13,14] 15 (by kernel_rfl) (by kernel_rfl) (fun c a d u w h=>by cases d<;>exact h) ?_;simp only[pick,bn];show aA _ _ _ _ _ _
    repeat((first
     |refine ah (by exact rfl) (bW rfl rfl L5.out) ?_
     |refine ah (by exact rfl) (bW rfl rfl L6.out) ?_
     |refine ah (by exact rfl) (by as_aux_lemma=>intro W hK;have e0:=hK.cell c2 (fun x=>x);go_simp;exact rfl) ?_
     |refine ai (by exact rfl) ?_
     |refine au (by exact rfl) (by as_aux_lemma=>intro W;go_simp;exact⟨rfl,rfl⟩) (by intro W hK;with_reducible first|exact VQ.out W) ?_);simp only[Act.put,aY])
    show ∀W,_→wpList _ _ _ _ _ _
    intro W3 hK3;have pF:=ae (aK gq.out hK3 (fun _ _ x=>x));have c3:=hK3.cell c2 (fun x=>x);have aF:Hid (Kp (fun b=>b=g) w W3):=ae (ak.out.trans (hK3.mono (fun _ _ x=>x.elim)));clear hK3 c2;cases hah:jb x y with
    |false=>
     have HH:=ae (uz HU.out.1 (fun j hj h0 hji=>by
      have h1:=uB.out j hj h0 hji;have h2:=hah;rw[←E5.out,←E6.out]at h2
      exact mM h1 h2))
     go_wp2
     refine bodyPost_ret (results_none rfl _ _ _) rfl ?_;exact⟨rfl,m,HH.out,HU.out.2,pF.out,aF.out⟩
    |true=>
     have L7:=ae (dF pF.out q (by omega));have L8:=ae (dF pF.out i (by omega));rw[HX.out]at L7;rw[HY.out]at L8;have uZ:Hid ((m.set i x).set q y=swp z m i q):=by
      show _=_;unfold swp;rw[E5.out,E6.out]
     have KR:=ae (yF HU.out.1 (by omega) VP.out (by omega) (by rw[E5.out,E6.out];exact hah) uB.out);have Ot:=ae ((wU (z:=z) (l:=m) (i:=i) (p:=q) (by omega) (by omega) (by omega)).trans HU.out.2)
     go_wp2_with fail
     refine af [9] [0,1,2,3,4,5,6,7,8,10,11,12,13,14,15,16,17,18,19,20,21,22,23] 24 (by kernel_rfl) (by kernel_rfl) (fun c a d u w h=>by cases d<;>exact h) ?_;simp only[pick,bn]
     repeat(first
      |(refine qI (by exact rfl) (by as_aux_lemma=>intro W;go_simp;exact rfl) ?_;simp only[Act.put,aY])
      |(refine uf (by exact rfl) ?_;simp only[Act.put,aY]))
     show aA _ _ _ _ _ _
     repeat((first
      |refine ah (by exact rfl) (bW rfl rfl L7.out) ?_
      |refine ah (by exact rfl) (bW rfl rfl L8.out) ?_
      |refine ah (by exact rfl) (by as_aux_lemma=>intro W hK;have e0:=hK.cell c3 (fun x=>x);go_simp;exact rfl) ?_
      |refine ai (by exact rfl) ?_);simp only[Act.put,aY])
     show ∀W,_→wpList _ _ _ _ _ _
     intro W4 hK4;have rJ:=ae (aK pF.out hK4 (fun _ _ x=>x));have aH:Hid (Kp (fun b=>b=g) w W4):=ae (aF.out.trans (hK4.mono (fun _ _ x=>x.elim)));clear hK4 c3
     go_wp2_with(first
      |(refine dh rfl 459 (.tmp 83) (.tmp 75) rfl jP 5 gI m rJ.out i (by omega) x rfl rfl rfl (lF x) rfl ?_
        intro W5 yG hk5;have uA:=ae yG;have a_:Hid (Kp (fun b=>b=g) w W5):=ae (aH.out.trans hk5)
        clear yG hk5)
      |(refine dh rfl 459 (.tmp 84) (.tmp 82) rfl jP 5 gI (m.set i x) uA.out q (by rw[List.length_set];omega) y rfl rfl rfl (lF y) rfl ?_
        intro W6 pV hk6;rw[uZ.out]at pV;have xH:=ae pV;have b_:Hid (Kp (fun b=>b=g) w W6):=ae (a_.out.trans hk6)
        clear pV hk6))
     go_roundw
     case rel=>exact⟨q,swp z m i q,rfl,by omega,by rw[nN];exact hm,ae ⟨KR.out,Ot.out⟩,xH,b_⟩
     case measure=>simp[intOf];omega
end Go.Proofs.YtjiehhlghjnfhaaGreatDoor
