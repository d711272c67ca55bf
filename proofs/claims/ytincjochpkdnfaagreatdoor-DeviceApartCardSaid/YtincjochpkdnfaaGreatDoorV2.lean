/- Texts as lists of bytes. Names no function of the program. -/
import Derived.Test.YtincjochpkdnfaaGreatDoorV0
import Derived.Lib.Join
import Derived.BigQuiet
import Derived.Test.YtincjochpkdnfaaGreatDoorShelf
import Derived.Lib.TrailingZeros
set_option linter.all false
set_option maxHeartbeats 1000000
namespace Go.Proofs.YtincjochpkdnfaaGreatDoor
section
open Go.RowKit
def bl(s:ByteArray):List UInt8:=s.data.toList
def aG(s:ByteArray):(bl s).length=s.size:=by simp[bl]
def rH(s:ByteArray)(k:Nat)(h:k<s.size):(bl s)[k]'(by rw[aG];exact h)=s[k]:=rfl
def j1{a b:ByteArray}(h:bl a=bl b):a=b:=by
 cases a;cases b;simp[bl]at h;rw[h]
def tx(l:List UInt8):ByteArray:=⟨l.toArray⟩
def cP(l:List UInt8):bl (tx l)=l:=by simp[bl,tx]
def Dm(s:ByteArray):tx (bl s)=s:=j1 (cP _)
def eb(l:List UInt8):(tx l).size=l.length:=by rw[<-aG,cP]
def fD(s:ByteArray)(a b:Nat):bl (s.extract a b)=((bl s).drop a).take (b-a):=Lib.extract_data s a b
end
section
variable {α:Type}
def e8(a:List Nat)(r:Nat):Nat->Nat
 |0=>0
 |k+1=>if a.getD (k+1) 0<=r then k+1 else e8 a r k
def ku(a:List Nat)(r:Nat):∀k,e8 a r k<=k
 |0=>Hm _
 |k+1=>by unfold e8;split;exact Hm _;have:=ku a r k;omega
def gq(a:List Nat)(r:Nat):List Nat:=
 if e8 a r (a.length-1)=0/\r<a.getD 0 0 then a.map (λb=>b-(a.getD 0 0-r))else a.set (e8 a r (a.length-1)) r
def jd(a:List Nat)(b:List (List α))(r:Nat)(x:α):List (List α):=
 b.set (e8 a r (a.length-1)) (b.getD (e8 a r (a.length-1)) []++[x])
def gh:List (List α)->Option Nat
 | []=>none
 | []::r=>(gh r).map (·+1)
 |(_::_)::_=>some 0
def eO(a:List (List α)):Nat:=(a.map List.length).sum
def yr(a:List Nat):Prop:=∀i,i<a.length->a.getD 0 0<=a.getD i 0
def gu{b:List (List α)}{i:Nat}(h:gh b=some i):∃q Q,b[i]? =some (q::Q)/\∀j,j<i->b[j]? =some []:=by
 induction b generalizing i with
 |nil=>cases h
 |cons a r c=>
  cases a with
  |nil=>
   simp only[gh,Ja]at h;obtain⟨k,d,rfl⟩:=h;obtain⟨q,Q,e,f⟩:=c d;refine⟨q,Q,by simpa using e,λj g=> ?_⟩;cases j with
   |zero=>rfl
   |succ j=>simpa using f j (by omega)
  |cons q Q=>
   simp only[gh,Option.some.injEq]at h;subst h;exact⟨q,Q,rfl,λj g=>by omega⟩
def oH{b:List (List α)}(h:gh b=none):∀j,j<b.length->b[j]? =some []:=by
 induction b with
 |nil=>intro j c;simp at c
 |cons a r d=>
  cases a with
  |nil=>
   simp only[gh,K8]at h;intro j c;cases j with
   |zero=>rfl
   |succ j=>simpa using d h j (by simpa using c)
  |cons q Q=>cases h
def ys{a:List (List α)}{i:Nat}{q:α}{Q:List α}(h:a[i]? =some (q::Q))(c:∀j,j<i->a[j]? =some []):gh a=some i:=by
 cases e:gh a with
 |none=>
  have hi:i<a.length:=(HD.1 h).1;rw[oH e i hi]at h;cases h
 |some k=>
  obtain⟨l,Q',b,d⟩:=gu e;by_cases f:k<i
  ·rw[c k f]at b;cases b
  ·by_cases g:i<k
   ·rw[d i g]at h;cases h
   ·have:k=i:=by omega
    rw[this]
end
section
variable {α:Type}
def fE(a fr i:Nat):Nat:=if fr+i<a then fr+i else fr+i-a
def je{a fr i:Nat}(h:fr<a)(hi:i<=a):fE a fr i<a:=by unfold fE;split<;>omega
def yt{a fr i:Nat}(h:fr<a)(hi:i<=a):(fr+i)%a=fE a fr i:=by
 unfold fE;by_cases b:fr+i<a
 ·rw[Hl b,IH b]
 ·rw[Hk b,Nat.mod_eq_sub_mod (by omega),IH (by omega)]
def sP{a fr i j:Nat}(h:fr<a)(hi:i<a)(b:j<a)(e:fE a fr i=fE a fr j):i=j:=by
 unfold fE at e;split at e<;>split at e<;>omega
def wU{a fr i:Nat}(h:fr<a)(hi:i+1<=a):fE a (fE a fr 1) i=fE a fr (i+1):=by
 unfold fE;split<;>split<;>split<;>omega
structure hk (S:List α) (fr n room:Nat) (Q:List α):Prop where
 len:Q.length=n
 hN:n<=S.length
 fits:S.length<=room
 GK:fr<S.length\/(S.length=0/\fr=0)
 get:∀i,i<n->S[fE S.length fr i]? =Q[i]?
def hk.nil(room:Nat):hk ([]:List α) 0 0 room []:=⟨rfl,Hm _,Hv _,.inr ⟨rfl,rfl⟩,λi h=>by omega⟩
def hk.oI{S:List α}{fr n room:Nat}{Q:List α}(h:hk S fr n room Q)(a:0<S.length):fr<S.length:=by rcases h.GK with h|h;exact h;omega
def hk.put{S:List α}{fr n room:Nat}{Q:List α}(h:hk S fr n room Q)(d:n<S.length)(x:α):hk (S.set (fE S.length fr n) x) fr (n+1) room (Q++[x]):=by
 have hf:=h.oI (by omega);have b:(S.set (fE S.length fr n) x).length=S.length:=Hr;refine⟨by simp[h.len],by rw[b];omega,by rw[b];exact h.fits,by rw[b];exact .inl hf,λi hi=> ?_⟩;rw[b];by_cases e:i=n
 ·subst e;rw[H8 (je (a:=S.length) (i:=i) hf (by omega)),Jg (by rw[h.len];exact Hm _),h.len];simp
 ·rw[HL (λc=>e (sP hf (by omega) (by omega) c.symm)),Jf (by rw[h.len];omega)];exact h.get i (by omega)
def hk.take{S:List α}{fr n room:Nat}{q:α}{Q:List α}(h:hk S fr n room (q::Q))(z:α):S[fr]? =some q/\hk (S.set fr z) (fE S.length fr 1) (n-1) room Q:=by
 have d:=h.len;rw[Hs]at d
 have f:=h.hN;have hf:=h.oI (by omega);have a:=h.get 0 (by omega);have b:fE S.length fr 0=fr:=by unfold fE;rw[Hl (by omega)];omega
 rw[b]at a
 refine⟨by simpa using a,by omega,by rw[Hr];omega,by rw[Hr];exact h.fits,.inl (by rw[Hr];exact je hf (by omega)),λi hi=> ?_⟩;rw[Hr,wU hf (by omega)];have c:=h.get (i+1) (by omega);rw[IX]at c
 rw[HL,c];intro e;have:(0:Nat)=i+1:=sP hf (by omega) (by omega) (by rw[b];exact e);omega
def hk.Fh{S S2:List α}{fr n room:Nat}{Q:List α}(h:hk S fr n room Q)(c:n<S2.length)(a:S2.length<=room)(b:∀i,i<n->S2[i]? =Q[i]?):hk S2 0 n room Q:=
 ⟨h.len,by omega,a,.inl (by omega),λi hi=>by
  have:fE S2.length 0 i=i:=by unfold fE;rw[Hl (by omega)];omega
  rw[this];exact b i hi⟩
end
section
structure En (α:Type) where
 ao:Nat
 bK:Nat
 x:α
variable {α:Type}
def ec(a b:En α):Bool:=decide (a.ao<b.ao)||(decide (a.ao=b.ao)&&decide (a.bK<b.bK))
def j2{a b:En α}:ec a b=true↔a.ao<b.ao\/(a.ao=b.ao/\a.bK<b.bK):=by unfold ec;simp
def oJ{a b:En α}:ec a b=false↔¬(a.ao<b.ao\/(a.ao=b.ao/\a.bK<b.bK)):=by rw[<-j2];simp
def gv{a b c:En α}(h:ec a b=false)(g:ec b c=false):ec a c=false:=by
 rw[oJ]at*;omega
def lj{a b:En α}(h:ec a b=true):ec b a=false:=by
 rw[j2]at h;rw[oJ];omega
def iJ(a:En α):ec a a=false:=by rw[oJ];omega
def b_(z:En α)(l:List (En α))(i:Nat):En α:=(l[i]?).getD z
def cM{z:En α}{l:List (En α)}{i:Nat}(h:i<l.length):b_ z l i=l[i]:=by unfold b_;simp[h]
def swp(z:En α)(l:List (En α))(i p:Nat):List (En α):=(l.set i (b_ z l p)).set p (b_ z l i)
def gO(z:En α)(l:List (En α))(i p:Nat):(swp z l i p).length=l.length:=by simp[swp]
def gP{z:En α}{l:List (En α)}{i p:Nat}(hi:i<l.length)(hp:p<l.length)(j:Nat):b_ z (swp z l i p) j=if j=p then b_ z l i else if j=i then b_ z l p else b_ z l j:=by
 unfold swp;by_cases a:j=p
 ·subst a;rw[Hl rfl,cM (by simpa using hp)];simp
 ·rw[Hk a];by_cases b:j=i
  ·subst b;rw[Hl rfl,cM (by simpa using hi),Jk (λe=>a e.symm)];simp
  ·rw[Hk b];unfold b_;rw[HL (λe=>a e.symm),HL (λe=>b e.symm)]
def set_perm{l:List (En α)}{i:Nat}(h:i<l.length)(a:En α):(l[i]::l.set i a).Perm (a::l):=by
 induction l generalizing i with
 |nil=>simp at h
 |cons b l c=>
  cases i with
  |zero=>simp only[K9,I7];exact List.Perm.swap _ _ _
  |succ i=>
   simp only[Kg,IE];have:=c (i:=i) (by simpa using h);exact(List.Perm.swap _ _ _).trans ((this.cons b).trans (List.Perm.swap _ _ _))
def kv{z:En α}{l:List (En α)}{i p:Nat}(hi:i<l.length)(hp:p<l.length)(a:i≠p):(swp z l i p).Perm l:=by
 have d:=set_perm hi (b_ z l p);have b:p<(l.set i (b_ z l p)).length:=by simpa using hp
 have c:=set_perm b (b_ z l i);have f:(l.set i (b_ z l p))[p]=l[p]:=Jk a _;rw[f]at c
 have g:b_ z l i=l[i]:=cM hi;have h:b_ z l p=l[p]:=cM hp;have j:(l[p]::swp z l i p).Perm (l[p]::l):=by
  have e:(l[p]::swp z l i p).Perm (l[i]::l.set i (b_ z l p)):=by
   unfold swp;rw[g]at c ⊢;exact c
  rw[h]at d e
  exact e.trans d
 exact(List.perm_cons _).1 j
def ej(z:En α)(l:List (En α)):Prop:=∀i,i<l.length->0<i->ec (b_ z l i) (b_ z l ((i-1)/2))=false
def ql(z:En α)(l:List (En α))(i:Nat):Prop:=(∀j,j<l.length->0<j->j≠i->ec (b_ z l j) (b_ z l ((j-1)/2))=false)/\
 ∀j,j<l.length->0<j->(j-1)/2=i->0<i->ec (b_ z l j) (b_ z l ((i-1)/2))=false
def sQ{z:En α}{l:List (En α)}{i:Nat}(h:ql z l i)(a:i=0\/ec (b_ z l i) (b_ z l ((i-1)/2))=false):ej z l:=by
 intro j b c;by_cases e:j=i
 ·subst e;rcases a with a|a
  ·omega
  ·exact a
 ·exact h.1 j b c e
def yu{z:En α}{l:List (En α)}{i:Nat}(h:ql z l i)(hi:i<l.length)(t:0<i)(ha:ec (b_ z l i) (b_ z l ((i-1)/2))=true):ql z (swp z l i ((i-1)/2)) ((i-1)/2):=by
 obtain⟨p,hp⟩:∃p,(i-1)/2=p:=⟨_,rfl⟩
 rw[hp]at ha ⊢
 have u:p<i:=by omega
 have a:p<l.length:=by omega
 have g:=lj ha;refine⟨λj c b n=> ?_,λj c b o q=> ?_⟩
 ·rw[gO]at c
  rw[gP hi a,gP hi a,Hk n];by_cases e:j=i
  ·subst e;rw[Hl rfl,Hl hp];exact g
  ·rw[Hk e];by_cases d:(j-1)/2=p
   ·rw[Hl d];have f:=h.1 j c b e;rw[d]at f
    exact gv f g
   ·rw[Hk d];by_cases r:(j-1)/2=i
    ·rw[Hl r];have f:=h.2 j c b r t
     rwa [hp]at f
    ·rw[Hk r];exact h.1 j c b e
 ·rw[gO]at c
  rw[gP hi a,gP hi a];have s:(p-1)/2≠p:=by omega
  have k:(p-1)/2≠i:=by omega
  rw[Hk s,Hk k];have m:=h.1 p a q (by omega);by_cases e:j=p
  ·omega
  ·rw[Hk e];by_cases d:j=i
   ·rw[Hl d];exact m
   ·rw[Hk d];have f:=h.1 j c b d;rw[o]at f
    exact gv f m
def jf(z:En α)(l:List (En α))(i:Nat):Prop:=(∀j,j<l.length->0<j->(j-1)/2≠i->ec (b_ z l j) (b_ z l ((j-1)/2))=false)/\
 ∀j,j<l.length->0<j->(j-1)/2=i->0<i->ec (b_ z l j) (b_ z l ((i-1)/2))=false
def jg{z:En α}{l:List (En α)}{i:Nat}(h:jf z l i)(c:∀j,j<l.length->0<j->(j-1)/2=i->ec (b_ z l j) (b_ z l i)=false):ej z l:=by
 intro j a b;by_cases e:(j-1)/2=i
 ·rw[e];exact c j a b e
 ·exact h.1 j a b e
def lk{z:En α}{l:List (En α)}{i u:Nat}(h:jf z l i)(hu:u<l.length)(c:(u-1)/2=i)(o:0<u)(ha:ec (b_ z l u) (b_ z l i)=true)(p:∀j,j<l.length->0<j->(j-1)/2=i->ec (b_ z l j) (b_ z l u)=false):jf z (swp z l i u) u:=by
 have q:i<u:=by omega
 have b:i<l.length:=by omega
 have k:=lj ha;refine⟨λj d a m=> ?_,λj d a n r=> ?_⟩
 ·rw[gO]at d
  rw[gP b hu,gP b hu,Hk m];by_cases e:j=u
  ·subst e;rw[Hl rfl,Hl c];exact k
  ·rw[Hk e];by_cases g:j=i
   ·subst g;have f:(j-1)/2≠j:=by omega
    rw[Hl rfl,Hk f];exact h.2 u hu o c a
   ·rw[Hk g];by_cases f:(j-1)/2=i
    ·rw[Hl f];exact p j d a f
    ·rw[Hk f];exact h.1 j d a f
 ·rw[gO]at d
  rw[gP b hu,gP b hu,c,Hk (by omega),Hl rfl];have e:j≠u:=by omega
  have g:j≠i:=by omega
  rw[Hk g,Hk (show ¬i=u by omega)];have s:=h.1 j d a (by omega)
  rwa [n]at s
def nH{z:En α}{l:List (En α)}(h:ej z l):∀(n j:Nat),j<=n->j<l.length->ec (b_ z l j) (b_ z l 0)=false
 |0,j,a,_=>by
  have:j=0:=by omega
  subst this;exact iJ _
 |n+1,j,a,b=>by
  by_cases e:j=0
  ·subst e;exact iJ _
  ·exact gv (h j b (by omega)) (nH h n ((j-1)/2) (by omega) (by omega))
def rI(S:List (En α)):Prop:=S.Pairwise λa b=>ec a b=true
def dU:List (En α)->En α->List (En α)
 | [],e=>[e]
 |y::l,e=>if e.ao<y.ao then e::y::l else y::dU l e
def dE(e:En α):∀S:List (En α),(dU S e).Perm (e::S)
 | []=>List.Perm.refl _
 |y::l=>by
  unfold dU;split
  ·exact List.Perm.refl _
  ·exact((dE e l).cons y).trans (List.Perm.swap _ _ _)
def qm{e:En α}:∀ {S:List (En α)},rI S->(∀s∈S,s.bK<e.bK)->rI (dU S e)
 | [],_,_=>by unfold dU rI;simp
 |y::l,h,c=>by
  unfold rI at h;rw[HJ]at h
  unfold dU;split
  ·rename_i b;unfold rI;rw[HJ,HJ];refine⟨λa ha=> ?_,h.1,h.2⟩;rcases Ho.1 ha with rfl|ha
   ·rw[j2];exact .inl b
   ·have f:=h.1 a ha;rw[j2]at f ⊢;omega
  ·rename_i b;have d:=qm (e:=e) (S:=l) h.2 (λs g=>c s (by simp[g]));unfold rI at d ⊢;rw[HJ];refine⟨λa ha=> ?_,d⟩;rcases Ho.1 ((dE e l).mem_iff.1 ha)with rfl|ha
   ·have:=c y (by simp);rw[j2];omega
   ·exact h.1 a ha
structure lV (z:En α) (n:Nat) (l S:List (En α)):Prop where
 heap:ej z l
 perm:l.Perm S
 gf:rI S
 bK:∀s∈S,s.bK<n
def lV.nil(z:En α)(n:Nat):lV z n [] []:=⟨λi h=>by simp at h,List.Perm.refl _,List.Pairwise.nil,λs h=>by cases h⟩
def lV.len{z:En α}{n:Nat}{l S:List (En α)}(h:lV z n l S):l.length=S.length:=h.perm.length_eq
def lV.head{z:En α}{n:Nat}{l S:List (En α)}(h:lV z n l S)(c:0<l.length):∃T,S=b_ z l 0::T:=by
 cases S with
 |nil=>have:=h.len;rw[Jj]at this;omega
 |cons s T=>
  refine⟨T,?_⟩;have f:s∈l:=h.perm.mem_iff.2 (by simp);obtain⟨j,d,e⟩:=JA f;have b:=nH h.heap j j (Hm _) d;rw[cM d,e]at b
  have a:b_ z l 0∈s::T:=h.perm.mem_iff.1 (by rw[cM c];exact Ht c);rcases Ho.1 a with a|a
  ·rw[a]
  ·have:=h.gf;unfold rI at this;rw[HJ]at this
   rw[this.1 _ a]at b;cases b
def lV.push{z:En α}{n:Nat}{l b S:List (En α)}{e:En α}(h:lV z n l S)(c:e.bK=n)(hp:b.Perm (l++[e]))(d:ej z b):lV z (n+1) b (dU S e):=by
 refine⟨d,?_,qm h.gf (λs a=>by rw[c];exact h.bK s a),λs a=> ?_⟩
 ·have f:(l++[e]).Perm (e::l):=JB;exact hp.trans (f.trans ((h.perm.cons e).trans (dE e S).symm))
 ·rcases Ho.1 ((dE e S).mem_iff.1 a)with rfl|a
  ·omega
  ·have:=h.bK s a;omega
def lV.pop{z:En α}{n:Nat}{l a S T:List (En α)}(h:lV z n l S)(hS:S=b_ z l 0::T)(hp:(b_ z l 0::a).Perm l)(b:ej z a):lV z n a T:=by
 subst hS;refine⟨b,(List.perm_cons _).1 (hp.trans h.perm),?_,λs c=>h.bK s (by simp[c])⟩;have:=h.gf;unfold rI at this;rw[HJ]at this
 exact this.2
def wV{z:En α}{l:List (En α)}(e:En α)(h:ej z l):ql z (l++[e]) l.length:=by
 have a:∀j,j<l.length->b_ z (l++[e]) j=b_ z l j:=λj b=>by unfold b_;rw[Jf b]
 refine⟨λj b c d=> ?_,λj b c f _=> ?_⟩
 ·rw[HK,KH]at b
  rw[a j (by omega),a _ (by omega)];exact h j (by omega) c
 ·rw[HK,KH]at b;omega
def sR{z:En α}{l:List (En α)}(h:ej z l)(k:1<l.length):jf z ((l.set 0 (b_ z l (l.length-1))).take (l.length-1)) 0/\(b_ z l 0::(l.set 0 (b_ z l (l.length-1))).take (l.length-1)).Perm l:=by
 have e:∀j,0<j->j<l.length-1->b_ z ((l.set 0 (b_ z l (l.length-1))).take (l.length-1)) j=b_ z l j:=λj f g=>by
  unfold b_;rw[JT g,HL (by omega)]
 refine⟨⟨λj f d m=> ?_,λj f d n t=>by omega⟩,?_⟩
 ·rw[HG,Hr]at f
  rw[e j d (by omega),e _ (by omega) (by omega)];exact h j (by omega) d
 ·match l,k with
  |a::b::r,_=>
   have o:(a::b::r).length-1=r.length+1:=by simp
   have p:b_ z (a::b::r) 0=a:=rfl;obtain⟨q,c,i⟩:∃q c,b::r=q++[c]:=⟨(b::r).dropLast,(b::r).getLast (by simp),(K_ (by simp)).symm⟩
   have hlen:q.length=r.length:=by have:=HC List.length i;simp at this;omega
   have s:b_ z (a::b::r) (r.length+1)=c:=by
    unfold b_;rw[IX,i,Jg (by omega),hlen];simp
   rw[o,p,s,I7,Ku,i,<-hlen,List.take_append_of_le_length (Hm _),H9];exact(List.Perm.cons a (JB (l₁:=q) (l₂:=[c])).symm)
end
section
def Dp(c:UInt8):Bool:=decide (48<=c.toNat)&&decide (c.toNat<=57)
def num(l:List UInt8):Nat:=l.foldl (λn c=>n*10+(c.toNat-48)) 0
def hO:Nat:=18446744073709551616
def fF(l:List UInt8):Bool:=l.all Dp&& !l.isEmpty&& !(decide (1<l.length)&&l.head? ==some 48)
def rd(l:List UInt8):Nat×Int:=if fF l then(if num l<hO then(num l,0)else(0,5))else(0,3)
def digit(n:Nat):UInt8:=UInt8.ofNat (48+n%10)
def put(n:Nat):List UInt8:=if n<10 then[digit n]else put (n/10)++[digit n]
termination_by n
decreasing_by omega
def blank(c:UInt8):Bool:=c.toNat==32||c.toNat==9
def Dq(p:List (List UInt8)×List UInt8)(c:UInt8):List (List UInt8)×List UInt8:=
 if blank c then(if p.2=[]then(p.1,[])else(p.1++[p.2],[]))else(p.1,p.2++[c])
def GL(l:List UInt8):List (List UInt8)×List UInt8:=l.foldl Dq ([],[])
def Fi(p:List (List UInt8)×List UInt8):List (List UInt8):=if p.2=[]then p.1 else p.1++[p.2]
def words(l:List UInt8):List (List UInt8):=Fi (GL l)
def Dr(c:UInt8)(p:List (List UInt8)×List UInt8)(d:UInt8):List (List UInt8)×List UInt8:=if d==c then(p.1++[p.2],[])else(p.1,p.2++[d])
def Fj(c:UInt8)(l:List UInt8):List (List UInt8)×List UInt8:=l.foldl (Dr c) ([],[])
def parts(c:UInt8)(l:List UInt8):List (List UInt8):=(Fj c l).1++[(Fj c l).2]
structure dF where
 id:Nat
 cost:Nat
 bY:Nat
 size:Nat
 cap:Nat
structure dF.ok (f:dF):Prop where
 id:f.id<4294967296
 cost:f.cost<18446744073709551616
 bY:f.bY<18446744073709551616
 size:f.size<18446744073709551616
 cap:f.cap<18446744073709551616
instance:Inhabited dF:=⟨⟨0,0,0,0,0⟩⟩
def cv(f:dF):List Value:=[.int .u32 f.id,.int .u64 f.cost,.int .u64 f.bY,.int .u64 f.size,.int .u64 f.cap]
def fo(f:dF):(cv f).length=5:=rfl
structure ey where
 ao:Int
 back:Int
 levels:Int
 aD:Int
 aB:Int
 bytes:Nat
 share:Int
 ei:Nat
 ax:Nat
 aP:Nat
 av:List dF
structure ey.ok (c:ey):Prop where
 ao: -9223372036854775808<=c.ao/\c.ao<=9223372036854775807
 back: -9223372036854775808<=c.back/\c.back<=9223372036854775807
 levels: -9223372036854775808<=c.levels/\c.levels<=9223372036854775807
 aD: -9223372036854775808<=c.aD/\c.aD<=9223372036854775807
 aB: -9223372036854775808<=c.aB/\c.aB<=9223372036854775807
 bytes:c.bytes<hO
 share: -9223372036854775808<=c.share/\c.share<=9223372036854775807
 ei:c.ei<hO
 ax:c.ax<hO
 aP:c.aP<hO
 av:∀f∈c.av,f.ok
def dM(l:List dF):Int:=if l.length=0\/64<l.length then 29 else if(l.map (·.id)).Nodup then 0 else 30
def eX(c:ey):Int:=
 if c.aB<1\/4096<c.aB\/c.bytes=0\/c.share<0\/16<c.share then 25
 else if 18446744073709551615/2^c.share.toNat<c.bytes then 25 else if c.ei<1\/65535<c.ei then 26 else dM c.av
def dr(c:ey):Int:=
 if c.ao<1\/3<c.ao\/c.back<1\/3<c.back then 22 else if c.levels<1\/3<c.levels then 23 else if c.aD<1\/32<c.aD then 24
 else if eX c≠0 then eX c else if c.ax=0 then 27 else if c.aP<c.ei then 28 else 0
def skip(l:List UInt8):Bool:=match words l with| []=>true|w::_=>w.head? ==some 35
end
section
open Go.RowKit
def strs(l:List ByteArray):List Value:=l.map Value.string
def kx(l:List ByteArray)(k:Nat)(h:k<l.length):(strs l)[k]? =some (.string (l[k]'h)):=by simp[strs,h]
def qn(l:List ByteArray):(strs l).length=l.length:=by simp[strs]
def jh(l:List ByteArray)(x:ByteArray):strs (l++[x])=strs l++[.string x]:=by simp[strs]
def yv:gL Tryz.prog 49 9 (.string ByteArray.empty) 1 16:=⟨Tryz.underlying49,by kernel_rfl,rfl,by decide⟩
end
section
def findF:List dF->Nat->Int
 | [],_=> -1
 |f::r,id=>if f.id=id then 0 else if findF r id<0 then -1 else findF r id+1
def ky(l:List dF)(id:Nat): -1<=findF l id/\findF l id<l.length:=by
 induction l with
 |nil=>simp[findF]
 |cons f r c=>
  rw[Hs];unfold findF;by_cases a:f.id=id
  ·rw[Hl a];omega
  ·rw[Hk a];by_cases b:findF r id<0
   ·rw[Hl b];omega
   ·rw[Hk b];omega
def wW(l:List dF)(id j:Nat)(a:j<l.length)(h:∀i (hi:i<j),(l[i]'(by omega)).id≠id)(e:l[j].id=id):findF l id=j:=by
 induction l generalizing j with
 |nil=>simp at a
 |cons f r b=>
  cases j with
  |zero=>unfold findF;rw[Hl (by simpa using e)];rfl
  |succ j=>
   have c:f.id≠id:=by have:=h 0 (by omega);simpa using this
   have:=b j (by simpa using a) (λi hi=>by have:=h (i+1) (by omega);simpa using this) (by simpa using e);unfold findF;rw[Hk c,Hk (by omega),this];simp
def sS(l:List dF)(id:Nat)(h:∀i (hi:i<l.length),(l[i]'hi).id≠id):findF l id= -1:=by
 induction l with
 |nil=>rfl
 |cons f r a=>
  have b:f.id≠id:=by have:=h 0 (by simp);simpa using this
  have:=a (λi hi=>by have:=h (i+1) (by simpa using hi);simpa using this);unfold findF;rw[Hk b,this];simp
end
section
open Go.RowKit Go.Shelf
def cH(a b:Nat):Nat:=if a+b<18446744073709551616 then a+b else 18446744073709551615
def j3(a b:Nat):cH a b<18446744073709551616:=by unfold cH;split<;>omega
def yw(a b:Nat)(w:World):(callFunc 86 #[.int .u64 a,.int .u64 b,.int .u64 0]).run Tryz.prog w=.ok (.value (.tuple #[.int .u64 (((a+b)%18446744073709551616:Nat):Int),.int .u64 (((a+b)/18446744073709551616:Nat):Int)])) w:=by
 rw[run_callFunc_extern Tryz.func86 (by kernel_rfl) (by kernel_rfl) (by kernel_rfl) (e:=add64Entry) (by kernel_rfl),run_add64 a b 0 (by omega) (by omega) (by omega) (by omega)];simp only[Result.andThen];congr 5<;>omega
def sT(a b:Nat)(ha:a<18446744073709551616)(k:b<18446744073709551616)(w:World):Calls Tryz.prog 56 #[.int .u64 a,.int .u64 b] w λe w'=>e=.returned (.int .u64 (cH a b))/\w=w':=by
 have g:=yw a b;by_cases h:a+b<18446744073709551616
 ·have i:(a+b)%18446744073709551616=a+b:=IH h;have d:(a+b)/18446744073709551616=0:=KI h;rw[i,d]at g
  have f:Hid (cH a b=a+b):=by show _=_;unfold cH;rw[Hl h]
  clear i d;go_enter Tryz.func56,Tryz.ntmps56;go_wp2;go_ret;exact⟨by rw[f.out,Int.natCast_add];rfl,rfl⟩
 ·have d:(a+b)/18446744073709551616=1:=by omega
  obtain⟨c,j⟩:∃c,(a+b)%18446744073709551616=c:=⟨_,rfl⟩
  rw[d,j]at g
  have f:Hid (cH a b=18446744073709551615):=by show _=_;unfold cH;rw[Hk h]
  clear d j;go_enter Tryz.func56,Tryz.ntmps56;go_wp2;go_ret;exact⟨by rw[f.out];rfl,rfl⟩
end
section
def be:Nat->Nat->List UInt8
 |0,_=>[]
 |w+1,n=>be w (n/256)++[UInt8.ofNat (n%256)]
def rJ(w:Nat):∀n,(be w n).length=w:=by
 induction w with
 |zero=>intro n;rfl
 |succ w a=>intro n;simp[be,a]
end
namespace cq
open Go.RowKit
def dG(l:List Int)(x:Int):List Int:=l.filter (·!= x)
def eP:List Int->Int->List Int
 | [],x=>[x]
 |y::r,x=>if x<y then x::y::r else y::eP r x
def wX(l:List Int)(x:Int):(eP l x).length=l.length+1:=by
 induction l with
 |nil=>rfl
 |cons y r a=>unfold eP;split<;>simp[a]
def ez(l:List Int)(x:Int):Int×Bool:=
 match l.find? (λy=>decide (x<=y))with
 |some y=>(y,true)
 |none=>match l with
  | []=>(0,false)
  |y::_=>(y,true)
def bm(ws:List Nat)(i:Nat):Bool:=(ws.getD (i/64) 0).testBit (i%64)
def k5(ws:List Nat)(i:Nat):List Nat:=ws.set (i/64) (ws.getD (i/64) 0|||2^(i%64))
def gQ(x b:Nat):Nat:=x^^^(x&&&2^b)
def eA(ws:List Nat)(i:Nat):List Nat:=ws.set (i/64) (gQ (ws.getD (i/64) 0) (i%64))
def mN(x b j:Nat):(gQ x b).testBit j=(x.testBit j&&decide (j≠b)):=by
 simp only[gQ,Nat.testBit_xor,JU,JV];by_cases h:b=j
 ·simp[h]
 ·have a:j≠b:=λe=>h e.symm;simp[h,a]
def yx(x b:Nat):gQ x b<=x:=by
 have h:gQ x b&&&x=gQ x b:=by
  apply JC;intro i;simp only[JU,mN];cases x.testBit i<;>simp
 rw[<-h];exact Nat.and_le_right
def mO(ws:List Nat)(i j:Nat)(hi:i/64<ws.length):bm (k5 ws i) j=(bm ws j||decide (j=i)):=by
 unfold bm k5;by_cases h:j/64=i/64
 ·rw[h];have:((ws.set (i/64) (ws.getD (i/64) 0|||2^(i%64))).getD (i/64) 0)=ws.getD (i/64) 0|||2^(i%64):=by
   simp[List.getD,hi]
  rw[this,Nat.testBit_or,JV];congr 1;rw[IQ];omega
 ·have:((ws.set (i/64) (ws.getD (i/64) 0|||2^(i%64))).getD (j/64) 0)=ws.getD (j/64) 0:=by
   simp only[List.getD];rw[HL (λe=>h e.symm)]
  rw[this];have a:decide (j=i)=false:=by simp;rintro rfl;exact h rfl
  simp[a]
def qo(ws:List Nat)(i j:Nat):bm (eA ws i) j=(bm ws j&&decide (j≠i)):=by
 unfold bm eA;by_cases hi:i/64<ws.length
 ·by_cases h:j/64=i/64
  ·rw[h];have:((ws.set (i/64) (gQ (ws.getD (i/64) 0) (i%64))).getD (i/64) 0)=gQ (ws.getD (i/64) 0) (i%64):=by
    simp[List.getD,hi]
   rw[this,mN];congr 1;rw[IQ];omega
  ·have:((ws.set (i/64) (gQ (ws.getD (i/64) 0) (i%64))).getD (j/64) 0)=ws.getD (j/64) 0:=by
    simp only[List.getD];rw[HL (λe=>h e.symm)]
   rw[this];have a:decide (j≠i)=true:=by simp;rintro rfl;exact h rfl
   simp[a]
 ·rw[La (by omega)];by_cases h:j=i
  ·subst h;have:ws.getD (j/64) 0=0:=by simp[List.getD,H_ (by omega:ws.length<=j/64)]
   simp only[this];simp
  ·simp[h]
abbrev Lv:=Nat->List Nat
def upd(L:Lv)(l:Nat)(ws:List Nat):Lv:=λj=>if j=l then ws else L j
def hP(L:Lv):Nat->Nat->Lv
 |0,_=>L
 |l+1,i=>hP (upd L l (k5 (L l) i)) l (i/64)
def dp(L:Lv):Nat->Nat->Lv
 |0,_=>L
 |l+1,i=>let a:=upd L l (eA (L l) i);if(a l).getD (i/64) 0≠0 then a else dp a l (i/64)
def wY(l:Nat):∀(L:Lv) (i j:Nat),hP L l i j=if j<l then k5 (L j) (i/64^(l-1-j))else L j:=by
 induction l with
 |zero=>intro L i j;simp[hP]
 |succ l b=>
  intro L i j;rw[hP,b];by_cases h:j<l
  ·rw[Hl h,Hl (by omega)];have c:upd L l (k5 (L l) i) j=L j:=by unfold upd;rw[Hk (by omega)]
   rw[c];have:64^(l+1-1-j)=64*64^(l-1-j):=by
    rw[<-Nat.pow_succ'];congr 1;omega
   rw[this,IS]
  ·rw[Hk h];by_cases a:j=l
   ·subst a;rw[Hl (by omega)];simp[upd]
   ·rw[Hk (by omega)];unfold upd;rw[Hk a]
structure Ok (k:Nat) (L:Lv) (m:List Int):Prop where
 k1:1<=k
 len:∀j,j<k->(L j).length=64^j
 e9:∀j,j<k->∀x∈L j,x<18446744073709551616
 leaf:∀i,i<64^k->bm (L (k-1)) i=decide ((i:Int)∈m)
 up:∀j,j+1<k->∀i,i<64^(j+1)->bm (L j) i=((L (j+1)).getD i 0 != 0)
 mem:∀z∈m,0<=z/\z<((64^k:Nat):Int)
 sorted:m.Pairwise (·< ·)
def hB(l:List Int)(x z:Int):z∈eP l x↔z=x\/z∈l:=by
 induction l with
 |nil=>simp[eP]
 |cons y r a=>
  unfold eP;split
  ·simp
  ·simp[a];constructor<;>(rintro(h|h|h)<;>simp[h])
def rK(l:List Int)(x:Int)(h:l.Pairwise (·< ·))(b:x∉l):(eP l x).Pairwise (·< ·):=by
 induction l with
 |nil=>simp[eP]
 |cons y r d=>
  obtain⟨c,f⟩:=HJ.1 h;have g:x≠y:=λe=>b (by simp[e]);unfold eP;split
  ·rename_i a;refine HJ.2 ⟨λz hz=> ?_,h⟩;rcases Ho.1 hz with rfl|hz
   ·exact a
   ·have:=c z hz;omega
  ·refine HJ.2 ⟨λz hz=> ?_,d f (λe=>b (by simp[e]))⟩;rcases(hB _ _ _).1 hz with rfl|hz
   ·omega
   ·exact c z hz
def p9(l:List Int)(x:Int)(h:l.Pairwise (·< ·)):(dG l x).Pairwise (·< ·):=h.filter _
def hQ(l:List Int)(x z:Int):z∈dG l x↔z∈l/\z≠x:=by simp[dG]
def yy(x:Nat):(x != 0)=true↔∃b,x.testBit b=true:=by
 constructor
 ·intro h;have:x≠0:=by simpa using h
  exact Nat.exists_testBit_of_ne_zero this
 ·rintro⟨b,a⟩;have:x≠0:=by rintro rfl;simp at a
  simpa using this
def om(x b:Nat)(a:x<18446744073709551616)(h:x.testBit b=true):b<64:=by
 apply Nat.lt_of_not_le;intro hle;have:x<2^b:=HP a (by have:=ID (n:=2) (by decide) hle;simpa using this);rw[Lb this]at h
 cases h
def qp(l:List Nat)(i:Nat)(h:i<l.length):l.getD i 0∈l:=by simp[List.getD,h]
def oK(ws:List Nat)(i:Nat)(hi:i<ws.length)(d:∀x∈ws,x<18446744073709551616):(ws.getD i 0 != 0)=true↔∃b,b<64/\bm ws (64*i+b)=true:=by
 rw[yy];constructor
 ·rintro⟨b,a⟩;have c:=om _ b (d _ (qp ws i hi)) a;exact⟨b,c,by unfold bm;rw[show(64*i+b)/64=i by omega,show(64*i+b)%64=b by omega];exact a⟩
 ·rintro⟨b,a,h⟩;unfold bm at h;rw[show(64*i+b)/64=i by omega,show(64*i+b)%64=b by omega]at h;exact⟨b,h⟩
def sU(ws:List Nat)(i v:Nat)(a:∀x∈ws,x<18446744073709551616)(b:v<18446744073709551616):∀x∈ws.set i v,x<18446744073709551616:=by
 intro x c;rcases Il c with h|h
 ·exact a x h
 ·rw[h];exact b
def dQ(ws:List Nat)(i:Nat)(a:∀x∈ws,x<18446744073709551616):ws.getD i 0<18446744073709551616:=by
 by_cases h:i<ws.length
 ·exact a _ (qp ws i h)
 ·simp[List.getD,H_ (by omega:ws.length<=i)]
def mP(ws:List Nat)(i:Nat)(a:∀x∈ws,x<18446744073709551616):∀x∈k5 ws i,x<18446744073709551616:=by
 refine sU _ _ _ a ?_;have b:2^(i%64)<2^64:=Jb (by decide) (Iw _ (by decide));exact Nat.or_lt_two_pow (n:=64) (dQ ws _ a) b
def qq(ws:List Nat)(i:Nat)(a:∀x∈ws,x<18446744073709551616):∀x∈eA ws i,x<18446744073709551616:=
 sU _ _ _ a (IL (yx _ _) (dQ ws _ a))
def lp(j k:Nat)(h:j<k):64^k=64^(j+1)*64^(k-1-j):=by rw[<-Jl];congr 1;omega
def div_lt(i j k:Nat)(hi:i<64^k)(h:j<k):i/64^(k-1-j)<64^(j+1):=by
 rw[Ka (Jm (by decide)),<-lp j k h];exact hi
def wZ(i j k:Nat)(h:j+1<k):i/64^(k-1-(j+1))/64=i/64^(k-1-j):=by
 rw[IS,<-Ij];congr 2;omega
def Ok.put{k:Nat}{L:Lv}{m:List Int}(h:Ok k L m)(i:Nat)(hi:i<64^k)(o:(i:Int)∉m):Ok k (hP L k i) (eP m i):=by
 have k1:=h.k1;have d:∀j,j<k->hP L k i j=k5 (L j) (i/64^(k-1-j)):=λj a=>by rw[wY,Hl a]
 have c:∀j,j<k->i/64^(k-1-j)/64<(L j).length:=λj a=>by
  rw[h.len j a];have:=div_lt i j k hi a;rw[Ij,IY]at this
  omega
 refine⟨k1,λj a=> ?_,λj a=> ?_,λz hz=> ?_,λj a z hz=> ?_,λz hz=> ?_,rK _ _ h.sorted o⟩
 ·rw[d j a];simp[k5,h.len j a]
 ·rw[d j a];exact mP _ _ (h.e9 j a)
 ·rw[d (k-1) (by omega),mO _ _ _ (c (k-1) (by omega)),h.leaf z hz];have e:i/64^(k-1-(k-1))=i:=by simp
  rw[e];by_cases f:z=i
  ·subst f;simp[hB]
  ·have:¬((z:Int)=(i:Int)):=by omega
   simp[hB,f,this]
 ·rw[d j (by omega),d (j+1) a,mO _ _ _ (c j (by omega)),h.up j a z hz,Kh];have g:z<(L (j+1)).length:=by rw[h.len _ a];exact hz
  rw[oK (k5 _ _) z (by simp[k5];exact g) (mP _ _ (h.e9 _ a)),I1,oK _ z g (h.e9 _ a)];simp only[mO _ _ _ (c (j+1) a),I1,HI];have n:=wZ i j k a;constructor
  ·rintro(⟨b,l,h⟩|h)
   ·exact⟨b,l,.inl h⟩
   ·exact⟨i/64^(k-1-(j+1))%64,Iw _ (by decide),.inr (by rw[h,<-n];omega)⟩
  ·rintro⟨b,l,h|h⟩
   ·exact .inl ⟨b,l,h⟩
   ·exact .inr (by rw[<-n];omega)
 ·rcases(hB _ _ _).1 hz with rfl|hz
  ·omega
  ·exact h.mem z hz
structure yz (k l:Nat) (L:Lv) (m:List Int) (i:Nat):Prop where
 len:∀j,j<k->(L j).length=64^j
 e9:∀j,j<k->∀x∈L j,x<18446744073709551616
 leaf:∀z,z<64^k->(l=k->z≠i)->bm (L (k-1)) z=decide ((z:Int)∈m)
 up:∀j,j+1<k->∀z,z<64^(j+1)->(l=j+1->z≠i)->bm (L j) z=((L (j+1)).getD z 0 != 0)
 empty:l<k->(L l).getD i 0=0
 gone:l=k->(i:Int)∉m
 bA:i<64^l
def yz.done{k l:Nat}(u:l<k):∀ {L:Lv} {m:List Int} {i:Nat},yz k (l+1) L m i->
    let a:=upd L l (eA (L l) i)
    ((a l).getD (i/64) 0≠0->(∀j,j<k->(a j).length=64^j)/\(∀j,j<k->∀x∈a j,x<18446744073709551616)/\(∀z,z<64^k->bm (a (k-1)) z=decide ((z:Int)∈m))/\
      (∀j,j+1<k->∀z,z<64^(j+1)->bm (a j) z=((a (j+1)).getD z 0 != 0)))/\
    ((a l).getD (i/64) 0=0->yz k l a m (i/64)):=by
 intro L m i h a;have f:a l=eA (L l) i:=by simp[a,upd]
 have b:∀j,j≠l->a j=L j:=λj c=>by simp[a,upd,c]
 have hlen:∀j,j<k->(a j).length=64^j:=λj c=>by
  by_cases e:j=l
  ·subst e;rw[f];simp[eA,h.len j c]
  ·rw[b j e];exact h.len j c
 have o:∀j,j<k->∀x∈a j,x<18446744073709551616:=λj c=>by
  by_cases e:j=l
  ·subst e;rw[f];exact qq _ _ (h.e9 j c)
  ·rw[b j e];exact h.e9 j c
 have hi:=h.bA;have g:∀z,z<64^k->bm (a (k-1)) z=decide ((z:Int)∈m):=λz hz=>by
  by_cases e:k-1=l
  ·rw[e,f,qo];by_cases d:z=i
   ·subst d;simp[h.gone (by omega)]
   ·rw[<-e,h.leaf z hz (λ_=>d)];simp[d]
  ·rw[b _ e];exact h.leaf z hz (λy=>by omega)
 have p:∀j,j+1<k->∀z,z<64^(j+1)->(l=j+1->z≠i/64)->bm (a j) z=((a (j+1)).getD z 0 != 0):=λj c z hz r=>by
  by_cases e:j=l
  ·subst e;rw[f,b (j+1) (by omega),qo];by_cases d:z=i
   ·subst d;have:=h.empty c;rw[this];simp
   ·rw[h.up j c z hz (λ_=>d)];simp[d]
  ·by_cases q:j+1=l
   ·subst q;have n:=r rfl;rw[b j (by omega),f,h.up j c z hz (λe=>by omega)];congr 1;simp only[eA,List.getD];rw[HL (λe=>n e.symm)]
   ·rw[b j e,b (j+1) q];exact h.up j c z hz (λe=>by omega)
 refine⟨λhw=>⟨hlen,o,g,λj c z hz=> ?_⟩,λhw=>⟨hlen,o,λz hz _=>g z hz,p,λ_=>hw,λe=>absurd e (by omega),by rw[Ij]at hi;omega⟩⟩;by_cases q:j+1=l
 ·by_cases n:z=i/64
  ·subst n;have v:(a (j+1)).getD (i/64) 0≠0:=by rw[q];exact hw
   have w:bm (a j) (i/64)=true:=by
    rw[b j (by omega),h.up j c _ hz (λe=>by omega)];have:(L (j+1)).getD (i/64) 0≠0:=by
     intro s;apply hw;rw[f];have t:i/64<(L l).length:=by rw[h.len l u];rw[Ij]at hi;omega
     rw[q]at s
     simp only[eA,List.getD,H8 t];simp only[List.getD]at s;simp[s,gQ]
    simpa using this
   rw[w];symm;simpa using v
  ·exact p j c z hz (λ_=>n)
 ·exact p j c z hz (λe=>absurd e.symm q)
def uo(k:Nat)(k1:1<=k):∀(l:Nat) (L:Lv) (m:List Int) (i:Nat),l<=k->yz k l L m i->
    (∀j,j<k->(dp L l i j).length=64^j)/\(∀j,j<k->∀x∈dp L l i j,x<18446744073709551616)/\(∀z,z<64^k->bm (dp L l i (k-1)) z=decide ((z:Int)∈m))/\
     (∀j,j+1<k->∀z,z<64^(j+1)->bm (dp L l i j) z=((dp L l i (j+1)).getD z 0 != 0)):=by
 intro l;induction l with
 |zero=>
  intro L m i _ h;exact⟨h.len,h.e9,λz hz=>h.leaf z hz (λe=>by omega),λj b z hz=>h.up j b z hz (λe=>by omega)⟩
 |succ l c=>
  intro L m i d h;obtain⟨ha,a⟩:=yz.done (by omega) h;unfold dp;dsimp only at ha a ⊢;split
  ·rename_i hw;exact ha hw
  ·rename_i hw;exact c _ _ _ (by omega) (a (by simpa using hw))
def Ok.drop{k:Nat}{L:Lv}{m:List Int}(h:Ok k L m)(i:Nat)(hi:i<64^k)(_hn:(i:Int)∈m):Ok k (dp L k i) (dG m i):=by
 obtain⟨a,b,c,d⟩:=uo k h.k1 k L (dG m i) i (Hm _)
    ⟨h.len,h.e9,λz hz f=>by
     have g:=f rfl;have:¬((z:Int)=(i:Int)):=by omega
     rw[h.leaf z hz];simp[hQ,this],
     λj l z hz _=>h.up j l z hz,λe=>by omega,λ_=>by simp[hQ],hi⟩
 exact⟨h.k1,a,b,c,d,λz hz=>h.mem z ((hQ _ _ _).1 hz).1,p9 _ _ h.sorted⟩
def kz(x:Nat)(a:x≠0)(b:x<18446744073709551616):Lib.ctz 64 x<64/\x.testBit (Lib.ctz 64 x)=true/\∀j,j<Lib.ctz 64 x->x.testBit j=false:=by
 obtain⟨m,hm,d⟩:=Lib.ctzFrom_spec 64 x (by omega) b;have e:Lib.ctz 64 x=Lib.ctzFrom 64 x:=by simp[Lib.ctz,a]
 rw[e];generalize Lib.ctzFrom 64 x=c at*;subst hm;refine⟨d,?_,λj f=> ?_⟩
 ·rw[IY,Lc];simp[Nat.testBit_zero]
 ·rw[IY,Lc];simp;omega
def AN(f:Nat->Bool)(N i:Nat)(r:Int):Prop:=
 (r= -1/\∀z,i<=z->z<N->f z=false)\/(∃a:Nat,r=a/\i<=a/\a<N/\f a=true/\∀z,i<=z->z<a->f z=false)
def cT(L:Lv):Nat->Nat->Int
 |l,i=>if 64*(L l).length<=i then -1 else
  if(L l).getD (i/64) 0>>>(i%64)≠0 then(i:Int)+Lib.ctz 64 ((L l).getD (i/64) 0>>>(i%64))else
  match l with
  |0=> -1
  |a+1=>if cT L a (i/64+1)<0 then -1 else 64*cT L a (i/64+1)+Lib.ctz 64 ((L (a+1)).getD (cT L a (i/64+1)).toNat 0)
def iK(x s b:Nat):(x>>>s).testBit b=x.testBit (s+b):=by rw[Ld]
def oL{k:Nat}{L:Lv}(hlen:∀j,j<k->(L j).length=64^j)(f:∀j,j<k->∀x∈L j,x<18446744073709551616)
    (o:∀j,j+1<k->∀z,z<64^(j+1)->bm (L j) z=((L (j+1)).getD z 0 != 0)):∀(l i:Nat),l<k->AN (bm (L l)) (64^(l+1)) i (cT L l i):=by
 intro l;induction l with
 |zero=>
  intro i m;have v:=hlen 0 m;simp only[Nat.pow_zero]at v;unfold cT;rw[v];split
  ·exact .inl ⟨rfl,λz a b=>by simp at b;omega⟩
  ·rename_i hi;have i0:i/64=0:=by omega
   have F:i%64=i:=by omega
   rw[i0,F];have q:=dQ (L 0) 0 (f 0 m);split
   ·rename_i hw;obtain⟨c1,n,r⟩:=kz _ hw (IL (JW _ _) q);generalize Lib.ctz 64 ((L 0).getD 0 0>>>i)=c at*;rw[iK]at n
    have w:=om _ _ q n;refine .inr ⟨i+c,by omega,by omega,by simp;omega,?_,λz a b=> ?_⟩
    ·unfold bm;rw[show(i+c)/64=0 by omega,show(i+c)%64=i+c by omega];exact n
    ·have:=r (z-i) (by omega);rw[iK,show i+(z-i)=z by omega]at this
     unfold bm;rw[show z/64=0 by omega,show z%64=z by omega];exact this
   ·rename_i hw;refine .inl ⟨rfl,λz a b=> ?_⟩;have p:(L 0).getD 0 0>>>i=0:=by simpa using hw
    have:((L 0).getD 0 0>>>i).testBit (z-i)=false:=by rw[p];simp
    rw[iK,show i+(z-i)=z by omega]at this
    simp at b;unfold bm;rw[show z/64=0 by omega,show z%64=z by omega];exact this
 |succ l G=>
  intro i m;have v:=hlen (l+1) m;have s:64^(l+1+1)=64*64^(l+1):=by rw[Ij,IY]
  have t:=G (i/64+1) (by omega);unfold cT;rw[v,s];split
  ·exact .inl ⟨rfl,λz a b=>by omega⟩
  ·rename_i hi;have q:=dQ (L (l+1)) (i/64) (f _ m);split
   ·rename_i hw;obtain⟨c1,n,r⟩:=kz _ hw (IL (JW _ _) q);generalize Lib.ctz 64 ((L (l+1)).getD (i/64) 0>>>(i%64))=c at*;rw[iK]at n
    have w:=om _ _ q n;refine .inr ⟨i+c,by omega,by omega,by omega,?_,λz a b=> ?_⟩
    ·unfold bm;rw[show(i+c)/64=i/64 by omega,show(i+c)%64=i%64+c by omega];exact n
    ·have:=r (z-i) (by omega);rw[iK,show i%64+(z-i)=z%64 by omega]at this
     unfold bm;rw[show z/64=i/64 by omega];exact this
   ·rename_i hw;have p:(L (l+1)).getD (i/64) 0>>>(i%64)=0:=by simpa using hw
    have g:∀z,i<=z->z/64=i/64->bm (L (l+1)) z=false:=λz a e=>by
     have:((L (l+1)).getD (i/64) 0>>>(i%64)).testBit (z-i)=false:=by rw[p];simp
     rw[iK,show i%64+(z-i)=z%64 by omega]at this
     unfold bm;rw[e];exact this
    have h:∀z,z<64*64^(l+1)->(L (l+1)).getD (z/64) 0=0->bm (L (l+1)) z=false:=λz b e=>by unfold bm;rw[e];simp
    rcases t with⟨y,A⟩|⟨a,y,H,B,u,C⟩
    ·dsimp only;rw[y,Hl (by omega)];refine .inl ⟨rfl,λz a b=> ?_⟩;by_cases e:z/64=i/64
     ·exact g z a e
     ·have:=A (z/64) (by omega) (by omega);rw[o l m _ (by omega)]at this
      exact h z b (by simpa using this)
    ·dsimp only;rw[y,Hk (by omega)];have D:(L (l+1)).getD a 0≠0:=by
      rw[o l m _ B]at u;simpa using u
     have E:=dQ (L (l+1)) a (f _ m);obtain⟨c1,n,r⟩:=kz _ D E;simp only[HZ];generalize Lib.ctz 64 ((L (l+1)).getD a 0)=c at*;refine .inr ⟨64*a+c,by omega,by omega,by omega,?_,λz b d=> ?_⟩
     ·unfold bm;rw[show(64*a+c)/64=a by omega,show(64*a+c)%64=c by omega];exact n
     ·by_cases e:z/64=i/64
      ·exact g z b e
      ·by_cases I:z/64=a
       ·have:=r (z%64) (by omega);unfold bm;rw[I];exact this
       ·have:=C (z/64) (by omega) (by omega);rw[o l m _ (by omega)]at this
        exact h z (by omega) (by simpa using this)
def hb(m:List Int)(i:Int):Int:=(m.find? (λy=>decide (i<=y))).getD (-1)
def Ok.yA{k:Nat}{L:Lv}{m:List Int}(h:Ok k L m)(i:Nat):cT L (k-1) i=hb m i:=by
 have k1:=h.k1;have:=oL h.len h.e9 h.up (k-1) i (by omega);rw[show k-1+1=k by omega]at this
 unfold hb;cases hf:m.find? (λy=>decide ((i:Int)<=y))with
 |none=>
  rcases this with⟨g,_⟩|⟨a,g,p,f,c,_⟩
  ·exact g
  ·rw[h.leaf a f]at c
   have:=JD.1 hf a (by simpa using c);simp at this;omega
 |some y=>
  obtain⟨hy,u,l2,hm,j⟩:=Le.1 hf;have t:(i:Int)<=y:=by simpa using hy
  have l:y∈m:=by rw[hm];simp
  obtain⟨v,w⟩:=h.mem y l;obtain⟨n,rfl⟩:∃n:Nat,y=n:=⟨y.toNat,by omega⟩
  simp only[I3];have b:bm (L (k-1)) n=true:=by rw[h.leaf n (by omega)];simpa using l
  rcases this with⟨g,q⟩|⟨a,g,p,f,c,r⟩
  ·rw[q n (by omega) (by omega)]at b;cases b
  ·rw[g];have x:¬n<a:=λe=>by rw[r n (by omega) e]at b;cases b
   have o:(a:Int)∈m:=by rw[h.leaf a f]at c;simpa using c
   have s:=h.sorted;rw[hm]at o s
   rcases Hu.1 o with d|d
   ·have:=j _ d;simp at this;omega
   ·rcases Ho.1 d with e|d
    ·exact e
    ·have:=(HJ.1 (IN.1 s).2.1).1 _ d;omega
end cq
section
def ad(N a d:Nat):Nat:=if a+d<N then a+d else a+d-N
def dst(N a b:Nat):Nat:=if a<=b then b-a else b+N-a
def fG{N a d:Nat}(ha:a<N)(hd:d<N):ad N a d<N:=by unfold ad;split<;>omega
def yB{N a:Nat}(ha:a<N):ad N a 0=a:=by unfold ad;split<;>omega
def rL{N a b:Nat}(ha:a<N)(c:b<N):dst N a b<N:=by unfold dst;split<;>omega
def rM{N a b:Nat}(ha:a<N)(c:b<N):ad N a (dst N a b)=b:=by unfold ad dst;split<;>split<;>omega
def rN{N a d:Nat}(ha:a<N)(hd:d<N):dst N a (ad N a d)=d:=by unfold ad dst;split<;>split<;>omega
def Ds{N a d e:Nat}(ha:a<N)(h:d+e<N):ad N (ad N a d) e=ad N a (d+e):=by unfold ad;split<;>split<;>split<;>omega
section
variable {V:Type}
abbrev bB(V:Type):=List (Option (Nat×V))
def bW(S:bB V)(i:Nat):Option (Nat×V):=S.getD i none
def j4(S:bB V)(p i:Nat)(e:Option (Nat×V))(hp:p<S.length):bW (S.set p e) i=if i=p then e else bW S i:=by
 unfold bW;by_cases h:i=p
 ·subst h;rw[Hl rfl,Hx,H8 hp];rfl
 ·rw[Hk h,Hx,HL (λx=>h x.symm),Hx]
structure gi (hm:Nat->Nat) (S:bB V):Prop where
 home:∀id,hm id<S.length
 path:∀i id x,i<S.length->bW S i=some (id,x)->∀d,d<dst S.length (hm id) i->bW S (ad S.length (hm id) d)≠none
 one:∀i j id x y,i<S.length->j<S.length->bW S i=some (id,x)->bW S j=some (id,y)->i=j
structure gR (hm:Nat->Nat) (S:bB V) (id d:Nat):Prop where
 lt:d<S.length
 AO:∀e,e<d->∃k x,bW S (ad S.length (hm id) e)=some (k,x)/\k≠id
 fin:bW S (ad S.length (hm id) d)=none\/∃x,bW S (ad S.length (hm id) d)=some (id,x)
def gR.j5{hm:Nat->Nat}{S:bB V}(h:gi hm S){id d:Nat}(f:gR hm S id d)(b:bW S (ad S.length (hm id) d)=none)(i:Nat)(x:V)(hi:i<S.length):bW S i≠some (id,x):=by
 intro he;have hp:=h.path i id x hi he;have hd:=rM (h.home id) hi;have g:=rL (h.home id) hi;rcases Ki d (dst S.length (hm id) i)with a|a|a
 ·exact hp d a b
 ·rw[a,hd,he]at b;cases b
 ·obtain⟨k,y,c,e⟩:=f.AO _ a;rw[hd,he]at c
  simp only[Option.some.injEq,Prod.mk.injEq]at c;exact e c.1.symm
def gR.unique{hm:Nat->Nat}{S:bB V}{id d e:Nat}(f:gR hm S id d)(g:gR hm S id e):d=e:=by
 rcases Ki d e with h|h|h
 ·obtain⟨k,x,a,c⟩:=g.AO d h;rcases f.fin with b|⟨y,b⟩
  ·rw[b]at a;cases a
  ·rw[b]at a;simp only[Option.some.injEq,Prod.mk.injEq]at a;exact absurd a.1.symm c
 ·exact h
 ·obtain⟨k,x,a,c⟩:=f.AO e h;rcases g.fin with b|⟨y,b⟩
  ·rw[b]at a;cases a
  ·rw[b]at a;simp only[Option.some.injEq,Prod.mk.injEq]at a;exact absurd a.1.symm c
def gi.put{hm:Nat->Nat}{S:bB V}(h:gi hm S){id d:Nat}(f:gR hm S id d)(q:bW S (ad S.length (hm id) d)=none)(x:V):gi hm (S.set (ad S.length (hm id) d) (some (id,x))):=by
 have hp:=fG (h.home id) f.lt;have g:=f.j5 h q;generalize l:ad S.length (hm id) d=p at*;constructor
 ·intro k;rw[Hr];exact h.home k
 ·intro i k y hi he e c;rw[Hr]at hi c ⊢
  rw[j4 S p _ _ hp];split
  ·simp
  ·rename_i r;rw[j4 S p _ _ hp]at he
   split at he
   ·rename_i m;simp only[Option.some.injEq,Prod.mk.injEq]at he;obtain⟨rfl,rfl⟩:=he;subst m;rw[<-l,rN (h.home id) f.lt]at c
    obtain⟨k,y,o,_⟩:=f.AO e c;rw[o];simp
   ·exact h.path i k y hi he e c
 ·intro i j k y z hi n b a;rw[Hr]at hi n
  rw[j4 S p _ _ hp]at b a
  split at b
  ·rename_i s;split at a
   ·rename_i o;omega
   ·simp only[Option.some.injEq,Prod.mk.injEq]at b;obtain⟨rfl,rfl⟩:=b;exact absurd a (g j z n)
  ·split at a
   ·simp only[Option.some.injEq,Prod.mk.injEq]at a;obtain⟨rfl,rfl⟩:=a;exact absurd b (g i y hi)
   ·exact h.one i j k y z hi n b a
def bw(S:bB V):List (Nat×V):=S.filterMap id
def j6(S:bB V)(p:Nat)(hp:p<S.length)(e:Option (Nat×V)):bw (S.set p e)=(S.take p).filterMap id++e.toList++(S.drop (p+1)).filterMap id:=by
 unfold bw;rw[List.set_eq_take_append_cons_drop,Hl hp,List.filterMap_append];cases e with
 |none=>simp
 |some e=>simp
def lq(S:bB V)(p:Nat)(hp:p<S.length):bw S=(S.take p).filterMap id++(bW S p).toList++(S.drop (p+1)).filterMap id:=by
 have h:=j6 S p hp S[p];rw[KJ]at h
 rw[h];unfold bW;rw[Hx,Hn hp];rfl
def qt(S:bB V)(p:Nat)(hp:p<S.length)(a:bW S p=none)(e:Nat×V):(bw (S.set p (some e))).Perm (e::bw S):=by
 rw[j6 S p hp,lq S p hp,a];simp only[Option.toList_some,Option.toList_none,HH,Ir,KK];exact II
def gw(S:bB V)(e:Nat×V):e∈bw S↔∃i,i<S.length/\bW S i=some e:=by
 unfold bw;rw[List.mem_filterMap];constructor
 ·rintro⟨o,a,he⟩;obtain⟨i,hi,rfl⟩:=JX.1 a;exact⟨i,hi,by unfold bW;rw[Hx,Hn hi];simpa using he⟩
 ·rintro⟨i,hi,he⟩;unfold bW at he;rw[Hx,Hn hi]at he
  exact⟨S[i],Ht hi,by simpa using he⟩
def w2(S:bB V):(bw S).length<=S.length:=List.length_filterMap_le _ _
def unused(S:bB V)(h:(bw S).length<S.length):∃i,i<S.length/\bW S i=none:=by
 refine Classical.byContradiction λd=> ?_;have:(bw S).length=S.length:=by
  unfold bw;have a:∀o∈S,∃e,o=some e:=λo b=>by
   obtain⟨i,hi,rfl⟩:=JX.1 b;cases c:S[i]with
   |none=>exact absurd ⟨i,hi,by unfold bW;rw[Hx,Hn hi,c];rfl⟩ d
   |some e=>exact⟨e,rfl⟩
  clear h d;induction S with
  |nil=>rfl
  |cons o r f=>
   obtain⟨e,rfl⟩:=a o HX;simp only[List.filterMap_cons,id_eq,Hs];rw[f (λo b=>a o (Iz _ b))]
 omega
end
end
section
def w4(x:Int)(k:Nat)(f:k<63):bits .and .i64 x ((2:Int)^k-1)=x%2^k:=by
 have hp:(2:Nat)^k<=2^62:=ID (by decide) (by omega);have a:0<(2:Nat)^k:=Jm (by decide);have b:((2:Int)^k-1)=((2^k-1:Nat):Int):=by
  have:((2^k:Nat):Int)=(2:Int)^k:=by simp
  omega
 have c:(BitVec.ofInt 64 ((2^k-1:Nat):Int)).toNat=2^k-1:=by
  rw[KL,Kj];exact IH (by omega)
 have d:((BitVec.ofInt 64 x).toNat:Int)=x%2^64:=by
  rw[BitVec.toNat_ofInt];omega
 rw[b];show IntKind.i64.wrap ((BitVec.ofInt 64 x&&&BitVec.ofInt 64 ((2^k-1:Nat):Int)).toNat:Int)=_;rw[BitVec.toNat_and,c,KM];have e:(BitVec.ofInt 64 x).toNat%2^k<2^k:=Iw _ a;rw[I4 _ (by omega)];have:(((BitVec.ofInt 64 x).toNat%2^k:Nat):Int)=((BitVec.ofInt 64 x).toNat:Int)%((2^k:Nat):Int):=by simp
 rw[this,d];have hd:((2^k:Nat):Int)∣2^64:=by
  have:(2:Nat)^k∣2^64:=Nat.pow_dvd_pow 2 (by omega);have:=Int.natCast_dvd_natCast.2 this;simpa using this
 rw[Int.emod_emod_of_dvd _ hd];simp
def Pw(N:Nat):Prop:=∃k,k<62/\N=2^k
def qv(N:Nat)(h:Pw N)(x:Nat):bits .and .i64 (x:Int) ((N:Int)-1)=((x%N:Nat):Int):=by
 obtain⟨k,a,rfl⟩:=h;have:=w4 x k (by omega);simpa using this
def uq(N:Nat)(h:Pw N)(a:Nat)(ha:a<N):bits .and .i64 ((a:Int)+1) ((N:Int)-1)=(ad N a 1:Nat):=by
 have:=qv N h (a+1);rw[show((a+1:Nat):Int)=(a:Int)+1 by omega]at this
 rw[this];unfold ad;split
 ·rw[IH (by omega)]
 ·have:a+1=N:=by omega
  rw[this,Nat.mod_self,Jn]
def aQ(N id:Nat):Nat:=id*2654435769%4294967296/128%N
def cQ(N id:Nat)(h:0<N):aQ N id<N:=Iw _ h
def ur(N:Nat)(h:Pw N)(id:Nat):bits .and .i64 (((id:Int)*2654435769%4294967296)/128) ((N:Int)-1)=(aQ N id:Nat):=by
 have:=qv N h (id*2654435769%4294967296/128);have e:((id*2654435769%4294967296/128:Nat):Int)=((id:Int)*2654435769%4294967296)/128:=by omega
 rw[e]at this
 exact this
def Pw.pos{N:Nat}(h:Pw N):0<N:=by obtain⟨k,_,rfl⟩:=h;exact Jm (by decide)
end
section
def least{P:Nat->Prop}(n:Nat)(h:P n):∃d,d<=n/\P d/\∀e,e<d->¬P e:=by
 induction n using Nat.strongRecOn with
 |_ n g=>
  by_cases f:∃m,m<n/\P m
  ·obtain⟨m,i,j⟩:=f;obtain⟨d,a,b,c⟩:=g m i j;exact⟨d,by omega,b,c⟩
  ·exact⟨n,Hm _,h,λe he hp=>f ⟨e,he,hp⟩⟩
section
variable {V:Type}
def gR.there{hm:Nat->Nat}{S:bB V}(h:∀id,hm id<S.length)(id:Nat)(hu:∃i,i<S.length/\bW S i=none):∃d,gR hm S id d:=by
 obtain⟨i,hi,hz⟩:=hu;obtain⟨d,g,b,c⟩:=least (P:=λd=>bW S (ad S.length (hm id) d)=none\/∃x,bW S (ad S.length (hm id) d)=some (id,x)) (dst S.length (hm id) i) (.inl (by rw[rM (h id) hi];exact hz));have j:=rL (h id) hi;refine⟨d,by omega,λe he=> ?_,b⟩;have a:=c e he;cases ht:bW S (ad S.length (hm id) e)with
 |none=>exact absurd (.inl ht) a
 |some ex=>
  obtain⟨k,x⟩:=ex;refine⟨k,x,rfl,λf=>a (.inr ⟨x,?_⟩)⟩;rw[ht,f]
def gR.j7{hm:Nat->Nat}{S:bB V}(h:gi hm S){id d:Nat}(f:gR hm S id d)(x:V):bW S (ad S.length (hm id) d)=some (id,x)↔(id,x)∈bw S:=by
 have hp:=fG (h.home id) f.lt;constructor
 ·intro he;exact(gw S _).2 ⟨_,hp,he⟩
 ·intro hm;obtain⟨i,hi,he⟩:=(gw S _).1 hm;rcases f.fin with a|⟨y,a⟩
  ·exact absurd he (f.j5 h a i x hi)
  ·have:=h.one _ _ id y x hp hi a he;rw[this];exact he
def kA(n:Nat):bw (List.replicate n (none:Option (Nat×V)))=[]:=by
 unfold bw;induction n with
 |zero=>rfl
 |succ n a=>rw[JE,List.filterMap_cons];exact a
def sV(n i:Nat):bW (List.replicate n (none:Option (Nat×V))) i=none:=by
 unfold bW;rw[Hx,I2];split<;>rfl
def gi.nil{hm:Nat->Nat}(n:Nat)(h:∀id,hm id<n):gi hm (List.replicate n (none:Option (Nat×V))):=
 ⟨λid=>by rw[Ic];exact h id,λi id x _ he=>(by rw[sV]at he;cases he),λi j id x y _ _ he=>(by rw[sV]at he;cases he)⟩
def uu(S:bB V)(j:Nat)(a:j<S.length):bw (S.take (j+1))=bw (S.take j)++(bW S j).toList:=by
 unfold bw bW;rw[HQ a,List.filterMap_append,Hx,Hn a];cases S[j]<;>rfl
end
end
end Go.Proofs.YtincjochpkdnfaaGreatDoor
