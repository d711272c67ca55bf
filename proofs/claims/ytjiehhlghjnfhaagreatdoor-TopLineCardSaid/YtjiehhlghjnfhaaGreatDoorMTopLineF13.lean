/- A set of numbers as words of bits, in plain Lean (for the calendar). Printed by wip/cq.py. -/
import Derived.Test.YtjiehhlghjnfhaaGreatDoorMTopLineF0
import Derived.Lib.TrailingZeros
import Derived.Test.YtjiehhlghjnfhaaGreatDoorMTopLineF12
import Derived.Test.YtjiehhlghjnfhaaGreatDoorMTopLineF11
set_option linter.unusedVariables false
set_option linter.unusedSimpArgs false
namespace Go.Proofs.YtjiehhlghjnfhaaGreatDoor.cq
open Go.RowKit
def iy (l:List Int) (x:Int):List Int:=l.filter (·!= x)
def jY:List Int→Int→List Int
 | [],x=>[x]
 |y::r,x=>if x<y then x::y::r else y::jY r x
theorem TJ (l:List Int) (x:Int):(jY l x).length=l.length+1:=by
 induction l with
 |nil=>rfl
 |cons y r ih=>unfold jY;split<;>simp[ih]
def jC (l:List Int) (x:Int):Int×Bool:=
 match l.find? (fun y=>decide (x≤y))with
 |some y=>(y,true)
 |none=>match l with
  | []=>(0,false)
  |y::_=>(y,true)
def bF (ws:List Nat) (i:Nat):Bool:=(ws.getD (i/64) 0).testBit (i%64)
def setB (ws:List Nat) (i:Nat):List Nat:=ws.set (i/64) (ws.getD (i/64) 0|||2^(i%64))
def nS (x b:Nat):Nat:=x^^^(x&&&2^b)
def jD (ws:List Nat) (i:Nat):List Nat:=ws.set (i/64) (nS (ws.getD (i/64) 0) (i%64))
theorem Be (x b j:Nat):(nS x b).testBit j=(x.testBit j&&decide (j≠b)):=by
 simp only[nS,Nat.testBit_xor,Nat.testBit_and,Nat.testBit_two_pow];by_cases h:b=j
 ·simp[h]
 ·have h2:j≠b:=fun e=>h e.symm
  simp[h,h2]
theorem WE (x b:Nat):nS x b≤x:=by
 have h:nS x b&&&x=nS x b:=by
  apply Nat.eq_of_testBit_eq;intro i
  simp only[Nat.testBit_and,Be];cases x.testBit i<;>simp
 rw[←h];exact Nat.and_le_right
theorem Bf (ws:List Nat) (i j:Nat) (hi:i/64<ws.length):bF (setB ws i) j=(bF ws j||decide (j=i)):=by
 unfold bF setB;by_cases h:j/64=i/64
 ·rw[h];have:((ws.set (i/64) (ws.getD (i/64) 0|||2^(i%64))).getD (i/64) 0)=ws.getD (i/64) 0|||2^(i%64):=by
   simp[List.getD,hi]
  rw[this,Nat.testBit_or,Nat.testBit_two_pow];congr 1
  rw[decide_eq_decide];omega
 ·have:((ws.set (i/64) (ws.getD (i/64) 0|||2^(i%64))).getD (j/64) 0)=ws.getD (j/64) 0:=by
   simp only[List.getD];rw[List.getElem?_set_ne (fun e=>h e.symm)]
  rw[this];have hne:decide (j=i)=false:=by simp;rintro rfl;exact h rfl
  simp[hne]
theorem Hf (ws:List Nat) (i j:Nat):bF (jD ws i) j=(bF ws j&&decide (j≠i)):=by
 unfold bF jD;by_cases hi:i/64<ws.length
 ·by_cases h:j/64=i/64
  ·rw[h];have:((ws.set (i/64) (nS (ws.getD (i/64) 0) (i%64))).getD (i/64) 0)=nS (ws.getD (i/64) 0) (i%64):=by
    simp[List.getD,hi]
   rw[this,Be];congr 1
   rw[decide_eq_decide];omega
  ·have:((ws.set (i/64) (nS (ws.getD (i/64) 0) (i%64))).getD (j/64) 0)=ws.getD (j/64) 0:=by
    simp only[List.getD];rw[List.getElem?_set_ne (fun e=>h e.symm)]
   rw[this];have hne:decide (j≠i)=true:=by simp;rintro rfl;exact h rfl
   simp[hne]
 ·rw[List.set_eq_of_length_le (by omega)];by_cases h:j=i
  ·subst h;have:ws.getD (j/64) 0=0:=by simp[List.getD,List.getElem?_eq_none (by omega:ws.length≤j/64)]
   simp only[this];simp
  ·simp[h]
abbrev Lv:=Nat→List Nat
def upd (L:Lv) (l:Nat) (ws:List Nat):Lv:=fun j=>if j=l then ws else L j
def qc (L:Lv):Nat→Nat→Lv
 |0,_=>L
 |l+1,i=>qc (upd L l (setB (L l) i)) l (i/64)
def gQ (L:Lv):Nat→Nat→Lv
 |0,_=>L
 |l+1,i=>let L1:=upd L l (jD (L l) i);if(L1 l).getD (i/64) 0≠0 then L1 else gQ L1 l (i/64)
theorem TK (l:Nat):∀(L:Lv) (i j:Nat),qc L l i j=if j<l then setB (L j) (i/64^(l-1-j))else L j:=by
 induction l with
 |zero=>intro L i j;simp[qc]
 |succ l ih=>
  intro L i j;rw[qc,ih];by_cases h:j<l
  ·rw[if_pos h,if_pos (by omega)];have h1:upd L l (setB (L l) i) j=L j:=by unfold upd;rw[if_neg (by omega)]
   rw[h1];have:64^(l+1-1-j)=64*64^(l-1-j):=by
    rw[←Nat.pow_succ'];congr 1;omega
   rw[this,Nat.div_div_eq_div_mul]
  ·rw[if_neg h];by_cases h2:j=l
   ·subst h2;rw[if_pos (by omega)];simp[upd]
   ·rw[if_neg (by omega)];unfold upd;rw[if_neg h2]
structure Ok (k:Nat) (L:Lv) (m:List Int):Prop where
 k1:1≤k
 len:∀j,j<k→(L j).length=64^j
 kM:∀j,j<k→∀x∈L j,x<18446744073709551616
 leaf:∀i,i<64^k→bF (L (k-1)) i=decide ((i:Int)∈m)
 up:∀j,j+1<k→∀i,i<64^(j+1)→bF (L j) i=((L (j+1)).getD i 0 != 0)
 mem:∀z∈m,0≤z∧z<((64^k:Nat):Int)
 sorted:m.Pairwise (·< ·)
theorem oZ (l:List Int) (x z:Int):z∈jY l x↔z=x∨z∈l:=by
 induction l with
 |nil=>simp[jY]
 |cons y r ih=>
  unfold jY;split
  ·simp
  ·simp[ih];constructor<;>(rintro(h|h|h)<;>simp[h])
theorem Jb (l:List Int) (x:Int) (h:l.Pairwise (·< ·)) (hx:x∉l):(jY l x).Pairwise (·< ·):=by
 induction l with
 |nil=>simp[jY]
 |cons y r ih=>
  obtain⟨h1,h2⟩:=List.pairwise_cons.1 h;have hne:x≠y:=fun e=>hx (by simp[e])
  unfold jY;split
  ·rename_i hxy
   refine List.pairwise_cons.2 ⟨fun z hz=> ?_,h⟩;rcases List.mem_cons.1 hz with rfl|hz
   ·exact hxy
   ·have:=h1 z hz;omega
  ·refine List.pairwise_cons.2 ⟨fun z hz=> ?_,ih h2 (fun e=>hx (by simp[e]))⟩;rcases(oZ _ _ _).1 hz with rfl|hz
   ·omega
   ·exact h1 z hz
theorem F8 (l:List Int) (x:Int) (h:l.Pairwise (·< ·)):(iy l x).Pairwise (·< ·):=h.filter _
theorem qg (l:List Int) (x z:Int):z∈iy l x↔z∈l∧z≠x:=by simp[iy]
theorem WG (x:Nat):(x != 0)=true↔∃b,x.testBit b=true:=by
 constructor
 ·intro h;have:x≠0:=by simpa using h
  exact Nat.exists_testBit_of_ne_zero this
 ·rintro⟨b,hb⟩;have:x≠0:=by rintro rfl;simp at hb
  simpa using this
theorem Dl (x b:Nat) (hx:x<18446744073709551616) (h:x.testBit b=true):b<64:=by
 apply Nat.lt_of_not_le
 intro hle;have:x<2^b:=Nat.lt_of_lt_of_le hx (by have:=Nat.pow_le_pow_right (n:=2) (by decide) hle;simpa using this);rw[Nat.testBit_lt_two_pow this]at h;cases h
theorem getD_mem (l:List Nat) (i:Nat) (h:i<l.length):l.getD i 0∈l:=by simp[List.getD,h]
theorem EC (ws:List Nat) (i:Nat) (hi:i<ws.length) (hr:∀x∈ws,x<18446744073709551616):(ws.getD i 0 != 0)=true↔∃b,b<64∧bF ws (64*i+b)=true:=by
 rw[WG];constructor
 ·rintro⟨b,hb⟩;have hlt:=Dl _ b (hr _ (getD_mem ws i hi)) hb;exact⟨b,hlt,by unfold bF;rw[show(64*i+b)/64=i by omega,show(64*i+b)%64=b by omega];exact hb⟩
 ·rintro⟨b,hb,h⟩;unfold bF at h;rw[show(64*i+b)/64=i by omega,show(64*i+b)%64=b by omega]at h;exact⟨b,h⟩
theorem LC (ws:List Nat) (i v:Nat) (hr:∀x∈ws,x<18446744073709551616) (hv:v<18446744073709551616):∀x∈ws.set i v,x<18446744073709551616:=by
 intro x hx;rcases List.mem_or_eq_of_mem_set hx with h|h
 ·exact hr x h
 ·rw[h];exact hv
theorem iK (ws:List Nat) (i:Nat) (hr:∀x∈ws,x<18446744073709551616):ws.getD i 0<18446744073709551616:=by
 by_cases h:i<ws.length
 ·exact hr _ (getD_mem ws i h)
 ·simp[List.getD,List.getElem?_eq_none (by omega:ws.length≤i)]
theorem Bg (ws:List Nat) (i:Nat) (hr:∀x∈ws,x<18446744073709551616):∀x∈setB ws i,x<18446744073709551616:=by
 refine LC _ _ _ hr ?_;have h2:2^(i%64)<2^64:=Nat.pow_lt_pow_right (by decide) (Nat.mod_lt _ (by decide));exact Nat.or_lt_two_pow (n:=64) (iK ws _ hr) h2
theorem Hg (ws:List Nat) (i:Nat) (hr:∀x∈ws,x<18446744073709551616):∀x∈jD ws i,x<18446744073709551616:=
 LC _ _ _ hr (Nat.lt_of_le_of_lt (WE _ _) (iK ws _ hr))
theorem yh (j k:Nat) (h:j<k):64^k=64^(j+1)*64^(k-1-j):=by rw[←Nat.pow_add];congr 1;omega
theorem div_lt (i j k:Nat) (hi:i<64^k) (h:j<k):i/64^(k-1-j)<64^(j+1):=by
 rw[Nat.div_lt_iff_lt_mul (Nat.pow_pos (by decide)),←yh j k h];exact hi
theorem TL (i j k:Nat) (h:j+1<k):i/64^(k-1-(j+1))/64=i/64^(k-1-j):=by
 rw[Nat.div_div_eq_div_mul,←Nat.pow_succ];congr 2;omega
theorem Ok.put {k:Nat} {L:Lv} {m:List Int} (h:Ok k L m) (i:Nat) (hi:i<64^k) (hn:(i:Int)∉m):Ok k (qc L k i) (jY m i):=by
 have k1:=h.k1;have hat:∀j,j<k→qc L k i j=setB (L j) (i/64^(k-1-j)):=fun j hj=>by rw[TK,if_pos hj]
 have hword:∀j,j<k→i/64^(k-1-j)/64<(L j).length:=fun j hj=>by
  rw[h.len j hj];have:=div_lt i j k hi hj;rw[Nat.pow_succ,Nat.mul_comm]at this;omega
 refine⟨k1,fun j hj=> ?_,fun j hj=> ?_,fun z hz=> ?_,fun j hj z hz=> ?_,fun z hz=> ?_,Jb _ _ h.sorted hn⟩
 ·rw[hat j hj];simp[setB,h.len j hj]
 ·rw[hat j hj];exact Bg _ _ (h.kM j hj)
 ·rw[hat (k-1) (by omega),Bf _ _ _ (hword (k-1) (by omega)),h.leaf z hz];have e:i/64^(k-1-(k-1))=i:=by simp
  rw[e];by_cases hzi:z=i
  ·subst hzi;simp[oZ]
  ·have:¬((z:Int)=(i:Int)):=by omega
   simp[oZ,hzi,this]
 ·rw[hat j (by omega),hat (j+1) hj,Bf _ _ _ (hword j (by omega)),h.up j hj z hz,Bool.eq_iff_iff];have hl1:z<(L (j+1)).length:=by rw[h.len _ hj];exact hz
  rw[EC (setB _ _) z (by simp[setB];exact hl1) (Bg _ _ (h.kM _ hj)),Bool.or_eq_true,EC _ z hl1 (h.kM _ hj)];simp only[Bf _ _ _ (hword (j+1) hj),Bool.or_eq_true,decide_eq_true_eq];have hs:=TL i j k hj;constructor
  ·rintro(⟨b,hb,h⟩|h)
   ·exact⟨b,hb,.inl h⟩
   ·exact⟨i/64^(k-1-(j+1))%64,Nat.mod_lt _ (by decide),.inr (by rw[h,←hs];omega)⟩
  ·rintro⟨b,hb,h|h⟩
   ·exact .inl ⟨b,hb,h⟩
   ·exact .inr (by rw[←hs];omega)
 ·rcases(oZ _ _ _).1 hz with rfl|hz
  ·omega
  ·exact h.mem z hz
structure Mid (k l:Nat) (L:Lv) (m:List Int) (i:Nat):Prop where
 len:∀j,j<k→(L j).length=64^j
 kM:∀j,j<k→∀x∈L j,x<18446744073709551616
 leaf:∀z,z<64^k→(l=k→z≠i)→bF (L (k-1)) z=decide ((z:Int)∈m)
 up:∀j,j+1<k→∀z,z<64^(j+1)→(l=j+1→z≠i)→bF (L j) z=((L (j+1)).getD z 0 != 0)
 empty:l<k→(L l).getD i 0=0
 gone:l=k→(i:Int)∉m
 bI:i<64^l
theorem Mid.done {k l:Nat} (hl:l<k):∀ {L:Lv} {m:List Int} {i:Nat},Mid k (l+1) L m i→
 let L1:=upd L l (jD (L l) i)
 ((L1 l).getD (i/64) 0≠0→(∀j,j<k→(L1 j).length=64^j)∧(∀j,j<k→∀x∈L1 j,x<18446744073709551616)∧(∀z,z<64^k→bF (L1 (k-1)) z=decide ((z:Int)∈m))∧
   (∀j,j+1<k→∀z,z<64^(j+1)→bF (L1 j) z=((L1 (j+1)).getD z 0 != 0)))∧
 ((L1 l).getD (i/64) 0=0→Mid k l L1 m (i/64)):=by
 intro L m i h L1;have hL1:L1 l=jD (L l) i:=by simp[L1,upd]
 have hne:∀j,j≠l→L1 j=L j:=fun j hj=>by simp[L1,upd,hj]
 have hlen:∀j,j<k→(L1 j).length=64^j:=fun j hj=>by
  by_cases e:j=l
  ·subst e;rw[hL1];simp[jD,h.len j hj]
  ·rw[hne j e];exact h.len j hj
 have l7:∀j,j<k→∀x∈L1 j,x<18446744073709551616:=fun j hj=>by
  by_cases e:j=l
  ·subst e;rw[hL1];exact Hg _ _ (h.kM j hj)
  ·rw[hne j e];exact h.kM j hj
 have hi:=h.bI;have WH:∀z,z<64^k→bF (L1 (k-1)) z=decide ((z:Int)∈m):=fun z hz=>by
  by_cases e:k-1=l
  ·rw[e,hL1,Hf];by_cases hzi:z=i
   ·subst hzi;simp[h.gone (by omega)]
   ·rw[←e,h.leaf z hz (fun _=>hzi)];simp[hzi]
  ·rw[hne _ e];exact h.leaf z hz (fun e2=>by omega)
 have hup:∀j,j+1<k→∀z,z<64^(j+1)→(l=j+1→z≠i/64)→bF (L1 j) z=((L1 (j+1)).getD z 0 != 0):=fun j hj z hz hnz=>by
  by_cases e:j=l
  ·subst e;rw[hL1,hne (j+1) (by omega),Hf];by_cases hzi:z=i
   ·subst hzi;have:=h.empty hj;rw[this];simp
   ·rw[h.up j hj z hz (fun _=>hzi)];simp[hzi]
  ·by_cases e1:j+1=l
   ·subst e1;have hz2:=hnz rfl;rw[hne j (by omega),hL1,h.up j hj z hz (fun e=>by omega)];congr 1
    simp only[jD,List.getD];rw[List.getElem?_set_ne (fun e=>hz2 e.symm)]
   ·rw[hne j e,hne (j+1) e1];exact h.up j hj z hz (fun e=>by omega)
 refine⟨fun hw=>⟨hlen,l7,WH,fun j hj z hz=> ?_⟩,fun hw=>⟨hlen,l7,fun z hz _=>WH z hz,hup,fun _=>hw,fun e=>absurd e (by omega),by rw[Nat.pow_succ]at hi;omega⟩⟩;by_cases e1:j+1=l
 ·by_cases hz2:z=i/64
  ·subst hz2;have h1:(L1 (j+1)).getD (i/64) 0≠0:=by rw[e1];exact hw
   have h0:bF (L1 j) (i/64)=true:=by
    rw[hne j (by omega),h.up j hj _ hz (fun e=>by omega)];have:(L (j+1)).getD (i/64) 0≠0:=by
     intro e0;apply hw
     rw[hL1];have hlt:i/64<(L l).length:=by rw[h.len l hl];rw[Nat.pow_succ]at hi;omega
     rw[e1]at e0;simp only[jD,List.getD,List.getElem?_set_self hlt];simp only[List.getD]at e0;simp[e0,nS]
    simpa using this
   rw[h0];symm;simpa using h1
  ·exact hup j hj z hz (fun _=>hz2)
 ·exact hup j hj z hz (fun e=>absurd e.symm e1)
theorem OT (k:Nat) (k1:1≤k):∀(l:Nat) (L:Lv) (m:List Int) (i:Nat),l≤k→Mid k l L m i→
 (∀j,j<k→(gQ L l i j).length=64^j)∧(∀j,j<k→∀x∈gQ L l i j,x<18446744073709551616)∧(∀z,z<64^k→bF (gQ L l i (k-1)) z=decide ((z:Int)∈m))∧
  (∀j,j+1<k→∀z,z<64^(j+1)→bF (gQ L l i j) z=((gQ L l i (j+1)).getD z 0 != 0)):=by
 intro l;induction l with
 |zero=>
  intro L m i _ h;exact⟨h.len,h.kM,fun z hz=>h.leaf z hz (fun e=>by omega),fun j hj z hz=>h.up j hj z hz (fun e=>by omega)⟩
 |succ l ih=>
  intro L m i hl h;obtain⟨ha,hb⟩:=Mid.done (by omega) h;unfold gQ;dsimp only at ha hb ⊢;split
  ·rename_i hw;exact ha hw
  ·rename_i hw;exact ih _ _ _ (by omega) (hb (by simpa using hw))
theorem Ok.drop {k:Nat} {L:Lv} {m:List Int} (h:Ok k L m) (i:Nat) (hi:i<64^k) (_hn:(i:Int)∈m):Ok k (gQ L k i) (iy m i):=by
 obtain⟨a,b,c,d⟩:=OT k h.k1 k L (iy m i) i (Nat.le_refl _)
  ⟨h.len,h.kM,fun z hz hne=>by
   have hzi:=hne rfl;have:¬((z:Int)=(i:Int)):=by omega
   rw[h.leaf z hz];simp[qg,this],
   fun j hj z hz _=>h.up j hj z hz,fun e=>by omega,fun _=>by simp[qg],hi⟩
 exact⟨h.k1,a,b,c,d,fun z hz=>h.mem z ((qg _ _ _).1 hz).1,F8 _ _ h.sorted⟩
theorem xe (x:Nat) (h0:x≠0) (hx:x<18446744073709551616):Lib.ctz 64 x<64∧x.testBit (Lib.ctz 64 x)=true∧∀j,j<Lib.ctz 64 x→x.testBit j=false:=by
 obtain⟨m,hm,hk⟩:=Lib.ctzFrom_spec 64 x (by omega) hx;have e:Lib.ctz 64 x=Lib.ctzFrom 64 x:=by simp[Lib.ctz,h0]
 rw[e];generalize Lib.ctzFrom 64 x=c at*;subst hm;refine⟨hk,?_,fun j hj=> ?_⟩
 ·rw[Nat.mul_comm,Nat.testBit_mul_two_pow];simp[Nat.testBit_zero]
 ·rw[Nat.mul_comm,Nat.testBit_mul_two_pow];simp;omega
def ZR (f:Nat→Bool) (N i:Nat) (r:Int):Prop:=
 (r= -1∧∀z,i≤z→z<N→f z=false)∨(∃a:Nat,r=a∧i≤a∧a<N∧f a=true∧∀z,i≤z→z<a→f z=false)
def fE (L:Lv):Nat→Nat→Int
 |l,i=>if 64*(L l).length≤i then -1 else
  if(L l).getD (i/64) 0>>>(i%64)≠0 then(i:Int)+Lib.ctz 64 ((L l).getD (i/64) 0>>>(i%64))else
  match l with
  |0=> -1
  |l'+1=>if fE L l' (i/64+1)<0 then -1 else 64*fE L l' (i/64+1)+Lib.ctz 64 ((L (l'+1)).getD (fE L l' (i/64+1)).toNat 0)
theorem sW (x s b:Nat):(x>>>s).testBit b=x.testBit (s+b):=by rw[Nat.testBit_shiftRight]
theorem ED {k:Nat} {L:Lv} (hlen:∀j,j<k→(L j).length=64^j) (l7:∀j,j<k→∀x∈L j,x<18446744073709551616)
 (hup:∀j,j+1<k→∀z,z<64^(j+1)→bF (L j) z=((L (j+1)).getD z 0 != 0)):∀(l i:Nat),l<k→ZR (bF (L l)) (64^(l+1)) i (fE L l i):=by
 intro l;induction l with
 |zero=>
  intro i hl;have h1:=hlen 0 hl;simp only[Nat.pow_zero]at h1;unfold fE;rw[h1];split
  ·exact .inl ⟨rfl,fun z a b=>by simp at b;omega⟩
  ·rename_i hi
   have i0:i/64=0:=by omega
   have im:i%64=i:=by omega
   rw[i0,im];have hx:=iK (L 0) 0 (l7 0 hl);split
   ·rename_i hw
    obtain⟨c1,c2,c3⟩:=xe _ hw (Nat.lt_of_le_of_lt (Nat.shiftRight_le _ _) hx);generalize Lib.ctz 64 ((L 0).getD 0 0>>>i)=c at*;rw[sW]at c2;have hlt:=Dl _ _ hx c2;refine .inr ⟨i+c,by omega,by omega,by simp;omega,?_,fun z a b=> ?_⟩
    ·unfold bF;rw[show(i+c)/64=0 by omega,show(i+c)%64=i+c by omega];exact c2
    ·have:=c3 (z-i) (by omega);rw[sW,show i+(z-i)=z by omega]at this;unfold bF;rw[show z/64=0 by omega,show z%64=z by omega];exact this
   ·rename_i hw
    refine .inl ⟨rfl,fun z a b=> ?_⟩;have hw':(L 0).getD 0 0>>>i=0:=by simpa using hw
    have:((L 0).getD 0 0>>>i).testBit (z-i)=false:=by rw[hw'];simp
    rw[sW,show i+(z-i)=z by omega]at this;simp at b
    unfold bF;rw[show z/64=0 by omega,show z%64=z by omega];exact this
 |succ l ih=>
  intro i hl;have h1:=hlen (l+1) hl;have J9:64^(l+1+1)=64*64^(l+1):=by rw[Nat.pow_succ,Nat.mul_comm]
  have hrec:=ih (i/64+1) (by omega);unfold fE;rw[h1,J9];split
  ·exact .inl ⟨rfl,fun z a b=>by omega⟩
  ·rename_i hi
   have hx:=iK (L (l+1)) (i/64) (l7 _ hl);split
   ·rename_i hw
    obtain⟨c1,c2,c3⟩:=xe _ hw (Nat.lt_of_le_of_lt (Nat.shiftRight_le _ _) hx);generalize Lib.ctz 64 ((L (l+1)).getD (i/64) 0>>>(i%64))=c at*;rw[sW]at c2;have hlt:=Dl _ _ hx c2;refine .inr ⟨i+c,by omega,by omega,by omega,?_,fun z a b=> ?_⟩
    ·unfold bF;rw[show(i+c)/64=i/64 by omega,show(i+c)%64=i%64+c by omega];exact c2
    ·have:=c3 (z-i) (by omega);rw[sW,show i%64+(z-i)=z%64 by omega]at this;unfold bF;rw[show z/64=i/64 by omega];exact this
   ·rename_i hw
    have hw':(L (l+1)).getD (i/64) 0>>>(i%64)=0:=by simpa using hw
    have hsame:∀z,i≤z→z/64=i/64→bF (L (l+1)) z=false:=fun z a e=>by
     have:((L (l+1)).getD (i/64) 0>>>(i%64)).testBit (z-i)=false:=by rw[hw'];simp
     rw[sW,show i%64+(z-i)=z%64 by omega]at this;unfold bF;rw[e];exact this
    have hword:∀z,z<64*64^(l+1)→(L (l+1)).getD (z/64) 0=0→bF (L (l+1)) z=false:=fun z b e=>by unfold bF;rw[e];simp
    rcases hrec with⟨hr,hno⟩|⟨a,hr,ha1,ha2,LD,ha4⟩
    ·dsimp only;rw[hr,if_pos (by omega)];refine .inl ⟨rfl,fun z a b=> ?_⟩;by_cases e:z/64=i/64
     ·exact hsame z a e
     ·have:=hno (z/64) (by omega) (by omega);rw[hup l hl _ (by omega)]at this;exact hword z b (by simpa using this)
    ·dsimp only;rw[hr,if_neg (by omega)];have hne:(L (l+1)).getD a 0≠0:=by
      rw[hup l hl _ ha2]at LD;simpa using LD
     have hxa:=iK (L (l+1)) a (l7 _ hl);obtain⟨c1,c2,c3⟩:=xe _ hne hxa;simp only[Int.toNat_natCast];generalize Lib.ctz 64 ((L (l+1)).getD a 0)=c at*;refine .inr ⟨64*a+c,by omega,by omega,by omega,?_,fun z b d=> ?_⟩
     ·unfold bF;rw[show(64*a+c)/64=a by omega,show(64*a+c)%64=c by omega];exact c2
     ·by_cases e:z/64=i/64
      ·exact hsame z b e
      ·by_cases e2:z/64=a
       ·have:=c3 (z%64) (by omega);unfold bF;rw[e2];exact this
       ·have:=ha4 (z/64) (by omega) (by omega);rw[hup l hl _ (by omega)]at this;exact hword z (by omega) (by simpa using this)
def nextL (m:List Int) (i:Int):Int:=(m.find? (fun y=>decide (i≤y))).getD (-1)
theorem Ok.above {k:Nat} {L:Lv} {m:List Int} (h:Ok k L m) (i:Nat):fE L (k-1) i=nextL m i:=by
 have k1:=h.k1;have:=ED h.len h.kM h.up (k-1) i (by omega);rw[show k-1+1=k by omega]at this;unfold nextL;cases hf:m.find? (fun y=>decide ((i:Int)≤y))with
 |none=>
  rcases this with⟨hr,_⟩|⟨a,hr,ha1,ha2,LD,_⟩
  ·exact hr
  ·rw[h.leaf a ha2]at LD;have:=List.find?_eq_none.1 hf a (by simpa using LD);simp at this;omega
 |some y=>
  obtain⟨hy,l1,l2,hm,hall⟩:=List.find?_eq_some_iff_append.1 hf;have hy':(i:Int)≤y:=by simpa using hy
  have hym:y∈m:=by rw[hm];simp
  obtain⟨y0,y1⟩:=h.mem y hym;obtain⟨n,rfl⟩:∃n:Nat,y=n:=⟨y.toNat,by omega⟩
  simp only[Option.getD_some];have hbit:bF (L (k-1)) n=true:=by rw[h.leaf n (by omega)];simpa using hym
  rcases this with⟨hr,hno⟩|⟨a,hr,ha1,ha2,LD,ha4⟩
  ·rw[hno n (by omega) (by omega)]at hbit;cases hbit
  ·rw[hr];have h1:¬n<a:=fun e=>by rw[ha4 n (by omega) e]at hbit;cases hbit
   have ham:(a:Int)∈m:=by rw[h.leaf a ha2]at LD;simpa using LD
   have hs:=h.sorted;rw[hm]at ham hs;rcases List.mem_append.1 ham with hin|hin
   ·have:=hall _ hin;simp at this;omega
   ·rcases List.mem_cons.1 hin with e|hin
    ·exact e
    ·have:=(List.pairwise_cons.1 (List.pairwise_append.1 hs).2.1).1 _ hin;omega
end Go.Proofs.YtjiehhlghjnfhaaGreatDoor.cq
namespace Go.Proofs.YtjiehhlghjnfhaaGreatDoor.cq
open Go Go.RowKit Go.Proofs.YtjiehhlghjnfhaaGreatDoor
section
variable {α:Type}
def things (R:RP α) (q:Int):List (Option α):=(R.q q).map R.find
theorem iR {R:RP α} {q:Int}:things R q=[]↔R.q q=[]:=by unfold things;simp
theorem zX {k:Int}:∀ {l:List Int},l.Nodup→k∈l→(l.filter (·!= k)).length+1=l.length
 | [],_,h=>by cases h
 |a::r,hn,hm=>by
  rw[List.nodup_cons]at hn;by_cases e:a=k
  ·subst e;have:r.filter (·!= a)=r:=by rw[List.filter_eq_self];intro b hb;simp;rintro rfl;exact hn.1 hb
   rw[List.filter_cons_of_neg (by simp),this];rfl
  ·have hr:k∈r:=by
    rcases List.mem_cons.1 hm with h|h
    ·exact absurd h.symm e
    ·exact h
   rw[List.filter_cons_of_pos (by simpa using e),List.length_cons,zX hn.2 hr];rfl
theorem zY {S:PS α} {R:RP α} (h:Rel S R) (x:α) (hn:(R.items.length:Int)<S.most) (d:Int) (hd:0≤d∧d<S.qs.length):
 ∃k S' R',(S.take x).2=(k,true)∧(S.take x).1.append d k=(S',0)∧Rel S' R'∧S'.most=S.most∧S'.qs.length=S.qs.length∧R'.items.length=R.items.length+1∧R'.bI.length=R.bI.length+1∧
  ∀e,things R' e=things R e++(if e=d then[some x]else[]):=by
 obtain⟨t1,t2⟩:=h.take x;obtain⟨k,R1,e1,e2,e3,e4,e5⟩:∃k R1,R.take x=(R1,k,true)∧R1.items=R.items++[(k,x)]∧R1.bI=R.bI∧R1.queues=R.queues∧R1.most=R.most:=by
  unfold RP.take;rw[if_neg (by rw[h.most];omega)];cases R.back.getLast? with
  |none=>exact⟨_,_,rfl,rfl,rfl,rfl,rfl⟩
  |some b=>exact⟨_,_,rfl,rfl,rfl,rfl,rfl⟩
 rw[e1]at t1 t2;have hnd:=t1.oK;rw[e2,List.map_append,List.nodup_append]at hnd;have hnr:∀p∈R.items,p.1≠k:=fun p hp=>hnd.2.2 p.1 (List.mem_map.2 ⟨p,hp,rfl⟩) k (by simp)
 have hf:∀e,R1.find e=if e=k then some x else R.find e:=fun e=>uH R1 R.items k x e e2 hnr
 have hk0:R.find k=none:=by
  cases hh:R.find k with
  |none=>rfl
  |some y=>exact absurd rfl (hnr _ (yM hh))
 have LG:k∉R.bI.map (·.2):=fun hm=>by
  obtain⟨c,hc⟩:=Option.isSome_iff_exists.1 (h.iG k hm);have:=h.find k;rw[hc,hk0]at this;cases this
 obtain⟨a1,a2⟩:=t1.append d k;have ha:R1.append d k=({R1 with bI:=R1.bI++[(d,k)]},0):=by
  unfold RP.append;rw[if_neg (by rw[e4,h.queues];omega),hf,if_pos rfl];simp only;rw[if_neg (by rw[e3];exact LG)]
 rw[ha]at a1 a2;refine⟨k,((S.take x).1.append d k).1,{R1 with bI:=R1.bI++[(d,k)]},t2,?_,a1,?_,?_,?_,?_,fun e=> ?_⟩
 ·exact Prod.ext rfl a2
 ·rw[←a1.most,←h.most];exact e5
 ·have b1:=a1.queues;have b2:=h.queues;simp only at b1;rw[e4,b2]at b1;omega
 ·show R1.items.length=_;rw[e2];simp
 ·show(R1.bI++[(d,k)]).length=_;rw[e3];simp
 ·unfold things;rw[QM];have hq1:R1.q e=R.q e:=by unfold RP.q;rw[e3]
  have hm:(R.q e).map (RP.find {R1 with bI:=R1.bI++[(d,k)]})=(R.q e).map R.find:=by
   refine List.map_congr_left (fun z hz=> ?_);show R1.find z=_;rw[hf,if_neg (fun hh=>LG (by rw[←hh];exact q_in hz))]
  rw[hq1];split
  ·rw[List.map_append,hm];congr 1
   show[R1.find k]=_;rw[hf,if_pos rfl]
  ·rw[hm,List.append_nil]
theorem ZT {S:PS α} {R:RP α} (h:Rel S R) (z:α) (d:Int) {k:Int} {r:List Int} (hq:R.q d=k::r):
 ∃x S1 S2 R2,R.find k=some x∧S.pop d=(S1,k,true)∧S1.give z k=(S2,x,0)∧Rel S1 {R with bI:=R.bI.filter (fun p=>p.2 != k)}∧Rel S2 R2∧S2.most=S.most∧S2.qs.length=S.qs.length∧S1.qs.length=S.qs.length∧
  R2.items.length+1=R.items.length∧R2.bI.length+1=R.bI.length∧R2.q d=r∧(∀e,e≠d→R2.q e=R.q e)∧∀e,things R2 e=if e=d then(things R e).tail else things R e:=by
 obtain⟨p1,p2⟩:=h.pop d;have hp:R.pop d=({R with bI:=R.bI.filter (fun p=>p.2 != k)},k,true):=by unfold RP.pop;rw[hq]
 rw[hp]at p1 p2;have LG:k∈R.bI.map (·.2):=q_in (q:=d) (by rw[hq];simp);obtain⟨c,hc⟩:=Option.isSome_iff_exists.1 (h.iG k LG);have hfk:R.find k=some c.x:=by rw[←h.find k,hc];rfl
 obtain⟨g1,g2⟩:=p1.give z k;have hnot:k∉(R.bI.filter (fun p=>p.2 != k)).map (·.2):=fun hm=>by
  obtain⟨p,hp,e⟩:=List.mem_map.1 hm;have:=(List.mem_filter.1 hp).2;simp[e]at this
 have hg:RP.give {R with bI:=R.bI.filter (fun p=>p.2 != k)} z k=({R with bI:=R.bI.filter (fun p=>p.2 != k),items:=R.items.filter (fun p=>p.1 != k),back:=R.back++[k]},c.x,0):=by
  unfold RP.give;have:RP.find {R with bI:=R.bI.filter (fun p=>p.2 != k)} k=some c.x:=hfk;rw[this];simp only;rw[if_neg hnot]
 rw[hg]at g1 g2;have hnd:(R.q d).Nodup:=by unfold RP.q;exact h.gZ.sublist (List.filter_sublist.map _)
 have hfil:∀l:List Int,k∉l→l.filter (·!= k)=l:=fun l hl=>by
  rw[List.filter_eq_self];intro a ha;simp;rintro rfl;exact hl ha
 have CU:RP.q {R with bI:=R.bI.filter (fun p=>p.2 != k)} d=r:=by
  rw[w_ R h.gZ,hq];rw[hq,List.nodup_cons]at hnd;rw[List.filter_cons_of_neg (by simp),hfil r hnd.1]
 have hqe:∀e,e≠d→RP.q {R with bI:=R.bI.filter (fun p=>p.2 != k)} e=R.q e:=fun e he=>by
  rw[w_ R h.gZ];refine hfil _ (fun hm=>he ?_);have zW:k∈R.q d:=by rw[hq];simp
  unfold RP.q at hm zW;obtain⟨p1,hp1,e1⟩:=List.mem_map.1 hm;obtain⟨p2,hp2,e2⟩:=List.mem_map.1 zW;have m1:=(List.mem_filter.1 hp1);have m2:=(List.mem_filter.1 hp2);have:=lJ h.gZ m1.1 m2.1 (e1.trans e2.symm);subst this;have a1:=m1.2;have a2:=m2.2;simp at a1 a2
  exact a1.symm.trans a2
 have qB:∀e,e≠k→RP.find {R with bI:=R.bI.filter (fun p=>p.2 != k),items:=R.items.filter (fun p=>p.1 != k),back:=R.back++[k]} e=R.find e:=fun e he=>by
  unfold RP.find;simp only;rw[List.find?_filter];congr 2
  funext p
  by_cases e1:p.1=e
  ·simp[e1,he]
  ·simp[e1]
 refine⟨c.x,(S.pop d).1,(PS.give (S.pop d).1 z k).1,_,hfk,Prod.ext rfl p2,Prod.ext rfl g2,p1,g1,?_,?_,?_,?_,?_,CU,hqe,fun e=> ?_⟩
 ·rw[←g1.most,←h.most]
 ·have b1:=g1.queues;have b2:=h.queues;simp only at b1;rw[b2]at b1;omega
 ·have b1:=p1.queues;have b2:=h.queues;simp only at b1;rw[b2]at b1;omega
 ·exact BX R.items k c.x h.oK (yM hfk)
 ·have h1:=zX h.gZ LG;rw[List.filter_map]at h1;simp only[List.length_map]at h1;exact h1
 ·unfold things;split
  ·rename_i e1
   subst e1;have e2:RP.q {R with bI:=R.bI.filter (fun p=>p.2 != k),items:=R.items.filter (fun p=>p.1 != k),back:=R.back++[k]} e=r:=CU;rw[e2,hq,List.map_cons,List.tail_cons];refine List.map_congr_left (fun y hy=>qB y (fun hh=> ?_));rw[hq,List.nodup_cons]at hnd;exact hnd.1 (by rw[←hh];exact hy)
  ·rename_i e1
   have e2:RP.q {R with bI:=R.bI.filter (fun p=>p.2 != k),items:=R.items.filter (fun p=>p.1 != k),back:=R.back++[k]} e=R.q e:=hqe e e1;rw[e2];refine List.map_congr_left (fun y hy=>qB y (fun hh=> ?_));have h3:=hqe e e1;rw[w_ R h.gZ]at h3;rw[←h3,List.mem_filter]at hy;simp[hh]at hy
end
end Go.Proofs.YtjiehhlghjnfhaaGreatDoor.cq
namespace Go.Proofs.YtjiehhlghjnfhaaGreatDoor.cq
open Go Go.RowKit Go.Proofs.YtjiehhlghjnfhaaGreatDoor
structure oh where
 base:Nat
 B:List (En Pk)
 A:List (En Pk)
 P:PS Pk
 R:RP Pk
 m:List Int
def xs (I:List It) (r:Nat):List (Option Pk):=(at_ I r).map (fun i=>some i.x)
theorem zZ {I:List It} {r:Nat}:xs I r=[]↔∀i∈I,i.rank≠r:=by unfold xs;rw[List.map_eq_nil_iff,at_nil]
theorem nT (x:It) (I:List It) (r:Nat):xs (x::I) r=if x.rank=r then some x.x::xs I r else xs I r:=by
 unfold xs;rw[vT];split<;>rfl
theorem kE {x:It} {I:List It} (h:nR I) (r:Nat):xs (jo I x) r=xs I r++(if x.rank=r then[some x.x]else[]):=by
 unfold xs;rw[Lp r h,List.map_append];split<;>rfl
theorem EE {I:List It} {r:Nat} {i:It} (hi:i∈I) (hr:i.rank=r):xs I r≠ []:=fun h=>zZ.1 h i hi hr
theorem z_ {I:List It} {r:Nat} (h:xs I r≠ []):∃i∈I,i.rank=r:=by
 apply Classical.byContradiction
 intro hn;exact h (zZ.2 (fun i hi hr=>hn ⟨i,hi,hr⟩))
def bM (sz r:Nat):Int:=((r%sz:Nat):Int)
structure cZ (sz room:Nat) (c:oh) (I:List It):Prop where
 rel:Rel c.P c.R
 qs:c.P.qs.length=sz
 most:c.P.most=(room:Int)
 qh:64≤sz∧sz≤262144
 base:c.base<18446744073709551616
 lS:nR I
 kM:∀i∈I,i.rank<18446744073709551616
 low:∀r,r<c.base→xs I r=xs (c.B.map fD) r
 win:∀r,c.base≤r→r<c.base+sz→xs I r=things c.R (bM sz r)++xs (c.A.map fD) r
 far:∀r,c.base+sz≤r→xs I r=xs (c.A.map fD) r
 bin:∀s∈c.B,s.rank<c.base
 EF:∀s∈c.A,c.base≤s.rank
 sB:nR (c.B.map fD)
 sA:nR (c.A.map fD)
 days:∀d:Int,d∈c.m↔c.R.q d≠ []
 len:I.length=c.B.length+c.R.items.length+c.A.length
 CV:c.R.bI.length=c.R.items.length
 cap:I.length≤room
def Dn (sz:Nat) (c:oh):Prop:=∀s∈c.A,c.base+sz≤s.rank
theorem EG {S:List (En Pk)} {i:It}:i∈S.map fD↔∃s∈S,fD s=i:=by simp
theorem Dn.xs {sz:Nat} {c:oh} (h:Dn sz c) {r:Nat} (hr:r<c.base+sz):xs (c.A.map fD) r=[]:=by
 rw[zZ];intro i hi e;obtain⟨s,hs,rfl⟩:=EG.1 hi;have:=h s hs;have e2:s.rank=r:=e;omega
section
variable {sz room:Nat} {c:oh} {I:List It}
theorem cZ.day (h:cZ sz room c I) (r:Nat):0≤bM sz r∧bM sz r<(c.P.qs.length:Int):=by
 have:=h.qh;have h2:=Nat.mod_lt r (show 0<sz by omega);unfold bM;rw[h.qs];omega
theorem cZ.abq (h:cZ sz room c I) {d:Int} (hd:d∈c.m):0≤d∧d<sz:=by
 have h1:=(h.days d).1 hd;apply Classical.byContradiction
 intro hn;exact h1 (h.rel.WC (by rw[h.qs];exact hn))
theorem Aa {base r r':Nat} (h1:base≤r) (h2:r<base+sz) (h3:base≤r') (h4:r'<base+sz) (e:bM sz r=bM sz r'):r=r':=by
 unfold bM at e;have e:r%sz=r'%sz:=by omega
 have a:=Nat.div_add_mod r sz;have b:=Nat.div_add_mod r' sz;rw[e]at a;rcases Nat.lt_trichotomy (r/sz) (r'/sz)with hl|hl|hl
 ·have:=Nat.mul_le_mul_left sz (show r/sz+1≤r'/sz by omega);rw[Nat.mul_add,Nat.mul_one]at this;omega
 ·rw[hl]at a;omega
 ·have:=Nat.mul_le_mul_left sz (show r'/sz+1≤r/sz by omega);rw[Nat.mul_add,Nat.mul_one]at this;omega
theorem cZ.adQ (h:cZ sz room c I) (x:Pk) (r:Nat) (hn:c.R.items.length<room):
 ∃k P' R',(c.P.take x).2=(k,true)∧(c.P.take x).1.append (bM sz r) k=(P',0)∧Rel P' R'∧P'.most=c.P.most∧P'.qs.length=c.P.qs.length∧R'.items.length=c.R.items.length+1∧R'.bI.length=c.R.bI.length+1∧
  (∀e,things R' e=things c.R e++(if e=bM sz r then[some x]else[]))∧∀d:Int,d∈(if bM sz r∈c.m then c.m else jY c.m (bM sz r))↔R'.q d≠ []:=by
 obtain⟨k,P',R',h1,h2,h3,h4,h5,h6,h7,h8⟩:=zY h.rel x (by rw[h.most];omega) (bM sz r) (h.day r);refine⟨k,P',R',h1,h2,h3,h4,h5,h6,h7,h8,fun d=> ?_⟩;have h9:=h8 d;have e1:(R'.q d≠ [])↔things R' d≠ []:=by rw[ne_eq,ne_eq,iR]
 have e2:d∈c.m↔things c.R d≠ []:=by rw[h.days d,ne_eq,ne_eq,iR]
 rw[e1,h9];by_cases e:d=bM sz r
 ·rw[if_pos e];have:things c.R d++[some x]≠ []:=by simp
  simp only[this,ne_eq,not_false_iff,iff_true];split
  ·rw[e];assumption
  ·rw[oZ];exact .inl e
 ·rw[if_neg e,List.append_nil];split
  ·exact e2
  ·rw[oZ,or_iff_right e];exact e2
theorem cZ.LH (h:cZ sz room c I) (hd:Dn sz c) {x:It} (h1:c.base≤x.rank) (h2:x.rank<c.base+sz) (hr:x.rank<18446744073709551616) (hc:I.length<room) {P':PS Pk} {R':RP Pk} {m':List Int}
 (a1:Rel P' R') (a2:P'.most=c.P.most) (a3:P'.qs.length=c.P.qs.length) (a4:R'.items.length=c.R.items.length+1) (a5:R'.bI.length=c.R.bI.length+1)
 (a6:∀e,things R' e=things c.R e++(if e=bM sz x.rank then[some x.x]else[])) (a7:∀d:Int,d∈m'↔R'.q d≠ []):
 cZ sz room {c with P:=P',R:=R',m:=m'} (jo I x)∧Dn sz {c with P:=P',R:=R',m:=m'}:=by
 refine⟨⟨a1,a3.trans h.qs,a2.trans h.most,h.qh,h.base,oW h.lS,fun i hi=> ?_,fun r hb=> ?_,fun r hb hs=> ?_,fun r hb=> ?_,h.bin,h.EF,h.sB,h.sA,a7,?_,?_,by rw[oV];omega⟩,hd⟩
 ·rcases wY.1 hi with rfl|hi
  ·exact hr
  ·exact h.kM i hi
 ·have hb:r<c.base:=hb;rw[kE h.lS,if_neg (by omega),List.append_nil];exact h.low r hb
 ·have hb:c.base≤r:=hb;have hs:r<c.base+sz:=hs;show _=things R' _++xs (c.A.map fD) r;rw[kE h.lS,h.win r hb hs,a6,hd.xs hs,List.append_nil,List.append_nil];by_cases e:x.rank=r
  ·rw[if_pos e,if_pos (by rw[e])]
  ·rw[if_neg e,if_neg (fun e2=>e (Aa h1 h2 hb hs e2.symm))]
 ·have hb:c.base+sz≤r:=hb;rw[kE h.lS,if_neg (by omega),List.append_nil];exact h.far r hb
 ·rw[oV];have:=h.len;show _=_+R'.items.length+_;rw[a4];show _=c.B.length+_+c.A.length;omega
 ·show R'.bI.length=R'.items.length;rw[a4,a5,h.CV]
theorem cZ.WI (h:cZ sz room c I) (hd:Dn sz c) {e:En Pk} (h1:e.rank<c.base) (hc:I.length<room):cZ sz room {c with B:=iQ c.B e} (jo I (fD e))∧Dn sz {c with B:=iQ c.B e}:=by
 have e0:(fD e).rank=e.rank:=rfl;have hb0:=h.base;refine⟨⟨h.rel,h.qs,h.most,h.qh,h.base,oW h.lS,fun i hi=> ?_,fun r hb=> ?_,fun r hb hs=> ?_,fun r hb=> ?_,fun s hs=> ?_,h.EF,?_,h.sA,h.days,?_,h.CV,by rw[oV];omega⟩,hd⟩
 ·rcases wY.1 hi with rfl|hi
  ·rw[e0];omega
  ·exact h.kM i hi
 ·show _=xs ((iQ c.B e).map fD) r;rw[kE h.lS,mP,kE h.sB,h.low r hb]
 ·have hb:c.base≤r:=hb;rw[kE h.lS,if_neg (by omega),List.append_nil];exact h.win r hb hs
 ·have hb:c.base+sz≤r:=hb;rw[kE h.lS,if_neg (by omega),List.append_nil];exact h.far r hb
 ·rcases List.mem_cons.1 ((iw e c.B).mem_iff.1 hs)with rfl|hs
  ·exact h1
  ·exact h.bin s hs
 ·show nR ((iQ c.B e).map fD);rw[mP];exact oW h.sB
 ·rw[oV];have:=h.len;show _=(iQ c.B e).length+_+_;rw[(iw e c.B).length_eq,List.length_cons];show _=_+c.R.items.length+c.A.length;omega
theorem cZ.WJ (h:cZ sz room c I) (hd:Dn sz c) {e:En Pk} (h1:c.base+sz≤e.rank) (hr:e.rank<18446744073709551616) (hc:I.length<room):cZ sz room {c with A:=iQ c.A e} (jo I (fD e))∧Dn sz {c with A:=iQ c.A e}:=by
 have e0:(fD e).rank=e.rank:=rfl;have hs1:=h.qh;have hm:∀s,s∈iQ c.A e→s=e∨s∈c.A:=fun s hs=>List.mem_cons.1 ((iw e c.A).mem_iff.1 hs)
 refine⟨⟨h.rel,h.qs,h.most,h.qh,h.base,oW h.lS,fun i hi=> ?_,fun r hb=> ?_,fun r hb hs=> ?_,fun r hb=> ?_,h.bin,fun s hs=> ?_,h.sB,?_,h.days,?_,h.CV,by rw[oV];omega⟩,fun s hs=> ?_⟩
 ·rcases wY.1 hi with rfl|hi
  ·exact hr
  ·exact h.kM i hi
 ·have hb:r<c.base:=hb;rw[kE h.lS,if_neg (by omega),List.append_nil];exact h.low r hb
 ·have hb:c.base≤r:=hb;have hs:r<c.base+sz:=hs;show _=things c.R _++xs ((iQ c.A e).map fD) r;rw[kE h.lS,mP,kE h.sA,if_neg (by omega),List.append_nil,List.append_nil];exact h.win r hb hs
 ·show _=xs ((iQ c.A e).map fD) r;rw[kE h.lS,mP,kE h.sA,h.far r hb]
 ·rcases hm s hs with rfl|hs
  ·show c.base≤_;omega
  ·exact h.EF s hs
 ·show nR ((iQ c.A e).map fD);rw[mP];exact oW h.sA
 ·rw[oV];have:=h.len;show _=_+_+(iQ c.A e).length;rw[(iw e c.A).length_eq,List.length_cons];show _=c.B.length+c.R.items.length+_;omega
 ·rcases hm s hs with rfl|hs
  ·exact h1
  ·exact hd s hs
theorem cZ.ZU (h:cZ sz room c []) (r:Nat) (hr:r<18446744073709551616):cZ sz room {c with base:=r} []∧Dn sz {c with base:=r}:=by
 have hl:=h.len;have hB:c.B=[]:=List.eq_nil_of_length_eq_zero (by simp at hl;omega);have hA:c.A=[]:=List.eq_nil_of_length_eq_zero (by simp at hl;omega);have hR:c.R.bI=[]:=List.eq_nil_of_length_eq_zero (by rw[h.CV];simp at hl;omega);have hx:∀r,xs ([]:List It) r=[]:=fun _=>rfl
 have hq:∀d,things c.R d=[]:=fun d=>by rw[iR];unfold RP.q;rw[hR];rfl
 refine⟨⟨h.rel,h.qs,h.most,h.qh,hr,List.Pairwise.nil,(fun i hi=>by cases hi),fun r _=> ?_,fun r _ _=> ?_,fun r _=> ?_,fun s hs=> ?_,fun s hs=> ?_,h.sB,h.sA,h.days,h.len,h.CV,h.cap⟩,fun s hs=> ?_⟩
 ·show _=xs (c.B.map fD) r;rw[hB];rfl
 ·show _=things c.R _++xs (c.A.map fD) r;rw[hA,hq];rfl
 ·show _=xs (c.A.map fD) r;rw[hA];rfl
 ·have hs:s∈c.B:=hs;rw[hB]at hs;cases hs
 ·have hs:s∈c.A:=hs;rw[hA]at hs;cases hs
 ·have hs:s∈c.A:=hs;rw[hA]at hs;cases hs
theorem xs_a {S:List (En Pk)} {s:En Pk} (hs:s∈S):xs (S.map fD) s.rank≠ []:=EE (i:=fD s) (EG.2 ⟨s,hs,rfl⟩) rfl
theorem cZ.aIn (h:cZ sz room c I) {s:En Pk} (hs:s∈c.A):∃i∈I,i.rank=s.rank:=by
 refine z_ ?_;have h1:=h.EF s hs;by_cases h2:s.rank<c.base+sz
 ·rw[h.win _ h1 h2];intro e;exact xs_a hs (List.append_eq_nil_iff.1 e).2
 ·rw[h.far _ (by omega)];exact xs_a hs
theorem cZ.turn (h:cZ sz room c I) (hd:Dn sz c) (hB:c.B=[]) {r:Nat} (h1:c.base≤r) (hr:r<18446744073709551616) (hI:∀i∈I,r≤i.rank):cZ sz room {c with base:=r} I:=by
 refine⟨h.rel,h.qs,h.most,h.qh,hr,h.lS,h.kM,fun r' hb=> ?_,fun r' hb hs=> ?_,fun r' hb=> ?_,fun s hs=> ?_,fun s hs=> ?_,h.sB,h.sA,h.days,h.len,h.CV,h.cap⟩
 ·have hb:r'<r:=hb;show _=xs (c.B.map fD) r';rw[hB];show _=[];rw[zZ];intro i hi e;have:=hI i hi;omega
 ·have hb:r≤r':=hb;have hs:r'<r+sz:=hs;by_cases h2:r'<c.base+sz
  ·exact h.win r' (by omega) h2
  ·show _=things c.R _++xs (c.A.map fD) r';rw[h.far r' (by omega)];have hz:=h.qh;have hm:=Nat.mod_lt (r'-c.base) (show 0<sz by omega);have h5:bM sz (c.base+(r'-c.base)%sz)=bM sz r':=by
    unfold bM;have:r'=c.base+(r'-c.base):=by omega
    rw[Nat.add_mod_mod,←this]
   have hlt:c.base+(r'-c.base)%sz<r:=by
    apply Classical.byContradiction
    intro hn;have:=Aa (base:=r) (by omega) (by omega) hb hs h5;omega
   have h3:=h.win (c.base+(r'-c.base)%sz) (by omega) (by omega);have h4:xs I (c.base+(r'-c.base)%sz)=[]:=by
    rw[zZ];intro i hi e;have:=hI i hi;omega
   rw[h4,h5]at h3;rw[(List.append_eq_nil_iff.1 h3.symm).1];rfl
 ·have hb:r+sz≤r':=hb;exact h.far r' (by omega)
 ·have hs:s∈c.B:=hs;rw[hB]at hs;cases hs
 ·show r≤s.rank;obtain⟨i,hi,e⟩:=h.aIn hs;rw[←e];exact hI i hi
theorem cZ.sink (h:cZ sz room c I) {a:En Pk} {A':List (En Pk)} (hA:c.A=a::A') (h2:a.rank<c.base+sz) {P':PS Pk} {R':RP Pk} {m':List Int}
 (a1:Rel P' R') (a2:P'.most=c.P.most) (a3:P'.qs.length=c.P.qs.length) (a4:R'.items.length=c.R.items.length+1) (a5:R'.bI.length=c.R.bI.length+1)
 (a6:∀e,things R' e=things c.R e++(if e=bM sz a.rank then[some a.x]else[])) (a7:∀d:Int,d∈m'↔R'.q d≠ []):
 cZ sz room {c with A:=A',P:=P',R:=R',m:=m'} I:=by
 have h1:=h.EF a (by rw[hA];simp);have hsA:=h.sA;rw[hA,List.map_cons]at hsA;have hx:∀r,xs (c.A.map fD) r=if a.rank=r then some a.x::xs (A'.map fD) r else xs (A'.map fD) r:=fun r=>by rw[hA,List.map_cons,nT];rfl
 refine⟨a1,a3.trans h.qs,a2.trans h.most,h.qh,h.base,h.lS,h.kM,h.low,fun r hb hs=> ?_,fun r hb=> ?_,h.bin,fun s hs=>h.EF s (by rw[hA];exact List.mem_cons.2 (.inr hs)),h.sB,(List.pairwise_cons.1 hsA).2,a7,?_,?_,h.cap⟩
 ·have hb:c.base≤r:=hb;have hs:r<c.base+sz:=hs;show _=things R' _++xs (A'.map fD) r;rw[h.win r hb hs,a6,hx];by_cases e:a.rank=r
  ·rw[if_pos e,if_pos (by rw[e]),List.append_assoc];rfl
  ·rw[if_neg e,if_neg (fun e2=>e (Aa h1 h2 hb hs e2.symm)),List.append_nil]
 ·have hb:c.base+sz≤r:=hb;show _=xs (A'.map fD) r;rw[h.far r hb,hx,if_neg (by omega)]
 ·have:=h.len;rw[hA,List.length_cons]at this;show _=c.B.length+R'.items.length+A'.length;rw[a4];omega
 ·show R'.bI.length=R'.items.length;rw[a4,a5,h.CV]
theorem cZ.done (h:cZ sz room c I) (hA:∀a A',c.A=a::A'→c.base+sz≤a.rank):Dn sz c:=by
 cases hc:c.A with
 |nil=>intro s hs;rw[hc]at hs;cases hs
 |cons a A'=>
  intro s hs;have h0:=hA a A' hc;have hsA:=h.sA;rw[hc,List.map_cons]at hsA;rw[hc]at hs;rcases List.mem_cons.1 hs with rfl|hs
  ·exact h0
  ·have:=(List.pairwise_cons.1 hsA).1 (fD s) (EG.2 ⟨s,hs,rfl⟩);have:a.rank≤s.rank:=this;omega
end
end Go.Proofs.YtjiehhlghjnfhaaGreatDoor.cq
