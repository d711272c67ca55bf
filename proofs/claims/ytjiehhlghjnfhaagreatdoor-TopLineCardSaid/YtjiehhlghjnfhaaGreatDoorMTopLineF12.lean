/- A pool's cells in chains against lists (for the calendar). Printed by wip/cq.py. -/
import Derived.Test.YtjiehhlghjnfhaaGreatDoorMTopLineF0
set_option linter.unusedVariables false
set_option linter.unusedSimpArgs false
namespace Go.Proofs.YtjiehhlghjnfhaaGreatDoor.cq
open Go.RowKit Go.Proofs.YtjiehhlghjnfhaaGreatDoor
variable {α:Type}
structure PC (α:Type) where
 x:α
 next:Int
 taken:Bool
 queued:Bool
structure PS (α:Type) where
 cs:List (PC α)
 qs:List (Int×Int)
 most:Int
 free:Int
 n:Int
structure RP (α:Type) where
 most:Int
 queues:Int
 items:List (Int×α)
 bI:List (Int×Int)
 back:List Int
 never:Int
def tk (S:PS α) (h:Int):Option (PC α):=if 0≤h then(S.cs[h.toNat]?).filter (·.taken)else none
def RP.find (R:RP α) (h:Int):Option α:=(R.items.find? (fun p=>p.1==h)).map (·.2)
def RP.q (R:RP α) (q:Int):List Int:=(R.bI.filter (fun p=>p.1==q)).map (·.2)
def nx (cs:List (PC α)) (i:Nat):Int:=match cs[i]? with|some c=>c.next|none=> -1
def Chain (f:Nat→Int):Int→List Int→Prop
 |a,[]=>a= -1
 |a,h::r=>a=h∧0≤h∧Chain f (f h.toNat) r
theorem Chain.qR {f:Nat→Int}:∀ {l:List Int} {a:Int},Chain f a l→∀z∈l,0≤z
 | [],_,_,z,hz=>by simp at hz
 |h::r,a,hc,z,hz=>by
  rcases List.mem_cons.1 hz with rfl|hz
  ·exact hc.2.1
  ·exact hc.2.2.qR z hz
theorem Chain.congr {f g:Nat→Int}:∀ {l:List Int} {a:Int},Chain f a l→(∀z∈l,g z.toNat=f z.toNat)→Chain g a l
 | [],_,h,_=>h
 |h::r,a,hc,hg=>⟨hc.1,hc.2.1,by rw[hg h (by simp)];exact hc.2.2.congr (fun z hz=>hg z (by simp[hz]))⟩
theorem Chain.snoc {f g:Nat→Int}:∀ {l:List Int} {a t h:Int},Chain f a (l++[t])→(l++[t]).Nodup→(∀z∈l,g z.toNat=f z.toNat)→g t.toNat=h→0≤h→g h.toNat= -1→Chain g a (l++[t]++[h])
 | [],a,t,h,hc,_,_,ht,h0,hh=>⟨hc.1,hc.2.1,by rw[ht];exact⟨rfl,h0,hh⟩⟩
 |z::r,a,t,h,hc,hn,hg,ht,h0,hh=>by
  refine⟨hc.1,hc.2.1,?_⟩;rw[hg z (by simp)];exact Chain.snoc hc.2.2 (List.nodup_cons.1 hn).2 (fun y hy=>hg y (by simp[hy])) ht h0 hh
theorem Chain.head {f:Nat→Int} {a:Int} {l:List Int} (h:Chain f a l):a=l.head?.getD (-1):=by
 cases l with
 |nil=>exact h
 |cons z r=>exact h.1
structure Rel (S:PS α) (R:RP α):Prop where
 most:R.most=S.most
 rQ:1≤S.most∧S.most≤4096
 queues:R.queues=S.qs.length
 never:R.never=S.cs.length
 room:(S.cs.length:Int)≤S.most
 count:R.items.length+R.back.length=S.cs.length
 n:S.n=R.items.length
 find:∀h,(tk S h).map (·.x)=R.find h
 oK:(R.items.map (·.1)).Nodup
 uF:∀p∈R.items,0≤p.1∧p.1<S.cs.length
 free:Chain (nx S.cs) S.free R.back.reverse
 wZ:R.back.Nodup
 lI:∀b∈R.back,0≤b∧b<S.cs.length∧R.find b=none
 queue:∀(q:Nat) (hd tl:Int),S.qs[q]? =some (hd,tl)→Chain (nx S.cs) hd (R.q q)∧tl=(R.q q).getLast?.getD (-1)
 gZ:(R.bI.map (·.2)).Nodup
 uG:∀p∈R.bI,0≤p.1∧p.1<S.qs.length
 queued:∀h c,tk S h=some c→(c.queued=true↔h∈R.bI.map (·.2))
 iG:∀h∈R.bI.map (·.2),(tk S h).isSome=true
theorem gJ {S:PS α} {h:Int} {c:PC α} (e:tk S h=some c):0≤h∧h<S.cs.length∧S.cs[h.toNat]? =some c∧c.taken=true:=by
 unfold tk at e;split at e
 ·rename_i h0
  rw[Option.filter_eq_some_iff]at e;have:=(List.getElem?_eq_some_iff.1 e.1).1;exact⟨h0,by omega,e.1,e.2⟩
 ·cases e
theorem yM {R:RP α} {h:Int} {x:α} (e:R.find h=some x):(h,x)∈R.items:=by
 unfold RP.find at e;obtain⟨p,hp,rfl⟩:=Option.map_eq_some_iff.1 e;have h1:=List.mem_of_find?_eq_some hp;have h2:=List.find?_some hp;simp at h2
 obtain⟨a,b⟩:=p;simp at h2;subst h2;exact h1
theorem OO {R:RP α} {h:Int} (e:R.find h=none):∀p∈R.items,p.1≠h:=by
 unfold RP.find at e;rw[Option.map_eq_none_iff,List.find?_eq_none]at e;intro p hp;simpa using e p hp
theorem zU (cs:List (PC α)) (i j:Nat) (c:PC α):nx (cs.set i c) j=if i=j∧i<cs.length then c.next else nx cs j:=by
 unfold nx;by_cases h:i=j
 ·subst h;by_cases hl:i<cs.length
  ·simp[hl]
  ·rw[List.set_eq_of_length_le (by omega)];simp[hl]
 ·rw[List.getElem?_set_ne h];simp[h]
theorem Wy (cs:List (PC α)) (c:PC α) (j:Nat) (h:j≠cs.length):nx (cs++[c]) j=nx cs j:=by
 unfold nx;by_cases hl:j<cs.length
 ·rw[List.getElem?_append_left hl]
 ·rw[List.getElem?_eq_none (by simp;omega),List.getElem?_eq_none (by omega)]
def PS.take (S:PS α) (x:α):PS α×Int×Bool:=
 if S.most≤S.n then(S,0,false)
 else if S.free= -1 then({S with cs:=S.cs++[⟨x,-1,true,false⟩],n:=S.n+1},S.cs.length,true)
 else({S with cs:=S.cs.set S.free.toNat ⟨x,-1,true,false⟩,free:=nx S.cs S.free.toNat,n:=S.n+1},S.free,true)
def RP.take (R:RP α) (x:α):RP α×Int×Bool:=
 if R.most≤R.items.length then(R,0,false)
 else match R.back.getLast? with
    |none=>({R with items:=R.items++[(R.never,x)],never:=R.never+1},R.never,true)
    |some h=>({R with items:=R.items++[(h,x)],back:=R.back.dropLast},h,true)
theorem uH (R:RP α) (l:List (Int×α)) (h:Int) (x:α) (h':Int) (hl:R.items=l++[(h,x)]) (hn:∀p∈l,p.1≠h):R.find h'=if h'=h then some x else(l.find? (fun p=>p.1==h')).map (·.2):=by
 unfold RP.find;rw[hl,List.find?_append];by_cases e:h'=h
 ·subst e;have:l.find? (fun p=>p.1==h')=none:=by rw[List.find?_eq_none];intro p hp;simpa using hn p hp
  simp[this]
 ·have e2:¬h=h':=fun z=>e z.symm
  simp[e,e2]
theorem Rel.Ew {S:PS α} {R:RP α} (h:Rel S R):S.free=R.back.getLast?.getD (-1):=by
 have:=h.free.head;rw[List.head?_reverse]at this;exact this
theorem Rel.take {S:PS α} {R:RP α} (h:Rel S R) (x:α):Rel (S.take x).1 (R.take x).1∧(S.take x).2=(R.take x).2:=by
 unfold PS.take RP.take;by_cases hf:S.most≤S.n
 ·have hf':R.most≤R.items.length:=by rw[h.most,←h.n];exact hf
  rw[if_pos hf,if_pos hf'];exact⟨h,rfl⟩
 ·have hf':¬R.most≤R.items.length:=by rw[h.most,←h.n];exact hf
  rw[if_neg hf,if_neg hf'];have hbl:=h.Ew;cases hb:R.back.getLast? with
  |none=>
   have hbn:R.back=[]:=by simpa using hb
   rw[hb]at hbl;have hfree:S.free= -1:=hbl;rw[if_pos hfree];have hlen:=h.count;rw[hbn]at hlen;simp at hlen
   have hlt:(S.cs.length:Int)<S.most:=by have:=h.n;omega
   have hnr:∀p∈R.items,p.1≠R.never:=fun p hp e=>by have:=(h.uF p hp).2;rw[e,h.never]at this;omega
   have htk:∀i:Int,tk {S with cs:=S.cs++[⟨x,-1,true,false⟩],n:=S.n+1} i=if i=R.never then some ⟨x,-1,true,false⟩else tk S i:=fun i=>by
    unfold tk;by_cases hi:0≤i
    ·rw[if_pos hi,if_pos hi];by_cases e:i=R.never
     ·rw[if_pos e,e,h.never];simp
     ·rw[if_neg e];have e2:i.toNat≠S.cs.length:=fun z=>e (by rw[h.never];omega)
      by_cases hl:i.toNat<S.cs.length
      ·simp only;rw[List.getElem?_append_left hl]
      ·simp only;rw[List.getElem?_eq_none (by simp;omega),List.getElem?_eq_none (by omega)]
    ·rw[if_neg hi,if_neg hi];rw[if_neg (fun e=>hi (by rw[e,h.never];omega))]
   have hc:∀a l,Chain (nx S.cs) a l→(∀z∈l,z<S.cs.length)→Chain (nx (S.cs++[⟨x,-1,true,false⟩])) a l:=fun a l hc hl=>hc.congr (fun z hz=>Wy _ _ _ (by have:=hl z hz;have:=hc.qR z hz;omega))
   refine⟨⟨h.most,h.rQ,h.queues,by simp[h.never],by simp;omega,by simp[hbn];omega,by simp[h.n],fun i=> ?_,?_,fun p hp=> ?_,?_,h.wZ,?_,fun q hd tl hq=> ?_,h.gZ,h.uG,fun i c hi=> ?_,fun i hi=> ?_⟩,by rw[h.never]⟩
   ·rw[htk,uH _ R.items R.never x i rfl hnr];split
    ·rfl
    ·exact h.find i
   ·simp only[List.map_append,List.map_cons,List.map_nil];rw[List.nodup_append];refine⟨h.oK,by simp,fun a ha b hb=> ?_⟩;simp at hb;subst hb
    obtain⟨p,hp,rfl⟩:=List.mem_map.1 ha;exact hnr p hp
   ·rcases List.mem_append.1 hp with hp|hp
    ·have:=h.uF p hp;simp;omega
    ·simp at hp;subst hp;simp[h.never];omega
   ·show Chain _ S.free R.back.reverse;rw[hbn,hfree];rfl
   ·intro b hb;rw[show R.back=[]from hbn]at hb;simp at hb
   ·obtain⟨h1,h2⟩:=h.queue q hd tl hq;refine⟨hc _ _ h1 (fun z hz=> ?_),h2⟩;have hz':z∈R.bI.map (·.2):=by
     unfold RP.q at hz;obtain⟨p,hp,rfl⟩:=List.mem_map.1 hz;exact List.mem_map.2 ⟨p,(List.mem_filter.1 hp).1,rfl⟩
    obtain⟨c,hc⟩:=Option.isSome_iff_exists.1 (h.iG z hz');exact(gJ hc).2.1
   ·rw[htk]at hi;split at hi
    ·rename_i e
     cases hi
     refine⟨(fun e=>by cases e),fun hm=> ?_⟩;obtain⟨c,hc⟩:=Option.isSome_iff_exists.1 (h.iG i hm);have:=(gJ hc).2.1;rw[e,h.never]at this;omega
    ·exact h.queued i c hi
   ·show(tk _ i).isSome=true;rw[htk];split
    ·rfl
    ·exact h.iG i hi
  |some b=>
   rw[hb]at hbl;have hfree:S.free=b:=hbl;have hbm:b∈R.back:=List.mem_of_getLast? hb;obtain⟨b0,b1,b2⟩:=h.lI b hbm;rw[if_neg (by omega)];have hbs:R.back=R.back.dropLast++[b]:=by
    obtain⟨ys,hys⟩:=List.getLast?_eq_some_iff.1 hb;rw[hys];simp
   have hnr:∀p∈R.items,p.1≠b:=OO b2
   have QL:=h.free;rw[hbs,List.reverse_append]at QL;have hbn:=h.wZ;rw[hbs]at hbn;have WA:b∉R.back.dropLast:=fun hm=>by
    rw[List.nodup_append]at hbn;exact hbn.2.2 b hm b (by simp) rfl
   have htk:∀i:Int,tk {S with cs:=S.cs.set b.toNat ⟨x,-1,true,false⟩,free:=nx S.cs b.toNat,n:=S.n+1} i=if i=b then some ⟨x,-1,true,false⟩else tk S i:=fun i=>by
    unfold tk;by_cases hi:0≤i
    ·rw[if_pos hi,if_pos hi];by_cases e:i=b
     ·rw[if_pos e,e];simp[show b.toNat<S.cs.length by omega]
     ·rw[if_neg e];simp only;rw[List.getElem?_set_ne (by omega)]
    ·rw[if_neg hi,if_neg hi,if_neg (by omega)]
   have htb:tk S b=none:=by
    have:=h.find b;rw[b2]at this;simpa using this
   have hc:∀a l,Chain (nx S.cs) a l→b∉l→Chain (nx (S.cs.set b.toNat ⟨x,-1,true,false⟩)) a l:=fun a l hc hl=>hc.congr (fun z hz=>by
    rw[zU,if_neg];rintro⟨e,_⟩;have:=hc.qR z hz
    exact hl (by rw[show b=z by omega];exact hz))
   rw[hfree];refine⟨⟨h.most,h.rQ,h.queues,by simp[h.never],by simpa using h.room,?_,by simp[h.n],fun i=> ?_,?_,fun p hp=> ?_,?_,?_,fun c hc=> ?_,fun q hd tl hq=> ?_,h.gZ,h.uG,fun i c hi=> ?_,fun i hi=> ?_⟩,rfl⟩
   ·have:=h.count;rw[hbs]at this;simp at this ⊢
    omega
   ·rw[htk,uH _ R.items b x i rfl hnr];split
    ·rfl
    ·exact h.find i
   ·simp only[List.map_append,List.map_cons,List.map_nil];rw[List.nodup_append];refine⟨h.oK,by simp,fun a ha b' hb'=> ?_⟩;simp at hb';subst hb'
    obtain⟨p,hp,rfl⟩:=List.mem_map.1 ha;exact hnr p hp
   ·rcases List.mem_append.1 hp with hp|hp
    ·have:=h.uF p hp;simp;omega
    ·simp at hp;subst hp;simp;omega
   ·exact hc _ _ QL.2.2 (by simpa using WA)
   ·exact(List.nodup_append.1 hbn).1
   ·have hcb:c∈R.back:=by rw[hbs];exact List.mem_append.2 (.inl hc)
    obtain⟨c0,c1,c2⟩:=h.lI c hcb;refine⟨c0,by simpa using c1,?_⟩;rw[uH _ R.items b x c rfl hnr,if_neg (fun e=>WA (by rw[←e];exact hc))];exact c2
   ·obtain⟨h1,h2⟩:=h.queue q hd tl hq;refine⟨hc _ _ h1 (fun hz=> ?_),h2⟩;have hz':b∈R.bI.map (·.2):=by
     unfold RP.q at hz;obtain⟨p,hp,e⟩:=List.mem_map.1 hz;exact List.mem_map.2 ⟨p,(List.mem_filter.1 hp).1,e⟩
    have:=h.iG b hz';rw[htb]at this;cases this
   ·rw[htk]at hi;split at hi
    ·rename_i e
     cases hi
     refine⟨(fun e=>by cases e),fun hm=> ?_⟩;have:=h.iG i hm;rw[e,htb]at this;cases this
    ·exact h.queued i c hi
   ·show(tk _ i).isSome=true;rw[htk];split
    ·rfl
    ·exact h.iG i hi
def PS.give (S:PS α) (z:α) (h:Int):PS α×α×Int:=
 match tk S h with
 |none=>(S,z,7)
 |some c=>if c.queued then(S,z,9)else({S with cs:=S.cs.set h.toNat ⟨z,S.free,false,false⟩,free:=h,n:=S.n-1},c.x,0)
def RP.give (R:RP α) (z:α) (h:Int):RP α×α×Int:=
 match R.find h with
 |none=>(R,z,7)
 |some x=>if h∈R.bI.map (·.2)then(R,z,9)else({R with items:=R.items.filter (fun p=>p.1 != h),back:=R.back++[h]},x,0)
theorem Ja {S S':PS α} {b:Int} {c:PC α} (hb:0≤b) (hl:b<S.cs.length) (hcs:S'.cs=S.cs.set b.toNat c) (i:Int):tk S' i=if i=b then(if c.taken then some c else none)else tk S i:=by
 unfold tk;rw[hcs];by_cases hi:0≤i
 ·rw[if_pos hi,if_pos hi];by_cases e:i=b
  ·rw[if_pos e,e,List.getElem?_set_self (by omega),Option.filter_some]
  ·rw[if_neg e,List.getElem?_set_ne (by omega)]
 ·rw[if_neg hi,if_neg hi,if_neg (by omega)]
theorem Ey {cs:List (PC α)} {b:Int} {c:PC α} {a:Int} {l:List Int} (hb:0≤b) (hc:Chain (nx cs) a l) (hl:b∉l):Chain (nx (cs.set b.toNat c)) a l:=hc.congr (fun z hz=>by
 rw[zU,if_neg];rintro⟨e,_⟩;have:=hc.qR z hz
 exact hl (by rw[show b=z by omega];exact hz))
theorem q_in {R:RP α} {q z:Int} (h:z∈R.q q):z∈R.bI.map (·.2):=by
 unfold RP.q at h;obtain⟨p,hp,rfl⟩:=List.mem_map.1 h;exact List.mem_map.2 ⟨p,(List.mem_filter.1 hp).1,rfl⟩
theorem BX (l:List (Int×α)) (h:Int) (x:α) (hn:(l.map (·.1)).Nodup) (hm:(h,x)∈l):(l.filter (fun p=>p.1 != h)).length+1=l.length:=by
 induction l with
 |nil=>simp at hm
 |cons a r ih=>
  simp only[List.map_cons,List.nodup_cons]at hn;rcases List.mem_cons.1 hm with rfl|hm
  ·have e:(r.filter (fun p=>p.1 != h))=r:=by
    rw[List.filter_eq_self];intro p hp;simp;rintro rfl;exact hn.1 (List.mem_map.2 ⟨p,hp,rfl⟩)
   simp[e]
  ·have hne:a.1≠h:=by rintro e;exact hn.1 (List.mem_map.2 ⟨_,hm,e.symm⟩)
   simp[hne,ih hn.2 hm]
theorem Rel.give {S:PS α} {R:RP α} (h:Rel S R) (z:α) (k:Int):Rel (S.give z k).1 (R.give z k).1∧(S.give z k).2=(R.give z k).2:=by
 unfold PS.give RP.give;have hfk:=h.find k;cases ht:tk S k with
 |none=>
  rw[ht]at hfk;rw[←hfk];exact⟨h,rfl⟩
 |some c=>
  rw[ht]at hfk;obtain⟨k0,k1,k2,k3⟩:=gJ ht;rw[←hfk];have hq:=h.queued k c ht;by_cases CU:c.queued=true
  ·simp only[Option.map_some];rw[if_pos CU,if_pos (hq.1 CU)];exact⟨h,rfl⟩
  ·have hnq:k∉R.bI.map (·.2):=fun e=>CU (hq.2 e)
   simp only[Option.map_some];rw[if_neg CU,if_neg hnq];have hmem:(k,c.x)∈R.items:=yM (by simpa using hfk.symm);have hfl:=BX R.items k c.x h.oK hmem;have htk:=fun i=>Ja (S':= {S with cs:=S.cs.set k.toNat ⟨z,S.free,false,false⟩,free:=k,n:=S.n-1}) (S:=S) (b:=k) (c:=⟨z,S.free,false,false⟩) k0 k1 rfl i
   simp only[Bool.false_eq_true,if_false]at htk;have hkb:k∉R.back:=fun hm=>by have:=(h.lI k hm).2.2;rw[←hfk]at this;cases this
   have hfind:∀i,RP.find {R with items:=R.items.filter (fun p=>p.1 != k),back:=R.back++[k]} i=if i=k then none else R.find i:=fun i=>by
    unfold RP.find;by_cases e:i=k
    ·rw[if_pos e];have:(R.items.filter (fun p=>p.1 != k)).find? (fun p=>p.1==i)=none:=by
      rw[List.find?_eq_none];intro p hp;have:=(List.mem_filter.1 hp).2;simp at this ⊢;rw[e];exact this
     simp only[this];rfl
    ·rw[if_neg e];simp only;rw[List.find?_filter];congr 2
     funext p
     by_cases e2:p.1=i
     ·have:p.1≠k:=fun e3=>e (e2.symm.trans e3)
      simp[e2];exact fun e3=>e e3
     ·simp[e2]
   refine⟨⟨h.most,h.rQ,h.queues,by simp[h.never],by simpa using h.room,?_,?_,fun i=> ?_,?_,fun p hp=> ?_,?_,?_,fun b hb=> ?_,fun q hd tl hq'=> ?_,h.gZ,h.uG,fun i c' hi=> ?_,fun i hi=> ?_⟩,rfl⟩
   ·have:=h.count;simp;omega
   ·have:=h.n;show S.n-1=_;simp only;omega
   ·rw[htk,hfind];split
    ·rfl
    ·exact h.find i
   ·exact h.oK.sublist (List.filter_sublist.map _)
   ·have:=h.uF p (List.mem_filter.1 hp).1;simpa using this
   ·show Chain _ k (R.back++[k]).reverse;rw[List.reverse_append];refine⟨rfl,k0,?_⟩;have e:nx (S.cs.set k.toNat ⟨z,S.free,false,false⟩) k.toNat=S.free:=by rw[zU,if_pos ⟨rfl,by omega⟩]
    show Chain _ (nx _ k.toNat) _;simp only[e];exact Ey k0 h.free (by simpa using hkb)
   ·show(R.back++[k]).Nodup;rw[List.nodup_append];exact⟨h.wZ,by simp,fun a ha b hb=>by simp at hb;subst hb;rintro rfl;exact hkb ha⟩
   ·rcases List.mem_append.1 hb with hb|hb
    ·obtain⟨b0,b1,b2⟩:=h.lI b hb;exact⟨b0,by simpa using b1,by rw[hfind,b2];split<;>rfl⟩
    ·simp at hb;subst hb
     exact⟨k0,by simpa using k1,by rw[hfind,if_pos rfl]⟩
   ·obtain⟨h1,h2⟩:=h.queue q hd tl hq';exact⟨Ey k0 h1 (fun hm=>hnq (q_in hm)),h2⟩
   ·rw[htk]at hi;split at hi
    ·cases hi
    ·exact h.queued i c' hi
   ·show(tk _ i).isSome=true;rw[htk,if_neg (fun e=>hnq (by rw[←e];exact hi))];exact h.iG i hi
def mQ (cs:List (PC α)) (i:Nat) (v:Int):List (PC α):=match cs[i]? with|some c=>cs.set i {c with next:=v}|none=>cs
def jq (cs:List (PC α)) (i:Nat) (v:Int) (b:Bool):List (PC α):=match cs[i]? with|some c=>cs.set i {c with next:=v,queued:=b}|none=>cs
def PS.append (S:PS α) (q k:Int):PS α×Int:=
 if ¬(0≤q∧q<S.qs.length)then(S,6)else
 match tk S k with
 |none=>(S,7)
 |some c=>if c.queued then(S,8)else
  match S.qs[q.toNat]? with
  |none=>(S,0)
  |some (hd,tl)=>
   if hd= -1 then({S with cs:=jq S.cs k.toNat (-1) true,qs:=S.qs.set q.toNat (k,k)},0)
   else({S with cs:=mQ (jq S.cs k.toNat (-1) true) tl.toNat k,qs:=S.qs.set q.toNat (hd,k)},0)
def RP.append (R:RP α) (q k:Int):RP α×Int:=
 if ¬(0≤q∧q<R.queues)then(R,6)else
 match R.find k with
 |none=>(R,7)
 |some _=>if k∈R.bI.map (·.2)then(R,8)else({R with bI:=R.bI++[(q,k)]},0)
theorem TG (cs:List (PC α)) (i j:Nat) (v:Int) (hi:i<cs.length):nx (mQ cs i v) j=if i=j then v else nx cs j:=by
 unfold mQ;rw[List.getElem?_eq_getElem hi];simp only;rw[zU];by_cases h:i=j<;>simp[h]
 intro h2;exact absurd (h▸hi) (by omega)
theorem zV (cs:List (PC α)) (i j:Nat) (v:Int) (b:Bool) (hi:i<cs.length):nx (jq cs i v b) j=if i=j then v else nx cs j:=by
 unfold jq;rw[List.getElem?_eq_getElem hi];simp only;rw[zU];by_cases h:i=j<;>simp[h]
 intro h2;exact absurd (h▸hi) (by omega)
theorem OQ (cs:List (PC α)) (i:Nat) (v:Int):(mQ cs i v).length=cs.length:=by unfold mQ;split<;>simp
theorem jS (cs:List (PC α)) (i:Nat) (v:Int) (b:Bool):(jq cs i v b).length=cs.length:=by unfold jq;split<;>simp
theorem TI {S S':PS α} {t v:Int} (ht:0≤t) (hl:t<S.cs.length) (hcs:S'.cs=mQ S.cs t.toNat v) (i:Int):tk S' i=if i=t then(tk S i).map (fun c=> {c with next:=v})else tk S i:=by
 unfold mQ at hcs;rw[List.getElem?_eq_getElem (by omega:t.toNat<S.cs.length)]at hcs;rw[Ja ht hl hcs i];by_cases e:i=t
 ·subst e;rw[if_pos rfl,if_pos rfl];unfold tk;rw[if_pos ht,List.getElem?_eq_getElem (by omega:i.toNat<S.cs.length),Option.filter_some];split<;>rfl
 ·rw[if_neg e,if_neg e]
theorem Lu {S S':PS α} {t v:Int} {b:Bool} (ht:0≤t) (hl:t<S.cs.length) (hcs:S'.cs=jq S.cs t.toNat v b) (i:Int):tk S' i=if i=t then(tk S i).map (fun c=> {c with next:=v,queued:=b})else tk S i:=by
 unfold jq at hcs;rw[List.getElem?_eq_getElem (by omega:t.toNat<S.cs.length)]at hcs;rw[Ja ht hl hcs i];by_cases e:i=t
 ·subst e;rw[if_pos rfl,if_pos rfl];unfold tk;rw[if_pos ht,List.getElem?_eq_getElem (by omega:i.toNat<S.cs.length),Option.filter_some];split<;>rfl
 ·rw[if_neg e,if_neg e]
theorem lJ {β γ:Type} {f:β→γ}:∀ {l:List β} {a b:β},(l.map f).Nodup→a∈l→b∈l→f a=f b→a=b
 | [],_,_,_,h,_,_=>by simp at h
 |c::r,a,b,hn,ha,hb,e=>by
  simp only[List.map_cons,List.nodup_cons]at hn;rcases List.mem_cons.1 ha with rfl|ha'<;>rcases List.mem_cons.1 hb with rfl|hb'
  ·rfl
  ·exact absurd (List.mem_map.2 ⟨b,hb',e.symm⟩) hn.1
  ·exact absurd (List.mem_map.2 ⟨a,ha',e⟩) hn.1
  ·exact lJ hn.2 ha' hb' e
theorem QM (R:RP α) (q k q':Int):RP.q {R with bI:=R.bI++[(q,k)]} q'=if q'=q then R.q q'++[k]else R.q q':=by
 unfold RP.q;simp only[List.filter_append,List.map_append];by_cases e:q'=q
 ·subst e;simp
 ·have:¬q=q':=fun h=>e h.symm
  simp[e,this]
theorem Rel.append {S:PS α} {R:RP α} (h:Rel S R) (q k:Int):Rel (S.append q k).1 (R.append q k).1∧(S.append q k).2=(R.append q k).2:=by
 unfold PS.append RP.append;by_cases hq:0≤q∧q<(S.qs.length:Int)
 ·have hq':0≤q∧q<R.queues:=by rw[h.queues];exact hq
  rw[if_neg (by simpa using hq),if_neg (by simpa using hq')];have hfk:=h.find k;cases ht:tk S k with
  |none=>rw[ht]at hfk;rw[←hfk];exact⟨h,rfl⟩
  |some c=>
   rw[ht]at hfk;obtain⟨k0,k1,k2,k3⟩:=gJ ht;rw[←hfk];have hqk:=h.queued k c ht;simp only[Option.map_some];by_cases CU:c.queued=true
   ·rw[if_pos CU,if_pos (hqk.1 CU)];exact⟨h,rfl⟩
   ·have hnq:k∉R.bI.map (·.2):=fun e=>CU (hqk.2 e)
    rw[if_neg CU,if_neg hnq];obtain⟨⟨hd,tl⟩,pY⟩:∃p,S.qs[q.toNat]? =some p:=⟨S.qs[q.toNat]'(by omega),by simp⟩
    simp only[pY];obtain⟨hch,htl⟩:=h.queue q.toNat hd tl pY;have hqq:((q.toNat:Nat):Int)=q:=by omega
    rw[hqq]at hch htl;have hkn:∀q',k∉R.q q':=fun q' hm=>hnq (q_in hm)
    have common:∀(cs':List (PC α)) (hd':Int),cs'.length=S.cs.length→(∀i,i≠k→∀c,tk {S with cs:=cs',qs:=S.qs.set q.toNat (hd',k)} i=some c→∃c0,tk S i=some c0∧c0.queued=c.queued)→
     (∀i,(tk {S with cs:=cs',qs:=S.qs.set q.toNat (hd',k)} i).map (·.x)=(tk S i).map (·.x))→(∀c,tk {S with cs:=cs',qs:=S.qs.set q.toNat (hd',k)} k=some c→c.queued=true)→
     Chain (nx cs') S.free R.back.reverse→(∀q',q'≠q→∀a,Chain (nx S.cs) a (R.q q')→Chain (nx cs') a (R.q q'))→Chain (nx cs') hd' (R.q q++[k])→
     Rel {S with cs:=cs',qs:=S.qs.set q.toNat (hd',k)} {R with bI:=R.bI++[(q,k)]}:=by
     intro cs' hd' hl hA hB hC hD hE hF;refine⟨h.most,h.rQ,by simp[h.queues],by simp[h.never,hl],by simpa[hl]using h.room,by simpa[hl]using h.count,h.n,fun i=>(hB i).trans (h.find i),h.oK,by simpa[hl]using h.uF,hD,h.wZ,(fun b hb=>by have:=h.lI b hb;exact⟨this.1,by show b<(cs'.length:Int);rw[hl];exact this.2.1,this.2.2⟩),fun q' hd2 tl2 hq2=> ?_,?_,fun p hp=> ?_,fun i c' hi=> ?_,fun i hi=> ?_⟩
     ·rw[QM];by_cases e:q'=q.toNat
      ·subst e;simp only at hq2;rw[List.getElem?_set_self (by omega)]at hq2;cases hq2
       rw[if_pos hqq,hqq];exact⟨hF,by simp⟩
      ·simp only at hq2;rw[List.getElem?_set_ne (fun z=>e z.symm)]at hq2;obtain⟨h1,h2⟩:=h.queue q' hd2 tl2 hq2;rw[if_neg (by omega)];exact⟨hE _ (by omega) _ h1,h2⟩
     ·simp only[List.map_append,List.map_cons,List.map_nil];rw[List.nodup_append];exact⟨h.gZ,by simp,fun a ha b hb=>by simp at hb;subst hb;rintro rfl;exact hnq ha⟩
     ·rcases List.mem_append.1 hp with hp|hp
      ·have:=h.uG p hp;simpa using this
      ·simp at hp;subst hp;simpa using hq
     ·simp only[List.map_append,List.map_cons,List.map_nil,List.mem_append,List.mem_singleton];by_cases e:i=k
      ·subst e;exact⟨fun _=>.inr rfl,fun _=>hC c' hi⟩
      ·obtain⟨c0,h1,h2⟩:=hA i e c' hi;rw[←h2,h.queued i c0 h1];exact⟨.inl,fun hh=>hh.resolve_right e⟩
     ·have hi':i∈R.bI.map (·.2)∨i=k:=by simpa using hi
      have hs:((tk {S with cs:=cs',qs:=S.qs.set q.toNat (hd',k)} i).map (·.x)).isSome=true:=by
       rw[hB];rcases hi' with hi'|rfl
       ·simpa using h.iG i hi'
       ·simp[ht]
      simpa using hs
    have xW:=fun(S':PS α) (e:S'.cs=jq S.cs k.toNat (-1) true) i=>Lu (S:=S) (S':=S') (t:=k) (v:= -1) (b:=true) k0 k1 e i
    have hkb:k∉R.back:=fun hm=>by have:=(h.lI k hm).2.2;rw[←hfk]at this;cases this
    have hcq:∀a l,Chain (nx S.cs) a l→k∉l→Chain (nx (jq S.cs k.toNat (-1) true)) a l:=fun a l hc hl=>hc.congr (fun z hz=>by
     rw[zV _ _ _ _ _ (by omega),if_neg]
     intro e;have:=hc.qR z hz;exact hl (by rw[show k=z by omega];exact hz))
    by_cases hhd:hd= -1
    ·rw[if_pos hhd];have hnil:R.q q=[]:=by
      cases hl:R.q q with
      |nil=>rfl
      |cons a r=>rw[hl]at hch;have h1:=hch.1;have h2:=hch.2.1;omega
     refine⟨common _ k (jS _ _ _ _) (fun i hi c' hc'=> ?_) (fun i=> ?_) (fun c' hc'=> ?_) (hcq _ _ h.free (by simpa using hkb)) (fun q' _ a ha=>hcq _ _ ha (hkn q')) ?_,rfl⟩
     ·rw[xW _ rfl i,if_neg hi]at hc';exact⟨c',hc',rfl⟩
     ·rw[xW _ rfl i];split
      ·cases tk S i<;>rfl
      ·rfl
     ·rw[xW _ rfl k,if_pos rfl,ht]at hc';simp at hc';subst hc';rfl
     ·rw[hnil];exact⟨rfl,k0,by show nx _ _= -1;rw[zV _ _ _ _ _ (by omega),if_pos rfl]⟩
    ·rw[if_neg hhd];have hne:R.q q≠ []:=by
      intro e;rw[e]at hch;exact hhd hch
     obtain⟨l0,t,hlt⟩:∃l0 t,R.q q=l0++[t]:=⟨(R.q q).dropLast,(R.q q).getLast hne,(List.dropLast_concat_getLast hne).symm⟩
     have htt:tl=t:=by rw[htl,hlt];simp
     subst htt;have zW:tl∈R.q q:=by rw[hlt];simp
     have htm:=q_in zW;obtain⟨ct,hct⟩:=Option.isSome_iff_exists.1 (h.iG tl htm);obtain⟨t0,t1,t2,t3⟩:=gJ hct;have adP:tl≠k:=fun e=>hnq (e▸htm)
     have He:=fun(S':PS α) (e:S'.cs=mQ (jq S.cs k.toNat (-1) true) tl.toNat k) i=>TI (S:= {S with cs:=jq S.cs k.toNat (-1) true}) (S':=S') (t:=tl) (v:=k) t0 (by simp[jS];exact t1) e i
     have htb:tl∉R.back:=fun hm=>by have:=(h.lI tl hm).2.2;rw[←h.find tl,hct]at this;cases this
     have hnx:∀j,nx (mQ (jq S.cs k.toNat (-1) true) tl.toNat k) j=if tl.toNat=j then k else if k.toNat=j then -1 else nx S.cs j:=fun j=>by
      rw[TG _ _ _ _ (by rw[jS];omega)];split
      ·rfl
      ·rw[zV _ _ _ _ _ (by omega)]
     have WB:∀a l,Chain (nx S.cs) a l→k∉l→tl∉l→Chain (nx (mQ (jq S.cs k.toNat (-1) true) tl.toNat k)) a l:=fun a l hc hl hl2=>hc.congr (fun z hz=>by
      have:=hc.qR z hz
      rw[hnx,if_neg (fun e=>hl2 (by rw[show tl=z by omega];exact hz)),if_neg (fun e=>hl (by rw[show k=z by omega];exact hz))])
     have Ez:(R.q q).Nodup:=by
      unfold RP.q;exact h.gZ.sublist (List.filter_sublist.map _)
     refine⟨common _ hd (by rw[OQ,jS]) (fun i hi c' hc'=> ?_) (fun i=> ?_) (fun c' hc'=> ?_) (WB _ _ h.free (by simpa using hkb) (by simpa using htb)) (fun q' hq' a ha=>WB _ _ ha (hkn q') (fun hm=> ?_)) ?_,rfl⟩
     ·rw[He _ rfl i,xW _ rfl i,if_neg hi]at hc';split at hc'
      ·obtain⟨c0,h1,h2⟩:=Option.map_eq_some_iff.1 hc';exact⟨c0,h1,by rw[←h2]⟩
      ·exact⟨c',hc',rfl⟩
     ·rw[He _ rfl i,xW _ rfl i];split<;>split<;>(cases tk S i<;>rfl)
     ·rw[He _ rfl k,xW _ rfl k,if_neg (fun e=>adP e.symm),if_pos rfl,ht]at hc';simp at hc';subst hc';rfl
     ·
      unfold RP.q at hm zW;obtain⟨p1,hp1,e1⟩:=List.mem_map.1 hm;obtain⟨p2,hp2,e2⟩:=List.mem_map.1 zW;have m1:=(List.mem_filter.1 hp1);have m2:=(List.mem_filter.1 hp2);have:=lJ h.gZ m1.1 m2.1 (e1.trans e2.symm);subst this;have a1:=m1.2;have a2:=m2.2;simp at a1 a2
      exact hq' (a1.symm.trans a2)
     ·rw[hlt]at hch Ez;have hc1:=WB;rw[hlt];refine Chain.snoc hch Ez (fun z hz=> ?_) (by rw[hnx,if_pos rfl]) k0 (by rw[hnx,if_neg (by omega),if_pos rfl]);have hz0:=hch.qR z (List.mem_append.2 (.inl hz));have hz1:z≠tl:=fun e=>by rw[List.nodup_append]at Ez;exact Ez.2.2 z hz tl (by simp) e
      have hz2:z≠k:=fun e=>hkn q (by rw[hlt,←e];exact List.mem_append.2 (.inl hz))
      rw[hnx,if_neg (by omega),if_neg (by omega)]
 ·have hq':¬(0≤q∧q<R.queues):=by rw[h.queues];exact hq
  rw[if_pos hq,if_pos hq'];exact⟨h,rfl⟩
def PS.pop (S:PS α) (q:Int):PS α×Int×Bool:=
 if ¬(0≤q∧q<S.qs.length)then(S,0,false)else
 match S.qs[q.toNat]? with
 |none=>(S,0,false)
 |some (hd,tl)=>
  if hd= -1 then(S,0,false)
  else({S with cs:=jq S.cs hd.toNat (-1) false,qs:=S.qs.set q.toNat (nx S.cs hd.toNat,if nx S.cs hd.toNat= -1 then -1 else tl)},hd,true)
def RP.pop (R:RP α) (q:Int):RP α×Int×Bool:=
 match R.q q with
 | []=>(R,0,false)
 |h::_=>({R with bI:=R.bI.filter (fun p=>p.2 != h)},h,true)
theorem Rel.WC {S:PS α} {R:RP α} (h:Rel S R) {q:Int} (hq:¬(0≤q∧q<(S.qs.length:Int))):R.q q=[]:=by
 unfold RP.q;have:R.bI.filter (fun p=>p.1==q)=[]:=by
  rw[List.filter_eq_nil_iff];intro p hp e;have:=h.uG p hp;simp at e;subst e
  exact hq this
 rw[this];rfl
theorem w_ (R:RP α) (hn:(R.bI.map (·.2)).Nodup) (k q':Int):RP.q {R with bI:=R.bI.filter (fun p=>p.2 != k)} q'=(R.q q').filter (·!= k):=by
 unfold RP.q;simp only[List.filter_filter,List.filter_map];congr 1
 congr 1
 funext p
 simp only[Function.comp];rw[Bool.and_comm]
theorem Rel.pop {S:PS α} {R:RP α} (h:Rel S R) (q:Int):Rel (S.pop q).1 (R.pop q).1∧(S.pop q).2=(R.pop q).2:=by
 unfold PS.pop RP.pop;by_cases hq:0≤q∧q<(S.qs.length:Int)
 ·rw[if_neg (by simpa using hq)];obtain⟨⟨hd,tl⟩,pY⟩:∃p,S.qs[q.toNat]? =some p:=⟨S.qs[q.toNat]'(by omega),by simp⟩
  simp only[pY];obtain⟨hch,htl⟩:=h.queue q.toNat hd tl pY;have hqq:((q.toNat:Nat):Int)=q:=by omega
  rw[hqq]at hch htl;cases hl:R.q q with
  |nil=>
   rw[hl]at hch;rw[if_pos (show hd= -1 from hch)];exact⟨h,rfl⟩
  |cons k r=>
   have Ez:(R.q q).Nodup:=by
    unfold RP.q;exact h.gZ.sublist (List.filter_sublist.map _)
   rw[hl]at hch htl Ez;obtain⟨rfl,k0,hr⟩:=hch;rw[if_neg (by omega)];have ZA:hd∈R.bI.map (·.2):=q_in (q:=q) (by rw[hl];simp);obtain⟨c,hc⟩:=Option.isSome_iff_exists.1 (h.iG hd ZA);obtain⟨_,k1,k2,k3⟩:=gJ hc;have hkr:hd∉r:=(List.nodup_cons.1 Ez).1;have hkb:hd∉R.back:=fun hm=>by have:=(h.lI hd hm).2.2;rw[←h.find hd,hc]at this;cases this
   have hcq:∀a l,Chain (nx S.cs) a l→hd∉l→Chain (nx (jq S.cs hd.toNat (-1) false)) a l:=fun a l hc hl=>hc.congr (fun z hz=>by
    rw[zV _ _ _ _ _ (by omega),if_neg]
    intro e;have:=hc.qR z hz;exact hl (by rw[show hd=z by omega];exact hz))
   have xW:=fun(S':PS α) (e:S'.cs=jq S.cs hd.toNat (-1) false) i=>Lu (S:=S) (S':=S') (t:=hd) (v:= -1) (b:=false) k0 k1 e i
   have hother:∀q',q'≠q→hd∉R.q q':=fun q' hne hm=>by
    have zW:hd∈R.q q:=by rw[hl];simp
    unfold RP.q at hm zW;obtain⟨p1,hp1,e1⟩:=List.mem_map.1 hm;obtain⟨p2,hp2,e2⟩:=List.mem_map.1 zW;have m1:=(List.mem_filter.1 hp1);have m2:=(List.mem_filter.1 hp2);have:=lJ h.gZ m1.1 m2.1 (e1.trans e2.symm);subst this;have a1:=m1.2;have a2:=m2.2;simp at a1 a2
    exact hne (a1.symm.trans a2)
   have hfil:∀l:List Int,hd∉l→l.filter (·!= hd)=l:=fun l hl=>by
    rw[List.filter_eq_self];intro a ha;simp;rintro rfl;exact hl ha
   have hmap:(R.bI.filter (fun p=>p.2 != hd)).map (·.2)=(R.bI.map (·.2)).filter (·!= hd):=by rw[List.filter_map];rfl
   refine⟨⟨h.most,h.rQ,by simp[h.queues],by simp[h.never,jS],by simpa[jS]using h.room,by simpa[jS]using h.count,h.n,fun i=> ?_,h.oK,by simpa[jS]using h.uF,hcq _ _ h.free (by simpa using hkb),h.wZ,(fun b hb=>by have:=h.lI b hb;exact⟨this.1,by simpa[jS]using this.2.1,this.2.2⟩),fun q' hd2 tl2 hq2=> ?_,?_,fun p hp=> ?_,fun i c' hi=> ?_,fun i hi=> ?_⟩,rfl⟩
   ·rw[xW _ rfl i];split
    ·rw[←show R.find i=RP.find {R with bI:=R.bI.filter (fun p=>p.2 != hd)} i from rfl,←h.find i];cases tk S i<;>rfl
    ·exact h.find i
   ·rw[w_ R h.gZ];by_cases e:q'=q.toNat
    ·subst e;simp only at hq2;rw[List.getElem?_set_self (by omega)]at hq2;cases hq2
     rw[hqq,hl];have e2:(hd::r).filter (·!= hd)=r:=by simp[hfil r hkr]
     rw[e2];refine⟨hcq _ _ hr hkr,?_⟩;have hhead:=hr.head;cases r with
     |nil=>rw[if_pos (show nx S.cs hd.toNat= -1 from hhead)];rfl
     |cons y r'=>
      have hy:=hr.2.1;rw[if_neg (by rw[hhead];simp;omega),htl];simp[List.getLast?_cons_cons]
    ·simp only at hq2;rw[List.getElem?_set_ne (fun z=>e z.symm)]at hq2;obtain⟨h1,h2⟩:=h.queue q' hd2 tl2 hq2;have hno:=hother q' (by omega);rw[hfil _ hno];exact⟨hcq _ _ h1 hno,h2⟩
   ·show((R.bI.filter (fun p=>p.2 != hd)).map (·.2)).Nodup;rw[hmap];exact h.gZ.sublist List.filter_sublist
   ·have:=h.uG p (List.mem_filter.1 hp).1;simpa using this
   ·show c'.queued=true↔i∈(R.bI.filter (fun p=>p.2 != hd)).map (·.2);rw[hmap,List.mem_filter];rw[xW _ rfl i]at hi;by_cases e:i=hd
    ·rw[if_pos e]at hi;obtain⟨c0,h1,rfl⟩:=Option.map_eq_some_iff.1 hi;simp[e]
    ·rw[if_neg e]at hi;rw[h.queued i c' hi];simp[e]
   ·have hi':i∈(R.bI.filter (fun p=>p.2 != hd)).map (·.2):=hi;rw[hmap,List.mem_filter]at hi';rw[xW _ rfl i,if_neg (by simpa using hi'.2)];exact h.iG i hi'.1
 ·rw[if_pos hq,h.WC hq];exact⟨h,rfl⟩
theorem Rel.ends {α:Type} {S:PS α} {R:RP α} (h:Rel S R) {q:Nat} {hd tl:Int} (hq:S.qs[q]? =some (hd,tl)):
 (hd= -1∧tl= -1∧R.q q=[])∨∃c d,tk S hd=some c∧c.queued=true∧tk S tl=some d∧d.queued=true:=by
 obtain⟨h1,h2⟩:=h.queue q hd tl hq;have h3:=h1.head;cases hl:R.q q with
 |nil=>left;rw[hl]at h2 h3;exact⟨h3,h2,rfl⟩
 |cons z r=>
  right
  have hz:hd∈R.q q:=by rw[h3,hl];simp
  have ht:tl∈R.q q:=by
   rw[h2,hl,List.getLast?_eq_some_getLast (by simp)];exact List.getLast_mem _
  have a1:=h.iG _ (q_in hz);have a2:=h.iG _ (q_in ht);obtain⟨c,hc⟩:=Option.isSome_iff_exists.1 a1;obtain⟨d,hd'⟩:=Option.isSome_iff_exists.1 a2;exact⟨c,d,hc,(h.queued _ c hc).2 (q_in hz),hd',(h.queued _ d hd').2 (q_in ht)⟩
theorem Rel.heads {α:Type} {S:PS α} {R:RP α} (h:Rel S R):∀x∈S.qs,-1≤x.1∧x.1≤4096:=by
 intro x hx;obtain⟨i,hi⟩:=List.getElem?_of_mem hx;obtain⟨hd,tl⟩:=x;have h0:=h.room;have h1:=h.rQ.2;rcases h.ends hi with⟨rfl,_⟩|⟨c,d,e1,_⟩
 ·simp
 ·have:=gJ e1;simp only;omega
theorem Rel.len {α:Type} {S:PS α} {R:RP α} (h:Rel S R):S.cs.length≤4096:=by
 have h0:=h.room;have h1:=h.rQ.2;omega
end Go.Proofs.YtjiehhlghjnfhaaGreatDoor.cq
