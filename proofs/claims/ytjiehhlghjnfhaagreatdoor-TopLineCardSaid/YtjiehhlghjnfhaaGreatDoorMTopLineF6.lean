/- Whether rules may be: the program's Check. -/
import Derived.Test.YtjiehhlghjnfhaaGreatDoorMTopLineF5
import Derived.Lib.Join
import Derived.WalkKit
import Derived.Test.YtjiehhlghjnfhaaGreatDoorMTopLineF0
import Derived.Test.YtjiehhlghjnfhaaGreatDoorProg
import Derived.BigQuiet
import Derived.Deep.QuietTactic
import Derived.Test.YtjiehhlghjnfhaaGreatDoorShelf
import Derived.Test.YtjiehhlghjnfhaaGreatDoorMTopLineF1
set_option linter.unusedVariables false
set_option linter.unusedSimpArgs false
set_option maxHeartbeats 8000000
namespace Go.Proofs.YtjiehhlghjnfhaaGreatDoor
open Go.RowKit
theorem Y7 {l:List dI} {j:Nat} (h:j<l.length) (hn:l.length≤64) (hb:badR l[j]=true):oC l=6:=by
 unfold oC;rw[if_neg (by omega),if_pos (List.any_eq_true.2 ⟨_,List.getElem_mem h,hb⟩)]
theorem SS {l:List dI} (hn:l.length≤64) (h:∀r∈l,badR r=false):oC l=0:=wM.2 ⟨hn,h⟩
theorem KG {l:List dI} {j:Nat} (h:j<l.length) (hb:badR l[j]=false) (ha:∀r∈l.take j,badR r=false):∀r∈l.take (j+1),badR r=false:=by
 rw[List.take_succ_eq_append_getElem h];intro r hr;rw[List.mem_append,List.mem_singleton]at hr;rcases hr with hr|rfl
 ·exact ha r hr
 ·exact hb
set_option maxRecDepth 100000 in
theorem QA (l:List dI) (hok:∀r∈l,r.Ok) (v:Value) (w:World) (h:Sl w v l.length 7 (l.flatMap ja)):
 Calls Tryz.prog 53 #[v] w fun e w'=>e=.returned (.int .i64 (oC l:Nat))∧Kp none' w w':=by
 have hmax:=h.max;obtain⟨ao,cap,rfl⟩:∃ao cap,v=.slice ao l.length cap:=by obtain⟨ao,cap,rfl,_⟩:=h.is;exact⟨_,_,rfl⟩
 have HS:=ae h;have HO:=ae hok;clear h hok;by_cases hbig:64<l.length
 ·have hc:oC l=20:=by unfold oC;rw[if_pos hbig]
  have HC:=ae hc;obtain⟨c,hcc⟩:∃c,oC l=c:=⟨_,rfl⟩
  rw[hcc]at hc ⊢;subst hc;have hbi:(64:Int)<l.length:=by omega
  clear hcc
  go_enter Tryz.func53,Tryz.ntmps53
  go_wp2
  go_ret
  exact⟨rfl,Kp.refl _ _⟩
 ·have hbi:¬(64:Int)<l.length:=by omega
  obtain⟨c,hcc⟩:∃c,oC l=c:=⟨_,rfl⟩
  rw[hcc];have HC:=ae hcc;clear hcc
  go_enter Tryz.func53,Tryz.ntmps53
  go_wp2_with fail
  go_loopw [10] (fun i wr=>∃j:Nat,i=.int .i64 j∧j≤l.length∧Hid ((∀r∈l.take j,badR r=false)∧Kp none' w wr)) (fun i _=>l.length-(intOf i).toNat)
  case atStart=>exact⟨0,rfl,Nat.zero_le _,by simp,Kp.refl _ _⟩
  case round=>
   obtain⟨j,rfl,hj,HI⟩:=hrel;by_cases hlt:j<l.length
   ·obtain⟨g,off,cap',e1,hc⟩:=(HS.out.old HI.out.2).at kR (by decide) j hlt;injection e1 with e1 _ e3
    subst e1 e3;have hji:(j:Int)<l.length:=by omega
    have hbad:=Y7 hlt (by omega);have hgood:=fun h=>KG hlt h HI.out.1
    obtain⟨r,hrr⟩:∃r,l[j]=r:=⟨_,rfl⟩
    have hro:=HO.out r (by rw[←hrr];exact List.getElem_mem hlt);rw[hrr]at hc hbad hgood;have HBAD:=ae hbad;have aci:=ae hgood;have c0:wr.cell? ⟨g,off+j*7,none⟩=some (.int .u32 r.s.1):=hc 0 _ rfl;have c1:=hc 1 _ rfl;have c2:=hc 2 _ rfl;have c3:=hc 3 _ rfl;have c4:=hc 4 _ rfl;have c5:=hc 5 _ rfl;have c6:=hc 6 _ rfl;have HRs:=ae (fun W=>wP r.s.1 r.s.2 W hro.s.1 hro.s.2);have SV:=ae (fun W=>wP r.d.1 r.d.2 W hro.d.1 hro.d.2);have HB:=ae (ag.new wr (ja r) 153);have aB:=ae (HI.out.2.alloc (.cells (ja r).toArray 153));clear hc hrr hbad hgood hro;cases hs:cO r.s.1 r.s.2 with
    |false=>
     have hb:badR r=true:=by unfold badR;rw[hs];rfl
     have HE:=ae (HC.out.symm.trans (HBAD.out hb));rw[hs]at HRs;clear hb hs SV
     go_wp2_with fail
     refine(HRs.out _).mono ?_;rintro e w1 ⟨rfl,hk1⟩;have ax:=ae (aB.out.trans hk1);clear hk1
     go_wp2_with fail
     go_ret
     exact⟨by rw[HE.out];rfl,ax.out⟩
    |true=>
     rw[hs]at HRs;cases hd:cO r.d.1 r.d.2 with
     |false=>
      have hb:badR r=true:=by unfold badR;rw[hs,hd];rfl
      have HE:=ae (HC.out.symm.trans (HBAD.out hb));rw[hd]at SV;clear hb hs hd
      go_wp2_with fail
      refine(HRs.out _).mono ?_;rintro e w1 ⟨rfl,hk1⟩;have ax:=ae (aB.out.trans hk1);have r2:=(HB.out.kp hk1 (fun x=>x)).cell 2 rfl;have r3:=(HB.out.kp hk1 (fun x=>x)).cell 3 rfl;clear hk1
      go_wp2_with fail
      refine(SV.out _).mono ?_;rintro e w2 ⟨rfl,hk2⟩;have ak:=ae (ax.out.trans hk2);clear hk2
      go_wp2_with fail
      go_ret
      exact⟨by rw[HE.out];rfl,ak.out⟩
     |true=>
      rw[hd]at SV;by_cases hlh:r.lo≤r.hi
      ·have hb:badR r=false:=bad_false.2 ⟨hs,hd,hlh⟩;have HG:=ae (aci.out hb);have adE:¬r.hi<r.lo:=by omega
       clear hb hs hd
       go_wp2_with fail
       refine(HRs.out _).mono ?_;rintro e w1 ⟨rfl,hk1⟩;have ax:=ae (aB.out.trans hk1);have HB1:=ae (HB.out.kp hk1 (fun x=>x));have r2:=HB1.out.cell 2 rfl;have r3:=HB1.out.cell 3 rfl;clear hk1
       go_wp2_with fail
       refine(SV.out _).mono ?_;rintro e w2 ⟨rfl,hk2⟩;have ak:=ae (ax.out.trans hk2);have r4:=(HB1.out.kp hk2 (fun x=>x)).cell 4 rfl;have r5:=(HB1.out.kp hk2 (fun x=>x)).cell 5 rfl;clear hk2 r2 r3
       go_wp2_with fail
       go_roundw
       case rel=>exact⟨j+1,by go_num,by omega,HG.out,ak.out⟩
       case measure=>simp[intOf];omega
      ·have hb:badR r=true:=by unfold badR;rw[hs,hd,decide_eq_false hlh];rfl
       have HE:=ae (HC.out.symm.trans (HBAD.out hb));have adE:r.hi<r.lo:=by omega
       clear hb hs hd
       go_wp2_with fail
       refine(HRs.out _).mono ?_;rintro e w1 ⟨rfl,hk1⟩;have ax:=ae (aB.out.trans hk1);have HB1:=ae (HB.out.kp hk1 (fun x=>x));have r2:=HB1.out.cell 2 rfl;have r3:=HB1.out.cell 3 rfl;clear hk1
       go_wp2_with fail
       refine(SV.out _).mono ?_;rintro e w2 ⟨rfl,hk2⟩;have ak:=ae (ax.out.trans hk2);have r4:=(HB1.out.kp hk2 (fun x=>x)).cell 4 rfl;have r5:=(HB1.out.kp hk2 (fun x=>x)).cell 5 rfl;clear hk2 r2 r3
       go_wp2_with fail
       go_ret
       exact⟨by rw[HE.out];rfl,ak.out⟩
   ·have hjn:j=l.length:=by omega
    subst hjn;have hg:=HI.out.1;rw[List.take_length]at hg;have HE:=ae (HC.out.symm.trans (SS (by omega) hg));clear hg
    go_wp2_with fail
    go_ret
    exact⟨by rw[HE.out];rfl,HI.out.2⟩
end Go.Proofs.YtjiehhlghjnfhaaGreatDoor
namespace Go.Proofs.YtjiehhlghjnfhaaGreatDoor
def acj (c:UInt8):Bool:=decide (48≤c.toNat)&&decide (c.toNat≤57)
def num (l:List UInt8):Nat:=l.foldl (fun n c=>n*10+(c.toNat-48)) 0
def yB:Nat:=18446744073709551616
def good (l:List UInt8):Bool:=l.all acj&& !l.isEmpty&& !(decide (1<l.length)&&l.head? ==some 48)
def rd (l:List UInt8):Nat×Int:=if good l then(if num l<yB then(num l,0)else(0,5))else(0,3)
def digit (n:Nat):UInt8:=UInt8.ofNat (48+n%10)
def put (n:Nat):List UInt8:=if n<10 then[digit n]else put (n/10)++[digit n]
termination_by n
decreasing_by omega
def blank (c:UInt8):Bool:=c.toNat==32||c.toNat==9
def ack (p:List (List UInt8)×List UInt8) (c:UInt8):List (List UInt8)×List UInt8:=
 if blank c then(if p.2=[]then(p.1,[])else(p.1++[p.2],[]))else(p.1,p.2++[c])
def wst (l:List UInt8):List (List UInt8)×List UInt8:=l.foldl ack ([],[])
def adF (p:List (List UInt8)×List UInt8):List (List UInt8):=if p.2=[]then p.1 else p.1++[p.2]
def words (l:List UInt8):List (List UInt8):=adF (wst l)
def acm (c:UInt8) (p:List (List UInt8)×List UInt8) (d:UInt8):List (List UInt8)×List UInt8:=if d==c then(p.1++[p.2],[])else(p.1,p.2++[d])
def pst (c:UInt8) (l:List UInt8):List (List UInt8)×List UInt8:=l.foldl (acm c) ([],[])
def parts (c:UInt8) (l:List UInt8):List (List UInt8):=(pst c l).1++[(pst c l).2]
structure iW where
 id:Nat
 cost:Nat
 budget:Nat
 size:Nat
 cap:Nat
structure iW.ok (f:iW):Prop where
 id:f.id<4294967296
 cost:f.cost<18446744073709551616
 budget:f.budget<18446744073709551616
 size:f.size<18446744073709551616
 cap:f.cap<18446744073709551616
instance:Inhabited iW:=⟨⟨0,0,0,0,0⟩⟩
def gU (f:iW):List Value:=[.int .u32 f.id,.int .u64 f.cost,.int .u64 f.budget,.int .u64 f.size,.int .u64 f.cap]
theorem mD (f:iW):(gU f).length=5:=rfl
structure mF where
 rank:Int
 back:Int
 levels:Int
 queues:Int
 aI:Int
 bytes:Nat
 share:Int
 fQ:Nat
 rate:Nat
 aQ:Nat
 aS:List iW
structure mF.ok (c:mF):Prop where
 rank: -9223372036854775808≤c.rank∧c.rank≤9223372036854775807
 back: -9223372036854775808≤c.back∧c.back≤9223372036854775807
 levels: -9223372036854775808≤c.levels∧c.levels≤9223372036854775807
 queues: -9223372036854775808≤c.queues∧c.queues≤9223372036854775807
 aI: -9223372036854775808≤c.aI∧c.aI≤9223372036854775807
 bytes:c.bytes<yB
 share: -9223372036854775808≤c.share∧c.share≤9223372036854775807
 fQ:c.fQ<yB
 rate:c.rate<yB
 aQ:c.aQ<yB
 aS:∀f∈c.aS,f.ok
def iF (l:List iW):Int:=if l.length=0∨64<l.length then 29 else if(l.map (·.id)).Nodup then 0 else 30
def kS (c:mF):Int:=
 if c.aI<1∨4096<c.aI∨c.bytes=0∨c.share<0∨16<c.share then 25
 else if 18446744073709551615/2^c.share.toNat<c.bytes then 25 else if c.fQ<1∨65535<c.fQ then 26 else iF c.aS
def chk (c:mF):Int:=
 if c.rank<1∨3<c.rank∨c.back<1∨3<c.back then 22 else if c.levels<1∨3<c.levels then 23 else if c.queues<1∨32<c.queues then 24
 else if kS c≠0 then kS c else if c.rate=0 then 27 else if c.aQ<c.fQ then 28 else 0
def skip (l:List UInt8):Bool:=match words l with| []=>true|w::_=>w.head? ==some 35
end Go.Proofs.YtjiehhlghjnfhaaGreatDoor
namespace Go.Proofs.YtjiehhlghjnfhaaGreatDoor
open Go Go.RowKit
theorem yC {P:Program} (w:World) (t ty e:TypeId) (i:TypeInfo) (ht:P.underlying t=some (.slice e)) (hi:P.info? e=some i) (base:Option Addr) (n cap c:Nat) (hn:n≤cap):(Builtin.append_ #[t,t] ty #[.slice base n cap,.slice none 0 c]).run P w=.ok (.slice base n cap) w:=by
 cases base with
 |none=>simp[Builtin.append_,run_underlying ht,sizeOf,typeInfo,hi,Builtin.lenOf,Builtin.firstCells,hn]
 |some a=>simp[Builtin.append_,run_underlying ht,sizeOf,typeInfo,hi,Builtin.lenOf,Builtin.firstCells,hn,storeCells]
theorem GY {P:Program} {t e:TypeId} {z:Value} {size bytes:Nat} (T:qY P t e z size bytes) {ops:Array Oper} {rest:List Oper} {o:Oper} {a:Act} {Q:Exit→Act→World→Prop} {w:World} (s x:Operand)
 (hgd:o.guard=none) (ho:o.op=.call {callee:=.builtin .append,args:=#[s,x],argTypes:=#[t,t]}) (base:Nat) {v:Value} {n:Nat} {xs:List Value} (hown:w.ownsRow base e size v n xs)
 {v2:Value} {m:Nat} {news:List Value} (hs:a.eval s=v) (hx:a.eval x=v2) (hsl:Sl w v2 m size news) (h1:news.all (·.oneCell')=true)
 (hbytes:(n+m)*bytes≤140737488355328) (h63:n+m≤9223372036854775807) (hbase:base≤w.heap.size)
 (h:∀v' w',w'.ownsRow base e size v' (n+m) (xs++news)→w.grownBy w' v.ownBlock→wpList P ops Q rest (a.put o.dst v') w'):wpList P ops Q (o::rest) a w:=by
 obtain⟨i,hi,hz0,hz1,hz2⟩:=info_parts T.info;obtain⟨ao,c,rfl,hc⟩:=hsl.is;cases ao with
 |some ad=>
  refine wpList_append_own w hgd s x t ho base e i z size bytes T.ht hi hz0 hz1 hz2 T.hz T.pos v n xs hs hown ad m c news hx hsl.len ?_ (by simpa using h1) (by unfold maxLen;omega) hbytes hbase (fun v' w' a1 a2 _=>h v' w' a1 a2);intro j u hu;obtain⟨b,off,e1,h2⟩:=hc j u hu;injection e1 with e1
  subst e1;have e:(⟨b,off,none⟩:Addr).add j=⟨b,off+j,none⟩:=by unfold Addr.add;split<;>simp_all
  rw[e];exact h2
 |none=>
  have hn:news=[]:=by
   cases news with
   |nil=>rfl
   |cons u r=>obtain⟨_,_,e1,_⟩:=hc 0 u rfl;cases e1
  subst hn;have hm:m=0:=by
   have h1:=hsl.len;rw[List.length_nil]at h1;rcases Nat.mul_eq_zero.1 h1.symm with h2|h2
   ·exact h2
   ·have:=T.pos;omega
  subst hm;obtain⟨bo,cap,rfl⟩:=dP hown;have hcap:n≤cap:=by
   rcases hown.2 with⟨h0,hn⟩|⟨g,cap',cur,hv,_,_,h2,_⟩
   ·omega
   ·injection hv with _ _ h3;omega
  have hr:=yC (P:=P) w t o.type e i T.ht hi bo n cap c hcap;refine wpList_plain hgd fun K hK=> ?_
  unfold Oper.wp execOp;simp only[ho,resolve,invoke,builtin,Sem.run_bind,Sem.run_pure,Result.andThen_ok,List.map_toArray,List.map_cons,List.map_nil,hs,hx,hr];exact hK _ _ (h _ _ (by simpa using hown) ⟨rfl,rfl,rfl,Nat.le_refl _,fun _ _ _=>rfl⟩)
end Go.Proofs.YtjiehhlghjnfhaaGreatDoor
namespace Go.Proofs.YtjiehhlghjnfhaaGreatDoor
open Go.RowKit
end Go.Proofs.YtjiehhlghjnfhaaGreatDoor
namespace Go.Proofs.YtjiehhlghjnfhaaGreatDoor
end Go.Proofs.YtjiehhlghjnfhaaGreatDoor
namespace Go.Proofs.YtjiehhlghjnfhaaGreatDoor
open Go Go.RowKit Go.Shelf
def eU (x:Nat):Value:=.int .u32 x
theorem tU32:qY Tryz.prog 224 42 (.int .u32 0) 1 4:=⟨Tryz.underlying224,by kernel_rfl,rfl,by decide⟩
theorem aba:qY Tryz.prog 23 197 (.agg #[.int .u32 0,.int .u64 0,.int .u64 0,.int .u64 0,.int .u64 0]) 5 40:=⟨Tryz.underlying23,by kernel_rfl,rfl,by decide⟩
theorem tU64:qY Tryz.prog 264 22 (.int .u64 0) 1 8:=⟨Tryz.underlying264,by kernel_rfl,rfl,by decide⟩
theorem Y8 {xs:List Nat} {i:Nat} (h:i<xs.length):(xs.map eU)[i]? =some (.int .u32 (xs[i]:Int)):=by
 rw[List.getElem?_map,List.getElem?_eq_getElem h];rfl
theorem Y9 (xs:List Nat) (x:Nat) (v:Value) (w:World) (h:Sl w v xs.length 1 (xs.map eU)):Calls Tryz.prog 222 #[v,.int .u32 x] w fun e w'=>(∃r:Int,e=.returned (.int .i64 r)∧(0≤r↔x∈xs))∧Kp none' w w':=by
 obtain⟨ao,cap,rfl⟩:∃ao cap,v=.slice ao xs.length cap:=by obtain⟨ao,cap,rfl,_⟩:=h.is;exact⟨_,_,rfl⟩
 have hmx:=h.max;have HS:=ae h;clear h
 go_enter Tryz.func222,Tryz.ntmps222
 go_wp2
 go_loopw [8] (fun i0 wr=>∃k:Nat,i0=.int .i64 k∧k≤xs.length∧Hid ((∀(j:Nat) (hj:j<xs.length),j<k→x≠xs[j])∧Kp none' w wr)) (fun i0 _=>xs.length-(intOf i0).toNat)
 case atStart=>exact⟨0,rfl,by omega,fun j _ h=>by omega,Kp.refl _ _⟩
 case round=>
  obtain⟨k,rfl,hk,hr⟩:=hrel;by_cases hlt:k<xs.length
  ·have hki:(k:Int)<xs.length:=by omega
   obtain⟨ao',cap',e1,hc⟩:=(HS.out.old hr.out.2).is;injection e1 with e1 _ e3
   subst e1 e3;obtain⟨b,off,rfl,hcell⟩:=hc k _ (Y8 hlt);by_cases hx:x=xs[k]
   ·have hxi:(x:Int)=(xs[k]:Nat):=by rw[←hx]
    have hxb:((x:Int)==((xs[k]:Nat):Int))=true:=by rw[beq_iff_eq];exact hxi
    have HX:Hid (x∈xs):=by show _∈_;rw[hx];exact List.getElem_mem hlt
    clear hx hc hxi
    go_wp2
    go_ret
    exact⟨⟨_,rfl,⟨fun _=>HX.out,fun _=>by omega⟩⟩,hr.out.2⟩
   ·have hxb:((x:Int)==((xs[k]:Nat):Int))=false:=by rw[beq_eq_false_iff_ne];omega
    have HX:=ae hx;clear hx hc
    go_wp2
    go_roundw
    case rel=>exact⟨k+1,by go_num,by omega,fun j hj h=>by
     rcases Nat.lt_or_ge j k with h1|h1
     ·exact hr.out.1 j hj h1
     ·have:j=k:=by omega
      subst this;exact HX.out,hr.out.2⟩
    case measure=>simp[intOf];omega
  ·have hke:k=xs.length:=by omega
   subst hke
   go_wp2
   go_ret
   refine⟨⟨_,rfl,⟨fun h=>by omega,fun h=> ?_⟩⟩,hr.out.2⟩;obtain⟨i,hi,e⟩:=List.mem_iff_getElem.1 h;exact absurd e.symm (hr.out.1 i hi hi)
theorem Oj (xs:List Nat) (x:Nat) (v:Value) (w:World) (h:Sl w v xs.length 1 (xs.map eU)):Calls Tryz.prog 196 #[v,.int .u32 x] w fun e w'=>e=.returned (.bool (decide (x∈xs)))∧Kp none' w w':=by
 have HI:=ae (Y9 xs x v w h);clear h
 go_enter Tryz.func196,Tryz.ntmps196
 go_wp2_with fail
 refine(HI.out).mono ?_;rintro e w1 ⟨⟨r,rfl,hr⟩,k1⟩;have HK:=ae k1;have hd:decide (0≤r)=decide (x∈xs):=by rw[decide_eq_decide];exact hr
 have HD:=ae hd;clear hr hd k1 HI
 go_wp2
 go_ret
 exact⟨by rw[←HD.out];rfl,HK.out⟩
def iP (l:List iW):List Nat:=l.map (·.id)
theorem D6 (l:List iW) (k:Nat) (h:k<l.length):iP (l.take (k+1))=iP (l.take k)++[l[k].id]:=by
 unfold iP;rw[List.take_succ_eq_append_getElem h,List.map_append];rfl
theorem SX (l:List iW) (k:Nat) (h:k≤l.length):(iP (l.take k)).length=k:=by unfold iP;rw[List.length_map,List.length_take];omega
theorem KH {xs:List Nat} {x:Nat} (h:xs.Nodup) (hx:x∉xs):(xs++[x]).Nodup:=by
 rw[List.nodup_append];exact⟨h,by simp,fun a ha b hb=>by simp at hb;subst hb;exact fun e=>hx (e▸ha)⟩
theorem Ol {l:List iW} {k:Nat} (h:k<l.length) (hx:l[k].id∈iP (l.take k)):¬(iP l).Nodup:=by
 intro hn;have e:iP l=iP (l.take (k+1))++iP (l.drop (k+1)):=by unfold iP;rw[←List.map_append,List.take_append_drop]
 rw[e,D6 l k h,List.nodup_append]at hn;have:=(List.nodup_append.1 hn.1).2.2 _ hx l[k].id (by simp);exact this rfl
set_option maxRecDepth 100000 in
theorem QB (l:List iW) (hl:l.length≤64) (v:Value) (w:World) (h:Sl w v l.length 5 (l.flatMap gU)):Calls Tryz.prog 152 #[v] w fun e w'=>e=.returned (.bool (!decide (iP l).Nodup))∧Kp none' w w':=by
 obtain⟨ao,cap,rfl⟩:∃ao cap,v=.slice ao l.length cap:=by obtain⟨ao,cap,rfl,_⟩:=h.is;exact⟨_,_,rfl⟩
 have HS:=ae h;clear h
 go_enter Tryz.func152,Tryz.ntmps152
 go_wp2
 go_loopw [3,8] (fun s0 i0 wr=>∃(k:Nat) (v3:Value),v3=s0∧i0=.int .i64 k∧k≤l.length∧Hid (wr.ownsRow w.heap.size 42 1 v3 k ((iP (l.take k)).map eU)∧(iP (l.take k)).Nodup∧Kp none' w wr)) (fun _ i0 _=>l.length-(intOf i0).toNat)
 case atStart=>exact⟨0,_,rfl,rfl,by omega,⟨rfl,.inl ⟨rfl,rfl⟩⟩,List.nodup_nil,Kp.refl _ _⟩
 case round=>
  obtain⟨k,v3,rfl,rfl,hk,hr⟩:=hrel;by_cases hlt:k<l.length
  ·have hki:(k:Int)<l.length:=by omega
   obtain⟨gx,ox,cx,e1,hcx⟩:=(HS.out.old hr.out.2.2).at mD (by decide) k hlt;injection e1 with e1 _ e3
   subst e1 e3;obtain⟨f,hf⟩:∃f,l[k]=f:=⟨_,rfl⟩
   have hsn:=D6 l k hlt;have Vz:Hid (f.id∈iP (l.take k)→¬(iP l).Nodup):=by show _→_;rw[←hf];exact Ol hlt
   rw[hf]at hcx hsn;have d0:=hcx 0 _ rfl;have d1:=hcx 1 _ rfl;have d2:=hcx 2 _ rfl;have d3:=hcx 3 _ rfl;have d4:=hcx 4 _ rfl;simp only[Nat.add_zero]at d0;have hil:=SX l k (by omega);have VE:=ae hsn;have Om:=ae hil;have hzr:=hr.out.2.2.size;clear hcx hf hsn hil
   go_wp2_with fail
   have hk1:=(Kp.refl none' wr).alloc (.cells (gU f).toArray 197);have hb1:=ag.new wr (gU f) 197;have VF:Kp none' wr (wr.alloc (.cells #[.int .u32 f.id,.int .u64 f.cost,.int .u64 f.budget,.int .u64 f.size,.int .u64 f.cap] 197)):=hk1;have hb1':ag (wr.alloc (.cells #[.int .u32 f.id,.int .u64 f.cost,.int .u64 f.budget,.int .u64 f.size,.int .u64 f.cap] 197)) wr.heap.size (gU f) 197:=hb1;clear hk1 hb1 d0 d1 d2 d3 d4;generalize wr.alloc (.cells #[.int .u32 f.id,.int .u64 f.cost,.int .u64 f.budget,.int .u64 f.size,.int .u64 f.cap] 197)=w1 at*;have ax:=ae VF;have HB1:=ae hb1';have Oo:=ae (aK hr.out.1 VF (fun _ _ x=>x));clear VF hb1';have HC:=ae (Oj (iP (l.take k)) f.id v3 w1 (by have:=zh Oo.out;rw[Om.out];exact this));refine(HC.out).mono ?_;rintro e w2 ⟨rfl,k2⟩;have ak:=ae (ax.out.trans k2);have HB2:=ae (HB1.out.kp k2 (fun x=>x));have gq:=ae (aK Oo.out k2 (fun _ _ x=>x));have hz2:=(hr.out.2.2.trans ak.out).size;clear k2 HC HB1 ax Oo;have c0:=HB2.out.cell 0 rfl;cases hb:decide (f.id∈iP (l.take k))with
   |true=>
    have HN:=ae (Vz.out (of_decide_eq_true hb));clear hb
    go_wp2
    go_ret
    exact⟨by rw[decide_eq_false HN.out];rfl,hr.out.2.2.trans ak.out⟩
   |false=>
    have HN:=ae (KH hr.out.2.1 (of_decide_eq_false hb));clear hb
    go_wp2_with(first
     |(refine pg tU32 (.tmp 16) (.tmp 19) rfl rfl w.heap.size (v:=v3) (gq.out.alloc _) [.int .u32 f.id] rfl rfl rfl (fr:=(0,0)) (jI _ _) rfl (by omega) (by omega) (by simp;omega) ?_;intro g8 nM w8 iq dO
       have hk8:=((hr.out.2.2.trans ak.out).alloc (.cells #[.int .u32 f.id] 42)).grown dO (fun b hb=>.inr (aG hr.out.1 hb).1);have mG:=ae hk8;have um:Hid (w8.ownsRow w.heap.size 42 1 (.slice (some ⟨g8,0,none⟩) (k+1) nM) (k+1) ((iP (l.take (k+1))).map eU)):=by show World.ownsRow _ _ _ _ _ _ _;rw[VE.out,List.map_append];exact iq
       clear iq dO hk8))
    go_roundw
    case rel=>exact⟨k+1,_,rfl,by go_num,by omega,um.out,by rw[VE.out];exact HN.out,mG.out⟩
    case measure=>simp[intOf];omega
  ·have hke:k=l.length:=by omega
   subst hke;have HN:Hid ((iP l).Nodup):=by have:=hr.out.2.1;rw[List.take_length]at this;exact this
   go_wp2
   go_ret
   exact⟨by rw[decide_eq_true HN.out];rfl,hr.out.2.2⟩
theorem GZ (w:World) (e:TypeId) (sz:Nat):(w.alloc (.cells #[] e)).ownsRow w.heap.size e sz (.slice (some ⟨w.heap.size,0,none⟩) 0 0) 0 []:=
 ⟨by simp,.inr ⟨w.heap.size,0,#[],rfl,Nat.le_refl _,jI _ _,Nat.le_refl _,by unfold maxLen;omega,by simp,by simp⟩⟩
theorem yD (w:World) (o:Obj) {n:Nat} (h:n=w.heap.size):(w.alloc o).heap[n]? =some o:=by subst h;exact jI w o
theorem QC (l:List iW):(l.flatMap gU).all (·.oneCell')=true:=by
 rw[List.all_eq_true];intro v hv;obtain⟨r,_,hv⟩:=List.mem_flatMap.1 hv;simp only[gU,List.mem_cons,List.not_mem_nil,or_false]at hv;rcases hv with rfl|rfl|rfl|rfl|rfl<;>rfl
theorem Y_ (l:List iW) (hl:l.length≤64) (v:Value) (w:World) (h:Sl w v l.length 5 (l.flatMap gU)):Calls Tryz.prog 153 #[v] w fun e w'=>(∃ao n cap,e=.returned (.slice ao n cap))∧Kp none' w w':=by
 obtain⟨ao,cap,rfl⟩:∃ao cap,v=.slice ao l.length cap:=by obtain⟨ao,cap,rfl,_⟩:=h.is;exact⟨_,_,rfl⟩
 have HS:=ae h;clear h;have HOF:=ae (QC l);cases ao with
 |none=>
  have hnil:∀W:World,(binOp BinOp.eql 23 (.slice none l.length cap) (.slice none 0 0)).run Tryz.prog W=.ok (.bool true) W:=fun _=>by kernel_rfl
  go_enter Tryz.func153,Tryz.ntmps153
  go_wp2
  go_ret
  exact⟨⟨_,_,_,rfl⟩,Kp.refl _ _⟩
 |some ad=>
  have hnil:∀W:World,(binOp BinOp.eql 23 (.slice (some ad) l.length cap) (.slice none 0 0)).run Tryz.prog W=.ok (.bool false) W:=fun _=>by kernel_rfl
  have hs2:=HS.out.old ((Kp.refl none' w).alloc (.cells #[] 197));have HS2:=ae hs2;clear hs2
  go_enter Tryz.func153,Tryz.ntmps153
  go_wp2_with(first
   |(refine GY aba (.tmp 5) (.tmp 6) rfl rfl w.heap.size (GZ w 197 5) rfl rfl HS2.out HOF.out (by omega) (by omega) (by simp) ?_;intro v8 w8 iq dO
     have hk8:=((Kp.refl none' w).alloc (.cells #[] 197)).grown dO (fun b hb=>.inr (by cases hb;exact Nat.le_refl _));obtain⟨ao8,nM,rfl⟩:=dP iq;have mG:=ae hk8
     clear iq dO hk8))
  go_ret
  exact⟨⟨_,_,_,rfl⟩,mG.out⟩
structure NwI (w wr:World) (rb:Nat) (fv v2:Value) (k:Nat):Prop where
 blk:ag wr rb [.int .i64 2,fv,v2,.int .u64 0] 312
 own:wr.ownsRow w.heap.size 22 1 v2 k (List.replicate k (.int .u64 0))
 kp:Kp none' w wr
set_option maxRecDepth 100000 in
theorem acn (l:List iW) (v:Value) (w:World) (h:Sl w v l.length 5 (l.flatMap gU)):Calls Tryz.prog 91 #[.int .i64 2,v] w fun e w'=>(∃p,e=.returned (.tuple #[p,.int .i64 (iF l)]))∧Kp none' w w':=by
 obtain⟨ao,cap,rfl⟩:∃ao cap,v=.slice ao l.length cap:=by obtain⟨ao,cap,rfl,_⟩:=h.is;exact⟨_,_,rfl⟩
 have HS:=ae h;have hmx:=h.max;clear h;by_cases h0:l.length=0
 ·have HE:Hid (iF l=29):=by show _=_;unfold iF;rw[if_pos (.inl h0)]
  have e1:((l.length:Int)==0)=true:=by rw[beq_iff_eq];omega
  have e2:(l.length==0)=true:=by rw[beq_iff_eq];omega
  rw[h0]at HS ⊢;clear hmx e1 e2
  go_enter Tryz.func91,Tryz.ntmps91
  go_wp2
  go_ret2
  exact⟨⟨_,by rw[HE.out];rfl⟩,Kp.refl _ _⟩
 ·have e1:((l.length:Int)==0)=false:=by rw[beq_eq_false_iff_ne];omega
  by_cases h64:64<l.length
  ·have HE:Hid (iF l=29):=by show _=_;unfold iF;rw[if_pos (.inr h64)]
   have abb:(64:Int)<l.length:=by omega
   clear h0
   go_enter Tryz.func91,Tryz.ntmps91
   go_wp2
   go_ret2
   exact⟨⟨_,by rw[HE.out];rfl⟩,Kp.refl _ _⟩
  ·have abb:¬(64:Int)<l.length:=by omega
   have Oq:Hid (iF l=if(iP l).Nodup then 0 else 30):=by show _=_;unfold iF;rw[if_neg (by omega)];rfl
   have HT:=ae (QB l (by omega) (.slice ao l.length cap) w HS.out);have pO:=ae (fun W hs=>Y_ l (by omega) (.slice ao l.length cap) W hs);have VG:l.length≤64:=by omega
   clear h0 h64
   go_enter Tryz.func91,Tryz.ntmps91
   go_wp2_with fail
   refine(HT.out).mono ?_;rintro e w1 ⟨rfl,k1⟩;have ax:=ae k1;clear k1 HT;by_cases hn:(iP l).Nodup
   ·have HE:Hid (iF l=0):=by show _=_;rw[Oq.out,if_pos hn]
    have hd:(!decide (iP l).Nodup)=false:=by simp[hn]
    rw[hd];clear hd Oq hn
    go_wp2_with fail
    refine(pO.out _ (HS.out.old ax.out)).mono ?_;rintro e w2 ⟨⟨fo,fn,fc,rfl⟩,k2⟩;have ak:=ae (ax.out.trans k2);clear k2 pO
    go_wp2_with fail
    have hz2:=ak.out.size;have hb3:=ag.new w2 [.int .i64 2,.slice fo fn fc,.slice none 0 0,.int .u64 0] 312;have hk3:=ak.out.alloc (.cells #[.int .i64 2,.slice fo fn fc,.slice none 0 0,.int .u64 0] 312);have KI:Kp none' w (w2.alloc (.cells #[.int .i64 2,.slice fo fn fc,.slice none 0 0,.int .u64 0] 312)):=hk3;have D7:ag (w2.alloc (.cells #[.int .i64 2,.slice fo fn fc,.slice none 0 0,.int .u64 0] 312)) w2.heap.size [.int .i64 2,.slice fo fn fc,.slice none 0 0,.int .u64 0] 312:=hb3;clear hk3 hb3;generalize w2.alloc (.cells #[.int .i64 2,.slice fo fn fc,.slice none 0 0,.int .u64 0] 312)=w3 at*;obtain⟨rb,hrb⟩:∃rb,w2.heap.size=rb:=⟨_,rfl⟩
    rw[hrb]at D7 hz2 ⊢;have HI0:Hid (NwI w w3 rb (.slice fo fn fc) (.slice none 0 0) 0):=⟨D7,⟨rfl,.inl ⟨rfl,rfl⟩⟩,KI⟩;clear D7 KI hrb ak
    go_loopw [36] (fun i0 wr=>∃(k:Nat) (v2:Value),i0=.int .i64 k∧k≤l.length∧Hid (NwI w wr rb (.slice fo fn fc) v2 k)) (fun i0 _=>l.length-(intOf i0).toNat)
    case atStart=>exact⟨0,_,rfl,by omega,HI0.out⟩
    case round=>
     clear HI0;obtain⟨k,v2,rfl,hk,hr⟩:=hrel;by_cases hlt:k<l.length
     ·have hki:(k:Int)<l.length:=by omega
      obtain⟨gx,ox,cx,e1,hcx⟩:=(HS.out.old hr.out.kp).at mD (by decide) k hlt;injection e1 with e1 _ e3
      subst e1 e3;obtain⟨f,hf⟩:∃f,l[k]=f:=⟨_,rfl⟩
      rw[hf]at hcx;have d0:=hcx 0 _ rfl;have d1:=hcx 1 _ rfl;have d2:=hcx 2 _ rfl;have d3:=hcx 3 _ rfl;have d4:=hcx 4 _ rfl;simp only[Nat.add_zero]at d0;have hzr:=hr.out.kp.size;have hba:=hr.out.blk.alloc (.cells #[.int .u32 f.id,.int .u64 f.cost,.int .u64 f.budget,.int .u64 f.size,.int .u64 f.cap] 197);have c2:=hba.cell 2 rfl;have KJ:=hba.alloc (.cells #[.int .u64 0] 22);have VH:=ae KJ;have KL:=ae (aK (S:=none') hr.out.own (((Kp.refl none' wr).alloc (.cells #[.int .u32 f.id,.int .u64 f.cost,.int .u64 f.budget,.int .u64 f.size,.int .u64 f.cap] 197)).alloc (.cells #[.int .u64 0] 22)) (fun _ _ x=>x));have uo:=ae ((hr.out.kp.alloc (.cells #[.int .u32 f.id,.int .u64 f.cost,.int .u64 f.budget,.int .u64 f.size,.int .u64 f.cap] 197)).alloc (.cells #[.int .u64 0] 22));have nY:=ae (az hr.out.own hr.out.blk (by decide));clear hcx hf hba KJ
      go_wp2_with(first
          |(refine pg tU64 (.tmp 48) (.tmp 50) rfl rfl w.heap.size (v:=v2) KL.out [.int .u64 0] rfl rfl rfl (fr:=(0,0)) (yD _ _ (by simp)) rfl (by omega) (by omega) (by simp;omega) ?_;intro g8 nM w8 iq dO
            have hk8:=uo.out.grown dO (fun b hb=>.inr (aG KL.out hb).1);have hb8:=VH.out.grown dO (fun e=>nY.out e.symm);have x2:=hb8.cell 2 rfl;have z2:=hb8.fz 2;have mG:=ae hk8;have lQ:=ae hb8;have um:=ae iq
            clear iq dO hk8 hb8))
      have pU:=dX um.out (a:=⟨rb,2,none⟩) (fun b hb e=>az um.out lQ.out (by decide) (by rw[hb];exact congrArg some e)) (.slice (some ⟨g8,0,none⟩) (k+1) nM);have KN:NwI w (w8.setCell ⟨rb,2,none⟩ (.slice (some ⟨g8,0,none⟩) (k+1) nM)) rb (.slice fo fn fc) (.slice (some ⟨g8,0,none⟩) (k+1) nM) (k+1):=
       ⟨lQ.out.set 2 _,by rw[List.replicate_succ'];exact pU,mG.out.set (p:=⟨rb,2,none⟩) (.inr hz2) _⟩
      have CO:=ae KN;clear pU KN
      go_roundw
      case rel=>exact⟨k+1,_,by go_num,by omega,CO.out⟩
      case measure=>simp[intOf];omega
     ·have hke:k=l.length:=by omega
      subst hke
      go_wp2
      go_ret2
      exact⟨⟨_,by rw[HE.out];rfl⟩,hr.out.kp⟩
   ·have HE:Hid (iF l=30):=by show _=_;rw[Oq.out,if_neg hn]
    have hd:(!decide (iP l).Nodup)=true:=by simp[hn]
    rw[hd];clear hd Oq hn
    go_wp2
    go_ret2
    exact⟨⟨_,by rw[HE.out];rfl⟩,ax.out⟩
def lC (c:mF) (v:Value):List Value:=[.int .i64 c.rank,.int .i64 c.back,.int .i64 c.levels,.int .i64 c.queues,.int .i64 c.aI,.int .u64 c.bytes,.int .i64 c.share,.int .u64 c.fQ,.int .u64 c.rate,.int .u64 c.aQ,v]
theorem SY {c:mF} (h:c.aI<1∨4096<c.aI∨c.bytes=0∨c.share<0∨16<c.share):kS c=25:=by unfold kS;rw[if_pos h]
theorem S9 {c:mF} (h:¬(c.aI<1∨4096<c.aI∨c.bytes=0∨c.share<0∨16<c.share)) (h2:18446744073709551615/2^c.share.toNat<c.bytes):kS c=25:=by unfold kS;rw[if_neg h,if_pos h2]
theorem VI {c:mF} (h:¬(c.aI<1∨4096<c.aI∨c.bytes=0∨c.share<0∨16<c.share)) (h2:¬18446744073709551615/2^c.share.toNat<c.bytes) (h3:c.fQ<1∨65535<c.fQ):kS c=26:=by unfold kS;rw[if_neg h,if_neg h2,if_pos h3]
theorem Za {c:mF} (h:¬(c.aI<1∨4096<c.aI∨c.bytes=0∨c.share<0∨16<c.share)) (h2:¬18446744073709551615/2^c.share.toNat<c.bytes) (h3:¬(c.fQ<1∨65535<c.fQ)):kS c=iF c.aS:=by unfold kS;rw[if_neg h,if_neg h2,if_neg h3]
def lim (s:Nat):Nat:=18446744073709551615/2^s
set_option maxRecDepth 100000 in
theorem abd (c:mF) (hc:c.ok) (v:Value) (w:World) (h:Sl w v c.aS.length 5 (c.aS.flatMap gU)):Calls Tryz.prog 99 #[.agg (lC c v).toArray] w fun e w'=>e=.returned (.int .i64 (kS c))∧Kp none' w w':=by
 have GR:=ae (fun W hs=>acn c.aS v W hs);have H1:=ae (@SY c);have H2:=ae (@S9 c);have H3:=ae (@VI c);have H4:=ae (@Za c);have HS:=ae h;have b5:=hc.bytes;have b7:=hc.fQ;unfold yB at b5 b7;obtain⟨rk,bk,lv,qu,pk,bt,sh,mt,rt,bu,fl⟩:=c;unfold lC;simp only at GR H1 H2 H3 H4 HS b5 b7 ⊢;clear h hc;by_cases h1:pk<1
 ·have HE:=ae (H1.out (.inl h1))
  go_enter Tryz.func99,Tryz.ntmps99
  go_wp2
  go_ret
  exact⟨by rw[HE.out];rfl,(Kp.refl _ _).alloc _⟩
 ·by_cases h2:4096<pk
  ·have HE:=ae (H1.out (.inr (.inl h2)))
   go_enter Tryz.func99,Tryz.ntmps99
   go_wp2
   go_ret
   exact⟨by rw[HE.out];rfl,(Kp.refl _ _).alloc _⟩
  ·by_cases h3:bt=0
   ·have HE:=ae (H1.out (.inr (.inr (.inl h3))));subst h3
    go_enter Tryz.func99,Tryz.ntmps99
    go_wp2
    go_ret
    exact⟨by rw[HE.out];rfl,(Kp.refl _ _).alloc _⟩
   ·have h3b:((bt:Int)==0)=false:=by rw[beq_eq_false_iff_ne];omega
    by_cases h4:sh<0
    ·have HE:=ae (H1.out (.inr (.inr (.inr (.inl h4)))));clear h3
     go_enter Tryz.func99,Tryz.ntmps99
     go_wp2
     go_ret
     exact⟨by rw[HE.out];rfl,(Kp.refl _ _).alloc _⟩
    ·by_cases h5:16<sh
     ·have HE:=ae (H1.out (.inr (.inr (.inr (.inr h5)))));clear h3
      go_enter Tryz.func99,Tryz.ntmps99
      go_wp2
      go_ret
      exact⟨by rw[HE.out];rfl,(Kp.refl _ _).alloc _⟩
     ·obtain⟨s,rfl⟩:∃s:Nat,sh=s:=⟨sh.toNat,by omega⟩
      have HN:Hid (¬(pk<1∨4096<pk∨bt=0∨(s:Int)<0∨16<(s:Int))):=by show ¬_;omega
      rw[Int.toNat_natCast]at H2 H3 H4;have abe:s≤16:=by omega
      clear h3;have hl:(18446744073709551615:Int)/2^s=(lim s:Nat):=by unfold lim;rw[Int.natCast_ediv,Int.natCast_pow];rfl
      have hb0:=ag.new w (lC ⟨rk,bk,lv,qu,pk,bt,s,mt,rt,bu,fl⟩ v) 25;have hk0:=(Kp.refl none' w).alloc (.cells (lC ⟨rk,bk,lv,qu,pk,bt,s,mt,rt,bu,fl⟩ v).toArray 25);unfold lC at hb0 hk0;have HL:=ae hl;have HB0:=ae hb0;have aB:=ae hk0;clear hl hb0 hk0
      go_enter Tryz.func99,Tryz.ntmps99
      go_wp2
      go_quiet (fail)
      rw[HL.out];have hb1:=HB0.out.drewN nq;have ax:=ae (aB.out.drewN nq);have c7:=hb1.cell 7 rfl;have c10:=hb1.cell 10 rfl;clear hb1 HB0 aB;generalize (w.alloc (.cells #[.int .i64 rk,.int .i64 bk,.int .i64 lv,.int .i64 qu,.int .i64 pk,.int .u64 bt,.int .i64 s,.int .u64 mt,.int .u64 rt,.int .u64 bu,v] 25)).drewN nq=w1 at*;by_cases h6:lim s<bt
      ·have HE:=ae (H2.out HN.out h6);have VJ:decide (((lim s:Nat):Int)<(bt:Int))=true:=by rw[decide_eq_true_iff];omega
       rw[VJ];clear VJ h6
       go_wp2
       go_ret
       exact⟨by rw[HE.out];rfl,ax.out⟩
      ·have VJ:decide (((lim s:Nat):Int)<(bt:Int))=false:=by rw[decide_eq_false_iff_not];omega
       have HL6:=ae h6;rw[VJ];clear VJ h6;by_cases h7:mt<1
       ·have HE:=ae (H3.out HN.out HL6.out (.inl h7));have h7i:(mt:Int)<1:=by omega
        go_wp2
        go_ret
        exact⟨by rw[HE.out];rfl,ax.out⟩
       ·have h7i:¬(mt:Int)<1:=by omega
        by_cases h8:65535<mt
        ·have HE:=ae (H3.out HN.out HL6.out (.inr h8));have h8i:(65535:Int)<mt:=by omega
         clear h7
         go_wp2
         go_ret
         exact⟨by rw[HE.out];rfl,ax.out⟩
        ·have HE:=ae (H4.out HN.out HL6.out (by omega));have h8i:¬(65535:Int)<mt:=by omega
         clear h7 h8
         go_wp2_with fail
         refine(GR.out _ (HS.out.old ax.out)).mono ?_;rintro e w2 ⟨⟨p,rfl⟩,k2⟩;have ak:=ae (ax.out.trans k2);clear k2
         go_wp2
         go_ret
         exact⟨by rw[HE.out];rfl,ak.out⟩
theorem S_ {c:mF} (h:c.rank<1∨3<c.rank∨c.back<1∨3<c.back):chk c=22:=by unfold chk;rw[if_pos h]
theorem VK {c:mF} (h:¬(c.rank<1∨3<c.rank∨c.back<1∨3<c.back)) (h2:c.levels<1∨3<c.levels):chk c=23:=by unfold chk;rw[if_neg h,if_pos h2]
theorem VL {c:mF} (h:¬(c.rank<1∨3<c.rank∨c.back<1∨3<c.back)) (h2:¬(c.levels<1∨3<c.levels)) (h3:c.queues<1∨32<c.queues):chk c=24:=by unfold chk;rw[if_neg h,if_neg h2,if_pos h3]
theorem Tc {c:mF} (h:¬(c.rank<1∨3<c.rank∨c.back<1∨3<c.back)) (h2:¬(c.levels<1∨3<c.levels)) (h3:¬(c.queues<1∨32<c.queues)):chk c=if kS c≠0 then kS c else if c.rate=0 then 27 else if c.aQ<c.fQ then 28 else 0:=by unfold chk;rw[if_neg h,if_neg h2,if_neg h3]
set_option maxRecDepth 100000 in
theorem abf (c:mF) (hc:c.ok) (v:Value) (w:World) (h:Sl w v c.aS.length 5 (c.aS.flatMap gU)):Calls Tryz.prog 52 #[.agg (lC c v).toArray] w fun e w'=>e=.returned (.int .i64 (chk c))∧Kp none' w w':=by
 have GA:=ae (fun W hs=>abd c hc v W hs);have H1:=ae (@S_ c);have H2:=ae (@VK c);have H3:=ae (@VL c);have H4:=ae (@Tc c);have HS:=ae h;have b7:=hc.fQ;have b8:=hc.rate;have b9:=hc.aQ;unfold yB at b7 b8 b9;obtain⟨ad,had⟩:∃a,kS c=a:=⟨_,rfl⟩
 rw[had]at GA H4;clear had;obtain⟨rk,bk,lv,qu,pk,bt,sh,mt,rt,bu,fl⟩:=c;unfold lC at GA ⊢;simp only at GA H1 H2 H3 H4 HS b7 b8 b9 ⊢;clear h hc;by_cases h1:rk<1
 ·have HE:=ae (H1.out (.inl h1))
  go_enter Tryz.func52,Tryz.ntmps52
  go_wp2
  go_ret
  exact⟨by rw[HE.out];rfl,(Kp.refl _ _).alloc _⟩
 ·by_cases h2:3<rk
  ·have HE:=ae (H1.out (.inr (.inl h2)))
   go_enter Tryz.func52,Tryz.ntmps52
   go_wp2
   go_ret
   exact⟨by rw[HE.out];rfl,(Kp.refl _ _).alloc _⟩
  ·by_cases h3:bk<1
   ·have HE:=ae (H1.out (.inr (.inr (.inl h3))))
    go_enter Tryz.func52,Tryz.ntmps52
    go_wp2
    go_ret
    exact⟨by rw[HE.out];rfl,(Kp.refl _ _).alloc _⟩
   ·by_cases h4:3<bk
    ·have HE:=ae (H1.out (.inr (.inr (.inr h4))))
     go_enter Tryz.func52,Tryz.ntmps52
     go_wp2
     go_ret
     exact⟨by rw[HE.out];rfl,(Kp.refl _ _).alloc _⟩
    ·have kK:Hid (¬(rk<1∨3<rk∨bk<1∨3<bk)):=by show ¬_;omega
     by_cases h5:lv<1
     ·have HE:=ae (H2.out kK.out (.inl h5))
      go_enter Tryz.func52,Tryz.ntmps52
      go_wp2
      go_ret
      exact⟨by rw[HE.out];rfl,(Kp.refl _ _).alloc _⟩
     ·by_cases h6:3<lv
      ·have HE:=ae (H2.out kK.out (.inr h6))
       go_enter Tryz.func52,Tryz.ntmps52
       go_wp2
       go_ret
       exact⟨by rw[HE.out];rfl,(Kp.refl _ _).alloc _⟩
      ·have A_:Hid (¬(lv<1∨3<lv)):=by show ¬_;omega
       by_cases h7:qu<1
       ·have HE:=ae (H3.out kK.out A_.out (.inl h7))
        go_enter Tryz.func52,Tryz.ntmps52
        go_wp2
        go_ret
        exact⟨by rw[HE.out];rfl,(Kp.refl _ _).alloc _⟩
       ·by_cases h8:32<qu
        ·have HE:=ae (H3.out kK.out A_.out (.inr h8))
         go_enter Tryz.func52,Tryz.ntmps52
         go_wp2
         go_ret
         exact⟨by rw[HE.out];rfl,(Kp.refl _ _).alloc _⟩
        ·have Zb:=ae (H4.out kK.out A_.out (by omega));have hb0:=ag.new w (lC ⟨rk,bk,lv,qu,pk,bt,sh,mt,rt,bu,fl⟩ v) 25;have hk0:=(Kp.refl none' w).alloc (.cells (lC ⟨rk,bk,lv,qu,pk,bt,sh,mt,rt,bu,fl⟩ v).toArray 25);unfold lC at hb0 hk0;have HB0:=ae hb0;have aB:=ae hk0;clear hb0 hk0 H1 H2 H3 H4
         go_enter Tryz.func52,Tryz.ntmps52
         go_wp2_with fail
         refine(GA.out _ (HS.out.old aB.out)).mono ?_;rintro e w2 ⟨rfl,k2⟩;have ak:=ae (aB.out.trans k2);have hb2:=HB0.out.kp k2 (fun x=>x);have c7:=hb2.cell 7 rfl;have c8:=hb2.cell 8 rfl;have c9:=hb2.cell 9 rfl;clear k2 hb2 HB0 GA;by_cases ha:ad=0
         ·subst ha;by_cases hr:rt=0
          ·subst hr;have HE:Hid (chk ⟨rk,bk,lv,qu,pk,bt,sh,mt,0,bu,fl⟩=27):=by show _=_;rw[Zb.out];rfl
           go_wp2
           go_ret
           exact⟨by rw[HE.out];rfl,ak.out⟩
          ·have hrb:((rt:Int)==0)=false:=by rw[beq_eq_false_iff_ne];omega
           by_cases hm:bu<mt
           ·have HE:Hid (chk ⟨rk,bk,lv,qu,pk,bt,sh,mt,rt,bu,fl⟩=28):=by show _=_;rw[Zb.out,if_neg (by simp),if_neg hr,if_pos hm]
            have hmi:(bu:Int)<mt:=by omega
            clear hr hm
            go_wp2
            go_ret
            exact⟨by rw[HE.out];rfl,ak.out⟩
           ·have HE:Hid (chk ⟨rk,bk,lv,qu,pk,bt,sh,mt,rt,bu,fl⟩=0):=by show _=_;rw[Zb.out,if_neg (by simp),if_neg hr,if_neg hm]
            have hmi:¬(bu:Int)<mt:=by omega
            clear hr hm
            go_wp2
            go_ret
            exact⟨by rw[HE.out];rfl,ak.out⟩
         ·have HE:Hid (chk ⟨rk,bk,lv,qu,pk,bt,sh,mt,rt,bu,fl⟩=ad):=by show _=_;rw[Zb.out,if_pos ha]
          have hab:(ad != 0)=true:=by simpa using ha
          clear ha
          go_wp2
          go_ret
          exact⟨by rw[HE.out];rfl,ak.out⟩
end Go.Proofs.YtjiehhlghjnfhaaGreatDoor
namespace Go.Proofs.YtjiehhlghjnfhaaGreatDoor
open Go Go.RowKit Go.Shelf Go.Maps
structure D8 where
 c:mF
 rl:List dI
 rate:Nat
 near:Nat
 far:Nat
 y:Nat
def dY (pc:D8) (v u:Value):List Value:=lC pc.c v++[u,.int .u64 pc.rate,.int .u64 pc.near,.int .u64 pc.far,.int .u8 pc.y]
structure D8.Ok (pc:D8):Prop where
 c:pc.c.ok
 rl:∀r∈pc.rl,r.Ok
 rate:pc.rate<18446744073709551616
 near:pc.near<18446744073709551616
 far:pc.far<18446744073709551616
 y:pc.y<256
structure D8.Good (pc:D8):Prop where
 chk:chk pc.c=0
 rules:oC pc.rl=0
 rate:pc.rate=0∨0<pc.near∨0<pc.far
 y:pc.y≤63
set_option maxRecDepth 100000 in
theorem Td (pc:D8) (hok:pc.Ok) (hg:pc.Good) (v u:Value) (w:World) (hv:Sl w v pc.c.aS.length 5 (pc.c.aS.flatMap gU)) (hu:Sl w u pc.rl.length 7 (pc.rl.flatMap ja)):
 Calls Tryz.prog 12 #[.agg (dY pc v u).toArray] w fun e w'=>e=.returned (.int .i64 0)∧Kp none' w w':=by
 have HC:=ae (fun W (k:Kp none' w W)=>by have:=abf pc.c hok.c v W (hv.old k);rw[hg.chk]at this;exact this);have HR:=ae (fun W (k:Kp none' w W)=>by have:=QA pc.rl hok.rl u W (hu.old k);rw[hg.rules]at this;exact this);have vO:=hg.rate;have hy:=hg.y;obtain⟨ao,cap,rfl⟩:∃ao cap,v=.slice ao pc.c.aS.length cap:=by obtain⟨ao,cap,rfl,_⟩:=hv.is;exact⟨_,_,rfl⟩
 obtain⟨ao',cap',rfl⟩:∃ao cap,u=.slice ao pc.rl.length cap:=by obtain⟨ao,cap,rfl,_⟩:=hu.is;exact⟨_,_,rfl⟩
 have hb0:=ag.new w (dY pc (.slice ao pc.c.aS.length cap) (.slice ao' pc.rl.length cap')) 36;have HB0:=ae hb0;have aB:=ae ((Kp.refl none' w).alloc (.cells (dY pc (.slice ao pc.c.aS.length cap) (.slice ao' pc.rl.length cap')).toArray 36));clear hok hg hv hu hb0;obtain⟨c,rl,rate,near,far,y⟩:=pc;obtain⟨rk,bk,lv,qu,pk,bt,sh,mt,rt,bu,fl⟩:=c;simp only[dY,lC,List.cons_append,List.nil_append]at*;have hyi:¬(63:Int)<y:=by omega
 go_enter Tryz.func12,Tryz.ntmps12
 go_wp2_with fail
 refine(HC.out _ aB.out).mono ?_;rintro e w1 ⟨rfl,hk1⟩;have ax:=ae (aB.out.trans hk1);have HB1:=ae (HB0.out.kp hk1 (fun x=>x));have aJ:=HB1;have y0:=aJ.out.cell 0 rfl;have y1:=aJ.out.cell 1 rfl;have y2:=aJ.out.cell 2 rfl;have y3:=aJ.out.cell 3 rfl;have y4:=aJ.out.cell 4 rfl;have y5:=aJ.out.cell 5 rfl;have y6:=aJ.out.cell 6 rfl;have y7:=aJ.out.cell 7 rfl;have y8:=aJ.out.cell 8 rfl;have y9:=aJ.out.cell 9 rfl;have uq:=aJ.out.cell 10 rfl;have D9:=aJ.out.cell 11 rfl;have IW:=aJ.out.cell 12 rfl;have y13:=aJ.out.cell 13 rfl;have IX:=aJ.out.cell 14 rfl;have IY:=aJ.out.cell 15 rfl;clear hk1 HB0 aB aJ
 go_wp2_with fail
 refine(HR.out _ ax.out).mono ?_;rintro e w2 ⟨rfl,hk2⟩;have ak:=ae (ax.out.trans hk2);have HB2:=ae (HB1.out.kp hk2 (fun x=>x));have aJ:=HB2;clear y0 y1 y2 y3 y4 y5 y6 y7 y8 y9 uq D9 IW y13 IX IY;have y0:=aJ.out.cell 0 rfl;have y1:=aJ.out.cell 1 rfl;have y2:=aJ.out.cell 2 rfl;have y3:=aJ.out.cell 3 rfl;have y4:=aJ.out.cell 4 rfl;have y5:=aJ.out.cell 5 rfl;have y6:=aJ.out.cell 6 rfl;have y7:=aJ.out.cell 7 rfl;have y8:=aJ.out.cell 8 rfl;have y9:=aJ.out.cell 9 rfl;have uq:=aJ.out.cell 10 rfl;have D9:=aJ.out.cell 11 rfl;have IW:=aJ.out.cell 12 rfl;have y13:=aJ.out.cell 13 rfl;have IX:=aJ.out.cell 14 rfl;have IY:=aJ.out.cell 15 rfl;clear hk2 HB1 ax aJ y0 y1 y2 y3 y4 y5 y6 y7 y8 y9 uq D9;by_cases h0:rate=0
 ·have hr0:¬(0:Int)<rate:=by omega
  clear vO
  go_wp2_with fail
  go_ret
  exact⟨rfl,ak.out⟩
 ·have hr0:(0:Int)<rate:=by omega
  by_cases h1:near=0
  ·have hn0:(near:Int)=0:=by omega
   have hf0:¬(far:Int)=0:=by omega
   clear vO
   go_wp2_with fail
   go_ret
   exact⟨rfl,ak.out⟩
  ·have hn0:¬(near:Int)=0:=by omega
   clear vO
   go_wp2_with fail
   go_ret
   exact⟨rfl,ak.out⟩
end Go.Proofs.YtjiehhlghjnfhaaGreatDoor
namespace Go.Proofs.YtjiehhlghjnfhaaGreatDoor
variable {α:Type}
def kL (bs:List Nat) (r:Nat):Nat→Nat
 |0=>0
 |k+1=>if bs.getD (k+1) 0≤r then k+1 else kL bs r k
theorem wS (bs:List Nat) (r:Nat):∀k,kL bs r k≤k
 |0=>Nat.le_refl _
 |k+1=>by unfold kL;split;exact Nat.le_refl _;have:=wS bs r k;omega
def pushB (bs:List Nat) (r:Nat):List Nat:=
 if kL bs r (bs.length-1)=0∧r<bs.getD 0 0 then bs.map (fun b=>b-(bs.getD 0 0-r))else bs.set (kL bs r (bs.length-1)) r
def uu (bs:List Nat) (Qs:List (List α)) (r:Nat) (x:α):List (List α):=
 Qs.set (kL bs r (bs.length-1)) (Qs.getD (kL bs r (bs.length-1)) []++[x])
def lW:List (List α)→Option Nat
 | []=>none
 | []::r=>(lW r).map (·+1)
 |(_::_)::_=>some 0
def kT (Qs:List (List α)):Nat:=(Qs.map List.length).sum
def Zc (bs:List Nat):Prop:=∀i,i<bs.length→bs.getD 0 0≤bs.getD i 0
theorem mJ {Qs:List (List α)} {i:Nat} (h:lW Qs=some i):∃q Q,Qs[i]? =some (q::Q)∧∀j,j<i→Qs[j]? =some []:=by
 induction Qs generalizing i with
 |nil=>cases h
 |cons a r ih=>
  cases a with
  |nil=>
   simp only[lW,Option.map_eq_some_iff]at h;obtain⟨k,hk,rfl⟩:=h;obtain⟨q,Q,h1,h2⟩:=ih hk;refine⟨q,Q,by simpa using h1,fun j hj=> ?_⟩;cases j with
   |zero=>rfl
   |succ j=>simpa using h2 j (by omega)
  |cons q Q=>
   simp only[lW,Option.some.injEq]at h;subst h;exact⟨q,Q,rfl,fun j hj=>by omega⟩
theorem D_ {Qs:List (List α)} (h:lW Qs=none):∀j,j<Qs.length→Qs[j]? =some []:=by
 induction Qs with
 |nil=>intro j hj;simp at hj
 |cons a r ih=>
  cases a with
  |nil=>
   simp only[lW,Option.map_eq_none_iff]at h;intro j hj;cases j with
   |zero=>rfl
   |succ j=>simpa using ih h j (by simpa using hj)
  |cons q Q=>cases h
theorem VM {Qs:List (List α)} {i:Nat} {q:α} {Q:List α} (h:Qs[i]? =some (q::Q)) (h2:∀j,j<i→Qs[j]? =some []):lW Qs=some i:=by
 cases e:lW Qs with
 |none=>
  have hi:i<Qs.length:=(List.getElem?_eq_some_iff.1 h).1;rw[D_ e i hi]at h;cases h
 |some k=>
  obtain⟨q',Q',h3,h4⟩:=mJ e;by_cases h5:k<i
  ·rw[h2 k h5]at h3;cases h3
  ·by_cases h6:i<k
   ·rw[h4 i h6]at h;cases h
   ·have:k=i:=by omega
    rw[this]
end Go.Proofs.YtjiehhlghjnfhaaGreatDoor
