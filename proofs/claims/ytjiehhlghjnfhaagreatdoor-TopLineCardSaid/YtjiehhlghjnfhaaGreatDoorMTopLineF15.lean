/- Sets as their rising numbers (for the calendar). Printed by wip/cq.py. -/
import Derived.Test.YtjiehhlghjnfhaaGreatDoorMTopLineF14
import Derived.Test.YtjiehhlghjnfhaaGreatDoorMTopLineF0
import Derived.Test.YtjiehhlghjnfhaaGreatDoorMTopLineF12
import Derived.Test.YtjiehhlghjnfhaaGreatDoorMTopLineF8
import Derived.BigQuiet
import Derived.Deep.QuietTactic
import Derived.Test.YtjiehhlghjnfhaaGreatDoorMTopLineF10
import Derived.Test.YtjiehhlghjnfhaaGreatDoorMTopLineF2
set_option linter.unusedVariables false
set_option linter.unusedSimpArgs false
set_option maxHeartbeats 4000000
namespace Go.Proofs.YtjiehhlghjnfhaaGreatDoor.cq
open Go.RowKit Go.Proofs.YtjiehhlghjnfhaaGreatDoor
theorem Ht (m:List Int) (i:Int) (h:∀z∈m,0≤z):m.find? (fun y=>decide (max i 0≤y))=m.find? (fun y=>decide (i≤y)):=by
 induction m with
 |nil=>rfl
 |cons a r ih=>
  have ha:=h a (by simp);have:decide (max i 0≤a)=decide (i≤a):=by rw[decide_eq_decide];omega
  simp only[List.find?_cons,this,ih (fun z hz=>h z (by simp[hz]))]
theorem TM (m:List Int) (i:Int) (h:∀z∈m,0≤z) (hr:0≤nextL m (max i 0)):jC m i=(nextL m (max i 0),true):=by
 unfold nextL at*;rw[Ht m i h]at*;unfold jC;cases hf:m.find? (fun y=>decide (i≤y))with
 |none=>rw[hf]at hr;simp at hr
 |some y=>rfl
theorem OY (m:List Int) (i:Int) (h:∀z∈m,0≤z) (hm:m≠ []) (hr:nextL m (max i 0)<0):jC m i=(nextL m 0,true):=by
 unfold nextL at*;rw[Ht m i h]at*;unfold jC;cases hf:m.find? (fun y=>decide (i≤y))with
 |some y=>
  rw[hf]at hr;have:=h y (List.mem_of_find?_eq_some hf);simp at hr;omega
 |none=>
  cases m with
  |nil=>exact absurd rfl hm
  |cons a r=>simp[h a (by simp)]
theorem Z7 (p k bl:Nat) (B:Nat→Nat) (L:Lv) (i:Int) (w:World) (h:dM w p k bl B L 0):
 Calls Tryz.prog 300 #[.pointer (some ⟨p,0,none⟩),.int .i64 i] w fun e w'=>e=.returned (.tuple #[.int .i64 0,.bool false])∧w=w':=by
 have hl:=WR p k bl B L 0 w h;clear h
 go_enter Tryz.func300,Tryz.ntmps300
 go_wp2_with fail
 refine hl.mono ?_;rintro e w' ⟨rfl,rfl⟩
 go_wp2
 go_ret2
 exact⟨rfl,rfl⟩
theorem acB (p k bl:Nat) (B:Nat→Nat) (L:Lv) (m:List Int) (i:Int) (w:World) (h:dM w p k bl B L m.length) (ok:Ok k L m) (k3:k≤3) (hT:Tab w) (hi:i≤9223372036854775807):
 Calls Tryz.prog 300 #[.pointer (some ⟨p,0,none⟩),.int .i64 i] w fun e w'=>e=.returned (.tuple #[.int .i64 (jC m i).1,.bool (jC m i).2])∧w=w':=by
 by_cases hm:m=[]
 ·subst hm;exact Z7 p k bl B L i w h
 ·have k1:=ok.k1;have hlen:=WR p k bl B L m.length w h;have hab:=ZZ p k bl B L m.length m w h ok k3 hT (k-1);have h1:=hab (max i 0).toNat (by omega) (by omega);have h2:=hab 0 (by omega) (by omega);rw[ok.above,show(((max i 0).toNat:Nat):Int)=max i 0 from by omega]at h1;rw[ok.above]at h2;have hpos:∀z∈m,0≤z:=fun z hz=>(ok.mem z hz).1
  have ha:=TM m i hpos;have hb:=OY m i hpos hm;obtain⟨cap,c0⟩:=h.c0;have hz:((m.length:Int)==0)=false:=by
   have:m.length≠0:=by simpa using hm
   simp;omega
  have ek:(((k-1:Nat):Int))=(k:Int)-1:=by omega
  rw[ek]at h1 h2;generalize hr1:nextL m (max i 0)=r1 at*;have hr2:nextL m ((0:Nat):Int)=nextL m 0:=rfl;rw[hr2]at h2;rw[show((0:Nat):Int)=0 from rfl]at h2;generalize nextL m 0=r2 at*;have H1:=ae h1;have H2:=ae h2;have HL:=ae hlen;have HA:=ae ha;have HB:=ae hb;clear h ok hab h1 h2 hlen ha hb ek hr1 hr2;have hmx:(i<0∧max i 0=0)∨(¬i<0∧max i 0=i):=by omega
  have fin1:0≤r1→jC m i=(r1,true):=HA.out;have fin2:r1<0→jC m i=(r2,true):=HB.out;clear HA HB hpos;generalize jC m i=fr at*;have F1:=ae fin1;have F2:=ae fin2;clear fin1 fin2 hm;rcases hmx with⟨hneg,hmx⟩|⟨hneg,hmx⟩
  all_goals
   rw[hmx]at H1;by_cases hr:0≤r1
   ·have F:=ae (F1.out hr)
    go_enter Tryz.func300,Tryz.ntmps300
    go_wp2_with fail
    refine(HL.out).mono ?_;rintro e w' ⟨rfl,rfl⟩
    go_wp2_with fail
    refine(H1.out).mono ?_;rintro e w' ⟨rfl,rfl⟩
    go_wp2
    go_ret2
    exact⟨by rw[F.out];rfl,rfl⟩
   ·have F:=ae (F2.out (by omega))
    go_enter Tryz.func300,Tryz.ntmps300
    go_wp2_with fail
    refine(HL.out).mono ?_;rintro e w' ⟨rfl,rfl⟩
    go_wp2_with fail
    refine(H1.out).mono ?_;rintro e w' ⟨rfl,rfl⟩
    go_wp2_with fail
    refine(H2.out).mono ?_;rintro e w' ⟨rfl,rfl⟩
    go_wp2
    go_ret2
    exact⟨by rw[F.out];rfl,rfl⟩
theorem tss:qY Tryz.prog 403 264 (.slice none 0 0) 1 24:=⟨Tryz.underlying403,by kernel_rfl,rfl,by decide⟩
theorem acC:(Tryz.prog.info? 22).map (fun i=>(i.zero,i.size,i.bytes))=some (some (.int .u64 0),1,8):=by kernel_rfl
def u_:Lv:=fun j=>List.replicate (64^j) 0
structure xh (w wr:World) (v:Value) (j:Nat) (B:Nat→Nat):Prop where
 own:wr.ownsRow (w.heap.size+1) 264 1 v j ((List.range j).map (fun i=>Value.slice (some ⟨B i,0,none⟩) (64^i) (64^i)))
 blk:ag wr w.heap.size [v,.int .i64 0] 405
 rows:∀i,i<j→ag wr (B i) (wd (u_ i)) 22∧w.heap.size≤B i
 kp:Kp none' w wr
theorem xh.step {w wr Z w1:World} {ao:Option Addr} {cap j:Nat} {B:Nat→Nat} (h:xh w wr (.slice ao j cap) j B) (hz:Kp none' wr Z) (hM:ag Z wr.heap.size (wd (u_ j)) 22) {g cap1:Nat}
 (hown:w1.ownsRow (w.heap.size+1) 264 1 (.slice (some ⟨g,0,none⟩) (j+1) cap1) (j+1) ((List.range j).map (fun i=>Value.slice (some ⟨B i,0,none⟩) (64^i) (64^i))++[.slice (some ⟨wr.heap.size,0,none⟩) (64^j) (64^j)]))
 (hg:Z.grownBy w1 (Value.slice ao j cap).ownBlock):
 xh w (w1.setCell ⟨w.heap.size,0,none⟩ (.slice (some ⟨g,0,none⟩) (j+1) cap1)) (.slice (some ⟨g,0,none⟩) (j+1) cap1) (j+1) (fun i=>if i=j then wr.heap.size else B i):=by
 have hlt:=h.blk.lt;have hrow:∀b,b<wr.heap.size→(Value.slice ao j cap).ownBlock=some b→w.heap.size+1≤b:=fun b _ e=>(aG h.own e).1
 have hk1:Kp none' w w1:=(h.kp.trans hz).grown hg (fun b e=>.inr (by have:=(aG h.own e).1;omega));have hne:∀b cs t,ag wr b cs t→t≠264→ag w1 b cs t:=fun b cs t hb ht=>by
  refine(hb.kp hz id).grown hg (fun e=> ?_);obtain⟨_,h2⟩:=h.own;rcases h2 with⟨e2,_⟩|⟨g',cap',cur,e2,_,hh,_⟩
  ·rw[e2]at e;simp[Value.ownBlock]at e
  ·rw[e2]at e;simp[Value.ownBlock]at e;subst e;have:=hb.is.symm.trans hh;simp at this;exact ht this.2
 have hwd:∀i,i<j→ag w1 (B i) (wd (u_ i)) 22:=fun i hi=>hne _ _ _ (h.rows i hi).1 (by decide)
 have hnew:ag w1 wr.heap.size (wd (u_ j)) 22:=hM.grown hg (fun e=>by have:=(aG h.own e.symm).2;omega);have hblk:=hne _ _ _ h.blk (by decide);have afm:∀b,ag w1 b (wd (u_ j)) 22→b≠w.heap.size:=fun b hb e=>by subst e;have:=(hb.inj hblk).2;simp at this
 refine⟨?_,hblk.set 0 _,fun i hi=> ?_,hk1.set (.inr (Nat.le_refl _)) _⟩
 ·have e:(List.range (j+1)).map (fun i=>Value.slice (some ⟨if i=j then wr.heap.size else B i,0,none⟩) (64^i) (64^i))=(List.range j).map (fun i=>Value.slice (some ⟨B i,0,none⟩) (64^i) (64^i))++[.slice (some ⟨wr.heap.size,0,none⟩) (64^j) (64^j)]:=by
   rw[List.range_succ,List.map_append];congr 1
   ·apply List.map_congr_left
    intro i hi;rw[if_neg (by have:=List.mem_range.1 hi;omega)]
   ·simp
  rw[e];exact ownsRow_setCell_below hown (by simp) _
 ·by_cases e:i=j
  ·subst e;rw[if_pos rfl];exact⟨hnew.bY (a:=⟨w.heap.size,0,none⟩) (show wr.heap.size≠w.heap.size by have:=h.blk.lt;omega) _,by omega⟩
  ·rw[if_neg e];have hb:=hwd i (by omega);refine⟨hb.bY (fun e=> ?_) _,(h.rows i (by omega)).2⟩;have e':B i=w.heap.size:=e;rw[e']at hb;have:=(hb.inj hblk).2;simp at this
theorem xh.done {w wr:World} {ao:Option Addr} {cap k:Nat} {B:Nat→Nat} (h:xh w wr (.slice ao k cap) k B) (k1:1≤k):∃bl,dM wr w.heap.size k bl B u_ 0∧(∀b,Fp w.heap.size bl B k b→w.heap.size≤b)∧ao=some ⟨bl,0,none⟩:=by
 obtain⟨h1,h2⟩:=h.own;rcases h2 with⟨_,e⟩|⟨g,cap',cur,e2,hg,hh,hn,hm,hs,ht⟩
 ·omega
 ·simp at e2
  obtain⟨rfl,rfl⟩:=e2;refine⟨g,⟨⟨_,h.blk⟩,⟨cur.toList.drop k,?_⟩,fun j hj=>(h.rows j hj).1⟩,fun b hb=> ?_,rfl⟩
  ·constructor
   have e:((List.range k).map (fun j=>Value.slice (some ⟨B j,0,none⟩) (u_ j).length (u_ j).length))=cur.toList.take k:=by
    rw[Nat.mul_one]at ht;rw[ht];simp[u_]
   rw[e,List.take_append_drop];simpa using hh
  ·rcases hb with rfl|rfl|⟨j,hj,rfl⟩
   ·omega
   ·omega
   ·exact(h.rows j hj).2
theorem fNew (k:Nat) (w:World) (k1:1≤k) (k3:k≤3):
 Calls Tryz.prog 189 #[.int .i64 k] w fun e w'=>∃p bl B,e=.returned (.tuple #[.pointer (some ⟨p,0,none⟩),.int .i64 0])∧dM w' p k bl B u_ 0∧(∀b,Fp p bl B k b→w.heap.size≤b)∧Kp none' w w':=by
 go_enter Tryz.func189,Tryz.ntmps189
 go_wp2
 go_loopw [5] (fun s5 wr=>∃(j:Nat) (v:Value) (B:Nat→Nat),j≤k∧s5=.int .i64 ((64^j:Nat):Int)∧Hid (xh w wr v j B)) (fun s5 _=>262144-(intOf s5).toNat)
 case atStart=>exact⟨0,.slice none 0 0,fun _=>0,Nat.zero_le _,rfl,World.ownsRow_nil _ _ _ _,ag.new _ _ _,fun i h=>absurd h (Nat.not_lt_zero _),(Kp.refl _ _).alloc _⟩
 case round=>
  obtain⟨j,v,B,hj,rfl,hnew⟩:=hrel;obtain⟨ao,cap,rfl⟩:=dP hnew.out.own;have c0:=hnew.out.blk.cell 0 rfl;by_cases hlt:j<k
  ·have hp:64^j≤4096:=Je j (by omega);have hp0:1≤64^j:=Nat.pow_pos (by decide);have hmk:=run_make_row' (P:=Tryz.prog) 264 22 (.int .u64 0) 8 Tryz.underlying264 acC rfl .i64 .i64 (64^j) (by omega) (by omega);rw[made1]at hmk;have hz:=hnew.out.kp.size;have hsz:=hnew.out.blk.lt;have fz:=hnew.out.blk.fz 0;generalize hM:64^j=M at*
   go_wp2
   have hb1:(j+1)*24≤140737488355328:=by omega
   go_region_law ((refine Dq tss (.tmp 27) (.tmp 30) rfl rfl (w.heap.size+1) (v:=.slice ao j cap) (((hnew.out.own.alloc _).alloc _).drew) [.slice (some ⟨wr.heap.size,0,none⟩) M M] rfl rfl rfl (fr:=(0,0)) (x_ _ _ _ (by simp)) rfl hb1 (by omega) (by simp;omega) ?_);intro g cap1 w1 hown1 hgrow;have hblk1:=((((hnew.out.blk.alloc _).alloc _).drew).grown hgrow (fun e=>by have:=(aG hnew.out.own e.symm).1;omega));have d0:=hblk1.cell 0 rfl;have f0:=hblk1.fz 0)
   all_goals
        subst hM;have hst:=hnew.out.step (w1:=w1) (cap1:=cap1) (g:=g) (Z:=((wr.alloc (.cells (Array.replicate (64^j) (.int .u64 0)) 22)).alloc (.cells #[.slice (some ⟨wr.heap.size,0,none⟩) (64^j) (64^j)] 264)).drew) ((((Kp.refl _ _).alloc _).alloc _).drew) (ag.drew (ag.alloc ⟨by rw[jI];simp[wd,u_]⟩ _)) hown1 hgrow;have HST:=ae hst;clear hst hown1 hgrow hblk1 d0 f0 hmk;have hpn:((64^(j+1):Nat):Int)=((64^j:Nat):Int)*64:=by rw[Nat.pow_succ];simp
        have F_:=ae hpn;clear hpn;generalize hM:64^j=M at*;have HM:=ae hM;clear hM
        go_wp2
        go_roundw
        case rel=>exact⟨j+1,_,_,by omega,by rw[F_.out],HST.out⟩
        case measure=>simp only[intOf];rw[HM.out];omega
  ·obtain rfl:j=k:=by omega
   obtain⟨bl,hf,hfp,_⟩:=hnew.out.done k1;have HF:=ae hf;have HK:=ae hnew.out.kp;clear hf
   go_wp2
   go_ret2
   exact⟨_,bl,B,rfl,HF.out,hfp,HK.out⟩
def SR (w:World) (p k bl:Nat) (B:Nat→Nat) (m:List Int):Prop:=∃L,dM w p k bl B L m.length∧Ok k L m
theorem SR.kp {S:Nat→Prop} {w w':World} {p k bl:Nat} {B:Nat→Nat} {m:List Int} (h:SR w p k bl B m) (K:Kp S w w') (hs:∀b,Fp p bl B k b→¬S b):SR w' p k bl B m:=by
 obtain⟨L,h1,h2⟩:=h;exact⟨L,h1.kp K hs,h2⟩
theorem SR.old {w w':World} {p k bl:Nat} {B:Nat→Nat} {m:List Int} (h:SR w p k bl B m) (K:Kp none' w w'):SR w' p k bl B m:=h.kp K (fun _ _ h=>h)
theorem SR.k1 {w:World} {p k bl:Nat} {B:Nat→Nat} {m:List Int} (h:SR w p k bl B m):1≤k:=by obtain⟨L,_,h⟩:=h;exact h.k1
theorem SR.sorted {w:World} {p k bl:Nat} {B:Nat→Nat} {m:List Int} (h:SR w p k bl B m):m.Pairwise (·< ·):=by obtain⟨L,_,h⟩:=h;exact h.sorted
theorem SR.mem {w:World} {p k bl:Nat} {B:Nat→Nat} {m:List Int} (h:SR w p k bl B m):∀z∈m,0≤z∧z<((64^k:Nat):Int):=by obtain⟨L,_,h⟩:=h;exact h.mem
theorem SR.lt {w:World} {p k bl:Nat} {B:Nat→Nat} {m:List Int} (h:SR w p k bl B m) {b:Nat} (hb:Fp p bl B k b):b<w.heap.size:=by obtain⟨L,h,_⟩:=h;exact h.lt hb
theorem Z8 (k:Nat) (k1:1≤k):Ok k u_ []:=by
 have hz:∀n i,(List.replicate n 0).getD i 0=0:=fun n i=>by simp[List.getD,List.getElem?_replicate];split<;>simp
 have hb:∀j i,bF (u_ j) i=false:=fun j i=>by unfold bF u_;rw[hz];simp
 refine⟨k1,fun j _=>by simp[u_],fun j _ x hx=>by simp[u_]at hx;omega,fun i _=>by simp[hb],fun j _ i _=>by rw[hb];unfold u_;rw[hz];rfl,fun z hz=>by simp at hz,List.Pairwise.nil⟩
theorem adW (k:Nat) (w:World) (k1:1≤k) (k3:k≤3):
 Calls Tryz.prog 189 #[.int .i64 k] w fun e w'=>∃p bl B,e=.returned (.tuple #[.pointer (some ⟨p,0,none⟩),.int .i64 0])∧SR w' p k bl B []∧(∀b,Fp p bl B k b→w.heap.size≤b)∧Kp none' w w':=
 (fNew k w k1 k3).mono fun _ _ ⟨p,bl,B,h1,h2,h3,h4⟩=>⟨p,bl,B,h1,⟨u_,h2,Z8 k k1⟩,h3,h4⟩
theorem sLen (p k bl:Nat) (B:Nat→Nat) (m:List Int) (w:World) (h:SR w p k bl B m):
 Calls Tryz.prog 298 #[.pointer (some ⟨p,0,none⟩)] w fun e w'=>e=.returned (.int .i64 m.length)∧w=w':=by
 obtain⟨L,h,ok⟩:=h;exact WR p k bl B L _ w h
def TN (k:Nat):Int:=((64^k:Nat):Int)
theorem WX (p k bl:Nat) (B:Nat→Nat) (m:List Int) (w:World) (h:SR w p k bl B m) (k3:k≤3):
 Calls Tryz.prog 191 #[.pointer (some ⟨p,0,none⟩)] w fun e w'=>e=.returned (.int .i64 (TN k))∧∃d,w'=w.drewN d:=by
 obtain⟨L,h,ok⟩:=h;have:=Jc p k bl B L _ w h ok.k1 k3 (ok.le k3 _ (by have:=ok.k1;omega));have e:(64*((L (k-1)).length:Int))=TN k:=by have:=ok.size;unfold TN;omega
 rw[e]at this;exact this
theorem WY (p k bl:Nat) (B:Nat→Nat) (m:List Int) (i:Int) (w:World) (h:SR w p k bl B m) (k3:k≤3) (hT:Tab w) (hi:i≤9223372036854775807):
 Calls Tryz.prog 300 #[.pointer (some ⟨p,0,none⟩),.int .i64 i] w fun e w'=>e=.returned (.tuple #[.int .i64 (jC m i).1,.bool (jC m i).2])∧w=w':=by
 obtain⟨L,h,ok⟩:=h;exact acB p k bl B L m i w h ok k3 hT hi
theorem LU (m:List Int) (i:Int) (h:i∉m):iy m i=m:=by
 unfold iy;rw[List.filter_eq_self];intro a ha;simp;rintro rfl;exact h ha
theorem OZ (m:List Int) (i:Int) (hs:m.Pairwise (·< ·)) (h:i∈m):(iy m i).length+1=m.length:=by
 induction m with
 |nil=>simp at h
 |cons a r ih=>
  obtain⟨h1,h2⟩:=List.pairwise_cons.1 hs;by_cases e:i=a
  ·subst e;have hn:i∉r:=fun hr=>by have:=h1 i hr;omega
   have:iy (i::r) i=iy r i:=by simp[iy]
   rw[this,LU r i hn];rfl
  ·have hr:i∈r:=by rcases List.mem_cons.1 h with h|h;(exact absurd h e);exact h
   have:iy (a::r) i=a::iy r i:=by
    have hne:(a != i)=true:=by simp;exact fun h=>e h.symm
    simp[iy,hne]
   rw[this,List.length_cons,ih h2 hr];rfl
def inB (k:Nat) (i:Int):Bool:=decide (0≤i)&&decide (i<TN k)
def B_ (k:Nat) (m:List Int) (i:Int):Bool:=inB k i&& !decide (i∈m)
theorem adX (p k bl:Nat) (B:Nat→Nat) (m:List Int) (i:Int) (w:World) (h:SR w p k bl B m) (k3:k≤3) (hm:m.length≤100000):
 Calls Tryz.prog 306 #[.pointer (some ⟨p,0,none⟩),.int .i64 i] w fun e w'=>e=.returned (.bool (B_ k m i))∧SR w' p k bl B (if B_ k m i then jY m i else m)∧Kp (Fp p bl B k) w w':=by
 obtain⟨L,h,ok⟩:=h;by_cases hb:B_ k m i=true
 ·have hb':=hb;simp only[B_,inB,Bool.and_eq_true,decide_eq_true_eq,Bool.not_eq_true',decide_eq_false_iff_not]at hb';obtain⟨⟨h0,h1⟩,h2⟩:=hb';unfold TN at h1;obtain⟨z,rfl⟩:∃z:Nat,i=z:=⟨i.toNat,by omega⟩
  refine(adT p k bl B L _ z m w h ok k3 (by omega) h2 (by omega)).mono ?_;rintro e w' ⟨he,hf,hk⟩;rw[hb];exact⟨he,⟨_,by rw[if_pos rfl,TJ];exact hf,by rw[if_pos rfl];exact ok.put z (by omega) h2⟩,hk⟩
 ·have hb':B_ k m i=false:=by simpa using hb
  refine(Z4 p k bl B L _ i m w h ok k3 ?_).mono ?_
  ·by_cases hm:i∈m
   ·exact .inr hm
   ·left;rintro⟨h0,h1⟩;exact hb (by simp only[B_,inB,Bool.and_eq_true,decide_eq_true_eq,Bool.not_eq_true',decide_eq_false_iff_not];exact⟨⟨h0,h1⟩,hm⟩)
  ·rintro e w' ⟨he,hk⟩;rw[hb',if_neg (by simp)];exact⟨he,⟨L,h.old hk,ok⟩,hk.mono (fun _ _ h=>h.elim)⟩
theorem acD (p k bl:Nat) (B:Nat→Nat) (m:List Int) (i:Int) (w:World) (h:SR w p k bl B m) (k3:k≤3) (hm:m.length≤100000):
 Calls Tryz.prog 295 #[.pointer (some ⟨p,0,none⟩),.int .i64 i] w fun e w'=>e=.returned (.bool (decide (i∈m)))∧SR w' p k bl B (iy m i)∧Kp (Fp p bl B k) w w':=by
 obtain⟨L,h,ok⟩:=h;by_cases hi:i∈m
 ·have h0:=ok.mem i hi;obtain⟨z,rfl⟩:∃z:Nat,i=z:=⟨i.toNat,by omega⟩
  refine(acA p k bl B L _ z m w h ok k3 hi (by omega)).mono ?_;rintro e w' ⟨he,hf,hk⟩;have hl:((iy m z).length:Int)=m.length-1:=by
   have hs:=ok.sorted;have:(iy m z).length+1=m.length:=by
    exact OZ m z hs hi
   omega
  exact⟨by simp[he,hi],⟨_,by rw[hl];exact hf,ok.drop z (by omega) hi⟩,hk⟩
 ·refine(WV p k bl B L _ i m w h ok k3 hi).mono ?_;rintro e w' ⟨he,hk⟩;have e2:iy m i=m:=by
   unfold iy;rw[List.filter_eq_self];intro a ha;simp;rintro rfl;exact hi ha
  rw[e2];exact⟨by simp[he,hi],⟨L,h.old hk,ok⟩,hk.mono (fun _ _ h=>h.elim)⟩
end Go.Proofs.YtjiehhlghjnfhaaGreatDoor.cq
namespace Go.Proofs.YtjiehhlghjnfhaaGreatDoor.cq
open Go Go.RowKit Go.Shelf Go.Proofs.YtjiehhlghjnfhaaGreatDoor
def dY (c:PC Pk):List Value:=[.int .u32 c.x.jU,.int .u32 c.x.id,.int .u64 c.x.len,.int .i32 c.next,.bool c.taken,.bool c.queued]
theorem o_ (c:PC Pk):(dY c).length=6:=rfl
def tq (p:Int×Int):List Value:=[.int .i32 p.1,.int .i32 p.2]
theorem xk (p:Int×Int):(tq p).length=2:=rfl
structure bU (w:World) (p bq:Nat) (vc:Value) (S:PS Pk):Prop where
 top:ag w p [vc,.slice (some ⟨bq,0,none⟩) S.qs.length S.qs.length,.int .i64 S.most,.int .i32 S.free,.int .i64 S.n] 409
 cells:w.ownsRow 0 471 6 vc S.cs.length (S.cs.flatMap dY)
 queues:ag w bq (S.qs.flatMap tq) 411
def PF (p bq:Nat) (vc:Value):Nat→Prop:=fun b=>b=p∨b=bq∨vc.ownBlock=some b
theorem bU.kp {S':Nat→Prop} {w w':World} {p bq:Nat} {vc:Value} {S:PS Pk} (h:bU w p bq vc S) (K:Kp S' w w') (hs:∀b,PF p bq vc b→¬S' b):bU w' p bq vc S:=
 ⟨h.top.kp K (hs _ (.inl rfl)),aK h.cells K (fun b hb=>hs b (.inr (.inr hb))),h.queues.kp K (hs _ (.inr (.inl rfl)))⟩
theorem bU.old {w w':World} {p bq:Nat} {vc:Value} {S:PS Pk} (h:bU w p bq vc S) (K:Kp none' w w'):bU w' p bq vc S:=h.kp K (fun _ _ h=>h)
theorem bU.lt {w:World} {p bq:Nat} {vc:Value} {S:PS Pk} (h:bU w p bq vc S) {b:Nat} (hb:PF p bq vc b):b<w.heap.size:=by
 rcases hb with rfl|rfl|hb
 ·exact h.top.lt
 ·exact h.queues.lt
 ·exact(aG h.cells hb).2
theorem bU.ne {w:World} {p bq:Nat} {vc:Value} {S:PS Pk} (h:bU w p bq vc S):p≠bq∧vc.ownBlock≠some p∧vc.ownBlock≠some bq:=
 ⟨iV h.top h.queues (by decide),az h.cells h.top (by decide),az h.cells h.queues (by decide)⟩
theorem bU.LV {w:World} {p bq:Nat} {vc:Value} {S:PS Pk} (h:bU w p bq vc S) (f:Int):bU (w.setCell ⟨p,3,none⟩ (.int .i32 f)) p bq vc {S with free:=f}:=
 ⟨h.top.set 3 _,dX h.cells (fun b hb e=>h.ne.2.1 (by rw[hb,e])) _,h.queues.bY h.ne.1.symm _⟩
theorem bU.Hq {w:World} {p bq:Nat} {vc:Value} {S:PS Pk} (h:bU w p bq vc S) (n:Int):bU (w.setCell ⟨p,4,none⟩ (.int .i64 n)) p bq vc {S with n:=n}:=
 ⟨h.top.set 4 _,dX h.cells (fun b hb e=>h.ne.2.1 (by rw[hb,e])) _,h.queues.bY h.ne.1.symm _⟩
theorem bU.len {w:World} {p bq:Nat} {ao:Option Addr} {m cap:Nat} {S:PS Pk} (h:bU w p bq (.slice ao m cap) S):m=S.cs.length:=by obtain⟨_,_,e⟩:=dP h.cells;cases e;rfl
theorem bU.yN {w:World} {p bq g m cap:Nat} {S:PS Pk} (h:bU w p bq (.slice (some ⟨g,0,none⟩) m cap) S) (i:Nat) (c c':PC Pk) (j:Nat) (v:Value) (hj:j<6) (hi:S.cs[i]? =some c) (ha:dY c'=(dY c).set j v):
 bU (w.setCell ⟨g,i*6+j,none⟩ v) p bq (.slice (some ⟨g,0,none⟩) m cap) {S with cs:=S.cs.set i c'}:=by
 obtain⟨n1,n2,n3⟩:=h.ne;have hm:=h.len;subst hm;refine⟨h.top.bY (fun e=>n2 (by rw[e];rfl)) _,?_,h.queues.bY (fun e=>n3 (by rw[e];rfl)) _⟩;simp only[List.length_set];rw[Dv dY 6 o_ S.cs i c' c j v hj hi ha];exact r_ h.cells _ _
theorem bU.WZ {w w2:World} {p bq g m cap:Nat} {S:PS Pk} (h:bU w p bq (.slice (some ⟨g,0,none⟩) m cap) S) (i:Nat) (c:PC Pk)
 (ho:w2.ownsRow 0 471 6 (.slice (some ⟨g,0,none⟩) m cap) m ((S.cs.set i c).flatMap dY)) (hk:Kp (fun b=>b=g) w w2):
 bU w2 p bq (.slice (some ⟨g,0,none⟩) m cap) {S with cs:=S.cs.set i c}:=by
 obtain⟨n1,n2,n3⟩:=h.ne;have hm:=h.len;subst hm;refine⟨h.top.kp hk (fun e=>n2 (by rw[e];rfl)),?_,h.queues.kp hk (fun e=>n3 (by rw[e];rfl))⟩;simp only[List.length_set];exact ho
theorem bU.EI {w:World} {p bq:Nat} {vc:Value} {S:PS Pk} (h:bU w p bq vc S) (i:Nat) (c c':Int×Int) (j:Nat) (v:Value) (hj:j<2) (hi:S.qs[i]? =some c) (ha:tq c'=(tq c).set j v):
 bU (w.setCell ⟨bq,i*2+j,none⟩ v) p bq vc {S with qs:=S.qs.set i c'}:=by
 obtain⟨n1,n2,n3⟩:=h.ne;refine⟨?_,dX h.cells (fun b hb e=>n3 (by rw[hb,e])) _,?_⟩
 ·simp only[List.length_set];exact h.top.bY n1 _
 ·show ag _ bq ((S.qs.set i c').flatMap tq) _;rw[Dv tq 2 xk S.qs i c' c j v hj hi ha];exact h.queues.set _ _
theorem bU.drew {w:World} {p bq:Nat} {vc:Value} {S:PS Pk} (h:bU w p bq vc S):bU w.drew p bq vc S:=h.old (Kp.refl _ _).drew
theorem bU.cell {w:World} {p bq:Nat} {vc:Value} {S:PS Pk} (h:bU w p bq vc S) (i:Nat) (c:PC Pk) (hc:S.cs[i]? =some c):∃g cap,vc=.slice (some ⟨g,0,none⟩) S.cs.length cap∧
 w.cell? ⟨g,i*6,none⟩=some (.int .u32 c.x.jU)∧w.cell? ⟨g,i*6+1,none⟩=some (.int .u32 c.x.id)∧w.cell? ⟨g,i*6+2,none⟩=some (.int .u64 c.x.len)∧w.cell? ⟨g,i*6+3,none⟩=some (.int .i32 c.next)∧w.cell? ⟨g,i*6+4,none⟩=some (.bool c.taken)∧w.cell? ⟨g,i*6+5,none⟩=some (.bool c.queued):=by
 have hi:i<S.cs.length:=(List.getElem?_eq_some_iff.1 hc).1;obtain⟨g,cap,rfl,hg⟩:=dJ h.cells (by omega);have hh:∀k u,(dY c)[k]? =some u→w.cell? ⟨g,i*6+k,none⟩=some u:=fun k u hu=>by
  refine eY h.cells _ ?_;rw[flat_get dY 6 o_ _ _ _ (by have:=(List.getElem?_eq_some_iff.1 hu).1;simpa[dY]using this),hc];exact hu
 exact⟨g,cap,rfl,hh 0 _ rfl,hh 1 _ rfl,hh 2 _ rfl,hh 3 _ rfl,hh 4 _ rfl,hh 5 _ rfl⟩
theorem bU.end {w:World} {p bq:Nat} {vc:Value} {S:PS Pk} (h:bU w p bq vc S) (i:Nat) (hd tl:Int) (hi:S.qs[i]? =some (hd,tl)):
 w.cell? ⟨bq,i*2,none⟩=some (.int .i32 hd)∧w.cell? ⟨bq,i*2+1,none⟩=some (.int .i32 tl):=by
 have hh:∀k u,k<2→(tq (hd,tl))[k]? =some u→w.cell? ⟨bq,i*2+k,none⟩=some u:=fun k u hk hu=>by
  refine h.queues.cell _ ?_;rw[flat_get tq 2 xk _ _ _ hk,hi];exact hu
 exact⟨hh 0 _ (by omega) rfl,hh 1 _ (by omega) rfl⟩
def Jg (w w':World) (p bq:Nat) (vc:Value) (S':PS Pk):Prop:=∃rM,bU w' p bq rM S'∧Kp (PF p bq vc) w w'∧Nw w (PF p bq vc) (PF p bq rM)
theorem adY (w:World) (p bq:Nat) (vc:Value) (S:PS Pk) (h:bU w p bq vc S):Calls Tryz.prog 292 #[.pointer (some ⟨p,0,none⟩)] w fun e w'=>e=.returned (.int .i64 S.n)∧w=w':=by
 have c:=h.top.cell 4 rfl;clear h
 go_enter Tryz.func292,Tryz.ntmps292
 go_wp2
 go_ret
 exact⟨rfl,rfl⟩
theorem Jh (w:World) (p bq:Nat) (vc:Value) (S:PS Pk) (h:bU w p bq vc S) (i:Nat) (hk:(tk S i).isSome=true) (hl:S.cs.length≤4096):
 Calls Tryz.prog 302 #[.pointer (some ⟨p,0,none⟩),.int .i64 i] w fun e w'=>e=.returned (.bool true)∧w=w':=by
 have c0:=h.top.cell 0 rfl;obtain⟨c,hc⟩:=Option.isSome_iff_exists.1 hk;obtain⟨_,h1,h2,h3⟩:=gJ hc;simp only[Int.toNat_natCast]at h2;obtain⟨g,cap,rfl,_,_,_,_,c4,_⟩:=h.cell i c h2;rw[h3]at c4;clear h h2 h3 hc hk;generalize S.cs.length=N at*
 go_enter Tryz.func302,Tryz.ntmps302
 go_wp2
 go_ret
 exact⟨rfl,rfl⟩
theorem abr (w:World) (p bq:Nat) (vc:Value) (S:PS Pk) (h:bU w p bq vc S) (q:Nat) (hq:q<S.qs.length) (hl:S.qs.length≤262144):
 Calls Tryz.prog 301 #[.pointer (some ⟨p,0,none⟩),.int .i64 q] w fun e w'=>e=.returned (.bool true)∧w=w':=by
 have c1:=h.top.cell 1 rfl;clear h;generalize S.qs.length=n at*
 go_enter Tryz.func301,Tryz.ntmps301
 go_wp2
 go_ret
 exact⟨rfl,rfl⟩
theorem made2 (z:Value) (n:Nat):madeCells #[z,z] n=(List.replicate n z).toArray:=by
 apply Array.ext
 ·simp[madeCells]
 ·intro i h1 h2;have:i%2=0∨i%2=1:=by omega
  rcases this with h|h<;>simp[madeCells,h]
theorem acE:(Tryz.prog.info? 411).map (fun i=>(i.zero,i.size,i.bytes))=some (some (.agg #[.int .i32 0,.int .i32 0]),2,8):=by kernel_rfl
theorem EJ (n:Nat) (h:n≤262144) (w:World):(Instr.makeSlice 406 (.int .i64 (n:Int)) (.int .i64 (n:Int))).run Tryz.prog w=.ok (.slice (some ⟨w.heap.size,0,none⟩) n n) (w.alloc (.cells (List.replicate (n*2) (.int .i32 0)).toArray 411)):=by
 obtain⟨i,hi,hzz⟩:=Option.map_eq_some_iff.1 acE;simp only[Prod.mk.injEq]at hzz;obtain⟨hz,hs,hb⟩:=hzz;have hr:=run_make (P:=Tryz.prog) w 406 411 i _ Tryz.underlying406 hi hz .i64 .i64 n n (by omega) (Int.le_refl _) (by rw[hb];omega) (by omega);rw[hs]at hr;simp only[Int.toNat_natCast]at hr;rw[hr,←made2];rfl
def qz (j n:Nat):List (Int×Int):=(List.range n).map (fun i=>if i<j then((-1:Int),(-1:Int))else(0,0))
theorem oL (j n:Nat):(qz j n).length=n:=by simp[qz]
theorem oM (j n i:Nat) (h:i<n):(qz j n)[i]? =some (if i<j then(-1,-1)else(0,0)):=by simp[qz,h]
theorem W_ (n:Nat):(qz 0 n).flatMap tq=List.replicate (n*2) (.int .i32 0):=by
 have:qz 0 n=List.replicate n (0,0):=by
  apply List.ext_getElem?
  intro i;by_cases h:i<n
  ·rw[oM 0 n i h,List.getElem?_replicate];simp[h]
  ·rw[List.getElem?_eq_none (by rw[oL];omega),List.getElem?_eq_none (by simp;omega)]
 rw[this];induction n with
 |zero=>rfl
 |succ n ih=>rw[List.replicate_succ,List.flatMap_cons,ih (by apply List.ext_getElem?;intro i;by_cases h:i<n;(rw[oM 0 n i h,List.getElem?_replicate];simp[h]);rw[List.getElem?_eq_none (by rw[oL];omega),List.getElem?_eq_none (by simp;omega)])];rw[show(n+1)*2=n*2+1+1 by omega,List.replicate_succ,List.replicate_succ];rfl
theorem Z9 (j n:Nat) (h:j<n):(qz j n).set j (-1,-1)=qz (j+1) n:=by
 apply List.ext_getElem?
 intro i;by_cases hi:i<n
 ·by_cases e:i=j
  ·subst e;rw[List.getElem?_set_self (by rw[oL];omega),oM _ _ _ hi,if_pos (by omega)]
  ·rw[List.getElem?_set_ne (fun z=>e z.symm),oM _ _ _ hi,oM _ _ _ hi];by_cases h1:i<j
   ·rw[if_pos h1,if_pos (by omega)]
   ·rw[if_neg h1,if_neg (by omega)]
 ·rw[List.getElem?_eq_none (by simp[oL];omega),List.getElem?_eq_none (by rw[oL];omega)]
theorem Xa (n:Nat):qz n n=List.replicate n (-1,-1):=by
 apply List.ext_getElem?
 intro i;by_cases h:i<n
 ·rw[oM n n i h,List.getElem?_replicate,if_pos h,if_pos h]
 ·rw[List.getElem?_eq_none (by rw[oL];omega),List.getElem?_eq_none (by simp;omega)]
def SN (most:Int) (j n:Nat):PS Pk:=⟨[],qz j n,most,-1,0⟩
theorem adZ (most:Int) (n:Nat) (w:World) (h1:1≤most) (h2:most≤4096) (h3:n≤262144):
 Calls Tryz.prog 190 #[.int .i64 most,.int .i64 n] w fun e w'=>∃p bq,e=.returned (.tuple #[.pointer (some ⟨p,0,none⟩),.int .i64 0])∧bU w' p bq (.slice none 0 0) ⟨[],List.replicate n (-1,-1),most,-1,0⟩∧w.heap.size≤p∧w.heap.size≤bq∧Kp none' w w':=by
 have hmk:=EJ n h3;have hst:Hid (bU ((w.alloc (.cells (List.replicate (n*2) (.int .i32 0)).toArray 411)).alloc (.cells #[.slice none 0 0,.slice (some ⟨w.heap.size,0,none⟩) n n,.int .i64 most,.int .i32 (-1),.int .i64 0] 409)) (w.heap.size+1) w.heap.size (.slice none 0 0) (SN most 0 n)):=by
  refine⟨?_,World.ownsRow_nil _ _ _ _,?_⟩
  ·simp only[SN,oL];have:=ag.new (w.alloc (.cells (List.replicate (n*2) (.int .i32 0)).toArray 411)) [.slice none 0 0,.slice (some ⟨w.heap.size,0,none⟩) n n,.int .i64 most,.int .i32 (-1),.int .i64 0] 409;simpa using this
  ·simp only[SN,W_];exact(ag.new _ _ _).alloc _
 go_enter Tryz.func190,Tryz.ntmps190
 go_wp2
 go_loopw [32] (fun s32 wr=>∃j:Nat,j≤n∧s32=.int .i64 j∧Hid (bU wr (w.heap.size+1) w.heap.size (.slice none 0 0) (SN most j n)∧Kp none' w wr)) (fun s32 _=>n-(intOf s32).toNat)
 case atStart=>exact⟨0,Nat.zero_le _,rfl,hst.out,((Kp.refl _ _).alloc _).alloc _⟩
 case round=>
  obtain⟨j,hj,rfl,hh⟩:=hrel;by_cases hlt:j<n
  ·have c1:=hh.out.1.top.cell 1 rfl;simp only[SN,oL]at c1;have fz:=fun k=>hh.out.1.queues.fz k
   have e0:=hh.out.1.queues.cell (j*2) (v:=.int .i32 0) (by rw[show j*2=j*2+0 from rfl,flat_get tq 2 xk _ _ _ (by omega)];simp only[SN];rw[oM _ _ _ hlt];simp[tq]);have e1:=hh.out.1.queues.cell (j*2+1) (v:=.int .i32 0) (by rw[flat_get tq 2 xk _ _ _ (by omega)];simp only[SN];rw[oM _ _ _ hlt];simp[tq]);have hq:(SN most j n).qs[j]? =some (0,0):=by simp only[SN];rw[oM _ _ _ hlt,if_neg (by omega)]
   have hn:=(hh.out.1.EI j (0,0) (-1,0) 0 (.int .i32 (-1)) (by omega) hq rfl).EI j (-1,0) (-1,-1) 1 (.int .i32 (-1)) (by omega) (by simp[SN,oL,hlt]) rfl;have hk:=(hh.out.2.set (p:=⟨w.heap.size,j*2+0,none⟩) (.inr (Nat.le_refl _)) (.int .i32 (-1))).set (p:=⟨w.heap.size,j*2+1,none⟩) (.inr (Nat.le_refl _)) (.int .i32 (-1));simp only[SN,List.set_set,Z9 j n hlt,Nat.add_zero]at hn hk;have HN:=ae hn;have HK:=ae hk;clear hn hk hq hmk
   go_wp2
   go_roundw
   case rel=>exact⟨j+1,by omega,rfl,HN.out,HK.out⟩
   case measure=>simp[intOf];omega
  ·obtain rfl:j=n:=by omega
   have h1:=hh.out.1;simp only[SN,Xa]at h1;have c1:=hh.out.1.top.cell 1 rfl;have H1:=ae h1;clear h1 hmk
   go_wp2
   go_ret2
   exact⟨_,_,rfl,H1.out,by omega,Nat.le_refl _,hh.out.2⟩
def TP:PC Pk:=⟨KT,0,false,false⟩
def ad1:Value:=.agg afH
theorem tPc:qY Tryz.prog 407 471 ad1 6 24:=⟨Tryz.underlying407,by kernel_rfl,rfl,by decide⟩
theorem Ji (c:PC Pk):(Tryz.prog.info? 471).map (·.size)=some (dY c).length:=by rw[o_];kernel_rfl
theorem bU.grow {w Z w1:World} {p bq g cap m:Nat} {vc:Value} {S:PS Pk} (h:bU w p bq vc S) (hz:Kp none' w Z) (c:PC Pk) (hm:S.cs.length=m)
 (hown:w1.ownsRow 0 471 6 (.slice (some ⟨g,0,none⟩) (m+1) cap) (m+1) (S.cs.flatMap dY++dY c)) (hg:Z.grownBy w1 vc.ownBlock):
 bU (w1.setCell ⟨p,0,none⟩ (.slice (some ⟨g,0,none⟩) (m+1) cap)) p bq (.slice (some ⟨g,0,none⟩) (m+1) cap) {S with cs:=S.cs++[c]}:=by
 subst hm;obtain⟨n1,n2,n3⟩:=h.ne;have ht:=(h.top.kp hz (fun x=>x)).grown hg (fun e=>n2 e.symm);have hq:=(h.queues.kp hz (fun x=>x)).grown hg (fun e=>n3 e.symm);have hgp:=az hown ht (by decide);refine⟨ht.set 0 _,?_,hq.bY n1.symm _⟩;have e:(S.cs++[c]).flatMap dY=S.cs.flatMap dY++dY c:=by simp
 simp only[List.length_append,List.length_cons,List.length_nil,Nat.zero_add];rw[e];exact dX hown (fun b hb e=>hgp (by rw[hb,e])) _
set_option maxRecDepth 100000 in
theorem acF (w:World) (p bq:Nat) (vc:Value) (S:PS Pk) (R:RP Pk) (x:Pk) (h:bU w p bq vc S) (hR:Rel S R) (hn:(R.items.length:Int)<S.most):
 Calls Tryz.prog 304 #[.pointer (some ⟨p,0,none⟩),.agg (rG x).toArray] w fun e w'=>e=.returned (.tuple #[.int .i64 (S.take x).2.1,.bool true])∧Jg w w' p bq vc (S.take x).1:=by
 have c0:=h.top.cell 0 rfl;have c2:=h.top.cell 2 rfl;have c3:=h.top.cell 3 rfl;have c4:=h.top.cell 4 rfl;have hl:=hR.len;have acG:=hR.rQ;have hSn:S.n<S.most:=by rw[hR.n];exact hn
 have hn0:0≤S.n:=by rw[hR.n];omega
 have hgt:(S.n≥S.most)=False:=by simp;omega
 have hbl:=h.top.lt;unfold PS.take;rw[if_neg (by omega)];have HB0:=ae (ag.new w (rG x) 62);have aB:Hid (Kp none' w (w.alloc (.cells (rG x).toArray 62))):=(Kp.refl _ _).alloc _;refine ay ?_;intro PP HP;by_cases h2:S.free= -1
 ·rw[if_pos h2]at HP;obtain⟨ao,cap,rfl⟩:=dP h.cells;have HH:=ae h;rw[h2]at c3;have H2:=ae h2;clear h h2 hR;generalize hN:S.cs.length=N at*;have HN:=ae hN;clear hN;obtain⟨fl,id,ln⟩:=x;show Calls Tryz.prog _ #[.pointer (some ⟨p,0,none⟩),.agg #[.int .u32 (fl:Int),.int .u32 (id:Int),.int .u64 (ln:Int)]] w _
  go_enter Tryz.func304,Tryz.ntmps304
  go_upto_region 1 with fail
  have oD:Hid (Kp none' w (w.alloc (.cells #[.int .u32 (fl:Int),.int .u32 (id:Int),.int .u64 (ln:Int)] 62))):=aB.out;have LW:Hid (ag (w.alloc (.cells #[.int .u32 (fl:Int),.int .u32 (id:Int),.int .u64 (ln:Int)] 62)) w.heap.size [.int .u32 (fl:Int),.int .u32 (id:Int),.int .u64 (ln:Int)] 62):=HB0.out;clear aB HB0;generalize w.alloc (.cells #[.int .u32 (fl:Int),.int .u32 (id:Int),.int .u64 (ln:Int)] 62)=w0 at*;have Ba:=ae (HH.out.old oD.out);have c0:=oD.out.cell c0 (fun x=>x);have c2:=oD.out.cell c2 (fun x=>x);have c3:=oD.out.cell c3 (fun x=>x);have c4:=oD.out.cell c4 (fun x=>x);refine af [] [0,1,2,3,4,5,6,7,8,9,10,11] 12 (by kernel_rfl) (by kernel_rfl) (fun c a d u w h=>by cases d<;>exact h) ?_;simp only[pick,bn];show aA _ _ _ _ _ _
  repeat((first
   |refine ah (by exact rfl) (by as_aux_lemma=>intro W hK;have e2:=hK.cell c2 (fun x=>x);have e4:=hK.cell c4 (fun x=>x);go_simp;exact rfl) ?_
   |refine ai (by exact rfl) ?_);simp only[Act.put,aY])
  show ∀W,_→wpList _ _ _ _ _ _
  intro W1 hK1;have d0:=hK1.cell c0 (fun x=>x);have d3:=hK1.cell c3 (fun x=>x);have d4:=hK1.cell c4 (fun x=>x);have bT:=ae (Ba.out.old hK1);have gX:=ae (LW.out.kp hK1 (fun x=>x));have ax:=ae (oD.out.trans hK1);have ad2:=gX.out.lt;have hsz:=ax.out.size;have N1:Hid (some p≠(Value.slice ao N cap).ownBlock):=fun e=>az bT.out.cells bT.out.top (by decide) e.symm
  have N2:Hid (some w.heap.size≠(Value.slice ao N cap).ownBlock):=fun e=>az bT.out.cells gX.out (by decide) e.symm
  have HR1:Hid (W1.ownsRow 0 471 6 (.slice ao N cap) N (S.cs.flatMap dY)):=by have:=bT.out.cells;rw[HN.out]at this;exact this
  clear hK1 c0 c2 c3 c4 Ba LW oD HH
  go_wp2_with(at_builtin;refine J3 tPc (.tmp 36) (.tmp 38) rfl rfl 0 (v:=.slice ao N cap) (HR1.out.alloc _) (dY TP) rfl rfl rfl (fr:=(0,0)) (jI _ _) rfl (by omega) (by omega) (by simp) ?_;intro g cap2 w3 hown hgrow hat;have HT3:=(bT.out.top.alloc (.cells afH 471)).grown hgrow N1.out;have fz3:=HT3.fz 0;have e30:=HT3.cell 0 rfl)
  have hX3:ag w3 w.heap.size [.int .u32 (fl:Int),.int .u32 (id:Int),.int .u64 (ln:Int)] 62:=(gX.out.alloc (.cells afH 471)).grown hgrow N2.out;have hG3:(Value.slice ao N cap).ownBlock=some g∨w.heap.size≤g:=hat.imp_right (fun e=>by rw[e];simp;omega);have hK3:Kp (PF p bq (.slice ao N cap)) w w3:=((ax.out.mono (fun _ _ x=>x.elim)).alloc _).grown hgrow (fun k e=>.inl (.inr (.inr e)));have hM4:=bT.out.grow (Z:=W1.alloc (.cells afH 471)) ((Kp.refl none' W1).alloc _) TP HN.out hown hgrow;have O0:=hX3.bY (a:=⟨p,0,none⟩) (by show w.heap.size≠p;omega) (.slice (some ⟨g,0,none⟩) (N+1) cap2);have hK4:=hK3.set (p:=⟨p,0,none⟩) (.inl (.inl rfl)) (.slice (some ⟨g,0,none⟩) (N+1) cap2);have jR:=ae hM4;have uC:=ae O0;have aH:=ae hK4;have HG:=ae hG3;clear hM4 O0 hK4 hX3 hG3 hK3 hown hgrow hat HT3 fz3 e30 d0 d3 d4 bT gX ax HR1 N1 N2;generalize w3.setCell ⟨p,0,none⟩ (.slice (some ⟨g,0,none⟩) (N+1) cap2)=w4 at*;have f0:=jR.out.top.cell 0 rfl;have x0:=uC.out.cell 0 rfl;have x1:=uC.out.cell 1 rfl;have x2:=uC.out.cell 2 rfl;refine af [] [0,1,2,3,4,5,6,7] 8 (by kernel_rfl) (by kernel_rfl) (fun c a d u w h=>by cases d<;>exact h) ?_;simp only[pick,bn];show aA _ _ _ _ _ _
  repeat((first
   |refine qM (by exact rfl) 471 _ rfl (.agg #[.int .u32 (fl:Int),.int .u32 (id:Int),.int .u64 (ln:Int),.int .i32 (-1),.bool true,.bool false]) (fun _=>by kernel_rfl) ?_
   |refine ah (by exact rfl) (by as_aux_lemma=>intro W hK;have e0:=hK.cell f0 (fun x=>x);have e1:=hK.cell x0 (fun x=>x);have e2:=hK.cell x1 (fun x=>x);have e3:=hK.cell x2 (fun x=>x);have e5:((N:Int)<(N:Int)+1)=True:=(by simp;try omega);go_simp;exact rfl) ?_
   |refine ai (by exact rfl) ?_);simp only[Act.put,aY])
  show ∀W,_→wpList _ _ _ _ _ _
  intro W5 hK5;have dB:=ae (jR.out.old hK5);have a_:=ae (aH.out.trans (hK5.mono (fun _ _ x=>x.elim)));have hlen:N+1=(S.cs++[TP]).length:=by rw[List.length_append,HN.out];rfl
  have HLEN:=ae hlen;clear hK5 hlen f0 x0 x1 x2 jR uC aH;have LX:W5.ownsRow 0 471 6 (.slice (some ⟨g,0,none⟩) (N+1) cap2) (N+1) ((S.cs++[TP]).flatMap dY):=by
   have:=dB.out.cells;rw[←HLEN.out]at this;exact this
  refine dh rfl 471 (.tmp 60) (.tmp 59) rfl dY 6 o_ (S.cs++[TP]) LX N (by rw[←HLEN.out];omega) ⟨⟨fl,id,ln⟩,-1,true,false⟩ rfl rfl rfl (Ji _) rfl ?_;intro W6 ho hk;have ve:=dB.out.WZ N _ ho hk;have hset:(S.cs++[TP]).set N (⟨⟨fl,id,ln⟩,-1,true,false⟩:PC Pk)=S.cs++[⟨⟨fl,id,ln⟩,-1,true,false⟩]:=by rw[←HN.out];simp
  simp only[hset]at ve
  have hk6:Kp (PF p bq (.slice ao N cap)) w W6:=a_.out.then hk (fun i hi e=>by
   subst e;rcases HG.out with h|h
   ·exact .inr (.inr h)
   ·omega)
  have mV:=ae ve;have b_:=ae hk6;have g4:=ve.top.cell 4 rfl;have fz6:=ve.top.fz 4;have hbp:PF p bq (.slice ao N cap) p:=.inl rfl;have Xb:=ae hbp;clear ve hk6 ho hk hset LX dB a_ hbp
  go_wp2_with fail
  refine HP.out _ _ ⟨rfl,_,mV.out.Hq (S.n+1),b_.out.set (.inl Xb.out) _,fun b hb=> ?_⟩;rcases hb with rfl|rfl|hb
  ·exact .inl (.inl rfl)
  ·exact .inl (.inr (.inl rfl))
  ·have hb:some g=some b:=hb;injection hb with hb
   subst hb;exact HG.out.imp_left (fun h=>.inr (.inr h))
 ·rw[if_neg h2]at HP;have hbk:=hR.Ew;have hfr:0≤S.free∧S.free<S.cs.length:=by
   cases hb:R.back.getLast? with
   |none=>rw[hb]at hbk;exact absurd hbk h2
   |some b=>
    rw[hb]at hbk;have:=hR.lI b (List.mem_of_getLast? hb);have e:S.free=b:=hbk;rw[e];exact⟨this.1,this.2.1⟩
  obtain⟨i,hi⟩:∃i:Nat,S.free=i:=⟨S.free.toNat,by omega⟩
  have hil:i<S.cs.length:=by omega
  have hne:(S.free== -1)=false:=by simpa using h2
  rw[hi]at hne c3;obtain⟨g,cap,rfl,TQ,Jj,TR,O1,ce4,Z_⟩:=h.cell i S.cs[i] (by simp[hil]);have HH:=ae h;have hnx:nx S.cs S.free.toNat=S.cs[i].next:=by unfold nx;rw[hi];simp[hil]
  rw[hnx,hi]at HP;have HI:=ae hi;have ad3:p≠g:=fun e=>h.ne.2.1 (by rw[e];rfl)
  clear h hR h2 hfr hnx hi TQ Jj TR ce4 Z_ hbk;generalize S.cs[i].next=fn at*;generalize hN:S.cs.length=N at*;have HN:=ae hN;clear hN;obtain⟨fl,id,ln⟩:=x;show Calls Tryz.prog _ #[.pointer (some ⟨p,0,none⟩),.agg #[.int .u32 (fl:Int),.int .u32 (id:Int),.int .u64 (ln:Int)]] w _
  go_enter Tryz.func304,Tryz.ntmps304
  go_upto_region 1 with fail
  have oD:Hid (Kp none' w (w.alloc (.cells #[.int .u32 (fl:Int),.int .u32 (id:Int),.int .u64 (ln:Int)] 62))):=aB.out;have LW:Hid (ag (w.alloc (.cells #[.int .u32 (fl:Int),.int .u32 (id:Int),.int .u64 (ln:Int)] 62)) w.heap.size [.int .u32 (fl:Int),.int .u32 (id:Int),.int .u64 (ln:Int)] 62):=HB0.out;clear aB HB0;generalize w.alloc (.cells #[.int .u32 (fl:Int),.int .u32 (id:Int),.int .u64 (ln:Int)] 62)=w0 at*;have Ba:=ae (HH.out.old oD.out);have c0:=oD.out.cell c0 (fun x=>x);have c2:=oD.out.cell c2 (fun x=>x);have c3:=oD.out.cell c3 (fun x=>x);have c4:=oD.out.cell c4 (fun x=>x);have O1:=oD.out.cell O1 (fun x=>x);refine af [] [0,1,2,3,4,5,6,7,8,9,10,11] 12 (by kernel_rfl) (by kernel_rfl) (fun c a d u w h=>by cases d<;>exact h) ?_;simp only[pick,bn];show aA _ _ _ _ _ _
  repeat((first
   |refine ah (by exact rfl) (by as_aux_lemma=>intro W hK;have e2:=hK.cell c2 (fun x=>x);have e4:=hK.cell c4 (fun x=>x);go_simp;exact rfl) ?_
   |refine ai (by exact rfl) ?_);simp only[Act.put,aY])
  show ∀W,_→wpList _ _ _ _ _ _
  intro W1 hK1;have d0:=hK1.cell c0 (fun x=>x);have d3:=hK1.cell c3 (fun x=>x);have d4:=hK1.cell c4 (fun x=>x);have de:=hK1.cell O1 (fun x=>x);have bT:=ae (Ba.out.old hK1);have gX:=ae (LW.out.kp hK1 (fun x=>x));have ax:=ae (oD.out.trans hK1);have ad2:=gX.out.lt;have fz3:=bT.out.top.fz 3;clear hK1 c0 c2 c3 c4 O1 Ba LW oD HH
  go_wp2_with fail
  have xC:w.heap.size≠p:=by omega
  have hM2:=bT.out.LV fn;have hX2:=gX.out.bY (a:=⟨p,3,none⟩) xC (.int .i32 fn);have hbp:PF p bq (.slice (some ⟨g,0,none⟩) N cap) p:=.inl rfl;have hbg:PF p bq (.slice (some ⟨g,0,none⟩) N cap) g:=.inr (.inr rfl);have hK2:Kp (PF p bq (.slice (some ⟨g,0,none⟩) N cap)) w (W1.setCell ⟨p,3,none⟩ (.int .i32 fn)):=(ax.out.mono (fun _ _ x=>x.elim)).set (.inl hbp) _;have eP:=ae hM2;have pK:=ae hX2;have ak:=ae hK2;have Xb:=ae hbp;have HBG:=ae hbg;clear hM2 hX2 hK2 hbp hbg bT gX ax d0 d3 d4 de fz3;generalize W1.setCell ⟨p,3,none⟩ (.int .i32 fn)=w4 at*;have f0:=eP.out.top.cell 0 rfl;have x0:=pK.out.cell 0 rfl;have x1:=pK.out.cell 1 rfl;have x2:=pK.out.cell 2 rfl;refine af [] [0,1,2,3,4,5,6,7] 8 (by kernel_rfl) (by kernel_rfl) (fun c a d u w h=>by cases d<;>exact h) ?_;simp only[pick,bn];show aA _ _ _ _ _ _
  repeat((first
   |refine qM (by exact rfl) 471 _ rfl (.agg #[.int .u32 (fl:Int),.int .u32 (id:Int),.int .u64 (ln:Int),.int .i32 (-1),.bool true,.bool false]) (fun _=>by kernel_rfl) ?_
   |refine ah (by exact rfl) (by as_aux_lemma=>intro W hK;have e0:=hK.cell f0 (fun x=>x);have e1:=hK.cell x0 (fun x=>x);have e2:=hK.cell x1 (fun x=>x);have e3:=hK.cell x2 (fun x=>x);have e5:((i:Int)<(N:Int))=True:=(by simp;omega);go_simp;exact rfl) ?_
   |refine ai (by exact rfl) ?_);simp only[Act.put,aY])
  show ∀W,_→wpList _ _ _ _ _ _
  intro W5 hK5;have dB:=ae (eP.out.old hK5);have a_:=ae (ak.out.trans (hK5.mono (fun _ _ x=>x.elim)));clear hK5 f0 x0 x1 x2 eP pK ak;have LX:W5.ownsRow 0 471 6 (.slice (some ⟨g,0,none⟩) N cap) N (S.cs.flatMap dY):=by
   have:=dB.out.cells;simp only[HN.out]at this;exact this
  refine dh rfl 471 (.tmp 60) (.tmp 59) rfl dY 6 o_ S.cs LX i (by rw[HN.out];omega) ⟨⟨fl,id,ln⟩,-1,true,false⟩ rfl rfl rfl (Ji _) rfl ?_;intro W6 ho hk;have ve:=dB.out.WZ i _ ho hk;have hk6:Kp (PF p bq (.slice (some ⟨g,0,none⟩) N cap)) w W6:=a_.out.trans (hk.mono (fun j hj e=>by subst e;exact HBG.out));have mV:=ae ve;have b_:=ae hk6;have g4:=ve.top.cell 4 rfl;have fz6:=ve.top.fz 4;clear ve hk6 ho hk LX dB a_
  go_wp2_with fail
  exact HP.out _ _ ⟨rfl,_,mV.out.Hq (S.n+1),b_.out.set (.inl Xb.out) _,fun b hb=>.inl hb⟩
attribute [local go_sem] Oper.semAt_some
set_option maxRecDepth 100000 in
theorem Xc (w:World) (p bq:Nat) (vc:Value) (S:PS Pk) (R:RP Pk) (h:bU w p bq vc S) (hR:Rel S R) (j i:Nat) (hj:j<S.qs.length) (pY:S.qs.length≤262144) (hS:(S.append j i).2=0):
 Calls Tryz.prog 305 #[.pointer (some ⟨p,0,none⟩),.int .i64 j,.int .i64 i] w fun e w'=>e=.returned (.int .i64 0)∧Jg w w' p bq vc (S.append j i).1:=by
 have c0:=h.top.cell 0 rfl;have c1:=h.top.cell 1 rfl;have hl:=hR.len;have HH:=ae (abr w p bq vc S h j hj pY);obtain⟨hd,tl,hq⟩:∃hd tl,S.qs[j]? =some (hd,tl):=⟨_,_,(List.getElem?_eq_some_iff.2 ⟨hj,rfl⟩)⟩
 obtain⟨c,hk,hcq⟩:∃c,tk S i=some c∧c.queued=false:=by
  unfold PS.append at hS;rw[if_neg (by omega)]at hS;cases hk:tk S i with
  |none=>rw[hk]at hS;cases hS
  |some c=>
   refine⟨c,rfl,?_⟩;rw[hk]at hS;simp only at hS;cases hc:c.queued with
   |false=>rfl
   |true=>rw[hc]at hS;simp at hS
 have HT:=ae (Jh w p bq vc S h i (by rw[hk];rfl) hl);obtain⟨_,k1,hc,_⟩:=gJ hk;simp only[Int.toNat_natCast]at hc;have hi:i<S.cs.length:=by omega
 obtain⟨g,cap,rfl,_,_,_,Jj,_,O1⟩:=h.cell i c hc;obtain⟨e0,e1⟩:=h.end j hd tl hq;obtain⟨n1,n2,n3⟩:=h.ne;have hgp:p≠g:=fun e=>n2 (by rw[e];rfl)
 have hgq:bq≠g:=fun e=>n3 (by rw[e];rfl)
 have fg:=fun j=>mZ h.cells j
 have fq:=fun j=>h.queues.fz j
 have hM:=ae h;rw[hcq]at O1;have CW:PF p bq (.slice (some ⟨g,0,none⟩) S.cs.length cap) g:=.inr (.inr rfl);have hpq:PF p bq (.slice (some ⟨g,0,none⟩) S.cs.length cap) bq:=.inr (.inl rfl);have hst1:=((hM.out.yN i c {c with next:= -1} 3 (.int .i32 (-1)) (by omega) hc rfl).yN i {c with next:= -1} {c with next:= -1,queued:=true} 5 (.bool true) (by omega) (by simp[hi]) rfl);have Af:=(((Kp.refl (PF p bq (.slice (some ⟨g,0,none⟩) S.cs.length cap)) w).set (p:=⟨g,i*6+3,none⟩) (.inl CW) (.int .i32 (-1))).set (p:=⟨g,i*6+5,none⟩) (.inl CW) (.bool true));simp only[List.set_set]at hst1;have zD:jq S.cs i (-1) true=S.cs.set i {c with next:= -1,queued:=true}:=by unfold jq;rw[hc]
 have Xd:Hid (Nw w (PF p bq (.slice (some ⟨g,0,none⟩) S.cs.length cap)) (PF p bq (.slice (some ⟨g,0,none⟩) S.cs.length cap))):=Nw.refl _ _;by_cases h2:hd= -1
 ·subst h2;have hS:S.append j i=({S with cs:=jq S.cs i (-1) true,qs:=S.qs.set j (i,i)},0):=by
   unfold PS.append;rw[if_neg (by omega),hk];simp[hcq,hq]
  rw[hS,zD];have hst:=((hst1.EI j (-1,tl) ((i:Int),tl) 0 (.int .i32 i) (by omega) hq rfl).EI j ((i:Int),tl) ((i:Int),(i:Int)) 1 (.int .i32 i) (by omega) (by simp[hj]) rfl);have hkp:=((Af.set (p:=⟨bq,j*2+0,none⟩) (.inl hpq) (.int .i32 i)).set (p:=⟨bq,j*2+1,none⟩) (.inl hpq) (.int .i32 i));simp only[List.set_set,Nat.add_zero]at hst hkp;have HST:=ae hst;have xJ:=ae hkp;clear h hR hS hk hcq hst hkp hst1 Af zD CW hpq hq hc n1 n2 n3 hM;generalize S.qs.length=n at*;generalize S.cs.length=m at*
  go_enter Tryz.func305,Tryz.ntmps305
  go_wp2_with(first|(go_at_call 301;refine(HH.out).mono ?_;rintro e w' ⟨rfl,rfl⟩)|(go_at_call 302;refine(HT.out).mono ?_;rintro e w' ⟨rfl,rfl⟩))
  go_region
  go_wp2
  go_ret
  exact⟨rfl,_,HST.out.drew,xJ.out.drew,Xd.out⟩
 ·have h2':(hd== -1)=false:=by simpa using h2
  rcases hR.ends hq with⟨e,_⟩|⟨_,d,_,_,ht,hdq⟩
  ·exact absurd e h2
  obtain⟨t0,t1,td,_⟩:=gJ ht;obtain⟨t,rfl⟩:∃t:Nat,tl=t:=⟨tl.toNat,by omega⟩
  have hti:t≠i:=fun e=>by subst e;rw[hk]at ht;cases ht;rw[hcq]at hdq;cases hdq
  have htl:t<S.cs.length:=by omega
  simp only[Int.toNat_natCast]at td;obtain⟨g',cap',e',_,_,_,te1,_,_⟩:=h.cell t d td;obtain⟨rfl,rfl⟩:g=g'∧cap=cap':=by cases e';exact⟨rfl,rfl⟩
  clear e';have hsn:mQ (jq S.cs i (-1) true) t i=(S.cs.set i {c with next:= -1,queued:=true}).set t {d with next:=i}:=by
   rw[zD];unfold mQ;rw[List.getElem?_set_ne (fun e=>hti e.symm),td]
  have hS:S.append j i=({S with cs:=mQ (jq S.cs i (-1) true) t i,qs:=S.qs.set j (hd,i)},0):=by
   unfold PS.append;rw[if_neg (by omega),hk];simp[hcq,hq,h2]
  rw[hS,hsn];have hst:=((hst1.yN t d {d with next:=i} 3 (.int .i32 i) (by omega) (by simp only;rw[List.getElem?_set_ne (fun e=>hti e.symm)];exact td) rfl).EI j (hd,(t:Int)) (hd,(i:Int)) 1 (.int .i32 i) (by omega) hq rfl);have hkp:=((Af.set (p:=⟨g,t*6+3,none⟩) (.inl CW) (.int .i32 i)).set (p:=⟨bq,j*2+1,none⟩) (.inl hpq) (.int .i32 i));have HST:=ae hst;have xJ:=ae hkp;clear h hR hS hk hcq hst hkp hst1 Af zD hsn CW hpq hq hc n1 n2 n3 hM ht hdq td h2;generalize S.qs.length=n at*;generalize S.cs.length=m at*
  go_enter Tryz.func305,Tryz.ntmps305
  go_wp2_with(first|(go_at_call 301;refine(HH.out).mono ?_;rintro e w' ⟨rfl,rfl⟩)|(go_at_call 302;refine(HT.out).mono ?_;rintro e w' ⟨rfl,rfl⟩))
  go_region
  go_wp2
  go_region
  go_wp2
  go_ret
  exact⟨rfl,_,HST.out.drew.drew,xJ.out.drew.drew,Xd.out⟩
end Go.Proofs.YtjiehhlghjnfhaaGreatDoor.cq
