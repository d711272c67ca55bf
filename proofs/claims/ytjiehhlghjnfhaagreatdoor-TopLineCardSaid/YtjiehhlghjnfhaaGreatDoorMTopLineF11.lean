/- Queues with bounds (layer 12): Push, its walk. -/
import Derived.Test.YtjiehhlghjnfhaaGreatDoorMTopLineF10
import Derived.Test.YtjiehhlghjnfhaaGreatDoorMTopLineF8
import Derived.Test.YtjiehhlghjnfhaaGreatDoorMTopLineF7
import Derived.Test.YtjiehhlghjnfhaaGreatDoorMTopLineF6
set_option linter.unusedVariables false
set_option linter.unusedSimpArgs false
set_option maxHeartbeats 2000000
namespace Go.Proofs.YtjiehhlghjnfhaaGreatDoor
open Go Go.RowKit Go.Shelf
set_option maxRecDepth 100000 in
theorem ZB {w:World} {qb g1 c1 g2 c2 n room m p A:Nat} {G:Nat→Prop} {Q:List It} {bs:List Nat} (r fl id ln:Nat)
 (hb:ag w qb [.slice (some ⟨g1,0,none⟩) n c1,.slice (some ⟨g2,0,none⟩) n c2,.int .i64 room,.int .i64 m] 364) (ho:w.ownsRow 0 22 1 (.slice (some ⟨g2,0,none⟩) n c2) n (bs.map lG))
 (hxp:w.cell? ⟨g1,A,none⟩=some (.pointer (some ⟨p,0,none⟩))) (hg2:g2≠qb∧¬G g2) (hg1:g1≠g2) (hG:¬G qb) (hm:m<room) (hroom:room≤4096) (hn:1≤n∧n≤32) (hl:bs.length=n) (hA:kL bs r (n-1)=A)
 (hput:OH w g2 p room G Q r fl id ln) (hB:¬(A=0∧r<bs.getD 0 0)):
 Calls Tryz.prog 316 #[.pointer (some ⟨qb,0,none⟩),.int .u64 r,.agg #[.int .u32 fl,.int .u32 id,.int .u64 ln]] w fun e w'=>wX w qb g1 c1 g2 c2 n room m p A G Q (bs.set A r) r fl id ln e w':=by
 refine ay ?_;intro PP HP;have BR:Hid (∀W,Kp (fun b=>b=g2) w W→Calls Tryz.prog 320 #[.pointer (some ⟨p,0,none⟩),.agg #[.int .u64 r,.int .u32 fl,.int .u32 id,.int .u64 ln]] W fun e w'=>e=.returned (.bool true)∧∃F',Rg w' F' p room (Q++[⟨r,⟨fl,id,ln⟩⟩])∧Kp G W w'∧Nw W G F'):=ae hput;have nY:=ae hg2;have kK:=ae hg1;have HG:=ae hG;have Es:=ae hB;have HL:=ae hl;have sV:=ae ((aG ho rfl).2);have HA:=ae hA;have hAl:A≤n-1:=by rw[←hA];exact wS _ _ _
 have hmr:(m:Int)<room:=by omega
 have HX:=ae (ag.new w [.int .u32 fl,.int .u32 id,.int .u64 ln] 62);have aB:=ae ((Kp.refl none' w).alloc (.cells #[.int .u32 fl,.int .u32 id,.int .u64 ln] 62));have HB0:=ae (hb.kp aB.out (fun x=>x));have nG:=ae (aK ho aB.out (fun _ _ x=>x));have V9:=ae (aB.out.cell hxp (fun x=>x));have y2:=HB0.out.cell 2 rfl;have y3:=HB0.out.cell 3 rfl;clear hput hg2 hg1 hG hB hl hA hb ho hxp
 go_enter Tryz.func316,Tryz.ntmps316
 go_wp2_with fail
 have hdm:decide ((room:Int)≤m)=false:=by rw[decide_eq_false_iff_not];omega
 have V_:decide (room≤m)=false:=by rw[decide_eq_false_iff_not];omega
 refine af [] [0,1,2,3,4,5,6,7,8,9,10,11] 12 (by kernel_rfl) (by kernel_rfl) (fun c a d u w h=>by cases d<;>exact h) ?_;simp only[pick,bn];show aA _ _ _ _ _ _
 repeat((first
  |refine ah (by exact rfl) (by as_aux_lemma=>intro W hK;have e0:=hK.cell y3 (fun x=>x);have e1:=hK.cell y2 (fun x=>x);have e9:=hdm;have e8:=V_;go_simp;exact rfl) ?_
  |refine ai (by exact rfl) ?_);simp only[Act.put,aY])
 show ∀W,_→wpList _ _ _ _ _ _
 intro W1 hK1;have ax:=ae (aB.out.trans hK1);have HB1:=ae (HB0.out.kp hK1 (fun x=>x));have Oo:=ae (aK nG.out hK1 (fun _ _ x=>x));have gX:=ae (HX.out.kp hK1 (fun x=>x));have XP1:=ae (hK1.cell V9.out (fun x=>x));have y1:=HB1.out.cell 1 rfl;clear hK1 y2 y3 HB0 nG HX V9 aB;have hw9:IntKind.i64.wrap ((n:Int)-1)=((n-1:Nat):Int):=by rw[IntKind.wrap_i64];omega
 go_wp2_with fail
 clear y1
 go_loopw [8] (fun i0 wr=>∃k:Nat,i0=.int .i64 k∧k≤n-1∧Hid (kL bs r k=A)∧Hid (Kp none' W1 wr)) (fun i0 _=>(intOf i0).toNat)
 case atStart=>exact⟨n-1,rfl,Nat.le_refl _,HA.out,Kp.refl _ _⟩
 case round=>
  obtain⟨k,rfl,hk,HAt,uk⟩:=hrel;have hki:(k:Int)<n:=by omega
  have TC:=ae (HB1.out.kp uk.out (fun x=>x));have HOr:=ae (aK Oo.out uk.out (fun _ _ x=>x));have ZC:=ae (gX.out.kp uk.out (fun x=>x));have ZE:=ae (uk.out.cell XP1.out (fun x=>x));have r1:=TC.out.cell 1 rfl
  have rk:wr.cell? ⟨g2,k,none⟩=some (.int .u64 (bs.getD k 0)):=eY HOr.out k (by
   rw[List.getElem?_map,List.getD_eq_getElem?_getD,List.getElem?_eq_getElem (by rw[HL.out];omega)];rfl)
  have r0:wr.cell? ⟨g2,0,none⟩=some (.int .u64 (bs.getD 0 0)):=eY HOr.out 0 (by
   rw[List.getElem?_map,List.getD_eq_getElem?_getD,List.getElem?_eq_getElem (by rw[HL.out];omega)];rfl)
  by_cases h0:k=0
  ·subst h0;have TD:A=0:=by rw[←HAt.out];rfl
   subst TD;obtain⟨b0,hb0⟩:∃b0,bs.getD 0 0=b0:=⟨_,rfl⟩
   have hlt:¬r<b0:=fun h=>Es.out ⟨rfl,by rw[hb0];exact h⟩
   rw[hb0]at r0 rk;clear hb0 hAl;have hd1:decide ((r:Int)<b0)=false:=by rw[decide_eq_false_iff_not];omega
   have hd2:decide (r<b0)=false:=by rw[decide_eq_false_iff_not];omega
   have We:(0:Int)<n:=by omega
   have hkB:0<n:=by omega
   have Wh:(0:Int)<n:=by omega
   have Wi:0<n:=by omega
   have hgl:g2<w.heap.size:=sV.out;have hkq:Kp (fun b=>b=g2) wr (wr.setCell ⟨g2,0,none⟩ (.int .u64 r)):=(Kp.refl (fun b=>b=g2) wr).set (p:=⟨g2,0,none⟩) (.inl rfl) _;have HB4:=ae (TC.out.kp hkq (fun e=>nY.out.1 e.symm));have uC:=ae (ZC.out.kp hkq (fun e=>by omega));have Wj:=ae (hkq.cell ZE.out (fun e=>kK.out e));have rJ:Hid ((wr.setCell ⟨g2,0,none⟩ (.int .u64 r)).ownsRow 0 22 1 (.slice (some ⟨g2,0,none⟩) n c2) n ((bs.set 0 r).map lG)):=ae (by rw[List.map_set];exact r_ HOr.out 0 _);have aH:Hid (Kp (fun b=>b=g2) w (wr.setCell ⟨g2,0,none⟩ (.int .u64 r))):=ae (((ax.out.trans uk.out).mono (fun _ _ x=>x.elim)).trans hkq);have z:=mZ HOr.out 0;clear hkq
   go_wp2_with fail
   generalize wr.setCell ⟨g2,_,none⟩ (.int .u64 (r:Int))=W4 at*;have xp:=Wj.out;have q0:=HB4.out.cell 0 rfl;have xI:=ae (zT uC.out)
   go_wp2_with fail
   refine af [] [0,1,2,3,4,5,6,7,8,9] 10 (by kernel_rfl) (by kernel_rfl) (fun c a d u w h=>by cases d<;>exact h) ?_;simp only[pick,bn];show aA _ _ _ _ _ _
   repeat((first
        |refine ah (by exact rfl) (bW rfl rfl xI.out) ?_
        |refine ah (by exact rfl) (by as_aux_lemma=>intro W hK;have e0:=hK.cell q0 (fun x=>x);have e1:=hK.cell xp (fun x=>x);have e2:=We;have e3:=hkB;have e4:=Wh;have e5:=Wi;go_simp;exact rfl) ?_
        |refine ai (by exact rfl) ?_);simp only[Act.put,aY])
   show ∀W,_→wpList _ _ _ _ _ _
   intro W5 hK5;have a_:=ae hK5
   go_wp2_with fail
   refine(BR.out W5 (aH.out.then hK5 (fun b hb x=>x.elim))).mono ?_;rintro e W6 ⟨rfl,F',Ll,hk6,pX⟩;have sU:=ae Ll;have b_:=ae hk6;have rP:=ae pX;have bV:=ae ((HB4.out.kp hK5 (fun x=>x)).kp hk6 HG.out);have q3:=bV.out.cell 3 rfl;have qf:=bV.out.fz 3;clear hK5 Ll hk6 pX q0 xp
   go_wp2_with fail
   have pY:qb<W5.heap.size:=(HB4.out.kp a_.out (fun x=>x)).lt
   exact HP.out _ _ (Bd nY.out HG.out HB4.out rJ.out aH.out a_.out sU.out b_.out rP.out (fun h=>by
    rcases rP.out _ h with h|h
    ·exact HG.out h
    ·omega))
  ·obtain⟨j,rfl⟩:∃j,k=j+1:=⟨k-1,by omega⟩
   obtain⟨bk,hbk⟩:∃bk,bs.getD (j+1) 0=bk:=⟨_,rfl⟩
   rw[hbk]at rk;have hd0:decide ((0:Int)<((j+1:Nat):Int))=true:=by rw[decide_eq_true_eq];omega
   have hd9:((((j+1:Nat):Int))==0)=false:=by rw[beq_eq_false_iff_ne];omega
   by_cases hle:bk≤r
   ·have TD:A=j+1:=by rw[←HAt.out];unfold kL;rw[if_pos (by rw[hbk];exact hle)]
    subst TD;clear h0 hAl hbk;have hd1:decide ((r:Int)<bk)=false:=by rw[decide_eq_false_iff_not];omega
    have hd2:decide (r<bk)=false:=by rw[decide_eq_false_iff_not];omega
    have We:(j:Int)+1<n:=by omega
    have hkB:j+1<n:=by omega
    have Wh:(0:Int)≤(j:Int)+1:=by omega
    have Wi:((j+1:Nat):Int)<n:=by omega
    have hgl:g2<w.heap.size:=sV.out;have hkq:Kp (fun b=>b=g2) wr (wr.setCell ⟨g2,j+1,none⟩ (.int .u64 r)):=(Kp.refl (fun b=>b=g2) wr).set (p:=⟨g2,j+1,none⟩) (.inl rfl) _;have HB4:=ae (TC.out.kp hkq (fun e=>nY.out.1 e.symm));have uC:=ae (ZC.out.kp hkq (fun e=>by omega));have Wj:=ae (hkq.cell ZE.out (fun e=>kK.out e));have rJ:Hid ((wr.setCell ⟨g2,j+1,none⟩ (.int .u64 r)).ownsRow 0 22 1 (.slice (some ⟨g2,0,none⟩) n c2) n ((bs.set (j+1) r).map lG)):=ae (by rw[List.map_set];exact r_ HOr.out (j+1) _);have aH:Hid (Kp (fun b=>b=g2) w (wr.setCell ⟨g2,j+1,none⟩ (.int .u64 r))):=ae (((ax.out.trans uk.out).mono (fun _ _ x=>x.elim)).trans hkq);have z:=mZ HOr.out (j+1);clear hkq
    go_wp2_with fail
    generalize wr.setCell ⟨g2,_,none⟩ (.int .u64 (r:Int))=W4 at*;have xp:=Wj.out;have q0:=HB4.out.cell 0 rfl;have xI:=ae (zT uC.out)
    go_wp2_with fail
    refine af [] [0,1,2,3,4,5,6,7,8,9] 10 (by kernel_rfl) (by kernel_rfl) (fun c a d u w h=>by cases d<;>exact h) ?_;simp only[pick,bn];show aA _ _ _ _ _ _
    repeat((first
     |refine ah (by exact rfl) (bW rfl rfl xI.out) ?_
     |refine ah (by exact rfl) (by as_aux_lemma=>intro W hK;have e0:=hK.cell q0 (fun x=>x);have e1:=hK.cell xp (fun x=>x);have e2:=We;have e3:=hkB;have e4:=Wh;have e5:=Wi;go_simp;exact rfl) ?_
     |refine ai (by exact rfl) ?_);simp only[Act.put,aY])
    show ∀W,_→wpList _ _ _ _ _ _
    intro W5 hK5;have a_:=ae hK5
    go_wp2_with fail
    refine(BR.out W5 (aH.out.then hK5 (fun b hb x=>x.elim))).mono ?_;rintro e W6 ⟨rfl,F',Ll,hk6,pX⟩;have sU:=ae Ll;have b_:=ae hk6;have rP:=ae pX;have bV:=ae ((HB4.out.kp hK5 (fun x=>x)).kp hk6 HG.out);have q3:=bV.out.cell 3 rfl;have qf:=bV.out.fz 3;clear hK5 Ll hk6 pX q0 xp
    go_wp2_with fail
    have pY:qb<W5.heap.size:=(HB4.out.kp a_.out (fun x=>x)).lt
    exact HP.out _ _ (Bd nY.out HG.out HB4.out rJ.out aH.out a_.out sU.out b_.out rP.out (fun h=>by
     rcases rP.out _ h with h|h
     ·exact HG.out h
     ·omega))
   ·have HAn:Hid (kL bs r j=A):=ae (by rw[←HAt.out];conv=>rhs;unfold kL
                                       rw[if_neg (by rw[hbk];exact hle)])
    clear h0 hbk;have hd1:decide ((r:Int)<bk)=true:=by rw[decide_eq_true_eq];omega
    have hd2:decide (r<bk)=true:=by rw[decide_eq_true_eq];omega
    have hw8:IntKind.i64.wrap (((j+1:Nat):Int)-1)=(j:Int):=by rw[IntKind.wrap_i64];omega
    go_wp2_with fail
    go_roundw
    case rel=>exact⟨j,rfl,by omega,HAn.out,uk.out⟩
    case measure=>simp[intOf]
def OI (bs:List Nat) (r b:Nat):Nat:=b-(bs.getD 0 0-r)
theorem ZF (f:Nat→Nat) (bs:List Nat) (i:Nat) (h:i<bs.length):(((bs.take i).map f++bs.drop i).set i (f bs[i]))=(bs.take (i+1)).map f++bs.drop (i+1):=by
 rw[List.set_append_right _ _ (by rw[List.length_map,List.length_take];omega),List.length_map,List.length_take];have h1:i-min i bs.length=0:=by omega
 rw[h1,List.drop_eq_getElem_cons h,List.set_cons_zero,List.take_succ_eq_append_getElem h,List.map_append];simp
theorem ZG (f:Nat→Nat) (bs:List Nat) (i:Nat) (h:i<bs.length):((bs.take i).map f++bs.drop i)[i]? =some bs[i]:=by
 rw[List.getElem?_append_right (by rw[List.length_map,List.length_take];omega),List.length_map,List.length_take];have h1:i-min i bs.length=0:=by omega
 rw[h1,List.drop_eq_getElem_cons h];rfl
set_option maxRecDepth 100000 in
theorem ZH {w:World} {qb g1 c1 g2 c2 n room m p A:Nat} {G:Nat→Prop} {Q:List It} {bs:List Nat} (r fl id ln:Nat)
 (hb:ag w qb [.slice (some ⟨g1,0,none⟩) n c1,.slice (some ⟨g2,0,none⟩) n c2,.int .i64 room,.int .i64 m] 364) (ho:w.ownsRow 0 22 1 (.slice (some ⟨g2,0,none⟩) n c2) n (bs.map lG))
 (hxp:w.cell? ⟨g1,A,none⟩=some (.pointer (some ⟨p,0,none⟩))) (hg2:g2≠qb∧¬G g2) (hg1:g1≠g2) (hG:¬G qb) (hm:m<room) (hroom:room≤4096) (hn:1≤n∧n≤32) (hl:bs.length=n) (hA:kL bs r (n-1)=A)
 (hput:OH w g2 p room G Q r fl id ln) (hA0:A=0) (hB:r<bs.getD 0 0) (hU:Zc bs) (hbk:∀b∈bs,b<18446744073709551616):
 Calls Tryz.prog 316 #[.pointer (some ⟨qb,0,none⟩),.int .u64 r,.agg #[.int .u32 fl,.int .u32 id,.int .u64 ln]] w fun e w'=>wX w qb g1 c1 g2 c2 n room m p A G Q (bs.map (OI bs r)) r fl id ln e w':=by
 refine ay ?_;intro PP HP;have BR:Hid (∀W,Kp (fun b=>b=g2) w W→Calls Tryz.prog 320 #[.pointer (some ⟨p,0,none⟩),.agg #[.int .u64 r,.int .u32 fl,.int .u32 id,.int .u64 ln]] W fun e w'=>e=.returned (.bool true)∧∃F',Rg w' F' p room (Q++[⟨r,⟨fl,id,ln⟩⟩])∧Kp G W w'∧Nw W G F'):=ae hput;have nY:=ae hg2;have kK:=ae hg1;have HG:=ae hG;have Es:=ae hB;have oJ:=ae hU;have Wl:=ae hbk;have hAx:=ae hA0;have HL:=ae hl;have sV:=ae ((aG ho rfl).2);have HA:=ae hA;have hAl:A≤n-1:=by rw[←hA];exact wS _ _ _
 have hmr:(m:Int)<room:=by omega
 have HX:=ae (ag.new w [.int .u32 fl,.int .u32 id,.int .u64 ln] 62);have aB:=ae ((Kp.refl none' w).alloc (.cells #[.int .u32 fl,.int .u32 id,.int .u64 ln] 62));have HB0:=ae (hb.kp aB.out (fun x=>x));have nG:=ae (aK ho aB.out (fun _ _ x=>x));have V9:=ae (aB.out.cell hxp (fun x=>x));have y2:=HB0.out.cell 2 rfl;have y3:=HB0.out.cell 3 rfl;clear hU hbk hA0 hput hg2 hg1 hG hB hl hA hb ho hxp
 go_enter Tryz.func316,Tryz.ntmps316
 go_wp2_with fail
 have hdm:decide ((room:Int)≤m)=false:=by rw[decide_eq_false_iff_not];omega
 have V_:decide (room≤m)=false:=by rw[decide_eq_false_iff_not];omega
 refine af [] [0,1,2,3,4,5,6,7,8,9,10,11] 12 (by kernel_rfl) (by kernel_rfl) (fun c a d u w h=>by cases d<;>exact h) ?_;simp only[pick,bn];show aA _ _ _ _ _ _
 repeat((first
  |refine ah (by exact rfl) (by as_aux_lemma=>intro W hK;have e0:=hK.cell y3 (fun x=>x);have e1:=hK.cell y2 (fun x=>x);have e9:=hdm;have e8:=V_;go_simp;exact rfl) ?_
  |refine ai (by exact rfl) ?_);simp only[Act.put,aY])
 show ∀W,_→wpList _ _ _ _ _ _
 intro W1 hK1;have ax:=ae (aB.out.trans hK1);have HB1:=ae (HB0.out.kp hK1 (fun x=>x));have Oo:=ae (aK nG.out hK1 (fun _ _ x=>x));have gX:=ae (HX.out.kp hK1 (fun x=>x));have XP1:=ae (hK1.cell V9.out (fun x=>x));have y1:=HB1.out.cell 1 rfl;clear hK1 y2 y3 HB0 nG HX V9 aB;have hw9:IntKind.i64.wrap ((n:Int)-1)=((n-1:Nat):Int):=by rw[IntKind.wrap_i64];omega
 go_wp2_with fail
 clear y1
 go_loopw [8] (fun i0 wr=>∃k:Nat,i0=.int .i64 k∧k≤n-1∧Hid (kL bs r k=A)∧Hid (Kp none' W1 wr)) (fun i0 _=>(intOf i0).toNat)
 case atStart=>exact⟨n-1,rfl,Nat.le_refl _,HA.out,Kp.refl _ _⟩
 case round=>
  obtain⟨k,rfl,hk,HAt,uk⟩:=hrel;have hki:(k:Int)<n:=by omega
  have TC:=ae (HB1.out.kp uk.out (fun x=>x));have HOr:=ae (aK Oo.out uk.out (fun _ _ x=>x));have ZC:=ae (gX.out.kp uk.out (fun x=>x));have ZE:=ae (uk.out.cell XP1.out (fun x=>x));have r1:=TC.out.cell 1 rfl
  have rk:wr.cell? ⟨g2,k,none⟩=some (.int .u64 (bs.getD k 0)):=eY HOr.out k (by
   rw[List.getElem?_map,List.getD_eq_getElem?_getD,List.getElem?_eq_getElem (by rw[HL.out];omega)];rfl)
  have r0:wr.cell? ⟨g2,0,none⟩=some (.int .u64 (bs.getD 0 0)):=eY HOr.out 0 (by
   rw[List.getElem?_map,List.getD_eq_getElem?_getD,List.getElem?_eq_getElem (by rw[HL.out];omega)];rfl)
  by_cases h0:k=0
  ·subst h0;have TD:A=0:=by rw[←HAt.out];rfl
   subst TD;obtain⟨b0,hb0⟩:∃b0,bs.getD 0 0=b0:=⟨_,rfl⟩
   have hlt:r<b0:=by have:=Es.out;rw[hb0]at this;exact this
   have abp:=ae hb0;rw[hb0]at r0 rk;have hb64:b0<18446744073709551616:=by
    rw[←hb0,List.getD_eq_getElem?_getD,List.getElem?_eq_getElem (by rw[HL.out];omega)];exact Wl.out _ (List.getElem_mem _)
   clear hb0 hAl;have hd1:decide ((r:Int)<b0)=true:=by rw[decide_eq_true_eq];omega
   have hd2:decide (r<b0)=true:=by rw[decide_eq_true_eq];omega
   go_wp2_with fail
   clear r1 rk r0
   go_loopw [63] (fun i0 wv=>∃i:Nat,i0=.int .i64 i∧i≤n∧Hid (wv.ownsRow 0 22 1 (.slice (some ⟨g2,0,none⟩) n c2) n (((bs.take i).map (OI bs r)++bs.drop i).map lG))∧Hid (Kp (fun b=>b=g2) wr wv)) (fun i0 _=>n-(intOf i0).toNat)
   case atStart=>exact⟨0,rfl,Nat.zero_le _,ae (by simpa using HOr.out),ae (Kp.refl _ _)⟩
   case round=>
    obtain⟨i,rfl,hi,ZI,Wn⟩:=hrel;have hgl:g2<w.heap.size:=sV.out;have HBv:=ae (TC.out.kp Wn.out (fun e=>nY.out.1 e.symm));by_cases hin:i<n
    ·have hii:(i:Int)<n:=by omega
     have v1:=HBv.out.cell 1 rfl;have hil:i<bs.length:=by rw[HL.out];exact hin
     have vi:wr.cell? ⟨g2,i,none⟩=some (.int .u64 bs[i]):=eY ZI.out i (by rw[List.getElem?_map,ZG _ _ _ hil];rfl);have vf:=mZ ZI.out i;have jm:=ae (ZF (OI bs r) bs i hil);have hup:b0≤bs[i]:=by
      have:=oJ.out i hil;rw[abp.out,List.getD_eq_getElem?_getD,List.getElem?_eq_getElem hil]at this;exact this
     have hbi:bs[i]<18446744073709551616:=Wl.out _ (List.getElem_mem hil);obtain⟨f,hf⟩:∃f,OI bs r bs[i]=f:=⟨_,rfl⟩
     have hf2:f=bs[i]-(b0-r):=by rw[←hf];unfold OI;rw[abp.out]
     rw[hf]at jm;obtain⟨x,hx⟩:∃x,bs[i]=x:=⟨_,rfl⟩
     rw[hx]at vi hup hbi hf2;obtain⟨D,hD⟩:∃D,b0-r=D:=⟨_,rfl⟩
     rw[hD]at hf2;have hw1:IntKind.u64.wrap ((b0:Int)-r)=(D:Int):=by rw[IntKind.wrap_u64];omega
     have hw2:IntKind.u64.wrap ((x:Int)-D)=(f:Int):=by rw[IntKind.wrap_u64];omega
     have hkq:Kp (fun b=>b=g2) wr (wr.setCell ⟨g2,i,none⟩ (.int .u64 f)):=(Kp.refl (fun b=>b=g2) wr).set (p:=⟨g2,i,none⟩) (.inl rfl) _;have Wp:=ae (Wn.out.trans hkq)
     have HOn:Hid ((wr.setCell ⟨g2,i,none⟩ (.int .u64 f)).ownsRow 0 22 1 (.slice (some ⟨g2,0,none⟩) n c2) n (((bs.take (i+1)).map (OI bs r)++bs.drop (i+1)).map lG)):=ae (by
      rw[←jm.out,List.map_set];exact r_ ZI.out i _)
     clear hf hx hD hf2 hup hbi hil hkq
     go_wp2_with fail
     go_roundw
     case rel=>exact⟨i+1,by go_num,by omega,HOn,Wp⟩
     case measure=>simp[intOf];omega
    ·obtain rfl:i=n:=by omega
     have HB4:=HBv;have uC:=ae (ZC.out.kp Wn.out (fun e=>by omega));have Wj:=ae (Wn.out.cell ZE.out (fun e=>kK.out e))
     have rJ:Hid (wr.ownsRow 0 22 1 (.slice (some ⟨g2,0,none⟩) i c2) i ((bs.map (OI bs r)).map lG)):=ae (by
      have:=ZI.out;rw[List.take_of_length_le (by rw[HL.out];exact Nat.le_refl _),List.drop_of_length_le (by rw[HL.out];exact Nat.le_refl _),List.append_nil]at this
      exact this)
     have aH:Hid (Kp (fun b=>b=g2) w wr):=ae (((ax.out.trans uk.out).mono (fun _ _ x=>x.elim)).trans Wn.out);have xp:=Wj.out;have We:(0:Int)<i:=by omega
     have hkB:0<i:=by omega
     have Wh:(0:Int)<i:=by omega
     have Wi:0<i:=by omega
     go_wp2_with fail
     have q0:=HB4.out.cell 0 rfl;have xI:=ae (zT uC.out)
     go_wp2_with fail
     refine af [] [0,1,2,3,4,5,6,7,8,9] 10 (by kernel_rfl) (by kernel_rfl) (fun c a d u w h=>by cases d<;>exact h) ?_;simp only[pick,bn];show aA _ _ _ _ _ _
     repeat((first
         |refine ah (by exact rfl) (bW rfl rfl xI.out) ?_
         |refine ah (by exact rfl) (by as_aux_lemma=>intro W hK;have e0:=hK.cell q0 (fun x=>x);have e1:=hK.cell xp (fun x=>x);have e2:=We;have e3:=hkB;have e4:=Wh;have e5:=Wi;go_simp;exact rfl) ?_
         |refine ai (by exact rfl) ?_);simp only[Act.put,aY])
     show ∀W,_→wpList _ _ _ _ _ _
     intro W5 hK5;have a_:=ae hK5
     go_wp2_with fail
     refine(BR.out W5 (aH.out.then hK5 (fun b hb x=>x.elim))).mono ?_;rintro e W6 ⟨rfl,F',Ll,hk6,pX⟩;have sU:=ae Ll;have b_:=ae hk6;have rP:=ae pX;have bV:=ae ((HB4.out.kp hK5 (fun x=>x)).kp hk6 HG.out);have q3:=bV.out.cell 3 rfl;have qf:=bV.out.fz 3;clear hK5 Ll hk6 pX q0 xp
     go_wp2_with fail
     have pY:qb<W5.heap.size:=(HB4.out.kp a_.out (fun x=>x)).lt
     exact HP.out _ _ (Bd nY.out HG.out HB4.out rJ.out aH.out a_.out sU.out b_.out rP.out (fun h=>by
      rcases rP.out _ h with h|h
      ·exact HG.out h
      ·omega))
  ·obtain⟨j,rfl⟩:∃j,k=j+1:=⟨k-1,by omega⟩
   obtain⟨bk,hbk⟩:∃bk,bs.getD (j+1) 0=bk:=⟨_,rfl⟩
   rw[hbk]at rk;have hd0:decide ((0:Int)<((j+1:Nat):Int))=true:=by rw[decide_eq_true_eq];omega
   by_cases hle:bk≤r
   ·have TD:A=j+1:=by rw[←HAt.out];unfold kL;rw[if_pos (by rw[hbk];exact hle)]
    have:=hAx.out;omega
   ·have HAn:Hid (kL bs r j=A):=ae (by rw[←HAt.out];conv=>rhs;unfold kL
                                       rw[if_neg (by rw[hbk];exact hle)])
    clear h0 hbk;have hd1:decide ((r:Int)<bk)=true:=by rw[decide_eq_true_eq];omega
    have hd2:decide (r<bk)=true:=by rw[decide_eq_true_eq];omega
    have hw8:IntKind.i64.wrap (((j+1:Nat):Int)-1)=(j:Int):=by rw[IntKind.wrap_i64];omega
    go_wp2_with fail
    go_roundw
    case rel=>exact⟨j,rfl,by omega,HAn.out,uk.out⟩
    case measure=>simp[intOf]
theorem Et (bs:List Nat) (r:Nat):∀k i,kL bs r k<i→i≤k→r<bs.getD i 0
 |0,i,h1,h2=>by omega
 |k+1,i,h1,h2=>by
  unfold kL at h1;split at h1
  ·omega
  ·rename_i h3
   by_cases e:i=k+1
   ·subst e;omega
   ·exact Et bs r k i h1 (by omega)
theorem QJ (bs:List Nat) (r:Nat):∀k,kL bs r k≠0→bs.getD (kL bs r k) 0≤r
 |0,h=>absurd rfl h
 |k+1,h=>by
  unfold kL at h ⊢;split
  ·rename_i h3;exact h3
  ·rename_i h3;rw[if_neg h3]at h;exact QJ bs r k h
theorem Ha {α:Type} (l:List α) (i j:Nat) (x d:α) (hi:i<l.length):(l.set i x).getD j d=if j=i then x else l.getD j d:=by
 rw[List.getD_eq_getElem?_getD,List.getD_eq_getElem?_getD];by_cases e:j=i
 ·subst e;rw[if_pos rfl,List.getElem?_set_self hi];rfl
 ·rw[if_neg e,List.getElem?_set_ne (fun h=>e h.symm)]
theorem p_ (bs:List Nat) (r:Nat):(pushB bs r).length=bs.length:=by unfold pushB;split<;>simp
theorem TE {bs:List Nat} (h:Zc bs) (hn:1≤bs.length) (r:Nat):Zc (pushB bs r):=by
 intro i hi;rw[p_]at hi;have h0:=h i hi;unfold pushB;split
 ·have hg:∀j,j<bs.length→(bs.map (fun b=>b-(bs.getD 0 0-r))).getD j 0=bs.getD j 0-(bs.getD 0 0-r):=fun j hj=>by
   have e1:bs.getD j 0=bs[j]:=by rw[List.getD_eq_getElem?_getD,List.getElem?_eq_getElem hj];rfl
   rw[e1,List.getD_eq_getElem?_getD,List.getElem?_map,List.getElem?_eq_getElem hj];rfl
  rw[hg 0 (by omega),hg i hi];omega
 ·rename_i h1
  have hA:=wS bs r (bs.length-1);rw[Ha _ _ _ _ _ (by omega),Ha _ _ _ _ _ (by omega)];by_cases e:kL bs r (bs.length-1)=0
  ·rw[if_pos e.symm];by_cases e2:i=kL bs r (bs.length-1)
   ·rw[if_pos e2];exact Nat.le_refl _
   ·rw[if_neg e2];exact Nat.le_of_lt (Et bs r (bs.length-1) i (by omega) (by omega))
  ·rw[if_neg (fun e2=>e e2.symm)];by_cases e2:i=kL bs r (bs.length-1)
   ·rw[if_pos e2];have:=QJ bs r _ e;have:=h _ (show kL bs r (bs.length-1)<bs.length by omega);omega
   ·rw[if_neg e2];exact h0
theorem TF {bs:List Nat} (h:∀b∈bs,b<18446744073709551616) (r:Nat) (hr:r<18446744073709551616):∀b∈pushB bs r,b<18446744073709551616:=by
 intro b hb;unfold pushB at hb;split at hb
 ·obtain⟨x,hx,rfl⟩:=List.mem_map.1 hb;have:=h x hx;omega
 ·rcases List.mem_or_eq_of_mem_set hb with h1|h1
  ·exact h b h1
  ·rw[h1];exact hr
theorem Lm {Qs:List (List It)} {i:Nat} {Q:List It} (h:Qs[i]? =some Q) (x:It):kT (Qs.set i (Q++[x]))=kT Qs+1:=by
 induction Qs generalizing i with
 |nil=>simp at h
 |cons a r ih=>
  cases i with
  |zero=>
   simp only[List.getElem?_cons_zero,Option.some.injEq]at h;subst h;simp[kT];omega
  |succ i=>
   have:=ih (i:=i) (by simpa using h);simp only[kT,List.set_cons_succ,List.map_cons,List.sum_cons]at*;omega
theorem ZJ {Qs:List (List It)} {i:Nat} {Q:List It} (h:Qs[i]? =some Q):Q.length≤kT Qs:=by
 induction Qs generalizing i with
 |nil=>simp at h
 |cons a r ih=>
  cases i with
  |zero=>
   simp only[List.getElem?_cons_zero,Option.some.injEq]at h;subst h;simp[kT]
  |succ i=>
   have:=ih (i:=i) (by simpa using h);simp only[kT,List.map_cons,List.sum_cons]at*;omega
theorem acv {w:World} {F:Nat→Prop} {qb room:Nat} {bs:List Nat} {Qs:List (List It)} (h:Qu w F qb room bs Qs) (hl:kT Qs<room) (r fl id ln:Nat) (hr:r<18446744073709551616):
 Calls Tryz.prog 316 #[.pointer (some ⟨qb,0,none⟩),.int .u64 r,.agg #[.int .u32 fl,.int .u32 id,.int .u64 ln]] w fun e w'=>e=.returned (.tuple #[.int .i64 (kL bs r (bs.length-1):Nat),.bool true])∧∃F',Qu w' F' qb room (pushB bs r) (uu bs Qs r ⟨r,⟨fl,id,ln⟩⟩)∧Kp F w w'∧Nw w F F':=by
 obtain⟨v1,v2,ps,Fs,rfl,hm⟩:=h;obtain⟨A,hA⟩:∃A,kL bs r (bs.length-1)=A:=⟨_,rfl⟩
 have hle:A≤bs.length-1:=by rw[←hA];exact wS _ _ _
 have hfew:=hm.few;have hAQ:A<Qs.length:=by have:=hm.blen;omega
 have ZK:A<ps.length:=by rw[hm.plen];exact hAQ
 have hp:=List.getElem?_eq_getElem ZK;have hQ:=List.getElem?_eq_getElem hAQ;obtain⟨p,hpe⟩:∃p,ps[A]=p:=⟨_,rfl⟩
 obtain⟨Q,Wq⟩:∃Q,Qs[A]=Q:=⟨_,rfl⟩
 rw[hpe]at hp;rw[Wq]at hQ;have hring:=hm.rings A p Q hp hQ;obtain⟨g1,c1,rfl,_⟩:=dJ hm.prow (by omega);obtain⟨g2,c2,rfl,_⟩:=dJ hm.brow (by have:=hm.blen;omega);have n1:g1≠qb:=fun e=>az hm.prow hm.top (by decide) (by rw[e];rfl)
 have n2:g2≠qb:=fun e=>az hm.brow hm.top (by decide) (by rw[e];rfl)
 have n3:g1≠g2:=fun e=>vC hm.prow hm.brow (by decide) g1 rfl (by rw[e];rfl)
 have hG:∀i,i<ps.length→¬Fs i qb∧¬Fs i g1∧¬Fs i g2:=fun i hi=>by
  have hri:=hm.rings i _ _ (List.getElem?_eq_getElem hi) (List.getElem?_eq_getElem (by rw[←hm.plen];exact hi));exact⟨hri.ne hm.top (by decide) (by decide),hri.Zw hm.prow (by decide) (by decide) g1 rfl,hri.Zw hm.brow (by decide) (by decide) g2 rfl⟩
 obtain⟨hGq,adO,Ws⟩:=hG A ZK;have hput:OH w g2 p room (Fs A) Q r fl id ln:=fun W k=>by
  refine(acp (hring.kp k (fun b hb e=>Ws (e▸hb))) (by have:=ZJ hQ;omega) ⟨r,⟨fl,id,ln⟩⟩).mono ?_;rintro e w' ⟨a,F',b,c,d⟩;exact⟨a,F',b,c,d⟩
 have hxp:w.cell? ⟨g1,A,none⟩=some (.pointer (some ⟨p,0,none⟩)):=eY hm.prow A (by rw[List.getElem?_map,hp];rfl);have hpl:=hm.plen;have hbl:=hm.blen;have key:Calls Tryz.prog 316 #[.pointer (some ⟨qb,0,none⟩),.int .u64 r,.agg #[.int .u32 fl,.int .u32 id,.int .u64 ln]] w fun e w'=>wX w qb g1 c1 g2 c2 bs.length room (kT Qs) p A (Fs A) Q (pushB bs r) r fl id ln e w':=by
  have htop:=hm.top;rw[show ps.length=bs.length by omega]at htop;unfold pushB;rw[hA];by_cases hc:A=0∧r<bs.getD 0 0
  ·rw[if_pos hc];exact ZH r fl id ln htop hm.brow hxp ⟨n2,Ws⟩ n3 hGq hl hm.tot.2 (by omega) rfl hA hput hc.1 hc.2 hm.up hm.bok
  ·rw[if_neg hc];exact ZB r fl id ln htop hm.brow hxp ⟨n2,Ws⟩ n3 hGq hl hm.tot.2 (by omega) rfl hA hput hc
 refine key.mono ?_;rintro e w' ⟨he,hT,hO,⟨F',hR,hN⟩,hK⟩;have hQD:Qs.getD A []=Q:=by rw[List.getD_eq_getElem?_getD,hQ];rfl
 have hpush:uu bs Qs r ⟨r,⟨fl,id,ln⟩⟩=Qs.set A (Q++[⟨r,⟨fl,id,ln⟩⟩]):=by unfold uu;rw[hA,hQD]
 have hlt:∀i,i<ps.length→∀b,Fs i b→b<w.heap.size:=fun i hi b hb=>
  (hm.rings i _ _ (List.getElem?_eq_getElem hi) (List.getElem?_eq_getElem (by rw[←hm.plen];exact hi))).lt hb
 have hsub:∀b,(b=qb∨b=g2∨Fs A b)→Zr qb (.slice (some ⟨g1,0,none⟩) ps.length c1) (.slice (some ⟨g2,0,none⟩) bs.length c2) ps Fs b:=fun b hb=>by
  rcases hb with rfl|rfl|hb
  ·exact .inl rfl
  ·exact .inr (.inr (.inl rfl))
  ·exact .inr (.inr (.inr ⟨A,ZK,hb⟩))
 refine⟨by rw[he,hA],Zr qb (.slice (some ⟨g1,0,none⟩) ps.length c1) (.slice (some ⟨g2,0,none⟩) bs.length c2) ps (fun i=>if i=A then F' else Fs i),⟨_,_,ps,_,rfl,?_⟩,hK.mono (fun b _=>hsub b),?_⟩
 ·rw[hpush];refine {top:= ?_,prow:=aK hm.prow hK (fun b hb hc=> ?_),brow:=by rw[p_];exact hO,plen:=by rw[List.length_set];exact hm.plen,blen:=by rw[List.length_set,p_];exact hm.blen,few:=by rw[List.length_set];exact hm.few,tot:=by rw[Lm hQ];exact⟨by omega,hm.tot.2⟩,up:=TE hm.up (by omega) r,bok:=TF hm.bok r hr,rings:=fun i p' Q' hp' hQ'=> ?_,apart:=fun i j b hi hj hij h1 h2=> ?_}
  ·rw[Lm hQ,hpl.trans hbl.symm];exact hT
  ·have hb':g1=b:=Option.some.inj hb;subst hb';rcases hc with e|e|e
   ·exact n1 e
   ·exact n3 e
   ·exact adO e
  ·by_cases e:i=A
   ·subst e;rw[List.getElem?_set_self hAQ]at hQ';injection hQ' with hQ'
    rw[hp]at hp';injection hp' with hp'
    subst hp' hQ';rw[if_pos rfl];exact hR
   ·rw[List.getElem?_set_ne (fun h=>e h.symm)]at hQ';rw[if_neg e];have hi:i<ps.length:=(List.getElem?_eq_some_iff.1 hp').1;obtain⟨a1,a2,a3⟩:=hG i hi
    exact(hm.rings i p' Q' hp' hQ').kp hK (fun b hb hc=>by
     rcases hc with rfl|rfl|hc
     ·exact a1 hb
     ·exact a3 hb
     ·exact hm.apart i A b hi ZK e hb hc)
  ·by_cases e1:i=A
   ·rw[if_pos e1]at h1;rw[if_neg (fun e=>hij (e1.trans e.symm))]at h2;subst e1;rcases hN b h1 with h3|h3
    ·exact hm.apart i j b hi hj hij h3 h2
    ·have:=hlt j hj b h2;omega
   ·rw[if_neg e1]at h1;by_cases e2:j=A
    ·rw[if_pos e2]at h2;subst e2;rcases hN b h2 with h3|h3
     ·exact hm.apart i j b hi hj hij h1 h3
     ·have:=hlt i hi b h1;omega
    ·rw[if_neg e2]at h2;exact hm.apart i j b hi hj hij h1 h2
 ·intro b hb;rcases hb with rfl|hb|hb|⟨i,hi,hb⟩
  ·exact .inl (.inl rfl)
  ·exact .inl (.inr (.inl hb))
  ·exact .inl (.inr (.inr (.inl hb)))
  ·by_cases e:i=A
   ·rw[if_pos e]at hb;rcases hN b hb with h|h
    ·exact .inl (hsub b (.inr (.inr h)))
    ·exact .inr h
   ·rw[if_neg e]at hb;exact .inl (.inr (.inr (.inr ⟨i,hi,hb⟩)))
set_option maxRecDepth 100000 in
theorem ZL {Q:World→Prop} {w:World} {hb r fl id ln:Nat} (H:∀W,Kp none' w W→Calls Tryz.prog 276 #[.pointer (some ⟨hb,0,none⟩),.int .u64 r,.agg #[.int .u32 fl,.int .u32 id,.int .u64 ln]] W fun e w'=>(∃x:Bool,e=.returned (.bool x))∧Q w'):
 Calls Tryz.prog 273 #[.agg #[.pointer (some ⟨hb,0,none⟩)],.int .u64 r,.agg #[.int .u32 fl,.int .u32 id,.int .u64 ln]] w fun e w'=>e=.returned (.tuple #[])∧Q w':=by
 have H:=ae H;have HK:=ae (((Kp.refl none' w).alloc (.cells #[.pointer (some ⟨hb,0,none⟩)] 288)).alloc (.cells #[.int .u32 fl,.int .u32 id,.int .u64 ln] 62))
 go_enter Tryz.func273,Tryz.ntmps273
 go_wp2_with fail
 refine(H.out _ HK.out).mono ?_;rintro e w' ⟨⟨x,rfl⟩,hq⟩;have HQ:=ae hq;clear hq
 go_wp2_with fail
 go_end0
 exact⟨rfl,HQ.out⟩
set_option maxRecDepth 100000 in
theorem acw {Q:World→Prop} {w:World} {hb:Nat} (H:∀W,Kp none' w W→Calls Tryz.prog 275 #[.pointer (some ⟨hb,0,none⟩)] W fun e w'=>(∃x y z,e=.returned (.tuple #[x,y,z]))∧Q w'):
 Calls Tryz.prog 272 #[.agg #[.pointer (some ⟨hb,0,none⟩)]] w fun e w'=>e=.returned (.tuple #[])∧Q w':=by
 have H:=ae H;have HK:=ae ((Kp.refl none' w).alloc (.cells #[.pointer (some ⟨hb,0,none⟩)] 288))
 go_enter Tryz.func272,Tryz.ntmps272
 go_wp2_with fail
 refine(H.out _ HK.out).mono ?_;rintro e w' ⟨⟨x,y,z,rfl⟩,hq⟩;have HQ:=ae hq;clear hq
 go_wp2_with fail
 go_end0
 exact⟨rfl,HQ.out⟩
set_option maxRecDepth 100000 in
theorem ZM {w:World} {hb r fl id ln:Nat} {is:Bool} (H:∀W,Kp none' w W→Calls Tryz.prog 274 #[.pointer (some ⟨hb,0,none⟩)] W fun e w'=>e=.returned (.tuple #[.int .u64 r,.agg #[.int .u32 fl,.int .u32 id,.int .u64 ln],.bool is])∧Kp none' W w'):
 Calls Tryz.prog 271 #[.agg #[.pointer (some ⟨hb,0,none⟩)]] w fun e w'=>e=.returned (.tuple #[.int .u64 r,.agg #[.int .u32 fl,.int .u32 id,.int .u64 ln],.bool is])∧Kp none' w w':=by
 have H:=ae H;have HK:=ae (((Kp.refl none' w).alloc (.cells #[.pointer (some ⟨hb,0,none⟩)] 288)).alloc (.cells #[.int .u32 0,.int .u32 0,.int .u64 0] 62))
 have HB:Hid (ag ((w.alloc (.cells #[.pointer (some ⟨hb,0,none⟩)] 288)).alloc (.cells #[.int .u32 0,.int .u32 0,.int .u64 0] 62)) (w.heap.size+1) [.int .u32 0,.int .u32 0,.int .u64 0] 62):=ae (by
  have:=ag.new (w.alloc (.cells #[.pointer (some ⟨hb,0,none⟩)] 288)) [.int .u32 0,.int .u32 0,.int .u64 0] 62
  simpa using this)
 go_enter Tryz.func271,Tryz.ntmps271
 go_wp2_with fail
 refine(H.out _ HK.out).mono ?_;rintro e w2 ⟨rfl,hk2⟩;have HB2:=ae (HB.out.kp hk2 (fun x=>x));have ak:=ae (HK.out.trans hk2);clear hk2;have b0:=HB2.out.cell 0 rfl;have b1:=HB2.out.cell 1 rfl;have b2:=HB2.out.cell 2 rfl;have bf:=fun j=>HB2.out.fz j
 go_wp2_with fail
 exact gY (by exact rfl) ((((HB2.out.set 0 (.int .u32 (fl:Int))).set 1 (.int .u32 (id:Int))).set 2 (.int .u64 (ln:Int)))) _ Tryz.underlying62 rfl fZ (by exact rfl) ⟨rfl,(((ak.out.set (p:=⟨w.heap.size+1,0,none⟩) (.inr (Nat.le_succ _)) _).set (p:=⟨w.heap.size+1,1,none⟩) (.inr (Nat.le_succ _)) _).set (p:=⟨w.heap.size+1,2,none⟩) (.inr (Nat.le_succ _)) _)⟩
set_option maxRecDepth 100000 in
theorem ZN {Q:World→Prop} {w:World} {hb r fl id ln:Nat} (H:∀W,Kp none' w W→Calls Tryz.prog 316 #[.pointer (some ⟨hb,0,none⟩),.int .u64 r,.agg #[.int .u32 fl,.int .u32 id,.int .u64 ln]] W fun e w'=>(∃x:Int,e=.returned (.tuple #[.int .i64 x,.bool true]))∧Q w'):
 Calls Tryz.prog 313 #[.agg #[.pointer (some ⟨hb,0,none⟩)],.int .u64 r,.agg #[.int .u32 fl,.int .u32 id,.int .u64 ln]] w fun e w'=>e=.returned (.tuple #[])∧Q w':=by
 have H:=ae H;have HK:=ae (((Kp.refl none' w).alloc (.cells #[.pointer (some ⟨hb,0,none⟩)] 298)).alloc (.cells #[.int .u32 fl,.int .u32 id,.int .u64 ln] 62))
 go_enter Tryz.func313,Tryz.ntmps313
 go_wp2_with fail
 refine(H.out _ HK.out).mono ?_;rintro e w' ⟨⟨x,rfl⟩,hq⟩;have HQ:=ae hq;clear hq
 go_wp2_with fail
 go_end0
 exact⟨rfl,HQ.out⟩
set_option maxRecDepth 100000 in
theorem acx {Q:World→Prop} {w:World} {hb:Nat} (H:∀W,Kp none' w W→Calls Tryz.prog 315 #[.pointer (some ⟨hb,0,none⟩)] W fun e w'=>(∃x y z,e=.returned (.tuple #[x,y,z]))∧Q w'):
 Calls Tryz.prog 312 #[.agg #[.pointer (some ⟨hb,0,none⟩)]] w fun e w'=>e=.returned (.tuple #[])∧Q w':=by
 have H:=ae H;have HK:=ae ((Kp.refl none' w).alloc (.cells #[.pointer (some ⟨hb,0,none⟩)] 298))
 go_enter Tryz.func312,Tryz.ntmps312
 go_wp2_with fail
 refine(H.out _ HK.out).mono ?_;rintro e w' ⟨⟨x,y,z,rfl⟩,hq⟩;have HQ:=ae hq;clear hq
 go_wp2_with fail
 go_end0
 exact⟨rfl,HQ.out⟩
set_option maxRecDepth 100000 in
theorem ZO {w:World} {hb r fl id ln:Nat} {is:Bool} (H:∀W,Kp none' w W→Calls Tryz.prog 314 #[.pointer (some ⟨hb,0,none⟩)] W fun e w'=>e=.returned (.tuple #[.int .u64 r,.agg #[.int .u32 fl,.int .u32 id,.int .u64 ln],.bool is])∧Kp none' W w'):
 Calls Tryz.prog 311 #[.agg #[.pointer (some ⟨hb,0,none⟩)]] w fun e w'=>e=.returned (.tuple #[.int .u64 r,.agg #[.int .u32 fl,.int .u32 id,.int .u64 ln],.bool is])∧Kp none' w w':=by
 have H:=ae H;have HK:=ae (((Kp.refl none' w).alloc (.cells #[.pointer (some ⟨hb,0,none⟩)] 298)).alloc (.cells #[.int .u32 0,.int .u32 0,.int .u64 0] 62))
 have HB:Hid (ag ((w.alloc (.cells #[.pointer (some ⟨hb,0,none⟩)] 298)).alloc (.cells #[.int .u32 0,.int .u32 0,.int .u64 0] 62)) (w.heap.size+1) [.int .u32 0,.int .u32 0,.int .u64 0] 62):=ae (by
  have:=ag.new (w.alloc (.cells #[.pointer (some ⟨hb,0,none⟩)] 298)) [.int .u32 0,.int .u32 0,.int .u64 0] 62
  simpa using this)
 go_enter Tryz.func311,Tryz.ntmps311
 go_wp2_with fail
 refine(H.out _ HK.out).mono ?_;rintro e w2 ⟨rfl,hk2⟩;have HB2:=ae (HB.out.kp hk2 (fun x=>x));have ak:=ae (HK.out.trans hk2);clear hk2;have b0:=HB2.out.cell 0 rfl;have b1:=HB2.out.cell 1 rfl;have b2:=HB2.out.cell 2 rfl;have bf:=fun j=>HB2.out.fz j
 go_wp2_with fail
 exact gY (by exact rfl) ((((HB2.out.set 0 (.int .u32 (fl:Int))).set 1 (.int .u32 (id:Int))).set 2 (.int .u64 (ln:Int)))) _ Tryz.underlying62 rfl fZ (by exact rfl) ⟨rfl,(((ak.out.set (p:=⟨w.heap.size+1,0,none⟩) (.inr (Nat.le_succ _)) _).set (p:=⟨w.heap.size+1,1,none⟩) (.inr (Nat.le_succ _)) _).set (p:=⟨w.heap.size+1,2,none⟩) (.inr (Nat.le_succ _)) _)⟩
end Go.Proofs.YtjiehhlghjnfhaaGreatDoor
namespace Go.Proofs.YtjiehhlghjnfhaaGreatDoor
open Go Go.RowKit
def fD (e:En Pk):It:=⟨e.rank,e.x⟩
def at_ (I:List It) (r:Nat):List It:=I.filter (fun i=>decide (i.rank=r))
def nR (I:List It):Prop:=I.Pairwise (fun a b=>a.rank≤b.rank)
def jo:List It→It→List It
 | [],x=>[x]
 |y::l,x=>if x.rank<y.rank then x::y::l else y::jo l x
theorem uD (x:It):∀I:List It,(jo I x).Perm (x::I)
 | []=>List.Perm.refl _
 |y::l=>by
  unfold jo;split
  ·exact List.Perm.refl _
  ·exact((uD x l).cons y).trans (List.Perm.swap _ _ _)
theorem oV (x:It) (I:List It):(jo I x).length=I.length+1:=by rw[(uD x I).length_eq,List.length_cons]
theorem wY {x y:It} {I:List It}:y∈jo I x↔y=x∨y∈I:=by rw[(uD x I).mem_iff,List.mem_cons]
theorem oW {x:It}:∀ {I:List It},nR I→nR (jo I x)
 | [],_=>by unfold jo nR;simp
 |y::l,h=>by
  unfold nR at h;rw[List.pairwise_cons]at h;unfold jo;split
  ·rename_i hlt
   unfold nR;rw[List.pairwise_cons,List.pairwise_cons];refine⟨fun a ha=> ?_,h.1,h.2⟩;rcases List.mem_cons.1 ha with rfl|ha
   ·omega
   ·have:=h.1 a ha;omega
  ·rename_i hlt
   have ih:=oW (x:=x) (I:=l) h.2;unfold nR at ih ⊢;rw[List.pairwise_cons];refine⟨fun a ha=> ?_,ih⟩;rcases wY.1 ha with rfl|ha
   ·omega
   ·exact h.1 a ha
theorem at_nil {I:List It} {r:Nat}:at_ I r=[]↔∀i∈I,i.rank≠r:=by
 unfold at_;rw[List.filter_eq_nil_iff];simp
theorem vT (x:It) (I:List It) (r:Nat):at_ (x::I) r=if x.rank=r then x::at_ I r else at_ I r:=by
 unfold at_;rw[List.filter_cons];simp
theorem at_mem {I:List It} {r:Nat} {i:It}:i∈at_ I r↔i∈I∧i.rank=r:=by unfold at_;simp
theorem Lp {x:It} (r:Nat):∀ {I:List It},nR I→at_ (jo I x) r=at_ I r++(if x.rank=r then[x]else[])
 | [],_=>by unfold jo;rw[vT];simp[at_]
 |y::l,h=>by
  unfold nR at h;rw[List.pairwise_cons]at h;unfold jo;split
  ·rename_i hlt
   rw[vT];by_cases e:x.rank=r
   ·have:at_ (y::l) r=[]:=by
     rw[at_nil];intro i hi;rcases List.mem_cons.1 hi with rfl|hi
     ·omega
     ·have:=h.1 i hi;omega
    rw[if_pos e,if_pos e,this];rfl
   ·rw[if_neg e,if_neg e,List.append_nil]
  ·rw[vT,vT,Lp r h.2];split<;>rfl
theorem mP (e:En Pk):∀S:List (En Pk),(iQ S e).map fD=jo (S.map fD) (fD e)
 | []=>rfl
 |y::l=>by
  unfold iQ;simp only[List.map_cons];unfold jo;show _=if e.rank<y.rank then _ else _
  split
  ·rfl
  ·rw[List.map_cons,mP e l]
end Go.Proofs.YtjiehhlghjnfhaaGreatDoor
namespace Go.Proofs.YtjiehhlghjnfhaaGreatDoor
open Go Go.RowKit Go.Shelf
inductive jB
 |hp (n:Nat) (S:List (En Pk))
 |qu (bs:List Nat) (Qs:List (List It))
 |ca (n:Nat) (I:List It)
def aW:jB→List It
 | .hp _ S=>S.map fD
 | .qu _ Qs=>Qs.flatten
 | .ca _ I=>I
def aX (s:jB):It×Bool:=sS (aW s)
def jv:jB→Nat
 | .hp n _=>n
 | .qu _ _=>0
 | .ca n _=>n
def iY:jB→Nat→Pk→jB
 | .hp n S,r,p=>.hp (n+1) (iQ S ⟨r,n,p⟩)
 | .qu bs Qs,r,p=>.qu (pushB bs r) (uu bs Qs r ⟨r,p⟩)
 | .ca n I,r,p=>.ca (n+1) (jo I ⟨r,p⟩)
def BU (Qs:List (List It)):List (List It):=match lW Qs with
 |some i=>Qs.set i (Qs.getD i []).tail
 |none=>Qs
def jW:jB→jB
 | .hp n S=>.hp n S.tail
 | .qu bs Qs=>.qu bs (BU Qs)
 | .ca n I=>.ca n I.tail
def BV:jB→Prop
 | .hp _ _=>True
 | .qu bs Qs=>bs.length=Qs.length∧1≤bs.length
 | .ca _ _=>True
theorem yL {Qs:List (List It)} {i:Nat} {q:It} {Q:List It} (h:Qs[i]? =some (q::Q)) (h0:∀j,j<i→Qs[j]? =some []):Qs.flatten=q::(Q++(Qs.drop (i+1)).flatten)∧(Qs.set i Q).flatten=Q++(Qs.drop (i+1)).flatten:=by
 induction Qs generalizing i with
 |nil=>simp at h
 |cons a r ih=>
  cases i with
  |zero=>
   simp only[List.getElem?_cons_zero,Option.some.injEq]at h;subst h;simp
  |succ i=>
   have ha:a=[]:=by have:=h0 0 (by omega);simpa using this
   subst ha;obtain⟨h1,h2⟩:=ih (i:=i) (by simpa using h) (fun j hj=>by have:=h0 (j+1) (by omega);simpa using this);simp only[List.flatten_cons,List.nil_append,List.set_cons_succ,List.drop_succ_cons];exact⟨h1,h2⟩
theorem flat_nil {Qs:List (List It)} (h:lW Qs=none):Qs.flatten=[]:=by
 rw[List.flatten_eq_nil_iff];intro l hl;obtain⟨i,hi,rfl⟩:=List.getElem_of_mem hl;have:=D_ h i hi;rw[List.getElem?_eq_getElem hi]at this;exact Option.some.inj this
theorem Lr (bs:List Nat) (Qs:List (List It)):aX (.qu bs Qs)=rO Qs:=by
 show sS Qs.flatten=_;unfold rO;cases h:lW Qs with
 |none=>rw[flat_nil h];rfl
 |some i=>
  obtain⟨q,Q,h1,h2⟩:=mJ h;rw[(yL h1 h2).1];simp only[List.getD_eq_getElem?_getD,h1,Option.getD_some];rfl
theorem Wu (n:Nat) (S:List (En Pk)):aX (.hp n S)=((⟨(og S).1.rank,(og S).1.x⟩:It),(og S).2):=by
 cases S<;>rfl
theorem OJ (s:jB):aW (jW s)=(aW s).tail:=by
 cases s with
 |hp n S=>cases S<;>rfl
 |ca n I=>rfl
 |qu bs Qs=>
  show(BU Qs).flatten=Qs.flatten.tail;unfold BU;cases h:lW Qs with
  |none=>simp[flat_nil h]
  |some i=>
   obtain⟨q,Q,h1,h2⟩:=mJ h;simp only[List.getD_eq_getElem?_getD,h1,Option.getD_some,List.tail_cons];rw[(yL h1 h2).1,(yL h1 h2).2,List.tail_cons]
theorem Eu {Qs:List (List It)} {i:Nat} {Q:List It} (h:Qs[i]? =some Q) (x:It):(Qs.set i (Q++[x])).flatten.Perm (x::Qs.flatten):=by
 induction Qs generalizing i with
 |nil=>simp at h
 |cons a r ih=>
  cases i with
  |zero=>
   simp only[List.getElem?_cons_zero,Option.some.injEq]at h;subst h;simp only[List.set_cons_zero,List.flatten_cons,List.append_assoc,List.singleton_append];exact List.perm_middle
  |succ i=>
   simp only[List.set_cons_succ,List.flatten_cons];exact((ih (by simpa using h)).append_left a).trans List.perm_middle
theorem Ls {s:jB} (h:BV s) (r:Nat) (p:Pk):(aW (iY s r p)).Perm ((⟨r,p⟩:It)::aW s):=by
 cases s with
 |hp n S=>exact(iw ⟨r,n,p⟩ S).map fD
 |ca n I=>exact uD _ _
 |qu bs Qs=>
  obtain⟨h1,h2⟩:=h;have hi:kL bs r (bs.length-1)<Qs.length:=by have:=wS bs r (bs.length-1);omega
  show(uu bs Qs r ⟨r,p⟩).flatten.Perm _;unfold uu;have:Qs[kL bs r (bs.length-1)]? =some (Qs.getD (kL bs r (bs.length-1)) []):=by
   rw[List.getD_eq_getElem?_getD,List.getElem?_eq_getElem hi];rfl
  exact Eu this _
theorem Wv {s:jB} (h:BV s) (r:Nat) (p:Pk):BV (iY s r p):=by
 cases s with
 |hp n S=>trivial
 |ca n I=>trivial
 |qu bs Qs=>
  obtain⟨h1,h2⟩:=h;refine⟨?_,?_⟩
  ·show(pushB bs r).length=(uu bs Qs r ⟨r,p⟩).length;rw[p_];unfold uu;rw[List.length_set];exact h1
  ·show 1≤(pushB bs r).length;rw[p_];exact h2
theorem ZP {s:jB} (h:BV s):BV (jW s):=by
 cases s with
 |hp n S=>trivial
 |ca n I=>trivial
 |qu bs Qs=>
  obtain⟨h1,h2⟩:=h;refine⟨?_,h2⟩;show bs.length=(BU Qs).length;unfold BU;split
  ·rw[List.length_set];exact h1
  ·exact h1
theorem ZQ (s:jB) (r:Nat) (p:Pk):jv (iY s r p)≤jv s+1:=by cases s<;>simp[iY,jv]
theorem acy (s:jB):jv (jW s)=jv s:=by cases s<;>rfl
theorem OL (bs:List Nat) (Qs:List (List It)):(aW (.qu bs Qs)).length=kT Qs:=by
 show Qs.flatten.length=kT Qs;unfold kT;rw[List.length_flatten]
def F7 (b:Nat):Value:=.iface 288 (.agg #[.pointer (some ⟨b,0,none⟩)])
def OM (b:Nat):Value:=.iface 298 (.agg #[.pointer (some ⟨b,0,none⟩)])
set_option maxRecDepth 100000 in
theorem Wx (c:mF) (v:Value) (w:World) (hb:c.back=1) (h1:1≤c.aI) (h2:c.aI≤4096):
 Calls Tryz.prog 89 #[.agg (lC c v).toArray] w fun e w'=>∃b F,e=.returned (F7 b)∧Hp w' F b c.aI.toNat 0 []∧(∀b,F b→w.heap.size≤b)∧Kp none' w w':=by
 obtain⟨rk,bk,lv,qu,pk,bt,sh,mt,rt,bu,fl⟩:=c;simp only at hb h1 h2;subst hb;obtain⟨p,rfl⟩:∃p:Nat,pk=p:=⟨pk.toNat,by omega⟩
 have HN:=ae (fun W=>V8 p (by omega) (by omega) W);have HB0:=ae (ag.new w [.int .i64 rk,.int .i64 1,.int .i64 lv,.int .i64 qu,.int .i64 p,.int .u64 bt,.int .i64 sh,.int .u64 mt,.int .u64 rt,.int .u64 bu,v] 25);have aB:=ae ((Kp.refl none' w).alloc (.cells #[.int .i64 rk,.int .i64 1,.int .i64 lv,.int .i64 qu,.int .i64 p,.int .u64 bt,.int .i64 sh,.int .u64 mt,.int .u64 rt,.int .u64 bu,v] 25));refine ay ?_;intro PP HP;simp only[lC]at*
 go_enter Tryz.func89,Tryz.ntmps89
 go_wp2_with fail
 refine(HN.out _).mono ?_;rintro e w2 ⟨b,F,rfl,hp,hF,hk⟩;have HH:=ae hp;have HF:=ae hF;have HK:=ae (aB.out.trans hk);clear hp hF hk
 go_wp2_with fail
 exact HP.out _ _ ⟨b,F,rfl,by simpa using HH.out,fun x hx=>by have:=HF.out x hx;have:=aB.out.size;omega,HK.out⟩
end Go.Proofs.YtjiehhlghjnfhaaGreatDoor
