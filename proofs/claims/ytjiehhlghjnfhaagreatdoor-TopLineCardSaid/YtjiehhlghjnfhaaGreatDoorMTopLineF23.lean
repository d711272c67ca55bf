/- The prefixes of rules (their dsts) as a tree. -/
import Derived.Test.YtjiehhlghjnfhaaGreatDoorMTopLineF5
set_option linter.unusedVariables false
set_option linter.unusedSimpArgs false
set_option maxHeartbeats 8000000
namespace Go.Proofs.YtjiehhlghjnfhaaGreatDoor
open Go.RowKit
theorem AA {r:dI} (h:r.Ok):Kq (fH r):=h.d
theorem Fe (l:List dI) {j:Nat} (h:j<l.length):(l.map (fun r=>dm (fH r))).getD j (0,0)=dm (fH l[j]):=by
 rw[getD_at _ (by simpa using h)];simp
structure Ff (w wr:World) (l:List dI) (v:Value) (tb n j:Nat) (T:Tr):Prop where
 tab:iO wr w.heap.size tb T n
 at_:fK (l.map (fun r=>dm (fH r))) j T
 kp:Kp none' w wr
 uY:n≤j
theorem Ff.old {w wr w':World} {l:List dI} {v:Value} {tb n j:Nat} {T:Tr} (h:Ff w wr l v tb n j T) (k:Kp none' wr w'):Ff w w' l v tb n j T:=⟨h.tab.old k,h.at_,h.kp.trans k,h.uY⟩
set_option maxRecDepth 100000 in
theorem JD (l:List dI) (hok:∀r∈l,r.Ok) (hr:∀r∈l,cO (fH r).1 (fH r).2=true) (hn:l.length≤64) (v:Value) (w:World) (h:Sl w v l.length 7 (l.flatMap ja)):
 Calls Tryz.prog 93 #[v,.func (.func 95) #[] #[]] w fun e w'=>∃tb T n,e=.returned (.pointer (some ⟨tb,0,none⟩))∧iO w' w.heap.size tb T n∧ng (l.map (fun r=>dm (fH r))) T∧Kp none' w w':=by
 obtain⟨ao,cap,rfl⟩:∃ao cap,v=.slice ao l.length cap:=by obtain⟨ao,cap,rfl,_⟩:=h.is;exact⟨_,_,rfl⟩
 have HS:=ae h;have HO:=ae hok;have HR:=ae hr;have XV:=ae (fun W=>aa8 W);clear h hok hr
 go_enter Tryz.func93,Tryz.ntmps93
 go_wp2_with(go_at_call 155;refine(XV.out _).mono ?_;rintro e w1 ⟨tb,T,rfl,hT,hk1,b1,hb1⟩
             have HP:Hid (Ff w w1 l (.slice ao l.length cap) tb 0 0 T):=⟨hT,by rw[hb1];exact fK.start _ _,hk1,Nat.le_refl _⟩
             clear hT hk1 hb1)
 go_loopw [14] (fun i wr=>∃(j n:Nat) (T:Tr),i=.int .i64 j∧j≤l.length∧Hid (Ff w wr l (.slice ao l.length cap) tb n j T)) (fun i _=>l.length-(intOf i).toNat)
 case atStart=>exact⟨0,0,T,rfl,Nat.zero_le _,HP.out⟩
 case round=>
  clear HP;obtain⟨j,n,T1,rfl,hj,HI⟩:=hrel;obtain⟨wo,hwo⟩:∃wo:World,wo=wr:=⟨_,rfl⟩
  subst hwo;by_cases hlt:j<l.length
  ·obtain⟨g,off,cap',e1,hc⟩:=(HS.out.old HI.out.kp).at kR (by decide) j hlt;injection e1 with e1 _ e3
   subst e1 e3;have hji:(j:Int)<l.length:=by omega
   obtain⟨r,hrr⟩:∃r,l[j]=r:=⟨_,rfl⟩
   have hmem:r∈l:=by rw[←hrr];exact List.getElem_mem hlt
   rw[hrr]at hc;have c0:wo.cell? ⟨g,off+j*7,none⟩=some (.int .u32 r.s.1):=hc 0 _ rfl;have c1:=hc 1 _ rfl;have c2:=hc 2 _ rfl;have c3:=hc 3 _ rfl;have c4:=hc 4 _ rfl;have c5:=hc 5 _ rfl;have c6:=hc 6 _ rfl;have HRR:=ae hrr;have HM:=ae hmem;have hRl:=(zC (HR.out r hmem) (AA (HO.out r hmem)));have JA:=ae hRl;have XW:=ae (Fe l (j:=j) hlt |>.trans (by rw[hrr]));clear hc hrr hmem hRl
   go_wp2_with fail
   have hK0:Kp none' wo (wo.alloc (.cells #[.int .u32 r.s.1,.int .i64 r.s.2,.int .u32 r.d.1,.int .i64 r.d.2,.int .u16 r.lo,.int .u16 r.hi,.int .u32 r.fl] 153)):=(Kp.refl none' wo).alloc _;have CS:ag (wo.alloc (.cells #[.int .u32 r.s.1,.int .i64 r.s.2,.int .u32 r.d.1,.int .i64 r.d.2,.int .u16 r.lo,.int .u16 r.hi,.int .u32 r.fl] 153)) wo.heap.size (ja r) 153:=ag.new wo (ja r) _;obtain⟨W0,hW0⟩:∃W,wo.alloc (.cells #[.int .u32 r.s.1,.int .i64 r.s.2,.int .u32 r.d.1,.int .i64 r.d.2,.int .u16 r.lo,.int .u16 r.hi,.int .u32 r.fl] 153)=W:=⟨_,rfl⟩
   obtain⟨g7,XX⟩:∃g,wo.heap.size=g:=⟨_,rfl⟩
   rw[hW0]at hK0 CS ⊢;rw[XX]at CS ⊢;have jw:=ae CS;have HI0:=ae (HI.out.old hK0);obtain⟨f,hf⟩:∃f:Nat→Bool,f=fun i=>dL ((l.map (fun r=>dm (fH r))).getD i (0,0)) (dm (fH r)):=⟨_,rfl⟩
   have HF:=ae hf;have PK:Hid (∀W,Calls Tryz.prog 95 #[.agg #[.int .u32 r.s.1,.int .i64 r.s.2,.int .u32 r.d.1,.int .i64 r.d.2,.int .u16 r.lo,.int .u16 r.hi,.int .u32 r.fl]] W fun e w'=>e=.returned (.agg #[.int .u32 (fH r).1,.int .i64 (fH r).2])∧Kp none' W w'):=fun W=>aa_ r.s r.d r.lo r.hi r.fl W
   clear hW0 XX hK0 CS hf c0 c1 c2 c3 c4 c5 c6
   go_loopw [8,20] (fun m i wr=>∃k:Nat,i=.int .i64 k∧k≤l.length∧m=.int .u64 (bitsOf f k:Nat)∧Hid (Kp none' W0 wr)) (fun _ i _=>l.length-(intOf i).toNat)
   case atStart=>exact⟨0,rfl,Nat.zero_le _,rfl,Kp.refl _ _⟩
   case round=>
    obtain⟨k,rfl,hk,rfl,HK⟩:=hrel;by_cases hkl:k<l.length
    ·obtain⟨g,off,cap2,e1,hc⟩:=(HS.out.old (HI0.out.kp.trans HK.out)).at kR (by decide) k hkl;injection e1 with e1 _ e3
     cases e1
     subst e3;have hki:(k:Int)<l.length:=by omega
     have MS:k<64:=by omega
     obtain⟨o,ho⟩:∃o,l[k]=o:=⟨_,rfl⟩
     have JB:o∈l:=by rw[←ho];exact List.getElem_mem hkl
     rw[ho]at hc;have c0:wr.cell? ⟨g,off+k*7,none⟩=some (.int .u32 o.s.1):=hc 0 _ rfl;have c1:=hc 1 _ rfl;have c2:=hc 2 _ rfl;have c3:=hc 3 _ rfl;have c4:=hc 4 _ rfl;have c5:=hc 5 _ rfl;have c6:=hc 6 _ rfl;have HOP:=ae (zC (HR.out o JB) (AA (HO.out o JB)));have rX:=ae (Fe l (j:=k) hkl |>.trans (by rw[ho]));have hfk:f k=qO (fH o).1 (fH o).2 (fH r).1 (fH r).2:=by
      rw[HF.out];show dL ((l.map (fun r=>dm (fH r))).getD k (0,0)) (dm (fH r))=_;rw[rX.out];unfold dL;rw[HOP.out.2,JA.out.2];rfl
     have bo:=AA (HO.out o JB);have JC:Hid (∀W,Calls Tryz.prog 95 #[.agg #[.int .u32 o.s.1,.int .i64 o.s.2,.int .u32 o.d.1,.int .i64 o.d.2,.int .u16 o.lo,.int .u16 o.hi,.int .u32 o.fl]] W fun e w'=>e=.returned (.agg #[.int .u32 (fH o).1,.int .i64 (fH o).2])∧Kp none' W w'):=fun W=>aa_ o.s o.d o.lo o.hi o.fl W
     have Fa:=ae (fun W=>zF (fH o).1 (fH r).1 (fH o).2 (fH r).2 W bo.1 (AA (HO.out r HM.out)).1 ⟨bo.2.1,bo.2.2⟩ (AA (HO.out r HM.out)).2);rw[←hfk]at Fa;obtain⟨b7,hb7⟩:∃W,W=wr:=⟨_,rfl⟩
     subst hb7;have qo:=ae (jw.out.kp HK.out (fun x=>x));have hk9:Kp none' b7 (b7.alloc (.cells #[.int .u32 o.s.1,.int .i64 o.s.2,.int .u32 o.d.1,.int .i64 o.d.2,.int .u16 o.lo,.int .u16 o.hi,.int .u32 o.fl] 153)):=(Kp.refl none' b7).alloc _;have uQ:ag (b7.alloc (.cells #[.int .u32 o.s.1,.int .i64 o.s.2,.int .u32 o.d.1,.int .i64 o.d.2,.int .u16 o.lo,.int .u16 o.hi,.int .u32 o.fl] 153)) b7.heap.size (ja o) 153:=ag.new b7 (ja o) _;have qp:=ae (qo.out.kp hk9 (fun x=>x));have FV:=ae uQ;have MV:=ae hk9;have r0:=qp.out.cell 0 rfl;have r1:=qp.out.cell 1 rfl;have r2:=qp.out.cell 2 rfl;have r3:=qp.out.cell 3 rfl;have r4:=qp.out.cell 4 rfl;have r5:=qp.out.cell 5 rfl;have r6:=qp.out.cell 6 rfl;have o0:=uQ.cell 0 rfl;have o1:=uQ.cell 1 rfl;have o2:=uQ.cell 2 rfl;have o3:=uQ.cell 3 rfl;have o4:=uQ.cell 4 rfl;have o5:=uQ.cell 5 rfl;have o6:=uQ.cell 6 rfl;clear hk9 uQ hc ho JB bo;cases hfv:f k with
     |true=>
      have hor:=yz MS hfv;rw[hfv]at Fa;obtain⟨m,hm⟩:∃m,bitsOf f k=m:=⟨_,rfl⟩
      obtain⟨m',hm'⟩:∃m,bitsOf f (k+1)=m:=⟨_,rfl⟩
      rw[hm,hm']at hor;have C9:=ae hm';simp only[hm];clear hm hm' hfv hfk
      go_wp2_with fail
      refine af [] [0,1,2,3,4,5] 6 (by kernel_rfl) (by kernel_rfl) (fun c a d u w h=>by cases d<;>exact h) ?_;simp only[pick,bn];show aA _ _ _ _ _ _
      repeat((first
          |refine ah (by exact rfl) (by as_aux_lemma=>intro W hK;have e0:=hK.cell r0 (fun x=>x);have e1:=hK.cell r1 (fun x=>x);have e2:=hK.cell r2 (fun x=>x);have e3:=hK.cell r3 (fun x=>x);have e4:=hK.cell r4 (fun x=>x);have e5:=hK.cell r5 (fun x=>x);have e6:=hK.cell r6 (fun x=>x);have f0:=hK.cell o0 (fun x=>x);have f1:=hK.cell o1 (fun x=>x);have f2:=hK.cell o2 (fun x=>x);have f3:=hK.cell o3 (fun x=>x);have f4:=hK.cell o4 (fun x=>x);have f5:=hK.cell o5 (fun x=>x);have f6:=hK.cell o6 (fun x=>x);go_simp;exact rfl) ?_
          |refine ai (by exact rfl) ?_
          |refine au (by exact rfl) (by as_aux_lemma=>intro W;go_simp;exact⟨rfl,rfl⟩) (by intro W hK;with_reducible first|exact JC.out W|exact PK.out W) ?_);simp only[Act.put,aY])
      show ∀W,_→wpList _ _ _ _ _ _
      intro W5 hK5;have a_:=ae ((HK.out.trans MV.out).trans hK5);clear hK5 r0 r1 r2 r3 r4 r5 r6 o0 o1 o2 o3 o4 o5 o6 c0 c1 c2 c3 c4 c5 c6 JC
      go_wp2_with(go_at_call 156;refine(Fa.out _).mono ?_;rintro e w6 ⟨rfl,hk6⟩;have b_:=ae (a_.out.trans hk6);clear hk6)
      go_roundw
      case rel=>exact⟨k+1,by go_num,by omega,by rw[C9.out],b_.out⟩
      case measure=>simp[intOf];omega
     |false=>
      have hsk:=yA hfv;have qF:=ae hsk;rw[hfv]at Fa;obtain⟨m,hm⟩:∃m,bitsOf f k=m:=⟨_,rfl⟩
      have C9:=ae hm;simp only[hm];clear hm hsk hfv hfk
      go_wp2_with fail
      refine af [] [0,1,2,3,4,5] 6 (by kernel_rfl) (by kernel_rfl) (fun c a d u w h=>by cases d<;>exact h) ?_;simp only[pick,bn];show aA _ _ _ _ _ _
      repeat((first
          |refine ah (by exact rfl) (by as_aux_lemma=>intro W hK;have e0:=hK.cell r0 (fun x=>x);have e1:=hK.cell r1 (fun x=>x);have e2:=hK.cell r2 (fun x=>x);have e3:=hK.cell r3 (fun x=>x);have e4:=hK.cell r4 (fun x=>x);have e5:=hK.cell r5 (fun x=>x);have e6:=hK.cell r6 (fun x=>x);have f0:=hK.cell o0 (fun x=>x);have f1:=hK.cell o1 (fun x=>x);have f2:=hK.cell o2 (fun x=>x);have f3:=hK.cell o3 (fun x=>x);have f4:=hK.cell o4 (fun x=>x);have f5:=hK.cell o5 (fun x=>x);have f6:=hK.cell o6 (fun x=>x);go_simp;exact rfl) ?_
          |refine ai (by exact rfl) ?_
          |refine au (by exact rfl) (by as_aux_lemma=>intro W;go_simp;exact⟨rfl,rfl⟩) (by intro W hK;with_reducible first|exact JC.out W|exact PK.out W) ?_);simp only[Act.put,aY])
      show ∀W,_→wpList _ _ _ _ _ _
      intro W5 hK5;have a_:=ae ((HK.out.trans MV.out).trans hK5);clear hK5 r0 r1 r2 r3 r4 r5 r6 o0 o1 o2 o3 o4 o5 o6 c0 c1 c2 c3 c4 c5 c6 JC
      go_wp2_with(go_at_call 156;refine(Fa.out _).mono ?_;rintro e w6 ⟨rfl,hk6⟩;have b_:=ae (a_.out.trans hk6);clear hk6)
      go_roundw
      case rel=>exact⟨k+1,by go_num,by omega,by rw[qF.out,C9.out],b_.out⟩
      case measure=>simp[intOf];omega
    ·have hkn:k=l.length:=by omega
     subst hkn;have hset:bitsOf f l.length=vJ (l.map (fun r=>dm (fH r))) (dm (fH r)):=by rw[HF.out];unfold vJ;rw[List.length_map]
     have HI1:=ae (HI0.out.old HK.out);have HT:=ae (fun W (k:Kp none' wr W)=>aa6 W w.heap.size tb n (vJ (l.map (fun r=>dm (fH r))) (dm (fH r))) T1 (HI1.out.tab.old k) (dm (fH r)) JA.out.1 (by have:=HI1.out.uY;omega));have hpx:(dm (fH r)).1=(fH r).1:=rfl;rw[JA.out.2,←hset,hpx]at HT;have jm:=ae hset;have qo:=ae (jw.out.kp HK.out (fun x=>x));have r0:=qo.out.cell 0 rfl;have r1:=qo.out.cell 1 rfl;have r2:=qo.out.cell 2 rfl;have r3:=qo.out.cell 3 rfl;have r4:=qo.out.cell 4 rfl;have r5:=qo.out.cell 5 rfl;have r6:=qo.out.cell 6 rfl;clear hset hpx;obtain⟨m,hm⟩:∃m,bitsOf f l.length=m:=⟨_,rfl⟩
     rw[hm]at HT jm;simp only[hm];clear hm
     go_wp2_with(first
      |(go_at_call 95;refine(PK.out _).mono ?_;rintro e w2 ⟨rfl,hk2⟩;have ak:=ae hk2;clear hk2)
      |(go_at_call 157;refine(HT.out _ ak.out).mono ?_;rintro e w3 ⟨c,nb,fb,n',rfl,hn',hT',hk3⟩
        have HT3:=ae hT';have nJ:=ae hn';have aF:=ae hk3;clear hT' hn' hk3))
     have hat:fK (l.map (fun r=>dm (fH r))) (j+1) (T1.put nb (dm (fH r)) m fb):=by
      have:=HI.out.at_.put (k:=j) (by rw[List.length_map];exact hlt) (by rw[XW.out];exact JA.out.1) nb fb;rw[XW.out]at this;rw[jm.out];exact this
     have HAT:=ae hat;have HKE:Hid (Kp none' w wr):=HI1.out.kp;have Py:=ae ((HKE.out.trans ak.out).then aF.out (fun i hi e=>by omega));clear hat
     go_roundw
     case rel=>exact⟨j+1,n',_,by go_num,by omega,HT3.out,HAT.out,Py.out,Nat.le_trans nJ.out (Nat.succ_le_succ HI.out.uY)⟩
     case measure=>simp[intOf];omega
  ·have hjn:j=l.length:=by omega
   subst hjn
   go_wp2_with fail
   go_ret
   refine⟨tb,T1,n,rfl,HI.out.tab,?_,HI.out.kp⟩;have:=HI.out.at_;have e:l.length=(l.map (fun r=>dm (fH r))).length:=(List.length_map ..).symm;rw[e]at this;exact this.full
end Go.Proofs.YtjiehhlghjnfhaaGreatDoor
