/- Walks of layer 31: which addresses a prefix has, which prefixes it covers. -/
import Derived.Test.YtjiehhlghjnfhaaGreatDoorMTopLineF3
import Derived.Deep.RegionHeld3
import Derived.Deep.RegionWith
import Derived.Deep.DeepCutAuto
import Derived.Test.YtjiehhlghjnfhaaGreatDoorMTopLineF1
import Derived.Deep.LoopGhost
import Derived.Test.YtjiehhlghjnfhaaGreatDoorShelf
import Derived.Sort.WalkA14
import Derived.Laws.StructEq
set_option linter.unusedVariables false
set_option linter.unusedSimpArgs false
set_option maxHeartbeats 8000000
namespace Go.Proofs.YtjiehhlghjnfhaaGreatDoor
open Go.RowKit
theorem Vl (x a n:Nat) (h:a/2^n*2^n=a):((x:Int)/2^n*2^n==(a:Int))=decide (x/2^n=a/2^n):=by
 have e:(x:Int)/2^n*2^n=((x/2^n*2^n:Nat):Int):=by simp
 have hp:0<2^n:=Nat.pow_pos (by decide);rw[e,Bool.eq_iff_iff];simp only[beq_iff_eq,decide_eq_true_eq];constructor
 ·intro h1;have h2:x/2^n*2^n=a:=by omega
  rw[←h2,Nat.mul_div_cancel _ hp]
 ·intro h1;rw[h1,h]
theorem aa3 (a x:Nat) (b:Int) (w:World) (ha:a<4294967296) (hx:x<4294967296) (hb: -9223372036854775808≤b∧b≤9223372036854775807):Calls Tryz.prog 138 #[.agg #[.int .u32 a,.int .i64 b],.int .u32 x] w fun e w'=>e=.returned (.bool (hasB a b x))∧Kp none' w w':=by
 have hM:=ae (fun W=>Oa b W hb);have hR:=fun W=>wP a b W ha hb
 obtain⟨rr,hrr⟩:∃rr,cO a b=rr:=⟨_,rfl⟩
 simp only[hrr]at hR;have HR:=ae hR;obtain⟨wx,hwx⟩:∃wx,wx=w.alloc (.cells #[.int .u32 a,.int .i64 b] 151):=⟨_,rfl⟩
 have hk0:Kp none' w wx:=by rw[hwx];exact(Kp.refl _ _).alloc _
 have hbx:ag wx w.heap.size [.int .u32 a,.int .i64 b] 151:=by rw[hwx];exact ag.new _ _ _
 have aB:=ae hk0;have SG:=ae hwx;have d0:=hbx.cell 0 rfl;have d1:=hbx.cell 1 rfl;have HB:=ae hbx;clear hR hk0 hwx hbx;cases rr with
 |true=>
  have h01:=dK.1 hrr;have hbt:=GU x hx h01.1 h01.2.1;have hf:Hid (hasB a b x=decide (x/2^(32-b.toNat)=a/2^(32-b.toNat))):=by unfold Hid hasB;rw[hrr];rfl
  have hmul:Hid (a/2^(32-b.toNat)*2^(32-b.toNat)=a):=Nat.div_mul_cancel (Nat.dvd_of_mod_eq_zero h01.2.2);obtain⟨m,hm⟩:∃m:Int,(maskN (ji b):Int)=m:=⟨_,rfl⟩
  rw[hm]at hM hbt;have HF:=hf;clear hm h01 hrr
  go_enter Tryz.func138,Tryz.ntmps138
  go_wp2
  rw[←SG.out]
  go_region_held3 (fun w'=>w'.cell? ⟨w.heap.size,0,none⟩=some (.int .u32 a)∧w'.cell? ⟨w.heap.size,1,none⟩=some (.int .i64 b)) (go_keep)
   (first
        |(go_at_call 100;refine(HR.out _).mono ?_;rintro e w1 ⟨rfl,k1⟩;have d0':=k1.cell (a:=⟨w.heap.size,0,none⟩) d0 id;have d1':=k1.cell (a:=⟨w.heap.size,1,none⟩) d1 id;have K1:=ae k1;clear k1)
        |(go_at_call 161;refine(hM.out _).mono ?_;rintro e w2 ⟨rfl,rfl⟩))
  go_wp2
  go_ret
  exact⟨iH (by rw[hf.out];exact Vl x a _ hmul.out),aB.out.trans ((Kp.refl none' _).drew.trans K1.out)⟩
 |false=>
  have hf:Hid (hasB a b x=false):=by unfold Hid hasB;rw[hrr];rfl
  clear hrr
  go_enter Tryz.func138,Tryz.ntmps138
  go_wp2
  rw[←SG.out];first
   |go_region_with (first|(go_at_call 100;refine(HR.out _).mono ?_;rintro e w1 ⟨rfl,k1⟩;have K1:=ae k1;clear k1))
   |fail
  all_goals
   go_wp2
   go_ret
   exact⟨iH hf.out.symm,aB.out.trans ((Kp.refl none' _).drew.trans K1.out)⟩
theorem zF (a a':Nat) (b b':Int) (w:World) (ha:a<4294967296) (ha':a'<4294967296) (hb: -9223372036854775808≤b∧b≤9223372036854775807) (hb': -9223372036854775808≤b'∧b'≤9223372036854775807):
 Calls Tryz.prog 156 #[.agg #[.int .u32 a,.int .i64 b],.agg #[.int .u32 a',.int .i64 b']] w fun e w'=>e=.returned (.bool (qO a b a' b'))∧Kp none' w w':=by
 have hR:=fun W=>wP a' b' W ha' hb'
 have hH:=fun W=>aa3 a a' b W ha ha' hb
 obtain⟨rr,hrr⟩:∃rr,cO a' b'=rr:=⟨_,rfl⟩
 obtain⟨hh,hhh⟩:∃hh,hasB a b a'=hh:=⟨_,rfl⟩
 simp only[hrr]at hR;simp only[hhh]at hH;have HR:=ae hR;have HH:=ae hH;have hf:Hid (qO a b a' b'=(rr&&decide (b≤b')&&hh)):=by unfold Hid qO;rw[hrr,hhh]
 obtain⟨wx,hwx⟩:∃wx,wx=(w.alloc (.cells #[.int .u32 a,.int .i64 b] 151)).alloc (.cells #[.int .u32 a',.int .i64 b'] 151):=⟨_,rfl⟩
 have hk0:Kp none' w wx:=by rw[hwx];exact((Kp.refl _ _).alloc _).alloc _
 have hbx:ag wx w.heap.size [.int .u32 a,.int .i64 b] 151:=by rw[hwx];exact(ag.new _ _ _).alloc _
 have hby:ag wx (w.heap.size+1) [.int .u32 a',.int .i64 b'] 151:=by
  rw[hwx];have:=ag.new (w.alloc (.cells #[.int .u32 a,.int .i64 b] 151)) [.int .u32 a',.int .i64 b'] 151;simpa using this
 have aB:=ae hk0;have SG:=ae hwx;have d0:=hbx.cell 0 rfl;have d1:=hbx.cell 1 rfl;have d2:=hby.cell 0 rfl;have d3:=hby.cell 1 rfl;clear hR hH hrr hhh hk0 hwx hbx hby;cases rr with
 |false=>
  go_enter Tryz.func156,Tryz.ntmps156
  go_upto_region 1 with(fail)
  rw[←SG.out]
  go_wp2_with fail
  refine(HR.out _).mono ?_;rintro e w1 ⟨rfl,k1⟩;have K1:=ae k1;clear k1
  go_wp2_with fail
  go_ret
  exact⟨iH (by rw[hf.out];rfl),aB.out.trans K1.out⟩
 |true=>
  by_cases hle:b≤b'
  ·have hd:decide (b≤b')=true:=by simpa using hle
   go_enter Tryz.func156,Tryz.ntmps156
   go_upto_region 1 with(fail)
   rw[←SG.out]
   go_wp2_with fail
   refine(HR.out _).mono ?_;rintro e w1 ⟨rfl,k1⟩;have e0:=k1.cell d0 id;have e1:=k1.cell d1 id;have e2:=k1.cell d2 id;have e3:=k1.cell d3 id;have K1:=ae k1;clear k1
   go_wp2_with fail
   refine(HH.out _).mono ?_;rintro e w2 ⟨rfl,k2⟩;have K2:=ae k2;clear k2
   go_wp2_with fail
   go_ret
   exact⟨iH (by rw[hf.out,hd];rfl),(aB.out.trans K1.out).trans K2.out⟩
  ·have hd:decide (b≤b')=false:=by simpa using hle
   go_enter Tryz.func156,Tryz.ntmps156
   go_upto_region 1 with(fail)
   rw[←SG.out]
   go_wp2_with fail
   refine(HR.out _).mono ?_;rintro e w1 ⟨rfl,k1⟩;have e0:=k1.cell d0 id;have e1:=k1.cell d1 id;have e2:=k1.cell d2 id;have e3:=k1.cell d3 id;have K1:=ae k1;clear k1
   go_wp2_with fail
   go_ret
   exact⟨iH (by rw[hf.out,hd];rfl),aB.out.trans K1.out⟩
theorem wQ {P:Program} {f:Func} {s u v:Tmp} {ty:TypeId} (hf:f.results=#[.cell s ty,.tmp u,.tmp v]) {R:Ending→World→Prop} {W:World} {g:Nat} {cs:List Value} {t:TypeId} {T:Array Value} (hb:ag W g cs t) (d:TypeDesc) (hu:P.underlying ty=some d) (hd:(match d with| .struct _| .array _ _=>true|_=>false)=true)
 (hi:(P.info? ty).map (·.size)=some cs.length) (h2:T.getD s undef=.pointer (some ⟨g,0,none⟩)) (hR:R (.returned (.tuple #[.agg cs.toArray,T.getD u undef,T.getD v undef])) W):bodyPost P f R Exit.ret {tmps:=T,defers:=[]} W:=by
 refine bodyPost_ret (v:=.tuple #[.agg cs.toArray,T.getD u undef,T.getD v undef]) ?_ rfl hR;have h2':T[s]?.getD undef=.pointer (some ⟨g,0,none⟩):=by simpa using h2
 simp[results,hf,h2',asAddr,run_loadVar_row W g t ty cs.toArray (0,0) d hb.is hu hd (by rw[List.size_toArray];exact hi)]
def dR (o:Option (Px×Nat)):Px:=match o with|none=>(0,0)|some e=>e.1
def uX (o:Option (Px×Nat)):Nat:=match o with|none=>0|some e=>e.2
def Vm (o:Option (Px×Nat)):Bool:=match o with|none=>false|some _=>true
structure IM (w wr:World) (T t:Tr) (a:Nat) (acc:Option (Px×Nat)):Prop where
 mem:kJ wr t
 wf:t.WF
 low:∀b∈t.aU,b<w.heap.size
 eq:t.best a acc=T.best a none
 pb:ag wr (w.heap.size+1) [.int .u32 (dR acc).1,.int .i64 (dR acc).2] 151
 rb:ag wr w.heap.size [.int .u32 0,.int .i64 0] 151
 kp:Kp none' w wr
theorem IM.old {w wr w':World} {T t:Tr} {a:Nat} {acc:Option (Px×Nat)} (h:IM w wr T t a acc) (k:Kp none' wr w'):IM w w' T t a acc:=
 ⟨h.mem.old k,h.wf,h.low,h.eq,h.pb.kp k (fun x=>x),h.rb.kp k (fun x=>x),h.kp.trans k⟩
theorem kJ.lt {w:World} {t:Tr} (h:kJ w t):∀b∈t.aU,b<w.heap.size:=by
 induction t with
 |nil=>intro b hb;cases hb
 |node b p u x l r hl hr=>
  obtain⟨h1,h2,h3⟩:=h;intro b' hb;simp only[Tr.aU,List.mem_cons,List.mem_append]at hb;rcases hb with rfl|hb|hb
  ·exact h1.lt
  ·exact hl h2 b' hb
  ·exact hr h3 b' hb
theorem Tr.mi {b:Nat} {p:Px} {u:Bool} {x:Nat} {l r:Tr} {a:Nat} {acc:Option (Px×Nat)} (h:fB p a=true):(Tr.node b p u x l r).best a acc=if bH p a=0 then l.best a (match u with|true=>some (p,x)|false=>acc)else r.best a (match u with|true=>some (p,x)|false=>acc):=by
 conv=>lhs;unfold Tr.best
 rw[h];rfl
theorem Tr.zG {p:Px} {s:Nat} {t:Tr} (h:∀q∈t.dE,Under p s q) (hp:p.2=32):t=.nil:=by
 cases t with
 |nil=>rfl
 |node b q u x l r=>
  have:=h q (by simp[Tr.dE]);have h1:=this.lt;have h2:=(di.1 (nI.1 this.II).1).1;omega
set_option maxRecDepth 100000 in
theorem Ob (w:World) (tb:Nat) (T:Tr) (n:Int) (hT:ag w tb [T.ptr,.int .i64 n] 377) (hM:kJ w T) (hw:T.WF) (a:Nat) (ha:a<4294967296):
 Calls Tryz.prog 201 #[.pointer (some ⟨tb,0,none⟩),.int .u32 a] w fun e w'=>e=.returned (.tuple #[.agg #[.int .u32 (dR (T.best a none)).1,.int .i64 (dR (T.best a none)).2],.int .u64 (uX (T.best a none)),.bool (Vm (T.best a none))])∧Kp none' w w':=by
 have hk2:=((Kp.refl none' w).alloc (.cells #[.int .u32 0,.int .i64 0] 151)).alloc (.cells #[.int .u32 0,.int .i64 0] 151);have c0:=(hT.kp hk2 (fun x=>x)).cell 0 rfl;have HI0:Hid (IM w ((w.alloc (.cells #[.int .u32 0,.int .i64 0] 151)).alloc (.cells #[.int .u32 0,.int .i64 0] 151)) T T a none):=by
  refine⟨hM.old hk2,hw,hM.lt,rfl,?_,(ag.new w [.int .u32 0,.int .i64 0] _).alloc _,hk2⟩;have:=ag.new (w.alloc (.cells #[.int .u32 0,.int .i64 0] 151)) [.int .u32 0,.int .i64 0] 151;rw[World.size_alloc]at this;exact this
 obtain⟨tp,htp⟩:∃v,T.ptr=v:=⟨_,rfl⟩
 have HTP:=ae htp;rw[htp]at c0;obtain⟨R,hR⟩:∃R,T.best a none=R:=⟨_,rfl⟩
 have HR:=ae hR;rw[hR];clear hT hM hw hk2 htp hR
 go_enter Tryz.func201,Tryz.ntmps201
 go_wp2
 clear c0
 go_loopg [8,9,10] T.dE.length (fun k s8 s9 s10 wr=>∃(t:Tr) (acc:Option (Px×Nat)) (tp:Value),tp=s10∧s8=.int .u64 (uX acc)∧s9=.bool (Vm acc)∧t.dE.length≤k∧Hid (t.ptr=tp∧IM w wr T t a acc))
 case atStart=>exact⟨T,none,_,rfl,rfl,rfl,Nat.le_refl _,HTP.out,HI0.out⟩
 case round=>
  clear HI0;obtain⟨t,acc,tp,rfl,rfl,rfl,hk,HI⟩:=hrel;cases t with
  |nil=>
   obtain⟨hp,hi⟩:=HI.out;obtain rfl:=hp;have HF:=ae hi;simp only[Tr.ptr];have p0:=HF.out.pb.cell 0 rfl;have p1:=HF.out.pb.cell 1 rfl;clear hi HI
   go_wp2_with(refine fF rfl 151 (.tmp 4) (.tmp 56) rfl HF.out.rb [.int .u32 (dR acc).1,.int .i64 (dR acc).2] rfl rfl (by kernel_rfl) rfl (by simp[Value.oneCell']) ?_
               intro W2 hB2 _ hK2
               have HB2:=ae hB2;have ak:=ae (hK2 _ _ HF.out.kp (.inr (Nat.le_refl _)));clear hB2 hK2)
   refine wQ (by rfl) HB2.out _ Tryz.underlying151 rfl (by kernel_rfl) (by rfl) ?_;have he:=HF.out.eq;simp only[Tr.best]at he;refine⟨?_,ak.out⟩;rw[←HR.out,←he];rfl
  |node b p u x l r=>
   obtain⟨hp,hi⟩:=HI.out;obtain rfl:=hp;have HF:=ae hi;obtain⟨hn,hml,hmr⟩:=hi.mem;have n0:=hn.cell 0 rfl;have n1:=hn.cell 1 rfl;have n2:=hn.cell 2 rfl;have n3:=hn.cell 3 rfl;have n4:=hn.cell 4 rfl;have n5:=hn.cell 5 rfl;have hok:=hi.wf.1;have hH:=ae (fun W=>aa3 p.1 a p.2 W hok.2 ha (by have:=(di.1 hok.1).1;omega));simp only[Tr.ptr];have HN:=ae hn;have HL:=ae hml;have Y3:=ae hmr;clear hi HI hn hml hmr n4 n5;cases hh:fB p a with
   |false=>
    have Oc:=fun W=>hH.out W
    rw[show hasB p.1 p.2 a=false from hh]at Oc;have Vo:=ae Oc;obtain⟨vN,hE⟩:∃x,x=acc:=⟨_,rfl⟩
    subst hE;have HQ:Hid (vN=T.best a none):=by
     show _=_;rw[←HF.out.eq];unfold Tr.best;rw[hh]
    clear Oc hH
    go_wp2_with(first
     |(go_at_call 138;refine(Vo.out _).mono ?_;rintro e w1 ⟨rfl,hk1⟩
       have HE:Hid (Kp none' w w1∧ag w1 w.heap.size [.int .u32 0,.int .i64 0] 151):=⟨(HF.out.old hk1).kp,(HF.out.old hk1).rb⟩;have p0:=(HF.out.old hk1).pb.cell 0 rfl;have p1:=(HF.out.old hk1).pb.cell 1 rfl
       clear hk1)
     |(refine fF rfl 151 (.tmp 4) (.tmp 56) rfl HE.out.2 [.int .u32 (dR vN).1,.int .i64 (dR vN).2] rfl rfl (by kernel_rfl) rfl (by simp[Value.oneCell']) ?_
       intro W2 hB2 _ hK2
       have HB2:=ae hB2;have ak:=ae (hK2 _ _ HE.out.1 (.inr (Nat.le_refl _)));clear hB2 hK2))
    refine wQ (by rfl) HB2.out _ Tryz.underlying151 rfl (by kernel_rfl) (by rfl) ?_;refine⟨?_,ak.out⟩;rw[←HR.out,←HQ.out];rfl
   |true=>
    have Oc:=fun W=>hH.out W
    rw[show hasB p.1 p.2 a=true from hh]at Oc;have Vo:=ae Oc;clear Oc hH;cases u with
    |false=>
     by_cases h32:p.2=32
     ·have Kw:((p.2:Int)==32)=true:=by rw[beq_iff_eq];omega
      obtain⟨vN,hE⟩:∃x,x=acc:=⟨_,rfl⟩
      subst hE;have hwf:=HF.out.wf;have HQ:Hid (vN=T.best a none):=by
       show _=_;rw[←HF.out.eq,Tr.mi hh,Tr.zG hwf.2.1 h32,Tr.zG hwf.2.2.1 h32];simp only[Tr.best,ite_self]
      clear hwf h32
      go_wp2_with(first
           |(go_at_call 138;refine(Vo.out _).mono ?_;rintro e w1 ⟨rfl,hk1⟩
             have HE:Hid (Kp none' w w1∧ag w1 w.heap.size [.int .u32 0,.int .i64 0] 151):=⟨(HF.out.old hk1).kp,(HF.out.old hk1).rb⟩;have kK:=ae (HN.out.kp hk1 (fun x=>x));have p0:=(HF.out.old hk1).pb.cell 0 rfl;have p1:=(HF.out.old hk1).pb.cell 1 rfl;have n1:=kK.out.cell 1 rfl;have n2:=kK.out.cell 2 rfl
             clear hk1 n0 n3)
           |(refine fF rfl 151 (.tmp 4) (.tmp 56) rfl HE.out.2 [.int .u32 (dR vN).1,.int .i64 (dR vN).2] rfl rfl (by kernel_rfl) rfl (by simp[Value.oneCell']) ?_
             intro W2 hB2 _ hK2
             have HB2:=ae hB2;have ak:=ae (hK2 _ _ HE.out.1 (.inr (Nat.le_refl _)));clear hB2 hK2))
      refine wQ (by rfl) HB2.out _ Tryz.underlying151 rfl (by kernel_rfl) (by rfl) ?_;refine⟨?_,ak.out⟩;rw[←HR.out,←HQ.out];rfl
     ·have Kw:((p.2:Int)==32)=false:=by rw[beq_eq_false_iff_ne];omega
      go_wp2_with(go_at_call 138;refine(Vo.out _).mono ?_;rintro e w1 ⟨rfl,hk1⟩
                  have uk:=ae hk1;have HW3:Hid (Kp none' w w1∧ag w1 (w.heap.size+1) [.int .u32 (dR acc).1,.int .i64 (dR acc).2] 151∧ag w1 w.heap.size [.int .u32 0,.int .i64 0] 151∧Kp none' w w1):=⟨(HF.out.old hk1).kp,(HF.out.old hk1).pb,(HF.out.old hk1).rb,(HF.out.old hk1).kp⟩;have nJ:=ae (HN.out.kp hk1 (fun x=>x));have n1:=nJ.out.cell 1 rfl;have n2:=nJ.out.cell 2 rfl
                  clear hk1 n0 n3)
      obtain⟨lV,hacc⟩:∃z,z=acc:=⟨_,rfl⟩
      subst hacc
      rename World=>W3
      have Vp:Hid (∀t:Tr,t.best a lV=t.best a lV):=fun _=>rfl
      have HLW:=ae (HL.out.old uk.out);have HRW:=ae (Y3.out.old uk.out);clear n1 n2 Kw;have GS:=ae (fun W (k:Kp none' W3 W)=>aT (rD W b p ((nJ.out.kp k (fun x=>x)).cell 1 rfl) (by have:=(di.1 hok.1).1;omega) a ha));have q4:=nJ.out.cell 4 rfl;have q5:=nJ.out.cell 5 rfl;rcases dD p a with hs|hs
      ·rw[hs]at GS;refine af [] [0,1,2,3,4,5,6,7] 8 (by kernel_rfl) (by kernel_rfl) (fun c a d u w h=>by cases d<;>exact h) ?_;simp only[pick,bn];show aA _ _ _ _ _ _
       repeat((first
          |refine ah (by exact rfl) (by as_aux_lemma=>intro W hK;have e0:=hK.cell q4 (fun x=>x);go_simp;exact rfl) ?_
          |refine ai (by exact rfl) ?_
          |refine au (by exact rfl) (by as_aux_lemma=>intro W;go_simp;exact⟨rfl,rfl⟩) (by intro W hK;with_reducible first|exact GS.out W hK) ?_);simp only[Act.put,aY])
       show ∀W,_→wpList _ _ _ _ _ _
       intro W5 hK5;have pJ:Hid (IM w W5 T l a lV):=⟨HLW.out.old hK5,HF.out.wf.2.2.2.1,fun b' hb=>HF.out.low b' (by simp[Tr.aU,hb]),by rw[←HF.out.eq,Tr.mi hh,if_pos hs]<;>exact Vp.out l,HW3.out.2.1.kp hK5 (fun x=>x),HW3.out.2.2.1.kp hK5 (fun x=>x),HW3.out.2.2.2.trans hK5⟩;have hlen:=hk;simp only[Tr.dE,List.length_cons,List.length_append]at hlen;clear hK5 q4 q5 GS
       go_wp2_with fail
       go_roundg l.dE.length
       case measure=>omega
       case rel=>exact⟨l,lV,_,rfl,by first|rfl|rw[gX.out],by first|rfl|rw[pK.out],Nat.le_refl _,rfl,pJ.out⟩
      ·rw[hs]at GS;have hs0:¬bH p a=0:=by omega
       refine af [] [0,1,2,3,4,5,6,7] 8 (by kernel_rfl) (by kernel_rfl) (fun c a d u w h=>by cases d<;>exact h) ?_;simp only[pick,bn];show aA _ _ _ _ _ _
       repeat((first
          |refine ah (by exact rfl) (by as_aux_lemma=>intro W hK;have e0:=hK.cell q5 (fun x=>x);go_simp;exact rfl) ?_
          |refine ai (by exact rfl) ?_
          |refine au (by exact rfl) (by as_aux_lemma=>intro W;go_simp;exact⟨rfl,rfl⟩) (by intro W hK;with_reducible first|exact GS.out W hK) ?_);simp only[Act.put,aY])
       show ∀W,_→wpList _ _ _ _ _ _
       intro W5 hK5;have pJ:Hid (IM w W5 T r a lV):=⟨HRW.out.old hK5,HF.out.wf.2.2.2.2,fun b' hb=>HF.out.low b' (by simp[Tr.aU,hb]),by rw[←HF.out.eq,Tr.mi hh,if_neg hs0]<;>exact Vp.out r,HW3.out.2.1.kp hK5 (fun x=>x),HW3.out.2.2.1.kp hK5 (fun x=>x),HW3.out.2.2.2.trans hK5⟩;have hlen:=hk;simp only[Tr.dE,List.length_cons,List.length_append]at hlen;clear hK5 q4 q5 GS
       go_wp2_with fail
       go_roundg r.dE.length
       case measure=>omega
       case rel=>exact⟨r,lV,_,rfl,by first|rfl|rw[gX.out],by first|rfl|rw[pK.out],Nat.le_refl _,rfl,pJ.out⟩
    |true=>
     have hblt:b<w.heap.size:=HF.out.low b (by simp[Tr.aU]);have aa4:=ae HF.out.low
     go_wp2_with(go_at_call 138;refine(Vo.out _).mono ?_;rintro e w1 ⟨rfl,hk1⟩
                 have FX:=ae (HF.out.old hk1);have uk:=ae hk1;have kK:=ae (HN.out.kp hk1 (fun x=>x));clear n0 n1 n2 n3;have n0:=kK.out.cell 0 rfl;have n1:=kK.out.cell 1 rfl;have n2:=kK.out.cell 2 rfl;have n3:=kK.out.cell 3 rfl
                 clear hk1)
     have t0:=FX.out.pb.cell 0 rfl;have t1:=FX.out.pb.cell 1 rfl;have y0:=FX.out.pb.fz 0;have y1:=FX.out.pb.fz 1
     go_region
     have hK3:Kp (fun b=>b=w.heap.size+1) w1 ((w1.setCell ⟨w.heap.size+1,0,none⟩ (.int .u32 p.1)).setCell ⟨w.heap.size+1,1,none⟩ (.int .i64 p.2)).drew:=(((Kp.refl (fun b=>b=w.heap.size+1) w1).set (p:=⟨w.heap.size+1,0,none⟩) (.inl rfl) _).set (p:=⟨w.heap.size+1,1,none⟩) (.inl rfl) _).drew;have hB3:ag ((w1.setCell ⟨w.heap.size+1,0,none⟩ (.int .u32 p.1)).setCell ⟨w.heap.size+1,1,none⟩ (.int .i64 p.2)).drew (w.heap.size+1) [.int .u32 p.1,.int .i64 p.2] 151:=((FX.out.pb.set 0 (.int .u32 p.1)).set 1 (.int .i64 p.2)).drew;obtain⟨W3,hW3⟩:∃W,((w1.setCell ⟨w.heap.size+1,0,none⟩ (.int .u32 p.1)).setCell ⟨w.heap.size+1,1,none⟩ (.int .i64 p.2)).drew=W:=⟨_,rfl⟩
     rw[hW3]at hK3 hB3 ⊢;clear hW3 t0 t1 y0 y1;obtain⟨lV,hacc⟩:∃z,z=some (p,x):=⟨_,rfl⟩
     have adB:=ae hacc;have hx1:uX lV=x:=by rw[hacc];rfl
     have hx2:Vm lV=true:=by rw[hacc];rfl
     have hx3:dR lV=p:=by rw[hacc];rfl
     have Vp:Hid (∀t:Tr,t.best a lV=t.best a (some (p,x))):=fun _=>by rw[hacc]
     have HW3:Hid (Kp none' w W3∧ag W3 (w.heap.size+1) [.int .u32 (dR lV).1,.int .i64 (dR lV).2] 151∧ag W3 w.heap.size [.int .u32 0,.int .i64 0] 151∧Kp none' w W3):=by
      have k:=FX.out.kp.then hK3 (fun b hb e=>by omega)
      exact⟨k,by rw[hx3];exact hB3,FX.out.rb.kp hK3 (by omega),k⟩
     have nJ:=ae (kK.out.kp hK3 (by omega));have hkk:=(uk.out.mono (T:=fun b=>b=w.heap.size+1) (fun _ _ x=>x.elim)).trans hK3;have HLW:=ae (HL.out.kp hkk (fun b' hb e=>by have:=aa4.out b' (by simp[Tr.aU,hb]);omega));have HRW:=ae (Y3.out.kp hkk (fun b' hb e=>by have:=aa4.out b' (by simp[Tr.aU,hb]);omega));have m1:=nJ.out.cell 1 rfl;have gX:=ae hx1;have pK:=ae hx2;clear hB3 hK3 hkk hacc hx1 hx2 hx3 n0 n1 n2 n3;by_cases h32:p.2=32
     ·have Kw:((p.2:Int)==32)=true:=by rw[beq_iff_eq];omega
      obtain⟨vN,hE⟩:∃x,x=lV:=⟨_,rfl⟩
      subst hE;have hwf:=HF.out.wf;have HQ:Hid (vN=T.best a none):=by
       show _=_;rw[←HF.out.eq,Tr.mi hh,Tr.zG hwf.2.1 h32,Tr.zG hwf.2.2.1 h32];simp only[Tr.best,ite_self];exact adB.out
      have HE:Hid (Kp none' w W3∧ag W3 w.heap.size [.int .u32 0,.int .i64 0] 151):=⟨HW3.out.1,HW3.out.2.2.1⟩;have p0:=HW3.out.2.1.cell 0 rfl;have p1:=HW3.out.2.1.cell 1 rfl;clear hwf h32
      go_wp2_with(refine fF rfl 151 (.tmp 4) (.tmp 56) rfl HE.out.2 [.int .u32 (dR vN).1,.int .i64 (dR vN).2] rfl rfl (by kernel_rfl) rfl (by simp[Value.oneCell']) ?_
                  intro W2 hB2 _ hK2
                  have HB2:=ae hB2;have ak:=ae (hK2 _ _ HE.out.1 (.inr (Nat.le_refl _)));clear hB2 hK2)
      refine wQ (by rfl) HB2.out _ Tryz.underlying151 rfl (by kernel_rfl) (by rfl) ?_;refine⟨?_,ak.out⟩;rw[←HR.out,←HQ.out,gX.out,pK.out];rfl
     ·have Kw:((p.2:Int)==32)=false:=by rw[beq_eq_false_iff_ne];omega
      go_wp2_with fail
      clear m1 Kw;have GS:=ae (fun W (k:Kp none' W3 W)=>aT (rD W b p ((nJ.out.kp k (fun x=>x)).cell 1 rfl) (by have:=(di.1 hok.1).1;omega) a ha));have q4:=nJ.out.cell 4 rfl;have q5:=nJ.out.cell 5 rfl;rcases dD p a with hs|hs
      ·rw[hs]at GS;refine af [] [0,1,2,3,4,5,6,7] 8 (by kernel_rfl) (by kernel_rfl) (fun c a d u w h=>by cases d<;>exact h) ?_;simp only[pick,bn];show aA _ _ _ _ _ _
       repeat((first
        |refine ah (by exact rfl) (by as_aux_lemma=>intro W hK;have e0:=hK.cell q4 (fun x=>x);go_simp;exact rfl) ?_
        |refine ai (by exact rfl) ?_
        |refine au (by exact rfl) (by as_aux_lemma=>intro W;go_simp;exact⟨rfl,rfl⟩) (by intro W hK;with_reducible first|exact GS.out W hK) ?_);simp only[Act.put,aY])
       show ∀W,_→wpList _ _ _ _ _ _
       intro W5 hK5;have pJ:Hid (IM w W5 T l a lV):=⟨HLW.out.old hK5,HF.out.wf.2.2.2.1,fun b' hb=>HF.out.low b' (by simp[Tr.aU,hb]),by rw[←HF.out.eq,Tr.mi hh,if_pos hs]<;>exact Vp.out l,HW3.out.2.1.kp hK5 (fun x=>x),HW3.out.2.2.1.kp hK5 (fun x=>x),HW3.out.2.2.2.trans hK5⟩;have hlen:=hk;simp only[Tr.dE,List.length_cons,List.length_append]at hlen;clear hK5 q4 q5 GS
       go_wp2_with fail
       go_roundg l.dE.length
       case measure=>omega
       case rel=>exact⟨l,lV,_,rfl,by first|rfl|rw[gX.out],by first|rfl|rw[pK.out],Nat.le_refl _,rfl,pJ.out⟩
      ·rw[hs]at GS;have hs0:¬bH p a=0:=by omega
       refine af [] [0,1,2,3,4,5,6,7] 8 (by kernel_rfl) (by kernel_rfl) (fun c a d u w h=>by cases d<;>exact h) ?_;simp only[pick,bn];show aA _ _ _ _ _ _
       repeat((first
        |refine ah (by exact rfl) (by as_aux_lemma=>intro W hK;have e0:=hK.cell q5 (fun x=>x);go_simp;exact rfl) ?_
        |refine ai (by exact rfl) ?_
        |refine au (by exact rfl) (by as_aux_lemma=>intro W;go_simp;exact⟨rfl,rfl⟩) (by intro W hK;with_reducible first|exact GS.out W hK) ?_);simp only[Act.put,aY])
       show ∀W,_→wpList _ _ _ _ _ _
       intro W5 hK5;have pJ:Hid (IM w W5 T r a lV):=⟨HRW.out.old hK5,HF.out.wf.2.2.2.2,fun b' hb=>HF.out.low b' (by simp[Tr.aU,hb]),by rw[←HF.out.eq,Tr.mi hh,if_neg hs0]<;>exact Vp.out r,HW3.out.2.1.kp hK5 (fun x=>x),HW3.out.2.2.1.kp hK5 (fun x=>x),HW3.out.2.2.2.trans hK5⟩;have hlen:=hk;simp only[Tr.dE,List.length_cons,List.length_append]at hlen;clear hK5 q4 q5 GS
       go_wp2_with fail
       go_roundg r.dE.length
       case measure=>omega
       case rel=>exact⟨r,lV,_,rfl,by first|rfl|rw[gX.out],by first|rfl|rw[pK.out],Nat.le_refl _,rfl,pJ.out⟩
theorem zH (a b:Nat) (ha:a<4294967296) (hb:b<4294967296):bits .xor .u32 (a:Int) (b:Int)=((a^^^b:Nat):Int):=by
 have hx:a^^^b<2^32:=Nat.xor_lt_two_pow (by omega) (by omega);have h1:(BitVec.ofInt 32 (a:Int)).toNat=a:=by
  rw[BitVec.ofInt_natCast,BitVec.toNat_ofNat];exact Nat.mod_eq_of_lt (by omega)
 have h2:(BitVec.ofInt 32 (b:Int)).toNat=b:=by
  rw[BitVec.ofInt_natCast,BitVec.toNat_ofNat];exact Nat.mod_eq_of_lt (by omega)
 show IntKind.u32.wrap ((BitVec.ofInt 32 (a:Int)^^^BitVec.ofInt 32 (b:Int)).toNat:Int)=_;rw[BitVec.toNat_xor,h1,h2,wrap_u32'];omega
theorem A7 {P:Program} {f:Func} {s:Tmp} {ty:TypeId} (hf:f.results=#[.cell s ty]) {R:Ending→World→Prop} {W:World} {g:Nat} {cs:List Value} {t:TypeId} {T:Array Value} (hb:ag W g cs t) (d:TypeDesc) (hu:P.underlying ty=some d) (hd:(match d with| .struct _| .array _ _=>true|_=>false)=true)
 (hi:(P.info? ty).map (·.size)=some cs.length) (h2:T.getD s undef=.pointer (some ⟨g,0,none⟩)) (hR:R (.returned (.agg cs.toArray)) W):bodyPost P f R Exit.ret {tmps:=T,defers:=[]} W:=by
 refine bodyPost_ret (v:=.agg cs.toArray) ?_ rfl hR;have h2':T[s]?.getD undef=.pointer (some ⟨g,0,none⟩):=by simpa using h2
 simp[results,hf,h2',asAddr,run_loadVar_row W g t ty cs.toArray (0,0) d hb.is hu hd (by rw[List.size_toArray];exact hi)]
set_option maxRecDepth 100000 in
theorem Vq (w:World) (p q:Px) (hp:nH p) (hq:nH q):
 Calls Tryz.prog 219 #[.agg #[.int .u32 p.1,.int .i64 p.2],.agg #[.int .u32 q.1,.int .i64 q.2]] w fun e w'=>e=.returned (.agg #[.int .u32 (bQ p q).1,.int .i64 (bQ p q).2])∧Kp none' w w':=by
 obtain⟨p1,p2⟩:=p;obtain⟨q1,q2⟩:=q;obtain⟨W0,hW0⟩:∃W,W=((w.alloc (.cells #[.int .u32 p1,.int .i64 p2] 151)).alloc (.cells #[.int .u32 q1,.int .i64 q2] 151)).alloc (.cells #[.int .u32 0,.int .i64 0] 151):=⟨_,rfl⟩
 have hk0:Kp none' w W0:=by rw[hW0];exact(((Kp.refl _ _).alloc _).alloc _).alloc _
 have b0:ag W0 w.heap.size [.int .u32 p1,.int .i64 p2] 151:=by rw[hW0];exact((ag.new w [.int .u32 p1,.int .i64 p2] _).alloc _).alloc _
 have b1:ag W0 (w.heap.size+1) [.int .u32 q1,.int .i64 q2] 151:=by
  rw[hW0];have:=ag.new (w.alloc (.cells #[.int .u32 p1,.int .i64 p2] 151)) [.int .u32 q1,.int .i64 q2] 151;rw[World.size_alloc]at this;exact this.alloc _
 have HW0:=ae hW0;have hx:p1^^^q1<4294967296:=Nat.xor_lt_two_pow (n:=32) hp.2 hq.2;have aa5:bits .xor .u32 (p1:Int) (q1:Int)=((p1^^^q1:Nat):Int):=zH p1 q1 hp.2 hq.2;have HLZ:=ae (fun W=>Tryz.bits_LeadingZeros32 ((p1^^^q1:Nat):Int) W (by omega) (by omega));obtain⟨X,hX⟩:∃X,p1^^^q1=X:=⟨_,rfl⟩
 rw[hX]at aa5 HLZ;obtain⟨n,hn⟩:∃n,bC (p1,p2) (q1,q2)=n:=⟨_,rfl⟩
 have hle:=zB (p1,p2) (q1,q2);have Vg:=(di.1 hp.1).1;have hL:Lib.bitLen X=Go.Sort.bitsLen X:=bitLen_eq X (by omega);have hL32:Go.Sort.bitsLen X≤32:=by rw[Go.Sort.bitsLen_le_iff];omega
 have hmin:(if(q2:Int)<if(p2:Int)<32-(Lib.bitLen X:Int)then(p2:Int)else 32-(Lib.bitLen X:Int)then(q2:Int)else if(p2:Int)<32-(Lib.bitLen X:Int)then(p2:Int)else 32-(Lib.bitLen X:Int))=(n:Int):=by
  rw[←hn,hL];unfold bC;simp only[hX];split<;>split<;>omega
 have hnl:n≤32:=by rw[←hn];simp only at hle Vg;omega
 have Vr:=GU p1 hp.2 (b:=(n:Int)) (by omega) (by omega);rw[Int.toNat_natCast]at Vr;have hres:bQ (p1,p2) (q1,q2)=(p1/2^(32-n)*2^(32-n),n):=by unfold bQ;rw[hn]
 have GM:=ae (fun W=>Oa (n:Int) W (by omega));rw[hres];obtain⟨M,hM⟩:∃M,maskN (ji (n:Int))=M:=⟨_,rfl⟩
 obtain⟨Z,hZ⟩:∃Z,p1/2^(32-n)*2^(32-n)=Z:=⟨_,rfl⟩
 rw[hM,hZ]at Vr;rw[hM]at GM;rw[hZ];have c0:=b0.cell 0 rfl;have c1:=b0.cell 1 rfl;have c2:=b1.cell 0 rfl;have c3:=b1.cell 1 rfl;rw[hW0]at c0 c1 c2 c3;have adC:=ae hmin;clear hW0 hmin hL hn hle hres hM hZ hX hL32
 go_enter Tryz.func219,Tryz.ntmps219
 go_wp2_with fail
 refine af [] [0,1,2,3,4,5,6,7,8,9,10] 11 (by kernel_rfl) (by kernel_rfl) (fun c a d u w h=>by cases d<;>exact h) ?_;simp only[pick,bn];show aA _ _ _ _ _ _
 repeat((first
  |refine ah (by exact rfl) (by as_aux_lemma=>intro W hK;have e0:=hK.cell c0 (fun x=>x);have e1:=hK.cell c1 (fun x=>x);have e2:=hK.cell c2 (fun x=>x);have e3:=hK.cell c3 (fun x=>x);go_simp;exact rfl) ?_
  |refine ai (by exact rfl) ?_
  |refine au (by exact rfl) (by as_aux_lemma=>intro W;go_simp;exact⟨rfl,rfl⟩) (by intro W hK;with_reducible first|exact aT ((HLZ.out W).mono fun e w' h=>⟨h.1,h.2.symm⟩)) ?_);simp only[Act.put,aY])
 show ∀W,_→wpList _ _ _ _ _ _
 intro W2 hK2;rw[adC.out];have Vs:=hk0;rw[HW0.out]at Vs;have ak:=ae (Vs.trans hK2);have d0:=hK2.cell c0 (fun x=>x);have HB2:Hid (ag W2 (w.heap.size+1+1) [.int .u32 0,.int .i64 0] 151):=by
  have:=ag.new ((w.alloc (.cells #[.int .u32 p1,.int .i64 p2] 151)).alloc (.cells #[.int .u32 q1,.int .i64 q2] 151)) [.int .u32 0,.int .i64 0] 151;rw[World.size_alloc,World.size_alloc]at this;exact this.kp hK2 (fun x=>x)
 clear hK2 c0 c1 c2 c3 aa5 hk0 Vs b0 b1
 go_wp2_with fail
 refine af [] [0,1,2,3,4,5,6] 7 (by kernel_rfl) (by kernel_rfl) (fun c a d u w h=>by cases d<;>exact h) ?_;simp only[pick,bn];show aA _ _ _ _ _ _
 repeat((first
  |refine ah (by exact rfl) (by as_aux_lemma=>intro W hK;have e0:=hK.cell d0 (fun x=>x);go_simp;exact rfl) ?_
  |refine ai (by exact rfl) ?_
  |refine au (by exact rfl) (by as_aux_lemma=>intro W;go_simp;exact⟨rfl,rfl⟩) (by intro W hK;with_reducible first|exact aT (GM.out W)|exact aT ((GM.out W).mono fun e w2 h=>⟨h.1,h.2.symm⟩)) ?_);simp only[Act.put,aY])
 show ∀W,_→wpList _ _ _ _ _ _
 intro W5 hK5;refine fF rfl 151 (.tmp 4) (.tmp 23) rfl (HB2.out.kp hK5 (fun x=>x)) [.int .u32 Z,.int .i64 n] rfl rfl (by kernel_rfl) rfl (by simp[Value.oneCell']) ?_;intro W6 nK _ hK6;have bV:=ae nK;have b_:=ae (hK6 _ _ (ak.out.trans hK5) (.inr (by omega)));clear nK hK6 hK5 d0;simp only[Act.put]
 go_wp2_with fail
 refine A7 (by rfl) bV.out _ Tryz.underlying151 rfl (by kernel_rfl) (by rfl) ?_;exact⟨rfl,b_.out⟩
theorem Vt (p q:Px) (w:World):(Op.equalIn 10000 151 (.agg #[.int .u32 p.1,.int .i64 p.2]) (.agg #[.int .u32 q.1,.int .i64 q.2])).run Tryz.prog w=.ok (decide (p=q)) w:=by
 go_simp
 obtain⟨p1,p2⟩:=p;obtain⟨q1,q2⟩:=q;by_cases h:(p1,p2)=(q1,q2)
 ·cases h;simp
 ·rw[decide_eq_false h];split
  ·split
   ·exact absurd (Prod.ext (by simp;omega) (by simp;omega)) h
   ·rfl
  ·rfl
theorem adD (p q:Px) (w:World):(binOp .eql 151 (.agg #[.int .u32 p.1,.int .i64 p.2]) (.agg #[.int .u32 q.1,.int .i64 q.2])).run Tryz.prog w=.ok (.bool (decide (p=q))) w:=by
 rw[run_eql_struct,Vt];rfl
theorem Ky (p q:Px) (w:World):(binOp .neq 151 (.agg #[.int .u32 p.1,.int .i64 p.2]) (.agg #[.int .u32 q.1,.int .i64 q.2])).run Tryz.prog w=.ok (.bool (!decide (p=q))) w:=by
 rw[run_neq_struct,Vt];rfl
def rE (T:Tr) (p:Px):Value:=match T.at_ p with|some (b,_,_)=>.pointer (some ⟨b,0,none⟩)|none=>.pointer none
structure Oe (w wr:World) (T t:Tr) (p:Px):Prop where
 mem:kJ wr t
 wf:t.WF
 eq:rE t p=rE T p
 pb:ag wr w.heap.size [.int .u32 p.1,.int .i64 p.2] 151
 kp:Kp none' w wr
theorem Oe.old {w wr w':World} {T t:Tr} {p:Px} (h:Oe w wr T t p) (k:Kp none' wr w'):Oe w w' T t p:=
 ⟨h.mem.old k,h.wf,h.eq,h.pb.kp k (fun x=>x),h.kp.trans k⟩
set_option maxRecDepth 100000 in
theorem Y4 (w:World) (tb:Nat) (T:Tr) (n:Int) (hT:ag w tb [T.ptr,.int .i64 n] 377) (hM:kJ w T) (hw:T.WF) (p:Px) (hp:nH p):
 Calls Tryz.prog 197 #[.pointer (some ⟨tb,0,none⟩),.agg #[.int .u32 p.1,.int .i64 p.2]] w fun e w'=>e=.returned (rE T p)∧Kp none' w w':=by
 have hk1:=(Kp.refl none' w).alloc (.cells #[.int .u32 p.1,.int .i64 p.2] 151);have hb1:ag (w.alloc (.cells #[.int .u32 p.1,.int .i64 p.2] 151)) w.heap.size [.int .u32 p.1,.int .i64 p.2] 151:=ag.new w [.int .u32 p.1,.int .i64 p.2] _;obtain⟨W1,hW1⟩:∃W,W=w.alloc (.cells #[.int .u32 p.1,.int .i64 p.2] 151):=⟨_,rfl⟩
 rw[←hW1]at hk1 hb1;have Vg:=(di.1 hp.1).1;have GR:=ae (fun W=>wP p.1 p.2 W hp.2 (by omega));have hr:cO p.1 p.2=true:=hp.1;rw[hr]at GR;have HF0:Hid (Oe w W1 T T p):=⟨hM.old hk1,hw,rfl,hb1,hk1⟩;have HT:=ae (hT.kp hk1 (fun x=>x));have c0:=HT.out.cell 0 rfl;have p0:=hb1.cell 0 rfl;have p1:=hb1.cell 1 rfl;obtain⟨tp,htp⟩:∃v,T.ptr=v:=⟨_,rfl⟩
 have HTP:=ae htp;rw[htp]at c0;obtain⟨R,hR⟩:∃R,rE T p=R:=⟨_,rfl⟩
 have HR:=ae hR;rw[hR];clear hT hM hw hk1 hb1 htp hR hr;subst hW1
 go_enter Tryz.func197,Tryz.ntmps197
 go_wp2_with(go_at_call 100;refine(GR.out _).mono ?_;rintro e w1 ⟨rfl,hk1⟩
             have HF:=ae (HF0.out.old hk1);have c0:=hk1.cell c0 (fun x=>x)
             clear hk1 p0 p1 HT)
 go_loopg [5] T.dE.length (fun k s5 wr=>∃(t:Tr) (tp:Value),tp=s5∧t.dE.length≤k∧Hid (t.ptr=tp∧Oe w wr T t p))
 case atStart=>exact⟨T,_,rfl,Nat.le_refl _,HTP.out,HF.out⟩
 case round=>
  clear HF c0;obtain⟨t,tp,rfl,hk,HI⟩:=hrel;cases t with
  |nil=>
   obtain⟨hp',hi⟩:=HI.out;obtain rfl:=hp';have HF:=ae hi;simp only[Tr.ptr];clear hi HI;have hnil:rE T p=.pointer none:=by rw[←HF.out.eq];rfl
   have HN:=ae hnil;clear hnil
   go_wp2_with fail
   go_region
   go_wp2_with fail
   go_ret
   exact⟨by rw[←HR.out,HN.out];rfl,HF.out.kp.drew⟩
  |node b kp u x l r=>
   obtain⟨hp',hi⟩:=HI.out;obtain rfl:=hp';have HF:=ae hi;obtain⟨hn,hml,hmr⟩:=hi.mem;have n0:=hn.cell 0 rfl;have n1:=hn.cell 1 rfl;have n4:=hn.cell 4 rfl;have n5:=hn.cell 5 rfl;have q0:=hi.pb.cell 0 rfl;have q1:=hi.pb.cell 1 rfl;have hok:=hi.wf.1;have aa1:=(di.1 hok.1).1;have NQ:=Ky kp p;simp only[Tr.ptr];have HN:=ae hn;have HL:=ae hml;have Y3:=ae hmr;clear hi HI hn hml hmr;by_cases hkp:kp=p
   ·have hd:decide (kp=p)=true:=decide_eq_true hkp;simp only[hd]at NQ;have hat:rE T p=.pointer (some ⟨b,0,none⟩):=by rw[←HF.out.eq];unfold rE Tr.at_;rw[if_pos hkp]
    have HA:=ae hat;clear hat hd hkp
    go_wp2_with fail
    go_region
    go_wp2_with fail
    go_ret
    exact⟨by rw[←HR.out,HA.out];rfl,HF.out.kp.drew⟩
   ·have hd:decide (kp=p)=false:=decide_eq_false hkp;simp only[hd]at NQ;have hq2:=hp.2;have hk2:=hok.2
    go_wp2_with fail
    go_region
    by_cases hb:p.2≤kp.2
    ·have hat:rE T p=.pointer none:=by rw[←HF.out.eq];unfold rE Tr.at_;rw[if_neg hkp,if_pos (.inl hb)]
     have HA:=ae hat;have hbi:decide ((kp.2:Int)≥(p.2:Int))=true:=by rw[decide_eq_true_eq];omega
     clear hat hd hkp hbi
     go_wp2_with fail
     go_region
     go_wp2_with fail
     go_ret
     exact⟨by rw[←HR.out,HA.out];rfl,HF.out.kp.drew.drew⟩
    ·have hbi:decide ((kp.2:Int)≥(p.2:Int))=false:=by rw[decide_eq_false_iff_not];omega
     have HC:=ae (fun W=>zF kp.1 p.1 kp.2 p.2 W hk2 hq2 (by omega) (by omega));have HHB:=ae hb;have Vu:=ae hkp;cases hc:dL kp p with
     |false=>
      have hat:rE T p=.pointer none:=by rw[←HF.out.eq];unfold rE Tr.at_;rw[if_neg hkp,if_pos (.inr hc)]
      have HA:=ae hat;rw[show qO kp.1 kp.2 p.1 p.2=false from hc]at HC;clear hat hd hkp hbi
      go_wp2_with fail
      refine af [] [0,1,2,3,4,5,6,7,8,9,10,11,12,13,14] 15 (by kernel_rfl) (by kernel_rfl) (fun c a d u w h=>by cases d<;>exact h) ?_;simp only[pick,bn];show aA _ _ _ _ _ _
      repeat((first
       |refine ah (by exact rfl) (by as_aux_lemma=>intro W hK;have e0:=hK.cell n0 (fun x=>x);have e1:=hK.cell n1 (fun x=>x);have e2:=hK.cell q0 (fun x=>x);have e3:=hK.cell q1 (fun x=>x);go_simp;exact rfl) ?_
       |refine ai (by exact rfl) ?_
       |refine au (by exact rfl) (by as_aux_lemma=>intro W;go_simp;exact⟨rfl,rfl⟩) (by intro W hK;with_reducible first|exact HC.out W) ?_);simp only[Act.put,aY])
      show ∀W,_→wpList _ _ _ _ _ _
      intro W5 hK5;have a_:=ae ((Kp.refl none' wr).drew.trans hK5);clear hK5
      go_wp2_with fail
      go_ret
      exact⟨by rw[←HR.out,HA.out];rfl,HF.out.kp.trans a_.out⟩
     |true=>
      rw[show qO kp.1 kp.2 p.1 p.2=true from hc]at HC;have yw:=ae hc;clear hd hkp hbi
      go_wp2_with fail
      refine af [] [0,1,2,3,4,5,6,7,8,9,10,11,12,13,14] 15 (by kernel_rfl) (by kernel_rfl) (fun c a d u w h=>by cases d<;>exact h) ?_;simp only[pick,bn];show aA _ _ _ _ _ _
      repeat((first
       |refine ah (by exact rfl) (by as_aux_lemma=>intro W hK;have e0:=hK.cell n0 (fun x=>x);have e1:=hK.cell n1 (fun x=>x);have e2:=hK.cell q0 (fun x=>x);have e3:=hK.cell q1 (fun x=>x);go_simp;exact rfl) ?_
       |refine ai (by exact rfl) ?_
       |refine au (by exact rfl) (by as_aux_lemma=>intro W;go_simp;exact⟨rfl,rfl⟩) (by intro W hK;with_reducible first|exact HC.out W) ?_);simp only[Act.put,aY])
      show ∀W,_→wpList _ _ _ _ _ _
      intro W5 hK5;replace hK5:=(Kp.refl none' wr).drew.trans hK5;have Vw:=ae (HF.out.old hK5);have Og:=ae (HN.out.kp hK5 (fun x=>x));have HL5:=ae (HL.out.old hK5);have FW:=ae (Y3.out.old hK5);clear hK5 n0 n1 n4 n5 q0 q1 HC;have n1:=Og.out.cell 1 rfl;have n4:=Og.out.cell 4 rfl;have n5:=Og.out.cell 5 rfl;have q0:=Vw.out.pb.cell 0 rfl;have GS:=ae (fun W (k:Kp none' W5 W)=>aT (rD W b kp ((Og.out.kp k (fun x=>x)).cell 1 rfl) (by have:=HHB.out;omega) p.1 hq2));rcases dD kp p.1 with hs|hs
      ·have hat:rE l p=rE T p:=by
        rw[←HF.out.eq]
        conv=>rhs;unfold rE Tr.at_
        rw[if_neg Vu.out,if_neg (by rw[yw.out];simpa using HHB.out),if_pos hs];rfl
       have HA:=ae hat;rw[hs]at GS;clear hat
       go_wp2_with fail
       refine af [] [0,1,2,3,4,5,6,7] 8 (by kernel_rfl) (by kernel_rfl) (fun c a d u w h=>by cases d<;>exact h) ?_;simp only[pick,bn];show aA _ _ _ _ _ _
       repeat((first
           |refine ah (by exact rfl) (by as_aux_lemma=>intro W hK;have e0:=hK.cell q0 (fun x=>x);have e1:=hK.cell n4 (fun x=>x);go_simp;exact rfl) ?_
           |refine ai (by exact rfl) ?_
           |refine au (by exact rfl) (by as_aux_lemma=>intro W;go_simp;exact⟨rfl,rfl⟩) (by intro W hK;with_reducible first|exact GS.out W hK) ?_);simp only[Act.put,aY])
       show ∀W,_→wpList _ _ _ _ _ _
       intro W6 hK6;have A8:Hid (Oe w W6 T l p):=⟨HL5.out.old hK6,HF.out.wf.2.2.2.1,HA.out,Vw.out.pb.kp hK6 (fun x=>x),Vw.out.kp.trans hK6⟩;have hlen:=hk;simp only[Tr.dE,List.length_cons,List.length_append]at hlen;have n4:=hK6.cell n4 (fun x=>x);clear hK6 n5 n1 q0 GS
       go_wp2_with fail
       go_roundg l.dE.length
       case measure=>omega
       case rel=>exact⟨l,_,rfl,Nat.le_refl _,rfl,A8.out⟩
      ·have hs0:¬bH kp p.1=0:=by omega
       have hat:rE r p=rE T p:=by
        rw[←HF.out.eq]
        conv=>rhs;unfold rE Tr.at_
        rw[if_neg Vu.out,if_neg (by rw[yw.out];simpa using HHB.out),if_neg hs0];rfl
       have HA:=ae hat;rw[hs]at GS;clear hat hs0
       go_wp2_with fail
       refine af [] [0,1,2,3,4,5,6,7] 8 (by kernel_rfl) (by kernel_rfl) (fun c a d u w h=>by cases d<;>exact h) ?_;simp only[pick,bn];show aA _ _ _ _ _ _
       repeat((first
           |refine ah (by exact rfl) (by as_aux_lemma=>intro W hK;have e0:=hK.cell q0 (fun x=>x);have e1:=hK.cell n5 (fun x=>x);go_simp;exact rfl) ?_
           |refine ai (by exact rfl) ?_
           |refine au (by exact rfl) (by as_aux_lemma=>intro W;go_simp;exact⟨rfl,rfl⟩) (by intro W hK;with_reducible first|exact GS.out W hK) ?_);simp only[Act.put,aY])
       show ∀W,_→wpList _ _ _ _ _ _
       intro W6 hK6;have A8:Hid (Oe w W6 T r p):=⟨FW.out.old hK6,HF.out.wf.2.2.2.2,HA.out,Vw.out.pb.kp hK6 (fun x=>x),Vw.out.kp.trans hK6⟩;have hlen:=hk;simp only[Tr.dE,List.length_cons,List.length_append]at hlen;have n5:=hK6.cell n5 (fun x=>x);clear hK6 n4 n1 q0 GS
       go_wp2_with fail
       go_roundg r.dE.length
       case measure=>omega
       case rel=>exact⟨r,_,rfl,Nat.le_refl _,rfl,A8.out⟩
end Go.Proofs.YtjiehhlghjnfhaaGreatDoor
