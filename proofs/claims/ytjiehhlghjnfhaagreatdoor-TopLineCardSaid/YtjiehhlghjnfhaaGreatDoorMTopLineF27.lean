/- A shaper's enqueue: a packet is refused (layer 26). Printed by wip/shn.py. -/
import Derived.Test.YtjiehhlghjnfhaaGreatDoorMTopLineF26
import Derived.Deep.RegionWith
import Derived.Deep.RegionHeld3
set_option linter.unusedVariables false
set_option linter.unusedSimpArgs false
set_option maxHeartbeats 8000000
namespace Go.Proofs.YtjiehhlghjnfhaaGreatDoor
open Go Go.RowKit Go.Shelf
set_option maxRecDepth 100000 in
theorem ada {w:World} {f:kQ} {s:Sh} (kind:Int) (fl id ln tk:Nat) (h:ShM w f s) (hm:dN s.g fl ln≠0) (hid:fl<4294967296) (wz:id<4294967296) (hln:ln<18446744073709551616):
 Calls Tryz.prog 107 #[.pointer (some ⟨f.sb,0,none⟩),.agg #[.int .i64 kind,.int .u32 fl,.int .u32 id,.int .u64 ln,.int .u64 tk]] w fun e w'=>e=.returned (.agg (dU s fl id ln).1.toArray)∧iD w f (dU s fl id ln).2 w':=by
 have jl:=ae (QX h.ok h.gate.ok h.ranks.ok hid wz hln);obtain⟨c,hc,hc32⟩:∃c:Nat,dN s.g fl ln=c∧c<32:=⟨(dN s.g fl ln).toNat,aaF s.g fl ln⟩
 have hq:dU s fl id ln=(mY 1 c fl id ln 0 oP,kV s c):=by unfold dU;rw[if_neg hm,hc];rfl
 rw[hq]at jl ⊢;clear hq;have oI:=ae h.ok;have xY:=h.ok.now;have tY:=ae h.back;have HG:=ae h.gate;have HR:=ae h.ranks;have HB0:=ae h.top;have hsl:=h.top.lt;have c0:=h.top.cell 0 rfl;have wB:=ae h.sg;have tZ:=ae h.sr;have qF:=ae h.sk;have AL:=ae h.gr;have rX:=ae h.gk;have xM:=ae h.rk;have sV:=ae (fun b hb=>h.gate.lt (b:=b) hb);have xN:=ae (fun b hb=>h.ranks.lt (b:=b) hb);have uJ:=ae (fun b hb=>h.back.lt (b:=b) hb);have DI:=ae (fun W (k:jc W f.Fg f.gb s.g)=>by have:=gIn k fl ln hid;rw[hc,show tH s.g fl ln=s.g by unfold tH;rw[if_neg hm]]at this;exact this);have hc0:(c:Int)≠0:=fun e=>hm (by rw[hc];exact e)
 have hx32:c<s.ref.length:=by rw[h.ok.len];exact hc32
 have hrl:s.ref.getD c 0<18446744073709551616:=by rw[List.getD_eq_getElem?_getD,List.getElem?_eq_getElem hx32];exact h.ok.ref _ (List.getElem_mem hx32)
 have hcc:(qE s f)[7+c]? =some (.int .u64 (s.ref.getD c 0)):=Rl s f hx32;have HRF:=ae (fun W (k:ag W f.sb (qE s f) 212)=>Ig k c (s.ref.getD c 0) hc32 hcc hrl);have EO:Hid ((qE s f).set (7+c) (.int .u64 (dS (s.ref.getD c 0) 1))=qE (kV s c) f):=ae (Nr s f c);have l_:=ae h.top;refine ay ?_;intro PP HP;clear h hm hid wz hln xY hc32 hx32 hrl hcc hc;obtain⟨sb,gb,rb,v,Fg,Fr,Fb⟩:=f;simp only at*;generalize hcs:qE s ⟨sb,gb,rb,v,Fg,Fr,Fb⟩=cs at*;have hz0:=ag.new (w.alloc (.cells #[.int .i64 kind,.int .u32 fl,.int .u32 id,.int .u64 ln,.int .u64 tk] 73)) afA 64;have e1:(w.alloc (.cells #[.int .i64 kind,.int .u32 fl,.int .u32 id,.int .u64 ln,.int .u64 tk] 73)).heap.size=w.heap.size+1:=by simp
 rw[e1]at hz0;have HZ0:=ae hz0;have hz1:=ag.new ((w.alloc (.cells #[.int .i64 kind,.int .u32 fl,.int .u32 id,.int .u64 ln,.int .u64 tk] 73)).alloc (.cells afz 64)) [.int .u32 fl,.int .u32 id,.int .u64 ln] 62;have hz2:=ag.new (((w.alloc (.cells #[.int .i64 kind,.int .u32 fl,.int .u32 id,.int .u64 ln,.int .u64 tk] 73)).alloc (.cells afz 64)).alloc (.cells #[.int .u32 fl,.int .u32 id,.int .u64 ln] 62)) afA 64;have hk0:=((((Kp.refl none' w).alloc (.cells #[.int .i64 kind,.int .u32 fl,.int .u32 id,.int .u64 ln,.int .u64 tk] 73)).alloc (.cells afz 64)).alloc (.cells #[.int .u32 fl,.int .u32 id,.int .u64 ln] 62)).alloc (.cells afz 64);have e2:((w.alloc (.cells #[.int .i64 kind,.int .u32 fl,.int .u32 id,.int .u64 ln,.int .u64 tk] 73)).alloc (.cells afz 64)).heap.size=w.heap.size+2:=by simp
 have e3:(((w.alloc (.cells #[.int .i64 kind,.int .u32 fl,.int .u32 id,.int .u64 ln,.int .u64 tk] 73)).alloc (.cells afz 64)).alloc (.cells #[.int .u32 fl,.int .u32 id,.int .u64 ln] 62)).heap.size=w.heap.size+3:=by simp
 rw[e2]at hz1;rw[e3]at hz2;have HZ1:=ae hz1;have HZ2:=ae hz2;have aB:=ae hk0;clear hz0 hz1 hz2 hk0 e1 e2 e3
 go_enter Tryz.func107,Tryz.ntmps107
 go_wp2_with(first
  |(refine aP rfl 64 (.tmp 6) (.tmp 16) rfl HZ2.out [.int .i64 1,.int .i64 0,.int .u32 fl,.int .u32 id,.int .u64 ln,.int .u64 0,.int .u64 0,.int .u64 0,.int .i64 0,.int .u64 0,.int .u64 0,.int .u64 0,.int .u64 0,.int .u64 0,.int .u64 0,.int .u64 0,.int .u64 0,.int .u64 0,.int .u64 0,.int .u64 0,.int .u64 0,.int .u64 0,.int .u64 0,.int .u64 0,.int .u64 0,.int .u64 0,.int .u64 0,.int .u64 0,.int .u64 0,.int .u64 0,.int .u64 0,.int .u64 0,.int .u64 0,.int .u64 0,.int .u64 0,.int .u64 0,.int .u64 0,.int .u64 0,.int .u64 0,.int .u64 0,.int .u64 0,.int .u64 0] rfl rfl rfl aZ rfl ?_
    intro W4 hb4 hk4;have HB4:=ae hb4;have aH:=ae hk4
    clear hb4 hk4))
 have PU:Kp none' w W4:=aB.out.then aH.out (fun b hb e=>by omega)
 have C_:=ae ((HZ1.out.alloc (.cells afz 64)).kp aH.out (fun e=>by omega));have rY:=ae (((HZ0.out.alloc (.cells #[.int .u32 fl,.int .u32 id,.int .u64 ln] 62)).alloc (.cells afz 64)).kp aH.out (fun e=>by omega));have BC:=ae PU;have d0:=PU.cell c0 (fun x=>x);have p0:=C_.out.cell 0 rfl;have p2:=C_.out.cell 2 rfl;clear HZ0 HZ1 HZ2 aB aH PU
 go_wp2_with fail
 refine af [] [0,1,2,3,4,5,6,7] 8 (by kernel_rfl) (by kernel_rfl) (fun c a d u w h=>by cases d<;>exact h) ?_;simp only[pick,bn];show aA _ _ _ _ _ _
 repeat((first
  |refine ah (by exact rfl) (by as_aux_lemma=>intro W hK;have e0:=hK.cell d0 (fun x=>x);have e1:=hK.cell p0 (fun x=>x);have e2:=hK.cell p2 (fun x=>x);go_simp;exact rfl) ?_
  |refine ai (by exact rfl) ?_);simp only[Act.put,aY])
 show ∀W,_→wpList _ _ _ _ _ _
 intro W5 hK5;have PW:=ae (BC.out.trans hK5);have JM:=ae (C_.out.kp hK5 (fun x=>x));have d_:=ae (HB4.out.kp hK5 (fun x=>x));have pM:=ae (HG.out.old PW.out);have Gm:=ae (rY.out.kp hK5 (fun x=>x));clear hK5 d0 p0 p2 C_ HB4 BC
 go_wp2_with fail
 refine(DI.out W5 pM.out).mono ?_;rintro e W6 ⟨rfl,X_,hk6⟩;have Gn:Kp Fg w W6:=(PW.out.mono (fun _ _ x=>x.elim)).trans hk6;have K06:=ae Gn;have hgl:=sV.out;have FZ:=ae X_;have bV:=ae (d_.out.kp hk6 (fun hb=>by have:=hgl _ hb;omega));have xO:=ae (Gm.out.kp hk6 (fun hb=>by have:=hgl _ hb;omega));have yJ:=ae (l_.out.kp Gn wB.out);clear X_ hk6 Gn hgl DI HG d_ JM PW pM
 go_wp2_with fail
 refine(HRF.out W6 yJ.out).mono ?_;rintro e W7 ⟨rfl,hb7,qj⟩;have hsz:=bV.out.lt;have xG:=ae hb7;have oH:=ae qj;have jw:=ae (bV.out.kp qj (fun e=>by omega));have UM:=ae (xO.out.kp qj (fun e=>by omega));have b1:=jw.out.cell 1 rfl;have bz:=jw.out.fz 1;have lQ:=ae (jw.out.set 1 (.int .i64 c));have ks:Kp (fun z=>z=w.heap.size+3) W7 (W7.setCell ⟨w.heap.size+3,1,none⟩ (.int .i64 c)):=(Kp.refl (fun z=>z=w.heap.size+3) W7).set (p:=⟨w.heap.size+3,1,none⟩) (.inl rfl) _;have HZ8:=ae (UM.out.kp ks (fun e=>by omega));have KS:=ae ks;clear hb7 qj ks HRF yJ bV xO
 go_wp2_with(first
  |(refine wpList_load_mid rfl 64 (.tmp 6) rfl (w.heap.size+3) 0 rfl ([.int .i64 1,.int .i64 0,.int .u32 fl,.int .u32 id,.int .u64 ln,.int .u64 0,.int .u64 0,.int .u64 0,.int .i64 0,.int .u64 0,.int .u64 0,.int .u64 0,.int .u64 0,.int .u64 0,.int .u64 0,.int .u64 0,.int .u64 0,.int .u64 0,.int .u64 0,.int .u64 0,.int .u64 0,.int .u64 0,.int .u64 0,.int .u64 0,.int .u64 0,.int .u64 0,.int .u64 0,.int .u64 0,.int .u64 0,.int .u64 0,.int .u64 0,.int .u64 0,.int .u64 0,.int .u64 0,.int .u64 0,.int .u64 0,.int .u64 0,.int .u64 0,.int .u64 0,.int .u64 0,.int .u64 0,.int .u64 0].set 1 (.int .i64 c)) _ (fun j v hv=>by rw[Nat.zero_add];exact lQ.out.cell j hv) Tryz.underlying64 rfl aZ ?_)
  |(refine aP rfl 64 (.tmp 4) (.tmp 32) rfl HZ8.out ([.int .i64 1,.int .i64 0,.int .u32 fl,.int .u32 id,.int .u64 ln,.int .u64 0,.int .u64 0,.int .u64 0,.int .i64 0,.int .u64 0,.int .u64 0,.int .u64 0,.int .u64 0,.int .u64 0,.int .u64 0,.int .u64 0,.int .u64 0,.int .u64 0,.int .u64 0,.int .u64 0,.int .u64 0,.int .u64 0,.int .u64 0,.int .u64 0,.int .u64 0,.int .u64 0,.int .u64 0,.int .u64 0,.int .u64 0,.int .u64 0,.int .u64 0,.int .u64 0,.int .u64 0,.int .u64 0,.int .u64 0,.int .u64 0,.int .u64 0,.int .u64 0,.int .u64 0,.int .u64 0,.int .u64 0,.int .u64 0].set 1 (.int .i64 c)) rfl rfl rfl aZ rfl ?_
    intro qG ig hk12;have iU:=ae ig;have jH:=ae hk12
    clear ig hk12))
 have hgl:=sV.out;have hrl:=xN.out;have hbl:=uJ.out;have k67:Kp (fun z=>z=sb∨w.heap.size≤z) W6 qG:=((oH.out.mono (fun z _ h=>.inl h)).trans (KS.out.mono (fun z _ h=>.inr (by omega)))).trans (jH.out.mono (fun z _ h=>.inr (by omega)));have UL:=((K06.out.mono (fun z _ h=>.inr h)):Kp (fun z=>z=sb∨Fg z) w W6).then k67 (fun i hi h=>.inl (h.resolve_right (by omega)))
 have ht7:=xG.out;rw[EO.out]at ht7;refine h_ (by exact rfl) iU.out _ Tryz.underlying64 rfl aZ (by exact rfl) (HP.out _ _ ⟨rfl,⟨sb,gb,rb,v,Fg,Fr,Fb⟩,?_,?_,Nw.refl _ _,rfl⟩)
 ·exact {top:=(ht7.kp KS.out (fun e=>by omega)).kp jH.out (fun e=>by omega)
         gate:=FZ.out.kp k67 (fun z hz h=>by rcases h with h|h;(subst h;exact wB.out hz);(have:=hgl z hz;omega))
         ranks:=HR.out.kp UL (fun z hz h=>by rcases h with h|h;(subst h;exact tZ.out hz);exact AL.out z h hz)
         back:=tY.out.kp UL (fun z hz h=>by rcases h with h|h;(subst h;exact qF.out hz);exact rX.out z h hz)
         sg:=wB.out
         sr:=tZ.out
         sk:=qF.out
         gr:=AL.out
         gk:=rX.out
         rk:=xM.out
         ok:=jl.out}
 ·exact UL.mono (fun z _ h=>by rcases h with h|h;exact .inl h;exact .inr (.inl h))
theorem uT {P:Program} {ops:Array Oper} {o:Oper} {a:Act} {w:World} {K:Act→World→Prop} {Q:Exit→Act→World→Prop} {E:Prop} {f:FuncId} {args:Array Value} {v:Value}
 (hgd:o.guard=none) (h1:(execOp a.eval o).run P w=.ok (.enter f args) w) (hc:Calls P f args w fun e w'=>e=.returned v∧Kp none' w w') (h:∀w',Kp none' w w'→K (a.put o.dst v) w'):
 if Region.wanted o (yielded ops a.tmps)=true then Oper.wp P o a w K Q else E:=by
 have hw:Region.wanted o (yielded ops a.tmps)=true:=by simp[Region.wanted,hgd]
 rw[if_pos hw];unfold Oper.wp;rw[h1];exact hc.mono fun e w' ⟨h2,h3⟩=>by subst h2;exact h w' h3
set_option maxRecDepth 100000 in
theorem UN {w:World} {f:kQ} {s:Sh} {r fl id ln:Nat} (h:ShM w f s) (iL:Bz w f.all) (hp:aX s.bk=(⟨r,⟨fl,id,ln⟩⟩,false)):
 Calls Tryz.prog 108 #[.pointer (some ⟨f.sb,0,none⟩)] w fun e w'=>e=.returned (.agg (dA s).1.toArray)∧iD w f (dA s).2 w':=by
 have hq:dA s=(mY 2 18 0 0 0 0 oP,s):=by unfold dA;rw[hp];rfl
 have jl:=ae (Jy h.ok h.gate.ok);rw[hq]at jl ⊢;clear hq;have oI:=ae h.ok;obtain⟨t5,x5,gu,ge,gp,hv,hbc⟩:=h.back.c;have tX:=ae hbc;have zf:=h.back;rw[hv]at zf;have HG:=ae h.gate;have HR:=ae h.ranks;have tY:=ae zf;have hsl:=h.top.lt;have c0:=h.top.cell 0 rfl;have c1:=h.top.cell 1 rfl;have c2:=h.top.cell 2 rfl;have c3:=h.top.cell 3 rfl;have c4:=h.top.cell 4 rfl;have c5:=h.top.cell 5 rfl;have l_:=ae h.top;have wB:=ae h.sg;have tZ:=ae h.sr;have qF:=ae h.sk;have AL:=ae h.gr;have rX:=ae h.gk;have xM:=ae h.rk;have sV:=ae (fun b hb=>h.gate.lt (b:=b) hb);have xN:=ae (fun b hb=>h.ranks.lt (b:=b) hb);have uJ:=ae (fun b hb=>h.back.lt (b:=b) hb);have htl:0<w.heap.size:=World.block_lt_of_cell? w _ (iL.tab 0 (by decide));have g_:=ae (fun W (F:Nat→Prop) (k:jT W F (.iface t5 x5) s.g.c.aI.toNat s.bk) (kk:Kp none' w W) (hF:∀z,F z→f.Fb z)=>by have:=tX.out.peek W F _ _ k ⟨iL.tab.kp kk (fun x=>x),fun e=>iL.ne (.inr (.inr (.inr (hF _ e))))⟩;rw[hp]at this;exact this);rw[hv]at c5;have HV:=ae hv;refine ay ?_;intro PP HP;clear h hbc hp zf hv iL htl;obtain⟨sb,gb,rb,v,Fg,Fr,Fb⟩:=f;simp only at*;have hz0:=ag.new w afA 64;have HZ0:=ae hz0;have hz1:=ag.new (w.alloc (.cells afz 64)) afA 64;have e1:(w.alloc (.cells afz 64)).heap.size=w.heap.size+1:=by simp
 rw[e1]at hz1;have HZ1:=ae hz1;have aB:=ae (((Kp.refl none' w).alloc (.cells afz 64)).alloc (.cells afz 64));clear hz0 hz1 e1
 go_enter Tryz.func108,Tryz.ntmps108
 go_wp2_with(first
  |(refine aP rfl 64 (.tmp 3) (.tmp 8) rfl HZ1.out afB rfl rfl rfl aZ rfl ?_
    intro W2 hb2 hk2;have HB2:=ae hb2;have ak:=ae hk2;clear hb2 hk2;have fP:Kp none' w W2:=aB.out.then ak.out (fun b hb e=>by omega)
    have HZ2:=ae ((HZ0.out.alloc (.cells afz 64)).kp ak.out (fun e=>by omega));have oU:=ae fP;have d5:=fP.cell c5 (fun x=>x);have AO:=tX.out.me W2;have hcf:=tX.out.ce;have DJ:=ae (tY.out.old fP);have hs2:=HB2.out.lt
    clear HZ0 HZ1 aB ak fP))
 refine(g_.out W2 Fb DJ.out oU.out (fun _ h=>h)).mono ?_;rintro e W3 ⟨rfl,F3,hp3,hk3,hn3⟩;have HF3:Hid (∀z,F3 z→Fb z∨w.heap.size+1<z):=ae (fun z hz=>(hn3 z hz).imp_right (fun h=>by omega));have hbl:=uJ.out;have HB3:=ae (HB2.out.kp hk3 (fun hb=>by have:=hbl _ hb;omega));have HZ3:=ae (HZ2.out.kp hk3 (fun hb=>by have:=hbl _ hb;omega));have wE:Kp Fb w W3:=(oU.out.mono (fun _ _ x=>x.elim)).trans hk3;have HT3:=ae (l_.out.kp wE qF.out);have Gv:=ae (HG.out.kp wE (fun z h1 h2=>rX.out z h1 h2));have HR3:=ae (HR.out.kp wE (fun z h1 h2=>xM.out z h1 h2));have zy:=ae hp3;have Ns:=ae wE;have hs3:=HB3.out.lt;have Nu:=hk3.size;clear hp3 hk3 hn3 AO hcf d5 hbl HB2 HZ2 oU DJ HG HR tY l_ hs2 c0 c1 c2 c3 c4 c5 wE
 go_upto_region 3 with fail
 have ka:Kp none' W3 (W3.alloc (.cells #[.int .u32 fl,.int .u32 id,.int .u64 ln] 62)):=(Kp.refl none' W3).alloc _;have hpk:ag (W3.alloc (.cells #[.int .u32 fl,.int .u32 id,.int .u64 ln] 62)) W3.heap.size [.int .u32 fl,.int .u32 id,.int .u64 ln] 62:=ag.new W3 _ _;obtain⟨W4,nZ⟩:∃W4,W3.alloc (.cells #[.int .u32 fl,.int .u32 id,.int .u64 ln] 62)=W4:=⟨_,rfl⟩
 rw[nZ]at ka hpk ⊢;have qW:=ae hpk;have HB4:=ae (HB3.out.kp ka (fun x=>x));have rY:=ae (HZ3.out.kp ka (fun x=>x));have HT4:=ae (HT3.out.kp ka (fun x=>x));have CP:=ae (Gv.out.old ka);have HR4:=ae (HR3.out.old ka);have xB:=ae (zy.out.old ka);have BC:=ae (Ns.out.trans (ka.mono (fun _ _ x=>x.elim)));have hs4:=qW.out.lt;have FK:Hid (∀z,F3 z→z<W3.heap.size):=ae (fun z hz=>zy.out.lt hz);obtain⟨pb,hpb⟩:∃pb,W3.heap.size=pb:=⟨_,rfl⟩
 rw[hpb]at qW FK hs3 Nu hs4 ⊢;clear nZ ka hpk HB3 HZ3 HT3 Gv HR3 zy Ns hpb;have b1:=HB4.out.cell 1 rfl;have bz:=HB4.out.fz 1;have d_:=ae (HB4.out.set 1 (.int .i64 18));have ks:Kp (fun z=>z=w.heap.size+1) W4 (W4.setCell ⟨w.heap.size+1,1,none⟩ (.int .i64 18)):=(Kp.refl (fun z=>z=w.heap.size+1) W4).set (p:=⟨w.heap.size+1,1,none⟩) (.inl rfl) _;have Gm:=ae (rY.out.kp ks (fun e=>by omega));have KS:=ae ks;clear ks
 go_wp2_with(first
  |(refine wpList_load_mid rfl 64 (.tmp 3) rfl (w.heap.size+1) 0 rfl (afB.set 1 (.int .i64 18)) _ (fun j v hv=>by rw[Nat.zero_add];exact d_.out.cell j hv) Tryz.underlying64 rfl aZ ?_)
  |(refine aP rfl 64 (.tmp 2) (.tmp 21) rfl Gm.out (afB.set 1 (.int .i64 18)) rfl rfl rfl aZ rfl ?_
    intro qG ig hk12;have iU:=ae ig;have jH:=ae hk12
    clear ig hk12))
 have wF:Kp (fun z=>w.heap.size≤z∧z≤w.heap.size+1) W4 qG:=(KS.out.mono (fun z _ e=>by omega)).trans (jH.out.mono (fun z _ e=>by omega));have qB:∀z,F3 z→Fb z∨w.heap.size≤z:=fun z hz=>(HF3.out z hz).imp_right (fun h=>by omega)
 have hgl:=sV.out;have hrl:=xN.out;have hbl:=uJ.out;have hf3:=HF3.out;refine h_ (by exact rfl) iU.out _ Tryz.underlying64 rfl aZ (by exact rfl) (HP.out _ _ ⟨rfl,⟨sb,gb,rb,v,Fg,Fr,F3⟩,?_,?_,?_,rfl⟩)
 ·exact {top:=HT4.out.kp wF (fun h=>by omega)
         gate:=CP.out.kp wF (fun z hz h=>by have:=hgl z hz;omega)
         ranks:=HR4.out.kp wF (fun z hz h=>by have:=hrl z hz;omega)
         back:=by
          show jT qG F3 v s.g.c.aI.toNat _;rw[HV.out];exact xB.out.kp wF (fun z hz h=>by rcases hf3 z hz with h'|h';(have:=hbl z h';omega);omega)
         sg:=wB.out
         sr:=tZ.out
         sk:=fun h=>by rcases qB _ h with h|h;exact qF.out h;(simp only at h;omega)
         gr:=AL.out
         gk:=fun z h1 h2=>by rcases qB z h2 with h|h;exact rX.out z h1 h;(have:=hgl z h1;omega)
         rk:=fun z h1 h2=>by rcases qB z h2 with h|h;exact xM.out z h1 h;(have:=hrl z h1;omega)
         ok:=jl.out}
 ·exact(BC.out.then wF (fun z hz h=>by omega)).mono (fun z _ h=>.inr (.inr (.inr h)))
 ·intro z hz;rcases hz with h|h|h|h
  ·exact .inl (.inl h)
  ·exact .inl (.inr (.inl h))
  ·exact .inl (.inr (.inr (.inl h)))
  ·rcases qB z h with h|h
   ·exact .inl (.inr (.inr (.inr h)))
   ·exact .inr (by omega)
set_option maxRecDepth 100000 in
theorem UO {w:World} {f:kQ} {s:Sh} {r fl id ln:Nat} (h:ShM w f s) (iL:Bz w f.all) (hp:aX s.bk=(⟨r,⟨fl,id,ln⟩⟩,true)) (hlt:s.tok<ln):
 Calls Tryz.prog 108 #[.pointer (some ⟨f.sb,0,none⟩)] w fun e w'=>e=.returned (.agg (dA s).1.toArray)∧iD w f (dA s).2 w':=by
 have hq:dA s=(mY 2 19 0 0 0 0 oP,s):=by unfold dA;rw[hp,if_neg (fun e=>Bool.noConfusion e),if_pos hlt]
 have jl:=ae (Jy h.ok h.gate.ok);rw[hq]at jl ⊢;clear hq;have oI:=ae h.ok;obtain⟨t5,x5,gu,ge,gp,hv,hbc⟩:=h.back.c;have tX:=ae hbc;have zf:=h.back;rw[hv]at zf;have HG:=ae h.gate;have HR:=ae h.ranks;have tY:=ae zf;have hsl:=h.top.lt;have c0:=h.top.cell 0 rfl;have c1:=h.top.cell 1 rfl;have c2:=h.top.cell 2 rfl;have c3:=h.top.cell 3 rfl;have c4:=h.top.cell 4 rfl;have c5:=h.top.cell 5 rfl;have l_:=ae h.top;have wB:=ae h.sg;have tZ:=ae h.sr;have qF:=ae h.sk;have AL:=ae h.gr;have rX:=ae h.gk;have xM:=ae h.rk;have sV:=ae (fun b hb=>h.gate.lt (b:=b) hb);have xN:=ae (fun b hb=>h.ranks.lt (b:=b) hb);have uJ:=ae (fun b hb=>h.back.lt (b:=b) hb);have htl:0<w.heap.size:=World.block_lt_of_cell? w _ (iL.tab 0 (by decide));have g_:=ae (fun W (F:Nat→Prop) (k:jT W F (.iface t5 x5) s.g.c.aI.toNat s.bk) (kk:Kp none' w W) (hF:∀z,F z→f.Fb z)=>by have:=tX.out.peek W F _ _ k ⟨iL.tab.kp kk (fun x=>x),fun e=>iL.ne (.inr (.inr (.inr (hF _ e))))⟩;rw[hp]at this;exact this);rw[hv]at c5;have HV:=ae hv;obtain⟨rate,hrt⟩:∃x,s.rate=x:=⟨_,rfl⟩
 obtain⟨aQ,hbu⟩:∃x,s.aQ=x:=⟨_,rfl⟩
 obtain⟨tok,htk⟩:∃x,s.tok=x:=⟨_,rfl⟩
 have oG:Hid (∀W,Calls Tryz.prog 167 #[.agg #[.int .u64 rate,.int .u64 aQ,.int .u64 tok],.int .u64 ln] W fun e w'=>e=.returned (.tuple #[.agg #[.int .u64 rate,.int .u64 aQ,.int .u64 tok],.bool false])∧Kp none' W w'):=ae (fun W=>VX rate aQ tok ln (by rw[←hrt];exact h.ok.rate.1) (by rw[←hbu];exact h.ok.aQ.1) (by rw[←htk,←hbu];exact h.ok.tok) (by rw[←htk];exact hlt) W);unfold qE at l_;rw[hrt,hbu,htk]at l_;refine ay ?_;intro PP HP;have Yg:Hid (∀f:kQ,qE s f=[.pointer (some ⟨f.gb,0,none⟩),.pointer (some ⟨f.rb,0,none⟩),.int .u64 rate,.int .u64 aQ,.int .u64 tok,f.v,.int .u64 s.now]++s.ref.map lG):=ae (fun f=>by unfold qE;rw[hrt,hbu,htk]);clear h hbc hp zf hv iL htl hrt hbu htk hlt;obtain⟨sb,gb,rb,v,Fg,Fr,Fb⟩:=f;simp only at*;have hz0:=ag.new w afA 64;have HZ0:=ae hz0;have hz1:=ag.new (w.alloc (.cells afz 64)) afA 64;have e1:(w.alloc (.cells afz 64)).heap.size=w.heap.size+1:=by simp
 rw[e1]at hz1;have HZ1:=ae hz1;have aB:=ae (((Kp.refl none' w).alloc (.cells afz 64)).alloc (.cells afz 64));clear hz0 hz1 e1
 go_enter Tryz.func108,Tryz.ntmps108
 go_wp2_with(first
  |(refine aP rfl 64 (.tmp 3) (.tmp 8) rfl HZ1.out afB rfl rfl rfl aZ rfl ?_
    intro W2 hb2 hk2;have HB2:=ae hb2;have ak:=ae hk2;clear hb2 hk2;have fP:Kp none' w W2:=aB.out.then ak.out (fun b hb e=>by omega)
    have HZ2:=ae ((HZ0.out.alloc (.cells afz 64)).kp ak.out (fun e=>by omega));have oU:=ae fP;have d5:=fP.cell c5 (fun x=>x);have AO:=tX.out.me W2;have hcf:=tX.out.ce;have DJ:=ae (tY.out.old fP);have hs2:=HB2.out.lt
    clear HZ0 HZ1 aB ak fP))
 refine(g_.out W2 Fb DJ.out oU.out (fun _ h=>h)).mono ?_;rintro e W3 ⟨rfl,F3,hp3,hk3,hn3⟩;have HF3:Hid (∀z,F3 z→Fb z∨w.heap.size+1<z):=ae (fun z hz=>(hn3 z hz).imp_right (fun h=>by omega));have hbl:=uJ.out;have HB3:=ae (HB2.out.kp hk3 (fun hb=>by have:=hbl _ hb;omega));have HZ3:=ae (HZ2.out.kp hk3 (fun hb=>by have:=hbl _ hb;omega));have wE:Kp Fb w W3:=(oU.out.mono (fun _ _ x=>x.elim)).trans hk3;have HT3:=ae (l_.out.kp wE qF.out);have Gv:=ae (HG.out.kp wE (fun z h1 h2=>rX.out z h1 h2));have HR3:=ae (HR.out.kp wE (fun z h1 h2=>xM.out z h1 h2));have zy:=ae hp3;have Ns:=ae wE;have hs3:=HB3.out.lt;have Nu:=hk3.size;clear hp3 hk3 hn3 AO hcf d5 hbl HB2 HZ2 oU DJ HG HR tY l_ hs2 c0 c1 c2 c3 c4 c5 wE
 go_upto_region 3 with fail
 have ka:Kp none' W3 (W3.alloc (.cells #[.int .u32 fl,.int .u32 id,.int .u64 ln] 62)):=(Kp.refl none' W3).alloc _;have hpk:ag (W3.alloc (.cells #[.int .u32 fl,.int .u32 id,.int .u64 ln] 62)) W3.heap.size [.int .u32 fl,.int .u32 id,.int .u64 ln] 62:=ag.new W3 _ _;obtain⟨W4,nZ⟩:∃W4,W3.alloc (.cells #[.int .u32 fl,.int .u32 id,.int .u64 ln] 62)=W4:=⟨_,rfl⟩
 rw[nZ]at ka hpk ⊢;have qW:=ae hpk;have HB4:=ae (HB3.out.kp ka (fun x=>x));have rY:=ae (HZ3.out.kp ka (fun x=>x));have HT4:=ae (HT3.out.kp ka (fun x=>x));have CP:=ae (Gv.out.old ka);have HR4:=ae (HR3.out.old ka);have xB:=ae (zy.out.old ka);have BC:=ae (Ns.out.trans (ka.mono (fun _ _ x=>x.elim)));have hs4:=qW.out.lt;have FK:Hid (∀z,F3 z→z<W3.heap.size):=ae (fun z hz=>zy.out.lt hz);obtain⟨pb,hpb⟩:∃pb,W3.heap.size=pb:=⟨_,rfl⟩
 rw[hpb]at qW FK hs3 Nu hs4 ⊢;clear nZ ka hpk HB3 HZ3 HT3 Gv HR3 zy Ns hpb;have d2:=HT4.out.cell 2 rfl;have d3:=HT4.out.cell 3 rfl;have d4:=HT4.out.cell 4 rfl;have p2:=qW.out.cell 2 rfl;have HD2:=ae d2;have HD3:=ae d3;have HD4:=ae d4;have HP2:=ae p2
 go_wp2_with fail
 have aeU:=HT4.out.lt
 go_cut [6,7]from 22 (fun s6 s7 wc=>∃qb,Hid (W4.heap.size≤qb)∧s6=.bool false∧s7=.pointer (some ⟨qb,0,none⟩)∧Hid (ag wc qb [.int .u64 rate,.int .u64 aQ,.int .u64 tok] 210)∧Hid (Kp none' W4 wc))
 case first=>
  go_region_law (first
   |(refine uT (w:=(W4.drew.alloc (.cells #[.int .u64 0,.int .u64 0,.int .u64 0] 210))) rfl (by go_simp) (oG.out _) ?_;intro w6 hk6;have hB:ag w6 W4.heap.size [.int .u64 0,.int .u64 0,.int .u64 0] 210:=(ag.new W4.drew [.int .u64 0,.int .u64 0,.int .u64 0] 210).kp hk6 (fun x=>x);have n0:=hB.cell 0 rfl;have n1:=hB.cell 1 rfl;have n2:=hB.cell 2 rfl;have nz:=fun j=>hB.fz j)
   |(refine uT (w:=W4.drew) rfl (by go_simp) (oG.out _) ?_;intro w6 hk6))
  all_goals
   go_wp2_with fail
   go_meet
   case rel=>
    first
     |exact⟨w6.heap.size,ae hk6.size,rfl,rfl,ae (ag.new w6 _ _),ae (((Kp.refl none' W4).drew.trans hk6).alloc _)⟩
     |exact⟨W4.heap.size,ae (Nat.le_refl _),rfl,rfl,ae (((hB.set 0 _).set 1 _).set 2 _),ae (((((((Kp.refl none' W4).drew.alloc _).trans hk6)).set (.inr (Nat.le_refl _)) _).set (.inr (Nat.le_refl _)) _).set (.inr (Nat.le_refl _)) _)⟩
 case rest=>
 obtain⟨qb,UD,rfl,rfl,hb7,Nv⟩:=hcut;have rZ:=Nv.out;have hz7:=UD.out;obtain⟨W7,Yh⟩:∃W7,wc=W7:=⟨_,rfl⟩
 rw[Yh]at hb7 rZ ⊢;have UQ:=hb7;have Yi:=ae (qW.out.kp rZ (fun x=>x));have jw:=ae (HB4.out.kp rZ (fun x=>x));have UM:=ae (rY.out.kp rZ (fun x=>x));have xG:=ae (HT4.out.kp rZ (fun x=>x));have xE:=ae (CP.out.old rZ);have yP:=ae (HR4.out.old rZ);have HH7:=ae (xB.out.old rZ);have K07:=ae (BC.out.trans (rZ.mono (fun _ _ x=>x.elim)));clear Yh Nv UD hb7 rZ d2 d3 d4 p2 HD2 HD3 HD4 HP2 qW HB4 rY HT4 CP HR4 xB BC oG;have b1:=jw.out.cell 1 rfl;have bz:=jw.out.fz 1;have d_:=ae (jw.out.set 1 (.int .i64 19));have ks:Kp (fun z=>z=w.heap.size+1) W7 (W7.setCell ⟨w.heap.size+1,1,none⟩ (.int .i64 19)):=(Kp.refl (fun z=>z=w.heap.size+1) W7).set (p:=⟨w.heap.size+1,1,none⟩) (.inl rfl) _;have Gm:=ae (UM.out.kp ks (fun e=>by omega));have KS:=ae ks;clear ks
 go_wp2_with(first
  |(refine wpList_load_mid rfl 64 (.tmp 3) rfl (w.heap.size+1) 0 rfl (afB.set 1 (.int .i64 19)) _ (fun j v hv=>by rw[Nat.zero_add];exact d_.out.cell j hv) Tryz.underlying64 rfl aZ ?_)
  |(refine aP rfl 64 (.tmp 2) (.tmp 35) rfl Gm.out (afB.set 1 (.int .i64 19)) rfl rfl rfl aZ rfl ?_
    intro qG ig hk12;have iU:=ae ig;have jH:=ae hk12
    clear ig hk12))
 have wF:Kp (fun z=>w.heap.size≤z∧z≤w.heap.size+1) W7 qG:=(KS.out.mono (fun z _ e=>by omega)).trans (jH.out.mono (fun z _ e=>by omega));have qB:∀z,F3 z→Fb z∨w.heap.size≤z:=fun z hz=>(HF3.out z hz).imp_right (fun h=>by omega)
 have hgl:=sV.out;have hrl:=xN.out;have hbl:=uJ.out;have hf3:=HF3.out;refine h_ (by exact rfl) iU.out _ Tryz.underlying64 rfl aZ (by exact rfl) (HP.out _ _ ⟨rfl,⟨sb,gb,rb,v,Fg,Fr,F3⟩,?_,?_,?_,rfl⟩)
 ·exact {top:=by rw[Yg.out];exact xG.out.kp wF (fun h=>by omega)
         gate:=xE.out.kp wF (fun z hz h=>by have:=hgl z hz;omega)
         ranks:=yP.out.kp wF (fun z hz h=>by have:=hrl z hz;omega)
         back:=by
          show jT qG F3 v s.g.c.aI.toNat _;rw[HV.out];exact HH7.out.kp wF (fun z hz h=>by rcases hf3 z hz with h'|h';(have:=hbl z h';omega);omega)
         sg:=wB.out
         sr:=tZ.out
         sk:=fun h=>by rcases qB _ h with h|h;exact qF.out h;(simp only at h;omega)
         gr:=AL.out
         gk:=fun z h1 h2=>by rcases qB z h2 with h|h;exact rX.out z h1 h;(have:=hgl z h1;omega)
         rk:=fun z h1 h2=>by rcases qB z h2 with h|h;exact xM.out z h1 h;(have:=hrl z h1;omega)
         ok:=jl.out}
 ·exact(K07.out.then wF (fun z hz h=>by omega)).mono (fun z _ h=>.inr (.inr (.inr h)))
 ·intro z hz;rcases hz with h|h|h|h
  ·exact .inl (.inl h)
  ·exact .inl (.inr (.inl h))
  ·exact .inl (.inr (.inr (.inl h)))
  ·rcases qB z h with h|h
   ·exact .inl (.inr (.inr (.inr h)))
   ·exact .inr (by omega)
end Go.Proofs.YtjiehhlghjnfhaaGreatDoor
