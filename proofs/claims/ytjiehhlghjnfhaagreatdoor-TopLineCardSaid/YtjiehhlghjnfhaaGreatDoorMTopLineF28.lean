/- A shaper's dequeue (layer 26). Printed by wip/shd.py. -/
import Derived.Test.YtjiehhlghjnfhaaGreatDoorMTopLineF27
import Derived.Deep.RegionWith
import Derived.Deep.RegionHeld3
set_option linter.unusedVariables false
set_option linter.unusedSimpArgs false
set_option maxHeartbeats 8000000
namespace Go.Proofs.YtjiehhlghjnfhaaGreatDoor
open Go Go.RowKit Go.Shelf
set_option maxRecDepth 100000 in
theorem aaI {w:World} {f:kQ} {s:Sh} {r fl id ln:Nat} (h:ShM w f s) (iL:Bz w f.all) (hp:aX s.bk=(⟨r,⟨fl,id,ln⟩⟩,true)) (hge:¬s.tok<ln):
 Calls Tryz.prog 108 #[.pointer (some ⟨f.sb,0,none⟩)] w fun e w'=>e=.returned (.agg (dA s).1.toArray)∧iD w f (dA s).2 w':=by
 have hq:dA s=(mY 2 0 fl id ln r oP,{s with tok:=s.tok-ln,bk:=jW s.bk,g:=l9 s.g fl ln,r:=mX s.r r}):=by unfold dA;rw[hp,if_neg (fun e=>Bool.noConfusion e),if_neg hge]
 obtain⟨hrr,qB,hii,hll⟩:r<18446744073709551616∧fl<4294967296∧id<4294967296∧ln<18446744073709551616:=by
  have h1:=h.ok.its;have h2:aW s.bk≠ []:=fun e=>by unfold aX at hp;rw[e]at hp;cases hp
  obtain⟨i0,l0,hl0⟩:=List.exists_cons_of_ne_nil h2;have h3:=h1 i0 (by rw[hl0];exact List.mem_cons_self);unfold aX at hp;rw[hl0]at hp;injection hp with hp _
  rw[hp]at h3;exact h3
 have jl:=ae (Jy h.ok h.gate.ok);rw[hq]at jl ⊢;clear hq;have oI:=ae h.ok;obtain⟨t5,x5,gu,ge,gp,hv,hbc⟩:=h.back.c;have tX:=ae hbc;have zf:=h.back;rw[hv]at zf;have HG:=ae h.gate;have HR:=ae h.ranks;have tY:=ae zf;have hsl:=h.top.lt;have c0:=h.top.cell 0 rfl;have c1:=h.top.cell 1 rfl;have c2:=h.top.cell 2 rfl;have c3:=h.top.cell 3 rfl;have c4:=h.top.cell 4 rfl;have c5:=h.top.cell 5 rfl;have l_:=ae h.top;have wB:=ae h.sg;have tZ:=ae h.sr;have qF:=ae h.sk;have AL:=ae h.gr;have rX:=ae h.gk;have xM:=ae h.rk;have sV:=ae (fun b hb=>h.gate.lt (b:=b) hb);have xN:=ae (fun b hb=>h.ranks.lt (b:=b) hb);have uJ:=ae (fun b hb=>h.back.lt (b:=b) hb);have htl:0<w.heap.size:=World.block_lt_of_cell? w _ (iL.tab 0 (by decide));have g_:=ae (fun W (F:Nat→Prop) (k:jT W F (.iface t5 x5) s.g.c.aI.toNat s.bk) (kk:Kp none' w W) (hF:∀z,F z→f.Fb z)=>by have:=tX.out.peek W F _ _ k ⟨iL.tab.kp kk (fun x=>x),fun e=>iL.ne (.inr (.inr (.inr (hF _ e))))⟩;rw[hp]at this;exact this);rw[hv]at c5;have HV:=ae hv;obtain⟨rate,hrt⟩:∃x,s.rate=x:=⟨_,rfl⟩
 obtain⟨aQ,hbu⟩:∃x,s.aQ=x:=⟨_,rfl⟩
 obtain⟨tok,htk⟩:∃x,s.tok=x:=⟨_,rfl⟩
 obtain⟨JO,He⟩:∃x,s.tok-ln=x:=⟨_,rfl⟩
 have oG:Hid (∀W,Calls Tryz.prog 167 #[.agg #[.int .u64 rate,.int .u64 aQ,.int .u64 tok],.int .u64 ln] W fun e w'=>e=.returned (.tuple #[.agg #[.int .u64 rate,.int .u64 aQ,.int .u64 JO],.bool true])∧Kp none' W w'):=ae (fun W=>by
  have:=VY rate aQ tok ln (by rw[←hrt];exact h.ok.rate.1) (by rw[←hbu];exact h.ok.aQ.1) (by rw[←htk,←hbu];exact h.ok.tok) (by rw[←htk];omega) (by rw[←htk];have:=h.ok.tok;have:=h.ok.aQ.2;omega) W;rw[←htk,He]at this
  rw[←htk];exact this)
 have Jn:=ae (fun W (F:Nat→Prop) (k:jT W F (.iface t5 x5) s.g.c.aI.toNat s.bk) (kk:Kp (fun z=>z=f.sb∨f.Fb z) w W) (hF:∀z,F z→f.Fb z∨w.heap.size≤z)=>tX.out.pop W F _ _ k ⟨iL.tab.kp kk (fun e=>iL.ne (e.elim .inl (fun h=>.inr (.inr (.inr h))))),fun e=>by rcases hF _ e with h|h;exact iL.ne (.inr (.inr (.inr h)));omega⟩ (by rw[hp]));have HOU:=ae (fun W (k:jc W f.Fg f.gb s.g)=>aei k fl ln qB);have tN:=ae (fun W (k:lH W f.Fr f.rb s.r)=>acU k r hrr);have HWP:=ae (XT s.g fl ln);unfold qE at l_;rw[hrt,hbu,htk]at l_;refine ay ?_;intro PP HP;have Yg:Hid (∀(f:kQ) (s2:Sh),s2.rate=s.rate→s2.aQ=s.aQ→s2.tok=JO→s2.now=s.now→s2.ref=s.ref→qE s2 f=[.pointer (some ⟨f.gb,0,none⟩),.pointer (some ⟨f.rb,0,none⟩),.int .u64 rate,.int .u64 aQ,.int .u64 JO,f.v,.int .u64 s.now]++s.ref.map lG):=ae (fun f s2 h1 h2 h3 h4 h5=>by unfold qE;rw[h1,h2,h3,h4,h5,hrt,hbu]);clear h hbc hp zf hv iL htl hrt hbu htk hge hrr qB hii hll;obtain⟨sb,gb,rb,v,Fg,Fr,Fb⟩:=f;simp only at*;rw[He]at jl HP;have hz0:=ag.new w afA 64;have HZ0:=ae hz0;have hz1:=ag.new (w.alloc (.cells afz 64)) afA 64;have e1:(w.alloc (.cells afz 64)).heap.size=w.heap.size+1:=by simp
 rw[e1]at hz1;have HZ1:=ae hz1;have aB:=ae (((Kp.refl none' w).alloc (.cells afz 64)).alloc (.cells afz 64));clear hz0 hz1 e1
 go_enter Tryz.func108,Tryz.ntmps108
 go_wp2_with(first
  |(refine aP rfl 64 (.tmp 3) (.tmp 8) rfl HZ1.out afB rfl rfl rfl aZ rfl ?_
    intro W2 hb2 hk2;have HB2:=ae hb2;have ak:=ae hk2;clear hb2 hk2;have fP:Kp none' w W2:=aB.out.then ak.out (fun b hb e=>by omega)
    have HZ2:=ae ((HZ0.out.alloc (.cells afz 64)).kp ak.out (fun e=>by omega));have oU:=ae fP;have d5:=fP.cell c5 (fun x=>x);have AO:=tX.out.me W2;have hcf:=tX.out.ce;have DJ:=ae (tY.out.old fP);have hs2:=HB2.out.lt
    clear HZ0 HZ1 aB ak fP))
 refine(g_.out W2 Fb DJ.out oU.out (fun _ h=>h)).mono ?_;rintro e W3 ⟨rfl,F3,hp3,hk3,hn3⟩;have HF3:Hid (∀z,F3 z→Fb z∨w.heap.size+1<z):=ae (fun z hz=>(hn3 z hz).imp_right (fun h=>by omega));have hbl:=uJ.out;have HB3:=ae (HB2.out.kp hk3 (fun hb=>by have:=hbl _ hb;omega));have HZ3:=ae (HZ2.out.kp hk3 (fun hb=>by have:=hbl _ hb;omega));have wE:Kp Fb w W3:=(oU.out.mono (fun _ _ x=>x.elim)).trans hk3;have HT3:=ae (l_.out.kp wE qF.out);have Gv:=ae (HG.out.kp wE (fun z h1 h2=>rX.out z h1 h2));have HR3:=ae (HR.out.kp wE (fun z h1 h2=>xM.out z h1 h2));have zy:=ae hp3;have Ns:=ae wE;have hs3:=HB3.out.lt;have Nu:=hk3.size;clear hp3 hk3 hn3 AO hcf d5 hbl HB2 HZ2 oU DJ HG HR tY l_ hs2 c0 c1 c2 c3 c4 c5 wE
 go_upto_region 3 with fail
 have ka:Kp none' W3 (W3.alloc (.cells #[.int .u32 fl,.int .u32 id,.int .u64 ln] 62)):=(Kp.refl none' W3).alloc _;have hpk:ag (W3.alloc (.cells #[.int .u32 fl,.int .u32 id,.int .u64 ln] 62)) W3.heap.size [.int .u32 fl,.int .u32 id,.int .u64 ln] 62:=ag.new W3 _ _;obtain⟨W4,nZ⟩:∃W4,W3.alloc (.cells #[.int .u32 fl,.int .u32 id,.int .u64 ln] 62)=W4:=⟨_,rfl⟩
 rw[nZ]at ka hpk ⊢;have qW:=ae hpk;have HB4:=ae (HB3.out.kp ka (fun x=>x));have rY:=ae (HZ3.out.kp ka (fun x=>x));have HT4:=ae (HT3.out.kp ka (fun x=>x));have CP:=ae (Gv.out.old ka);have HR4:=ae (HR3.out.old ka);have xB:=ae (zy.out.old ka);have BC:=ae (Ns.out.trans (ka.mono (fun _ _ x=>x.elim)));have hs4:=qW.out.lt;have FK:Hid (∀z,F3 z→z<W3.heap.size):=ae (fun z hz=>zy.out.lt hz);obtain⟨pb,hpb⟩:∃pb,W3.heap.size=pb:=⟨_,rfl⟩
 rw[hpb]at qW FK hs3 Nu hs4 ⊢;clear nZ ka hpk HB3 HZ3 HT3 Gv HR3 zy Ns hpb;have d2:=HT4.out.cell 2 rfl;have d3:=HT4.out.cell 3 rfl;have d4:=HT4.out.cell 4 rfl;have p2:=qW.out.cell 2 rfl;have HD2:=ae d2;have HD3:=ae d3;have HD4:=ae d4;have HP2:=ae p2
 go_wp2_with fail
 have aeU:=HT4.out.lt
 go_cut [6,7]from 22 (fun s6 s7 wc=>∃qb,Hid (W4.heap.size≤qb)∧s6=.bool true∧s7=.pointer (some ⟨qb,0,none⟩)∧Hid (ag wc qb [.int .u64 rate,.int .u64 aQ,.int .u64 JO] 210)∧Hid (Kp none' W4 wc))
 case first=>
  go_region_law (first
   |(refine uT (w:=(W4.drew.alloc (.cells #[.int .u64 0,.int .u64 0,.int .u64 0] 210))) rfl (by go_simp) (oG.out _) ?_;intro w6 hk6;have hB:ag w6 W4.heap.size [.int .u64 0,.int .u64 0,.int .u64 0] 210:=(ag.new W4.drew [.int .u64 0,.int .u64 0,.int .u64 0] 210).kp hk6 (fun x=>x);have n0:=hB.cell 0 rfl;have n1:=hB.cell 1 rfl;have n2:=hB.cell 2 rfl;have nz:=fun j=>hB.fz j)
   |(refine uT (w:=W4.drew) rfl (by go_simp) (oG.out _) ?_;intro w6 hk6))
  all_goals
   go_wp2_with fail
   go_meet
   case rel=>
    first
     |exact⟨w6.heap.size,ae hk6.size,rfl,rfl,ae (ag.new w6 _ _),ae (((Kp.refl none' W4).drew.trans hk6).alloc _)⟩
     |exact⟨W4.heap.size,ae (Nat.le_refl _),rfl,rfl,ae (((hB.set 0 _).set 1 _).set 2 _),ae (((((((Kp.refl none' W4).drew.alloc _).trans hk6)).set (.inr (Nat.le_refl _)) _).set (.inr (Nat.le_refl _)) _).set (.inr (Nat.le_refl _)) _)⟩
 case rest=>
 obtain⟨qb,UD,rfl,rfl,hb7,Nv⟩:=hcut;have rZ:=Nv.out;have hz7:=UD.out;obtain⟨W7,Yh⟩:∃W7,wc=W7:=⟨_,rfl⟩
 rw[Yh]at hb7 rZ ⊢;have UQ:=hb7;have Yi:=ae (qW.out.kp rZ (fun x=>x));have jw:=ae (HB4.out.kp rZ (fun x=>x));have UM:=ae (rY.out.kp rZ (fun x=>x));have xG:=ae (HT4.out.kp rZ (fun x=>x));have xE:=ae (CP.out.old rZ);have yP:=ae (HR4.out.old rZ);have HH7:=ae (xB.out.old rZ);have K07:=ae (BC.out.trans (rZ.mono (fun _ _ x=>x.elim)));clear Yh Nv UD hb7 rZ d2 d3 d4 p2 HD2 HD3 HD4 HP2 qW HB4 rY HT4 CP HR4 xB BC oG;have q0:=UQ.out.cell 0 rfl;have q1:=UQ.out.cell 1 rfl;have q2:=UQ.out.cell 2 rfl;have d2:=xG.out.cell 2 rfl;have d3:=xG.out.cell 3 rfl;have d4:=xG.out.cell 4 rfl;have dz:=fun j=>xG.out.fz j
 have zD:sb<qb:=by omega
 have hs7:=UQ.out.lt;have pY:qb≠sb:=by omega
 go_upto_region 11 with fail
 have DF:ag (((W7.setCell ⟨sb,2,none⟩ (.int .u64 rate)).setCell ⟨sb,3,none⟩ (.int .u64 aQ)).setCell ⟨sb,4,none⟩ (.int .u64 JO)) sb ([.pointer (some ⟨gb,0,none⟩),.pointer (some ⟨rb,0,none⟩),.int .u64 rate,.int .u64 aQ,.int .u64 JO,v,.int .u64 s.now]++s.ref.map lG) 212:=((xG.out.set 2 (.int .u64 rate)).set 3 (.int .u64 aQ)).set 4 (.int .u64 JO);have Gw:Kp (fun z=>z=sb) W7 (((W7.setCell ⟨sb,2,none⟩ (.int .u64 rate)).setCell ⟨sb,3,none⟩ (.int .u64 aQ)).setCell ⟨sb,4,none⟩ (.int .u64 JO)):=(((Kp.refl (fun z=>z=sb) W7).set (p:=⟨sb,2,none⟩) (.inl rfl) _).set (p:=⟨sb,3,none⟩) (.inl rfl) _).set (p:=⟨sb,4,none⟩) (.inl rfl) _;obtain⟨W8,Yj⟩:∃W8,((W7.setCell ⟨sb,2,none⟩ (.int .u64 rate)).setCell ⟨sb,3,none⟩ (.int .u64 aQ)).setCell ⟨sb,4,none⟩ (.int .u64 JO)=W8:=⟨_,rfl⟩
 rw[Yj]at DF Gw ⊢;have hgl:=sV.out;have hrl:=xN.out;have hbl:=uJ.out;have hf3:=HF3.out;have Rn:=FK.out;have Yk:¬F3 sb:=fun h=>by rcases hf3 _ h with h|h;exact qF.out h;omega
 have hg3:∀z,Fg z→¬F3 z:=fun z h1 h2=>by rcases hf3 _ h2 with h|h;exact rX.out z h1 h;(have:=hgl z h1;omega)
 have hr3:∀z,Fr z→¬F3 z:=fun z h1 h2=>by rcases hf3 _ h2 with h|h;exact xM.out z h1 h;(have:=hrl z h1;omega)
 have Jp:=ae DF;have abU:=ae (Yi.out.kp Gw (fun e=>by omega));have lQ:=ae (jw.out.kp Gw (fun e=>by omega));have HZ8:=ae (UM.out.kp Gw (fun e=>by omega));have MB:=ae (xE.out.kp Gw (fun z hz e=>wB.out (e▸hz)));have uK:=ae (yP.out.kp Gw (fun z hz e=>tZ.out (e▸hz)));have Tu:=ae (HH7.out.kp Gw (fun z hz e=>Yk (e▸hz)));have Ya:Hid (Kp (fun z=>z=sb∨Fb z) w W8):=ae ((K07.out.mono (fun z _ h=>.inr h)).trans (Gw.mono (fun z _ h=>.inl h)));have Gv:=ae hg3;have HR3:=ae hr3;have yO:=ae Yk;have d5:=Jp.out.cell 5 rfl;have hs8:=Gw.size;rw[HV.out]at d5;have AO:=tX.out.mp W8;have hcf:=tX.out.cp;clear Yj DF Gw q0 q1 q2 d2 d3 d4 dz UQ xG Yi jw UM xE yP HH7 K07 hgl hrl hbl hf3 Rn Yk hg3 hr3
 go_wp2_with fail
 refine(Jn.out W8 F3 Tu.out Ya.out (fun z h=>(HF3.out z h).imp_right (fun h=>by omega))).mono ?_;rintro e W9 ⟨rfl,F9,hp9,hk9,hn9⟩;have hgl:=sV.out;have hrl:=xN.out;have hbl:=uJ.out;have hf3:=HF3.out;have Rn:=FK.out;have HF9:Hid (∀z,F9 z→Fb z∨w.heap.size+1<z):=ae (fun z hz=>by rcases hn9 z hz with h|h;exact hf3 z h;exact .inr (by omega));have HT9:=ae (Jp.out.kp hk9 yO.out);have Ro:=ae (abU.out.kp hk9 (fun h=>by have:=Rn _ h;omega));have FV:=ae (lQ.out.kp hk9 (fun h=>by rcases hf3 _ h with h|h;(have:=hbl _ h;omega);omega));have Yb:=ae (HZ8.out.kp hk9 (fun h=>by rcases hf3 _ h with h|h;(have:=hbl _ h;omega);omega));have MC:=ae (MB.out.kp hk9 Gv.out);have CO:=ae (uK.out.kp hk9 HR3.out);have Yc:=ae hp9;have UK:Hid (Kp (fun z=>z=sb∨Fb z) w W9):=ae (Ya.out.then hk9 (fun i hi h=>by rcases hf3 _ h with h|h;exact .inr h;omega));have d0:=HT9.out.cell 0 rfl;have p0:=Ro.out.cell 0 rfl;have p2:=Ro.out.cell 2 rfl;clear hp9 hk9 hn9 AO hcf d5 Jp abU lQ HZ8 MB uK Tu Ya hgl hrl hbl hf3 Rn Jn
 go_wp2_with fail
 refine af [] [0,1,2,3,4,5,6,7] 8 (by kernel_rfl) (by kernel_rfl) (fun c a d u w h=>by cases d<;>exact h) ?_;simp only[pick,bn];show aA _ _ _ _ _ _
 repeat((first
  |refine ah (by exact rfl) (by as_aux_lemma=>intro W hK;have e0:=hK.cell d0 (fun x=>x);have e1:=hK.cell p0 (fun x=>x);have e2:=hK.cell p2 (fun x=>x);go_simp;exact rfl) ?_
  |refine ai (by exact rfl) ?_);simp only[Act.put,aY])
 show ∀W,_→wpList _ _ _ _ _ _
 intro W10 hK10;have Nq:=ae (MC.out.old hK10);have abV:=ae hK10;clear hK10 d0 p0 p2
 go_wp2_with fail
 refine(HOU.out W10 Nq.out).mono ?_;rintro e W11 ⟨rfl,abW,AP⟩;have Rq:Kp Fg W9 W11:=(abV.out.mono (fun _ _ x=>x.elim)).trans AP;have Yl:=ae (HT9.out.kp Rq wB.out);have Rj:=ae (CO.out.kp Rq (fun z h1 h2=>AL.out z h2 h1));have Ri:=ae abW;have abX:=ae Rq;have d1:=Yl.out.cell 1 rfl;clear abW AP Rq Nq abV MC CO
 go_wp2_with fail
 refine(tN.out W11 Rj.out).mono ?_;rintro e qG ⟨rfl,abY,hk12⟩;have hgl:=sV.out;have hrl:=xN.out;have kD:Kp (fun z=>Fg z∨Fr z) W9 qG:=(abX.out.mono (fun z _ h=>.inl h)).trans (hk12.mono (fun z _ h=>.inr h));have HD:=ae kD;have PX:=ae (Ro.out.kp kD (fun h=>by rcases h with h|h;(have:=hgl _ h;omega);(have:=hrl _ h;omega)));have iU:=ae (FV.out.kp kD (fun h=>by rcases h with h|h;(have:=hgl _ h;omega);(have:=hrl _ h;omega)));have aeV:=ae (Yb.out.kp kD (fun h=>by rcases h with h|h;(have:=hgl _ h;omega);(have:=hrl _ h;omega)));have aeW:=ae (Ri.out.kp hk12 (fun z h1 h2=>AL.out z h1 h2));have aeX:=ae (Yl.out.kp hk12 tZ.out);have aeY:=ae abY;have p0:=PX.out.cell 0 rfl;have p1:=PX.out.cell 1 rfl;have p2:=PX.out.cell 2 rfl;have b2:=iU.out.cell 2 rfl;have b3:=iU.out.cell 3 rfl;have b4:=iU.out.cell 4 rfl;have b5:=iU.out.cell 5 rfl;have bz:=fun j=>iU.out.fz j
 have afu:w.heap.size+1≠pb:=by omega
 have afv:pb≠w.heap.size+1:=by omega
 have aeZ:=ae ((((iU.out.set 2 (.int .u32 fl)).set 3 (.int .u32 id)).set 4 (.int .u64 ln)).set 5 (.int .u64 r));have ks:Kp (fun z=>z=w.heap.size+1) qG ((((qG.setCell ⟨w.heap.size+1,2,none⟩ (.int .u32 fl)).setCell ⟨w.heap.size+1,3,none⟩ (.int .u32 id)).setCell ⟨w.heap.size+1,4,none⟩ (.int .u64 ln)).setCell ⟨w.heap.size+1,5,none⟩ (.int .u64 r)):=((((Kp.refl (fun z=>z=w.heap.size+1) qG).set (p:=⟨w.heap.size+1,2,none⟩) (.inl rfl) _).set (p:=⟨w.heap.size+1,3,none⟩) (.inl rfl) _).set (p:=⟨w.heap.size+1,4,none⟩) (.inl rfl) _).set (p:=⟨w.heap.size+1,5,none⟩) (.inl rfl) _;have ae0:=ae (aeV.out.kp ks (fun e=>by omega));have KS:=ae ks;clear abY hk12 kD ks hgl hrl d1 HT9 Ro FV Yb Yl Rj Ri abX
 go_wp2_with(first
  |(refine wpList_load_mid rfl 64 (.tmp 3) rfl (w.heap.size+1) 0 rfl ((((afB.set 2 (.int .u32 fl)).set 3 (.int .u32 id)).set 4 (.int .u64 ln)).set 5 (.int .u64 r)) _ (fun j v hv=>by rw[Nat.zero_add];exact aeZ.out.cell j hv) Tryz.underlying64 rfl aZ ?_)
  |(refine aP rfl 64 (.tmp 2) (.tmp 64) rfl ae0.out ((((afB.set 2 (.int .u32 fl)).set 3 (.int .u32 id)).set 4 (.int .u64 ln)).set 5 (.int .u64 r)) rfl rfl rfl aZ rfl ?_
    intro W14 abZ ab1;have ae1:=ae abZ;have ae2:=ae ab1
    clear abZ ab1))
 have hgl:=sV.out;have hrl:=xN.out;have hbl:=uJ.out;have hf9:=HF9.out;have kt:Kp (fun z=>w.heap.size≤z∧z≤w.heap.size+1) qG W14:=(KS.out.mono (fun z _ e=>by omega)).trans (ae2.out.mono (fun z _ e=>by omega));have kb:Kp (fun z=>Fg z∨Fr z∨(w.heap.size≤z∧z≤w.heap.size+1)) W9 W14:=(HD.out.mono (fun z _ h=>by rcases h with h|h;exact .inl h;exact .inr (.inl h))).trans (kt.mono (fun z _ h=>.inr (.inr h)));have qB:∀z,F9 z→Fb z∨w.heap.size≤z:=fun z hz=>(hf9 z hz).imp_right (fun h=>by omega)
 refine h_ (by exact rfl) ae1.out _ Tryz.underlying64 rfl aZ (by exact rfl) (HP.out _ _ ⟨rfl,⟨sb,gb,rb,v,Fg,Fr,F9⟩,?_,?_,?_,rfl⟩)
 ·exact {top:=by rw[Yg.out];exact aeX.out.kp kt (fun h=>by omega);all_goals rfl
         gate:=aeW.out.kp kt (fun z hz h=>by have:=hgl z hz;omega)
         ranks:=aeY.out.kp kt (fun z hz h=>by have:=hrl z hz;omega)
         back:=by
          show jT W14 F9 v (l9 s.g fl ln).c.aI.toNat _;rw[HWP.out,HV.out]
          exact Yc.out.kp kb (fun z hz h=>by
           rcases hf9 z hz with h'|h'
           ·rcases h with h|h|h
            ·exact rX.out z h h'
            ·exact xM.out z h h'
            ·have:=hbl z h';omega
           ·rcases h with h|h|h
            ·have:=hgl z h;omega
            ·have:=hrl z h;omega
            ·omega)
         sg:=wB.out
         sr:=tZ.out
         sk:=fun h=>by rcases qB _ h with h|h;exact qF.out h;(simp only at h;omega)
         gr:=AL.out
         gk:=fun z h1 h2=>by rcases qB z h2 with h|h;exact rX.out z h1 h;(have:=hgl z h1;omega)
         rk:=fun z h1 h2=>by rcases qB z h2 with h|h;exact xM.out z h1 h;(have:=hrl z h1;omega)
         ok:=jl.out}
 ·exact((UK.out.mono (fun z _ h=>by rcases h with h|h;exact .inl h;exact .inr (.inl h)):Kp (fun z=>z=sb∨Fb z∨Fg z∨Fr z) w W9).then kb (fun z hz h=>by
   rcases h with h|h|h
   ·exact .inr (.inr (.inl h))
   ·exact .inr (.inr (.inr h))
   ·omega)).mono (fun z _ h=>by
    rcases h with h|h|h|h
    ·exact .inl h
    ·exact .inr (.inr (.inr h))
    ·exact .inr (.inl h)
    ·exact .inr (.inr (.inl h)))
 ·intro z hz;rcases hz with h|h|h|h
  ·exact .inl (.inl h)
  ·exact .inl (.inr (.inl h))
  ·exact .inl (.inr (.inr (.inl h)))
  ·rcases qB z h with h|h
   ·exact .inl (.inr (.inr (.inr h)))
   ·exact .inr (by omega)
def FM (vs:List Value):Prop:=vs.length=42∧vs.all (·.oneCell')=true
theorem Ym (k c:Int) (fl id ln r:Nat):FM (mY k c fl id ln r oP):=⟨rfl,rfl⟩
theorem PY (s:Sh) (fl id ln:Nat):FM (dU s fl id ln).1:=by unfold dU;split<;>exact Ym _ _ _ _ _ _
theorem PZ (s:Sh):FM (dA s).1:=by unfold dA;split;exact Ym _ _ _ _ _ _;split<;>exact Ym _ _ _ _ _ _
theorem Yn {s:Sh} (h:s.ref.length=32):(ny s).length=36∧(ny s).all (·.oneCell')=true:=by
 unfold ny;refine⟨by simp[h],?_⟩;rw[List.all_append,Bool.and_eq_true];refine⟨rfl,?_⟩;rw[List.all_eq_true];intro v hv;obtain⟨n,_,rfl⟩:=List.mem_map.1 hv;rfl
theorem iD.wrap {w W2 W3 W4:World} {f:kQ} {s':Sh} (hl:∀z,f.all z→z<w.heap.size) (fP:Kp none' w W2) (hto:iD W2 f s' W3) (k34:Kp (fun z=>w.heap.size≤z∧z<W2.heap.size) W3 W4):iD w f s' W4:=by
 obtain⟨f',hm,hk,hn,hs⟩:=hto;have hz:=fP.size;refine⟨f',hm.kp k34 (fun z hz' h=>by rcases hn z hz' with h1|h1;(have:=hl z h1;omega);omega),?_,fun z hz'=> ?_,hs⟩
 ·exact((fP.mono (fun _ _ x=>x.elim)).trans hk).then k34 (fun z hz' h=>by omega)
 ·rcases hn z hz' with h1|h1
  ·exact .inl h1
  ·exact .inr (by omega)
theorem adb {w:World} {f:kQ} {s:Sh} (kind:Int) (fl id ln tk:Nat) (h:ShM w f s) (hid:fl<4294967296) (wz:id<4294967296) (hln:ln<18446744073709551616) (hn:jv s.bk<9223372036854775807):
 Calls Tryz.prog 107 #[.pointer (some ⟨f.sb,0,none⟩),.agg #[.int .i64 kind,.int .u32 fl,.int .u32 id,.int .u64 ln,.int .u64 tk]] w fun e w'=>e=.returned (.agg (dU s fl id ln).1.toArray)∧iD w f (dU s fl id ln).2 w':=by
 by_cases hm:dN s.g fl ln=0
 ·exact aaE kind fl id ln tk h hm hid wz hln hn
 ·exact ada kind fl id ln tk h hm hid wz hln
theorem ade {w:World} {f:kQ} {s:Sh} (h:ShM w f s) (iL:Bz w f.all):
 Calls Tryz.prog 108 #[.pointer (some ⟨f.sb,0,none⟩)] w fun e w'=>e=.returned (.agg (dA s).1.toArray)∧iD w f (dA s).2 w':=by
 obtain⟨⟨⟨r,⟨fl,id,ln⟩⟩,is⟩,hp⟩:∃x,aX s.bk=x:=⟨_,rfl⟩
 cases is with
 |false=>exact UN h iL hp
 |true=>
  by_cases hlt:s.tok<ln
  ·exact UO h iL hp hlt
  ·exact aaI h iL hp hlt
set_option maxRecDepth 100000 in
theorem adf {w:World} {f:kQ} {s:Sh} (kind:Int) (fl id ln tk:Nat) (h:ShM w f s) (hkd:jr kind=1) (hid:fl<4294967296) (wz:id<4294967296) (hln:ln<18446744073709551616) (hn:jv s.bk<9223372036854775807):
 Calls Tryz.prog 58 #[.pointer (some ⟨f.sb,0,none⟩),.agg #[.int .i64 kind,.int .u32 fl,.int .u32 id,.int .u64 ln,.int .u64 tk]] w fun e w'=>e=.returned (.agg (dU s fl id ln).1.toArray)∧iD w f (dU s fl id ln).2 w':=by
 have HC:=ae (fun W (k:ShM W f s)=>adb kind fl id ln tk k hid wz hln hn);obtain⟨vs,hvs⟩:∃vs,dU s fl id ln=vs:=⟨_,rfl⟩
 obtain⟨h42,h1c⟩:FM vs.1:=by rw[←hvs];exact PY s fl id ln
 rw[hvs]at HC ⊢;have wG:Hid (∀W,Calls Tryz.prog 106 #[.int .i64 kind] W fun e w'=>e=.returned (.int .i64 1)∧W=w'):=ae (fun W=>by have:=xw kind W;rw[hkd]at this;exact this);have HM:=ae h;have HL:Hid (∀z,f.all z→z<w.heap.size):=ae (fun z hz=>h.lt hz);obtain⟨t5,x5,gu,ge,gp,hv,hbc⟩:=h.back.c;have HV:=ae hv;have hsl:=h.top.lt;have c5:=h.top.cell 5 rfl;rw[hv]at c5;refine ay ?_;intro PP HP;clear h hkd hv hbc hid wz hln hn hvs;obtain⟨sb,hsb⟩:∃sb,f.sb=sb:=⟨_,rfl⟩
 rw[hsb]at hsl c5 ⊢;have tV:=ae hsb;clear hsb;have ho0:=ag.new w [.int .i64 kind,.int .u32 fl,.int .u32 id,.int .u64 ln,.int .u64 tk] 73;have nG:=ae ho0;have hz0:=ag.new (w.alloc (.cells #[.int .i64 kind,.int .u32 fl,.int .u32 id,.int .u64 ln,.int .u64 tk] 73)) afA 64;have e1:(w.alloc (.cells #[.int .i64 kind,.int .u32 fl,.int .u32 id,.int .u64 ln,.int .u64 tk] 73)).heap.size=w.heap.size+1:=by simp
 rw[e1]at hz0;have HZ0:=ae hz0;have hz1:=ag.new ((w.alloc (.cells #[.int .i64 kind,.int .u32 fl,.int .u32 id,.int .u64 ln,.int .u64 tk] 73)).alloc (.cells afz 64)) afA 64;have e2:((w.alloc (.cells #[.int .i64 kind,.int .u32 fl,.int .u32 id,.int .u64 ln,.int .u64 tk] 73)).alloc (.cells afz 64)).heap.size=w.heap.size+2:=by simp
 rw[e2]at hz1;have HZ1:=ae hz1;have aB:=ae ((((Kp.refl none' w).alloc (.cells #[.int .i64 kind,.int .u32 fl,.int .u32 id,.int .u64 ln,.int .u64 tk] 73)).alloc (.cells afz 64)).alloc (.cells afz 64));clear hz0 hz1 e1 e2 ho0
 go_enter Tryz.func58,Tryz.ntmps58
 go_wp2_with fail
 refine(wG.out _).mono ?_;rintro e w' ⟨rfl,rfl⟩
 go_wp2_with(first
  |(refine aP rfl 64 (.tmp 5) (.tmp 9) rfl HZ1.out [.int .i64 1,.int .i64 0,.int .u32 0,.int .u32 0,.int .u64 0,.int .u64 0,.int .u64 0,.int .u64 0,.int .i64 0,.int .u64 0,.int .u64 0,.int .u64 0,.int .u64 0,.int .u64 0,.int .u64 0,.int .u64 0,.int .u64 0,.int .u64 0,.int .u64 0,.int .u64 0,.int .u64 0,.int .u64 0,.int .u64 0,.int .u64 0,.int .u64 0,.int .u64 0,.int .u64 0,.int .u64 0,.int .u64 0,.int .u64 0,.int .u64 0,.int .u64 0,.int .u64 0,.int .u64 0,.int .u64 0,.int .u64 0,.int .u64 0,.int .u64 0,.int .u64 0,.int .u64 0,.int .u64 0,.int .u64 0] rfl rfl rfl aZ rfl ?_
    intro W2 hb2 hk2;have HB2:=ae hb2;have ak:=ae hk2;clear hb2 hk2;have fP:Kp none' w W2:=aB.out.then ak.out (fun b hb e=>by omega)
    have HZ2:=ae ((HZ0.out.alloc (.cells afz 64)).kp ak.out (fun e=>by omega));have gq:=ae (((nG.out.alloc (.cells afz 64)).alloc (.cells afz 64)).kp ak.out (fun e=>by omega));have oU:=ae fP;have d5:=fP.cell c5 (fun x=>x);have eP:=ae (HM.out.old fP);have hs2:=HB2.out.lt;have b0:=HB2.out.cell 0 rfl;have o0:=gq.out.cell 0 rfl;have o1:=gq.out.cell 1 rfl;have o2:=gq.out.cell 2 rfl;have o3:=gq.out.cell 3 rfl;have o4:=gq.out.cell 4 rfl
    clear HZ0 HZ1 nG aB ak wG HM fP c5))
 have hc2:=HC.out W2 eP.out;rw[tV.out]at hc2;refine hc2.mono ?_;rintro e W3 ⟨rfl,hto⟩;have vU:=ae hto;have HZ3:Hid (ag W3 (w.heap.size+1) afA 64):=by
  obtain⟨f',_,k3,_,_⟩:=hto;exact ae (HZ2.out.kp k3 (fun e=>by have:=HL.out _ e;omega))
 clear hto hc2
 go_wp2_with(first
  |(refine aP rfl 64 (.tmp 4) (.tmp 30) rfl HZ3.out vs.1 (by rw[h42];rfl) rfl rfl (by rw[h42];exact aZ) h1c ?_
    intro qG ig hk12;have iU:=ae ig;have jH:=ae hk12
    clear ig hk12))
 refine h_ (by exact rfl) iU.out _ Tryz.underlying64 rfl (by rw[h42];exact aZ) (by exact rfl) (HP.out _ _ ⟨rfl,iD.wrap HL.out oU.out vU.out (jH.out.mono (fun z _ e=>by omega))⟩)
set_option maxRecDepth 100000 in
theorem adg {w:World} {f:kQ} {s:Sh} (kind:Int) (fl id ln tk:Nat) (h:ShM w f s) (hkd:jr kind=2) (iL:Bz w f.all):
 Calls Tryz.prog 58 #[.pointer (some ⟨f.sb,0,none⟩),.agg #[.int .i64 kind,.int .u32 fl,.int .u32 id,.int .u64 ln,.int .u64 tk]] w fun e w'=>e=.returned (.agg (dA s).1.toArray)∧iD w f (dA s).2 w':=by
 have HC:=ae (fun W (k:ShM W f s) (kk:Kp none' w W)=>ade k ⟨iL.tab.kp kk (fun x=>x),iL.ne⟩);obtain⟨vs,hvs⟩:∃vs,dA s=vs:=⟨_,rfl⟩
 obtain⟨h42,h1c⟩:FM vs.1:=by rw[←hvs];exact PZ s
 rw[hvs]at HC ⊢;have wG:Hid (∀W,Calls Tryz.prog 106 #[.int .i64 kind] W fun e w'=>e=.returned (.int .i64 2)∧W=w'):=ae (fun W=>by have:=xw kind W;rw[hkd]at this;exact this);have HM:=ae h;have HL:Hid (∀z,f.all z→z<w.heap.size):=ae (fun z hz=>h.lt hz);obtain⟨t5,x5,gu,ge,gp,hv,hbc⟩:=h.back.c;have HV:=ae hv;have hsl:=h.top.lt;have c5:=h.top.cell 5 rfl;rw[hv]at c5;refine ay ?_;intro PP HP;clear h hkd hv hbc iL hvs;obtain⟨sb,hsb⟩:∃sb,f.sb=sb:=⟨_,rfl⟩
 rw[hsb]at hsl c5 ⊢;have tV:=ae hsb;clear hsb;have ho0:=ag.new w [.int .i64 kind,.int .u32 fl,.int .u32 id,.int .u64 ln,.int .u64 tk] 73;have nG:=ae ho0;have hz0:=ag.new (w.alloc (.cells #[.int .i64 kind,.int .u32 fl,.int .u32 id,.int .u64 ln,.int .u64 tk] 73)) afA 64;have e1:(w.alloc (.cells #[.int .i64 kind,.int .u32 fl,.int .u32 id,.int .u64 ln,.int .u64 tk] 73)).heap.size=w.heap.size+1:=by simp
 rw[e1]at hz0;have HZ0:=ae hz0;have hz1:=ag.new ((w.alloc (.cells #[.int .i64 kind,.int .u32 fl,.int .u32 id,.int .u64 ln,.int .u64 tk] 73)).alloc (.cells afz 64)) afA 64;have e2:((w.alloc (.cells #[.int .i64 kind,.int .u32 fl,.int .u32 id,.int .u64 ln,.int .u64 tk] 73)).alloc (.cells afz 64)).heap.size=w.heap.size+2:=by simp
 rw[e2]at hz1;have HZ1:=ae hz1;have aB:=ae ((((Kp.refl none' w).alloc (.cells #[.int .i64 kind,.int .u32 fl,.int .u32 id,.int .u64 ln,.int .u64 tk] 73)).alloc (.cells afz 64)).alloc (.cells afz 64));clear hz0 hz1 e1 e2 ho0
 go_enter Tryz.func58,Tryz.ntmps58
 go_wp2_with fail
 refine(wG.out _).mono ?_;rintro e w' ⟨rfl,rfl⟩
 go_wp2_with(first
  |(refine aP rfl 64 (.tmp 5) (.tmp 9) rfl HZ1.out afB rfl rfl rfl aZ rfl ?_
    intro W2 hb2 hk2;have HB2:=ae hb2;have ak:=ae hk2;clear hb2 hk2;have fP:Kp none' w W2:=aB.out.then ak.out (fun b hb e=>by omega)
    have HZ2:=ae ((HZ0.out.alloc (.cells afz 64)).kp ak.out (fun e=>by omega));have gq:=ae (((nG.out.alloc (.cells afz 64)).alloc (.cells afz 64)).kp ak.out (fun e=>by omega));have oU:=ae fP;have d5:=fP.cell c5 (fun x=>x);have eP:=ae (HM.out.old fP);have hs2:=HB2.out.lt;have b0:=HB2.out.cell 0 rfl
    skip
    clear HZ0 HZ1 nG aB ak wG HM fP c5))
 have hc2:=HC.out W2 eP.out oU.out;rw[tV.out]at hc2;refine hc2.mono ?_;rintro e W3 ⟨rfl,hto⟩;have vU:=ae hto;have HZ3:Hid (ag W3 (w.heap.size+1) afA 64):=by
  obtain⟨f',_,k3,_,_⟩:=hto;exact ae (HZ2.out.kp k3 (fun e=>by have:=HL.out _ e;omega))
 clear hto hc2
 go_wp2_with(first
  |(refine aP rfl 64 (.tmp 4) (.tmp 34) rfl HZ3.out vs.1 (by rw[h42];rfl) rfl rfl (by rw[h42];exact aZ) h1c ?_
    intro qG ig hk12;have iU:=ae ig;have jH:=ae hk12
    clear ig hk12))
 refine h_ (by exact rfl) iU.out _ Tryz.underlying64 rfl (by rw[h42];exact aZ) (by exact rfl) (HP.out _ _ ⟨rfl,iD.wrap HL.out oU.out vU.out (jH.out.mono (fun z _ e=>by omega))⟩)
end Go.Proofs.YtjiehhlghjnfhaaGreatDoor
