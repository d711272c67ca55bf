/- What Pop of package calq does where the first lies in the window; Peek and Pop on the one list (layer 11). -/
import Derived.Test.YtjiehhlghjnfhaaGreatDoorMTopLineF17
import Derived.Test.YtjiehhlghjnfhaaGreatDoorMTopLineF11
import Derived.Test.YtjiehhlghjnfhaaGreatDoorMTopLineF0
import Derived.Laws.Bits128
import Derived.BigQuiet
import Derived.Deep.QuietTactic
import Derived.Test.YtjiehhlghjnfhaaGreatDoorProg
set_option linter.unusedVariables false
set_option linter.unusedSimpArgs false
set_option maxHeartbeats 4000000
namespace Go.Proofs.YtjiehhlghjnfhaaGreatDoor.cq
open Go Go.RowKit Go.Shelf Go.Proofs.YtjiehhlghjnfhaaGreatDoor
set_option maxRecDepth 100000 in
theorem Xq {w:World} {cb:Nat} {f:f_} {room nb na:Nat} {c:oh} {I:List It} {x:It} {T:List It} (h:dW w cb f room nb na c.base c.B c.A c.P c.m) (hR:cZ (bg f.k) room c I) (hd:Dn (bg f.k) c) (hB:c.B=[]) (hro:room≤4096) (hI:I=x::T) (hT:Tab w) (hg:¬f.all cb 0):
 Calls Tryz.prog 286 #[.pointer (some ⟨cb,0,none⟩)] w fun e w'=>(∃x y z,e=.returned (.tuple #[x,y,z]))∧∃f' c',dW w' cb f' room nb na c'.base c'.B c'.A c'.P c'.m∧ed w cb f w' f'∧cZ (bg f'.k) room c' T∧Dn (bg f'.k) c':=by
 have g_:=ae (fun W (k:Kp none' w W)=>H8 (h.old k) hR hd hB hro hI (hT.kp k (fun x=>x)) hg);have hnr:¬f.all cb w.heap.size:=fun e=>by have:=h.TT e;omega
 clear h hR hB hd hT hg;have HI:=ae hI;clear hI;obtain⟨xr,⟨fl,id,ln⟩⟩:=x
 have g_:Hid (∀W,Kp none' w W→Calls Tryz.prog 285 #[.pointer (some ⟨cb,0,none⟩)] W fun e w'=>e=.returned (.tuple #[.int .u64 (xr:Int),.agg #[.int .u32 (fl:Int),.int .u32 (id:Int),.int .u64 (ln:Int)],.bool true])∧
  ∃f' c',dW w' cb f' room nb na c'.base c'.B c'.A c'.P c'.m∧ed W cb f w' f'∧cZ (bg f'.k) room c' I∧Dn (bg f'.k) c'∧c'.base=xr∧c'.B=[]):=g_
 have aB:Hid (Kp none' w (w.alloc (.cells #[.int .u32 0,.int .u32 0,.int .u64 0] 62))):=(Kp.refl none' w).alloc _;have HR0:=ae (ag.new w [.int .u32 0,.int .u32 0,.int .u64 0] 62);refine ay ?_;intro PP HP
 go_enter Tryz.func286,Tryz.ntmps286
 go_upto_region 1 with fail
 generalize w.alloc (.cells #[.int .u32 0,.int .u32 0,.int .u64 0] 62)=w0 at*
 go_wp2_with fail
 refine(g_.out _ aB.out).mono ?_;rintro e w1 ⟨rfl,f1,c1,q1,q2,q3,q4,q5,q6⟩;have ka:Kp none' w1 (w1.alloc (.cells #[.int .u32 (fl:Int),.int .u32 (id:Int),.int .u64 (ln:Int)] 62)):=(Kp.refl none' w1).alloc _;have bT:=ae (q1.old ka);have HT1:=ae (((ed.old aB.out).trans q2).trans (ed.old (cb:=cb) (f:=f1) ka));have HR1:=ae ((HR0.out.kp q2.kp hnr).kp ka (fun x=>x));have HY1:=ae (ag.new w1 [.int .u32 (fl:Int),.int .u32 (id:Int),.int .u64 (ln:Int)] 62);have hw1:w.heap.size<w1.heap.size:=(HR0.out.kp q2.kp hnr).lt;have hny:¬f1.all cb w1.heap.size:=fun e=>by have:=q1.TT e;omega
 have Cb:¬f1.all cb w.heap.size:=fun e=>by
  rcases q2.nw _ e with h|h
  ·exact hnr h
  ·have:=HR0.out.lt;omega
 rw[HI.out]at q3;obtain⟨k,rr,hq,hf⟩:=q3.QR q4 q5;obtain⟨j,hj⟩:∃j:Nat,xr%bg f1.k=j:=⟨_,rfl⟩
 have hdj:bM (bg f1.k) xr=(j:Int):=by unfold bM;rw[hj]
 have hjl:j<c1.P.qs.length:=by have:=q3.day xr;rw[hdj]at this;omega
 have pY:c1.P.qs.length≤262144:=by rw[q3.qs];exact q3.qh.2
 simp only at hq hf;rw[hdj]at hq;obtain⟨hh,hk0⟩:=EN q3.rel hjl hq;obtain⟨kn,rfl⟩:∃n:Nat,k=n:=⟨k.toNat,by omega⟩
 obtain⟨px,S1,S2,R2,o1,o2,o3,o4,o5,o6,o7,o8,o9,o10,o11,o12,o13⟩:=ZT q3.rel KT (j:Int) hq;rw[hf]at o1;injection o1 with o1
 subst o1;have QS:j<S2.qs.length:=by rw[o7];exact hjl
 have hpw:=fun m' a7=>q3.ZV q4 q5 (P':=S2) (R':=R2) (m':=m') (by show c1.R.q (bM (bg f1.k) xr)≠ [];rw[hdj,hq];simp) o5 o6 o7 o9 o10 (by show ∀e,things R2 e=if e=bM (bg f1.k) xr then _ else _;rw[hdj];exact o13) a7
 have Jm:=ae hpw;have Ai:=ae (fun W (hk:Kp none' w1 W)=>(by have:=Hu (q1.old hk) xr;rw[hdj]at this;exact this));have Jn:=ae (fun W (hk:Kp none' w1 W)=>ad9 W _ _ _ _ _ (q1.old hk).pool q3.rel j kn pY o2);have HGV:=ae (fun W vc (hp:bU W f1.pp f1.pq vc S1)=>acI W _ _ _ _ _ hp o4 kn o3);have Gi:=ae (fun W vc (hp:bU W f1.pp f1.pq vc S2)=>O5 W _ _ _ _ _ hp o5 j QS (by rw[o7];exact pY));have HML:=ae (q3.Xe q1.set.sorted);have uJ:=ae (fun W (hk:Kp none' w1 W)=>(by have:=aT (Jk (q1.old hk).low);rw[q6]at this;exact this:Calls Tryz.prog 269 #[.pointer (some ⟨f1.bb,0,none⟩)] W fun e w'=>e=.returned (.int .i64 0)∧Kp none' W w'));have hmem:∀e:Int,(e∈if rr=[]then iy c1.m (j:Int)else c1.m)↔R2.q e≠ []:=fun e=>by
  by_cases e1:e=(j:Int)
  ·rw[e1,o11];by_cases hr:rr=[]
   ·rw[if_pos hr,hr,qg];simp
   ·rw[if_neg hr];simp only[hr,ne_eq,not_false_iff,iff_true];rw[q3.days,hq];simp
  ·rw[o12 e e1,←q3.days];split
   ·rw[qg];simp[e1]
   ·exact Iff.rfl
 have TW:=ae hmem;have Xr:=ae (fun(hr:rr=[])=>O_ o5 QS (by rw[o11];exact hr));have EO:=ae (fun(a:Int) (t:List Int) (hr:rr=a::t)=>EN o5 QS (by rw[o11];exact hr));have hjm:(j:Int)∈c1.m:=(q3.days _).2 (by rw[hq];simp);have HJM:=ae hjm;have c1':=q1.top.cell 1 rfl;have c0':=q1.top.cell 0 rfl;have c3':=q1.top.cell 3 rfl;have hcl:=q1.top.lt;have Q5:Hid (c1.base=xr):=ae q5;clear q1 q2 q3 q4 q5 q6 hq hf hh hk0 hdj hj hjl pY o2 o3 o4 o5 o6 o7 o8 o9 o10 o11 o12 o13 hpw hmem hjm QS g_ aB HR0
 go_upto_region 2 with fail
 have d1:=ka.cell c1' (fun x=>x);have d0:=ka.cell c0' (fun x=>x);have d3:=ka.cell c3' (fun x=>x);have uo:=ae ka;clear ka c1' c0' c3';generalize w1.alloc (.cells #[.int .u32 (fl:Int),.int .u32 (id:Int),.int .u64 (ln:Int)] 62)=w2 at*
 go_wp2_with fail
 refine(uJ.out _ uo.out).mono ?_;rintro e w3 ⟨rfl,k3⟩;have aF:=ae (uo.out.trans k3);have d1:=k3.cell d1 (fun x=>x);have d0:=k3.cell d0 (fun x=>x);have fV:=ae (bT.out.old k3);have HT3:=ae (HT1.out.trans (ed.old k3));have HR3:=ae (HR1.out.kp k3 (fun x=>x));have yH:=ae (HY1.out.kp k3 (fun x=>x));clear k3 uo bT HT1 HR1 HY1 d3 uJ
 go_wp2_with fail
 refine(Ai.out _ aF.out).mono ?_;rintro e w4 ⟨rfl,k4⟩;have aH:=ae (aF.out.trans k4);have d1:=k4.cell d1 (fun x=>x);have d0:=k4.cell d0 (fun x=>x);have jR:=ae (fV.out.old k4);have HT4:=ae (HT3.out.trans (ed.old k4));have HR4:=ae (HR3.out.kp k4 (fun x=>x));have KW:=ae (yH.out.kp k4 (fun x=>x));clear k4 aF fV HT3 HR3 yH Ai
 go_wp2_with fail
 refine(Jn.out _ aH.out).mono ?_;rintro e w5 ⟨rfl,vc5,p5,k5,n5⟩;have hpf:∀(z:Nat),¬f1.all cb z→¬PF f1.pp f1.pq f1.vc z:=fun z hz e=>hz ⟨PF f1.pp f1.pq f1.vc,by simp[f_.parts],e⟩
 have hcb:¬PF f1.pp f1.pq f1.vc cb:=jR.out.kP.ne (i:=0) (j:=2) rfl rfl (by decide) cb rfl;have uI:=ae (jR.out.Ah p5 k5 n5);have dB:=ae uI.out.1;have oN:=ae (HT4.out.trans uI.out.2);have FW:=ae (HR4.out.kp k5 (hpf _ Cb));have Oy:=ae (KW.out.kp k5 (hpf _ hny));have d1:=k5.cell d1 hcb;have d0:=k5.cell d0 hcb;have N5:=ae n5;have hs5:=k5.size;have h45:=KW.out.lt;clear p5 k5 n5 uI jR HT4 HR4 KW aH Jn hcb;have QT:∀(z:Nat),¬f1.all cb z→z<w4.heap.size→¬PF f1.pp f1.pq vc5 z:=fun z hz hl e=>by
  rcases N5.out z e with h|h
  ·exact hpf z hz h
  ·omega
 go_wp2_with fail
 refine(HGV.out _ _ dB.out.pool).mono ?_;rintro e w6 ⟨rfl,Gj,p6,k6,n6⟩;have hcb:¬PF f1.pp f1.pq vc5 cb:=dB.out.kP.ne (i:=0) (j:=2) rfl rfl (by decide) cb rfl;have Pg:=ae (dB.out.Ah p6 k6 n6);have mV:Hid (dW w6 cb {f1 with vc:=Gj} room nb na c1.base c1.B c1.A S2 c1.m):=ae Pg.out.1;have yJ:Hid (ed w cb f w6 {f1 with vc:=Gj}):=ae (oN.out.trans Pg.out.2);have sU:=ae (FW.out.kp k6 (QT _ Cb (by omega)));have I5:=ae (Oy.out.kp k6 (QT _ hny (by omega)));have d1:=k6.cell d1 hcb;have d0:=k6.cell d0 hcb;have aby:¬PF f1.pp f1.pq Gj w.heap.size:=fun e=>by
  rcases n6 _ e with h|h
  ·exact QT _ Cb (by omega) h
  ·omega
 have I4:=ae aby;clear p6 k6 n6 Pg dB oN FW Oy N5 hs5 h45 QT hcb HGV aby
 go_wp2_with fail
 have hn8:¬({f1 with vc:=Gj}:f_).all cb w.heap.size:=fun e=>by
  obtain⟨F,hF,hb⟩:=e;simp only[f_.parts,List.mem_cons,List.not_mem_nil,or_false]at hF;rcases hF with rfl|rfl|rfl|rfl|rfl
  ·exact Cb ⟨fun b=>b=cb,by simp[f_.parts],hb⟩
  ·exact Cb ⟨Fp f1.sp f1.sl f1.sB f1.k,by simp[f_.parts],hb⟩
  ·exact I4.out hb
  ·exact Cb ⟨f1.FB,by simp[f_.parts],hb⟩
  ·exact Cb ⟨f1.FA,by simp[f_.parts],hb⟩
 have HN8:=ae hn8;refine(Gi.out w6 _ mV.out.pool).mono ?_;rintro e w7 ⟨rfl,rfl⟩;by_cases hr:rr=[]
 ·have h1:=Xr.out hr;rw[h1,if_pos rfl];obtain⟨m8,Ph⟩:∃m8,iy c1.m (j:Int)=m8:=⟨_,rfl⟩
  have Xt:=ae (Jm.out m8 (by rw[←Ph];have:=TW.out;rw[if_pos hr]at this;exact this));have HDR:=ae (acD _ _ _ _ _ (j:Int) w6 mV.out.set mV.out.k3.2 (by have:=HML.out;omega));rw[Ph]at HDR;clear h1 hr Ph Xr EO TW Jm Gi
  go_wp2_with fail
  refine HDR.out.mono ?_;rintro e w8 ⟨rfl,s8,k8⟩;have Jo:=ae (mV.out.QO s8 k8);have CX:Hid (dW w8 cb {f1 with vc:=Gj} room nb na c1.base c1.B c1.A S2 m8):=ae Jo.out.1;have Jp:Hid (ed w cb f w8 {f1 with vc:=Gj}):=ae (yJ.out.trans Jo.out.2);have hsf:∀z:Nat,¬f1.all cb z→¬Fp f1.sp f1.sl f1.sB f1.k z:=fun z hz e=>hz ⟨Fp f1.sp f1.sl f1.sB f1.k,by simp[f_.parts],e⟩
  have uK:=ae (sU.out.kp k8 (hsf _ Cb));have Ef:=ae (I5.out.kp k8 (hsf _ hny));clear s8 k8 Jo mV yJ sU I5 HDR d0 d1;have y0:=Ef.out.cell 0 rfl;have y1:=Ef.out.cell 1 rfl;have y2:=Ef.out.cell 2 rfl;have r0:=uK.out.cell 0 rfl;have r1:=uK.out.cell 1 rfl;have r2:=uK.out.cell 2 rfl;have fz:=fun j=>uK.out.fz j
  go_wp2_with fail
  go_region
  all_goals
   go_wp2_with fail
   have ks:Kp (fun b=>b=w.heap.size) w8 ((((w8.setCell ⟨w.heap.size,0,none⟩ (.int .u32 (fl:Int))).setCell ⟨w.heap.size,1,none⟩ (.int .u32 (id:Int))).setCell ⟨w.heap.size,2,none⟩ (.int .u64 (ln:Int))).drew):=((((Kp.refl (fun b=>b=w.heap.size) w8).set (p:=⟨w.heap.size,0,none⟩) (.inl rfl) _).set (p:=⟨w.heap.size,1,none⟩) (.inl rfl) _).set (p:=⟨w.heap.size,2,none⟩) (.inl rfl) _).drew;exact gY (by exact rfl) ((((uK.out.set 0 (.int .u32 (fl:Int))).set 1 (.int .u32 (id:Int))).set 2 (.int .u64 (ln:Int))).drew) _ Tryz.underlying62 rfl fZ (by exact rfl) (HP.out _ _ ⟨⟨_,_,_,rfl⟩,{f1 with vc:=Gj},{c1 with P:=S2,R:=R2,m:=m8},CX.out.kp ks (fun b hb e=>HN8.out (by rw[←e];exact hb)),⟨Jp.out.kp.then ks (fun i hi e=>by omega),Jp.out.nw⟩,Xt.out.1,Xt.out.2⟩)
 ·obtain⟨a,t,hrt⟩:∃a t,rr=a::t:=by cases rr with|nil=>exact absurd rfl hr|cons a t=>exact⟨a,t,rfl⟩
  obtain⟨h1,h2⟩:=EO.out a t hrt;rw[h1,if_neg (by omega),decide_eq_true (by omega)];obtain⟨m8,Ph⟩:∃m8,c1.m=m8:=⟨_,rfl⟩
  have Xt:=ae (Jm.out m8 (by rw[←Ph];have:=TW.out;rw[if_neg hr]at this;exact this));obtain⟨w8,hw8⟩:∃w8,w6=w8:=⟨_,rfl⟩
  have CX:Hid (dW w8 cb {f1 with vc:=Gj} room nb na c1.base c1.B c1.A S2 m8):=ae (by rw[←hw8,←Ph];exact mV.out);have Jp:Hid (ed w cb f w8 {f1 with vc:=Gj}):=ae (by rw[←hw8];exact yJ.out);have uK:Hid (ag w8 w.heap.size [.int .u32 0,.int .u32 0,.int .u64 0] 62):=ae (by rw[←hw8];exact sU.out);have Ef:Hid (ag w8 w1.heap.size [.int .u32 (fl:Int),.int .u32 (id:Int),.int .u64 (ln:Int)] 62):=ae (by rw[←hw8];exact I5.out);rw[hw8];clear h1 h2 hr hrt Ph Xr EO TW Jm Gi hw8 mV yJ sU I5 d0 d1
  go_wp2_with fail
  have y0:=Ef.out.cell 0 rfl;have y1:=Ef.out.cell 1 rfl;have y2:=Ef.out.cell 2 rfl;have r0:=uK.out.cell 0 rfl;have r1:=uK.out.cell 1 rfl;have r2:=uK.out.cell 2 rfl;have fz:=fun j=>uK.out.fz j
  go_wp2_with fail
  go_region
  all_goals
   go_wp2_with fail
   have ks:Kp (fun b=>b=w.heap.size) w8 ((((w8.setCell ⟨w.heap.size,0,none⟩ (.int .u32 (fl:Int))).setCell ⟨w.heap.size,1,none⟩ (.int .u32 (id:Int))).setCell ⟨w.heap.size,2,none⟩ (.int .u64 (ln:Int))).drew):=((((Kp.refl (fun b=>b=w.heap.size) w8).set (p:=⟨w.heap.size,0,none⟩) (.inl rfl) _).set (p:=⟨w.heap.size,1,none⟩) (.inl rfl) _).set (p:=⟨w.heap.size,2,none⟩) (.inl rfl) _).drew;exact gY (by exact rfl) ((((uK.out.set 0 (.int .u32 (fl:Int))).set 1 (.int .u32 (id:Int))).set 2 (.int .u64 (ln:Int))).drew) _ Tryz.underlying62 rfl fZ (by exact rfl) (HP.out _ _ ⟨⟨_,_,_,rfl⟩,{f1 with vc:=Gj},{c1 with P:=S2,R:=R2,m:=m8},CX.out.kp ks (fun b hb e=>HN8.out (by rw[←e];exact hb)),⟨Jp.out.kp.then ks (fun i hi e=>by omega),Jp.out.nw⟩,Xt.out.1,Xt.out.2⟩)
theorem aag {w:World} {F:Nat→Prop} {cb room n:Nat} {I:List It} (h:Ca w F cb room n I) (hT:Tab w) (hg:¬F 0):
 Calls Tryz.prog 285 #[.pointer (some ⟨cb,0,none⟩)] w fun e w'=>e=.returned (.tuple #[.int .u64 (sS I).1.rank,.agg #[.int .u32 (sS I).1.x.jU,.int .u32 (sS I).1.x.id,.int .u64 (sS I).1.x.len],.bool (sS I).2])∧∃F',Ca w' F' cb room n I∧Kp F w w'∧Nw w F F':=by
 obtain⟨f,nb,na,c,rfl,h1,h2,h3,h4,h5,h6⟩:=h;cases hI:I with
 |nil=>
  rw[hI]at h2;refine(O9 h1 h2 h6).mono ?_;rintro e w' ⟨rfl,hk⟩;exact⟨rfl,_,⟨f,nb,na,c,rfl,h1.old hk,h2,h3,h4,h5,h6⟩,hk.mono (fun _ _ x=>x.elim),Nw.refl _ _⟩
 |cons x T=>
  rw[←hI];cases hB:c.B with
  |nil=>
   refine(H8 h1 h2 h3 hB h6 hI hT hg).mono ?_;rintro e w' ⟨rfl,f',c',a1,a2,a3,a4,_,_⟩;exact⟨by rw[hI];rfl,_,⟨f',nb,na,c',rfl,a1,a3,a4,h4,h5,h6⟩,a2.kp,a2.nw⟩
  |cons b B'=>
   obtain⟨T',hx⟩:=h2.Bh hB;refine(H7 h1 h2 h6 hB).mono ?_;rintro e w' ⟨rfl,hk⟩;exact⟨by rw[hx];rfl,_,⟨f,nb,na,c,rfl,h1.old hk,h2,h3,h4,h5,h6⟩,hk.mono (fun _ _ x=>x.elim),Nw.refl _ _⟩
theorem acK {w:World} {F:Nat→Prop} {cb room n:Nat} {x:It} {T:List It} (h:Ca w F cb room n (x::T)) (hT:Tab w) (hg:¬F 0):
 Calls Tryz.prog 286 #[.pointer (some ⟨cb,0,none⟩)] w fun e w'=>(∃x y z,e=.returned (.tuple #[x,y,z]))∧∃F',Ca w' F' cb room n T∧Kp F w w'∧Nw w F F':=by
 obtain⟨f,nb,na,c,rfl,h1,h2,h3,h4,h5,h6⟩:=h;cases hB:c.B with
 |nil=>
  refine(Xq h1 h2 h3 hB h6 rfl hT hg).mono ?_;rintro e w' ⟨he,f',c',a1,a2,a3,a4⟩;exact⟨he,_,⟨f',nb,na,c',rfl,a1,a3,a4,h4,h5,h6⟩,a2.kp,a2.nw⟩
 |cons b B'=>
  have hp:=h2.ZW h3 hB;refine(Xp h1 h2 h6 hB).mono ?_;rintro e w' ⟨he,f',a1,a2,a3⟩;exact⟨he,_,⟨f',nb,na,{c with B:=B'},rfl,a1,by rw[a3];exact hp.1,by rw[a3];exact hp.2,h4,h5,h6⟩,a2.kp,a2.nw⟩
end Go.Proofs.YtjiehhlghjnfhaaGreatDoor.cq
namespace Go.Proofs.YtjiehhlghjnfhaaGreatDoor
open Go Go.RowKit Go.Shelf
set_option maxRecDepth 100000 in
theorem aah {Q:World→Prop} {w:World} {hb r fl id ln:Nat} (H:∀W,Kp none' w W→Calls Tryz.prog 287 #[.pointer (some ⟨hb,0,none⟩),.int .u64 r,.agg #[.int .u32 fl,.int .u32 id,.int .u64 ln]] W fun e w'=>(∃x:Bool,e=.returned (.bool x))∧Q w'):
 Calls Tryz.prog 284 #[.agg #[.pointer (some ⟨hb,0,none⟩)],.int .u64 r,.agg #[.int .u32 fl,.int .u32 id,.int .u64 ln]] w fun e w'=>e=.returned (.tuple #[])∧Q w':=by
 have H:=ae H;have HK:=ae (((Kp.refl none' w).alloc (.cells #[.pointer (some ⟨hb,0,none⟩)] 293)).alloc (.cells #[.int .u32 fl,.int .u32 id,.int .u64 ln] 62))
 go_enter Tryz.func284,Tryz.ntmps284
 go_wp2_with fail
 refine(H.out _ HK.out).mono ?_;rintro e w' ⟨⟨x,rfl⟩,hq⟩;have HQ:=ae hq;clear hq
 go_wp2_with fail
 go_end0
 exact⟨rfl,HQ.out⟩
set_option maxRecDepth 100000 in
theorem acL {Q:World→Prop} {w:World} {hb:Nat} (H:∀W,Kp none' w W→Calls Tryz.prog 286 #[.pointer (some ⟨hb,0,none⟩)] W fun e w'=>(∃x y z,e=.returned (.tuple #[x,y,z]))∧Q w'):
 Calls Tryz.prog 283 #[.agg #[.pointer (some ⟨hb,0,none⟩)]] w fun e w'=>e=.returned (.tuple #[])∧Q w':=by
 have H:=ae H;have HK:=ae ((Kp.refl none' w).alloc (.cells #[.pointer (some ⟨hb,0,none⟩)] 293))
 go_enter Tryz.func283,Tryz.ntmps283
 go_wp2_with fail
 refine(H.out _ HK.out).mono ?_;rintro e w' ⟨⟨x,y,z,rfl⟩,hq⟩;have HQ:=ae hq;clear hq
 go_wp2_with fail
 go_end0
 exact⟨rfl,HQ.out⟩
set_option maxRecDepth 100000 in
theorem aai {w:World} {F:Nat→Prop} {cb room n:Nat} {I:List It} (h:cq.Ca w F cb room n I) (hT:Tab w) (hg:¬F 0):
 Calls Tryz.prog 282 #[.agg #[.pointer (some ⟨cb,0,none⟩)]] w fun e w'=>e=.returned (.tuple #[.int .u64 (sS I).1.rank,.agg #[.int .u32 (sS I).1.x.jU,.int .u32 (sS I).1.x.id,.int .u64 (sS I).1.x.len],.bool (sS I).2])∧∃F',cq.Ca w' F' cb room n I∧Kp F w w'∧Nw w F F':=by
 have hlt:=fun b hb=>h.lt (b:=b) hb
 have I7:=ae hlt;have H:=ae (fun W (k:Kp none' w W)=>cq.aag (h.old k) (hT.kp k (fun x=>x)) hg);have HK:=ae (((Kp.refl none' w).alloc (.cells #[.pointer (some ⟨cb,0,none⟩)] 293)).alloc (.cells #[.int .u32 0,.int .u32 0,.int .u64 0] 62));have hsz:((w.alloc (.cells #[.pointer (some ⟨cb,0,none⟩)] 293)).alloc (.cells #[.int .u32 0,.int .u32 0,.int .u64 0] 62)).heap.size=w.heap.size+2:=by simp
 have HB:Hid (ag ((w.alloc (.cells #[.pointer (some ⟨cb,0,none⟩)] 293)).alloc (.cells #[.int .u32 0,.int .u32 0,.int .u64 0] 62)) (w.heap.size+1) [.int .u32 0,.int .u32 0,.int .u64 0] 62):=ae (by
  have:=ag.new (w.alloc (.cells #[.pointer (some ⟨cb,0,none⟩)] 293)) [.int .u32 0,.int .u32 0,.int .u64 0] 62
  simpa using this)
 clear h hT hg hlt;obtain⟨⟨⟨r,⟨fl,id,ln⟩⟩,is⟩,hp⟩:∃x,sS I=x:=⟨_,rfl⟩
 rw[hp]at H ⊢;clear hp;simp only at H ⊢;refine ay ?_;intro PP HP
 go_enter Tryz.func282,Tryz.ntmps282
 go_wp2_with fail
 refine(H.out _ HK.out).mono ?_;rintro e w2 ⟨rfl,F',h2,k2,n2⟩;have HB2:=ae (HB.out.kp k2 (fun e=>by have:=I7.out _ e;omega));have H2:=ae h2;have N2:=ae n2;have K2:=ae ((HK.out.mono (fun _ _ x=>x.elim)).trans k2);clear h2 k2 n2;have b0:=HB2.out.cell 0 rfl;have b1:=HB2.out.cell 1 rfl;have b2:=HB2.out.cell 2 rfl;have bf:=fun j=>HB2.out.fz j
 go_wp2_with fail
 have ks:Kp (fun b=>b=w.heap.size+1) w2 (((w2.setCell ⟨w.heap.size+1,0,none⟩ (.int .u32 (fl:Int))).setCell ⟨w.heap.size+1,1,none⟩ (.int .u32 (id:Int))).setCell ⟨w.heap.size+1,2,none⟩ (.int .u64 (ln:Int))):=(((Kp.refl (fun b=>b=w.heap.size+1) w2).set (p:=⟨w.heap.size+1,0,none⟩) (.inl rfl) _).set (p:=⟨w.heap.size+1,1,none⟩) (.inl rfl) _).set (p:=⟨w.heap.size+1,2,none⟩) (.inl rfl) _;have hn:∀b,F' b→F b∨w.heap.size+2≤b:=fun b hb=>by rw[←hsz];exact N2.out b hb
 exact gY (by exact rfl) ((((HB2.out.set 0 (.int .u32 (fl:Int))).set 1 (.int .u32 (id:Int))).set 2 (.int .u64 (ln:Int)))) _ Tryz.underlying62 rfl fZ (by exact rfl) (HP.out _ _ ⟨rfl,F',H2.out.kp ks (fun b hb e=>by
  rcases hn b hb with h|h
  ·have:=I7.out _ h;omega
  ·omega),K2.out.then ks (fun i hi e=>by omega),fun b hb=>(hn b hb).imp_right (fun h=>by omega)⟩)
def Jq (b:Nat):Value:=.iface 293 (.agg #[.pointer (some ⟨b,0,none⟩)])
set_option maxRecDepth 100000 in
theorem acM (c:mF) (v:Value) (w:World) (hb:c.back=2) (h1:1≤c.aI) (h2:c.aI≤4096) (h3:1≤c.levels) (h4:c.levels≤3):
 Calls Tryz.prog 89 #[.agg (lC c v).toArray] w fun e w'=>∃b F,e=.returned (Jq b)∧cq.Ca w' F b c.aI.toNat 0 []∧(∀b,F b→w.heap.size≤b)∧Kp none' w w':=by
 obtain⟨rk,bk,lv,qu,pk,bt,sh,mt,rt,bu,fl⟩:=c;simp only at hb h1 h2 h3 h4;subst hb;obtain⟨p,rfl⟩:∃p:Nat,pk=p:=⟨pk.toNat,by omega⟩
 obtain⟨n,rfl⟩:∃n:Nat,lv=n:=⟨lv.toNat,by omega⟩
 have HN:=ae (fun W=>cq.acH p n (by omega) (by omega) ⟨by omega,by omega⟩ W);have HB0:=ae (ag.new w [.int .i64 rk,.int .i64 2,.int .i64 n,.int .i64 qu,.int .i64 p,.int .u64 bt,.int .i64 sh,.int .u64 mt,.int .u64 rt,.int .u64 bu,v] 25);have aB:=ae ((Kp.refl none' w).alloc (.cells #[.int .i64 rk,.int .i64 2,.int .i64 n,.int .i64 qu,.int .i64 p,.int .u64 bt,.int .i64 sh,.int .u64 mt,.int .u64 rt,.int .u64 bu,v] 25));refine ay ?_;intro PP HP;simp only[lC]at*
 go_enter Tryz.func89,Tryz.ntmps89
 go_wp2_with fail
 refine(HN.out _).mono ?_;rintro e w2 ⟨b,F,rfl,hp,hF,hk⟩;have HH:=ae hp;have HF:=ae hF;have HK:=ae (aB.out.trans hk);clear hp hF hk
 go_wp2_with fail
 exact HP.out _ _ ⟨b,F,rfl,by simpa using HH.out,fun x hx=>by have:=HF.out x hx;have:=aB.out.size;omega,HK.out⟩
end Go.Proofs.YtjiehhlghjnfhaaGreatDoor
namespace Go.Proofs.YtjiehhlghjnfhaaGreatDoor
def ad (N a d:Nat):Nat:=if a+d<N then a+d else a+d-N
def dst (N a b:Nat):Nat:=if a≤b then b-a else b+N-a
theorem jX {N a d:Nat} (ha:a<N) (hd:d<N):ad N a d<N:=by unfold ad;split<;>omega
theorem EP {N a:Nat} (ha:a<N):ad N a 0=a:=by unfold ad;split<;>omega
theorem uM {N a b:Nat} (ha:a<N) (hb:b<N):dst N a b<N:=by unfold dst;split<;>omega
theorem qU {N a b:Nat} (ha:a<N) (hb:b<N):ad N a (dst N a b)=b:=by unfold ad dst;split<;>split<;>omega
theorem xm {N a d:Nat} (ha:a<N) (hd:d<N):dst N a (ad N a d)=d:=by unfold ad dst;split<;>split<;>omega
theorem xn {N a d e:Nat} (ha:a<N) (hd:d<N) (he:e<N) (h:ad N a d=ad N a e):d=e:=by
 have:=congrArg (dst N a) h
 rwa [xm ha hd,xm ha he]at this
theorem uN {N a d e:Nat} (ha:a<N) (h:d+e<N):ad N (ad N a d) e=ad N a (d+e):=by unfold ad;split<;>split<;>split<;>omega
theorem MG {N a d e:Nat} (ha:a<N) (hde:d≤e) (he:e<N):ad N (ad N a d) (e-d)=ad N a e:=by rw[uN ha (by omega),show d+(e-d)=e by omega]
section
variable {V:Type}
abbrev bD (V:Type):=List (Option (Nat×V))
def bJ (S:bD V) (i:Nat):Option (Nat×V):=S.getD i none
theorem fU (S:bD V) (p i:Nat) (e:Option (Nat×V)) (hp:p<S.length):bJ (S.set p e) i=if i=p then e else bJ S i:=by
 unfold bJ;by_cases h:i=p
 ·subst h;rw[if_pos rfl,List.getD_eq_getElem?_getD,List.getElem?_set_self hp];rfl
 ·rw[if_neg h,List.getD_eq_getElem?_getD,List.getElem?_set_ne (fun x=>h x.symm),List.getD_eq_getElem?_getD]
structure jE (hm:Nat→Nat) (S:bD V):Prop where
 home:∀id,hm id<S.length
 path:∀i id x,i<S.length→bJ S i=some (id,x)→∀d,d<dst S.length (hm id) i→bJ S (ad S.length (hm id) d)≠none
 one:∀i j id x y,i<S.length→j<S.length→bJ S i=some (id,x)→bJ S j=some (id,y)→i=j
structure nU (hm:Nat→Nat) (S:bD V) (id d:Nat):Prop where
 lt:d<S.length
 way:∀e,e<d→∃k x,bJ S (ad S.length (hm id) e)=some (k,x)∧k≠id
 fin:bJ S (ad S.length (hm id) d)=none∨∃x,bJ S (ad S.length (hm id) d)=some (id,x)
theorem nU.vV {hm:Nat→Nat} {S:bD V} (h:jE hm S) {id d:Nat} (f:nU hm S id d) (hn:bJ S (ad S.length (hm id) d)=none) (i:Nat) (x:V) (hi:i<S.length):bJ S i≠some (id,x):=by
 intro he;have hp:=h.path i id x hi he;have hd:=qU (h.home id) hi;have hl:=uM (h.home id) hi;rcases Nat.lt_trichotomy d (dst S.length (hm id) i)with h1|h1|h1
 ·exact hp d h1 hn
 ·rw[h1,hd,he]at hn;cases hn
 ·obtain⟨k,y,h2,h3⟩:=f.way _ h1;rw[hd,he]at h2;simp only[Option.some.injEq,Prod.mk.injEq]at h2;exact h3 h2.1.symm
theorem nU.unique {hm:Nat→Nat} {S:bD V} {id d e:Nat} (f:nU hm S id d) (g:nU hm S id e):d=e:=by
 rcases Nat.lt_trichotomy d e with h|h|h
 ·obtain⟨k,x,h1,h2⟩:=g.way d h;rcases f.fin with h3|⟨y,h3⟩
  ·rw[h3]at h1;cases h1
  ·rw[h3]at h1;simp only[Option.some.injEq,Prod.mk.injEq]at h1;exact absurd h1.1.symm h2
 ·exact h
 ·obtain⟨k,x,h1,h2⟩:=f.way e h;rcases g.fin with h3|⟨y,h3⟩
  ·rw[h3]at h1;cases h1
  ·rw[h3]at h1;simp only[Option.some.injEq,Prod.mk.injEq]at h1;exact absurd h1.1.symm h2
theorem jE.put {hm:Nat→Nat} {S:bD V} (h:jE hm S) {id d:Nat} (f:nU hm S id d) (hn:bJ S (ad S.length (hm id) d)=none) (x:V):jE hm (S.set (ad S.length (hm id) d) (some (id,x))):=by
 have hp:=jX (h.home id) f.lt;have hno:=f.vV h hn;generalize hpp:ad S.length (hm id) d=p at*;constructor
 ·intro k;rw[List.length_set];exact h.home k
 ·intro i k y hi he e hlt;rw[List.length_set]at hi hlt ⊢;rw[fU S p _ _ hp];split
  ·simp
  ·rename_i hne
   rw[fU S p _ _ hp]at he;split at he
   ·rename_i Xu
    simp only[Option.some.injEq,Prod.mk.injEq]at he;obtain⟨rfl,rfl⟩:=he;subst Xu;rw[←hpp,xm (h.home id) f.lt]at hlt;obtain⟨k,y,h2,_⟩:=f.way e hlt;rw[h2];simp
   ·exact h.path i k y hi he e hlt
 ·intro i j k y z hi hj rW kX;rw[List.length_set]at hi hj;rw[fU S p _ _ hp]at rW kX;split at rW
  ·rename_i h1
   split at kX
   ·rename_i h2;omega
   ·simp only[Option.some.injEq,Prod.mk.injEq]at rW;obtain⟨rfl,rfl⟩:=rW;exact absurd kX (hno j z hj)
  ·split at kX
   ·simp only[Option.some.injEq,Prod.mk.injEq]at kX;obtain⟨rfl,rfl⟩:=kX;exact absurd rW (hno i y hi)
   ·exact h.one i j k y z hi hj rW kX
theorem jE.turn {hm:Nat→Nat} {S:bD V} (h:jE hm S) {p id:Nat} {x:V} (hp:p<S.length) (he:bJ S p=some (id,x)) (y:V):jE hm (S.set p (some (id,y))):=by
 constructor
 ·intro k;rw[List.length_set];exact h.home k
 ·intro i k z hi CY e hlt;rw[List.length_set]at hi hlt ⊢;rw[fU S p _ _ hp];split
  ·simp
  ·rw[fU S p _ _ hp]at CY;split at CY
   ·rename_i Xu
    simp only[Option.some.injEq,Prod.mk.injEq]at CY;obtain⟨rfl,rfl⟩:=CY;subst Xu;exact h.path i id x hi he e hlt
   ·exact h.path i k z hi CY e hlt
 ·intro i j k z u hi hj rW kX;rw[List.length_set]at hi hj;rw[fU S p _ _ hp]at rW kX;have key:∀(i:Nat) (z:V),(if i=p then some (id,y)else bJ S i)=some (k,z)→∃z',bJ S i=some (k,z'):=by
   intro i z hz;split at hz
   ·rename_i Xu
    simp only[Option.some.injEq,Prod.mk.injEq]at hz;obtain⟨rfl,rfl⟩:=hz;subst Xu;exact⟨x,he⟩
   ·exact⟨z,hz⟩
  obtain⟨z',h1⟩:=key i z rW;obtain⟨u',h2⟩:=key j u kX;exact h.one i j k z' u' hi hj h1 h2
structure ER (hm:Nat→Nat) (C:bD V) (h k m:Nat):Prop where
 hh:h<C.length
 hk:1≤k
 km:k≤m
 mN:m<C.length
 hole:bJ C h=none
 used:∀r,1≤r→r<m→bJ C (ad C.length h r)≠none
 fin:bJ C (ad C.length h m)=none
 home:∀id,hm id<C.length
 path:∀i id x,i<C.length→bJ C i=some (id,x)→∀d,d<dst C.length (hm id) i→bJ C (ad C.length (hm id) d)≠none∨(ad C.length (hm id) d=h∧∃r,k≤r∧r<m∧i=ad C.length h r)
 one:∀i j id x y,i<C.length→j<C.length→bJ C i=some (id,x)→bJ C j=some (id,y)→i=j
theorem ER.start {hm:Nat→Nat} {S:bD V} (hS:jE hm S) {h m id:Nat} {x:V} (hh:h<S.length) (he:bJ S h=some (id,x)) (hm1:1≤m) (hmN:m<S.length) (hu:∀r,1≤r→r<m→bJ S (ad S.length h r)≠none) (hf:bJ S (ad S.length h m)=none):ER hm (S.set h none) h 1 m:=by
 have hne:∀r,1≤r→r<S.length→ad S.length h r≠h:=fun r h1 h2 e=>by
  have:=xn (e:=0) hh h2 (by omega) (e.trans (EP hh).symm);omega
 refine⟨by rw[List.length_set];exact hh,Nat.le_refl _,hm1,by rw[List.length_set];exact hmN,by rw[fU S h _ _ hh,if_pos rfl],?_,?_,by intro k;rw[List.length_set];exact hS.home k,?_,?_⟩
 ·intro r h1 h2;rw[List.length_set,fU S h _ _ hh,if_neg (hne r h1 (by omega))];exact hu r h1 h2
 ·rw[List.length_set,fU S h _ _ hh,if_neg (hne m hm1 hmN)];exact hf
 ·intro i k y hi CY d hd;rw[List.length_set]at hi hd ⊢;rw[fU S h _ _ hh]at CY;split at CY
  ·cases CY
  ·rename_i hih
   have ES:=hS.path i k y hi CY;have hlt:=uM (hS.home k) hi;have had:=qU (hS.home k) hi;rw[fU S h _ _ hh];by_cases hx:ad S.length (hm k) d=h
   ·right
    refine⟨hx,dst S.length (hm k) i-d,by omega,?_,?_⟩
    ·refine Classical.byContradiction fun hc=> ?_
     by_cases hq:d+m<dst S.length (hm k) i
     ·have:=ES (d+m) hq;rw[←uN (hS.home k) (by omega),hx]at this;exact this hf
     ·have:d+m=dst S.length (hm k) i:=by omega
      rw[←this,←uN (hS.home k) (by omega),hx]at had;rw[had]at hf;rw[hf]at CY;cases CY
    ·have:=MG (hS.home k) (Nat.le_of_lt hd) hlt;rw[hx]at this;rw[this,had]
   ·left
    rw[if_neg hx];exact ES d hd
 ·intro i j k y z hi hj rW kX;rw[List.length_set]at hi hj;rw[fU S h _ _ hh]at rW kX;split at rW
  ·cases rW
  ·split at kX
   ·cases kX
   ·exact hS.one i j k y z hi hj rW kX
theorem ER.move {hm:Nat→Nat} {C:bD V} {h k m:Nat} (D:ER hm C h k m) (ZA:k<m) {id:Nat} {x:V} (he:bJ C (ad C.length h k)=some (id,x)) (hge:k≤dst C.length (hm id) (ad C.length h k)):
 ER hm ((C.set h (some (id,x))).set (ad C.length h k) none) (ad C.length h k) 1 (m-k):=by
 have hkN:k<C.length:=Nat.lt_trans ZA D.mN;have hmN:=D.mN;have hk1:=D.hk;have hne:∀r,1≤r→r<C.length→ad C.length h r≠h:=fun r h1 h2 e=>by
  have:=xn (e:=0) D.hh h2 (by omega) (e.trans (EP D.hh).symm);omega
 obtain⟨a,ha⟩:∃a,ad C.length h k=a:=⟨_,rfl⟩
 have haN:a<C.length:=by rw[←ha];exact jX D.hh hkN
 have hah:a≠h:=by rw[←ha];exact hne k D.hk hkN
 rw[ha]at he hge ⊢;have hlen:((C.set h (some (id,x))).set a none).length=C.length:=by rw[List.length_set,List.length_set]
 have hT:∀i,bJ ((C.set h (some (id,x))).set a none) i=if i=a then none else if i=h then some (id,x)else bJ C i:=by
  intro i;rw[fU _ a _ _ (by rw[List.length_set];exact haN),fU C h _ _ D.hh]
 have Xv:∀r,k+r<C.length→ad C.length a r=ad C.length h (k+r):=fun r hr=>by rw[←ha];exact uN D.hh hr
 refine⟨by rw[hlen];exact haN,Nat.le_refl _,by omega,by rw[hlen];omega,by rw[hT,if_pos rfl],?_,?_,by intro j;rw[hlen];exact D.home j,?_,?_⟩
 ·intro r h1 h2;have e1:=Xv r (by omega);rw[hlen,hT,if_neg,if_neg,e1]
  ·exact D.used (k+r) (by omega) (by omega)
  ·rw[e1];exact hne (k+r) (by omega) (by omega)
  ·intro e;rw[e1,←ha]at e;have:=xn D.hh (by omega) hkN e;omega
 ·have e1:=Xv (m-k) (by omega);rw[show k+(m-k)=m by omega]at e1;rw[hlen,hT,e1,if_neg,if_neg]
  ·exact D.fin
  ·exact hne m (by omega) hmN
  ·intro e;rw[←ha]at e;have:=xn D.hh hmN hkN e;omega
 ·intro i j y hi kX d hd;rw[hlen]at hi hd ⊢;rw[hT]at kX ⊢;by_cases hia:i=a
  ·rw[if_pos hia]at kX;cases kX
  rw[if_neg hia]at kX;by_cases hih:i=h
  ·
   rw[if_pos hih]at kX;simp only[Option.some.injEq,Prod.mk.injEq]at kX;obtain⟨rfl,rfl⟩:=kX;subst hih;left
   have hDa:=uM (D.home id) haN;have hDh:=uM (D.home id) D.hh;have hdd:dst C.length (hm id) i+k=dst C.length (hm id) a:=by
    have e1:ad C.length (hm id) (dst C.length (hm id) a-k)=i:=by
     have e2:=uN (e:=k) (D.home id) (show dst C.length (hm id) a-k+k<C.length by omega);rw[show dst C.length (hm id) a-k+k=dst C.length (hm id) a by omega,qU (D.home id) haN]at e2;have e3:=jX (D.home id) (show dst C.length (hm id) a-k<C.length by omega);have e4:ad C.length (ad C.length (hm id) (dst C.length (hm id) a-k)) k=ad C.length i k:=by rw[e2,ha]
     revert e4
     generalize ad C.length (hm id) (dst C.length (hm id) a-k)=q at e3 ⊢;unfold ad;split<;>split<;>omega
    have:=xm (D.home id) (show dst C.length (hm id) a-k<C.length by omega);rw[e1]at this;omega
   have hne2:ad C.length (hm id) d≠a:=by
    intro e;have:=xn (D.home id) (by omega) hDa (e.trans (qU (D.home id) haN).symm);omega
   have abz:ad C.length (hm id) d≠i:=by
    intro e;have:=xn (D.home id) (by omega) hDh (e.trans (qU (D.home id) D.hh).symm);omega
   rw[if_neg hne2,if_neg abz];rcases D.path a id x haN he d (by omega)with h1|⟨h1,_⟩
   ·exact h1
   ·exact absurd h1 abz
  rw[if_neg hih]at kX;have ES:=D.path i j y hi kX;have hlt:=uM (D.home j) hi;have had:=qU (D.home j) hi;by_cases hx:ad C.length (hm j) d=a
  ·right
   refine⟨hx,dst C.length (hm j) i-d,by omega,?_,?_⟩
   ·refine Classical.byContradiction fun hc=> ?_
    have hq2:ad C.length a (m-k)=ad C.length h m:=by rw[Xv (m-k) (by omega),show k+(m-k)=m by omega]
    have hfin:=D.fin;by_cases hq:d+(m-k)<dst C.length (hm j) i
    ·rcases ES (d+(m-k)) hq with h1|⟨h1,_⟩
     ·rw[←uN (D.home j) (by omega),hx,hq2]at h1;exact h1 hfin
     ·rw[←uN (D.home j) (by omega),hx,hq2]at h1;exact hne m (by omega) hmN h1
    ·have:d+(m-k)=dst C.length (hm j) i:=by omega
     rw[←this,←uN (D.home j) (by omega),hx,hq2]at had;rw[had]at hfin;rw[hfin]at kX;cases kX
   ·have:=MG (D.home j) (Nat.le_of_lt hd) hlt;rw[hx]at this;rw[this,had]
  ·left
   rw[if_neg hx];by_cases hy:ad C.length (hm j) d=h
   ·rw[if_pos hy];simp
   ·rw[if_neg hy];rcases ES d hd with h1|⟨h1,_⟩
    ·exact h1
    ·exact absurd h1 hy
 ·intro i j n y z hi hj rW kX;rw[hlen]at hi hj;rw[hT]at rW kX;have key:∀i y,i<C.length→(if i=a then none else if i=h then some (id,x)else bJ C i)=some (n,y)→∃i',i'<C.length∧bJ C i'=some (n,y)∧(i'=i∧i≠h∧i≠a∨i'=a∧i=h):=by
   intro i y hi hz;split at hz
   ·cases hz
   ·rename_i q1
    split at hz
    ·rename_i q2
     simp only[Option.some.injEq,Prod.mk.injEq]at hz;obtain⟨rfl,rfl⟩:=hz;exact⟨a,haN,he,.inr ⟨rfl,q2⟩⟩
    ·rename_i q2
     exact⟨i,hi,hz,.inl ⟨rfl,q2,q1⟩⟩
  obtain⟨i',a1,a2,a3⟩:=key i y hi rW;obtain⟨j',b1,b2,b3⟩:=key j z hj kX;have:=D.one i' j' n y z a1 b1 a2 b2;rcases a3 with⟨_,_,_⟩|⟨_,_⟩<;>rcases b3 with⟨_,_,_⟩|⟨_,_⟩<;>omega
theorem ER.done {hm:Nat→Nat} {C:bD V} {h m:Nat} (D:ER hm C h m m):jE hm C:=
 ⟨D.home,fun i id x hi he d hd=>by
  rcases D.path i id x hi he d hd with h1|⟨_,r,h2,h3,_⟩
  ·exact h1
  ·omega,D.one⟩
def bG (S:bD V):List (Nat×V):=S.filterMap id
theorem vW (S:bD V) (p:Nat) (hp:p<S.length) (e:Option (Nat×V)):bG (S.set p e)=(S.take p).filterMap id++e.toList++(S.drop (p+1)).filterMap id:=by
 unfold bG;rw[List.set_eq_take_append_cons_drop,if_pos hp,List.filterMap_append];cases e with
 |none=>simp
 |some e=>simp
theorem yR (S:bD V) (p:Nat) (hp:p<S.length):bG S=(S.take p).filterMap id++(bJ S p).toList++(S.drop (p+1)).filterMap id:=by
 have h:=vW S p hp S[p];rw[List.set_getElem_self]at h;rw[h];unfold bJ;rw[List.getD_eq_getElem?_getD,List.getElem?_eq_getElem hp];rfl
theorem H9 (S:bD V) (p:Nat) (hp:p<S.length) (hn:bJ S p=none) (e:Nat×V):(bG (S.set p (some e))).Perm (e::bG S):=by
 rw[vW S p hp,yR S p hp,hn];simp only[Option.toList_some,Option.toList_none,List.append_nil,List.append_assoc,List.singleton_append];exact List.perm_middle
theorem mW (S:bD V) (e:Nat×V):e∈bG S↔∃i,i<S.length∧bJ S i=some e:=by
 unfold bG;rw[List.mem_filterMap];constructor
 ·rintro⟨o,ho,he⟩;obtain⟨i,hi,rfl⟩:=List.mem_iff_getElem.1 ho;exact⟨i,hi,by unfold bJ;rw[List.getD_eq_getElem?_getD,List.getElem?_eq_getElem hi];simpa using he⟩
 ·rintro⟨i,hi,he⟩;unfold bJ at he;rw[List.getD_eq_getElem?_getD,List.getElem?_eq_getElem hi]at he;exact⟨S[i],List.getElem_mem hi,by simpa using he⟩
theorem TZ (S:bD V):(bG S).length≤S.length:=List.length_filterMap_le _ _
theorem unused (S:bD V) (h:(bG S).length<S.length):∃i,i<S.length∧bJ S i=none:=by
 refine Classical.byContradiction fun hc=> ?_
 have:(bG S).length=S.length:=by
  unfold bG;have hall:∀o∈S,∃e,o=some e:=fun o ho=>by
   obtain⟨i,hi,rfl⟩:=List.mem_iff_getElem.1 ho;cases ho':S[i]with
   |none=>exact absurd ⟨i,hi,by unfold bJ;rw[List.getD_eq_getElem?_getD,List.getElem?_eq_getElem hi,ho'];rfl⟩ hc
   |some e=>exact⟨e,rfl⟩
  clear h hc;induction S with
  |nil=>rfl
  |cons o r ih=>
   obtain⟨e,rfl⟩:=hall o List.mem_cons_self;simp only[List.filterMap_cons,id_eq,List.length_cons];rw[ih (fun o ho=>hall o (List.mem_cons_of_mem _ ho))]
 omega
end
end Go.Proofs.YtjiehhlghjnfhaaGreatDoor
namespace Go.Proofs.YtjiehhlghjnfhaaGreatDoor
theorem T_ (x:Int) (k:Nat) (hk:k<63):bits .and .i64 x ((2:Int)^k-1)=x%2^k:=by
 have hp:(2:Nat)^k≤2^62:=Nat.pow_le_pow_right (by decide) (by omega);have hpos:0<(2:Nat)^k:=Nat.pow_pos (by decide);have e1:((2:Int)^k-1)=((2^k-1:Nat):Int):=by
  have:((2^k:Nat):Int)=(2:Int)^k:=by simp
  omega
 have h2:(BitVec.ofInt 64 ((2^k-1:Nat):Int)).toNat=2^k-1:=by
  rw[BitVec.ofInt_natCast,BitVec.toNat_ofNat];exact Nat.mod_eq_of_lt (by omega)
 have h1:((BitVec.ofInt 64 x).toNat:Int)=x%2^64:=by
  rw[BitVec.toNat_ofInt];omega
 rw[e1];show IntKind.i64.wrap ((BitVec.ofInt 64 x&&&BitVec.ofInt 64 ((2^k-1:Nat):Int)).toNat:Int)=_;rw[BitVec.toNat_and,h2,Nat.and_two_pow_sub_one_eq_mod];have hlt:(BitVec.ofInt 64 x).toNat%2^k<2^k:=Nat.mod_lt _ hpos;rw[IntWalk.i64_in _ (by omega)];have:(((BitVec.ofInt 64 x).toNat%2^k:Nat):Int)=((BitVec.ofInt 64 x).toNat:Int)%((2^k:Nat):Int):=by simp
 rw[this,h1];have hd:((2^k:Nat):Int)∣2^64:=by
  have:(2:Nat)^k∣2^64:=Nat.pow_dvd_pow 2 (by omega);have:=Int.natCast_dvd_natCast.2 this;simpa using this
 rw[Int.emod_emod_of_dvd _ hd];simp
def Pw (N:Nat):Prop:=∃k,k<62∧N=2^k
theorem H_ (N:Nat) (h:Pw N) (x:Nat):bits .and .i64 (x:Int) ((N:Int)-1)=((x%N:Nat):Int):=by
 obtain⟨k,hk,rfl⟩:=h;have:=T_ x k (by omega);simpa using this
theorem Pj (N:Nat) (h:Pw N) (a:Nat) (ha:a<N):bits .and .i64 ((a:Int)+1) ((N:Int)-1)=(ad N a 1:Nat):=by
 have:=H_ N h (a+1);rw[show((a+1:Nat):Int)=(a:Int)+1 by omega]at this;rw[this];unfold ad;split
 ·rw[Nat.mod_eq_of_lt (by omega)]
 ·have:a+1=N:=by omega
  rw[this,Nat.mod_self,Nat.sub_self]
def aV (N id:Nat):Nat:=id*2654435769%4294967296/128%N
theorem fA (N id:Nat) (h:0<N):aV N id<N:=Nat.mod_lt _ h
theorem Pm (N:Nat) (h:Pw N) (id:Nat):bits .and .i64 (((id:Int)*2654435769%4294967296)/128) ((N:Int)-1)=(aV N id:Nat):=by
 have:=H_ N h (id*2654435769%4294967296/128);have e:((id*2654435769%4294967296/128:Nat):Int)=((id:Int)*2654435769%4294967296)/128:=by omega
 rw[e]at this;exact this
theorem Pw.pos {N:Nat} (h:Pw N):0<N:=by obtain⟨k,_,rfl⟩:=h;exact Nat.pow_pos (by decide)
theorem least {P:Nat→Prop} (n:Nat) (h:P n):∃d,d≤n∧P d∧∀e,e<d→¬P e:=by
 induction n using Nat.strongRecOn with
 |_ n ih=>
  by_cases hc:∃m,m<n∧P m
  ·obtain⟨m,h1,h2⟩:=hc;obtain⟨d,a,b,c⟩:=ih m h1 h2;exact⟨d,by omega,b,c⟩
  ·exact⟨n,Nat.le_refl _,h,fun e he hp=>hc ⟨e,he,hp⟩⟩
section
variable {V:Type}
theorem nU.there {hm:Nat→Nat} {S:bD V} (h:∀id,hm id<S.length) (id:Nat) (hu:∃i,i<S.length∧bJ S i=none):∃d,nU hm S id d:=by
 obtain⟨i,hi,hz⟩:=hu;obtain⟨d,h1,h2,h3⟩:=least (P:=fun d=>bJ S (ad S.length (hm id) d)=none∨∃x,bJ S (ad S.length (hm id) d)=some (id,x)) (dst S.length (hm id) i) (.inl (by rw[qU (h id) hi];exact hz));have hl:=uM (h id) hi;refine⟨d,by omega,fun e he=> ?_,h2⟩;have h4:=h3 e he;cases ht:bJ S (ad S.length (hm id) e)with
 |none=>exact absurd (.inl ht) h4
 |some ex=>
  obtain⟨k,x⟩:=ex;refine⟨k,x,rfl,fun hk=>h4 (.inr ⟨x,?_⟩)⟩;rw[ht,hk]
theorem nU.vX {hm:Nat→Nat} {S:bD V} (h:jE hm S) {id d:Nat} (f:nU hm S id d) (x:V):bJ S (ad S.length (hm id) d)=some (id,x)↔(id,x)∈bG S:=by
 have hp:=jX (h.home id) f.lt;constructor
 ·intro he;exact(mW S _).2 ⟨_,hp,he⟩
 ·intro hm;obtain⟨i,hi,he⟩:=(mW S _).1 hm;rcases f.fin with h1|⟨y,h1⟩
  ·exact absurd he (f.vV h h1 i x hi)
  ·have:=h.one _ _ id y x hp hi h1 he;rw[this];exact he
theorem xq (n:Nat):bG (List.replicate n (none:Option (Nat×V)))=[]:=by
 unfold bG;induction n with
 |zero=>rfl
 |succ n ih=>rw[List.replicate_succ,List.filterMap_cons];exact ih
theorem MH (n i:Nat):bJ (List.replicate n (none:Option (Nat×V))) i=none:=by
 unfold bJ;rw[List.getD_eq_getElem?_getD,List.getElem?_replicate];split<;>rfl
theorem jE.nil {hm:Nat→Nat} (n:Nat) (h:∀id,hm id<n):jE hm (List.replicate n (none:Option (Nat×V))):=
 ⟨fun id=>by rw[List.length_replicate];exact h id,fun i id x _ he=>(by rw[MH]at he;cases he),fun i j id x y _ _ he=>(by rw[MH]at he;cases he)⟩
theorem Pn (S:bD V) (j:Nat) (hj:j<S.length):bG (S.take (j+1))=bG (S.take j)++(bJ S j).toList:=by
 unfold bG bJ;rw[List.take_succ_eq_append_getElem hj,List.filterMap_append,List.getD_eq_getElem?_getD,List.getElem?_eq_getElem hj];cases S[j]<;>rfl
end
end Go.Proofs.YtjiehhlghjnfhaaGreatDoor
namespace Go.Proofs.YtjiehhlghjnfhaaGreatDoor.eQ
open Go.RowKit Go.Proofs.YtjiehhlghjnfhaaGreatDoor
structure Th where
 p:Int
 b:Nat
 m:Nat
def enx (x:Th):List Value:=[.int .i64 x.p,.int .u64 x.b,.int .u64 x.m]
abbrev en (x:Th):Value:=.agg #[.int .i64 x.p,.int .u64 x.b,.int .u64 x.m]
def zx:Th:=⟨0,0,0⟩
def fJ:Option (Nat×Th)→List Value
 |none=>[.int .u32 0,.bool false,.int .i64 0,.int .u64 0,.int .u64 0]
 |some (id,x)=>[.int .u32 id,.bool true,.int .i64 x.p,.int .u64 x.b,.int .u64 x.m]
theorem dZ (o:Option (Nat×Th)):(fJ o).length=5:=by cases o<;>rfl
structure iT (w:World) (tb sb:Nat) (S:bD Th) (n room:Nat):Prop where
 top:ag w tb [.slice (some ⟨sb,0,none⟩) S.length S.length,.int .i64 n,.int .i64 room] 368
 Ak:ag w sb (S.flatMap fJ) 370
structure vk (S:bD Th) (n room:Nat):Prop where
 pw:Pw S.length
 inv:jE (aV S.length) S
 cnt:(bG S).length=n
 load:4*n≤3*S.length
 nr:n≤room
 r1:1≤room
 r2:room≤4096
 ids:∀e∈bG S,e.1<4294967296
 b1:8≤S.length
 b2:S.length≤8192
theorem iT.kp {S':Nat→Prop} {w w':World} {tb sb:Nat} {S:bD Th} {n room:Nat} (h:iT w tb sb S n room) (K:Kp S' w w') (h1:¬S' tb) (h2:¬S' sb):iT w' tb sb S n room:=⟨h.top.kp K h1,h.Ak.kp K h2⟩
theorem iT.old {w w':World} {tb sb:Nat} {S:bD Th} {n room:Nat} (h:iT w tb sb S n room) (K:Kp none' w w'):iT w' tb sb S n room:=h.kp K id id
theorem iT.cell {w:World} {tb sb:Nat} {S:bD Th} {n room:Nat} (h:iT w tb sb S n room) (i k:Nat) {u:Value} (hk:k<5) (hu:(fJ (bJ S i))[k]? =some u) (hi:i<S.length):w.cell? ⟨sb,i*5+k,none⟩=some u:=by
 refine h.Ak.cell _ ?_;rw[flat_get fJ 5 dZ _ _ _ hk,List.getElem?_eq_getElem hi];unfold bJ at hu;rw[List.getD_eq_getElem?_getD,List.getElem?_eq_getElem hi]at hu;simpa using hu
theorem Jr (w:World) (tb sb:Nat) (S:bD Th) (n room:Nat) (h:iT w tb sb S n room) (hN:0<S.length):Calls Tryz.prog 193 #[.pointer (some ⟨tb,0,none⟩)] w fun e w'=>e=.returned (.bool true)∧w=w':=by
 have c:=h.top.cell 0 rfl;have hNi:(0:Int)<S.length:=by omega
 clear h
 go_enter Tryz.func193,Tryz.ntmps193
 go_wp2
 go_ret
 exact⟨rfl,rfl⟩
theorem acN (w:World) (tb sb:Nat) (S:bD Th) (n room:Nat) (h:iT w tb sb S n room) (hp:Pw S.length) (hb:S.length≤8192) (id:Nat) (hid:id<4294967296):Calls Tryz.prog 221 #[.pointer (some ⟨tb,0,none⟩),.int .u32 id] w fun e w'=>e=.returned (.int .i64 (aV S.length id))∧w=w':=by
 have c:=h.top.cell 0 rfl;have hN:=hp.pos;have hm:=Pm S.length hp id;have HM:=ae hm;clear h hm
 go_enter Tryz.func221,Tryz.ntmps221
 go_wp2
 go_ret
 exact⟨by rw[←HM.out];rfl,rfl⟩
set_option maxRecDepth 100000 in
theorem acO (w:World) (tb sb:Nat) (S:bD Th) (n room:Nat) (h:iT w tb sb S n room) (hp:Pw S.length) (hb:S.length≤8192) (id:Nat) (hid:id<4294967296) (hu:∃i,i<S.length∧bJ S i=none):
 Calls Tryz.prog 194 #[.pointer (some ⟨tb,0,none⟩),.int .u32 id] w fun e w'=>(∃d,nU (aV S.length) S id d∧e=.returned (.int .i64 (ad S.length (aV S.length id) d:Nat)))∧w=w':=by
 have c:=h.top.cell 0 rfl;have hN:=hp.pos;have HM:=ae h;have HH:=ae (acN w tb sb S n room h hp hb id hid);have hh:=fA S.length id hN;obtain⟨d0,hd0,hz0⟩:∃d0,d0<S.length∧bJ S (ad S.length (aV S.length id) d0)=none:=by
  obtain⟨i,hi,hz⟩:=hu;exact⟨dst S.length (aV S.length id) i,uM hh hi,by rw[qU hh hi];exact hz⟩
 obtain⟨N,hNe⟩:∃N,S.length=N:=⟨_,rfl⟩
 have zO:Hid (∀d,d<N→(∀e,e<d→∃k x,bJ S (ad N (aV N id) e)=some (k,x)∧k≠id)→(bJ S (ad N (aV N id) d)=none∨∃x,bJ S (ad N (aV N id) d)=some (id,x))→nU (aV N) S id d):=by
  subst hNe;exact fun d h1 h2 h3=>⟨h1,h2,h3⟩
 have IQ:Hid (∀i k u,k<5→(fJ (bJ S i))[k]? =some u→i<N→w.cell? ⟨sb,i*5+k,none⟩=some u):=by
  subst hNe;exact fun i k u h1 h2 h3=>HM.out.cell i k h1 h2 h3
 rw[hNe]at c hN hh hd0 hz0 hb hp HH ⊢;have Gg:=ae (fun a ha=>Pj N hp a ha);clear h hu hNe HM;generalize aV N id=hm at*;have hz:=ae hz0;clear hz0
 go_enter Tryz.func194,Tryz.ntmps194
 go_wp2_with fail
 refine HH.out.mono ?_;rintro e w1 ⟨rfl,rfl⟩
 go_wp2_with fail
 go_loop [5] (fun i0=>∃d:Nat,i0=.int .i64 (ad N hm d:Nat)∧d≤d0∧Hid (∀e,e<d→∃k x,bJ S (ad N hm e)=some (k,x)∧k≠id)) (fun i0=>N-dst N hm (intOf i0).toNat)
 case atStart=>exact⟨0,by rw[EP hh],by omega,fun e he=>by omega⟩
 case round=>
  obtain⟨d,rfl,hd,hr⟩:=hrel;have hpl:=jX hh (show d<N by omega);have hdd:=xm hh (show d<N by omega);have hfa:=zO.out d (by omega) hr.out;obtain⟨q,hq⟩:∃q,ad N hm d=q:=⟨_,rfl⟩
  have had:d+1<N→ad N q 1=ad N hm (d+1):=fun h=>by rw[←hq];exact uN hh h
  rw[hq]at hpl hdd;have yu:(q:Int)<N:=by omega
  cases ht:bJ S q with
  |none=>
   have c1:=IQ.out q 1 (.bool false) (by omega) (by rw[ht];rfl) hpl;have HF:=ae (hfa (.inl (by rw[hq];exact ht)));clear hfa ht had hdd hr;rw[hq]
   go_wp2_with fail
   go_ret
   exact⟨⟨d,HF.out,by rw[hq];rfl⟩,rfl⟩
  |some ex=>
   obtain⟨k,x⟩:=ex;have c0:=IQ.out q 0 (.int .u32 k) (by omega) (by rw[ht];rfl) hpl;have c1:=IQ.out q 1 (.bool true) (by omega) (by rw[ht];rfl) hpl;simp only[Nat.add_zero]at c0;by_cases hk:k=id
   ·subst hk;have HF:=ae (hfa (.inr ⟨x,by rw[hq];exact ht⟩));clear hfa ht had hdd hr;rw[hq]
    go_wp2_with fail
    go_ret
    exact⟨⟨d,HF.out,by rw[hq];rfl⟩,rfl⟩
   ·have hkb:((k:Int) != (id:Int))=true:=by rw[bne_iff_ne];omega
    have hne:d≠d0:=fun e=>by have:=hz.out;rw[←e,hq,ht]at this;cases this
    have hmk:=Gg.out q hpl;have HR:Hid (∀e,e<d+1→∃k x,bJ S (ad N hm e)=some (k,x)∧k≠id):=fun e he=>by
     by_cases hed:e=d
     ·subst hed;exact⟨k,x,by rw[hq];exact ht,hk⟩
     ·exact hr.out e (by omega)
    have hda:=had (by omega);have hd1:=xm hh (show d+1<N by omega);clear hfa ht had hr hk;rw[hda]at hmk;rw[hq];obtain⟨q',hq'⟩:∃q',ad N hm (d+1)=q':=⟨_,rfl⟩
    rw[hq']at hmk hd1;have HQ':=ae hq';clear hq' hda
    go_wp2_with fail
    go_round
    case rel=>exact⟨d+1,by rw[HQ'.out],by omega,HR.out⟩
    case measure=>simp only[intOf,Int.toNat_natCast,hd1,hdd];omega
end Go.Proofs.YtjiehhlghjnfhaaGreatDoor.eQ
