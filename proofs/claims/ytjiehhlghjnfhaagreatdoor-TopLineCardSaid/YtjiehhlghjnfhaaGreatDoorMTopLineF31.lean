/- A port's number; how nobody's port stands; the example's configuration (layer 36). -/
import Derived.Test.YtjiehhlghjnfhaaGreatDoorMTopLineF30
import Derived.Test.YtjiehhlghjnfhaaGreatDoorMTopLineF6
import Derived.Test.YtjiehhlghjnfhaaGreatDoorMTopLineF25
import Derived.Test.YtjiehhlghjnfhaaGreatDoorMTopLineF2
import Derived.Test.YtjiehhlghjnfhaaGreatDoorMTopLineF0
import Derived.Test.YtjiehhlghjnfhaaGreatDoorMTopLineF10
set_option linter.unusedVariables false
set_option linter.unusedSimpArgs false
set_option maxHeartbeats 4000000
namespace Go.Proofs.YtjiehhlghjnfhaaGreatDoor
open Go Go.RowKit Go.Shelf Go.Maps
set_option maxRecDepth 100000 in
theorem ae4 {w:World} {f:iM} {p:Po} (h:iC w f p):Calls Tryz.prog 23 #[.pointer (some ⟨f.pb,0,none⟩)] w fun e w'=>e=.returned (.int .u32 p.num)∧w=w':=by
 have c9:=h.top.cell 9 rfl;clear h
 go_enter Tryz.func23,Tryz.ntmps23
 go_wp2
 go_ret
 exact⟨rfl,rfl⟩
def nC:List iW:=[⟨1,1,10,0,5000⟩,⟨2,1,20,0,50⟩]
def cS:mF:=⟨2,1,1,2,9,5000,0,1000,1000,1000,nC⟩
def Dc:List dI:=[⟨(0,0),(0,0),0,65535,1⟩]
def Gx:D8:=⟨cS,Dc,0,0,0,0⟩
set_option maxRecDepth 100000 in
theorem YB (w:World):Calls Tryz.prog 42 #[] w fun e w'=>∃b b2,e=.returned (.agg (dY Gx (.slice (some ⟨b,0,none⟩) 2 2) (.slice (some ⟨b2,0,none⟩) 1 1)).toArray)∧ag w' b (nC.flatMap gU) 197∧ag w' b2 (Dc.flatMap ja) 153∧w.heap.size≤b∧w.heap.size≤b2∧Kp none' w w':=by
 have HS:Hid (∀W,Calls Tryz.prog 81 #[] W fun e w'=>∃b,e=.returned (.agg #[.int .i64 2,.int .i64 1,.int .i64 1,.int .i64 2,.int .i64 9,.int .u64 100,.int .i64 0,.int .u64 10,.int .u64 1,.int .u64 10,.slice (some ⟨b,0,none⟩) 2 2])∧
  ag w' b [.int .u32 1,.int .u64 1,.int .u64 10,.int .u64 0,.int .u64 50,.int .u32 2,.int .u64 1,.int .u64 20,.int .u64 0,.int .u64 50] 197∧W.heap.size≤b∧Kp none' W w'):=ae (fun W=>adk W)
 have HR0:=ae (ag.new w [.int .i64 0,.int .i64 0,.int .i64 0,.int .i64 0,.int .i64 0,.int .u64 0,.int .i64 0,.int .u64 0,.int .u64 0,.int .u64 0,.slice none 0 0,.slice none 0 0,.int .u64 0,.int .u64 0,.int .u64 0,.int .u8 0] 28);have aB:=ae ((Kp.refl none' w).alloc (.cells #[.int .i64 0,.int .i64 0,.int .i64 0,.int .i64 0,.int .i64 0,.int .u64 0,.int .i64 0,.int .u64 0,.int .u64 0,.int .u64 0,.slice none 0 0,.slice none 0 0,.int .u64 0,.int .u64 0,.int .u64 0,.int .u8 0] 28))
 go_enter Tryz.func42,Tryz.ntmps42
 go_wp2_with fail
 refine(HS.out _).mono ?_;rintro e w1 ⟨b,rfl,hb1,hle,hk1⟩;have HB1:=ae hb1;have HR1:=ae (HR0.out.kp hk1 (fun x=>x));have ax:=ae (aB.out.trans hk1);have hbl:=hb1.lt;have c4:=hb1.cell 4 rfl;have z4:=hb1.fz 4;rw[World.size_alloc]at hle;have NK:=ae hle;clear hb1 hle hk1 HR0 aB
 go_upto_region 3 with fail
 have hk2:Kp none' w1 (w1.alloc (.cells #[.int .i64 2,.int .i64 1,.int .i64 1,.int .i64 2,.int .i64 9,.int .u64 5000,.int .i64 0,.int .u64 1000,.int .u64 1000,.int .u64 1000,.slice (some ⟨b,0,none⟩) 2 2] 25)):=(Kp.refl _ _).alloc _;have hc2:=ag.new w1 [.int .i64 2,.int .i64 1,.int .i64 1,.int .i64 2,.int .i64 9,.int .u64 5000,.int .i64 0,.int .u64 1000,.int .u64 1000,.int .u64 1000,.slice (some ⟨b,0,none⟩) 2 2] 25;obtain⟨W2,hW2⟩:∃W2,w1.alloc (.cells #[.int .i64 2,.int .i64 1,.int .i64 1,.int .i64 2,.int .i64 9,.int .u64 5000,.int .i64 0,.int .u64 1000,.int .u64 1000,.int .u64 1000,.slice (some ⟨b,0,none⟩) 2 2] 25)=W2:=⟨_,rfl⟩
 obtain⟨cb,hcb⟩:∃cb,w1.heap.size=cb:=⟨_,rfl⟩
 rw[hW2]at hk2;have hc2':ag W2 cb [.int .i64 2,.int .i64 1,.int .i64 1,.int .i64 2,.int .i64 9,.int .u64 5000,.int .i64 0,.int .u64 1000,.int .u64 1000,.int .u64 1000,.slice (some ⟨b,0,none⟩) 2 2] 25:=by rw[←hW2,←hcb];exact hc2
 rw[hW2,hcb];have HC2:=ae hc2';have HB2:=ae (HB1.out.kp hk2 (fun x=>x));have HR2:=ae (HR1.out.kp hk2 (fun x=>x));have ak:=ae (ax.out.trans hk2);have hbc:b<cb:=by omega
 have tX:=ae hbc;have c4:=HB2.out.cell 4 rfl;have z4:=HB2.out.fz 4;have c10:=hc2'.cell 10 rfl;have hrl:=HR1.out.lt;have xN:=ae hrl;clear hk2 hc2 hc2' hW2 hcb HB1 HR1 ax hbl hbc hrl
 go_upto_region 4 with fail
 have hle:=NK.out;have hbc:=tX.out;have ks:=Iy W2 b 4 (.int .u64 5000);have hb3:ag (W2.setCell ⟨b,4,none⟩ (.int .u64 5000)) b [.int .u32 1,.int .u64 1,.int .u64 10,.int .u64 0,.int .u64 5000,.int .u32 2,.int .u64 1,.int .u64 20,.int .u64 0,.int .u64 50] 197:=HB2.out.set 4 (.int .u64 5000);have hc3:=HC2.out.kp ks (by omega);have hr3:=HR2.out.kp ks (by omega);have hk3:Kp none' w (W2.setCell ⟨b,4,none⟩ (.int .u64 5000)):=ak.out.set (.inr (by show w.heap.size≤b;omega)) _;obtain⟨W3,hW3⟩:∃W3,W2.setCell ⟨b,4,none⟩ (.int .u64 5000)=W3:=⟨_,rfl⟩
 rw[hW3]at hb3 hc3 hr3 hk3 ⊢;have MW:=ae hc3;have HB3:=ae hb3;have HR3:=ae hr3;have aF:=ae hk3;have nJ:=ae (ag.new W3 [.int .u32 0,.int .i64 0,.int .u32 0,.int .i64 0,.int .u16 0,.int .u16 65535,.int .u32 1] 153);have HR4:=ae (hr3.alloc (.cells afF 153));have HB4:=ae (hb3.alloc (.cells afF 153));have aH:=ae (hk3.alloc (.cells afF 153));have hs3:=hk3.size;have yO:=ae hs3;have hrs:=hr3.lt;have EO:=ae hrs;have y0:=hc3.cell 0 rfl;have y1:=hc3.cell 1 rfl;have y2:=hc3.cell 2 rfl;have y3:=hc3.cell 3 rfl;have y4:=hc3.cell 4 rfl;have y5:=hc3.cell 5 rfl;have y6:=hc3.cell 6 rfl;have y7:=hc3.cell 7 rfl;have y8:=hc3.cell 8 rfl;have y9:=hc3.cell 9 rfl;have uq:=hc3.cell 10 rfl;have hbs:∀W,(Instr.buildSlice 26 1 #[(0,.agg afF)]).run Tryz.prog W=.ok (.slice (some ⟨W.heap.size,0,none⟩) 1 1) (W.alloc (.cells afF 153)):=fun _=>by kernel_rfl
 clear ks hb3 hc3 hr3 hk3 hW3 c4 z4 c10 hle hbc hs3 hrs HR2 HB2 ak HC2
 go_wp2_with(refine ik rfl 28 (.tmp 0) (.tmp 14) rfl HR4.out (dY Gx (.slice (some ⟨b,0,none⟩) 2 2) (.slice (some ⟨W3.heap.size,0,none⟩) 1 1)) rfl rfl rfl (by kernel_rfl) rfl ?_
             intro W5 hb5 hk5;have d_:=ae hb5;have a_:=ae hk5
             clear hb5 hk5)
 have h1:=NK.out;have h2:=xN.out;have h3:=yO.out;have h4:=EO.out;exact h_ (by exact rfl) d_.out _ Tryz.underlying28 rfl (by kernel_rfl) (by exact rfl) ⟨b,W3.heap.size,rfl,HB4.out.kp a_.out (by omega),nJ.out.kp a_.out (by omega),by omega,by omega,aH.out.then a_.out (fun i h e=>by omega)⟩
def JS (pc:D8):Mt:=if pc.rate=0 then Mt.zero else⟨pc.rate,pc.near,pc.far,pc.near,pc.far⟩
def wJ (pc:D8) (st:jB):Po:=⟨Au pc.c st,pc.rl,JS pc,pc.y,fun _=>[],0⟩
theorem aaN (w:World):wH (w.alloc (.map #[] 0)) w.heap.size 0 (fun _=>[]):=⟨0,.map [],World.ownsMap_made w _ _ _,Nat.le_refl _,fun _ _=>rfl⟩
set_option maxRecDepth 100000 in
theorem P_ (pc:D8) (hok:pc.Ok) (hg:pc.Good) (hr:pc.rate=0) (v u:Value) (w:World) (hv:Sl w v pc.c.aS.length 5 (pc.c.aS.flatMap gU)) (hu:Sl w u pc.rl.length 7 (pc.rl.flatMap ja)) (st:jB) (hst:aW st=[]) (hwf:BV st)
 (EZ:∀W,Kp none' w W→Calls Tryz.prog 89 #[.agg (lC pc.c v).toArray] W fun e w'=>∃v Fb,e=.returned v∧jT w' Fb v pc.c.aI.toNat st∧(∀b,Fb b→W.heap.size≤b)∧Kp none' W w'):
 Calls Tryz.prog 10 #[.agg (dY pc v u).toArray] w fun e w'=>∃f,e=.returned (.tuple #[.pointer (some ⟨f.pb,0,none⟩),.int .i64 0])∧iC w' f (wJ pc st)∧(∀b,f.all b→w.heap.size≤b)∧w.heap.size≤f.lo∧Kp none' w w':=by
 have hmm:= @run_makeMap Tryz.prog;have HC:=ae (fun W (k:Kp none' w W)=>Td pc hok hg v u W (hv.old k) (hu.old k));have HN:=ae (fun W (k:Kp none' w W)=>acX pc.c hok.c hg.chk v W (hv.old k) st hst hwf (fun W' k'=>EZ W' (k.trans k')));have HR:=ae (fun W (k:Kp none' w W)=>ac9 pc.rl hok.rl hg.rules u W (hu.old k))
 have oI:Hid (wJ pc st).Ok:=ae ⟨hok.rl,hg.rules,by
  show(JS pc).Ok;unfold JS;rw[if_pos hr]
  exact⟨⟨by decide,by decide,by decide,by decide,by decide⟩,fun h=>absurd h (by decide)⟩,hg.y,by show(0:Nat)<_;decide,fun b=>by show([]:List UInt8).length≤_;decide⟩
 have F_:Hid (wJ pc st=⟨Au pc.c st,pc.rl,Mt.zero,pc.y,fun _=>[],0⟩):=ae (by unfold wJ JS;rw[if_pos hr]);have hy:=hok.y;obtain⟨ao,cap,rfl⟩:∃ao cap,v=.slice ao pc.c.aS.length cap:=by obtain⟨ao,cap,rfl,_⟩:=hv.is;exact⟨_,_,rfl⟩
 obtain⟨ao',cap',rfl⟩:∃ao cap,u=.slice ao pc.rl.length cap:=by obtain⟨ao,cap,rfl,_⟩:=hu.is;exact⟨_,_,rfl⟩
 have HB0:=ae (ag.new w (dY pc (.slice ao pc.c.aS.length cap) (.slice ao' pc.rl.length cap')) 36);have aB:=ae ((Kp.refl none' w).alloc (.cells (dY pc (.slice ao pc.c.aS.length cap) (.slice ao' pc.rl.length cap')).toArray 36));obtain⟨po,hpo⟩:∃po,wJ pc st=po:=⟨_,rfl⟩
 rw[hpo]at oI F_ ⊢;refine ay ?_;intro PP HP;clear hok hg hv hu hst hwf EZ hpo;obtain⟨c,rl,rate,near,far,y⟩:=pc;simp only at hr hy;subst hr;obtain⟨sc,hsc⟩:∃sc,Au c st=sc:=⟨_,rfl⟩
 simp only[hsc]at*;clear hsc;obtain⟨rk,bk,lv,qu,pk,bt,sh,mt,rt,bu,fl⟩:=c;simp only[dY,lC,List.cons_append,List.nil_append]at*
 go_enter Tryz.func10,Tryz.ntmps10
 go_wp2_with fail
 refine(HC.out _ aB.out).mono ?_;rintro e w1 ⟨rfl,hk1⟩;have ax:=ae (aB.out.trans hk1);have HB1:=ae (HB0.out.kp hk1 (fun x=>x));have aJ:=HB1;have y0:=aJ.out.cell 0 rfl;have y1:=aJ.out.cell 1 rfl;have y2:=aJ.out.cell 2 rfl;have y3:=aJ.out.cell 3 rfl;have y4:=aJ.out.cell 4 rfl;have y5:=aJ.out.cell 5 rfl;have y6:=aJ.out.cell 6 rfl;have y7:=aJ.out.cell 7 rfl;have y8:=aJ.out.cell 8 rfl;have y9:=aJ.out.cell 9 rfl;have uq:=aJ.out.cell 10 rfl;have D9:=aJ.out.cell 11 rfl;have IW:=aJ.out.cell 12 rfl;have y13:=aJ.out.cell 13 rfl;have IX:=aJ.out.cell 14 rfl;have IY:=aJ.out.cell 15 rfl;have hsz1:=ax.out.size;have hs0:=HB1.out.lt;clear hk1 HB0 aB aJ
 go_upto_region 5 with fail
 have hk2:Kp none' w1 ((w1.alloc (.map #[] 0)).alloc (.cells #[.pointer none,.pointer none,.int .u64 0,.int .u64 0,.int .u64 0,.int .u64 0,.int .u64 0,.int .u8 y,.map (some w1.heap.size),.int .u32 0] 125)):=((Kp.refl none' w1).alloc _).alloc _;have hp2:ag ((w1.alloc (.map #[] 0)).alloc (.cells #[.pointer none,.pointer none,.int .u64 0,.int .u64 0,.int .u64 0,.int .u64 0,.int .u64 0,.int .u8 y,.map (some w1.heap.size),.int .u32 0] 125)) (w1.heap.size+1) [.pointer none,.pointer none,.int .u64 0,.int .u64 0,.int .u64 0,.int .u64 0,.int .u64 0,.int .u8 y,.map (some w1.heap.size),.int .u32 0] 125:=by
  have:=ag.new (w1.alloc (.map #[] 0)) [.pointer none,.pointer none,.int .u64 0,.int .u64 0,.int .u64 0,.int .u64 0,.int .u64 0,.int .u8 y,.map (some w1.heap.size),.int .u32 0] 125;rw[World.size_alloc]at this;exact this
 have hm2:wH ((w1.alloc (.map #[] 0)).alloc (.cells #[.pointer none,.pointer none,.int .u64 0,.int .u64 0,.int .u64 0,.int .u64 0,.int .u64 0,.int .u8 y,.map (some w1.heap.size),.int .u32 0] 125)) w1.heap.size 0 (fun _=>[]):=(aaN w1).kp ((Kp.refl none' _).alloc _) (fun x=>x);obtain⟨W2,hW2⟩:∃W2,(w1.alloc (.map #[] 0)).alloc (.cells #[.pointer none,.pointer none,.int .u64 0,.int .u64 0,.int .u64 0,.int .u64 0,.int .u64 0,.int .u8 y,.map (some w1.heap.size),.int .u32 0] 125)=W2:=⟨_,rfl⟩
 obtain⟨mb,hmb⟩:∃mb,w1.heap.size=mb:=⟨_,rfl⟩
 obtain⟨pb,hpb⟩:∃pb,w1.heap.size+1=pb:=⟨_,rfl⟩
 rw[hW2]at hk2 hp2 hm2;rw[hpb]at hp2;rw[hmb]at hp2 hm2 hsz1 hs0;rw[hW2,hpb,hmb];rw[hmb]at hpb;have ak:=ae (ax.out.trans hk2);have HB2:=ae (HB1.out.kp hk2 (fun x=>x));have HP2:=ae hp2;have eP:=ae hm2;have gy:=ae hpb;have hbl:=hp2.lt;have aJ:=HB2;clear y0 y1 y2 y3 y4 y5 y6 y7 y8 y9 uq D9 IW y13 IX IY hk2 hp2 hm2 hW2 hmb hpb HB1;have y0:=aJ.out.cell 0 rfl;have y1:=aJ.out.cell 1 rfl;have y2:=aJ.out.cell 2 rfl;have y3:=aJ.out.cell 3 rfl;have y4:=aJ.out.cell 4 rfl;have y5:=aJ.out.cell 5 rfl;have y6:=aJ.out.cell 6 rfl;have y7:=aJ.out.cell 7 rfl;have y8:=aJ.out.cell 8 rfl;have y9:=aJ.out.cell 9 rfl;have uq:=aJ.out.cell 10 rfl;have D9:=aJ.out.cell 11 rfl;have IW:=aJ.out.cell 12 rfl;have y13:=aJ.out.cell 13 rfl;have IX:=aJ.out.cell 14 rfl;have IY:=aJ.out.cell 15 rfl;clear aJ
 go_wp2_with fail
 refine(HN.out _ ak.out).mono ?_;rintro e w3 ⟨f,rfl,hsh,hfa,hk3⟩;have ab2:=ae hsh;have zO:=ae hfa;have aF:=ae (ak.out.trans hk3);have HB3:=ae (HB2.out.kp hk3 (fun x=>x));have HP3:=ae (HP2.out.kp hk3 (fun x=>x));have fV:=ae (eP.out.kp hk3 (fun x=>x));have ae5:=ae hk3;have p0:=HP3.out.cell 0 rfl;have z0:=HP3.out.fz 0;clear y0 y1 y2 y3 y4 y5 y6 y7 y8 y9 uq D9 IW y13 IX IY hsh hfa hk3 HB2
 go_upto_region 6 with fail
 have YC:∀b,f.all b→pb<b:=fun b hb=>by have:=zO.out b hb;omega
 have hpm:pb=mb+1:=gy.out.symm;have ks:Kp (fun b=>b=pb) w3 (w3.setCell ⟨pb,0,none⟩ (.pointer (some ⟨f.sb,0,none⟩))):=Iy _ _ _ _;have hp4:ag (w3.setCell ⟨pb,0,none⟩ (.pointer (some ⟨f.sb,0,none⟩))) pb [.pointer (some ⟨f.sb,0,none⟩),.pointer none,.int .u64 0,.int .u64 0,.int .u64 0,.int .u64 0,.int .u64 0,.int .u8 y,.map (some mb),.int .u32 0] 125:=HP3.out.set 0 (.pointer (some ⟨f.sb,0,none⟩));have hb4:=HB3.out.kp ks (by omega);have hm4:=fV.out.kp ks (by omega);have RF:=ab2.out.kp ks (fun b hb=>by have:=YC b hb;omega);have hk4:Kp none' w (w3.setCell ⟨pb,0,none⟩ (.pointer (some ⟨f.sb,0,none⟩))):=aF.out.set (.inr (by show w.heap.size≤pb;omega)) _;have afw:Kp none' W2 w3:=ae5.out;obtain⟨W4,nZ⟩:∃W4,w3.setCell ⟨pb,0,none⟩ (.pointer (some ⟨f.sb,0,none⟩))=W4:=⟨_,rfl⟩
 have afx:w3.heap.size=W4.heap.size:=by rw[←nZ];simp[World.setCell]
 rw[nZ]at hp4 hb4 hm4 RF hk4 ⊢;have C_:=ae hp4;have HB4:=ae hb4;have jR:=ae hm4;have ab3:=ae RF;have aH:=ae hk4;have PE:=ae YC;have hfu:∀b,f.all b→b<W4.heap.size:=fun b hb=>RF.lt hb
 have HFU:=ae hfu;have afy:=hp4.lt;have aJ:=HB4;clear hpm p0 z0 hp4 hb4 hm4 RF hk4 ks nZ HP3 fV ab2 aF HB3 YC hfu;have y0:=aJ.out.cell 0 rfl;have y1:=aJ.out.cell 1 rfl;have y2:=aJ.out.cell 2 rfl;have y3:=aJ.out.cell 3 rfl;have y4:=aJ.out.cell 4 rfl;have y5:=aJ.out.cell 5 rfl;have y6:=aJ.out.cell 6 rfl;have y7:=aJ.out.cell 7 rfl;have y8:=aJ.out.cell 8 rfl;have y9:=aJ.out.cell 9 rfl;have uq:=aJ.out.cell 10 rfl;have D9:=aJ.out.cell 11 rfl;have IW:=aJ.out.cell 12 rfl;have y13:=aJ.out.cell 13 rfl;have IX:=aJ.out.cell 14 rfl;have IY:=aJ.out.cell 15 rfl;clear aJ y0 y1 y2 y3 y4 y5 y6 y7 y8 y9
 go_wp2_with fail
 refine(HR.out _ aH.out).mono ?_;rintro e w5 ⟨tb,rfl,hru,hk5⟩;have JM:=ae (C_.out.kp hk5 (fun x=>x));have d_:=ae (HB4.out.kp hk5 (fun x=>x));have dB:=ae (jR.out.kp hk5 (fun x=>x));have ab4:=ae (ab3.out.old hk5);have ab5:=ae hru;have a_:=ae (aH.out.trans hk5);have hs5:=hk5.size;have p1:=JM.out.cell 1 rfl;have z1:=JM.out.fz 1;clear uq D9 IW y13 IX IY hru hk5 C_ HB4 jR ab3
 go_upto_region 7 with fail
 have hpm:pb=mb+1:=gy.out.symm;have ks:Kp (fun b=>b=pb) w5 (w5.setCell ⟨pb,1,none⟩ (.pointer (some ⟨tb,0,none⟩))):=Iy _ _ _ _;have hp6:=JM.out.set 1 (.pointer (some ⟨tb,0,none⟩));have hb6:=d_.out.kp ks (by omega);have qC:=dB.out.kp ks (by omega);have hsh6:=ab4.out.kp ks (fun b hb=>by have:=PE.out b hb;omega);have YD:=ab5.out.kp ks (fun b h1 h2=>by omega);have hk6:Kp none' w (w5.setCell ⟨pb,1,none⟩ (.pointer (some ⟨tb,0,none⟩))):=a_.out.set (.inr (by show w.heap.size≤pb;omega)) _;have hs6:(w5.setCell ⟨pb,1,none⟩ (.pointer (some ⟨tb,0,none⟩))).heap.size=w5.heap.size:=by simp[World.setCell]
 obtain⟨W6,DZ⟩:∃W6,w5.setCell ⟨pb,1,none⟩ (.pointer (some ⟨tb,0,none⟩))=W6:=⟨_,rfl⟩
 rw[DZ]at hp6 hb6 qC hsh6 YD hk6 hs6 ⊢
 have Cc:Hid (PP (.returned (.tuple #[.pointer (some ⟨pb,0,none⟩),.int .i64 0])) W6):=ae (HP.out _ _ ⟨⟨pb,mb,tb,W4.heap.size,w5.heap.size,f⟩,rfl,by
  refine⟨?_,?_,?_,?_,?_,?_,?_,?_,?_,?_,?_,oI.out⟩
  ·rw[F_.out];exact hp6
  ·rw[F_.out];exact hsh6
  ·rw[F_.out];exact YD
  ·rw[F_.out];exact qC
  ·show pb≠mb;omega
  ·intro h;have:=PE.out _ h;exact absurd this (Nat.lt_irrefl _)
  ·intro h;have h2:pb<mb:=PE.out _ h;omega
  ·rintro⟨h1,h2⟩;have h3:W4.heap.size≤pb:=h1;omega
  ·rintro⟨h1,h2⟩;have h3:W4.heap.size≤mb:=h1;omega
  ·intro b hb;rintro⟨h1,h2⟩;have h3:W4.heap.size≤b:=h1;have:=HFU.out b hb;omega
  ·show w5.heap.size≤_;omega,
  fun b hb=>by
   rcases hb with hb|hb|hb
   ·have h3:b=pb:=hb;omega
   ·have h3:b=mb:=hb;omega
   ·have:=PE.out b hb;omega,by show _≤W4.heap.size;omega,hk6⟩)
 have aJ:=ae hb6;clear hpm p1 z1 hp6 hb6 qC hsh6 YD hk6 ks DZ HP oI F_ JM d_ dB ab4 ab5 PE HFU;have y0:=aJ.out.cell 0 rfl;have y1:=aJ.out.cell 1 rfl;have y2:=aJ.out.cell 2 rfl;have y3:=aJ.out.cell 3 rfl;have y4:=aJ.out.cell 4 rfl;have y5:=aJ.out.cell 5 rfl;have y6:=aJ.out.cell 6 rfl;have y7:=aJ.out.cell 7 rfl;have y8:=aJ.out.cell 8 rfl;have y9:=aJ.out.cell 9 rfl;have uq:=aJ.out.cell 10 rfl;have D9:=aJ.out.cell 11 rfl;have IW:=aJ.out.cell 12 rfl;have y13:=aJ.out.cell 13 rfl;have IX:=aJ.out.cell 14 rfl;have IY:=aJ.out.cell 15 rfl;clear aJ y0 y1 y2 y3 y4 y5 y6 y7 y8 y9 uq D9
 go_wp2_with fail
 exact Cc.out
def hd9:kF:=⟨0,0,9,0,0,0,0⟩
def body4:ByteArray:=⟨#[98,111,100,121]⟩
def AQ:List UInt8:=jY hd9 (bl body4)
def xZ:List UInt8:=lU AQ
theorem aaO:bZ AQ=0:=by decide+kernel
theorem aaP:jg Dc (dV AQ).n=some 1:=by decide+kernel
theorem adl:jh AQ=0:=by decide+kernel
theorem adn:AQ.length=32:=by decide+kernel
theorem aaQ:bZ xZ=0:=by decide+kernel
theorem ado:(dV xZ).eX=8:=by decide+kernel
theorem aaR:xZ.drop 28=[98,111,100,121]:=by decide+kernel
theorem YE:xZ.length=32:=by decide+kernel
def Gy:Po:=wJ Gx (.hp 0 [])
theorem adp:dN Gy.s.g 1 32=0:=by decide+kernel
theorem aaS:(dA (dU Gy.s 1 1 32).2).1[1]? =some (.int .i64 0):=by kernel_rfl
theorem aaT:(dA (dU Gy.s 1 1 32).2).1[3]? =some (.int .u32 1):=by kernel_rfl
theorem lN:Gx.Ok:=by
 refine⟨⟨by show _≤(2:Int)∧(2:Int)≤_;omega,by show _≤(1:Int)∧(1:Int)≤_;omega,by show _≤(1:Int)∧(1:Int)≤_;omega,by show _≤(2:Int)∧(2:Int)≤_;omega,by show _≤(9:Int)∧(9:Int)≤_;omega,by show 5000<yB;decide,by show _≤(0:Int)∧(0:Int)≤_;omega,by show 1000<yB;decide,by show 1000<yB;decide,by show 1000<yB;decide,fun f hf=> ?_⟩,fun r hr=> ?_,by decide,by decide,by decide,by decide⟩
 ·have:f=⟨1,1,10,0,5000⟩∨f=⟨2,1,20,0,50⟩:=by simpa[Gx,cS,nC]using hf
  rcases this with rfl|rfl
  ·exact⟨by decide,by decide,by decide,by decide,by decide⟩
  ·exact⟨by decide,by decide,by decide,by decide,by decide⟩
 ·have:r=⟨(0,0),(0,0),0,65535,1⟩:=by simpa[Gx,Dc]using hr
  subst this;exact⟨⟨by decide,by decide,by decide⟩,⟨by decide,by decide,by decide⟩,by decide,by decide,by decide⟩
theorem UX:Gx.Good:=⟨by decide,by decide+kernel,.inl rfl,by decide⟩
def FT:jB→Prop
 | .qu _ _=>False
 |_=>True
theorem YF {s:jB} (h:FT s) (r:Nat) (x:Pk):aW (iY s r x)=jo (aW s) ⟨r,x⟩:=by
 cases s with
 |hp n S=>exact mP ⟨r,n,x⟩ S
 |ca n I=>rfl
 |qu bs Qs=>exact h.elim
theorem YG {s:jB} (h:FT s) (r:Nat) (x:Pk):FT (iY s r x):=by cases s<;>first|trivial|exact h
theorem aaU {s:jB} (h:FT s):FT (jW s):=by cases s<;>first|trivial|exact h
theorem Io {x:It}:∀ {I:List It},(∀i∈I,i.rank≤x.rank)→jo I x=I++[x]
 | [],_=>rfl
 |y::l,h=>by
  unfold jo;rw[if_neg (by have:=h y (by simp);omega),Io (fun i hi=>h i (by simp[hi]))];rfl
theorem NL {a b:Nat} (h:a<18446744073709551616):a≤dS a b:=by unfold dS;split<;>omega
theorem Qa {a a' b:Nat} (h:a≤a'):dS a b≤dS a' b:=by unfold dS;split<;>split<;>omega
def x8 (s:Sh):Nat:=if s.r.kind=1 then s.r.tag 1 else dS s.now (s.r.f 1).budget
structure eF (p:Po) (ws:List ByteArray):Prop where
 rl:p.rl=Dc
 m0:p.m.rate=0
 hc:FT p.s.bk
 kind:p.s.r.kind=1∨p.s.r.kind=2
 rfl':p.s.r.fl=nC
 fQ:p.s.g.c.fQ=1000
 tok:p.s.rate=1000∧p.s.aQ=1000
 top:∀i∈aW p.s.bk,i.rank≤x8 p.s
 len:∀i∈aW p.s.bk,i.x.len≤1000
 num:∀i∈aW p.s.bk,i.x.id≤p.num
 ids:(aW p.s.bk).Pairwise (fun a b=>a.x.id<b.x.id)
 txt:(aW p.s.bk).map (fun i=>tx (p.wt i.x.id))=ws
theorem Ip {r:Rk} (h:r.fl=nC):r.at 1=0:=by unfold Rk.at;rw[h];rfl
theorem YH {r:Rk} (ok:r.Ok) (h:r.fl=nC) (t:Nat):(r.setTag 1 t).tag 1=t:=by
 unfold Rk.tag Rk.setTag;have h1:Rk.at {r with tags:=r.tags.set (r.at 1) t} 1=0:=Ip h;rw[h1,Ip h];have h2:r.tags.length=2:=by rw[ok.len,h];rfl
 match r.tags,h2 with
 | [a,b],_=>rfl
theorem UY {s:Sh} (hk:s.r.kind=1∨s.r.kind=2) (ok:s.r.Ok) (hf:s.r.fl=nC) (n:Nat):
 x8 s≤(eu s.r s.now 1 n).1∧∀s':Sh,s'.r=(eu s.r s.now 1 n).2→s'.now=s.now→(eu s.r s.now 1 n).1≤x8 s'∧x8 s≤x8 s':=by
 have htl:=ok.tag 1;unfold x8 eu;rcases hk with hk|hk
 ·rw[if_pos hk,if_pos hk];refine⟨Nat.le_max_right _ _,fun s' h1 h2=> ?_⟩;rw[h1];have hk2:(s.r.setTag 1 (dS (max s.r.jA (s.r.tag 1)) (lX (s.r.f 1).cost n))).kind=1:=hk;simp only;rw[if_pos hk2,YH ok hf];have h3:=NL (a:=max s.r.jA (s.r.tag 1)) (b:=lX (s.r.f 1).cost n) (by have:=ok.VZ;omega);exact⟨h3,Nat.le_trans (Nat.le_max_right _ _) h3⟩
 ·have hk1:¬s.r.kind=1:=by omega
  rw[if_neg hk1,if_neg hk1,if_pos hk];refine⟨Nat.le_refl _,fun s' h1 h2=> ?_⟩;rw[h1,h2];simp only;rw[if_neg hk1];exact⟨Nat.le_refl _,Nat.le_refl _⟩
theorem Qb {n:DV} {fl:Nat} (h:jg Dc n=some fl):fl=1:=by
 unfold jg Dc at h;simp only[List.find?_cons,List.find?_nil]at h;split at h<;>simp_all
theorem adq {p:Po} (h:p.m.rate=0) (n:Nat):jV p.m n=(p.m,1):=by unfold jV;rw[if_pos h]
theorem eF.refs {p:Po} {ws:List ByteArray} (h:eF p ws) (k:Nat):eF {p with s:=kV p.s k} ws:=
 ⟨h.rl,h.m0,h.hc,h.kind,h.rfl',h.fQ,h.tok,h.top,h.len,h.num,h.ids,h.txt⟩
theorem YI {g:Ga} {id n:Nat} (h:dN g id n=0):n≤g.c.fQ:=by
 apply Classical.byContradiction
 intro hn;have hf:kC g id n=12:=by unfold kC;rw[if_pos (.inr (by omega))]
 unfold dN at h;rw[hf,if_pos (by decide)]at h;exact absurd h (by decide)
theorem eF.enq {p:Po} {ws:List ByteArray} (h:eF p ws) (YJ:p.s.r.Ok) (n:Nat) (x:List UInt8) (hm:dN p.s.g 1 n=0):
 eF {p with s:=(dU p.s 1 (p.num+1) n).2,num:=p.num+1,wt:=fun k=>if k=p.num+1 then x else p.wt k} (ws++[tx x]):=by
 have hnt:=UY h.kind YJ h.rfl' n;have YK:=hnt.2 {p.s with g:=tH p.s.g 1 n,r:=(eu p.s.r p.s.now 1 n).2,bk:=iY p.s.bk (eu p.s.r p.s.now 1 n).1 ⟨1,p.num+1,n⟩} rfl rfl;have hl:=YI hm;rw[h.fQ]at hl;unfold dU;rw[if_pos hm];obtain⟨rk,hrk⟩:∃rk,(eu p.s.r p.s.now 1 n).1=rk:=⟨_,rfl⟩
 have hi:aW (iY p.s.bk rk ⟨1,p.num+1,n⟩)=aW p.s.bk++[⟨rk,⟨1,p.num+1,n⟩⟩]:=by
  rw[YF h.hc];exact Io (fun i hi=>by have:=h.top i hi;rw[←hrk];exact Nat.le_trans this hnt.1)
 rw[hrk]at hnt YK ⊢;have hk:(eu p.s.r p.s.now 1 n).2.kind=p.s.r.kind∧(eu p.s.r p.s.now 1 n).2.fl=p.s.r.fl:=by
  unfold eu;split
  ·exact⟨rfl,rfl⟩
  ·split<;>exact⟨rfl,rfl⟩
 have hmem:∀i,i∈aW (iY p.s.bk rk ⟨1,p.num+1,n⟩)→i∈aW p.s.bk∨i=⟨rk,⟨1,p.num+1,n⟩⟩:=fun i he=>by rw[hi]at he;simpa using he
 refine⟨h.rl,h.m0,YG h.hc _ _,by show _∨_;rw[hk.1];exact h.kind,hk.2.trans h.rfl',?_,h.tok,?_,?_,?_,?_,?_⟩
 ·show(tH p.s.g 1 n).c.fQ=_;unfold tH;split
  ·exact h.fQ
  ·exact h.fQ
 ·intro i he;rcases hmem i he with e|e
  ·exact Nat.le_trans (h.top i e) YK.2
  ·subst e;exact YK.1
 ·intro i he;rcases hmem i he with e|e
  ·exact h.len i e
  ·subst e;exact hl
 ·intro i he;show _≤p.num+1;rcases hmem i he with e|e
  ·have:=h.num i e;omega
  ·subst e;exact Nat.le_refl _
 ·show(aW (iY p.s.bk rk ⟨1,p.num+1,n⟩)).Pairwise _;rw[hi,List.pairwise_append];refine⟨h.ids,List.pairwise_singleton _ _,fun a ha b hb=> ?_⟩;have:=h.num a ha;simp only[List.mem_singleton]at hb;subst hb;show a.x.id<p.num+1;omega
 ·show(aW (iY p.s.bk rk ⟨1,p.num+1,n⟩)).map _=_;rw[hi,List.map_append,←h.txt];congr 1
  ·refine List.map_congr_left (fun i he=> ?_);have:=h.num i he;show tx (if i.x.id=p.num+1 then x else p.wt i.x.id)=_;rw[if_neg (by omega)]
  ·show[tx (if p.num+1=p.num+1 then x else _)]=_;rw[if_pos rfl]
theorem eF.arr {p:Po} {ws:List ByteArray} (h:eF p ws) (YJ:p.s.r.Ok) (x:List UInt8):
 ((qx p x).1.2=0→jh x=0∧eF (qx p x).2 (ws++[tx (lU x)]))∧((qx p x).1.2≠0→eF (qx p x).2 ws):=by
 unfold qx;by_cases h1:bZ x≠0
 ·rw[if_pos h1];exact⟨fun e=>absurd e h1,fun _=>h⟩
 have hrl:=h.rl;rw[if_neg h1];have qB:jg p.rl (dV x).n=jg Dc (dV x).n:=by rw[hrl]
 cases hf:jg p.rl (dV x).n with
 |none=>exact⟨fun e=>absurd (show(7:Int)=0 from e) (by decide),fun _=>h⟩
 |some fl=>
  obtain rfl:=Qb (qB.symm.trans hf);simp only;by_cases h2:jh x≠0
  ·rw[if_pos h2];exact⟨fun e=>absurd e h2,fun _=>h⟩
  rw[if_neg h2,adq h.m0,if_neg (by simp)];by_cases h3:dN p.s.g 1 x.length=0
  ·rw[if_pos h3];refine⟨fun _=>⟨Classical.not_not.1 h2,?_⟩,fun e=>absurd rfl e⟩;have:=h.enq YJ x.length (lU x) h3;show eF {p with s:=(dU p.s 1 (p.num+1) x.length).2,num:=p.num+1,wt:=fun k=>if k=p.num+1 then JL x 1 p.y else p.wt k} _;have hs:JL x 1 p.y=lU x:=by unfold JL;rw[if_neg (by decide)]
   rw[hs];exact this
  ·rw[if_neg h3];refine⟨fun e=>absurd e h3,fun _=> ?_⟩;have:(dU p.s 1 (p.num+1) x.length).2=kV p.s (dN p.s.g 1 x.length).toNat:=by unfold dU;rw[if_neg h3]
   show eF {p with s:=(dU p.s 1 (p.num+1) x.length).2} ws;rw[this];exact h.refs _
theorem Qc {s:jB} (h:FT s):aW (jW s)=(aW s).tail:=by
 cases s with
 |hp n S=>cases S<;>rfl
 |ca n I=>rfl
 |qu bs Qs=>exact h.elim
theorem eF.lea {p:Po} {ws:List ByteArray} (h:eF p ws):
 ((jd p).1.2=0→∃ws',ws=tx (jd p).1.1::ws'∧eF (jd p).2 ws')∧
 ((jd p).1.2≠0→eF (jd p).2 ws∧((jd p).1.2=18∧ws=[]∨(jd p).1.2=19∧ws≠ []∧p.s.tok<1000)):=by
 cases hI:aW p.s.bk with
 |nil=>
  have hw:ws=[]:=by rw[←h.txt,hI];rfl
  have hp:(aX p.s.bk).2=false:=by unfold aX;rw[hI];rfl
  have he:jd p=(([],18),p):=by unfold jd;rw[if_pos hp]
  rw[he];exact⟨fun e=>absurd (show(18:Int)=0 from e) (by decide),fun _=>⟨h,.inl ⟨rfl,hw⟩⟩⟩
 |cons q Q=>
  have hw:ws=tx (p.wt q.x.id)::Q.map (fun i=>tx (p.wt i.x.id)):=by rw[←h.txt,hI];rfl
  have yu:q.x.len≤1000:=h.len q (by rw[hI];simp);have hb:aX p.s.bk=(q,true):=by unfold aX;rw[hI];rfl
  by_cases ht:p.s.tok<q.x.len
  ·have he:jd p=(([],19),p):=by unfold jd;rw[hb,if_neg (by simp)];simp only;rw[if_pos ht]
   rw[he];exact⟨fun e=>absurd (show(19:Int)=0 from e) (by decide),fun _=>⟨h,.inr ⟨rfl,by rw[hw];simp,by omega⟩⟩⟩
  ·have he:jd p=((p.wt q.x.id,0),{p with s:=(dA p.s).2,wt:=fun k=>if k=q.x.id then[]else p.wt k}):=by unfold jd;rw[hb,if_neg (by simp)];simp only;rw[if_neg ht]
   rw[he];refine⟨fun _=>⟨_,hw,?_⟩,fun e=>absurd rfl e⟩;have hd:(dA p.s).2= {p.s with tok:=p.s.tok-q.x.len,bk:=jW p.s.bk,g:=l9 p.s.g q.x.jU q.x.len,r:=mX p.s.r q.rank}:=by
    unfold dA;rw[hb,if_neg (by simp)];simp only;rw[if_neg ht]
   have hp:aW (jW p.s.bk)=Q:=by rw[Qc h.hc,hI];rfl
   have hk:(mX p.s.r q.rank).kind=p.s.r.kind:=by unfold mX;split<;>rfl
   have hfl:(mX p.s.r q.rank).fl=p.s.r.fl:=MQ _ _;have G_:=h.ids;rw[hI,List.pairwise_cons]at G_;have htop:x8 {p.s with tok:=p.s.tok-q.x.len,bk:=jW p.s.bk,g:=l9 p.s.g q.x.jU q.x.len,r:=mX p.s.r q.rank}=x8 p.s:=by
    unfold x8;simp only;rw[hk];unfold mX;split
    ·rfl
    ·rfl
   simp only;rw[hd];refine⟨h.rl,h.m0,aaU h.hc,by show _∨_;simp only;rw[hk];exact h.kind,hfl.trans h.rfl',?_,h.tok,?_,?_,?_,?_,?_⟩
   ·show(l9 p.s.g _ _).c.fQ=_;unfold l9;split
    ·exact h.fQ
    ·exact h.fQ
   ·intro i he;have he2:i∈Q:=by rw[←hp];exact he
    rw[htop];exact h.top i (by rw[hI];simp[he2])
   ·intro i he;have he2:i∈Q:=by rw[←hp];exact he
    exact h.len i (by rw[hI];simp[he2])
   ·intro i he;have he2:i∈Q:=by rw[←hp];exact he
    exact h.num i (by rw[hI];simp[he2])
   ·show(aW (jW p.s.bk)).Pairwise _;rw[hp];exact G_.2
   ·show(aW (jW p.s.bk)).map _=_;rw[hp];refine List.map_congr_left (fun i he=> ?_);have:=G_.1 i he;show tx (if i.x.id=q.x.id then[]else p.wt i.x.id)=_;rw[if_neg (by omega)]
theorem aaV (p:Po) (t:Nat):(qy p t).s= {p.s with now:=dS p.s.now t,tok:=n_ p.s.rate p.s.aQ p.s.tok t}:=rfl
theorem eF.tick {p:Po} {ws:List ByteArray} (h:eF p ws) (hn:p.s.now<18446744073709551616) (t:Nat):eF (qy p t) ws:=by
 have e:qy p t= {p with s:= {p.s with now:=dS p.s.now t,tok:=n_ p.s.rate p.s.aQ p.s.tok t}}:=by
  unfold qy;rw[if_pos h.m0];rfl
 rw[e];refine⟨h.rl,h.m0,h.hc,h.kind,h.rfl',h.fQ,h.tok,fun i he=>Nat.le_trans (h.top i he) ?_,h.len,h.num,h.ids,h.txt⟩;unfold x8;simp only;split
 ·exact Nat.le_refl _
 ·exact Qa (NL hn)
theorem eF.full {p:Po} {ws:List ByteArray} (h:eF p ws):1000≤(qy p 1000).s.tok:=by
 rw[aaV];show 1000≤n_ p.s.rate p.s.aQ p.s.tok 1000;rw[h.tok.1,h.tok.2];unfold n_ dS lX;split<;>split<;>omega
theorem adr (p:Po) (x:List UInt8):jv (qx p x).2.s.bk≤jv p.s.bk+1∧(qx p x).2.num≤p.num+1:=by
 have h1:∀fl,jv (dU p.s fl (p.num+1) x.length).2.bk≤jv p.s.bk+1:=fun fl=>aew p.s ⟨1,fl,p.num+1,x.length,0⟩
 unfold qx;split
 ·exact⟨Nat.le_succ _,Nat.le_succ _⟩
 ·split
  ·exact⟨Nat.le_succ _,Nat.le_succ _⟩
  ·split
   ·exact⟨Nat.le_succ _,Nat.le_succ _⟩
   ·split
    ·exact⟨Nat.le_succ _,Nat.le_succ _⟩
    ·split
     ·exact⟨h1 _,Nat.le_refl _⟩
     ·exact⟨h1 _,Nat.le_succ _⟩
theorem YL (p:Po):jv (jd p).2.s.bk=jv p.s.bk∧(jd p).2.num=p.num:=by
 have h1:jv (dA p.s).2.bk=jv p.s.bk:=by
  unfold dA;split
  ·rfl
  ·split
   ·rfl
   ·show jv (jW p.s.bk)=_;cases p.s.bk<;>rfl
 unfold jd;split
 ·exact⟨rfl,rfl⟩
 ·split
  ·exact⟨rfl,rfl⟩
  ·exact⟨h1,rfl⟩
theorem JU (p:Po) (t:Nat):jv (qy p t).s.bk=jv p.s.bk∧(qy p t).num=p.num:=⟨rfl,rfl⟩
def FU (k:Bool) (b:Bool):D8:=⟨{cS with rank:=if k then 2 else 1,back:=if b then 2 else 1},Dc,0,0,0,0⟩
def stL (b:Bool):jB:=if b then .ca 0 []else .hp 0 []
theorem aaW (k b:Bool):eF (wJ (FU k b) (stL b)) []:=by
 cases k<;>cases b<;>exact⟨rfl,rfl,trivial,by first|exact .inl rfl|exact .inr rfl,rfl,rfl,⟨rfl,rfl⟩,fun i h=>(by cases h),fun i h=>(by cases h),fun i h=>(by cases h),List.Pairwise.nil,rfl⟩
theorem RG (k b:Bool):(FU k b).Ok:=by
 cases k<;>cases b<;>exact⟨⟨⟨by decide,by decide⟩,⟨by decide,by decide⟩,lN.c.levels,lN.c.queues,lN.c.aI,lN.c.bytes,lN.c.share,lN.c.fQ,lN.c.rate,lN.c.aQ,lN.c.aS⟩,lN.rl,by decide,by decide,by decide,by decide⟩
theorem Iq (k b:Bool):(FU k b).Good:=by cases k<;>cases b<;>exact⟨by decide,by decide+kernel,.inl rfl,by decide⟩
end Go.Proofs.YtjiehhlghjnfhaaGreatDoor
namespace Go.Proofs.YtjiehhlghjnfhaaGreatDoor
open Go.RowKit
def je (w:World) (base:Nat) (e:TypeId) (v:Value) (xs:List Value):Prop:=
 (v=.slice none 0 0∧xs=[])∨∃g o cap cur,v=.slice (some ⟨g,o,none⟩) xs.length cap∧base≤g∧w.heap[g]? =some (.cells cur e (0,0))∧xs.length≤cap∧cap≤maxLen∧o+cap≤cur.size∧(cur.toList.drop o).take xs.length=xs
theorem je.nil (w:World) (base:Nat) (e:TypeId):je w base e (.slice none 0 0) []:=.inl ⟨rfl,rfl⟩
theorem je.shape {w:World} {base:Nat} {e:TypeId} {v:Value} {xs:List Value} (h:je w base e v xs):∃ao cap,v=.slice ao xs.length cap:=by
 rcases h with⟨rfl,rfl⟩|⟨g,o,cap,cur,rfl,_⟩
 ·exact⟨none,0,rfl⟩
 ·exact⟨_,_,rfl⟩
theorem je.blk {w:World} {base:Nat} {e:TypeId} {v:Value} {xs:List Value} (h:je w base e v xs) {b:Nat} (hb:v.ownBlock=some b):base≤b∧b<w.heap.size:=by
 rcases h with⟨rfl,rfl⟩|⟨g,o,cap,cur,rfl,hg,hh,_⟩
 ·cases hb
 ·cases hb;exact⟨hg,(Array.getElem?_eq_some_iff.1 hh).1⟩
theorem je.kp {T:Nat→Prop} {w w':World} {base:Nat} {e:TypeId} {v:Value} {xs:List Value} (h:je w base e v xs) (k:Kp T w w') (hT:∀b,v.ownBlock=some b→¬T b):je w' base e v xs:=by
 rcases h with h|⟨g,o,cap,cur,rfl,hg,hh,r⟩
 ·exact .inl h
 ·exact .inr ⟨g,o,cap,cur,rfl,hg,(k.block g (Array.getElem?_eq_some_iff.1 hh).1 (hT g rfl)).trans hh,r⟩
theorem je.cell {w:World} {base:Nat} {e:TypeId} {g o n cap:Nat} {xs:List Value} (h:je w base e (.slice (some ⟨g,o,none⟩) n cap) xs) (i:Nat) {u:Value} (hu:xs[i]? =some u):w.cell? ⟨g,o+i,none⟩=some u:=by
 rcases h with⟨h,_⟩|⟨g',o',cap',cur,hv,hg,hh,hn,hm,hs,ht⟩
 ·cases h
 ·injection hv with e1 e2 e3
  injection e1 with e1
  injection e1 with e1 e4 _
  subst e1 e4;rw[cell_of_row w g (o+i) cur e (0,0) hh];rw[←ht,List.getElem?_take]at hu;split at hu
  ·rw[List.getElem?_drop]at hu;simpa using hu
  ·cases hu
theorem je.tail {w:World} {base:Nat} {e:TypeId} {g o n cap:Nat} {x:Value} {xs:List Value} (h:je w base e (.slice (some ⟨g,o,none⟩) n cap) (x::xs)):je w base e (.slice (some ⟨g,if cap=1 then o else o+1,none⟩) xs.length (cap-1)) xs:=by
 rcases h with⟨h,_⟩|⟨g',o',cap',cur,hv,hg,hh,hn,hm,hs,ht⟩
 ·cases h
 ·injection hv with e1 e2 e3
  injection e1 with e1
  injection e1 with e1 e4 _
  subst e1 e4 e3;simp only[List.length_cons]at hn;refine .inr ⟨g,_,_,cur,rfl,hg,hh,by omega,by omega,by split<;>omega,?_⟩;by_cases hc:cap=1
  ·have:xs=[]:=List.eq_nil_of_length_eq_zero (by omega);subst this;simp
  ·rw[if_neg hc];have h2:((cur.toList.drop o).take (xs.length+1)).drop 1=xs:=by
    have:(cur.toList.drop o).take (xs.length+1)=x::xs:=ht;rw[this];rfl
   rw[List.drop_take,List.drop_drop]at h2;simpa using h2
theorem Qd {P:Program} (w:World) (base:Nat) (t ty e:TypeId) (i:TypeInfo) (z:Value) (bytes:Nat) (ht:P.underlying t=some (.slice e)) (hi:P.info? e=some i) (hz:i.zero=some z) (hsize:i.size=1) (hby:i.bytes=bytes) (hzs:z.cells.size=1)
 {v:Value} {xs:List Value} (h:je w base e v xs) (a:Addr) (c:Nat) (u:Value) (hnews:w.cell? (a.add 0)=some u) (h1:u.oneCell'=true)
 (h63:xs.length+1≤maxLen) (hbytes:(xs.length+1)*bytes≤140737488355328) (hbase:base≤w.heap.size):
 ∃v' w',(Builtin.append_ #[t,t] ty #[v,.slice (some a) 1 c]).run P w=.ok v' w'∧je w' base e v' (xs++[u])∧w.grownBy w' v.ownBlock∧(v'.ownBlock=v.ownBlock∨v'.ownBlock=some w.heap.size):=by
 have hn:∀j x,[u][j]? =some x→w.cell? (a.add j)=some x:=fun j x hx=>by
  cases j with
  |zero=>simp at hx;subst hx;exact hnews
  |succ k=>simp at hx
 have hlen:(xs++[u]).length=xs.length+1:=by simp
 have hsmall:xs.length+1≤9223372036854775807:=by simp only[maxLen]at h63;omega
 have grown:∀(old:Nat),old<xs.length+1→∀(row:Option Nat),
  je (w.drew.alloc (.cells (xs.toArray++ #[u]++Builtin.zeroCells z.cells (grownCap w (xs.length+1) old e-(xs.length+1))) e)) base e (.slice (some ⟨w.heap.size,0,none⟩) (xs.length+1) (grownCap w (xs.length+1) old e)) (xs++[u])∧
  w.grownBy (w.drew.alloc (.cells (xs.toArray++ #[u]++Builtin.zeroCells z.cells (grownCap w (xs.length+1) old e-(xs.length+1))) e)) row:=by
  intro old ho row;have hge:=grownCap_ge w (xs.length+1) old e;have hcm:=grownCap_le_maxLen w (xs.length+1) old e h63;refine⟨.inr ⟨w.heap.size,0,_,_,by rw[hlen],hbase,heap_alloc_new w.drew _,by omega,hcm,?_,?_⟩,⟨rfl,rfl,rfl,by simp,fun k hk _=>heap_alloc_old w.drew _ hk⟩⟩
  ·simp only[Array.size_append,List.size_toArray,size_zeroCells,hzs];show _≤xs.length+1+_;omega
  ·rw[List.drop_zero,hlen];simp only[Array.toList_append];rw[List.take_left' (by simp)]
 rcases h with⟨rfl,rfl⟩|⟨g,o,cap,cur,rfl,hbg,hg,hnc,hcm,hcs,htake⟩
 ·have hr:=run_append_nil (P:=P) w t ty e i z ht hi hz a 1 c [u] (by simp[hsize]) hn (by omega) (by omega) (by rw[hby];simp only[List.length_nil,Nat.zero_add,Nat.one_mul]at hbytes ⊢;omega);have hgr:=grown 0 (by simp) (Value.ownBlock (.slice none 0 0));simp only[List.length_nil,Nat.zero_add,List.nil_append,Array.empty_append]at hgr ⊢;exact⟨_,_,hr,hgr.1,hgr.2,.inr rfl⟩
 ·by_cases hroom:xs.length+1≤cap
  ·have hfit:o+xs.length+ [u].length≤cur.size:=by show o+xs.length+1≤_;omega
   have hf:=run_firstCells_some (P:=P) w i.size 1 a 1 c [u] (by simp[hsize]) hn;have hst:=run_storeCells_at P g (o+xs.length) e [u] 0 cur w hg (by simpa using hfit) (by simpa using h1);simp only[Nat.add_zero]at hst;have hr:(Builtin.append_ #[t,t] ty #[.slice (some ⟨g,o,none⟩) xs.length cap,.slice (some a) 1 c]).run P w=
    .ok (.slice (some ⟨g,o,none⟩) (xs.length+1) cap) (w.setRow g (cur.toList.take (o+xs.length)++[u]++cur.toList.drop (o+xs.length+ [u].length)).toArray):=by
    rw[hsize]at hf;simp[Builtin.append_,run_underlying ht,sizeOf,typeInfo,hi,hsize,Builtin.lenOf,hroom,hf,Addr.add_lit,hst]
   refine⟨_,_,hr,.inr ⟨g,o,cap,_,by rw[hlen],hbg,setRow_heap w g cur _ e _ hg,by rw[hlen];exact hroom,hcm,?_,?_⟩,⟨rfl,rfl,rfl,by simp,fun k _ hk=>setRow_other w g k _ (fun e=>hk (by simp[Value.ownBlock,e]))⟩,.inl rfl⟩
   ·simp only[List.size_toArray,List.length_append,List.length_take,List.length_drop,Array.length_toList,List.length_cons,List.length_nil];simp only[List.length_cons,List.length_nil]at hfit;omega
   ·rw[hlen];show((cur.toList.take (o+xs.length)++[u]++_).drop o).take _=_;have hlt:(cur.toList.take (o+xs.length)).length=o+xs.length:=by
     have hcl:cur.toList.length=cur.size:=Array.length_toList;rw[List.length_take,hcl];simp only[List.length_cons,List.length_nil]at hfit;omega
    rw[List.append_assoc,List.drop_append_of_le_length (by omega),List.drop_take,Nat.add_sub_cancel_left,htake,←List.append_assoc];exact List.take_left' (by simp)
  ·have holds:∀j x,xs[j]? =some x→w.cell? ((⟨g,o,none⟩:Addr).add j)=some x:=fun j x hx=>by
    rw[Addr.add_lit];exact je.cell (n:=xs.length) (cap:=cap) (xs:=xs) (.inr ⟨g,o,cap,cur,rfl,hbg,hg,hnc,hcm,hcs,htake⟩) j hx
   have hr:=run_append_grow (P:=P) w t ty e i z ht hi hz ⟨g,o,none⟩ xs.length cap xs (by rw[hsize,Nat.mul_one]) holds a 1 c [u] (by simp[hsize]) hn (by omega) (by omega) (growslice_fits (by omega) (by rw[hby];exact hbytes));have hgr:=grown cap (by omega) (Value.ownBlock (.slice (some ⟨g,o,none⟩) xs.length cap));exact⟨_,_,hr,hgr.1,hgr.2,.inr rfl⟩
theorem UZ {P:Program} {t e:TypeId} {z:Value} {bytes:Nat} (T:qY P t e z 1 bytes) {ops:Array Oper} {rest:List Oper} {o:Oper} {a:Act} {Q:Exit→Act→World→Prop} {w:World} (s x:Operand)
 (hgd:o.guard=none) (ho:o.op=.call {callee:=.builtin .append,args:=#[s,x],argTypes:=#[t,t]}) (base:Nat) {v:Value} {xs:List Value} (hown:je w base e v xs)
 {b c:Nat} (u:Value) (hs:a.eval s=v) (hx:a.eval x=.slice (some ⟨b,0,none⟩) 1 c) (hu:w.cell? ⟨b,0,none⟩=some u) (h1:u.oneCell'=true)
 (hbytes:(xs.length+1)*bytes≤140737488355328) (h63:xs.length<9223372036854775807) (hbase:base≤w.heap.size)
 (h:∀v' w',je w' base e v' (xs++[u])→w.grownBy w' v.ownBlock→(v'.ownBlock=v.ownBlock∨v'.ownBlock=some w.heap.size)→wpList P ops Q rest (a.put o.dst v') w'):wpList P ops Q (o::rest) a w:=by
 obtain⟨i,hi,hz0,hz1,hz2⟩:=info_parts T.info;refine wpList_plain hgd fun K hK'=> ?_
 obtain⟨v',w',hrun,r1,r2,r3⟩:=Qd (P:=P) w base t o.type e i z bytes T.ht hi hz0 hz1 hz2 T.hz hown ⟨b,0,none⟩ c u (by rw[Addr.add_lit];exact hu) h1 (by unfold maxLen;omega) hbytes hbase;unfold Oper.wp;simp[execOp,ho,resolve,invoke,builtin,hs,hx,hrun,Result.andThen]
 exact hK' _ _ (h v' w' r1 r2 r3)
end Go.Proofs.YtjiehhlghjnfhaaGreatDoor
namespace Go.Proofs.YtjiehhlghjnfhaaGreatDoor
open Go Go.RowKit Go.Shelf
def x9 (ws:List ByteArray):List Value:=ws.map Value.string
theorem kW (ws:List ByteArray):(x9 ws).length=ws.length:=by simp[x9]
structure lT (w0 w:World) (bp bw:Nat) (f:iM) (p:Po) (ws:List ByteArray) (v:Value):Prop where
 po:iC w f p
 cp:ag w bp [.pointer (some ⟨f.pb,0,none⟩)] 32
 cw:ag w bw [v] 68
 row:je w w0.heap.size 9 v (x9 ws)
 tab:Tab w0
 kp:Kp none' w0 w
 low:∀b,f.all b→w0.heap.size≤b
 YM:w0.heap.size≤bp
 Qe:w0.heap.size≤bw
 sp:¬f.all bp∧¬(f.lo≤bp∧bp<f.hi)
 sw:¬f.all bw∧¬(f.lo≤bw∧bw<f.hi)
 sr:∀b,v.ownBlock=some b→¬f.all b∧¬(f.lo≤b∧b<f.hi)∧b≠bp∧b≠bw
theorem lT.ne {w0 w:World} {bp bw:Nat} {f:iM} {p:Po} {ws:List ByteArray} {v:Value} (h:lT w0 w bp bw f p ws v):bp≠bw:=iV h.cp h.cw (by decide)
theorem lT.old {w0 w w':World} {bp bw:Nat} {f:iM} {p:Po} {ws:List ByteArray} {v:Value} (h:lT w0 w bp bw f p ws v) (k:Kp none' w w'):lT w0 w' bp bw f p ws v:=
 {h with po:=h.po.old k,cp:=h.cp.kp k (fun x=>x),cw:=h.cw.kp k (fun x=>x),row:=h.row.kp k (fun _ _ x=>x),kp:=h.kp.trans k}
theorem lT.tbf {w0 w:World} {bp bw:Nat} {f:iM} {p:Po} {ws:List ByteArray} {v:Value} (h:lT w0 w bp bw f p ws v):Bz w f.sf.all:=
 ⟨h.tab.kp h.kp (fun x=>x),fun e=>by
  have h1:0<w0.heap.size:=World.block_lt_of_cell? w0 ⟨0,0,none⟩ (h.tab 0 (by decide))
  have h2:=h.low _ (.inr (.inr e));omega⟩
theorem lT.toZ {w0 w w':World} {bp bw:Nat} {f:iM} {p p':Po} {ws:List ByteArray} {v:Value} (h:lT w0 w bp bw f p ws v) (t:qX w f p' w'):∃f',lT w0 w' bp bw f' p' ws v∧f'.pb=f.pb:=by
 obtain⟨f',hm,hk,hn,e1,e2,e3⟩:=t;have hb:bp<w.heap.size:=h.cp.lt;have hw:bw<w.heap.size:=h.cw.lt;have hz:=h.kp.size;have far:∀b,b<w.heap.size→¬f.all b→¬f'.all b:=fun b hb hn2 e=>by
  rcases hn b e with e|e
  ·exact hn2 e
  ·omega
 refine⟨f',⟨hm,by rw[e1];exact h.cp.kp hk h.sp.1,h.cw.kp hk h.sw.1,h.row.kp hk (fun b hb=>(h.sr b hb).1),h.tab,h.kp.then hk (fun i hi e=>by have:=h.low i e;omega),fun b hb=> ?_,h.YM,h.Qe,⟨far _ hb h.sp.1,by rw[e2,e3];exact h.sp.2⟩,⟨far _ hw h.sw.1,by rw[e2,e3];exact h.sw.2⟩,fun b hb=>⟨far _ (h.row.blk hb).2 (h.sr b hb).1,by rw[e2,e3];exact(h.sr b hb).2⟩⟩,e1⟩;rcases hn b hb with e|e
 ·exact h.low b e
 ·omega
theorem lT.ae6 {w0 w w':World} {bp bw:Nat} {f:iM} {p:Po} {ws ws':List ByteArray} {v v':Value} (h:lT w0 w bp bw f p ws v) (hr:je w w0.heap.size 9 v' (x9 ws')) (hs:∀b,v'.ownBlock=some b→¬f.all b∧¬(f.lo≤b∧b<f.hi)∧b≠bp∧b≠bw)
 (hb:ag w' bw [v'] 68) (k:Kp (fun b=>b=bw) w w'):lT w0 w' bp bw f p ws' v':=
 {po:=h.po.kp k (fun b hb2 e=>by have e:b=bw:=e;subst e;exact h.sw.1 hb2) (fun b h1 h2 e=>by have e:b=bw:=e;subst e;exact h.sw.2 ⟨h1,h2⟩)
  cp:=h.cp.kp k (fun e=>h.ne e)
  cw:=hb
  row:=hr.kp k (fun b hb e=>(hs b hb).2.2.2 e)
  tab:=h.tab
  kp:=h.kp.then k (fun i hi e=>by have e:i=bw:=e;have:=h.Qe;omega)
  low:=h.low
  YM:=h.YM
  Qe:=h.Qe
  sp:=h.sp
  sw:=h.sw
  sr:=hs}
set_option maxRecDepth 100000 in
theorem NM {w0 w:World} {bp bw:Nat} {f:iM} {p:Po} {ws:List ByteArray} {v:Value} (h:lT w0 w bp bw f p ws v) (hl:eF p ws) (hn:jv p.s.bk<9223372036854775807):
 Calls Tryz.prog 43 #[.pointer (some ⟨bp,0,none⟩),.pointer (some ⟨bw,0,none⟩)] w fun e w'=>e=.returned (.bool true)∧∃f' ws' v',lT w0 w' bp bw f' (jd p).2 ws' v'∧f'.pb=f.pb∧eF (jd p).2 ws'∧ws'.length≤ws.length∧(1000≤p.s.tok→ws'.length=ws.length-1):=by
 have hle:=ae3 h.po h.tbf hn;have Bj:=hl.lea;have HM:=ae h;obtain⟨x,hx⟩:∃x,tx (jd p).1.1=x:=⟨_,rfl⟩
 obtain⟨E,hE⟩:∃E,(jd p).1.2=E:=⟨_,rfl⟩
 obtain⟨p2,hp2⟩:∃p2,(jd p).2=p2:=⟨_,rfl⟩
 obtain⟨pb,hpb⟩:∃pb,f.pb=pb:=⟨_,rfl⟩
 rw[hx,hE,hp2,hpb]at hle;rw[hx,hE,hp2]at Bj;rw[hp2];have gy:=ae hpb;have HL:=ae hle;have oO:=ae Bj;have d0:=h.cp.cell 0 rfl;rw[hpb]at d0;clear hx hE hp2 hle Bj h hpb;refine ay ?_;intro PP HP
 go_enter Tryz.func43,Tryz.ntmps43
 go_wp2_with fail
 refine HL.out.mono ?_;rintro e w1 ⟨rfl,hto⟩;obtain⟨f1,hm1,hb1⟩:=HM.out.toZ hto;have bT:=ae hm1;have HB1:=ae hb1;have cw:=hm1.cw.cell 0 rfl;obtain⟨ao,cap,rfl⟩:=hm1.row.shape;rw[kW]at cw;rw[kW]at bT;clear hto hm1 hb1 HL HM d0;by_cases hE0:E=0
 ·subst hE0;obtain⟨ws',rfl,hl2⟩:=oO.out.1 rfl;have HL2:=ae hl2;have hrow:=bT.out.row;obtain⟨g,o,rfl,hcap⟩:∃g o,ao=some ⟨g,o,none⟩∧1≤cap:=by
   rcases hrow with⟨e,_⟩|⟨g,o,cap',cur,e,_,_,hcl,_⟩
   ·injection e with _ e2 _;simp at e2
   ·injection e with e1 _ e3
    rw[kW]at hcl;simp only[List.length_cons]at hcl;exact⟨g,o,e1,by omega⟩
  have dx:w1.cell? ⟨g,o,none⟩=some (.string x):=hrow.cell 0 rfl;have HT:=ae (je.tail (x:=.string x) (xs:=x9 ws') hrow);rw[kW]at HT;obtain⟨n,hnl⟩:∃n,ws'.length=n:=⟨_,rfl⟩
  have hx1:(x::ws').length=n+1:=by rw[List.length_cons,hnl]
  rw[hx1]at bT cw;rw[hnl]at HT;have HN:=ae hnl;have fz:=bT.out.cw.fz 0;have jm:=ae (fun v' hr hs=>bT.out.ae6 (ws':=ws') (v':=v') hr hs (bT.out.cw.set 0 v') ((Kp.refl (fun b=>b=bw) w1).set (.inl rfl) v'));have tZ:=ae bT.out.sr;have hn0:((n:Int)+1==0)=false:=by simp;omega
  clear hrow hl2 oO hx1 hnl;by_cases hc:cap=1
  ·subst hc
   go_wp2_with fail
   exact HP.out _ _ ⟨rfl,f1,ws',_,jm.out _ HT.out tZ.out,by rw[HB1.out],HL2.out,by simp,fun _=>by simp⟩
  ·have HT2:=HT;rw[if_neg hc]at HT2
   go_wp2_with fail
   exact HP.out _ _ ⟨rfl,f1,ws',_,jm.out _ HT2.out tZ.out,by rw[HB1.out],HL2.out,by simp,fun _=>by simp⟩
 ·obtain⟨hl2,hor⟩:=oO.out.2 hE0;have HL2:=ae hl2;rcases hor with⟨rfl,rfl⟩|⟨rfl,hne,htk⟩
  ·clear oO hl2
   go_wp2_with fail
   exact HP.out _ _ ⟨rfl,f1,[],_,bT.out,by rw[HB1.out],HL2.out,Nat.le_refl _,fun _=>rfl⟩
  ·have hpos:(0:Int)<ws.length:=by cases ws with
        |nil=>exact absurd rfl hne
        |cons a l=>simp
   clear oO hl2
   go_wp2_with fail
   exact HP.out _ _ ⟨rfl,f1,ws,_,bT.out,by rw[HB1.out],HL2.out,Nat.le_refl _,fun e=>by omega⟩
end Go.Proofs.YtjiehhlghjnfhaaGreatDoor
