/- A shaper made (layer 26). -/
import Derived.Test.YtjiehhlghjnfhaaGreatDoorMTopLineF21
import Derived.Test.YtjiehhlghjnfhaaGreatDoorProg
import Derived.Test.YtjiehhlghjnfhaaGreatDoorMTopLineF0
import Derived.ProofKit
import Derived.OpenShut
import Derived.Test.YtjiehhlghjnfhaaGreatDoorMTopLineF5
set_option linter.unusedVariables false
set_option linter.unusedSimpArgs false
set_option maxHeartbeats 8000000
namespace Go.Proofs.YtjiehhlghjnfhaaGreatDoor
open Go Go.RowKit Go.Shelf
theorem PH {c:mF} (h:chk c=0):(1≤c.rank∧c.rank≤3)∧(1≤c.queues∧c.queues≤32)∧kS c=0∧0<c.rate∧c.fQ≤c.aQ:=by
 unfold chk at h;split at h
 ·cases h
 ·split at h
  ·cases h
  ·split at h
   ·cases h
   ·split at h
    ·rename_i h1;exact absurd h h1
    ·rename_i h1
     split at h
     ·cases h
     ·split at h
      ·cases h
      ·exact⟨by omega,by omega,by omega,by omega,by omega⟩
def Au (c:mF) (st:jB):Sh:=⟨yU c,⟨c.rank,c.aS,c.aS.map (xU c.rank),0⟩,c.rate,c.aQ,c.aQ,st,0,List.replicate 32 0⟩
set_option maxRecDepth 100000 in
theorem acX (c:mF) (hc:c.ok) (hE:chk c=0) (v:Value) (w:World) (h:Sl w v c.aS.length 5 (c.aS.flatMap gU)) (st:jB) (hst:aW st=[]) (hwf:BV st)
 (EZ:∀W,Kp none' w W→Calls Tryz.prog 89 #[.agg (lC c v).toArray] W fun e w'=>∃v Fb,e=.returned v∧jT w' Fb v c.aI.toNat st∧(∀b,Fb b→W.heap.size≤b)∧Kp none' W w'):
 Calls Tryz.prog 47 #[.agg (lC c v).toArray] w fun e w'=>∃f,e=.returned (.tuple #[.pointer (some ⟨f.sb,0,none⟩),.int .i64 0])∧ShM w' f (Au c st)∧(∀b,f.all b→w.heap.size≤b)∧Kp none' w w':=by
 obtain⟨hk1,hk2,hk3,hk4,hk5⟩:=PH hE;have HCH:=ae (fun W (k:Kp none' w W)=>by have:=abf c hc v W (h.old k);rw[hE]at this;exact this);have HG:=ae (fun W (k:Kp none' w W)=>aej c hc hk3 v W (h.old k));have abD:=Ic hc hk3;have PI:=abD.EW;have HR:=ae (fun W (k:Kp none' w W)=>adK c.rank hk1 c.aS v W (h.old k) PI.2.2.2.2.2.2 hc.aS);have ael:1≤c.fQ:=PI.2.2.2.2.1;have HT:=ae (fun W=>Zl c.rate c.aQ hk4 (by omega) W);have HM:=ae EZ;have aem:Hid (Au c st).Ok:=ae ⟨⟨hk4,by have:=hc.rate;unfold yB at this;exact this⟩,⟨by show 0<c.aQ;omega,by have:=hc.aQ;unfold yB at this;exact this⟩,Nat.le_refl _,by show 0<_;decide,fun x hx=>by rw[(List.mem_replicate.1 hx).2];decide,by show(List.replicate 32 0).length=32;rfl,hwf,rfl,(by show ∀i∈aW st,_;rw[hst];intro i hi;cases hi),by show((aW st).length:Int)≤sumP (c.aS.map tK);rw[hst,Bv];decide⟩;obtain⟨ao,cap,rfl⟩:∃ao cap,v=.slice ao c.aS.length cap:=by obtain⟨ao,cap,rfl,_⟩:=h.is;exact⟨_,_,rfl⟩
 have HB0:=ae (ag.new w (lC c (.slice ao c.aS.length cap)) 25);have aB:=ae ((Kp.refl none' w).alloc (.cells (lC c (.slice ao c.aS.length cap)).toArray 25));refine ay ?_;intro PP HP;clear h EZ hst hwf hE hk1 hk2 hk3 hk4 hk5 abD PI ael hc;obtain⟨rk,bk,lv,qu,pk,bt,sh,mt,rt,bu,fl⟩:=c;simp only[lC]at*
 go_enter Tryz.func47,Tryz.ntmps47
 go_wp2_with fail
 refine(HCH.out _ aB.out).mono ?_;rintro e w1 ⟨rfl,hk1⟩;have hb1:=HB0.out.kp hk1 (fun x=>x);have ax:=ae (aB.out.trans hk1);have HB1:=ae hb1;have aJ:=HB1;have y0:=aJ.out.cell 0 rfl;have y1:=aJ.out.cell 1 rfl;have y2:=aJ.out.cell 2 rfl;have y3:=aJ.out.cell 3 rfl;have y4:=aJ.out.cell 4 rfl;have y5:=aJ.out.cell 5 rfl;have y6:=aJ.out.cell 6 rfl;have y7:=aJ.out.cell 7 rfl;have y8:=aJ.out.cell 8 rfl;have y9:=aJ.out.cell 9 rfl;have uq:=aJ.out.cell 10 rfl;clear hk1 hb1 HB0 aB aJ
 go_wp2_with fail
 refine(HM.out _ ax.out).mono ?_;rintro e w2 ⟨v2,Fb,rfl,hbk,hFb,hk2⟩;obtain⟨t2,b2,rfl⟩:=hbk.shape;have Wl:=ae hbk;have FY:=ae hFb;have ak:=ae (ax.out.trans hk2);have HB2:=ae (HB1.out.kp hk2 (fun x=>x));clear hbk hFb hk2 y0 y1 y2 y3 y4 y5 y6 y7 y8 y9 uq;have aJ:=HB2;have y0:=aJ.out.cell 0 rfl;have y1:=aJ.out.cell 1 rfl;have y2:=aJ.out.cell 2 rfl;have y3:=aJ.out.cell 3 rfl;have y4:=aJ.out.cell 4 rfl;have y5:=aJ.out.cell 5 rfl;have y6:=aJ.out.cell 6 rfl;have y7:=aJ.out.cell 7 rfl;have y8:=aJ.out.cell 8 rfl;have y9:=aJ.out.cell 9 rfl;have uq:=aJ.out.cell 10 rfl;have hbl:=HB2.out.lt;have tV:=ae (ag.new w2 [.pointer none,.pointer none,.int .u64 0,.int .u64 0,.int .u64 0,.iface t2 (.agg #[.pointer (some ⟨b2,0,none⟩)]),.int .u64 0,.int .u64 0,.int .u64 0,.int .u64 0,.int .u64 0,.int .u64 0,.int .u64 0,.int .u64 0,.int .u64 0,.int .u64 0,.int .u64 0,.int .u64 0,.int .u64 0,.int .u64 0,.int .u64 0,.int .u64 0,.int .u64 0,.int .u64 0,.int .u64 0,.int .u64 0,.int .u64 0,.int .u64 0,.int .u64 0,.int .u64 0,.int .u64 0,.int .u64 0,.int .u64 0,.int .u64 0,.int .u64 0,.int .u64 0,.int .u64 0,.int .u64 0,.int .u64 0] 212);have uo:=ae ((Kp.refl none' w2).alloc (.cells #[.pointer none,.pointer none,.int .u64 0,.int .u64 0,.int .u64 0,.iface t2 (.agg #[.pointer (some ⟨b2,0,none⟩)]),.int .u64 0,.int .u64 0,.int .u64 0,.int .u64 0,.int .u64 0,.int .u64 0,.int .u64 0,.int .u64 0,.int .u64 0,.int .u64 0,.int .u64 0,.int .u64 0,.int .u64 0,.int .u64 0,.int .u64 0,.int .u64 0,.int .u64 0,.int .u64 0,.int .u64 0,.int .u64 0,.int .u64 0,.int .u64 0,.int .u64 0,.int .u64 0,.int .u64 0,.int .u64 0,.int .u64 0,.int .u64 0,.int .u64 0,.int .u64 0,.int .u64 0,.int .u64 0,.int .u64 0] 212));have aen:=ae (Wl.out.old uo.out);have HB3:=ae (HB2.out.kp uo.out (fun x=>x));have aF:=ae (ak.out.trans uo.out);clear aJ
 go_wp2_with fail
 refine(HG.out _ aF.out).mono ?_;rintro e w4 ⟨gb,Fg,rfl,hg,hFg,hk4⟩;have HB4:=ae (HB3.out.kp hk4 (fun x=>x));have Bl:=ae (tV.out.kp hk4 (fun x=>x));have aH:=ae (aF.out.trans hk4);have aeo:=ae (aen.out.old hk4);have CP:=ae hg;have HFG:=ae hFg;have hsl:=Bl.out.lt;have s0:=Bl.out.cell 0 rfl;have sz:=Bl.out.fz 0;have hne1:w.heap.size≠w2.heap.size:=by omega
 have hne2:w2.heap.size≠w.heap.size:=by omega
 have Ce:∀b,Fg b→w2.heap.size<b:=fun b hb=>by have:=HFG.out b hb;simp at this;omega
 have hkq:Kp (fun b=>b=w2.heap.size) w4 (w4.setCell ⟨w2.heap.size,0,none⟩ (.pointer (some ⟨gb,0,none⟩))):=(Kp.refl (fun b=>b=w2.heap.size) w4).set (p:=⟨w2.heap.size,0,none⟩) (.inl rfl) _;have d_:=ae (HB4.out.kp hkq (fun e=>hne1 e));have uI:=ae (Bl.out.set 0 (.pointer (some ⟨gb,0,none⟩)));have XR:Hid (∀b,Fb b→b<w2.heap.size):=ae (fun b hb=>Wl.out.lt hb);have aep:=ae (aeo.out.kp hkq (fun b hb e=>by have:=XR.out b hb;omega));have pM:=ae (CP.out.kp hkq (fun b hb e=>by have:=Ce b hb;omega));have abE:=ae Ce;have hws:w.heap.size≤w2.heap.size:=by omega
 have a_:Hid (Kp none' w (w4.setCell ⟨w2.heap.size,0,none⟩ (.pointer (some ⟨gb,0,none⟩)))):=ae (aH.out.set (p:=⟨w2.heap.size,0,none⟩) (.inr hws) _);have y0:=HB4.out.cell 0 rfl;have uq:=HB4.out.cell 10 rfl;clear hg hFg hk4 Ce hkq y1 y2 y3 y4 y5 y6 y7 y8 y9 HG
 go_wp2_with fail
 refine(HR.out _ a_.out).mono ?_;rintro e w6 ⟨Fr,rb,rfl,hr,hFr,hk6⟩;have hz5:(w4.setCell ⟨w2.heap.size,0,none⟩ (.pointer (some ⟨gb,0,none⟩))).heap.size=w4.heap.size:=by simp[World.setCell]
 have bV:=ae (d_.out.kp hk6 (fun x=>x));have Pg:=ae (uI.out.kp hk6 (fun x=>x));have b_:=ae (a_.out.trans hk6);have aeq:=ae (aep.out.old hk6);have FZ:=ae (pM.out.old hk6);have sU:=ae hr;have Aw:∀b,Fr b→w4.heap.size≤b:=fun b hb=>by have:=hFr b hb;omega
 have Gh:=ae Aw;have aer:Hid (∀b,Fg b→b<w4.heap.size):=ae (fun b hb=>CP.out.lt hb);have s1:=Pg.out.cell 1 rfl;have qh:=Pg.out.fz 1;have hkq:Kp (fun b=>b=w2.heap.size) w6 (w6.setCell ⟨w2.heap.size,1,none⟩ (.pointer (some ⟨rb,0,none⟩))):=(Kp.refl (fun b=>b=w2.heap.size) w6).set (p:=⟨w2.heap.size,1,none⟩) (.inl rfl) _;have abG:=abE.out;have jw:=ae (bV.out.kp hkq (fun e=>hne1 e));have HS7:=ae (Pg.out.set 1 (.pointer (some ⟨rb,0,none⟩)));have aes:=ae (aeq.out.kp hkq (fun b hb e=>by have:=XR.out b hb;omega));have xE:=ae (FZ.out.kp hkq (fun b hb e=>by have:=abG b hb;omega));have yP:=ae (sU.out.kp hkq (fun b hb e=>by have:=Aw b hb;omega));have oH:Hid (Kp none' w (w6.setCell ⟨w2.heap.size,1,none⟩ (.pointer (some ⟨rb,0,none⟩)))):=ae (b_.out.set (p:=⟨w2.heap.size,1,none⟩) (.inr hws) _);have y8:=bV.out.cell 8 rfl;have y9:=bV.out.cell 9 rfl;clear hr hFr hk6 hkq Aw abG y0 uq s0 sz hz5 HR
 go_wp2_with fail
 refine(HT.out _).mono ?_;rintro e w8 ⟨rfl,hk8⟩;have Jo:=ae (HS7.out.kp hk8 (fun x=>x));have mG:=ae (oH.out.trans hk8);have aet:=ae (aes.out.old hk8);have MB:=ae (xE.out.old hk8);have uK:=ae (yP.out.old hk8);have t2c:=Jo.out.cell 2 rfl;have t3c:=Jo.out.cell 3 rfl;have t4c:=Jo.out.cell 4 rfl;have tz:=fun j=>Jo.out.fz j
 clear hk8 y8 y9 s1 qh HT
 go_wp2_with fail
 have QW:=XR.out;have Ce:=abE.out;have aeu:=aer.out;have Aw:=Gh.out;have hkq:Kp (fun b=>b=w2.heap.size) w8 (((w8.setCell ⟨w2.heap.size,2,none⟩ (.int .u64 rt)).setCell ⟨w2.heap.size,3,none⟩ (.int .u64 bu)).setCell ⟨w2.heap.size,4,none⟩ (.int .u64 bu)):=
  (((Kp.refl (fun b=>b=w2.heap.size) w8).set (p:=⟨w2.heap.size,2,none⟩) (.inl rfl) _).set (p:=⟨w2.heap.size,3,none⟩) (.inl rfl) _).set (p:=⟨w2.heap.size,4,none⟩) (.inl rfl) _
 refine HP.out _ _ ⟨⟨w2.heap.size,gb,rb,.iface t2 (.agg #[.pointer (some ⟨b2,0,none⟩)]),Fg,Fr,Fb⟩,rfl,?_,?_,mG.out.then hkq (fun b hb e=>by omega)⟩
 ·exact {top:=((Jo.out.set 2 (.int .u64 rt)).set 3 (.int .u64 bu)).set 4 (.int .u64 bu)
         gate:=MB.out.kp hkq (fun b hb e=>by have:=Ce b hb;omega)
         ranks:=uK.out.kp hkq (fun b hb e=>by have:=Aw b hb;omega)
         back:=aet.out.kp hkq (fun b hb e=>by have:=QW b hb;omega)
         sg:=fun hb=>by have:=Ce _ hb;simp only at this;omega
         sr:=fun hb=>by have:=Aw _ hb;simp only at this;omega
         sk:=fun hb=>by have:=QW _ hb;simp only at this;omega
         gr:=fun b h1 h2=>by have:=aeu b h1;have:=Aw b h2;omega
         gk:=fun b h1 h2=>by have:=Ce b h1;have:=QW b h2;omega
         rk:=fun b h1 h2=>by have:=Aw b h1;have:=QW b h2;omega
         ok:=aem.out}
 ·intro b hb;rcases hb with rfl|hb|hb|hb
  ·exact hws
  ·have:=Ce b hb;omega
  ·have:=Aw b hb;omega
  ·have h1:=FY.out b hb;have h2:=ax.out.size;omega
theorem uP:∀(vs:List Value) (o:Nat) (xs:List Value),o+vs.length=xs.length→gG xs o vs=xs.take o++vs
 | [],o,xs,h=>by simp only[gG,List.append_nil];rw[List.take_of_length_le (by simp at h;omega)]
 |v::r,o,xs,h=>by
  have hl:o<xs.length:=by simp at h;omega
  show gG (xs.set o v) (o+1) r=_;rw[uP r (o+1) (xs.set o v) (by rw[List.length_set];simp at h;omega)];have:(xs.set o v).take (o+1)=xs.take o++[v]:=by
   rw[List.take_succ_eq_append_getElem (by rw[List.length_set];exact hl),List.getElem_set_self,List.take_set_of_le (Nat.le_refl _)]
  rw[this];simp
theorem ag.setCells {b:Nat} {t:TypeId}:∀(vs:List Value) (o:Nat) (w:World) (cs:List Value),ag w b cs t→ag (w.setCells b o vs) b (gG cs o vs) t
 | [],_,_,_,h=>h
 |v::r,o,_,_,h=>ag.setCells r (o+1) _ _ (h.set o v)
theorem aP {P:Program} {ops:Array Oper} {rest:List Oper} {op:Oper} {a:Act} {Q:Exit→Act→World→Prop} (hgd:op.guard=none) (ty:TypeId) (x y:Operand) (ho:op.op=.store ty x y) {w:World} {b:Nat} {cs:List Value} {t:TypeId} (hb:ag w b cs t) (vs:List Value) (hl:vs.length=cs.length)
 (hx:a.eval x=.pointer (some ⟨b,0,none⟩)) (hy:a.eval y=.agg vs.toArray) (DC:(P.info? ty).map (·.size)=some vs.length) (h1:vs.all (·.oneCell')=true)
 (h:∀W2,ag W2 b vs t→Kp (fun z=>z=b) w W2→wpList P ops Q rest (a.put op.dst undef) W2):wpList P ops Q (op::rest) a w:=by
 refine wpList_store_mid hgd ty x y ho b 0 vs.toArray hx hy ?_ (by rw[List.size_toArray];exact DC) (by simpa using h1) ?_
 ·intro j hj;rw[List.size_toArray,hl]at hj;refine⟨?_,hb.fz _⟩;rw[Nat.zero_add,hb.cell j (List.getElem?_eq_getElem hj)];rfl
 ·refine h _ ?_ (jK (S:=fun z=>z=b) (.inl rfl) _ _ _ (Kp.refl _ _));have:=hb.setCells vs 0;rw[uP vs 0 cs (by omega),List.take_zero,List.nil_append]at this;exact this
theorem h_ {P:Program} {f:Func} {s:Tmp} {ty:TypeId} (hf:f.results=#[.cell s ty]) {R:Ending→World→Prop} {W:World} {g:Nat} {cs:List Value} {t:TypeId} {T:Array Value} (hb:ag W g cs t) (d:TypeDesc) (hu:P.underlying ty=some d) (hd:(match d with| .struct _| .array _ _=>true|_=>false)=true)
 (hi:(P.info? ty).map (·.size)=some cs.length) (h2:T.getD s undef=.pointer (some ⟨g,0,none⟩)) (hR:R (.returned (.agg cs.toArray)) W):bodyPost P f R Exit.ret {tmps:=T,defers:=[]} W:=by
 refine bodyPost_ret (v:=.agg cs.toArray) ?_ rfl hR;have h2':T[s]?.getD undef=.pointer (some ⟨g,0,none⟩):=by simpa using h2
 simp[results,hf,h2',asAddr,run_loadVar_row W g t ty cs.toArray (0,0) d hb.is hu hd (by rw[List.size_toArray];exact hi)]
set_option maxRecDepth 100000
theorem aar (x:Value) (W:World):(method 589 288 x "pacemaker/shaper.push").run Tryz.prog W=.ok (273,x) W:=by kernel_rfl
theorem aas (x:Value) (W:World):(method 589 298 x "pacemaker/shaper.push").run Tryz.prog W=.ok (313,x) W:=by kernel_rfl
theorem aat (x:Value) (W:World):(method 589 288 x "pacemaker/shaper.peek").run Tryz.prog W=.ok (271,x) W:=by kernel_rfl
theorem aau (x:Value) (W:World):(method 589 298 x "pacemaker/shaper.peek").run Tryz.prog W=.ok (311,x) W:=by kernel_rfl
theorem acY (x:Value) (W:World):(method 589 288 x "pacemaker/shaper.pop").run Tryz.prog W=.ok (272,x) W:=by kernel_rfl
theorem acZ (x:Value) (W:World):(method 589 298 x "pacemaker/shaper.pop").run Tryz.prog W=.ok (312,x) W:=by kernel_rfl
theorem aav (x:Value) (W:World):(method 589 293 x "pacemaker/shaper.push").run Tryz.prog W=.ok (284,x) W:=by kernel_rfl
theorem aaw (x:Value) (W:World):(method 589 293 x "pacemaker/shaper.peek").run Tryz.prog W=.ok (282,x) W:=by kernel_rfl
theorem ac0 (x:Value) (W:World):(method 589 293 x "pacemaker/shaper.pop").run Tryz.prog W=.ok (283,x) W:=by kernel_rfl
structure Bz (w:World) (F:Nat→Prop):Prop where
 tab:Tab w
 ne:¬F 0
structure BkC (t:TypeId) (x:Value) (gu ge gp:Nat):Prop where
 mu:∀W,(method 589 t x "pacemaker/shaper.push").run Tryz.prog W=.ok (gu,x) W
 me:∀W,(method 589 t x "pacemaker/shaper.peek").run Tryz.prog W=.ok (ge,x) W
 mp:∀W,(method 589 t x "pacemaker/shaper.pop").run Tryz.prog W=.ok (gp,x) W
 cu:∀args W,(callFunc gu args).run Tryz.prog W=.ok (.enter gu args) W
 ce:∀args W,(callFunc ge args).run Tryz.prog W=.ok (.enter ge args) W
 cp:∀args W,(callFunc gp args).run Tryz.prog W=.ok (.enter gp args) W
 push:∀W F room s r fl id ln,jT W F (.iface t x) room s→(aW s).length<room→jv s<9223372036854775807→r<18446744073709551616→
  Calls Tryz.prog gu #[x,.int .u64 (r:Nat),.agg #[.int .u32 (fl:Nat),.int .u32 (id:Nat),.int .u64 (ln:Nat)]] W fun e w'=>e=.returned (.tuple #[])∧∃F',jT w' F' (.iface t x) room (iY s r ⟨fl,id,ln⟩)∧Kp F W w'∧Nw W F F'
 peek:∀W F room s,jT W F (.iface t x) room s→Bz W F→
  Calls Tryz.prog ge #[x] W fun e w'=>e=.returned (.tuple #[.int .u64 (aX s).1.rank,.agg #[.int .u32 (aX s).1.x.jU,.int .u32 (aX s).1.x.id,.int .u64 (aX s).1.x.len],.bool (aX s).2])∧∃F',jT w' F' (.iface t x) room s∧Kp F W w'∧Nw W F F'
 pop:∀W F room s,jT W F (.iface t x) room s→Bz W F→(aX s).2=true→
  Calls Tryz.prog gp #[x] W fun e w'=>e=.returned (.tuple #[])∧∃F',jT w' F' (.iface t x) room (jW s)∧Kp F W w'∧Nw W F F'
theorem Ju {w:World} {F:Nat→Prop} {room:Nat} {b:Nat} {s:jB} (h:jT w F (F7 b) room s):∃n S,s=.hp n S∧Hp w F b room n S:=by
 cases s with
 |hp n S=>
  obtain⟨b',e,h⟩:=h;unfold F7 at e;injection e with _ e
  injection e with e
  have e:(⟨b,0,none⟩:Addr)=⟨b',0,none⟩:=by simpa using e
  injection e with e
  subst e;exact⟨n,S,rfl,h⟩
 |qu bs Qs=>
  obtain⟨b',e,h⟩:=h;unfold F7 OM at e;injection e with e _
  exact absurd e (by decide)
 |ca n I=>
  obtain⟨b',e,h⟩:=h;unfold F7 Jq at e;injection e with e _
  exact absurd e (by decide)
theorem Jv {w:World} {F:Nat→Prop} {room:Nat} {b:Nat} {s:jB} (h:jT w F (OM b) room s):∃bs Qs,s=.qu bs Qs∧Qu w F b room bs Qs:=by
 cases s with
 |hp n S=>
  obtain⟨b',e,h⟩:=h;unfold F7 OM at e;injection e with e _
  exact absurd e (by decide)
 |qu bs Qs=>
  obtain⟨b',e,h⟩:=h;unfold OM at e;injection e with _ e
  injection e with e
  have e:(⟨b,0,none⟩:Addr)=⟨b',0,none⟩:=by simpa using e
  injection e with e
  subst e;exact⟨bs,Qs,rfl,h⟩
 |ca n I=>
  obtain⟨b',e,h⟩:=h;unfold OM Jq at e;injection e with e _
  exact absurd e (by decide)
theorem Jw {w:World} {F:Nat→Prop} {room:Nat} {b:Nat} {s:jB} (h:jT w F (Jq b) room s):∃n I,s=.ca n I∧cq.Ca w F b room n I:=by
 cases s with
 |hp n S=>
  obtain⟨b',e,h⟩:=h;unfold F7 Jq at e;injection e with e _
  exact absurd e (by decide)
 |qu bs Qs=>
  obtain⟨b',e,h⟩:=h;unfold Jq OM at e;injection e with e _
  exact absurd e (by decide)
 |ca n I=>
  obtain⟨b',e,h⟩:=h;unfold Jq at e;injection e with _ e
  injection e with e
  have e:(⟨b,0,none⟩:Addr)=⟨b',0,none⟩:=by simpa using e
  injection e with e
  subst e;exact⟨n,I,rfl,h⟩
theorem bkH (b:Nat):BkC 288 (.agg #[.pointer (some ⟨b,0,none⟩)]) 273 271 272 where
 mu:=aar _
 me:=aat _
 mp:=acY _
 cu:=fun _ _=>by kernel_rfl
 ce:=fun _ _=>by kernel_rfl
 cp:=fun _ _=>by kernel_rfl
 push:=fun W F room s r fl id ln h hl hn hr=>by
  obtain⟨n,S,rfl,hp⟩:=Ju h;refine(ZL (Q:=fun w'=>∃F',Hp w' F' b room (n+1) (iQ S ⟨r,n,⟨fl,id,ln⟩⟩)∧Kp F W w'∧Nw W F F') (fun W2 k=>(I_ (hp.old k) (by simpa[aW]using hl) hn r fl id ln).mono fun e w' ⟨a,F',b1,b2,b3⟩=>⟨⟨_,a⟩,F',b1,(k.mono (fun _ _ x=>x.elim)).trans b2,fun z hz=>(b3 z hz).imp_right (fun h=>Nat.le_trans k.size h)⟩)).mono ?_;rintro e w' ⟨rfl,F',h1,h2,h3⟩;exact⟨rfl,F',⟨b,rfl,h1⟩,h2,h3⟩
 peek:=fun W F room s h _=>by
  obtain⟨n,S,rfl,hp⟩:=Ju h;have e0:=Wu n S;have e1:(aX (.hp n S)).1=⟨(og S).1.rank,(og S).1.x⟩:=by rw[e0]
  have e2:(aX (.hp n S)).2=(og S).2:=by rw[e0]
  rw[e1,e2];refine(ZM (fun W2 k=>zS (hp.old k))).mono ?_;rintro e w' ⟨rfl,hk⟩;exact⟨rfl,F,⟨b,rfl,hp.old hk⟩,hk.mono (fun _ _ x=>x.elim),Nw.refl _ _⟩
 pop:=fun W F room s h _ hs=>by
  obtain⟨n,S,rfl,hp⟩:=Ju h;cases S with
  |nil=>cases hs
  |cons x S=>
   refine(acw (Q:=fun w'=>Hp w' F b room n S∧Kp F W w') (fun W2 k=>(OG (hp.old k)).mono fun e w' ⟨a,b1,b2⟩=>⟨⟨_,_,_,a⟩,b1,(k.mono (fun _ _ x=>x.elim)).trans b2⟩)).mono ?_;rintro e w' ⟨rfl,h1,h2⟩;exact⟨rfl,F,⟨b,rfl,h1⟩,h2,Nw.refl _ _⟩
theorem bkQ (b:Nat):BkC 298 (.agg #[.pointer (some ⟨b,0,none⟩)]) 313 311 312 where
 mu:=aas _
 me:=aau _
 mp:=acZ _
 cu:=fun _ _=>by kernel_rfl
 ce:=fun _ _=>by kernel_rfl
 cp:=fun _ _=>by kernel_rfl
 push:=fun W F room s r fl id ln h hl hn hr=>by
  obtain⟨bs,Qs,rfl,hp⟩:=Jv h;rw[OL]at hl;refine(ZN (Q:=fun w'=>∃F',Qu w' F' b room (pushB bs r) (uu bs Qs r ⟨r,⟨fl,id,ln⟩⟩)∧Kp F W w'∧Nw W F F') (fun W2 k=>(acv (hp.old k) hl r fl id ln hr).mono fun e w' ⟨a,F',b1,b2,b3⟩=>⟨⟨_,a⟩,F',b1,(k.mono (fun _ _ x=>x.elim)).trans b2,fun z hz=>(b3 z hz).imp_right (fun h=>Nat.le_trans k.size h)⟩)).mono ?_;rintro e w' ⟨rfl,F',h1,h2,h3⟩;exact⟨rfl,F',⟨b,rfl,h1⟩,h2,h3⟩
 peek:=fun W F room s h _=>by
  obtain⟨bs,Qs,rfl,hp⟩:=Jv h;rw[Lr];refine(ZO (fun W2 k=>by obtain⟨v1,v2,ps,Fs,rfl,hm⟩:=hp.old k;exact acs hm)).mono ?_;rintro e w' ⟨rfl,hk⟩;exact⟨rfl,F,⟨b,rfl,hp.old hk⟩,hk.mono (fun _ _ x=>x.elim),Nw.refl _ _⟩
 pop:=fun W F room s h _ hs=>by
  obtain⟨bs,Qs,rfl,hp⟩:=Jv h;rw[Lr]at hs;unfold rO at hs;cases hf:lW Qs with
  |none=>rw[hf]at hs;cases hs
  |some i=>
   obtain⟨q,Q,h1,h2⟩:=mJ hf;have e1:BU Qs=Qs.set i Q:=by unfold BU;rw[hf];simp only[List.getD_eq_getElem?_getD,h1,Option.getD_some,List.tail_cons]
   show Calls _ _ _ _ fun e w'=>_∧∃F',jT w' F' _ room (.qu bs (BU Qs))∧_
   rw[e1];refine(acx (Q:=fun w'=>Qu w' F b room bs (Qs.set i Q)∧Kp F W w') (fun W2 k=>(adL (hp.old k) hf h1).mono fun e w' ⟨a,b1,b2⟩=>⟨⟨_,_,_,a⟩,b1,(k.mono (fun _ _ x=>x.elim)).trans b2⟩)).mono ?_;rintro e w' ⟨rfl,h3,h4⟩;exact⟨rfl,F,⟨b,rfl,h3⟩,h4,Nw.refl _ _⟩
theorem aev (b:Nat):BkC 293 (.agg #[.pointer (some ⟨b,0,none⟩)]) 284 282 283 where
 mu:=aav _
 me:=aaw _
 mp:=ac0 _
 cu:=fun _ _=>by kernel_rfl
 ce:=fun _ _=>by kernel_rfl
 cp:=fun _ _=>by kernel_rfl
 push:=fun W F room s r fl id ln h hl hn hr=>by
  obtain⟨n,I,rfl,hp⟩:=Jw h;refine(aah (Q:=fun w'=>∃F',cq.Ca w' F' b room (n+1) (jo I ⟨r,⟨fl,id,ln⟩⟩)∧Kp F W w'∧Nw W F F') (fun W2 k=>(cq.aad (hp.old k) hl hn r fl id ln hr).mono fun e w' ⟨a,F',b1,b2,b3⟩=>⟨⟨_,a⟩,F',b1,(k.mono (fun _ _ x=>x.elim)).trans b2,fun z hz=>(b3 z hz).imp_right (fun h=>Nat.le_trans k.size h)⟩)).mono ?_;rintro e w' ⟨rfl,F',h1,h2,h3⟩;exact⟨rfl,F',⟨b,rfl,h1⟩,h2,h3⟩
 peek:=fun W F room s h hT=>by
  obtain⟨n,I,rfl,hp⟩:=Jw h;refine(aai hp hT.tab hT.ne).mono ?_;rintro e w' ⟨rfl,F',h1,h2,h3⟩;exact⟨rfl,F',⟨b,rfl,h1⟩,h2,h3⟩
 pop:=fun W F room s h hT hs=>by
  obtain⟨n,I,rfl,hp⟩:=Jw h;cases I with
  |nil=>cases hs
  |cons x T=>
   refine(acL (Q:=fun w'=>∃F',cq.Ca w' F' b room n T∧Kp F W w'∧Nw W F F') (fun W2 k=>(cq.acK (hp.old k) (hT.tab.kp k (fun x=>x)) hT.ne).mono fun e w' ⟨a,F',b1,b2,b3⟩=>⟨a,F',b1,(k.mono (fun _ _ x=>x.elim)).trans b2,fun z hz=>(b3 z hz).imp_right (fun h=>Nat.le_trans k.size h)⟩)).mono ?_;rintro e w' ⟨rfl,F',h1,h2,h3⟩;exact⟨rfl,F',⟨b,rfl,h1⟩,h2,h3⟩
theorem jT.c {w:World} {F:Nat→Prop} {v:Value} {room:Nat} {s:jB} (h:jT w F v room s):∃t x gu ge gp,v=.iface t x∧BkC t x gu ge gp:=by
 cases s with
 |hp n S=>obtain⟨b,rfl,_⟩:=h;exact⟨_,_,_,_,_,rfl,bkH b⟩
 |qu bs Qs=>obtain⟨b,rfl,_⟩:=h;exact⟨_,_,_,_,_,rfl,bkQ b⟩
 |ca n I=>obtain⟨b,rfl,_⟩:=h;exact⟨_,_,_,_,_,rfl,aev b⟩
end Go.Proofs.YtjiehhlghjnfhaaGreatDoor
namespace Go.Proofs.YtjiehhlghjnfhaaGreatDoor
open Go.ChangeShapes Go.WideShapes Go.ChangeAt Go.RowKit
structure yV where
 kind:Int
 jU:Nat
 id:Nat
 len:Nat
 mO:Nat
def Uo (o:yV):List Value:=[.int .i64 o.kind,.int .u32 o.jU,.int .u32 o.id,.int .u64 o.len,.int .u64 o.mO]
structure yV.ok (o:yV):Prop where
 kind: -9223372036854775808≤o.kind∧o.kind≤9223372036854775807
 jU:o.jU<4294967296
 id:o.id<4294967296
 len:o.len<18446744073709551616
 mO:o.mO<18446744073709551616
instance:Inhabited yV:=⟨⟨0,0,0,0,0⟩⟩
theorem yV.Ur (o p:yV):(o.kind=p.kind∧o.jU=p.jU∧o.id=p.id∧o.len=p.len∧o.mO=p.mO)↔o=p:=by
 obtain⟨a,b,c,d,e⟩:=o;obtain⟨a',b',c',d',e'⟩:=p;simp only[yV.mk.injEq]
instance:DecidableEq yV:=fun o p=>decidable_of_iff _ (yV.Ur o p)
section
variable {H:Type} {enc:TypeId×Value→H} {w:World} {base:Nat} {spare:Nat→Bool} {held:Bool}
end
end Go.Proofs.YtjiehhlghjnfhaaGreatDoor
namespace Go.Proofs.YtjiehhlghjnfhaaGreatDoor
open Go Go.RowKit Go.Shelf
def oP:List Value:=[.int .u64 0,.int .u64 0,.int .i64 0,.int .u64 0]++List.replicate 32 (.int .u64 0)
def mY (kind code:Int) (fl id ln rank:Nat) (st:List Value):List Value:=[.int .i64 kind,.int .i64 code,.int .u32 fl,.int .u32 id,.int .u64 ln,.int .u64 rank]++st
theorem aZ:(Tryz.prog.info? 64).map (·.size)=some 42:=by kernel_rfl
def kV (s:Sh) (k:Nat):Sh:= {s with ref:=s.ref.set k (dS (s.ref.getD k 0) 1)}
def dU (s:Sh) (fl id ln:Nat):List Value×Sh:=
 if dN s.g fl ln=0 then
  (mY 1 0 fl id ln (eu s.r s.now fl ln).1 oP,{s with g:=tH s.g fl ln,r:=(eu s.r s.now fl ln).2,bk:=iY s.bk (eu s.r s.now fl ln).1 ⟨fl,id,ln⟩})
 else(mY 1 (dN s.g fl ln) fl id ln 0 oP,kV s (dN s.g fl ln).toNat)
def dA (s:Sh):List Value×Sh:=
 if(aX s.bk).2=false then(mY 2 18 0 0 0 0 oP,s)
 else if s.tok<(aX s.bk).1.x.len then(mY 2 19 0 0 0 0 oP,s)
 else(mY 2 0 (aX s.bk).1.x.jU (aX s.bk).1.x.id (aX s.bk).1.x.len (aX s.bk).1.rank oP,
    {s with tok:=s.tok-(aX s.bk).1.x.len,bk:=jW s.bk,g:=l9 s.g (aX s.bk).1.x.jU (aX s.bk).1.x.len,r:=mX s.r (aX s.bk).1.rank})
def ny (s:Sh):List Value:=[.int .u64 s.now,.int .u64 s.tok,.int .i64 (sumP s.g.st),.int .u64 (fC s.g.st)]++s.ref.map lG
def xK (s:Sh) (o:yV):List Value×Sh:=
 if o.kind=1 then dU s o.jU o.id o.len
 else if o.kind=2 then dA s
 else if o.kind=3 then(mY 3 0 0 0 0 0 oP,{s with now:=dS s.now o.mO,tok:=n_ s.rate s.aQ s.tok o.mO})
 else if o.kind=4 then(mY 4 0 0 0 0 0 (ny s),s)
 else if o.kind=5 then(mY 5 2 0 0 0 0 oP,kV s 2)
 else(mY 0 1 0 0 0 0 oP,kV s 1)
theorem Us {g:Ga} (ok:g.Ok) {id n:Nat} (h0:0≤g.at id):sumP (g.lay id n).st=sumP g.st+1:=by
 obtain⟨h1,h2⟩:=ok.yS h0;show sumP (g.st.set _ _)=_;rw[tJ _ _ _ h1,←h2];show sumP g.st-(g.x id).p+((g.x id).p+1)=_;omega
theorem Ut {g:Ga} (ok:g.Ok) (id n:Nat):sumP g.st-1≤sumP (l9 g id n).st:=by
 unfold l9;split
 ·rename_i h
  obtain⟨h0,_,_⟩:=Bq h;obtain⟨h1,h2⟩:=ok.yS h0;show _≤sumP (g.st.set _ _);rw[tJ _ _ _ h1,←h2];show _≤sumP g.st-(g.x id).p+((g.x id).p-1);omega
 ·omega
theorem abH (g:Ga) (id n:Nat):(tH g id n).c=g.c:=by unfold tH Ga.lay Ga.put;split<;>rfl
theorem XT (g:Ga) (id n:Nat):(l9 g id n).c=g.c:=by unfold l9 Ga.put;split<;>rfl
theorem XU (r:Rk) (now id n:Nat):(eu r now id n).2.fl=r.fl:=by unfold eu Rk.setTag;split;rfl;split<;>rfl
theorem MQ (r:Rk) (x:Nat):(mX r x).fl=r.fl:=by unfold mX;split<;>rfl
theorem Uu {r:Rk} (h:r.Ok) (now id n:Nat):(eu r now id n).1<18446744073709551616:=by
 unfold eu;have h1:=h.tag id;have h2:=h.VZ;split
 ·show max _ _<_;omega
 ·split
  ·exact vS _ _
  ·exact h1
theorem aax {l:List Nat} (h:∀x∈l,x<18446744073709551616) (k:Nat):∀x∈l.set k (dS (l.getD k 0) 1),x<18446744073709551616:=by
 intro x hx;rcases List.mem_or_eq_of_mem_set hx with h1|h1
 ·exact h x h1
 ·rw[h1];exact vS _ _
theorem MR {s:Sh} (h:s.Ok) (k:Nat):(kV s k).Ok:=
 {h with ref:=aax h.ref k,len:=by show(s.ref.set k _).length=32;rw[List.length_set];exact h.len}
theorem Uw {g:Ga} {id n:Nat} (h:dN g id n=0):sumP g.st<g.c.aI:=(Ia (Ar h)).2.2.2.1
theorem QX {s:Sh} (h:s.Ok) (hg:s.g.Ok) (hr:s.r.Ok) {fl id ln:Nat} (hf:fl<4294967296) (hi:id<4294967296) (hl:ln<18446744073709551616):(dU s fl id ln).2.Ok:=by
 unfold dU;split
 ·rename_i hm
  have hp:=Ls h.wf (eu s.r s.now fl ln).1 ⟨fl,id,ln⟩;have h0:=(zY hg (Ar hm)).1;have hi:tH s.g fl ln=s.g.lay fl ln:=by unfold tH;rw[if_pos hm]
  exact {h with
   wf:=Wv h.wf _ _
   fl:=by show(eu _ _ _ _).2.fl=(tH _ _ _).c.aS;rw[XU,abH];exact h.fl
   its:=fun i hi=>by
    rcases List.mem_cons.1 (hp.mem_iff.1 hi)with e|e
    ·subst e;exact⟨Uu hr _ _ _,hf,by assumption,hl⟩
    ·exact h.its i e
   tot:=by
    show((aW (iY s.bk _ _)).length:Int)≤sumP (tH s.g fl ln).st;rw[hp.length_eq,hi,Us hg h0,List.length_cons];have:=h.tot
    omega}
 ·exact MR h _
theorem Jy {s:Sh} (h:s.Ok) (hg:s.g.Ok):(dA s).2.Ok:=by
 unfold dA;split
 ·exact h
 ·split
  ·exact h
  ·rename_i h1 h2
   have e:=OJ s.bk
   exact {h with
        tok:=by show s.tok-_≤s.aQ;have:=h.tok;omega
        wf:=ZP h.wf
        fl:=by show(mX _ _).fl=(l9 _ _ _).c.aS;rw[MQ,XT];exact h.fl
        its:=fun i hi=>h.its i (List.mem_of_mem_tail (by rw[←e];exact hi))
        tot:=by
         show((aW (jW s.bk)).length:Int)≤sumP (l9 s.g _ _).st;have h3:=Ut hg (aX s.bk).1.x.jU (aX s.bk).1.x.len;have h4:=h.tot;have h5:aW s.bk≠ []:=fun e=>by unfold aX at h1;rw[e]at h1;exact h1 rfl
         have h6:=List.length_pos_iff.2 h5;rw[e,List.length_tail]
         omega}
theorem aew (s:Sh) (o:yV):jv (xK s o).2.bk≤jv s.bk+1:=by
 unfold xK dU dA kV;split
 ·split
  ·exact ZQ _ _ _
  ·exact Nat.le_succ _
 ·split
  ·split
   ·exact Nat.le_succ _
   ·split
    ·exact Nat.le_succ _
    ·show jv (jW s.bk)≤_;rw[acy];exact Nat.le_succ _
  ·split
   ·exact Nat.le_succ _
   ·split
    ·exact Nat.le_succ _
    ·split<;>exact Nat.le_succ _
end Go.Proofs.YtjiehhlghjnfhaaGreatDoor
namespace Go.Proofs.YtjiehhlghjnfhaaGreatDoor
open Go.RowKit
theorem Az {r:dI} (h:r.Ok):Kq (fG r):=h.s
theorem E8 (l:List dI) {j:Nat} (h:j<l.length):(l.map (fun r=>dm (fG r))).getD j (0,0)=dm (fG l[j]):=by
 rw[getD_at _ (by simpa using h)];simp
structure E_ (w wr:World) (l:List dI) (v:Value) (tb n j:Nat) (T:Tr):Prop where
 tab:iO wr w.heap.size tb T n
 at_:fK (l.map (fun r=>dm (fG r))) j T
 kp:Kp none' w wr
 uY:n≤j
theorem E_.old {w wr w':World} {l:List dI} {v:Value} {tb n j:Nat} {T:Tr} (h:E_ w wr l v tb n j T) (k:Kp none' wr w'):E_ w w' l v tb n j T:=⟨h.tab.old k,h.at_,h.kp.trans k,h.uY⟩
set_option maxRecDepth 100000 in
theorem Jz (l:List dI) (hok:∀r∈l,r.Ok) (hr:∀r∈l,cO (fG r).1 (fG r).2=true) (hn:l.length≤64) (v:Value) (w:World) (h:Sl w v l.length 7 (l.flatMap ja)):
 Calls Tryz.prog 93 #[v,.func (.func 94) #[] #[]] w fun e w'=>∃tb T n,e=.returned (.pointer (some ⟨tb,0,none⟩))∧iO w' w.heap.size tb T n∧ng (l.map (fun r=>dm (fG r))) T∧Kp none' w w':=by
 obtain⟨ao,cap,rfl⟩:∃ao cap,v=.slice ao l.length cap:=by obtain⟨ao,cap,rfl,_⟩:=h.is;exact⟨_,_,rfl⟩
 have HS:=ae h;have HO:=ae hok;have HR:=ae hr;have XV:=ae (fun W=>aa8 W);clear h hok hr
 go_enter Tryz.func93,Tryz.ntmps93
 go_wp2_with(go_at_call 155;refine(XV.out _).mono ?_;rintro e w1 ⟨tb,T,rfl,hT,hk1,b1,hb1⟩
             have HP:Hid (E_ w w1 l (.slice ao l.length cap) tb 0 0 T):=⟨hT,by rw[hb1];exact fK.start _ _,hk1,Nat.le_refl _⟩
             clear hT hk1 hb1)
 go_loopw [14] (fun i wr=>∃(j n:Nat) (T:Tr),i=.int .i64 j∧j≤l.length∧Hid (E_ w wr l (.slice ao l.length cap) tb n j T)) (fun i _=>l.length-(intOf i).toNat)
 case atStart=>exact⟨0,0,T,rfl,Nat.zero_le _,HP.out⟩
 case round=>
  clear HP;obtain⟨j,n,T1,rfl,hj,HI⟩:=hrel;obtain⟨wo,hwo⟩:∃wo:World,wo=wr:=⟨_,rfl⟩
  subst hwo;by_cases hlt:j<l.length
  ·obtain⟨g,off,cap',e1,hc⟩:=(HS.out.old HI.out.kp).at kR (by decide) j hlt;injection e1 with e1 _ e3
   subst e1 e3;have hji:(j:Int)<l.length:=by omega
   obtain⟨r,hrr⟩:∃r,l[j]=r:=⟨_,rfl⟩
   have hmem:r∈l:=by rw[←hrr];exact List.getElem_mem hlt
   rw[hrr]at hc;have c0:wo.cell? ⟨g,off+j*7,none⟩=some (.int .u32 r.s.1):=hc 0 _ rfl;have c1:=hc 1 _ rfl;have c2:=hc 2 _ rfl;have c3:=hc 3 _ rfl;have c4:=hc 4 _ rfl;have c5:=hc 5 _ rfl;have c6:=hc 6 _ rfl;have HRR:=ae hrr;have HM:=ae hmem;have hRl:=(zC (HR.out r hmem) (Az (HO.out r hmem)));have JA:=ae hRl;have XW:=ae (E8 l (j:=j) hlt |>.trans (by rw[hrr]));clear hc hrr hmem hRl
   go_wp2_with fail
   have hK0:Kp none' wo (wo.alloc (.cells #[.int .u32 r.s.1,.int .i64 r.s.2,.int .u32 r.d.1,.int .i64 r.d.2,.int .u16 r.lo,.int .u16 r.hi,.int .u32 r.fl] 153)):=(Kp.refl none' wo).alloc _;have CS:ag (wo.alloc (.cells #[.int .u32 r.s.1,.int .i64 r.s.2,.int .u32 r.d.1,.int .i64 r.d.2,.int .u16 r.lo,.int .u16 r.hi,.int .u32 r.fl] 153)) wo.heap.size (ja r) 153:=ag.new wo (ja r) _;obtain⟨W0,hW0⟩:∃W,wo.alloc (.cells #[.int .u32 r.s.1,.int .i64 r.s.2,.int .u32 r.d.1,.int .i64 r.d.2,.int .u16 r.lo,.int .u16 r.hi,.int .u32 r.fl] 153)=W:=⟨_,rfl⟩
   obtain⟨g7,XX⟩:∃g,wo.heap.size=g:=⟨_,rfl⟩
   rw[hW0]at hK0 CS ⊢;rw[XX]at CS ⊢;have jw:=ae CS;have HI0:=ae (HI.out.old hK0);obtain⟨f,hf⟩:∃f:Nat→Bool,f=fun i=>dL ((l.map (fun r=>dm (fG r))).getD i (0,0)) (dm (fG r)):=⟨_,rfl⟩
   have HF:=ae hf;have PK:Hid (∀W,Calls Tryz.prog 94 #[.agg #[.int .u32 r.s.1,.int .i64 r.s.2,.int .u32 r.d.1,.int .i64 r.d.2,.int .u16 r.lo,.int .u16 r.hi,.int .u32 r.fl]] W fun e w'=>e=.returned (.agg #[.int .u32 (fG r).1,.int .i64 (fG r).2])∧Kp none' W w'):=fun W=>aa9 r.s r.d r.lo r.hi r.fl W
   clear hW0 XX hK0 CS hf c0 c1 c2 c3 c4 c5 c6
   go_loopw [8,20] (fun m i wr=>∃k:Nat,i=.int .i64 k∧k≤l.length∧m=.int .u64 (bitsOf f k:Nat)∧Hid (Kp none' W0 wr)) (fun _ i _=>l.length-(intOf i).toNat)
   case atStart=>exact⟨0,rfl,Nat.zero_le _,rfl,Kp.refl _ _⟩
   case round=>
    obtain⟨k,rfl,hk,rfl,HK⟩:=hrel;by_cases hkl:k<l.length
    ·obtain⟨g,off,cap2,e1,hc⟩:=(HS.out.old (HI0.out.kp.trans HK.out)).at kR (by decide) k hkl;injection e1 with e1 _ e3
     cases e1
     subst e3;have hki:(k:Int)<l.length:=by omega
     have MS:k<64:=by omega
     obtain⟨o,ho⟩:∃o,l[k]=o:=⟨_,rfl⟩
     have JB:o∈l:=by rw[←ho];exact List.getElem_mem hkl
     rw[ho]at hc;have c0:wr.cell? ⟨g,off+k*7,none⟩=some (.int .u32 o.s.1):=hc 0 _ rfl;have c1:=hc 1 _ rfl;have c2:=hc 2 _ rfl;have c3:=hc 3 _ rfl;have c4:=hc 4 _ rfl;have c5:=hc 5 _ rfl;have c6:=hc 6 _ rfl;have HOP:=ae (zC (HR.out o JB) (Az (HO.out o JB)));have rX:=ae (E8 l (j:=k) hkl |>.trans (by rw[ho]));have hfk:f k=qO (fG o).1 (fG o).2 (fG r).1 (fG r).2:=by
      rw[HF.out];show dL ((l.map (fun r=>dm (fG r))).getD k (0,0)) (dm (fG r))=_;rw[rX.out];unfold dL;rw[HOP.out.2,JA.out.2];rfl
     have bo:=Az (HO.out o JB);have JC:Hid (∀W,Calls Tryz.prog 94 #[.agg #[.int .u32 o.s.1,.int .i64 o.s.2,.int .u32 o.d.1,.int .i64 o.d.2,.int .u16 o.lo,.int .u16 o.hi,.int .u32 o.fl]] W fun e w'=>e=.returned (.agg #[.int .u32 (fG o).1,.int .i64 (fG o).2])∧Kp none' W w'):=fun W=>aa9 o.s o.d o.lo o.hi o.fl W
     have Fa:=ae (fun W=>zF (fG o).1 (fG r).1 (fG o).2 (fG r).2 W bo.1 (Az (HO.out r HM.out)).1 ⟨bo.2.1,bo.2.2⟩ (Az (HO.out r HM.out)).2);rw[←hfk]at Fa;obtain⟨b7,hb7⟩:∃W,W=wr:=⟨_,rfl⟩
     subst hb7;have qo:=ae (jw.out.kp HK.out (fun x=>x));have hk9:Kp none' b7 (b7.alloc (.cells #[.int .u32 o.s.1,.int .i64 o.s.2,.int .u32 o.d.1,.int .i64 o.d.2,.int .u16 o.lo,.int .u16 o.hi,.int .u32 o.fl] 153)):=(Kp.refl none' b7).alloc _;have uQ:ag (b7.alloc (.cells #[.int .u32 o.s.1,.int .i64 o.s.2,.int .u32 o.d.1,.int .i64 o.d.2,.int .u16 o.lo,.int .u16 o.hi,.int .u32 o.fl] 153)) b7.heap.size (ja o) 153:=ag.new b7 (ja o) _;have qp:=ae (qo.out.kp hk9 (fun x=>x));have FV:=ae uQ;have MV:=ae hk9;have r0:=qp.out.cell 0 rfl;have r1:=qp.out.cell 1 rfl;have r2:=qp.out.cell 2 rfl;have r3:=qp.out.cell 3 rfl;have r4:=qp.out.cell 4 rfl;have r5:=qp.out.cell 5 rfl;have r6:=qp.out.cell 6 rfl;have o0:=uQ.cell 0 rfl;have o1:=uQ.cell 1 rfl;have o2:=uQ.cell 2 rfl;have o3:=uQ.cell 3 rfl;have o4:=uQ.cell 4 rfl;have o5:=uQ.cell 5 rfl;have o6:=uQ.cell 6 rfl;clear hk9 uQ hc ho JB bo;cases hfv:f k with
     |true=>
      have hor:=yz MS hfv;rw[hfv]at Fa;obtain⟨m,hm⟩:∃m,bitsOf f k=m:=⟨_,rfl⟩
      obtain⟨m',hm'⟩:∃m,bitsOf f (k+1)=m:=⟨_,rfl⟩
      rw[hm,hm']at hor;have C9:=ae hm';simp only[hm];clear hm hm' hfv hfk
      go_wp2_with fail
      refine af [] [0,1,2,3,4,5] 6 (by kernel_rfl) (by kernel_rfl) (fun c a d u w h=>by cases d<;>exact h) ?_;simp only[pick,bn];show aA _ _ _ _ _ _
      repeat((first
          |refine ah (by exact rfl) (by as_aux_lemma=>intro W hK;have e0:=hK.cell r0 (fun x=>x);have e1:=hK.cell r1 (fun x=>x);have e2:=hK.cell r2 (fun x=>x);have e3:=hK.cell r3 (fun x=>x);have e4:=hK.cell r4 (fun x=>x);have e5:=hK.cell r5 (fun x=>x);have e6:=hK.cell r6 (fun x=>x);have f0:=hK.cell o0 (fun x=>x);have f1:=hK.cell o1 (fun x=>x);have f2:=hK.cell o2 (fun x=>x);have f3:=hK.cell o3 (fun x=>x);have f4:=hK.cell o4 (fun x=>x);have f5:=hK.cell o5 (fun x=>x);have f6:=hK.cell o6 (fun x=>x);go_simp;exact rfl) ?_
          |refine ai (by exact rfl) ?_
          |refine au (by exact rfl) (by as_aux_lemma=>intro W;go_simp;exact⟨rfl,rfl⟩) (by intro W hK;with_reducible first|exact JC.out W|exact PK.out W) ?_);simp only[Act.put,aY])
      show ∀W,_→wpList _ _ _ _ _ _
      intro W5 hK5;have a_:=ae ((HK.out.trans MV.out).trans hK5);clear hK5 r0 r1 r2 r3 r4 r5 r6 o0 o1 o2 o3 o4 o5 o6 c0 c1 c2 c3 c4 c5 c6 JC
      go_wp2_with(go_at_call 156;refine(Fa.out _).mono ?_;rintro e w6 ⟨rfl,hk6⟩;have b_:=ae (a_.out.trans hk6);clear hk6)
      go_roundw
      case rel=>exact⟨k+1,by go_num,by omega,by rw[C9.out],b_.out⟩
      case measure=>simp[intOf];omega
     |false=>
      have hsk:=yA hfv;have qF:=ae hsk;rw[hfv]at Fa;obtain⟨m,hm⟩:∃m,bitsOf f k=m:=⟨_,rfl⟩
      have C9:=ae hm;simp only[hm];clear hm hsk hfv hfk
      go_wp2_with fail
      refine af [] [0,1,2,3,4,5] 6 (by kernel_rfl) (by kernel_rfl) (fun c a d u w h=>by cases d<;>exact h) ?_;simp only[pick,bn];show aA _ _ _ _ _ _
      repeat((first
          |refine ah (by exact rfl) (by as_aux_lemma=>intro W hK;have e0:=hK.cell r0 (fun x=>x);have e1:=hK.cell r1 (fun x=>x);have e2:=hK.cell r2 (fun x=>x);have e3:=hK.cell r3 (fun x=>x);have e4:=hK.cell r4 (fun x=>x);have e5:=hK.cell r5 (fun x=>x);have e6:=hK.cell r6 (fun x=>x);have f0:=hK.cell o0 (fun x=>x);have f1:=hK.cell o1 (fun x=>x);have f2:=hK.cell o2 (fun x=>x);have f3:=hK.cell o3 (fun x=>x);have f4:=hK.cell o4 (fun x=>x);have f5:=hK.cell o5 (fun x=>x);have f6:=hK.cell o6 (fun x=>x);go_simp;exact rfl) ?_
          |refine ai (by exact rfl) ?_
          |refine au (by exact rfl) (by as_aux_lemma=>intro W;go_simp;exact⟨rfl,rfl⟩) (by intro W hK;with_reducible first|exact JC.out W|exact PK.out W) ?_);simp only[Act.put,aY])
      show ∀W,_→wpList _ _ _ _ _ _
      intro W5 hK5;have a_:=ae ((HK.out.trans MV.out).trans hK5);clear hK5 r0 r1 r2 r3 r4 r5 r6 o0 o1 o2 o3 o4 o5 o6 c0 c1 c2 c3 c4 c5 c6 JC
      go_wp2_with(go_at_call 156;refine(Fa.out _).mono ?_;rintro e w6 ⟨rfl,hk6⟩;have b_:=ae (a_.out.trans hk6);clear hk6)
      go_roundw
      case rel=>exact⟨k+1,by go_num,by omega,by rw[qF.out,C9.out],b_.out⟩
      case measure=>simp[intOf];omega
    ·have hkn:k=l.length:=by omega
     subst hkn;have hset:bitsOf f l.length=vJ (l.map (fun r=>dm (fG r))) (dm (fG r)):=by rw[HF.out];unfold vJ;rw[List.length_map]
     have HI1:=ae (HI0.out.old HK.out);have HT:=ae (fun W (k:Kp none' wr W)=>aa6 W w.heap.size tb n (vJ (l.map (fun r=>dm (fG r))) (dm (fG r))) T1 (HI1.out.tab.old k) (dm (fG r)) JA.out.1 (by have:=HI1.out.uY;omega));have hpx:(dm (fG r)).1=(fG r).1:=rfl;rw[JA.out.2,←hset,hpx]at HT;have jm:=ae hset;have qo:=ae (jw.out.kp HK.out (fun x=>x));have r0:=qo.out.cell 0 rfl;have r1:=qo.out.cell 1 rfl;have r2:=qo.out.cell 2 rfl;have r3:=qo.out.cell 3 rfl;have r4:=qo.out.cell 4 rfl;have r5:=qo.out.cell 5 rfl;have r6:=qo.out.cell 6 rfl;clear hset hpx;obtain⟨m,hm⟩:∃m,bitsOf f l.length=m:=⟨_,rfl⟩
     rw[hm]at HT jm;simp only[hm];clear hm
     go_wp2_with(first
      |(go_at_call 94;refine(PK.out _).mono ?_;rintro e w2 ⟨rfl,hk2⟩;have ak:=ae hk2;clear hk2)
      |(go_at_call 157;refine(HT.out _ ak.out).mono ?_;rintro e w3 ⟨c,nb,fb,n',rfl,hn',hT',hk3⟩
        have HT3:=ae hT';have nJ:=ae hn';have aF:=ae hk3;clear hT' hn' hk3))
     have hat:fK (l.map (fun r=>dm (fG r))) (j+1) (T1.put nb (dm (fG r)) m fb):=by
      have:=HI.out.at_.put (k:=j) (by rw[List.length_map];exact hlt) (by rw[XW.out];exact JA.out.1) nb fb;rw[XW.out]at this;rw[jm.out];exact this
     have HAT:=ae hat;have HKE:Hid (Kp none' w wr):=HI1.out.kp;have Py:=ae ((HKE.out.trans ak.out).then aF.out (fun i hi e=>by omega));clear hat
     go_roundw
     case rel=>exact⟨j+1,n',_,by go_num,by omega,HT3.out,HAT.out,Py.out,Nat.le_trans nJ.out (Nat.succ_le_succ HI.out.uY)⟩
     case measure=>simp[intOf];omega
  ·have hjn:j=l.length:=by omega
   subst hjn
   go_wp2_with fail
   go_ret
   refine⟨tb,T1,n,rfl,HI.out.tab,?_,HI.out.kp⟩;have:=HI.out.at_;have e:l.length=(l.map (fun r=>dm (fG r))).length:=(List.length_map ..).symm;rw[e]at this;exact this.full
end Go.Proofs.YtjiehhlghjnfhaaGreatDoor
