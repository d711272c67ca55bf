/- Rings (layer 6): At, Head, Take. -/
import Derived.Test.YtjiehhlghjnfhaaGreatDoorMTopLineF8
import Derived.Lib.SliceRun
import Derived.Test.YtjiehhlghjnfhaaGreatDoorMTopLineF6
import Derived.Test.YtjiehhlghjnfhaaGreatDoorMTopLineF0
import Derived.Test.YtjiehhlghjnfhaaGreatDoorShelf
import Derived.Test.YtjiehhlghjnfhaaGreatDoorProg
import Derived.Laws.Externs
import Derived.Test.YtjiehhlghjnfhaaGreatDoorMTopLineF1
set_option linter.unusedVariables false
set_option linter.unusedSimpArgs false
set_option maxHeartbeats 4000000
namespace Go.Proofs.YtjiehhlghjnfhaaGreatDoor
open Go Go.RowKit Go.Shelf
set_option maxRecDepth 100000 in
theorem QD (p:Option Addr) (w:World) (HL:∀W,Kp none' w W→Calls Tryz.prog 321 #[.pointer p] W fun e w'=>e=.returned (.int .i64 0)∧W=w'):Calls Tryz.prog 322 #[.pointer p,.int .i64 0] w fun e w'=>e=.returned (.tuple #[.agg (iE sQ).toArray,.bool false])∧Kp none' w w':=by
 have HL:=ae HL;show Calls _ _ _ _ fun e w'=>e=.returned (.tuple #[.agg #[.int .u64 0,.int .u32 0,.int .u32 0,.int .u64 0],.bool false])∧Kp none' w w'
 have HB4:=ae ((ag.new w [.int .u64 0,.int .u32 0,.int .u32 0,.int .u64 0] 416).alloc (.cells #[.int .u64 0,.int .u32 0,.int .u32 0,.int .u64 0] 416));have nK:=ag.new (w.alloc (.cells #[.int .u64 0,.int .u32 0,.int .u32 0,.int .u64 0] 416)) [.int .u64 0,.int .u32 0,.int .u32 0,.int .u64 0] 416;rw[World.size_alloc]at nK;have bV:=ae nK;have ax:=ae (((Kp.refl none' w).alloc (.cells #[.int .u64 0,.int .u32 0,.int .u32 0,.int .u64 0] 416)).alloc (.cells #[.int .u64 0,.int .u32 0,.int .u32 0,.int .u64 0] 416));clear nK
 go_enter Tryz.func322,Tryz.ntmps322
 go_wp2_with fail
 refine(HL.out _ ax.out).mono ?_;rintro e w1 ⟨rfl,rfl⟩;have x0:=bV.out.cell 0 rfl;have x1:=bV.out.cell 1 rfl;have x2:=bV.out.cell 2 rfl;have x3:=bV.out.cell 3 rfl;have y0:=HB4.out.cell 0 rfl;have y1:=HB4.out.cell 1 rfl;have y2:=HB4.out.cell 2 rfl;have y3:=HB4.out.cell 3 rfl;have yf:=fun j=>HB4.out.fz j
 go_wp2_with fail
 exact iJ (by exact rfl) HB4.out _ Tryz.underlying416 rfl (jQ sQ) (by exact rfl) ⟨rfl,ax.out⟩
theorem Tz (w:World):Calls Tryz.prog 321 #[.pointer none] w fun e w'=>e=.returned (.int .i64 0)∧w=w':=by
 go_enter Tryz.func321,Tryz.ntmps321
 go_wp2
 go_ret
 exact⟨rfl,rfl⟩
set_option maxRecDepth 100000 in
theorem TA {w:World} {F:Nat→Prop} {rb room:Nat} {q:It} {Q:List It} (h:Rg w F rb room (q::Q)):Calls Tryz.prog 322 #[.pointer (some ⟨rb,0,none⟩),.int .i64 0] w fun e w'=>e=.returned (.tuple #[.agg (iE q).toArray,.bool true])∧Kp none' w w':=by
 obtain⟨v,S,fr,n,rfl,hm,ok,hroom⟩:=h;have hn0:0<n:=by have:=ok.len;rw[List.length_cons]at this;omega
 have hni:(0:Int)<n:=by omega
 have hSn:=ok.uY;have hfr:=ok.Ea (by omega);have hfit:=ok.fits;have hg:=(ok.take sQ).1;have e0:lD S.length fr 0=fr:=by unfold lD;rw[if_pos (by omega)];omega
 have HL:=ae (fun W (k:Kp none' w W)=>OB (hm.old k));have hsl0:=fun W (k:Kp none' w W)=>zN (hm.old k) hfr (by omega) 0 (by omega)
 rw[e0]at hsl0;have hsl:∀W,Kp none' w W→Calls Tryz.prog 323 #[.pointer (some ⟨rb,0,none⟩),.int .i64 0] W fun e w'=>e=.returned (.int .i64 fr)∧Kp none' W w':=hsl0
 have Eg:=ae hsl;obtain⟨g,cap,rfl,_⟩:=dJ hm.row (by omega);have xI:=ae (KY hm.row fr q hg);have c0:=hm.top.cell 0 rfl;have hfi:(fr:Int)<S.length:=by omega
 have HX:=ae hm;clear hsl hsl0 e0 hg hm ok;generalize S.length=N at*;have HB4:=ae ((ag.new w [.int .u64 0,.int .u32 0,.int .u32 0,.int .u64 0] 416).alloc (.cells #[.int .u64 0,.int .u32 0,.int .u32 0,.int .u64 0] 416));have nK:=ag.new (w.alloc (.cells #[.int .u64 0,.int .u32 0,.int .u32 0,.int .u64 0] 416)) [.int .u64 0,.int .u32 0,.int .u32 0,.int .u64 0] 416;rw[World.size_alloc]at nK;have bV:=ae nK;have ax:=ae (((Kp.refl none' w).alloc (.cells #[.int .u64 0,.int .u32 0,.int .u32 0,.int .u64 0] 416)).alloc (.cells #[.int .u64 0,.int .u32 0,.int .u32 0,.int .u64 0] 416));clear nK
 go_enter Tryz.func322,Tryz.ntmps322
 go_wp2_with fail
 obtain⟨W1,hW1⟩:∃W1,(w.alloc (.cells #[.int .u64 0,.int .u32 0,.int .u32 0,.int .u64 0] 416)).alloc (.cells #[.int .u64 0,.int .u32 0,.int .u32 0,.int .u64 0] 416)=W1:=⟨_,rfl⟩
 rw[hW1]at HB4 bV ax;simp only[List.toArray]at hW1;change Calls _ _ _ ((w.alloc (.cells #[.int .u64 0,.int .u32 0,.int .u32 0,.int .u64 0] 416)).alloc (.cells #[.int .u64 0,.int .u32 0,.int .u32 0,.int .u64 0] 416)) _
 rw[hW1];clear hW1;refine(HL.out W1 ax.out).mono ?_;rintro e w1 ⟨rfl,rfl⟩;have d0:=ax.out.cell c0 (fun x=>x);clear c0
 go_wp2_with fail
 refine af [] [0,1,2,3,4,5,6,7,8] 9 (by kernel_rfl) (by kernel_rfl) (fun c a d u w h=>by cases d<;>exact h) ?_;simp only[pick,bn];show aA _ _ _ _ _ _
 repeat((first
  |refine ah (by exact rfl) (bW rfl rfl (fun W k=>xI.out W (ax.out.trans k))) ?_
  |refine ah (by exact rfl) (by as_aux_lemma=>intro W hK;have e0:=hK.cell d0 (fun x=>x);go_simp;exact rfl) ?_
  |refine ai (by exact rfl) ?_
  |refine au (by exact rfl) (by as_aux_lemma=>intro W;go_simp;exact⟨rfl,rfl⟩) (by intro W hK;with_reducible first|exact Eg.out W (ax.out.trans hK)) ?_);simp only[Act.put,aY])
 show ∀W,_→wpList _ _ _ _ _ _
 intro W3 hK3;have G9:=ae (HB4.out.kp hK3 (fun x=>x));have aF:=ae (ax.out.trans hK3);clear hK3 d0;refine fF (by exact rfl) 416 (.tmp 4) (.tmp 24) (by exact rfl) G9.out (iE q) (by exact rfl) (by exact rfl) (jQ q) rfl (by intro v hv;simp only[iE,List.mem_cons,List.not_mem_nil,or_false]at hv;rcases hv with rfl|rfl|rfl|rfl<;>rfl) ?_;intro W4 hB4 _ hK4;have d_:=ae hB4;have aH:=ae (hK4 none' w aF.out (.inr (Nat.le_refl _)));clear hB4 hK4;simp only[Act.put]
 go_wp2_with fail
 exact iJ (by exact rfl) d_.out _ Tryz.underlying416 rfl (jQ q) (by exact rfl) ⟨rfl,aH.out⟩
theorem I8 (q:It):∀v∈iE q,v.oneCell'=true:=by
 intro v hv;simp only[iE,List.mem_cons,List.not_mem_nil,or_false]at hv;rcases hv with rfl|rfl|rfl|rfl<;>rfl
set_option maxRecDepth 100000 in
theorem La (p:Option Addr) (w:World) (q:It) (is:Bool) (HA:∀W,Kp none' w W→Calls Tryz.prog 322 #[.pointer p,.int .i64 0] W fun e w'=>e=.returned (.tuple #[.agg (iE q).toArray,.bool is])∧Kp none' W w'):Calls Tryz.prog 318 #[.pointer p] w fun e w'=>e=.returned (.tuple #[.agg (iE q).toArray,.bool is])∧Kp none' w w':=by
 have HA:=ae HA;have HB:=ae (ag.new w [.int .u64 0,.int .u32 0,.int .u32 0,.int .u64 0] 416);have HK:=ae ((Kp.refl none' w).alloc (.cells #[.int .u64 0,.int .u32 0,.int .u32 0,.int .u64 0] 416))
 go_enter Tryz.func318,Tryz.ntmps318
 go_wp2_with fail
 refine(HA.out _ HK.out).mono ?_;rintro e w1 ⟨rfl,hk1⟩;have HB1:=ae (HB.out.kp hk1 (fun x=>x));have ax:=ae (HK.out.trans hk1);clear hk1
 go_wp2_with(first
  |(refine fF rfl 416 (.tmp 2) (.tmp 6) rfl HB1.out (iE q) rfl rfl (jQ q) rfl (I8 q) ?_
    intro W4 hB4 _ hK4;have d_:=ae hB4;have aH:=ae (hK4 none' w ax.out (.inr (Nat.le_refl _)))
    clear hB4 hK4))
 exact iJ (by exact rfl) d_.out _ Tryz.underlying416 rfl (jQ q) (by exact rfl) ⟨rfl,aH.out⟩
def sS:List It→It×Bool
 | []=>(sQ,false)
 |q::_=>(q,true)
theorem QE {w:World} {F:Nat→Prop} {rb room:Nat} {Q:List It} (h:Rg w F rb room Q):Calls Tryz.prog 318 #[.pointer (some ⟨rb,0,none⟩)] w fun e w'=>e=.returned (.tuple #[.agg (iE (sS Q).1).toArray,.bool (sS Q).2])∧Kp none' w w':=by
 refine La _ w _ _ (fun W k=> ?_);cases Q with
 |nil=>
  refine QD _ W (fun W' k'=> ?_);obtain⟨v,S,fr,n,rfl,hm,ok,hroom⟩:=h;have hn:n=0:=ok.len.symm;subst hn;exact OB (hm.old (k.trans k'))
 |cons q Q=>exact TA (h.old k)
theorem OC (w:World):Calls Tryz.prog 318 #[.pointer none] w fun e w'=>e=.returned (.tuple #[.agg (iE sQ).toArray,.bool false])∧Kp none' w w':=
 La _ w _ _ (fun W _=>QD _ W (fun W' _=>Tz W'))
theorem Ei {P:Program} (w:World) (t e ty:TypeId) (z:Value) (zs:List Value) (ht:P.underlying t=some (.slice e)) (hv:∀w,(zeroValue e).run P w=.ok z w) (hz:z.cells=zs.toArray) (h1:∀v∈zs,v.oneCell'=true) (b o c:Nat)
 (hc:∀j,j<zs.length→(w.cell? ⟨b,o+j,none⟩).isSome=true) (hf:∀j,j<zs.length→w.frozen? ⟨b,o+j,none⟩=false):
 (Builtin.clear_ #[t] ty #[.slice (some ⟨b,o,none⟩) 1 c]).run P w=.ok (.tuple #[]) (w.setCells b o zs):=by
 have hzc:(Builtin.zeroCells z.cells 1).toList=zs:=by
  rw[hz];simp[Builtin.zeroCells]
  apply List.ext_getElem
  ·simp
  ·intro i h1 h2;simp[Nat.mod_eq_of_lt h2,List.getElem?_eq_getElem h2]
 have hst:=run_storeCells_cells (P:=P) b o zs 0 w (by simpa using hc) (by simpa using hf) h1;simp only[Nat.add_zero]at hst;simp[Builtin.clear_,run_underlying ht,hv,hzc,hst]
theorem Zi:∀w:World,(zeroValue 416).run Tryz.prog w=.ok (.agg (iE sQ).toArray) w:=fun _=>by kernel_rfl
set_option maxRecDepth 100000 in
theorem Zj {w:World} {F:Nat→Prop} {rb room:Nat} {q:It} {Q:List It} (h:Rg w F rb room (q::Q)):Calls Tryz.prog 319 #[.pointer (some ⟨rb,0,none⟩)] w fun e w'=>e=.returned (.tuple #[.agg (iE q).toArray,.bool true])∧Rg w' F rb room Q∧Kp F w w':=by
 have HH:=ae (fun W (k:Kp none' w W)=>QE (h.old k));simp only[sS]at HH;obtain⟨v,S,fr,n,rfl,hm,ok,hroom⟩:=h;have hn0:0<n:=by have:=ok.len;rw[List.length_cons]at this;omega
 have hSn:=ok.uY;have hfr:=ok.Ea (by omega);have hfit:=ok.fits;have HT:=ae (ok.take sQ).2;obtain⟨g,cap,rfl,_⟩:=dJ hm.row (by omega);have hcap:=KU hm.row;have hgr:g≠rb:=fun e=>az hm.row hm.top (by decide) (by rw[e];rfl)
 have HM:=ae hm;have hm4:lD S.length fr 1<S.length:=uw hfr (by omega);clear hm ok;have hfc:(fr:Int)+1≤cap:=by omega
 have hf1:(fr:Int)<cap:=by omega
 have HW:Hid (IntKind.i64.wrap ((fr:Int)+1)=(fr:Int)+1):=ae (by rw[IntKind.wrap_i64];omega);have HB:=ae (ag.new w [.int .u64 0,.int .u32 0,.int .u32 0,.int .u64 0] 416);have HK:=ae ((Kp.refl none' w).alloc (.cells #[.int .u64 0,.int .u32 0,.int .u32 0,.int .u64 0] 416))
 go_enter Tryz.func319,Tryz.ntmps319
 go_wp2_with fail
 refine(HH.out _ HK.out).mono ?_;rintro e w1 ⟨rfl,hk1⟩;have HB1:=ae (HB.out.kp hk1 (fun x=>x));have ax:=ae (HK.out.trans hk1);have bT:=ae (HM.out.old ax.out);clear hk1;have hw1:w.heap.size<w1.heap.size:=HB1.out.lt;have hrl:rb<w1.heap.size:=bT.out.top.lt
 go_wp2_with(first
  |(refine fF rfl 416 (.tmp 4) (.tmp 9) rfl (ag.new w1 [.int .u64 0,.int .u32 0,.int .u32 0,.int .u64 0] 416) (iE q) rfl rfl (jQ q) rfl (I8 q) ?_
    intro W2 hB2 hO2 hK2;have qA:=ae hB2;have HB2:=ae (hO2 _ _ _ (HB1.out.alloc _) (by omega));have abj:=ae (hK2 none' w1 ((Kp.refl none' w1).alloc _) (.inr (Nat.le_refl _)))
    clear hB2 hO2 hK2))
 have eP:=ae (bT.out.old abj.out);have ak:=ae (ax.out.trans abj.out);obtain⟨y,hy⟩:∃y,w1.heap.size=y:=⟨_,rfl⟩
 rw[hy]at qA hw1 hrl ⊢;clear hy;have c0:=eP.out.top.cell 0 rfl;have c1:=eP.out.top.cell 1 rfl;refine af [] [0,1,2,3,4,5,6,7,8,9,10,11,12,13] 14 (by kernel_rfl) (by kernel_rfl) (fun c a d u w h=>by cases d<;>exact h) ?_;simp only[pick,bn];show aA _ _ _ _ _ _
 repeat((first
  |refine ah (by exact rfl) (by as_aux_lemma=>intro W hK;have e0:=hK.cell c0 (fun x=>x);have e1:=hK.cell c1 (fun x=>x);have e2:=HW.out;go_simp;exact rfl) ?_
  |refine ai (by exact rfl) ?_);simp only[Act.put,aY])
 show ∀W,_→wpList _ _ _ _ _ _
 intro W3 hK3;have fV:=ae (eP.out.old hK3);have yH:=ae (qA.out.kp hK3 (fun x=>x));have HB3:=ae (HB2.out.kp hK3 (fun x=>x));have aF:=ae (ak.out.trans hK3);clear hK3 c0 c1;have hcl:∀ty c,(Builtin.clear_ #[428] ty #[.slice (some ⟨g,fr*4,none⟩) 1 c]).run Tryz.prog W3=.ok (.tuple #[]) (W3.setCells g (fr*4) (iE sQ)):=fun ty c=>
  Ei W3 _ _ ty _ (iE sQ) Tryz.underlying428 Zi rfl (I8 sQ) g (fr*4) c (fun j hj=>by
   rw[jy]at hj;have hl:(S.flatMap iE).length=S.length*4:=dQ iE 4 jy S
   rw[eY fV.out.row (fr*4+j) (List.getElem?_eq_getElem (show fr*4+j<(S.flatMap iE).length by omega))];rfl) (fun j _=>mZ fV.out.row _)
 have Ou:=rH (iE sQ) (fr*4) _ _ fV.out.row;have hk4:Kp (fun b=>b=g) W3 (W3.setCells g (fr*4) (iE sQ)):=jK (S:=fun b=>b=g) (.inl rfl) _ _ _ (Kp.refl _ _);rw[←jJ iE 4 jy S fr sQ hfr]at Ou;obtain⟨W4,nZ⟩:∃W4,W3.setCells g (fr*4) (iE sQ)=W4:=⟨_,rfl⟩
 rw[nZ]at Ou hk4;simp only[nZ]at hcl;clear nZ;have hg0:g<w.heap.size:=(aG HM.out.row rfl).2;have hgy:y≠g:=by omega
 have hgw:w.heap.size≠g:=by omega
 have KW:=ae (yH.out.kp hk4 hgy);have HB4:=ae (HB3.out.kp hk4 hgw);have jR:Hid (yI W4 rb (.slice (some ⟨g,0,none⟩) S.length cap) (S.set fr sQ) fr n room):=ae ⟨fV.out.top.kp hk4 (fun e=>hgr e.symm),by rw[List.length_set];exact Ou⟩;have aH:Hid (Kp (CQ rb (.slice (some ⟨g,0,none⟩) S.length cap)) w W4):=ae ((aF.out.mono (fun _ _ x=>x.elim)).trans (hk4.mono (fun b _ e=>.inr (by rw[e];rfl))));clear Ou hk4
 go_wp2_with fail
 have hsl:=zN jR.out (by rw[List.length_set];exact hfr) (by rw[List.length_set];omega) 1 (by rw[List.length_set];omega);rw[List.length_set]at hsl;obtain⟨Zk,hf2⟩:∃f,lD S.length fr 1=f:=⟨_,rfl⟩
 rw[hf2]at hsl HT hm4;refine Calls.mono hsl ?_;rintro e w5 ⟨rfl,hk5⟩;have dB:=ae (jR.out.old hk5);have Oy:=ae (KW.out.kp hk5 (fun x=>x));have d_:=ae (HB4.out.kp hk5 (fun x=>x));have a_:Hid (Kp (CQ rb (.slice (some ⟨g,0,none⟩) S.length cap)) w w5):=ae (aH.out.trans (hk5.mono (fun _ _ x=>x.elim)));clear hk5 hsl hf2 hcl;have r1:=dB.out.top.cell 1 rfl;have r2:=dB.out.top.cell 2 rfl;have rf:=fun j=>dB.out.top.fz j
 have hyr:y≠rb:=by omega
 have hbr:w.heap.size≠rb:=fun e=>iV d_.out dB.out.top (by decide) e
 have hks:Kp (fun b=>b=rb) w5 ((w5.setCell ⟨rb,1,none⟩ (.int .i64 (Zk:Int))).setCell ⟨rb,2,none⟩ (.int .i64 ((n:Int)-1))):=((Kp.refl (fun b=>b=rb) w5).set (p:=⟨rb,1,none⟩) (.inl rfl) _).set (p:=⟨rb,2,none⟩) (.inl rfl) _;have yJ:=ae ((dB.out.top.set 1 (.int .i64 (Zk:Int))).set 2 (.int .i64 ((n:Int)-1)));have sU:=ae (aK dB.out.row hks (fun b hb e=>by have h9:g=b:=Option.some.inj hb;omega));have I5:=ae (Oy.out.kp hks hyr);have bV:=ae (d_.out.kp hks hbr);have b_:Hid (Kp (CQ rb (.slice (some ⟨g,0,none⟩) S.length cap)) w ((w5.setCell ⟨rb,1,none⟩ (.int .i64 (Zk:Int))).setCell ⟨rb,2,none⟩ (.int .i64 ((n:Int)-1)))):=ae (a_.out.trans (hks.mono (fun b _ e=>.inl e)));clear hks
 go_wp2_with(first
  |(refine BJ rfl 416 (.tmp 4) rfl I5.out _ rfl Tryz.underlying416 rfl (jQ q) ?_)
  |(refine fF rfl 416 (.tmp 2) (.tmp 38) rfl bV.out (iE q) rfl rfl (jQ q) rfl (I8 q) ?_
    intro W7 CS hO7 hK7;have jw:=ae CS;have xG:=ae (hO7 _ _ _ yJ.out hbr.symm);have oH:=ae hK7
    clear CS hO7 hK7))
 have j_:=oH.out (fun b=>b=w.heap.size) _ (Kp.refl _ _) (.inl rfl);refine iJ (by exact rfl) jw.out _ Tryz.underlying416 rfl (jQ q) (by exact rfl) ⟨rfl,⟨.slice (some ⟨g,0,none⟩) S.length cap,S.set fr sQ,Zk,n-1,rfl,⟨?_,?_⟩,HT.out,hroom⟩,oH.out _ _ b_.out (.inr (Nat.le_refl _))⟩
 ·have e:((n-1:Nat):Int)=(n:Int)-1:=by omega
  rw[e];exact xG.out
 ·exact aK sU.out j_ (fun b hb e=>by have h9:g=b:=Option.some.inj hb;omega)
end Go.Proofs.YtjiehhlghjnfhaaGreatDoor
namespace Go.Proofs.YtjiehhlghjnfhaaGreatDoor
def findF:List iW→Nat→Int
 | [],_=> -1
 |f::r,id=>if f.id=id then 0 else if findF r id<0 then -1 else findF r id+1
theorem wV (l:List iW) (id:Nat): -1≤findF l id∧findF l id<l.length:=by
 induction l with
 |nil=>simp[findF]
 |cons f r ih=>
  rw[List.length_cons];unfold findF;by_cases h1:f.id=id
  ·rw[if_pos h1];omega
  ·rw[if_neg h1];by_cases h2:findF r id<0
   ·rw[if_pos h2];omega
   ·rw[if_neg h2];omega
theorem TB (l:List iW) (id j:Nat) (hj:j<l.length) (h:∀i (hi:i<j),(l[i]'(by omega)).id≠id) (e:l[j].id=id):findF l id=j:=by
 induction l generalizing j with
 |nil=>simp at hj
 |cons f r ih=>
  cases j with
  |zero=>unfold findF;rw[if_pos (by simpa using e)];rfl
  |succ j=>
   have h0:f.id≠id:=by have:=h 0 (by omega);simpa using this
   have:=ih j (by simpa using hj) (fun i hi=>by have:=h (i+1) (by omega);simpa using this) (by simpa using e);unfold findF;rw[if_neg h0,if_neg (by omega),this];simp
theorem Ld (l:List iW) (id:Nat) (h:∀i (hi:i<l.length),(l[i]'hi).id≠id):findF l id= -1:=by
 induction l with
 |nil=>rfl
 |cons f r ih=>
  have h0:f.id≠id:=by have:=h 0 (by simp);simpa using this
  have:=ih (fun i hi=>by have:=h (i+1) (by simpa using hi);simpa using this);unfold findF;rw[if_neg h0,this];simp
end Go.Proofs.YtjiehhlghjnfhaaGreatDoor
namespace Go.Proofs.YtjiehhlghjnfhaaGreatDoor
open Go.RowKit Go.Shelf
def dS (a b:Nat):Nat:=if a+b<18446744073709551616 then a+b else 18446744073709551615
theorem vS (a b:Nat):dS a b<18446744073709551616:=by unfold dS;split<;>omega
theorem VV (a b:Nat) (w:World):(callFunc 170 #[.int .u64 a,.int .u64 b,.int .u64 0]).run Tryz.prog w=.ok (.value (.tuple #[.int .u64 (((a+b)%18446744073709551616:Nat):Int),.int .u64 (((a+b)/18446744073709551616:Nat):Int)])) w:=by
 rw[run_callFunc_extern Tryz.func170 (by kernel_rfl) (by kernel_rfl) (by kernel_rfl) (e:=add64Entry) (by kernel_rfl),run_add64 a b 0 (by omega) (by omega) (by omega) (by omega)];simp only[Result.andThen];congr 5<;>omega
theorem QF (a b:Nat) (ha:a<18446744073709551616) (hb:b<18446744073709551616) (w:World):Calls Tryz.prog 109 #[.int .u64 a,.int .u64 b] w fun e w'=>e=.returned (.int .u64 (dS a b))∧w=w':=by
 have hr:=VV a b;by_cases h:a+b<18446744073709551616
 ·have h1:(a+b)%18446744073709551616=a+b:=Nat.mod_eq_of_lt h;have h2:(a+b)/18446744073709551616=0:=Nat.div_eq_of_lt h;rw[h1,h2]at hr;have HS:Hid (dS a b=a+b):=by show _=_;unfold dS;rw[if_pos h]
  clear h1 h2
  go_enter Tryz.func109,Tryz.ntmps109
  go_wp2
  go_ret
  exact⟨by rw[HS.out,Int.natCast_add];rfl,rfl⟩
 ·have h2:(a+b)/18446744073709551616=1:=by omega
  obtain⟨c,hc⟩:∃c,(a+b)%18446744073709551616=c:=⟨_,rfl⟩
  rw[h2,hc]at hr;have HS:Hid (dS a b=18446744073709551615):=by show _=_;unfold dS;rw[if_neg h]
  clear h2 hc
  go_enter Tryz.func109,Tryz.ntmps109
  go_wp2
  go_ret
  exact⟨by rw[HS.out];rfl,rfl⟩
end Go.Proofs.YtjiehhlghjnfhaaGreatDoor
namespace Go.Proofs.YtjiehhlghjnfhaaGreatDoor
open Go Go.RowKit Go.Shelf
def lX (a b:Nat):Nat:=if a*b<18446744073709551616 then a*b else 18446744073709551615
theorem VW (a b:Nat):lX a b<18446744073709551616:=by unfold lX;split<;>omega
theorem adI (a b:Nat) (ha:a<18446744073709551616) (w:World):Calls Tryz.prog 208 #[.int .u64 a,.int .u64 b] w fun e w'=>e=.returned (.int .u64 (a-b:Nat))∧w=w':=by
 by_cases h:a<b
 ·have h':(a:Int)<b:=by omega
  have e:a-b=0:=by omega
  rw[e]
  go_enter Tryz.func208,Tryz.ntmps208
  go_wp2
  go_ret
  exact⟨rfl,rfl⟩
 ·have h':¬(a:Int)<b:=by omega
  obtain⟨c,hc⟩:∃c,a-b=c:=⟨_,rfl⟩
  have hci:(a:Int)-b=c:=by omega
  have hw:IntKind.u64.wrap (c:Int)=c:=by rw[IntKind.wrap_u64];omega
  rw[hc];clear hc
  go_enter Tryz.func208,Tryz.ntmps208
  go_wp2
  go_ret
  exact⟨rfl,rfl⟩
theorem adJ (a b:Nat) (ha:a<18446744073709551616) (hb:b<18446744073709551616) (w:World):Calls Tryz.prog 212 #[.int .u64 a,.int .u64 b] w fun e w'=>e=.returned (.int .u64 (lX a b))∧w=w':=by
 have hm:=Tryz.bits_Mul64 a b ha hb w;obtain⟨hi,hhi⟩:∃hi,a*b/18446744073709551616=hi:=⟨_,rfl⟩
 obtain⟨lo,hlo⟩:∃lo,a*b%18446744073709551616=lo:=⟨_,rfl⟩
 rw[hhi,hlo]at hm;have HB:=ae hm;by_cases h:0<hi
 ·have h':(0:Int)<hi:=by omega
  have HS:Hid (lX a b=18446744073709551615):=by
   show _=_;unfold lX;rw[if_neg];intro hc;have:=Nat.div_eq_of_lt hc;omega
  clear hm hhi hlo
  go_enter Tryz.func212,Tryz.ntmps212
  go_wp2_with(go_at_call 117;refine HB.out.mono ?_;rintro e w' ⟨rfl,rfl⟩)
  go_ret
  exact⟨by rw[HS.out];rfl,rfl⟩
 ·have h':¬(0:Int)<hi:=by omega
  have HS:Hid (lX a b=lo):=by
   show _=_;unfold lX;have h0:a*b/18446744073709551616=0:=by omega
   have h1:a*b<18446744073709551616:=by
    rcases Nat.div_eq_zero_iff.1 h0 with h2|h2
    ·cases h2
    ·exact h2
   rw[if_pos h1,←hlo,Nat.mod_eq_of_lt h1]
  clear hm hhi hlo
  go_enter Tryz.func212,Tryz.ntmps212
  go_wp2_with(go_at_call 117;refine HB.out.mono ?_;rintro e w' ⟨rfl,rfl⟩)
  go_ret
  exact⟨by rw[HS.out];rfl,rfl⟩
theorem Le (a b c:Nat) (ha:a<18446744073709551616) (hb:b<18446744073709551616) (hc:c<18446744073709551616) (w:World):Calls Tryz.prog 171 #[.int .u64 a,.int .u64 b,.int .u64 c] w fun e w'=>e=.returned (.int .u64 (dS a (lX b c)))∧w=w':=by
 have HM:=ae (fun W=>adJ b c hb hc W);have HA:=ae (fun W=>QF a (lX b c) ha (VW b c) W);generalize lX b c=m at*;generalize dS a m=r at*
 go_enter Tryz.func171,Tryz.ntmps171
 go_wp2_with fail
 refine(HM.out _).mono ?_;rintro e w1 ⟨rfl,rfl⟩
 go_wp2_with fail
 refine(HA.out _).mono ?_;rintro e w2 ⟨rfl,rfl⟩
 go_wp2_with fail
 go_ret
 exact⟨rfl,rfl⟩
theorem Dk:(Tryz.prog.info? 210).map (·.size)=some 3:=by kernel_rfl
theorem wW (r b t:Nat) (h1:0<r) (h2:0<b) (h3:t≤b) (w:World):Calls Tryz.prog 154 #[.agg #[.int .u64 r,.int .u64 b,.int .u64 t]] w fun e w'=>e=.returned (.int .i64 0)∧Kp none' w w':=by
 have h1':((r:Int)==0)=false:=by rw[beq_eq_false_iff_ne];omega
 have h2':((b:Int)==0)=false:=by rw[beq_eq_false_iff_ne];omega
 have h3':¬(b:Int)<t:=by omega
 go_enter Tryz.func154,Tryz.ntmps154
 go_wp2
 go_ret
 exact⟨rfl,(Kp.refl none' w).alloc _⟩
set_option maxRecDepth 100000 in
theorem Zl (r b:Nat) (h1:0<r) (h2:0<b) (w:World):Calls Tryz.prog 92 #[.int .u64 r,.int .u64 b] w fun e w'=>e=.returned (.tuple #[.agg #[.int .u64 r,.int .u64 b,.int .u64 b],.int .i64 0])∧Kp none' w w':=by
 go_enter Tryz.func92,Tryz.ntmps92
 go_wp2_with fail
 refine(wW r b b h1 h2 (Nat.le_refl _) _).mono ?_;rintro e w2 ⟨rfl,hk⟩;have hs1:(w.alloc (.cells #[.int .u64 0,.int .u64 0,.int .u64 0] 210)).heap.size=w.heap.size+1:=by simp
 have HB4:=ae (((ag.new w [.int .u64 0,.int .u64 0,.int .u64 0] 210).alloc (.cells #[.int .u64 r,.int .u64 b,.int .u64 b] 210)).kp hk (fun x=>x));have nK:=(ag.new (w.alloc (.cells #[.int .u64 0,.int .u64 0,.int .u64 0] 210)) [.int .u64 r,.int .u64 b,.int .u64 b] 210).kp hk (fun x=>x);rw[hs1]at nK;have bV:=ae nK;have ak:=ae ((((Kp.refl none' w).alloc (.cells #[.int .u64 0,.int .u64 0,.int .u64 0] 210)).alloc (.cells #[.int .u64 r,.int .u64 b,.int .u64 b] 210)).trans hk);clear nK hk hs1;have y0:=bV.out.cell 0 rfl;have y1:=bV.out.cell 1 rfl;have y2:=bV.out.cell 2 rfl;have x0:=HB4.out.cell 0 rfl;have x1:=HB4.out.cell 1 rfl;have x2:=HB4.out.cell 2 rfl;have xf:=fun j=>HB4.out.fz j
 go_wp2_with fail
 exact iJ (by exact rfl) (((HB4.out.set 0 (.int .u64 r)).set 1 (.int .u64 b)).set 2 (.int .u64 b)) _ Tryz.underlying210 rfl Dk (by exact rfl) ⟨rfl,((ak.out.set (p:=⟨w.heap.size,0,none⟩) (.inr (Nat.le_refl _)) _).set (p:=⟨w.heap.size,1,none⟩) (.inr (Nat.le_refl _)) _).set (p:=⟨w.heap.size,2,none⟩) (.inr (Nat.le_refl _)) _⟩
def n_ (r b t n:Nat):Nat:=min (dS t (lX r n)) b
set_option maxRecDepth 100000 in
theorem acr (r b t n:Nat) (h1:0<r) (h2:0<b) (h3:t≤b) (hr:r<18446744073709551616) (hb:b<18446744073709551616) (hn:n<18446744073709551616) (w:World):Calls Tryz.prog 110 #[.agg #[.int .u64 r,.int .u64 b,.int .u64 t],.int .u64 n] w fun e w'=>e=.returned (.agg #[.int .u64 r,.int .u64 b,.int .u64 (n_ r b t n)])∧Kp none' w w':=by
 have HM:=ae (fun W=>Le t r n (by omega) hr hn W);obtain⟨m,hm⟩:∃m,dS t (lX r n)=m:=⟨_,rfl⟩
 have hT:n_ r b t n=min m b:=by unfold n_;rw[hm]
 rw[hm]at HM;obtain⟨q,hq⟩:∃q,min m b=q:=⟨_,rfl⟩
 rw[hT,hq];have HQ:Hid (min (m:Int) b=(q:Int)):=ae (by rw[←hq];omega);clear hm hT hq
 go_enter Tryz.func110,Tryz.ntmps110
 go_wp2_with fail
 refine(wW r b t h1 h2 h3 _).mono ?_;rintro e w2 ⟨rfl,hk⟩;have hs1:(w.alloc (.cells #[.int .u64 r,.int .u64 b,.int .u64 t] 210)).heap.size=w.heap.size+1:=by simp
 have HB4:=ae (((ag.new w [.int .u64 r,.int .u64 b,.int .u64 t] 210).alloc (.cells #[.int .u64 0,.int .u64 0,.int .u64 0] 210)).kp hk (fun x=>x));have nK:=(ag.new (w.alloc (.cells #[.int .u64 r,.int .u64 b,.int .u64 t] 210)) [.int .u64 0,.int .u64 0,.int .u64 0] 210).kp hk (fun x=>x);rw[hs1]at nK;have bV:=ae nK;have ak:=ae ((((Kp.refl none' w).alloc (.cells #[.int .u64 r,.int .u64 b,.int .u64 t] 210)).alloc (.cells #[.int .u64 0,.int .u64 0,.int .u64 0] 210)).trans hk);clear nK hk hs1
 go_wp2_with fail
 have y0:=HB4.out.cell 0 rfl;have y1:=HB4.out.cell 1 rfl;have y2:=HB4.out.cell 2 rfl;refine af [] [0,1,2,3,4,5,6,7,8,9] 10 (by kernel_rfl) (by kernel_rfl) (fun c a d u w h=>by cases d<;>exact h) ?_;simp only[pick,bn];show aA _ _ _ _ _ _
 repeat((first
  |refine ah (by exact rfl) (by as_aux_lemma=>intro W hK;have e0:=hK.cell y0 (fun x=>x);have e1:=hK.cell y1 (fun x=>x);have e2:=hK.cell y2 (fun x=>x);have e3:=HQ.out;go_simp;exact rfl) ?_
  |refine ai (by exact rfl) ?_
  |refine au (by exact rfl) (by as_aux_lemma=>intro W;go_simp;exact⟨rfl,rfl⟩) (by intro W hK;with_reducible first|exact(HM.out W).mono fun _ _ h=>⟨h.1,h.2▸Kp.refl _ _⟩) ?_);simp only[Act.put,aY])
 show ∀W,_→wpList _ _ _ _ _ _
 intro W3 hK3;have G9:=ae (HB4.out.kp hK3 (fun x=>x));have Lh:=ae (bV.out.kp hK3 (fun x=>x));have aF:=ae (ak.out.trans hK3);clear hK3 y0 y1 y2;have y0:=G9.out.cell 0 rfl;have y1:=G9.out.cell 1 rfl;have y2:=G9.out.cell 2 rfl;have yf:=fun j=>G9.out.fz j
 have x0:=Lh.out.cell 0 rfl;have x1:=Lh.out.cell 1 rfl;have x2:=Lh.out.cell 2 rfl;have xf:=fun j=>Lh.out.fz j
 go_wp2_with fail
 have hks:Kp none' w (W3.setCell ⟨w.heap.size,2,none⟩ (.int .u64 (q:Int))):=aF.out.set (p:=⟨w.heap.size,2,none⟩) (.inr (Nat.le_refl _)) _;have hx:=(((Lh.out.bY (a:=⟨w.heap.size,2,none⟩) (by show w.heap.size+1≠w.heap.size;omega) (.int .u64 (q:Int))).set 0 (.int .u64 r)).set 1 (.int .u64 b)).set 2 (.int .u64 (q:Int));exact Dz (by exact rfl) hx _ Tryz.underlying210 rfl Dk (by exact rfl) ⟨rfl,((hks.set (p:=⟨w.heap.size+1,0,none⟩) (.inr (by show _≤w.heap.size+1;omega)) _).set (p:=⟨w.heap.size+1,1,none⟩) (.inr (by show _≤w.heap.size+1;omega)) _).set (p:=⟨w.heap.size+1,2,none⟩) (.inr (by show _≤w.heap.size+1;omega)) _⟩
set_option maxRecDepth 100000 in
theorem VX (r b t n:Nat) (h1:0<r) (h2:0<b) (h3:t≤b) (hn:t<n) (w:World):Calls Tryz.prog 167 #[.agg #[.int .u64 r,.int .u64 b,.int .u64 t],.int .u64 n] w fun e w'=>e=.returned (.tuple #[.agg #[.int .u64 r,.int .u64 b,.int .u64 t],.bool false])∧Kp none' w w':=by
 have hn':(t:Int)<n:=by omega
 go_enter Tryz.func167,Tryz.ntmps167
 go_wp2_with fail
 refine(wW r b t h1 h2 h3 _).mono ?_;rintro e w2 ⟨rfl,hk⟩;have hs1:(w.alloc (.cells #[.int .u64 r,.int .u64 b,.int .u64 t] 210)).heap.size=w.heap.size+1:=by simp
 have HB4:=ae (((ag.new w [.int .u64 r,.int .u64 b,.int .u64 t] 210).alloc (.cells #[.int .u64 0,.int .u64 0,.int .u64 0] 210)).kp hk (fun x=>x));have nK:=(ag.new (w.alloc (.cells #[.int .u64 r,.int .u64 b,.int .u64 t] 210)) [.int .u64 0,.int .u64 0,.int .u64 0] 210).kp hk (fun x=>x);rw[hs1]at nK;have bV:=ae nK;have ak:=ae ((((Kp.refl none' w).alloc (.cells #[.int .u64 r,.int .u64 b,.int .u64 t] 210)).alloc (.cells #[.int .u64 0,.int .u64 0,.int .u64 0] 210)).trans hk);clear nK hk hs1;have y0:=HB4.out.cell 0 rfl;have y1:=HB4.out.cell 1 rfl;have y2:=HB4.out.cell 2 rfl;have yf:=fun j=>HB4.out.fz j
 have x0:=bV.out.cell 0 rfl;have x1:=bV.out.cell 1 rfl;have x2:=bV.out.cell 2 rfl;have xf:=fun j=>bV.out.fz j
 go_wp2_with fail
 exact iJ (by exact rfl) (((bV.out.set 0 (.int .u64 r)).set 1 (.int .u64 b)).set 2 (.int .u64 t)) _ Tryz.underlying210 rfl Dk (by exact rfl) ⟨rfl,((ak.out.set (p:=⟨w.heap.size+1,0,none⟩) (.inr (by show _≤w.heap.size+1;omega)) _).set (p:=⟨w.heap.size+1,1,none⟩) (.inr (by show _≤w.heap.size+1;omega)) _).set (p:=⟨w.heap.size+1,2,none⟩) (.inr (by show _≤w.heap.size+1;omega)) _⟩
set_option maxRecDepth 100000 in
theorem VY (r b t n:Nat) (h1:0<r) (h2:0<b) (h3:t≤b) (hn:n≤t) (ht:t<18446744073709551616) (w:World):Calls Tryz.prog 167 #[.agg #[.int .u64 r,.int .u64 b,.int .u64 t],.int .u64 n] w fun e w'=>e=.returned (.tuple #[.agg #[.int .u64 r,.int .u64 b,.int .u64 (t-n:Nat)],.bool true])∧Kp none' w w':=by
 have hn':¬(t:Int)<n:=by omega
 obtain⟨q,hq⟩:∃q,t-n=q:=⟨_,rfl⟩
 have hqi:(t:Int)-n=q:=by omega
 have hw:IntKind.u64.wrap (q:Int)=q:=by rw[IntKind.wrap_u64];omega
 rw[hq];clear hq
 go_enter Tryz.func167,Tryz.ntmps167
 go_wp2_with fail
 refine(wW r b t h1 h2 h3 _).mono ?_;rintro e w2 ⟨rfl,hk⟩;have hs1:(w.alloc (.cells #[.int .u64 r,.int .u64 b,.int .u64 t] 210)).heap.size=w.heap.size+1:=by simp
 have HB4:=ae (((ag.new w [.int .u64 r,.int .u64 b,.int .u64 t] 210).alloc (.cells #[.int .u64 0,.int .u64 0,.int .u64 0] 210)).kp hk (fun x=>x));have nK:=(ag.new (w.alloc (.cells #[.int .u64 r,.int .u64 b,.int .u64 t] 210)) [.int .u64 0,.int .u64 0,.int .u64 0] 210).kp hk (fun x=>x);rw[hs1]at nK;have bV:=ae nK;have ak:=ae ((((Kp.refl none' w).alloc (.cells #[.int .u64 r,.int .u64 b,.int .u64 t] 210)).alloc (.cells #[.int .u64 0,.int .u64 0,.int .u64 0] 210)).trans hk);clear nK hk hs1;have y0:=HB4.out.cell 0 rfl;have y1:=HB4.out.cell 1 rfl;have y2:=HB4.out.cell 2 rfl;have yf:=fun j=>HB4.out.fz j
 have x0:=bV.out.cell 0 rfl;have x1:=bV.out.cell 1 rfl;have x2:=bV.out.cell 2 rfl;have xf:=fun j=>bV.out.fz j
 go_wp2_with fail
 have hks:Kp none' w (w2.setCell ⟨w.heap.size,2,none⟩ (.int .u64 (q:Int))):=ak.out.set (p:=⟨w.heap.size,2,none⟩) (.inr (Nat.le_refl _)) _;have hx:=(((bV.out.bY (a:=⟨w.heap.size,2,none⟩) (by show w.heap.size+1≠w.heap.size;omega) (.int .u64 (q:Int))).set 0 (.int .u64 r)).set 1 (.int .u64 b)).set 2 (.int .u64 (q:Int));exact iJ (by exact rfl) hx _ Tryz.underlying210 rfl Dk (by exact rfl) ⟨rfl,((hks.set (p:=⟨w.heap.size+1,0,none⟩) (.inr (by show _≤w.heap.size+1;omega)) _).set (p:=⟨w.heap.size+1,1,none⟩) (.inr (by show _≤w.heap.size+1;omega)) _).set (p:=⟨w.heap.size+1,2,none⟩) (.inr (by show _≤w.heap.size+1;omega)) _⟩
theorem Zm (f:iW) (id y:Nat) (w:World) (h:w.cell? ⟨y,0,none⟩=some (.int .u32 id)) (hy:y<w.heap.size):
 Calls Tryz.prog 207 #[.agg #[.int .u32 f.id,.int .u64 f.cost,.int .u64 f.budget,.int .u64 f.size,.int .u64 f.cap],.pointer (some ⟨y,0,none⟩)] w fun e w'=>e=.returned (.bool (decide (f.id=id)))∧Kp none' w w':=by
 by_cases h1:f.id=id
 ·have h1':((f.id:Int)==(id:Int))=true:=by rw[beq_iff_eq];omega
  rw[decide_eq_true h1];clear h1
  go_enter Tryz.func207,Tryz.ntmps207
  go_wp2
  go_ret
  exact⟨rfl,(Kp.refl none' w).alloc _⟩
 ·have h1':((f.id:Int)==(id:Int))=false:=by rw[beq_eq_false_iff_ne];omega
  rw[decide_eq_false h1];clear h1
  go_enter Tryz.func207,Tryz.ntmps207
  go_wp2
  go_ret
  exact⟨rfl,(Kp.refl none' w).alloc _⟩
set_option maxRecDepth 100000 in
theorem Zn (l:List iW) (id y:Nat) (v:Value) (w:World) (hS:Sl w v l.length 5 (l.flatMap gU)) (h:w.cell? ⟨y,0,none⟩=some (.int .u32 id)):
 Calls Tryz.prog 206 #[v,.func (.func 207) #[] #[.pointer (some ⟨y,0,none⟩)]] w fun e w'=>e=.returned (.int .i64 (findF l id))∧Kp none' w w':=by
 obtain⟨ao,cap,rfl⟩:∃ao cap,v=.slice ao l.length cap:=by obtain⟨ao,cap,rfl,_⟩:=hS.is;exact⟨_,_,rfl⟩
 have hmax:=hS.max;have HS:=ae hS;have HC:=ae h;clear hS h
 go_enter Tryz.func206,Tryz.ntmps206
 go_wp2_with fail
 go_loopw [8] (fun i wr=>∃j:Nat,i=.int .i64 j∧j≤l.length∧Hid ((∀q (hq:q<j) (hq2:q<l.length),(l[q]'hq2).id≠id)∧Kp none' w wr)) (fun i _=>l.length-(intOf i).toNat)
 case atStart=>exact⟨0,rfl,Nat.zero_le _,fun q hq=>by omega,Kp.refl _ _⟩
 case round=>
  obtain⟨j,rfl,hj,HI⟩:=hrel;by_cases hlt:j<l.length
  ·obtain⟨g,off,cap',e1,hc⟩:=(HS.out.old HI.out.2).at mD (by decide) j hlt;injection e1 with e1 _ e3
   subst e1 e3;have hji:(j:Int)<l.length:=by omega
   have G_:∀i (hi:i<j),(l[i]'(by omega)).id≠id:=fun i hi=>HI.out.1 i hi (by omega)
   have hfa:=fun e=>TB l id j hlt G_ e
   have hst:l[j].id≠id→∀i (hi:i<j+1) (hi2:i<l.length),(l[i]'hi2).id≠id:=fun e i hi hi2=>by
    by_cases e2:i=j
    ·subst e2;exact e
    ·exact HI.out.1 i (by omega) hi2
   obtain⟨o,ho⟩:∃o,l[j]=o:=⟨_,rfl⟩
   rw[ho]at hc hfa hst;have c0:wr.cell? ⟨g,off+j*5,none⟩=some (.int .u32 o.id):=hc 0 _ rfl;have c1:=hc 1 _ rfl;have c2:=hc 2 _ rfl;have c3:=hc 3 _ rfl;have c4:=hc 4 _ rfl;have hyc:=HI.out.2.cell HC.out (fun x=>x);have HN:=ae (Zm o id y wr hyc (World.block_lt_of_cell? _ _ hyc));clear hc ho G_ hyc;by_cases hcv:o.id=id
   ·rw[decide_eq_true hcv]at HN;have HE:=ae (hfa hcv);clear hcv hfa hst
    go_wp2_with(go_at_call 207;refine HN.out.mono ?_;rintro e w1 ⟨rfl,hk1⟩;have ax:=ae (HI.out.2.trans hk1);clear hk1)
    go_ret
    exact⟨by rw[HE.out];rfl,ax.out⟩
   ·rw[decide_eq_false hcv]at HN;have HE:=ae (hst hcv);clear hcv hfa hst
    go_wp2_with(go_at_call 207;refine HN.out.mono ?_;rintro e w1 ⟨rfl,hk1⟩;have ax:=ae (HI.out.2.trans hk1);clear hk1)
    go_roundw
    case rel=>exact⟨j+1,by go_num,by omega,HE.out,ax.out⟩
    case measure=>simp[intOf];omega
  ·have hjn:j=l.length:=by omega
   have HE:=ae (Ld l id (fun i hi=>HI.out.1 i (by omega) hi));subst hjn
   go_wp2_with fail
   go_ret
   exact⟨by rw[HE.out];rfl,HI.out.2⟩
theorem Zo (l:List iW) (hl:l.length≤64) (h0:0<l.length) (v:Value) (w:World) (h:Sl w v l.length 5 (l.flatMap gU)):Calls Tryz.prog 153 #[v] w fun e w'=>∃v',e=.returned v'∧w'.ownsRow w.heap.size 197 5 v' l.length (l.flatMap gU)∧Kp none' w w':=by
 obtain⟨ao,cap,rfl⟩:∃ao cap,v=.slice ao l.length cap:=by obtain⟨ao,cap,rfl,_⟩:=h.is;exact⟨_,_,rfl⟩
 have HS:=ae h;have HOF:=ae (QC l);cases ao with
 |none=>
  exfalso
  obtain⟨ao,cap',e,hc⟩:=h.is;have hlen:=h.len;obtain⟨b,off,e2,_⟩:=hc 0 _ (List.getElem?_eq_getElem (show 0<(l.flatMap gU).length by omega));cases e
  cases e2
 |some ad=>
  clear h;have hnil:∀W:World,(binOp BinOp.eql 23 (.slice (some ad) l.length cap) (.slice none 0 0)).run Tryz.prog W=.ok (.bool false) W:=fun _=>by kernel_rfl
  have hs2:=HS.out.old ((Kp.refl none' w).alloc (.cells #[] 197));have HS2:=ae hs2;clear hs2
  go_enter Tryz.func153,Tryz.ntmps153
  go_wp2_with(first
   |(refine GY aba (.tmp 5) (.tmp 6) rfl rfl w.heap.size (GZ w 197 5) rfl rfl HS2.out HOF.out (by omega) (by omega) (by simp) ?_;intro v8 w8 iq dO
     have hk8:=((Kp.refl none' w).alloc (.cells #[] 197)).grown dO (fun b hb=>.inr (by cases hb;exact Nat.le_refl _));obtain⟨ao8,nM,rfl⟩:=dP iq;have mG:=ae hk8;have um:=ae iq
     clear iq dO hk8))
  go_ret
  exact⟨_,rfl,by have:=um.out;simpa using this,mG.out⟩
structure Rk where
 kind:Int
 fl:List iW
 tags:List Nat
 jA:Nat
def xU (kind:Int) (f:iW):Nat:=if kind=3 then f.size else 0
structure Rk.Ok (r:Rk):Prop where
 kind:1≤r.kind∧r.kind≤3
 len:r.tags.length=r.fl.length
 few:1≤r.fl.length∧r.fl.length≤64
 fok:∀f∈r.fl,f.ok
 tok:∀t∈r.tags,t<18446744073709551616
 VZ:r.jA<18446744073709551616
def lG (n:Nat):Value:=.int .u64 n
def lH (w:World) (F:Nat→Prop) (rb:Nat) (r:Rk):Prop:=∃v1 v2,F=(fun b=>b=rb∨v1.ownBlock=some b∨v2.ownBlock=some b)∧ag w rb [.int .i64 r.kind,v1,v2,.int .u64 r.jA] 312∧
 w.ownsRow 0 197 5 v1 r.fl.length (r.fl.flatMap gU)∧w.ownsRow 0 22 1 v2 r.tags.length (r.tags.map lG)∧r.Ok
theorem lH.kp {T:Nat→Prop} {w w':World} {F:Nat→Prop} {rb:Nat} {r:Rk} (h:lH w F rb r) (k:Kp T w w') (hT:∀b,F b→¬T b):lH w' F rb r:=by
 obtain⟨v1,v2,rfl,hb,h1,h2,ok⟩:=h;exact⟨v1,v2,rfl,hb.kp k (hT _ (.inl rfl)),aK h1 k (fun b hb=>hT b (.inr (.inl hb))),aK h2 k (fun b hb=>hT b (.inr (.inr hb))),ok⟩
theorem lH.old {w w':World} {F:Nat→Prop} {rb:Nat} {r:Rk} (h:lH w F rb r) (k:Kp none' w w'):lH w' F rb r:=h.kp k (fun _ _ x=>x)
theorem lH.lt {w:World} {F:Nat→Prop} {rb:Nat} {r:Rk} (h:lH w F rb r) {b:Nat} (hb:F b):b<w.heap.size:=by
 obtain⟨v1,v2,rfl,hb',h1,h2,ok⟩:=h;rcases hb with rfl|hb|hb
 ·exact hb'.lt
 ·exact(aG h1 hb).2
 ·exact(aG h2 hb).2
theorem lH.ok {w:World} {F:Nat→Prop} {rb:Nat} {r:Rk} (h:lH w F rb r):r.Ok:=by
 obtain⟨_,_,_,_,_,_,ok⟩:=h;exact ok
structure Zp (w wr:World) (rb:Nat) (kind:Int) (l:List iW) (fv v2:Value) (k:Nat):Prop where
 blk:ag wr rb [.int .i64 kind,fv,v2,.int .u64 0] 312
 Zq:wr.ownsRow w.heap.size 197 5 fv l.length (l.flatMap gU)
 own:wr.ownsRow w.heap.size 22 1 v2 k (((l.take k).map (xU kind)).map lG)
 kp:Kp none' w wr
set_option maxRecDepth 100000 in
theorem adK (kind:Int) (hk:1≤kind∧kind≤3) (l:List iW) (v:Value) (w:World) (h:Sl w v l.length 5 (l.flatMap gU)) (hfe:iF l=0) (Lj:∀f∈l,f.ok):Calls Tryz.prog 91 #[.int .i64 kind,v] w fun e w'=>∃F rb,e=.returned (.tuple #[.pointer (some ⟨rb,0,none⟩),.int .i64 0])∧lH w' F rb ⟨kind,l,l.map (xU kind),0⟩∧(∀b,F b→w.heap.size≤b)∧Kp none' w w':=by
 obtain⟨ao,cap,rfl⟩:∃ao cap,v=.slice ao l.length cap:=by obtain⟨ao,cap,rfl,_⟩:=h.is;exact⟨_,_,rfl⟩
 have HS:=ae h;have hlen:1≤l.length∧l.length≤64∧(iP l).Nodup:=by
  unfold iF at hfe;split at hfe
  ·omega
  ·split at hfe
   ·rename_i h1 h2;exact⟨by omega,by omega,h2⟩
   ·omega
 have HFO:=ae Lj;have hk1:¬kind<1:=by omega
 have hk3:¬3<kind:=by omega
 have e1:((l.length:Int)==0)=false:=by rw[beq_eq_false_iff_ne];omega
 have abb:¬(64:Int)<l.length:=by omega
 have HT:=ae (QB l hlen.2.1 (.slice ao l.length cap) w h);have pO:=ae (fun W hs=>Zo l hlen.2.1 (by omega) (.slice ao l.length cap) W hs);have hd:(!decide (iP l).Nodup)=false:=by simp[hlen.2.2]
 rw[hd]at HT;have VG:l.length≤64:=hlen.2.1;have HL1:=ae hlen.1;clear h hfe Lj hlen hd;have HKK:=ae hk;clear hk
 go_enter Tryz.func91,Tryz.ntmps91
 go_wp2_with fail
 refine(HT.out).mono ?_;rintro e w1 ⟨rfl,k1⟩;have ax:=ae k1;clear k1 HT
 go_wp2_with fail
 refine(pO.out _ (HS.out.old ax.out)).mono ?_;rintro e w2 ⟨fv,rfl,ho2,k2⟩;obtain⟨fo,fc,hfv⟩:=dP ho2;subst hfv;have ak:=ae (ax.out.trans k2);have gq:=ae (own_base ho2 ax.out.size);clear k2 pO ho2
 go_wp2_with fail
 have hz2:=ak.out.size;have D7:ag (w2.alloc (.cells #[.int .i64 kind,.slice fo l.length fc,.slice none 0 0,.int .u64 0] 312)) w2.heap.size [.int .i64 kind,.slice fo l.length fc,.slice none 0 0,.int .u64 0] 312:=ag.new w2 [.int .i64 kind,.slice fo l.length fc,.slice none 0 0,.int .u64 0] 312;have KI:Kp none' w (w2.alloc (.cells #[.int .i64 kind,.slice fo l.length fc,.slice none 0 0,.int .u64 0] 312)):=ak.out.alloc (.cells #[.int .i64 kind,.slice fo l.length fc,.slice none 0 0,.int .u64 0] 312);have ho3:=aK gq.out ((Kp.refl none' w2).alloc (.cells #[.int .i64 kind,.slice fo l.length fc,.slice none 0 0,.int .u64 0] 312)) (fun _ _ x=>x);generalize w2.alloc (.cells #[.int .i64 kind,.slice fo l.length fc,.slice none 0 0,.int .u64 0] 312)=w3 at*;obtain⟨rb,hrb⟩:∃rb,w2.heap.size=rb:=⟨_,rfl⟩
 rw[hrb]at D7 hz2 ⊢;have HI0:Hid (Zp w w3 rb kind l (.slice fo l.length fc) (.slice none 0 0) 0):=⟨D7,ho3,⟨rfl,.inl ⟨rfl,rfl⟩⟩,KI⟩;clear D7 KI ho3 hrb ak gq
 go_loopw [36] (fun i0 wr=>∃(k:Nat) (v2:Value),i0=.int .i64 k∧k≤l.length∧Hid (Zp w wr rb kind l (.slice fo l.length fc) v2 k)) (fun i0 _=>l.length-(intOf i0).toNat)
 case atStart=>exact⟨0,_,rfl,by omega,HI0.out⟩
 case round=>
  clear HI0;obtain⟨k,v2,rfl,hk,hr⟩:=hrel;by_cases hlt:k<l.length
  ·have hki:(k:Int)<l.length:=by omega
   obtain⟨gx,ox,cx,e1,hcx⟩:=(HS.out.old hr.out.kp).at mD (by decide) k hlt;injection e1 with e1 _ e3
   subst e1 e3;have oG:Hid (((l.take (k+1)).map (xU kind)).map lG=((l.take k).map (xU kind)).map lG++[.int .u64 (xU kind l[k])]):=by
    show _=_;rw[List.take_succ_eq_append_getElem hlt,List.map_append,List.map_append];rfl
   obtain⟨f,hf⟩:∃f,l[k]=f:=⟨_,rfl⟩
   rw[hf]at hcx oG;have d0:=hcx 0 _ rfl;have d1:=hcx 1 _ rfl;have d2:=hcx 2 _ rfl;have d3:=hcx 3 _ rfl;have d4:=hcx 4 _ rfl;simp only[Nat.add_zero]at d0;have hzr:=hr.out.kp.size;obtain⟨tg,OD⟩:∃tg,xU kind f=tg:=⟨_,rfl⟩
   rw[OD]at oG;have hba:=hr.out.blk.alloc (.cells #[.int .u32 f.id,.int .u64 f.cost,.int .u64 f.budget,.int .u64 f.size,.int .u64 f.cap] 197);have c2:=hba.cell 2 rfl;have KJ:=hba.alloc (.cells #[.int .u64 tg] 22);have VH:=ae KJ;have hks:=((Kp.refl none' wr).alloc (.cells #[.int .u32 f.id,.int .u64 f.cost,.int .u64 f.budget,.int .u64 f.size,.int .u64 f.cap] 197)).alloc (.cells #[.int .u64 tg] 22);have KL:=ae (aK (S:=none') hr.out.own hks (fun _ _ x=>x));have zO:=ae (aK (S:=none') hr.out.Zq hks (fun _ _ x=>x));have uo:=ae (hr.out.kp.trans hks);have nY:=ae (az hr.out.own hr.out.blk (by decide));have HNF:=ae (vC hr.out.Zq hr.out.own (by decide));clear hcx hf hba KJ hks;by_cases h3:kind=3
   ·have QG:f.size=tg:=by rw[←OD];unfold xU;rw[if_pos h3]
    have h3':(kind==3)=true:=by rw[beq_iff_eq];exact h3
    rw[←QG]at oG VH KL zO uo;clear OD QG h3
    go_wp2_with(first
     |(refine pg tU64 (.tmp 48) (.tmp 50) rfl rfl w.heap.size (v:=v2) KL.out [.int .u64 f.size] rfl rfl rfl (fr:=(0,0)) (yD _ _ (by simp)) rfl (by omega) (by omega) (by simp;omega) ?_;intro g8 nM w8 iq dO
       have hk8:=uo.out.grown dO (fun b hb=>.inr (aG KL.out hb).1);have hb8:=VH.out.grown dO (fun e=>nY.out e.symm);have V3:=BO zO.out dO (fun b hb e=>HNF.out b hb e);have x2:=hb8.cell 2 rfl;have z2:=hb8.fz 2;have mG:=ae hk8;have lQ:=ae hb8;have um:=ae iq;have OE:=ae V3
       clear iq dO hk8 hb8 V3))
    have pU:=dX um.out (a:=⟨rb,2,none⟩) (fun b hb e=>az um.out lQ.out (by decide) (by rw[hb];exact congrArg some e)) (.slice (some ⟨g8,0,none⟩) (k+1) nM);have Ej:=dX OE.out (a:=⟨rb,2,none⟩) (fun b hb e=>az OE.out lQ.out (by decide) (by rw[hb];exact congrArg some e)) (.slice (some ⟨g8,0,none⟩) (k+1) nM);have KN:Zp w (w8.setCell ⟨rb,2,none⟩ (.slice (some ⟨g8,0,none⟩) (k+1) nM)) rb kind l (.slice fo l.length fc) (.slice (some ⟨g8,0,none⟩) (k+1) nM) (k+1):=
     ⟨lQ.out.set 2 _,Ej,by rw[oG.out];exact pU,mG.out.set (p:=⟨rb,2,none⟩) (.inr hz2) _⟩
    have CO:=ae KN;clear pU KN Ej
    go_roundw
    case rel=>exact⟨k+1,_,by go_num,by omega,CO.out⟩
    case measure=>simp[intOf];omega
   ·have QG:0=tg:=by rw[←OD];unfold xU;rw[if_neg h3]
    have h3':(kind==3)=false:=by rw[beq_eq_false_iff_ne];exact h3
    subst QG;clear OD h3
    go_wp2_with(first
     |(refine pg tU64 (.tmp 48) (.tmp 50) rfl rfl w.heap.size (v:=v2) KL.out [.int .u64 0] rfl rfl rfl (fr:=(0,0)) (yD _ _ (by simp)) rfl (by omega) (by omega) (by simp;omega) ?_;intro g8 nM w8 iq dO
       have hk8:=uo.out.grown dO (fun b hb=>.inr (aG KL.out hb).1);have hb8:=VH.out.grown dO (fun e=>nY.out e.symm);have V3:=BO zO.out dO (fun b hb e=>HNF.out b hb e);have x2:=hb8.cell 2 rfl;have z2:=hb8.fz 2;have mG:=ae hk8;have lQ:=ae hb8;have um:=ae iq;have OE:=ae V3
       clear iq dO hk8 hb8 V3))
    have pU:=dX um.out (a:=⟨rb,2,none⟩) (fun b hb e=>az um.out lQ.out (by decide) (by rw[hb];exact congrArg some e)) (.slice (some ⟨g8,0,none⟩) (k+1) nM);have Ej:=dX OE.out (a:=⟨rb,2,none⟩) (fun b hb e=>az OE.out lQ.out (by decide) (by rw[hb];exact congrArg some e)) (.slice (some ⟨g8,0,none⟩) (k+1) nM);have KN:Zp w (w8.setCell ⟨rb,2,none⟩ (.slice (some ⟨g8,0,none⟩) (k+1) nM)) rb kind l (.slice fo l.length fc) (.slice (some ⟨g8,0,none⟩) (k+1) nM) (k+1):=
     ⟨lQ.out.set 2 _,Ej,by rw[oG.out];exact pU,mG.out.set (p:=⟨rb,2,none⟩) (.inr hz2) _⟩
    have CO:=ae KN;clear pU KN Ej
    go_roundw
    case rel=>exact⟨k+1,_,by go_num,by omega,CO.out⟩
    case measure=>simp[intOf];omega
  ·have hke:k=l.length:=by omega
   subst hke
   go_wp2
   go_ret2
   have hfin:=hr.out;refine⟨_,rb,rfl,⟨.slice fo l.length fc,v2,rfl,hfin.blk,own_base hfin.Zq (Nat.zero_le _),?_,⟨HKK.out,by simp,⟨HL1.out,VG⟩,HFO.out,fun t ht=> ?_,by show 0<_;omega⟩⟩,fun b hb=> ?_,hfin.kp⟩
   ·have:=own_base hfin.own (Nat.zero_le _);rw[List.take_length]at this;simpa using this
   ·obtain⟨f,hf,rfl⟩:=List.mem_map.1 ht;have:=HFO.out f hf;unfold xU;split
    ·exact this.size
    ·omega
   ·rcases hb with rfl|hb|hb
    ·exact hz2
    ·exact(aG hfin.Zq hb).1
    ·exact(aG hfin.own hb).1
end Go.Proofs.YtjiehhlghjnfhaaGreatDoor
