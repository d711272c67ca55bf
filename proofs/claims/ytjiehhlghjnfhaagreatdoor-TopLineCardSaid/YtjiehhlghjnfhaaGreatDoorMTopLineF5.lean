/- The trie of layer 32: a node laid below another one. -/
import Derived.Test.YtjiehhlghjnfhaaGreatDoorMTopLineF4
import Derived.Laws.Bits64b
set_option linter.unusedVariables false
set_option linter.unusedSimpArgs false
set_option maxHeartbeats 8000000
namespace Go.Proofs.YtjiehhlghjnfhaaGreatDoor
open Go.RowKit
abbrev rF:TypeId:=375
def qQ (T:Tr) (np:Px):Prop:=match T with| .nil=>False| .node _ kp _ _ _ _=>dL kp np=true
def Vx (T:Tr):Prop:=∀(w:World) (nb:Nat) (np:Px) (nx:Nat),qQ T np→kJ w T→T.WF→T.aU.Nodup→ag w nb (fM np true nx .nil .nil) rF→nb∉T.aU→nH np→np∉T.dE→
 Calls Tryz.prog 198 #[T.ptr,.pointer (some ⟨nb,0,none⟩)] w fun e w'=>e=.returned (.tuple #[])∧∃fb,w.heap.size≤fb∧kJ w' (T.lay nb np nx fb)∧Kp (fun b=>b∈T.aU∨b=nb) w w'
theorem Kz {k2:Nat} {p2:Px} {u2:Bool} {x2:Nat} {l2 r2:Tr} {np:Px} (h:dL p2 np=true) (nb nx fb:Nat):((Tr.node k2 p2 u2 x2 l2 r2).lay nb np nx fb).ptr=.pointer (some ⟨k2,0,none⟩):=by
 unfold Tr.lay;rw[if_pos h];split<;>rfl
theorem Qy {W:World} {k2:Nat} {p2:Px} {u2:Bool} {x2:Nat} {l2 r2:Tr} {np:Px} {nb nx a:Nat} (fb:Nat) (hc:dL p2 np=false) (hcn:bQ p2 np=np) (ha:bH np p2.1=a) (hB:ag W nb ((fM np true nx .nil .nil).set (4+a) (.pointer (some ⟨k2,0,none⟩))) rF) (hT:kJ W (.node k2 p2 u2 x2 l2 r2)):
 kJ W ((Tr.node k2 p2 u2 x2 l2 r2).lay nb np nx fb)∧((Tr.node k2 p2 u2 x2 l2 r2).lay nb np nx fb).ptr=.pointer (some ⟨nb,0,none⟩):=by
 unfold Tr.lay;rw[if_neg (by rw[hc];decide),if_pos hcn,ha];have h2:=dD np p2.1;rw[ha]at h2;rcases h2 with rfl|rfl
 ·exact⟨⟨hB,hT,trivial⟩,rfl⟩
 ·exact⟨⟨hB,trivial,hT⟩,rfl⟩
theorem GV {W:World} {k2:Nat} {p2:Px} {u2:Bool} {x2:Nat} {l2 r2:Tr} {np c:Px} {nb nx fb a1 a2:Nat} (hok:nH p2) (hon:nH np) (hc:dL p2 np=false) (hce:bQ p2 np=c) (hcn:c≠np) (h1:bH c np.1=a1) (h2:bH c p2.1=a2)
 (hB:ag W fb (((fM c false 0 .nil .nil).set (4+a1) (.pointer (some ⟨nb,0,none⟩))).set (4+a2) (.pointer (some ⟨k2,0,none⟩))) rF) (hN:ag W nb (fM np true nx .nil .nil) rF) (hT:kJ W (.node k2 p2 u2 x2 l2 r2)):
 kJ W ((Tr.node k2 p2 u2 x2 l2 r2).lay nb np nx fb)∧((Tr.node k2 p2 u2 x2 l2 r2).lay nb np nx fb).ptr=.pointer (some ⟨fb,0,none⟩):=by
 subst hce;have hs:=GK hok hon hc (J_ hok hon hcn);rw[h1,h2]at hs;have t1:=dD (bQ p2 np) np.1;have t2:=dD (bQ p2 np) p2.1;rw[h1]at t1;rw[h2]at t2;unfold Tr.lay;rw[if_neg (by rw[hc];decide),if_neg hcn,h1];have hNt:kJ W (.node nb np true nx .nil .nil):=⟨hN,trivial,trivial⟩;rcases t1 with rfl|rfl
 ·rcases t2 with rfl|rfl
  ·exact absurd rfl hs
  ·exact⟨⟨hB,hNt,hT⟩,rfl⟩
 ·rcases t2 with rfl|rfl
  ·exact⟨⟨hB,hT,hNt⟩,rfl⟩
  ·exact absurd rfl hs
theorem SH {cs:List Value} {i:Nat} {v:Value} (h:cs[i]? =some v):cs.set i v=cs:=by
 obtain⟨hi,rfl⟩:=List.getElem?_eq_some_iff.1 h;exact List.set_getElem_self hi
theorem mr {w:World} {b:Nat} {u v x:Value} {a:Addr} (h:w.cell? a=some x) (hne:a.block≠b):((w.setCell ⟨b,0,none⟩ u).setCell ⟨b,1,none⟩ v).cell? a=some x:=
 (((Kp.refl (fun i=>i=b) w).set (p:=⟨b,0,none⟩) (.inl rfl) u).set (p:=⟨b,1,none⟩) (.inl rfl) v).cell h hne
set_option maxRecDepth 100000 in
theorem Vy (w:World) (kb nb nx s:Nat) (kp np:Px) (cs:List Value) (t:Tr) (hB:ag w kb cs rF) (hc1:cs[1]? =some (.int .i64 kp.2)) (hs:bH kp np.1=s) (hk:cs[4+s]? =some t.ptr) (h31:kp.2≤31)
 (hM:kJ w t) (hw:t.WF) (hnd:t.aU.Nodup) (hkb:kb∉t.aU) (hN:ag w nb (fM np true nx .nil .nil) rF) (hnb:nb∉t.aU) (hne:nb≠kb) (hok:nH np) (xC:np∉t.dE) (ih:Vx t):
 Calls Tryz.prog 198 #[.pointer (some ⟨kb,0,none⟩),.pointer (some ⟨nb,0,none⟩)] w fun e w'=>e=.returned (.tuple #[])∧∃fb,w.heap.size≤fb∧kJ w' (t.lay nb np nx fb)∧ag w' kb (cs.set (4+s) (t.lay nb np nx fb).ptr) rF∧Kp (fun b=>b∈t.aU∨b=nb∨b=kb) w w':=by
 have hs2:s<2:=by have:=dD kp np.1;omega
 have GS:=ae (fun W (k:Kp none' w W)=>aT (rD W kb kp ((hB.kp k (fun x=>x)).cell 1 hc1) h31 np.1 hok.2));rw[hs]at GS;have b4:=hB.cell (4+s) hk;have m0:=hN.cell 0 rfl;have HB:=ae hB;have HM:=ae hM;have HW:=ae hw;have Vz:=ae hnd;have HKB:=ae hkb;have HN:=ae hN;have yx:=ae hnb;have nY:=ae hne;have HNP:=ae xC;have HIH:=ae ih;have HCS:=ae hk;clear hB hc1 hM hw hnd hkb hN hnb hne xC ih hk hs
 go_enter Tryz.func198,Tryz.ntmps198
 go_wp2_with fail
 refine af [] [0,1,2,3,4,5,6,7,8,9] 10 (by kernel_rfl) (by kernel_rfl) (fun c a d u w h=>by cases d<;>exact h) ?_;simp only[pick,bn];show aA _ _ _ _ _ _
 repeat((first
  |refine ah (by exact rfl) (by as_aux_lemma=>intro W hK;have e0:=hK.cell m0 (fun x=>x);go_simp;exact rfl) ?_
  |refine ai (by exact rfl) ?_
  |refine au (by exact rfl) (by as_aux_lemma=>intro W;go_simp;exact⟨rfl,rfl⟩) (by intro W hK;with_reducible first|exact GS.out W hK) ?_);simp only[Act.put,aY])
 show ∀W,_→wpList _ _ _ _ _ _
 intro W1 hK1;have b4:=hK1.cell b4 (fun x=>x);have HB1:=ae (HB.out.kp hK1 (fun x=>x));have kK:=ae (HN.out.kp hK1 (fun x=>x));have bT:=ae (HM.out.old hK1);have ax:=ae hK1;clear hK1 m0 GS HB HN HM;cases t with
 |nil=>
  simp only[Tr.ptr]at b4;have f4:=HB1.out.fz (4+s)
  go_wp2_with fail
  refine bodyPost_ret (results_none rfl _ _ _) rfl ?_;have hks:Kp (fun b=>b=kb) W1 (W1.setCell ⟨kb,4+s,none⟩ (.pointer (some ⟨nb,0,none⟩))):=(Kp.refl (fun b=>b=kb) W1).set (p:=⟨kb,4+s,none⟩) (.inl rfl) _;exact⟨rfl,w.heap.size,Nat.le_refl _,⟨kK.out.kp hks nY.out,trivial,trivial⟩,HB1.out.set (4+s) _,(ax.out.mono (fun _ _ x=>x.elim)).trans (hks.mono (fun _ _ x=>.inr (.inr x)))⟩
 |node k2 p2 u2 x2 l2 r2=>
  obtain⟨hk2,hml,hmr⟩:=bT.out;have ok2:=HW.out.1;have d0:=hk2.cell 0 rfl;have d1:=hk2.cell 1 rfl;have n0:=kK.out.cell 0 rfl;have n1:=kK.out.cell 1 rfl;have hpe:p2≠np:=fun e=>HNP.out (by rw[e];simp[Tr.dE])
  have IP:decide (p2=np)=false:=decide_eq_false hpe;have EQ:=adD p2 np;simp only[IP]at EQ;simp only[Tr.ptr]at b4;have h32:=(di.1 ok2.1).1;have afi:=(di.1 hok.1).1;have HC:=ae (fun W=>zF p2.1 np.1 p2.2 np.2 W ok2.2 hok.2 (by omega) (by omega));have Y5:=ae hpe;clear hk2 hml hmr IP hpe
  go_wp2_with fail
  go_region
  go_wp2_with fail
  cases hc:dL p2 np with
  |true=>
   rw[show qO p2.1 p2.2 np.1 np.2=true from hc]at HC;have yw:=ae hc;refine af [] [0,1,2,3,4,5,6,7,8] 9 (by kernel_rfl) (by kernel_rfl) (fun c a d u w h=>by cases d<;>exact h) ?_;simp only[pick,bn];show aA _ _ _ _ _ _
   repeat((first
        |refine ah (by exact rfl) (by as_aux_lemma=>intro W hK;have e0:=hK.cell d0 (fun x=>x);have e1:=hK.cell d1 (fun x=>x);have e2:=hK.cell n0 (fun x=>x);have e3:=hK.cell n1 (fun x=>x);go_simp;exact rfl) ?_
        |refine ai (by exact rfl) ?_
        |refine au (by exact rfl) (by as_aux_lemma=>intro W;go_simp;exact⟨rfl,rfl⟩) (by intro W hK;with_reducible first|exact HC.out W) ?_);simp only[Act.put,aY])
   show ∀W,_→wpList _ _ _ _ _ _
   intro W2 hK2;replace hK2:=(Kp.refl none' W1).drew.trans hK2;have ak:=ae hK2;have HI:=ae (HIH.out W2 nb np nx hc (bT.out.old hK2) HW.out Vz.out (kK.out.kp hK2 (fun x=>x)) yx.out hok HNP.out);clear hK2 d0 d1 n0 n1 hc EQ b4
   go_wp2_with(go_at_call 198;refine HI.out.mono ?_;rintro e w3 ⟨rfl,fb,hfb,CG,hk3⟩
               have aF:=ae hk3;have fV:=ae CG;have FY:=ae hfb;clear hk3 CG hfb)
   refine bodyPost_ret (results_none rfl _ _ _) rfl ?_;refine⟨rfl,fb,Nat.le_trans ax.out.size (Nat.le_trans ak.out.size FY.out),fV.out,?_,?_⟩
   ·rw[Kz yw.out,SH (v:=.pointer (some ⟨k2,0,none⟩)) HCS.out];exact(HB1.out.kp ak.out (fun x=>x)).kp aF.out (fun h=>h.elim HKB.out (fun e=>nY.out e.symm))
   ·exact((ax.out.trans ak.out).mono (fun _ _ x=>x.elim)).trans (aF.out.mono (fun _ _ x=>x.imp_right .inl))
  |false=>
   rw[show qO p2.1 p2.2 np.1 np.2=false from hc]at HC;have yw:=ae hc;refine af [] [0,1,2,3,4,5,6,7,8] 9 (by kernel_rfl) (by kernel_rfl) (fun c a d u w h=>by cases d<;>exact h) ?_;simp only[pick,bn];show aA _ _ _ _ _ _
   repeat((first
        |refine ah (by exact rfl) (by as_aux_lemma=>intro W hK;have e0:=hK.cell d0 (fun x=>x);have e1:=hK.cell d1 (fun x=>x);have e2:=hK.cell n0 (fun x=>x);have e3:=hK.cell n1 (fun x=>x);go_simp;exact rfl) ?_
        |refine ai (by exact rfl) ?_
        |refine au (by exact rfl) (by as_aux_lemma=>intro W;go_simp;exact⟨rfl,rfl⟩) (by intro W hK;with_reducible first|exact HC.out W) ?_);simp only[Act.put,aY])
   show ∀W,_→wpList _ _ _ _ _ _
   intro W2 hK2;replace hK2:=(Kp.refl none' W1).drew.trans hK2;have ak:=ae hK2;have d0:=hK2.cell d0 (fun x=>x);have d1:=hK2.cell d1 (fun x=>x);have n0:=hK2.cell n0 (fun x=>x);have n1:=hK2.cell n1 (fun x=>x);have b4:=hK2.cell b4 (fun x=>x);have HCM:=ae (fun W=>Vq W p2 np ok2 hok);clear hK2 hc EQ HC;have lk:k2<W2.heap.size:=Nat.lt_of_lt_of_le (bT.out.lt k2 (by simp[Tr.aU])) ak.out.size;have ln:nb<W2.heap.size:=Nat.lt_of_lt_of_le kK.out.lt ak.out.size;have ek:k2≠W2.heap.size:=by omega
   have en:nb≠W2.heap.size:=by omega
   go_wp2_with fail
   go_region_held3 (fun w'=>w'.cell? ⟨k2,0,none⟩=some (.int .u32 p2.1)∧w'.cell? ⟨k2,1,none⟩=some (.int .i64 p2.2)∧w'.cell? ⟨nb,0,none⟩=some (.int .u32 np.1)∧w'.cell? ⟨nb,1,none⟩=some (.int .i64 np.2)) (first|exact⟨mr e0 ek,mr e1 ek,mr e2 en,mr e3 en⟩|go_keep)
        ((go_at_call 219;refine(HCM.out _).mono ?_;rintro e w3 ⟨rfl,hk3⟩
          have hk4:Kp none' W2 w3:=by first|exact(Kp.refl none' W2).drew.trans hk3|exact((Kp.refl none' W2).drew.alloc _).trans hk3
          have e0:=hk4.cell d0 (fun x=>x);have e1:=hk4.cell d1 (fun x=>x);have e2:=hk4.cell n0 (fun x=>x);have e3:=hk4.cell n1 (fun x=>x);have ls:=hk4.size;have ek3:k2≠w3.heap.size:=by omega
          have en3:nb≠w3.heap.size:=by omega
          clear ls;first
           |(have hb3:=(ag.new W2.drew [.int .u32 0,.int .i64 0] 151).kp hk3 (fun x=>x)
             have z0:w3.cell? ⟨W2.heap.size,0,none⟩=some (.int .u32 0):=hb3.cell 0 rfl;have z1:w3.cell? ⟨W2.heap.size,1,none⟩=some (.int .i64 0):=hb3.cell 1 rfl;have y0:w3.frozen? ⟨W2.heap.size,0,none⟩=false:=hb3.fz 0;have y1:w3.frozen? ⟨W2.heap.size,1,none⟩=false:=hb3.fz 1
             have HB3:=ae hb3;clear hb3)
           |skip
          have aF:=ae hk3;have aH:=ae hk4;clear hk3 hk4))
   ·have hK3:Kp none' W2 (w3.alloc (.cells #[.int .u32 (bQ p2 np).1,.int .i64 (bQ p2 np).2] 151)):=aH.out.alloc _;have hBc:ag (w3.alloc (.cells #[.int .u32 (bQ p2 np).1,.int .i64 (bQ p2 np).2] 151)) w3.heap.size [.int .u32 (bQ p2 np).1,.int .i64 (bQ p2 np).2] 151:=ag.new w3 [.int .u32 (bQ p2 np).1,.int .i64 (bQ p2 np).2] _;obtain⟨W3,hW3⟩:∃W,w3.alloc (.cells #[.int .u32 (bQ p2 np).1,.int .i64 (bQ p2 np).2] 151)=W:=⟨_,rfl⟩
    rw[hW3]at hK3 hBc ⊢;obtain⟨g,hg⟩:∃g,w3.heap.size=g:=⟨_,rfl⟩
    rw[hg]at hBc ⊢;clear hW3 hg;have aF:=ae hK3;have HBc:=ae hBc;have k13:=ak.out.trans hK3;have fV:=ae (bT.out.old k13);have nJ:=ae (kK.out.kp k13 (fun x=>x));have HB3:=ae (HB1.out.kp k13 (fun x=>x));have DX:=ae (ax.out.trans k13);have hl:bC p2 np<p2.2:=Di ok2 hok yw.out;have hlc:(bQ p2 np).2<p2.2:=hl;have hok':=ui (q:=np) ok2.1;have d0:=hK3.cell d0 (fun x=>x);have b4:=hK3.cell b4 (fun x=>x);have n0:=hK3.cell n0 (fun x=>x);have n1:=hK3.cell n1 (fun x=>x);have c0:=hBc.cell 0 rfl;have c1:=hBc.cell 1 rfl;obtain⟨c,hcc⟩:∃c,bQ p2 np=c:=⟨_,rfl⟩
    rw[hcc]at c0 c1 hlc hok';have IQ:=ae hcc;have HL:=ae hl;clear hK3 hBc k13 hcc hl d1 lk ln ek en HCM;by_cases hcn:c=np
    ·have hd:decide (c=np)=true:=decide_eq_true hcn;have NQ:=Ky c np;simp only[hd]at NQ;have CJ:=ae hcn;have VA:np.2≤31:=by rw[←hcn];omega
     obtain⟨a,ha⟩:∃a,bH np p2.1=a:=⟨_,rfl⟩
     have ha2:a<2:=by have:=dD np p2.1;omega
     have VB:=ae (fun W (k:Kp none' W3 W)=>aT (rD W nb np ((nJ.out.kp k (fun x=>x)).cell 1 rfl) VA p2.1 ok2.2));rw[ha]at VB;have HA:=ae ha;clear hd hcn ha
     go_wp2_with fail
     go_region
     go_wp2_with fail
     refine af [] [0,1,2,3,4,5,6,7,8,9,10] 11 (by kernel_rfl) (by kernel_rfl) (fun c a d u w h=>by cases d<;>exact h) ?_;simp only[pick,bn];show aA _ _ _ _ _ _
     repeat((first
        |refine ah (by exact rfl) (by as_aux_lemma=>intro W hK;have e0:=hK.cell d0 (fun x=>x);go_simp;exact rfl) ?_
        |refine ai (by exact rfl) ?_
        |refine au (by exact rfl) (by as_aux_lemma=>intro W;go_simp;exact⟨rfl,rfl⟩) (by intro W hK;with_reducible first|exact VB.out W ((Kp.refl none' W3).drew.trans hK)) ?_);simp only[Act.put,aY])
     show ∀W,_→wpList _ _ _ _ _ _
     intro W4 hK4;replace hK4:=(Kp.refl none' W3).drew.trans hK4;have DY:=ae hK4;have IU:=ae (nJ.out.kp hK4 (fun x=>x));have HB4:=ae (HB3.out.kp hK4 (fun x=>x));have HT4:=ae (fV.out.old hK4);obtain⟨v,hv⟩:∃v,(fM np true nx .nil .nil)[4+a]? =some v:=⟨_,List.getElem?_eq_getElem (by simp[fM];omega)⟩
     have m4:=IU.out.cell (4+a) hv;have y4:=IU.out.fz (4+a);have b5:=hK4.cell b4 (fun x=>x);have y5:=HB4.out.fz (4+s);have ne1:nb≠kb:=nY.out;have ne2:kb≠nb:=fun e=>nY.out e.symm
     clear hK4 b4 d0 n0 n1 c0 c1 NQ hv
     go_wp2_with fail
     go_end0
     have hks:Kp (fun b=>b=nb∨b=kb) W4 ((W4.setCell ⟨nb,4+a,none⟩ (.pointer (some ⟨k2,0,none⟩))).setCell ⟨kb,4+s,none⟩ (.pointer (some ⟨nb,0,none⟩))):=((Kp.refl (fun b=>b=nb∨b=kb) W4).set (p:=⟨nb,4+a,none⟩) (.inl (.inl rfl)) _).set (p:=⟨kb,4+s,none⟩) (.inl (.inr rfl)) _;obtain⟨m,pe⟩:=Qy (nx:=nx) (u2:=u2) (x2:=x2) (l2:=l2) (r2:=r2) w.heap.size yw.out (IQ.out.trans CJ.out) HA.out ((IU.out.set (4+a) (.pointer (some ⟨k2,0,none⟩))).bY (a:=⟨kb,4+s,none⟩) ne1 (.pointer (some ⟨nb,0,none⟩))) (HT4.out.kp hks (fun b hb e=>e.elim (fun e=>yx.out (e▸hb)) (fun e=>HKB.out (e▸hb))));refine⟨rfl,w.heap.size,Nat.le_refl _,m,?_,(((DX.out.trans DY.out).mono (fun _ _ x=>x.elim)).trans (hks.mono (fun _ _ x=>.inr x)))⟩;rw[pe];exact(HB4.out.bY (a:=⟨nb,4+a,none⟩) ne2 _).set (4+s) _
    ·have hd:decide (c=np)=false:=decide_eq_false hcn;have NQ:=Ky c np;simp only[hd]at NQ;have CJ:=ae hcn;obtain⟨a1,h1⟩:∃a,bH c np.1=a:=⟨_,rfl⟩
     obtain⟨a2,h2⟩:∃a,bH c p2.1=a:=⟨_,rfl⟩
     have l1:a1<2:=by have:=dD c np.1;omega
     have l2':a2<2:=by have:=dD c p2.1;omega
     have HA1:=ae h1;have HA2:=ae h2;clear hd hcn
     go_wp2_with fail
     go_region
     go_wp2_with fail
     have hK4:Kp none' W3 (W3.alloc (.cells #[.int .u32 c.1,.int .i64 c.2,.bool false,.int .u64 0,.pointer none,.pointer none] 375)).drew:=((Kp.refl none' W3).alloc _).drew;have hG:ag (W3.alloc (.cells #[.int .u32 c.1,.int .i64 c.2,.bool false,.int .u64 0,.pointer none,.pointer none] 375)).drew W3.heap.size (fM c false 0 .nil .nil) rF:=(ag.new W3 (fM c false 0 .nil .nil) rF).drew;obtain⟨W4,nZ⟩:∃W,(W3.alloc (.cells #[.int .u32 c.1,.int .i64 c.2,.bool false,.int .u64 0,.pointer none,.pointer none] 375)).drew=W:=⟨_,rfl⟩
     have gn:nb≠W3.heap.size:=Nat.ne_of_lt nJ.out.lt;have gk:kb≠W3.heap.size:=Nat.ne_of_lt HB3.out.lt;have gt:∀b∈(Tr.node k2 p2 u2 x2 l2 r2).aU,b≠W3.heap.size:=fun b hb=>Nat.ne_of_lt (fV.out.lt b hb)
     have gw:w.heap.size≤W3.heap.size:=DX.out.size;obtain⟨g2,hg2⟩:∃g,W3.heap.size=g:=⟨_,rfl⟩
     rw[hg2]at hG gn gk gt gw ⊢;rw[nZ]at hK4 hG ⊢;have KA:=ae gt;have VC:=ae gw;have HG2:=ae hg2;have Oh:=ae (fun W (k:Kp none' W4 W)=>aT (rD W g2 c ((hG.kp k (fun x=>x)).cell 1 rfl) (by omega) np.1 hok.2));rw[h1]at Oh;have DY:=ae hK4;have HG:=ae hG;have n0:=hK4.cell n0 (fun x=>x);have d0:=hK4.cell d0 (fun x=>x);have b4:=hK4.cell b4 (fun x=>x);clear nZ hg2 hK4 hG gt gw h1 c0 c1 n1 NQ;refine af [] [0,1,2,3,4,5,6,7,8,9,10] 11 (by kernel_rfl) (by kernel_rfl) (fun c a d u w h=>by cases d<;>exact h) ?_;simp only[pick,bn];show aA _ _ _ _ _ _
     repeat((first
        |refine ah (by exact rfl) (by as_aux_lemma=>intro W hK;have e0:=hK.cell n0 (fun x=>x);go_simp;exact rfl) ?_
        |refine ai (by exact rfl) ?_
        |refine au (by exact rfl) (by as_aux_lemma=>intro W;go_simp;exact⟨rfl,rfl⟩) (by intro W hK;with_reducible first|exact Oh.out W hK) ?_);simp only[Act.put,aY])
     show ∀W,_→wpList _ _ _ _ _ _
     intro W5 hK5;have a_:=ae hK5;have pM:=ae (HG.out.kp hK5 (fun x=>x));obtain⟨v,hv⟩:∃v,(fM c false 0 .nil .nil)[4+a1]? =some v:=⟨_,List.getElem?_eq_getElem (by simp[fM];omega)⟩
     have m4:=pM.out.cell (4+a1) hv;have y4:=pM.out.fz (4+a1);have d0:=hK5.cell d0 (fun x=>x);have b4:=hK5.cell b4 (fun x=>x);clear hK5 hv n0 Oh
     go_wp2_with fail
     have hks:Kp (fun b=>b=g2) W5 (W5.setCell ⟨g2,4+a1,none⟩ (.pointer (some ⟨nb,0,none⟩))):=(Kp.refl (fun b=>b=g2) W5).set (p:=⟨g2,4+a1,none⟩) (.inl rfl) _;have IV:=pM.out.set (4+a1) (.pointer (some ⟨nb,0,none⟩));obtain⟨W6,DZ⟩:∃W,W5.setCell ⟨g2,4+a1,none⟩ (.pointer (some ⟨nb,0,none⟩))=W:=⟨_,rfl⟩
     rw[DZ]at hks IV ⊢;have hlow:∀i,i<W3.heap.size→i≠g2:=fun i hi=>by rw[←HG2.out];omega
     have KC:Kp none' W3 W6:=(DY.out.trans a_.out).then hks (fun i hi e=>absurd e (hlow i hi))
     have d0:=hks.cell d0 (KA.out k2 (by simp[Tr.aU]));have b4:=hks.cell b4 gk;have Oi:=ae (fun W (k:Kp none' W6 W)=>aT (rD W g2 c ((IV.kp k (fun x=>x)).cell 1 (by rw[List.getElem?_set_ne (by omega)];rfl)) (by omega) p2.1 ok2.2));rw[h2]at Oi;have FZ:=ae IV;have VD:=ae KC;clear DZ hks IV hlow KC m4 y4 h2;refine af [] [0,1,2,3,4,5,6,7,8,9,10] 11 (by kernel_rfl) (by kernel_rfl) (fun c a d u w h=>by cases d<;>exact h) ?_;simp only[pick,bn];show aA _ _ _ _ _ _
     repeat((first
        |refine ah (by exact rfl) (by as_aux_lemma=>intro W hK;have e0:=hK.cell d0 (fun x=>x);go_simp;exact rfl) ?_
        |refine ai (by exact rfl) ?_
        |refine au (by exact rfl) (by as_aux_lemma=>intro W;go_simp;exact⟨rfl,rfl⟩) (by intro W hK;with_reducible first|exact Oi.out W hK) ?_);simp only[Act.put,aY])
     show ∀W,_→wpList _ _ _ _ _ _
     intro W7 hK7;have zI:=ae (VD.out.trans hK7);have xE:=ae (FZ.out.kp hK7 (fun x=>x));obtain⟨v2,hv⟩:∃v,((fM c false 0 .nil .nil).set (4+a1) (.pointer (some ⟨nb,0,none⟩)))[4+a2]? =some v:=⟨_,List.getElem?_eq_getElem (by simp[fM];omega)⟩
     have m4:=xE.out.cell (4+a2) hv;have y4:=xE.out.fz (4+a2);have jw:=ae (HB3.out.kp zI.out (fun x=>x));have HN7:=ae (nJ.out.kp zI.out (fun x=>x));have xG:=ae (fV.out.old zI.out);have b5:=hK7.cell b4 (fun x=>x);have y5:=jw.out.fz (4+s);have gk2:g2≠kb:=fun e=>gk e.symm
     clear hK7 hv b4 d0 Oi
     go_wp2_with fail
     go_end0
     have hks:Kp (fun b=>b=g2∨b=kb) W7 ((W7.setCell ⟨g2,4+a2,none⟩ (.pointer (some ⟨k2,0,none⟩))).setCell ⟨kb,4+s,none⟩ (.pointer (some ⟨g2,0,none⟩))):=((Kp.refl (fun b=>b=g2∨b=kb) W7).set (p:=⟨g2,4+a2,none⟩) (.inl (.inl rfl)) _).set (p:=⟨kb,4+s,none⟩) (.inl (.inr rfl)) _;obtain⟨m,pe⟩:=GV (nx:=nx) (u2:=u2) (x2:=x2) (l2:=l2) (r2:=r2) ok2 hok yw.out IQ.out CJ.out HA1.out HA2.out ((xE.out.set (4+a2) (.pointer (some ⟨k2,0,none⟩))).bY (a:=⟨kb,4+s,none⟩) gk2 (.pointer (some ⟨g2,0,none⟩))) (HN7.out.kp hks (fun e=>e.elim gn nY.out)) (xG.out.kp hks (fun b hb e=>e.elim (KA.out b hb) (fun e=>HKB.out (e▸hb))));refine⟨rfl,g2,VC.out,m,?_,?_⟩
     ·rw[pe];exact(jw.out.bY (a:=⟨g2,4+a2,none⟩) gk _).set (4+s) _
     ·exact((DX.out.trans zI.out).mono (T:=fun b=>b∈(Tr.node k2 p2 u2 x2 l2 r2).aU∨b=nb∨b=kb) (fun _ _ x=>x.elim)).then hks (fun i hi e=>e.elim (fun e=>by have:=VC.out;omega) (fun e=>.inr (.inr e)))
   ·have hK3:Kp none' W2 ((w3.setCell ⟨W2.heap.size,0,none⟩ (.int .u32 (bQ p2 np).1)).setCell ⟨W2.heap.size,1,none⟩ (.int .i64 (bQ p2 np).2)):=aH.out.then (((Kp.refl (fun b=>b=W2.heap.size) w3).set (p:=⟨W2.heap.size,0,none⟩) (.inl rfl) _).set (p:=⟨W2.heap.size,1,none⟩) (.inl rfl) _) (fun i hi e=>by omega)
    have hBc:ag ((w3.setCell ⟨W2.heap.size,0,none⟩ (.int .u32 (bQ p2 np).1)).setCell ⟨W2.heap.size,1,none⟩ (.int .i64 (bQ p2 np).2)) W2.heap.size [.int .u32 (bQ p2 np).1,.int .i64 (bQ p2 np).2] 151:=(HB3.out.set 0 (.int .u32 (bQ p2 np).1)).set 1 (.int .i64 (bQ p2 np).2);obtain⟨W3,hW3⟩:∃W,((w3.setCell ⟨W2.heap.size,0,none⟩ (.int .u32 (bQ p2 np).1)).setCell ⟨W2.heap.size,1,none⟩ (.int .i64 (bQ p2 np).2))=W:=⟨_,rfl⟩
    rw[hW3]at hK3 hBc ⊢;obtain⟨g,hg⟩:∃g,W2.heap.size=g:=⟨_,rfl⟩
    rw[hg]at hBc ⊢;clear hW3;have aF:=ae hK3;have HBc:=ae hBc;have k13:=ak.out.trans hK3;have fV:=ae (bT.out.old k13);have nJ:=ae (kK.out.kp k13 (fun x=>x));have HB3:=ae (HB1.out.kp k13 (fun x=>x));have DX:=ae (ax.out.trans k13);have hl:bC p2 np<p2.2:=Di ok2 hok yw.out;have hlc:(bQ p2 np).2<p2.2:=hl;have hok':=ui (q:=np) ok2.1;have d0:=hK3.cell d0 (fun x=>x);have b4:=hK3.cell b4 (fun x=>x);have n0:=hK3.cell n0 (fun x=>x);have n1:=hK3.cell n1 (fun x=>x);have c0:=hBc.cell 0 rfl;have c1:=hBc.cell 1 rfl;obtain⟨c,hcc⟩:∃c,bQ p2 np=c:=⟨_,rfl⟩
    rw[hcc]at c0 c1 hlc hok';have IQ:=ae hcc;have HL:=ae hl;clear hK3 hBc k13 hcc hl d1 lk ln ek en HCM;by_cases hcn:c=np
    ·have hd:decide (c=np)=true:=decide_eq_true hcn;have NQ:=Ky c np;simp only[hd]at NQ;have CJ:=ae hcn;have VA:np.2≤31:=by rw[←hcn];omega
     obtain⟨a,ha⟩:∃a,bH np p2.1=a:=⟨_,rfl⟩
     have ha2:a<2:=by have:=dD np p2.1;omega
     have VB:=ae (fun W (k:Kp none' W3 W)=>aT (rD W nb np ((nJ.out.kp k (fun x=>x)).cell 1 rfl) VA p2.1 ok2.2));rw[ha]at VB;have HA:=ae ha;clear hd hcn ha
     go_wp2_with fail
     go_region
     go_wp2_with fail
     refine af [] [0,1,2,3,4,5,6,7,8,9,10] 11 (by kernel_rfl) (by kernel_rfl) (fun c a d u w h=>by cases d<;>exact h) ?_;simp only[pick,bn];show aA _ _ _ _ _ _
     repeat((first
        |refine ah (by exact rfl) (by as_aux_lemma=>intro W hK;have e0:=hK.cell d0 (fun x=>x);go_simp;exact rfl) ?_
        |refine ai (by exact rfl) ?_
        |refine au (by exact rfl) (by as_aux_lemma=>intro W;go_simp;exact⟨rfl,rfl⟩) (by intro W hK;with_reducible first|exact VB.out W ((Kp.refl none' W3).drew.trans hK)) ?_);simp only[Act.put,aY])
     show ∀W,_→wpList _ _ _ _ _ _
     intro W4 hK4;replace hK4:=(Kp.refl none' W3).drew.trans hK4;have DY:=ae hK4;have IU:=ae (nJ.out.kp hK4 (fun x=>x));have HB4:=ae (HB3.out.kp hK4 (fun x=>x));have HT4:=ae (fV.out.old hK4);obtain⟨v,hv⟩:∃v,(fM np true nx .nil .nil)[4+a]? =some v:=⟨_,List.getElem?_eq_getElem (by simp[fM];omega)⟩
     have m4:=IU.out.cell (4+a) hv;have y4:=IU.out.fz (4+a);have b5:=hK4.cell b4 (fun x=>x);have y5:=HB4.out.fz (4+s);have ne1:nb≠kb:=nY.out;have ne2:kb≠nb:=fun e=>nY.out e.symm
     clear hK4 b4 d0 n0 n1 c0 c1 NQ hv
     go_wp2_with fail
     go_end0
     have hks:Kp (fun b=>b=nb∨b=kb) W4 ((W4.setCell ⟨nb,4+a,none⟩ (.pointer (some ⟨k2,0,none⟩))).setCell ⟨kb,4+s,none⟩ (.pointer (some ⟨nb,0,none⟩))):=((Kp.refl (fun b=>b=nb∨b=kb) W4).set (p:=⟨nb,4+a,none⟩) (.inl (.inl rfl)) _).set (p:=⟨kb,4+s,none⟩) (.inl (.inr rfl)) _;obtain⟨m,pe⟩:=Qy (nx:=nx) (u2:=u2) (x2:=x2) (l2:=l2) (r2:=r2) w.heap.size yw.out (IQ.out.trans CJ.out) HA.out ((IU.out.set (4+a) (.pointer (some ⟨k2,0,none⟩))).bY (a:=⟨kb,4+s,none⟩) ne1 (.pointer (some ⟨nb,0,none⟩))) (HT4.out.kp hks (fun b hb e=>e.elim (fun e=>yx.out (e▸hb)) (fun e=>HKB.out (e▸hb))));refine⟨rfl,w.heap.size,Nat.le_refl _,m,?_,(((DX.out.trans DY.out).mono (fun _ _ x=>x.elim)).trans (hks.mono (fun _ _ x=>.inr x)))⟩;rw[pe];exact(HB4.out.bY (a:=⟨nb,4+a,none⟩) ne2 _).set (4+s) _
    ·have hd:decide (c=np)=false:=decide_eq_false hcn;have NQ:=Ky c np;simp only[hd]at NQ;have CJ:=ae hcn;obtain⟨a1,h1⟩:∃a,bH c np.1=a:=⟨_,rfl⟩
     obtain⟨a2,h2⟩:∃a,bH c p2.1=a:=⟨_,rfl⟩
     have l1:a1<2:=by have:=dD c np.1;omega
     have l2':a2<2:=by have:=dD c p2.1;omega
     have HA1:=ae h1;have HA2:=ae h2;clear hd hcn
     go_wp2_with fail
     go_region
     go_wp2_with fail
     have hK4:Kp none' W3 (W3.alloc (.cells #[.int .u32 c.1,.int .i64 c.2,.bool false,.int .u64 0,.pointer none,.pointer none] 375)).drew:=((Kp.refl none' W3).alloc _).drew;have hG:ag (W3.alloc (.cells #[.int .u32 c.1,.int .i64 c.2,.bool false,.int .u64 0,.pointer none,.pointer none] 375)).drew W3.heap.size (fM c false 0 .nil .nil) rF:=(ag.new W3 (fM c false 0 .nil .nil) rF).drew;obtain⟨W4,nZ⟩:∃W,(W3.alloc (.cells #[.int .u32 c.1,.int .i64 c.2,.bool false,.int .u64 0,.pointer none,.pointer none] 375)).drew=W:=⟨_,rfl⟩
     have gn:nb≠W3.heap.size:=Nat.ne_of_lt nJ.out.lt;have gk:kb≠W3.heap.size:=Nat.ne_of_lt HB3.out.lt;have gt:∀b∈(Tr.node k2 p2 u2 x2 l2 r2).aU,b≠W3.heap.size:=fun b hb=>Nat.ne_of_lt (fV.out.lt b hb)
     have gw:w.heap.size≤W3.heap.size:=DX.out.size;obtain⟨g2,hg2⟩:∃g,W3.heap.size=g:=⟨_,rfl⟩
     rw[hg2]at hG gn gk gt gw ⊢;rw[nZ]at hK4 hG ⊢;have KA:=ae gt;have VC:=ae gw;have HG2:=ae hg2;have Oh:=ae (fun W (k:Kp none' W4 W)=>aT (rD W g2 c ((hG.kp k (fun x=>x)).cell 1 rfl) (by omega) np.1 hok.2));rw[h1]at Oh;have DY:=ae hK4;have HG:=ae hG;have n0:=hK4.cell n0 (fun x=>x);have d0:=hK4.cell d0 (fun x=>x);have b4:=hK4.cell b4 (fun x=>x);clear nZ hg2 hK4 hG gt gw h1 c0 c1 n1 NQ;refine af [] [0,1,2,3,4,5,6,7,8,9,10] 11 (by kernel_rfl) (by kernel_rfl) (fun c a d u w h=>by cases d<;>exact h) ?_;simp only[pick,bn];show aA _ _ _ _ _ _
     repeat((first
        |refine ah (by exact rfl) (by as_aux_lemma=>intro W hK;have e0:=hK.cell n0 (fun x=>x);go_simp;exact rfl) ?_
        |refine ai (by exact rfl) ?_
        |refine au (by exact rfl) (by as_aux_lemma=>intro W;go_simp;exact⟨rfl,rfl⟩) (by intro W hK;with_reducible first|exact Oh.out W hK) ?_);simp only[Act.put,aY])
     show ∀W,_→wpList _ _ _ _ _ _
     intro W5 hK5;have a_:=ae hK5;have pM:=ae (HG.out.kp hK5 (fun x=>x));obtain⟨v,hv⟩:∃v,(fM c false 0 .nil .nil)[4+a1]? =some v:=⟨_,List.getElem?_eq_getElem (by simp[fM];omega)⟩
     have m4:=pM.out.cell (4+a1) hv;have y4:=pM.out.fz (4+a1);have d0:=hK5.cell d0 (fun x=>x);have b4:=hK5.cell b4 (fun x=>x);clear hK5 hv n0 Oh
     go_wp2_with fail
     have hks:Kp (fun b=>b=g2) W5 (W5.setCell ⟨g2,4+a1,none⟩ (.pointer (some ⟨nb,0,none⟩))):=(Kp.refl (fun b=>b=g2) W5).set (p:=⟨g2,4+a1,none⟩) (.inl rfl) _;have IV:=pM.out.set (4+a1) (.pointer (some ⟨nb,0,none⟩));obtain⟨W6,DZ⟩:∃W,W5.setCell ⟨g2,4+a1,none⟩ (.pointer (some ⟨nb,0,none⟩))=W:=⟨_,rfl⟩
     rw[DZ]at hks IV ⊢;have hlow:∀i,i<W3.heap.size→i≠g2:=fun i hi=>by rw[←HG2.out];omega
     have KC:Kp none' W3 W6:=(DY.out.trans a_.out).then hks (fun i hi e=>absurd e (hlow i hi))
     have d0:=hks.cell d0 (KA.out k2 (by simp[Tr.aU]));have b4:=hks.cell b4 gk;have Oi:=ae (fun W (k:Kp none' W6 W)=>aT (rD W g2 c ((IV.kp k (fun x=>x)).cell 1 (by rw[List.getElem?_set_ne (by omega)];rfl)) (by omega) p2.1 ok2.2));rw[h2]at Oi;have FZ:=ae IV;have VD:=ae KC;clear DZ hks IV hlow KC m4 y4 h2;refine af [] [0,1,2,3,4,5,6,7,8,9,10] 11 (by kernel_rfl) (by kernel_rfl) (fun c a d u w h=>by cases d<;>exact h) ?_;simp only[pick,bn];show aA _ _ _ _ _ _
     repeat((first
        |refine ah (by exact rfl) (by as_aux_lemma=>intro W hK;have e0:=hK.cell d0 (fun x=>x);go_simp;exact rfl) ?_
        |refine ai (by exact rfl) ?_
        |refine au (by exact rfl) (by as_aux_lemma=>intro W;go_simp;exact⟨rfl,rfl⟩) (by intro W hK;with_reducible first|exact Oi.out W hK) ?_);simp only[Act.put,aY])
     show ∀W,_→wpList _ _ _ _ _ _
     intro W7 hK7;have zI:=ae (VD.out.trans hK7);have xE:=ae (FZ.out.kp hK7 (fun x=>x));obtain⟨v2,hv⟩:∃v,((fM c false 0 .nil .nil).set (4+a1) (.pointer (some ⟨nb,0,none⟩)))[4+a2]? =some v:=⟨_,List.getElem?_eq_getElem (by simp[fM];omega)⟩
     have m4:=xE.out.cell (4+a2) hv;have y4:=xE.out.fz (4+a2);have jw:=ae (HB3.out.kp zI.out (fun x=>x));have HN7:=ae (nJ.out.kp zI.out (fun x=>x));have xG:=ae (fV.out.old zI.out);have b5:=hK7.cell b4 (fun x=>x);have y5:=jw.out.fz (4+s);have gk2:g2≠kb:=fun e=>gk e.symm
     clear hK7 hv b4 d0 Oi
     go_wp2_with fail
     go_end0
     have hks:Kp (fun b=>b=g2∨b=kb) W7 ((W7.setCell ⟨g2,4+a2,none⟩ (.pointer (some ⟨k2,0,none⟩))).setCell ⟨kb,4+s,none⟩ (.pointer (some ⟨g2,0,none⟩))):=((Kp.refl (fun b=>b=g2∨b=kb) W7).set (p:=⟨g2,4+a2,none⟩) (.inl (.inl rfl)) _).set (p:=⟨kb,4+s,none⟩) (.inl (.inr rfl)) _;obtain⟨m,pe⟩:=GV (nx:=nx) (u2:=u2) (x2:=x2) (l2:=l2) (r2:=r2) ok2 hok yw.out IQ.out CJ.out HA1.out HA2.out ((xE.out.set (4+a2) (.pointer (some ⟨k2,0,none⟩))).bY (a:=⟨kb,4+s,none⟩) gk2 (.pointer (some ⟨g2,0,none⟩))) (HN7.out.kp hks (fun e=>e.elim gn nY.out)) (xG.out.kp hks (fun b hb e=>e.elim (KA.out b hb) (fun e=>HKB.out (e▸hb))));refine⟨rfl,g2,VC.out,m,?_,?_⟩
     ·rw[pe];exact(jw.out.bY (a:=⟨g2,4+a2,none⟩) gk _).set (4+s) _
     ·exact((DX.out.trans zI.out).mono (T:=fun b=>b∈(Tr.node k2 p2 u2 x2 l2 r2).aU∨b=nb∨b=kb) (fun _ _ x=>x.elim)).then hks (fun i hi e=>e.elim (fun e=>by have:=VC.out;omega) (fun e=>.inr (.inr e)))
theorem ach (T:Tr):Vx T:=by
 induction T with
 |nil=>intro w nb np nx hc;exact hc.elim
 |node kb kp ku kx kl kr hl hr=>
  intro w nb np nx hc hM hw hnd hN hnb hok xC;obtain⟨hB,hml,hmr⟩:=hM;obtain⟨ok2,w1,w2,w3,w4⟩:=hw;simp only[Tr.aU,List.nodup_cons,List.mem_append,not_or,List.nodup_append]at hnd;obtain⟨⟨hkl,hkr⟩,ndl,ndr,hdis⟩:=hnd;simp only[Tr.aU,List.mem_cons,List.mem_append,not_or]at hnb;simp only[Tr.dE,List.mem_cons,List.mem_append,not_or]at xC;have hc':dL kp np=true:=hc;have hlt:kp.2<np.2:=by
   rcases Nat.lt_or_ge kp.2 np.2 with h|h
   ·exact h
   ·exact absurd (wL hc' (by have:=Dh hc';omega)).symm xC.1
  have h32:=(di.1 hok.1).1;rcases dD kp np.1 with hs|hs
  ·refine(Vy w kb nb nx 0 kp np (fM kp ku kx kl kr) kl hB rfl hs rfl (by omega) hml w3 ndl hkl hN hnb.2.1 hnb.1 hok xC.2.1 hl).mono ?_;rintro e w' ⟨he,fb,hfb,hm,hb,hk⟩;refine⟨he,fb,hfb,?_,hk.mono (fun i _ hi=> ?_)⟩
   ·unfold Tr.lay;rw[if_pos hc',if_pos hs];refine⟨hb,hm,hmr.kp hk (fun b hb2 h=> ?_)⟩;rcases h with h|h|h
    ·exact hdis b h b hb2 rfl
    ·subst h;exact hnb.2.2 hb2
    ·subst h;exact hkr hb2
   ·rcases hi with h|h|h
    ·left;simp[Tr.aU,h]
    ·right;exact h
    ·left;simp[Tr.aU,h]
  ·refine(Vy w kb nb nx 1 kp np (fM kp ku kx kl kr) kr hB rfl hs rfl (by omega) hmr w4 ndr hkr hN hnb.2.2 hnb.1 hok xC.2.2 hr).mono ?_;rintro e w' ⟨he,fb,hfb,hm,hb,hk⟩;refine⟨he,fb,hfb,?_,hk.mono (fun i _ hi=> ?_)⟩
   ·unfold Tr.lay;rw[if_pos hc',if_neg (by omega)];refine⟨hb,hml.kp hk (fun b hb2 h=> ?_),hm⟩;rcases h with h|h|h
    ·exact hdis b hb2 b h rfl
    ·subst h;exact hnb.2.1 hb2
    ·subst h;exact hkl hb2
   ·rcases hi with h|h|h
    ·left;simp[Tr.aU,h]
    ·right;exact h
    ·left;simp[Tr.aU,h]
theorem Tr.at_mem {T:Tr} {p:Px} {b:Nat} {u:Bool} {x:Nat} (h:T.at_ p=some (b,u,x)):b∈T.aU:=by
 induction T with
 |nil=>cases h
 |node kb kp ku kx kl kr hl hr=>
  unfold Tr.at_ at h;simp only[Tr.aU,List.mem_cons,List.mem_append];split at h
  ·cases h;exact .inl rfl
  ·split at h
   ·cases h
   ·split at h
    ·exact .inr (.inl (hl h))
    ·exact .inr (.inr (hr h))
theorem kJ.at_ {w:World} {T:Tr} {p:Px} {b:Nat} {u:Bool} {x:Nat} (hM:kJ w T) (h:T.at_ p=some (b,u,x)):∃l r,ag w b (fM p u x l r) rF:=by
 induction T with
 |nil=>cases h
 |node kb kp ku kx kl kr hl hr=>
  obtain⟨h1,h2,h3⟩:=hM;unfold Tr.at_ at h;split at h
  ·rename_i e;cases h;subst e;exact⟨_,_,h1⟩
  ·split at h
   ·cases h
   ·split at h
    ·exact hl h2 h
    ·exact hr h3 h
theorem Tr.D5 (T:Tr) (p:Px) (y:Nat):(T.jZ p y).ptr=T.ptr:=by
 cases T with
 |nil=>rfl
 |node kb kp ku kx kl kr=>
  unfold Tr.jZ;split
  ·rfl
  ·split<;>rfl
theorem put_mem {w w':World} {T:Tr} {p:Px} {b:Nat} {u:Bool} {y x:Nat} (hM:kJ w T) (hnd:T.aU.Nodup) (h:T.at_ p=some (b,u,y)) (hk:Kp (fun i=>i=b) w w')
 (hb:∀cs,ag w b cs rF→ag w' b ((cs.set 2 (.bool true)).set 3 (.int .u64 x)) rF):kJ w' (T.jZ p x):=by
 induction T with
 |nil=>cases h
 |node kb kp ku kx kl kr hl hr=>
  obtain⟨h1,h2,h3⟩:=hM;simp only[Tr.aU,List.nodup_cons,List.mem_append,not_or,List.nodup_append]at hnd;obtain⟨⟨hkl,hkr⟩,ndl,ndr,hdis⟩:=hnd;unfold Tr.at_ at h;unfold Tr.jZ;split at h
  ·rename_i e
   cases h
   rw[if_pos e];exact⟨hb _ h1,h2.kp hk (fun i hi e=>hkl (e▸hi)),h3.kp hk (fun i hi e=>hkr (e▸hi))⟩
  ·rename_i e
   rw[if_neg e];split at h
   ·cases h
   ·split at h
    ·rename_i hs
     rw[if_pos hs];have hin:=Tr.at_mem h;refine⟨?_,hl h2 ndl h,h3.kp hk (fun i hi e=>hdis b hin i hi e.symm)⟩;unfold fM;rw[Tr.D5];exact h1.kp hk (fun e=>hkl (e▸hin))
    ·rename_i hs
     rw[if_neg hs];have hin:=Tr.at_mem h;refine⟨?_,h2.kp hk (fun i hi e=>hdis i hi b hin e),hr h3 ndr h⟩;unfold fM;rw[Tr.D5];exact h1.kp hk (fun e=>hkr (e▸hin))
abbrev Y6:TypeId:=377
structure iO (w:World) (base tb:Nat) (T:Tr) (n:Nat):Prop where
 blk:ag w tb [T.ptr,.int .i64 n] Y6
 mem:kJ w T
 wf:T.WF
 nd:T.aU.Nodup
 out:tb∉T.aU
 low:∀b∈T.aU,base≤b
 zJ:base≤tb
 GX:base≤w.heap.size
 root:∀p,nH p→qQ T p
theorem iO.old {w w':World} {base tb n:Nat} {T:Tr} (h:iO w base tb T n) (k:Kp none' w w'):iO w' base tb T n:=
 ⟨h.blk.kp k (fun x=>x),h.mem.old k,h.wf,h.nd,h.out,h.low,h.zJ,Nat.le_trans h.GX k.size,h.root⟩
theorem SI {p:Px} (hp:nH p):dL (0,0) p=true:=by
 rw[nI];refine⟨hp.1,Nat.zero_le _,sK.2 ⟨di.2 ⟨by decide,by simp⟩,?_⟩⟩;have:=hp.2;show p.1/4294967296=0/4294967296;omega
theorem KD {T:Tr} {np:Px} (h:qQ T np) (nb nx fb:Nat) (q:Px):qQ (T.lay nb np nx fb) q=qQ T q:=by
 cases T with
 |nil=>exact h.elim
 |node kb kp ku kx kl kr=>
  have h':dL kp np=true:=h;unfold Tr.lay;rw[if_pos h'];split<;>rfl
theorem KE (T:Tr) (p:Px) (x:Nat) (q:Px):qQ (T.jZ p x) q=qQ T q:=by
 cases T with
 |nil=>rfl
 |node kb kp ku kx kl kr=>
  unfold Tr.jZ;split
  ·rfl
  ·split<;>rfl
theorem SK {T:Tr} {np:Px} (h:qQ T np) (nb nx fb:Nat):(T.lay nb np nx fb).ptr=T.ptr:=by
 cases T with
 |nil=>exact h.elim
 |node kb kp ku kx kl kr=>exact Kz h nb nx fb
theorem SL {T:Tr} {p:Px} (h:T.at_ p=none):rE T p=.pointer none:=by unfold rE;rw[h]
theorem SQ {T:Tr} {p:Px} {b:Nat} {u:Bool} {y:Nat} (h:T.at_ p=some (b,u,y)):rE T p=.pointer (some ⟨b,0,none⟩):=by unfold rE;rw[h]
theorem iO.laid {w2 w':World} {base tb n n' x fb:Nat} {T:Tr} {p:Px} (h:iO w2 base tb T n) (hp:nH p) (ha:T.at_ p=none) (hfb:w2.heap.size+1≤fb) (hb:ag w' tb [T.ptr,.int .i64 n'] Y6) (hm:kJ w' (T.lay w2.heap.size p x fb)) (hs:w2.heap.size≤w'.heap.size):iO w' base tb (T.put w2.heap.size p x fb) n':=by
 have e:T.put w2.heap.size p x fb=T.lay w2.heap.size p x fb:=by unfold Tr.put;rw[ha]
 rw[e];have xC:p∉T.dE:=fun hm=>by
  obtain⟨b,u,y,h1,_⟩:=Tr.DN h.wf hm;rw[ha]at h1;cases h1
 have hlt:=h.mem.lt;have htb:=h.blk.lt;obtain⟨F,hF,hperm⟩:=Tr.Sz T p w2.heap.size x fb;have hin:∀b,b∈(T.lay w2.heap.size p x fb).aU→b=fb∨b=w2.heap.size∨b∈T.aU:=fun b hb=>by
  have:=hperm.mem_iff.1 hb;rw[List.mem_append,List.mem_cons]at this;rcases this with h1|h1|h1
  ·left;rcases hF with rfl|rfl
   ·cases h1
   ·simpa using h1
  ·exact .inr (.inl h1)
  ·exact .inr (.inr h1)
 refine⟨by rw[SK (h.root p hp)];exact hb,hm,Tr.Qv h.wf hp xC _ _ _,?_,?_,?_,h.zJ,Nat.le_trans h.GX hs,fun q hq=>by rw[KD (h.root p hp)];exact h.root q hq⟩
 ·rw[hperm.nodup_iff];have h1:(w2.heap.size::T.aU).Nodup:=List.nodup_cons.2 ⟨fun hb=>Nat.lt_irrefl _ (hlt _ hb),h.nd⟩;rcases hF with rfl|rfl
  ·exact h1
  ·refine List.nodup_cons.2 ⟨fun hb=> ?_,h1⟩;rcases List.mem_cons.1 hb with h2|h2
   ·omega
   ·have:=hlt _ h2;omega
 ·intro hb;rcases hin _ hb with h1|h1|h1
  ·omega
  ·omega
  ·exact h.out h1
 ·intro b hb;have:=h.GX;rcases hin _ hb with h1|h1|h1
  ·omega
  ·omega
  ·exact h.low b h1
theorem iO.jZ {w2 w':World} {base tb n n' x nb fb b y:Nat} {T:Tr} {p:Px} (h:iO w2 base tb T n) (ha:T.at_ p=some (b,false,y)) (hb:ag w' tb [T.ptr,.int .i64 n'] Y6) (hm:kJ w' (T.jZ p x)) (hs:w2.heap.size≤w'.heap.size):iO w' base tb (T.put nb p x fb) n':=by
 have e:T.put nb p x fb=T.jZ p x:=by unfold Tr.put;rw[ha]
 rw[e];exact⟨by rw[Tr.D5];exact hb,hm,Tr.Qr h.wf _ _,by rw[Tr.AY];exact h.nd,by rw[Tr.AY];exact h.out,by rw[Tr.AY];exact h.low,h.zJ,Nat.le_trans h.GX hs,fun q hq=>by rw[KE];exact h.root q hq⟩
theorem iO.count {w:World} {base tb n:Nat} {T:Tr} (h:iO w base tb T n):iO (w.setCell ⟨tb,1,none⟩ (.int .i64 ((n:Int)+1))) base tb T (n+1):=by
 have hks:Kp (fun i=>i=tb) w (w.setCell ⟨tb,1,none⟩ (.int .i64 ((n:Int)+1))):=(Kp.refl (fun i=>i=tb) w).set (p:=⟨tb,1,none⟩) (.inl rfl) _;exact⟨h.blk.set 1 _,h.mem.kp hks (fun b hb e=>h.out (e▸hb)),h.wf,h.nd,h.out,h.low,h.zJ,Nat.le_trans h.GX hks.size,h.root⟩
set_option maxRecDepth 100000 in
theorem aa6 (w:World) (base tb n x:Nat) (T:Tr) (h:iO w base tb T n) (p:Px) (hp:nH p) (hn:n<4096):
 Calls Tryz.prog 157 #[.pointer (some ⟨tb,0,none⟩),.agg #[.int .u32 p.1,.int .i64 p.2],.int .u64 x] w fun e w'=>∃c nb fb n',e=.returned (.int .i64 c)∧n'≤n+1∧iO w' base tb (T.put nb p x fb) n'∧Kp (fun b=>base≤b) w w':=by
 have hk1:=(Kp.refl none' w).alloc (.cells #[.int .u32 p.1,.int .i64 p.2] 151);have hb1:ag (w.alloc (.cells #[.int .u32 p.1,.int .i64 p.2] 151)) w.heap.size [.int .u32 p.1,.int .i64 p.2] 151:=ag.new w [.int .u32 p.1,.int .i64 p.2] _;have h32:=(di.1 hp.1).1;have HR:=ae (fun W=>wP p.1 p.2 W hp.2 (by omega));rw[show cO p.1 p.2=true from hp.1]at HR;have H1:=ae (h.old hk1);have HF:=ae (Y4 (w.alloc (.cells #[.int .u32 p.1,.int .i64 p.2] 151)) tb T n (h.old hk1).blk (h.old hk1).mem h.wf p hp);obtain⟨q,hq⟩:∃q,T.ptr=.pointer (some ⟨q,0,none⟩):=by
  have:=h.root p hp;cases T with
  |nil=>exact this.elim
  |node kb kp ku kx kl kr=>exact⟨kb,rfl⟩
 have c0:=(h.old hk1).blk.cell 0 rfl;rw[hq]at c0;have q0:=hb1.cell 0 rfl;have q1:=hb1.cell 1 rfl;have HT:=ae h;have HB:=ae hb1;have HQ:=ae hq;clear h hk1 hb1 hq;rcases ha:T.at_ p with _|⟨b,u,y⟩
 ·rw[SL ha]at HF;have HA:=ae ha;clear ha
  go_enter Tryz.func157,Tryz.ntmps157
  go_wp2_with(first
   |(go_at_call 197;refine HF.out.mono ?_;rintro e w1 ⟨rfl,hk1⟩
     have HT1:=ae (H1.out.old hk1);have HB1:=ae (HB.out.kp hk1 (fun x=>x));have c0:=hk1.cell c0 (fun x=>x);have q0:=hk1.cell q0 (fun x=>x);have q1:=hk1.cell q1 (fun x=>x)
     have ax:=ae hk1;clear hk1)
   |(go_at_call 100;refine(HR.out _).mono ?_;rintro e w2 ⟨rfl,hk2⟩
     have HT2:=ae (HT1.out.old hk2);have HB2:=ae (HB1.out.kp hk2 (fun x=>x));have c0:=hk2.cell c0 (fun x=>x);have q0:=hk2.cell q0 (fun x=>x);have q1:=hk2.cell q1 (fun x=>x);have c1:=HT2.out.blk.cell 1 rfl
     have ak:=ae hk2;clear hk2))
  have hcov:=HT2.out.root p hp;have xC:p∉T.dE:=fun hm=>by
   obtain⟨b,u,y,h1,_⟩:=Tr.DN HT2.out.wf hm;rw[HA.out]at h1;cases h1
  have HL:=ae (fun W (k:Kp none' w2 W) (hb:ag W w2.heap.size (fM p true x .nil .nil) rF)=>ach T W w2.heap.size p x hcov (HT2.out.mem.old k) HT2.out.wf HT2.out.nd hb (fun hb=>Nat.lt_irrefl _ (HT2.out.mem.lt _ hb)) hp xC);rw[HQ.out]at HL;have htb:tb≠w2.heap.size:=Nat.ne_of_lt HT2.out.blk.lt;clear xC hcov
  go_region_held3 (fun w'=>w'.cell? ⟨tb,0,none⟩=some (.pointer (some ⟨q,0,none⟩))∧w'.cell? ⟨w.heap.size,0,none⟩=some (.int .u32 p.1)∧w'.cell? ⟨w.heap.size,1,none⟩=some (.int .i64 p.2)) (go_keep)
   ((go_at_call 198
     refine(HL.out _ ((Kp.refl none' w2).alloc _).drew (ag.new w2 (fM p true x .nil .nil) rF).drew).mono ?_;rintro e w5 ⟨rfl,fb,hfb,KF,hk5⟩;have Qz:Kp (fun b=>b∈T.aU) w2 w5:=(((Kp.refl (fun b=>b∈T.aU) w2).alloc _).drew).then hk5 (fun i hi e=>e.elim (fun h=>h) (fun e=>absurd e (Nat.ne_of_lt hi)))
     have hb5:=HT2.out.blk.kp Qz HT2.out.out;have e0:=hb5.cell 0 (show some T.ptr=_ by rw[HQ.out]);have e1:=hb5.cell 1 rfl;have y1:=hb5.fz 1;have hbx:=HB2.out.kp Qz (fun hb=>Nat.lt_irrefl _ (HT.out.mem.lt _ hb));have e2:=hbx.cell 0 rfl;have e3:=hbx.cell 1 rfl;clear hbx
     have dB:=ae KF;have aa7:=ae Qz;have FY:=ae hfb;have d_:=ae hb5;clear KF Qz hfb hb5 hk5))
  have hw:IntKind.i64.wrap ((n:Int)+1)=(n:Int)+1:=by rw[IntKind.wrap_i64];omega
  go_wp2_with fail
  go_ret
  have hf:w2.heap.size+1≤fb:=by have:=FY.out;rwa [show(w2.alloc (.cells (fM p true x .nil .nil).toArray rF)).drew.heap.size=w2.heap.size+1 from World.size_alloc _ _]at this
  have hM:=HT2.out.laid (n':=n) hp HA.out hf d_.out dB.out aa7.out.size;refine⟨0,w2.heap.size,fb,n+1,rfl,Nat.le_refl _,hM.count,?_⟩;have fP:Kp none' w w2:=(((Kp.refl none' w).alloc _).trans ax.out).trans ak.out;exact((fP.mono (T:=fun b=>base≤b) (fun _ _ x=>x.elim)).trans (aa7.out.mono (fun i _ hi=>HT2.out.low i hi))).set (p:=⟨tb,1,none⟩) (.inl HT2.out.zJ) _
 ·have hb2:=kJ.at_ HT.out.mem ha;obtain⟨l,r,hb2⟩:=hb2;have HN:=ae hb2;rw[SQ ha]at HF;have HA:=ae ha;have hba:=Tr.at_mem ha;have hbl:=HT.out.mem.lt b hba;have hbt:b≠tb:=fun e=>HT.out.out (e▸hba)
  clear hb2 ha hba;cases u with
  |true=>
   go_enter Tryz.func157,Tryz.ntmps157
   go_wp2_with(first
        |(go_at_call 197;refine HF.out.mono ?_;rintro e w1 ⟨rfl,hk1⟩
          have HT1:=ae (H1.out.old hk1);have HB1:=ae (HB.out.kp hk1 (fun x=>x));have q0:=hk1.cell q0 (fun x=>x);have q1:=hk1.cell q1 (fun x=>x);have kK:=ae ((HN.out.alloc (.cells #[.int .u32 p.1,.int .i64 p.2] 151)).kp hk1 (fun x=>x))
          have ax:=ae (((Kp.refl none' w).alloc _).trans hk1);clear hk1 c0)
        |(go_at_call 100;refine(HR.out _).mono ?_;rintro e w2 ⟨rfl,hk2⟩
          have HT2:=ae (HT1.out.old hk2);have A_:=ae (kK.out.kp hk2 (fun x=>x));have n1:=A_.out.cell 2 rfl
          have ak:=ae (ax.out.trans hk2);clear hk2 q0 q1))
   go_ret
   have e:T.put 0 p x 0=T:=by unfold Tr.put;rw[HA.out]
   exact⟨8,0,0,n,rfl,by omega,by rw[e];exact HT2.out,ak.out.mono (fun _ _ x=>x.elim)⟩
  |false=>
   go_enter Tryz.func157,Tryz.ntmps157;have hw:IntKind.i64.wrap ((n:Int)+1)=(n:Int)+1:=by rw[IntKind.wrap_i64];omega
   go_wp2_with(first
        |(go_at_call 197;refine HF.out.mono ?_;rintro e w1 ⟨rfl,hk1⟩
          have HT1:=ae (H1.out.old hk1);have HB1:=ae (HB.out.kp hk1 (fun x=>x));have q0:=hk1.cell q0 (fun x=>x);have q1:=hk1.cell q1 (fun x=>x);have kK:=ae ((HN.out.alloc (.cells #[.int .u32 p.1,.int .i64 p.2] 151)).kp hk1 (fun x=>x))
          have ax:=ae (((Kp.refl none' w).alloc _).trans hk1);clear hk1 c0)
        |(go_at_call 100;refine(HR.out _).mono ?_;rintro e w2 ⟨rfl,hk2⟩
          have HT2:=ae (HT1.out.old hk2);have A_:=ae (kK.out.kp hk2 (fun x=>x));have n1:=A_.out.cell 2 rfl;have n2:=A_.out.cell 3 rfl;have z1:=A_.out.fz 2;have z2:=A_.out.fz 3;have c1:=HT2.out.blk.cell 1 rfl;have y1:=HT2.out.blk.fz 1
          have ak:=ae (ax.out.trans hk2);clear hk2 q0 q1))
   go_ret
   have hks:Kp (fun i=>i=b) w2 ((w2.setCell ⟨b,2,none⟩ (.bool true)).setCell ⟨b,3,none⟩ (.int .u64 x)):=((Kp.refl (fun i=>i=b) w2).set (p:=⟨b,2,none⟩) (.inl rfl) _).set (p:=⟨b,3,none⟩) (.inl rfl) _;have hM:=HT2.out.jZ (nb:=0) (fb:=0) (x:=x) HA.out (HT2.out.blk.kp hks (fun e=>hbt e.symm)) (put_mem HT2.out.mem HT2.out.nd HA.out hks (fun cs hb=>(hb.set 2 _).set 3 _)) hks.size;refine⟨0,0,0,n+1,rfl,Nat.le_refl _,hM.count,?_⟩;exact((ak.out.mono (T:=fun b=>base≤b) (fun _ _ x=>x.elim)).trans (hks.mono (fun i _ hi=>by subst hi;exact HT2.out.low _ (Tr.at_mem HA.out)))).set (p:=⟨tb,1,none⟩) (.inl HT2.out.zJ) _
set_option maxRecDepth 100000 in
theorem aa8 (w:World):Calls Tryz.prog 155 #[] w fun e w'=>∃tb T,e=.returned (.pointer (some ⟨tb,0,none⟩))∧iO w' w.heap.size tb T 0∧Kp none' w w'∧∃b,T=.node b (0,0) false 0 .nil .nil:=by
 go_enter Tryz.func155,Tryz.ntmps155
 go_wp2
 go_ret
 have hn:ag (w.alloc (.cells (fM (0,0) false 0 .nil .nil).toArray rF)) w.heap.size (fM (0,0) false 0 .nil .nil) rF:=ag.new w (fM (0,0) false 0 .nil .nil) rF;have hb:=ag.new (w.alloc (.cells (fM (0,0) false 0 .nil .nil).toArray rF)) [.pointer (some ⟨w.heap.size,0,none⟩),.int .i64 ((0:Nat):Int)] Y6;rw[World.size_alloc]at hb;refine⟨w.heap.size+1,.node w.heap.size (0,0) false 0 .nil .nil,rfl,?_,((Kp.refl none' w).alloc _).alloc _,w.heap.size,rfl⟩;refine⟨hb,⟨hn.alloc _,trivial,trivial⟩,(fK.start [] w.heap.size).wf,by simp[Tr.aU],by simp[Tr.aU],by simp[Tr.aU],by omega,?_,fun p hp=>SI hp⟩;rw[World.size_alloc,World.size_alloc];omega
def ja (r:dI):List Value:=[.int .u32 r.s.1,.int .i64 r.s.2,.int .u32 r.d.1,.int .i64 r.d.2,.int .u16 r.lo,.int .u16 r.hi,.int .u32 r.fl]
theorem kR (r:dI):(ja r).length=7:=rfl
def fG (r:dI):Nat×Int:=r.s
def fH (r:dI):Nat×Int:=r.d
set_option maxRecDepth 100000 in
theorem aa9 (s d:Nat×Int) (lo hi fl:Nat) (w:World):Calls Tryz.prog 94 #[.agg #[.int .u32 s.1,.int .i64 s.2,.int .u32 d.1,.int .i64 d.2,.int .u16 lo,.int .u16 hi,.int .u32 fl]] w fun e w'=>e=.returned (.agg #[.int .u32 s.1,.int .i64 s.2])∧Kp none' w w':=by
 have hb:=(ag.new (w.alloc (.cells #[.int .u32 s.1,.int .i64 s.2,.int .u32 d.1,.int .i64 d.2,.int .u16 lo,.int .u16 hi,.int .u32 fl] 153)) [.int .u32 s.1,.int .i64 s.2] 151);rw[World.size_alloc]at hb;have HB:=ae hb;clear hb
 go_enter Tryz.func94,Tryz.ntmps94
 go_wp2
 refine A7 (by rfl) HB.out _ Tryz.underlying151 rfl (by kernel_rfl) (by rfl) ?_;exact⟨rfl,((Kp.refl none' w).alloc _).alloc _⟩
set_option maxRecDepth 100000 in
theorem aa_ (s d:Nat×Int) (lo hi fl:Nat) (w:World):Calls Tryz.prog 95 #[.agg #[.int .u32 s.1,.int .i64 s.2,.int .u32 d.1,.int .i64 d.2,.int .u16 lo,.int .u16 hi,.int .u32 fl]] w fun e w'=>e=.returned (.agg #[.int .u32 d.1,.int .i64 d.2])∧Kp none' w w':=by
 have hb:=(ag.new (w.alloc (.cells #[.int .u32 s.1,.int .i64 s.2,.int .u32 d.1,.int .i64 d.2,.int .u16 lo,.int .u16 hi,.int .u32 fl] 153)) [.int .u32 d.1,.int .i64 d.2] 151);rw[World.size_alloc]at hb;have HB:=ae hb;clear hb
 go_enter Tryz.func95,Tryz.ntmps95
 go_wp2
 refine A7 (by rfl) HB.out _ Tryz.underlying151 rfl (by kernel_rfl) (by rfl) ?_;exact⟨rfl,((Kp.refl none' w).alloc _).alloc _⟩
theorem wR (b:Nat) (hb:b<64):IntKind.u64.wrap ((2:Int)^b)=((2^b:Nat):Int):=by
 have h:2^b<2^64:=Nat.pow_lt_pow_right (by decide) hb;rw[IntKind.wrap_u64];have e:(2:Int)^b=((2^b:Nat):Int):=by simp
 rw[e];generalize 2^b=y at*;omega
theorem yz {f:Nat→Bool} {k:Nat} (hk:k<64) (h:f k=true):bits BinOp.or IntKind.u64 ((bitsOf f k:Nat):Int) (IntKind.u64.wrap ((2:Int)^k))=((bitsOf f (k+1):Nat):Int):=by
 rw[wR k hk];have e:bitsOf f (k+1)=bitsOf f k|||2^k:=by simp only[bitsOf,h]
 rw[e];exact bits_or_u64_nat _ _ (Nat.lt_of_lt_of_le (uj f k) (Nat.pow_le_pow_right (by decide) (Nat.le_of_lt hk))) (Nat.pow_lt_pow_right (n:=64) (by decide) hk)
theorem yA {f:Nat→Bool} {k:Nat} (h:f k=false):bitsOf f (k+1)=bitsOf f k:=by simp[bitsOf,h]
end Go.Proofs.YtjiehhlghjnfhaaGreatDoor
