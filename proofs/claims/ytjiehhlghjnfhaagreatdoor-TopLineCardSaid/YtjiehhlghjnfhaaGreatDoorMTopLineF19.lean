/- What the functions of package flow compute, at things of kind own: Get, Set. -/
import Derived.Test.YtjiehhlghjnfhaaGreatDoorMTopLineF18
import Derived.Test.YtjiehhlghjnfhaaGreatDoorMTopLineF1
import Derived.Deep.MidRow
import Derived.Test.YtjiehhlghjnfhaaGreatDoorMTopLineF8
import Derived.Test.YtjiehhlghjnfhaaGreatDoorMTopLineF6
import Derived.Test.YtjiehhlghjnfhaaGreatDoorMTopLineF9
set_option linter.unusedVariables false
set_option linter.unusedSimpArgs false
set_option maxHeartbeats 8000000
namespace Go.Proofs.YtjiehhlghjnfhaaGreatDoor.eQ
open Go.RowKit Go.Proofs.YtjiehhlghjnfhaaGreatDoor
theorem vk.free {S:bD Th} {n room:Nat} (h:vk S n room):∃i,i<S.length∧bJ S i=none:=unused S (by have:=h.cnt;have:=h.load;have:=h.b1;omega)
theorem ql (S:bD Th) (id d:Nat) (hp:Pw S.length) (hb:S.length≤8192) (hid:id<4294967296) (hu:∃i,i<S.length∧bJ S i=none) (f:nU (aV S.length) S id d) (w:World) (tb sb:Nat) (n room:Nat) (h:iT w tb sb S n room):
 Calls Tryz.prog 194 #[.pointer (some ⟨tb,0,none⟩),.int .u32 id] w fun e w'=>e=.returned (.int .i64 (ad S.length (aV S.length id) d:Nat))∧Kp none' w w':=
 (acO w tb sb S n room h hp hb id hid hu).mono fun e w' ⟨⟨d',f',he⟩,hw⟩=>by
  subst hw;rw[f.unique f'];exact⟨he,Kp.refl _ _⟩
theorem ET:(Tryz.prog.info? 305).map (·.size)=some 3:=by kernel_rfl
set_option maxRecDepth 100000 in
theorem Ua (w:World) (tb sb:Nat) (S:bD Th) (n room:Nat) (h:iT w tb sb S n room) (ok:vk S n room) (id:Nat) (hid:id<4294967296) (d:Nat) (f:nU (aV S.length) S id d) (ht:bJ S (ad S.length (aV S.length id) d)=none):
 Calls Tryz.prog 209 #[.pointer (some ⟨tb,0,none⟩),.int .u32 id] w fun e w'=>e=.returned (.tuple #[en zx,.bool false])∧Kp none' w w':=by
 have c:=h.top.cell 0 rfl;have hN:=ok.pw.pos;have hpl:=jX (fA S.length id hN) f.lt;have GM:=ae (fun W (k:Kp none' w W)=>aT (Jr W tb sb S n room (h.old k) hN));have GF:=ae (fun W (k:Kp none' w W)=>ql S id d ok.pw ok.b2 hid ok.free f W tb sb n room (h.old k));have hce:=fun k u h1 h2=>h.cell (ad S.length (aV S.length id) d) k (u:=u) h1 h2 hpl
 obtain⟨q,hq⟩:∃q,ad S.length (aV S.length id) d=q:=⟨_,rfl⟩
 rw[hq]at hpl GF hce ht;have yu:(q:Int)<S.length:=by omega
 have HMM:=ae h;have HQ:=ae hq;clear h f hq;rw[ht]at hce;have c1:=hce 1 (.bool false) (by omega) rfl;clear hce ht
 go_enter Tryz.func209,Tryz.ntmps209
 go_wp2_with fail
 have HB4:=ae (((ag.new w [.int .i64 0,.int .u64 0,.int .u64 0] 305).alloc (.cells #[.int .i64 0,.int .u64 0,.int .u64 0] 305)));have bV:Hid (ag ((w.alloc (.cells #[.int .i64 0,.int .u64 0,.int .u64 0] 305)).alloc (.cells #[.int .i64 0,.int .u64 0,.int .u64 0] 305)) (w.heap.size+1) [.int .i64 0,.int .u64 0,.int .u64 0] 305):=by
  have:=ag.new (w.alloc (.cells #[.int .i64 0,.int .u64 0,.int .u64 0] 305)) [.int .i64 0,.int .u64 0,.int .u64 0] 305;rw[World.size_alloc]at this;exact this
 have ax:=ae (((Kp.refl none' w).alloc (.cells #[.int .i64 0,.int .u64 0,.int .u64 0] 305)).alloc (.cells #[.int .i64 0,.int .u64 0,.int .u64 0] 305));change Code.wp _ _ _ _ ((w.alloc (.cells #[.int .i64 0,.int .u64 0,.int .u64 0] 305)).alloc (.cells #[.int .i64 0,.int .u64 0,.int .u64 0] 305))
 generalize (w.alloc (.cells #[.int .i64 0,.int .u64 0,.int .u64 0] 305)).alloc (.cells #[.int .i64 0,.int .u64 0,.int .u64 0] 305)=W1 at*;have d0:=ax.out.cell c (fun x=>x);have d1:=ax.out.cell c1 (fun x=>x);have Xw:=ae (fun W (k:Kp none' W1 W)=>GM.out W (ax.out.trans k));have EU:=ae (fun W (k:Kp none' W1 W)=>GF.out W (ax.out.trans k));refine af [] [0,1,2,3,4,5,6,7,8,9,10,11,12,13,14] 15 (by kernel_rfl) (by kernel_rfl) (fun c a d u w h=>by cases d<;>exact h) ?_;simp only[pick,bn];show aA _ _ _ _ _ _
 repeat((first
  |refine ah (by exact rfl) (by as_aux_lemma=>intro W hK;have e0:=hK.cell d0 (fun x=>x);have e1:=hK.cell d1 (fun x=>x);go_simp;exact rfl) ?_
  |refine ai (by exact rfl) ?_
  |refine au (by exact rfl) (by as_aux_lemma=>intro W;go_simp;exact⟨rfl,rfl⟩) (by intro W hK;with_reducible first|exact Xw.out W hK|exact EU.out W hK) ?_);simp only[Act.put,aY])
 show ∀W,_→wpList _ _ _ _ _ _
 intro W2 hK2;have ak:=ae (ax.out.trans hK2);have uO:=ae (HB4.out.kp hK2 (fun x=>x));have TY:=ae (bV.out.kp hK2 (fun x=>x));have d2:=hK2.cell d0 (fun x=>x);have MI:=ae (fun W (k:Kp none' W2 W)=>EU.out W (hK2.trans k));clear hK2 d0 d1 HB4 bV;have x0:=TY.out.cell 0 rfl;have x1:=TY.out.cell 1 rfl;have x2:=TY.out.cell 2 rfl;have y0:=uO.out.cell 0 rfl;have y1:=uO.out.cell 1 rfl;have y2:=uO.out.cell 2 rfl;have yf:=fun j=>uO.out.fz j
 go_wp2_with fail
 exact iJ (by exact rfl) (((uO.out.set 0 (.int .i64 0)).set 1 (.int .u64 0)).set 2 (.int .u64 0)) _ Tryz.underlying305 rfl ET (by exact rfl) ⟨rfl,((ak.out.set (p:=⟨w.heap.size,0,none⟩) (.inr (Nat.le_refl _)) _).set (p:=⟨w.heap.size,1,none⟩) (.inr (Nat.le_refl _)) _).set (p:=⟨w.heap.size,2,none⟩) (.inr (Nat.le_refl _)) _⟩
set_option maxRecDepth 100000 in
theorem Ub (w:World) (tb sb:Nat) (S:bD Th) (n room:Nat) (h:iT w tb sb S n room) (ok:vk S n room) (id:Nat) (hid:id<4294967296) (d:Nat) (f:nU (aV S.length) S id d) (x:Th) (ht:bJ S (ad S.length (aV S.length id) d)=some (id,x)):
 Calls Tryz.prog 209 #[.pointer (some ⟨tb,0,none⟩),.int .u32 id] w fun e w'=>e=.returned (.tuple #[en x,.bool true])∧Kp none' w w':=by
 have c:=h.top.cell 0 rfl;have hN:=ok.pw.pos;have hpl:=jX (fA S.length id hN) f.lt;have GM:=ae (fun W (k:Kp none' w W)=>aT (Jr W tb sb S n room (h.old k) hN));have GF:=ae (fun W (k:Kp none' w W)=>ql S id d ok.pw ok.b2 hid ok.free f W tb sb n room (h.old k));have hce:=fun k u h1 h2=>h.cell (ad S.length (aV S.length id) d) k (u:=u) h1 h2 hpl
 obtain⟨q,hq⟩:∃q,ad S.length (aV S.length id) d=q:=⟨_,rfl⟩
 rw[hq]at hpl GF hce ht;have yu:(q:Int)<S.length:=by omega
 have HMM:=ae h;have HQ:=ae hq;clear h f hq;rw[ht]at hce;have c1:=hce 1 (.bool true) (by omega) rfl;have c2:=hce 2 (.int .i64 x.p) (by omega) rfl;have c3:w.cell? ⟨sb,q*5+2+1,none⟩=some (.int .u64 x.b):=hce 3 (.int .u64 x.b) (by omega) rfl;have c4:w.cell? ⟨sb,q*5+2+1+1,none⟩=some (.int .u64 x.m):=hce 4 (.int .u64 x.m) (by omega) rfl;clear hce ht
 go_enter Tryz.func209,Tryz.ntmps209
 go_wp2_with fail
 have HB4:=ae (((ag.new w [.int .i64 0,.int .u64 0,.int .u64 0] 305).alloc (.cells #[.int .i64 0,.int .u64 0,.int .u64 0] 305)));have bV:Hid (ag ((w.alloc (.cells #[.int .i64 0,.int .u64 0,.int .u64 0] 305)).alloc (.cells #[.int .i64 0,.int .u64 0,.int .u64 0] 305)) (w.heap.size+1) [.int .i64 0,.int .u64 0,.int .u64 0] 305):=by
  have:=ag.new (w.alloc (.cells #[.int .i64 0,.int .u64 0,.int .u64 0] 305)) [.int .i64 0,.int .u64 0,.int .u64 0] 305;rw[World.size_alloc]at this;exact this
 have ax:=ae (((Kp.refl none' w).alloc (.cells #[.int .i64 0,.int .u64 0,.int .u64 0] 305)).alloc (.cells #[.int .i64 0,.int .u64 0,.int .u64 0] 305));change Code.wp _ _ _ _ ((w.alloc (.cells #[.int .i64 0,.int .u64 0,.int .u64 0] 305)).alloc (.cells #[.int .i64 0,.int .u64 0,.int .u64 0] 305))
 generalize (w.alloc (.cells #[.int .i64 0,.int .u64 0,.int .u64 0] 305)).alloc (.cells #[.int .i64 0,.int .u64 0,.int .u64 0] 305)=W1 at*;have d0:=ax.out.cell c (fun x=>x);have d1:=ax.out.cell c1 (fun x=>x);have Xw:=ae (fun W (k:Kp none' W1 W)=>GM.out W (ax.out.trans k));have EU:=ae (fun W (k:Kp none' W1 W)=>GF.out W (ax.out.trans k));refine af [] [0,1,2,3,4,5,6,7,8,9,10,11,12,13,14] 15 (by kernel_rfl) (by kernel_rfl) (fun c a d u w h=>by cases d<;>exact h) ?_;simp only[pick,bn];show aA _ _ _ _ _ _
 repeat((first
  |refine ah (by exact rfl) (by as_aux_lemma=>intro W hK;have e0:=hK.cell d0 (fun x=>x);have e1:=hK.cell d1 (fun x=>x);go_simp;exact rfl) ?_
  |refine ai (by exact rfl) ?_
  |refine au (by exact rfl) (by as_aux_lemma=>intro W;go_simp;exact⟨rfl,rfl⟩) (by intro W hK;with_reducible first|exact Xw.out W hK|exact EU.out W hK) ?_);simp only[Act.put,aY])
 show ∀W,_→wpList _ _ _ _ _ _
 intro W2 hK2;have ak:=ae (ax.out.trans hK2);have uO:=ae (HB4.out.kp hK2 (fun x=>x));have TY:=ae (bV.out.kp hK2 (fun x=>x));have d2:=hK2.cell d0 (fun x=>x);have MI:=ae (fun W (k:Kp none' W2 W)=>EU.out W (hK2.trans k));clear hK2 d0 d1 HB4 bV;have d3:=ak.out.cell c2 (fun x=>x);have d4:=ak.out.cell c3 (fun x=>x);have d5:=ak.out.cell c4 (fun x=>x);clear c c1 c2 c3 c4
 go_wp2_with fail
 refine af [] [0,1,2,3,4,5,6,7,8,9] 10 (by kernel_rfl) (by kernel_rfl) (fun c a d u w h=>by cases d<;>exact h) ?_;simp only[pick,bn];show aA _ _ _ _ _ _
 repeat((first
  |refine ah (by exact rfl) (by as_aux_lemma=>intro W hK;have e0:=hK.cell d2 (fun x=>x);have e2:=hK.cell d3 (fun x=>x);have e3:=hK.cell d4 (fun x=>x);have e4:=hK.cell d5 (fun x=>x);go_simp;exact rfl) ?_
  |refine ai (by exact rfl) ?_
  |refine au (by exact rfl) (by as_aux_lemma=>intro W;go_simp;exact⟨rfl,rfl⟩) (by intro W hK;with_reducible first|exact MI.out W hK) ?_);simp only[Act.put,aY])
 show ∀W,_→wpList _ _ _ _ _ _
 intro W3 hK3;have aF:=ae (ak.out.trans hK3);have MJ:=ae (uO.out.kp hK3 (fun x=>x));clear hK3 d2 d3 d4 d5;have y0:=MJ.out.cell 0 rfl;have y1:=MJ.out.cell 1 rfl;have y2:=MJ.out.cell 2 rfl;have yf:=fun j=>MJ.out.fz j
 go_wp2_with fail
 exact iJ (by exact rfl) (((MJ.out.set 0 (.int .i64 x.p)).set 1 (.int .u64 x.b)).set 2 (.int .u64 x.m)) _ Tryz.underlying305 rfl ET (by exact rfl) ⟨rfl,((aF.out.set (p:=⟨w.heap.size,0,none⟩) (.inr (Nat.le_refl _)) _).set (p:=⟨w.heap.size,1,none⟩) (.inr (Nat.le_refl _)) _).set (p:=⟨w.heap.size,2,none⟩) (.inr (Nat.le_refl _)) _⟩
theorem tSl:qY Tryz.prog 366 370 (.agg #[.int .u32 0,.bool false,.int .i64 0,.int .u64 0,.int .u64 0]) 5 32:=⟨Tryz.underlying366,by kernel_rfl,rfl,by decide⟩
theorem Pw.twice {N:Nat} (h:Pw N) (hb:N≤5462):Pw (2*N)∧N≤4096:=by
 obtain⟨k,hk,rfl⟩:=h;have h12:k≤12:=by
  refine Classical.byContradiction fun hc=> ?_
  have:(2:Nat)^13≤2^k:=Nat.pow_le_pow_right (by decide) (by omega);omega
 have:(2:Nat)^k≤2^12:=Nat.pow_le_pow_right (by decide) h12;exact⟨⟨k+1,by omega,by rw[Nat.pow_succ,Nat.mul_comm]⟩,by omega⟩
structure MK (S:bD Th) (w wr:World) (tb sb nb i:Nat) (S2:bD Th) (n room:Nat):Prop where
 mem:iT wr tb nb S2 n room
 old:ag wr sb (S.flatMap fJ) 370
 inv:jE (aV (2*S.length)) S2
 len:S2.length=2*S.length
 bP:(bG S2).Perm (bG (S.take i))
 kp:Kp (fun b=>b=tb) w wr
 new:w.heap.size≤nb
theorem MK.next {S:bD Th} {w wr w':World} {tb sb nb i:Nat} {S2:bD Th} {n room:Nat} (h:MK S w wr tb sb nb i S2 n room) (k:Kp none' wr w'):MK S w w' tb sb nb i S2 n room:=
 ⟨h.mem.old k,h.old.kp k id,h.inv,h.len,h.bP,h.kp.then k (fun _ _ x=>x.elim),h.new⟩
set_option maxRecDepth 100000 in
theorem acP (w:World) (tb sb:Nat) (S:bD Th) (n room:Nat) (h:iT w tb sb S n room) (ok:vk S n room) (hb:S.length≤5462):
 Calls Tryz.prog 195 #[.pointer (some ⟨tb,0,none⟩)] w fun e w'=>e=.returned (.tuple #[])∧∃nb S2,MK S w w' tb sb nb S.length S2 n room:=by
 have c:=h.top.cell 0 rfl;have fz:=h.top.fz 0;obtain⟨hp2,hb2⟩:=Pw.twice ok.pw hb;have hN:=ok.pw.pos;have hmk:=pW tSl fJ dZ none rfl (2*S.length) (by omega) (by omega) w;have hne:sb≠tb:=fun e=>by have:=(iV h.Ak h.top (by decide));exact this e
 have HI:Hid (MK S w ((w.alloc (.cells ((List.replicate (2*S.length) (none:Option (Nat×Th))).flatMap fJ).toArray 370)).setCell ⟨tb,0,none⟩ (.slice (some ⟨w.heap.size,0,none⟩) (2*S.length) (2*S.length))) tb sb w.heap.size 0 (List.replicate (2*S.length) none) n room):=by
  have hlt:=h.top.lt;refine⟨⟨?_,?_⟩,?_,jE.nil _ (fun id=>fA _ _ (by omega)),by rw[List.length_replicate],by rw[xq,List.take_zero];exact List.Perm.refl _,?_,Nat.le_refl _⟩
  ·have:=(h.top.alloc (.cells ((List.replicate (2*S.length) (none:Option (Nat×Th))).flatMap fJ).toArray 370)).set 0 (.slice (some ⟨w.heap.size,0,none⟩) (2*S.length) (2*S.length));rw[List.length_replicate];exact this
  ·exact(ag.new w _ _).bY (a:=⟨tb,0,none⟩) (by show w.heap.size≠tb;omega) _
  ·exact(h.Ak.alloc _).bY (a:=⟨tb,0,none⟩) hne _
  ·exact((Kp.refl (fun b=>b=tb) w).alloc _).set (p:=⟨tb,0,none⟩) (.inl rfl) _
 have hcast:((2*S.length:Nat):Int)=2*(S.length:Int):=by omega
 rw[hcast]at hmk;have Xx:(Instr.makeSlice 366 (.int .i64 (2*(S.length:Int))) (.int .i64 (2*(S.length:Int)))).run Tryz.prog w=.ok (.slice (some ⟨w.heap.size,0,none⟩) (2*S.length) (2*S.length)) (w.alloc (.cells ((List.replicate (2*S.length) (none:Option (Nat×Th))).flatMap fJ).toArray 370)):=hmk;have c1:=(Kp.refl none' w).alloc (.cells ((List.replicate (2*S.length) (none:Option (Nat×Th))).flatMap fJ).toArray 370);have c2:=c1.cell c id;have Xg:(w.alloc (.cells ((List.replicate (2*S.length) (none:Option (Nat×Th))).flatMap fJ).toArray 370)).frozen? ⟨tb,0,none⟩=false:=(h.top.alloc _).fz 0;clear h hmk hcast c1
 go_enter Tryz.func195,Tryz.ntmps195
 go_wp2
 clear c c2 fz Xg Xx
 go_loopw [18] (fun i0 wr=>∃(i nb:Nat) (S2:bD Th),i0=.int .i64 i∧i≤S.length∧Hid (MK S w wr tb sb nb i S2 n room)) (fun i0 _=>S.length-(intOf i0).toNat)
 case atStart=>exact⟨0,w.heap.size,_,rfl,by omega,HI.out⟩
 case round=>
  obtain⟨i,nb,S2,rfl,hi,hr⟩:=hrel;by_cases hlt:i<S.length
  ·have hii:(i:Int)<S.length:=by omega
   have G:=ae hr.out;have hst:=Pn S i hlt;have hoc:∀k u,k<5→(fJ (bJ S i))[k]? =some u→wr.cell? ⟨sb,i*5+k,none⟩=some u:=fun k u hk hu=>by
    refine G.out.old.cell _ ?_;rw[flat_get fJ 5 dZ _ _ _ hk,List.getElem?_eq_getElem hlt];unfold bJ at hu;rw[List.getD_eq_getElem?_getD,List.getElem?_eq_getElem hlt]at hu;simpa using hu
   clear hr HI;cases ht:bJ S i with
   |none=>
    rw[ht]at hoc hst;have o0:=hoc 0 _ (by omega) rfl;have o1:=hoc 1 _ (by omega) rfl;have o2:=hoc 2 _ (by omega) rfl;have o3:=hoc 3 _ (by omega) rfl;have o4:=hoc 4 _ (by omega) rfl;simp only[Nat.add_zero]at o0;have HE:Hid ((bG S2).Perm (bG (S.take (i+1)))):=by show List.Perm _ _;rw[hst];simpa using G.out.bP
    have hk1:=(Kp.refl none' wr).alloc (.cells (fJ none).toArray 370);have HG:Hid (MK S w (wr.alloc (.cells (fJ none).toArray 370)) tb sb nb (i+1) S2 n room):=by
     have:=G.out.next hk1;exact {this with bP:=HE.out}
    clear hoc hst ht hk1
    go_wp2_with fail
    go_roundw
    case rel=>exact⟨i+1,nb,S2,by go_num,by omega,HG.out⟩
    case measure=>simp[intOf];omega
   |some ex=>
    obtain⟨k,x⟩:=ex;rw[ht]at hoc hst;have o0:=hoc 0 _ (by omega) rfl;have o1:=hoc 1 _ (by omega) rfl;have o2:=hoc 2 _ (by omega) rfl;have o3:=hoc 3 _ (by omega) rfl;have o4:=hoc 4 _ (by omega) rfl;simp only[Nat.add_zero]at o0;have ad_:k<4294967296:=ok.ids (k,x) ((mW S _).2 ⟨i,hlt,ht⟩);have hent:(bG S2).length<S.length+1:=by
     have h1:=G.out.bP.length_eq;have h2:=TZ (S.take i);rw[List.length_take]at h2;omega
    have hL:=G.out.len;have hfree:∃j,j<S2.length∧bJ S2 j=none:=unused S2 (by omega)
    have hhm:∀id,aV S2.length id<S2.length:=fun id=>fA _ _ (by omega)
    obtain⟨d,f⟩:=nU.there (hm:=aV S2.length) hhm k hfree;have hinv:jE (aV S2.length) S2:=by rw[hL];exact G.out.inv
    have hnone:bJ S2 (ad S2.length (aV S2.length k) d)=none:=by
     rcases f.fin with h1|⟨y,h1⟩
     ·exact h1
     ·exfalso
      have hm:(k,y)∈bG (S.take i):=G.out.bP.mem_iff.1 ((mW S2 _).2 ⟨_,jX (hhm k) f.lt,h1⟩);obtain⟨j,hj,ej⟩:=(mW _ _).1 hm;rw[List.length_take]at hj;have ej':bJ S j=some (k,y):=by
       unfold bJ at ej ⊢;rw[List.getD_eq_getElem?_getD,List.getElem?_take,if_pos (by omega)]at ej;rw[List.getD_eq_getElem?_getD];exact ej
      have:=ok.inv.one j i k y x (by omega) hlt ej' ht;omega
    have hput:=hinv.put f hnone x;have hperm:=H9 S2 _ (jX (hhm k) f.lt) hnone (k,x);have yu:=jX (hhm k) f.lt;have GF:=ae (fun W h=>ql S2 k d (by rw[hL];exact hp2) (by omega) ad_ hfree f W tb nb n room h);have hset:=jJ fJ 5 dZ S2 (ad S2.length (aV S2.length k) d) (some (k,x)) yu;have HE:Hid ((bG (S2.set (ad S2.length (aV S2.length k) d) (some (k,x)))).Perm (bG (S.take (i+1)))):=by
     show List.Perm _ _;rw[hst];exact hperm.trans ((List.Perm.cons _ G.out.bP).trans (List.perm_append_singleton _ _).symm)
    have hfin:=hput;rw[hL]at hfin;have Cc:=ae hfin;clear hoc hst hent f hinv hnone hput hperm hfin hfree hhm ht;have abA:ad S2.length (aV S2.length k) d<2*S.length:=by omega
    rw[hL]at hset abA GF HE;obtain⟨q,hq⟩:∃q,ad (2*S.length) (aV (2*S.length) k) d=q:=⟨_,rfl⟩
    rw[hq]at hset abA GF HE Cc;clear yu hq;have hqi:(q:Int)<2*(S.length:Int):=by omega
    have hk1:=(Kp.refl none' wr).alloc (.cells (fJ (some (k,x))).toArray 370);have hbx:=ag.new wr (fJ (some (k,x))) 370;have HG:=ae (G.out.next hk1);have aJ:=ae hbx;have jm:=ae hset;clear hk1 hbx hset
    go_wp2_with fail
    change Code.wp _ _ _ _ (wr.alloc (.cells (fJ (some (k,x))).toArray 370))
    obtain⟨pb,hpb⟩:∃p,wr.heap.size=p:=⟨_,rfl⟩
    rw[hpb]at aJ ⊢;generalize wr.alloc (.cells (fJ (some (k,x))).toArray 370)=w1 at*;clear hpb o0 o1 o2 o3 o4 G;have x0:=aJ.out.cell 0 rfl;have x1:=aJ.out.cell 1 rfl;have x2:=aJ.out.cell 2 rfl;have x3:=aJ.out.cell 3 rfl;have x4:=aJ.out.cell 4 rfl;have t0:=HG.out.mem.top.cell 0 rfl;rw[HG.out.len]at t0;refine af [] [0,1,2,3,4,5,6,7,8,9] 10 (by kernel_rfl) (by kernel_rfl) (fun c a d u w h=>by cases d<;>exact h) ?_;simp only[pick,bn];show aA _ _ _ _ _ _
    repeat((first
     |refine ah (by exact rfl) (by as_aux_lemma=>intro W hK;have e0:=hK.cell x0 id;have e1:=hK.cell x1 id;have e2:=hK.cell x2 id;have e4:=hK.cell x3 id;have e5:=hK.cell x4 id;have e3:=hK.cell t0 id;go_simp;exact rfl) ?_
     |refine ai (by exact rfl) ?_
     |refine au (by exact rfl) (by as_aux_lemma=>intro W;go_simp;exact⟨rfl,rfl⟩) (by intro W hK;with_reducible first|exact GF.out W (HG.out.mem.old hK)) ?_);simp only[Act.put,aY])
    show ∀W,_→wpList _ _ _ _ _ _
    intro W2 hK2;have HG2:=ae (HG.out.next hK2);clear hK2 x0 x1 x2 x3 x4 t0 HG aJ GF;have hnb:nb≠tb:=fun e=>by have:=HG2.out.mem;exact(iV this.Ak this.top (by decide)) e
    have aea:nb≠sb:=fun e=>by
     have h1:=HG2.out.mem.Ak;have h2:=HG2.out.old;rw[e]at h1;have h3:=(h1.inj h2).1;have h4:=congrArg List.length h3;rw[dQ fJ 5 dZ,dQ fJ 5 dZ,hL]at h4;omega
    have hone:∀v∈fJ (some (k,x)),v.oneCell'=true:=by
     intro v hv;simp only[fJ,List.mem_cons,List.not_mem_nil,or_false]at hv;rcases hv with rfl|rfl|rfl|rfl|rfl<;>rfl
    have hin:q*5+(fJ (some (k,x))).length≤(S2.flatMap fJ).length:=by rw[dQ fJ 5 dZ,dZ,hL];omega
    refine qK rfl 370 (.tmp 33) (.tmp 32) rfl HG2.out.mem.Ak (q*5) (fJ (some (k,x))) rfl rfl (by kernel_rfl) hin hone ?_;intro W3 hB3 hO3 hK3;rw[←jm.out]at hB3;have HF:Hid (MK S w W3 tb sb nb (i+1) (S2.set q (some (k,x))) n room):=by
     have h2:=hO3 _ _ _ HG2.out.mem.top hnb.symm;have h3:=hO3 _ _ _ HG2.out.old aea.symm;have hn:=HG2.out.new;have h4:=hK3 _ _ HG2.out.kp (.inr hn);exact⟨⟨by rw[List.length_set];exact h2,hB3⟩,h3,Cc.out,by rw[List.length_set];exact hL,HE.out,h4,hn⟩
    clear HG2 hB3 hO3 hK3;simp only[Act.put]
    go_wp2_with fail
    go_roundw
    case rel=>exact⟨i+1,nb,S2.set q (some (k,x)),by go_num,by omega,HF.out⟩
    case measure=>simp[intOf];omega
  ·have hie:i=S.length:=by omega
   subst hie
   go_wp2_with fail
   go_end0
   exact⟨rfl,nb,S2,hr.out⟩
theorem vk.put {S S1:bD Th} {n room id d:Nat} {x:Th} (ok:vk S n room) (hp:Pw S1.length) (hi:jE (aV S1.length) S1) (he:(bG S1).Perm (bG S)) (hid:id<4294967296) (f:nU (aV S1.length) S1 id d) (hn:bJ S1 (ad S1.length (aV S1.length id) d)=none)
 (hl:4*(n+1)≤3*S1.length) (hr:n<room) (h1:8≤S1.length) (h2:S1.length≤8192):
 vk (S1.set (ad S1.length (aV S1.length id) d) (some (id,x))) (n+1) room∧(bG (S1.set (ad S1.length (aV S1.length id) d) (some (id,x)))).Perm ((id,x)::bG S):=by
 have hq:=jX (hi.home id) f.lt;have hperm:=(H9 S1 _ hq hn (id,x)).trans (List.Perm.cons _ he);refine⟨⟨by rw[List.length_set];exact hp,by rw[List.length_set];exact hi.put f hn x,by rw[hperm.length_eq,List.length_cons,ok.cnt],by rw[List.length_set];exact hl,hr,ok.r1,ok.r2,fun e h=> ?_,by rw[List.length_set];exact h1,by rw[List.length_set];exact h2⟩,hperm⟩;rcases List.mem_cons.1 (hperm.mem_iff.1 h)with rfl|h
 ·exact hid
 ·exact ok.ids e h
set_option maxRecDepth 100000 in
theorem Xy (w:World) (tb sb:Nat) (S:bD Th) (n room:Nat) (h:iT w tb sb S n room) (ok:vk S n room) (id:Nat) (hid:id<4294967296) (d:Nat) (f:nU (aV S.length) S id d) (hnone:bJ S (ad S.length (aV S.length id) d)=none) (x:Th) (hroom:n<room):
 Calls Tryz.prog 151 #[.pointer (some ⟨tb,0,none⟩),.int .u32 id,en x] w fun e w'=>e=.returned (.int .i64 0)∧∃sb' S',iT w' tb sb' S' (n+1) room∧vk S' (n+1) room∧(bG S').Perm ((id,x)::bG S)∧Kp (fun b=>b=tb∨b=sb) w w'∧(sb'=sb∨w.heap.size≤sb'):=by
 have c0:=h.top.cell 0 rfl;have hN:=ok.pw.pos;have hpl:=jX (fA S.length id hN) f.lt;have HM:=ae h;have GM:=ae (fun W (k:Kp none' w W)=>aT (Jr W tb sb S n room (h.old k) hN));have htl:=h.top.lt;have GF:=ae (fun W (k:Kp none' w W)=>ql S id d ok.pw ok.b2 hid ok.free f W tb sb n room (h.old k));have hce:=fun k u h1 h2=>h.cell (ad S.length (aV S.length id) d) k (u:=u) h1 h2 hpl
 have Pq:=f.vV ok.inv hnone;have hfree:=ok.free;have cn:=h.top.cell 1 rfl;have cr:=h.top.cell 2 rfl;have hr2:=ok.r2;have yu:((ad S.length (aV S.length id) d:Nat):Int)<S.length:=by omega
 have hfi:¬(room:Int)≤n:=by omega
 rw[hnone]at hce;have c1:=hce 1 (.bool false) (by omega) rfl;have zO:=ae f;have HNO:=ae hnone;clear hce h hnone f;obtain⟨q,hq⟩:∃q,ad S.length (aV S.length id) d=q:=⟨_,rfl⟩
 have HQ:=ae hq;rw[hq]at hpl yu c1 GF;clear hq
 go_enter Tryz.func151,Tryz.ntmps151
 go_wp2_with fail
 refine(GM.out _ ((Kp.refl none' w).alloc _)).mono ?_;rintro e w1 ⟨rfl,k0⟩;have HXB:=ae ((ag.new w [.int .i64 x.p,.int .u64 x.b,.int .u64 x.m] 305).kp k0 (fun x=>x));have k1:=((Kp.refl none' w).alloc (.cells #[.int .i64 x.p,.int .u64 x.b,.int .u64 x.m] 305)).trans k0;clear k0;have d0:=k1.cell c0 (fun x=>x);have d1:=k1.cell c1 (fun x=>x);have dn:=k1.cell cn (fun x=>x);have dr:=k1.cell cr (fun x=>x);have EU:=ae (fun W (k:Kp none' w1 W)=>GF.out W (k1.trans k));have ax:=ae k1;clear k1 c0 c1 cn cr
 go_wp2_with fail
 refine af [] [0,1,2,3,4,5,6,7,8,9] 10 (by kernel_rfl) (by kernel_rfl) (fun c a d u w h=>by cases d<;>exact h) ?_;simp only[pick,bn];show aA _ _ _ _ _ _
 repeat((first
  |refine ah (by exact rfl) (by as_aux_lemma=>intro W hK;have e0:=hK.cell d0 (fun x=>x);have e1:=hK.cell d1 (fun x=>x);go_simp;exact rfl) ?_
  |refine ai (by exact rfl) ?_
  |refine au (by exact rfl) (by as_aux_lemma=>intro W;go_simp;exact⟨rfl,rfl⟩) (by intro W hK;with_reducible first|exact EU.out W hK) ?_);simp only[Act.put,aY])
 show ∀W,_→wpList _ _ _ _ _ _
 intro W2 hK2;have hK2':=ae hK2;have ak:=ae (ax.out.trans hK2);have f0:=hK2.cell d0 (fun x=>x);have fn:=hK2.cell dn (fun x=>x);have fr:=hK2.cell dr (fun x=>x);clear hK2 d0 d1 dn dr
 go_wp2_with fail
 refine af [] [0,1,2,3,4,5,6,7,8] 9 (by kernel_rfl) (by kernel_rfl) (fun c a d u w h=>by cases d<;>exact h) ?_;simp only[pick,bn];show aA _ _ _ _ _ _
 repeat((first
  |refine ah (by exact rfl) (by as_aux_lemma=>intro W hK;have e0:=hK.cell fn (fun x=>x);have e1:=hK.cell fr (fun x=>x);go_simp;exact rfl) ?_
  |refine ai (by exact rfl) ?_);simp only[Act.put,aY])
 show ∀W,_→wpList _ _ _ _ _ _
 intro W3 hK3;have aeb:=ae hK3;have aF:=ae (ak.out.trans hK3);have g0:=hK3.cell f0 (fun x=>x);have gn:=hK3.cell fn (fun x=>x);clear hK3 f0 fn fr
 go_wp2_with fail
 have hb8:=ok.b2;refine af [] [0,1,2,3,4,5,6,7,8,9,10,11] 12 (by kernel_rfl) (by kernel_rfl) (fun c a d u w h=>by cases d<;>exact h) ?_;simp only[pick,bn];show aA _ _ _ _ _ _
 repeat((first
  |refine ah (by exact rfl) (by as_aux_lemma=>intro W hK;have e0:=hK.cell g0 (fun x=>x);have e1:=hK.cell gn (fun x=>x);go_simp;exact rfl) ?_
  |refine ai (by exact rfl) ?_);simp only[Act.put,aY])
 show ∀W,_→wpList _ _ _ _ _ _
 intro W4 hK4;have aH:=ae (aF.out.trans hK4);have jR:=ae (HM.out.old aH.out);have abB:=ae (HXB.out.kp (((hK2'.out.trans aeb.out).trans hK4)) (fun x=>x));clear hK4 g0 gn GF EU GM ax ak aF HXB;by_cases hgr:3*S.length<4*(n+1)
 ·have hgi:3*(S.length:Int)<4*((n:Int)+1):=by omega
  have GG:=ae (acP W4 tb sb S n room jR.out ok (by omega));have hsz:=aH.out.size;clear hpl yu zO HQ HNO
  go_wp2_with fail
  refine GG.out.mono ?_;rintro e W1 ⟨rfl,sb1,S1,G⟩;have hN4:=(Pw.twice ok.pw (by omega)).2;have bT:=ae G.mem;have hp1:Pw S1.length:=by rw[G.len];exact(Pw.twice ok.pw (by omega)).1
  have hb1:S1.length≤8192:=by rw[G.len];omega
  have hi1:jE (aV S1.length) S1:=by rw[G.len];exact G.inv
  have he1:(bG S1).Perm (bG S):=by have:=G.bP;rwa [List.take_length]at this
  have h81:8≤S1.length:=by rw[G.len];have:=ok.b1;omega
  have hl1:4*(n+1)≤3*S1.length:=by rw[G.len];have:=ok.load;have:=ok.b1;omega
  have hu1:∃i,i<S1.length∧bJ S1 i=none:=unused S1 (by have:=he1.length_eq;have:=ok.cnt;omega)
  obtain⟨d1,f1⟩:=nU.there (hm:=aV S1.length) (fun id=>fA _ _ (by omega)) id hu1;have hn1:bJ S1 (ad S1.length (aV S1.length id) d1)=none:=by
   rcases f1.fin with h1|⟨y,h1⟩
   ·exact h1
   ·obtain⟨i,hi,hiy⟩:=(mW S _).1 (he1.mem_iff.1 ((mW S1 _).2 ⟨_,jX (hi1.home id) f1.lt,h1⟩));exact absurd hiy (Pq i y hi)
  have hnew:=G.new;have Pv:Hid (ag W1 w.heap.size [.int .i64 x.p,.int .u64 x.b,.int .u64 x.m] 305):=abB.out.kp G.kp (fun e=>by omega);have Uc:Hid (Kp (fun b=>b=tb∨b=sb) w W1):=(aH.out.mono (fun _ _ x=>x.elim)).then G.kp (fun _ _ x=>.inl x)
  have Xz:(sb1=tb∨sb1=sb)∨w.heap.size≤sb1:=.inr (by omega);have XA:sb1=sb∨w.heap.size≤sb1:=.inr (by omega);clear Pq hfree aH jR GG G
  go_wp2_with fail
  as_aux_lemma=>
   have hlen1:=bT.out.top.cell 0 rfl;have hcn:=bT.out.top.cell 1 rfl;have hx0:=Pv.out.cell 0 rfl;have hx1:=Pv.out.cell 1 rfl;have hx2:=Pv.out.cell 2 rfl;have MI:=ae (fun W (k:Kp none' W1 W)=>ql S1 id d1 hp1 hb1 hid hu1 f1 W tb sb1 n room (bT.out.old k));have hq1:=jX (fA S1.length id hp1.pos) f1.lt;have hset:=jJ fJ 5 dZ S1 (ad S1.length (aV S1.length id) d1) (some (id,x)) hq1;have XB:=ae (ok.put (x:=x) hp1 hi1 he1 hid f1 hn1 hl1 hroom h81 hb1);have hfl:=dQ fJ 5 dZ S1;generalize ad S1.length (aV S1.length id) d1=q1 at*;have aec:(q1:Int)<S1.length:=by omega
   have hne1:sb1≠tb:=fun e=>iV bT.out.Ak bT.out.top (by decide) e
   have hne2:tb≠sb1:=hne1.symm;clear f1 hi1 he1 hn1 hu1
   go_wp2_with fail
   refine af [] [0,1,2,3,4,5,6,7,8,9,10] 11 (by kernel_rfl) (by kernel_rfl) (fun c a d u w h=>by cases d<;>exact h) ?_;simp only[pick,bn];show aA _ _ _ _ _ _
   repeat((first
        |refine ah (by exact rfl) (by as_aux_lemma=>intro W hK;have e0:=hK.cell hlen1 (fun x=>x);have e1:=hK.cell hx0 (fun x=>x);have e2:=hK.cell hx1 (fun x=>x);have e3:=hK.cell hx2 (fun x=>x);go_simp;exact rfl) ?_
        |refine ai (by exact rfl) ?_
        |refine au (by exact rfl) (by as_aux_lemma=>intro W;go_simp;exact⟨rfl,rfl⟩) (by intro W hK;with_reducible first|exact MI.out W hK) ?_);simp only[Act.put,aY])
   show ∀W,_→wpList _ _ _ _ _ _
   intro W2 hK2;have eP:=ae (bT.out.old hK2);have ak:=ae (Uc.out.then hK2 (fun _ _ x=>x.elim));have hone:∀v∈fJ (some (id,x)),v.oneCell'=true:=by
    intro v hv;simp only[fJ,List.mem_cons,List.not_mem_nil,or_false]at hv;rcases hv with rfl|rfl|rfl|rfl|rfl<;>rfl
   have hin:q1*5+(fJ (some (id,x))).length≤(S1.flatMap fJ).length:=by rw[hfl,dZ];omega
   have hlen2:(S1.set q1 (some (id,x))).length=S1.length:=List.length_set ..;clear hlen1 hcn hset hK2 hx0 hx1 hx2;refine qK rfl 370 (.tmp 57) (.tmp 56) rfl eP.out.Ak (q1*5) (fJ (some (id,x))) rfl rfl (by kernel_rfl) hin hone ?_;intro W3 hB3 hO3 hK3;rw[←jJ fJ 5 dZ S1 q1 _ hq1]at hB3;have Js:=hO3 _ _ _ eP.out.top hne2;have aF:=ae (hK3 _ _ ak.out Xz);have zt:=Js.fz 1;have tn:=Js.cell 1 rfl;have HF:Hid (iT (W3.setCell ⟨tb,1,none⟩ (.int .i64 ((n:Int)+1))) tb sb1 (S1.set q1 (some (id,x))) (n+1) room):=by
    have h2:=Js.set 1 (.int .i64 ((n:Int)+1));exact⟨by rw[hlen2];exact h2,hB3.bY (a:=⟨tb,1,none⟩) hne1 _⟩
   have Py:Hid (Kp (fun b=>b=tb∨b=sb) w (W3.setCell ⟨tb,1,none⟩ (.int .i64 ((n:Int)+1)))):=aF.out.set (p:=⟨tb,1,none⟩) (.inl (.inl rfl)) _;clear hB3 hO3 hK3 Js hne1 hne2 hin hone hlen2 hfl;simp only[Act.put];as_aux_lemma=>
    go_wp2_with fail
    go_ret
    exact⟨rfl,sb1,_,HF.out,XB.out.1,XB.out.2,Py.out,XA⟩
 ·obtain⟨W1,hW⟩:∃W1:World,W1=W4:=⟨_,rfl⟩
  subst hW;have hgi:¬3*(S.length:Int)<4*((n:Int)+1):=by omega
  have Uc:Hid (Kp (fun b=>b=tb∨b=sb) w W1):=aH.out.mono (fun _ _ x=>x.elim);have Pv:=abB;obtain⟨S1,hS1⟩:∃S1:bD Th,S1=S:=⟨_,rfl⟩
  obtain⟨sb1,hsb⟩:∃sb1,sb1=sb:=⟨_,rfl⟩
  obtain⟨d1,hd1⟩:∃d1,d1=d:=⟨_,rfl⟩
  have bT:Hid (iT W1 tb sb1 S1 n room):=by rw[hS1,hsb];exact jR.out
  have hp1:Pw S1.length:=by rw[hS1];exact ok.pw
  have hb1:S1.length≤8192:=by rw[hS1];exact ok.b2
  have hi1:jE (aV S1.length) S1:=by rw[hS1];exact ok.inv
  have he1:(bG S1).Perm (bG S):=by rw[hS1]
  have hu1:∃i,i<S1.length∧bJ S1 i=none:=by rw[hS1];exact hfree
  have f1:nU (aV S1.length) S1 id d1:=by rw[hS1,hd1];exact zO.out
  have hn1:bJ S1 (ad S1.length (aV S1.length id) d1)=none:=by rw[hS1,hd1];exact HNO.out
  have hl1:4*(n+1)≤3*S1.length:=by rw[hS1];omega
  have h81:8≤S1.length:=by rw[hS1];exact ok.b1
  have Xz:(sb1=tb∨sb1=sb)∨w.heap.size≤sb1:=.inl (.inr hsb);have XA:sb1=sb∨w.heap.size≤sb1:=.inl hsb;clear hsb hd1 hpl yu hfree Pq zO HNO HQ;clear hS1
  go_wp2_with fail
  as_aux_lemma=>
   have hlen1:=bT.out.top.cell 0 rfl;have hcn:=bT.out.top.cell 1 rfl;have hx0:=Pv.out.cell 0 rfl;have hx1:=Pv.out.cell 1 rfl;have hx2:=Pv.out.cell 2 rfl;have MI:=ae (fun W (k:Kp none' W1 W)=>ql S1 id d1 hp1 hb1 hid hu1 f1 W tb sb1 n room (bT.out.old k));have hq1:=jX (fA S1.length id hp1.pos) f1.lt;have hset:=jJ fJ 5 dZ S1 (ad S1.length (aV S1.length id) d1) (some (id,x)) hq1;have XB:=ae (ok.put (x:=x) hp1 hi1 he1 hid f1 hn1 hl1 hroom h81 hb1);have hfl:=dQ fJ 5 dZ S1;generalize ad S1.length (aV S1.length id) d1=q1 at*;have aec:(q1:Int)<S1.length:=by omega
   have hne1:sb1≠tb:=fun e=>iV bT.out.Ak bT.out.top (by decide) e
   have hne2:tb≠sb1:=hne1.symm;clear f1 hi1 he1 hn1 hu1
   go_wp2_with fail
   refine af [] [0,1,2,3,4,5,6,7,8,9,10] 11 (by kernel_rfl) (by kernel_rfl) (fun c a d u w h=>by cases d<;>exact h) ?_;simp only[pick,bn];show aA _ _ _ _ _ _
   repeat((first
        |refine ah (by exact rfl) (by as_aux_lemma=>intro W hK;have e0:=hK.cell hlen1 (fun x=>x);have e1:=hK.cell hx0 (fun x=>x);have e2:=hK.cell hx1 (fun x=>x);have e3:=hK.cell hx2 (fun x=>x);go_simp;exact rfl) ?_
        |refine ai (by exact rfl) ?_
        |refine au (by exact rfl) (by as_aux_lemma=>intro W;go_simp;exact⟨rfl,rfl⟩) (by intro W hK;with_reducible first|exact MI.out W hK) ?_);simp only[Act.put,aY])
   show ∀W,_→wpList _ _ _ _ _ _
   intro W2 hK2;have eP:=ae (bT.out.old hK2);have ak:=ae (Uc.out.then hK2 (fun _ _ x=>x.elim));have hone:∀v∈fJ (some (id,x)),v.oneCell'=true:=by
    intro v hv;simp only[fJ,List.mem_cons,List.not_mem_nil,or_false]at hv;rcases hv with rfl|rfl|rfl|rfl|rfl<;>rfl
   have hin:q1*5+(fJ (some (id,x))).length≤(S1.flatMap fJ).length:=by rw[hfl,dZ];omega
   have hlen2:(S1.set q1 (some (id,x))).length=S1.length:=List.length_set ..;clear hlen1 hcn hset hK2 hx0 hx1 hx2;refine qK rfl 370 (.tmp 57) (.tmp 56) rfl eP.out.Ak (q1*5) (fJ (some (id,x))) rfl rfl (by kernel_rfl) hin hone ?_;intro W3 hB3 hO3 hK3;rw[←jJ fJ 5 dZ S1 q1 _ hq1]at hB3;have Js:=hO3 _ _ _ eP.out.top hne2;have aF:=ae (hK3 _ _ ak.out Xz);have zt:=Js.fz 1;have tn:=Js.cell 1 rfl;have HF:Hid (iT (W3.setCell ⟨tb,1,none⟩ (.int .i64 ((n:Int)+1))) tb sb1 (S1.set q1 (some (id,x))) (n+1) room):=by
    have h2:=Js.set 1 (.int .i64 ((n:Int)+1));exact⟨by rw[hlen2];exact h2,hB3.bY (a:=⟨tb,1,none⟩) hne1 _⟩
   have Py:Hid (Kp (fun b=>b=tb∨b=sb) w (W3.setCell ⟨tb,1,none⟩ (.int .i64 ((n:Int)+1)))):=aF.out.set (p:=⟨tb,1,none⟩) (.inl (.inl rfl)) _;clear hB3 hO3 hK3 Js hne1 hne2 hin hone hlen2 hfl;simp only[Act.put];as_aux_lemma=>
    go_wp2_with fail
    go_ret
    exact⟨rfl,sb1,_,HF.out,XB.out.1,XB.out.2,Py.out,XA⟩
theorem vk.new (room:Nat) (h1:1≤room) (h2:room≤4096):vk (List.replicate 8 none) 0 room:=
 ⟨⟨3,by decide,rfl⟩,jE.nil 8 (fun id=>fA 8 id (by decide)),by rw[xq];rfl,by decide,Nat.zero_le _,h1,h2,fun e h=>(by rw[xq]at h;cases h),by decide,by decide⟩
set_option maxRecDepth 100000 in
theorem fNew (room:Nat) (h1:1≤room) (h2:room≤4096) (w:World):Calls Tryz.prog 150 #[.int .i64 room] w fun e w'=>∃tb sb,e=.returned (.tuple #[.pointer (some ⟨tb,0,none⟩),.int .i64 0])∧iT w' tb sb (List.replicate 8 none) 0 room∧w.heap.size≤tb∧w.heap.size≤sb∧Kp none' w w':=by
 have hmk:=pW tSl fJ dZ none rfl 8 (by omega) (by omega) w;have d1:¬(room:Int)<1:=by omega
 have d2:¬(4096:Int)<room:=by omega
 have Xx:(Instr.makeSlice 366 (.int .i64 8) (.int .i64 8)).run Tryz.prog w=.ok (.slice (some ⟨w.heap.size,0,none⟩) 8 8) (w.alloc (.cells ((List.replicate 8 (none:Option (Nat×Th))).flatMap fJ).toArray 370)):=hmk;obtain⟨L0,hL0⟩:∃L0,(List.replicate 8 (none:Option (Nat×Th))).flatMap fJ=L0:=⟨_,rfl⟩
 have HM:Hid (iT ((w.alloc (.cells L0.toArray 370)).alloc (.cells #[.slice (some ⟨w.heap.size,0,none⟩) 8 8,.int .i64 0,.int .i64 room] 368)) (w.heap.size+1) w.heap.size (List.replicate 8 none) 0 room):=by
  have h1:=ag.new (w.alloc (.cells L0.toArray 370)) [.slice (some ⟨w.heap.size,0,none⟩) 8 8,.int .i64 0,.int .i64 room] 368;rw[World.size_alloc]at h1;exact⟨h1,by rw[hL0];exact(ag.new w L0 _).alloc _⟩
 have HK:Hid (Kp none' w ((w.alloc (.cells L0.toArray 370)).alloc (.cells #[.slice (some ⟨w.heap.size,0,none⟩) 8 8,.int .i64 0,.int .i64 room] 368))):=((Kp.refl _ _).alloc _).alloc _;rw[hL0]at Xx;clear hmk hL0
 go_enter Tryz.func150,Tryz.ntmps150
 go_wp2
 go_ret2
 exact⟨w.heap.size+1,rfl,w.heap.size,HM.out,by omega,by omega,HK.out⟩
theorem Pz {hm:Nat→Nat} {S:bD Th} (h:jE hm S):((bG S).map (·.1)).Nodup:=by
 unfold bG List.Nodup;rw[List.pairwise_map,List.pairwise_filterMap,List.pairwise_iff_getElem];intro i j hi hj hij x hx y hy e;simp only[id]at hx hy;have tx:bJ S i=some (x.1,x.2):=by unfold bJ;rw[List.getD_eq_getElem?_getD,List.getElem?_eq_getElem hi,hx];rfl
 have ty:bJ S j=some (x.1,y.2):=by unfold bJ;rw[List.getD_eq_getElem?_getD,List.getElem?_eq_getElem hj,hy,e];rfl
 have:=h.one i j x.1 x.2 y.2 hi hj tx ty;omega
theorem ML {S:bD Th} {n room id d:Nat} (ok:vk S n room) (f:nU (aV S.length) S id d) (hn:∀y,(id,y)∉bG S):bJ S (ad S.length (aV S.length id) d)=none:=by
 rcases f.fin with h|⟨y,h⟩
 ·exact h
 ·exact absurd ((f.vX ok.inv y).1 h) (hn y)
def Tf (w:World) (F:Nat→Prop) (tb room:Nat) (E:List (Nat×Th)):Prop:=∃sb S n,F=(fun b=>b=tb∨b=sb)∧iT w tb sb S n room∧vk S n room∧(bG S).Perm E
theorem Tf.kp {T:Nat→Prop} {w w':World} {F:Nat→Prop} {tb room:Nat} {E:List (Nat×Th)} (h:Tf w F tb room E) (k:Kp T w w') (hT:∀b,F b→¬T b):Tf w' F tb room E:=by
 obtain⟨sb,S,n,rfl,hm,ok,hp⟩:=h;exact⟨sb,S,n,rfl,hm.kp k (hT _ (.inl rfl)) (hT _ (.inr rfl)),ok,hp⟩
theorem Tf.old {w w':World} {F:Nat→Prop} {tb room:Nat} {E:List (Nat×Th)} (h:Tf w F tb room E) (k:Kp none' w w'):Tf w' F tb room E:=h.kp k (fun _ _ x=>x)
theorem Tf.lt {w:World} {F:Nat→Prop} {tb room:Nat} {E:List (Nat×Th)} (h:Tf w F tb room E) {b:Nat} (hb:F b):b<w.heap.size:=by
 obtain⟨sb,S,n,rfl,hm,ok,hp⟩:=h;rcases hb with rfl|rfl
 ·exact hm.top.lt
 ·exact hm.Ak.lt
theorem Tf.mem {w:World} {F:Nat→Prop} {tb room:Nat} {E:List (Nat×Th)} (h:Tf w F tb room E):∀e∈E,e.1<4294967296:=by
 obtain⟨sb,S,n,_,hm,ok,hp⟩:=h;exact fun e he=>ok.ids e (hp.mem_iff.2 he)
theorem aed (room:Nat) (h1:1≤room) (h2:room≤4096) (w:World):Calls Tryz.prog 150 #[.int .i64 room] w fun e w'=>∃F tb,e=.returned (.tuple #[.pointer (some ⟨tb,0,none⟩),.int .i64 0])∧Tf w' F tb room []∧(∀b,F b→w.heap.size≤b)∧Kp none' w w':=
 (fNew room h1 h2 w).mono fun e w' ⟨tb,sb,he,hm,hb1,hb2,hk⟩=>⟨_,tb,he,⟨sb,_,0,rfl,hm,vk.new room h1 h2,by rw[xq]⟩,fun b hb=>by rcases hb with rfl|rfl<;>assumption,hk⟩
theorem XC {w:World} {F:Nat→Prop} {tb room:Nat} {E:List (Nat×Th)} (h:Tf w F tb room E) (id:Nat) (hid:id<4294967296) (x:Th) (hn:∀y,(id,y)∉E) (hr:E.length<room):
 Calls Tryz.prog 151 #[.pointer (some ⟨tb,0,none⟩),.int .u32 id,en x] w fun e w'=>e=.returned (.int .i64 0)∧∃F',Tf w' F' tb room ((id,x)::E)∧Kp F w w'∧Nw w F F':=by
 obtain⟨sb,S,n,rfl,hm,ok,hp⟩:=h;obtain⟨d,f⟩:=nU.there (hm:=aV S.length) (fun id=>fA _ _ ok.pw.pos) id ok.free;have hl:=hp.length_eq;rw[ok.cnt]at hl;refine(Xy w tb sb S n room hm ok id hid d f (ML ok f (fun y hy=>hn y (hp.mem_iff.1 hy))) x (by omega)).mono ?_;rintro e w' ⟨he,sb',S',hm',ok',hp',hk,hs⟩;refine⟨he,_,⟨sb',S',n+1,rfl,hm',ok',hp'.trans (List.Perm.cons _ hp)⟩,hk,fun b hb=> ?_⟩;rcases hb with rfl|rfl
 ·exact .inl (.inl rfl)
 ·rcases hs with rfl|hs
  ·exact .inl (.inr rfl)
  ·exact .inr hs
theorem XD {w:World} {F:Nat→Prop} {tb room:Nat} {E:List (Nat×Th)} (h:Tf w F tb room E) (id:Nat) (hid:id<4294967296) (x:Th) (hx:(id,x)∈E):Calls Tryz.prog 209 #[.pointer (some ⟨tb,0,none⟩),.int .u32 id] w fun e w'=>e=.returned (.tuple #[en x,.bool true])∧Kp none' w w':=by
 obtain⟨sb,S,n,_,hm,ok,hp⟩:=h;obtain⟨d,f⟩:=nU.there (hm:=aV S.length) (fun id=>fA _ _ ok.pw.pos) id ok.free;exact Ub w tb sb S n room hm ok id hid d f x ((f.vX ok.inv x).2 (hp.mem_iff.2 hx))
theorem Ud {w:World} {F:Nat→Prop} {tb room:Nat} {E:List (Nat×Th)} (h:Tf w F tb room E) (id:Nat) (hid:id<4294967296) (hn:∀y,(id,y)∉E):Calls Tryz.prog 209 #[.pointer (some ⟨tb,0,none⟩),.int .u32 id] w fun e w'=>e=.returned (.tuple #[en zx,.bool false])∧Kp none' w w':=by
 obtain⟨sb,S,n,_,hm,ok,hp⟩:=h;obtain⟨d,f⟩:=nU.there (hm:=aV S.length) (fun id=>fA _ _ ok.pw.pos) id ok.free;exact Ua w tb sb S n room hm ok id hid d f (ML ok f (fun y hy=>hn y (hp.mem_iff.1 hy)))
end Go.Proofs.YtjiehhlghjnfhaaGreatDoor.eQ
namespace Go.Proofs.YtjiehhlghjnfhaaGreatDoor
open eQ (Th)
def CZ (a s:Nat):Nat:=if a*2^s<18446744073709551616 then a*2^s else 18446744073709551615
structure Ga where
 c:mF
 st:List Th
def sumP (l:List Th):Int:=(l.map (·.p)).sum
def fC (l:List Th):Nat:=(l.map (·.b)).sum
def kz (l:List iW) (st:List Th):List (Nat×Th):=(l.zip st).map (fun e=>(e.1.id,e.2))
structure Ga.Ok (g:Ga):Prop where
 Ue:g.c.ok
 adm:kS g.c=0
 len:g.st.length=g.c.aS.length
 caps:∀(i:Nat) (x:Th) (f:iW),g.st[i]? =some x→g.c.aS[i]? =some f→x.m=f.cap
 own:∀x∈g.st,0≤x.p∧x.b≤x.m
 Uf:fC g.st≤g.c.bytes
 pks:sumP g.st≤g.c.aI
theorem Ga.Ok.EW {g:Ga} (h:g.Ok):1≤g.c.aI∧g.c.aI≤4096∧0≤g.c.share∧g.c.share≤16∧1≤g.c.fQ∧g.c.fQ≤65535∧iF g.c.aS=0:=by
 have:=h.adm;unfold kS at this;split at this
 ·omega
 ·split at this
  ·omega
  ·split at this
   ·omega
   ·omega
theorem Ga.Ok.nod {g:Ga} (h:g.Ok):(g.c.aS.map (·.id)).Nodup∧1≤g.c.aS.length∧g.c.aS.length≤64:=by
 have:=h.EW.2.2.2.2.2.2;unfold iF at this;split at this
 ·omega
 ·split at this
  ·rename_i h1 h2;exact⟨h2,by omega,by omega⟩
  ·omega
def Ga.at (g:Ga) (id:Nat):Int:=findF g.c.aS id
def Ga.x (g:Ga) (id:Nat):Th:=(g.st[(g.at id).toNat]?).getD ⟨0,0,0⟩
def kC (g:Ga) (id n:Nat):Int:=
 if n=0∨g.c.fQ<n then 12 else if g.at id<0 then 13 else if g.c.aI≤sumP g.st then 14 else if g.c.bytes-fC g.st<n then 15
 else if(g.x id).m-(g.x id).b<n then 16 else 0
def dN (g:Ga) (id n:Nat):Int:=
 if kC g id n≠0 then kC g id n else if CZ (g.c.bytes-fC g.st) g.c.share.toNat≤(g.x id).b then 17 else 0
def Ga.put (g:Ga) (id:Nat) (x:Th):Ga:= {g with st:=g.st.set (g.at id).toNat x}
def Ga.lay (g:Ga) (id n:Nat):Ga:=g.put id ⟨(g.x id).p+1,(g.x id).b+n,(g.x id).m⟩
def tH (g:Ga) (id n:Nat):Ga:=if dN g id n=0 then g.lay id n else g
def xX (g:Ga) (id n:Nat):Int:=if g.at id<0 then 13 else if(g.x id).p=0∨(g.x id).b<n then 9 else 0
def l9 (g:Ga) (id n:Nat):Ga:=if xX g id n=0 then g.put id ⟨(g.x id).p-1,(g.x id).b-n,(g.x id).m⟩else g
theorem XE (l:List Int) (i:Nat) (v:Int) (h:i<l.length):(l.set i v).sum=l.sum-l[i]+v:=by
 induction l generalizing i with
 |nil=>simp at h
 |cons a r ih=>
  cases i with
  |zero=>simp;omega
  |succ i=>
   have:=ih i (by simpa using h);simp only[List.set_cons_succ,List.sum_cons,List.getElem_cons_succ,this];omega
theorem Ug (l:List Nat) (i:Nat) (v:Nat) (h:i<l.length):(l.set i v).sum+l[i]=l.sum+v:=by
 induction l generalizing i with
 |nil=>simp at h
 |cons a r ih=>
  cases i with
  |zero=>simp;omega
  |succ i=>
   have:=ih i (by simpa using h);simp only[List.set_cons_succ,List.sum_cons,List.getElem_cons_succ];omega
theorem tJ (l:List Th) (i:Nat) (x:Th) (h:i<l.length):sumP (l.set i x)=sumP l-(l[i]).p+x.p:=by
 unfold sumP;rw[List.map_set,XE _ _ _ (by simpa using h)];simp
theorem Bo (l:List Th) (i:Nat) (x:Th) (h:i<l.length):fC (l.set i x)+(l[i]).b=fC l+x.b:=by
 unfold fC;have:=Ug (l.map (·.b)) i x.b (by simpa using h);rw[List.map_set];simpa using this
theorem lL {l:List Th} {x:Th} (h:x∈l):x.b≤fC l:=by
 induction l with
 |nil=>cases h
 |cons a r ih=>
  unfold fC at*;simp only[List.map_cons,List.sum_cons];rcases List.mem_cons.1 h with rfl|h
  ·omega
  ·have:=ih h;omega
theorem Am {l:List Th} (hl:∀y∈l,0≤y.p) {x:Th} (h:x∈l):x.p≤sumP l:=by
 induction l with
 |nil=>cases h
 |cons a r ih=>
  have hr:0≤sumP r:=by
   clear ih h;induction r with
   |nil=>simp[sumP]
   |cons b r ih=>
    have h1:=ih (fun y hy=>hl y (by simp at hy ⊢;rcases hy with h|h;exact .inl h;exact .inr (.inr h)));have h2:=hl b (by simp);unfold sumP at*;simp only[List.map_cons,List.sum_cons];omega
  have ha:=hl a (by simp);rcases List.mem_cons.1 h with rfl|h
  ·unfold sumP at*;simp only[List.map_cons,List.sum_cons];omega
  ·have:=ih (fun y hy=>hl y (by simp[hy])) h;unfold sumP at*;simp only[List.map_cons,List.sum_cons];omega
theorem Ga.Ok.atb {g:Ga} (h:g.Ok) (id:Nat): -1≤g.at id∧g.at id<g.st.length:=by
 have:=wV g.c.aS id;have:=h.len;unfold Ga.at;omega
theorem Ga.Ok.yS {g:Ga} (h:g.Ok) {id:Nat} (h0:0≤g.at id):∃h:(g.at id).toNat<g.st.length,g.x id=g.st[(g.at id).toNat]:=by
 have:=h.atb id;have h1:(g.at id).toNat<g.st.length:=by omega
 exact⟨h1,by unfold Ga.x;rw[List.getElem?_eq_getElem h1];rfl⟩
theorem Ga.Ok.ou {g:Ga} (h:g.Ok) {id:Nat} (h0:0≤g.at id):g.x id∈g.st:=by
 obtain⟨h1,h2⟩:=h.yS h0;rw[h2];exact List.getElem_mem h1
theorem Ga.Ok.put {g:Ga} (h:g.Ok) {id:Nat} (h0:0≤g.at id) (x:Th) (hm:x.m=(g.x id).m) (hp:0≤x.p) (hb:x.b≤x.m) (hs:fC g.st-(g.x id).b+x.b≤g.c.bytes) (hk:sumP g.st-(g.x id).p+x.p≤g.c.aI):(g.put id x).Ok:=by
 obtain⟨h1,h2⟩:=h.yS h0;have h3:=Bo g.st _ x h1;have h4:=tJ g.st _ x h1;have h5:=lL (h.ou h0);rw[←h2]at h3 h4;refine⟨h.Ue,h.adm,by show(g.st.set _ _).length=_;rw[List.length_set];exact h.len,fun i y f hi hf=> ?_,fun y hy=> ?_,by show fC (g.st.set _ _)≤g.c.bytes;omega,by show sumP (g.st.set _ _)≤g.c.aI;rw[h4];exact hk⟩
 ·have hi:(g.st.set (g.at id).toNat x)[i]? =some y:=hi;have hf:g.c.aS[i]? =some f:=hf;by_cases e:(g.at id).toNat=i
  ·subst e;rw[List.getElem?_set_self h1]at hi;injection hi with hi
   subst hi;rw[hm];exact h.caps _ _ f (by rw[h2];exact List.getElem?_eq_getElem h1) hf
  ·rw[List.getElem?_set_ne e]at hi;exact h.caps i y f hi hf
 ·rcases List.mem_or_eq_of_mem_set hy with hy|rfl
  ·exact h.own y hy
  ·exact⟨hp,hb⟩
theorem EX {l:List iW} {st:List Th} (hl:st.length=l.length) (hn:(l.map (·.id)).Nodup) (id:Nat):(0≤findF l id→(id,(st[(findF l id).toNat]?).getD ⟨0,0,0⟩)∈kz l st)∧(findF l id<0→∀y,(id,y)∉kz l st):=by
 induction l generalizing st with
 |nil=>simp[findF,kz]
 |cons f r ih=>
  cases st with
  |nil=>simp at hl
  |cons s st=>
   have ih:=ih (st:=st) (by simpa using hl) (by rw[List.map_cons,List.nodup_cons]at hn;exact hn.2);have hg:=wV r id;unfold findF;by_cases h1:f.id=id
   ·rw[if_pos h1];refine⟨fun _=>by subst h1;simp[kz],fun h=>by omega⟩
   ·rw[if_neg h1];by_cases h2:findF r id<0
    ·rw[if_pos h2];refine⟨fun h=>by omega,fun _ y hy=> ?_⟩;simp only[kz,List.zip_cons_cons,List.map_cons,List.mem_cons,Prod.mk.injEq]at hy;rcases hy with⟨e,_⟩|hy
     ·exact h1 e.symm
     ·exact ih.2 h2 y hy
    ·rw[if_neg h2];refine⟨fun _=> ?_,fun h=>by omega⟩;have e:(findF r id+1).toNat=(findF r id).toNat+1:=by omega
     rw[e,List.getElem?_cons_succ];have:=ih.1 (by omega);unfold kz at*;simp only[List.zip_cons_cons,List.map_cons,List.mem_cons];exact .inr this
theorem XF {l:List iW} {st:List Th} (hl:st.length=l.length) (hn:(l.map (·.id)).Nodup) (id:Nat) (x:Th) (h0:0≤findF l id):(kz l st).map (fun e=>if e.1=id then(id,x)else e)=kz l (st.set (findF l id).toNat x):=by
 induction l generalizing st with
 |nil=>simp[findF]at h0
 |cons f r ih=>
  cases st with
  |nil=>simp at hl
  |cons s st=>
   rw[List.map_cons,List.nodup_cons]at hn;have ih:=ih (st:=st) (by simpa using hl) hn.2;have hg:=wV r id;have hex:∀st':List Th,f.id=id→(kz r st').map (fun e=>if e.1=id then(id,x)else e)=kz r st':=fun st' hfi=>by
    refine(List.map_congr_left (g:=fun e=>e) (fun e he=>if_neg ?_)).trans (List.map_id' _);unfold kz at he;obtain⟨p,hp,rfl⟩:=List.mem_map.1 he;intro hc;exact hn.1 (by rw[hfi];show id∈_;rw[←hc];exact List.mem_map_of_mem (List.of_mem_zip hp).1)
   have hc1:∀(s':Th) (st':List Th),kz (f::r) (s'::st')=(f.id,s')::kz r st':=fun _ _=>rfl
   rw[hc1,List.map_cons];unfold findF at h0 ⊢;by_cases h1:f.id=id
   ·rw[if_pos h1,if_pos h1,hex st h1];show _=kz (f::r) ((s::st).set 0 x);rw[List.set_cons_zero,hc1,h1]
   ·rw[if_neg h1]at h0 ⊢;rw[if_neg h1];by_cases h2:findF r id<0
    ·rw[if_pos h2]at h0;omega
    ·rw[if_neg h2];have e:(findF r id+1).toNat=(findF r id).toNat+1:=by omega
     rw[e,List.set_cons_succ,hc1,ih (by omega)]
end Go.Proofs.YtjiehhlghjnfhaaGreatDoor
