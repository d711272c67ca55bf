/- The gate (layer 17): In, Out. -/
import Derived.Test.YtjiehhlghjnfhaaGreatDoorMTopLineF20
import Derived.Test.YtjiehhlghjnfhaaGreatDoorMTopLineF6
import Derived.Test.YtjiehhlghjnfhaaGreatDoorMTopLineF10
import Derived.Test.YtjiehhlghjnfhaaGreatDoorMTopLineF9
import Derived.Test.YtjiehhlghjnfhaaGreatDoorMTopLineF18
set_option linter.unusedVariables false
set_option linter.unusedSimpArgs false
set_option maxHeartbeats 2000000
namespace Go.Proofs.YtjiehhlghjnfhaaGreatDoor
open Go Go.RowKit Go.Shelf
open eQ (Th Tf)
theorem Ia {g:Ga} {id n:Nat} (h:kC g id n=0):n≠0∧n≤g.c.fQ∧0≤g.at id∧sumP g.st<g.c.aI∧n≤g.c.bytes-fC g.st∧n≤(g.x id).m-(g.x id).b:=by
 unfold kC at h;split at h
 ·omega
 ·split at h
  ·omega
  ·split at h
   ·omega
   ·split at h
    ·omega
    ·split at h
     ·omega
     ·refine⟨by omega,by omega,by omega,by omega,by omega,by omega⟩
theorem Ar {g:Ga} {id n:Nat} (h:dN g id n=0):kC g id n=0:=by
 unfold dN at h;split at h
 ·exact h
 ·rename_i h1;exact Classical.byContradiction fun h2=>h1 h2
theorem zY {g:Ga} (ok:g.Ok) {id n:Nat} (h:kC g id n=0):0≤g.at id∧(g.lay id n).Ok:=by
 obtain⟨h1,h2,h3,h4,h5,h6⟩:=Ia h;have hx:=ok.own _ (ok.ou h3);have hb:=ok.Uf;have hl:=lL (ok.ou h3);refine⟨h3,ok.put h3 _ rfl (by show 0≤(g.x id).p+1;omega) (by show(g.x id).b+n≤(g.x id).m;omega) (by show fC g.st-(g.x id).b+((g.x id).b+n)≤g.c.bytes;omega) (by show sumP g.st-(g.x id).p+((g.x id).p+1)≤g.c.aI;omega)⟩
theorem Bq {g:Ga} {id n:Nat} (h:xX g id n=0):0≤g.at id∧(g.x id).p≠0∧n≤(g.x id).b:=by
 unfold xX at h;split at h
 ·omega
 ·split at h
  ·omega
  ·rename_i h1 h2
   refine⟨by omega,fun e=>h2 (.inl e),by omega⟩
theorem out_ok {g:Ga} (ok:g.Ok) {id n:Nat} (h:xX g id n=0):(g.put id ⟨(g.x id).p-1,(g.x id).b-n,(g.x id).m⟩).Ok:=by
 obtain⟨h1,h2,h3⟩:=Bq h;have hx:=ok.own _ (ok.ou h1);have hb:=ok.Uf;have hp:=ok.pks;exact ok.put h1 _ rfl (by show 0≤(g.x id).p-1;omega) (by show(g.x id).b-n≤(g.x id).m;omega) (by show fC g.st-(g.x id).b+((g.x id).b-n)≤g.c.bytes;have:=lL (ok.ou h1);omega) (by show sumP g.st-(g.x id).p+((g.x id).p-1)≤g.c.aI;omega)
set_option maxRecDepth 100000 in
theorem aeh {P:World→Prop} {w:World} {gb:Nat} (id n:Nat) (r:Int) (HM:Calls Tryz.prog 204 #[.pointer (some ⟨gb,0,none⟩),.int .u32 id,.int .u64 n] w fun e w'=>e=.returned (.int .i64 r)∧Kp none' w w')
 (HL:r=0→∀W,Kp none' w W→Calls Tryz.prog 205 #[.pointer (some ⟨gb,0,none⟩),.int .u32 id,.int .u64 n] W fun e w'=>e=.returned (.tuple #[])∧P w') (HO:r≠0→∀W,Kp none' w W→P W):
 Calls Tryz.prog 165 #[.pointer (some ⟨gb,0,none⟩),.int .u32 id,.int .u64 n] w fun e w'=>e=.returned (.int .i64 r)∧P w':=by
 have HM:=ae HM;by_cases h0:r=0
 ·have HL2:=ae (HL h0);clear HO HL;subst h0
  go_enter Tryz.func165,Tryz.ntmps165
  go_wp2_with fail
  refine HM.out.mono ?_;rintro e w1 ⟨rfl,hk1⟩
  go_wp2_with fail
  refine(HL2.out w1 hk1).mono ?_;rintro e w2 ⟨rfl,hm2⟩;have eP:=ae hm2;clear hk1 hm2
  go_wp2_with fail
  go_ret
  exact⟨rfl,eP.out⟩
 ·have h0':(r==0)=false:=by rw[beq_eq_false_iff_ne];exact h0
  have HO:=ae (HO h0);clear HL
  go_enter Tryz.func165,Tryz.ntmps165
  go_wp2_with fail
  refine HM.out.mono ?_;rintro e w1 ⟨rfl,hk1⟩;have ax:=ae (HO.out w1 hk1);clear hk1
  go_wp2_with fail
  go_ret
  exact⟨rfl,ax.out⟩
theorem gIn {w:World} {F:Nat→Prop} {gb:Nat} {g:Ga} (h:jc w F gb g) (id n:Nat) (hid:id<4294967296):
 Calls Tryz.prog 165 #[.pointer (some ⟨gb,0,none⟩),.int .u32 id,.int .u64 n] w fun e w'=>e=.returned (.int .i64 (dN g id n))∧jc w' F gb (tH g id n)∧Kp F w w':=by
 refine aeh (P:=fun w'=>jc w' F gb (tH g id n)∧Kp F w w') id n _ (aee h id n hid) (fun h0 W k=> ?_) (fun h0 W k=> ?_)
 ·obtain⟨h1,h2⟩:=zY h.ok (Ar h0);have e1:tH g id n=g.lay id n:=by unfold tH;rw[if_pos h0]
  rw[e1];exact(aeg (h.old k) id n hid h1 h2).mono fun e w' ⟨a,b,c⟩=>⟨a,b,(k.mono (fun _ _ x=>x.elim)).trans c⟩
 ·have e1:tH g id n=g:=by unfold tH;rw[if_neg h0]
  rw[e1];exact⟨h.old k,k.mono (fun _ _ x=>x.elim)⟩
set_option maxRecDepth 100000 in
theorem aam {w:World} {gb tb:Nat} (id n:Nat) (p:Int) (b m:Nat) (is:Bool) (c13:w.cell? ⟨gb,13,none⟩=some (.pointer (some ⟨tb,0,none⟩)))
 (HG:∀W,Kp none' w W→Calls Tryz.prog 209 #[.pointer (some ⟨tb,0,none⟩),.int .u32 id] W fun e w'=>e=.returned (.tuple #[.agg #[.int .i64 p,.int .u64 b,.int .u64 m],.bool is])∧Kp none' W w') (hno:is=false∨p=0∨b<n):
 Calls Tryz.prog 168 #[.pointer (some ⟨gb,0,none⟩),.int .u32 id,.int .u64 n] w fun e w'=>e=.returned (.int .i64 (if is=false then 13 else 9))∧Kp none' w w':=by
 cases is with
 |false=>
  rw[if_pos rfl];clear hno;have HG:=ae HG
  go_enter Tryz.func168,Tryz.ntmps168
  go_wp2_with fail
  refine(HG.out w (Kp.refl _ _)).mono ?_;rintro e w1 ⟨rfl,hk1⟩;have ax:=ae hk1;clear hk1
  go_wp2_with fail
  go_ret
  exact⟨rfl,ax.out.alloc _⟩
 |true=>
  rw[if_neg (by simp)];by_cases hp:p=0
  ·subst hp;clear hno;have HG:=ae HG
   go_enter Tryz.func168,Tryz.ntmps168
   go_wp2_with fail
   refine(HG.out w (Kp.refl _ _)).mono ?_;rintro e w1 ⟨rfl,hk1⟩;have ax:=ae hk1;clear hk1
   go_wp2_with fail
   go_ret
   exact⟨rfl,ax.out.alloc _⟩
  ·have hp':(p==0)=false:=by rw[beq_eq_false_iff_ne];exact hp
   have hbn:b<n:=by rcases hno with h|h|h;cases h;exact absurd h hp;exact h
   have hbi:(b:Int)<n:=by omega
   clear hno hp;have HG:=ae HG
   go_enter Tryz.func168,Tryz.ntmps168
   go_wp2_with fail
   refine(HG.out w (Kp.refl _ _)).mono ?_;rintro e w1 ⟨rfl,hk1⟩;have ax:=ae hk1;clear hk1
   go_wp2_with fail
   go_ret
   exact⟨rfl,ax.out.alloc _⟩
set_option maxRecDepth 100000 in
theorem acT {w:World} {Ft:Nat→Prop} {gb tb:Nat} {cs:List Value} {E:List (Nat×Th)} (tp:Int) (jG id n:Nat) (p:Int) (b m:Nat) (hid:id<4294967296) (hb:ag w gb cs 308) (h11:cs[11]? =some (.int .i64 tp)) (h12:cs[12]? =some (.int .u64 jG)) (h13:cs[13]? =some (.pointer (some ⟨tb,0,none⟩))) (ht:Tf w Ft tb 64 E) (hn:¬Ft gb) (hx:(id,(⟨p,b,m⟩:Th))∈E)
 (hp:1≤p∧p≤100000) (htp:1≤tp∧tp≤100000) (hnb:n≤b) (hbb:b<18446744073709551616) (hnt:n≤jG) (htb:jG<18446744073709551616):
 Calls Tryz.prog 168 #[.pointer (some ⟨gb,0,none⟩),.int .u32 id,.int .u64 n] w fun e w'=>e=.returned (.int .i64 0)∧ag w' gb ((cs.set 11 (.int .i64 (tp-1))).set 12 (.int .u64 ((jG:Int)-n))) 308∧Tf w' Ft tb 64 (eQ.Ap id ⟨p-1,b-n,m⟩ E)∧Kp (fun z=>z=gb∨Ft z) w w':=by
 have HG:=ae (fun W (k:Kp none' w W)=>eQ.XD (ht.old k) id hid ⟨p,b,m⟩ hx);have QV:=ae (fun W (k:Tf W Ft tb 64 E)=>eQ.abC k id hid ⟨p-1,b-n,m⟩ ⟨p,b,m⟩ hx);have hbc:((b-n:Nat):Int)=(b:Int)-n:=by omega
 simp only[eQ.en,hbc]at QV;have HT:=ae ht;have HB:=ae hb;have HN:=ae hn;have XL:=ae h11;have XM:=ae h12;have XN:=ae h13;clear ht hb hn hx h11 h12 h13 hbc;have hw1:IntKind.u64.wrap ((b:Int)-n)=(b:Int)-n:=by rw[IntKind.wrap_u64];omega
 have c13:=HB.out.cell 13 XN.out;have hp0:(p==0)=false:=by rw[beq_eq_false_iff_ne];omega
 have hbn:¬(b:Int)<n:=by omega
 go_enter Tryz.func168,Tryz.ntmps168
 go_wp2_with fail
 refine(HG.out w (Kp.refl _ _)).mono ?_;rintro e w1 ⟨rfl,hk1⟩;have HB1:=ae (HB.out.kp hk1 (fun x=>x));have HT1:=ae (HT.out.old hk1);have ax:=ae hk1;clear hk1 c13
 go_wp2_with fail
 refine(XI p b n (by omega) (by omega) (by omega) _).mono ?_;rintro e w2 ⟨rfl,hk2⟩;have qA:=ae ((ag.new w1 [.int .i64 p,.int .u64 b,.int .u64 m] 305).kp hk2 (fun x=>x));have Aq:=((Kp.refl none' w1).alloc (.cells #[.int .i64 p,.int .u64 b,.int .u64 m] 305)).trans hk2;have HB2:=ae (HB1.out.kp Aq (fun x=>x));have HT2:=ae (HT1.out.old Aq);have ak:=ae (ax.out.trans Aq);have hyl:w1.heap.size<w2.heap.size:=qA.out.lt;have hy0:w.heap.size≤w1.heap.size:=ax.out.size;clear hk2 Aq;obtain⟨y,hy⟩:∃y,w1.heap.size=y:=⟨_,rfl⟩
 rw[hy]at qA hyl hy0 ⊢;have y0:=qA.out.cell 0 rfl;have y1:=qA.out.cell 1 rfl;have yf:=fun j=>qA.out.fz j
 clear hy
 go_wp2_with fail
 have XO:y≠gb:=fun e=>iV qA.out HB2.out (by decide) e
 have XP:¬Ft y:=fun e=>by have:=HT.out.lt e;omega
 have yH:=ae ((qA.out.set 0 (.int .i64 (p-1))).set 1 (.int .u64 ((b:Int)-n)));have hks:Kp (fun z=>z=y) w2 ((w2.setCell ⟨y,0,none⟩ (.int .i64 (p-1))).setCell ⟨y,1,none⟩ (.int .u64 ((b:Int)-n))):=((Kp.refl (fun z=>z=y) w2).set (p:=⟨y,0,none⟩) (.inl rfl) _).set (p:=⟨y,1,none⟩) (.inl rfl) _;have HB3:=ae (HB2.out.kp hks (fun e=>XO e.symm));have HT3:=ae (HT2.out.kp hks (fun z hz e=>XP (by rw[←e];exact hz)));have aF:Hid (Kp none' w _):=ae (ak.out.then hks (fun z hz e=>by omega));clear hks y0 y1 yf;generalize (w2.setCell ⟨y,0,none⟩ (.int .i64 (p-1))).setCell ⟨y,1,none⟩ (.int .u64 ((b:Int)-n))=W3 at*;have z0:=yH.out.cell 0 rfl;have z1:=yH.out.cell 1 rfl;have z2:=yH.out.cell 2 rfl;have b13:=HB3.out.cell 13 XN.out;refine af [] [0,1,2,3,4,5] 6 (by kernel_rfl) (by kernel_rfl) (fun c a d u w h=>by cases d<;>exact h) ?_;simp only[pick,bn];show aA _ _ _ _ _ _
 repeat((first
  |refine ah (by exact rfl) (by as_aux_lemma=>intro W hK;have e0:=hK.cell z0 (fun x=>x);have e1:=hK.cell z1 (fun x=>x);have e2:=hK.cell z2 (fun x=>x);have e3:=hK.cell b13 (fun x=>x);go_simp;exact rfl) ?_
  |refine ai (by exact rfl) ?_);simp only[Act.put,aY])
 show ∀W,_→wpList _ _ _ _ _ _
 intro W4 hK4;have HB4:=ae (HB3.out.kp hK4 (fun x=>x));have HT4:=ae (HT3.out.old hK4);have aH:=ae (aF.out.trans hK4);clear hK4 z0 z1 z2 b13
 go_wp2_with fail
 refine(QV.out W4 HT4.out).mono ?_;rintro e w5 ⟨rfl,MP,hk5⟩;have d_:=ae (HB4.out.kp hk5 HN.out);have oN:=ae MP;have a_:Hid (Kp Ft w w5):=ae ((aH.out.mono (fun _ _ x=>x.elim)).trans hk5);clear MP hk5;have b11:=d_.out.cell 11 XL.out;have b12:=d_.out.cell 12 XM.out
 go_wp2_with fail
 refine(XI tp jG n (by omega) (by omega) (by omega) _).mono ?_;rintro e w6 ⟨rfl,hk6⟩;have bV:=ae (d_.out.kp hk6 (fun x=>x));have yJ:=ae (oN.out.old hk6);have b_:Hid (Kp Ft w w6):=ae (a_.out.trans (hk6.mono (fun _ _ x=>x.elim)));clear hk6 b11 b12;have b11:=bV.out.cell 11 XL.out;have b12:=bV.out.cell 12 XM.out;have bf:=fun j=>bV.out.fz j
 go_wp2_with fail
 go_ret
 have hks:Kp (fun z=>z=gb) w6 ((w6.setCell ⟨gb,11,none⟩ (.int .i64 (tp-1))).setCell ⟨gb,12,none⟩ (.int .u64 ((jG:Int)-n))):=((Kp.refl (fun z=>z=gb) w6).set (p:=⟨gb,11,none⟩) (.inl rfl) _).set (p:=⟨gb,12,none⟩) (.inl rfl) _;refine⟨rfl,(bV.out.set 11 _).set 12 _,(yJ.out.kp hks (fun z hz e=>HN.out (by rw[←e];exact hz))),?_⟩;exact(b_.out.mono (fun z _ hz=>.inr hz)).trans (hks.mono (fun z _ hz=>.inl hz))
theorem aei {w:World} {F:Nat→Prop} {gb:Nat} {g:Ga} (h:jc w F gb g) (id n:Nat) (hid:id<4294967296):
 Calls Tryz.prog 168 #[.pointer (some ⟨gb,0,none⟩),.int .u32 id,.int .u64 n] w fun e w'=>e=.returned (.int .i64 (xX g id n))∧jc w' F gb (l9 g id n)∧Kp F w w':=by
 obtain⟨Ft,tb,rfl,hb,ht,hn,ok⟩:=h;by_cases h0:xX g id n=0
 ·obtain⟨h1,h2,h3⟩:=Bq h0;have hok:=out_ok ok h0;have e1:l9 g id n=g.put id ⟨(g.x id).p-1,(g.x id).b-n,(g.x id).m⟩:=by unfold l9;rw[if_pos h0]
  rw[e1,h0];have hmem:=(EX ok.len ok.nod.1 id).1 h1;have hst:=MO ok h1 ⟨(g.x id).p-1,(g.x id).b-n,(g.x id).m⟩;have hxb:=ok.own _ (ok.ou h1);have hpl:=Am (fun y hy=>(ok.own y hy).1) (ok.ou h1);have hbl:=lL (ok.ou h1);obtain⟨h4,h5⟩:=ok.yS h1;have hsP:sumP (g.put id ⟨(g.x id).p-1,(g.x id).b-n,(g.x id).m⟩).st=sumP g.st-1:=by
   show sumP (g.st.set _ _)=_;rw[tJ _ _ _ h4,←h5];simp only;omega
  have hsB:fC (g.put id ⟨(g.x id).p-1,(g.x id).b-n,(g.x id).m⟩).st+n=fC g.st:=by
   have:=Bo g.st (g.at id).toNat ⟨(g.x id).p-1,(g.x id).b-n,(g.x id).m⟩ h4;rw[←h5]at this;show fC (g.st.set _ _)+n=_;simp only at this;omega
  have hlp:sumP g.st≤4096:=by have:=ok.pks;have:=ok.EW;omega
  have hby:=ok.Ue.bytes;have hbt:=ok.Uf;unfold yB at hby;refine(acT (sumP g.st) (fC g.st) id n (g.x id).p (g.x id).b (g.x id).m hid hb rfl rfl rfl ht hn hmem ⟨by omega,by omega⟩ ⟨by omega,by omega⟩ h3 (by omega) (by omega) (by omega)).mono ?_;rintro e w' ⟨he,h7,h8,h9⟩;refine⟨he,⟨Ft,tb,rfl,?_,by rw[hst]at h8;exact h8,hn,hok⟩,h9⟩;have e:gC (g.put id ⟨(g.x id).p-1,(g.x id).b-n,(g.x id).m⟩) tb=(((gC g tb).set 11 (.int .i64 (sumP g.st-1))).set 12 (.int .u64 ((fC g.st:Int)-n))):=by
   unfold gC;have e2:((fC (g.put id ⟨(g.x id).p-1,(g.x id).b-n,(g.x id).m⟩).st:Nat):Int)=(fC g.st:Int)-n:=by omega
   rw[hsP,e2];simp[Ga.put]
  rw[e];exact h7
 ·have e1:l9 g id n=g:=by unfold l9;rw[if_neg h0]
  rw[e1];obtain⟨p,b,m,hx,hbm,hm,hG⟩:=yT ht ok id hid;have hno:decide (0≤g.at id)=false∨p=0∨b<n:=by
   by_cases ha:0≤g.at id
   ·right
    obtain⟨rfl,rfl,_⟩:=hx ha;unfold xX at h0;rw[if_neg (by omega)]at h0;exact Classical.byContradiction fun hc=>h0 (if_neg hc)
   ·left;exact decide_eq_false ha
  have he:(if decide (0≤g.at id)=false then(13:Int)else 9)=xX g id n:=by
   unfold xX;by_cases ha:0≤g.at id
   ·rw[decide_eq_true ha,if_neg (by simp),if_neg (show ¬g.at id<0 by omega),if_pos];unfold xX at h0;rw[if_neg (by omega)]at h0;exact Classical.byContradiction fun hc=>h0 (if_neg hc)
   ·rw[decide_eq_false ha,if_pos rfl,if_pos (show g.at id<0 by omega)]
  rw[←he];refine(aam id n p b m _ (hb.cell 13 rfl) hG hno).mono ?_;rintro e w' ⟨he,hk⟩;exact⟨he,⟨Ft,tb,rfl,hb.kp hk (fun x=>x),ht.old hk,hn,ok⟩,hk.mono (fun _ _ x=>x.elim)⟩
def tK (f:iW):Th:=⟨0,0,f.cap⟩
def yU (c:mF):Ga:=⟨c,c.aS.map tK⟩
theorem Un (l:List iW):kz l (l.map tK)=l.map (fun f=>(f.id,tK f)):=by
 unfold kz;induction l with
 |nil=>rfl
 |cons a r ih=>simp only[List.map_cons,List.zip_cons_cons,ih]
theorem Bv (l:List iW):sumP (l.map tK)=0:=by
 unfold sumP;induction l with
 |nil=>rfl
 |cons a r ih=>simp only[List.map_cons,List.sum_cons,ih];rfl
theorem Ib (l:List iW):fC (l.map tK)=0:=by
 unfold fC;induction l with
 |nil=>rfl
 |cons a r ih=>simp only[List.map_cons,List.sum_cons,ih];rfl
theorem Ic {c:mF} (hc:c.ok) (h:kS c=0):(yU c).Ok:=
 ⟨hc,h,by show(c.aS.map tK).length=c.aS.length;rw[List.length_map],fun i x f h1 h2=>by
  rw[show(yU c).st=c.aS.map tK from rfl,List.getElem?_map]at h1;rw[show(yU c).c.aS=c.aS from rfl]at h2;rw[h2]at h1;injection h1 with h1;rw[←h1];rfl,fun x hx=>by
  obtain⟨f,_,rfl⟩:=List.mem_map.1 hx;exact⟨Int.le_refl _,Nat.zero_le _⟩,by show fC (c.aS.map tK)≤_;rw[Ib];exact Nat.zero_le _,by
  show sumP (c.aS.map tK)≤c.aI;rw[Bv];unfold kS at h;split at h
  ·omega
  ·omega⟩
structure XQ (w wr:World) (cs:List Value) (tb:Nat) (l:List iW) (k:Nat) (F:Nat→Prop):Prop where
 tab:∃E,Tf wr F tb 64 E∧E.Perm ((l.take k).map (fun f=>(f.id,tK f)))
 cfg:ag wr w.heap.size cs 25
 new:∀b,F b→w.heap.size<b
 kp:Kp none' w wr
theorem XQ.step {w wr W w1:World} {cs:List Value} {tb k:Nat} {l:List iW} {F F':Nat→Prop} {E:List (Nat×Th)} (h:XQ w wr cs tb l k F) (hW:Kp none' wr W) (ht:Tf w1 F' tb 64 E) (hk:k<l.length) (hE:E.Perm ((l[k].id,tK l[k])::(l.take k).map (fun f=>(f.id,tK f)))) (hk1:Kp F W w1) (hn:Nw W F F'):XQ w w1 cs tb l (k+1) F':=by
 have h1:=h.cfg.lt;have h2:=hW.size;have h3:=h.kp.size;refine⟨⟨E,ht,hE.trans ?_⟩,(h.cfg.kp hW (fun x=>x)).kp hk1 (fun x=>by have:=h.new _ x;omega),fun b hb=> ?_,(h.kp.trans hW).then hk1 (fun b hb x=>by have:=h.new b x;omega)⟩
 ·rw[List.take_succ_eq_append_getElem hk,List.map_append];exact List.perm_append_comm (l₁:=[(l[k].id,tK l[k])])
 ·rcases hn b hb with h4|h4
  ·exact h.new b h4
  ·omega
set_option maxRecDepth 100000 in
theorem aej (c:mF) (hc:c.ok) (hE:kS c=0) (v:Value) (w:World) (h:Sl w v c.aS.length 5 (c.aS.flatMap gU)):Calls Tryz.prog 90 #[.agg (lC c v).toArray] w fun e w'=>∃gb F,e=.returned (.tuple #[.pointer (some ⟨gb,0,none⟩),.int .i64 0])∧jc w' F gb (yU c)∧(∀b,F b→w.heap.size≤b)∧Kp none' w w':=by
 have HAD:=ae (fun W (k:Kp none' w W)=>by have:=abd c hc v W (h.old k);rw[hE]at this;exact this);have oI:=ae (Ic hc hE);obtain⟨ao,cap,rfl⟩:∃ao cap,v=.slice ao c.aS.length cap:=by obtain⟨ao,cap,rfl,_⟩:=h.is;exact⟨_,_,rfl⟩
 have hfl:c.aS.length≤64∧(c.aS.map (·.id)).Nodup:=by
  have:=oI.out.EW.2.2.2.2.2.2;unfold iF at this;split at this
  ·cases this
  ·split at this
   ·rename_i h2;rename_i h3;exact⟨by have e:(yU c).c.aS=c.aS:=rfl;rw[e]at h3;omega,h2⟩
   ·cases this
 have VG:=hfl.1;have Vz:=ae hfl.2;have aek:Hid (∀f∈c.aS,f.id<4294967296):=ae (fun f hf=>(hc.aS f hf).id);have HS:=ae h;have HB0:=ae (ag.new w (lC c (.slice ao c.aS.length cap)) 25);have aB:=ae ((Kp.refl none' w).alloc (.cells (lC c (.slice ao c.aS.length cap)).toArray 25));refine ay ?_;intro PP HP;clear h hE hfl hc;obtain⟨rk,bk,lv,qu,pk,bt,sh,mt,rt,bu,fl⟩:=c;simp only[lC]at*
 go_enter Tryz.func90,Tryz.ntmps90
 go_wp2_with fail
 refine(HAD.out _ aB.out).mono ?_;rintro e w1 ⟨rfl,hk1⟩;have HB1:=ae (HB0.out.kp hk1 (fun x=>x));have ax:=ae (aB.out.trans hk1);clear hk1 HB0 aB HAD
 go_wp2_with fail
 refine(eQ.aed 64 (by decide) (by decide) w1).mono ?_;rintro e w2 ⟨F,tb,rfl,ht,hF,hk2⟩;have hb2:=HB1.out.kp hk2 (fun x=>x);have uq:=hb2.cell 10 rfl;have hs1:=HB1.out.lt;have HI0:Hid (XQ w w2 [.int .i64 rk,.int .i64 bk,.int .i64 lv,.int .i64 qu,.int .i64 pk,.int .u64 bt,.int .i64 sh,.int .u64 mt,.int .u64 rt,.int .u64 bu,.slice ao fl.length cap] tb fl 0 F):=
  ae ⟨⟨[],ht,by simp⟩,hb2,fun b hb=>by have:=hF b hb;omega,ax.out.trans hk2⟩
 clear ht hF hk2 hb2
 go_wp2_with fail
 clear uq
 go_loopw [21] (fun i0 wr=>∃(k:Nat) (F:Nat→Prop),i0=.int .i64 k∧k≤fl.length∧Hid (XQ w wr [.int .i64 rk,.int .i64 bk,.int .i64 lv,.int .i64 qu,.int .i64 pk,.int .u64 bt,.int .i64 sh,.int .u64 mt,.int .u64 rt,.int .u64 bu,.slice ao fl.length cap] tb fl k F)) (fun i0 _=>fl.length-(intOf i0).toNat)
 case atStart=>exact⟨0,_,rfl,Nat.zero_le _,HI0⟩
 case round=>
  clear HI0;obtain⟨k,F,rfl,hk,hr⟩:=hrel;by_cases hlt:k<fl.length
  ·have hki:(k:Int)<fl.length:=by omega
   obtain⟨gx,ox,cx,e1,hcx⟩:=(HS.out.old hr.out.kp).at mD (by decide) k hlt;injection e1 with e1 _ e3
   subst e1 e3
   have BR:=ae (fun(E:List (Nat×Th)) (W:World) (k0:Kp none' wr W) (hT:Tf wr F tb 64 E) (hp:E.Perm ((fl.take k).map (fun f=>(f.id,tK f))))=>eQ.XC (hT.kp k0 (fun _ _ x=>x)) fl[k].id (aek.out _ (List.getElem_mem hlt)) (tK fl[k]) (fun y hy=>by
    have h1:=(hp.mem_iff.1 hy);obtain⟨f,hf,he⟩:=List.mem_map.1 h1;simp only[Prod.mk.injEq]at he;obtain⟨i,hi,rfl⟩:=List.getElem_of_mem hf;rw[List.length_take]at hi;have hn:=List.pairwise_iff_getElem.1 Vz.out i k (by rw[List.length_map];omega) (by rw[List.length_map];exact hlt) (by omega);simp only[List.getElem_map]at hn;rw[List.getElem_take]at he
    exact hn he.1) (by have:=hp.length_eq;rw[List.length_map,List.length_take]at this;omega))
   have PG:=ae (fun(E:List (Nat×Th)) (W w1:World) (F':Nat→Prop) (k0:Kp none' wr W) (ht:Tf w1 F' tb 64 ((fl[k].id,tK fl[k])::E)) (hp:E.Perm ((fl.take k).map (fun f=>(f.id,tK f)))) (h1:Kp F W w1) (h2:Nw W F F')=>hr.out.step k0 ht hlt (hp.cons _) h1 h2);obtain⟨f,hf⟩:∃f,fl[k]=f:=⟨_,rfl⟩
   simp only[hf]at hcx BR PG;have d0:=hcx 0 _ rfl;have d1:=hcx 1 _ rfl;have d2:=hcx 2 _ rfl;have d3:=hcx 3 _ rfl;have d4:=hcx 4 _ rfl;simp only[Nat.add_zero]at d0;have ak:=ae ((Kp.refl none' wr).alloc (.cells #[.int .u32 f.id,.int .u64 f.cost,.int .u64 f.budget,.int .u64 f.size,.int .u64 f.cap] 197));clear hcx hf;obtain⟨E,hT,hP⟩:=hr.out.tab;have Y5:=ae (BR.out E _ ak.out hT hP);have tN:=ae (fun w1 F' ht h1 h2=>PG.out E _ w1 F' ak.out ht hP h1 h2);clear hT hP BR PG;simp only[eQ.en,tK]at Y5
   go_wp2_with fail
   refine Y5.out.mono ?_;rintro e w5 ⟨rfl,F',MP,hk5,O4⟩;have HN:=ae (tN.out w5 F' MP hk5 O4);clear MP hk5 O4 Y5 tN d0 d1 d2 d3 d4
   go_wp2_with fail
   go_roundw
   case rel=>exact⟨k+1,_,by go_num,by omega,HN⟩
   case measure=>simp[intOf];omega
  ·obtain rfl:k=fl.length:=by omega
   have h0:=hr.out.cfg.cell 0 rfl;have h1:=hr.out.cfg.cell 1 rfl;have h2:=hr.out.cfg.cell 2 rfl;have h3:=hr.out.cfg.cell 3 rfl;have h4:=hr.out.cfg.cell 4 rfl;have h5:=hr.out.cfg.cell 5 rfl;have h6:=hr.out.cfg.cell 6 rfl;have h7:=hr.out.cfg.cell 7 rfl;have h8:=hr.out.cfg.cell 8 rfl;have h9:=hr.out.cfg.cell 9 rfl;have h10:=hr.out.cfg.cell 10 rfl;have hz:=hr.out.cfg.fz 10
   go_wp2_with fail
   obtain⟨E,hT,hP⟩:=hr.out.tab;have hTf:Tf wr F tb 64 (kz fl (fl.map tK)):=by
    rw[Un];rw[List.take_of_length_le (Nat.le_refl _)]at hP;obtain⟨sb,S,n,a,b,c,d⟩:=hT;exact⟨sb,S,n,a,b,c,d.trans hP⟩
   have hks:Kp (fun b=>b=w.heap.size) wr (wr.setCell ⟨w.heap.size,10,none⟩ (.slice none 0 0)):=(Kp.refl (fun b=>b=w.heap.size) wr).set (p:=⟨w.heap.size,10,none⟩) (.inl rfl) _;have hsz:(wr.setCell ⟨w.heap.size,10,none⟩ (.slice none 0 0)).heap.size=wr.heap.size:=by simp[World.setCell]
   have hka:=(Kp.refl none' (wr.setCell ⟨w.heap.size,10,none⟩ (.slice none 0 0))).alloc (.cells #[.int .i64 rk,.int .i64 bk,.int .i64 lv,.int .i64 qu,.int .i64 pk,.int .u64 bt,.int .i64 sh,.int .u64 mt,.int .u64 rt,.int .u64 bu,.slice none 0 0,.int .i64 0,.int .u64 0,.pointer (some ⟨tb,0,none⟩)] 308);have hbn:=ag.new (wr.setCell ⟨w.heap.size,10,none⟩ (.slice none 0 0)) [.int .i64 rk,.int .i64 bk,.int .i64 lv,.int .i64 qu,.int .i64 pk,.int .u64 bt,.int .i64 sh,.int .u64 mt,.int .u64 rt,.int .u64 bu,.slice none 0 0,.int .i64 0,.int .u64 0,.pointer (some ⟨tb,0,none⟩)] 308;rw[hsz]at hbn;have hle:=hr.out.kp.size;refine HP.out _ _ ⟨wr.heap.size,fun b=>b=wr.heap.size∨F b,rfl,⟨F,tb,rfl,?_,(hTf.kp hks (fun b hb e=>by have:=hr.out.new b hb;omega)).kp hka (fun _ _ x=>x),fun hF=> ?_,oI.out⟩,fun b hb=> ?_,(hr.out.kp.then hks (fun b hb e=>by omega)).trans hka⟩
   ·unfold gC yU;simp only[Bv,Ib];exact hbn
   ·have:=hTf.lt hF;omega
   ·rcases hb with rfl|hb
    ·exact hle
    ·have:=hr.out.new b hb;omega
end Go.Proofs.YtjiehhlghjnfhaaGreatDoor
namespace Go.Proofs.YtjiehhlghjnfhaaGreatDoor
open Go Go.RowKit Go.Shelf
def Rk.at (r:Rk) (id:Nat):Nat:=(findF r.fl id).toNat
def Rk.tag (r:Rk) (id:Nat):Nat:=r.tags.getD (r.at id) 0
def Rk.f (r:Rk) (id:Nat):iW:=r.fl.getD (r.at id) default
def Rk.setTag (r:Rk) (id t:Nat):Rk:= {r with tags:=r.tags.set (r.at id) t}
def eu (r:Rk) (now id n:Nat):Nat×Rk:=
 if r.kind=1 then(max r.jA (r.tag id),r.setTag id (dS (max r.jA (r.tag id)) (lX (r.f id).cost n)))
 else if r.kind=2 then(dS now (r.f id).budget,r)else(r.tag id,r.setTag id (r.tag id-n))
def mX (r:Rk) (rank:Nat):Rk:=if r.kind=1 then {r with jA:=rank}else r
theorem Rk.Ok.setTag {r:Rk} (h:r.Ok) (id t:Nat) (ht:t<18446744073709551616):(r.setTag id t).Ok:=
 ⟨h.kind,by show(r.tags.set _ _).length=_;rw[List.length_set];exact h.len,h.few,h.fok,fun x hx=>by
  rcases List.mem_or_eq_of_mem_set hx with h1|h1
  ·exact h.tok x h1
  ·rw[h1];exact ht,h.VZ⟩
theorem Rk.Ok.tag {r:Rk} (h:r.Ok) (id:Nat):r.tag id<18446744073709551616:=by
 unfold Rk.tag;rw[List.getD_eq_getElem?_getD];by_cases hl:r.at id<r.tags.length
 ·rw[List.getElem?_eq_getElem hl];exact h.tok _ (List.getElem_mem hl)
 ·rw[List.getElem?_eq_none (by omega)];simp
set_option maxRecDepth 100000 in
theorem aan {w:World} {rb:Nat} {cs:List Value} (kind:Int) (x:Nat) (hb:ag w rb cs 312) (h0:cs[0]? =some (.int .i64 kind)) (h3:∃u,cs[3]? =some u):
 Calls Tryz.prog 169 #[.pointer (some ⟨rb,0,none⟩),.int .u64 x] w fun e w'=>e=.returned (.tuple #[])∧ag w' rb (if kind=1 then cs.set 3 (.int .u64 x)else cs) 312∧Kp (fun b=>b=rb) w w':=by
 obtain⟨u,h3⟩:=h3;have c0:=hb.cell 0 h0;have c3:=hb.cell 3 h3;have cf:=hb.fz 3;have HB:=ae hb;clear hb h0 h3;by_cases h:kind=1
 ·have h':(kind==1)=true:=by rw[beq_iff_eq];exact h
  rw[if_pos h];clear h
  go_enter Tryz.func169,Tryz.ntmps169
  go_wp2
  go_end0
  exact⟨rfl,HB.out.set 3 _,(Kp.refl (fun b=>b=rb) w).set (p:=⟨rb,3,none⟩) (.inl rfl) _⟩
 ·have h':(kind==1)=false:=by rw[beq_eq_false_iff_ne];exact h
  rw[if_neg h];clear h
  go_enter Tryz.func169,Tryz.ntmps169
  go_wp2
  go_end0
  exact⟨rfl,HB.out,Kp.refl _ _⟩
theorem acU {w:World} {F:Nat→Prop} {rb:Nat} {r:Rk} (h:lH w F rb r) (x:Nat) (hx:x<18446744073709551616):
 Calls Tryz.prog 169 #[.pointer (some ⟨rb,0,none⟩),.int .u64 x] w fun e w'=>e=.returned (.tuple #[])∧lH w' F rb (mX r x)∧Kp F w w':=by
 obtain⟨v1,v2,rfl,hb,h1,h2,ok⟩:=h;refine(aan r.kind x hb rfl ⟨_,rfl⟩).mono ?_;rintro e w' ⟨he,hb',hk⟩;have n1:=az h1 hb (by decide);have n2:=az h2 hb (by decide);refine⟨he,?_,hk.mono (fun b _ e=>.inl e)⟩;unfold mX;by_cases hc:r.kind=1
 ·rw[if_pos hc]at hb' ⊢;exact⟨v1,v2,rfl,hb',aK h1 hk (fun b hb e=>n1 (by rw[hb,e])),aK h2 hk (fun b hb e=>n2 (by rw[hb,e])),⟨ok.kind,ok.len,ok.few,ok.fok,ok.tok,hx⟩⟩
 ·rw[if_neg hc]at hb' ⊢;exact⟨v1,v2,rfl,hb',aK h1 hk (fun b hb e=>n1 (by rw[hb,e])),aK h2 hk (fun b hb e=>n2 (by rw[hb,e])),ok⟩
set_option maxRecDepth 100000 in
theorem aao {w:World} {rb:Nat}
 (g1 g2 cap1 cap2 m1 m2 q:Nat) (kind:Int) (jA tag cost budget now id n:Nat) (c0:w.cell? ⟨rb,0,none⟩=some (.int .i64 kind)) (c1:w.cell? ⟨rb,1,none⟩=some (.slice (some ⟨g1,0,none⟩) m1 cap1)) (c2:w.cell? ⟨rb,2,none⟩=some (.slice (some ⟨g2,0,none⟩) m2 cap2)) (c3:w.cell? ⟨rb,3,none⟩=some (.int .u64 jA)) (ct:w.cell? ⟨g2,q,none⟩=some (.int .u64 tag)) (cc:w.cell? ⟨g1,q*5+1,none⟩=some (.int .u64 cost)) (cb:w.cell? ⟨g1,q*5+2,none⟩=some (.int .u64 budget)) (hq1:q<m1) (hq2:q<m2) (hm:m1≤64∧m2≤64) (htf:w.frozen? ⟨g2,q,none⟩=false)
 (HI:∀W y,Kp none' w W→W.cell? ⟨y,0,none⟩=some (.int .u32 id)→Calls Tryz.prog 206 #[.slice (some ⟨g1,0,none⟩) m1 cap1,.func (.func 207) #[] #[.pointer (some ⟨y,0,none⟩)]] W fun e w'=>e=.returned (.int .i64 q)∧Kp none' W w')
 (hk:kind=2) (hn:now<18446744073709551616) (hbu:budget<18446744073709551616):
  Calls Tryz.prog 166 #[.pointer (some ⟨rb,0,none⟩),.int .u64 now,.int .u32 id,.int .u64 n] w fun e w'=>e=.returned (.tuple #[.int .u64 (dS now budget),.int .i64 0])∧Kp none' w w':=by
 subst hk;have HS:=ae (fun W=>QF now budget hn hbu W);generalize dS now budget=R at*;have HI:=ae (fun W (k:Kp none' w W) (y:W.cell? ⟨w.heap.size,0,none⟩=some (.int .u32 (id:Int)))=>HI W w.heap.size k y);have hqi:(q:Int)<m1:=by omega
 have hqj:(q:Int)<m2:=by omega
 clear hn hbu htf;have hrl:rb<w.heap.size:=World.block_lt_of_cell? _ _ c0
 go_enter Tryz.func166,Tryz.ntmps166
 go_wp2_with fail
 refine(HI.out _ ((Kp.refl none' w).alloc _) ?_).mono ?_
 ·exact(ag.new w [.int .u32 id] 42).cell 0 rfl
 rintro e w1 ⟨rfl,hk0⟩;have hk1:=((Kp.refl none' w).alloc (.cells #[.int .u32 (id:Int)] 42)).trans hk0;have ax:=ae hk1;have d0:=hk1.cell c0 (fun x=>x);have d1:=hk1.cell c1 (fun x=>x);have d2:=hk1.cell c2 (fun x=>x);have d3:=hk1.cell c3 (fun x=>x);have dt:=hk1.cell ct (fun x=>x);have dc:=hk1.cell cc (fun x=>x);have db:=hk1.cell cb (fun x=>x);clear hk0 hk1 c0 c1 c2 c3 ct cc cb
 go_wp2_with fail
 refine(HS.out _).mono ?_;rintro e w3 ⟨rfl,rfl⟩
 go_wp2_with fail
 go_ret2
 exact⟨rfl,ax.out⟩
set_option maxRecDepth 100000 in
theorem aap {w:World} {rb:Nat}
 (g1 g2 cap1 cap2 m1 m2 q:Nat) (kind:Int) (jA tag cost budget now id n:Nat) (c0:w.cell? ⟨rb,0,none⟩=some (.int .i64 kind)) (c1:w.cell? ⟨rb,1,none⟩=some (.slice (some ⟨g1,0,none⟩) m1 cap1)) (c2:w.cell? ⟨rb,2,none⟩=some (.slice (some ⟨g2,0,none⟩) m2 cap2)) (c3:w.cell? ⟨rb,3,none⟩=some (.int .u64 jA)) (ct:w.cell? ⟨g2,q,none⟩=some (.int .u64 tag)) (cc:w.cell? ⟨g1,q*5+1,none⟩=some (.int .u64 cost)) (cb:w.cell? ⟨g1,q*5+2,none⟩=some (.int .u64 budget)) (hq1:q<m1) (hq2:q<m2) (hm:m1≤64∧m2≤64) (htf:w.frozen? ⟨g2,q,none⟩=false)
 (HI:∀W y,Kp none' w W→W.cell? ⟨y,0,none⟩=some (.int .u32 id)→Calls Tryz.prog 206 #[.slice (some ⟨g1,0,none⟩) m1 cap1,.func (.func 207) #[] #[.pointer (some ⟨y,0,none⟩)]] W fun e w'=>e=.returned (.int .i64 q)∧Kp none' W w')
 (hk:kind=3) (ht:tag<18446744073709551616):
  Calls Tryz.prog 166 #[.pointer (some ⟨rb,0,none⟩),.int .u64 now,.int .u32 id,.int .u64 n] w fun e w'=>e=.returned (.tuple #[.int .u64 tag,.int .i64 0])∧∃W,Kp none' w W∧w'=W.setCell ⟨g2,q,none⟩ (.int .u64 (tag-n:Nat)):=by
 subst hk;have HS:=ae (fun W=>adI tag n ht W)
 have HZ:Hid (∀W,Kp none' w W→W.frozen? ⟨g2,q,none⟩=false):=ae (fun W k=>by
  have hlt:=World.block_lt_of_cell? _ _ ct;have:=k.block g2 hlt (fun x=>x);unfold World.frozen? at htf ⊢
  simp only[this];exact htf)
 obtain⟨R,hR⟩:∃R,tag-n=R:=⟨_,rfl⟩
 rw[hR]at HS ⊢;have HI:=ae (fun W (k:Kp none' w W) (y:W.cell? ⟨w.heap.size,0,none⟩=some (.int .u32 (id:Int)))=>HI W w.heap.size k y);have hqi:(q:Int)<m1:=by omega
 have hqj:(q:Int)<m2:=by omega
 clear ht hR htf;have hrl:rb<w.heap.size:=World.block_lt_of_cell? _ _ c0
 go_enter Tryz.func166,Tryz.ntmps166
 go_wp2_with fail
 refine(HI.out _ ((Kp.refl none' w).alloc _) ?_).mono ?_
 ·exact(ag.new w [.int .u32 id] 42).cell 0 rfl
 rintro e w1 ⟨rfl,hk0⟩;have hk1:=((Kp.refl none' w).alloc (.cells #[.int .u32 (id:Int)] 42)).trans hk0;have ax:=ae hk1;have d0:=hk1.cell c0 (fun x=>x);have d1:=hk1.cell c1 (fun x=>x);have d2:=hk1.cell c2 (fun x=>x);have d3:=hk1.cell c3 (fun x=>x);have dt:=hk1.cell ct (fun x=>x);have dc:=hk1.cell cc (fun x=>x);have db:=hk1.cell cb (fun x=>x);clear hk0 hk1 c0 c1 c2 c3 ct cc cb
 go_wp2_with fail
 refine af [] [0,1,2,3,4,5,6,7] 8 (by kernel_rfl) (by kernel_rfl) (fun c a d u w h=>by cases d<;>exact h) ?_;simp only[pick,bn];show aA _ _ _ _ _ _
 repeat((first
  |refine ah (by exact rfl) (by as_aux_lemma=>intro W hK;have e0:=hK.cell d2 (fun x=>x);have e1:=hK.cell dt (fun x=>x);go_simp;exact rfl) ?_
  |refine ai (by exact rfl) ?_
  |refine au (by exact rfl) (by as_aux_lemma=>intro W;go_simp;exact⟨rfl,rfl⟩) (by intro W hK;with_reducible first|exact(HS.out W).mono fun _ _ h=>⟨h.1,h.2▸Kp.refl _ _⟩) ?_);simp only[Act.put,aY])
 show ∀W,_→wpList _ _ _ _ _ _
 intro W3 hK3;have aF:=ae (ax.out.trans hK3);have f0:=hK3.cell dt (fun x=>x);have fz:=HZ.out W3 aF.out;clear hK3 d0 d1 d2 d3 dt dc db
 go_wp2_with fail
 go_ret2
 exact⟨rfl,_,aF.out,rfl⟩
set_option maxRecDepth 100000 in
theorem aaq {w:World} {rb:Nat}
 (g1 g2 cap1 cap2 m1 m2 q:Nat) (kind:Int) (jA tag cost budget now id n:Nat) (c0:w.cell? ⟨rb,0,none⟩=some (.int .i64 kind)) (c1:w.cell? ⟨rb,1,none⟩=some (.slice (some ⟨g1,0,none⟩) m1 cap1)) (c2:w.cell? ⟨rb,2,none⟩=some (.slice (some ⟨g2,0,none⟩) m2 cap2)) (c3:w.cell? ⟨rb,3,none⟩=some (.int .u64 jA)) (ct:w.cell? ⟨g2,q,none⟩=some (.int .u64 tag)) (cc:w.cell? ⟨g1,q*5+1,none⟩=some (.int .u64 cost)) (cb:w.cell? ⟨g1,q*5+2,none⟩=some (.int .u64 budget)) (hq1:q<m1) (hq2:q<m2) (hm:m1≤64∧m2≤64) (htf:w.frozen? ⟨g2,q,none⟩=false)
 (HI:∀W y,Kp none' w W→W.cell? ⟨y,0,none⟩=some (.int .u32 id)→Calls Tryz.prog 206 #[.slice (some ⟨g1,0,none⟩) m1 cap1,.func (.func 207) #[] #[.pointer (some ⟨y,0,none⟩)]] W fun e w'=>e=.returned (.int .i64 q)∧Kp none' W w')
 (hk:kind=1) (ht:tag<18446744073709551616) (hv:jA<18446744073709551616) (hco:cost<18446744073709551616) (hn:n<18446744073709551616):
  Calls Tryz.prog 166 #[.pointer (some ⟨rb,0,none⟩),.int .u64 now,.int .u32 id,.int .u64 n] w fun e w'=>e=.returned (.tuple #[.int .u64 (max jA tag:Nat),.int .i64 0])∧∃W,Kp none' w W∧w'=W.setCell ⟨g2,q,none⟩ (.int .u64 (dS (max jA tag) (lX cost n))):=by
 subst hk;have HS:=ae (fun W=>Le (max jA tag) cost n (by omega) hco hn W)
 have HZ:Hid (∀W,Kp none' w W→W.frozen? ⟨g2,q,none⟩=false):=ae (fun W k=>by
  have hlt:=World.block_lt_of_cell? _ _ ct;have:=k.block g2 hlt (fun x=>x);unfold World.frozen? at htf ⊢
  simp only[this];exact htf)
 obtain⟨M,hM⟩:∃M,max jA tag=M:=⟨_,rfl⟩
 have hMi:max (jA:Int) (tag:Int)=(M:Int):=by omega
 rw[hM]at HS ⊢;obtain⟨R,hR⟩:∃R,dS M (lX cost n)=R:=⟨_,rfl⟩
 rw[hR]at HS ⊢;have HI:=ae (fun W (k:Kp none' w W) (y:W.cell? ⟨w.heap.size,0,none⟩=some (.int .u32 (id:Int)))=>HI W w.heap.size k y);have hqi:(q:Int)<m1:=by omega
 have hqj:(q:Int)<m2:=by omega
 clear ht hR htf hM hv hco hn;have hrl:rb<w.heap.size:=World.block_lt_of_cell? _ _ c0
 go_enter Tryz.func166,Tryz.ntmps166
 go_wp2_with fail
 refine(HI.out _ ((Kp.refl none' w).alloc _) ?_).mono ?_
 ·exact(ag.new w [.int .u32 id] 42).cell 0 rfl
 rintro e w1 ⟨rfl,hk0⟩;have hk1:=((Kp.refl none' w).alloc (.cells #[.int .u32 (id:Int)] 42)).trans hk0;have ax:=ae hk1;have d0:=hk1.cell c0 (fun x=>x);have d1:=hk1.cell c1 (fun x=>x);have d2:=hk1.cell c2 (fun x=>x);have d3:=hk1.cell c3 (fun x=>x);have dt:=hk1.cell ct (fun x=>x);have dc:=hk1.cell cc (fun x=>x);have db:=hk1.cell cb (fun x=>x);clear hk0 hk1 c0 c1 c2 c3 ct cc cb
 go_wp2_with fail
 refine af [] [0,1,2,3,4,5,6,7,8,9,10,11,12,13,14,15] 16 (by kernel_rfl) (by kernel_rfl) (fun c a d u w h=>by cases d<;>exact h) ?_;simp only[pick,bn];show aA _ _ _ _ _ _
 repeat((first
  |refine ah (by exact rfl) (by as_aux_lemma=>intro W hK;have e0:=hK.cell d2 (fun x=>x);have e1:=hK.cell d1 (fun x=>x);have e2:=hK.cell dc (fun x=>x);go_simp;exact rfl) ?_
  |refine ai (by exact rfl) ?_
  |refine au (by exact rfl) (by as_aux_lemma=>intro W;go_simp;exact⟨rfl,rfl⟩) (by intro W hK;with_reducible first|exact(HS.out W).mono fun _ _ h=>⟨h.1,h.2▸Kp.refl _ _⟩) ?_);simp only[Act.put,aY])
 show ∀W,_→wpList _ _ _ _ _ _
 intro W3 hK3;have aF:=ae (ax.out.trans hK3);have f0:=hK3.cell dt (fun x=>x);have fz:=HZ.out W3 aF.out;clear hK3 d0 d1 d2 d3 dt dc db
 go_wp2_with fail
 go_ret2
 exact⟨rfl,_,aF.out,rfl⟩
theorem acV {w:World} {F:Nat→Prop} {rb:Nat} {r:Rk} (h:lH w F rb r) (now id n:Nat) (xY:now<18446744073709551616) (hn:n<18446744073709551616) (h0:0≤findF r.fl id):
 Calls Tryz.prog 166 #[.pointer (some ⟨rb,0,none⟩),.int .u64 now,.int .u32 id,.int .u64 n] w fun e w'=>e=.returned (.tuple #[.int .u64 (eu r now id n).1,.int .i64 0])∧lH w' F rb (eu r now id n).2∧(eu r now id n).1<18446744073709551616∧Kp F w w':=by
 obtain⟨v1,v2,rfl,hb,h1,h2,ok⟩:=h;have hge:=wV r.fl id;obtain⟨q,hq⟩:∃q,r.at id=q:=⟨_,rfl⟩
 have hqF:findF r.fl id=(q:Int):=by have:(findF r.fl id).toNat=q:=hq;omega
 have hq1:q<r.fl.length:=by omega
 have hq2:q<r.tags.length:=by rw[ok.len];exact hq1
 obtain⟨g1,cap1,e1,_⟩:=dJ h1 (by omega);obtain⟨g2,cap2,e2,_⟩:=dJ h2 (by omega);subst e1 e2;have hf:r.f id=r.fl[q]:=by unfold Rk.f;rw[hq,List.getD_eq_getElem?_getD,List.getElem?_eq_getElem hq1];rfl
 have OD:r.tag id=r.tags[q]:=by unfold Rk.tag;rw[hq,List.getD_eq_getElem?_getD,List.getElem?_eq_getElem hq2];rfl
 have Lj:=ok.fok _ (List.getElem_mem hq1)
 have hcell:∀k u,(gU r.fl[q])[k]? =some u→w.cell? ⟨g1,q*5+k,none⟩=some u:=fun k u hu=>eY h1 _ (by
  rw[flat_get gU 5 mD _ _ _ (by have:=(List.getElem?_eq_some_iff.1 hu).1;rwa [mD]at this),List.getElem?_eq_getElem hq1];exact hu)
 have hct:w.cell? ⟨g2,q,none⟩=some (.int .u64 r.tags[q]):=eY h2 _ (by rw[List.getElem?_map,List.getElem?_eq_getElem hq2];rfl);have htt:=ok.tok _ (List.getElem_mem hq2);have hsl:Sl w (.slice (some ⟨g1,0,none⟩) r.fl.length cap1) r.fl.length 5 (r.fl.flatMap gU):=zh h1;have hI:∀W y,Kp none' w W→W.cell? ⟨y,0,none⟩=some (.int .u32 id)→Calls Tryz.prog 206 #[.slice (some ⟨g1,0,none⟩) r.fl.length cap1,.func (.func 207) #[] #[.pointer (some ⟨y,0,none⟩)]] W fun e w'=>e=.returned (.int .i64 q)∧Kp none' W w':=fun W y k hy=>by
  have:=Zn r.fl id y _ W (hsl.old k) hy;rw[hqF]at this;exact this
 have acW:=vC h1 h2 (by decide);have hn2:=az h2 hb (by decide);have hset:∀T,T<18446744073709551616→∀w',(∃W,Kp none' w W∧w'=W.setCell ⟨g2,q,none⟩ (.int .u64 (T:Nat)))→lH w' (fun b=>b=rb∨(Value.slice (some ⟨g1,0,none⟩) r.fl.length cap1).ownBlock=some b∨(Value.slice (some ⟨g2,0,none⟩) r.tags.length cap2).ownBlock=some b) rb (r.setTag id T)∧Kp (fun b=>b=rb∨(Value.slice (some ⟨g1,0,none⟩) r.fl.length cap1).ownBlock=some b∨(Value.slice (some ⟨g2,0,none⟩) r.tags.length cap2).ownBlock=some b) w w':=fun T hT w' ⟨W,hk,hw⟩=>by
  subst hw;have a1:=(hb.kp hk (fun x=>x)).bY (a:=⟨g2,q,none⟩) (fun e=>hn2 (by rw[e];rfl)) (.int .u64 (T:Int));have a2:=dX (aK h1 hk (fun _ _ x=>x)) (a:=⟨g2,q,none⟩) (fun b hb e=>acW b hb (by rw[e];rfl)) (.int .u64 (T:Int));have a3:=r_ (aK h2 hk (fun _ _ x=>x)) q (.int .u64 (T:Int));refine⟨⟨_,_,?_,a1,a2,?_,ok.setTag id T hT⟩,?_⟩
  ·rfl
  ·show World.ownsRow _ _ _ _ _ (r.tags.set _ _).length _;rw[List.length_set];have e:(r.setTag id T).tags.map lG=(r.tags.map lG).set q (.int .u64 (T:Int)):=by
    show(r.tags.set (r.at id) T).map lG=_;rw[hq,List.map_set];rfl
   rw[e];exact a3
  ·exact(hk.mono (fun _ _ x=>x.elim)).set (p:=⟨g2,q,none⟩) (.inl (.inr (.inr rfl))) _
 have hvt:max r.jA r.tags[q]<18446744073709551616:=by have:=ok.VZ;omega
 unfold eu;rw[hf,OD];by_cases k1:r.kind=1
 ·rw[if_pos k1];refine(aaq g1 g2 cap1 cap2 r.fl.length r.tags.length q r.kind r.jA r.tags[q] r.fl[q].cost r.fl[q].budget now id n (hb.cell 0 rfl) (hb.cell 1 rfl) (hb.cell 2 rfl) (hb.cell 3 rfl) hct (hcell 1 _ rfl) (hcell 2 _ rfl) hq1 hq2 ⟨ok.few.2,by rw[ok.len];exact ok.few.2⟩ (mZ h2 _) hI k1 htt ok.VZ Lj.cost hn).mono ?_;rintro e w' ⟨he,hw⟩;obtain⟨a,b⟩:=hset _ (vS _ _) w' hw;exact⟨he,a,hvt,b⟩
 ·rw[if_neg k1];by_cases k2:r.kind=2
  ·rw[if_pos k2];refine(aao g1 g2 cap1 cap2 r.fl.length r.tags.length q r.kind r.jA r.tags[q] r.fl[q].cost r.fl[q].budget now id n (hb.cell 0 rfl) (hb.cell 1 rfl) (hb.cell 2 rfl) (hb.cell 3 rfl) hct (hcell 1 _ rfl) (hcell 2 _ rfl) hq1 hq2 ⟨ok.few.2,by rw[ok.len];exact ok.few.2⟩ (mZ h2 _) hI k2 xY Lj.budget).mono ?_;rintro e w' ⟨he,hk⟩;exact⟨he,⟨_,_,rfl,hb.kp hk (fun x=>x),aK h1 hk (fun _ _ x=>x),aK h2 hk (fun _ _ x=>x),ok⟩,vS _ _,hk.mono (fun _ _ x=>x.elim)⟩
  ·rw[if_neg k2];have k3:r.kind=3:=by have:=ok.kind;omega
   refine(aap g1 g2 cap1 cap2 r.fl.length r.tags.length q r.kind r.jA r.tags[q] r.fl[q].cost r.fl[q].budget now id n (hb.cell 0 rfl) (hb.cell 1 rfl) (hb.cell 2 rfl) (hb.cell 3 rfl) hct (hcell 1 _ rfl) (hcell 2 _ rfl) hq1 hq2 ⟨ok.few.2,by rw[ok.len];exact ok.few.2⟩ (mZ h2 _) hI k3 htt).mono ?_;rintro e w' ⟨he,hw⟩;obtain⟨a,b⟩:=hset _ (by omega) w' hw;exact⟨he,a,htt,b⟩
def jT (w:World) (F:Nat→Prop) (v:Value) (room:Nat):jB→Prop
 | .hp n S=>∃b,v=F7 b∧Hp w F b room n S
 | .qu bs Qs=>∃b,v=OM b∧Qu w F b room bs Qs
 | .ca n I=>∃b,v=Jq b∧cq.Ca w F b room n I
theorem jT.kp {T:Nat→Prop} {w w':World} {F:Nat→Prop} {v:Value} {room:Nat} {s:jB} (h:jT w F v room s) (k:Kp T w w') (hT:∀b,F b→¬T b):jT w' F v room s:=by
 cases s with
 |hp n S=>obtain⟨b,e,h⟩:=h;exact⟨b,e,h.kp k hT⟩
 |qu bs Qs=>obtain⟨b,e,h⟩:=h;exact⟨b,e,h.kp k hT⟩
 |ca n I=>obtain⟨b,e,h⟩:=h;exact⟨b,e,h.kp k hT⟩
theorem jT.old {w w':World} {F:Nat→Prop} {v:Value} {room:Nat} {s:jB} (h:jT w F v room s) (k:Kp none' w w'):jT w' F v room s:=h.kp k (fun _ _ x=>x)
theorem jT.lt {w:World} {F:Nat→Prop} {v:Value} {room:Nat} {s:jB} (h:jT w F v room s) {b:Nat} (hb:F b):b<w.heap.size:=by
 cases s with
 |hp n S=>obtain⟨_,_,h⟩:=h;exact h.lt hb
 |qu bs Qs=>obtain⟨_,_,h⟩:=h;exact h.lt hb
 |ca n I=>obtain⟨_,_,h⟩:=h;exact h.lt hb
theorem jT.shape {w:World} {F:Nat→Prop} {v:Value} {room:Nat} {s:jB} (h:jT w F v room s):∃t b,v=.iface t (.agg #[.pointer (some ⟨b,0,none⟩)]):=by
 cases s with
 |hp n S=>obtain⟨b,e,h⟩:=h;exact⟨_,b,e⟩
 |qu bs Qs=>obtain⟨b,e,h⟩:=h;exact⟨_,b,e⟩
 |ca n I=>obtain⟨b,e,h⟩:=h;exact⟨_,b,e⟩
structure Sh where
 g:Ga
 r:Rk
 rate:Nat
 aQ:Nat
 tok:Nat
 bk:jB
 now:Nat
 ref:List Nat
structure kQ where
 sb:Nat
 gb:Nat
 rb:Nat
 v:Value
 Fg:Nat→Prop
 Fr:Nat→Prop
 Fb:Nat→Prop
def kQ.all (f:kQ):Nat→Prop:=fun b=>b=f.sb∨f.Fg b∨f.Fr b∨f.Fb b
def qE (s:Sh) (f:kQ):List Value:=[.pointer (some ⟨f.gb,0,none⟩),.pointer (some ⟨f.rb,0,none⟩),.int .u64 s.rate,.int .u64 s.aQ,.int .u64 s.tok,f.v,.int .u64 s.now]++s.ref.map lG
structure Sh.Ok (s:Sh):Prop where
 rate:0<s.rate∧s.rate<18446744073709551616
 aQ:0<s.aQ∧s.aQ<18446744073709551616
 tok:s.tok≤s.aQ
 now:s.now<18446744073709551616
 ref:∀x∈s.ref,x<18446744073709551616
 len:s.ref.length=32
 wf:BV s.bk
 fl:s.r.fl=s.g.c.aS
 its:∀i∈aW s.bk,i.rank<18446744073709551616∧i.x.jU<4294967296∧i.x.id<4294967296∧i.x.len<18446744073709551616
 tot:((aW s.bk).length:Int)≤sumP s.g.st
structure ShM (w:World) (f:kQ) (s:Sh):Prop where
 top:ag w f.sb (qE s f) 212
 gate:jc w f.Fg f.gb s.g
 ranks:lH w f.Fr f.rb s.r
 back:jT w f.Fb f.v s.g.c.aI.toNat s.bk
 sg:¬f.Fg f.sb
 sr:¬f.Fr f.sb
 sk:¬f.Fb f.sb
 gr:∀b,f.Fg b→¬f.Fr b
 gk:∀b,f.Fg b→¬f.Fb b
 rk:∀b,f.Fr b→¬f.Fb b
 ok:s.Ok
theorem ShM.kp {T:Nat→Prop} {w w':World} {f:kQ} {s:Sh} (h:ShM w f s) (k:Kp T w w') (hT:∀b,f.all b→¬T b):ShM w' f s:=
 {h with top:=h.top.kp k (hT _ (.inl rfl)),gate:=h.gate.kp k (fun b hb=>hT b (.inr (.inl hb))),ranks:=h.ranks.kp k (fun b hb=>hT b (.inr (.inr (.inl hb)))),back:=h.back.kp k (fun b hb=>hT b (.inr (.inr (.inr hb))))}
theorem ShM.old {w w':World} {f:kQ} {s:Sh} (h:ShM w f s) (k:Kp none' w w'):ShM w' f s:=h.kp k (fun _ _ x=>x)
theorem ShM.lt {w:World} {f:kQ} {s:Sh} (h:ShM w f s) {b:Nat} (hb:f.all b):b<w.heap.size:=by
 rcases hb with rfl|hb|hb|hb
 ·exact h.top.lt
 ·exact h.gate.lt hb
 ·exact h.ranks.lt hb
 ·exact h.back.lt hb
end Go.Proofs.YtjiehhlghjnfhaaGreatDoor
