/- What Give of package pool does, at packets (for the calendar). -/
import Derived.Test.YtjiehhlghjnfhaaGreatDoorMTopLineF16
set_option linter.unusedVariables false
set_option linter.unusedSimpArgs false
set_option maxHeartbeats 4000000
namespace Go.Proofs.YtjiehhlghjnfhaaGreatDoor.cq
open Go Go.RowKit Go.Shelf Go.Proofs.YtjiehhlghjnfhaaGreatDoor
set_option maxRecDepth 100000 in
theorem acI (w:World) (p bq:Nat) (vc:Value) (S:PS Pk) (R:RP Pk) (h:bU w p bq vc S) (hR:Rel S R) (i:Nat) {S2:PS Pk} {x:Pk} (hS:S.give KT i=(S2,x,0)):
 Calls Tryz.prog 294 #[.pointer (some ⟨p,0,none⟩),.int .i64 i] w fun e w'=>e=.returned (.tuple #[.agg (rG x).toArray,.int .i64 0])∧Jg w w' p bq vc S2:=by
 obtain⟨c,hk,hcq⟩:∃c,tk S i=some c∧c.queued=false:=by
  unfold PS.give at hS;cases hk:tk S i with
  |none=>rw[hk]at hS;cases hS
  |some c=>
   rw[hk]at hS;refine⟨c,rfl,?_⟩;cases hc:c.queued with
   |false=>rfl
   |true=>simp only[hc,if_true]at hS;cases hS
 have hS2:S2= {S with cs:=S.cs.set i ⟨KT,S.free,false,false⟩,free:=i,n:=S.n-1}∧x=c.x:=by
  unfold PS.give at hS;rw[hk]at hS;simp only[hcq,Bool.false_eq_true,if_false,Int.toNat_natCast]at hS;injection hS with h1 h2
  injection h2 with h2 _
  exact⟨h1.symm,h2.symm⟩
 obtain⟨rfl,rfl⟩:=hS2;have hl:=hR.len;have HT:=ae (fun W (k:Kp none' w W)=>Jh W p bq vc S (h.old k) i (by rw[hk];rfl) hl);have c0:=h.top.cell 0 rfl;have hbl:=h.top.lt;obtain⟨_,h1,hc,_⟩:=gJ hk;simp only[Int.toNat_natCast]at hc;obtain⟨g,cap,rfl,TQ,Jj,TR,_,_,Z_⟩:=h.cell i c hc;rw[hcq]at Z_;have hgl:=(aG h.cells rfl).2;have hn0: -4096≤S.n∧S.n≤4096:=by have:=hR.n;have:=hR.count;have:=hR.rQ;have:=hR.room;omega
 have hi:i<S.cs.length:=by omega
 have HM:=ae h;have ad3:p≠g:=fun e=>h.ne.2.1 (by rw[e];rfl)
 clear h hk hc hS hcq hR;obtain⟨⟨fl,id,ln⟩,nxx,tb,qb⟩:=c;simp only at TQ Jj TR;show Calls _ _ _ _ fun e w'=>e=.returned (.tuple #[.agg #[.int .u32 (fl:Int),.int .u32 (id:Int),.int .u64 (ln:Int)],.int .i64 0])∧_
 generalize hN:S.cs.length=N at*;have HN:=ae hN;clear hN;refine ay ?_;intro PP HP
 go_enter Tryz.func294,Tryz.ntmps294
 go_wp2_with fail
 refine(HT.out _ (((Kp.refl none' w).alloc _).alloc _)).mono ?_;rintro e w2 ⟨rfl,rfl⟩
 go_wp2_with fail
 have ak:Hid (Kp none' w (((w.alloc (.cells #[.int .u32 0,.int .u32 0,.int .u64 0] 62)).alloc (.cells #[.int .u32 0,.int .u32 0,.int .u64 0] 62)).alloc (.cells #[.int .u32 (fl:Int),.int .u32 (id:Int),.int .u64 (ln:Int)] 62))):=(((Kp.refl none' w).alloc _).alloc _).alloc _;have HR2:=ae (((ag.new w [.int .u32 0,.int .u32 0,.int .u64 0] 62).alloc (.cells #[.int .u32 0,.int .u32 0,.int .u64 0] 62)).alloc (.cells #[.int .u32 (fl:Int),.int .u32 (id:Int),.int .u64 (ln:Int)] 62));have pK:Hid (ag (((w.alloc (.cells #[.int .u32 0,.int .u32 0,.int .u64 0] 62)).alloc (.cells #[.int .u32 0,.int .u32 0,.int .u64 0] 62)).alloc (.cells #[.int .u32 (fl:Int),.int .u32 (id:Int),.int .u64 (ln:Int)] 62)) (w.heap.size+1+1) [.int .u32 (fl:Int),.int .u32 (id:Int),.int .u64 (ln:Int)] 62):=by
  have:=ag.new ((w.alloc (.cells #[.int .u32 0,.int .u32 0,.int .u64 0] 62)).alloc (.cells #[.int .u32 0,.int .u32 0,.int .u64 0] 62)) [.int .u32 (fl:Int),.int .u32 (id:Int),.int .u64 (ln:Int)] 62;simp only[World.size_alloc]at this;exact this
 generalize ((w.alloc (.cells #[.int .u32 0,.int .u32 0,.int .u64 0] 62)).alloc (.cells #[.int .u32 0,.int .u32 0,.int .u64 0] 62)).alloc (.cells #[.int .u32 (fl:Int),.int .u32 (id:Int),.int .u64 (ln:Int)] 62)=W2 at*;have eP:=ae (HM.out.old ak.out);have f0:=eP.out.top.cell 0 rfl;have f3:=eP.out.top.cell 3 rfl;refine af [] [0,1,2,3,4,5,6,7,8,9,10] 11 (by kernel_rfl) (by kernel_rfl) (fun c a d u w h=>by cases d<;>exact h) ?_;simp only[pick,bn];show aA _ _ _ _ _ _
 repeat((first
  |refine qM (by exact rfl) 471 _ rfl (.agg #[.int .u32 0,.int .u32 0,.int .u64 0,.int .i32 S.free,.bool false,.bool false]) (fun _=>by kernel_rfl) ?_
  |refine ah (by exact rfl) (by as_aux_lemma=>intro W hK;have e0:=hK.cell f0 (fun x=>x);have e3:=hK.cell f3 (fun x=>x);have e5:((i:Int)<(N:Int))=True:=(by simp;omega);go_simp;exact rfl) ?_
  |refine ai (by exact rfl) ?_);simp only[Act.put,aY])
 show ∀W,_→wpList _ _ _ _ _ _
 intro W5 hK5;have dB:=ae (eP.out.old hK5);have a_:=ae (ak.out.trans hK5);have FW:=ae (HR2.out.kp hK5 (fun x=>x));have zM:=ae (pK.out.kp hK5 (fun x=>x));clear hK5 f0 f3 eP ak HR2 pK;have LX:W5.ownsRow 0 471 6 (.slice (some ⟨g,0,none⟩) N cap) N (S.cs.flatMap dY):=by
  have:=dB.out.cells;simp only[HN.out]at this;exact this
 refine dh rfl 471 (.tmp 46) (.tmp 45) rfl dY 6 o_ S.cs LX i (by rw[HN.out];omega) ⟨KT,S.free,false,false⟩ rfl rfl rfl (Ji _) rfl ?_;intro W6 ho hk;have ve:=dB.out.WZ i _ ho hk;have hbg:PF p bq (.slice (some ⟨g,0,none⟩) N cap) g:=.inr (.inr rfl);have hbp:PF p bq (.slice (some ⟨g,0,none⟩) N cap) p:=.inl rfl;have hk6:Kp (PF p bq (.slice (some ⟨g,0,none⟩) N cap)) w W6:=(a_.out.mono (fun _ _ x=>x.elim)).trans (hk.mono (fun j hj e=>by subst e;exact hbg));have mV:=ae ve;have b_:=ae hk6;have sU:=ae (FW.out.kp hk (fun e=>by omega));have Tq:=ae (zM.out.kp hk (fun e=>by omega));have hrs:=Tq.out.lt;have hm7:=(ve.LV (i:Int)).Hq (S.n-1);have qj:=(hk6.set (p:=⟨p,3,none⟩) (.inl hbp) (.int .i32 (i:Int))).set (p:=⟨p,4,none⟩) (.inl hbp) (.int .i64 (S.n-1));have vg:=ae hm7;have oH:=ae qj;have g3:=ve.top.cell 3 rfl;have g4:=ve.top.cell 4 rfl;have fz3:=ve.top.fz 3;have fz4:=ve.top.fz 4;clear ve hk6 ho hk LX dB a_ FW zM hm7 qj hbg hbp HM HT c0 TQ Jj TR Z_;have hne1:p≠w.heap.size:=by omega
 have hne2:p≠w.heap.size+1+1:=by omega
 have yP:=ae ((sU.out.bY (a:=⟨p,3,none⟩) hne1.symm (.int .i32 (i:Int))).bY (a:=⟨p,4,none⟩) hne1.symm (.int .i64 (S.n-1)));have Zf:=ae ((Tq.out.bY (a:=⟨p,3,none⟩) hne2.symm (.int .i32 (i:Int))).bY (a:=⟨p,4,none⟩) hne2.symm (.int .i64 (S.n-1)))
 go_upto_region 12 with fail
 generalize (W6.setCell ⟨p,3,none⟩ (.int .i32 (i:Int))).setCell ⟨p,4,none⟩ (.int .i64 (S.n-1))=W7 at*;clear g3 g4 fz3 fz4 mV b_ sU Tq
 go_wp2_with(first
  |(refine BJ rfl 62 (.tmp 7) rfl Zf.out _ rfl Tryz.underlying62 rfl fZ ?_)
  |(refine fF rfl 62 (.tmp 4) (.tmp 59) rfl yP.out [.int .u32 (fl:Int),.int .u32 (id:Int),.int .u64 (ln:Int)] rfl rfl fZ rfl (by intro v hv;simp at hv;rcases hv with rfl|rfl|rfl<;>rfl) ?_))
 intro W8 hb _ hK
 have CX:=ae (vg.out.kp (hK (fun b=>b=w.heap.size) W7 (Kp.refl _ _) (.inl rfl)) (fun b hb e=>by
  rcases hb with hb|hb|hb
  ·omega
  ·have:=vg.out.queues;subst hb e;have h2:=yP.out.inj this;exact absurd h2.2 (by decide)
  ·have hb:some g=some b:=hb;injection hb with hb
   omega))
 have mG:=ae (hK _ _ oH.out (.inr (Nat.le_refl _)));have lQ:=ae hb;clear hb hK
 go_wp2_with fail
 exact iJ (by exact rfl) lQ.out _ Tryz.underlying62 rfl fZ (by exact rfl) (HP.out _ _ ⟨rfl,_,CX.out,mG.out,Nw.refl _ _⟩)
section
variable {w:World} {cb:Nat} {f:f_} {room nb na:Nat} {c:oh} {I:List It}
def rV (z:Nat) (c:oh):Bool:=match c.A with| []=>false|a::_=>decide (a.rank<c.base+z)
set_option maxRecDepth 100000 in
theorem Xj (h:dW w cb f room nb na c.base c.B c.A c.P c.m) (hR:cZ (bg f.k) room c I) (bx:Nat) (hb:ag w bx [.pointer (some ⟨cb,0,none⟩)] 289) (har:∀a∈c.A,a.rank<18446744073709551616):
 Calls Tryz.prog 307 #[.pointer (some ⟨bx,0,none⟩)] w fun e w'=>e=.returned (.tuple #[.int .u64 (og c.A).1.rank,.bool (rV (bg f.k) c)])∧Kp none' w w':=by
 have c4:=h.top.cell 4 rfl;have b0:=hb.cell 0 rfl;have g_:=ae (zS h.far);have hbx:=hb.lt;have HW:=ae (fun W (k:Kp none' w W) r hr=>EL (h.old k) r hr hR.base);refine ay ?_;intro PP HP;have HA:=ae har;have DI:=ae hR.EF;clear h hR hb har;cases hA:c.A with
 |nil=>
  have hn:rV (bg f.k) c=false:=by unfold rV;rw[hA]
  rw[hn,hA]at HP;rw[hA]at g_;have g_:Hid (Calls Tryz.prog 274 #[.pointer (some ⟨f.ab,0,none⟩)] w fun e w'=>e=.returned (.tuple #[.int .u64 0,.agg #[.int .u32 0,.int .u32 0,.int .u64 0],.bool false])∧Kp none' w w'):=g_;clear hn HW HA DI hA
  go_enter Tryz.func307,Tryz.ntmps307
  go_wp2_with fail
  refine g_.out.mono ?_;rintro e w1 ⟨rfl,k1⟩;have K1:=ae (k1.alloc (.cells #[.int .u32 0,.int .u32 0,.int .u64 0] 62));clear k1 g_
  go_wp2_with fail
  exact HP.out _ _ ⟨rfl,K1.out⟩
 |cons a A'=>
  have hn:rV (bg f.k) c=decide (a.rank<c.base+bg f.k):=by unfold rV;rw[hA]
  rw[hn,hA]at HP;rw[hA]at g_;have ha1:=DI.out a (by rw[hA];simp);have ha2:=HA.out a (by rw[hA];simp);have HD:Hid (decide (c.base≤a.rank∧a.rank<c.base+bg f.k)=decide (a.rank<c.base+bg f.k)):=by show _=_;rw[decide_eq_decide];omega
  obtain⟨r,cm,⟨fl,id,ln⟩⟩:=a;simp only at ha1 ha2 HD;have g_:Hid (Calls Tryz.prog 274 #[.pointer (some ⟨f.ab,0,none⟩)] w fun e w'=>e=.returned (.tuple #[.int .u64 (r:Int),.agg #[.int .u32 (fl:Int),.int .u32 (id:Int),.int .u64 (ln:Int)],.bool true])∧Kp none' w w'):=g_;clear hn HA DI hA ha1
  go_enter Tryz.func307,Tryz.ntmps307
  go_wp2_with fail
  refine g_.out.mono ?_;rintro e w1 ⟨rfl,k1⟩;have K1:=ae (k1.alloc (.cells #[.int .u32 (fl:Int),.int .u32 (id:Int),.int .u64 (ln:Int)] 62));have b1:=k1.cell b0 (fun x=>x);have afn:bx<w1.heap.size:=Nat.lt_of_lt_of_le hbx k1.size;clear k1 g_
  go_wp2_with fail
  refine(HW.out _ K1.out r ha2).mono ?_;rintro e w2 ⟨rfl,k2⟩;rw[HD.out];have K2:=ae (K1.out.trans k2);clear k2 K1 HW
  go_wp2_with fail
  exact HP.out _ _ ⟨rfl,K2.out⟩
end
def O6 (w:World) (hb:Nat):Nat:=match w.cell? ⟨hb,0,none⟩with|some (.slice _ n _)=>n|_=>0
theorem Hz {w:World} {F:Nat→Prop} {hb room n:Nat} {S:List (En Pk)} (h:Hp w F hb room n S):O6 w hb=S.length:=by
 obtain⟨vc,l,rfl,hm,hr,h3,h4⟩:=h;obtain⟨ao,cap,rfl⟩:=dP hm.row;unfold O6;rw[hm.top.cell 0 rfl,←hr.len]
theorem cZ.Xk {sz room:Nat} {c:oh} {I:List It} (h:cZ sz room c I):∀a∈c.A,a.rank<18446744073709551616:=fun a ha=>by
 obtain⟨i,hi,e⟩:=h.aIn ha;rw[←e];exact h.kM i hi
structure TuI (w1:World) (cb bx:Nat) (f:f_) (room nb na r:Nat) (I:List It) (wr:World) (f':f_) (c':oh):Prop where
 mem:dW wr cb f' room nb na c'.base c'.B c'.A c'.P c'.m
 toZ:ed w1 cb f wr f'
 rel:cZ (bg f'.k) room c' I
 base:c'.base=r
 low:c'.B=[]
 k:f'.k=f.k
 ab:f'.ab=f.ab
 box:ag wr bx [.pointer (some ⟨cb,0,none⟩)] 289
set_option maxRecDepth 100000 in
theorem O7 {w:World} {cb:Nat} {f:f_} {room nb na:Nat} {c:oh} {I:List It} (h:dW w cb f room nb na c.base c.B c.A c.P c.m) (hR:cZ (bg f.k) room c I) (hd:Dn (bg f.k) c) (hB:c.B=[]) (hro:room≤4096) (r:Nat) (h1:c.base≤r) (hr:r<18446744073709551616) (hI:∀i∈I,r≤i.rank):
 Calls Tryz.prog 299 #[.pointer (some ⟨cb,0,none⟩),.int .u64 r] w fun e w'=>e=.returned (.tuple #[])∧
  ∃f' c',dW w' cb f' room nb na c'.base c'.B c'.A c'.P c'.m∧ed w cb f w' f'∧cZ (bg f'.k) room c' I∧Dn (bg f'.k) c'∧c'.base=r∧c'.B=[]∧f'.k=f.k:=by
 have TV:=ae (hR.turn hd hB h1 hr hI);have HH:=ae h;have HB0:=ae (ag.new w [.pointer (some ⟨cb,0,none⟩)] 289);have aB:Hid (Kp none' w (w.alloc (.cells #[.pointer (some ⟨cb,0,none⟩)] 289))):=(Kp.refl none' w).alloc _;have hsz:(w.alloc (.cells #[.pointer (some ⟨cb,0,none⟩)] 289)).heap.size=w.heap.size+1:=World.size_alloc _ _;have hna:¬f.all cb w.heap.size:=fun e=>by have:=h.TT e;omega
 have hcl:=h.top.lt;have HLB:=ae hB;refine ay ?_;intro PP HP;clear h hR hd hB h1 hI
 go_enter Tryz.func299,Tryz.ntmps299
 go_upto_region 1 with fail
 generalize w.alloc (.cells #[.pointer (some ⟨cb,0,none⟩)] 289)=w1 at*;have bT:=ae (HH.out.old aB.out);have b0:=HB0.out.cell 0 rfl;have c2:=bT.out.top.cell 2 rfl;have Xg:=bT.out.top.fz 2;have hbx:w.heap.size<w1.heap.size:=by omega
 go_wp2_with fail
 have eP:=ae (bT.out.LZ r);have hne:w.heap.size≠cb:=by omega
 have pK:=ae (HB0.out.bY (a:=⟨cb,2,none⟩) hne (.int .u64 (r:Int)));generalize w1.setCell ⟨cb,2,none⟩ (.int .u64 (r:Int))=w2 at*;have A_:=ae (Xj (c:= {c with base:=r}) eP.out.1 TV.out w.heap.size pK.out TV.out.Xk);refine A_.out.mono ?_;rintro e w3 ⟨rfl,k3⟩;have hI3:TuI w1 cb w.heap.size f room nb na r I w3 f {c with base:=r}:=⟨eP.out.1.old k3,eP.out.2.trans (ed.old k3),TV.out,rfl,HLB.out,rfl,rfl,pK.out.kp k3 (fun x=>x)⟩;have HI3:=ae hI3;clear k3 hI3 A_ eP pK bT b0 c2 Xg TV HB0
 go_wp2_with fail
 go_loopw [5,6] (fun s5 s6 wr=>∃f' c',s5=.int .u64 ((og c'.A).1.rank:Nat)∧s6=.bool (rV (bg f'.k) c')∧Hid (TuI w1 cb w.heap.size f room nb na r I wr f' c')) (fun _ _ wr=>O6 wr f.ab)
 case atStart=>exact⟨f,{c with base:=r},rfl,rfl,HI3.out⟩
 case round=>
  obtain⟨f',c',rfl,rfl,hI⟩:=hrel;by_cases hnx:rV (bg f'.k) c'=true
  ·obtain⟨a,A',hA,hlt⟩:∃a A',c'.A=a::A'∧a.rank<c'.base+bg f'.k:=by
    unfold rV at hnx;cases hA:c'.A with
    |nil=>rw[hA]at hnx;cases hnx
    |cons a A'=>rw[hA]at hnx;exact⟨a,A',rfl,of_decide_eq_true hnx⟩
   have Gg:=ae hnx;clear hnx;obtain⟨ar,ac,⟨fl,id,ln⟩⟩:=a;simp only at hlt;have hpk:(og c'.A).1.rank=ar:=by rw[hA];rfl
   rw[Gg.out,hpk];have Xl:Hp wr f'.FA f'.ab room na (⟨ar,ac,⟨fl,id,ln⟩⟩::A'):=by have:=hI.out.mem.far;rw[hA]at this;exact this
   have hme:=Hz Xl;rw[hI.out.ab]at hme;have TW:=ae hme;have EK:=ae (OG Xl);have EK:Hid (Calls Tryz.prog 275 #[.pointer (some ⟨f'.ab,0,none⟩)] wr fun e w'=>e=.returned (.tuple #[.int .u64 (ar:Int),.agg #[.int .u32 (fl:Int),.int .u32 (id:Int),.int .u64 (ln:Int)],.bool true])∧Hp w' f'.FA f'.ab room na A'∧Kp f'.FA wr w'):=EK;have HA:=ae hA;have I7:=ae hlt;have b0:=hI.out.box.cell 0 rfl;have c4:=hI.out.mem.top.cell 4 rfl;have hil:c'.R.items.length<room:=by have h1:=hI.out.rel.len;have h2:=hI.out.rel.cap;rw[hA,List.length_cons]at h1;omega
   have Om:=ae hil;clear hA hlt hpk Xl hme hil Gg
   go_wp2_with fail
   refine EK.out.mono ?_;rintro e w4 ⟨rfl,p4,k4⟩;have Bl:=ae (hI.out.mem.QQ p4 k4 (Nw.refl _ _));have hna':¬f'.all cb w.heap.size:=fun e=>by
    rcases hI.out.toZ.nw _ e with h|h
    ·exact hna h
    ·omega
   have O0:=hI.out.box.kp k4 (fun e=>hna' ⟨f'.FA,by simp[f_.parts],e⟩);have dB:=ae (Bl.out.1.old ((Kp.refl none' w4).alloc (.cells #[.int .u32 (fl:Int),.int .u32 (id:Int),.int .u64 (ln:Int)] 62)));have oN:=ae (Bl.out.2.trans (ed.old ((Kp.refl none' w4).alloc (.cells #[.int .u32 (fl:Int),.int .u32 (id:Int),.int .u64 (ln:Int)] 62))));have zM:=ae (O0.alloc (.cells #[.int .u32 (fl:Int),.int .u32 (id:Int),.int .u64 (ln:Int)] 62));have b4:=O0.cell 0 rfl;have hxl:=O0.lt;have Gf:=ae (Xf (A:=A') dB.out hI.out.rel Om.out hro ⟨fl,id,ln⟩ ar);have HNA:=ae hna';clear p4 k4 O0 Bl EK b0 c4 hna'
   go_wp2_with fail
   refine Gf.out.mono ?_;rintro e w6 ⟨rfl,f6,P6,R6,m6,qC,O8,hk6,Me⟩;have hsk:=hI.out.rel.sink HA.out I7.out Me.a1 Me.a2 Me.a3 Me.a4 Me.a5 Me.a6 Me.a7;rw[←hk6.1]at hsk;obtain⟨c6,hc6⟩:∃c6:oh,c6= {c' with A:=A',P:=P6,R:=R6,m:=m6}:=⟨_,rfl⟩
   rw[←hc6]at hsk;have hX6:=zM.out.kp O8.kp HNA.out;have Xm:TuI w1 cb w.heap.size f room nb na r I w6 f6 c6:=⟨by rw[hc6];exact qC,(hI.out.toZ.trans oN.out).trans O8,hsk,by rw[hc6];exact hI.out.base,by rw[hc6];exact hI.out.low,hk6.1.trans hI.out.k,hk6.2.trans hI.out.ab,hX6⟩;have A8:=ae Xm;have rP:=ae (Xj Xm.mem Xm.rel w.heap.size hX6 Xm.rel.Xk);have TY:Hid (c6.A=A'):=ae (by rw[hc6]);have b6:=hX6.cell 0 rfl;clear qC O8 hk6 Me hsk hX6 Xm hc6 Gf zM dB oN b4
   go_wp2_with fail
   refine rP.out.mono ?_;rintro e w7 ⟨rfl,k7⟩;have HI7:Hid (TuI w1 cb w.heap.size f room nb na r I w7 f6 c6):=ae ⟨A8.out.mem.old k7,A8.out.toZ.trans (ed.old k7),A8.out.rel,A8.out.base,A8.out.low,A8.out.k,A8.out.ab,A8.out.box.kp k7 (fun x=>x)⟩;clear k7 rP A8 b6
   go_wp2_with fail
   go_roundw
   case rel=>exact⟨f6,c6,rfl,rfl,HI7.out⟩
   case measure=>
    have h2:=Hz HI7.out.mem.far;rw[HI7.out.ab,TY.out]at h2;have h3:=TW.out;rw[List.length_cons]at h3;omega
  ·have hnx:rV (bg f'.k) c'=false:=by simpa using hnx
   rw[hnx];have Gg:=ae hnx;clear hnx
   go_wp2_with fail
   go_end0
   refine HP.out _ _ ⟨rfl,f',c',hI.out.mem,(ed.old aB.out).trans hI.out.toZ,hI.out.rel,hI.out.rel.done (fun a A' hA=> ?_),hI.out.base,hI.out.low,hI.out.k⟩;have h2:=Gg.out;unfold rV at h2;rw[hA]at h2;have:=of_decide_eq_false h2;omega
end Go.Proofs.YtjiehhlghjnfhaaGreatDoor.cq
namespace Go.Proofs.YtjiehhlghjnfhaaGreatDoor.cq
open Go Go.RowKit Go.Shelf Go.Proofs.YtjiehhlghjnfhaaGreatDoor
set_option maxRecDepth 100000 in
theorem acJ {w:World} {cb:Nat} {f:f_} {room nb na:Nat} {c:oh} {I:List It} {x:It} {T:List It} (h:dW w cb f room nb na c.base c.B c.A c.P c.m) (hR:cZ (bg f.k) room c I) (hd:Dn (bg f.k) c) (hB:c.B=[]) (hro:room≤4096) (hI:I=x::T) (hT:Tab w) (hg:¬f.all cb 0):
 Calls Tryz.prog 288 #[.pointer (some ⟨cb,0,none⟩)] w fun e w'=>e=.returned (.tuple #[.int .u64 x.rank,.bool true])∧
  ∃f' c',dW w' cb f' room nb na c'.base c'.B c'.A c'.P c'.m∧ed w cb f w' f'∧cZ (bg f'.k) room c' I∧Dn (bg f'.k) c'∧c'.base=x.rank∧c'.B=[]:=by
 have HL:=ae (sLen _ _ _ _ _ _ h.set);have hml:=hR.Xe h.set.sorted;have c0:=h.top.cell 0 rfl;refine ay ?_;intro PP HP;by_cases hmn:c.m=[]
 ·obtain⟨a,A',T2,hA,hI2⟩:∃a A' T2,c.A=a::A'∧I=fD a::T2:=by
   rcases hR.Hm hd hB hmn with⟨_,h2⟩|h2
   ·rw[hI]at h2;cases h2
   ·exact h2
  have hxa:x=fD a:=by rw[hI]at hI2;injection hI2
  have hz0:((c.m.length:Int)==0)=true:=by rw[hmn];rfl
  have hai:=hR.aIn (s:=a) (by rw[hA];simp);have har:=hR.Xk a (by rw[hA];simp);have hab:=hR.EF a (by rw[hA];simp);have g_:=ae (fun W (k:Kp none' w W)=>zS (h.old k).far);rw[hA]at g_;have c4:=h.top.cell 4 rfl
  have yQ:=ae (fun W (k:Kp none' w W)=>O7 (h.old k) hR hd hB hro a.rank hab har (fun i hi=>by
   have h2:=hR.lS;rw[hI2]at h2 hi
   exact kN h2 hi))
  have HG:=ae hg;have HT:=ae hT;have HI:=ae hI;have HXA:=ae hxa;have HB:=ae hd;have hz1:=hR.qh;clear h hR hd hB hmn hg hT hI hI2 hxa hA hai hab;obtain⟨ar,ac,⟨fl,id,ln⟩⟩:=a;simp only at har yQ;have g_:Hid (∀W,Kp none' w W→Calls Tryz.prog 274 #[.pointer (some ⟨f.ab,0,none⟩)] W fun e w'=>e=.returned (.tuple #[.int .u64 (ar:Int),.agg #[.int .u32 (fl:Int),.int .u32 (id:Int),.int .u64 (ln:Int)],.bool true])∧Kp none' W w'):=g_;generalize c.m.length=ml at*
  go_enter Tryz.func288,Tryz.ntmps288
  go_wp2_with fail
  refine HL.out.mono ?_;rintro e w1 ⟨rfl,rfl⟩
  go_wp2_with fail
  refine(g_.out w (Kp.refl _ _)).mono ?_;rintro e w1 ⟨rfl,k1⟩;have K1:=ae (k1.alloc (.cells #[.int .u32 (fl:Int),.int .u32 (id:Int),.int .u64 (ln:Int)] 62));clear k1 g_ HL
  go_wp2_with fail
  refine(yQ.out _ K1.out).mono ?_;rintro e W0 ⟨rfl,g,c1,q1,q2,q3,q4,q5,q6,q7⟩;have hm:=q1;have hrc:=q3;have hdn:=q4;have hbn:=q6;have hkg:=q7;have hto:ed w cb f W0 g:=(ed.old K1.out).trans q2;have hT0:Tab W0:=HT.out.kp hto.kp HG.out;have hI:=HI.out;have hmn:c1.m≠ []:=fun e=>by
   rcases q3.Hm q4 q6 e with⟨_,h2⟩|⟨a,A2,T3,h2,h3⟩
   ·rw[hI]at h2;cases h2
   ·have h4:=q4 a (by rw[h2];simp);rw[hI,HXA.out]at h3;injection h3 with h3 _
    have h5:ar=a.rank:=congrArg It.rank h3;have h6:c1.base=ar:=q5;rw[q7]at h4;omega
  clear q1 q2 q3 q4 q5 q6 q7 c0 c4 K1 yQ HXA HG HT HI HB hz1;have hm0:c1.m≠ []:=hmn;obtain⟨d,x',T',k,rr,g1,g2,g3,g4,g5,g6,g7,g8,g9⟩:=hrc.Ho hdn hbn hm0 hm.set.sorted;have hx':x'=x:=by rw[hI]at g4;injection g4 with g4 _;exact g4.symm
  subst hx';have hz:=Ag hm.k3;have hfr:=sZ (show 0<bg g.k by omega) c1.base;have hor:=Ad (sz:=bg g.k) hfr ⟨g2,g3⟩;have hxr:=hrc.kM x' (by rw[hI];simp);have hbs:=hrc.base;obtain⟨dn,tu⟩:∃n:Nat,d=n:=⟨d.toNat,by omega⟩
  obtain⟨fn,hfn2⟩:∃n:Nat,bM (bg g.k) c1.base=n:=⟨(bM (bg g.k) c1.base).toNat,by omega⟩
  obtain⟨o,ho2⟩:∃n:Nat,lK (bg g.k) fn dn=n:=⟨(lK (bg g.k) fn dn).toNat,by rw[←hfn2,←tu];omega⟩
  rw[hfn2,tu,ho2]at g5;rw[hfn2,tu]at g1;rw[hfn2,tu,ho2]at hor;rw[tu]at g2 g3 g7 g8;rw[hfn2]at hfr;have Ai:=ae (by have:=Hu hm c1.base;rw[hfn2]at this;exact this);have Gh:=ae (fun W (hk:Kp none' W0 W)=>(by have:=WY _ _ _ _ _ (fn:Int) W (hm.old hk).set hm.k3.2 (hT0.kp hk (fun x=>x)) (by omega);rw[g1]at this;exact aT this:Calls Tryz.prog 300 #[.pointer (some ⟨g.sp,0,none⟩),.int .i64 (fn:Int)] W fun e w'=>e=.returned (.tuple #[.int .i64 (dn:Int),.bool true])∧Kp none' W w'));have Aj:=ae (fun W (hk:Kp none' W0 W)=>(hm.old hk).size);have c0:=hm.top.cell 0 rfl;have c2:=hm.top.cell 2 rfl;have w1:IntKind.i64.wrap ((dn:Int)-fn)=(dn:Int)-fn:=by rw[IntKind.wrap_i64];omega
  have w2:IntKind.i64.wrap ((dn:Int)-fn+(bg g.k:Nat))=(dn:Int)-fn+(bg g.k:Nat):=by rw[IntKind.wrap_i64];omega
  have w3:((dn:Int)-fn+(bg g.k:Nat))%((bg g.k:Nat):Int)=(o:Int):=ho2;have w5:Int.tmod ((dn:Int)-fn+(bg g.k:Nat)) ((bg g.k:Nat):Int)=(o:Int):=by rw[Int.tmod_eq_emod_of_nonneg (by omega)];exact ho2
  have w6:(bg g.k=0)=False:=by simp;omega
  have w4:IntKind.u64.wrap ((c1.base:Int)+o)=(c1.base:Int)+o:=by rw[IntKind.wrap_u64];omega
  have w7:IntKind.u64.wrap (o:Int)=(o:Int):=by rw[IntKind.wrap_u64];omega
  have hpos:(0:Int)≤(dn:Int)-fn+(bg g.k:Nat):=by omega
  have HM:=ae hm;have HRC:=ae hrc;have Xn:=ae hdn;have Es:=ae hbn;have vU:=ae hto;have HKG:=ae hkg;have xE:=ae g7;have MB:=ae g8;have MC:=ae g9;have pM:Hid (x'.rank=c1.base+o):=ae (by rw[g5];omega);have yQ:=ae (fun W (hk:Kp none' W0 W)=>O7 (hm.old hk) hrc hdn hbn hro x'.rank (by rw[pM.out];omega) hxr (fun i hi=>by rw[hI]at hi;have h2:=hrc.lS;rw[hI]at h2;exact kN h2 hi));have HII:=ae hI;clear hm hrc hdn hbn hto hkg hm0 hmn g1 g4 g5 g7 g8 g9 hfn2 tu ho2 hT0 hI;generalize hsz:bg g.k=z at*;have MF:=ae hsz;clear hsz
  go_wp2_with fail
  refine Ai.out.mono ?_;rintro e W1 ⟨rfl,k1⟩;have K1:=ae k1;have c0:=k1.cell c0 (fun x=>x);have c2:=k1.cell c2 (fun x=>x);clear k1 Ai
  go_wp2_with fail
  refine(Gh.out _ K1.out).mono ?_;rintro e W2 ⟨rfl,k2⟩;have K2:=ae (K1.out.trans k2);have c0:=k2.cell c0 (fun x=>x);have c2:=k2.cell c2 (fun x=>x);clear k2 K1 Gh
  go_wp2_with fail
  refine(Aj.out _ K2.out).mono ?_;rintro e W3 ⟨rfl,k3⟩;have K3:=ae (K2.out.trans k3);have c0:=k3.cell c0 (fun x=>x);have c2:=k3.cell c2 (fun x=>x);clear k3 K2 Aj
  go_wp2_with fail
  refine af [] [0,1,2,3,4,5,6,7,8,9,10,11,12] 13 (by kernel_rfl) (by kernel_rfl) (fun c a d u w h=>by cases d<;>exact h) ?_;simp only[pick,bn];show aA _ _ _ _ _ _
  repeat((first
   |refine ah (by exact rfl) (by as_aux_lemma=>intro W hK;have e2:=hK.cell c2 (fun x=>x);have e3:=w1;have e4:=w2;have e5:=w3;have e6:=w4;have e7:=hpos;have e8:=w5;have e9:=w6;have e10:=w7;go_simp;exact rfl) ?_
   |refine ai (by exact rfl) ?_);simp only[Act.put,aY])
  show ∀W,_→wpList _ _ _ _ _ _
  intro W4 hK4;have K4:=ae (K3.out.trans hK4);have c2:=hK4.cell c2 (fun x=>x);clear hK4 K3 c0;have hcast:((x'.rank:Nat):Int)=(c1.base:Int)+o:=by rw[pM.out];omega
  simp only[hcast]at yQ HP;have HCA:=ae hcast;clear hcast;by_cases ho:o=0
  ·have ho1:(((c1.base:Int)+o) != (c1.base:Int))=false:=by simp[ho]
   have ho2:(((c1.base:Int)+o)==(c1.base:Int))=true:=by simp[ho]
   clear yQ
   go_wp2_with fail
   refine HP.out _ _ ⟨rfl,g,c1,HM.out.old K4.out,vU.out.trans (ed.old K4.out),by rw[MF.out];exact HRC.out,by rw[MF.out];exact Xn.out,by rw[pM.out,ho];rfl,Es.out⟩
  ·have ho1:(((c1.base:Int)+o) != (c1.base:Int))=true:=by simp;omega
   have ho2:(((c1.base:Int)+o)==(c1.base:Int))=false:=by simp;omega
   go_wp2_with fail
   refine(yQ.out W4 K4.out).mono ?_;rintro e W5 ⟨rfl,f5,c5,q1,q2,q3,q4,q5,q6,q7⟩;have Q1:=ae q1;have Q2:=ae q2;have Q3:=ae q3;have Q4:=ae q4;have Q5:=ae q5;have Q6:=ae q6;clear q1 q2 q3 q4 q5 q6 q7 yQ c2
   go_wp2_with fail
   refine HP.out _ _ ⟨rfl,f5,c5,Q1.out,(vU.out.trans (ed.old K4.out)).trans Q2.out,Q3.out,Q4.out,Q5.out,Q6.out⟩
 ·have hz0:((c.m.length:Int)==0)=false:=by
   have:=List.length_pos_iff.2 hmn;simp;omega
  have HH:=ae h;have HRR:=ae hR;have HD:=ae hd;have HBB:=ae hB;have HMN:=ae hmn;have HG:=ae hg;have HT:=ae hT;have HI:=ae hI;clear h hR hd hB hmn hg hT hI;generalize c.m.length=ml at*
  go_enter Tryz.func288,Tryz.ntmps288
  go_wp2_with fail
  refine HL.out.mono ?_;rintro e w1 ⟨rfl,rfl⟩
  go_upto_region 6 with fail
  obtain⟨W0,hW0⟩:∃W0,w=W0:=⟨_,rfl⟩
  obtain⟨g,hgf⟩:∃g,g=f:=⟨_,rfl⟩
  obtain⟨c1,hc1⟩:∃c1,c1=c:=⟨_,rfl⟩
  have hm:dW W0 cb g room nb na c1.base c1.B c1.A c1.P c1.m:=by rw[hgf,hc1,←hW0];exact HH.out
  have hrc:cZ (bg g.k) room c1 I:=by rw[hgf,hc1];exact HRR.out
  have hdn:Dn (bg g.k) c1:=by rw[hgf,hc1];exact HD.out
  have hbn:c1.B=[]:=by rw[hc1];exact HBB.out
  have hmn:c1.m≠ []:=by rw[hc1];exact HMN.out
  have hto:ed w cb f W0 g:=by rw[hgf,←hW0];exact ed.refl _ _ _
  have hkg:g.k=f.k:=by rw[hgf]
  have hT0:Tab W0:=by rw[←hW0];exact HT.out
  have hI:=HI.out;have HW0:=ae hW0;clear hgf hc1 c0 HL HI HT HG HMN HBB HD HRR HH;have hm0:c1.m≠ []:=hmn;obtain⟨d,x',T',k,rr,g1,g2,g3,g4,g5,g6,g7,g8,g9⟩:=hrc.Ho hdn hbn hm0 hm.set.sorted;have hx':x'=x:=by rw[hI]at g4;injection g4 with g4 _;exact g4.symm
  subst hx';have hz:=Ag hm.k3;have hfr:=sZ (show 0<bg g.k by omega) c1.base;have hor:=Ad (sz:=bg g.k) hfr ⟨g2,g3⟩;have hxr:=hrc.kM x' (by rw[hI];simp);have hbs:=hrc.base;obtain⟨dn,tu⟩:∃n:Nat,d=n:=⟨d.toNat,by omega⟩
  obtain⟨fn,hfn2⟩:∃n:Nat,bM (bg g.k) c1.base=n:=⟨(bM (bg g.k) c1.base).toNat,by omega⟩
  obtain⟨o,ho2⟩:∃n:Nat,lK (bg g.k) fn dn=n:=⟨(lK (bg g.k) fn dn).toNat,by rw[←hfn2,←tu];omega⟩
  rw[hfn2,tu,ho2]at g5;rw[hfn2,tu]at g1;rw[hfn2,tu,ho2]at hor;rw[tu]at g2 g3 g7 g8;rw[hfn2]at hfr;have Ai:=ae (by have:=Hu hm c1.base;rw[hfn2]at this;exact this);have Gh:=ae (fun W (hk:Kp none' W0 W)=>(by have:=WY _ _ _ _ _ (fn:Int) W (hm.old hk).set hm.k3.2 (hT0.kp hk (fun x=>x)) (by omega);rw[g1]at this;exact aT this:Calls Tryz.prog 300 #[.pointer (some ⟨g.sp,0,none⟩),.int .i64 (fn:Int)] W fun e w'=>e=.returned (.tuple #[.int .i64 (dn:Int),.bool true])∧Kp none' W w'));have Aj:=ae (fun W (hk:Kp none' W0 W)=>(hm.old hk).size);have c0:=hm.top.cell 0 rfl;have c2:=hm.top.cell 2 rfl;have w1:IntKind.i64.wrap ((dn:Int)-fn)=(dn:Int)-fn:=by rw[IntKind.wrap_i64];omega
  have w2:IntKind.i64.wrap ((dn:Int)-fn+(bg g.k:Nat))=(dn:Int)-fn+(bg g.k:Nat):=by rw[IntKind.wrap_i64];omega
  have w3:((dn:Int)-fn+(bg g.k:Nat))%((bg g.k:Nat):Int)=(o:Int):=ho2;have w5:Int.tmod ((dn:Int)-fn+(bg g.k:Nat)) ((bg g.k:Nat):Int)=(o:Int):=by rw[Int.tmod_eq_emod_of_nonneg (by omega)];exact ho2
  have w6:(bg g.k=0)=False:=by simp;omega
  have w4:IntKind.u64.wrap ((c1.base:Int)+o)=(c1.base:Int)+o:=by rw[IntKind.wrap_u64];omega
  have w7:IntKind.u64.wrap (o:Int)=(o:Int):=by rw[IntKind.wrap_u64];omega
  have hpos:(0:Int)≤(dn:Int)-fn+(bg g.k:Nat):=by omega
  have HM:=ae hm;have HRC:=ae hrc;have Xn:=ae hdn;have Es:=ae hbn;have vU:=ae hto;have HKG:=ae hkg;have xE:=ae g7;have MB:=ae g8;have MC:=ae g9;have pM:Hid (x'.rank=c1.base+o):=ae (by rw[g5];omega);have yQ:=ae (fun W (hk:Kp none' W0 W)=>O7 (hm.old hk) hrc hdn hbn hro x'.rank (by rw[pM.out];omega) hxr (fun i hi=>by rw[hI]at hi;have h2:=hrc.lS;rw[hI]at h2;exact kN h2 hi));have HII:=ae hI;clear hm hrc hdn hbn hto hkg hm0 hmn g1 g4 g5 g7 g8 g9 hfn2 tu ho2 hT0 hI;generalize hsz:bg g.k=z at*;have MF:=ae hsz;clear hsz
  go_wp2_with fail
  refine Ai.out.mono ?_;rintro e W1 ⟨rfl,k1⟩;have K1:=ae k1;have c0:=k1.cell c0 (fun x=>x);have c2:=k1.cell c2 (fun x=>x);clear k1 Ai
  go_wp2_with fail
  refine(Gh.out _ K1.out).mono ?_;rintro e W2 ⟨rfl,k2⟩;have K2:=ae (K1.out.trans k2);have c0:=k2.cell c0 (fun x=>x);have c2:=k2.cell c2 (fun x=>x);clear k2 K1 Gh
  go_wp2_with fail
  refine(Aj.out _ K2.out).mono ?_;rintro e W3 ⟨rfl,k3⟩;have K3:=ae (K2.out.trans k3);have c0:=k3.cell c0 (fun x=>x);have c2:=k3.cell c2 (fun x=>x);clear k3 K2 Aj
  go_wp2_with fail
  refine af [] [0,1,2,3,4,5,6,7,8,9,10,11,12] 13 (by kernel_rfl) (by kernel_rfl) (fun c a d u w h=>by cases d<;>exact h) ?_;simp only[pick,bn];show aA _ _ _ _ _ _
  repeat((first
   |refine ah (by exact rfl) (by as_aux_lemma=>intro W hK;have e2:=hK.cell c2 (fun x=>x);have e3:=w1;have e4:=w2;have e5:=w3;have e6:=w4;have e7:=hpos;have e8:=w5;have e9:=w6;have e10:=w7;go_simp;exact rfl) ?_
   |refine ai (by exact rfl) ?_);simp only[Act.put,aY])
  show ∀W,_→wpList _ _ _ _ _ _
  intro W4 hK4;have K4:=ae (K3.out.trans hK4);have c2:=hK4.cell c2 (fun x=>x);clear hK4 K3 c0;have hcast:((x'.rank:Nat):Int)=(c1.base:Int)+o:=by rw[pM.out];omega
  simp only[hcast]at yQ HP;have HCA:=ae hcast;clear hcast;by_cases ho:o=0
  ·have ho1:(((c1.base:Int)+o) != (c1.base:Int))=false:=by simp[ho]
   have ho2:(((c1.base:Int)+o)==(c1.base:Int))=true:=by simp[ho]
   clear yQ
   go_wp2_with fail
   refine HP.out _ _ ⟨rfl,g,c1,HM.out.old K4.out,vU.out.trans (ed.old K4.out),by rw[MF.out];exact HRC.out,by rw[MF.out];exact Xn.out,by rw[pM.out,ho];rfl,Es.out⟩
  ·have ho1:(((c1.base:Int)+o) != (c1.base:Int))=true:=by simp;omega
   have ho2:(((c1.base:Int)+o)==(c1.base:Int))=false:=by simp;omega
   go_wp2_with fail
   refine(yQ.out W4 K4.out).mono ?_;rintro e W5 ⟨rfl,f5,c5,q1,q2,q3,q4,q5,q6,q7⟩;have Q1:=ae q1;have Q2:=ae q2;have Q3:=ae q3;have Q4:=ae q4;have Q5:=ae q5;have Q6:=ae q6;clear q1 q2 q3 q4 q5 q6 q7 yQ c2
   go_wp2_with fail
   refine HP.out _ _ ⟨rfl,f5,c5,Q1.out,(vU.out.trans (ed.old K4.out)).trans Q2.out,Q3.out,Q4.out,Q5.out,Q6.out⟩
theorem cZ.QR {sz room:Nat} {c:oh} {x:It} {T:List It} (h:cZ sz room c (x::T)) (hd:Dn sz c) (hb:c.base=x.rank):∃k r,c.R.q (bM sz x.rank)=k::r∧c.R.find k=some x.x:=by
 have h1:=h.qh;have h2:=h.win x.rank (by omega) (by omega);rw[hd.xs (by omega),List.append_nil,nT,if_pos rfl]at h2;cases hq:c.R.q (bM sz x.rank)with
 |nil=>unfold things at h2;rw[hq]at h2;cases h2
 |cons k r=>
  refine⟨k,r,rfl,?_⟩;unfold things at h2;rw[hq,List.map_cons]at h2;injection h2 with h3 _
  exact h3.symm
theorem EN {S:PS Pk} {R:RP Pk} (h:Rel S R) {j:Nat} (hj:j<S.qs.length) {k:Int} {r:List Int} (hq:R.q (j:Int)=k::r):rU S j=k∧0≤k:=by
 obtain⟨hd,tl,e⟩:∃hd tl,S.qs[j]? =some (hd,tl):=⟨_,_,(List.getElem?_eq_some_iff.2 ⟨hj,rfl⟩)⟩
 have h1:=(h.queue j hd tl e).1;rw[hq]at h1;exact⟨by unfold rU;rw[e];exact h1.1,h1.1▸h1.2.1⟩
theorem Xo {S:PS Pk} {R:RP Pk} (h:Rel S R) {k:Int} {x:Pk} (hf:R.find k=some x):∃c,tk S k=some c∧c.x=x:=by
 have:=h.find k;rw[hf]at this;obtain⟨c,hc,e⟩:=Option.map_eq_some_iff.1 this;exact⟨c,hc,e⟩
set_option maxRecDepth 100000 in
theorem O9 {w:World} {cb:Nat} {f:f_} {room nb na:Nat} {c:oh} (h:dW w cb f room nb na c.base c.B c.A c.P c.m) (hR:cZ (bg f.k) room c []) (hro:room≤4096):
 Calls Tryz.prog 285 #[.pointer (some ⟨cb,0,none⟩)] w fun e w'=>e=.returned (.tuple #[.int .u64 0,.agg #[.int .u32 0,.int .u32 0,.int .u64 0],.bool false])∧Kp none' w w':=by
 have HL:=ae (fun W (k:Kp none' w W)=>EM (h.old k) hR hro);have HL:Hid (∀W,Kp none' w W→Calls Tryz.prog 280 #[.pointer (some ⟨cb,0,none⟩)] W fun e w'=>e=.returned (.int .i64 0)∧Kp none' W w'):=HL;clear h hR;have aB:Hid (Kp none' w ((w.alloc (.cells #[.int .u32 0,.int .u32 0,.int .u64 0] 62)).alloc (.cells #[.int .u32 0,.int .u32 0,.int .u64 0] 62))):=((Kp.refl none' w).alloc _).alloc _;have HR0:=ae ((ag.new w [.int .u32 0,.int .u32 0,.int .u64 0] 62).alloc (.cells #[.int .u32 0,.int .u32 0,.int .u64 0] 62));have HX0:Hid (ag ((w.alloc (.cells #[.int .u32 0,.int .u32 0,.int .u64 0] 62)).alloc (.cells #[.int .u32 0,.int .u32 0,.int .u64 0] 62)) (w.heap.size+1) [.int .u32 0,.int .u32 0,.int .u64 0] 62):=by
  have:=ag.new (w.alloc (.cells #[.int .u32 0,.int .u32 0,.int .u64 0] 62)) [.int .u32 0,.int .u32 0,.int .u64 0] 62;simp only[World.size_alloc]at this;exact this
 refine ay ?_;intro PP HP
 go_enter Tryz.func285,Tryz.ntmps285
 go_upto_region 2 with fail
 generalize (w.alloc (.cells #[.int .u32 0,.int .u32 0,.int .u64 0] 62)).alloc (.cells #[.int .u32 0,.int .u32 0,.int .u64 0] 62)=w0 at*
 go_wp2_with fail
 refine(HL.out _ aB.out).mono ?_;rintro e w1 ⟨rfl,k1⟩;have ax:=ae (aB.out.trans k1);have HR1:=ae (HR0.out.kp k1 (fun x=>x));have gX:=ae (HX0.out.kp k1 (fun x=>x));have x0:=gX.out.cell 0 rfl;have x1:=gX.out.cell 1 rfl;have x2:=gX.out.cell 2 rfl;have r0:=HR1.out.cell 0 rfl;have r1:=HR1.out.cell 1 rfl;have r2:=HR1.out.cell 2 rfl;have fz:=fun j=>HR1.out.fz j
 clear k1 aB HR0 HX0 HL
 go_wp2_with fail
 go_region
 all_goals
  go_wp2_with fail
  exact gY (by exact rfl) ((((HR1.out.set 0 (.int .u32 0)).set 1 (.int .u32 0)).set 2 (.int .u64 0)).drew) _ Tryz.underlying62 rfl fZ (by exact rfl) (HP.out _ _ ⟨rfl,(((ax.out.set (p:=⟨w.heap.size,0,none⟩) (.inr (Nat.le_refl _)) _).set (p:=⟨w.heap.size,1,none⟩) (.inr (Nat.le_refl _)) _).set (p:=⟨w.heap.size,2,none⟩) (.inr (Nat.le_refl _)) _).drew⟩)
set_option maxRecDepth 100000 in
theorem H7 {w:World} {cb:Nat} {f:f_} {room nb na:Nat} {c:oh} {I:List It} (h:dW w cb f room nb na c.base c.B c.A c.P c.m) (hR:cZ (bg f.k) room c I) (hro:room≤4096) {b:En Pk} {B':List (En Pk)} (hB:c.B=b::B'):
 Calls Tryz.prog 285 #[.pointer (some ⟨cb,0,none⟩)] w fun e w'=>e=.returned (.tuple #[.int .u64 b.rank,.agg (rG b.x).toArray,.bool true])∧Kp none' w w':=by
 have HL:=ae (fun W (k:Kp none' w W)=>EM (h.old k) hR hro);obtain⟨T,hI⟩:=hR.Bh hB;have hz:((I.length:Int)==0)=false:=by rw[hI,List.length_cons];simp;omega
 have c3:=h.top.cell 3 rfl;have g_:=ae (fun W (k:Kp none' w W)=>zS (h.old k).low);rw[hB]at g_;obtain⟨r,cm,⟨fl,id,ln⟩⟩:=b;have g_:Hid (∀W,Kp none' w W→Calls Tryz.prog 274 #[.pointer (some ⟨f.bb,0,none⟩)] W fun e w'=>e=.returned (.tuple #[.int .u64 (r:Int),.agg #[.int .u32 (fl:Int),.int .u32 (id:Int),.int .u64 (ln:Int)],.bool true])∧Kp none' W w'):=g_;show Calls _ _ _ _ fun e w'=>e=.returned (.tuple #[.int .u64 (r:Int),.agg #[.int .u32 (fl:Int),.int .u32 (id:Int),.int .u64 (ln:Int)],.bool true])∧_
 clear h hR hB hI;generalize I.length=li at*;have aB:Hid (Kp none' w ((w.alloc (.cells #[.int .u32 0,.int .u32 0,.int .u64 0] 62)).alloc (.cells #[.int .u32 0,.int .u32 0,.int .u64 0] 62))):=((Kp.refl none' w).alloc _).alloc _;have HR0:=ae ((ag.new w [.int .u32 0,.int .u32 0,.int .u64 0] 62).alloc (.cells #[.int .u32 0,.int .u32 0,.int .u64 0] 62));have HX0:Hid (ag ((w.alloc (.cells #[.int .u32 0,.int .u32 0,.int .u64 0] 62)).alloc (.cells #[.int .u32 0,.int .u32 0,.int .u64 0] 62)) (w.heap.size+1) [.int .u32 0,.int .u32 0,.int .u64 0] 62):=by
  have:=ag.new (w.alloc (.cells #[.int .u32 0,.int .u32 0,.int .u64 0] 62)) [.int .u32 0,.int .u32 0,.int .u64 0] 62;simp only[World.size_alloc]at this;exact this
 refine ay ?_;intro PP HP
 go_enter Tryz.func285,Tryz.ntmps285
 go_upto_region 2 with fail
 generalize (w.alloc (.cells #[.int .u32 0,.int .u32 0,.int .u64 0] 62)).alloc (.cells #[.int .u32 0,.int .u32 0,.int .u64 0] 62)=w0 at*
 go_wp2_with fail
 refine(HL.out _ aB.out).mono ?_;rintro e w1 ⟨rfl,k1⟩;have ax:=ae (aB.out.trans k1);have HR1:=ae (HR0.out.kp k1 (fun x=>x));have gX:=ae (HX0.out.kp k1 (fun x=>x));have y3:=ax.out.cell c3 (fun x=>x)
 go_wp2_with fail
 refine(g_.out _ ax.out).mono ?_;rintro e w2 ⟨rfl,k2⟩;have ak:=ae ((ax.out.trans k2).alloc (.cells #[.int .u32 (fl:Int),.int .u32 (id:Int),.int .u64 (ln:Int)] 62));have HR2:=ae ((HR1.out.kp k2 (fun x=>x)).alloc (.cells #[.int .u32 (fl:Int),.int .u32 (id:Int),.int .u64 (ln:Int)] 62));have qA:=ae (ag.new w2 [.int .u32 (fl:Int),.int .u32 (id:Int),.int .u64 (ln:Int)] 62);clear k2 ax HR1 gX g_ y3
 go_upto_region 6 with fail
 generalize w2.alloc (.cells #[.int .u32 (fl:Int),.int .u32 (id:Int),.int .u64 (ln:Int)] 62)=w3 at*;have x0:=qA.out.cell 0 rfl;have x1:=qA.out.cell 1 rfl;have x2:=qA.out.cell 2 rfl;have r0:=HR2.out.cell 0 rfl;have r1:=HR2.out.cell 1 rfl;have r2:=HR2.out.cell 2 rfl;have fz:=fun j=>HR2.out.fz j
 go_region
 all_goals
  go_wp2_with fail
  exact gY (by exact rfl) ((((HR2.out.set 0 (.int .u32 (fl:Int))).set 1 (.int .u32 (id:Int))).set 2 (.int .u64 (ln:Int))).drew) _ Tryz.underlying62 rfl fZ (by exact rfl) (HP.out _ _ ⟨rfl,(((ak.out.set (p:=⟨w.heap.size,0,none⟩) (.inr (Nat.le_refl _)) _).set (p:=⟨w.heap.size,1,none⟩) (.inr (Nat.le_refl _)) _).set (p:=⟨w.heap.size,2,none⟩) (.inr (Nat.le_refl _)) _).drew⟩)
set_option maxRecDepth 100000 in
theorem H8 {w:World} {cb:Nat} {f:f_} {room nb na:Nat} {c:oh} {I:List It} {x:It} {T:List It} (h:dW w cb f room nb na c.base c.B c.A c.P c.m) (hR:cZ (bg f.k) room c I) (hd:Dn (bg f.k) c) (hB:c.B=[]) (hro:room≤4096) (hI:I=x::T) (hT:Tab w) (hg:¬f.all cb 0):
 Calls Tryz.prog 285 #[.pointer (some ⟨cb,0,none⟩)] w fun e w'=>e=.returned (.tuple #[.int .u64 x.rank,.agg (rG x.x).toArray,.bool true])∧
  ∃f' c',dW w' cb f' room nb na c'.base c'.B c'.A c'.P c'.m∧ed w cb f w' f'∧cZ (bg f'.k) room c' I∧Dn (bg f'.k) c'∧c'.base=x.rank∧c'.B=[]:=by
 have HL:=ae (fun W (k:Kp none' w W)=>EM (h.old k) hR hro);have hz:((I.length:Int)==0)=false:=by rw[hI,List.length_cons];simp;omega
 have c3:=h.top.cell 3 rfl;have g_:=ae (fun W (k:Kp none' w W)=>zS (h.old k).low);rw[hB]at g_;have g_:Hid (∀W,Kp none' w W→Calls Tryz.prog 274 #[.pointer (some ⟨f.bb,0,none⟩)] W fun e w'=>e=.returned (.tuple #[.int .u64 0,.agg #[.int .u32 0,.int .u32 0,.int .u64 0],.bool false])∧Kp none' W w'):=g_;have HHD:=ae (fun W (k:Kp none' w W)=>acJ (h.old k) hR hd hB hro hI (hT.kp k (fun x=>x)) hg);have HI:=ae hI;have hnr:¬f.all cb w.heap.size:=fun e=>by have:=h.TT e;omega
 clear h hR hB hI hd hT hg;generalize I.length=li at*;obtain⟨xr,⟨fl,id,ln⟩⟩:=x;show Calls _ _ _ _ fun e w'=>e=.returned (.tuple #[.int .u64 (xr:Int),.agg #[.int .u32 (fl:Int),.int .u32 (id:Int),.int .u64 (ln:Int)],.bool true])∧_
 have aB:Hid (Kp none' w ((w.alloc (.cells #[.int .u32 0,.int .u32 0,.int .u64 0] 62)).alloc (.cells #[.int .u32 0,.int .u32 0,.int .u64 0] 62))):=((Kp.refl none' w).alloc _).alloc _;have HR0:=ae ((ag.new w [.int .u32 0,.int .u32 0,.int .u64 0] 62).alloc (.cells #[.int .u32 0,.int .u32 0,.int .u64 0] 62));have HX0:Hid (ag ((w.alloc (.cells #[.int .u32 0,.int .u32 0,.int .u64 0] 62)).alloc (.cells #[.int .u32 0,.int .u32 0,.int .u64 0] 62)) (w.heap.size+1) [.int .u32 0,.int .u32 0,.int .u64 0] 62):=by
  have:=ag.new (w.alloc (.cells #[.int .u32 0,.int .u32 0,.int .u64 0] 62)) [.int .u32 0,.int .u32 0,.int .u64 0] 62;simp only[World.size_alloc]at this;exact this
 refine ay ?_;intro PP HP
 go_enter Tryz.func285,Tryz.ntmps285
 go_upto_region 2 with fail
 generalize (w.alloc (.cells #[.int .u32 0,.int .u32 0,.int .u64 0] 62)).alloc (.cells #[.int .u32 0,.int .u32 0,.int .u64 0] 62)=w0 at*
 go_wp2_with fail
 refine(HL.out _ aB.out).mono ?_;rintro e w1 ⟨rfl,k1⟩;have ax:=ae (aB.out.trans k1);have HR1:=ae (HR0.out.kp k1 (fun x=>x));have gX:=ae (HX0.out.kp k1 (fun x=>x));have y3:=ax.out.cell c3 (fun x=>x)
 go_wp2_with fail
 refine(g_.out _ ax.out).mono ?_;rintro e w2 ⟨rfl,k2⟩;have ak:=ae ((ax.out.trans k2).alloc (.cells #[.int .u32 0,.int .u32 0,.int .u64 0] 62));have HR2:=ae ((HR1.out.kp k2 (fun x=>x)).alloc (.cells #[.int .u32 0,.int .u32 0,.int .u64 0] 62));clear k2 ax HR1 gX g_ y3 c3
 go_upto_region 5 with fail
 generalize w2.alloc (.cells #[.int .u32 0,.int .u32 0,.int .u64 0] 62)=w3 at*
 go_wp2_with fail
 refine(HHD.out _ ak.out).mono ?_;rintro e w4 ⟨rfl,f4,c4,q1,q2,q3,q4,q5,q6⟩;have hR4:=HR2.out.kp q2.kp hnr;have HR4:=ae hR4;rw[HI.out]at q3;obtain⟨k,rr,hq,hf⟩:=q3.QR q4 q5;obtain⟨j,hj⟩:∃j:Nat,xr%bg f4.k=j:=⟨_,rfl⟩
 have hdj:bM (bg f4.k) xr=(j:Int):=by unfold bM;rw[hj]
 have hjl:j<c4.P.qs.length:=by have:=q3.day xr;rw[hdj]at this;omega
 have pY:c4.P.qs.length≤262144:=by rw[q3.qs];exact q3.qh.2
 simp only at hq hf;rw[hdj]at hq;obtain⟨hh,hk0⟩:=EN q3.rel hjl hq;obtain⟨kn,rfl⟩:∃n:Nat,k=n:=⟨k.toNat,by omega⟩
 obtain⟨ce,htk,hcx⟩:=Xo q3.rel hf;have Ai:=ae (fun W (hk:Kp none' w4 W)=>(by have:=Hu (q1.old hk) xr;rw[hdj]at this;exact this));have Gi:=ae (fun W (hk:Kp none' w4 W)=>(by have:=O5 W _ _ _ _ _ (q1.old hk).pool q3.rel j hjl pY;rw[hh,if_neg (by omega),decide_eq_true (by omega)]at this;exact aT this:Calls Tryz.prog 289 #[.pointer (some ⟨f4.pp,0,none⟩),.int .i64 (j:Int)] W fun e w'=>e=.returned (.tuple #[.int .i64 (kn:Int),.bool true])∧Kp none' W w'));have KA:=ae (fun W (hk:Kp none' w4 W)=>(by have:=ad8 W _ _ _ _ (q1.old hk).pool kn ce htk q3.rel.len;rw[hcx]at this;exact this:Calls Tryz.prog 291 #[.pointer (some ⟨f4.pp,0,none⟩),.int .i64 (kn:Int)] W fun e w'=>e=.returned (.tuple #[.agg #[.int .u32 (fl:Int),.int .u32 (id:Int),.int .u64 (ln:Int)],.bool true])∧Kp none' W w'));have c1:=q1.top.cell 1 rfl;have hrl:=hR4.lt;have Q1:=ae q1;have Q2:=ae ((ed.old ak.out).trans q2);have Q3:=ae q3;have Q4:=ae q4;have Q5:Hid (c4.base=xr):=ae q5;have Q6:=ae q6;have abx:¬f4.all cb w.heap.size:=fun e=>by
  rcases q2.nw _ e with h|h
  ·exact hnr h
  ·have:=HR2.out.lt;omega
 have IU:=ae abx;clear q1 q2 q3 q4 q5 q6 hR4 hq hf hh hk0 htk hcx hdj hj hjl pY HHD HR2 ak abx
 go_wp2_with fail
 go_region_held3 (fun w'=>w'.cell? ⟨cb,1,none⟩=some (.pointer (some ⟨f4.pp,0,none⟩))) (go_keep)
  (first
   |(go_at_call 290;refine(Ai.out _ (Kp.refl none' w4).drew).mono ?_;rintro e w5 ⟨rfl,hk5⟩
     have c1:=hk5.cell c1 (fun x=>x);have a_:=ae ((Kp.refl none' w4).drew.trans hk5)
     clear hk5)
   |(go_at_call 289;refine(Gi.out _ a_.out).mono ?_;rintro e w6 ⟨rfl,hk6⟩
     have c1:=hk6.cell c1 (fun x=>x);have b_:=ae (a_.out.trans hk6)
     clear hk6))
 go_wp2_with fail
 refine(KA.out _ b_.out).mono ?_;rintro e w7 ⟨rfl,k7⟩;have oH:=ae ((b_.out.trans k7).alloc (.cells #[.int .u32 (fl:Int),.int .u32 (id:Int),.int .u64 (ln:Int)] 62));have yP:=ae (HR4.out.kp oH.out (fun x=>x));have Tt:=ae (ag.new w7 [.int .u32 (fl:Int),.int .u32 (id:Int),.int .u64 (ln:Int)] 62);clear k7 Ai Gi KA a_ b_ HR4 c1
 go_upto_region 10 with fail
 generalize w7.alloc (.cells #[.int .u32 (fl:Int),.int .u32 (id:Int),.int .u64 (ln:Int)] 62)=w8 at*;have x0:=Tt.out.cell 0 rfl;have x1:=Tt.out.cell 1 rfl;have x2:=Tt.out.cell 2 rfl;have r0:=yP.out.cell 0 rfl;have r1:=yP.out.cell 1 rfl;have r2:=yP.out.cell 2 rfl;have fz:=fun j=>yP.out.fz j
 go_region
 all_goals
  go_wp2_with fail
  have ks:Kp (fun b=>b=w.heap.size) w8 ((((w8.setCell ⟨w.heap.size,0,none⟩ (.int .u32 (fl:Int))).setCell ⟨w.heap.size,1,none⟩ (.int .u32 (id:Int))).setCell ⟨w.heap.size,2,none⟩ (.int .u64 (ln:Int))).drew):=((((Kp.refl (fun b=>b=w.heap.size) w8).set (p:=⟨w.heap.size,0,none⟩) (.inl rfl) _).set (p:=⟨w.heap.size,1,none⟩) (.inl rfl) _).set (p:=⟨w.heap.size,2,none⟩) (.inl rfl) _).drew;refine gY (by exact rfl) ((((yP.out.set 0 (.int .u32 (fl:Int))).set 1 (.int .u32 (id:Int))).set 2 (.int .u64 (ln:Int))).drew) _ Tryz.underlying62 rfl fZ (by exact rfl) (HP.out _ _ ⟨rfl,f4,c4,(Q1.out.old oH.out).kp ks (fun b hb e=>IU.out (by rw[←e];exact hb)),?_,by rw[HI.out];exact Q3.out,Q4.out,Q5.out,Q6.out⟩);have t8:ed w cb f w8 f4:=Q2.out.trans (ed.old oH.out);exact⟨t8.kp.then ks (fun i hi e=>by omega),t8.nw⟩
theorem O_ {S:PS Pk} {R:RP Pk} (h:Rel S R) {j:Nat} (hj:j<S.qs.length) (hq:R.q (j:Int)=[]):rU S j= -1:=by
 obtain⟨hd,tl,e⟩:∃hd tl,S.qs[j]? =some (hd,tl):=⟨_,_,(List.getElem?_eq_some_iff.2 ⟨hj,rfl⟩)⟩
 have h1:=(h.queue j hd tl e).1;rw[hq]at h1;unfold rU;rw[e];exact h1
set_option maxRecDepth 100000 in
theorem Xp {w:World} {cb:Nat} {f:f_} {room nb na:Nat} {c:oh} {I:List It} (h:dW w cb f room nb na c.base c.B c.A c.P c.m) (hR:cZ (bg f.k) room c I) (hro:room≤4096) {b:En Pk} {B':List (En Pk)} (hB:c.B=b::B'):
 Calls Tryz.prog 286 #[.pointer (some ⟨cb,0,none⟩)] w fun e w'=>(∃x y z,e=.returned (.tuple #[x,y,z]))∧∃f',dW w' cb f' room nb na c.base B' c.A c.P c.m∧ed w cb f w' f'∧f'.k=f.k:=by
 have g_:=ae (fun W (k:Kp none' w W)=>H7 (h.old k) hR hro hB);have c3:=h.top.cell 3 rfl;have HL:=ae (fun W (k:Kp none' w W)=>aT (Jk (h.old k).low));have EK:=ae (fun W (k:Kp none' w W)=>(by have:=(h.old k).low;rw[hB]at this;exact OG this));have hlb:(0:Int)<c.B.length:=by rw[hB,List.length_cons];omega
 have HH:=ae h;have hnr:¬f.all cb w.heap.size:=fun e=>by have:=h.TT e;omega
 clear h hR hB;generalize c.B.length=lb at*;obtain⟨r,cm,⟨fl,id,ln⟩⟩:=b;have g_:Hid (∀W,Kp none' w W→Calls Tryz.prog 285 #[.pointer (some ⟨cb,0,none⟩)] W fun e w'=>e=.returned (.tuple #[.int .u64 (r:Int),.agg #[.int .u32 (fl:Int),.int .u32 (id:Int),.int .u64 (ln:Int)],.bool true])∧Kp none' W w'):=g_;have EK:Hid (∀W,Kp none' w W→Calls Tryz.prog 275 #[.pointer (some ⟨f.bb,0,none⟩)] W fun e w'=>e=.returned (.tuple #[.int .u64 (r:Int),.agg #[.int .u32 (fl:Int),.int .u32 (id:Int),.int .u64 (ln:Int)],.bool true])∧Hp w' f.FB f.bb room nb B'∧Kp f.FB W w'):=EK;have aB:Hid (Kp none' w (w.alloc (.cells #[.int .u32 0,.int .u32 0,.int .u64 0] 62))):=(Kp.refl none' w).alloc _;have HR0:=ae (ag.new w [.int .u32 0,.int .u32 0,.int .u64 0] 62);refine ay ?_;intro PP HP
 go_enter Tryz.func286,Tryz.ntmps286
 go_upto_region 1 with fail
 generalize w.alloc (.cells #[.int .u32 0,.int .u32 0,.int .u64 0] 62)=w0 at*
 go_wp2_with fail
 refine(g_.out _ aB.out).mono ?_;rintro e w1 ⟨rfl,k1⟩;have ax:=ae ((aB.out.trans k1).alloc (.cells #[.int .u32 (fl:Int),.int .u32 (id:Int),.int .u64 (ln:Int)] 62));have HR1:=ae ((HR0.out.kp k1 (fun x=>x)).alloc (.cells #[.int .u32 (fl:Int),.int .u32 (id:Int),.int .u64 (ln:Int)] 62));clear k1 aB HR0 g_
 go_upto_region 2 with fail
 generalize w1.alloc (.cells #[.int .u32 (fl:Int),.int .u32 (id:Int),.int .u64 (ln:Int)] 62)=w2 at*;have y3:=ax.out.cell c3 (fun x=>x)
 go_wp2_with fail
 refine(HL.out _ ax.out).mono ?_;rintro e w3 ⟨rfl,k3⟩;have aF:=ae (ax.out.trans k3);have HR3:=ae (HR1.out.kp k3 (fun x=>x));have y3:=aF.out.cell c3 (fun x=>x);clear k3 ax HR1 HL c3
 go_wp2_with fail
 refine(EK.out _ aF.out).mono ?_;rintro e w4 ⟨rfl,p4,k4⟩;have Bl:=ae ((HH.out.old aF.out).QP p4 k4 (Nw.refl _ _));have HT4:=ae ((ed.old (cb:=cb) (f:=f) aF.out).trans Bl.out.2);have HR4:=ae (HR3.out.kp k4 (fun e=>hnr ⟨f.FB,by simp[f_.parts],e⟩));have r0:=HR4.out.cell 0 rfl;have r1:=HR4.out.cell 1 rfl;have r2:=HR4.out.cell 2 rfl;have fz:=fun j=>HR4.out.fz j
 clear p4 k4 EK aF HR3 y3
 go_wp2_with fail
 have ks:Kp (fun b=>b=w.heap.size) w4 (((w4.setCell ⟨w.heap.size,0,none⟩ (.int .u32 (fl:Int))).setCell ⟨w.heap.size,1,none⟩ (.int .u32 (id:Int))).setCell ⟨w.heap.size,2,none⟩ (.int .u64 (ln:Int))):=(((Kp.refl (fun b=>b=w.heap.size) w4).set (p:=⟨w.heap.size,0,none⟩) (.inl rfl) _).set (p:=⟨w.heap.size,1,none⟩) (.inl rfl) _).set (p:=⟨w.heap.size,2,none⟩) (.inl rfl) _;refine gY (by exact rfl) (((HR4.out.set 0 (.int .u32 (fl:Int))).set 1 (.int .u32 (id:Int))).set 2 (.int .u64 (ln:Int))) _ Tryz.underlying62 rfl fZ (by exact rfl) (HP.out _ _ ⟨⟨_,_,_,rfl⟩,_,Bl.out.1.kp ks (fun b hb e=>hnr (by rw[←e];exact hb)),⟨HT4.out.kp.then ks (fun i hi e=>by omega),HT4.out.nw⟩,rfl⟩)
end Go.Proofs.YtjiehhlghjnfhaaGreatDoor.cq
