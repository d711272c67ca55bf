/- Which rule is found; its flow; how many there are. -/
import Derived.Test.YtjiehhlghjnfhaaGreatDoorMTopLineF25
import Derived.Test.YtjiehhlghjnfhaaGreatDoorMTopLineF0
import Derived.Test.YtjiehhlghjnfhaaGreatDoorMTopLineF22
import Derived.Deep.RegionWith
import Derived.Deep.RegionHeld3
set_option linter.unusedVariables false
set_option linter.unusedSimpArgs false
set_option maxHeartbeats 8000000
namespace Go.Proofs.YtjiehhlghjnfhaaGreatDoor
open Go.RowKit
theorem aeM (w:World) (tb:Nat) (l:List dI) (H:Nk w tb l):Calls Tryz.prog 162 #[.pointer (some ⟨tb,0,none⟩)] w fun e w'=>e=.returned (.int .i64 l.length)∧w=w':=by
 obtain⟨base,base',sb,db,sn,dn,S,D,zs,pv,fv,h1,h2,h3,h4,h5,h6,hz9,h7,h8⟩:=H.is;obtain⟨ao,cap,rfl,_⟩:=h8.is;have c3:=h1.cell 3 rfl;clear h1 h2 h3 h4 h5 h6 h7 h8 H
 go_enter Tryz.func162,Tryz.ntmps162
 go_wp2
 go_ret
 exact⟨rfl,rfl⟩
def Nl (o:Option Nat):Nat:=match o with|none=>0|some i=>i
def Np (o:Option Nat):Bool:=match o with|none=>false|some _=>true
set_option maxRecDepth 100000 in
theorem aaC (w:World) (tb:Nat) (l:List dI) (hok:∀r∈l,r.Ok) (hc:oC l=0) (H:Nk w tb l) (hT:Tab w) (h:kF) (hh:h.Ok):
 Calls Tryz.prog 104 #[.pointer (some ⟨tb,0,none⟩),.agg #[.int .u8 h.ds,.int .u16 h.id,.int .u8 h.eX,.int .u32 h.s,.int .u32 h.d,.int .u16 h.sp,.int .u16 h.p]] w fun e w'=>e=.returned (.tuple #[.int .i64 (Nl (rC l h.n):Nat),.bool (Np (rC l h.n))])∧Kp none' w w':=by
 have k0:=(Kp.refl none' w).alloc (.cells #[.int .u8 h.ds,.int .u16 h.id,.int .u8 h.eX,.int .u32 h.s,.int .u32 h.d,.int .u16 h.sp,.int .u16 h.p] 44);have HL:=ae (aeM _ tb l (H.old k0));have HH:=ae (ac_ _ tb l hok hc (H.old k0) h hh);have HT:=ae hT;have aB:=ae k0;have hz:=(wM.1 hc).1;obtain⟨R,hR⟩:∃R,bitsOf (iZ l h.n) l.length=R:=⟨_,rfl⟩
 have hRl:R<18446744073709551616:=by rw[←hR];exact Nat.lt_of_lt_of_le (uj _ _) (show 2^l.length≤2^64 from Nat.pow_le_pow_right (by decide) hz)
 rw[hR]at HH;by_cases hl0:l.length=0
 ·have hf:rC l h.n=none:=BM.2 (fun j hj=>by omega);rw[hf];rw[hl0]at HL;clear H hT k0 hR
  go_enter Tryz.func104,Tryz.ntmps104
  go_wp2_with(go_at_call 162;refine HL.out.mono ?_;rintro e w1 ⟨rfl,rfl⟩)
  go_ret2
  exact⟨rfl,aB.out⟩
 ·by_cases hR0:R=0
  ·have hf:rC l h.n=none:=Ko (by rw[hR,hR0]);rw[hf];rw[hR0]at HH;have hl1:¬(l.length:Int)=0:=by omega
   clear H hT k0 hR hRl hR0 hl0
   go_enter Tryz.func104,Tryz.ntmps104
   go_wp2_with(first
        |(go_at_call 162;refine HL.out.mono ?_;rintro e w1 ⟨rfl,rfl⟩)
        |(go_at_call 163;refine HH.out.mono ?_;rintro e w2 ⟨rfl,hk2⟩;have ak:=ae hk2;clear hk2))
   go_ret2
   exact⟨rfl,aB.out.trans ak.out⟩
  ·have hf:rC l h.n=some (Lib.ctz 64 R):=by rw[←hR];exact N9 hz (by rw[hR];exact hR0)
   rw[hf];have hTZ:=ae (fun W (k:Kp none' w W)=>tz R hRl W (HT.out.kp k (fun x=>x)));have hl1:¬(l.length:Int)=0:=by omega
   have hR1:¬(R:Int)=0:=by omega
   obtain⟨c,hcz⟩:∃c,Lib.ctz 64 R=c:=⟨_,rfl⟩
   rw[hcz]at hTZ ⊢;clear H hT k0 hR hRl hR0 hl0 hcz
   go_enter Tryz.func104,Tryz.ntmps104
   go_wp2_with(first
        |(go_at_call 162;refine HL.out.mono ?_;rintro e w1 ⟨rfl,rfl⟩)
        |(go_at_call 163;refine HH.out.mono ?_;rintro e w2 ⟨rfl,hk2⟩;have ak:=ae (aB.out.trans hk2);clear hk2)
        |(go_at_call 164;refine(hTZ.out _ ak.out).mono ?_;rintro e w3 ⟨rfl,rfl⟩))
   go_ret2
   exact⟨rfl,ak.out⟩
set_option maxRecDepth 100000 in
theorem JJ (w:World) (tb:Nat) (l:List dI) (hok:∀r∈l,r.Ok) (hc:oC l=0) (H:Nk w tb l) (hT:Tab w) (h:kF) (hh:h.Ok):
 Calls Tryz.prog 55 #[.pointer (some ⟨tb,0,none⟩),.agg #[.int .u8 h.ds,.int .u16 h.id,.int .u8 h.eX,.int .u32 h.s,.int .u32 h.d,.int .u16 h.sp,.int .u16 h.p]] w fun e w'=>e=.returned (.tuple #[.int .u32 (Nl (jg l h.n):Nat),.bool (Np (jg l h.n))])∧Kp none' w w':=by
 have k0:=(Kp.refl none' w).alloc (.cells #[.int .u8 h.ds,.int .u16 h.id,.int .u8 h.eX,.int .u32 h.s,.int .u32 h.d,.int .u16 h.sp,.int .u16 h.p] 44);have HF:=ae (aaC _ tb l hok hc (H.old k0) (hT.kp k0 (fun x=>x)) h hh);have HH:=ae (H.old k0);have aB:=ae k0;rw[N_];cases hf:rC l h.n with
 |none=>
  rw[hf]at HF;simp only[Nl,Np]at HF;clear H hT k0 hf
  go_enter Tryz.func55,Tryz.ntmps55
  go_wp2_with(go_at_call 104;refine HF.out.mono ?_;rintro e w1 ⟨rfl,hk1⟩;have ax:=ae (aB.out.trans hk1);clear hk1)
  go_ret2
  exact⟨rfl,ax.out⟩
 |some i=>
  rw[hf]at HF;simp only[Nl,Np]at HF;obtain⟨hi,_,_⟩:=BL.1 hf;have hii:(i:Int)<l.length:=by omega
  simp only[Option.map_some];have hle:l.getD i default=l[i]:=getD_at _ hi;obtain⟨x,hx⟩:∃x,(l.getD i default).fl=x:=⟨_,rfl⟩
  rw[hx];have HX:Hid (l[i].fl=x):=by show _=_;rw[←hle];exact hx
  clear H hT k0 hf hle hx
  go_enter Tryz.func55,Tryz.ntmps55
  go_wp2_with(go_at_call 104;refine HF.out.mono ?_;rintro e w1 ⟨rfl,hk1⟩;have ax:=ae (aB.out.trans hk1);have sJ:=ae (HH.out.old hk1);clear hk1
              obtain⟨base,base',sb,db,sn,dn,S,D,zs,pv,fv,h1,h2,h3,h4,h5,h6,hz9,h7,h8⟩:=sJ.out.is;obtain⟨g,off,cap,rfl,hcl⟩:=h8.at (enc:=fun r=>[Ci r]) (fun _=>rfl) (by decide) i hi;have c3:=h1.cell 3 rfl;have c4:w1.cell? ⟨g,off+i*1,none⟩=some (.int .u32 l[i].fl):=hcl 0 _ rfl;rw[Nat.mul_one,HX.out]at c4
              clear h1 h2 h3 h4 h5 h6 h7 h8 hcl hz9)
  go_ret2
  exact⟨rfl,ax.out⟩
end Go.Proofs.YtjiehhlghjnfhaaGreatDoor
namespace Go.Proofs.YtjiehhlghjnfhaaGreatDoor
structure Mt where
 rate:Nat
 near:Nat
 far:Nat
 a:Nat
 b:Nat
def Mt.zero:Mt:=⟨0,0,0,0,0⟩
structure Mt.Lt (m:Mt):Prop where
 rate:m.rate<18446744073709551616
 near:m.near<18446744073709551616
 far:m.far<18446744073709551616
 a:m.a<18446744073709551616
 b:m.b<18446744073709551616
def FH (m:Mt):Nat:=if m.rate=0 then 27 else if(m.near=0∧m.far=0)∨m.near<m.a∨m.far<m.b then 28 else 0
def JK (m:Mt) (n:Nat):Mt×Nat:=if n≤m.a then({m with a:=m.a-n},1)else if n≤m.b then({m with b:=m.b-n},2)else(m,3)
def aaD (m:Mt) (t:Nat):Mt:=if m.rate*t≤m.near-m.a then {m with a:=m.a+m.rate*t}else {m with a:=m.near,b:=min (m.b+(m.rate*t-(m.near-m.a))) m.far}
structure Mt.Ok (m:Mt):Prop where
 lt:m.Lt
 chk:0<m.rate→FH m=0
theorem wu {m:Mt}:FH m=0↔0<m.rate∧(0<m.near∨0<m.far)∧m.a≤m.near∧m.b≤m.far:=by
 unfold FH;split
 ·constructor<;>omega
 ·split
  ·constructor<;>omega
  ·constructor<;>omega
theorem UJ {m:Mt} (h:m.Lt) (hc:FH m=0) (n:Nat):(JK m n).1.Lt∧FH (JK m n).1=0:=by
 have h1:=wu.1 hc;unfold JK;split
 ·exact⟨⟨h.rate,h.near,h.far,by show m.a-n<_;have:=h.a;omega,h.b⟩,wu.2 ⟨h1.1,h1.2.1,by show m.a-n≤m.near;omega,h1.2.2.2⟩⟩
 ·split
  ·exact⟨⟨h.rate,h.near,h.far,h.a,by show m.b-n<_;have:=h.b;omega⟩,wu.2 ⟨h1.1,h1.2.1,h1.2.2.1,by show m.b-n≤m.far;omega⟩⟩
  ·exact⟨h,hc⟩
structure Po where
 s:Sh
 rl:List dI
 m:Mt
 y:Nat
 wt:Nat→List UInt8
 num:Nat
def Po.lay (p:Po) (id:Nat) (x:List UInt8):Po:= {p with wt:=fun k=>if k=id then x else p.wt k}
def jV (m:Mt) (n:Nat):Mt×Nat:=if m.rate=0 then(m,1)else JK m n
def JL (x:List UInt8) (c y:Nat):List UInt8:=if c=2 then(if acb (lU x) y=0 then acd (lU x) y else[])else lU x
def qx (p:Po) (x:List UInt8):(Nat×Int)×Po:=
 if bZ x≠0 then((0,bZ x),p)
 else match jg p.rl (dV x).n with
 |none=>((0,7),p)
 |some fl=>
  if jh x≠0 then((0,jh x),p)
  else if(jV p.m x.length).2=3 then((0,21),{p with m:=(jV p.m x.length).1})
  else if dN p.s.g fl x.length=0 then((p.num+1,0),{p with m:=(jV p.m x.length).1,s:=(dU p.s fl (p.num+1) x.length).2,num:=p.num+1,wt:=fun k=>if k=p.num+1 then JL x (jV p.m x.length).2 p.y else p.wt k})
  else((0,dN p.s.g fl x.length),{p with m:=(jV p.m x.length).1,s:=(dU p.s fl (p.num+1) x.length).2})
def jd (p:Po):(List UInt8×Int)×Po:=
 if(aX p.s.bk).2=false then(([],18),p)
 else if p.s.tok<(aX p.s.bk).1.x.len then(([],19),p)
 else((p.wt (aX p.s.bk).1.x.id,0),{p with s:=(dA p.s).2,wt:=fun k=>if k=(aX p.s.bk).1.x.id then[]else p.wt k})
def qy (p:Po) (t:Nat):Po:= {p with s:=(xK p.s ⟨3,0,0,0,t⟩).2,m:=if p.m.rate=0 then p.m else aaD p.m t}
end Go.Proofs.YtjiehhlghjnfhaaGreatDoor
namespace Go.Proofs.YtjiehhlghjnfhaaGreatDoor
open Go Go.RowKit Go.Shelf
abbrev iD (w:World) (f:kQ) (s':Sh) (w':World):Prop:=∃f',ShM w' f' s'∧Kp f.all w w'∧Nw w f.all f'.all∧f'.sb=f.sb
set_option maxRecDepth 100000 in
theorem aaE {w:World} {f:kQ} {s:Sh} (kind:Int) (fl id ln tk:Nat) (h:ShM w f s) (hm:dN s.g fl ln=0) (hid:fl<4294967296) (wz:id<4294967296) (hln:ln<18446744073709551616) (hn:jv s.bk<9223372036854775807):
 Calls Tryz.prog 107 #[.pointer (some ⟨f.sb,0,none⟩),.agg #[.int .i64 kind,.int .u32 fl,.int .u32 id,.int .u64 ln,.int .u64 tk]] w fun e w'=>e=.returned (.agg (dU s fl id ln).1.toArray)∧iD w f (dU s fl id ln).2 w':=by
 have jl:=ae (QX h.ok h.gate.ok h.ranks.ok hid wz hln);have hq:dU s fl id ln=(mY 1 0 fl id ln (eu s.r s.now fl ln).1 oP,{s with g:=tH s.g fl ln,r:=(eu s.r s.now fl ln).2,bk:=iY s.bk (eu s.r s.now fl ln).1 ⟨fl,id,ln⟩}):=by unfold dU;rw[if_pos hm]
 rw[hq]at jl ⊢;clear hq;have oI:=ae h.ok;have xY:=h.ok.now;obtain⟨t5,x5,gu,ge,gp,hv,hbc⟩:=h.back.c;have tX:=ae hbc;have zf:=h.back;rw[hv]at zf;have HG:=ae h.gate;have HR:=ae h.ranks;have tY:=ae zf;have HB0:=ae h.top;have hsl:=h.top.lt;have c0:=h.top.cell 0 rfl;have c1:=h.top.cell 1 rfl;have c5:=h.top.cell 5 rfl;have c6:=h.top.cell 6 rfl;have wB:=ae h.sg;have tZ:=ae h.sr;have qF:=ae h.sk;have AL:=ae h.gr;have rX:=ae h.gk;have xM:=ae h.rk;have sV:=ae (fun b hb=>h.gate.lt (b:=b) hb);have xN:=ae (fun b hb=>h.ranks.lt (b:=b) hb);have uJ:=ae (fun b hb=>h.back.lt (b:=b) hb);have hfl:=h.ok.fl;have hroom:(aW s.bk).length<s.g.c.aI.toNat:=by have h1:=h.ok.tot;have h2:=Uw hm;omega
 have hat:0≤findF s.r.fl fl:=by rw[hfl];exact(zY h.gate.ok (Ar hm)).1
 have DI:=ae (fun W (k:jc W f.Fg f.gb s.g)=>by have:=gIn k fl ln hid;rw[hm]at this;exact this);have Gg:=ae (fun W (k:lH W f.Fr f.rb s.r)=>acV k s.now fl ln xY hln hat);have Ep:=ae (fun W (F:Nat→Prop) (r:Nat) (hr:r<18446744073709551616) (k:jT W F (.iface t5 x5) s.g.c.aI.toNat s.bk)=>tX.out.push W F _ _ r fl id ln k hroom hn hr);have l_:=ae h.top;have hwp:=abH s.g fl ln;have HWP:=ae hwp;rw[hv]at c5;have HV:=ae hv;refine ay ?_;intro PP HP;clear h hbc hm hfl hid wz hln hroom hn xY zf hat hwp hv;obtain⟨sb,gb,rb,v,Fg,Fr,Fb⟩:=f;simp only at*;obtain⟨now,hnw⟩:∃now,s.now=now:=⟨_,rfl⟩
 have XV:=ae hnw;simp only[hnw]at Gg c6;clear hnw;have hz0:=ag.new (w.alloc (.cells #[.int .i64 kind,.int .u32 fl,.int .u32 id,.int .u64 ln,.int .u64 tk] 73)) afA 64;have e1:(w.alloc (.cells #[.int .i64 kind,.int .u32 fl,.int .u32 id,.int .u64 ln,.int .u64 tk] 73)).heap.size=w.heap.size+1:=by simp
 rw[e1]at hz0;have HZ0:=ae hz0;have hz1:=ag.new ((w.alloc (.cells #[.int .i64 kind,.int .u32 fl,.int .u32 id,.int .u64 ln,.int .u64 tk] 73)).alloc (.cells afz 64)) [.int .u32 fl,.int .u32 id,.int .u64 ln] 62;have hz2:=ag.new (((w.alloc (.cells #[.int .i64 kind,.int .u32 fl,.int .u32 id,.int .u64 ln,.int .u64 tk] 73)).alloc (.cells afz 64)).alloc (.cells #[.int .u32 fl,.int .u32 id,.int .u64 ln] 62)) afA 64;have hk0:=((((Kp.refl none' w).alloc (.cells #[.int .i64 kind,.int .u32 fl,.int .u32 id,.int .u64 ln,.int .u64 tk] 73)).alloc (.cells afz 64)).alloc (.cells #[.int .u32 fl,.int .u32 id,.int .u64 ln] 62)).alloc (.cells afz 64);have e2:((w.alloc (.cells #[.int .i64 kind,.int .u32 fl,.int .u32 id,.int .u64 ln,.int .u64 tk] 73)).alloc (.cells afz 64)).heap.size=w.heap.size+2:=by simp
 have e3:(((w.alloc (.cells #[.int .i64 kind,.int .u32 fl,.int .u32 id,.int .u64 ln,.int .u64 tk] 73)).alloc (.cells afz 64)).alloc (.cells #[.int .u32 fl,.int .u32 id,.int .u64 ln] 62)).heap.size=w.heap.size+3:=by simp
 rw[e2]at hz1;rw[e3]at hz2;have HZ1:=ae hz1;have HZ2:=ae hz2;have aB:=ae hk0;clear hz0 hz1 hz2 hk0 e1 e2 e3
 go_enter Tryz.func107,Tryz.ntmps107
 go_wp2_with(first
  |(refine aP rfl 64 (.tmp 6) (.tmp 16) rfl HZ2.out [.int .i64 1,.int .i64 0,.int .u32 fl,.int .u32 id,.int .u64 ln,.int .u64 0,.int .u64 0,.int .u64 0,.int .i64 0,.int .u64 0,.int .u64 0,.int .u64 0,.int .u64 0,.int .u64 0,.int .u64 0,.int .u64 0,.int .u64 0,.int .u64 0,.int .u64 0,.int .u64 0,.int .u64 0,.int .u64 0,.int .u64 0,.int .u64 0,.int .u64 0,.int .u64 0,.int .u64 0,.int .u64 0,.int .u64 0,.int .u64 0,.int .u64 0,.int .u64 0,.int .u64 0,.int .u64 0,.int .u64 0,.int .u64 0,.int .u64 0,.int .u64 0,.int .u64 0,.int .u64 0,.int .u64 0,.int .u64 0] rfl rfl rfl aZ rfl ?_
    intro W4 hb4 hk4;have HB4:=ae hb4;have aH:=ae hk4
    clear hb4 hk4))
 have PU:Kp none' w W4:=aB.out.then aH.out (fun b hb e=>by omega)
 have C_:=ae ((HZ1.out.alloc (.cells afz 64)).kp aH.out (fun e=>by omega));have rY:=ae (((HZ0.out.alloc (.cells #[.int .u32 fl,.int .u32 id,.int .u64 ln] 62)).alloc (.cells afz 64)).kp aH.out (fun e=>by omega));have BC:=ae PU;have d0:=PU.cell c0 (fun x=>x);have p0:=C_.out.cell 0 rfl;have p2:=C_.out.cell 2 rfl;clear HZ0 HZ1 HZ2 aB aH PU
 go_wp2_with fail
 refine af [] [0,1,2,3,4,5,6,7] 8 (by kernel_rfl) (by kernel_rfl) (fun c a d u w h=>by cases d<;>exact h) ?_;simp only[pick,bn];show aA _ _ _ _ _ _
 repeat((first
  |refine ah (by exact rfl) (by as_aux_lemma=>intro W hK;have e0:=hK.cell d0 (fun x=>x);have e1:=hK.cell p0 (fun x=>x);have e2:=hK.cell p2 (fun x=>x);go_simp;exact rfl) ?_
  |refine ai (by exact rfl) ?_);simp only[Act.put,aY])
 show ∀W,_→wpList _ _ _ _ _ _
 intro W5 hK5;have PW:=ae (BC.out.trans hK5);have JM:=ae (C_.out.kp hK5 (fun x=>x));have d_:=ae (HB4.out.kp hK5 (fun x=>x));have pM:=ae (HG.out.old PW.out);have Gm:=ae (rY.out.kp hK5 (fun x=>x));clear hK5 d0 p0 p2 C_ HB4 BC
 go_wp2_with fail
 refine(DI.out W5 pM.out).mono ?_;rintro e W6 ⟨rfl,X_,hk6⟩;have Gn:Kp Fg w W6:=(PW.out.mono (fun _ _ x=>x.elim)).trans hk6;have K06:=ae Gn;have hgl:=sV.out;have FZ:=ae X_;have I4:=ae (JM.out.kp hk6 (fun hb=>by have:=hgl _ hb;omega));have bV:=ae (d_.out.kp hk6 (fun hb=>by have:=hgl _ hb;omega));have xO:=ae (Gm.out.kp hk6 (fun hb=>by have:=hgl _ hb;omega));have sU:=ae (HR.out.kp Gn (fun b hb hg=>AL.out b hg hb));have Ze:=ae (tY.out.kp Gn (fun b hb hg=>rX.out b hg hb));have d1:=Gn.cell c1 wB.out;have d6:=Gn.cell c6 wB.out;have p0:=I4.out.cell 0 rfl;have p2:=I4.out.cell 2 rfl;clear X_ hk6 Gn hgl DI HG HR tY d_ JM PW pM;have abP:=ae (fun W (k:Kp none' W6 W)=>Gg.out W (sU.out.old k));have hrl:=xN.out;have HPL:Hid (¬Fr (w.heap.size+2)):=ae (fun hb=>by have:=hrl _ hb;omega);have aeN:Hid (¬Fr (w.heap.size+3)):=ae (fun hb=>by have:=hrl _ hb;omega);clear hrl Gg sU;generalize hRK:(eu s.r now fl ln)=RK at*
 go_wp2_with fail
 have HD1:=ae d1;have HD6:=ae d6;have aft:=tZ
 go_region_held3 (fun w'=>w'.cell? ⟨sb,1,none⟩=some (.pointer (some ⟨rb,0,none⟩))∧w'.cell? ⟨sb,6,none⟩=some (.int .u64 now)∧w'.cell? ⟨w.heap.size+2,0,none⟩=some (.int .u32 fl)∧w'.cell? ⟨w.heap.size+2,2,none⟩=some (.int .u64 ln)) (first|go_keep|exact⟨m1,m6,m0,m2⟩)
  (first
   |(go_at_call 166;refine(abP.out _ (Kp.refl none' W6).drew).mono ?_;rintro e W8 ⟨rfl,hr8,hrk,hk8⟩;have K8:=ae (((Kp.refl none' W6).drew.mono (fun _ _ x=>x.elim)).trans hk8);have uK:=ae hr8;have lQ:=ae (bV.out.kp K8.out aeN.out);have b5:=lQ.out.cell 5 rfl;have bz:=lQ.out.fz 5;have g1:=K8.out.cell d1 tZ.out;have g6:=K8.out.cell d6 tZ.out;have q0:=K8.out.cell p0 HPL.out;have q2:=K8.out.cell p2 HPL.out;have ks:Kp (fun z=>z=w.heap.size+3) W8 (W8.setCell ⟨w.heap.size+3,5,none⟩ (.int .u64 RK.1)):=(Kp.refl (fun z=>z=w.heap.size+3) W8).set (p:=⟨w.heap.size+3,5,none⟩) (.inl rfl) _;have m1:=ks.cell g1 (fun e=>by simp only at e;omega);have m6:=ks.cell g6 (fun e=>by simp only at e;omega);have m0:=ks.cell q0 (fun e=>by simp only at e;omega);have m2:=ks.cell q2 (fun e=>by simp only at e;omega);have KS:=ae ks;clear hr8 hk8 ks))
 have hrl:=xN.out;have hgl:=sV.out;have hbl:=uJ.out;have MB:=ae (FZ.out.kp K8.out (fun b hg hr=>AL.out b hg hr));have Tu:=ae (Ze.out.kp K8.out (fun b hb hr=>xM.out b hr hb));have HP8:=ae (I4.out.kp K8.out HPL.out);have Ya:Hid (Kp (fun z=>Fg z∨Fr z) w W8):=ae ((K06.out.mono (fun b _ h=>.inl h)).trans (K8.out.mono (fun b _ h=>.inr h)));have Yb:=ae ((xO.out.kp K8.out (fun hb=>by have:=hrl _ hb;omega)).kp KS.out (fun e=>by omega));have FV:=ae (lQ.out.set 5 (.int .u64 RK.1));have MC:=ae (MB.out.kp KS.out (fun b hb e=>by have:=hgl b hb;omega));have CO:=ae (uK.out.kp KS.out (fun b hb e=>by have:=hrl b hb;omega));have Yc:=ae (Tu.out.kp KS.out (fun b hb e=>by have:=hbl b hb;omega));have HP9:=ae (HP8.out.kp KS.out (fun e=>by omega));have UK:Hid (Kp (fun z=>Fg z∨Fr z) w (W8.setCell ⟨w.heap.size+3,5,none⟩ (.int .u64 RK.1))):=ae (Ya.out.then KS.out (fun b hb e=>by omega));have d5:=UK.out.cell c5 (fun h=>h.elim wB.out tZ.out);have aeO:=ae hrk;obtain⟨W9,hW9⟩:∃W9,W8.setCell ⟨w.heap.size+3,5,none⟩ (.int .u64 RK.1)=W9:=⟨_,rfl⟩
 rw[hW9]at FV Yb MC CO Yc HP9 UK d5;rw[show W8.setCell ⟨w.heap.size+1+1+1,5,none⟩ (.int .u64 RK.1)=W9 from hW9];have p5:=FV.out.cell 5 rfl;have xI:=ae (zT HP9.out);clear hW9 hrl hgl hbl K8 uK lQ KS g1 g6 q0 q2 m1 m6 m0 m2 b5 bz hrk abP FZ Ze I4 bV d1 d6 p0 p2 HD1 HD6
 go_wp2_with fail
 refine af [] [0,1,2,3,4,5,6] 7 (by kernel_rfl) (by kernel_rfl) (fun c a d u w h=>by cases d<;>exact h) ?_;simp only[pick,bn];show aA _ _ _ _ _ _
 repeat((first
  |refine ah (by exact rfl) (bW rfl rfl xI.out) ?_
  |refine ah (by exact rfl) (by as_aux_lemma=>intro W hK;have e0:=hK.cell d5 (fun x=>x);have e1:=hK.cell p5 (fun x=>x);go_simp;exact rfl) ?_
  |refine ai (by exact rfl) ?_);simp only[Act.put,aY])
 show ∀W,_→wpList _ _ _ _ _ _
 intro W10 hK10;have AO:=tX.out.mu W10;have hcf:=tX.out.cu;have abQ:=ae (Yb.out.kp hK10 (fun x=>x));have Yd:=ae (FV.out.kp hK10 (fun x=>x));have Nq:=ae (MC.out.old hK10);have abR:=ae (CO.out.old hK10);have Qm:=ae (Yc.out.old hK10);have K10:=ae (UK.out.trans (hK10.mono (fun _ _ x=>x.elim)));clear hK10 d5 p5 xI HP9 FV MC CO Yc UK
 go_wp2_with fail
 refine(Ep.out W10 Fb RK.1 aeO.out Qm.out).mono ?_;rintro e W11 ⟨rfl,F',abS,AP,abT⟩;have hbl:=uJ.out;have aeP:=ae (Yd.out.kp AP (fun hb=>by have:=hbl _ hb;omega));have aeQ:=ae (abQ.out.kp AP (fun hb=>by have:=hbl _ hb;omega));have K11:Hid (Kp (fun z=>Fg z∨Fr z∨Fb z) w W11):=ae ((K10.out.mono (fun z _ h=>by rcases h with h|h;exact .inl h;exact .inr (.inl h))).trans (AP.mono (fun z _ h=>.inr (.inr h))));have Ri:=ae (Nq.out.kp AP (fun z h1 h2=>rX.out z h1 h2));have Rj:=ae (abR.out.kp AP (fun z h1 h2=>xM.out z h1 h2));have aeR:=ae abS;have aeS:=ae abT;have aeT:=ae Yd.out.lt;clear abS AP abT AO hcf Yd abQ K10 Nq abR Qm hbl c0 c1 c5 c6
 go_wp2_with(first
  |(refine wpList_load_mid rfl 64 (.tmp 6) rfl (w.heap.size+3) 0 rfl ([.int .i64 1,.int .i64 0,.int .u32 fl,.int .u32 id,.int .u64 ln,.int .u64 0,.int .u64 0,.int .u64 0,.int .i64 0,.int .u64 0,.int .u64 0,.int .u64 0,.int .u64 0,.int .u64 0,.int .u64 0,.int .u64 0,.int .u64 0,.int .u64 0,.int .u64 0,.int .u64 0,.int .u64 0,.int .u64 0,.int .u64 0,.int .u64 0,.int .u64 0,.int .u64 0,.int .u64 0,.int .u64 0,.int .u64 0,.int .u64 0,.int .u64 0,.int .u64 0,.int .u64 0,.int .u64 0,.int .u64 0,.int .u64 0,.int .u64 0,.int .u64 0,.int .u64 0,.int .u64 0,.int .u64 0,.int .u64 0].set 5 (.int .u64 RK.1)) _ (fun j v hv=>by rw[Nat.zero_add];exact aeP.out.cell j hv) Tryz.underlying64 rfl aZ ?_)
  |(refine aP rfl 64 (.tmp 4) (.tmp 58) rfl aeQ.out ([.int .i64 1,.int .i64 0,.int .u32 fl,.int .u32 id,.int .u64 ln,.int .u64 0,.int .u64 0,.int .u64 0,.int .i64 0,.int .u64 0,.int .u64 0,.int .u64 0,.int .u64 0,.int .u64 0,.int .u64 0,.int .u64 0,.int .u64 0,.int .u64 0,.int .u64 0,.int .u64 0,.int .u64 0,.int .u64 0,.int .u64 0,.int .u64 0,.int .u64 0,.int .u64 0,.int .u64 0,.int .u64 0,.int .u64 0,.int .u64 0,.int .u64 0,.int .u64 0,.int .u64 0,.int .u64 0,.int .u64 0,.int .u64 0,.int .u64 0,.int .u64 0,.int .u64 0,.int .u64 0,.int .u64 0,.int .u64 0].set 5 (.int .u64 RK.1)) rfl rfl rfl aZ rfl ?_
    intro qG ig hk12;have iU:=ae ig;have jH:=ae hk12
    clear ig hk12))
 have hgl:=sV.out;have hrl:=xN.out;have hbl:=uJ.out;have hs10:=aeT.out;have UL:Kp (fun z=>Fg z∨Fr z∨Fb z) w qG:=K11.out.then jH.out (fun z hz e=>by omega)
 have hF:∀z,F' z→Fb z∨w.heap.size+3<z:=fun z hz=>(aeS.out z hz).imp_right (fun h=>by omega)
 have e0:eu s.r s.now fl ln=RK:=by rw[XV.out];exact hRK
 rw[e0]at HP;refine h_ (by exact rfl) iU.out _ Tryz.underlying64 rfl aZ (by exact rfl) (HP.out _ _ ⟨rfl,⟨sb,gb,rb,v,Fg,Fr,F'⟩,?_,?_,?_,rfl⟩)
 ·exact {top:=l_.out.kp UL (fun h=>by rcases h with h|h|h;exact wB.out h;exact tZ.out h;exact qF.out h)
         gate:=Ri.out.kp jH.out (fun z hz e=>by have:=hgl z hz;omega)
         ranks:=Rj.out.kp jH.out (fun z hz e=>by have:=hrl z hz;omega)
         back:=by
          show jT qG F' v (tH s.g fl ln).c.aI.toNat _;rw[HWP.out,HV.out];exact aeR.out.kp jH.out (fun z hz e=>by rcases hF z hz with h|h;(have:=hbl z h;omega);omega)
         sg:=wB.out
         sr:=tZ.out
         sk:=fun h=>by rcases hF _ h with h|h;exact qF.out h;(simp only at h;omega)
         gr:=AL.out
         gk:=fun z h1 h2=>by rcases hF z h2 with h|h;exact rX.out z h1 h;(have:=hgl z h1;omega)
         rk:=fun z h1 h2=>by rcases hF z h2 with h|h;exact xM.out z h1 h;(have:=hrl z h1;omega)
         ok:=by have:=jl.out;rw[e0]at this;exact this}
 ·exact UL.mono (fun z _ h=>.inr h)
 ·intro z hz;rcases hz with h|h|h|h
  ·exact .inl (.inl h)
  ·exact .inl (.inr (.inl h))
  ·exact .inl (.inr (.inr (.inl h)))
  ·rcases hF z h with h|h
   ·exact .inl (.inr (.inr (.inr h)))
   ·exact .inr (by omega)
theorem Ye (s:Sh) (f:kQ) (k:Nat) (x:Value):(qE s f).set (7+k) x=[.pointer (some ⟨f.gb,0,none⟩),.pointer (some ⟨f.rb,0,none⟩),.int .u64 s.rate,.int .u64 s.aQ,.int .u64 s.tok,f.v,.int .u64 s.now]++(s.ref.map lG).set k x:=by
 unfold qE;rw[List.set_append_right _ _ (by simp)];simp
theorem Rl (s:Sh) (f:kQ) {k:Nat} (h:k<s.ref.length):(qE s f)[7+k]? =some (.int .u64 (s.ref.getD k 0)):=by
 unfold qE;rw[List.getElem?_append_right (by simp)];simp only[List.length_cons,List.length_nil,Nat.zero_add,Nat.add_sub_cancel_left,List.getElem?_map,List.getElem?_eq_getElem h,Option.map_some,List.getD_eq_getElem?_getD,Option.getD_some];rfl
theorem Nr (s:Sh) (f:kQ) (k:Nat):(qE s f).set (7+k) (.int .u64 (dS (s.ref.getD k 0) 1))=qE (kV s k) f:=by
 rw[Ye];unfold qE kV;show _++(s.ref.map lG).set k (lG (dS (s.ref.getD k 0) 1))=_++(s.ref.set k (dS (s.ref.getD k 0) 1)).map lG;rw[List.map_set]
theorem aaF (g:Ga) (id n:Nat):dN g id n=((dN g id n).toNat:Int)∧(dN g id n).toNat<32:=by
 have h:dN g id n=0∨dN g id n=12∨dN g id n=13∨dN g id n=14∨dN g id n=15∨dN g id n=16∨dN g id n=17:=by
  have hf:kC g id n=0∨kC g id n=12∨kC g id n=13∨kC g id n=14∨kC g id n=15∨kC g id n=16:=by
   unfold kC;split
   ·omega
   ·split
    ·omega
    ·split
     ·omega
     ·split
      ·omega
      ·split<;>omega
  unfold dN;split
  ·omega
  ·split<;>omega
 rcases h with h|h|h|h|h|h|h<;>rw[h]<;>decide
theorem zg (W:World):(sizeOf (Tryz.prog.elem 57)).run Tryz.prog W=.ok 1 W:=by kernel_rfl
set_option maxRecDepth 100000 in
theorem Ig {w:World} {sb:Nat} {cs:List Value} (hb:ag w sb cs 212) (k x:Nat) (hk:k<32) (hc:cs[7+k]? =some (.int .u64 x)) (hx:x<18446744073709551616):
 Calls Tryz.prog 112 #[.pointer (some ⟨sb,0,none⟩),.int .i64 k] w fun e w'=>e=.returned (.int .i64 k)∧ag w' sb (cs.set (7+k) (.int .u64 (dS x 1))) 212∧Kp (fun b=>b=sb) w w':=by
 have c0:=hb.cell (7+k) hc;have HB:=ae hb;have HC:=ae hc;have HS:Hid (∀W,Calls Tryz.prog 109 #[.int .u64 x,.int .u64 1] W fun e w'=>e=.returned (.int .u64 (dS x 1))∧Kp none' W w'):=fun W=>(QF x 1 hx (by decide) W).mono fun e w' h=>⟨h.1,h.2▸Kp.refl none' _⟩
 have hki:(k:Int)<32:=by omega
 have hix:∀W,(Instr.indexAt 57 (.pointer (some ⟨sb,7,none⟩)) (.int .i64 k)).run Tryz.prog W=.ok (.pointer (some ⟨sb,7+k,none⟩)) W:=fun W=>by
  have h:=run_indexAt_array (P:=Tryz.prog) (w:=W) 57 ⟨sb,7,none⟩ .i64 k (by kernel_rfl);rw[h,if_pos ⟨by omega,by rw[show Tryz.prog.arrayLen 57=32 by kernel_rfl];exact hki⟩,zg];simp[Result.andThen,Addr.add]
 clear hb hc hx
 go_enter Tryz.func112,Tryz.ntmps112
 go_wp2_with fail
 refine af [] [0,1,2,3,4,5,6,7,8,9,10,11] 12 (by kernel_rfl) (by kernel_rfl) (fun c a d u w h=>by cases d<;>exact h) ?_;simp only[pick,bn];show aA _ _ _ _ _ _
 repeat((first
  |refine ah (by exact rfl) (by as_aux_lemma=>intro W hK;have e0:=hK.cell c0 (fun x=>x);go_simp;exact rfl) ?_
  |refine ai (by exact rfl) ?_
  |refine au (by exact rfl) (by as_aux_lemma=>intro W;go_simp;exact⟨rfl,rfl⟩) (by intro W hK;with_reducible first|exact HS.out W) ?_);simp only[Act.put,aY])
 show ∀W,_→wpList _ _ _ _ _ _
 intro W2 hK2;have HB2:=ae (HB.out.kp hK2 (fun x=>x));have ak:=ae hK2;have d0:=HB2.out.cell (7+k) HC.out;have dz:=HB2.out.fz (7+k);clear hK2
 go_wp2_with fail
 go_ret
 exact⟨rfl,HB2.out.set _ _,((ak.out.mono (fun _ _ x=>x.elim)):Kp (fun b=>b=sb) w W2).set (p:=⟨sb,7+k,none⟩) (.inl rfl) _⟩
theorem aaG (l:List Nat) (h:l.length=32):∃a0 a1 a2 a3 a4 a5 a6 a7 a8 a9 a10 a11 a12 Gp Gq Gs a16 a17 Gt Gu a20 a21 a22 a23 a24 a25 a26 a27 a28 a29 a30 a31,l=[a0,a1,a2,a3,a4,a5,a6,a7,a8,a9,a10,a11,a12,Gp,Gq,Gs,a16,a17,Gt,Gu,a20,a21,a22,a23,a24,a25,a26,a27,a28,a29,a30,a31]:=by
 match l,h with
 | [a0,a1,a2,a3,a4,a5,a6,a7,a8,a9,a10,a11,a12,Gp,Gq,Gs,a16,a17,Gt,Gu,a20,a21,a22,a23,a24,a25,a26,a27,a28,a29,a30,a31],_=>exact⟨a0,a1,a2,a3,a4,a5,a6,a7,a8,a9,a10,a11,a12,Gp,Gq,Gs,a16,a17,Gt,Gu,a20,a21,a22,a23,a24,a25,a26,a27,a28,a29,a30,a31,rfl⟩
theorem FI:(Tryz.prog.info? 59).map (·.size)=some 36:=by kernel_rfl
theorem Yf:(Tryz.prog.info? 57).map (·.size)=some 32:=by kernel_rfl
set_option maxRecDepth 100000 in
theorem aaH {w:World} {f:kQ} {s:Sh} (h:ShM w f s):
 Calls Tryz.prog 111 #[.pointer (some ⟨f.sb,0,none⟩)] w fun e w'=>e=.returned (.agg (ny s).toArray)∧Kp none' w w':=by
 have HG:=ae (fun W (k:Kp none' w W)=>aal (h.gate.old k));obtain⟨a0,a1,a2,a3,a4,a5,a6,a7,a8,a9,a10,a11,a12,Gp,Gq,Gs,a16,a17,Gt,Gu,a20,a21,a22,a23,a24,a25,a26,a27,a28,a29,a30,a31,hl⟩:=aaG s.ref h.ok.len;have hB:=h.top;have hst:ny s=[.int .u64 s.now,.int .u64 s.tok,.int .i64 (sumP s.g.st),.int .u64 (fC s.g.st),.int .u64 a0,.int .u64 a1,.int .u64 a2,.int .u64 a3,.int .u64 a4,.int .u64 a5,.int .u64 a6,.int .u64 a7,.int .u64 a8,.int .u64 a9,.int .u64 a10,.int .u64 a11,.int .u64 a12,.int .u64 Gp,.int .u64 Gq,.int .u64 Gs,.int .u64 a16,.int .u64 a17,.int .u64 Gt,.int .u64 Gu,.int .u64 a20,.int .u64 a21,.int .u64 a22,.int .u64 a23,.int .u64 a24,.int .u64 a25,.int .u64 a26,.int .u64 a27,.int .u64 a28,.int .u64 a29,.int .u64 a30,.int .u64 a31]:=by unfold ny;rw[hl];rfl
 unfold qE at hB;rw[hl]at hB;have HB0:Hid (ag w f.sb [.pointer (some ⟨f.gb,0,none⟩),.pointer (some ⟨f.rb,0,none⟩),.int .u64 s.rate,.int .u64 s.aQ,.int .u64 s.tok,f.v,.int .u64 s.now,.int .u64 a0,.int .u64 a1,.int .u64 a2,.int .u64 a3,.int .u64 a4,.int .u64 a5,.int .u64 a6,.int .u64 a7,.int .u64 a8,.int .u64 a9,.int .u64 a10,.int .u64 a11,.int .u64 a12,.int .u64 Gp,.int .u64 Gq,.int .u64 Gs,.int .u64 a16,.int .u64 a17,.int .u64 Gt,.int .u64 Gu,.int .u64 a20,.int .u64 a21,.int .u64 a22,.int .u64 a23,.int .u64 a24,.int .u64 a25,.int .u64 a26,.int .u64 a27,.int .u64 a28,.int .u64 a29,.int .u64 a30,.int .u64 a31] 212):=ae hB;have c0:=HB0.out.cell 0 rfl;have hsl:=HB0.out.lt;rw[hst];clear h hl hst hB;generalize s.now=now at*;generalize s.tok=tok at*;generalize sumP s.g.st=sp at*;generalize fC s.g.st=sbt at*;generalize f.sb=sb at*;generalize f.gb=gb at*;have hz0:=ag.new w [.int .u64 0,.int .u64 0,.int .i64 0,.int .u64 0,.int .u64 0,.int .u64 0,.int .u64 0,.int .u64 0,.int .u64 0,.int .u64 0,.int .u64 0,.int .u64 0,.int .u64 0,.int .u64 0,.int .u64 0,.int .u64 0,.int .u64 0,.int .u64 0,.int .u64 0,.int .u64 0,.int .u64 0,.int .u64 0,.int .u64 0,.int .u64 0,.int .u64 0,.int .u64 0,.int .u64 0,.int .u64 0,.int .u64 0,.int .u64 0,.int .u64 0,.int .u64 0,.int .u64 0,.int .u64 0,.int .u64 0,.int .u64 0] 59;have HZ0:=ae hz0;have aB:=ae ((Kp.refl none' w).alloc (.cells #[.int .u64 0,.int .u64 0,.int .i64 0,.int .u64 0,.int .u64 0,.int .u64 0,.int .u64 0,.int .u64 0,.int .u64 0,.int .u64 0,.int .u64 0,.int .u64 0,.int .u64 0,.int .u64 0,.int .u64 0,.int .u64 0,.int .u64 0,.int .u64 0,.int .u64 0,.int .u64 0,.int .u64 0,.int .u64 0,.int .u64 0,.int .u64 0,.int .u64 0,.int .u64 0,.int .u64 0,.int .u64 0,.int .u64 0,.int .u64 0,.int .u64 0,.int .u64 0,.int .u64 0,.int .u64 0,.int .u64 0,.int .u64 0] 59));clear hz0;refine ay ?_;intro PP HP
 go_enter Tryz.func111,Tryz.ntmps111
 go_wp2_with fail
 refine(HG.out _ aB.out).mono ?_;rintro e w2 ⟨rfl,hk2⟩;have HB2:=ae (HB0.out.kp (aB.out.trans hk2) (fun x=>x));have HZ2:=ae (HZ0.out.kp hk2 (fun x=>x));have ak:=ae (aB.out.trans hk2);have c2:=HB2.out.cell 4 rfl;have c6:=HB2.out.cell 6 rfl;have xI:Hid (∀W,Kp none' w2 W→(Instr.loadAt 57 (.pointer (some ⟨sb,7,none⟩))).run Tryz.prog W=.ok (.agg #[.int .u64 a0,.int .u64 a1,.int .u64 a2,.int .u64 a3,.int .u64 a4,.int .u64 a5,.int .u64 a6,.int .u64 a7,.int .u64 a8,.int .u64 a9,.int .u64 a10,.int .u64 a11,.int .u64 a12,.int .u64 Gp,.int .u64 Gq,.int .u64 Gs,.int .u64 a16,.int .u64 a17,.int .u64 Gt,.int .u64 Gu,.int .u64 a20,.int .u64 a21,.int .u64 a22,.int .u64 a23,.int .u64 a24,.int .u64 a25,.int .u64 a26,.int .u64 a27,.int .u64 a28,.int .u64 a29,.int .u64 a30,.int .u64 a31]) W):=fun W hK=>run_loadAt_mid W sb 7 57 [.int .u64 a0,.int .u64 a1,.int .u64 a2,.int .u64 a3,.int .u64 a4,.int .u64 a5,.int .u64 a6,.int .u64 a7,.int .u64 a8,.int .u64 a9,.int .u64 a10,.int .u64 a11,.int .u64 a12,.int .u64 Gp,.int .u64 Gq,.int .u64 Gs,.int .u64 a16,.int .u64 a17,.int .u64 Gt,.int .u64 Gu,.int .u64 a20,.int .u64 a21,.int .u64 a22,.int .u64 a23,.int .u64 a24,.int .u64 a25,.int .u64 a26,.int .u64 a27,.int .u64 a28,.int .u64 a29,.int .u64 a30,.int .u64 a31] _ (fun j v hv=>hK.cell (HB2.out.cell (7+j) (by rw[Nat.add_comm 7 j];exact hv)) (fun x=>x)) Tryz.underlying57 rfl Yf
 clear hk2 HG HB0 HZ0 aB c0
 go_wp2_with fail
 refine af [] [0,1,2,3,4,5,6,7,8,9,10,11,12,13,14] 15 (by kernel_rfl) (by kernel_rfl) (fun c a d u w h=>by cases d<;>exact h) ?_;simp only[pick,bn];show aA _ _ _ _ _ _
 repeat((first
  |refine ah (by exact rfl) (bW rfl rfl xI.out) ?_
  |refine ah (by exact rfl) (by as_aux_lemma=>intro W hK;have e0:=hK.cell c2 (fun x=>x);have e1:=hK.cell c6 (fun x=>x);go_simp;exact rfl) ?_
  |refine ai (by exact rfl) ?_);simp only[Act.put,aY])
 show ∀W,_→wpList _ _ _ _ _ _
 intro W3 hK3;have HZ3:=ae (HZ2.out.kp hK3 (fun x=>x));have aF:=ae (ak.out.trans hK3);clear hK3 HB2 HZ2 ak c2 c6 xI;refine R_ rfl 59 _ rfl (.agg #[.int .u64 now,.int .u64 tok,.int .i64 sp,.int .u64 sbt,.int .u64 a0,.int .u64 a1,.int .u64 a2,.int .u64 a3,.int .u64 a4,.int .u64 a5,.int .u64 a6,.int .u64 a7,.int .u64 a8,.int .u64 a9,.int .u64 a10,.int .u64 a11,.int .u64 a12,.int .u64 Gp,.int .u64 Gq,.int .u64 Gs,.int .u64 a16,.int .u64 a17,.int .u64 Gt,.int .u64 Gu,.int .u64 a20,.int .u64 a21,.int .u64 a22,.int .u64 a23,.int .u64 a24,.int .u64 a25,.int .u64 a26,.int .u64 a27,.int .u64 a28,.int .u64 a29,.int .u64 a30,.int .u64 a31]) (run_build _ _ _ _ (by kernel_rfl)) ?_;refine aP rfl 59 (.tmp 2) (.tmp 28) rfl HZ3.out [.int .u64 now,.int .u64 tok,.int .i64 sp,.int .u64 sbt,.int .u64 a0,.int .u64 a1,.int .u64 a2,.int .u64 a3,.int .u64 a4,.int .u64 a5,.int .u64 a6,.int .u64 a7,.int .u64 a8,.int .u64 a9,.int .u64 a10,.int .u64 a11,.int .u64 a12,.int .u64 Gp,.int .u64 Gq,.int .u64 Gs,.int .u64 a16,.int .u64 a17,.int .u64 Gt,.int .u64 Gu,.int .u64 a20,.int .u64 a21,.int .u64 a22,.int .u64 a23,.int .u64 a24,.int .u64 a25,.int .u64 a26,.int .u64 a27,.int .u64 a28,.int .u64 a29,.int .u64 a30,.int .u64 a31] rfl rfl rfl FI rfl ?_;intro W4 hb4 hk4;have HB4:=ae hb4;have aH:=ae hk4;clear hb4 hk4
 go_wp2_with fail
 refine h_ (by exact rfl) HB4.out _ Tryz.underlying59 rfl FI (by exact rfl) (HP.out _ _ ⟨rfl,aF.out.then aH.out (fun z hz e=>by omega)⟩)
def jr (k:Int):Int:=if k<0∨5<k then 0 else k
theorem xw (k:Int) (w:World):Calls Tryz.prog 106 #[.int .i64 k] w fun e w'=>e=.returned (.int .i64 (jr k))∧w=w':=by
 by_cases h1:k<0
 ·have e:jr k=0:=by unfold jr;rw[if_pos (.inl h1)]
  rw[e]
  go_enter Tryz.func106,Tryz.ntmps106
  go_wp2
  go_ret
  exact⟨rfl,rfl⟩
 ·by_cases h2:5<k
  ·have e:jr k=0:=by unfold jr;rw[if_pos (.inr h2)]
   rw[e]
   go_enter Tryz.func106,Tryz.ntmps106
   go_wp2
   go_ret
   exact⟨rfl,rfl⟩
  ·have e:jr k=k:=by unfold jr;rw[if_neg (by omega)]
   rw[e]
   go_enter Tryz.func106,Tryz.ntmps106
   go_wp2
   go_ret
   exact⟨rfl,rfl⟩
end Go.Proofs.YtjiehhlghjnfhaaGreatDoor
