/- What a calendar does behind its interface (layer 26). Printed by wip/sha.py C. -/
import Derived.Test.YtincjochpkdnfaaGreatDoorV18
import Derived.Test.YtincjochpkdnfaaGreatDoorV19
set_option linter.all false
set_option maxHeartbeats 8000000
set_option maxRecDepth 100000
namespace Go.Proofs.YtincjochpkdnfaaGreatDoor
section
open Go Go.RowKit Go.Shelf
def BW{Q:World->Prop}{w:World}{a r fl id ln:Nat}(H:∀W,Kp ae w W->Calls Tryz.prog 202 #[.pointer (some ⟨a,0,none⟩),.int .u64 r,.agg #[.int .u32 fl,.int .u32 id,.int .u64 ln]] W λe w'=>(∃x:Bool,e=.returned (.bool x))/\Q w'):
    Calls Tryz.prog 199 #[.agg #[.pointer (some ⟨a,0,none⟩)],.int .u64 r,.agg #[.int .u32 fl,.int .u32 id,.int .u64 ln]] w λe w'=>e=.returned (.tuple #[])/\Q w':=by
 have H:=aa H;have c:=aa (((Kp.refl ae w).alloc (.cells #[.pointer (some ⟨a,0,none⟩)] 218)).alloc (.cells #[.int .u32 fl,.int .u32 id,.int .u64 ln] 148));go_enter Tryz.func199,Tryz.ntmps199;go_wp2_with fail;refine(H.out _ c.out).mono ?_;rintro e w' ⟨⟨x,rfl⟩,b⟩;have d:=aa b;clear b;go_wp2_with fail;go_end0;exact⟨rfl,d.out⟩
def Ek{Q:World->Prop}{w:World}{a:Nat}(H:∀W,Kp ae w W->Calls Tryz.prog 201 #[.pointer (some ⟨a,0,none⟩)] W λe w'=>(∃x y z,e=.returned (.tuple #[x,y,z]))/\Q w'):
    Calls Tryz.prog 198 #[.agg #[.pointer (some ⟨a,0,none⟩)]] w λe w'=>e=.returned (.tuple #[])/\Q w':=by
 have H:=aa H;have c:=aa ((Kp.refl ae w).alloc (.cells #[.pointer (some ⟨a,0,none⟩)] 218));go_enter Tryz.func198,Tryz.ntmps198;go_wp2_with fail;refine(H.out _ c.out).mono ?_;rintro e w' ⟨⟨x,y,z,rfl⟩,b⟩;have d:=aa b;clear b;go_wp2_with fail;go_end0;exact⟨rfl,d.out⟩
def BX{w:World}{F:Nat->Prop}{cb room n:Nat}{I:List It}(h:cq.Ca w F cb room n I)(m:dH w)(o:¬F 0):
    Calls Tryz.prog 197 #[.agg #[.pointer (some ⟨cb,0,none⟩)]] w λe w'=>e=.returned (.tuple #[.int .u64 (iQ I).1.ao,.agg #[.int .u32 (iQ I).1.x.cE,.int .u32 (iQ I).1.x.id,.int .u64 (iQ I).1.x.len],.bool (iQ I).2])/\∃d,cq.Ca w' d cb room n I/\Kp F w w'/\Nw w F d:=by
 have f:=λb c=>h.lt (b:=b) c;have g:=aa f;have H:=aa (λW (k:Kp ae w W)=>cq.BV (h.old k) (m.kp k (λx=>x)) o);have q:=aa (((Kp.refl ae w).alloc (.cells #[.pointer (some ⟨cb,0,none⟩)] 218)).alloc (.cells #[.int .u32 0,.int .u32 0,.int .u64 0] 148));have hsz:((w.alloc (.cells #[.pointer (some ⟨cb,0,none⟩)] 218)).alloc (.cells #[.int .u32 0,.int .u32 0,.int .u64 0] 148)).heap.size=w.heap.size+2:=by simp
 have v:Hid (ag ((w.alloc (.cells #[.pointer (some ⟨cb,0,none⟩)] 218)).alloc (.cells #[.int .u32 0,.int .u32 0,.int .u64 0] 148)) (w.heap.size+1) [.int .u32 0,.int .u32 0,.int .u64 0] 148):=aa (by
  have:=ag.new (w.alloc (.cells #[.pointer (some ⟨cb,0,none⟩)] 218)) [.int .u32 0,.int .u32 0,.int .u64 0] 148
  simpa using this)
 clear h m o f;obtain⟨⟨⟨r,⟨fl,id,ln⟩⟩,is⟩,hp⟩:∃x,iQ I=x:=⟨_,rfl⟩
 rw[hp]at H ⊢
 clear hp;simp only at H ⊢;refine al ?_;intro PP y;go_enter Tryz.func197,Tryz.ntmps197;go_wp2_with fail;refine(H.out _ q.out).mono ?_;rintro e l ⟨rfl,d,s,k2,n2⟩;have a:=aa (v.out.kp k2 (λe=>by have:=g.out _ e;omega));have z:=aa s;have A:=aa n2;have B:=aa ((q.out.mono (λ_ _ x=>x.elim)).trans k2);clear s k2 n2;have C:=a.out.ai;have b1:=a.out.aj;have b2:=a.out.aq;have bf:=λj=>a.out.fz j;go_wp2_with fail;have t:Kp (λb=>b=w.heap.size+1) l (((l.setCell ⟨w.heap.size+1,0,none⟩ (.int .u32 (fl:Int))).setCell ⟨w.heap.size+1,1,none⟩ (.int .u32 (id:Int))).setCell ⟨w.heap.size+1,2,none⟩ (.int .u64 (ln:Int))):=(((Kp.refl (λb=>b=w.heap.size+1) l).set (p:=⟨w.heap.size+1,0,none⟩) (.inl rfl) _).set (p:=⟨w.heap.size+1,1,none⟩) (.inl rfl) _).set (p:=⟨w.heap.size+1,2,none⟩) (.inl rfl) _;have u:∀b,d b->F b\/w.heap.size+2<=b:=λb c=>by rw[<-hsz];exact A.out b c
 exact dA (by exact rfl) ((((a.out.set 0 (.int .u32 (fl:Int))).set 1 (.int .u32 (id:Int))).set 2 (.int .u64 (ln:Int)))) _ Tryz.underlying148 rfl c7 (by exact rfl) (y.out _ _ ⟨rfl,d,z.out.kp t (λb c e=>by
  rcases u b c with h|h
  ·have:=g.out _ h;omega
  ·omega),B.out.then t (λi hi e=>by omega),λb c=>(u b c).imp_right (λh=>by omega)⟩)
def se(b:Nat):Value:=.iface 218 (.agg #[.pointer (some ⟨b,0,none⟩)])
def El(c:ey)(v:Value)(w:World)(d:c.back=2)(i:1<=c.aB)(j:c.aB<=4096)(k:1<=c.levels)(l:c.levels<=3):
    Calls Tryz.prog 66 #[.agg (er c v).toArray] w λe w'=>∃b F,e=.returned (se b)/\cq.Ca w' F b c.aB.toNat 0 []/\(∀b,F b->w.heap.size<=b)/\Kp ae w w':=by
 obtain⟨rk,bk,lv,qu,f,bt,sh,mt,rt,g,fl⟩:=c;simp only at d i j k l;subst d;obtain⟨p,rfl⟩:∃p:Nat,f=p:=⟨f.toNat,by omega⟩
 obtain⟨n,rfl⟩:∃n:Nat,lv=n:=⟨lv.toNat,by omega⟩
 have m:=aa (λW=>cq.Ec p n (by omega) (by omega) ⟨by omega,by omega⟩ W);have o:=aa (ag.new w [.int .i64 rk,.int .i64 2,.int .i64 n,.int .i64 qu,.int .i64 p,.int .u64 bt,.int .i64 sh,.int .u64 mt,.int .u64 rt,.int .u64 g,v] 65);have a:=aa ((Kp.refl ae w).alloc (.cells #[.int .i64 rk,.int .i64 2,.int .i64 n,.int .i64 qu,.int .i64 p,.int .u64 bt,.int .i64 sh,.int .u64 mt,.int .u64 rt,.int .u64 g,v] 65));refine al ?_;intro PP q;simp only[er]at*;go_enter Tryz.func66,Tryz.ntmps66;go_wp2_with fail;refine(m.out _).mono ?_;rintro e u ⟨b,F,rfl,hp,hF,h⟩;have r:=aa hp;have HF:=aa hF;have s:=aa (a.out.trans h);clear hp hF h;go_wp2_with fail;exact q.out _ _ ⟨b,F,rfl,by simpa using r.out,λx t=>by have:=HF.out x t;have:=a.out.size;omega,s.out⟩
def eC(w:World)(F:Nat->Prop)(v:Value)(room:Nat):fy->Prop
 | .hp n S=>∃b,v=qc b/\Hp w F b room n S
 | .qu a c=>∃b,v=sa b/\Qu w F b room a c
 | .ca n I=>∃b,v=se b/\cq.Ca w F b room n I
def eC.kp{T:Nat->Prop}{w w':World}{F:Nat->Prop}{v:Value}{room:Nat}{s:fy}(h:eC w F v room s)(k:Kp T w w')(a:∀b,F b->¬T b):eC w' F v room s:=by
 cases s with
 |hp n S=>obtain⟨b,e,h⟩:=h;exact⟨b,e,h.kp k a⟩
 |qu c d=>obtain⟨b,e,h⟩:=h;exact⟨b,e,h.kp k a⟩
 |ca n I=>obtain⟨b,e,h⟩:=h;exact⟨b,e,h.kp k a⟩
def eC.old{w w':World}{F:Nat->Prop}{v:Value}{room:Nat}{s:fy}(h:eC w F v room s)(k:Kp ae w w'):eC w' F v room s:=h.kp k (λ_ _ x=>x)
def eC.lt{w:World}{F:Nat->Prop}{v:Value}{room:Nat}{s:fy}(h:eC w F v room s){b:Nat}(a:F b):b<w.heap.size:=by
 cases s with
 |hp n S=>obtain⟨_,_,h⟩:=h;exact h.lt a
 |qu c d=>obtain⟨_,_,h⟩:=h;exact h.lt a
 |ca n I=>obtain⟨_,_,h⟩:=h;exact h.lt a
def eC.shape{w:World}{F:Nat->Prop}{v:Value}{room:Nat}{s:fy}(h:eC w F v room s):∃t b,v=.iface t (.agg #[.pointer (some ⟨b,0,none⟩)]):=by
 cases s with
 |hp n S=>obtain⟨b,e,h⟩:=h;exact⟨_,b,e⟩
 |qu a c=>obtain⟨b,e,h⟩:=h;exact⟨_,b,e⟩
 |ca n I=>obtain⟨b,e,h⟩:=h;exact⟨_,b,e⟩
structure Sh where
 g:Ga
 r:Rk
 ax:Nat
 aP:Nat
 tok:Nat
 bk:fy
 now:Nat
 ref:List Nat
structure gg where
 sb:Nat
 gb:Nat
 rb:Nat
 v:Value
 Fg:Nat->Prop
 Fr:Nat->Prop
 Fb:Nat->Prop
def gg.all(f:gg):Nat->Prop:=λb=>b=f.sb\/f.Fg b\/f.Fr b\/f.Fb b
def h8(s:Sh)(f:gg):List Value:=[.pointer (some ⟨f.gb,0,none⟩),.pointer (some ⟨f.rb,0,none⟩),.int .u64 s.ax,.int .u64 s.aP,.int .u64 s.tok,f.v,.int .u64 s.now]++s.ref.map e0
structure Sh.Ok (s:Sh):Prop where
 ax:0<s.ax/\s.ax<18446744073709551616
 aP:0<s.aP/\s.aP<18446744073709551616
 tok:s.tok<=s.aP
 now:s.now<18446744073709551616
 ref:∀x∈s.ref,x<18446744073709551616
 len:s.ref.length=32
 wf:k9 s.bk
 fl:s.r.fl=s.g.c.av
 xY:∀i∈aU s.bk,i.ao<18446744073709551616/\i.x.cE<4294967296/\i.x.id<4294967296/\i.x.len<18446744073709551616
 tot:((aU s.bk).length:Int)<=aE s.g.st
structure et (w:World) (f:gg) (s:Sh):Prop where
 top:ag w f.sb (h8 s f) 174
 gate:eh w f.Fg f.gb s.g
 ranks:fN w f.Fr f.rb s.r
 back:eC w f.Fb f.v s.g.c.aB.toNat s.bk
 sg:¬f.Fg f.sb
 sr:¬f.Fr f.sb
 sk:¬f.Fb f.sb
 gr:∀b,f.Fg b->¬f.Fr b
 gk:∀b,f.Fg b->¬f.Fb b
 rk:∀b,f.Fr b->¬f.Fb b
 ok:s.Ok
def et.kp{T:Nat->Prop}{w w':World}{f:gg}{s:Sh}(h:et w f s)(k:Kp T w w')(c:∀b,f.all b->¬T b):et w' f s:=
 {h with top:=h.top.kp k (c _ (.inl rfl)),gate:=h.gate.kp k (λb a=>c b (.inr (.inl a))),ranks:=h.ranks.kp k (λb a=>c b (.inr (.inr (.inl a)))),back:=h.back.kp k (λb a=>c b (.inr (.inr (.inr a))))}
def et.old{w w':World}{f:gg}{s:Sh}(h:et w f s)(k:Kp ae w w'):et w' f s:=h.kp k (λ_ _ x=>x)
def et.lt{w:World}{f:gg}{s:Sh}(h:et w f s){b:Nat}(a:f.all b):b<w.heap.size:=by
 rcases a with rfl|a|a|a
 ·exact h.top.lt
 ·exact h.gate.lt a
 ·exact h.ranks.lt a
 ·exact h.back.lt a
def jy{c:ey}(h:dr c=0):(1<=c.ao/\c.ao<=3)/\(1<=c.aD/\c.aD<=32)/\eX c=0/\0<c.ax/\c.ei<=c.aP:=by
 unfold dr at h;split at h
 ·cases h
 ·split at h
  ·cases h
  ·split at h
   ·cases h
   ·split at h
    ·rename_i a;exact absurd h a
    ·rename_i a;split at h
     ·cases h
     ·split at h
      ·cases h
      ·exact⟨by omega,by omega,by omega,by omega,by omega⟩
def jz(c:ey)(st:fy):Sh:=⟨hj c,⟨c.ao,c.av,c.av.map (k8 c.ao),0⟩,c.ax,c.aP,c.aP,st,0,List.replicate 32 0⟩
def Eo(c:ey)(J:c.ok)(hE:dr c=0)(v:Value)(w:World)(h:Sl w v c.av.length 5 (c.av.flatMap cv))(st:fy)(K:aU st=[])(Y:k9 st)
    (y:∀W,Kp ae w W->Calls Tryz.prog 66 #[.agg (er c v).toArray] W λe w'=>∃v Fb,e=.returned v/\eC w' Fb v c.aB.toNat st/\(∀b,Fb b->W.heap.size<=b)/\Kp ae W w'):
    Calls Tryz.prog 41 #[.agg (er c v).toArray] w λe w'=>∃f,e=.returned (.tuple #[.pointer (some ⟨f.sb,0,none⟩),.int .i64 0])/\et w' f (jz c st)/\(∀b,f.all b->w.heap.size<=b)/\Kp ae w w':=by
 obtain⟨s,z,L,o,aM⟩:=jy hE;have aN:=aa (λW (k:Kp ae w W)=>by have:=yW c J v W (h.old k);rw[hE]at this;exact this);have bb:=aa (λW (k:Kp ae w W)=>F9 c J L v W (h.old k));have E:=ng J L;have q:=E.o5;have bc:=aa (λW (k:Kp ae w W)=>Fw c.ao s c.av v W (h.old k) q.2.2.2.2.2.2 J.av);have Z:1<=c.ei:=q.2.2.2.2.1;have be:=aa (λW=>A2 c.ax c.aP o (by omega) W);have bg:=aa y;have ac:Hid (jz c st).Ok:=aa ⟨⟨o,by have:=J.ax;unfold hO at this;exact this⟩,⟨by show 0<c.aP;omega,by have:=J.aP;unfold hO at this;exact this⟩,Hm _,by show 0<_;decide,λx hx=>by rw[(K4.1 hx).2];decide,by show(List.replicate 32 0).length=32;rfl,Y,rfl,(by show ∀i∈aU st,_;rw[K];intro i hi;cases hi),by show((aU st).length:Int)<=aE (c.av.map gY);rw[K,nc];decide⟩;obtain⟨ad,cap,rfl⟩:∃ad cap,v=.slice ad c.av.length cap:=by obtain⟨ad,cap,rfl,_⟩:=h.is;exact⟨_,_,rfl⟩
 have af:=aa (ag.new w (er c (.slice ad c.av.length cap)) 65);have M:=aa ((Kp.refl ae w).alloc (.cells (er c (.slice ad c.av.length cap)).toArray 65));refine al ?_;intro PP bh;clear h y K Y hE s z L o aM E q Z J;obtain⟨rk,bk,lv,qu,pk,bt,sh,mt,rt,bu,fl⟩:=c;simp only[er]at*;go_enter Tryz.func41,Tryz.ntmps41;go_wp2_with fail;refine(aN.out _ M.out).mono ?_;rintro e w1 ⟨rfl,s⟩;have ah:=af.out.kp s (λx=>x);have N:=aa (M.out.trans s);have ak:=aa ah;have a:=ak;have y0:=a.out.ai;have y1:=a.out.aj;have y2:=a.out.aq;have y3:=a.out.aK;have y4:=a.out.a_;have y5:=a.out.bN;have y6:=a.out.du;have y7:=a.out.eN;have y8:=a.out.eu;have y9:=a.out.ea;have C:=a.out.eR;clear s ah af M a;go_wp2_with fail;refine(bg.out _ N.out).mono ?_;rintro e l ⟨v2,Fb,rfl,O,an,z⟩;obtain⟨t2,b2,rfl⟩:=O.shape;have ar:=aa O;have aO:=aa an;have aQ:=aa (N.out.trans z);have P:=aa (ak.out.kp z (λx=>x));clear O an z y0 y1 y2 y3 y4 y5 y6 y7 y8 y9 C;have a:=P;have y0:=a.out.ai;have y1:=a.out.aj;have y2:=a.out.aq;have y3:=a.out.aK;have y4:=a.out.a_;have y5:=a.out.bN;have y6:=a.out.du;have y7:=a.out.eN;have y8:=a.out.eu;have y9:=a.out.ea;have C:=a.out.eR;have bi:=P.out.lt;have aR:=aa (ag.new l [.pointer none,.pointer none,.int .u64 0,.int .u64 0,.int .u64 0,.iface t2 (.agg #[.pointer (some ⟨b2,0,none⟩)]),.int .u64 0,.int .u64 0,.int .u64 0,.int .u64 0,.int .u64 0,.int .u64 0,.int .u64 0,.int .u64 0,.int .u64 0,.int .u64 0,.int .u64 0,.int .u64 0,.int .u64 0,.int .u64 0,.int .u64 0,.int .u64 0,.int .u64 0,.int .u64 0,.int .u64 0,.int .u64 0,.int .u64 0,.int .u64 0,.int .u64 0,.int .u64 0,.int .u64 0,.int .u64 0,.int .u64 0,.int .u64 0,.int .u64 0,.int .u64 0,.int .u64 0,.int .u64 0,.int .u64 0] 174);have Q:=aa ((Kp.refl ae l).alloc (.cells #[.pointer none,.pointer none,.int .u64 0,.int .u64 0,.int .u64 0,.iface t2 (.agg #[.pointer (some ⟨b2,0,none⟩)]),.int .u64 0,.int .u64 0,.int .u64 0,.int .u64 0,.int .u64 0,.int .u64 0,.int .u64 0,.int .u64 0,.int .u64 0,.int .u64 0,.int .u64 0,.int .u64 0,.int .u64 0,.int .u64 0,.int .u64 0,.int .u64 0,.int .u64 0,.int .u64 0,.int .u64 0,.int .u64 0,.int .u64 0,.int .u64 0,.int .u64 0,.int .u64 0,.int .u64 0,.int .u64 0,.int .u64 0,.int .u64 0,.int .u64 0,.int .u64 0,.int .u64 0,.int .u64 0,.int .u64 0] 174));have au:=aa (ar.out.old Q.out);have aS:=aa (P.out.kp Q.out (λx=>x));have aw:=aa (aQ.out.trans Q.out);clear a;go_wp2_with fail;refine(bb.out _ aw.out).mono ?_;rintro e F ⟨gb,Fg,rfl,hg,ay,o⟩;have R:=aa (aS.out.kp o (λx=>x));have D:=aa (aR.out.kp o (λx=>x));have aT:=aa (aw.out.trans o);have az:=aa (au.out.old o);have aA:=aa hg;have aV:=aa ay;have bj:=D.out.lt;have s0:=D.out.ai;have sz:=D.out.fz 0;have G:w.heap.size≠l.heap.size:=by omega
 have bf:l.heap.size≠w.heap.size:=by omega
 have n:∀b,Fg b->l.heap.size<b:=λb d=>by have:=aV.out b d;simp at this;omega
 have g:Kp (λb=>b=l.heap.size) F (F.setCell ⟨l.heap.size,0,none⟩ (.pointer (some ⟨gb,0,none⟩))):=(Kp.refl (λb=>b=l.heap.size) F).set (p:=⟨l.heap.size,0,none⟩) (.inl rfl) _;have aW:=aa (R.out.kp g (λe=>G e));have aX:=aa (D.out.set 0 (.pointer (some ⟨gb,0,none⟩)));have A:Hid (∀b,Fb b->b<l.heap.size):=aa (λb d=>ar.out.lt d);have aC:=aa (az.out.kp g (λb d e=>by have:=A.out b d;omega));have aY:=aa (aA.out.kp g (λb d e=>by have:=n b d;omega));have H:=aa n;have S:w.heap.size<=l.heap.size:=by omega
 have aD:Hid (Kp ae w (F.setCell ⟨l.heap.size,0,none⟩ (.pointer (some ⟨gb,0,none⟩)))):=aa (aT.out.set (p:=⟨l.heap.size,0,none⟩) (.inr S) _);have y0:=R.out.ai;have C:=R.out.eR;clear hg ay o n g y1 y2 y3 y4 y5 y6 y7 y8 y9 bb;go_wp2_with fail;refine(bc.out _ aD.out).mono ?_;rintro e w6 ⟨Fr,rb,rfl,hr,aF,t⟩;have aZ:(F.setCell ⟨l.heap.size,0,none⟩ (.pointer (some ⟨gb,0,none⟩))).heap.size=F.heap.size:=by simp[World.setCell]
 have T:=aa (aW.out.kp t (λx=>x));have U:=aa (aX.out.kp t (λx=>x));have a0:=aa (aD.out.trans t);have aG:=aa (aC.out.old t);have a1:=aa (aY.out.old t);have a2:=aa hr;have m:∀b,Fr b->F.heap.size<=b:=λb d=>by have:=aF b d;omega
 have a3:=aa m;have aH:Hid (∀b,Fg b->b<F.heap.size):=aa (λb d=>aA.out.lt d);have s1:=U.out.aj;have hZ:=U.out.fz 1;have g:Kp (λb=>b=l.heap.size) w6 (w6.setCell ⟨l.heap.size,1,none⟩ (.pointer (some ⟨rb,0,none⟩))):=(Kp.refl (λb=>b=l.heap.size) w6).set (p:=⟨l.heap.size,1,none⟩) (.inl rfl) _;have I:=H.out;have bl:=aa (T.out.kp g (λe=>G e));have a4:=aa (U.out.set 1 (.pointer (some ⟨rb,0,none⟩)));have aI:=aa (aG.out.kp g (λb d e=>by have:=A.out b d;omega));have a5:=aa (a1.out.kp g (λb d e=>by have:=I b d;omega));have a6:=aa (a2.out.kp g (λb d e=>by have:=m b d;omega));have a7:Hid (Kp ae w (w6.setCell ⟨l.heap.size,1,none⟩ (.pointer (some ⟨rb,0,none⟩)))):=aa (a0.out.set (p:=⟨l.heap.size,1,none⟩) (.inr S) _);have y8:=T.out.eu;have y9:=T.out.ea;clear hr aF t g m I y0 C s0 sz aZ bc;go_wp2_with fail;refine(be.out _).mono ?_;rintro e w8 ⟨rfl,u⟩;have B:=aa (a4.out.kp u (λx=>x));have a8:=aa (a7.out.trans u);have aJ:=aa (aI.out.old u);have a9:=aa (a5.out.old u);have ba:=aa (a6.out.old u);have bm:=B.out.aq;have bn:=B.out.aK;have bp:=B.out.a_;have tz:=λj=>B.out.fz j;clear u y8 y9 s1 hZ be;go_wp2_with fail;have r:=A.out;have n:=H.out;have aL:=aH.out;have m:=a3.out;have g:Kp (λb=>b=l.heap.size) w8 (((w8.setCell ⟨l.heap.size,2,none⟩ (.int .u64 rt)).setCell ⟨l.heap.size,3,none⟩ (.int .u64 bu)).setCell ⟨l.heap.size,4,none⟩ (.int .u64 bu)):=
  (((Kp.refl (λb=>b=l.heap.size) w8).set (p:=⟨l.heap.size,2,none⟩) (.inl rfl) _).set (p:=⟨l.heap.size,3,none⟩) (.inl rfl) _).set (p:=⟨l.heap.size,4,none⟩) (.inl rfl) _
 refine bh.out _ _ ⟨⟨l.heap.size,gb,rb,.iface t2 (.agg #[.pointer (some ⟨b2,0,none⟩)]),Fg,Fr,Fb⟩,rfl,?_,?_,a8.out.then g (λb d e=>by omega)⟩
 ·exact {top:=((B.out.set 2 (.int .u64 rt)).set 3 (.int .u64 bu)).set 4 (.int .u64 bu)
         gate:=a9.out.kp g (λb d e=>by have:=n b d;omega)
         ranks:=ba.out.kp g (λb d e=>by have:=m b d;omega)
         back:=aJ.out.kp g (λb d e=>by have:=r b d;omega)
         sg:=λd=>by have:=n _ d;simp only at this;omega
         sr:=λd=>by have:=m _ d;simp only at this;omega
         sk:=λd=>by have:=r _ d;simp only at this;omega
         gr:=λb V X=>by have:=aL b V;have:=m b X;omega
         gk:=λb V X=>by have:=n b V;have:=r b X;omega
         rk:=λb V X=>by have:=m b V;have:=r b X;omega
         ok:=ac.out}
 ·intro b d;rcases d with rfl|d|d|d
  ·exact S
  ·have:=n b d;omega
  ·have:=m b d;omega
  ·have V:=aO.out b d;have X:=N.out.size;omega
def jA:∀(a:List Value) (o:Nat) (xs:List Value),o+a.length=xs.length->cL xs o a=xs.take o++a
 | [],o,xs,h=>by simp only[cL,HH];rw[IJ (by simp at h;omega)]
 |v::r,o,xs,h=>by
  have b:o<xs.length:=by simp at h;omega
  show cL (xs.set o v) (o+1) r=_;rw[jA r (o+1) (xs.set o v) (by rw[Hr];simp at h;omega)];have:(xs.set o v).take (o+1)=xs.take o++[v]:=by
   rw[HQ (by rw[Hr];exact b),J7,List.take_set_of_le (Hm _)]
  rw[this];simp
def ag.setCells{b:Nat}{t:TypeId}:∀(a:List Value) (o:Nat) (w:World) (cs:List Value),ag w b cs t->ag (w.setCells b o a) b (cL cs o a) t
 | [],_,_,_,h=>h
 |v::r,o,_,_,h=>ag.setCells r (o+1) _ _ (h.set o v)
def aW{P:Program}{ops:Array Oper}{rest:List Oper}{op:Oper}{a:Act}{Q:Exit->Act->World->Prop}(e:op.guard=none)(ty:TypeId)(x y:Operand)(k:op.op=.store ty x y){w:World}{b:Nat}{cs:List Value}{t:TypeId}(f:ag w b cs t)(c:List Value)(l:c.length=cs.length)
    (m:a.eval x=.pointer (some ⟨b,0,none⟩)) (hy:a.eval y=.agg c.toArray) (d:(P.info? ty).map (·.size)=some c.length) (n:c.all (·.oneCell')=true)
    (h:∀g,ag g b c t->Kp (λz=>z=b) w g->wpList P ops Q rest (a.put op.dst undef) g):wpList P ops Q (op::rest) a w:=by
 refine wpList_store_mid e ty x y k b 0 c.toArray m hy ?_ (by rw[HY];exact d) (by simpa using n) ?_
 ·intro j i;rw[HY,l]at i
  refine⟨?_,f.fz _⟩;rw[HR,f.cell j (Hn i)];rfl
 ·refine h _ ?_ (eE (S:=λz=>z=b) (.inl rfl) _ _ _ (Kp.refl _ _));have:=f.setCells c 0;rw[jA c 0 cs (by omega),Je,Im]at this
  exact this
def dk{P:Program}{f:Func}{s:Tmp}{ty:TypeId}(hf:f.results=#[.cell s ty]){R:Ending->World->Prop}{W:World}{g:Nat}{cs:List Value}{t:TypeId}{T:Array Value}(b:ag W g cs t)(d:TypeDesc)(hu:P.underlying ty=some d)(hd:(match d with| .struct _| .array _ _=>true|_=>false)=true)
    (hi:(P.info? ty).map (·.size)=some cs.length) (c:T.getD s undef=.pointer (some ⟨g,0,none⟩)) (e:R (.returned (.agg cs.toArray)) W):bodyPost P f R Exit.ret {tmps:=T,defers:=[]} W:=by
 refine HT (v:=.agg cs.toArray) ?_ rfl e;have a:T[s]?.getD undef=.pointer (some ⟨g,0,none⟩):=by simpa using c
 simp[results,hf,a,asAddr,Jy W g t ty cs.toArray (0,0) d b.is hu hd (by rw[HY];exact hi)]
def BY(x:Value)(W:World):(method 490 213 x "pacemaker/shaper.push").run Tryz.prog W=.ok (188,x) W:=by kernel_rfl
def BZ(x:Value)(W:World):(method 490 223 x "pacemaker/shaper.push").run Tryz.prog W=.ok (228,x) W:=by kernel_rfl
def B0(x:Value)(W:World):(method 490 213 x "pacemaker/shaper.peek").run Tryz.prog W=.ok (186,x) W:=by kernel_rfl
def B1(x:Value)(W:World):(method 490 223 x "pacemaker/shaper.peek").run Tryz.prog W=.ok (226,x) W:=by kernel_rfl
def Ep(x:Value)(W:World):(method 490 213 x "pacemaker/shaper.pop").run Tryz.prog W=.ok (187,x) W:=by kernel_rfl
def Er(x:Value)(W:World):(method 490 223 x "pacemaker/shaper.pop").run Tryz.prog W=.ok (227,x) W:=by kernel_rfl
def B2(x:Value)(W:World):(method 490 218 x "pacemaker/shaper.push").run Tryz.prog W=.ok (199,x) W:=by kernel_rfl
def B3(x:Value)(W:World):(method 490 218 x "pacemaker/shaper.peek").run Tryz.prog W=.ok (197,x) W:=by kernel_rfl
def Es(x:Value)(W:World):(method 490 218 x "pacemaker/shaper.pop").run Tryz.prog W=.ok (198,x) W:=by kernel_rfl
structure od (w:World) (F:Nat->Prop):Prop where
 tab:dH w
 ne:¬F 0
structure B4 (t:TypeId) (x:Value) (gu ge gp:Nat):Prop where
 mu:∀W,(method 490 t x "pacemaker/shaper.push").run Tryz.prog W=.ok (gu,x) W
 me:∀W,(method 490 t x "pacemaker/shaper.peek").run Tryz.prog W=.ok (ge,x) W
 mp:∀W,(method 490 t x "pacemaker/shaper.pop").run Tryz.prog W=.ok (gp,x) W
 cu:∀args W,(callFunc gu args).run Tryz.prog W=.ok (.enter gu args) W
 ce:∀args W,(callFunc ge args).run Tryz.prog W=.ok (.enter ge args) W
 cp:∀args W,(callFunc gp args).run Tryz.prog W=.ok (.enter gp args) W
 push:∀W F room s r fl id ln,eC W F (.iface t x) room s->(aU s).length<room->cq s<9223372036854775807->r<18446744073709551616->
  Calls Tryz.prog gu #[x,.int .u64 (r:Nat),.agg #[.int .u32 (fl:Nat),.int .u32 (id:Nat),.int .u64 (ln:Nat)]] W λe w'=>e=.returned (.tuple #[])/\∃F',eC w' F' (.iface t x) room (e5 s r ⟨fl,id,ln⟩)/\Kp F W w'/\Nw W F F'
 nU:∀W F room s,eC W F (.iface t x) room s->od W F->
  Calls Tryz.prog ge #[x] W λe w'=>e=.returned (.tuple #[.int .u64 (aM s).1.ao,.agg #[.int .u32 (aM s).1.x.cE,.int .u32 (aM s).1.x.id,.int .u64 (aM s).1.x.len],.bool (aM s).2])/\∃F',eC w' F' (.iface t x) room s/\Kp F W w'/\Nw W F F'
 pop:∀W F room s,eC W F (.iface t x) room s->od W F->(aM s).2=true->
  Calls Tryz.prog gp #[x] W λe w'=>e=.returned (.tuple #[])/\∃F',eC w' F' (.iface t x) room (h2 s)/\Kp F W w'/\Nw W F F'
def si{w:World}{F:Nat->Prop}{room:Nat}{b:Nat}{s:fy}(h:eC w F (qc b) room s):∃n S,s=.hp n S/\Hp w F b room n S:=by
 cases s with
 |hp n S=>
  obtain⟨a,e,h⟩:=h;unfold qc at e;injection e with _ e;injection e with e;have e:(⟨b,0,none⟩:Addr)=⟨a,0,none⟩:=by simpa using e
  injection e with e;subst e;exact⟨n,S,rfl,h⟩
 |qu c d=>
  obtain⟨a,e,h⟩:=h;unfold qc sa at e;injection e with e _;exact absurd e (by decide)
 |ca n I=>
  obtain⟨a,e,h⟩:=h;unfold qc se at e;injection e with e _;exact absurd e (by decide)
def sj{w:World}{F:Nat->Prop}{room:Nat}{b:Nat}{s:fy}(h:eC w F (sa b) room s):∃a c,s=.qu a c/\Qu w F b room a c:=by
 cases s with
 |hp n S=>
  obtain⟨d,e,h⟩:=h;unfold qc sa at e;injection e with e _;exact absurd e (by decide)
 |qu a c=>
  obtain⟨d,e,h⟩:=h;unfold sa at e;injection e with _ e;injection e with e;have e:(⟨b,0,none⟩:Addr)=⟨d,0,none⟩:=by simpa using e
  injection e with e;subst e;exact⟨a,c,rfl,h⟩
 |ca n I=>
  obtain⟨d,e,h⟩:=h;unfold sa se at e;injection e with e _;exact absurd e (by decide)
def sm{w:World}{F:Nat->Prop}{room:Nat}{b:Nat}{s:fy}(h:eC w F (se b) room s):∃n I,s=.ca n I/\cq.Ca w F b room n I:=by
 cases s with
 |hp n S=>
  obtain⟨a,e,h⟩:=h;unfold qc se at e;injection e with e _;exact absurd e (by decide)
 |qu c d=>
  obtain⟨a,e,h⟩:=h;unfold se sa at e;injection e with e _;exact absurd e (by decide)
 |ca n I=>
  obtain⟨a,e,h⟩:=h;unfold se at e;injection e with _ e;injection e with e;have e:(⟨b,0,none⟩:Addr)=⟨a,0,none⟩:=by simpa using e
  injection e with e;subst e;exact⟨n,I,rfl,h⟩
def GZ(b:Nat):B4 213 (.agg #[.pointer (some ⟨b,0,none⟩)]) 188 186 187 where
 mu:=BY _
 me:=B0 _
 mp:=Ep _
 cu:=λ_ _=>by kernel_rfl
 ce:=λ_ _=>by kernel_rfl
 cp:=λ_ _=>by kernel_rfl
 push:=λW F room s r fl id ln h l m v=>by
  obtain⟨n,S,rfl,hp⟩:=si h;refine(BQ (Q:=λw'=>∃c,Hp w' c b room (n+1) (dU S ⟨r,n,⟨fl,id,ln⟩⟩)/\Kp F W w'/\Nw W F c) (λg k=>(r4 (hp.old k) (by simpa[aU]using l) m r fl id ln).mono λe w' ⟨a,c,b1,b2,o⟩=>⟨⟨_,a⟩,c,b1,(k.mono (λ_ _ x=>x.elim)).trans b2,λz hz=>(o z hz).imp_right (λh=>Hy k.size h)⟩)).mono ?_;rintro e w' ⟨rfl,c,d,f,p⟩;exact⟨rfl,c,⟨b,rfl,d⟩,f,p⟩
 nU:=λW F room s h _=>by
  obtain⟨n,S,rfl,hp⟩:=si h;have i:=zN n S;have q:(aM (.hp n S)).1=⟨(hg S).1.ao,(hg S).1.x⟩:=by rw[i]
  have t:(aM (.hp n S)).2=(hg S).2:=by rw[i]
  rw[q,t];refine(BR (λg k=>mi (hp.old k))).mono ?_;rintro e w' ⟨rfl,j⟩;exact⟨rfl,F,⟨b,rfl,hp.old j⟩,j.mono (λ_ _ x=>x.elim),Nw.refl _ _⟩
 pop:=λW F room s h _ u=>by
  obtain⟨n,S,rfl,hp⟩:=si h;cases S with
  |nil=>cases u
  |cons x S=>
   refine(Ee (Q:=λw'=>Hp w' F b room n S/\Kp F W w') (λg k=>(vb (hp.old k)).mono λe w' ⟨a,b1,b2⟩=>⟨⟨_,_,_,a⟩,b1,(k.mono (λ_ _ x=>x.elim)).trans b2⟩)).mono ?_;rintro e w' ⟨rfl,d,f⟩;exact⟨rfl,F,⟨b,rfl,d⟩,f,Nw.refl _ _⟩
def G0(b:Nat):B4 223 (.agg #[.pointer (some ⟨b,0,none⟩)]) 228 226 227 where
 mu:=BZ _
 me:=B1 _
 mp:=Er _
 cu:=λ_ _=>by kernel_rfl
 ce:=λ_ _=>by kernel_rfl
 cp:=λ_ _=>by kernel_rfl
 push:=λW F room s r fl id ln h m y t=>by
  obtain⟨f,c,rfl,hp⟩:=sj h;rw[vj]at m
  refine(BS (Q:=λw'=>∃d,Qu w' d b room (gq f r) (jd f c r ⟨r,⟨fl,id,ln⟩⟩)/\Kp F W w'/\Nw W F d) (λn k=>(D5 (hp.old k) m r fl id ln t).mono λe w' ⟨a,d,b1,b2,u⟩=>⟨⟨_,a⟩,d,b1,(k.mono (λ_ _ x=>x.elim)).trans b2,λz hz=>(u z hz).imp_right (λh=>Hy k.size h)⟩)).mono ?_;rintro e w' ⟨rfl,d,g,o,l⟩;exact⟨rfl,d,⟨b,rfl,g⟩,o,l⟩
 nU:=λW F room s h _=>by
  obtain⟨f,c,rfl,hp⟩:=sj h;rw[tJ];refine(BT (λn k=>by obtain⟨v1,v2,A,B,rfl,hm⟩:=hp.old k;exact D2 hm)).mono ?_;rintro e w' ⟨rfl,p⟩;exact⟨rfl,F,⟨b,rfl,hp.old p⟩,p.mono (λ_ _ x=>x.elim),Nw.refl _ _⟩
 pop:=λW F room s h _ j=>by
  obtain⟨f,c,rfl,hp⟩:=sj h;rw[tJ]at j
  unfold iA at j;cases hf:gh c with
  |none=>rw[hf]at j;cases j
  |some i=>
   obtain⟨q,Q,g,o⟩:=gu hf;have v:nS c=c.set i Q:=by unfold nS;rw[hf];simp only[Hx,g,I3,Kr]
   show Calls _ _ _ _ λe w'=>_/\∃d,eC w' d _ room (.qu f (nS c))/\_;rw[v];refine(Ef (Q:=λw'=>Qu w' F b room f (c.set i Q)/\Kp F W w') (λn k=>(FW (hp.old k) hf g).mono λe w' ⟨a,b1,b2⟩=>⟨⟨_,_,_,a⟩,b1,(k.mono (λ_ _ x=>x.elim)).trans b2⟩)).mono ?_;rintro e w' ⟨rfl,l,w⟩;exact⟨rfl,F,⟨b,rfl,l⟩,w,Nw.refl _ _⟩
def F_(b:Nat):B4 218 (.agg #[.pointer (some ⟨b,0,none⟩)]) 199 197 198 where
 mu:=B2 _
 me:=B3 _
 mp:=Es _
 cu:=λ_ _=>by kernel_rfl
 ce:=λ_ _=>by kernel_rfl
 cp:=λ_ _=>by kernel_rfl
 push:=λW F room s r fl id ln h l m o=>by
  obtain⟨n,I,rfl,hp⟩:=sm h;refine(BW (Q:=λw'=>∃c,cq.Ca w' c b room (n+1) (e2 I ⟨r,⟨fl,id,ln⟩⟩)/\Kp F W w'/\Nw W F c) (λp k=>(cq.BM (hp.old k) l m r fl id ln o).mono λe w' ⟨a,c,b1,b2,j⟩=>⟨⟨_,a⟩,c,b1,(k.mono (λ_ _ x=>x.elim)).trans b2,λz hz=>(j z hz).imp_right (λh=>Hy k.size h)⟩)).mono ?_;rintro e w' ⟨rfl,c,d,f,g⟩;exact⟨rfl,c,⟨b,rfl,d⟩,f,g⟩
 nU:=λW F room s h i=>by
  obtain⟨n,I,rfl,hp⟩:=sm h;refine(BX hp i.tab i.ne).mono ?_;rintro e w' ⟨rfl,c,d,f,g⟩;exact⟨rfl,c,⟨b,rfl,d⟩,f,g⟩
 pop:=λW F room s h i q=>by
  obtain⟨n,I,rfl,hp⟩:=sm h;cases I with
  |nil=>cases q
  |cons x T=>
   refine(Ek (Q:=λw'=>∃c,cq.Ca w' c b room n T/\Kp F W w'/\Nw W F c) (λp k=>(cq.Ej (hp.old k) (i.tab.kp k (λx=>x)) i.ne).mono λe w' ⟨a,c,b1,b2,j⟩=>⟨a,c,b1,(k.mono (λ_ _ x=>x.elim)).trans b2,λz hz=>(j z hz).imp_right (λh=>Hy k.size h)⟩)).mono ?_;rintro e w' ⟨rfl,c,d,f,g⟩;exact⟨rfl,c,⟨b,rfl,d⟩,f,g⟩
def eC.c{w:World}{F:Nat->Prop}{v:Value}{room:Nat}{s:fy}(h:eC w F v room s):∃t x a ge d,v=.iface t x/\B4 t x a ge d:=by
 cases s with
 |hp n S=>obtain⟨b,rfl,_⟩:=h;exact⟨_,_,_,_,_,rfl,GZ b⟩
 |qu e f=>obtain⟨b,rfl,_⟩:=h;exact⟨_,_,_,_,_,rfl,G0 b⟩
 |ca n I=>obtain⟨b,rfl,_⟩:=h;exact⟨_,_,_,_,_,rfl,F_ b⟩
def gF:List Value:=[.int .u64 0,.int .u64 0,.int .i64 0,.int .u64 0]++List.replicate 32 (.int .u64 0)
def gZ(kind code:Int)(fl id ln ao:Nat)(st:List Value):List Value:=[.int .i64 kind,.int .i64 code,.int .u32 fl,.int .u32 id,.int .u64 ln,.int .u64 ao]++st
def bj:(Tryz.prog.info? 150).map (·.size)=some 42:=by kernel_rfl
def k_(s:Sh)(k:Nat):Sh:= {s with ref:=s.ref.set k (cH (s.ref.getD k 0) 1)}
def bQ(s:Sh)(fl id ln:Nat):List Value×Sh:=
 if bP s.g fl ln=0 then
  (gZ 1 0 fl id ln (dI s.r s.now fl ln).1 gF,{s with g:=iR s.g fl ln,r:=(dI s.r s.now fl ln).2,bk:=e5 s.bk (dI s.r s.now fl ln).1 ⟨fl,id,ln⟩})
 else(gZ 1 (bP s.g fl ln) fl id ln 0 gF,k_ s (bP s.g fl ln).toNat)
def bO(s:Sh):List Value×Sh:=
 if(aM s.bk).2=false then(gZ 2 18 0 0 0 0 gF,s)
 else if s.tok<(aM s.bk).1.x.len then(gZ 2 19 0 0 0 0 gF,s)
 else(gZ 2 0 (aM s.bk).1.x.cE (aM s.bk).1.x.id (aM s.bk).1.x.len (aM s.bk).1.ao gF,
    {s with tok:=s.tok-(aM s.bk).1.x.len,bk:=h2 s.bk,g:=fq s.g (aM s.bk).1.x.cE (aM s.bk).1.x.len,r:=lz s.r (aM s.bk).1.ao})
def bZ(s:Sh):List Value:=[.int .u64 s.now,.int .u64 s.tok,.int .i64 (aE s.g.st),.int .u64 (cN s.g.st)]++s.ref.map e0
def h9(s:Sh)(o:kW):List Value×Sh:=
 if o.kind=1 then bQ s o.cE o.id o.len
 else if o.kind=2 then bO s
 else if o.kind=3 then(gZ 3 0 0 0 0 0 gF,{s with now:=cH s.now o.fC,tok:=kd s.ax s.aP s.tok o.fC})
 else if o.kind=4 then(gZ 4 0 0 0 0 0 (bZ s),s)
 else if o.kind=5 then(gZ 5 2 0 0 0 0 gF,k_ s 2)
 else(gZ 0 1 0 0 0 0 gF,k_ s 1)
def q9{g:Ga}(ok:g.Ok){id n:Nat}(a:0<=g.at id):aE (g.lay id n).st=aE g.st+1:=by
 obtain⟨b,c⟩:=ok.js a;show aE (g.st.set _ _)=_;rw[hD _ _ _ b,<-c];show aE g.st-(g.x id).p+((g.x id).p+1)=_;omega
def xZ{g:Ga}(ok:g.Ok)(id n:Nat):aE g.st-1<=aE (fq g id n).st:=by
 unfold fq;split
 ·rename_i h;obtain⟨a,_,_⟩:=mW h;obtain⟨b,c⟩:=ok.js a;show _<=aE (g.st.set _ _);rw[hD _ _ _ b,<-c];show _<=aE g.st-(g.x id).p+((g.x id).p-1);omega
 ·omega
def C9(g:Ga)(id n:Nat):(iR g id n).c=g.c:=by unfold iR Ga.lay Ga.put;split<;>rfl
def zT(g:Ga)(id n:Nat):(fq g id n).c=g.c:=by unfold fq Ga.put;split<;>rfl
def zU(r:Rk)(now id n:Nat):(dI r now id n).2.fl=r.fl:=by unfold dI Rk.setTag;split;rfl;split<;>rfl
def zV(r:Rk)(x:Nat):(lz r x).fl=r.fl:=by unfold lz;split<;>rfl
def x0{r:Rk}(h:r.Ok)(now id n:Nat):(dI r now id n).1<18446744073709551616:=by
 unfold dI;have a:=h.tag id;have b:=h.A6;split
 ·show max _ _<_;omega
 ·split
  ·exact j3 _ _
  ·exact a
def B5{l:List Nat}(h:∀x∈l,x<18446744073709551616)(k:Nat):∀x∈l.set k (cH (l.getD k 0) 1),x<18446744073709551616:=by
 intro x b;rcases Il b with a|a
 ·exact h x a
 ·rw[a];exact j3 _ _
def zW{s:Sh}(h:s.Ok)(k:Nat):(k_ s k).Ok:=
 {h with ref:=B5 h.ref k,len:=by show(s.ref.set k _).length=32;rw[Hr];exact h.len}
def x1{g:Ga}{id n:Nat}(h:bP g id n=0):aE g.st<g.c.aB:=(qO (kf h)).2.2.2.1
def wx{s:Sh}(h:s.Ok)(a:s.g.Ok)(b:s.r.Ok){fl id ln:Nat}(hf:fl<4294967296)(hi:id<4294967296)(d:ln<18446744073709551616):(bQ s fl id ln).2.Ok:=by
 unfold bQ;split
 ·rename_i hm;have hp:=nT h.wf (dI s.r s.now fl ln).1 ⟨fl,id,ln⟩;have f:=(kI a (kf hm)).1;have hi:iR s.g fl ln=s.g.lay fl ln:=by unfold iR;rw[Hl hm]
  exact {h with
   wf:=tK h.wf _ _
   fl:=by show(dI _ _ _ _).2.fl=(iR _ _ _).c.av;rw[zU,C9];exact h.fl
   xY:=λi hi=>by
    rcases Ho.1 (hp.mem_iff.1 hi)with e|e
    ·subst e;exact⟨x0 b _ _ _,hf,by assumption,d⟩
    ·exact h.xY i e
   tot:=by
    show((aU (e5 s.bk _ _)).length:Int)<=aE (iR s.g fl ln).st;rw[hp.length_eq,hi,q9 a f,Hs];have:=h.tot
    omega}
 ·exact zW h _
def sn{s:Sh}(h:s.Ok)(b:s.g.Ok):(bO s).2.Ok:=by
 unfold bO;split
 ·exact h
 ·split
  ·exact h
  ·rename_i a f;have e:=pH s.bk
   exact {h with
    tok:=by show s.tok-_<=s.aP;have:=h.tok;omega
    wf:=wu h.wf
    fl:=by show(lz _ _).fl=(fq _ _ _).c.av;rw[zV,zT];exact h.fl
    xY:=λi hi=>h.xY i (List.mem_of_mem_tail (by rw[<-e];exact hi))
    tot:=by
     show((aU (h2 s.bk)).length:Int)<=aE (fq s.g _ _).st;have j:=xZ b (aM s.bk).1.x.cE (aM s.bk).1.x.len;have k:=h.tot;have d:aU s.bk≠ []:=λe=>by unfold aM at a;rw[e]at a;exact a rfl
     have l:=K5.2 d;rw[e,List.length_tail]
     omega}
def Gb(s:Sh)(o:kW):cq (h9 s o).2.bk<=cq s.bk+1:=by
 unfold h9 bQ bO k_;split
 ·split
  ·exact BU _ _ _
  ·exact H4 _
 ·split
  ·split
   ·exact H4 _
   ·split
    ·exact H4 _
    ·show cq (h2 s.bk)<=_;rw[Eg];exact H4 _
  ·split
   ·exact H4 _
   ·split
    ·exact H4 _
    ·split<;>exact H4 _
abbrev eQ(w:World)(f:gg)(b:Sh)(w':World):Prop:=∃a,et w' a b/\Kp f.all w w'/\Nw w f.all a.all/\a.sb=f.sb
def B6{w:World}{f:gg}{s:Sh}(kind:Int)(fl id ln tk:Nat)(h:et w f s)(hm:bP s.g fl ln=0)(hid:fl<4294967296)(N:id<4294967296)(af:ln<18446744073709551616)(hn:cq s.bk<9223372036854775807):
    Calls Tryz.prog 78 #[.pointer (some ⟨f.sb,0,none⟩),.agg #[.int .i64 kind,.int .u32 fl,.int .u32 id,.int .u64 ln,.int .u64 tk]] w λe w'=>e=.returned (.agg (bQ s fl id ln).1.toArray)/\eQ w f (bQ s fl id ln).2 w':=by
 have O:=aa (wx h.ok h.gate.ok h.ranks.ok hid N af);have hq:bQ s fl id ln=(gZ 1 0 fl id ln (dI s.r s.now fl ln).1 gF,{s with g:=iR s.g fl ln,r:=(dI s.r s.now fl ln).2,bk:=e5 s.bk (dI s.r s.now fl ln).1 ⟨fl,id,ln⟩}):=by unfold bQ;rw[Hl hm]
 rw[hq]at O ⊢
 clear hq;have cc:=aa h.ok;have P:=h.ok.now;obtain⟨t5,x5,gu,ge,gp,hv,aR⟩:=h.back.c;have ak:=aa aR;have an:=h.back;rw[hv]at an
 have b6:=aa h.gate;have b7:=aa h.ranks;have Q:=aa an;have cd:=aa h.top;have cf:=h.top.lt;have c0:=h.top.ai;have c1:=h.top.aj;have c5:=h.top.bN;have c6:=h.top.du;have u:=aa h.sg;have q:=aa h.sr;have aS:=aa h.sk;have ao:=aa h.gr;have au:=aa h.gk;have av:=aa h.rk;have aw:=aa (λb a=>h.gate.lt (b:=b) a);have ax:=aa (λb a=>h.ranks.lt (b:=b) a);have az:=aa (λb a=>h.back.lt (b:=b) a);have aT:=h.ok.fl;have y:(aU s.bk).length<s.g.c.aB.toNat:=by have E:=h.ok.tot;have R:=x1 hm;omega
 have aV:0<=findF s.r.fl fl:=by rw[aT];exact(kI h.gate.ok (kf hm)).1
 have aX:=aa (λW (k:eh W f.Fg f.gb s.g)=>by have:=FU k fl ln hid;rw[hm]at this;exact this);have aA:=aa (λW (k:fN W f.Fr f.rb s.r)=>DI k s.now fl ln P af aV);have bK:=aa (λW (F:Nat->Prop) (r:Nat) (hr:r<18446744073709551616) (k:eC W F (.iface t5 x5) s.g.c.aB.toNat s.bk)=>ak.out.push W F _ _ r fl id ln k y hn hr);have aY:=aa h.top;have aZ:=C9 s.g fl ln;have bM:=aa aZ;rw[hv]at c5
 have cg:=aa hv;refine al ?_;intro PP b8;clear h aR hm aT hid N af y hn P an aV aZ hv;obtain⟨sb,gb,rb,v,Fg,Fr,Fb⟩:=f;simp only at*;obtain⟨now,aC⟩:∃now,s.now=now:=⟨_,rfl⟩
 have bO:=aa aC;simp only[aC]at aA c6;clear aC;have aD:=ag.new (w.alloc (.cells #[.int .i64 kind,.int .u32 fl,.int .u32 id,.int .u64 ln,.int .u64 tk] 153)) G9 150;have e1:(w.alloc (.cells #[.int .i64 kind,.int .u32 fl,.int .u32 id,.int .u64 ln,.int .u64 tk] 153)).heap.size=w.heap.size+1:=by simp
 rw[e1]at aD
 have a0:=aa aD;have aE:=ag.new ((w.alloc (.cells #[.int .i64 kind,.int .u32 fl,.int .u32 id,.int .u64 ln,.int .u64 tk] 153)).alloc (.cells G8 150)) [.int .u32 fl,.int .u32 id,.int .u64 ln] 148;have aF:=ag.new (((w.alloc (.cells #[.int .i64 kind,.int .u32 fl,.int .u32 id,.int .u64 ln,.int .u64 tk] 153)).alloc (.cells G8 150)).alloc (.cells #[.int .u32 fl,.int .u32 id,.int .u64 ln] 148)) G9 150;have a1:=((((Kp.refl ae w).alloc (.cells #[.int .i64 kind,.int .u32 fl,.int .u32 id,.int .u64 ln,.int .u64 tk] 153)).alloc (.cells G8 150)).alloc (.cells #[.int .u32 fl,.int .u32 id,.int .u64 ln] 148)).alloc (.cells G8 150);have e2:((w.alloc (.cells #[.int .i64 kind,.int .u32 fl,.int .u32 id,.int .u64 ln,.int .u64 tk] 153)).alloc (.cells G8 150)).heap.size=w.heap.size+2:=by simp
 have e3:(((w.alloc (.cells #[.int .i64 kind,.int .u32 fl,.int .u32 id,.int .u64 ln,.int .u64 tk] 153)).alloc (.cells G8 150)).alloc (.cells #[.int .u32 fl,.int .u32 id,.int .u64 ln] 148)).heap.size=w.heap.size+3:=by simp
 rw[e2]at aE
 rw[e3]at aF
 have a2:=aa aE;have a3:=aa aF;have a4:=aa a1;clear aD aE aF a1 e1 e2 e3;go_enter Tryz.func78,Tryz.ntmps78
 go_wp2_with(first
    |(refine aW rfl 150 (.tmp 6) (.tmp 16) rfl a3.out [.int .i64 1,.int .i64 0,.int .u32 fl,.int .u32 id,.int .u64 ln,.int .u64 0,.int .u64 0,.int .u64 0,.int .i64 0,.int .u64 0,.int .u64 0,.int .u64 0,.int .u64 0,.int .u64 0,.int .u64 0,.int .u64 0,.int .u64 0,.int .u64 0,.int .u64 0,.int .u64 0,.int .u64 0,.int .u64 0,.int .u64 0,.int .u64 0,.int .u64 0,.int .u64 0,.int .u64 0,.int .u64 0,.int .u64 0,.int .u64 0,.int .u64 0,.int .u64 0,.int .u64 0,.int .u64 0,.int .u64 0,.int .u64 0,.int .u64 0,.int .u64 0,.int .u64 0,.int .u64 0,.int .u64 0,.int .u64 0] rfl rfl rfl bj rfl ?_
      intro W4 a5 a6;have a7:=aa a5;have G:=aa a6
      clear a5 a6))
 have aG:Kp ae w W4:=a4.out.then G.out (λb a e=>by omega);have H:=aa ((a2.out.alloc (.cells G8 150)).kp G.out (λe=>by omega));have bR:=aa (((a0.out.alloc (.cells #[.int .u32 fl,.int .u32 id,.int .u64 ln] 148)).alloc (.cells G8 150)).kp G.out (λe=>by omega));have a8:=aa aG;have d0:=aG.cell c0 (λx=>x);have p0:=H.out.ai;have p2:=H.out.aq;clear a0 a2 a3 a4 G aG;go_wp2_with fail;refine ar 8 (by kernel_rfl) (λ_ _ _ _ _ h=>h) ?_;simp only[aO]
 repeat((first
    |refine ay (by rfl) (by as_aux_lemma=>intro W hK;have e0:=hK.cell d0 (λx=>x);have e1:=hK.cell p0 (λx=>x);have e2:=hK.cell p2 (λx=>x);go_simp;exact rfl) ?_
    |refine ah (by rfl) ?_);simp only[Act.put,aH])
 intro W5 A;have aI:=aa (a8.out.trans A);have a9:=aa (H.out.kp A (λx=>x));have a_:=aa (a7.out.kp A (λx=>x));have ba:=aa (b6.out.old aI.out);have bS:=aa (bR.out.kp A (λx=>x));clear A d0 p0 p2 H a7 a8;go_wp2_with fail;refine(aX.out W5 ba.out).mono ?_;rintro e W6 ⟨rfl,bb,B⟩;have t:Kp Fg w W6:=(aI.out.mono (λ_ _ x=>x.elim)).trans B;have bT:=aa t;have i:=aw.out;have be:=aa bb;have I:=aa (a9.out.kp B (λa=>by have:=i _ a;omega));have bf:=aa (a_.out.kp B (λa=>by have:=i _ a;omega));have bU:=aa (bS.out.kp B (λa=>by have:=i _ a;omega));have bg:=aa (b7.out.kp t (λb a hg=>ao.out b hg a));have bh:=aa (Q.out.kp t (λb a hg=>au.out b hg a));have d1:=t.cell c1 u.out;have d6:=t.cell c6 u.out;have p0:=I.out.ai;have p2:=I.out.aq;clear bb B t i aX b6 b7 Q a_ a9 aI ba;have S:=aa (λW (k:Kp ae W6 W)=>aA.out W (bg.out.old k));have l:=ax.out;have aJ:Hid (¬Fr (w.heap.size+2)):=aa (λa=>by have:=l _ a;omega);have bi:Hid (¬Fr (w.heap.size+3)):=aa (λa=>by have:=l _ a;omega);clear l aA bg;generalize bV:(dI s.r now fl ln)=J at*;go_wp2_with fail;have bW:=aa d1;have bX:=aa d6;have b9:=q
 go_region_held3 (λw'=>w'.cell? ⟨sb,1,none⟩=some (.pointer (some ⟨rb,0,none⟩))/\w'.cell? ⟨sb,6,none⟩=some (.int .u64 now)/\w'.cell? ⟨w.heap.size+2,0,none⟩=some (.int .u32 fl)/\w'.cell? ⟨w.heap.size+2,2,none⟩=some (.int .u64 ln)) (first|go_keep|exact⟨m1,m6,m0,m2⟩)
    (first
     |(go_at_call 106;refine(S.out _ (Kp.refl ae W6).drew).mono ?_;rintro e W8 ⟨rfl,bl,bm,bn⟩;have C:=aa (((Kp.refl ae W6).drew.mono (λ_ _ x=>x.elim)).trans bn);have bp:=aa bl;have K:=aa (bf.out.kp C.out bi.out);have b5:=K.out.bN;have bz:=K.out.fz 5;have g1:=C.out.cell d1 q.out;have g6:=C.out.cell d6 q.out;have q0:=C.out.cell p0 aJ.out;have q2:=C.out.cell p2 aJ.out;have ks:Kp (λz=>z=w.heap.size+3) W8 (W8.setCell ⟨w.heap.size+3,5,none⟩ (.int .u64 J.1)):=(Kp.refl (λz=>z=w.heap.size+3) W8).set (p:=⟨w.heap.size+3,5,none⟩) (.inl rfl) _;have m1:=ks.cell g1 (λe=>by simp only at e;omega);have m6:=ks.cell g6 (λe=>by simp only at e;omega);have m0:=ks.cell q0 (λe=>by simp only at e;omega);have m2:=ks.cell q2 (λe=>by simp only at e;omega);have aK:=aa ks;clear bl bn ks))
 have l:=ax.out;have i:=aw.out;have n:=az.out;have bY:=aa (be.out.kp C.out (λb hg hr=>ao.out b hg hr));have bZ:=aa (bh.out.kp C.out (λb a hr=>av.out b hr a));have b0:=aa (I.out.kp C.out aJ.out);have b1:Hid (Kp (λz=>Fg z\/Fr z) w W8):=aa ((bT.out.mono (λb _ h=>.inl h)).trans (C.out.mono (λb _ h=>.inr h)));have bq:=aa ((bU.out.kp C.out (λa=>by have:=l _ a;omega)).kp aK.out (λe=>by omega));have L:=aa (K.out.set 5 (.int .u64 J.1));have aL:=aa (bY.out.kp aK.out (λb a e=>by have:=i b a;omega));have aM:=aa (bp.out.kp aK.out (λb a e=>by have:=l b a;omega));have aN:=aa (bZ.out.kp aK.out (λb a e=>by have:=n b a;omega));have aP:=aa (b0.out.kp aK.out (λe=>by omega));have M:Hid (Kp (λz=>Fg z\/Fr z) w (W8.setCell ⟨w.heap.size+3,5,none⟩ (.int .u64 J.1))):=aa (b1.out.then aK.out (λb a e=>by omega));have d5:=M.out.cell c5 (λh=>h.elim u.out q.out);have br:=aa bm;obtain⟨W9,aQ⟩:∃W9,W8.setCell ⟨w.heap.size+3,5,none⟩ (.int .u64 J.1)=W9:=⟨_,rfl⟩
 rw[aQ]at L bq aL aM aN aP M d5
 rw[show W8.setCell ⟨w.heap.size+1+1+1,5,none⟩ (.int .u64 J.1)=W9 from aQ];have p5:=L.out.bN;have bs:=aa (mh aP.out);clear aQ l i n C bp K aK g1 g6 q0 q2 m1 m6 m0 m2 b5 bz bm S be bh I bf d1 d6 p0 p2 bW bX;go_wp2_with fail;refine ar 7 (by kernel_rfl) (λ_ _ _ _ _ h=>h) ?_;simp only[aO]
 repeat((first
    |refine bc (by exact rfl) (bL rfl rfl bs.out) ?_
    |refine ay (by rfl) (by as_aux_lemma=>intro W hK;have e0:=hK.cell d5 (λx=>x);have e1:=hK.cell p5 (λx=>x);go_simp;exact rfl) ?_
    |refine ah (by rfl) ?_);simp only[Act.put,aH])
 intro bu d;have bv:=ak.out.mu bu;have b2:=ak.out.cu;have T:=aa (bq.out.kp d (λx=>x));have D:=aa (L.out.kp d (λx=>x));have U:=aa (aL.out.old d);have V:=aa (aM.out.old d);have X:=aa (aN.out.old d);have bw:=aa (M.out.trans (d.mono (λ_ _ x=>x.elim)));clear d d5 p5 bs aP L aL aM aN M;go_wp2_with fail;refine(bK.out bu Fb J.1 br.out X.out).mono ?_;rintro e b3 ⟨rfl,F',Y,m,Z⟩;have n:=az.out;have bA:=aa (D.out.kp m (λa=>by have:=n _ a;omega));have bB:=aa (T.out.kp m (λa=>by have:=n _ a;omega));have b4:Hid (Kp (λz=>Fg z\/Fr z\/Fb z) w b3):=aa ((bw.out.mono (λz _ h=>by rcases h with h|h;exact .inl h;exact .inr (.inl h))).trans (m.mono (λz _ h=>.inr (.inr h))));have bC:=aa (U.out.kp m (λz E R=>au.out z E R));have bD:=aa (V.out.kp m (λz E R=>av.out z E R));have bE:=aa Y;have bF:=aa Z;have bG:=aa D.out.lt;clear Y m Z bv b2 D T bw U V X n c0 c1 c5 c6
 go_wp2_with(first
    |(refine wpList_load_mid rfl 150 (.tmp 6) rfl (w.heap.size+3) 0 rfl ([.int .i64 1,.int .i64 0,.int .u32 fl,.int .u32 id,.int .u64 ln,.int .u64 0,.int .u64 0,.int .u64 0,.int .i64 0,.int .u64 0,.int .u64 0,.int .u64 0,.int .u64 0,.int .u64 0,.int .u64 0,.int .u64 0,.int .u64 0,.int .u64 0,.int .u64 0,.int .u64 0,.int .u64 0,.int .u64 0,.int .u64 0,.int .u64 0,.int .u64 0,.int .u64 0,.int .u64 0,.int .u64 0,.int .u64 0,.int .u64 0,.int .u64 0,.int .u64 0,.int .u64 0,.int .u64 0,.int .u64 0,.int .u64 0,.int .u64 0,.int .u64 0,.int .u64 0,.int .u64 0,.int .u64 0,.int .u64 0].set 5 (.int .u64 J.1)) _ (λj v hv=>by rw[HR];exact bA.out.cell j hv) Tryz.underlying150 rfl bj ?_)
    |(refine aW rfl 150 (.tmp 4) (.tmp 58) rfl bB.out ([.int .i64 1,.int .i64 0,.int .u32 fl,.int .u32 id,.int .u64 ln,.int .u64 0,.int .u64 0,.int .u64 0,.int .i64 0,.int .u64 0,.int .u64 0,.int .u64 0,.int .u64 0,.int .u64 0,.int .u64 0,.int .u64 0,.int .u64 0,.int .u64 0,.int .u64 0,.int .u64 0,.int .u64 0,.int .u64 0,.int .u64 0,.int .u64 0,.int .u64 0,.int .u64 0,.int .u64 0,.int .u64 0,.int .u64 0,.int .u64 0,.int .u64 0,.int .u64 0,.int .u64 0,.int .u64 0,.int .u64 0,.int .u64 0,.int .u64 0,.int .u64 0,.int .u64 0,.int .u64 0,.int .u64 0,.int .u64 0].set 5 (.int .u64 J.1)) rfl rfl rfl bj rfl ?_
      intro bH ac ad;have bI:=aa ac;have o:=aa ad
      clear ac ad))
 have i:=aw.out;have l:=ax.out;have n:=az.out;have b_:=bG.out;have bJ:Kp (λz=>Fg z\/Fr z\/Fb z) w bH:=b4.out.then o.out (λz hz e=>by omega);have hF:∀z,F' z->Fb z\/w.heap.size+3<z:=λz hz=>(bF.out z hz).imp_right (λh=>by omega);have e0:dI s.r s.now fl ln=J:=by rw[bO.out];exact bV
 rw[e0]at b8
 refine dk (by exact rfl) bI.out _ Tryz.underlying150 rfl bj (by exact rfl) (b8.out _ _ ⟨rfl,⟨sb,gb,rb,v,Fg,Fr,F'⟩,?_,?_,?_,rfl⟩)
 ·exact {top:=aY.out.kp bJ (λh=>by rcases h with h|h|h;exact u.out h;exact q.out h;exact aS.out h)
         gate:=bC.out.kp o.out (λz hz e=>by have:=i z hz;omega)
         ranks:=bD.out.kp o.out (λz hz e=>by have:=l z hz;omega)
         back:=by
          show eC bH F' v (iR s.g fl ln).c.aB.toNat _;rw[bM.out,cg.out];exact bE.out.kp o.out (λz hz e=>by rcases hF z hz with h|h;(have:=n z h;omega);omega)
         sg:=u.out
         sr:=q.out
         sk:=λh=>by rcases hF _ h with h|h;exact aS.out h;(simp only at h;omega)
         gr:=ao.out
         gk:=λz E R=>by rcases hF z R with h|h;exact au.out z E h;(have:=i z E;omega)
         rk:=λz E R=>by rcases hF z R with h|h;exact av.out z E h;(have:=l z E;omega)
         ok:=by have:=O.out;rw[e0]at this;exact this}
 ·exact bJ.mono (λz _ h=>.inr h)
 ·intro z hz;rcases hz with h|h|h|h
  ·exact .inl (.inl h)
  ·exact .inl (.inr (.inl h))
  ·exact .inl (.inr (.inr (.inl h)))
  ·rcases hF z h with h|h
   ·exact .inl (.inr (.inr (.inr h)))
   ·exact .inr (by omega)
def jB{P:Program}{ops:Array Oper}{o:Oper}{a:Act}{w:World}{K:Act->World->Prop}{Q:Exit->Act->World->Prop}{E:Prop}{f:FuncId}{args:Array Value}{v:Value}
    (b:o.guard=none) (c:(execOp a.eval o).run P w=.ok (.enter f args) w) (d:Calls P f args w λe w'=>e=.returned v/\Kp ae w w') (h:∀w',Kp ae w w'->K (a.put o.dst v) w'):
    if Region.wanted o (yielded ops a.tmps)=true then Oper.wp P o a w K Q else E:=by
 have hw:Region.wanted o (yielded ops a.tmps)=true:=by simp[Region.wanted,b]
 rw[Hl hw];unfold Oper.wp;rw[c];exact d.mono λe w' ⟨g,i⟩=>by subst g;exact h w' i
def x3{w:World}{f:gg}{s:Sh}{r fl id ln:Nat}(h:et w f s)(o:od w f.all)(hp:aM s.bk=(⟨r,⟨fl,id,ln⟩⟩,false)):
    Calls Tryz.prog 79 #[.pointer (some ⟨f.sb,0,none⟩)] w λe w'=>e=.returned (.agg (bO s).1.toArray)/\eQ w f (bO s).2 w':=by
 have hq:bO s=(gZ 2 18 0 0 0 0 gF,s):=by unfold bO;rw[hp];rfl
 have A:=aa (sn h.ok h.gate.ok);rw[hq]at A ⊢
 clear hq;have bc:=aa h.ok;obtain⟨t5,x5,gu,ge,gp,S,U⟩:=h.back.c;have H:=aa U;have I:=h.back;rw[S]at I
 have ba:=aa h.gate;have bb:=aa h.ranks;have B:=aa I;have be:=h.top.lt;have c0:=h.top.ai;have c1:=h.top.aj;have c2:=h.top.aq;have c3:=h.top.aK;have c4:=h.top.a_;have c5:=h.top.bN;have C:=aa h.top;have aP:=aa h.sg;have aQ:=aa h.sr;have V:=aa h.sk;have aR:=aa h.gr;have X:=aa h.gk;have Y:=aa h.rk;have aS:=aa (λb m=>h.gate.lt (b:=b) m);have aT:=aa (λb m=>h.ranks.lt (b:=b) m);have Z:=aa (λb m=>h.back.lt (b:=b) m);have aU:0<w.heap.size:=Iy w _ (o.tab 0 (by decide));have aV:=aa (λW (F:Nat->Prop) (k:eC W F (.iface t5 x5) s.g.c.aB.toNat s.bk) (kk:Kp ae w W) (hF:∀z,F z->f.Fb z)=>by have:=H.out.nU W F _ _ k ⟨o.tab.kp kk (λx=>x),λe=>o.ne (.inr (.inr (.inr (hF _ e))))⟩;rw[hp]at this;exact this);rw[S]at c5
 have bf:=aa S;refine al ?_;intro PP bg;clear h U hp I S o aU;obtain⟨sb,gb,rb,v,Fg,Fr,Fb⟩:=f;simp only at*;have ac:=ag.new w G9 150;have ad:=aa ac;have J:=ag.new (w.alloc (.cells G8 150)) G9 150;have e1:(w.alloc (.cells G8 150)).heap.size=w.heap.size+1:=by simp
 rw[e1]at J
 have af:=aa J;have ah:=aa (((Kp.refl ae w).alloc (.cells G8 150)).alloc (.cells G8 150));clear ac J e1;go_enter Tryz.func79,Tryz.ntmps79
 go_wp2_with(first
    |(refine aW rfl 150 (.tmp 3) (.tmp 8) rfl af.out G_ rfl rfl rfl bj rfl ?_
      intro W2 ak an;have K:=aa ak;have L:=aa an;clear ak an;have q:Kp ae w W2:=ah.out.then L.out (λb m e=>by omega);have ao:=aa ((ad.out.alloc (.cells G8 150)).kp L.out (λe=>by omega));have M:=aa q;have d5:=q.cell c5 (λx=>x);have ar:=H.out.me W2;have aX:=H.out.ce;have au:=aa (B.out.old q);have aY:=K.out.lt
      clear ad af ah L q))
 refine(aV.out W2 Fb au.out M.out (λ_ h=>h)).mono ?_;rintro e n ⟨rfl,F3,av,d,aw⟩;have ax:Hid (∀z,F3 z->Fb z\/w.heap.size+1<z):=aa (λz hz=>(aw z hz).imp_right (λh=>by omega));have i:=Z.out;have N:=aa (K.out.kp d (λm=>by have:=i _ m;omega));have ay:=aa (ao.out.kp d (λm=>by have:=i _ m;omega));have l:Kp Fb w n:=(M.out.mono (λ_ _ x=>x.elim)).trans d;have az:=aa (C.out.kp l V.out);have aA:=aa (ba.out.kp l (λz t O=>X.out z t O));have aC:=aa (bb.out.kp l (λz t O=>Y.out z t O));have P:=aa av;have aD:=aa l;have aZ:=N.out.lt;have aE:=d.size;clear av d aw ar aX d5 i K ao M au ba bb B C aY c0 c1 c2 c3 c4 c5 l;go_upto_region 3 with fail;have u:Kp ae n (n.alloc (.cells #[.int .u32 fl,.int .u32 id,.int .u64 ln] 148)):=(Kp.refl ae n).alloc _;have Q:ag (n.alloc (.cells #[.int .u32 fl,.int .u32 id,.int .u64 ln] 148)) n.heap.size [.int .u32 fl,.int .u32 id,.int .u64 ln] 148:=ag.new n _ _;obtain⟨T,aF⟩:∃T,n.alloc (.cells #[.int .u32 fl,.int .u32 id,.int .u64 ln] 148)=T:=⟨_,rfl⟩
 rw[aF]at u Q ⊢
 have D:=aa Q;have R:=aa (N.out.kp u (λx=>x));have a0:=aa (ay.out.kp u (λx=>x));have a1:=aa (az.out.kp u (λx=>x));have a2:=aa (aA.out.old u);have a3:=aa (aC.out.old u);have a4:=aa (P.out.old u);have a5:=aa (aD.out.trans (u.mono (λ_ _ x=>x.elim)));have a6:=D.out.lt;have aG:Hid (∀z,F3 z->z<n.heap.size):=aa (λz hz=>P.out.lt hz);obtain⟨pb,aH⟩:∃pb,n.heap.size=pb:=⟨_,rfl⟩
 rw[aH]at D aG aZ aE a6 ⊢
 clear aF u Q N ay az aA aC P aD aH;have b1:=R.out.aj;have bz:=R.out.fz 1;have a7:=aa (R.out.set 1 (.int .i64 18));have ks:Kp (λz=>z=w.heap.size+1) T (T.setCell ⟨w.heap.size+1,1,none⟩ (.int .i64 18)):=(Kp.refl (λz=>z=w.heap.size+1) T).set (p:=⟨w.heap.size+1,1,none⟩) (.inl rfl) _;have a8:=aa (a0.out.kp ks (λe=>by omega));have bh:=aa ks;clear ks
 go_wp2_with(first
    |(refine wpList_load_mid rfl 150 (.tmp 3) rfl (w.heap.size+1) 0 rfl (G_.set 1 (.int .i64 18)) _ (λj v S=>by rw[HR];exact a7.out.cell j S) Tryz.underlying150 rfl bj ?_)
    |(refine aW rfl 150 (.tmp 2) (.tmp 21) rfl a8.out (G_.set 1 (.int .i64 18)) rfl rfl rfl bj rfl ?_
      intro aI E G;have aJ:=aa E;have aL:=aa G
      clear E G))
 have a:Kp (λz=>w.heap.size<=z/\z<=w.heap.size+1) T aI:=(bh.out.mono (λz _ e=>by omega)).trans (aL.out.mono (λz _ e=>by omega));have y:∀z,F3 z->Fb z\/w.heap.size<=z:=λz hz=>(ax.out z hz).imp_right (λh=>by omega);have aN:=aS.out;have aO:=aT.out;have i:=Z.out;have a9:=ax.out;refine dk (by exact rfl) aJ.out _ Tryz.underlying150 rfl bj (by exact rfl) (bg.out _ _ ⟨rfl,⟨sb,gb,rb,v,Fg,Fr,F3⟩,?_,?_,?_,rfl⟩)
 ·exact {top:=a1.out.kp a (λh=>by omega)
         gate:=a2.out.kp a (λz hz h=>by have:=aN z hz;omega)
         ranks:=a3.out.kp a (λz hz h=>by have:=aO z hz;omega)
         back:=by
          show eC aI F3 v s.g.c.aB.toNat _;rw[bf.out];exact a4.out.kp a (λz hz h=>by rcases a9 z hz with h'|h';(have:=i z h';omega);omega)
         sg:=aP.out
         sr:=aQ.out
         sk:=λh=>by rcases y _ h with h|h;exact V.out h;(simp only at h;omega)
         gr:=aR.out
         gk:=λz t O=>by rcases y z O with h|h;exact X.out z t h;(have:=aN z t;omega)
         rk:=λz t O=>by rcases y z O with h|h;exact Y.out z t h;(have:=aO z t;omega)
         ok:=A.out}
 ·exact(a5.out.then a (λz hz h=>by omega)).mono (λz _ h=>.inr (.inr (.inr h)))
 ·intro z hz;rcases hz with h|h|h|h
  ·exact .inl (.inl h)
  ·exact .inl (.inr (.inl h))
  ·exact .inl (.inr (.inr (.inl h)))
  ·rcases y z h with h|h
   ·exact .inl (.inr (.inr (.inr h)))
   ·exact .inr (by omega)
def x4{w:World}{f:gg}{s:Sh}{r fl id ln:Nat}(h:et w f s)(D:od w f.all)(hp:aM s.bk=(⟨r,⟨fl,id,ln⟩⟩,true))(P:s.tok<ln):
    Calls Tryz.prog 79 #[.pointer (some ⟨f.sb,0,none⟩)] w λe w'=>e=.returned (.agg (bO s).1.toArray)/\eQ w f (bO s).2 w':=by
 have hq:bO s=(gZ 2 19 0 0 0 0 gF,s):=by unfold bO;rw[hp,Hk (λe=>Bool.noConfusion e),Hl P]
 have K:=aa (sn h.ok h.gate.ok);rw[hq]at K ⊢
 clear hq;have bK:=aa h.ok;obtain⟨t5,x5,gu,ge,gp,hv,ak⟩:=h.back.c;have Q:=aa ak;have R:=h.back;rw[hv]at R
 have bG:=aa h.gate;have bH:=aa h.ranks;have L:=aa R;have bL:=h.top.lt;have c0:=h.top.ai;have c1:=h.top.aj;have c2:=h.top.aq;have c3:=h.top.aK;have c4:=h.top.a_;have c5:=h.top.bN;have l:=aa h.top;have a9:=aa h.sg;have ba:=aa h.sr;have an:=aa h.sk;have bb:=aa h.gr;have ao:=aa h.gk;have ar:=aa h.rk;have bc:=aa (λb B=>h.gate.lt (b:=b) B);have be:=aa (λb B=>h.ranks.lt (b:=b) B);have au:=aa (λb B=>h.back.lt (b:=b) B);have bf:0<w.heap.size:=Iy w _ (D.tab 0 (by decide));have bg:=aa (λW (F:Nat->Prop) (k:eC W F (.iface t5 x5) s.g.c.aB.toNat s.bk) (kk:Kp ae w W) (hF:∀z,F z->f.Fb z)=>by have:=Q.out.nU W F _ _ k ⟨D.tab.kp kk (λx=>x),λe=>D.ne (.inr (.inr (.inr (hF _ e))))⟩;rw[hp]at this;exact this);rw[hv]at c5
 have bM:=aa hv;obtain⟨ax,E⟩:∃x,s.ax=x:=⟨_,rfl⟩
 obtain⟨aP,n⟩:∃x,s.aP=x:=⟨_,rfl⟩
 obtain⟨tok,o⟩:∃x,s.tok=x:=⟨_,rfl⟩
 have S:Hid (∀W,Calls Tryz.prog 107 #[.agg #[.int .u64 ax,.int .u64 aP,.int .u64 tok],.int .u64 ln] W λe w'=>e=.returned (.tuple #[.agg #[.int .u64 ax,.int .u64 aP,.int .u64 tok],.bool false])/\Kp ae W w'):=aa (λW=>yS ax aP tok ln (by rw[<-E];exact h.ok.ax.1) (by rw[<-n];exact h.ok.aP.1) (by rw[<-o,<-n];exact h.ok.tok) (by rw[<-o];exact P) W);unfold h8 at l;rw[E,n,o]at l
 refine al ?_;intro PP bP;have bh:Hid (∀f:gg,h8 s f=[.pointer (some ⟨f.gb,0,none⟩),.pointer (some ⟨f.rb,0,none⟩),.int .u64 ax,.int .u64 aP,.int .u64 tok,f.v,.int .u64 s.now]++s.ref.map e0):=aa (λf=>by unfold h8;rw[E,n,o]);clear h ak hp R hv D bf E n o P;obtain⟨sb,gb,rb,v,Fg,Fr,Fb⟩:=f;simp only at*;have av:=ag.new w G9 150;have aw:=aa av;have T:=ag.new (w.alloc (.cells G8 150)) G9 150;have e1:(w.alloc (.cells G8 150)).heap.size=w.heap.size+1:=by simp
 rw[e1]at T
 have ay:=aa T;have az:=aa (((Kp.refl ae w).alloc (.cells G8 150)).alloc (.cells G8 150));clear av T e1;go_enter Tryz.func79,Tryz.ntmps79
 go_wp2_with(first
    |(refine aW rfl 150 (.tmp 3) (.tmp 8) rfl ay.out G_ rfl rfl rfl bj rfl ?_
      intro W2 aA aC;have U:=aa aA;have V:=aa aC;clear aA aC;have G:Kp ae w W2:=az.out.then V.out (λb B e=>by omega);have aD:=aa ((aw.out.alloc (.cells G8 150)).kp V.out (λe=>by omega));have X:=aa G;have d5:=G.cell c5 (λx=>x);have aE:=Q.out.me W2;have bi:=Q.out.ce;have aF:=aa (L.out.old G);have bl:=U.out.lt
      clear aw ay az V G))
 refine(bg.out W2 Fb aF.out X.out (λ_ h=>h)).mono ?_;rintro e C ⟨rfl,F3,aG,q,aH⟩;have aI:Hid (∀z,F3 z->Fb z\/w.heap.size+1<z):=aa (λz hz=>(aH z hz).imp_right (λh=>by omega));have t:=au.out;have Y:=aa (U.out.kp q (λB=>by have:=t _ B;omega));have aJ:=aa (aD.out.kp q (λB=>by have:=t _ B;omega));have u:Kp Fb w C:=(X.out.mono (λ_ _ x=>x.elim)).trans q;have aL:=aa (l.out.kp u an.out);have aN:=aa (bG.out.kp u (λz H Z=>ao.out z H Z));have aO:=aa (bH.out.kp u (λz H Z=>ar.out z H Z));have ac:=aa aG;have aQ:=aa u;have bm:=Y.out.lt;have aR:=q.size;clear aG q aH aE bi d5 t U aD X aF bG bH L l bl c0 c1 c2 c3 c4 c5 u;go_upto_region 3 with fail;have I:Kp ae C (C.alloc (.cells #[.int .u32 fl,.int .u32 id,.int .u64 ln] 148)):=(Kp.refl ae C).alloc _;have ad:ag (C.alloc (.cells #[.int .u32 fl,.int .u32 id,.int .u64 ln] 148)) C.heap.size [.int .u32 fl,.int .u32 id,.int .u64 ln] 148:=ag.new C _ _;obtain⟨y,aS⟩:∃y,C.alloc (.cells #[.int .u32 fl,.int .u32 id,.int .u64 ln] 148)=y:=⟨_,rfl⟩
 rw[aS]at I ad ⊢
 have d:=aa ad;have aT:=aa (Y.out.kp I (λx=>x));have aU:=aa (aJ.out.kp I (λx=>x));have m:=aa (aL.out.kp I (λx=>x));have aV:=aa (aN.out.old I);have aX:=aa (aO.out.old I);have aY:=aa (ac.out.old I);have aZ:=aa (aQ.out.trans (I.mono (λ_ _ x=>x.elim)));have bn:=d.out.lt;have a0:Hid (∀z,F3 z->z<C.heap.size):=aa (λz hz=>ac.out.lt hz);obtain⟨pb,a1⟩:∃pb,C.heap.size=pb:=⟨_,rfl⟩
 rw[a1]at d a0 bm aR bn ⊢
 clear aS I ad Y aJ aL aN aO ac aQ a1;have d2:=m.out.aq;have d3:=m.out.aK;have d4:=m.out.a_;have p2:=d.out.aq;have bp:=aa d2;have bq:=aa d3;have br:=aa d4;have bs:=aa p2;go_wp2_with fail;have bI:=m.out.lt;go_cut [6,7]from 22 (λs6 s7 wc=>∃qb,Hid (y.heap.size<=qb)/\s6=.bool false/\s7=.pointer (some ⟨qb,0,none⟩)/\Hid (ag wc qb [.int .u64 ax,.int .u64 aP,.int .u64 tok] 172)/\Hid (Kp ae y wc))
 case first=>
  go_region_law (first
   |(refine jB (w:=(y.drew.alloc (.cells #[.int .u64 0,.int .u64 0,.int .u64 0] 172))) rfl (by go_simp) (S.out _) ?_;intro w6 A;have hB:ag w6 y.heap.size [.int .u64 0,.int .u64 0,.int .u64 0] 172:=(ag.new y.drew [.int .u64 0,.int .u64 0,.int .u64 0] 172).kp A (λx=>x);have n0:=hB.ai;have n1:=hB.aj;have n2:=hB.aq;have nz:=λj=>hB.fz j)
   |(refine jB (w:=y.drew) rfl (by go_simp) (S.out _) ?_;intro w6 A))
  all_goals
   go_wp2_with fail;go_meet
   case rel=>
    first
     |exact⟨w6.heap.size,aa A.size,rfl,rfl,aa (ag.new w6 _ _),aa (((Kp.refl ae y).drew.trans A).alloc _)⟩
     |exact⟨y.heap.size,aa (Hm _),rfl,rfl,aa (((hB.set 0 _).set 1 _).set 2 _),aa (((((((Kp.refl ae y).drew.alloc _).trans A)).set (.inr (Hm _)) _).set (.inr (Hm _)) _).set (.inr (Hm _)) _)⟩
 case rest=>
 obtain⟨qb,a2,rfl,rfl,af,M⟩:=hcut;have a:=M.out;have bQ:=a2.out;obtain⟨W7,a3⟩:∃W7,wc=W7:=⟨_,rfl⟩
 rw[a3]at af a ⊢
 have bR:=af;have bJ:=aa (d.out.kp a (λx=>x));have ah:=aa (aT.out.kp a (λx=>x));have bu:=aa (aU.out.kp a (λx=>x));have bv:=aa (m.out.kp a (λx=>x));have bw:=aa (aV.out.old a);have bA:=aa (aX.out.old a);have bB:=aa (aY.out.old a);have bC:=aa (aZ.out.trans (a.mono (λ_ _ x=>x.elim)));clear a3 M a2 af a d2 d3 d4 p2 bp bq br bs d aT aU m aV aX aY aZ S;have b1:=ah.out.aj;have bz:=ah.out.fz 1;have bD:=aa (ah.out.set 1 (.int .i64 19));have ks:Kp (λz=>z=w.heap.size+1) W7 (W7.setCell ⟨w.heap.size+1,1,none⟩ (.int .i64 19)):=(Kp.refl (λz=>z=w.heap.size+1) W7).set (p:=⟨w.heap.size+1,1,none⟩) (.inl rfl) _;have bE:=aa (bu.out.kp ks (λe=>by omega));have bS:=aa ks;clear ks
 go_wp2_with(first
    |(refine wpList_load_mid rfl 150 (.tmp 3) rfl (w.heap.size+1) 0 rfl (G_.set 1 (.int .i64 19)) _ (λj v hv=>by rw[HR];exact bD.out.cell j hv) Tryz.underlying150 rfl bj ?_)
    |(refine aW rfl 150 (.tmp 2) (.tmp 35) rfl bE.out (G_.set 1 (.int .i64 19)) rfl rfl rfl bj rfl ?_
      intro a4 N O;have a5:=aa N;have a6:=aa O
      clear N O))
 have i:Kp (λz=>w.heap.size<=z/\z<=w.heap.size+1) W7 a4:=(bS.out.mono (λz _ e=>by omega)).trans (a6.out.mono (λz _ e=>by omega));have J:∀z,F3 z->Fb z\/w.heap.size<=z:=λz hz=>(aI.out z hz).imp_right (λh=>by omega);have a7:=bc.out;have a8:=be.out;have t:=au.out;have bF:=aI.out;refine dk (by exact rfl) a5.out _ Tryz.underlying150 rfl bj (by exact rfl) (bP.out _ _ ⟨rfl,⟨sb,gb,rb,v,Fg,Fr,F3⟩,?_,?_,?_,rfl⟩)
 ·exact {top:=by rw[bh.out];exact bv.out.kp i (λh=>by omega)
         gate:=bw.out.kp i (λz hz h=>by have:=a7 z hz;omega)
         ranks:=bA.out.kp i (λz hz h=>by have:=a8 z hz;omega)
         back:=by
          show eC a4 F3 v s.g.c.aB.toNat _;rw[bM.out];exact bB.out.kp i (λz hz h=>by rcases bF z hz with h'|h';(have:=t z h';omega);omega)
         sg:=a9.out
         sr:=ba.out
         sk:=λh=>by rcases J _ h with h|h;exact an.out h;(simp only at h;omega)
         gr:=bb.out
         gk:=λz H Z=>by rcases J z Z with h|h;exact ao.out z H h;(have:=a7 z H;omega)
         rk:=λz H Z=>by rcases J z Z with h|h;exact ar.out z H h;(have:=a8 z H;omega)
         ok:=K.out}
 ·exact(bC.out.then i (λz hz h=>by omega)).mono (λz _ h=>.inr (.inr (.inr h)))
 ·intro z hz;rcases hz with h|h|h|h
  ·exact .inl (.inl h)
  ·exact .inl (.inr (.inl h))
  ·exact .inl (.inr (.inr (.inl h)))
  ·rcases J z h with h|h
   ·exact .inl (.inr (.inr (.inr h)))
   ·exact .inr (by omega)
end
end Go.Proofs.YtincjochpkdnfaaGreatDoor
